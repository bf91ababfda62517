/- Part 30 of the proof of lawSpec.card: OrdRefD. Conditions: those of each theorem. -/
import Derived.Test.YtanhhdndgkhcfaaGreatDoorSp01
import Derived.Test.YtanhhdndgkhcfaaGreatDoorSp28
import Derived.Test.YtanhhdndgkhcfaaGreatDoorSp29
set_option maxRecDepth 20000
set_option maxHeartbeats 8000000
namespace Go.Proofs.YtanhhdndgkhcfaaGreatDoor
open Go Go.Proofs Go.RowKit
attribute [local go_sem] Oper.semAt_some
attribute [local go_sem ↓] run_eql_rat' run_neq_rat'
theorem all_take_succ{α:Type} {l:List α} {k:Nat} {x:α} (f:α->Bool) (h:l[k]? = some x):(l.take (k+1)).all f=((l.take k).all f && f x):=by
 obtain⟨hlt,rfl⟩:=List.getElem?_eq_some_iff.1 h;rw[List.take_succ_eq_append_getElem hlt,List.all_append];simp
section
variable {rs:List Rc} {lo hi:List Rv} {cs:List Cl} {rp lp hp cp:Option Addr} {rc lc hc cc:Nat} {W:World}
theorem lDue_bad(h:OIn W rs lo hi cs rp lp hp cp rc lc hc cc) {ev:Int} (he:ordE rs lo hi cs=ev) (h0:ev≠0) (no:Nat) (po:Option Addr) (co:Nat) :
  Calls Tryz.prog 25 #[.agg #[.slice rp rs.length rc,.slice lp lo.length lc,.slice hp hi.length hc],.slice cp cs.length cc,.slice po no co] W fun e w'=>e=.returned (.int .i64 ev)/\Turned (fun _=>False) W w':=by
 have HC:=zh (fun A (hA:Turned (fun _=>False) W A)=>lLimits_bad (h.on hA) he h0)
 obtain⟨nr,hnr⟩ : ∃n,rs.length=n:=⟨_,rfl⟩;obtain⟨nl,hnl⟩ : ∃n,lo.length=n:=⟨_,rfl⟩;obtain⟨nh,hnh⟩ : ∃n,hi.length=n:=⟨_,rfl⟩;obtain⟨nc,hnc⟩ : ∃n,cs.length=n:=⟨_,rfl⟩;rw[hnr,hnl,hnh,hnc] at HC ⊢;have g2:(ev == 0)=false:=by simpa using h0
 have g3:(ev != 0)=true:=by simpa using h0
 have T0:=zh ((zr W).alloc (.cells #[.slice rp nr rc,.slice lp nl lc,.slice hp nh hc] 25 (0,0)));clear h he h0 hnr hnl hnh hnc;go_enter Tryz.func25,Tryz.ntmps25;go_wp2_with fail;refine(HC.out _ T0.out).mono ?_;rintro e w1 ⟨rfl,t1⟩;have HT1:=zh ((T0.out.trans t1).alloc (.cells #[.slice none 0 0,.slice none 0 0,.int .i64 ev] 37 (0,0)));clear t1;go_wp2_with fail;go_ret;exact⟨rfl,HT1.out⟩
theorem lDue_ok(h:OIn W rs lo hi cs rp lp hp cp rc lc hc cc) (he:ordE rs lo hi cs=0) (hn8:rs.length<=8) (hm12:cs.length<=12) (os:List Or) (po:Option Addr) (co:Nat) (ho:At W.heap.size W 4 orderCells os po co) (so:∀o∈os,SzR o.limit 20) :
  Calls Tryz.prog 25 #[.agg #[.slice rp rs.length rc,.slice lp lo.length lc,.slice hp hi.length hc],.slice cp cs.length cc,.slice po os.length co] W fun e w'=>e=.returned (.int .i64 (dueE cs.length (takesR rs cs hi) os))/\Turned (fun _=>False) W w':=by
 have HC:=zh (fun A (hA:Turned (fun _=>False) W A)=>lLimits_ok (h.on hA) he hn8 hm12)
 have htl:(takesR rs cs hi).length=cs.length:=repL_len _ _;obtain⟨tl,htq⟩ : ∃t,takesR rs cs hi=t:=⟨_,rfl⟩;obtain⟨nr,hnr⟩ : ∃n,rs.length=n:=⟨_,rfl⟩;obtain⟨nl,hnl⟩ : ∃n,lo.length=n:=⟨_,rfl⟩;obtain⟨nh,hnh⟩ : ∃n,hi.length=n:=⟨_,rfl⟩;obtain⟨nc,hnc⟩ : ∃n,cs.length=n:=⟨_,rfl⟩;obtain⟨no,hno⟩ : ∃n,os.length=n:=⟨_,rfl⟩;have mo:(no:Int)<=9223372036854775807:=by have:=ho.len;unfold maxLen at this;omega
 rw[hnr,hnl,hnh,hnc,htq] at HC;rw[htq] at htl;rw[hnc] at htl hm12;rw[hnr,hnl,hnh,hnc,htq,hno];obtain⟨dv,hdv⟩ : ∃v,dueE nc tl os=v:=⟨_,rfl⟩;have HV:Hid (dv=if fineO nc os=true then(if dueB tl os=true then 0 else 22) else 1):=zh (by rw[<- hdv];rfl)
 rw[hdv];have HTL:=zh htl;have HNO:=zh hno;have HO:=zh ho;have HSO:=zh so;obtain⟨dueF,hdf⟩ : ∃f:Or->Bool,(fun o:Or=>decide (qR (tl.getD o.claim.toNat zeroR)<=qR o.limit))=f:=⟨_,rfl⟩
 have HDF:Hid (∀o,dueF o=decide (qR (tl.getD o.claim.toNat zeroR)<=qR o.limit)):=zh fun o=>by rw[<- hdf]
 have HDB:Hid (dueB tl os=os.all dueF):=zh (by rw[<- hdf];rfl)
 have T0:=zh ((zr W).alloc (.cells #[.slice rp nr rc,.slice lp nl lc,.slice hp nh hc] 25 (0,0)));have hmx:(nc:Int)<=12:=by omega
 clear h he hnr hnl hnh hnc hno hn8 hm12 htl htq hdv ho so hdf;go_enter Tryz.func25,Tryz.ntmps25;go_wp2_with fail;refine(HC.out _ T0.out).mono ?_;rintro e w0 ⟨p1,c1,p2,c2,rfl,hfr,ha,hb,hsz,t1⟩;have HT0:=zh (T0.out.trans t1);have HTK:=zh hb;have HSZ:=zh (fun u hu=>hsz u (Or.inr hu))
 clear t1 hfr ha hb hsz HC T0;obtain⟨w1,hw1⟩ : ∃w,w=w0.alloc (.cells #[.slice p1 nc c1,.slice p2 nc c2,.int .i64 0] 37):=⟨_,rfl⟩;have HX0:=zh (show w1.heap[w0.heap.size]? = some (.cells #[.slice p1 nc c1,.slice p2 nc c2,.int .i64 0] 37 (0,0)) from by rw[hw1];exact World.alloc_heap_new _ _)
 have T1:=(zr w0).alloc (.cells #[.slice p1 nc c1,.slice p2 nc c2,.int .i64 0] 37);rw[<- hw1] at T1;have HT1:=zh (HT0.out.trans T1);have HTK1:=zh (HTK.out.turned T1);clear T1 HT0 HTK;go_wp2_with fail;rw[<- hw1];clear hw1;obtain⟨X,hX⟩ : ∃X,w0.heap.size=X:=⟨_,rfl⟩;rw[hX] at HX0 ⊢;clear hX;obtain⟨y0,y1,y2,-,-,-⟩:=box3 HX0.out;go_wp2_with fail;clear y0 y1 y2
 go_loopw [8,9] (fun d i wr=>∃k:Nat,k<=no/\i=(.int .i64 k)/\d=.bool ((os.take k).all dueF)/\Hid (Turned (fun _=>False) w1 wr/\∀i,i < k->badO nc (lastOf os i) (os.getD i noOr)=false)) (fun _ i _=>no-(intOf i).toNat)
 case atStart=>exact⟨0,Nat.zero_le _,rfl,rfl,zh ⟨Turned.refl _ _,fun i hi=>by omega⟩⟩
 case round =>
  obtain⟨k,hk,rfl,rfl,HI⟩:=hrel;by_cases hlt:k < no
  ·have hx:os[k]? = some (os[k]'(by rw[HNO.out];exact hlt)):=List.getElem?_eq_getElem _
   obtain⟨⟨ok,⟨un,ux,ud⟩⟩,hxe⟩ : ∃u,os[k]'(by rw[HNO.out];exact hlt)=u:=⟨_,rfl⟩
   rw[hxe] at hx;have HX:=zh hx;have HATK:=zh (HO.out.turned (HT1.out.trans HI.out.1));obtain⟨b,a,rfl,hbN,e0,e1,e2,e3⟩:=HATK.out.orders hx;have hvl:=HSO.out _ (List.mem_of_getElem? hx);have HVAL:=zh (fun W=>pValid_any ⟨un,ux,ud⟩ W (Nat.le_trans hvl.1 (by decide)) (Nat.le_trans hvl.2 (by decide)))
   have HVL:=zh hvl;obtain⟨vv,hvv⟩ : ∃v,decide (validR ⟨un,ux,ud⟩)=v:=⟨_,rfl⟩;rw[hvv] at HVAL;have hk0:(0:Int)<=k:=by omega
   have hk1:(k:Int) < no:=by omega
   have TA:=(zr wr).alloc (.cells #[.int .i64 ok,.bool un,.string ux,.string ud] 70);have HTA:=zh (HI.out.1.trans TA);have nA:=zh (World.alloc_heap_new wr (.cells #[.int .i64 ok,.bool un,.string ux,.string ud] 70));obtain⟨lk,hlk⟩ : ∃l,lastOf os k=l:=⟨_,rfl⟩;have hlm : -1<=lk:=by rw[<- hlk];exact fine_from HI.out.2 k (Nat.le_refl _)
   have HBO:Hid (badO nc (lastOf os k) (os.getD k noOr)=((decide (ok<=lk) || decide ((nc:Int)<=ok)) || !(vv && !un))):=zh (by
    rw[getD_of hx,hlk,<- hvv];rfl)
   have HNX:Hid (lastOf os (k+1)=ok):=zh (by
    show(os.getD k noOr).claim=ok;rw[getD_of hx])
   have HBAD:Hid (badO nc (lastOf os k) (os.getD k noOr)=true->dv=1):=zh fun hb=>by
    rw[HV.out,if_neg];rw[fineO_of];intro hf;rw[hf k (by rw[HNO.out];exact hlt)] at hb
    cases hb
   have HAS:=zh (all_take_succ dueF hx);have hpv:(k=0/\lk = -1)\/(0 < k/\wr.cell? ⟨b,a+(k-1)*4,none⟩=some (.int .i64 lk)):=by
    rcases Nat.eq_zero_or_pos k with h0 | h0
    ·refine .inl ⟨h0,?_⟩;rw[<- hlk,h0];rfl
    ·refine .inr ⟨h0,?_⟩;obtain⟨j,rfl⟩ : ∃j,k=j+1:=⟨k-1,by omega⟩
     obtain⟨v,hv⟩ : ∃v,os[j]? = some v:=⟨_,List.getElem?_eq_getElem (by rw[HNO.out];omega)⟩
     obtain⟨b2,a2,he2,-,f0,-⟩:=HATK.out.orders hv;cases he2
     rw[Nat.add_sub_cancel,<- hlk,show lastOf os (j+1)=v.claim from by show(os.getD j noOr).claim=_;rw[getD_of hv]]
     exact f0
   have HPV:=zh hpv;clear hx hxe hvl hvv TA hpv hbN hlk;go_wp2_with fail;refine(HVAL.out _).mono ?_;rintro e w5 ⟨rfl,t5⟩;have HT5:=zh (HTA.out.trans t5);have HU5:=zh (((zr wr).alloc (.cells #[.int .i64 ok,.bool un,.string ux,.string ud] 70)).trans t5);have HN5:=zh (keepB t5 nA.out);clear t5 e0 e1 e2 e3 HVAL;obtain⟨z0,z1,z2,z3,-,-,-,-⟩:=box4 HN5.out
   go_upto_region 10 with fail
   by_cases g1:ok < 0
   ·have HD:Hid (dv=1):=zh (HBAD.out (by rw[HBO.out,decide_eq_true (by omega:ok<=lk)];rfl))
    go_quiet (fail)
    have HQ:=zh (HT5.out.trans (drewN_turned (fun _=>False) w5 nq))
    go_wp2_with fail;go_ret;rw[HD.out];exact⟨rfl,HT1.out.trans HQ.out⟩
   by_cases g2:(nc:Int)<=ok
   ·have HD:Hid (dv=1):=zh (HBAD.out (by rw[HBO.out,decide_eq_true g2,Bool.or_true];rfl))
    go_quiet (fail)
    have HQ:=zh (HT5.out.trans (drewN_turned (fun _=>False) w5 nq))
    go_wp2_with fail;go_ret;rw[HD.out];exact⟨rfl,HT1.out.trans HQ.out⟩
   rcases HPV.out with⟨k0,l0⟩ | ⟨k0,c0⟩
   ·have hk2:¬(0:Int) < k:=by omega
    have hk3:k=0:=k0;subst hk3;have g3:¬ok<=lk:=by omega
    clear l0;cases vv
    ·have HD:Hid (dv=1):=zh (HBAD.out (by rw[HBO.out];simp))
     go_quiet (fail)
     have HQ:=zh (HT5.out.trans (drewN_turned (fun _=>False) w5 nq))
     go_wp2_with fail;go_ret;rw[HD.out];exact⟨rfl,HT1.out.trans HQ.out⟩
    cases un
    rotate_left
    ·have HD:Hid (dv=1):=zh (HBAD.out (by rw[HBO.out];simp))
     go_quiet (fail)
     have HQ:=zh (HT5.out.trans (drewN_turned (fun _=>False) w5 nq))
     go_wp2_with fail;go_ret;rw[HD.out];exact⟨rfl,HT1.out.trans HQ.out⟩
    ·have HG:Hid (badO nc (lastOf os (0)) (os.getD (0) noOr)=false):=zh (by rw[HBO.out,decide_eq_false g3,decide_eq_false g2];rfl)
     have HNB:Hid (∀i,i < 0+1->badO nc (lastOf os i) (os.getD i noOr)=false):=zh fun i hi=>by
      rcases Nat.lt_or_ge i (0) with h1 | h1
      ·exact HI.out.2 i h1
      ·obtain rfl:i=0:=by omega
       exact HG.out
     go_quiet (fail)
     have HU6:=zh (drewN_turned (fun _=>False) w5 nq)
     have HN6:=zh (keepB HU6.out HN5.out);have HT6:=zh (HT5.out.trans HU6.out);clear z0 z1 z2 z3;generalize w5.drewN nq=w6 at *;obtain⟨z0,z1,z2,z3,-,-,-,-⟩:=box4 HN6.out;obtain⟨d,hd⟩ : ∃d,(os.take (0)).all dueF=d:=⟨_,rfl⟩;have HAS2:=zh HAS.out;rw[hd] at HAS2 ⊢;clear hd;cases d
     ·go_upto_region 12 with fail
      go_quiet (fail)
      have HQ:=zh (HT6.out.trans (drewN_turned (fun _=>False) w6 nq))
      go_wp2_with fail
      go_roundw
      case rel=>exact⟨0+1,by omega,by go_num,by rw[HAS2.out];rfl,zh ⟨HQ.out,HNB.out⟩⟩
      case measure=>simp[intOf];omega
     ·obtain⟨q,hq⟩ : ∃q:Nat,ok=q:=⟨ok.toNat,by omega⟩
      have hqn:q < nc:=by omega
      obtain⟨v,hv⟩ : ∃v,tl[q]? = some v:=⟨_,List.getElem?_eq_getElem (by rw[HTL.out];exact hqn)⟩
      have hdf:=HDF.out ⟨ok,⟨false,ux,ud⟩⟩;rw[show(⟨ok,⟨false,ux,ud⟩⟩ : Or).claim.toNat=q from by show ok.toNat=q;omega,getD_of hv] at hdf
      have hvs:=HSZ.out v (List.mem_of_getElem? hv);have HCMP:=zh (fun V=>pCmp_any ⟨false,ux,ud⟩ v 2920300 V (by omega) (HVL.out.mono (by omega)) hvs)
      obtain⟨cq,hcq⟩ : ∃c,cmpQ (qR ⟨false,ux,ud⟩) (qR v)=c:=⟨_,rfl⟩;have hge:=cmpQ_ge (p:=qR ⟨false,ux,ud⟩) (q:=qR v);rw[hcq] at HCMP hge;have hdd:dueF ⟨ok,⟨false,ux,ud⟩⟩=decide (0<=cq):=by
       rw[hdf,Bool.eq_iff_iff,decide_eq_true_eq,decide_eq_true_eq];exact hge.symm
      have HDD:=zh hdd;have hxb:=keepB HT6.out HX0.out;obtain⟨x0,x1,x2,-,-,-⟩:=box3 hxb;obtain⟨⟨vn,vx,vd⟩,hvv⟩ : ∃s,v=s:=⟨_,rfl⟩;rw[hvv] at hv HCMP;obtain⟨vb,va,hva,-,f0,f1,f2⟩:=(HTK1.out.turned HT6.out).rats hv;subst hq;have hq0:(0:Int)<=q:=by omega
      have hq1:(q:Int) < nc:=by omega
      subst hva;have HCB:Hid (∀A,Turned (fun _=>False) w6 A->True):=zh fun _ _=>trivial
      clear hdf hvs hcq hge hdd hxb hvv hv HDF
      go_upto_region 12 with fail
      refine region_tl 10 (by kernel_rfl) (by kernel_rfl) (fun V hT=>?_)
      have x1:=cellT hT id x1;have z0:=cellT hT id z0;have z1:=cellT hT id z1;have z2:=cellT hT id z2;have z3:=cellT hT id z3;have f0:=cellT hT id f0;have f1:=cellT hT id f1;have f2:=cellT hT id f2;have HTV:=zh (HT6.out.trans hT);clear hT;simp only[List.take_succ_cons,List.take_zero,List.drop_succ_cons,List.drop_zero]
      repeat still_step
      refine wpStill_nil ?_;by_cases hc0:0<=cq
      ·have HR:Hid ((os.take (0+1)).all dueF=true):=zh (by rw[HAS2.out,HDD.out,decide_eq_true hc0];rfl)
       go_wp2_with fail;refine(HCMP.out _).mono ?_;rintro e w7 ⟨rfl,t7⟩;have HQ:=zh (HTV.out.trans t7);clear t7;go_wp2_with fail
       go_roundw
       case rel=>exact⟨0+1,by omega,by go_num,by (try rw[HR.out]);first | done | rfl | simp[hc0] | (simp;omega),zh ⟨HQ.out,HNB.out⟩⟩
       case measure=>simp[intOf];omega
      ·have HR:Hid ((os.take (0+1)).all dueF=false):=zh (by rw[HAS2.out,HDD.out,decide_eq_false hc0];rfl)
       go_wp2_with fail;refine(HCMP.out _).mono ?_;rintro e w7 ⟨rfl,t7⟩;have HQ:=zh (HTV.out.trans t7);clear t7;go_wp2_with fail
       go_roundw
       case rel=>exact⟨0+1,by omega,by go_num,by (try rw[HR.out]);first | done | rfl | simp[hc0] | (simp;omega),zh ⟨HQ.out,HNB.out⟩⟩
       case measure=>simp[intOf];omega
   ·have c0:=cellT HU5.out id c0;have hk2:(0:Int) < k:=by omega
    obtain⟨j,hj⟩ : ∃j:Nat,(k:Int)-1=j:=⟨k-1,by omega⟩
    have hj0:(0:Int)<=j:=by omega
    have hj1:(j:Int) < no:=by omega
    rw[show k-1=j by omega] at c0
    by_cases g3:ok<=lk
    ·have HD:Hid (dv=1):=zh (HBAD.out (by rw[HBO.out,decide_eq_true g3];rfl))
     go_quiet (fail)
     have HQ:=zh (HT5.out.trans (drewN_turned (fun _=>False) w5 nq))
     go_wp2_with fail;go_ret;rw[HD.out];exact⟨rfl,HT1.out.trans HQ.out⟩
    cases vv
    ·have HD:Hid (dv=1):=zh (HBAD.out (by rw[HBO.out];simp))
     go_quiet (fail)
     have HQ:=zh (HT5.out.trans (drewN_turned (fun _=>False) w5 nq))
     go_wp2_with fail;go_ret;rw[HD.out];exact⟨rfl,HT1.out.trans HQ.out⟩
    cases un
    rotate_left
    ·have HD:Hid (dv=1):=zh (HBAD.out (by rw[HBO.out];simp))
     go_quiet (fail)
     have HQ:=zh (HT5.out.trans (drewN_turned (fun _=>False) w5 nq))
     go_wp2_with fail;go_ret;rw[HD.out];exact⟨rfl,HT1.out.trans HQ.out⟩
    ·have HG:Hid (badO nc (lastOf os (k)) (os.getD (k) noOr)=false):=zh (by rw[HBO.out,decide_eq_false g3,decide_eq_false g2];rfl)
     have HNB:Hid (∀i,i < k+1->badO nc (lastOf os i) (os.getD i noOr)=false):=zh fun i hi=>by
      rcases Nat.lt_or_ge i (k) with h1 | h1
      ·exact HI.out.2 i h1
      ·obtain rfl:i=k:=by omega
       exact HG.out
     go_quiet (fail)
     have HU6:=zh (drewN_turned (fun _=>False) w5 nq)
     have HN6:=zh (keepB HU6.out HN5.out);have HT6:=zh (HT5.out.trans HU6.out);clear z0 z1 z2 z3;generalize w5.drewN nq=w6 at *;obtain⟨z0,z1,z2,z3,-,-,-,-⟩:=box4 HN6.out;obtain⟨d,hd⟩ : ∃d,(os.take (k)).all dueF=d:=⟨_,rfl⟩;have HAS2:=zh HAS.out;rw[hd] at HAS2 ⊢;clear hd;cases d
     ·go_upto_region 12 with fail
      go_quiet (fail)
      have HQ:=zh (HT6.out.trans (drewN_turned (fun _=>False) w6 nq))
      go_wp2_with fail
      go_roundw
      case rel=>exact⟨k+1,by omega,by go_num,by rw[HAS2.out];rfl,zh ⟨HQ.out,HNB.out⟩⟩
      case measure=>simp[intOf];omega
     ·obtain⟨q,hq⟩ : ∃q:Nat,ok=q:=⟨ok.toNat,by omega⟩
      have hqn:q < nc:=by omega
      obtain⟨v,hv⟩ : ∃v,tl[q]? = some v:=⟨_,List.getElem?_eq_getElem (by rw[HTL.out];exact hqn)⟩
      have hdf:=HDF.out ⟨ok,⟨false,ux,ud⟩⟩;rw[show(⟨ok,⟨false,ux,ud⟩⟩ : Or).claim.toNat=q from by show ok.toNat=q;omega,getD_of hv] at hdf
      have hvs:=HSZ.out v (List.mem_of_getElem? hv);have HCMP:=zh (fun V=>pCmp_any ⟨false,ux,ud⟩ v 2920300 V (by omega) (HVL.out.mono (by omega)) hvs)
      obtain⟨cq,hcq⟩ : ∃c,cmpQ (qR ⟨false,ux,ud⟩) (qR v)=c:=⟨_,rfl⟩;have hge:=cmpQ_ge (p:=qR ⟨false,ux,ud⟩) (q:=qR v);rw[hcq] at HCMP hge;have hdd:dueF ⟨ok,⟨false,ux,ud⟩⟩=decide (0<=cq):=by
       rw[hdf,Bool.eq_iff_iff,decide_eq_true_eq,decide_eq_true_eq];exact hge.symm
      have HDD:=zh hdd;have hxb:=keepB HT6.out HX0.out;obtain⟨x0,x1,x2,-,-,-⟩:=box3 hxb;obtain⟨⟨vn,vx,vd⟩,hvv⟩ : ∃s,v=s:=⟨_,rfl⟩;rw[hvv] at hv HCMP;obtain⟨vb,va,hva,-,f0,f1,f2⟩:=(HTK1.out.turned HT6.out).rats hv;subst hq;have hq0:(0:Int)<=q:=by omega
      have hq1:(q:Int) < nc:=by omega
      subst hva;have HCB:Hid (∀A,Turned (fun _=>False) w6 A->True):=zh fun _ _=>trivial
      clear hdf hvs hcq hge hdd hxb hvv hv HDF
      go_upto_region 12 with fail
      refine region_tl 10 (by kernel_rfl) (by kernel_rfl) (fun V hT=>?_)
      have x1:=cellT hT id x1;have z0:=cellT hT id z0;have z1:=cellT hT id z1;have z2:=cellT hT id z2;have z3:=cellT hT id z3;have f0:=cellT hT id f0;have f1:=cellT hT id f1;have f2:=cellT hT id f2;have HTV:=zh (HT6.out.trans hT);clear hT;simp only[List.take_succ_cons,List.take_zero,List.drop_succ_cons,List.drop_zero]
      repeat still_step
      refine wpStill_nil ?_;by_cases hc0:0<=cq
      ·have HR:Hid ((os.take (k+1)).all dueF=true):=zh (by rw[HAS2.out,HDD.out,decide_eq_true hc0];rfl)
       go_wp2_with fail;refine(HCMP.out _).mono ?_;rintro e w7 ⟨rfl,t7⟩;have HQ:=zh (HTV.out.trans t7);clear t7;go_wp2_with fail
       go_roundw
       case rel=>exact⟨k+1,by omega,by go_num,by (try rw[HR.out]);first | done | rfl | simp[hc0] | (simp;omega),zh ⟨HQ.out,HNB.out⟩⟩
       case measure=>simp[intOf];omega
      ·have HR:Hid ((os.take (k+1)).all dueF=false):=zh (by rw[HAS2.out,HDD.out,decide_eq_false hc0];rfl)
       go_wp2_with fail;refine(HCMP.out _).mono ?_;rintro e w7 ⟨rfl,t7⟩;have HQ:=zh (HTV.out.trans t7);clear t7;go_wp2_with fail
       go_roundw
       case rel=>exact⟨k+1,by omega,by go_num,by (try rw[HR.out]);first | done | rfl | simp[hc0] | (simp;omega),zh ⟨HQ.out,HNB.out⟩⟩
       case measure=>simp[intOf];omega
  ·obtain rfl:k=no:=by omega
   have HFI:Hid (fineO nc os=true):=zh (fineO_of.2 (by rw[HNO.out];exact HI.out.2))
   have htk:os.take k=os:=List.take_of_length_le (by rw[HNO.out];exact Nat.le_refl _)
   obtain⟨d,hd⟩ : ∃d,os.all dueF=d:=⟨_,rfl⟩;rw[htk,hd];have HVV:Hid (dv=if d=true then 0 else 22):=zh (by rw[HV.out,if_pos HFI.out,HDB.out,hd])
   clear htk hd;cases d
   all_goals
    go_wp2_with fail;go_ret;rw[HVV.out];exact⟨rfl,HT1.out.trans HI.out.1⟩
end
end Go.Proofs.YtanhhdndgkhcfaaGreatDoor
