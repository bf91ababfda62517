/- Part 29 of the proof of lawSpec.card: OrdDue. Conditions: those of each theorem. -/
import Derived.Test.YtanhhdndgkhcfaaGreatDoorSp01
import Derived.Test.YtanhhdndgkhcfaaGreatDoorSp28
set_option maxRecDepth 20000
set_option maxHeartbeats 8000000
namespace Go.Proofs.YtanhhdndgkhcfaaGreatDoor
open Go Go.Proofs Go.RowKit
attribute [local go_sem] Oper.semAt_some
attribute [local go_sem ↓] run_eql_rat' run_neq_rat'
theorem cmpQ_neg{p q:Rat} {c:Int} (h:cmpQ p q=c) (hc:c < 0):p < q:=by
 unfold cmpQ at h;split at h
 ·omega
 ·split at h
  ·assumption
  ·omega
theorem cmpQ_nonneg{p q:Rat} {c:Int} (h:cmpQ p q=c) (hc:¬c < 0):q<=p:=by
 unfold cmpQ at h;split at h
 ·rename_i h1
  rw[h1];exact Rat.le_refl
 ·split at h
  ·omega
  ·rename_i h1
   exact Rat.not_lt.1 h1
def noOr:Or:=⟨0,zeroR⟩
def badO (n:Nat) (last:Int) (o:Or):Bool:=(decide (o.claim<=last) || decide ((n:Int)<=o.claim)) || !natR o.limit
def lastOf (os:List Or):Nat->Int
 | 0 => -1
 | k+1=>(os.getD k noOr).claim
def fineO (n:Nat) (os:List Or):Bool:=(List.range os.length).all fun k=>!badO n (lastOf os k) (os.getD k noOr)
def dueB (ts:List Rv) (os:List Or):Bool:=os.all fun o=>decide (qR (ts.getD o.claim.toNat zeroR)<=qR o.limit)
def dueE (n:Nat) (ts:List Rv) (os:List Or):Int:=if fineO n os=true then(if dueB ts os=true then 0 else 22) else 1
theorem badO_false{n:Nat} {last:Int} {o:Or} : badO n last o=false↔last < o.claim/\o.claim < n/\natR o.limit=true:=by
 unfold badO;rw[Bool.or_eq_false_iff,Bool.or_eq_false_iff,decide_eq_false_iff_not,decide_eq_false_iff_not,Bool.not_eq_false'];exact⟨fun⟨⟨h1,h2⟩,h3⟩=>⟨by omega,by omega,h3⟩,fun⟨h1,h2,h3⟩=>⟨⟨by omega,by omega⟩,h3⟩⟩
theorem fine_from{n:Nat} {os:List Or} {j:Nat} (h:∀i,i < j->badO n (lastOf os i) (os.getD i noOr)=false):∀i,i<=j -> -1<=lastOf os i
 | 0,_=>Int.le_refl _
 | i+1,hi=>by
  have h1:=(badO_false.1 (h i (by omega))).1
  have h2:=fine_from h i (by omega)
  show -1<=(os.getD i noOr).claim;omega
theorem fine_in{n:Nat} {os:List Or} {j:Nat} (h:∀i,i < j->badO n (lastOf os i) (os.getD i noOr)=false) {i:Nat} {o:Or} (hi:i < j) (ho:os[i]? = some o):0<=o.claim/\o.claim < n/\natR o.limit=true:=by
 have h1:=badO_false.1 (h i hi);have h2:=fine_from h i (by omega)
 rw[getD_of ho] at h1;exact⟨by have:=h1.1;omega,h1.2.1,h1.2.2⟩
theorem fineO_of{n:Nat} {os:List Or} : fineO n os=true↔∀i,i < os.length->badO n (lastOf os i) (os.getD i noOr)=false:=by
 unfold fineO;rw[List.all_eq_true];constructor
 ·intro h i hi;simpa using h i (List.mem_range.2 hi)
 ·intro h i hi;simpa using h i (List.mem_range.1 hi)
section
variable {rs:List Rc} {lo hi:List Rv} {cs:List Cl} {rp lp hp cp:Option Addr} {rc lc hc cc:Nat} {W:World}
theorem oDue_bad(h:OIn W rs lo hi cs rp lp hp cp rc lc hc cc) {ev:Int} (he:ordE rs lo hi cs=ev) (h0:ev≠0) (no:Nat) (po:Option Addr) (co:Nat) :
  Calls Tryz.prog 24 #[.agg #[.slice rp rs.length rc,.slice lp lo.length lc,.slice hp hi.length hc],.slice cp cs.length cc,.slice po no co] W fun e w'=>e=.returned (.int .i64 ev)/\Turned (fun _=>False) W w':=by
 have HC:=zh (fun A (hA:Turned (fun _=>False) W A)=>oLimits_bad (h.on hA) he h0)
 obtain⟨nr,hnr⟩ : ∃n,rs.length=n:=⟨_,rfl⟩;obtain⟨nl,hnl⟩ : ∃n,lo.length=n:=⟨_,rfl⟩;obtain⟨nh,hnh⟩ : ∃n,hi.length=n:=⟨_,rfl⟩;obtain⟨nc,hnc⟩ : ∃n,cs.length=n:=⟨_,rfl⟩;rw[hnr,hnl,hnh,hnc] at HC ⊢;have g2:(ev == 0)=false:=by simpa using h0
 have g3:(ev != 0)=true:=by simpa using h0
 have HT:=zh ((zr W).alloc (.cells #[.slice rp nr rc,.slice lp nl lc,.slice hp nh hc] 25));clear h he hnr hnl hnh hnc h0;go_enter Tryz.func24,Tryz.ntmps24;go_wp2_with fail;refine(HC.out _ HT.out).mono ?_;rintro e w1 ⟨rfl,t1⟩;have HT1:=zh (HT.out.trans t1);clear t1;go_wp2_with fail;go_ret;exact⟨rfl,HT1.out⟩
theorem oDue_ok(h:OIn W rs lo hi cs rp lp hp cp rc lc hc cc) (he:ordE rs lo hi cs=0) (hn8:rs.length<=8) (hm12:cs.length<=12) (os:List Or) (po:Option Addr) (co:Nat) (ho:At W.heap.size W 4 orderCells os po co) (so:∀o∈os,SzR o.limit 24000400) :
  Calls Tryz.prog 24 #[.agg #[.slice rp rs.length rc,.slice lp lo.length lc,.slice hp hi.length hc],.slice cp cs.length cc,.slice po os.length co] W fun e w'=>e=.returned (.int .i64 (dueE cs.length (takesR rs cs hi) os))/\Turned (fun _=>False) W w':=by
 have HC:=zh (fun A (hA:Turned (fun _=>False) W A)=>oLimits_ok (h.on hA) he hn8 hm12)
 have htl:(takesR rs cs hi).length=cs.length:=repL_len _ _;obtain⟨tl,htq⟩ : ∃t,takesR rs cs hi=t:=⟨_,rfl⟩;obtain⟨nr,hnr⟩ : ∃n,rs.length=n:=⟨_,rfl⟩;obtain⟨nl,hnl⟩ : ∃n,lo.length=n:=⟨_,rfl⟩;obtain⟨nh,hnh⟩ : ∃n,hi.length=n:=⟨_,rfl⟩;obtain⟨nc,hnc⟩ : ∃n,cs.length=n:=⟨_,rfl⟩;obtain⟨no,hno⟩ : ∃n,os.length=n:=⟨_,rfl⟩;have mo:(no:Int)<=9223372036854775807:=by have:=ho.len;unfold maxLen at this;omega
 rw[hnr,hnl,hnh,hnc,htq] at HC;rw[htq] at htl;rw[hnc] at htl hm12;rw[hnr,hnl,hnh,hnc,htq,hno];obtain⟨dv,hdv⟩ : ∃v,dueE nc tl os=v:=⟨_,rfl⟩;have HV:Hid (dv=if fineO nc os=true then(if dueB tl os=true then 0 else 22) else 1):=zh (by rw[<- hdv];rfl)
 rw[hdv];have HTL:=zh htl;have HNO:=zh hno;have HO:=zh ho;have HSO:=zh so;have HT:=zh ((zr W).alloc (.cells #[.slice rp nr rc,.slice lp nl lc,.slice hp nh hc] 25));have hmx:(nc:Int)<=12:=by omega
 clear h he hnr hnl hnh hnc hno hn8 hm12 htl htq hdv ho so;go_enter Tryz.func24,Tryz.ntmps24;go_wp2_with fail;refine(HC.out _ HT.out).mono ?_;rintro e w1 ⟨ta,tb,rfl,hab,-,hob,hsz,t1⟩;have HT1:=zh (HT.out.trans t1);have HOB:=zh (And.intro hob hsz.2);clear t1 hab hob hsz HC;go_wp2_with fail
 go_loopw [10,27] (fun v i wr=>∃k:Nat,k<=no/\i=(.int .i64 k)/\v=(.int .i64 (lastOf os k))/\Hid (Turned (fun _=>False) w1 wr/\∀i,i < k->badO nc (lastOf os i) (os.getD i noOr)=false)) (fun _ i _=>no-(intOf i).toNat)
 case atStart=>exact⟨0,Nat.zero_le _,rfl,rfl,zh ⟨Turned.refl _ _,fun i hi=>by omega⟩⟩
 case round =>
  obtain⟨k,hk,rfl,rfl,HI⟩:=hrel;by_cases hlt:k < no
  ·have hx:os[k]? = some (os[k]'(by rw[HNO.out];exact hlt)):=List.getElem?_eq_getElem _
   obtain⟨⟨ok,⟨un,ux,ud⟩⟩,hxe⟩ : ∃u,os[k]'(by rw[HNO.out];exact hlt)=u:=⟨_,rfl⟩
   rw[hxe] at hx;obtain⟨b,a,rfl,-,e0,e1,e2,e3⟩:=(HO.out.turned (HT1.out.trans HI.out.1)).orders hx;have hvl:=HSO.out _ (List.mem_of_getElem? hx);have HVAL:=zh (fun W=>qValid_any ⟨un,ux,ud⟩ W (Nat.le_trans hvl.1 (by decide)) (Nat.le_trans hvl.2 (by decide)))
   obtain⟨vv,hvv⟩ : ∃v,decide (validR ⟨un,ux,ud⟩)=v:=⟨_,rfl⟩;rw[hvv] at HVAL;have hk0:(0:Int)<=k:=by omega
   have hk1:(k:Int) < no:=by omega
   have TA:=(zr wr).alloc (.cells #[.int .i64 ok,.bool un,.string ux,.string ud] 70);have HTA:=zh (HI.out.1.trans TA);obtain⟨lk,hlk⟩ : ∃l,lastOf os k=l:=⟨_,rfl⟩;have HBO:Hid (badO nc (lastOf os k) (os.getD k noOr)=((decide (ok<=lk) || decide ((nc:Int)<=ok)) || !(vv && !un))):=zh (by
    rw[getD_of hx,hlk,<- hvv];rfl)
   have HNX:Hid (lastOf os (k+1)=ok):=zh (by
    show(os.getD k noOr).claim=ok;rw[getD_of hx])
   have HBAD:Hid (badO nc (lastOf os k) (os.getD k noOr)=true->dv=1):=zh fun hb=>by
    rw[HV.out,if_neg];rw[fineO_of];intro hf;rw[hf k (by rw[HNO.out];exact hlt)] at hb
    cases hb
   rw[hlk];clear hx hxe hvl hvv TA hlk;by_cases g1:ok<=lk
   ·have HD:Hid (dv=1):=zh (HBAD.out (by rw[HBO.out,decide_eq_true g1];rfl))
    go_wp2_with fail;go_ret;rw[HD.out];exact⟨rfl,HT1.out.trans HTA.out⟩
   by_cases g2:(nc:Int)<=ok
   ·have HD:Hid (dv=1):=zh (HBAD.out (by rw[HBO.out,decide_eq_true g2,Bool.or_true];rfl))
    go_wp2_with fail;go_ret;rw[HD.out];exact⟨rfl,HT1.out.trans HTA.out⟩
   cases vv
   ·have HD:Hid (dv=1):=zh (HBAD.out (by rw[HBO.out,Bool.false_and,Bool.not_false,Bool.or_true]))
    go_wp2_with (go_at_call 51;refine(HVAL.out _).mono ?_;rintro e w5 ⟨rfl,t5⟩;have HT5:=zh (HTA.out.trans t5);clear t5);go_ret;rw[HD.out];exact⟨rfl,HT1.out.trans HT5.out⟩
   cases un
   ·have HG:Hid (badO nc (lastOf os k) (os.getD k noOr)=false):=zh (by rw[HBO.out,decide_eq_false g1,decide_eq_false g2];rfl)
    have y5:=World.alloc_heap_new wr (.cells #[.int .i64 ok,.bool false,.string ux,.string ud] 70);have HY5:=zh y5;clear y5;go_wp2_with fail;refine(HVAL.out _).mono ?_;rintro e w5 ⟨rfl,t5⟩;have HT5:=zh (HTA.out.trans t5);have y6:=keepB t5 HY5.out;have y7:w5.cell? ⟨wr.heap.size,0,none⟩=some (.int .i64 ok):=by simp[World.cell?,y6]
    have y8:w5.cell? ⟨wr.heap.size,1,none⟩=some (.bool false):=by simp[World.cell?,y6]
    clear t5 y6;go_wp2_with fail
    go_roundw
    case rel=>exact⟨k+1,by omega,by go_num,by rw[HNX.out],zh ⟨HT5.out,fun i hi=>by
     rcases Nat.lt_or_ge i k with h1 | h1
     ·exact HI.out.2 i h1
     ·obtain rfl:i=k:=by omega
      exact HG.out⟩⟩
    case measure=>simp[intOf];omega
   ·have HD:Hid (dv=1):=zh (HBAD.out (by rw[HBO.out];simp))
    have y5:=World.alloc_heap_new wr (.cells #[.int .i64 ok,.bool true,.string ux,.string ud] 70);have HY5:=zh y5;clear y5;go_wp2_with fail;refine(HVAL.out _).mono ?_;rintro e w5 ⟨rfl,t5⟩;have HT5:=zh (HTA.out.trans t5);have y6:=keepB t5 HY5.out;have y8:w5.cell? ⟨wr.heap.size,1,none⟩=some (.bool true):=by simp[World.cell?,y6]
    clear t5 y6;go_wp2_with fail;go_ret;rw[HD.out];exact⟨rfl,HT1.out.trans HT5.out⟩
  ·obtain rfl:k=no:=by omega
   have hfi:fineO nc os=true:=fineO_of.2 (by rw[HNO.out];exact HI.out.2)
   replace HV:=zh (HV.out.trans (if_pos hfi));have HIN:Hid (∀(i:Nat) (o:Or),i < k->os[i]? = some o->0<=o.claim/\o.claim < nc/\natR o.limit=true):=zh fun i o h1 h2=>fine_in HI.out.2 h1 h2
   have HT2:=zh HI.out.1;obtain⟨lk,hlk⟩ : ∃l,lastOf os k=l:=⟨_,rfl⟩;rw[hlk];clear HI hfi hlk;go_wp2_with fail
   go_loopw [58] (fun i wr=>∃j:Nat,j<=k/\i=(.int .i64 j)/\Hid (Turned (fun _=>False) w1 wr/\∀i o,i < j->os[i]? = some o->qR (tl.getD o.claim.toNat zeroR)<=qR o.limit)) (fun i _=>k-(intOf i).toNat)
   case atStart=>exact⟨0,Nat.zero_le _,rfl,zh ⟨HT2.out,fun i o hi=>by omega⟩⟩
   case round =>
    obtain⟨j,hj,rfl,HI⟩:=hrel;by_cases hlt:j < k
    ·have hx:os[j]? = some (os[j]'(by rw[HNO.out];exact hlt)):=List.getElem?_eq_getElem _
     obtain⟨⟨ok,⟨un,ux,ud⟩⟩,hxe⟩ : ∃u,os[j]'(by rw[HNO.out];exact hlt)=u:=⟨_,rfl⟩
     rw[hxe] at hx;have hin:=HIN.out j _ hlt hx;obtain⟨q,hq⟩ : ∃q:Nat,ok=q:=⟨ok.toNat,by have h:0<=ok/\_:=hin;omega⟩
     subst hq;have hqn:q < nc:=by have h:0<=(q:Int)/\(q:Int) < nc/\_:=hin;omega
     have hy:tl[q]? = some (tl[q]'(by rw[HTL.out];exact hqn)):=List.getElem?_eq_getElem _
     obtain⟨⟨yn,yx,yd⟩,hye⟩ : ∃u,tl[q]'(by rw[HTL.out];exact hqn)=u:=⟨_,rfl⟩
     rw[hye] at hy;obtain⟨b,a,rfl,-,e0,e1,e2,e3⟩:=(HO.out.turned (HT1.out.trans HI.out.1)).orders hx;obtain⟨g0,g1,g2⟩:=(HOB.out.1.turned HI.out.1 id).cells hy;have HX:=zh hx;have HCMP:=zh (fun W=>qCmp_any ⟨un,ux,ud⟩ ⟨yn,yx,yd⟩ 24000400 W (by decide) (by decide) (HSO.out _ (List.mem_of_getElem? hx)) ((HOB.out.2 _ (List.mem_of_getElem? hy)).mono (by decide)))
     obtain⟨c,hcq⟩ : ∃c,cmpQ (qR ⟨un,ux,ud⟩) (qR ⟨yn,yx,yd⟩)=c:=⟨_,rfl⟩;rw[hcq] at HCMP;have HCQ:=zh hcq;have HGY:Hid (tl.getD q zeroR=⟨yn,yx,yd⟩):=zh (getD_of hy);have hq0:(0:Int)<=q:=by omega
     have hq1:(q:Int) < nc:=by omega
     have hj0:(0:Int)<=j:=by omega
     have hj1:(j:Int) < k:=by omega
     have TA:=(zr wr).alloc (.cells #[.int .i64 q,.bool un,.string ux,.string ud] 70);have z0:=World.alloc_heap_new wr (.cells #[.int .i64 q,.bool un,.string ux,.string ud] 70);obtain⟨w2,hw2⟩ : ∃w,w=wr.alloc (.cells #[.int .i64 q,.bool un,.string ux,.string ud] 70):=⟨_,rfl⟩;have HTA:Hid (Turned (fun _=>False) w1 w2):=zh (by rw[hw2];exact HI.out.1.trans TA)
     have HD:=zh (HTA.out.drew);have HK0:Hid ((w2.drew.cell? ⟨wr.heap.size,0,none⟩=some (.int .i64 q)/\w2.drew.cell? ⟨wr.heap.size,1,none⟩=some (.bool un)/\w2.drew.cell? ⟨wr.heap.size,2,none⟩=some (.string ux)/\w2.drew.cell? ⟨wr.heap.size,3,none⟩=some (.string ud))/\w2.drew.cell? ⟨tb,q*3,none⟩=some (.bool yn)/\w2.drew.cell? ⟨tb,q*3+1,none⟩=some (.string yx)/\w2.drew.cell? ⟨tb,q*3+2,none⟩=some (.string yd)):=zh (by
      rw[<- hw2] at z0 TA;have z1:=keepB (zr w2).drew z0;exact⟨⟨by simp[World.cell?,z1],by simp[World.cell?,z1],by simp[World.cell?,z1],by simp[World.cell?,z1]⟩,cellT TA.drew id g0,cellT TA.drew id g1,cellT TA.drew id g2⟩)
     clear hx hxe hy hye hcq hin z0 g0 g1 g2 TA;go_wp2_with fail;rw[<- hw2];clear hw2 e0 e1 e2 e3
     go_region_held3 (fun V=>(V.cell? ⟨wr.heap.size,0,none⟩=some (.int .i64 q)/\V.cell? ⟨wr.heap.size,1,none⟩=some (.bool un)/\V.cell? ⟨wr.heap.size,2,none⟩=some (.string ux)/\V.cell? ⟨wr.heap.size,3,none⟩=some (.string ud))/\V.cell? ⟨tb,q*3,none⟩=some (.bool yn)/\V.cell? ⟨tb,q*3+1,none⟩=some (.string yx)/\V.cell? ⟨tb,q*3+2,none⟩=some (.string yd))
      (first | exact HK1.out | exact HK0.out | go_keep)
      (first | (go_at_call 30;refine(HCMP.out _).mono ?_;rintro e w5 ⟨rfl,t5⟩;have HT5:=zh (HD.out.trans t5);have HK1:Hid _:=zh (And.intro (And.intro (cellT t5 id HK0.out.1.1) (And.intro (cellT t5 id HK0.out.1.2.1) (And.intro (cellT t5 id HK0.out.1.2.2.1) (cellT t5 id HK0.out.1.2.2.2)))) (And.intro (cellT t5 id HK0.out.2.1) (And.intro (cellT t5 id HK0.out.2.2.1) (cellT t5 id HK0.out.2.2.2))));clear t5))
     by_cases h0:c < 0
     ·have HBT:Hid (dueB tl os=false):=zh (by
       unfold dueB;rw[List.all_eq_false];refine⟨_,List.mem_of_getElem? HX.out,?_⟩;rw[decide_eq_true_eq];show ¬qR (tl.getD (q:Int).toNat zeroR)<=qR ⟨un,ux,ud⟩;rw[Int.toNat_natCast,HGY.out];intro hle;have h1:=HCQ.out;have h2:=cmpQ_neg h1 h0;exact Rat.not_le.2 h2 hle)
      replace HV:=zh (HV.out.trans (if_neg (by rw[HBT.out];simp)))
      go_wp2_with fail;go_ret;rw[HV.out];exact⟨rfl,HT1.out.trans HT5.out⟩
     ·have HG:Hid (Turned (fun _=>False) w1 w5/\∀i o,i < j+1->os[i]? = some o->qR (tl.getD o.claim.toNat zeroR)<=qR o.limit):=zh ⟨HT5.out,fun i o hi ho=>by
       rcases Nat.lt_or_ge i j with h1 | h1
       ·exact HI.out.2 i o h1 ho
       ·obtain rfl:i=j:=by omega
        rw[HX.out] at ho;cases ho
        show qR (tl.getD (q:Int).toNat zeroR)<=qR ⟨un,ux,ud⟩;rw[Int.toNat_natCast,HGY.out];exact cmpQ_nonneg HCQ.out h0⟩
      go_wp2_with fail
      go_roundw
      case rel=>exact⟨j+1,by omega,by go_num,HG⟩
      case measure=>simp[intOf];omega
    ·obtain rfl:j=k:=by omega
     have HBT:Hid (dueB tl os=true):=zh (by
      unfold dueB;rw[List.all_eq_true];intro o ho;obtain⟨i,hi⟩:=List.mem_iff_getElem?.1 ho;exact decide_eq_true (HI.out.2 i o (by have:=(List.getElem?_eq_some_iff.1 hi).1;rwa [HNO.out] at this) hi))
     replace HV:=zh (HV.out.trans (if_pos HBT.out));go_wp2_with fail;go_ret;rw[HV.out];exact⟨rfl,HT1.out.trans HI.out.1⟩
end
end Go.Proofs.YtanhhdndgkhcfaaGreatDoor
