/- Part 32 of the proof of lawSpec.card: OrdRefE. Conditions: those of each theorem. -/
import Derived.Test.YtanhhdndgkhcfaaGreatDoorSp01
import Derived.Test.YtanhhdndgkhcfaaGreatDoorSp30
import Derived.Test.YtanhhdndgkhcfaaGreatDoorSp31
set_option maxRecDepth 20000
set_option maxHeartbeats 8000000
namespace Go.Proofs.YtanhhdndgkhcfaaGreatDoor
open Go Go.Proofs Go.RowKit
attribute [local go_sem] Oper.semAt_some
attribute [local go_sem ↓] run_eql_rat' run_neq_rat'
def limF (x:Int) (u:Rv):List Or->Rv
 | []=>u
 | o::os=>if o.claim=x then o.limit else limF x u os
theorem limF_drop(x:Int) (u:Rv):∀(os:List Or) (k:Nat),(∀i o,i < k->os[i]? = some o->o.claim≠x)->limF x u os=limF x u (os.drop k)
 | [],k,_=>by rw[List.drop_nil]
 | o::os,0,_=>rfl
 | o::os,k+1,h=>by
  rw[limF,if_neg (h 0 o (by omega) rfl),List.drop_succ_cons,limF_drop x u os k fun i y hi hy=>h (i+1) y (by omega) (by simpa using hy)]
theorem fold_same(x:Int):∀(os:List Or) (a:Option Rv),(∀o∈os,o.claim≠x)->os.foldl (fun a o=>if x=o.claim then some o.limit else a) a=a
 | [],a,_=>rfl
 | o::os,a,h=>by
  rw[List.foldl_cons,if_neg (fun e=>h o (by simp) e.symm)]
  exact fold_same x os a fun y hy=>h y (by simp[hy])
theorem lim_given(x:Int) (u:Rv):∀(os:List Or),os.Pairwise (fun a b=>a.claim≠b.claim)->limF x u os=(givenF os x).getD u
 | [],_=>rfl
 | o::os,h=>by
  obtain⟨h1,h2⟩:=List.pairwise_cons.1 h;rw[limF];unfold givenF;rw[List.foldl_cons];by_cases hx:o.claim=x
  ·rw[if_pos hx,if_pos hx.symm,fold_same x os _ fun y hy e=>h1 y hy (hx.trans e.symm)]
   rfl
  ·rw[if_neg hx,if_neg (fun e=>hx e.symm),lim_given x u os h2]
   rfl
theorem fine_apart{n:Nat} {os:List Or} (h:fineO n os=true):os.Pairwise (fun a b=>a.claim≠b.claim):=by
 have hs:∀j,j < os.length->∀i,i < j->(os.getD i noOr).claim < (os.getD j noOr).claim:=by
  intro j
  induction j with
  | zero=>intro _ i hi;omega
  | succ j ih =>
   intro hj i hi;have h1:=(badO_false.1 (fineO_of.1 h (j+1) hj)).1;have h2:(os.getD j noOr).claim < (os.getD (j+1) noOr).claim:=h1;rcases Nat.lt_or_ge i j with h3 | h3
   ·have:=ih (by omega) i h3
    omega
   ·obtain rfl:i=j:=by omega
    exact h2
 refine List.pairwise_iff_getElem.2 fun i j hi hj hij=>?_
 have:=hs j hj i hij;rw[List.getD_eq_getElem?_getD,List.getD_eq_getElem?_getD,List.getElem?_eq_getElem hi,List.getElem?_eq_getElem hj] at this;have h3:os[i].claim < os[j].claim:=this;omega
theorem new_lim{n:Nat} {os:List Or} (h:fineO n os=true) (o:Or) (u:Rv) (hu:qR u=qR o.limit+1):newB os o=decide (0 < cmpQ (qR (limF o.claim u os)) (qR o.limit)):=by
 rw[<- cmpQ_pos rfl,lim_given o.claim u os (fine_apart h)];unfold newB;cases givenF os o.claim with
 | none =>
  show true=decide (qR o.limit < qR u);rw[hu,decide_eq_true (by grind)]
 | some l=>rfl
theorem lim_size{x:Int} {u:Rv} {k:Nat} (hu:SzR u k):∀{os:List Or},(∀o∈os,SzR o.limit k)->SzR (limF x u os) k
 | [],_=>hu
 | o::os,h=>by
  rw[limF];split
  ·exact h o (by simp)
  ·exact lim_size hu fun y hy=>h y (by simp[hy])
theorem results_lLimit(tmps:Array Value) (w:World) (g:Nat) (a b c:Value) (hp:tmps.getD 6 undef=.pointer (some ⟨g,0,none⟩)) (hg:w.heap[g]? = some (.cells #[a,b,c] 68 (0,0))) :
  (results Tryz.f46 tmps).run Tryz.prog w=.ok (.agg #[a,b,c]) w :=
 results_cell_row (fn:=Tryz.f46) rfl tmps w g 68 #[a,b,c] (0,0) _ hp hg Tryz.underlying68 rfl (by kernel_rfl)
theorem lLimit_any(os:List Or) (po:Option Addr) (co N:Nat) (x:Int) (u:Rv) (W:World) (ho:At N W 4 orderCells os po co) :
  Calls Tryz.prog 46 #[.slice po os.length co,.int .i64 x,ratV u] W fun e w'=>e=.returned (ratV (limF x u os))/\Turned (fun _=>False) W w':=by
 have mo:(os.length:Int)<=9223372036854775807:=by have:=ho.len;unfold maxLen at this;omega
 obtain⟨no,hno⟩ : ∃n,os.length=n:=⟨_,rfl⟩;have HNO:=zh hno;have HO:=zh ho;obtain⟨v,hv⟩ : ∃v,limF x u os=v:=⟨_,rfl⟩;have HV:=zh hv;rw[hno] at mo ⊢;rw[hv];obtain⟨un,ux,ud⟩:=u;have T0:=zh (((zr W).alloc (.cells #[.bool un,.string ux,.string ud] 68 (0,0))).alloc (.cells #[.bool false,.string ⟨#[]⟩,.string ⟨#[]⟩] 68 (0,0)));have n0:=zh (new_first W (.cells #[.bool un,.string ux,.string ud] 68 (0,0)) (.cells #[.bool false,.string ⟨#[]⟩,.string ⟨#[]⟩] 68 (0,0)));have n1:=zh (new_second W (.cells #[.bool un,.string ux,.string ud] 68 (0,0)) (.cells #[.bool false,.string ⟨#[]⟩,.string ⟨#[]⟩] 68 (0,0)));obtain⟨w0,hw0⟩ : ∃w,w=(W.alloc (.cells #[.bool un,.string ux,.string ud] 68 (0,0))).alloc (.cells #[.bool false,.string ⟨#[]⟩,.string ⟨#[]⟩] 68 (0,0)):=⟨_,rfl⟩;rw[<- hw0] at T0 n0 n1;clear ho hno hv;go_enter Tryz.func46,Tryz.ntmps46;go_wp2_with fail;rw[<- hw0];clear hw0
 go_loop [7] (fun i=>∃k:Nat,k<=no/\i=(.int .i64 k)/\Hid (∀i o,i < k->os[i]? = some o->o.claim≠x)) (fun i=>no-(intOf i).toNat)
 case atStart=>exact⟨0,Nat.zero_le _,rfl,zh fun i o h=>by omega⟩
 case round =>
  obtain⟨k,hk,rfl,HI⟩:=hrel;by_cases hlt:k < no
  ·obtain⟨⟨ok,⟨vn,vx,vd⟩⟩,hx⟩ : ∃o,os[k]? = some o:=⟨_,List.getElem?_eq_getElem (by rw[HNO.out];exact hlt)⟩
   have HX:=zh hx;obtain⟨b,a,rfl,-,e0,e1,e2,e3⟩:=(HO.out.turned T0.out).orders hx;have hk0:(0:Int)<=k:=by omega
   have hk1:(k:Int) < no:=by omega
   clear hx;by_cases hc:ok=x
   ·have hvv:v=⟨vn,vx,vd⟩:=by
     rw[<- HV.out,limF_drop x _ os k HI.out,List.drop_eq_getElem_cons (by rw[HNO.out];exact hlt)]
     rw[show os[k]'(by rw[HNO.out];exact hlt)=⟨ok,⟨vn,vx,vd⟩⟩ from by have:=HX.out;rw[List.getElem?_eq_getElem (by rw[HNO.out];exact hlt)] at this;exact Option.some.inj this]
     rw[limF,if_pos hc]
    have HVV:=zh hvv;have hc1:(ok == x)=true:=by simpa using hc
    obtain⟨f0,f1,f2,f3,f4,f5⟩:=box3 n1.out;clear hc hvv;go_wp2_with fail;have HK:=set3 n1.out (.bool vn) (.string vx) (.string vd);refine bodyPost_ret (results_lLimit _ _ (W.heap.size+1) _ _ _ rfl HK.1) rfl ?_;rw[HVV.out];exact⟨rfl,T0.out.fresh HK.2 fun g hg=>by omega⟩
   ·have HNX:Hid (∀i o,i < k+1->os[i]? = some o->o.claim≠x):=zh fun i o hi ho=>by
     rcases Nat.lt_or_ge i k with h1 | h1
     ·exact HI.out i o h1 ho
     ·obtain rfl:i=k:=by omega
      rw[HX.out] at ho;cases ho
      exact hc
    have hc1:(ok == x)=false:=by simpa using hc
    clear hc;go_wp2_with fail
    go_round
    case rel=>exact⟨k+1,by omega,by go_num,HNX⟩
    case measure=>simp[intOf];omega
  ·obtain rfl:k=no:=by omega
   have hvv:v=⟨un,ux,ud⟩:=by
    rw[<- HV.out,limF_drop x _ os k HI.out,List.drop_of_length_le (by rw[HNO.out];exact Nat.le_refl _)]
    rfl
   have HVV:=zh hvv;obtain⟨f0,f1,f2,f3,f4,f5⟩:=box3 n1.out;obtain⟨d0,d1,d2,-,-,-⟩:=box3 n0.out;clear hvv;go_wp2_with fail;have HK:=set3 n1.out (.bool un) (.string ux) (.string ud);refine bodyPost_ret (results_lLimit _ _ (W.heap.size+1) _ _ _ rfl HK.1) rfl ?_;rw[HVV.out];exact⟨rfl,T0.out.fresh HK.2 fun g hg=>by omega⟩
theorem run_field_given(a b:Value) (w:World):(Instr.field 42 (.agg #[a,b]) 0).run Tryz.prog w=.ok a w:=by kernel_rfl
attribute [local go_sem ↓] run_field_given
theorem results_lRenew(tmps:Array Value) (w:World) (g:Nat) (a b:Value) (hp:tmps.getD 6 undef=.pointer (some ⟨g,0,none⟩)) (hg:w.heap[g]? = some (.cells #[a,b] 42 (0,0))) :
  (results Tryz.f16 tmps).run Tryz.prog w=.ok (.agg #[a,b]) w :=
 results_cell_row (fn:=Tryz.f16) rfl tmps w g 42 #[a,b] (0,0) _ hp hg Tryz.underlying42 rfl (by kernel_rfl)
section
variable {rs:List Rc} {lo hi:List Rv} {cs:List Cl} {rp lp hp cp:Option Addr} {rc lc hc cc:Nat} {W:World}
theorem lRenew_bad(no:Nat) (po:Option Addr) (co nr nl nh nc:Nat) {ev:Int} (hd:∀A,Turned (fun _=>False) W A->Calls Tryz.prog 25 #[.agg #[.slice rp nr rc,.slice lp nl lc,.slice hp nh hc],.slice cp nc cc,.slice po no co] A fun e w'=>e=.returned (.int .i64 ev)/\Turned (fun _=>False) A w') (h0:ev≠0) :
  Calls Tryz.prog 16 #[.agg #[.slice rp nr rc,.slice lp nl lc,.slice hp nh hc],.slice cp nc cc,.slice po no co] W fun e w'=>e=.returned (.agg #[.slice none 0 0,.int .i64 ev])/\Turned (fun _=>False) W w':=by
 have HC:=zh hd;have g2:(ev == 0)=false:=by simpa using h0
 have g3:(ev != 0)=true:=by simpa using h0
 have T0:=zh (((zr W).alloc (.cells #[.slice rp nr rc,.slice lp nl lc,.slice hp nh hc] 25 (0,0))).alloc (.cells #[.slice none 0 0,.int .i64 0] 42 (0,0)));have n1:=zh (new_second W (.cells #[.slice rp nr rc,.slice lp nl lc,.slice hp nh hc] 25 (0,0)) (.cells #[.slice none 0 0,.int .i64 0] 42 (0,0)));clear hd h0;go_enter Tryz.func16,Tryz.ntmps16;go_wp2_with fail;refine(HC.out _ T0.out).mono ?_;rintro e w1 ⟨rfl,t1⟩;have HT1:=zh (T0.out.trans t1);have HB:=zh (keepB t1 n1.out);obtain⟨y0,y1,y2,y3⟩:=box2' HB.out;clear t1;go_wp2_with fail;have HK:=set2' HB.out (.slice none 0 0) (.int .i64 ev);refine bodyPost_ret (results_lRenew _ _ (W.heap.size+1) _ _ rfl HK.1) rfl ?_;exact⟨rfl,HT1.out.fresh HK.2 fun g hg=>by omega⟩
theorem lRenew_ok(h:OIn W rs lo hi cs rp lp hp cp rc lc hc cc) (he:ordE rs lo hi cs=0) (hn8:rs.length<=8) (hm12:cs.length<=12) (os:List Or) (po:Option Addr) (co:Nat) (ho:At W.heap.size W 4 orderCells os po co) (so:∀o∈os,SzR o.limit 20)
  (hd:dueE cs.length (takesR rs cs hi) os=0) :
  Calls Tryz.prog 16 #[.agg #[.slice rp rs.length rc,.slice lp lo.length lc,.slice hp hi.length hc],.slice cp cs.length cc,.slice po os.length co] W fun e w'=>∃p c,e=.returned (.agg #[.slice p (renewL os (ordersL cs (takesR rs cs hi))).length c,.int .i64 0]) /\
   At w'.heap.size w' 4 orderCells (renewL os (ordersL cs (takesR rs cs hi))) p c/\Turned (fun _=>False) W w':=by
 have HDUE:=zh (fun A (hA:Turned (fun _=>False) W A)=>lDue_ok (h.on hA) he hn8 hm12 os po co (ho.on hA) so)
 have HORD:=zh (fun A (hA:Turned (fun _=>False) W A)=>lOrders_ok (h.on hA) he hn8 hm12)
 have hfine:fineO cs.length os=true:=by
  unfold dueE at hd;split at hd
  ·assumption
  ·cases hd
 rw[hd] at HDUE;have hlen:(ordersL cs (takesR rs cs hi)).length<=12:=Nat.le_trans (ordersTo_len _ _ _) hm12;have HSZO:=zh (fun(hz:∀u∈takesR rs cs hi,SzR u 2920300)=>orders_size cs hz)
 obtain⟨al,hal⟩ : ∃t,ordersL cs (takesR rs cs hi)=t:=⟨_,rfl⟩;obtain⟨tl,htq⟩ : ∃t,takesR rs cs hi=t:=⟨_,rfl⟩;rw[hal] at HORD HSZO hlen ⊢;rw[htq] at HORD HSZO;obtain⟨nr,hnr⟩ : ∃n,rs.length=n:=⟨_,rfl⟩;obtain⟨nl,hnl⟩ : ∃n,lo.length=n:=⟨_,rfl⟩;obtain⟨nh,hnh⟩ : ∃n,hi.length=n:=⟨_,rfl⟩;obtain⟨nc,hnc⟩ : ∃n,cs.length=n:=⟨_,rfl⟩;obtain⟨no,hno⟩ : ∃n,os.length=n:=⟨_,rfl⟩;obtain⟨na,hna⟩ : ∃n,al.length=n:=⟨_,rfl⟩;rw[hnr,hnl,hnh,hnc,hno] at HDUE;rw[hnr,hnl,hnh,hnc,hna] at HORD;rw[hnr,hnl,hnh,hnc,hno];have HLIM0:=zh (fun(V:World) (hV:Turned (fun _=>False) W V) (x:Int) (u:Rv)=>(show Calls Tryz.prog 46 #[.slice po no co,.int .i64 x,ratV u] V fun e w'=>e=.returned (ratV (limF x u os))/\Turned (fun _=>False) V w' from by
  rw[<- hno];exact lLimit_any os po co W.heap.size x u V (ho.turned hV)))
 have HFN:=zh hfine;have HSO:=zh so;have HNA:=zh hna;have hna12:(na:Int)<=12:=by rw[<- hna];omega
 have T0:=zh (((zr W).alloc (.cells #[.slice rp nr rc,.slice lp nl lc,.slice hp nh hc] 25 (0,0))).alloc (.cells #[.slice none 0 0,.int .i64 0] 42 (0,0)));have n0:=zh (new_first W (.cells #[.slice rp nr rc,.slice lp nl lc,.slice hp nh hc] 25 (0,0)) (.cells #[.slice none 0 0,.int .i64 0] 42 (0,0)));have n1:=zh (new_second W (.cells #[.slice rp nr rc,.slice lp nl lc,.slice hp nh hc] 25 (0,0)) (.cells #[.slice none 0 0,.int .i64 0] 42 (0,0)));clear h he hn8 hm12 ho so hd hfine hlen hal htq hnr hnl hnh hnc hno hna;go_enter Tryz.func16,Tryz.ntmps16;go_wp2_with fail;refine(HDUE.out _ T0.out).mono ?_;rintro e w0 ⟨rfl,t1⟩;have HT0:=zh (T0.out.trans t1);have HB0:=zh (keepB t1 n1.out);obtain⟨c0,c1,c2,-,-,-⟩:=box3 (keepB t1 n0.out);clear t1 HDUE T0 n0 n1;go_wp2_with fail;refine(HORD.out _ HT0.out).mono ?_;rintro e w1 ⟨pa,ca,rfl,hfr,ha,hsz,t2⟩;have HT1:=zh (HT0.out.trans t2);have HB1:=zh (keepB t2 HB0.out);have HAL:=zh ha;have HSZ:=zh (HSZO.out hsz);clear t2 c0 c1 c2 hfr ha hsz HORD HT0 HB0 HSZO;go_wp2_with fail
 go_loopw [9,10] (fun v i wr=>∃(k:Nat) (p:Option Addr) (c:Nat),k<=na/\i=(.int .i64 k)/\v=.slice p (renewL os (al.take k)).length c/\Hid (Grown wr w1.heap.size 70 4 orderCells (.slice p (renewL os (al.take k)).length c) (renewL os (al.take k))/\Turned (fun _=>False) w1 wr)) (fun _ i _=>na-(intOf i).toNat)
 case atStart=>exact⟨0,none,0,Nat.zero_le _,rfl,rfl,zh ⟨Grown.nil _ _ _ _ _,Turned.refl _ _⟩⟩
 case round =>
  obtain⟨k,p,c,hk,rfl,rfl,HI⟩:=hrel;by_cases hlt:k < na
  ·obtain⟨⟨ok,⟨un,ux,ud⟩⟩,hx⟩ : ∃o,al[k]? = some o:=⟨_,List.getElem?_eq_getElem (by rw[HNA.out];exact hlt)⟩
   have HST:=zh (renew_take (before:=os) hx);have hvl:=HSZ.out _ (List.mem_of_getElem? hx);obtain⟨b,a,rfl,-,e0,e1,e2,e3⟩:=(HAL.out.turned HI.out.2).orders hx;have HC0:=zh (And.intro e0 (And.intro e1 (And.intro e2 e3)));have hk0:(0:Int)<=k:=by omega
   have hk1:(k:Int) < na:=by omega
   have hlen:(renewL os (al.take k)).length<=12:=by
    unfold renewL;exact Nat.le_trans (List.length_filter_le _ _) (by rw[List.length_take];omega)
   have hone:repR ((1:Nat):Rat)=repR 1:=rfl;have hs1:SzR (repR 1) 2920300:=SzR.rep (bytes_one 2920299);have HONE:=zh (fun V=>pInt_any 1 V (by decide))
   rw[hone] at HONE;have HADD:=zh (fun V=>pAdd_any ⟨un,ux,ud⟩ (repR 1) 2920300 V (by omega) hvl hs1)
   rw[qR_repR] at HADD;have hsm:SzR (repR (qR ⟨un,ux,ud⟩ + 1)) 2920303:=SzR.rep (((qR_bytes hvl.1 hvl.2).add (bytes_one 0)).mono (by omega))
   have hqm:qR (repR (qR ⟨un,ux,ud⟩ + 1))=qR ⟨un,ux,ud⟩ + 1:=qR_repR _;obtain⟨⟨mn,mx,md⟩,hm⟩ : ∃s,repR (qR ⟨un,ux,ud⟩ + 1)=s:=⟨_,rfl⟩;rw[hm] at HADD hsm hqm;have hnb:=new_lim HFN.out ⟨ok,⟨un,ux,ud⟩⟩ ⟨mn,mx,md⟩ hqm;have hls:SzR (limF ok ⟨mn,mx,md⟩ os) 2920303:=lim_size hsm fun o ho=>(HSO.out o ho).mono (by omega)
   have HCMP:=zh (fun V=>pCmp_any (limF ok ⟨mn,mx,md⟩ os) ⟨un,ux,ud⟩ 2920303 V (by omega) hls (SzR.mono hvl (by omega)))
   have HLIM:=zh (fun V hV=>HLIM0.out V (HT1.out.trans (HI.out.2.trans hV)) ok ⟨mn,mx,md⟩)
   obtain⟨cq,hcq⟩ : ∃c,cmpQ (qR (limF ok ⟨mn,mx,md⟩ os)) (qR ⟨un,ux,ud⟩)=c:=⟨_,rfl⟩;rw[show(⟨ok,⟨un,ux,ud⟩⟩ : Or).claim=ok from rfl,show(⟨ok,⟨un,ux,ud⟩⟩ : Or).limit=⟨un,ux,ud⟩ from rfl,hcq] at hnb;rw[hcq] at HCMP;obtain⟨⟨ln,lx,ld⟩,hll⟩ : ∃s,limF ok ⟨mn,mx,md⟩ os=s:=⟨_,rfl⟩;rw[hll] at HCMP HLIM;obtain⟨⟨on,ox,od⟩,hoo⟩ : ∃s,repR (1:Rat)=s:=⟨_,rfl⟩;rw[hoo] at HONE HADD;have HNB:=zh hnb;have HCA:Hid (∀A,Turned (fun _=>False) wr A->A.cell? ⟨b,a+k*4+1,none⟩=some (.bool un)/\A.cell? ⟨b,a+k*4+2,none⟩=some (.string ux)/\A.cell? ⟨b,a+k*4+3,none⟩=some (.string ud)):=zh fun A hA=>⟨cellT hA id HC0.out.2.1,cellT hA id HC0.out.2.2.1,cellT hA id HC0.out.2.2.2⟩
   have HD0:=zh ((zr wr).drew);have HK0:=zh (HCA.out _ HD0.out);clear hx hvl e0 e1 e2 e3 hone hs1 hsm hqm hm hnb hls hcq hll hoo
   go_upto_region 9 with fail
   go_region_held3 (fun A=>A.cell? ⟨b,a+k*4+1,none⟩=some (.bool un)/\A.cell? ⟨b,a+k*4+2,none⟩=some (.string ux)/\A.cell? ⟨b,a+k*4+3,none⟩=some (.string ud))
    (first | exact HK0.out | exact HCA.out _ (HD0.out.alloc _) | exact HCA.out _ T1.out | exact HCA.out _ (T1.out.alloc _) | exact HCA.out _ T2.out | exact HCA.out _ (T2.out.alloc _) | exact HCA.out _ T3.out | go_keep)
    (first
     | (have hq:=T1;clear hq;go_at_call 43;refine(HADD.out _).mono ?_;rintro e w6 ⟨rfl,t2⟩;have T2:Hid (Turned (fun _=>False) wr w6):=zh (by first | exact T1.out.trans t2 | exact(T1.out.alloc _).trans t2);(first | (have e2:=keepB t2 e1) | (have e2:w6.heap[w5.heap.size]? = some _:=keepB t2 (World.alloc_heap_new w5 _)) | skip);(first | (obtain⟨p0,p1,p2,p3,p4,p5⟩:=box3 e2;have T3:=zh (T2.out.fresh (set3 e2 (.bool mn) (.string mx) (.string md)).2 fun i hi=>by first | (rw[hi];exact Nat.le_refl _) | (rw[hi];exact T1.out.size))) | skip);clear t2)
     | (go_at_call 44;refine(HONE.out _).mono ?_;rintro e w5 ⟨rfl,t1⟩;have T1:Hid (Turned (fun _=>False) wr w5):=zh (by first | exact HD0.out.trans t1 | exact(HD0.out.alloc _).trans t1);(first | (have e1:w5.heap[wr.heap.size]? = some _:=keepB t1 (World.alloc_heap_new wr.drew _)) | skip);clear t1))
   all_goals
    first
     | (have HQ:Hid (Turned (fun _=>False) wr (((w6.setCell ⟨w5.heap.size,0,none⟩ (.bool mn)).setCell ⟨w5.heap.size,1,none⟩ (.string mx)).setCell ⟨w5.heap.size,2,none⟩ (.string md))/\(((w6.setCell ⟨w5.heap.size,0,none⟩ (.bool mn)).setCell ⟨w5.heap.size,1,none⟩ (.string mx)).setCell ⟨w5.heap.size,2,none⟩ (.string md)).heap[w5.heap.size]? = some (.cells #[.bool mn,.string mx,.string md] 68 (0,0))):=zh ⟨T3.out,(set3 e2 (.bool mn) (.string mx) (.string md)).1⟩
        clear T3 p0 p1 p2 p3 p4 p5 e2;obtain⟨Wf,hWf⟩ : ∃Wf,(((w6.setCell ⟨w5.heap.size,0,none⟩ (.bool mn)).setCell ⟨w5.heap.size,1,none⟩ (.string mx)).setCell ⟨w5.heap.size,2,none⟩ (.string md))=Wf:=⟨_,rfl⟩;rw[hWf] at HQ ⊢;obtain⟨M,hM⟩ : ∃M,w5.heap.size=M:=⟨_,rfl⟩;rw[hM] at HQ ⊢;clear hWf hM)
     | (have HQ:Hid (Turned (fun _=>False) wr (((w6.setCell ⟨wr.heap.size,0,none⟩ (.bool mn)).setCell ⟨wr.heap.size,1,none⟩ (.string mx)).setCell ⟨wr.heap.size,2,none⟩ (.string md))/\(((w6.setCell ⟨wr.heap.size,0,none⟩ (.bool mn)).setCell ⟨wr.heap.size,1,none⟩ (.string mx)).setCell ⟨wr.heap.size,2,none⟩ (.string md)).heap[wr.heap.size]? = some (.cells #[.bool mn,.string mx,.string md] 68 (0,0))):=zh ⟨T3.out,(set3 e2 (.bool mn) (.string mx) (.string md)).1⟩
        clear T3 p0 p1 p2 p3 p4 p5 e2;obtain⟨Wf,hWf⟩ : ∃Wf,(((w6.setCell ⟨wr.heap.size,0,none⟩ (.bool mn)).setCell ⟨wr.heap.size,1,none⟩ (.string mx)).setCell ⟨wr.heap.size,2,none⟩ (.string md))=Wf:=⟨_,rfl⟩;rw[hWf] at HQ ⊢;obtain⟨M,hM⟩ : ∃M,wr.heap.size=M:=⟨_,rfl⟩;rw[hM] at HQ ⊢;clear hWf hM)
     | (have HQ:Hid (Turned (fun _=>False) wr (w6.alloc (.cells #[.bool mn,.string mx,.string md] 68))/\(w6.alloc (.cells #[.bool mn,.string mx,.string md] 68)).heap[w6.heap.size]? = some (.cells #[.bool mn,.string mx,.string md] 68 (0,0))):=zh ⟨T2.out.alloc _,World.alloc_heap_new _ _⟩
        obtain⟨Wf,hWf⟩ : ∃Wf,(w6.alloc (.cells #[.bool mn,.string mx,.string md] 68))=Wf:=⟨_,rfl⟩;rw[hWf] at HQ ⊢;obtain⟨M,hM⟩ : ∃M,w6.heap.size=M:=⟨_,rfl⟩;rw[hM] at HQ ⊢;clear hWf hM)
   all_goals
    clear HCA HD0 HK0 HADD HONE T1 T2;have HCM:Hid (∀A,Turned (fun _=>False) Wf A->A.cell? ⟨b,a+k*4,none⟩=some (.int .i64 ok)/\A.cell? ⟨b,a+k*4+1,none⟩=some (.bool un)/\A.cell? ⟨b,a+k*4+2,none⟩=some (.string ux)/\A.cell? ⟨b,a+k*4+3,none⟩=some (.string ud)/\A.cell? ⟨M,0,none⟩=some (.bool mn)/\A.cell? ⟨M,1,none⟩=some (.string mx)/\A.cell? ⟨M,2,none⟩=some (.string md)):=zh fun A hA=>⟨cellT (HQ.out.1.trans hA) id HC0.out.1,cellT (HQ.out.1.trans hA) id HC0.out.2.1,cellT (HQ.out.1.trans hA) id HC0.out.2.2.1,cellT (HQ.out.1.trans hA) id HC0.out.2.2.2,(box3 (keepB hA HQ.out.2)).1,(box3 (keepB hA HQ.out.2)).2.1,(box3 (keepB hA HQ.out.2)).2.2.1⟩
    have HD1:=zh (zr Wf).drew;have HK1:=zh (HCM.out _ HD1.out)
    go_upto_region 10 with fail
    go_region_held3 (fun A=>A.cell? ⟨b,a+k*4,none⟩=some (.int .i64 ok)/\A.cell? ⟨b,a+k*4+1,none⟩=some (.bool un)/\A.cell? ⟨b,a+k*4+2,none⟩=some (.string ux)/\A.cell? ⟨b,a+k*4+3,none⟩=some (.string ud)/\A.cell? ⟨M,0,none⟩=some (.bool mn)/\A.cell? ⟨M,1,none⟩=some (.string mx)/\A.cell? ⟨M,2,none⟩=some (.string md))
     (first | exact HK3.out | exact HK2.out | exact HK1.out | go_keep)
     (first
      | (have hq:=HK2;clear hq;go_at_call 45;refine(HCMP.out _).mono ?_;rintro e w8 ⟨rfl,t2⟩;have T5:=zh (T4.out.trans t2);have HK3:=zh (HCM.out _ T5.out);clear t2)
      | (have hq:=HK1;clear hq;go_at_call 46;refine(HLIM.out _ (HQ.out.1.trans HD1.out)).mono ?_;rintro e w7 ⟨rfl,t1⟩;have T4:=zh (HD1.out.trans t1);have HK2:=zh (HCM.out _ T4.out);clear t1))
    have HTB:=zh (HQ.out.1.trans T5.out);obtain⟨q0,q1,q2,q3,-,-,-⟩:=HK3.out;have HG:=zh (HI.out.1.turned HTB.out fun _ h=>h.elim)
    have HZ:=zh (Nat.le_trans HI.out.2.size HTB.out.size);clear HCM HD1 HK1 HK2 HK3 T4 T5 HQ HC0;by_cases hc0:0 < cq
    ·have hb:newB os ⟨ok,⟨un,ux,ud⟩⟩=true:=by rw[HNB.out,decide_eq_true hc0]
     replace HST:=zh (HST.out.trans (if_pos hb));clear hb;go_wp2_with (at_builtin;(refine app_order w8 rfl _ _ rfl w1.heap.size (.slice p (renewL os (al.take k)).length c) ⟨ok,⟨un,ux,ud⟩⟩ (renewL os (al.take k)) rfl rfl HG.out HZ.out (by omega) ?_);intro p' c' w4 ho4 ht4;have HS:=zh (And.intro ho4 ht4);clear ho4 ht4)
     go_roundw
     case rel=>exact⟨k+1,p',c',by omega,by go_num,by rw[HST.out];simp,zh ⟨by rw[HST.out];exact HS.out.1,(HI.out.2.trans HTB.out).fresh HS.out.2 fun _=>id⟩⟩
     case measure=>simp[intOf];omega
    ·have hb:¬newB os ⟨ok,⟨un,ux,ud⟩⟩=true:=by rw[HNB.out,decide_eq_false hc0];simp
     replace HST:=zh (HST.out.trans (if_neg hb));clear hb;go_wp2_with fail
     go_roundw
     case rel=>exact⟨k+1,p,c,by omega,by go_num,by rw[HST.out],zh ⟨by rw[HST.out];exact HG.out,HI.out.2.trans HTB.out⟩⟩
     case measure=>simp[intOf];omega
  ·obtain rfl:k=na:=by omega
   have HFL:Hid (al.take k=al):=zh (List.take_of_length_le (by rw[HNA.out];exact Nat.le_refl _))
   have HBR:=zh (keepB HI.out.2 HB1.out);obtain⟨z0,z1,z2,z3⟩:=box2' HBR.out;go_wp2_with fail;have HK:=set2' HBR.out (.slice p (renewL os (al.take k)).length c) (.int .i64 0);refine bodyPost_ret (results_lRenew _ _ (W.heap.size+1) _ _ rfl HK.1) rfl ?_;have hsz:=getElem?_lt HB1.out;have hg:=(HI.out.1.turned HK.2 fun g hg=>by omega).at_ (fun _=>rfl) (Nat.le_refl _)
   have ht:=(HT1.out.trans HI.out.2).fresh HK.2 fun g hg=>(by omega:W.heap.size<=g)
   rw[HFL.out] at hg ht ⊢;exact⟨p,c,rfl,hg,ht⟩
end
end Go.Proofs.YtanhhdndgkhcfaaGreatDoor
