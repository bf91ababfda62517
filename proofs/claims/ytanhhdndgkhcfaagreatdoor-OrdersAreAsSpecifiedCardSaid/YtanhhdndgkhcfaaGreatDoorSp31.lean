/- Part 31 of the proof of lawSpec.card: OrdMapR, OrdRenew. Conditions: those of each theorem. -/
import Derived.Maps.OwnSet
import Derived.Test.YtanhhdndgkhcfaaGreatDoorSp01
import Derived.Test.YtanhhdndgkhcfaaGreatDoorSp29
set_option maxRecDepth 20000
set_option maxHeartbeats 8000000
namespace Go.Proofs.YtanhhdndgkhcfaaGreatDoor
open Go Go.Proofs Go.RowKit Go.Maps
def heldElem (v:Value):Option (DataW Value×List MemPlace):=some (.held v,[])
def MapR (w:World) (b n:Nat) (ks:List Int) (f:Int->Option Rv):Prop :=
 ∃D:DataW Value,w.ownsMap Tryz.prog 3 heldElem b n D/\Maps.size D=ks.length/\ks.Nodup/\(∀x,x∈ks↔(f x).isSome=true)/\∀x:Int,Maps.has D (.int .i64 x)=(f x).isSome/\D.atKey (.int .i64 x) (.held (ratV zeroR))=.held (ratV ((f x).getD zeroR))
theorem wf_int{x:Int} (h : -9223372036854775808<=x/\x<=9223372036854775807):(Lit.int .i64 x).wf=true:=by
 show(decide (IntKind.i64.min<=x) && decide (x<=IntKind.i64.max))=true;rw[Bool.and_eq_true,decide_eq_true_eq,decide_eq_true_eq,show IntKind.i64.min = -9223372036854775808 from rfl,show IntKind.i64.max=9223372036854775807 from rfl];exact h
theorem key_int{x:Int} (h : -9223372036854775808<=x/\x<=9223372036854775807):keyOf Tryz.prog 3 (.int .i64 x)=some (.int .i64 x):=keyOf_int_mk Tryz.underlying3 (wf_int h)
theorem zeroRat(w:World):(zeroValue 68).run Tryz.prog w=.ok (ratV zeroR) w:=by kernel_rfl
theorem MapR.made(w:World):MapR (w.alloc (.map #[] 0)) w.heap.size 0 [] fun _=>none :=
 ⟨.map [],World.ownsMap_made w Tryz.prog 3 heldElem,rfl,List.nodup_nil,fun x=>by simp,fun x=>⟨rfl,rfl⟩⟩
theorem MapR.lt{w:World} {b n:Nat} {ks:List Int} {f:Int->Option Rv} (h:MapR w b n ks f):b < w.heap.size:=by
 obtain⟨D,h1,-⟩:=h;exact h1.lt
theorem MapR.turned{w w':World} {b n:Nat} {ks:List Int} {f:Int->Option Rv} (h:MapR w b n ks f) {C:Nat->Prop} (ht:Turned C w w') (hC:¬C b):MapR w' b n ks f:=by
 have hlt:=h.lt;obtain⟨D,⟨es,clock,h1,h2⟩,h3⟩:=h;exact⟨D,⟨es,clock,(ht.block b hlt hC).trans h1,h2⟩,h3⟩
theorem MapR.look{w:World} {b n:Nat} {ks:List Int} {f:Int->Option Rv} (h:MapR w b n ks f) {x:Int} (hx : -9223372036854775808<=x/\x<=9223372036854775807) :
  (Instr.lookup 79 (.map (some b)) (.int .i64 x) true).run Tryz.prog w=.ok (.tuple #[ratV ((f x).getD zeroR),.bool (f x).isSome]) w:=by
 obtain⟨D,h1,-,-,-,h5⟩:=h;obtain⟨v,ps,hrun,hv⟩:=h1.look_ok (int_keyed Tryz.underlying3) Tryz.underlying79 (zeroRat w) (zd:=.held (ratV zeroR)) (zp:=[]) rfl (key_int hx);rw[(h5 x).2] at hv;unfold heldElem at hv;simp only[Option.some.injEq,Prod.mk.injEq,DataW.held.injEq] at hv;rw[hv.1,(h5 x).1] at hrun;exact hrun
theorem key_ne{x y:Int} (h:x≠y):(Lit.int .i64 x)≠.int .i64 y:=fun e=>h (by cases e;rfl)
theorem MapR.put{w w':World} {b n:Nat} {ks:List Int} {f:Int->Option Rv} {D:DataW Value} {y:Int} {u:Rv} (h1:w.ownsMap Tryz.prog 3 heldElem b n D) (h2:Maps.size D=ks.length) (h3:ks.Nodup) (h4:∀x,x∈ks↔(f x).isSome=true)
  (h5:∀x:Int,Maps.has D (.int .i64 x)=(f x).isSome/\D.atKey (.int .i64 x) (.held (ratV zeroR))=.held (ratV ((f x).getD zeroR))) (hown:w'.ownsMap Tryz.prog 3 heldElem b (n+1) (D.put (.int .i64 y) (.held (ratV u)))) :
  MapR w' b (n+1) (if y∈ks then ks else ks++[y]) fun z=>if z=y then some u else f z:=by
 refine⟨_,hown,?_,?_,fun x=>?_,fun x=>?_⟩
 ·rw[size_put (h1.tidy (int_keyed Tryz.underlying3)),(h5 y).1];by_cases h:y∈ks
  ·rw[if_pos ((h4 y).1 h),if_pos h,h2]
  ·rw[if_neg (fun hs=>h ((h4 y).2 hs)),if_neg h,h2,List.length_append,List.length_singleton]
 ·by_cases h:y∈ks
  ·rw[if_pos h];exact h3
  ·rw[if_neg h];exact List.nodup_append.2 ⟨h3,by simp,fun a ha c hc=>by
    rw[List.mem_singleton] at hc;subst hc;rintro rfl;exact h ha⟩
 ·by_cases hx:x=y
  ·subst hx;simp only[if_pos,Option.isSome_some,iff_true];by_cases h:x∈ks
   ·rw[if_pos h];exact h
   ·rw[if_neg h];simp
  ·dsimp only;rw[if_neg hx,<- h4 x];by_cases h:y∈ks
   ·rw[if_pos h]
   ·rw[if_neg h];simp[hx]
 ·by_cases hx:x=y
  ·subst hx;dsimp only;rw[if_pos rfl];exact⟨has_put_same h1.isMap (show WideAt.IsKeyLit (.int .i64 x) from trivial) _,atKey_put_same h1.isMap (show WideAt.IsKeyLit (.int .i64 x) from trivial) _ _⟩
  ·dsimp only;rw[if_neg hx];exact⟨by rw[has_put_other (key_ne hx)];exact(h5 x).1,by rw[atKey_put_other (key_ne hx)];exact(h5 x).2⟩
theorem put_mapR(W:World) {ops:Array Oper} {rest:List Oper} {o:Oper} {a:Act} {Q:Exit->Act->World->Prop} (hg:o.guard=none) (m x v:Operand) (hop:o.op=Op.mapUpdate 79 m x v) (b n:Nat) (ks:List Int) (f:Int->Option Rv)
  (hm:a.eval m=.map (some b)) (hown:MapR W b n ks f) (hn:n < maxLen) (y:Int) (hy : -9223372036854775808<=y/\y<=9223372036854775807) (u:Rv) (hx:a.eval x=(.int .i64 y)) (hv:a.eval v=ratV u)
  (hK:∀w',MapR w' b (n+1) (if y∈ks then ks else ks++[y]) (fun z=>if z=y then some u else f z)->Turned (fun i=>i=b) W w'->wpList Tryz.prog ops Q rest (a.put o.dst undef) w') :
  wpList Tryz.prog ops Q (o::rest) a W:=by
 obtain⟨D,h1,h2,h3,h4,h5⟩:=hown;refine wpList_mapUpdate_own W hg m x v 79 hop 3 68 (int_keyed Tryz.underlying3) Tryz.underlying79 heldElem b n D hm h1 hn (.int .i64 y) (ratV u) (.int .i64 y) hx hv (key_int hy) (.held (ratV u)) [] rfl fun w' hown' hgrow=>?_
 exact hK w' (MapR.put h1 h2 h3 h4 h5 hown') ⟨hgrow.os,hgrow.tape,hgrow.output,hgrow.size,fun i hi h=>hgrow.block i hi fun e=>h (by cases e;rfl)⟩
attribute [local go_sem] Oper.semAt_some
attribute [local go_sem ↓] run_eql_rat' run_neq_rat'
def givenF (os:List Or) (x:Int):Option Rv:=os.foldl (fun a o=>if x=o.claim then some o.limit else a) none
def givenK (os:List Or):List Int:=os.foldl (fun ks o=>if o.claim∈ks then ks else ks++[o.claim]) []
theorem givenF_snoc(os:List Or) (o:Or):givenF (os++[o])=fun x=>if x=o.claim then some o.limit else givenF os x:=by
 funext x
 unfold givenF;rw[List.foldl_append];rfl
theorem givenK_snoc(os:List Or) (o:Or):givenK (os++[o])=if o.claim∈givenK os then givenK os else givenK os++[o.claim]:=by
 unfold givenK;rw[List.foldl_append];rfl
theorem fold_mem(x:Int):∀(os:List Or) (a:Option Rv) (l:Rv),os.foldl (fun a o=>if x=o.claim then some o.limit else a) a=some l->a=some l\/∃o∈os,o.limit=l
 | [],a,l,h=>.inl h
 | o::os,a,l,h=>by
  rcases fold_mem x os _ l h with h1 | ⟨o',h2,h3⟩
  ·dsimp only at h1;split at h1
   ·cases h1
    exact .inr ⟨o,by simp,rfl⟩
   ·exact .inl h1
  ·exact .inr ⟨o',by simp[h2],h3⟩
theorem givenF_mem{os:List Or} {x:Int} {l:Rv} (h:givenF os x=some l):∃o∈os,o.limit=l:=by
 rcases fold_mem x os none l h with h1 | h1
 ·cases h1
 ·exact h1
theorem orders_claim{cs:List Cl} {ts:List Rv} {o:Or} (h:o∈ordersL cs ts):0<=o.claim/\o.claim < cs.length:=by
 unfold ordersL ordersTo at h;obtain⟨i,hi,rfl⟩:=List.mem_map.1 h;have:=List.mem_range.1 (List.mem_filter.1 hi).1;show(0:Int)<=i/\(i:Int) < cs.length;omega
theorem cmpQ_pos{p q:Rat} {c:Int} (h:cmpQ p q=c):decide (q < p)=decide (0 < c):=by
 subst h
 congr 1
 have h1:=cmpQ_le (p:=p) (q:=q);refine propext ⟨fun h2=>?_,fun h2=>?_⟩
 ·rcases Int.lt_or_le 0 (cmpQ p q) with h3 | h3
  ·exact h3
  ·exact absurd (h1.1 h3) (Rat.not_le.2 h2)
 ·exact Rat.not_le.1 fun h3=>by have:=h1.2 h3;omega
def newB (before:List Or) (o:Or):Bool:=match givenF before o.claim with
 | none=>true
 | some l=>decide (qR o.limit < qR l)
def renewL (before all:List Or):List Or:=all.filter (newB before)
theorem renew_take{before all:List Or} {k:Nat} {o:Or} (h:all[k]? = some o):renewL before (all.take (k+1))=if newB before o=true then renewL before (all.take k)++[o] else renewL before (all.take k):=by
 obtain⟨hlt,rfl⟩:=List.getElem?_eq_some_iff.1 h;unfold renewL;rw[List.take_succ_eq_append_getElem hlt,List.filter_append,List.filter_cons,List.filter_nil];split <;> simp
section
variable {rs:List Rc} {lo hi:List Rv} {cs:List Cl} {rp lp hp cp:Option Addr} {rc lc hc cc:Nat} {W:World}
theorem oRenew_bad(no:Nat) (po:Option Addr) (co nr nl nh nc:Nat) {ev:Int} (hd:∀A,Turned (fun _=>False) W A->Calls Tryz.prog 24 #[.agg #[.slice rp nr rc,.slice lp nl lc,.slice hp nh hc],.slice cp nc cc,.slice po no co] A fun e w'=>e=.returned (.int .i64 ev)/\Turned (fun _=>False) A w') (h0:ev≠0) :
  Calls Tryz.prog 15 #[.agg #[.slice rp nr rc,.slice lp nl lc,.slice hp nh hc],.slice cp nc cc,.slice po no co] W fun e w'=>e=.returned (.tuple #[.slice none 0 0,.int .i64 ev])/\Turned (fun _=>False) W w':=by
 have HC:=zh hd;have g2:(ev == 0)=false:=by simpa using h0
 have g3:(ev != 0)=true:=by simpa using h0
 have HT:=zh ((zr W).alloc (.cells #[.slice rp nr rc,.slice lp nl lc,.slice hp nh hc] 25));clear hd h0;go_enter Tryz.func15,Tryz.ntmps15;go_wp2_with fail;refine(HC.out _ HT.out).mono ?_;rintro e w1 ⟨rfl,t1⟩;have HT1:=zh (HT.out.trans t1);clear t1;go_wp2_with fail
 go_ret2
 exact⟨rfl,HT1.out⟩
theorem oRenew_ok(h:OIn W rs lo hi cs rp lp hp cp rc lc hc cc) (he:ordE rs lo hi cs=0) (hn8:rs.length<=8) (hm12:cs.length<=12) (os:List Or) (po:Option Addr) (co:Nat) (ho:At W.heap.size W 4 orderCells os po co) (so:∀o∈os,SzR o.limit 24000300)
  (hd:dueE cs.length (takesR rs cs hi) os=0) (hlo:os.length<=1000) :
  Calls Tryz.prog 15 #[.agg #[.slice rp rs.length rc,.slice lp lo.length lc,.slice hp hi.length hc],.slice cp cs.length cc,.slice po os.length co] W fun e w'=>∃p c,e=.returned (.tuple #[.slice p (renewL os (ordersL cs (takesR rs cs hi))).length c,.int .i64 0]) /\
   Grown w' W.heap.size 70 4 orderCells (.slice p (renewL os (ordersL cs (takesR rs cs hi))).length c) (renewL os (ordersL cs (takesR rs cs hi)))/\Turned (fun _=>False) W w':=by
 have HDU:=zh (fun A (hA:Turned (fun _=>False) W A)=>oDue_ok (h.on hA) he hn8 hm12 os po co (ho.on hA) fun o h=>(so o h).mono (by decide))
 have HOR:=zh (fun A (hA:Turned (fun _=>False) W A)=>oOrders_ok (h.on hA) he hn8 hm12)
 rw[hd] at HDU;obtain⟨al,hal⟩ : ∃l,ordersL cs (takesR rs cs hi)=l:=⟨_,rfl⟩;have hll:al.length<=12:=by rw[<- hal];exact Nat.le_trans (ordersTo_len _ _ _) hm12
 have hcb:∀o∈os,-9223372036854775808<=o.claim/\o.claim<=9223372036854775807:=fun o hx=>by
  unfold dueE at hd;split at hd
  ·rename_i hf
   obtain⟨i,hi⟩:=List.mem_iff_getElem?.1 hx;have:=fine_in (fineO_of.1 hf) (List.getElem?_eq_some_iff.1 hi).1 hi;omega
  ·cases hd
 have hca:∀o∈al,-9223372036854775808<=o.claim/\o.claim<=9223372036854775807:=fun o hx=>by
  rw[<- hal] at hx;have:=orders_claim hx;omega
 have HCA:=zh hca;rw[hal] at HOR;rw[hal];obtain⟨nr,hnr⟩ : ∃n,rs.length=n:=⟨_,rfl⟩;obtain⟨nl,hnl⟩ : ∃n,lo.length=n:=⟨_,rfl⟩;obtain⟨nh,hnh⟩ : ∃n,hi.length=n:=⟨_,rfl⟩;obtain⟨nc,hnc⟩ : ∃n,cs.length=n:=⟨_,rfl⟩;obtain⟨no,hno⟩ : ∃n,os.length=n:=⟨_,rfl⟩;rw[hno] at hlo;rw[hnr,hnl,hnh,hnc,hno] at HDU;rw[hnr,hnl,hnh,hnc] at HOR;rw[hnr,hnl,hnh,hnc,hno];have HCB:=zh hcb;have HNO:=zh hno;have HO:=zh ho;have HSO:=zh so;have HAL:=zh hal;have HT:=zh ((zr W).alloc (.cells #[.slice rp nr rc,.slice lp nl lc,.slice hp nh hc] 25));have hmm:∀w:World,(Instr.makeMap 79 none).run Tryz.prog w=.ok (.map (some w.heap.size)) (w.alloc (.map #[] 0)):=fun w=>rfl
 have hmo:(no:Int)<=1000:=by omega
 have HLL:=zh hll;have n0:=World.alloc_heap_new W (.cells #[.slice rp nr rc,.slice lp nl lc,.slice hp nh hc] 25);have HN0:=zh n0;clear h he hnr hnl hnh hnc hno hn8 hm12 ho so hd hal hll hcb n0 hlo hca;go_enter Tryz.func15,Tryz.ntmps15;go_wp2_with fail;refine(HDU.out _ HT.out).mono ?_;rintro e w1 ⟨rfl,t1⟩;have HT1:=zh (HT.out.trans t1);have HF1:=zh (keepB t1 HN0.out);clear t1 HDU;go_wp2_with fail;have hmr:=MapR.made w1;have T2:=(zr w1).alloc (.map #[] 0);obtain⟨w2,hw2⟩ : ∃w,w=w1.alloc (.map #[] 0):=⟨_,rfl⟩;obtain⟨M,hM⟩ : ∃m,w1.heap.size=m:=⟨_,rfl⟩;rw[<- hw2] at hmr T2 ⊢;rw[hM] at hmr ⊢;have HMR:=zh hmr;have HT2:=zh (HT1.out.trans T2);have HM:=zh (And.intro hM (keepB T2 HF1.out));clear hmr T2 hw2 hM hmm
 go_loopw [29] (fun i wr=>∃k:Nat,k<=no/\i=(.int .i64 k)/\Hid (MapR wr M k (givenK (os.take k)) (givenF (os.take k))/\Turned (fun i=>i=M) w2 wr)) (fun i _=>no-(intOf i).toNat)
 case atStart=>exact⟨0,Nat.zero_le _,rfl,zh ⟨HMR.out,Turned.refl _ _⟩⟩
 case round =>
  obtain⟨k,hk,rfl,HI⟩:=hrel;by_cases hlt:k < no
  ·have hx:os[k]? = some (os[k]'(by rw[HNO.out];exact hlt)):=List.getElem?_eq_getElem _
   obtain⟨⟨ok,⟨un,ux,ud⟩⟩,hxe⟩ : ∃u,os[k]'(by rw[HNO.out];exact hlt)=u:=⟨_,rfl⟩
   rw[hxe] at hx;have hmem:=List.mem_of_getElem? hx;have hst:os.take (k+1)=os.take k++[⟨ok,⟨un,ux,ud⟩⟩]:=by
    obtain⟨h1,h2⟩:=List.getElem?_eq_some_iff.1 hx;rw[List.take_succ_eq_append_getElem h1,h2]
   have HST:=zh hst;have HOB:=zh (HCB.out _ hmem);have hT:Turned (fun _=>False) W wr:=HT2.out.fresh HI.out.2 fun g hg=>by have h1:=HT1.out.size;have h2:=HM.out.1;omega
   obtain⟨b,a,rfl,-,e0,e1,e2,e3⟩:=(HO.out.turned hT).orders hx;have TA:=(zr wr).alloc (.cells #[.int .i64 ok,.bool un,.string ux,.string ud] 70);have HMA:=zh (HI.out.1.turned TA id);have HTA:=zh (HI.out.2.trans (TA.mono fun _ h=>h.elim))
   have hk0:(0:Int)<=k:=by omega
   have hk1:(k:Int) < no:=by omega
   clear hx hxe hmem hst hT TA;go_wp2_with (at_mapUpdate;refine put_mapR _ rfl _ _ _ rfl M k _ _ rfl HMA.out (by unfold maxLen;omega) ok HOB.out ⟨un,ux,ud⟩ rfl rfl ?_;intro w4 hm4 ht4;have HS:=zh (And.intro hm4 ht4);clear hm4 ht4)
   go_roundw
   case rel=>exact⟨k+1,by omega,by go_num,zh ⟨by rw[HST.out,givenF_snoc,givenK_snoc];exact HS.out.1,HTA.out.trans HS.out.2⟩⟩
   case measure=>simp[intOf];omega
  ·obtain rfl:k=no:=by omega
   have hmr:=HI.out.1;rw[List.take_of_length_le (Nat.le_of_eq HNO.out)] at hmr;have hT:Turned (fun _=>False) W wr:=HT2.out.fresh HI.out.2 fun g hg=>by have h1:=HT1.out.size;have h2:=HM.out.1;omega
   have hfb:=(HI.out.2.block W.heap.size (getElem?_lt HM.out.2) (by have h1:=getElem?_lt HF1.out;have h2:=HM.out.1;omega)).trans HM.out.2
   have d0:wr.cell? ⟨W.heap.size,0,none⟩=some (.slice rp nr rc):=by simp[World.cell?,hfb]
   have d1:wr.cell? ⟨W.heap.size,1,none⟩=some (.slice lp nl lc):=by simp[World.cell?,hfb]
   have d2:wr.cell? ⟨W.heap.size,2,none⟩=some (.slice hp nh hc):=by simp[World.cell?,hfb]
   have HMR2:=zh hmr;have HTT:=zh hT;clear hmr hT hfb HI HMR;go_wp2_with fail;refine(HOR.out wr HTT.out).mono ?_;rintro e w5 ⟨pa,ca,rfl,hga,hsa,t5⟩;have HAT:=zh (hga.at_ (fun _=>rfl) (Nat.le_refl _))
   have HSA:=zh hsa;have HMR5:=zh (HMR2.out.turned t5 id);have HT5:=zh (HTT.out.trans t5);obtain⟨na,hna⟩ : ∃n,al.length=n:=⟨_,rfl⟩;have hll:=HLL.out;rw[hna] at hll ⊢;have HNA:=zh hna;have hma:(na:Int)<=12:=by omega
   clear hga hsa t5 hna d0 d1 d2 HMR2 HTT HOR;go_wp2_with fail
   go_loopw [14,47] (fun v i wr=>∃(j:Nat) (p:Option Addr) (c:Nat),j<=na/\i=(.int .i64 j)/\v=.slice p (renewL os (al.take j)).length c/\Hid (Grown wr w5.heap.size 70 4 orderCells (.slice p (renewL os (al.take j)).length c) (renewL os (al.take j))/\Turned (fun _=>False) w5 wr)) (fun _ i _=>na-(intOf i).toNat)
   case atStart=>exact⟨0,none,0,Nat.zero_le _,rfl,rfl,zh ⟨Grown.nil _ _ _ _ _,Turned.refl _ _⟩⟩
   case round =>
    obtain⟨j,p,c,hj,rfl,rfl,HI⟩:=hrel;by_cases hlt:j < na
    ·have hx:al[j]? = some (al[j]'(by rw[HNA.out];exact hlt)):=List.getElem?_eq_getElem _
     obtain⟨⟨ok,⟨un,ux,ud⟩⟩,hxe⟩ : ∃u,al[j]'(by rw[HNA.out];exact hlt)=u:=⟨_,rfl⟩
     rw[hxe] at hx;have hmem:=List.mem_of_getElem? hx;have HRT:=zh (renew_take (before:=os) hx);have HKB:=zh (HCA.out _ hmem);have HSU:=zh (HSA.out _ hmem);have hlen:(renewL os (al.take j)).length<=12:=Nat.le_trans (List.length_filter_le _ _) (by rw[List.length_take];omega)
     obtain⟨b,a,rfl,-,e0,e1,e2,e3⟩:=(HAT.out.turned HI.out.2).orders hx;have TA:=(zr wr).alloc (.cells #[.int .i64 ok,.bool un,.string ux,.string ud] 70);have hrun:=((HMR5.out.turned HI.out.2 id).turned TA id).look HKB.out;have hj0:(0:Int)<=j:=by omega
     have hj1:(j:Int) < na:=by omega
     have hnb:newB os ⟨ok,⟨un,ux,ud⟩⟩=match givenF os ok with | none=>true | some l=>decide (qR ⟨un,ux,ud⟩ < qR l):=rfl
     clear hx hxe hmem;cases hf:givenF os ok with
     | none =>
      rw[hf] at hrun hnb;replace HRT:=zh (HRT.out.trans (if_pos hnb));have hrun2:(Instr.lookup 79 (.map (some M)) (.int .i64 ok) true).run Tryz.prog (wr.alloc (.cells #[.int .i64 ok,.bool un,.string ux,.string ud] 70))=.ok (.tuple #[.agg #[.bool false,.string ⟨#[]⟩,.string ⟨#[]⟩],.bool false]) (wr.alloc (.cells #[.int .i64 ok,.bool un,.string ux,.string ud] 70)):=hrun;have z0:=new_first wr (.cells #[.int .i64 ok,.bool un,.string ux,.string ud] 70) (.cells #[.bool false,.string ⟨#[]⟩,.string ⟨#[]⟩] 68);obtain⟨w7,hw7⟩ : ∃w,w=(wr.alloc (.cells #[.int .i64 ok,.bool un,.string ux,.string ud] 70)).alloc (.cells #[.bool false,.string ⟨#[]⟩,.string ⟨#[]⟩] 68):=⟨_,rfl⟩;have HT7:Hid (Turned (fun _=>False) wr w7):=zh (by rw[hw7];exact TA.alloc _)
      have HG:=zh (HI.out.1.turned HT7.out fun _ h=>h.elim)
      have HZ:=zh (Nat.le_trans HI.out.2.size HT7.out.size);have hsz7:w7.heap.size=wr.heap.size+1+1:=by rw[hw7];simp
      clear hrun hnb hf TA;go_wp2_with (at_builtin;(rw[<- hw7];refine app_order w7 rfl _ _ rfl w5.heap.size (.slice p (renewL os (al.take j)).length c) ⟨ok,⟨un,ux,ud⟩⟩ (renewL os (al.take j)) rfl (by rw[hsz7];rfl) HG.out HZ.out (by omega) ?_);intro p' c' w8 ho8 ht8;have HS:=zh (And.intro ho8 ht8);clear ho8 ht8)
      go_roundw
      case rel=>exact⟨j+1,p',c',by omega,by go_num,by rw[HRT.out];simp,zh ⟨by rw[HRT.out];exact HS.out.1,(HI.out.2.trans HT7.out).fresh HS.out.2 fun _=>id⟩⟩
      case measure=>simp[intOf];omega
     | some l =>
      obtain⟨ln,lx,ld⟩:=l;have HSL:=zh (show SzR ⟨ln,lx,ld⟩ 24000300 by
       obtain⟨o,h1,h2⟩:=givenF_mem hf;rw[<- h2];exact HSO.out o h1)
      rw[hf] at hrun hnb;obtain⟨q,hq⟩ : ∃q,cmpQ (qR ⟨ln,lx,ld⟩) (qR ⟨un,ux,ud⟩)=q:=⟨_,rfl⟩;have hnb2:newB os ⟨ok,⟨un,ux,ud⟩⟩=decide (0 < q):=hnb.trans (cmpQ_pos hq);have HCMP:=zh (fun W=>qCmp_any ⟨ln,lx,ld⟩ ⟨un,ux,ud⟩ 24000300 W (by decide) (by decide) HSL.out HSU.out)
      rw[hq] at HCMP;have hrun2:(Instr.lookup 79 (.map (some M)) (.int .i64 ok) true).run Tryz.prog (wr.alloc (.cells #[.int .i64 ok,.bool un,.string ux,.string ud] 70))=.ok (.tuple #[.agg #[.bool ln,.string lx,.string ld],.bool true]) (wr.alloc (.cells #[.int .i64 ok,.bool un,.string ux,.string ud] 70)):=hrun;have z0:=new_first wr (.cells #[.int .i64 ok,.bool un,.string ux,.string ud] 70) (.cells #[.bool ln,.string lx,.string ld] 68);have TB:=TA.alloc (.cells #[.bool ln,.string lx,.string ld] 68);obtain⟨w7,hw7⟩ : ∃w,w=(wr.alloc (.cells #[.int .i64 ok,.bool un,.string ux,.string ud] 70)).alloc (.cells #[.bool ln,.string lx,.string ld] 68):=⟨_,rfl⟩;have HT7:Hid (Turned (fun _=>False) wr w7):=zh (by rw[hw7];exact TB)
      have HZ0:Hid (w7.heap[wr.heap.size]? = some (.cells #[.int .i64 ok,.bool un,.string ux,.string ud] 70 (0,0))):=zh (by rw[hw7];exact z0)
      have x1:w7.cell? ⟨wr.heap.size,1,none⟩=some (.bool un):=by simp[World.cell?,HZ0.out]
      have x2:w7.cell? ⟨wr.heap.size,2,none⟩=some (.string ux):=by simp[World.cell?,HZ0.out]
      have x3:w7.cell? ⟨wr.heap.size,3,none⟩=some (.string ud):=by simp[World.cell?,HZ0.out]
      rw[hw7] at x1 x2 x3;clear hrun hnb hf hq TA TB z0;go_wp2_with fail;rw[<- hw7];refine(HCMP.out w7).mono ?_;rintro e w8 ⟨rfl,t8⟩;have HT8:=zh (HT7.out.trans t8);have z8:=keepB t8 HZ0.out;have y0:w8.cell? ⟨wr.heap.size,0,none⟩=some (.int .i64 ok):=by simp[World.cell?,z8]
      have y1:w8.cell? ⟨wr.heap.size,1,none⟩=some (.bool un):=by simp[World.cell?,z8]
      have y2:w8.cell? ⟨wr.heap.size,2,none⟩=some (.string ux):=by simp[World.cell?,z8]
      have y3:w8.cell? ⟨wr.heap.size,3,none⟩=some (.string ud):=by simp[World.cell?,z8]
      have HG:=zh (HI.out.1.turned HT8.out fun _ h=>h.elim)
      have HZ:=zh (Nat.le_trans HI.out.2.size HT8.out.size);clear x1 x2 x3 hw7 t8 z8 e0 e1 e2 e3 hrun2;by_cases h0:0 < q
      ·replace HRT:=zh (HRT.out.trans (if_pos (by rw[hnb2];exact decide_eq_true h0)))
       clear hnb2;go_wp2_with (at_builtin;(refine app_order w8 rfl _ _ rfl w5.heap.size (.slice p (renewL os (al.take j)).length c) ⟨ok,⟨un,ux,ud⟩⟩ (renewL os (al.take j)) rfl rfl HG.out HZ.out (by omega) ?_);intro p' c' w9 ho8 ht8;have HS:=zh (And.intro ho8 ht8);clear ho8 ht8)
       go_roundw
       case rel=>exact⟨j+1,p',c',by omega,by go_num,by rw[HRT.out];simp,zh ⟨by rw[HRT.out];exact HS.out.1,(HI.out.2.trans HT8.out).fresh HS.out.2 fun _=>id⟩⟩
       case measure=>simp[intOf];omega
      ·replace HRT:=zh (HRT.out.trans (if_neg (by rw[hnb2];simpa using h0)))
       clear hnb2;go_wp2_with fail
       go_roundw
       case rel=>exact⟨j+1,p,c,by omega,by go_num,by rw[HRT.out],zh ⟨by rw[HRT.out];exact HG.out,HI.out.2.trans HT8.out⟩⟩
       case measure=>simp[intOf];omega
    ·obtain rfl:j=na:=by omega
     have hrt:renewL os (al.take j)=renewL os al:=by rw[List.take_of_length_le (Nat.le_of_eq HNA.out)]
     have HRT:=zh hrt;clear hrt;go_wp2_with fail
     go_ret2
     rw[<- HRT.out];exact⟨p,c,rfl,HI.out.1.low HT5.out.size,HT5.out.trans HI.out.2⟩
end
end Go.Proofs.YtanhhdndgkhcfaaGreatDoor
