/- Part 6 of the proof of lawSpec.card: RatWalkC, RatWalkD, RatSize, RatWalkE, RatWalkF. Conditions: those of each theorem. -/
import Derived.Test.YtanhhdndgkhcfaaGreatDoorSp01
import Derived.Test.YtanhhdndgkhcfaaGreatDoorSp05
set_option maxRecDepth 20000
set_option maxHeartbeats 4000000
namespace Go.Proofs.YtanhhdndgkhcfaaGreatDoor
open Go Go.Proofs Go.RowKit
attribute [local go_sem] Oper.semAt_some
attribute [local go_sem ↓] run_eql_rat' run_neq_rat'
theorem results_plus(tmps:Array Value) (w:World) (g:Nat) (a b c:Value) (hp:tmps.getD 4 undef=.pointer (some ⟨g,0,none⟩)) (hg:w.heap[g]? = some (.cells #[a,b,c] 114 (0,0))) :
  (results Tryz.f102 tmps).run Tryz.prog w=.ok (.agg #[a,b,c]) w :=
 results_cell_row (fn:=Tryz.f102) rfl tmps w g 114 #[a,b,c] (0,0) _ hp hg Tryz.underlying114 rfl (by kernel_rfl)
theorem new3(W:World) (o1 o2 o3:Obj):(((W.alloc o1).alloc o2).alloc o3).heap[W.heap.size]? = some o1/\(((W.alloc o1).alloc o2).alloc o3).heap[W.heap.size+1]? = some o2/\(((W.alloc o1).alloc o2).alloc o3).heap[W.heap.size+1+1]? = some o3:=by
 refine⟨keepB ((Turned.refl _ _).alloc o3) (new_first W o1 o2),keepB ((Turned.refl _ _).alloc o3) (new_second W o1 o2),?_⟩;have:=World.alloc_heap_new ((W.alloc o1).alloc o2) o3;simpa using this
theorem mv3{W w w':World} {b0 b1 b2:Nat} {o0 o1 o2:Obj} (h:w.heap[b0]? = some o0/\w.heap[b1]? = some o1/\w.heap[b2]? = some o2/\Turned (fun _=>False) W w) (t:Turned (fun _=>False) w w'):w'.heap[b0]? = some o0/\w'.heap[b1]? = some o1/\w'.heap[b2]? = some o2/\Turned (fun _=>False) W w' :=
 ⟨keepB t h.1,keepB t h.2.1,keepB t h.2.2.1,h.2.2.2.trans t⟩
theorem s4{W w:World} {b0 b1 b2 t1 t2:Nat} {o2:Obj} {x0 x1 x2 y0 y1 y2:Value} (h:w.heap[b0]? = some (.cells #[x0,x1,x2] t1 (0,0))/\w.heap[b1]? = some (.cells #[y0,y1,y2] t2 (0,0))/\w.heap[b2]? = some o2/\Turned (fun _=>False) W w):w.cell? ⟨b0,1,none⟩=some x1/\w.cell? ⟨b0,2,none⟩=some x2/\w.cell? ⟨b1,1,none⟩=some y1/\w.cell? ⟨b1,2,none⟩=some y2 :=
 ⟨(box3 h.1).2.1,(box3 h.1).2.2.1,(box3 h.2.1).2.1,(box3 h.2.1).2.2.1⟩
theorem turn_first{W w:World} {b1 b2 t1:Nat} {o1 o2:Obj} {x0 x1 x2:Value} (u:Value) (h:w.heap[W.heap.size]? = some (.cells #[x0,x1,x2] t1 (0,0))/\w.heap[b1]? = some o1/\w.heap[b2]? = some o2/\Turned (fun _=>False) W w) (n1:b1≠W.heap.size) (n2:b2≠W.heap.size) :
  (w.setCell ⟨W.heap.size,0,none⟩ u).drew.heap[W.heap.size]? = some (.cells #[u,x1,x2] t1 (0,0))/\(w.setCell ⟨W.heap.size,0,none⟩ u).drew.heap[b1]? = some o1/\(w.setCell ⟨W.heap.size,0,none⟩ u).drew.heap[b2]? = some o2/\Turned (fun _=>False) W (w.setCell ⟨W.heap.size,0,none⟩ u).drew:=by
 have t1:Turned (fun k=>k=W.heap.size) w (w.setCell ⟨W.heap.size,0,none⟩ u):=(Turned.refl (fun k=>k=W.heap.size) w).setCell (p:=⟨W.heap.size,0,none⟩) rfl _
 have e1:=set_block h.1 0 u;refine⟨keepB ((Turned.refl _ _).drew) (e1.trans (by simp)),keepB ((Turned.refl _ _).drew) ((t1.block b1 (getElem?_lt h.2.1) n1).trans h.2.1),keepB ((Turned.refl _ _).drew) ((t1.block b2 (getElem?_lt h.2.2.1) n2).trans h.2.2.1),(h.2.2.2.fresh t1 fun g hg=>by omega).drew⟩
theorem plus_any'(fn gn:Bool) (a b c d k:Nat) (W:World) (hk:k<=100000000) (ha:(encB a).size<=k) (hb:(encB b).size<=k) (hc:(encB c).size<=k) (hd:(encB d).size<=k) :
  Calls Tryz.prog 102 #[frV (fn,a,b),frV (gn,c,d)] W fun e w'=>e=.returned (frV (plusF (fn,a,b) (gn,c,d)))/\Turned (fun _=>False) W w':=by
 have H1:=zh (fun W=>nMul_any (encB a) (encB d) W (by omega) (by omega))
 have H2:=zh (fun W=>nMul_any (encB c) (encB b) W (by omega) (by omega))
 have H3:=zh (fun W=>nMul_any (encB b) (encB d) W (by omega) (by omega))
 rw[natB_encB,natB_encB] at H1 H2 H3;have hp:(encB (a*d)).size<=400000000:=Nat.le_trans (encB_mul a d) (by omega)
 have hq:(encB (c*b)).size<=400000000:=Nat.le_trans (encB_mul c b) (by omega)
 have HA:=zh (fun W=>nAdd_any (encB (a*d)) (encB (c*b)) W hp hq)
 have HC:=zh (fun W=>nCmp_any (encB (a*d)) (encB (c*b)) W (by omega) (by omega))
 have HS1:=zh (fun(h:c*b<=a*d) W=>nSub_any (encB (a*d)) (encB (c*b)) W hp hq (by rw[natB_encB,natB_encB];exact h))
 have HS2:=zh (fun(h:a*d<=c*b) W=>nSub_any (encB (c*b)) (encB (a*d)) W hq hp (by rw[natB_encB,natB_encB];exact h))
 rw[natB_encB,natB_encB] at HA HC HS1 HS2;obtain⟨A,hA⟩ : ∃x,encB a=x:=⟨_,rfl⟩;obtain⟨B,hB⟩ : ∃x,encB b=x:=⟨_,rfl⟩;obtain⟨C,hC⟩ : ∃x,encB c=x:=⟨_,rfl⟩;obtain⟨D,hD⟩ : ∃x,encB d=x:=⟨_,rfl⟩;obtain⟨P,hP⟩ : ∃x,encB (a*d)=x:=⟨_,rfl⟩;obtain⟨Q,hQ⟩ : ∃x,encB (c*b)=x:=⟨_,rfl⟩;obtain⟨R,hR⟩ : ∃x,encB (b*d)=x:=⟨_,rfl⟩;rw[hA,hD,hP] at H1;rw[hC,hB,hQ] at H2;rw[hB,hD,hR] at H3;rw[hP,hQ] at HA HC HS1 HS2;have HE:=zh (And.intro hP (And.intro hQ hR));obtain⟨r,hr⟩ : ∃r,plusF (fn,a,b) (gn,c,d)=r:=⟨_,rfl⟩;rw[hr];have HP:=zh hr;clear hr;show Calls Tryz.prog 102 #[.agg #[.bool fn,.string (encB a),.string (encB b)],.agg #[.bool gn,.string (encB c),.string (encB d)]] W _;rw[hA,hB,hC,hD];clear hA hB hC hD hP hQ hR hp hq ha hb hc hd hk;go_enter Tryz.func102,Tryz.ntmps102;go_wp2_with fail;obtain⟨n0,n1,n2⟩:=new3 W (.cells #[.bool fn,.string A,.string B] 114 (0,0)) (.cells #[.bool gn,.string C,.string D] 114 (0,0)) (.cells #[.bool false,.string ⟨#[]⟩,.string ⟨#[]⟩] 114 (0,0));have T0:=(((zr W).alloc (.cells #[.bool fn,.string A,.string B] 114 (0,0))).alloc (.cells #[.bool gn,.string C,.string D] 114 (0,0))).alloc (.cells #[.bool false,.string ⟨#[]⟩,.string ⟨#[]⟩] 114 (0,0));obtain⟨w0,hw0⟩ : ∃w0,w0=(((W.alloc (.cells #[.bool fn,.string A,.string B] 114 (0,0))).alloc (.cells #[.bool gn,.string C,.string D] 114 (0,0))).alloc (.cells #[.bool false,.string ⟨#[]⟩,.string ⟨#[]⟩] 114 (0,0))):=⟨_,rfl⟩;rw[<- hw0] at n0 n1 n2 T0 ⊢;have HL0:=zh (And.intro (keepB ((zr w0).drew) n0) (And.intro (keepB ((zr w0).drew) n1) (And.intro (keepB ((zr w0).drew) n2) T0.drew)));clear hw0 n0 n1 n2 T0;have HK0:=zh (s4 HL0.out)
 go_region_held3 (fun V=>V.cell? ⟨W.heap.size,1,none⟩=some (.string A)/\V.cell? ⟨W.heap.size,2,none⟩=some (.string B)/\V.cell? ⟨W.heap.size+1,1,none⟩=some (.string C)/\V.cell? ⟨W.heap.size+1,2,none⟩=some (.string D))
  (first | exact HK3.out | exact HK2.out | exact HK1.out | exact HK0.out | go_keep)
  (first
   | (have hq:=HK2;clear hq;go_at_call 129;refine(H3.out w2).mono ?_;rintro e w3 ⟨rfl,t3⟩;have HL3:=zh (mv3 HL2.out t3);have HK3:=zh (s4 HL3.out);clear t3)
   | (have hq:=HK1;clear hq;go_at_call 129;refine(H2.out w1).mono ?_;rintro e w2 ⟨rfl,t2⟩;have HL2:=zh (mv3 HL1.out t2);have HK2:=zh (s4 HL2.out);clear t2)
   | (go_at_call 129;refine(H1.out w0.drew).mono ?_;rintro e w1 ⟨rfl,t1⟩;have HL1:=zh (mv3 HL0.out t1);have HK1:=zh (s4 HL1.out);clear t1))
 clear H1 H2 H3 HL0 HK0 HL1 HL2 HK1 HK2 HK3;obtain⟨c0,c1,c2,-,-,-⟩:=box3 HL3.out.1;obtain⟨d0,d1,d2,-,-,-⟩:=box3 HL3.out.2.1;by_cases hs:fn=gn
 ·have HR:Hid (r=(fn,a*d+c*b,b*d)):=zh (by rw[<- HP.out];unfold plusF;rw[if_pos hs])
  subst hs;obtain⟨S,hS⟩ : ∃x,encB (a*d+c*b)=x:=⟨_,rfl⟩;rw[hS] at HA;have HSS:=zh hS;clear hS c1 c2 d1 d2;have HL4:=zh (mv3 HL3.out ((zr w3).drew));have HK4:=zh ((box3 HL4.out.1).1);go_wp2_with fail
  go_region_held3 (fun V=>V.cell? ⟨W.heap.size,0,none⟩=some (.bool fn))
   (first | exact HK6.out | exact HK5.out | exact HK4.out | go_keep)
   ((go_at_call 130;refine(HA.out w3.drew).mono ?_;rintro e w5 ⟨rfl,t5⟩;have HL5:=zh (mv3 HL4.out t5);have HK5:=zh ((box3 HL5.out.1).1);obtain⟨e0,e1,e2,g0,g1,g2⟩:=box3 HL5.out.2.2.1;have K6:=set3 HL5.out.2.2.1 (.bool fn) (.string S) (.string R);have HK6:=zh (cellT K6.2 (by omega) (box3 HL5.out.1).1);have HS6:=zh K6;clear t5 K6))
  go_wp2_with fail;refine bodyPost_ret (results_plus _ _ (W.heap.size+1+1) _ _ _ rfl HS6.out.1) rfl ?_;rw[HR.out];show Ending.returned _=Ending.returned (.agg #[.bool fn,.string (encB (a*d+c*b)),.string (encB (b*d))])/\_;rw[HSS.out,HE.out.2.2];exact⟨rfl,HL5.out.2.2.2.fresh HS6.out.2 fun g hg=>by omega⟩
 ·have hsf:(fn == gn)=false:=by simpa using hs
  by_cases hlt:a*d < c*b
  ·have HR:Hid (r=(gn,c*b-a*d,b*d)):=zh (by rw[<- HP.out];unfold plusF;rw[if_neg hs,if_pos hlt])
   have HS:=zh (HS2.out (Nat.le_of_lt hlt));rw[cmpZ_lt (by omega)] at HC
   obtain⟨S,hS⟩ : ∃x,encB (c*b-a*d)=x:=⟨_,rfl⟩;rw[hS] at HS;have HSS:=zh hS;clear hS hs hlt HS1 HS2 HA c1 c2 d1 d2;go_wp2_with fail;refine(HC.out w3).mono ?_;rintro e w4 ⟨rfl,t4⟩;have HL4:=zh (mv3 HL3.out t4);clear t4 c0 d0 HC;obtain⟨c0,c1,c2,f0,-,-⟩:=box3 HL4.out.1;obtain⟨d0,d1,d2,-,-,-⟩:=box3 HL4.out.2.1;have hne:¬W.heap.size+1=W.heap.size:=by omega
   go_wp2_with fail
   go_region
   go_wp2_with fail;have HL5:=zh (turn_first (.bool gn) HL4.out (by omega) (by omega))
   obtain⟨w5,hw5⟩ : ∃w5,w5=(w4.setCell ⟨W.heap.size,0,none⟩ (.bool gn)).drew:=⟨_,rfl⟩;rw[<- hw5] at HL5 ⊢;clear hw5 c0 c1 c2 f0 d0 d1 d2 hne HL4;refine(HS.out w5).mono ?_;rintro e w6 ⟨rfl,t6⟩;have HL6:=zh (mv3 HL5.out t6);clear t6;obtain⟨c0,-,-,-,-,-⟩:=box3 HL6.out.1;obtain⟨e0,e1,e2,g0,g1,g2⟩:=box3 HL6.out.2.2.1;go_wp2_with fail;obtain⟨k1,k2⟩:=set3 HL6.out.2.2.1 (.bool gn) (.string S) (.string R);refine bodyPost_ret (results_plus _ _ (W.heap.size+1+1) _ _ _ rfl k1) rfl ?_;rw[HR.out];show Ending.returned _=Ending.returned (.agg #[.bool gn,.string (encB (c*b-a*d)),.string (encB (b*d))])/\_;rw[HSS.out,HE.out.2.2];exact⟨rfl,HL6.out.2.2.2.fresh k2 fun g hg=>by omega⟩
  ·have HR:Hid (r=(fn,a*d-c*b,b*d)):=zh (by rw[<- HP.out];unfold plusF;rw[if_neg hs,if_neg hlt])
   have HS:=zh (HS1.out (Nat.le_of_not_lt hlt));obtain⟨z,hz⟩ : ∃z,cmpZ ((a*d:Nat):Int) ((c*b:Nat):Int)=z:=⟨_,rfl⟩;have hzf:decide (z < 0)=false:=by rw[<- hz];unfold cmpZ;split <;> (try split) <;> simp <;> omega
   rw[hz] at HC;obtain⟨S,hS⟩ : ∃x,encB (a*d-c*b)=x:=⟨_,rfl⟩;rw[hS] at HS;have HSS:=zh hS;clear hS hs hlt HS1 HS2 HA c1 c2 d1 d2 hz;go_wp2_with fail;refine(HC.out w3).mono ?_;rintro e w4 ⟨rfl,t4⟩;have HL4:=zh (mv3 HL3.out t4);clear t4 c0 d0 HC;go_wp2_with fail;refine(HS.out w4).mono ?_;rintro e w6 ⟨rfl,t6⟩;have HL6:=zh (mv3 HL4.out t6);clear t6;obtain⟨c0,-,-,-,-,-⟩:=box3 HL6.out.1;obtain⟨e0,e1,e2,g0,g1,g2⟩:=box3 HL6.out.2.2.1;go_wp2_with fail;obtain⟨k1,k2⟩:=set3 HL6.out.2.2.1 (.bool fn) (.string S) (.string R);refine bodyPost_ret (results_plus _ _ (W.heap.size+1+1) _ _ _ rfl k1) rfl ?_;rw[HR.out];show Ending.returned _=Ending.returned (.agg #[.bool fn,.string (encB (a*d-c*b)),.string (encB (b*d))])/\_;rw[HSS.out,HE.out.2.2];exact⟨rfl,HL6.out.2.2.2.fresh k2 fun g hg=>by omega⟩
attribute [local go_sem ↓] run_eql_rat' run_neq_rat'
def SzF (f:Bool×Nat×Nat) (k:Nat):Prop:=(encB f.2.1).size<=k/\(encB f.2.2).size<=k
theorem SzF.mono{f:Bool×Nat×Nat} {k j:Nat} (h:SzF f k) (hj:k<=j):SzF f j:=⟨Nat.le_trans h.1 hj,Nat.le_trans h.2 hj⟩
theorem SzF.plus{f g:Bool×Nat×Nat} {k:Nat} (hf:SzF f k) (hg:SzF g k):SzF (plusF f g) (2*k+1):=by
 have h1:(encB (f.2.1*g.2.2)).size<=2*k:=Nat.le_trans (encB_mul _ _) (by have:=hf.1;have:=hg.2;omega)
 have h2:(encB (g.2.1*f.2.2)).size<=2*k:=Nat.le_trans (encB_mul _ _) (by have:=hg.1;have:=hf.2;omega)
 have h3:(encB (f.2.2*g.2.2)).size<=2*k:=Nat.le_trans (encB_mul _ _) (by have:=hf.2;have:=hg.2;omega)
 unfold plusF;split
 ·exact⟨encB_add h1 h2,by show(encB (f.2.2*g.2.2)).size<=_;omega⟩
 ·split
  ·exact⟨Nat.le_trans (encB_mono (Nat.sub_le _ _)) (by omega),by show(encB (f.2.2*g.2.2)).size<=_;omega⟩
  ·exact⟨Nat.le_trans (encB_mono (Nat.sub_le _ _)) (by omega),by show(encB (f.2.2*g.2.2)).size<=_;omega⟩
theorem SzF.times{f g:Bool×Nat×Nat} {k:Nat} (hf:SzF f k) (hg:SzF g k):SzF (f.1 != g.1,f.2.1*g.2.1,f.2.2*g.2.2) (2*k) :=
 ⟨Nat.le_trans (encB_mul _ _) (by have:=hf.1;have:=hg.1;omega),Nat.le_trans (encB_mul _ _) (by have:=hf.2;have:=hg.2;omega)⟩
theorem SzF.frac{u:Rv} {k:Nat} (hn:u.num.size<=k) (hd:u.den.size<=k) (hk:1<=k):SzF (fracR u) k:=by
 unfold fracR;split
 ·rename_i h
  refine⟨?_,?_⟩
  ·show(encB (natB u.num)).size<=k;rw[h.2.2.1];exact hn
  ·show(encB (natB u.den)).size<=k;rw[h.2.2.2.1];exact hd
 ·refine⟨?_,?_⟩
  ·show(encB 0).size<=k;rw[encB_zero];simp[ByteArray.size]
  ·show(encB 1).size<=k;rw[encB_one];exact hk
theorem plus_call(f g:Bool×Nat×Nat) (k:Nat) (W:World) (hk:k<=100000000) (hf:SzF f k) (hg:SzF g k):Calls Tryz.prog 102 #[frV f,frV g] W fun e w'=>e=.returned (frV (plusF f g))/\Turned (fun _=>False) W w' :=
 plus_any' f.1 g.1 f.2.1 f.2.2 g.2.1 g.2.2 k W hk hf.1 hf.2 hg.1 hg.2
theorem results_less(tmps:Array Value) (w:World) (g:Nat) (a b c:Value) (hp:tmps.getD 4 undef=.pointer (some ⟨g,0,none⟩)) (hg:w.heap[g]? = some (.cells #[a,b,c] 114 (0,0))) :
  (results Tryz.f68 tmps).run Tryz.prog w=.ok (.agg #[a,b,c]) w :=
 results_cell_row (fn:=Tryz.f68) rfl tmps w g 114 #[a,b,c] (0,0) _ hp hg Tryz.underlying114 rfl (by kernel_rfl)
theorem results_times(tmps:Array Value) (w:World) (g:Nat) (a b c:Value) (hp:tmps.getD 4 undef=.pointer (some ⟨g,0,none⟩)) (hg:w.heap[g]? = some (.cells #[a,b,c] 114 (0,0))) :
  (results Tryz.f103 tmps).run Tryz.prog w=.ok (.agg #[a,b,c]) w :=
 results_cell_row (fn:=Tryz.f103) rfl tmps w g 114 #[a,b,c] (0,0) _ hp hg Tryz.underlying114 rfl (by kernel_rfl)
theorem results_over(tmps:Array Value) (w:World) (g:Nat) (a b c:Value) (hp:tmps.getD 4 undef=.pointer (some ⟨g,0,none⟩)) (hg:w.heap[g]? = some (.cells #[a,b,c] 114 (0,0))) :
  (results Tryz.f70 tmps).run Tryz.prog w=.ok (.agg #[a,b,c]) w :=
 results_cell_row (fn:=Tryz.f70) rfl tmps w g 114 #[a,b,c] (0,0) _ hp hg Tryz.underlying114 rfl (by kernel_rfl)
theorem less_call(f g:Bool×Nat×Nat) (k:Nat) (W:World) (hk:k<=100000000) (hf:SzF f k) (hg:SzF g k):Calls Tryz.prog 68 #[frV f,frV g] W fun e w'=>e=.returned (frV (plusF f (!g.1,g.2)))/\Turned (fun _=>False) W w':=by
 have HP:=zh (fun W=>plus_call f (!g.1,g.2) k W hk hf hg)
 obtain⟨fn,a,b⟩:=f;obtain⟨gn,c,d⟩:=g;obtain⟨⟨rn,rx,ry⟩,hr⟩ : ∃r,(plusF (fn,a,b) (!gn,(c,d)))=r:=⟨_,rfl⟩;have HP':Hid (∀W,Calls Tryz.prog 102 #[.agg #[.bool fn,.string (encB a),.string (encB b)],.agg #[.bool (!gn),.string (encB c),.string (encB d)]] W fun e w'=>e=.returned (frV (rn,rx,ry))/\Turned (fun _=>False) W w'):=zh (by rw[<- hr];exact HP.out)
 have HE:Hid (frV (rn,rx,ry)=.agg #[.bool rn,.string (encB rx),.string (encB ry)]):=zh rfl;rw[HE.out] at HP';show Calls Tryz.prog 68 #[.agg #[.bool fn,.string (encB a),.string (encB b)],.agg #[.bool gn,.string (encB c),.string (encB d)]] W fun e w'=>e=.returned (frV (plusF (fn,a,b) (!gn,(c,d))))/\Turned (fun _=>False) W w'
 rw[hr,HE.out];obtain⟨A,hA⟩ : ∃x,encB a=x:=⟨_,rfl⟩;obtain⟨B,hB⟩ : ∃x,encB b=x:=⟨_,rfl⟩;obtain⟨C,hC⟩ : ∃x,encB c=x:=⟨_,rfl⟩;obtain⟨D,hD⟩ : ∃x,encB d=x:=⟨_,rfl⟩;obtain⟨X,hX⟩ : ∃x,encB rx=x:=⟨_,rfl⟩;obtain⟨Y,hY⟩ : ∃x,encB ry=x:=⟨_,rfl⟩;rw[hA,hB,hC,hD,hX,hY] at HP';rw[hA,hB,hC,hD,hX,hY];clear hr HP hA hB hC hD hX hY hf hg hk HE rx ry;go_enter Tryz.func68,Tryz.ntmps68;go_wp2_with fail;refine(HP'.out _).mono ?_;rintro e w1 ⟨rfl,t1⟩;have b2:=keepB t1 (new3 W _ _ _).2.2;obtain⟨d0,d1,d2,f0,f1,f2⟩:=box3 b2;have HS:=zh (And.intro b2 ((((((zr W).alloc _).alloc _).alloc _).trans t1)));clear b2 t1 HP';go_wp2_with fail;obtain⟨k1,k2⟩:=set3 HS.out.1 (.bool rn) (.string X) (.string Y);refine bodyPost_ret (results_less _ _ (W.heap.size+1+1) _ _ _ rfl k1) rfl ?_;exact⟨rfl,HS.out.2.fresh k2 fun g hg=>by omega⟩
theorem s6{W w:World} {b0 b1 b2 t1 t2:Nat} {o2:Obj} {x0 x1 x2 y0 y1 y2:Value} (h:w.heap[b0]? = some (.cells #[x0,x1,x2] t1 (0,0))/\w.heap[b1]? = some (.cells #[y0,y1,y2] t2 (0,0))/\w.heap[b2]? = some o2/\Turned (fun _=>False) W w):w.cell? ⟨b0,0,none⟩=some x0/\w.cell? ⟨b0,1,none⟩=some x1/\w.cell? ⟨b0,2,none⟩=some x2/\w.cell? ⟨b1,0,none⟩=some y0/\w.cell? ⟨b1,1,none⟩=some y1/\w.cell? ⟨b1,2,none⟩=some y2 :=
 ⟨(box3 h.1).1,(box3 h.1).2.1,(box3 h.1).2.2.1,(box3 h.2.1).1,(box3 h.2.1).2.1,(box3 h.2.1).2.2.1⟩
theorem s6'{W w w':World} {b0 b1 b2 b t1 t2:Nat} {o2:Obj} {x0 x1 x2 y0 y1 y2:Value} (h:w.heap[b0]? = some (.cells #[x0,x1,x2] t1 (0,0))/\w.heap[b1]? = some (.cells #[y0,y1,y2] t2 (0,0))/\w.heap[b2]? = some o2/\Turned (fun _=>False) W w) (t:Turned (fun k=>k=b) w w') (n0:b0≠b) (n1:b1≠b):w'.cell? ⟨b0,0,none⟩=some x0/\w'.cell? ⟨b0,1,none⟩=some x1/\w'.cell? ⟨b0,2,none⟩=some x2/\w'.cell? ⟨b1,0,none⟩=some y0/\w'.cell? ⟨b1,1,none⟩=some y1/\w'.cell? ⟨b1,2,none⟩=some y2:=by
 obtain⟨h1,h2,h3,h4,h5,h6⟩:=s6 h;exact⟨cellT t n0 h1,cellT t n0 h2,cellT t n0 h3,cellT t n1 h4,cellT t n1 h5,cellT t n1 h6⟩
theorem times_call(f g:Bool×Nat×Nat) (k:Nat) (W:World) (hk:k<=200000000) (hf:SzF f k) (hg:SzF g k):Calls Tryz.prog 103 #[frV f,frV g] W fun e w'=>e=.returned (frV (f.1 != g.1,f.2.1*g.2.1,f.2.2*g.2.2))/\Turned (fun _=>False) W w':=by
 obtain⟨fn,a,b⟩:=f;obtain⟨gn,c,d⟩:=g;have H1:=zh (fun W=>nMul_any (encB a) (encB c) W (Nat.le_trans hf.1 (by omega)) (Nat.le_trans hg.1 (by omega)))
 have H2:=zh (fun W=>nMul_any (encB b) (encB d) W (Nat.le_trans hf.2 (by omega)) (Nat.le_trans hg.2 (by omega)))
 rw[natB_encB,natB_encB] at H1 H2;show Calls Tryz.prog 103 #[.agg #[.bool fn,.string (encB a),.string (encB b)],.agg #[.bool gn,.string (encB c),.string (encB d)]] W fun e w'=>e=.returned (.agg #[.bool (fn != gn),.string (encB (a*c)),.string (encB (b*d))])/\Turned (fun _=>False) W w'
 obtain⟨A,hA⟩ : ∃x,encB a=x:=⟨_,rfl⟩;obtain⟨B,hB⟩ : ∃x,encB b=x:=⟨_,rfl⟩;obtain⟨C,hC⟩ : ∃x,encB c=x:=⟨_,rfl⟩;obtain⟨D,hD⟩ : ∃x,encB d=x:=⟨_,rfl⟩;obtain⟨X,hX⟩ : ∃x,encB (a*c)=x:=⟨_,rfl⟩;obtain⟨Y,hY⟩ : ∃x,encB (b*d)=x:=⟨_,rfl⟩;rw[hA,hC,hX] at H1;rw[hB,hD,hY] at H2;rw[hA,hB,hC,hD,hX,hY];clear hA hB hC hD hX hY hf hg hk;go_enter Tryz.func103,Tryz.ntmps103;go_wp2_with fail;obtain⟨n0,n1,n2⟩:=new3 W (.cells #[.bool fn,.string A,.string B] 114 (0,0)) (.cells #[.bool gn,.string C,.string D] 114 (0,0)) (.cells #[.bool false,.string ⟨#[]⟩,.string ⟨#[]⟩] 114 (0,0));have T0:=(((zr W).alloc (.cells #[.bool fn,.string A,.string B] 114 (0,0))).alloc (.cells #[.bool gn,.string C,.string D] 114 (0,0))).alloc (.cells #[.bool false,.string ⟨#[]⟩,.string ⟨#[]⟩] 114 (0,0));obtain⟨w0,hw0⟩ : ∃w0,w0=(((W.alloc (.cells #[.bool fn,.string A,.string B] 114 (0,0))).alloc (.cells #[.bool gn,.string C,.string D] 114 (0,0))).alloc (.cells #[.bool false,.string ⟨#[]⟩,.string ⟨#[]⟩] 114 (0,0))):=⟨_,rfl⟩;rw[<- hw0] at n0 n1 n2 T0 ⊢;have HL0:=zh (And.intro (keepB ((zr w0).drew) n0) (And.intro (keepB ((zr w0).drew) n1) (And.intro (keepB ((zr w0).drew) n2) T0.drew)));clear hw0 n0 n1 n2 T0;have HK0:=zh (s6 HL0.out)
 go_region_held3 (fun V=>V.cell? ⟨W.heap.size,0,none⟩=some (.bool fn)/\V.cell? ⟨W.heap.size,1,none⟩=some (.string A)/\V.cell? ⟨W.heap.size,2,none⟩=some (.string B)/\V.cell? ⟨W.heap.size+1,0,none⟩=some (.bool gn)/\V.cell? ⟨W.heap.size+1,1,none⟩=some (.string C)/\V.cell? ⟨W.heap.size+1,2,none⟩=some (.string D))
  (first | exact HK3.out | exact HK2.out | exact HK1.out | exact HK0.out | go_keep)
  (first
   | (have hq:=HK1;clear hq;go_at_call 129;refine(H2.out w1).mono ?_;rintro e w2 ⟨rfl,t2⟩;have HL2:=zh (mv3 HL1.out t2);have HK2:=zh (s6 HL2.out);obtain⟨e0,e1,e2,g0,g1,g2⟩:=box3 HL2.out.2.2.1;have K3:=set3 HL2.out.2.2.1 (.bool (fn != gn)) (.string X) (.string Y);have HS3:=zh K3;have HK3:=zh (s6' HL2.out K3.2 (by omega) (by omega));clear t2 K3)
   | (go_at_call 129;refine(H1.out w0.drew).mono ?_;rintro e w1 ⟨rfl,t1⟩;have HL1:=zh (mv3 HL0.out t1);have HK1:=zh (s6 HL1.out);clear t1))
 go_wp2_with fail;refine bodyPost_ret (results_times _ _ (W.heap.size+1+1) _ _ _ rfl HS3.out.1) rfl ?_;exact⟨rfl,HL2.out.2.2.2.fresh HS3.out.2 fun g hg=>by omega⟩
theorem over_call(f g:Bool×Nat×Nat) (k:Nat) (W:World) (hk:k<=200000000) (hf:SzF f k) (hg:SzF g k):Calls Tryz.prog 70 #[frV f,frV g] W fun e w'=>e=.returned (frV (f.1 != g.1,f.2.1*g.2.2,f.2.2*g.2.1))/\Turned (fun _=>False) W w':=by
 have HP:=zh (fun W=>times_call f (g.1,g.2.2,g.2.1) k W hk hf (And.intro hg.2 hg.1))
 obtain⟨fn,a,b⟩:=f;obtain⟨gn,c,d⟩:=g;obtain⟨⟨rn,rx,ry⟩,hr⟩ : ∃r,(fn != gn,a*d,b*c)=r:=⟨_,rfl⟩;have HP':Hid (∀W,Calls Tryz.prog 103 #[.agg #[.bool fn,.string (encB a),.string (encB b)],.agg #[.bool gn,.string (encB d),.string (encB c)]] W fun e w'=>e=.returned (frV (rn,rx,ry))/\Turned (fun _=>False) W w'):=zh (by rw[<- hr];exact HP.out)
 have HE:Hid (frV (rn,rx,ry)=.agg #[.bool rn,.string (encB rx),.string (encB ry)]):=zh rfl;rw[HE.out] at HP';show Calls Tryz.prog 70 #[.agg #[.bool fn,.string (encB a),.string (encB b)],.agg #[.bool gn,.string (encB c),.string (encB d)]] W fun e w'=>e=.returned (frV (fn != gn,a*d,b*c))/\Turned (fun _=>False) W w'
 rw[hr,HE.out];obtain⟨A,hA⟩ : ∃x,encB a=x:=⟨_,rfl⟩;obtain⟨B,hB⟩ : ∃x,encB b=x:=⟨_,rfl⟩;obtain⟨C,hC⟩ : ∃x,encB c=x:=⟨_,rfl⟩;obtain⟨D,hD⟩ : ∃x,encB d=x:=⟨_,rfl⟩;obtain⟨X,hX⟩ : ∃x,encB rx=x:=⟨_,rfl⟩;obtain⟨Y,hY⟩ : ∃x,encB ry=x:=⟨_,rfl⟩;rw[hA,hB,hC,hD,hX,hY] at HP';rw[hA,hB,hC,hD,hX,hY];clear hr HP hA hB hC hD hX hY hf hg hk HE rx ry;go_enter Tryz.func70,Tryz.ntmps70;go_wp2_with fail;refine(HP'.out _).mono ?_;rintro e w1 ⟨rfl,t1⟩;have b2:=keepB t1 (new3 W _ _ _).2.2;obtain⟨d0,d1,d2,f0,f1,f2⟩:=box3 b2;have HS:=zh (And.intro b2 ((((((zr W).alloc _).alloc _).alloc _).trans t1)));clear b2 t1 HP';go_wp2_with fail;obtain⟨k1,k2⟩:=set3 HS.out.1 (.bool rn) (.string X) (.string Y);refine bodyPost_ret (results_over _ _ (W.heap.size+1+1) _ _ _ rfl k1) rfl ?_;exact⟨rfl,HS.out.2.fresh k2 fun g hg=>by omega⟩
def BytesQ (q:Rat) (k:Nat):Prop:=q.num.natAbs < 256 ^ k/\q.den < 256 ^ k
theorem BytesQ.mono{q:Rat} {k j:Nat} (h:BytesQ q k) (hj:k<=j):BytesQ q j:=by
 have h1:256 ^ k<=256 ^ j:=Nat.pow_le_pow_right (by decide) hj
 have:=h.1;have:=h.2;exact⟨by omega,by omega⟩
theorem mkRat_bytes{n:Int} {d k:Nat} (hd:d≠0) (hn:n.natAbs < 256 ^ k) (hk:d < 256 ^ k):BytesQ (mkRat n d) k:=by
 rw[<- Rat.normalize_eq_mkRat hd,Rat.normalize_eq hd];constructor
 ·show(n / ((Nat.gcd n.natAbs d:Nat):Int)).natAbs < _;have h1:(n / ((Nat.gcd n.natAbs d:Nat):Int)).natAbs<=n.natAbs:=by
   obtain⟨m,hm⟩:=Nat.gcd_dvd_left n.natAbs d;have h2:=Int.natAbs_ediv_of_dvd (a:=n) (b:=((Nat.gcd n.natAbs d:Nat):Int)) (Int.ofNat_dvd_left.2 (Nat.gcd_dvd_left _ _));rw[h2,Int.natAbs_natCast];exact Nat.div_le_self _ _
  omega
 ·show d / Nat.gcd n.natAbs d < _;have:=Nat.div_le_self d (Nat.gcd n.natAbs d);omega
theorem mul_lt_pow{x y a b:Nat} (hx:x < 256 ^ a) (hy:y < 256 ^ b):x*y < 256 ^ (a+b):=by
 rw[Nat.pow_add];have h1:0 < 256 ^ b:=Nat.pow_pos (by decide)
 exact Nat.mul_lt_mul_of_lt_of_le hx (Nat.le_of_lt hy) h1
theorem BytesQ.add{p q:Rat} {a b:Nat} (h:BytesQ p a) (g:BytesQ q b):BytesQ (p+q) (a+b+1):=by
 have e:p+q=mkRat (p.num*q.den+q.num*p.den) (p.den*q.den):=by
  conv=>lhs;rw[<- Rat.mkRat_self p,<- Rat.mkRat_self q]
  exact Rat.mkRat_add_mkRat _ _ p.den_nz q.den_nz
 rw[e];have h1:=mul_lt_pow h.1 g.2;have h2:=mul_lt_pow g.1 h.2;have h3:=mul_lt_pow h.2 g.2;rw[Nat.add_comm b a] at h2;have h4:256 ^ (a+b+1)=256 ^ (a+b)*256:=Nat.pow_succ ..;refine mkRat_bytes (Nat.mul_ne_zero p.den_nz q.den_nz) ?_ (by omega)
 have h5:=Int.natAbs_add_le (p.num*q.den) (q.num*p.den);rw[Int.natAbs_mul,Int.natAbs_mul,Int.natAbs_natCast,Int.natAbs_natCast] at h5;omega
theorem BytesQ.neg{p:Rat} {a:Nat} (h:BytesQ p a):BytesQ (-p) a:=by
 constructor
 ·show(-p).num.natAbs < _;rw[Rat.neg_num,Int.natAbs_neg];exact h.1
 ·show(-p).den < _;rw[Rat.neg_den];exact h.2
theorem BytesQ.sub{p q:Rat} {a b:Nat} (h:BytesQ p a) (g:BytesQ q b):BytesQ (p-q) (a+b+1):=by
 rw[Rat.sub_eq_add_neg];exact h.add g.neg
theorem BytesQ.mul{p q:Rat} {a b:Nat} (h:BytesQ p a) (g:BytesQ q b):BytesQ (p*q) (a+b):=by
 have e:p*q=mkRat (p.num*q.num) (p.den*q.den):=by
  conv=>lhs;rw[<- Rat.mkRat_self p,<- Rat.mkRat_self q]
  exact Rat.mkRat_mul_mkRat _ _ _ _
 rw[e];refine mkRat_bytes (Nat.mul_ne_zero p.den_nz q.den_nz) ?_ (mul_lt_pow h.2 g.2);rw[Int.natAbs_mul];exact mul_lt_pow h.1 g.1
theorem BytesQ.inv{p:Rat} {a:Nat} (h:BytesQ p a):BytesQ p⁻¹ (a+1):=by
 have h4:256 ^ (a+1)=256 ^ a*256:=Nat.pow_succ ..;have h0:0 < 256 ^ a:=Nat.pow_pos (by decide)
 constructor
 ·rw[Rat.num_inv,Int.natAbs_mul,Int.natAbs_natCast];have h1:p.num.sign.natAbs<=1:=by rw[Int.natAbs_sign];split <;> omega
  have h2:p.num.sign.natAbs*p.den<=1*p.den:=Nat.mul_le_mul_right _ h1;have:=h.2;omega
 ·rw[Rat.den_inv];have:=h.1;split <;> omega
theorem BytesQ.div{p q:Rat} {a b:Nat} (h:BytesQ p a) (g:BytesQ q b):BytesQ (p / q) (a+b+1):=by
 rw[Rat.div_def];exact(h.mul g.inv).mono (by omega)
theorem bytes_zero(k:Nat):BytesQ 0 (k+1):=by
 have h0:0 < 256 ^ k:=Nat.pow_pos (by decide)
 have h4:256 ^ (k+1)=256 ^ k*256:=Nat.pow_succ ..;constructor
 ·show 0 < _;omega
 ·show 1 < _;omega
theorem bytes_one(k:Nat):BytesQ 1 (k+1):=by
 have h0:0 < 256 ^ k:=Nat.pow_pos (by decide)
 have h4:256 ^ (k+1)=256 ^ k*256:=Nat.pow_succ ..;constructor
 ·show 1 < _;omega
 ·show 1 < _;omega
theorem natB_lt(s:ByteArray):natB s < 256 ^ s.size:=by
 have:=valB_lt s.data.toList;simpa [natB] using this
theorem encB_size{n k:Nat} (h:n < 256 ^ k):(encB n).size<=k:=encN_len_le h
theorem qR_bytes{u:Rv} {k:Nat} (h1:u.num.size<=k) (h2:u.den.size<=k):BytesQ (qR u) (k+1):=by
 have h0:256 ^ k<=256 ^ (k+1):=Nat.pow_le_pow_right (by decide) (by omega)
 have hp:256 ^ u.num.size<=256 ^ k:=Nat.pow_le_pow_right (by decide) h1
 have hq:256 ^ u.den.size<=256 ^ k:=Nat.pow_le_pow_right (by decide) h2
 have hn:=natB_lt u.num;have hd:=natB_lt u.den;by_cases hg:goodR u
 ·unfold qR fracR;rw[if_pos hg];exact mkRat_bytes (goodR_pos hg).2 (by show(sgn u.neg (natB u.num)).natAbs < _;rw[sgn_natAbs];omega) (by show natB u.den < _;omega)
 ·rw[qR_invalid hg];exact bytes_zero k
theorem repR_size{q:Rat} {k:Nat} (h:BytesQ q k):(repR q).num.size<=k/\(repR q).den.size<=k:=by
 by_cases h0:q=0
 ·subst h0;exact⟨Nat.zero_le _,Nat.zero_le _⟩
 ·have h1:q.num.natAbs≠0:=fun h1=>h0 (Rat.num_eq_zero.1 (by omega))
  have hc:Nat.gcd q.num.natAbs q.den=1:=q.reduced;have e:repR q=⟨decide (q.num < 0),encB q.num.natAbs,encB q.den⟩:=by
   unfold repR lowR;rw[if_neg h1,hc,Nat.div_one,Nat.div_one]
  rw[e];exact⟨encB_size h.1,encB_size h.2⟩
attribute [local go_sem ↓] run_eql_rat' run_neq_rat'
theorem results_do(tmps:Array Value) (w:World) (g:Nat) (a b c:Value) (hp:tmps.getD 4 undef=.pointer (some ⟨g,0,none⟩)) (hg:w.heap[g]? = some (.cells #[a,b,c] 68 (0,0))) :
  (results Tryz.f69 tmps).run Tryz.prog w=.ok (.agg #[a,b,c]) w :=
 results_cell_row (fn:=Tryz.f69) rfl tmps w g 68 #[a,b,c] (0,0) _ hp hg Tryz.underlying68 rfl (by kernel_rfl)
def SzR (u:Rv) (k:Nat):Prop:=u.num.size<=k/\u.den.size<=k
theorem SzR.mono{u:Rv} {k j:Nat} (h:SzR u k) (hj:k<=j):SzR u j:=⟨Nat.le_trans h.1 hj,Nat.le_trans h.2 hj⟩
theorem SzR.rep{q:Rat} {k:Nat} (h:BytesQ q k):SzR (repR q) k:=repR_size h
theorem do_plus(f g r:Bool×Nat×Nat) (b:Rv) (W:World) (hb:SzR b 400000000) (hg:fracR b=g) (hr0:r.2.2≠0) (hr:SzF r 400000000)
  (H:∀W,Calls Tryz.prog 102 #[frV f,frV g] W fun e w'=>e=.returned (frV r)/\Turned (fun _=>False) W w') :
  Calls Tryz.prog 69 #[.func (.func 102) #[frV f] #[],ratV b] W fun e w'=>e=.returned (ratV (lowR r.1 r.2.1 r.2.2))/\Turned (fun _=>False) W w':=by
 have HO:=zh (fun W=>qOf_any b W hb.1 hb.2)
 have HL:=zh (fun W=>low_any r W hr0 hr.1 hr.2)
 have HP:=zh H;rw[hg] at HO;obtain⟨⟨sn,sx,sy⟩,hs⟩ : ∃s,lowR r.1 r.2.1 r.2.2=s:=⟨_,rfl⟩;rw[hs] at HL ⊢;obtain⟨bn,bx,bd⟩:=b;obtain⟨f1,f2,f3⟩:=f;obtain⟨g1,g2,g3⟩:=g;obtain⟨r1,r2,r3⟩:=r;simp only[frV] at HO HL HP ⊢;obtain⟨F2,hF2⟩ : ∃x,encB f2=x:=⟨_,rfl⟩;obtain⟨F3,hF3⟩ : ∃x,encB f3=x:=⟨_,rfl⟩;obtain⟨G2,hG2⟩ : ∃x,encB g2=x:=⟨_,rfl⟩;obtain⟨G3,hG3⟩ : ∃x,encB g3=x:=⟨_,rfl⟩;obtain⟨R2,hR2⟩ : ∃x,encB r2=x:=⟨_,rfl⟩;obtain⟨R3,hR3⟩ : ∃x,encB r3=x:=⟨_,rfl⟩;rw[hG2,hG3] at HO;rw[hF2,hF3,hG2,hG3,hR2,hR3] at HP;rw[hR2,hR3] at HL;rw[hF2,hF3];clear hb hg hr0 hr H hs hF2 hF3 hG2 hG3 hR2 hR3 f2 f3 g2 g3 r2 r3;go_enter Tryz.func69,Tryz.ntmps69;go_wp2_with fail;refine(HO.out _).mono ?_;rintro e w1 ⟨rfl,t1⟩;have HS:=zh (And.intro (keepB t1 (new_second W _ _)) ((((zr W).alloc _).alloc _).trans t1));clear t1 HO;go_wp2_with fail;refine(HP.out _).mono ?_;rintro e w2 ⟨rfl,t1⟩;have HS2:=zh (And.intro (keepB t1 HS.out.1) (HS.out.2.trans t1));clear t1 HS HP;go_wp2_with fail;refine(HL.out _).mono ?_;rintro e w3 ⟨rfl,t1⟩;have HS3:=zh (And.intro (keepB t1 HS2.out.1) (HS2.out.2.trans t1));clear t1 HS2 HL;obtain⟨d0,d1,d2,q0,q1,q2⟩:=box3 HS3.out.1;go_wp2_with fail;obtain⟨k1,k2⟩:=set3 HS3.out.1 (.bool sn) (.string sx) (.string sy);refine bodyPost_ret (results_do _ _ (W.heap.size+1) _ _ _ rfl k1) rfl ?_;exact⟨rfl,HS3.out.2.fresh k2 fun g hg=>by omega⟩
theorem do_less(f g r:Bool×Nat×Nat) (b:Rv) (W:World) (hb:SzR b 400000000) (hg:fracR b=g) (hr0:r.2.2≠0) (hr:SzF r 400000000)
  (H:∀W,Calls Tryz.prog 68 #[frV f,frV g] W fun e w'=>e=.returned (frV r)/\Turned (fun _=>False) W w') :
  Calls Tryz.prog 69 #[.func (.func 68) #[frV f] #[],ratV b] W fun e w'=>e=.returned (ratV (lowR r.1 r.2.1 r.2.2))/\Turned (fun _=>False) W w':=by
 have HO:=zh (fun W=>qOf_any b W hb.1 hb.2)
 have HL:=zh (fun W=>low_any r W hr0 hr.1 hr.2)
 have HP:=zh H;rw[hg] at HO;obtain⟨⟨sn,sx,sy⟩,hs⟩ : ∃s,lowR r.1 r.2.1 r.2.2=s:=⟨_,rfl⟩;rw[hs] at HL ⊢;obtain⟨bn,bx,bd⟩:=b;obtain⟨f1,f2,f3⟩:=f;obtain⟨g1,g2,g3⟩:=g;obtain⟨r1,r2,r3⟩:=r;simp only[frV] at HO HL HP ⊢;obtain⟨F2,hF2⟩ : ∃x,encB f2=x:=⟨_,rfl⟩;obtain⟨F3,hF3⟩ : ∃x,encB f3=x:=⟨_,rfl⟩;obtain⟨G2,hG2⟩ : ∃x,encB g2=x:=⟨_,rfl⟩;obtain⟨G3,hG3⟩ : ∃x,encB g3=x:=⟨_,rfl⟩;obtain⟨R2,hR2⟩ : ∃x,encB r2=x:=⟨_,rfl⟩;obtain⟨R3,hR3⟩ : ∃x,encB r3=x:=⟨_,rfl⟩;rw[hG2,hG3] at HO;rw[hF2,hF3,hG2,hG3,hR2,hR3] at HP;rw[hR2,hR3] at HL;rw[hF2,hF3];clear hb hg hr0 hr H hs hF2 hF3 hG2 hG3 hR2 hR3 f2 f3 g2 g3 r2 r3;go_enter Tryz.func69,Tryz.ntmps69;go_wp2_with fail;refine(HO.out _).mono ?_;rintro e w1 ⟨rfl,t1⟩;have HS:=zh (And.intro (keepB t1 (new_second W _ _)) ((((zr W).alloc _).alloc _).trans t1));clear t1 HO;go_wp2_with fail;refine(HP.out _).mono ?_;rintro e w2 ⟨rfl,t1⟩;have HS2:=zh (And.intro (keepB t1 HS.out.1) (HS.out.2.trans t1));clear t1 HS HP;go_wp2_with fail;refine(HL.out _).mono ?_;rintro e w3 ⟨rfl,t1⟩;have HS3:=zh (And.intro (keepB t1 HS2.out.1) (HS2.out.2.trans t1));clear t1 HS2 HL;obtain⟨d0,d1,d2,q0,q1,q2⟩:=box3 HS3.out.1;go_wp2_with fail;obtain⟨k1,k2⟩:=set3 HS3.out.1 (.bool sn) (.string sx) (.string sy);refine bodyPost_ret (results_do _ _ (W.heap.size+1) _ _ _ rfl k1) rfl ?_;exact⟨rfl,HS3.out.2.fresh k2 fun g hg=>by omega⟩
theorem do_times(f g r:Bool×Nat×Nat) (b:Rv) (W:World) (hb:SzR b 400000000) (hg:fracR b=g) (hr0:r.2.2≠0) (hr:SzF r 400000000)
  (H:∀W,Calls Tryz.prog 103 #[frV f,frV g] W fun e w'=>e=.returned (frV r)/\Turned (fun _=>False) W w') :
  Calls Tryz.prog 69 #[.func (.func 103) #[frV f] #[],ratV b] W fun e w'=>e=.returned (ratV (lowR r.1 r.2.1 r.2.2))/\Turned (fun _=>False) W w':=by
 have HO:=zh (fun W=>qOf_any b W hb.1 hb.2)
 have HL:=zh (fun W=>low_any r W hr0 hr.1 hr.2)
 have HP:=zh H;rw[hg] at HO;obtain⟨⟨sn,sx,sy⟩,hs⟩ : ∃s,lowR r.1 r.2.1 r.2.2=s:=⟨_,rfl⟩;rw[hs] at HL ⊢;obtain⟨bn,bx,bd⟩:=b;obtain⟨f1,f2,f3⟩:=f;obtain⟨g1,g2,g3⟩:=g;obtain⟨r1,r2,r3⟩:=r;simp only[frV] at HO HL HP ⊢;obtain⟨F2,hF2⟩ : ∃x,encB f2=x:=⟨_,rfl⟩;obtain⟨F3,hF3⟩ : ∃x,encB f3=x:=⟨_,rfl⟩;obtain⟨G2,hG2⟩ : ∃x,encB g2=x:=⟨_,rfl⟩;obtain⟨G3,hG3⟩ : ∃x,encB g3=x:=⟨_,rfl⟩;obtain⟨R2,hR2⟩ : ∃x,encB r2=x:=⟨_,rfl⟩;obtain⟨R3,hR3⟩ : ∃x,encB r3=x:=⟨_,rfl⟩;rw[hG2,hG3] at HO;rw[hF2,hF3,hG2,hG3,hR2,hR3] at HP;rw[hR2,hR3] at HL;rw[hF2,hF3];clear hb hg hr0 hr H hs hF2 hF3 hG2 hG3 hR2 hR3 f2 f3 g2 g3 r2 r3;go_enter Tryz.func69,Tryz.ntmps69;go_wp2_with fail;refine(HO.out _).mono ?_;rintro e w1 ⟨rfl,t1⟩;have HS:=zh (And.intro (keepB t1 (new_second W _ _)) ((((zr W).alloc _).alloc _).trans t1));clear t1 HO;go_wp2_with fail;refine(HP.out _).mono ?_;rintro e w2 ⟨rfl,t1⟩;have HS2:=zh (And.intro (keepB t1 HS.out.1) (HS.out.2.trans t1));clear t1 HS HP;go_wp2_with fail;refine(HL.out _).mono ?_;rintro e w3 ⟨rfl,t1⟩;have HS3:=zh (And.intro (keepB t1 HS2.out.1) (HS2.out.2.trans t1));clear t1 HS2 HL;obtain⟨d0,d1,d2,q0,q1,q2⟩:=box3 HS3.out.1;go_wp2_with fail;obtain⟨k1,k2⟩:=set3 HS3.out.1 (.bool sn) (.string sx) (.string sy);refine bodyPost_ret (results_do _ _ (W.heap.size+1) _ _ _ rfl k1) rfl ?_;exact⟨rfl,HS3.out.2.fresh k2 fun g hg=>by omega⟩
theorem do_over(f g r:Bool×Nat×Nat) (b:Rv) (W:World) (hb:SzR b 400000000) (hg:fracR b=g) (hr0:r.2.2≠0) (hr:SzF r 400000000)
  (H:∀W,Calls Tryz.prog 70 #[frV f,frV g] W fun e w'=>e=.returned (frV r)/\Turned (fun _=>False) W w') :
  Calls Tryz.prog 69 #[.func (.func 70) #[frV f] #[],ratV b] W fun e w'=>e=.returned (ratV (lowR r.1 r.2.1 r.2.2))/\Turned (fun _=>False) W w':=by
 have HO:=zh (fun W=>qOf_any b W hb.1 hb.2)
 have HL:=zh (fun W=>low_any r W hr0 hr.1 hr.2)
 have HP:=zh H;rw[hg] at HO;obtain⟨⟨sn,sx,sy⟩,hs⟩ : ∃s,lowR r.1 r.2.1 r.2.2=s:=⟨_,rfl⟩;rw[hs] at HL ⊢;obtain⟨bn,bx,bd⟩:=b;obtain⟨f1,f2,f3⟩:=f;obtain⟨g1,g2,g3⟩:=g;obtain⟨r1,r2,r3⟩:=r;simp only[frV] at HO HL HP ⊢;obtain⟨F2,hF2⟩ : ∃x,encB f2=x:=⟨_,rfl⟩;obtain⟨F3,hF3⟩ : ∃x,encB f3=x:=⟨_,rfl⟩;obtain⟨G2,hG2⟩ : ∃x,encB g2=x:=⟨_,rfl⟩;obtain⟨G3,hG3⟩ : ∃x,encB g3=x:=⟨_,rfl⟩;obtain⟨R2,hR2⟩ : ∃x,encB r2=x:=⟨_,rfl⟩;obtain⟨R3,hR3⟩ : ∃x,encB r3=x:=⟨_,rfl⟩;rw[hG2,hG3] at HO;rw[hF2,hF3,hG2,hG3,hR2,hR3] at HP;rw[hR2,hR3] at HL;rw[hF2,hF3];clear hb hg hr0 hr H hs hF2 hF3 hG2 hG3 hR2 hR3 f2 f3 g2 g3 r2 r3;go_enter Tryz.func69,Tryz.ntmps69;go_wp2_with fail;refine(HO.out _).mono ?_;rintro e w1 ⟨rfl,t1⟩;have HS:=zh (And.intro (keepB t1 (new_second W _ _)) ((((zr W).alloc _).alloc _).trans t1));clear t1 HO;go_wp2_with fail;refine(HP.out _).mono ?_;rintro e w2 ⟨rfl,t1⟩;have HS2:=zh (And.intro (keepB t1 HS.out.1) (HS.out.2.trans t1));clear t1 HS HP;go_wp2_with fail;refine(HL.out _).mono ?_;rintro e w3 ⟨rfl,t1⟩;have HS3:=zh (And.intro (keepB t1 HS2.out.1) (HS2.out.2.trans t1));clear t1 HS2 HL;obtain⟨d0,d1,d2,q0,q1,q2⟩:=box3 HS3.out.1;go_wp2_with fail;obtain⟨k1,k2⟩:=set3 HS3.out.1 (.bool sn) (.string sx) (.string sy);refine bodyPost_ret (results_do _ _ (W.heap.size+1) _ _ _ rfl k1) rfl ?_;exact⟨rfl,HS3.out.2.fresh k2 fun g hg=>by omega⟩
attribute [local go_sem ↓] run_eql_rat' run_neq_rat'
theorem fracR_size{u:Rv} {k:Nat} (h:SzR u k) (h1:1<=k):SzF (fracR u) k:=SzF.frac h.1 h.2 h1
theorem results_qadd(tmps:Array Value) (w:World) (g:Nat) (a b c:Value) (hp:tmps.getD 4 undef=.pointer (some ⟨g,0,none⟩)) (hg:w.heap[g]? = some (.cells #[a,b,c] 68 (0,0))) :
  (results Tryz.f64 tmps).run Tryz.prog w=.ok (.agg #[a,b,c]) w :=
 results_cell_row (fn:=Tryz.f64) rfl tmps w g 68 #[a,b,c] (0,0) _ hp hg Tryz.underlying68 rfl (by kernel_rfl)
theorem qAdd_any(u v:Rv) (k:Nat) (W:World) (h1:1<=k) (hk:k<=100000000) (hu:SzR u k) (hv:SzR v k) :
  Calls Tryz.prog 64 #[ratV u,ratV v] W fun e w'=>e=.returned (ratV (repR (qR u+qR v)))/\Turned (fun _=>False) W w':=by
 have hf:=fracR_size hu h1;have hg:=fracR_size hv h1;have hfd:=fracR_den u;have hgd:=fracR_den v;have HO:=zh (fun W=>qOf_any u W (Nat.le_trans hu.1 (by omega)) (Nat.le_trans hu.2 (by omega)))
 have HD:=zh (fun W=>do_plus (fracR u) (fracR v) (plusF (fracR u) (fracR v)) v W (SzR.mono hv (by omega)) rfl (qF_plus _ _ hfd hgd).2 ((hf.plus hg).mono (by omega)) (fun W=>plus_call _ _ k W hk hf hg))
 have he:lowR (plusF (fracR u) (fracR v)).1 (plusF (fracR u) (fracR v)).2.1 (plusF (fracR u) (fracR v)).2.2=repR (qR u+qR v):=(low_qF _ (qF_plus _ _ hfd hgd).2).trans (congrArg repR (qF_plus _ _ hfd hgd).1);rw[he] at HD;obtain⟨⟨sn,sx,sy⟩,hs⟩ : ∃s,repR (qR u+qR v)=s:=⟨_,rfl⟩;rw[hs] at HD ⊢;obtain⟨⟨f1,f2,f3⟩,hfr⟩ : ∃f,fracR u=f:=⟨_,rfl⟩;rw[hfr] at HO HD;obtain⟨un,ux,ud⟩:=u;obtain⟨vn,vx,vd⟩:=v;obtain⟨F2,hF2⟩ : ∃x,encB f2=x:=⟨_,rfl⟩;obtain⟨F3,hF3⟩ : ∃x,encB f3=x:=⟨_,rfl⟩;simp only[frV] at HO HD ⊢;rw[hF2,hF3] at HO HD;clear hu hv hf hg hfd hgd he hs hfr hF2 hF3 f2 f3 h1 hk;go_enter Tryz.func64,Tryz.ntmps64;go_wp2_with fail;obtain⟨n0,n1,n2⟩:=new3 W (.cells #[.bool un,.string ux,.string ud] 68 (0,0)) (.cells #[.bool vn,.string vx,.string vd] 68 (0,0)) (.cells #[.bool false,.string ⟨#[]⟩,.string ⟨#[]⟩] 68 (0,0));have T0:=(((zr W).alloc (.cells #[.bool un,.string ux,.string ud] 68 (0,0))).alloc (.cells #[.bool vn,.string vx,.string vd] 68 (0,0))).alloc (.cells #[.bool false,.string ⟨#[]⟩,.string ⟨#[]⟩] 68 (0,0));obtain⟨w0,hw0⟩ : ∃w0,w0=(((W.alloc (.cells #[.bool un,.string ux,.string ud] 68 (0,0))).alloc (.cells #[.bool vn,.string vx,.string vd] 68 (0,0))).alloc (.cells #[.bool false,.string ⟨#[]⟩,.string ⟨#[]⟩] 68 (0,0))):=⟨_,rfl⟩;rw[<- hw0] at n0 n1 n2 T0 ⊢;have HL0:=zh (And.intro (keepB ((zr w0).drew) n0) (And.intro (keepB ((zr w0).drew) n1) (And.intro (keepB ((zr w0).drew) n2) T0.drew)));clear hw0 n0 n1 n2 T0;have HK0:=zh (s6 HL0.out)
 go_region_held3 (fun V=>V.cell? ⟨W.heap.size,0,none⟩=some (.bool un)/\V.cell? ⟨W.heap.size,1,none⟩=some (.string ux)/\V.cell? ⟨W.heap.size,2,none⟩=some (.string ud)/\V.cell? ⟨W.heap.size+1,0,none⟩=some (.bool vn)/\V.cell? ⟨W.heap.size+1,1,none⟩=some (.string vx)/\V.cell? ⟨W.heap.size+1,2,none⟩=some (.string vd))
  (first | exact HK3.out | exact HK2.out | exact HK1.out | exact HK0.out | go_keep)
  (first
   | (have hq:=HK1;clear hq;go_at_call 69;refine(HD.out w1).mono ?_;rintro e w2 ⟨rfl,t2⟩;have HL2:=zh (mv3 HL1.out t2);have HK2:=zh (s6 HL2.out);obtain⟨e0,e1,e2,g0,g1,g2⟩:=box3 HL2.out.2.2.1;have K3:=set3 HL2.out.2.2.1 (.bool sn) (.string sx) (.string sy);have HS3:=zh K3;have HK3:=zh (s6' HL2.out K3.2 (by omega) (by omega));clear t2 K3)
   | (go_at_call 67;refine(HO.out w0.drew).mono ?_;rintro e w1 ⟨rfl,t1⟩;have HL1:=zh (mv3 HL0.out t1);have HK1:=zh (s6 HL1.out);clear t1))
 go_wp2_with fail;refine bodyPost_ret (results_qadd _ _ (W.heap.size+1+1) _ _ _ rfl HS3.out.1) rfl ?_;exact⟨rfl,HL2.out.2.2.2.fresh HS3.out.2 fun g hg=>by omega⟩
theorem results_qsub(tmps:Array Value) (w:World) (g:Nat) (a b c:Value) (hp:tmps.getD 4 undef=.pointer (some ⟨g,0,none⟩)) (hg:w.heap[g]? = some (.cells #[a,b,c] 68 (0,0))) :
  (results Tryz.f63 tmps).run Tryz.prog w=.ok (.agg #[a,b,c]) w :=
 results_cell_row (fn:=Tryz.f63) rfl tmps w g 68 #[a,b,c] (0,0) _ hp hg Tryz.underlying68 rfl (by kernel_rfl)
theorem qSub_any(u v:Rv) (k:Nat) (W:World) (h1:1<=k) (hk:k<=100000000) (hu:SzR u k) (hv:SzR v k) :
  Calls Tryz.prog 63 #[ratV u,ratV v] W fun e w'=>e=.returned (ratV (repR (qR u-qR v)))/\Turned (fun _=>False) W w':=by
 have hf:=fracR_size hu h1;have hg:=fracR_size hv h1;have hfd:=fracR_den u;have hgd:=fracR_den v;have HO:=zh (fun W=>qOf_any u W (Nat.le_trans hu.1 (by omega)) (Nat.le_trans hu.2 (by omega)))
 have HD:=zh (fun W=>do_less (fracR u) (fracR v) (plusF (fracR u) (!(fracR v).1,(fracR v).2)) v W (SzR.mono hv (by omega)) rfl (qF_plus (fracR u) (!(fracR v).1,(fracR v).2) hfd hgd).2 ((hf.plus (g:=(!(fracR v).1,(fracR v).2)) hg).mono (by omega)) (fun W=>less_call _ _ k W hk hf hg))
 have he:lowR (plusF (fracR u) (!(fracR v).1,(fracR v).2)).1 (plusF (fracR u) (!(fracR v).1,(fracR v).2)).2.1 (plusF (fracR u) (!(fracR v).1,(fracR v).2)).2.2=repR (qR u-qR v):=(low_qF _ (qF_plus (fracR u) (!(fracR v).1,(fracR v).2) hfd hgd).2).trans (congrArg repR ((qF_plus (fracR u) (!(fracR v).1,(fracR v).2) hfd hgd).1.trans (by rw[qF_neg,Rat.sub_eq_add_neg];rfl)))
 rw[he] at HD;obtain⟨⟨sn,sx,sy⟩,hs⟩ : ∃s,repR (qR u-qR v)=s:=⟨_,rfl⟩;rw[hs] at HD ⊢;obtain⟨⟨f1,f2,f3⟩,hfr⟩ : ∃f,fracR u=f:=⟨_,rfl⟩;rw[hfr] at HO HD;obtain⟨un,ux,ud⟩:=u;obtain⟨vn,vx,vd⟩:=v;obtain⟨F2,hF2⟩ : ∃x,encB f2=x:=⟨_,rfl⟩;obtain⟨F3,hF3⟩ : ∃x,encB f3=x:=⟨_,rfl⟩;simp only[frV] at HO HD ⊢;rw[hF2,hF3] at HO HD;clear hu hv hf hg hfd hgd he hs hfr hF2 hF3 f2 f3 h1 hk;go_enter Tryz.func63,Tryz.ntmps63;go_wp2_with fail;obtain⟨n0,n1,n2⟩:=new3 W (.cells #[.bool un,.string ux,.string ud] 68 (0,0)) (.cells #[.bool vn,.string vx,.string vd] 68 (0,0)) (.cells #[.bool false,.string ⟨#[]⟩,.string ⟨#[]⟩] 68 (0,0));have T0:=(((zr W).alloc (.cells #[.bool un,.string ux,.string ud] 68 (0,0))).alloc (.cells #[.bool vn,.string vx,.string vd] 68 (0,0))).alloc (.cells #[.bool false,.string ⟨#[]⟩,.string ⟨#[]⟩] 68 (0,0));obtain⟨w0,hw0⟩ : ∃w0,w0=(((W.alloc (.cells #[.bool un,.string ux,.string ud] 68 (0,0))).alloc (.cells #[.bool vn,.string vx,.string vd] 68 (0,0))).alloc (.cells #[.bool false,.string ⟨#[]⟩,.string ⟨#[]⟩] 68 (0,0))):=⟨_,rfl⟩;rw[<- hw0] at n0 n1 n2 T0 ⊢;have HL0:=zh (And.intro (keepB ((zr w0).drew) n0) (And.intro (keepB ((zr w0).drew) n1) (And.intro (keepB ((zr w0).drew) n2) T0.drew)));clear hw0 n0 n1 n2 T0;have HK0:=zh (s6 HL0.out)
 go_region_held3 (fun V=>V.cell? ⟨W.heap.size,0,none⟩=some (.bool un)/\V.cell? ⟨W.heap.size,1,none⟩=some (.string ux)/\V.cell? ⟨W.heap.size,2,none⟩=some (.string ud)/\V.cell? ⟨W.heap.size+1,0,none⟩=some (.bool vn)/\V.cell? ⟨W.heap.size+1,1,none⟩=some (.string vx)/\V.cell? ⟨W.heap.size+1,2,none⟩=some (.string vd))
  (first | exact HK3.out | exact HK2.out | exact HK1.out | exact HK0.out | go_keep)
  (first
   | (have hq:=HK1;clear hq;go_at_call 69;refine(HD.out w1).mono ?_;rintro e w2 ⟨rfl,t2⟩;have HL2:=zh (mv3 HL1.out t2);have HK2:=zh (s6 HL2.out);obtain⟨e0,e1,e2,g0,g1,g2⟩:=box3 HL2.out.2.2.1;have K3:=set3 HL2.out.2.2.1 (.bool sn) (.string sx) (.string sy);have HS3:=zh K3;have HK3:=zh (s6' HL2.out K3.2 (by omega) (by omega));clear t2 K3)
   | (go_at_call 67;refine(HO.out w0.drew).mono ?_;rintro e w1 ⟨rfl,t1⟩;have HL1:=zh (mv3 HL0.out t1);have HK1:=zh (s6 HL1.out);clear t1))
 go_wp2_with fail;refine bodyPost_ret (results_qsub _ _ (W.heap.size+1+1) _ _ _ rfl HS3.out.1) rfl ?_;exact⟨rfl,HL2.out.2.2.2.fresh HS3.out.2 fun g hg=>by omega⟩
theorem results_qmul(tmps:Array Value) (w:World) (g:Nat) (a b c:Value) (hp:tmps.getD 4 undef=.pointer (some ⟨g,0,none⟩)) (hg:w.heap[g]? = some (.cells #[a,b,c] 68 (0,0))) :
  (results Tryz.f65 tmps).run Tryz.prog w=.ok (.agg #[a,b,c]) w :=
 results_cell_row (fn:=Tryz.f65) rfl tmps w g 68 #[a,b,c] (0,0) _ hp hg Tryz.underlying68 rfl (by kernel_rfl)
theorem qMul_any(u v:Rv) (k:Nat) (W:World) (h1:1<=k) (hk:k<=100000000) (hu:SzR u k) (hv:SzR v k) :
  Calls Tryz.prog 65 #[ratV u,ratV v] W fun e w'=>e=.returned (ratV (repR (qR u*qR v)))/\Turned (fun _=>False) W w':=by
 have hf:=fracR_size hu h1;have hg:=fracR_size hv h1;have hfd:=fracR_den u;have hgd:=fracR_den v;have HO:=zh (fun W=>qOf_any u W (Nat.le_trans hu.1 (by omega)) (Nat.le_trans hu.2 (by omega)))
 have HD:=zh (fun W=>do_times (fracR u) (fracR v) ((fracR u).1 != (fracR v).1,(fracR u).2.1*(fracR v).2.1,(fracR u).2.2*(fracR v).2.2) v W (SzR.mono hv (by omega)) rfl (Nat.mul_ne_zero hfd hgd) ((hf.times hg).mono (by omega)) (fun W=>times_call _ _ k W (by omega) hf hg))
 have he:lowR ((fracR u).1 != (fracR v).1) ((fracR u).2.1*(fracR v).2.1) ((fracR u).2.2*(fracR v).2.2)=repR (qR u*qR v):=(low_qF ((fracR u).1 != (fracR v).1,(fracR u).2.1*(fracR v).2.1,(fracR u).2.2*(fracR v).2.2) (Nat.mul_ne_zero hfd hgd)).trans (congrArg repR (qF_times _ _));rw[he] at HD;obtain⟨⟨sn,sx,sy⟩,hs⟩ : ∃s,repR (qR u*qR v)=s:=⟨_,rfl⟩;rw[hs] at HD ⊢;obtain⟨⟨f1,f2,f3⟩,hfr⟩ : ∃f,fracR u=f:=⟨_,rfl⟩;rw[hfr] at HO HD;obtain⟨un,ux,ud⟩:=u;obtain⟨vn,vx,vd⟩:=v;obtain⟨F2,hF2⟩ : ∃x,encB f2=x:=⟨_,rfl⟩;obtain⟨F3,hF3⟩ : ∃x,encB f3=x:=⟨_,rfl⟩;simp only[frV] at HO HD ⊢;rw[hF2,hF3] at HO HD;clear hu hv hf hg hfd hgd he hs hfr hF2 hF3 f2 f3 h1 hk;go_enter Tryz.func65,Tryz.ntmps65;go_wp2_with fail;obtain⟨n0,n1,n2⟩:=new3 W (.cells #[.bool un,.string ux,.string ud] 68 (0,0)) (.cells #[.bool vn,.string vx,.string vd] 68 (0,0)) (.cells #[.bool false,.string ⟨#[]⟩,.string ⟨#[]⟩] 68 (0,0));have T0:=(((zr W).alloc (.cells #[.bool un,.string ux,.string ud] 68 (0,0))).alloc (.cells #[.bool vn,.string vx,.string vd] 68 (0,0))).alloc (.cells #[.bool false,.string ⟨#[]⟩,.string ⟨#[]⟩] 68 (0,0));obtain⟨w0,hw0⟩ : ∃w0,w0=(((W.alloc (.cells #[.bool un,.string ux,.string ud] 68 (0,0))).alloc (.cells #[.bool vn,.string vx,.string vd] 68 (0,0))).alloc (.cells #[.bool false,.string ⟨#[]⟩,.string ⟨#[]⟩] 68 (0,0))):=⟨_,rfl⟩;rw[<- hw0] at n0 n1 n2 T0 ⊢;have HL0:=zh (And.intro (keepB ((zr w0).drew) n0) (And.intro (keepB ((zr w0).drew) n1) (And.intro (keepB ((zr w0).drew) n2) T0.drew)));clear hw0 n0 n1 n2 T0;have HK0:=zh (s6 HL0.out)
 go_region_held3 (fun V=>V.cell? ⟨W.heap.size,0,none⟩=some (.bool un)/\V.cell? ⟨W.heap.size,1,none⟩=some (.string ux)/\V.cell? ⟨W.heap.size,2,none⟩=some (.string ud)/\V.cell? ⟨W.heap.size+1,0,none⟩=some (.bool vn)/\V.cell? ⟨W.heap.size+1,1,none⟩=some (.string vx)/\V.cell? ⟨W.heap.size+1,2,none⟩=some (.string vd))
  (first | exact HK3.out | exact HK2.out | exact HK1.out | exact HK0.out | go_keep)
  (first
   | (have hq:=HK1;clear hq;go_at_call 69;refine(HD.out w1).mono ?_;rintro e w2 ⟨rfl,t2⟩;have HL2:=zh (mv3 HL1.out t2);have HK2:=zh (s6 HL2.out);obtain⟨e0,e1,e2,g0,g1,g2⟩:=box3 HL2.out.2.2.1;have K3:=set3 HL2.out.2.2.1 (.bool sn) (.string sx) (.string sy);have HS3:=zh K3;have HK3:=zh (s6' HL2.out K3.2 (by omega) (by omega));clear t2 K3)
   | (go_at_call 67;refine(HO.out w0.drew).mono ?_;rintro e w1 ⟨rfl,t1⟩;have HL1:=zh (mv3 HL0.out t1);have HK1:=zh (s6 HL1.out);clear t1))
 go_wp2_with fail;refine bodyPost_ret (results_qmul _ _ (W.heap.size+1+1) _ _ _ rfl HS3.out.1) rfl ?_;exact⟨rfl,HL2.out.2.2.2.fresh HS3.out.2 fun g hg=>by omega⟩
end Go.Proofs.YtanhhdndgkhcfaaGreatDoor
