/- Part 23 of the proof of lawSpec.card: RatRefB, RatRefC, RatRefD, RatRefE, RatRefF, RatRefG, RatRefH, RatRefI, SupRefA. Conditions: those of each theorem. -/
import Derived.Test.YtanhhdndgkhcfaaGreatDoorSp01
import Derived.Test.YtanhhdndgkhcfaaGreatDoorSp07
import Derived.Test.YtanhhdndgkhcfaaGreatDoorSp10
import Derived.Test.YtanhhdndgkhcfaaGreatDoorSp22
set_option maxRecDepth 20000
set_option maxHeartbeats 4000000
namespace Go.Proofs.YtanhhdndgkhcfaaGreatDoor
open Go Go.Proofs Go.RowKit
attribute [local go_sem] Oper.semAt_some
attribute [local go_sem ↓] run_eql_rat' run_neq_rat'
theorem repR_sign(q:Rat):(repR q).neg=decide (q.num < 0):=by
 rcases repR_parts q with⟨rfl,h2⟩ | ⟨h1,h2,h3⟩
 ·rw[h2];rfl
 ·rw[h2]
theorem repR_neg(q:Rat):repR (-q)=if(repR q).num=⟨#[]⟩ then repR q else⟨!(repR q).neg,(repR q).num,(repR q).den⟩:=by
 rcases repR_parts q with⟨rfl,h2⟩ | ⟨h1,h2,h3⟩
 ·rw[if_pos (by rw[h2];rfl)];rfl
 ·rcases repR_parts (-q) with⟨g1,-⟩ | ⟨g1,g2,-⟩
  ·exact absurd (by rw[<- Rat.neg_neg q,g1];rfl) h1
  ·have h4:q.num≠0:=fun h=>h1 (Rat.num_eq_zero.1 h)
   rw[g2,h2,if_neg h3,Rat.neg_num,Rat.neg_den,Int.natAbs_neg]
   congr 1
   rw[<- decide_not];exact decide_eq_decide.2 (by omega)
theorem pNeg_any(u:Rv) (W:World) (hn:u.num.size<=300000000) (hd:u.den.size<=300000000):Calls Tryz.prog 116 #[ratV u] W fun e w'=>e=.returned (ratV (repR (-qR u)))/\Turned (fun _=>False) W w':=by
 have HC:=zh (fun W=>pClean_any u W hn hd)
 have HE:=zh (repR_neg (qR u));obtain⟨⟨a,x,y⟩,hr⟩ : ∃r,repR (qR u)=r:=⟨_,rfl⟩;rw[hr] at HC HE;obtain⟨neg,num,den⟩:=u;clear hn hd hr;have T0:=((zr W).alloc (.cells #[.bool neg,.string num,.string den] 68)).alloc (.cells #[.bool false,.string ⟨#[]⟩,.string ⟨#[]⟩] 68);have n0:=new_first W (.cells #[.bool neg,.string num,.string den] 68) (.cells #[.bool false,.string ⟨#[]⟩,.string ⟨#[]⟩] 68);have n1:=new_second W (.cells #[.bool neg,.string num,.string den] 68) (.cells #[.bool false,.string ⟨#[]⟩,.string ⟨#[]⟩] 68);have z0:((W.alloc (.cells #[.bool neg,.string num,.string den] 68)).alloc (.cells #[.bool false,.string ⟨#[]⟩,.string ⟨#[]⟩] 68)).heap.size=W.heap.size+2:=by simp
 go_enter Tryz.func116,Tryz.ntmps116
 go_upto_region 1 with fail
 obtain⟨w0,hw0⟩ : ∃w,w=(W.alloc (.cells #[.bool neg,.string num,.string den] 68)).alloc (.cells #[.bool false,.string ⟨#[]⟩,.string ⟨#[]⟩] 68):=⟨_,rfl⟩;rw[<- hw0] at T0 n0 n1 z0 ⊢;obtain⟨B,hB⟩ : ∃o,W.heap.size=o:=⟨_,rfl⟩;rw[hB] at n0 n1 z0 ⊢;have H0:=zh (And.intro T0 (And.intro n0 (And.intro n1 (And.intro hB z0))));obtain⟨c0,c1,c2,-,-,-⟩:=box3 n0;clear hw0 T0 n0 n1 hB z0;go_wp2_with fail;refine(HC.out _).mono ?_;rintro e w1 ⟨rfl,t1⟩;clear c0 c1 c2;have tx:=t1.alloc (.cells #[.bool a,.string x,.string y] 68);have nx:=World.alloc_heap_new w1 (.cells #[.bool a,.string x,.string y] 68);have hb1:=keepB tx H0.out.2.2.1;have hX:=t1.size;rw[H0.out.2.2.2.2] at hX;obtain⟨X,hXX⟩ : ∃o,w1.heap.size=o:=⟨_,rfl⟩;rw[hXX] at nx hX;by_cases h1:x=⟨#[]⟩
 ·subst h1;have hE:repR (-qR ⟨neg,num,den⟩)=⟨a,⟨#[]⟩,y⟩:=by rw[HE.out,if_pos rfl]
  have H1:=zh (And.intro tx (And.intro hX hE));obtain⟨d0,d1,d2,d3,d4,d5⟩:=box3 nx;obtain⟨k0,k1,k2,k3,k4,k5⟩:=box3 hb1;have HZ:=zh (set3 hb1 (.bool a) (.string ⟨#[]⟩) (.string y));clear t1 tx nx hb1 hX hE
  go_upto_region 2 with fail
  clear hXX;go_wp2_with fail;refine bodyPost_ret (results_cell_row (fn:=Tryz.f116) rfl _ _ (B+1) 68 #[.bool a,.string ⟨#[]⟩,.string y] (0,0) _ rfl HZ.out.1 Tryz.underlying68 rfl (by kernel_rfl)) rfl ?_
  exact⟨by rw[H1.out.2.2],(H0.out.1.trans H1.out.1).fresh HZ.out.2 fun g hg=>by have h1:=H0.out.2.2.2.1;omega⟩
 ·have hE:repR (-qR ⟨neg,num,den⟩)=⟨!a,x,y⟩:=by rw[HE.out,if_neg h1]
  obtain⟨l1,l2⟩:=bytes_ne h1;have H1:=zh (And.intro tx (And.intro hX hE));clear h1 hE HE;obtain⟨d0,d1,d2,d3,d4,d5⟩:=box3 nx;have HN:=zh nx;have HB1:=zh hb1;clear t1 tx nx hb1 hX
  go_upto_region 2 with fail
  obtain⟨V,hV⟩ : ∃V,w1.alloc (.cells #[.bool a,.string x,.string y] 68)=V:=⟨_,rfl⟩;rw[hV] at HN HB1 H1 d0 d1 d2 d3 d4 d5 ⊢;clear hV hXX
  go_upto_region 4 with fail
  have ty:Turned (fun k=>k=X) V (V.setCell ⟨X,0,none⟩ (.bool !a)):=(Turned.refl (fun k=>k=X) V).setCell (p:=⟨X,0,none⟩) rfl _
  have hb2:(V.setCell ⟨X,0,none⟩ (.bool !a)).heap[B+1]? = some (.cells #[.bool false,.string ⟨#[]⟩,.string ⟨#[]⟩] 68 (0,0)):=(ty.block (B+1) (getElem?_lt HB1.out) (by have:=H1.out.2.1;omega)).trans HB1.out
  have hx2:(V.setCell ⟨X,0,none⟩ (.bool !a)).heap[X]? = some (.cells #[.bool !a,.string x,.string y] 68 (0,0)):=by
   rw[set_block HN.out 0 (.bool !a)];rfl
  have HT2:=zh ((H0.out.1.trans H1.out.1).fresh ty fun g hg=>by have h1:=H0.out.2.2.2.1;have h2:=H1.out.2.1;omega)
  obtain⟨V2,hV2⟩ : ∃V2,V.setCell ⟨X,0,none⟩ (.bool !a)=V2:=⟨_,rfl⟩;rw[hV2] at hb2 hx2 HT2 ⊢;clear ty hV2 d0 d1 d2 d3 d4 d5;obtain⟨d0,d1,d2,d3,d4,d5⟩:=box3 hx2;obtain⟨k0,k1,k2,k3,k4,k5⟩:=box3 hb2;have HZ:=zh (set3 hb2 (.bool !a) (.string x) (.string y));clear hb2 hx2;go_wp2_with fail;refine bodyPost_ret (results_cell_row (fn:=Tryz.f116) rfl _ _ (B+1) 68 #[.bool !a,.string x,.string y] (0,0) _ rfl HZ.out.1 Tryz.underlying68 rfl (by kernel_rfl)) rfl ?_
  exact⟨by rw[H1.out.2.2],HT2.out.fresh HZ.out.2 fun g hg=>by have h1:=H0.out.2.2.2.1;omega⟩
attribute [local go_sem ↓] run_eql_rat' run_neq_rat'
theorem qF_of(q:Rat):qF (decide (q.num < 0),q.num.natAbs,q.den)=q:=by
 have h:=low_qF (decide (q.num < 0),q.num.natAbs,q.den) q.den_nz;exact(repR_inj h.symm)
theorem parts_size{u:Rv} {k:Nat} (h:SzR u k):(encB (qR u).num.natAbs).size<=k+1/\(encB (qR u).den).size<=k+1:=by
 have:=qR_bytes h.1 h.2;exact⟨encB_size this.1,encB_size this.2⟩
structure AddW (a b:Bool) (L R D:ByteArray) (r:Rv):Prop where
 same:a=b->∃S:ByteArray,(∀W,Calls Tryz.prog 81 #[.string L,.string R] W fun e w'=>e=.returned (.string S)/\Turned (fun _=>False) W w')/\(∀W,Calls Tryz.prog 80 #[.bool a,.string S,.string D] W fun e w'=>e=.returned (ratV r)/\Turned (fun _=>False) W w')
 cmp:∀W,Calls Tryz.prog 82 #[.string L,.string R] W fun e w'=>e=.returned (.int .i64 (cmpZ (natB L) (natB R)))/\w'=W
 left:a≠b->0<=cmpZ (natB L) (natB R)->∃S:ByteArray,(∀W,Calls Tryz.prog 83 #[.string L,.string R] W fun e w'=>e=.returned (.agg #[.string S,.int .i64 0])/\Turned (fun _=>False) W w')/\(∀W,Calls Tryz.prog 80 #[.bool a,.string S,.string D] W fun e w'=>e=.returned (ratV r)/\Turned (fun _=>False) W w')
 right:a≠b->¬0<=cmpZ (natB L) (natB R)->∃S:ByteArray,(∀W,Calls Tryz.prog 83 #[.string R,.string L] W fun e w'=>e=.returned (.agg #[.string S,.int .i64 0])/\Turned (fun _=>False) W w')/\(∀W,Calls Tryz.prog 80 #[.bool b,.string S,.string D] W fun e w'=>e=.returned (ratV r)/\Turned (fun _=>False) W w')
theorem mul_size{x y k:Nat} (hx:(encB x).size<=k) (hy:(encB y).size<=k):(encB (x*y)).size<=2*k:=by
 refine encB_size ?_;rw[Nat.two_mul];exact mul_lt_pow (Nat.lt_of_lt_of_le (encB_lt x) (Nat.pow_le_pow_right (by decide) hx)) (Nat.lt_of_lt_of_le (encB_lt y) (Nat.pow_le_pow_right (by decide) hy))
theorem add_size{x y k:Nat} (hx:(encB x).size<=k) (hy:(encB y).size<=k):(encB (x+y)).size<=k+1:=by
 refine encB_size ?_;have h1:=Nat.lt_of_lt_of_le (encB_lt x) (Nat.pow_le_pow_right (by decide) hx)
 have h2:=Nat.lt_of_lt_of_le (encB_lt y) (Nat.pow_le_pow_right (by decide) hy)
 rw[Nat.pow_succ];omega
theorem le_size{x y k:Nat} (h:x<=y) (hy:(encB y).size<=k):(encB x).size<=k :=
 encB_size (Nat.lt_of_le_of_lt h (Nat.lt_of_lt_of_le (encB_lt y) (Nat.pow_le_pow_right (by decide) hy)))
theorem cmpZ_ge{x y:Nat} : 0<=cmpZ x y↔y<=x:=by
 unfold cmpZ;split
 ·omega
 ·split <;> omega
theorem addW_of(p q:Rat) (k:Nat) (hk:k<=50000000) (p1:(encB p.num.natAbs).size<=k+1) (p2:(encB p.den).size<=k+1) (q1:(encB q.num.natAbs).size<=k+1) (q2:(encB q.den).size<=k+1) :
  AddW (repR p).neg (repR q).neg (encB (p.num.natAbs*q.den)) (encB (q.num.natAbs*p.den)) (encB (p.den*q.den)) (repR (p+q)):=by
 have hf:(plusF (decide (p.num < 0),p.num.natAbs,p.den) (decide (q.num < 0),q.num.natAbs,q.den))=_:=rfl;have hF:=qF_plus (decide (p.num < 0),p.num.natAbs,p.den) (decide (q.num < 0),q.num.natAbs,q.den) p.den_nz q.den_nz;have hE:=low_qF _ hF.2;rw[hF.1,qF_of,qF_of] at hE;have hd0:p.den*q.den≠0:=Nat.mul_ne_zero p.den_nz q.den_nz;have sL:=mul_size p1 q2;have sR:=mul_size q1 p2;have sD:=mul_size p2 q2;rw[repR_sign,repR_sign];obtain⟨a,ha⟩ : ∃a,decide (p.num < 0)=a:=⟨_,rfl⟩;obtain⟨b,hb⟩ : ∃a,decide (q.num < 0)=a:=⟨_,rfl⟩;rw[ha,hb] at hE ⊢;unfold plusF at hE;dsimp only at hE;obtain⟨L,hL⟩ : ∃a,p.num.natAbs*q.den=a:=⟨_,rfl⟩;obtain⟨R,hR⟩ : ∃a,q.num.natAbs*p.den=a:=⟨_,rfl⟩;obtain⟨D,hD⟩ : ∃a,p.den*q.den=a:=⟨_,rfl⟩;rw[hL] at sL;rw[hR] at sR;rw[hD] at sD hd0;rw[hL,hR,hD] at hE ⊢;have hLow:∀(s:Bool) (n:Nat),(encB n).size<=200000000->lowR s n D=repR (p+q)->∀W,Calls Tryz.prog 80 #[.bool s,.string (encB n),.string (encB D)] W fun e w'=>e=.returned (ratV (repR (p+q)))/\Turned (fun _=>False) W w':=by
  intro s n hn hs W;have:=pLowest_any s (encB n) (encB D) W hn (by omega) (by rw[natB_encB];exact hd0)
  rw[natB_encB,natB_encB,hs] at this;exact this
 refine⟨?_,?_,?_,?_⟩
 ·rintro rfl;rw[if_pos rfl] at hE;refine⟨encB (L+R),?_,hLow _ _ (by have:=add_size (k:=2*(k+1)) sL sR;omega) hE⟩
  intro W;have:=mAdd_any (encB L) (encB R) W (by omega) (by omega)
  rw[natB_encB,natB_encB] at this;exact this
 ·exact fun W=>mCmp_any _ _ W (by omega) (by omega)
 ·intro hab h0;rw[natB_encB,natB_encB,cmpZ_ge] at h0;rw[if_neg hab,if_neg (by omega)] at hE
  refine⟨encB (L-R),?_,hLow _ _ (by have:=le_size (Nat.sub_le L R) sL;omega) hE⟩
  intro W;have:=mSub_any (encB L) (encB R) W (by omega) (by omega) (by rw[natB_encB,natB_encB];exact h0)
  rw[natB_encB,natB_encB] at this;exact this
 ·intro hab h0;rw[natB_encB,natB_encB,cmpZ_ge] at h0;rw[if_neg hab,if_pos (by omega)] at hE
  refine⟨encB (R-L),?_,hLow _ _ (by have:=le_size (Nat.sub_le R L) sR;omega) hE⟩
  intro W;have:=mSub_any (encB R) (encB L) W (by omega) (by omega) (by rw[natB_encB,natB_encB];omega)
  rw[natB_encB,natB_encB] at this;exact this
attribute [local go_sem ↓] run_eql_rat' run_neq_rat'
theorem results_padd(tmps:Array Value) (w:World) (g:Nat) (a b c:Value) (hp:tmps.getD 4 undef=.pointer (some ⟨g,0,none⟩)) (hg:w.heap[g]? = some (.cells #[a,b,c] 68 (0,0))) :
  (results Tryz.f43 tmps).run Tryz.prog w=.ok (.agg #[a,b,c]) w :=
 results_cell_row (fn:=Tryz.f43) rfl tmps w g 68 #[a,b,c] (0,0) _ hp hg Tryz.underlying68 rfl (by kernel_rfl)
theorem pAdd_any(u v:Rv) (k:Nat) (W:World) (hk:k<=50000000) (hu:SzR u k) (hv:SzR v k):Calls Tryz.prog 43 #[ratV u,ratV v] W fun e w'=>e=.returned (ratV (repR (qR u+qR v)))/\Turned (fun _=>False) W w':=by
 have HC1:=zh (fun W=>pClean_any u W (Nat.le_trans hu.1 (by omega)) (Nat.le_trans hu.2 (by omega)))
 have HC2:=zh (fun W=>pClean_any v W (Nat.le_trans hv.1 (by omega)) (Nat.le_trans hv.2 (by omega)))
 have HP1:=zh (fun W=>pParts_any (qR u) W)
 have HP2:=zh (fun W=>pParts_any (qR v) W)
 obtain⟨p1,p2⟩:=parts_size hu;obtain⟨q1,q2⟩:=parts_size hv;obtain⟨p,hp⟩ : ∃p,qR u=p:=⟨_,rfl⟩;obtain⟨q,hq⟩ : ∃p,qR v=p:=⟨_,rfl⟩;rw[hp] at HC1 HP1 p1 p2 ⊢;rw[hq] at HC2 HP2 q1 q2 ⊢;have HA:=zh (addW_of p q k hk p1 p2 q1 q2);have HM1:=zh (fun W=>mMul_any (encB p.num.natAbs) (encB q.den) W (by omega) (by omega))
 have HM2:=zh (fun W=>mMul_any (encB q.num.natAbs) (encB p.den) W (by omega) (by omega))
 have HM3:=zh (fun W=>mMul_any (encB p.den) (encB q.den) W (by omega) (by omega))
 rw[natB_encB,natB_encB] at HM1 HM2 HM3;obtain⟨⟨a,x1,x2⟩,hx⟩ : ∃r,repR p=r:=⟨_,rfl⟩;obtain⟨⟨b,y1,y2⟩,hy⟩ : ∃r,repR q=r:=⟨_,rfl⟩;obtain⟨⟨c,r1,r2⟩,hr⟩ : ∃r,repR (p+q)=r:=⟨_,rfl⟩;rw[hx] at HC1 HP1;rw[hy] at HC2 HP2;rw[hx,hy,hr] at HA;rw[hr];obtain⟨P,hP⟩ : ∃r,encB p.num.natAbs=r:=⟨_,rfl⟩;obtain⟨Q,hQ⟩ : ∃r,encB p.den=r:=⟨_,rfl⟩;obtain⟨R,hR⟩ : ∃r,encB q.num.natAbs=r:=⟨_,rfl⟩;obtain⟨S,hS⟩ : ∃r,encB q.den=r:=⟨_,rfl⟩;rw[hP,hQ] at HP1;rw[hR,hS] at HP2;rw[hP,hS] at HM1;rw[hR,hQ] at HM2;rw[hQ,hS] at HM3;obtain⟨L,hL⟩ : ∃r,encB (p.num.natAbs*q.den)=r:=⟨_,rfl⟩;obtain⟨M,hM⟩ : ∃r,encB (q.num.natAbs*p.den)=r:=⟨_,rfl⟩;obtain⟨D,hD⟩ : ∃r,encB (p.den*q.den)=r:=⟨_,rfl⟩;rw[hL] at HM1 HA;rw[hM] at HM2 HA;rw[hD] at HM3 HA;clear p1 p2 q1 q2 hu hv hp hq hx hy hr hP hQ hR hS hL hM hD p q hk k;obtain⟨un,ux,ud⟩:=u;obtain⟨vn,vx,vd⟩:=v;obtain⟨n0,n1,n2⟩:=new3 W (.cells #[.bool un,.string ux,.string ud] 68 (0,0)) (.cells #[.bool vn,.string vx,.string vd] 68 (0,0)) (.cells #[.bool false,.string ⟨#[]⟩,.string ⟨#[]⟩] 68 (0,0));have T0:=(((zr W).alloc (.cells #[.bool un,.string ux,.string ud] 68 (0,0))).alloc (.cells #[.bool vn,.string vx,.string vd] 68 (0,0))).alloc (.cells #[.bool false,.string ⟨#[]⟩,.string ⟨#[]⟩] 68 (0,0));have z0:(((W.alloc (.cells #[.bool un,.string ux,.string ud] 68 (0,0))).alloc (.cells #[.bool vn,.string vx,.string vd] 68 (0,0))).alloc (.cells #[.bool false,.string ⟨#[]⟩,.string ⟨#[]⟩] 68 (0,0))).heap.size=W.heap.size+3:=by simp
 go_enter Tryz.func43,Tryz.ntmps43
 go_upto_region 1 with fail
 obtain⟨w0,hw0⟩ : ∃w0,w0=(((W.alloc (.cells #[.bool un,.string ux,.string ud] 68 (0,0))).alloc (.cells #[.bool vn,.string vx,.string vd] 68 (0,0))).alloc (.cells #[.bool false,.string ⟨#[]⟩,.string ⟨#[]⟩] 68 (0,0))):=⟨_,rfl⟩;rw[<- hw0] at n0 n1 n2 T0 z0 ⊢;obtain⟨B,hB⟩ : ∃o,W.heap.size=o:=⟨_,rfl⟩;rw[hB] at n0 n1 n2 z0 ⊢;have H0:=zh (And.intro T0 (And.intro n1 (And.intro n2 (And.intro hB z0))));obtain⟨c0,c1,c2,-,-,-⟩:=box3 n0;clear hw0 n0 n1 n2 T0 z0 hB;go_wp2_with fail;refine(HC1.out _).mono ?_;rintro e w1 ⟨rfl,t1⟩;clear c0 c1 c2;have tx:=t1.alloc (.cells #[.bool a,.string x1,.string x2] 68);have nx:=World.alloc_heap_new w1 (.cells #[.bool a,.string x1,.string x2] 68);have hX:=t1.size;rw[H0.out.2.2.2.2] at hX;obtain⟨X,hXX⟩ : ∃o,w1.heap.size=o:=⟨_,rfl⟩;rw[hXX] at nx hX
 go_upto_region 2 with fail
 obtain⟨V1,hV1⟩ : ∃V,w1.alloc (.cells #[.bool a,.string x1,.string x2] 68)=V:=⟨_,rfl⟩;rw[hV1] at nx tx ⊢;have zX:V1.heap.size=X+1:=by rw[<- hV1,<- hXX];simp
 obtain⟨c0,c1,c2,-,-,-⟩:=box3 (keepB tx H0.out.2.1);have H1:=zh (And.intro (H0.out.1.trans tx) (And.intro nx (And.intro (keepB tx H0.out.2.2.1) (And.intro hX zX))));have HB:=zh H0.out.2.2.2.1;clear hV1 hXX t1 tx nx hX zX H0;go_wp2_with fail;refine(HC2.out _).mono ?_;rintro e w2 ⟨rfl,t1⟩;clear c0 c1 c2;have tx:=t1.alloc (.cells #[.bool b,.string y1,.string y2] 68);have ny:=World.alloc_heap_new w2 (.cells #[.bool b,.string y1,.string y2] 68);have hY:=t1.size;rw[H1.out.2.2.2.2] at hY;obtain⟨Y,hYY⟩ : ∃o,w2.heap.size=o:=⟨_,rfl⟩;rw[hYY] at ny hY
 go_upto_region 3 with fail
 obtain⟨V2,hV2⟩ : ∃V,w2.alloc (.cells #[.bool b,.string y1,.string y2] 68)=V:=⟨_,rfl⟩;rw[hV2] at ny tx ⊢;have nx:=keepB tx H1.out.2.1;have H2:=zh (And.intro nx (And.intro ny (And.intro (keepB tx H1.out.2.2.1) (H1.out.1.trans tx))));have HX:=zh H1.out.2.2.2.1;obtain⟨c0,c1,c2,-,-,-⟩:=box3 nx;clear hV2 hYY t1 tx ny nx H1;have HY:=zh hY;clear hY;go_wp2_with fail;refine(HP1.out _).mono ?_;rintro e w3 ⟨rfl,t1⟩;have H3:=zh (mv3 H2.out t1);clear t1 H2 c0 c1 c2;obtain⟨c0,c1,c2,-,-,-⟩:=box3 H3.out.2.1;go_wp2_with fail;refine(HP2.out _).mono ?_;rintro e w4 ⟨rfl,t1⟩;have H4:=zh (mv3 H3.out t1);clear t1 H3 c0 c1 c2;go_wp2_with fail;refine(HM1.out _).mono ?_;rintro e w5 ⟨rfl,t1⟩;have H5:=zh (mv3 H4.out t1);clear t1 H4;go_wp2_with fail;refine(HM2.out _).mono ?_;rintro e w6 ⟨rfl,t1⟩;have H6:=zh (mv3 H5.out t1);clear t1 H5;go_wp2_with fail;refine(HM3.out _).mono ?_;rintro e w7 ⟨rfl,t1⟩;have H7:=zh (mv3 H6.out t1);clear t1 H6 HC1 HC2 HP1 HP2 HM1 HM2 HM3;obtain⟨c0,-,-,-,-,-⟩:=box3 H7.out.1;obtain⟨c1,-,-,-,-,-⟩:=box3 H7.out.2.1;obtain⟨s,hs⟩ : ∃s,(a == b)=s:=⟨_,rfl⟩;cases s with
 | true =>
  have hab:a=b:=by simpa using hs
  obtain⟨Z,z1,z2⟩:=HA.out.same hab;have Z1:=zh z1;have Z2:=zh z2;clear z1 z2 HA hab
  go_upto_region 9 with fail
  clear hs c0 c1;have HL0:=zh (And.intro (keepB ((zr w7).drew) H7.out.1) (And.intro (keepB ((zr w7).drew) H7.out.2.1) (And.intro (keepB ((zr w7).drew) H7.out.2.2.1) H7.out.2.2.2.drew)));have HK0:=zh (box3 HL0.out.1).1;clear H7
  go_region_held3 (fun V=>V.cell? ⟨X,0,none⟩=some (.bool a))
   (first | exact HK3.out | exact HK2.out | exact HK1.out | exact HK0.out | go_keep)
   (first
    | (have hq:=HK1;clear hq;go_at_call 80;refine(Z2.out w8).mono ?_;rintro e w9 ⟨rfl,t2⟩;have HL2:=zh (mv3 HL1.out t2);have HK2:=zh (box3 HL2.out.1).1;obtain⟨e0,e1,e2,g0,g1,g2⟩:=box3 HL2.out.2.2.1;have K3:=set3 HL2.out.2.2.1 (.bool c) (.string r1) (.string r2);have HS3:=zh K3;have HK3:=zh (cellT K3.2 (by have:=HX.out;have:=HY.out;omega) HK2.out);clear t2 K3)
    | (go_at_call 81;refine(Z1.out w7.drew).mono ?_;rintro e w8 ⟨rfl,t1⟩;have HL1:=zh (mv3 HL0.out t1);have HK1:=zh (box3 HL1.out.1).1;clear t1))
  go_wp2_with fail;refine bodyPost_ret (results_padd _ _ (B+1+1) _ _ _ rfl HS3.out.1) rfl ?_;exact⟨rfl,HL2.out.2.2.2.fresh HS3.out.2 fun g hg=>by have:=HB.out;omega⟩
 | false =>
  have hab:a≠b:=by simpa using hs
  have HCm:=zh HA.out.cmp;have HLe:=zh (HA.out.left hab);have HRi:=zh (HA.out.right hab);clear HA hab;obtain⟨z,hz⟩ : ∃z,cmpZ (natB L) (natB M)=z:=⟨_,rfl⟩;rw[hz] at HCm HLe HRi;clear hz
  go_upto_region 10 with fail
  clear hs c0 c1;go_wp2_with fail;refine(HCm.out _).mono ?_;rintro e w8 ⟨rfl,rfl⟩;by_cases hz:0<=z
  ·obtain⟨Z,z1,z2⟩:=HLe.out hz;have Z1:=zh z1;have Z2:=zh z2;have hz1:decide (0<=z)=true:=decide_eq_true hz;clear z1 z2 HLe HRi HCm hz
   go_upto_region 11 with fail
   clear hz1;have hfd:=fun w=>run_field_made (.string Z) (.int .i64 0) w
   have HL0:=zh (And.intro (keepB ((zr w8).drew) H7.out.1) (And.intro (keepB ((zr w8).drew) H7.out.2.1) (And.intro (keepB ((zr w8).drew) H7.out.2.2.1) H7.out.2.2.2.drew)));have HK0:=zh (box3 HL0.out.1).1;clear H7
   go_region_held3 (fun V=>V.cell? ⟨X,0,none⟩=some (.bool a))
    (first | exact HK3.out | exact HK2.out | exact HK1.out | exact HK0.out | go_keep)
    (first
     | (have hq:=HK1;clear hq;go_at_call 80;refine(Z2.out w9).mono ?_;rintro e w10 ⟨rfl,t2⟩;have HL2:=zh (mv3 HL1.out t2);have HK2:=zh (box3 HL2.out.1).1;obtain⟨e0,e1,e2,g0,g1,g2⟩:=box3 HL2.out.2.2.1;have K3:=set3 HL2.out.2.2.1 (.bool c) (.string r1) (.string r2);have HS3:=zh K3;have HK3:=zh (cellT K3.2 (by have:=HX.out;have:=HY.out;omega) HK2.out);clear t2 K3)
     | (go_at_call 83;refine(Z1.out w8.drew).mono ?_;rintro e w9 ⟨rfl,t1⟩;have HL1:=zh (mv3 HL0.out t1);have HK1:=zh (box3 HL1.out.1).1;clear t1))
   go_wp2_with fail;refine bodyPost_ret (results_padd _ _ (B+1+1) _ _ _ rfl HS3.out.1) rfl ?_;exact⟨rfl,HL2.out.2.2.2.fresh HS3.out.2 fun g hg=>by have:=HB.out;omega⟩
  ·obtain⟨Z,z1,z2⟩:=HRi.out (by omega)
   have Z1:=zh z1;have Z2:=zh z2;have hz1:decide (0<=z)=false:=decide_eq_false hz;clear z1 z2 HLe HRi HCm hz
   go_upto_region 12 with fail
   clear hz1;have hfd:=fun w=>run_field_made (.string Z) (.int .i64 0) w
   have HL0:=zh (And.intro (keepB ((zr w8).drew) H7.out.1) (And.intro (keepB ((zr w8).drew) H7.out.2.1) (And.intro (keepB ((zr w8).drew) H7.out.2.2.1) H7.out.2.2.2.drew)));have HK0:=zh (box3 HL0.out.2.1).1;clear H7
   go_region_held3 (fun V=>V.cell? ⟨Y,0,none⟩=some (.bool b))
    (first | exact HK3.out | exact HK2.out | exact HK1.out | exact HK0.out | go_keep)
    (first
     | (have hq:=HK1;clear hq;go_at_call 80;refine(Z2.out w9).mono ?_;rintro e w10 ⟨rfl,t2⟩;have HL2:=zh (mv3 HL1.out t2);have HK2:=zh (box3 HL2.out.2.1).1;obtain⟨e0,e1,e2,g0,g1,g2⟩:=box3 HL2.out.2.2.1;have K3:=set3 HL2.out.2.2.1 (.bool c) (.string r1) (.string r2);have HS3:=zh K3;have HK3:=zh (cellT K3.2 (by have:=HX.out;have:=HY.out;omega) HK2.out);clear t2 K3)
     | (go_at_call 83;refine(Z1.out w8.drew).mono ?_;rintro e w9 ⟨rfl,t1⟩;have HL1:=zh (mv3 HL0.out t1);have HK1:=zh (box3 HL1.out.2.1).1;clear t1))
   go_wp2_with fail;refine bodyPost_ret (results_padd _ _ (B+1+1) _ _ _ rfl HS3.out.1) rfl ?_;exact⟨rfl,HL2.out.2.2.2.fresh HS3.out.2 fun g hg=>by have:=HB.out;omega⟩
attribute [local go_sem ↓] run_eql_rat' run_neq_rat'
theorem results_pSub(tmps:Array Value) (w:World) (g:Nat) (a b c:Value) (hp:tmps.getD 4 undef=.pointer (some ⟨g,0,none⟩)) (hg:w.heap[g]? = some (.cells #[a,b,c] 68 (0,0))) :
  (results Tryz.f85 tmps).run Tryz.prog w=.ok (.agg #[a,b,c]) w :=
 results_cell_row (fn:=Tryz.f85) rfl tmps w g 68 #[a,b,c] (0,0) _ hp hg Tryz.underlying68 rfl (by kernel_rfl)
theorem pSub_any(u v:Rv) (k:Nat) (W:World) (hk:k<=40000000) (hu:SzR u k) (hv:SzR v k):Calls Tryz.prog 85 #[ratV u,ratV v] W fun e w'=>e=.returned (ratV (repR (qR u-qR v)))/\Turned (fun _=>False) W w':=by
 have hv1:SzR (repR (-qR v)) (k+1):=SzR.rep (qR_bytes hv.1 hv.2).neg;have HC:=zh (fun W=>pNeg_any v W (Nat.le_trans hv.1 (by omega)) (Nat.le_trans hv.2 (by omega)))
 have HD:=zh (fun W=>pAdd_any u (repR (-qR v)) (k+1) W (by omega) (hu.mono (by omega)) hv1)
 rw[qR_repR,<- Rat.sub_eq_add_neg] at HD;obtain⟨⟨fn,fx,fd⟩,hf⟩ : ∃s,repR (-qR v)=s:=⟨_,rfl⟩;obtain⟨⟨sn,sx,sy⟩,hs⟩ : ∃s,repR (qR u-qR v)=s:=⟨_,rfl⟩;rw[hs] at HD ⊢;rw[hf] at HC HD;obtain⟨un,ux,ud⟩:=u;obtain⟨vn,vx,vd⟩:=v;clear hu hv hv1 hs hf hk k;go_enter Tryz.func85,Tryz.ntmps85
 go_upto_region 1 with fail
 obtain⟨n0,n1,n2⟩:=new3 W (.cells #[.bool un,.string ux,.string ud] 68 (0,0)) (.cells #[.bool vn,.string vx,.string vd] 68 (0,0)) (.cells #[.bool false,.string ⟨#[]⟩,.string ⟨#[]⟩] 68 (0,0));have T0:=(((zr W).alloc (.cells #[.bool un,.string ux,.string ud] 68 (0,0))).alloc (.cells #[.bool vn,.string vx,.string vd] 68 (0,0))).alloc (.cells #[.bool false,.string ⟨#[]⟩,.string ⟨#[]⟩] 68 (0,0));obtain⟨w0,hw0⟩ : ∃w0,w0=(((W.alloc (.cells #[.bool un,.string ux,.string ud] 68 (0,0))).alloc (.cells #[.bool vn,.string vx,.string vd] 68 (0,0))).alloc (.cells #[.bool false,.string ⟨#[]⟩,.string ⟨#[]⟩] 68 (0,0))):=⟨_,rfl⟩;rw[<- hw0] at n0 n1 n2 T0 ⊢;have HL0:=zh (And.intro (keepB ((zr w0).drew) n0) (And.intro (keepB ((zr w0).drew) n1) (And.intro (keepB ((zr w0).drew) n2) T0.drew)));clear hw0 n0 n1 n2 T0;have HK0:=zh (s6 HL0.out)
 go_region_held3 (fun V=>V.cell? ⟨W.heap.size,0,none⟩=some (.bool un)/\V.cell? ⟨W.heap.size,1,none⟩=some (.string ux)/\V.cell? ⟨W.heap.size,2,none⟩=some (.string ud)/\V.cell? ⟨W.heap.size+1,0,none⟩=some (.bool vn)/\V.cell? ⟨W.heap.size+1,1,none⟩=some (.string vx)/\V.cell? ⟨W.heap.size+1,2,none⟩=some (.string vd))
  (first | exact HK3.out | exact HK2.out | exact HK1.out | exact HK0.out | go_keep)
  (first
   | (have hq:=HK1;clear hq;go_at_call 43;refine(HD.out w1).mono ?_;rintro e w2 ⟨rfl,t2⟩;have HL2:=zh (mv3 HL1.out t2);have HK2:=zh (s6 HL2.out);obtain⟨e0,e1,e2,g0,g1,g2⟩:=box3 HL2.out.2.2.1;have K3:=set3 HL2.out.2.2.1 (.bool sn) (.string sx) (.string sy);have HS3:=zh K3;have HK3:=zh (s6' HL2.out K3.2 (by omega) (by omega));clear t2 K3)
   | (go_at_call 116;refine(HC.out w0.drew).mono ?_;rintro e w1 ⟨rfl,t1⟩;have HL1:=zh (mv3 HL0.out t1);have HK1:=zh (s6 HL1.out);clear t1))
 go_wp2_with fail;refine bodyPost_ret (results_pSub _ _ (W.heap.size+1+1) _ _ _ rfl HS3.out.1) rfl ?_;exact⟨rfl,HL2.out.2.2.2.fresh HS3.out.2 fun g hg=>by omega⟩
attribute [local go_sem ↓] run_eql_rat' run_neq_rat'
theorem mul_low(p q:Rat) (k:Nat) (hk:k<=50000000) (p1:(encB p.num.natAbs).size<=k+1) (p2:(encB p.den).size<=k+1) (q1:(encB q.num.natAbs).size<=k+1) (q2:(encB q.den).size<=k+1) (W:World) :
  Calls Tryz.prog 80 #[.bool ((repR p).neg != (repR q).neg),.string (encB (p.num.natAbs*q.num.natAbs)),.string (encB (p.den*q.den))] W fun e w'=>e=.returned (ratV (repR (p*q)))/\Turned (fun _=>False) W w':=by
 have hd0:p.den*q.den≠0:=Nat.mul_ne_zero p.den_nz q.den_nz;have hE:=low_qF (decide (p.num < 0) != decide (q.num < 0),p.num.natAbs*q.num.natAbs,p.den*q.den) hd0;rw[show qF (decide (p.num < 0) != decide (q.num < 0),p.num.natAbs*q.num.natAbs,p.den*q.den)=p*q from(qF_times (decide (p.num < 0),p.num.natAbs,p.den) (decide (q.num < 0),q.num.natAbs,q.den)).trans (by rw[qF_of,qF_of])] at hE
 have sL:=mul_size p1 q1;have sD:=mul_size p2 q2;have:=pLowest_any ((repR p).neg != (repR q).neg) (encB (p.num.natAbs*q.num.natAbs)) (encB (p.den*q.den)) W (by omega) (by omega) (by rw[natB_encB];exact hd0)
 rw[natB_encB,natB_encB,repR_sign,repR_sign,hE] at this;rw[repR_sign,repR_sign];exact this
theorem results_pMul(tmps:Array Value) (w:World) (g:Nat) (a b c:Value) (hp:tmps.getD 4 undef=.pointer (some ⟨g,0,none⟩)) (hg:w.heap[g]? = some (.cells #[a,b,c] 68 (0,0))) :
  (results Tryz.f138 tmps).run Tryz.prog w=.ok (.agg #[a,b,c]) w :=
 results_cell_row (fn:=Tryz.f138) rfl tmps w g 68 #[a,b,c] (0,0) _ hp hg Tryz.underlying68 rfl (by kernel_rfl)
theorem pMul_any(u v:Rv) (k:Nat) (W:World) (hk:k<=50000000) (hu:SzR u k) (hv:SzR v k):Calls Tryz.prog 138 #[ratV u,ratV v] W fun e w'=>e=.returned (ratV (repR (qR u*qR v)))/\Turned (fun _=>False) W w':=by
 have HC1:=zh (fun W=>pClean_any u W (Nat.le_trans hu.1 (by omega)) (Nat.le_trans hu.2 (by omega)))
 have HC2:=zh (fun W=>pClean_any v W (Nat.le_trans hv.1 (by omega)) (Nat.le_trans hv.2 (by omega)))
 have HP1:=zh (fun W=>pParts_any (qR u) W)
 have HP2:=zh (fun W=>pParts_any (qR v) W)
 obtain⟨p1,p2⟩:=parts_size hu;obtain⟨q1,q2⟩:=parts_size hv;obtain⟨p,hp⟩ : ∃p,qR u=p:=⟨_,rfl⟩;obtain⟨q,hq⟩ : ∃p,qR v=p:=⟨_,rfl⟩;rw[hp] at HC1 HP1 p1 p2 ⊢;rw[hq] at HC2 HP2 q1 q2 ⊢;have HM1:=zh (fun W=>mMul_any (encB p.num.natAbs) (encB q.num.natAbs) W (by omega) (by omega))
 have HM2:=zh (fun W=>mMul_any (encB p.den) (encB q.den) W (by omega) (by omega))
 rw[natB_encB,natB_encB] at HM1 HM2;have HLo:=zh (mul_low p q k hk p1 p2 q1 q2);obtain⟨⟨a,x1,x2⟩,hx⟩ : ∃r,repR p=r:=⟨_,rfl⟩;obtain⟨⟨b,y1,y2⟩,hy⟩ : ∃r,repR q=r:=⟨_,rfl⟩;obtain⟨⟨c,r1,r2⟩,hr⟩ : ∃r,repR (p*q)=r:=⟨_,rfl⟩;rw[hx] at HC1 HP1;rw[hy] at HC2 HP2;rw[hx,hy,hr] at HLo;rw[hr];obtain⟨P,hP⟩ : ∃r,encB p.num.natAbs=r:=⟨_,rfl⟩;obtain⟨Q,hQ⟩ : ∃r,encB p.den=r:=⟨_,rfl⟩;obtain⟨R,hR⟩ : ∃r,encB q.num.natAbs=r:=⟨_,rfl⟩;obtain⟨S,hS⟩ : ∃r,encB q.den=r:=⟨_,rfl⟩;rw[hP,hQ] at HP1;rw[hR,hS] at HP2;rw[hP,hR] at HM1;rw[hQ,hS] at HM2;obtain⟨L,hL⟩ : ∃r,encB (p.num.natAbs*q.num.natAbs)=r:=⟨_,rfl⟩;obtain⟨D,hD⟩ : ∃r,encB (p.den*q.den)=r:=⟨_,rfl⟩;rw[hL] at HM1 HLo;rw[hD] at HM2 HLo;clear p1 p2 q1 q2 hu hv hp hq hx hy hr hP hQ hR hS hL hD p q hk k;obtain⟨un,ux,ud⟩:=u;obtain⟨vn,vx,vd⟩:=v;obtain⟨n0,n1,n2⟩:=new3 W (.cells #[.bool un,.string ux,.string ud] 68 (0,0)) (.cells #[.bool vn,.string vx,.string vd] 68 (0,0)) (.cells #[.bool false,.string ⟨#[]⟩,.string ⟨#[]⟩] 68 (0,0));have T0:=(((zr W).alloc (.cells #[.bool un,.string ux,.string ud] 68 (0,0))).alloc (.cells #[.bool vn,.string vx,.string vd] 68 (0,0))).alloc (.cells #[.bool false,.string ⟨#[]⟩,.string ⟨#[]⟩] 68 (0,0));have z0:(((W.alloc (.cells #[.bool un,.string ux,.string ud] 68 (0,0))).alloc (.cells #[.bool vn,.string vx,.string vd] 68 (0,0))).alloc (.cells #[.bool false,.string ⟨#[]⟩,.string ⟨#[]⟩] 68 (0,0))).heap.size=W.heap.size+3:=by simp
 go_enter Tryz.func138,Tryz.ntmps138
 go_upto_region 1 with fail
 obtain⟨w0,hw0⟩ : ∃w0,w0=(((W.alloc (.cells #[.bool un,.string ux,.string ud] 68 (0,0))).alloc (.cells #[.bool vn,.string vx,.string vd] 68 (0,0))).alloc (.cells #[.bool false,.string ⟨#[]⟩,.string ⟨#[]⟩] 68 (0,0))):=⟨_,rfl⟩;rw[<- hw0] at n0 n1 n2 T0 z0 ⊢;obtain⟨B,hB⟩ : ∃o,W.heap.size=o:=⟨_,rfl⟩;rw[hB] at n0 n1 n2 z0 ⊢;have H0:=zh (And.intro T0 (And.intro n1 (And.intro n2 (And.intro hB z0))));obtain⟨c0,c1,c2,-,-,-⟩:=box3 n0;clear hw0 n0 n1 n2 T0 z0 hB;go_wp2_with fail;refine(HC1.out _).mono ?_;rintro e w1 ⟨rfl,t1⟩;clear c0 c1 c2;have tx:=t1.alloc (.cells #[.bool a,.string x1,.string x2] 68);have nx:=World.alloc_heap_new w1 (.cells #[.bool a,.string x1,.string x2] 68);have hX:=t1.size;rw[H0.out.2.2.2.2] at hX;obtain⟨X,hXX⟩ : ∃o,w1.heap.size=o:=⟨_,rfl⟩;rw[hXX] at nx hX
 go_upto_region 2 with fail
 obtain⟨V1,hV1⟩ : ∃V,w1.alloc (.cells #[.bool a,.string x1,.string x2] 68)=V:=⟨_,rfl⟩;rw[hV1] at nx tx ⊢;have zX:V1.heap.size=X+1:=by rw[<- hV1,<- hXX];simp
 obtain⟨c0,c1,c2,-,-,-⟩:=box3 (keepB tx H0.out.2.1);have H1:=zh (And.intro (H0.out.1.trans tx) (And.intro nx (And.intro (keepB tx H0.out.2.2.1) (And.intro hX zX))));have HB:=zh H0.out.2.2.2.1;clear hV1 hXX t1 tx nx hX zX H0;go_wp2_with fail;refine(HC2.out _).mono ?_;rintro e w2 ⟨rfl,t1⟩;clear c0 c1 c2;have tx:=t1.alloc (.cells #[.bool b,.string y1,.string y2] 68);have ny:=World.alloc_heap_new w2 (.cells #[.bool b,.string y1,.string y2] 68);have hY:=t1.size;rw[H1.out.2.2.2.2] at hY;obtain⟨Y,hYY⟩ : ∃o,w2.heap.size=o:=⟨_,rfl⟩;rw[hYY] at ny hY
 go_upto_region 3 with fail
 obtain⟨V2,hV2⟩ : ∃V,w2.alloc (.cells #[.bool b,.string y1,.string y2] 68)=V:=⟨_,rfl⟩;rw[hV2] at ny tx ⊢;have nx:=keepB tx H1.out.2.1;have H2:=zh (And.intro nx (And.intro ny (And.intro (keepB tx H1.out.2.2.1) (H1.out.1.trans tx))));have HX:=zh H1.out.2.2.2.1;obtain⟨c0,c1,c2,-,-,-⟩:=box3 nx;clear hV2 hYY t1 tx ny nx H1;have HY:=zh hY;clear hY;go_wp2_with fail;refine(HP1.out _).mono ?_;rintro e w3 ⟨rfl,t1⟩;have H3:=zh (mv3 H2.out t1);clear t1 H2 c0 c1 c2;obtain⟨c0,c1,c2,-,-,-⟩:=box3 H3.out.2.1;go_wp2_with fail;refine(HP2.out _).mono ?_;rintro e w4 ⟨rfl,t1⟩;have H4:=zh (mv3 H3.out t1);clear t1 H3 c0 c1 c2
 go_upto_region 5 with fail
 clear HC1 HC2 HP1 HP2;have HL0:=zh (And.intro (keepB ((zr w4).drew) H4.out.1) (And.intro (keepB ((zr w4).drew) H4.out.2.1) (And.intro (keepB ((zr w4).drew) H4.out.2.2.1) H4.out.2.2.2.drew)));have HK0:=zh (And.intro (box3 HL0.out.1).1 (box3 HL0.out.2.1).1);clear H4
 go_region_held3 (fun V=>V.cell? ⟨X,0,none⟩=some (.bool a)/\V.cell? ⟨Y,0,none⟩=some (.bool b))
  (first | exact HK4.out | exact HK3.out | exact HK2.out | exact HK1.out | exact HK0.out | go_keep)
  (first
   | (have hq:=HK2;clear hq;go_at_call 80;refine(HLo.out w6).mono ?_;rintro e w7 ⟨rfl,t2⟩;have HL3:=zh (mv3 HL2.out t2);have HK3:=zh (And.intro (box3 HL3.out.1).1 (box3 HL3.out.2.1).1);obtain⟨e0,e1,e2,g0,g1,g2⟩:=box3 HL3.out.2.2.1;have K3:=set3 HL3.out.2.2.1 (.bool c) (.string r1) (.string r2);have HS3:=zh K3;have HK4:=zh (And.intro (cellT K3.2 (by have:=HX.out;have:=HY.out;omega) HK3.out.1) (cellT K3.2 (by have:=HX.out;have:=HY.out;omega) HK3.out.2));clear t2 K3)
   | (have hq:=HK1;clear hq;go_at_call 79;refine(HM2.out w5).mono ?_;rintro e w6 ⟨rfl,t1⟩;have HL2:=zh (mv3 HL1.out t1);have HK2:=zh (And.intro (box3 HL2.out.1).1 (box3 HL2.out.2.1).1);clear t1)
   | (go_at_call 79;refine(HM1.out w4.drew).mono ?_;rintro e w5 ⟨rfl,t1⟩;have HL1:=zh (mv3 HL0.out t1);have HK1:=zh (And.intro (box3 HL1.out.1).1 (box3 HL1.out.2.1).1);clear t1))
 go_wp2_with fail;refine bodyPost_ret (results_pMul _ _ (B+1+1) _ _ _ rfl HS3.out.1) rfl ?_;exact⟨rfl,HL3.out.2.2.2.fresh HS3.out.2 fun g hg=>by have:=HB.out;omega⟩
attribute [local go_sem ↓] run_eql_rat' run_neq_rat'
theorem repR_num(q:Rat):(repR q).num=encB q.num.natAbs:=by
 rcases repR_parts q with⟨rfl,h2⟩ | ⟨h1,h2,h3⟩
 ·rw[h2,show(0:Rat).num.natAbs=0 from rfl,encB_zero];rfl
 ·rw[h2]
theorem cmpQ_rep(p q:Rat):cmpQ p q=if(repR (p-q)).num=⟨#[]⟩ then 0 else if(repR (p-q)).neg=true then -1 else 1:=by
 rw[cmpQ_of (f:=(decide ((p-q).num < 0),(p-q).num.natAbs,(p-q).den)) (p-q).den_nz (qF_of _),repR_num,repR_sign];simp only[encB_nil]
theorem pCmp_any(u v:Rv) (k:Nat) (W:World) (hk:k<=40000000) (hu:SzR u k) (hv:SzR v k):Calls Tryz.prog 45 #[ratV u,ratV v] W fun e w'=>e=.returned (.int .i64 (cmpQ (qR u) (qR v)))/\Turned (fun _=>False) W w':=by
 have HC:=zh (fun W=>pSub_any u v k W hk hu hv)
 have HE:=zh (cmpQ_rep (qR u) (qR v));obtain⟨z,hz⟩ : ∃z,cmpQ (qR u) (qR v)=z:=⟨_,rfl⟩;rw[hz] at HE ⊢;obtain⟨⟨a,x,y⟩,hr⟩ : ∃r,repR (qR u-qR v)=r:=⟨_,rfl⟩;rw[hr] at HC HE;obtain⟨un,ux,ud⟩:=u;obtain⟨vn,vx,vd⟩:=v;clear hu hv hk k hz hr;have T0:=((zr W).alloc (.cells #[.bool un,.string ux,.string ud] 68)).alloc (.cells #[.bool vn,.string vx,.string vd] 68);have n0:=new_first W (.cells #[.bool un,.string ux,.string ud] 68) (.cells #[.bool vn,.string vx,.string vd] 68);have n1:=new_second W (.cells #[.bool un,.string ux,.string ud] 68) (.cells #[.bool vn,.string vx,.string vd] 68);go_enter Tryz.func45,Tryz.ntmps45
 go_upto_region 1 with fail
 obtain⟨w0,hw0⟩ : ∃w,w=(W.alloc (.cells #[.bool un,.string ux,.string ud] 68)).alloc (.cells #[.bool vn,.string vx,.string vd] 68):=⟨_,rfl⟩;rw[<- hw0] at T0 n0 n1 ⊢;obtain⟨c0,c1,c2,-,-,-⟩:=box3 n0;obtain⟨c3,c4,c5,-,-,-⟩:=box3 n1;have HT:=zh T0;clear hw0 T0 n0 n1;go_wp2_with fail;refine(HC.out _).mono ?_;rintro e w1 ⟨rfl,t1⟩;have H1:=zh (HT.out.trans (t1.alloc (.cells #[.bool a,.string x,.string y] 68)));have nx:=World.alloc_heap_new w1 (.cells #[.bool a,.string x,.string y] 68);obtain⟨X,hX⟩ : ∃o,w1.heap.size=o:=⟨_,rfl⟩;rw[hX] at nx;clear c0 c1 c2 c3 c4 c5 t1 HT HC;obtain⟨d0,d1,d2,-,-,-⟩:=box3 nx
 go_upto_region 2 with fail
 obtain⟨V,hV⟩ : ∃V,w1.alloc (.cells #[.bool a,.string x,.string y] 68)=V:=⟨_,rfl⟩;rw[hV] at H1 d0 d1 d2 ⊢;clear hV hX nx;by_cases h1:x=⟨#[]⟩
 ·subst h1;have HZ:=zh (HE.out.trans (if_pos rfl));clear HE;go_wp2_with fail;go_ret;exact⟨by rw[HZ.out];rfl,H1.out⟩
 ·have HZ:=zh (HE.out.trans (if_neg h1));obtain⟨l1,l2⟩:=bytes_ne h1;clear HE h1;cases a with
  | true =>
   go_wp2_with fail;go_ret;exact⟨by rw[HZ.out];rfl,H1.out⟩
  | false =>
   go_wp2_with fail;go_ret;exact⟨by rw[HZ.out];rfl,H1.out⟩
theorem results_pMin(tmps:Array Value) (w:World) (g:Nat) (a b c:Value) (hp:tmps.getD 4 undef=.pointer (some ⟨g,0,none⟩)) (hg:w.heap[g]? = some (.cells #[a,b,c] 68 (0,0))) :
  (results Tryz.f137 tmps).run Tryz.prog w=.ok (.agg #[a,b,c]) w :=
 results_cell_row (fn:=Tryz.f137) rfl tmps w g 68 #[a,b,c] (0,0) _ hp hg Tryz.underlying68 rfl (by kernel_rfl)
theorem pMin_any(u v:Rv) (k:Nat) (W:World) (hk:k<=40000000) (hu:SzR u k) (hv:SzR v k):Calls Tryz.prog 137 #[ratV u,ratV v] W fun e w'=>e=.returned (ratV (repR (minR (qR u) (qR v))))/\Turned (fun _=>False) W w':=by
 have HC:=zh (fun W=>pCmp_any u v k W hk hu hv)
 have HU:=zh (fun W=>pClean_any u W (Nat.le_trans hu.1 (by omega)) (Nat.le_trans hu.2 (by omega)))
 have HV:=zh (fun W=>pClean_any v W (Nat.le_trans hv.1 (by omega)) (Nat.le_trans hv.2 (by omega)))
 have hm:minR (qR u) (qR v)=if cmpQ (qR u) (qR v)<=0 then qR u else qR v:=by unfold minR;simp only[cmpQ_le]
 obtain⟨z,hz⟩ : ∃z,cmpQ (qR u) (qR v)=z:=⟨_,rfl⟩;rw[hz] at HC hm;rw[hm];obtain⟨⟨a,x,y⟩,hr⟩ : ∃r,repR (qR u)=r:=⟨_,rfl⟩;obtain⟨⟨b,s,t⟩,hq⟩ : ∃r,repR (qR v)=r:=⟨_,rfl⟩;rw[hr] at HU;rw[hq] at HV;obtain⟨un,ux,ud⟩:=u;obtain⟨vn,vx,vd⟩:=v;have hE1:z<=0->repR (if z<=0 then qR ⟨un,ux,ud⟩ else qR ⟨vn,vx,vd⟩)=⟨a,x,y⟩:=fun h=>by rw[if_pos h,hr]
 have hE2:¬z<=0->repR (if z<=0 then qR ⟨un,ux,ud⟩ else qR ⟨vn,vx,vd⟩)=⟨b,s,t⟩:=fun h=>by rw[if_neg h,hq]
 obtain⟨r,hR⟩ : ∃r,repR (if z<=0 then qR ⟨un,ux,ud⟩ else qR ⟨vn,vx,vd⟩)=r:=⟨_,rfl⟩
 rw[hR] at hE1 hE2 ⊢;have HE1:=zh hE1;have HE2:=zh hE2;clear hu hv hk k hz hr hq hm hR hE1 hE2;obtain⟨n0,n1,n2⟩:=new3 W (.cells #[.bool un,.string ux,.string ud] 68 (0,0)) (.cells #[.bool vn,.string vx,.string vd] 68 (0,0)) (.cells #[.bool false,.string ⟨#[]⟩,.string ⟨#[]⟩] 68 (0,0));have T0:=(((zr W).alloc (.cells #[.bool un,.string ux,.string ud] 68 (0,0))).alloc (.cells #[.bool vn,.string vx,.string vd] 68 (0,0))).alloc (.cells #[.bool false,.string ⟨#[]⟩,.string ⟨#[]⟩] 68 (0,0));go_enter Tryz.func137,Tryz.ntmps137
 go_upto_region 1 with fail
 obtain⟨w0,hw0⟩ : ∃w0,w0=(((W.alloc (.cells #[.bool un,.string ux,.string ud] 68 (0,0))).alloc (.cells #[.bool vn,.string vx,.string vd] 68 (0,0))).alloc (.cells #[.bool false,.string ⟨#[]⟩,.string ⟨#[]⟩] 68 (0,0))):=⟨_,rfl⟩;rw[<- hw0] at n0 n1 n2 T0 ⊢;have H0:=zh (And.intro n0 (And.intro n1 (And.intro n2 T0)));clear hw0 T0 n0 n1 n2;obtain⟨c0,c1,c2,c3,c4,c5⟩:=s6 H0.out;go_wp2_with fail;refine(HC.out _).mono ?_;rintro e w1 ⟨rfl,t1⟩;have H1:=zh (mv3 H0.out t1);clear c0 c1 c2 c3 c4 c5 t1 H0 HC;obtain⟨c0,c1,c2,c3,c4,c5⟩:=s6 H1.out;by_cases hz:z<=0
 ·have hz1:decide (z<=0)=true:=decide_eq_true hz;have HR:=zh (HE1.out hz);clear hz HE1 HE2 HV
  go_upto_region 2 with fail
  clear hz1;go_wp2_with fail;refine(HU.out _).mono ?_;rintro e w2 ⟨rfl,t1⟩;have H2:=zh (mv3 H1.out t1);clear c0 c1 c2 c3 c4 c5 t1 H1 HU;obtain⟨k0,k1,k2,k3,k4,k5⟩:=box3 H2.out.2.2.1;have HZ:=zh (set3 H2.out.2.2.1 (.bool a) (.string x) (.string y));go_wp2_with fail;refine bodyPost_ret (results_pMin _ _ (W.heap.size+1+1) _ _ _ rfl HZ.out.1) rfl ?_;exact⟨by rw[HR.out],H2.out.2.2.2.fresh HZ.out.2 fun g hg=>by omega⟩
 ·have hz1:decide (z<=0)=false:=decide_eq_false hz;have HR:=zh (HE2.out (by omega))
  clear hz HE1 HE2 HU
  go_upto_region 3 with fail
  clear hz1;go_wp2_with fail;refine(HV.out _).mono ?_;rintro e w2 ⟨rfl,t1⟩;have H2:=zh (mv3 H1.out t1);clear c0 c1 c2 c3 c4 c5 t1 H1 HV;obtain⟨k0,k1,k2,k3,k4,k5⟩:=box3 H2.out.2.2.1;have HZ:=zh (set3 H2.out.2.2.1 (.bool b) (.string s) (.string t));go_wp2_with fail;refine bodyPost_ret (results_pMin _ _ (W.heap.size+1+1) _ _ _ rfl HZ.out.1) rfl ?_;exact⟨by rw[HR.out],H2.out.2.2.2.fresh HZ.out.2 fun g hg=>by omega⟩
attribute [local go_sem ↓] run_eql_rat' run_neq_rat'
theorem qR_swap{q:Rat} (h:q≠0):qR ⟨(repR q).neg,(repR q).den,(repR q).num⟩=q⁻¹:=by
 obtain⟨hg,hf⟩:=repR_good h;have hn:q.num.natAbs≠0:=fun e=>h (Rat.num_eq_zero.1 (Int.natAbs_eq_zero.1 e))
 have hg2:goodR ⟨(repR q).neg,(repR q).den,(repR q).num⟩:=⟨hg.2.1,hg.1,hg.2.2.2.1,hg.2.2.1,by rw[Nat.gcd_comm];exact hg.2.2.2.2⟩
 have hf0:fracR (repR q)=((repR q).neg,natB (repR q).num,natB (repR q).den):=by unfold fracR;rw[if_pos hg]
 have hf2:fracR ⟨(repR q).neg,(repR q).den,(repR q).num⟩=((repR q).neg,natB (repR q).den,natB (repR q).num):=by unfold fracR;rw[if_pos hg2]
 rw[hf] at hf0;obtain⟨e1,e2,e3⟩ : decide (q.num < 0)=(repR q).neg/\q.num.natAbs=natB (repR q).num/\q.den=natB (repR q).den:=by
  simpa [Prod.ext_iff] using hf0
 rw[qR_qF,hf2,<- e1,<- e2,<- e3,qF_inv (decide (q.num < 0),q.num.natAbs,q.den) hn q.den_nz,qF_of]
theorem run_field_made5(a b c d:Value) (w:World):(Instr.field 136 (.agg #[a,b,c,d]) 0).run Tryz.prog w=.ok (.agg #[a,b,c]) w:=by kernel_rfl
def madeV (r:Rv):Value:=.agg #[.bool r.neg,.string r.num,.string r.den,.int .i64 0]
theorem box4{w:World} {b t:Nat} {x y z u:Value} (h:w.heap[b]? = some (.cells #[x,y,z,u] t (0,0))):w.cell? ⟨b,0,none⟩=some x/\w.cell? ⟨b,1,none⟩=some y/\w.cell? ⟨b,2,none⟩=some z/\w.cell? ⟨b,3,none⟩=some u/\w.frozen? ⟨b,0,none⟩=false/\w.frozen? ⟨b,1,none⟩=false/\w.frozen? ⟨b,2,none⟩=false/\w.frozen? ⟨b,3,none⟩=false:=by
 simp[World.cell?,World.frozen?,h]
theorem set4{w:World} {b t:Nat} {x y z q:Value} (h:w.heap[b]? = some (.cells #[x,y,z,q] t (0,0))) (u v r s:Value):((((w.setCell ⟨b,0,none⟩ u).setCell ⟨b,1,none⟩ v).setCell ⟨b,2,none⟩ r).setCell ⟨b,3,none⟩ s).heap[b]? = some (.cells #[u,v,r,s] t (0,0))/\Turned (fun k=>k=b) w ((((w.setCell ⟨b,0,none⟩ u).setCell ⟨b,1,none⟩ v).setCell ⟨b,2,none⟩ r).setCell ⟨b,3,none⟩ s):=by
 refine⟨?_,(((((Turned.refl (fun k=>k=b) w).setCell (p:=⟨b,0,none⟩) rfl u).setCell (p:=⟨b,1,none⟩) rfl v).setCell (p:=⟨b,2,none⟩) rfl r).setCell (p:=⟨b,3,none⟩) rfl s)⟩
 rw[set_block (set_block (set_block (set_block h 0 u) 1 v) 2 r) 3 s];simp
theorem pDiv_any(u v:Rv) (k:Nat) (W:World) (hk:k<=40000000) (hu:SzR u k) (hv:SzR v k) (h0:qR v≠0):Calls Tryz.prog 135 #[ratV u,ratV v] W fun e w'=>e=.returned (madeV (repR (qR u / qR v)))/\Turned (fun _=>False) W w':=by
 have HC:=zh (fun W=>pClean_any v W (Nat.le_trans hv.1 (by omega)) (Nat.le_trans hv.2 (by omega)))
 have hv1:SzR (repR (qR v)) (k+1):=SzR.rep (qR_bytes hv.1 hv.2);have HM:=zh (fun W=>pMul_any u ⟨(repR (qR v)).neg,(repR (qR v)).den,(repR (qR v)).num⟩ (k+1) W (by omega) (hu.mono (by omega)) ⟨hv1.2,hv1.1⟩)
 rw[qR_swap h0,<- Rat.div_def] at HM;have hne:(repR (qR v)).num≠⟨#[]⟩:=(repR_good h0).1.1;obtain⟨⟨b,y1,y2⟩,hq⟩ : ∃r,repR (qR v)=r:=⟨_,rfl⟩;obtain⟨⟨c,r1,r2⟩,hr⟩ : ∃r,repR (qR u / qR v)=r:=⟨_,rfl⟩;rw[hq] at HC HM hne;rw[hr] at HM ⊢;obtain⟨l1,l2⟩:=bytes_ne hne;dsimp only at l1 l2;obtain⟨un,ux,ud⟩:=u;obtain⟨vn,vx,vd⟩:=v;clear hu hv hk hv1 h0 hne hq hr k;obtain⟨n0,n1,n2⟩:=new3 W (.cells #[.bool un,.string ux,.string ud] 68 (0,0)) (.cells #[.bool vn,.string vx,.string vd] 68 (0,0)) (.cells #[.bool false,.string ⟨#[]⟩,.string ⟨#[]⟩,.int .i64 0] 136 (0,0));have T0:=(((zr W).alloc (.cells #[.bool un,.string ux,.string ud] 68 (0,0))).alloc (.cells #[.bool vn,.string vx,.string vd] 68 (0,0))).alloc (.cells #[.bool false,.string ⟨#[]⟩,.string ⟨#[]⟩,.int .i64 0] 136 (0,0));go_enter Tryz.func135,Tryz.ntmps135
 go_upto_region 1 with fail
 obtain⟨w0,hw0⟩ : ∃w0,w0=(((W.alloc (.cells #[.bool un,.string ux,.string ud] 68 (0,0))).alloc (.cells #[.bool vn,.string vx,.string vd] 68 (0,0))).alloc (.cells #[.bool false,.string ⟨#[]⟩,.string ⟨#[]⟩,.int .i64 0] 136 (0,0))):=⟨_,rfl⟩;rw[<- hw0] at n0 n1 n2 T0 ⊢;obtain⟨B,hB⟩ : ∃o,W.heap.size=o:=⟨_,rfl⟩;rw[hB] at n0 n1 n2 ⊢;have H0:=zh (And.intro n0 (And.intro n1 (And.intro n2 T0)));have HB:=zh hB;have z0:B+3=w0.heap.size:=by rw[hw0,<- hB];simp
 clear hw0 hB n0 n2 T0;obtain⟨c0,c1,c2,-,-,-⟩:=box3 n1;have HZ0:=zh z0;clear n1 z0;go_wp2_with fail;refine(HC.out _).mono ?_;rintro e w1 ⟨rfl,t1⟩;have H1:=zh (mv3 H0.out (t1.alloc (.cells #[.bool b,.string y1,.string y2] 68)));have nx:=World.alloc_heap_new w1 (.cells #[.bool b,.string y1,.string y2] 68);obtain⟨X,hX⟩ : ∃o,w1.heap.size=o:=⟨_,rfl⟩;rw[hX] at nx;clear c0 c1 c2 t1 H0 HC;obtain⟨d0,d1,d2,-,-,-⟩:=box3 nx
 go_upto_region 2 with fail
 obtain⟨V,hV⟩ : ∃V,w1.alloc (.cells #[.bool b,.string y1,.string y2] 68)=V:=⟨_,rfl⟩;rw[hV] at H1 d0 d1 d2 ⊢;clear hV hX nx;obtain⟨c0,c1,c2,-,-,-⟩:=box3 H1.out.1
 go_upto_region 4 with fail
 clear l1 l2;go_wp2_with fail;refine(HM.out _).mono ?_;rintro e w2 ⟨rfl,t1⟩;have H2:=zh (mv3 H1.out t1);clear c0 c1 c2 t1 H1 HM d0 d1 d2;obtain⟨k0,k1,k2,k3,k4,k5,k6,k7⟩:=box4 H2.out.2.2.1;have HZ:=zh (set4 H2.out.2.2.1 (.bool c) (.string r1) (.string r2) (.int .i64 0));go_wp2_with fail;refine bodyPost_ret (results_cell_row (fn:=Tryz.f135) rfl _ _ (B+1+1) 136 #[.bool c,.string r1,.string r2,.int .i64 0] (0,0) _ rfl HZ.out.1 Tryz.underlying136 rfl (by kernel_rfl)) rfl ?_
 exact⟨rfl,H2.out.2.2.2.fresh HZ.out.2 fun g hg=>by have:=HB.out;omega⟩
attribute [local go_sem ↓] run_eql_rat' run_neq_rat'
theorem pInside_any(n:Nat) (W:World) (hn:n<=999999999999999):Calls Tryz.prog 114 #[.int .i64 n] W fun e w'=>e=.returned (.bool true)/\w'=W:=by
 have e1:decide ((-999999999999999:Int)<=(n:Int))=true:=decide_eq_true (by omega)
 have e2:decide ((n:Int)<=999999999999999)=true:=decide_eq_true (by omega)
 have h1:(-999999999999999:Int)<=(n:Int):=by omega
 have h2:(n:Int)<=999999999999999:=by omega
 go_enter Tryz.func114,Tryz.ntmps114;go_wp2_with fail;go_ret;exact⟨rfl,rfl⟩
theorem run_field_made4(a b:Value) (w:World):(Instr.field 133 (.agg #[a,b]) 0).run Tryz.prog w=.ok a w:=by kernel_rfl
theorem pNatural_any(n:Nat) (W:World) (hn:n<=999999999999999):Calls Tryz.prog 115 #[.int .i64 n] W fun e w'=>e=.returned (.string (encB n))/\Turned (fun _=>False) W w':=by
 have HC:=zh (fun W=>mInt_any n W hn)
 have e1:decide ((n:Int) < 0)=false:=decide_eq_false (by omega)
 have hfd:=fun w=>run_field_made4 (.string (encB n)) (.int .i64 0) w
 obtain⟨s,hs⟩ : ∃s,encB n=s:=⟨_,rfl⟩;rw[hs] at HC hfd ⊢;clear hs hn;go_enter Tryz.func115,Tryz.ntmps115
 go_upto_region 3 with fail
 clear e1;go_wp2_with fail;refine(HC.out _).mono ?_;rintro e w1 ⟨rfl,t1⟩;have HT:=zh t1;clear t1 HC;go_wp2_with fail;go_ret;exact⟨rfl,HT.out⟩
theorem pMake_any(n d:Nat) (W:World) (hn:n<=999999999999999) (hd:d<=999999999999999) (h0:d≠0):Calls Tryz.prog 84 #[.int .i64 n,.int .i64 d] W fun e w'=>e=.returned (madeV (repR ((n:Rat) / (d:Rat))))/\Turned (fun _=>False) W w':=by
 have HI1:=zh (fun W=>pInside_any n W hn)
 have HI2:=zh (fun W=>pInside_any d W hd)
 have HN1:=zh (fun W=>pNatural_any n W hn)
 have HN2:=zh (fun W=>pNatural_any d W hd)
 have HL:=zh (fun W=>pLowest_any false (encB n) (encB d) W (Nat.le_trans (encB_int hn) (by decide)) (Nat.le_trans (encB_int hd) (by decide)) (by rw[natB_encB];exact h0))
 have hl:lowR false n d=repR ((n:Rat) / (d:Rat)):=by have:=low_make n d h0;rw[Nat.mul_one,Nat.one_mul] at this;exact this
 rw[natB_encB,natB_encB,hl] at HL;obtain⟨⟨c,r1,r2⟩,hr⟩ : ∃r,repR ((n:Rat) / (d:Rat))=r:=⟨_,rfl⟩;rw[hr] at HL ⊢;obtain⟨N,hN⟩ : ∃s,encB n=s:=⟨_,rfl⟩;obtain⟨D,hD⟩ : ∃s,encB d=s:=⟨_,rfl⟩;rw[hN] at HN1 HL;rw[hD] at HN2 HL;have e1:decide ((n:Int) < 0)=false:=decide_eq_false (by omega)
 have e2:decide ((d:Int) < 0)=false:=decide_eq_false (by omega)
 have e3:((d:Int) == 0)=false:=by simp;omega
 have e4:¬((d:Int)=0):=by omega
 have e5:¬d=0:=by omega
 clear hN hD hr hl hn hd h0;have T0:=(zr W).alloc (.cells #[.bool false,.string ⟨#[]⟩,.string ⟨#[]⟩,.int .i64 0] 136);have n0:=World.alloc_heap_new W (.cells #[.bool false,.string ⟨#[]⟩,.string ⟨#[]⟩,.int .i64 0] 136);go_enter Tryz.func84,Tryz.ntmps84
 go_upto_region 1 with fail
 obtain⟨w0,hw0⟩ : ∃w0,w0=W.alloc (.cells #[.bool false,.string ⟨#[]⟩,.string ⟨#[]⟩,.int .i64 0] 136):=⟨_,rfl⟩;rw[<- hw0] at n0 T0 ⊢;have H0:=zh (And.intro n0 T0);clear n0 T0 hw0;go_wp2_with fail;refine(HI1.out _).mono ?_;rintro e w1 ⟨rfl,rfl⟩;go_wp2_with fail;refine(HI2.out _).mono ?_;rintro e w2 ⟨rfl,rfl⟩
 go_upto_region 7 with fail
 clear e3 e4 e5;go_wp2_with fail;refine(HN1.out _).mono ?_;rintro e w3 ⟨rfl,t1⟩;have H1:=zh t1;clear t1;go_wp2_with fail;refine(HN2.out _).mono ?_;rintro e w4 ⟨rfl,t1⟩;have H2:=zh (H1.out.trans t1);clear t1 H1;go_wp2_with fail;refine(HL.out _).mono ?_;rintro e w5 ⟨rfl,t1⟩;have H3:=zh (H2.out.trans t1);have hb:=keepB H3.out H0.out.1;clear t1 H2;obtain⟨k0,k1,k2,k3,k4,k5,k6,k7⟩:=box4 hb;have HZ:=zh (set4 hb (.bool c) (.string r1) (.string r2) (.int .i64 0));clear hb;go_wp2_with fail;refine bodyPost_ret (results_cell_row (fn:=Tryz.f84) rfl _ _ W.heap.size 136 #[.bool c,.string r1,.string r2,.int .i64 0] (0,0) _ rfl HZ.out.1 Tryz.underlying136 rfl (by kernel_rfl)) rfl ?_
 exact⟨rfl,(H0.out.2.trans H3.out).fresh HZ.out.2 fun g hg=>by omega⟩
theorem pInt_any(n:Nat) (W:World) (hn:n<=999999999999999):Calls Tryz.prog 44 #[.int .i64 n] W fun e w'=>e=.returned (ratV (repR (n:Rat)))/\Turned (fun _=>False) W w':=by
 have HM:=zh (fun W=>pMake_any n 1 W hn (by decide) (by decide))
 rw[show((n:Rat) / ((1:Nat):Rat))=(n:Rat) by rw[show((1:Nat):Rat)=1 from rfl];grind] at HM
 obtain⟨⟨c,r1,r2⟩,hr⟩ : ∃r,repR (n:Rat)=r:=⟨_,rfl⟩;rw[hr] at HM ⊢;clear hr hn;have T0:=(zr W).alloc (.cells #[.bool false,.string ⟨#[]⟩,.string ⟨#[]⟩] 68);have n0:=World.alloc_heap_new W (.cells #[.bool false,.string ⟨#[]⟩,.string ⟨#[]⟩] 68);go_enter Tryz.func44,Tryz.ntmps44
 go_upto_region 1 with fail
 obtain⟨w0,hw0⟩ : ∃w0,w0=W.alloc (.cells #[.bool false,.string ⟨#[]⟩,.string ⟨#[]⟩] 68):=⟨_,rfl⟩;rw[<- hw0] at n0 T0 ⊢;have H0:=zh (And.intro n0 T0);clear n0 T0 hw0;go_wp2_with fail;refine(HM.out _).mono ?_;rintro e w1 ⟨rfl,t1⟩;have tx:=t1.alloc (.cells #[.bool c,.string r1,.string r2,.int .i64 0] 136);have hb:=keepB tx H0.out.1;have nx:=World.alloc_heap_new w1 (.cells #[.bool c,.string r1,.string r2,.int .i64 0] 136);obtain⟨X,hX⟩ : ∃o,w1.heap.size=o:=⟨_,rfl⟩;rw[hX] at nx;have HT:=zh (H0.out.2.trans tx);clear t1 tx HM H0;simp only[madeV]
 go_upto_region 2 with fail
 obtain⟨V,hV⟩ : ∃V,w1.alloc (.cells #[.bool c,.string r1,.string r2,.int .i64 0] 136)=V:=⟨_,rfl⟩;rw[hV] at HT hb nx ⊢;clear hV hX;obtain⟨d0,d1,d2,d3,-,-,-,-⟩:=box4 nx;obtain⟨k0,k1,k2,k3,k4,k5⟩:=box3 hb;have HZ:=zh (set3 hb (.bool c) (.string r1) (.string r2));clear nx hb;go_wp2_with fail;refine bodyPost_ret (results_cell_row (fn:=Tryz.f44) rfl _ _ W.heap.size 68 #[.bool c,.string r1,.string r2] (0,0) _ rfl HZ.out.1 Tryz.underlying68 rfl (by kernel_rfl)) rfl ?_
 exact⟨rfl,HT.out.fresh HZ.out.2 fun g hg=>by omega⟩
theorem yNatural_any(u:Rv) (W:World) (hu:SzR u 300000000):Calls Tryz.prog 91 #[ratV u] W fun e w'=>e=.returned (.bool (natR u))/\Turned (fun _=>False) W w':=by
 have HV:=zh (fun W=>pValid_any u W hu.1 hu.2)
 obtain⟨un,ux,ud⟩:=u;obtain⟨v,hv⟩ : ∃v,decide (validR ⟨un,ux,ud⟩)=v:=⟨_,rfl⟩;have HR:Hid (natR ⟨un,ux,ud⟩=(v && !un)):=zh (by unfold natR;rw[hv])
 rw[hv] at HV;clear hu hv;cases v
 ·go_enter Tryz.func91,Tryz.ntmps91;go_wp2_with fail;refine(HV.out _).mono ?_;rintro e w1 ⟨rfl,t1⟩;have HT:=zh (((zr W).alloc _).trans t1);clear t1 HV;go_wp2_with fail;go_ret;rw[HR.out];exact⟨rfl,HT.out⟩
 ·go_enter Tryz.func91,Tryz.ntmps91;go_wp2_with fail;refine(HV.out _).mono ?_;rintro e w1 ⟨rfl,t1⟩;have c0:=(box3 (keepB t1 (World.alloc_heap_new W _))).1;have HT:=zh (((zr W).alloc _).trans t1);clear t1 HV;go_wp2_with fail;go_ret;rw[HR.out];exact⟨rfl,HT.out⟩
end Go.Proofs.YtanhhdndgkhcfaaGreatDoor
