/- Part 7 of the proof of lawSpec.card: RatWalkG, RatWalkH, RangeLawE. Conditions: those of each theorem. -/
import Derived.Test.YtanhhdndgkhcfaaGreatDoorSp01
import Derived.Test.YtanhhdndgkhcfaaGreatDoorSp06
set_option maxRecDepth 20000
set_option maxHeartbeats 4000000
namespace Go.Proofs.YtanhhdndgkhcfaaGreatDoor
open Go Go.Proofs Go.RowKit
attribute [local go_sem] Oper.semAt_some
attribute [local go_sem ↓] run_eql_rat' run_neq_rat'
def cmpQ (p q:Rat):Int:=if p=q then 0 else if p < q then -1 else 1
theorem cmpQ_le{p q:Rat} : cmpQ p q<=0↔p<=q:=by
 unfold cmpQ;split
 ·rename_i h;subst h;exact⟨fun _=>Rat.le_refl,fun _=>Int.le_refl _⟩
 ·split
  ·exact⟨fun _=>by grind,fun _=>by decide⟩
  ·exact⟨fun h=>absurd h (by decide),fun h=>by grind⟩
theorem cmpQ_ge{p q:Rat} : 0<=cmpQ p q↔q<=p:=by
 unfold cmpQ;split
 ·rename_i h;subst h;exact⟨fun _=>Rat.le_refl,fun _=>Int.le_refl _⟩
 ·split
  ·exact⟨fun h=>absurd h (by decide),fun h=>by grind⟩
  ·exact⟨fun _=>by grind,fun _=>by decide⟩
theorem cmpQ_of{p q:Rat} {f:Bool×Nat×Nat} (hd:f.2.2≠0) (h:qF f=p-q):cmpQ p q=if f.2.1=0 then 0 else if f.1=true then -1 else 1:=by
 obtain⟨s1,s2⟩:=qF_sign f hd;rw[h] at s1 s2;unfold cmpQ;by_cases h0:f.2.1=0
 ·have:=s1.1 h0;rw[if_pos h0,if_pos (by grind)]
 ·have h1:¬p=q:=fun e=>h0 (s1.2 (by grind))
  rw[if_neg h0,if_neg h1];by_cases h2:f.1=true
  ·have:=(s2 h0).1 h2;rw[if_pos h2,if_pos (by grind)]
  ·have:¬p-q < 0:=fun e=>h2 ((s2 h0).2 e)
   rw[if_neg h2,if_neg (by grind)]
theorem mv6{V V':World} {a b:Nat} {x0 x1 x2 y0 y1 y2:Value} (t:Turned (fun _=>False) V V')
  (h:V.cell? ⟨a,0,none⟩=some x0/\V.cell? ⟨a,1,none⟩=some x1/\V.cell? ⟨a,2,none⟩=some x2/\V.cell? ⟨b,0,none⟩=some y0/\V.cell? ⟨b,1,none⟩=some y1/\V.cell? ⟨b,2,none⟩=some y2) :
  V'.cell? ⟨a,0,none⟩=some x0/\V'.cell? ⟨a,1,none⟩=some x1/\V'.cell? ⟨a,2,none⟩=some x2/\V'.cell? ⟨b,0,none⟩=some y0/\V'.cell? ⟨b,1,none⟩=some y1/\V'.cell? ⟨b,2,none⟩=some y2 :=
 ⟨cellT t id h.1,cellT t id h.2.1,cellT t id h.2.2.1,cellT t id h.2.2.2.1,cellT t id h.2.2.2.2.1,cellT t id h.2.2.2.2.2⟩
theorem mv6s{V:World} {a b c:Nat} {x0 x1 x2 y0 y1 y2:Value} (u0 u1 u2:Value) (h1:a≠c) (h2:b≠c)
  (h:V.cell? ⟨a,0,none⟩=some x0/\V.cell? ⟨a,1,none⟩=some x1/\V.cell? ⟨a,2,none⟩=some x2/\V.cell? ⟨b,0,none⟩=some y0/\V.cell? ⟨b,1,none⟩=some y1/\V.cell? ⟨b,2,none⟩=some y2) :
  ((((V.setCell ⟨c,0,none⟩ u0).setCell ⟨c,1,none⟩ u1).setCell ⟨c,2,none⟩ u2).cell? ⟨a,0,none⟩=some x0/\(((V.setCell ⟨c,0,none⟩ u0).setCell ⟨c,1,none⟩ u1).setCell ⟨c,2,none⟩ u2).cell? ⟨a,1,none⟩=some x1/\(((V.setCell ⟨c,0,none⟩ u0).setCell ⟨c,1,none⟩ u1).setCell ⟨c,2,none⟩ u2).cell? ⟨a,2,none⟩=some x2/\(((V.setCell ⟨c,0,none⟩ u0).setCell ⟨c,1,none⟩ u1).setCell ⟨c,2,none⟩ u2).cell? ⟨b,0,none⟩=some y0/\(((V.setCell ⟨c,0,none⟩ u0).setCell ⟨c,1,none⟩ u1).setCell ⟨c,2,none⟩ u2).cell? ⟨b,1,none⟩=some y1/\(((V.setCell ⟨c,0,none⟩ u0).setCell ⟨c,1,none⟩ u1).setCell ⟨c,2,none⟩ u2).cell? ⟨b,2,none⟩=some y2):=by
 have t:Turned (fun k=>k=c) V (((V.setCell ⟨c,0,none⟩ u0).setCell ⟨c,1,none⟩ u1).setCell ⟨c,2,none⟩ u2):=(((Turned.refl (fun k=>k=c) V).setCell (p:=⟨c,0,none⟩) rfl u0).setCell (p:=⟨c,1,none⟩) rfl u1).setCell (p:=⟨c,2,none⟩) rfl u2
 exact⟨cellT t h1 h.1,cellT t h1 h.2.1,cellT t h1 h.2.2.1,cellT t h2 h.2.2.2.1,cellT t h2 h.2.2.2.2.1,cellT t h2 h.2.2.2.2.2⟩
theorem qCmp_any(u v:Rv) (k:Nat) (W:World) (h1:1<=k) (hk:k<=100000000) (hu:SzR u k) (hv:SzR v k) :
  Calls Tryz.prog 30 #[ratV u,ratV v] W fun e w'=>e=.returned (.int .i64 (cmpQ (qR u) (qR v)))/\Turned (fun _=>False) W w':=by
 have hf:=fracR_size hu h1;have hg:=fracR_size hv h1;have hfd:=fracR_den u;have hgd:=fracR_den v;have HO1:=zh (fun W=>qOf_any u W (Nat.le_trans hu.1 (by omega)) (Nat.le_trans hu.2 (by omega)))
 have HO2:=zh (fun W=>qOf_any v W (Nat.le_trans hv.1 (by omega)) (Nat.le_trans hv.2 (by omega)))
 have HD:=zh (fun W=>less_call (fracR u) (fracR v) k W hk hf hg)
 have hq:=qF_plus (fracR u) (!(fracR v).1,(fracR v).2) hfd hgd;have he:=cmpQ_of (p:=qR u) (q:=qR v) hq.2 (hq.1.trans (by rw[qF_neg,Rat.sub_eq_add_neg];rfl))
 obtain⟨⟨rn,rx,ry⟩,hr⟩ : ∃r,plusF (fracR u) (!(fracR v).1,(fracR v).2)=r:=⟨_,rfl⟩;rw[hr] at HD he;rw[he];obtain⟨⟨f1,f2,f3⟩,hfr⟩ : ∃f,fracR u=f:=⟨_,rfl⟩;obtain⟨⟨g1,g2,g3⟩,hgr⟩ : ∃f,fracR v=f:=⟨_,rfl⟩;rw[hfr] at HO1 HD;rw[hgr] at HO2 HD;obtain⟨un,ux,ud⟩:=u;obtain⟨vn,vx,vd⟩:=v;simp only[frV] at HO1 HO2 HD ⊢;obtain⟨F2,hF2⟩ : ∃x,encB f2=x:=⟨_,rfl⟩;obtain⟨F3,hF3⟩ : ∃x,encB f3=x:=⟨_,rfl⟩;obtain⟨G2,hG2⟩ : ∃x,encB g2=x:=⟨_,rfl⟩;obtain⟨G3,hG3⟩ : ∃x,encB g3=x:=⟨_,rfl⟩;obtain⟨R3,hR3⟩ : ∃x,encB ry=x:=⟨_,rfl⟩;obtain⟨X,hX⟩ : ∃x,encB rx=x:=⟨_,rfl⟩;rw[hF2,hF3] at HO1 HD;rw[hG2,hG3] at HO2 HD;rw[hR3,hX] at HD;have hx:(X=⟨#[]⟩)↔rx=0:=by rw[<- hX];exact encB_nil
 obtain⟨z,hz⟩ : ∃z:Int,(if rx=0 then 0 else if rn=true then -1 else 1)=z:=⟨_,rfl⟩
 rw[hz];have HZ:=zh hz;clear hu hv hf hg hfd hgd hq he hr hfr hgr hF2 hF3 hG2 hG3 hR3 hX f2 f3 g2 g3 ry h1 hk hz;go_enter Tryz.func30,Tryz.ntmps30;go_wp2_with fail;obtain⟨w0,hw0⟩ : ∃w0,w0=((W.alloc (.cells #[.bool un,.string ux,.string ud] 68 (0,0))).alloc (.cells #[.bool vn,.string vx,.string vd] 68 (0,0))):=⟨_,rfl⟩;have n0:=new_first W (.cells #[.bool un,.string ux,.string ud] 68 (0,0)) (.cells #[.bool vn,.string vx,.string vd] 68 (0,0));have n1:=new_second W (.cells #[.bool un,.string ux,.string ud] 68 (0,0)) (.cells #[.bool vn,.string vx,.string vd] 68 (0,0));have T0:=(((zr W).alloc (.cells #[.bool un,.string ux,.string ud] 68 (0,0))).alloc (.cells #[.bool vn,.string vx,.string vd] 68 (0,0)));have z0:W.heap.size+2<=w0.heap.size:=by rw[hw0];simp
 have zd:w0.heap.size<=w0.drew.heap.size:=Nat.le_refl _;rw[<- hw0] at n0 n1 T0 ⊢;have HT0:=zh T0.drew;have HK0:=zh (mv6 ((zr w0).drew) ⟨(box3 n0).1,(box3 n0).2.1,(box3 n0).2.2.1,(box3 n1).1,(box3 n1).2.1,(box3 n1).2.2.1⟩);clear hw0 n0 n1 T0
 go_region_held3 (fun V=>V.cell? ⟨W.heap.size,0,none⟩=some (.bool un)/\V.cell? ⟨W.heap.size,1,none⟩=some (.string ux)/\V.cell? ⟨W.heap.size,2,none⟩=some (.string ud)/\V.cell? ⟨W.heap.size+1,0,none⟩=some (.bool vn)/\V.cell? ⟨W.heap.size+1,1,none⟩=some (.string vx)/\V.cell? ⟨W.heap.size+1,2,none⟩=some (.string vd))
  (first | exact HK0.out | exact mv6 T3.out (by assumption) | exact mv6 T2.out (by assumption) | exact mv6 T1.out (by assumption) | exact mv6 ((zr _).alloc _) (by assumption) | exact mv6 ((zr _).alloc _) (mv6 T3.out (mv6 T2.out (mv6 T1.out HK0.out))) | exact mv6s _ _ _ (by omega) (by omega) (by assumption))
  (first
   | (have hq:=T2;clear hq;go_at_call 68;refine(HD.out _).mono ?_;rintro e w3 ⟨rfl,t3⟩;have T3:=zh t3;have z3:=t3.size;(try simp only[World.size_alloc] at z3);(first | (have e3:=keepB t3 e2) | (have e3:w3.heap[w2.heap.size]? = some _:=keepB t3 (World.alloc_heap_new w2 _)) | skip);(first | (have e4:=box3 e3;obtain⟨p0,p1,p2,p3,p4,p5⟩:=e4) | skip);clear t3)
   | (have hq:=T1;clear hq;go_at_call 67;refine(HO2.out _).mono ?_;rintro e w2 ⟨rfl,t2⟩;have T2:=zh t2;have z2:=t2.size;(try simp only[World.size_alloc] at z2);(first | (have e2:=keepB t2 e1) | (have e2:w2.heap[w1.heap.size]? = some _:=keepB t2 (World.alloc_heap_new w1 _)) | skip);clear t2)
   | (go_at_call 67;refine(HO1.out _).mono ?_;rintro e w1 ⟨rfl,t1⟩;have T1:=zh t1;have z1:=t1.size;(try simp only[World.size_alloc] at z1);(first | (have e1:w1.heap[w0.heap.size]? = some _:=keepB t1 (World.alloc_heap_new w0.drew _)) | skip);clear t1))
 all_goals
  first
   | (have k1:=World.alloc_heap_new w3 (.cells #[.bool rn,.string X,.string R3] 114)
      have HT:=zh ((((HT0.out.trans T1.out).trans T2.out).trans T3.out).alloc (.cells #[.bool rn,.string X,.string R3] 114));have HB:=zh (And.intro (box3 k1).1 (box3 k1).2.1);clear k1;generalize (w3.alloc (.cells #[.bool rn,.string X,.string R3] 114))=Wf at *;generalize w3.heap.size=B at *;clear HK0 HT0 T1 T2 T3)
   | (obtain⟨k1,k2⟩:=set3 (show w3.heap[w2.heap.size]? = some _ from e3) (.bool rn) (.string X) (.string R3)
      have HT:Hid (Turned (fun _=>False) W _):=zh (((((HT0.out.trans T1.out).trans T2.out).alloc _).trans T3.out).fresh k2 fun g hg=>by omega)
      have HB:=zh (And.intro (box3 k1).1 (box3 k1).2.1);clear k1 k2 e3 p0 p1 p2 p3 p4 p5 HK0 HT0 T1 T2 T3;generalize (((w3.setCell ⟨w2.heap.size,0,none⟩ (.bool rn)).setCell ⟨w2.heap.size,1,none⟩ (.string X)).setCell ⟨w2.heap.size,2,none⟩ (.string R3))=Wf at *;generalize w2.heap.size=B at *)
   | (obtain⟨k1,k2⟩:=set3 (show w3.heap[w1.heap.size]? = some _ from e3) (.bool rn) (.string X) (.string R3)
      have HT:Hid (Turned (fun _=>False) W _):=zh (((((HT0.out.trans T1.out).alloc _).trans T2.out).trans T3.out).fresh k2 fun g hg=>by omega)
      have HB:=zh (And.intro (box3 k1).1 (box3 k1).2.1);clear k1 k2 e3 p0 p1 p2 p3 p4 p5 HK0 HT0 T1 T2 T3;generalize (((w3.setCell ⟨w1.heap.size,0,none⟩ (.bool rn)).setCell ⟨w1.heap.size,1,none⟩ (.string X)).setCell ⟨w1.heap.size,2,none⟩ (.string R3))=Wf at *;generalize w1.heap.size=B at *)
   | (obtain⟨k1,k2⟩:=set3 (show w3.heap[w0.heap.size]? = some _ from e3) (.bool rn) (.string X) (.string R3)
      have HT:Hid (Turned (fun _=>False) W _):=zh (((((HT0.out.alloc _).trans T1.out).trans T2.out).trans T3.out).fresh k2 fun g hg=>by omega)
      have HB:=zh (And.intro (box3 k1).1 (box3 k1).2.1);clear k1 k2 e3 p0 p1 p2 p3 p4 p5 HK0 HT0 T1 T2 T3;generalize (((w3.setCell ⟨w0.heap.size,0,none⟩ (.bool rn)).setCell ⟨w0.heap.size,1,none⟩ (.string X)).setCell ⟨w0.heap.size,2,none⟩ (.string R3))=Wf at *;generalize w0.heap.size=B at *)
 all_goals
  clear HO1 HO2 HD;obtain⟨b0,b1⟩:=HB.out;clear HB;by_cases h0:rx=0
  ·have hX:=hx.2 h0;have hzz:Hid (z=0):=zh (by rw[<- HZ.out,if_pos h0])
   rw[hX] at b1;clear hX h0 HZ hx;go_wp2_with fail;go_ret;rw[hzz.out];exact⟨rfl,HT.out⟩
  ·obtain⟨l1,l2⟩:=bytes_ne (fun e=>h0 (hx.1 e))
   cases rn
   ·have hzz:Hid (z=1):=zh (by rw[<- HZ.out,if_neg h0];rfl)
    clear h0 HZ hx;go_wp2_with fail;go_ret;rw[hzz.out];exact⟨rfl,HT.out⟩
   ·have hzz:Hid (z = -1):=zh (by rw[<- HZ.out,if_neg h0];rfl)
    clear h0 HZ hx;go_wp2_with fail;go_ret;rw[hzz.out];exact⟨rfl,HT.out⟩
attribute [local go_sem ↓] run_eql_rat' run_neq_rat'
theorem low_frac(u:Rv):lowR (fracR u).1 (fracR u).2.1 (fracR u).2.2=repR (qR u):=low_qF _ (fracR_den u)
theorem low_call(u:Rv) (k:Nat) (W:World) (h1:1<=k) (hk:k<=100000000) (hu:SzR u k):Calls Tryz.prog 73 #[frV (fracR u)] W fun e w'=>e=.returned (ratV (repR (qR u)))/\Turned (fun _=>False) W w':=by
 have hf:=fracR_size hu h1;have:=low_any (fracR u) W (fracR_den u) (Nat.le_trans hf.1 (by omega)) (Nat.le_trans hf.2 (by omega))
 rwa [low_frac] at this
theorem results_qmin(tmps:Array Value) (w:World) (g:Nat) (a b c:Value) (hp:tmps.getD 4 undef=.pointer (some ⟨g,0,none⟩)) (hg:w.heap[g]? = some (.cells #[a,b,c] 68 (0,0))) :
  (results Tryz.f33 tmps).run Tryz.prog w=.ok (.agg #[a,b,c]) w :=
 results_cell_row (fn:=Tryz.f33) rfl tmps w g 68 #[a,b,c] (0,0) _ hp hg Tryz.underlying68 rfl (by kernel_rfl)
theorem qmin_of(u v r:Rv) (z:Int) (s:Bool) (W:World) (HC:∀W,Calls Tryz.prog 30 #[ratV u,ratV v] W fun e w'=>e=.returned (.int .i64 z)/\Turned (fun _=>False) W w') (hz:decide (z<=0)=s)
  (f:Bool×Nat×Nat) (HO:∀W,Calls Tryz.prog 67 #[ratV (bif s then u else v)] W fun e w'=>e=.returned (frV f)/\Turned (fun _=>False) W w')
  (HL:∀W,Calls Tryz.prog 73 #[frV f] W fun e w'=>e=.returned (ratV r)/\Turned (fun _=>False) W w') :
  Calls Tryz.prog 33 #[ratV u,ratV v] W fun e w'=>e=.returned (ratV r)/\Turned (fun _=>False) W w':=by
 replace HC:=zh HC;replace HO:=zh HO;replace HL:=zh HL;obtain⟨f1,f2,f3⟩:=f;obtain⟨un,ux,ud⟩:=u;obtain⟨vn,vx,vd⟩:=v;obtain⟨rn,rx,rd⟩:=r;simp only[frV] at HO HL ⊢;obtain⟨F2,hF2⟩ : ∃x,encB f2=x:=⟨_,rfl⟩;obtain⟨F3,hF3⟩ : ∃x,encB f3=x:=⟨_,rfl⟩;rw[hF2,hF3] at HO HL;clear hF2 hF3 f2 f3;cases s
 all_goals
  go_enter Tryz.func33,Tryz.ntmps33;go_wp2_with fail;refine(HC.out _).mono ?_;rintro e w1 ⟨rfl,t1⟩;have HS:=zh (mv3 (And.intro (new3 W (.cells #[.bool un,.string ux,.string ud] 68 (0,0)) (.cells #[.bool vn,.string vx,.string vd] 68 (0,0)) (.cells #[.bool false,.string ⟨#[]⟩,.string ⟨#[]⟩] 68 (0,0))).1 (And.intro (new3 W (.cells #[.bool un,.string ux,.string ud] 68 (0,0)) (.cells #[.bool vn,.string vx,.string vd] 68 (0,0)) (.cells #[.bool false,.string ⟨#[]⟩,.string ⟨#[]⟩] 68 (0,0))).2.1 (And.intro (new3 W (.cells #[.bool un,.string ux,.string ud] 68 (0,0)) (.cells #[.bool vn,.string vx,.string vd] 68 (0,0)) (.cells #[.bool false,.string ⟨#[]⟩,.string ⟨#[]⟩] 68 (0,0))).2.2 ((((zr W).alloc _).alloc _).alloc _)))) t1);clear t1 HC;obtain⟨x0,x1,x2,y0,y1,y2⟩:=s6 HS.out;go_wp2_with fail;refine(HO.out _).mono ?_;rintro e w2 ⟨rfl,t1⟩;have HS2:=zh (mv3 HS.out t1);clear t1 HS HO x0 x1 x2 y0 y1 y2;go_wp2_with fail;refine(HL.out _).mono ?_;rintro e w3 ⟨rfl,t1⟩;have HS3:=zh (mv3 HS2.out t1);clear t1 HS2 HL;obtain⟨d0,d1,d2,q0,q1,q2⟩:=box3 HS3.out.2.2.1;go_wp2_with fail;obtain⟨k1,k2⟩:=set3 HS3.out.2.2.1 (.bool rn) (.string rx) (.string rd);refine bodyPost_ret (results_qmin _ _ (W.heap.size+1+1) _ _ _ rfl k1) rfl ?_;exact⟨rfl,HS3.out.2.2.2.fresh k2 fun g hg=>by omega⟩
def minR (a b:Rat):Rat:=if a<=b then a else b
theorem qMin_any(u v:Rv) (k:Nat) (W:World) (h1:1<=k) (hk:k<=100000000) (hu:SzR u k) (hv:SzR v k) :
  Calls Tryz.prog 33 #[ratV u,ratV v] W fun e w'=>e=.returned (ratV (repR (minR (qR u) (qR v))))/\Turned (fun _=>False) W w':=by
 by_cases h:qR u<=qR v
 ·have e:minR (qR u) (qR v)=qR u:=if_pos h;rw[e];exact qmin_of u v _ _ true W (fun W=>qCmp_any u v k W h1 hk hu hv) (decide_eq_true (cmpQ_le.2 h)) _ (fun W=>qOf_any u W (Nat.le_trans hu.1 (by omega)) (Nat.le_trans hu.2 (by omega))) (fun W=>low_call u k W h1 hk hu)
 ·have e:minR (qR u) (qR v)=qR v:=if_neg h;rw[e];exact qmin_of u v _ _ false W (fun W=>qCmp_any u v k W h1 hk hu hv) (decide_eq_false fun h2=>h (cmpQ_le.1 h2)) _ (fun W=>qOf_any v W (Nat.le_trans hv.1 (by omega)) (Nat.le_trans hv.2 (by omega))) (fun W=>low_call v k W h1 hk hv)
theorem results_ct{fn:Func} {p u:Tmp} {ty:TypeId} (h:fn.results=#[.cell p ty,.tmp u]) (tmps:Array Value) (w:World) (g:Nat) (cs:Array Value) (x:Value) (hx:tmps.getD u undef=x)
  (hp:tmps.getD p undef=.pointer (some ⟨g,0,none⟩))
  (hl:(loadVar ty ⟨g,0,none⟩).run Tryz.prog w=.ok (.agg cs) w) :
  (results fn tmps).run Tryz.prog w=.ok (.tuple #[.agg cs,x]) w:=by
 rw[results_cell_tmp h,hp,hx];simp[asAddr,hl]
theorem run_field_frac(a b c:Value) (w:World):(Instr.field 114 (.agg #[a,b,c]) 1).run Tryz.prog w=.ok b w:=by kernel_rfl
theorem qDiv_any(u v:Rv) (k:Nat) (W:World) (h1:1<=k) (hk:k<=100000000) (hu:SzR u k) (hv:SzR v k) (h0:qR v≠0) :
  Calls Tryz.prog 31 #[ratV u,ratV v] W fun e w'=>e=.returned (.tuple #[ratV (repR (qR u / qR v)),.int .i64 0])/\Turned (fun _=>False) W w':=by
 have hf:=fracR_size hu h1;have hg:=fracR_size hv h1;have hfd:=fracR_den u;have hgd:=fracR_den v;have hgn:(fracR v).2.1≠0:=fun e=>h0 ((qF_sign _ hgd).1.1 e)
 have HOv:=zh (fun W=>qOf_any v W (Nat.le_trans hv.1 (by omega)) (Nat.le_trans hv.2 (by omega)))
 have HO:=zh (fun W=>qOf_any u W (Nat.le_trans hu.1 (by omega)) (Nat.le_trans hu.2 (by omega)))
 have HD:=zh (fun W=>do_over (fracR u) (fracR v) ((fracR u).1 != (fracR v).1,(fracR u).2.1*(fracR v).2.2,(fracR u).2.2*(fracR v).2.1) v W (SzR.mono hv (by omega)) rfl (Nat.mul_ne_zero hfd hgn) ((hf.times (g:=((fracR v).1,(fracR v).2.2,(fracR v).2.1)) ⟨hg.2,hg.1⟩).mono (by omega)) (fun W=>over_call _ _ k W (by omega) hf hg))
 have he:lowR ((fracR u).1 != (fracR v).1) ((fracR u).2.1*(fracR v).2.2) ((fracR u).2.2*(fracR v).2.1)=repR (qR u / qR v):=by
  rw[low_qF ((fracR u).1 != (fracR v).1,(fracR u).2.1*(fracR v).2.2,(fracR u).2.2*(fracR v).2.1) (Nat.mul_ne_zero hfd hgn),qF_times (fracR u) ((fracR v).1,(fracR v).2.2,(fracR v).2.1),qF_inv _ hgn hgd,Rat.div_def];rfl
 rw[he] at HD;obtain⟨⟨sn,sx,sy⟩,hs⟩ : ∃s,repR (qR u / qR v)=s:=⟨_,rfl⟩;rw[hs] at HD ⊢;obtain⟨⟨f1,f2,f3⟩,hfr⟩ : ∃f,fracR u=f:=⟨_,rfl⟩;rw[hfr] at HO HD;obtain⟨⟨g1,g2,g3⟩,hgr⟩ : ∃f,fracR v=f:=⟨_,rfl⟩;rw[hgr] at HOv hgn;obtain⟨un,ux,ud⟩:=u;obtain⟨vn,vx,vd⟩:=v;obtain⟨l1,l2⟩:=bytes_ne (encB_ne hgn);obtain⟨F2,hF2⟩ : ∃x,encB f2=x:=⟨_,rfl⟩;obtain⟨F3,hF3⟩ : ∃x,encB f3=x:=⟨_,rfl⟩;simp only[frV] at HO HOv HD ⊢;have l1':=l1;obtain⟨G2,hG2⟩ : ∃x,encB g2=x:=⟨_,rfl⟩;obtain⟨G3,hG3⟩ : ∃x,encB g3=x:=⟨_,rfl⟩;simp only at l1 l2 l1';rw[hG2] at l1 l2 HOv;rw[hG3] at HOv;rw[hF2,hF3] at HO HD;clear l1' hu hv hf hg hfd hgd he hs hfr hgr hgn h0 hF2 hF3 hG2 hG3 f2 f3 g2 g3 h1 hk;have hfld:=run_field_frac;go_enter Tryz.func31,Tryz.ntmps31;go_wp2_with fail;refine(HOv.out _).mono ?_;rintro e wa ⟨rfl,ta⟩;have HA:=zh (mv3 (And.intro (new3 W (.cells #[.bool un,.string ux,.string ud] 68 (0,0)) (.cells #[.bool vn,.string vx,.string vd] 68 (0,0)) (.cells #[.bool false,.string ⟨#[]⟩,.string ⟨#[]⟩] 68 (0,0))).1 (And.intro (new3 W (.cells #[.bool un,.string ux,.string ud] 68 (0,0)) (.cells #[.bool vn,.string vx,.string vd] 68 (0,0)) (.cells #[.bool false,.string ⟨#[]⟩,.string ⟨#[]⟩] 68 (0,0))).2.1 (And.intro (new3 W (.cells #[.bool un,.string ux,.string ud] 68 (0,0)) (.cells #[.bool vn,.string vx,.string vd] 68 (0,0)) (.cells #[.bool false,.string ⟨#[]⟩,.string ⟨#[]⟩] 68 (0,0))).2.2 ((((zr W).alloc _).alloc _).alloc _)))) ta);clear ta HOv;go_wp2_with fail;have HL0:=zh (mv3 HA.out ((zr wa).drew));have HK0:=zh (s6 HL0.out);clear HA hfld
 go_region_held3 (fun V=>V.cell? ⟨W.heap.size,0,none⟩=some (.bool un)/\V.cell? ⟨W.heap.size,1,none⟩=some (.string ux)/\V.cell? ⟨W.heap.size,2,none⟩=some (.string ud)/\V.cell? ⟨W.heap.size+1,0,none⟩=some (.bool vn)/\V.cell? ⟨W.heap.size+1,1,none⟩=some (.string vx)/\V.cell? ⟨W.heap.size+1,2,none⟩=some (.string vd))
  (first | exact HK3.out | exact HK2.out | exact HK1.out | exact HK0.out | go_keep)
  (first
   | (have hq:=HK1;clear hq;go_at_call 69;refine(HD.out w1).mono ?_;rintro e w2 ⟨rfl,t2⟩;have HL2:=zh (mv3 HL1.out t2);have HK2:=zh (s6 HL2.out);obtain⟨e0,e1,e2,q0,q1,q2⟩:=box3 HL2.out.2.2.1;have K3:=set3 HL2.out.2.2.1 (.bool sn) (.string sx) (.string sy);have HS3:=zh K3;have HK3:=zh (s6' HL2.out K3.2 (by omega) (by omega));clear t2 K3)
   | (go_at_call 67;refine(HO.out wa.drew).mono ?_;rintro e w1 ⟨rfl,t1⟩;have HL1:=zh (mv3 HL0.out t1);have HK1:=zh (s6 HL1.out);clear t1))
 go_wp2_with fail;refine bodyPost_ret (results_ct (fn:=Tryz.f31) rfl _ _ (W.heap.size+1+1) #[.bool sn,.string sx,.string sy] (.int .i64 0) rfl rfl (run_loadVar_row _ _ 68 68 _ (0,0) _ HS3.out.1 Tryz.underlying68 rfl (by kernel_rfl))) rfl ?_
 exact⟨rfl,HL2.out.2.2.2.fresh HS3.out.2 fun g hg=>by omega⟩
theorem qInside_any(n:Int) (W:World) (h1 : -999999999999999<=n) (h2:n<=999999999999999):Calls Tryz.prog 71 #[.int .i64 n] W fun e w'=>e=.returned (.bool true)/\w'=W:=by
 go_enter Tryz.func71,Tryz.ntmps71;go_wp2_with fail;go_ret;exact⟨rfl,rfl⟩
theorem results_int(tmps:Array Value) (w:World) (g:Nat) (a b c:Value) (hp:tmps.getD 2 undef=.pointer (some ⟨g,0,none⟩)) (hg:w.heap[g]? = some (.cells #[a,b,c] 114 (0,0))) :
  (results Tryz.f72 tmps).run Tryz.prog w=.ok (.agg #[a,b,c]) w :=
 results_cell_row (fn:=Tryz.f72) rfl tmps w g 114 #[a,b,c] (0,0) _ hp hg Tryz.underlying114 rfl (by kernel_rfl)
theorem qInteger_any(n:Nat) (W:World) (hn:n<=999999999999999):Calls Tryz.prog 72 #[.int .i64 n] W fun e w'=>e=.returned (frV (false,n,1))/\Turned (fun _=>False) W w':=by
 have HI:=zh (fun W=>nInt_any n W (by omega))
 show Calls Tryz.prog 72 #[.int .i64 n] W fun e w'=>e=.returned (.agg #[.bool false,.string (encB n),.string (encB 1)])/\Turned (fun _=>False) W w'
 rw[encB_one];obtain⟨X,hX⟩ : ∃x,encB n=x:=⟨_,rfl⟩;rw[hX] at HI ⊢;clear hX;have e1:wrap64 (-(n:Int)) = -(n:Int):=by unfold wrap64;omega
 have e2:max (n:Int) (-(n:Int))=(n:Int):=by omega
 have e3:¬(n:Int) < 0:=by omega
 clear hn;go_enter Tryz.func72,Tryz.ntmps72;go_wp2_with fail;refine(HI.out _).mono ?_;rintro e w1 ⟨rfl,t1⟩;have HS:=zh (And.intro (keepB t1 (World.alloc_heap_new W _)) (((zr W).alloc _).trans t1));clear t1 HI;obtain⟨d0,d1,d2,q0,q1,q2⟩:=box3 HS.out.1;have e4:decide ((n:Int) < 0)=false:=by simp
 go_wp2_with fail;obtain⟨k1,k2⟩:=set3 HS.out.1 (.bool false) (.string X) (.string ⟨#[1]⟩);refine bodyPost_ret (results_int _ _ W.heap.size _ _ _ rfl k1) rfl ?_;exact⟨rfl,HS.out.2.fresh k2 fun g hg=>by omega⟩
theorem results_qint(tmps:Array Value) (w:World) (g:Nat) (a b c:Value) (hp:tmps.getD 2 undef=.pointer (some ⟨g,0,none⟩)) (hg:w.heap[g]? = some (.cells #[a,b,c] 68 (0,0))) :
  (results Tryz.f32 tmps).run Tryz.prog w=.ok (.agg #[a,b,c]) w :=
 results_cell_row (fn:=Tryz.f32) rfl tmps w g 68 #[a,b,c] (0,0) _ hp hg Tryz.underlying68 rfl (by kernel_rfl)
theorem low_int(n:Nat):lowR false n 1=repR (n:Rat):=by
 rw[low_rep false n 1 (by decide),Rat.mkRat_eq_div]
 congr 1
 show((n:Int):Rat) / ((1:Nat):Rat)=(n:Rat);have:((1:Nat):Rat)=1:=rfl;rw[this,Rat.div_def];have:(1:Rat)⁻¹=1:=by grind
 rw[this,Rat.mul_one];rfl
theorem encB_int{n:Nat} (hn:n<=999999999999999):(encB n).size<=8:=encB_le (by omega)
theorem qInt_any(n:Nat) (W:World) (hn:n<=999999999999999):Calls Tryz.prog 32 #[.int .i64 n] W fun e w'=>e=.returned (ratV (repR (n:Rat)))/\Turned (fun _=>False) W w':=by
 have HN:=zh (fun W=>qInside_any n W (by omega) (by omega))
 have HI:=zh (fun W=>qInteger_any n W hn)
 have HL:=zh (fun W=>low_any (false,n,1) W (by show(1:Nat)≠0;decide) (Nat.le_trans (encB_int hn) (by decide)) (Nat.le_trans (encB_int (by decide:1<=999999999999999)) (by decide)))
 rw[low_int] at HL;obtain⟨⟨sn,sx,sy⟩,hs⟩ : ∃s,repR (n:Rat)=s:=⟨_,rfl⟩;rw[hs] at HL ⊢;simp only[frV] at HI HL;obtain⟨X,hX⟩ : ∃x,encB n=x:=⟨_,rfl⟩;obtain⟨Y,hY⟩ : ∃x,encB 1=x:=⟨_,rfl⟩;rw[hX,hY] at HI HL;clear hX hY hs hn;go_enter Tryz.func32,Tryz.ntmps32;go_wp2_with (go_at_call 71;refine(HN.out _).mono ?_;rintro e w' ⟨rfl,rfl⟩);refine(HI.out _).mono ?_;rintro e w1 ⟨rfl,t1⟩;have HS:=zh (And.intro (keepB t1 (World.alloc_heap_new W _)) (((zr W).alloc _).trans t1));clear t1 HI;go_wp2_with fail;refine(HL.out _).mono ?_;rintro e w2 ⟨rfl,t1⟩;have HS2:=zh (And.intro (keepB t1 HS.out.1) (HS.out.2.trans t1));clear t1 HL HS;obtain⟨d0,d1,d2,q0,q1,q2⟩:=box3 HS2.out.1;go_wp2_with fail;obtain⟨k1,k2⟩:=set3 HS2.out.1 (.bool sn) (.string sx) (.string sy);refine bodyPost_ret (results_qint _ _ W.heap.size _ _ _ rfl k1) rfl ?_;exact⟨rfl,HS2.out.2.fresh k2 fun g hg=>by omega⟩
theorem low_make(n d:Nat) (hd:d≠0):lowR (false != false) (n*1) (1*d)=repR ((n:Rat) / (d:Rat)):=by
 have e:(false != false)=false:=rfl;rw[e,Nat.mul_one,Nat.one_mul,low_rep false n d hd,Rat.mkRat_eq_div];rfl
theorem qMake_any(n d:Nat) (W:World) (hn:n<=999999999999999) (hd:d<=999999999999999) (h0:d≠0):Calls Tryz.prog 75 #[.int .i64 n,.int .i64 d] W fun e w'=>e=.returned (.tuple #[ratV (repR ((n:Rat) / (d:Rat))),.int .i64 0])/\Turned (fun _=>False) W w':=by
 have HN:=zh (fun W=>qInside_any n W (by omega) (by omega))
 have HE:=zh (fun W=>qInside_any d W (by omega) (by omega))
 have HI:=zh (fun W=>qInteger_any n W hn)
 have HJ:=zh (fun W=>qInteger_any d W hd)
 have s1:=encB_int hn;have s2:=encB_int hd;have s3:=encB_int (by decide:1<=999999999999999)
 have HO:=zh (fun W=>over_call (false,n,1) (false,d,1) 8 W (by decide) ⟨s1,s3⟩ ⟨s2,s3⟩)
 have HL:=zh (fun W=>low_any (false != false,n*1,1*d) W (by show 1*d≠0;omega) (Nat.le_trans (encB_mul n 1) (by omega)) (Nat.le_trans (encB_mul 1 d) (by omega)))
 rw[low_make n d h0] at HL;obtain⟨⟨sn,sx,sy⟩,hs⟩ : ∃s,repR ((n:Rat) / (d:Rat))=s:=⟨_,rfl⟩;rw[hs] at HL ⊢;simp only[frV] at HI HJ HO HL;have hz:((d:Int) == 0)=false:=by simp;omega
 obtain⟨X,hX⟩ : ∃x,encB n=x:=⟨_,rfl⟩;obtain⟨Y,hY⟩ : ∃x,encB d=x:=⟨_,rfl⟩;obtain⟨Z,hZ⟩ : ∃x,encB 1=x:=⟨_,rfl⟩;obtain⟨P,hP⟩ : ∃x,encB (n*1)=x:=⟨_,rfl⟩;obtain⟨R,hR⟩ : ∃x,encB (1*d)=x:=⟨_,rfl⟩;obtain⟨bb,hbb⟩ : ∃x,(false != false)=x:=⟨_,rfl⟩;rw[hX,hZ] at HI HO;rw[hY,hZ] at HJ;rw[hY,hP,hR,hbb] at HO;rw[hP,hR,hbb] at HL;clear hX hY hZ hP hR hs hn hd h0 s1 s2 s3 hbb;go_enter Tryz.func75,Tryz.ntmps75;go_wp2_with (go_at_call 71;first | (with_reducible refine(HN.out _).mono ?_;rintro e w' ⟨rfl,hw⟩;rw[hw];clear hw) | (with_reducible refine(HE.out _).mono ?_;rintro e w' ⟨rfl,hw⟩;rw[hw];clear hw))
 refine(HI.out _).mono ?_;rintro e w1 ⟨rfl,t1⟩;have HS:=zh (And.intro (keepB t1 (World.alloc_heap_new W _)) (((zr W).alloc _).trans t1));clear t1 HI;go_wp2_with fail;refine(HJ.out _).mono ?_;rintro e w2 ⟨rfl,t1⟩;have HS2:=zh (And.intro (keepB t1 HS.out.1) (HS.out.2.trans t1));clear t1 HJ HS;go_wp2_with fail;refine(HO.out _).mono ?_;rintro e w3 ⟨rfl,t1⟩;have HS3:=zh (And.intro (keepB t1 HS2.out.1) (HS2.out.2.trans t1));clear t1 HO HS2;go_wp2_with fail;refine(HL.out _).mono ?_;rintro e w4 ⟨rfl,t1⟩;have HS4:=zh (And.intro (keepB t1 HS3.out.1) (HS3.out.2.trans t1));clear t1 HL HS3;obtain⟨d0,d1,d2,q0,q1,q2⟩:=box3 HS4.out.1;go_wp2_with fail;obtain⟨k1,k2⟩:=set3 HS4.out.1 (.bool sn) (.string sx) (.string sy);refine bodyPost_ret (results_ct (fn:=Tryz.f75) rfl _ _ W.heap.size #[.bool sn,.string sx,.string sy] (.int .i64 0) rfl rfl (run_loadVar_row _ _ 68 68 _ (0,0) _ k1 Tryz.underlying68 rfl (by kernel_rfl))) rfl ?_
 exact⟨rfl,HS4.out.2.fresh k2 fun g hg=>by omega⟩
def IterE (ends:Prop) (P:Program) (gf:Nat) (lb:Array Value) {α:Type} (encs:α->Array Value) (xs:List α) (C S:Nat->Prop) (w:World):Prop :=
 ∀(l:Nat) (J:Nat->Nat->World->Prop) (Jx:World->Prop) (W:World),w.heap.size<=W.heap.size->(∀k,S k\/C k->W.heap[k]? = w.heap[k]?) ->
  (∀k N N' A,J k N A->N<=N'->J k N' A)->(∀k N A B,J k N A->N<=A.heap.size->Turned C A B->J k N B)->(∀A B,Jx A->Turned C A B->Jx B) ->
  (∀k N x W1,J k N W1->N<=W1.heap.size->xs[k]? = some x->YieldAt Fence.wide 0 P l (encs x) W1 fun e W' =>
   (e=.returned (.bool true)/\J (k+1) W'.heap.size W'/\Kept (fun k=>(S k\/C k)\/(N<=k/\k < W1.heap.size)) W1 W')\/(e=.returned (.bool false)/\Jx W')) ->
  (¬ends->∀N A,¬J xs.length N A)->J 0 W.heap.size W ->
  CallsIn Fence.wide 0 P gf (#[.func (.yield l) #[] #[]]++lb) W fun e W'=>(∃v,e=.returned v)/\(J xs.length W'.heap.size W'\/Jx W')
theorem range_lawE{P:Program} {g:Operand} {ps:Array Tmp} {assign body:Code} {Q:Exit->Act->World->Prop} {a:Act} {w:World}
  {gf:Nat} {lb:Array Value} (hg:a.eval g=.func (.func gf) #[] lb) (eg:∀args w,(callFunc gf args).run P w=.ok (.enter gf args) w)
  {α:Type} {encs:α->Array Value} {xs:List α} {C S:Nat->Prop} {ends:Prop} (hit:IterE ends P gf lb encs xs C S w) (hps:∀x,(encs x).size=ps.size)
  (hSC:∀k,S k\/C k->k < w.heap.size)
  (I:Nat->Nat->World->Prop) (Ix:Code->World->Prop)
  (monoN:∀k N N' A,I k N A->N<=N'->I k N' A)
  (stab:∀k N A B,I k N A->N<=A.heap.size->Turned (fun r=>C r\/r=w.heap.size\/r=w.heap.size+1) A B->I k N B)
  (stabx:∀c A B,Ix c A->Turned (fun r=>C r\/r=w.heap.size\/r=w.heap.size+1) A B->Ix c B)
  (hends:¬ends->∀N A,¬I xs.length N A) (h0:I 0 w.heap.size w) (tm:α->Array Value) (htm:∀x,(ps.zip (encs x)).foldl (fun t (p,v)=>t.setIfInBounds p v) a.tmps=tm x) (Ax:Nat->Nat->Nat->α->Act->World->Prop)
  (stabA:∀k N M x a' A B,Ax k N M x a' A->Turned (fun r=>r=w.heap.size+1) A B->Ax k N M x a' B)
  (hassign:∀k N x W,xs[k]? = some x->I k N W->N<=W.heap.size->w.heap.size+2<=W.heap.size ->
   assign.wpIn (Fence.wide.inRound (w.heap.size+1)) 0 P (Exit.then (fun a₁ W₁=>Ax k N W.heap.size x a₁ W₁/\Kept (fun k=>((S k\/C k)\/(N<=k/\k < W.heap.size))\/k=w.heap.size\/k=w.heap.size+1) W W₁) (fun _ _ _=>False)) { tmps:=tm x,defers:=[] } W)
  (hbody:∀k N M x a₁ W,xs[k]? = some x->Ax k N M x a₁ W->N<=M->M<=W.heap.size->w.heap.size+2<=W.heap.size->(∃r,W.heap[w.heap.size+1]? = some (.loop r)) ->
   body.wpIn (Fence.wide.inRound (w.heap.size+1)) 0 P (bodyLeft (fun k=>((S k\/C k)\/(N<=k/\k < M))\/k=w.heap.size\/k=w.heap.size+1) (fun W'=>I (k+1) W'.heap.size W') Ix W) a₁ W)
  (hdone:∀W,I xs.length W.heap.size W->W.heap[w.heap.size]? = some (.deferred (some []))->w.heap.size+2<=W.heap.size->Q .normal { a with defers:={ target:=.collected w.heap.size,args:=#[] }::a.defers } W)
  (hstop:∀c W,Ix c W->W.heap[w.heap.size]? = some (.deferred (some []))->w.heap.size+2<=W.heap.size->c.wpIn Fence.wide 0 P Q { a with defers:={ target:=.collected w.heap.size,args:=#[] }::a.defers } W) :
  (Code.rangeFunc g ps assign body).wpIn Fence.wide 0 P Q a w:=by
 refine wpIn_rangeFunc ?_;intro fn hfn;rw[show Fence.wide.round=none from rfl];obtain⟨rec,hrec⟩ : ∃rec:LoopState->Option Code->Loop,rec=fun st pe=>{ state:=st,pending:=pe,fn,tmps:=a.tmps,params:=ps,assign,body,defers:=w.heap.size }:=⟨_,rfl⟩
 obtain⟨W1,hW1⟩ : ∃W1,(w.alloc (.deferred (some []))).alloc (.loop (rec .ready none))=W1:=⟨_,rfl⟩;have hsz1:W1.heap.size=w.heap.size+2:=by rw[<- hW1];simp
 have hL1:W1.heap[w.heap.size+1]? = some (.loop (rec .ready none)):=by
  rw[<- hW1];have:=World.alloc_heap_new (w.alloc (.deferred (some []))) (.loop (rec .ready none));rwa [World.size_alloc] at this
 have hK1:W1.heap[w.heap.size]? = some (.deferred (some [])):=by
  rw[<- hW1];exact(Below.heap_alloc _ _ _ (by simp)).trans (World.alloc_heap_new w _)
 have hTn:∀C,Turned C w W1:=fun C=>by rw[<- hW1];exact((Turned.refl C w).alloc _).alloc _
 have hCn:∀r,C r->r≠w.heap.size/\r≠w.heap.size+1:=fun r hr=>by have:=hSC r (.inr hr);omega
 refine⟨w.heap.size+1,[{ target:=.collected w.heap.size,args:=#[] }],W1,{ target:=.fn (.func gf) lb,args:=#[.func (.yield (w.heap.size+1)) #[] #[]] },W1,gf,
  #[.func (.yield (w.heap.size+1)) #[] #[]]++lb,W1,?_,?_,?_,?_,(fun h=>by cases h),?_⟩
 ·rw[<- hW1,hrec];exact run_enterLoop_outer _ _ _ _ _
 ·simp only[resolve,hg];simp[go_sem]
 ·intro f' _;trivial
 ·simp[invoke,go_sem,eg]
 ·refine(hit (w.heap.size+1)
   (fun k N W=>I k N W/\W.heap[w.heap.size+1]? = some (.loop (rec .ready none))/\W.heap[w.heap.size]? = some (.deferred (some []))/\w.heap.size+2<=W.heap.size)
   (fun W=>∃c,Ix c W/\W.heap[w.heap.size+1]? = some (.loop (rec .done (some c)))/\W.heap[w.heap.size]? = some (.deferred (some []))/\w.heap.size+2<=W.heap.size)
   W1 (by omega) (fun k hk=>(hTn (fun _=>False)).block k (hSC k hk) id)
   (fun k N N' A hs hN=>⟨monoN k N N' A hs.1 hN,hs.2⟩)
   (fun k N A B hs hN ht=>⟨stab k N A B hs.1 hN (ht.mono fun _ h=>.inl h),(ht.block _ (by omega) (fun h=>(hCn _ h).2 rfl)).trans hs.2.1,(ht.block _ (by omega) (fun h=>(hCn _ h).1 rfl)).trans hs.2.2.1,by have:=ht.size;omega⟩)
   (fun A B hs ht=>by
    obtain⟨c,h1,h2,h3,h4⟩:=hs;exact⟨c,stabx c A B h1 (ht.mono fun _ h=>.inl h),(ht.block _ (by omega) (fun h=>(hCn _ h).2 rfl)).trans h2,(ht.block _ (by omega) (fun h=>(hCn _ h).1 rfl)).trans h3,by have:=ht.size;omega⟩)
   ?_ (fun he N A h=>hends he N A h.1) ⟨monoN _ _ _ _ (stab 0 _ w W1 h0 (Nat.le_refl _) (hTn _)) (by omega),hL1,hK1,by omega⟩).mono ?_
  ·rintro k N x W ⟨hi,hl,hk,hsz⟩ hN hx;have hy:=run_yield (P:=P) (args:=encs x) hl (by rw[hrec];exact hps x)
   rw[hrec] at hy;refine⟨fn,_,assign,body,hy,roundIn_of_wpIn hfn (wpIn_mono (by have:=hassign k N x W hx hi hN hsz;rw[<- htm x] at this;exact this) ?_)⟩
   rintro e a1 W2 hp;cases e with
   | normal =>
    obtain⟨hax,hkt⟩:=hp;have hl2:W2.heap[w.heap.size+1]? = some (.loop (rec .ready none)):=(hkt.block _ (.inr (.inr rfl))).trans hl;have hlt:w.heap.size+1 < W2.heap.size:=by have:=hkt.size;omega
    refine⟨_,run_beginRound hl2 (by rw[hrec]),?_⟩
    obtain⟨W3,hW3⟩ : ∃W3,W2.putObj (w.heap.size+1) (.loop { rec .ready none with state:=.busy })=W3:=⟨_,rfl⟩;rw[hW3];have ht3:Turned (fun r=>r=w.heap.size+1) W2 W3:=by rw[<- hW3];exact(Turned.refl (fun r=>r=w.heap.size+1) _).putObj rfl _
    have hl3:W3.heap[w.heap.size+1]? = some (.loop { rec .ready none with state:=.busy }):=by rw[<- hW3];exact World.putObj_heap_same hlt
    have hk3:W3.heap[w.heap.size]? = some (.deferred (some [])):=(ht3.block _ (by omega) (by omega)).trans ((hkt.block _ (.inr (.inl rfl))).trans hk)
    refine wpIn_mono (hbody k N W.heap.size x a1 W3 hx (stabA k N _ x a1 _ _ hax ht3) hN (by have:=hkt.size;have:=ht3.size;omega) (by have:=hkt.size;have:=ht3.size;omega) ⟨_,hl3⟩) ?_
    have fin:∀(jump:Option Code) (W4:World),Kept (fun k=>((S k\/C k)\/(N<=k/\k < W.heap.size))\/k=w.heap.size\/k=w.heap.size+1) W3 W4 ->
      (Instr.endRound (w.heap.size+1) jump).run P W4=.ok (.bool jump.isNone) (W4.putObj (w.heap.size+1) (.loop (rec (if jump.isNone then .ready else .done) jump))) /\
      (W4.putObj (w.heap.size+1) (.loop (rec (if jump.isNone then .ready else .done) jump))).heap[w.heap.size+1]? = some (.loop (rec (if jump.isNone then .ready else .done) jump)) /\
      (W4.putObj (w.heap.size+1) (.loop (rec (if jump.isNone then .ready else .done) jump))).heap[w.heap.size]? = some (.deferred (some [])) /\
      w.heap.size+2<=(W4.putObj (w.heap.size+1) (.loop (rec (if jump.isNone then .ready else .done) jump))).heap.size /\
      Turned (fun r=>C r\/r=w.heap.size\/r=w.heap.size+1) W4 (W4.putObj (w.heap.size+1) (.loop (rec (if jump.isNone then .ready else .done) jump))) /\
      (jump=none->Kept (fun k=>(S k\/C k)\/(N<=k/\k < W.heap.size)) W (W4.putObj (w.heap.size+1) (.loop (rec (if jump.isNone then .ready else .done) jump)))):=fun jump W4 hk4=>by
     have hl4:=(hk4.block _ (.inr (.inr rfl))).trans hl3;have hsz4:w.heap.size+2<=W4.heap.size:=by have:=hkt.size;have:=ht3.size;have:=hk4.size;omega
     have:=run_endRound (P:=P) jump hl4;rw[hrec] at this ⊢;refine⟨this,World.putObj_heap_same (by omega),(World.putObj_heap_other (by omega)).trans ((hk4.block _ (.inr (.inl rfl))).trans hk3),by simp;omega,(Turned.refl _ _).putObj (.inr (.inr rfl)) _,?_⟩
     intro hj;subst hj;refine⟨by have:=hkt.size;have:=ht3.size;have:=hk4.size;simp;omega,fun i hi=>?_⟩
     by_cases hil:i=w.heap.size+1
     ·subst hil;rw[World.putObj_heap_same (by omega),hl,hrec]
      rfl
     ·have hi2:i < W2.heap.size:=by
       have:=hkt.size;rcases hi with h | ⟨_,h⟩
       ·have:=hSC i h;omega
       ·omega
      exact(World.putObj_heap_other hil).trans ((hk4.block i (.inl hi)).trans ((ht3.block i hi2 hil).trans (hkt.block i (.inl hi))))
    rintro e a3 W4 hp;cases e with
    | normal =>
     obtain⟨h1,h2⟩:=hp;obtain⟨hr,f1,f2,f3,f4,f5⟩:=fin none W4 h1;exact⟨_,_,hr,.inl ⟨rfl,⟨monoN _ _ _ _ (stab _ _ _ _ h2 (Nat.le_refl _) f4) f4.size,f1,f2,f3⟩,f5 rfl⟩⟩
    | ret =>
     obtain⟨h1,h2⟩:=hp;obtain⟨hr,f1,f2,f3,f4,-⟩:=fin (some .ret) W4 h1;exact⟨_,_,hr,.inr ⟨rfl,.ret,stabx _ _ _ h2 f4,f1,f2,f3⟩⟩
    | exit id =>
     obtain⟨h1,h2⟩:=hp;obtain⟨hr,f1,f2,f3,f4,-⟩:=fin (some (.exit id)) W4 h1;exact⟨_,_,hr,.inr ⟨rfl,.exit id,stabx _ _ _ h2 f4,f1,f2,f3⟩⟩
    | goto t =>
     obtain⟨h1,h2⟩:=hp;obtain⟨hr,f1,f2,f3,f4,-⟩:=fin (some (.goto t)) W4 h1;exact⟨_,_,hr,.inr ⟨rfl,.goto t,stabx _ _ _ h2 f4,f1,f2,f3⟩⟩
    | panic ch=>exact hp.elim
    | outgrown=>exact hp.elim
   | ret=>exact hp.elim
   | exit id=>exact hp.elim
   | goto t=>exact hp.elim
   | panic ch=>exact hp.elim
   | outgrown=>exact hp.elim
  ·rintro e W2 ⟨⟨v,rfl⟩,(⟨hi,hl,hk,hsz⟩ | ⟨c,hi,hl,hk,hsz⟩)⟩
   ·refine⟨none,_,by have:=run_endLoop (P:=P) hl (by rw[hrec];simp);rw[hrec] at this;exact this,?_⟩
    have ht:Turned (fun r=>C r\/r=w.heap.size\/r=w.heap.size+1) W2 (W2.putObj (w.heap.size+1) (.loop { rec .ready none with state:=.exhausted })):=(Turned.refl _ _).putObj (.inr (.inr rfl)) _
    rw[hrec] at ht;exact hdone _ (monoN _ _ _ _ (stab _ _ _ _ hi (Nat.le_refl _) ht) ht.size) ((World.putObj_heap_other (by omega)).trans hk) (by simp;omega)
   ·refine⟨some c,_,by have:=run_endLoop (P:=P) hl (by rw[hrec];simp);rw[hrec] at this;exact this,?_⟩
    exact hstop c _ (stabx _ _ _ hi ((Turned.refl _ _).putObj (.inr (.inr rfl)) _)) ((World.putObj_heap_other (by omega)).trans hk) (by simp;omega)
theorem range_lawN{P:Program} {g:Operand} {ps:Array Tmp} {assign body:Code} {Q:Exit->Act->World->Prop} {a:Act} {w:World}
  {l₀:Nat} {r₀:Loop} (hl₀:w.heap[l₀]? = some (.loop r₀)) {gf:Nat} {lb:Array Value} (hg:a.eval g=.func (.func gf) #[] lb) (eg:∀args w,(callFunc gf args).run P w=.ok (.enter gf args) w)
  {α:Type} {encs:α->Array Value} {xs:List α} {C S:Nat->Prop} {ends:Prop} (hit:IterE ends P gf lb encs xs C S w) (hps:∀x,(encs x).size=ps.size)
  (hSC:∀k,S k\/C k->k < w.heap.size)
  (I:Nat->Nat->World->Prop) (Ix:Code->World->Prop)
  (monoN:∀k N N' A,I k N A->N<=N'->I k N' A)
  (stab:∀k N A B,I k N A->N<=A.heap.size->Turned (fun r=>C r\/r=w.heap.size) A B->I k N B)
  (stabx:∀c A B,Ix c A->Turned (fun r=>C r\/r=w.heap.size) A B->Ix c B)
  (hends:¬ends->∀N A,¬I xs.length N A) (h0:I 0 w.heap.size w) (tm:α->Array Value) (htm:∀x,(ps.zip (encs x)).foldl (fun t (p,v)=>t.setIfInBounds p v) a.tmps=tm x) (Ax:Nat->Nat->Nat->α->Act->World->Prop)
  (stabA:∀k N M x a' A B,Ax k N M x a' A->Turned (fun r=>r=w.heap.size) A B->Ax k N M x a' B)
  (hassign:∀k N x W,xs[k]? = some x->I k N W->N<=W.heap.size->w.heap.size+1<=W.heap.size ->
   assign.wpIn (Fence.wide.inRound w.heap.size) 0 P (Exit.then (fun a₁ W₁=>Ax k N W.heap.size x a₁ W₁/\Kept (fun k=>((S k\/C k)\/(N<=k/\k < W.heap.size))\/k=w.heap.size) W W₁) (fun _ _ _=>False)) { tmps:=tm x,defers:=[] } W)
  (hbody:∀k N M x a₁ W,xs[k]? = some x->Ax k N M x a₁ W->N<=M->M<=W.heap.size->w.heap.size+1<=W.heap.size->(∃r,W.heap[w.heap.size]? = some (.loop r)) ->
   body.wpIn (Fence.wide.inRound w.heap.size) 0 P (bodyLeft (fun k=>((S k\/C k)\/(N<=k/\k < M))\/k=w.heap.size) (fun W'=>I (k+1) W'.heap.size W') Ix W) a₁ W)
  (hdone:∀W,I xs.length W.heap.size W->w.heap.size+1<=W.heap.size->Q .normal a W)
  (hstop:∀c W,Ix c W->w.heap.size+1<=W.heap.size->c.wpIn (Fence.wide.inRound l₀) 0 P Q a W) :
  (Code.rangeFunc g ps assign body).wpIn (Fence.wide.inRound l₀) 0 P Q a w:=by
 refine wpIn_rangeFunc ?_;intro fn hfn;rw[show(Fence.wide.inRound l₀).round=some l₀ from rfl];obtain⟨rec,hrec⟩ : ∃rec:LoopState->Option Code->Loop,rec=fun st pe=>{ state:=st,pending:=pe,fn,tmps:=a.tmps,params:=ps,assign,body,defers:=r₀.defers }:=⟨_,rfl⟩
 obtain⟨W1,hW1⟩ : ∃W1,w.alloc (.loop (rec .ready none))=W1:=⟨_,rfl⟩;have hsz1:W1.heap.size=w.heap.size+1:=by rw[<- hW1];simp
 have hL1:W1.heap[w.heap.size]? = some (.loop (rec .ready none)):=by rw[<- hW1];exact World.alloc_heap_new w _
 have hTn:∀C,Turned C w W1:=fun C=>by rw[<- hW1];exact(Turned.refl C w).alloc _
 have hCn:∀r,C r->r≠w.heap.size:=fun r hr=>by have:=hSC r (.inr hr);omega
 refine⟨w.heap.size,[],W1,{ target:=.fn (.func gf) lb,args:=#[.func (.yield w.heap.size) #[] #[]] },W1,gf,
  #[.func (.yield w.heap.size) #[] #[]]++lb,W1,?_,?_,?_,?_,(fun h=>by cases h),?_⟩
 ·rw[<- hW1,hrec];exact run_enterLoop_inner hl₀ _ _ _ _ _
 ·simp only[resolve,hg];simp[go_sem]
 ·intro f' _;trivial
 ·simp[invoke,go_sem,eg]
 ·refine(hit w.heap.size
   (fun k N W=>I k N W/\W.heap[w.heap.size]? = some (.loop (rec .ready none))/\w.heap.size+1<=W.heap.size)
   (fun W=>∃c,Ix c W/\W.heap[w.heap.size]? = some (.loop (rec .done (some c)))/\w.heap.size+1<=W.heap.size)
   W1 (by omega) (fun k hk=>(hTn (fun _=>False)).block k (hSC k hk) id)
   (fun k N N' A hs hN=>⟨monoN k N N' A hs.1 hN,hs.2⟩)
   (fun k N A B hs hN ht=>⟨stab k N A B hs.1 hN (ht.mono fun _ h=>.inl h),(ht.block _ (by omega) (fun h=>hCn _ h rfl)).trans hs.2.1,by have:=ht.size;omega⟩)
   (fun A B hs ht=>by
    obtain⟨c,h1,h2,h4⟩:=hs;exact⟨c,stabx c A B h1 (ht.mono fun _ h=>.inl h),(ht.block _ (by omega) (fun h=>hCn _ h rfl)).trans h2,by have:=ht.size;omega⟩)
   ?_ (fun he N A h=>hends he N A h.1) ⟨monoN _ _ _ _ (stab 0 _ w W1 h0 (Nat.le_refl _) (hTn _)) (by omega),hL1,by omega⟩).mono ?_
  ·rintro k N x W ⟨hi,hl,hsz⟩ hN hx;have hy:=run_yield (P:=P) (args:=encs x) hl (by rw[hrec];exact hps x)
   rw[hrec] at hy;refine⟨fn,_,assign,body,hy,roundIn_of_wpIn hfn (wpIn_mono (by have:=hassign k N x W hx hi hN hsz;rw[<- htm x] at this;exact this) ?_)⟩
   rintro e a1 W2 hp;cases e with
   | normal =>
    obtain⟨hax,hkt⟩:=hp;have hl2:W2.heap[w.heap.size]? = some (.loop (rec .ready none)):=(hkt.block _ (.inr rfl)).trans hl;have hlt:w.heap.size < W2.heap.size:=by have:=hkt.size;omega
    refine⟨_,run_beginRound hl2 (by rw[hrec]),?_⟩
    obtain⟨W3,hW3⟩ : ∃W3,W2.putObj w.heap.size (.loop { rec .ready none with state:=.busy })=W3:=⟨_,rfl⟩;rw[hW3];have ht3:Turned (fun r=>r=w.heap.size) W2 W3:=by rw[<- hW3];exact(Turned.refl (fun r=>r=w.heap.size) _).putObj rfl _
    have hl3:W3.heap[w.heap.size]? = some (.loop { rec .ready none with state:=.busy }):=by rw[<- hW3];exact World.putObj_heap_same hlt
    refine wpIn_mono (hbody k N W.heap.size x a1 W3 hx (stabA k N _ x a1 _ _ hax ht3) hN (by have:=hkt.size;have:=ht3.size;omega) (by have:=hkt.size;have:=ht3.size;omega) ⟨_,hl3⟩) ?_
    have fin:∀(jump:Option Code) (W4:World),Kept (fun k=>((S k\/C k)\/(N<=k/\k < W.heap.size))\/k=w.heap.size) W3 W4 ->
      (Instr.endRound w.heap.size jump).run P W4=.ok (.bool jump.isNone) (W4.putObj w.heap.size (.loop (rec (if jump.isNone then .ready else .done) jump))) /\
      (W4.putObj w.heap.size (.loop (rec (if jump.isNone then .ready else .done) jump))).heap[w.heap.size]? = some (.loop (rec (if jump.isNone then .ready else .done) jump)) /\
      w.heap.size+1<=(W4.putObj w.heap.size (.loop (rec (if jump.isNone then .ready else .done) jump))).heap.size /\
      Turned (fun r=>C r\/r=w.heap.size) W4 (W4.putObj w.heap.size (.loop (rec (if jump.isNone then .ready else .done) jump))) /\
      (jump=none->Kept (fun k=>(S k\/C k)\/(N<=k/\k < W.heap.size)) W (W4.putObj w.heap.size (.loop (rec (if jump.isNone then .ready else .done) jump)))):=fun jump W4 hk4=>by
     have hl4:=(hk4.block _ (.inr rfl)).trans hl3;have hsz4:w.heap.size+1<=W4.heap.size:=by have:=hkt.size;have:=ht3.size;have:=hk4.size;omega
     have:=run_endRound (P:=P) jump hl4;rw[hrec] at this ⊢;refine⟨this,World.putObj_heap_same (by omega),by simp;omega,(Turned.refl _ _).putObj (.inr rfl) _,?_⟩
     intro hj;subst hj;refine⟨by have:=hkt.size;have:=ht3.size;have:=hk4.size;simp;omega,fun i hi=>?_⟩
     by_cases hil:i=w.heap.size
     ·subst hil;rw[World.putObj_heap_same (by omega),hl,hrec]
      rfl
     ·have hi2:i < W2.heap.size:=by
       have:=hkt.size;rcases hi with h | ⟨_,h⟩
       ·have:=hSC i h;omega
       ·omega
      exact(World.putObj_heap_other hil).trans ((hk4.block i (.inl hi)).trans ((ht3.block i hi2 hil).trans (hkt.block i (.inl hi))))
    rintro e a3 W4 hp;cases e with
    | normal =>
     obtain⟨h1,h2⟩:=hp;obtain⟨hr,f1,f3,f4,f5⟩:=fin none W4 h1;exact⟨_,_,hr,.inl ⟨rfl,⟨monoN _ _ _ _ (stab _ _ _ _ h2 (Nat.le_refl _) f4) f4.size,f1,f3⟩,f5 rfl⟩⟩
    | ret =>
     obtain⟨h1,h2⟩:=hp;obtain⟨hr,f1,f3,f4,-⟩:=fin (some .ret) W4 h1;exact⟨_,_,hr,.inr ⟨rfl,.ret,stabx _ _ _ h2 f4,f1,f3⟩⟩
    | exit id =>
     obtain⟨h1,h2⟩:=hp;obtain⟨hr,f1,f3,f4,-⟩:=fin (some (.exit id)) W4 h1;exact⟨_,_,hr,.inr ⟨rfl,.exit id,stabx _ _ _ h2 f4,f1,f3⟩⟩
    | goto t =>
     obtain⟨h1,h2⟩:=hp;obtain⟨hr,f1,f3,f4,-⟩:=fin (some (.goto t)) W4 h1;exact⟨_,_,hr,.inr ⟨rfl,.goto t,stabx _ _ _ h2 f4,f1,f3⟩⟩
    | panic ch=>exact hp.elim
    | outgrown=>exact hp.elim
   | ret=>exact hp.elim
   | exit id=>exact hp.elim
   | goto t=>exact hp.elim
   | panic ch=>exact hp.elim
   | outgrown=>exact hp.elim
  ·rintro e W2 ⟨⟨v,rfl⟩,(⟨hi,hl,hsz⟩ | ⟨c,hi,hl,hsz⟩)⟩
   ·refine⟨none,_,by have:=run_endLoop (P:=P) hl (by rw[hrec];simp);rw[hrec] at this;exact this,?_⟩
    have ht:Turned (fun r=>C r\/r=w.heap.size) W2 (W2.putObj w.heap.size (.loop { rec .ready none with state:=.exhausted })):=(Turned.refl _ _).putObj (.inr rfl) _
    rw[hrec] at ht;exact hdone _ (monoN _ _ _ _ (stab _ _ _ _ hi (Nat.le_refl _) ht) ht.size) (by simp;omega)
   ·refine⟨some c,_,by have:=run_endLoop (P:=P) hl (by rw[hrec];simp);rw[hrec] at this;exact this,?_⟩
    exact hstop c _ (stabx _ _ _ hi ((Turned.refl _ _).putObj (.inr rfl) _)) (by simp;omega)
end Go.Proofs.YtanhhdndgkhcfaaGreatDoor
