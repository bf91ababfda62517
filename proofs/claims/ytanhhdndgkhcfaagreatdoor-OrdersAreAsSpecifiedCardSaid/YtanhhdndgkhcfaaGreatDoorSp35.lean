/- Part 35 of the proof of lawSpec.card: OrdRefF. Conditions: those of each theorem. -/
import Derived.Test.YtanhhdndgkhcfaaGreatDoorSp01
import Derived.Test.YtanhhdndgkhcfaaGreatDoorSp21
import Derived.Test.YtanhhdndgkhcfaaGreatDoorSp32
import Derived.Test.YtanhhdndgkhcfaaGreatDoorSp34
set_option maxRecDepth 20000
set_option maxHeartbeats 8000000
namespace Go.Proofs.YtanhhdndgkhcfaaGreatDoor
open Go Go.Proofs Go.RowKit
attribute [local go_sem] Oper.semAt_some
attribute [local go_sem ↓] run_eql_rat' run_neq_rat'
theorem app_rats(W:World) {ops:Array Oper} {rest:List Oper} {o:Oper} {a:Act} {Q:Exit->Act->World->Prop} (hg:o.guard=none) (so xo:Operand) (hop:o.op=Op.call { callee:=Callee.builtin Builtin.append,args:=#[so,xo],argTypes:=#[23,23] })
  (base N n m:Nat) (v:Value) (L M:List Rv) (q:Option Addr) (d:Nat) (hn:M.length=n) (hnm:(L++M).length=m) (hs:a.eval so=v) (hx:a.eval xo=.slice q n d) (hown:Grown W base 68 3 ratCells v L) (hm:At N W 3 ratCells M q d) (hb:base<=W.heap.size) (hl:m<=100000)
  (hK:∀p c w',Grown w' base 68 3 ratCells (.slice p m c) (L++M)->Turned (fun g=>base<=g) W w'->wpList Tryz.prog ops Q rest (a.put o.dst (.slice p m c)) w') :
  wpList Tryz.prog ops Q (o::rest) a W:=by
 subst hn;subst hnm;rw[List.length_append] at hl;obtain⟨i0,hif,hz0,hz1,hz2⟩:=info_parts infoRat;cases hM:M with
 | nil =>
  rw[hM] at hx hK;obtain⟨p,c,hv,hc⟩:=hown.capped;have hrun:=run_append_zero (P:=Tryz.prog) W 23 o.type 68 i0 Tryz.underlying23 hif p L.length c hc q d;have hk:=hK p c W (by rw[List.append_nil,<- hv];exact hown) (Turned.refl _ _)
  rw[List.append_nil] at hk;rw[hv] at hs;refine wpList_plain hg fun K hK'=>?_
  unfold Oper.wp;simp[execOp,hop,resolve,invoke,builtin,hs,hx,hrun,Result.andThen];exact hK' _ _ hk
 | cons x M' =>
  obtain⟨b,f,rfl,-,-⟩:=hm.cel 0 x (by rw[hM];rfl)
  have hlM:(M.flatMap ratCells).length=M.length*3:=flat_len ratCells 3 (fun _=>rfl) M
  have hmul:(L.length+M.length)*40<=100000*40:=Nat.mul_le_mul_right 40 hl;refine wpList_append_exact W hg so xo 23 hop base 68 i0 (ratV zeroR) 3 40 Tryz.underlying23 hif hz0 hz1 hz2 rfl (by decide) v L.length (L.flatMap ratCells) hs hown ⟨b,f,none⟩ M.length d (M.flatMap ratCells) hx hlM (fun j u hj=>?_) (fun u hu=>?_) (by unfold maxLen;omega) (by omega) hb fun v' w' hown' hgrow hex=>?_
  ·have hlt:j < M.length*3:=by rw[<- hlM];exact(List.getElem?_eq_some_iff.1 hj).1
   have hi:j / 3 < M.length:=by omega
   have h2:=flatMap_at ratCells 3 (fun _=>rfl) M (j / 3) (j % 3) hi (by omega)
   rw[show j / 3*3+j % 3=j by omega,hj] at h2
   obtain⟨b',f',e,-,h3⟩:=hm.cel (j / 3) _ (List.getElem?_eq_getElem hi);cases e
   have h4:=h3 (j % 3) u h2.symm;rw[show j / 3*3+j % 3=j by omega] at h4
   rwa [Addr.add_lit]
  ·obtain⟨y,-,hy⟩:=List.mem_flatMap.1 hu;simp at hy;rcases hy with rfl | rfl | rfl <;> rfl
  ·have hg2:Grown w' base 68 3 ratCells v' (L++M):=by
    unfold Grown;rw[List.length_append,List.flatMap_append];exact hown'
   obtain⟨p,c,rfl⟩:=hg2.shape;exact hK p c w' hg2 (Turned.of_grown hgrow fun k hk=>(ownsRow_block hown k hk).1)
theorem At.ratset{W:World} {N g c k:Nat} {l:List Rv} (h:At N W 3 ratCells l (some ⟨g,0,none⟩) c) (hlt:k < l.length) (u:Rv) :
  At N (((W.setCell ⟨g,k*3,none⟩ (.bool u.neg)).setCell ⟨g,k*3+1,none⟩ (.string u.num)).setCell ⟨g,k*3+2,none⟩ (.string u.den)) 3 ratCells (l.set k u) (some ⟨g,0,none⟩) c:=by
 refine⟨by rw[List.length_set];exact h.cap,h.mx,fun i x hi=>?_⟩
 have hil:i < l.length:=by
  have:=(List.getElem?_eq_some_iff.1 hi).1;rwa [List.length_set] at this
 obtain⟨b,a,e,hb,hc⟩:=h.cel i _ (List.getElem?_eq_getElem hil);cases e
 refine⟨g,0,rfl,hb,fun j v hj=>?_⟩
 have hj3:j < 3:=by have:=(List.getElem?_eq_some_iff.1 hj).1;simpa using this
 have hold:∀m v,(ratCells l[i])[m]? = some v->W.cell? ⟨g,0+(i*3+m),none⟩=some v:=fun m v=>hc m v
 by_cases hik:i=k
 ·subst hik;rw[List.getElem?_set_self hlt] at hi;cases hi
  have h0:=hold 0 _ rfl;have h1:=hold 1 _ rfl;have h2:=hold 2 _ rfl;rw[Nat.zero_add] at h0 h1 h2 ⊢
  match j,hj3,hj with
  | 0,_,hj =>
   cases hj
   rw[cell_off _ _ (by omega),cell_off _ _ (by omega)]
   exact cell_same _ _ h0
  | 1,_,hj =>
   cases hj
   rw[cell_off _ _ (by omega)]
   exact cell_same _ _ (by rw[cell_off _ _ (by omega)];exact h1)
  | 2,_,hj =>
   cases hj
   exact cell_same _ _ (by rw[cell_off _ _ (by omega),cell_off _ _ (by omega)];exact h2)
 ·rw[List.getElem?_set_ne (Ne.symm hik),List.getElem?_eq_getElem hil] at hi;cases hi
  rw[cell_off _ _ (by omega),cell_off _ _ (by omega),cell_off _ _ (by omega)]
  exact hold j v hj
theorem lWith_any(us:List Rv) (up:Option Addr) (uc g:Nat) (v:Rv) (W:World) (hu:At W.heap.size W 3 ratCells us up uc) (hg:g < us.length) (h8:us.length<=8) :
  Calls Tryz.prog 48 #[.slice up us.length uc,.int .i64 g,ratV v] W fun e w'=>∃q c,e=.returned (.slice q us.length c)/\At w'.heap.size w' 3 ratCells (us.set g v) q c/\Turned (fun _=>False) W w':=by
 obtain⟨n,hn⟩ : ∃n,us.length=n:=⟨_,rfl⟩;have HN:=zh hn;have HU:=zh hu;rw[hn] at hg h8 ⊢;have hn8:(n:Int)<=8:=by omega
 have hg0:(0:Int)<=g:=by omega
 have hg1:(g:Int) < n:=by omega
 obtain⟨vn,vx,vd⟩:=v;obtain⟨⟨zn,zx,zd⟩,hz⟩ : ∃u,us[g]? = some u:=⟨_,List.getElem?_eq_getElem (by rw[hn];exact hg)⟩
 have HZ:=zh hz;clear hn hu hz;have T0:=zh (((zr W).alloc (.cells #[.bool vn,.string vx,.string vd] 68)).alloc (.cells #[] 68));have n0:=zh (new_first W (.cells #[.bool vn,.string vx,.string vd] 68) (.cells #[] 68));have n1:=zh (new_second W (.cells #[.bool vn,.string vx,.string vd] 68) (.cells #[] 68));have z0:=zh (show((W.alloc (.cells #[.bool vn,.string vx,.string vd] 68)).alloc (.cells #[] 68)).heap.size=W.heap.size+2 by simp)
 go_enter Tryz.func48,Tryz.ntmps48
 go_upto_region 2 with(at_builtin;(refine app_rats _ rfl _ _ rfl (W.heap.size+1) W.heap.size n n (.slice (some ⟨W.heap.size+1,0,none⟩) 0 0) [] us _ _ HN.out (by rw[List.nil_append];exact HN.out) rfl rfl (Grown.hollow n1.out (Nat.le_refl _)) (HU.out.turned T0.out) (by rw[z0.out];omega) (by omega) ?_);intro q c w1 hgr ht;have HS:=zh (And.intro hgr ht);clear hgr ht)
 have HG:Hid (Grown w1 (W.heap.size+1) 68 3 ratCells (.slice q n c) us):=zh HS.out.1;obtain⟨g0,hq,hgb,hfz⟩:=HG.out.tip (by omega)
 have hat:=HG.out.at' (fun _=>rfl) (Nat.le_refl _)
 rw[hq] at hat;have HAT:=zh hat;obtain⟨b',a',he,-,f0,f1,f2⟩:=hat.rats HZ.out;cases he
 rw[Nat.zero_add] at f0 f1 f2;have f3:=hfz (g*3);have f4:=hfz (g*3+1);have f5:=hfz (g*3+2);have HQ:=zh hq;have hb0:=(HS.out.2.block W.heap.size (by rw[z0.out];omega) (by omega)).trans n0.out
 obtain⟨d0,d1,d2,-,-,-⟩:=box3 hb0;have HGB:=zh hgb;have HT1:=zh (T0.out.fresh HS.out.2 fun k hk=>(by omega:W.heap.size<=k))
 clear hat hfz hb0 hgb HS HG;subst hq;go_wp2_with fail;go_ret;have ht:Turned (fun k=>k=g0) w1 (((w1.setCell ⟨g0,g*3,none⟩ (.bool vn)).setCell ⟨g0,g*3+1,none⟩ (.string vx)).setCell ⟨g0,g*3+2,none⟩ (.string vd)):=(((Turned.refl (fun k=>k=g0) w1).setCell (p:=⟨g0,g*3,none⟩) rfl _).setCell (p:=⟨g0,g*3+1,none⟩) rfl _).setCell (p:=⟨g0,g*3+2,none⟩) rfl _
 have hs:=HAT.out.ratset (k:=g) (by rw[HN.out];omega) ⟨vn,vx,vd⟩
 exact⟨_,c,rfl,hs.mono ht.size,HT1.out.fresh ht fun k hk=>by have:=HGB.out;omega⟩
section
variable {rs:List Rc} {lo hi:List Rv} {cs:List Cl} {rp lp hp cp:Option Addr} {rc lc hc cc:Nat} {W:World}
theorem results_lMatters(tmps:Array Value) (w:World) (g:Nat) (a b:Value) (hp:tmps.getD 6 undef=.pointer (some ⟨g,0,none⟩)) (hg:w.heap[g]? = some (.cells #[a,b] 48 (0,0))) :
  (results Tryz.f18 tmps).run Tryz.prog w=.ok (.agg #[a,b]) w :=
 results_cell_row (fn:=Tryz.f18) rfl tmps w g 48 #[a,b] (0,0) _ hp hg Tryz.underlying48 rfl (by kernel_rfl)
theorem lMatters_bad(h:OIn W rs lo hi cs rp lp hp cp rc lc hc cc) {ev:Int} (he:ordE rs lo hi cs=ev) (h0:ev≠0) (k:Int) :
  Calls Tryz.prog 18 #[.agg #[.slice rp rs.length rc,.slice lp lo.length lc,.slice hp hi.length hc],.slice cp cs.length cc,.int .i64 k] W fun e w'=>e=.returned (.agg #[.slice none 0 0,.int .i64 ev])/\Turned (fun _=>False) W w':=by
 have HC:=zh (fun A (hA:Turned (fun _=>False) W A)=>lLimits_bad (h.on hA) he h0)
 obtain⟨nr,hnr⟩ : ∃n,rs.length=n:=⟨_,rfl⟩;obtain⟨nl,hnl⟩ : ∃n,lo.length=n:=⟨_,rfl⟩;obtain⟨nh,hnh⟩ : ∃n,hi.length=n:=⟨_,rfl⟩;obtain⟨nc,hnc⟩ : ∃n,cs.length=n:=⟨_,rfl⟩;rw[hnr,hnl,hnh,hnc] at HC ⊢;have g2:(ev == 0)=false:=by simpa using h0
 have g3:(ev != 0)=true:=by simpa using h0
 have T0:=zh (((zr W).alloc (.cells #[.slice rp nr rc,.slice lp nl lc,.slice hp nh hc] 25 (0,0))).alloc (.cells #[.slice none 0 0,.int .i64 0] 48 (0,0)));have n1:=zh (new_second W (.cells #[.slice rp nr rc,.slice lp nl lc,.slice hp nh hc] 25 (0,0)) (.cells #[.slice none 0 0,.int .i64 0] 48 (0,0)));clear h he h0 hnr hnl hnh hnc;go_enter Tryz.func18,Tryz.ntmps18;go_wp2_with fail;refine(HC.out _ T0.out).mono ?_;rintro e w1 ⟨rfl,t1⟩;have HT1:=zh ((T0.out.trans t1).alloc (.cells #[.slice none 0 0,.slice none 0 0,.int .i64 ev] 37 (0,0)));have HB:=zh (keepB ((zr w1).alloc (.cells #[.slice none 0 0,.slice none 0 0,.int .i64 ev] 37 (0,0))) (keepB t1 n1.out));obtain⟨y0,y1,y2,y3⟩:=box2' HB.out;clear t1;go_wp2_with fail;have HK:=set2' HB.out (.slice none 0 0) (.int .i64 ev);refine bodyPost_ret (results_lMatters _ _ (W.heap.size+1) _ _ rfl HK.1) rfl ?_;exact⟨rfl,HT1.out.fresh HK.2 fun g hg=>by omega⟩
theorem lMatters_none(h:OIn W rs lo hi cs rp lp hp cp rc lc hc cc) (he:ordE rs lo hi cs=0) (hn8:rs.length<=8) (hm12:cs.length<=12) (k:Int) (hk:k < 0\/(cs.length:Int)<=k) :
  Calls Tryz.prog 18 #[.agg #[.slice rp rs.length rc,.slice lp lo.length lc,.slice hp hi.length hc],.slice cp cs.length cc,.int .i64 k] W fun e w'=>e=.returned (.agg #[.slice none 0 0,.int .i64 8])/\Turned (fun _=>False) W w':=by
 have HC:=zh (fun A (hA:Turned (fun _=>False) W A)=>lLimits_ok (h.on hA) he hn8 hm12)
 obtain⟨nr,hnr⟩ : ∃n,rs.length=n:=⟨_,rfl⟩;obtain⟨nl,hnl⟩ : ∃n,lo.length=n:=⟨_,rfl⟩;obtain⟨nh,hnh⟩ : ∃n,hi.length=n:=⟨_,rfl⟩;obtain⟨nc,hnc⟩ : ∃n,cs.length=n:=⟨_,rfl⟩;rw[hnr,hnl,hnh,hnc] at HC ⊢;rw[hnc] at hk;have T0:=zh (((zr W).alloc (.cells #[.slice rp nr rc,.slice lp nl lc,.slice hp nh hc] 25 (0,0))).alloc (.cells #[.slice none 0 0,.int .i64 0] 48 (0,0)));have n1:=zh (new_second W (.cells #[.slice rp nr rc,.slice lp nl lc,.slice hp nh hc] 25 (0,0)) (.cells #[.slice none 0 0,.int .i64 0] 48 (0,0)));clear h he hn8 hm12 hnr hnl hnh hnc;go_enter Tryz.func18,Tryz.ntmps18;go_wp2_with fail;refine(HC.out _ T0.out).mono ?_;rintro e w1 ⟨p1,c1,p2,c2,rfl,-,-,-,-,t1⟩;have HT1:=zh ((T0.out.trans t1).alloc (.cells #[.slice p1 nc c1,.slice p2 nc c2,.int .i64 0] 37 (0,0)));have HB:=zh (keepB ((zr w1).alloc (.cells #[.slice p1 nc c1,.slice p2 nc c2,.int .i64 0] 37 (0,0))) (keepB t1 n1.out));obtain⟨y0,y1,y2,y3⟩:=box2' HB.out;clear t1;have HK:=zh (set2' HB.out (.slice none 0 0) (.int .i64 8));by_cases h1:k < 0
 ·clear hk;go_wp2_with fail;refine bodyPost_ret (results_lMatters _ _ (W.heap.size+1) _ _ rfl HK.out.1) rfl ?_;exact⟨rfl,HT1.out.fresh HK.out.2 fun g hg=>by omega⟩
 ·have h2:(nc:Int)<=k:=by omega
  clear hk;go_wp2_with fail;refine bodyPost_ret (results_lMatters _ _ (W.heap.size+1) _ _ rfl HK.out.1) rfl ?_;exact⟨rfl,HT1.out.fresh HK.out.2 fun g hg=>by omega⟩
end
end Go.Proofs.YtanhhdndgkhcfaaGreatDoor
