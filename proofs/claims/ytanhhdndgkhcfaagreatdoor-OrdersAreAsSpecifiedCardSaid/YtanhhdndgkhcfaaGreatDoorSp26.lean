/- Part 26 of the proof of lawSpec.card: SupRefG. Conditions: those of each theorem. -/
import Derived.Test.YtanhhdndgkhcfaaGreatDoorSp01
import Derived.Test.YtanhhdndgkhcfaaGreatDoorSp24
import Derived.Test.YtanhhdndgkhcfaaGreatDoorSp25
set_option maxRecDepth 20000
set_option maxHeartbeats 4000000
namespace Go.Proofs.YtanhhdndgkhcfaaGreatDoor
open Go Go.Proofs Go.RowKit
attribute [local go_sem] Oper.semAt_some
attribute [local go_sem ↓] run_eql_rat' run_neq_rat' run_field_made5
structure Quad (W w:World) (o:Obj) (p:Rv) (B:Nat) (u:Rv):Prop where
 b0:w.heap[W.heap.size]? = some o
 b1:w.heap[W.heap.size+1]? = some (.cells #[.bool p.neg,.string p.num,.string p.den] 68 (0,0))
 b2:w.heap[W.heap.size+1+1]? = some (.cells #[.bool false,.string ⟨#[]⟩,.string ⟨#[]⟩] 68 (0,0))
 b3:w.heap[B]? = some (.cells #[.bool u.neg,.string u.num,.string u.den] 68 (0,0))
 hB:W.heap.size+1+1 < B
 t:Turned (fun _=>False) W w
section
variable {W w V:World} {o:Obj} {p:Rv} {B C:Nat} {u:Rv}
theorem Quad.call(h:Quad W w o p B u) (t:Turned (fun _=>False) w V):Quad W V o p B u:=⟨keepB t h.b0,keepB t h.b1,keepB t h.b2,keepB t h.b3,h.hB,h.t.trans t⟩
theorem Quad.put(h:Quad W w o p B u) (v:Rv):Quad W (((w.setCell ⟨B,0,none⟩ (.bool v.neg)).setCell ⟨B,1,none⟩ (.string v.num)).setCell ⟨B,2,none⟩ (.string v.den)) o p B v:=by
 obtain⟨k1,k2⟩:=set3 h.b3 (.bool v.neg) (.string v.num) (.string v.den);have hB:=h.hB;exact⟨(k2.block _ (getElem?_lt h.b0) (by omega)).trans h.b0,(k2.block _ (getElem?_lt h.b1) (by omega)).trans h.b1,(k2.block _ (getElem?_lt h.b2) (by omega)).trans h.b2,k1,h.hB,h.t.fresh k2 fun g hg=>by omega⟩
theorem Quad.other(h:Quad W w o p B u) (hC:B < C) {q:Rv} (hq:w.heap[C]? = some (.cells #[.bool q.neg,.string q.num,.string q.den] 68 (0,0))) (v:Rv) :
  Quad W (((w.setCell ⟨C,0,none⟩ (.bool v.neg)).setCell ⟨C,1,none⟩ (.string v.num)).setCell ⟨C,2,none⟩ (.string v.den)) o p B u /\
  (((w.setCell ⟨C,0,none⟩ (.bool v.neg)).setCell ⟨C,1,none⟩ (.string v.num)).setCell ⟨C,2,none⟩ (.string v.den)).heap[C]? = some (.cells #[.bool v.neg,.string v.num,.string v.den] 68 (0,0)):=by
 obtain⟨k1,k2⟩:=set3 hq (.bool v.neg) (.string v.num) (.string v.den);have hB:=h.hB;exact⟨⟨(k2.block _ (getElem?_lt h.b0) (by omega)).trans h.b0,(k2.block _ (getElem?_lt h.b1) (by omega)).trans h.b1,(k2.block _ (getElem?_lt h.b2) (by omega)).trans h.b2,(k2.block _ (getElem?_lt h.b3) (by omega)).trans h.b3,h.hB,h.t.fresh k2 fun g hg=>by omega⟩,k1⟩
end
theorem results_yReached(tmps:Array Value) (w:World) (g:Nat) (a b c:Value) (hp:tmps.getD 10 undef=.pointer (some ⟨g,0,none⟩)) (hg:w.heap[g]? = some (.cells #[a,b,c] 68 (0,0))) :
  (results Tryz.f107 tmps).run Tryz.prog w=.ok (.agg #[a,b,c]) w :=
 results_cell_row (fn:=Tryz.f107) rfl tmps w g 68 #[a,b,c] (0,0) _ hp hg Tryz.underlying68 rfl (by kernel_rfl)
theorem minQ_minR(a b:Rat):minQ a b=minR a b:=rfl
set_option linter.unusedSimpArgs false in
theorem yReached_any(rs:List Rc) (us:List Rv) (cs:List Cl) (rp gp cp tp bp:Option Addr) (rc gc cc tc bc:Nat) (t:Nat->Rat) (op:Nat->Bool) (part:Rat) (W:World) (hi:SIn W.heap.size W rs us cs rp gp cp rc gc cc) (ht:At W.heap.size W 3 ratCells (repL cs.length t) tp tc) (ho:At W.heap.size W 1 boolCells (bL cs.length op) bp bc) (hok:SOK rs us cs)
  (hsz:RestS (onN (rs.map (·.down))) rs.length cs.length (placeK cs) (gainQ us) t) (hsr:∀g,BytesQ (restQ (onN (rs.map (·.down))) rs.length cs.length (placeK cs) (gainQ us) t g) 6000000) (hsp:BytesQ part 6000000)
  (hsc:∀c,BytesQ (reachQ (onN (rs.map (·.down))) rs.length cs.length (placeK cs) (amtK cs) (gainQ us) t op part c) 6000000) :
  Calls Tryz.prog 107 #[.agg #[.slice rp rs.length rc,.slice gp us.length gc],.slice cp cs.length cc,.slice tp cs.length tc,.slice bp cs.length bc,ratV (repR part)] W fun e w' =>
   e=.returned (ratV (repR (reachQ (onN (rs.map (·.down))) rs.length cs.length (placeK cs) (amtK cs) (gainQ us) t op part rs.length)))/\Turned (fun _=>False) W w':=by
 have HR:=zh (fun(V:World) (hV:Turned (fun _=>False) W V) (g:Nat)=>yRest_any rs us cs rp gp cp tp rc gc cc tc g t V (hi.on hV) (ht.on hV) hok hsz)
 have HPL:=zh (fun(k:Nat) (u:Cl) (hu:cs[k]? = some u)=>(hok.place hu).1)
 have HAM:=zh (fun(k:Nat) (u:Cl) (hu:cs[k]? = some u)=>(show SzR u.amt 20/\qR u.amt=amtK cs k from⟨hok.sc u (List.mem_of_getElem? hu),by unfold amtK;rw[getD_of hu]⟩))
 have HAB:=zh (amtK_bytes hok.sc);have HB:=zh (fun(V:World) (hV:Turned (fun _=>False) W V) (g k:Nat) (u:Cl) (hu:cs[k]? = some u)=>yBelow_any rs rp rc W.heap.size g (placeK cs k) V (hi.riv.turned hV) hok.riv (hok.place hu).2)
 have HAT:=zh (And.intro hi.cl ho);have hlen:=hok.len;have hn8:=hok.n8;have hm12:=hok.m12;obtain⟨x,hx⟩ : ∃x,gainQ us=x:=⟨_,rfl⟩;rw[hx] at HR hsr hsc ⊢;rw[hlen] at HR ⊢;obtain⟨n,hn⟩ : ∃n,rs.length=n:=⟨_,rfl⟩;obtain⟨m,hm⟩ : ∃n,cs.length=n:=⟨_,rfl⟩;have HL:Hid (cs.length=m):=zh hm;rw[hn] at HB HR hn8 hsr hsc ⊢;rw[hm] at hm12 hsr hsc HR HAT ⊢;obtain⟨on,hon⟩ : ∃o,onN (rs.map (·.down))=o:=⟨_,rfl⟩;rw[hon] at hsr hsc HR HB ⊢;obtain⟨pl,hpl⟩ : ∃o,placeK cs=o:=⟨_,rfl⟩;rw[hpl] at hsr hsc HR HB HPL ⊢;obtain⟨a,ha⟩ : ∃o,amtK cs=o:=⟨_,rfl⟩;rw[ha] at hsc HAM HAB ⊢;obtain⟨rq,hrq⟩ : ∃q:Nat->Rat,(fun g=>restQ on n m pl x t g)=q:=⟨_,rfl⟩
 have HRQ:Hid (∀g,restQ on n m pl x t g=rq g):=zh fun g=>by rw[<- hrq]
 obtain⟨rc',hrc'⟩ : ∃q:Nat->Rat,(fun g=>reachQ on n m pl a x t op part g)=q:=⟨_,rfl⟩
 have HRC:Hid (∀g,reachQ on n m pl a x t op part g=rc' g):=zh fun g=>by rw[<- hrc']
 have HRS:=zh (fun g=>(show rc' (g+1)=if wantQ on m pl a op g=0 then rc' g else minR (rc' g) (part+rq g / wantQ on m pl a op g) from by rw[<- HRC.out,<- HRC.out,<- HRQ.out,<- minQ_minR];rfl))
 have HR0:Hid (rc' 0=1):=zh (by rw[<- HRC.out];rfl)
 have HR2:=zh (fun(V:World) (hV:Turned (fun _=>False) W V) (g:Nat)=>(show Calls _ _ _ _ fun e w'=>e=.returned (ratV (repR (rq g)))/\Turned (fun _=>False) V w' from by rw[<- HRQ.out g];exact HR.out V hV g))
 have HSR:Hid (∀g,BytesQ (rq g) 6000000):=zh fun g=>by rw[<- HRQ.out];exact hsr g
 have HSC:Hid (∀g,BytesQ (rc' g) 6000000):=zh fun g=>by rw[<- HRC.out];exact hsc g
 have HSP:=zh (SzR.rep hsp);have HPB:Hid (BytesQ (qR (repR part)) 6000000):=zh (by rw[qR_repR];exact hsp)
 have HQP:Hid (qR (repR part)=part):=zh (qR_repR part);have HWB:=zh (fun g k (hk:k<=12)=>(show BytesQ (sumQ k (onlyQ (fun k=>on g (pl k) && op k) a)) 300 from(sum_part HAB.out _ k).mono (by
  have:k*(20+2)<=12*22:=Nat.mul_le_mul_right _ hk;omega)))
 have HI1:=zh (fun V=>pInt_any 1 V (by decide))
 rw[HRC.out];obtain⟨⟨pn,px,pd⟩,hpp⟩ : ∃s,repR part=s:=⟨_,rfl⟩;rw[hpp] at HSP HQP HPB ⊢;have hmm:(m:Int)<=12:=by omega
 have hnn:(n:Int)<=8:=by omega
 obtain⟨n0,n1,n2⟩:=new3 W (.cells #[.slice rp n rc,.slice gp n gc] 65 (0,0)) (.cells #[.bool pn,.string px,.string pd] 68 (0,0)) (.cells #[.bool false,.string ⟨#[]⟩,.string ⟨#[]⟩] 68 (0,0));have T0:=(((zr W).alloc (.cells #[.slice rp n rc,.slice gp n gc] 65 (0,0))).alloc (.cells #[.bool pn,.string px,.string pd] 68 (0,0))).alloc (.cells #[.bool false,.string ⟨#[]⟩,.string ⟨#[]⟩] 68 (0,0));have z0:(((W.alloc (.cells #[.slice rp n rc,.slice gp n gc] 65 (0,0))).alloc (.cells #[.bool pn,.string px,.string pd] 68 (0,0))).alloc (.cells #[.bool false,.string ⟨#[]⟩,.string ⟨#[]⟩] 68 (0,0))).heap.size=W.heap.size+3:=by simp
 have HT0:=zh (And.intro n0 (And.intro n1 (And.intro n2 (And.intro T0 z0))));clear hi ht ho hok hsz HR hlen hn hm hx hon hpl ha hrq HRQ hrc' HRC hsr hsp hsc hpp n0 n1 n2 T0 z0;obtain⟨⟨zn,zx,zd⟩,hz⟩ : ∃s,repR (rc' 0)=s:=⟨_,rfl⟩;have HI2:Hid (∀V,Calls Tryz.prog 44 #[.int .i64 1] V fun e w'=>e=.returned (ratV ⟨zn,zx,zd⟩)/\Turned (fun _=>False) V w'):=zh fun V=>by
  rw[<- hz,HR0.out];exact HI1.out V
 have HZ:=zh hz;clear hz HI1;go_enter Tryz.func107,Tryz.ntmps107;go_wp2_with fail;refine(HI2.out _).mono ?_;rintro e w1 ⟨rfl,t1⟩;have HT1:Hid (Quad W (w1.alloc (.cells #[.bool zn,.string zx,.string zd] 68)) _ ⟨pn,px,pd⟩ w1.heap.size (repR (rc' 0))):=zh
  ⟨keepB ((zr w1).alloc _) (keepB t1 HT0.out.1),keepB ((zr w1).alloc _) (keepB t1 HT0.out.2.1),keepB ((zr w1).alloc _) (keepB t1 HT0.out.2.2.1),by rw[HZ.out];exact World.alloc_heap_new _ _,by have:=t1.size;have:=HT0.out.2.2.2.2;omega,(HT0.out.2.2.2.1.trans t1).alloc _⟩
 obtain⟨B,hB⟩ : ∃B,w1.heap.size=B:=⟨_,rfl⟩;rw[hB] at HT1;clear t1 HT0 HI2;go_wp2_with fail;clear hB
 go_loopw [12] (fun i wr=>∃g:Nat,g<=n/\i=(.int .i64 g)/\Hid (Quad W wr (.cells #[.slice rp n rc,.slice gp n gc] 65 (0,0)) ⟨pn,px,pd⟩ B (repR (rc' g)))) (fun i _=>n-(intOf i).toNat)
 case atStart=>exact⟨0,Nat.zero_le _,rfl,HT1⟩
 case round =>
  obtain⟨g,hg,rfl,HI⟩:=hrel;clear HT1 HZ;obtain⟨c0,c1⟩:=box2c HI.out.b0;by_cases hlt:g < n
  ·obtain⟨ck,hck⟩ : ∃c:Nat->Bool,(fun k=>on g (pl k) && op k)=c:=⟨_,rfl⟩
   have HCK:Hid (∀k,(on g (pl k) && op k)=ck k):=zh fun k=>by rw[<- hck]
   have HWQ:Hid (wantQ on m pl a op g=sumQ m (onlyQ ck a)):=zh (by rw[<- hck];rfl)
   have HWS:Hid (∀k,k<=m->BytesQ (sumQ k (onlyQ ck a)) 300):=zh fun k hk=>by rw[<- hck];exact HWB.out g k (by omega)
   have HRG:=zh (HRS.out g);rw[HWQ.out] at HRG;have HQ0:Hid (Quad W (wr.alloc (.cells #[.bool false,.string ⟨#[]⟩,.string ⟨#[]⟩] 68)) (.cells #[.slice rp n rc,.slice gp n gc] 65 (0,0)) ⟨pn,px,pd⟩ B (repR (rc' g))/\(wr.alloc (.cells #[.bool false,.string ⟨#[]⟩,.string ⟨#[]⟩] 68)).heap[wr.heap.size]? = some (.cells #[.bool (repR (sumQ 0 (onlyQ ck a))).neg,.string (repR (sumQ 0 (onlyQ ck a))).num,.string (repR (sumQ 0 (onlyQ ck a))).den] 68 (0,0))/\B < wr.heap.size) :=
    zh ⟨HI.out.call ((zr wr).alloc _),World.alloc_heap_new _ _,getElem?_lt HI.out.b3⟩
   obtain⟨C,hC⟩ : ∃C,wr.heap.size=C:=⟨_,rfl⟩;rw[hC] at HQ0;have hg0:(0:Int)<=g:=by omega
   have hg1:(g:Int) < n:=by omega
   clear hck;go_wp2_with fail;clear hC c0 c1
   go_loopw [14] (fun i wq=>∃k:Nat,k<=m/\i=(.int .i64 k)/\Hid (Quad W wq (.cells #[.slice rp n rc,.slice gp n gc] 65 (0,0)) ⟨pn,px,pd⟩ B (repR (rc' g))/\wq.heap[C]? = some (.cells #[.bool (repR (sumQ k (onlyQ ck a))).neg,.string (repR (sumQ k (onlyQ ck a))).num,.string (repR (sumQ k (onlyQ ck a))).den] 68 (0,0))/\B < C)) (fun i _=>m-(intOf i).toNat)
   case atStart=>exact⟨0,Nat.zero_le _,rfl,HQ0⟩
   case round =>
    obtain⟨k,hk,rfl,HJ⟩:=hrel;clear HQ0;obtain⟨c0,c1⟩:=box2c HJ.out.1.b0;by_cases hlk:k < m
    ·obtain⟨u,hu⟩ : ∃u,cs[k]? = some u:=⟨_,List.getElem?_eq_getElem (by rw[HL.out];exact hlk)⟩
     obtain⟨b,ca,rfl,-,e0,-,e1,e2,e3⟩:=(HAT.out.1.turned HJ.out.1.t).claims hu;rw[HPL.out k u hu] at e0;have HC2:=zh (fun V (hV:Turned (fun _=>False) W V)=>HB.out V hV g k u hu)
     have hamt:=HAM.out k u hu;obtain⟨⟨un,ux,ud⟩,hua⟩ : ∃s,u.amt=s:=⟨_,rfl⟩;rw[hua] at e1 e2 e3 hamt;obtain⟨ob,oa,rfl,-,o0⟩:=(HAT.out.2.turned HJ.out.1.t).bools (bL_get op hlk);have hck:=HCK.out k;obtain⟨cb,hcb⟩ : ∃cb,on g (pl k)=cb:=⟨_,rfl⟩;obtain⟨x,hx⟩ : ∃x,op k=x:=⟨_,rfl⟩;rw[hcb] at HC2;rw[hcb,hx] at hck;rw[hx] at o0;have HCB:=zh hck.symm;have hk0:(0:Int)<=k:=by omega
     have hk1:(k:Int) < m:=by omega
     clear hcb hu hx hck hua;cases cb
     ·have HST:Hid (sumQ (k+1) (onlyQ ck a)=sumQ k (onlyQ ck a)):=zh (sumQ_off (by rw[HCB.out,Bool.false_and]))
      go_upto_region 9 with fail
      go_quiet ((go_at_call 134;exact Calls.quiet_of_same (HC2.out _ (HJ.out.1.t.trans (drewN_turned _ _ _)))))
      have HJ2:=zh (And.intro (HJ.out.1.call (drewN_turned (fun _=>False) wr nq)) (And.intro (keepB (drewN_turned (fun _=>False) wr nq) HJ.out.2.1) HJ.out.2.2))
      go_wp2_with fail
      go_roundw
      case rel=>exact⟨k+1,by omega,by go_num,by rw[HST.out];exact HJ2⟩
      case measure=>simp[intOf];omega
     cases x
     ·have HST:Hid (sumQ (k+1) (onlyQ ck a)=sumQ k (onlyQ ck a)):=zh (sumQ_off (by rw[HCB.out,Bool.and_false]))
      go_upto_region 9 with fail
      go_quiet ((go_at_call 134;exact Calls.quiet_of_same (HC2.out _ (HJ.out.1.t.trans (drewN_turned _ _ _)))))
      have HJ2:=zh (And.intro (HJ.out.1.call (drewN_turned (fun _=>False) wr nq)) (And.intro (keepB (drewN_turned (fun _=>False) wr nq) HJ.out.2.1) HJ.out.2.2))
      have o0:=cellT (drewN_turned (fun _=>False) wr nq) id o0
      go_wp2_with fail
      go_roundw
      case rel=>exact⟨k+1,by omega,by go_num,by rw[HST.out];exact HJ2⟩
      case measure=>simp[intOf];omega
     ·have HST:Hid (sumQ (k+1) (onlyQ ck a)=sumQ k (onlyQ ck a)+a k):=zh (sumQ_on (by rw[HCB.out];rfl))
      have hs1:=SzR.rep (HWS.out k (by omega))
      have HD:=zh (fun V=>pAdd_any (repR (sumQ k (onlyQ ck a))) ⟨un,ux,ud⟩ 300 V (by omega) hs1 (hamt.1.mono (by omega)))
      rw[qR_repR,hamt.2,<- HST.out] at HD;obtain⟨⟨fn,fx,fd⟩,hf⟩ : ∃s,repR (sumQ k (onlyQ ck a))=s:=⟨_,rfl⟩;obtain⟨⟨sn,sx,sy⟩,hs⟩ : ∃s,repR (sumQ (k+1) (onlyQ ck a))=s:=⟨_,rfl⟩;rw[hf] at HD HJ;rw[hs] at HD;have HSS:=zh hs;clear hf hs hs1 hamt
      go_upto_region 9 with fail
      go_quiet ((go_at_call 134;exact Calls.quiet_of_same (HC2.out _ (HJ.out.1.t.trans (drewN_turned _ _ _)))))
      have HJ2:=zh (And.intro (HJ.out.1.call (drewN_turned (fun _=>False) wr nq)) (And.intro (keepB (drewN_turned (fun _=>False) wr nq) HJ.out.2.1) HJ.out.2.2))
      have o0:=cellT (drewN_turned (fun _=>False) wr nq) id o0
      have e1:=cellT (drewN_turned (fun _=>False) wr nq) id e1
      have e2:=cellT (drewN_turned (fun _=>False) wr nq) id e2
      have e3:=cellT (drewN_turned (fun _=>False) wr nq) id e3
      clear c0 c1 e0;generalize wr.drewN nq=w2 at *
      go_upto_region 11 with fail
      refine region_tl 6 (by kernel_rfl) (by kernel_rfl) (fun V hT=>?_)
      have HTV:=zh (And.intro (HJ2.out.1.call hT) (And.intro (keepB hT HJ2.out.2.1) HJ2.out.2.2));have e1:=cellT hT id e1;have e2:=cellT hT id e2;have e3:=cellT hT id e3;clear hT o0;obtain⟨d0,d1,d2,-,-,-⟩:=box3 HTV.out.2.1;simp only[List.take_succ_cons,List.take_zero,List.drop_succ_cons,List.drop_zero]
      repeat still_step
      refine wpStill_nil ?_;go_wp2_with fail;refine(HD.out V).mono ?_;rintro e w3 ⟨rfl,t3⟩;have HT3:=zh (And.intro (HTV.out.1.call t3) (And.intro (keepB t3 HTV.out.2.1) HTV.out.2.2));clear t3 d0 d1 d2 e1 e2 e3;obtain⟨f0,f1,f2,f3,f4,f5⟩:=box3 HT3.out.2.1;have HT4:=zh (HT3.out.1.other HT3.out.2.2 (q:=⟨fn,fx,fd⟩) HT3.out.2.1 ⟨sn,sx,sy⟩);go_wp2_with fail
      go_roundw
      case rel=>exact⟨k+1,by omega,by go_num,by rw[HSS.out];exact zh ⟨HT4.out.1,HT4.out.2,HT3.out.2.2⟩⟩
      case measure=>simp[intOf];omega
    ·obtain rfl:k=m:=by omega
     have hzr:=same_zeros (sumQ k (onlyQ ck a));obtain⟨v,hv⟩ : ∃v,sumQ k (onlyQ ck a)=v:=⟨_,rfl⟩;rw[hv] at HJ hzr HRG;have HVB:Hid (BytesQ v 300):=zh (by rw[<- hv];exact HWS.out k (Nat.le_refl _))
     obtain⟨⟨vn,vx,vd⟩,hvr⟩ : ∃s,repR v=s:=⟨_,rfl⟩;rw[hvr] at HJ hzr;have HVR:=zh hvr;obtain⟨d0,d1,d2,-,-,-⟩:=box3 HJ.out.2.1;clear hv hvr;by_cases hv0:v=0
     ·have HSS:Hid (rc' (g+1)=rc' g):=zh (by rw[HRG.out,if_pos hv0])
      rw[decide_eq_true hv0] at hzr;clear hv0;go_wp2_with fail
      go_roundw
      case rel=>exact⟨g+1,by omega,by go_num,by rw[HSS.out];exact zh HJ.out.1⟩
      case measure=>simp[intOf];omega
     ·have HSS0:Hid (rc' (g+1)=minR (rc' g) (part+rq g / v)):=zh (by rw[HRG.out,if_neg hv0])
      have HRE:=zh (fun V hV=>HR2.out V hV g)
      have sr:=HSR.out g;have hs1:=SzR.rep sr;have hs2:=SzR.rep HVB.out;have HDIV:=zh (fun V=>pDiv_any (repR (rq g)) (repR v) 6000000 V (by omega) hs1 (hs2.mono (by omega)) (by rw[qR_repR];exact hv0))
      rw[qR_repR,qR_repR,HVR.out] at HDIV;have hq3:=SzR.rep (sr.div HVB.out);have HADD:=zh (fun V=>pAdd_any ⟨pn,px,pd⟩ (repR (rq g / v)) 6000301 V (by omega) (HSP.out.mono (by omega)) (hq3.mono (by omega)))
      rw[HQP.out,qR_repR] at HADD;have hq4:BytesQ part 6000000:=by rw[<- HQP.out];exact HPB.out
      have hs5:=SzR.rep (hq4.add (sr.div HVB.out));have HMIN:=zh (fun V=>pMin_any (repR (rc' g)) (repR (part+rq g / v)) 12000302 V (by omega) ((SzR.rep (HSC.out g)).mono (by omega)) (hs5.mono (by omega)))
      rw[qR_repR,qR_repR,<- HSS0.out] at HMIN;rw[decide_eq_false hv0] at hzr;obtain⟨⟨rn,rx,rd⟩,hr⟩ : ∃s,repR (rq g)=s:=⟨_,rfl⟩;obtain⟨⟨qn,qx,qd⟩,hq⟩ : ∃s,repR (rq g / v)=s:=⟨_,rfl⟩;obtain⟨⟨an,ax,ad⟩,ha⟩ : ∃s,repR (part+rq g / v)=s:=⟨_,rfl⟩;obtain⟨⟨fn,fx,fd⟩,hf⟩ : ∃s,repR (rc' g)=s:=⟨_,rfl⟩;obtain⟨⟨sn,sx,sy⟩,hs⟩ : ∃s,repR (rc' (g+1))=s:=⟨_,rfl⟩;rw[hr] at HDIV HRE;rw[hq] at HDIV HADD;rw[ha] at HADD HMIN;rw[hf] at HMIN HJ;rw[hs] at HMIN;have HSS:=zh hs;simp only[madeV] at HDIV;have HCA:Hid (∀A,Turned (fun _=>False) wr A->A.cell? ⟨W.heap.size,0,none⟩=some (.slice rp n rc)/\A.cell? ⟨W.heap.size,1,none⟩=some (.slice gp n gc)/\A.cell? ⟨C,0,none⟩=some (.bool vn)/\A.cell? ⟨C,1,none⟩=some (.string vx)/\A.cell? ⟨C,2,none⟩=some (.string vd)):=zh fun A hA=>⟨(box2c (keepB hA HJ.out.1.b0)).1,(box2c (keepB hA HJ.out.1.b0)).2,(box3 (keepB hA HJ.out.2.1)).1,(box3 (keepB hA HJ.out.2.1)).2.1,(box3 (keepB hA HJ.out.2.1)).2.2.1⟩
      have HD0:=zh ((zr wr).drew);have HK0:=zh (HCA.out _ HD0.out);clear hr hq ha hf hs hs1 hs2 hq3 hq4 hs5 sr hv0 HVR
      go_upto_region 13 with fail
      clear hzr c0 c1 d0 d1 d2
      go_region_held3 (fun A=>A.cell? ⟨W.heap.size,0,none⟩=some (.slice rp n rc)/\A.cell? ⟨W.heap.size,1,none⟩=some (.slice gp n gc)/\A.cell? ⟨C,0,none⟩=some (.bool vn)/\A.cell? ⟨C,1,none⟩=some (.string vx)/\A.cell? ⟨C,2,none⟩=some (.string vd))
       (first | exact HK0.out | exact HCA.out _ (HD0.out.alloc _) | exact HCA.out _ T1.out | exact HCA.out _ (T1.out.alloc _) | exact HCA.out _ T2.out | exact HCA.out _ (T2.out.alloc _) | exact HCA.out _ T3.out | go_keep)
       (first
        | (have hq:=T1;clear hq;go_at_call 135;refine(HDIV.out _).mono ?_;rintro e w2 ⟨rfl,t2⟩;have T2:Hid (Turned (fun _=>False) wr w2):=zh (by first | exact T1.out.trans t2 | exact(T1.out.alloc _).trans t2);(first | (have e2:=keepB t2 e1) | (have e2:w2.heap[w1.heap.size]? = some _:=keepB t2 (World.alloc_heap_new w1 _)) | skip);(first | (obtain⟨p0,p1,p2,p3,p4,p5⟩:=box3 e2;have T3:=zh (T2.out.fresh (set3 e2 (.bool qn) (.string qx) (.string qd)).2 fun i hi=>by first | (rw[hi];exact Nat.le_refl _) | (rw[hi];exact T1.out.size))) | skip);clear t2)
        | (go_at_call 136;refine(HRE.out _ (by first | exact HJ.out.1.t.trans HD0.out | exact(HJ.out.1.t.trans HD0.out).alloc _)).mono ?_;rintro e w1 ⟨rfl,t1⟩;have T1:Hid (Turned (fun _=>False) wr w1):=zh (by first | exact HD0.out.trans t1 | exact(HD0.out.alloc _).trans t1);(first | (have e1:w1.heap[wr.heap.size]? = some _:=keepB t1 (World.alloc_heap_new wr.drew _)) | skip);clear t1))
      all_goals
       first
        | (have HQ:Hid (Quad W (((w2.setCell ⟨w1.heap.size,0,none⟩ (.bool qn)).setCell ⟨w1.heap.size,1,none⟩ (.string qx)).setCell ⟨w1.heap.size,2,none⟩ (.string qd)) (.cells #[.slice rp n rc,.slice gp n gc] 65 (0,0)) ⟨pn,px,pd⟩ B ⟨fn,fx,fd⟩/\(((w2.setCell ⟨w1.heap.size,0,none⟩ (.bool qn)).setCell ⟨w1.heap.size,1,none⟩ (.string qx)).setCell ⟨w1.heap.size,2,none⟩ (.string qd)).heap[w1.heap.size]? = some (.cells #[.bool qn,.string qx,.string qd] 68 (0,0))/\B < w1.heap.size):=zh (by
            have hb:=Nat.lt_of_lt_of_le (getElem?_lt HJ.out.1.b3) T1.out.size;have hh:=(HJ.out.1.call T2.out).other hb (q:=⟨false,⟨#[]⟩,⟨#[]⟩⟩) e2 ⟨qn,qx,qd⟩;exact⟨hh.1,hh.2,hb⟩)
           clear T3 p0 p1 p2 p3 p4 p5 e2;obtain⟨Wf,hWf⟩ : ∃Wf,(((w2.setCell ⟨w1.heap.size,0,none⟩ (.bool qn)).setCell ⟨w1.heap.size,1,none⟩ (.string qx)).setCell ⟨w1.heap.size,2,none⟩ (.string qd))=Wf:=⟨_,rfl⟩;rw[hWf] at HQ ⊢;obtain⟨M,hM⟩ : ∃M,w1.heap.size=M:=⟨_,rfl⟩;rw[hM] at HQ ⊢;clear hWf hM)
        | (have HQ:Hid (Quad W (((w2.setCell ⟨wr.heap.size,0,none⟩ (.bool qn)).setCell ⟨wr.heap.size,1,none⟩ (.string qx)).setCell ⟨wr.heap.size,2,none⟩ (.string qd)) (.cells #[.slice rp n rc,.slice gp n gc] 65 (0,0)) ⟨pn,px,pd⟩ B ⟨fn,fx,fd⟩/\(((w2.setCell ⟨wr.heap.size,0,none⟩ (.bool qn)).setCell ⟨wr.heap.size,1,none⟩ (.string qx)).setCell ⟨wr.heap.size,2,none⟩ (.string qd)).heap[wr.heap.size]? = some (.cells #[.bool qn,.string qx,.string qd] 68 (0,0))/\B < wr.heap.size):=zh (by
            have hb:=getElem?_lt HJ.out.1.b3;have hh:=(HJ.out.1.call T2.out).other hb (q:=⟨false,⟨#[]⟩,⟨#[]⟩⟩) e2 ⟨qn,qx,qd⟩;exact⟨hh.1,hh.2,hb⟩)
           clear T3 p0 p1 p2 p3 p4 p5 e2;obtain⟨Wf,hWf⟩ : ∃Wf,(((w2.setCell ⟨wr.heap.size,0,none⟩ (.bool qn)).setCell ⟨wr.heap.size,1,none⟩ (.string qx)).setCell ⟨wr.heap.size,2,none⟩ (.string qd))=Wf:=⟨_,rfl⟩;rw[hWf] at HQ ⊢;obtain⟨M,hM⟩ : ∃M,wr.heap.size=M:=⟨_,rfl⟩;rw[hM] at HQ ⊢;clear hWf hM)
        | (have HQ:Hid (Quad W (w2.alloc (.cells #[.bool qn,.string qx,.string qd] 68)) (.cells #[.slice rp n rc,.slice gp n gc] 65 (0,0)) ⟨pn,px,pd⟩ B ⟨fn,fx,fd⟩/\(w2.alloc (.cells #[.bool qn,.string qx,.string qd] 68)).heap[w2.heap.size]? = some (.cells #[.bool qn,.string qx,.string qd] 68 (0,0))/\B < w2.heap.size):=zh ⟨HJ.out.1.call (T2.out.alloc _),World.alloc_heap_new _ _,Nat.lt_of_lt_of_le (getElem?_lt HJ.out.1.b3) T2.out.size⟩
           generalize (w2.alloc (.cells #[.bool qn,.string qx,.string qd] 68))=Wf at *;generalize w2.heap.size=M at *)
      all_goals
       clear HJ HCA HD0 HK0 HDIV HRE T1 T2;have HCM:Hid (∀A,Turned (fun _=>False) Wf A->A.cell? ⟨B,0,none⟩=some (.bool fn)/\A.cell? ⟨B,1,none⟩=some (.string fx)/\A.cell? ⟨B,2,none⟩=some (.string fd)/\A.cell? ⟨W.heap.size+1,0,none⟩=some (.bool pn)/\A.cell? ⟨W.heap.size+1,1,none⟩=some (.string px)/\A.cell? ⟨W.heap.size+1,2,none⟩=some (.string pd)/\A.cell? ⟨M,0,none⟩=some (.bool qn)/\A.cell? ⟨M,1,none⟩=some (.string qx)/\A.cell? ⟨M,2,none⟩=some (.string qd)):=zh fun A hA=>⟨(box3 (keepB hA HQ.out.1.b3)).1,(box3 (keepB hA HQ.out.1.b3)).2.1,(box3 (keepB hA HQ.out.1.b3)).2.2.1,(box3 (keepB hA HQ.out.1.b1)).1,(box3 (keepB hA HQ.out.1.b1)).2.1,(box3 (keepB hA HQ.out.1.b1)).2.2.1,(box3 (keepB hA HQ.out.2.1)).1,(box3 (keepB hA HQ.out.2.1)).2.1,(box3 (keepB hA HQ.out.2.1)).2.2.1⟩
       go_upto_region 14 with fail
       refine wp_region_heldL (fun _=>True) (fun A=>A.cell? ⟨B,0,none⟩=some (.bool fn)/\A.cell? ⟨B,1,none⟩=some (.string fx)/\A.cell? ⟨B,2,none⟩=some (.string fd)/\A.cell? ⟨W.heap.size+1,0,none⟩=some (.bool pn)/\A.cell? ⟨W.heap.size+1,1,none⟩=some (.string px)/\A.cell? ⟨W.heap.size+1,2,none⟩=some (.string pd)/\A.cell? ⟨M,0,none⟩=some (.bool qn)/\A.cell? ⟨M,1,none⟩=some (.string qx)/\A.cell? ⟨M,2,none⟩=some (.string qd)) 5 (by kernel_rfl) ?_
       have HS0:=zh (HCM.out _ (zr Wf).drew);refine wpAnyL_take (i:=0) (oi:=_) (v:=.agg #[.bool fn,.string fx,.string fd]) rfl (by kernel_rfl) (by kernel_rfl) (fun _ _ _ h=>h) (Or.inl ⟨by kernel_rfl,fun V hV=>?_⟩) trivial HS0.out ?_
       ·obtain⟨-,f0,f1,f2,f3,f4,f5,f6,f7,f8⟩:=hV;go_simp
       try simp only[zz0,zz1,zz2,Act.put,zz3,zz4,zz5]
       refine wpAnyL_take (i:=1) (oi:=_) (v:=.agg #[.bool pn,.string px,.string pd]) rfl (by kernel_rfl) (by kernel_rfl) (fun _ _ _ h=>h) (Or.inl ⟨by kernel_rfl,fun V hV=>?_⟩) trivial HS0.out ?_
       ·obtain⟨-,f0,f1,f2,f3,f4,f5,f6,f7,f8⟩:=hV;go_simp
       try simp only[zz0,zz1,zz2,Act.put,zz3,zz4,zz5]
       refine wpAnyL_take (i:=2) (oi:=_) (v:=.agg #[.bool qn,.string qx,.string qd]) rfl (by kernel_rfl) (by kernel_rfl) (fun _ _ _ h=>h) (Or.inl ⟨by kernel_rfl,fun V hV=>?_⟩) trivial HS0.out ?_
       ·obtain⟨-,f0,f1,f2,f3,f4,f5,f6,f7,f8⟩:=hV;go_simp
       try simp only[zz0,zz1,zz2,Act.put,zz3,zz4,zz5]
       refine wpAnyL_one (i:=3) (o:=_) rfl (by kernel_rfl) (fun K hK=>?_)
       go_simp;refine(HADD.out _).mono ?_;rintro e w5 ⟨rfl,t5⟩;have T5:=zh ((zr Wf).drew.trans t5);clear t5;refine hK.out _ _ trivial (fun _=>HCM.out _ T5.out) ?_
       clear hK K;try simp only[zz0,zz1,zz2,Act.put,zz3,zz4,zz5]
       refine wpAnyL_one (i:=4) (o:=_) rfl (by kernel_rfl) (fun K hK=>?_)
       go_simp;refine(HMIN.out _).mono ?_;rintro e w6 ⟨rfl,t6⟩;have T6:=zh (T5.out.trans t6);clear t6;have HQ6:=zh (HQ.out.1.call T6.out);obtain⟨g0,g1,g2,g3,g4,g5⟩:=box3 HQ6.out.b3;refine hK.out _ _ trivial (fun _=>HCM.out _ T6.out) ?_
       clear hK K;try simp only[zz0,zz1,zz2,Act.put,zz3,zz4,zz5]
       have HQ7:=zh (HQ6.out.put ⟨sn,sx,sy⟩);refine wpAnyL_one (i:=5) (o:=_) rfl (by kernel_rfl) (fun K hK=>?_)
       go_simp;refine hK.out _ _ trivial (fun h=>absurd h (by decide)) ?_
       clear hK K;try simp only[zz0,zz1,zz2,Act.put,zz3,zz4,zz5]
       refine wpAnyL_done (by kernel_rfl) ?_ _
       go_wp2_with fail
       go_roundw
       case rel=>exact⟨g+1,by omega,by go_num,by rw[HSS.out];exact HQ7⟩
       case measure=>simp[intOf];omega
  ·obtain rfl:g=n:=by omega
   obtain⟨⟨sn,sx,sy⟩,hs⟩ : ∃s,repR (rc' g)=s:=⟨_,rfl⟩;rw[hs] at HI;have HS:=zh hs;clear hs;obtain⟨d0,d1,d2,-,-,-⟩:=box3 HI.out.b3;obtain⟨r0,r1,r2,r3,r4,r5⟩:=box3 HI.out.b2;go_wp2_with fail;have HK:=set3 HI.out.b2 (.bool sn) (.string sx) (.string sy);refine bodyPost_ret (results_yReached _ _ (W.heap.size+1+1) _ _ _ rfl HK.1) rfl ?_;rw[HS.out];exact⟨rfl,HI.out.t.fresh HK.2 fun g hg=>by omega⟩
end Go.Proofs.YtanhhdndgkhcfaaGreatDoor
