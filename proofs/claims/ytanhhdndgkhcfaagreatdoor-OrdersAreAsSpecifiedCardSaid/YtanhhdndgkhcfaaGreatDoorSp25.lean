/- Part 25 of the proof of lawSpec.card: SupPlainB, SupRefE, SupRefF, HeldTo. Conditions: those of each theorem. -/
import Derived.OrdersHeld
import Derived.Deep.RegionHeld
import Derived.Test.YtanhhdndgkhcfaaGreatDoorSp01
import Derived.Test.YtanhhdndgkhcfaaGreatDoorSp21
import Derived.Test.YtanhhdndgkhcfaaGreatDoorSp24
set_option maxRecDepth 20000
set_option maxHeartbeats 4000000
namespace Go.Proofs.YtanhhdndgkhcfaaGreatDoor
open Go Go.Proofs Go.RowKit
theorem dry_ways{d:List Int} (h:EndsN d) (hd:∀x∈d,x < d.length) {m:Nat} {place:Nat->Nat} {x t:Nat->Rat} {p:Nat} (hp:p < d.length) :
  dryQ (onN d) d.length m place x t p=(way d p).any fun g=>decide (restQ (onN d) d.length m place x t g=0):=by
 rw[Bool.eq_iff_iff,dry_iff,List.any_eq_true];constructor
 ·rintro⟨g,h1,h2,h3⟩;exact⟨g,(way_on h).2 h2,by simpa using h3⟩
 ·rintro⟨g,h1,h2⟩;obtain⟨j,hj⟩:=wayN_mem d _ _ _ h1;have:=step_lt hd j p hp;exact⟨g,by omega,(way_on h).1 h1,by simpa using h2⟩
theorem RivOK.lt'{ds:List Int} (h:RivOK ds):∀x∈ds,x < ds.length:=fun x hx=>(h.bd x hx).2
theorem same_zeros(q:Rat):sameR (repR q) ⟨false,⟨#[]⟩,⟨#[]⟩⟩=decide (q=0):=by
 unfold sameR;rw[Bool.eq_iff_iff,decide_eq_true_eq,decide_eq_true_eq];constructor
 ·intro h;exact repR_inj (h.trans repR_zero.symm)
 ·rintro rfl;exact repR_zero
theorem app_bool(W:World) {ops:Array Oper} {rest:List Oper} {o:Oper} {a:Act} {Q:Exit->Act->World->Prop} (hg:o.guard=none) (so xo:Operand) (hop:o.op=Op.call { callee:=Callee.builtin Builtin.append,args:=#[so,xo],argTypes:=#[104,104] })
  (base:Nat) (v:Value) (x:Bool) (L:List Bool) (hs:a.eval so=v) (hx:a.eval xo=.slice (some ⟨W.heap.size,0,none⟩) 1 1) (hown:Grown W base 4 1 boolCells v L) (hb:base<=W.heap.size) (hl:L.length<=100000)
  (hK:∀p c w',Grown w' base 4 1 boolCells (.slice p (L++[x]).length c) (L++[x])->Turned (fun g=>base<=g) W w'->wpList Tryz.prog ops Q rest (a.put o.dst (.slice p (L++[x]).length c)) w') :
  wpList Tryz.prog ops Q (o::rest) a (W.alloc (.cells #[.bool x] 4)) :=
 app_row boolCells 4 104 1 1 _ infoBool Tryz.underlying104 rfl (by decide) (fun _=>rfl) (fun x u hu=>by simp at hu;subst hu;rfl) W hg so xo hop base v x L hs hx hown hb hl (by decide) hK
theorem flat_bool(l:List Bool):l.flatMap boolCells=l.map Value.bool:=by
 induction l with
 | nil=>rfl
 | cons x l ih=>rw[List.flatMap_cons,ih];rfl
theorem Grown.putB{W:World} {base:Nat} {p:Option Addr} {c i:Nat} {l:List Bool} {y:Bool} (h:Grown W base 4 1 boolCells (.slice p l.length c) l) (hy:l[i]? = some y) :
  ∃g,p=some ⟨g,0,none⟩/\base<=g/\g < W.heap.size/\W.cell? ⟨g,i,none⟩=some (.bool y)/\W.frozen? ⟨g,i,none⟩=false/\∀(V:World) (u:Bool),V.heap[g]? = W.heap[g]? ->
   Grown (V.setCell ⟨g,i,none⟩ (.bool u)) base 4 1 boolCells (.slice p (l.set i u).length c) (l.set i u)/\V.frozen? ⟨g,i,none⟩=false/\V.cell? ⟨g,i,none⟩=some (.bool y):=by
 obtain⟨hi,hyi⟩:=List.getElem?_eq_some_iff.1 hy;obtain⟨h1,h2⟩:=h;rcases h2 with⟨h2,h3⟩ | ⟨g,cap,cur,hv,hb,hg,h4,h5,h6,h7⟩
 ·simp only[Value.slice.injEq] at h2;omega
 ·simp only[Value.slice.injEq] at hv;obtain⟨rfl,-,rfl⟩:=hv;rw[flat_bool,Nat.mul_one] at h7;have hcur:cur[i]? = some (.bool y):=by
   have:(cur.toList.take l.length)[i]? = some (.bool y):=by rw[h7,List.getElem?_map,hy];rfl
   rw[List.getElem?_take_of_lt hi] at this;simpa using this
  refine⟨g,rfl,hb,getElem?_lt hg,?_,by simp[World.frozen?,hg],fun V u hV=>?_⟩
  ·simp only[World.cell?,hg];exact hcur
  ·rw[hg] at hV;refine⟨⟨by rw[flat_bool];simp,.inr ⟨g,_,cur.setIfInBounds i (.bool u),by rw[List.length_set],hb,set_block hV i _,by rw[List.length_set];exact h4,h5,by rw[Array.size_setIfInBounds];exact h6,?_⟩⟩,by simp[World.frozen?,hV],?_⟩
   ·rw[flat_bool,List.length_set,Nat.mul_one,Array.toList_setIfInBounds,List.take_set,h7,List.map_set]
   ·simp only[World.cell?,hV];exact hcur
attribute [local go_sem] Oper.semAt_some
attribute [local go_sem ↓] run_eql_rat' run_neq_rat'
theorem yDry_any(rs:List Rc) (us:List Rv) (cs:List Cl) (rp gp cp tp:Option Addr) (rc gc cc tc f:Nat) (t:Nat->Rat) (W:World) (hi:SIn W.heap.size W rs us cs rp gp cp rc gc cc) (ht:At W.heap.size W 3 ratCells (repL cs.length t) tp tc) (hok:SOK rs us cs)
  (hsz:RestS (onN (rs.map (·.down))) rs.length cs.length (placeK cs) (gainQ us) t) (hf:f < rs.length) :
  Calls Tryz.prog 109 #[.agg #[.slice rp rs.length rc,.slice gp us.length gc],.slice cp cs.length cc,.slice tp cs.length tc,.int .i64 f] W fun e w'=>e=.returned (.bool (dryQ (onN (rs.map (·.down))) rs.length cs.length (placeK cs) (gainQ us) t f))/\Turned (fun _=>False) W w':=by
 have HR:=zh (fun(V:World) (hV:Turned (fun _=>False) W V) (g:Nat)=>yRest_any rs us cs rp gp cp tp rc gc cc tc g t V (hi.on hV) (ht.on hV) hok hsz)
 have hdw:=dry_ways (x:=gainQ us) (t:=t) (m:=cs.length) (place:=placeK cs) hok.riv.endsN hok.riv.lt' (p:=f) (by rw[List.length_map];exact hf)
 rw[List.length_map] at hdw;rw[hdw];have hlen:=hok.len;have hn8:=hok.n8;have hriv:=hok.riv;have hrv:=hi.riv;clear hdw;rw[hlen] at HR ⊢;obtain⟨q,hq⟩ : ∃q:Nat->Rat,(fun g=>restQ (onN (rs.map (·.down))) rs.length cs.length (placeK cs) (gainQ us) t g)=q:=⟨_,rfl⟩
 have HQ:Hid (∀g,restQ (onN (rs.map (·.down))) rs.length cs.length (placeK cs) (gainQ us) t g=q g):=zh fun g=>by rw[<- hq]
 have HR2:=zh (fun(V:World) (hV:Turned (fun _=>False) W V) (g:Nat)=>(show Calls _ _ _ _ fun e w'=>e=.returned (ratV (repR (q g)))/\Turned (fun _=>False) V w' from by rw[<- HQ.out g];exact HR.out V hV g))
 rw[show(fun g=>decide (restQ (onN (rs.map (·.down))) rs.length cs.length (placeK cs) (gainQ us) t g=0))=fun g=>decide (q g=0) from funext fun g=>by rw[HQ.out]]
 obtain⟨ds,hds⟩ : ∃ds,rs.map (·.down)=ds:=⟨_,rfl⟩;obtain⟨b,hb⟩ : ∃b,((way ds f).any fun g=>decide (q g=0))=b:=⟨_,rfl⟩
 obtain⟨n,hn⟩ : ∃n,rs.length=n:=⟨_,rfl⟩;obtain⟨m,hm⟩ : ∃n,cs.length=n:=⟨_,rfl⟩;have HD:Hid (∀(i:Nat) (u:Rc),rs[i]? = some u->downOf ds i=u.down):=zh (fun i u hu=>by
  rw[<- hds];unfold downOf;rw[if_neg (by omega),Int.toNat_natCast,List.getD_eq_getElem?_getD,List.getElem?_map,hu]
  rfl)
 rw[hds] at hriv ⊢;have HN:=zh hn;have HDL:Hid (ds.length=n):=zh (by rw[<- hds,List.length_map,hn])
 have HRV:=zh hriv;have HW:=zh hrv;have hs:Hid (((way ds f).any fun g=>decide (q g=0))=b):=zh hb
 rw[hb];rw[hn] at hf HR2 hn8 ⊢;rw[hm] at HR2 ⊢;have hnn:(n:Int)<=8:=by omega
 have HT:=zh ((zr W).alloc (.cells #[.slice rp n rc,.slice gp n gc] 65 (0,0)));have HB0:=zh (World.alloc_heap_new W (.cells #[.slice rp n rc,.slice gp n gc] 65 (0,0)));clear hi ht hok hsz HR hlen hriv hrv hn hm hds hq HQ hb;go_enter Tryz.func109,Tryz.ntmps109;go_wp2_with fail
 go_loopw [9] (fun i wr=>∃z:Int,i=(.int .i64 z) /\ -1<=z/\z < n/\Hid (((way ds z).any fun g=>decide (q g=0))=b)/\Hid (Turned (fun _=>False) W wr/\wr.heap[W.heap.size]? = some (.cells #[.slice rp n rc,.slice gp n gc] 65 (0,0)))) (fun i _=>(way ds (intOf i)).length)
 case atStart=>exact⟨f,rfl,by omega,by omega,hs,zh ⟨HT.out,HB0.out⟩⟩
 case round =>
  obtain⟨z,rfl,hq1,hq2,HQ,HI⟩:=hrel;clear hs hf;obtain⟨c0,c1⟩:=box2c HI.out.2;by_cases h0:z < 0
  ·have hb:b=false:=by
    have h1:=HQ.out;rw[way_neg h0] at h1;exact h1.symm
   subst hb
   go_wp2
   go_ret;exact⟨rfl,HI.out.1⟩
  obtain⟨k,rfl⟩ : ∃k:Nat,z=k:=⟨z.toNat,by omega⟩
  have hkn:k < rs.length:=by rw[HN.out];omega
  obtain⟨u,hu⟩ : ∃u,rs[k]? = some u:=⟨_,List.getElem?_eq_getElem hkn⟩;have hdn:=HD.out k u hu;obtain⟨e1,e2,e3⟩:=down_ends HRV.out (show(0:Int)<=(k:Int) by omega) (by rw[HDL.out];exact hq2)
  have hcons:=way_cons h0 e3;rw[hdn] at e1 e2 hcons;rw[HDL.out] at e2;rw[Int.toNat_natCast] at hcons;have HCo:=zh hcons;obtain⟨bb,a,rfl,hbb,hc,-⟩:=(HW.out.turned HI.out.1).reaches hu;have HCC:=zh hc;have HCall:=zh (HR2.out wr HI.out.1 k);obtain⟨⟨sn,sx,sy⟩,hsq⟩ : ∃s,repR (q k)=s:=⟨_,rfl⟩;have hz:=same_zeros (q k);rw[hsq] at hz HCall;clear hcons hdn e3 hu hsq;by_cases hg:q k=0
  ·have hb:b=true:=by
    rw[<- HQ.out,HCo.out,List.any_cons,hg];rfl
   subst hb;rw[decide_eq_true hg] at hz;clear hg;go_wp2_with fail;refine HCall.out.mono ?_;rintro e w1 ⟨rfl,t1⟩;have HT1:=zh (HI.out.1.trans t1);clear t1;go_wp2_with fail;go_ret;exact⟨rfl,HT1.out⟩
  ·rw[decide_eq_false hg] at hz;have HB:Hid (((way ds u.down).any fun g=>decide (q g=0))=b):=zh (by
    rw[<- HQ.out,HCo.out,List.any_cons,decide_eq_false hg,Bool.false_or])
   have HM:Hid ((way ds u.down).length < (way ds (k:Int)).length):=zh (by rw[HCo.out,List.length_cons];exact Nat.lt_succ_self _)
   clear hg;go_wp2_with fail;refine HCall.out.mono ?_;rintro e w1 ⟨rfl,t1⟩;have HT1:=zh (And.intro (HI.out.1.trans t1) (keepB t1 HI.out.2));have hc2:=cellT t1 id HCC.out;obtain⟨c2,c3⟩:=box2c HT1.out.2;clear t1 c0 c1 hc;go_wp2_with fail
   go_roundw
   case rel=>exact⟨u.down,rfl,e1,e2,HB,HT1⟩
   case measure=>exact HM.out
attribute [local go_sem ↓] run_eql_rat' run_neq_rat'
theorem repL_succ(f:Nat->Rat) (k:Nat):repL (k+1) f=repL k f++[repR (f k)]:=by
 unfold repL;rw[List.range_succ,List.map_append];rfl
theorem step_ratB(W:World) (base n:Nat) (v:Value) (x:Rv) (L:List Rv) (hn:L.length=n) (hown:Grown W base 68 3 ratCells v L) (hb:base<=W.heap.size) (hl:n<=1000) {ops:Array Oper} {o:Oper} {a:Act} {Q:Exit->Act->World->Prop} {K:Act->World->Prop} {E:Prop}
  (hg:o.guard=none) (so xo:Operand) (hop:o.op=Op.call { callee:=Callee.builtin Builtin.append,args:=#[so,xo],argTypes:=#[23,23] }) (hs:a.eval so=v) (hx:a.eval xo=.slice (some ⟨W.heap.size,0,none⟩) 1 1)
  (hK:∀q c W4,Grown W4 base 68 3 ratCells (.slice q (n+1) c) (L++[x])->Turned (fun k=>base<=k) W W4->K (a.put o.dst (.slice q (n+1) c)) W4) :
  if Region.wanted o (yielded ops a.tmps)=true then Oper.wp Tryz.prog o a (W.alloc (.cells #[.bool x.neg,.string x.num,.string x.den] 68)) K Q else E:=by
 rw[if_pos (by simp[Region.wanted,hg])]
 obtain⟨i0,hif,hz0,hz1,hz2⟩:=info_parts infoRat;subst hn;have ta:Turned (fun _=>False) W (W.alloc (.cells #[.bool x.neg,.string x.num,.string x.den] 68)):=(Turned.refl _ _).alloc _
 have hmul:(L.length+1)*40<=1001*40:=Nat.mul_le_mul (by omega) (Nat.le_refl _)
 obtain⟨v',w4,hrun,hown',hgrow,hex⟩:=run_append_exact (P:=Tryz.prog) (W.alloc (.cells #[.bool x.neg,.string x.num,.string x.den] 68)) base 23 o.type 68 i0 (ratV zeroR) 3 40 Tryz.underlying23 hif hz0 hz1 hz2 rfl (by decide) v L.length (L.flatMap ratCells) (ownsRow_turned ta (fun k hk=>hk.elim) hown) ⟨W.heap.size,0,none⟩ 1 1 (ratCells x) rfl
  (fun j u hj=>by
   have h0:=World.alloc_heap_new W (.cells #[.bool x.neg,.string x.num,.string x.den] 68);have h2:(⟨W.heap.size,0,none⟩ : Addr).add j=⟨W.heap.size,j,none⟩:=by rw[Addr.add_lit,Nat.zero_add]
   rw[h2];simp only[World.cell?,h0];simpa using hj) (fun u hu=>by simp at hu;rcases hu with rfl | rfl | rfl <;> rfl) (by unfold maxLen;omega) (by omega) (by simp;omega)
 unfold Oper.wp;simp[execOp,hop,resolve,invoke,builtin,hs,hx,hrun,Result.andThen];have hg2:Grown w4 base 68 3 ratCells v' (L++[x]):=by
  unfold Grown;rw[List.length_append,List.flatMap_append,show[x].flatMap ratCells=ratCells x by simp]
  exact hown'
 obtain⟨p,c,rfl⟩:=hg2.shape;have:=hK p c w4 (by rw[List.length_append] at hg2;exact hg2) ((ta.mono fun _ h=>h.elim).trans (Turned.of_grown hgrow fun k hk=>(ownsRow_block hown k hk).1))
 rw[List.length_append];exact this
theorem yGrown_any(cs:List Cl) (cp tp bp:Option Addr) (cc tc bc:Nat) (t:Nat->Rat) (op:Nat->Bool) (p:Rat) (W:World) (hi:At W.heap.size W 5 claimCells cs cp cc) (ht:At W.heap.size W 3 ratCells (repL cs.length t) tp tc) (ho:At W.heap.size W 1 boolCells (bL cs.length op) bp bc)
  (hm12:cs.length<=12) (sc:∀c∈cs,SzR c.amt 20) (hp:BytesQ p 40000000) :
  Calls Tryz.prog 108 #[.slice cp cs.length cc,.slice tp cs.length tc,.slice bp cs.length bc,ratV (repR p)] W fun e w'=>∃q c,e=.returned (.slice q cs.length c)/\Grown w' W.heap.size 68 3 ratCells (.slice q cs.length c) (repL cs.length (growQ (amtK cs) t op p))/\Turned (fun _=>False) W w':=by
 have HAT:=zh (And.intro hi (And.intro ht ho));obtain⟨g,hg⟩ : ∃g,growQ (amtK cs) t op p=g:=⟨_,rfl⟩;have HOF:Hid (∀k,op k=false->g k=t k):=zh fun k h=>by rw[<- hg];unfold growQ;rw[h];rfl
 have HON:Hid (∀k u,cs[k]? = some u->op k=true->(SzR u.amt 20/\qR u.amt*p=g k)):=zh fun k u hu h=>by
  rw[<- hg];unfold growQ amtK;rw[h,getD_of hu];exact⟨sc u (List.mem_of_getElem? hu),rfl⟩
 obtain⟨m,hm⟩ : ∃m,cs.length=m:=⟨_,rfl⟩;have HM:=zh hm;rw[hm] at HAT hm12;rw[hm,hg];have HSP:=zh (SzR.rep hp);have HQP:Hid (qR (repR p)=p):=zh (qR_repR p);obtain⟨⟨pn,px,pd⟩,hpp⟩ : ∃s,repR p=s:=⟨_,rfl⟩;rw[hpp] at HSP HQP ⊢;have hmm:(m:Int)<=12:=by omega
 have HT:=zh (And.intro ((zr W).alloc (.cells #[.bool pn,.string px,.string pd] 68 (0,0))) (World.alloc_heap_new W (.cells #[.bool pn,.string px,.string pd] 68 (0,0))));have HZ0:Hid ((W.alloc (.cells #[.bool pn,.string px,.string pd] 68 (0,0))).heap.size=W.heap.size+1):=zh (by simp)
 clear hi ht ho sc hp hg hm hpp;go_enter Tryz.func108,Tryz.ntmps108;go_wp2_with fail
 go_loopw [9,10] (fun v i wr=>∃(k:Nat) (q:Option Addr) (c:Nat),k<=m/\i=(.int .i64 k)/\v=.slice q k c/\Hid (Grown wr (W.heap.size+1) 68 3 ratCells (.slice q k c) (repL k g)/\Turned (fun _=>False) W wr/\wr.heap[W.heap.size]? = some (.cells #[.bool pn,.string px,.string pd] 68 (0,0))/\W.heap.size+1<=wr.heap.size)) (fun _ i _=>m-(intOf i).toNat)
 case atStart=>exact⟨0,none,0,Nat.zero_le _,rfl,rfl,zh ⟨Grown.nil _ _ _ _ _,HT.out.1,HT.out.2,Nat.le_of_eq HZ0.out.symm⟩⟩
 case round =>
  obtain⟨k,q,c,hk,rfl,rfl,HI⟩:=hrel;by_cases hlt:k < m
  ·obtain⟨u,hu⟩ : ∃u,cs[k]? = some u:=⟨_,List.getElem?_eq_getElem (by rw[HM.out];exact hlt)⟩
   obtain⟨b,a,rfl,hb,e0,e1,e2,e3,e4⟩:=(HAT.out.1.turned HI.out.2.1).claims hu;obtain⟨ob,oa,rfl,-,f0⟩:=(HAT.out.2.2.turned HI.out.2.1).bools (bL_get op hlt);obtain⟨tb,ta,rfl,-,g0,g1,g2⟩:=(HAT.out.2.1.turned HI.out.2.1).rats (repL_get t hlt);have HRS:=zh (repL_succ g k);have hk0:(0:Int)<=k:=by omega
   have hk1:(k:Int) < m:=by omega
   obtain⟨x,hx⟩ : ∃x,op k=x:=⟨_,rfl⟩;rw[hx] at f0;cases x
   ·have hgk:=HOF.out k hx;obtain⟨⟨yn,yx,yd⟩,hy⟩ : ∃s,repR (t k)=s:=⟨_,rfl⟩;rw[hy] at g0 g1 g2;replace HRS:=zh (HRS.out.trans (by rw[hgk,hy]))
    clear hu hx hgk hy e0 e1 e2 e3 e4;go_wp2_with (at_builtin;(refine app_rat wr rfl _ _ rfl (W.heap.size+1) (.slice q k c) ⟨yn,yx,yd⟩ (repL k g) rfl rfl HI.out.1 HI.out.2.2.2 (by rw[repL_len];omega) ?_);intro p' c' w4 ho4 ht4;have HS:=zh (And.intro ho4 ht4);clear ho4 ht4)
    go_roundw
    case rel=>exact⟨k+1,p',c',by omega,by go_num,by simp[repL_len],zh ⟨by have:=HS.out.1;rw[<- HRS.out,repL_len] at this;exact this,HI.out.2.1.fresh HS.out.2 fun g hg=>by omega,(HS.out.2.block _ (getElem?_lt HI.out.2.2.1) (by omega)).trans HI.out.2.2.1,Nat.le_trans HI.out.2.2.2 HS.out.2.size⟩⟩
    case measure=>simp[intOf];omega
   ·obtain⟨hs20,hgk⟩:=HON.out k u hu hx;have HC:=zh (fun V=>pMul_any u.amt ⟨pn,px,pd⟩ 40000000 V (by omega) (hs20.mono (by omega)) HSP.out)
    rw[HQP.out,hgk] at HC;obtain⟨⟨un,ux,ud⟩,hua⟩ : ∃s,u.amt=s:=⟨_,rfl⟩;obtain⟨⟨yn,yx,yd⟩,hy⟩ : ∃s,repR (g k)=s:=⟨_,rfl⟩;rw[hua] at e2 e3 e4 HC;rw[hy] at HC HRS;obtain⟨j0,j1,j2,-,-,-⟩:=box3 HI.out.2.2.1;have HCA:Hid (∀A,Turned (fun k=>W.heap.size+1<=k) wr A->A.cell? ⟨b,a+k*5+2,none⟩=some (.bool un)/\A.cell? ⟨b,a+k*5+3,none⟩=some (.string ux)/\A.cell? ⟨b,a+k*5+4,none⟩=some (.string ud)/\A.cell? ⟨W.heap.size,0,none⟩=some (.bool pn)/\A.cell? ⟨W.heap.size,1,none⟩=some (.string px)/\A.cell? ⟨W.heap.size,2,none⟩=some (.string pd)):=zh fun A hA =>
     ⟨cellT hA (by omega) e2,cellT hA (by omega) e3,cellT hA (by omega) e4,cellT hA (by omega) j0,cellT hA (by omega) j1,cellT hA (by omega) j2⟩
    have HD2:=zh ((Turned.refl (fun k=>W.heap.size+1<=k) wr).drew)
    have HK0:=zh (HCA.out _ HD2.out);have HG0:=zh (HI.out.1.turned (zr wr).drew fun _ h=>h.elim)
    clear e0 e1 e2 e3 e4 g0 g1 g2 j0 j1 j2 hua hy hu hx hgk hs20 hb
    go_upto_region 6 with fail
    go_region_held3 (fun A=>A.cell? ⟨b,a+k*5+2,none⟩=some (.bool un)/\A.cell? ⟨b,a+k*5+3,none⟩=some (.string ux)/\A.cell? ⟨b,a+k*5+4,none⟩=some (.string ud)/\A.cell? ⟨W.heap.size,0,none⟩=some (.bool pn)/\A.cell? ⟨W.heap.size,1,none⟩=some (.string px)/\A.cell? ⟨W.heap.size,2,none⟩=some (.string pd))
     (first | exact HK3.out | exact HK2.out | exact HK1.out | exact HK0.out | go_keep)
     (first
      | (have hq:=HK1;clear hq;refine step_ratB w3 (W.heap.size+1) k (.slice q k c) ⟨yn,yx,yd⟩ (repL k g) (repL_len _ _) HG3.out HZ3.out (by omega) rfl _ _ rfl rfl rfl ?_;intro q2 c2 w4 ho4 ht4;have HS:=zh (And.intro ho4 ht4);have HT4:=zh (HT3.out.trans ht4);have HK3:Hid _:=zh (HCA.out _ HT4.out);clear ho4 ht4)
      | (have hq:=HK0;clear hq;go_at_call 138;refine(HC.out _).mono ?_;rintro e w3 ⟨rfl,t3⟩;have HT3:=zh (HD2.out.trans (t3.mono fun _ h=>h.elim));have HG3:=zh (HG0.out.turned t3 fun _ h=>h.elim);have HZ3:=zh (Nat.le_trans HI.out.2.2.2 HT3.out.size);have HK1:Hid _:=zh (HCA.out _ HT3.out);have HK2:Hid _:=zh (HCA.out _ (HT3.out.alloc (.cells #[.bool yn,.string yx,.string yd] 68)));clear t3))
    go_wp2_with fail
    go_roundw
    case rel=>exact⟨k+1,q2,c2,by omega,by go_num,rfl,zh ⟨by rw[HRS.out];exact HS.out.1,HI.out.2.1.fresh HT4.out fun g hg=>by omega,(HT4.out.block _ (getElem?_lt HI.out.2.2.1) (by omega)).trans HI.out.2.2.1,Nat.le_trans HI.out.2.2.2 HT4.out.size⟩⟩
    case measure=>simp[intOf];omega
  ·obtain rfl:k=m:=by omega
   go_wp2_with fail;go_ret;exact⟨q,c,rfl,HI.out.1.low (by omega),HI.out.2.1⟩
section
variable {P:Program} {ops:Array Oper} {Q:Exit->Act->World->Prop} {md:Region.Mode} {R S:World->Prop} {G:Nat}
def wpAnyL (P:Program) (md:Region.Mode) (ops:Array Oper) (Q:Exit->Act->World->Prop) (R S:World->Prop) (G:Nat):Nat->Array Bool->Act->World->Prop
 | 0,listed,a,w=>Region.ready md ops listed=[]/\Q .normal a w
 | fuel+1,listed,a,w =>
  (Region.ready md ops listed=[]->Q .normal a w) /\
  ∀i∈Region.ready md ops listed,wpOp P ops Q i (fun a' w'=>R w'/\((listed.setIfInBounds i true).getD G true=false->S w')/\wpAnyL P md ops Q R S G fuel (listed.setIfInBounds i true) a' w') a w
theorem wpAny_of_heldL:∀(fuel:Nat) (listed:Array Bool) (a:Act) (w:World),wpAnyL P md ops Q R S G fuel listed a w->wpAny P md ops Q fuel listed a w
 | 0,_,_,_,h=>h
 | fuel+1,_,_,_,h=>⟨h.1,fun i hi=>wpOp_mono (fun a' w' h'=>wpAny_of_heldL fuel _ a' w' h'.2.2) (h.2 i hi)⟩
def waitsG (md:Region.Mode) (ops:Array Oper) (G i:Nat):Bool:=match ops[G]? with
 | some o=>o.after.any fun e=>Region.binds md e && (e.on == i)
 | none=>false
theorem wpAnyL_first{i:Nat} {oi:Oper} {v:Value} (hi:ops[i]? = some oi) (hsel:∀(j:Nat) (o:Oper) cs b,ops[j]? = some o->o.op≠.select cs b)
  (hQ:∀c a w,Q (.panic c) (a.put oi.dst v) w->Q (.panic c) a w) (hG:waitsG md ops G i=true) (hGi:G≠i) :
  ∀(fuel:Nat) (listed:Array Bool) (a:Act) (w:World),
   (∀j oj,ops[j]? = some oj->j≠i->listed.getD j true=false->(∀e∈oj.after,Region.binds md e=true->e.on≠i)->oi.apart ops oj=true) ->
   listed.getD G true=false->i∈Region.ready md ops listed->YieldsIf P ops (fun w=>R w/\S w) oi v a->R w->S w -> 
   wpAnyL P md ops Q R S G fuel (listed.setIfInBounds i true) (a.put oi.dst v) w->wpAnyL P md ops Q R S G (fuel+1) listed a w:=by
 intro fuel
 induction fuel with
 | zero =>
  intro listed a w _ hl hr hy hR hS H;refine⟨fun h=>(by rw[h] at hr;cases hr),fun j hj=>?_⟩
  by_cases hji:j=i
  ·subst hji;exact hy.wpOp hi ⟨hR,hS⟩ ⟨hR,fun _=>hS,H⟩
  ·have:=ready_mono hj hji;rw[H.1] at this;cases this
 | succ fuel ih =>
  intro listed a w hfree hl hr hy hR hS H;refine⟨fun h=>(by rw[h] at hr;cases hr),fun j hj=>?_⟩
  by_cases hji:j=i
  ·subst hji;exact hy.wpOp hi ⟨hR,hS⟩ ⟨hR,fun _=>hS,H⟩
  ·have h1:=H.2 j (ready_mono hj hji);obtain⟨hjun,oj,hoj,hall⟩:=mem_ready.1 hj;have hnot:∀e∈oj.after,Region.binds md e=true->e.on≠i:=fun e he hb heq=>by
    have h1:=hall e he hb;have h0:=(mem_ready.1 hr).1;rw[heq] at h1;rcases Nat.lt_or_ge i listed.size with h' | h'
    ·simp[h'] at h0 h1;rw[h0] at h1;cases h1
    ·simp[Array.getElem?_eq_none h'] at h1
   have hjG:j≠G:=fun e=>by
    subst e;unfold waitsG at hG;rw[hoj] at hG;obtain⟨e,he,hb⟩:=Array.any_eq_true'.1 hG;rw[Bool.and_eq_true,beq_iff_eq] at hb;exact hnot e he hb.1 hb.2
   have hl':(listed.setIfInBounds j true).getD G true=false:=by rw[getD_set_ne true hjG];exact hl
   have h2:=wpOp_putIf hoj (hfree j oj hoj hji hjun hnot) (fun cs b=>hsel i oi cs b hi) (fun cs b=>hsel j oj cs b hoj) hQ hy h1
   have hfree':∀k ok,ops[k]? = some ok->k≠i->(listed.setIfInBounds j true).getD k true=false ->
     (∀e∈ok.after,Region.binds md e=true->e.on≠i)->oi.apart ops ok=true:=fun k ok hk hki hun hno=>by
    refine hfree k ok hk hki ?_ hno;by_cases hjk:j=k
    ·subst hjk;exact hjun
    ·rw[getD_set_ne true hjk] at hun;exact hun
   refine wpOp_mono (fun a' w' h3=>?_) h2
   have hS':S w':=h3.2.2.1 (by rw[Array.setIfInBounds_comm _ _ (Ne.symm hji),getD_set_ne true hGi.symm];exact hl')
   refine⟨h3.2.1,fun _=>hS',ih (listed.setIfInBounds j true) a' w' hfree' hl' (ready_mono hr (Ne.symm hji)) h3.1 h3.2.1 hS' ?_⟩
   rw[Array.setIfInBounds_comm _ _ hji];exact h3.2.2.2
theorem wpAnyL_take{i:Nat} {oi:Oper} {v:Value} {fuel:Nat} {listed:Array Bool} {a:Act} {w:World} (hi:ops[i]? = some oi)
  (hs:Region.noSelect ops=true) (hf:(Region.free md ops listed i && (Region.ready md ops listed).contains i && waitsG md ops G i && !(G == i) && !listed.getD G true)=true)
  (hQ:∀c a w,Q (.panic c) (a.put oi.dst v) w->Q (.panic c) a w) (hy:YieldsIf P ops (fun w=>R w/\S w) oi v a) (hR:R w) (hS:S w)
  (h:wpAnyL P md ops Q R S G fuel (listed.setIfInBounds i true) (a.put oi.dst v) w):wpAnyL P md ops Q R S G (fuel+1) listed a w:=by
 simp only[Bool.and_eq_true,Bool.not_eq_true',beq_eq_false_iff_ne,ne_eq] at hf;exact wpAnyL_first hi (Region.noSelect_spec hs) hQ hf.1.1.2 hf.1.2 fuel listed a w (Region.free_spec hi hf.1.1.1.1) hf.2 (by simpa using hf.1.1.1.2) hy hR hS h
theorem wpAnyL_one{i:Nat} {o:Oper} {fuel:Nat} {listed:Array Bool} {a:Act} {w:World} (ho:ops[i]? = some o) (hr:Region.ready md ops listed=[i])
  (h:∀K':Act->World->Prop,Shut (∀a w,R w->((listed.setIfInBounds i true).getD G true=false->S w)->wpAnyL P md ops Q R S G fuel (listed.setIfInBounds i true) a w->K' a w)->if Region.wanted o (yielded ops a.tmps)=true then Oper.wp P o a w K' Q else K' (a.put o.dst undef) w) :
  wpAnyL P md ops Q R S G (fuel+1) listed a w:=by
 refine⟨fun h0=>(by rw[hr] at h0;cases h0),fun j hj=>?_⟩
 rw[hr,List.mem_singleton] at hj;subst hj;exact wpOp_step ho (fun K' hK=>h K' (fun a w hR hS hW=>hK a w ⟨hR,hS,hW⟩))
theorem wpAnyL_done{listed:Array Bool} {a:Act} {w:World} (hr:Region.ready md ops listed=[]) (h:Q .normal a w):∀fuel,wpAnyL P md ops Q R S G fuel listed a w
 | 0=>⟨hr,h⟩
 | _+1=>⟨fun _=>h,by rw[hr];simp⟩
theorem wp_region_heldL(R S:World->Prop) (G:Nat) {id:Nat} {a:Act} {w:World} (hm:P.follows .mixedOrders=true)
  (h:wpAnyL P .any ops Q R S G ops.size (Array.replicate ops.size false) a w.drew):(Code.region id ops true).wp P Q a w :=
 wp_region_any hm (wpAny_of_heldL _ _ _ _ h)
end
end Go.Proofs.YtanhhdndgkhcfaaGreatDoor
