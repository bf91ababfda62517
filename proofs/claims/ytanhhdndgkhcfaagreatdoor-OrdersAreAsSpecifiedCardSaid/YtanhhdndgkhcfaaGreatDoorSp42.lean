/- Part 42 of the proof of lawSpec.card: Post, OpenS, OrdOpen, OrdOpenC, OrdCardSpec. Conditions: those of each theorem. -/
import Derived.Test.YtanhhdndgkhcfaaGreatDoorCards
import Derived.Test.YtanhhdndgkhcfaaGreatDoorTie
import Derived.Below
import Derived.ChangeSame
import Derived.WalkKit
import Derived.ProofKit
import Derived.OpenShut
import Derived.Deep.DeepHandedRow
import Derived.Lib.LaidTab
import Derived.WideKeyArgs
import Derived.Carry
import Derived.Lib.SmallJoins
import Derived.Deep.Slices
import Derived.Deep.Fields
import Derived.Deep.DeepWitnessRowRef
import Derived.ChangeMaps5
import Derived.LaidMore
import Derived.Lay
import Derived.Test.YtanhhdndgkhcfaaGreatDoorSp01
import Derived.Test.YtanhhdndgkhcfaaGreatDoorSp21
import Derived.Test.YtanhhdndgkhcfaaGreatDoorSp29
import Derived.Test.YtanhhdndgkhcfaaGreatDoorSp41
set_option maxRecDepth 100000
namespace Go.Proofs.YtanhhdndgkhcfaaGreatDoor
open Go Go.RowKit Go.WideShapes Go.ChangeShapes
theorem ownNone:ownKnob Tryz.prog.godebug=none:=by kernel_rfl
section
variable {H:Type} {enc:TypeId×Value->H} {P:Program}
theorem post_of_below{f:Func} {s:ChangeSpec} {apart fresh handsOn again:Bool} {W W':World} {args:Array Value} {v:Value} {ds gs:List (DataW H)} {before pa pv:List MemPlace}
  (hW:DataW.Whole enc P f.params.toList s.vars apart W args.toList ds gs before)
  (hres:∀(b:Nat) (sp:Nat->Bool) (hd:Bool),DataW.TrodAll enc P W' b sp hd f.resultTypes.toList (v.resultList f.resultTypes.size) (s.fn H (ds++gs)).results [])
  (hargs:∀sp:Nat->Bool,(∀p∈before,sp p.block=true)->DataW.TrodAll enc P W' 0 sp true f.params.toList args.toList (s.fn H (ds++gs)).args pa)
  (hvars:∀sp:Nat->Bool,(∀p∈before,sp p.block=true)->DataW.TrodVars enc P W' sp s.vars (s.fn H (ds++gs)).vars pv)
  (hps:before=pa++pv) (hb:Below W.heap.size W W')
  (hok:∀(j:Nat) (t:TypeId) (r:Value),f.resultTypes[j]? = some t->(v.resultList f.resultTypes.size)[j]? = some r->Value.okWide P W' .any 0 t r) :
  s.post enc P f apart fresh handsOn again W args v W':=by
 have hlt:∀p∈before,p.block < W.heap.size:=fun p hp=>hW.lt p hp
 have hold:∀p∈before,(fun b=>decide (b < W.heap.size)) p.block=true:=fun p hp=>by simpa using hlt p hp
 refine⟨ds,gs,before,[],pa,pv,hW,hres _ _ _,hargs _ hold,hvars _ hold,World.keptBut_mono (fun p hp=>⟨hp,?_⟩) (hb.frame (·∈before)),fun _=>?_⟩
 ·rw[hps,List.mem_append] at hp;exact Or.inr hp
 ·obtain⟨_,_,_,_,_,hz,hn⟩:=hW;refine⟨hok,_,_,([]++pa)++pv,⟨[]++pa,pv,trodAll_append (hargs _ (fun _ _=>rfl)) (hres _ _ _),hvars _ (fun _ _=>rfl),rfl,?_,?_⟩,?_⟩
  ·intro b off hp;have hin:MemPlace.cell b off∈before:=by rw[hps];simpa using hp
   rw[hb.frozen (hlt _ hin)];exact hz b off hin
  ·intro ha;have:=hn ha;rw[hps] at this;simpa using this
  ·intro p hp _;rw[hps];simpa using hp
theorem trodAll_stays(hl:laidOutB P=true) {W W':World} (hb:Below W.heap.size W W') {sp:Nat->Bool} : ∀(ts:List TypeId) (vs:List Value) (ds:List (DataW H)) (ps:List MemPlace),(ts.all fun t=>P.readableRec t && decide (t < P.types.size))=true ->
  DataW.TrodAll enc P W 0 (fun _=>true) true ts vs ds ps->(∀p∈ps,p.block < W.heap.size)->(∀p∈ps,sp p.block=true)->DataW.TrodAll enc P W' 0 sp true ts vs ds ps
 | [],vs,ds,ps,_,h,_,_=>by
  obtain⟨rfl,rfl,rfl⟩:=trodAll_nil h;exact trodAll_mk0
 | t::ts,vs,ds,ps,hr,h,hlt,hsp=>by
  obtain⟨v,vs',d,ds',p,q,rfl,rfl,rfl,h1,h2⟩:=trodAll_cons h;simp only[List.all_cons,Bool.and_eq_true,decide_eq_true_eq] at hr;exact trodAll_cons_mk (WideElems.Trod_stays hl hr.1.1 hr.1.2 h1 (fun x hx=>hb.same (hlt x (List.mem_append_left _ hx))) (fun x hx=>hsp x (List.mem_append_left _ hx)))
   (trodAll_stays hl hb ts vs' ds' q hr.2 h2 (fun x hx=>hlt x (List.mem_append_right _ hx)) (fun x hx=>hsp x (List.mem_append_right _ hx)))
theorem law_post{f:FuncId} {fn:Func} {s:ChangeSpec} {apart fresh handsOn again:Bool} {W:World} {args:Array Value} {ds gs:List (DataW H)} {before:List MemPlace} {tb:TypeId}
  (hl:laidOutB P=true) (hpar:(fn.params.toList.all fun t=>P.readableRec t && decide (t < P.types.size))=true) (hres:fn.resultTypes=#[tb]) (htb:P.underlying tb=some .bool) (hvars:s.vars=[])
  (hW:DataW.Whole enc P fn.params.toList s.vars apart W args.toList ds gs before)
  (hspec:(s.fn H ds).results=[.lit (.bool true)]/\(s.fn H ds).args=ds/\(s.fn H ds).vars=[])
  (hcall:Calls P f args W fun e W'=>e=.returned (.bool true)/\Below W.heap.size W W') :
  Calls P f args W fun e W'=>∃v,e=.returned v/\s.post enc P fn apart fresh handsOn again W args v W':=by
 refine hcall.mono fun e W' ⟨he,hb⟩=>⟨.bool true,he,?_⟩
 have hlt:∀p∈before,p.block < W.heap.size:=fun p hp=>hW.lt p hp
 have hW':=hW;obtain⟨p,q,hA,hV,rfl,-,-⟩:=hW;rw[hvars] at hV;obtain⟨rfl,rfl⟩:=trodVars_none hV;simp only[List.append_nil] at hlt hW';obtain⟨s1,s2,s3⟩:=hspec;refine post_of_below (pa:=p) (pv:=[]) hW' (fun b sp hd=>?_) (fun sp hsp=>?_) (fun sp hsp=>?_) (by simp) hb (ok_one hres rfl (okWide_bool_mk htb _))
 ·rw[List.append_nil,s1,hres];exact trodAll_mk1 (shut_bool htb _)
 ·rw[List.append_nil,s2];exact trodAll_stays hl hb _ _ _ _ hpar hA hlt hsp
 ·rw[List.append_nil,s3,hvars];rfl
end
open Go.Deep
theorem exists_list{α:Type} (d:α) (Q:Nat->α->Prop):∀(n:Nat),(∀i,i < n->∃x,Q i x)->∃l:List α,l.length=n/\∀i,i < n->Q i (l.getD i d)
 | 0,_=>⟨[],rfl,fun _ h=>absurd h (Nat.not_lt_zero _)⟩
 | n+1,h=>by
  obtain⟨l,hl,hq⟩:=exists_list d Q n (fun i hi=>h i (by omega))
  obtain⟨x,hx⟩:=h n (by omega)
  refine⟨l++[x],by simp[hl],fun i hi=>?_⟩
  rcases Nat.lt_or_ge i n with c | c
  ·have:=hq i c;rwa [List.getD_eq_getElem?_getD,List.getElem?_append_left (by omega),<- List.getD_eq_getElem?_getD]
  ·obtain rfl:i=n:=by omega
   rwa [List.getD_eq_getElem?_getD,List.getElem?_append_right (by omega),hl,Nat.sub_self]
section
variable {H:Type} {enc:TypeId×Value->H} {P:Program} {w:World} {base:Nat} {spare:Nat->Bool} {held:Bool}
end
open Go.Proofs
theorem cInt:Tryz.prog.cellsOf 3=1:=by kernel_rfl
theorem cBool:Tryz.prog.cellsOf 4=1:=by kernel_rfl
theorem cString:Tryz.prog.cellsOf 9=1:=by kernel_rfl
theorem cInts:Tryz.prog.cellsOf 44=1:=by kernel_rfl
theorem cRats:Tryz.prog.cellsOf 23=1:=by kernel_rfl
theorem cReaches:Tryz.prog.cellsOf 22=1:=by kernel_rfl
theorem cKernel:Tryz.prog.cellsOf 121=1:=by kernel_rfl
theorem cRat:Tryz.prog.cellsOf 68=3:=by kernel_rfl
theorem cReach:Tryz.prog.cellsOf 123=2:=by kernel_rfl
theorem cClaim:Tryz.prog.cellsOf 75=5:=by kernel_rfl
theorem cForecast:Tryz.prog.cellsOf 25=3:=by kernel_rfl
section
variable {H:Type} {enc:TypeId×Value->H} {w:World} {held:Bool}
theorem list_open{α:Type} {P:Program} {t e:TypeId} {s fuel:Nat} {v:Value} {x:DataW H×List MemPlace} (ec:α->List Value) (Wf:α->Prop) (d:α) (ht:P.underlying t=some (.slice e)) (hs:P.cellsOf e=s) (hpos:0 < s)
  (hone:∀n cs y,cs.length=s->DataW.trod enc P w 0 (fun _=>true) held n e cs=some y->∃x,cs=ec x/\Wf x)
  (h:DataW.trod enc P w 0 (fun _=>true) held fuel t [v]=some x):∃l p c,v=.slice p l.length c/\At w.heap.size w s ec l p c/\∀x∈l,Wf x:=by
 rcases DataW.trod_slice ht h with⟨h0,-⟩ | ⟨a,len,cap,elems,rest,n,rfl,hcs,-,-,hl,hm,hlen,hel,-,-⟩
 ·simp only[List.cons.injEq,and_true] at h0;exact⟨[],none,0,h0,At.nil _ _ _ _,fun x hx=>by cases hx⟩
 ·simp only[List.cons.injEq,and_true] at hcs;subst hcs;by_cases h0:len=0
  ·subst h0;exact⟨[],some a,cap,rfl,At.empty _ _ _ _ _ (by omega),fun x hx=>by cases hx⟩
  ·obtain⟨b,off,spot⟩:=a;have key:∀i,i < len->∃cs y,w.cells? 0 ((⟨b,off,spot⟩ : Addr).add (i*s)) s=some cs/\DataW.trod enc P w 0 (fun _=>true) held n e cs=some y:=fun i hi=>by
    have h1:=hel i hi;rw[hs,List.getElem?_eq_getElem (by omega)] at h1
    obtain⟨cs,h2,h3⟩:=Option.bind_eq_some_iff.1 h1;exact⟨cs,_,h2,h3⟩
   obtain⟨cs0,y0,hc0,-⟩:=key 0 (by omega)
   obtain⟨-,hl0,hat0⟩:=World.cells?_some hc0;have hcell:=hat0 0 hpos;rw[List.getElem?_eq_getElem (by omega)] at hcell
   have hspot:spot=none:=by simpa [Addr.add] using World.cell?_spot hcell
   subst hspot;obtain⟨l,hll,hq⟩:=exists_list d (fun i x=>(∀j u,(ec x)[j]? = some u->w.cell? ⟨b,off+(i*s+j),none⟩=some u)/\Wf x) len fun i hi=>by
    obtain⟨cs,y,hc,hy⟩:=key i hi;obtain⟨-,hl1,hat⟩:=World.cells?_some hc;obtain⟨x,rfl,hx⟩:=hone n cs y hl1 hy;refine⟨x,fun j u hu=>?_,hx⟩
    have hj:j < s:=by
     have:=(List.getElem?_eq_some_iff.1 hu).1;omega
    have:=hat j hj;rw[Addr.add_lit,Addr.add_lit,Nat.add_assoc] at this;exact this.trans hu
   have hg:∀i x,l[i]? = some x->i < len/\l.getD i d=x:=fun i x hx=>⟨by have:=(List.getElem?_eq_some_iff.1 hx).1;omega,getD_of hx⟩
   refine⟨l,some ⟨b,off,none⟩,cap,by rw[hll],⟨by omega,by omega,fun i x hx=>?_⟩,fun x hx=>?_⟩
   ·obtain⟨h1,rfl⟩:=hg i x hx;refine⟨b,off,rfl,?_,(hq i h1).1⟩;rcases Nat.lt_or_ge b w.heap.size with h' | h'
    ·exact h'
    ·simp[World.cell?,Addr.add,Array.getElem?_eq_none h'] at hcell
   ·obtain⟨i,hi⟩:=List.getElem?_of_mem hx;obtain⟨h1,rfl⟩:=hg i x hi;exact(hq i h1).2
theorem int_cell{n:Nat} {cs:List Value} {y:DataW H×List MemPlace} (hl:cs.length=1) (h:DataW.trod enc Tryz.prog w 0 (fun _=>true) held n 3 cs=some y):∃x,cs=intCells x/\True:=by
 match cs,hl with
 | [c0],_ =>
  obtain⟨z,e0,-,-⟩:=DataW.trod_int Tryz.underlying3 h;exact⟨z,e0,trivial⟩
theorem rat_cells{n:Nat} {cs:List Value} {y:DataW H×List MemPlace} (hl:cs.length=3) (h:DataW.trod enc Tryz.prog w 0 (fun _=>true) held n 68 cs=some y):∃x,cs=ratCells x/\True:=by
 match cs,hl with
 | [c0,c1,c2],_ =>
  obtain⟨xs,m,rfl,-,-,hxl,hf⟩:=DataW.trod_struct Tryz.underlying68 h;have hxl3:xs.length=3:=hxl;have g0:DataW.trod enc Tryz.prog w 0 (fun _=>true) held m 4 (([c0,c1,c2].drop 0).take (Tryz.prog.cellsOf 4))=xs[0]?:=hf 0 _ rfl
  rw[cBool,List.getElem?_eq_getElem (by omega)] at g0
  have g1:DataW.trod enc Tryz.prog w 0 (fun _=>true) held m 9 (([c0,c1,c2].drop 1).take (Tryz.prog.cellsOf 9))=xs[1]?:=hf 1 _ rfl
  rw[cString,List.getElem?_eq_getElem (by omega)] at g1
  have g2:DataW.trod enc Tryz.prog w 0 (fun _=>true) held m 9 (([c0,c1,c2].drop 2).take (Tryz.prog.cellsOf 9))=xs[2]?:=hf 2 _ rfl
  rw[cString,List.getElem?_eq_getElem (by omega)] at g2
  obtain⟨b,e0,-⟩:=DataW.trod_bool Tryz.underlying4 g0;obtain⟨s,e1,-,-⟩:=DataW.trod_string Tryz.underlying9 g1;obtain⟨u,e2,-,-⟩:=DataW.trod_string Tryz.underlying9 g2;simp at e0 e1 e2;subst e0 e1 e2;exact⟨⟨b,s,u⟩,rfl,trivial⟩
theorem claim_cells{n:Nat} {cs:List Value} {y:DataW H×List MemPlace} (hl:cs.length=5) (h:DataW.trod enc Tryz.prog w 0 (fun _=>true) held n 75 cs=some y):∃x,cs=claimCells x/\True:=by
 match cs,hl with
 | [c0,c1,c2,c3,c4],_ =>
  obtain⟨xs,m,rfl,-,-,hxl,hf⟩:=DataW.trod_struct Tryz.underlying75 h;have hxl3:xs.length=3:=hxl;have g0:DataW.trod enc Tryz.prog w 0 (fun _=>true) held m 3 (([c0,c1,c2,c3,c4].drop 0).take (Tryz.prog.cellsOf 3))=xs[0]?:=hf 0 _ rfl
  rw[cInt,List.getElem?_eq_getElem (by omega)] at g0
  have g1:DataW.trod enc Tryz.prog w 0 (fun _=>true) held m 3 (([c0,c1,c2,c3,c4].drop 1).take (Tryz.prog.cellsOf 3))=xs[1]?:=hf 1 _ rfl
  rw[cInt,List.getElem?_eq_getElem (by omega)] at g1
  have g2:DataW.trod enc Tryz.prog w 0 (fun _=>true) held m 68 (([c0,c1,c2,c3,c4].drop 2).take (Tryz.prog.cellsOf 68))=xs[2]?:=hf 2 _ rfl
  rw[cRat,List.getElem?_eq_getElem (by omega)] at g2
  obtain⟨a,e0,-,-⟩:=DataW.trod_int Tryz.underlying3 g0;obtain⟨b,e1,-,-⟩:=DataW.trod_int Tryz.underlying3 g1;obtain⟨u,e2,-⟩:=rat_cells (by simp) g2
  simp at e0 e1 e2;obtain⟨e2,e3,e4⟩:=e2;subst e0 e1 e2 e3 e4;exact⟨⟨a,b,u⟩,rfl,trivial⟩
theorem reach_cells{n:Nat} {cs:List Value} {y:DataW H×List MemPlace} (hl:cs.length=2) (h:DataW.trod enc Tryz.prog w 0 (fun _=>true) held n 123 cs=some y):∃x,cs=reachCells x/\At w.heap.size w 1 intCells x.ws x.wp x.wc:=by
 match cs,hl with
 | [c0,c1],_ =>
  obtain⟨xs,m,rfl,-,-,hxl,hf⟩:=DataW.trod_struct Tryz.underlying123 h;have hxl2:xs.length=2:=hxl;have g0:DataW.trod enc Tryz.prog w 0 (fun _=>true) held m 3 (([c0,c1].drop 0).take (Tryz.prog.cellsOf 3))=xs[0]?:=hf 0 _ rfl
  rw[cInt,List.getElem?_eq_getElem (by omega)] at g0
  have g1:DataW.trod enc Tryz.prog w 0 (fun _=>true) held m 121 (([c0,c1].drop 1).take (Tryz.prog.cellsOf 121))=xs[1]?:=hf 1 _ rfl
  rw[cKernel,List.getElem?_eq_getElem (by omega)] at g1
  obtain⟨a,e0,-,-⟩:=DataW.trod_int Tryz.underlying3 g0;simp at e0 g1;subst e0;obtain⟨ys,m2,rfl,-,-,hyl,hf2⟩:=DataW.trod_struct Tryz.underlying121 g1;have hyl1:ys.length=1:=hyl;have g2:DataW.trod enc Tryz.prog w 0 (fun _=>true) held m2 44 (([c1].drop 0).take (Tryz.prog.cellsOf 44))=ys[0]?:=hf2 0 _ rfl
  rw[cInts,List.getElem?_eq_getElem (by omega)] at g2
  simp at g2;obtain⟨l,p,c,rfl,hat,-⟩:=list_open intCells (fun _=>True) 0 Tryz.underlying44 cInt (by decide) (fun _ _ _=>int_cell) g2
  exact⟨⟨a,l,p,c⟩,rfl,hat⟩
theorem rats_open{n:Nat} {v:Value} {y:DataW H×List MemPlace} (h:DataW.trod enc Tryz.prog w 0 (fun _=>true) held n 23 [v]=some y):∃(l:List Rv) (p:Option Addr) (c:Nat),v=.slice p l.length c/\At w.heap.size w 3 ratCells l p c:=by
 obtain⟨l,p,c,h1,h2,-⟩:=list_open ratCells (fun _=>True) zeroR Tryz.underlying23 cRat (by decide) (fun _ _ _=>rat_cells) h
 exact⟨l,p,c,h1,h2⟩
theorem river_open{n:Nat} {v:Value} {y:DataW H×List MemPlace} (h:DataW.trod enc Tryz.prog w 0 (fun _=>true) held n 22 [v]=some y):∃(l:List Rc) (p:Option Addr) (c:Nat),v=.slice p l.length c/\RivAt w.heap.size w l p c:=by
 obtain⟨l,p,c,h1,h2,h3⟩:=list_open reachCells (fun x=>At w.heap.size w 1 intCells x.ws x.wp x.wc) ⟨0,[],none,0⟩ Tryz.underlying22 cReach (by decide) (fun _ _ _=>reach_cells) h
 exact⟨l,p,c,h1,h2,h3⟩
section
variable {r:Reach} {b0:Nat} {v:Value} {d:DataW H} {p:List MemPlace}
theorem forecast_param(hv:Value.okWide Tryz.prog w r b0 25 v) (h:DataW.Trod enc Tryz.prog w 0 (fun _=>true) held 25 v d p):∃(rs:List Rc) (lo hi:List Rv) (rp lp hp:Option Addr) (rc lc hc:Nat),v=.agg #[.slice rp rs.length rc,.slice lp lo.length lc,.slice hp hi.length hc]/\FcAt w.heap.size w rs lo hi rp lp hp rc lc hc:=by
 obtain⟨cs,rfl,hsz⟩:=okWide_struct Tryz.underlying25 hv;obtain⟨fuel,hf⟩:=h;rw[cForecast] at hsz;obtain⟨cl⟩:=cs
 match cl,hsz with
 | [c0,c1,c2],_ =>
  obtain⟨xs,m,rfl,-,-,hxl,hf2⟩:=DataW.trod_struct Tryz.underlying25 hf;have hxl3:xs.length=3:=hxl;have g0:DataW.trod enc Tryz.prog w 0 (fun _=>true) held m 22 (([c0,c1,c2].drop 0).take (Tryz.prog.cellsOf 22))=xs[0]?:=hf2 0 _ rfl
  rw[cReaches,List.getElem?_eq_getElem (by omega)] at g0
  have g1:DataW.trod enc Tryz.prog w 0 (fun _=>true) held m 23 (([c0,c1,c2].drop 1).take (Tryz.prog.cellsOf 23))=xs[1]?:=hf2 1 _ rfl
  rw[cRats,List.getElem?_eq_getElem (by omega)] at g1
  have g2:DataW.trod enc Tryz.prog w 0 (fun _=>true) held m 23 (([c0,c1,c2].drop 2).take (Tryz.prog.cellsOf 23))=xs[2]?:=hf2 2 _ rfl
  rw[cRats,List.getElem?_eq_getElem (by omega)] at g2
  simp at g0 g1 g2;obtain⟨rs,rp,rc,rfl,h0⟩:=river_open g0;obtain⟨lo,lp,lc,rfl,h1⟩:=rats_open g1;obtain⟨hi,hp,hc,rfl,h2⟩:=rats_open g2;exact⟨rs,lo,hi,rp,lp,hp,rc,lc,hc,rfl,h0,h1,h2⟩
theorem claims_param(hv:Value.okWide Tryz.prog w r b0 26 v) (h:DataW.Trod enc Tryz.prog w 0 (fun _=>true) held 26 v d p):∃(l:List Cl) (q:Option Addr) (c:Nat),v=.slice q l.length c/\At w.heap.size w 5 claimCells l q c:=by
 obtain⟨a0,len0,cap0,rfl⟩:=okWide_slice Tryz.underlying26 hv;obtain⟨fuel,hf⟩:=h;obtain⟨l,q,c,h1,h2,-⟩:=list_open claimCells (fun _=>True) noCl Tryz.underlying26 cClaim (by decide) (fun _ _ _=>claim_cells) hf
 exact⟨l,q,c,h1,h2⟩
end
end
theorem cOrder:Tryz.prog.cellsOf 70=4:=by kernel_rfl
theorem cOrders:Tryz.prog.cellsOf 27=1:=by kernel_rfl
theorem cAsked:Tryz.prog.cellsOf 29=2:=by kernel_rfl
section
variable {H:Type} {enc:TypeId×Value->H} {w:World} {held:Bool}
theorem order_cells{n:Nat} {cs:List Value} {y:DataW H×List MemPlace} (hl:cs.length=4) (h:DataW.trod enc Tryz.prog w 0 (fun _=>true) held n 70 cs=some y):∃x,cs=orderCells x/\True:=by
 match cs,hl with
 | [c0,c1,c2,c3],_ =>
  obtain⟨xs,m,rfl,-,-,hxl,hf⟩:=DataW.trod_struct Tryz.underlying70 h;have hxl2:xs.length=2:=hxl;have g0:DataW.trod enc Tryz.prog w 0 (fun _=>true) held m 3 (([c0,c1,c2,c3].drop 0).take (Tryz.prog.cellsOf 3))=xs[0]?:=hf 0 _ rfl
  rw[cInt,List.getElem?_eq_getElem (by omega)] at g0
  have g1:DataW.trod enc Tryz.prog w 0 (fun _=>true) held m 68 (([c0,c1,c2,c3].drop 1).take (Tryz.prog.cellsOf 68))=xs[1]?:=hf 1 _ rfl
  rw[cRat,List.getElem?_eq_getElem (by omega)] at g1
  obtain⟨a,e0,-,-⟩:=DataW.trod_int Tryz.underlying3 g0;obtain⟨u,e1,-⟩:=rat_cells (by simp) g1
  simp at e0 e1;obtain⟨e1,e2,e3⟩:=e1;subst e0 e1 e2 e3;exact⟨⟨a,u⟩,rfl,trivial⟩
variable {r:Reach} {b0:Nat} {v:Value} {d:DataW H} {p:List MemPlace}
theorem asked_param(hv:Value.okWide Tryz.prog w r b0 29 v) (h:DataW.Trod enc Tryz.prog w 0 (fun _=>true) held 29 v d p):∃(os:List Or) (q:Option Addr) (c:Nat) (k:Int),v=.agg #[.slice q os.length c,.int .i64 k]/\At w.heap.size w 4 orderCells os q c:=by
 obtain⟨cs,rfl,hsz⟩:=okWide_struct Tryz.underlying29 hv;obtain⟨fuel,hf⟩:=h;rw[cAsked] at hsz;obtain⟨cl⟩:=cs
 match cl,hsz with
 | [c0,c1],_ =>
  obtain⟨xs,m,rfl,-,-,hxl,hf2⟩:=DataW.trod_struct Tryz.underlying29 hf;have hxl2:xs.length=2:=hxl;have g0:DataW.trod enc Tryz.prog w 0 (fun _=>true) held m 27 (([c0,c1].drop 0).take (Tryz.prog.cellsOf 27))=xs[0]?:=hf2 0 _ rfl
  rw[cOrders,List.getElem?_eq_getElem (by omega)] at g0
  have g1:DataW.trod enc Tryz.prog w 0 (fun _=>true) held m 3 (([c0,c1].drop 1).take (Tryz.prog.cellsOf 3))=xs[1]?:=hf2 1 _ rfl
  rw[cInt,List.getElem?_eq_getElem (by omega)] at g1
  obtain⟨k,e1,-,-⟩:=DataW.trod_int Tryz.underlying3 g1;simp at g0 e1;subst e1;obtain⟨l,q,c,rfl,hat,-⟩:=list_open orderCells (fun _=>True) noOr Tryz.underlying27 cOrder (by decide) (fun _ _ _=>order_cells) g0
  exact⟨l,q,c,k,rfl,hat⟩
end
end Go.Proofs.YtanhhdndgkhcfaaGreatDoor
namespace Go.Proofs.YtanhhdndgkhcfaaGreatDoor.lawSpec
open Go.ChangeShapes Go.WideShapes Go.ChangeAt Go.RowKit
theorem contract(H:Type) (enc:TypeId×Value->H) (W:World) (base:Nat) (args:Array Value) (ds gs:List (DataW H)) (before:List MemPlace)
  (hval:∀(j:Nat) t v,Tryz.f3.params[j]? = some t->args[j]? = some v->Value.okWide Tryz.prog W .any base t v)
  (hW:DataW.Whole enc Tryz.prog Tryz.f3.params.toList Rows.ordersAreAsSpecifiedSpec.vars false W args.toList ds gs before) :
  Calls Tryz.prog 3 args W fun e W'=>∃v,e=.returned v/\Rows.ordersAreAsSpecifiedSpec.post enc Tryz.prog Tryz.f3 false true false false W args v W':=by
 have hW':=hW;obtain⟨p,q,hA0,hV,rfl,hfz,hnd⟩:=hW;have hlt:∀x∈p,x.block < W.heap.size:=fun x hx=>hW'.lt x (List.mem_append_left _ hx)
 have hA:DataW.TrodAll enc Tryz.prog W 0 (fun _=>true) true Tryz.f3.params.toList args.toList ds p:=hA0
 rw[Tryz.params3] at hA hval;obtain⟨v0,vs0,d0,ds0,p0,q0,hargs,rfl,rfl,h0,r0⟩:=trodAll_cons hA;obtain⟨v1,vs1,d1,ds1,p1,q1,rfl,rfl,rfl,h1,r1⟩:=trodAll_cons r0;obtain⟨v2,vs2,d2,ds2,p2,q2,rfl,rfl,rfl,h2,r2⟩:=trodAll_cons r1;obtain⟨rfl,rfl,rfl⟩:=trodAll_nil r2;obtain rfl:args=#[v0,v1,v2]:=by cases args;simp_all
 have hv0:=hval 0 25 v0 rfl rfl;have hv1:=hval 1 26 v1 rfl rfl;have hv2:=hval 2 29 v2 rfl rfl;refine law_post (tb:=4) (by kernel_rfl) (by kernel_rfl) rfl Tryz.underlying4 rfl hW' ⟨rfl,rfl,rfl⟩ ?_
 clear hA0 hW' hV hfz hnd hargs hval;obtain⟨rs,lo,hi,rp,lp,hp,rc,lc,hc,rfl,hf⟩:=forecast_param hv0 h0;obtain⟨cs,cp,cc,rfl,hcl⟩:=claims_param hv1 h1;obtain⟨os,po,co,k,rfl,ho⟩:=asked_param hv2 h2;exact(lawSpec_any rs lo hi cs os rp lp hp cp po rc lc hc cc co k W hf hcl ho).mono fun _ _ h=>⟨h.1,h.2.below (Nat.le_refl _) fun _ h=>h.elim⟩
theorem laid_met(os:Os):laidMet Tryz.prog Rows.ordersAreAsSpecifiedRow.laid ((World.laidAll Tryz.prog os Rows.ordersAreAsSpecifiedRow.laid).forCall (fun _ _=>0) ⟨#[],#[.agg #[.slice none 0 0,.slice none 0 0,.slice none 0 0],.slice none 0 0,.agg #[.slice none 0 0,.int .i64 0]],[]⟩).memory :=
 laidMet_laidAll _ (by kernel_rfl) (by kernel_rfl)
theorem reads(os:Os) {H:Type} (enc:TypeId×Value->H):∃places,DataW.whole enc Tryz.prog ((World.laidAll Tryz.prog os Rows.ordersAreAsSpecifiedRow.laid).forCall (fun _ _=>0) ⟨#[],#[.agg #[.slice none 0 0,.slice none 0 0,.slice none 0 0],.slice none 0 0,.agg #[.slice none 0 0,.int .i64 0]],[]⟩).memory Tryz.f3.params.toList Rows.ordersAreAsSpecifiedSpec.vars false (#[.agg #[.slice none 0 0,.slice none 0 0,.slice none 0 0],.slice none 0 0,.agg #[.slice none 0 0,.int .i64 0]]:Array Value).toList 8=some ([.agg [.nil,.nil,.nil],.nil,.agg [.nil,.lit ((.int .i64 0))]],[],places) :=
 ⟨[],by kernel_rfl⟩
theorem lifted(os:Os) (started:os.Started) (H:Type) (enc:TypeId×Value->H) (F:Stop.Interp) :
  ReturnsInHanded {} Tryz.checked os 3 .any ((OpenSpec.ofChange Rows.ordersAreAsSpecifiedSpec).preRow enc Tryz.prog Tryz.f3 Rows.ordersAreAsSpecifiedRow.domain false Rows.ordersAreAsSpecifiedRow.laid) (((OpenSpec.ofChange Rows.ordersAreAsSpecifiedSpec).at F).post enc Tryz.prog Tryz.f3 false true false false):=by
 obtain⟨places,hx⟩:=reads os enc;refine returnsInHanded_of_row (C:=Tryz.checked) (s:=(OpenSpec.ofChange Rows.ordersAreAsSpecifiedSpec)) ownNone started (by kernel_rfl) Tryz.func3
  (witness_row_atRef (enc:=enc) (C:=Tryz.checked) false (World.laidAll Tryz.prog os Rows.ordersAreAsSpecifiedRow.laid) #[.agg #[.slice none 0 0,.slice none 0 0,.slice none 0 0],.slice none 0 0,.agg #[.slice none 0 0,.int .i64 0]] (World.laidAll_os _ _ _) (by kernel_rfl) (by kernel_rfl) (by kernel_rfl)
   (OpenSpec.preRow_of_cond 8 hx (by kernel_rfl) (fun k hk=>by cases hk) (by kernel_rfl) (laid_met os))) ?_
 intro W base args ds gs before hval hW _ _ _ hL _ _;exact contract H enc W base args ds gs before hval hW
theorem said:Rows.OrdersAreAsSpecifiedSaid :=
 OpenClaim.holds_of_cond 3 Tryz.f3 rfl rfl rfl rfl rfl rfl rfl ⟨rfl,rfl,rfl,rfl,rfl⟩ rfl rfl rfl rfl rfl (by kernel_rfl) Tryz.func3 (by kernel_rfl)
  (of_decide_eq_true (by kernel_rfl)) (by unfold Func.isWrapper;first | (rw[if_pos (by decide +kernel)];kernel_rfl) | (rw[if_neg (by decide +kernel)];exact⟨rfl,rfl⟩))
  (fun os started H enc _ F=>by rw[OpenClaim.pre_eq_preRow];exact lifted os started H enc F)
theorem plain(f:FuncId) (fn:Func) (hf:Tryz.pinned.checked.prog.funcNamed "rivermark/rivermarklaw42.OrdersAreAsSpecified" = some f) (hfn:Tryz.pinned.checked.prog.funcs[f]? = some fn) :
  false=Tryz.pinned.checked.prog.looks []/\∀(j:Nat) t,fn.params[j]? = some t->Tryz.pinned.checked.prog.wantsStandIn t=false:=by
 obtain rfl:f=3:=Option.some.inj ((show Tryz.prog.funcNamed "rivermark/rivermarklaw42.OrdersAreAsSpecified" = some 3 by kernel_rfl).symm.trans hf) |>.symm
 obtain rfl:fn=Tryz.f3:=(Option.some.inj (Tryz.func3.symm.trans hfn)).symm;refine⟨by kernel_rfl,fun j t ht=>?_⟩
 have hall:(Tryz.f3.params.toList.all fun u=>!Tryz.prog.wantsStandIn u)=true:=by kernel_rfl
 have hm:t∈Tryz.f3.params.toList:=by simpa using Array.mem_of_getElem? ht
 exact(show Tryz.prog.wantsStandIn t=false by simpa using List.all_eq_true.1 hall t hm)
theorem card:Rows.OrdersAreAsSpecifiedCardSaid :=
 Claim7.holds_tied_plain_at .later [] _ _ _ _ said (fun _ h=>by cases h) (by kernel_rfl) (fun _ h=>by cases h) ordersAreAsSpecified_row_tie rfl ⟨rfl,rfl⟩ (by kernel_rfl) rfl plain (by kernel_rfl)
#print axioms card
end Go.Proofs.YtanhhdndgkhcfaaGreatDoor.lawSpec
