/- Part 33 of the proof of lawSpec.card: OrdCopy. Conditions: those of each theorem. -/
import Derived.Lib.SlBuf
import Derived.Test.YtanhhdndgkhcfaaGreatDoorSp01
import Derived.Test.YtanhhdndgkhcfaaGreatDoorSp31
namespace Go.Proofs.YtanhhdndgkhcfaaGreatDoor
open Go Go.Proofs Go.RowKit
theorem at_flat{α:Type} {N s c:Nat} {W:World} {enc:α->List Value} (henc:∀x,(enc x).length=s) {l:List α} {b a:Nat} (h:At N W s enc l (some ⟨b,a,none⟩) c) {j:Nat} {v:Value} (hj:(l.flatMap enc)[j]? = some v) (hs:0 < s):W.cell? ⟨b,a+j,none⟩=some v:=by
 have hlt:j < l.length*s:=by
  have:=(List.getElem?_eq_some_iff.1 hj).1;rwa [flat_len enc s henc] at this
 have h1:j / s < l.length:=by
  rw[Nat.div_lt_iff_lt_mul hs];exact hlt
 have h2:j % s < s:=Nat.mod_lt _ hs;have h3:=flatMap_at enc s henc l (j / s) (j % s) h1 h2;have h4:j / s*s+j % s=j:=by rw[Nat.mul_comm];exact Nat.div_add_mod j s
 rw[h4,hj] at h3;obtain⟨b',a',he,-,h5⟩:=h.cel (j / s) (l[j / s]) (List.getElem?_eq_getElem h1);cases he
 have h6:=h5 (j % s) v h3.symm;rwa [h4] at h6
theorem run_copy_rats(w:World) {ty g N:Nat} {l us:List Rv} {ps:Option Addr} {sc:Nat} (hg:OwnR w g l) (hl:l.length=us.length) (hs:At N w 3 ratCells us ps sc) :
  ∃w',(Builtin.copy_ #[23,23] ty #[.slice (some ⟨g,0,none⟩) us.length us.length,.slice ps us.length sc]).run Tryz.prog w=.ok (.int .i64 us.length) w'/\OwnR w' g us/\Turned (fun k=>k=g) w w':=by
 obtain⟨i0,hif,hz0,hz1,hz2⟩:=info_parts infoRat;have hu:Tryz.prog.underlying 23=some (.slice 68):=Tryz.underlying23;have hfl:(us.flatMap ratCells).length=us.length*3:=flat_len ratCells 3 (fun _=>rfl) us
 have hfg:(l.flatMap ratCells).length=us.length*3:=by rw[flat_len ratCells 3 (fun _=>rfl) l,hl]
 have h1:∀v∈us.flatMap ratCells,v.oneCell'=true:=fun v hv=>by
  obtain⟨u,-,h⟩:=List.mem_flatMap.1 hv;simp at h;rcases h with rfl | rfl | rfl <;> rfl
 have hst:=run_storeCells_at Tryz.prog g 0 68 (us.flatMap ratCells) 0 (l.flatMap ratCells).toArray w hg (by simp[hfl,hfg]) h1
 have he:((l.flatMap ratCells).toArray.toList.take (0+0)++us.flatMap ratCells++(l.flatMap ratCells).toArray.toList.drop (0+0+(us.flatMap ratCells).length)).toArray=(us.flatMap ratCells).toArray:=by
  simp[hfl,hfg]
 rw[he] at hst;have key:∀(n:Nat) (cs:List Value) (p:Addr) (w':World),(loadCells p (n*3)).run Tryz.prog w=.ok cs.toArray w->(storeCells ⟨g,0,none⟩ cs).run Tryz.prog w=.ok () w' ->
   (Builtin.copy_ #[23,23] ty #[.slice (some ⟨g,0,none⟩) n n,.slice (some p) n sc]).run Tryz.prog w=.ok (.int .i64 n) w':=fun n cs p w' h2 h3=>by
  simp[Builtin.copy_,run_underlying hu,Builtin.lenOf,Builtin.firstCells,sizeOf,typeInfo,hif,hz1,h2,h3,goInt]
 refine⟨w.setRow g (us.flatMap ratCells).toArray,?_,setRow_heap _ _ _ _ _ _ hg,setRow_turned _ _ _⟩;cases ps with
 | none =>
  have hus:us=[]:=by
   cases us with
   | nil=>rfl
   | cons x us =>
    obtain⟨b,a,h2,-,-⟩:=hs.cel 0 x rfl;cases h2
  subst hus;have hls:l=[]:=List.eq_nil_of_length_eq_zero (by simpa using hl)
  subst hls;simp[Builtin.copy_,run_underlying hu,Builtin.lenOf,Builtin.firstCells,sizeOf,typeInfo,hif,storeCells,goInt];exact(setRow_self w g #[] 68 (0,0) hg).symm
 | some p =>
  obtain⟨b,a,q⟩:=p;refine key us.length (us.flatMap ratCells) _ _ ?_ hst;rw[<- hfl];refine run_loadCells_list (P:=Tryz.prog) w ⟨b,a,q⟩ (us.flatMap ratCells) (fun j v hj=>?_)
  cases us with
  | nil=>simp at hj
  | cons x us =>
   obtain⟨b',a',h2,-,-⟩:=hs.cel 0 x rfl;cases h2
   have:=at_flat (enc:=ratCells) (s:=3) (fun _=>rfl) hs hj (by decide)
   have h2:(⟨b,a,none⟩ : Addr).add j=⟨b,a+j,none⟩:=by
    unfold Addr.add;split
    ·rename_i h3
     rw[h3,Nat.add_zero]
    ·rfl
   rw[h2];exact this
end Go.Proofs.YtanhhdndgkhcfaaGreatDoor
