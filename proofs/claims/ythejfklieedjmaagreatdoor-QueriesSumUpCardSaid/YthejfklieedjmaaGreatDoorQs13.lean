/- Part 13 of the proof of lawSum.card: QryTk, ParShow, LexWalkA, Shelf, LexWalkB, LexWalkC, ParWalkA, ParLays, ParOwn, ParPrA, ParSame, ParSameW, ParPrB, ParPrC, LexWalkD, ParPrD, ParSameV, ParPrE, ParWalkC. Conditions: those of each theorem. -/
import Derived.KernelRfl
import Derived.Test.YthejfklieedjmaaGreatDoorProg
import Derived.WalkKit
import Derived.Deep.QuietTactic
import Derived.BigQuiet
import Derived.Shelf.Strings.Builder1
import Derived.Shelf.Strings.Builder2
import Derived.Shelf.Strings.OnBuilder
import Derived.Shelf.Small.Utf8
import Derived.Shelf.Small.Strs
import Derived.Shelf.Strings.Builder2Cap
import Derived.Shelf.Strconv.Atoi
import Derived.Shelf.Strconv.Itoa0
import Derived.Shelf.Strconv.Itoa1
import Derived.Shelf.LaysM
import Derived.Shelf.Strconv.Itoa2
import Derived.Shelf.Strconv.Itoa3
import Derived.Shelf.Strconv.AtoiErrFast
import Derived.Shelf.Strconv.ParseIntEmpty
import Derived.Shelf.Strconv.AtoiFail
import Derived.Shelf.Strconv.Clone
import Derived.Shelf.Strconv.SyntaxError
import Derived.Shelf.LaysC
import Derived.Shelf.Strconv.ToError
import Derived.Shelf.Strconv.Lower
import Derived.Shelf.Strconv.ParseUint10
import Derived.Shelf.Strconv.ParseUint10Empty
import Derived.Shelf.Strconv.ParseUint10Any
import Derived.Shelf.Strconv.ParseInt10
import Derived.Shelf.Strconv.AtoiLong
import Derived.Shelf.Strconv.AtoiInnerAll
import Derived.Shelf.Strconv.RangeError
import Derived.Shelf.Strconv.ToErrorRange
import Derived.Shelf.Strconv.AtoiAll
import Derived.Shelf.Strconv.ErrVarAll
import Derived.Shelf.Strings.Search1
import Derived.Shelf.Strings.Search2
import Derived.Shelf.Strings.Search3
import Derived.Shelf.Strings.Count
import Derived.Shelf.Strings.Shaped
import Derived.Shelf.Strings.Prefix
import Derived.Shelf.Strings.Fields
import Derived.Shelf.Unicode.Latin
import Derived.Shelf.Strings.Runes
import Derived.Shelf.Strings.AsciiSet
import Derived.Shelf.Unicode.DecodeSlow
import Derived.Shelf.Unicode.Is16White
import Derived.Shelf.Unicode.IsSpaceAny
import Derived.Shelf.Unicode.Is16Any
import Derived.Shelf.Unicode.Is32Any
import Derived.Shelf.Unicode.ExclAny
import Derived.Lib.IndexBytes
import Derived.OwnWalk
import Derived.WalkLawsBesides
import Derived.Deep.CutBlock
import Derived.Deep.DeepCutAuto
import Derived.Maps.OwnOps
import Derived.StillTailTactics
import Derived.Lib.SmallJoins
import Derived.Test.YthejfklieedjmaaGreatDoorQs01
import Derived.Test.YthejfklieedjmaaGreatDoorQs02
import Derived.Test.YthejfklieedjmaaGreatDoorQs08
import Derived.Test.YthejfklieedjmaaGreatDoorQs12
set_option linter.unusedSimpArgs false
set_option maxHeartbeats 2000000
namespace Go.Proofs.YthejfklieedjmaaGreatDoor
open Go Go.Proofs Go.RowKit
theorem kids_at {w : World} {t : TypeId} {M : Nat -> Prop} (xs : List (Ex × Value)) (hl : xs.length <= maxLen) (hk : ∀ p ∈ xs, KidsAt w M p.1.kids p.2) {n : Nat} (c : Nat) (hn : M n) {cs : Array Value} (hb : w.heap[n]? = some (.cells cs t (0, 0))) (hcs : cs.toList = xs.flatMap fun p => exV p.1 p.2) :
  KidsAt w M (xs.map (·.1)) (.slice (some ⟨n, 0, none⟩) xs.length c) := by
 have := KidsAt.some (W := w) (N := M) (xs.map (·.1)) n 0 c (fun i => ((xs[i]?).map (·.2)).getD undef) hn (by rw [List.length_map]; exact hl) (fun i hi j u hu => ?_) (fun i x hx => ?_)
 ·simpa using this
 ·simp only [List.length_map] at hi
  simp only [List.getElem?_map, List.getElem?_eq_getElem hi, Option.map_some, Option.getD_some] at hu
  have hj : j < 5 := by
   have := (List.getElem?_eq_some_iff.1 hu).1
   simpa [exV] using this
  have h2 := flatMap_at (fun p : Ex × Value => exV p.1 p.2) 5 (fun _ => rfl) xs i j hi hj
  rw [hu, <- hcs] at h2
  have h3 : cs[0 + i * 5 + j]? = some u := by rw [Nat.zero_add]; simpa using h2
  show (match w.heap[n]? with | some (.cells c _ _) => c[0 + i * 5 + j]? | _ => none) = some u
  rw [hb]
  exact h3
 ·rw [List.getElem?_map] at hx
  obtain ⟨p, hp, rfl⟩ := Option.map_eq_some_iff.1 hx
  have := hk p (List.mem_of_getElem? hp)
  simpa [hp] using this
theorem five_box {V : World} {b t : Nat} {x0 x1 x2 x3 x4 : Value} (h : V.heap[b]? = some (.cells #[x0, x1, x2, x3, x4] t (0, 0))) : (V.cell? ⟨b, 0, none⟩ = some x0 /\ V.cell? ⟨b, 1, none⟩ = some x1 /\ V.cell? ⟨b, 2, none⟩ = some x2 /\ V.cell? ⟨b, 3, none⟩ = some x3 /\ V.cell? ⟨b, 4, none⟩ = some x4) /\ (V.frozen? ⟨b, 0, none⟩ = false /\ V.frozen? ⟨b, 1, none⟩ = false /\ V.frozen? ⟨b, 2, none⟩ = false /\ V.frozen? ⟨b, 3, none⟩ = false /\ V.frozen? ⟨b, 4, none⟩ = false) :=
 ⟨by simp [World.cell?, h], by simp [World.frozen?, h]⟩
theorem ex_set {w : World} {b t : Nat} {x0 x1 x2 x3 x4 : Value} (h : w.heap[b]? = some (.cells #[x0, x1, x2, x3, x4] t (0, 0))) (v0 v1 v2 v3 v4 : Value) : (((((w.setCell ⟨b, 0, none⟩ v0).setCell ⟨b, 1, none⟩ v1).setCell ⟨b, 2, none⟩ v2).setCell ⟨b, 3, none⟩ v3).setCell ⟨b, 4, none⟩ v4).heap[b]? = some (.cells #[v0, v1, v2, v3, v4] t (0, 0)) /\ Turned (fun k => k = b) w (((((w.setCell ⟨b, 0, none⟩ v0).setCell ⟨b, 1, none⟩ v1).setCell ⟨b, 2, none⟩ v2).setCell ⟨b, 3, none⟩ v3).setCell ⟨b, 4, none⟩ v4) := by
 refine ⟨?_, (((((Turned.refl (fun k => k = b) w).setCell (p := ⟨b, 0, none⟩) rfl v0).setCell (p := ⟨b, 1, none⟩) rfl v1).setCell (p := ⟨b, 2, none⟩) rfl v2).setCell (p := ⟨b, 3, none⟩) rfl v3).setCell (p := ⟨b, 4, none⟩) rfl v4⟩
 rw [setBlock (setBlock (setBlock (setBlock (setBlock h 0 v0) 1 v1) 2 v2) 3 v3) 4 v4]
 simp
section
variable {P : Program} {ops : Array Oper} {Q : Exit -> Act -> World -> Prop} {R : World -> Prop} {G fuel : Nat} {listed : Array Bool} {a : Act} {w : World}
abbrev anyT (P : Program) (ops : Array Oper) (Q : Exit -> Act -> World -> Prop) (R : World -> Prop) (G : Nat) := wpAnyL P .any ops Q R (fun _ => True) G
theorem tk (i : Nat) (v : Value) {oi : Oper} (hR : Hid (R w)) (hy : ∀ V, R V -> (execOp a.eval oi).run P V = .ok (.value v) V) (h : anyT P ops Q R G fuel (listed.setIfInBounds i true) (a.put oi.dst v) w) (hi : ops[i]? = some oi := by rfl) (hs : Region.noSelect ops = true := by kernel_rfl)
  (hf : (Region.free .any ops listed i && (Region.ready .any ops listed).contains i && !(G == i)) = true := by kernel_rfl) (hQ : ∀ c a w, Q (.panic c) (a.put oi.dst v) w -> Q (.panic c) a w := by exact fun _ _ _ h => h) (hw : Region.wanted oi (yielded ops a.tmps) = true := by kernel_rfl) : anyT P ops Q R G (fuel + 1) listed a w :=
 wpAnyL_takeR hi hs hf hQ (Or.inl ⟨hw, hy⟩) hR.out (fun _ => trivial) h
theorem hv (i : Nat) {o : Oper} (h : ∀ K' : Act -> World -> Prop, Shut (∀ a w, R w -> anyT P ops Q R G fuel (listed.setIfInBounds i true) a w -> K' a w) -> if Region.wanted o (yielded ops a.tmps) = true then Oper.wp P o a w K' Q else K' (a.put o.dst undef) w) (ho : ops[i]? = some o := by rfl) (hr : Region.ready .any ops listed = [i] := by kernel_rfl) : anyT P ops Q R G (fuel + 1) listed a w :=
 wpAnyL_one ho hr fun K hK => h K fun a w hR ha => hK.out a w hR (fun _ => trivial) ha
theorem hvOp (i : Nat) (h : wpOp P ops Q i (fun a' w' => R w' /\ (True -> True) /\ anyT P ops Q R G fuel (listed.setIfInBounds i true) a' w') a w) (hr : Region.ready .any ops listed = [i] := by kernel_rfl) : anyT P ops Q R G (fuel + 1) listed a w :=
 ⟨fun h0 => (by rw [hr] at h0; cases h0), fun j hj => by
  rw [hr, List.mem_singleton] at hj
  subst hj
  exact wpOp_mono (fun a' w' h3 => ⟨h3.1, fun _ => trivial, h3.2.2⟩) h⟩
theorem hv2 (i j : Nat) {o p : Oper} (h : ∀ K' : Act -> World -> Prop, Shut (∀ a w, R w -> anyT P ops Q R G fuel (listed.setIfInBounds i true) a w -> K' a w) -> if Region.wanted o (yielded ops a.tmps) = true then Oper.wp P o a w K' Q else K' (a.put o.dst undef) w)
  (h' : ∀ K' : Act -> World -> Prop, Shut (∀ a w, R w -> anyT P ops Q R G fuel (listed.setIfInBounds j true) a w -> K' a w) -> if Region.wanted p (yielded ops a.tmps) = true then Oper.wp P p a w K' Q else K' (a.put p.dst undef) w) (ho : ops[i]? = some o := by rfl) (hp : ops[j]? = some p := by rfl) (hr : Region.ready .any ops listed = [i, j] := by kernel_rfl) : anyT P ops Q R G (fuel + 1) listed a w :=
 ⟨fun h0 => (by rw [hr] at h0; cases h0), fun k hk => by
  rw [hr] at hk
  simp only [List.mem_cons, List.not_mem_nil, or_false] at hk
  rcases hk with rfl | rfl
  ·exact wpOp_step ho fun K' hK => h K' fun a w hR hW => hK a w ⟨hR, fun _ => trivial, hW⟩
  ·exact wpOp_step hp fun K' hK => h' K' fun a w hR hW => hK a w ⟨hR, fun _ => trivial, hW⟩⟩
end
theorem wpOp_pts {W : World} {ops : Array Oper} {o : Oper} {a : Act} {Q : Exit -> Act -> World -> Prop} {j : Nat} {K : Act -> World -> Prop} (ho : ops[j]? = some o) (hw : Region.wanted o (yielded ops a.tmps) = true) (s x : Operand) (hop : o.op = Op.call { callee := Callee.builtin Builtin.append, args := #[s, x], argTypes := #[29, 29] }) (base N : Nat) (v : Value) (l m : List Pt) (p : Option Addr) (cc : Nat) (hs : a.eval s = v) (hown : Grown W base 51 8 partCells v l)
  (hx : a.eval x = .slice p m.length cc) (hn : m ≠ []) (hm : Lst N W 8 partCells m p cc) (hl : l.length + m.length <= 1000) (hb : base <= W.heap.size)
  (hK : ∀ q c w', Grown w' base 51 8 partCells (.slice q (l ++ m).length c) (l ++ m) -> Turned (fun g => v.ownBlock = some g) W w' -> (∀ g, (Value.slice q (l ++ m).length c).ownBlock = some g -> v.ownBlock = some g \/ W.heap.size <= g) -> K (a.put o.dst (.slice q (l ++ m).length c)) w') : wpOp Tryz.prog ops Q j K a W := by
 obtain ⟨i0, hif, hz0, hz1, hz2⟩ := info_parts infoPart
 obtain ⟨b, r, rfl⟩ := hm.some_of hn
 have h1 : ∀ u ∈ m.flatMap partCells, u.oneCell' = true := fun u hu => by
  obtain ⟨x, -, hx⟩ := List.mem_flatMap.1 hu
  simp at hx
  rcases hx with rfl | rfl | rfl | rfl | rfl | rfl | rfl | rfl <;> rfl
 obtain ⟨v', w', hrun, r1, r2, r3⟩ := run_append_exact (P := Tryz.prog) W base 29 o.type 51 i0 (partV ⟨zeroR, 0, 0, 0, 0, 0⟩) 8 80 Tryz.underlying29 hif hz0 hz1 hz2 rfl (by decide) v l.length (l.flatMap partCells) hown ⟨b, r, none⟩ m.length cc (m.flatMap partCells) (flatLen partCells 8 (fun _ => rfl) m) (fun j u hj => by rw [Addr.add_lit]; exact at_flat (enc := partCells) (fun _ => rfl) hm hj (by decide)) h1 (by unfold maxLen; omega) (by omega) hb
 have hg : Grown w' base 51 8 partCells v' (l ++ m) := by
  unfold Grown
  rw [List.length_append, List.flatMap_append]
  exact r1
 obtain ⟨q, c, rfl⟩ := hg.shape
 unfold wpOp
 simp only [ho]
 rw [if_pos hw]
 left
 unfold Oper.wp
 simp [execOp, hop, resolve, invoke, builtin, hs, hx, hrun, Result.andThen]
 have := hK q c w' hg (Turned.of_grown r2 fun k hk => hk) r3
 rw [List.length_append] at this
 exact this
abbrev Pr := List Tok × Bool
def Pr.app (a b : Pr) : Pr := (a.1 ++ b.1, a.2 || b.2)
attribute [local go_sem] Oper.semAt_some
theorem ret_int {k : IntKind} {a b : Int} (h : a = b) : Ending.returned (.int k a) = .returned (.int k b) := by rw [h]
theorem class_any (c : Int) (w : World) (h0 : 0 <= c) (h1 : c <= 255) : Calls Tryz.prog 143 #[.int .u8 c] w fun e w' => e = .returned (.int .i64 (clsI c)) /\ w = w' := by
 go_enter Tryz.func143, Tryz.ntmps143
 go_wp2
 all_goals go_ret
 all_goals refine ⟨ret_int ?_, rfl⟩
 all_goals (unfold clsI; simp at *; omega)
def Rd (W : World) (B : Nat) (s : ByteArray) (k : Int) (v : Value) : Prop := W.heap[B]? = some (.cells #[.string s, .int .i64 k, v] 182 (0, 0))
theorem Rd.cells {W : World} {B : Nat} {s : ByteArray} {k : Int} {v : Value} (h : Rd W B s k v) : W.cell? ⟨B, 0, none⟩ = some (.string s) /\ W.cell? ⟨B, 1, none⟩ = some (.int .i64 k) /\ W.cell? ⟨B, 2, none⟩ = some v := by
 unfold Rd at h; simp [World.cell?, h]
theorem Rd.free {W : World} {B : Nat} {s : ByteArray} {k : Int} {v : Value} (h : Rd W B s k v) (o : Nat) : W.frozen? ⟨B, o, none⟩ = false := by
 unfold Rd at h; simp [World.frozen?, h]
end Go.Proofs.YthejfklieedjmaaGreatDoor
namespace Go.Proofs
open Go.Shelf
def Tryz.lays156_ren : Go.Shelf.Ren := ⟨fun | 156 => 98 | 165 => 134 | 166 => 135 | 169 => 136 | 240 => 161 | 241 => 162 | 276 => 189 | 277 => 190 | n => n, fun | 31 => 119 | 9 => 9 | 3 => 3 | 4 => 4 | 0 => 0 | 20 => 20 | 72 => 222 | 76 => 225 | 70 => 220 | 37 => 192 | 75 => 224 | 127 => 244 | 164 => 276 | 5 => 5 | 80 => 158 | n => n, fun | n => n⟩
theorem Tryz.lays156 : Go.Proofs.Lays.n156 Tryz.prog Tryz.lays156_ren := {
 mixed := by kernel_rfl
 f156 := Tryz.func98.trans (congrArg some (by kernel_rfl))
 f165 := Tryz.func134.trans (congrArg some (by kernel_rfl))
 f166 := Tryz.func135.trans (congrArg some (by kernel_rfl))
 f169 := Tryz.func136.trans (congrArg some (by kernel_rfl))
 f240 := Tryz.func161.trans (congrArg some (by kernel_rfl))
 f241 := Tryz.func162.trans (congrArg some (by kernel_rfl))
 f276 := Tryz.func189.trans (congrArg some (by kernel_rfl))
 f277 := Tryz.func190.trans (congrArg some (by kernel_rfl))
 t0 := Tryz.underlying0
 a0 := Tryz.isAgg0
 z0 := Tryz.sizeOf0
 v0 := Tryz.zeroValue0
 t3 := Tryz.underlying3
 a3 := Tryz.isAgg3
 z3 := Tryz.sizeOf3
 v3 := Tryz.zeroValue3
 t4 := Tryz.underlying4
 a4 := Tryz.isAgg4
 z4 := Tryz.sizeOf4
 v4 := Tryz.zeroValue4
 t9 := Tryz.underlying9
 a9 := Tryz.isAgg9
 z9 := Tryz.sizeOf9
 v9 := Tryz.zeroValue9
 t20 := Tryz.underlying20
 a20 := Tryz.isAgg20
 z20 := Tryz.sizeOf20
 v20 := Tryz.zeroValue20
 t31 := Tryz.underlying119
 a31 := Tryz.isAgg119
 z31 := Tryz.sizeOf119
 v31 := Tryz.zeroValue119
 t37 := Tryz.underlying192
 a37 := Tryz.isAgg192
 z37 := Tryz.sizeOf192
 v37 := Tryz.zeroValue192
 t70 := Tryz.underlying220
 a70 := Tryz.isAgg220
 z70 := Tryz.sizeOf220
 v70 := Tryz.zeroValue220
 t72 := Tryz.underlying222
 a72 := Tryz.isAgg222
 z72 := Tryz.sizeOf222
 v72 := Tryz.zeroValue222
 t75 := Tryz.underlying224
 a75 := Tryz.isAgg224
 z75 := Tryz.sizeOf224
 v75 := Tryz.zeroValue224
 t76 := Tryz.underlying225
 a76 := Tryz.isAgg225
 z76 := Tryz.sizeOf225
 v76 := Tryz.zeroValue225
 t127 := Tryz.underlying244
 a127 := Tryz.isAgg244
 z127 := Tryz.sizeOf244
 v127 := Tryz.zeroValue244
 t164 := Tryz.underlying276
 a164 := Tryz.isAgg276
 z164 := Tryz.sizeOf276
 v164 := Tryz.zeroValue276 }
theorem Tryz.Builder_Extra_156 : Builder.Extra Tryz.prog Tryz.lays156_ren := {
 sizeBuilder := by kernel_rfl
 liesBuilder := by kernel_rfl
 t5 := Tryz.underlying5
 a5 := Tryz.isAgg5
 z5 := Tryz.sizeOf5
 v5 := Tryz.zeroValue5
 infoByte := by kernel_rfl
 cellsByte := by kernel_rfl
 sizeByte := by kernel_rfl
 neB5 := by decide }
open Go.RowKit in
theorem Tryz.strings_Join_none (a : Option Addr) (c : Nat) (sep : ByteArray) (w : World) :
  Calls Tryz.prog 98 #[.slice a 0 c, .string sep] w fun e w' => e = .returned (.string ⟨#[]⟩) /\ w' = w := Any.strings_Join_none Tryz.lays156 Tryz.Builder_Extra_156 a c sep w
open Go.RowKit in
theorem Tryz.strings_Join (bk o c : Nat) (xs : List ByteArray) (sep : ByteArray) (w : World) (hcells : ∀ (j : Nat) x, xs[j]? = some x -> w.cell? ⟨bk, o + j, none⟩ = some (.string x)) (hbk : bk < w.heap.size) (hN : xs.length <= 140737488355328) (hcap : xs.length <= c) (hlen : (Lib.join (xs.map (·.data.toList)) sep.data.toList).length <= 140737488355328) :
  Calls Tryz.prog 98 #[.slice (some ⟨bk, o, none⟩) xs.length c, .string sep] w fun e w' => e = .returned (.string ⟨(Lib.join (xs.map (·.data.toList)) sep.data.toList).toArray⟩) /\ Below w.heap.size w w' := Any.strings_Join Tryz.lays156 Tryz.Builder_Extra_156 bk o c xs sep w hcells hbk hN hcap hlen
def Tryz.lays137_ren : Go.Shelf.Ren := ⟨fun | 137 => 142 | 217 => 164 | 266 => 191 | n => n, fun | 9 => 9 | 5 => 5 | 3 => 3 | n => n, fun | n => n⟩
theorem Tryz.lays137 : Go.Proofs.Lays.n137 Tryz.prog Tryz.lays137_ren := {
 mixed := by kernel_rfl
 f137 := Tryz.func142.trans (congrArg some (by kernel_rfl))
 f217 := Tryz.func164.trans (congrArg some (by kernel_rfl))
 f266 := Tryz.func191.trans (congrArg some (by kernel_rfl))
 t3 := Tryz.underlying3
 a3 := Tryz.isAgg3
 z3 := Tryz.sizeOf3
 v3 := Tryz.zeroValue3
 t5 := Tryz.underlying5
 a5 := Tryz.isAgg5
 z5 := Tryz.sizeOf5
 v5 := Tryz.zeroValue5
 t9 := Tryz.underlying9
 a9 := Tryz.isAgg9
 z9 := Tryz.sizeOf9
 v9 := Tryz.zeroValue9 }
open Go.RowKit in
theorem Tryz.strings_IndexByte (s : ByteArray) (c : Int) (w : World) :
  Calls Tryz.prog 142 #[.string s, .int .u8 c] w fun e w' => e = .returned (.int .i64 (Lib.indexByte s.data.toList c.toNat.toUInt8)) /\ w' = w := Any.strings_IndexByte Tryz.lays137 s c w
def Tryz.lays144_ren : Go.Shelf.Ren := ⟨fun | 144 => 169 | 143 => 197 | 219 => 219 | 217 => 164 | 225 => 238 | 224 => 239 | 267 => 240 | 266 => 191 | 314 => 251 | n => n, fun | 9 => 9 | 4 => 4 | 3 => 3 | 5 => 5 | 46 => 171 | 146 => 354 | 51 => 170 | n => n, fun | 1 => 3 | n => n⟩
theorem Tryz.lays144 : Go.Proofs.Lays.n144 Tryz.prog Tryz.lays144_ren := {
 mixed := by kernel_rfl
 f143 := Tryz.func197.trans (congrArg some (by kernel_rfl))
 f144 := Tryz.func169.trans (congrArg some (by kernel_rfl))
 f217 := Tryz.func164.trans (congrArg some (by kernel_rfl))
 f219 := Tryz.func219.trans (congrArg some (by kernel_rfl))
 f224 := Tryz.func239.trans (congrArg some (by kernel_rfl))
 f225 := Tryz.func238.trans (congrArg some (by kernel_rfl))
 f266 := Tryz.func191.trans (congrArg some (by kernel_rfl))
 f267 := Tryz.func240.trans (congrArg some (by kernel_rfl))
 f314 := Tryz.func251.trans (congrArg some (by kernel_rfl))
 t3 := Tryz.underlying3
 a3 := Tryz.isAgg3
 z3 := Tryz.sizeOf3
 v3 := Tryz.zeroValue3
 t4 := Tryz.underlying4
 a4 := Tryz.isAgg4
 z4 := Tryz.sizeOf4
 v4 := Tryz.zeroValue4
 t5 := Tryz.underlying5
 a5 := Tryz.isAgg5
 z5 := Tryz.sizeOf5
 v5 := Tryz.zeroValue5
 t9 := Tryz.underlying9
 a9 := Tryz.isAgg9
 z9 := Tryz.sizeOf9
 v9 := Tryz.zeroValue9
 t46 := Tryz.underlying171
 a46 := Tryz.isAgg171
 z46 := Tryz.sizeOf171
 v46 := Tryz.zeroValue171
 t51 := Tryz.underlying170
 a51 := Tryz.isAgg170
 z51 := Tryz.sizeOf170
 v51 := Tryz.zeroValue170
 t146 := Tryz.underlying354
 a146 := Tryz.isAgg354
 z146 := Tryz.sizeOf354
 v146 := Tryz.zeroValue354
 g1 := by kernel_rfl }
open Go.RowKit Go.Lib in
theorem Tryz.strings_Contains_one (s : ByteArray) (c : UInt8) (w : World) :
  Calls Tryz.prog 169 #[.string s, .string ⟨#[c]⟩] w fun e w' => e = .returned (.bool (decide (0 <= Lib.indexByte s.data.toList c))) /\ w' = w := Any.strings_Contains_one Tryz.lays144 s c w
def Tryz.lays99_ren : Go.Shelf.Ren := ⟨fun | 99 => 168 | 206 => 196 | n => n, fun | 9 => 9 | 4 => 4 | 3 => 3 | n => n, fun | n => n⟩
theorem Tryz.lays99 : Go.Proofs.Lays.n99 Tryz.prog Tryz.lays99_ren := {
 mixed := by kernel_rfl
 f99 := Tryz.func168.trans (congrArg some (by kernel_rfl))
 f206 := Tryz.func196.trans (congrArg some (by kernel_rfl))
 t3 := Tryz.underlying3
 a3 := Tryz.isAgg3
 z3 := Tryz.sizeOf3
 v3 := Tryz.zeroValue3
 t4 := Tryz.underlying4
 a4 := Tryz.isAgg4
 z4 := Tryz.sizeOf4
 v4 := Tryz.zeroValue4
 t9 := Tryz.underlying9
 a9 := Tryz.isAgg9
 z9 := Tryz.sizeOf9
 v9 := Tryz.zeroValue9 }
open Go.RowKit Go.Lib in
theorem Tryz.strings_HasPrefix (s p : ByteArray) (w : World) :
  Calls Tryz.prog 168 #[.string s, .string p] w fun e w' => e = .returned (.bool (Lib.hasPrefix s.data.toList p.data.toList)) /\ w' = w := Any.strings_HasPrefix Tryz.lays99 s p w
end Go.Proofs
namespace Go.Proofs.YthejfklieedjmaaGreatDoor
open Go Go.Proofs Go.RowKit
attribute [local go_sem] Oper.semAt_some
theorem Rd.turned {C : Nat -> Prop} {W W' : World} {B : Nat} {s : ByteArray} {k : Int} {v : Value} (h : Rd W B s k v) (ht : Turned C W W') (hB : ¬ C B) : Rd W' B s k v := (ht.block B (getElem?_lt h) hB).trans h
theorem Rd.setAt {W : World} {B : Nat} {s : ByteArray} {k k' : Int} {v : Value} (h : Rd W B s k v) : Rd (W.setCell ⟨B, 1, none⟩ (.int .i64 k')) B s k' v := by
 unfold Rd at h ⊢
 simp [World.setCell, Array.getElem?_modify, h]
theorem drewN_turned (C : Nat -> Prop) (W : World) (n : Nat) : Turned C W (W.drewN n) := ⟨rfl, rfl, rfl, Nat.le_refl _, fun _ _ _ => rfl⟩
structure SkipR (w : World) (B : Nat) (s : ByteArray) (v : Value) (k j : Nat) (wr : World) : Prop where
 le : j <= s.size
 eq : blankTo s j = blankTo s k
 rd : Rd wr B s j v
 tur : Turned (fun i => i = B) w wr
theorem SkipR.step {w : World} {B : Nat} {s : ByteArray} {v : Value} {k j : Nat} {wr : World} (h : Hid (SkipR w B s v k j wr)) (j' : Nat) (x : Int) (hx : x = j') (h1 : j' <= s.size) (h2 : blankTo s j' = blankTo s j) : Hid (∀ n, SkipR w B s v k j' ((wr.drewN n).setCell ⟨B, 1, none⟩ (.int .i64 x))) :=
 Lib.hid fun n => by subst hx; exact ⟨h1, h2.trans h.out.eq, Rd.setAt (k := j) h.out.rd, (h.out.tur.trans (drewN_turned _ _ n)).setCell (p := ⟨B, 1, none⟩) rfl _⟩
theorem SkipR.meas {w : World} {B : Nat} {s : ByteArray} {v : Value} {k j : Nat} {wr : World} (h : SkipR w B s v k j wr) : intOf ((wr.cell? ⟨B, 1, none⟩).getD undef) = j := by
 rw [h.rd.cells.2.1]; rfl
theorem SkipR.fin {w : World} {B : Nat} {s : ByteArray} {v : Value} {k j : Nat} {wr : World} (h : Hid (SkipR w B s v k j wr)) (h2 : blankTo s j = j) : Hid (∀ n, Rd (wr.drewN n) B s (blankTo s k) v /\ Turned (fun i => i = B) w (wr.drewN n)) :=
 Lib.hid fun n => ⟨by rw [<- h.out.eq, h2]; exact h.out.rd, h.out.tur.trans (drewN_turned _ _ _)⟩
theorem idx_any (s : ByteArray) (j : Nat) (W : World) : Calls Tryz.prog 142 #[.string (s.extract j s.size), .int .u8 10] W fun e w' => e = .returned (.int .i64 (Lib.indexByte (rest s j) 10)) /\ w' = W := by
 have := Tryz.strings_IndexByte (s.extract j s.size) 10 W
 rw [Lib.extract_to_end] at this
 exact this
theorem skip_any (B : Nat) (s : ByteArray) (k : Nat) (v : Value) (w : World) (hR : Rd w B s k v) (hs : s.size <= 9223372036854775807) (hk : k <= s.size) :
  Calls Tryz.prog 109 #[.pointer (some ⟨B, 0, none⟩)] w fun e w' => e = .returned (.tuple #[]) /\ Rd w' B s (blankTo s k) v /\ Turned (fun i => i = B) w w' := by
 have H0 : Hid (SkipR w B s v k k w) := ⟨hk, rfl, hR, Turned.refl _ _⟩
 clear hR
 go_enter Tryz.func109, Tryz.ntmps109
 go_wp2_with fail
 go_loopw [2] (fun _ wr => ∃ j : Nat, Hid (SkipR w B s v k j wr)) (fun _ wr => s.size - (intOf ((wr.cell? ⟨B, 1, none⟩).getD undef)).toNat)
 case atStart => exact ⟨k, H0⟩
 case round =>
  clear H0
  obtain ⟨j, HS⟩ := hrel
  obtain ⟨c0, c1, c2⟩ := HS.out.rd.cells
  have f1 := HS.out.rd.free 1
  have hj := HS.out.le
  have HM : Hid (intOf ((wr.cell? ⟨B, 1, none⟩).getD undef) = j) := by show _ = _; rw [c1]; rfl
  by_cases hlt : j < s.size
  ·have kl : decide ((j : Int) < s.size) = true := by simpa using hlt
   have kl2 : decide (j < s.size) = true := by simpa using hlt
   have hb : (s[j].toNat : Int) <= 255 := by have := s[j].toNat_lt; omega
   have HC := Lib.hid (fun (W : World) => class_any (s[j].toNat : Int) W (by omega) hb)
   by_cases hh : s[j] = 35
   ·have kh : ((s[j].toNat : Int) == 35) = true := by rw [hh]; rfl
    have HI := Lib.hid (fun (W : World) => idx_any s j W)
    rcases comment_skip s j hlt hh with ⟨h1, h2⟩ | ⟨n, h1, h2, h3, h4⟩
    ·have HF := SkipR.step HS s.size ((j : Int) + ((s.size : Int) - j)) (by omega) (Nat.le_refl _) (by rw [h2, blankTo_end s s.size (Nat.le_refl _)])
     have hw : IntKind.i64.wrap ((s.size : Int) - j) = (s.size : Int) - j := IntWalk.i64_in _ (by omega)
     have hw0 : (0 : Int) <= (s.size : Int) - j := by omega
     clear hh h2
     go_wp2_with fail
     go_quiet (fail)
     go_wp2_with fail
     go_quiet (fail)
     go_wp2_with fail
     go_quiet ((go_at_call 142; (first | exact quiet_add_same (HI.out _) | exact Calls.quiet_of_same (HI.out _))))
     rw [h1]
     go_wp2_with fail
     go_quiet (fail)
     go_wp2_with fail
     exact ⟨⟨s.size, Lib.hid (HF.out _)⟩, by rw [(HF.out _).meas, HM.out]; omega⟩
    ·have HF := SkipR.step HS (j + n) ((j : Int) + n) (by omega) (by omega) h4.symm
     have kn : decide ((n : Int) < 0) = false := by simp
     clear hh h4
     go_wp2_with fail
     go_quiet (fail)
     go_wp2_with fail
     go_quiet (fail)
     go_wp2_with fail
     go_quiet ((go_at_call 142; (first | exact quiet_add_same (HI.out _) | exact Calls.quiet_of_same (HI.out _))))
     rw [h1]
     go_wp2_with fail
     exact ⟨⟨j + n, Lib.hid (HF.out _)⟩, by rw [(HF.out _).meas, HM.out]; omega⟩
   ·have kh : ((s[j].toNat : Int) == 35) = false := by
     have : s[j].toNat ≠ 35 := fun h => hh (UInt8.toNat_inj.1 h)
     simp; omega
    by_cases hc : cls s[j] = 1
    ·have HF := SkipR.step HS (j + 1) ((j : Int) + 1) (by omega) (by omega) (blankTo_blank s j hlt hc).symm
     have kc : (clsI (s[j].toNat : Int) == 1) = true := by simpa [cls] using hc
     clear hh hc
     go_wp2_with fail
     go_quiet (fail)
     go_wp2_with fail
     go_quiet (fail)
     go_wp2_with fail
     refine (HC.out _).mono ?_
     rintro e w' ⟨rfl, rfl⟩
     go_wp2_with fail
     exact ⟨⟨j + 1, Lib.hid (HF.out _)⟩, by rw [(HF.out _).meas, HM.out]; omega⟩
    ·have HF := SkipR.fin HS (blankTo_stop s j hlt hc hh)
     have kc : (clsI (s[j].toNat : Int) == 1) = false := by simpa [cls] using hc
     clear hh hc
     go_wp2_with fail
     go_quiet (fail)
     go_wp2_with fail
     go_quiet (fail)
     go_wp2_with fail
     refine (HC.out _).mono ?_
     rintro e w' ⟨rfl, rfl⟩
     go_wp2_with fail
     refine bodyPost_ret (results_none rfl _ _ _) rfl ?_
     exact ⟨rfl, HF.out _⟩
  ·have HF := SkipR.fin HS (blankTo_end s j (by omega))
   have kl : decide ((j : Int) < s.size) = false := by simp; omega
   have kl2 : decide (j < s.size) = false := by simp; omega
   go_wp2_with fail
   go_quiet (fail)
   go_wp2_with fail
   go_end0
   exact ⟨rfl, HF.out _⟩
def tokV (x : Tok) : List Value := [(.int .i64 x.kind), .int .i64 x.at_, .string x.s, .int .i64 x.n]
def tokRow (ts : List Tok) (i : Nat) : List Value := match ts[i]? with | .some t => tokV t | .none => []
structure PS (B g cap : Nat) (ts : List Tok) (W : World) (k : Nat) (nf : Int) : Prop where
 box : W.heap[B]? = some (.cells #[.slice (some ⟨g, k * 4, none⟩) (ts.length - k) (cap - k), .int .i64 nf] 105 (0, 0))
 toks : RowAt W g 0 4 ts.length (tokRow ts)
 ne : g ≠ B
 ok : TokOK ts
 lt : k < ts.length
 cap1 : ts.length <= cap
 cap2 : cap <= maxLen
section
variable {B g cap : Nat} {ts : List Tok} {W W' : World} {k : Nat} {nf : Int}
theorem PS.ltB (h : PS B g cap ts W k nf) : B < W.heap.size := getElem?_lt h.box
theorem PS.cells (h : PS B g cap ts W k nf) : W.cell? ⟨B, 0, none⟩ = some (.slice (some ⟨g, k * 4, none⟩) (ts.length - k) (cap - k)) /\ W.cell? ⟨B, 1, none⟩ = some (.int .i64 nf) := by
 have := h.box
 simp [World.cell?, this]
theorem PS.free (h : PS B g cap ts W k nf) (o : Nat) : W.frozen? ⟨B, o, none⟩ = false := by
 have := h.box
 simp [World.frozen?, this]
theorem PS.tok (h : PS B g cap ts W k nf) {t : Tok} (ht : ts[k]? = some t) : W.cell? ⟨g, k * 4, none⟩ = some (.int .i64 t.kind) /\ W.cell? ⟨g, k * 4 + 1, none⟩ = some (.int .i64 t.at_) /\ W.cell? ⟨g, k * 4 + 2, none⟩ = some (.string t.s) /\ W.cell? ⟨g, k * 4 + 3, none⟩ = some (.int .i64 t.n) := by
 have hr := h.toks k h.lt
 simp only [tokRow, ht, tokV, Nat.zero_add] at hr
 exact ⟨hr 0 _ rfl, hr 1 _ rfl, hr 2 _ rfl, hr 3 _ rfl⟩
theorem PS.moved {C : Nat -> Prop} (h : PS B g cap ts W k nf) (ht : Turned C W W') (hg : ¬ C g) {j : Nat} {mf : Int} (hj : j < ts.length) (hb : W'.heap[B]? = some (.cells #[.slice (some ⟨g, j * 4, none⟩) (ts.length - j) (cap - j), .int .i64 mf] 105 (0, 0))) : PS B g cap ts W' j mf :=
 ⟨hb, h.toks.turned ht hg, h.ne, h.ok, hj, h.cap1, h.cap2⟩
theorem PS.same {C : Nat -> Prop} (h : PS B g cap ts W k nf) (ht : Turned C W W') (hC : ∀ b, C b -> W.heap.size <= b) : PS B g cap ts W' k nf := by
 have hB := h.ltB
 have hg : g < W.heap.size := by
  obtain ⟨t, ht'⟩ := some_of_lt h.lt
  have h0 := (h.tok ht').1
  rcases Nat.lt_or_ge g W.heap.size with h1 | h1
  ·exact h1
  ·simp [World.cell?, h1] at h0
 exact h.moved ht (fun hc => by have := hC g hc; omega) h.lt ((ht.block B hB (fun hc => by have := hC B hc; omega)).trans h.box)
theorem PS.ltg (h : PS B g cap ts W k nf) : g < W.heap.size := by
 obtain ⟨t, ht'⟩ := some_of_lt h.lt
 have h0 := (h.tok ht').1
 rcases Nat.lt_or_ge g W.heap.size with h1 | h1
 ·exact h1
 ·simp [World.cell?, h1] at h0
end
structure SP (B g cap : Nat) (ts : List Tok) (w W : World) (L : List (Nat × Obj)) (K : List (List Ex × Value)) (k : Nat) (nf : Int) : Prop where
 ps : PS B g cap ts W k nf
 lays : Lays W L
 new : ∀ p ∈ L, w.heap.size <= p.1
 kids : ∀ q ∈ K, KidsAt W (fun b => w.heap.size <= b /\ ∀ p ∈ L, p.1 ≠ b) q.1 q.2
 tur : Turned (fun b => b = B) w W
 ltB : B < w.heap.size
 ltg : g < w.heap.size
 dist : (L.map (·.1)).Nodup
theorem dist_ne {L : List (Nat × Obj)} (h : (L.map (·.1)).Nodup) {i j : Nat} {p q : Nat × Obj} (hi : L[i]? = some p) (hj : L[j]? = some q) (hne : j ≠ i) : q.1 ≠ p.1 := by
 intro he
 have h1 : (L.map (·.1))[j]? = (L.map (·.1))[i]? := by simp [hi, hj, he]
 exact hne ((List.getElem?_inj (by simpa using (List.getElem?_eq_some_iff.1 hj).1) h).1 h1)
section
variable {B g cap : Nat} {ts : List Tok} {w W W' : World} {L : List (Nat × Obj)} {K : List (List Ex × Value)} {k j : Nat} {nf mf : Int}
theorem SP.start (h : PS B g cap ts w k nf) : Hid (SP B g cap ts w w [] [] k nf) :=
 Lib.hid ⟨h, Lays.nil _, (fun _ h => by cases h), (fun _ h => by cases h), Turned.refl _ _, h.ltB, h.ltg, by simp⟩
theorem Lays.turned {C : Nat -> Prop} (h : Lays W L) (ht : Turned C W W') (hC : ∀ p ∈ L, ¬ C p.1) : Lays W' L := fun p hp => (ht.block p.1 (getElem?_lt (h p hp)) (hC p hp)).trans (h p hp)
theorem SP.same (h : Hid (SP B g cap ts w W L K k nf)) (ht : Turned (fun _ => False) W W') : Hid (SP B g cap ts w W' L K k nf) :=
 Lib.hid ⟨h.out.ps.same ht (fun _ h => h.elim), h.out.lays.turned ht fun _ _ => id, h.out.new, fun q hq => (h.out.kids q hq).move ht (fun _ _ => id) (fun _ h _ => h), h.out.tur.trans (ht.mono fun _ h => h.elim), h.out.ltB, h.out.ltg, h.out.dist⟩
theorem SP.call (h : Hid (SP B g cap ts w W L K k nf)) (ht : Turned (fun b => b = B) W W') (hp : PS B g cap ts W' j mf) : Hid (SP B g cap ts w W' L K j mf) := by
 have hB := h.out.ltB
 exact Lib.hid ⟨hp, h.out.lays.turned ht fun p hp => (by have := h.out.new p hp; omega), h.out.new, fun q hq => (h.out.kids q hq).move ht (fun b hb => by have := hb.1; omega) (fun _ h _ => h), h.out.tur.trans ht, hB, h.out.ltg, h.out.dist⟩
theorem SP.size (h : Hid (SP B g cap ts w W L K k nf)) : w.heap.size <= W.heap.size := h.out.tur.size
theorem SP.below (h : Hid (SP B g cap ts w W L K k nf)) : ∀ p ∈ L, p.1 < W.heap.size := fun p hp => getElem?_lt (h.out.lays p hp)
theorem SP.box (h : Hid (SP B g cap ts w W L K k nf)) (o : Obj) : ∃ W1 b, W1 = W.alloc o /\ b = W.heap.size /\ Hid (SP B g cap ts w W1 ((b, o) :: L) K k nf) := by
 have ht : Turned (fun _ => False) W (W.alloc o) := (Turned.refl _ _).alloc _
 refine ⟨_, _, rfl, rfl, Lib.hid ⟨h.out.ps.same ht (fun _ h => h.elim), fun p hp => ?_, fun p hp => ?_, fun q hq => ?_, h.out.tur.trans (ht.mono fun _ h => h.elim), h.out.ltB, h.out.ltg, ?_⟩⟩
 ·rcases List.mem_cons.1 hp with rfl | hp
  ·exact World.alloc_heap_new _ _
  ·exact h.out.lays.turned ht (fun _ _ => id) p hp
 ·rcases List.mem_cons.1 hp with rfl | hp
  ·exact SP.size h
  ·exact h.out.new p hp
 ·refine (h.out.kids q hq).move ht (fun _ _ => id) (fun b hb hlt => ⟨hb.1, fun p hp => ?_⟩)
  rcases List.mem_cons.1 hp with rfl | hp
  ·exact fun h => by have : W.heap.size = b := h; omega
  ·exact hb.2 p hp
 ·rw [List.map_cons, List.nodup_cons]
  refine ⟨fun hm => ?_, h.out.dist⟩
  obtain ⟨p, hp, he⟩ := List.mem_map.1 hm
  have := SP.below h p hp
  have he2 : p.1 = W.heap.size := he
  omega
theorem mem_set_cases {α : Type} {l : List α} {i : Nat} {a p : α} (h : p ∈ l.set i a) : p = a \/ p ∈ l := by
 rcases List.mem_or_eq_of_mem_set h with h | h
 ·exact .inr h
 ·exact .inl h
theorem SP.put (h : Hid (SP B g cap ts w W L K k nf)) (i : Nat) {b : Nat} {o o' : Obj} (hi : L[i]? = some (b, o)) (ht : Turned (fun c => c = b) W W') (hb : W'.heap[b]? = some o') : Hid (SP B g cap ts w W' (L.set i (b, o')) K k nf) := by
 have hd : ∀ j p, L[j]? = some p -> j ≠ i -> p.1 ≠ b := fun j p hj hne => dist_ne h.out.dist hi hj hne
 have hm : (b, o) ∈ L := List.mem_of_getElem? hi
 have hwb : w.heap.size <= b := h.out.new _ hm
 have hB := h.out.ltB
 have hg := h.out.ltg
 have hblt := SP.below h _ hm
 refine Lib.hid ⟨?_, fun p hp => ?_, fun p hp => ?_, fun q hq => ?_, ?_, hB, hg, ?_⟩
 ·exact h.out.ps.moved ht (by omega) h.out.ps.lt ((ht.block B h.out.ps.ltB (by omega)).trans h.out.ps.box)
 ·obtain ⟨m, hm2⟩ := List.mem_iff_getElem?.1 hp
  rw [List.getElem?_set] at hm2
  split at hm2
  ·split at hm2
   ·cases hm2; exact hb
   ·cases hm2
  ·rename_i hne
   exact (ht.block p.1 (SP.below h p (List.mem_of_getElem? hm2)) (hd m p hm2 (Ne.symm hne))).trans (h.out.lays p (List.mem_of_getElem? hm2))
 ·rcases mem_set_cases hp with rfl | hp
  ·exact hwb
  ·exact h.out.new p hp
 ·refine (h.out.kids q hq).move ht (fun c hc => fun h => hc.2 _ hm h.symm) (fun c hc _ => ⟨hc.1, fun p hp => ?_⟩)
  rcases mem_set_cases hp with rfl | hp
  ·exact hc.2 (b, o) hm
  ·exact hc.2 p hp
 ·refine ⟨ht.os.trans h.out.tur.os, ht.tape.trans h.out.tur.tape, ht.output.trans h.out.tur.output, Nat.le_trans h.out.tur.size ht.size, fun c hc hn => ?_⟩
  exact (ht.block c (Nat.lt_of_lt_of_le hc h.out.tur.size) (by omega)).trans (h.out.tur.block c hc hn)
 ·have e : (L.set i (b, o')).map (·.1) = L.map (·.1) := by
   rw [List.map_set]
   have h1 : (L.map (·.1))[i]? = some b := by simp [hi]
   obtain ⟨h2, h3⟩ := List.getElem?_eq_some_iff.1 h1
   conv => lhs; rw [show b = (L.map (·.1))[i] from h3.symm]
   exact List.set_getElem_self h2
  rw [e]; exact h.out.dist
def lenOf (v : Value) : Nat := match v with | .slice _ n _ => n | _ => 0
theorem PS.len (h : PS B g cap ts W k nf) : lenOf ((W.cell? ⟨B, 0, none⟩).getD undef) = ts.length - k := by
 rw [h.cells.1]; rfl
end
theorem cellsFive {V : World} {N t : Nat} {a b c d e : Value} (h : V.heap[N]? = some (.cells #[a, b, c, d, e] t (0, 0))) : V.cell? ⟨N, 0, none⟩ = some a /\ V.cell? ⟨N, 1, none⟩ = some b /\ V.cell? ⟨N, 2, none⟩ = some c /\ V.cell? ⟨N, 3, none⟩ = some d /\ V.cell? ⟨N, 4, none⟩ = some e := by
 simp [World.cell?, h]
theorem box_set {V : World} {N t i : Nat} {cs : Array Value} {v : Value} (h : V.heap[N]? = some (.cells cs t (0, 0))) : (V.setCell ⟨N, i, none⟩ v).heap[N]? = some (.cells (cs.setIfInBounds i v) t (0, 0)) := by
 simp [World.setCell, Array.getElem?_modify, h]
def Mov {α : Type} (at_ : World -> (Nat -> Prop) -> α -> Prop) : Prop := ∀ (W W' : World) (N M C : Nat -> Prop) (p : α), at_ W N p -> Turned C W W' -> (∀ b, N b -> ¬ C b) -> (∀ b, N b -> b < W.heap.size -> M b) -> at_ W' M p
structure Own {α : Type} (W : World) (lo e size : Nat) (enc : α -> List Value) (at_ : World -> (Nat -> Prop) -> α -> Prop) (v : Value) (n : Nat) (ps : List α) : Prop where
 own : W.ownsRow lo e size v n (ps.flatMap enc)
 kids : ∀ p ∈ ps, at_ W (fun b => lo <= b /\ ∀ g, v.ownBlock = some g -> b ≠ g) p
 top : lo <= W.heap.size
section
variable {α : Type} {W W' : World} {lo e size n : Nat} {enc : α -> List Value} {at_ : World -> (Nat -> Prop) -> α -> Prop} {v : Value} {ps : List α}
theorem Own.start (h : lo <= W.heap.size) : Hid (Own W lo e size enc at_ (.slice none 0 0) 0 []) :=
 Lib.hid ⟨⟨by simp, .inl ⟨rfl, rfl⟩⟩, fun _ h => (by cases h), h⟩
theorem Own.move (h : Hid (Own W lo e size enc at_ v n ps)) (hm : Mov at_) {C : Nat -> Prop} (ht : Turned C W W') (hC : ∀ b, C b -> b < lo) : Hid (Own W' lo e size enc at_ v n ps) :=
 Lib.hid ⟨ownsRow_turned ht hC h.out.own, fun p hp => hm _ _ _ _ _ p (h.out.kids p hp) ht (fun b hb hc => by have := hC b hc; have := hb.1; omega) (fun _ hb _ => hb), Nat.le_trans h.out.top ht.size⟩
theorem Own.fresh (h : Hid (Own W lo e size enc at_ v n ps)) (hm : Mov at_) {p : α} (hp : at_ W' (fun b => W.heap.size <= b) p) : at_ W' (fun b => lo <= b /\ ∀ g, v.ownBlock = some g -> b ≠ g) p := by
 refine hm _ _ _ _ (fun _ => False) p hp (Turned.refl _ _) (fun _ _ => id) (fun b hb _ => ⟨Nat.le_trans h.out.top hb, fun g hg he => ?_⟩)
 have := (ownsRow_block h.out.own g hg).2
 omega
end
section
variable {B g cap : Nat} {ts : List Tok} {w W W' : World} {L : List (Nat × Obj)} {k : Nat} {nf : Int}
end
def fmEnc (p : Fm × Value × Value) : List Value := fmV p.1 p.2.1 p.2.2
def fmAt (W : World) (N : Nat -> Prop) (p : Fm × Value × Value) : Prop := ArgsAt W N p.1.args p.2.1 /\ FormsAt W N p.1.body p.2.2
theorem fmMov : Mov fmAt := fun _ _ _ _ _ _ h ht hC hM => ⟨ArgsAt.move h.1 ht hC hM, FormsAt.move h.2 ht hC hM⟩
def PrS (B : Nat) (ts : List Tok) (bad : Bool) (W : World) : Prop := ∃ v, W.heap[B]? = some (.cells #[v, .bool bad] 123 (0, 0)) /\ W.ownsRow (B + 1) 102 4 v ts.length (ts.flatMap tokV)
def Free (B : Nat) (W : World) (b : Nat) : Prop := b ≠ B /\ ∀ v x, W.heap[B]? = some (.cells #[v, x] 123 (0, 0)) -> v.ownBlock ≠ some b
structure PrT (B : Nat) (w w' : World) : Prop where
 os : w'.os = w.os
 tape : w'.tape = w.tape
 output : w'.output = w.output
 size : w.heap.size <= w'.heap.size
 keep : ∀ b, b < w.heap.size -> Free B w b -> w'.heap[b]? = w.heap[b]? /\ Free B w' b
theorem PrT.refl (B : Nat) (w : World) : PrT B w w := ⟨rfl, rfl, rfl, Nat.le_refl _, fun _ _ h => ⟨rfl, h⟩⟩
theorem PrT.trans {B : Nat} {a b c : World} (h : PrT B a b) (k : PrT B b c) : PrT B a c :=
 ⟨k.os.trans h.os, k.tape.trans h.tape, k.output.trans h.output, Nat.le_trans h.size k.size, fun x hx hf => by
  obtain ⟨h1, h2⟩ := h.keep x hx hf
  obtain ⟨h3, h4⟩ := k.keep x (Nat.lt_of_lt_of_le hx h.size) h2
  exact ⟨h3.trans h1, h4⟩⟩
theorem PrS.lt {B : Nat} {ts : List Tok} {bad : Bool} {W : World} (h : PrS B ts bad W) : B < W.heap.size := by
 obtain ⟨v, h1, -⟩ := h
 exact getElem?_lt h1
theorem PrS.same {B : Nat} {ts : List Tok} {bad : Bool} {W W' : World} (h : PrS B ts bad W) (ht : Turned (fun _ => False) W W') : PrS B ts bad W' /\ PrT B W W' := by
 have hlt := h.lt
 obtain ⟨v, h1, h2⟩ := h
 have hb := ht.block B hlt id
 refine ⟨⟨v, hb.trans h1, ownsRow_turned' ht (fun _ _ => id) h2⟩, ht.os, ht.tape, ht.output, ht.size, fun b hlt hf => ⟨ht.block b hlt id, hf.1, fun u x hu => hf.2 u x (by rw [<- hb]; exact hu)⟩⟩
theorem PrS.data {B : Nat} {ts : List Tok} {bad : Bool} {W : World} (h : PrS B ts bad W) {b : Nat} (hb : b < B) : Free B W b := by
 obtain ⟨v, h1, h2⟩ := h
 refine ⟨by omega, fun u x hu he => ?_⟩
 rw [h1] at hu
 cases hu
 have := (ownsRow_block h2 b he).1
 omega
theorem PrS.fresh {B : Nat} {ts : List Tok} {bad : Bool} {W W' : World} (h : PrS B ts bad W) (ht : Turned (fun _ => False) W W') {b : Nat} (hb : W.heap.size <= b) : Free B W' b := by
 have hlt := h.lt
 obtain ⟨v, h1, h2⟩ := h
 refine ⟨by omega, fun u x hu he => ?_⟩
 rw [ht.block B hlt id, h1] at hu
 cases hu
 have := (ownsRow_block h2 b he).2
 omega
theorem PrT.turned {B : Nat} {w w' : World} (h : PrT B w w') : Turned (fun b => ¬ Free B w b) w w' := ⟨h.os, h.tape, h.output, h.size, fun b hb hf => (h.keep b hb (Classical.not_not.1 hf)).1⟩
mutual
def sameX (o : Bool) : Ex -> Ex -> Bool
 | .mk p n s ks a, .mk q m t ls b =>
  p == q && (p != 1 || n == m) && (!(decide (2 <= p) && decide (p <= 4)) || s.data.toList == t.data.toList) && (!o || a == b) && (decide (1 <= p) && decide (p <= 3) || sameXs o ks ls)
def sameXs (o : Bool) : List Ex -> List Ex -> Bool
 | [], [] => true
 | x :: xs, y :: ys => sameX o x y && sameXs o xs ys
 | _, _ => false
end
def sameA (o : Bool) (x y : Ar) : Bool :=
 x.kind == y.kind && (!o || x.at_ == y.at_) && (!(x.kind == 1 || x.kind == 3) || x.s.data.toList == y.s.data.toList) && (x.kind != 2 || x.n == y.n) && (x.kind != 5 || sameX o x.e y.e)
def sameAs (o : Bool) : List Ar -> List Ar -> Bool
 | [], [] => true
 | x :: xs, y :: ys => sameA o x y && sameAs o xs ys
 | _, _ => false
mutual
def sameF (o : Bool) : Fm -> Fm -> Bool
 | .mk w as_ fs a, .mk v bs gs b => w.data.toList == v.data.toList && (!o || a == b) && sameAs o as_ bs && sameFs o fs gs
def sameFs (o : Bool) : List Fm -> List Fm -> Bool
 | [], [] => true
 | x :: xs, y :: ys => sameF o x y && sameFs o xs ys
 | _, _ => false
end
theorem sameXs_iff (o : Bool) : ∀ xs ys : List Ex, sameXs o xs ys = true ↔ xs.length = ys.length /\ ∀ (i : Nat) (x y : Ex), xs[i]? = some x -> ys[i]? = some y -> sameX o x y = true
 | [], [] => by simp [sameXs]
 | x :: xs, y :: ys => by
  simp only [sameXs, Bool.and_eq_true, sameXs_iff o xs ys, List.length_cons]
  constructor
  ·rintro ⟨h, hl, hi⟩
   refine ⟨by omega, fun i a b ha hb => ?_⟩
   cases i with
   | zero => simp at ha hb; subst ha hb; exact h
   | succ i => exact hi i a b (by simpa using ha) (by simpa using hb)
  ·rintro ⟨hl, hi⟩
   exact ⟨hi 0 x y rfl rfl, by omega, fun i a b ha hb => hi (i + 1) a b (by simpa using ha) (by simpa using hb)⟩
 | [], _ :: _ => by simp [sameXs]
 | _ :: _, [] => by simp [sameXs]
theorem sameAs_iff (o : Bool) : ∀ xs ys : List Ar, sameAs o xs ys = true ↔ xs.length = ys.length /\ ∀ (i : Nat) (x y : Ar), xs[i]? = some x -> ys[i]? = some y -> sameA o x y = true
 | [], [] => by simp [sameAs]
 | x :: xs, y :: ys => by
  simp only [sameAs, Bool.and_eq_true, sameAs_iff o xs ys, List.length_cons]
  constructor
  ·rintro ⟨h, hl, hi⟩
   refine ⟨by omega, fun i a b ha hb => ?_⟩
   cases i with
   | zero => simp at ha hb; subst ha hb; exact h
   | succ i => exact hi i a b (by simpa using ha) (by simpa using hb)
  ·rintro ⟨hl, hi⟩
   exact ⟨hi 0 x y rfl rfl, by omega, fun i a b ha hb => hi (i + 1) a b (by simpa using ha) (by simpa using hb)⟩
 | [], _ :: _ => by simp [sameAs]
 | _ :: _, [] => by simp [sameAs]
theorem sameFs_iff (o : Bool) : ∀ xs ys : List Fm, sameFs o xs ys = true ↔ xs.length = ys.length /\ ∀ (i : Nat) (x y : Fm), xs[i]? = some x -> ys[i]? = some y -> sameF o x y = true
 | [], [] => by simp [sameFs]
 | x :: xs, y :: ys => by
  simp only [sameFs, Bool.and_eq_true, sameFs_iff o xs ys, List.length_cons]
  constructor
  ·rintro ⟨h, hl, hi⟩
   refine ⟨by omega, fun i a b ha hb => ?_⟩
   cases i with
   | zero => simp at ha hb; subst ha hb; exact h
   | succ i => exact hi i a b (by simpa using ha) (by simpa using hb)
  ·rintro ⟨hl, hi⟩
   exact ⟨hi 0 x y rfl rfl, by omega, fun i a b ha hb => hi (i + 1) a b (by simpa using ha) (by simpa using hb)⟩
 | [], _ :: _ => by simp [sameFs]
 | _ :: _, [] => by simp [sameFs]
def exA (x : Ex) (k : Value) : Value := .agg #[.int .i64 x.op, .int .i64 x.n, .string x.s, k, .int .i64 x.at_]
theorem KidsAt.len {W : World} {N : Nat -> Prop} {l : List Ex} {v : Value} (h : KidsAt W N l v) : l.length <= maxLen := by
 cases h with
 | nil => simp
 | some _ _ _ _ _ _ hl => exact hl
theorem kidsAt_get {W : World} {N : Nat -> Prop} {l : List Ex} {p : Option Addr} {n c i : Nat} {x : Ex} (h : KidsAt W N l (.slice p n c)) (hi : l[i]? = some x) :
  ∃ b a k, p = some ⟨b, a, none⟩ /\ (W.cell? ⟨b, a + i * 5, none⟩ = some (.int .i64 x.op) /\ W.cell? ⟨b, a + i * 5 + 1, none⟩ = some (.int .i64 x.n) /\ W.cell? ⟨b, a + i * 5 + 2, none⟩ = some (.string x.s) /\ W.cell? ⟨b, a + i * 5 + 3, none⟩ = some k /\ W.cell? ⟨b, a + i * 5 + 4, none⟩ = some (.int .i64 x.at_)) /\ KidsAt W N x.kids k := by
 cases h with
 | nil => simp at hi
 | some _ b a c k hN hl hcell hk =>
  have hlt := lt_of_some hi
  have hc := hcell i hlt
  simp only [hi, exV] at hc
  exact ⟨b, a, k i, rfl, ⟨hc 0 _ rfl, hc 1 _ rfl, hc 2 _ rfl, hc 3 _ rfl, hc 4 _ rfl⟩, hk i x hi⟩
theorem KidsAt.all {W W' : World} {N : Nat -> Prop} {l : List Ex} {v : Value} (h : KidsAt W N l v) (ht : Turned (fun _ => False) W W') : KidsAt W' (fun _ => True) l v := h.move ht (fun _ _ => id) (fun _ _ _ => trivial)
def SameTo (o : Bool) (xs ys : List Ex) (i : Nat) : Prop := ∀ (j : Nat) (x y : Ex), j < i -> xs[j]? = some x -> ys[j]? = some y -> sameX o x y = true
theorem SameTo.succ {o : Bool} {xs ys : List Ex} {i : Nat} {x y : Ex} (h : SameTo o xs ys i) (hx : xs[i]? = some x) (hy : ys[i]? = some y) (hs : sameX o x y = true) : SameTo o xs ys (i + 1) := fun j u v hj hu hv => by
 rcases Nat.lt_or_ge j i with h1 | h1
 ·exact h j u v h1 hu hv
 ·obtain rfl : j = i := by omega
  rw [hx] at hu; rw [hy] at hv; cases hu; cases hv; exact hs
theorem SameTo.done {o : Bool} {xs ys : List Ex} (h : SameTo o xs ys xs.length) (hl : xs.length = ys.length) : sameXs o xs ys = true := (sameXs_iff o xs ys).2 ⟨hl, fun i x y hx hy => h i x y (lt_of_some hx) hx hy⟩
open Go.Maps
def opOf (op : Int) : Option Nat := opRows.findIdx? fun r => r.2.1 == op
structure OJ (op : Int) (w : World) (i : Nat) (wr : World) : Prop where
 tur : Turned (fun _ => False) w wr
 no : ∀ j r, j < i -> opRows[j]? = some r -> (r.2.1 == op) = false
theorem OJ.next {op : Int} {w wr wr' : World} {i : Nat} {r : ByteArray × Int × Nat} (h : OJ op w i wr) (hr : opRows[i]? = some r) (hy : (r.2.1 == op) = false) (hT : Turned (fun _ => False) wr wr') : OJ op w (i + 1) wr' :=
 ⟨h.tur.trans hT, fun j r hj hjr => by
  rcases Nat.lt_or_ge j i with h1 | h1
  ·exact h.no j r h1 hjr
  ·obtain rfl : j = i := by omega
   rw [hr] at hjr; cases hjr; exact hy⟩
theorem OJ.none {op : Int} {w wr : World} (h : OJ op w 13 wr) : opOf op = .none := by
 unfold opOf
 rw [List.findIdx?_eq_none_iff]
 intro x hx
 obtain ⟨j, hj, rfl⟩ := List.mem_iff_getElem.1 hx
 have h3 := h.no j opRows[j] (by simpa [opRows] using hj) (List.getElem?_eq_getElem hj)
 rw [h3]
structure XE (B eb : Nat) (x : Ex) (a : Value) (w : World) (ts : List Tok) (bad : Bool) (W : World) : Prop where
 ps : PrS B ts bad W
 tr : PrT B w W
 box : W.heap[eb]? = some (.cells #[.int .i64 x.op, .int .i64 x.n, .string x.s, a, .int .i64 x.at_] 42 (0, 0))
 fr : Free B W eb
 kids : KidsAt W (fun b => b < B) x.kids a
section
variable {B eb : Nat} {x : Ex} {a : Value} {w W W' : World} {ts us : List Tok} {bad bad' : Bool}
theorem XE.start (h : PrS B ts bad w) (hk : KidsAt w (fun b => b < B) x.kids a) : XE B w.heap.size x a w ts bad (w.alloc (.cells #[.int .i64 x.op, .int .i64 x.n, .string x.s, a, .int .i64 x.at_] 42)) := by
 have ht : Turned (fun _ => False) w (w.alloc (.cells #[.int .i64 x.op, .int .i64 x.n, .string x.s, a, .int .i64 x.at_] 42)) := (Turned.refl _ _).alloc _
 obtain ⟨h1, h2⟩ := h.same ht
 exact ⟨h1, h2, heap_alloc_new _ _, h.fresh ht (Nat.le_refl _), hk.move ht (fun _ _ => id) (fun _ hb _ => hb)⟩
theorem XE.call (h : Hid (XE B eb x a w ts bad W)) (hp : PrS B us bad' W') (ht : PrT B W W') : Hid (XE B eb x a w us bad' W') := by
 have hlt := getElem?_lt h.out.box
 obtain ⟨h1, h2⟩ := ht.keep eb hlt h.out.fr
 exact Lib.hid ⟨hp, h.out.tr.trans ht, h1.trans h.out.box, h2, h.out.kids.move ht.turned (fun b hb hn => hn (h.out.ps.data hb)) (fun _ hb _ => hb)⟩
theorem XE.same (h : Hid (XE B eb x a w ts bad W)) (ht : Turned (fun _ => False) W W') : Hid (XE B eb x a w ts bad W') := by
 obtain ⟨h1, h2⟩ := h.out.ps.same ht
 exact XE.call h h1 h2
theorem XE.cells (h : Hid (XE B eb x a w ts bad W)) : W.cell? ⟨eb, 0, none⟩ = some (.int .i64 x.op) /\ W.cell? ⟨eb, 1, none⟩ = some (.int .i64 x.n) /\ W.cell? ⟨eb, 2, none⟩ = some (.string x.s) /\ W.cell? ⟨eb, 3, none⟩ = some a /\ W.cell? ⟨eb, 4, none⟩ = some (.int .i64 x.at_) := by
 have hb := h.out.box
 simp [World.cell?, hb]
end
inductive TR where
 | none
 | err (c : Int)
 | tok (t : Tok) (tt : Nat)
def VarAt (n : Nat) (w : World) (name : String) (cs : Array Value) : Prop := w.var? Tryz.prog name = some cs /\ ∀ g, Tryz.prog.globalNamed name = some g -> g < n
theorem VarAt.turned {n : Nat} {C : Nat -> Prop} {w w' : World} {name : String} {cs : Array Value} (h : VarAt n w name cs) (ht : Turned C w w') (hC : ∀ g, g < n -> ¬ C g) : VarAt n w' name cs := by
 obtain ⟨h1, h2⟩ := h
 refine ⟨?_, h2⟩
 unfold World.var? at h1 ⊢
 cases hg : Tryz.prog.globalNamed name with
 | none => simp [hg] at h1
 | some g =>
  simp only [hg, Option.bind_some] at h1 ⊢
  have hlt : g < w.heap.size := by
   rcases Nat.lt_or_ge g w.heap.size with h' | h'
   ·exact h'
   ·simp [Array.getElem?_eq_none h'] at h1
  rw [ht.block g hlt (hC g (h2 g hg))]
  exact h1
structure Vars (n : Nat) (w : World) : Prop where
 syn : ∃ tp p, VarAt n w "strconv.ErrSyntax" #[.iface tp p]
 ran : ∃ tp p, VarAt n w "strconv.ErrRange" #[.iface tp p]
 tab : VarAt n w "strings.asciiSpace" (Lib.asciiSpaceTab.map fun z => Value.int .u8 z).toArray
theorem Vars.turned {n : Nat} {C : Nat -> Prop} {w w' : World} (h : Vars n w) (ht : Turned C w w') (hC : ∀ g, g < n -> ¬ C g) : Vars n w' := by
 obtain ⟨⟨a, b, h1⟩, ⟨c, d, h2⟩, h3⟩ := h
 exact ⟨⟨a, b, h1.turned ht hC⟩, ⟨c, d, h2.turned ht hC⟩, h3.turned ht hC⟩
structure At (w : World) (B base : Nat) (s : ByteArray) (k : Nat) (v : Value) (ts : List Tok) : Prop where
 rd : Rd w B s k v
 own : w.ownsRow base 102 4 v ts.length (ts.flatMap tokV)
 lt : B < base
 le : base <= w.heap.size
 len : ts.length <= k
 vars : Vars B w
theorem At.same {w w' : World} {B base : Nat} {s : ByteArray} {k : Nat} {v : Value} {ts : List Tok} (h : At w B base s k v ts) (ht : Turned (fun _ => False) w w') : At w' B base s k v ts :=
 ⟨h.rd.turned ht id, ownsRow_turned' ht (fun _ _ => id) h.own, h.lt, Nat.le_trans h.le ht.size, h.len, h.vars.turned ht fun _ _ => id⟩
def Moved (B base : Nat) (w w' : World) : Prop := Turned (fun j => j = B \/ base <= j) w w'
theorem Moved.of {B base : Nat} {w w' : World} (h : Turned (fun _ => False) w w') : Moved B base w w' := h.mono fun _ h => h.elim
theorem Moved.trans {B base : Nat} {a b c : World} (h : Moved B base a b) (k : Moved B base b c) : Moved B base a c := Turned.trans h k
theorem At.drew {w : World} {B base : Nat} {s : ByteArray} {k : Nat} {v : Value} {ts : List Tok} (h : At w B base s k v ts) (n : Nat) : At (w.drewN n) B base s k v ts := h.same (drewN_turned _ _ _)
def nameT (s : ByteArray) (k : Nat) : TR :=
 if clsI (rest s k)[0]!.toNat ≠ 3 then .none else if 32 < spanTo s k 2 - k then .err 2 else .tok ⟨1, k, s.extract k (spanTo s k 2), 0⟩ (spanTo s k 2)
theorem rest_head (s : ByteArray) (k : Nat) (h : k < s.size) : (rest s k)[0]! = s[k] := by rw [rest_cons s k h]; rfl
theorem spanTo_gt (s : ByteArray) (k : Nat) (h : k < s.size) (least : Int) (hc : least <= clsI s[k].toNat) : k < spanTo s k least := by
 unfold spanTo
 rw [rest_cons s k h, spanL_cons_yes (by exact hc)]
 omega
def numOf (k tt : Nat) (str : ByteArray) : TR :=
 match Lib.atoiAll str.data.toList with
 | .ok n => if 15 < str.size \/ (1 < str.size /\ str[0]! = 48) then .err 27 else .tok ⟨2, k, ⟨#[]⟩, n⟩ tt
 | _ => .err 27
def numT (s : ByteArray) (k : Nat) : TR :=
 if clsI (rest s k)[0]!.toNat ≠ 2 then .none else numOf k (spanTo s k 2) (s.extract k (spanTo s k 2))
theorem keepBox {B b : Nat} {W W' : World} {o : Obj} (h : W.heap[b]? = some o /\ Free B W b) (ht : PrT B W W') : W'.heap[b]? = some o /\ Free B W' b := by
 obtain ⟨h1, h2⟩ := ht.keep b (getElem?_lt h.1) h.2
 exact ⟨h1.trans h.1, h2⟩
theorem ArgsAt.len {W : World} {N : Nat -> Prop} {l : List Ar} {v : Value} (h : ArgsAt W N l v) : l.length <= maxLen := by
 cases h with
 | nil => simp
 | some _ _ _ _ _ _ hl => exact hl
theorem FormsAt.len {W : World} {N : Nat -> Prop} {l : List Fm} {v : Value} (h : FormsAt W N l v) : l.length <= maxLen := by
 cases h with
 | nil => simp
 | some _ _ _ _ _ _ _ hl => exact hl
theorem ArgsAt.all {W W' : World} {N : Nat -> Prop} {l : List Ar} {v : Value} (h : ArgsAt W N l v) (ht : Turned (fun _ => False) W W') : ArgsAt W' (fun _ => True) l v := h.move ht (fun _ _ => id) (fun _ _ _ => trivial)
theorem FormsAt.all {W W' : World} {N : Nat -> Prop} {l : List Fm} {v : Value} (h : FormsAt W N l v) (ht : Turned (fun _ => False) W W') : FormsAt W' (fun _ => True) l v := h.move ht (fun _ _ => id) (fun _ _ _ => trivial)
def SameToA (o : Bool) (xs ys : List Ar) (i : Nat) : Prop := ∀ (j : Nat) (x y : Ar), j < i -> xs[j]? = some x -> ys[j]? = some y -> sameA o x y = true
theorem SameToA.succ {o : Bool} {xs ys : List Ar} {i : Nat} {x y : Ar} (h : SameToA o xs ys i) (hx : xs[i]? = some x) (hy : ys[i]? = some y) (hs : sameA o x y = true) : SameToA o xs ys (i + 1) := fun j u v hj hu hv => by
 rcases Nat.lt_or_ge j i with h1 | h1
 ·exact h j u v h1 hu hv
 ·obtain rfl : j = i := by omega
  rw [hx] at hu; rw [hy] at hv; cases hu; cases hv; exact hs
theorem SameToA.done {o : Bool} {xs ys : List Ar} (h : SameToA o xs ys xs.length) (hl : xs.length = ys.length) : sameAs o xs ys = true := (sameAs_iff o xs ys).2 ⟨hl, fun i x y hx hy => h i x y (lt_of_some hx) hx hy⟩
def SameToF (o : Bool) (xs ys : List Fm) (i : Nat) : Prop := ∀ (j : Nat) (x y : Fm), j < i -> xs[j]? = some x -> ys[j]? = some y -> sameF o x y = true
theorem SameToF.succ {o : Bool} {xs ys : List Fm} {i : Nat} {x y : Fm} (h : SameToF o xs ys i) (hx : xs[i]? = some x) (hy : ys[i]? = some y) (hs : sameF o x y = true) : SameToF o xs ys (i + 1) := fun j u v hj hu hv => by
 rcases Nat.lt_or_ge j i with h1 | h1
 ·exact h j u v h1 hu hv
 ·obtain rfl : j = i := by omega
  rw [hx] at hu; rw [hy] at hv; cases hu; cases hv; exact hs
theorem SameToF.done {o : Bool} {xs ys : List Fm} (h : SameToF o xs ys xs.length) (hl : xs.length = ys.length) : sameFs o xs ys = true := (sameFs_iff o xs ys).2 ⟨hl, fun i x y hx hy => h i x y (lt_of_some hx) hx hy⟩
structure XF (B eb : Nat) (x : Fm) (a b : Value) (w : World) (ts : List Tok) (bad : Bool) (W : World) : Prop where
 ps : PrS B ts bad W
 tr : PrT B w W
 box : W.heap[eb]? = some (.cells #[.string x.word, a, b, .int .i64 x.at_] 69 (0, 0))
 fr : Free B W eb
 args : ArgsAt W (fun b => b < B) x.args a
 body : FormsAt W (fun b => b < B) x.body b
structure XG (B eb : Nat) (x : Ar) (k : Value) (w : World) (ts : List Tok) (bad : Bool) (W : World) : Prop where
 ps : PrS B ts bad W
 tr : PrT B w W
 box : W.heap[eb]? = some (.cells #[.int .i64 x.kind, .int .i64 x.n, .string x.s, .int .i64 x.e.op, .int .i64 x.e.n, .string x.e.s, k, .int .i64 x.e.at_, .int .i64 x.at_] 71 (0, 0))
 fr : Free B W eb
 kids : KidsAt W (fun b => b < B) x.e.kids k
section
variable {B eb : Nat} {x : Fm} {y : Ar} {a b k : Value} {w W W' : World} {ts us : List Tok} {bad bad' : Bool}
theorem XF.start (h : PrS B ts bad w) (ha : ArgsAt w (fun b => b < B) x.args a) (hb : FormsAt w (fun b => b < B) x.body b) : XF B w.heap.size x a b w ts bad (w.alloc (.cells #[.string x.word, a, b, .int .i64 x.at_] 69)) := by
 have ht : Turned (fun _ => False) w (w.alloc (.cells #[.string x.word, a, b, .int .i64 x.at_] 69)) := (Turned.refl _ _).alloc _
 obtain ⟨h1, h2⟩ := h.same ht
 exact ⟨h1, h2, heap_alloc_new _ _, h.fresh ht (Nat.le_refl _), ha.move ht (fun _ _ => id) (fun _ hb _ => hb), hb.move ht (fun _ _ => id) (fun _ hb _ => hb)⟩
theorem XF.call (h : Hid (XF B eb x a b w ts bad W)) (hp : PrS B us bad' W') (ht : PrT B W W') : Hid (XF B eb x a b w us bad' W') := by
 obtain ⟨h1, h2⟩ := keepBox ⟨h.out.box, h.out.fr⟩ ht
 exact Lib.hid ⟨hp, h.out.tr.trans ht, h1, h2, h.out.args.move ht.turned (fun b hb hn => hn (h.out.ps.data hb)) (fun _ hb _ => hb), h.out.body.move ht.turned (fun b hb hn => hn (h.out.ps.data hb)) (fun _ hb _ => hb)⟩
theorem XF.same (h : Hid (XF B eb x a b w ts bad W)) (ht : Turned (fun _ => False) W W') : Hid (XF B eb x a b w ts bad W') := by
 obtain ⟨h1, h2⟩ := h.out.ps.same ht
 exact XF.call h h1 h2
theorem XF.cells (h : Hid (XF B eb x a b w ts bad W)) : W.cell? ⟨eb, 0, none⟩ = some (.string x.word) /\ W.cell? ⟨eb, 1, none⟩ = some a /\ W.cell? ⟨eb, 2, none⟩ = some b /\ W.cell? ⟨eb, 3, none⟩ = some (.int .i64 x.at_) := by
 have hb := h.out.box
 simp [World.cell?, hb]
theorem XG.start (h : PrS B ts bad w) (ha : KidsAt w (fun b => b < B) y.e.kids k) : XG B w.heap.size y k w ts bad (w.alloc (.cells #[.int .i64 y.kind, .int .i64 y.n, .string y.s, .int .i64 y.e.op, .int .i64 y.e.n, .string y.e.s, k, .int .i64 y.e.at_, .int .i64 y.at_] 71)) := by
 have ht : Turned (fun _ => False) w (w.alloc (.cells #[.int .i64 y.kind, .int .i64 y.n, .string y.s, .int .i64 y.e.op, .int .i64 y.e.n, .string y.e.s, k, .int .i64 y.e.at_, .int .i64 y.at_] 71)) := (Turned.refl _ _).alloc _
 obtain ⟨h1, h2⟩ := h.same ht
 exact ⟨h1, h2, heap_alloc_new _ _, h.fresh ht (Nat.le_refl _), ha.move ht (fun _ _ => id) (fun _ hb _ => hb)⟩
theorem XG.call (h : Hid (XG B eb y k w ts bad W)) (hp : PrS B us bad' W') (ht : PrT B W W') : Hid (XG B eb y k w us bad' W') := by
 obtain ⟨h1, h2⟩ := keepBox ⟨h.out.box, h.out.fr⟩ ht
 exact Lib.hid ⟨hp, h.out.tr.trans ht, h1, h2, h.out.kids.move ht.turned (fun b hb hn => hn (h.out.ps.data hb)) (fun _ hb _ => hb)⟩
theorem XG.cells (h : Hid (XG B eb y k w ts bad W)) : W.cell? ⟨eb, 0, none⟩ = some (.int .i64 y.kind) /\ W.cell? ⟨eb, 1, none⟩ = some (.int .i64 y.n) /\ W.cell? ⟨eb, 2, none⟩ = some (.string y.s) /\ W.cell? ⟨eb, 3, none⟩ = some (.int .i64 y.e.op) /\ W.cell? ⟨eb, 4, none⟩ = some (.int .i64 y.e.n) /\ W.cell? ⟨eb, 5, none⟩ = some (.string y.e.s) /\ W.cell? ⟨eb, 6, none⟩ = some k /\ W.cell? ⟨eb, 7, none⟩ = some (.int .i64 y.e.at_) := by
 have hb := h.out.box
 simp [World.cell?, hb]
end
theorem expr_size : (Tryz.prog.info? 42).map (·.size) = some 5 := by kernel_rfl
theorem results_ex {fn : Func} {i : Nat} (hf : fn.results = #[ResultVar.cell i 42]) (tmps : Array Value) (w : World) (b : Nat) (x y z u v : Value) (hp : tmps.getD i undef = .pointer (some ⟨b, 0, none⟩)) (hg : w.heap[b]? = some (.cells #[x, y, z, u, v] 42 (0, 0))) :
  (results fn tmps).run Tryz.prog w = .ok (.agg #[x, y, z, u, v]) w := by
 have hp' : tmps[i]?.getD undef = .pointer (some ⟨b, 0, none⟩) := by simpa using hp
 simp [results, hf, hp', asAddr, run_loadVar_row w b 42 42 #[x, y, z, u, v] (0, 0) _ hg Tryz.underlying42 rfl expr_size]
end Go.Proofs.YthejfklieedjmaaGreatDoor
