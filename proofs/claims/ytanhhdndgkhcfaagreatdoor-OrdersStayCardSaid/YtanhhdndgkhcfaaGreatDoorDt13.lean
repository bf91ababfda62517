/- Part 13 of the proof of lawDue.card: Iter, OrdKeys, OrdMap, OrdFold, OrdAllotA, OrdBools, OrdAllotB. Conditions: those of each theorem. -/
import Derived.Shelf.SlIterI.Nil
import Derived.Shelf.SortM.Plain
import Derived.Shelf.SortM.SortNone
import Derived.Ground.GgzProg
import Derived.Ground.SlgmProg
import Derived.Test.YtanhhdndgkhcfaaGreatDoorProg
import Derived.Maps.Own
import Derived.Test.YtanhhdndgkhcfaaGreatDoorDt01
import Derived.Test.YtanhhdndgkhcfaaGreatDoorDt08
import Derived.Test.YtanhhdndgkhcfaaGreatDoorDt11
import Derived.Test.YtanhhdndgkhcfaaGreatDoorDt12
namespace Go.Proofs
open Go.Shelf
def Tryz.keysA_ren : Go.Shelf.Ren := ⟨fun | 7 => 56 | 10 => 99 | n => n, fun | 23 => 99 | 26 => 3 | 3 => 4 | 28 => 102 | 0 => 0 | 27 => 101 | 33 => 106 | 4 => 4 | n => n, fun | n => n⟩
theorem Tryz.keysA : Go.Proofs.SlLaysZI.n7 Tryz.prog Tryz.keysA_ren := {
  mixed := by kernel_rfl
  f7 := ⟨Tryz.f56.name, by decide, Tryz.func56.trans (congrArg some (by kernel_rfl))⟩
  f10 := ⟨Tryz.f99.name, by decide, Tryz.func99.trans (congrArg some (by kernel_rfl))⟩
  t0 := Tryz.underlying0
  a0 := Tryz.isAgg0
  z0 := Tryz.sizeOf0
  v0 := Tryz.zeroValue0
  t4 := Tryz.underlying4
  a4 := Tryz.isAgg4
  z4 := Tryz.sizeOf4
  v4 := Tryz.zeroValue4
  t23 := Tryz.underlying99
  a23 := Tryz.isAgg99
  z23 := Tryz.sizeOf99
  v23 := Tryz.zeroValue99
  t26 := Tryz.underlying3
  a26 := Tryz.isAgg3
  z26 := Tryz.sizeOf3
  v26 := Tryz.zeroValue3
  t27 := Tryz.underlying101
  a27 := Tryz.isAgg101
  z27 := Tryz.sizeOf101
  v27 := Tryz.zeroValue101
  t28 := Tryz.underlying102
  a28 := Tryz.isAgg102
  z28 := Tryz.sizeOf102
  v28 := Tryz.zeroValue102
  t33 := Tryz.underlying106
  a33 := Tryz.isAgg106
  z33 := Tryz.sizeOf106
  v33 := Tryz.zeroValue106 }
def Tryz.sortedA_ren : Go.Shelf.Ren := ⟨fun | 6 => 55 | 8 => 97 | 9 => 98 | 11 => 126 | 13 => 128 | 12 => 127 | 23 => 160 | 24 => 161 | 14 => 151 | 15 => 152 | 16 => 153 | 17 => 154 | 18 => 155 | 19 => 156 | 20 => 157 | 21 => 158 | 22 => 159 | 25 => 168 | 26 => 169 | 27 => 170 | 28 => 171 | 29 => 172 | 30 => 173 | 31 => 179 | n => n, fun | 26 => 3 | 28 => 102 | 24 => 44 | 0 => 0 | 3 => 3 | 37 => 171 | 48 => 173 | 50 => 187 | 4 => 4 | 40 => 191 | 39 => 190 | 45 => 196 | 5 => 5 | 9 => 9 | 51 => 204 | 55 => 208 | 57 => 218 | 58 => 219 | 33 => 106 | n => n, fun | n => n⟩
theorem Tryz.sortedA : Go.Proofs.SlLaysZI.n6 Tryz.prog Tryz.sortedA_ren := {
  mixed := by kernel_rfl
  f6 := ⟨Tryz.f55.name, by decide, Tryz.func55.trans (congrArg some (by kernel_rfl))⟩
  f8 := ⟨Tryz.f97.name, by decide, Tryz.func97.trans (congrArg some (by kernel_rfl))⟩
  f11 := ⟨Tryz.f126.name, by decide, Tryz.func126.trans (congrArg some (by kernel_rfl))⟩
  t0 := Tryz.underlying0
  a0 := Tryz.isAgg0
  z0 := Tryz.sizeOf0
  v0 := Tryz.zeroValue0
  t24 := Tryz.underlying44
  a24 := Tryz.isAgg44
  z24 := Tryz.sizeOf44
  v24 := Tryz.zeroValue44
  t26 := Tryz.underlying3
  a26 := Tryz.isAgg3
  z26 := Tryz.sizeOf3
  v26 := Tryz.zeroValue3
  t28 := Tryz.underlying102
  a28 := Tryz.isAgg102
  z28 := Tryz.sizeOf102
  v28 := Tryz.zeroValue102
  i26 := by kernel_rfl }
def Tryz.sortA_ren : Go.Shelf.Ren := ⟨fun | 5 => 98 | 8 => 128 | 7 => 127 | 19 => 160 | 20 => 161 | 10 => 151 | 11 => 152 | 12 => 153 | 13 => 154 | 14 => 155 | 15 => 156 | 16 => 157 | 17 => 158 | 18 => 159 | 30 => 168 | 31 => 169 | 32 => 170 | 33 => 171 | 34 => 172 | 35 => 173 | 40 => 179 | n => n, fun | 23 => 44 | 25 => 3 | 3 => 3 | 32 => 171 | 22 => 44 | 0 => 0 | 44 => 173 | 46 => 187 | 4 => 4 | 36 => 191 | 35 => 190 | 41 => 196 | 5 => 5 | 9 => 9 | 53 => 204 | 57 => 208 | 63 => 218 | 64 => 219 | n => n, fun | n => n⟩
theorem Tryz.sortA : Go.Proofs.SlLaysM.n5 Tryz.prog Tryz.sortA_ren := {
  mixed := by kernel_rfl
  f5 := ⟨Tryz.f98.name, by decide, Tryz.func98.trans (congrArg some (by kernel_rfl))⟩
  f7 := ⟨Tryz.f127.name, by decide, Tryz.func127.trans (congrArg some (by kernel_rfl))⟩
  f8 := Tryz.func128.trans (congrArg some (by kernel_rfl))
  f10 := ⟨Tryz.f151.name, by decide, Tryz.func151.trans (congrArg some (by kernel_rfl))⟩
  f11 := ⟨Tryz.f152.name, by decide, Tryz.func152.trans (congrArg some (by kernel_rfl))⟩
  f12 := ⟨Tryz.f153.name, by decide, Tryz.func153.trans (congrArg some (by kernel_rfl))⟩
  f13 := ⟨Tryz.f154.name, by decide, Tryz.func154.trans (congrArg some (by kernel_rfl))⟩
  f14 := ⟨Tryz.f155.name, by decide, Tryz.func155.trans (congrArg some (by kernel_rfl))⟩
  f15 := ⟨Tryz.f156.name, by decide, Tryz.func156.trans (congrArg some (by kernel_rfl))⟩
  f16 := ⟨Tryz.f157.name, by decide, Tryz.func157.trans (congrArg some (by kernel_rfl))⟩
  f17 := ⟨Tryz.f158.name, by decide, Tryz.func158.trans (congrArg some (by kernel_rfl))⟩
  f18 := ⟨Tryz.f159.name, by decide, Tryz.func159.trans (congrArg some (by kernel_rfl))⟩
  f19 := Tryz.func160.trans (congrArg some (by kernel_rfl))
  f20 := Tryz.func161.trans (congrArg some (by kernel_rfl))
  f30 := ⟨Tryz.f168.name, by decide, Tryz.func168.trans (congrArg some (by kernel_rfl))⟩
  f31 := Tryz.func169.trans (congrArg some (by kernel_rfl))
  f32 := Tryz.func170.trans (congrArg some (by kernel_rfl))
  f33 := ⟨Tryz.f171.name, by decide, Tryz.func171.trans (congrArg some (by kernel_rfl))⟩
  f34 := ⟨Tryz.f172.name, by decide, Tryz.func172.trans (congrArg some (by kernel_rfl))⟩
  f35 := ⟨Tryz.f173.name, by decide, Tryz.func173.trans (congrArg some (by kernel_rfl))⟩
  f40 := ⟨Tryz.f179.name, by decide, Tryz.func179.trans (congrArg some (by kernel_rfl))⟩
  t0 := Tryz.underlying0
  a0 := Tryz.isAgg0
  z0 := Tryz.sizeOf0
  v0 := Tryz.zeroValue0
  t3 := Tryz.underlying3
  a3 := Tryz.isAgg3
  z3 := Tryz.sizeOf3
  v3 := Tryz.zeroValue3
  t4 := Tryz.underlying4
  a4 := Tryz.isAgg4
  z4 := Tryz.sizeOf4
  v4 := Tryz.zeroValue4
  t5 := Tryz.underlying5
  a5 := Tryz.isAgg5
  z5 := Tryz.sizeOf5
  v5 := Tryz.zeroValue5
  t9 := Tryz.underlying9
  a9 := Tryz.isAgg9
  z9 := Tryz.sizeOf9
  v9 := Tryz.zeroValue9
  t22 := Tryz.underlying44
  a22 := Tryz.isAgg44
  z22 := Tryz.sizeOf44
  v22 := Tryz.zeroValue44
  t23 := Tryz.underlying44
  a23 := Tryz.isAgg44
  z23 := Tryz.sizeOf44
  v23 := Tryz.zeroValue44
  t25 := Tryz.underlying3
  a25 := Tryz.isAgg3
  z25 := Tryz.sizeOf3
  v25 := Tryz.zeroValue3
  t32 := Tryz.underlying171
  a32 := Tryz.isAgg171
  z32 := Tryz.sizeOf171
  v32 := Tryz.zeroValue171
  t35 := Tryz.underlying190
  a35 := Tryz.isAgg190
  z35 := Tryz.sizeOf190
  v35 := Tryz.zeroValue190
  t36 := Tryz.underlying191
  a36 := Tryz.isAgg191
  z36 := Tryz.sizeOf191
  v36 := Tryz.zeroValue191
  t41 := Tryz.underlying196
  a41 := Tryz.isAgg196
  z41 := Tryz.sizeOf196
  v41 := Tryz.zeroValue196
  t44 := Tryz.underlying173
  a44 := Tryz.isAgg173
  z44 := Tryz.sizeOf173
  v44 := Tryz.zeroValue173
  t46 := Tryz.underlying187
  a46 := Tryz.isAgg187
  z46 := Tryz.sizeOf187
  v46 := Tryz.zeroValue187
  t53 := Tryz.underlying204
  a53 := Tryz.isAgg204
  z53 := Tryz.sizeOf204
  v53 := Tryz.zeroValue204
  t57 := Tryz.underlying208
  a57 := Tryz.isAgg208
  z57 := Tryz.sizeOf208
  v57 := Tryz.zeroValue208
  t63 := Tryz.underlying218
  a63 := Tryz.isAgg218
  z63 := Tryz.sizeOf218
  v63 := Tryz.zeroValue218
  t64 := Tryz.underlying219
  a64 := Tryz.isAgg219
  z64 := Tryz.sizeOf219
  v64 := Tryz.zeroValue219 }
end Go.Proofs
namespace Go.Proofs.YtanhhdndgkhcfaaGreatDoor
open Go.RowKit Go.Maps Go.Sort Go.Shelf
theorem sortsA (m : Nat) : AnyZI.SortsIn Tryz.prog Tryz.sortedA_ren Fence.wide m :=
  ⟨fun blk off cap ss W hH hblk hsz => callsIn_wide.2 (AnyM.slices_Sort_int Tryz.sortA blk off cap ss W hH hblk hsz),
   fun p cap W => callsIn_wide.2 (AnyM.slices_Sort_int_none Tryz.sortA p cap W)⟩
theorem mapsKeys_in (mb : Option Nat) (W : World) : CallsIn Fence.wide 5 Tryz.prog 56 #[.map mb] W fun e w' => e = .returned (.func (.func 99) #[] #[.pointer (some ⟨W.heap.size, 0, none⟩)]) ∧ w' = W.alloc (.cells #[.map mb] 99) :=
  AnyZI.keys_in Tryz.keysA Fence.wide 5 trivial rfl mb W
theorem mapsKeys_any (mb : Option Nat) (W : World) : Calls Tryz.prog 56 #[.map mb] W fun e w' => e = .returned (.func (.func 99) #[] #[.pointer (some ⟨W.heap.size, 0, none⟩)]) ∧ w' = W.alloc (.cells #[.map mb] 99) :=
  callsIn_wide.1 (mapsKeys_in mb W)
set_option maxHeartbeats 1000000 in
theorem slSorted_any {H : Type} (b nn : Nat) (D0 : DataW H) (R : Value → Option (DataW H × List MemPlace)) (w : World) (hown : w.ownsMap Tryz.prog 3 R b nn D0) (hmax : Maps.size D0 ≤ maxLen) (hbytes : Maps.size D0 * 8 ≤ 140737488355328) :
    Calls Tryz.prog 55 #[.func (.func 99) #[] #[.pointer (some ⟨w.heap.size, 0, none⟩)]] (w.alloc (.cells #[.map (some b)] 99)) fun e w' => ∃ (v : Value) (ss : List Int), e = .returned v ∧ ss.Perm (intKeys D0) ∧
      w'.ownsRow (w.alloc (.cells #[.map (some b)] 99)).heap.size 3 1 v ss.length ((ss.mergeSort (fun x y => decide (x ≤ y))).map encZ) ∧ (v = .slice none 0 0 ↔ ss = []) ∧ Below (w.alloc (.cells #[.map (some b)] 99)).heap.size (w.alloc (.cells #[.map (some b)] 99)) w' := by
  have hbl := hown.lt
  have hseq : SeqGives Fence.wide 2 Tryz.prog 99 #[.pointer (some ⟨w.heap.size, 0, none⟩)] encZ (fun ss => ss.Perm (intKeys D0)) (Maps.size D0) (w.alloc (.cells #[.map (some b)] 99)) :=
    AnyZI.keys_gives (ρ := Tryz.keysA_ren) { Tryz.keysA with } Fence.wide _ trivial rfl (by omega) w.heap.size b nn D0 _ (by simp) (by simp) (by
      obtain ⟨es, clock, hb, Ft, hs, hD⟩ := hown
      exact ⟨es, clock, (Below.heap_alloc _ _ b hbl).trans hb, Ft, hs, hD⟩)
  exact callsIn_wide.1 (AnyZI.sorted_in Tryz.sortedA Fence.wide 5 trivial trivial trivial trivial rfl (by omega) (sortsA _) (enters_of Tryz.func98 (by kernel_rfl) rfl) 99 #[.pointer (some ⟨w.heap.size, 0, none⟩)] trivial (enters_of Tryz.func99 (by kernel_rfl) rfl) _ _ hmax hbytes _ hseq)
end Go.Proofs.YtanhhdndgkhcfaaGreatDoor
namespace Go.Proofs.YtanhhdndgkhcfaaGreatDoor
open Go.RowKit Go.Maps Go.Sort Go.Shelf
def ranksD {H : Type} (rs : List Int) : DataW H := rs.foldl (fun D r => D.put (.int .i64 r) (.lit (.bool true))) (.map [])
structure KeysAre {H : Type} (es : List (Lit × DataW H)) (rs : List Int) : Prop where
  int : ∀ p ∈ es, ∃ x, p.1 = .int .i64 x
  nd : (es.map fun p => Go.intOf p.1).Nodup
  mem : ∀ x, x ∈ (es.map fun p => Go.intOf p.1) ↔ x ∈ rs
  len : es.length ≤ rs.length
theorem keysAre_nil {H : Type} : KeysAre ([] : List (Lit × DataW H)) [] := ⟨fun _ h => (by cases h), List.nodup_nil, fun x => (by simp), Nat.le_refl _⟩
theorem keysAre_put {H : Type} {es : List (Lit × DataW H)} {rs : List Int} (h : KeysAre es rs) (r : Int) (d : DataW H) :
    KeysAre (DataW.insert (.int .i64 r, d) (es.filter fun p => !p.1.sameKey (.int .i64 r))) (rs ++ [r]) := by
  have hp := Go.WideShapes.insert_perm (Lit.int .i64 r, d) (es.filter fun p => !p.1.sameKey (.int .i64 r))
  have hm := hp.map fun p => Go.intOf p.1
  have hk : ∀ p ∈ es.filter fun p => !p.1.sameKey (.int .i64 r), Go.intOf p.1 ≠ r := by
    intro p hp2 he
    rw [List.mem_filter] at hp2
    obtain ⟨x, hx⟩ := h.int p hp2.1
    rw [hx] at he hp2
    have : x = r := he
    subst this
    simp [Lit.sameKey] at hp2
  refine ⟨fun p hp2 => ?_, ?_, fun x => ?_, ?_⟩
  · rcases List.mem_cons.1 (hp.mem_iff.1 hp2) with h1 | h1
    · exact ⟨r, by rw [h1]⟩
    · exact h.int p (List.mem_filter.1 h1).1
  · rw [hm.nodup_iff]
    refine List.nodup_cons.2 ⟨fun hr => ?_, ?_⟩
    · obtain ⟨p, hp2, he⟩ := List.mem_map.1 hr
      exact hk p hp2 he
    · exact List.Nodup.sublist (List.Sublist.map _ List.filter_sublist) h.nd
  · rw [hm.mem_iff, List.map_cons, List.mem_cons, List.mem_append, List.mem_singleton]
    constructor
    · rintro (h1 | h1)
      · exact .inr h1
      · obtain ⟨p, hp2, he⟩ := List.mem_map.1 h1
        exact .inl ((h.mem x).1 (List.mem_map.2 ⟨p, (List.mem_filter.1 hp2).1, he⟩))
    · rintro (h1 | h1)
      · by_cases hx : x = r
        · exact .inl hx
        · obtain ⟨p, hp2, he⟩ := List.mem_map.1 ((h.mem x).2 h1)
          refine .inr (List.mem_map.2 ⟨p, List.mem_filter.2 ⟨hp2, ?_⟩, he⟩)
          obtain ⟨y, hy⟩ := h.int p hp2
          have he2 : y = x := by rw [← he, hy]; rfl
          rw [hy, he2]
          simp [Lit.sameKey, hx]
      · exact .inl h1
  · rw [hp.length_eq, List.length_cons, List.length_append, List.length_singleton]
    have h1 := List.length_filter_le (fun p : Lit × DataW H => !p.1.sameKey (.int .i64 r)) es
    have h2 := h.len
    omega
theorem ranksD_append {H : Type} (rs : List Int) (r : Int) : (ranksD (rs ++ [r]) : DataW H) = (ranksD rs).put (.int .i64 r) (.lit (.bool true)) := by
  unfold ranksD
  rw [List.foldl_append]
  rfl
theorem ranksD_keys {H : Type} (rs : List Int) : ∃ es : List (Lit × DataW H), ranksD rs = .map es ∧ KeysAre es rs := by
  have h : ∀ n, n ≤ rs.length → ∃ es : List (Lit × DataW H), ranksD (rs.take n) = .map es ∧ KeysAre es (rs.take n) := by
    intro n
    induction n with
    | zero => intro _; exact ⟨[], rfl, keysAre_nil⟩
    | succ n ih =>
      intro hn
      obtain ⟨es, h1, h2⟩ := ih (by omega)
      rw [List.take_succ_eq_append_getElem (by omega), ranksD_append, h1]
      exact ⟨_, rfl, keysAre_put h2 _ _⟩
  have := h rs.length (Nat.le_refl _)
  rwa [List.take_length] at this
theorem ranksD_size {H : Type} (rs : List Int) : Maps.size (ranksD rs : DataW H) ≤ rs.length := by
  obtain ⟨es, h1, h2⟩ := ranksD_keys (H := H) rs
  rw [h1]
  exact h2.len
structure RanksUp (rs ss : List Int) : Prop where
  up : ss.Pairwise (fun x y => x < y)
  mem : ∀ x, x ∈ ss ↔ x ∈ rs
theorem ranksUp_of {H : Type} {rs ss : List Int} (h : ss.Perm (intKeys (ranksD rs : DataW H))) : RanksUp rs (ss.mergeSort fun x y => decide (x ≤ y)) := by
  obtain ⟨es, h1, h2⟩ := ranksD_keys (H := H) rs
  rw [h1] at h
  have hs := List.mergeSort_perm ss fun x y => decide (x ≤ y)
  have hp : (ss.mergeSort fun x y => decide (x ≤ y)).Perm (es.map fun p => Go.intOf p.1) := hs.trans h
  have hle : (ss.mergeSort fun x y => decide (x ≤ y)).Pairwise (fun x y => decide (x ≤ y) = true) :=
    List.pairwise_mergeSort (fun a b c h1 h2 => by rw [decide_eq_true_eq] at *; omega) (fun a b => by rw [Bool.or_eq_true, decide_eq_true_eq, decide_eq_true_eq]; omega) ss
  have hnd : (ss.mergeSort fun x y => decide (x ≤ y)).Nodup := hp.nodup_iff.2 h2.nd
  refine ⟨?_, fun x => by rw [hp.mem_iff, h2.mem]⟩
  have := List.pairwise_and_iff.2 ⟨hle, hnd⟩
  refine this.imp ?_
  rintro a b ⟨h3, h4⟩
  rw [decide_eq_true_eq] at h3
  omega
end Go.Proofs.YtanhhdndgkhcfaaGreatDoor
namespace Go.Proofs.YtanhhdndgkhcfaaGreatDoor
theorem wayN_mem (d : List Int) : ∀ (f : Nat) (p : Int) (g : Nat), g ∈ wayN d f p → ∃ j, stepN d j p = g
  | 0, p, g, h => by rw [wayN] at h; cases h
  | f + 1, p, g, h => by
    rw [wayN] at h
    split at h
    · cases h
    · rename_i hp
      rcases List.mem_cons.1 h with h | h
      · exact ⟨0, by show p = (g : Int); rw [h]; omega⟩
      · obtain ⟨j, hj⟩ := wayN_mem d f _ g h
        exact ⟨j + 1, by rw [stepN]; exact hj⟩
theorem wayN_of (d : List Int) : ∀ (f : Nat) (p : Int) (j g : Nat), j < f → stepN d j p = g → g ∈ wayN d f p
  | 0, p, j, g, h, _ => by omega
  | f + 1, p, 0, g, _, h => by
    have h1 : p = (g : Int) := h
    rw [wayN, if_neg (by omega), h1, Int.toNat_natCast]
    exact List.mem_cons_self ..
  | f + 1, p, j + 1, g, hj, h => by
    rw [wayN]
    split
    · rename_i hp
      have := step_neg d (j + 1) p hp
      omega
    · exact List.mem_cons_of_mem _ (wayN_of d f _ j g (by omega) (by rw [stepN] at h; exact h))
theorem way_on {d : List Int} (h : EndsN d) {g p : Nat} : g ∈ way d p ↔ onN d g p = true := by
  rw [on_iff h]
  constructor
  · exact wayN_mem d _ _ _
  · rintro ⟨j, hj⟩
    rcases Nat.lt_or_ge j (d.length + 1) with h3 | h3
    · exact wayN_of d _ _ j g h3 hj
    · exfalso
      obtain ⟨c, rfl⟩ : ∃ c, j = d.length + 1 + c := ⟨j - (d.length + 1), by omega⟩
      rw [step_add] at hj
      have := step_neg d c _ (h p)
      omega
theorem step_loop {d : List Int} {p : Int} {c : Nat} (hc : stepN d (c + 1) p = p) (hp : 0 ≤ p) : ∀ i : Nat, stepN d ((c + 1) * i) p = p
  | 0 => rfl
  | i + 1 => by rw [Nat.mul_succ, step_add, step_loop hc hp i, hc]
theorem not_back {d : List Int} (h : EndsN d) {g c : Nat} (hc : stepN d (c + 1) g = g) : False := by
  have h1 := step_loop hc (Int.natCast_nonneg g) (d.length + 1)
  have h2 := h g
  rw [show (c + 1) * (d.length + 1) = d.length + 1 + c * (d.length + 1) by rw [Nat.add_mul]; omega, step_add] at h1
  have := step_neg d (c * (d.length + 1)) _ h2
  omega
theorem wayN_nodup {d : List Int} (h : EndsN d) : ∀ (f : Nat) (p : Int), (wayN d f p).Nodup
  | 0, p => by rw [wayN]; exact List.nodup_nil
  | f + 1, p => by
    rw [wayN]
    split
    · exact List.nodup_nil
    · rename_i hp
      refine List.nodup_cons.2 ⟨fun hm => ?_, wayN_nodup h f _⟩
      obtain ⟨j, hj⟩ := wayN_mem d f _ _ hm
      have hpp : p = (p.toNat : Int) := by omega
      refine not_back h (g := p.toNat) (c := j) ?_
      rw [stepN, ← hpp, hj, ← hpp]
theorem addWay_at : ∀ (l : List Nat) (s : Nat → Rat) (a : Rat) (g : Nat), l.Nodup → addWay s l a g = if g ∈ l then s g + a else s g
  | [], s, a, g, _ => by rw [if_neg (by simp)]; rfl
  | x :: l, s, a, g, h => by
    have h1 := addWay_at l (addAt s x a) a g (List.nodup_cons.1 h).2
    show addWay (addAt s x a) l a g = _
    rw [h1]
    unfold addAt
    by_cases hg : g = x
    · subst hg
      rw [if_neg (List.nodup_cons.1 h).1, if_pos rfl, if_pos (List.mem_cons_self ..)]
    · rw [if_neg hg]
      by_cases hm : g ∈ l
      · rw [if_pos hm, if_pos (List.mem_cons_of_mem _ hm)]
      · rw [if_neg hm, if_neg (by simp [hg, hm])]
def openL (op : Nat → Bool) : Nat → List Nat
  | 0 => []
  | c + 1 => openL op c ++ (if op c then [c] else [])
theorem openL_filter (op : Nat → Bool) : ∀ c, openL op c = (List.range c).filter op
  | 0 => rfl
  | c + 1 => by
    rw [openL, openL_filter op c, List.range_succ, List.filter_append]
    cases h : op c <;> simp [h]
theorem addAll_append (ds : List Int) (pl : Nat → Int) (am s : Nat → Rat) (xs ys : List Nat) : addAll ds pl am s (xs ++ ys) = addAll ds pl am (addAll ds pl am s xs) ys := by
  unfold addAll
  rw [List.foldl_append]
theorem addAll_sum {d : List Int} (h : EndsN d) (place : Nat → Nat) (op : Nat → Bool) (am : Nat → Rat) (g : Nat) : ∀ c : Nat,
    addAll d (fun k => (place k : Int)) am (fun _ => 0) ((List.range c).filter op) g = sumQ c (onlyQ (fun k => onN d g (place k) && op k) am)
  | 0 => rfl
  | c + 1 => by
    have ih := addAll_sum h place op am g c
    rw [← openL_filter] at ih ⊢
    rw [openL, addAll_append, sumQ, ← ih]
    cases ho : op c
    · show addAll d _ am (fun _ => 0) (openL op c) g = _ + onlyQ _ am c
      rw [show onlyQ (fun k => onN d g (place k) && op k) am c = 0 by unfold onlyQ; simp [ho]]
      grind
    · show addWay (addAll d _ am (fun _ => 0) (openL op c)) (way d (place c)) (am c) g = _ + onlyQ _ am c
      rw [addWay_at _ _ _ _ (show (way d (place c)).Nodup from wayN_nodup h _ _)]
      cases hg : onN d g (place c)
      · rw [if_neg (fun hm => by rw [(way_on h).1 hm] at hg; cases hg), show onlyQ (fun k => onN d g (place k) && op k) am c = 0 by unfold onlyQ; simp [hg]]
        grind
      · rw [if_pos ((way_on h).2 hg), show onlyQ (fun k => onN d g (place k) && op k) am c = am c by unfold onlyQ; simp [ho, hg]]
theorem RivOK.endsN {ds : List Int} (h : RivOK ds) : EndsN ds := ends_of h.ends
theorem pass_sum {ds : List Int} (h : EndsN ds) (us : List Rv) (g : Nat) : passF ds us g = passQ (onN ds) us.length (fun p => qR (us.getD p zeroR)) g := by
  have h1 := addAll_sum h (fun k => k) (fun _ => true) (fun k => qR (us.getD k zeroR)) g us.length
  have h2 : (List.range us.length).filter (fun _ => true) = List.range us.length := List.filter_eq_self.2 fun _ _ => rfl
  rw [h2] at h1
  unfold passF passQ
  rw [h1]
  refine sumQ_congr fun k _ => ?_
  show cond (onN ds g k && true) _ 0 = cond (onN ds g k) _ 0
  rw [Bool.and_true]
theorem want_sum {ds : List Int} (h : EndsN ds) (place : Nat → Nat) (am : Nat → Rat) (op : Nat → Bool) (m g : Nat) :
    addAll ds (fun k => (place k : Int)) am (fun _ => 0) ((List.range m).filter op) g = wantQ (onN ds) m place am op g := addAll_sum h place op am g m
end Go.Proofs.YtanhhdndgkhcfaaGreatDoor
namespace Go.Proofs.YtanhhdndgkhcfaaGreatDoor
open Go.RowKit Go.Maps Go.Sort Go.Shelf
def blkOf (n : Nat) : Code → Option Code
  | .block m c => if m = n then some c else blkOf n c
  | .loop c => blkOf n c
  | .scope c => blkOf n c
  | .seq a b => match blkOf n a with
    | some c => some c
    | none => blkOf n b
  | .cond _ a b => match blkOf n a with
    | some c => some c
    | none => blkOf n b
  | .rangeFunc _ _ _ b => blkOf n b
  | _ => none
def loopOf : Code → Option Code
  | .loop c => some c
  | _ => none
noncomputable def aBody (n : Nat) : Code := (((Tryz.f28).body.bind (blkOf n)).bind loopOf).getD .skip
theorem ranks_step {H : Type} {cs : List Cl} {j : Nat} {x : Cl} (h : cs[j]? = some x) : (ranksD (List.take (j + 1) (cs.map (·.rank))) : DataW H) = (ranksD ((cs.take j).map (·.rank))).put (.int .i64 x.rank) (.lit (.bool true)) := by
  obtain ⟨hlt, rfl⟩ := List.getElem?_eq_some_iff.1 h
  rw [← List.map_take, List.take_succ_eq_append_getElem hlt, List.map_append]
  exact ranksD_append _ _
def tmpN (a : Act) (i : Nat) : Nat := match a.tmps[i]? with
  | some (.int _ j) => j.toNat
  | _ => 0
set_option maxRecDepth 1000000 in
set_option maxHeartbeats 4000000 in
theorem allotL1 {Q : Exit → Act → World → Prop} (cs : List Cl) (cp : Option Addr) (cc mb N : Nat) (w0 : World) (ds : List Deferred) (c0 c1 c2 c3 c4 c5 c6 c7 c8 c9 c11 c13 c14 c15 c16 c17 c18 c19 c20 c21 c22 c23 c24 c25 c26 c27 c28 c29 c30 c31 c32 c33 c34 c35 c36 c37 c38 c39 c40 c41 c42 c43 c44 c45 c56 c57 c58 c59 c60 c61 c62 c63 c64 c65 c66 c67 c68 c69 c70 c71 c72 c73 c74 c75 c76 c77 c78 c79 c80 c81 c82 c83 c84 c85 c86 c87 c88 c89 c90 c91 c92 c93 c94 c95 c96 c97 c98 c99 c100 c101 c102 c103 c104 c105 c106 c107 c108 c109 c110 c111 c112 c113 c114 c115 c116 c117 c118 c119 c120 c121 c122 c123 c124 c125 c126 c127 c128 c129 c130 c131 c132 c133 c134 c135 c136 c137 c138 c139 c140 c141 c142 c143 c144 c145 c146 c147 c148 c149 c150 c151 c152 c153 c154 c155 c156 c157 c158 c159 c160 c161 c162 c163 c164 c165 c166 c167 c168 c169 c170 c171 c172 c173 c174 c175 c176 c177 c178 c179 c180 c181 c182 c183 c184 c185 c186 c187 c188 c189 c190 c191 c192 c193 c194 c195 c196 c12 c49 c50 c51 c52 c53 c54 c55 : Value)
    (HA : At N w0 5 claimCells cs cp cc) (hsz : cs.length ≤ 200) (hr : ∀ c ∈ cs, 0 ≤ c.rank ∧ c.rank ≤ 100) (hown : w0.ownsMap Tryz.prog 3 (plainElem (H := Nat) Tryz.prog 4) mb 0 (.map [])) (hN : N ≤ mb)
    (hexit : ∀ (u12 u48 u49 u50 u51 u52 u53 u54 u55 : Value) (w' : World), w'.ownsMap Tryz.prog 3 (plainElem (H := Nat) Tryz.prog 4) mb cs.length (ranksD (cs.map (·.rank))) → Turned (fun i => i = mb) w0 w' → Q (.exit 0) { tmps := (c0 :: c1 :: c2 :: c3 :: c4 :: c5 :: c6 :: c7 :: c8 :: c9 :: .map (some mb) :: c11 :: u12 :: c13 :: c14 :: c15 :: c16 :: c17 :: c18 :: c19 :: c20 :: c21 :: c22 :: c23 :: c24 :: c25 :: c26 :: c27 :: c28 :: c29 :: c30 :: c31 :: c32 :: c33 :: c34 :: c35 :: c36 :: c37 :: c38 :: c39 :: c40 :: c41 :: c42 :: c43 :: c44 :: c45 :: .slice cp cs.length cc :: (.int .i64 (cs.length)) :: u48 :: u49 :: u50 :: u51 :: u52 :: u53 :: u54 :: u55 :: c56 :: c57 :: c58 :: c59 :: c60 :: c61 :: c62 :: c63 :: c64 :: c65 :: c66 :: c67 :: c68 :: c69 :: c70 :: c71 :: c72 :: c73 :: c74 :: c75 :: c76 :: c77 :: c78 :: c79 :: c80 :: c81 :: c82 :: c83 :: c84 :: c85 :: c86 :: c87 :: c88 :: c89 :: c90 :: c91 :: c92 :: c93 :: c94 :: c95 :: c96 :: c97 :: c98 :: c99 :: c100 :: c101 :: c102 :: c103 :: c104 :: c105 :: c106 :: c107 :: c108 :: c109 :: c110 :: c111 :: c112 :: c113 :: c114 :: c115 :: c116 :: c117 :: c118 :: c119 :: c120 :: c121 :: c122 :: c123 :: c124 :: c125 :: c126 :: c127 :: c128 :: c129 :: c130 :: c131 :: c132 :: c133 :: c134 :: c135 :: c136 :: c137 :: c138 :: c139 :: c140 :: c141 :: c142 :: c143 :: c144 :: c145 :: c146 :: c147 :: c148 :: c149 :: c150 :: c151 :: c152 :: c153 :: c154 :: c155 :: c156 :: c157 :: c158 :: c159 :: c160 :: c161 :: c162 :: c163 :: c164 :: c165 :: c166 :: c167 :: c168 :: c169 :: c170 :: c171 :: c172 :: c173 :: c174 :: c175 :: c176 :: c177 :: c178 :: c179 :: c180 :: c181 :: c182 :: c183 :: c184 :: c185 :: c186 :: c187 :: c188 :: c189 :: c190 :: c191 :: c192 :: c193 :: c194 :: c195 :: c196 :: []).toArray, defers := ds } w') :
    Code.wp Tryz.prog (Code.loop (aBody 0)) Q { tmps := (c0 :: c1 :: c2 :: c3 :: c4 :: c5 :: c6 :: c7 :: c8 :: c9 :: .map (some mb) :: c11 :: c12 :: c13 :: c14 :: c15 :: c16 :: c17 :: c18 :: c19 :: c20 :: c21 :: c22 :: c23 :: c24 :: c25 :: c26 :: c27 :: c28 :: c29 :: c30 :: c31 :: c32 :: c33 :: c34 :: c35 :: c36 :: c37 :: c38 :: c39 :: c40 :: c41 :: c42 :: c43 :: c44 :: c45 :: .slice cp cs.length cc :: (.int .i64 (cs.length)) :: (.int .i64 0) :: c49 :: c50 :: c51 :: c52 :: c53 :: c54 :: c55 :: c56 :: c57 :: c58 :: c59 :: c60 :: c61 :: c62 :: c63 :: c64 :: c65 :: c66 :: c67 :: c68 :: c69 :: c70 :: c71 :: c72 :: c73 :: c74 :: c75 :: c76 :: c77 :: c78 :: c79 :: c80 :: c81 :: c82 :: c83 :: c84 :: c85 :: c86 :: c87 :: c88 :: c89 :: c90 :: c91 :: c92 :: c93 :: c94 :: c95 :: c96 :: c97 :: c98 :: c99 :: c100 :: c101 :: c102 :: c103 :: c104 :: c105 :: c106 :: c107 :: c108 :: c109 :: c110 :: c111 :: c112 :: c113 :: c114 :: c115 :: c116 :: c117 :: c118 :: c119 :: c120 :: c121 :: c122 :: c123 :: c124 :: c125 :: c126 :: c127 :: c128 :: c129 :: c130 :: c131 :: c132 :: c133 :: c134 :: c135 :: c136 :: c137 :: c138 :: c139 :: c140 :: c141 :: c142 :: c143 :: c144 :: c145 :: c146 :: c147 :: c148 :: c149 :: c150 :: c151 :: c152 :: c153 :: c154 :: c155 :: c156 :: c157 :: c158 :: c159 :: c160 :: c161 :: c162 :: c163 :: c164 :: c165 :: c166 :: c167 :: c168 :: c169 :: c170 :: c171 :: c172 :: c173 :: c174 :: c175 :: c176 :: c177 :: c178 :: c179 :: c180 :: c181 :: c182 :: c183 :: c184 :: c185 :: c186 :: c187 :: c188 :: c189 :: c190 :: c191 :: c192 :: c193 :: c194 :: c195 :: c196 :: []).toArray, defers := ds } w0 := by
  have HHA := Lib.hid HA
  have HR := Lib.hid hr
  obtain ⟨n, hn⟩ : ∃ n, cs.length = n := ⟨_, rfl⟩
  have HNN := Lib.hid hn
  rw [hn] at hexit hsz ⊢
  clear HA hr hn
  refine wp_loop (fun a w' => ∃ (j : Nat) (u12 u49 u50 u51 u52 u53 u54 u55 : Value), (j ≤ n ∧ Hid (w'.ownsMap Tryz.prog 3 (plainElem (H := Nat) Tryz.prog 4) mb j (ranksD ((cs.take j).map (·.rank))) ∧ Turned (fun i => i = mb) w0 w')) ∧ a = { tmps := (c0 :: c1 :: c2 :: c3 :: c4 :: c5 :: c6 :: c7 :: c8 :: c9 :: .map (some mb) :: c11 :: u12 :: c13 :: c14 :: c15 :: c16 :: c17 :: c18 :: c19 :: c20 :: c21 :: c22 :: c23 :: c24 :: c25 :: c26 :: c27 :: c28 :: c29 :: c30 :: c31 :: c32 :: c33 :: c34 :: c35 :: c36 :: c37 :: c38 :: c39 :: c40 :: c41 :: c42 :: c43 :: c44 :: c45 :: .slice cp n cc :: (.int .i64 n) :: (.int .i64 j) :: u49 :: u50 :: u51 :: u52 :: u53 :: u54 :: u55 :: c56 :: c57 :: c58 :: c59 :: c60 :: c61 :: c62 :: c63 :: c64 :: c65 :: c66 :: c67 :: c68 :: c69 :: c70 :: c71 :: c72 :: c73 :: c74 :: c75 :: c76 :: c77 :: c78 :: c79 :: c80 :: c81 :: c82 :: c83 :: c84 :: c85 :: c86 :: c87 :: c88 :: c89 :: c90 :: c91 :: c92 :: c93 :: c94 :: c95 :: c96 :: c97 :: c98 :: c99 :: c100 :: c101 :: c102 :: c103 :: c104 :: c105 :: c106 :: c107 :: c108 :: c109 :: c110 :: c111 :: c112 :: c113 :: c114 :: c115 :: c116 :: c117 :: c118 :: c119 :: c120 :: c121 :: c122 :: c123 :: c124 :: c125 :: c126 :: c127 :: c128 :: c129 :: c130 :: c131 :: c132 :: c133 :: c134 :: c135 :: c136 :: c137 :: c138 :: c139 :: c140 :: c141 :: c142 :: c143 :: c144 :: c145 :: c146 :: c147 :: c148 :: c149 :: c150 :: c151 :: c152 :: c153 :: c154 :: c155 :: c156 :: c157 :: c158 :: c159 :: c160 :: c161 :: c162 :: c163 :: c164 :: c165 :: c166 :: c167 :: c168 :: c169 :: c170 :: c171 :: c172 :: c173 :: c174 :: c175 :: c176 :: c177 :: c178 :: c179 :: c180 :: c181 :: c182 :: c183 :: c184 :: c185 :: c186 :: c187 :: c188 :: c189 :: c190 :: c191 :: c192 :: c193 :: c194 :: c195 :: c196 :: []).toArray, defers := ds }) (fun a _ => n - tmpN a 48) ?_ ?_
  · exact ⟨0, _, _, _, _, _, _, _, _, ⟨Nat.zero_le _, Lib.hid ⟨hown, Turned.refl _ _⟩⟩, rfl⟩
  · have hown0 := hown
    clear hown
    rintro a wr ⟨j, u12, u49, u50, u51, u52, u53, u54, u55, ⟨hj, HH⟩, rfl⟩
    by_cases hlt : j < n
    · have hx : cs[j]? = some (cs[j]'(by rw [HNN.out]; exact hlt)) := List.getElem?_eq_getElem _
      obtain ⟨⟨pl, rk, ⟨un, ux, ud⟩⟩, hxe⟩ : ∃ u, cs[j]'(by rw [HNN.out]; exact hlt) = u := ⟨_, rfl⟩
      rw [hxe] at hx
      have hrk := HR.out _ (List.mem_of_getElem? hx)
      have hsame : Same N w0 wr := HH.out.2.same (by have := hown0.lt; omega) (fun k hk => by omega)
      obtain ⟨b, a, rfl, -, e0, e1, e2, e3, e4⟩ := (HHA.out.same hsame).claims hx
      have TA := (Turned.refl (fun _ => False) wr).alloc (.cells #[(.int .i64 pl), (.int .i64 rk), .bool un, .string ux, .string ud] 75)
      have HOA := HH.out.1.alloc (.cells #[(.int .i64 pl), (.int .i64 rk), .bool un, .string ux, .string ud] 75)
      have hkey : keyOf Tryz.prog 3 (.int .i64 rk) = some (.int .i64 rk) := keyOf_int_mk Tryz.underlying3 (by show (decide (IntKind.i64.min ≤ rk) && decide (rk ≤ IntKind.i64.max)) = true; rw [Bool.and_eq_true, decide_eq_true_eq, decide_eq_true_eq, show IntKind.i64.min = -9223372036854775808 from rfl, show IntKind.i64.max = 9223372036854775807 from rfl]; have h0 : 0 ≤ rk ∧ rk ≤ 100 := hrk; omega)
      have HX := Lib.hid hx
      clear hx hxe hsame
      conv => arg 2; whnf
      go_wp2_with (first | (at_mapUpdate; refine wpList_mapUpdate_own _ rfl _ _ _ 99 rfl 3 4 (int_keyed Tryz.underlying3) Tryz.underlying99 _ mb j _ rfl HOA (by simp [maxLen]; omega) _ _ (.int .i64 rk) rfl rfl hkey (.lit (.bool true)) [] (plainElem_bool Tryz.underlying4 true) ?_; intro w1 hown1 hgrow1) | fail)
      refine ⟨⟨j + 1, ⟨hlt, Lib.hid ⟨?_, ?_⟩⟩, rfl⟩, ?_⟩
      · rw [ranks_step HX.out]; exact hown1
      · exact HH.out.2.trans ((TA.mono fun _ h => h.elim).trans ⟨hgrow1.os, hgrow1.tape, hgrow1.output, hgrow1.size, fun i hi h => hgrow1.block i hi fun e => h (by cases e; rfl)⟩)
      · simp [tmpN]; omega
    · obtain rfl : j = n := by omega
      conv => arg 2; whnf
      go_wp2_with fail
      refine hexit _ _ _ _ _ _ _ _ _ wr ?_ HH.out.2
      have h1 := HH.out.1
      rwa [List.take_of_length_le (Nat.le_of_eq HNN.out)] at h1
end Go.Proofs.YtanhhdndgkhcfaaGreatDoor
namespace Go.Proofs.YtanhhdndgkhcfaaGreatDoor
def OwnB (W : World) (g : Nat) (l : List Bool) : Prop := W.heap[g]? = some (.cells (l.map Value.bool).toArray 4 (0, 0))
section
variable {W W' : World} {g : Nat} {l : List Bool}
theorem OwnB.lt (h : OwnB W g l) : g < W.heap.size := getElem?_lt h
theorem OwnB.made (W : World) (n : Nat) : OwnB (W.alloc (.cells (Array.replicate n (.bool false)) 4)) W.heap.size (List.replicate n false) := by
  unfold OwnB
  rw [World.alloc_heap_new, List.map_replicate]
  congr 2
theorem OwnB.cell (h : OwnB W g l) {i : Nat} {u : Bool} (hi : l[i]? = some u) : W.cell? ⟨g, i, none⟩ = some (.bool u) := by
  simp only [World.cell?, show W.heap[g]? = _ from h]
  simp [hi]
theorem OwnB.free (h : OwnB W g l) (o : Nat) : W.frozen? ⟨g, o, none⟩ = false := by simp [World.frozen?, show W.heap[g]? = _ from h]
theorem OwnB.turned (h : OwnB W g l) {C : Nat → Prop} (ht : Turned C W W') (hC : ¬ C g) : OwnB W' g l := (ht.block g h.lt hC).trans h
theorem OwnB.set (h : OwnB W g l) (i : Nat) (u : Bool) : OwnB (W.setCell ⟨g, i, none⟩ (.bool u)) g (l.set i u) ∧ Turned (fun k => k = g) W (W.setCell ⟨g, i, none⟩ (.bool u)) := by
  refine ⟨?_, (Turned.refl (fun k => k = g) W).setCell (p := ⟨g, i, none⟩) rfl _⟩
  unfold OwnB
  rw [set_block h i (.bool u)]
  congr 2
  apply Array.ext'
  simp [List.map_set]
theorem OwnB.at_ (h : OwnB W g l) {N : Nat} (hN : g < N) (hm : l.length ≤ maxLen) : At N W 1 boolCells l (some ⟨g, 0, none⟩) l.length :=
  ⟨Nat.le_refl _, hm, fun i u hi => ⟨g, 0, rfl, hN, fun j v hj => by
    have hj3 : j = 0 := by
      have := (List.getElem?_eq_some_iff.1 hj).1
      simp at this
      omega
    subst hj3
    have h2 : v = .bool u := by simpa using hj.symm
    rw [h2]
    simpa using h.cell hi⟩⟩
end
def bL (m : Nat) (f : Nat → Bool) : List Bool := (List.range m).map f
theorem bL_len (m : Nat) (f : Nat → Bool) : (bL m f).length = m := by unfold bL; simp
theorem bL_at (m : Nat) (f : Nat → Bool) (i : Nat) : (bL m f)[i]? = if i < m then some (f i) else none := by
  unfold bL
  rw [List.getElem?_map]
  by_cases h : i < m
  · simp [h]
  · rw [List.getElem?_eq_none (by simp; omega), if_neg h]; rfl
theorem bL_get {m i : Nat} (f : Nat → Bool) (h : i < m) : (bL m f)[i]? = some (f i) := by rw [bL_at, if_pos h]
theorem bL_set (m : Nat) (f : Nat → Bool) (j : Nat) (u : Bool) : (bL m f).set j u = bL m (fun k => if k = j then u else f k) := by
  apply List.ext_getElem?
  intro i
  rw [List.getElem?_set, bL_at, bL_at, bL_len]
  by_cases h : j = i
  · subst h; by_cases hm : j < m <;> simp [hm]
  · rw [if_neg h, if_neg (fun e : i = j => h e.symm)]
theorem bL_congr {m : Nat} {f g : Nat → Bool} (h : ∀ k, k < m → f k = g k) : bL m f = bL m g := by
  apply List.ext_getElem?
  intro i
  rw [bL_at, bL_at]
  by_cases hi : i < m
  · rw [if_pos hi, if_pos hi, h i hi]
  · rw [if_neg hi, if_neg hi]
theorem bL_none (m : Nat) : List.replicate m false = bL m fun _ => false := by
  apply List.ext_getElem?
  intro i
  rw [bL_at, List.getElem?_replicate]
theorem bL_some (m : Nat) (f : Nat → Bool) : (bL m f).contains true = (List.range m).any f := by
  unfold bL
  rw [List.contains_eq_any_beq, List.any_map]
  congr 1
  funext k
  simp
def noCl : Cl := ⟨0, 0, zeroR⟩
def rankK (cs : List Cl) (k : Nat) : Int := (cs.getD k noCl).rank
def amtK (cs : List Cl) (k : Nat) : Rat := qR (cs.getD k noCl).amt
def placeK (cs : List Cl) (k : Nat) : Nat := (cs.getD k noCl).place.toNat
theorem getD_of {α : Type} {l : List α} {k : Nat} {x d : α} (h : l[k]? = some x) : l.getD k d = x := by rw [List.getD_eq_getElem?_getD, h]; rfl
end Go.Proofs.YtanhhdndgkhcfaaGreatDoor
namespace Go.Proofs.YtanhhdndgkhcfaaGreatDoor
open Go.RowKit
attribute [local go_sem ↓] run_eql_rat' run_neq_rat'
theorem amt_zero {u : Rv} (h : natR u = true) : sameR u zeroR = decide (qR u = 0) := by
  unfold sameR
  congr 1
  refine propext ⟨fun e => ?_, fun e => ?_⟩
  · rw [e, ← repR_zero, qR_repR]
  · rw [← repR_qR (natR_valid h).1, e, repR_zero]
theorem box5 {w : World} {b t : Nat} {v x y z u : Value} (h : w.heap[b]? = some (.cells #[v, x, y, z, u] t (0, 0))) : w.cell? ⟨b, 0, none⟩ = some v ∧ w.cell? ⟨b, 1, none⟩ = some x ∧ w.cell? ⟨b, 2, none⟩ = some y ∧ w.cell? ⟨b, 3, none⟩ = some z ∧ w.cell? ⟨b, 4, none⟩ = some u := by
  simp [World.cell?, h]
theorem wp_region_plain {P : Program} {Q : Exit → Act → World → Prop} {S : World → Prop} {id : Nat} {ops : Array Oper} {a : Act} {w : World} (hm : P.follows .mixedOrders = true)
    (h : wpAnyH P .any ops (OnlyN Q) S ops.size (Array.replicate ops.size false) a w.drew) : (Code.region id ops true).wp P Q a w :=
  wp_mono (wp_region_held hm h) (fun e a' w' hq => by cases e <;> first | exact hq | exact hq.elim)
def openTo (cs : List Cl) (r : Int) (j : Nat) : Nat → Bool := fun k => decide (k < j) && firstOpen (rankK cs) (amtK cs) r k
theorem openTo_step {cs : List Cl} {r : Int} {j : Nat} {x : Cl} (hx : cs[j]? = some x) (hn : natR x.amt = true) (m : Nat) : (bL m (openTo cs r j)).set j (decide (x.rank = r) && !sameR x.amt zeroR) = bL m (openTo cs r (j + 1)) := by
  rw [bL_set]
  refine bL_congr fun k _ => ?_
  have hk := getD_of (d := noCl) hx
  unfold openTo firstOpen rankK amtK
  by_cases h : k = j
  · subst h
    rw [if_pos rfl, hk, amt_zero hn, show decide (k < k + 1) = true from decide_eq_true (by omega), Bool.true_and]
    congr 1
    by_cases hz : qR x.amt = 0 <;> simp [hz]
  · rw [if_neg h]
    congr 1
    by_cases h2 : k < j
    · rw [decide_eq_true h2, decide_eq_true (by omega : k < j + 1)]
    · rw [decide_eq_false h2, decide_eq_false (by omega : ¬ k < j + 1)]
theorem openTo_all (cs : List Cl) (r : Int) (m : Nat) : bL m (openTo cs r m) = bL m (firstOpen (rankK cs) (amtK cs) r) := bL_congr fun k hk => by
  unfold openTo
  rw [decide_eq_true hk, Bool.true_and]
theorem openTo_none (cs : List Cl) (r : Int) (m : Nat) : bL m (fun _ => false) = bL m (openTo cs r 0) := bL_congr fun k _ => by
  unfold openTo
  rw [decide_eq_false (by omega), Bool.false_and]
set_option maxRecDepth 1000000 in
set_option maxHeartbeats 1000000 in
set_option linter.unusedSimpArgs false in
theorem allotL3 {Q : Exit → Act → World → Prop} (cs : List Cl) (cp : Option Addr) (cc bo ob N : Nat) (r : Int) (w0 : World) (ds : List Deferred) (c0 c1 c2 c3 c4 c5 c6 c7 c8 c9 c10 c11 c12 c13 c18 c19 c20 c21 c22 c23 c24 c25 c26 c27 c28 c29 c30 c31 c32 c33 c34 c35 c36 c37 c38 c39 c40 c41 c42 c43 c44 c45 c46 c47 c48 c49 c50 c51 c52 c53 c54 c55 c56 c57 c58 c59 c60 c61 c62 c63 c64 c65 c66 c88 c89 c90 c91 c92 c93 c94 c95 c96 c97 c98 c99 c100 c101 c102 c103 c104 c105 c106 c107 c108 c109 c110 c111 c112 c113 c114 c115 c116 c117 c118 c119 c120 c121 c122 c123 c124 c125 c126 c127 c128 c129 c130 c131 c132 c133 c134 c135 c136 c137 c138 c139 c140 c141 c142 c143 c144 c145 c146 c147 c148 c149 c150 c151 c152 c153 c154 c155 c156 c157 c158 c159 c160 c161 c162 c163 c164 c165 c166 c167 c168 c169 c170 c171 c172 c173 c174 c175 c176 c177 c178 c179 c180 c181 c182 c183 c184 c185 c186 c187 c188 c189 c190 c191 c192 c193 c194 c195 c196 c16 c17 c70 c71 c72 c73 c74 c75 c76 c77 c78 c79 c80 c81 c82 c83 c84 c85 c86 c87 : Value)
    (HA : At N w0 5 claimCells cs cp cc) (hsz : cs.length ≤ 200) (hc : ∀ c ∈ cs, natR c.amt = true) (hbx : w0.heap[bo]? = some (.cells #[.slice (some ⟨ob, 0, none⟩) cs.length cs.length] 104 (0, 0))) (hob : OwnB w0 ob (List.replicate cs.length false)) (hN1 : N ≤ bo) (hN2 : N ≤ ob) (hne : bo ≠ ob)
    (hexit : ∀ (u16 u17 u69 u70 u71 u72 u73 u74 u75 u76 u77 u78 u79 u80 u81 u82 u83 u84 u85 u86 u87 : Value) (w' : World), OwnB w' ob (bL cs.length (firstOpen (rankK cs) (amtK cs) r)) → Turned (fun i => i = ob) w0 w' → Q (.exit 4) { tmps := (c0 :: c1 :: c2 :: c3 :: c4 :: c5 :: c6 :: c7 :: c8 :: c9 :: c10 :: c11 :: c12 :: c13 :: (.int .i64 r) :: .pointer (some ⟨bo, 0, none⟩) :: u16 :: u17 :: c18 :: c19 :: c20 :: c21 :: c22 :: c23 :: c24 :: c25 :: c26 :: c27 :: c28 :: c29 :: c30 :: c31 :: c32 :: c33 :: c34 :: c35 :: c36 :: c37 :: c38 :: c39 :: c40 :: c41 :: c42 :: c43 :: c44 :: c45 :: c46 :: c47 :: c48 :: c49 :: c50 :: c51 :: c52 :: c53 :: c54 :: c55 :: c56 :: c57 :: c58 :: c59 :: c60 :: c61 :: c62 :: c63 :: c64 :: c65 :: c66 :: .slice cp cs.length cc :: (.int .i64 (cs.length)) :: u69 :: u70 :: u71 :: u72 :: u73 :: u74 :: u75 :: u76 :: u77 :: u78 :: u79 :: u80 :: u81 :: u82 :: u83 :: u84 :: u85 :: u86 :: u87 :: c88 :: c89 :: c90 :: c91 :: c92 :: c93 :: c94 :: c95 :: c96 :: c97 :: c98 :: c99 :: c100 :: c101 :: c102 :: c103 :: c104 :: c105 :: c106 :: c107 :: c108 :: c109 :: c110 :: c111 :: c112 :: c113 :: c114 :: c115 :: c116 :: c117 :: c118 :: c119 :: c120 :: c121 :: c122 :: c123 :: c124 :: c125 :: c126 :: c127 :: c128 :: c129 :: c130 :: c131 :: c132 :: c133 :: c134 :: c135 :: c136 :: c137 :: c138 :: c139 :: c140 :: c141 :: c142 :: c143 :: c144 :: c145 :: c146 :: c147 :: c148 :: c149 :: c150 :: c151 :: c152 :: c153 :: c154 :: c155 :: c156 :: c157 :: c158 :: c159 :: c160 :: c161 :: c162 :: c163 :: c164 :: c165 :: c166 :: c167 :: c168 :: c169 :: c170 :: c171 :: c172 :: c173 :: c174 :: c175 :: c176 :: c177 :: c178 :: c179 :: c180 :: c181 :: c182 :: c183 :: c184 :: c185 :: c186 :: c187 :: c188 :: c189 :: c190 :: c191 :: c192 :: c193 :: c194 :: c195 :: c196 :: []).toArray, defers := ds } w') :
    Code.wp Tryz.prog (Code.loop (aBody 4)) Q { tmps := (c0 :: c1 :: c2 :: c3 :: c4 :: c5 :: c6 :: c7 :: c8 :: c9 :: c10 :: c11 :: c12 :: c13 :: (.int .i64 r) :: .pointer (some ⟨bo, 0, none⟩) :: c16 :: c17 :: c18 :: c19 :: c20 :: c21 :: c22 :: c23 :: c24 :: c25 :: c26 :: c27 :: c28 :: c29 :: c30 :: c31 :: c32 :: c33 :: c34 :: c35 :: c36 :: c37 :: c38 :: c39 :: c40 :: c41 :: c42 :: c43 :: c44 :: c45 :: c46 :: c47 :: c48 :: c49 :: c50 :: c51 :: c52 :: c53 :: c54 :: c55 :: c56 :: c57 :: c58 :: c59 :: c60 :: c61 :: c62 :: c63 :: c64 :: c65 :: c66 :: .slice cp cs.length cc :: (.int .i64 (cs.length)) :: (.int .i64 0) :: c70 :: c71 :: c72 :: c73 :: c74 :: c75 :: c76 :: c77 :: c78 :: c79 :: c80 :: c81 :: c82 :: c83 :: c84 :: c85 :: c86 :: c87 :: c88 :: c89 :: c90 :: c91 :: c92 :: c93 :: c94 :: c95 :: c96 :: c97 :: c98 :: c99 :: c100 :: c101 :: c102 :: c103 :: c104 :: c105 :: c106 :: c107 :: c108 :: c109 :: c110 :: c111 :: c112 :: c113 :: c114 :: c115 :: c116 :: c117 :: c118 :: c119 :: c120 :: c121 :: c122 :: c123 :: c124 :: c125 :: c126 :: c127 :: c128 :: c129 :: c130 :: c131 :: c132 :: c133 :: c134 :: c135 :: c136 :: c137 :: c138 :: c139 :: c140 :: c141 :: c142 :: c143 :: c144 :: c145 :: c146 :: c147 :: c148 :: c149 :: c150 :: c151 :: c152 :: c153 :: c154 :: c155 :: c156 :: c157 :: c158 :: c159 :: c160 :: c161 :: c162 :: c163 :: c164 :: c165 :: c166 :: c167 :: c168 :: c169 :: c170 :: c171 :: c172 :: c173 :: c174 :: c175 :: c176 :: c177 :: c178 :: c179 :: c180 :: c181 :: c182 :: c183 :: c184 :: c185 :: c186 :: c187 :: c188 :: c189 :: c190 :: c191 :: c192 :: c193 :: c194 :: c195 :: c196 :: []).toArray, defers := ds } w0 := by
  have HHA := Lib.hid HA
  have HR := Lib.hid hc
  have HBX := Lib.hid hbx
  obtain ⟨n, hn⟩ : ∃ n, cs.length = n := ⟨_, rfl⟩
  have HNN := Lib.hid hn
  rw [hn] at hexit hsz hob HBX ⊢
  rw [bL_none, openTo_none cs r] at hob
  have hl1 := getElem?_lt hbx
  have hl2 := hob.lt
  have HOB := Lib.hid hob
  clear HA hc hn hbx hob
  refine wp_loop (fun a w' => ∃ (j : Nat) (u16 u17 u70 u71 u72 u73 u74 u75 u76 u77 u78 u79 u80 u81 u82 u83 u84 u85 u86 u87 : Value), (j ≤ n ∧ Hid (OwnB w' ob (bL n (openTo cs r j)) ∧ Turned (fun i => i = ob) w0 w')) ∧ a = { tmps := (c0 :: c1 :: c2 :: c3 :: c4 :: c5 :: c6 :: c7 :: c8 :: c9 :: c10 :: c11 :: c12 :: c13 :: (.int .i64 r) :: .pointer (some ⟨bo, 0, none⟩) :: u16 :: u17 :: c18 :: c19 :: c20 :: c21 :: c22 :: c23 :: c24 :: c25 :: c26 :: c27 :: c28 :: c29 :: c30 :: c31 :: c32 :: c33 :: c34 :: c35 :: c36 :: c37 :: c38 :: c39 :: c40 :: c41 :: c42 :: c43 :: c44 :: c45 :: c46 :: c47 :: c48 :: c49 :: c50 :: c51 :: c52 :: c53 :: c54 :: c55 :: c56 :: c57 :: c58 :: c59 :: c60 :: c61 :: c62 :: c63 :: c64 :: c65 :: c66 :: .slice cp n cc :: (.int .i64 n) :: (.int .i64 j) :: u70 :: u71 :: u72 :: u73 :: u74 :: u75 :: u76 :: u77 :: u78 :: u79 :: u80 :: u81 :: u82 :: u83 :: u84 :: u85 :: u86 :: u87 :: c88 :: c89 :: c90 :: c91 :: c92 :: c93 :: c94 :: c95 :: c96 :: c97 :: c98 :: c99 :: c100 :: c101 :: c102 :: c103 :: c104 :: c105 :: c106 :: c107 :: c108 :: c109 :: c110 :: c111 :: c112 :: c113 :: c114 :: c115 :: c116 :: c117 :: c118 :: c119 :: c120 :: c121 :: c122 :: c123 :: c124 :: c125 :: c126 :: c127 :: c128 :: c129 :: c130 :: c131 :: c132 :: c133 :: c134 :: c135 :: c136 :: c137 :: c138 :: c139 :: c140 :: c141 :: c142 :: c143 :: c144 :: c145 :: c146 :: c147 :: c148 :: c149 :: c150 :: c151 :: c152 :: c153 :: c154 :: c155 :: c156 :: c157 :: c158 :: c159 :: c160 :: c161 :: c162 :: c163 :: c164 :: c165 :: c166 :: c167 :: c168 :: c169 :: c170 :: c171 :: c172 :: c173 :: c174 :: c175 :: c176 :: c177 :: c178 :: c179 :: c180 :: c181 :: c182 :: c183 :: c184 :: c185 :: c186 :: c187 :: c188 :: c189 :: c190 :: c191 :: c192 :: c193 :: c194 :: c195 :: c196 :: []).toArray, defers := ds }) (fun a _ => n - tmpN a 69) ?_ ?_
  · exact ⟨0, _, _, _, _, _, _, _, _, _, _, _, _, _, _, _, _, _, _, _, _, ⟨Nat.zero_le _, Lib.hid ⟨HOB.out, Turned.refl _ _⟩⟩, rfl⟩
  · clear HOB
    rintro a wr ⟨j, u16, u17, u70, u71, u72, u73, u74, u75, u76, u77, u78, u79, u80, u81, u82, u83, u84, u85, u86, u87, ⟨hj, HH⟩, rfl⟩
    by_cases hlt : j < n
    · have hx : cs[j]? = some (cs[j]'(by rw [HNN.out]; exact hlt)) := List.getElem?_eq_getElem _
      obtain ⟨⟨pl, rk, ⟨un, ux, ud⟩⟩, hxe⟩ : ∃ u, cs[j]'(by rw [HNN.out]; exact hlt) = u := ⟨_, rfl⟩
      rw [hxe] at hx
      have hnat := HR.out _ (List.mem_of_getElem? hx)
      have hstep := openTo_step (r := r) hx hnat n
      have hsame : Same N w0 wr := HH.out.2.same (by omega) (fun k hk => by omega)
      obtain ⟨b, a, rfl, -, e0, e1, e2, e3, e4⟩ := (HHA.out.same hsame).claims hx
      have bx := (HH.out.2.block bo hl1 hne).trans HBX.out
      obtain ⟨s, hs⟩ : ∃ s, sameR ⟨un, ux, ud⟩ zeroR = s := ⟨_, rfl⟩
      have hs2 : sameR ⟨un, ux, ud⟩ ⟨false, ⟨#[]⟩, ⟨#[]⟩⟩ = s := hs
      have HSTEP := Lib.hid hstep
      rw [show (⟨pl, rk, ⟨un, ux, ud⟩⟩ : Cl).rank = rk from rfl, show (⟨pl, rk, ⟨un, ux, ud⟩⟩ : Cl).amt = ⟨un, ux, ud⟩ from rfl, hs] at HSTEP
      have TA := (Turned.refl (fun _ => False) wr).alloc (.cells #[(.int .i64 pl), (.int .i64 rk), .bool un, .string ux, .string ud] 75)
      have z1 := World.alloc_heap_new wr (.cells #[(.int .i64 pl), (.int .i64 rk), .bool un, .string ux, .string ud] 75)
      have hwl : ob < wr.heap.size := by have := HH.out.2.size; omega
      have hj0 : (0 : Int) ≤ j := by omega
      have hj1 : (j : Int) < n := by omega
      clear hx hxe hsame hnat hstep hs
      conv => arg 2; whnf
      go_wp2_with fail
      obtain ⟨B, hB⟩ : ∃ B, wr.heap.size = B := ⟨_, rfl⟩
      obtain ⟨w1, hw1⟩ : ∃ w1, w1 = wr.alloc (.cells #[(.int .i64 pl), (.int .i64 rk), .bool un, .string ux, .string ud] 75) := ⟨_, rfl⟩
      rw [← hw1] at TA z1 ⊢
      rw [hB] at z1 hwl ⊢
      have hBo : ¬ B = ob := by omega
      clear hw1
      obtain ⟨-, y1, y2, y3, y4⟩ := box5 z1
      have T1 := TA.trans ((Turned.refl (fun _ => False) w1).drew)
      have hS0 : (w1.drew).cell? ⟨bo, 0, none⟩ = some (.slice (some ⟨ob, 0, none⟩) n n) ∧ (w1.drew).cell? ⟨B, 1, none⟩ = some (.int .i64 rk) ∧ (w1.drew).cell? ⟨B, 2, none⟩ = some (.bool un) ∧ (w1.drew).cell? ⟨B, 3, none⟩ = some (.string ux) ∧ (w1.drew).cell? ⟨B, 4, none⟩ = some (.string ud) :=
        ⟨cell_of_box (keepB T1 bx), y1, y2, y3, y4⟩
      have HBX2 := Lib.hid bx
      have HT1 := Lib.hid T1
      have HZ : Hid (∀ W, Calls Tryz.prog 57 #[] W fun e w' => e = .returned (.agg #[.bool false, .string ⟨#[]⟩, .string ⟨#[]⟩]) ∧ Turned (fun _ => False) W w') := Lib.hid hZero_any
      clear bx T1 TA z1 y1 y2 y3 y4 e0 e1 e2 e3 e4 hB
      by_cases hrk : rk = r
      · subst hrk
        have HST : Hid ((bL n (openTo cs rk j)).set j (!s) = bL n (openTo cs rk (j + 1))) := Lib.hid (by rw [← HSTEP.out, decide_eq_true rfl, Bool.true_and])
        refine wp_region_plain (S := fun V => V.cell? ⟨bo, 0, none⟩ = some (.slice (some ⟨ob, 0, none⟩) n n) ∧ V.cell? ⟨B, 1, none⟩ = some (.int .i64 rk) ∧ V.cell? ⟨B, 2, none⟩ = some (.bool un) ∧ V.cell? ⟨B, 3, none⟩ = some (.string ux) ∧ V.cell? ⟨B, 4, none⟩ = some (.string ud)) (by kernel_rfl) ?_
        refine wpAnyH_take (i := 0) (oi := _) (v := .slice (some ⟨ob, 0, none⟩) n n) rfl (by kernel_rfl) (by kernel_rfl) (by kernel_rfl) (fun _ _ _ h => h) (Or.inl ⟨by kernel_rfl, fun V hV => ?_⟩) hS0 ?_
        · obtain ⟨f0, f1, f2, f3, f4⟩ := hV
          go_simp
        refine wpAnyH_take (i := 1) (oi := _) (v := (.int .i64 j)) rfl (by kernel_rfl) (by kernel_rfl) (by kernel_rfl) (fun _ _ _ h => h) (Or.inl ⟨by kernel_rfl, fun V hV => ?_⟩) hS0 ?_
        · obtain ⟨f0, f1, f2, f3, f4⟩ := hV
          go_simp
        refine wpAnyH_take (i := 2) (oi := _) (v := .pointer (some ⟨B, 1, none⟩)) rfl (by kernel_rfl) (by kernel_rfl) (by kernel_rfl) (fun _ _ _ h => h) (Or.inl ⟨by kernel_rfl, fun V hV => ?_⟩) hS0 ?_
        · obtain ⟨f0, f1, f2, f3, f4⟩ := hV
          go_simp
        refine wpAnyH_take (i := 3) (oi := _) (v := (.int .i64 rk)) rfl (by kernel_rfl) (by kernel_rfl) (by kernel_rfl) (fun _ _ _ h => h) (Or.inl ⟨by kernel_rfl, fun V hV => ?_⟩) hS0 ?_
        · obtain ⟨f0, f1, f2, f3, f4⟩ := hV
          go_simp
        refine wpAnyH_take (i := 4) (oi := _) (v := (.int .i64 rk)) rfl (by kernel_rfl) (by kernel_rfl) (by kernel_rfl) (fun _ _ _ h => h) (Or.inl ⟨by kernel_rfl, fun V hV => ?_⟩) hS0 ?_
        · obtain ⟨f0, f1, f2, f3, f4⟩ := hV
          go_simp
        refine wpAnyH_take (i := 5) (oi := _) (v := .bool true) rfl (by kernel_rfl) (by kernel_rfl) (by kernel_rfl) (fun _ _ _ h => h) (Or.inl ⟨by kernel_rfl, fun V hV => ?_⟩) hS0 ?_
        · obtain ⟨f0, f1, f2, f3, f4⟩ := hV
          go_simp
        refine wpAnyH_take (i := 6) (oi := _) (v := .bool true) rfl (by kernel_rfl) (by kernel_rfl) (by kernel_rfl) (fun _ _ _ h => h) (Or.inl ⟨by kernel_rfl, fun V hV => ?_⟩) hS0 ?_
        · obtain ⟨f0, f1, f2, f3, f4⟩ := hV
          go_simp
        simp only [List.getElem_toArray, List.getElem_cons_zero, List.getElem_cons_succ, Act.put, List.setIfInBounds_toArray, List.set_cons_zero, List.set_cons_succ]
        refine wpAnyH_take (i := 7) (oi := _) (v := .pointer (some ⟨B, 2, none⟩)) rfl (by kernel_rfl) (by kernel_rfl) (by kernel_rfl) (fun _ _ _ h => h) (Or.inl ⟨by kernel_rfl, fun V hV => ?_⟩) hS0 ?_
        · obtain ⟨f0, f1, f2, f3, f4⟩ := hV
          go_simp
        refine wpAnyH_take (i := 8) (oi := _) (v := .agg #[.bool un, .string ux, .string ud]) rfl (by kernel_rfl) (by kernel_rfl) (by kernel_rfl) (fun _ _ _ h => h) (Or.inl ⟨by kernel_rfl, fun V hV => ?_⟩) hS0 ?_
        · obtain ⟨f0, f1, f2, f3, f4⟩ := hV
          go_simp
        simp only [List.getElem_toArray, List.getElem_cons_zero, List.getElem_cons_succ, Act.put, List.setIfInBounds_toArray, List.set_cons_zero, List.set_cons_succ]
        refine wpAnyH_ready (rs := [9]) (by kernel_rfl) (by simp) ?_
        refine AllReadyH.cons (o := _) rfl (fun K hK => ?_) AllReadyH.nil
        go_simp
        refine (HZ.out _).mono ?_
        rintro e w4 ⟨rfl, t4⟩
        have hS1 : w4.cell? ⟨bo, 0, none⟩ = some (.slice (some ⟨ob, 0, none⟩) n n) ∧ w4.cell? ⟨B, 1, none⟩ = some (.int .i64 rk) ∧ w4.cell? ⟨B, 2, none⟩ = some (.bool un) ∧ w4.cell? ⟨B, 3, none⟩ = some (.string ux) ∧ w4.cell? ⟨B, 4, none⟩ = some (.string ud) :=
          ⟨cellT t4 id hS0.1, cellT t4 id hS0.2.1, cellT t4 id hS0.2.2.1, cellT t4 id hS0.2.2.2.1, cellT t4 id hS0.2.2.2.2⟩
        have HT4 := Lib.hid (HT1.out.trans t4)
        refine hK.out _ _ hS1 (fun _ => ?_)
        clear hK hS0 t4
        refine wpAnyH_take (i := 10) (oi := _) (v := .bool (!s)) rfl (by kernel_rfl) (by kernel_rfl) (by kernel_rfl) (fun _ _ _ h => h) (Or.inl ⟨by kernel_rfl, fun V hV => ?_⟩) hS1 ?_
        · obtain ⟨f0, f1, f2, f3, f4⟩ := hV
          go_simp
        refine wpAnyH_take (i := 11) (oi := _) (v := .bool (!s)) rfl (by kernel_rfl) (by kernel_rfl) (by kernel_rfl) (fun _ _ _ h => h) (Or.inl ⟨by kernel_rfl, fun V hV => ?_⟩) hS1 ?_
        · obtain ⟨f0, f1, f2, f3, f4⟩ := hV
          go_simp
        refine wpAnyH_take (i := 12) (oi := _) (v := .pointer (some ⟨ob, j, none⟩)) rfl (by kernel_rfl) (by kernel_rfl) (by kernel_rfl) (fun _ _ _ h => h) (Or.inl ⟨by kernel_rfl, fun V hV => ?_⟩) hS1 ?_
        · obtain ⟨f0, f1, f2, f3, f4⟩ := hV
          go_simp
        simp only [List.getElem_toArray, List.getElem_cons_zero, List.getElem_cons_succ, Act.put, List.setIfInBounds_toArray, List.set_cons_zero, List.set_cons_succ]
        have O4 := HH.out.1.turned HT4.out id
        have o1 := O4.cell (bL_get _ hlt)
        have o2 := O4.free j
        refine wpAnyH_ready (rs := [13]) (by kernel_rfl) (by simp) ?_
        refine AllReadyH.cons (o := _) rfl (fun K hK => ?_) AllReadyH.nil
        go_simp
        have hst := O4.set j (!s)
        rw [HST.out] at hst
        have hS2 : (w4.setCell ⟨ob, j, none⟩ (.bool !s)).cell? ⟨bo, 0, none⟩ = some (.slice (some ⟨ob, 0, none⟩) n n) ∧ (w4.setCell ⟨ob, j, none⟩ (.bool !s)).cell? ⟨B, 1, none⟩ = some (.int .i64 rk) ∧ (w4.setCell ⟨ob, j, none⟩ (.bool !s)).cell? ⟨B, 2, none⟩ = some (.bool un) ∧ (w4.setCell ⟨ob, j, none⟩ (.bool !s)).cell? ⟨B, 3, none⟩ = some (.string ux) ∧ (w4.setCell ⟨ob, j, none⟩ (.bool !s)).cell? ⟨B, 4, none⟩ = some (.string ud) :=
          ⟨cellT hst.2 hne hS1.1, cellT hst.2 hBo hS1.2.1, cellT hst.2 hBo hS1.2.2.1, cellT hst.2 hBo hS1.2.2.2.1, cellT hst.2 hBo hS1.2.2.2.2⟩
        refine hK.out _ _ hS2 (fun _ => ?_)
        have HF := Lib.hid (And.intro hst.1 (HH.out.2.trans ((HT4.out.mono fun _ h => h.elim).trans hst.2)))
        clear hK hS2 hS1 hst o1 o2 O4 HH HST HSTEP HT1 HT4 HZ
        refine wpAnyH_done (by kernel_rfl) ?_ _
        unfold OnlyN
        go_wp2_with fail
        refine ⟨⟨j + 1, _, _, _, _, _, _, _, _, _, _, _, _, _, _, _, _, _, _, _, _, ⟨hlt, HF⟩, rfl⟩, ?_⟩
        simp [tmpN]; omega
      · have hrk2 : (rk == r) = false := by simpa using hrk
        have HST : Hid ((bL n (openTo cs r j)).set j false = bL n (openTo cs r (j + 1))) := Lib.hid (by rw [← HSTEP.out, decide_eq_false hrk, Bool.false_and])
        clear hs2
        refine wp_region_plain (S := fun V => V.cell? ⟨bo, 0, none⟩ = some (.slice (some ⟨ob, 0, none⟩) n n) ∧ V.cell? ⟨B, 1, none⟩ = some (.int .i64 rk) ∧ V.cell? ⟨B, 2, none⟩ = some (.bool un) ∧ V.cell? ⟨B, 3, none⟩ = some (.string ux) ∧ V.cell? ⟨B, 4, none⟩ = some (.string ud)) (by kernel_rfl) ?_
        refine wpAnyH_take (i := 0) (oi := _) (v := .slice (some ⟨ob, 0, none⟩) n n) rfl (by kernel_rfl) (by kernel_rfl) (by kernel_rfl) (fun _ _ _ h => h) (Or.inl ⟨by kernel_rfl, fun V hV => ?_⟩) hS0 ?_
        · obtain ⟨f0, f1, f2, f3, f4⟩ := hV
          go_simp
        refine wpAnyH_take (i := 1) (oi := _) (v := (.int .i64 j)) rfl (by kernel_rfl) (by kernel_rfl) (by kernel_rfl) (fun _ _ _ h => h) (Or.inl ⟨by kernel_rfl, fun V hV => ?_⟩) hS0 ?_
        · obtain ⟨f0, f1, f2, f3, f4⟩ := hV
          go_simp
        refine wpAnyH_take (i := 2) (oi := _) (v := .pointer (some ⟨B, 1, none⟩)) rfl (by kernel_rfl) (by kernel_rfl) (by kernel_rfl) (fun _ _ _ h => h) (Or.inl ⟨by kernel_rfl, fun V hV => ?_⟩) hS0 ?_
        · obtain ⟨f0, f1, f2, f3, f4⟩ := hV
          go_simp
        refine wpAnyH_take (i := 3) (oi := _) (v := (.int .i64 rk)) rfl (by kernel_rfl) (by kernel_rfl) (by kernel_rfl) (fun _ _ _ h => h) (Or.inl ⟨by kernel_rfl, fun V hV => ?_⟩) hS0 ?_
        · obtain ⟨f0, f1, f2, f3, f4⟩ := hV
          go_simp
        refine wpAnyH_take (i := 4) (oi := _) (v := (.int .i64 r)) rfl (by kernel_rfl) (by kernel_rfl) (by kernel_rfl) (fun _ _ _ h => h) (Or.inl ⟨by kernel_rfl, fun V hV => ?_⟩) hS0 ?_
        · obtain ⟨f0, f1, f2, f3, f4⟩ := hV
          go_simp
        refine wpAnyH_take (i := 5) (oi := _) (v := .bool false) rfl (by kernel_rfl) (by kernel_rfl) (by kernel_rfl) (fun _ _ _ h => h) (Or.inl ⟨by kernel_rfl, fun V hV => ?_⟩) hS0 ?_
        · obtain ⟨f0, f1, f2, f3, f4⟩ := hV
          go_simp
        refine wpAnyH_take (i := 6) (oi := _) (v := .bool false) rfl (by kernel_rfl) (by kernel_rfl) (by kernel_rfl) (fun _ _ _ h => h) (Or.inl ⟨by kernel_rfl, fun V hV => ?_⟩) hS0 ?_
        · obtain ⟨f0, f1, f2, f3, f4⟩ := hV
          go_simp
        simp only [List.getElem_toArray, List.getElem_cons_zero, List.getElem_cons_succ, Act.put, List.setIfInBounds_toArray, List.set_cons_zero, List.set_cons_succ]
        refine wpAnyH_take (i := 7) (oi := _) (v := undef) rfl (by kernel_rfl) (by kernel_rfl) (by kernel_rfl) (fun _ _ _ h => h) (Or.inr ⟨by kernel_rfl, rfl⟩) hS0 ?_
        refine wpAnyH_take (i := 8) (oi := _) (v := undef) rfl (by kernel_rfl) (by kernel_rfl) (by kernel_rfl) (fun _ _ _ h => h) (Or.inr ⟨by kernel_rfl, rfl⟩) hS0 ?_
        refine wpAnyH_take (i := 9) (oi := _) (v := undef) rfl (by kernel_rfl) (by kernel_rfl) (by kernel_rfl) (fun _ _ _ h => h) (Or.inr ⟨by kernel_rfl, rfl⟩) hS0 ?_
        refine wpAnyH_take (i := 10) (oi := _) (v := undef) rfl (by kernel_rfl) (by kernel_rfl) (by kernel_rfl) (fun _ _ _ h => h) (Or.inr ⟨by kernel_rfl, rfl⟩) hS0 ?_
        simp only [List.getElem_toArray, List.getElem_cons_zero, List.getElem_cons_succ, Act.put, List.setIfInBounds_toArray, List.set_cons_zero, List.set_cons_succ]
        refine wpAnyH_take (i := 11) (oi := _) (v := .bool false) rfl (by kernel_rfl) (by kernel_rfl) (by kernel_rfl) (fun _ _ _ h => h) (Or.inl ⟨by kernel_rfl, fun V hV => ?_⟩) hS0 ?_
        · obtain ⟨f0, f1, f2, f3, f4⟩ := hV
          go_simp
        refine wpAnyH_take (i := 12) (oi := _) (v := .pointer (some ⟨ob, j, none⟩)) rfl (by kernel_rfl) (by kernel_rfl) (by kernel_rfl) (fun _ _ _ h => h) (Or.inl ⟨by kernel_rfl, fun V hV => ?_⟩) hS0 ?_
        · obtain ⟨f0, f1, f2, f3, f4⟩ := hV
          go_simp
        simp only [List.getElem_toArray, List.getElem_cons_zero, List.getElem_cons_succ, Act.put, List.setIfInBounds_toArray, List.set_cons_zero, List.set_cons_succ]
        have O4 := HH.out.1.turned HT1.out id
        have o1 := O4.cell (bL_get _ hlt)
        have o2 := O4.free j
        refine wpAnyH_ready (rs := [13]) (by kernel_rfl) (by simp) ?_
        refine AllReadyH.cons (o := _) rfl (fun K hK => ?_) AllReadyH.nil
        go_simp
        have hst := O4.set j false
        rw [HST.out] at hst
        have hS2 : (w1.drew.setCell ⟨ob, j, none⟩ (.bool false)).cell? ⟨bo, 0, none⟩ = some (.slice (some ⟨ob, 0, none⟩) n n) ∧ (w1.drew.setCell ⟨ob, j, none⟩ (.bool false)).cell? ⟨B, 1, none⟩ = some (.int .i64 rk) ∧ (w1.drew.setCell ⟨ob, j, none⟩ (.bool false)).cell? ⟨B, 2, none⟩ = some (.bool un) ∧ (w1.drew.setCell ⟨ob, j, none⟩ (.bool false)).cell? ⟨B, 3, none⟩ = some (.string ux) ∧ (w1.drew.setCell ⟨ob, j, none⟩ (.bool false)).cell? ⟨B, 4, none⟩ = some (.string ud) :=
          ⟨cellT hst.2 hne hS0.1, cellT hst.2 hBo hS0.2.1, cellT hst.2 hBo hS0.2.2.1, cellT hst.2 hBo hS0.2.2.2.1, cellT hst.2 hBo hS0.2.2.2.2⟩
        refine hK.out _ _ hS2 (fun _ => ?_)
        have HF := Lib.hid (And.intro hst.1 (HH.out.2.trans ((HT1.out.mono fun _ h => h.elim).trans hst.2)))
        clear hK hS2 hS0 hst o1 o2 O4 HH HST HSTEP HT1 HZ
        refine wpAnyH_done (by kernel_rfl) ?_ _
        unfold OnlyN
        go_wp2_with fail
        refine ⟨⟨j + 1, _, _, _, _, _, _, _, _, _, _, _, _, _, _, _, _, _, _, _, _, ⟨hlt, HF⟩, rfl⟩, ?_⟩
        simp [tmpN]; omega
    · obtain rfl : j = n := by omega
      conv => arg 2; whnf
      go_wp2_with fail
      refine hexit _ _ _ _ _ _ _ _ _ _ _ _ _ _ _ _ _ _ _ _ _ wr ?_ HH.out.2
      have h1 := HH.out.1
      rwa [openTo_all] at h1
end Go.Proofs.YtanhhdndgkhcfaaGreatDoor
