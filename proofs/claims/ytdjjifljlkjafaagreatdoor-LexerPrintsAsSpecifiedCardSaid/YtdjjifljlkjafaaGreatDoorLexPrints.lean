/- Walk of the law LexerPrintsAsSpecified. Conditions: those of each theorem. -/
import Derived.Test.YtdjjifljlkjafaaGreatDoorLexPrintC
import Derived.Test.YtdjjifljlkjafaaGreatDoorOpenS
namespace Go.Proofs.YtdjjifljlkjafaaGreatDoor
open Go Go.Proofs Go.RowKit Go.WideShapes Go.ChangeShapes Go.Deep
attribute [local go_sem] Oper.semAt_some

set_option maxRecDepth 20000 in
/-- a list of tokens that came in -/
theorem open_toks {H : Type} {enc : TypeId × Value → H} {w : World} {base b0 : Nat} {held : Bool} {r : Reach} {v : Value} {d : DataW H} {p : List MemPlace}
    (hv : Value.okWide Tryz.prog w r b0 23 v) (h : DataW.Trod enc Tryz.prog w base (fun _ => true) held 23 v d p) :
    (∃ a c, v = .slice a 0 c) ∨ ∃ b off cap ts, v = .slice (some ⟨b, off, none⟩) (List.length (α := Tok) ts) cap ∧ ts ≠ [] ∧ ts.length ≤ cap ∧ cap ≤ maxLen ∧ ToksAt w b off ts ∧ ∀ t ∈ ts, -9223372036854775808 ≤ t.n ∧ t.n ≤ 9223372036854775807 := by
  rcases open_fields Tryz.underlying23 Tryz.underlying33 (by kernel_rfl) (by kernel_rfl) (by decide) hv h with h0 | ⟨b, off, len, cap, rfl, hpos, hlc, hcm, hbl, hf⟩
  · exact .inl h0
  · have key : ∀ i, i < len → ∃ x : Tok, (w.cell? ⟨b, off + i * 4, none⟩ = some (.int .i64 (x.kind)) ∧ w.cell? ⟨b, off + i * 4 + 1, none⟩ = some (.int .i64 (x.at_)) ∧ w.cell? ⟨b, off + i * 4 + 2, none⟩ = some (.string x.s) ∧ w.cell? ⟨b, off + i * 4 + 3, none⟩ = some (.int .i64 (x.n))) ∧ -9223372036854775808 ≤ x.n ∧ x.n ≤ 9223372036854775807 := by
      intro i hi
      obtain ⟨u0, n0, y0, c0, t0⟩ := hf i hi 0 _ rfl
      obtain ⟨u1, n1, y1, c1, t1⟩ := hf i hi 1 _ rfl
      obtain ⟨u2, n2, y2, c2, t2⟩ := hf i hi 2 _ rfl
      obtain ⟨u3, n3, y3, c3, t3⟩ := hf i hi 3 _ rfl
      obtain ⟨z0, e0, -, -⟩ := DataW.trod_int Tryz.underlying3 t0
      obtain ⟨z1, e1, -, -⟩ := DataW.trod_int Tryz.underlying3 t1
      obtain ⟨z2, e2, -, -⟩ := DataW.trod_string Tryz.underlying9 t2
      obtain ⟨z3, e3, -, hw⟩ := DataW.trod_int Tryz.underlying3 t3
      injection e0 with e0 _; injection e1 with e1 _; injection e2 with e2 _; injection e3 with e3 _
      subst e0; subst e1; subst e2; subst e3
      have hw : IntKind.i64.min ≤ z3 ∧ z3 ≤ IntKind.i64.max := by simpa [Lit.wf] using hw
      exact ⟨⟨z0, z1, z2, z3⟩, ⟨c0, c1, c2, c3⟩, hw⟩
    obtain ⟨ls, hl, hq⟩ := exists_list (⟨0, 0, ⟨#[]⟩, 0⟩ : Tok) _ len key
    subst hl
    refine .inr ⟨b, off, cap, ls, rfl, fun h => by rw [h] at hpos; simp at hpos, hlc, hcm, ⟨hbl, fun j t hj => ?_⟩, fun t ht => ?_⟩
    · have hlt : j < ls.length := (List.getElem?_eq_some_iff.1 hj).1
      have h1 := (hq j hlt).1
      rw [List.getD_eq_getElem?_getD, hj] at h1
      exact h1
    · obtain ⟨j, hj⟩ := List.mem_iff_getElem?.1 ht
      have hlt : j < ls.length := (List.getElem?_eq_some_iff.1 hj).1
      have h1 := (hq j hlt).2
      rw [List.getD_eq_getElem?_getD, hj] at h1
      exact h1
set_option maxRecDepth 100000 in
theorem textQ_len (ts : List Tok) (hk : ∀ t ∈ ts, -9223372036854775808 ≤ t.n ∧ t.n ≤ 9223372036854775807 ∧ t.s.size ≤ 100000) : (textQ ts).size ≤ ts.length * 200010 := by
  have key : ∀ j, j ≤ ts.length → ∃ fb out, RQ ts j fb out ∧ out.size ≤ j * 200010 := by
    intro j
    induction j with
    | zero => intro _; exact ⟨true, ⟨#[]⟩, ⟨rfl, rfl⟩, Nat.zero_le _⟩
    | succ j ih =>
      intro hj
      obtain ⟨fb, out, h1, h2⟩ := ih (by omega)
      obtain ⟨x, hx⟩ : ∃ x, ts[j]? = some x := ⟨_, List.getElem?_eq_getElem (by omega)⟩
      obtain ⟨hn0, hn1, hsz⟩ := hk x (List.mem_of_getElem? hx)
      have hw : wordQ x = [] ∨ ∃ wd, wordQ x = [wd] ∧ wd.size ≤ 200002 := by
        unfold wordQ
        split
        · exact .inr ⟨_, rfl, by omega⟩
        · split
          · have := itoaB_len x.n hn0 hn1
            exact .inr ⟨_, rfl, by unfold itoaB at this; omega⟩
          · split
            · have := quotedB_len x.s
              exact .inr ⟨_, rfl, by omega⟩
            · exact .inl rfl
      rcases hw with hw | ⟨wd, hw, hwd⟩
      · exact ⟨fb, out, rq_skip h1 hx hw, Nat.le_trans h2 (Nat.mul_le_mul_right _ (Nat.le_succ j))⟩
      · cases fb
        · exact ⟨_, _, rq_more h1 hx hw, by rw [byte_add3, byte_one]; omega⟩
        · exact ⟨_, _, rq_first h1 hx hw, by rw [byte_add]; omega⟩
  obtain ⟨fb, out, h1, h2⟩ := key ts.length (Nat.le_refl _)
  have h3 := h1.1
  rw [List.take_length] at h3
  rw [textQ_out, ← h3]
  exact h2
theorem text_zero (a : Option Addr) (c : Nat) (w : World) : Calls Tryz.prog 14 #[.slice a 0 c] w fun e w' => e = .returned (.string ⟨#[]⟩) ∧ Below w.heap.size w w' := by
  have HJ := Lib.hid (join_any w w [] (.slice none 0 0) ⟨⟨rfl, .inl ⟨rfl, rfl⟩⟩, Turned.refl _ _⟩ (by simp) (by simp [Lib.join_nil]))
  go_enter Tryz.func14, Tryz.ntmps14
  go_wp2_with fail
  go_loopw [3, 8] (fun v i wr => v = .slice none 0 0 ∧ i = (.int .i64 0) ∧ wr = w) (fun _ i _ => 0)
  case atStart => exact ⟨rfl, rfl, rfl⟩
  case round =>
    obtain ⟨rfl, rfl, rfl⟩ := hrel
    go_wp2_with (go_at_call 27; refine HJ.out.mono ?_; rintro e w7 ⟨rfl, HQ⟩; have HQ := Lib.hid HQ)
    go_ret
    exact ⟨rfl, below_of_turned HQ.out⟩
theorem rtext_zero (a : Option Addr) (c : Nat) (w : World) : Calls Tryz.prog 15 #[.slice a 0 c] w fun e w' => e = .returned (.string ⟨#[]⟩) ∧ Below w.heap.size w w' := by
  go_enter Tryz.func15, Tryz.ntmps15
  go_wp2_with fail
  go_loopw [3, 4, 5] (fun v f i wr => v = .string ⟨#[]⟩ ∧ f = .bool true ∧ i = (.int .i64 0) ∧ wr = w) (fun _ _ i _ => 0)
  case atStart => exact ⟨rfl, rfl, rfl, rfl⟩
  case round =>
    obtain ⟨rfl, rfl, rfl, rfl⟩ := hrel
    go_wp2_with fail
    go_ret
    exact ⟨rfl, Below.refl _ _⟩
set_option maxRecDepth 20000 in
set_option maxHeartbeats 2000000 in
theorem prints_zero (a : Option Addr) (c : Nat) (w : World) (hv : LV w.heap.size w) : Calls Tryz.prog 4 #[.slice a 0 c] w fun e w' => e = .returned (.bool true) ∧ Below w.heap.size w w' := by
  have ST0 := St.start hv (stays_lv w.heap.size)
  have HL := Lib.hid (fun (T : World → Prop) (W : World) (L : List (Nat × Obj)) (h : Hid (St T w W L)) => h.out.bel.size)
  go_enter Tryz.func4, Tryz.ntmps4
  go_wp2_with fail
  go_loopw [3] (fun i wr => i = (.int .i64 0) ∧ wr = w) (fun i _ => 0)
  case atStart => exact ⟨rfl, rfl⟩
  case round =>
    obtain ⟨rfl, rfl⟩ := hrel
    have HS := Lib.hid (sanity_to _ _ ST0.out.tab (HL.out _ _ _ ST0))
    go_wp2_with fail
    refine HS.out.mono ?_
    rintro e w1 ⟨rfl, hb⟩
    have ST1 := St.call ST0 hb
    clear hb ST0
    go_wp2_with fail
    refine (text_zero a c w1).mono ?_
    rintro e w2 ⟨rfl, hb⟩
    have ST2 := St.call ST1 hb
    clear hb ST1
    go_wp2_with fail
    refine (rtext_zero a c w2).mono ?_
    rintro e w3 ⟨rfl, hb⟩
    have ST3 := St.call ST2 hb
    clear hb ST2
    go_wp2_with fail
    go_ret
    exact ⟨rfl, ST3.out.bel⟩
set_option maxRecDepth 20000 in
set_option maxHeartbeats 2000000 in
theorem prints_cells (b o cap : Nat) (ts : List Tok) (w : World) (hv : LV w.heap.size w) (hT : ToksAt w b o ts) (hl : ts.length ≤ maxLen) (hk : ∀ t ∈ ts, -9223372036854775808 ≤ t.n ∧ t.n ≤ 9223372036854775807) :
    Calls Tryz.prog 4 #[.slice (some ⟨b, o, none⟩) ts.length cap] w fun e w' => e = .returned (.bool true) ∧ Below w.heap.size w w' := by
  have SA0 := St.start hv (stays_lv w.heap.size)
  have ST0 := St.more SA0 hT (stays_toks b o ts)
  have HL := Lib.hid (fun (T : World → Prop) (W : World) (L : List (Nat × Obj)) (h : Hid (St T w W L)) => h.out.bel.size)
  have HK := Lib.hid hk
  clear SA0 hT hk
  unfold maxLen at hl
  go_enter Tryz.func4, Tryz.ntmps4
  by_cases hbig : 200 < ts.length
  · have HS := Lib.hid (sanity_to _ _ ST0.out.tab.1 (HL.out _ _ _ ST0))
    go_wp2_with (go_at_call 11; refine HS.out.mono ?_; rintro e w7 ⟨rfl, hb⟩; have HB := Lib.hid hb; clear hb)
    go_ret
    exact ⟨rfl, HB.out⟩
  · go_wp2_with fail
    have H0 : Hid (∀ t ∈ ts.take 0, t.s.size ≤ 400) := fun t ht => by simp at ht
    go_loopw [3] (fun i wr => ∃ j : Nat, i = (.int .i64 j) ∧ j ≤ ts.length ∧ Hid (∀ t ∈ ts.take j, t.s.size ≤ 400) ∧ Hid (St (fun W => LV w.heap.size W ∧ ToksAt W b o ts) w wr [])) (fun i _ => ts.length - (intOf i).toNat)
    case atStart => exact ⟨0, rfl, by omega, H0, ST0⟩
    case round =>
      clear H0 ST0
      obtain ⟨j, rfl, hj, HSm, HS⟩ := hrel
      have HSa := Lib.hid (sanity_to _ _ HS.out.tab.1 (HL.out _ _ _ HS))
      by_cases hlt : j < ts.length
      · obtain ⟨x, hx⟩ : ∃ x, ts[j]? = some x := ⟨_, List.getElem?_eq_getElem hlt⟩
        obtain ⟨d0, d1, d2, d3⟩ := HS.out.tab.2.2 j x hx
        have s1 := HS.out.tab.2.1
        have HX := Lib.hid hx
        obtain ⟨kind, at_, str, num⟩ := x
        simp only at d0 d1 d2 d3
        clear hx
        by_cases hs : 400 < str.size
        · go_wp2_with (go_at_call 11; refine HSa.out.mono ?_; rintro e w7 ⟨rfl, hb⟩; have HB := Lib.hid hb; clear hb)
          go_ret
          exact ⟨rfl, (St.call HS HB.out).out.bel⟩
        · have HN : Hid (∀ t ∈ ts.take (j + 1), t.s.size ≤ 400) := by
            intro t ht
            rw [List.take_succ_eq_append_getElem hlt] at ht
            rcases List.mem_append.1 ht with ht | ht
            · exact HSm.out t ht
            · have h1 := HX.out
              rw [List.getElem?_eq_getElem hlt] at h1
              have h2 := Option.some.inj h1
              simp only [List.mem_singleton] at ht
              rw [ht, h2]
              show str.size ≤ 400
              omega
          go_wp2_with fail
          go_roundw
          case rel => exact ⟨j + 1, by go_num, by omega, HN, HS⟩
          case measure => simp [intOf]; omega
      · obtain rfl : j = ts.length := by omega
        have HK2 : Hid (∀ t ∈ ts, -9223372036854775808 ≤ t.n ∧ t.n ≤ 9223372036854775807 ∧ t.s.size ≤ 100000) := fun t ht => by
          have h1 := HSm.out t (by rw [List.take_length]; exact ht)
          have h2 := HK.out t ht
          exact ⟨h2.1, h2.2, by omega⟩
        have HJ := Lib.hid (textQ_len ts HK2.out)
        go_wp2_with fail
        refine HSa.out.mono ?_
        rintro e w1 ⟨rfl, hb⟩
        have ST1 := St.call HS hb
        clear hb HS HSa
        go_wp2_with fail
        refine (print_all b o cap ts w1 w.heap.size ST1.out.tab.2 (by omega) HK2.out ST1.out.tab.1.2 (Nat.le_trans HJ.out (by omega))).mono ?_
        rintro e w2 ⟨rfl, hb⟩
        have ST2 := St.call ST1 (below_of_turned hb)
        clear hb ST1
        go_wp2_with fail
        refine (rtextall_any b o cap ts w2 ST2.out.tab.2 (by omega) HK2.out).mono ?_
        rintro e w3 ⟨rfl, hb⟩
        have ST3 := St.call ST2 hb
        clear hb ST2
        go_wp2_with fail
        go_ret
        exact ⟨rfl, ST3.out.bel⟩
end Go.Proofs.YtdjjifljlkjafaaGreatDoor
