/- Draws of the statement on texts of schemes: the walks. -/
import Derived.Test.YtppekbokaknocaaDoorDrawU
namespace Go.Proofs.YtppekbokaknocaaDoor
open Go.RowKit
set_option linter.unusedSimpArgs false
set_option linter.unusedVariables false
set_option maxRecDepth 20000

theorem fmtSch_size (ms : List (Int × Int)) : (fmtSchF ms).size ≤ 156 := by
  unfold fmtSchF
  split
  · rename_i h
    have h1 := joinB_size ⟨#[32]⟩ 12 (ms.map moveB) moves_size
    rw [List.length_map] at h1
    have h2 : ms.length ≤ 12 := by
      unfold schemeOkF at h
      simp only [Bool.and_eq_true, decide_eq_true_eq] at h
      exact h.1
    refine Nat.le_trans h1 ?_
    show (12 + 1) * ms.length ≤ 156
    omega
  · exact Nat.zero_le _

set_option maxHeartbeats 1000000 in
theorem spec_DrawParseScheme (hi : Nat) (A : Option Addr) (n c : Nat) (w : World) (h : Bytes w 0 hi A n c) (hh : hi ≤ w.heap.size) :
    Calls Tryd.prog 13 #[.slice A n c] w fun e w' => ∃ t, e = .returned (.string t) ∧ t.size ≤ 201 ∧ Below w.heap.size w w' := by
  go_enter Tryd.func13, Tryd.ntmps13
  go_wp2_with fail
  refine (spec_l1New hi A n c w h hh).mono ?_
  rintro e w1 ⟨rfl, c1, b1⟩
  have z1 := b1.size
  have l1 := c1.lt
  go_wp2_with fail
  refine (spec_dAnyMoves hi w.heap.size w1 c1).mono ?_
  rintro e w2 ⟨B, m, d, rfl, hm, ⟨ms, o2⟩, c2, t2⟩
  have z2 := t2.size
  have b2 : Below w.heap.size w w2 := b1.trans (t2.below (Nat.le_refl _) (by omega))
  clear t2 b1 c1
  go_wp2_with fail
  refine (spec_FormatScheme B m d ms w1.heap.size w2.heap.size w2 o2.moves (Nat.le_refl _)).mono ?_
  rintro e w3 ⟨rfl, b3⟩
  have c3 := c2.below b3
  have z3 := b3.size
  have b4 := b2.trans (b3.mono b2.size)
  have hs := fmtSch_size ms
  clear o2 b2 b3 c2
  go_wp2_with fail
  refine (spec_dCrumb hi w.heap.size (fmtSchF ms) w3 c3 (by omega)).mono ?_
  rintro e w4 ⟨t, rfl, ht, c4, t4⟩
  have b5 : Below w.heap.size w w4 := b4.trans (t4.below (Nat.le_refl _) (by omega))
  clear t4 b4
  go_wp2_with fail
  go_ret
  exact ⟨t, rfl, ht, b5⟩

theorem rng_snocI {xs : List Int} {a : Int} (h : ∀ m ∈ xs, R64 m) (ha : R64 a) : ∀ m ∈ xs ++ [a], R64 m := fun m hm => by
  rcases List.mem_append.1 hm with hm | hm
  · exact h m hm
  · rw [List.mem_singleton.1 hm]; exact ha

set_option maxRecDepth 100000 in
set_option maxHeartbeats 2000000 in
theorem spec_DrawPlaceOfWord (hi : Nat) (A : Option Addr) (n c : Nat) (w : World) (h : Bytes w 0 hi A n c) (hh : hi ≤ w.heap.size) :
    Calls Tryd.prog 14 #[.slice A n c] w fun e w' => ∃ (B : Option Addr) (m d : Nat), e = .returned (.slice B m d) ∧ m ≤ 6 ∧ (∃ xs, OwnI w' w.heap.size w'.heap.size B m d xs) ∧ Below w.heap.size w w' := by
  obtain ⟨i0, hi0, hz0, hz1, hz2⟩ := info_parts info_int
  go_enter Tryd.func14, Tryd.ntmps14
  go_wp2_with fail
  refine (spec_l1New hi A n c w h hh).mono ?_
  rintro e w1 ⟨rfl, c1, b1⟩
  have z1 := b1.size
  have l1 := c1.lt
  have q0 : (w1.alloc (.cells #[] 3)).ownsRow w1.heap.size 3 1 (.slice (some ⟨w1.heap.size, 0, none⟩) 0 0) 0 (([] : List Int).map (Value.int .i64)) := by
    simpa using World.ownsRow_lit (size := 1) (e := 3) (base := w1.heap.size) w1 #[] 0 (Nat.le_refl _) (by unfold maxLen; omega) rfl
  have c2 := c1.below (below_alloc w1 (.cells #[] 3))
  have b2 := b1.trans ((below_alloc w1 (.cells #[] 3)).mono z1)
  have z2 : (w1.alloc (.cells #[] 3)).heap.size = w1.heap.size + 1 := by simp
  go_wp2_with fail
  generalize w1.alloc (.cells #[] 3) = W at q0 c2 b2 z2 ⊢
  clear c1 b1
  obtain ⟨g1, hg1⟩ : ∃ g1, w1.heap.size = g1 := ⟨_, rfl⟩
  rw [hg1] at q0 z2 z1 l1 ⊢
  clear hg1
  refine (spec_l1Below hi w.heap.size 7 W c2 (by omega) (by omega)).mono ?_
  rintro e w3 ⟨x, rfl, hx0, hx1, c3, t3⟩
  have z3 := t3.size
  have b3 : Below w.heap.size w w3 := b2.trans (t3.below (Nat.le_refl _) (by omega))
  have own3 := owns_same q0 (fun ad e => t3.block ad.block (owns_lt q0 ad e).2 (.inr (by have := (owns_lt q0 ad e).1; omega)))
  clear q0 c2 t3 b2
  go_wp2_with fail
  go_loopw [4, 5] (fun l i wr => ∃ (k m : Nat) (A' : Option Addr) (c' : Nat) (xs : List Int), i = .int .i64 m ∧ k + m ≤ 6 ∧ l = .slice A' k c' ∧ Hid (wr.ownsRow g1 3 1 (.slice A' k c') k (xs.map (Value.int .i64))) ∧ Hid (∀ y ∈ xs, R64 y) ∧ Hid (Cur wr hi w.heap.size) ∧ Hid (Below w.heap.size w wr) ∧ g1 < wr.heap.size)
    (fun _ i _ => (intOf i).toNat)
  case atStart => exact ⟨0, x.toNat, _, _, [], by rw [Int.toNat_of_nonneg hx0], by omega, rfl, own3, (fun m hm => absurd hm (by simp) : ∀ m ∈ ([] : List Int), R64 m), c3, b3, by omega⟩
  case round =>
    clear own3 c3 b3
    obtain ⟨k, m, A', c', xs, rfl, hkm, rfl, hown, hrg, hc, hb, hg⟩ := hrel
    by_cases hpos : 0 < m
    · go_wp2_with fail
      refine (spec_l1Below hi w.heap.size 2 wr hc.out (by omega) (by omega)).mono ?_
      rintro e w4 ⟨y, rfl, hy0, hy1, c4, t4⟩
      have z4 := t4.size
      have own4 := owns_same hown.out (fun ad e => t4.block ad.block (owns_lt hown.out ad e).2 (.inr (by have := (owns_lt hown.out ad e).1; omega)))
      have b4 : Below w.heap.size w w4 := hb.out.trans (t4.below (Nat.le_refl _) hb.out.size)
      clear hown hc hb t4
      go_wp2_with (at_builtin; refine wpl_app1 rfl (.tmp 15) (.tmp 18) 34 rfl g1 3 i0 (.int .i64 0) 1 8 Tryd.underlying34 hi0 hz0 hz1 hz2 rfl (by omega) w4 #[.int .i64 y] A' k c' 1 _ rfl rfl own4 rfl (by simp [Value.oneCell']) (by omega) (by omega) (by omega) ?_; intro A2 c5 w5 happ hlt2)
      have HB := hide (happ.below (Below.refl g1 w4) (by omega) (fun ad e => (owns_lt own4 ad e).1))
      have O : Hid (w5.ownsRow g1 3 1 (.slice A2 (k + 1) c5) (k + 1) ((xs ++ [y]).map (Value.int .i64))) := by
        show World.ownsRow _ _ _ _ _ _ _
        rw [List.map_append]; exact happ.1
      have R5 : Hid (∀ z ∈ xs ++ [y], R64 z) := rng_snocI hrg.out ⟨by omega, by omega⟩
      have C5 : Hid (Cur w5 hi w.heap.size) := c4.low HB.out (by omega)
      have B5 : Hid (Below w.heap.size w w5) := b4.trans (HB.out.mono (by omega))
      have G5 : g1 < w5.heap.size := by have := HB.out.size; omega
      clear happ own4 HB c4 b4
      go_wp2_with fail
      go_roundw
      case rel => exact ⟨k + 1, m - 1, A2, c5, _, by go_num, by omega, rfl, O, R5, C5, B5, G5⟩
      case measure => simp [intOf]; omega
    · obtain rfl : m = 0 := by omega
      have hz := hb.out.size
      by_cases hk0 : 0 < k
      · go_wp2_with fail
        refine (spec_l1Once hi w.heap.size 10 wr hc.out (by omega) (by omega)).mono ?_
        rintro e w4 ⟨ob, rfl, c4, t4⟩
        have z4 := t4.size
        have own4 := owns_same hown.out (fun ad e => t4.block ad.block (owns_lt hown.out ad e).2 (.inr (by have := (owns_lt hown.out ad e).1; omega)))
        have b4 : Below w.heap.size w w4 := hb.out.trans (t4.below (Nat.le_refl _) hb.out.size)
        clear hown hc hb t4
        cases ob with
        | true =>
          go_wp2_with fail
          have cA := c4.below (below_alloc w4 (.cells #[.int .i64 (-1), .int .i64 2] 3))
          have bA := b4.trans ((below_alloc w4 (.cells #[.int .i64 (-1), .int .i64 2] 3)).mono b4.size)
          have hcs : ∀ j x, ([-1, 2] : List Int)[j]? = some x → (w4.alloc (.cells #[.int .i64 (-1), .int .i64 2] 3)).cell? ⟨w4.heap.size, j, none⟩ = some (.int .i64 x) := fun j x hx =>
            lit_cells (vs := [.int .i64 (-1), .int .i64 2]) j _ (by
              have := congrArg (Option.map (Value.int .i64)) hx
              rw [← List.getElem?_map] at this
              exact this)
          have ownA := own4.alloc (.cells #[.int .i64 (-1), .int .i64 2] 3)
          have zA : (w4.alloc (.cells #[.int .i64 (-1), .int .i64 2] 3)).heap.size = w4.heap.size + 1 := by simp
          refine (spec_l1PickInt hi w.heap.size w4.heap.size 2 [-1, 2] _ cA (by omega) (by omega) rfl (by simp) (by omega) hcs).mono ?_
          rintro e w5 ⟨y, rfl, hy, c5, t5⟩
          have hyr : R64 y := by
            simp only [List.mem_cons, List.not_mem_nil, or_false] at hy
            rcases hy with rfl | rfl <;> (constructor <;> omega)
          have own5 := owns_same ownA (fun ad e => t5.block ad.block (owns_lt ownA ad e).2 (.inr (by have := (owns_lt ownA ad e).1; omega)))
          have b5 : Below w.heap.size w w5 := bA.trans (t5.below (Nat.le_refl _) bA.size)
          have z5 := t5.size
          clear ownA bA cA hcs t5 own4 b4 c4 hy
          have hxl : xs.length = k := by simpa using own5.1
          obtain ⟨gA, rfl, hgA1, hgA2, hgA3⟩ := OwnI.form (lo := g1) (hi := w5.heap.size) ⟨own5, fun ad e => (owns_lt own5 ad e).2, hrg.out⟩ hk0
          have hcell : w5.cell? ⟨gA, 0, none⟩ = some (.int .i64 (xs.getD 0 0)) := by
            rw [own5.cellAt 0 (by omega)]
            simp [List.getD, show 0 < xs.length by omega]
          have hf0 := own5.frozenAt 0
          have hst := own5.stored 0 (.int .i64 y)
          have hk1' : (0 : Int) < k := by omega
          have O : OwnI (w5.setCell ⟨gA, 0, none⟩ (.int .i64 y)) w.heap.size (w5.setCell ⟨gA, 0, none⟩ (.int .i64 y)).heap.size (some ⟨gA, 0, none⟩) k c' (xs.set 0 y) := by
            refine ⟨owns_low (by simpa [List.map_set] using hst.1) (by omega), fun ad e => by injection e with e; subst e; simpa [World.setCell] using hgA3, fun z hz => ?_⟩
            rcases List.mem_or_eq_of_mem_set hz with hz | rfl
            · exact hrg.out z hz
            · exact hyr
          have B6 : Below w.heap.size w (w5.setCell ⟨gA, 0, none⟩ (.int .i64 y)) := b5.setCell (by show w.heap.size ≤ gA; omega) _
          clear own5 hst b5
          go_wp2_with fail
          go_ret
          exact ⟨_, k, c', rfl, by omega, ⟨_, O⟩, B6⟩
        | false =>
          have O : OwnI w4 w.heap.size w4.heap.size A' k c' xs := ⟨owns_low own4 (by omega), fun ad e => (owns_lt own4 ad e).2, hrg.out⟩
          clear own4
          go_wp2_with fail
          go_ret
          exact ⟨_, k, c', rfl, by omega, ⟨_, O⟩, b4⟩
      · obtain rfl : k = 0 := by omega
        have O : OwnI wr w.heap.size wr.heap.size A' 0 c' xs := ⟨owns_low hown.out (by omega), fun ad e => (owns_lt hown.out ad e).2, hrg.out⟩
        have B := hb.out
        clear hown hb
        go_wp2_with fail
        go_ret
        exact ⟨_, 0, c', rfl, by omega, ⟨_, O⟩, B⟩
end Go.Proofs.YtppekbokaknocaaDoor
