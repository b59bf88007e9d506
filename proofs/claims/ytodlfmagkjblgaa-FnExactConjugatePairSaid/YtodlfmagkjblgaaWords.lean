/- Words (an order and its numbers): what they read as, their making, their checks, the statements' helpers on them. -/
import Derived.Test.YtodlfmagkjblgaaIntS
namespace Go.Proofs.Ytodlfmagkjblgaa
open Go.RowKit
set_option linter.unusedSimpArgs false
set_option linter.unusedVariables false
set_option maxRecDepth 20000

def cntN (o : Int) : Nat := 2 ^ (o.toNat + 1) - 1
theorem cntN_bd {o : Int} (h1 : o ≤ 5) : 1 ≤ cntN o ∧ cntN o ≤ 63 := by
  unfold cntN
  have h2 : 2 ^ (o.toNat + 1) ≤ 2 ^ 6 := Nat.pow_le_pow_right (by omega) (by omega)
  have h3 : 2 ^ 1 ≤ 2 ^ (o.toNat + 1) := Nat.pow_le_pow_right (by omega) (by omega)
  omega

theorem spec_l11Count (o : Int) (w : World) (h0 : 0 ≤ o) (h1 : o ≤ 5) :
    Calls Try.prog 123 #[.int .i64 o] w fun e w' => e = .returned (.int .i64 (cntN o)) ∧ w = w' := by
  obtain h | h | h | h | h | h : o = 0 ∨ o = 1 ∨ o = 2 ∨ o = 3 ∨ o = 4 ∨ o = 5 := by omega
  all_goals
    subst h
    go_enter Try.func123, Try.ntmps123
    go_wp2_with fail
    go_ret
    exact ⟨ret_int (by decide), rfl⟩
theorem impl_countWords (o : Int) (w : World) (h0 : 0 ≤ o) (h1 : o ≤ 5) :
    Calls Try.prog 126 #[.int .i64 o] w fun e w' => e = .returned (.int .i64 (cntN o)) ∧ w = w' := by
  obtain h | h | h | h | h | h : o = 0 ∨ o = 1 ∨ o = 2 ∨ o = 3 ∨ o = 4 ∨ o = 5 := by omega
  all_goals
    subst h
    go_enter Try.func126, Try.ntmps126
    go_wp2_with fail
    go_ret
    exact ⟨ret_int (by decide), rfl⟩
theorem impl_isWordOrder (n : Int) (w : World) :
    Calls Try.prog 90 #[.int .i64 n] w fun e w' => e = .returned (.bool (decide (0 ≤ n) && decide (n ≤ 5))) ∧ w = w' := by
  by_cases h0 : 0 ≤ n
  · go_enter Try.func90, Try.ntmps90
    go_wp2_with fail
    go_ret
    exact ⟨ret_bool (by simp [h0]), rfl⟩
  · have hb : decide (0 ≤ n) = false := by simpa using h0
    go_enter Try.func90, Try.ntmps90
    go_wp2_with fail
    go_ret
    exact ⟨ret_bool (by simp [hb]), rfl⟩

theorem replicate_rng (n : Nat) : ∀ x ∈ List.replicate n (0 : Int), R64 x := by
  intro x hx
  rw [List.mem_replicate] at hx
  rw [hx.2]
  constructor <;> omega

theorem impl_noWords (o : Int) (w : World) (h0 : 0 ≤ o) (h1 : o ≤ 5) :
    Calls Try.prog 80 #[.int .i64 o] w fun e w' => ∃ A c, e = .returned (.agg #[.int .i64 o, .slice A (cntN o) c]) ∧ OwnI w' w.heap.size w'.heap.size A (cntN o) c (List.replicate (cntN o) 0) ∧ Below w.heap.size w w' := by
  have hb := cntN_bd h1
  have hmk := make_ints (cntN o) (by omega)
  go_enter Try.func80, Try.ntmps80
  go_wp2_with (go_at_call 126; refine (impl_countWords _ _ h0 h1).mono ?_; rintro e w' ⟨rfl, rfl⟩)
  refine bodyPost_ret (v := .agg #[.int .i64 o, .slice (some ⟨w.heap.size + 1, 0, none⟩) (cntN o) (cntN o)]) (by simp [results, Try.results80, go_sem]) rfl ⟨_, _, rfl, ⟨?_, ?_, replicate_rng _⟩, ?_⟩
  · simpa using owns_zeros (w.alloc _) (cntN o) (by omega) (lo := w.heap.size) (by simp)
  · intro ad e
    injection e with e
    subst e
    simp
  · repeat (first | exact Below.refl _ _ | refine Below.alloc ?_ (by simp; try omega) _)
theorem spec_l11Zero (o : Int) (w : World) (h0 : 0 ≤ o) (h1 : o ≤ 5) :
    Calls Try.prog 68 #[.int .i64 o] w fun e w' => ∃ A c, e = .returned (.agg #[.int .i64 o, .slice A (cntN o) c]) ∧ OwnI w' w.heap.size w'.heap.size A (cntN o) c (List.replicate (cntN o) 0) ∧ Below w.heap.size w w' := by
  have hb := cntN_bd h1
  have hmk := make_ints (cntN o) (by omega)
  go_enter Try.func68, Try.ntmps68
  go_wp2_with (go_at_call 123; refine (spec_l11Count _ _ h0 h1).mono ?_; rintro e w' ⟨rfl, rfl⟩)
  refine bodyPost_ret (v := .agg #[.int .i64 o, .slice (some ⟨w.heap.size + 1, 0, none⟩) (cntN o) (cntN o)]) (by simp [results, Try.results68, go_sem]) rfl ⟨_, _, rfl, ⟨?_, ?_, replicate_rng _⟩, ?_⟩
  · simpa using owns_zeros (w.alloc _) (cntN o) (by omega) (lo := w.heap.size) (by simp)
  · intro ad e
    injection e with e
    subst e
    simp
  · repeat (first | exact Below.refl _ _ | refine Below.alloc ?_ (by simp; try omega) _)

/-- A pair of an order and numbers; the zero value for what is none. -/
def unitF (o : Int) : Int × List Int := if 0 ≤ o ∧ o ≤ 5 then (o, (List.replicate (cntN o) 0).set 0 1) else (0, [])

theorem impl_UnitWords (o : Int) (w : World) :
    Calls Try.prog 34 #[.int .i64 o] w fun e w' => ∃ A n c, e = .returned (.agg #[.int .i64 (unitF o).1, .slice A n c]) ∧ OwnI w' w.heap.size w'.heap.size A n c (unitF o).2 ∧ Below w.heap.size w w' := by
  by_cases h : 0 ≤ o ∧ o ≤ 5
  · have hU : Hid (unitF o = (o, (List.replicate (cntN o) 0).set 0 1)) := if_pos h
    obtain ⟨h0, h1⟩ := h
    have hb := cntN_bd h1
    go_enter Try.func34, Try.ntmps34
    go_wp2_with (go_at_call 90; refine (impl_isWordOrder _ _).mono ?_; rintro e w' ⟨rfl, rfl⟩)
    refine (impl_noWords _ _ h0 h1).mono ?_
    rintro e w1 ⟨A, c, rfl, o1, b1⟩
    obtain ⟨g, rfl, hg1, hg2, hg3⟩ := o1.form (by omega)
    have hc : w1.cell? ⟨g, 0, none⟩ = some (.int .i64 0) := by rw [o1.own.cellAt 0 (by omega), List.getElem?_map, List.getElem?_replicate, if_pos (by omega)]; rfl
    have hf := o1.own.frozenAt 0
    have hst := o1.own.stored 0 (.int .i64 1)
    obtain ⟨hq, hqf⟩ := bcell b1
    have hq0 := hq w.heap.size 0 (by simp)
    have hq1 := hq w.heap.size 1 (by simp)
    have hf0 := hqf w.heap.size 0 (by simp)
    have hf1 := hqf w.heap.size 1 (by simp)
    have hsz := b1.size
    simp at hq0 hq1 hf0 hf1 hg1 hsz
    have hne : ¬ w.heap.size = g := by omega
    have hlt : w.heap.size < w1.heap.size := by omega
    have b2 := below_alloc_inv b1
    have hlow := owns_low (base' := w.heap.size) hst.1 (by simp)
    clear hq hqf hst b1 o1
    go_wp2_with fail
    refine bodyPost_ret (v := .agg #[.int .i64 o, .slice (some ⟨g, 0, none⟩) (cntN o) c]) (by simp [results, Try.results34, go_sem, hq0, hq1, hlt, hne]) rfl ⟨_, _, _, by rw [hU.out], ⟨?_, ?_, ?_⟩, ?_⟩
    · rw [hU.out]
      have HL : (w1.setCell ⟨g, 0, none⟩ (.int .i64 1)).ownsRow w.heap.size 3 1 (.slice (some ⟨g, 0, none⟩) (cntN o) c) (cntN o) (((List.replicate (cntN o) 0).set 0 1).map (Value.int .i64)) := by simpa [List.map_set] using hlow
      repeat (first
        | with_reducible exact HL
        | with_reducible refine World.ownsRow.alloc ?_ _
        | ((with_reducible refine owns_setCell ?_ ?_ _); rotate_left; intro ad e; cases e; exact fun e => hne e.symm))
    · intro ad e
      injection e with e
      subst e
      simp [World.setCell]
      omega
    · rw [hU.out]
      intro x hx
      rcases List.mem_or_eq_of_mem_set hx with hx | rfl
      · exact replicate_rng _ x hx
      · constructor <;> omega
    · repeat (first
        | with_reducible exact b2
        | ((with_reducible refine Below.alloc ?_ ?_ _); rotate_left; simp [World.setCell]; omega)
        | ((with_reducible refine Below.setCell ?_ ?_ _); rotate_left; first | exact Nat.le_refl _ | (simp; omega)))
  · have hU : Hid (unitF o = (0, [])) := if_neg h
    have hb : (decide (0 ≤ o) && decide (o ≤ 5)) = false := by
      rw [Bool.eq_false_iff]; intro e; simp at e; exact h e
    clear h
    go_enter Try.func34, Try.ntmps34
    go_wp2_with (go_at_call 90; refine (impl_isWordOrder _ _).mono ?_; rintro e w' ⟨rfl, rfl⟩)
    refine bodyPost_ret (v := .agg #[.int .i64 0, .slice none 0 0]) (by simp [results, Try.results34, go_sem]) rfl ⟨_, _, _, by rw [hU.out], by rw [hU.out]; exact OwnI.nil_ _ _ _, ?_⟩
    repeat (first | exact Below.refl _ _ | refine Below.alloc ?_ (by simp; try omega) _)
theorem spec_UnitWords (o : Int) (w : World) :
    Calls Try.prog 113 #[.int .i64 o] w fun e w' => ∃ A n c, e = .returned (.agg #[.int .i64 (unitF o).1, .slice A n c]) ∧ OwnI w' w.heap.size w'.heap.size A n c (unitF o).2 ∧ Below w.heap.size w w' := by
  by_cases h : 0 ≤ o ∧ o ≤ 5
  · have hU : Hid (unitF o = (o, (List.replicate (cntN o) 0).set 0 1)) := if_pos h
    obtain ⟨h0, h1⟩ := h
    have hb := cntN_bd h1
    go_enter Try.func113, Try.ntmps113
    go_wp2_with (go_at_call 119; refine (spec_l1In _ _ _ _).mono ?_; rintro e w' ⟨rfl, rfl⟩)
    refine (spec_l11Zero _ _ h0 h1).mono ?_
    rintro e w1 ⟨A, c, rfl, o1, b1⟩
    obtain ⟨g, rfl, hg1, hg2, hg3⟩ := o1.form (by omega)
    have hc : w1.cell? ⟨g, 0, none⟩ = some (.int .i64 0) := by rw [o1.own.cellAt 0 (by omega), List.getElem?_map, List.getElem?_replicate, if_pos (by omega)]; rfl
    have hf := o1.own.frozenAt 0
    have hst := o1.own.stored 0 (.int .i64 1)
    obtain ⟨hq, hqf⟩ := bcell b1
    have hq0 := hq w.heap.size 0 (by simp)
    have hq1 := hq w.heap.size 1 (by simp)
    have hf0 := hqf w.heap.size 0 (by simp)
    have hf1 := hqf w.heap.size 1 (by simp)
    have hsz := b1.size
    simp at hq0 hq1 hf0 hf1 hg1 hsz
    have hne : ¬ w.heap.size = g := by omega
    have hlt : w.heap.size < w1.heap.size := by omega
    have b2 := below_alloc_inv b1
    have hlow := owns_low (base' := w.heap.size) hst.1 (by simp)
    clear hq hqf hst b1 o1
    go_wp2_with fail
    refine bodyPost_ret (v := .agg #[.int .i64 o, .slice (some ⟨g, 0, none⟩) (cntN o) c]) (by simp [results, Try.results113, go_sem, hq0, hq1, hlt, hne]) rfl ⟨_, _, _, by rw [hU.out], ⟨?_, ?_, ?_⟩, ?_⟩
    · rw [hU.out]
      have HL : (w1.setCell ⟨g, 0, none⟩ (.int .i64 1)).ownsRow w.heap.size 3 1 (.slice (some ⟨g, 0, none⟩) (cntN o) c) (cntN o) (((List.replicate (cntN o) 0).set 0 1).map (Value.int .i64)) := by simpa [List.map_set] using hlow
      repeat (first
        | with_reducible exact HL
        | with_reducible refine World.ownsRow.alloc ?_ _
        | ((with_reducible refine owns_setCell ?_ ?_ _); rotate_left; intro ad e; cases e; exact fun e => hne e.symm))
    · intro ad e
      injection e with e
      subst e
      simp [World.setCell]
      omega
    · rw [hU.out]
      intro x hx
      rcases List.mem_or_eq_of_mem_set hx with hx | rfl
      · exact replicate_rng _ x hx
      · constructor <;> omega
    · repeat (first
        | with_reducible exact b2
        | ((with_reducible refine Below.alloc ?_ ?_ _); rotate_left; simp [World.setCell]; omega)
        | ((with_reducible refine Below.setCell ?_ ?_ _); rotate_left; first | exact Nat.le_refl _ | (simp; omega)))
  · have hU : Hid (unitF o = (0, [])) := if_neg h
    have hb : (decide (0 ≤ o) && decide (o ≤ 5)) = false := by
      rw [Bool.eq_false_iff]; intro e; simp at e; exact h e
    clear h
    go_enter Try.func113, Try.ntmps113
    go_wp2_with (go_at_call 119; refine (spec_l1In _ _ _ _).mono ?_; rintro e w' ⟨rfl, rfl⟩)
    refine bodyPost_ret (v := .agg #[.int .i64 0, .slice none 0 0]) (by simp [results, Try.results113, go_sem]) rfl ⟨_, _, _, by rw [hU.out], by rw [hU.out]; exact OwnI.nil_ _ _ _, ?_⟩
    repeat (first | exact Below.refl _ _ | refine Below.alloc ?_ (by simp; try omega) _)

def letterF (o l x : Int) : Int × List Int := if (1 ≤ o ∧ o ≤ 5) ∧ (0 ≤ l ∧ l ≤ 1) then (o, (List.replicate (cntN o) 0).set (1 + l.toNat) (resF x)) else (0, [])

set_option maxHeartbeats 400000 in
theorem impl_LetterWords (o l x : Int) (w : World) (hx : R64 x) :
    Calls Try.prog 47 #[.int .i64 o, .int .i64 l, .int .i64 x] w fun e w' => ∃ A n c, e = .returned (.agg #[.int .i64 (letterF o l x).1, .slice A n c]) ∧ OwnI w' w.heap.size w'.heap.size A n c (letterF o l x).2 ∧ Below w.heap.size w w' := by
  by_cases h : (1 ≤ o ∧ o ≤ 5) ∧ (0 ≤ l ∧ l ≤ 1)
  · have hU : Hid (letterF o l x = (o, (List.replicate (cntN o) 0).set (1 + l.toNat) (resF x))) := if_pos h
    obtain ⟨⟨h0, h1⟩, h2, h3⟩ := h
    have hL : isLetterF l = true := by simp [isLetterF]; omega
    have hO : (decide (1 ≤ o) && decide (o ≤ 5)) = true := by simp; omega
    have hb := cntN_bd h1
    have hb3 : 3 ≤ cntN o := by
      unfold cntN
      have h3 : 2 ^ 2 ≤ 2 ^ (o.toNat + 1) := Nat.pow_le_pow_right (by omega) (by omega)
      omega
    have hx' := hide hx
    have hr := resF_bd x
    obtain ⟨k, hk, hk1⟩ : ∃ k : Nat, l = k ∧ k ≤ 1 := ⟨l.toNat, by omega, by omega⟩
    subst hk
    clear hx
    go_enter Try.func47, Try.ntmps47
    go_wp2_with (first
      | (go_at_call 119; refine (spec_l1In _ _ _ _).mono ?_; rintro e w' ⟨rfl, rfl⟩)
      | (go_at_call 105; refine (impl_isLetter _ _).mono ?_; rintro e w' ⟨rfl, rfl⟩))
    refine (impl_noWords _ _ (by omega) h1).mono ?_
    rintro e w1 ⟨A, c, rfl, o1, b1⟩
    obtain ⟨g, rfl, hg1, hg2, hg3⟩ := o1.form (by omega)
    have hc : w1.cell? ⟨g, 1 + k, none⟩ = some (.int .i64 0) := by rw [o1.own.cellAt (1 + k) (by omega), List.getElem?_map, List.getElem?_replicate, if_pos (by omega)]; rfl
    have hf := o1.own.frozenAt (1 + k)
    have hst := o1.own.stored (1 + k) (.int .i64 (resF x))
    obtain ⟨hq0, hq1, hf0, hf1, hlt⟩ := res2 b1
    have b2 := below_alloc_inv b1
    simp at hg1
    have hne : ¬ w.heap.size = g := by omega
    have HO : Hid (OwnI (w1.setCell ⟨g, 1 + k, none⟩ (.int .i64 (resF x))) (w.heap.size + 1) w1.heap.size (some ⟨g, 0, none⟩) (cntN o) c ((List.replicate (cntN o) 0).set (1 + k) (resF x))) := by
      refine ⟨?_, fun ad e => o1.lt ad e, fun y hy => ?_⟩
      · have := hst.1
        simpa [List.map_set] using this
      · rcases List.mem_or_eq_of_mem_set hy with hy | rfl
        · exact replicate_rng _ y hy
        · constructor <;> omega
    clear hst b1 o1
    go_wp2_with fail
    have hw1 := IntWalk.i64_in (1 + (k : Int)) (by omega)
    have hw2 : (1 + (k : Int)).toNat = 1 + k := by omega
    have hw3 : (0 : Int) ≤ 1 + (k : Int) := by omega
    have hw4 : 1 + (k : Int) < (cntN o : Nat) := by omega
    refine still_tail 7 (by kernel_rfl) (by kernel_rfl) ?_
    simp only [List.take_succ_cons, List.take_zero, List.drop_succ_cons, List.drop_zero]
    repeat still_step
    still_call (still_same (impl_residue _ _ hx'.out))
    repeat still_step
    refine wpStill_nil ?_
    clear hw1 hw2 hw3 hw4
    go_wp2_with fail
    refine bodyPost_ret (v := .agg #[.int .i64 o, .slice (some ⟨g, 0, none⟩) (cntN o) c]) (by simp [results, Try.results47, go_sem, hq0, hq1, hlt, hne]) rfl ⟨_, _, _, by rw [hU.out], ?_, ?_⟩
    · rw [hU.out, Int.toNat_natCast]
      refine (OwnI.same HO.out ?_).wide (by omega) ?_
      · (repeat (first | with_reducible exact Same.refl _ _ _ | with_reducible refine Same.drew ?_ | ((with_reducible refine Same.alloc ?_ ?_ _); rotate_left; · first | omega | (simp [World.setCell]; done) | (simp [World.setCell]; omega)) | ((with_reducible refine Same.setCell ?_ ?_ _); rotate_left; · first | omega | (simp; done) | (simp; omega))))
      · simp [World.setCell]
    · (repeat (first | with_reducible exact b2 | with_reducible exact Below.refl _ _ | with_reducible refine Below.drew ?_ | ((with_reducible refine Below.alloc ?_ ?_ _); rotate_left; · first | omega | (simp [World.setCell]; done) | (simp [World.setCell]; omega)) | ((with_reducible refine Below.setCell ?_ ?_ _); rotate_left; · first | exact Nat.le_refl _ | omega | (simp; done) | (simp; omega))))
  · have hU : Hid (letterF o l x = (0, [])) := if_neg h
    have hb : ((decide (1 ≤ o) && decide (o ≤ 5)) && (decide (0 ≤ l) && decide (l ≤ 1))) = false := by
      rw [Bool.eq_false_iff]; intro e; simp at e; exact h (by omega)
    clear h
    by_cases h1 : 1 ≤ o
    · by_cases h5 : o ≤ 5
      · have hO : (decide (1 ≤ o) && decide (o ≤ 5)) = true := by simp; omega
        have hL : isLetterF l = false := by rw [hO] at hb; simpa [isLetterF] using hb
        have hL' : (decide (0 ≤ l) && decide (l ≤ 1)) = false := hL
        clear hb
        go_enter Try.func47, Try.ntmps47
        go_wp2_with (first
          | (go_at_call 119; refine (spec_l1In _ _ _ _).mono ?_; rintro e w' ⟨rfl, rfl⟩)
          | (go_at_call 105; refine (impl_isLetter _ _).mono ?_; rintro e w' ⟨rfl, rfl⟩))
        refine bodyPost_ret (v := .agg #[.int .i64 0, .slice none 0 0]) (by simp [results, Try.results47, go_sem]) rfl ⟨_, _, _, by rw [hU.out], by rw [hU.out]; exact OwnI.nil_ _ _ _, ?_⟩
        (repeat (first | with_reducible exact Below.refl _ _ | with_reducible exact Below.refl _ _ | with_reducible refine Below.drew ?_ | ((with_reducible refine Below.alloc ?_ ?_ _); rotate_left; · first | omega | (simp [World.setCell]; done) | (simp [World.setCell]; omega)) | ((with_reducible refine Below.setCell ?_ ?_ _); rotate_left; · first | exact Nat.le_refl _ | omega | (simp; done) | (simp; omega))))
      · have hO : (decide (1 ≤ o) && decide (o ≤ 5)) = false := by rw [Bool.eq_false_iff]; intro e; simp at e; omega
        clear hb
        go_enter Try.func47, Try.ntmps47
        go_wp2_with (first
          | (go_at_call 119; refine (spec_l1In _ _ _ _).mono ?_; rintro e w' ⟨rfl, rfl⟩)
          | (go_at_call 105; refine (impl_isLetter _ _).mono ?_; rintro e w' ⟨rfl, rfl⟩))
        refine bodyPost_ret (v := .agg #[.int .i64 0, .slice none 0 0]) (by simp [results, Try.results47, go_sem]) rfl ⟨_, _, _, by rw [hU.out], by rw [hU.out]; exact OwnI.nil_ _ _ _, ?_⟩
        (repeat (first | with_reducible exact Below.refl _ _ | with_reducible exact Below.refl _ _ | with_reducible refine Below.drew ?_ | ((with_reducible refine Below.alloc ?_ ?_ _); rotate_left; · first | omega | (simp [World.setCell]; done) | (simp [World.setCell]; omega)) | ((with_reducible refine Below.setCell ?_ ?_ _); rotate_left; · first | exact Nat.le_refl _ | omega | (simp; done) | (simp; omega))))
    · have hO : (decide (1 ≤ o) && decide (o ≤ 5)) = false := by rw [Bool.eq_false_iff]; intro e; simp at e; omega
      clear hb
      go_enter Try.func47, Try.ntmps47
      go_wp2_with (first
        | (go_at_call 119; refine (spec_l1In _ _ _ _).mono ?_; rintro e w' ⟨rfl, rfl⟩)
        | (go_at_call 105; refine (impl_isLetter _ _).mono ?_; rintro e w' ⟨rfl, rfl⟩))
      refine bodyPost_ret (v := .agg #[.int .i64 0, .slice none 0 0]) (by simp [results, Try.results47, go_sem]) rfl ⟨_, _, _, by rw [hU.out], by rw [hU.out]; exact OwnI.nil_ _ _ _, ?_⟩
      (repeat (first | with_reducible exact Below.refl _ _ | with_reducible exact Below.refl _ _ | with_reducible refine Below.drew ?_ | ((with_reducible refine Below.alloc ?_ ?_ _); rotate_left; · first | omega | (simp [World.setCell]; done) | (simp [World.setCell]; omega)) | ((with_reducible refine Below.setCell ?_ ?_ _); rotate_left; · first | exact Nat.le_refl _ | omega | (simp; done) | (simp; omega))))
set_option maxHeartbeats 400000 in
theorem spec_LetterWords (o l x : Int) (w : World) (hx : R64 x) :
    Calls Try.prog 115 #[.int .i64 o, .int .i64 l, .int .i64 x] w fun e w' => ∃ A n c, e = .returned (.agg #[.int .i64 (letterF o l x).1, .slice A n c]) ∧ OwnI w' w.heap.size w'.heap.size A n c (letterF o l x).2 ∧ Below w.heap.size w w' := by
  by_cases h : (1 ≤ o ∧ o ≤ 5) ∧ (0 ≤ l ∧ l ≤ 1)
  · have hU : Hid (letterF o l x = (o, (List.replicate (cntN o) 0).set (1 + l.toNat) (resF x))) := if_pos h
    obtain ⟨⟨h0, h1⟩, h2, h3⟩ := h
    have hL : (decide (0 ≤ l) && decide (l ≤ 1)) = true := by simp; omega
    have hO : (decide (1 ≤ o) && decide (o ≤ 5)) = true := by simp; omega
    have hb := cntN_bd h1
    have hb3 : 3 ≤ cntN o := by
      unfold cntN
      have h3 : 2 ^ 2 ≤ 2 ^ (o.toNat + 1) := Nat.pow_le_pow_right (by omega) (by omega)
      omega
    have hx' := hide hx
    have hr := resF_bd x
    obtain ⟨k, hk, hk1⟩ : ∃ k : Nat, l = k ∧ k ≤ 1 := ⟨l.toNat, by omega, by omega⟩
    subst hk
    clear hx
    go_enter Try.func115, Try.ntmps115
    go_wp2_with (first
      | (go_at_call 119; refine (spec_l1In _ _ _ _).mono ?_; rintro e w' ⟨rfl, rfl⟩)
      | (go_at_call 105; refine (impl_isLetter _ _).mono ?_; rintro e w' ⟨rfl, rfl⟩))
    refine (spec_l11Zero _ _ (by omega) h1).mono ?_
    rintro e w1 ⟨A, c, rfl, o1, b1⟩
    obtain ⟨g, rfl, hg1, hg2, hg3⟩ := o1.form (by omega)
    have hc : w1.cell? ⟨g, 1 + k, none⟩ = some (.int .i64 0) := by rw [o1.own.cellAt (1 + k) (by omega), List.getElem?_map, List.getElem?_replicate, if_pos (by omega)]; rfl
    have hf := o1.own.frozenAt (1 + k)
    have hst := o1.own.stored (1 + k) (.int .i64 (resF x))
    obtain ⟨hq0, hq1, hf0, hf1, hlt⟩ := res2 b1
    have b2 := below_alloc_inv b1
    simp at hg1
    have hne : ¬ w.heap.size = g := by omega
    have HO : Hid (OwnI (w1.setCell ⟨g, 1 + k, none⟩ (.int .i64 (resF x))) (w.heap.size + 1) w1.heap.size (some ⟨g, 0, none⟩) (cntN o) c ((List.replicate (cntN o) 0).set (1 + k) (resF x))) := by
      refine ⟨?_, fun ad e => o1.lt ad e, fun y hy => ?_⟩
      · have := hst.1
        simpa [List.map_set] using this
      · rcases List.mem_or_eq_of_mem_set hy with hy | rfl
        · exact replicate_rng _ y hy
        · constructor <;> omega
    clear hst b1 o1
    go_wp2_with fail
    have hw1 := IntWalk.i64_in (1 + (k : Int)) (by omega)
    have hw2 : (1 + (k : Int)).toNat = 1 + k := by omega
    have hw3 : (0 : Int) ≤ 1 + (k : Int) := by omega
    have hw4 : 1 + (k : Int) < (cntN o : Nat) := by omega
    refine still_tail 7 (by kernel_rfl) (by kernel_rfl) ?_
    simp only [List.take_succ_cons, List.take_zero, List.drop_succ_cons, List.drop_zero]
    repeat still_step
    still_call (still_same (spec_Times_one _ _ hx'.out))
    repeat still_step
    refine wpStill_nil ?_
    clear hw1 hw2 hw3 hw4
    go_wp2_with fail
    refine bodyPost_ret (v := .agg #[.int .i64 o, .slice (some ⟨g, 0, none⟩) (cntN o) c]) (by simp [results, Try.results115, go_sem, hq0, hq1, hlt, hne]) rfl ⟨_, _, _, by rw [hU.out], ?_, ?_⟩
    · rw [hU.out, Int.toNat_natCast]
      refine (OwnI.same HO.out ?_).wide (by omega) ?_
      · (repeat (first | with_reducible exact Same.refl _ _ _ | with_reducible refine Same.drew ?_ | ((with_reducible refine Same.alloc ?_ ?_ _); rotate_left; · first | omega | (simp [World.setCell]; done) | (simp [World.setCell]; omega)) | ((with_reducible refine Same.setCell ?_ ?_ _); rotate_left; · first | omega | (simp; done) | (simp; omega))))
      · simp [World.setCell]
    · (repeat (first | with_reducible exact b2 | with_reducible exact Below.refl _ _ | with_reducible refine Below.drew ?_ | ((with_reducible refine Below.alloc ?_ ?_ _); rotate_left; · first | omega | (simp [World.setCell]; done) | (simp [World.setCell]; omega)) | ((with_reducible refine Below.setCell ?_ ?_ _); rotate_left; · first | exact Nat.le_refl _ | omega | (simp; done) | (simp; omega))))
  · have hU : Hid (letterF o l x = (0, [])) := if_neg h
    have hb : ((decide (1 ≤ o) && decide (o ≤ 5)) && (decide (0 ≤ l) && decide (l ≤ 1))) = false := by
      rw [Bool.eq_false_iff]; intro e; simp at e; exact h (by omega)
    clear h
    by_cases h1 : 1 ≤ o
    · by_cases h5 : o ≤ 5
      · have hO : (decide (1 ≤ o) && decide (o ≤ 5)) = true := by simp; omega
        have hL : isLetterF l = false := by rw [hO] at hb; simpa [isLetterF] using hb
        have hL' : (decide (0 ≤ l) && decide (l ≤ 1)) = false := hL
        clear hb
        go_enter Try.func115, Try.ntmps115
        go_wp2_with (first
          | (go_at_call 119; refine (spec_l1In _ _ _ _).mono ?_; rintro e w' ⟨rfl, rfl⟩)
          | (go_at_call 105; refine (impl_isLetter _ _).mono ?_; rintro e w' ⟨rfl, rfl⟩))
        refine bodyPost_ret (v := .agg #[.int .i64 0, .slice none 0 0]) (by simp [results, Try.results115, go_sem]) rfl ⟨_, _, _, by rw [hU.out], by rw [hU.out]; exact OwnI.nil_ _ _ _, ?_⟩
        (repeat (first | with_reducible exact Below.refl _ _ | with_reducible exact Below.refl _ _ | with_reducible refine Below.drew ?_ | ((with_reducible refine Below.alloc ?_ ?_ _); rotate_left; · first | omega | (simp [World.setCell]; done) | (simp [World.setCell]; omega)) | ((with_reducible refine Below.setCell ?_ ?_ _); rotate_left; · first | exact Nat.le_refl _ | omega | (simp; done) | (simp; omega))))
      · have hO : (decide (1 ≤ o) && decide (o ≤ 5)) = false := by rw [Bool.eq_false_iff]; intro e; simp at e; omega
        clear hb
        go_enter Try.func115, Try.ntmps115
        go_wp2_with (first
          | (go_at_call 119; refine (spec_l1In _ _ _ _).mono ?_; rintro e w' ⟨rfl, rfl⟩)
          | (go_at_call 105; refine (impl_isLetter _ _).mono ?_; rintro e w' ⟨rfl, rfl⟩))
        refine bodyPost_ret (v := .agg #[.int .i64 0, .slice none 0 0]) (by simp [results, Try.results115, go_sem]) rfl ⟨_, _, _, by rw [hU.out], by rw [hU.out]; exact OwnI.nil_ _ _ _, ?_⟩
        (repeat (first | with_reducible exact Below.refl _ _ | with_reducible exact Below.refl _ _ | with_reducible refine Below.drew ?_ | ((with_reducible refine Below.alloc ?_ ?_ _); rotate_left; · first | omega | (simp [World.setCell]; done) | (simp [World.setCell]; omega)) | ((with_reducible refine Below.setCell ?_ ?_ _); rotate_left; · first | exact Nat.le_refl _ | omega | (simp; done) | (simp; omega))))
    · have hO : (decide (1 ≤ o) && decide (o ≤ 5)) = false := by rw [Bool.eq_false_iff]; intro e; simp at e; omega
      clear hb
      go_enter Try.func115, Try.ntmps115
      go_wp2_with (first
        | (go_at_call 119; refine (spec_l1In _ _ _ _).mono ?_; rintro e w' ⟨rfl, rfl⟩)
        | (go_at_call 105; refine (impl_isLetter _ _).mono ?_; rintro e w' ⟨rfl, rfl⟩))
      refine bodyPost_ret (v := .agg #[.int .i64 0, .slice none 0 0]) (by simp [results, Try.results115, go_sem]) rfl ⟨_, _, _, by rw [hU.out], by rw [hU.out]; exact OwnI.nil_ _ _ _, ?_⟩
      (repeat (first | with_reducible exact Below.refl _ _ | with_reducible exact Below.refl _ _ | with_reducible refine Below.drew ?_ | ((with_reducible refine Below.alloc ?_ ?_ _); rotate_left; · first | omega | (simp [World.setCell]; done) | (simp [World.setCell]; omega)) | ((with_reducible refine Below.setCell ?_ ?_ _); rotate_left; · first | exact Nat.le_refl _ | omega | (simp; done) | (simp; omega))))

end Go.Proofs.Ytodlfmagkjblgaa
