/- WordsOk of both texts. -/
import Derived.Test.YtodlfmagkjblgaaWords
namespace Go.Proofs.Ytodlfmagkjblgaa
open Go.RowKit
set_option linter.unusedSimpArgs false
set_option linter.unusedVariables false
set_option maxRecDepth 20000

def wordsOkF (o : Int) (xs : List Int) : Bool := (decide (0 ≤ o) && decide (o ≤ 5)) && (decide (xs.length = cntN o) && allNumF xs)

set_option maxHeartbeats 400000 in
theorem impl_WordsOk (o : Int) (A : Option Addr) (n c : Nat) (xs : List Int) (lo hi : Nat) (w : World) (h : Ints w lo hi A n c xs) (hh : hi ≤ w.heap.size) :
    Calls Try.prog 79 #[.agg #[.int .i64 o, .slice A n c]] w fun e w' => e = .returned (.bool (wordsOkF o xs)) ∧ Below w.heap.size w w' := by
  have hm := h.max
  have hcp := h.cap
  have hb0 : Below w.heap.size w (w.alloc (.cells #[.int .i64 o, .slice A n c] 38)) := (Below.refl _ _).alloc (Nat.le_refl _) _
  have hI := hide (h.below hb0 hh)
  have hl := hide h.len
  by_cases hO : 0 ≤ o ∧ o ≤ 5
  · have hOb : (decide (0 ≤ o) && decide (o ≤ 5)) = true := by simp; omega
    obtain ⟨h0, h5⟩ := hO
    have hcb := cntN_bd h5
    by_cases hn : n = cntN o
    · have hF : Hid (wordsOkF o xs = allNumF xs) := by
        show _ = _
        rw [wordsOkF, hOb, hl.out, decide_eq_true hn]; rfl
      have hnb : (n == cntN o) = true := by rw [beq_iff_eq]; exact hn
      have hnb2 : ((n : Int) == ((cntN o : Nat) : Int)) = true := by rw [beq_iff_eq]; omega
      clear hn
      go_enter Try.func79, Try.ntmps79
      go_wp2_with fail
      go_quiet ((first
        | (go_at_call 90; first | exact quiet_left (impl_isWordOrder _ _) | exact quiet_add_left (impl_isWordOrder _ _))
        | (go_at_call 126; first | exact quiet_left (impl_countWords _ _ h0 h5) | exact quiet_add_left (impl_countWords _ _ h0 h5))
        | (go_at_call 127; first | exact quiet_left (impl_allNumbers _ _ _ _ _ _ _ (hI.out.same fun _ _ _ => rfl)) | exact quiet_add_left (impl_allNumbers _ _ _ _ _ _ _ (hI.out.same fun _ _ _ => rfl)))))
      go_wp2_with fail
      go_ret
      exact ⟨ret_bool hF.out.symm, below_drewN hb0 _⟩
    · have hF : Hid (wordsOkF o xs = false) := by
        show _ = _
        rw [wordsOkF, hOb, hl.out, decide_eq_false hn]; rfl
      have hnb : (n == cntN o) = false := by rw [beq_eq_false_iff_ne]; exact hn
      have hnb2 : ((n : Int) == ((cntN o : Nat) : Int)) = false := by rw [beq_eq_false_iff_ne]; omega
      clear hn
      go_enter Try.func79, Try.ntmps79
      go_wp2_with fail
      go_quiet ((first
        | (go_at_call 90; first | exact quiet_left (impl_isWordOrder _ _) | exact quiet_add_left (impl_isWordOrder _ _))
        | (go_at_call 126; first | exact quiet_left (impl_countWords _ _ h0 h5) | exact quiet_add_left (impl_countWords _ _ h0 h5))))
      go_wp2_with fail
      go_ret
      exact ⟨ret_bool hF.out.symm, below_drewN hb0 _⟩
  · have hOb : (decide (0 ≤ o) && decide (o ≤ 5)) = false := by
      rw [Bool.eq_false_iff]; intro e; simp at e; exact hO e
    have hF : Hid (wordsOkF o xs = false) := by
      show _ = _
      rw [wordsOkF, hOb]; rfl
    clear hO
    go_enter Try.func79, Try.ntmps79
    go_wp2_with fail
    go_quiet ((go_at_call 90; first | exact quiet_left (impl_isWordOrder _ _) | exact quiet_add_left (impl_isWordOrder _ _)))
    go_wp2_with fail
    go_ret
    exact ⟨ret_bool hF.out.symm, below_drewN hb0 _⟩

set_option maxHeartbeats 400000 in
theorem spec_WordsOk (o : Int) (A : Option Addr) (n c : Nat) (xs : List Int) (lo hi : Nat) (w : World) (h : Ints w lo hi A n c xs) (hh : hi ≤ w.heap.size) :
    Calls Try.prog 77 #[.agg #[.int .i64 o, .slice A n c]] w fun e w' => e = .returned (.bool (wordsOkF o xs)) ∧ Below w.heap.size w w' := by
  have hm := h.max
  have hcp := h.cap
  have hb0 : Below w.heap.size w (w.alloc (.cells #[.int .i64 o, .slice A n c] 38)) := (Below.refl _ _).alloc (Nat.le_refl _) _
  have hI := hide (h.below hb0 hh)
  have hl := hide h.len
  by_cases hO : 0 ≤ o ∧ o ≤ 5
  · have hOb : (decide (0 ≤ o) && decide (o ≤ 5)) = true := by simp; omega
    obtain ⟨h0, h5⟩ := hO
    have hcb := cntN_bd h5
    by_cases hn : n = cntN o
    · have hF : Hid (wordsOkF o xs = allNumF xs) := by
        show _ = _
        rw [wordsOkF, hOb, hl.out, decide_eq_true hn]; rfl
      have hnb : (n == cntN o) = true := by rw [beq_iff_eq]; exact hn
      have hnb2 : ((n : Int) == ((cntN o : Nat) : Int)) = true := by rw [beq_iff_eq]; omega
      clear hn
      go_enter Try.func77, Try.ntmps77
      go_wp2_with fail
      go_quiet ((first
        | (go_at_call 119; first | exact quiet_left (spec_l1In _ _ _ _) | exact quiet_add_left (spec_l1In _ _ _ _))
        | (go_at_call 123; first | exact quiet_left (spec_l11Count _ _ h0 h5) | exact quiet_add_left (spec_l11Count _ _ h0 h5))
        | (go_at_call 125; first | exact quiet_left (spec_l1All _ _ _ _ _ _ _ (hI.out.same fun _ _ _ => rfl)) | exact quiet_add_left (spec_l1All _ _ _ _ _ _ _ (hI.out.same fun _ _ _ => rfl)))))
      go_wp2_with fail
      go_ret
      exact ⟨ret_bool hF.out.symm, below_drewN hb0 _⟩
    · have hF : Hid (wordsOkF o xs = false) := by
        show _ = _
        rw [wordsOkF, hOb, hl.out, decide_eq_false hn]; rfl
      have hnb : (n == cntN o) = false := by rw [beq_eq_false_iff_ne]; exact hn
      have hnb2 : ((n : Int) == ((cntN o : Nat) : Int)) = false := by rw [beq_eq_false_iff_ne]; omega
      clear hn
      go_enter Try.func77, Try.ntmps77
      go_wp2_with fail
      go_quiet ((first
        | (go_at_call 119; first | exact quiet_left (spec_l1In _ _ _ _) | exact quiet_add_left (spec_l1In _ _ _ _))
        | (go_at_call 123; first | exact quiet_left (spec_l11Count _ _ h0 h5) | exact quiet_add_left (spec_l11Count _ _ h0 h5))))
      go_wp2_with fail
      go_ret
      exact ⟨ret_bool hF.out.symm, below_drewN hb0 _⟩
  · have hOb : (decide (0 ≤ o) && decide (o ≤ 5)) = false := by
      rw [Bool.eq_false_iff]; intro e; simp at e; exact hO e
    have hF : Hid (wordsOkF o xs = false) := by
      show _ = _
      rw [wordsOkF, hOb]; rfl
    clear hO
    go_enter Try.func77, Try.ntmps77
    go_wp2_with fail
    go_quiet ((go_at_call 119; first | exact quiet_left (spec_l1In _ _ _ _) | exact quiet_add_left (spec_l1In _ _ _ _)))
    go_wp2_with fail
    go_ret
    exact ⟨ret_bool hF.out.symm, below_drewN hb0 _⟩
end Go.Proofs.Ytodlfmagkjblgaa
