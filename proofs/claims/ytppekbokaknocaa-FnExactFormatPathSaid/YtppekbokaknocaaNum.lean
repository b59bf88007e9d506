/- The walks of the number functions, of the program and of the reference: each returns the plain function of NumLaws. -/
import Derived.Test.YtppekbokaknocaaNumLaws
namespace Go.Proofs.Ytppekbokaknocaa
open Go.RowKit
set_option linter.unusedSimpArgs false
set_option linter.unusedVariables false
set_option maxRecDepth 20000

theorem spec_l1In (n lo hi : Int) (w : World) :
    Calls Try.prog 29 #[.int .i64 n, .int .i64 lo, .int .i64 hi] w fun e w' => e = .returned (.bool (decide (lo ≤ n) && decide (n ≤ hi))) ∧ w = w' := by
  by_cases h0 : lo ≤ n
  · by_cases h1 : n ≤ hi
    · go_enter Try.func29, Try.ntmps29
      go_wp2
      go_ret
      exact ⟨by simp [h0, h1], rfl⟩
    · go_enter Try.func29, Try.ntmps29
      go_wp2
      go_ret
      exact ⟨by simp [h1], rfl⟩
  · go_enter Try.func29, Try.ntmps29
    go_wp2
    go_ret
    exact ⟨ret_bool (by simp; omega), rfl⟩

theorem impl_IsNumber (n : Int) (w : World) :
    Calls Try.prog 34 #[.int .i64 n] w fun e w' => e = .returned (.bool (isNumF n)) ∧ w = w' := by
  by_cases h0 : 0 ≤ n
  · by_cases h1 : n < 1000000271
    · go_enter Try.func34, Try.ntmps34
      go_wp2
      go_ret
      exact ⟨by simp [isNumF, h0, h1], rfl⟩
    · go_enter Try.func34, Try.ntmps34
      go_wp2
      go_ret
      exact ⟨by simp [isNumF, h1], rfl⟩
  · go_enter Try.func34, Try.ntmps34
    go_wp2
    go_ret
    exact ⟨ret_bool (by simp [isNumF]; omega), rfl⟩

theorem spec_IsNumber (n : Int) (w : World) :
    Calls Try.prog 30 #[.int .i64 n] w fun e w' => e = .returned (.bool (isNumF n)) ∧ w = w' := by
  have hF : Hid ((decide (0 ≤ n) && decide (n ≤ 1000000270)) = isNumF n) := by
    show _ = _
    rw [Bool.eq_iff_iff]; simp [isNumF]; omega
  go_enter Try.func30, Try.ntmps30
  go_wp2_with (go_at_call 29; refine (spec_l1In _ _ _ _).mono ?_; rintro e w' ⟨rfl, rfl⟩)
  go_ret
  exact ⟨ret_bool hF.out, rfl⟩

theorem spec_l1Residue (n : Int) (w : World) (h : R64 n) :
    Calls Try.prog 41 #[.int .i64 n] w fun e w' => e = .returned (.int .i64 (resF n)) ∧ w = w' := by
  have hb := tmod_bd n
  have hF := hide (res_eq' n)
  obtain ⟨h1, h2⟩ := h
  go_enter Try.func41, Try.ntmps41
  go_wp2
  go_ret
  exact ⟨ret_int (by rw [← hF.out]), rfl⟩

theorem spec_Times (a b : Int) (w : World) (ha : R64 a) (hb : R64 b) :
    Calls Try.prog 31 #[.int .i64 a, .int .i64 b] w fun e w' => e = .returned (.int .i64 (timesF a b)) ∧ w = w' := by
  have hA := resF_bd a
  have hB := resF_bd b
  have hm := mul_bd hA.1 hA.2 hB.1 hB.2
  have ha' := hide ha
  have hb' := hide hb
  clear ha hb
  go_enter Try.func31, Try.ntmps31
  go_wp2_with (go_at_call 41; refine (spec_l1Residue _ _ (by first | exact ha'.out | exact hb'.out)).mono ?_; rintro e w' ⟨rfl, rfl⟩)
  go_ret
  exact ⟨ret_int (times_eq a b), rfl⟩

theorem spec_Times_one (a : Int) (w : World) (ha : R64 a) :
    Calls Try.prog 31 #[.int .i64 a, .int .i64 1] w fun e w' => e = .returned (.int .i64 (resF a)) ∧ w = w' :=
  (spec_Times a 1 w ha (by constructor <;> omega)).mono fun e w' h => by rw [timesF_one] at h; exact h

def isLetterF (n : Int) : Bool := decide (0 ≤ n) && decide (n ≤ 1)
theorem isLetterF_iff (n : Int) : isLetterF n = true ↔ 0 ≤ n ∧ n ≤ 1 := by simp [isLetterF]

theorem impl_isLetter (n : Int) (w : World) :
    Calls Try.prog 33 #[.int .i64 n] w fun e w' => e = .returned (.bool (isLetterF n)) ∧ w = w' := by
  by_cases h0 : n = 0
  · subst h0
    go_enter Try.func33, Try.ntmps33
    go_wp2
    go_ret
    exact ⟨rfl, rfl⟩
  · have hF : Hid ((n == 1) = isLetterF n) := by show _ = _; rw [Bool.eq_iff_iff]; simp [isLetterF]; omega
    go_enter Try.func33, Try.ntmps33
    go_wp2
    go_ret
    exact ⟨ret_bool (by rw [← hF.out]; simp [h0]), rfl⟩
end Go.Proofs.Ytppekbokaknocaa
