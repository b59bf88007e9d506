/- The walks of the number functions, of the program and of the reference: each returns the plain function of NumLaws. -/
import Derived.Test.YtajcamimffgnmaaNumLaws
namespace Go.Proofs.Ytajcamimffgnmaa
open Go.RowKit
set_option linter.unusedSimpArgs false
set_option linter.unusedVariables false
set_option maxRecDepth 20000

theorem spec_l1In (n lo hi : Int) (w : World) :
    Calls Try.prog 24 #[.int .i64 n, .int .i64 lo, .int .i64 hi] w fun e w' => e = .returned (.bool (decide (lo ≤ n) && decide (n ≤ hi))) ∧ w = w' := by
  by_cases h0 : lo ≤ n
  · by_cases h1 : n ≤ hi
    · go_enter Try.func24, Try.ntmps24
      go_wp2
      go_ret
      exact ⟨by simp [h0, h1], rfl⟩
    · go_enter Try.func24, Try.ntmps24
      go_wp2
      go_ret
      exact ⟨by simp [h1], rfl⟩
  · go_enter Try.func24, Try.ntmps24
    go_wp2
    go_ret
    exact ⟨ret_bool (by simp; omega), rfl⟩

theorem impl_IsNumber (n : Int) (w : World) :
    Calls Try.prog 37 #[.int .i64 n] w fun e w' => e = .returned (.bool (isNumF n)) ∧ w = w' := by
  by_cases h0 : 0 ≤ n
  · by_cases h1 : n < 1000000271
    · go_enter Try.func37, Try.ntmps37
      go_wp2
      go_ret
      exact ⟨by simp [isNumF, h0, h1], rfl⟩
    · go_enter Try.func37, Try.ntmps37
      go_wp2
      go_ret
      exact ⟨by simp [isNumF, h1], rfl⟩
  · go_enter Try.func37, Try.ntmps37
    go_wp2
    go_ret
    exact ⟨ret_bool (by simp [isNumF]; omega), rfl⟩

theorem spec_IsNumber (n : Int) (w : World) :
    Calls Try.prog 34 #[.int .i64 n] w fun e w' => e = .returned (.bool (isNumF n)) ∧ w = w' := by
  have hF : Hid ((decide (0 ≤ n) && decide (n ≤ 1000000270)) = isNumF n) := by
    show _ = _
    rw [Bool.eq_iff_iff]; simp [isNumF]; omega
  go_enter Try.func34, Try.ntmps34
  go_wp2_with (go_at_call 24; refine (spec_l1In _ _ _ _).mono ?_; rintro e w' ⟨rfl, rfl⟩)
  go_ret
  exact ⟨ret_bool hF.out, rfl⟩

end Go.Proofs.Ytajcamimffgnmaa
