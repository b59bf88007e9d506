/- The walks of the number functions, of the program and of the reference: each returns the plain function of NumLaws. -/
import Derived.Test.YthjkdpapadolgaaGreatDoorNumLaws
namespace Go.Proofs.YthjkdpapadolgaaGreatDoor
open Go.RowKit
set_option linter.unusedSimpArgs false
set_option linter.unusedVariables false
set_option maxRecDepth 20000

theorem spec_l1In (n lo hi : Int) (w : World) :
    Calls Tryz.prog 22 #[.int .i64 n, .int .i64 lo, .int .i64 hi] w fun e w' => e = .returned (.bool (decide (lo ≤ n) && decide (n ≤ hi))) ∧ w = w' := by
  by_cases h0 : lo ≤ n
  · by_cases h1 : n ≤ hi
    · go_enter Tryz.func22, Tryz.ntmps22
      go_wp2
      go_ret
      exact ⟨by simp [h0, h1], rfl⟩
    · go_enter Tryz.func22, Tryz.ntmps22
      go_wp2
      go_ret
      exact ⟨by simp [h1], rfl⟩
  · go_enter Tryz.func22, Tryz.ntmps22
    go_wp2
    go_ret
    exact ⟨ret_bool (by simp; omega), rfl⟩

theorem impl_IsNumber (n : Int) (w : World) :
    Calls Tryz.prog 69 #[.int .i64 n] w fun e w' => e = .returned (.bool (isNumF n)) ∧ w = w' := by
  by_cases h0 : 0 ≤ n
  · by_cases h1 : n < 1000000271
    · go_enter Tryz.func69, Tryz.ntmps69
      go_wp2
      go_ret
      exact ⟨by simp [isNumF, h0, h1], rfl⟩
    · go_enter Tryz.func69, Tryz.ntmps69
      go_wp2
      go_ret
      exact ⟨by simp [isNumF, h1], rfl⟩
  · go_enter Tryz.func69, Tryz.ntmps69
    go_wp2
    go_ret
    exact ⟨ret_bool (by simp [isNumF]; omega), rfl⟩

theorem spec_IsNumber (n : Int) (w : World) :
    Calls Tryz.prog 68 #[.int .i64 n] w fun e w' => e = .returned (.bool (isNumF n)) ∧ w = w' := by
  have hF : Hid ((decide (0 ≤ n) && decide (n ≤ 1000000270)) = isNumF n) := by
    show _ = _
    rw [Bool.eq_iff_iff]; simp [isNumF]; omega
  go_enter Tryz.func68, Tryz.ntmps68
  go_wp2_with (go_at_call 22; refine (spec_l1In _ _ _ _).mono ?_; rintro e w' ⟨rfl, rfl⟩)
  go_ret
  exact ⟨ret_bool hF.out, rfl⟩

theorem impl_residue (n : Int) (w : World) (h : R64 n) :
    Calls Tryz.prog 70 #[.int .i64 n] w fun e w' => e = .returned (.int .i64 (resF n)) ∧ w = w' := by
  have hb := tmod_bd n
  have hF := hide (res_eq' n)
  obtain ⟨h1, h2⟩ := h
  go_enter Tryz.func70, Tryz.ntmps70
  go_wp2
  go_ret
  exact ⟨ret_int (by rw [← hF.out]), rfl⟩

theorem spec_l1Residue (n : Int) (w : World) (h : R64 n) :
    Calls Tryz.prog 53 #[.int .i64 n] w fun e w' => e = .returned (.int .i64 (resF n)) ∧ w = w' := by
  have hb := tmod_bd n
  have hF := hide (res_eq' n)
  obtain ⟨h1, h2⟩ := h
  go_enter Tryz.func53, Tryz.ntmps53
  go_wp2
  go_ret
  exact ⟨ret_int (by rw [← hF.out]), rfl⟩

theorem impl_Plus (a b : Int) (w : World) (ha : R64 a) (hb : R64 b) :
    Calls Tryz.prog 55 #[.int .i64 a, .int .i64 b] w fun e w' => e = .returned (.int .i64 (plusF a b)) ∧ w = w' := by
  have hA := resF_bd a
  have hB := resF_bd b
  have ha' := hide ha
  have hb' := hide hb
  clear ha hb
  go_enter Tryz.func55, Tryz.ntmps55
  go_wp2_with (go_at_call 70; refine (impl_residue _ _ (by first | exact ha'.out | exact hb'.out)).mono ?_; rintro e w' ⟨rfl, rfl⟩)
  go_ret
  exact ⟨ret_int (plus_eq a b), rfl⟩

theorem spec_Plus (a b : Int) (w : World) (ha : R64 a) (hb : R64 b) :
    Calls Tryz.prog 26 #[.int .i64 a, .int .i64 b] w fun e w' => e = .returned (.int .i64 (plusF a b)) ∧ w = w' := by
  have hA := resF_bd a
  have hB := resF_bd b
  have ha' := hide ha
  have hb' := hide hb
  clear ha hb
  go_enter Tryz.func26, Tryz.ntmps26
  go_wp2_with (go_at_call 53; refine (spec_l1Residue _ _ (by first | exact ha'.out | exact hb'.out)).mono ?_; rintro e w' ⟨rfl, rfl⟩)
  go_ret
  exact ⟨ret_int (plus_eq a b), rfl⟩

theorem impl_Times (a b : Int) (w : World) (ha : R64 a) (hb : R64 b) :
    Calls Tryz.prog 56 #[.int .i64 a, .int .i64 b] w fun e w' => e = .returned (.int .i64 (timesF a b)) ∧ w = w' := by
  have hA := resF_bd a
  have hB := resF_bd b
  have hm := mul_bd hA.1 hA.2 hB.1 hB.2
  have ha' := hide ha
  have hb' := hide hb
  clear ha hb
  go_enter Tryz.func56, Tryz.ntmps56
  go_wp2_with (go_at_call 70; refine (impl_residue _ _ (by first | exact ha'.out | exact hb'.out)).mono ?_; rintro e w' ⟨rfl, rfl⟩)
  go_ret
  exact ⟨ret_int (times_eq a b), rfl⟩

theorem spec_Times (a b : Int) (w : World) (ha : R64 a) (hb : R64 b) :
    Calls Tryz.prog 27 #[.int .i64 a, .int .i64 b] w fun e w' => e = .returned (.int .i64 (timesF a b)) ∧ w = w' := by
  have hA := resF_bd a
  have hB := resF_bd b
  have hm := mul_bd hA.1 hA.2 hB.1 hB.2
  have ha' := hide ha
  have hb' := hide hb
  clear ha hb
  go_enter Tryz.func27, Tryz.ntmps27
  go_wp2_with (go_at_call 53; refine (spec_l1Residue _ _ (by first | exact ha'.out | exact hb'.out)).mono ?_; rintro e w' ⟨rfl, rfl⟩)
  go_ret
  exact ⟨ret_int (times_eq a b), rfl⟩

theorem spec_Times_one (a : Int) (w : World) (ha : R64 a) :
    Calls Tryz.prog 27 #[.int .i64 a, .int .i64 1] w fun e w' => e = .returned (.int .i64 (resF a)) ∧ w = w' :=
  (spec_Times a 1 w ha (by constructor <;> omega)).mono fun e w' h => by rw [timesF_one] at h; exact h

end Go.Proofs.YthjkdpapadolgaaGreatDoor
