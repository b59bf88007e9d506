/- The walks of the number functions, of the program and of the reference: each returns the plain function of NumLaws. -/
import Derived.Test.YtfijcieponfcpaaGreatDoorNumLaws
namespace Go.Proofs.YtfijcieponfcpaaGreatDoor
open Go.RowKit
set_option linter.unusedSimpArgs false
set_option linter.unusedVariables false
set_option maxRecDepth 20000

theorem spec_l1In (n lo hi : Int) (w : World) :
    Calls Tryz.prog 49 #[.int .i64 n, .int .i64 lo, .int .i64 hi] w fun e w' => e = .returned (.bool (decide (lo ≤ n) && decide (n ≤ hi))) ∧ w = w' := by
  by_cases h0 : lo ≤ n
  · by_cases h1 : n ≤ hi
    · go_enter Tryz.func49, Tryz.ntmps49
      go_wp2
      go_ret
      exact ⟨by simp [h0, h1], rfl⟩
    · go_enter Tryz.func49, Tryz.ntmps49
      go_wp2
      go_ret
      exact ⟨by simp [h1], rfl⟩
  · go_enter Tryz.func49, Tryz.ntmps49
    go_wp2
    go_ret
    exact ⟨ret_bool (by simp; omega), rfl⟩

theorem impl_IsNumber (n : Int) (w : World) :
    Calls Tryz.prog 82 #[.int .i64 n] w fun e w' => e = .returned (.bool (isNumF n)) ∧ w = w' := by
  by_cases h0 : 0 ≤ n
  · by_cases h1 : n < 1000000271
    · go_enter Tryz.func82, Tryz.ntmps82
      go_wp2
      go_ret
      exact ⟨by simp [isNumF, h0, h1], rfl⟩
    · go_enter Tryz.func82, Tryz.ntmps82
      go_wp2
      go_ret
      exact ⟨by simp [isNumF, h1], rfl⟩
  · go_enter Tryz.func82, Tryz.ntmps82
    go_wp2
    go_ret
    exact ⟨ret_bool (by simp [isNumF]; omega), rfl⟩

theorem spec_IsNumber (n : Int) (w : World) :
    Calls Tryz.prog 78 #[.int .i64 n] w fun e w' => e = .returned (.bool (isNumF n)) ∧ w = w' := by
  have hF : Hid ((decide (0 ≤ n) && decide (n ≤ 1000000270)) = isNumF n) := by
    show _ = _
    rw [Bool.eq_iff_iff]; simp [isNumF]; omega
  go_enter Tryz.func78, Tryz.ntmps78
  go_wp2_with (go_at_call 49; refine (spec_l1In _ _ _ _).mono ?_; rintro e w' ⟨rfl, rfl⟩)
  go_ret
  exact ⟨ret_bool hF.out, rfl⟩

theorem impl_residue (n : Int) (w : World) (h : R64 n) :
    Calls Tryz.prog 69 #[.int .i64 n] w fun e w' => e = .returned (.int .i64 (resF n)) ∧ w = w' := by
  have hb := tmod_bd n
  have hF := hide (res_eq' n)
  obtain ⟨h1, h2⟩ := h
  go_enter Tryz.func69, Tryz.ntmps69
  go_wp2
  go_ret
  exact ⟨ret_int (by rw [← hF.out]), rfl⟩

theorem spec_l1Residue (n : Int) (w : World) (h : R64 n) :
    Calls Tryz.prog 55 #[.int .i64 n] w fun e w' => e = .returned (.int .i64 (resF n)) ∧ w = w' := by
  have hb := tmod_bd n
  have hF := hide (res_eq' n)
  obtain ⟨h1, h2⟩ := h
  go_enter Tryz.func55, Tryz.ntmps55
  go_wp2
  go_ret
  exact ⟨ret_int (by rw [← hF.out]), rfl⟩

theorem impl_Plus (a b : Int) (w : World) (ha : R64 a) (hb : R64 b) :
    Calls Tryz.prog 67 #[.int .i64 a, .int .i64 b] w fun e w' => e = .returned (.int .i64 (plusF a b)) ∧ w = w' := by
  have hA := resF_bd a
  have hB := resF_bd b
  have ha' := hide ha
  have hb' := hide hb
  clear ha hb
  go_enter Tryz.func67, Tryz.ntmps67
  go_wp2_with (go_at_call 69; refine (impl_residue _ _ (by first | exact ha'.out | exact hb'.out)).mono ?_; rintro e w' ⟨rfl, rfl⟩)
  go_ret
  exact ⟨ret_int (plus_eq a b), rfl⟩

theorem spec_Plus (a b : Int) (w : World) (ha : R64 a) (hb : R64 b) :
    Calls Tryz.prog 53 #[.int .i64 a, .int .i64 b] w fun e w' => e = .returned (.int .i64 (plusF a b)) ∧ w = w' := by
  have hA := resF_bd a
  have hB := resF_bd b
  have ha' := hide ha
  have hb' := hide hb
  clear ha hb
  go_enter Tryz.func53, Tryz.ntmps53
  go_wp2_with (go_at_call 55; refine (spec_l1Residue _ _ (by first | exact ha'.out | exact hb'.out)).mono ?_; rintro e w' ⟨rfl, rfl⟩)
  go_ret
  exact ⟨ret_int (plus_eq a b), rfl⟩

theorem impl_Minus (a b : Int) (w : World) (ha : R64 a) (hb : R64 b) :
    Calls Tryz.prog 37 #[.int .i64 a, .int .i64 b] w fun e w' => e = .returned (.int .i64 (minusF a b)) ∧ w = w' := by
  have hA := resF_bd a
  have hB := resF_bd b
  have ha' := hide ha
  have hb' := hide hb
  clear ha hb
  go_enter Tryz.func37, Tryz.ntmps37
  go_wp2_with (go_at_call 69; refine (impl_residue _ _ (by first | exact ha'.out | exact hb'.out)).mono ?_; rintro e w' ⟨rfl, rfl⟩)
  go_ret
  exact ⟨ret_int (minus_eq a b), rfl⟩

theorem spec_Minus (a b : Int) (w : World) (ha : R64 a) (hb : R64 b) :
    Calls Tryz.prog 25 #[.int .i64 a, .int .i64 b] w fun e w' => e = .returned (.int .i64 (minusF a b)) ∧ w = w' := by
  have hA := resF_bd a
  have hB := resF_bd b
  have ha' := hide ha
  have hb' := hide hb
  have hF := hide (minus_eq' a b)
  clear ha hb
  go_enter Tryz.func25, Tryz.ntmps25
  go_wp2_with (go_at_call 55; refine (spec_l1Residue _ _ (by first | exact ha'.out | exact hb'.out | (constructor <;> omega))).mono ?_; rintro e w' ⟨rfl, rfl⟩)
  go_ret
  exact ⟨ret_int hF.out, rfl⟩

theorem impl_Times (a b : Int) (w : World) (ha : R64 a) (hb : R64 b) :
    Calls Tryz.prog 39 #[.int .i64 a, .int .i64 b] w fun e w' => e = .returned (.int .i64 (timesF a b)) ∧ w = w' := by
  have hA := resF_bd a
  have hB := resF_bd b
  have hm := mul_bd hA.1 hA.2 hB.1 hB.2
  have ha' := hide ha
  have hb' := hide hb
  clear ha hb
  go_enter Tryz.func39, Tryz.ntmps39
  go_wp2_with (go_at_call 69; refine (impl_residue _ _ (by first | exact ha'.out | exact hb'.out)).mono ?_; rintro e w' ⟨rfl, rfl⟩)
  go_ret
  exact ⟨ret_int (times_eq a b), rfl⟩

theorem spec_Times (a b : Int) (w : World) (ha : R64 a) (hb : R64 b) :
    Calls Tryz.prog 27 #[.int .i64 a, .int .i64 b] w fun e w' => e = .returned (.int .i64 (timesF a b)) ∧ w = w' := by
  have hA := resF_bd a
  have hB := resF_bd b
  have hm := mul_bd hA.1 hA.2 hB.1 hB.2
  have ha' := hide ha
  have hb' := hide hb
  clear ha hb
  go_enter Tryz.func27, Tryz.ntmps27
  go_wp2_with (go_at_call 55; refine (spec_l1Residue _ _ (by first | exact ha'.out | exact hb'.out)).mono ?_; rintro e w' ⟨rfl, rfl⟩)
  go_ret
  exact ⟨ret_int (times_eq a b), rfl⟩

theorem spec_Times_one (a : Int) (w : World) (ha : R64 a) :
    Calls Tryz.prog 27 #[.int .i64 a, .int .i64 1] w fun e w' => e = .returned (.int .i64 (resF a)) ∧ w = w' :=
  (spec_Times a 1 w ha (by constructor <;> omega)).mono fun e w' h => by rw [timesF_one] at h; exact h

theorem impl_Power (a k : Int) (w : World) (ha : R64 a) (hk : R64 k) :
    Calls Tryz.prog 64 #[.int .i64 a, .int .i64 k] w fun e w' => e = .returned (.int .i64 (powF a k)) ∧ w = w' := by
  have hA := resF_bd a
  have ha' := hide ha
  obtain ⟨hk1, hk2⟩ := hk
  clear ha
  by_cases hneg : k < 0
  · have hF := hide (powF_neg (a := a) hneg)
    go_enter Tryz.func64, Tryz.ntmps64
    go_wp2
    go_ret
    exact ⟨ret_int hF.out.symm, rfl⟩
  · have hF := hide (powF_start (a := a) (k := k) (by omega))
    go_enter Tryz.func64, Tryz.ntmps64
    go_wp2_with (go_at_call 69; refine (impl_residue _ _ ha'.out).mono ?_; rintro e w' ⟨rfl, rfl⟩)
    go_loop [1, 5, 6] (fun j o x => ∃ (k' o' x' : Int), j = .int .i64 k' ∧ o = .int .i64 o' ∧ x = .int .i64 x' ∧ 0 ≤ k' ∧ k' ≤ k ∧ 0 ≤ o' ∧ o' < 1000000271 ∧ 0 ≤ x' ∧ x' < 1000000271 ∧ Hid (powF a k = (o' * x' ^ k'.toNat) % 1000000271)) (fun j _ _ => (intOf j).toNat)
    case atStart => exact ⟨k, 1, resF a, rfl, rfl, rfl, by omega, by omega, by omega, by omega, hA.1, hA.2, hF⟩
    case round =>
      obtain ⟨k', o', x', rfl, rfl, rfl, h0, h1, h2, h3, h4, h5, hr⟩ := hrel
      have hm := mul_bd h2 h3 h4 h5
      have hm2 := mul_bd h4 h5 h4 h5
      have hq : 0 ≤ o' * x' % 1000000271 ∧ o' * x' % 1000000271 < 1000000271 := by omega
      have hq2 : 0 ≤ x' * x' % 1000000271 ∧ x' * x' % 1000000271 < 1000000271 := by omega
      by_cases hpos : 0 < k'
      · by_cases hodd : k' % 2 = 1
        · have hs := hide (pow_odd (o := o') (x := x') h0 hodd)
          have hob : (k' % 2 == 1) = true := by simpa using hodd
          clear hodd
          go_wp2
          go_round
          case rel => exact ⟨_, _, _, rfl, rfl, rfl, by omega, by omega, hq.1, hq.2, hq2.1, hq2.2, hr.out.trans hs.out⟩
          case measure => simp [intOf]; omega
        · have hev : k' % 2 = 0 := by omega
          have hs := hide (pow_even (o := o') (x := x') h0 hev)
          have hob : (k' % 2 == 1) = false := by simpa using hodd
          clear hodd hev
          go_wp2
          go_round
          case rel => exact ⟨_, _, _, rfl, rfl, rfl, by omega, by omega, h2, h3, hq2.1, hq2.2, hr.out.trans hs.out⟩
          case measure => simp [intOf]; omega
      · obtain rfl : k' = 0 := by omega
        have hs := hide (pow_stop (o := o') (x := x') h2 h3)
        go_wp2
        go_ret
        exact ⟨ret_int (hr.out.trans hs.out).symm, rfl⟩

theorem spec_Power (a k : Int) (w : World) (ha : R64 a) (hk : R64 k) :
    Calls Tryz.prog 75 #[.int .i64 a, .int .i64 k] w fun e w' => e = .returned (.int .i64 (powF a k)) ∧ w = w' := by
  have hA := resF_bd a
  have ha' := hide ha
  obtain ⟨hk1, hk2⟩ := hk
  clear ha
  by_cases hneg : k < 0
  · have hF := hide (powF_neg (a := a) hneg)
    go_enter Tryz.func75, Tryz.ntmps75
    go_wp2
    go_ret
    exact ⟨ret_int hF.out.symm, rfl⟩
  · have hF := hide (powF_start (a := a) (k := k) (by omega))
    go_enter Tryz.func75, Tryz.ntmps75
    go_wp2_with (go_at_call 55; refine (spec_l1Residue _ _ ha'.out).mono ?_; rintro e w' ⟨rfl, rfl⟩)
    go_loop [5, 6, 7] (fun o x j => ∃ (k' o' x' : Int), j = .int .i64 k' ∧ o = .int .i64 o' ∧ x = .int .i64 x' ∧ 0 ≤ k' ∧ k' ≤ k ∧ 0 ≤ o' ∧ o' < 1000000271 ∧ 0 ≤ x' ∧ x' < 1000000271 ∧ Hid (powF a k = (o' * x' ^ k'.toNat) % 1000000271)) (fun _ _ j => (intOf j).toNat)
    case atStart => exact ⟨k, 1, resF a, rfl, rfl, rfl, by omega, by omega, by omega, by omega, hA.1, hA.2, hF⟩
    case round =>
      obtain ⟨k', o', x', rfl, rfl, rfl, h0, h1, h2, h3, h4, h5, hr⟩ := hrel
      have hq := timesF_bd o' x'
      have hq2 := timesF_bd x' x'
      by_cases hpos : 0 < k'
      · by_cases hodd : k' % 2 = 1
        · have hs := hide (pow_odd (o := o') (x := x') h0 hodd)
          have hob : (k' % 2 == 1) = true := by simpa using hodd
          clear hodd
          go_wp2_with (go_at_call 27; refine (spec_Times _ _ _ (by constructor <;> omega) (by constructor <;> omega)).mono ?_; rintro e w' ⟨rfl, rfl⟩)
          go_round
          case rel => exact ⟨_, _, _, rfl, rfl, rfl, by omega, by omega, hq.1, hq.2, hq2.1, hq2.2, hr.out.trans hs.out⟩
          case measure => simp [intOf]; omega
        · have hev : k' % 2 = 0 := by omega
          have hs := hide (pow_even (o := o') (x := x') h0 hev)
          have hob : (k' % 2 == 1) = false := by simpa using hodd
          clear hodd hev
          go_wp2_with (go_at_call 27; refine (spec_Times _ _ _ (by constructor <;> omega) (by constructor <;> omega)).mono ?_; rintro e w' ⟨rfl, rfl⟩)
          go_round
          case rel => exact ⟨_, _, _, rfl, rfl, rfl, by omega, by omega, h2, h3, hq2.1, hq2.2, hr.out.trans hs.out⟩
          case measure => simp [intOf]; omega
      · obtain rfl : k' = 0 := by omega
        have hs := hide (pow_stop (o := o') (x := x') h2 h3)
        go_wp2
        go_ret
        exact ⟨ret_int (hr.out.trans hs.out).symm, rfl⟩

theorem impl_Inverse (a : Int) (w : World) (ha : R64 a) :
    Calls Tryz.prog 70 #[.int .i64 a] w fun e w' => e = .returned (.int .i64 (invF a)) ∧ w = w' := by
  have ha' := hide ha
  clear ha
  go_enter Tryz.func70, Tryz.ntmps70
  go_wp2_with (go_at_call 64; refine (impl_Power _ _ _ ha'.out (by constructor <;> omega)).mono ?_; rintro e w' ⟨rfl, rfl⟩)
  go_ret
  exact ⟨ret_int rfl, rfl⟩
theorem impl_Fraction (a b : Int) (w : World) (ha : R64 a) (hb : R64 b) :
    Calls Tryz.prog 38 #[.int .i64 a, .int .i64 b] w fun e w' => e = .returned (.int .i64 (fracF a b)) ∧ w = w' := by
  have ha' := hide ha
  have hb' := hide hb
  have hi := invF_bd b
  clear ha hb
  go_enter Tryz.func38, Tryz.ntmps38
  go_wp2_with (first
    | (go_at_call 70; refine (impl_Inverse _ _ hb'.out).mono ?_; rintro e w' ⟨rfl, rfl⟩)
    | (go_at_call 39; refine (impl_Times _ _ _ ha'.out (by constructor <;> omega)).mono ?_; rintro e w' ⟨rfl, rfl⟩))
  go_ret
  exact ⟨ret_int rfl, rfl⟩

theorem spec_Inverse (a : Int) (w : World) (ha : R64 a) :
    Calls Tryz.prog 56 #[.int .i64 a] w fun e w' => e = .returned (.int .i64 (invF a)) ∧ w = w' := by
  have ha' := hide ha
  clear ha
  go_enter Tryz.func56, Tryz.ntmps56
  go_wp2_with (go_at_call 75; refine (spec_Power _ _ _ ha'.out (by constructor <;> omega)).mono ?_; rintro e w' ⟨rfl, rfl⟩)
  go_ret
  exact ⟨ret_int rfl, rfl⟩
theorem spec_Fraction (a b : Int) (w : World) (ha : R64 a) (hb : R64 b) :
    Calls Tryz.prog 26 #[.int .i64 a, .int .i64 b] w fun e w' => e = .returned (.int .i64 (fracF a b)) ∧ w = w' := by
  have ha' := hide ha
  have hb' := hide hb
  have hi := invF_bd b
  clear ha hb
  go_enter Tryz.func26, Tryz.ntmps26
  go_wp2_with (first
    | (go_at_call 56; refine (spec_Inverse _ _ hb'.out).mono ?_; rintro e w' ⟨rfl, rfl⟩)
    | (go_at_call 27; refine (spec_Times _ _ _ ha'.out (by constructor <;> omega)).mono ?_; rintro e w' ⟨rfl, rfl⟩))
  go_ret
  exact ⟨ret_int rfl, rfl⟩


end Go.Proofs.YtfijcieponfcpaaGreatDoor
