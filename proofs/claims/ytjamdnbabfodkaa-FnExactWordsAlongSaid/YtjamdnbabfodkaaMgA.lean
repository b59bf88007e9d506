/- Plain arithmetic of the residues by the prime 1000000271: no program in sight. -/
import Derived.Test.YtjamdnbabfodkaaBase
namespace Go.Proofs.Ytjamdnbabfodkaa
open Go.RowKit
set_option linter.unusedSimpArgs false
set_option linter.unusedVariables false
set_option maxRecDepth 20000

theorem tmod_bd (n : Int) : -1000000271 < n.tmod 1000000271 ∧ n.tmod 1000000271 < 1000000271 := by
  rcases Int.le_total 0 n with h | h
  · rw [Int.tmod_eq_emod_of_nonneg h]; omega
  · obtain ⟨m, rfl⟩ : ∃ m, n = -m := ⟨-n, by omega⟩
    rw [Int.neg_tmod, Int.tmod_eq_emod_of_nonneg (by omega)]; omega

def resF (n : Int) : Int := n % 1000000271
theorem resF_bd (n : Int) : 0 ≤ resF n ∧ resF n < 1000000271 := by unfold resF; omega
theorem resF_of {n : Int} (h0 : 0 ≤ n) (h1 : n < 1000000271) : resF n = n := by unfold resF; omega

theorem res_eq (n : Int) : (n.tmod 1000000271 + 1000000271).tmod 1000000271 = resF n := by
  unfold resF
  rw [Int.tmod_eq_emod_of_nonneg (by have := tmod_bd n; omega)]
  rcases Int.le_total 0 n with h | h
  · rw [Int.tmod_eq_emod_of_nonneg h]; omega
  · obtain ⟨m, rfl⟩ : ∃ m, n = -m := ⟨-n, by omega⟩
    rw [Int.neg_tmod, Int.tmod_eq_emod_of_nonneg (by omega)]; omega

theorem res_eq' (n : Int) : (n.tmod 1000000271 + 1000000271) % 1000000271 = resF n := by
  rw [← res_eq, Int.tmod_eq_emod_of_nonneg (a := n.tmod 1000000271 + 1000000271) (by have := tmod_bd n; omega)]

def plusF (a b : Int) : Int := (a + b) % 1000000271
def minusF (a b : Int) : Int := (a - b) % 1000000271
def timesF (a b : Int) : Int := (a * b) % 1000000271
theorem plusF_bd (a b : Int) : 0 ≤ plusF a b ∧ plusF a b < 1000000271 := by unfold plusF; omega
theorem minusF_bd (a b : Int) : 0 ≤ minusF a b ∧ minusF a b < 1000000271 := by unfold minusF; omega
theorem timesF_bd (a b : Int) : 0 ≤ timesF a b ∧ timesF a b < 1000000271 := ⟨Int.emod_nonneg _ (by omega), Int.emod_lt_of_pos _ (by omega)⟩
theorem plus_eq (a b : Int) : (resF a + resF b) % 1000000271 = plusF a b := by unfold resF plusF; omega
theorem minus_eq (a b : Int) : (resF a - resF b + 1000000271) % 1000000271 = minusF a b := by unfold resF minusF; omega
theorem minus_eq' (a b : Int) : resF (resF a - resF b) = minusF a b := by unfold resF minusF; omega
theorem times_eq (a b : Int) : (resF a * resF b) % 1000000271 = timesF a b := by unfold resF timesF; rw [← Int.mul_emod]
theorem mul_bd {a b : Int} (ha : 0 ≤ a) (ha' : a < 1000000271) (hb : 0 ≤ b) (hb' : b < 1000000271) : 0 ≤ a * b ∧ a * b ≤ 1000000542000073441 := by
  refine ⟨Int.mul_nonneg ha hb, ?_⟩
  have h1 : a * b ≤ 1000000271 * b := Int.mul_le_mul_of_nonneg_right (by omega) hb
  omega

theorem timesF_res_l (a b : Int) : timesF (resF a) b = timesF a b := by unfold resF timesF; rw [Int.mul_emod, Int.emod_emod_of_dvd _ (by omega), ← Int.mul_emod]
theorem timesF_res_r (a b : Int) : timesF a (resF b) = timesF a b := by unfold resF timesF; rw [Int.mul_emod, Int.emod_emod_of_dvd _ (by omega), ← Int.mul_emod]
theorem timesF_comm (a b : Int) : timesF a b = timesF b a := by unfold timesF; rw [Int.mul_comm]
theorem timesF_one (a : Int) : timesF a 1 = resF a := by unfold timesF resF; rw [Int.mul_one]
theorem timesF_one' (a : Int) : timesF 1 a = resF a := by unfold timesF resF; rw [Int.one_mul]
theorem timesF_zero (a : Int) : timesF a 0 = 0 := by unfold timesF; simp
theorem timesF_zero' (a : Int) : timesF 0 a = 0 := by unfold timesF; simp
theorem plusF_zero (a : Int) : plusF 0 a = resF a := by unfold plusF resF; simp
theorem plusF_zero' (a : Int) : plusF a 0 = resF a := by unfold plusF resF; simp
theorem resF_res (a : Int) : resF (resF a) = resF a := by unfold resF; omega

theorem pow_mod (a : Int) (n : Nat) : (a % 1000000271) ^ n % 1000000271 = a ^ n % 1000000271 := by
  induction n with
  | zero => simp
  | succ n ih => rw [Int.pow_succ, Int.pow_succ, Int.mul_emod, ih, Int.emod_emod_of_dvd _ (by omega), ← Int.mul_emod]

@[irreducible] def powF (a k : Int) : Int := if k < 0 then 0 else a ^ k.toNat % 1000000271
theorem powF_bd (a k : Int) : 0 ≤ powF a k ∧ powF a k < 1000000271 := by
  unfold powF
  split
  · omega
  · exact ⟨Int.emod_nonneg _ (by omega), Int.emod_lt_of_pos _ (by omega)⟩
theorem powF_neg {a k : Int} (h : k < 0) : powF a k = 0 := by unfold powF; rw [if_pos h]
theorem powF_res (a k : Int) : powF (resF a) k = powF a k := by
  unfold powF resF
  split
  · rfl
  · exact pow_mod _ _
theorem powF_start {a k : Int} (h : 0 ≤ k) : powF a k = (1 * resF a ^ k.toNat) % 1000000271 := by
  unfold powF resF
  rw [if_neg (by omega), Int.one_mul, pow_mod]
theorem pow_odd {o x k : Int} (h : 0 ≤ k) (h2 : k % 2 = 1) : (o * x ^ k.toNat) % 1000000271 = ((o * x % 1000000271) * (x * x % 1000000271) ^ (k / 2).toNat) % 1000000271 := by
  have e : k.toNat = 2 * (k / 2).toNat + 1 := by omega
  rw [Int.mul_emod (o * x % 1000000271), pow_mod, Int.emod_emod_of_dvd _ (by omega), ← Int.mul_emod, e, Int.pow_succ, Int.pow_mul]
  congr 1
  rw [show x ^ 2 = x * x from by rw [Int.pow_succ, Int.pow_succ, Int.pow_zero, Int.one_mul]]
  rw [Int.mul_assoc, Int.mul_comm x ((x * x) ^ _)]
theorem pow_even {o x k : Int} (h : 0 ≤ k) (h2 : k % 2 = 0) : (o * x ^ k.toNat) % 1000000271 = (o * (x * x % 1000000271) ^ (k / 2).toNat) % 1000000271 := by
  have e : k.toNat = 2 * (k / 2).toNat := by omega
  rw [Int.mul_emod o ((x * x % 1000000271) ^ _), pow_mod, ← Int.mul_emod, e, Int.pow_mul]
  congr 1
  rw [show x ^ 2 = x * x from by rw [Int.pow_succ, Int.pow_succ, Int.pow_zero, Int.one_mul]]
theorem pow_stop {o x : Int} (h0 : 0 ≤ o) (h1 : o < 1000000271) : (o * x ^ (0 : Int).toNat) % 1000000271 = o := by
  simp only [Int.toNat_zero, Int.pow_zero, Int.mul_one]
  exact Int.emod_eq_of_lt h0 h1

def invF (a : Int) : Int := powF a 1000000269
def fracF (a b : Int) : Int := timesF a (invF b)
theorem invF_bd (a : Int) : 0 ≤ invF a ∧ invF a < 1000000271 := powF_bd _ _
theorem fracF_bd (a b : Int) : 0 ≤ fracF a b ∧ fracF a b < 1000000271 := timesF_bd _ _
theorem fracF_one (b : Int) : fracF 1 b = invF b := by unfold fracF; rw [timesF_one']; exact resF_of (invF_bd b).1 (invF_bd b).2
theorem invF_res (a : Int) : invF (resF a) = invF a := powF_res _ _
theorem fracF_res_l (a b : Int) : fracF (resF a) b = fracF a b := timesF_res_l _ _
theorem fracF_res_r (a b : Int) : fracF a (resF b) = fracF a b := by unfold fracF; rw [invF_res]
def cbrtF (a : Int) : Int := powF a 666666847
def jumpF : Int := invF (minusF 2 (cbrtF 2))
def isNumF (n : Int) : Bool := decide (0 ≤ n) && decide (n < 1000000271)
theorem isNumF_iff (n : Int) : isNumF n = true ↔ 0 ≤ n ∧ n < 1000000271 := by simp [isNumF]
end Go.Proofs.Ytjamdnbabfodkaa
/- The walks of the number functions, of the program and of the reference: each returns the plain function of NumLaws. -/
namespace Go.Proofs.Ytjamdnbabfodkaa
open Go.RowKit
set_option linter.unusedSimpArgs false
set_option linter.unusedVariables false
set_option maxRecDepth 20000

theorem spec_l1In (n lo hi : Int) (w : World) :
    Calls Try.prog 48 #[.int .i64 n, .int .i64 lo, .int .i64 hi] w fun e w' => e = .returned (.bool (decide (lo ≤ n) && decide (n ≤ hi))) ∧ w = w' := by
  by_cases h0 : lo ≤ n
  · by_cases h1 : n ≤ hi
    · go_enter Try.func48, Try.ntmps48
      go_wp2
      go_ret
      exact ⟨by simp [h0, h1], rfl⟩
    · go_enter Try.func48, Try.ntmps48
      go_wp2
      go_ret
      exact ⟨by simp [h1], rfl⟩
  · go_enter Try.func48, Try.ntmps48
    go_wp2
    go_ret
    exact ⟨ret_bool (by simp; omega), rfl⟩

theorem impl_IsNumber (n : Int) (w : World) :
    Calls Try.prog 78 #[.int .i64 n] w fun e w' => e = .returned (.bool (isNumF n)) ∧ w = w' := by
  by_cases h0 : 0 ≤ n
  · by_cases h1 : n < 1000000271
    · go_enter Try.func78, Try.ntmps78
      go_wp2
      go_ret
      exact ⟨by simp [isNumF, h0, h1], rfl⟩
    · go_enter Try.func78, Try.ntmps78
      go_wp2
      go_ret
      exact ⟨by simp [isNumF, h1], rfl⟩
  · go_enter Try.func78, Try.ntmps78
    go_wp2
    go_ret
    exact ⟨ret_bool (by simp [isNumF]; omega), rfl⟩

theorem spec_IsNumber (n : Int) (w : World) :
    Calls Try.prog 74 #[.int .i64 n] w fun e w' => e = .returned (.bool (isNumF n)) ∧ w = w' := by
  have hF : Hid ((decide (0 ≤ n) && decide (n ≤ 1000000270)) = isNumF n) := by
    show _ = _
    rw [Bool.eq_iff_iff]; simp [isNumF]; omega
  go_enter Try.func74, Try.ntmps74
  go_wp2_with (go_at_call 48; refine (spec_l1In _ _ _ _).mono ?_; rintro e w' ⟨rfl, rfl⟩)
  go_ret
  exact ⟨ret_bool hF.out, rfl⟩

theorem impl_residue (n : Int) (w : World) (h : R64 n) :
    Calls Try.prog 69 #[.int .i64 n] w fun e w' => e = .returned (.int .i64 (resF n)) ∧ w = w' := by
  have hb := tmod_bd n
  have hF := hide (res_eq' n)
  obtain ⟨h1, h2⟩ := h
  go_enter Try.func69, Try.ntmps69
  go_wp2
  go_ret
  exact ⟨ret_int (by rw [← hF.out]), rfl⟩

theorem spec_l1Residue (n : Int) (w : World) (h : R64 n) :
    Calls Try.prog 57 #[.int .i64 n] w fun e w' => e = .returned (.int .i64 (resF n)) ∧ w = w' := by
  have hb := tmod_bd n
  have hF := hide (res_eq' n)
  obtain ⟨h1, h2⟩ := h
  go_enter Try.func57, Try.ntmps57
  go_wp2
  go_ret
  exact ⟨ret_int (by rw [← hF.out]), rfl⟩

theorem impl_Plus (a b : Int) (w : World) (ha : R64 a) (hb : R64 b) :
    Calls Try.prog 41 #[.int .i64 a, .int .i64 b] w fun e w' => e = .returned (.int .i64 (plusF a b)) ∧ w = w' := by
  have hA := resF_bd a
  have hB := resF_bd b
  have ha' := hide ha
  have hb' := hide hb
  clear ha hb
  go_enter Try.func41, Try.ntmps41
  go_wp2_with (go_at_call 69; refine (impl_residue _ _ (by first | exact ha'.out | exact hb'.out)).mono ?_; rintro e w' ⟨rfl, rfl⟩)
  go_ret
  exact ⟨ret_int (plus_eq a b), rfl⟩

theorem spec_Plus (a b : Int) (w : World) (ha : R64 a) (hb : R64 b) :
    Calls Try.prog 31 #[.int .i64 a, .int .i64 b] w fun e w' => e = .returned (.int .i64 (plusF a b)) ∧ w = w' := by
  have hA := resF_bd a
  have hB := resF_bd b
  have ha' := hide ha
  have hb' := hide hb
  clear ha hb
  go_enter Try.func31, Try.ntmps31
  go_wp2_with (go_at_call 57; refine (spec_l1Residue _ _ (by first | exact ha'.out | exact hb'.out)).mono ?_; rintro e w' ⟨rfl, rfl⟩)
  go_ret
  exact ⟨ret_int (plus_eq a b), rfl⟩

theorem impl_Times (a b : Int) (w : World) (ha : R64 a) (hb : R64 b) :
    Calls Try.prog 42 #[.int .i64 a, .int .i64 b] w fun e w' => e = .returned (.int .i64 (timesF a b)) ∧ w = w' := by
  have hA := resF_bd a
  have hB := resF_bd b
  have hm := mul_bd hA.1 hA.2 hB.1 hB.2
  have ha' := hide ha
  have hb' := hide hb
  clear ha hb
  go_enter Try.func42, Try.ntmps42
  go_wp2_with (go_at_call 69; refine (impl_residue _ _ (by first | exact ha'.out | exact hb'.out)).mono ?_; rintro e w' ⟨rfl, rfl⟩)
  go_ret
  exact ⟨ret_int (times_eq a b), rfl⟩

theorem spec_Times (a b : Int) (w : World) (ha : R64 a) (hb : R64 b) :
    Calls Try.prog 32 #[.int .i64 a, .int .i64 b] w fun e w' => e = .returned (.int .i64 (timesF a b)) ∧ w = w' := by
  have hA := resF_bd a
  have hB := resF_bd b
  have hm := mul_bd hA.1 hA.2 hB.1 hB.2
  have ha' := hide ha
  have hb' := hide hb
  clear ha hb
  go_enter Try.func32, Try.ntmps32
  go_wp2_with (go_at_call 57; refine (spec_l1Residue _ _ (by first | exact ha'.out | exact hb'.out)).mono ?_; rintro e w' ⟨rfl, rfl⟩)
  go_ret
  exact ⟨ret_int (times_eq a b), rfl⟩

theorem spec_Times_one (a : Int) (w : World) (ha : R64 a) :
    Calls Try.prog 32 #[.int .i64 a, .int .i64 1] w fun e w' => e = .returned (.int .i64 (resF a)) ∧ w = w' :=
  (spec_Times a 1 w ha (by constructor <;> omega)).mono fun e w' h => by rw [timesF_one] at h; exact h

theorem impl_Power (a k : Int) (w : World) (ha : R64 a) (hk : R64 k) :
    Calls Try.prog 70 #[.int .i64 a, .int .i64 k] w fun e w' => e = .returned (.int .i64 (powF a k)) ∧ w = w' := by
  have hA := resF_bd a
  have ha' := hide ha
  obtain ⟨hk1, hk2⟩ := hk
  clear ha
  by_cases hneg : k < 0
  · have hF := hide (powF_neg (a := a) hneg)
    go_enter Try.func70, Try.ntmps70
    go_wp2
    go_ret
    exact ⟨ret_int hF.out.symm, rfl⟩
  · have hF := hide (powF_start (a := a) (k := k) (by omega))
    go_enter Try.func70, Try.ntmps70
    go_wp2_with (go_at_call 69; refine (impl_residue _ _ ha'.out).mono ?_; rintro e w' ⟨rfl, rfl⟩)
    go_loop [1, 5, 6] (fun j o x => ∃ (k' o' x' : Int), j = .int .i64 k' ∧ o = .int .i64 o' ∧ x = .int .i64 x' ∧ 0 ≤ k' ∧ k' ≤ k ∧ 0 ≤ o' ∧ o' < 1000000271 ∧ 0 ≤ x' ∧ x' < 1000000271 ∧ Hid (powF a k = (o' * x' ^ k'.toNat) % 1000000271)) (fun j _ _ => (intOf j).toNat)
    case atStart => exact ⟨k, 1, resF a, rfl, rfl, rfl, by omega, by omega, by omega, by omega, hA.1, hA.2, hF⟩
    case round =>
      obtain ⟨k', o', x', rfl, rfl, rfl, h0, h1, h2, h3, h4, h5, hr⟩ := hrel
      have hm := mul_bd h2 h3 h4 h5
      have hm2 := mul_bd h4 h5 h4 h5
      have hq : 0 ≤ o' * x' % 1000000271 ∧ o' * x' % 1000000271 < 1000000271 := by omega
      have hq2 : 0 ≤ x' * x' % 1000000271 ∧ x' * x' % 1000000271 < 1000000271 := by omega
      by_cases hpos : 0 < k'
      · by_cases hodd : k' % 2 = 1
        · have hs := hide (pow_odd (o := o') (x := x') h0 hodd)
          have hob : (k' % 2 == 1) = true := by simpa using hodd
          clear hodd
          go_wp2
          go_round
          case rel => exact ⟨_, _, _, rfl, rfl, rfl, by omega, by omega, hq.1, hq.2, hq2.1, hq2.2, hr.out.trans hs.out⟩
          case measure => simp [intOf]; omega
        · have hev : k' % 2 = 0 := by omega
          have hs := hide (pow_even (o := o') (x := x') h0 hev)
          have hob : (k' % 2 == 1) = false := by simpa using hodd
          clear hodd hev
          go_wp2
          go_round
          case rel => exact ⟨_, _, _, rfl, rfl, rfl, by omega, by omega, h2, h3, hq2.1, hq2.2, hr.out.trans hs.out⟩
          case measure => simp [intOf]; omega
      · obtain rfl : k' = 0 := by omega
        have hs := hide (pow_stop (o := o') (x := x') h2 h3)
        go_wp2
        go_ret
        exact ⟨ret_int (hr.out.trans hs.out).symm, rfl⟩

def isLetterF (n : Int) : Bool := decide (0 ≤ n) && decide (n ≤ 1)
theorem isLetterF_iff (n : Int) : isLetterF n = true ↔ 0 ≤ n ∧ n ≤ 1 := by simp [isLetterF]

theorem impl_isLetter (n : Int) (w : World) :
    Calls Try.prog 68 #[.int .i64 n] w fun e w' => e = .returned (.bool (isLetterF n)) ∧ w = w' := by
  by_cases h0 : n = 0
  · subst h0
    go_enter Try.func68, Try.ntmps68
    go_wp2
    go_ret
    exact ⟨rfl, rfl⟩
  · have hF : Hid ((n == 1) = isLetterF n) := by show _ = _; rw [Bool.eq_iff_iff]; simp [isLetterF]; omega
    go_enter Try.func68, Try.ntmps68
    go_wp2
    go_ret
    exact ⟨ret_bool (by rw [← hF.out]; simp [h0]), rfl⟩
end Go.Proofs.Ytjamdnbabfodkaa
/- The walks of the statements' own helpers on slices of integers: a copy, a comparison, a mark, a look at the marks, a count. -/
namespace Go.Proofs.Ytjamdnbabfodkaa
open Go.RowKit
set_option linter.unusedSimpArgs false
set_option linter.unusedVariables false
set_option maxRecDepth 20000

theorem take_set_step {ys xs : List Int} {k : Nat} {x : Int} (h : ys.take k = xs.take k) (hk : k < ys.length) (hx : xs[k]? = some x) : (ys.set k x).take (k+1) = xs.take (k+1) := by
  have h1 : (ys.set k x).take k = xs.take k := by rw [List.take_set_of_le (Nat.le_refl _), h]
  rw [List.take_add_one, List.take_add_one, h1, hx, List.getElem?_set_self hk]

set_option maxHeartbeats 400000 in
theorem laws_toIntS (A : Option Addr) (n c : Nat) (xs : List Int) (lo hi : Nat) (w : World) (h : Ints w lo hi A n c xs) (hh : hi ≤ w.heap.size) (hn : n ≤ 1048576) :
    Calls Try.prog 9 #[.slice A n c] w fun e w' => ∃ A' c', e = .returned (.slice A' n c') ∧ OwnI w' w.heap.size w'.heap.size A' n c' xs ∧ Below w.heap.size w w' := by
  obtain ⟨i0, hi0, hz0, hz1, hz2⟩ := info_parts info_int
  have hcp := h.cap
  have hm := h.max
  go_enter Try.func9, Try.ntmps9
  go_wp2_with (at_make; refine wpList_make_full _ rfl _ _ 22 rfl w.heap.size 3 i0 (.int .i64 0) 1 Try.underlying22 hi0 hz0 hz1 .i64 .i64 n n n rfl rfl rfl rfl (by rw [hz2]; omega) (by unfold maxLen; omega) (Nat.le_refl _) ?_; intro w1 hown hg1)
  have hs1 : w.heap.size < w1.heap.size := (hown.lt w.heap.size rfl).2
  have hb1 : Below w.heap.size w w1 := (Below.refl _ _).grown hg1 (Nat.le_refl _) (by simp)
  clear hg1
  go_loopw [4] (fun i wr => ∃ (k : Nat) (ys : List Int), k ≤ n ∧ i = .int .i64 k ∧ wr.ownsRow w.heap.size 3 1 (.slice (some ⟨w.heap.size, 0, none⟩) n n) n (ys.map (Value.int .i64)) ∧ Below w.heap.size w wr ∧ w.heap.size < wr.heap.size ∧ Hid (ys.length = n ∧ ys.take k = xs.take k))
    (fun i _ => n - (intOf i).toNat)
  case atStart => exact ⟨0, List.replicate n 0, by omega, rfl, by rw [← made_int]; exact hown, hb1, hs1, by simp, by simp⟩
  case round =>
    obtain ⟨k, ys, hk, rfl, hown', hb', hs', hys⟩ := hrel
    by_cases hlt : k < n
    · obtain ⟨ad, x, rfl, hc, hr, _, hx⟩ := (h.below hb' hh).at_ hlt
      have hc2 : wr.cell? ⟨w.heap.size, k, none⟩ = some (.int .i64 (ys.getD k 0)) := by
        rw [hown'.cellAt k (by omega)]
        have := hys.out.1
        simp [List.getD, show k < ys.length by omega]
      have hf2 := hown'.frozenAt k
      have hst := hown'.stored k (.int .i64 x)
      have hb2 : Below w.heap.size w (wr.setCell ⟨w.heap.size, k, none⟩ (.int .i64 x)) := hb'.setCell (Nat.le_refl _) _
      have hs2 : w.heap.size < (wr.setCell ⟨w.heap.size, k, none⟩ (.int .i64 x)).heap.size := by simpa [World.setCell] using hs'
      have hrel' : Hid ((ys.set k x).length = n ∧ (ys.set k x).take (k+1) = xs.take (k+1)) :=
        ⟨by simpa using hys.out.1, take_set_step hys.out.2 (by have := hys.out.1; omega) hx.out⟩
      have HS := hide (And.intro hst.1 (And.intro hb2 hs2))
      clear hst hb2 hs2 hown' hb' hs' hr
      go_wp2
      go_roundw
      case rel => exact ⟨k + 1, ys.set k x, by omega, by go_num, by simpa [List.map_set] using HS.out.1, HS.out.2.1, HS.out.2.2, hrel'⟩
      case measure => simp [intOf]; omega
    · obtain rfl : k = n := by omega
      go_wp2
      go_ret
      have e : ys = xs := by
        have h1 := hys.out
        have h2 := h.len
        rw [List.take_of_length_le (by omega), List.take_of_length_le (by omega)] at h1
        exact h1.2
      subst e
      exact ⟨_, _, rfl, ⟨hown', fun ad e => by injection e with e; subst e; exact hs', h.rng⟩, hb'⟩

theorem take_snoc_eq {xs ys : List Int} {k : Nat} {x : Int} (h : xs.take k = ys.take k) (hx : xs[k]? = some x) (hy : ys[k]? = some x) : xs.take (k+1) = ys.take (k+1) := by
  rw [List.take_add_one, List.take_add_one, h, hx, hy]

set_option maxHeartbeats 400000 in
theorem laws_eqIntS (A : Option Addr) (n c : Nat) (xs : List Int) (lo hi : Nat) (B : Option Addr) (m d : Nat) (ys : List Int) (lo' hi' : Nat) (w : World) (h : Ints w lo hi A n c xs) (g : Ints w lo' hi' B m d ys) :
    Calls Try.prog 14 #[.slice A n c, .slice B m d] w fun e w' => e = .returned (.bool (decide (xs = ys))) ∧ ∃ q, w' = w.drewN q := by
  have hcp := h.cap
  have hm := h.max
  have gcp := g.cap
  have gm := g.max
  by_cases hnm : n = m
  · subst hnm
    go_enter Try.func14, Try.ntmps14
    go_wp2
    go_loopw [5] (fun i wr => ∃ (k q : Nat), k ≤ n ∧ i = .int .i64 k ∧ wr = w.drewN q ∧ Hid (xs.take k = ys.take k)) (fun i _ => n - (intOf i).toNat)
    case atStart => exact ⟨0, 0, by omega, rfl, rfl, rfl⟩
    case round =>
      obtain ⟨k, q, hk, rfl, rfl, hr⟩ := hrel
      by_cases hlt : k < n
      · obtain ⟨ad, x, rfl, hc, _, _, hx⟩ := h.at_ hlt
        obtain ⟨ae, y, rfl, hd, _, _, hy⟩ := g.at_ hlt
        by_cases hxy : x = y
        · subst hxy
          go_wp2
          go_quiet (fail)
          go_wp2
          go_roundw
          case rel => exact ⟨k + 1, _, by omega, by go_num, rfl, take_snoc_eq hr.out hx.out hy.out⟩
          case measure => simp [intOf]; omega
        · have hne : (x != y) = true := by simpa using hxy
          have hF : Hid (¬ xs = ys) := fun e => by
            have h1 := hx.out
            rw [e, hy.out] at h1
            exact hxy (by injection h1 with h1; exact h1.symm)
          clear hxy
          go_wp2
          go_quiet (fail)
          go_wp2
          go_ret
          exact ⟨ret_bool (by simpa using hF.out), _, World.drewN_drewN _ _ _⟩
      · obtain rfl : k = n := by omega
        go_wp2
        go_ret
        refine ⟨ret_bool ?_, _, rfl⟩
        have h1 := hr.out
        have h2 := h.len
        have h3 := g.len
        rw [List.take_of_length_le (by omega), List.take_of_length_le (by omega)] at h1
        simpa using h1
  · have hne : ((n : Int) != (m : Int)) = true := by simpa using (by omega : ¬ (n : Int) = m)
    have hF : Hid (¬ xs = ys) := fun e => hnm (by rw [← h.len, ← g.len, e])
    clear hnm
    go_enter Try.func14, Try.ntmps14
    go_wp2
    go_ret
    exact ⟨ret_bool (by simpa using hF.out), 0, rfl⟩

def marks (k : Int) (n : Nat) : List Int := (List.range n).map (fun i : Nat => k + (i : Int))
theorem marks_len (k : Int) (n : Nat) : (marks k n).length = n := by simp [marks]
theorem marks_at {k : Int} {n j : Nat} (h : j < n) : (marks k n)[j]? = some (k + j) := by simp [marks, h]
theorem marks_rng {k : Int} {n : Nat} (h0 : 0 ≤ k) (h1 : k + n ≤ 4611686018427387904) : ∀ x ∈ marks k n, R64 x := by
  intro x hx
  simp only [marks, List.mem_map, List.mem_range] at hx
  obtain ⟨i, hi, rfl⟩ := hx
  constructor <;> omega

set_option maxHeartbeats 400000 in
theorem laws_markIntS (A : Option Addr) (n c : Nat) (xs : List Int) (lo hi : Nat) (k0 : Int) (w : World) (h : OwnI w lo hi A n c xs) (hk0 : 0 ≤ k0) (hk1 : k0 + n ≤ 4611686018427387904) :
    Calls Try.prog 17 #[.slice A n c, .int .i64 k0] w fun e w' => e = .returned (.int .i64 (k0 + n)) ∧ OwnI w' lo hi A n c (marks k0 n) ∧ Touch lo hi w w' ∧ w'.heap.size = w.heap.size := by
  have hcp := h.cap
  have hm := h.max
  have hrng := hide h.rng
  go_enter Try.func17, Try.ntmps17
  go_wp2
  go_loopw [1, 5] (fun q i wr => ∃ (k : Nat) (ys : List Int), k ≤ n ∧ i = .int .i64 k ∧ q = .int .i64 (k0 + k) ∧ wr.ownsRow lo 3 1 (.slice A n c) n (ys.map (Value.int .i64)) ∧ Touch lo hi w wr ∧ Hid (wr.heap.size = w.heap.size) ∧ Hid (ys.length = n ∧ ys.take k = (marks k0 n).take k))
    (fun _ i _ => n - (intOf i).toNat)
  case atStart => exact ⟨0, xs, by omega, rfl, by simp, h.own, .refl _ _ _, rfl, h.len, by simp⟩
  case round =>
    obtain ⟨k, ys, hk, rfl, rfl, hown', hb', hs', hys⟩ := hrel
    by_cases hlt : k < n
    · obtain ⟨g, rfl, hg1, hg2, hg3⟩ := h.form (by omega)
      have hc2 : wr.cell? ⟨g, k, none⟩ = some (.int .i64 (ys.getD k 0)) := by
        rw [hown'.cellAt k (by omega)]
        have := hys.out.1
        simp [List.getD, show k < ys.length by omega]
      have hf2 := hown'.frozenAt k
      have hst := hown'.stored k (.int .i64 (k0 + k))
      have hb2 : Touch lo hi w (wr.setCell ⟨g, k, none⟩ (.int .i64 (k0 + k))) := hb'.setCell (.inl ⟨hg1, hg2⟩) _
      have hs2 : (wr.setCell ⟨g, k, none⟩ (.int .i64 (k0 + k))).heap.size = w.heap.size := by simpa [World.setCell] using hs'.out
      have hrel' : Hid ((ys.set k (k0 + k)).length = n ∧ (ys.set k (k0 + k)).take (k+1) = (marks k0 n).take (k+1)) :=
        ⟨by simpa using hys.out.1, take_set_step hys.out.2 (by have := hys.out.1; omega) (marks_at hlt)⟩
      have HS := hide (And.intro hst.1 (And.intro hb2 hs2))
      clear hst hb2 hs2 hown' hb' hs'
      go_wp2
      go_roundw
      case rel => exact ⟨k + 1, ys.set k (k0 + k), by omega, by go_num, by go_num, by simpa [List.map_set] using HS.out.1, HS.out.2.1, HS.out.2.2, hrel'⟩
      case measure => simp [intOf]; omega
    · obtain rfl : k = n := by omega
      go_wp2
      go_ret
      have e : ys = marks k0 k := by
        have h1 := hys.out
        have h2 := marks_len k0 k
        rw [List.take_of_length_le (by omega), List.take_of_length_le (by omega)] at h1
        exact h1.2
      subst e
      exact ⟨rfl, ⟨hown', h.lt, marks_rng hk0 hk1⟩, hb', hs'.out⟩

set_option maxHeartbeats 400000 in
theorem laws_heldIntS (A : Option Addr) (n c : Nat) (lo hi : Nat) (k0 : Int) (w : World) (h : Ints w lo hi A n c (marks k0 n)) (hk0 : 0 ≤ k0) (hk1 : k0 + n ≤ 4611686018427387904) :
    Calls Try.prog 46 #[.slice A n c, .int .i64 k0] w fun e w' => e = .returned (.int .i64 (k0 + n)) ∧ w = w' := by
  have hcp := h.cap
  have hm := h.max
  go_enter Try.func46, Try.ntmps46
  go_wp2
  go_loop [1, 5] (fun q i => ∃ (k : Nat), k ≤ n ∧ i = .int .i64 k ∧ q = .int .i64 (k0 + k)) (fun _ i => n - (intOf i).toNat)
  case atStart => exact ⟨0, by omega, rfl, by simp⟩
  case round =>
    obtain ⟨k, hk, rfl, rfl⟩ := hrel
    by_cases hlt : k < n
    · obtain ⟨ad, x, rfl, hc, _, _, hx⟩ := h.at_ hlt
      have hx' := hx.out
      rw [marks_at hlt] at hx'
      obtain rfl : k0 + k = x := by injection hx'
      clear hx'
      go_wp2
      go_round
      case rel => exact ⟨k + 1, by omega, by go_num, by go_num⟩
      case measure => simp [intOf]; omega
    · obtain rfl : k = n := by omega
      go_wp2
      go_ret
      exact ⟨rfl, rfl⟩

def szF (n : Nat) (left : Int) : Int := if left - n < 0 then -1 else left - n
theorem laws_szIntS (A : Option Addr) (n c : Nat) (left : Int) (w : World) (hn : n ≤ 9223372036854775807) (h0 : 0 ≤ left) (h1 : left ≤ 1048576) :
    Calls Try.prog 20 #[.slice A n c, .int .i64 left] w fun e w' => e = .returned (.int .i64 (szF n left)) ∧ w = w' := by
  by_cases hlt : left - n < 0
  · have hF : Hid (szF n left = -1) := if_pos hlt
    go_enter Try.func20, Try.ntmps20
    go_wp2
    go_ret
    exact ⟨ret_int hF.out.symm, rfl⟩
  · have hF : Hid (szF n left = left - n) := if_neg hlt
    go_enter Try.func20, Try.ntmps20
    go_wp2
    go_ret
    exact ⟨ret_int hF.out.symm, rfl⟩

def allNumF : List Int → Bool
  | [] => true
  | x :: r => if isNumF x then allNumF r else false
theorem allNumF_mem {xs : List Int} (h : allNumF xs = true) : ∀ x ∈ xs, 0 ≤ x ∧ x < 1000000271 := by
  induction xs with
  | nil => simp
  | cons x r ih =>
    rw [allNumF] at h
    split at h
    · rename_i hx
      intro y hy
      rcases List.mem_cons.1 hy with rfl | hy
      · exact (isNumF_iff _).1 hx
      · exact ih h y hy
    · cases h
theorem allNumF_of {xs : List Int} (h : ∀ x ∈ xs, 0 ≤ x ∧ x < 1000000271) : allNumF xs = true := by
  induction xs with
  | nil => rfl
  | cons x r ih => rw [allNumF, if_pos ((isNumF_iff _).2 (h x (by simp))), ih fun y hy => h y (by simp [hy])]

set_option maxHeartbeats 400000 in
theorem spec_l1All (A : Option Addr) (n c : Nat) (xs : List Int) (lo hi : Nat) (w : World) (h : Ints w lo hi A n c xs) :
    Calls Try.prog 50 #[.slice A n c] w fun e w' => e = .returned (.bool (allNumF xs)) ∧ w = w' := by
  have hm := h.max
  have hcp := h.cap
  go_enter Try.func50, Try.ntmps50
  go_wp2_with fail
  go_loop [3] (fun i => ∃ (k : Nat), k ≤ n ∧ i = .int .i64 k ∧ Hid (allNumF xs = allNumF (xs.drop k))) (fun i => n - (intOf i).toNat)
  case atStart => exact ⟨0, by omega, rfl, rfl⟩
  case round =>
    obtain ⟨k, hk, rfl, hrel'⟩ := hrel
    by_cases hlt : k < n
    · obtain ⟨ad, x, rfl, hc, hr, hd, hx⟩ := h.at_ hlt
      clear hr
      by_cases hN : isNumF x = true
      · have hG : Hid (allNumF xs = allNumF (xs.drop (k+1))) := by
          show _ = _
          rw [hrel'.out, hd.out, allNumF, if_pos hN]
        go_wp2_with (go_at_call 74; refine (spec_IsNumber _ _).mono ?_; rintro e w' ⟨rfl, rfl⟩)
        go_round
        case rel => exact ⟨k + 1, by omega, by go_num, hG⟩
        case measure => simp [intOf]; omega
      · have hN' : isNumF x = false := by simpa using hN
        have hG : Hid (allNumF xs = false) := by
          show _ = _
          rw [hrel'.out, hd.out, allNumF, if_neg hN]
        clear hN
        go_wp2_with (go_at_call 74; refine (spec_IsNumber _ _).mono ?_; rintro e w' ⟨rfl, rfl⟩)
        go_ret
        exact ⟨ret_bool hG.out.symm, rfl⟩
    · obtain rfl : k = n := by omega
      have e := h.drop_end
      go_wp2_with fail
      go_ret
      exact ⟨ret_bool (by rw [hrel'.out, e.out, allNumF]), rfl⟩

set_option maxHeartbeats 400000 in
theorem impl_allNumbers (A : Option Addr) (n c : Nat) (xs : List Int) (lo hi : Nat) (w : World) (h : Ints w lo hi A n c xs) :
    Calls Try.prog 61 #[.slice A n c] w fun e w' => e = .returned (.bool (allNumF xs)) ∧ w = w' := by
  have hm := h.max
  have hcp := h.cap
  go_enter Try.func61, Try.ntmps61
  go_wp2_with fail
  go_loop [4, 7] (fun _ i => ∃ (k : Nat), k ≤ n ∧ i = .int .i64 k ∧ Hid (allNumF xs = allNumF (xs.drop k))) (fun _ i => n - (intOf i).toNat)
  case atStart => exact ⟨0, by omega, rfl, rfl⟩
  case round =>
    obtain ⟨k, hk, rfl, hrel'⟩ := hrel
    by_cases hlt : k < n
    · obtain ⟨ad, x, rfl, hc, hr, hd, hx⟩ := h.at_ hlt
      clear hr
      by_cases hN : isNumF x = true
      · have hG : Hid (allNumF xs = allNumF (xs.drop (k+1))) := by
          show _ = _
          rw [hrel'.out, hd.out, allNumF, if_pos hN]
        go_wp2_with (go_at_call 78; refine (impl_IsNumber _ _).mono ?_; rintro e w' ⟨rfl, rfl⟩)
        go_round
        case rel => exact ⟨k + 1, by omega, by go_num, hG⟩
        case measure => simp [intOf]; omega
      · have hN' : isNumF x = false := by simpa using hN
        have hG : Hid (allNumF xs = false) := by
          show _ = _
          rw [hrel'.out, hd.out, allNumF, if_neg hN]
        clear hN
        go_wp2_with (go_at_call 78; refine (impl_IsNumber _ _).mono ?_; rintro e w' ⟨rfl, rfl⟩)
        go_ret
        exact ⟨ret_bool hG.out.symm, rfl⟩
    · obtain rfl : k = n := by omega
      have e := h.drop_end
      go_wp2_with fail
      go_ret
      exact ⟨ret_bool (by rw [hrel'.out, e.out, allNumF]), rfl⟩
end Go.Proofs.Ytjamdnbabfodkaa
