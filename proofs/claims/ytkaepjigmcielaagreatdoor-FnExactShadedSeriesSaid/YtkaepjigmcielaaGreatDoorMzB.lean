/- The walks of the number functions, of the program and of the reference: each returns the plain function of NumLaws. -/
import Derived.Test.YtkaepjigmcielaaGreatDoorMzA
namespace Go.Proofs.YtkaepjigmcielaaGreatDoor
open Go.RowKit
set_option linter.unusedSimpArgs false
set_option linter.unusedVariables false
set_option maxRecDepth 20000

theorem spec_l1In (n lo hi : Int) (w : World) :
    Calls Tryz.prog 48 #[.int .i64 n, .int .i64 lo, .int .i64 hi] w fun e w' => e = .returned (.bool (decide (lo ≤ n) && decide (n ≤ hi))) ∧ w = w' := by
  by_cases h0 : lo ≤ n
  · by_cases h1 : n ≤ hi
    · go_enter Tryz.func48, Tryz.ntmps48
      go_wp2
      go_ret
      exact ⟨by simp [h0, h1], rfl⟩
    · go_enter Tryz.func48, Tryz.ntmps48
      go_wp2
      go_ret
      exact ⟨by simp [h1], rfl⟩
  · go_enter Tryz.func48, Tryz.ntmps48
    go_wp2
    go_ret
    exact ⟨ret_bool (by simp; omega), rfl⟩

theorem impl_IsNumber (n : Int) (w : World) :
    Calls Tryz.prog 59 #[.int .i64 n] w fun e w' => e = .returned (.bool (isNumF n)) ∧ w = w' := by
  by_cases h0 : 0 ≤ n
  · by_cases h1 : n < 1000000271
    · go_enter Tryz.func59, Tryz.ntmps59
      go_wp2
      go_ret
      exact ⟨by simp [isNumF, h0, h1], rfl⟩
    · go_enter Tryz.func59, Tryz.ntmps59
      go_wp2
      go_ret
      exact ⟨by simp [isNumF, h1], rfl⟩
  · go_enter Tryz.func59, Tryz.ntmps59
    go_wp2
    go_ret
    exact ⟨ret_bool (by simp [isNumF]; omega), rfl⟩

theorem spec_IsNumber (n : Int) (w : World) :
    Calls Tryz.prog 49 #[.int .i64 n] w fun e w' => e = .returned (.bool (isNumF n)) ∧ w = w' := by
  have hF : Hid ((decide (0 ≤ n) && decide (n ≤ 1000000270)) = isNumF n) := by
    show _ = _
    rw [Bool.eq_iff_iff]; simp [isNumF]; omega
  go_enter Tryz.func49, Tryz.ntmps49
  go_wp2_with (go_at_call 48; refine (spec_l1In _ _ _ _).mono ?_; rintro e w' ⟨rfl, rfl⟩)
  go_ret
  exact ⟨ret_bool hF.out, rfl⟩

theorem impl_residue (n : Int) (w : World) (h : R64 n) :
    Calls Tryz.prog 97 #[.int .i64 n] w fun e w' => e = .returned (.int .i64 (resF n)) ∧ w = w' := by
  have hb := tmod_bd n
  have hF := hide (res_eq' n)
  obtain ⟨h1, h2⟩ := h
  go_enter Tryz.func97, Tryz.ntmps97
  go_wp2
  go_ret
  exact ⟨ret_int (by rw [← hF.out]), rfl⟩

theorem spec_l1Residue (n : Int) (w : World) (h : R64 n) :
    Calls Tryz.prog 56 #[.int .i64 n] w fun e w' => e = .returned (.int .i64 (resF n)) ∧ w = w' := by
  have hb := tmod_bd n
  have hF := hide (res_eq' n)
  obtain ⟨h1, h2⟩ := h
  go_enter Tryz.func56, Tryz.ntmps56
  go_wp2
  go_ret
  exact ⟨ret_int (by rw [← hF.out]), rfl⟩

theorem impl_Plus (a b : Int) (w : World) (ha : R64 a) (hb : R64 b) :
    Calls Tryz.prog 76 #[.int .i64 a, .int .i64 b] w fun e w' => e = .returned (.int .i64 (plusF a b)) ∧ w = w' := by
  have hA := resF_bd a
  have hB := resF_bd b
  have ha' := hide ha
  have hb' := hide hb
  clear ha hb
  go_enter Tryz.func76, Tryz.ntmps76
  go_wp2_with (go_at_call 97; refine (impl_residue _ _ (by first | exact ha'.out | exact hb'.out)).mono ?_; rintro e w' ⟨rfl, rfl⟩)
  go_ret
  exact ⟨ret_int (plus_eq a b), rfl⟩

theorem spec_Plus (a b : Int) (w : World) (ha : R64 a) (hb : R64 b) :
    Calls Tryz.prog 28 #[.int .i64 a, .int .i64 b] w fun e w' => e = .returned (.int .i64 (plusF a b)) ∧ w = w' := by
  have hA := resF_bd a
  have hB := resF_bd b
  have ha' := hide ha
  have hb' := hide hb
  clear ha hb
  go_enter Tryz.func28, Tryz.ntmps28
  go_wp2_with (go_at_call 56; refine (spec_l1Residue _ _ (by first | exact ha'.out | exact hb'.out)).mono ?_; rintro e w' ⟨rfl, rfl⟩)
  go_ret
  exact ⟨ret_int (plus_eq a b), rfl⟩

theorem impl_Times (a b : Int) (w : World) (ha : R64 a) (hb : R64 b) :
    Calls Tryz.prog 74 #[.int .i64 a, .int .i64 b] w fun e w' => e = .returned (.int .i64 (timesF a b)) ∧ w = w' := by
  have hA := resF_bd a
  have hB := resF_bd b
  have hm := mul_bd hA.1 hA.2 hB.1 hB.2
  have ha' := hide ha
  have hb' := hide hb
  clear ha hb
  go_enter Tryz.func74, Tryz.ntmps74
  go_wp2_with (go_at_call 97; refine (impl_residue _ _ (by first | exact ha'.out | exact hb'.out)).mono ?_; rintro e w' ⟨rfl, rfl⟩)
  go_ret
  exact ⟨ret_int (times_eq a b), rfl⟩

theorem spec_Times (a b : Int) (w : World) (ha : R64 a) (hb : R64 b) :
    Calls Tryz.prog 29 #[.int .i64 a, .int .i64 b] w fun e w' => e = .returned (.int .i64 (timesF a b)) ∧ w = w' := by
  have hA := resF_bd a
  have hB := resF_bd b
  have hm := mul_bd hA.1 hA.2 hB.1 hB.2
  have ha' := hide ha
  have hb' := hide hb
  clear ha hb
  go_enter Tryz.func29, Tryz.ntmps29
  go_wp2_with (go_at_call 56; refine (spec_l1Residue _ _ (by first | exact ha'.out | exact hb'.out)).mono ?_; rintro e w' ⟨rfl, rfl⟩)
  go_ret
  exact ⟨ret_int (times_eq a b), rfl⟩

theorem impl_Power (a k : Int) (w : World) (ha : R64 a) (hk : R64 k) :
    Calls Tryz.prog 98 #[.int .i64 a, .int .i64 k] w fun e w' => e = .returned (.int .i64 (powF a k)) ∧ w = w' := by
  have hA := resF_bd a
  have ha' := hide ha
  obtain ⟨hk1, hk2⟩ := hk
  clear ha
  by_cases hneg : k < 0
  · have hF := hide (powF_neg (a := a) hneg)
    go_enter Tryz.func98, Tryz.ntmps98
    go_wp2
    go_ret
    exact ⟨ret_int hF.out.symm, rfl⟩
  · have hF := hide (powF_start (a := a) (k := k) (by omega))
    go_enter Tryz.func98, Tryz.ntmps98
    go_wp2_with (go_at_call 97; refine (impl_residue _ _ ha'.out).mono ?_; rintro e w' ⟨rfl, rfl⟩)
    go_loop [1, 5, 6] (fun j o x => ∃ (k' o' x' : Int), j = .int .i64 k' ∧ o = .int .i64 o' ∧ x = .int .i64 x' ∧ 0 ≤ k' ∧ k' ≤ k ∧ 0 ≤ o' ∧ o' < 1000000271 ∧ 0 ≤ x' ∧ x' < 1000000271 ∧ Hid (powF a k = (o' * x' ^ k'.toNat) % 1000000271)) (fun j _ _ => (intOf j).toNat)
    case atStart => exact ⟨k, 1, resF a, rfl, rfl, rfl, by omega, by omega, by omega, by omega, hA.1, hA.2, hF⟩
    case round =>
      obtain ⟨k', o', x', rfl, rfl, rfl, h0, h1, h2, h3, h4, h5, hr⟩ := hrel
      have hm := mul_bd h2 h3 h4 h5
      have hm2 := mul_bd h4 h5 h4 h5
      have hq : 0 ≤ o' * x' % 1000000271 ∧ o' * x' % 1000000271 < 1000000271 := by omega
      have hq2 : 0 ≤ x' * x' % 1000000271 ∧ x' * x' % 1000000271 < 1000000271 := by omega
      by_cases hpos : 0 < k'
      · by_cases hodd : k' % 2 = 1
        · have hs := hide (pow_odd (o := o') (x := x') h0 hodd)
          have hob : (k' % 2 == 1) = true := by simpa using hodd
          clear hodd
          go_wp2
          go_round
          case rel => exact ⟨_, _, _, rfl, rfl, rfl, by omega, by omega, hq.1, hq.2, hq2.1, hq2.2, hr.out.trans hs.out⟩
          case measure => simp [intOf]; omega
        · have hev : k' % 2 = 0 := by omega
          have hs := hide (pow_even (o := o') (x := x') h0 hev)
          have hob : (k' % 2 == 1) = false := by simpa using hodd
          clear hodd hev
          go_wp2
          go_round
          case rel => exact ⟨_, _, _, rfl, rfl, rfl, by omega, by omega, h2, h3, hq2.1, hq2.2, hr.out.trans hs.out⟩
          case measure => simp [intOf]; omega
      · obtain rfl : k' = 0 := by omega
        have hs := hide (pow_stop (o := o') (x := x') h2 h3)
        go_wp2
        go_ret
        exact ⟨ret_int (hr.out.trans hs.out).symm, rfl⟩

theorem spec_Power (a k : Int) (w : World) (ha : R64 a) (hk : R64 k) :
    Calls Tryz.prog 84 #[.int .i64 a, .int .i64 k] w fun e w' => e = .returned (.int .i64 (powF a k)) ∧ w = w' := by
  have hA := resF_bd a
  have ha' := hide ha
  obtain ⟨hk1, hk2⟩ := hk
  clear ha
  by_cases hneg : k < 0
  · have hF := hide (powF_neg (a := a) hneg)
    go_enter Tryz.func84, Tryz.ntmps84
    go_wp2
    go_ret
    exact ⟨ret_int hF.out.symm, rfl⟩
  · have hF := hide (powF_start (a := a) (k := k) (by omega))
    go_enter Tryz.func84, Tryz.ntmps84
    go_wp2_with (go_at_call 56; refine (spec_l1Residue _ _ ha'.out).mono ?_; rintro e w' ⟨rfl, rfl⟩)
    go_loop [5, 6, 7] (fun o x j => ∃ (k' o' x' : Int), j = .int .i64 k' ∧ o = .int .i64 o' ∧ x = .int .i64 x' ∧ 0 ≤ k' ∧ k' ≤ k ∧ 0 ≤ o' ∧ o' < 1000000271 ∧ 0 ≤ x' ∧ x' < 1000000271 ∧ Hid (powF a k = (o' * x' ^ k'.toNat) % 1000000271)) (fun _ _ j => (intOf j).toNat)
    case atStart => exact ⟨k, 1, resF a, rfl, rfl, rfl, by omega, by omega, by omega, by omega, hA.1, hA.2, hF⟩
    case round =>
      obtain ⟨k', o', x', rfl, rfl, rfl, h0, h1, h2, h3, h4, h5, hr⟩ := hrel
      have hq := timesF_bd o' x'
      have hq2 := timesF_bd x' x'
      by_cases hpos : 0 < k'
      · by_cases hodd : k' % 2 = 1
        · have hs := hide (pow_odd (o := o') (x := x') h0 hodd)
          have hob : (k' % 2 == 1) = true := by simpa using hodd
          clear hodd
          go_wp2_with (go_at_call 29; refine (spec_Times _ _ _ (by constructor <;> omega) (by constructor <;> omega)).mono ?_; rintro e w' ⟨rfl, rfl⟩)
          go_round
          case rel => exact ⟨_, _, _, rfl, rfl, rfl, by omega, by omega, hq.1, hq.2, hq2.1, hq2.2, hr.out.trans hs.out⟩
          case measure => simp [intOf]; omega
        · have hev : k' % 2 = 0 := by omega
          have hs := hide (pow_even (o := o') (x := x') h0 hev)
          have hob : (k' % 2 == 1) = false := by simpa using hodd
          clear hodd hev
          go_wp2_with (go_at_call 29; refine (spec_Times _ _ _ (by constructor <;> omega) (by constructor <;> omega)).mono ?_; rintro e w' ⟨rfl, rfl⟩)
          go_round
          case rel => exact ⟨_, _, _, rfl, rfl, rfl, by omega, by omega, h2, h3, hq2.1, hq2.2, hr.out.trans hs.out⟩
          case measure => simp [intOf]; omega
      · obtain rfl : k' = 0 := by omega
        have hs := hide (pow_stop (o := o') (x := x') h2 h3)
        go_wp2
        go_ret
        exact ⟨ret_int (hr.out.trans hs.out).symm, rfl⟩

theorem impl_Inverse (a : Int) (w : World) (ha : R64 a) :
    Calls Tryz.prog 75 #[.int .i64 a] w fun e w' => e = .returned (.int .i64 (invF a)) ∧ w = w' := by
  have ha' := hide ha
  clear ha
  go_enter Tryz.func75, Tryz.ntmps75
  go_wp2_with (go_at_call 98; refine (impl_Power _ _ _ ha'.out (by constructor <;> omega)).mono ?_; rintro e w' ⟨rfl, rfl⟩)
  go_ret
  exact ⟨ret_int rfl, rfl⟩
theorem impl_Fraction (a b : Int) (w : World) (ha : R64 a) (hb : R64 b) :
    Calls Tryz.prog 38 #[.int .i64 a, .int .i64 b] w fun e w' => e = .returned (.int .i64 (fracF a b)) ∧ w = w' := by
  have ha' := hide ha
  have hb' := hide hb
  have hi := invF_bd b
  clear ha hb
  go_enter Tryz.func38, Tryz.ntmps38
  go_wp2_with (first
    | (go_at_call 75; refine (impl_Inverse _ _ hb'.out).mono ?_; rintro e w' ⟨rfl, rfl⟩)
    | (go_at_call 74; refine (impl_Times _ _ _ ha'.out (by constructor <;> omega)).mono ?_; rintro e w' ⟨rfl, rfl⟩))
  go_ret
  exact ⟨ret_int rfl, rfl⟩

theorem spec_Inverse (a : Int) (w : World) (ha : R64 a) :
    Calls Tryz.prog 55 #[.int .i64 a] w fun e w' => e = .returned (.int .i64 (invF a)) ∧ w = w' := by
  have ha' := hide ha
  clear ha
  go_enter Tryz.func55, Tryz.ntmps55
  go_wp2_with (go_at_call 84; refine (spec_Power _ _ _ ha'.out (by constructor <;> omega)).mono ?_; rintro e w' ⟨rfl, rfl⟩)
  go_ret
  exact ⟨ret_int rfl, rfl⟩
theorem spec_Fraction (a b : Int) (w : World) (ha : R64 a) (hb : R64 b) :
    Calls Tryz.prog 26 #[.int .i64 a, .int .i64 b] w fun e w' => e = .returned (.int .i64 (fracF a b)) ∧ w = w' := by
  have ha' := hide ha
  have hb' := hide hb
  have hi := invF_bd b
  clear ha hb
  go_enter Tryz.func26, Tryz.ntmps26
  go_wp2_with (first
    | (go_at_call 55; refine (spec_Inverse _ _ hb'.out).mono ?_; rintro e w' ⟨rfl, rfl⟩)
    | (go_at_call 29; refine (spec_Times _ _ _ ha'.out (by constructor <;> omega)).mono ?_; rintro e w' ⟨rfl, rfl⟩))
  go_ret
  exact ⟨ret_int rfl, rfl⟩


end Go.Proofs.YtkaepjigmcielaaGreatDoor
/- The walks of the statements' own helpers on slices of integers: a copy, a comparison, a mark, a look at the marks, a count. -/
namespace Go.Proofs.YtkaepjigmcielaaGreatDoor
open Go.RowKit
set_option linter.unusedSimpArgs false
set_option linter.unusedVariables false
set_option maxRecDepth 20000

theorem take_set_step {ys xs : List Int} {k : Nat} {x : Int} (h : ys.take k = xs.take k) (hk : k < ys.length) (hx : xs[k]? = some x) : (ys.set k x).take (k+1) = xs.take (k+1) := by
  have h1 : (ys.set k x).take k = xs.take k := by rw [List.take_set_of_le (Nat.le_refl _), h]
  rw [List.take_add_one, List.take_add_one, h1, hx, List.getElem?_set_self hk]

set_option maxHeartbeats 400000 in
theorem laws_toIntS (A : Option Addr) (n c : Nat) (xs : List Int) (lo hi : Nat) (w : World) (h : Ints w lo hi A n c xs) (hh : hi ≤ w.heap.size) (hn : n ≤ 1048576) :
    Calls Tryz.prog 7 #[.slice A n c] w fun e w' => ∃ A' c', e = .returned (.slice A' n c') ∧ OwnI w' w.heap.size w'.heap.size A' n c' xs ∧ Below w.heap.size w w' := by
  obtain ⟨i0, hi0, hz0, hz1, hz2⟩ := info_parts info_int
  have hcp := h.cap
  have hm := h.max
  go_enter Tryz.func7, Tryz.ntmps7
  go_wp2_with (at_make; refine wpList_make_full _ rfl _ _ 22 rfl w.heap.size 3 i0 (.int .i64 0) 1 Tryz.underlying22 hi0 hz0 hz1 .i64 .i64 n n n rfl rfl rfl rfl (by rw [hz2]; omega) (by unfold maxLen; omega) (Nat.le_refl _) ?_; intro w1 hown hg1)
  have hs1 : w.heap.size < w1.heap.size := (hown.lt w.heap.size rfl).2
  have hb1 : Below w.heap.size w w1 := (Below.refl _ _).grown hg1 (Nat.le_refl _) (by simp)
  clear hg1
  go_loopw [4] (fun i wr => ∃ (k : Nat) (ys : List Int), k ≤ n ∧ i = .int .i64 k ∧ wr.ownsRow w.heap.size 3 1 (.slice (some ⟨w.heap.size, 0, none⟩) n n) n (ys.map (Value.int .i64)) ∧ Below w.heap.size w wr ∧ w.heap.size < wr.heap.size ∧ Hid (ys.length = n ∧ ys.take k = xs.take k))
    (fun i _ => n - (intOf i).toNat)
  case atStart => exact ⟨0, List.replicate n 0, by omega, rfl, by rw [← made_int]; exact hown, hb1, hs1, by simp, by simp⟩
  case round =>
    obtain ⟨k, ys, hk, rfl, hown', hb', hs', hys⟩ := hrel
    by_cases hlt : k < n
    · obtain ⟨ad, x, rfl, hc, hr, _, hx⟩ := (h.below hb' hh).at_ hlt
      have hc2 : wr.cell? ⟨w.heap.size, k, none⟩ = some (.int .i64 (ys.getD k 0)) := by
        rw [hown'.cellAt k (by omega)]
        have := hys.out.1
        simp [List.getD, show k < ys.length by omega]
      have hf2 := hown'.frozenAt k
      have hst := hown'.stored k (.int .i64 x)
      have hb2 : Below w.heap.size w (wr.setCell ⟨w.heap.size, k, none⟩ (.int .i64 x)) := hb'.setCell (Nat.le_refl _) _
      have hs2 : w.heap.size < (wr.setCell ⟨w.heap.size, k, none⟩ (.int .i64 x)).heap.size := by simpa [World.setCell] using hs'
      have hrel' : Hid ((ys.set k x).length = n ∧ (ys.set k x).take (k+1) = xs.take (k+1)) :=
        ⟨by simpa using hys.out.1, take_set_step hys.out.2 (by have := hys.out.1; omega) hx.out⟩
      have HS := hide (And.intro hst.1 (And.intro hb2 hs2))
      clear hst hb2 hs2 hown' hb' hs' hr
      go_wp2
      go_roundw
      case rel => exact ⟨k + 1, ys.set k x, by omega, by go_num, by simpa [List.map_set] using HS.out.1, HS.out.2.1, HS.out.2.2, hrel'⟩
      case measure => simp [intOf]; omega
    · obtain rfl : k = n := by omega
      go_wp2
      go_ret
      have e : ys = xs := by
        have h1 := hys.out
        have h2 := h.len
        rw [List.take_of_length_le (by omega), List.take_of_length_le (by omega)] at h1
        exact h1.2
      subst e
      exact ⟨_, _, rfl, ⟨hown', fun ad e => by injection e with e; subst e; exact hs', h.rng⟩, hb'⟩

theorem take_snoc_eq {xs ys : List Int} {k : Nat} {x : Int} (h : xs.take k = ys.take k) (hx : xs[k]? = some x) (hy : ys[k]? = some x) : xs.take (k+1) = ys.take (k+1) := by
  rw [List.take_add_one, List.take_add_one, h, hx, hy]

set_option maxHeartbeats 400000 in
theorem laws_eqIntS (A : Option Addr) (n c : Nat) (xs : List Int) (lo hi : Nat) (B : Option Addr) (m d : Nat) (ys : List Int) (lo' hi' : Nat) (w : World) (h : Ints w lo hi A n c xs) (g : Ints w lo' hi' B m d ys) :
    Calls Tryz.prog 12 #[.slice A n c, .slice B m d] w fun e w' => e = .returned (.bool (decide (xs = ys))) ∧ ∃ q, w' = w.drewN q := by
  have hcp := h.cap
  have hm := h.max
  have gcp := g.cap
  have gm := g.max
  by_cases hnm : n = m
  · subst hnm
    go_enter Tryz.func12, Tryz.ntmps12
    go_wp2
    go_loopw [5] (fun i wr => ∃ (k q : Nat), k ≤ n ∧ i = .int .i64 k ∧ wr = w.drewN q ∧ Hid (xs.take k = ys.take k)) (fun i _ => n - (intOf i).toNat)
    case atStart => exact ⟨0, 0, by omega, rfl, rfl, rfl⟩
    case round =>
      obtain ⟨k, q, hk, rfl, rfl, hr⟩ := hrel
      by_cases hlt : k < n
      · obtain ⟨ad, x, rfl, hc, _, _, hx⟩ := h.at_ hlt
        obtain ⟨ae, y, rfl, hd, _, _, hy⟩ := g.at_ hlt
        by_cases hxy : x = y
        · subst hxy
          go_wp2
          go_quiet (fail)
          go_wp2
          go_roundw
          case rel => exact ⟨k + 1, _, by omega, by go_num, rfl, take_snoc_eq hr.out hx.out hy.out⟩
          case measure => simp [intOf]; omega
        · have hne : (x != y) = true := by simpa using hxy
          have hF : Hid (¬ xs = ys) := fun e => by
            have h1 := hx.out
            rw [e, hy.out] at h1
            exact hxy (by injection h1 with h1; exact h1.symm)
          clear hxy
          go_wp2
          go_quiet (fail)
          go_wp2
          go_ret
          exact ⟨ret_bool (by simpa using hF.out), _, World.drewN_drewN _ _ _⟩
      · obtain rfl : k = n := by omega
        go_wp2
        go_ret
        refine ⟨ret_bool ?_, _, rfl⟩
        have h1 := hr.out
        have h2 := h.len
        have h3 := g.len
        rw [List.take_of_length_le (by omega), List.take_of_length_le (by omega)] at h1
        simpa using h1
  · have hne : ((n : Int) != (m : Int)) = true := by simpa using (by omega : ¬ (n : Int) = m)
    have hF : Hid (¬ xs = ys) := fun e => hnm (by rw [← h.len, ← g.len, e])
    clear hnm
    go_enter Tryz.func12, Tryz.ntmps12
    go_wp2
    go_ret
    exact ⟨ret_bool (by simpa using hF.out), 0, rfl⟩

def marks (k : Int) (n : Nat) : List Int := (List.range n).map (fun i : Nat => k + (i : Int))
theorem marks_len (k : Int) (n : Nat) : (marks k n).length = n := by simp [marks]
theorem marks_at {k : Int} {n j : Nat} (h : j < n) : (marks k n)[j]? = some (k + j) := by simp [marks, h]
theorem marks_rng {k : Int} {n : Nat} (h0 : 0 ≤ k) (h1 : k + n ≤ 4611686018427387904) : ∀ x ∈ marks k n, R64 x := by
  intro x hx
  simp only [marks, List.mem_map, List.mem_range] at hx
  obtain ⟨i, hi, rfl⟩ := hx
  constructor <;> omega

set_option maxHeartbeats 400000 in
theorem laws_markIntS (A : Option Addr) (n c : Nat) (xs : List Int) (lo hi : Nat) (k0 : Int) (w : World) (h : OwnI w lo hi A n c xs) (hk0 : 0 ≤ k0) (hk1 : k0 + n ≤ 4611686018427387904) :
    Calls Tryz.prog 14 #[.slice A n c, .int .i64 k0] w fun e w' => e = .returned (.int .i64 (k0 + n)) ∧ OwnI w' lo hi A n c (marks k0 n) ∧ Touch lo hi w w' ∧ w'.heap.size = w.heap.size := by
  have hcp := h.cap
  have hm := h.max
  have hrng := hide h.rng
  go_enter Tryz.func14, Tryz.ntmps14
  go_wp2
  go_loopw [1, 5] (fun q i wr => ∃ (k : Nat) (ys : List Int), k ≤ n ∧ i = .int .i64 k ∧ q = .int .i64 (k0 + k) ∧ wr.ownsRow lo 3 1 (.slice A n c) n (ys.map (Value.int .i64)) ∧ Touch lo hi w wr ∧ Hid (wr.heap.size = w.heap.size) ∧ Hid (ys.length = n ∧ ys.take k = (marks k0 n).take k))
    (fun _ i _ => n - (intOf i).toNat)
  case atStart => exact ⟨0, xs, by omega, rfl, by simp, h.own, .refl _ _ _, rfl, h.len, by simp⟩
  case round =>
    obtain ⟨k, ys, hk, rfl, rfl, hown', hb', hs', hys⟩ := hrel
    by_cases hlt : k < n
    · obtain ⟨g, rfl, hg1, hg2, hg3⟩ := h.form (by omega)
      have hc2 : wr.cell? ⟨g, k, none⟩ = some (.int .i64 (ys.getD k 0)) := by
        rw [hown'.cellAt k (by omega)]
        have := hys.out.1
        simp [List.getD, show k < ys.length by omega]
      have hf2 := hown'.frozenAt k
      have hst := hown'.stored k (.int .i64 (k0 + k))
      have hb2 : Touch lo hi w (wr.setCell ⟨g, k, none⟩ (.int .i64 (k0 + k))) := hb'.setCell (.inl ⟨hg1, hg2⟩) _
      have hs2 : (wr.setCell ⟨g, k, none⟩ (.int .i64 (k0 + k))).heap.size = w.heap.size := by simpa [World.setCell] using hs'.out
      have hrel' : Hid ((ys.set k (k0 + k)).length = n ∧ (ys.set k (k0 + k)).take (k+1) = (marks k0 n).take (k+1)) :=
        ⟨by simpa using hys.out.1, take_set_step hys.out.2 (by have := hys.out.1; omega) (marks_at hlt)⟩
      have HS := hide (And.intro hst.1 (And.intro hb2 hs2))
      clear hst hb2 hs2 hown' hb' hs'
      go_wp2
      go_roundw
      case rel => exact ⟨k + 1, ys.set k (k0 + k), by omega, by go_num, by go_num, by simpa [List.map_set] using HS.out.1, HS.out.2.1, HS.out.2.2, hrel'⟩
      case measure => simp [intOf]; omega
    · obtain rfl : k = n := by omega
      go_wp2
      go_ret
      have e : ys = marks k0 k := by
        have h1 := hys.out
        have h2 := marks_len k0 k
        rw [List.take_of_length_le (by omega), List.take_of_length_le (by omega)] at h1
        exact h1.2
      subst e
      exact ⟨rfl, ⟨hown', h.lt, marks_rng hk0 hk1⟩, hb', hs'.out⟩

set_option maxHeartbeats 400000 in
theorem laws_heldIntS (A : Option Addr) (n c : Nat) (lo hi : Nat) (k0 : Int) (w : World) (h : Ints w lo hi A n c (marks k0 n)) (hk0 : 0 ≤ k0) (hk1 : k0 + n ≤ 4611686018427387904) :
    Calls Tryz.prog 44 #[.slice A n c, .int .i64 k0] w fun e w' => e = .returned (.int .i64 (k0 + n)) ∧ w = w' := by
  have hcp := h.cap
  have hm := h.max
  go_enter Tryz.func44, Tryz.ntmps44
  go_wp2
  go_loop [1, 5] (fun q i => ∃ (k : Nat), k ≤ n ∧ i = .int .i64 k ∧ q = .int .i64 (k0 + k)) (fun _ i => n - (intOf i).toNat)
  case atStart => exact ⟨0, by omega, rfl, by simp⟩
  case round =>
    obtain ⟨k, hk, rfl, rfl⟩ := hrel
    by_cases hlt : k < n
    · obtain ⟨ad, x, rfl, hc, _, _, hx⟩ := h.at_ hlt
      have hx' := hx.out
      rw [marks_at hlt] at hx'
      obtain rfl : k0 + k = x := by injection hx'
      clear hx'
      go_wp2
      go_round
      case rel => exact ⟨k + 1, by omega, by go_num, by go_num⟩
      case measure => simp [intOf]; omega
    · obtain rfl : k = n := by omega
      go_wp2
      go_ret
      exact ⟨rfl, rfl⟩

def szF (n : Nat) (left : Int) : Int := if left - n < 0 then -1 else left - n
theorem laws_szIntS (A : Option Addr) (n c : Nat) (left : Int) (w : World) (hn : n ≤ 9223372036854775807) (h0 : 0 ≤ left) (h1 : left ≤ 1048576) :
    Calls Tryz.prog 19 #[.slice A n c, .int .i64 left] w fun e w' => e = .returned (.int .i64 (szF n left)) ∧ w = w' := by
  by_cases hlt : left - n < 0
  · have hF : Hid (szF n left = -1) := if_pos hlt
    go_enter Tryz.func19, Tryz.ntmps19
    go_wp2
    go_ret
    exact ⟨ret_int hF.out.symm, rfl⟩
  · have hF : Hid (szF n left = left - n) := if_neg hlt
    go_enter Tryz.func19, Tryz.ntmps19
    go_wp2
    go_ret
    exact ⟨ret_int hF.out.symm, rfl⟩

def allNumF : List Int → Bool
  | [] => true
  | x :: r => if isNumF x then allNumF r else false
theorem allNumF_mem {xs : List Int} (h : allNumF xs = true) : ∀ x ∈ xs, 0 ≤ x ∧ x < 1000000271 := by
  induction xs with
  | nil => simp
  | cons x r ih =>
    rw [allNumF] at h
    split at h
    · rename_i hx
      intro y hy
      rcases List.mem_cons.1 hy with rfl | hy
      · exact (isNumF_iff _).1 hx
      · exact ih h y hy
    · cases h
set_option maxHeartbeats 400000 in
theorem spec_l1All (A : Option Addr) (n c : Nat) (xs : List Int) (lo hi : Nat) (w : World) (h : Ints w lo hi A n c xs) :
    Calls Tryz.prog 22 #[.slice A n c] w fun e w' => e = .returned (.bool (allNumF xs)) ∧ w = w' := by
  have hm := h.max
  have hcp := h.cap
  go_enter Tryz.func22, Tryz.ntmps22
  go_wp2_with fail
  go_loop [3] (fun i => ∃ (k : Nat), k ≤ n ∧ i = .int .i64 k ∧ Hid (allNumF xs = allNumF (xs.drop k))) (fun i => n - (intOf i).toNat)
  case atStart => exact ⟨0, by omega, rfl, rfl⟩
  case round =>
    obtain ⟨k, hk, rfl, hrel'⟩ := hrel
    by_cases hlt : k < n
    · obtain ⟨ad, x, rfl, hc, hr, hd, hx⟩ := h.at_ hlt
      clear hr
      by_cases hN : isNumF x = true
      · have hG : Hid (allNumF xs = allNumF (xs.drop (k+1))) := by
          show _ = _
          rw [hrel'.out, hd.out, allNumF, if_pos hN]
        go_wp2_with (go_at_call 49; refine (spec_IsNumber _ _).mono ?_; rintro e w' ⟨rfl, rfl⟩)
        go_round
        case rel => exact ⟨k + 1, by omega, by go_num, hG⟩
        case measure => simp [intOf]; omega
      · have hN' : isNumF x = false := by simpa using hN
        have hG : Hid (allNumF xs = false) := by
          show _ = _
          rw [hrel'.out, hd.out, allNumF, if_neg hN]
        clear hN
        go_wp2_with (go_at_call 49; refine (spec_IsNumber _ _).mono ?_; rintro e w' ⟨rfl, rfl⟩)
        go_ret
        exact ⟨ret_bool hG.out.symm, rfl⟩
    · obtain rfl : k = n := by omega
      have e := h.drop_end
      go_wp2_with fail
      go_ret
      exact ⟨ret_bool (by rw [hrel'.out, e.out, allNumF]), rfl⟩

set_option maxHeartbeats 400000 in
theorem impl_allNumbers (A : Option Addr) (n c : Nat) (xs : List Int) (lo hi : Nat) (w : World) (h : Ints w lo hi A n c xs) :
    Calls Tryz.prog 32 #[.slice A n c] w fun e w' => e = .returned (.bool (allNumF xs)) ∧ w = w' := by
  have hm := h.max
  have hcp := h.cap
  go_enter Tryz.func32, Tryz.ntmps32
  go_wp2_with fail
  go_loop [4, 7] (fun _ i => ∃ (k : Nat), k ≤ n ∧ i = .int .i64 k ∧ Hid (allNumF xs = allNumF (xs.drop k))) (fun _ i => n - (intOf i).toNat)
  case atStart => exact ⟨0, by omega, rfl, rfl⟩
  case round =>
    obtain ⟨k, hk, rfl, hrel'⟩ := hrel
    by_cases hlt : k < n
    · obtain ⟨ad, x, rfl, hc, hr, hd, hx⟩ := h.at_ hlt
      clear hr
      by_cases hN : isNumF x = true
      · have hG : Hid (allNumF xs = allNumF (xs.drop (k+1))) := by
          show _ = _
          rw [hrel'.out, hd.out, allNumF, if_pos hN]
        go_wp2_with (go_at_call 59; refine (impl_IsNumber _ _).mono ?_; rintro e w' ⟨rfl, rfl⟩)
        go_round
        case rel => exact ⟨k + 1, by omega, by go_num, hG⟩
        case measure => simp [intOf]; omega
      · have hN' : isNumF x = false := by simpa using hN
        have hG : Hid (allNumF xs = false) := by
          show _ = _
          rw [hrel'.out, hd.out, allNumF, if_neg hN]
        clear hN
        go_wp2_with (go_at_call 59; refine (impl_IsNumber _ _).mono ?_; rintro e w' ⟨rfl, rfl⟩)
        go_ret
        exact ⟨ret_bool hG.out.symm, rfl⟩
    · obtain rfl : k = n := by omega
      have e := h.drop_end
      go_wp2_with fail
      go_ret
      exact ⟨ret_bool (by rw [hrel'.out, e.out, allNumF]), rfl⟩
end Go.Proofs.YtkaepjigmcielaaGreatDoor
