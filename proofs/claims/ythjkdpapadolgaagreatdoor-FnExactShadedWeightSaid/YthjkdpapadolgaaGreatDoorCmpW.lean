/- Comparing lists of numbers: the plain order and its walks. -/
import Derived.Test.YthjkdpapadolgaaGreatDoorBase
namespace Go.Proofs.YthjkdpapadolgaaGreatDoor
open Go.RowKit
set_option linter.unusedSimpArgs false
set_option linter.unusedVariables false
set_option maxRecDepth 20000

def cmpI (a b : Int) : Int := if a < b then -1 else if b < a then 1 else 0
def cmpF : List Int → List Int → Int
  | [], [] => 0
  | [], _ :: _ => -1
  | _ :: _, [] => 1
  | a :: x, b :: y => if cmpI a b ≠ 0 then cmpI a b else cmpF x y
def lessF : List Int → List Int → Bool
  | _, [] => false
  | [], _ :: _ => true
  | a :: x, b :: y => if a ≠ b then decide (a < b) else lessF x y
theorem cmp_less : ∀ (q p : List Int), decide (cmpF q p ≤ 0) = !lessF p q
  | [], [] => rfl
  | [], _ :: _ => rfl
  | _ :: _, [] => rfl
  | a :: x, b :: y => by
    rw [cmpF, lessF]
    unfold cmpI
    by_cases h : a < b
    · rw [if_pos h, if_pos (by omega), if_pos (by omega), decide_eq_false (by omega : ¬ b < a)]; rfl
    · rw [if_neg h]
      by_cases h2 : b < a
      · rw [if_pos h2, if_pos (by omega), if_pos (by omega), decide_eq_true h2]; rfl
      · rw [if_neg h2, if_neg (by omega), if_neg (by omega)]
        exact cmp_less x y

theorem cmp_Compare (a b : Int) (w : World) :
    Calls Tryz.prog 62 #[.int .i64 a, .int .i64 b] w fun e w' => e = .returned (.int .i64 (cmpI a b)) ∧ w = w' := by
  by_cases h : a < b
  · have hF : Hid (cmpI a b = -1) := if_pos h
    go_enter Tryz.func62, Tryz.ntmps62
    go_wp2
    go_ret
    exact ⟨ret_int hF.out.symm, rfl⟩
  · by_cases h2 : b < a
    · have hF : Hid (cmpI a b = 1) := by show _ = _; rw [cmpI, if_neg h, if_pos h2]
      go_enter Tryz.func62, Tryz.ntmps62
      go_wp2
      go_ret
      exact ⟨ret_int hF.out.symm, rfl⟩
    · have hF : Hid (cmpI a b = 0) := by show _ = _; rw [cmpI, if_neg h, if_neg h2]
      go_enter Tryz.func62, Tryz.ntmps62
      go_wp2
      go_ret
      exact ⟨ret_int hF.out.symm, rfl⟩

set_option maxHeartbeats 1000000 in
theorem slices_Compare (A : Option Addr) (n c : Nat) (xs : List Int) (lo hi : Nat) (B : Option Addr) (m d : Nat) (ys : List Int) (lo' hi' : Nat) (w : World) (h : Ints w lo hi A n c xs) (g : Ints w lo' hi' B m d ys) :
    Calls Tryz.prog 41 #[.slice A n c, .slice B m d] w fun e w' => e = .returned (.int .i64 (cmpF xs ys)) ∧ w = w' := by
  have hcp := h.cap
  have hm := h.max
  have gcp := g.cap
  have gm := g.max
  go_enter Tryz.func41, Tryz.ntmps41
  go_wp2_with fail
  go_loop [5, 6, 7, 8, 11] (fun _ _ _ _ i => ∃ (k : Nat), k ≤ n ∧ k ≤ m ∧ i = .int .i64 k ∧ Hid (cmpF xs ys = cmpF (xs.drop k) (ys.drop k))) (fun _ _ _ _ i => n - (intOf i).toNat)
  case atStart => exact ⟨0, by omega, by omega, rfl, rfl⟩
  case round =>
    obtain ⟨k, hk, hkm, rfl, hr⟩ := hrel
    by_cases hlt : k < n
    · obtain ⟨ad, x, rfl, hc, hxr, hdx, _⟩ := h.at_ hlt
      by_cases hlt2 : k < m
      · obtain ⟨ae, y, rfl, hd, hyr, hdy, _⟩ := g.at_ hlt2
        have hC := hide (cmp_Compare x y w)
        have hst : Hid (cmpF xs ys = if cmpI x y ≠ 0 then cmpI x y else cmpF (xs.drop (k+1)) (ys.drop (k+1))) := by show _ = _; rw [hr.out, hdx.out, hdy.out, cmpF]
        obtain ⟨z, hz⟩ : ∃ z, cmpI x y = z := ⟨_, rfl⟩
        rw [hz] at hC hst
        clear hz hxr hyr
        by_cases h0 : z = 0
        · have hst2 : Hid (cmpF xs ys = cmpF (xs.drop (k+1)) (ys.drop (k+1))) := hst.out.trans (if_neg (by omega))
          subst h0
          go_wp2_with fail
          refine hC.out.mono ?_
          rintro e w' ⟨rfl, rfl⟩
          go_wp2_with fail
          go_round
          case rel => exact ⟨k + 1, by omega, by omega, by go_num, hst2⟩
          case measure => simp [intOf]; omega
        · have hst2 : Hid (cmpF xs ys = z) := hst.out.trans (if_pos h0)
          have hz0 : (z != 0) = true := by simpa using h0
          go_wp2_with fail
          refine hC.out.mono ?_
          rintro e w' ⟨rfl, rfl⟩
          go_wp2_with fail
          go_ret
          exact ⟨ret_int hst2.out.symm, rfl⟩
      · obtain rfl : k = m := by omega
        have e := g.drop_end
        have hst2 : Hid (cmpF xs ys = 1) := by show _ = _; rw [hr.out, hdx.out, e.out, cmpF]
        go_wp2_with fail
        go_ret
        exact ⟨ret_int hst2.out.symm, rfl⟩
    · obtain rfl : k = n := by omega
      have e := h.drop_end
      by_cases hlt2 : k < m
      · obtain ⟨ae, y, rfl, _, _, hdy, _⟩ := g.at_ hlt2
        have hst2 : Hid (cmpF xs ys = -1) := by show _ = _; rw [hr.out, hdy.out, e.out, cmpF]
        go_wp2_with fail
        go_ret
        exact ⟨ret_int hst2.out.symm, rfl⟩
      · obtain rfl : k = m := by omega
        have e2 := g.drop_end
        have hst2 : Hid (cmpF xs ys = 0) := by show _ = _; rw [hr.out, e.out, e2.out, cmpF]
        go_wp2_with fail
        go_ret
        exact ⟨ret_int hst2.out.symm, rfl⟩

set_option maxHeartbeats 1000000 in
theorem spec_l2Less (A : Option Addr) (n c : Nat) (xs : List Int) (lo hi : Nat) (B : Option Addr) (m d : Nat) (ys : List Int) (lo' hi' : Nat) (w : World) (h : Ints w lo hi A n c xs) (g : Ints w lo' hi' B m d ys) :
    Calls Tryz.prog 67 #[.slice A n c, .slice B m d] w fun e w' => e = .returned (.bool (lessF xs ys)) ∧ ∃ q, w' = w.drewN q := by
  have hcp := h.cap
  have hm := h.max
  have gcp := g.cap
  have gm := g.max
  go_enter Tryz.func67, Tryz.ntmps67
  go_wp2_with fail
  go_loopw [5] (fun i wr => ∃ (k q : Nat), k ≤ n ∧ k ≤ m ∧ i = .int .i64 k ∧ wr = w.drewN q ∧ Hid (lessF xs ys = lessF (xs.drop k) (ys.drop k))) (fun i _ => n - (intOf i).toNat)
  case atStart => exact ⟨0, 0, by omega, by omega, rfl, rfl, rfl⟩
  case round =>
    obtain ⟨k, q, hk, hkm, rfl, rfl, hr⟩ := hrel
    by_cases hlt : k < n
    · obtain ⟨ad, x, rfl, hc, hxr, hdx, _⟩ := h.at_ hlt
      by_cases hlt2 : k < m
      · obtain ⟨ae, y, rfl, hd, hyr, hdy, _⟩ := g.at_ hlt2
        have hst : Hid (lessF xs ys = if x ≠ y then decide (x < y) else lessF (xs.drop (k+1)) (ys.drop (k+1))) := by show _ = _; rw [hr.out, hdx.out, hdy.out, lessF]
        by_cases h0 : x = y
        · have hst2 : Hid (lessF xs ys = lessF (xs.drop (k+1)) (ys.drop (k+1))) := hst.out.trans (if_neg (by simpa using h0))
          subst h0
          go_wp2_with fail
          go_quiet (fail)
          go_wp2_with fail
          go_roundw
          case rel => exact ⟨k + 1, _, by omega, by omega, by go_num, rfl, hst2⟩
          case measure => simp [intOf]; omega
        · have hst2 : Hid (lessF xs ys = decide (x < y)) := hst.out.trans (if_pos h0)
          have hne : (x != y) = true := by simpa using h0
          go_wp2_with fail
          go_quiet (fail)
          go_wp2_with fail
          go_quiet (fail)
          go_wp2_with fail
          go_ret
          exact ⟨ret_bool hst2.out.symm, _, (World.drewN_drewN _ _ _).trans (World.drewN_drewN _ _ _)⟩
      · obtain rfl : k = m := by omega
        have e := g.drop_end
        have hst2 : Hid (lessF xs ys = false) := by show _ = _; rw [hr.out, hdx.out, e.out, lessF]
        go_wp2_with fail
        go_ret
        exact ⟨ret_bool (by first | exact hst2.out.symm | (rw [hst2.out]; done) | (rw [hst2.out]; simp; done) | (rw [hst2.out]; simp; omega)), _, rfl⟩
    · obtain rfl : k = n := by omega
      have e := h.drop_end
      by_cases hlt2 : k < m
      · obtain ⟨ae, y, rfl, _, _, hdy, _⟩ := g.at_ hlt2
        have hst2 : Hid (lessF xs ys = true) := by show _ = _; rw [hr.out, hdy.out, e.out, lessF]
        go_wp2_with fail
        go_ret
        exact ⟨ret_bool (by first | exact hst2.out.symm | (rw [hst2.out]; done) | (rw [hst2.out]; simp; done) | (rw [hst2.out]; simp; omega)), _, rfl⟩
      · obtain rfl : k = m := by omega
        have e2 := g.drop_end
        have hst2 : Hid (lessF xs ys = false) := by show _ = _; rw [hr.out, e.out, e2.out, lessF]
        go_wp2_with fail
        go_ret
        exact ⟨ret_bool (by first | exact hst2.out.symm | (rw [hst2.out]; done) | (rw [hst2.out]; simp; done) | (rw [hst2.out]; simp; omega)), _, rfl⟩

end Go.Proofs.YthjkdpapadolgaaGreatDoor
