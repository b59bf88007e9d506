/- Symplectic pairs: the walks of both texts. -/
import Derived.Test.YthjkdpapadolgaaGreatDoorPr
namespace Go.Proofs.YthjkdpapadolgaaGreatDoor
open Go.RowKit
set_option linter.unusedSimpArgs false
set_option linter.unusedVariables false
set_option maxRecDepth 20000

theorem slices_Equal (A : Option Addr) (n c : Nat) (xs : List Int) (lo hi : Nat) (B : Option Addr) (m d : Nat) (ys : List Int) (lo' hi' : Nat) (w : World) (h : Ints w lo hi A n c xs) (g : Ints w lo' hi' B m d ys) :
    Calls Tryz.prog 43 #[.slice A n c, .slice B m d] w fun e w' => e = .returned (.bool (decide (xs = ys))) ∧ ∃ q, w' = w.drewN q := by
  have hcp := h.cap
  have hm := h.max
  have gcp := g.cap
  have gm := g.max
  by_cases hnm : n = m
  · subst hnm
    go_enter Tryz.func43, Tryz.ntmps43
    go_wp2
    go_loopw [5, 13] (fun _ i wr => ∃ (k q : Nat), k ≤ n ∧ i = .int .i64 k ∧ wr = w.drewN q ∧ Hid (xs.take k = ys.take k)) (fun _ i _ => n - (intOf i).toNat)
    case atStart => exact ⟨0, 0, by omega, rfl, rfl, rfl⟩
    case round =>
      obtain ⟨k, q, hk, rfl, rfl, hr⟩ := hrel
      by_cases hlt : k < n
      · obtain ⟨ad, x, rfl, hc, _, _, hx⟩ := h.at_ hlt
        obtain ⟨ae, y, rfl, hd, _, _, hy⟩ := g.at_ hlt
        by_cases hxy : x = y
        · subst hxy
          go_wp2
          go_quiet (fail)
          go_wp2
          go_roundw
          case rel => exact ⟨k + 1, _, by omega, by go_num, rfl, take_snoc_eq hr.out hx.out hy.out⟩
          case measure => simp [intOf]; omega
        · have hne : (x != y) = true := by simpa using hxy
          have hF : Hid (¬ xs = ys) := fun e => by
            have h1 := hx.out
            rw [e, hy.out] at h1
            exact hxy (by injection h1 with h1; exact h1.symm)
          clear hxy
          go_wp2
          go_quiet (fail)
          go_wp2
          go_ret
          exact ⟨ret_bool (by simpa using hF.out), _, World.drewN_drewN _ _ _⟩
      · obtain rfl : k = n := by omega
        go_wp2
        go_ret
        refine ⟨ret_bool ?_, _, rfl⟩
        have h1 := hr.out
        have h2 := h.len
        have h3 := g.len
        rw [List.take_of_length_le (by omega), List.take_of_length_le (by omega)] at h1
        simpa using h1
  · have hne : ((n : Int) != (m : Int)) = true := by simpa using (by omega : ¬ (n : Int) = m)
    have hF : Hid (¬ xs = ys) := fun e => hnm (by rw [← h.len, ← g.len, e])
    clear hnm
    go_enter Tryz.func43, Tryz.ntmps43
    go_wp2
    go_ret
    exact ⟨ret_bool (by simpa using hF.out), 0, rfl⟩

def lessSF : List Int → List Int → Bool
  | [], [] => false
  | [], _ :: _ => true
  | _ :: _, [] => false
  | x :: xs, y :: ys => if x = y then lessSF xs ys else decide (x < y)
theorem less_sameS (xs ys : List Int) : (!lessSF xs ys && !lessSF ys xs) = decide (xs = ys) := by
  induction xs generalizing ys with
  | nil => cases ys <;> rfl
  | cons x xs ih =>
    cases ys with
    | nil => rfl
    | cons y ys =>
      rw [lessSF, lessSF]
      by_cases h : x = y
      · subst h
        rw [if_pos rfl, if_pos rfl, ih]
        simp
      · rw [if_neg h, if_neg (Ne.symm h)]
        have : decide (x :: xs = y :: ys) = false := decide_eq_false (fun e => h (by injection e))
        rw [this]
        rcases (show x < y ∨ y < x by omega) with q | q
        · simp [q]
        · simp [q]

theorem spec_l2LessS (A : Option Addr) (n c : Nat) (xs : List Int) (lo hi : Nat) (B : Option Addr) (m d : Nat) (ys : List Int) (lo' hi' : Nat) (w : World) (h : Ints w lo hi A n c xs) (g : Ints w lo' hi' B m d ys) :
    Calls Tryz.prog 67 #[.slice A n c, .slice B m d] w fun e w' => e = .returned (.bool (lessSF xs ys)) ∧ ∃ q, w' = w.drewN q := by
  have hcp := h.cap
  have hm := h.max
  have gcp := g.cap
  have gm := g.max
  go_enter Tryz.func67, Tryz.ntmps67
  go_wp2
  go_loopw [5] (fun i wr => ∃ (k q : Nat), k ≤ n ∧ k ≤ m ∧ i = .int .i64 k ∧ wr = w.drewN q ∧ Hid (lessSF xs ys = lessSF (xs.drop k) (ys.drop k))) (fun i _ => n - (intOf i).toNat)
  case atStart => exact ⟨0, 0, by omega, by omega, rfl, rfl, rfl⟩
  case round =>
    obtain ⟨k, q, hk, hk2, rfl, rfl, hr⟩ := hrel
    by_cases hlt : k < n
    · by_cases hlt2 : k < m
      · obtain ⟨ad, x, rfl, hc, _, hdx, hx⟩ := h.at_ hlt
        obtain ⟨ae, y, rfl, hd, _, hdy, hy⟩ := g.at_ hlt2
        have hE : Hid (lessSF xs ys = if x = y then lessSF (xs.drop (k + 1)) (ys.drop (k + 1)) else decide (x < y)) := by
          show _ = _
          rw [hr.out, hdx.out, hdy.out, lessSF]
        by_cases hxy : x = y
        · have hE2 : Hid (lessSF xs ys = lessSF (xs.drop (k + 1)) (ys.drop (k + 1))) := hide (hE.out.trans (if_pos hxy))
          subst hxy
          clear hr hE hdx hdy
          go_wp2
          go_quiet (fail)
          go_wp2
          go_roundw
          case rel => exact ⟨k + 1, _, by omega, by omega, by go_num, rfl, hE2⟩
          case measure => simp [intOf]; omega
        · have hne : (x != y) = true := by simpa using hxy
          have hE2 : Hid (lessSF xs ys = decide (x < y)) := hide (hE.out.trans (if_neg hxy))
          clear hr hE hdx hdy hxy
          go_wp2
          go_quiet (fail)
          go_wp2
          go_quiet (fail)
          go_wp2
          go_ret
          exact ⟨ret_bool hE2.out.symm, _, by rw [World.drewN_drewN, World.drewN_drewN]⟩
      · obtain rfl : k = m := by omega
        have e := g.drop_end
        have hE2 : Hid (lessSF xs ys = decide (n < k)) := by
          show _ = _
          rw [hr.out, e.out, decide_eq_false (by omega)]
          obtain ⟨ad, x, _, _, _, hdx, _⟩ := h.at_ hlt
          rw [hdx.out]
          rfl
        clear hr
        go_wp2
        go_ret
        exact ⟨ret_bool hE2.out.symm, _, rfl⟩
    · obtain rfl : k = n := by omega
      have e := h.drop_end
      have hE2 : Hid (lessSF xs ys = decide (k < m)) := by
        show _ = _
        rw [hr.out, e.out]
        by_cases hlt2 : k < m
        · obtain ⟨ad, x, _, _, _, hdx, _⟩ := g.at_ hlt2
          rw [hdx.out, decide_eq_true (by omega)]
          rfl
        · obtain rfl : k = m := by omega
          rw [g.drop_end.out, decide_eq_false (by omega)]
          rfl
      clear hr
      go_wp2
      go_ret
      exact ⟨ret_bool hE2.out.symm, _, rfl⟩

theorem spec_l2Same (A : Option Addr) (n c : Nat) (xs : List Int) (lo hi : Nat) (B : Option Addr) (m d : Nat) (ys : List Int) (lo' hi' : Nat) (w : World) (h : Ints w lo hi A n c xs) (g : Ints w lo' hi' B m d ys) :
    Calls Tryz.prog 50 #[.slice A n c, .slice B m d] w fun e w' => e = .returned (.bool (decide (xs = ys))) ∧ ∃ q, w' = w.drewN q := by
  go_enter Tryz.func50, Tryz.ntmps50
  go_wp2_with fail
  refine (spec_l2LessS A n c xs lo hi B m d ys lo' hi' w h g).mono ?_
  rintro e w1 ⟨rfl, q, rfl⟩
  cases hx : lessSF xs ys with
  | true =>
    go_wp2_with fail
    go_ret
    exact ⟨ret_bool (by rw [← less_sameS, hx]; rfl), _, rfl⟩
  | false =>
    go_wp2_with fail
    refine (spec_l2LessS B m d ys lo' hi' A n c xs lo hi (w.drewN q) (g.same (fun _ _ _ => rfl)) (h.same (fun _ _ _ => rfl))).mono ?_
    rintro e w1 ⟨rfl, q2, rfl⟩
    go_wp2_with fail
    go_ret
    exact ⟨ret_bool (by rw [← less_sameS, hx]; simp), _, by first | exact rfl | exact World.drewN_drewN _ _ _⟩

end Go.Proofs.YthjkdpapadolgaaGreatDoor
