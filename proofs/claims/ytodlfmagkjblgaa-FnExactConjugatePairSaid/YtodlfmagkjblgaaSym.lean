/- Symplectic pairs: the walks of both texts. -/
import Derived.Test.YtodlfmagkjblgaaPr
namespace Go.Proofs.Ytodlfmagkjblgaa
open Go.RowKit
set_option linter.unusedSimpArgs false
set_option linter.unusedVariables false
set_option maxRecDepth 20000

theorem slices_Equal (A : Option Addr) (n c : Nat) (xs : List Int) (lo hi : Nat) (B : Option Addr) (m d : Nat) (ys : List Int) (lo' hi' : Nat) (w : World) (h : Ints w lo hi A n c xs) (g : Ints w lo' hi' B m d ys) :
    Calls Try.prog 121 #[.slice A n c, .slice B m d] w fun e w' => e = .returned (.bool (decide (xs = ys))) ∧ ∃ q, w' = w.drewN q := by
  have hcp := h.cap
  have hm := h.max
  have gcp := g.cap
  have gm := g.max
  by_cases hnm : n = m
  · subst hnm
    go_enter Try.func121, Try.ntmps121
    go_wp2
    go_loopw [5, 13] (fun _ i wr => ∃ (k q : Nat), k ≤ n ∧ i = .int .i64 k ∧ wr = w.drewN q ∧ Hid (xs.take k = ys.take k)) (fun _ i _ => n - (intOf i).toNat)
    case atStart => exact ⟨0, 0, by omega, rfl, rfl, rfl⟩
    case round =>
      obtain ⟨k, q, hk, rfl, rfl, hr⟩ := hrel
      by_cases hlt : k < n
      · obtain ⟨ad, x, rfl, hc, _, _, hx⟩ := h.at_ hlt
        obtain ⟨ae, y, rfl, hd, _, _, hy⟩ := g.at_ hlt
        by_cases hxy : x = y
        · subst hxy
          go_wp2
          go_quiet (fail)
          go_wp2
          go_roundw
          case rel => exact ⟨k + 1, _, by omega, by go_num, rfl, take_snoc_eq hr.out hx.out hy.out⟩
          case measure => simp [intOf]; omega
        · have hne : (x != y) = true := by simpa using hxy
          have hF : Hid (¬ xs = ys) := fun e => by
            have h1 := hx.out
            rw [e, hy.out] at h1
            exact hxy (by injection h1 with h1; exact h1.symm)
          clear hxy
          go_wp2
          go_quiet (fail)
          go_wp2
          go_ret
          exact ⟨ret_bool (by simpa using hF.out), _, World.drewN_drewN _ _ _⟩
      · obtain rfl : k = n := by omega
        go_wp2
        go_ret
        refine ⟨ret_bool ?_, _, rfl⟩
        have h1 := hr.out
        have h2 := h.len
        have h3 := g.len
        rw [List.take_of_length_le (by omega), List.take_of_length_le (by omega)] at h1
        simpa using h1
  · have hne : ((n : Int) != (m : Int)) = true := by simpa using (by omega : ¬ (n : Int) = m)
    have hF : Hid (¬ xs = ys) := fun e => hnm (by rw [← h.len, ← g.len, e])
    clear hnm
    go_enter Try.func121, Try.ntmps121
    go_wp2
    go_ret
    exact ⟨ret_bool (by simpa using hF.out), 0, rfl⟩

def lessF : List Int → List Int → Bool
  | [], [] => false
  | [], _ :: _ => true
  | _ :: _, [] => false
  | x :: xs, y :: ys => if x = y then lessF xs ys else decide (x < y)
theorem less_same (xs ys : List Int) : (!lessF xs ys && !lessF ys xs) = decide (xs = ys) := by
  induction xs generalizing ys with
  | nil => cases ys <;> rfl
  | cons x xs ih =>
    cases ys with
    | nil => rfl
    | cons y ys =>
      rw [lessF, lessF]
      by_cases h : x = y
      · subst h
        rw [if_pos rfl, if_pos rfl, ih]
        simp
      · rw [if_neg h, if_neg (Ne.symm h)]
        have : decide (x :: xs = y :: ys) = false := decide_eq_false (fun e => h (by injection e))
        rw [this]
        rcases (show x < y ∨ y < x by omega) with q | q
        · simp [q]
        · simp [q]

theorem spec_l2Less (A : Option Addr) (n c : Nat) (xs : List Int) (lo hi : Nat) (B : Option Addr) (m d : Nat) (ys : List Int) (lo' hi' : Nat) (w : World) (h : Ints w lo hi A n c xs) (g : Ints w lo' hi' B m d ys) :
    Calls Try.prog 120 #[.slice A n c, .slice B m d] w fun e w' => e = .returned (.bool (lessF xs ys)) ∧ ∃ q, w' = w.drewN q := by
  have hcp := h.cap
  have hm := h.max
  have gcp := g.cap
  have gm := g.max
  go_enter Try.func120, Try.ntmps120
  go_wp2
  go_loopw [5] (fun i wr => ∃ (k q : Nat), k ≤ n ∧ k ≤ m ∧ i = .int .i64 k ∧ wr = w.drewN q ∧ Hid (lessF xs ys = lessF (xs.drop k) (ys.drop k))) (fun i _ => n - (intOf i).toNat)
  case atStart => exact ⟨0, 0, by omega, by omega, rfl, rfl, rfl⟩
  case round =>
    obtain ⟨k, q, hk, hk2, rfl, rfl, hr⟩ := hrel
    by_cases hlt : k < n
    · by_cases hlt2 : k < m
      · obtain ⟨ad, x, rfl, hc, _, hdx, hx⟩ := h.at_ hlt
        obtain ⟨ae, y, rfl, hd, _, hdy, hy⟩ := g.at_ hlt2
        have hE : Hid (lessF xs ys = if x = y then lessF (xs.drop (k + 1)) (ys.drop (k + 1)) else decide (x < y)) := by
          show _ = _
          rw [hr.out, hdx.out, hdy.out, lessF]
        by_cases hxy : x = y
        · have hE2 : Hid (lessF xs ys = lessF (xs.drop (k + 1)) (ys.drop (k + 1))) := hide (hE.out.trans (if_pos hxy))
          subst hxy
          clear hr hE hdx hdy
          go_wp2
          go_quiet (fail)
          go_wp2
          go_roundw
          case rel => exact ⟨k + 1, _, by omega, by omega, by go_num, rfl, hE2⟩
          case measure => simp [intOf]; omega
        · have hne : (x != y) = true := by simpa using hxy
          have hE2 : Hid (lessF xs ys = decide (x < y)) := hide (hE.out.trans (if_neg hxy))
          clear hr hE hdx hdy hxy
          go_wp2
          go_quiet (fail)
          go_wp2
          go_quiet (fail)
          go_wp2
          go_ret
          exact ⟨ret_bool hE2.out.symm, _, by rw [World.drewN_drewN, World.drewN_drewN]⟩
      · obtain rfl : k = m := by omega
        have e := g.drop_end
        have hE2 : Hid (lessF xs ys = decide (n < k)) := by
          show _ = _
          rw [hr.out, e.out, decide_eq_false (by omega)]
          obtain ⟨ad, x, _, _, _, hdx, _⟩ := h.at_ hlt
          rw [hdx.out]
          rfl
        clear hr
        go_wp2
        go_ret
        exact ⟨ret_bool hE2.out.symm, _, rfl⟩
    · obtain rfl : k = n := by omega
      have e := h.drop_end
      have hE2 : Hid (lessF xs ys = decide (k < m)) := by
        show _ = _
        rw [hr.out, e.out]
        by_cases hlt2 : k < m
        · obtain ⟨ad, x, _, _, _, hdx, _⟩ := g.at_ hlt2
          rw [hdx.out, decide_eq_true (by omega)]
          rfl
        · obtain rfl : k = m := by omega
          rw [g.drop_end.out, decide_eq_false (by omega)]
          rfl
      clear hr
      go_wp2
      go_ret
      exact ⟨ret_bool hE2.out.symm, _, rfl⟩

theorem spec_l2Same (A : Option Addr) (n c : Nat) (xs : List Int) (lo hi : Nat) (B : Option Addr) (m d : Nat) (ys : List Int) (lo' hi' : Nat) (w : World) (h : Ints w lo hi A n c xs) (g : Ints w lo' hi' B m d ys) :
    Calls Try.prog 61 #[.slice A n c, .slice B m d] w fun e w' => e = .returned (.bool (decide (xs = ys))) ∧ ∃ q, w' = w.drewN q := by
  go_enter Try.func61, Try.ntmps61
  go_wp2_with fail
  refine (spec_l2Less A n c xs lo hi B m d ys lo' hi' w h g).mono ?_
  rintro e w1 ⟨rfl, q, rfl⟩
  cases hx : lessF xs ys with
  | true =>
    go_wp2_with fail
    go_ret
    exact ⟨ret_bool (by rw [← less_same, hx]; rfl), _, rfl⟩
  | false =>
    go_wp2_with fail
    refine (spec_l2Less B m d ys lo' hi' A n c xs lo hi (w.drewN q) (g.same (fun _ _ _ => rfl)) (h.same (fun _ _ _ => rfl))).mono ?_
    rintro e w1 ⟨rfl, q2, rfl⟩
    go_wp2_with fail
    go_ret
    exact ⟨ret_bool (by rw [← less_same, hx]; simp), _, by first | exact rfl | exact World.drewN_drewN _ _ _⟩

theorem impl_a (s : Nat) (A : Option Addr) (n c : Nat) (xs : List Int) (B : Option Addr) (m d : Nat) (i j : Nat) (lo hi : Nat) (w : World) (h : Ints w lo hi A n c xs) (hh : hi ≤ w.heap.size) (hs : s ≤ 8) (hn : n = s * s) (hi' : i < s) (hj : j < s) :
    Calls Try.prog 99 #[.agg #[.int .i64 (s : Int), .slice A n c, .slice B m d], .int .i64 (i : Int), .int .i64 (j : Int)] w fun e w' => e = .returned (.int .i64 (xs.getD (i * s + j) 0)) ∧ Below w.heap.size w w' := by
  have a1 := below_alloc w (.cells #[.int .i64 (s : Int), .slice A n c, .slice B m d] 29)
  have hcp := h.cap
  have hmx := h.max
  have hlt : i * s + j < n := by
    rw [hn]
    have : (i + 1) * s ≤ s * s := Nat.mul_le_mul_right _ hi'
    rw [Nat.add_mul] at this
    omega
  have hn64 : n ≤ 64 := by rw [hn]; exact Nat.mul_le_mul hs hs
  obtain ⟨ad, x, rfl, hc, _, _, hx⟩ := (h.below a1 hh).at_ hlt
  have hF : Hid (xs.getD (i * s + j) 0 = x) := by show _ = _; rw [List.getD, hx.out]; rfl
  obtain ⟨q, hq⟩ : ∃ q : Nat, q = i * s := ⟨_, rfl⟩
  rw [← hq] at hlt hc hF
  have hqi : (i : Int) * (s : Int) = (q : Int) := by rw [hq]; simp
  have hw1 := IntWalk.i64_in (q : Int) (by omega)
  have hw2 := IntWalk.i64_in ((q : Int) + (j : Int)) (by omega)
  have hb : (q : Int) + (j : Int) < (n : Int) := by omega
  have ht : ((q : Int) + (j : Int)).toNat = q + j := by omega
  rw [← hq]
  clear hq hx hn
  go_enter Try.func99, Try.ntmps99
  go_wp2_with fail
  go_ret
  exact ⟨ret_int hF.out.symm, a1⟩
end Go.Proofs.Ytodlfmagkjblgaa
