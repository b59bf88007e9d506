/- Polynomials: whether they are well formed; the plain law and small walks. -/
import Derived.Test.YtjamdnbabfodkaaMono2
import Derived.Test.YtjamdnbabfodkaaPathW
namespace Go.Proofs.Ytjamdnbabfodkaa
open Go.RowKit
set_option linter.unusedSimpArgs false
set_option linter.unusedVariables false
set_option maxRecDepth 20000

def cmpI (a b : Int) : Int := if a < b then -1 else if b < a then 1 else 0
def cmpF : List Int → List Int → Int
  | [], [] => 0
  | [], _ :: _ => -1
  | _ :: _, [] => 1
  | a :: x, b :: y => if cmpI a b ≠ 0 then cmpI a b else cmpF x y
def lessF : List Int → List Int → Bool
  | _, [] => false
  | [], _ :: _ => true
  | a :: x, b :: y => if a ≠ b then decide (a < b) else lessF x y
theorem cmp_less : ∀ (q p : List Int), decide (cmpF q p ≤ 0) = !lessF p q
  | [], [] => rfl
  | [], _ :: _ => rfl
  | _ :: _, [] => rfl
  | a :: x, b :: y => by
    rw [cmpF, lessF]
    unfold cmpI
    by_cases h : a < b
    · rw [if_pos h, if_pos (by omega), if_pos (by omega), decide_eq_false (by omega : ¬ b < a)]; rfl
    · rw [if_neg h]
      by_cases h2 : b < a
      · rw [if_pos h2, if_pos (by omega), if_pos (by omega), decide_eq_true h2]; rfl
      · rw [if_neg h2, if_neg (by omega), if_neg (by omega)]
        exact cmp_less x y
def degGo : Int → List Int → Int
  | s, [] => s
  | s, p :: r => if p < 0 ∨ 5 < p then -1 else degGo (s + p) r
theorem degGo_bd : ∀ (l : List Int) (s : Int), 0 ≤ s → -1 ≤ degGo s l ∧ degGo s l ≤ s + 5 * l.length
  | [], s, h => by unfold degGo; simp; omega
  | p :: r, s, h => by
    rw [degGo]
    split
    · simp only [List.length_cons]; omega
    · have := degGo_bd r (s + p) (by omega)
      simp only [List.length_cons]; omega
def pless : Option (List Int) → List Int → Bool
  | none, _ => true
  | some q, xs => lessF xs q
def monoOk (dim : Int) (prev : Option (List Int)) (m : Mono) : Bool :=
  !(m.1 == 0) && isNumF m.1 && decide ((m.2.length : Int) = dim) && decide (0 ≤ degGo 0 m.2) && decide (degGo 0 m.2 ≤ 5) && pless prev m.2
def polyGo (dim : Int) : Option (List Int) → List Mono → Bool
  | _, [] => true
  | prev, m :: r => if monoOk dim prev m = true then polyGo dim (some m.2) r else false
def polyF (ms : List Mono) (dim : Int) : Bool := (decide (1 ≤ dim) && decide (dim ≤ 6)) && decide (ms.length ≤ 12) && polyGo dim none ms
def fieldGo (dim : Int) : List (List Mono) → Bool
  | [] => true
  | p :: r => if polyF p dim = true then fieldGo dim r else false
def fieldF (dim : Int) (ps : List (List Mono)) : Bool := (decide (1 ≤ dim) && decide (dim ≤ 6)) && decide ((ps.length : Int) = dim) && fieldGo dim ps

theorem impl_isDim (d : Int) (w : World) :
    Calls Try.prog 62 #[.int .i64 d] w fun e w' => e = .returned (.bool (decide (1 ≤ d) && decide (d ≤ 6))) ∧ w = w' := by
  by_cases h0 : 1 ≤ d
  · by_cases h1 : d ≤ 6
    · go_enter Try.func62, Try.ntmps62
      go_wp2_with fail
      go_ret
      exact ⟨by simp [h0, h1], rfl⟩
    · go_enter Try.func62, Try.ntmps62
      go_wp2_with fail
      go_ret
      exact ⟨by simp [h1], rfl⟩
  · go_enter Try.func62, Try.ntmps62
    go_wp2_with fail
    go_ret
    exact ⟨ret_bool (by simp; omega), rfl⟩

theorem cmp_Compare (a b : Int) (w : World) :
    Calls Try.prog 89 #[.int .i64 a, .int .i64 b] w fun e w' => e = .returned (.int .i64 (cmpI a b)) ∧ w = w' := by
  by_cases h : a < b
  · have hF : Hid (cmpI a b = -1) := if_pos h
    go_enter Try.func89, Try.ntmps89
    go_wp2
    go_ret
    exact ⟨ret_int hF.out.symm, rfl⟩
  · by_cases h2 : b < a
    · have hF : Hid (cmpI a b = 1) := by show _ = _; rw [cmpI, if_neg h, if_pos h2]
      go_enter Try.func89, Try.ntmps89
      go_wp2
      go_ret
      exact ⟨ret_int hF.out.symm, rfl⟩
    · have hF : Hid (cmpI a b = 0) := by show _ = _; rw [cmpI, if_neg h, if_neg h2]
      go_enter Try.func89, Try.ntmps89
      go_wp2
      go_ret
      exact ⟨ret_int hF.out.symm, rfl⟩

set_option maxHeartbeats 1000000 in
theorem slices_Compare (A : Option Addr) (n c : Nat) (xs : List Int) (lo hi : Nat) (B : Option Addr) (m d : Nat) (ys : List Int) (lo' hi' : Nat) (w : World) (h : Ints w lo hi A n c xs) (g : Ints w lo' hi' B m d ys) :
    Calls Try.prog 79 #[.slice A n c, .slice B m d] w fun e w' => e = .returned (.int .i64 (cmpF xs ys)) ∧ w = w' := by
  have hcp := h.cap
  have hm := h.max
  have gcp := g.cap
  have gm := g.max
  go_enter Try.func79, Try.ntmps79
  go_wp2_with fail
  go_loop [5, 6, 7, 8, 11] (fun _ _ _ _ i => ∃ (k : Nat), k ≤ n ∧ k ≤ m ∧ i = .int .i64 k ∧ Hid (cmpF xs ys = cmpF (xs.drop k) (ys.drop k))) (fun _ _ _ _ i => n - (intOf i).toNat)
  case atStart => exact ⟨0, by omega, by omega, rfl, rfl⟩
  case round =>
    obtain ⟨k, hk, hkm, rfl, hr⟩ := hrel
    by_cases hlt : k < n
    · obtain ⟨ad, x, rfl, hc, hxr, hdx, _⟩ := h.at_ hlt
      by_cases hlt2 : k < m
      · obtain ⟨ae, y, rfl, hd, hyr, hdy, _⟩ := g.at_ hlt2
        have hC := hide (cmp_Compare x y w)
        have hst : Hid (cmpF xs ys = if cmpI x y ≠ 0 then cmpI x y else cmpF (xs.drop (k+1)) (ys.drop (k+1))) := by show _ = _; rw [hr.out, hdx.out, hdy.out, cmpF]
        obtain ⟨z, hz⟩ : ∃ z, cmpI x y = z := ⟨_, rfl⟩
        rw [hz] at hC hst
        clear hz hxr hyr
        by_cases h0 : z = 0
        · have hst2 : Hid (cmpF xs ys = cmpF (xs.drop (k+1)) (ys.drop (k+1))) := hst.out.trans (if_neg (by omega))
          subst h0
          go_wp2_with fail
          refine hC.out.mono ?_
          rintro e w' ⟨rfl, rfl⟩
          go_wp2_with fail
          go_round
          case rel => exact ⟨k + 1, by omega, by omega, by go_num, hst2⟩
          case measure => simp [intOf]; omega
        · have hst2 : Hid (cmpF xs ys = z) := hst.out.trans (if_pos h0)
          have hz0 : (z != 0) = true := by simpa using h0
          go_wp2_with fail
          refine hC.out.mono ?_
          rintro e w' ⟨rfl, rfl⟩
          go_wp2_with fail
          go_ret
          exact ⟨ret_int hst2.out.symm, rfl⟩
      · obtain rfl : k = m := by omega
        have e := g.drop_end
        have hst2 : Hid (cmpF xs ys = 1) := by show _ = _; rw [hr.out, hdx.out, e.out, cmpF]
        go_wp2_with fail
        go_ret
        exact ⟨ret_int hst2.out.symm, rfl⟩
    · obtain rfl : k = n := by omega
      have e := h.drop_end
      by_cases hlt2 : k < m
      · obtain ⟨ae, y, rfl, _, _, hdy, _⟩ := g.at_ hlt2
        have hst2 : Hid (cmpF xs ys = -1) := by show _ = _; rw [hr.out, hdy.out, e.out, cmpF]
        go_wp2_with fail
        go_ret
        exact ⟨ret_int hst2.out.symm, rfl⟩
      · obtain rfl : k = m := by omega
        have e2 := g.drop_end
        have hst2 : Hid (cmpF xs ys = 0) := by show _ = _; rw [hr.out, e.out, e2.out, cmpF]
        go_wp2_with fail
        go_ret
        exact ⟨ret_int hst2.out.symm, rfl⟩

set_option maxHeartbeats 1000000 in
theorem spec_l2Less (A : Option Addr) (n c : Nat) (xs : List Int) (lo hi : Nat) (B : Option Addr) (m d : Nat) (ys : List Int) (lo' hi' : Nat) (w : World) (h : Ints w lo hi A n c xs) (g : Ints w lo' hi' B m d ys) :
    Calls Try.prog 87 #[.slice A n c, .slice B m d] w fun e w' => e = .returned (.bool (lessF xs ys)) ∧ ∃ q, w' = w.drewN q := by
  have hcp := h.cap
  have hm := h.max
  have gcp := g.cap
  have gm := g.max
  go_enter Try.func87, Try.ntmps87
  go_wp2_with fail
  go_loopw [5] (fun i wr => ∃ (k q : Nat), k ≤ n ∧ k ≤ m ∧ i = .int .i64 k ∧ wr = w.drewN q ∧ Hid (lessF xs ys = lessF (xs.drop k) (ys.drop k))) (fun i _ => n - (intOf i).toNat)
  case atStart => exact ⟨0, 0, by omega, by omega, rfl, rfl, rfl⟩
  case round =>
    obtain ⟨k, q, hk, hkm, rfl, rfl, hr⟩ := hrel
    by_cases hlt : k < n
    · obtain ⟨ad, x, rfl, hc, hxr, hdx, _⟩ := h.at_ hlt
      by_cases hlt2 : k < m
      · obtain ⟨ae, y, rfl, hd, hyr, hdy, _⟩ := g.at_ hlt2
        have hst : Hid (lessF xs ys = if x ≠ y then decide (x < y) else lessF (xs.drop (k+1)) (ys.drop (k+1))) := by show _ = _; rw [hr.out, hdx.out, hdy.out, lessF]
        by_cases h0 : x = y
        · have hst2 : Hid (lessF xs ys = lessF (xs.drop (k+1)) (ys.drop (k+1))) := hst.out.trans (if_neg (by simpa using h0))
          subst h0
          go_wp2_with fail
          go_quiet (fail)
          go_wp2_with fail
          go_roundw
          case rel => exact ⟨k + 1, _, by omega, by omega, by go_num, rfl, hst2⟩
          case measure => simp [intOf]; omega
        · have hst2 : Hid (lessF xs ys = decide (x < y)) := hst.out.trans (if_pos h0)
          have hne : (x != y) = true := by simpa using h0
          go_wp2_with fail
          go_quiet (fail)
          go_wp2_with fail
          go_quiet (fail)
          go_wp2_with fail
          go_ret
          exact ⟨ret_bool hst2.out.symm, _, (World.drewN_drewN _ _ _).trans (World.drewN_drewN _ _ _)⟩
      · obtain rfl : k = m := by omega
        have e := g.drop_end
        have hst2 : Hid (lessF xs ys = false) := by show _ = _; rw [hr.out, hdx.out, e.out, lessF]
        go_wp2_with fail
        go_ret
        exact ⟨ret_bool (by first | exact hst2.out.symm | (rw [hst2.out]; done) | (rw [hst2.out]; simp; done) | (rw [hst2.out]; simp; omega)), _, rfl⟩
    · obtain rfl : k = n := by omega
      have e := h.drop_end
      by_cases hlt2 : k < m
      · obtain ⟨ae, y, rfl, _, _, hdy, _⟩ := g.at_ hlt2
        have hst2 : Hid (lessF xs ys = true) := by show _ = _; rw [hr.out, hdy.out, e.out, lessF]
        go_wp2_with fail
        go_ret
        exact ⟨ret_bool (by first | exact hst2.out.symm | (rw [hst2.out]; done) | (rw [hst2.out]; simp; done) | (rw [hst2.out]; simp; omega)), _, rfl⟩
      · obtain rfl : k = m := by omega
        have e2 := g.drop_end
        have hst2 : Hid (lessF xs ys = false) := by show _ = _; rw [hr.out, e.out, e2.out, lessF]
        go_wp2_with fail
        go_ret
        exact ⟨ret_bool (by first | exact hst2.out.symm | (rw [hst2.out]; done) | (rw [hst2.out]; simp; done) | (rw [hst2.out]; simp; omega)), _, rfl⟩

set_option maxHeartbeats 1000000 in
theorem impl_degree (A : Option Addr) (n c : Nat) (xs : List Int) (lo hi : Nat) (w : World) (h : Ints w lo hi A n c xs) (hn : n ≤ 1048576) :
    Calls Try.prog 64 #[.slice A n c] w fun e w' => e = .returned (.int .i64 (degGo 0 xs)) ∧ w = w' := by
  have hcp := h.cap
  have hm := h.max
  go_enter Try.func64, Try.ntmps64
  go_wp2_with fail
  go_loop [3, 5, 8] (fun s _ i => ∃ (k : Nat) (r : Int), k ≤ n ∧ i = .int .i64 k ∧ s = .int .i64 r ∧ 0 ≤ r ∧ r ≤ 5 * (k : Int) ∧ Hid (degGo 0 xs = degGo r (xs.drop k))) (fun _ _ i => n - (intOf i).toNat)
  case atStart => exact ⟨0, 0, by omega, rfl, rfl, by omega, by omega, rfl⟩
  case round =>
    obtain ⟨k, r, hk, rfl, rfl, hr0, hr1, hr⟩ := hrel
    by_cases hlt : k < n
    · obtain ⟨ad, x, rfl, hc, hxr, hdx, _⟩ := h.at_ hlt
      have hst : Hid (degGo 0 xs = if x < 0 ∨ 5 < x then -1 else degGo (r + x) (xs.drop (k+1))) := by show _ = _; rw [hr.out, hdx.out, degGo]
      obtain ⟨hx1, hx2⟩ := hxr
      by_cases h0 : x < 0
      · have hst2 : Hid (degGo 0 xs = -1) := hst.out.trans (if_pos (.inl h0))
        go_wp2_with fail
        go_ret
        exact ⟨ret_int hst2.out.symm, rfl⟩
      · by_cases h5 : 5 < x
        · have hst2 : Hid (degGo 0 xs = -1) := hst.out.trans (if_pos (.inr h5))
          go_wp2_with fail
          go_ret
          exact ⟨ret_int hst2.out.symm, rfl⟩
        · have hst2 : Hid (degGo 0 xs = degGo (r + x) (xs.drop (k+1))) := hst.out.trans (if_neg (by omega))
          go_wp2_with fail
          go_round
          case rel => exact ⟨k + 1, r + x, by omega, by go_num, rfl, by omega, by omega, hst2⟩
          case measure => simp [intOf]; omega
    · obtain rfl : k = n := by omega
      have e := h.drop_end
      have hst2 : Hid (degGo 0 xs = r) := by show _ = _; rw [hr.out, e.out, degGo]
      go_wp2_with fail
      go_ret
      exact ⟨ret_int hst2.out.symm, rfl⟩
end Go.Proofs.Ytjamdnbabfodkaa
