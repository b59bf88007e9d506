/- Pairs of tableaus: the statements' helpers, PairOk of both texts. -/
import Derived.Test.YtfijcieponfcpaaGreatDoorTab
namespace Go.Proofs.YtfijcieponfcpaaGreatDoor
open Go.RowKit
set_option linter.unusedSimpArgs false
set_option linter.unusedVariables false
set_option maxRecDepth 20000

def sz4F (n m n' m' : Nat) (left : Int) : Int := if left < (n : Int) + m then -1 else sz2F n' m' (left - n - m)
theorem sz4F_ok {n m n' m' : Nat} {left : Int} (h : (n : Int) + m + n' + m' ≤ left) : sz4F n m n' m' left = left - n - m - n' - m' := by
  unfold sz4F
  rw [if_neg (by omega), sz2F_ok (by omega)]
theorem sz4F_big {n m n' m' : Nat} {left : Int} (h : left < (n : Int) + m + n' + m') : sz4F n m n' m' left = -1 := by
  unfold sz4F
  split
  · rfl
  · exact sz2F_big (by omega)
theorem sz2F_bd (n m : Nat) (left : Int) (h : 0 ≤ left) (h1 : left ≤ 1048576) : -1 ≤ sz2F n m left ∧ sz2F n m left ≤ 1048576 := by
  unfold sz2F
  split
  · omega
  · split <;> omega
theorem sz2F_neg {n m : Nat} {left : Int} (h : sz2F n m left < 0) : sz2F n m left = -1 := by
  unfold sz2F at h ⊢
  split
  · rfl
  · split
    · rfl
    · rename_i h1 h2; rw [if_neg h1, if_neg h2] at h; omega

def pairEqF (s : Int) (xs ys : List Int) (s' : Int) (xs' ys' : List Int) (t : Int) (us vs : List Int) (t' : Int) (us' vs' : List Int) : Bool := tabEqF s xs ys t us vs && tabEqF s' xs' ys' t' us' vs'
def pairOkF (s : Int) (xs ys : List Int) (s' : Int) (xs' ys' : List Int) : Bool := tabOkF s xs ys && (tabOkF s' xs' ys' && (s == s'))

set_option maxHeartbeats 1000000 in
theorem laws_eqPair (s : Int) (A : Option Addr) (n c : Nat) (xs : List Int) (B : Option Addr) (m d : Nat) (ys : List Int) (s' : Int) (A' : Option Addr) (n' c' : Nat) (xs' : List Int) (B' : Option Addr) (m' d' : Nat) (ys' : List Int) (lo hi : Nat) (t : Int) (C : Option Addr) (k e : Nat) (us : List Int) (D : Option Addr) (l f : Nat) (vs : List Int) (t' : Int) (C' : Option Addr) (k' e' : Nat) (us' : List Int) (D' : Option Addr) (l' f' : Nat) (vs' : List Int) (lo' hi' : Nat) (w : World)
    (h : Ints w lo hi A n c xs) (g : Ints w lo hi B m d ys) (h' : Ints w lo hi A' n' c' xs') (g' : Ints w lo hi B' m' d' ys') (p : Ints w lo' hi' C k e us) (q : Ints w lo' hi' D l f vs) (p' : Ints w lo' hi' C' k' e' us') (q' : Ints w lo' hi' D' l' f' vs') (hh : hi ≤ w.heap.size) (hh' : hi' ≤ w.heap.size) :
    Calls Tryz.prog 6 #[.agg #[.int .i64 s, .slice A n c, .slice B m d, .int .i64 s', .slice A' n' c', .slice B' m' d'], .agg #[.int .i64 t, .slice C k e, .slice D l f, .int .i64 t', .slice C' k' e', .slice D' l' f']] w fun e w' => e = .returned (.bool (pairEqF s xs ys s' xs' ys' t us vs t' us' vs')) ∧ Below w.heap.size w w' := by
  have a1 := below_alloc w (.cells #[.int .i64 s, .slice A n c, .slice B m d, .int .i64 s', .slice A' n' c', .slice B' m' d'] 26)
  have j1 := BlkN.new w #[.int .i64 s, .slice A n c, .slice B m d, .int .i64 s', .slice A' n' c', .slice B' m' d'] 26
  have a2 := below_alloc (w.alloc (.cells #[.int .i64 s, .slice A n c, .slice B m d, .int .i64 s', .slice A' n' c', .slice B' m' d'] 26)) (.cells #[.int .i64 t, .slice C k e, .slice D l f, .int .i64 t', .slice C' k' e', .slice D' l' f'] 26)
  have j1b := j1.below a2
  have j2 := BlkN.new (w.alloc (.cells #[.int .i64 s, .slice A n c, .slice B m d, .int .i64 s', .slice A' n' c', .slice B' m' d'] 26)) #[.int .i64 t, .slice C k e, .slice D l f, .int .i64 t', .slice C' k' e', .slice D' l' f'] 26
  have c0 := a1.trans (a2.mono a1.size)
  simp only [World.size_alloc] at j2
  have z0 := c0.size
  clear a1 a2 j1
  have h1 := h.below c0 hh
  have g1 := g.below c0 hh
  have h1' := h'.below c0 hh
  have g1' := g'.below c0 hh
  have p1 := p.below c0 hh'
  have q1 := q.below c0 hh'
  have p1' := p'.below c0 hh'
  have q1' := q'.below c0 hh'
  go_enter Tryz.func6, Tryz.ntmps6
  go_wp2_with fail
  generalize (w.alloc (.cells #[.int .i64 s, .slice A n c, .slice B m d, .int .i64 s', .slice A' n' c', .slice B' m' d'] 26)).alloc (.cells #[.int .i64 t, .slice C k e, .slice D l f, .int .i64 t', .slice C' k' e', .slice D' l' f'] 26) = W at c0 j1b j2 z0 h1 g1 h1' g1' p1 q1 p1' q1' ⊢
  refine (laws_eqTableau s A n c xs B m d ys lo hi t C k e us D l f vs lo' hi' W h1 g1 p1 q1 (by omega) (by omega)).mono ?_
  rintro e0 w1 ⟨rfl, b1⟩
  have B1 := c0.trans (b1.mono z0)
  have z1 := B1.size
  have k1 := j1b.below b1
  have k2 := j2.below b1
  cases hA : tabEqF s xs ys t us vs with
  | false =>
    have hF : Hid (pairEqF s xs ys s' xs' ys' t us vs t' us' vs' = false) := by show _ = _; unfold pairEqF; rw [hA]; rfl
    clear hA k1 k2 j1b j2
    go_wp2_with fail
    go_ret
    exact ⟨ret_bool hF.out.symm, B1⟩
  | true =>
    have hF : Hid (pairEqF s xs ys s' xs' ys' t us vs t' us' vs' = tabEqF s' xs' ys' t' us' vs') := by show _ = _; unfold pairEqF; rw [hA]; rfl
    have e3 := k1.c 3 rfl
    have e4 := k1.c 4 rfl
    have e5 := k1.c 5 rfl
    have f3 := k2.c 3 rfl
    have f4 := k2.c 4 rfl
    have f5 := k2.c 5 rfl
    clear hA
    go_wp2_with fail
    clear e3 e4 e5 f3 f4 f5
    refine (laws_eqTableau s' A' n' c' xs' B' m' d' ys' lo hi t' C' k' e' us' D' l' f' vs' lo' hi' w1 (h1'.below b1 (by omega)) (g1'.below b1 (by omega)) (p1'.below b1 (by omega)) (q1'.below b1 (by omega)) (by omega) (by omega)).mono ?_
    rintro e0 w2 ⟨rfl, b2⟩
    have B2 := B1.trans (b2.mono z1)
    clear k1 k2 j1b j2
    cases hB : tabEqF s' xs' ys' t' us' vs' with
    | false =>
      rw [hB] at hF
      clear hB
      go_wp2_with fail
      go_ret
      exact ⟨ret_bool hF.out.symm, B2⟩
    | true =>
      rw [hB] at hF
      clear hB
      go_wp2_with fail
      go_ret
      exact ⟨ret_bool hF.out.symm, B2⟩
theorem pairEq_refl (s : Int) (xs ys : List Int) (s' : Int) (xs' ys' : List Int) : pairEqF s xs ys s' xs' ys' s xs ys s' xs' ys' = true := by
  unfold pairEqF tabEqF
  simp

end Go.Proofs.YtfijcieponfcpaaGreatDoor
