/- Pairs of tableaus: the statements' helpers, PairOk of both texts. -/
import Derived.Test.YthjkdpapadolgaaGreatDoorTab
namespace Go.Proofs.YthjkdpapadolgaaGreatDoor
open Go.RowKit
set_option linter.unusedSimpArgs false
set_option linter.unusedVariables false
set_option maxRecDepth 20000

def sz4F (n m n' m' : Nat) (left : Int) : Int := if left < (n : Int) + m then -1 else sz2F n' m' (left - n - m)
theorem sz4F_ok {n m n' m' : Nat} {left : Int} (h : (n : Int) + m + n' + m' ≤ left) : sz4F n m n' m' left = left - n - m - n' - m' := by
  unfold sz4F
  rw [if_neg (by omega), sz2F_ok (by omega)]
theorem sz4F_big {n m n' m' : Nat} {left : Int} (h : left < (n : Int) + m + n' + m') : sz4F n m n' m' left = -1 := by
  unfold sz4F
  split
  · rfl
  · exact sz2F_big (by omega)
theorem sz2F_bd (n m : Nat) (left : Int) (h : 0 ≤ left) (h1 : left ≤ 1048576) : -1 ≤ sz2F n m left ∧ sz2F n m left ≤ 1048576 := by
  unfold sz2F
  split
  · omega
  · split <;> omega
theorem sz2F_neg {n m : Nat} {left : Int} (h : sz2F n m left < 0) : sz2F n m left = -1 := by
  unfold sz2F at h ⊢
  split
  · rfl
  · split
    · rfl
    · rename_i h1 h2; rw [if_neg h1, if_neg h2] at h; omega

theorem laws_szPair (s : Int) (A : Option Addr) (n c : Nat) (B : Option Addr) (m d : Nat) (s' : Int) (A' : Option Addr) (n' c' : Nat) (B' : Option Addr) (m' d' : Nat) (left : Int) (w : World) (hn : n ≤ 9223372036854775807) (hm : m ≤ 9223372036854775807) (hn' : n' ≤ 9223372036854775807) (hm' : m' ≤ 9223372036854775807) (h0 : 0 ≤ left) (h1 : left ≤ 1048576) :
    Calls Tryz.prog 4 #[.agg #[.int .i64 s, .slice A n c, .slice B m d, .int .i64 s', .slice A' n' c', .slice B' m' d'], .int .i64 left] w fun e w' => e = .returned (.int .i64 (sz4F n m n' m' left)) ∧ Below w.heap.size w w' := by
  have a1 := below_alloc w (.cells #[.int .i64 s, .slice A n c, .slice B m d, .int .i64 s', .slice A' n' c', .slice B' m' d'] 26)
  have j1 := BlkN.new w #[.int .i64 s, .slice A n c, .slice B m d, .int .i64 s', .slice A' n' c', .slice B' m' d'] 26
  have z0 := a1.size
  by_cases hA : left < (n : Int) + m
  · have hF : Hid (sz4F n m n' m' left = -1) := if_pos hA
    have hA' := sz2F_big hA
    go_enter Tryz.func4, Tryz.ntmps4
    go_wp2_with fail
    generalize World.alloc w (.cells #[.int .i64 s, .slice A n c, .slice B m d, .int .i64 s', .slice A' n' c', .slice B' m' d'] 26) = W at a1 j1 z0 ⊢
    refine (laws_szTableau s A n c B m d left W hn hm h0 h1).mono ?_
    rintro e w1 ⟨rfl, b1⟩
    rw [hA']
    have B1 := a1.trans (b1.mono z0)
    go_wp2_with fail
    go_ret
    exact ⟨ret_int hF.out.symm, B1⟩
  · have hF : Hid (sz4F n m n' m' left = sz2F n' m' (left - n - m)) := if_neg hA
    have hA' : sz2F n m left = left - n - m := sz2F_ok (by omega)
    have hl0 : 0 ≤ left - n - m := by omega
    have hl1 : left - n - m ≤ 1048576 := by omega
    have hb := sz2F_bd n' m' (left - n - m) hl0 hl1
    go_enter Tryz.func4, Tryz.ntmps4
    go_wp2_with fail
    generalize World.alloc w (.cells #[.int .i64 s, .slice A n c, .slice B m d, .int .i64 s', .slice A' n' c', .slice B' m' d'] 26) = W at a1 j1 z0 ⊢
    refine (laws_szTableau s A n c B m d left W hn hm h0 h1).mono ?_
    rintro e w1 ⟨rfl, b1⟩
    rw [hA']
    clear hA'
    have k1 := j1.below b1
    have B1 := a1.trans (b1.mono z0)
    have p3 := k1.c 3 rfl
    have p4 := k1.c 4 rfl
    have p5 := k1.c 5 rfl
    have z1 := B1.size
    go_wp2_with fail
    clear p3 p4 p5
    refine (laws_szTableau s' A' n' c' B' m' d' (left - n - m) w1 hn' hm' hl0 hl1).mono ?_
    rintro e w2 ⟨rfl, b2⟩
    have B2 := B1.trans (b2.mono z1)
    clear k1 j1
    by_cases hneg : sz2F n' m' (left - n - m) < 0
    · have hF2 : Hid (sz4F n m n' m' left = -1) := hide (hF.out.trans (sz2F_neg hneg))
      go_wp2_with fail
      go_ret
      exact ⟨ret_int hF2.out.symm, B2⟩
    · go_wp2_with fail
      go_ret
      exact ⟨ret_int hF.out.symm, B2⟩

def pairEqF (s : Int) (xs ys : List Int) (s' : Int) (xs' ys' : List Int) (t : Int) (us vs : List Int) (t' : Int) (us' vs' : List Int) : Bool := tabEqF s xs ys t us vs && tabEqF s' xs' ys' t' us' vs'
def pairOkF (s : Int) (xs ys : List Int) (s' : Int) (xs' ys' : List Int) : Bool := tabOkF s xs ys && (tabOkF s' xs' ys' && (s == s'))

set_option maxHeartbeats 1000000 in
theorem impl_PairOk (s : Int) (A : Option Addr) (n c : Nat) (xs : List Int) (B : Option Addr) (m d : Nat) (ys : List Int) (s' : Int) (A' : Option Addr) (n' c' : Nat) (xs' : List Int) (B' : Option Addr) (m' d' : Nat) (ys' : List Int) (lo hi : Nat) (w : World) (h : Ints w lo hi A n c xs) (g : Ints w lo hi B m d ys) (h' : Ints w lo hi A' n' c' xs') (g' : Ints w lo hi B' m' d' ys') (hh : hi ≤ w.heap.size) :
    Calls Tryz.prog 16 #[.agg #[.int .i64 s, .slice A n c, .slice B m d, .int .i64 s', .slice A' n' c', .slice B' m' d']] w fun e w' => e = .returned (.bool (pairOkF s xs ys s' xs' ys')) ∧ Below w.heap.size w w' := by
  have a1 := below_alloc w (.cells #[.int .i64 s, .slice A n c, .slice B m d, .int .i64 s', .slice A' n' c', .slice B' m' d'] 31)
  have j1 := BlkN.new w #[.int .i64 s, .slice A n c, .slice B m d, .int .i64 s', .slice A' n' c', .slice B' m' d'] 31
  have z0 := a1.size
  have h1 := h.below a1 hh
  have g1 := g.below a1 hh
  go_enter Tryz.func16, Tryz.ntmps16
  go_wp2_with fail
  generalize World.alloc w (.cells #[.int .i64 s, .slice A n c, .slice B m d, .int .i64 s', .slice A' n' c', .slice B' m' d'] 31) = W at a1 j1 z0 h1 g1 ⊢
  refine (impl_TableauOk s A n c xs B m d ys lo hi W h1 g1 (by omega)).mono ?_
  rintro e w1 ⟨rfl, b1⟩
  have k1 := j1.below b1
  have B1 := a1.trans (b1.mono z0)
  have z1 := B1.size
  cases hA : tabOkF s xs ys with
  | false =>
    have hF : Hid (pairOkF s xs ys s' xs' ys' = false) := by show _ = _; unfold pairOkF; rw [hA]; rfl
    clear hA k1 j1
    go_wp2_with fail
    go_ret
    exact ⟨ret_bool hF.out.symm, B1⟩
  | true =>
    have hF : Hid (pairOkF s xs ys s' xs' ys' = (tabOkF s' xs' ys' && (s == s'))) := by show _ = _; unfold pairOkF; rw [hA]; rfl
    have p3 := k1.c 3 rfl
    have p4 := k1.c 4 rfl
    have p5 := k1.c 5 rfl
    clear hA
    go_wp2_with fail
    clear p3 p4 p5
    refine (impl_TableauOk s' A' n' c' xs' B' m' d' ys' lo hi w1 (h'.below B1 hh) (g'.below B1 hh) (by omega)).mono ?_
    rintro e w2 ⟨rfl, b2⟩
    have l1 := k1.below b2
    have B2 := B1.trans (b2.mono z1)
    have p0 := l1.c 0 rfl
    have p3 := l1.c 3 rfl
    clear k1 j1 l1
    cases hB : tabOkF s' xs' ys' with
    | false =>
      rw [hB] at hF
      clear hB
      go_wp2_with fail
      go_ret
      exact ⟨ret_bool hF.out.symm, B2⟩
    | true =>
      rw [hB, Bool.true_and] at hF
      clear hB
      go_wp2_with fail
      go_ret
      exact ⟨ret_bool hF.out.symm, B2⟩

set_option maxHeartbeats 1000000 in
theorem spec_PairOk (s : Int) (A : Option Addr) (n c : Nat) (xs : List Int) (B : Option Addr) (m d : Nat) (ys : List Int) (s' : Int) (A' : Option Addr) (n' c' : Nat) (xs' : List Int) (B' : Option Addr) (m' d' : Nat) (ys' : List Int) (lo hi : Nat) (w : World) (h : Ints w lo hi A n c xs) (g : Ints w lo hi B m d ys) (h' : Ints w lo hi A' n' c' xs') (g' : Ints w lo hi B' m' d' ys') (hh : hi ≤ w.heap.size) :
    Calls Tryz.prog 11 #[.agg #[.int .i64 s, .slice A n c, .slice B m d, .int .i64 s', .slice A' n' c', .slice B' m' d']] w fun e w' => e = .returned (.bool (pairOkF s xs ys s' xs' ys')) ∧ Below w.heap.size w w' := by
  have a1 := below_alloc w (.cells #[.int .i64 s, .slice A n c, .slice B m d, .int .i64 s', .slice A' n' c', .slice B' m' d'] 31)
  have j1 := BlkN.new w #[.int .i64 s, .slice A n c, .slice B m d, .int .i64 s', .slice A' n' c', .slice B' m' d'] 31
  have z0 := a1.size
  have h1 := h.below a1 hh
  have g1 := g.below a1 hh
  go_enter Tryz.func11, Tryz.ntmps11
  go_wp2_with fail
  generalize World.alloc w (.cells #[.int .i64 s, .slice A n c, .slice B m d, .int .i64 s', .slice A' n' c', .slice B' m' d'] 31) = W at a1 j1 z0 h1 g1 ⊢
  refine (spec_TableauOk s A n c xs B m d ys lo hi W h1 g1 (by omega)).mono ?_
  rintro e w1 ⟨rfl, b1⟩
  have k1 := j1.below b1
  have B1 := a1.trans (b1.mono z0)
  have z1 := B1.size
  cases hA : tabOkF s xs ys with
  | false =>
    have hF : Hid (pairOkF s xs ys s' xs' ys' = false) := by show _ = _; unfold pairOkF; rw [hA]; rfl
    clear hA k1 j1
    go_wp2_with fail
    go_ret
    exact ⟨ret_bool hF.out.symm, B1⟩
  | true =>
    have hF : Hid (pairOkF s xs ys s' xs' ys' = (tabOkF s' xs' ys' && (s == s'))) := by show _ = _; unfold pairOkF; rw [hA]; rfl
    have p3 := k1.c 3 rfl
    have p4 := k1.c 4 rfl
    have p5 := k1.c 5 rfl
    clear hA
    go_wp2_with fail
    clear p3 p4 p5
    refine (spec_TableauOk s' A' n' c' xs' B' m' d' ys' lo hi w1 (h'.below B1 hh) (g'.below B1 hh) (by omega)).mono ?_
    rintro e w2 ⟨rfl, b2⟩
    have l1 := k1.below b2
    have B2 := B1.trans (b2.mono z1)
    have p0 := l1.c 0 rfl
    have p3 := l1.c 3 rfl
    clear k1 j1 l1
    cases hB : tabOkF s' xs' ys' with
    | false =>
      rw [hB] at hF
      clear hB
      go_wp2_with fail
      go_ret
      exact ⟨ret_bool hF.out.symm, B2⟩
    | true =>
      rw [hB, Bool.true_and] at hF
      clear hB
      go_wp2_with fail
      go_ret
      exact ⟨ret_bool hF.out.symm, B2⟩

set_option maxRecDepth 100000 in
set_option maxHeartbeats 2000000 in
theorem laws_toPair (s : Int) (A : Option Addr) (n c : Nat) (xs : List Int) (B : Option Addr) (m d : Nat) (ys : List Int) (s' : Int) (A' : Option Addr) (n' c' : Nat) (xs' : List Int) (B' : Option Addr) (m' d' : Nat) (ys' : List Int) (lo hi : Nat) (w : World) (h : Ints w lo hi A n c xs) (g : Ints w lo hi B m d ys) (h' : Ints w lo hi A' n' c' xs') (g' : Ints w lo hi B' m' d' ys') (hh : hi ≤ w.heap.size) (hn : n ≤ 1048576) (hm : m ≤ 1048576) (hn' : n' ≤ 1048576) (hm' : m' ≤ 1048576) :
    Calls Tryz.prog 6 #[.agg #[.int .i64 s, .slice A n c, .slice B m d, .int .i64 s', .slice A' n' c', .slice B' m' d']] w fun e w' => ∃ A1 c1 B1 d1 A2 c2 B2 d2 m1 m2 m3, e = .returned (.agg #[.int .i64 s, .slice A1 n c1, .slice B1 m d1, .int .i64 s', .slice A2 n' c2, .slice B2 m' d2]) ∧
      OwnI w' w.heap.size m1 A1 n c1 xs ∧ OwnI w' m1 m2 B1 m d1 ys ∧ OwnI w' m2 m3 A2 n' c2 xs' ∧ OwnI w' m3 w'.heap.size B2 m' d2 ys' ∧ (w.heap.size ≤ m1 ∧ m1 ≤ m2 ∧ m2 ≤ m3 ∧ m3 ≤ w'.heap.size) ∧ Below w.heap.size w w' := by
  have a1 := below_alloc w (.cells #[.int .i64 s, .slice A n c, .slice B m d, .int .i64 s', .slice A' n' c', .slice B' m' d'] 26)
  have j1 := BlkN.new w #[.int .i64 s, .slice A n c, .slice B m d, .int .i64 s', .slice A' n' c', .slice B' m' d'] 26
  generalize hW1 : w.alloc (.cells #[.int .i64 s, .slice A n c, .slice B m d, .int .i64 s', .slice A' n' c', .slice B' m' d'] 26) = W1 at a1 j1
  have s1 : W1.heap.size = w.heap.size + 1 := by rw [← hW1]; simp
  have a2 := below_alloc W1 (.cells #[.int .i64 0, .slice none 0 0, .slice none 0 0, .int .i64 0, .slice none 0 0, .slice none 0 0] 31)
  have j2 := BlkN.new W1 #[.int .i64 0, .slice none 0 0, .slice none 0 0, .int .i64 0, .slice none 0 0, .slice none 0 0] 31
  have j1b := j1.below a2
  generalize hW2 : W1.alloc (.cells #[.int .i64 0, .slice none 0 0, .slice none 0 0, .int .i64 0, .slice none 0 0, .slice none 0 0] 31) = W2 at a2 j2 j1b
  have s2 : W2.heap.size = w.heap.size + 1 + 1 := by rw [← hW2]; simp; omega
  have a3 := below_alloc W2 (.cells #[.int .i64 0, .slice none 0 0, .slice none 0 0, .int .i64 0, .slice none 0 0, .slice none 0 0] 31)
  have k3 := BlkN.new W2 #[.int .i64 0, .slice none 0 0, .slice none 0 0, .int .i64 0, .slice none 0 0, .slice none 0 0] 31
  have k2 := j2.below a3
  have k1 := j1b.below a3
  have hW3 : W2.alloc (.cells #[.int .i64 0, .slice none 0 0, .slice none 0 0, .int .i64 0, .slice none 0 0, .slice none 0 0] 31) = (((w.alloc (.cells #[.int .i64 s, .slice A n c, .slice B m d, .int .i64 s', .slice A' n' c', .slice B' m' d'] 26)).alloc (.cells #[.int .i64 0, .slice none 0 0, .slice none 0 0, .int .i64 0, .slice none 0 0, .slice none 0 0] 31)).alloc (.cells #[.int .i64 0, .slice none 0 0, .slice none 0 0, .int .i64 0, .slice none 0 0, .slice none 0 0] 31)) := by rw [← hW2, ← hW1]
  rw [hW3] at a3 k3 k2 k1
  rw [s1] at k2
  rw [s2] at k3
  have c0 := (a1.trans (a2.mono (by omega))).trans (a3.mono (by omega))
  have z0 := c0.size
  have q3 := k3.lt
  clear a1 a2 a3 j1 j2 j1b hW1 hW2 hW3 s1 s2
  have h1 := h.below c0 hh
  have g1 := g.below c0 hh
  have h1' := h'.below c0 hh
  have g1' := g'.below c0 hh
  go_enter Tryz.func6, Tryz.ntmps6
  go_wp2_with fail
  generalize (((w.alloc (.cells #[.int .i64 s, .slice A n c, .slice B m d, .int .i64 s', .slice A' n' c', .slice B' m' d'] 26)).alloc (.cells #[.int .i64 0, .slice none 0 0, .slice none 0 0, .int .i64 0, .slice none 0 0, .slice none 0 0] 31)).alloc (.cells #[.int .i64 0, .slice none 0 0, .slice none 0 0, .int .i64 0, .slice none 0 0, .slice none 0 0] 31)) = W at k1 k2 k3 c0 z0 q3 h1 g1 h1' g1' ⊢
  refine (laws_toTableau s A n c xs B m d ys lo hi W h1 g1 (by omega) hn hm).mono ?_
  rintro e w1 ⟨A1, c1, B1, d1, m1, rfl, o1, o2, hm1, hm2, b1⟩
  have z1 := b1.size
  have k1a := k1.below b1
  have k2a := k2.below b1
  have k3a := k3.below b1
  have m3 := ((((((k3a).set 0 (.int .i64 s))).set 1 (.slice A1 n c1))).set 2 (.slice B1 m d1))
  have m2 := ((((((k2a).far (b := w.heap.size + 1 + 1) (i := 0) (by omega) (.int .i64 s))).far (b := w.heap.size + 1 + 1) (i := 1) (by omega) (.slice A1 n c1))).far (b := w.heap.size + 1 + 1) (i := 2) (by omega) (.slice B1 m d1))
  have m1' := ((((((k1a).far (b := w.heap.size + 1 + 1) (i := 0) (by omega) (.int .i64 s))).far (b := w.heap.size + 1 + 1) (i := 1) (by omega) (.slice A1 n c1))).far (b := w.heap.size + 1 + 1) (i := 2) (by omega) (.slice B1 m d1))
  simp only [List.setIfInBounds_toArray, List.set_cons_zero, List.set_cons_succ] at m3
  have cc := (((((((c0.trans (b1.mono z0))).setCell (p := ⟨w.heap.size + 1 + 1, 0, none⟩) (by show w.heap.size ≤ w.heap.size + 1 + 1; omega) (.int .i64 s))).setCell (p := ⟨w.heap.size + 1 + 1, 1, none⟩) (by show w.heap.size ≤ w.heap.size + 1 + 1; omega) (.slice A1 n c1))).setCell (p := ⟨w.heap.size + 1 + 1, 2, none⟩) (by show w.heap.size ≤ w.heap.size + 1 + 1; omega) (.slice B1 m d1))
  have P1 := o1.same ((((Same.refl _ _ _).setCell (p := ⟨w.heap.size + 1 + 1, 0, none⟩) (.inl (by show w.heap.size + 1 + 1 < _; omega)) (.int .i64 s)).setCell (p := ⟨w.heap.size + 1 + 1, 1, none⟩) (.inl (by show w.heap.size + 1 + 1 < _; omega)) (.slice A1 n c1)).setCell (p := ⟨w.heap.size + 1 + 1, 2, none⟩) (.inl (by show w.heap.size + 1 + 1 < _; omega)) (.slice B1 m d1))
  have P2 := o2.same ((((Same.refl _ _ _).setCell (p := ⟨w.heap.size + 1 + 1, 0, none⟩) (.inl (by show w.heap.size + 1 + 1 < _; omega)) (.int .i64 s)).setCell (p := ⟨w.heap.size + 1 + 1, 1, none⟩) (.inl (by show w.heap.size + 1 + 1 < _; omega)) (.slice A1 n c1)).setCell (p := ⟨w.heap.size + 1 + 1, 2, none⟩) (.inl (by show w.heap.size + 1 + 1 < _; omega)) (.slice B1 m d1))
  have h2' := (h1'.below b1 (by omega)).same ((((Same.refl _ _ _).setCell (p := ⟨w.heap.size + 1 + 1, 0, none⟩) (.inr (by show hi ≤ w.heap.size + 1 + 1; omega)) (.int .i64 s)).setCell (p := ⟨w.heap.size + 1 + 1, 1, none⟩) (.inr (by show hi ≤ w.heap.size + 1 + 1; omega)) (.slice A1 n c1)).setCell (p := ⟨w.heap.size + 1 + 1, 2, none⟩) (.inr (by show hi ≤ w.heap.size + 1 + 1; omega)) (.slice B1 m d1))
  have g2' := (g1'.below b1 (by omega)).same ((((Same.refl _ _ _).setCell (p := ⟨w.heap.size + 1 + 1, 0, none⟩) (.inr (by show hi ≤ w.heap.size + 1 + 1; omega)) (.int .i64 s)).setCell (p := ⟨w.heap.size + 1 + 1, 1, none⟩) (.inr (by show hi ≤ w.heap.size + 1 + 1; omega)) (.slice A1 n c1)).setCell (p := ⟨w.heap.size + 1 + 1, 2, none⟩) (.inr (by show hi ≤ w.heap.size + 1 + 1; omega)) (.slice B1 m d1))
  have e0 := k3a.c 0 rfl
  have e1 := k3a.c 1 rfl
  have e2 := k3a.c 2 rfl
  have e3 := k3a.f 0
  have e4 := k3a.f 1
  have e5 := k3a.f 2
  have e6 := m1'.c 3 rfl
  have e7 := m1'.c 4 rfl
  have e8 := m1'.c 5 rfl
  have es : (((w1.setCell ⟨w.heap.size + 1 + 1, 0, none⟩ (.int .i64 s)).setCell ⟨w.heap.size + 1 + 1, 1, none⟩ (.slice A1 n c1)).setCell ⟨w.heap.size + 1 + 1, 2, none⟩ (.slice B1 m d1)).heap.size = w1.heap.size := by simp [World.setCell]
  clear k1 k2 k3 k1a k2a k3a o1 o2 b1 c0 h1 g1 h1' g1'
  go_wp2_with fail
  clear e0 e1 e2 e3 e4 e5 e6 e7 e8
  generalize (((w1.setCell ⟨w.heap.size + 1 + 1, 0, none⟩ (.int .i64 s)).setCell ⟨w.heap.size + 1 + 1, 1, none⟩ (.slice A1 n c1)).setCell ⟨w.heap.size + 1 + 1, 2, none⟩ (.slice B1 m d1)) = W' at m1' m2 m3 cc P1 P2 h2' g2' es ⊢
  refine (laws_toTableau s' A' n' c' xs' B' m' d' ys' lo hi W' h2' g2' (by omega) hn' hm').mono ?_
  rintro e w2 ⟨A2, c2, B2, d2, mm, rfl, o3, o4, hm3, hm4, b2⟩
  have z2 := b2.size
  have k2a := m2.below b2
  have k3a := m3.below b2
  have n3 := ((((((k3a).set 3 (.int .i64 s'))).set 4 (.slice A2 n' c2))).set 5 (.slice B2 m' d2))
  have n2 := ((((((k2a).far (b := w.heap.size + 1 + 1) (i := 3) (by omega) (.int .i64 s'))).far (b := w.heap.size + 1 + 1) (i := 4) (by omega) (.slice A2 n' c2))).far (b := w.heap.size + 1 + 1) (i := 5) (by omega) (.slice B2 m' d2))
  simp only [List.setIfInBounds_toArray, List.set_cons_zero, List.set_cons_succ] at n3
  have ce := (((((((cc.trans (b2.mono (by omega)))).setCell (p := ⟨w.heap.size + 1 + 1, 3, none⟩) (by show w.heap.size ≤ w.heap.size + 1 + 1; omega) (.int .i64 s'))).setCell (p := ⟨w.heap.size + 1 + 1, 4, none⟩) (by show w.heap.size ≤ w.heap.size + 1 + 1; omega) (.slice A2 n' c2))).setCell (p := ⟨w.heap.size + 1 + 1, 5, none⟩) (by show w.heap.size ≤ w.heap.size + 1 + 1; omega) (.slice B2 m' d2))
  have Q1 := (P1.below b2 (by omega)).same ((((Same.refl _ _ _).setCell (p := ⟨w.heap.size + 1 + 1, 3, none⟩) (.inl (by show w.heap.size + 1 + 1 < _; omega)) (.int .i64 s')).setCell (p := ⟨w.heap.size + 1 + 1, 4, none⟩) (.inl (by show w.heap.size + 1 + 1 < _; omega)) (.slice A2 n' c2)).setCell (p := ⟨w.heap.size + 1 + 1, 5, none⟩) (.inl (by show w.heap.size + 1 + 1 < _; omega)) (.slice B2 m' d2))
  have Q2 := (P2.below b2 (by omega)).same ((((Same.refl _ _ _).setCell (p := ⟨w.heap.size + 1 + 1, 3, none⟩) (.inl (by show w.heap.size + 1 + 1 < _; omega)) (.int .i64 s')).setCell (p := ⟨w.heap.size + 1 + 1, 4, none⟩) (.inl (by show w.heap.size + 1 + 1 < _; omega)) (.slice A2 n' c2)).setCell (p := ⟨w.heap.size + 1 + 1, 5, none⟩) (.inl (by show w.heap.size + 1 + 1 < _; omega)) (.slice B2 m' d2))
  have Q3 := o3.same ((((Same.refl _ _ _).setCell (p := ⟨w.heap.size + 1 + 1, 3, none⟩) (.inl (by show w.heap.size + 1 + 1 < _; omega)) (.int .i64 s')).setCell (p := ⟨w.heap.size + 1 + 1, 4, none⟩) (.inl (by show w.heap.size + 1 + 1 < _; omega)) (.slice A2 n' c2)).setCell (p := ⟨w.heap.size + 1 + 1, 5, none⟩) (.inl (by show w.heap.size + 1 + 1 < _; omega)) (.slice B2 m' d2))
  have Q4 := o4.same ((((Same.refl _ _ _).setCell (p := ⟨w.heap.size + 1 + 1, 3, none⟩) (.inl (by show w.heap.size + 1 + 1 < _; omega)) (.int .i64 s')).setCell (p := ⟨w.heap.size + 1 + 1, 4, none⟩) (.inl (by show w.heap.size + 1 + 1 < _; omega)) (.slice A2 n' c2)).setCell (p := ⟨w.heap.size + 1 + 1, 5, none⟩) (.inl (by show w.heap.size + 1 + 1 < _; omega)) (.slice B2 m' d2))
  have e3 := k3a.c 3 rfl
  have e4 := k3a.c 4 rfl
  have e5 := k3a.c 5 rfl
  have e6 := k3a.f 3
  have e7 := k3a.f 4
  have e8 := k3a.f 5
  have f0 := n3.c 0 rfl
  have r0 := n2.c 0 rfl
  have t0 := n2.f 0
  have f1 := n3.c 1 rfl
  have r1 := n2.c 1 rfl
  have t1 := n2.f 1
  have f2 := n3.c 2 rfl
  have r2 := n2.c 2 rfl
  have t2 := n2.f 2
  have f3 := n3.c 3 rfl
  have r3 := n2.c 3 rfl
  have t3 := n2.f 3
  have f4 := n3.c 4 rfl
  have r4 := n2.c 4 rfl
  have t4 := n2.f 4
  have f5 := n3.c 5 rfl
  have r5 := n2.c 5 rfl
  have t5 := n2.f 5
  have lt2 := n2.lt
  have es2 : (((w2.setCell ⟨w.heap.size + 1 + 1, 3, none⟩ (.int .i64 s')).setCell ⟨w.heap.size + 1 + 1, 4, none⟩ (.slice A2 n' c2)).setCell ⟨w.heap.size + 1 + 1, 5, none⟩ (.slice B2 m' d2)).heap.size = w2.heap.size := by simp [World.setCell]
  have HQ := hide (And.intro Q1 (And.intro Q2 (And.intro Q3 Q4)))
  have HC := hide ce
  clear m1' m2 m3 k2a k3a P1 P2 o3 o4 b2 cc h2' g2' Q1 Q2 Q3 Q4 ce n2 n3
  generalize hW4 : (((w2.setCell ⟨w.heap.size + 1 + 1, 3, none⟩ (.int .i64 s')).setCell ⟨w.heap.size + 1 + 1, 4, none⟩ (.slice A2 n' c2)).setCell ⟨w.heap.size + 1 + 1, 5, none⟩ (.slice B2 m' d2)) = W4 at f0 f1 f2 f3 f4 f5 r0 r1 r2 r3 r4 r5 t0 t1 t2 t3 t4 t5 lt2 es2 HQ HC
  go_wp2_with fail
  refine bodyPost_ret (v := .agg #[.int .i64 s, .slice A1 n c1, .slice B1 m d1, .int .i64 s', .slice A2 n' c2, .slice B2 m' d2]) (by simp [results, Tryz.results6, go_sem, r0, r1, r2, r3, r4, r5, lt2]) rfl ⟨_, _, _, _, _, _, _, _, m1, w1.heap.size, mm, rfl, ?_, ?_, ?_, ?_, ⟨by omega, by omega, by omega, ?_⟩, ?_⟩
  · refine (OwnI.same HQ.out.1 ?_).wide (by omega) (Nat.le_refl _)
    (repeat (first | with_reducible exact Same.refl _ _ _ | with_reducible refine Same.drew ?_ | ((with_reducible refine Same.alloc ?_ ?_ _); rotate_left; · first | omega | (simp [World.setCell]; done) | (simp [World.setCell]; omega)) | ((with_reducible refine Same.setCell ?_ ?_ _); rotate_left; · first | omega | (simp; done) | (simp; omega))))
  · refine OwnI.same HQ.out.2.1 ?_
    (repeat (first | with_reducible exact Same.refl _ _ _ | with_reducible refine Same.drew ?_ | ((with_reducible refine Same.alloc ?_ ?_ _); rotate_left; · first | omega | (simp [World.setCell]; done) | (simp [World.setCell]; omega)) | ((with_reducible refine Same.setCell ?_ ?_ _); rotate_left; · first | omega | (simp; done) | (simp; omega))))
  · refine (OwnI.same HQ.out.2.2.1 ?_).wide (by omega) (Nat.le_refl _)
    (repeat (first | with_reducible exact Same.refl _ _ _ | with_reducible refine Same.drew ?_ | ((with_reducible refine Same.alloc ?_ ?_ _); rotate_left; · first | omega | (simp [World.setCell]; done) | (simp [World.setCell]; omega)) | ((with_reducible refine Same.setCell ?_ ?_ _); rotate_left; · first | omega | (simp; done) | (simp; omega))))
  · refine (OwnI.same HQ.out.2.2.2 ?_).wide (by omega) ?_
    · (repeat (first | with_reducible exact Same.refl _ _ _ | with_reducible refine Same.drew ?_ | ((with_reducible refine Same.alloc ?_ ?_ _); rotate_left; · first | omega | (simp [World.setCell]; done) | (simp [World.setCell]; omega)) | ((with_reducible refine Same.setCell ?_ ?_ _); rotate_left; · first | omega | (simp; done) | (simp; omega))))
    · simp [World.setCell]; omega
  · simp [World.setCell]; omega
  · (repeat (first | with_reducible exact HC.out | with_reducible exact Below.refl _ _ | with_reducible refine Below.drew ?_ | ((with_reducible refine Below.alloc ?_ ?_ _); rotate_left; · first | omega | (simp [World.setCell]; done) | (simp [World.setCell]; omega)) | ((with_reducible refine Below.setCell ?_ ?_ _); rotate_left; · first | exact Nat.le_refl _ | omega | (simp; done) | (simp; omega))))

set_option maxHeartbeats 1000000 in
theorem laws_eqPair (s : Int) (A : Option Addr) (n c : Nat) (xs : List Int) (B : Option Addr) (m d : Nat) (ys : List Int) (s' : Int) (A' : Option Addr) (n' c' : Nat) (xs' : List Int) (B' : Option Addr) (m' d' : Nat) (ys' : List Int) (lo hi : Nat) (t : Int) (C : Option Addr) (k e : Nat) (us : List Int) (D : Option Addr) (l f : Nat) (vs : List Int) (t' : Int) (C' : Option Addr) (k' e' : Nat) (us' : List Int) (D' : Option Addr) (l' f' : Nat) (vs' : List Int) (lo' hi' : Nat) (w : World)
    (h : Ints w lo hi A n c xs) (g : Ints w lo hi B m d ys) (h' : Ints w lo hi A' n' c' xs') (g' : Ints w lo hi B' m' d' ys') (p : Ints w lo' hi' C k e us) (q : Ints w lo' hi' D l f vs) (p' : Ints w lo' hi' C' k' e' us') (q' : Ints w lo' hi' D' l' f' vs') (hh : hi ≤ w.heap.size) (hh' : hi' ≤ w.heap.size) :
    Calls Tryz.prog 8 #[.agg #[.int .i64 s, .slice A n c, .slice B m d, .int .i64 s', .slice A' n' c', .slice B' m' d'], .agg #[.int .i64 t, .slice C k e, .slice D l f, .int .i64 t', .slice C' k' e', .slice D' l' f']] w fun e w' => e = .returned (.bool (pairEqF s xs ys s' xs' ys' t us vs t' us' vs')) ∧ Below w.heap.size w w' := by
  have a1 := below_alloc w (.cells #[.int .i64 s, .slice A n c, .slice B m d, .int .i64 s', .slice A' n' c', .slice B' m' d'] 31)
  have j1 := BlkN.new w #[.int .i64 s, .slice A n c, .slice B m d, .int .i64 s', .slice A' n' c', .slice B' m' d'] 31
  have a2 := below_alloc (w.alloc (.cells #[.int .i64 s, .slice A n c, .slice B m d, .int .i64 s', .slice A' n' c', .slice B' m' d'] 31)) (.cells #[.int .i64 t, .slice C k e, .slice D l f, .int .i64 t', .slice C' k' e', .slice D' l' f'] 31)
  have j1b := j1.below a2
  have j2 := BlkN.new (w.alloc (.cells #[.int .i64 s, .slice A n c, .slice B m d, .int .i64 s', .slice A' n' c', .slice B' m' d'] 31)) #[.int .i64 t, .slice C k e, .slice D l f, .int .i64 t', .slice C' k' e', .slice D' l' f'] 31
  have c0 := a1.trans (a2.mono a1.size)
  simp only [World.size_alloc] at j2
  have z0 := c0.size
  clear a1 a2 j1
  have h1 := h.below c0 hh
  have g1 := g.below c0 hh
  have h1' := h'.below c0 hh
  have g1' := g'.below c0 hh
  have p1 := p.below c0 hh'
  have q1 := q.below c0 hh'
  have p1' := p'.below c0 hh'
  have q1' := q'.below c0 hh'
  go_enter Tryz.func8, Tryz.ntmps8
  go_wp2_with fail
  generalize (w.alloc (.cells #[.int .i64 s, .slice A n c, .slice B m d, .int .i64 s', .slice A' n' c', .slice B' m' d'] 31)).alloc (.cells #[.int .i64 t, .slice C k e, .slice D l f, .int .i64 t', .slice C' k' e', .slice D' l' f'] 31) = W at c0 j1b j2 z0 h1 g1 h1' g1' p1 q1 p1' q1' ⊢
  refine (laws_eqTableau s A n c xs B m d ys lo hi t C k e us D l f vs lo' hi' W h1 g1 p1 q1 (by omega) (by omega)).mono ?_
  rintro e0 w1 ⟨rfl, b1⟩
  have B1 := c0.trans (b1.mono z0)
  have z1 := B1.size
  have k1 := j1b.below b1
  have k2 := j2.below b1
  cases hA : tabEqF s xs ys t us vs with
  | false =>
    have hF : Hid (pairEqF s xs ys s' xs' ys' t us vs t' us' vs' = false) := by show _ = _; unfold pairEqF; rw [hA]; rfl
    clear hA k1 k2 j1b j2
    go_wp2_with fail
    go_ret
    exact ⟨ret_bool hF.out.symm, B1⟩
  | true =>
    have hF : Hid (pairEqF s xs ys s' xs' ys' t us vs t' us' vs' = tabEqF s' xs' ys' t' us' vs') := by show _ = _; unfold pairEqF; rw [hA]; rfl
    have e3 := k1.c 3 rfl
    have e4 := k1.c 4 rfl
    have e5 := k1.c 5 rfl
    have f3 := k2.c 3 rfl
    have f4 := k2.c 4 rfl
    have f5 := k2.c 5 rfl
    clear hA
    go_wp2_with fail
    clear e3 e4 e5 f3 f4 f5
    refine (laws_eqTableau s' A' n' c' xs' B' m' d' ys' lo hi t' C' k' e' us' D' l' f' vs' lo' hi' w1 (h1'.below b1 (by omega)) (g1'.below b1 (by omega)) (p1'.below b1 (by omega)) (q1'.below b1 (by omega)) (by omega) (by omega)).mono ?_
    rintro e0 w2 ⟨rfl, b2⟩
    have B2 := B1.trans (b2.mono z1)
    clear k1 k2 j1b j2
    cases hB : tabEqF s' xs' ys' t' us' vs' with
    | false =>
      rw [hB] at hF
      clear hB
      go_wp2_with fail
      go_ret
      exact ⟨ret_bool hF.out.symm, B2⟩
    | true =>
      rw [hB] at hF
      clear hB
      go_wp2_with fail
      go_ret
      exact ⟨ret_bool hF.out.symm, B2⟩
theorem pairEq_refl (s : Int) (xs ys : List Int) (s' : Int) (xs' ys' : List Int) : pairEqF s xs ys s' xs' ys' s xs ys s' xs' ys' = true := by
  unfold pairEqF tabEqF
  simp

end Go.Proofs.YthjkdpapadolgaaGreatDoor
