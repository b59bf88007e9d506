/- Tableaus and pairs of them: the statements' helpers, TableauOk and PairOk of both texts. -/
import Derived.Test.YthjkdpapadolgaaGreatDoorIntS
namespace Go.Proofs.YthjkdpapadolgaaGreatDoor
open Go.RowKit
set_option linter.unusedSimpArgs false
set_option linter.unusedVariables false
set_option maxRecDepth 20000

/-- A block of cells, whole. -/
structure BlkN (w : World) (g : Nat) (vs : Array Value) : Prop where
  h : ∃ T, w.heap[g]? = some (.cells vs T (0, 0))
section
variable {w w' : World} {g lo hi : Nat} {vs : Array Value}
theorem BlkN.lt (h : BlkN w g vs) : g < w.heap.size := by
  obtain ⟨T, h⟩ := h.h
  exact (Array.getElem?_eq_some_iff.1 h).1
theorem BlkN.c (h : BlkN w g vs) (i : Nat) {v : Value} (hv : vs[i]? = some v) : w.cell? ⟨g, i, none⟩ = some v := by
  obtain ⟨T, h⟩ := h.h
  rw [cell_of_row w g i vs T (0, 0) h]; exact hv
theorem BlkN.f (h : BlkN w g vs) (i : Nat) : w.frozen? ⟨g, i, none⟩ = false := by
  obtain ⟨T, h⟩ := h.h
  exact frozen_of_row w g i vs T h
theorem BlkN.new (w : World) (vs : Array Value) (T : TypeId) : BlkN (w.alloc (.cells vs T)) w.heap.size vs := ⟨T, heap_alloc_new w _⟩
theorem BlkN.same (h : BlkN w g vs) (hs : w'.heap[g]? = w.heap[g]?) : BlkN w' g vs := by
  obtain ⟨T, h⟩ := h.h
  exact ⟨T, hs.trans h⟩
theorem BlkN.below (h : BlkN w g vs) (hb : Below w.heap.size w w') : BlkN w' g vs := h.same (hb.block g h.lt)
theorem BlkN.drew (h : BlkN w g vs) : BlkN w.drew g vs := h.same rfl
theorem BlkN.touch (h : BlkN w g vs) (ht : Touch lo hi w w') (hd : g < lo ∨ hi ≤ g) : BlkN w' g vs := h.same (ht.block g h.lt hd)
theorem BlkN.alloc (h : BlkN w g vs) (o : Obj) : BlkN (w.alloc o) g vs := h.same (Below.heap_alloc _ _ _ h.lt)
theorem BlkN.set (h : BlkN w g vs) (i : Nat) (x : Value) : BlkN (w.setCell ⟨g, i, none⟩ x) g (vs.setIfInBounds i x) := by
  obtain ⟨T, hh⟩ := h.h
  exact ⟨T, by simp [World.setCell, Array.getElem?_modify, hh]⟩
theorem BlkN.far (h : BlkN w g vs) {b i : Nat} (hne : g ≠ b) (x : Value) : BlkN (w.setCell ⟨b, i, none⟩ x) g vs := h.same (Below.heap_setCell _ ⟨b, i, none⟩ _ g hne)
end

abbrev tabV (s : Int) (A : Option Addr) (n c : Nat) (B : Option Addr) (m d : Nat) : Array Value := #[.int .i64 s, .slice A n c, .slice B m d]

def sz2F (n m : Nat) (left : Int) : Int := if left - n < 0 then -1 else if left - n - m < 0 then -1 else left - n - m
theorem sz2F_ok {n m : Nat} {left : Int} (h : (n : Int) + m ≤ left) : sz2F n m left = left - n - m := by
  unfold sz2F
  rw [if_neg (by omega), if_neg (by omega)]
theorem sz2F_big {n m : Nat} {left : Int} (h : left < (n : Int) + m) : sz2F n m left = -1 := by
  unfold sz2F
  split
  · rfl
  · rw [if_pos (by omega)]

theorem laws_szTableau (s : Int) (A : Option Addr) (n c : Nat) (B : Option Addr) (m d : Nat) (left : Int) (w : World) (hn : n ≤ 9223372036854775807) (hm : m ≤ 9223372036854775807) (h0 : 0 ≤ left) (h1 : left ≤ 1048576) :
    Calls Tryz.prog 9 #[.agg #[.int .i64 s, .slice A n c, .slice B m d], .int .i64 left] w fun e w' => e = .returned (.int .i64 (sz2F n m left)) ∧ Below w.heap.size w w' := by
  by_cases hA : left - n < 0
  · have hF : Hid (sz2F n m left = -1) := if_pos hA
    have hA' : szF n left = -1 := if_pos hA
    go_enter Tryz.func9, Tryz.ntmps9
    go_wp2_with fail
    refine (laws_szIntS A n c left _ hn h0 h1).mono ?_
    rintro e w' ⟨rfl, rfl⟩
    rw [hA']
    go_wp2_with fail
    go_ret
    exact ⟨ret_int hF.out.symm, by (repeat (first | with_reducible exact Below.refl _ _ | with_reducible exact Below.refl _ _ | with_reducible refine Below.drew ?_ | ((with_reducible refine Below.alloc ?_ ?_ _); rotate_left; · first | omega | (simp [World.setCell]; done) | (simp [World.setCell]; omega)) | ((with_reducible refine Below.setCell ?_ ?_ _); rotate_left; · first | exact Nat.le_refl _ | omega | (simp; done) | (simp; omega))))⟩
  · have hA' : szF n left = left - n := if_neg hA
    have h2 : 0 ≤ left - n := by omega
    have h3 : left - n ≤ 1048576 := by omega
    by_cases hB : left - n - m < 0
    · have hF : Hid (sz2F n m left = -1) := by show _ = _; unfold sz2F; rw [if_neg hA, if_pos hB]
      have hB' : szF m (left - n) = -1 := if_pos hB
      go_enter Tryz.func9, Tryz.ntmps9
      go_wp2_with fail
      refine (laws_szIntS A n c left _ hn h0 h1).mono ?_
      rintro e w' ⟨rfl, rfl⟩
      rw [hA']
      clear hA'
      go_wp2_with fail
      refine (laws_szIntS B m d (left - n) _ hm h2 h3).mono ?_
      rintro e w' ⟨rfl, rfl⟩
      rw [hB']
      go_wp2_with fail
      go_ret
      exact ⟨ret_int hF.out.symm, by (repeat (first | with_reducible exact Below.refl _ _ | with_reducible exact Below.refl _ _ | with_reducible refine Below.drew ?_ | ((with_reducible refine Below.alloc ?_ ?_ _); rotate_left; · first | omega | (simp [World.setCell]; done) | (simp [World.setCell]; omega)) | ((with_reducible refine Below.setCell ?_ ?_ _); rotate_left; · first | exact Nat.le_refl _ | omega | (simp; done) | (simp; omega))))⟩
    · have hF : Hid (sz2F n m left = left - n - m) := by show _ = _; unfold sz2F; rw [if_neg hA, if_neg hB]
      have hB' : szF m (left - n) = left - n - m := if_neg hB
      go_enter Tryz.func9, Tryz.ntmps9
      go_wp2_with fail
      refine (laws_szIntS A n c left _ hn h0 h1).mono ?_
      rintro e w' ⟨rfl, rfl⟩
      rw [hA']
      clear hA'
      go_wp2_with fail
      refine (laws_szIntS B m d (left - n) _ hm h2 h3).mono ?_
      rintro e w' ⟨rfl, rfl⟩
      rw [hB']
      clear hB'
      go_wp2_with fail
      go_ret
      exact ⟨ret_int hF.out.symm, by (repeat (first | with_reducible exact Below.refl _ _ | with_reducible exact Below.refl _ _ | with_reducible refine Below.drew ?_ | ((with_reducible refine Below.alloc ?_ ?_ _); rotate_left; · first | omega | (simp [World.setCell]; done) | (simp [World.setCell]; omega)) | ((with_reducible refine Below.setCell ?_ ?_ _); rotate_left; · first | exact Nat.le_refl _ | omega | (simp; done) | (simp; omega))))⟩

set_option maxHeartbeats 1000000 in
theorem laws_toTableau (s : Int) (A : Option Addr) (n c : Nat) (xs : List Int) (B : Option Addr) (m d : Nat) (ys : List Int) (lo hi : Nat) (w : World) (h : Ints w lo hi A n c xs) (g : Ints w lo hi B m d ys) (hh : hi ≤ w.heap.size) (hn : n ≤ 1048576) (hm : m ≤ 1048576) :
    Calls Tryz.prog 15 #[.agg #[.int .i64 s, .slice A n c, .slice B m d]] w fun e w' => ∃ A' c' B' d' mid, e = .returned (.agg #[.int .i64 s, .slice A' n c', .slice B' m d']) ∧ OwnI w' w.heap.size mid A' n c' xs ∧ OwnI w' mid w'.heap.size B' m d' ys ∧ w.heap.size ≤ mid ∧ mid ≤ w'.heap.size ∧ Below w.heap.size w w' := by
  have hcp := h.cap
  have hmx := h.max
  have gcp := g.cap
  have gmx := g.max
  have a1 := below_alloc w (.cells #[.int .i64 s, .slice A n c, .slice B m d] 24)
  have j1 := BlkN.new w #[.int .i64 s, .slice A n c, .slice B m d] 24
  generalize hW1 : w.alloc (.cells #[.int .i64 s, .slice A n c, .slice B m d] 24) = W1 at a1 j1
  have s1 : W1.heap.size = w.heap.size + 1 := by rw [← hW1]; simp
  have a2 := below_alloc W1 (.cells #[.int .i64 0, .slice none 0 0, .slice none 0 0] 29)
  have j2 := BlkN.new W1 #[.int .i64 0, .slice none 0 0, .slice none 0 0] 29
  have j1b := j1.below a2
  generalize hW2 : W1.alloc (.cells #[.int .i64 0, .slice none 0 0, .slice none 0 0] 29) = W2 at a2 j2 j1b
  have s2 : W2.heap.size = w.heap.size + 1 + 1 := by rw [← hW2]; simp; omega
  have a3 := below_alloc W2 (.cells #[.int .i64 s, .slice none 0 0, .slice none 0 0] 29)
  have k3 := BlkN.new W2 #[.int .i64 s, .slice none 0 0, .slice none 0 0] 29
  have k2 := j2.below a3
  have k1 := j1b.below a3
  have hW3 : W2.alloc (.cells #[.int .i64 s, .slice none 0 0, .slice none 0 0] 29) = ((w.alloc (.cells #[.int .i64 s, .slice A n c, .slice B m d] 24)).alloc (.cells #[.int .i64 0, .slice none 0 0, .slice none 0 0] 29)).alloc (.cells #[.int .i64 s, .slice none 0 0, .slice none 0 0] 29) := by rw [← hW2, ← hW1]
  rw [hW3] at a3 k3 k2 k1
  rw [s1] at k2
  rw [s2] at k3
  have c0 := (a1.trans (a2.mono (by omega))).trans (a3.mono (by omega))
  have z0 := c0.size
  have q3 := k3.lt
  clear a1 a2 a3 j1 j2 j1b hW1 hW2 hW3 s1 s2
  go_enter Tryz.func15, Tryz.ntmps15
  go_wp2_with fail
  have h1 := h.below c0 hh
  have g1 := g.below c0 hh
  generalize ((w.alloc (.cells #[.int .i64 s, .slice A n c, .slice B m d] 24)).alloc (.cells #[.int .i64 0, .slice none 0 0, .slice none 0 0] 29)).alloc (.cells #[.int .i64 s, .slice none 0 0, .slice none 0 0] 29) = W at k1 k2 k3 c0 z0 q3 h1 g1 ⊢
  refine (laws_toIntS A n c xs lo hi W h1 (by omega) hn).mono ?_
  rintro e w1 ⟨A1, c1, rfl, o1, b1⟩
  have z1 := b1.size
  have k1a := k1.below b1
  have k2a := k2.below b1
  have k3a := k3.below b1
  have m3 := k3a.set 1 (.slice A1 n c1)
  have m2 := k2a.far (b := w.heap.size + 1 + 1) (i := 1) (by omega) (.slice A1 n c1)
  have m1 := k1a.far (b := w.heap.size + 1 + 1) (i := 1) (by omega) (.slice A1 n c1)
  simp only [List.setIfInBounds_toArray, List.set_cons_zero, List.set_cons_succ] at m3
  have cc := (c0.trans (b1.mono z0)).setCell (p := ⟨w.heap.size + 1 + 1, 1, none⟩) (by show w.heap.size ≤ w.heap.size + 1 + 1; omega) (.slice A1 n c1)
  have P1 := o1.same ((Same.refl _ _ _).setCell (p := ⟨w.heap.size + 1 + 1, 1, none⟩) (.inl (by show w.heap.size + 1 + 1 < _; omega)) (.slice A1 n c1))
  have g2 := (g1.below b1 (by omega)).same ((Same.refl _ _ _).setCell (p := ⟨w.heap.size + 1 + 1, 1, none⟩) (.inr (by show hi ≤ w.heap.size + 1 + 1; omega)) (.slice A1 n c1))
  have e0 := k3a.c 1 rfl
  have e1 := k3a.f 1
  have e2 := m1.c 2 rfl
  have es : (w1.setCell ⟨w.heap.size + 1 + 1, 1, none⟩ (.slice A1 n c1)).heap.size = w1.heap.size := by simp [World.setCell]
  clear k1 k2 k3 k1a k2a k3a o1 b1 c0 h1 g1
  go_wp2_with fail
  clear e0 e1 e2
  generalize w1.setCell ⟨w.heap.size + 1 + 1, 1, none⟩ (.slice A1 n c1) = W' at m1 m2 m3 cc P1 g2 es ⊢
  refine (laws_toIntS B m d ys lo hi W' g2 (by omega) hm).mono ?_
  rintro e w2 ⟨B1, d1, rfl, o2, b2⟩
  have z2 := b2.size
  have k2a := m2.below b2
  have k3a := m3.below b2
  have n3 := k3a.set 2 (.slice B1 m d1)
  have n2 := k2a.far (b := w.heap.size + 1 + 1) (i := 2) (by omega) (.slice B1 m d1)
  simp only [List.setIfInBounds_toArray, List.set_cons_zero, List.set_cons_succ] at n3
  have ce := (cc.trans (b2.mono (by omega))).setCell (p := ⟨w.heap.size + 1 + 1, 2, none⟩) (by show w.heap.size ≤ w.heap.size + 1 + 1; omega) (.slice B1 m d1)
  have Q1 := (P1.below b2 (by omega)).same ((Same.refl _ _ _).setCell (p := ⟨w.heap.size + 1 + 1, 2, none⟩) (.inl (by show w.heap.size + 1 + 1 < _; omega)) (.slice B1 m d1))
  have Q2 := o2.same ((Same.refl _ _ _).setCell (p := ⟨w.heap.size + 1 + 1, 2, none⟩) (.inl (by show w.heap.size + 1 + 1 < _; omega)) (.slice B1 m d1))
  have e0 := k3a.c 2 rfl
  have e1 := k3a.f 2
  have f0 := n3.c 0 rfl
  have f1 := n3.c 1 rfl
  have f2 := n3.c 2 rfl
  have r0 := n2.c 0 rfl
  have r1 := n2.c 1 rfl
  have r2 := n2.c 2 rfl
  have t0 := n2.f 0
  have t1 := n2.f 1
  have t2 := n2.f 2
  have lt2 := n2.lt
  have es2 : (w2.setCell ⟨w.heap.size + 1 + 1, 2, none⟩ (.slice B1 m d1)).heap.size = w2.heap.size := by simp [World.setCell]
  have HQ := hide (And.intro Q1 Q2)
  have HC := hide ce
  clear m1 m2 m3 k2a k3a P1 o2 b2 cc g2 Q1 Q2 ce n2 n3
  generalize hW4 : w2.setCell ⟨w.heap.size + 1 + 1, 2, none⟩ (.slice B1 m d1) = W4 at f0 f1 f2 r0 r1 r2 t0 t1 t2 lt2 es2 HQ HC
  go_wp2_with fail
  refine bodyPost_ret (v := .agg #[.int .i64 s, .slice A1 n c1, .slice B1 m d1]) (by simp [results, Tryz.results15, go_sem, r0, r1, r2, lt2]) rfl ⟨_, _, _, _, w1.heap.size, rfl, ?_, ?_, by omega, ?_, ?_⟩
  · refine (OwnI.same HQ.out.1 ?_).wide (by omega) (Nat.le_refl _)
    (repeat (first | with_reducible exact Same.refl _ _ _ | with_reducible refine Same.drew ?_ | ((with_reducible refine Same.alloc ?_ ?_ _); rotate_left; · first | omega | (simp [World.setCell]; done) | (simp [World.setCell]; omega)) | ((with_reducible refine Same.setCell ?_ ?_ _); rotate_left; · first | omega | (simp; done) | (simp; omega))))
  · refine (OwnI.same HQ.out.2 ?_).wide (by omega) ?_
    · (repeat (first | with_reducible exact Same.refl _ _ _ | with_reducible refine Same.drew ?_ | ((with_reducible refine Same.alloc ?_ ?_ _); rotate_left; · first | omega | (simp [World.setCell]; done) | (simp [World.setCell]; omega)) | ((with_reducible refine Same.setCell ?_ ?_ _); rotate_left; · first | omega | (simp; done) | (simp; omega))))
    · simp [World.setCell]; omega
  · simp [World.setCell]; omega
  · (repeat (first | with_reducible exact HC.out | with_reducible exact Below.refl _ _ | with_reducible refine Below.drew ?_ | ((with_reducible refine Below.alloc ?_ ?_ _); rotate_left; · first | omega | (simp [World.setCell]; done) | (simp [World.setCell]; omega)) | ((with_reducible refine Below.setCell ?_ ?_ _); rotate_left; · first | exact Nat.le_refl _ | omega | (simp; done) | (simp; omega))))

def tabEqF (s : Int) (xs ys : List Int) (s' : Int) (xs' ys' : List Int) : Bool := decide (s = s') && (decide (xs = xs') && decide (ys = ys'))
set_option maxHeartbeats 1000000 in
theorem laws_eqTableau (s : Int) (A : Option Addr) (n c : Nat) (xs : List Int) (B : Option Addr) (m d : Nat) (ys : List Int) (lo hi : Nat) (s' : Int) (A' : Option Addr) (n' c' : Nat) (xs' : List Int) (B' : Option Addr) (m' d' : Nat) (ys' : List Int) (lo' hi' : Nat) (w : World)
    (h : Ints w lo hi A n c xs) (g : Ints w lo hi B m d ys) (h' : Ints w lo' hi' A' n' c' xs') (g' : Ints w lo' hi' B' m' d' ys') (hh : hi ≤ w.heap.size) (hh' : hi' ≤ w.heap.size) :
    Calls Tryz.prog 20 #[.agg #[.int .i64 s, .slice A n c, .slice B m d], .agg #[.int .i64 s', .slice A' n' c', .slice B' m' d']] w fun e w' => e = .returned (.bool (tabEqF s xs ys s' xs' ys')) ∧ Below w.heap.size w w' := by
  by_cases hs : s = s'
  · subst hs
    go_enter Tryz.func20, Tryz.ntmps20
    go_wp2_with fail
    refine (laws_eqIntS A n c xs lo hi A' n' c' xs' lo' hi' _ (h.below (B := w.heap.size) (by (repeat (first | with_reducible exact Below.refl _ _ | with_reducible exact Below.refl _ _ | with_reducible refine Below.drew ?_ | ((with_reducible refine Below.alloc ?_ ?_ _); rotate_left; · first | omega | (simp [World.setCell]; done) | (simp [World.setCell]; omega)) | ((with_reducible refine Below.setCell ?_ ?_ _); rotate_left; · first | exact Nat.le_refl _ | omega | (simp; done) | (simp; omega))))) hh) (h'.below (B := w.heap.size) (by (repeat (first | with_reducible exact Below.refl _ _ | with_reducible exact Below.refl _ _ | with_reducible refine Below.drew ?_ | ((with_reducible refine Below.alloc ?_ ?_ _); rotate_left; · first | omega | (simp [World.setCell]; done) | (simp [World.setCell]; omega)) | ((with_reducible refine Below.setCell ?_ ?_ _); rotate_left; · first | exact Nat.le_refl _ | omega | (simp; done) | (simp; omega))))) hh')).mono ?_
    rintro e w1 ⟨rfl, q, rfl⟩
    by_cases hx : xs = xs'
    · have hd : decide (xs = xs') = true := by simpa using hx
      rw [hd]
      have hF : Hid (tabEqF s xs ys s xs' ys' = decide (ys = ys')) := by show _ = _; unfold tabEqF; rw [hd]; simp
      clear hd hx
      go_wp2_with fail
      refine (laws_eqIntS B m d ys lo hi B' m' d' ys' lo' hi' _ (g.below (B := w.heap.size) (below_drewN (by (repeat (first | with_reducible exact Below.refl _ _ | with_reducible exact Below.refl _ _ | with_reducible refine Below.drew ?_ | ((with_reducible refine Below.alloc ?_ ?_ _); rotate_left; · first | omega | (simp [World.setCell]; done) | (simp [World.setCell]; omega)) | ((with_reducible refine Below.setCell ?_ ?_ _); rotate_left; · first | exact Nat.le_refl _ | omega | (simp; done) | (simp; omega))))) _) hh) (g'.below (B := w.heap.size) (below_drewN (by (repeat (first | with_reducible exact Below.refl _ _ | with_reducible exact Below.refl _ _ | with_reducible refine Below.drew ?_ | ((with_reducible refine Below.alloc ?_ ?_ _); rotate_left; · first | omega | (simp [World.setCell]; done) | (simp [World.setCell]; omega)) | ((with_reducible refine Below.setCell ?_ ?_ _); rotate_left; · first | exact Nat.le_refl _ | omega | (simp; done) | (simp; omega))))) _) hh')).mono ?_
      rintro e w1 ⟨rfl, q2, rfl⟩
      by_cases hy : ys = ys'
      · have hd : decide (ys = ys') = true := by simpa using hy
        rw [hd] at hF ⊢
        clear hd hy
        go_wp2_with fail
        go_ret
        refine ⟨ret_bool hF.out.symm, ?_⟩
        refine below_drewN ?_ _
        first
          | (refine below_drewN ?_ _; (repeat (first | with_reducible exact Below.refl _ _ | with_reducible exact Below.refl _ _ | with_reducible refine Below.drew ?_ | ((with_reducible refine Below.alloc ?_ ?_ _); rotate_left; · first | omega | (simp [World.setCell]; done) | (simp [World.setCell]; omega)) | ((with_reducible refine Below.setCell ?_ ?_ _); rotate_left; · first | exact Nat.le_refl _ | omega | (simp; done) | (simp; omega)))); done)
          | ((repeat (first | with_reducible exact Below.refl _ _ | with_reducible exact Below.refl _ _ | with_reducible refine Below.drew ?_ | ((with_reducible refine Below.alloc ?_ ?_ _); rotate_left; · first | omega | (simp [World.setCell]; done) | (simp [World.setCell]; omega)) | ((with_reducible refine Below.setCell ?_ ?_ _); rotate_left; · first | exact Nat.le_refl _ | omega | (simp; done) | (simp; omega)))))
      · have hd : decide (ys = ys') = false := by simpa using hy
        rw [hd] at hF ⊢
        clear hd hy
        go_wp2_with fail
        go_ret
        refine ⟨ret_bool hF.out.symm, ?_⟩
        refine below_drewN ?_ _
        first
          | (refine below_drewN ?_ _; (repeat (first | with_reducible exact Below.refl _ _ | with_reducible exact Below.refl _ _ | with_reducible refine Below.drew ?_ | ((with_reducible refine Below.alloc ?_ ?_ _); rotate_left; · first | omega | (simp [World.setCell]; done) | (simp [World.setCell]; omega)) | ((with_reducible refine Below.setCell ?_ ?_ _); rotate_left; · first | exact Nat.le_refl _ | omega | (simp; done) | (simp; omega)))); done)
          | ((repeat (first | with_reducible exact Below.refl _ _ | with_reducible exact Below.refl _ _ | with_reducible refine Below.drew ?_ | ((with_reducible refine Below.alloc ?_ ?_ _); rotate_left; · first | omega | (simp [World.setCell]; done) | (simp [World.setCell]; omega)) | ((with_reducible refine Below.setCell ?_ ?_ _); rotate_left; · first | exact Nat.le_refl _ | omega | (simp; done) | (simp; omega)))))
    · have hd : decide (xs = xs') = false := by simpa using hx
      rw [hd]
      have hF : Hid (tabEqF s xs ys s xs' ys' = false) := by show _ = _; unfold tabEqF; rw [hd]; simp
      clear hd hx
      go_wp2_with fail
      go_ret
      exact ⟨ret_bool hF.out.symm, below_drewN (by (repeat (first | with_reducible exact Below.refl _ _ | with_reducible exact Below.refl _ _ | with_reducible refine Below.drew ?_ | ((with_reducible refine Below.alloc ?_ ?_ _); rotate_left; · first | omega | (simp [World.setCell]; done) | (simp [World.setCell]; omega)) | ((with_reducible refine Below.setCell ?_ ?_ _); rotate_left; · first | exact Nat.le_refl _ | omega | (simp; done) | (simp; omega))))) _⟩
  · have hob : (s != s') = true := by simpa using hs
    have hF : Hid (tabEqF s xs ys s' xs' ys' = false) := by show _ = _; unfold tabEqF; rw [decide_eq_false hs]; rfl
    clear hs
    go_enter Tryz.func20, Tryz.ntmps20
    go_wp2_with fail
    go_ret
    exact ⟨ret_bool hF.out.symm, by (repeat (first | with_reducible exact Below.refl _ _ | with_reducible exact Below.refl _ _ | with_reducible refine Below.drew ?_ | ((with_reducible refine Below.alloc ?_ ?_ _); rotate_left; · first | omega | (simp [World.setCell]; done) | (simp [World.setCell]; omega)) | ((with_reducible refine Below.setCell ?_ ?_ _); rotate_left; · first | exact Nat.le_refl _ | omega | (simp; done) | (simp; omega))))⟩

def tabOkF (s : Int) (xs ys : List Int) : Bool := (decide (0 ≤ s) && decide (s ≤ 8)) && (decide ((xs.length : Int) = s * s) && (decide ((ys.length : Int) = s) && (allNumF xs && allNumF ys)))
set_option maxHeartbeats 1000000 in
theorem spec_TableauOk (s : Int) (A : Option Addr) (n c : Nat) (xs : List Int) (B : Option Addr) (m d : Nat) (ys : List Int) (lo hi : Nat) (w : World) (h : Ints w lo hi A n c xs) (g : Ints w lo hi B m d ys) (hh : hi ≤ w.heap.size) :
    Calls Tryz.prog 25 #[.agg #[.int .i64 s, .slice A n c, .slice B m d]] w fun e w' => e = .returned (.bool (tabOkF s xs ys)) ∧ Below w.heap.size w w' := by
  have hcp := h.cap
  have hmx := h.max
  have gcp := g.cap
  have gmx := g.max
  have hl := hide h.len
  have gl := hide g.len
  have b0 := below_alloc w (.cells #[.int .i64 s, .slice A n c, .slice B m d] 29)
  by_cases hs : 0 ≤ s ∧ s ≤ 8
  · have hOb : (decide (0 ≤ s) && decide (s ≤ 8)) = true := by simp; omega
    have hT : Hid (tabOkF s xs ys = (decide ((n : Int) = s * s) && (decide ((m : Int) = s) && (allNumF xs && allNumF ys)))) := by
      show _ = _
      unfold tabOkF
      rw [hOb, hl.out, gl.out, Bool.true_and]
    obtain ⟨h0, h8⟩ := hs
    obtain ⟨ss, hss, hs0, hs64⟩ : ∃ ss : Int, s * s = ss ∧ 0 ≤ ss ∧ ss ≤ 64 := by
      obtain e | e | e | e | e | e | e | e | e : s = 0 ∨ s = 1 ∨ s = 2 ∨ s = 3 ∨ s = 4 ∨ s = 5 ∨ s = 6 ∨ s = 7 ∨ s = 8 := by omega
      all_goals (subst e; exact ⟨_, rfl, by decide, by decide⟩)
    have hw := IntWalk.i64_in ss (by omega)
    rw [hss] at hT
    by_cases hx : (n : Int) = ss
    · have hnb : ((n : Int) == ss) = true := by rw [beq_iff_eq]; exact hx
      by_cases hy : (m : Int) = s
      · have hmb : ((m : Int) == s) = true := by rw [beq_iff_eq]; exact hy
        have hT2 : Hid (tabOkF s xs ys = (allNumF xs && allNumF ys)) := by show _ = _; rw [hT.out, decide_eq_true hx, decide_eq_true hy]; rfl
        clear hx hy hT
        cases hxA : allNumF xs with
        | true =>
          cases hyA : allNumF ys with
          | true =>
            rw [hxA, hyA] at hT2
            go_enter Tryz.func25, Tryz.ntmps25
            go_wp2_with fail
            refine (spec_l1In _ _ _ _).mono ?_
            rintro e w' ⟨rfl, rfl⟩
            rw [hOb]
            go_wp2_with fail
            refine (spec_l1All A n c xs lo hi _ (h.below (B := w.heap.size) b0 hh)).mono ?_
            rintro e w' ⟨rfl, rfl⟩
            rw [hxA]
            go_wp2_with fail
            refine (spec_l1All B m d ys lo hi _ (g.below (B := w.heap.size) b0 hh)).mono ?_
            rintro e w' ⟨rfl, rfl⟩
            rw [hyA]
            go_wp2_with fail
            go_ret
            exact ⟨ret_bool hT2.out.symm, b0⟩
          | false =>
            rw [hxA, hyA] at hT2
            go_enter Tryz.func25, Tryz.ntmps25
            go_wp2_with fail
            refine (spec_l1In _ _ _ _).mono ?_
            rintro e w' ⟨rfl, rfl⟩
            rw [hOb]
            go_wp2_with fail
            refine (spec_l1All A n c xs lo hi _ (h.below (B := w.heap.size) b0 hh)).mono ?_
            rintro e w' ⟨rfl, rfl⟩
            rw [hxA]
            go_wp2_with fail
            refine (spec_l1All B m d ys lo hi _ (g.below (B := w.heap.size) b0 hh)).mono ?_
            rintro e w' ⟨rfl, rfl⟩
            rw [hyA]
            go_wp2_with fail
            go_ret
            exact ⟨ret_bool hT2.out.symm, b0⟩
        | false =>
          rw [hxA] at hT2
          go_enter Tryz.func25, Tryz.ntmps25
          go_wp2_with fail
          refine (spec_l1In _ _ _ _).mono ?_
          rintro e w' ⟨rfl, rfl⟩
          rw [hOb]
          go_wp2_with fail
          refine (spec_l1All A n c xs lo hi _ (h.below (B := w.heap.size) b0 hh)).mono ?_
          rintro e w' ⟨rfl, rfl⟩
          rw [hxA]
          go_wp2_with fail
          go_ret
          exact ⟨ret_bool hT2.out.symm, b0⟩
      · have hmb : ((m : Int) == s) = false := by rw [beq_eq_false_iff_ne]; exact hy
        have hT2 : Hid (tabOkF s xs ys = false) := by show _ = _; rw [hT.out, decide_eq_true hx, decide_eq_false hy]; rfl
        clear hx hy hT
        go_enter Tryz.func25, Tryz.ntmps25
        go_wp2_with fail
        refine (spec_l1In _ _ _ _).mono ?_
        rintro e w' ⟨rfl, rfl⟩
        rw [hOb]
        go_wp2_with fail
        go_ret
        exact ⟨ret_bool hT2.out.symm, b0⟩
    · have hnb : ((n : Int) == ss) = false := by rw [beq_eq_false_iff_ne]; exact hx
      have hT2 : Hid (tabOkF s xs ys = false) := by show _ = _; rw [hT.out, decide_eq_false hx]; rfl
      clear hx hT
      go_enter Tryz.func25, Tryz.ntmps25
      go_wp2_with fail
      refine (spec_l1In _ _ _ _).mono ?_
      rintro e w' ⟨rfl, rfl⟩
      rw [hOb]
      go_wp2_with fail
      go_ret
      exact ⟨ret_bool hT2.out.symm, b0⟩
  · have hOb : (decide (0 ≤ s) && decide (s ≤ 8)) = false := by
      rw [Bool.eq_false_iff]; intro e; simp at e; exact hs e
    have hT2 : Hid (tabOkF s xs ys = false) := by show _ = _; unfold tabOkF; rw [hOb]; rfl
    by_cases h0 : 0 ≤ s
    all_goals
      (try have h8 : 8 < s := by omega)
      clear hs
      go_enter Tryz.func25, Tryz.ntmps25
      go_wp2_with fail
      refine (spec_l1In _ _ _ _).mono ?_
      rintro e w' ⟨rfl, rfl⟩
      rw [hOb]
      go_wp2_with fail
      go_ret
      exact ⟨ret_bool hT2.out.symm, b0⟩

set_option maxHeartbeats 1000000 in
theorem impl_TableauOk (s : Int) (A : Option Addr) (n c : Nat) (xs : List Int) (B : Option Addr) (m d : Nat) (ys : List Int) (lo hi : Nat) (w : World) (h : Ints w lo hi A n c xs) (g : Ints w lo hi B m d ys) (hh : hi ≤ w.heap.size) :
    Calls Tryz.prog 31 #[.agg #[.int .i64 s, .slice A n c, .slice B m d]] w fun e w' => e = .returned (.bool (tabOkF s xs ys)) ∧ Below w.heap.size w w' := by
  have hcp := h.cap
  have hmx := h.max
  have gcp := g.cap
  have gmx := g.max
  have hl := hide h.len
  have gl := hide g.len
  have b0 := below_alloc w (.cells #[.int .i64 s, .slice A n c, .slice B m d] 29)
  by_cases hs : 0 ≤ s ∧ s ≤ 8
  · have hOb : (decide (0 ≤ s) && decide (s ≤ 8)) = true := by simp; omega
    have hT : Hid (tabOkF s xs ys = (decide ((n : Int) = s * s) && (decide ((m : Int) = s) && (allNumF xs && allNumF ys)))) := by
      show _ = _
      unfold tabOkF
      rw [hOb, hl.out, gl.out, Bool.true_and]
    obtain ⟨h0, h8⟩ := hs
    obtain ⟨ss, hss, hs0, hs64⟩ : ∃ ss : Int, s * s = ss ∧ 0 ≤ ss ∧ ss ≤ 64 := by
      obtain e | e | e | e | e | e | e | e | e : s = 0 ∨ s = 1 ∨ s = 2 ∨ s = 3 ∨ s = 4 ∨ s = 5 ∨ s = 6 ∨ s = 7 ∨ s = 8 := by omega
      all_goals (subst e; exact ⟨_, rfl, by decide, by decide⟩)
    have hw := IntWalk.i64_in ss (by omega)
    rw [hss] at hT
    by_cases hx : (n : Int) = ss
    · have hnb : ((n : Int) == ss) = true := by rw [beq_iff_eq]; exact hx
      by_cases hy : (m : Int) = s
      · have hmb : ((m : Int) == s) = true := by rw [beq_iff_eq]; exact hy
        have hT2 : Hid (tabOkF s xs ys = (allNumF xs && allNumF ys)) := by show _ = _; rw [hT.out, decide_eq_true hx, decide_eq_true hy]; rfl
        clear hx hy hT
        cases hxA : allNumF xs with
        | true =>
          cases hyA : allNumF ys with
          | true =>
            rw [hxA, hyA] at hT2
            go_enter Tryz.func31, Tryz.ntmps31
            go_wp2_with fail
            refine (impl_allNumbers A n c xs lo hi _ (h.below (B := w.heap.size) b0 hh)).mono ?_
            rintro e w' ⟨rfl, rfl⟩
            rw [hxA]
            go_wp2_with fail
            refine (impl_allNumbers B m d ys lo hi _ (g.below (B := w.heap.size) b0 hh)).mono ?_
            rintro e w' ⟨rfl, rfl⟩
            rw [hyA]
            go_wp2_with fail
            go_ret
            exact ⟨ret_bool hT2.out.symm, b0⟩
          | false =>
            rw [hxA, hyA] at hT2
            go_enter Tryz.func31, Tryz.ntmps31
            go_wp2_with fail
            refine (impl_allNumbers A n c xs lo hi _ (h.below (B := w.heap.size) b0 hh)).mono ?_
            rintro e w' ⟨rfl, rfl⟩
            rw [hxA]
            go_wp2_with fail
            refine (impl_allNumbers B m d ys lo hi _ (g.below (B := w.heap.size) b0 hh)).mono ?_
            rintro e w' ⟨rfl, rfl⟩
            rw [hyA]
            go_wp2_with fail
            go_ret
            exact ⟨ret_bool hT2.out.symm, b0⟩
        | false =>
          rw [hxA] at hT2
          go_enter Tryz.func31, Tryz.ntmps31
          go_wp2_with fail
          refine (impl_allNumbers A n c xs lo hi _ (h.below (B := w.heap.size) b0 hh)).mono ?_
          rintro e w' ⟨rfl, rfl⟩
          rw [hxA]
          go_wp2_with fail
          go_ret
          exact ⟨ret_bool hT2.out.symm, b0⟩
      · have hmb : ((m : Int) == s) = false := by rw [beq_eq_false_iff_ne]; exact hy
        have hT2 : Hid (tabOkF s xs ys = false) := by show _ = _; rw [hT.out, decide_eq_true hx, decide_eq_false hy]; rfl
        clear hx hy hT
        go_enter Tryz.func31, Tryz.ntmps31
        go_wp2_with fail
        go_ret
        exact ⟨ret_bool hT2.out.symm, b0⟩
    · have hnb : ((n : Int) == ss) = false := by rw [beq_eq_false_iff_ne]; exact hx
      have hT2 : Hid (tabOkF s xs ys = false) := by show _ = _; rw [hT.out, decide_eq_false hx]; rfl
      clear hx hT
      go_enter Tryz.func31, Tryz.ntmps31
      go_wp2_with fail
      go_ret
      exact ⟨ret_bool hT2.out.symm, b0⟩
  · have hOb : (decide (0 ≤ s) && decide (s ≤ 8)) = false := by
      rw [Bool.eq_false_iff]; intro e; simp at e; exact hs e
    have hT2 : Hid (tabOkF s xs ys = false) := by show _ = _; unfold tabOkF; rw [hOb]; rfl
    by_cases h0 : 0 ≤ s
    all_goals
      (try have h8 : 8 < s := by omega)
      clear hs
      go_enter Tryz.func31, Tryz.ntmps31
      go_wp2_with fail
      go_ret
      exact ⟨ret_bool hT2.out.symm, b0⟩

end Go.Proofs.YthjkdpapadolgaaGreatDoor
