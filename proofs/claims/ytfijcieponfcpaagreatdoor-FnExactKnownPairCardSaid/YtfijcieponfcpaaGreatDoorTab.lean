/- Tableaus and pairs of them: the statements' helpers, TableauOk and PairOk of both texts. -/
import Derived.Test.YtfijcieponfcpaaGreatDoorIntS
namespace Go.Proofs.YtfijcieponfcpaaGreatDoor
open Go.RowKit
set_option linter.unusedSimpArgs false
set_option linter.unusedVariables false
set_option maxRecDepth 20000

/-- A block of cells, whole. -/
structure BlkN (w : World) (g : Nat) (vs : Array Value) : Prop where
  h : ∃ T, w.heap[g]? = some (.cells vs T (0, 0))
section
variable {w w' : World} {g lo hi : Nat} {vs : Array Value}
theorem BlkN.lt (h : BlkN w g vs) : g < w.heap.size := by
  obtain ⟨T, h⟩ := h.h
  exact (Array.getElem?_eq_some_iff.1 h).1
theorem BlkN.c (h : BlkN w g vs) (i : Nat) {v : Value} (hv : vs[i]? = some v) : w.cell? ⟨g, i, none⟩ = some v := by
  obtain ⟨T, h⟩ := h.h
  rw [cell_of_row w g i vs T (0, 0) h]; exact hv
theorem BlkN.f (h : BlkN w g vs) (i : Nat) : w.frozen? ⟨g, i, none⟩ = false := by
  obtain ⟨T, h⟩ := h.h
  exact frozen_of_row w g i vs T h
theorem BlkN.new (w : World) (vs : Array Value) (T : TypeId) : BlkN (w.alloc (.cells vs T)) w.heap.size vs := ⟨T, heap_alloc_new w _⟩
theorem BlkN.same (h : BlkN w g vs) (hs : w'.heap[g]? = w.heap[g]?) : BlkN w' g vs := by
  obtain ⟨T, h⟩ := h.h
  exact ⟨T, hs.trans h⟩
theorem BlkN.below (h : BlkN w g vs) (hb : Below w.heap.size w w') : BlkN w' g vs := h.same (hb.block g h.lt)
theorem BlkN.drew (h : BlkN w g vs) : BlkN w.drew g vs := h.same rfl
theorem BlkN.touch (h : BlkN w g vs) (ht : Touch lo hi w w') (hd : g < lo ∨ hi ≤ g) : BlkN w' g vs := h.same (ht.block g h.lt hd)
theorem BlkN.alloc (h : BlkN w g vs) (o : Obj) : BlkN (w.alloc o) g vs := h.same (Below.heap_alloc _ _ _ h.lt)
theorem BlkN.set (h : BlkN w g vs) (i : Nat) (x : Value) : BlkN (w.setCell ⟨g, i, none⟩ x) g (vs.setIfInBounds i x) := by
  obtain ⟨T, hh⟩ := h.h
  exact ⟨T, by simp [World.setCell, Array.getElem?_modify, hh]⟩
theorem BlkN.far (h : BlkN w g vs) {b i : Nat} (hne : g ≠ b) (x : Value) : BlkN (w.setCell ⟨b, i, none⟩ x) g vs := h.same (Below.heap_setCell _ ⟨b, i, none⟩ _ g hne)
end

abbrev tabV (s : Int) (A : Option Addr) (n c : Nat) (B : Option Addr) (m d : Nat) : Array Value := #[.int .i64 s, .slice A n c, .slice B m d]

def sz2F (n m : Nat) (left : Int) : Int := if left - n < 0 then -1 else if left - n - m < 0 then -1 else left - n - m
theorem sz2F_ok {n m : Nat} {left : Int} (h : (n : Int) + m ≤ left) : sz2F n m left = left - n - m := by
  unfold sz2F
  rw [if_neg (by omega), if_neg (by omega)]
theorem sz2F_big {n m : Nat} {left : Int} (h : left < (n : Int) + m) : sz2F n m left = -1 := by
  unfold sz2F
  split
  · rfl
  · rw [if_pos (by omega)]

def tabEqF (s : Int) (xs ys : List Int) (s' : Int) (xs' ys' : List Int) : Bool := decide (s = s') && (decide (xs = xs') && decide (ys = ys'))
set_option maxHeartbeats 1000000 in
theorem laws_eqTableau (s : Int) (A : Option Addr) (n c : Nat) (xs : List Int) (B : Option Addr) (m d : Nat) (ys : List Int) (lo hi : Nat) (s' : Int) (A' : Option Addr) (n' c' : Nat) (xs' : List Int) (B' : Option Addr) (m' d' : Nat) (ys' : List Int) (lo' hi' : Nat) (w : World)
    (h : Ints w lo hi A n c xs) (g : Ints w lo hi B m d ys) (h' : Ints w lo' hi' A' n' c' xs') (g' : Ints w lo' hi' B' m' d' ys') (hh : hi ≤ w.heap.size) (hh' : hi' ≤ w.heap.size) :
    Calls Tryz.prog 13 #[.agg #[.int .i64 s, .slice A n c, .slice B m d], .agg #[.int .i64 s', .slice A' n' c', .slice B' m' d']] w fun e w' => e = .returned (.bool (tabEqF s xs ys s' xs' ys')) ∧ Below w.heap.size w w' := by
  by_cases hs : s = s'
  · subst hs
    go_enter Tryz.func13, Tryz.ntmps13
    go_wp2_with fail
    refine (laws_eqIntS A n c xs lo hi A' n' c' xs' lo' hi' _ (h.below (B := w.heap.size) (by (repeat (first | with_reducible exact Below.refl _ _ | with_reducible exact Below.refl _ _ | with_reducible refine Below.drew ?_ | ((with_reducible refine Below.alloc ?_ ?_ _); rotate_left; · first | omega | (simp [World.setCell]; done) | (simp [World.setCell]; omega)) | ((with_reducible refine Below.setCell ?_ ?_ _); rotate_left; · first | exact Nat.le_refl _ | omega | (simp; done) | (simp; omega))))) hh) (h'.below (B := w.heap.size) (by (repeat (first | with_reducible exact Below.refl _ _ | with_reducible exact Below.refl _ _ | with_reducible refine Below.drew ?_ | ((with_reducible refine Below.alloc ?_ ?_ _); rotate_left; · first | omega | (simp [World.setCell]; done) | (simp [World.setCell]; omega)) | ((with_reducible refine Below.setCell ?_ ?_ _); rotate_left; · first | exact Nat.le_refl _ | omega | (simp; done) | (simp; omega))))) hh')).mono ?_
    rintro e w1 ⟨rfl, q, rfl⟩
    by_cases hx : xs = xs'
    · have hd : decide (xs = xs') = true := by simpa using hx
      rw [hd]
      have hF : Hid (tabEqF s xs ys s xs' ys' = decide (ys = ys')) := by show _ = _; unfold tabEqF; rw [hd]; simp
      clear hd hx
      go_wp2_with fail
      refine (laws_eqIntS B m d ys lo hi B' m' d' ys' lo' hi' _ (g.below (B := w.heap.size) (below_drewN (by (repeat (first | with_reducible exact Below.refl _ _ | with_reducible exact Below.refl _ _ | with_reducible refine Below.drew ?_ | ((with_reducible refine Below.alloc ?_ ?_ _); rotate_left; · first | omega | (simp [World.setCell]; done) | (simp [World.setCell]; omega)) | ((with_reducible refine Below.setCell ?_ ?_ _); rotate_left; · first | exact Nat.le_refl _ | omega | (simp; done) | (simp; omega))))) _) hh) (g'.below (B := w.heap.size) (below_drewN (by (repeat (first | with_reducible exact Below.refl _ _ | with_reducible exact Below.refl _ _ | with_reducible refine Below.drew ?_ | ((with_reducible refine Below.alloc ?_ ?_ _); rotate_left; · first | omega | (simp [World.setCell]; done) | (simp [World.setCell]; omega)) | ((with_reducible refine Below.setCell ?_ ?_ _); rotate_left; · first | exact Nat.le_refl _ | omega | (simp; done) | (simp; omega))))) _) hh')).mono ?_
      rintro e w1 ⟨rfl, q2, rfl⟩
      by_cases hy : ys = ys'
      · have hd : decide (ys = ys') = true := by simpa using hy
        rw [hd] at hF ⊢
        clear hd hy
        go_wp2_with fail
        go_ret
        refine ⟨ret_bool hF.out.symm, ?_⟩
        refine below_drewN ?_ _
        first
          | (refine below_drewN ?_ _; (repeat (first | with_reducible exact Below.refl _ _ | with_reducible exact Below.refl _ _ | with_reducible refine Below.drew ?_ | ((with_reducible refine Below.alloc ?_ ?_ _); rotate_left; · first | omega | (simp [World.setCell]; done) | (simp [World.setCell]; omega)) | ((with_reducible refine Below.setCell ?_ ?_ _); rotate_left; · first | exact Nat.le_refl _ | omega | (simp; done) | (simp; omega)))); done)
          | ((repeat (first | with_reducible exact Below.refl _ _ | with_reducible exact Below.refl _ _ | with_reducible refine Below.drew ?_ | ((with_reducible refine Below.alloc ?_ ?_ _); rotate_left; · first | omega | (simp [World.setCell]; done) | (simp [World.setCell]; omega)) | ((with_reducible refine Below.setCell ?_ ?_ _); rotate_left; · first | exact Nat.le_refl _ | omega | (simp; done) | (simp; omega)))))
      · have hd : decide (ys = ys') = false := by simpa using hy
        rw [hd] at hF ⊢
        clear hd hy
        go_wp2_with fail
        go_ret
        refine ⟨ret_bool hF.out.symm, ?_⟩
        refine below_drewN ?_ _
        first
          | (refine below_drewN ?_ _; (repeat (first | with_reducible exact Below.refl _ _ | with_reducible exact Below.refl _ _ | with_reducible refine Below.drew ?_ | ((with_reducible refine Below.alloc ?_ ?_ _); rotate_left; · first | omega | (simp [World.setCell]; done) | (simp [World.setCell]; omega)) | ((with_reducible refine Below.setCell ?_ ?_ _); rotate_left; · first | exact Nat.le_refl _ | omega | (simp; done) | (simp; omega)))); done)
          | ((repeat (first | with_reducible exact Below.refl _ _ | with_reducible exact Below.refl _ _ | with_reducible refine Below.drew ?_ | ((with_reducible refine Below.alloc ?_ ?_ _); rotate_left; · first | omega | (simp [World.setCell]; done) | (simp [World.setCell]; omega)) | ((with_reducible refine Below.setCell ?_ ?_ _); rotate_left; · first | exact Nat.le_refl _ | omega | (simp; done) | (simp; omega)))))
    · have hd : decide (xs = xs') = false := by simpa using hx
      rw [hd]
      have hF : Hid (tabEqF s xs ys s xs' ys' = false) := by show _ = _; unfold tabEqF; rw [hd]; simp
      clear hd hx
      go_wp2_with fail
      go_ret
      exact ⟨ret_bool hF.out.symm, below_drewN (by (repeat (first | with_reducible exact Below.refl _ _ | with_reducible exact Below.refl _ _ | with_reducible refine Below.drew ?_ | ((with_reducible refine Below.alloc ?_ ?_ _); rotate_left; · first | omega | (simp [World.setCell]; done) | (simp [World.setCell]; omega)) | ((with_reducible refine Below.setCell ?_ ?_ _); rotate_left; · first | exact Nat.le_refl _ | omega | (simp; done) | (simp; omega))))) _⟩
  · have hob : (s != s') = true := by simpa using hs
    have hF : Hid (tabEqF s xs ys s' xs' ys' = false) := by show _ = _; unfold tabEqF; rw [decide_eq_false hs]; rfl
    clear hs
    go_enter Tryz.func13, Tryz.ntmps13
    go_wp2_with fail
    go_ret
    exact ⟨ret_bool hF.out.symm, by (repeat (first | with_reducible exact Below.refl _ _ | with_reducible exact Below.refl _ _ | with_reducible refine Below.drew ?_ | ((with_reducible refine Below.alloc ?_ ?_ _); rotate_left; · first | omega | (simp [World.setCell]; done) | (simp [World.setCell]; omega)) | ((with_reducible refine Below.setCell ?_ ?_ _); rotate_left; · first | exact Nat.le_refl _ | omega | (simp; done) | (simp; omega))))⟩

def tabOkF (s : Int) (xs ys : List Int) : Bool := (decide (0 ≤ s) && decide (s ≤ 8)) && (decide ((xs.length : Int) = s * s) && (decide ((ys.length : Int) = s) && (allNumF xs && allNumF ys)))
set_option maxHeartbeats 1000000 in
theorem spec_TableauOk (s : Int) (A : Option Addr) (n c : Nat) (xs : List Int) (B : Option Addr) (m d : Nat) (ys : List Int) (lo hi : Nat) (w : World) (h : Ints w lo hi A n c xs) (g : Ints w lo hi B m d ys) (hh : hi ≤ w.heap.size) :
    Calls Tryz.prog 23 #[.agg #[.int .i64 s, .slice A n c, .slice B m d]] w fun e w' => e = .returned (.bool (tabOkF s xs ys)) ∧ Below w.heap.size w w' := by
  have hcp := h.cap
  have hmx := h.max
  have gcp := g.cap
  have gmx := g.max
  have hl := hide h.len
  have gl := hide g.len
  have b0 := below_alloc w (.cells #[.int .i64 s, .slice A n c, .slice B m d] 24)
  by_cases hs : 0 ≤ s ∧ s ≤ 8
  · have hOb : (decide (0 ≤ s) && decide (s ≤ 8)) = true := by simp; omega
    have hT : Hid (tabOkF s xs ys = (decide ((n : Int) = s * s) && (decide ((m : Int) = s) && (allNumF xs && allNumF ys)))) := by
      show _ = _
      unfold tabOkF
      rw [hOb, hl.out, gl.out, Bool.true_and]
    obtain ⟨h0, h8⟩ := hs
    obtain ⟨ss, hss, hs0, hs64⟩ : ∃ ss : Int, s * s = ss ∧ 0 ≤ ss ∧ ss ≤ 64 := by
      obtain e | e | e | e | e | e | e | e | e : s = 0 ∨ s = 1 ∨ s = 2 ∨ s = 3 ∨ s = 4 ∨ s = 5 ∨ s = 6 ∨ s = 7 ∨ s = 8 := by omega
      all_goals (subst e; exact ⟨_, rfl, by decide, by decide⟩)
    have hw := IntWalk.i64_in ss (by omega)
    rw [hss] at hT
    by_cases hx : (n : Int) = ss
    · have hnb : ((n : Int) == ss) = true := by rw [beq_iff_eq]; exact hx
      by_cases hy : (m : Int) = s
      · have hmb : ((m : Int) == s) = true := by rw [beq_iff_eq]; exact hy
        have hT2 : Hid (tabOkF s xs ys = (allNumF xs && allNumF ys)) := by show _ = _; rw [hT.out, decide_eq_true hx, decide_eq_true hy]; rfl
        clear hx hy hT
        cases hxA : allNumF xs with
        | true =>
          cases hyA : allNumF ys with
          | true =>
            rw [hxA, hyA] at hT2
            go_enter Tryz.func23, Tryz.ntmps23
            go_wp2_with fail
            refine (spec_l1In _ _ _ _).mono ?_
            rintro e w' ⟨rfl, rfl⟩
            rw [hOb]
            go_wp2_with fail
            refine (spec_l1All A n c xs lo hi _ (h.below (B := w.heap.size) b0 hh)).mono ?_
            rintro e w' ⟨rfl, rfl⟩
            rw [hxA]
            go_wp2_with fail
            refine (spec_l1All B m d ys lo hi _ (g.below (B := w.heap.size) b0 hh)).mono ?_
            rintro e w' ⟨rfl, rfl⟩
            rw [hyA]
            go_wp2_with fail
            go_ret
            exact ⟨ret_bool hT2.out.symm, b0⟩
          | false =>
            rw [hxA, hyA] at hT2
            go_enter Tryz.func23, Tryz.ntmps23
            go_wp2_with fail
            refine (spec_l1In _ _ _ _).mono ?_
            rintro e w' ⟨rfl, rfl⟩
            rw [hOb]
            go_wp2_with fail
            refine (spec_l1All A n c xs lo hi _ (h.below (B := w.heap.size) b0 hh)).mono ?_
            rintro e w' ⟨rfl, rfl⟩
            rw [hxA]
            go_wp2_with fail
            refine (spec_l1All B m d ys lo hi _ (g.below (B := w.heap.size) b0 hh)).mono ?_
            rintro e w' ⟨rfl, rfl⟩
            rw [hyA]
            go_wp2_with fail
            go_ret
            exact ⟨ret_bool hT2.out.symm, b0⟩
        | false =>
          rw [hxA] at hT2
          go_enter Tryz.func23, Tryz.ntmps23
          go_wp2_with fail
          refine (spec_l1In _ _ _ _).mono ?_
          rintro e w' ⟨rfl, rfl⟩
          rw [hOb]
          go_wp2_with fail
          refine (spec_l1All A n c xs lo hi _ (h.below (B := w.heap.size) b0 hh)).mono ?_
          rintro e w' ⟨rfl, rfl⟩
          rw [hxA]
          go_wp2_with fail
          go_ret
          exact ⟨ret_bool hT2.out.symm, b0⟩
      · have hmb : ((m : Int) == s) = false := by rw [beq_eq_false_iff_ne]; exact hy
        have hT2 : Hid (tabOkF s xs ys = false) := by show _ = _; rw [hT.out, decide_eq_true hx, decide_eq_false hy]; rfl
        clear hx hy hT
        go_enter Tryz.func23, Tryz.ntmps23
        go_wp2_with fail
        refine (spec_l1In _ _ _ _).mono ?_
        rintro e w' ⟨rfl, rfl⟩
        rw [hOb]
        go_wp2_with fail
        go_ret
        exact ⟨ret_bool hT2.out.symm, b0⟩
    · have hnb : ((n : Int) == ss) = false := by rw [beq_eq_false_iff_ne]; exact hx
      have hT2 : Hid (tabOkF s xs ys = false) := by show _ = _; rw [hT.out, decide_eq_false hx]; rfl
      clear hx hT
      go_enter Tryz.func23, Tryz.ntmps23
      go_wp2_with fail
      refine (spec_l1In _ _ _ _).mono ?_
      rintro e w' ⟨rfl, rfl⟩
      rw [hOb]
      go_wp2_with fail
      go_ret
      exact ⟨ret_bool hT2.out.symm, b0⟩
  · have hOb : (decide (0 ≤ s) && decide (s ≤ 8)) = false := by
      rw [Bool.eq_false_iff]; intro e; simp at e; exact hs e
    have hT2 : Hid (tabOkF s xs ys = false) := by show _ = _; unfold tabOkF; rw [hOb]; rfl
    by_cases h0 : 0 ≤ s
    all_goals
      (try have h8 : 8 < s := by omega)
      clear hs
      go_enter Tryz.func23, Tryz.ntmps23
      go_wp2_with fail
      refine (spec_l1In _ _ _ _).mono ?_
      rintro e w' ⟨rfl, rfl⟩
      rw [hOb]
      go_wp2_with fail
      go_ret
      exact ⟨ret_bool hT2.out.symm, b0⟩

set_option maxHeartbeats 1000000 in
theorem impl_TableauOk (s : Int) (A : Option Addr) (n c : Nat) (xs : List Int) (B : Option Addr) (m d : Nat) (ys : List Int) (lo hi : Nat) (w : World) (h : Ints w lo hi A n c xs) (g : Ints w lo hi B m d ys) (hh : hi ≤ w.heap.size) :
    Calls Tryz.prog 34 #[.agg #[.int .i64 s, .slice A n c, .slice B m d]] w fun e w' => e = .returned (.bool (tabOkF s xs ys)) ∧ Below w.heap.size w w' := by
  have hcp := h.cap
  have hmx := h.max
  have gcp := g.cap
  have gmx := g.max
  have hl := hide h.len
  have gl := hide g.len
  have b0 := below_alloc w (.cells #[.int .i64 s, .slice A n c, .slice B m d] 24)
  by_cases hs : 0 ≤ s ∧ s ≤ 8
  · have hOb : (decide (0 ≤ s) && decide (s ≤ 8)) = true := by simp; omega
    have hT : Hid (tabOkF s xs ys = (decide ((n : Int) = s * s) && (decide ((m : Int) = s) && (allNumF xs && allNumF ys)))) := by
      show _ = _
      unfold tabOkF
      rw [hOb, hl.out, gl.out, Bool.true_and]
    obtain ⟨h0, h8⟩ := hs
    obtain ⟨ss, hss, hs0, hs64⟩ : ∃ ss : Int, s * s = ss ∧ 0 ≤ ss ∧ ss ≤ 64 := by
      obtain e | e | e | e | e | e | e | e | e : s = 0 ∨ s = 1 ∨ s = 2 ∨ s = 3 ∨ s = 4 ∨ s = 5 ∨ s = 6 ∨ s = 7 ∨ s = 8 := by omega
      all_goals (subst e; exact ⟨_, rfl, by decide, by decide⟩)
    have hw := IntWalk.i64_in ss (by omega)
    rw [hss] at hT
    by_cases hx : (n : Int) = ss
    · have hnb : ((n : Int) == ss) = true := by rw [beq_iff_eq]; exact hx
      by_cases hy : (m : Int) = s
      · have hmb : ((m : Int) == s) = true := by rw [beq_iff_eq]; exact hy
        have hT2 : Hid (tabOkF s xs ys = (allNumF xs && allNumF ys)) := by show _ = _; rw [hT.out, decide_eq_true hx, decide_eq_true hy]; rfl
        clear hx hy hT
        cases hxA : allNumF xs with
        | true =>
          cases hyA : allNumF ys with
          | true =>
            rw [hxA, hyA] at hT2
            go_enter Tryz.func34, Tryz.ntmps34
            go_wp2_with fail
            refine (impl_allNumbers A n c xs lo hi _ (h.below (B := w.heap.size) b0 hh)).mono ?_
            rintro e w' ⟨rfl, rfl⟩
            rw [hxA]
            go_wp2_with fail
            refine (impl_allNumbers B m d ys lo hi _ (g.below (B := w.heap.size) b0 hh)).mono ?_
            rintro e w' ⟨rfl, rfl⟩
            rw [hyA]
            go_wp2_with fail
            go_ret
            exact ⟨ret_bool hT2.out.symm, b0⟩
          | false =>
            rw [hxA, hyA] at hT2
            go_enter Tryz.func34, Tryz.ntmps34
            go_wp2_with fail
            refine (impl_allNumbers A n c xs lo hi _ (h.below (B := w.heap.size) b0 hh)).mono ?_
            rintro e w' ⟨rfl, rfl⟩
            rw [hxA]
            go_wp2_with fail
            refine (impl_allNumbers B m d ys lo hi _ (g.below (B := w.heap.size) b0 hh)).mono ?_
            rintro e w' ⟨rfl, rfl⟩
            rw [hyA]
            go_wp2_with fail
            go_ret
            exact ⟨ret_bool hT2.out.symm, b0⟩
        | false =>
          rw [hxA] at hT2
          go_enter Tryz.func34, Tryz.ntmps34
          go_wp2_with fail
          refine (impl_allNumbers A n c xs lo hi _ (h.below (B := w.heap.size) b0 hh)).mono ?_
          rintro e w' ⟨rfl, rfl⟩
          rw [hxA]
          go_wp2_with fail
          go_ret
          exact ⟨ret_bool hT2.out.symm, b0⟩
      · have hmb : ((m : Int) == s) = false := by rw [beq_eq_false_iff_ne]; exact hy
        have hT2 : Hid (tabOkF s xs ys = false) := by show _ = _; rw [hT.out, decide_eq_true hx, decide_eq_false hy]; rfl
        clear hx hy hT
        go_enter Tryz.func34, Tryz.ntmps34
        go_wp2_with fail
        go_ret
        exact ⟨ret_bool hT2.out.symm, b0⟩
    · have hnb : ((n : Int) == ss) = false := by rw [beq_eq_false_iff_ne]; exact hx
      have hT2 : Hid (tabOkF s xs ys = false) := by show _ = _; rw [hT.out, decide_eq_false hx]; rfl
      clear hx hT
      go_enter Tryz.func34, Tryz.ntmps34
      go_wp2_with fail
      go_ret
      exact ⟨ret_bool hT2.out.symm, b0⟩
  · have hOb : (decide (0 ≤ s) && decide (s ≤ 8)) = false := by
      rw [Bool.eq_false_iff]; intro e; simp at e; exact hs e
    have hT2 : Hid (tabOkF s xs ys = false) := by show _ = _; unfold tabOkF; rw [hOb]; rfl
    by_cases h0 : 0 ≤ s
    all_goals
      (try have h8 : 8 < s := by omega)
      clear hs
      go_enter Tryz.func34, Tryz.ntmps34
      go_wp2_with fail
      go_ret
      exact ⟨ret_bool hT2.out.symm, b0⟩

end Go.Proofs.YtfijcieponfcpaaGreatDoor
