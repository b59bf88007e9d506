/- Exponentials of words: the walks of both texts. -/
import Derived.Test.YtodlfmagkjblgaaMulLaw
namespace Go.Proofs.Ytodlfmagkjblgaa
open Go.RowKit
set_option linter.unusedSimpArgs false
set_option linter.unusedVariables false
set_option maxRecDepth 20000

theorem Blk2.store2 {w : World} {g : Nat} {a b : Value} (h : Blk2 w g a b) (x y : Value) : Blk2 ((w.setCell ⟨g, 0, none⟩ x).setCell ⟨g, 1, none⟩ y) g x y := by
  obtain ⟨T, hh⟩ := h.h
  have h1 : (w.setCell ⟨g, 0, none⟩ x).heap[g]? = some (.cells #[x, b] T (0, 0)) := by simp [World.setCell, Array.getElem?_modify, hh]
  have h2 : ((w.setCell ⟨g, 0, none⟩ x).setCell ⟨g, 1, none⟩ y).heap[g]? = some (.cells #[x, y] T (0, 0)) := by
    generalize w.setCell ⟨g, 0, none⟩ x = v at h1 ⊢
    simp [World.setCell, Array.getElem?_modify, h1]
  exact ⟨T, h2⟩
theorem Blk2.far {w : World} {g b : Nat} {a a' : Value} (h : Blk2 w g a a') (hne : g ≠ b) (x y : Value) : Blk2 ((w.setCell ⟨b, 0, none⟩ x).setCell ⟨b, 1, none⟩ y) g a a' :=
  h.same ((Below.heap_setCell _ ⟨b, 1, none⟩ _ g hne).trans (Below.heap_setCell _ ⟨b, 0, none⟩ _ g hne))
theorem store2_size (w : World) (b : Nat) (x y : Value) : ((w.setCell ⟨b, 0, none⟩ x).setCell ⟨b, 1, none⟩ y).heap.size = w.heap.size := by simp [World.setCell]
theorem store2_same {w : World} {b lo hi : Nat} (x y : Value) (h : b < lo ∨ hi ≤ b) : Same lo hi w ((w.setCell ⟨b, 0, none⟩ x).setCell ⟨b, 1, none⟩ y) := ((Same.refl _ _ _).setCell h x).setCell h y
theorem store2_below {B : Nat} {a w : World} {b : Nat} (h : Below B a w) (hb : B ≤ b) (x y : Value) : Below B a ((w.setCell ⟨b, 0, none⟩ x).setCell ⟨b, 1, none⟩ y) := (h.setCell (p := ⟨b, 0, none⟩) hb x).setCell (p := ⟨b, 1, none⟩) hb y

def unitL (n : Nat) : List Int := (List.replicate n 0).set 0 1
theorem unit_eq {o : Int} (h0 : 0 ≤ o) (h5 : o ≤ 5) : unitF o = (o, unitL (cntN o)) := if_pos ⟨h0, h5⟩
theorem unitL_num (n : Nat) : ∀ x ∈ unitL n, 0 ≤ x ∧ x < 1000000271 := by
  intro x hx
  rcases List.mem_or_eq_of_mem_set hx with h | h
  · have := (List.mem_replicate.1 h).2
    omega
  · omega
theorem zip_num (xs ys : List Int) (k : Int) : ∀ x ∈ zipF xs ys k, 0 ≤ x ∧ x < 1000000271 := by
  intro x hx
  obtain ⟨j, hj⟩ := List.getElem?_of_mem hx
  unfold zipF at hj
  rw [List.getElem?_zipWith] at hj
  split at hj
  · injection hj with hj
    rw [← hj]
    exact plusF_bd _ _
  · cases hj
theorem impl_Unit (o : Int) (w : World) (h0 : 0 ≤ o) (h5 : o ≤ 5) :
    Calls Try.prog 34 #[.int .i64 o] w fun e w' => ∃ A c, e = .returned (.agg #[.int .i64 o, .slice A (cntN o) c]) ∧ OwnI w' w.heap.size w'.heap.size A (cntN o) c (unitL (cntN o)) ∧ Below w.heap.size w w' := by
  refine (impl_UnitWords o w).mono ?_
  rintro e w' ⟨A, n, c, rfl, h1, h2⟩
  rw [unit_eq h0 h5] at h1 ⊢
  obtain rfl : n = cntN o := by rw [← h1.len]; simp [unitL]
  exact ⟨A, c, rfl, h1, h2⟩
theorem spec_Unit (o : Int) (w : World) (h0 : 0 ≤ o) (h5 : o ≤ 5) :
    Calls Try.prog 113 #[.int .i64 o] w fun e w' => ∃ A c, e = .returned (.agg #[.int .i64 o, .slice A (cntN o) c]) ∧ OwnI w' w.heap.size w'.heap.size A (cntN o) c (unitL (cntN o)) ∧ Below w.heap.size w w' := by
  refine (spec_UnitWords o w).mono ?_
  rintro e w' ⟨A, n, c, rfl, h1, h2⟩
  rw [unit_eq h0 h5] at h1 ⊢
  obtain rfl : n = cntN o := by rw [← h1.len]; simp [unitL]
  exact ⟨A, c, rfl, h1, h2⟩

def expL (o : Int) (xs : List Int) : List Int := expGo (cntN o) xs o.toNat 1 (unitL (cntN o)) (unitL (cntN o))
def expF (o : Int) (xs : List Int) : (Int × List Int) × Bool := if wordsOkF o xs = true ∧ xs.getD 0 0 = 0 then ((o, expL o xs), true) else ((0, []), false)

theorem impl_factorial (j : Nat) (w : World) (h1 : 1 ≤ j) (h5 : j ≤ 5) :
    Calls Try.prog 130 #[.int .i64 j] w fun e w' => e = .returned (.int .i64 (factN j)) ∧ w = w' := by
  go_enter Try.func130, Try.ntmps130
  go_wp2
  go_loop [3, 4] (fun s i => ∃ k : Nat, 2 ≤ k ∧ k ≤ j + 1 ∧ i = .int .i64 k ∧ s = .int .i64 (factN (k - 1))) (fun _ i => 7 - (intOf i).toNat)
  case atStart => exact ⟨2, by omega, by omega, rfl, rfl⟩
  case round =>
    obtain ⟨k, hk, hk2, rfl, rfl⟩ := hrel
    by_cases hlt : k ≤ j
    · have hf : factN k = factN (k - 1) * k := by
        obtain ⟨m, rfl⟩ : ∃ m, k = m + 1 := ⟨k - 1, by omega⟩
        rfl
      have hb : factN (k - 1) ≤ 24 := by
        obtain h | h | h | h : k = 2 ∨ k = 3 ∨ k = 4 ∨ k = 5 := by omega
        all_goals (subst h; decide)
      have hm : (factN (k - 1) : Int) * (k : Int) = ((factN k : Nat) : Int) := by rw [hf]; simp
      have hb2 : factN k ≤ 120 := by
        rw [hf]
        exact Nat.le_trans (Nat.mul_le_mul hb (show k ≤ 5 by omega)) (by omega)
      have hw := IntWalk.i64_in ((factN (k - 1) : Int) * (k : Int)) (by omega)
      have hm' := hide hm
      clear hf hb hm hb2
      go_wp2
      go_round
      case rel => exact ⟨k + 1, by omega, by omega, by go_num, by rw [hm'.out]; rfl⟩
      case measure => simp [intOf]; omega
    · obtain rfl : k = j + 1 := by omega
      go_wp2
      go_ret
      exact ⟨rfl, rfl⟩

set_option maxRecDepth 100000 in
set_option maxHeartbeats 2000000 in
theorem impl_expWords (o : Int) (A : Option Addr) (n c : Nat) (xs : List Int) (lo hi : Nat) (w : World) (h : Ints w lo hi A n c xs) (hh : hi ≤ w.heap.size) (h0 : 0 ≤ o) (h5 : o ≤ 5) (hn : n = cntN o) (hnum : ∀ x ∈ xs, 0 ≤ x ∧ x < 1000000271) :
    Calls Try.prog 88 #[.agg #[.int .i64 o, .slice A n c]] w fun e w' => ∃ A' c', e = .returned (.agg #[.int .i64 o, .slice A' (cntN o) c']) ∧ OwnI w' w.heap.size w'.heap.size A' (cntN o) c' (expL o xs) ∧ Below w.heap.size w w' := by
  have hm := h.max
  have hcp := h.cap
  have hnum' := hide hnum
  have hcb := cntN_bd h5
  subst hn
  have a1 := below_alloc w (.cells #[.int .i64 o, .slice A (cntN o) c] 38)
  have a2 := below_alloc (w.alloc (.cells #[.int .i64 o, .slice A (cntN o) c] 38)) (.cells #[.int .i64 0, .slice none 0 0] 38)
  have j1 := (Blk2.new w (.int .i64 o) (.slice A (cntN o) c) 38).below a2
  have j2 := Blk2.new (w.alloc (.cells #[.int .i64 o, .slice A (cntN o) c] 38)) (.int .i64 0) (.slice none 0 0) 38
  have b0 := a1.trans (a2.mono a1.size)
  simp only [World.size_alloc] at j2
  have z0 := b0.size
  clear hnum a1 a2
  go_enter Try.func88, Try.ntmps88
  go_wp2_with fail
  have h1 := h.below b0 hh
  generalize World.alloc (World.alloc w (.cells #[.int .i64 o, .slice A (cntN o) c] 38)) (.cells #[.int .i64 0, .slice none 0 0] 38) = W at j1 j2 b0 h1 z0 ⊢
  have q2 := j2.lt
  have p1 := j1.c0
  go_wp2_with fail
  refine (impl_Unit o W h0 h5).mono ?_
  rintro e w1 ⟨A3, c3, rfl, o3, b1⟩
  clear p1
  have a3 := below_alloc w1 (.cells #[.int .i64 o, .slice A3 (cntN o) c3] 38)
  have k1 := (j1.below b1).below a3
  have k2 := (j2.below b1).below a3
  have k3 := Blk2.new w1 (.int .i64 o) (.slice A3 (cntN o) c3) 38
  have o3' := o3.below a3 (Nat.le_refl _)
  have h2 := (h1.below b1 (by omega)).below a3 (by have := b1.size; omega)
  have b2 := (b0.trans (b1.mono z0)).trans (a3.mono (by have := b1.size; omega))
  have z1 := b1.size
  have q3 := k3.lt
  have p1 := k1.c0
  clear j1 j2 h1 b0 b1 o3
  go_wp2_with fail
  clear p1
  generalize World.alloc w1 (.cells #[.int .i64 o, .slice A3 (cntN o) c3] 38) = W2 at a3 k1 k2 k3 o3' h2 b2 q3 ⊢
  clear a3
  refine (impl_Unit o W2 h0 h5).mono ?_
  rintro e w2 ⟨A4, c4, rfl, o4, b3⟩
  have a4 := below_alloc w2 (.cells #[.int .i64 o, .slice A4 (cntN o) c4] 38)
  have l1 := (k1.below b3).below a4
  have l2 := (k2.below b3).below a4
  have l3 := (k3.below b3).below a4
  have l4 := Blk2.new w2 (.int .i64 o) (.slice A4 (cntN o) c4) 38
  have o3 := (o3'.below b3 (by omega)).below a4 (by have := b3.size; omega)
  have o4' := o4.below a4 (Nat.le_refl _)
  have h3 := (h2.below b3 (by omega)).below a4 (by have := b3.size; omega)
  have b4 := (b2.trans (b3.mono b2.size)).trans (a4.mono (by have := b3.size; have := b2.size; omega))
  have z2 := b3.size
  have q4 := l4.lt
  clear k1 k2 k3 h2 b2 b3 o4 o3'
  go_wp2_with fail
  generalize World.alloc w2 (.cells #[.int .i64 o, .slice A4 (cntN o) c4] 38) = w3 at a4 l1 l2 l3 l4 o3 o4' h3 b4 q4 ⊢
  clear a4
  have sw : W.heap.size ≤ w3.heap.size := by omega
  go_loopw [5] (fun i wr => ∃ (j : Nat) (B3 : Option Addr) (d3 : Nat) (B4 : Option Addr) (d4 lo3 hi3 lo4 hi4 : Nat) (out pw : List Int), 1 ≤ j ∧ j ≤ o.toNat + 1 ∧ i = .int .i64 j ∧ Below w1.heap.size w3 wr ∧ Blk2 wr w1.heap.size (.int .i64 o) (.slice B3 (cntN o) d3) ∧ Blk2 wr w2.heap.size (.int .i64 o) (.slice B4 (cntN o) d4) ∧
      Hid (OwnI wr lo3 hi3 B3 (cntN o) d3 out ∧ W.heap.size ≤ lo3 ∧ hi3 ≤ wr.heap.size ∧ (hi3 ≤ w2.heap.size ∨ w2.heap.size < lo3) ∧ ∀ x ∈ out, 0 ≤ x ∧ x < 1000000271) ∧ Hid (OwnI wr lo4 hi4 B4 (cntN o) d4 pw ∧ W.heap.size ≤ lo4 ∧ hi4 ≤ wr.heap.size ∧ ∀ x ∈ pw, 0 ≤ x ∧ x < 1000000271) ∧ Hid (expL o xs = expGo (cntN o) xs (o.toNat + 1 - j) j out pw))
    (fun i _ => 7 - (intOf i).toNat)
  case atStart => exact ⟨1, A3, c3, A4, c4, W.heap.size, w1.heap.size, W2.heap.size, w2.heap.size, unitL (cntN o), unitL (cntN o), by omega, by omega, rfl, Below.refl _ _, l3, l4, ⟨o3, by omega, by omega, by omega, unitL_num _⟩, ⟨o4', by omega, by omega, unitL_num _⟩, rfl⟩
  case round =>
    obtain ⟨j, B3, d3, B4, d4, lo3, hi3, lo4, hi4, out, pw, hj1, hj2, rfl, hb, m3, m4, ho3, ho4, hE⟩ := hrel
    have m1 := l1.same (hb.block w.heap.size (by omega))
    have m2 := l2.same (hb.block (w.heap.size + 1) (by omega))
    have h4 := h3.same (Same.of_below (lo := lo) hb (show hi ≤ w1.heap.size by omega))
    have hs := hb.size
    have s1 := m1.lt
    have s4 := m4.lt
    by_cases hle : j ≤ o.toNat
    · obtain ⟨s, hsn⟩ : ∃ s, o.toNat + 1 - j = s + 1 := ⟨o.toNat - j, by omega⟩
      have E1 : Hid (expL o xs = expGo (cntN o) xs s (j + 1) (zipF out (mulL (cntN o) pw xs) (invF (factN j))) (mulL (cntN o) pw xs)) := by
        show _ = _
        rw [hE.out, hsn, expGo]
      have hle' : (j : Int) ≤ o := by omega
      have p0 := m1.c0
      have p1 := m1.c1
      have p2 := m4.c0
      have p3 := m4.c1
      go_wp2_with fail
      clear p0 p1 p2 p3 hE
      refine (impl_mulWords o B4 (cntN o) d4 pw lo4 hi4 o A (cntN o) c xs lo hi wr ho4.out.1.ints h4 ho4.out.2.2.1 (by omega) h0 h5 rfl rfl ho4.out.2.2.2 hnum'.out).mono ?_
      rintro e v1 ⟨A5, c5, rfl, o5, b5⟩
      have y5 := b5.size
      have M4 := m4.below b5
      have n4 := M4.store2 (.int .i64 o) (.slice A5 (cntN o) c5)
      have n3 := (m3.below b5).far (show w1.heap.size ≠ w2.heap.size by omega) (.int .i64 o) (.slice A5 (cntN o) c5)
      have n1 := (m1.below b5).far (show w.heap.size ≠ w2.heap.size by omega) (.int .i64 o) (.slice A5 (cntN o) c5)
      have P3 := (ho3.out.1.below b5 ho3.out.2.2.1).same (store2_same (.int .i64 o) (.slice A5 (cntN o) c5) (b := w2.heap.size) (by have := ho3.out.2.2.2.1; omega))
      have P5 := o5.same (store2_same (.int .i64 o) (.slice A5 (cntN o) c5) (b := w2.heap.size) (by omega))
      have Hb := store2_below (hb.trans (b5.mono (show w1.heap.size ≤ wr.heap.size by omega))) (show w1.heap.size ≤ w2.heap.size by omega) (.int .i64 o) (.slice A5 (cntN o) c5)
      have ys := store2_size v1 w2.heap.size (.int .i64 o) (.slice A5 (cntN o) c5)
      have g0 := M4.c0
      have g1 := M4.c1
      have f0 := M4.f0
      have f1 := M4.f1
      clear m1 m2 m3 m4 h4 o5
      go_wp2_with fail
      clear g0 g1 f0 f1 M4
      generalize (v1.setCell ⟨w2.heap.size, 0, none⟩ (.int .i64 o)).setCell ⟨w2.heap.size, 1, none⟩ (.slice A5 (cntN o) c5) = v2 at n4 n3 n1 P3 P5 Hb ys ⊢
      have d2 : Below v2.heap.size v2 v2.drew := (Below.refl _ _).drew
      have dz := d2.size
      have r4 := n4.below d2
      have r3 := n3.below d2
      have r1 := n1.below d2
      have a1 := n3.c0
      have a2 := n3.c1
      have a3 := n4.c0
      have a4 := n4.c1
      have H3 := ho3.out.2.2.2.2
      have HL := mulL_num (cntN o) pw xs
      have hfb : factN j ≤ 120 := by
        obtain hj | hj | hj | hj | hj : j = 1 ∨ j = 2 ∨ j = 3 ∨ j = 4 ∨ j = 5 := by omega
        all_goals (subst hj; decide)
      have hfr : R64 (factN j : Int) := by constructor <;> omega
      have h1r : R64 (1 : Int) := by constructor <;> omega
      have hif := r64_of_num (invF_bd (factN j))
      have hi3 := ho3.out.2.2.1
      have HH := hide (And.intro P3 (And.intro P5 (And.intro H3 HL)))
      clear P3 P5 H3 HL ho3 ho4 n1 n3 n4
      refine still_tail 5 (by kernel_rfl) (by kernel_rfl) ?_
      simp only [List.take_succ_cons, List.take_zero, List.drop_succ_cons, List.drop_zero]
      repeat still_step
      still_call (still_same (impl_factorial j _ hj1 (by omega)))
      repeat still_step
      still_call (still_same (impl_Fraction 1 (factN j) _ h1r hfr))
      repeat still_step
      refine wpStill_nil ?_
      go_wp2_with fail
      refine (impl_mixWords o B3 (cntN o) d3 out _ _ o A5 (cntN o) c5 (mulL (cntN o) pw xs) _ _ (fracF 1 (factN j)) v2.drew (HH.out.1.below d2 (by omega)).ints (HH.out.2.1.below d2 (by omega)).ints (by omega) (by omega) h0 h5 rfl rfl HH.out.2.2.1 HH.out.2.2.2 (r64_of_num (fracF_bd _ _))).mono ?_
      rintro e v4 ⟨A6, c6, rfl, o6, b6⟩
      have y6 := b6.size
      have R3 := r3.below b6
      have n3 := R3.store2 (.int .i64 o) (.slice A6 (cntN o) c6)
      have n4 := (r4.below b6).far (show w2.heap.size ≠ w1.heap.size by omega) (.int .i64 o) (.slice A6 (cntN o) c6)
      have N6 := o6.same (store2_same (.int .i64 o) (.slice A6 (cntN o) c6) (b := w1.heap.size) (by omega))
      have N5 := ((HH.out.2.1.below d2 (by omega)).below b6 (by omega)).same (store2_same (.int .i64 o) (.slice A6 (cntN o) c6) (b := w1.heap.size) (by omega))
      have HB := store2_below ((Hb.drew).trans (b6.mono (show w1.heap.size ≤ v2.drew.heap.size by omega))) (Nat.le_refl _) (.int .i64 o) (.slice A6 (cntN o) c6)
      have ys6 := store2_size v4 w1.heap.size (.int .i64 o) (.slice A6 (cntN o) c6)
      have g0 := R3.c0
      have g1 := R3.c1
      have f0 := R3.f0
      have f1 := R3.f1
      clear r1 r3 r4 R3 b6 o6 a1 a2 a3 a4
      go_wp2_with fail
      clear g0 g1 f0 f1
      go_roundw
      case rel =>
        rw [fracF_one] at N6
        exact ⟨j + 1, A6, c6, A5, c5, _, _, _, _, _, _, by omega, by omega, by go_num, HB, n3, n4, ⟨N6, by omega, by omega, by omega, zip_num _ _ _⟩, ⟨N5, by omega, by omega, HH.out.2.2.2⟩, by
          show _ = _
          rw [E1.out]
          congr 1
          omega⟩
      case measure => simp [intOf]; omega
    · have E0 : Hid (expL o xs = out) := by
        show _ = _
        rw [hE.out, show o.toNat + 1 - j = 0 by omega]
        rfl
      have hle' : ¬ (j : Int) ≤ o := by omega
      have p0 := m1.c0
      have p1 := m1.c1
      have p2 := m3.c0
      have p3 := m3.c1
      have p4 := m2.c0
      have p5 := m2.c1
      have p6 := m2.f0
      have p7 := m2.f1
      have B5 := b4.trans (hb.mono (show w.heap.size ≤ w1.heap.size by omega))
      have HO : Hid (OwnI wr w.heap.size wr.heap.size B3 (cntN o) d3 out ∧ w.heap.size + 1 < lo3) := ⟨ho3.out.1.wide (by have := ho3.out.2.1; omega) ho3.out.2.2.1, by have := ho3.out.2.1; omega⟩
      have HO2 := hide ho3.out.1
      have hz3 := ho3.out.2.2.1
      have hz2 := ho3.out.2.1
      have l6 := m2.lt
      clear hE ho3 ho4 hb m1 m2 m3 m4 h4 l1 l2 l3 l4 o3 o4' h3 b4
      go_wp2_with fail
      refine bodyPost_ret (v := .agg #[.int .i64 o, .slice B3 (cntN o) d3]) (by simp [results, Try.results88, go_sem, p4, p5]) rfl ⟨_, _, rfl, ?_, ?_⟩
      · rw [E0.out]
        refine (OwnI.same HO2.out ?_).wide (by omega) ?_
        · (repeat (first | with_reducible exact Same.refl _ _ _ | with_reducible refine Same.drew ?_ | ((with_reducible refine Same.alloc ?_ ?_ _); rotate_left; · first | omega | (simp [World.setCell]; done) | (simp [World.setCell]; omega)) | ((with_reducible refine Same.setCell ?_ ?_ _); rotate_left; · first | omega | (simp; done) | (simp; omega))))
        · simp [World.setCell]; omega
      · (repeat (first | with_reducible exact B5 | with_reducible exact Below.refl _ _ | with_reducible refine Below.drew ?_ | ((with_reducible refine Below.alloc ?_ ?_ _); rotate_left; · first | omega | (simp [World.setCell]; done) | (simp [World.setCell]; omega)) | ((with_reducible refine Below.setCell ?_ ?_ _); rotate_left; · first | exact Nat.le_refl _ | omega | (simp; done) | (simp; omega))))

set_option maxRecDepth 100000 in
set_option maxHeartbeats 2000000 in
theorem impl_ExpWords (o : Int) (A : Option Addr) (n c : Nat) (xs : List Int) (lo hi : Nat) (w : World) (h : Ints w lo hi A n c xs) (hh : hi ≤ w.heap.size) :
    Calls Try.prog 32 #[.agg #[.int .i64 o, .slice A n c]] w fun e w' => ∃ A' n' c', e = .returned (.tuple #[.agg #[.int .i64 (expF o xs).1.1, .slice A' n' c'], .bool (expF o xs).2]) ∧ OwnI w' w.heap.size w'.heap.size A' n' c' (expF o xs).1.2 ∧ Below w.heap.size w w' := by
  have hm := h.max
  have hcp := h.cap
  have a1 := below_alloc w (.cells #[.int .i64 o, .slice A n c] 38)
  have a2 := below_alloc (w.alloc (.cells #[.int .i64 o, .slice A n c] 38)) (.cells #[.int .i64 0, .slice none 0 0] 38)
  have j1 := (Blk2.new w (.int .i64 o) (.slice A n c) 38).below a2
  have j2 := Blk2.new (w.alloc (.cells #[.int .i64 o, .slice A n c] 38)) (.int .i64 0) (.slice none 0 0) 38
  have b0 := a1.trans (a2.mono a1.size)
  simp only [World.size_alloc] at j2
  have z0 := b0.size
  clear a1 a2
  go_enter Try.func32, Try.ntmps32
  go_wp2_with fail
  have h1 := h.below b0 hh
  generalize World.alloc (World.alloc w (.cells #[.int .i64 o, .slice A n c] 38)) (.cells #[.int .i64 0, .slice none 0 0] 38) = W at j1 j2 b0 h1 z0 ⊢
  refine (impl_WordsOk o A n c xs lo hi W h1 (by omega)).mono ?_
  rintro e w1 ⟨rfl, b1⟩
  have k1 := j1.below b1
  have k2 := j2.below b1
  have h2 := h1.below b1 (by omega)
  have b2 := b0.trans (b1.mono z0)
  have z1 := b2.size
  have q2 := k2.lt
  clear j1 j2 h1 b0 b1 z0
  by_cases hok : wordsOkF o xs = true
  · obtain ⟨⟨h0, h5⟩, hlen, hnum⟩ := wordsOk_facts hok
    have hcb := cntN_bd h5
    obtain rfl : n = cntN o := by rw [← h.len, hlen]
    obtain ⟨ad, x, rfl, hc, hr, _, hx⟩ := h2.at_ (k := 0) (by omega)
    have p0 := k1.c1
    have hgd : xs.getD 0 0 = x := by rw [List.getD, hx.out]; rfl
    have hc0 : w1.cell? ad = some (.int .i64 x) := by simpa [Addr.add] using hc
    have H := hide (And.intro hnum hlen)
    have hokH := hide hok
    rw [hok]
    clear hnum hlen hr hx hok
    by_cases hx0 : x = 0
    · have hF : Hid (expF o xs = ((o, expL o xs), true)) := if_pos ⟨hokH.out, hgd.trans hx0⟩
      clear hgd
      subst hx0
      have p1 := k1.c0
      go_wp2_with fail
      clear p0 p1
      refine (impl_expWords o (some ad) (cntN o) c xs lo hi w1 h2 (by omega) h0 h5 rfl H.out.1).mono ?_
      rintro e w2 ⟨A2, c2, rfl, o2, b3⟩
      have l3 := k2.below b3
      have p4 := l3.c0
      have p5 := l3.c1
      have p6 := l3.f0
      have p7 := l3.f1
      have l6 := l3.lt
      have B5 := b2.trans (b3.mono z1)
      have HO := hide o2
      clear o2 b3 b2 l3 k1 k2
      go_wp2_with fail
      refine bodyPost_ret (v := .tuple #[.agg #[.int .i64 o, .slice A2 (cntN o) c2], .bool true]) (by simp [results, Try.results32, go_sem, p4, p5]) rfl ⟨_, _, _, by rw [hF.out], ?_, ?_⟩
      · rw [hF.out]
        refine (OwnI.same HO.out ?_).wide (by omega) ?_
        · (repeat (first | with_reducible exact Same.refl _ _ _ | with_reducible refine Same.drew ?_ | ((with_reducible refine Same.alloc ?_ ?_ _); rotate_left; · first | omega | (simp [World.setCell]; done) | (simp [World.setCell]; omega)) | ((with_reducible refine Same.setCell ?_ ?_ _); rotate_left; · first | omega | (simp; done) | (simp; omega))))
        · simp [World.setCell]
      · (repeat (first | with_reducible exact B5 | with_reducible exact Below.refl _ _ | with_reducible refine Below.drew ?_ | ((with_reducible refine Below.alloc ?_ ?_ _); rotate_left; · first | omega | (simp [World.setCell]; done) | (simp [World.setCell]; omega)) | ((with_reducible refine Below.setCell ?_ ?_ _); rotate_left; · first | exact Nat.le_refl _ | omega | (simp; done) | (simp; omega))))
    · have hF : Hid (expF o xs = ((0, []), false)) := if_neg (fun h => hx0 (hgd.symm.trans h.2))
      clear hgd
      have p4 := k2.c0
      have p5 := k2.c1
      have p6 := k2.f0
      have p7 := k2.f1
      go_wp2_with fail
      refine bodyPost_ret (v := .tuple #[.agg #[.int .i64 0, .slice none 0 0], .bool false]) (by simp [results, Try.results32, go_sem, p4, p5]) rfl ⟨_, _, _, by rw [hF.out], by rw [hF.out]; exact OwnI.nil_ _ _ _, ?_⟩
      (repeat (first | with_reducible exact b2 | with_reducible exact Below.refl _ _ | with_reducible refine Below.drew ?_ | ((with_reducible refine Below.alloc ?_ ?_ _); rotate_left; · first | omega | (simp [World.setCell]; done) | (simp [World.setCell]; omega)) | ((with_reducible refine Below.setCell ?_ ?_ _); rotate_left; · first | exact Nat.le_refl _ | omega | (simp; done) | (simp; omega))))
  · have hF : Hid (expF o xs = ((0, []), false)) := if_neg (fun h => hok h.1)
    have hok' : wordsOkF o xs = false := by simpa using hok
    rw [hok']
    clear hok
    have p4 := k2.c0
    have p5 := k2.c1
    have p6 := k2.f0
    have p7 := k2.f1
    go_wp2_with fail
    refine bodyPost_ret (v := .tuple #[.agg #[.int .i64 0, .slice none 0 0], .bool false]) (by simp [results, Try.results32, go_sem, p4, p5]) rfl ⟨_, _, _, by rw [hF.out], by rw [hF.out]; exact OwnI.nil_ _ _ _, ?_⟩
    (repeat (first | with_reducible exact b2 | with_reducible exact Below.refl _ _ | with_reducible refine Below.drew ?_ | ((with_reducible refine Below.alloc ?_ ?_ _); rotate_left; · first | omega | (simp [World.setCell]; done) | (simp [World.setCell]; omega)) | ((with_reducible refine Below.setCell ?_ ?_ _); rotate_left; · first | exact Nat.le_refl _ | omega | (simp; done) | (simp; omega))))

end Go.Proofs.Ytodlfmagkjblgaa
