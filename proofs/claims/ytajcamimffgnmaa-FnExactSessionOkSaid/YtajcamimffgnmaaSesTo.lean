/- Sessions: making one. -/
import Derived.Test.YtajcamimffgnmaaSesOk
namespace Go.Proofs.Ytajcamimffgnmaa
open Go.RowKit
set_option linter.unusedSimpArgs false
set_option linter.unusedVariables false
set_option maxRecDepth 20000

theorem below_set' {B : Nat} {w w' : World} (h : Below B w w') (b i : Nat) (hb : B ≤ b) (v : Value) : Below B w (w'.setCell ⟨b, i, none⟩ v) := h.setCell (p := ⟨b, i, none⟩) hb v
theorem Ints.set' {w : World} {lo hi : Nat} {A : Option Addr} {n c : Nat} {xs : List Int} (h : Ints w lo hi A n c xs) (b i : Nat) (hb : b < lo) (v : Value) : Ints (w.setCell ⟨b, i, none⟩ v) lo hi A n c xs := h.same ((Same.refl _ _ _).setCell (p := ⟨b, i, none⟩) (.inl hb) v)
theorem Mons2.set' {w : World} {lo hi : Nat} {A : Option Addr} {n c : Nat} {xs : List (List Mono)} (h : Mons2 w lo hi A n c xs) (b i : Nat) (hb : b < lo) (v : Value) : Mons2 (w.setCell ⟨b, i, none⟩ v) lo hi A n c xs := h.same ((Same.refl _ _ _).setCell (p := ⟨b, i, none⟩) (.inl hb) v)

set_option maxRecDepth 100000 in
set_option maxHeartbeats 4000000 in
theorem laws_toSession (s : Int) (A : Option Addr) (n c : Nat) (us : List Int) (B : Option Addr) (m d : Nat) (vs : List Int) (o : Int) (P : Option Addr) (k e : Nat) (ps : List (List Mono)) (X : Option Addr) (x f : Nat) (xs : List Int) (lo hi : Nat) (w : World) (ha : Ints w lo hi A n c us) (hb : Ints w lo hi B m d vs) (hp : Mons2 w lo hi P k e ps) (hx : Ints w lo hi X x f xs) (hh : hi ≤ w.heap.size) (hn : n ≤ 1048576) (hm : m ≤ 1048576) (hxx : x ≤ 1048576) (hk : k ≤ 1048576) (hr : ∀ p ∈ ps, p.length ≤ 1048576 ∧ ∀ m ∈ p, m.2.length ≤ 1048576) :
    Calls Try.prog 6 #[.agg #[.int .i64 s, .slice A n c, .slice B m d, .int .i64 o, .slice P k e, .slice X x f]] w fun r w' => ∃ A' c' B' d' P' e' X' f', r = .returned (.agg #[.int .i64 s, .slice A' n c', .slice B' m d', .int .i64 o, .slice P' k e', .slice X' x f']) ∧ Ints w' w.heap.size w'.heap.size A' n c' us ∧ Ints w' w.heap.size w'.heap.size B' m d' vs ∧ Mons2 w' w.heap.size w'.heap.size P' k e' ps ∧ Ints w' w.heap.size w'.heap.size X' x f' xs ∧ Below w.heap.size w w' := by
  have acp := ha.cap
  have amx := ha.max
  have bcp := hb.cap
  have bmx := hb.max
  have xcp := hx.cap
  have xmx := hx.max
  have HR := hide hr
  clear hr
  have a1 := below_alloc w (.cells #[.int .i64 s, .slice A n c, .slice B m d, .int .i64 o, .slice P k e, .slice X x f] 29)
  have j1 := BlkN.new w #[.int .i64 s, .slice A n c, .slice B m d, .int .i64 o, .slice P k e, .slice X x f] 29
  generalize hW1 : w.alloc (.cells #[.int .i64 s, .slice A n c, .slice B m d, .int .i64 o, .slice P k e, .slice X x f] 29) = W1 at a1 j1
  have s1 : W1.heap.size = w.heap.size + 1 := by rw [← hW1]; simp
  have a2 := below_alloc W1 (.cells #[.int .i64 0, .slice none 0 0, .slice none 0 0, .int .i64 0, .slice none 0 0, .slice none 0 0] 37)
  have j2 := BlkN.new W1 #[.int .i64 0, .slice none 0 0, .slice none 0 0, .int .i64 0, .slice none 0 0, .slice none 0 0] 37
  have j1b := j1.below a2
  generalize hW2 : W1.alloc (.cells #[.int .i64 0, .slice none 0 0, .slice none 0 0, .int .i64 0, .slice none 0 0, .slice none 0 0] 37) = W2 at a2 j2 j1b
  have s2 : W2.heap.size = w.heap.size + 1 + 1 := by rw [← hW2]; simp; omega
  have a3 := below_alloc W2 (.cells #[.int .i64 0, .slice none 0 0, .slice none 0 0, .int .i64 0, .slice none 0 0, .slice none 0 0] 37)
  have k3 := BlkN.new W2 #[.int .i64 0, .slice none 0 0, .slice none 0 0, .int .i64 0, .slice none 0 0, .slice none 0 0] 37
  have k2 := j2.below a3
  have k1 := j1b.below a3
  have hW3 : W2.alloc (.cells #[.int .i64 0, .slice none 0 0, .slice none 0 0, .int .i64 0, .slice none 0 0, .slice none 0 0] 37) = ((w.alloc (.cells #[.int .i64 s, .slice A n c, .slice B m d, .int .i64 o, .slice P k e, .slice X x f] 29)).alloc (.cells #[.int .i64 0, .slice none 0 0, .slice none 0 0, .int .i64 0, .slice none 0 0, .slice none 0 0] 37)).alloc (.cells #[.int .i64 0, .slice none 0 0, .slice none 0 0, .int .i64 0, .slice none 0 0, .slice none 0 0] 37) := by rw [← hW2, ← hW1]
  rw [hW3] at a3 k3 k2 k1
  rw [s1] at k2
  rw [s2] at k3
  have c0 := (a1.trans (a2.mono (by omega))).trans (a3.mono (by omega))
  have z0 := c0.size
  have q3 := k3.lt
  clear a1 a2 a3 j1 j2 j1b hW1 hW2 hW3 s1 s2
  go_enter Try.func6, Try.ntmps6
  go_wp2_with fail
  generalize ((w.alloc (.cells #[.int .i64 s, .slice A n c, .slice B m d, .int .i64 o, .slice P k e, .slice X x f] 29)).alloc (.cells #[.int .i64 0, .slice none 0 0, .slice none 0 0, .int .i64 0, .slice none 0 0, .slice none 0 0] 37)).alloc (.cells #[.int .i64 0, .slice none 0 0, .slice none 0 0, .int .i64 0, .slice none 0 0, .slice none 0 0] 37) = W at k1 k2 k3 c0 z0 q3 ⊢
  refine (laws_toTableau s A n c us B m d vs lo hi W (ha.below c0 hh) (hb.below c0 hh) (by omega) hn hm).mono ?_
  rintro r w1 ⟨A1, c1, B1, d1, mid, rfl, o1, o2, hmid1, hmid2, b1⟩
  have z1 := b1.size
  have k1a := k1.below b1
  have k2a := k2.below b1
  have k3a := k3.below b1
  have cc := c0.trans (b1.mono z0)
  have hb3 : w.heap.size + 1 + 1 + 1 ≤ W.heap.size := by omega
  have I1 := o1.ints.wide hb3 hmid2
  have I2 := o2.ints.wide (Nat.le_trans hb3 hmid1) (Nat.le_refl _)
  have m3 := (((k3a.set 0 (.int .i64 s)).set 1 (.slice A1 n c1)).set 2 (.slice B1 m d1))
  have m2 := (((k2a.far (b := w.heap.size + 1 + 1) (i := 0) (by omega) (.int .i64 s)).far (b := w.heap.size + 1 + 1) (i := 1) (by omega) (.slice A1 n c1)).far (b := w.heap.size + 1 + 1) (i := 2) (by omega) (.slice B1 m d1))
  have m1 := (((k1a.far (b := w.heap.size + 1 + 1) (i := 0) (by omega) (.int .i64 s)).far (b := w.heap.size + 1 + 1) (i := 1) (by omega) (.slice A1 n c1)).far (b := w.heap.size + 1 + 1) (i := 2) (by omega) (.slice B1 m d1))
  have ccs := (below_set' (below_set' (below_set' cc (w.heap.size + 1 + 1) 0 (by omega) (.int .i64 s)) (w.heap.size + 1 + 1) 1 (by omega) (.slice A1 n c1)) (w.heap.size + 1 + 1) 2 (by omega) (.slice B1 m d1))
  have I1s := (((I1.set' (w.heap.size + 1 + 1) 0 (by omega) (.int .i64 s)).set' (w.heap.size + 1 + 1) 1 (by omega) (.slice A1 n c1)).set' (w.heap.size + 1 + 1) 2 (by omega) (.slice B1 m d1))
  have I2s := (((I2.set' (w.heap.size + 1 + 1) 0 (by omega) (.int .i64 s)).set' (w.heap.size + 1 + 1) 1 (by omega) (.slice A1 n c1)).set' (w.heap.size + 1 + 1) 2 (by omega) (.slice B1 m d1))
  simp only [List.setIfInBounds_toArray, List.set_cons_zero, List.set_cons_succ] at m3
  have es : (((w1.setCell ⟨w.heap.size + 1 + 1, 0, none⟩ (.int .i64 s)).setCell ⟨w.heap.size + 1 + 1, 1, none⟩ (.slice A1 n c1)).setCell ⟨w.heap.size + 1 + 1, 2, none⟩ (.slice B1 m d1)).heap.size = w1.heap.size := by simp [World.setCell]
  have x0 := k3a.c 0 rfl
  have y0 := k3a.f 0
  have x1 := k3a.c 1 rfl
  have y1 := k3a.f 1
  have x2 := k3a.c 2 rfl
  have y2 := k3a.f 2
  have e3 : (((w1.setCell ⟨w.heap.size + 1 + 1, 0, none⟩ (.int .i64 s)).setCell ⟨w.heap.size + 1 + 1, 1, none⟩ (.slice A1 n c1)).setCell ⟨w.heap.size + 1 + 1, 2, none⟩ (.slice B1 m d1)).cell? ⟨w.heap.size, 3, none⟩ = some (.int .i64 o) := m1.c 3 rfl
  have e4 : (((w1.setCell ⟨w.heap.size + 1 + 1, 0, none⟩ (.int .i64 s)).setCell ⟨w.heap.size + 1 + 1, 1, none⟩ (.slice A1 n c1)).setCell ⟨w.heap.size + 1 + 1, 2, none⟩ (.slice B1 m d1)).cell? ⟨w.heap.size, 4, none⟩ = some (.slice P k e) := m1.c 4 rfl
  have hpp := hp.below ccs hh
  have hxx2 := hx.below ccs hh
  clear k1 k2 k3 k1a k2a k3a o1 o2 b1 c0 I1 I2 cc
  go_wp2_with fail
  clear e3 e4 x0 x1 x2 y0 y1 y2
  generalize (((w1.setCell ⟨w.heap.size + 1 + 1, 0, none⟩ (.int .i64 s)).setCell ⟨w.heap.size + 1 + 1, 1, none⟩ (.slice A1 n c1)).setCell ⟨w.heap.size + 1 + 1, 2, none⟩ (.slice B1 m d1)) = V1 at m1 m2 m3 ccs I1s I2s es hpp hxx2 ⊢
  have hV1 : hi ≤ V1.heap.size := by omega
  refine (laws_toField o P k e ps lo hi V1 hpp hV1 hk HR.out).mono ?_
  rintro r w2 ⟨P1, e1, rfl, o3, b2⟩
  have z2 := b2.size
  have k1a := m1.below b2
  have k2a := m2.below b2
  have k3a := m3.below b2
  have cc := ccs.trans (b2.mono (by omega))
  have I1 := I1s.below b2 (by omega)
  have I2 := I2s.below b2 (by omega)
  have I3 := o3.wide (lo' := w.heap.size + 1 + 1 + 1) (hi' := w2.heap.size) (by omega) (Nat.le_refl _)
  have hV2 : V1.heap.size = w1.heap.size := es
  clear es ccs I1s I2s m1 m2 m3 hpp hxx2
  have m3 := ((k3a.set 3 (.int .i64 o)).set 4 (.slice P1 k e1))
  have m2 := ((k2a.far (b := w.heap.size + 1 + 1) (i := 3) (by omega) (.int .i64 o)).far (b := w.heap.size + 1 + 1) (i := 4) (by omega) (.slice P1 k e1))
  have m1 := ((k1a.far (b := w.heap.size + 1 + 1) (i := 3) (by omega) (.int .i64 o)).far (b := w.heap.size + 1 + 1) (i := 4) (by omega) (.slice P1 k e1))
  have ccs := (below_set' (below_set' cc (w.heap.size + 1 + 1) 3 (by omega) (.int .i64 o)) (w.heap.size + 1 + 1) 4 (by omega) (.slice P1 k e1))
  have I1s := ((I1.set' (w.heap.size + 1 + 1) 3 (by omega) (.int .i64 o)).set' (w.heap.size + 1 + 1) 4 (by omega) (.slice P1 k e1))
  have I2s := ((I2.set' (w.heap.size + 1 + 1) 3 (by omega) (.int .i64 o)).set' (w.heap.size + 1 + 1) 4 (by omega) (.slice P1 k e1))
  have I3s := ((I3.set' (w.heap.size + 1 + 1) 3 (by omega) (.int .i64 o)).set' (w.heap.size + 1 + 1) 4 (by omega) (.slice P1 k e1))
  simp only [List.setIfInBounds_toArray, List.set_cons_zero, List.set_cons_succ] at m3
  have es : ((w2.setCell ⟨w.heap.size + 1 + 1, 3, none⟩ (.int .i64 o)).setCell ⟨w.heap.size + 1 + 1, 4, none⟩ (.slice P1 k e1)).heap.size = w2.heap.size := by simp [World.setCell]
  have x3 := k3a.c 3 rfl
  have y3 := k3a.f 3
  have x4 := k3a.c 4 rfl
  have y4 := k3a.f 4
  have e5 : ((w2.setCell ⟨w.heap.size + 1 + 1, 3, none⟩ (.int .i64 o)).setCell ⟨w.heap.size + 1 + 1, 4, none⟩ (.slice P1 k e1)).cell? ⟨w.heap.size, 5, none⟩ = some (.slice X x f) := m1.c 5 rfl
  have hxx2 := hx.below ccs hh
  clear k1a k2a k3a o3 b2 I1 I2 I3 cc
  go_wp2_with fail
  clear e5 x3 x4 y3 y4
  generalize ((w2.setCell ⟨w.heap.size + 1 + 1, 3, none⟩ (.int .i64 o)).setCell ⟨w.heap.size + 1 + 1, 4, none⟩ (.slice P1 k e1)) = V2 at m1 m2 m3 ccs I1s I2s I3s es hxx2 ⊢
  have hV3 : hi ≤ V2.heap.size := by omega
  refine (laws_toIntS X x f xs lo hi V2 hxx2 hV3 hxx).mono ?_
  rintro r w3 ⟨X1, f1, rfl, o4, b3⟩
  have z3 := b3.size
  have k1a := m1.below b3
  have k2a := m2.below b3
  have k3a := m3.below b3
  have cc := ccs.trans (b3.mono (by omega))
  have I1 := I1s.below b3 (by omega)
  have I2 := I2s.below b3 (by omega)
  have I3 := I3s.below b3 (by omega)
  have I4 := o4.ints.wide (lo' := w.heap.size + 1 + 1 + 1) (hi' := w3.heap.size) (by omega) (Nat.le_refl _)
  have hV4 : V2.heap.size = w2.heap.size := es
  clear es ccs I1s I2s I3s m1 m2 m3 hxx2
  have m3 := (k3a.set 5 (.slice X1 x f1))
  have m2 := (k2a.far (b := w.heap.size + 1 + 1) (i := 5) (by omega) (.slice X1 x f1))
  have m1 := (k1a.far (b := w.heap.size + 1 + 1) (i := 5) (by omega) (.slice X1 x f1))
  have ccs := (below_set' cc (w.heap.size + 1 + 1) 5 (by omega) (.slice X1 x f1))
  have I1s := (I1.set' (w.heap.size + 1 + 1) 5 (by omega) (.slice X1 x f1))
  have I2s := (I2.set' (w.heap.size + 1 + 1) 5 (by omega) (.slice X1 x f1))
  have I3s := (I3.set' (w.heap.size + 1 + 1) 5 (by omega) (.slice X1 x f1))
  have I4s := (I4.set' (w.heap.size + 1 + 1) 5 (by omega) (.slice X1 x f1))
  simp only [List.setIfInBounds_toArray, List.set_cons_zero, List.set_cons_succ] at m3
  have es : (w3.setCell ⟨w.heap.size + 1 + 1, 5, none⟩ (.slice X1 x f1)).heap.size = w3.heap.size := by simp [World.setCell]
  have x5 := k3a.c 5 rfl
  have y5 := k3a.f 5
  clear k1a k2a k3a o4 b3 I1 I2 I3 I4 cc
  have g0 := m3.c 0 rfl
  have r0 := m2.c 0 rfl
  have t0 := m2.f 0
  have g1 := m3.c 1 rfl
  have r1 := m2.c 1 rfl
  have t1 := m2.f 1
  have g2 := m3.c 2 rfl
  have r2 := m2.c 2 rfl
  have t2 := m2.f 2
  have g3 := m3.c 3 rfl
  have r3 := m2.c 3 rfl
  have t3 := m2.f 3
  have g4 := m3.c 4 rfl
  have r4 := m2.c 4 rfl
  have t4 := m2.f 4
  have g5 := m3.c 5 rfl
  have r5 := m2.c 5 rfl
  have t5 := m2.f 5
  have lt2 := m2.lt
  have HQ := hide (And.intro I1s (And.intro I2s (And.intro I3s I4s)))
  have HC := hide ccs
  clear m1 m2 m3 I1s I2s I3s I4s ccs
  generalize hW4 : (w3.setCell ⟨w.heap.size + 1 + 1, 5, none⟩ (.slice X1 x f1)) = W4 at g0 g1 g2 g3 g4 g5 r0 r1 r2 r3 r4 r5 t0 t1 t2 t3 t4 t5 lt2 es HQ HC
  go_wp2_with fail
  refine bodyPost_ret (v := .agg #[.int .i64 s, .slice A1 n c1, .slice B1 m d1, .int .i64 o, .slice P1 k e1, .slice X1 x f1]) (by simp [results, Try.results6, go_sem, r0, r1, r2, r3, r4, r5, lt2]) rfl ⟨_, _, _, _, _, _, _, _, rfl, ?_, ?_, ?_, ?_, ?_⟩
  · refine (Ints.same HQ.out.1 ?_).wide (by omega) (by simp [World.setCell]; omega)
    (repeat (first | with_reducible exact Same.refl _ _ _ | with_reducible refine Same.drew ?_ | ((with_reducible refine Same.alloc ?_ ?_ _); rotate_left; · first | omega | (simp [World.setCell]; done) | (simp [World.setCell]; omega)) | ((with_reducible refine Same.setCell ?_ ?_ _); rotate_left; · first | omega | (simp; done) | (simp; omega))))
  · refine (Ints.same HQ.out.2.1 ?_).wide (by omega) (by simp [World.setCell]; omega)
    (repeat (first | with_reducible exact Same.refl _ _ _ | with_reducible refine Same.drew ?_ | ((with_reducible refine Same.alloc ?_ ?_ _); rotate_left; · first | omega | (simp [World.setCell]; done) | (simp [World.setCell]; omega)) | ((with_reducible refine Same.setCell ?_ ?_ _); rotate_left; · first | omega | (simp; done) | (simp; omega))))
  · refine (Mons2.same HQ.out.2.2.1 ?_).wide (by omega) (by simp [World.setCell]; omega)
    (repeat (first | with_reducible exact Same.refl _ _ _ | with_reducible refine Same.drew ?_ | ((with_reducible refine Same.alloc ?_ ?_ _); rotate_left; · first | omega | (simp [World.setCell]; done) | (simp [World.setCell]; omega)) | ((with_reducible refine Same.setCell ?_ ?_ _); rotate_left; · first | omega | (simp; done) | (simp; omega))))
  · refine (Ints.same HQ.out.2.2.2 ?_).wide (by omega) (by simp [World.setCell]; omega)
    (repeat (first | with_reducible exact Same.refl _ _ _ | with_reducible refine Same.drew ?_ | ((with_reducible refine Same.alloc ?_ ?_ _); rotate_left; · first | omega | (simp [World.setCell]; done) | (simp [World.setCell]; omega)) | ((with_reducible refine Same.setCell ?_ ?_ _); rotate_left; · first | omega | (simp; done) | (simp; omega))))
  · (repeat (first | with_reducible exact HC.out | with_reducible exact Below.refl _ _ | with_reducible refine Below.drew ?_ | ((with_reducible refine Below.alloc ?_ ?_ _); rotate_left; · first | omega | (simp [World.setCell]; done) | (simp [World.setCell]; omega)) | ((with_reducible refine Below.setCell ?_ ?_ _); rotate_left; · first | exact Nat.le_refl _ | omega | (simp; done) | (simp; omega))))
end Go.Proofs.Ytajcamimffgnmaa
