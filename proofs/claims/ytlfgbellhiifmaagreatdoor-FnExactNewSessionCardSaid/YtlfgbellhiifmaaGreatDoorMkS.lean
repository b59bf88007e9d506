/- Marks on a new session: the statements' helpers. -/
import Derived.Test.YtlfgbellhiifmaaGreatDoorNewS
import Derived.Test.YtlfgbellhiifmaaGreatDoorMarks
namespace Go.Proofs.YtlfgbellhiifmaaGreatDoor
open Go.RowKit
set_option linter.unusedSimpArgs false
set_option linter.unusedVariables false
set_option maxRecDepth 20000

theorem marks_one (k : Int) : marks k 1 = [k] := by simp [marks]
section
variable {w w' : World} {lo hi gP e gQ q gR r : Nat} {x y : Int}
theorem Fld1.row (h : Fld1 w lo hi gP e gQ q gR r x y) : OwnI w gR (gR + 1) (some ⟨gR, 0, none⟩) 1 r [y] :=
  ⟨owns_raise h.r (Nat.le_refl _), fun ad e => by injection e with e; subst e; exact Nat.lt_succ_self _, one_rng h.ry⟩
theorem Fld1.setX (h : Fld1 w lo hi gP e gQ q gR r x y) {k : Int} (hk : R64 k) : Fld1 (w.setCell ⟨gQ, 0, none⟩ (.int .i64 k)) lo hi gP e gQ q gR r k y := by
  have hs : ∀ g, g ≠ gQ → (w.setCell ⟨gQ, 0, none⟩ (.int .i64 k)).heap[g]? = w.heap[g]? := fun g hg => Below.heap_setCell _ _ _ _ hg
  exact ⟨owns_same h.p (fun ad e => by injection e with e; subst e; exact hs gP h.pq), (h.q.stored 0 (.int .i64 k)).1, owns_same h.r (fun ad e => by injection e with e; subst e; exact hs gR (Ne.symm h.qr)), h.lp, h.lq, h.lr, h.pq, h.pr, h.qr, hk, h.ry⟩
theorem Fld1.setY (h : Fld1 w lo hi gP e gQ q gR r x y) {k : Int} (o : OwnI w' gR (gR + 1) (some ⟨gR, 0, none⟩) 1 r [k]) (t : Touch gR (gR + 1) w w') : Fld1 w' lo hi gP e gQ q gR r x k := by
  have hk : R64 k := o.rng k (by simp)
  have p1 := h.pr
  have p2 := h.qr
  have l1 := (h.p.lt gP rfl).2
  have l2 := (h.q.lt gQ rfl).2
  have k1 := t.block gP l1 (by omega)
  have k2 := t.block gQ l2 (by omega)
  exact ⟨owns_same h.p (fun ad e => by injection e with e; subst e; exact k1), owns_same h.q (fun ad e => by injection e with e; subst e; exact k2), owns_low o.own (h.r.lt gR rfl).1, h.lp, h.lq, h.lr, h.pq, h.pr, h.qr, h.rx, hk⟩
end

set_option maxHeartbeats 2000000 in
theorem laws_markMono1 (lo hi gP e gQ q gR r : Nat) (x y k : Int) (w : World) (h : Fld1 w lo hi gP e gQ q gR r x y) (h0 : 0 ≤ k) (h1 : k ≤ 1000) :
    Calls Tryz.prog 81 #[.slice (some ⟨gQ, 0, none⟩) 1 q, .int .i64 k] w fun v w' => v = .returned (.int .i64 (k + 2)) ∧ Fld1 w' lo hi gP e gQ q gR r k (k + 1) ∧ Touch lo hi w w' := by
  have c0 := h.cq0
  have f0 := h.q.frozenAt 0
  have hq := own_cap h.q
  have hr := own_cap h.r
  have hx := hide (h.setX (k := k) (by constructor <;> omega))
  have l1 := h.q.lt gQ rfl
  have l2 := h.r.lt gR rfl
  have l3 := h.lq
  have l4 := h.lr
  have ht := hide ((Touch.refl lo hi w).setCell (p := ⟨gQ, 0, none⟩) (.inl ⟨l1.1, l3⟩) (.int .i64 k))
  have c1 := hx.out.cq1
  clear h
  go_enter Tryz.func81, Tryz.ntmps81
  go_wp2_with fail
  refine wp_loop_rounds 2 ?_
  rw [rounds_succ]
  go_wp2_with fail
  refine (laws_markIntS _ 1 r [y] gR (gR + 1) (k + 1) _ hx.out.row (by omega) (by omega)).mono ?_
  rintro v w2 ⟨rfl, o2, t2, e2⟩
  rw [marks_one] at o2
  have H2 := hide (hx.out.setY o2 t2)
  have T2 := hide (ht.out.trans (t2.wide l2.1 l4))
  clear o2 t2 hx ht
  go_wp2_with fail
  rw [rounds_succ]
  go_wp2_with fail
  go_ret
  exact ⟨by simp [Int.add_assoc], H2.out, T2.out⟩

set_option maxHeartbeats 2000000 in
theorem laws_markMonos1 (lo hi gP e gQ q gR r : Nat) (x y k : Int) (w : World) (h : Fld1 w lo hi gP e gQ q gR r x y) (h0 : 0 ≤ k) (h1 : k ≤ 1000) :
    Calls Tryz.prog 43 #[.slice (some ⟨gP, 0, none⟩) 1 e, .int .i64 k] w fun v w' => v = .returned (.int .i64 (k + 2)) ∧ Fld1 w' lo hi gP e gQ q gR r k (k + 1) ∧ Touch lo hi w w' := by
  have c0 := h.cp
  have hp := own_cap h.p
  have hm := hide (laws_markMono1 lo hi gP e gQ q gR r x y k w h h0 h1)
  clear h
  go_enter Tryz.func43, Tryz.ntmps43
  go_wp2_with fail
  refine wp_loop_rounds 2 ?_
  rw [rounds_succ]
  go_wp2_with fail
  refine hm.out.mono ?_
  rintro v w2 ⟨rfl, o2, t2⟩
  have H2 := hide o2
  have T2 := hide t2
  clear o2 t2
  go_wp2_with fail
  rw [rounds_succ]
  go_wp2_with fail
  go_ret
  exact ⟨rfl, H2.out, T2.out⟩

set_option maxHeartbeats 2000000 in
theorem laws_markField1 (lo hi gP e gQ q gR r : Nat) (s x y k : Int) (w : World) (h : Fld1 w lo hi gP e gQ q gR r x y) (hh : hi ≤ w.heap.size) (h0 : 0 ≤ k) (h1 : k ≤ 1000) :
    Calls Tryz.prog 17 #[.agg #[.int .i64 s, .slice (some ⟨gP, 0, none⟩) 1 e], .int .i64 k] w fun v w' => v = .returned (.int .i64 (k + 2)) ∧ Fld1 w' lo hi gP e gQ q gR r k (k + 1) ∧ Touch lo hi w w' := by
  have b0 := below_alloc w (.cells #[.int .i64 s, .slice (some ⟨gP, 0, none⟩) 1 e] 27)
  have hm := hide (laws_markMonos1 lo hi gP e gQ q gR r x y k _ (h.below b0 hh) h0 h1)
  have B0 := hide b0
  clear h
  go_enter Tryz.func17, Tryz.ntmps17
  go_wp2_with fail
  refine hm.out.mono ?_
  rintro v w2 ⟨rfl, o2, t2⟩
  have H2 := hide o2
  have T2 := hide ((Touch.of_below B0.out).trans t2)
  clear o2 t2
  go_wp2_with fail
  go_ret
  exact ⟨rfl, H2.out, T2.out⟩

set_option maxHeartbeats 2000000 in
theorem laws_heldMono1 (lo hi gP e gQ q gR r : Nat) (k : Int) (w : World) (h : Fld1 w lo hi gP e gQ q gR r k (k + 1)) (h0 : 0 ≤ k) (h1 : k ≤ 1000) :
    Calls Tryz.prog 82 #[.slice (some ⟨gQ, 0, none⟩) 1 q, .int .i64 k] w fun v w' => v = .returned (.int .i64 (k + 2)) ∧ w = w' := by
  have c0 := h.cq0
  have c1 := h.cq1
  have hq := own_cap h.q
  have hr := h.row.ints
  rw [← marks_one] at hr
  clear h
  go_enter Tryz.func82, Tryz.ntmps82
  go_wp2_with fail
  refine wp_loop_rounds 2 ?_
  rw [rounds_succ]
  go_wp2_with fail
  refine (laws_heldIntS _ 1 r gR (gR + 1) (k + 1) _ hr (by omega) (by omega)).mono ?_
  rintro v w2 ⟨rfl, rfl⟩
  have hn : ¬ k + 1 + ((1 : Nat) : Int) < 0 := by omega
  go_wp2_with fail
  rw [rounds_succ]
  go_wp2_with fail
  go_ret
  exact ⟨by simp [Int.add_assoc], rfl⟩

set_option maxHeartbeats 2000000 in
theorem laws_heldMonos1 (lo hi gP e gQ q gR r : Nat) (k : Int) (w : World) (h : Fld1 w lo hi gP e gQ q gR r k (k + 1)) (h0 : 0 ≤ k) (h1 : k ≤ 1000) :
    Calls Tryz.prog 44 #[.slice (some ⟨gP, 0, none⟩) 1 e, .int .i64 k] w fun v w' => v = .returned (.int .i64 (k + 2)) ∧ w = w' := by
  have c0 := h.cp
  have hp := own_cap h.p
  have hm := hide (laws_heldMono1 lo hi gP e gQ q gR r k w h h0 h1)
  clear h
  go_enter Tryz.func44, Tryz.ntmps44
  go_wp2_with fail
  refine wp_loop_rounds 2 ?_
  rw [rounds_succ]
  go_wp2_with fail
  refine hm.out.mono ?_
  rintro v w2 ⟨rfl, rfl⟩
  have hn : ¬ k + 2 < 0 := by omega
  go_wp2_with fail
  rw [rounds_succ]
  go_wp2_with fail
  go_ret
  exact ⟨rfl, rfl⟩

set_option maxHeartbeats 2000000 in
theorem laws_heldField1 (lo hi gP e gQ q gR r : Nat) (s k : Int) (w : World) (h : Fld1 w lo hi gP e gQ q gR r k (k + 1)) (hh : hi ≤ w.heap.size) (h0 : 0 ≤ k) (h1 : k ≤ 1000) :
    Calls Tryz.prog 20 #[.agg #[.int .i64 s, .slice (some ⟨gP, 0, none⟩) 1 e], .int .i64 k] w fun v w' => v = .returned (.int .i64 (k + 2)) ∧ Below w.heap.size w w' := by
  have b0 := below_alloc w (.cells #[.int .i64 s, .slice (some ⟨gP, 0, none⟩) 1 e] 27)
  have hm := hide (laws_heldMonos1 lo hi gP e gQ q gR r k _ (h.below b0 hh) h0 h1)
  have B0 := hide b0
  clear h
  go_enter Tryz.func20, Tryz.ntmps20
  go_wp2_with fail
  refine hm.out.mono ?_
  rintro v w2 ⟨rfl, rfl⟩
  have hn : ¬ k + 2 < 0 := by omega
  go_wp2_with fail
  go_ret
  exact ⟨rfl, B0.out⟩

set_option maxRecDepth 100000 in
set_option maxHeartbeats 4000000 in
theorem laws_markSession1 (lo hi : Nat) (A : Option Addr) (c : Nat) (B : Option Addr) (d gP e gQ q gR r : Nat) (X : Option Addr) (f : Nat) (a b x y p : Int) (m1 m2 m3 : Nat) (w : World) (h : Sess w lo hi A c B d gP e gQ q gR r X f a b x y p m1 m2 m3) (hh : hi ≤ w.heap.size) :
    Calls Tryz.prog 7 #[.agg #[.int .i64 1, .slice A 1 c, .slice B 1 d, .int .i64 1, .slice (some ⟨gP, 0, none⟩) 1 e, .slice X 1 f], .int .i64 1] w fun v w' => v = .returned (.int .i64 6) ∧ Sess w' lo hi A c B d gP e gQ q gR r X f 1 2 3 4 5 m1 m2 m3 ∧ Touch lo hi w w' := by
  have b0 := below_alloc w (.cells #[.int .i64 1, .slice A 1 c, .slice B 1 d, .int .i64 1, .slice (some ⟨gP, 0, none⟩) 1 e, .slice X 1 f] 29)
  have k0 := BlkN.new w #[.int .i64 1, .slice A 1 c, .slice B 1 d, .int .i64 1, .slice (some ⟨gP, 0, none⟩) 1 e, .slice X 1 f] 29
  have h0 := h.below b0 hh
  have z0 := b0.size
  go_enter Tryz.func7, Tryz.ntmps7
  go_wp2_with fail
  generalize w.alloc (.cells #[.int .i64 1, .slice A 1 c, .slice B 1 d, .int .i64 1, .slice (some ⟨gP, 0, none⟩) 1 e, .slice X 1 f] 29) = W at b0 k0 h0 z0 ⊢
  obtain ⟨l1, l2, l3, l4, oA, oB, fF, oX⟩ := h0
  have zk := k0.lt
  refine (laws_markTableau 1 A 1 c [a] B 1 d [b] lo m1 m1 m2 lo m2 1 W oA oB (.inl (Nat.le_refl _)) ⟨Nat.le_refl _, by omega, by omega, Nat.le_refl _⟩ (by omega) (by omega) (by omega)).mono ?_
  rintro v w1 ⟨rfl, oA1, oB1, t1, _⟩
  rw [marks_one] at oA1 oB1
  have z1 := t1.size
  have k1 := k0.touch t1 (by omega)
  have f1 := fF.same (t1.same (.inr (by omega)) (by omega))
  have x1 := oX.same (t1.same (.inr (by omega)) (by omega))
  have q3 := k1.c 3 rfl
  have q4 := k1.c 4 rfl
  go_wp2_with fail
  refine (laws_markField1 m2 m3 gP e gQ q gR r 1 x y 3 w1 f1 (by omega) (by omega) (by omega)).mono ?_
  rintro v w2 ⟨rfl, f2, t2⟩
  have z2 := t2.size
  have k2 := k1.touch t2 (by omega)
  have x2 := x1.same (t2.same (.inr (by omega)) (by omega))
  have oA2 := oA1.same (t2.same (.inl (by omega)) (by omega))
  have oB2 := oB1.same (t2.same (.inl (by omega)) (by omega))
  have q5 := k2.c 5 rfl
  clear q3 q4
  go_wp2_with fail
  refine (laws_markIntS X 1 f [p] m3 hi 5 w2 x2 (by omega) (by omega)).mono ?_
  rintro v w3 ⟨rfl, x3, t3, _⟩
  rw [marks_one] at x3
  have f3 := f2.same (t3.same (.inl (by omega)) (by omega))
  have oA3 := oA2.same (t3.same (.inl (by omega)) (by omega))
  have oB3 := oB2.same (t3.same (.inl (by omega)) (by omega))
  have T := (Touch.of_below (lo := lo) (hi := hi) b0).trans ((t1.wide (Nat.le_refl _) (by omega)).trans ((t2.wide (by omega) (by omega)).trans (t3.wide (by omega) (Nat.le_refl _))))
  clear q5
  go_wp2_with fail
  go_ret
  exact ⟨rfl, ⟨l1, l2, l3, l4, oA3, oB3, f3, x3⟩, T⟩

set_option maxRecDepth 100000 in
set_option maxHeartbeats 4000000 in
theorem laws_heldSession1 (lo hi : Nat) (A : Option Addr) (c : Nat) (B : Option Addr) (d gP e gQ q gR r : Nat) (X : Option Addr) (f : Nat) (m1 m2 m3 : Nat) (w : World) (h : Sess w lo hi A c B d gP e gQ q gR r X f 1 2 3 4 5 m1 m2 m3) (hh : hi ≤ w.heap.size) :
    Calls Tryz.prog 8 #[.agg #[.int .i64 1, .slice A 1 c, .slice B 1 d, .int .i64 1, .slice (some ⟨gP, 0, none⟩) 1 e, .slice X 1 f], .int .i64 1] w fun v w' => v = .returned (.int .i64 6) ∧ Below w.heap.size w w' := by
  have b0 := below_alloc w (.cells #[.int .i64 1, .slice A 1 c, .slice B 1 d, .int .i64 1, .slice (some ⟨gP, 0, none⟩) 1 e, .slice X 1 f] 29)
  have k0 := BlkN.new w #[.int .i64 1, .slice A 1 c, .slice B 1 d, .int .i64 1, .slice (some ⟨gP, 0, none⟩) 1 e, .slice X 1 f] 29
  have h0 := h.below b0 hh
  have z0 := b0.size
  go_enter Tryz.func8, Tryz.ntmps8
  go_wp2_with fail
  generalize w.alloc (.cells #[.int .i64 1, .slice A 1 c, .slice B 1 d, .int .i64 1, .slice (some ⟨gP, 0, none⟩) 1 e, .slice X 1 f] 29) = W at b0 k0 h0 z0 ⊢
  obtain ⟨l1, l2, l3, l4, oA, oB, fF, oX⟩ := h0
  have zk := k0.lt
  have iA := (oA.wide (Nat.le_refl _) (show m1 ≤ hi by omega)).ints
  have iB := (oB.wide (show lo ≤ m1 by omega) (show m2 ≤ hi by omega)).ints
  have iX := oX.ints
  rw [show [(1 : Int)] = marks 1 1 from by simp [marks]] at iA
  rw [show [(2 : Int)] = marks (1 + (1 : Nat)) 1 from by simp [marks]] at iB
  rw [show [(5 : Int)] = marks 5 1 from by simp [marks]] at iX
  refine (laws_heldTableau 1 A 1 c B 1 d lo hi 1 W iA iB (by omega) (by omega) (by omega)).mono ?_
  rintro v w1 ⟨rfl, b1⟩
  have k1 := k0.below b1
  have f1 := fF.below b1 (by omega)
  have x1 := iX.below b1 (by omega)
  have z1 := b1.size
  have q3 := k1.c 3 rfl
  have q4 := k1.c 4 rfl
  go_wp2_with fail
  refine (laws_heldField1 m2 m3 gP e gQ q gR r 1 3 w1 f1 (by omega) (by omega) (by omega)).mono ?_
  rintro v w2 ⟨rfl, b2⟩
  have k2 := k1.below b2
  have x2 := x1.below b2 (by omega)
  have q5 := k2.c 5 rfl
  clear q3 q4
  go_wp2_with fail
  refine (laws_heldIntS X 1 f m3 hi 5 w2 x2 (by omega) (by omega)).mono ?_
  rintro v w3 ⟨rfl, rfl⟩
  have T := b0.trans ((b1.mono z0).trans (b2.mono (by omega)))
  clear q5
  go_wp2_with fail
  go_ret
  exact ⟨rfl, T⟩
end Go.Proofs.YtlfgbellhiifmaaGreatDoor
