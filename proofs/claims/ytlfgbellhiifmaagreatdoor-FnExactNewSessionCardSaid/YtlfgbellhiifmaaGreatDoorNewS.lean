/- A new session: both texts. -/
import Derived.Test.YtlfgbellhiifmaaGreatDoorFldT
import Derived.Test.YtlfgbellhiifmaaGreatDoorKnI
namespace Go.Proofs.YtlfgbellhiifmaaGreatDoor
open Go.RowKit
set_option linter.unusedSimpArgs false
set_option linter.unusedVariables false
set_option maxRecDepth 20000

/-- A session of one stage and one coordinate with one monomial, each of its rows in a block of its own. -/
structure Sess (w : World) (lo hi : Nat) (A : Option Addr) (c : Nat) (B : Option Addr) (d : Nat) (gP e gQ q gR r : Nat) (X : Option Addr) (f : Nat) (a b x y p : Int) (m1 m2 m3 : Nat) : Prop where
  l1 : lo ≤ m1
  l2 : m1 ≤ m2
  l3 : m2 ≤ m3
  l4 : m3 ≤ hi
  oA : OwnI w lo m1 A 1 c [a]
  oB : OwnI w m1 m2 B 1 d [b]
  fF : Fld1 w m2 m3 gP e gQ q gR r x y
  oX : OwnI w m3 hi X 1 f [p]

section
variable {w w' : World} {lo hi : Nat} {A : Option Addr} {c : Nat} {B : Option Addr} {d gP e gQ q gR r : Nat} {X : Option Addr} {f : Nat} {a b x y p : Int} {m1 m2 m3 : Nat}
theorem Sess.same (h : Sess w lo hi A c B d gP e gQ q gR r X f a b x y p m1 m2 m3) (hs : Same lo hi w w') : Sess w' lo hi A c B d gP e gQ q gR r X f a b x y p m1 m2 m3 := by
  obtain ⟨l1, l2, l3, l4, oA, oB, fF, oX⟩ := h
  have hx : ∀ i j, lo ≤ i → j ≤ hi → Same i j w w' := fun i j h1 h2 k k1 k2 => hs k (by omega) (by omega)
  exact ⟨l1, l2, l3, l4, oA.same (hx _ _ (by omega) (by omega)), oB.same (hx _ _ (by omega) (by omega)), fF.same (hx _ _ (by omega) (by omega)), oX.same (hx _ _ (by omega) (by omega))⟩
theorem Sess.below {K : Nat} (h : Sess w lo hi A c B d gP e gQ q gR r X f a b x y p m1 m2 m3) (hb : Below K w w') (hK : hi ≤ K) : Sess w' lo hi A c B d gP e gQ q gR r X f a b x y p m1 m2 m3 := h.same (.of_below hb hK)
theorem Sess.wide' {lo' hi' : Nat} (h : Sess w lo hi A c B d gP e gQ q gR r X f a b x y p m1 m2 m3) (h1 : lo' ≤ lo) (h2 : hi ≤ hi') : Sess w lo' hi' A c B d gP e gQ q gR r X f a b x y p m1 m2 m3 := by
  obtain ⟨l1, l2, l3, l4, oA, oB, fF, oX⟩ := h
  exact ⟨by omega, l2, l3, by omega, oA.wide h1 (Nat.le_refl _), oB, fF, oX.wide (Nat.le_refl _) h2⟩
end
theorem ses_done {w w6 : World} {lo hi : Nat} {A : Option Addr} {c : Nat} {B : Option Addr} {d gP e gQ q gR r : Nat} {X : Option Addr} {f : Nat} {a b x y p : Int} {m1 m2 m3 : Nat} (h : Sess w6 lo hi A c B d gP e gQ q gR r X f a b x y p m1 m2 m3) (hb : Below w.heap.size w w6) (h1 : w.heap.size < lo) (h2 : hi ≤ w6.heap.size) (v0 v1 v2 v3 v4 v5 : Value) :
    Sess ((((((w6.setCell ⟨w.heap.size, 0, none⟩ v0).setCell ⟨w.heap.size, 1, none⟩ v1).setCell ⟨w.heap.size, 2, none⟩ v2).setCell ⟨w.heap.size, 3, none⟩ v3).setCell ⟨w.heap.size, 4, none⟩ v4).setCell ⟨w.heap.size, 5, none⟩ v5) w.heap.size ((((((w6.setCell ⟨w.heap.size, 0, none⟩ v0).setCell ⟨w.heap.size, 1, none⟩ v1).setCell ⟨w.heap.size, 2, none⟩ v2).setCell ⟨w.heap.size, 3, none⟩ v3).setCell ⟨w.heap.size, 4, none⟩ v4).setCell ⟨w.heap.size, 5, none⟩ v5).heap.size A c B d gP e gQ q gR r X f a b x y p m1 m2 m3 ∧
    Below w.heap.size w ((((((w6.setCell ⟨w.heap.size, 0, none⟩ v0).setCell ⟨w.heap.size, 1, none⟩ v1).setCell ⟨w.heap.size, 2, none⟩ v2).setCell ⟨w.heap.size, 3, none⟩ v3).setCell ⟨w.heap.size, 4, none⟩ v4).setCell ⟨w.heap.size, 5, none⟩ v5) := by
  have hs : ((((((w6.setCell ⟨w.heap.size, 0, none⟩ v0).setCell ⟨w.heap.size, 1, none⟩ v1).setCell ⟨w.heap.size, 2, none⟩ v2).setCell ⟨w.heap.size, 3, none⟩ v3).setCell ⟨w.heap.size, 4, none⟩ v4).setCell ⟨w.heap.size, 5, none⟩ v5).heap.size = w6.heap.size := by simp [World.setCell]
  rw [hs]
  exact ⟨(h.same ((((((((Same.refl _ _ w6).setCell (.inl h1) _).setCell (.inl h1) _).setCell (.inl h1) _).setCell (.inl h1) _).setCell (.inl h1) _).setCell (.inl h1) _))).wide' (by omega) h2, (((((hb.setCell (Nat.le_refl _) _).setCell (Nat.le_refl _) _).setCell (Nat.le_refl _) _).setCell (Nat.le_refl _) _).setCell (Nat.le_refl _) _).setCell (Nat.le_refl _) _⟩

theorem ses_base {W w2 w3 w4 w6 : World} {A : Option Addr} {c : Nat} {B : Option Addr} {d gP e gQ q gR r : Nat} {a b x y p : Int} (hT : Tab1 W w2 A c B d a b) (a2 : Below w2.heap.size w2 w3) (hF : Fld1 w4 w3.heap.size w4.heap.size gP e gQ q gR r x y) (b4 : Below w3.heap.size w3 w4) (v : Array Value) (T : TypeId) (hp : R64 p) (h6 : w6 = (w4.alloc (.cells v T)).alloc (.cells #[.int .i64 p] 3)) :
    ∃ m1 m2 m3, Sess w6 W.heap.size w6.heap.size A c B d gP e gQ q gR r (some ⟨w4.heap.size + 1, 0, none⟩) 1 a b x y p m1 m2 m3 := by
  obtain ⟨mid, oA, oB, h1, h2, hb⟩ := hT
  have z2 := a2.size
  have z4 := b4.size
  have hs : (w4.alloc (.cells v T)).heap.size = w4.heap.size + 1 := by simp
  have a6 : Below w4.heap.size w4 w6 := by
    rw [h6]
    exact ((Below.refl _ _).alloc (Nat.le_refl _) _).alloc (by simp) _
  have hs6 : w6.heap.size = w4.heap.size + 1 + 1 := by rw [h6]; simp
  have b6 : Below w2.heap.size w2 w6 := a2.trans ((b4.mono z2).trans (a6.mono (by omega)))
  refine ⟨mid, w3.heap.size, w4.heap.size, h1, by omega, z4, by omega, oA.below b6 h2, (oB.below b6 (Nat.le_refl _)).wide (Nat.le_refl _) z2, hF.below a6 (Nat.le_refl _), ?_⟩
  have ow := World.ownsRow_lit (size := 1) (e := 3) (base := w4.heap.size) (w4.alloc (.cells v T)) #[.int .i64 p] 1 (by rw [hs]; omega) (by unfold maxLen; omega) rfl
  rw [hs, ← h6] at ow
  exact ⟨ow, fun ad e => by injection e with e; subst e; rw [hs6]; show w4.heap.size + 1 < _; omega, one_rng hp⟩

theorem Tab1.below {w w' : World} {A : Option Addr} {c : Nat} {B : Option Addr} {d : Nat} {x y : Int} (h : Tab1 w w' A c B d x y) : Below w.heap.size w w' := by
  obtain ⟨_, _, _, _, _, hb⟩ := h
  exact hb

set_option maxRecDepth 100000 in
set_option maxHeartbeats 4000000 in
theorem impl_NewSession (mx : Int) (w : World) (hm : w.cell? ⟨0, 0, none⟩ = some (.int .i64 mx)) :
    Calls Tryz.prog 5 #[] w fun e w' => ∃ A c B d gP e0 gQ q gR r X f m1 m2 m3, e = .returned (.agg #[.int .i64 1, .slice A 1 c, .slice B 1 d, .int .i64 1, .slice (some ⟨gP, 0, none⟩) 1 e0, .slice X 1 f]) ∧ Sess w' w.heap.size w'.heap.size A c B d gP e0 gQ q gR r X f 0 1 1 1 1 m1 m2 m3 ∧ Below w.heap.size w w' := by
  have hm0 := World.block_lt_of_cell? w _ hm
  have b0 := below_alloc w (.cells #[.int .i64 0, .slice none 0 0, .slice none 0 0, .int .i64 0, .slice none 0 0, .slice none 0 0] 29)
  have k0 := BlkN.new w #[.int .i64 0, .slice none 0 0, .slice none 0 0, .int .i64 0, .slice none 0 0, .slice none 0 0] 29
  have HM : Hid (∀ v : World, Below w.heap.size w v → v.cell? ⟨0, 0, none⟩ = some (.int .i64 mx)) := fun v hv => (hv.cell hm0).trans hm
  clear hm
  go_enter Tryz.func5, Tryz.ntmps5
  go_wp2_with fail
  refine (impl_Known_euler mx _ (HM.out _ b0)).mono ?_
  rintro e w2 ⟨A, c, B, d, rfl, hT⟩
  have HT := hide hT
  have b2 := hT.below
  have k2 := k0.below b2
  have bw2 := b0.trans (b2.mono b0.size)
  have k0lt := k0.lt
  have z2 := bw2.size
  have a2 := below_alloc w2 (.cells #[.int .i64 1, .slice A 1 c, .slice B 1 d] 24)
  have kt := BlkN.new w2 #[.int .i64 1, .slice A 1 c, .slice B 1 d] 24
  have k3 := k2.below a2
  have bw3 := bw2.trans (a2.mono z2)
  clear hT k0 k2
  go_wp2_with fail
  generalize w2.alloc (.cells #[.int .i64 1, .slice A 1 c, .slice B 1 d] 24) = w3 at a2 kt k3 bw3 ⊢
  refine (impl_ParseField1 mx _ (HM.out _ bw3)).mono ?_
  rintro e w4 ⟨gP, e0, gQ, q, gR, r, rfl, hF, b4⟩
  have HF := hide hF
  have kt4 := kt.below b4
  have k4 := k3.below b4
  have z3 := bw3.size
  have bw4 := bw3.trans (b4.mono z3)
  have z4 := b4.size
  have zt := kt.lt
  have a4 := below_alloc w4 (.cells #[.int .i64 1, .slice (some ⟨gP, 0, none⟩) 1 e0] 27)
  have kf := BlkN.new w4 #[.int .i64 1, .slice (some ⟨gP, 0, none⟩) 1 e0] 27
  have kt5 := kt4.below a4
  have k5 := k4.below a4
  have bw5 := bw4.trans (a4.mono bw4.size)
  have t0 := kt5.c 0 rfl
  have t1 := kt5.c 1 rfl
  have t2 := kt5.c 2 rfl
  have k6 := k5.alloc (.cells #[.int .i64 1] 3)
  have u0 := k6.c 0 rfl
  have u1 := k6.c 1 rfl
  have u2 := k6.c 2 rfl
  have u3 := k6.c 3 rfl
  have u4 := k6.c 4 rfl
  have u5 := k6.c 5 rfl
  have v0 := k6.f 0
  have v1 := k6.f 1
  have v2 := k6.f 2
  have v3 := k6.f 3
  have v4 := k6.f 4
  have v5 := k6.f 5
  have zk := k6.lt
  clear hF kt k3 kt4 k4 kt5 k5 kf
  obtain ⟨m1, m2, m3, hS⟩ := ses_base HT.out a2 HF.out b4 #[.int .i64 1, .slice (some ⟨gP, 0, none⟩) 1 e0] 27 (p := 1) (by constructor <;> omega) rfl
  have b6 := bw5.alloc bw5.size (.cells #[.int .i64 1] 3)
  have HS := hide (ses_done hS b6 k0lt (Nat.le_refl _) (.int .i64 1) (.slice A 1 c) (.slice B 1 d) (.int .i64 1) (.slice (some ⟨gP, 0, none⟩) 1 e0) (.slice (some ⟨w4.heap.size + 1, 0, none⟩) 1 1))
  clear hS b6 bw5 bw4 bw3 HT HF b4 a2 a4
  go_wp2_with fail
  exact bodyPost_ret (v := .agg #[.int .i64 1, .slice A 1 c, .slice B 1 d, .int .i64 1, .slice (some ⟨gP, 0, none⟩) 1 e0, .slice (some ⟨w4.heap.size + 1, 0, none⟩) 1 1]) (by simp [results, Tryz.results5, go_sem, u0, u1, u2, u3, u4, u5, v0, v1, v2, v3, v4, v5, zk]) rfl ⟨A, c, B, d, gP, e0, gQ, q, gR, r, _, 1, m1, m2, m3, rfl, HS.out⟩
set_option maxRecDepth 100000 in
set_option maxHeartbeats 4000000 in
theorem spec_NewSession (w : World) :
    Calls Tryz.prog 4 #[] w fun e w' => ∃ A c B d gP e0 gQ q gR r X f m1 m2 m3, e = .returned (.agg #[.int .i64 1, .slice A 1 c, .slice B 1 d, .int .i64 1, .slice (some ⟨gP, 0, none⟩) 1 e0, .slice X 1 f]) ∧ Sess w' w.heap.size w'.heap.size A c B d gP e0 gQ q gR r X f 0 1 1 1 1 m1 m2 m3 ∧ Below w.heap.size w w' := by
  have b0 := below_alloc w (.cells #[.int .i64 0, .slice none 0 0, .slice none 0 0, .int .i64 0, .slice none 0 0, .slice none 0 0] 29)
  have k0 := BlkN.new w #[.int .i64 0, .slice none 0 0, .slice none 0 0, .int .i64 0, .slice none 0 0, .slice none 0 0] 29
  go_enter Tryz.func4, Tryz.ntmps4
  go_wp2_with fail
  refine (spec_Known_euler _).mono ?_
  rintro e w2 ⟨A, c, B, d, rfl, hT⟩
  have HT := hide hT
  have b2 := hT.below
  have k2 := k0.below b2
  have bw2 := b0.trans (b2.mono b0.size)
  have k0lt := k0.lt
  have z2 := bw2.size
  have a2 := below_alloc w2 (.cells #[.int .i64 1, .slice A 1 c, .slice B 1 d] 24)
  have kt := BlkN.new w2 #[.int .i64 1, .slice A 1 c, .slice B 1 d] 24
  have k3 := k2.below a2
  have bw3 := bw2.trans (a2.mono z2)
  clear hT k0 k2
  go_wp2_with fail
  generalize w2.alloc (.cells #[.int .i64 1, .slice A 1 c, .slice B 1 d] 24) = w3 at a2 kt k3 bw3 ⊢
  refine (spec_ParseField1 _).mono ?_
  rintro e w4 ⟨gP, e0, gQ, q, gR, r, rfl, hF, b4⟩
  have HF := hide hF
  have kt4 := kt.below b4
  have k4 := k3.below b4
  have z3 := bw3.size
  have bw4 := bw3.trans (b4.mono z3)
  have z4 := b4.size
  have zt := kt.lt
  have a4 := below_alloc w4 (.cells #[.int .i64 1, .slice (some ⟨gP, 0, none⟩) 1 e0] 27)
  have kf := BlkN.new w4 #[.int .i64 1, .slice (some ⟨gP, 0, none⟩) 1 e0] 27
  have kt5 := kt4.below a4
  have k5 := k4.below a4
  have bw5 := bw4.trans (a4.mono bw4.size)
  have t0 := kt5.c 0 rfl
  have t1 := kt5.c 1 rfl
  have t2 := kt5.c 2 rfl
  have k6 := k5.alloc (.cells #[.int .i64 1] 3)
  have u0 := k6.c 0 rfl
  have u1 := k6.c 1 rfl
  have u2 := k6.c 2 rfl
  have u3 := k6.c 3 rfl
  have u4 := k6.c 4 rfl
  have u5 := k6.c 5 rfl
  have v0 := k6.f 0
  have v1 := k6.f 1
  have v2 := k6.f 2
  have v3 := k6.f 3
  have v4 := k6.f 4
  have v5 := k6.f 5
  have zk := k6.lt
  clear hF kt k3 kt4 k4 kt5 k5 kf
  obtain ⟨m1, m2, m3, hS⟩ := ses_base HT.out a2 HF.out b4 #[.int .i64 1, .slice (some ⟨gP, 0, none⟩) 1 e0] 27 (p := 1) (by constructor <;> omega) rfl
  have b6 := bw5.alloc bw5.size (.cells #[.int .i64 1] 3)
  have HS := hide (ses_done hS b6 k0lt (Nat.le_refl _) (.int .i64 1) (.slice A 1 c) (.slice B 1 d) (.int .i64 1) (.slice (some ⟨gP, 0, none⟩) 1 e0) (.slice (some ⟨w4.heap.size + 1, 0, none⟩) 1 1))
  clear hS b6 bw5 bw4 bw3 HT HF b4 a2 a4
  go_wp2_with fail
  exact bodyPost_ret (v := .agg #[.int .i64 1, .slice A 1 c, .slice B 1 d, .int .i64 1, .slice (some ⟨gP, 0, none⟩) 1 e0, .slice (some ⟨w4.heap.size + 1, 0, none⟩) 1 1]) (by simp [results, Tryz.results4, go_sem, u0, u1, u2, u3, u4, u5, v0, v1, v2, v3, v4, v5, zk]) rfl ⟨A, c, B, d, gP, e0, gQ, q, gR, r, _, 1, m1, m2, m3, rfl, HS.out⟩
end Go.Proofs.YtlfgbellhiifmaaGreatDoor
