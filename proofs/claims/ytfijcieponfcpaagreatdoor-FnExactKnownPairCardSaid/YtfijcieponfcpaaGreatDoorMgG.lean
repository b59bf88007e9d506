/- Known pairs: what they are, and the program's walk. -/
import Derived.Test.YtfijcieponfcpaaGreatDoorMgF
import Derived.Test.YtfijcieponfcpaaGreatDoorConjB
import Derived.Test.YtfijcieponfcpaaGreatDoorMarks
namespace Go.Proofs.YtfijcieponfcpaaGreatDoor
open Go.RowKit
set_option linter.unusedSimpArgs false
set_option linter.unusedVariables false
set_option maxRecDepth 20000

structure KP where
  s : Int
  xs : List Int
  ys : List Int
  xs' : List Int
  ys' : List Int
  ok : Bool
def kpE : KP := ⟨1, [1], [1], [0], [1], true⟩
def kpV : KP := ⟨2, lobA2, lobB2, conjL 2 lobA2 lobB2, lobB2, true⟩
def kpL : KP := ⟨3, lobA3, lobB3, conjL 3 lobA3 lobB3, lobB3, true⟩
def kpN : KP := ⟨0, [], [], [], [], false⟩
def kpF (nm : ByteArray) : KP :=
  if (nm.toList == [101, 117, 108, 101, 114]) = true then kpE else if (nm.toList == [118, 101, 114, 108, 101, 116]) = true then kpV else if (nm.toList == [108, 111, 98, 97, 116, 116, 111]) = true then kpL else kpN

/-- A pair that can be read, and whose slices lie in blocks of their own (or are nil, all of them). -/
structure PairO (w : World) (lo hi : Nat) (s : Int) (A : Option Addr) (n c : Nat) (xs : List Int) (B : Option Addr) (m d : Nat) (ys : List Int) (A' : Option Addr) (n' c' : Nat) (xs' : List Int) (B' : Option Addr) (m' d' : Nat) (ys' : List Int) : Prop where
  i1 : Ints w lo hi A n c xs
  i2 : Ints w lo hi B m d ys
  i3 : Ints w lo hi A' n' c' xs'
  i4 : Ints w lo hi B' m' d' ys'
  own : (s = 0 ∧ A = none ∧ n = 0 ∧ c = 0 ∧ B = none ∧ m = 0 ∧ d = 0 ∧ A' = none ∧ n' = 0 ∧ c' = 0 ∧ B' = none ∧ m' = 0 ∧ d' = 0) ∨
    ∃ l1 l2 l3 l4, (l1 ≠ l2 ∧ l1 ≠ l3 ∧ l1 ≠ l4 ∧ l2 ≠ l3 ∧ l2 ≠ l4 ∧ l3 ≠ l4) ∧ (lo ≤ l1 ∧ l1 < hi ∧ lo ≤ l2 ∧ l2 < hi ∧ lo ≤ l3 ∧ l3 < hi ∧ lo ≤ l4 ∧ l4 < hi) ∧
      OwnI w l1 (l1 + 1) A n c xs ∧ OwnI w l2 (l2 + 1) B m d ys ∧ OwnI w l3 (l3 + 1) A' n' c' xs' ∧ OwnI w l4 (l4 + 1) B' m' d' ys'
section
variable {w w' : World} {lo hi : Nat} {s : Int} {A : Option Addr} {n c : Nat} {xs : List Int} {B : Option Addr} {m d : Nat} {ys : List Int} {A' : Option Addr} {n' c' : Nat} {xs' : List Int} {B' : Option Addr} {m' d' : Nat} {ys' : List Int}
theorem PairO.four {l1 l2 l3 l4 : Nat} (hd : l1 ≠ l2 ∧ l1 ≠ l3 ∧ l1 ≠ l4 ∧ l2 ≠ l3 ∧ l2 ≠ l4 ∧ l3 ≠ l4) (hb : lo ≤ l1 ∧ l1 < hi ∧ lo ≤ l2 ∧ l2 < hi ∧ lo ≤ l3 ∧ l3 < hi ∧ lo ≤ l4 ∧ l4 < hi)
    (h1 : OwnI w l1 (l1 + 1) A n c xs) (h2 : OwnI w l2 (l2 + 1) B m d ys) (h3 : OwnI w l3 (l3 + 1) A' n' c' xs') (h4 : OwnI w l4 (l4 + 1) B' m' d' ys') : PairO w lo hi s A n c xs B m d ys A' n' c' xs' B' m' d' ys' :=
  ⟨(h1.wide (by omega) (by omega)).ints, (h2.wide (by omega) (by omega)).ints, (h3.wide (by omega) (by omega)).ints, (h4.wide (by omega) (by omega)).ints, .inr ⟨l1, l2, l3, l4, hd, hb, h1, h2, h3, h4⟩⟩
theorem PairO.same (h : PairO w lo hi s A n c xs B m d ys A' n' c' xs' B' m' d' ys') (hs : Same lo hi w w') : PairO w' lo hi s A n c xs B m d ys A' n' c' xs' B' m' d' ys' := by
  refine ⟨h.i1.same hs, h.i2.same hs, h.i3.same hs, h.i4.same hs, ?_⟩
  rcases h.own with h | ⟨l1, l2, l3, l4, hd, hb, h1, h2, h3, h4⟩
  · exact .inl h
  · exact .inr ⟨l1, l2, l3, l4, hd, hb, h1.same fun k e1 e2 => hs k (by omega) (by omega), h2.same fun k e1 e2 => hs k (by omega) (by omega), h3.same fun k e1 e2 => hs k (by omega) (by omega), h4.same fun k e1 e2 => hs k (by omega) (by omega)⟩
theorem PairO.below {K : Nat} (h : PairO w lo hi s A n c xs B m d ys A' n' c' xs' B' m' d' ys') (hb : Below K w w') (hK : hi ≤ K) : PairO w' lo hi s A n c xs B m d ys A' n' c' xs' B' m' d' ys' := h.same (.of_below hb hK)
theorem PairO.wide {lo2 hi2 : Nat} (h : PairO w lo hi s A n c xs B m d ys A' n' c' xs' B' m' d' ys') (h1 : lo2 ≤ lo) (h2 : hi ≤ hi2) : PairO w lo2 hi2 s A n c xs B m d ys A' n' c' xs' B' m' d' ys' := by
  refine ⟨h.i1.wide h1 h2, h.i2.wide h1 h2, h.i3.wide h1 h2, h.i4.wide h1 h2, ?_⟩
  rcases h.own with h | ⟨l1, l2, l3, l4, hd, hb, h⟩
  · exact .inl h
  · exact .inr ⟨l1, l2, l3, l4, hd, by omega, h⟩
end
theorem PairO.nil_ (w : World) (lo hi : Nat) : PairO w lo hi 0 none 0 0 [] none 0 0 [] none 0 0 [] none 0 0 [] :=
  ⟨Ints.nil_ _ _ _, Ints.nil_ _ _ _, Ints.nil_ _ _ _, Ints.nil_ _ _ _, .inl ⟨rfl, rfl, rfl, rfl, rfl, rfl, rfl, rfl, rfl, rfl, rfl, rfl, rfl⟩⟩
theorem own_narrow {w : World} {lo hi n c : Nat} {A : Option Addr} {xs : List Int} (h : OwnI w lo hi A n c xs) (hn : 0 < n) : ∃ g, lo ≤ g ∧ g < hi ∧ OwnI w g (g + 1) A n c xs := by
  obtain ⟨g, rfl, h1, h2, h3⟩ := h.form hn
  refine ⟨g, h1, h2, ⟨h.own.1, ?_⟩, fun ad e => by injection e with e; subst e; exact Nat.lt_succ_self _, h.rng⟩
  rcases h.own.2 with ⟨e, _⟩ | ⟨g', cap, cur, e, _, h⟩
  · cases e
  · injection e with e1 e2 e3
    have hg : g' = g := by injection e1 with e1; injection e1 with e1; exact e1.symm
    exact .inr ⟨g', cap, cur, by rw [e1, e3], by omega, h⟩

theorem len2 : lobA2.length = 4 ∧ lobB2.length = 2 := by
  obtain ⟨k, e, _, h1, h2⟩ := tab_form lob2_ok.1
  obtain rfl : k = 2 := by omega
  exact ⟨h1, h2⟩
theorem len3 : lobA3.length = 9 ∧ lobB3.length = 3 := by
  obtain ⟨k, e, _, h1, h2⟩ := tab_form lob3_ok.1
  obtain rfl : k = 3 := by omega
  exact ⟨h1, h2⟩
theorem kp_len (nm : ByteArray) : (kpF nm).xs.length + (kpF nm).ys.length + (kpF nm).xs'.length + (kpF nm).ys'.length ≤ 30 := by
  unfold kpF
  split
  · simp [kpE]
  · split
    · simp [kpV, len2, conjL_len]
    · split
      · simp [kpL, len3, conjL_len]
      · simp [kpN]

theorem pair_done {w V : World} {lo hi : Nat} {s : Int} {A : Option Addr} {n c : Nat} {xs : List Int} {B : Option Addr} {m d : Nat} {ys : List Int} {A' : Option Addr} {n' c' : Nat} {xs' : List Int} {B' : Option Addr} {m' d' : Nat} {ys' : List Int} (h : PairO V lo hi s A n c xs B m d ys A' n' c' xs' B' m' d' ys') (hg : w.heap.size < lo) (hh : hi ≤ V.heap.size) (b : Below w.heap.size w V) (v0 v1 v2 v3 v4 v5 : Value) :
    PairO ((((((V.setCell ⟨w.heap.size, 0, none⟩ v0).setCell ⟨w.heap.size, 1, none⟩ v1).setCell ⟨w.heap.size, 2, none⟩ v2).setCell ⟨w.heap.size, 3, none⟩ v3).setCell ⟨w.heap.size, 4, none⟩ v4).setCell ⟨w.heap.size, 5, none⟩ v5) w.heap.size ((((((V.setCell ⟨w.heap.size, 0, none⟩ v0).setCell ⟨w.heap.size, 1, none⟩ v1).setCell ⟨w.heap.size, 2, none⟩ v2).setCell ⟨w.heap.size, 3, none⟩ v3).setCell ⟨w.heap.size, 4, none⟩ v4).setCell ⟨w.heap.size, 5, none⟩ v5).heap.size s A n c xs B m d ys A' n' c' xs' B' m' d' ys' ∧ Below w.heap.size w ((((((V.setCell ⟨w.heap.size, 0, none⟩ v0).setCell ⟨w.heap.size, 1, none⟩ v1).setCell ⟨w.heap.size, 2, none⟩ v2).setCell ⟨w.heap.size, 3, none⟩ v3).setCell ⟨w.heap.size, 4, none⟩ v4).setCell ⟨w.heap.size, 5, none⟩ v5) := by
  have hs : ((((((V.setCell ⟨w.heap.size, 0, none⟩ v0).setCell ⟨w.heap.size, 1, none⟩ v1).setCell ⟨w.heap.size, 2, none⟩ v2).setCell ⟨w.heap.size, 3, none⟩ v3).setCell ⟨w.heap.size, 4, none⟩ v4).setCell ⟨w.heap.size, 5, none⟩ v5).heap.size = V.heap.size := by simp [World.setCell]
  have S6 : Same lo hi V ((((((V.setCell ⟨w.heap.size, 0, none⟩ v0).setCell ⟨w.heap.size, 1, none⟩ v1).setCell ⟨w.heap.size, 2, none⟩ v2).setCell ⟨w.heap.size, 3, none⟩ v3).setCell ⟨w.heap.size, 4, none⟩ v4).setCell ⟨w.heap.size, 5, none⟩ v5) :=
    Same.setCell (p := ⟨w.heap.size, 5, none⟩) (Same.setCell (p := ⟨w.heap.size, 4, none⟩) (Same.setCell (p := ⟨w.heap.size, 3, none⟩) (Same.setCell (p := ⟨w.heap.size, 2, none⟩) (Same.setCell (p := ⟨w.heap.size, 1, none⟩) (Same.setCell (p := ⟨w.heap.size, 0, none⟩) (Same.refl _ _ _) (.inl hg) _) (.inl hg) _) (.inl hg) _) (.inl hg) _) (.inl hg) _) (.inl hg) _
  rw [hs]
  exact ⟨(h.same S6).wide (by omega) hh, (((((b.setCell (p := ⟨w.heap.size, 0, none⟩) (Nat.le_refl _) v0).setCell (p := ⟨w.heap.size, 1, none⟩) (Nat.le_refl _) v1).setCell (p := ⟨w.heap.size, 2, none⟩) (Nat.le_refl _) v2).setCell (p := ⟨w.heap.size, 3, none⟩) (Nat.le_refl _) v3).setCell (p := ⟨w.heap.size, 4, none⟩) (Nat.le_refl _) v4).setCell (p := ⟨w.heap.size, 5, none⟩) (Nat.le_refl _) v5⟩
theorem cellsix {w : World} {g : Nat} {a b c d e f : Value} (h : BlkN w g #[a, b, c, d, e, f]) : (w.cell? ⟨g, 0, none⟩ = some a ∧ w.cell? ⟨g, 1, none⟩ = some b ∧ w.cell? ⟨g, 2, none⟩ = some c ∧ w.cell? ⟨g, 3, none⟩ = some d ∧ w.cell? ⟨g, 4, none⟩ = some e ∧ w.cell? ⟨g, 5, none⟩ = some f) ∧ (w.frozen? ⟨g, 0, none⟩ = false ∧ w.frozen? ⟨g, 1, none⟩ = false ∧ w.frozen? ⟨g, 2, none⟩ = false ∧ w.frozen? ⟨g, 3, none⟩ = false ∧ w.frozen? ⟨g, 4, none⟩ = false ∧ w.frozen? ⟨g, 5, none⟩ = false) ∧ g < w.heap.size :=
  ⟨⟨h.c 0 rfl, h.c 1 rfl, h.c 2 rfl, h.c 3 rfl, h.c 4 rfl, h.c 5 rfl⟩, ⟨h.f 0, h.f 1, h.f 2, h.f 3, h.f 4, h.f 5⟩, h.lt⟩
abbrev z6 : Array Value := #[.int .i64 0, .slice none 0 0, .slice none 0 0, .int .i64 0, .slice none 0 0, .slice none 0 0]

set_option maxRecDepth 100000 in
set_option maxHeartbeats 8000000 in
theorem impl_Pair_none (nm : ByteArray) (w : World) (h1 : (nm.toList == [101, 117, 108, 101, 114]) = false) (h2 : (nm.toList == [118, 101, 114, 108, 101, 116]) = false) (h3 : (nm.toList == [108, 111, 98, 97, 116, 116, 111]) = false) :
    Calls Tryz.prog 5 #[.string nm] w fun e w' => e = .returned (.tuple #[zPair, .bool false]) ∧ Below w.heap.size w w' := by
  have b0 := below_alloc w (.cells #[.int .i64 0, .slice none 0 0, .slice none 0 0, .int .i64 0, .slice none 0 0, .slice none 0 0] 26)
  have HB := hide b0
  clear b0
  go_enter Tryz.func5, Tryz.ntmps5
  go_wp2_with fail
  refine bodyPost_ret (v := .tuple #[zPair, .bool false]) (by simp [results, Tryz.results5, go_sem]) rfl ⟨rfl, HB.out⟩
set_option maxRecDepth 100000 in
set_option maxHeartbeats 8000000 in
theorem impl_Pair_euler (nm : ByteArray) (h1 : (nm.toList == [101, 117, 108, 101, 114]) = true) (mx : Int) (w : World) (hm : w.cell? ⟨0, 0, none⟩ = some (.int .i64 mx)) :
    Calls Tryz.prog 5 #[.string nm] w fun e w' => ∃ A c B d A' c' B' d', e = .returned (.tuple #[.agg #[.int .i64 1, .slice A 1 c, .slice B 1 d, .int .i64 1, .slice A' 1 c', .slice B' 1 d'], .bool true]) ∧ PairO w' w.heap.size w'.heap.size 1 A 1 c [1] B 1 d [1] A' 1 c' [0] B' 1 d' [1] ∧ Below w.heap.size w w' := by
  have hm0 := World.block_lt_of_cell? w _ hm
  have HM : Hid (∀ v : World, Below w.heap.size w v → v.cell? ⟨0, 0, none⟩ = some (.int .i64 mx)) := fun v hv => (hv.cell hm0).trans hm
  have b0 := below_alloc w (.cells #[.int .i64 0, .slice none 0 0, .slice none 0 0, .int .i64 0, .slice none 0 0, .slice none 0 0] 26)
  have k0 := BlkN.new w #[.int .i64 0, .slice none 0 0, .slice none 0 0, .int .i64 0, .slice none 0 0, .slice none 0 0] 26
  have z0 : (w.alloc (.cells #[.int .i64 0, .slice none 0 0, .slice none 0 0, .int .i64 0, .slice none 0 0, .slice none 0 0] 26)).heap.size = w.heap.size + 1 := by simp
  clear hm
  go_enter Tryz.func5, Tryz.ntmps5
  go_wp2_with fail
  generalize w.alloc (.cells #[.int .i64 0, .slice none 0 0, .slice none 0 0, .int .i64 0, .slice none 0 0, .slice none 0 0] 26) = W0 at b0 k0 z0 ⊢
  refine (impl_Known_back mx W0 (HM.out _ b0)).mono ?_
  rintro e w1 ⟨A, c, B, d, rfl, mid1, oA, oB, hm1, hm1', hb1⟩
  have k1 := k0.below hb1
  have b1 := b0.trans (hb1.mono b0.size)
  have a1 := below_alloc w1 (.cells #[.int .i64 1, .slice A 1 c, .slice B 1 d] 24)
  have j1 := BlkN.new w1 #[.int .i64 1, .slice A 1 c, .slice B 1 d] 24
  have zB0 := hb1.size
  clear hb1 k0 b0
  go_wp2_with fail
  generalize w1.alloc (.cells #[.int .i64 1, .slice A 1 c, .slice B 1 d] 24) = W1 at a1 j1 ⊢
  have za1 := a1.size
  have k1' := k1.below a1
  have b1' := b1.trans (a1.mono b1.size)
  refine (impl_Known_euler mx W1 (HM.out _ b1')).mono ?_
  rintro e w2 ⟨A', c', B', d', rfl, mid2, oA', oB', hm2, hm2', hb2⟩
  have a2 := below_alloc w2 (.cells #[.int .i64 1, .slice A' 1 c', .slice B' 1 d'] 24)
  have j2 := BlkN.new w2 #[.int .i64 1, .slice A' 1 c', .slice B' 1 d'] 24
  have zb2 := hb2.size
  have k2 := (k1'.below hb2).below a2
  have j12 := (j1.below hb2).below a2
  have b2 := (b1'.trans (hb2.mono b1'.size)).trans (a2.mono (by have := b1'.size; omega))
  obtain ⟨g1, p1, p1', n1⟩ := own_narrow (((oA.below a1 (by omega)).below hb2 (by omega)).below a2 (by omega)) (by omega)
  obtain ⟨g2, p2, p2', n2⟩ := own_narrow (((oB.below a1 (by omega)).below hb2 (by omega)).below a2 (by omega)) (by omega)
  obtain ⟨g3, p3, p3', n3⟩ := own_narrow (oA'.below a2 (by omega)) (by omega)
  obtain ⟨g4, p4, p4', n4⟩ := own_narrow (oB'.below a2 (by omega)) (by omega)
  have za2 := a2.size
  have hP := PairO.four (s := 1) (lo := W0.heap.size) (hi := w2.heap.size) (by omega) (by omega) n1 n2 n3 n4
  have HP := hide (pair_done hP (by omega) za2 b2 (.int .i64 1) (.slice A 1 c) (.slice B 1 d) (.int .i64 1) (.slice A' 1 c') (.slice B' 1 d'))
  obtain ⟨⟨r0, r1, r2, r3, r4, r5⟩, ⟨f0, f1, f2, f3, f4, f5⟩, zk⟩ := cellsix k2
  have t0 := j12.c 0 rfl
  have t1 := j12.c 1 rfl
  have t2 := j12.c 2 rfl
  have u0 := j2.c 0 rfl
  have u1 := j2.c 1 rfl
  have u2 := j2.c 2 rfl
  clear oA oB oA' oB' a1 a2 hb2 k1 k1' b1 b1' b2 j1 j12 j2 k2 n1 n2 n3 n4 hP
  go_wp2_with fail
  refine bodyPost_ret (v := .tuple #[.agg #[.int .i64 1, .slice A 1 c, .slice B 1 d, .int .i64 1, .slice A' 1 c', .slice B' 1 d'], .bool true]) (by simp [results, Tryz.results5, go_sem, r0, r1, r2, r3, r4, r5, f0, f1, f2, f3, f4, f5, zk]) rfl ⟨_, _, _, _, _, _, _, _, rfl, ?_⟩
  exact HP.out

theorem impl_Conj2 (A : Option Addr) (cA : Nat) (B : Option Addr) (cB lo hi : Nat) (w : World) (h : Ints w lo hi A 4 cA lobA2) (g : Ints w lo hi B 2 cB lobB2) (hh : hi ≤ w.heap.size) :
    Calls Tryz.prog 12 #[.agg #[.int .i64 2, .slice A 4 cA, .slice B 2 cB]] w fun e w' => ∃ A1 c1 B1 d1 A2 c2 B2 d2, e = .returned (.tuple #[.agg #[.int .i64 2, .slice A1 4 c1, .slice B1 2 d1, .int .i64 2, .slice A2 4 c2, .slice B2 2 d2], .bool true]) ∧ PairO w' w.heap.size w'.heap.size 2 A1 4 c1 lobA2 B1 2 d1 lobB2 A2 4 c2 (conjL 2 lobA2 lobB2) B2 2 d2 lobB2 ∧ Below w.heap.size w w' := by
  refine (impl_Conj_ok 2 A 4 cA lobA2 B cB lobB2 lo hi w h g hh (by omega) rfl lob2_ok.1 lob2_ok.2).mono ?_
  rintro e w' ⟨gA, gB, gC, gD, rfl, hd, hb, o1, o2, o3, o4, hB⟩
  exact ⟨_, _, _, _, _, _, _, _, rfl, PairO.four hd (by omega) o1 o2 o3 o4, hB⟩
set_option maxRecDepth 100000 in
set_option maxHeartbeats 8000000 in
theorem impl_Pair_lob2 (nm : ByteArray) (h1 : (nm.toList == [101, 117, 108, 101, 114]) = false) (h2 : (nm.toList == [118, 101, 114, 108, 101, 116]) = true) (w : World) :
    Calls Tryz.prog 5 #[.string nm] w fun e w' => ∃ A1 c1 B1 d1 A2 c2 B2 d2, e = .returned (.tuple #[.agg #[.int .i64 2, .slice A1 4 c1, .slice B1 2 d1, .int .i64 2, .slice A2 4 c2, .slice B2 2 d2], .bool true]) ∧ PairO w' w.heap.size w'.heap.size 2 A1 4 c1 lobA2 B1 2 d1 lobB2 A2 4 c2 (conjL 2 lobA2 lobB2) B2 2 d2 lobB2 ∧ Below w.heap.size w w' := by
  have b0 := below_alloc w (.cells #[.int .i64 0, .slice none 0 0, .slice none 0 0, .int .i64 0, .slice none 0 0, .slice none 0 0] 26)
  have k0 := BlkN.new w #[.int .i64 0, .slice none 0 0, .slice none 0 0, .int .i64 0, .slice none 0 0, .slice none 0 0] 26
  have z0 : (w.alloc (.cells #[.int .i64 0, .slice none 0 0, .slice none 0 0, .int .i64 0, .slice none 0 0, .slice none 0 0] 26)).heap.size = w.heap.size + 1 := by simp
  go_enter Tryz.func5, Tryz.ntmps5
  go_wp2_with fail
  generalize w.alloc (.cells #[.int .i64 0, .slice none 0 0, .slice none 0 0, .int .i64 0, .slice none 0 0, .slice none 0 0] 26) = W0 at b0 k0 z0 ⊢
  refine (impl_Known_lob2 W0).mono ?_
  rintro e w1 ⟨A, cA, B, cB, rfl, oA, oB, hb1⟩
  have k1 := k0.below hb1
  have b1 := b0.trans (hb1.mono b0.size)
  have a1 := below_alloc w1 (.cells #[.int .i64 2, .slice A 4 cA, .slice B 2 cB] 24)
  have j1 := BlkN.new w1 #[.int .i64 2, .slice A 4 cA, .slice B 2 cB] 24
  have zB0 := hb1.size
  clear hb1 k0 b0
  go_wp2_with fail
  generalize w1.alloc (.cells #[.int .i64 2, .slice A 4 cA, .slice B 2 cB] 24) = W1 at a1 j1 ⊢
  have za1 := a1.size
  have k2 := k1.below a1
  have b2 := b1.trans (a1.mono b1.size)
  refine (impl_Conj2 A cA B cB W0.heap.size w1.heap.size W1 (oA.ints.below a1 (Nat.le_refl _)) (oB.ints.below a1 (Nat.le_refl _)) za1).mono ?_
  rintro e w3 ⟨A1, c1, B1, d1, A2, c2, B2, d2, rfl, hP, hb3⟩
  have k3 := k2.below hb3
  have b3 := b2.trans (hb3.mono b2.size)
  have HP := hide (pair_done hP (by omega) (Nat.le_refl _) b3 (.int .i64 2) (.slice A1 4 c1) (.slice B1 2 d1) (.int .i64 2) (.slice A2 4 c2) (.slice B2 2 d2))
  obtain ⟨⟨r0, r1, r2, r3, r4, r5⟩, ⟨f0, f1, f2, f3, f4, f5⟩, zk⟩ := cellsix k3
  clear oA oB a1 hb3 k1 k2 b1 b2 j1 k3 hP b3
  go_wp2_with fail
  refine bodyPost_ret (v := .tuple #[.agg #[.int .i64 2, .slice A1 4 c1, .slice B1 2 d1, .int .i64 2, .slice A2 4 c2, .slice B2 2 d2], .bool true]) (by simp [results, Tryz.results5, go_sem, r0, r1, r2, r3, r4, r5, f0, f1, f2, f3, f4, f5, zk]) rfl ⟨_, _, _, _, _, _, _, _, rfl, ?_⟩
  exact HP.out

theorem impl_Conj3 (A : Option Addr) (cA : Nat) (B : Option Addr) (cB lo hi : Nat) (w : World) (h : Ints w lo hi A 9 cA lobA3) (g : Ints w lo hi B 3 cB lobB3) (hh : hi ≤ w.heap.size) :
    Calls Tryz.prog 12 #[.agg #[.int .i64 3, .slice A 9 cA, .slice B 3 cB]] w fun e w' => ∃ A1 c1 B1 d1 A2 c2 B2 d2, e = .returned (.tuple #[.agg #[.int .i64 3, .slice A1 9 c1, .slice B1 3 d1, .int .i64 3, .slice A2 9 c2, .slice B2 3 d2], .bool true]) ∧ PairO w' w.heap.size w'.heap.size 3 A1 9 c1 lobA3 B1 3 d1 lobB3 A2 9 c2 (conjL 3 lobA3 lobB3) B2 3 d2 lobB3 ∧ Below w.heap.size w w' := by
  refine (impl_Conj_ok 3 A 9 cA lobA3 B cB lobB3 lo hi w h g hh (by omega) rfl lob3_ok.1 lob3_ok.2).mono ?_
  rintro e w' ⟨gA, gB, gC, gD, rfl, hd, hb, o1, o2, o3, o4, hB⟩
  exact ⟨_, _, _, _, _, _, _, _, rfl, PairO.four hd (by omega) o1 o2 o3 o4, hB⟩
set_option maxRecDepth 100000 in
set_option maxHeartbeats 8000000 in
theorem impl_Pair_lob3 (nm : ByteArray) (h1 : (nm.toList == [101, 117, 108, 101, 114]) = false) (h2 : (nm.toList == [118, 101, 114, 108, 101, 116]) = false) (h3 : (nm.toList == [108, 111, 98, 97, 116, 116, 111]) = true) (w : World) :
    Calls Tryz.prog 5 #[.string nm] w fun e w' => ∃ A1 c1 B1 d1 A2 c2 B2 d2, e = .returned (.tuple #[.agg #[.int .i64 3, .slice A1 9 c1, .slice B1 3 d1, .int .i64 3, .slice A2 9 c2, .slice B2 3 d2], .bool true]) ∧ PairO w' w.heap.size w'.heap.size 3 A1 9 c1 lobA3 B1 3 d1 lobB3 A2 9 c2 (conjL 3 lobA3 lobB3) B2 3 d2 lobB3 ∧ Below w.heap.size w w' := by
  have b0 := below_alloc w (.cells #[.int .i64 0, .slice none 0 0, .slice none 0 0, .int .i64 0, .slice none 0 0, .slice none 0 0] 26)
  have k0 := BlkN.new w #[.int .i64 0, .slice none 0 0, .slice none 0 0, .int .i64 0, .slice none 0 0, .slice none 0 0] 26
  have z0 : (w.alloc (.cells #[.int .i64 0, .slice none 0 0, .slice none 0 0, .int .i64 0, .slice none 0 0, .slice none 0 0] 26)).heap.size = w.heap.size + 1 := by simp
  go_enter Tryz.func5, Tryz.ntmps5
  go_wp2_with fail
  generalize w.alloc (.cells #[.int .i64 0, .slice none 0 0, .slice none 0 0, .int .i64 0, .slice none 0 0, .slice none 0 0] 26) = W0 at b0 k0 z0 ⊢
  refine (impl_Known_lob3 W0).mono ?_
  rintro e w1 ⟨A, cA, B, cB, rfl, oA, oB, hb1⟩
  have k1 := k0.below hb1
  have b1 := b0.trans (hb1.mono b0.size)
  have a1 := below_alloc w1 (.cells #[.int .i64 3, .slice A 9 cA, .slice B 3 cB] 24)
  have j1 := BlkN.new w1 #[.int .i64 3, .slice A 9 cA, .slice B 3 cB] 24
  have zB0 := hb1.size
  clear hb1 k0 b0
  go_wp2_with fail
  generalize w1.alloc (.cells #[.int .i64 3, .slice A 9 cA, .slice B 3 cB] 24) = W1 at a1 j1 ⊢
  have za1 := a1.size
  have k2 := k1.below a1
  have b2 := b1.trans (a1.mono b1.size)
  refine (impl_Conj3 A cA B cB W0.heap.size w1.heap.size W1 (oA.ints.below a1 (Nat.le_refl _)) (oB.ints.below a1 (Nat.le_refl _)) za1).mono ?_
  rintro e w3 ⟨A1, c1, B1, d1, A2, c2, B2, d2, rfl, hP, hb3⟩
  have k3 := k2.below hb3
  have b3 := b2.trans (hb3.mono b2.size)
  have HP := hide (pair_done hP (by omega) (Nat.le_refl _) b3 (.int .i64 3) (.slice A1 9 c1) (.slice B1 3 d1) (.int .i64 3) (.slice A2 9 c2) (.slice B2 3 d2))
  obtain ⟨⟨r0, r1, r2, r3, r4, r5⟩, ⟨f0, f1, f2, f3, f4, f5⟩, zk⟩ := cellsix k3
  clear oA oB a1 hb3 k1 k2 b1 b2 j1 k3 hP b3
  go_wp2_with fail
  refine bodyPost_ret (v := .tuple #[.agg #[.int .i64 3, .slice A1 9 c1, .slice B1 3 d1, .int .i64 3, .slice A2 9 c2, .slice B2 3 d2], .bool true]) (by simp [results, Tryz.results5, go_sem, r0, r1, r2, r3, r4, r5, f0, f1, f2, f3, f4, f5, zk]) rfl ⟨_, _, _, _, _, _, _, _, rfl, ?_⟩
  exact HP.out

theorem impl_KnownPair (nm : ByteArray) (mx : Int) (w : World) (hm : w.cell? ⟨0, 0, none⟩ = some (.int .i64 mx)) :
    Calls Tryz.prog 5 #[.string nm] w fun e w' => ∃ A n c B m d A' n' c' B' m' d', e = .returned (.tuple #[.agg #[.int .i64 (kpF nm).s, .slice A n c, .slice B m d, .int .i64 (kpF nm).s, .slice A' n' c', .slice B' m' d'], .bool (kpF nm).ok]) ∧ PairO w' w.heap.size w'.heap.size (kpF nm).s A n c (kpF nm).xs B m d (kpF nm).ys A' n' c' (kpF nm).xs' B' m' d' (kpF nm).ys' ∧ Below w.heap.size w w' := by
  cases h1 : (nm.toList == [101, 117, 108, 101, 114]) with
  | true =>
    have e : kpF nm = kpE := by simp only [kpF, h1, if_true]
    rw [e]
    refine (impl_Pair_euler nm h1 mx w hm).mono ?_
    rintro e w' ⟨A, c, B, d, A', c', B', d', rfl, hP, hB⟩
    exact ⟨A, 1, c, B, 1, d, A', 1, c', B', 1, d', rfl, hP, hB⟩
  | false =>
    cases h2 : (nm.toList == [118, 101, 114, 108, 101, 116]) with
    | true =>
      have e : kpF nm = kpV := by simp only [kpF, h1, h2, if_true, Bool.false_eq_true, if_false]
      rw [e]
      refine (impl_Pair_lob2 nm h1 h2 w).mono ?_
      rintro e w' ⟨A, c, B, d, A', c', B', d', rfl, hP, hB⟩
      exact ⟨A, _, c, B, _, d, A', _, c', B', _, d', rfl, hP, hB⟩
    | false =>
      cases h3 : (nm.toList == [108, 111, 98, 97, 116, 116, 111]) with
      | true =>
        have e : kpF nm = kpL := by simp only [kpF, h1, h2, h3, if_true, Bool.false_eq_true, if_false]
        rw [e]
        refine (impl_Pair_lob3 nm h1 h2 h3 w).mono ?_
        rintro e w' ⟨A, c, B, d, A', c', B', d', rfl, hP, hB⟩
        exact ⟨A, _, c, B, _, d, A', _, c', B', _, d', rfl, hP, hB⟩
      | false =>
        have e : kpF nm = kpN := by simp only [kpF, h1, h2, h3, Bool.false_eq_true, if_false]
        rw [e]
        refine (impl_Pair_none nm w h1 h2 h3).mono ?_
        rintro e w' ⟨rfl, hB⟩
        exact ⟨none, 0, 0, none, 0, 0, none, 0, 0, none, 0, 0, rfl, PairO.nil_ _ _ _, hB⟩
end Go.Proofs.YtfijcieponfcpaaGreatDoor
/- Known pairs: the reference's walk. -/
namespace Go.Proofs.YtfijcieponfcpaaGreatDoor
open Go.RowKit
set_option linter.unusedSimpArgs false
set_option linter.unusedVariables false
set_option maxRecDepth 20000

/-- A pair that can be read. -/
structure PairI (w : World) (lo hi : Nat) (A : Option Addr) (n c : Nat) (xs : List Int) (B : Option Addr) (m d : Nat) (ys : List Int) (A' : Option Addr) (n' c' : Nat) (xs' : List Int) (B' : Option Addr) (m' d' : Nat) (ys' : List Int) : Prop where
  i1 : Ints w lo hi A n c xs
  i2 : Ints w lo hi B m d ys
  i3 : Ints w lo hi A' n' c' xs'
  i4 : Ints w lo hi B' m' d' ys'
section
variable {w w' : World} {lo hi : Nat} {A : Option Addr} {n c : Nat} {xs : List Int} {B : Option Addr} {m d : Nat} {ys : List Int} {A' : Option Addr} {n' c' : Nat} {xs' : List Int} {B' : Option Addr} {m' d' : Nat} {ys' : List Int}
theorem PairI.same (h : PairI w lo hi A n c xs B m d ys A' n' c' xs' B' m' d' ys') (hs : Same lo hi w w') : PairI w' lo hi A n c xs B m d ys A' n' c' xs' B' m' d' ys' := ⟨h.i1.same hs, h.i2.same hs, h.i3.same hs, h.i4.same hs⟩
theorem PairI.below {K : Nat} (h : PairI w lo hi A n c xs B m d ys A' n' c' xs' B' m' d' ys') (hb : Below K w w') (hK : hi ≤ K) : PairI w' lo hi A n c xs B m d ys A' n' c' xs' B' m' d' ys' := h.same (.of_below hb hK)
theorem PairI.wide {lo2 hi2 : Nat} (h : PairI w lo hi A n c xs B m d ys A' n' c' xs' B' m' d' ys') (h1 : lo2 ≤ lo) (h2 : hi ≤ hi2) : PairI w lo2 hi2 A n c xs B m d ys A' n' c' xs' B' m' d' ys' := ⟨h.i1.wide h1 h2, h.i2.wide h1 h2, h.i3.wide h1 h2, h.i4.wide h1 h2⟩
end
theorem pairI_done {w V : World} {lo hi : Nat} {A : Option Addr} {n c : Nat} {xs : List Int} {B : Option Addr} {m d : Nat} {ys : List Int} {A' : Option Addr} {n' c' : Nat} {xs' : List Int} {B' : Option Addr} {m' d' : Nat} {ys' : List Int} (h : PairI V lo hi A n c xs B m d ys A' n' c' xs' B' m' d' ys') (hg : w.heap.size < lo) (hh : hi ≤ V.heap.size) (b : Below w.heap.size w V) (v0 v1 v2 v3 v4 v5 : Value) :
    PairI ((((((V.setCell ⟨w.heap.size, 0, none⟩ v0).setCell ⟨w.heap.size, 1, none⟩ v1).setCell ⟨w.heap.size, 2, none⟩ v2).setCell ⟨w.heap.size, 3, none⟩ v3).setCell ⟨w.heap.size, 4, none⟩ v4).setCell ⟨w.heap.size, 5, none⟩ v5) w.heap.size ((((((V.setCell ⟨w.heap.size, 0, none⟩ v0).setCell ⟨w.heap.size, 1, none⟩ v1).setCell ⟨w.heap.size, 2, none⟩ v2).setCell ⟨w.heap.size, 3, none⟩ v3).setCell ⟨w.heap.size, 4, none⟩ v4).setCell ⟨w.heap.size, 5, none⟩ v5).heap.size A n c xs B m d ys A' n' c' xs' B' m' d' ys' ∧ Below w.heap.size w ((((((V.setCell ⟨w.heap.size, 0, none⟩ v0).setCell ⟨w.heap.size, 1, none⟩ v1).setCell ⟨w.heap.size, 2, none⟩ v2).setCell ⟨w.heap.size, 3, none⟩ v3).setCell ⟨w.heap.size, 4, none⟩ v4).setCell ⟨w.heap.size, 5, none⟩ v5) := by
  have hs : ((((((V.setCell ⟨w.heap.size, 0, none⟩ v0).setCell ⟨w.heap.size, 1, none⟩ v1).setCell ⟨w.heap.size, 2, none⟩ v2).setCell ⟨w.heap.size, 3, none⟩ v3).setCell ⟨w.heap.size, 4, none⟩ v4).setCell ⟨w.heap.size, 5, none⟩ v5).heap.size = V.heap.size := by simp [World.setCell]
  have S6 : Same lo hi V ((((((V.setCell ⟨w.heap.size, 0, none⟩ v0).setCell ⟨w.heap.size, 1, none⟩ v1).setCell ⟨w.heap.size, 2, none⟩ v2).setCell ⟨w.heap.size, 3, none⟩ v3).setCell ⟨w.heap.size, 4, none⟩ v4).setCell ⟨w.heap.size, 5, none⟩ v5) :=
    Same.setCell (p := ⟨w.heap.size, 5, none⟩) (Same.setCell (p := ⟨w.heap.size, 4, none⟩) (Same.setCell (p := ⟨w.heap.size, 3, none⟩) (Same.setCell (p := ⟨w.heap.size, 2, none⟩) (Same.setCell (p := ⟨w.heap.size, 1, none⟩) (Same.setCell (p := ⟨w.heap.size, 0, none⟩) (Same.refl _ _ _) (.inl hg) _) (.inl hg) _) (.inl hg) _) (.inl hg) _) (.inl hg) _) (.inl hg) _
  rw [hs]
  exact ⟨(h.same S6).wide (by omega) hh, (((((b.setCell (p := ⟨w.heap.size, 0, none⟩) (Nat.le_refl _) v0).setCell (p := ⟨w.heap.size, 1, none⟩) (Nat.le_refl _) v1).setCell (p := ⟨w.heap.size, 2, none⟩) (Nat.le_refl _) v2).setCell (p := ⟨w.heap.size, 3, none⟩) (Nat.le_refl _) v3).setCell (p := ⟨w.heap.size, 4, none⟩) (Nat.le_refl _) v4).setCell (p := ⟨w.heap.size, 5, none⟩) (Nat.le_refl _) v5⟩

set_option maxRecDepth 100000 in
set_option maxHeartbeats 8000000 in
theorem spec_Pair_none (nm : ByteArray) (w : World) (h1 : (nm.toList == [101, 117, 108, 101, 114]) = false) (h2 : (nm.toList == [118, 101, 114, 108, 101, 116]) = false) (h3 : (nm.toList == [108, 111, 98, 97, 116, 116, 111]) = false) :
    Calls Tryz.prog 4 #[.string nm] w fun e w' => e = .returned (.tuple #[zPair, .bool false]) ∧ Below w.heap.size w w' := by
  have b0 := below_alloc w (.cells #[.int .i64 0, .slice none 0 0, .slice none 0 0, .int .i64 0, .slice none 0 0, .slice none 0 0] 26)
  have HB := hide b0
  clear b0
  go_enter Tryz.func4, Tryz.ntmps4
  go_wp2_with fail
  refine bodyPost_ret (v := .tuple #[zPair, .bool false]) (by simp [results, Tryz.results4, go_sem]) rfl ⟨rfl, HB.out⟩
set_option maxRecDepth 100000 in
set_option maxHeartbeats 8000000 in
theorem spec_Pair_euler (nm : ByteArray) (h1 : (nm.toList == [101, 117, 108, 101, 114]) = true) (w : World) :
    Calls Tryz.prog 4 #[.string nm] w fun e w' => ∃ A c B d A' c' B' d', e = .returned (.tuple #[.agg #[.int .i64 1, .slice A 1 c, .slice B 1 d, .int .i64 1, .slice A' 1 c', .slice B' 1 d'], .bool true]) ∧ PairI w' w.heap.size w'.heap.size A 1 c [1] B 1 d [1] A' 1 c' [0] B' 1 d' [1] ∧ Below w.heap.size w w' := by
  have b0 := below_alloc w (.cells #[.int .i64 0, .slice none 0 0, .slice none 0 0, .int .i64 0, .slice none 0 0, .slice none 0 0] 26)
  have k0 := BlkN.new w #[.int .i64 0, .slice none 0 0, .slice none 0 0, .int .i64 0, .slice none 0 0, .slice none 0 0] 26
  have z0 : (w.alloc (.cells #[.int .i64 0, .slice none 0 0, .slice none 0 0, .int .i64 0, .slice none 0 0, .slice none 0 0] 26)).heap.size = w.heap.size + 1 := by simp
  go_enter Tryz.func4, Tryz.ntmps4
  go_wp2_with fail
  generalize w.alloc (.cells #[.int .i64 0, .slice none 0 0, .slice none 0 0, .int .i64 0, .slice none 0 0, .slice none 0 0] 26) = W0 at b0 k0 z0 ⊢
  refine (spec_Known_back W0).mono ?_
  rintro e w1 ⟨A, c, B, d, rfl, mid1, oA, oB, hm1, hm1', hb1⟩
  have k1 := k0.below hb1
  have b1 := b0.trans (hb1.mono b0.size)
  have a1 := below_alloc w1 (.cells #[.int .i64 1, .slice A 1 c, .slice B 1 d] 24)
  have j1 := BlkN.new w1 #[.int .i64 1, .slice A 1 c, .slice B 1 d] 24
  have zB0 := hb1.size
  clear hb1 k0 b0
  go_wp2_with fail
  generalize w1.alloc (.cells #[.int .i64 1, .slice A 1 c, .slice B 1 d] 24) = W1 at a1 j1 ⊢
  have za1 := a1.size
  have k1' := k1.below a1
  have b1' := b1.trans (a1.mono b1.size)
  refine (spec_Known_euler W1).mono ?_
  rintro e w2 ⟨A', c', B', d', rfl, mid2, oA', oB', hm2, hm2', hb2⟩
  have a2 := below_alloc w2 (.cells #[.int .i64 1, .slice A' 1 c', .slice B' 1 d'] 24)
  have j2 := BlkN.new w2 #[.int .i64 1, .slice A' 1 c', .slice B' 1 d'] 24
  have zb2 := hb2.size
  have k2 := (k1'.below hb2).below a2
  have j12 := (j1.below hb2).below a2
  have b2 := (b1'.trans (hb2.mono b1'.size)).trans (a2.mono (by have := b1'.size; omega))
  have n1 := ((oA.below a1 (by omega)).below hb2 (by omega)).below a2 (by omega)
  have n2 := ((oB.below a1 (by omega)).below hb2 (by omega)).below a2 (by omega)
  have n3 := oA'.below a2 (by omega)
  have n4 := oB'.below a2 (by omega)
  have za2 := a2.size
  have hP : PairI _ W0.heap.size w2.heap.size _ _ _ _ _ _ _ _ _ _ _ _ _ _ _ _ := ⟨(n1.wide (Nat.le_refl _) (by omega)).ints, (n2.wide (by omega) (by omega)).ints, (n3.wide (by omega) (by omega)).ints, (n4.wide (by omega) (Nat.le_refl _)).ints⟩
  have HP := hide (pairI_done hP (by omega) za2 b2 (.int .i64 1) (.slice A 1 c) (.slice B 1 d) (.int .i64 1) (.slice A' 1 c') (.slice B' 1 d'))
  obtain ⟨⟨r0, r1, r2, r3, r4, r5⟩, ⟨f0, f1, f2, f3, f4, f5⟩, zk⟩ := cellsix k2
  have t0 := j12.c 0 rfl
  have t1 := j12.c 1 rfl
  have t2 := j12.c 2 rfl
  have u0 := j2.c 0 rfl
  have u1 := j2.c 1 rfl
  have u2 := j2.c 2 rfl
  clear oA oB oA' oB' a1 a2 hb2 k1 k1' b1 b1' b2 j1 j12 j2 k2 n1 n2 n3 n4 hP
  go_wp2_with fail
  refine bodyPost_ret (v := .tuple #[.agg #[.int .i64 1, .slice A 1 c, .slice B 1 d, .int .i64 1, .slice A' 1 c', .slice B' 1 d'], .bool true]) (by simp [results, Tryz.results4, go_sem, r0, r1, r2, r3, r4, r5, f0, f1, f2, f3, f4, f5, zk]) rfl ⟨_, _, _, _, _, _, _, _, rfl, ?_⟩
  exact HP.out

theorem spec_Conj2 (A : Option Addr) (cA : Nat) (B : Option Addr) (cB lo hi : Nat) (w : World) (h : Ints w lo hi A 4 cA lobA2) (g : Ints w lo hi B 2 cB lobB2) (hh : hi ≤ w.heap.size) :
    Calls Tryz.prog 10 #[.agg #[.int .i64 2, .slice A 4 cA, .slice B 2 cB]] w fun e w' => ∃ A1 c1 B1 d1 A2 c2 B2 d2, e = .returned (.tuple #[.agg #[.int .i64 2, .slice A1 4 c1, .slice B1 2 d1, .int .i64 2, .slice A2 4 c2, .slice B2 2 d2], .bool true]) ∧ PairI w' w.heap.size w'.heap.size A1 4 c1 lobA2 B1 2 d1 lobB2 A2 4 c2 (conjL 2 lobA2 lobB2) B2 2 d2 lobB2 ∧ Below w.heap.size w w' := by
  refine (spec_Conj_ok 2 A 4 cA lobA2 B cB lobB2 hi w (h.wide (Nat.zero_le _) (Nat.le_refl _)) (g.wide (Nat.zero_le _) (Nat.le_refl _)) hh (by omega) rfl lob2_ok.1 lob2_ok.2 (fun e => by obtain ⟨ad, e2, _⟩ := g.cells (by omega); rw [e] at e2; cases e2)).mono ?_
  rintro e w' ⟨A1, c1, B1, d1, A2, c2, B2, d2, rfl, o1, o2, o3, o4, hB⟩
  exact ⟨A1, c1, B1, d1, A2, c2, B2, d2, rfl, ⟨o1.ints, o2.ints, o3.ints, o4.ints⟩, hB⟩
set_option maxRecDepth 100000 in
set_option maxHeartbeats 8000000 in
theorem spec_Pair_lob2 (nm : ByteArray) (h1 : (nm.toList == [101, 117, 108, 101, 114]) = false) (h2 : (nm.toList == [118, 101, 114, 108, 101, 116]) = true) (w : World) :
    Calls Tryz.prog 4 #[.string nm] w fun e w' => ∃ A1 c1 B1 d1 A2 c2 B2 d2, e = .returned (.tuple #[.agg #[.int .i64 2, .slice A1 4 c1, .slice B1 2 d1, .int .i64 2, .slice A2 4 c2, .slice B2 2 d2], .bool true]) ∧ PairI w' w.heap.size w'.heap.size A1 4 c1 lobA2 B1 2 d1 lobB2 A2 4 c2 (conjL 2 lobA2 lobB2) B2 2 d2 lobB2 ∧ Below w.heap.size w w' := by
  have b0 := below_alloc w (.cells #[.int .i64 0, .slice none 0 0, .slice none 0 0, .int .i64 0, .slice none 0 0, .slice none 0 0] 26)
  have k0 := BlkN.new w #[.int .i64 0, .slice none 0 0, .slice none 0 0, .int .i64 0, .slice none 0 0, .slice none 0 0] 26
  have z0 : (w.alloc (.cells #[.int .i64 0, .slice none 0 0, .slice none 0 0, .int .i64 0, .slice none 0 0, .slice none 0 0] 26)).heap.size = w.heap.size + 1 := by simp
  go_enter Tryz.func4, Tryz.ntmps4
  go_wp2_with fail
  generalize w.alloc (.cells #[.int .i64 0, .slice none 0 0, .slice none 0 0, .int .i64 0, .slice none 0 0, .slice none 0 0] 26) = W0 at b0 k0 z0 ⊢
  refine (spec_Known_lob2 W0).mono ?_
  rintro e w1 ⟨A, cA, B, cB, rfl, oA, oB, hb1⟩
  have k1 := k0.below hb1
  have b1 := b0.trans (hb1.mono b0.size)
  have a1 := below_alloc w1 (.cells #[.int .i64 2, .slice A 4 cA, .slice B 2 cB] 24)
  have j1 := BlkN.new w1 #[.int .i64 2, .slice A 4 cA, .slice B 2 cB] 24
  have zB0 := hb1.size
  clear hb1 k0 b0
  go_wp2_with fail
  generalize w1.alloc (.cells #[.int .i64 2, .slice A 4 cA, .slice B 2 cB] 24) = W1 at a1 j1 ⊢
  have za1 := a1.size
  have k2 := k1.below a1
  have b2 := b1.trans (a1.mono b1.size)
  refine (spec_Conj2 A cA B cB W0.heap.size w1.heap.size W1 (oA.ints.below a1 (Nat.le_refl _)) (oB.ints.below a1 (Nat.le_refl _)) za1).mono ?_
  rintro e w3 ⟨A1, c1, B1, d1, A2, c2, B2, d2, rfl, hP, hb3⟩
  have k3 := k2.below hb3
  have b3 := b2.trans (hb3.mono b2.size)
  have HP := hide (pairI_done hP (by omega) (Nat.le_refl _) b3 (.int .i64 2) (.slice A1 4 c1) (.slice B1 2 d1) (.int .i64 2) (.slice A2 4 c2) (.slice B2 2 d2))
  obtain ⟨⟨r0, r1, r2, r3, r4, r5⟩, ⟨f0, f1, f2, f3, f4, f5⟩, zk⟩ := cellsix k3
  clear oA oB a1 hb3 k1 k2 b1 b2 j1 k3 hP b3
  go_wp2_with fail
  refine bodyPost_ret (v := .tuple #[.agg #[.int .i64 2, .slice A1 4 c1, .slice B1 2 d1, .int .i64 2, .slice A2 4 c2, .slice B2 2 d2], .bool true]) (by simp [results, Tryz.results4, go_sem, r0, r1, r2, r3, r4, r5, f0, f1, f2, f3, f4, f5, zk]) rfl ⟨_, _, _, _, _, _, _, _, rfl, ?_⟩
  exact HP.out

theorem spec_Conj3 (A : Option Addr) (cA : Nat) (B : Option Addr) (cB lo hi : Nat) (w : World) (h : Ints w lo hi A 9 cA lobA3) (g : Ints w lo hi B 3 cB lobB3) (hh : hi ≤ w.heap.size) :
    Calls Tryz.prog 10 #[.agg #[.int .i64 3, .slice A 9 cA, .slice B 3 cB]] w fun e w' => ∃ A1 c1 B1 d1 A2 c2 B2 d2, e = .returned (.tuple #[.agg #[.int .i64 3, .slice A1 9 c1, .slice B1 3 d1, .int .i64 3, .slice A2 9 c2, .slice B2 3 d2], .bool true]) ∧ PairI w' w.heap.size w'.heap.size A1 9 c1 lobA3 B1 3 d1 lobB3 A2 9 c2 (conjL 3 lobA3 lobB3) B2 3 d2 lobB3 ∧ Below w.heap.size w w' := by
  refine (spec_Conj_ok 3 A 9 cA lobA3 B cB lobB3 hi w (h.wide (Nat.zero_le _) (Nat.le_refl _)) (g.wide (Nat.zero_le _) (Nat.le_refl _)) hh (by omega) rfl lob3_ok.1 lob3_ok.2 (fun e => by obtain ⟨ad, e2, _⟩ := g.cells (by omega); rw [e] at e2; cases e2)).mono ?_
  rintro e w' ⟨A1, c1, B1, d1, A2, c2, B2, d2, rfl, o1, o2, o3, o4, hB⟩
  exact ⟨A1, c1, B1, d1, A2, c2, B2, d2, rfl, ⟨o1.ints, o2.ints, o3.ints, o4.ints⟩, hB⟩
set_option maxRecDepth 100000 in
set_option maxHeartbeats 8000000 in
theorem spec_Pair_lob3 (nm : ByteArray) (h1 : (nm.toList == [101, 117, 108, 101, 114]) = false) (h2 : (nm.toList == [118, 101, 114, 108, 101, 116]) = false) (h3 : (nm.toList == [108, 111, 98, 97, 116, 116, 111]) = true) (w : World) :
    Calls Tryz.prog 4 #[.string nm] w fun e w' => ∃ A1 c1 B1 d1 A2 c2 B2 d2, e = .returned (.tuple #[.agg #[.int .i64 3, .slice A1 9 c1, .slice B1 3 d1, .int .i64 3, .slice A2 9 c2, .slice B2 3 d2], .bool true]) ∧ PairI w' w.heap.size w'.heap.size A1 9 c1 lobA3 B1 3 d1 lobB3 A2 9 c2 (conjL 3 lobA3 lobB3) B2 3 d2 lobB3 ∧ Below w.heap.size w w' := by
  have b0 := below_alloc w (.cells #[.int .i64 0, .slice none 0 0, .slice none 0 0, .int .i64 0, .slice none 0 0, .slice none 0 0] 26)
  have k0 := BlkN.new w #[.int .i64 0, .slice none 0 0, .slice none 0 0, .int .i64 0, .slice none 0 0, .slice none 0 0] 26
  have z0 : (w.alloc (.cells #[.int .i64 0, .slice none 0 0, .slice none 0 0, .int .i64 0, .slice none 0 0, .slice none 0 0] 26)).heap.size = w.heap.size + 1 := by simp
  go_enter Tryz.func4, Tryz.ntmps4
  go_wp2_with fail
  generalize w.alloc (.cells #[.int .i64 0, .slice none 0 0, .slice none 0 0, .int .i64 0, .slice none 0 0, .slice none 0 0] 26) = W0 at b0 k0 z0 ⊢
  refine (spec_Known_lob3 W0).mono ?_
  rintro e w1 ⟨A, cA, B, cB, rfl, oA, oB, hb1⟩
  have k1 := k0.below hb1
  have b1 := b0.trans (hb1.mono b0.size)
  have a1 := below_alloc w1 (.cells #[.int .i64 3, .slice A 9 cA, .slice B 3 cB] 24)
  have j1 := BlkN.new w1 #[.int .i64 3, .slice A 9 cA, .slice B 3 cB] 24
  have zB0 := hb1.size
  clear hb1 k0 b0
  go_wp2_with fail
  generalize w1.alloc (.cells #[.int .i64 3, .slice A 9 cA, .slice B 3 cB] 24) = W1 at a1 j1 ⊢
  have za1 := a1.size
  have k2 := k1.below a1
  have b2 := b1.trans (a1.mono b1.size)
  refine (spec_Conj3 A cA B cB W0.heap.size w1.heap.size W1 (oA.ints.below a1 (Nat.le_refl _)) (oB.ints.below a1 (Nat.le_refl _)) za1).mono ?_
  rintro e w3 ⟨A1, c1, B1, d1, A2, c2, B2, d2, rfl, hP, hb3⟩
  have k3 := k2.below hb3
  have b3 := b2.trans (hb3.mono b2.size)
  have HP := hide (pairI_done hP (by omega) (Nat.le_refl _) b3 (.int .i64 3) (.slice A1 9 c1) (.slice B1 3 d1) (.int .i64 3) (.slice A2 9 c2) (.slice B2 3 d2))
  obtain ⟨⟨r0, r1, r2, r3, r4, r5⟩, ⟨f0, f1, f2, f3, f4, f5⟩, zk⟩ := cellsix k3
  clear oA oB a1 hb3 k1 k2 b1 b2 j1 k3 hP b3
  go_wp2_with fail
  refine bodyPost_ret (v := .tuple #[.agg #[.int .i64 3, .slice A1 9 c1, .slice B1 3 d1, .int .i64 3, .slice A2 9 c2, .slice B2 3 d2], .bool true]) (by simp [results, Tryz.results4, go_sem, r0, r1, r2, r3, r4, r5, f0, f1, f2, f3, f4, f5, zk]) rfl ⟨_, _, _, _, _, _, _, _, rfl, ?_⟩
  exact HP.out

theorem spec_KnownPair (nm : ByteArray) (w : World) :
    Calls Tryz.prog 4 #[.string nm] w fun e w' => ∃ A n c B m d A' n' c' B' m' d', e = .returned (.tuple #[.agg #[.int .i64 (kpF nm).s, .slice A n c, .slice B m d, .int .i64 (kpF nm).s, .slice A' n' c', .slice B' m' d'], .bool (kpF nm).ok]) ∧ PairI w' w.heap.size w'.heap.size A n c (kpF nm).xs B m d (kpF nm).ys A' n' c' (kpF nm).xs' B' m' d' (kpF nm).ys' ∧ Below w.heap.size w w' := by
  cases h1 : (nm.toList == [101, 117, 108, 101, 114]) with
  | true =>
    have e : kpF nm = kpE := by simp only [kpF, h1, if_true]
    rw [e]
    refine (spec_Pair_euler nm h1 w).mono ?_
    rintro e w' ⟨A, c, B, d, A', c', B', d', rfl, hP, hB⟩
    exact ⟨A, 1, c, B, 1, d, A', 1, c', B', 1, d', rfl, hP, hB⟩
  | false =>
    cases h2 : (nm.toList == [118, 101, 114, 108, 101, 116]) with
    | true =>
      have e : kpF nm = kpV := by simp only [kpF, h1, h2, if_true, Bool.false_eq_true, if_false]
      rw [e]
      refine (spec_Pair_lob2 nm h1 h2 w).mono ?_
      rintro e w' ⟨A, c, B, d, A', c', B', d', rfl, hP, hB⟩
      exact ⟨A, _, c, B, _, d, A', _, c', B', _, d', rfl, hP, hB⟩
    | false =>
      cases h3 : (nm.toList == [108, 111, 98, 97, 116, 116, 111]) with
      | true =>
        have e : kpF nm = kpL := by simp only [kpF, h1, h2, h3, if_true, Bool.false_eq_true, if_false]
        rw [e]
        refine (spec_Pair_lob3 nm h1 h2 h3 w).mono ?_
        rintro e w' ⟨A, c, B, d, A', c', B', d', rfl, hP, hB⟩
        exact ⟨A, _, c, B, _, d, A', _, c', B', _, d', rfl, hP, hB⟩
      | false =>
        have e : kpF nm = kpN := by simp only [kpF, h1, h2, h3, Bool.false_eq_true, if_false]
        rw [e]
        refine (spec_Pair_none nm w h1 h2 h3).mono ?_
        rintro e w' ⟨rfl, hB⟩
        exact ⟨none, 0, 0, none, 0, 0, none, 0, 0, none, 0, 0, rfl, ⟨Ints.nil_ _ _ _, Ints.nil_ _ _ _, Ints.nil_ _ _ _, Ints.nil_ _ _ _⟩, hB⟩
end Go.Proofs.YtfijcieponfcpaaGreatDoor
