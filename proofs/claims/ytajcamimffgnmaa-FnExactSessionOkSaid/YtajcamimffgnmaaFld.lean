/- Fields and sessions: the statements' helpers on them. -/
import Derived.Test.YtajcamimffgnmaaPoly4
namespace Go.Proofs.Ytajcamimffgnmaa
open Go.RowKit
set_option linter.unusedSimpArgs false
set_option linter.unusedVariables false
set_option maxRecDepth 20000

theorem laws_szField (o : Int) (A : Option Addr) (n c : Nat) (ps : List (List Mono)) (lo hi : Nat) (left : Int) (w : World) (h : Mons2 w lo hi A n c ps) (hh : hi ≤ w.heap.size) (h0 : 0 ≤ left) (h1 : left ≤ 1048576) :
    Calls Try.prog 10 #[.agg #[.int .i64 o, .slice A n c], .int .i64 left] w fun e w' => ∃ r, e = .returned (.int .i64 r) ∧ Sz left r (n ≤ 1048576 ∧ ∀ p ∈ ps, p.length ≤ 1048576 ∧ ∀ m ∈ p, m.2.length ≤ 1048576) ∧ Below w.heap.size w w' := by
  go_enter Try.func10, Try.ntmps10
  go_wp2_with fail
  refine (laws_szMonomialSS A n c ps lo hi left _ (h.below (B := w.heap.size) (by (repeat (first | with_reducible exact Below.refl _ _ | with_reducible exact Below.refl _ _ | with_reducible refine Below.drew ?_ | ((with_reducible refine Below.alloc ?_ ?_ _); rotate_left; · first | omega | (simp [World.setCell]; done) | (simp [World.setCell]; omega)) | ((with_reducible refine Below.setCell ?_ ?_ _); rotate_left; · first | exact Nat.le_refl _ | omega | (simp; done) | (simp; omega))))) hh) (by simp; omega) h0 h1).mono ?_
  rintro e w1 ⟨r, rfl, hs, b1⟩
  have B1 : Below w.heap.size w w1 := below_alloc_inv b1
  have HS := hide hs
  have hr1 := hs.1
  clear hs b1
  by_cases hr : r < 0
  · go_wp2_with fail
    go_ret
    exact ⟨_, rfl, ⟨by omega, by omega, by omega⟩, B1⟩
  · go_wp2_with fail
    go_ret
    exact ⟨_, rfl, HS.out, B1⟩

set_option maxHeartbeats 400000 in
theorem laws_eqField (o : Int) (A : Option Addr) (n c : Nat) (xs : List (List Mono)) (lo hi : Nat) (o' : Int) (B : Option Addr) (m d : Nat) (ys : List (List Mono)) (lo' hi' : Nat) (w : World) (h : Mons2 w lo hi A n c xs) (g : Mons2 w lo' hi' B m d ys) (hh : hi ≤ w.heap.size) (gh : hi' ≤ w.heap.size) :
    Calls Try.prog 21 #[.agg #[.int .i64 o, .slice A n c], .agg #[.int .i64 o', .slice B m d]] w fun e w' => e = .returned (.bool (decide (o = o') && decide (xs = ys))) ∧ Below w.heap.size w w' := by
  by_cases ho : o = o'
  · subst ho
    go_enter Try.func21, Try.ntmps21
    go_wp2_with fail
    refine (laws_eqMonomialSS A n c xs lo hi B m d ys lo' hi' _ (h.below (B := w.heap.size) (by (repeat (first | with_reducible exact Below.refl _ _ | with_reducible exact Below.refl _ _ | with_reducible refine Below.drew ?_ | ((with_reducible refine Below.alloc ?_ ?_ _); rotate_left; · first | omega | (simp [World.setCell]; done) | (simp [World.setCell]; omega)) | ((with_reducible refine Below.setCell ?_ ?_ _); rotate_left; · first | exact Nat.le_refl _ | omega | (simp; done) | (simp; omega))))) hh) (g.below (B := w.heap.size) (by (repeat (first | with_reducible exact Below.refl _ _ | with_reducible exact Below.refl _ _ | with_reducible refine Below.drew ?_ | ((with_reducible refine Below.alloc ?_ ?_ _); rotate_left; · first | omega | (simp [World.setCell]; done) | (simp [World.setCell]; omega)) | ((with_reducible refine Below.setCell ?_ ?_ _); rotate_left; · first | exact Nat.le_refl _ | omega | (simp; done) | (simp; omega))))) gh) (by simp; omega) (by simp; omega)).mono ?_
    rintro e w1 ⟨rfl, b1⟩
    have B1 : Below w.heap.size w w1 := below_alloc_inv (below_alloc_inv b1)
    clear b1
    by_cases hxy : xs = ys
    · have hd : decide (xs = ys) = true := by simpa using hxy
      have hF : Hid ((decide (o = o) && decide (xs = ys)) = true) := by show _ = _; rw [hd]; simp
      rw [hd]
      clear hd hxy
      go_wp2_with fail
      go_ret
      exact ⟨ret_bool hF.out.symm, B1⟩
    · have hd : decide (xs = ys) = false := by simpa using hxy
      have hF : Hid ((decide (o = o) && decide (xs = ys)) = false) := by show _ = _; rw [hd]; simp
      rw [hd]
      clear hd hxy
      go_wp2_with fail
      go_ret
      exact ⟨ret_bool hF.out.symm, B1⟩
  · have hob : (o != o') = true := by simpa using ho
    have hF : Hid ((decide (o = o') && decide (xs = ys)) = false) := by show _ = _; rw [decide_eq_false ho]; rfl
    clear ho
    go_enter Try.func21, Try.ntmps21
    go_wp2_with fail
    go_ret
    exact ⟨ret_bool hF.out.symm, by (repeat (first | with_reducible exact Below.refl _ _ | with_reducible exact Below.refl _ _ | with_reducible refine Below.drew ?_ | ((with_reducible refine Below.alloc ?_ ?_ _); rotate_left; · first | omega | (simp [World.setCell]; done) | (simp [World.setCell]; omega)) | ((with_reducible refine Below.setCell ?_ ?_ _); rotate_left; · first | exact Nat.le_refl _ | omega | (simp; done) | (simp; omega))))⟩

set_option maxHeartbeats 2000000 in
theorem laws_szSession (s : Int) (A : Option Addr) (n c : Nat) (us : List Int) (B : Option Addr) (m d : Nat) (vs : List Int) (o : Int) (P : Option Addr) (k e : Nat) (ps : List (List Mono)) (X : Option Addr) (x f : Nat) (xs : List Int) (lo hi : Nat) (left : Int) (w : World) (ha : Ints w lo hi A n c us) (hb : Ints w lo hi B m d vs) (hp : Mons2 w lo hi P k e ps) (hx : Ints w lo hi X x f xs) (hh : hi ≤ w.heap.size) (h0 : 0 ≤ left) (h1 : left ≤ 1048576) :
    Calls Try.prog 4 #[.agg #[.int .i64 s, .slice A n c, .slice B m d, .int .i64 o, .slice P k e, .slice X x f], .int .i64 left] w fun e w' => ∃ r, e = .returned (.int .i64 r) ∧ (0 ≤ r → n ≤ 1048576 ∧ m ≤ 1048576 ∧ x ≤ 1048576 ∧ k ≤ 1048576 ∧ ∀ p ∈ ps, p.length ≤ 1048576 ∧ ∀ m ∈ p, m.2.length ≤ 1048576) ∧ Below w.heap.size w w' := by
  have acp := ha.cap
  have amx := ha.max
  have bcp := hb.cap
  have bmx := hb.max
  have xcp := hx.cap
  have xmx := hx.max
  have a1 := below_alloc w (.cells #[.int .i64 s, .slice A n c, .slice B m d, .int .i64 o, .slice P k e, .slice X x f] 29)
  have j1 := BlkN.new w #[.int .i64 s, .slice A n c, .slice B m d, .int .i64 o, .slice P k e, .slice X x f] 29
  obtain ⟨r0, hr0⟩ : ∃ r0, sz2F n m left = r0 := ⟨_, rfl⟩
  have hr1 : Hid (-1 ≤ r0 ∧ r0 ≤ left ∧ (0 ≤ r0 → n ≤ 1048576 ∧ m ≤ 1048576)) := by
    show _ ∧ _
    rw [← hr0]
    unfold sz2F
    split
    · refine ⟨by omega, by omega, by omega⟩
    · split
      · refine ⟨by omega, by omega, by omega⟩
      · refine ⟨by omega, by omega, by omega⟩
  go_enter Try.func4, Try.ntmps4
  go_wp2_with fail
  generalize w.alloc (.cells #[.int .i64 s, .slice A n c, .slice B m d, .int .i64 o, .slice P k e, .slice X x f] 29) = W at a1 j1 ⊢
  refine (laws_szTableau s A n c B m d left W (by omega) (by omega) h0 h1).mono ?_
  rintro e w1 ⟨rfl, b1⟩
  rw [hr0]
  have s1 := a1.size
  have B1 := a1.trans (b1.mono s1)
  have j2 := j1.below b1
  have hp1 := hp.below B1 hh
  have t1 := B1.size
  have e3 := j2.c 3 rfl
  have e4 := j2.c 4 rfl
  have hl := hr1.out.1
  have hl2 := hr1.out.2.1
  clear hr0 a1 b1 j1
  by_cases hn0 : r0 < 0
  · go_wp2_with fail
    go_ret
    exact ⟨_, rfl, by omega, B1⟩
  · go_wp2_with fail
    refine (laws_szField o P k e ps lo hi r0 w1 hp1 (by omega) (by omega) (by omega)).mono ?_
    rintro e w2 ⟨r1, rfl, hs1, b2⟩
    have j3 := j2.below b2
    have e5 := j3.c 5 rfl
    have B2 := B1.trans (b2.mono t1)
    have HS := hide hs1
    have hl3 := hs1.1
    have hl4 := hs1.2.1
    clear hs1 b2 e3 e4 B1
    by_cases hn1 : r1 < 0
    · go_wp2_with fail
      go_ret
      exact ⟨_, rfl, by omega, B2⟩
    · by_cases hn2 : r1 - x < 0
      · have hv : szF x r1 = -1 := if_pos hn2
        go_wp2_with fail
        refine (laws_szIntS X x f r1 w2 (by omega) (by omega) (by omega)).mono ?_
        rintro e w3 ⟨rfl, rfl⟩
        rw [hv]
        clear hv
        go_wp2_with fail
        go_ret
        exact ⟨_, rfl, by omega, B2⟩
      · have hv : szF x r1 = r1 - x := if_neg hn2
        have hG : Hid (n ≤ 1048576 ∧ m ≤ 1048576 ∧ x ≤ 1048576 ∧ k ≤ 1048576 ∧ ∀ p ∈ ps, p.length ≤ 1048576 ∧ ∀ m ∈ p, m.2.length ≤ 1048576) := ⟨(hr1.out.2.2 (by omega)).1, (hr1.out.2.2 (by omega)).2, by omega, HS.out.2.2 (by omega)⟩
        go_wp2_with fail
        refine (laws_szIntS X x f r1 w2 (by omega) (by omega) (by omega)).mono ?_
        rintro e w3 ⟨rfl, rfl⟩
        rw [hv]
        clear hv
        go_wp2_with fail
        go_ret
        exact ⟨_, rfl, fun _ => hG.out, B2⟩
end Go.Proofs.Ytajcamimffgnmaa
