/- Fields and sessions: the statements' helpers on them. -/
import Derived.Test.YtjamdnbabfodkaaPoly4
namespace Go.Proofs.Ytjamdnbabfodkaa
open Go.RowKit
set_option linter.unusedSimpArgs false
set_option linter.unusedVariables false
set_option maxRecDepth 20000

theorem laws_szField (o : Int) (A : Option Addr) (n c : Nat) (ps : List (List Mono)) (lo hi : Nat) (left : Int) (w : World) (h : Mons2 w lo hi A n c ps) (hh : hi ≤ w.heap.size) (h0 : 0 ≤ left) (h1 : left ≤ 1048576) :
    Calls Try.prog 5 #[.agg #[.int .i64 o, .slice A n c], .int .i64 left] w fun e w' => ∃ r, e = .returned (.int .i64 r) ∧ Sz left r (n ≤ 1048576 ∧ ∀ p ∈ ps, p.length ≤ 1048576 ∧ ∀ m ∈ p, m.2.length ≤ 1048576) ∧ Below w.heap.size w w' := by
  go_enter Try.func5, Try.ntmps5
  go_wp2_with fail
  refine (laws_szMonomialSS A n c ps lo hi left _ (h.below (B := w.heap.size) (by (repeat (first | with_reducible exact Below.refl _ _ | with_reducible exact Below.refl _ _ | with_reducible refine Below.drew ?_ | ((with_reducible refine Below.alloc ?_ ?_ _); rotate_left; · first | omega | (simp [World.setCell]; done) | (simp [World.setCell]; omega)) | ((with_reducible refine Below.setCell ?_ ?_ _); rotate_left; · first | exact Nat.le_refl _ | omega | (simp; done) | (simp; omega))))) hh) (by simp; omega) h0 h1).mono ?_
  rintro e w1 ⟨r, rfl, hs, b1⟩
  have B1 : Below w.heap.size w w1 := below_alloc_inv b1
  have HS := hide hs
  have hr1 := hs.1
  clear hs b1
  by_cases hr : r < 0
  · go_wp2_with fail
    go_ret
    exact ⟨_, rfl, ⟨by omega, by omega, by omega⟩, B1⟩
  · go_wp2_with fail
    go_ret
    exact ⟨_, rfl, HS.out, B1⟩

set_option maxHeartbeats 400000 in
theorem laws_eqField (o : Int) (A : Option Addr) (n c : Nat) (xs : List (List Mono)) (lo hi : Nat) (o' : Int) (B : Option Addr) (m d : Nat) (ys : List (List Mono)) (lo' hi' : Nat) (w : World) (h : Mons2 w lo hi A n c xs) (g : Mons2 w lo' hi' B m d ys) (hh : hi ≤ w.heap.size) (gh : hi' ≤ w.heap.size) :
    Calls Try.prog 13 #[.agg #[.int .i64 o, .slice A n c], .agg #[.int .i64 o', .slice B m d]] w fun e w' => e = .returned (.bool (decide (o = o') && decide (xs = ys))) ∧ Below w.heap.size w w' := by
  by_cases ho : o = o'
  · subst ho
    go_enter Try.func13, Try.ntmps13
    go_wp2_with fail
    refine (laws_eqMonomialSS A n c xs lo hi B m d ys lo' hi' _ (h.below (B := w.heap.size) (by (repeat (first | with_reducible exact Below.refl _ _ | with_reducible exact Below.refl _ _ | with_reducible refine Below.drew ?_ | ((with_reducible refine Below.alloc ?_ ?_ _); rotate_left; · first | omega | (simp [World.setCell]; done) | (simp [World.setCell]; omega)) | ((with_reducible refine Below.setCell ?_ ?_ _); rotate_left; · first | exact Nat.le_refl _ | omega | (simp; done) | (simp; omega))))) hh) (g.below (B := w.heap.size) (by (repeat (first | with_reducible exact Below.refl _ _ | with_reducible exact Below.refl _ _ | with_reducible refine Below.drew ?_ | ((with_reducible refine Below.alloc ?_ ?_ _); rotate_left; · first | omega | (simp [World.setCell]; done) | (simp [World.setCell]; omega)) | ((with_reducible refine Below.setCell ?_ ?_ _); rotate_left; · first | exact Nat.le_refl _ | omega | (simp; done) | (simp; omega))))) gh) (by simp; omega) (by simp; omega)).mono ?_
    rintro e w1 ⟨rfl, b1⟩
    have B1 : Below w.heap.size w w1 := below_alloc_inv (below_alloc_inv b1)
    clear b1
    by_cases hxy : xs = ys
    · have hd : decide (xs = ys) = true := by simpa using hxy
      have hF : Hid ((decide (o = o) && decide (xs = ys)) = true) := by show _ = _; rw [hd]; simp
      rw [hd]
      clear hd hxy
      go_wp2_with fail
      go_ret
      exact ⟨ret_bool hF.out.symm, B1⟩
    · have hd : decide (xs = ys) = false := by simpa using hxy
      have hF : Hid ((decide (o = o) && decide (xs = ys)) = false) := by show _ = _; rw [hd]; simp
      rw [hd]
      clear hd hxy
      go_wp2_with fail
      go_ret
      exact ⟨ret_bool hF.out.symm, B1⟩
  · have hob : (o != o') = true := by simpa using ho
    have hF : Hid ((decide (o = o') && decide (xs = ys)) = false) := by show _ = _; rw [decide_eq_false ho]; rfl
    clear ho
    go_enter Try.func13, Try.ntmps13
    go_wp2_with fail
    go_ret
    exact ⟨ret_bool hF.out.symm, by (repeat (first | with_reducible exact Below.refl _ _ | with_reducible exact Below.refl _ _ | with_reducible refine Below.drew ?_ | ((with_reducible refine Below.alloc ?_ ?_ _); rotate_left; · first | omega | (simp [World.setCell]; done) | (simp [World.setCell]; omega)) | ((with_reducible refine Below.setCell ?_ ?_ _); rotate_left; · first | exact Nat.le_refl _ | omega | (simp; done) | (simp; omega))))⟩

end Go.Proofs.Ytjamdnbabfodkaa
/- Sessions: sameness. -/
namespace Go.Proofs.Ytjamdnbabfodkaa
open Go.RowKit
set_option linter.unusedSimpArgs false
set_option linter.unusedVariables false
set_option maxRecDepth 20000

end Go.Proofs.Ytjamdnbabfodkaa
/- Sessions: whether they are well formed. -/
namespace Go.Proofs.Ytjamdnbabfodkaa
open Go.RowKit
set_option linter.unusedSimpArgs false
set_option linter.unusedVariables false
set_option maxRecDepth 20000

def sesF (s : Int) (us vs : List Int) (o : Int) (ps : List (List Mono)) (xs : List Int) : Bool := tabOkF s us vs && (fieldF o ps && pathOkF [xs] o)
/-- A slice of one row. -/
theorem ints2_one {w : World} {hi : Nat} {X : Option Addr} {x f : Nat} {xs : List Int} {g : Nat} (h : Ints w 0 hi X x f xs) (hg : g < hi) (hc : w.cell? ⟨g, 0, none⟩ = some (.slice X x f)) : Ints2 w 0 hi (some ⟨g, 0, none⟩) 1 1 [xs] :=
  ⟨rfl, by omega, by omega, fun _ => ⟨_, rfl, by omega, hg, fun j ys hj => by
    cases j with
    | zero =>
      simp at hj
      subst hj
      exact ⟨X, x, f, by simpa [Addr.add] using hc, h⟩
    | succ j => simp at hj⟩⟩

theorem spec_l8Fine (o : Int) (P : Option Addr) (k e : Nat) (ps : List (List Mono)) (X : Option Addr) (x f : Nat) (xss : List (List Int)) (lo hi : Nat) (w : World) (hp : Mons2 w lo hi P k e ps) (hx : Ints2 w lo hi X x f xss) (hh : hi ≤ w.heap.size) (hlen : ∀ p ∈ ps, ∀ m ∈ p, m.2.length ≤ 1048576) :
    Calls Try.prog 23 #[.agg #[.int .i64 o, .slice P k e], .slice X x f] w fun r w' => r = .returned (.bool (fieldF o ps && pathOkF xss o)) ∧ Below w.heap.size w w' := by
  have xcp := hx.cap
  have xmx := hx.max
  have B0 := below_alloc w (.cells #[.int .i64 o, .slice P k e] 36)
  have j1 := BlkN.new w #[.int .i64 o, .slice P k e] 36
  go_enter Try.func23, Try.ntmps23
  go_wp2_with fail
  generalize w.alloc (.cells #[.int .i64 o, .slice P k e] 36) = W at B0 j1 ⊢
  have s0 := B0.size
  refine (spec_FieldOk o P k e ps lo hi W (hp.below B0 hh) (by omega) hlen).mono ?_
  rintro r w1 ⟨rfl, b1⟩
  have B1 := B0.trans (b1.mono s0)
  have s1 := B1.size
  have j2 := j1.below b1
  clear b1 B0 j1
  have p1 := j2.c 0 rfl
  cases ht : fieldF o ps with
  | false =>
    have hG : Hid ((fieldF o ps && pathOkF xss o) = false) := by show _ = _; rw [ht]; rfl
    clear ht
    go_wp2_with fail
    go_ret
    exact ⟨ret_bool hG.out.symm, B1⟩
  | true =>
    have hG : Hid ((fieldF o ps && pathOkF xss o) = pathOkF xss o) := by show _ = _; rw [ht]; rfl
    clear ht
    go_wp2_with fail
    refine (spec_PathOk X x f xss lo hi o w1 (hx.below B1 hh)).mono ?_
    rintro r w2 ⟨rfl, rfl⟩
    go_wp2_with fail
    go_ret
    exact ⟨ret_bool hG.out.symm, B1⟩

end Go.Proofs.Ytjamdnbabfodkaa
