/- Monomials, polynomials and fields: what they read as, and the statements' helpers on them. -/
import Derived.Test.YtlfgbellhiifmaaGreatDoorInts2
import Derived.Test.YtlfgbellhiifmaaGreatDoorTab
namespace Go.Proofs.YtlfgbellhiifmaaGreatDoor
open Go.RowKit
set_option linter.unusedSimpArgs false
set_option linter.unusedVariables false
set_option maxRecDepth 20000

abbrev Mono := Int × List Int
/-- A slice of monomials that can be read; all its cells lie in the blocks from lo up to hi. -/
structure Mons (w : World) (lo hi : Nat) (A : Option Addr) (n c : Nat) (ms : List Mono) : Prop where
  len : ms.length = n
  cap : n ≤ c
  max : c ≤ 9223372036854775807
  cells : 0 < n → ∃ ad, A = some ad ∧ lo ≤ ad.block ∧ ad.block < hi ∧ ∀ j m, ms[j]? = some m → w.cell? (ad.add (j * 2)) = some (.int .i64 m.1) ∧ R64 m.1 ∧ ∃ B k d, w.cell? ⟨(ad.add (j * 2)).block, (ad.add (j * 2)).off + 1, none⟩ = some (.slice B k d) ∧ Ints w lo hi B k d m.2
/-- A slice of slices of monomials. -/
structure Mons2 (w : World) (lo hi : Nat) (A : Option Addr) (n c : Nat) (ps : List (List Mono)) : Prop where
  len : ps.length = n
  cap : n ≤ c
  max : c ≤ 9223372036854775807
  cells : 0 < n → ∃ ad, A = some ad ∧ lo ≤ ad.block ∧ ad.block < hi ∧ ∀ j ms, ps[j]? = some ms → ∃ B m d, w.cell? (ad.add j) = some (.slice B m d) ∧ Mons w lo hi B m d ms

section
variable {w w' : World} {lo hi : Nat} {A : Option Addr} {n c : Nat} {ms : List Mono} {ps : List (List Mono)}
theorem Mons.at_ (h : Mons w lo hi A n c ms) {k : Nat} (hk : k < n) :
    ∃ ad x B m d xs, A = some ad ∧ w.cell? (ad.add (k * 2)) = some (.int .i64 x) ∧ w.cell? ⟨(ad.add (k * 2)).block, (ad.add (k * 2)).off + 1, none⟩ = some (.slice B m d) ∧ R64 x ∧ Ints w lo hi B m d xs ∧ Hid (ms.drop k = (x, xs) :: ms.drop (k+1)) ∧ Hid (ms[k]? = some (x, xs)) := by
  obtain ⟨ad, e, _, _, hc⟩ := h.cells (by omega)
  have hl : k < ms.length := by have := h.len; omega
  obtain ⟨h1, h2, B, m, d, h3, h4⟩ := hc k _ (List.getElem?_eq_getElem hl)
  exact ⟨ad, _, B, m, d, _, e, h1, h3, h2, h4, List.drop_eq_getElem_cons hl, List.getElem?_eq_getElem hl⟩
theorem Mons.same (h : Mons w lo hi A n c ms) (hs : Same lo hi w w') : Mons w' lo hi A n c ms :=
  ⟨h.len, h.cap, h.max, fun hn => by
    obtain ⟨ad, e, h1, h2, hc⟩ := h.cells hn
    refine ⟨ad, e, h1, h2, fun j m hm => ?_⟩
    obtain ⟨h3, h4, B, k, d, h5, h6⟩ := hc j m hm
    exact ⟨(hs.cell (by rw [block_of_add]; exact h1) (by rw [block_of_add]; exact h2)).trans h3, h4, B, k, d, (hs.cell (p := ⟨(ad.add (j * 2)).block, (ad.add (j * 2)).off + 1, none⟩) (by show lo ≤ (ad.add (j * 2)).block; rw [block_of_add]; exact h1) (by show (ad.add (j * 2)).block < hi; rw [block_of_add]; exact h2)).trans h5, h6.same hs⟩⟩
theorem Mons.below {B : Nat} (h : Mons w lo hi A n c ms) (hb : Below B w w') (hB : hi ≤ B) : Mons w' lo hi A n c ms := h.same (.of_below hb hB)
theorem Mons.wide {lo' hi' : Nat} (h : Mons w lo hi A n c ms) (h1 : lo' ≤ lo) (h2 : hi ≤ hi') : Mons w lo' hi' A n c ms :=
  ⟨h.len, h.cap, h.max, fun hn => by
    obtain ⟨ad, e, h3, h4, hc⟩ := h.cells hn
    refine ⟨ad, e, by omega, by omega, fun j m hm => ?_⟩
    obtain ⟨h3, h4, B, k, d, h5, h6⟩ := hc j m hm
    exact ⟨h3, h4, B, k, d, h5, h6.wide h1 h2⟩⟩
theorem Mons.drop_end (h : Mons w lo hi A n c ms) : Hid (ms.drop n = []) := List.drop_eq_nil_of_le (Nat.le_of_eq h.len)
theorem Mons2.at_ (h : Mons2 w lo hi A n c ps) {k : Nat} (hk : k < n) :
    ∃ ad B m d ms, A = some ad ∧ w.cell? (ad.add k) = some (.slice B m d) ∧ Mons w lo hi B m d ms ∧ Hid (ps.drop k = ms :: ps.drop (k+1)) ∧ Hid (ps[k]? = some ms) := by
  obtain ⟨ad, e, _, _, hc⟩ := h.cells (by omega)
  have hl : k < ps.length := by have := h.len; omega
  obtain ⟨B, m, d, h1, h2⟩ := hc k _ (List.getElem?_eq_getElem hl)
  exact ⟨ad, B, m, d, _, e, h1, h2, List.drop_eq_getElem_cons hl, List.getElem?_eq_getElem hl⟩
theorem Mons2.same (h : Mons2 w lo hi A n c ps) (hs : Same lo hi w w') : Mons2 w' lo hi A n c ps :=
  ⟨h.len, h.cap, h.max, fun hn => by
    obtain ⟨ad, e, h1, h2, hc⟩ := h.cells hn
    refine ⟨ad, e, h1, h2, fun j xs hx => ?_⟩
    obtain ⟨B, m, d, h3, h4⟩ := hc j xs hx
    exact ⟨B, m, d, (hs.cell (by rw [block_of_add]; exact h1) (by rw [block_of_add]; exact h2)).trans h3, h4.same hs⟩⟩
theorem Mons2.below {B : Nat} (h : Mons2 w lo hi A n c ps) (hb : Below B w w') (hB : hi ≤ B) : Mons2 w' lo hi A n c ps := h.same (.of_below hb hB)
theorem Mons2.wide {lo' hi' : Nat} (h : Mons2 w lo hi A n c ps) (h1 : lo' ≤ lo) (h2 : hi ≤ hi') : Mons2 w lo' hi' A n c ps :=
  ⟨h.len, h.cap, h.max, fun hn => by
    obtain ⟨ad, e, h3, h4, hc⟩ := h.cells hn
    refine ⟨ad, e, by omega, by omega, fun j m hm => ?_⟩
    obtain ⟨B, k, d, h5, h6⟩ := hc j m hm
    exact ⟨B, k, d, h5, h6.wide h1 h2⟩⟩
theorem Mons2.drop_end (h : Mons2 w lo hi A n c ps) : Hid (ps.drop n = []) := List.drop_eq_nil_of_le (Nat.le_of_eq h.len)
end

/-- what a measure of a value may be: -1 where it is too great -/
def Sz (left r : Int) (P : Prop) : Prop := -1 ≤ r ∧ r ≤ left ∧ (0 ≤ r → P)

theorem laws_eqMonomial (o : Int) (A : Option Addr) (n c : Nat) (xs : List Int) (lo hi : Nat) (o' : Int) (B : Option Addr) (m d : Nat) (ys : List Int) (lo' hi' : Nat) (w : World) (h : Ints w lo hi A n c xs) (g : Ints w lo' hi' B m d ys) (hh : hi ≤ w.heap.size) (gh : hi' ≤ w.heap.size) :
    Calls Tryz.prog 113 #[.agg #[.int .i64 o, .slice A n c], .agg #[.int .i64 o', .slice B m d]] w fun e w' => e = .returned (.bool (decide ((o, xs) = (o', ys)))) ∧ Below w.heap.size w w' := by
  by_cases ho : o = o'
  · subst ho
    go_enter Tryz.func113, Tryz.ntmps113
    go_wp2_with fail
    refine (laws_eqIntS A n c xs lo hi B m d ys lo' hi' _ (h.below (B := w.heap.size) (by (repeat (first | with_reducible exact Below.refl _ _ | with_reducible exact Below.refl _ _ | with_reducible refine Below.drew ?_ | ((with_reducible refine Below.alloc ?_ ?_ _); rotate_left; · first | omega | (simp [World.setCell]; done) | (simp [World.setCell]; omega)) | ((with_reducible refine Below.setCell ?_ ?_ _); rotate_left; · first | exact Nat.le_refl _ | omega | (simp; done) | (simp; omega))))) hh) (g.below (B := w.heap.size) (by (repeat (first | with_reducible exact Below.refl _ _ | with_reducible exact Below.refl _ _ | with_reducible refine Below.drew ?_ | ((with_reducible refine Below.alloc ?_ ?_ _); rotate_left; · first | omega | (simp [World.setCell]; done) | (simp [World.setCell]; omega)) | ((with_reducible refine Below.setCell ?_ ?_ _); rotate_left; · first | exact Nat.le_refl _ | omega | (simp; done) | (simp; omega))))) gh)).mono ?_
    rintro e w1 ⟨rfl, q, rfl⟩
    by_cases hxy : xs = ys
    · have hd : decide (xs = ys) = true := by simpa using hxy
      have hF : Hid (decide ((o, xs) = (o, ys)) = true) := by show _ = _; simpa using hxy
      rw [hd]
      clear hd hxy
      go_wp2_with fail
      go_ret
      exact ⟨ret_bool hF.out.symm, below_drewN (by (repeat (first | with_reducible exact Below.refl _ _ | with_reducible exact Below.refl _ _ | with_reducible refine Below.drew ?_ | ((with_reducible refine Below.alloc ?_ ?_ _); rotate_left; · first | omega | (simp [World.setCell]; done) | (simp [World.setCell]; omega)) | ((with_reducible refine Below.setCell ?_ ?_ _); rotate_left; · first | exact Nat.le_refl _ | omega | (simp; done) | (simp; omega))))) _⟩
    · have hd : decide (xs = ys) = false := by simpa using hxy
      have hF : Hid (decide ((o, xs) = (o, ys)) = false) := by show _ = _; simpa using hxy
      rw [hd]
      clear hd hxy
      go_wp2_with fail
      go_ret
      exact ⟨ret_bool hF.out.symm, below_drewN (by (repeat (first | with_reducible exact Below.refl _ _ | with_reducible exact Below.refl _ _ | with_reducible refine Below.drew ?_ | ((with_reducible refine Below.alloc ?_ ?_ _); rotate_left; · first | omega | (simp [World.setCell]; done) | (simp [World.setCell]; omega)) | ((with_reducible refine Below.setCell ?_ ?_ _); rotate_left; · first | exact Nat.le_refl _ | omega | (simp; done) | (simp; omega))))) _⟩
  · have hob : (o != o') = true := by simpa using ho
    have hF : Hid (decide ((o, xs) = (o', ys)) = false) := decide_eq_false (fun e => ho (by injection e))
    clear ho
    go_enter Tryz.func113, Tryz.ntmps113
    go_wp2_with fail
    go_ret
    exact ⟨ret_bool hF.out.symm, by (repeat (first | with_reducible exact Below.refl _ _ | with_reducible exact Below.refl _ _ | with_reducible refine Below.drew ?_ | ((with_reducible refine Below.alloc ?_ ?_ _); rotate_left; · first | omega | (simp [World.setCell]; done) | (simp [World.setCell]; omega)) | ((with_reducible refine Below.setCell ?_ ?_ _); rotate_left; · first | exact Nat.le_refl _ | omega | (simp; done) | (simp; omega))))⟩
end Go.Proofs.YtlfgbellhiifmaaGreatDoor
