/- Slices of slices of integers: what they read as, and the statements' helpers on them. -/
import Derived.Test.YthjkdpapadolgaaGreatDoorIntS
import Derived.Test.YthjkdpapadolgaaGreatDoorAppend
namespace Go.Proofs.YthjkdpapadolgaaGreatDoor
open Go.RowKit
set_option linter.unusedSimpArgs false
set_option linter.unusedVariables false
set_option maxRecDepth 20000

/-- A slice of slices of integers that can be read; all its cells lie in the blocks from lo up to hi. -/
structure Ints2 (w : World) (lo hi : Nat) (A : Option Addr) (n c : Nat) (xss : List (List Int)) : Prop where
  len : xss.length = n
  cap : n ≤ c
  max : c ≤ 9223372036854775807
  cells : 0 < n → ∃ ad, A = some ad ∧ lo ≤ ad.block ∧ ad.block < hi ∧ ∀ j xs, xss[j]? = some xs → ∃ B m d, w.cell? (ad.add j) = some (.slice B m d) ∧ Ints w lo hi B m d xs

section
variable {w w' : World} {lo hi : Nat} {A : Option Addr} {n c : Nat} {xss : List (List Int)}
theorem Ints2.at_ (h : Ints2 w lo hi A n c xss) {k : Nat} (hk : k < n) :
    ∃ ad B m d xs, A = some ad ∧ w.cell? (ad.add k) = some (.slice B m d) ∧ Ints w lo hi B m d xs ∧ Hid (xss.drop k = xs :: xss.drop (k+1)) ∧ Hid (xss[k]? = some xs) := by
  obtain ⟨ad, e, _, _, hc⟩ := h.cells (by omega)
  have hl : k < xss.length := by have := h.len; omega
  obtain ⟨B, m, d, h1, h2⟩ := hc k _ (List.getElem?_eq_getElem hl)
  exact ⟨ad, B, m, d, _, e, h1, h2, List.drop_eq_getElem_cons hl, List.getElem?_eq_getElem hl⟩
theorem Ints2.same (h : Ints2 w lo hi A n c xss) (hs : Same lo hi w w') : Ints2 w' lo hi A n c xss :=
  ⟨h.len, h.cap, h.max, fun hn => by
    obtain ⟨ad, e, h1, h2, hc⟩ := h.cells hn
    refine ⟨ad, e, h1, h2, fun j xs hx => ?_⟩
    obtain ⟨B, m, d, h3, h4⟩ := hc j xs hx
    exact ⟨B, m, d, (hs.cell (by rw [block_of_add]; exact h1) (by rw [block_of_add]; exact h2)).trans h3, h4.same hs⟩⟩
theorem Ints2.below {B : Nat} (h : Ints2 w lo hi A n c xss) (hb : Below B w w') (hB : hi ≤ B) : Ints2 w' lo hi A n c xss := h.same (.of_below hb hB)
theorem Ints2.drop_end (h : Ints2 w lo hi A n c xss) : Hid (xss.drop n = []) := List.drop_eq_nil_of_le (Nat.le_of_eq h.len)
end

def szRowsGo : List (List Int) → Int → Int
  | [], l => l
  | xs :: r, l => if l - xs.length < 0 then -1 else szRowsGo r (l - xs.length)
def szRowsF (xss : List (List Int)) (l : Int) : Int := if l - xss.length < 0 then -1 else szRowsGo xss (l - xss.length)
theorem szRowsGo_bd : ∀ (xss : List (List Int)) (l : Int), 0 ≤ l → (-1 ≤ szRowsGo xss l ∧ szRowsGo xss l ≤ l) ∧ (0 ≤ szRowsGo xss l → ∀ xs ∈ xss, (xs.length : Int) ≤ l)
  | [], l, h => ⟨⟨by unfold szRowsGo; omega, by unfold szRowsGo; omega⟩, fun _ _ h => absurd h (by simp)⟩
  | xs :: r, l, h => by
    rw [szRowsGo]
    split
    · exact ⟨⟨by omega, by omega⟩, fun h => absurd h (by omega)⟩
    · have ih := szRowsGo_bd r (l - xs.length) (by omega)
      refine ⟨⟨ih.1.1, by omega⟩, fun h0 ys hy => ?_⟩
      rcases List.mem_cons.1 hy with rfl | hy
      · omega
      · have := ih.2 h0 ys hy
        omega

theorem szRows_ok (xss : List (List Int)) : (szRowsF xss 1048576 < 0) ∨ (0 ≤ szRowsF xss 1048576 ∧ xss.length ≤ 1048576 ∧ ∀ xs ∈ xss, xs.length ≤ 1048576) := by
  unfold szRowsF
  split
  · exact .inl (by omega)
  · have h := szRowsGo_bd xss (1048576 - xss.length) (by omega)
    by_cases h0 : szRowsGo xss (1048576 - xss.length) < 0
    · exact .inl h0
    · exact .inr ⟨by omega, by omega, fun xs hx => by have := h.2 (by omega) xs hx; omega⟩

theorem take_snoc2 {α : Type} {xs ys : List α} {k : Nat} {x : α} (h : xs.take k = ys.take k) (hx : xs[k]? = some x) (hy : ys[k]? = some x) : xs.take (k+1) = ys.take (k+1) := by
  rw [List.take_add_one, List.take_add_one, h, hx, hy]

theorem info_ints : (Tryz.prog.info? 22).map (fun i => (i.zero, i.size, i.bytes)) = some (some (.slice none 0 0), 1, 24) := by kernel_rfl

end Go.Proofs.YthjkdpapadolgaaGreatDoor
