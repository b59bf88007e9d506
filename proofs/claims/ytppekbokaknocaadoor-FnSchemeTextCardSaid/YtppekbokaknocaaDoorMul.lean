/- Products of words: the walks of both texts. -/
import Derived.Test.YtppekbokaknocaaDoorAddW
import Derived.Test.YtppekbokaknocaaDoorWordAt
namespace Go.Proofs.YtppekbokaknocaaDoor
open Go.RowKit
set_option linter.unusedSimpArgs false
set_option linter.unusedVariables false
set_option maxRecDepth 20000

def mulGo (xs ys v : List Int) : Nat → Nat → Int → Int
  | 0, _, acc => acc
  | s + 1, k, acc => mulGo xs ys v s (k + 1) (plusF acc (timesF (xs.getD (placeF (v.take k)).toNat 0) (ys.getD (placeF (v.drop k)).toNat 0)))
def mulAt (xs ys : List Int) (i : Nat) : Int := mulGo xs ys (wordL i) ((wordL i).length + 1) 0 0
def mulL (n : Nat) (xs ys : List Int) : List Int := (List.range n).map (mulAt xs ys)
def mulF (o : Int) (xs : List Int) (o' : Int) (ys : List Int) : (Int × List Int) × Bool := if fitF o xs o' ys then ((o, mulL (cntN o) xs ys), true) else ((0, []), false)

theorem mulGo_bd (xs ys v : List Int) (s k : Nat) (acc : Int) (h : 0 ≤ acc ∧ acc < 1000000271) : 0 ≤ mulGo xs ys v s k acc ∧ mulGo xs ys v s k acc < 1000000271 := by
  induction s generalizing k acc with
  | zero => exact h
  | succ s ih => exact ih _ _ (plusF_bd _ _)
theorem mulL_len (n : Nat) (xs ys : List Int) : (mulL n xs ys).length = n := by simp [mulL]
theorem mulL_at {n : Nat} (xs ys : List Int) {j : Nat} (h : j < n) : (mulL n xs ys)[j]? = some (mulAt xs ys j) := by simp [mulL, h]
theorem mulL_num (n : Nat) (xs ys : List Int) : ∀ x ∈ mulL n xs ys, 0 ≤ x ∧ x < 1000000271 := by
  intro x hx
  simp only [mulL, List.mem_map] at hx
  obtain ⟨i, _, rfl⟩ := hx
  exact mulGo_bd _ _ _ _ _ _ (by omega)

theorem Ints.take_ {w : World} {lo hi : Nat} {A : Option Addr} {n c : Nat} {xs : List Int} (h : Ints w lo hi A n c xs) {k : Nat} (hk : k ≤ n) : Ints w lo hi A k c (xs.take k) :=
  ⟨by rw [List.length_take]; have := h.len; omega, by have := h.cap; omega, h.max, (fun h0 => by
    obtain ⟨ad, e, h1, h2, hc⟩ := h.cells (by omega)
    refine ⟨ad, e, h1, h2, fun j x hx => hc j x ?_⟩
    rw [List.getElem?_take] at hx
    split at hx
    · exact hx
    · cases hx), fun x hx => h.rng x (List.mem_of_mem_take hx)⟩
theorem Ints.drop_ {w : World} {lo hi g : Nat} {n c : Nat} {xs : List Int} (h : Ints w lo hi (some ⟨g, 0, none⟩) n c xs) {k : Nat} (hk : k ≤ n) : Ints w lo hi (some ⟨g, k, none⟩) (n - k) (c - k) (xs.drop k) :=
  ⟨by rw [List.length_drop]; have := h.len; omega, by have := h.cap; omega, by have := h.max; omega, (fun h0 => by
    obtain ⟨ad, e, h1, h2, hc⟩ := h.cells (by omega)
    injection e with e
    subst e
    refine ⟨_, rfl, h1, h2, fun j x hx => ?_⟩
    rw [List.getElem?_drop] at hx
    have := hc _ _ hx
    simpa [Addr.add_lit] using this), fun x hx => h.rng x (List.mem_of_mem_drop hx)⟩

theorem Ints.drop_if {w : World} {lo hi g : Nat} {n c : Nat} {xs : List Int} (h : Ints w lo hi (some ⟨g, 0, none⟩) n c xs) {k : Nat} (hk : k ≤ n) : Ints w lo hi (if c = k then some ⟨g, 0, none⟩ else some ⟨g, k, none⟩) (n - k) (c - k) (xs.drop k) := by
  split
  · have h1 := h.cap
    have h2 := (h.drop_ hk)
    exact ⟨h2.len, h2.cap, h2.max, fun h0 => absurd h0 (by omega), h2.rng⟩
  · exact h.drop_ hk

/-- Where the two halves of a word lie. -/
theorem place_nat {o : Int} (h5 : o ≤ 5) {j : Nat} (hj : j < cntN o) (k : Nat) : (∃ p : Nat, placeF ((wordL j).take k) = (p : Int) ∧ p < cntN o) ∧ ∃ q : Nat, placeF ((wordL j).drop k) = (q : Int) ∧ q < cntN o := by
  have hl : (wordL j).length ≤ o.toNat := wordL_len j o.toNat (by unfold cntN at hj; omega)
  have hb := wordL_bit j
  have key : ∀ v : List Int, (∀ x ∈ v, x = 0 ∨ x = 1) → v.length ≤ o.toNat → ∃ p : Nat, placeF v = (p : Int) ∧ p < cntN o := by
    intro v hv hvl
    obtain ⟨h1, h2⟩ := placeF_bd hv (by omega)
    have h3 : (2 : Int) ^ (v.length + 1) ≤ 2 ^ (o.toNat + 1) := by
      have : (2 : Nat) ^ (v.length + 1) ≤ 2 ^ (o.toNat + 1) := Nat.pow_le_pow_right (by omega) (by omega)
      exact_mod_cast this
    refine ⟨(placeF v).toNat, by omega, ?_⟩
    unfold cntN
    have h4 : ((2 ^ (o.toNat + 1) : Nat) : Int) = 2 ^ (o.toNat + 1) := by simp
    omega
  refine ⟨key _ (fun x hx => hb x (List.mem_of_mem_take hx)) (by rw [List.length_take]; omega), key _ (fun x hx => hb x (List.mem_of_mem_drop hx)) (by rw [List.length_drop]; omega)⟩

/-- A row whose cells are set one behind the other, each in several steps. -/
def FillI (n j : Nat) (zs vs : List Int) : Prop := vs.length = n ∧ vs.take j = zs.take j ∧ ∀ i, j ≤ i → i < n → vs[i]? = some 0
def FillJ (n j : Nat) (zs vs : List Int) (acc : Int) : Prop := vs.length = n ∧ vs.take j = zs.take j ∧ vs[j]? = some acc ∧ ∀ i, j < i → i < n → vs[i]? = some 0
theorem fillI_new (n : Nat) (zs : List Int) : FillI n 0 zs (List.replicate n 0) := ⟨by simp, by simp, fun i _ h => by simp [h]⟩
theorem FillI.open {n j : Nat} {zs vs : List Int} (h : FillI n j zs vs) (hj : j < n) : FillJ n j zs vs 0 := ⟨h.1, h.2.1, h.2.2 j (Nat.le_refl _) hj, fun i h1 h2 => h.2.2 i (by omega) h2⟩
theorem FillJ.close {n j : Nat} {zs vs : List Int} {acc : Int} (h : FillJ n j zs vs acc) (hz : zs[j]? = some acc) : FillI n (j + 1) zs vs :=
  ⟨h.1, by rw [List.take_add_one, List.take_add_one, h.2.1, h.2.2.1, hz], fun i h1 h2 => h.2.2.2 i (by omega) h2⟩
theorem FillJ.set {n j : Nat} {zs vs : List Int} {acc : Int} (h : FillJ n j zs vs acc) (hj : j < n) (v : Int) : FillJ n j zs (vs.set j v) v :=
  ⟨by simpa using h.1, by rw [List.take_set_of_le (Nat.le_refl _)]; exact h.2.1, by rw [List.getElem?_set_self (by have := h.1; omega)], fun i h1 h2 => by rw [List.getElem?_set_ne (by omega)]; exact h.2.2.2 i h1 h2⟩
theorem FillI.done {n j : Nat} {zs vs : List Int} (h : FillI n j zs vs) (hz : zs.length = n) (hj : n ≤ j) : vs = zs := by
  have h1 := h.2.1
  rwa [List.take_of_length_le (by have := h.1; omega), List.take_of_length_le (by omega)] at h1
theorem fillJ_step {w3 wr : World} {g lo n c2 j : Nat} {vs zs : List Int} {acc v : Int} (hown : wr.ownsRow lo 3 1 (.slice (some ⟨g, 0, none⟩) n c2) n (vs.map (Value.int .i64))) (ht : Touch g (g + 1) w3 wr)
    (hf : FillJ n j zs vs acc) (hj : j < n) :
    wr.cell? ⟨g, j, none⟩ = some (.int .i64 acc) ∧ wr.frozen? ⟨g, j, none⟩ = false ∧
    Hid ((wr.setCell ⟨g, j, none⟩ (.int .i64 v)).ownsRow lo 3 1 (.slice (some ⟨g, 0, none⟩) n c2) n ((vs.set j v).map (Value.int .i64)) ∧ Touch g (g + 1) w3 (wr.setCell ⟨g, j, none⟩ (.int .i64 v)) ∧ FillJ n j zs (vs.set j v) v) := by
  have hst := hown.stored j (.int .i64 v)
  refine ⟨?_, hown.frozenAt j, by simpa [List.map_set] using hst.1, ht.setCell (.inl ⟨Nat.le_refl _, by simp⟩) _, hf.set hj v⟩
  rw [hown.cellAt j (by omega)]
  simp [hf.2.2.1]

end Go.Proofs.YtppekbokaknocaaDoor
