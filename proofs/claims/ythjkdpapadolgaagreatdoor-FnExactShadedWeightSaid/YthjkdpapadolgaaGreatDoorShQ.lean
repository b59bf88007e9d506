/- Shaded trees: what the table says of each row, for the program's walk. -/
import Derived.Test.YthjkdpapadolgaaGreatDoorShP
namespace Go.Proofs.YthjkdpapadolgaaGreatDoor
open Go.RowKit
set_option linter.unusedSimpArgs false
set_option linter.unusedVariables false
set_option maxRecDepth 20000

theorem cnt_step : ∀ n ∈ [1, 2, 3, 4], cntF (n - 1) ≤ cntF n ∧ cntF n ≤ 72 := by decide
theorem tabL_len : tabL.length = 72 := by decide +kernel
def rowsT (n : Nat) : List (List Int) := (tabL.take (cntF n)).drop (cntF (n - 1))
theorem rowsT_eq {n : Nat} (h1 : 1 ≤ n) (h4 : n ≤ 4) : compF (sortF (listsF n)) = rowsT n := rows_tab n (by simp; omega)
theorem rowsT_len {n : Nat} (h1 : 1 ≤ n) (h4 : n ≤ 4) : (rowsT n).length = cntF n - cntF (n - 1) := by
  have := cnt_step n (by simp; omega)
  have := tabL_len
  simp [rowsT]
  omega

theorem placeL_take {xs : List (List Int)} {a b : Nat} {p : List Int} (hab : a ≤ b) (h : placeL (xs.take a) p ≠ -1) : placeL (xs.take b) p = placeL (xs.take a) p ∧ 0 ≤ placeL (xs.take a) p ∧ placeL (xs.take a) p < a := by
  unfold placeL at h ⊢
  cases hf : (xs.take a).findIdx? (fun x => decide (x = p)) with
  | none => rw [hf] at h; exact absurd rfl h
  | some i =>
    have e : xs.take b = xs.take a ++ (xs.drop a).take (b - a) := by
      rw [show b = a + (b - a) by omega, List.take_add]
      congr 2
      omega
    have hi : i < (xs.take a).length := by
      have := List.findIdx?_eq_some_iff_getElem.1 hf
      exact this.1
    rw [e, List.findIdx?_append, hf]
    simp at hi
    simp
    omega

def symAt (b : Int) : Int := ((tabS[b.toNat]?).map (·.2.2)).getD 0
/-- every number that the program comes by while it reckons a symmetry is small -/
def symOk : List Int → Option Int → Int → Int → Bool
  | [], _, _, acc => decide (0 ≤ acc ∧ acc ≤ 1000000)
  | b :: r, pv, times, acc =>
    let t := if pv.all (fun p => decide (b = p)) then times + 1 else 1
    decide (0 ≤ times ∧ times ≤ 10) && decide (0 ≤ t ∧ t ≤ 10) && decide (0 ≤ symAt b ∧ symAt b ≤ 1000) && decide (0 ≤ t * symAt b ∧ t * symAt b ≤ 10000) && decide (0 ≤ acc ∧ acc ≤ 1000000) && decide (0 ≤ acc * (t * symAt b) ∧ acc * (t * symAt b) ≤ 1000000) && symOk r (some b) t (acc * (t * symAt b))
theorem tab_sym2 : (tabS.all fun t => decide (symGo symAt t.2.1 none 0 1 = t.2.2) && symOk t.2.1 none 0 1 && decide (t.2.1.length ≤ 3)) = true := by decide +kernel
theorem tab_small : (tabL.all fun l => l.all fun x => decide (0 ≤ x ∧ x ≤ 1000)) = true := by decide +kernel

structure RowF (N0 k : Nat) (l : List Int) (a : Int) (r : List Int) (bs : List Int) (sy : Int) : Prop where
  eq : l = a :: r
  row : tabS[N0 + k]? = some (l, bs, sy)
  half : okG 4 1 (halfF l) = true
  len : l.length ≤ 4
  small : ∀ x ∈ l, 0 ≤ x ∧ x ≤ 1000
  two : ∀ x ∈ r, 2 ≤ x
  head : ∀ x ∈ r.head?, x < 4
  place : ∀ p ∈ partsF [] r, placeL (tabL.take (N0 + k)) p = placeL (tabL.take (N0)) p ∧ 0 ≤ placeL (tabL.take (N0)) p ∧ placeL (tabL.take (N0)) p < N0
  bran : sortI ((partsF [] r).map (placeL (tabL.take (N0)))) = bs
  sym : symGo symAt bs none 0 1 = sy
  symo : symOk bs none 0 1 = true
  blen : bs.length ≤ 3
theorem row_facts {n k : Nat} (h1 : 1 ≤ n) (h4 : n ≤ 4) {l : List Int} (h : (rowsT n)[k]? = some l) : ∃ a r bs sy, RowF (cntF (n - 1)) k l a r bs sy := by
  have hn : n ∈ [1, 2, 3, 4] := by simp; omega
  obtain ⟨c1, c2⟩ := cnt_step n hn
  have hk := (List.getElem?_eq_some_iff.1 h).1
  rw [rowsT_len h1 h4] at hk
  have hkl : cntF (n - 1) + k < cntF n := by omega
  have hL : tabL[cntF (n - 1) + k]? = some l := by
    unfold rowsT at h
    rw [List.getElem?_drop, List.getElem?_take_of_lt hkl] at h
    exact h
  have htl := tab_len
  obtain ⟨t, ht⟩ : ∃ t, tabS[cntF (n - 1) + k]? = some t := ⟨_, List.getElem?_eq_getElem (by omega)⟩
  have htt : t.1 = l := by
    have : tabL[cntF (n - 1) + k]? = (tabS[cntF (n - 1) + k]?).map (·.1) := by simp [tabL]
    rw [ht, hL] at this
    injection this with this
    exact this.symm
  obtain ⟨l', bs, sy⟩ := t
  obtain rfl : l' = l := htt
  have hm := List.mem_of_getElem? hL
  have hms := List.mem_of_getElem? ht
  have f1 := List.all_eq_true.1 half_ok _ hm
  have f2 := good_of (List.all_eq_true.1 tab_ok _ hm)
  have f3 := List.all_eq_true.1 tab_sym2 _ hms
  have f4 : ∀ x ∈ l', 0 ≤ x ∧ x ≤ 1000 := by simpa [List.all_eq_true] using List.all_eq_true.1 tab_small _ hm
  simp only [Bool.and_eq_true, decide_eq_true_eq] at f3
  obtain ⟨a, r, e⟩ : ∃ a r, l' = a :: r := by
    obtain ⟨b, q, e, _⟩ := f2.1
    exact ⟨b, q, e⟩
  subst e
  obtain ⟨b, q, e, g0, g1, g2⟩ := f2.1
  injection e with e1 e2
  subst e1 e2
  have f5 : (match ((a :: r), bs, sy).1 with
    | [] => false
    | _ :: r => (partsF [] r).all (fun p => decide (placeL (tabL.take (cntF (n - 1))) p ≠ -1)) && decide (sortI ((partsF [] r).map (placeL (tabL.take (cntF (n - 1))))) = bs)) = true :=
    List.all_eq_true.1 (tab_branches n hn) ((a :: r), bs, sy) (List.mem_of_getElem? (i := k) (by rw [List.getElem?_drop, List.getElem?_take_of_lt hkl]; exact ht))
  simp only [Bool.and_eq_true, decide_eq_true_eq, List.all_eq_true] at f5
  exact ⟨a, r, bs, sy, rfl, ht, f1, f2.2, f4, shadesGo_two r a g2, shadesGo_head g1 g0 g2, fun p hp => placeL_take (by omega) (f5.1 p hp), f5.2, f3.1.1, f3.1.2, f3.2⟩
end Go.Proofs.YthjkdpapadolgaaGreatDoor
