/- The program's sum of brackets and the reference's agree. Plain law. -/
import Derived.Test.YtodlfmagkjblgaaLie
namespace Go.Proofs.Ytodlfmagkjblgaa
open Go.RowKit
set_option linter.unusedSimpArgs false
set_option linter.unusedVariables false
set_option maxRecDepth 20000

def okZ (n : Nat) : Bool := (List.range (n - 1)).all fun j => (bktK n (j + 1)).getD 0 0 == 0
set_option maxRecDepth 100000 in
theorem okZ_3 : okZ 3 = true := by decide +kernel
set_option maxRecDepth 100000 in
theorem okZ_7 : okZ 7 = true := by decide +kernel
set_option maxRecDepth 100000 in
theorem okZ_15 : okZ 15 = true := by decide +kernel
set_option maxRecDepth 100000 in
theorem okZ_31 : okZ 31 = true := by decide +kernel
set_option maxRecDepth 100000 in
theorem okZ_63 : okZ 63 = true := by decide +kernel
theorem ok_all {o : Int} (h1 : 1 ≤ o) (h5 : o ≤ 5) : okK (cntN o) = true ∧ okZ (cntN o) = true := by
  obtain h | h | h | h | h : o = 1 ∨ o = 2 ∨ o = 3 ∨ o = 4 ∨ o = 5 := by omega
  · subst h; exact ⟨okK_3, okZ_3⟩
  · subst h; exact ⟨okK_7, okZ_7⟩
  · subst h; exact ⟨okK_15, okZ_15⟩
  · subst h; exact ⟨okK_31, okZ_31⟩
  · subst h; exact ⟨okK_63, okZ_63⟩

theorem ltr_let (o x : Int) : ltrL o (x, 1) = letK (cntN o) x := rfl
theorem step_K {o : Int} (h5 : o ≤ 5) (out : List Int) (x : Int) : brStep o out x = stepK (cntN o) out x := by
  have := cntN_bd h5
  unfold brStep stepK
  rw [mulK_eq (by omega), mulK_eq (by omega), ltr_let]
theorem bkt_K {o : Int} (h5 : o ≤ 5) {i : Nat} (hi : i < cntN o) : bktL (wordL i) 1 (List.replicate (cntN o) 0) = bktK (cntN o) i := by
  have := cntN_bd h5
  unfold bktK
  rw [wordK_eq 5 i (by omega)]

theorem br_eq {o : Int} (h1 : 1 ≤ o) (h5 : o ≤ 5) (i : Nat) : 1 ≤ i → i < cntN o → brL o (wordL i) = bktK (cntN o) i := by
  have hK := (ok_all h1 h5).1
  have hcb := cntN_bd h5
  unfold okK at hK
  simp only [Bool.and_eq_true, beq_iff_eq, List.all_eq_true, List.mem_range] at hK
  obtain ⟨⟨e1, e2⟩, e3⟩ := hK
  induction i using Nat.strongRecOn with
  | ind i ih =>
    intro hi1 hi
    by_cases i1 : i = 1
    · subst i1
      rw [e1, ← ltr_let, wordK_eq 5 1 (by omega)]
      rfl
    · by_cases i2 : i = 2
      · subst i2
        rw [e2, ← ltr_let, wordK_eq 5 2 (by omega)]
        rfl
      · have h := e3 (i - 3) (by omega)
        rw [show i - 3 + 3 = i by omega, show i - 3 + 2 = i - 1 by omega] at h
        rw [h, wordL_pos (by omega), brL_snoc o (wordL_ne (by omega)), step_K h5, ih _ (by omega) (by omega) (by omega)]

theorem zip_k0 {out b : List Int} (h : ∀ x ∈ out, 0 ≤ x ∧ x < 1000000271) (hl : b.length = out.length) : zipF out b 0 = out := by
  apply List.ext_getElem?
  intro j
  by_cases hj : j < out.length
  · have h1 : out[j]? = some out[j] := List.getElem?_eq_getElem hj
    have h2 : b[j]? = some b[j] := List.getElem?_eq_getElem (by omega)
    rw [zip_at h1 h2, h1, timesF_zero, plusF_zero', resF_of (h _ (List.getElem_mem _)).1 (h _ (List.getElem_mem _)).2]
  · rw [List.getElem?_eq_none (by rw [zip_len rfl hl]; omega), List.getElem?_eq_none (by omega)]

/-- One summand of the reference is the program's. -/
theorem bkt_step {o : Int} (h1 : 1 ≤ o) (h5 : o ≤ 5) {i : Nat} (hi1 : 1 ≤ i) (hi : i < cntN o) {c : Int} (hc : 0 ≤ c ∧ c < 1000000271) {out : List Int} (hl : out.length = cntN o) (h : ∀ x ∈ out, 0 ≤ x ∧ x < 1000000271) :
    bktL (wordL i) c out = if c = 0 then out else zipF out (brL o (wordL i)) c := by
  rw [bktL_scale (wordL i) hc hl h, bkt_K h5 hi, ← br_eq h1 h5 i hi1 hi]
  split
  · rename_i h0
    subst h0
    exact zip_k0 h ((brL_len o (wordL_ne hi1)).trans hl.symm)
  · rfl
theorem out_sum {o : Int} (h5 : o ≤ 5) (xs : List Int) (hx : ∀ i, 0 ≤ xs.getD i 0 ∧ xs.getD i 0 < 1000000271) (s i : Nat) (hi1 : 1 ≤ i) (hi : i + s ≤ cntN o) (h1 : s = 0 ∨ 1 ≤ o) (out : List Int) (hl : out.length = cntN o) (h : ∀ x ∈ out, 0 ≤ x ∧ x < 1000000271) :
    outGo xs s i out = sumGo o xs s i out := by
  induction s generalizing i out with
  | zero => rfl
  | succ s ih =>
    have ho : 1 ≤ o := by omega
    rw [outGo, sumGo, bkt_step ho h5 hi1 (by omega) (hx i) hl h]
    split
    · exact ih _ (by omega) (by omega) (.inr ho) _ hl h
    · exact ih _ (by omega) (by omega) (.inr ho) _ (zip_len hl (brL_len o (wordL_ne hi1))) (zip_num _ _ _)
theorem sum_zero {o : Int} (h5 : o ≤ 5) (xs : List Int) (s i : Nat) (hi1 : 1 ≤ i) (hi : i + s ≤ cntN o) (h1 : s = 0 ∨ 1 ≤ o) (out : List Int) (h : out.getD 0 0 = 0) : (sumGo o xs s i out).getD 0 0 = 0 := by
  induction s generalizing i out with
  | zero => exact h
  | succ s ih =>
    have ho : 1 ≤ o := by omega
    rw [sumGo]
    refine ih _ (by omega) (by omega) (.inr ho) _ ?_
    split
    · exact h
    · have hZ := (ok_all ho h5).2
      unfold okZ at hZ
      simp only [beq_iff_eq, List.all_eq_true, List.mem_range] at hZ
      have hz := hZ (i - 1) (by omega)
      rw [show i - 1 + 1 = i by omega, ← br_eq ho h5 i hi1 (by omega)] at hz
      generalize brL o (wordL i) = b at hz
      rw [List.getD, zipF, List.getElem?_zipWith]
      cases h1 : out[0]? with
      | none => simp
      | some a =>
        cases h2 : b[0]? with
        | none => simp
        | some y =>
          have e1 : a = 0 := by rw [List.getD, h1] at h; exact h
          have e2 : y = 0 := by rw [List.getD, h2] at hz; exact hz
          subst e1
          subst e2
          simp [timesF_zero', plusF_zero, resF]

def lieS (o : Int) (xs : List Int) : Bool := if wordsOkF o xs = true ∧ xs.getD 0 0 = 0 then chkGo xs (outGo xs (cntN o - 1) 1 (List.replicate (cntN o) 0)) (cntN o - 1) 1 else false
theorem lie_eq (o : Int) (xs : List Int) : lieS o xs = lieF o xs := by
  unfold lieS lieF
  split
  · rename_i hok
    obtain ⟨⟨h0, h5⟩, hlen, hnum⟩ := wordsOk_facts hok.1
    have hcb := cntN_bd h5
    have hx : ∀ i, 0 ≤ xs.getD i 0 ∧ xs.getD i 0 < 1000000271 := by
      intro i
      rw [List.getD]
      cases h : xs[i]? with
      | none => simp
      | some a => exact hnum a (List.mem_of_getElem? h)
    have ho : cntN o - 1 = 0 ∨ 1 ≤ o := by
      rcases (show o = 0 ∨ 1 ≤ o by omega) with e | e
      · subst e; left; rfl
      · exact .inr e
    obtain ⟨m, hm⟩ : ∃ m, cntN o = m + 1 := ⟨cntN o - 1, by omega⟩
    have e1 : sumsL o xs = sumGo o xs (cntN o - 1) 1 (List.replicate (cntN o) 0) := by
      unfold sumsL
      rw [show sumGo o xs (cntN o) 0 = sumGo o xs (cntN o - 1 + 1) 0 by rw [show cntN o - 1 + 1 = cntN o by omega], sumGo, if_pos hok.2]
    have e2 : (sumsL o xs).getD 0 0 = 0 := by
      rw [e1]
      exact sum_zero h5 xs _ 1 (by omega) (by omega) ho _ (by rw [hm]; rfl)
    rw [out_sum h5 xs hx _ 1 (by omega) (by omega) ho _ (by simp) (zeros_num _), ← e1]
    rw [show chkGo xs (sumsL o xs) (cntN o) 0 = chkGo xs (sumsL o xs) (cntN o - 1 + 1) 0 by rw [show cntN o - 1 + 1 = cntN o by omega], chkGo, if_pos (by rw [e2, hok.2, timesF_zero'])]
  · rfl
end Go.Proofs.Ytodlfmagkjblgaa
