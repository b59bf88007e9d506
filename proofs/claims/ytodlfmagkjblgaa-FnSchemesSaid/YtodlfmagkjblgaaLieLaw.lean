/- Brackets of letters: the program's products against the reference's sum over masks. Plain law. -/
import Derived.Test.YtodlfmagkjblgaaSch
namespace Go.Proofs.Ytodlfmagkjblgaa
open Go.RowKit
set_option linter.unusedSimpArgs false
set_option linter.unusedVariables false
set_option maxRecDepth 20000

/-- One bracket with a letter, from the right. -/
def brStep (o : Int) (out : List Int) (x : Int) : List Int := zipF (mulL (cntN o) out (ltrL o (x, 1))) (mulL (cntN o) (ltrL o (x, 1)) out) (-1)
def brGo (o : Int) : List Int → List Int → List Int
  | [], out => out
  | x :: r, out => brGo o r (brStep o out x)
def brL (o : Int) : List Int → List Int
  | [] => []
  | x :: r => brGo o r (ltrL o (x, 1))
def sumGo (o : Int) (xs : List Int) : Nat → Nat → List Int → List Int
  | 0, _, out => out
  | s + 1, i, out => sumGo o xs s (i + 1) (if xs.getD i 0 = 0 then out else zipF out (brL o (wordL i)) (xs.getD i 0))
def chkGo (xs ss : List Int) : Nat → Nat → Bool
  | 0, _ => true
  | s + 1, i => if ss.getD i 0 = timesF (xs.getD i 0) ((wordL i).length : Int) then chkGo xs ss s (i + 1) else false
def sumsL (o : Int) (xs : List Int) : List Int := sumGo o xs (cntN o) 0 (List.replicate (cntN o) 0)
def lieF (o : Int) (xs : List Int) : Bool := if wordsOkF o xs = true ∧ xs.getD 0 0 = 0 then chkGo xs (sumsL o xs) (cntN o) 0 else false

/-- The reference's sum over masks. -/
def mskGo : Nat → List Int → List Int → Int → List Int × Int
  | _, [], w, x => (w, x)
  | m, y :: r, w, x => if m % 2 = 0 then mskGo (m / 2) r (w ++ [y]) x else mskGo (m / 2) r (y :: w) (minusF 0 x)
def addAt (out : List Int) (p : Nat) (x : Int) : List Int := out.set p (plusF (out.getD p 0) x)
def bktGo (word : List Int) (c : Int) : Nat → Nat → List Int → List Int
  | 0, _, out => out
  | s + 1, m, out => bktGo word c s (m + 1) (addAt out (placeF (mskGo m word.tail (word.take 1) c).1).toNat (mskGo m word.tail (word.take 1) c).2)
def bktL (word : List Int) (c : Int) (out : List Int) : List Int := bktGo word c (2 ^ (word.length - 1)) 0 out
def outGo (xs : List Int) : Nat → Nat → List Int → List Int
  | 0, _, out => out
  | s + 1, i, out => outGo xs s (i + 1) (bktL (wordL i) (xs.getD i 0) out)

theorem brGo_snoc (o : Int) (r : List Int) (x : Int) (out : List Int) : brGo o (r ++ [x]) out = brStep o (brGo o r out) x := by
  induction r generalizing out with
  | nil => rfl
  | cons y r ih => exact ih _
theorem brL_snoc (o : Int) {w : List Int} (hw : w ≠ []) (x : Int) : brL o (w ++ [x]) = brStep o (brL o w) x := by
  cases w with
  | nil => exact absurd rfl hw
  | cons y r => exact brGo_snoc o r x _

theorem minus_scale (x c : Int) : minusF 0 (timesF x c) = timesF (minusF 0 x) c := by
  have e1 : timesF (minusF 0 x) c = ((0 - x) * c) % 1000000271 := timesF_emod_l _ _
  rw [e1, Int.sub_mul, Int.zero_mul]
  unfold minusF timesF
  generalize x * c = t
  omega
theorem mskGo_scale (c : Int) (m : Nat) (r w : List Int) (x : Int) : mskGo m r w (timesF x c) = ((mskGo m r w x).1, timesF (mskGo m r w x).2 c) := by
  induction r generalizing m w x with
  | nil => rfl
  | cons y r ih =>
    rw [mskGo, mskGo]
    split
    · exact ih _ _ _
    · rw [minus_scale]
      exact ih _ _ _
theorem add_scale (a b x c : Int) : plusF (plusF a (timesF b c)) (timesF x c) = plusF a (timesF (plusF b x) c) := by
  have e1 : timesF (plusF b x) c = ((b + x) * c) % 1000000271 := timesF_emod_l _ _
  rw [e1, Int.add_mul]
  unfold plusF timesF
  generalize b * c = u
  generalize x * c = v
  omega
theorem addAt_len (out : List Int) (p : Nat) (x : Int) : (addAt out p x).length = out.length := by simp [addAt]
theorem addAt_scale {out z : List Int} (hl : z.length = out.length) (p : Nat) (x c : Int) : addAt (zipF out z c) p (timesF x c) = zipF out (addAt z p x) c := by
  have hz : (zipF out z c).length = out.length := zip_len rfl hl
  unfold addAt
  by_cases hp : p < out.length
  · have ho : out[p]? = some out[p] := List.getElem?_eq_getElem hp
    have hzp : z[p]? = some z[p] := List.getElem?_eq_getElem (by omega)
    have h1 := zip_at (k := c) ho hzp
    apply List.ext_getElem?
    intro j
    by_cases hj : p = j
    · subst hj
      rw [List.getElem?_set_self (by omega)]
      have h2 : (z.set p (plusF (z.getD p 0) x))[p]? = some (plusF (z.getD p 0) x) := List.getElem?_set_self (by omega)
      rw [zip_at ho h2]
      simp only [List.getD, h1, hzp, Option.getD_some]
      rw [add_scale]
    · rw [List.getElem?_set_ne hj]
      unfold zipF
      rw [List.getElem?_zipWith, List.getElem?_zipWith, List.getElem?_set_ne hj]
  · rw [List.set_eq_of_length_le (by omega), List.set_eq_of_length_le (by omega)]
theorem bktGo_scale (word : List Int) {c : Int} (hc : 0 ≤ c ∧ c < 1000000271) (s m : Nat) {out z : List Int} (hl : z.length = out.length) : bktGo word c s m (zipF out z c) = zipF out (bktGo word 1 s m z) c := by
  induction s generalizing m z with
  | zero => rfl
  | succ s ih =>
    rw [bktGo, bktGo]
    have h1 := mskGo_scale c m word.tail (word.take 1) 1
    rw [show timesF 1 c = c by rw [timesF_one', resF_of hc.1 hc.2]] at h1
    rw [h1]
    simp only
    rw [addAt_scale hl]
    exact ih _ (by rw [addAt_len]; exact hl)
theorem zip_none {out : List Int} (h : ∀ x ∈ out, 0 ≤ x ∧ x < 1000000271) {n : Nat} (hl : out.length = n) (c : Int) : zipF out (List.replicate n 0) c = out := by
  apply List.ext_getElem?
  intro j
  by_cases hj : j < n
  · have h1 : out[j]? = some out[j] := List.getElem?_eq_getElem (by omega)
    have h2 : (List.replicate n (0 : Int))[j]? = some 0 := by simp [hj]
    rw [zip_at h1 h2, h1, timesF_zero', plusF_zero', resF_of (h _ (List.getElem_mem _)).1 (h _ (List.getElem_mem _)).2]
  · rw [List.getElem?_eq_none (by rw [zip_len hl (by simp)]; omega), List.getElem?_eq_none (by omega)]
theorem bktL_scale (word : List Int) {c : Int} (hc : 0 ≤ c ∧ c < 1000000271) {out : List Int} {n : Nat} (hl : out.length = n) (h : ∀ x ∈ out, 0 ≤ x ∧ x < 1000000271) : bktL word c out = zipF out (bktL word 1 (List.replicate n 0)) c := by
  unfold bktL
  rw [← bktGo_scale word hc _ _ (by simp [hl]), zip_none h hl]

/-! ### The two agree at each word -/
def wordK : Nat → Nat → List Int
  | 0, _ => []
  | f + 1, p => if p = 0 then [] else wordK f ((p - 1) / 2) ++ [(((p - 1) % 2 : Nat) : Int)]
theorem wordK_eq (k p : Nat) (h : p + 2 ≤ 2 ^ (k + 1)) : wordL p = wordK k p := by
  induction k generalizing p with
  | zero =>
    obtain rfl : p = 0 := by simp at h; omega
    rw [wordL_zero]; rfl
  | succ k ih =>
    rw [wordK]
    by_cases hp : p = 0
    · subst hp; rw [wordL_zero]; rfl
    · rw [if_neg hp, wordL_pos (by omega), ih _ (by rw [Nat.pow_succ] at h; omega)]
def mulK (n : Nat) (xs ys : List Int) : List Int := (List.range n).map fun i => mulGo xs ys (wordK 5 i) ((wordK 5 i).length + 1) 0 0
theorem mulK_eq {n : Nat} (hn : n ≤ 63) (xs ys : List Int) : mulL n xs ys = mulK n xs ys := by
  unfold mulL mulK mulAt
  apply List.map_congr_left
  intro i hi
  rw [wordK_eq 5 i (by have := List.mem_range.1 hi; omega)]
def letK (n : Nat) (x : Int) : List Int := (List.replicate n 0).set (1 + x.toNat) 1
def stepK (n : Nat) (out : List Int) (x : Int) : List Int := zipF (mulK n out (letK n x)) (mulK n (letK n x) out) (-1)
def bktK (n i : Nat) : List Int := bktL (wordK 5 i) 1 (List.replicate n 0)
def okK (n : Nat) : Bool := (bktK n 1 == letK n 0) && (bktK n 2 == letK n 1) && (List.range (n - 3)).all fun j => bktK n (j + 3) == stepK n (bktK n ((j + 2) / 2)) (((j + 2) % 2 : Nat) : Int)
set_option maxRecDepth 100000 in
theorem okK_3 : okK 3 = true := by decide +kernel
set_option maxRecDepth 100000 in
theorem okK_7 : okK 7 = true := by decide +kernel
set_option maxRecDepth 100000 in
theorem okK_15 : okK 15 = true := by decide +kernel
set_option maxRecDepth 100000 in
theorem okK_31 : okK 31 = true := by decide +kernel
set_option maxRecDepth 100000 in
theorem okK_63 : okK 63 = true := by decide +kernel
end Go.Proofs.Ytodlfmagkjblgaa
