/- The program's lists of words as series. Plain law. -/
import Derived.Test.YtodlfmagkjblgaaAlg
import Derived.Test.YtodlfmagkjblgaaLieEq
import Derived.Test.YtodlfmagkjblgaaOrd
import Derived.Test.YtodlfmagkjblgaaLog
namespace Go.Proofs.Ytodlfmagkjblgaa
open Go.RowKit
set_option linter.unusedSimpArgs false
set_option linter.unusedVariables false
set_option maxRecDepth 20000
namespace Ser

def toF (k : Int) : Fp := ⟨(k % 1000000271).toNat, by omega⟩
def fI (a : Fp) : Int := (a.val : Int)
theorem fI_bd (a : Fp) : 0 ≤ fI a ∧ fI a < 1000000271 := by
  unfold fI
  have := a.isLt
  omega
theorem fI_toF (k : Int) : fI (toF k) = resF k := by
  unfold fI toF resF
  show (((k % 1000000271).toNat : Nat) : Int) = _
  omega
theorem toF_fI (a : Fp) : toF (fI a) = a := by
  apply Fin.ext
  unfold fI toF
  show ((a.val : Int) % 1000000271).toNat = a.val
  have := a.isLt
  omega
theorem fI_inj {a b : Fp} (h : fI a = fI b) : a = b := by rw [← toF_fI a, h, toF_fI]
theorem toF_of {x : Int} (h : 0 ≤ x ∧ x < 1000000271) : fI (toF x) = x := by rw [fI_toF]; exact resF_of h.1 h.2
theorem plus_fI (a b : Fp) : plusF (fI a) (fI b) = fI (a + b) := by
  unfold plusF fI
  rw [Fin.val_add]
  omega
theorem times_fI (a b : Fp) : timesF (fI a) (fI b) = fI (a * b) := by
  unfold timesF fI
  rw [Fin.val_mul, Int.natCast_emod, Int.natCast_mul]
  rfl
theorem times_k (a : Fp) (k : Int) : timesF (fI a) k = fI (a * toF k) := by rw [← times_fI, fI_toF, timesF_res_r]
theorem toF_neg1 : toF (-1) = -1 := by decide
theorem toF_1 : toF 1 = 1 := by decide
theorem toF_0 : toF 0 = 0 := by decide
theorem fI_0 : fI 0 = 0 := by decide
theorem fI_1 : fI 1 = 1 := by decide
theorem toF_neg (k : Int) : toF (minusF 0 k) = - toF k := by
  apply fI_inj
  rw [show (-toF k : Fp) = 0 - toF k by grind, fI_toF]
  unfold fI toF minusF resF
  rw [Fin.sub_def]
  show _ = (((1000000271 - (k % 1000000271).toNat + 0) % 1000000271 : Nat) : Int)
  omega

/-! ### Words and their places -/
def b2i (b : Bool) : Int := if b then 1 else 0
def i2b (x : Int) : Bool := decide (x = 1)
def wB (p : Nat) : List Bool := (wordL p).map i2b
theorem b2i_i2b {x : Int} (h : x = 0 ∨ x = 1) : b2i (i2b x) = x := by
  rcases h with rfl | rfl <;> rfl
theorem i2b_b2i (b : Bool) : i2b (b2i b) = b := by cases b <;> rfl
theorem wordL_B (p : Nat) : wordL p = (wB p).map b2i := by
  unfold wB
  rw [List.map_map]
  conv => lhs; rw [← List.map_id (wordL p)]
  apply List.map_congr_left
  intro x hx
  exact (b2i_i2b (wordL_bit p x hx)).symm
def b2n (b : Bool) : Nat := if b then 1 else 0
theorem b2n_i (b : Bool) : (b2n b : Int) = b2i b := by cases b <;> rfl
theorem b2n_le (b : Bool) : b2n b ≤ 1 := by cases b <;> decide
def plN : Nat → List Bool → Nat
  | st, [] => st
  | st, x :: w => plN (2 * st + 1 + b2n x) w
def plB (w : List Bool) : Nat := plN 0 w
theorem placeGo_B (st : Nat) (w : List Bool) : placeGo st (w.map b2i) = (plN st w : Int) := by
  induction w generalizing st with
  | nil => rfl
  | cons x w ih =>
    rw [List.map_cons, placeGo, plN, if_pos (by cases x <;> rfl), ← ih]
    congr 1
    have := b2n_i x
    omega
theorem placeF_B {w : List Bool} (h : w.length ≤ 5) : placeF (w.map b2i) = (plB w : Int) := by
  unfold placeF
  rw [if_neg (by rw [List.length_map]; omega)]
  exact placeGo_B 0 w
theorem plN_snoc (st : Nat) (w : List Bool) (x : Bool) : plN st (w ++ [x]) = 2 * plN st w + 1 + b2n x := by
  induction w generalizing st with
  | nil => rfl
  | cons y w ih => exact ih _
theorem plB_snoc (w : List Bool) (x : Bool) : plB (w ++ [x]) = 2 * plB w + 1 + b2n x := plN_snoc 0 w x
theorem wB_zero : wB 0 = [] := by unfold wB; rw [wordL_zero]; rfl
theorem wB_pl (w : List Bool) : wB (plB w) = w := by
  refine snoc_ind (p := fun w => wB (plB w) = w) wB_zero ?_ w
  intro r y ih
  rw [plB_snoc]
  have hb := b2n_le y
  unfold wB
  rw [wordL_pos (by omega), List.map_append, show (2 * plB r + 1 + b2n y - 1) / 2 = plB r by omega, show (2 * plB r + 1 + b2n y - 1) % 2 = b2n y by omega]
  have ih' : (wordL (plB r)).map i2b = r := ih
  rw [ih', List.map_cons, List.map_nil, b2n_i, i2b_b2i]
theorem pl_wB (p : Nat) : plB (wB p) = p := by
  induction p using Nat.strongRecOn with
  | ind p ih =>
    by_cases hp : p = 0
    · subst hp; rw [wB_zero]; rfl
    · have e : wB p = wB ((p - 1) / 2) ++ [i2b (((p - 1) % 2 : Nat) : Int)] := by
        unfold wB
        rw [wordL_pos (by omega), List.map_append]
        rfl
      rw [e, plB_snoc, ih _ (by omega)]
      have h : b2n (i2b (((p - 1) % 2 : Nat) : Int)) = (p - 1) % 2 := by
        rcases Nat.mod_two_eq_zero_or_one (p - 1) with h | h <;> rw [h] <;> rfl
      omega
theorem wB_len {o : Int} {i : Nat} (hi : i < cntN o) : (wB i).length ≤ o.toNat := by
  unfold wB
  rw [List.length_map]
  exact wordL_len i o.toNat (by unfold cntN at hi; omega)
theorem pl_lt {w : List Bool} {k : Nat} (h : w.length ≤ k) : plB w + 2 ≤ 2 ^ (k + 1) := by
  revert k
  refine snoc_ind (p := fun w => ∀ {k : Nat}, w.length ≤ k → plB w + 2 ≤ 2 ^ (k + 1)) ?_ ?_ w
  · intro k _
    have : 2 ^ 1 ≤ 2 ^ (k + 1) := Nat.pow_le_pow_right (by omega) (by omega)
    show 0 + 2 ≤ _
    omega
  · intro r y ih k hk
    rw [List.length_append] at hk
    simp only [List.length_cons, List.length_nil] at hk
    have h1 := ih (k := k - 1) (by omega)
    have h2 := b2n_le y
    rw [plB_snoc]
    rw [show k - 1 + 1 = k by omega] at h1
    rw [Nat.pow_succ]
    omega
theorem pl_cnt {o : Int} {w : List Bool} (h : w.length ≤ o.toNat) : plB w < cntN o := by
  have := pl_lt h
  unfold cntN
  omega

/-! ### A list of a series -/
def rep (n : Nat) (f : Ser) : List Int := (List.range n).map fun i => fI (f (wB i))
def ser (xs : List Int) : Ser := fun w => toF (xs.getD (plB w) 0)
theorem rep_len (n : Nat) (f : Ser) : (rep n f).length = n := by simp [rep]
theorem rep_at {n i : Nat} (f : Ser) (hi : i < n) : (rep n f)[i]? = some (fI (f (wB i))) := by simp [rep, hi]
theorem rep_get {n i : Nat} (f : Ser) (hi : i < n) : (rep n f).getD i 0 = fI (f (wB i)) := by rw [List.getD, rep_at f hi]; rfl
theorem rep_pl {o : Int} {w : List Bool} (f : Ser) (h : w.length ≤ o.toNat) : (rep (cntN o) f).getD (plB w) 0 = fI (f w) := by rw [rep_get f (pl_cnt h), wB_pl]
theorem rep_num (n : Nat) (f : Ser) : ∀ x ∈ rep n f, 0 ≤ x ∧ x < 1000000271 := by
  intro x hx
  simp only [rep, List.mem_map] at hx
  obtain ⟨i, _, rfl⟩ := hx
  exact fI_bd _
theorem rep_ext {xs : List Int} {n : Nat} {f : Ser} (hl : xs.length = n) (h : ∀ i x, i < n → xs[i]? = some x → x = fI (f (wB i))) : xs = rep n f := by
  apply List.ext_getElem?
  intro i
  by_cases hi : i < n
  · have e : xs[i]? = some xs[i] := List.getElem?_eq_getElem (by omega)
    rw [e, rep_at f hi, h i _ hi e]
  · rw [List.getElem?_eq_none (by omega), List.getElem?_eq_none (by rw [rep_len]; omega)]
theorem rep_congr {o : Int} {f g : Ser} (h : Eq o.toNat f g) : rep (cntN o) f = rep (cntN o) g := by
  refine rep_ext (rep_len _ _) ?_
  intro i x hi hx
  rw [rep_at f hi] at hx
  injection hx with hx
  rw [← hx, h _ (wB_len hi)]
theorem rep_inj {o : Int} {f g : Ser} (h : rep (cntN o) f = rep (cntN o) g) : Eq o.toNat f g := by
  intro w hw
  have h1 := rep_pl f hw
  rw [h, rep_pl g hw] at h1
  exact (fI_inj h1).symm
theorem rep_ser {xs : List Int} {n : Nat} (hl : xs.length = n) (hn : ∀ x ∈ xs, 0 ≤ x ∧ x < 1000000271) : rep n (ser xs) = xs := by
  refine (rep_ext hl ?_).symm
  intro i x hi hx
  unfold ser
  rw [pl_wB, List.getD, hx]
  exact (toF_of (hn x (List.mem_of_getElem? hx))).symm

/-! ### What the program does to lists -/
def sh (u : List Bool) (f : Ser) : Ser := fun v => f (u ++ v)
theorem der_sh (u : List Bool) (x : Bool) (f : Ser) : der x (sh u f) = sh (u ++ [x]) f := ext fun w => by
  show f (u ++ x :: w) = f (u ++ [x] ++ w)
  rw [List.append_assoc]; rfl
theorem take_map (u d : List Bool) : ((u ++ d).map b2i).take u.length = u.map b2i := by
  rw [List.map_append]
  exact List.take_left' (by simp)
theorem drop_map (u d : List Bool) : ((u ++ d).map b2i).drop u.length = d.map b2i := by
  rw [List.map_append]
  exact List.drop_left' (by simp)
theorem mulGo_rep {o : Int} (h5 : o ≤ 5) (f g : Ser) (u d : List Bool) (hl : (u ++ d).length ≤ o.toNat) (acc : Fp) :
    mulGo (rep (cntN o) f) (rep (cntN o) g) ((u ++ d).map b2i) (d.length + 1) u.length (fI acc) = fI (acc + (sh u f * g) d) := by
  have hlen : u.length + d.length ≤ o.toNat := by rwa [List.length_append] at hl
  have step : plusF (fI acc) (timesF ((rep (cntN o) f).getD (placeF (((u ++ d).map b2i).take u.length)).toNat 0) ((rep (cntN o) g).getD (placeF (((u ++ d).map b2i).drop u.length)).toNat 0)) = fI (acc + f u * g d) := by
    rw [take_map, drop_map, placeF_B (by omega), placeF_B (by omega), Int.toNat_natCast, Int.toNat_natCast, rep_pl f (by omega), rep_pl g (by omega), times_fI, plus_fI]
  have hs : sh u f [] = f u := by unfold sh; rw [List.append_nil]
  induction d generalizing u acc with
  | nil =>
    rw [List.length_nil, mulGo, mulGo, step, mul_nil, hs]
  | cons x d ih =>
    rw [List.length_cons, mulGo, step, mul_cons, hs, der_sh]
    have hl' : (u ++ [x] ++ d).length ≤ o.toNat := by rw [List.append_assoc]; exact hl
    have hlen' : (u ++ [x]).length + d.length ≤ o.toNat := by rwa [List.length_append] at hl'
    have h := ih (u ++ [x]) hl' (acc + f u * g (x :: d)) hlen' (by
      rw [take_map, drop_map, placeF_B (by omega), placeF_B (by omega), Int.toNat_natCast, Int.toNat_natCast, rep_pl f (by omega), rep_pl g (by omega), times_fI, plus_fI]) (by unfold sh; rw [List.append_nil])
    rw [List.append_assoc, List.length_append] at h
    rw [show u ++ x :: d = u ++ ([x] ++ d) from rfl, show u.length + 1 = u.length + [x].length from rfl, h]
    congr 1
    grind
theorem rep_mul {o : Int} (h5 : o ≤ 5) (f g : Ser) : mulL (cntN o) (rep (cntN o) f) (rep (cntN o) g) = rep (cntN o) (f * g) := by
  refine rep_ext (mulL_len _ _ _) ?_
  intro i x hi hx
  rw [mulL_at _ _ hi] at hx
  injection hx with hx
  rw [← hx]
  unfold mulAt
  rw [wordL_B]
  have h := mulGo_rep h5 f g [] (wB i) (wB_len hi) 0
  rw [fI_0, List.nil_append] at h
  rw [List.length_map]
  refine h.trans ?_
  congr 1
  show 0 + (f * g) (wB i) = _
  grind
theorem rep_zip (n : Nat) (f g : Ser) (k : Int) : zipF (rep n f) (rep n g) k = rep n (f + sm (toF k) g) := by
  refine rep_ext (zip_len (rep_len _ _) (rep_len _ _)) ?_
  intro i x hi hx
  rw [zip_at (rep_at f hi) (rep_at g hi)] at hx
  injection hx with hx
  rw [← hx, times_k, plus_fI, add_at, sm_at]
  congr 1
  grind
theorem rep_scale (n : Nat) (f : Ser) (k : Int) : (rep n f).map (fun x => timesF x k) = rep n (sm (toF k) f) := by
  refine rep_ext (by rw [List.length_map, rep_len]) ?_
  intro i x hi hx
  rw [List.getElem?_map, rep_at f hi] at hx
  injection hx with hx
  rw [← hx, sm_at]
  show timesF (fI (f (wB i))) k = _
  rw [times_k]
  congr 1
  grind
theorem rep_zero (n : Nat) : List.replicate n (0 : Int) = rep n zero := by
  refine rep_ext (by simp) ?_
  intro i x hi hx
  simp [hi] at hx
  rw [← hx]; rfl
theorem one_ne {w : List Bool} (h : w ≠ []) : one w = 0 := by
  cases w with
  | nil => exact absurd rfl h
  | cons x w => rfl
theorem wB_ne {i : Nat} (h : i ≠ 0) : wB i ≠ [] := by
  intro e
  apply h
  rw [← pl_wB i, e]; rfl
theorem rep_unit (n : Nat) : unitL n = rep n one := by
  refine rep_ext (by simp [unitL]) ?_
  intro i x hi hx
  unfold unitL at hx
  by_cases h0 : i = 0
  · subst h0
    rw [List.getElem?_set_self (by simpa using hi)] at hx
    injection hx with hx
    rw [← hx, wB_zero, one_nil, fI_1]
  · rw [List.getElem?_set_ne (by omega)] at hx
    simp [hi] at hx
    rw [← hx, one_ne (wB_ne h0), fI_0]
theorem ltr_eq (b : Bool) (w : List Bool) : ltr b w = if w = [b] then 1 else 0 := by
  match w with
  | [] => rfl
  | [y] =>
    show (if b = y then (1 : Fp) else 0) = _
    by_cases h : b = y
    · rw [if_pos h, if_pos (by rw [h])]
    · rw [if_neg h, if_neg (by intro e; injection e with e; exact h e.symm)]
  | _ :: _ :: _ =>
    show (0 : Fp) = _
    rw [if_neg (by simp)]
theorem rep_ltr (o : Int) {x : Int} (hx : x = 0 ∨ x = 1) (c : Int) : ltrL o (x, c) = rep (cntN o) (sm (toF c) (ltr (i2b x))) := by
  refine rep_ext (ltrL_len _ _) ?_
  intro i y hi hy
  unfold ltrL at hy
  have hp : plB [i2b x] = 1 + x.toNat := by rcases hx with rfl | rfl <;> rfl
  rw [sm_at, ltr_eq]
  by_cases h0 : 1 + x.toNat = i
  · have e : wB i = [i2b x] := by rw [← h0, ← hp, wB_pl]
    rw [← h0, List.getElem?_set_self (by simp; omega)] at hy
    injection hy with hy
    rw [if_pos e, ← hy, ← fI_toF]
    congr 1
    show toF c = _
    grind
  · have e : wB i ≠ [i2b x] := by
      intro e
      apply h0
      rw [← hp, ← e, pl_wB]
    rw [List.getElem?_set_ne h0] at hy
    simp [hi] at hy
    rw [if_neg e, ← hy, show toF c * 0 = (0 : Fp) by grind, fI_0]

/-! ### Powers, fast -/
def fpow : Nat → Nat → Nat → Nat → Nat
  | 0, o, _, _ => o
  | f + 1, o, x, k => if k = 0 then o else if k % 2 = 1 then fpow f (o * x % 1000000271) (x * x % 1000000271) (k / 2) else fpow f o (x * x % 1000000271) (k / 2)
theorem fpow_eq (f : Nat) {o x k : Nat} (hk : k < 2 ^ f) (ho : o < 1000000271) : o * x ^ k % 1000000271 = fpow f o x k := by
  induction f generalizing o x k with
  | zero =>
    obtain rfl : k = 0 := by simp at hk; omega
    rw [fpow, Nat.pow_zero, Nat.mul_one]
    exact Nat.mod_eq_of_lt ho
  | succ f ih =>
    rw [fpow]
    rw [Nat.pow_succ] at hk
    by_cases h0 : k = 0
    · subst h0
      rw [if_pos rfl, Nat.pow_zero, Nat.mul_one]
      exact Nat.mod_eq_of_lt ho
    · rw [if_neg h0]
      by_cases h1 : k % 2 = 1
      · rw [if_pos h1, ← ih (by omega) (Nat.mod_lt _ (by omega))]
        have e : k = 2 * (k / 2) + 1 := by omega
        rw [Nat.mul_mod (o * x % 1000000271), Nat.mod_mod, ← Nat.pow_mod, ← Nat.mul_mod]
        conv => lhs; rw [e]
        congr 1
        rw [Nat.pow_succ, Nat.pow_mul, Nat.pow_two, Nat.mul_assoc, Nat.mul_comm x ((x * x) ^ (k / 2))]
      · rw [if_neg h1, ← ih (by omega) ho]
        have e : k = 2 * (k / 2) := by omega
        rw [Nat.mul_mod o ((x * x % 1000000271) ^ _), ← Nat.pow_mod, ← Nat.mul_mod]
        conv => lhs; rw [e]
        rw [Nat.pow_mul, Nat.pow_two]
theorem pow_fast (a k : Nat) (hk : k < 2 ^ 31) : powF (a : Int) (k : Int) = ((fpow 31 1 a k : Nat) : Int) := by
  rw [← fpow_eq 31 hk (by omega), Nat.one_mul]
  unfold powF
  rw [if_neg (by omega), Int.toNat_natCast, Int.natCast_emod, Int.natCast_pow]
  rfl
theorem inv_fast (a : Nat) : invF (a : Int) = ((fpow 31 1 a 1000000269 : Nat) : Int) := pow_fast a 1000000269 (by omega)
theorem invs : invF 1 = 1 ∧ invF 2 = 500000136 ∧ invF 3 = 333333424 ∧ invF 4 = 250000068 ∧ invF 5 = 800000217 ∧ invF 6 = 166666712 ∧ invF 24 = 41666678 ∧ invF 120 = 408333444 :=
  ⟨(inv_fast 1).trans (by decide +kernel), (inv_fast 2).trans (by decide +kernel), (inv_fast 3).trans (by decide +kernel), (inv_fast 4).trans (by decide +kernel), (inv_fast 5).trans (by decide +kernel), (inv_fast 6).trans (by decide +kernel), (inv_fast 24).trans (by decide +kernel), (inv_fast 120).trans (by decide +kernel)⟩

/-! ### Exponentials and logarithms of lists -/
def expCs : Nat → Nat → List Fp
  | 0, _ => []
  | s + 1, j => toF (invF (factN j)) :: expCs s (j + 1)
theorem expGo_rep {o : Int} (h5 : o ≤ 5) (a : Ser) (s j : Nat) (out pw : Ser) :
    expGo (cntN o) (rep (cntN o) a) s j (rep (cntN o) out) (rep (cntN o) pw) = rep (cntN o) (out + pw * (a * pol a (expCs s j))) := by
  induction s generalizing j out pw with
  | zero => rw [expGo, expCs, pol, mul_zero, mul_zero, add_zero]
  | succ s ih =>
    rw [expGo, rep_mul h5, rep_zip, ih, expCs, pol]
    congr 1
    simp only [mul_add, mul_sm, mul_one, mul_assoc, add_assoc]
theorem exp_cs {o : Int} (h0 : 0 ≤ o) (h5 : o ≤ 5) : 1 :: expCs o.toNat 1 = expC.take (o.toNat + 1) := by
  obtain ⟨i1, i2, i3, i4, i5, i6, i24, i120⟩ := invs
  have e1 : invF ((factN 1 : Nat) : Int) = 1 := i1
  have e2 : invF ((factN 2 : Nat) : Int) = 500000136 := i2
  have e3 : invF ((factN 3 : Nat) : Int) = 166666712 := i6
  have e4 : invF ((factN 4 : Nat) : Int) = 41666678 := i24
  have e5 : invF ((factN 5 : Nat) : Int) = 408333444 := i120
  obtain h | h | h | h | h | h : o = 0 ∨ o = 1 ∨ o = 2 ∨ o = 3 ∨ o = 4 ∨ o = 5 := by omega
  all_goals
    subst h
    simp only [show (0 : Int).toNat = 0 from rfl, show (1 : Int).toNat = 1 from rfl, show (2 : Int).toNat = 2 from rfl, show (3 : Int).toNat = 3 from rfl, show (4 : Int).toNat = 4 from rfl, show (5 : Int).toNat = 5 from rfl, expCs, e1, e2, e3, e4, e5]
    decide
theorem rep_exp {o : Int} (h0 : 0 ≤ o) (h5 : o ≤ 5) {a : Ser} (ha : a [] = 0) : expL o (rep (cntN o) a) = rep (cntN o) (expS a) := by
  unfold expL
  rw [rep_unit, expGo_rep h5]
  apply rep_congr
  refine Eq.trans ?_ (pol_take ha o.toNat expC).symm
  rw [← exp_cs h0 h5, pol, one_mul, one_sm]
  exact Eq.refl _ _
def logCs : Nat → Nat → List Fp
  | 0, _ => []
  | s + 1, j => toF (fracF (sgnN j) j) :: logCs s (j + 1)
theorem logGo_rep {o : Int} (h5 : o ≤ 5) (a : Ser) (s j : Nat) (out pw : Ser) :
    logGo (cntN o) (rep (cntN o) a) s j (rep (cntN o) out) (rep (cntN o) pw) = rep (cntN o) (out + pw * (a * pol a (logCs s j))) := by
  induction s generalizing j out pw with
  | zero => rw [logGo, logCs, pol, mul_zero, mul_zero, add_zero]
  | succ s ih =>
    rw [logGo, rep_mul h5, rep_zip, ih, logCs, pol]
    congr 1
    simp only [mul_add, mul_sm, mul_one, mul_assoc, add_assoc]
theorem log_cs {o : Int} (h0 : 0 ≤ o) (h5 : o ≤ 5) : 0 :: logCs o.toNat 1 = logC.take (o.toNat + 1) := by
  obtain ⟨i1, i2, i3, i4, i5, i6, i24, i120⟩ := invs
  have e1 : fracF (sgnN 1) ((1 : Nat) : Int) = 1 := by show timesF 1 (invF 1) = _; rw [i1]; decide
  have e2 : fracF (sgnN 2) ((2 : Nat) : Int) = 500000135 := by show timesF (-1) (invF 2) = _; rw [i2]; decide
  have e3 : fracF (sgnN 3) ((3 : Nat) : Int) = 333333424 := by show timesF 1 (invF 3) = _; rw [i3]; decide
  have e4 : fracF (sgnN 4) ((4 : Nat) : Int) = 750000203 := by show timesF (-1) (invF 4) = _; rw [i4]; decide
  have e5 : fracF (sgnN 5) ((5 : Nat) : Int) = 800000217 := by show timesF 1 (invF 5) = _; rw [i5]; decide
  obtain h | h | h | h | h | h : o = 0 ∨ o = 1 ∨ o = 2 ∨ o = 3 ∨ o = 4 ∨ o = 5 := by omega
  all_goals
    subst h
    simp only [show (0 : Int).toNat = 0 from rfl, show (1 : Int).toNat = 1 from rfl, show (2 : Int).toNat = 2 from rfl, show (3 : Int).toNat = 3 from rfl, show (4 : Int).toNat = 4 from rfl, show (5 : Int).toNat = 5 from rfl, logCs, e1, e2, e3, e4, e5]
    decide
theorem rep_log {o : Int} (h0 : 0 ≤ o) (h5 : o ≤ 5) {a : Ser} (ha : a [] = 1) : logL o (rep (cntN o) a) = rep (cntN o) (logS a) := by
  have hr : (a - one) [] = 0 := by rw [sub_at, ha, one_nil]; grind
  unfold logL restL
  rw [rep_unit, rep_zip, toF_neg1, ← sub_eq, rep_zero, logGo_rep h5]
  apply rep_congr
  refine Eq.trans ?_ (pol_take hr o.toNat logC).symm
  rw [← log_cs h0 h5, pol, one_mul, zero_sm]
  exact Eq.refl _ _
theorem rep_sch {o : Int} (h1 : 1 ≤ o) (h5 : o ≤ 5) (ms : List (Int × Int)) (hm : ∀ m ∈ ms, m.1 = 0 ∨ m.1 = 1) (s : Ser) :
    schGo o ms (rep (cntN o) s) = rep (cntN o) (s * sch (ms.map fun m => (i2b m.1, toF m.2))) := by
  induction ms generalizing s with
  | nil => rw [schGo, List.map_nil, sch, mul_one]
  | cons m r ih =>
    rw [schGo, show ltrL o m = ltrL o (m.1, m.2) from rfl, rep_ltr o (hm m (by simp)), rep_exp (by omega) h5 (ltr0 _ _), rep_mul h5, ih (fun x hx => hm x (by simp [hx])), List.map_cons, sch, flow, mul_assoc]
end Ser
end Go.Proofs.Ytodlfmagkjblgaa
