/- Derivatives of polynomials: the program's walk. -/
import Derived.Test.YtkaepjigmcielaaGreatDoorMzG
import Derived.Test.YtkaepjigmcielaaGreatDoorMzB
import Derived.Test.YtkaepjigmcielaaGreatDoorMzF
import Derived.Lib.SliceRun
import Derived.Test.YtkaepjigmcielaaGreatDoorMzE
namespace Go.Proofs.YtkaepjigmcielaaGreatDoor
open Go.RowKit
set_option linter.unusedSimpArgs false
set_option linter.unusedVariables false
set_option maxRecDepth 20000

end Go.Proofs.YtkaepjigmcielaaGreatDoor
/- A row of monomials put in order by exchanges of neighbours. -/
namespace Go.Proofs.YtkaepjigmcielaaGreatDoor
open Go.RowKit
set_option linter.unusedSimpArgs false
set_option linter.unusedVariables false
set_option maxRecDepth 20000

end Go.Proofs.YtkaepjigmcielaaGreatDoor
/- A row of monomials put in order: turning a part of it, merging two parts. -/
namespace Go.Proofs.YtkaepjigmcielaaGreatDoor
open Go.RowKit
set_option linter.unusedSimpArgs false
set_option linter.unusedVariables false
set_option maxRecDepth 20000

end Go.Proofs.YtkaepjigmcielaaGreatDoor
/- A row of monomials put in order: merging two parts. -/
namespace Go.Proofs.YtkaepjigmcielaaGreatDoor
open Go.RowKit
set_option linter.unusedSimpArgs false
set_option linter.unusedVariables false
set_option maxRecDepth 20000

end Go.Proofs.YtkaepjigmcielaaGreatDoor
/- A row of monomials put in order: the library's stable sort by the closure that compares two of them exchanges them. -/
namespace Go.Proofs.YtkaepjigmcielaaGreatDoor
open Go.RowKit
set_option linter.unusedSimpArgs false
set_option linter.unusedVariables false
set_option maxRecDepth 20000

end Go.Proofs.YtkaepjigmcielaaGreatDoor
/- Rows of monomials with those left out whose number is 0: the library's walk by the program's closure. -/
namespace Go.Proofs.YtkaepjigmcielaaGreatDoor
open Go.RowKit
set_option linter.unusedSimpArgs false
set_option linter.unusedVariables false
set_option maxRecDepth 20000

def nz (e : El) : Bool := !decide (e.x = 0)
end Go.Proofs.YtkaepjigmcielaaGreatDoor
/- Rows of monomials with those left out whose number is 0: the library's DeleteFunc. -/
namespace Go.Proofs.YtkaepjigmcielaaGreatDoor
open Go.RowKit
set_option linter.unusedSimpArgs false
set_option linter.unusedVariables false
set_option maxRecDepth 20000

end Go.Proofs.YtkaepjigmcielaaGreatDoor
/- Polynomials put in order, with equal powers added up: the program's walk of collect. -/
namespace Go.Proofs.YtkaepjigmcielaaGreatDoor
open Go.RowKit
set_option linter.unusedSimpArgs false
set_option linter.unusedVariables false
set_option maxRecDepth 20000

/-- the sum of a polynomial's numbers, each times what a function makes of its powers -/
def sumM (φ : List Int → Int) : List Mono → Int
  | [] => 0
  | m :: r => m.1 * φ m.2 + sumM φ r
theorem sumM_app (φ : List Int → Int) (p q : List Mono) : sumM φ (p ++ q) = sumM φ p + sumM φ q := by
  induction p with
  | nil => simp [sumM]
  | cons a r ih => rw [List.cons_append, sumM, sumM, ih]; omega
theorem sumM_perm (φ : List Int → Int) {p q : List Mono} (h : p.Perm q) : sumM φ p = sumM φ q := by
  induction h with
  | nil => rfl
  | cons a _ ih => rw [sumM, sumM, ih]
  | swap a b l => simp only [sumM]; omega
  | trans _ _ ih1 ih2 => rw [ih1, ih2]
/-- r is p, some of its monomials with equal powers added up -/
structure ColP (p r : List Mono) : Prop where
  len : r.length ≤ p.length
  num : ∀ m ∈ r, 0 ≤ m.1 ∧ m.1 < 1000000271
  src : ∀ m ∈ r, ∃ m' ∈ p, m'.2 = m.2
  sum : ∀ φ, sumM φ r % 1000000271 = sumM φ p % 1000000271
theorem ColP.perm {p p' r : List Mono} (h : ColP p r) (hp : p.Perm p') : ColP p' r :=
  ⟨by rw [← hp.length_eq]; exact h.len, h.num, fun m hm => by
    obtain ⟨m', h1, h2⟩ := h.src m hm
    exact ⟨m', hp.mem_iff.1 h1, h2⟩, fun φ => by rw [h.sum, sumM_perm φ hp]⟩

/-- what has been collected of the elements ps -/
structure ColE (ps es : List El) : Prop where
  num : ∀ e ∈ es, (0 ≤ e.x ∧ e.x < 1000000271) ∧ ∃ e' ∈ ps, e.B = e'.B ∧ e.m = e'.m ∧ e.d = e'.d ∧ e.xs = e'.xs
  sum : ∀ φ, sumM φ (es.map El.mono) % 1000000271 = sumM φ (ps.map El.mono) % 1000000271
theorem ColE.nil : ColE [] [] := ⟨by simp, fun _ => rfl⟩
theorem ColE.push {ps es : List El} (h : ColE ps es) {e : El} (he : 0 ≤ e.x ∧ e.x < 1000000271) : ColE (ps ++ [e]) (es ++ [e]) :=
  ⟨fun e' he' => by
    rcases List.mem_append.1 he' with h1 | h1
    · obtain ⟨a, b, c, d⟩ := h.num e' h1
      exact ⟨a, b, List.mem_append_left _ c, d⟩
    · obtain rfl : e' = e := by simpa using h1
      exact ⟨he, e', by simp, rfl, rfl, rfl, rfl⟩, fun φ => by
    rw [List.map_append, List.map_append, sumM_app, sumM_app, Int.add_emod, h.sum, ← Int.add_emod]⟩
theorem plusF_mod (a b : Int) : plusF a b % 1000000271 = (a + b) % 1000000271 := by
  unfold plusF
  omega
theorem sumM_set (φ : List Int → Int) : ∀ (es : List El) (k : Nat) (a b : El), es[k]? = some a → sumM φ ((es.set k b).map El.mono) = sumM φ (es.map El.mono) - a.x * φ a.xs + b.x * φ b.xs
  | [], k, a, b, h => by simp at h
  | e :: r, 0, a, b, h => by
    simp at h
    subst h
    simp only [List.set_cons_zero, List.map_cons, sumM, El.mono]
    omega
  | e :: r, k + 1, a, b, h => by
    have ih := sumM_set φ r k a b (by simpa using h)
    simp only [List.set_cons_succ, List.map_cons, sumM, ih]
    omega
theorem ColE.add {ps es : List El} (h : ColE ps es) {k : Nat} {a e : El} (ha : es[k]? = some a) (hxs : a.xs = e.xs) : ColE (ps ++ [e]) (es.set k ⟨plusF a.x e.x, a.B, a.m, a.d, a.xs⟩) :=
  ⟨fun e' he' => by
    rcases List.mem_or_eq_of_mem_set he' with h1 | h1
    · obtain ⟨q, b, c, d⟩ := h.num e' h1
      exact ⟨q, b, List.mem_append_left _ c, d⟩
    · obtain ⟨_, b, c, d⟩ := h.num a (List.mem_of_getElem? ha)
      rw [h1]
      exact ⟨plusF_bd _ _, b, List.mem_append_left _ c, d⟩, fun φ => by
    rw [sumM_set φ es k a _ ha, List.map_append, sumM_app]
    have hs := h.sum φ
    have hp := plusF_mod a.x e.x
    simp only [List.map_cons, List.map_nil, sumM, El.mono, ← hxs]
    obtain ⟨S, hS⟩ : ∃ S, S = sumM φ (es.map El.mono) := ⟨_, rfl⟩
    obtain ⟨T, hT⟩ : ∃ T, T = sumM φ (ps.map El.mono) := ⟨_, rfl⟩
    rw [← hS, ← hT] at hs
    rw [← hS, ← hT]
    obtain ⟨v, hv⟩ : ∃ v, v = φ a.xs := ⟨_, rfl⟩
    rw [← hv]
    have e1 : (plusF a.x e.x * v) % 1000000271 = ((a.x + e.x) * v) % 1000000271 := by rw [Int.mul_emod, hp, ← Int.mul_emod]
    have e2 : (a.x + e.x) * v = a.x * v + e.x * v := Int.add_mul _ _ _
    rw [e2] at e1
    obtain ⟨A, hA⟩ : ∃ A, A = a.x * v := ⟨_, rfl⟩
    obtain ⟨E, hE⟩ : ∃ E, E = e.x * v := ⟨_, rfl⟩
    obtain ⟨Q, hQ⟩ : ∃ Q, Q = plusF a.x e.x * v := ⟨_, rfl⟩
    rw [← hA, ← hE, ← hQ] at e1
    rw [← hA, ← hE, ← hQ]
    omega⟩
theorem ColE.filter {ps es : List El} (h : ColE ps es) : ColE ps (es.filter nz) :=
  ⟨fun e he => h.num e (List.mem_filter.1 he).1, fun φ => by
    rw [← h.sum φ]
    congr 1
    clear h
    induction es with
    | nil => rfl
    | cons a r ih =>
      rw [List.filter_cons]
      split
      · rw [List.map_cons, sumM, ih, List.map_cons, sumM]
      · rename_i hz
        have : a.x = 0 := by simpa [nz] using hz
        rw [ih, List.map_cons, sumM]
        simp [El.mono, this]⟩
end Go.Proofs.YtkaepjigmcielaaGreatDoor
/- Lists as elements of the ring of polynomials in h: what the program's sums, products and powers are there. -/
namespace Go.Proofs.YtkaepjigmcielaaGreatDoor
set_option linter.unusedSimpArgs false
set_option linter.unusedVariables false
namespace Jr
variable {n : Nat}
/-- a list as a polynomial in h -/
def of (a : List Int) : Jr n := mk fun k => a.getD k 0
theorem of_inj {a b : List Int} (ha : a.length = n) (hb : b.length = n) (na : ∀ x ∈ a, 0 ≤ x ∧ x < 1000000271) (nb : ∀ x ∈ b, 0 ≤ x ∧ x < 1000000271) (h : (of a : Jr n) = of b) : a = b := by
  have hr := exact h
  refine tabJ_eq ha hb fun j hj => ?_
  have h1 : a.getD j 0 % 1000000271 = b.getD j 0 % 1000000271 := hr j hj
  have e1 : a.getD j 0 = a[j] := by simp [List.getD, show j < a.length by omega]
  have e2 : b.getD j 0 = b[j] := by simp [List.getD, show j < b.length by omega]
  rw [e1, e2] at h1 ⊢
  have := na _ (List.getElem_mem (h := by omega) : a[j] ∈ a)
  have := nb _ (List.getElem_mem (h := by omega) : b[j] ∈ b)
  omega
theorem of_plus {a b : List Int} (ha : a.length = n) (k : Int) : (of (jplus a b k) : Jr n) = of a + cst k * of b := by
  rw [of, of, of, cst_mul, mk_add]
  refine sound fun j hj => ?_
  rw [jplus, tabJ_get _ (by omega)]
  unfold plusF timesF
  rw [Int.emod_emod_of_dvd _ (Int.dvd_refl _)]
  refine emod_add rfl ?_
  rw [Int.emod_emod_of_dvd _ (Int.dvd_refl _), Int.mul_comm]
/-- the product, summed from the front -/
theorem psum_front : ∀ (i k : Nat) (a b : List Int), psum a b (i + 1) (k + 1) = a.getD 0 0 * b.getD (k + 1) 0 + psum a.tail b i k
  | 0, k, a, b => by simp [psum]
  | i + 1, k, a, b => by
    rw [psum, psum_front i k a b, psum, Int.add_assoc]
    congr 2
    by_cases h : i ≤ k
    · rw [if_pos h, if_pos (by omega), show k + 1 - (i + 1) = k - i by omega]
      congr 1
      cases a <;> simp
    · rw [if_neg h, if_neg (by omega)]
theorem psum_conv : ∀ (k : Nat) (a b : List Int), psum a b (k + 1) k = conv (fun i => a.getD i 0) (fun i => b.getD i 0) k
  | 0, a, b => by simp [psum, conv]
  | k + 1, a, b => by
    rw [psum_front, psum_conv k, conv]
    congr 2
    funext i
    cases a <;> simp
theorem psum_more (a b : List Int) (k : Nat) : ∀ d, psum a b (k + 1 + d) k = psum a b (k + 1) k
  | 0 => rfl
  | d + 1 => by
    show psum a b (k + 1 + d) k + _ = _
    rw [psum_more a b k d, if_neg (by show ¬ k + 1 + d ≤ k; omega), Int.add_zero]
theorem of_mul {a b : List Int} (ha : a.length = n) : (of (jmul a b) : Jr n) = of a * of b := by
  rw [of, of, of, mk_mul]
  refine sound fun j hj => ?_
  rw [jmul, jmulP, tabJ_get _ (by omega), Int.emod_emod_of_dvd _ (Int.dvd_refl _), ← psum_conv, show a.length = j + 1 + (n - (j + 1)) by omega, psum_more]
theorem of_later {v : List Int} (hv : v.length = n) : (of (later1 v) : Jr n) = x * of v := by
  rw [of, of, x, mk_mul]
  refine sound fun j hj => ?_
  rw [later1, tabJ_get _ (by omega), conv_x]
theorem of_unit (c : Int) : (of (unitJ n c) : Jr n) = cst c := by
  refine sound fun j hj => ?_
  rw [unitJ, tabJ_get _ hj]
  unfold oneS
  by_cases h : j = 0
  · rw [if_pos h, if_pos h, Int.mul_one]
  · rw [if_neg h, if_neg h, Int.mul_zero]
theorem of_zero : (of (zeroJ n) : Jr n) = 0 := by
  refine sound fun j hj => ?_
  simp [zeroJ, hj]
def pow (u : Jr n) : Nat → Jr n
  | 0 => 1
  | k + 1 => u * pow u k
theorem of_pow (y : List Int) : ∀ (k : Nat) (o : List Int), o.length = n → (of (powJ k o y) : Jr n) = of o * pow (of y) k
  | 0, o, _ => by rw [powJ, pow, mul_comm, one_mul]
  | k + 1, o, h => by
    rw [powJ, of_pow y k _ (by rw [jmul_len, h]), of_mul h, pow, mul_assoc]
/-- a product of powers -/
def ev (Y : Nat → Jr n) : Nat → List Int → Jr n
  | _, [] => 1
  | v, p :: r => pow (Y v) p.toNat * ev Y (v + 1) r
theorem of_prod (ys : Nat → List Int) : ∀ (p : List Int) (v : Nat) (o : List Int), o.length = n → (of (prodJ ys p v o) : Jr n) = of o * ev (fun i => of (ys i)) v p
  | [], _, o, _ => by rw [prodJ, ev, mul_comm, one_mul]
  | p :: r, v, o, h => by
    rw [prodJ, of_prod ys r (v + 1) _ (by rw [pow_len, h]), of_pow _ _ _ h, ev, mul_assoc]
/-- the sum of the monomials, each its number times what F makes of its powers -/
def sumR (F : List Int → Jr n) : List Mono → Jr n
  | [] => 0
  | m :: r => cst m.1 * F m.2 + sumR F r
/-! sums over monomials -/
/-- what a function of powers becomes when a polynomial is derived by the variable v -/
def der (v : Nat) (F : List Int → Jr n) (e : List Int) : Jr n := if 0 < e.getD v 0 then cst (e.getD v 0) * F (e.set v (e.getD v 0 - 1)) else 0
theorem der_comm (F : List Int → Jr n) (e : List Int) {v u : Nat} (h : v ≠ u) : der v (der u F) e = der u (der v F) e := by
  have g1 : (e.set v (e.getD v 0 - 1)).getD u 0 = e.getD u 0 := by
    rw [List.getD_eq_getElem?_getD, List.getElem?_set_ne h, ← List.getD_eq_getElem?_getD]
  have g2 : (e.set u (e.getD u 0 - 1)).getD v 0 = e.getD v 0 := by
    rw [List.getD_eq_getElem?_getD, List.getElem?_set_ne h.symm, ← List.getD_eq_getElem?_getD]
  unfold der
  rw [g1, g2]
  by_cases h1 : 0 < e.getD v 0
  · by_cases h2 : 0 < e.getD u 0
    · rw [if_pos h1, if_pos h2, if_pos h2, if_pos h1, List.set_comm _ _ h]
      ac_rfl
    · rw [if_pos h1, if_neg h2, if_neg h2, mul_zero]
  · by_cases h2 : 0 < e.getD u 0
    · rw [if_neg h1, if_pos h2, if_neg h1, mul_zero]
    · rw [if_neg h1, if_neg h2]
end Jr
end Go.Proofs.YtkaepjigmcielaaGreatDoor
/- Derivatives of polynomials at polynomials in h along directions, in the ring of polynomials in h. -/
namespace Go.Proofs.YtkaepjigmcielaaGreatDoor
set_option linter.unusedSimpArgs false
set_option linter.unusedVariables false
namespace Jr
variable {n : Nat}
/-- powers that a walk may meet: as many ds there are coordinates, none negative -/
def GoodE (dim : Nat) (e : List Int) : Prop := e.length = dim ∧ ∀ x ∈ e, 0 ≤ x
theorem GoodE.at_ {dim : Nat} {e : List Int} (h : GoodE dim e) (v : Nat) : 0 ≤ e.getD v 0 := by
  rw [List.getD_eq_getElem?_getD]
  cases hv : e[v]? with
  | none => exact Int.le_refl _
  | some x => exact h.2 x (List.mem_of_getElem? hv)
theorem GoodE.set {dim : Nat} {e : List Int} (h : GoodE dim e) (v : Nat) {x : Int} (hx : 0 ≤ x) : GoodE dim (e.set v x) :=
  ⟨by rw [List.length_set]; exact h.1, fun y hy => by
    rcases List.mem_or_eq_of_mem_set hy with hy | rfl
    · exact h.2 y hy
    · exact hx⟩
/-- the derivative along one direction -/
def ddir (dim : Nat) (a : Nat → Jr n) (F : List Int → Jr n) (e : List Int) : Jr n := sum (fun v => a v * der v F e) dim
/-- the derivative along directions -/
def dn (dim : Nat) (ds : List (Nat → Jr n)) (F : List Int → Jr n) : List Int → Jr n := ds.foldr (ddir dim) F
theorem der_sum (v : Nat) (G : Nat → List Int → Jr n) (e : List Int) : ∀ S : Nat, der v (fun e => sum (fun u => G u e) S) e = sum (fun u => der v (G u) e) S
  | 0 => by
    unfold der
    split
    · exact mul_zero _
    · rfl
  | S + 1 => by
    have h : (fun e => sum (fun u => G u e) (S + 1)) = fun e => sum (fun u => G u e) S + G S e := rfl
    rw [sum, ← der_sum v G e S, h]
    unfold der
    split
    · rw [mul_add]
    · rw [add_zero]
theorem der_mul (v : Nat) (c : Jr n) (F : List Int → Jr n) (e : List Int) : der v (fun e => c * F e) e = c * der v F e := by
  unfold der
  split
  · rw [← mul_assoc, mul_comm (cst _) c, mul_assoc]
  · rw [mul_zero]
theorem der_add (v : Nat) (F G : List Int → Jr n) (e : List Int) : der v (fun e => F e + G e) e = der v F e + der v G e := by
  unfold der
  split
  · rw [mul_add]
  · rw [add_zero]
theorem ddir_comm (dim : Nat) (a b : Nat → Jr n) (F : List Int → Jr n) : ddir dim a (ddir dim b F) = ddir dim b (ddir dim a F) := by
  funext e
  have h : ∀ (a b : Nat → Jr n), ddir dim a (ddir dim b F) e = sum (fun v => sum (fun u => a v * (b u * der v (der u F) e)) dim) dim := by
    intro a b
    unfold ddir
    refine sum_congr fun v _ => ?_
    rw [der_sum v (fun u e => b u * der u F e), mul_sum]
    refine sum_congr fun u _ => ?_
    rw [der_mul]
  rw [h a b, h b a, sum_swap]
  refine sum_congr fun v _ => sum_congr fun u _ => ?_
  rw [← mul_assoc, ← mul_assoc, mul_comm (a u)]
  by_cases hv : u = v
  · rw [hv]
  · rw [der_comm F e hv]
theorem dn_perm (dim : Nat) {ds bs : List (Nat → Jr n)} (h : ds.Perm bs) (F : List Int → Jr n) : dn dim ds F = dn dim bs F :=
  h.foldr_eq' (fun x _ y _ z => ddir_comm dim y x z) F
theorem dn_cons (dim : Nat) (a : Nat → Jr n) (r : List (Nat → Jr n)) (F : List Int → Jr n) : dn dim (a :: r) F = ddir dim a (dn dim r F) := rfl

/-- e with one more at v -/
def inc (v : Nat) (e : List Int) : List Int := e.set v (e.getD v 0 + 1)
theorem getD_set {e : List Int} {v u : Nat} {x : Int} (hv : v < e.length) : (e.set v x).getD u 0 = if v = u then x else e.getD u 0 := by
  rw [List.getD_eq_getElem?_getD, List.getElem?_set]
  by_cases h : v = u
  · subst h
    simp [hv]
  · rw [if_neg h, if_neg h, ← List.getD_eq_getElem?_getD]
/-- what the derivative by u is at e with one more at v -/
theorem der_inc {dim u v : Nat} {e : List Int} (h : GoodE dim e) (hv : v < dim) (F : List Int → Jr n) : der u F (inc v e) = (if u = v then F e else 0) + der u (fun e => F (inc v e)) e := by
  have hl : v < e.length := by rw [h.1]; exact hv
  have h0 := h.at_ v
  by_cases huv : u = v
  · subst huv
    rw [if_pos rfl]
    unfold der inc
    rw [getD_set hl, if_pos rfl, if_pos (by omega), List.set_set, show e.getD u 0 + 1 - 1 = e.getD u 0 by omega]
    have e1 : e.set u (e.getD u 0) = e := by
      rw [List.getD_eq_getElem?_getD, List.getElem?_eq_getElem hl]
      exact List.set_getElem_self hl
    rw [e1, cst_add, cst_one, add_mul, one_mul]
    by_cases hp : 0 < e.getD u 0
    · rw [if_pos hp]
      show _ = F e + cst (e.getD u 0) * F ((e.set u (e.getD u 0 - 1)).set u ((e.set u (e.getD u 0 - 1)).getD u 0 + 1))
      rw [List.set_set, getD_set hl, if_pos rfl, show e.getD u 0 - 1 + 1 = e.getD u 0 by omega, e1, add_comm]
    · rw [if_neg hp, show e.getD u 0 = 0 by omega, cst_zero, zero_mul, add_zero, zero_add]
  · rw [if_neg huv, zero_add]
    have hvu : v ≠ u := fun h => huv h.symm
    unfold der inc
    rw [getD_set hl, if_neg hvu]
    by_cases hp : 0 < e.getD u 0
    · rw [if_pos hp, if_pos hp, List.set_comm _ _ hvu]
      have e2 : (e.set u (e.getD u 0 - 1)).getD v 0 = e.getD v 0 := by
        rw [List.getD_eq_getElem?_getD, List.getElem?_set_ne huv, ← List.getD_eq_getElem?_getD]
      show _ = cst (e.getD u 0) * F ((e.set u (e.getD u 0 - 1)).set v ((e.set u (e.getD u 0 - 1)).getD v 0 + 1))
      rw [e2]
    · rw [if_neg hp, if_neg hp]
theorem sum_one (a : Nat → Jr n) (c : Jr n) {v : Nat} : ∀ {S : Nat}, v < S → sum (fun u => a u * (if u = v then c else 0)) S = a v * c
  | 0, h => by omega
  | S + 1, h => by
    rw [sum]
    by_cases hv : v = S
    · subst hv
      rw [if_pos rfl]
      have : sum (fun u => a u * (if u = v then c else 0)) v = 0 := by
        rw [sum_congr (g := fun _ => 0) fun s hs => by rw [if_neg (by omega), mul_zero], sum_zero]
      rw [this, zero_add]
    · rw [if_neg (by omega), mul_zero, add_zero, sum_one a c (by omega)]
theorem der_congr {dim v : Nat} {F G : List Int → Jr n} (hFG : ∀ e, GoodE dim e → F e = G e) {e : List Int} (h : GoodE dim e) : der v F e = der v G e := by
  unfold der
  split
  · rw [hFG _ (h.set v (by omega))]
  · rfl
theorem ddir_inc {dim v : Nat} {e : List Int} (h : GoodE dim e) (hv : v < dim) (a : Nat → Jr n) (F : List Int → Jr n) : ddir dim a F (inc v e) = a v * F e + ddir dim a (fun e => F (inc v e)) e := by
  unfold ddir
  rw [← sum_one a (F e) hv, ← sum_add]
  refine sum_congr fun u _ => ?_
  rw [der_inc h hv, mul_add]

/-- each element of a list, with the others -/
def picks {α : Type} : List α → List (α × List α)
  | [] => []
  | a :: r => (a, r) :: (picks r).map fun p => (p.1, a :: p.2)
theorem picks_map {α β : Type} (f : α → β) : ∀ l : List α, picks (l.map f) = (picks l).map fun p => (f p.1, p.2.map f)
  | [] => rfl
  | a :: r => by
    rw [List.map_cons, picks, picks, picks_map f r, List.map_cons, List.map_map, List.map_map]
    rfl
def sumL : List (Jr n) → Jr n
  | [] => 0
  | a :: r => a + sumL r
theorem ddir_sumL {dim : Nat} {α : Type} (a : Nat → Jr n) (G : α → List Int → Jr n) (e : List Int) : ∀ l : List α, ddir dim a (fun e => sumL (l.map fun p => G p e)) e = sumL (l.map fun p => ddir dim a (G p) e)
  | [] => by
    unfold ddir
    rw [sum_congr (g := fun _ => 0) fun v _ => ?_, sum_zero]
    · rfl
    · unfold der
      split
      · show _ * (_ * (0 : Jr n)) = 0
        rw [mul_zero, mul_zero]
      · exact mul_zero _
  | p :: r => by
    have ih := ddir_sumL (dim := dim) a G e r
    rw [List.map_cons, sumL, ← ih]
    unfold ddir
    rw [← sum_add]
    refine sum_congr fun v _ => ?_
    rw [← mul_add, ← der_add]
    rfl
theorem ddir_mul {dim : Nat} (a : Nat → Jr n) (c : Jr n) (F : List Int → Jr n) (e : List Int) : ddir dim a (fun e => c * F e) e = c * ddir dim a F e := by
  unfold ddir
  rw [mul_sum]
  refine sum_congr fun v _ => ?_
  rw [der_mul, ← mul_assoc, mul_comm (a v), mul_assoc]
theorem ddir_add {dim : Nat} (a : Nat → Jr n) (F G : List Int → Jr n) (e : List Int) : ddir dim a (fun e => F e + G e) e = ddir dim a F e + ddir dim a G e := by
  unfold ddir
  rw [← sum_add]
  refine sum_congr fun v _ => ?_
  rw [der_add, mul_add]
/-- one more factor: each direction falls on it or on the others -/
theorem dn_inc {dim v : Nat} (hv : v < dim) {Y : Jr n} {F : List Int → Jr n} (hF : ∀ e, GoodE dim e → F (inc v e) = Y * F e) : ∀ (ds : List (Nat → Jr n)) (e : List Int), GoodE dim e →
    dn dim ds F (inc v e) = Y * dn dim ds F e + sumL ((picks ds).map fun p => p.1 v * dn dim p.2 F e)
  | [], e, h => by
    show F (inc v e) = Y * F e + 0
    rw [hF e h, add_zero]
  | a :: r, e, h => by
    rw [dn_cons, ddir_inc h hv]
    have ih := dn_inc hv hF r
    have e1 : ddir dim a (fun e => dn dim r F (inc v e)) e = ddir dim a (fun e => Y * dn dim r F e + sumL ((picks r).map fun p => p.1 v * dn dim p.2 F e)) e := by
      unfold ddir
      refine sum_congr fun u _ => ?_
      rw [der_congr ih h]
    have e3 : ddir dim a (fun e => sumL ((picks r).map fun p => p.1 v * dn dim p.2 F e)) e = sumL ((picks r).map fun p => ddir dim a (fun e => p.1 v * dn dim p.2 F e) e) := ddir_sumL a (fun p e => p.1 v * dn dim p.2 F e) e (picks r)
    rw [e1, ddir_add, ddir_mul, e3]
    rw [picks, List.map_cons, sumL, List.map_map]
    have e2 : (picks r).map (fun p => ddir dim a (fun e => p.1 v * dn dim p.2 F e) e) = (picks r).map ((fun p : (Nat → Jr n) × List (Nat → Jr n) => p.1 v * dn dim p.2 F e) ∘ fun p => (p.1, a :: p.2)) := by
      refine List.map_congr_left fun p _ => ?_
      rw [ddir_mul]
      rfl
    rw [e2]
    show a v * dn dim r F e + (Y * ddir dim a (dn dim r F) e + _) = Y * ddir dim a (dn dim r F) e + (a v * dn dim r F e + _)
    ac_rfl
/-- no factor: there is no derivative -/
theorem dn_none {dim : Nat} {F : List Int → Jr n} {e : List Int} (he : ∀ v, e.getD v 0 = 0) (a : Nat → Jr n) (r : List (Nat → Jr n)) : dn dim (a :: r) F e = 0 := by
  rw [dn_cons]
  unfold ddir
  rw [sum_congr (g := fun _ => 0) fun v _ => ?_, sum_zero]
  unfold der
  rw [he v, if_neg (by omega), mul_zero]
end Jr
end Go.Proofs.YtkaepjigmcielaaGreatDoor
