/- Polynomials in h of a fixed length in plain Lean: products, sums, the rounds of a step, and that the rounds come to rest. -/
import Derived.Test.YtjamdnbabfodkaaMono
namespace Go.Proofs.Ytjamdnbabfodkaa
/-- a list of n values of a function -/
def tabJ (n : Nat) (f : Nat → Int) : List Int := (List.range n).map f
theorem tabJ_len (n : Nat) (f : Nat → Int) : (tabJ n f).length = n := by simp [tabJ]
theorem tabJ_get {n j : Nat} (f : Nat → Int) (h : j < n) : (tabJ n f).getD j 0 = f j := by simp [tabJ, h]
theorem tabJ_at {n j : Nat} (f : Nat → Int) (h : j < n) : (tabJ n f)[j]? = some (f j) := by simp [tabJ, h]
theorem tabJ_out {n j : Nat} (f : Nat → Int) (h : n ≤ j) : (tabJ n f).getD j 0 = 0 := by simp [tabJ, h]
theorem tabJ_num {n : Nat} {f : Nat → Int} (h : ∀ j, 0 ≤ f j ∧ f j < 1000000271) : ∀ x ∈ tabJ n f, 0 ≤ x ∧ x < 1000000271 := by
  intro x hx
  simp only [tabJ, List.mem_map] at hx
  obtain ⟨j, _, rfl⟩ := hx
  exact h j
theorem tabJ_self {n : Nat} {a : List Int} (h : a.length = n) : tabJ n (fun j => a.getD j 0) = a := by
  apply List.ext_getElem?
  intro j
  by_cases hj : j < n
  · rw [tabJ_at _ hj, List.getElem?_eq_getElem (by omega)]
    simp [show j < a.length by omega]
  · rw [List.getElem?_eq_none (by rw [tabJ_len]; omega), List.getElem?_eq_none (by omega)]
theorem tabJ_eq {n : Nat} {a b : List Int} (ha : a.length = n) (hb : b.length = n) (h : ∀ j, j < n → a.getD j 0 = b.getD j 0) : a = b := by
  rw [← tabJ_self ha, ← tabJ_self hb]
  unfold tabJ
  exact List.map_congr_left fun j hj => h j (List.mem_range.1 hj)

/-- a plus k times b -/
def jplus (a b : List Int) (k : Int) : List Int := tabJ a.length fun j => plusF (a.getD j 0) (timesF (b.getD j 0) k)
def psum (a b : List Int) : Nat → Nat → Int
  | 0, _ => 0
  | i + 1, k => psum a b i k + (if i ≤ k then a.getD i 0 * b.getD (k - i) 0 else 0)
/-- the product, as far as the first i elements of a -/
def jmulP (a b : List Int) (i : Nat) : List Int := tabJ a.length fun k => psum a b i k % 1000000271
def jmul (a b : List Int) : List Int := jmulP a b a.length
def later1 (v : List Int) : List Int := tabJ v.length fun j => if j = 0 then 0 else v.getD (j - 1) 0
def unitJ (n : Nat) (c : Int) : List Int := tabJ n fun j => if j = 0 then c else 0
def zeroJ (n : Nat) : List Int := List.replicate n 0
def powJ : Nat → List Int → List Int → List Int
  | 0, o, _ => o
  | n + 1, o, y => powJ n (jmul o y) y
def prodJ (ys : Nat → List Int) : List Int → Nat → List Int → List Int
  | [], _, o => o
  | p :: r, v, o => prodJ ys r (v + 1) (powJ p.toNat o (ys v))
/-- the sum of the monomials, one added to the other -/
def derJ (n : Nat) (ys : Nat → List Int) : List Mono → List Int → List Int
  | [], o => o
  | m :: r, o => derJ n ys r (jplus o (prodJ ys m.2 0 (unitJ n 1)) m.1)
def polyJ (n : Nat) (ms : List Mono) (ys : Nat → List Int) : List Int := derJ n ys ms (zeroJ n)
/-- y and h times the values, times the elements of a row -/
def accJ (y : List Int) (v : Nat → List Int) (row : List Int) : Nat → List Int
  | 0 => y
  | s + 1 => jplus (accJ y v row s) (later1 (v s)) (row.getD s 0)
/-- the values of a round out of those of the round ahead: stage s, coordinate i -/
def nextJ (n S : Nat) (ps : Nat → List Mono) (y : Nat → List Int) (row : Nat → Nat → List Int) (V : Nat → Nat → List Int) (s i : Nat) : List Int :=
  polyJ n (ps i) fun i' => accJ (y i') (fun s' => V s' i') (row i' s) S
def iterJ (n S : Nat) (ps : Nat → List Mono) (y : Nat → List Int) (row : Nat → Nat → List Int) : Nat → Nat → Nat → List Int
  | 0 => fun _ _ => zeroJ n
  | t + 1 => nextJ n S ps y row (iterJ n S ps y row t)

/-- agreement of the first t elements -/
def Agr (t : Nat) (a b : List Int) : Prop := ∀ j, j < t → a.getD j 0 = b.getD j 0
theorem Agr.refl (t : Nat) (a : List Int) : Agr t a a := fun _ _ => rfl
theorem jplus_len (a b : List Int) (k : Int) : (jplus a b k).length = a.length := tabJ_len _ _
theorem jmul_len (a b : List Int) : (jmul a b).length = a.length := tabJ_len _ _
theorem later_len (v : List Int) : (later1 v).length = v.length := tabJ_len _ _
theorem unit_len (n : Nat) (c : Int) : (unitJ n c).length = n := tabJ_len _ _
theorem zero_len (n : Nat) : (zeroJ n).length = n := by simp [zeroJ]
theorem pow_len : ∀ (k : Nat) (o y : List Int), (powJ k o y).length = o.length
  | 0, _, _ => rfl
  | k + 1, o, y => by rw [powJ, pow_len k, jmul_len]
theorem prod_len (ys : Nat → List Int) : ∀ (p : List Int) (v : Nat) (o : List Int), (prodJ ys p v o).length = o.length
  | [], _, _ => rfl
  | p :: r, v, o => by rw [prodJ, prod_len ys r, pow_len]
theorem der_len (n : Nat) (ys : Nat → List Int) : ∀ (ms : List Mono) (o : List Int), (derJ n ys ms o).length = o.length
  | [], _ => rfl
  | m :: r, o => by rw [derJ, der_len n ys r, jplus_len]
theorem poly_len (n : Nat) (ms : List Mono) (ys : Nat → List Int) : (polyJ n ms ys).length = n := by rw [polyJ, der_len, zero_len]
theorem acc_len (y : List Int) (v : Nat → List Int) (row : List Int) : ∀ s, (accJ y v row s).length = y.length
  | 0 => rfl
  | s + 1 => by rw [accJ, jplus_len, acc_len y v row s]
theorem iter_len (n S : Nat) (ps : Nat → List Mono) (y : Nat → List Int) (row : Nat → Nat → List Int) (t s i : Nat) : (iterJ n S ps y row t s i).length = n := by
  cases t with
  | zero => exact zero_len n
  | succ t => exact poly_len _ _ _

theorem Agr.plus {t : Nat} {a a' b b' : List Int} (h : Agr t a a') (hl : a.length = a'.length) (g : Agr t b b') (k : Int) : Agr t (jplus a b k) (jplus a' b' k) := by
  intro j hj
  by_cases hn : j < a.length
  · rw [jplus, jplus, tabJ_get _ hn, tabJ_get _ (by omega), h j hj, g j hj]
  · rw [jplus, jplus, tabJ_out _ (by omega), tabJ_out _ (by omega)]
theorem psum_agr {t : Nat} {a a' b b' : List Int} (h : Agr t a a') (g : Agr t b b') {k : Nat} (hk : k < t) : ∀ i, psum a b i k = psum a' b' i k
  | 0 => rfl
  | i + 1 => by
    rw [psum, psum, psum_agr h g hk i]
    by_cases hi : i ≤ k
    · rw [if_pos hi, if_pos hi, h i (by omega), g (k - i) (by omega)]
    · rw [if_neg hi, if_neg hi]
theorem Agr.mul {t : Nat} {a a' b b' : List Int} (h : Agr t a a') (hl : a.length = a'.length) (g : Agr t b b') : Agr t (jmul a b) (jmul a' b') := by
  intro j hj
  by_cases hn : j < a.length
  · rw [jmul, jmul, jmulP, jmulP, tabJ_get _ hn, tabJ_get _ (by omega), psum_agr h g hj, hl]
  · rw [jmul, jmul, jmulP, jmulP, tabJ_out _ (by omega), tabJ_out _ (by omega)]
theorem Agr.later {t : Nat} {a a' : List Int} (h : Agr t a a') (hl : a.length = a'.length) : Agr (t + 1) (later1 a) (later1 a') := by
  intro j hj
  by_cases hn : j < a.length
  · rw [later1, later1, tabJ_get _ hn, tabJ_get _ (by omega)]
    by_cases h0 : j = 0
    · rw [if_pos h0, if_pos h0]
    · rw [if_neg h0, if_neg h0, h (j - 1) (by omega)]
  · rw [later1, later1, tabJ_out _ (by omega), tabJ_out _ (by omega)]
theorem Agr.pow {t : Nat} {y y' : List Int} (hy : Agr t y y') : ∀ (k : Nat) {o o' : List Int}, Agr t o o' → o.length = o'.length → Agr t (powJ k o y) (powJ k o' y')
  | 0, _, _, h, _ => h
  | k + 1, o, o', h, hl => Agr.pow hy k (h.mul hl hy) (by rw [jmul_len, jmul_len, hl])
theorem Agr.prod {t : Nat} {ys ys' : Nat → List Int} (hy : ∀ v, Agr t (ys v) (ys' v)) : ∀ (p : List Int) (v : Nat) {o o' : List Int}, Agr t o o' → o.length = o'.length → Agr t (prodJ ys p v o) (prodJ ys' p v o')
  | [], _, _, _, h, _ => h
  | p :: r, v, _, _, h, hl => Agr.prod hy r (v + 1) (Agr.pow (hy v) p.toNat h hl) (by rw [pow_len, pow_len, hl])
theorem Agr.der {t n : Nat} {ys ys' : Nat → List Int} (hy : ∀ v, Agr t (ys v) (ys' v)) : ∀ (ms : List Mono) {o o' : List Int}, Agr t o o' → o.length = o'.length → Agr t (derJ n ys ms o) (derJ n ys' ms o')
  | [], _, _, h, _ => h
  | m :: r, o, o', h, hl => Agr.der hy r (h.plus hl (Agr.prod hy m.2 0 (Agr.refl t _) rfl) m.1) (by rw [jplus_len, jplus_len, hl])
theorem Agr.acc {t : Nat} (y : List Int) {v v' : Nat → List Int} (h : ∀ s, Agr t (v s) (v' s)) (hl : ∀ s, (v s).length = (v' s).length) (row : List Int) : ∀ s, Agr (t + 1) (accJ y v row s) (accJ y v' row s)
  | 0 => Agr.refl _ _
  | s + 1 => (Agr.acc y h hl row s).plus (by rw [acc_len, acc_len]) ((h s).later (hl s)) _
/-- a round makes one more power of h right -/
theorem iter_agr (n S : Nat) (ps : Nat → List Mono) (y : Nat → List Int) (row : Nat → Nat → List Int) : ∀ (t s i : Nat), Agr t (iterJ n S ps y row (t + 1) s i) (iterJ n S ps y row t s i)
  | 0, _, _ => fun j hj => by omega
  | t + 1, s, i => by
    have ih := iter_agr n S ps y row t
    show Agr (t + 1) (nextJ n S ps y row (iterJ n S ps y row (t + 1)) s i) (nextJ n S ps y row (iterJ n S ps y row t) s i)
    unfold nextJ polyJ
    exact Agr.der (fun i' => Agr.acc (y i') (fun s' => ih s' i') (fun s' => by rw [iter_len, iter_len]) (row i' s) S) _ (Agr.refl _ _) rfl
/-- the rounds have come to rest -/
theorem iter_rest (n S : Nat) (ps : Nat → List Mono) (y : Nat → List Int) (row : Nat → Nat → List Int) : iterJ n S ps y row (n + 1) = iterJ n S ps y row n := by
  funext s i
  exact tabJ_eq (iter_len ..) (iter_len ..) (iter_agr n S ps y row n s i)

/-! the coefficient ahead of the product or behind it -/
def jscale (c : Int) (a : List Int) : List Int := tabJ a.length fun j => timesF (a.getD j 0) c
theorem psum_scale (c : Int) (a b : List Int) (k : Nat) : ∀ i, i ≤ a.length → psum (jscale c a) b i k % 1000000271 = (c * psum a b i k) % 1000000271
  | 0, _ => by simp [psum]
  | i + 1, hi => by
    have ih := psum_scale c a b k i (by omega)
    rw [psum, psum, Int.mul_add, Int.add_emod, ih, Int.add_emod (c * psum a b i k)]
    congr 2
    by_cases h : i ≤ k
    · rw [if_pos h, if_pos h, jscale, tabJ_get _ (by omega)]
      unfold timesF
      rw [Int.mul_emod, Int.emod_emod_of_dvd _ (Int.dvd_refl _), ← Int.mul_emod, Int.mul_comm (a.getD i 0) c, Int.mul_assoc]
    · rw [if_neg h, if_neg h, Int.mul_zero]
theorem mul_scale (c : Int) (a b : List Int) : jmul (jscale c a) b = jscale c (jmul a b) := by
  have hl : (jscale c a).length = a.length := tabJ_len _ _
  refine tabJ_eq (n := a.length) (by rw [jmul_len, hl]) (by rw [jscale, tabJ_len, jmul_len]) fun j hj => ?_
  rw [jmul, jmulP, tabJ_get _ (by omega), hl, psum_scale c a b j a.length (Nat.le_refl _), jscale, tabJ_get _ (by rw [jmul_len]; exact hj), jmul, jmulP, tabJ_get _ hj]
  unfold timesF
  rw [Int.mul_comm (_ % _) c, Int.mul_emod c (_ % _), Int.emod_emod_of_dvd _ (Int.dvd_refl _), ← Int.mul_emod]
theorem pow_scale (c : Int) (y : List Int) : ∀ (k : Nat) (o : List Int), powJ k (jscale c o) y = jscale c (powJ k o y)
  | 0, _ => rfl
  | k + 1, o => by rw [powJ, mul_scale, pow_scale c y k, powJ]
theorem prod_scale (c : Int) (ys : Nat → List Int) : ∀ (p : List Int) (v : Nat) (o : List Int), prodJ ys p v (jscale c o) = jscale c (prodJ ys p v o)
  | [], _, _ => rfl
  | p :: r, v, o => by rw [prodJ, pow_scale, prod_scale c ys r, prodJ]
theorem unit_scale {c : Int} (h0 : 0 ≤ c) (h1 : c < 1000000271) (n : Nat) : unitJ n c = jscale c (unitJ n 1) := by
  refine tabJ_eq (n := n) (unit_len _ _) (by rw [jscale, tabJ_len, unit_len]) fun j hj => ?_
  rw [jscale, tabJ_get _ (by rw [unit_len]; exact hj), unitJ, unitJ, tabJ_get _ hj, tabJ_get _ hj]
  unfold timesF
  by_cases h : j = 0
  · rw [if_pos h, if_pos h, Int.one_mul]; omega
  · rw [if_neg h, if_neg h, Int.zero_mul]; rfl
theorem plus_scale (o p : List Int) (c : Int) (h : p.length = o.length) : jplus o (jscale c p) 1 = jplus o p c := by
  refine tabJ_eq (n := o.length) (jplus_len ..) (jplus_len ..) fun j hj => ?_
  rw [jplus, jplus, tabJ_get _ hj, tabJ_get _ hj, jscale, tabJ_get _ (by omega)]
  congr 1
  unfold timesF
  rw [Int.mul_one, Int.emod_emod_of_dvd _ (Int.dvd_refl _)]
/-- one monomial, as the program adds it -/
theorem mono_coef {c : Int} (h0 : 0 ≤ c) (h1 : c < 1000000271) {n : Nat} (ys : Nat → List Int) (p o : List Int) (h : o.length = n) : jplus o (prodJ ys p 0 (unitJ n c)) 1 = jplus o (prodJ ys p 0 (unitJ n 1)) c := by
  rw [unit_scale h0 h1, prod_scale]
  exact plus_scale _ _ _ (by rw [prod_len, unit_len, h])
end Go.Proofs.Ytjamdnbabfodkaa
