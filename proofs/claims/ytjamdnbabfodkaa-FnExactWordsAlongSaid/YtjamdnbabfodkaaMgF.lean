/- Words of two fields along a point: what both texts compute, in plain Lean. -/
import Derived.Test.YtjamdnbabfodkaaSoR
import Derived.Test.YtjamdnbabfodkaaMgE
import Derived.Test.YtjamdnbabfodkaaJetP
import Derived.Test.YtjamdnbabfodkaaMgI
import Derived.Test.YtjamdnbabfodkaaPoly4
import Derived.Test.YtjamdnbabfodkaaJetM
namespace Go.Proofs.Ytjamdnbabfodkaa
open Go.RowKit
set_option linter.unusedSimpArgs false
set_option linter.unusedVariables false
set_option maxRecDepth 20000

theorem timesF_mod (a b : Int) : timesF a b % 1000000271 = (a * b) % 1000000271 := by unfold timesF; omega
theorem mul_cong {a b c : Int} (h : a % 1000000271 = b % 1000000271) : (a * c) % 1000000271 = (b * c) % 1000000271 := by rw [Int.mul_emod, h, ← Int.mul_emod]
theorem mul_cong2 {a b c : Int} (h : a % 1000000271 = b % 1000000271) : (c * a) % 1000000271 = (c * b) % 1000000271 := by rw [Int.mul_emod, h, ← Int.mul_emod]
theorem add_cong {a b c d : Int} (h : a % 1000000271 = b % 1000000271) (g : c % 1000000271 = d % 1000000271) : (a + c) % 1000000271 = (b + d) % 1000000271 := by rw [Int.add_emod, h, g, ← Int.add_emod]

/-- what a function of powers becomes when a polynomial goes on by the fields' parts from the variable i on -/
def derGo (φ : List Int → Int) (e : List Int) : Nat → List (List Mono) → Int
  | _, [] => 0
  | i, p :: r => (if 0 < e.getD i 0 then e.getD i 0 * sumM (fun q => φ (addP (e.set i (e.getD i 0 - 1)) q)) p else 0) + derGo φ e (i + 1) r
theorem mulM_sum (φ : List Int → Int) (a : Mono) : ∀ bs : List Mono, sumM φ (bs.map (mulM a)) % 1000000271 = (a.1 * sumM (fun q => φ (addP a.2 q)) bs) % 1000000271
  | [] => by simp [sumM]
  | b :: r => by
    rw [List.map_cons, sumM, sumM, Int.mul_add]
    refine add_cong ?_ (mulM_sum φ a r)
    show (timesF a.1 b.1 * φ (addP a.2 b.2)) % _ = _
    rw [mul_cong (timesF_mod a.1 b.1), Int.mul_assoc]
theorem part_sum (φ : List Int → Int) (i : Nat) (p : List Mono) : ∀ ms : List Mono, sumM φ (mulMF (partF ms i) p) % 1000000271 = sumM (fun e => if 0 < e.getD i 0 then e.getD i 0 * sumM (fun q => φ (addP (e.set i (e.getD i 0 - 1)) q)) p else 0) ms % 1000000271
  | [] => rfl
  | m :: r => by
    have ih := part_sum φ i p r
    rw [sumM]
    by_cases h : 0 < m.2.getD i 0
    · have e1 : partF (m :: r) i = (timesF m.1 (m.2.getD i 0), m.2.set i (m.2.getD i 0 - 1)) :: partF r i := by
        simp only [partF, List.filterMap_cons, partM, if_pos h]
      have e2 : mulMF ((timesF m.1 (m.2.getD i 0), m.2.set i (m.2.getD i 0 - 1)) :: partF r i) p = p.map (mulM (timesF m.1 (m.2.getD i 0), m.2.set i (m.2.getD i 0 - 1))) ++ mulMF (partF r i) p := rfl
      rw [e1, e2, sumM_app, if_pos h]
      refine add_cong ?_ ih
      rw [mulM_sum, ← Int.mul_assoc]
      exact mul_cong (timesF_mod _ _)
    · have e1 : partF (m :: r) i = partF r i := by
        simp only [partF, List.filterMap_cons, partM, if_neg h]
      rw [e1, if_neg h, Int.mul_zero, Int.zero_add]
      exact ih
theorem sumM_add (f g : List Int → Int) : ∀ ms : List Mono, sumM (fun e => f e + g e) ms = sumM f ms + sumM g ms
  | [] => rfl
  | m :: r => by rw [sumM, sumM, sumM, sumM_add f g r, Int.mul_add]; omega
theorem flow_sum (φ : List Int → Int) (ms : List Mono) : ∀ (ps : List (List Mono)) (i : Nat), sumM φ (flowGo ms i ps) % 1000000271 = sumM (fun e => derGo φ e i ps) ms % 1000000271
  | [], i => by
    show 0 % _ = _
    have : ∀ ms : List Mono, sumM (fun _ => 0) ms = 0 := fun ms => by
      induction ms with
      | nil => rfl
      | cons a r ih => rw [sumM, ih]; simp
    exact congrArg (· % 1000000271) (this ms).symm
  | p :: r, i => by
    show sumM φ (mulMF (partF ms i) p ++ flowGo ms (i + 1) r) % _ = _
    rw [sumM_app]
    have h : sumM (fun e => derGo φ e i (p :: r)) ms = sumM (fun e => if 0 < e.getD i 0 then e.getD i 0 * sumM (fun q => φ (addP (e.set i (e.getD i 0 - 1)) q)) p else 0) ms + sumM (fun e => derGo φ e (i + 1) r) ms := sumM_add _ _ ms
    rw [h]
    exact add_cong (part_sum φ i p ms) (flow_sum φ ms r (i + 1))
/-- the same polynomial, whatever its monomials' order -/
def Eqv (a b : List Mono) : Prop := ∀ φ, sumM φ a % 1000000271 = sumM φ b % 1000000271
theorem Eqv.trans {a b c : List Mono} (h : Eqv a b) (g : Eqv b c) : Eqv a c := fun φ => (h φ).trans (g φ)
theorem Eqv.flow {a b : List Mono} (h : Eqv a b) (ps : List (List Mono)) : Eqv (flowGo a 0 ps) (flowGo b 0 ps) := fun φ => by
  rw [flow_sum, flow_sum]
  exact h _
theorem times_sum (φ : List Int → Int) : ∀ (aa ss bs : List Mono), sumM φ (timesS ss aa bs) % 1000000271 = (sumM φ ss + sumM φ (mulMF aa bs)) % 1000000271
  | [], ss, bs => by show sumM φ ss % _ = (_ + 0) % _; rw [Int.add_zero]
  | a :: r, ss, bs => by
    show sumM φ (timesS (rowS ss a bs) r bs) % _ = _
    rw [times_sum φ r]
    have e2 : mulMF (a :: r) bs = bs.map (mulM a) ++ mulMF r bs := rfl
    rw [e2, sumM_app, ← Int.add_assoc]
    refine add_cong ?_ rfl
    clear e2
    induction bs generalizing ss with
    | nil => show sumM φ ss % _ = (_ + 0) % _; rw [Int.add_zero]
    | cons b t ih =>
      show sumM φ (rowS (putF ss (mulM a b)) a t) % _ = _
      rw [ih, List.map_cons, sumM, ← Int.add_assoc]
      refine add_cong ?_ rfl
      rw [putF, filter_sum, putR_sum]
theorem ch_sum (φ : List Int → Int) (ms : List Mono) : ∀ (ps : List (List Mono)) (s : List Mono) (i : Nat), sumM φ (chGo ms s i ps) % 1000000271 = (sumM φ s + sumM φ (flowGo ms i ps)) % 1000000271
  | [], s, i => by show sumM φ s % _ = (_ + 0) % _; rw [Int.add_zero]
  | p :: r, s, i => by
    show sumM φ (chGo ms (timesS s (partF ms i) p) (i + 1) r) % _ = (_ + sumM φ (mulMF (partF ms i) p ++ flowGo ms (i + 1) r)) % _
    rw [ch_sum φ ms r, sumM_app, ← Int.add_assoc]
    exact add_cong (times_sum φ _ _ _) rfl
theorem ch_eqv (ms : List Mono) (ps : List (List Mono)) : Eqv (chGo ms [] 0 ps) (flowGo ms 0 ps) := fun φ => by
  rw [ch_sum]
  show (0 + _) % _ = _
  rw [Int.zero_add]

/-- the polynomial of a coordinate, and what a word makes of it -/
def unitM (dim d : Nat) : Mono := (1, (zeroJ dim).set d 1)
def canonL (ps qs : List (List Mono)) (dim d : Nat) : List Int → List Mono
  | [] => [unitM dim d]
  | x :: r => flowGo (canonL ps qs dim d r) 0 (if x = 0 then ps else qs)
/-- powers at a point -/
def evGo (ys : List Int) : Nat → List Int → Int
  | _, [] => 1
  | v, k :: r => ys.getD v 0 ^ k.toNat * evGo ys (v + 1) r
def evF (ys : List Int) (e : List Int) : Int := evGo ys 0 e
theorem monV_mod (ys : List Int) : ∀ (l : List Int) (v : Nat) (n : Int), (∀ x ∈ l, 0 ≤ x) → monV ys l v n % 1000000271 = (n * evGo ys v l) % 1000000271
  | [], _, n, _ => by rw [monV, evGo, Int.mul_one]
  | k :: r, v, n, h => by
    rw [monV, monV_mod ys r (v + 1) _ (fun x hx => h x (List.mem_cons_of_mem _ hx)), evGo, ← Int.mul_assoc]
    refine mul_cong ?_
    rw [timesF_mod]
    refine mul_cong2 ?_
    have hk := h k List.mem_cons_self
    unfold powF
    rw [if_neg (by omega), Int.emod_emod_of_dvd _ (Int.dvd_refl _)]
theorem valV_mod (ys : List Int) : ∀ (ms : List Mono) (o : Int), (∀ m ∈ ms, ∀ x ∈ m.2, 0 ≤ x) → valV ys ms o % 1000000271 = (o + sumM (evF ys) ms) % 1000000271
  | [], o, _ => by rw [valV, sumM, Int.add_zero]
  | m :: r, o, h => by
    rw [valV, valV_mod ys r _ (fun q hq => h q (List.mem_cons_of_mem _ hq)), sumM, ← Int.add_assoc]
    refine add_cong ?_ rfl
    rw [plusF_mod]
    exact add_cong rfl (monV_mod ys m.2 0 m.1 (h m List.mem_cons_self))
theorem valV_rng (ys : List Int) : ∀ (ms : List Mono) (o : Int), (0 ≤ o ∧ o < 1000000271) → 0 ≤ valV ys ms o ∧ valV ys ms o < 1000000271
  | [], _, h => h
  | m :: r, o, _ => valV_rng ys r _ (plusF_bd _ _)
theorem valV_eq (ys : List Int) (ms : List Mono) (h : ∀ m ∈ ms, ∀ x ∈ m.2, 0 ≤ x) : valV ys ms 0 = sumM (evF ys) ms % 1000000271 := by
  have h1 := valV_mod ys ms 0 h
  have h2 := valV_rng ys ms 0 (by omega)
  rw [Int.zero_add] at h1
  rw [← h1]
  omega

/-- the value of a word at the point -/
def wordV (ps qs : List (List Mono)) (ys : List Int) (dim d : Nat) (p : Nat) : Int := sumM (evF ys) (canonL ps qs dim d (wordL p)) % 1000000271
/-- the sum over the first i words of length n, each word's number times its value -/
def accW (ts : List Int) (f : Nat → Int) (n : Nat) : Nat → Int
  | 0 => 0
  | i + 1 => if (wordL i).length = n then plusF (accW ts f n i) (timesF (ts.getD i 0) (f i)) else accW ts f n i
def matF (ts : List Int) (F : Nat → Nat → Int) (o dim cnt d i : Nat) : List (List Int) := (List.range (o + 1)).map fun n => (List.range dim).map fun d' => accW ts (F d') n (if d' < d then cnt else if d' = d then i else 0)
theorem mat_at (ts : List Int) (F : Nat → Nat → Int) (o dim cnt d i : Nat) {n : Nat} (h : n ≤ o) : (matF ts F o dim cnt d i)[n]? = some ((List.range dim).map fun d' => accW ts (F d') n (if d' < d then cnt else if d' = d then i else 0)) := by
  simp [matF, show n < o + 1 by omega]
theorem mat_step (ts : List Int) (F : Nat → Nat → Int) (o dim cnt d i : Nat) (hd : d < dim) (hn : (wordL i).length ≤ o) :
    matF ts F o dim cnt d (i + 1) = (matF ts F o dim cnt d i).set (wordL i).length (((List.range dim).map fun d' => accW ts (F d') (wordL i).length (if d' < d then cnt else if d' = d then i else 0)).set d (plusF (accW ts (F d) (wordL i).length i) (timesF (ts.getD i 0) (F d i)))) := by
  apply List.ext_getElem?
  intro n
  by_cases hno : n ≤ o
  · rw [mat_at _ _ _ _ _ _ _ hno]
    by_cases he : (wordL i).length = n
    · subst he
      rw [List.getElem?_set_self (by simp [matF]; omega)]
      congr 1
      apply List.ext_getElem?
      intro q
      by_cases hq : q < dim
      · by_cases hqd : d = q
        · subst hqd
          rw [List.getElem?_set_self (by simpa using hd)]
          simp [hq, accW]
        · rw [List.getElem?_set_ne hqd]
          simp [hq, Ne.symm hqd]
      · rw [List.getElem?_eq_none (by simp; omega), List.getElem?_eq_none (by simp; omega)]
    · rw [List.getElem?_set_ne he, mat_at _ _ _ _ _ _ _ hno]
      congr 1
      refine List.map_congr_left fun q _ => ?_
      by_cases hqd : q < d
      · simp [hqd]
      · by_cases hqe : q = d
        · subst hqe
          simp [accW, he]
        · simp [hqd, hqe]
  · rw [List.getElem?_eq_none (by simp [matF]; omega), List.getElem?_eq_none (by simp [matF]; omega)]
theorem mat_next (ts : List Int) (F : Nat → Nat → Int) (o dim cnt d : Nat) : matF ts F o dim cnt d cnt = matF ts F o dim cnt (d + 1) 0 := by
  unfold matF
  refine List.map_congr_left fun n _ => List.map_congr_left fun q _ => ?_
  by_cases h1 : q < d
  · simp [h1, show q < d + 1 by omega]
  · by_cases h2 : q = d
    · subst h2; simp
    · simp [h1, h2, show ¬ q < d + 1 by omega]
theorem mat_zero (ts : List Int) (F : Nat → Nat → Int) (o dim cnt : Nat) : matF ts F o dim cnt 0 0 = List.replicate (o + 1) (zeroJ dim) := by
  apply List.ext_getElem?
  intro n
  by_cases hno : n ≤ o
  · rw [mat_at _ _ _ _ _ _ _ hno]
    simp only [List.getElem?_replicate, show n < o + 1 by omega, if_true]
    congr 1
    apply List.ext_getElem?
    intro q
    by_cases hq : q < dim
    · simp [hq, zeroJ, accW]
    · rw [List.getElem?_eq_none (by simp; omega), List.getElem?_eq_none (by simp [zeroJ]; omega)]
  · rw [List.getElem?_eq_none (by simp [matF]; omega), List.getElem?_eq_none (by simp; omega)]
theorem letter_ok {x : Int} (h : x = 0 ∨ x = 1) : isLetterF x = true := by rcases h with rfl | rfl <;> rfl
theorem place_app : ∀ (xs : List Int) (st b : Int), (∀ x ∈ xs, x = 0 ∨ x = 1) → (b = 0 ∨ b = 1) → placeGo st (xs ++ [b]) = 2 * placeGo st xs + 1 + b
  | [], st, b, _, hb => by
    show (if isLetterF b = true then placeGo (2 * st + 1 + b) [] else -1) = 2 * st + 1 + b
    rw [if_pos (letter_ok hb), placeGo]
  | x :: r, st, b, h, hb => by
    rw [List.cons_append, placeGo, placeGo, if_pos (letter_ok (h x List.mem_cons_self)), if_pos (letter_ok (h x List.mem_cons_self))]
    exact place_app r _ b (fun y hy => h y (List.mem_cons_of_mem _ hy)) hb
theorem place_word (p : Nat) : placeGo 0 (wordL p) = p := by
  induction p using Nat.strongRecOn with
  | ind p ih =>
    by_cases h : p = 0
    · subst h; rw [wordL_zero]; rfl
    · rw [wordL_pos (by omega), place_app _ _ _ (wordL_bit _) (by omega), ih ((p - 1) / 2) (by omega)]
      omega
theorem word_tail (p : Nat) (h : 0 < p) : ∃ x t q, wordL p = x :: t ∧ q < p ∧ wordL q = t ∧ (x = 0 ∨ x = 1) := by
  induction p using Nat.strongRecOn with
  | ind p ih =>
    rw [wordL_pos h]
    by_cases h2 : (p - 1) / 2 = 0
    · rw [h2, wordL_zero]
      exact ⟨_, [], 0, rfl, h, wordL_zero, by omega⟩
    · obtain ⟨x, t, q, e1, e2, e3, e4⟩ := ih ((p - 1) / 2) (by omega) (by omega)
      refine ⟨x, t ++ [(((p - 1) % 2 : Nat) : Int)], 2 * q + 1 + (p - 1) % 2, by rw [e1]; rfl, by omega, ?_, e4⟩
      rw [wordL_pos (by omega), ← e3, show (2 * q + 1 + (p - 1) % 2 - 1) / 2 = q by omega, show (2 * q + 1 + (p - 1) % 2 - 1) % 2 = (p - 1) % 2 by omega]
theorem place_tail {q : Nat} (h : (wordL q).length ≤ 5) : placeF (wordL q) = q := by rw [placeF, if_neg (by omega), place_word]

/-- a polynomial that a word has made -/
structure MadeP (ps qs : List (List Mono)) (dim d : Nat) (t : List Int) (ms : List Mono) : Prop where
  eqv : Eqv ms (canonL ps qs dim d t)
  num : ∀ m ∈ ms, 0 ≤ m.1 ∧ m.1 < 1000000271
  len : ms.length ≤ 36 ^ t.length
  pow : ∀ m ∈ ms, m.2.length = dim ∧ ∀ x ∈ m.2, 0 ≤ x ∧ x ≤ 1 + 5 * (t.length : Int)
/-- a field as the law needs it -/
structure FldP (dim : Nat) (ps : List (List Mono)) : Prop where
  len : ps.length = dim
  part : ∀ p ∈ ps, p.length ≤ 12 ∧ ∀ m ∈ p, m.2.length = dim ∧ ∀ x ∈ m.2, 0 ≤ x ∧ x ≤ 5
theorem flow_mem {dim : Nat} {C : Int} {ms : List Mono} (hms : ∀ m ∈ ms, m.2.length = dim ∧ ∀ x ∈ m.2, 0 ≤ x ∧ x ≤ C) : ∀ (ps : List (List Mono)) (i : Nat), (∀ p ∈ ps, p.length ≤ 12 ∧ ∀ m ∈ p, m.2.length = dim ∧ ∀ x ∈ m.2, 0 ≤ x ∧ x ≤ 5) →
    ∀ m ∈ flowGo ms i ps, m.2.length = dim ∧ ∀ x ∈ m.2, 0 ≤ x ∧ x ≤ C + 5
  | [], _, _, m, hm => by simp [flowGo] at hm
  | p :: r, i, hp, m, hm => by
    rw [flowGo] at hm
    rcases List.mem_append.1 hm with h1 | h1
    · simp only [mulMF, List.mem_flatMap, List.mem_map] at h1
      obtain ⟨a, ha, b, hb, rfl⟩ := h1
      obtain ⟨⟨l1, b1⟩, _⟩ := partF_mem hms a ha
      obtain ⟨l2, b2⟩ := (hp p List.mem_cons_self).2 b hb
      refine ⟨addP_len l1 l2, fun x hx => ?_⟩
      obtain ⟨k, hk⟩ := List.mem_iff_getElem?.1 hx
      have hkl := (List.getElem?_eq_some_iff.1 hk).1
      have hkd : k < dim := by rw [show (mulM a b).2 = addP a.2 b.2 from rfl, addP_len l1 l2] at hkl; exact hkl
      have e1 : a.2[k]? = some a.2[k] := List.getElem?_eq_getElem (by omega)
      have e2 : b.2[k]? = some b.2[k] := List.getElem?_eq_getElem (by omega)
      have e3 : (addP a.2 b.2)[k]? = some (a.2[k] + b.2[k]) := addP_at e1 e2
      rw [show (mulM a b).2 = addP a.2 b.2 from rfl, e3] at hk
      injection hk with hk
      have := b1 _ (List.mem_of_getElem? e1)
      have := b2 _ (List.mem_of_getElem? e2)
      omega
    · exact flow_mem hms r (i + 1) (fun p hp' => hp p (List.mem_cons_of_mem _ hp')) m h1
theorem flow_len (ms : List Mono) : ∀ (ps : List (List Mono)) (i : Nat), (∀ p ∈ ps, p.length ≤ 12) → (flowGo ms i ps).length ≤ ms.length * (12 * ps.length)
  | [], _, _ => by simp [flowGo]
  | p :: r, i, hp => by
    rw [flowGo, List.length_append, mulMF_len]
    have h1 : (partF ms i).length * p.length ≤ ms.length * 12 := Nat.mul_le_mul (partF_len ms i) (hp p List.mem_cons_self)
    have h2 := flow_len ms r (i + 1) (fun p hp' => hp p (List.mem_cons_of_mem _ hp'))
    have h3 : ms.length * (12 * (p :: r).length) = ms.length * 12 + ms.length * (12 * r.length) := by
      rw [List.length_cons, Nat.mul_succ, Nat.mul_add]; omega
    omega
theorem unitM_made (ps qs : List (List Mono)) (dim d : Nat) : MadeP ps qs dim d [] [unitM dim d] :=
  ⟨fun _ => rfl, fun m hm => by
    obtain rfl : m = unitM dim d := by simpa using hm
    simp [unitM], by simp, fun m hm => by
    obtain rfl : m = unitM dim d := by simpa using hm
    refine ⟨by simp [unitM, zeroJ], fun x hx => ?_⟩
    rcases List.mem_or_eq_of_mem_set hx with h1 | h1
    · have : x = 0 := by simp [zeroJ] at h1; exact h1.2
      subst this; simp
    · subst h1; simp⟩
theorem made_step {ps qs : List (List Mono)} {dim d : Nat} (hd : dim ≤ 3) (hps : FldP dim ps) (hqs : FldP dim qs) {x : Int} {t : List Int} {ms ms' : List Mono} (h : MadeP ps qs dim d t ms) (hc : Eqv ms' (flowGo ms 0 (if x = 0 then ps else qs)))
    (hn : ∀ m ∈ ms', 0 ≤ m.1 ∧ m.1 < 1000000271) (hl : ms'.length ≤ ms.length * 36) (hp : ∀ m ∈ ms', ∃ m' ∈ flowGo ms 0 (if x = 0 then ps else qs), m'.2 = m.2) : MadeP ps qs dim d (x :: t) ms' :=
  ⟨fun φ => by
    rw [canonL]
    exact (hc φ).trans (h.eqv.flow _ φ), hn, by
    rw [List.length_cons, Nat.pow_succ]
    exact Nat.le_trans hl (Nat.mul_le_mul_right _ h.len), fun m hm => by
    obtain ⟨m', h1, h2⟩ := hp m hm
    rw [← h2]
    have hf : FldP dim (if x = 0 then ps else qs) := by split <;> assumption
    obtain ⟨l, b⟩ := flow_mem h.pow _ 0 hf.part m' h1
    refine ⟨l, fun y hy => ?_⟩
    have := b y hy
    rw [List.length_cons]
    omega⟩
theorem MadeP.val {ps qs : List (List Mono)} {dim d : Nat} {t : List Int} {ms : List Mono} (h : MadeP ps qs dim d t ms) (ys : List Int) : valV ys ms 0 = sumM (evF ys) (canonL ps qs dim d t) % 1000000271 := by
  rw [valV_eq ys ms (fun m hm x hx => ((h.pow m hm).2 x hx).1), h.eqv]
theorem pow36 {L : Nat} (h : L ≤ 5) : 36 ^ L ≤ 60466176 := Nat.le_trans (Nat.pow_le_pow_right (by omega) h) (by decide)
end Go.Proofs.Ytjamdnbabfodkaa
/- The matrix that both texts fill, in memory; fields as the law needs them. -/
namespace Go.Proofs.Ytjamdnbabfodkaa
open Go.RowKit
set_option linter.unusedSimpArgs false
set_option linter.unusedVariables false
set_option maxRecDepth 20000

/-- rows of integers of one length, each in a block of its own -/
structure MatO (w : World) (lo hi : Nat) (A : Option Addr) (n c dim : Nat) (gs : List Nat) (xss : List (List Int)) : Prop where
  own : w.ownsRow lo 22 1 (.slice A n c) n (gs.map fun b => Value.slice (some ⟨b, 0, none⟩) dim dim)
  gl : gs.length = n
  xl : xss.length = n
  row : ∀ (j b : Nat) (xs : List Int), gs[j]? = some b → xss[j]? = some xs → w.ownsRow lo 3 1 (.slice (some ⟨b, 0, none⟩) dim dim) dim (xs.map (Value.int .i64)) ∧ ∀ x ∈ xs, R64 x
  sep : ∀ b ∈ gs, ∀ ad, A = some ad → ad.block ≠ b
  nodup : gs.Nodup
  lt : (∀ ad, A = some ad → ad.block < hi) ∧ ∀ b ∈ gs, b < hi
section
variable {w w' : World} {lo hi n c dim : Nat} {A : Option Addr} {gs : List Nat} {xss : List (List Int)}
theorem MatO.same (h : MatO w lo hi A n c dim gs xss) (hs : Same lo hi w w') : MatO w' lo hi A n c dim gs xss :=
  ⟨owns_same h.own (fun ad e => hs _ (owns_lt h.own ad e).1 (h.lt.1 ad e)), h.gl, h.xl, fun j b xs hg hx => by
    obtain ⟨r1, r2⟩ := h.row j b xs hg hx
    exact ⟨owns_same r1 (fun ad e => by injection e with e; subst e; exact hs b (r1.lt b rfl).1 (h.lt.2 b (List.mem_of_getElem? hg))), r2⟩, h.sep, h.nodup, h.lt⟩
theorem MatO.below (h : MatO w lo hi A n c dim gs xss) {B : Nat} (hb : Below B w w') (hB : hi ≤ B) : MatO w' lo hi A n c dim gs xss := h.same (.of_below hb hB)
theorem MatO.wide (h : MatO w lo hi A n c dim gs xss) {hi2 : Nat} (h2 : hi ≤ hi2) : MatO w lo hi2 A n c dim gs xss :=
  ⟨h.own, h.gl, h.xl, h.row, h.sep, h.nodup, ⟨fun ad e => by have := h.lt.1 ad e; omega, fun b hb => by have := h.lt.2 b hb; omega⟩⟩
theorem MatO.empty (w : World) (lo dim : Nat) (h : lo ≤ w.heap.size) : MatO (w.alloc (.cells #[] 22)) lo (w.heap.size + 1) (some ⟨w.heap.size, 0, none⟩) 0 0 dim [] [] :=
  ⟨by simpa using World.ownsRow_lit (size := 1) (e := 22) w #[] 0 h (by unfold maxLen; omega) (by simp), rfl, rfl, by simp, by simp, List.nodup_nil, ⟨fun ad e => by injection e with e; subst e; exact Nat.lt_succ_self _, by simp⟩⟩
theorem MatO.capb (h : MatO w lo hi A n c dim gs xss) : n ≤ c ∧ c ≤ 9223372036854775807 := by
  rcases h.own.2 with ⟨e, rfl⟩ | ⟨g', cap, cur, e, _, _, h1, h2, _⟩
  · injection e; omega
  · injection e with _ _ e3; unfold maxLen at h2; omega
theorem MatO.form (h : MatO w lo hi A n c dim gs xss) (hn : 0 < n) : ∃ g, A = some ⟨g, 0, none⟩ ∧ lo ≤ g ∧ g < hi := by
  rcases h.own.2 with ⟨_, e⟩ | ⟨g, _, _, e, h1, h2, _⟩
  · omega
  · injection e with e
    exact ⟨g, e, h1, h.lt.1 _ e⟩
/-- a row of zeros appended that has just been laid -/
theorem MatO.push (h : MatO w lo hi A n c dim gs xss) (hhi : hi ≤ w.heap.size) (hlo : lo ≤ w.heap.size) (hd : dim ≤ 1000) {A' : Option Addr} {c' : Nat}
    (hap : Appended (w.alloc (.cells (zeros dim) 3)) lo 22 1 A n c A' (n + 1) c' (gs.map (fun b => Value.slice (some ⟨b, 0, none⟩) dim dim) ++ [Value.slice (some ⟨w.heap.size, 0, none⟩) dim dim]) w') :
    MatO w' lo w'.heap.size A' (n + 1) c' dim (gs ++ [w.heap.size]) (xss ++ [zeroJ dim]) := by
  have h1 := h.below (below_alloc w (.cells (zeros dim) 3)) hhi
  obtain ⟨p1, p2, p3⟩ := hap
  have hsz := p2.size
  simp at hsz
  have hz : (w.alloc (.cells (zeros dim) 3)).ownsRow lo 3 1 (.slice (some ⟨w.heap.size, 0, none⟩) dim dim) dim ((zeroJ dim).map (Value.int .i64)) := owns_zeros w dim (by omega) hlo
  have keepA : ∀ b, b < w.heap.size + 1 → (∀ ad, A = some ad → ad.block ≠ b) → w'.heap[b]? = (w.alloc (.cells (zeros dim) 3)).heap[b]? := fun b hb hne => p2.block b (by simp; omega) (fun e => by
    obtain ⟨ad, e1, e2⟩ := ownBlock_eq.1 e.symm
    exact hne ad e1 e2)
  have hneN : ∀ ad, A = some ad → ad.block ≠ w.heap.size := fun ad e => by have := h.lt.1 ad e; omega
  refine ⟨by rw [List.map_append]; exact p1, by simp [h.gl], by simp [h.xl], fun j b xs hg hx => ?_, fun b hb ad e => ?_, ?_, ⟨fun ad e => (owns_lt p1 ad e).2, fun b hb => ?_⟩⟩
  · have hgl := h.gl
    have hxl := h.xl
    by_cases hj : j < n
    · rw [List.getElem?_append_left (by omega)] at hg hx
      obtain ⟨r1, r2⟩ := h1.row j b xs hg hx
      have hbm := List.mem_of_getElem? hg
      exact ⟨owns_same r1 (fun ad e => by injection e with e; subst e; exact keepA b (by have := h.lt.2 b hbm; omega) (h.sep b hbm)), r2⟩
    · have hj2 := (List.getElem?_eq_some_iff.1 hg).1
      simp at hj2
      obtain rfl : j = n := by omega
      have e1 : b = w.heap.size := by
        rw [← hgl] at hg
        simpa using hg.symm
      have e2 : xs = zeroJ dim := by
        rw [← hxl] at hx
        simpa using hx.symm
      subst e1 e2
      refine ⟨owns_same hz (fun ad e => by injection e with e; subst e; exact keepA _ (by show w.heap.size < _; omega) hneN), fun x hx => ?_⟩
      have : x = 0 := by simp [zeroJ] at hx; exact hx.2
      subst this
      constructor <;> omega
  · rcases p3 with h3 | h3
    · rcases List.mem_append.1 hb with h4 | h4
      · exact h.sep b h4 ad (h3 ad e)
      · obtain rfl : b = w.heap.size := by simpa using h4
        exact hneN ad (h3 ad e)
    · have h5 := h3 ad e
      simp at h5
      rcases List.mem_append.1 hb with h4 | h4
      · have := h.lt.2 b h4; omega
      · obtain rfl : b = w.heap.size := by simpa using h4
        omega
  · rw [List.nodup_append]
    refine ⟨h.nodup, by simp, fun a ha b hb => ?_⟩
    obtain rfl : b = w.heap.size := by simpa using hb
    have := h.lt.2 a ha
    omega
  · rcases List.mem_append.1 hb with h4 | h4
    · have := h.lt.2 b h4; omega
    · obtain rfl : b = w.heap.size := by simpa using h4
      omega
/-- a number stored -/
theorem MatO.store (h : MatO w lo hi A n c dim gs xss) {j b : Nat} {xs : List Int} (hg : gs[j]? = some b) (hx : xss[j]? = some xs) (d : Nat) {x : Int} (hr : R64 x) : MatO (w.setCell ⟨b, d, none⟩ (.int .i64 x)) lo hi A n c dim gs (xss.set j (xs.set d x)) := by
  have hxl := h.xl
  have hgl := h.gl
  have hjx := (List.getElem?_eq_some_iff.1 hx).1
  refine ⟨owns_setCell h.own (p := ⟨b, d, none⟩) (fun ad e => h.sep b (List.mem_of_getElem? hg) ad e) _, hgl, by simpa using hxl, fun q b' ys hg' hy => ?_, h.sep, h.nodup, h.lt⟩
  by_cases hq : j = q
  · subst hq
    rw [hg] at hg'
    injection hg' with hg'
    subst hg'
    rw [List.getElem?_set_self hjx] at hy
    injection hy with hy
    subst hy
    obtain ⟨r1, r2⟩ := h.row j b xs hg hx
    have st := (r1.stored d (.int .i64 x)).1
    refine ⟨by rw [List.map_set]; exact st, fun y hy => ?_⟩
    rcases List.mem_or_eq_of_mem_set hy with h1 | h1
    · exact r2 y h1
    · rw [h1]; exact hr
  · rw [List.getElem?_set_ne hq] at hy
    obtain ⟨r1, r2⟩ := h.row q b' ys hg' hy
    refine ⟨owns_setCell r1 (p := ⟨b, d, none⟩) (fun ad e => ?_) _, r2⟩
    injection e with e
    subst e
    intro e2
    simp only at e2
    subst e2
    have hp := h.nodup
    exact hq ((List.getElem?_inj (by have := (List.getElem?_eq_some_iff.1 hg).1; omega) hp).1 (hg.trans hg'.symm))
theorem MatO.at_ {g : Nat} (h : MatO w lo hi (some ⟨g, 0, none⟩) n c dim gs xss) {j : Nat} (hj : j < n) : ∃ b xs, gs[j]? = some b ∧ xss[j]? = some xs ∧ w.cell? ⟨g, j, none⟩ = some (.slice (some ⟨b, 0, none⟩) dim dim) ∧ w.ownsRow lo 3 1 (.slice (some ⟨b, 0, none⟩) dim dim) dim (xs.map (Value.int .i64)) := by
  have hgl := h.gl
  have hxl := h.xl
  have e1 : gs[j]? = some gs[j] := List.getElem?_eq_getElem (by omega)
  have e2 : xss[j]? = some xss[j] := List.getElem?_eq_getElem (by omega)
  refine ⟨_, _, e1, e2, (h.own.cellAt j (by omega)).trans (by rw [List.getElem?_map, e1]; rfl), (h.row j _ _ e1 e2).1⟩
theorem MatO.ints2 (h : MatO w lo hi A n c dim gs xss) (hd : dim ≤ 1000) : Ints2 w lo hi A n c xss := by
  have hc := h.capb
  refine ⟨h.xl, hc.1, hc.2, fun hn => ?_⟩
  obtain ⟨g, rfl, h1, h2⟩ := h.form hn
  refine ⟨_, rfl, h1, h2, fun j xs hx => ?_⟩
  have hj := (List.getElem?_eq_some_iff.1 hx).1
  have hxl := h.xl
  obtain ⟨b, xs', e1, e2, e3, _⟩ := h.at_ (j := j) (by omega)
  rw [hx] at e2
  injection e2 with e2
  subst e2
  obtain ⟨r1, r2⟩ := h.row j b xs e1 hx
  refine ⟨some ⟨b, 0, none⟩, dim, dim, by simpa [Addr.add_lit] using e3, ?_⟩
  have hbl := h.lt.2 b (List.mem_of_getElem? e1)
  have hO : OwnI w lo hi (some ⟨b, 0, none⟩) dim dim xs := ⟨r1, fun ad e => by injection e with e; subst e; exact hbl, r2⟩
  exact hO.ints
end

/-- a slice with one row -/
theorem ints2_row {w : World} {lo hi : Nat} {Y : Option Addr} {m d : Nat} {ys : List Int} (h : Ints w lo hi Y m d ys) (hh : hi ≤ w.heap.size) (T : TypeId) : Ints2 (w.alloc (.cells #[.slice Y m d] T)) 0 (w.heap.size + 1) (some ⟨w.heap.size, 0, none⟩) 1 1 [ys] := by
  refine ⟨rfl, Nat.le_refl _, by omega, fun _ => ⟨_, rfl, Nat.zero_le _, Nat.lt_succ_self _, fun j xs hx => ?_⟩⟩
  have hj : j = 0 := by
    have := (List.getElem?_eq_some_iff.1 hx).1
    simpa using this
  subst hj
  obtain rfl : ys = xs := by simpa using hx
  exact ⟨Y, m, d, by simp [Addr.add_lit], (h.below (below_alloc w _) hh).wide (Nat.zero_le _) (by omega)⟩

theorem deg_entries : ∀ (l : List Int) (s : Int), 0 ≤ s → 0 ≤ degGo s l → ∀ x ∈ l, 0 ≤ x ∧ x ≤ 5
  | [], _, _, _ => by simp
  | p :: r, s, hs, h => by
    rw [degGo] at h
    split at h
    · omega
    · intro x hx
      rcases List.mem_cons.1 hx with h1 | h1
      · rw [h1]; omega
      · exact deg_entries r (s + p) (by omega) h x h1
theorem poly_fld {dim : Nat} : ∀ (ms : List Mono) (prev : Option (List Int)), polyGo (dim : Int) prev ms = true → ∀ m ∈ ms, m.2.length = dim ∧ (∀ x ∈ m.2, 0 ≤ x ∧ x ≤ 5) ∧ (0 ≤ m.1 ∧ m.1 < 1000000271)
  | [], _, _ => by simp
  | a :: r, prev, h => by
    rw [polyGo] at h
    split at h
    · rename_i hm
      intro m hm2
      rcases List.mem_cons.1 hm2 with h1 | h1
      · rw [h1]
        simp only [monoOk, Bool.and_eq_true, decide_eq_true_eq] at hm
        obtain ⟨⟨⟨⟨⟨_, hnum⟩, hlen⟩, hd0⟩, _⟩, _⟩ := hm
        exact ⟨by omega, deg_entries a.2 0 (by omega) hd0, (isNumF_iff _).1 hnum⟩
      · exact poly_fld r _ h m h1
    · cases h
theorem fieldGo_mem {dim : Int} : ∀ (ps : List (List Mono)), fieldGo dim ps = true → ∀ p ∈ ps, polyF p dim = true
  | [], _ => by simp
  | a :: r, h => by
    rw [fieldGo] at h
    split at h
    · rename_i hp
      intro p hp2
      rcases List.mem_cons.1 hp2 with h1 | h1
      · rw [h1]; exact hp
      · exact fieldGo_mem r h p h1
    · cases h
theorem fld_of {dim : Int} {ps : List (List Mono)} (h : fieldF dim ps = true) : ∃ d : Nat, dim = d ∧ FldP d ps ∧ 1 ≤ d ∧ d ≤ 6 ∧ ∀ p ∈ ps, ∀ m ∈ p, 0 ≤ m.1 ∧ m.1 < 1000000271 := by
  simp only [fieldF, Bool.and_eq_true, decide_eq_true_eq] at h
  obtain ⟨⟨⟨h1, h2⟩, h3⟩, h4⟩ := h
  obtain ⟨d, rfl⟩ : ∃ d : Nat, dim = d := ⟨dim.toNat, by omega⟩
  refine ⟨d, rfl, ⟨by omega, fun p hp => ?_⟩, by omega, by omega, fun p hp => ?_⟩
  · have hpf := fieldGo_mem ps h4 p hp
    simp only [polyF, Bool.and_eq_true, decide_eq_true_eq] at hpf
    obtain ⟨⟨_, h6⟩, h7⟩ := hpf
    exact ⟨h6, fun m hm => ⟨(poly_fld p _ h7 m hm).1, (poly_fld p _ h7 m hm).2.1⟩⟩
  · have hpf := fieldGo_mem ps h4 p hp
    simp only [polyF, Bool.and_eq_true, decide_eq_true_eq] at hpf
    exact fun m hm => (poly_fld p _ hpf.2 m hm).2.2

/-- a slice of monomials that can be read, as an element -/
def kMo : Kd (List Mono) := ⟨fun w l h v ms => ∃ B m d, v = .slice B m d ∧ Mons w l h B m d ms, fun ⟨B, m, d, e, hI⟩ hs => ⟨B, m, d, e, hI.same hs⟩, fun ⟨_, _, _, e, _⟩ => by rw [e]; rfl⟩
theorem Lst.setLow {α : Type} {K : Kd α} {T : TypeId} {P : Nat → Prop} {w : World} {lo hi : Nat} {A : Option Addr} {n c : Nat} {vs : List Value} {xs : List α} (h : Lst K T P w lo hi A n c vs xs) {p : Addr} (hp : p.block < lo) (u : Value) : Lst K T P (w.setCell p u) lo hi A n c vs xs :=
  ⟨owns_setCell h.own (p := p) (fun ad e => by have := (owns_lt h.own ad e).1; omega) u, h.lt, h.len, fun j x hx hP => by
    obtain ⟨v, l, h', e1, e2, e3, e4, e5⟩ := h.row j x hx hP
    exact ⟨v, l, h', e1, K.same e2 ((Same.refl _ _ _).setCell (.inl (by omega)) u), e3, e4, e5⟩⟩
end Go.Proofs.Ytjamdnbabfodkaa
