/- Words of two fields along a point, in plain Lean: what the reference asks first, what its polynomials are, and their values. -/
import Derived.Test.YtjamdnbabfodkaaSoV
import Derived.Test.YtjamdnbabfodkaaMgG
import Derived.Test.YtjamdnbabfodkaaMgD
namespace Go.Proofs.Ytjamdnbabfodkaa
open Go.RowKit
set_option linter.unusedSimpArgs false
set_option linter.unusedVariables false
set_option maxRecDepth 20000

/-- what the reference asks -/
def okSL (o : Int) (ts : List Int) (df : Int) (ps : List (List Mono)) (dg : Int) (qs : List (List Mono)) (ys : List Int) : Bool :=
  wordsOkF o ts && ((fieldF df ps && pathOkF [ys] df) && ((fieldF dg qs && pathOkF [ys] dg) && (simpF df ps && simpF dg qs)))
theorem path_one {ys : List Int} {d : Int} (h : pathOkF [ys] d = true) : (ys.length : Int) = d ∧ ∀ x ∈ ys, 0 ≤ x ∧ x < 1000000271 := by
  unfold pathOkF pathGo at h
  by_cases h1 : (decide ((ys.length : Int) = d) && allNumF ys) = true
  · simp only [Bool.and_eq_true, decide_eq_true_eq] at h1
    exact ⟨h1.1, allNumF_mem h1.2⟩
  · rw [if_neg h1, Bool.and_false] at h
    cases h
theorem low_simp {dim : Nat} {ps : List (List Mono)} (h : FldP dim ps) : ps.all simpP = lowF ps := by
  unfold lowF
  have : ∀ p ∈ ps, simpP p = lowP p := fun p hp => by
    unfold simpP lowP
    have h2 : ∀ m ∈ p, decide (sumGo 0 m.2 ≤ 2) = decide (degGo 0 m.2 ≤ 2) := fun m hm => by
      rw [deg_sum m.2 0 ((h.part p hp).2 m hm).2]
    rw [Bool.eq_iff_iff, List.all_eq_true, List.all_eq_true]
    exact ⟨fun g m hm => by rw [← h2 m hm]; exact g m hm, fun g m hm => by rw [h2 m hm]; exact g m hm⟩
  rw [Bool.eq_iff_iff, List.all_eq_true, List.all_eq_true]
  exact ⟨fun g m hm => by rw [← this m hm]; exact g m hm, fun g m hm => by rw [this m hm]; exact g m hm⟩
theorem ok_same (o : Int) (ts : List Int) (df : Int) (ps : List (List Mono)) (dg : Int) (qs : List (List Mono)) (ys : List Int) : okSL o ts df ps dg qs ys = okWL o ts df ps dg qs ys := by
  unfold okSL okWL
  cases wordsOkF o ts with
  | false => rfl
  | true =>
    cases h2 : fieldF df ps with
    | false => rfl
    | true =>
      cases h3 : fieldF dg qs with
      | false => simp
      | true =>
        obtain ⟨d, rfl, hp, _⟩ := fld_of h2
        obtain ⟨e, rfl, hq, _⟩ := fld_of h3
        unfold simpF
        rw [low_simp hp, low_simp hq]
        by_cases h4 : (d : Int) = e
        · rw [← h4]
          cases pathOkF [ys] (d : Int) <;> cases lowF ps <;> cases lowF qs <;> by_cases h5 : (d : Int) ≤ 3 <;> simp [h5]
        · cases h6 : pathOkF [ys] (d : Int) with
          | false => simp
          | true =>
            cases h7 : pathOkF [ys] (e : Int) with
            | false => simp [h4]
            | true =>
              exfalso
              have := (path_one h6).1
              have := (path_one h7).1
              omega

/-- what a good call's arguments are -/
structure OkW (o : Int) (ts : List Int) (df : Int) (ps : List (List Mono)) (dg : Int) (qs : List (List Mono)) (ys : List Int) (o' dim : Nat) : Prop where
  ord : o = o' ∧ o' ≤ 5
  num : ts.length = cntN o ∧ ∀ x ∈ ts, 0 ≤ x ∧ x < 1000000271
  dims : df = dim ∧ dg = dim ∧ 0 < dim ∧ dim ≤ 3
  fps : FldP dim ps
  fqs : FldP dim qs
  pt : ys.length = dim ∧ ∀ x ∈ ys, 0 ≤ x ∧ x < 1000000271
theorem ok_parts {o : Int} {ts : List Int} {df : Int} {ps : List (List Mono)} {dg : Int} {qs : List (List Mono)} {ys : List Int} (h : okWL o ts df ps dg qs ys = true) : ∃ o' dim : Nat, OkW o ts df ps dg qs ys o' dim := by
  simp only [okWL, Bool.and_eq_true, decide_eq_true_eq] at h
  obtain ⟨h1, h2, h3, rfl, h5, h6, h7, h8⟩ := h
  obtain ⟨d, rfl, hp, hd1, hd6, _⟩ := fld_of h2
  obtain ⟨e, he, hq, _⟩ := fld_of h3
  obtain rfl : d = e := by omega
  simp only [wordsOkF, Bool.and_eq_true, decide_eq_true_eq] at h1
  obtain ⟨⟨o1, o2⟩, o3, o4⟩ := h1
  obtain ⟨y1, y2⟩ := path_one h8
  exact ⟨o.toNat, d, ⟨by omega, by omega⟩, ⟨by omega, allNumF_mem o4⟩, ⟨rfl, rfl, by omega, by omega⟩, hp, hq, ⟨by omega, y2⟩⟩

/-! the reference's polynomials -/
theorem put_src (s : List Mono) (m : Mono) : ∀ q ∈ putF s m, q.2 = m.2 ∨ q ∈ s := fun q h => putR_mem s m q (List.mem_filter.1 h).1
theorem row_src (a : Mono) : ∀ (bs s : List Mono), ∀ q ∈ rowS s a bs, (∃ b ∈ bs, (mulM a b).2 = q.2) ∨ q ∈ s
  | [], _, q, h => .inr h
  | b :: r, s, q, h => by
    rcases row_src a r (putF s (mulM a b)) q h with ⟨b', h1, h2⟩ | h1
    · exact .inl ⟨b', List.mem_cons_of_mem _ h1, h2⟩
    · rcases put_src s _ q h1 with h2 | h2
      · exact .inl ⟨b, List.mem_cons_self, h2.symm⟩
      · exact .inr h2
theorem times_src (bs : List Mono) : ∀ (aa s : List Mono), ∀ q ∈ timesS s aa bs, (∃ m ∈ mulMF aa bs, m.2 = q.2) ∨ q ∈ s
  | [], _, q, h => .inr h
  | a :: r, s, q, h => by
    rcases times_src bs r (rowS s a bs) q h with ⟨m, h1, h2⟩ | h1
    · refine .inl ⟨m, ?_, h2⟩
      simp only [mulMF, List.flatMap_cons, List.mem_append]
      exact .inr h1
    · rcases row_src a bs s q h1 with ⟨b, h2, h3⟩ | h2
      · refine .inl ⟨mulM a b, ?_, h3⟩
        simp only [mulMF, List.flatMap_cons, List.mem_append, List.mem_map]
        exact .inl ⟨b, h2, rfl⟩
      · exact .inr h2
theorem ch_src (ms : List Mono) : ∀ (ps : List (List Mono)) (s : List Mono) (i : Nat), ∀ q ∈ chGo ms s i ps, (∃ m ∈ flowGo ms i ps, m.2 = q.2) ∨ q ∈ s
  | [], _, _, q, h => .inr h
  | p :: r, s, i, q, h => by
    rcases ch_src ms r _ (i + 1) q h with ⟨m, h1, h2⟩ | h1
    · exact .inl ⟨m, by rw [flowGo]; exact List.mem_append_right _ h1, h2⟩
    · rcases times_src p _ s q h1 with ⟨m, h2, h3⟩ | h2
      · exact .inl ⟨m, by rw [flowGo]; exact List.mem_append_left _ h2, h3⟩
      · exact .inr h2
theorem made_ch {ps qs : List (List Mono)} {dim d : Nat} (hd : dim ≤ 3) (hps : FldP dim ps) (hqs : FldP dim qs) {x : Int} {t : List Int} {ms : List Mono} (h : MadeP ps qs dim d t ms)
    (hG : GoodS dim (chGo ms [] 0 (if x = 0 then ps else qs))) (hl : (chGo ms [] 0 (if x = 0 then ps else qs)).length ≤ ms.length * 12 * dim) : MadeP ps qs dim d (x :: t) (chGo ms [] 0 (if x = 0 then ps else qs)) := by
  refine made_step hd hps hqs h (ch_eqv _ _) hG.num ?_ (fun m hm => ?_)
  · refine Nat.le_trans hl ?_
    rw [Nat.mul_assoc]
    exact Nat.mul_le_mul_left _ (by omega)
  · rcases ch_src ms _ [] 0 m hm with h1 | h1
    · exact h1
    · simp at h1

/-! values at the point, as polynomials in h of length 1 -/
theorem jmul1 (a : Int) (b : List Int) : jmul [a] b = [a * b.getD 0 0 % 1000000271] := by
  simp [jmul, jmulP, tabJ, psum]
theorem pow1 (b : List Int) : ∀ (k : Nat) (o : Int), ∃ x, powJ k [o] b = [x] ∧ x % 1000000271 = (o * b.getD 0 0 ^ k) % 1000000271
  | 0, o => ⟨o, rfl, by rw [Int.pow_zero, Int.mul_one]⟩
  | k + 1, o => by
    obtain ⟨x, h1, h2⟩ := pow1 b k (o * b.getD 0 0 % 1000000271)
    refine ⟨x, by rw [powJ, jmul1]; exact h1, ?_⟩
    rw [h2, Int.pow_succ, Int.mul_comm (b.getD 0 0 ^ k), ← Int.mul_assoc]
    exact mul_cong (Int.emod_emod_of_dvd _ (Int.dvd_refl _))
theorem prod1 (ys : List Int) (Y : Nat → List Int) (hY : ∀ v, (Y v).getD 0 0 = ys.getD v 0) : ∀ (pw : List Int) (v : Nat) (o : Int), ∃ x, prodJ Y pw v [o] = [x] ∧ x % 1000000271 = (o * evGo ys v pw) % 1000000271
  | [], _, o => ⟨o, rfl, by rw [evGo, Int.mul_one]⟩
  | p :: r, v, o => by
    obtain ⟨x, h1, h2⟩ := pow1 (Y v) p.toNat o
    obtain ⟨z, h3, h4⟩ := prod1 ys Y hY r (v + 1) x
    refine ⟨z, by rw [prodJ, h1]; exact h3, ?_⟩
    rw [h4, evGo, ← Int.mul_assoc]
    refine mul_cong ?_
    rw [h2, hY]
theorem der1 (ys : List Int) (Y : Nat → List Int) (hY : ∀ v, (Y v).getD 0 0 = ys.getD v 0) : ∀ (ms : List Mono) (o : Int), (0 ≤ o ∧ o < 1000000271) → ∃ x, derJ 1 Y ms [o] = [x] ∧ (0 ≤ x ∧ x < 1000000271) ∧ x % 1000000271 = (o + sumM (evF ys) ms) % 1000000271
  | [], o, h => ⟨o, rfl, h, by rw [sumM, Int.add_zero]⟩
  | m :: r, o, h => by
    obtain ⟨q, h1, h2⟩ := prod1 ys Y hY m.2 0 1
    have hj : jplus [o] (prodJ Y m.2 0 (unitJ 1 1)) m.1 = [plusF o (timesF q m.1)] := by
      have e : unitJ 1 1 = [1] := rfl
      rw [e, h1]
      simp [jplus, tabJ]
    obtain ⟨x, h3, h4, h5⟩ := der1 ys Y hY r (plusF o (timesF q m.1)) (plusF_bd _ _)
    refine ⟨x, by rw [derJ, hj]; exact h3, h4, ?_⟩
    rw [h5, sumM, ← Int.add_assoc]
    refine add_cong ?_ rfl
    rw [plusF_mod]
    refine add_cong rfl ?_
    rw [timesF_mod, Int.mul_comm m.1]
    refine mul_cong ?_
    rw [h2, Int.one_mul]
    rfl
theorem turn_one {ys : List Int} {dim : Nat} (hl : ys.length = dim) (v : Nat) : ((turnL [ys] dim).getD v []).getD 0 0 = ys.getD v 0 := by
  by_cases h : v < dim
  · have e : (turnL [ys] dim).getD v [] = [ys.getD v 0] := by rw [List.getD_eq_getElem?_getD, turn_at _ h]; rfl
    rw [e]
    rfl
  · have e : (turnL [ys] dim).getD v [] = [] := by rw [List.getD_eq_getElem?_getD, List.getElem?_eq_none (by rw [turn_len]; omega)]; rfl
    rw [e, List.getD_eq_getElem?_getD, List.getD_eq_getElem?_getD, List.getElem?_eq_none (by omega : ys.length ≤ v)]
    rfl
theorem der_val {ys : List Int} {dim : Nat} (hl : ys.length = dim) (ms : List Mono) : derJ 1 (fun v => (turnL [ys] dim).getD v []) ms [0] = [sumM (evF ys) ms % 1000000271] := by
  obtain ⟨x, h1, h2, h3⟩ := der1 ys (fun v => (turnL [ys] dim).getD v []) (turn_one hl) ms 0 (by omega)
  rw [h1]
  rw [Int.zero_add] at h3
  congr 1
  omega

/-- a slice with one element -/
theorem Lst.one {α : Type} (K : Kd α) (T : TypeId) (P : Nat → Prop) (w : World) {lo l h' : Nat} {v : Value} {x : α} (hr : K.rd w l h' v x) (hl : lo ≤ l) (hh : h' ≤ w.heap.size) (hlo : lo ≤ w.heap.size) :
    Lst K T P (w.alloc (.cells #[v] T)) lo (w.heap.size + 1) (some ⟨w.heap.size, 0, none⟩) 1 1 [v] [x] :=
  ⟨by simpa using World.ownsRow_lit (size := 1) (e := T) w #[v] 1 hlo (by unfold maxLen; omega) (by simp), fun ad e => by injection e with e; subst e; exact Nat.lt_succ_self _, rfl, fun j y hy _ => by
    have hj := (List.getElem?_eq_some_iff.1 hy).1
    obtain rfl : j = 0 := by simpa using hj
    obtain rfl : x = y := by simpa using hy
    exact ⟨v, l, h', rfl, K.same hr (.of_below (below_alloc w _) hh), hl, by omega, fun ad e => by injection e with e; subst e; exact .inl hh⟩⟩
end Go.Proofs.Ytjamdnbabfodkaa
