/- Steps of pairs along paths: what the law's walk uses. -/
import Derived.Test.YtlmkjfgomlamhaaJetH
import Derived.Test.YtlmkjfgomlamhaaJetD
import Derived.Test.YtlmkjfgomlamhaaMarks
import Derived.Test.YtlmkjfgomlamhaaFld
namespace Go.Proofs.Ytlmkjfgomlamhaa
open Go.RowKit
set_option linter.unusedSimpArgs false
set_option linter.unusedVariables false
set_option maxRecDepth 20000

theorem szRows_ok2 (xss : List (List Int)) {l : Int} (h0 : 0 ≤ l) (h1 : l ≤ 1048576) : (szRowsF xss l < 0) ∨ (0 ≤ szRowsF xss l ∧ xss.length ≤ 1048576 ∧ ∀ xs ∈ xss, xs.length ≤ 1048576) := by
  unfold szRowsF
  split
  · exact .inl (by omega)
  · have h := szRowsGo_bd xss (l - xss.length) (by omega)
    by_cases h0 : szRowsGo xss (l - xss.length) < 0
    · exact .inl h0
    · exact .inr ⟨by omega, by omega, fun xs hx => by have := h.2 (by omega) xs hx; omega⟩

/-- the four rows of a pair, each in blocks of its own -/
def PairS (wr : World) (lo hi : Nat) (A : Option Addr) (n c : Nat) (xs : List Int) (B : Option Addr) (m d : Nat) (ys : List Int) (A' : Option Addr) (n' c' : Nat) (xs' : List Int) (B' : Option Addr) (m' d' : Nat) (ys' : List Int) : Prop :=
  ∃ m1 m2 m3, OwnI wr lo m1 A n c xs ∧ OwnI wr m1 m2 B m d ys ∧ OwnI wr m2 m3 A' n' c' xs' ∧ OwnI wr m3 hi B' m' d' ys' ∧ lo ≤ m1 ∧ m1 ≤ m2 ∧ m2 ≤ m3 ∧ m3 ≤ hi
section
variable {w w' : World} {lo hi : Nat} {A : Option Addr} {n c : Nat} {xs : List Int} {B : Option Addr} {m d : Nat} {ys : List Int} {A' : Option Addr} {n' c' : Nat} {xs' : List Int} {B' : Option Addr} {m' d' : Nat} {ys' : List Int}
theorem PairS.same (h : PairS w lo hi A n c xs B m d ys A' n' c' xs' B' m' d' ys') (hs : Same lo hi w w') : PairS w' lo hi A n c xs B m d ys A' n' c' xs' B' m' d' ys' := by
  obtain ⟨m1, m2, m3, a, b, c, d, e1, e2, e3, e4⟩ := h
  exact ⟨m1, m2, m3, a.same fun k p q => hs k (by omega) (by omega), b.same fun k p q => hs k (by omega) (by omega), c.same fun k p q => hs k (by omega) (by omega), d.same fun k p q => hs k (by omega) (by omega), e1, e2, e3, e4⟩
theorem PairS.below {N : Nat} (h : PairS w lo hi A n c xs B m d ys A' n' c' xs' B' m' d' ys') (hb : Below N w w') (hN : hi ≤ N) : PairS w' lo hi A n c xs B m d ys A' n' c' xs' B' m' d' ys' := h.same (.of_below hb hN)
theorem PairS.le (h : PairS w lo hi A n c xs B m d ys A' n' c' xs' B' m' d' ys') : lo ≤ hi := by
  obtain ⟨m1, m2, m3, _, _, _, _, e1, e2, e3, e4⟩ := h
  omega
theorem PairS.ints (h : PairS w lo hi A n c xs B m d ys A' n' c' xs' B' m' d' ys') {H : Nat} (hH : hi ≤ H) : Ints w 0 H A n c xs ∧ Ints w 0 H B m d ys ∧ Ints w 0 H A' n' c' xs' ∧ Ints w 0 H B' m' d' ys' := by
  obtain ⟨m1, m2, m3, a, b, c, d, e1, e2, e3, e4⟩ := h
  exact ⟨a.ints.wide (Nat.zero_le _) (by omega), b.ints.wide (Nat.zero_le _) (by omega), c.ints.wide (Nat.zero_le _) (by omega), d.ints.wide (Nat.zero_le _) (by omega)⟩
theorem PairS.form (h : PairS w lo hi A n c xs B m d ys A' n' c' xs' B' m' d' ys') : (0 < n → ∃ g, A = some ⟨g, 0, none⟩) ∧ (0 < n' → ∃ g, A' = some ⟨g, 0, none⟩) := by
  obtain ⟨m1, m2, m3, a, b, c, d, e1, e2, e3, e4⟩ := h
  exact ⟨fun hn => by obtain ⟨g, e, _⟩ := a.form hn; exact ⟨g, e⟩, fun hn => by obtain ⟨g, e, _⟩ := c.form hn; exact ⟨g, e⟩⟩
end

set_option maxHeartbeats 1000000 in
theorem laws_markPairR (s : Int) (A : Option Addr) (n c : Nat) (xs : List Int) (B : Option Addr) (m d : Nat) (ys : List Int) (s' : Int) (A' : Option Addr) (n' c' : Nat) (xs' : List Int) (B' : Option Addr) (m' d' : Nat) (ys' : List Int) (lo hi : Nat) (k0 : Int) (w : World) (h : PairS w lo hi A n c xs B m d ys A' n' c' xs' B' m' d' ys') (hh : hi ≤ w.heap.size) (hk0 : 0 ≤ k0) (hk1 : k0 + n + m + n' + m' ≤ 4611686018427387904) :
    Calls Try.prog 17 #[.agg #[.int .i64 s, .slice A n c, .slice B m d, .int .i64 s', .slice A' n' c', .slice B' m' d'], .int .i64 k0] w fun e w' => e = .returned (.int .i64 (k0 + n + m + n' + m')) ∧ Touch lo hi w w' := by
  obtain ⟨m1, m2, m3, h, g, h', g', q1, q2, q3, q4⟩ := h
  have a1 := below_alloc w (.cells #[.int .i64 s, .slice A n c, .slice B m d, .int .i64 s', .slice A' n' c', .slice B' m' d'] 37)
  have j1 := BlkN.new w #[.int .i64 s, .slice A n c, .slice B m d, .int .i64 s', .slice A' n' c', .slice B' m' d'] 37
  have z0 := a1.size
  have o1 := h.below a1 (by omega)
  have o2 := g.below a1 (by omega)
  have o3 := h'.below a1 (by omega)
  have o4 := g'.below a1 (by omega)
  go_enter Try.func17, Try.ntmps17
  go_wp2_with fail
  generalize World.alloc w (.cells #[.int .i64 s, .slice A n c, .slice B m d, .int .i64 s', .slice A' n' c', .slice B' m' d'] 37) = W at a1 j1 z0 o1 o2 o3 o4 ⊢
  have q1' := j1.lt
  refine (laws_markTableau s A n c xs B m d ys lo m1 m1 m2 lo hi k0 W o1 o2 (by omega) (by omega) (by omega) hk0 (by omega)).mono ?_
  rintro e w1 ⟨rfl, p1, p2, t1, s1⟩
  have k1 := j1.touch t1 (by omega)
  have p3 := o3.same (s1 _ _ (by omega) (by omega) (by omega))
  have p4 := o4.same (s1 _ _ (by omega) (by omega) (by omega))
  have e3 := k1.c 3 rfl
  have e4 := k1.c 4 rfl
  have e5 := k1.c 5 rfl
  have z1 := t1.size
  go_wp2_with fail
  clear e3 e4 e5
  refine (laws_markTableau s' A' n' c' xs' B' m' d' ys' m2 m3 m3 hi lo hi (k0 + n + m) w1 p3 p4 (by omega) (by omega) (by omega) (by omega) (by omega)).mono ?_
  rintro e w2 ⟨rfl, r3, r4, t2, s2⟩
  have T := (Touch.of_below (lo := lo) (hi := hi) a1).trans (t1.trans t2)
  go_wp2_with fail
  go_ret
  exact ⟨rfl, T⟩

theorem pairAl_tot (s : Int) (xs ys : List Int) (s' : Int) (xs' ys' : List Int) (o : Int) (ps : List (List Mono)) (cs : List Int) (xss : List (List Int)) : totS (pairAl s xs ys s' xs' ys' o ps cs xss) ≤ 1048576 := by
  cases hk : pairAlOk s xs ys s' xs' ys' o ps cs xss with
  | false => rw [pairAl_bad hk]; simp [totS]
  | true =>
    obtain ⟨S, dim, n, rfl, rfl, rfl, h⟩ := pairAlOk_iff hk
    rw [pairAl_ok hk h.nl]
    have h6 := h.d6
    have h7 := h.n7
    have hb := totS_bd (C := 6) (turnL (outJ n dim S ps (turnL xss dim) (fun i => if cs.getD i 0 = 0 then xs else xs') (fun i => if cs.getD i 0 = 0 then ys else ys')) n) (fun r hr => by
      simp only [turnL, List.mem_map, List.mem_range] at hr
      obtain ⟨i, _, rfl⟩ := hr
      rw [List.length_map, outJ_len]
      exact h6)
    rw [turn_len] at hb
    omega

theorem impl_PairAlong_all (s : Int) (A : Option Addr) (n c : Nat) (xs : List Int) (B : Option Addr) (m d : Nat) (ys : List Int) (s' : Int) (A' : Option Addr) (n' c' : Nat) (xs' : List Int) (B' : Option Addr) (m' d' : Nat) (ys' : List Int) (o : Int) (P : Option Addr) (k e : Nat) (ps : List (List Mono)) (C : Option Addr) (nC cC : Nat) (cs : List Int) (X : Option Addr) (x f : Nat) (xss : List (List Int)) (lo hi : Nat) (w : World)
    (h : Ints w lo hi A n c xs) (g : Ints w lo hi B m d ys) (h' : Ints w lo hi A' n' c' xs') (g' : Ints w lo hi B' m' d' ys') (hp : Mons2 w lo hi P k e ps) (hc : Ints w lo hi C nC cC cs) (hx : Ints2 w lo hi X x f xss) (hh : hi ≤ w.heap.size) (hlen : ∀ p ∈ ps, ∀ m ∈ p, m.2.length ≤ 1048576)
    (hA : 0 < n → ∃ gA, A = some ⟨gA, 0, none⟩) (hA' : 0 < n' → ∃ gA, A' = some ⟨gA, 0, none⟩) :
    Calls Try.prog 12 #[.agg #[.int .i64 s, .slice A n c, .slice B m d, .int .i64 s', .slice A' n' c', .slice B' m' d'], .agg #[.int .i64 o, .slice P k e], .slice C nC cC, .slice X x f] w fun r w' => ∃ R q cR, r = .returned (.slice R q cR) ∧ Ros kO 22 w' w.heap.size w'.heap.size R q cR (pairAl s xs ys s' xs' ys' o ps cs xss) ∧ Below w.heap.size w w' := by
  cases hk : pairAlOk s xs ys s' xs' ys' o ps cs xss with
  | false =>
    refine (impl_PairAlong_bad s A n c xs B m d ys s' A' n' c' xs' B' m' d' ys' o P k e ps C nC cC cs X x f xss lo hi w h g h' g' hp hc hx hh hlen hk).mono ?_
    rintro r w' ⟨rfl, hb⟩
    exact ⟨none, 0, 0, rfl, .inl ⟨rfl, rfl, rfl, pairAl_bad hk, hb.size⟩, hb⟩
  | true =>
    obtain ⟨S, dim, np, rfl, rfl, rfl, hK⟩ := pairAlOk_iff hk
    obtain rfl : n = S * S := by rw [← h.len]; exact hK.xl
    obtain rfl : m = S := by rw [← g.len]; exact hK.yl
    obtain rfl : n' = m * m := by rw [← h'.len]; exact hK.xl'
    obtain rfl : m' = m := by rw [← g'.len]; exact hK.yl'
    obtain rfl : k = dim := by rw [← hp.len]; exact hK.gf.1
    obtain rfl : nC = k := by rw [← hc.len]; exact hK.cl
    obtain rfl : x = np := by rw [← hx.len]; exact hK.nl
    refine (impl_PairAlong_good m' nC x A c xs B d ys A' c' xs' B' d' ys' P e ps C cC cs X f xss lo hi w h g h' g' hp hc hx hh hlen (fun h0 => hA (Nat.mul_pos h0 h0)) (fun h0 => hA' (Nat.mul_pos h0 h0)) hK hk).mono ?_
    rintro r w' ⟨gR, cR, rfl, hR, hb⟩
    exact ⟨_, _, _, rfl, hR, hb⟩

theorem spec_PairAlong_all (s : Int) (A : Option Addr) (n c : Nat) (xs : List Int) (B : Option Addr) (m d : Nat) (ys : List Int) (s' : Int) (A' : Option Addr) (n' c' : Nat) (xs' : List Int) (B' : Option Addr) (m' d' : Nat) (ys' : List Int) (o : Int) (P : Option Addr) (k e : Nat) (ps : List (List Mono)) (C : Option Addr) (nC cC : Nat) (cs : List Int) (X : Option Addr) (x f : Nat) (xss : List (List Int)) (lo hi : Nat) (w : World)
    (h : Ints w lo hi A n c xs) (g : Ints w lo hi B m d ys) (h' : Ints w lo hi A' n' c' xs') (g' : Ints w lo hi B' m' d' ys') (hp : Mons2 w lo hi P k e ps) (hc : Ints w lo hi C nC cC cs) (hx : Ints2 w lo hi X x f xss) (hh : hi ≤ w.heap.size) (hlen : ∀ p ∈ ps, ∀ m ∈ p, m.2.length ≤ 1048576)
    (hA : 0 < n → ∃ gA, A = some ⟨gA, 0, none⟩) (hA' : 0 < n' → ∃ gA, A' = some ⟨gA, 0, none⟩) :
    Calls Try.prog 7 #[.agg #[.int .i64 s, .slice A n c, .slice B m d, .int .i64 s', .slice A' n' c', .slice B' m' d'], .agg #[.int .i64 o, .slice P k e], .slice C nC cC, .slice X x f] w fun r w' => ∃ R q cR, r = .returned (.slice R q cR) ∧ Ints2 w' w.heap.size w'.heap.size R q cR (pairAl s xs ys s' xs' ys' o ps cs xss) ∧ Below w.heap.size w w' := by
  cases hk : pairAlOk s xs ys s' xs' ys' o ps cs xss with
  | false =>
    refine (spec_PairAlong_bad s A n c xs B m d ys s' A' n' c' xs' B' m' d' ys' o P k e ps C nC cC cs X x f xss lo hi w h g h' g' hp hc hx hh hlen hk).mono ?_
    rintro r w' ⟨rfl, hb⟩
    refine ⟨none, 0, 0, rfl, ?_, hb⟩
    rw [pairAl_bad hk]
    exact Ints2.nil_ _ _ _
  | true =>
    obtain ⟨S, dim, np, rfl, rfl, rfl, hK⟩ := pairAlOk_iff hk
    obtain rfl : n = S * S := by rw [← h.len]; exact hK.xl
    obtain rfl : m = S := by rw [← g.len]; exact hK.yl
    obtain rfl : n' = m * m := by rw [← h'.len]; exact hK.xl'
    obtain rfl : m' = m := by rw [← g'.len]; exact hK.yl'
    obtain rfl : k = dim := by rw [← hp.len]; exact hK.gf.1
    obtain rfl : nC = k := by rw [← hc.len]; exact hK.cl
    obtain rfl : x = np := by rw [← hx.len]; exact hK.nl
    refine (spec_PairAlong_good m' nC x A c xs B d ys A' c' xs' B' d' ys' P e ps C cC cs X f xss lo hi w h g h' g' hp hc hx hh hlen (fun h0 => hA (Nat.mul_pos h0 h0)) (fun h0 => hA' (Nat.mul_pos h0 h0)) hK hk).mono ?_
    rintro r w' ⟨gR, cR, rfl, hR, hb⟩
    exact ⟨_, _, _, rfl, hR, hb⟩
end Go.Proofs.Ytlmkjfgomlamhaa
