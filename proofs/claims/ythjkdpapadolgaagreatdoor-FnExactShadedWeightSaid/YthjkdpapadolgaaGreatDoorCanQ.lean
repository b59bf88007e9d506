/- Shaded trees: the plain facts on branches, the greatest list, and descending order. -/
import Derived.Test.YthjkdpapadolgaaGreatDoorCanP
import Derived.Test.YthjkdpapadolgaaGreatDoorShades
namespace Go.Proofs.YthjkdpapadolgaaGreatDoor
open Go.RowKit
set_option linter.unusedSimpArgs false
set_option linter.unusedVariables false
set_option maxRecDepth 20000

theorem less_lt : ∀ (p q : List Int), lessF p q = true ↔ p < q
  | p, [] => by cases p <;> simp [lessF]
  | [], _ :: _ => by simp [lessF]
  | a :: x, b :: y => by
    rw [lessF, List.cons_lt_cons_iff]
    by_cases h : a = b
    · subst h
      rw [if_neg (by simp), less_lt x y]
      simp
    · rw [if_pos h]
      simp [h]
theorem less_irrefl (p : List Int) : lessF p p = false := by
  rw [Bool.eq_false_iff, ne_eq, less_lt]
  exact List.lt_irrefl p
theorem less_trans {p q r : List Int} (h : lessF p q = true) (h2 : lessF q r = true) : lessF p r = true := by
  rw [less_lt] at *
  exact List.lt_trans h h2
theorem less_ntrans {p q r : List Int} (h : lessF p q = false) (h2 : lessF q r = false) : lessF p r = false := by
  rw [Bool.eq_false_iff, ne_eq, less_lt] at *
  intro h3
  have h4 : q ≤ p := h
  have h5 : r ≤ q := h2
  exact (List.le_trans h5 h4) h3
theorem less_anti {p q : List Int} (h : lessF p q = false) (h2 : lessF q p = false) : p = q := by
  rw [Bool.eq_false_iff, ne_eq, less_lt] at *
  exact List.le_antisymm h2 h
theorem cmp_neg (p q : List Int) : decide (cmpF p q < 0) = lessF p q := by
  have h := cmp_less q p
  have h2 : cmpF q p = - cmpF p q := by
    clear h
    induction p generalizing q with
    | nil => cases q <;> rfl
    | cons a x ih =>
      cases q with
      | nil => rfl
      | cons b y =>
        rw [cmpF, cmpF, ih y]
        unfold cmpI
        by_cases h1 : a < b
        · have h2 : ¬ b < a := by omega
          simp [h1, h2]
        · by_cases h2 : b < a
          · simp [h1, h2]
          · simp [h1, h2]
  rw [h2] at h
  have h3 : decide (-cmpF p q ≤ 0) = !decide (cmpF p q < 0) := by
    by_cases e : cmpF p q < 0
    · rw [decide_eq_true e, decide_eq_false (by omega)]; rfl
    · rw [decide_eq_false e, decide_eq_true (by omega)]; rfl
  rw [h3] at h
  simpa using h

/-- no later one is greater than an earlier one -/
def Desc (ps : List (List Int)) : Prop := ps.Pairwise fun a b => lessF a b = false

theorem insF_mem (p : List Int) : ∀ (s : List (List Int)) (x : List Int), x ∈ insF p s ↔ x = p ∨ x ∈ s
  | [], x => by simp [insF]
  | q :: r, x => by
    rw [insF]
    split
    · simp
    · rw [List.mem_cons, insF_mem p r x, List.mem_cons]
      constructor
      · rintro (h | h | h)
        · exact .inr (.inl h)
        · exact .inl h
        · exact .inr (.inr h)
      · rintro (h | h | h)
        · exact .inr (.inl h)
        · exact .inl h
        · exact .inr (.inr h)
theorem insF_perm (p : List Int) : ∀ s : List (List Int), (insF p s).Perm (p :: s)
  | [] => List.Perm.refl _
  | q :: r => by
    rw [insF]
    split
    · exact List.Perm.refl _
    · exact ((insF_perm p r).cons q).trans (List.Perm.swap p q r)
theorem insF_desc (p : List Int) : ∀ s : List (List Int), Desc s → Desc (insF p s)
  | [], _ => by simp [insF, Desc]
  | q :: r, h => by
    have h' := List.pairwise_cons.1 h
    rw [insF]
    split
    · rename_i hlt
      refine List.pairwise_cons.2 ⟨fun x hx => ?_, h⟩
      have hpq : lessF p q = false := by
        cases e : lessF p q with
        | false => rfl
        | true => have := less_trans hlt e; rw [less_irrefl] at this; cases this
      rcases List.mem_cons.1 hx with rfl | hx
      · exact hpq
      · exact less_ntrans hpq (h'.1 x hx)
    · rename_i hlt
      refine List.pairwise_cons.2 ⟨fun x hx => ?_, insF_desc p r h'.2⟩
      rcases (insF_mem p r x).1 hx with rfl | hx
      · simpa using hlt
      · exact h'.1 x hx
theorem foldl_ins (ps : List (List Int)) : ∀ s, Desc s → Desc (ps.foldl (fun s p => insF p s) s) ∧ (ps.foldl (fun s p => insF p s) s).Perm (ps ++ s) := by
  induction ps with
  | nil => exact fun s h => ⟨h, List.Perm.refl _⟩
  | cons p r ih =>
    intro s h
    obtain ⟨h1, h2⟩ := ih (insF p s) (insF_desc p s h)
    refine ⟨h1, h2.trans ?_⟩
    exact ((insF_perm p s).append_left r).trans List.perm_middle
theorem sortF_desc (ps : List (List Int)) : Desc (sortF ps) := (foldl_ins ps [] List.Pairwise.nil).1
theorem sortF_perm (ps : List (List Int)) : (sortF ps).Perm ps := by unfold sortF; simpa using (foldl_ins ps [] List.Pairwise.nil).2
theorem sort_unique {ds ps : List (List Int)} (hp : ds.Perm ps) (hs : Desc ds) : ds = sortF ps :=
  List.Perm.eq_of_pairwise (fun _ _ _ _ h1 h2 => less_anti h1 h2) hs (sortF_desc ps) (hp.trans (sortF_perm ps).symm)
theorem sortF_snoc (ps : List (List Int)) (p : List Int) : sortF (ps ++ [p]) = insF p (sortF ps) := by simp [sortF]

/-- what a list of a shaded tree is, its length aside -/
def Good (l : List Int) : Prop := ∃ b q, l = b :: q ∧ 0 ≤ b ∧ b < 2 ∧ shadesGo b q = true
theorem shadesGo_cons {a n : Int} {r : List Int} : shadesGo a (n :: r) = true ↔ (2 ≤ n ∧ n / 2 ≤ a / 2 + 1) ∧ shadesGo n r = true := by
  rw [shadesGo]
  split
  · simp; omega
  · simp; omega
theorem shadesGo_two : ∀ (r : List Int) (a : Int), shadesGo a r = true → ∀ x ∈ r, 2 ≤ x
  | [], _, _, x, hx => by cases hx
  | n :: r, a, h, x, hx => by
    obtain ⟨⟨h1, _⟩, h2⟩ := shadesGo_cons.1 h
    rcases List.mem_cons.1 hx with rfl | hx
    · exact h1
    · exact shadesGo_two r n h2 x hx
theorem shadesGo_head {a : Int} {r : List Int} (ha : a < 2) (h0 : 0 ≤ a) (h : shadesGo a r = true) : ∀ x ∈ r.head?, x < 4 := by
  cases r with
  | nil => simp
  | cons n r =>
    obtain ⟨⟨h1, h2⟩, _⟩ := shadesGo_cons.1 h
    intro x hx
    obtain rfl : n = x := by simpa using hx
    omega
def lastOf (b : Int) : List Int → Int
  | [] => b
  | x :: r => lastOf x r
theorem shadesGo_snoc : ∀ (q : List Int) (b y : Int), shadesGo b q = true → 2 ≤ y → y / 2 ≤ lastOf b q / 2 + 1 → shadesGo b (q ++ [y]) = true
  | [], b, y, _, h1, h2 => shadesGo_cons.2 ⟨⟨h1, h2⟩, rfl⟩
  | n :: q, b, y, h, h1, h2 => by
    obtain ⟨h3, h4⟩ := shadesGo_cons.1 h
    exact shadesGo_cons.2 ⟨h3, shadesGo_snoc q n y h4 h1 h2⟩
theorem lastOf_snoc : ∀ (q : List Int) (b y : Int), lastOf b (q ++ [y]) = y
  | [], _, _ => rfl
  | n :: q, _, y => lastOf_snoc q n y

theorem parts_good : ∀ (r : List Int) (pv : Int) (acc : List (List Int)), 0 ≤ pv → shadesGo pv r = true → (∀ p ∈ acc, Good p) → (acc = [] ∧ pv < 2 ∨ ∃ i b q, acc = i ++ [b :: q] ∧ lastOf b q = pv - 2 ∧ 2 ≤ pv) → ∀ p ∈ partsF acc r, Good p
  | [], _, acc, _, _, h, _ => h
  | n :: r, pv, acc, h0, hs, h, hl => by
    obtain ⟨⟨h1, h2⟩, h3⟩ := shadesGo_cons.1 hs
    rw [partsF]
    by_cases hn : n < 4
    · rw [if_pos hn]
      have e : pushLast (acc ++ [[]]) (n - 2) = acc ++ [[n - 2]] := by simp [pushLast]
      rw [e]
      refine parts_good r n _ (by omega) h3 ?_ (.inr ⟨acc, n - 2, [], rfl, rfl, h1⟩)
      intro p hp
      rcases List.mem_append.1 hp with hp | hp
      · exact h p hp
      · obtain rfl : p = [n - 2] := by simpa using hp
        exact ⟨n - 2, [], rfl, by omega, by omega, rfl⟩
    · rw [if_neg hn]
      rcases hl with ⟨_, h5⟩ | ⟨i, b, q, rfl, h5, h6⟩
      · omega
      · have e : pushLast (i ++ [b :: q]) (n - 2) = i ++ [b :: (q ++ [n - 2])] := by simp [pushLast]
        rw [e]
        refine parts_good r n _ (by omega) h3 ?_ (.inr ⟨i, b, q ++ [n - 2], rfl, lastOf_snoc _ _ _, h1⟩)
        intro p hp
        rcases List.mem_append.1 hp with hp | hp
        · exact h p (List.mem_append.2 (.inl hp))
        · obtain rfl : p = b :: (q ++ [n - 2]) := by simpa using hp
          obtain ⟨b', q', e', g1, g2, g3⟩ := h (b :: q) (by simp)
          injection e' with e1 e2
          subst e1 e2
          exact ⟨b, q ++ [n - 2], rfl, g1, g2, shadesGo_snoc q b _ g3 (by omega) (by rw [h5]; omega)⟩
theorem flat_push (ps : List (List Int)) (x : Int) : (pushLast ps x).flatten = ps.flatten ++ [x] := by
  unfold pushLast
  rcases List.eq_nil_or_concat ps with rfl | ⟨i, l, rfl⟩
  · rfl
  · simp
theorem parts_flat : ∀ (r : List Int) (acc : List (List Int)), (partsF acc r).flatten = acc.flatten ++ r.map (· - 2)
  | [], acc => by simp [partsF]
  | n :: r, acc => by
    rw [partsF, parts_flat r, flat_push]
    split <;> simp
theorem len_flat {p : List Int} {ps : List (List Int)} (h : p ∈ ps) : p.length ≤ ps.flatten.length := by
  induction ps with
  | nil => cases h
  | cons q r ih =>
    rw [List.flatten_cons, List.length_append]
    rcases List.mem_cons.1 h with rfl | h
    · omega
    · have := ih h; omega
theorem parts_len {r : List Int} {p : List Int} (h : p ∈ partsF [] r) : p.length ≤ r.length := by
  have h1 := len_flat h
  rw [parts_flat] at h1
  simpa using h1
theorem perm_flatMap {f : List Int → List Int} {us vs : List (List Int)} (h : us.Perm vs) : (us.flatMap f).Perm (vs.flatMap f) := h.flatMap_right f
theorem perm_flat_map {f : List Int → List Int} : ∀ (ps : List (List Int)), (∀ p ∈ ps, (f p).Perm p) → ((ps.map f).flatMap (·.map (· + 2))).Perm (ps.flatten.map (· + 2))
  | [], _ => List.Perm.refl _
  | p :: r, h => by
    rw [List.map_cons, List.flatMap_cons, List.flatten_cons, List.map_append]
    exact ((h p (by simp)).map _).append (perm_flat_map r fun q hq => h q (List.mem_cons_of_mem _ hq))
theorem form_perm : ∀ (k : Nat) (l : List Int), (formF k l).Perm l
  | 0, _ => List.Perm.refl _
  | _ + 1, [] => List.Perm.refl _
  | k + 1, a :: r => by
    rw [formF]
    refine List.Perm.cons a ?_
    refine (perm_flatMap (sortF_perm _)).trans ((perm_flat_map _ fun p _ => form_perm k p).trans ?_)
    rw [parts_flat]
    have e : (([] : List (List Int)).flatten ++ r.map (· - 2)).map (· + 2) = r := by
      simp [List.map_map, Function.comp_def]
    rw [e]
/-- a branch of a good list -/
theorem part_good {a : Int} {r : List Int} (h0 : 0 ≤ a) (h1 : a < 2) (h : shadesGo a r = true) : ∀ p ∈ partsF [] r, Good p := parts_good r a [] h0 h (by simp) (.inl ⟨rfl, h1⟩)
theorem good_of {l : List Int} (h : isShadesF l = true) : Good l ∧ l.length ≤ 4 := by
  cases l with
  | nil => cases h
  | cons x r =>
    rw [isShadesF] at h
    split at h
    · cases h
    · exact ⟨⟨x, r, rfl, by omega, by omega, h⟩, by simp; omega⟩
theorem good_small : ∀ (q : List Int) (b : Int), 0 ≤ b → shadesGo b q = true → ∀ x ∈ q, x ≤ b + 3 * q.length
  | [], _, _, _, x, hx => by cases hx
  | n :: q, b, h0, h, x, hx => by
    obtain ⟨⟨h1, h2⟩, h3⟩ := shadesGo_cons.1 h
    have hn : n ≤ b + 3 := by omega
    rcases List.mem_cons.1 hx with rfl | hx
    · simp; omega
    · have := good_small q n (by omega) h3 x hx
      simp
      omega
theorem parts_num {r : List Int} {acc : List (List Int)} (h : acc ≠ [] ∨ ∀ n ∈ r.head?, n < 4) : (partsF acc r).length ≤ acc.length + r.length := partsF_len r acc h
end Go.Proofs.YthjkdpapadolgaaGreatDoor
