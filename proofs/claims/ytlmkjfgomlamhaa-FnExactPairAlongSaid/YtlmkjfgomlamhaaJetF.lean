/- Steps of pairs along paths: what is computed, in plain Lean. -/
import Derived.Test.YtlmkjfgomlamhaaJetZ
import Derived.Test.YtlmkjfgomlamhaaJetE
namespace Go.Proofs.Ytlmkjfgomlamhaa
open Go.RowKit
set_option linter.unusedSimpArgs false
set_option linter.unusedVariables false
set_option maxRecDepth 20000

theorem poly_good {dim : Nat} : ∀ (ms : List Mono) (prev : Option (List Int)), polyGo (dim : Int) prev ms = true → GoodM dim ms
  | [], _, _ => fun m hm => absurd hm (by simp)
  | m :: r, prev, h => by
    rw [polyGo] at h
    split at h
    · rename_i hm
      intro y hy
      rcases List.mem_cons.1 hy with rfl | hy
      · unfold monoOk at hm
        simp only [Bool.and_eq_true, decide_eq_true_eq] at hm
        obtain ⟨⟨⟨⟨⟨_, h1⟩, h2⟩, h3⟩, _⟩, _⟩ := hm
        exact ⟨(isNumF_iff _).1 h1, by omega, h3⟩
      · exact poly_good r _ h y hy
    · cases h
theorem field_good {dim : Nat} {ps : List (List Mono)} (h : fieldF (dim : Int) ps = true) : GoodF dim ps ∧ 1 ≤ dim ∧ dim ≤ 6 := by
  unfold fieldF at h
  simp only [Bool.and_eq_true, decide_eq_true_eq] at h
  obtain ⟨⟨⟨h1, h2⟩, h3⟩, h4⟩ := h
  refine ⟨⟨by omega, ?_⟩, by omega, by omega⟩
  have go : ∀ (qs : List (List Mono)), fieldGo (dim : Int) qs = true → ∀ ms ∈ qs, GoodM dim ms := by
    intro qs
    induction qs with
    | nil => intro _ ms hm; exact absurd hm (by simp)
    | cons p r ih =>
      intro hq ms hm
      rw [fieldGo] at hq
      split at hq
      · rename_i hp
        rcases List.mem_cons.1 hm with rfl | hm
        · unfold polyF at hp
          simp only [Bool.and_eq_true] at hp
          exact poly_good _ _ hp.2
        · exact ih hq ms hm
      · cases hq
  exact go ps h4
theorem path_good {dim : Nat} {xss : List (List Int)} (h : pathOkF xss (dim : Int) = true) : (1 ≤ xss.length ∧ xss.length ≤ 7) ∧ ∀ r ∈ xss, r.length = dim ∧ ∀ x ∈ r, 0 ≤ x ∧ x < 1000000271 := by
  unfold pathOkF at h
  simp only [Bool.and_eq_true, decide_eq_true_eq] at h
  refine ⟨h.1, ?_⟩
  have go : ∀ (qs : List (List Int)), pathGo (dim : Int) qs = true → ∀ r ∈ qs, r.length = dim ∧ ∀ x ∈ r, 0 ≤ x ∧ x < 1000000271 := by
    intro qs
    induction qs with
    | nil => intro _ ms hm; exact absurd hm (by simp)
    | cons p r ih =>
      intro hq ms hm
      rw [pathGo] at hq
      split at hq
      · rename_i hp
        simp only [Bool.and_eq_true, decide_eq_true_eq] at hp
        rcases List.mem_cons.1 hm with rfl | hm
        · exact ⟨by omega, allNumF_mem hp.2⟩
        · exact ih hq ms hm
      · cases hq
  exact go xss h.2
theorem turn_num {dim : Nat} {xss : List (List Int)} (h : ∀ r ∈ xss, r.length = dim ∧ ∀ x ∈ r, 0 ≤ x ∧ x < 1000000271) : JNum xss.length (turnL xss dim) := by
  intro r hr
  simp only [turnL, List.mem_map, List.mem_range] at hr
  obtain ⟨i, hi, rfl⟩ := hr
  refine ⟨by simp, fun x hx => ?_⟩
  obtain ⟨q, hq, rfl⟩ := List.mem_map.1 hx
  have h1 := h q hq
  exact h1.2 _ (by rw [List.getD, List.getElem?_eq_getElem (by omega)]; exact List.getElem_mem _)
/-- whether a pair, a field, colours and a path are fine -/
def pairAlOk (s : Int) (xs ys : List Int) (s' : Int) (xs' ys' : List Int) (o : Int) (ps : List (List Mono)) (cs : List Int) (xss : List (List Int)) : Bool := colOkF o ps cs xss && pairOkF s xs ys s' xs' ys'
/-- where a step of a pair leads -/
def pairAl (s : Int) (xs ys : List Int) (s' : Int) (xs' ys' : List Int) (o : Int) (ps : List (List Mono)) (cs : List Int) (xss : List (List Int)) : List (List Int) :=
  if pairAlOk s xs ys s' xs' ys' o ps cs xss = true then turnL (outJ xss.length o.toNat s.toNat ps (turnL xss o.toNat) (fun i => if cs.getD i 0 = 0 then xs else xs') (fun i => if cs.getD i 0 = 0 then ys else ys')) xss.length else []
/-- what being fine says -/
structure AlOk (S dim n : Nat) (xs ys xs' ys' : List Int) (ps : List (List Mono)) (cs : List Int) (xss : List (List Int)) : Prop where
  s8 : S ≤ 8
  xl : xs.length = S * S
  yl : ys.length = S
  xl' : xs'.length = S * S
  yl' : ys'.length = S
  gf : GoodF dim ps
  d0 : 1 ≤ dim
  d6 : dim ≤ 6
  n0 : 1 ≤ n
  n7 : n ≤ 7
  nl : xss.length = n
  rw' : ∀ r ∈ xss, r.length = dim ∧ ∀ x ∈ r, 0 ≤ x ∧ x < 1000000271
  cl : cs.length = dim
  cc : ∀ c ∈ cs, c = 0 ∨ c = 1
theorem pairAlOk_iff {s : Int} {xs ys : List Int} {s' : Int} {xs' ys' : List Int} {o : Int} {ps : List (List Mono)} {cs : List Int} {xss : List (List Int)} (h : pairAlOk s xs ys s' xs' ys' o ps cs xss = true) :
    ∃ S dim n : Nat, s = S ∧ s' = S ∧ o = dim ∧ AlOk S dim n xs ys xs' ys' ps cs xss := by
  unfold pairAlOk colOkF pairOkF tabOkF at h
  simp only [Bool.and_eq_true, decide_eq_true_eq, beq_iff_eq] at h
  obtain ⟨⟨⟨h1, h2⟩, h3, h4⟩, ⟨⟨⟨a1, a2⟩, a3, a4, _, _⟩, ⟨⟨_, _⟩, b3, b4, _, _⟩, rfl⟩⟩ := h
  obtain ⟨dim, rfl⟩ : ∃ d : Nat, o = d := ⟨cs.length, h3.symm⟩
  obtain ⟨S, rfl⟩ : ∃ d : Nat, s = d := ⟨s.toNat, by omega⟩
  obtain ⟨g1, g2, g3⟩ := field_good h1
  obtain ⟨p1, p2⟩ := path_good h2
  have e : ((S : Int) * (S : Int)) = ((S * S : Nat) : Int) := by simp
  rw [e] at a3 b3
  exact ⟨S, dim, xss.length, rfl, rfl, rfl, by omega, by omega, by omega, by omega, by omega, g1, g2, g3, p1.1, p1.2, rfl, p2, by omega, colGo_mem _ h4⟩
theorem pairAl_ok {S dim n : Nat} {xs ys xs' ys' : List Int} {ps : List (List Mono)} {cs : List Int} {xss : List (List Int)} (h : pairAlOk (S : Int) xs ys (S : Int) xs' ys' (dim : Int) ps cs xss = true) (hn : xss.length = n) :
    pairAl (S : Int) xs ys (S : Int) xs' ys' (dim : Int) ps cs xss = turnL (outJ n dim S ps (turnL xss dim) (fun i => if cs.getD i 0 = 0 then xs else xs') (fun i => if cs.getD i 0 = 0 then ys else ys')) n := by
  unfold pairAl
  rw [if_pos h, hn]
  rfl
theorem pairAl_bad {s : Int} {xs ys : List Int} {s' : Int} {xs' ys' : List Int} {o : Int} {ps : List (List Mono)} {cs : List Int} {xss : List (List Int)} (h : pairAlOk s xs ys s' xs' ys' o ps cs xss = false) : pairAl s xs ys s' xs' ys' o ps cs xss = [] := by
  unfold pairAl
  rw [h]
  rfl
end Go.Proofs.Ytlmkjfgomlamhaa
