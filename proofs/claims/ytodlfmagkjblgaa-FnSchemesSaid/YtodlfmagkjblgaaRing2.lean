/- Words as series: letters, Dynkin's test, appended schemes. -/
import Derived.Test.YtodlfmagkjblgaaRing
import Derived.Test.YtodlfmagkjblgaaLast
import Derived.Test.YtodlfmagkjblgaaReverse
namespace Go.Proofs.Ytodlfmagkjblgaa
open Go.RowKit
set_option linter.unusedSimpArgs false
set_option linter.unusedVariables false
set_option maxRecDepth 20000
open Ser (rep ser expS logS sch SpE)

theorem impl_Letter_rep (o : Int) (h1 : 1 ≤ o) (h5 : o ≤ 5) (w : World) :
    Calls Try.prog 47 #[.int .i64 o, .int .i64 0, .int .i64 1] w fun e w' => ∃ A' c', e = .returned (.agg #[.int .i64 o, .slice A' (cntN o) c']) ∧ OwnI w' w.heap.size w'.heap.size A' (cntN o) c' (rep (cntN o) (Ser.ltr false)) ∧ Below w.heap.size w w' := by
  refine (impl_Letter_ok o 0 1 w h1 h5 (by omega) (by constructor <;> omega)).mono ?_
  rintro e w' ⟨A', c', rfl, q1, q2⟩
  have e : ltrL o (0, 1) = rep (cntN o) (Ser.ltr false) := Ser.rep_ltr1 o false
  rw [e] at q1
  exact ⟨A', c', rfl, q1, q2⟩
theorem impl_Lie_rep (o : Int) (h1 : 1 ≤ o) (h5 : o ≤ 5) (f : Ser) (hf : SpE f) (A : Option Addr) (c lo hi : Nat) (w : World) (h : Ints w lo hi A (cntN o) c (rep (cntN o) f)) (hh : hi ≤ w.heap.size) :
    Calls Try.prog 27 #[.agg #[.int .i64 o, .slice A (cntN o) c]] w fun e w' => e = .returned (.bool true) ∧ Below w.heap.size w w' := by
  refine (impl_IsLieWords o A (cntN o) c _ lo hi w h hh).mono ?_
  rintro e w' ⟨rfl, q⟩
  rw [Ser.lie_of h1 h5 hf]
  exact ⟨rfl, q⟩
theorem impl_Lie_not (o : Int) (h2 : 2 ≤ o) (h5 : o ≤ 5) (A : Option Addr) (c lo hi : Nat) (w : World) (h : Ints w lo hi A (cntN o) c (rep (cntN o) (Ser.ltr false * Ser.ltr false))) (hh : hi ≤ w.heap.size) :
    Calls Try.prog 27 #[.agg #[.int .i64 o, .slice A (cntN o) c]] w fun e w' => e = .returned (.bool false) ∧ Below w.heap.size w w' := by
  refine (impl_IsLieWords o A (cntN o) c _ lo hi w h hh).mono ?_
  rintro e w' ⟨rfl, q⟩
  rw [Ser.square_not h2 h5]
  exact ⟨rfl, q⟩
theorem OwnM.none_ {w : World} {lo hi : Nat} {A : Option Addr} {n c : Nat} {ms : List (Int × Int)} (h : OwnM w lo hi A n c ms) : A = none → n = 0 ∧ c = 0 := by
  intro e
  subst e
  rcases h.own.2 with ⟨e, rfl⟩ | ⟨g, cap, cur, e, _⟩
  · injection e with _ _ e3; exact ⟨rfl, e3⟩
  · injection e with e1; cases e1
theorem OwnM.wide_ {w : World} {lo hi hi' : Nat} {A : Option Addr} {n c : Nat} {ms : List (Int × Int)} (h : OwnM w lo hi A n c ms) (h2 : hi ≤ hi') : OwnM w lo hi' A n c ms := ⟨h.own, fun ad e => Nat.lt_of_lt_of_le (h.lt ad e) h2, h.rng⟩
theorem serM_app (l k : List (Int × Int)) : serM (l ++ k) = serM l ++ serM k := by unfold serM; rw [List.map_append]
theorem serM_rev (l : List (Int × Int)) : serM l.reverse = (serM l).reverse := by unfold serM; rw [List.map_reverse]
theorem good_app {l k : List (Int × Int)} (h1 : goodM l) (h2 : goodM k) : goodM (l ++ k) := fun m hm => by
  rcases List.mem_append.1 hm with h | h
  · exact h1 m h
  · exact h2 m h
theorem sch_mul_one (l k : List (Bool × Fp)) : (sch l * sch k) [] = 1 := by rw [Ser.mul_nil, Ser.sch_nil, Ser.sch_nil]; grind
theorem lie_prod (l k : List (Bool × Fp)) : SpE (logS (sch l * sch k)) := by rw [← Ser.sch_app]; exact Ser.sch_lie _
theorem lie_bracket {f g : Ser} (hf : SpE f) (hg : SpE g) : SpE (f * g + Ser.sm (Ser.toF (-1)) (g * f)) := by
  rw [Ser.toF_neg1, ← Ser.sub_eq]
  exact hf.brk hg
theorem lie_letter : SpE (Ser.ltr false) := ⟨_, .ltr false, Ser.Eq.refl _ _⟩
end Go.Proofs.Ytodlfmagkjblgaa
