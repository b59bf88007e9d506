/- Schemes: a scheme and its reverse, orders of palindromes, orders of the known schemes. Plain law. -/
import Derived.Test.YtodlfmagkjblgaaRing2
import Derived.Test.YtodlfmagkjblgaaKnown
namespace Go.Proofs.Ytodlfmagkjblgaa
open Go.RowKit
set_option linter.unusedSimpArgs false
set_option linter.unusedVariables false
set_option maxRecDepth 20000
open Ser (rep ser expS logS sch SpE)

def negI (m : Int × Int) : Int × Int := (m.1, minusF 0 m.2)
theorem serM_neg (l : List (Int × Int)) : serM (l.map negI) = (serM l).map Ser.negM := by
  unfold serM
  rw [List.map_map, List.map_map]
  apply List.map_congr_left
  intro m _
  show (Ser.i2b m.1, Ser.toF (minusF 0 m.2)) = (Ser.i2b m.1, -Ser.toF m.2)
  rw [Ser.toF_neg]
theorem good_neg {l : List (Int × Int)} (h : goodM l) : goodM (l.map negI) := by
  intro m hm
  obtain ⟨a, ha, rfl⟩ := List.mem_map.1 hm
  have := minusF_bd 0 a.2
  exact ⟨(h a ha).1, this.1, this.2⟩
theorem good_rev {l : List (Int × Int)} (h : goodM l) : goodM l.reverse := fun m hm => h m (List.mem_reverse.1 hm)
theorem sch_back (l : List (Int × Int)) : Ser.Eq 4 (sch (serM l) * sch (serM (l.reverse.map negI))) Ser.one := by
  rw [serM_neg, serM_rev]
  exact (Ser.sch_inv _).le (by omega)
def bothS : Ser := Ser.ltr false + Ser.ltr true
theorem both_rep : expL 5 bothL = rep (cntN 5) (expS bothS) := by
  have e : bothL = rep (cntN 5) bothS := by
    unfold bothL bothS
    rw [show ltrL 5 (0, 1) = rep (cntN 5) (Ser.ltr false) from Ser.rep_ltr1 5 false, show ltrL 5 (1, 1) = rep (cntN 5) (Ser.ltr true) from Ser.rep_ltr1 5 true, Ser.rep_zip, Ser.toF_1, Ser.one_sm]
  rw [e, Ser.rep_exp (by omega) (by omega) (show bothS [] = 0 by decide)]
theorem ord_rep {ms : List (Int × Int)} (hg : goodM ms) (hl : ms.length ≤ 12) : ordF ms = ordGo (rep (cntN 5) (sch (serM ms))) (rep (cntN 5) (expS bothS)) (cntN 5) 0 := by
  unfold ordF
  rw [if_pos (ok_good hg hl), both_rep]
  unfold schL
  rw [Ser.rep_unit, Ser.rep_sch (by omega) (by omega) ms (fun m hm => by have := hg m hm; omega), Ser.one_mul]
  rfl
theorem both_alt : Ser.Eq 5 (expS bothS * Ser.alt (expS bothS)) Ser.one := by
  have e : Ser.alt (expS bothS) = expS (Ser.sm (-1) bothS) := by
    unfold expS bothS
    rw [Ser.alt_pol, Ser.alt_add, Ser.alt_ltr, Ser.alt_ltr, Ser.sm_add]
  rw [e]
  exact Ser.exp_inv (by decide)
theorem ord_pal {l : List (Int × Int)} (hg : goodM l) (hl : l.length ≤ 6) : ordF (l ++ l.reverse) = 5 ∨ ordF (l ++ l.reverse) % 2 = 0 ∧ 0 ≤ ordF (l ++ l.reverse) := by
  rw [ord_rep (good_app hg (good_rev hg)) (by rw [List.length_append, List.length_reverse]; omega)]
  refine Ser.ord_odd ?_ both_alt (Ser.sch_nil _) (Ser.expS_nil (by decide))
  rw [serM_app, serM_rev]
  exact Ser.sch_pal _

/-! ### The known schemes -/
theorem half_val : fracF 1 2 = 500000136 := by
  show timesF 1 (invF 2) = _
  rw [Ser.invs.2.1]
  decide
theorem cbrt_val : cbrtF 2 = 835315745 := (Ser.pow_fast 2 666666847 (by omega)).trans (by decide +kernel)
theorem jump_val : jumpF = 904115008 := by
  unfold jumpF
  rw [cbrt_val, show minusF 2 835315745 = 164684528 by decide]
  exact (Ser.inv_fast 164684528).trans (by decide +kernel)
theorem strang_val : strangL = [(0, 500000136), (1, 1), (0, 500000136)] := by unfold strangL; rw [half_val]
theorem jumpL_val : jumpL = [(0, 452057504), (1, 904115008), (0, 452057504), (0, 595885399), (1, 191770527), (0, 595885399), (0, 452057504), (1, 904115008), (0, 452057504)] := by
  unfold jumpL ksL timesM
  rw [strang_val, jump_val]
  decide +kernel
namespace Ser
def schT : List (Bool × Fp) → Tr
  | [] => oneT
  | m :: r => cut 5 (mulT (polT (smT m.2 (ltrT m.1)) expC) (schT r))
theorem den_sch (l : List (Bool × Fp)) : Eq 5 (den (schT l)) (sch l) := by
  induction l with
  | nil => rw [schT, sch, den_one]; exact Eq.refl _ _
  | cons m r ih =>
    rw [schT, sch]
    refine (den_cut 5 _).trans ?_
    rw [den_mul]
    refine Eq.mul ?_ ih
    unfold flow expS
    have := den_pol (smT m.2 (ltrT m.1)) expC
    rwa [den_sm, den_ltr] at this
def bothT : Tr := polT (addT (ltrT false) (ltrT true)) expC
theorem den_both : Eq 5 (den bothT) (expS bothS) := by
  have := den_pol (addT (ltrT false) (ltrT true)) expC
  rwa [den_add, den_ltr, den_ltr] at this
theorem ord_tree (l : List (Bool × Fp)) (m : Nat) (hm : m < 5) (w : List Bool) (hw : w.length = m + 1) (h1 : eqT (cut m (schT l)) (cut m bothT) = true) (h2 : (den (schT l) w == den bothT w) = false) :
    ordGo (rep (cntN 5) (sch l)) (rep (cntN 5) (expS bothS)) (cntN 5) 0 = m := by
  refine ord_is hm ?_ hw ?_
  · refine ((den_sch l).le (by omega)).symm.trans (Eq.trans ?_ (den_both.le (by omega)))
    exact (den_cut m _).symm.trans ((Eq.of (den_eq h1)).trans (den_cut m _))
  · rw [← den_sch l w (by omega), ← den_both w (by omega)]
    simpa using h2
end Ser
theorem ord_lie : ordF [(0, 1), (1, 1)] = 1 := by
  rw [ord_rep (by intro m hm; simp at hm; rcases hm with rfl | rfl <;> exact ⟨by omega, by omega⟩) (by decide)]
  exact Ser.ord_tree _ 1 (by omega) [false, true] rfl (by decide +kernel) (by decide +kernel)
theorem ord_strang : ordF strangL = 2 := by
  rw [strang_val, ord_rep (by intro m hm; simp at hm; rcases hm with rfl | rfl | rfl <;> exact ⟨by omega, by omega⟩) (by decide)]
  exact Ser.ord_tree _ 2 (by omega) [false, false, true] rfl (by decide +kernel) (by decide +kernel)
theorem ord_jump : ordF jumpL = 4 := by
  rw [jumpL_val, ord_rep (by intro m hm; simp at hm; rcases hm with rfl | rfl | rfl | rfl | rfl | rfl | rfl | rfl | rfl <;> exact ⟨by omega, by omega⟩) (by decide)]
  exact Ser.ord_tree _ 4 (by omega) [false, false, false, false, true] rfl (by decide +kernel) (by decide +kernel)
end Go.Proofs.Ytodlfmagkjblgaa
