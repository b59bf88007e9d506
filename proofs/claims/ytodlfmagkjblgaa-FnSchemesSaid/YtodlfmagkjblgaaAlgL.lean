/- Dynkin's test of the program on the list of a Lie element; where two series part. Plain law. -/
import Derived.Test.YtodlfmagkjblgaaAlgB
namespace Go.Proofs.Ytodlfmagkjblgaa
open Go.RowKit
set_option linter.unusedSimpArgs false
set_option linter.unusedVariables false
set_option maxRecDepth 20000
namespace Ser

def brB : List Bool → Ser
  | [] => zero
  | x :: r => brW (ltr x) r
theorem i2b_bit {x : Int} (h : x = 0 ∨ x = 1) : b2i (i2b x) = x := b2i_i2b h
theorem rep_ltr1 (o : Int) (b : Bool) : ltrL o (b2i b, 1) = rep (cntN o) (ltr b) := by
  rw [rep_ltr o (by cases b <;> simp [b2i]) 1, toF_1, one_sm, i2b_b2i]
theorem rep_step {o : Int} (h5 : o ≤ 5) (f : Ser) (b : Bool) : brStep o (rep (cntN o) f) (b2i b) = rep (cntN o) (brk f (ltr b)) := by
  unfold brStep
  rw [rep_ltr1, rep_mul h5, rep_mul h5, rep_zip, toF_neg1, ← sub_eq]
  rfl
theorem rep_brGo {o : Int} (h5 : o ≤ 5) (r : List Bool) (f : Ser) : brGo o (r.map b2i) (rep (cntN o) f) = rep (cntN o) (brW f r) := by
  induction r generalizing f with
  | nil => rfl
  | cons x r ih => rw [List.map_cons, brGo, rep_step h5, ih]; rfl
theorem rep_brL {o : Int} (h5 : o ≤ 5) {i : Nat} (hi : i ≠ 0) : brL o (wordL i) = rep (cntN o) (brB (wB i)) := by
  rw [wordL_B]
  have hne := wB_ne hi
  cases h : wB i with
  | nil => exact absurd h hne
  | cons x r => rw [List.map_cons, brL, rep_ltr1, rep_brGo h5]; rfl
def sumR (f : Ser) : Nat → Nat → Ser
  | 0, _ => zero
  | s + 1, i => sm (f (wB i)) (brB (wB i)) + sumR f s (i + 1)
theorem rep_sumGo {o : Int} (h5 : o ≤ 5) {f : Ser} (hf : f [] = 0) (s i : Nat) (hi : i + s ≤ cntN o) (out : Ser) :
    sumGo o (rep (cntN o) f) s i (rep (cntN o) out) = rep (cntN o) (out + sumR f s i) := by
  induction s generalizing i out with
  | zero => rw [sumGo, sumR, add_zero]
  | succ s ih =>
    rw [sumGo, rep_get f (by omega), sumR]
    have hz : ∀ c : Fp, fI c = 0 → c = 0 := fun c h => fI_inj (h.trans fI_0.symm)
    by_cases h0 : fI (f (wB i)) = 0
    · rw [if_pos h0, ih _ (by omega), hz _ h0, zero_sm, zero_add]
    · rw [if_neg h0]
      have hi0 : i ≠ 0 := by
        intro e
        apply h0
        rw [e, wB_zero, hf, fI_0]
      rw [rep_brL h5 hi0, rep_zip, toF_fI, ih _ (by omega), add_assoc]
def sumO (f : Ser) : List (List Bool) → Ser
  | [] => zero
  | w :: l => sm (f w) (brB w) + sumO f l
theorem sumO_app (f : Ser) (l k : List (List Bool)) : sumO f (l ++ k) = sumO f l + sumO f k := by
  induction l with
  | nil => rw [List.nil_append, sumO, zero_add]
  | cons w l ih => rw [List.cons_append, sumO, sumO, ih, add_assoc]
theorem sumO_perm (f : Ser) {l k : List (List Bool)} (h : l.Perm k) : sumO f l = sumO f k := by
  induction h with
  | nil => rfl
  | cons x _ ih => rw [sumO, sumO, ih]
  | swap x y l =>
    rw [sumO, sumO, sumO, sumO]
    exact ext fun w => by simp only [add_at]; grind
  | trans _ _ h1 h2 => exact h1.trans h2
theorem sumR_O (f : Ser) (s i : Nat) : sumR f s i = sumO f ((List.range' i s).map wB) := by
  induction s generalizing i with
  | zero => rfl
  | succ s ih => rw [sumR, ih, List.range'_succ, List.map_cons, sumO]
def treeL : Nat → List Bool → List (List Bool)
  | 0, p => [p]
  | k + 1, p => p :: (treeL k (p ++ [false]) ++ treeL k (p ++ [true]))
theorem dyG_O (f : Ser) (x : Bool) (k : Nat) (r : List Bool) : dyG (brW (ltr x) r) k (sh (x :: r) f) = sumO f (treeL k (x :: r)) := by
  have h0 : ∀ r, sh (x :: r) f [] = f (x :: r) := fun r => by unfold sh; rw [List.append_nil]
  induction k generalizing r with
  | zero => rw [dyG_z, treeL, sumO, sumO, add_zero, h0]; rfl
  | succ k ih =>
    rw [dyG_s, treeL, sumO, sumO_app, h0, der_sh, der_sh, ← brW_snoc, ← brW_snoc]
    rw [show x :: r ++ [false] = x :: (r ++ [false]) from rfl, show x :: r ++ [true] = x :: (r ++ [true]) from rfl, ih, ih]
    rfl
theorem dyn_O (f : Ser) (k : Nat) : dyn k f = sumO f (treeL k [false] ++ treeL k [true]) := by
  rw [dyn, sumO_app, ← dyG_O, ← dyG_O]
  rfl
def wK (i : Nat) : List Bool := (wordK 5 i).map i2b
theorem wK_eq {i : Nat} (h : i ≤ 62) : wB i = wK i := by unfold wB wK; rw [wordK_eq 5 i (by omega)]
def permB (o : Nat) : Bool := ((List.range' 0 (2 ^ (o + 2) - 1)).map wK).isPerm ([] :: (treeL o [false] ++ treeL o [true]))
theorem perm_ok : permB 0 = true ∧ permB 1 = true ∧ permB 2 = true ∧ permB 3 = true ∧ permB 4 = true := ⟨by decide +kernel, by decide +kernel, by decide +kernel, by decide +kernel, by decide +kernel⟩
theorem sum_dyn {o : Int} (h1 : 1 ≤ o) (h5 : o ≤ 5) {f : Ser} (hf : f [] = 0) : sumR f (cntN o) 0 = dyn (o.toNat - 1) f := by
  have hp : permB (o.toNat - 1) = true := by
    obtain ⟨p0, p1, p2, p3, p4⟩ := perm_ok
    obtain h | h | h | h | h : o = 1 ∨ o = 2 ∨ o = 3 ∨ o = 4 ∨ o = 5 := by omega
    all_goals (subst h; assumption)
  unfold permB at hp
  have hp2 := List.isPerm_iff.1 hp
  have hc : 2 ^ (o.toNat - 1 + 2) - 1 = cntN o := by unfold cntN; rw [show o.toNat - 1 + 2 = o.toNat + 1 by omega]
  rw [hc] at hp2
  have hm : (List.range' 0 (cntN o)).map wB = (List.range' 0 (cntN o)).map wK := by
    apply List.map_congr_left
    intro i hi
    have := cntN_bd h5
    have := (List.mem_range'_1.1 hi).2
    exact wK_eq (by omega)
  rw [sumR_O, hm, sumO_perm f hp2, sumO, hf, zero_sm, zero_add, dyn_O]
theorem lenF_to (w : List Bool) : lenF w = toF (w.length : Int) := by
  induction w with
  | nil => rfl
  | cons x w ih =>
    rw [lenF, ih, List.length_cons]
    apply fI_inj
    rw [← plus_fI, fI_toF, fI_toF, fI_1]
    unfold plusF resF
    omega
theorem dyn_le (f : Ser) (k m : Nat) (h : k ≤ m) : Eq (k + 1) (dyn k f) (dyn m f) := by
  obtain ⟨d, rfl⟩ : ∃ d, m = k + d := ⟨m - k, by omega⟩
  clear h
  induction d with
  | zero => exact Eq.refl _ _
  | succ d ih => exact ih.trans ((dyn_step (k + d) f).le (by omega))
theorem chk_of {xs ss : List Int} (s i : Nat) (h : ∀ j, i ≤ j → j < i + s → ss.getD j 0 = timesF (xs.getD j 0) ((wordL j).length : Int)) : chkGo xs ss s i = true := by
  induction s generalizing i with
  | zero => rfl
  | succ s ih =>
    rw [chkGo, if_pos (h i (by omega) (by omega))]
    exact ih _ fun j h1 h2 => h j (by omega) (by omega)
theorem chk_at {xs ss : List Int} (s i : Nat) (h : chkGo xs ss s i = true) : ∀ j, i ≤ j → j < i + s → ss.getD j 0 = timesF (xs.getD j 0) ((wordL j).length : Int) := by
  induction s generalizing i with
  | zero => intro j h1 h2; omega
  | succ s ih =>
    rw [chkGo] at h
    split at h
    · rename_i h0
      intro j h1 h2
      by_cases e : j = i
      · subst e; exact h0
      · exact ih _ h j (by omega) (by omega)
    · cases h
theorem ok_rep {o : Int} (h0 : 0 ≤ o) (h5 : o ≤ 5) (f : Ser) : wordsOkF o (rep (cntN o) f) = true := by
  unfold wordsOkF
  simp only [Bool.and_eq_true, decide_eq_true_eq]
  refine ⟨⟨h0, h5⟩, rep_len _ _, ?_⟩
  have hn := rep_num (cntN o) f
  generalize rep (cntN o) f = xs at hn
  induction xs with
  | nil => rfl
  | cons x r ih =>
    rw [allNumF, ih (fun y hy => hn y (by simp [hy]))]
    have := hn x (by simp)
    simp [isNumF, this]
theorem lie_of {o : Int} (h1 : 1 ≤ o) (h5 : o ≤ 5) {f : Ser} (hf : SpE f) : lieF o (rep (cntN o) f) = true := by
  have hf0 : f [] = 0 := by
    obtain ⟨g, hg, e⟩ := hf
    rw [e [] (by simp), hg.nil]
  have hc := cntN_bd h5
  unfold lieF
  rw [if_pos ⟨ok_rep (by omega) h5 f, by rw [rep_get f (by omega), wB_zero, hf0, fI_0]⟩]
  apply chk_of
  intro j _ hj
  have hs : sumsL o (rep (cntN o) f) = rep (cntN o) (dyn (o.toNat - 1) f) := by
    unfold sumsL
    rw [rep_zero, rep_sumGo h5 hf0 _ _ (by omega), sum_dyn h1 h5 hf0, zero_add]
  have hl : (wB j).length ≤ o.toNat := wB_len (by omega)
  rw [hs, rep_get _ (by omega), rep_get _ (by omega), times_k, dyn_le f (o.toNat - 1) 4 (by omega) (wB j) (by omega), hf.dyn (wB j) (by omega), eul_at, lenF_to]
  rw [show (wordL j).length = (wB j).length by unfold wB; rw [List.length_map]]
  congr 1
  grind
theorem square_not {o : Int} (h2 : 2 ≤ o) (h5 : o ≤ 5) : lieF o (rep (cntN o) (ltr false * ltr false)) = false := by
  have hf0 : (ltr false * ltr false) [] = 0 := by rw [mul_nil, ltr_nil]; grind
  have hc : 7 ≤ cntN o := by
    unfold cntN
    have : 2 ^ 3 ≤ 2 ^ (o.toNat + 1) := Nat.pow_le_pow_right (by omega) (by omega)
    omega
  rw [Bool.eq_false_iff]
  intro h
  unfold lieF at h
  rw [if_pos ⟨ok_rep (by omega) h5 _, by rw [rep_get _ (by omega), wB_zero, hf0, fI_0]⟩] at h
  have hs : sumsL o (rep (cntN o) (ltr false * ltr false)) = rep (cntN o) (dyn (o.toNat - 1) (ltr false * ltr false)) := by
    unfold sumsL
    rw [rep_zero, rep_sumGo h5 hf0 _ _ (by omega), sum_dyn (by omega) h5 hf0, zero_add]
  have h3 := chk_at _ _ h 3 (by omega) (by omega)
  have hw : wB 3 = [false, false] := wB_pl [false, false]
  have hd : dyn 4 (ltr false * ltr false) [false, false] = 0 := by
    rw [dyn_sp (.ltr false) (ltr false) (ltr_nil false) _ (by decide), dyn_ltr]
    unfold brk
    rw [sub_at]; grind
  rw [hs, rep_get _ (by omega), rep_get _ (by omega), times_k, dyn_le _ (o.toNat - 1) 4 (by omega) (wB 3) (by rw [hw]; simp; omega), hw, hd] at h3
  have hl : ((wordL 3).length : Int) = 2 := by
    have : (wB 3).length = 2 := by rw [hw]; rfl
    unfold wB at this
    rw [List.length_map] at this
    omega
  rw [hl, show (ltr false * ltr false) [false, false] = (1 : Fp) by decide +kernel] at h3
  exact absurd h3 (by decide)

/-! ### The order of a scheme -/
theorem ord_cases (f g : Ser) (s i : Nat) (hi : i + s = cntN 5) (hbefore : ∀ j, j < i → f (wB j) = g (wB j)) :
    ordGo (rep (cntN 5) f) (rep (cntN 5) g) s i = 5 ∨ ∃ j, j < cntN 5 ∧ ordGo (rep (cntN 5) f) (rep (cntN 5) g) s i = ((wordL j).length : Int) - 1 ∧ f (wB j) ≠ g (wB j) ∧ ∀ k, k < j → f (wB k) = g (wB k) := by
  induction s generalizing i with
  | zero => exact .inl rfl
  | succ s ih =>
    rw [ordGo, rep_get f (by omega), rep_get g (by omega)]
    by_cases h : fI (f (wB i)) = fI (g (wB i))
    · rw [if_pos h]
      refine ih (i + 1) (by omega) fun j hj => ?_
      by_cases e : j = i
      · rw [e]; exact fI_inj h
      · exact hbefore j (by omega)
    · rw [if_neg h]
      exact .inr ⟨i, by omega, rfl, fun e => h (by rw [e]), hbefore⟩
theorem len_mono {v w : List Bool} (h : v.length < w.length) : plB v < plB w := by
  have h1 := pl_lt (Nat.le_refl v.length)
  have h2 : ∀ w : List Bool, 2 ^ w.length ≤ plB w + 1 := by
    intro w
    refine snoc_ind (p := fun w => 2 ^ w.length ≤ plB w + 1) (by decide) ?_ w
    intro r y ih
    rw [plB_snoc, List.length_append, List.length_cons, List.length_nil, Nat.pow_succ]
    omega
  have h3 := h2 w
  have h4 : 2 ^ (v.length + 1) ≤ 2 ^ w.length := Nat.pow_le_pow_right (by omega) (by omega)
  omega
/-- The order, where all shorter words agree and one of this length does not. -/
theorem ord_is {f g : Ser} {m : Nat} (hm : m < 5) (hlow : Eq m f g) {w : List Bool} (hw : w.length = m + 1) (hne : f w ≠ g w) : ordGo (rep (cntN 5) f) (rep (cntN 5) g) (cntN 5) 0 = m := by
  rcases ord_cases f g (cntN 5) 0 (by omega) (by intro j hj; omega) with h | ⟨j, hj, h, h1, h2⟩
  · exfalso
    have key : ∀ s i, i + s = cntN 5 → ordGo (rep (cntN 5) f) (rep (cntN 5) g) s i = 5 → ∀ j, i ≤ j → j < cntN 5 → f (wB j) = g (wB j) := by
      intro s
      induction s with
      | zero => intro i h1 h2 j h3 h4; omega
      | succ s ih =>
        intro i h1 h2 j h3 h4
        rw [ordGo, rep_get f (by omega), rep_get g (by omega)] at h2
        by_cases he : fI (f (wB i)) = fI (g (wB i))
        · rw [if_pos he] at h2
          by_cases e : j = i
          · rw [e]; exact fI_inj he
          · exact ih (i + 1) (by omega) h2 j (by omega) h4
        · rw [if_neg he] at h2
          have : (wB i).length ≤ 5 := wB_len (o := 5) (by omega)
          have e : (wordL i).length = (wB i).length := by unfold wB; rw [List.length_map]
          omega
    have := key _ 0 (by omega) h (plB w) (by omega) (pl_cnt (o := 5) (by show w.length ≤ 5; omega))
    rw [wB_pl] at this
    exact hne this
  · have hl : (wordL j).length = (wB j).length := by unfold wB; rw [List.length_map]
    have a1 : m < (wB j).length := by
      rcases Nat.lt_or_ge m (wB j).length with h3 | h3
      · exact h3
      · exact absurd (hlow _ h3) h1
    have a2 : (wB j).length ≤ m + 1 := by
      rcases Nat.lt_or_ge (m + 1) (wB j).length with h3 | h3
      · exfalso
        have h4 := len_mono (v := w) (w := wB j) (by omega)
        rw [pl_wB] at h4
        have h5 := h2 _ h4
        rw [wB_pl] at h5
        exact hne h5
      · exact h3
    rw [h]
    omega
theorem ord_odd {f g : Ser} (hf : Eq 5 (f * alt f) one) (hg : Eq 5 (g * alt g) one) (hf0 : f [] = 1) (hg0 : g [] = 1) :
    ordGo (rep (cntN 5) f) (rep (cntN 5) g) (cntN 5) 0 = 5 ∨ (ordGo (rep (cntN 5) f) (rep (cntN 5) g) (cntN 5) 0) % 2 = 0 ∧ 0 ≤ ordGo (rep (cntN 5) f) (rep (cntN 5) g) (cntN 5) 0 := by
  rcases ord_cases f g (cntN 5) 0 (by omega) (by intro j hj; omega) with h | ⟨j, hj, h, h1, h2⟩
  · exact .inl h
  · right
    have hl : (wordL j).length = (wB j).length := by unfold wB; rw [List.length_map]
    have hodd := part_odd hf hg hf0 hg0 (wB_len (o := 5) hj) (fun v hv => by
      have h3 := len_mono hv
      rw [pl_wB] at h3
      have h4 := h2 _ h3
      rwa [wB_pl] at h4) h1
    rw [h]
    omega
end Ser
end Go.Proofs.Ytodlfmagkjblgaa
