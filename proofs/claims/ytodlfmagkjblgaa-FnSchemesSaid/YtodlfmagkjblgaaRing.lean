/- Words as series: the contracts of the program's operations on them, and what a local variable of them holds. -/
import Derived.Test.YtodlfmagkjblgaaAlgL
import Derived.Test.YtodlfmagkjblgaaTab
import Derived.Test.YtodlfmagkjblgaaDrawS
namespace Go.Proofs.Ytodlfmagkjblgaa
open Go.RowKit
set_option linter.unusedSimpArgs false
set_option linter.unusedVariables false
set_option maxRecDepth 20000
open Ser (rep ser expS logS sch SpE)

theorem r64_rep (n : Nat) (f : Ser) : ∀ x ∈ rep n f, R64 x := nums_r64 (Ser.rep_num n f)
theorem fit_rep {o : Int} (h0 : 0 ≤ o) (h5 : o ≤ 5) (f g : Ser) : fitF o (rep (cntN o) f) o (rep (cntN o) g) = true := fit_of (Ser.ok_rep h0 h5 f) (Ser.ok_rep h0 h5 g)

theorem impl_Mul_rep (o : Int) (h0 : 0 ≤ o) (h5 : o ≤ 5) (f g : Ser) (A : Option Addr) (c lo hi : Nat) (B : Option Addr) (d lo' hi' : Nat) (w : World) (h : Ints w lo hi A (cntN o) c (rep (cntN o) f)) (h' : Ints w lo' hi' B (cntN o) d (rep (cntN o) g)) (hh : hi ≤ w.heap.size) (gh : hi' ≤ w.heap.size) :
    Calls Try.prog 22 #[.agg #[.int .i64 o, .slice A (cntN o) c], .agg #[.int .i64 o, .slice B (cntN o) d]] w fun e w' => ∃ A' c', e = .returned (.tuple #[.agg #[.int .i64 o, .slice A' (cntN o) c'], .bool true]) ∧ OwnI w' w.heap.size w'.heap.size A' (cntN o) c' (rep (cntN o) (f * g)) ∧ Below w.heap.size w w' := by
  refine (impl_MulWords o A (cntN o) c _ lo hi o B (cntN o) d _ lo' hi' w h h' hh gh).mono ?_
  rintro e w' ⟨A', n', c', rfl, q1, q2⟩
  have hF : mulF o (rep (cntN o) f) o (rep (cntN o) g) = ((o, rep (cntN o) (f * g)), true) := by unfold mulF; rw [if_pos (fit_rep h0 h5 f g), Ser.rep_mul h5]
  rw [hF] at q1 ⊢
  obtain rfl : n' = cntN o := by rw [← q1.len]; exact Ser.rep_len _ _
  exact ⟨A', c', rfl, q1, q2⟩
theorem impl_Add_rep (o : Int) (h0 : 0 ≤ o) (h5 : o ≤ 5) (f g : Ser) (A : Option Addr) (c lo hi : Nat) (B : Option Addr) (d lo' hi' : Nat) (w : World) (h : Ints w lo hi A (cntN o) c (rep (cntN o) f)) (h' : Ints w lo' hi' B (cntN o) d (rep (cntN o) g)) (hh : hi ≤ w.heap.size) (gh : hi' ≤ w.heap.size) :
    Calls Try.prog 31 #[.agg #[.int .i64 o, .slice A (cntN o) c], .agg #[.int .i64 o, .slice B (cntN o) d]] w fun e w' => ∃ A' c', e = .returned (.tuple #[.agg #[.int .i64 o, .slice A' (cntN o) c'], .bool true]) ∧ OwnI w' w.heap.size w'.heap.size A' (cntN o) c' (rep (cntN o) (f + g)) ∧ Below w.heap.size w w' := by
  refine (impl_AddWords o A (cntN o) c _ lo hi o B (cntN o) d _ lo' hi' w h h' hh gh).mono ?_
  rintro e w' ⟨A', n', c', rfl, q1, q2⟩
  have hF : addF o (rep (cntN o) f) o (rep (cntN o) g) = ((o, rep (cntN o) (f + g)), true) := by unfold addF; rw [if_pos (fit_rep h0 h5 f g), Ser.rep_zip, Ser.toF_1, Ser.one_sm]
  rw [hF] at q1 ⊢
  obtain rfl : n' = cntN o := by rw [← q1.len]; exact Ser.rep_len _ _
  exact ⟨A', c', rfl, q1, q2⟩
theorem impl_Scale_rep (o : Int) (h0 : 0 ≤ o) (h5 : o ≤ 5) (f : Ser) (k : Int) (A : Option Addr) (c lo hi : Nat) (w : World) (h : Ints w lo hi A (cntN o) c (rep (cntN o) f)) (hh : hi ≤ w.heap.size) (hk : R64 k) :
    Calls Try.prog 35 #[.agg #[.int .i64 o, .slice A (cntN o) c], .int .i64 k] w fun e w' => ∃ A' c', e = .returned (.agg #[.int .i64 o, .slice A' (cntN o) c']) ∧ OwnI w' w.heap.size w'.heap.size A' (cntN o) c' (rep (cntN o) (Ser.sm (Ser.toF k) f)) ∧ Below w.heap.size w w' := by
  refine (impl_ScaleWords o A (cntN o) c _ lo hi k w h hh hk).mono ?_
  rintro e w' ⟨A', n', c', rfl, q1, q2⟩
  have hF : scaleF o (rep (cntN o) f) k = (o, rep (cntN o) (Ser.sm (Ser.toF k) f)) := by unfold scaleF; rw [if_pos (Ser.ok_rep h0 h5 f), Ser.rep_scale]
  rw [hF] at q1 ⊢
  obtain rfl : n' = cntN o := by rw [← q1.len]; exact Ser.rep_len _ _
  exact ⟨A', c', rfl, q1, q2⟩
theorem impl_Exp_rep (o : Int) (h0 : 0 ≤ o) (h5 : o ≤ 5) (f : Ser) (hf : f [] = 0) (A : Option Addr) (c lo hi : Nat) (w : World) (h : Ints w lo hi A (cntN o) c (rep (cntN o) f)) (hh : hi ≤ w.heap.size) :
    Calls Try.prog 32 #[.agg #[.int .i64 o, .slice A (cntN o) c]] w fun e w' => ∃ A' c', e = .returned (.tuple #[.agg #[.int .i64 o, .slice A' (cntN o) c'], .bool true]) ∧ OwnI w' w.heap.size w'.heap.size A' (cntN o) c' (rep (cntN o) (expS f)) ∧ Below w.heap.size w w' := by
  refine (impl_ExpWords o A (cntN o) c _ lo hi w h hh).mono ?_
  rintro e w' ⟨A', n', c', rfl, q1, q2⟩
  have hc := cntN_bd h5
  have hF : expF o (rep (cntN o) f) = ((o, rep (cntN o) (expS f)), true) := by unfold expF; rw [if_pos ⟨Ser.ok_rep h0 h5 f, by rw [Ser.rep_get f (by omega), Ser.wB_zero, hf, Ser.fI_0]⟩, Ser.rep_exp h0 h5 hf]
  rw [hF] at q1 ⊢
  obtain rfl : n' = cntN o := by rw [← q1.len]; exact Ser.rep_len _ _
  exact ⟨A', c', rfl, q1, q2⟩
theorem impl_Log_rep (o : Int) (h0 : 0 ≤ o) (h5 : o ≤ 5) (f : Ser) (hf : f [] = 1) (A : Option Addr) (c lo hi : Nat) (w : World) (h : Ints w lo hi A (cntN o) c (rep (cntN o) f)) (hh : hi ≤ w.heap.size) :
    Calls Try.prog 33 #[.agg #[.int .i64 o, .slice A (cntN o) c]] w fun e w' => ∃ A' c', e = .returned (.tuple #[.agg #[.int .i64 o, .slice A' (cntN o) c'], .bool true]) ∧ OwnI w' w.heap.size w'.heap.size A' (cntN o) c' (rep (cntN o) (logS f)) ∧ Below w.heap.size w w' := by
  refine (impl_LogWords o A (cntN o) c _ lo hi w h hh).mono ?_
  rintro e w' ⟨A', n', c', rfl, q1, q2⟩
  have hc := cntN_bd h5
  have hF : logF o (rep (cntN o) f) = ((o, rep (cntN o) (logS f)), true) := by unfold logF; rw [if_pos ⟨Ser.ok_rep h0 h5 f, by rw [Ser.rep_get f (by omega), Ser.wB_zero, hf, Ser.fI_1]⟩, Ser.rep_log h0 h5 hf]
  rw [hF] at q1 ⊢
  obtain rfl : n' = cntN o := by rw [← q1.len]; exact Ser.rep_len _ _
  exact ⟨A', c', rfl, q1, q2⟩
theorem impl_Unit_rep (o : Int) (h0 : 0 ≤ o) (h5 : o ≤ 5) (w : World) :
    Calls Try.prog 34 #[.int .i64 o] w fun e w' => ∃ A' c', e = .returned (.agg #[.int .i64 o, .slice A' (cntN o) c']) ∧ OwnI w' w.heap.size w'.heap.size A' (cntN o) c' (rep (cntN o) Ser.one) ∧ Below w.heap.size w w' := by
  refine (impl_Unit o w h0 h5).mono ?_
  rintro e w' ⟨A', c', rfl, q1, q2⟩
  rw [Ser.rep_unit] at q1
  exact ⟨A', c', rfl, q1, q2⟩
def serM (ms : List (Int × Int)) : List (Bool × Fp) := ms.map fun m => (Ser.i2b m.1, Ser.toF m.2)
def goodM (ms : List (Int × Int)) : Prop := ∀ m ∈ ms, (0 ≤ m.1 ∧ m.1 ≤ 1) ∧ 0 ≤ m.2 ∧ m.2 < 1000000271
theorem ok_good {ms : List (Int × Int)} (h : goodM ms) (hl : ms.length ≤ 12) : schemeOkF ms = true := by
  unfold schemeOkF
  rw [decide_eq_true hl, Bool.true_and]
  clear hl
  induction ms with
  | nil => rfl
  | cons m r ih =>
    rw [movesGo, ih fun x hx => h x (by simp [hx])]
    have := h m (by simp)
    simp [moveOk, isNumF, this]
theorem impl_Sch_rep (o : Int) (h1 : 1 ≤ o) (h5 : o ≤ 5) (A : Option Addr) (n c : Nat) (ms : List (Int × Int)) (lo hi : Nat) (w : World) (h : Moves w lo hi A n c ms) (hh : hi ≤ w.heap.size) (hg : goodM ms) (hn : n ≤ 12) :
    Calls Try.prog 46 #[.int .i64 o, .slice A n c] w fun e w' => ∃ A' c', e = .returned (.tuple #[.agg #[.int .i64 o, .slice A' (cntN o) c'], .bool true]) ∧ OwnI w' w.heap.size w'.heap.size A' (cntN o) c' (rep (cntN o) (sch (serM ms))) ∧ Below w.heap.size w w' := by
  refine (impl_Sch_ok o A n c ms lo hi w h hh h1 h5 (ok_good hg (by rw [h.len]; exact hn))).mono ?_
  rintro e w' ⟨A', c', rfl, q1, q2⟩
  rw [Ser.rep_unit, Ser.rep_sch h1 h5 ms (fun m hm => by have := hg m hm; omega), Ser.one_mul] at q1
  exact ⟨A', c', rfl, q1, q2⟩
theorem laws_equal_rep (o : Int) (f g : Ser) (A : Option Addr) (c lo hi : Nat) (B : Option Addr) (d lo' hi' : Nat) (w : World) (h : Ints w lo hi A (cntN o) c (rep (cntN o) f)) (h' : Ints w lo' hi' B (cntN o) d (rep (cntN o) g)) (hh : hi ≤ w.heap.size) (gh : hi' ≤ w.heap.size) (he : Ser.Eq o.toNat f g) :
    Calls Try.prog 36 #[.agg #[.int .i64 o, .slice A (cntN o) c], .agg #[.int .i64 o, .slice B (cntN o) d]] w fun e w' => e = .returned (.bool true) ∧ Below w.heap.size w w' := by
  refine (laws_equal o A (cntN o) c _ lo hi o B (cntN o) d _ lo' hi' w h h' hh gh).mono ?_
  rintro e w' ⟨rfl, q⟩
  rw [Ser.rep_congr he]
  exact ⟨by simp, q⟩

/-- A variable of words in the block g, its numbers in the blocks from lo on. -/
def WV (w : World) (lo g : Nat) (o : Int) (f : Ser) : Prop := ∃ A c, BlkN w g #[.int .i64 o, .slice A (cntN o) c] ∧ Ints w lo w.heap.size A (cntN o) c (rep (cntN o) f) ∧ lo ≤ g
section
variable {w w' : World} {lo g : Nat} {o : Int} {f : Ser}
theorem WV.below (h : WV w lo g o f) (hb : Below w.heap.size w w') : WV w' lo g o f := by
  obtain ⟨A, c, h1, h2, h3⟩ := h
  exact ⟨A, c, h1.below hb, (h2.below hb (Nat.le_refl _)).wide (Nat.le_refl _) hb.size, h3⟩
theorem WV.touch {l hi : Nat} (h : WV w lo g o f) (ht : Touch l hi w w') (hd : hi ≤ lo) : WV w' lo g o f := by
  obtain ⟨A, c, h1, h2, h3⟩ := h
  exact ⟨A, c, h1.touch ht (.inr (by omega)), (h2.same (ht.same (.inr hd) (Nat.le_refl _))).wide (Nat.le_refl _) ht.size, h3⟩
theorem WV.new {lo' : Nat} {A : Option Addr} {c : Nat} (h : OwnI w lo' w.heap.size A (cntN o) c (rep (cntN o) f)) (hl : lo ≤ lo') (hl2 : lo ≤ w.heap.size) (T : TypeId) : WV (w.alloc (.cells #[.int .i64 o, .slice A (cntN o) c] T)) lo w.heap.size o f :=
  ⟨A, c, BlkN.new _ _ _, (h.ints.below (below_alloc w _) (Nat.le_refl _)).wide hl (by simp), hl2⟩
end
theorem set_rep (n : Nat) (f : Ser) : (rep n f).set 0 0 = rep n (fun w => if w = [] then 0 else f w) := by
  refine Ser.rep_ext (by rw [List.length_set, Ser.rep_len]) ?_
  intro i x hi hx
  by_cases h0 : i = 0
  · subst h0
    rw [List.getElem?_set_self (by rw [Ser.rep_len]; exact hi)] at hx
    injection hx with hx
    rw [← hx, Ser.wB_zero, if_pos rfl, Ser.fI_0]
  · rw [List.getElem?_set_ne (by omega), Ser.rep_at f hi] at hx
    injection hx with hx
    rw [← hx, if_neg (Ser.wB_ne h0)]
theorem OwnI.put {w : World} {lo hi n c g : Nat} {xs : List Int} (h : OwnI w lo hi (some ⟨g, 0, none⟩) n c xs) (k : Nat) {x : Int} (hx : R64 x) : OwnI (w.setCell ⟨g, k, none⟩ (.int .i64 x)) lo hi (some ⟨g, 0, none⟩) n c (xs.set k x) := by
  have hst := h.own.stored k (.int .i64 x)
  refine ⟨by simpa [List.map_set] using hst.1, h.lt, fun y hy => ?_⟩
  rcases List.mem_or_eq_of_mem_set hy with h1 | rfl
  · exact h.rng y h1
  · exact hx
end Go.Proofs.Ytodlfmagkjblgaa
