/- A region that draws its order and ends in one operation for which all others wait: the world's condition need not hold behind that last one. -/
import Derived.Test.YthjkdpapadolgaaGreatDoorBase
namespace Go.Proofs.YthjkdpapadolgaaGreatDoor
open Go.RowKit
set_option linter.unusedSimpArgs false
set_option linter.unusedVariables false
set_option maxRecDepth 20000

section
variable {P : Program} {ops : Array Oper} {Q : Exit → Act → World → Prop} {md : Region.Mode} {S : World → Prop} {z : Nat}

def wpAnyZ (P : Program) (md : Region.Mode) (ops : Array Oper) (Q : Exit → Act → World → Prop) (S : World → Prop) (z : Nat) : Nat → Array Bool → Act → World → Prop
  | 0, listed, a, w => Region.ready md ops listed = [] ∧ Q .normal a w
  | fuel + 1, listed, a, w =>
    (Region.ready md ops listed = [] → Q .normal a w) ∧
    ∀ i ∈ Region.ready md ops listed, wpOp P ops Q i (fun a' w' => ((listed.setIfInBounds i true).getD z true = false → S w') ∧ wpAnyZ P md ops Q S z fuel (listed.setIfInBounds i true) a' w') a w

theorem wpAny_of_Z : ∀ (fuel : Nat) (listed : Array Bool) (a : Act) (w : World), wpAnyZ P md ops Q S z fuel listed a w → wpAny P md ops Q fuel listed a w
  | 0, _, _, _, h => h
  | fuel + 1, _, _, _, h => ⟨h.1, fun i hi => wpOp_mono (fun a' w' h' => wpAny_of_Z fuel _ a' w' h'.2) (h.2 i hi)⟩

theorem waits_spec {j i : Nat} (h : (ops[j]?.any fun o => o.after.any fun e => Region.binds md e && e.on == i) = true) : ∃ oj, ops[j]? = some oj ∧ ∃ e ∈ oj.after, Region.binds md e = true ∧ e.on = i := by
  cases hj : ops[j]? with
  | none => rw [hj] at h; cases h
  | some oj =>
    rw [hj] at h
    obtain ⟨e, he, hb⟩ := Array.any_eq_true'.1 (show oj.after.any (fun e => Region.binds md e && e.on == i) = true from h)
    simp only [Bool.and_eq_true, beq_iff_eq] at hb
    exact ⟨oj, rfl, e, he, hb.1, hb.2⟩

theorem set_at (listed : Array Bool) (z : Nat) : (listed.setIfInBounds z true).getD z true = true := by
  rcases Nat.lt_or_ge z listed.size with h | h
  · simp [h]
  · simp [Nat.not_lt.2 h]
theorem unset {listed : Array Bool} {i z : Nat} (h : (listed.setIfInBounds i true).getD z true = false) : listed.getD z true = false := by
  by_cases hiz : i = z
  · subst hiz; rw [set_at] at h; cases h
  · rwa [getD_set_ne true hiz] at h

theorem wpAnyZ_first {T : World → Prop} {i : Nat} {oi : Oper} {v : Value} (hi : ops[i]? = some oi) (hsel : ∀ (j : Nat) (o : Oper) cs b, ops[j]? = some o → o.op ≠ .select cs b)
    (hQ : ∀ c a w, Q (.panic c) (a.put oi.dst v) w → Q (.panic c) a w) (hiz : i ≠ z) (hT : ∀ w, S w → T w) :
    ∀ (fuel : Nat) (listed : Array Bool) (a : Act) (w : World),
      ((ops[z]?.any fun o => o.after.any fun e => Region.binds md e && e.on == i) = true ∧ listed.getD z true = false ∨ ∀ w, T w) →
      (∀ j oj, ops[j]? = some oj → j ≠ i → listed.getD j true = false → (∀ e ∈ oj.after, Region.binds md e = true → e.on ≠ i) → oi.apart ops oj = true) →
      i ∈ Region.ready md ops listed → YieldsIf P ops T oi v a → T w → (listed.getD z true = false → S w) →
      wpAnyZ P md ops Q S z fuel (listed.setIfInBounds i true) (a.put oi.dst v) w → wpAnyZ P md ops Q S z (fuel + 1) listed a w := by
  intro fuel
  induction fuel with
  | zero =>
    intro listed a w _ _ hr hy hTw hS H
    refine ⟨fun h => (by rw [h] at hr; cases hr), fun j hj => ?_⟩
    by_cases hji : j = i
    · subst hji; exact hy.wpOp hi hTw ⟨fun h => hS (unset h), H⟩
    · have := ready_mono hj hji
      rw [H.1] at this
      cases this
  | succ fuel ih =>
    intro listed a w hz hfree hr hy hTw hS H
    refine ⟨fun h => (by rw [h] at hr; cases hr), fun j hj => ?_⟩
    by_cases hji : j = i
    · subst hji; exact hy.wpOp hi hTw ⟨fun h => hS (unset h), H⟩
    · have h1 := H.2 j (ready_mono hj hji)
      obtain ⟨hjun, oj, hoj, hall⟩ := mem_ready.1 hj
      have hnot : ∀ e ∈ oj.after, Region.binds md e = true → e.on ≠ i := fun e he hb heq => by
        have h1 := hall e he hb
        have h0 := (mem_ready.1 hr).1
        rw [heq] at h1
        rcases Nat.lt_or_ge i listed.size with h' | h'
        · simp [h'] at h0 h1; rw [h0] at h1; cases h1
        · simp [Array.getElem?_eq_none h'] at h1
      have hz' : (ops[z]?.any fun o => o.after.any fun e => Region.binds md e && e.on == i) = true ∧ (listed.setIfInBounds j true).getD z true = false ∨ ∀ w, T w := by
        rcases hz with ⟨hz, hu⟩ | hz
        · refine .inl ⟨hz, ?_⟩
          have hjz : j ≠ z := fun hjz => by
            obtain ⟨oz, hoz, e, he, hb, hon⟩ := waits_spec hz
            subst hjz
            have : oz = oj := Option.some.inj (hoz.symm.trans hoj)
            subst this
            exact hnot e he hb hon
          rw [getD_set_ne true hjz]; exact hu
        · exact .inr hz
      have hset : ∀ {x : World}, (((listed.setIfInBounds i true).setIfInBounds j true).getD z true = false → S x) → (listed.setIfInBounds j true).getD z true = false → S x := fun h hu => h (by
        rw [Array.setIfInBounds_comm _ _ (Ne.symm hji), getD_set_ne true hiz]; exact hu)
      have h2 := wpOp_putIf hoj (hfree j oj hoj hji hjun hnot) (fun cs b => hsel i oi cs b hi) (fun cs b => hsel j oj cs b hoj) hQ hy h1
      have hfree' : ∀ k ok, ops[k]? = some ok → k ≠ i → (listed.setIfInBounds j true).getD k true = false →
          (∀ e ∈ ok.after, Region.binds md e = true → e.on ≠ i) → oi.apart ops ok = true := fun k ok hk hki hun hno => by
        refine hfree k ok hk hki ?_ hno
        by_cases hjk : j = k
        · subst hjk; exact hjun
        · rw [getD_set_ne true hjk] at hun; exact hun
      refine wpOp_mono (fun a' w' h3 => ⟨hset h3.2.1, ih (listed.setIfInBounds j true) a' w' hz' hfree' (ready_mono hr (Ne.symm hji)) h3.1 ?_ (hset h3.2.1) ?_⟩) h2
      · rcases hz' with ⟨_, hu⟩ | hz'
        · exact hT _ (hset h3.2.1 hu)
        · exact hz' _
      · rw [Array.setIfInBounds_comm _ _ hji]
        exact h3.2.2

/-- Number i may be taken first: it yields v in every world that meets S. -/
theorem wpAnyZ_take (i : Nat) (v : Value) {oi : Oper} {fuel : Nat} {listed : Array Bool} {a : Act} {w : World} (hi : ops[i]? = some oi)
    (hs : Region.noSelect ops = true) (hf : (Region.free md ops listed i && (Region.ready md ops listed).contains i && (decide (i ≠ z) && ((ops[z]?.any fun o => o.after.any fun e => Region.binds md e && e.on == i) && !(listed.getD z true)))) = true)
    (hQ : ∀ c a w, Q (.panic c) (a.put oi.dst v) w → Q (.panic c) a w) (hw : Region.wanted oi (yielded ops a.tmps) = true) (hy : ∀ w, S w → (execOp a.eval oi).run P w = .ok (.value v) w) (hS : S w)
    (h : wpAnyZ P md ops Q S z fuel (listed.setIfInBounds i true) (a.put oi.dst v) w) : wpAnyZ P md ops Q S z (fuel + 1) listed a w := by
  simp only [Bool.and_eq_true, decide_eq_true_eq, Bool.not_eq_true'] at hf
  exact wpAnyZ_first (T := S) hi (Region.noSelect_spec hs) hQ hf.2.1 (fun _ h => h) fuel listed a w (.inl ⟨hf.2.2.1, hf.2.2.2⟩) (Region.free_spec hi hf.1.1) (by simpa using hf.1.2) (Or.inl ⟨hw, hy⟩) hS (fun _ => hS) h

/-- Number i may be taken first: it yields v in every world. -/
theorem wpAnyZ_takeW (i : Nat) (v : Value) {oi : Oper} {fuel : Nat} {listed : Array Bool} {a : Act} {w : World} (hi : ops[i]? = some oi)
    (hs : Region.noSelect ops = true) (hf : (Region.free md ops listed i && (Region.ready md ops listed).contains i && decide (i ≠ z)) = true)
    (hQ : ∀ c a w, Q (.panic c) (a.put oi.dst v) w → Q (.panic c) a w) (hw : Region.wanted oi (yielded ops a.tmps) = true) (hy : ∀ w, (execOp a.eval oi).run P w = .ok (.value v) w) (hS : S w)
    (h : wpAnyZ P md ops Q S z fuel (listed.setIfInBounds i true) (a.put oi.dst v) w) : wpAnyZ P md ops Q S z (fuel + 1) listed a w := by
  simp only [Bool.and_eq_true, decide_eq_true_eq] at hf
  exact wpAnyZ_first (T := fun _ => True) hi (Region.noSelect_spec hs) hQ hf.2 (fun _ _ => trivial) fuel listed a w (.inr fun _ => trivial) (Region.free_spec hi hf.1.1) (by simpa using hf.1.2) (Or.inl ⟨hw, fun w _ => hy w⟩) trivial (fun _ => hS) h

/-- An operation whose guard says no. -/
theorem wpAnyZ_skip (i : Nat) {oi : Oper} {fuel : Nat} {listed : Array Bool} {a : Act} {w : World} (hi : ops[i]? = some oi)
    (hs : Region.noSelect ops = true) (hf : (Region.free md ops listed i && (Region.ready md ops listed).contains i && decide (i ≠ z)) = true)
    (hQ : ∀ c a w, Q (.panic c) (a.put oi.dst undef) w → Q (.panic c) a w) (hw : Region.wanted oi (yielded ops a.tmps) = false) (hS : S w)
    (h : wpAnyZ P md ops Q S z fuel (listed.setIfInBounds i true) (a.put oi.dst undef) w) : wpAnyZ P md ops Q S z (fuel + 1) listed a w := by
  simp only [Bool.and_eq_true, decide_eq_true_eq] at hf
  exact wpAnyZ_first (T := fun _ => True) hi (Region.noSelect_spec hs) hQ hf.2 (fun _ _ => trivial) fuel listed a w (.inr fun _ => trivial) (Region.free_spec hi hf.1.1) (by simpa using hf.1.2) (Or.inr ⟨hw, rfl⟩) trivial (fun _ => hS) h

/-- Number i alone may come up now. -/
theorem wpAnyZ_one (i : Nat) {oi : Oper} {fuel : Nat} {listed : Array Bool} {a : Act} {w : World} (hr : Region.ready md ops listed = [i]) (hi : ops[i]? = some oi) (hw : Region.wanted oi (yielded ops a.tmps) = true)
    (h : ∀ K' : Act → World → Prop, Hid (∀ a w, S w → wpAnyZ P md ops Q S z fuel (listed.setIfInBounds i true) a w → K' a w) → Oper.wp P oi a w K' Q) : wpAnyZ P md ops Q S z (fuel + 1) listed a w := by
  refine ⟨fun h0 => (by rw [h0] at hr; cases hr), fun j hj => ?_⟩
  rw [hr] at hj
  obtain rfl : j = i := by simpa using hj
  refine wpOp_step hi (fun K' hK => ?_)
  rw [if_pos hw]
  exact h K' (fun a w hS hW => hK a w ⟨fun _ => hS, hW⟩)

/-- Two operations may come up now. -/
theorem wpAnyZ_two (i j : Nat) {oi oj : Oper} {fuel : Nat} {listed : Array Bool} {a : Act} {w : World} (hr : Region.ready md ops listed = [i, j]) (hi : ops[i]? = some oi) (hj : ops[j]? = some oj) (hwi : Region.wanted oi (yielded ops a.tmps) = true) (hwj : Region.wanted oj (yielded ops a.tmps) = true)
    (h1 : ∀ K' : Act → World → Prop, Hid (∀ a w, S w → wpAnyZ P md ops Q S z fuel (listed.setIfInBounds i true) a w → K' a w) → Oper.wp P oi a w K' Q)
    (h2 : ∀ K' : Act → World → Prop, Hid (∀ a w, S w → wpAnyZ P md ops Q S z fuel (listed.setIfInBounds j true) a w → K' a w) → Oper.wp P oj a w K' Q) : wpAnyZ P md ops Q S z (fuel + 1) listed a w := by
  refine ⟨fun h0 => (by rw [h0] at hr; cases hr), fun k hk => ?_⟩
  rw [hr] at hk
  rcases List.mem_cons.1 hk with rfl | hk
  · refine wpOp_step hi (fun K' hK => ?_)
    rw [if_pos hwi]
    exact h1 K' (fun a w hS hW => hK a w ⟨fun _ => hS, hW⟩)
  · obtain rfl : k = j := by simpa using hk
    refine wpOp_step hj (fun K' hK => ?_)
    rw [if_pos hwj]
    exact h2 K' (fun a w hS hW => hK a w ⟨fun _ => hS, hW⟩)

/-- Three operations may come up now. -/
theorem wpAnyZ_three (i j l : Nat) {oi oj ol : Oper} {fuel : Nat} {listed : Array Bool} {a : Act} {w : World} (hr : Region.ready md ops listed = [i, j, l]) (hi : ops[i]? = some oi) (hj : ops[j]? = some oj) (hl : ops[l]? = some ol) (hwi : Region.wanted oi (yielded ops a.tmps) = true) (hwj : Region.wanted oj (yielded ops a.tmps) = true) (hwl : Region.wanted ol (yielded ops a.tmps) = true)
    (h1 : ∀ K' : Act → World → Prop, Hid (∀ a w, S w → wpAnyZ P md ops Q S z fuel (listed.setIfInBounds i true) a w → K' a w) → Oper.wp P oi a w K' Q)
    (h2 : ∀ K' : Act → World → Prop, Hid (∀ a w, S w → wpAnyZ P md ops Q S z fuel (listed.setIfInBounds j true) a w → K' a w) → Oper.wp P oj a w K' Q)
    (h3 : ∀ K' : Act → World → Prop, Hid (∀ a w, S w → wpAnyZ P md ops Q S z fuel (listed.setIfInBounds l true) a w → K' a w) → Oper.wp P ol a w K' Q) : wpAnyZ P md ops Q S z (fuel + 1) listed a w := by
  refine ⟨fun h0 => (by rw [h0] at hr; cases hr), fun k hk => ?_⟩
  rw [hr] at hk
  rcases List.mem_cons.1 hk with rfl | hk
  · refine wpOp_step hi (fun K' hK => ?_)
    rw [if_pos hwi]
    exact h1 K' (fun a w hS hW => hK a w ⟨fun _ => hS, hW⟩)
  · rcases List.mem_cons.1 hk with rfl | hk
    · refine wpOp_step hj (fun K' hK => ?_)
      rw [if_pos hwj]
      exact h2 K' (fun a w hS hW => hK a w ⟨fun _ => hS, hW⟩)
    · obtain rfl : k = l := by simpa using hk
      refine wpOp_step hl (fun K' hK => ?_)
      rw [if_pos hwl]
      exact h3 K' (fun a w hS hW => hK a w ⟨fun _ => hS, hW⟩)

/-- The last one. -/
theorem wpAnyZ_last {oz : Oper} {fuel : Nat} {listed : Array Bool} {a : Act} {w : World} (hr : Region.ready md ops listed = [z]) (hi : ops[z]? = some oz) (hr2 : Region.ready md ops (listed.setIfInBounds z true) = []) (hw : Region.wanted oz (yielded ops a.tmps) = true)
    (h : ∀ K' : Act → World → Prop, (∀ a w, Q .normal a w → K' a w) → Oper.wp P oz a w K' Q) : wpAnyZ P md ops Q S z (fuel + 1) listed a w := by
  refine ⟨fun h0 => (by rw [h0] at hr; cases hr), fun j hj => ?_⟩
  rw [hr] at hj
  obtain rfl : j = z := by simpa using hj
  refine wpOp_step hi (fun K' hK => ?_)
  rw [if_pos hw]
  refine h K' (fun a w hW => hK a w ⟨fun h => (by rw [set_at] at h; cases h), ?_⟩)
  cases fuel with
  | zero => exact ⟨hr2, hW⟩
  | succ n => exact ⟨fun _ => hW, by rw [hr2]; simp⟩

/-- The last one but one; a single one, y, waits for it. -/
theorem wpAnyZ_last2 (y : Nat) {oz oy : Oper} {fuel : Nat} {listed : Array Bool} {a : Act} {w : World} (hr : Region.ready md ops listed = [z]) (hi : ops[z]? = some oz) (hr2 : Region.ready md ops (listed.setIfInBounds z true) = [y]) (hy : ops[y]? = some oy)
    (hr3 : Region.ready md ops ((listed.setIfInBounds z true).setIfInBounds y true) = []) (hyz : y ≠ z) (hw : Region.wanted oz (yielded ops a.tmps) = true) (hwy : ∀ ys, Region.wanted oy ys = true)
    (h : ∀ K' : Act → World → Prop, (∀ a w, Oper.wp P oy a w (fun a w => Q .normal a w) Q → K' a w) → Oper.wp P oz a w K' Q) : wpAnyZ P md ops Q S z (fuel + 2) listed a w := by
  refine ⟨fun h0 => (by rw [h0] at hr; cases hr), fun j hj => ?_⟩
  rw [hr] at hj
  obtain rfl : j = z := by simpa using hj
  refine wpOp_step hi (fun K' hK => ?_)
  rw [if_pos hw]
  refine h K' (fun a w hW => hK a w ⟨fun h => (by rw [set_at] at h; cases h), ?_⟩)
  refine ⟨fun h0 => (by rw [h0] at hr2; cases hr2), fun i hi2 => ?_⟩
  rw [hr2] at hi2
  obtain rfl : i = y := by simpa using hi2
  refine wpOp_step hy (fun K2 hK2 => ?_)
  rw [if_pos (hwy _)]
  refine Oper.wp_mono (fun a w hW => hK2 a w ⟨fun h => ?_, ?_⟩) hW
  · rw [getD_set_ne true hyz, set_at] at h; cases h
  · cases fuel with
    | zero => exact ⟨hr3, hW⟩
    | succ n => exact ⟨fun _ => hW, by rw [hr3]; simp⟩

theorem wp_region_Z (S : World → Prop) (z : Nat) {id : Nat} {a : Act} {w : World} (hm : P.follows .mixedOrders = true)
    (h : wpAnyZ P .any ops Q S z ops.size (Array.replicate ops.size false) a w.drew) : (Code.region id ops true).wp P Q a w :=
  wp_region_any hm (wpAny_of_Z _ _ _ _ h)
end
/-- Two blocks of two cells, as they read. -/
def Two (b : Nat) (x y : Value) (b' : Nat) (x' y' : Value) (w : World) : Prop := (w.cell? ⟨b, 0, none⟩ = some x ∧ w.cell? ⟨b, 1, none⟩ = some y) ∧ w.cell? ⟨b', 0, none⟩ = some x' ∧ w.cell? ⟨b', 1, none⟩ = some y'
end Go.Proofs.YthjkdpapadolgaaGreatDoor
