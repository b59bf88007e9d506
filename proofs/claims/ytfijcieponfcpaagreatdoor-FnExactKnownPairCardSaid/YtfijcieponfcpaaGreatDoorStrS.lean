/- Rows of strings of the call's own, and joining them. -/
import Derived.Test.YtfijcieponfcpaaGreatDoorFmtN
import Derived.Test.YtfijcieponfcpaaGreatDoorAppend
import Derived.Test.YtfijcieponfcpaaGreatDoorShelf
namespace Go.Proofs.YtfijcieponfcpaaGreatDoor
open Go.RowKit
set_option linter.unusedSimpArgs false
set_option linter.unusedVariables false
set_option maxRecDepth 20000

theorem info_str : (Tryz.prog.info? 9).map (fun i => (i.zero, i.size, i.bytes)) = some (some (.string ByteArray.empty), 1, 16) := by kernel_rfl
theorem str_one (s : ByteArray) : (Value.string s).oneCell' = true := rfl

theorem step_appS {ops : Array Oper} {o : Oper} {a : Act} {K : Act → World → Prop} {Q : Exit → Act → World → Prop} {E : Prop} (hgd : o.guard = none) (s x : Operand)
    (ho : o.op = .call { callee := .builtin .append, args := #[s, x], argTypes := #[51, 51] }) (w : World)
    (B : Nat) (A : Option Addr) (n c : Nat) (xs : List Value) (hs : a.eval s = .slice A n c) (hown : w.ownsRow B 9 1 (.slice A n c) n xs)
    (gx d : Nat) (u : ByteArray) (hx : a.eval x = .slice (some ⟨gx, 0, none⟩) 1 d) (hw : w.cell? ⟨gx, 0, none⟩ = some (.string u)) (hsm : n ≤ 1099511627775) (hB : B ≤ w.heap.size)
    (h : ∀ g' c' w', w'.ownsRow B 9 1 (.slice (some ⟨g', 0, none⟩) (n + 1) c') (n + 1) (xs ++ [Value.string u]) → w.grownBy w' (Value.ownBlock (.slice A n c)) → (Value.ownBlock (.slice A n c) = some g' ∨ g' = w.heap.size) → g' < w'.heap.size → K (a.put o.dst (.slice (some ⟨g', 0, none⟩) (n + 1) c')) w') :
    if Region.wanted o (yielded ops a.tmps) = true then Oper.wp Tryz.prog o a w K Q else E := by
  obtain ⟨i0, hi0, hz0, hz1, hz2⟩ := info_parts info_str
  refine step_append_lies (P := Tryz.prog) w hgd s x 51 ho B 9 i0 (.string ByteArray.empty) 1 16 Tryz.underlying51 hi0 hz0 hz1 hz2 rfl (by omega) _ n _ hs hown ⟨gx, 0, none⟩ 1 d [Value.string u] hx rfl ?_ ?_ (by omega) (by unfold maxLen; omega) (by omega) hB w.heap.size rfl h
  · intro j z hz
    rw [Addr.add_lit, Nat.zero_add]
    match j, hz with
    | 0, hz => simp at hz; subst hz; exact hw
    | j + 1, hz => simp at hz
  · intro z hz
    rw [List.mem_singleton.1 hz]
    rfl

theorem cell_al2' {w : World} {p : Addr} {v : Value} {ob : Obj} (hc : w.cell? p = some v) : (w.alloc ob).drew.cell? p = some v :=
  (World.cell?_of_block (w := w) (a := p) (Below.heap_alloc _ _ _ (World.block_lt_of_cell? w _ hc))).trans hc
theorem own_ne {A : Option Addr} {n c kk : Nat} (h : ∀ ad, A = some ad → ad.block ≠ kk) : some kk ≠ Value.ownBlock (.slice A n c) := by
  cases A with
  | none => simp [Value.ownBlock]
  | some ad => have := h ad rfl; simp [Value.ownBlock]; omega
theorem own_ge {A : Option Addr} {n c B : Nat} (h : ∀ ad, A = some ad → B ≤ ad.block) : ∀ kk, Value.ownBlock (.slice A n c) = some kk → B ≤ kk := by
  intro kk hk
  cases A with
  | none => simp [Value.ownBlock] at hk
  | some ad => simp [Value.ownBlock] at hk; subst hk; exact h ad rfl
end Go.Proofs.YtfijcieponfcpaaGreatDoor
