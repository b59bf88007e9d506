/- append of a slice of integers in a region that draws its order, any number of elements up to 1000. -/
import Derived.Test.YtjamdnbabfodkaaRowsW
namespace Go.Proofs.Ytjamdnbabfodkaa
open Go.RowKit
set_option linter.unusedSimpArgs false
set_option linter.unusedVariables false
set_option maxRecDepth 20000

theorem step_appI2 {ops : Array Oper} {o : Oper} {a : Act} {K : Act → World → Prop} {Q : Exit → Act → World → Prop} {E : Prop} (hgd : o.guard = none) (s x : Operand)
    (ho : o.op = .call { callee := .builtin .append, args := #[s, x], argTypes := #[22, 22] }) (w : World)
    (B g n c : Nat) (xs : List Int) (hs : a.eval s = .slice (some ⟨g, 0, none⟩) n c) (hown : w.ownsRow B 3 1 (.slice (some ⟨g, 0, none⟩) n c) n (xs.map (Value.int .i64)))
    (ad : Addr) (m d lo hi : Nat) (ys : List Int) (hx : a.eval x = .slice (some ad) m d) (hI : Ints w lo hi (some ad) m d ys) (hm : 0 < m) (N : Nat) (hN : n + m = N) (hsm : N ≤ 1000) (hB : B ≤ w.heap.size)
    (h : ∀ g' c' w', w'.ownsRow B 3 1 (.slice (some ⟨g', 0, none⟩) N c') N ((xs ++ ys).map (Value.int .i64)) → w.grownBy w' (some g) → (g = g' ∨ g' = w.heap.size) → g' < w'.heap.size → K (a.put o.dst (.slice (some ⟨g', 0, none⟩) N c')) w') :
    if Region.wanted o (yielded ops a.tmps) = true then Oper.wp Try.prog o a w K Q else E := by
  obtain ⟨i0, hi0, hz0, hz1, hz2⟩ := info_parts info_int
  subst hN
  have hl := hI.len
  refine step_append_lies (P := Try.prog) w hgd s x 22 ho B 3 i0 (.int .i64 0) 1 8 Try.underlying22 hi0 hz0 hz1 hz2 rfl (by omega) _ n _ hs hown ad m d (ys.map (Value.int .i64)) hx (by simpa using hl) ?_ ?_ hm (by unfold maxLen; omega) (by omega) hB w.heap.size rfl ?_
  · intro j u hu
    rw [List.getElem?_map] at hu
    cases hy : ys[j]? with
    | none => rw [hy] at hu; cases hu
    | some y =>
      rw [hy] at hu
      injection hu with hu
      subst hu
      obtain ⟨ad', e, _, _, hc⟩ := hI.cells hm
      injection e with e
      subst e
      exact hc j y hy
  · intro u hu
    simp only [List.mem_map] at hu
    obtain ⟨y, _, rfl⟩ := hu
    rfl
  · intro g' c' w' h1 h2 h3 h4
    refine h g' c' w' (by rw [List.map_append]; exact h1) h2 ?_ h4
    rcases h3 with h3 | h3
    · left; simpa [Value.ownBlock] using h3
    · exact .inr h3
end Go.Proofs.Ytjamdnbabfodkaa
