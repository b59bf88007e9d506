/- Known schemes: the walk of the program's text. -/
import Derived.Test.YtppekbokaknocaaDoorMoves
namespace Go.Proofs.YtppekbokaknocaaDoor
open Go.RowKit
set_option linter.unusedSimpArgs false
set_option linter.unusedVariables false
set_option maxRecDepth 20000

def strangL : List (Int × Int) := [(0, fracF 1 2), (1, 1), (0, fracF 1 2)]
def ksL : List Int := [jumpF, minusF 1 (timesF 2 jumpF), jumpF]
def timesM (k : Int) : List (Int × Int) := strangL.map fun m => (m.1, timesF m.2 k)
def jumpL : List (Int × Int) := ksL.flatMap timesM
def knownF (nm : ByteArray) : List (Int × Int) × Bool :=
  if (nm.toList == [108, 105, 101]) = true then ([(0, 1), (1, 1)], true) else if (nm.toList == [115, 116, 114, 97, 110, 103]) = true then (strangL, true) else if (nm.toList == [106, 117, 109, 112]) = true then (jumpL, true) else ([], false)

theorem r64_nn {x : Int} (h : 0 ≤ x ∧ x < 1000000271) : R64 x := by constructor <;> omega
theorem strang_rng : ∀ m ∈ strangL, R64 m.1 ∧ R64 m.2 := by
  intro m hm
  have h := r64_nn (fracF_bd 1 2)
  simp only [strangL, List.mem_cons, List.not_mem_nil, or_false] at hm
  rcases hm with rfl | rfl | rfl
  · exact ⟨by constructor <;> omega, h⟩
  · exact ⟨by constructor <;> omega, by constructor <;> omega⟩
  · exact ⟨by constructor <;> omega, h⟩
theorem jumpF_bd : 0 ≤ jumpF ∧ jumpF < 1000000271 := invF_bd _
theorem ks_rng : ∀ k ∈ ksL, R64 k := by
  intro m hm
  simp only [ksL, List.mem_cons, List.not_mem_nil, or_false] at hm
  rcases hm with rfl | rfl | rfl
  · exact r64_nn jumpF_bd
  · exact r64_nn (minusF_bd _ _)
  · exact r64_nn jumpF_bd
theorem timesM_rng (k : Int) : ∀ m ∈ timesM k, R64 m.1 ∧ R64 m.2 := by
  intro m hm
  simp only [timesM, List.mem_map] at hm
  obtain ⟨a, ha, rfl⟩ := hm
  exact ⟨(strang_rng a ha).1, r64_nn (timesF_bd _ _)⟩
theorem jump_rng : ∀ m ∈ jumpL, R64 m.1 ∧ R64 m.2 := by
  intro m hm
  simp only [jumpL, List.mem_flatMap] at hm
  obtain ⟨k, _, hk⟩ := hm
  exact timesM_rng k m hk

theorem cell_al2 {w : World} {p : Addr} {v : Value} {ob : Obj} (hc : w.cell? p = some v) : (w.alloc ob).drew.cell? p = some v :=
  (World.cell?_of_block (w := w) (a := p) (Below.heap_alloc _ _ _ (World.block_lt_of_cell? w _ hc))).trans hc
theorem Ints.cellK {w : World} {lo hi gk : Nat} {xs : List Int} {n c : Nat} (h : Ints w lo hi (some ⟨gk, 0, none⟩) n c xs) {j : Nat} (hj : j < n) : w.cell? ⟨gk, j, none⟩ = some (.int .i64 (xs.getD j 0)) := by
  obtain ⟨ad, x, e, hc, _, _, hx⟩ := h.at_ hj
  injection e with e
  subst e
  rw [List.getD, hx.out]
  simpa [Addr.add_lit] using hc

theorem step_appM {ops : Array Oper} {o : Oper} {a : Act} {K : Act → World → Prop} {Q : Exit → Act → World → Prop} {E : Prop} (hgd : o.guard = none) (s x : Operand)
    (ho : o.op = .call { callee := .builtin .append, args := #[s, x], argTypes := #[22, 22] }) (w : World)
    (B : Nat) (A : Option Addr) (n c : Nat) (xs : List Value) (hs : a.eval s = .slice A n c) (hown : w.ownsRow B 38 2 (.slice A n c) n xs)
    (gx d : Nat) (u v : Int) (hx : a.eval x = .slice (some ⟨gx, 0, none⟩) 1 d) (hw : w.cell? ⟨gx, 0, none⟩ = some (.int .i64 u) ∧ w.cell? ⟨gx, 1, none⟩ = some (.int .i64 v)) (hsm : n ≤ 1000) (hB : B ≤ w.heap.size)
    (h : ∀ g' c' w', w'.ownsRow B 38 2 (.slice (some ⟨g', 0, none⟩) (n + 1) c') (n + 1) (xs ++ mcells (u, v)) → w.grownBy w' (Value.ownBlock (.slice A n c)) → (Value.ownBlock (.slice A n c) = some g' ∨ g' = w.heap.size) → g' < w'.heap.size → K (a.put o.dst (.slice (some ⟨g', 0, none⟩) (n + 1) c')) w') :
    if Region.wanted o (yielded ops a.tmps) = true then Oper.wp Tryd.prog o a w K Q else E := by
  obtain ⟨i0, hi0, hz0, hz1, hz2⟩ := info_parts info_move
  refine step_append_lies (P := Tryd.prog) w hgd s x 22 ho B 38 i0 (.agg #[.int .i64 0, .int .i64 0]) 2 16 Tryd.underlying22 hi0 hz0 hz1 hz2 rfl (by omega) _ n _ hs hown ⟨gx, 0, none⟩ 1 d (mcells (u, v)) hx rfl ?_ ?_ (by omega) (by unfold maxLen; omega) (by omega) hB w.heap.size rfl h
  · intro j z hz
    rw [Addr.add_lit, Nat.zero_add]
    match j, hz with
    | 0, hz => simp [mcells] at hz; subst hz; exact hw.1
    | 1, hz => simp [mcells] at hz; subst hz; exact hw.2
    | j + 2, hz => simp [mcells] at hz
  · intro z hz
    simp only [mcells, List.mem_cons, List.not_mem_nil, or_false] at hz
    rcases hz with rfl | rfl <;> rfl

end Go.Proofs.YtppekbokaknocaaDoor
