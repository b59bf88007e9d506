/- What every outer proof needs: a parameter's reading as my walks take it. -/
import Derived.Test.YthjkdpapadolgaaGreatDoorRows
import Derived.Test.YthjkdpapadolgaaGreatDoorBase
import Derived.Test.YthjkdpapadolgaaGreatDoorInts2
import Derived.ProofKit
import Derived.OpenShut
import Derived.ShutString
import Derived.ChangeOld
import Derived.Below
namespace Go.Proofs.YthjkdpapadolgaaGreatDoor
open Go.ChangeShapes Go.WideShapes Go.ChangeAt Go.RowKit
set_option linter.unusedSimpArgs false
set_option linter.unusedVariables false
set_option maxRecDepth 20000

theorem r64_of_wf {n : Int} (h : (Lit.int .i64 n).wf = true) : R64 n := by
  simp [Lit.wf, IntKind.min, IntKind.max, IntKind.signed, IntKind.bits] at h
  exact h

section
variable {H : Type} {enc : TypeId × Value → H} {W : World} {sp : Nat → Bool} {held : Bool} {fuel : Nat} {cs : List Value} {x : DataW H × List MemPlace}

theorem cells_ints (h : DataW.trod enc Tryz.prog W 0 sp held fuel 22 cs = some x) : ∃ A n c xs, cs = [.slice A n c] ∧ Ints W 0 W.heap.size A n c xs := by
  rcases open_ints Tryz.underlying22 Tryz.underlying3 (by kernel_rfl) h with ⟨rfl, _⟩ | ⟨a, len, cap, zs, rfl, _, hl, hm, hz, _, hcell, hwz⟩
  · exact ⟨none, 0, 0, [], rfl, Ints.nil_ _ _ _⟩
  · have hle : len ≤ zs.length := by rw [hz]; split <;> omega
    refine ⟨some a, len, cap, zs.take len, rfl, by simp; omega, hl, by unfold maxLen at hm; omega, fun hn => ?_, fun y hy => r64_of_wf (hwz y (List.mem_of_mem_take hy))⟩
    have hat : ∀ j y, (zs.take len)[j]? = some y → W.cell? (a.add j) = some (.int .i64 y) := by
      intro j y hy
      rw [List.getElem?_take] at hy
      split at hy
      · rename_i hj
        rw [hcell j (by omega)]
        simp [List.getD, hy]
      · cases hy
    refine ⟨a, rfl, Nat.zero_le _, ?_, hat⟩
    have h0 := hat 0 (zs[0]'(by omega)) (by simp [hn])
    have := World.block_lt_of_cell? W _ h0
    rwa [block_of_add] at this

theorem open_pint {v : Value} {d : DataW H} {p : List MemPlace} (h : DataW.Trod enc Tryz.prog W 0 sp held 3 v d p) (hv : ∃ k n, v = .int k n) : ∃ a, v = .int .i64 a ∧ R64 a := by
  obtain ⟨m, hm⟩ := h
  obtain ⟨n, hn, _, wf⟩ := DataW.trod_int Tryz.underlying3 hm
  obtain ⟨k, n', rfl⟩ := hv
  simp [Value.cells] at hn
  obtain ⟨rfl, rfl⟩ := hn
  exact ⟨_, rfl, r64_of_wf wf⟩
theorem open_pints {A : Option Addr} {n c : Nat} {d : DataW H} {p : List MemPlace} (h : DataW.Trod enc Tryz.prog W 0 sp held 22 (.slice A n c) d p) : ∃ xs, Ints W 0 W.heap.size A n c xs := by
  obtain ⟨m, hm⟩ := h
  obtain ⟨A', n', c', xs, he, hi⟩ := cells_ints hm
  simp [Value.cells] at he
  obtain ⟨rfl, rfl, rfl⟩ := he
  exact ⟨xs, hi⟩



theorem open_pstr {v : Value} {d : DataW H} {p : List MemPlace} (h : DataW.Trod enc Tryz.prog W 0 sp held 9 v d p) {r : Reach} {b0 : Nat} (hval : Value.okWide Tryz.prog W r b0 9 v) : ∃ s : ByteArray, v = .string s ∧ s.size ≤ maxLen := by
  obtain ⟨s, rfl, hs⟩ := Go.ChangeMaps.open_string Tryz.underlying9 hval h
  exact ⟨s, rfl, by first | exact hs.2 | exact hs.1 | exact hs | exact hs.2.1 | exact hs.2.2⟩

theorem cells_tab (h : DataW.trod enc Tryz.prog W 0 sp held fuel 24 cs = some x) : ∃ s A n c xs B m d ys, cs = [.int .i64 s, .slice A n c, .slice B m d] ∧ R64 s ∧ Ints W 0 W.heap.size A n c xs ∧ Ints W 0 W.heap.size B m d ys := by
  obtain ⟨ys, n, _, _, hl, hn, hf⟩ := DataW.trod_struct Tryz.underlying24 h
  have hl2 : cs.length = 3 := hl.trans (by kernel_rfl)
  match cs, hl2 with
  | [c0, c1, c2], _ =>
    have hn2 : ys.length = 3 := hn
    have h0 := hf 0 _ rfl
    have h1 := hf 1 _ rfl
    have h2 := hf 2 _ rfl
    have e0 : ([c0, c1, c2].drop 0).take (Tryz.prog.cellsOf 3) = [c0] := by rw [show Tryz.prog.cellsOf 3 = 1 from by kernel_rfl]; rfl
    have e1 : ([c0, c1, c2].drop 1).take (Tryz.prog.cellsOf 22) = [c1] := by rw [show Tryz.prog.cellsOf 22 = 1 from by kernel_rfl]; rfl
    have e2 : ([c0, c1, c2].drop 2).take (Tryz.prog.cellsOf 22) = [c2] := by rw [show Tryz.prog.cellsOf 22 = 1 from by kernel_rfl]; rfl
    rw [List.getElem?_eq_getElem (by omega)] at h0 h1 h2
    obtain ⟨a, ha, _, wa⟩ := DataW.trod_int Tryz.underlying3 ((congrArg _ e0).symm.trans h0)
    obtain ⟨A, n1, c, xs, hb, hi⟩ := cells_ints ((congrArg _ e1).symm.trans h1)
    obtain ⟨B, m, d, zs, hb2, hi2⟩ := cells_ints ((congrArg _ e2).symm.trans h2)
    simp at ha hb hb2
    exact ⟨a, A, n1, c, xs, B, m, d, zs, by rw [ha, hb, hb2], r64_of_wf wa, hi, hi2⟩
theorem open_ptab {v : Value} {d : DataW H} {p : List MemPlace} (h : DataW.Trod enc Tryz.prog W 0 sp held 24 v d p) (hv : ∃ cs, v = .agg cs) : ∃ s A n c xs B m d ys, v = .agg #[.int .i64 s, .slice A n c, .slice B m d] ∧ R64 s ∧ Ints W 0 W.heap.size A n c xs ∧ Ints W 0 W.heap.size B m d ys := by
  obtain ⟨m, hm⟩ := h
  obtain ⟨cs, rfl⟩ := hv
  obtain ⟨s, A, n, c, xs, B, m, d, ys, he, hi⟩ := cells_tab hm
  refine ⟨s, A, n, c, xs, B, m, d, ys, ?_, hi⟩
  simp [Value.cells] at he
  exact congrArg Value.agg (Array.ext' (by simpa using he))
theorem cells_pair (h : DataW.trod enc Tryz.prog W 0 sp held fuel 26 cs = some x) : ∃ s A n c xs B m d ys s' A' n' c' xs' B' m' d' ys', cs = [.int .i64 s, .slice A n c, .slice B m d, .int .i64 s', .slice A' n' c', .slice B' m' d'] ∧ Ints W 0 W.heap.size A n c xs ∧ Ints W 0 W.heap.size B m d ys ∧ Ints W 0 W.heap.size A' n' c' xs' ∧ Ints W 0 W.heap.size B' m' d' ys' := by
  obtain ⟨ys, n, _, _, hl, hn, hf⟩ := DataW.trod_struct Tryz.underlying26 h
  have hl2 : cs.length = 6 := hl.trans (by kernel_rfl)
  match cs, hl2 with
  | [c0, c1, c2, c3, c4, c5], _ =>
    have hn2 : ys.length = 2 := hn
    have h0 := hf 0 _ rfl
    have h1 := hf 1 _ rfl
    have e0 : ([c0, c1, c2, c3, c4, c5].drop 0).take (Tryz.prog.cellsOf 24) = [c0, c1, c2] := by rw [show Tryz.prog.cellsOf 24 = 3 from by kernel_rfl]; rfl
    have e1 : ([c0, c1, c2, c3, c4, c5].drop 3).take (Tryz.prog.cellsOf 24) = [c3, c4, c5] := by rw [show Tryz.prog.cellsOf 24 = 3 from by kernel_rfl]; rfl
    rw [List.getElem?_eq_getElem (by omega)] at h0 h1
    obtain ⟨s, A, n1, c, xs, B, m, d, zs, q, _, i1, i2⟩ := cells_tab ((congrArg _ e0).symm.trans h0)
    obtain ⟨s', A', n1', c', xs', B', m', d', zs', q', _, i1', i2'⟩ := cells_tab ((congrArg _ e1).symm.trans h1)
    simp at q q'
    obtain ⟨rfl, rfl, rfl⟩ := q
    obtain ⟨rfl, rfl, rfl⟩ := q'
    exact ⟨_, _, _, _, _, _, _, _, _, _, _, _, _, _, _, _, _, _, rfl, i1, i2, i1', i2'⟩
theorem open_ppair {v : Value} {d : DataW H} {p : List MemPlace} (h : DataW.Trod enc Tryz.prog W 0 sp held 26 v d p) (hv : ∃ cs, v = .agg cs) : ∃ s A n c xs B m d ys s' A' n' c' xs' B' m' d' ys', v = .agg #[.int .i64 s, .slice A n c, .slice B m d, .int .i64 s', .slice A' n' c', .slice B' m' d'] ∧ Ints W 0 W.heap.size A n c xs ∧ Ints W 0 W.heap.size B m d ys ∧ Ints W 0 W.heap.size A' n' c' xs' ∧ Ints W 0 W.heap.size B' m' d' ys' := by
  obtain ⟨m, hm⟩ := h
  obtain ⟨cs, rfl⟩ := hv
  obtain ⟨s, A, n, c, xs, B, m, d, ys, s', A', n', c', xs', B', m', d', ys', he, hi⟩ := cells_pair hm
  refine ⟨s, A, n, c, xs, B, m, d, ys, s', A', n', c', xs', B', m', d', ys', ?_, hi⟩
  simp [Value.cells] at he
  exact congrArg Value.agg (Array.ext' (by simpa using he))

/-- A slice's elements, each read by E. -/
theorem open_elems {t e : TypeId} {C : Nat} (ht : Tryz.prog.underlying t = some (.slice e)) (hC : Tryz.prog.cellsOf e = C) (h0 : 0 < C) {α : Type} (E : α → List Value → Prop)
    (hE : ∀ (fuel : Nat) (cs : List Value) (x : DataW H × List MemPlace), DataW.trod enc Tryz.prog W 0 sp held fuel e cs = some x → ∃ a, E a cs) (h : DataW.trod enc Tryz.prog W 0 sp held fuel t cs = some x) :
    ∃ (A : Option Addr) (n c : Nat) (ms : List α), cs = [.slice A n c] ∧ ms.length = n ∧ n ≤ c ∧ c ≤ 9223372036854775807 ∧
      (0 < n → ∃ ad, A = some ad ∧ ad.block < W.heap.size ∧ ∀ j m, ms[j]? = some m → ∃ cs', E m cs' ∧ cs'.length = C ∧ ∀ i, i < C → W.cell? ((ad.add (j * C)).add i) = cs'[i]?) := by
  rcases DataW.trod_slice ht h with ⟨rfl, _⟩ | ⟨a, len, cap, elems, rest, n, _, rfl, _, _, hl, hm, hlen, hel, _, _⟩
  · exact ⟨none, 0, 0, [], rfl, rfl, Nat.le_refl _, by omega, fun h => absurd h (by omega)⟩
  · have hone : ∀ i : Fin len, ∃ m : α, ∃ cs', E m cs' ∧ cs'.length = C ∧ ∀ k, k < C → W.cell? ((a.add (i.1 * C)).add k) = cs'[k]? := by
      intro i
      have h1 := hel i.1 i.2
      rw [List.getElem?_eq_getElem (by omega), hC] at h1
      obtain ⟨cs', h2, h3⟩ := Option.bind_eq_some_iff.1 h1
      obtain ⟨_, hcl, hat⟩ := World.cells?_some h2
      obtain ⟨m, hm⟩ := hE _ _ _ h3
      exact ⟨m, cs', hm, hcl, hat⟩
    refine ⟨some a, len, cap, List.ofFn (fun i => Classical.choose (hone i)), rfl, by simp, hl, by unfold maxLen at hm; omega, fun hn => ?_⟩
    refine ⟨a, rfl, ?_, fun j m hj => ?_⟩
    · obtain ⟨cs', _, hcl, hat⟩ := Classical.choose_spec (hone ⟨0, hn⟩)
      have h2 := hat 0 h0
      rw [List.getElem?_eq_getElem (by omega)] at h2
      have := World.block_lt_of_cell? W _ h2
      rwa [block_of_add, block_of_add] at this
    · have hj' : j < len := by
        have := (List.getElem?_eq_some_iff.1 hj).1
        simpa using this
      rw [List.getElem?_ofFn] at hj
      simp only [hj', dif_pos] at hj
      injection hj with hj
      subst hj
      exact Classical.choose_spec (hone ⟨j, hj'⟩)

theorem cells_intss (h : DataW.trod enc Tryz.prog W 0 sp held fuel 50 cs = some x) : ∃ A n c xss, cs = [.slice A n c] ∧ Ints2 W 0 W.heap.size A n c xss := by
  obtain ⟨A, n, c, ms, rfl, h1, h2, h3, h4⟩ := open_elems (C := 1) Tryz.underlying50 (by kernel_rfl) (by omega) (fun (m : List Int) (cs : List Value) => ∃ B k d, cs = [.slice B k d] ∧ Ints W 0 W.heap.size B k d m)
    (fun fuel cs x hx => by
      obtain ⟨B, k, d, xs, e, hi⟩ := cells_ints hx
      exact ⟨xs, B, k, d, e, hi⟩) h
  refine ⟨A, n, c, ms, rfl, h1, h2, h3, fun hn => ?_⟩
  obtain ⟨ad, rfl, hb, hat⟩ := h4 hn
  refine ⟨ad, rfl, Nat.zero_le _, hb, fun j m hj => ?_⟩
  obtain ⟨cs', ⟨B, k, d, rfl, hi⟩, _, hc⟩ := hat j m hj
  have h0 := hc 0 (by omega)
  rw [Nat.mul_one, Addr.add_zero'] at h0
  exact ⟨B, k, d, h0, hi⟩
theorem open_pintss {A : Option Addr} {n c : Nat} {d : DataW H} {p : List MemPlace} (h : DataW.Trod enc Tryz.prog W 0 sp held 50 (.slice A n c) d p) : ∃ xs, Ints2 W 0 W.heap.size A n c xs := by
  obtain ⟨m, hm⟩ := h
  obtain ⟨A', n', c', xs, he, hi⟩ := cells_intss hm
  simp [Value.cells] at he
  obtain ⟨rfl, rfl, rfl⟩ := he
  exact ⟨xs, hi⟩
end
end Go.Proofs.YthjkdpapadolgaaGreatDoor
