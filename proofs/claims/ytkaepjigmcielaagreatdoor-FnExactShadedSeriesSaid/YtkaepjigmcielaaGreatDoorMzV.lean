/- Weights of shaded trees: the program's walk, the rest. -/
import Derived.Test.YtkaepjigmcielaaGreatDoorMzU
import Derived.Test.YtkaepjigmcielaaGreatDoorMzN
import Derived.Laws.CopyOwn
namespace Go.Proofs.YtkaepjigmcielaaGreatDoor
open Go.RowKit
set_option linter.unusedSimpArgs false
set_option linter.unusedVariables false
set_option maxRecDepth 20000

end Go.Proofs.YtkaepjigmcielaaGreatDoor
/- spec.l10Form returns the greatest list of a shaded tree. -/
namespace Go.Proofs.YtkaepjigmcielaaGreatDoor
open Go.RowKit
set_option linter.unusedSimpArgs false
set_option linter.unusedVariables false
set_option maxRecDepth 20000

theorem ins_at {p : List Int} : ∀ (s : List (List Int)) (k : Nat), (∀ q ∈ s.take k, lessF q p = false) → (∀ q ∈ s.drop k, lessF q p = true) → insF p s = s.take k ++ p :: s.drop k
  | [], k, _, _ => by simp [insF]
  | q :: r, 0, _, h => by
    have := h q (by simp)
    rw [insF, if_pos this]
    rfl
  | q :: r, k + 1, h1, h2 => by
    have := h1 q (by simp)
    rw [insF, if_neg (by rw [this]; simp), ins_at r k (fun q hq => h1 q (by simp [hq])) (fun q hq => h2 q (by simpa using hq))]
    rfl
theorem ins_desc {p : List Int} {s : List (List Int)} (hs : Desc s) {k : Nat} {t : List Int} (hk : s[k]? = some t) (h1 : lessF t p = false) : ∀ q ∈ s.take (k + 1), lessF q p = false := by
  intro q hq
  obtain ⟨j, hj, rfl⟩ := List.mem_iff_getElem.1 hq
  have hj1 : j < k + 1 := by simp at hj; omega
  obtain ⟨hkl, e⟩ := List.getElem?_eq_some_iff.1 hk
  rw [List.getElem_take]
  by_cases hjk : j = k
  · subst hjk
    rw [e]
    exact h1
  · have := (List.pairwise_iff_getElem.1 hs) j k (by omega) hkl (by omega)
    rw [e] at this
    exact less_ntrans this h1

theorem at_mid {α : Type} (us : List α) (x : α) {j : Nat} (h : j ≤ us.length) : (us.take j ++ x :: us.drop j)[j]? = some x := by
  have e : (us.take j).length = j := by simp; omega
  rw [List.getElem?_append_right (by omega), e, Nat.sub_self]
  rfl

theorem RowsI.ins {w w6 : World} {lo N C C' g' : Nat} {A : Option Addr} {vs : List Value} {s : List (List Int)} (h : RowsI w lo w.heap.size A N C vs s) {l' h' b m d kk : Nat} {p : List Int}
    (hp : Ints w l' h' (some ⟨b, 0, none⟩) m d p) (h1 : lo ≤ l') (h2 : h' ≤ w.heap.size) (h3 : ∀ ad, A = some ad → h' ≤ ad.block ∨ ad.block < l') (hk : kk ≤ N)
    (hg : (∃ ad, A = some ad ∧ ad.block = g') ∨ w.heap.size ≤ g') (hsame : ∀ k, k < w.heap.size → (∀ ad, A = some ad → ad.block ≠ k) → w6.heap[k]? = w.heap[k]?) (hsz : w.heap.size ≤ w6.heap.size)
    (own : w6.ownsRow lo 22 1 (.slice (some ⟨g', 0, none⟩) (N + 1) C') (N + 1) (vs.take kk ++ .slice (some ⟨b, 0, none⟩) m d :: vs.drop kk)) :
    RowsI w6 lo w6.heap.size (some ⟨g', 0, none⟩) (N + 1) C' (vs.take kk ++ .slice (some ⟨b, 0, none⟩) m d :: vs.drop kk) (s.take kk ++ p :: s.drop kk) := by
  have hvl := h.vlen
  have hsl := h.len
  have key : ∀ {B : Option Addr} {m d l h : Nat} {xs : List Int}, Ints w l h B m d xs → h ≤ w.heap.size → (∀ ad, A = some ad → h ≤ ad.block ∨ ad.block < l) → Ints w6 l h B m d xs ∧ (h ≤ g' ∨ g' < l) := by
    intro B m d l h xs hi h4 h5
    refine ⟨hi.same fun k h6 h7 => hsame k (by omega) fun ad e e2 => ?_, ?_⟩
    · have := h5 ad e
      omega
    · rcases hg with ⟨ad, e, rfl⟩ | hg
      · exact h5 ad e
      · exact .inl (by omega)
  refine ⟨own, fun ad e => (own.lt ad.block (by rw [e]; rfl)).2, by simp; omega, fun j xs hj => ?_⟩
  have mk : ∀ (i : Nat), s[i]? = some xs → (vs.take kk ++ Value.slice (some ⟨b, 0, none⟩) m d :: vs.drop kk)[j]? = vs[i]? →
      ∃ (B : Option Addr) (m_1 d_1 l h : Nat), (vs.take kk ++ Value.slice (some ⟨b, 0, none⟩) m d :: vs.drop kk)[j]? = some (Value.slice B m_1 d_1) ∧ Ints w6 l h B m_1 d_1 xs ∧ lo ≤ l ∧ h ≤ w6.heap.size ∧ (∀ ad : Addr, some (⟨g', 0, none⟩ : Addr) = some ad → h ≤ ad.block ∨ ad.block < l) ∧ ∀ ad : Addr, B = some ad → ad = ⟨ad.block, 0, none⟩ := by
    intro i hi hv
    obtain ⟨B, m1, d1, l1, e1, e2, e3, e4, e5, e6, e7⟩ := h.row i xs hi
    obtain ⟨k1, k2⟩ := key e3 e5 e6
    exact ⟨B, m1, d1, l1, e1, hv.trans e2, k1, e4, by omega, fun ad e => by injection e with e; subst e; exact k2, e7⟩
  by_cases hj1 : j < kk
  · refine mk j ?_ ?_
    · rw [List.getElem?_append_left (by simp; omega), List.getElem?_take_of_lt hj1] at hj
      exact hj
    · rw [List.getElem?_append_left (by simp; omega), List.getElem?_take_of_lt hj1]
  · by_cases hj2 : j = kk
    · subst hj2
      obtain rfl : p = xs := by
        have := at_mid s p (show j ≤ s.length by omega)
        rw [hj] at this
        injection this with this
        exact this.symm
      obtain ⟨k1, k2⟩ := key hp h2 h3
      refine ⟨some ⟨b, 0, none⟩, m, d, l', h', ?_, k1, h1, by omega, fun ad e => by injection e with e; subst e; exact k2, fun ad e => by injection e with e; subst e; rfl⟩
      exact at_mid vs _ (by omega)
    · obtain ⟨i, rfl⟩ : ∃ i, j = i + 1 := ⟨j - 1, by omega⟩
      have r1 : ∀ {α : Type} (us : List α) (x : α), us.length = N → (us.take kk ++ x :: us.drop kk)[i + 1]? = us[i]? := by
        intro α us x hu
        rw [List.getElem?_append_right (by simp; omega)]
        have e : i + 1 - (us.take kk).length = (i - kk) + 1 := by simp; omega
        rw [e, List.getElem?_cons_succ, List.getElem?_drop]
        congr 1
        omega
      refine mk i ?_ (r1 vs _ hvl)
      rw [r1 s p hsl] at hj
      exact hj
/-- the cells from place u on go up by one -/
theorem wpl_shift {ops : Array Oper} {rest : List Oper} {o : Oper} {a : Act} {Q : Exit → Act → World → Prop} (hgd : o.guard = none) (d s : Operand)
    (ho : o.op = .call { callee := .builtin .copy, args := #[d, s], argTypes := #[26, 26] }) (w : World) (lo g N C u : Nat) (us : List Value) (dp sp : Option Addr) (dl dc sl sc : Nat)
    (hd : a.eval d = .slice dp dl dc) (hs : a.eval s = .slice sp sl sc) (hdl : dl = N - u) (hsl : sl = N + 1 - u) (hu : u ≤ N) (hp : u < N → dp = some ⟨g, u + 1, none⟩ ∧ sp = some ⟨g, u, none⟩)
    (hown : w.ownsRow lo 22 1 (.slice (some ⟨g, 0, none⟩) (N + 1) C) (N + 1) us) (h1 : ∀ v ∈ us, v.oneCell' = true)
    (h : ∀ w', w'.ownsRow lo 22 1 (.slice (some ⟨g, 0, none⟩) (N + 1) C) (N + 1) (us.take (u + 1) ++ (us.drop u).take (N - u)) → Touch g (g + 1) w w' → w'.heap.size = w.heap.size → wpList Tryz.prog ops Q rest (a.put o.dst (.int .i64 ((N - u : Nat) : Int))) w') : wpList Tryz.prog ops Q (o :: rest) a w := by
  obtain ⟨i0, hi0, hz0, hz1, hz2⟩ := info_parts info_ints
  have hul := own_len hown
  subst hdl hsl
  by_cases h0 : u = N
  · subst h0
    refine wpList_copy_nothing hgd d s 26 26 ho 22 Tryz.underlying26 (by rw [hi0]; simp [hz1]) _ _ _ dc _ sc hd hs (by simp) ?_
    have e := h w (by
      rw [Nat.sub_self, List.take_zero, List.append_nil, List.take_of_length_le (by omega)]
      exact hown) (.refl _ _ _) rfl
    simpa [goInt] using e
  · obtain ⟨rfl, rfl⟩ := hp (by omega)
    rcases hown.2 with ⟨e, _⟩ | ⟨g', cap, cur, e, h1', h2, h3, h4, h5, h6⟩
    · cases e
    · injection e with e1 e2 e3
      injection e1 with e1
      injection e1 with e1
      subst e1 e3
      have hcl : ((us.drop u).take (N - u)).length = N - u := by simp; omega
      refine wpList_copy_own hgd d s 26 26 ho 22 Tryz.underlying26 (by rw [hi0]; simp [hz1]) g (u + 1) (N - u) dc ⟨g, u, none⟩ (N + 1 - u) sc hd hs cur 22 h2 ((us.drop u).take (N - u)) (by rw [hcl]; exact (Nat.min_eq_right (by omega)).symm) ?_ (by rw [hcl]; omega) ?_ ?_
      · intro j v hv
        rw [List.getElem?_take] at hv
        split at hv
        · rw [List.getElem?_drop] at hv
          rw [Addr.add_lit]
          have hj := (List.getElem?_eq_some_iff.1 hv).1
          exact (hown.cellAt (u + j) (by omega)).trans hv
        · cases hv
      · intro v hv
        exact h1 v (List.mem_of_mem_drop (List.mem_of_mem_take hv))
      · rw [hcl]
        have hcs : cur.size = C := by simpa using h5
        have hur : us = cur.toList.take (N + 1) := by simpa using h6.symm
        refine h _ ⟨by simp; omega, .inr ⟨g, C, _, rfl, h1', setRow_heap w g _ _ _ _ h2, h3, h4, ?_, ?_⟩⟩ ⟨rfl, rfl, rfl, by simp [World.setRow], fun k hk hd => setRow_other w g k _ (by omega)⟩ (by simp [World.setRow])
        · simp
          omega
        · have e1 : cur.toList.take (u + 1) = us.take (u + 1) := by
            rw [hur, List.take_take]
            congr 1
            omega
          rw [e1, ← List.append_assoc, List.take_append_of_le_length (by simp; omega), List.take_of_length_le (by simp; omega)]
end Go.Proofs.YtkaepjigmcielaaGreatDoor
