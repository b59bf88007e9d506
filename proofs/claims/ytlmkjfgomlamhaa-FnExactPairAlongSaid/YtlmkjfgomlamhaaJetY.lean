/- Steps: the tableaus of the coordinates, the stages, and lemmas for the walks. -/
import Derived.Test.YtlmkjfgomlamhaaJetX
namespace Go.Proofs.Ytlmkjfgomlamhaa
open Go.RowKit
set_option linter.unusedSimpArgs false
set_option linter.unusedVariables false
set_option maxRecDepth 20000

theorem info_jetsJ : (Try.prog.info? 68).map (fun i => (i.zero, i.size, i.bytes)) = some (some (.slice none 0 0), 1, 24) := by kernel_rfl
theorem Lst.nil_ {α : Type} (K : Kd α) (T : TypeId) (P : Nat → Prop) (w : World) (lo hi : Nat) : Lst K T P w lo hi none 0 0 [] [] :=
  ⟨World.ownsRow_nil _ _ _ _, fun ad e => (by cases e), rfl, by simp⟩
theorem Lst.far {α : Type} {K : Kd α} {T : TypeId} {P : Nat → Prop} {w : World} {lo hi : Nat} {A : Option Addr} {n c : Nat} {vs : List Value} {xs : List α} (h : Lst K T P w lo hi A n c vs xs) {p : Addr} (hp : p.block < lo) (u : Value) : Lst K T P (w.setCell p u) lo hi A n c vs xs :=
  ⟨owns_setCell h.own (fun ad e => by have := (owns_lt h.own ad e).1; omega) u, h.lt, h.len, fun j x hx hP => by
    obtain ⟨v, l, h', e1, e2, e3, e4, e5⟩ := h.row j x hx hP
    exact ⟨v, l, h', e1, K.same e2 ((Same.refl _ _ _).setCell (.inl (by omega)) u), e3, e4, e5⟩⟩
theorem Ints3.wide3 {w : World} {lo hi lo' hi' : Nat} {A : Option Addr} {n c : Nat} {xsss : List (List (List Int))} (h : Ints3 w lo hi A n c xsss) (h1 : lo' ≤ lo) (h2 : hi ≤ hi') : Ints3 w lo' hi' A n c xsss :=
  ⟨h.len, h.cap, h.max, fun hn => by
    obtain ⟨ad, e, e1, e2, hc⟩ := h.cells hn
    refine ⟨ad, e, by omega, by omega, fun j xs hj => ?_⟩
    obtain ⟨B, m, d, e3, e4⟩ := hc j xs hj
    exact ⟨B, m, d, e3, e4.wide2 h1 h2⟩⟩
theorem Lst.nilsK {T : TypeId} (w : World) (n : Nat) (hn : n ≤ 1000) : Lst kII T (fun _ => True) (w.alloc (.cells (madeCells #[.slice none 0 0] n) T)) w.heap.size (w.heap.size + 1) (some ⟨w.heap.size, 0, none⟩) n n (List.replicate n (.slice none 0 0)) (List.replicate n []) := by
  have ho := World.ownsRow_lit (size := 1) (e := T) (base := w.heap.size) w (madeCells #[.slice none 0 0] n) n (Nat.le_refl _) (by unfold maxLen; omega) (by rw [← Array.length_toList, made_nil]; simp)
  rw [made_nil] at ho
  refine ⟨ho, fun ad e => by injection e with e; subst e; exact Nat.lt_succ_self _, by simp, fun j x hx _ => ?_⟩
  have hj : j < n := by have := (List.getElem?_eq_some_iff.1 hx).1; simpa using this
  obtain rfl : x = [] := by simpa [hj] using hx.symm
  exact ⟨.slice none 0 0, w.heap.size + 1, w.heap.size + 1, by simp [hj], ⟨none, 0, 0, rfl, Ints2.nil_ _ _ _⟩, by omega, Nat.le_refl _, fun ad e => .inr (by injection e with e; subst e; exact Nat.lt_succ_self _)⟩
theorem make_jetss (n : Nat) (hn : n ≤ 1000) (W : World) :
    (Instr.makeSlice 89 (.int .i64 (n : Int)) (.int .i64 (n : Int))).run Try.prog W = .ok (.slice (some ⟨W.heap.size, 0, none⟩) n n) (W.alloc (.cells (madeCells #[.slice none 0 0] n) 68)) := by
  obtain ⟨i0, hi0, hz0, hz1, hz2⟩ := info_parts info_jetsJ
  have h := run_make (P := Try.prog) W 89 68 i0 (.slice none 0 0) Try.underlying89 hi0 hz0 .i64 .i64 n n (by omega) (by omega) (by rw [hz2]; omega) (by omega)
  simp only [Int.toNat_natCast, hz1, Nat.mul_one] at h
  exact h

theorem Ints.takeJ {w : World} {lo hi : Nat} {A : Option Addr} {n c : Nat} {xs : List Int} (h : Ints w lo hi A n c xs) {k : Nat} (hk : k ≤ n) : Ints w lo hi A k c (xs.take k) :=
  ⟨by rw [List.length_take]; have := h.len; omega, by have := h.cap; omega, h.max, (fun h0 => by
    obtain ⟨ad, e, h1, h2, hc⟩ := h.cells (by omega)
    refine ⟨ad, e, h1, h2, fun j x hx => hc j x ?_⟩
    rw [List.getElem?_take] at hx
    split at hx
    · exact hx
    · cases hx), fun x hx => h.rng x (List.mem_of_mem_take hx)⟩
theorem Ints.dropJ {w : World} {lo hi g : Nat} {n c : Nat} {xs : List Int} (h : Ints w lo hi (some ⟨g, 0, none⟩) n c xs) {k : Nat} (hk : k ≤ n) : Ints w lo hi (some ⟨g, k, none⟩) (n - k) (c - k) (xs.drop k) :=
  ⟨by rw [List.length_drop]; have := h.len; omega, by have := h.cap; omega, by have := h.max; omega, (fun h0 => by
    obtain ⟨ad, e, h1, h2, hc⟩ := h.cells (by omega)
    injection e with e
    subst e
    refine ⟨_, rfl, h1, h2, fun j x hx => ?_⟩
    rw [List.getElem?_drop] at hx
    have := hc _ _ hx
    simpa [Addr.add_lit] using this), fun x hx => h.rng x (List.mem_of_mem_drop hx)⟩
/-- the tableau of each coordinate -/
def Tabs (w : World) (lo hi g dim S : Nat) (tA tB : Nat → List Int) : Prop := ∀ j, j < dim → ∃ AA cA BB cB,
  w.cell? ⟨g, j * 3, none⟩ = some (.int .i64 (S : Int)) ∧ w.cell? ⟨g, j * 3 + 1, none⟩ = some (.slice AA (S * S) cA) ∧ w.cell? ⟨g, j * 3 + 2, none⟩ = some (.slice BB S cB) ∧
  Ints w lo hi AA (S * S) cA (tA j) ∧ Ints w lo hi BB S cB (tB j) ∧ (0 < S → ∃ gA, AA = some ⟨gA, 0, none⟩)
def rowJ (xs : List Int) (S s : Nat) : List Int := (xs.drop (s * S)).take S
def stJ (S dim : Nat) (V : Nat → Nat → List Int) : List (List (List Int)) := (List.range S).map fun s => (List.range dim).map fun i => V s i
theorem stJ_len (S dim : Nat) (V : Nat → Nat → List Int) : (stJ S dim V).length = S := by simp [stJ]
theorem stJ_at {S dim : Nat} (V : Nat → Nat → List Int) {s i : Nat} (h : s < S) (h2 : i < dim) : ((stJ S dim V).getD s []).getD i [] = V s i := by simp [stJ, h, h2]
theorem stJ_get {S dim : Nat} (V : Nat → Nat → List Int) {s : Nat} (h : s < S) : (stJ S dim V)[s]? = some ((List.range dim).map fun i => V s i) := by simp [stJ, h]
theorem acc_congr (y : List Int) {v v' : Nat → List Int} (ws : List Int) : ∀ S, (∀ s, s < S → v s = v' s) → accJ y v ws S = accJ y v' ws S
  | 0, _ => rfl
  | s + 1, h => by rw [accJ, accJ, acc_congr y ws s (fun q hq => h q (by omega)), h s (by omega)]
/-- where a stage stands -/
def atL (dim S : Nat) (yss : List (List Int)) (row : Nat → Nat → List Int) (V : Nat → Nat → List Int) (s : Nat) : List (List Int) := (List.range dim).map fun i => accJ (yss.getD i []) (fun s' => V s' i) (row i s) S
theorem atL_len (dim S : Nat) (yss : List (List Int)) (row : Nat → Nat → List Int) (V : Nat → Nat → List Int) (s : Nat) : (atL dim S yss row V s).length = dim := by simp [atL]
theorem atL_at {dim S : Nat} (yss : List (List Int)) (row : Nat → Nat → List Int) (V : Nat → Nat → List Int) (s : Nat) {i : Nat} (h : i < dim) : (atL dim S yss row V s)[i]? = some (accJ (yss.getD i []) (fun s' => V s' i) (row i s) S) := by simp [atL, h]
theorem atL_num {n dim S : Nat} {yss : List (List Int)} (row : Nat → Nat → List Int) (V : Nat → Nat → List Int) (s : Nat) (h : JNum n yss) (hl : yss.length = dim) : JNum n (atL dim S yss row V s) := by
  intro r hr
  simp only [atL, List.mem_map, List.mem_range] at hr
  obtain ⟨i, hi, rfl⟩ := hr
  have := h yss[i] (List.getElem_mem (by omega))
  rw [show yss.getD i [] = yss[i] by simp [List.getD, show i < yss.length by omega]]
  exact ⟨by rw [acc_len]; exact this.1, acc_num _ _ this.2 _⟩
theorem poly_congr (n : Nat) (ms : List Mono) {ys ys' : Nat → List Int} (h : ys = ys') : polyJ n ms ys = polyJ n ms ys' := by rw [h]
theorem acc_nil (v : Nat → List Int) (ws : List Int) (S : Nat) : accJ [] v ws S = [] := List.eq_nil_of_length_eq_zero (by rw [acc_len]; rfl)
/-- the values of a stage -/
theorem val_stage {n dim S : Nat} {ps : List (List Mono)} {yss : List (List Int)} (row : Nat → Nat → List Int) (V : Nat → Nat → List Int) (s : Nat) (hp : ps.length = dim) (hl : yss.length = dim) :
    valL n ps (atL dim S yss row V s) = (List.range dim).map fun i => nextJ n S (fun i => ps.getD i []) (fun i => yss.getD i []) row V s i := by
  apply List.ext_getElem?
  intro i
  by_cases hi : i < dim
  · rw [val_at (List.getElem?_eq_getElem (by omega)), List.getElem?_map, List.getElem?_range hi, Option.map_some, nextJ, show ps.getD i [] = ps[i] by simp [List.getD, show i < ps.length by omega]]
    congr 1
    apply poly_congr
    funext v
    by_cases hv : v < dim
    · rw [List.getD, atL_at yss row V s hv]
      rfl
    · rw [show yss.getD v [] = [] by simp [List.getD, show yss.length ≤ v by omega], acc_nil]
      simp [List.getD, atL_len, show dim ≤ v by omega]
  · rw [List.getElem?_eq_none (by simp [valL]; omega), List.getElem?_eq_none (by simp; omega)]
theorem stJ_st3 {n S dim : Nat} {V : Nat → Nat → List Int} (h : ∀ s i, (V s i).length = n ∧ ∀ x ∈ V s i, 0 ≤ x ∧ x < 1000000271) : St3 n dim (stJ S dim V) := by
  intro v hv
  simp only [stJ, List.mem_map, List.mem_range] at hv
  obtain ⟨s, _, rfl⟩ := hv
  refine ⟨by simp, fun r hr => ?_⟩
  simp only [List.mem_map, List.mem_range] at hr
  obtain ⟨i, _, rfl⟩ := hr
  exact h s i
theorem iter_num (n S : Nat) (ps : Nat → List Mono) (y : Nat → List Int) (row : Nat → Nat → List Int) (t s i : Nat) : (iterJ n S ps y row t s i).length = n ∧ ∀ x ∈ iterJ n S ps y row t s i, 0 ≤ x ∧ x < 1000000271 := by
  refine ⟨iter_len .., ?_⟩
  cases t with
  | zero => intro x hx; have := (List.mem_replicate.1 hx).2; omega
  | succ t => exact der_num n _ _ _ (fun x hx => by have := (List.mem_replicate.1 hx).2; omega)
/-- where the step leads -/
def outJ (n dim S : Nat) (ps : List (List Mono)) (yss : List (List Int)) (tA tB : Nat → List Int) : List (List Int) :=
  (List.range dim).map fun i => accJ (yss.getD i []) (fun s => iterJ n S (fun i => ps.getD i []) (fun i => yss.getD i []) (fun i s => rowJ (tA i) S s) n s i) (tB i) S
theorem outJ_len (n dim S : Nat) (ps : List (List Mono)) (yss : List (List Int)) (tA tB : Nat → List Int) : (outJ n dim S ps yss tA tB).length = dim := by simp [outJ]
theorem outJ_at {n dim S : Nat} (ps : List (List Mono)) (yss : List (List Int)) (tA tB : Nat → List Int) {i : Nat} (h : i < dim) : (outJ n dim S ps yss tA tB)[i]? = some (accJ (yss.getD i []) (fun s => iterJ n S (fun i => ps.getD i []) (fun i => yss.getD i []) (fun i s => rowJ (tA i) S s) n s i) (tB i) S) := by simp [outJ, h]
end Go.Proofs.Ytlmkjfgomlamhaa
