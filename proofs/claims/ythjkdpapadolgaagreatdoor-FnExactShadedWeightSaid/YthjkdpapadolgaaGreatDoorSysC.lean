/- Rows pushed whole onto an outer slice; the plain solution of a system. -/
import Derived.Test.YthjkdpapadolgaaGreatDoorSysB
namespace Go.Proofs.YthjkdpapadolgaaGreatDoor
open Go.RowKit
set_option linter.unusedSimpArgs false
set_option linter.unusedVariables false
set_option maxRecDepth 20000

section
variable {w w' : World} {lo : Nat} {A : Option Addr} {n c : Nat} {vs : List Value} {xss : List (List Int)}
theorem RowsO.olt (h : RowsO w lo A n c vs xss) (j : Nat) (v : Value) (hv : vs[j]? = some v) (k : Nat) (hk : v.ownBlock = some k) : lo ≤ k ∧ k < w.heap.size := by
  have hj := (List.getElem?_eq_some_iff.1 hv).1
  have hvl := h.vlen
  have hl := h.len
  obtain ⟨B, m, d, e1, e2, _⟩ := h.row j _ (List.getElem?_eq_getElem (by omega))
  rw [hv] at e1
  injection e1 with e1
  subst e1
  exact e2.lt k hk
theorem RowsO.pushRow (h : RowsO w lo A n c vs xss) {B : Option Addr} {m d : Nat} {xs : List Int}
    (hr : w.ownsRow lo 3 1 (.slice B m d) m (xs.map (Value.int .i64))) (hR : ∀ x ∈ xs, R64 x) {hb : Nat}
    (hB : ∀ ad, B = some ad → hb ≤ ad.block) (hA : ∀ ad, A = some ad → ad.block < hb) (hvb : ∀ (j : Nat) (v : Value), vs[j]? = some v → ∀ b, v.ownBlock = some b → b < hb)
    {A' : Option Addr} {c' : Nat} (hap : Appended w lo 22 1 A n c A' (n + 1) c' (vs ++ [.slice B m d]) w') :
    RowsO w' lo A' (n + 1) c' (vs ++ [.slice B m d]) (xss ++ [xs]) := by
  obtain ⟨h1, h2, h3⟩ := hap
  have hvl := h.vlen
  have hvx : vs.length = xss.length := by rw [hvl, h.len]
  have hbw : ∀ k, (Value.slice B m d).ownBlock = some k → hb ≤ k ∧ k < w.heap.size := fun k hk => by
    obtain ⟨ad, rfl, rfl⟩ := ownBlock_eq.1 hk
    exact ⟨hB ad rfl, (owns_lt hr ad rfl).2⟩
  have hAb : ∀ k, oBlk A n c = some k → k < hb := fun k hk => by
    obtain ⟨ad, rfl, rfl⟩ := ownBlock_eq.1 hk
    exact hA ad rfl
  have nA : ∀ k, oBlk A' (n+1) c' = some k → oBlk A n c = some k ∨ w.heap.size ≤ k := by
    intro k hk
    obtain ⟨ad, rfl, had⟩ := ownBlock_eq.1 hk
    rcases h3 with h3 | h3
    · have := h3 ad rfl
      subst this
      exact .inl (by simp [Value.ownBlock, had])
    · exact .inr (by have := h3 ad rfl; omega)
  have sepA : ∀ v : Value, (v.ownBlock = none ∨ v.ownBlock ≠ oBlk A n c) → (∀ k, v.ownBlock = some k → k < w.heap.size) → v.ownBlock = none ∨ v.ownBlock ≠ oBlk A' (n+1) c' := by
    intro v hv hk
    cases hb2 : v.ownBlock with
    | none => exact .inl rfl
    | some k =>
      refine .inr fun e => ?_
      rcases nA k e.symm with e2 | e2
      · rcases hv with h5 | h5
        · rw [h5] at hb2; exact absurd hb2 (by simp)
        · exact h5 (hb2.trans e2.symm)
      · have := hk k hb2; omega
  have newA : (Value.slice B m d).ownBlock = none ∨ (Value.slice B m d).ownBlock ≠ oBlk A n c := by
    cases hb2 : (Value.slice B m d).ownBlock with
    | none => exact .inl rfl
    | some k => exact .inr fun e => by have := hAb k e.symm; have := (hbw k hb2).1; omega
  have hc : ∀ (j : Nat) (v : Value), (vs ++ [Value.slice B m d])[j]? = some v → (j < n ∧ vs[j]? = some v) ∨ (j = n ∧ v = .slice B m d) := by
    intro j v hj
    by_cases hl : j < n
    · rw [List.getElem?_append_left (by omega)] at hj
      exact .inl ⟨hl, hj⟩
    · have hlt := (List.getElem?_eq_some_iff.1 hj).1
      simp at hlt
      obtain rfl : j = n := by omega
      refine .inr ⟨rfl, ?_⟩
      rw [← hvl] at hj
      simpa using hj.symm
  refine ⟨h1, by simp [h.len], fun j ys hj => ?_, fun j v hj => ?_, fun i j u v hij hi hj => ?_⟩
  · by_cases hl : j < n
    · rw [List.getElem?_append_left (by have := h.len; omega)] at hj
      obtain ⟨B1, m1, d1, e1, e2, e3⟩ := h.row j ys hj
      exact ⟨B1, m1, d1, by rw [List.getElem?_append_left (by omega)]; exact e1, e2.kept h2 (h.sep j _ e1), e3⟩
    · have hlt := (List.getElem?_eq_some_iff.1 hj).1
      have hln := h.len
      simp at hlt
      obtain rfl : j = n := by omega
      obtain rfl : xs = ys := by rw [← hln] at hj; simpa using hj
      refine ⟨_, _, _, ?_, hr.kept h2 newA, hR⟩
      rw [← hvl]; simp
  · rcases hc j v hj with ⟨_, hv⟩ | ⟨_, rfl⟩
    · exact sepA v (h.sep j v hv) fun k hk => (h.olt j v hv k hk).2
    · exact sepA _ newA fun k hk => (hbw k hk).2
  · rcases hc i u hi with ⟨_, hu⟩ | ⟨hi1, rfl⟩
    · rcases hc j v hj with ⟨_, hv⟩ | ⟨_, rfl⟩
      · exact h.sep2 i j u v hij hu hv
      · cases hb2 : u.ownBlock with
        | none => exact .inl rfl
        | some k => exact .inr fun e => by have := (hbw k e.symm).1; have := hvb i u hu k hb2; omega
    · rcases hc j v hj with ⟨_, hv⟩ | ⟨hj1, rfl⟩
      · cases hb2 : (Value.slice B m d).ownBlock with
        | none => exact .inl rfl
        | some k => exact .inr fun e => by have := (hbw k hb2).1; have := hvb j v hv k e.symm; omega
      · omega
end

/-- each row with its right side behind it -/
def augF (M : List (List Int)) (r : List Int) : List (List Int) := M.zipWith (fun x y => x ++ [y]) r
/-- the last elements of the reduced rows: the solution, where each column has its pivot -/
def solF (k : Nat) (M : List (List Int)) (r : List Int) : List Int := (redF k 0 (augF M r) []).1.map fun x => x.getD k 0
/-- every column has its pivot -/
def FullF (k : Nat) (M : List (List Int)) (r : List Int) : Prop := (redF k 0 (augF M r) []).2 = (List.range k).map fun i : Nat => (i : Int)

/-- a power by squares, for the kernel -/
def fpowGo : Nat → Int → Int → Int → Int
  | 0, o, _, _ => o
  | f + 1, o, x, k => if k ≤ 0 then o else if k % 2 = 1 then fpowGo f (o * x % 1000000271) (x * x % 1000000271) (k / 2) else fpowGo f o (x * x % 1000000271) (k / 2)
theorem fpow_go : ∀ (f : Nat) (o x k : Int), 0 ≤ o → o < 1000000271 → 0 ≤ k → k < 2 ^ f → fpowGo f o x k = (o * x ^ k.toNat) % 1000000271
  | 0, o, x, k, h0, h1, h2, h3 => by
    obtain rfl : k = 0 := by simp at h3; omega
    exact (pow_stop h0 h1).symm
  | f + 1, o, x, k, h0, h1, h2, h3 => by
    rw [fpowGo]
    split
    · obtain rfl : k = 0 := by omega
      exact (pow_stop h0 h1).symm
    · rw [Int.pow_succ] at h3
      split
      · rw [fpow_go f _ _ _ (Int.emod_nonneg _ (by omega)) (Int.emod_lt_of_pos _ (by omega)) (by omega) (by omega), ← pow_odd h2 (by assumption)]
      · rw [fpow_go f _ _ _ h0 h1 (by omega) (by omega), ← pow_even h2 (by omega)]
theorem powF_fast {a k : Int} (h : 0 ≤ k) (h2 : k < 2 ^ 40) : powF a k = fpowGo 40 1 (resF a) k := by
  rw [powF_start h, fpow_go 40 1 _ _ (by omega) (by omega) h h2]
theorem inv_fast (a : Int) : invF a = fpowGo 40 1 (resF a) 1000000269 := powF_fast (by omega) (by omega)
end Go.Proofs.YthjkdpapadolgaaGreatDoor
