/- slices.Sort on integers; the number of a plain tree, whatever the variable treeRows holds. -/
import Derived.Test.YtkaepjigmcielaaGreatDoorMzO
import Derived.Test.YtkaepjigmcielaaGreatDoorMzP
import Derived.Shelf.Slices.In.SortNone
import Derived.Test.YtkaepjigmcielaaGreatDoorMzG
namespace Go.Proofs.YtkaepjigmcielaaGreatDoor
open Go.RowKit
set_option linter.unusedSimpArgs false
set_option linter.unusedVariables false
set_option maxRecDepth 20000

theorem insI_perm (x : Int) : ∀ l : List Int, (insI x l).Perm (x :: l)
  | [] => List.Perm.refl _
  | y :: r => by
    rw [insI]
    split
    · exact List.Perm.refl _
    · exact ((insI_perm x r).cons y).trans (List.Perm.swap x y r)
theorem sortI_perm : ∀ l : List Int, (sortI l).Perm l
  | [] => List.Perm.refl _
  | x :: r => (insI_perm x _).trans ((sortI_perm r).cons x)
theorem insI_sorted (x : Int) : ∀ l : List Int, l.Pairwise (· ≤ ·) → (insI x l).Pairwise (· ≤ ·)
  | [], _ => by simp [insI]
  | y :: r, h => by
    have h' := List.pairwise_cons.1 h
    rw [insI]
    split
    · rename_i hxy
      refine List.pairwise_cons.2 ⟨fun z hz => ?_, h⟩
      rcases List.mem_cons.1 hz with rfl | hz
      · exact hxy
      · have := h'.1 z hz
        omega
    · rename_i hxy
      refine List.pairwise_cons.2 ⟨fun z hz => ?_, insI_sorted x r h'.2⟩
      have := (insI_perm x r).mem_iff.1 hz
      rcases List.mem_cons.1 this with rfl | hz
      · omega
      · exact h'.1 z hz
theorem sortI_sorted : ∀ l : List Int, (sortI l).Pairwise (· ≤ ·)
  | [] => List.Pairwise.nil
  | x :: r => insI_sorted x _ (sortI_sorted r)
theorem merge_sortI (l : List Int) : (l.mergeSort fun x y => decide (x ≤ y)) = sortI l := by
  have h1 : (l.mergeSort fun x y => decide (x ≤ y)).Pairwise (· ≤ ·) := by
    have := List.pairwise_mergeSort (le := fun x y : Int => decide (x ≤ y)) (fun a b c h1 h2 => by simp at *; omega) (fun a b => by simp; omega) l
    exact this.imp fun h => by simpa using h
  exact List.Perm.eq_of_pairwise (fun a b _ _ h1 h2 => by omega) h1 (sortI_sorted l) ((List.mergeSort_perm l _).trans (sortI_perm l).symm)

theorem sort_ints {w : World} {lo hi n c : Nat} {A : Option Addr} {xs : List Int} (h : OwnI w lo hi A n c xs) (hn : n ≤ 1000) :
    Calls Tryz.prog 71 #[.slice A n c] w fun e w' => e = .returned (.tuple #[]) ∧ OwnI w' lo hi A n c (sortI xs) ∧ Touch lo hi w w' := by
  rcases Nat.eq_zero_or_pos n with h0 | h0
  · subst h0
    obtain rfl : xs = [] := by have := h.len; simpa using this
    have hS := Any.slices_Sort_int_none sh_sortI A c w
    change Calls Tryz.prog 71 _ _ _ at hS
    exact hS.mono fun e w' ⟨he, hw⟩ => by
      subst hw
      exact ⟨he, h, .refl _ _ _⟩
  · obtain ⟨g, rfl, hg1, hg2, hg3⟩ := h.form h0
    have hl := h.len
    have hS := Any.slices_Sort_int sh_sortI g 0 c xs w (fun j hj => by
      have hj' : j < xs.length := by simpa using hj
      rw [Nat.zero_add, getElem!_pos xs.toArray j hj]
      refine ⟨(h.own.cellAt j (by omega)).trans ?_, h.own.frozenAt j⟩
      rw [List.getElem?_map, List.getElem?_eq_getElem hj']
      rfl) hg3 (by omega)
    change Calls Tryz.prog 71 _ _ _ at hS
    rw [hl, merge_sortI] at hS
    refine hS.mono fun e w' ⟨he, q, os, hw⟩ => ?_
    have hsl : (sortI xs).toArray.size = n := by simpa using (sortI_perm xs).length_eq.trans hl
    have hpz : ∀ k, k ≠ g → k < w.heap.size → w'.heap[k]? = w.heap[k]? := fun k hk hk2 => by
      rw [hw, Go.Sort.heap_grow_old _ _ (by simp [Go.Sort.size_putRow, Go.Sort.ahead]; omega), block_putRow _ _ _ _ _ _ hk]
      rfl
    have hpg : w'.heap[g]? = (Go.Sort.putRow (Value.int .i64) w g 0 (sortI xs).toArray).heap[g]? := by
      rw [hw, Go.Sort.heap_grow_old _ _ (by simp [Go.Sort.size_putRow, Go.Sort.ahead]; omega)]
      rfl
    have hpo : w'.os = w.os ∧ w'.tape = w.tape ∧ w'.output = w.output ∧ w.heap.size ≤ w'.heap.size := by
      rw [hw]
      refine ⟨rfl, rfl, rfl, ?_⟩
      simp [Go.Sort.grow, Go.Sort.size_putRow, Go.Sort.ahead]
    clear hw
    have hop := own_putRow (Value.int .i64) h.own (sortI xs).toArray hsl
    refine ⟨he, ⟨?_, h.lt, fun x hx => h.rng x ((sortI_perm xs).mem_iff.1 hx)⟩, hpo.1, hpo.2.1, hpo.2.2.1, hpo.2.2.2, fun k hk hd => hpz k (by omega) hk⟩
    exact owns_same hop fun ad e => by injection e with e; subst e; exact hpg

/-- the variable treeRows holds rows that can be read, in blocks below B -/
structure TreeV (B : Nat) (w : World) : Prop where
  lt : 0 < B
  rows : ∃ A n c xss, w.cell? ⟨0, 0, none⟩ = some (.slice A n c) ∧ Ints2 w 0 B A n c xss
theorem TreeV.same {B : Nat} {w w' : World} (h : TreeV B w) (hs : Same 0 B w w') : TreeV B w' := by
  obtain ⟨A, n, c, xss, h1, h2⟩ := h.rows
  exact ⟨h.lt, A, n, c, xss, (hs.cell (p := ⟨0, 0, none⟩) (Nat.zero_le _) h.lt).trans h1, h2.same hs⟩
theorem TreeV.below {B B' : Nat} {w w' : World} (h : TreeV B w) (hb : Below B' w w') (hB : B ≤ B') : TreeV B w' := h.same (.of_below hb hB)

/-- the closure that holds a row against the list that it captured -/
theorem rank_closure (A : Option Addr) (n c : Nat) (xs : List Int) (lo hi b : Nat) (B : Option Addr) (m d : Nat) (l : List Int) (lo' hi' : Nat) (w : World) (h : Ints w lo hi A n c xs) (hb : w.cell? ⟨b, 0, none⟩ = some (.slice B m d)) (g : Ints w lo' hi' B m d l) :
    Calls Tryz.prog 115 #[.slice A n c, .pointer (some ⟨b, 0, none⟩)] w fun e w' => e = .returned (.bool (decide (xs = l))) ∧ ∃ q, w' = w.drewN q := by
  have hE := hide (slices_Equal A n c xs lo hi B m d l lo' hi' w h g)
  clear h g
  go_enter Tryz.func115, Tryz.ntmps115
  go_wp2_with fail
  refine hE.out.mono ?_
  rintro e w1 ⟨rfl, q, rfl⟩
  go_wp2_with fail
  go_ret
  exact ⟨rfl, q, rfl⟩

theorem lib_IndexRows (A : Option Addr) (n c : Nat) (xss : List (List Int)) (lo hi b : Nat) (B : Option Addr) (m d : Nat) (l : List Int) (lo' hi' : Nat) (w : World) (h : Ints2 w lo hi A n c xss) (hb : w.cell? ⟨b, 0, none⟩ = some (.slice B m d)) (g : Ints w lo' hi' B m d l) :
    Calls Tryz.prog 114 #[.slice A n c, .func (.func 115) #[] #[.pointer (some ⟨b, 0, none⟩)]] w fun e w' => (∃ r : Int, e = .returned (.int .i64 r) ∧ R64 r) ∧ ∃ q, w' = w.drewN q := by
  have hcp := h.cap
  have hm := h.max
  have hC := hide fun (A : Option Addr) (n c : Nat) (xs : List Int) (q : Nat) (h : Ints w lo hi A n c xs) => rank_closure A n c xs lo hi b B m d l lo' hi' (w.drewN q) (h.same (fun _ _ _ => rfl)) hb (g.same (fun _ _ _ => rfl))
  clear hb g
  go_enter Tryz.func114, Tryz.ntmps114
  go_wp2_with fail
  go_loopw [5, 8] (fun _ i wr => ∃ (k q : Nat), k ≤ n ∧ i = .int .i64 k ∧ wr = w.drewN q) (fun _ i _ => n - (intOf i).toNat)
  case atStart => exact ⟨0, 0, by omega, rfl, rfl⟩
  case round =>
    obtain ⟨k, q, hk, rfl, rfl⟩ := hrel
    by_cases hlt : k < n
    · obtain ⟨ad, A1, n1, c1, xs, rfl, hc, hI, _, _⟩ := h.at_ hlt
      have hc' : (w.drewN q).cell? (ad.add k) = some (.slice A1 n1 c1) := hc
      have hcall := hide (hC.out A1 n1 c1 xs q hI)
      clear hI hC
      by_cases hxl : xs = l
      · go_wp2_with fail
        refine hcall.out.mono ?_
        rintro e w1 ⟨rfl, q1, rfl⟩
        rw [decide_eq_true hxl]
        go_wp2_with fail
        go_ret
        exact ⟨⟨(k : Int), rfl, by constructor <;> omega⟩, _, rfl⟩
      · go_wp2_with fail
        refine hcall.out.mono ?_
        rintro e w1 ⟨rfl, q1, rfl⟩
        rw [decide_eq_false hxl]
        go_wp2_with fail
        go_roundw
        case rel => exact ⟨k + 1, q + q1, by omega, by go_num, rfl⟩
        case measure => simp [intOf]; omega
    · obtain rfl : k = n := by omega
      go_wp2_with fail
      go_ret
      exact ⟨⟨-1, rfl, by constructor <;> omega⟩, q, rfl⟩

theorem impl_rankCanonical (B : Nat) (A : Option Addr) (n c : Nat) (l : List Int) (lo hi : Nat) (w : World) (hT : TreeV B w) (hB : B ≤ w.heap.size) (h : Ints w lo hi A n c l) (hh : hi ≤ w.heap.size) :
    Calls Tryz.prog 92 #[.slice A n c] w fun e w' => (∃ r : Int, e = .returned (.int .i64 r) ∧ R64 r) ∧ Below w.heap.size w w' := by
  have ba := below_alloc w (.cells #[.slice A n c] 22)
  obtain ⟨A', n', c', xss, hc, h2⟩ := (hT.below ba hB).rows
  have hI := hide (lib_IndexRows A' n' c' xss 0 B w.heap.size A n c l lo hi (w.alloc (.cells #[.slice A n c] 22)) h2 (by simp) (h.below ba hh))
  clear h2 h
  go_enter Tryz.func92, Tryz.ntmps92
  go_wp2_with fail
  refine hI.out.mono ?_
  rintro e w1 ⟨⟨r, rfl, hr⟩, q, rfl⟩
  have HB := hide (below_drewN ba q)
  go_wp2_with fail
  go_ret
  exact ⟨⟨r, rfl, hr⟩, HB.out⟩

theorem impl_rankOf (B gw n c : Nat) (l : List Int) (lo hi : Nat) (w : World) (hT : TreeV B w) (hB : B ≤ w.heap.size) (h : Ints w lo hi (some ⟨gw, 0, none⟩) n c l) (hh : hi ≤ w.heap.size) (hl : okG 4 1 l = true) (hl4 : l.length ≤ 4) :
    Calls Tryz.prog 68 #[.slice (some ⟨gw, 0, none⟩) n c] w fun e w' => (∃ r : Int, e = .returned (.int .i64 r) ∧ R64 r) ∧ Below w.heap.size w w' := by
  have hS := hide (impl_sortedG 1 (by omega) (by omega) 4 gw n c l lo hi w h hh hl hl4)
  have HT := hide hT
  clear h hl hT
  go_enter Tryz.func68, Tryz.ntmps68
  go_wp2_with fail
  refine hS.out.mono ?_
  rintro e w1 ⟨g1, c1, rfl, o1, b1⟩
  have z1 := b1.size
  have hR := hide (impl_rankCanonical B (some ⟨g1, 0, none⟩) n c1 _ _ _ w1 (HT.out.below b1 hB) (by omega) o1.ints (Nat.le_refl _))
  have HB1 := hide b1
  clear o1 b1 hS HT
  go_wp2_with fail
  refine hR.out.mono ?_
  rintro e w2 ⟨⟨r, rfl, hr⟩, b2⟩
  have HB2 := hide (HB1.out.trans (b2.mono z1))
  clear b2
  go_wp2_with fail
  go_ret
  exact ⟨⟨r, rfl, hr⟩, HB2.out⟩
end Go.Proofs.YtkaepjigmcielaaGreatDoor
/- Systems of equations in plain Lean; rows that lie in memory and are changed in place. -/
namespace Go.Proofs.YtkaepjigmcielaaGreatDoor
open Go.RowKit
set_option linter.unusedSimpArgs false
set_option linter.unusedVariables false
set_option maxRecDepth 20000

/-- element j of row i -/
def atM (M : List (List Int)) (i j : Nat) : Int := (M.getD i []).getD j 0
def swapF (M : List (List Int)) (i j : Nat) : List (List Int) := (M.set i (M.getD j [])).set j (M.getD i [])
/-- rows of width k with numbers -/
def NumM (k : Nat) (M : List (List Int)) : Prop := ∀ r ∈ M, r.length = k ∧ ∀ x ∈ r, 0 ≤ x ∧ x < 1000000271

theorem NumM.row {k : Nat} {M : List (List Int)} (h : NumM k M) {i : Nat} (hi : i < M.length) : (M.getD i []).length = k ∧ ∀ x ∈ M.getD i [], 0 ≤ x ∧ x < 1000000271 := by
  have e : M.getD i [] = M[i] := by simp [hi]
  rw [e]
  exact h _ (List.getElem_mem hi)
theorem getM? {M : List (List Int)} {i : Nat} (hi : i < M.length) : M[i]? = some (M.getD i []) := by simp [hi]
theorem NumM.set {k : Nat} {M : List (List Int)} (h : NumM k M) {r : List Int} (hr : r.length = k ∧ ∀ x ∈ r, 0 ≤ x ∧ x < 1000000271) (i : Nat) : NumM k (M.set i r) := by
  intro s hs
  rcases List.mem_or_eq_of_mem_set hs with hs | rfl
  · exact h s hs
  · exact hr
theorem NumM.swap {k : Nat} {M : List (List Int)} (h : NumM k M) {i j : Nat} (hi : i < M.length) (hj : j < M.length) : NumM k (swapF M i j) := (h.set (h.row hj) i).set (h.row hi) j
theorem at_num {k : Nat} {M : List (List Int)} (h : NumM k M) {i j : Nat} (hi : i < M.length) (hj : j < k) : (M.getD i [])[j]? = some (atM M i j) ∧ 0 ≤ atM M i j ∧ atM M i j < 1000000271 := by
  obtain ⟨h1, h2⟩ := h.row hi
  have e : (M.getD i [])[j]? = some (atM M i j) := by
    unfold atM
    rw [List.getD_eq_getElem?_getD (l := M.getD i []), List.getElem?_eq_getElem (by omega)]
    rfl
  exact ⟨e, h2 _ (List.mem_of_getElem? e)⟩
section
variable {w w' : World} {lo : Nat} {A : Option Addr} {n c : Nat} {vs : List Value} {xss : List (List Int)}
/-- a row and where it lies, if it is not empty -/
theorem RowsO.rowAt (h : RowsO w lo A n c vs xss) {k : Nat} {xs : List Int} (hk : xss[k]? = some xs) (hx : 0 < xs.length) : ∃ b d, vs[k]? = some (.slice (some ⟨b, 0, none⟩) xs.length d) ∧ w.ownsRow lo 3 1 (.slice (some ⟨b, 0, none⟩) xs.length d) xs.length (xs.map (Value.int .i64)) ∧ (∀ x ∈ xs, R64 x) ∧ xs.length ≤ d ∧ d ≤ 9223372036854775807 ∧ lo ≤ b ∧ b < w.heap.size ∧ (∀ g, A = some ⟨g, 0, none⟩ → b ≠ g) := by
  obtain ⟨B, m, d, e1, e2, e3⟩ := h.row k xs hk
  obtain rfl : xs.length = m := by have := own_len e2; simpa using this
  have hs := h.sep k _ e1
  rcases e2.2 with ⟨_, e⟩ | ⟨b, cap, cur, e, h1, h2, h3, h4, _⟩
  · omega
  · injection e with e4 e5 e6
    subst e4 e6
    refine ⟨b, d, e1, e2, e3, h3, by unfold maxLen at h4; omega, h1, (Array.getElem?_eq_some_iff.1 h2).1, fun g hg => ?_⟩
    subst hg
    rcases hs with hs | hs
    · simp [Value.ownBlock] at hs
    · simpa [Value.ownBlock] using hs

/-- two rows exchanged -/
theorem RowsO.swap {g : Nat} (h : RowsO w lo (some ⟨g, 0, none⟩) n c vs xss) {i j : Nat} {u v : Value} (hi : vs[i]? = some u) (hj : vs[j]? = some v) :
    RowsO ((w.setCell ⟨g, i, none⟩ v).setCell ⟨g, j, none⟩ u) lo (some ⟨g, 0, none⟩) n c ((vs.set i v).set j u) (swapF xss i j) := by
  have hvl := h.vlen
  have hxl := h.len
  have hin := (List.getElem?_eq_some_iff.1 hi).1
  have hjn := (List.getElem?_eq_some_iff.1 hj).1
  have st1 := h.own.stored i v
  have st2 := st1.1.stored j u
  have hne : ∀ b', b' ≠ g → ((w.setCell ⟨g, i, none⟩ v).setCell ⟨g, j, none⟩ u).heap[b']? = w.heap[b']? := fun b' hb => (Below.heap_setCell _ _ _ _ hb).trans (Below.heap_setCell _ _ _ _ hb)
  -- which row now lies at k
  let s : Nat → Nat := fun k => if k = j then i else if k = i then j else k
  have hvs : ∀ k, ((vs.set i v).set j u)[k]? = vs[s k]? := by
    intro k
    show _ = vs[if k = j then i else if k = i then j else k]?
    by_cases e1 : k = j
    · subst e1
      rw [if_pos rfl, List.getElem?_set_self (by simpa using hjn), hi]
    · rw [if_neg e1, List.getElem?_set_ne (by omega)]
      by_cases e2 : k = i
      · subst e2
        rw [if_pos rfl, List.getElem?_set_self hin, hj]
      · rw [if_neg e2, List.getElem?_set_ne (by omega)]
  have hxs : ∀ k, (swapF xss i j)[k]? = xss[s k]? := by
    intro k
    show ((xss.set i (xss.getD j [])).set j (xss.getD i []))[k]? = xss[if k = j then i else if k = i then j else k]?
    by_cases e1 : k = j
    · subst e1
      rw [if_pos rfl, List.getElem?_set_self (by simp; omega), List.getElem?_eq_getElem (by omega)]
      simp [show i < xss.length by omega]
    · rw [if_neg e1, List.getElem?_set_ne (by omega)]
      by_cases e2 : k = i
      · subst e2
        rw [if_pos rfl, List.getElem?_set_self (by omega), List.getElem?_eq_getElem (by omega)]
        simp [show j < xss.length by omega]
      · rw [if_neg e2, List.getElem?_set_ne (by omega)]
  have hinj : ∀ a b, a ≠ b → s a ≠ s b := by
    intro a b hab
    show (if a = j then i else if a = i then j else a) ≠ (if b = j then i else if b = i then j else b)
    split <;> split <;> (try split) <;> (try split) <;> omega
  refine ⟨st2.1, by simpa [swapF] using hxl, fun k ys hk => ?_, fun k z hk => ?_, fun a b y z hab ha hb => ?_⟩
  · rw [hxs] at hk
    obtain ⟨B, m', d', e1, e2, e3⟩ := h.row _ ys hk
    refine ⟨B, m', d', (hvs k).trans e1, owns_same e2 (fun ad e4 => hne ad.block ?_), e3⟩
    subst e4
    rcases h.sep _ _ e1 with e5 | e5
    · simp [Value.ownBlock] at e5
    · intro e6
      exact e5 (by simp [Value.ownBlock, e6])
  · rw [hvs] at hk
    exact h.sep _ z hk
  · rw [hvs] at ha hb
    exact h.sep2 _ _ y z (hinj a b hab) ha hb
end
end Go.Proofs.YtkaepjigmcielaaGreatDoor
/- A matrix of numbers in memory, changed in place: what a walk needs of it. -/
namespace Go.Proofs.YtkaepjigmcielaaGreatDoor
open Go.RowKit
set_option linter.unusedSimpArgs false
set_option linter.unusedVariables false
set_option maxRecDepth 20000

/-- A matrix of n rows of k numbers: its blocks lie from lo up to hi; the world has changed from lo on only. -/
structure MatB (w0 w : World) (lo hi g n c k : Nat) (vs : List Value) (M : List (List Int)) : Prop where
  rows : RowsO w lo (some ⟨g, 0, none⟩) n c vs M
  lt : ∀ (j : Nat) (v : Value), vs[j]? = some v → ∀ b, v.ownBlock = some b → b < hi
  glt : g < hi
  num : NumM k M
  low : Below lo w0 w

section
variable {w0 w w' : World} {lo hi g n c k : Nat} {vs : List Value} {M : List (List Int)}
theorem MatB.len (h : MatB w0 w lo hi g n c k vs M) : M.length = n := h.rows.len
theorem MatB.drew (h : MatB w0 w lo hi g n c k vs M) : MatB w0 w.drew lo hi g n c k vs M := ⟨h.rows.drew, h.lt, h.glt, h.num, h.low.drew⟩
theorem MatB.keep (h : MatB w0 w lo hi g n c k vs M) (hs : ∀ b, b < hi → w'.heap[b]? = w.heap[b]?) (hb : Below lo w w') : MatB w0 w' lo hi g n c k vs M := by
  refine ⟨⟨owns_same h.rows.own (fun ad e => by injection e with e; subst e; exact hs g h.glt), h.rows.len, fun j xs hj => ?_, h.rows.sep, h.rows.sep2⟩, h.lt, h.glt, h.num, h.low.trans hb⟩
  obtain ⟨B, m, d, e1, e2, e3⟩ := h.rows.row j xs hj
  refine ⟨B, m, d, e1, owns_same e2 (fun ad e => hs ad.block (h.lt j _ e1 ad.block ?_)), e3⟩
  subst e
  rfl
theorem MatB.row (h : MatB w0 w lo hi g n c k vs M) {i : Nat} (hi' : i < n) (hk : 0 < k) : ∃ b d, w.cell? ⟨g, i, none⟩ = some (.slice (some ⟨b, 0, none⟩) k d) ∧ vs[i]? = some (.slice (some ⟨b, 0, none⟩) k d) ∧ k ≤ d ∧ d ≤ 9223372036854775807 ∧ b < hi ∧ lo ≤ b ∧ b ≠ g := by
  have hl := h.len
  have hr := h.num.row (i := i) (by omega)
  obtain ⟨b, d, e1, e2, e3, e4, e5, e6, e7, e8⟩ := h.rows.rowAt (getM? (M := M) (i := i) (by omega)) (by rw [hr.1]; exact hk)
  rw [hr.1] at e1 e4
  exact ⟨b, d, h.rows.cell e1, e1, e4, e5, h.lt i _ e1 b rfl, e6, e8 g rfl⟩
theorem MatB.cell (h : MatB w0 w lo hi g n c k vs M) {i j b d : Nat} (hv : vs[i]? = some (.slice (some ⟨b, 0, none⟩) k d)) (hi' : i < n) (hj : j < k) : w.cell? ⟨b, j, none⟩ = some (.int .i64 (atM M i j)) ∧ w.frozen? ⟨b, j, none⟩ = false ∧ 0 ≤ atM M i j ∧ atM M i j < 1000000271 := by
  have hl := h.len
  have hr := h.num.row (i := i) (by omega)
  have ha := at_num h.num (i := i) (by omega) hj
  obtain ⟨B, m, d', e1, e2, _⟩ := h.rows.row i _ (getM? (M := M) (i := i) (by omega))
  rw [hv] at e1
  injection e1 with e1
  injection e1 with e4 e5 e6
  subst e4 e5 e6
  refine ⟨?_, e2.frozenAt j, ha.2⟩
  rw [e2.cellAt j (by omega), List.getElem?_map, ha.1]
  rfl
theorem MatB.swap (h : MatB w0 w lo hi g n c k vs M) {i j : Nat} {u v : Value} (hu : vs[i]? = some u) (hv : vs[j]? = some v) (hi' : i < n) (hj : j < n) (hlo : lo ≤ g) :
    MatB w0 ((w.setCell ⟨g, i, none⟩ v).setCell ⟨g, j, none⟩ u) lo hi g n c k ((vs.set i v).set j u) (swapF M i j) := by
  have hl := h.len
  refine ⟨h.rows.swap hu hv, fun a y ha b hb => ?_, h.glt, h.num.swap (by omega) (by omega), (h.low.setCell hlo _).setCell hlo _⟩
  rcases List.mem_or_eq_of_mem_set (List.mem_of_getElem? ha) with hy | rfl
  · rcases List.mem_or_eq_of_mem_set hy with hy | rfl
    · obtain ⟨p, hp, e⟩ := List.getElem_of_mem hy
      exact h.lt p y (by rw [← e]; exact List.getElem?_eq_getElem hp) b hb
    · exact h.lt j _ hv b hb
  · exact h.lt i _ hu b hb
end
end Go.Proofs.YtkaepjigmcielaaGreatDoor
/- Rows pushed whole onto an outer slice; the plain solution of a system. -/
namespace Go.Proofs.YtkaepjigmcielaaGreatDoor
open Go.RowKit
set_option linter.unusedSimpArgs false
set_option linter.unusedVariables false
set_option maxRecDepth 20000

section
variable {w w' : World} {lo : Nat} {A : Option Addr} {n c : Nat} {vs : List Value} {xss : List (List Int)}
theorem RowsO.olt (h : RowsO w lo A n c vs xss) (j : Nat) (v : Value) (hv : vs[j]? = some v) (k : Nat) (hk : v.ownBlock = some k) : lo ≤ k ∧ k < w.heap.size := by
  have hj := (List.getElem?_eq_some_iff.1 hv).1
  have hvl := h.vlen
  have hl := h.len
  obtain ⟨B, m, d, e1, e2, _⟩ := h.row j _ (List.getElem?_eq_getElem (by omega))
  rw [hv] at e1
  injection e1 with e1
  subst e1
  exact e2.lt k hk
theorem RowsO.pushRow (h : RowsO w lo A n c vs xss) {B : Option Addr} {m d : Nat} {xs : List Int}
    (hr : w.ownsRow lo 3 1 (.slice B m d) m (xs.map (Value.int .i64))) (hR : ∀ x ∈ xs, R64 x) {hb : Nat}
    (hB : ∀ ad, B = some ad → hb ≤ ad.block) (hA : ∀ ad, A = some ad → ad.block < hb) (hvb : ∀ (j : Nat) (v : Value), vs[j]? = some v → ∀ b, v.ownBlock = some b → b < hb)
    {A' : Option Addr} {c' : Nat} (hap : Appended w lo 22 1 A n c A' (n + 1) c' (vs ++ [.slice B m d]) w') :
    RowsO w' lo A' (n + 1) c' (vs ++ [.slice B m d]) (xss ++ [xs]) := by
  obtain ⟨h1, h2, h3⟩ := hap
  have hvl := h.vlen
  have hvx : vs.length = xss.length := by rw [hvl, h.len]
  have hbw : ∀ k, (Value.slice B m d).ownBlock = some k → hb ≤ k ∧ k < w.heap.size := fun k hk => by
    obtain ⟨ad, rfl, rfl⟩ := ownBlock_eq.1 hk
    exact ⟨hB ad rfl, (owns_lt hr ad rfl).2⟩
  have hAb : ∀ k, oBlk A n c = some k → k < hb := fun k hk => by
    obtain ⟨ad, rfl, rfl⟩ := ownBlock_eq.1 hk
    exact hA ad rfl
  have nA : ∀ k, oBlk A' (n+1) c' = some k → oBlk A n c = some k ∨ w.heap.size ≤ k := by
    intro k hk
    obtain ⟨ad, rfl, had⟩ := ownBlock_eq.1 hk
    rcases h3 with h3 | h3
    · have := h3 ad rfl
      subst this
      exact .inl (by simp [Value.ownBlock, had])
    · exact .inr (by have := h3 ad rfl; omega)
  have sepA : ∀ v : Value, (v.ownBlock = none ∨ v.ownBlock ≠ oBlk A n c) → (∀ k, v.ownBlock = some k → k < w.heap.size) → v.ownBlock = none ∨ v.ownBlock ≠ oBlk A' (n+1) c' := by
    intro v hv hk
    cases hb2 : v.ownBlock with
    | none => exact .inl rfl
    | some k =>
      refine .inr fun e => ?_
      rcases nA k e.symm with e2 | e2
      · rcases hv with h5 | h5
        · rw [h5] at hb2; exact absurd hb2 (by simp)
        · exact h5 (hb2.trans e2.symm)
      · have := hk k hb2; omega
  have newA : (Value.slice B m d).ownBlock = none ∨ (Value.slice B m d).ownBlock ≠ oBlk A n c := by
    cases hb2 : (Value.slice B m d).ownBlock with
    | none => exact .inl rfl
    | some k => exact .inr fun e => by have := hAb k e.symm; have := (hbw k hb2).1; omega
  have hc : ∀ (j : Nat) (v : Value), (vs ++ [Value.slice B m d])[j]? = some v → (j < n ∧ vs[j]? = some v) ∨ (j = n ∧ v = .slice B m d) := by
    intro j v hj
    by_cases hl : j < n
    · rw [List.getElem?_append_left (by omega)] at hj
      exact .inl ⟨hl, hj⟩
    · have hlt := (List.getElem?_eq_some_iff.1 hj).1
      simp at hlt
      obtain rfl : j = n := by omega
      refine .inr ⟨rfl, ?_⟩
      rw [← hvl] at hj
      simpa using hj.symm
  refine ⟨h1, by simp [h.len], fun j ys hj => ?_, fun j v hj => ?_, fun i j u v hij hi hj => ?_⟩
  · by_cases hl : j < n
    · rw [List.getElem?_append_left (by have := h.len; omega)] at hj
      obtain ⟨B1, m1, d1, e1, e2, e3⟩ := h.row j ys hj
      exact ⟨B1, m1, d1, by rw [List.getElem?_append_left (by omega)]; exact e1, e2.kept h2 (h.sep j _ e1), e3⟩
    · have hlt := (List.getElem?_eq_some_iff.1 hj).1
      have hln := h.len
      simp at hlt
      obtain rfl : j = n := by omega
      obtain rfl : xs = ys := by rw [← hln] at hj; simpa using hj
      refine ⟨_, _, _, ?_, hr.kept h2 newA, hR⟩
      rw [← hvl]; simp
  · rcases hc j v hj with ⟨_, hv⟩ | ⟨_, rfl⟩
    · exact sepA v (h.sep j v hv) fun k hk => (h.olt j v hv k hk).2
    · exact sepA _ newA fun k hk => (hbw k hk).2
  · rcases hc i u hi with ⟨_, hu⟩ | ⟨hi1, rfl⟩
    · rcases hc j v hj with ⟨_, hv⟩ | ⟨_, rfl⟩
      · exact h.sep2 i j u v hij hu hv
      · cases hb2 : u.ownBlock with
        | none => exact .inl rfl
        | some k => exact .inr fun e => by have := (hbw k e.symm).1; have := hvb i u hu k hb2; omega
    · rcases hc j v hj with ⟨_, hv⟩ | ⟨hj1, rfl⟩
      · cases hb2 : (Value.slice B m d).ownBlock with
        | none => exact .inl rfl
        | some k => exact .inr fun e => by have := (hbw k hb2).1; have := hvb j v hv k e.symm; omega
      · omega
end

end Go.Proofs.YtkaepjigmcielaaGreatDoor
