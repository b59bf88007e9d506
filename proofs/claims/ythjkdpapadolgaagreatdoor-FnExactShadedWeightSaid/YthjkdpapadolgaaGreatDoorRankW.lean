/- slices.Sort on integers; the number of a plain tree, whatever the variable treeRows holds. -/
import Derived.Test.YthjkdpapadolgaaGreatDoorSrG
import Derived.Test.YthjkdpapadolgaaGreatDoorShlL
import Derived.Test.YthjkdpapadolgaaGreatDoorSym
import Derived.Test.YthjkdpapadolgaaGreatDoorCompW
import Derived.Shelf.Slices.In.SortNone
namespace Go.Proofs.YthjkdpapadolgaaGreatDoor
open Go.RowKit
set_option linter.unusedSimpArgs false
set_option linter.unusedVariables false
set_option maxRecDepth 20000

theorem insI_perm (x : Int) : ∀ l : List Int, (insI x l).Perm (x :: l)
  | [] => List.Perm.refl _
  | y :: r => by
    rw [insI]
    split
    · exact List.Perm.refl _
    · exact ((insI_perm x r).cons y).trans (List.Perm.swap x y r)
theorem sortI_perm : ∀ l : List Int, (sortI l).Perm l
  | [] => List.Perm.refl _
  | x :: r => (insI_perm x _).trans ((sortI_perm r).cons x)
theorem insI_sorted (x : Int) : ∀ l : List Int, l.Pairwise (· ≤ ·) → (insI x l).Pairwise (· ≤ ·)
  | [], _ => by simp [insI]
  | y :: r, h => by
    have h' := List.pairwise_cons.1 h
    rw [insI]
    split
    · rename_i hxy
      refine List.pairwise_cons.2 ⟨fun z hz => ?_, h⟩
      rcases List.mem_cons.1 hz with rfl | hz
      · exact hxy
      · have := h'.1 z hz
        omega
    · rename_i hxy
      refine List.pairwise_cons.2 ⟨fun z hz => ?_, insI_sorted x r h'.2⟩
      have := (insI_perm x r).mem_iff.1 hz
      rcases List.mem_cons.1 this with rfl | hz
      · omega
      · exact h'.1 z hz
theorem sortI_sorted : ∀ l : List Int, (sortI l).Pairwise (· ≤ ·)
  | [] => List.Pairwise.nil
  | x :: r => insI_sorted x _ (sortI_sorted r)
theorem merge_sortI (l : List Int) : (l.mergeSort fun x y => decide (x ≤ y)) = sortI l := by
  have h1 : (l.mergeSort fun x y => decide (x ≤ y)).Pairwise (· ≤ ·) := by
    have := List.pairwise_mergeSort (le := fun x y : Int => decide (x ≤ y)) (fun a b c h1 h2 => by simp at *; omega) (fun a b => by simp; omega) l
    exact this.imp fun h => by simpa using h
  exact List.Perm.eq_of_pairwise (fun a b _ _ h1 h2 => by omega) h1 (sortI_sorted l) ((List.mergeSort_perm l _).trans (sortI_perm l).symm)

theorem sort_ints {w : World} {lo hi n c : Nat} {A : Option Addr} {xs : List Int} (h : OwnI w lo hi A n c xs) (hn : n ≤ 1000) :
    Calls Tryz.prog 47 #[.slice A n c] w fun e w' => e = .returned (.tuple #[]) ∧ OwnI w' lo hi A n c (sortI xs) ∧ Touch lo hi w w' := by
  rcases Nat.eq_zero_or_pos n with h0 | h0
  · subst h0
    obtain rfl : xs = [] := by have := h.len; simpa using this
    have hS := Any.slices_Sort_int_none sh_sortI A c w
    change Calls Tryz.prog 47 _ _ _ at hS
    exact hS.mono fun e w' ⟨he, hw⟩ => by
      subst hw
      exact ⟨he, h, .refl _ _ _⟩
  · obtain ⟨g, rfl, hg1, hg2, hg3⟩ := h.form h0
    have hl := h.len
    have hS := Any.slices_Sort_int sh_sortI g 0 c xs w (fun j hj => by
      have hj' : j < xs.length := by simpa using hj
      rw [Nat.zero_add, getElem!_pos xs.toArray j hj]
      refine ⟨(h.own.cellAt j (by omega)).trans ?_, h.own.frozenAt j⟩
      rw [List.getElem?_map, List.getElem?_eq_getElem hj']
      rfl) hg3 (by omega)
    change Calls Tryz.prog 47 _ _ _ at hS
    rw [hl, merge_sortI] at hS
    refine hS.mono fun e w' ⟨he, q, os, hw⟩ => ?_
    have hsl : (sortI xs).toArray.size = n := by simpa using (sortI_perm xs).length_eq.trans hl
    have hpz : ∀ k, k ≠ g → k < w.heap.size → w'.heap[k]? = w.heap[k]? := fun k hk hk2 => by
      rw [hw, Go.Sort.heap_grow_old _ _ (by simp [Go.Sort.size_putRow, Go.Sort.ahead]; omega), block_putRow _ _ _ _ _ _ hk]
      rfl
    have hpg : w'.heap[g]? = (Go.Sort.putRow (Value.int .i64) w g 0 (sortI xs).toArray).heap[g]? := by
      rw [hw, Go.Sort.heap_grow_old _ _ (by simp [Go.Sort.size_putRow, Go.Sort.ahead]; omega)]
      rfl
    have hpo : w'.os = w.os ∧ w'.tape = w.tape ∧ w'.output = w.output ∧ w.heap.size ≤ w'.heap.size := by
      rw [hw]
      refine ⟨rfl, rfl, rfl, ?_⟩
      simp [Go.Sort.grow, Go.Sort.size_putRow, Go.Sort.ahead]
    clear hw
    have hop := own_putRow (Value.int .i64) h.own (sortI xs).toArray hsl
    refine ⟨he, ⟨?_, h.lt, fun x hx => h.rng x ((sortI_perm xs).mem_iff.1 hx)⟩, hpo.1, hpo.2.1, hpo.2.2.1, hpo.2.2.2, fun k hk hd => hpz k (by omega) hk⟩
    exact owns_same hop fun ad e => by injection e with e; subst e; exact hpg

/-- the variable treeRows holds rows that can be read, in blocks below B -/
structure TreeV (B : Nat) (w : World) : Prop where
  lt : 0 < B
  rows : ∃ A n c xss, w.cell? ⟨0, 0, none⟩ = some (.slice A n c) ∧ Ints2 w 0 B A n c xss
theorem TreeV.same {B : Nat} {w w' : World} (h : TreeV B w) (hs : Same 0 B w w') : TreeV B w' := by
  obtain ⟨A, n, c, xss, h1, h2⟩ := h.rows
  exact ⟨h.lt, A, n, c, xss, (hs.cell (p := ⟨0, 0, none⟩) (Nat.zero_le _) h.lt).trans h1, h2.same hs⟩
theorem TreeV.below {B B' : Nat} {w w' : World} (h : TreeV B w) (hb : Below B' w w') (hB : B ≤ B') : TreeV B w' := h.same (.of_below hb hB)

/-- the closure that holds a row against the list that it captured -/
theorem rank_closure (A : Option Addr) (n c : Nat) (xs : List Int) (lo hi b : Nat) (B : Option Addr) (m d : Nat) (l : List Int) (lo' hi' : Nat) (w : World) (h : Ints w lo hi A n c xs) (hb : w.cell? ⟨b, 0, none⟩ = some (.slice B m d)) (g : Ints w lo' hi' B m d l) :
    Calls Tryz.prog 84 #[.slice A n c, .pointer (some ⟨b, 0, none⟩)] w fun e w' => e = .returned (.bool (decide (xs = l))) ∧ ∃ q, w' = w.drewN q := by
  have hE := hide (slices_Equal A n c xs lo hi B m d l lo' hi' w h g)
  clear h g
  go_enter Tryz.func84, Tryz.ntmps84
  go_wp2_with fail
  refine hE.out.mono ?_
  rintro e w1 ⟨rfl, q, rfl⟩
  go_wp2_with fail
  go_ret
  exact ⟨rfl, q, rfl⟩

theorem lib_IndexRows (A : Option Addr) (n c : Nat) (xss : List (List Int)) (lo hi b : Nat) (B : Option Addr) (m d : Nat) (l : List Int) (lo' hi' : Nat) (w : World) (h : Ints2 w lo hi A n c xss) (hb : w.cell? ⟨b, 0, none⟩ = some (.slice B m d)) (g : Ints w lo' hi' B m d l) :
    Calls Tryz.prog 83 #[.slice A n c, .func (.func 84) #[] #[.pointer (some ⟨b, 0, none⟩)]] w fun e w' => (∃ r : Int, e = .returned (.int .i64 r) ∧ R64 r) ∧ ∃ q, w' = w.drewN q := by
  have hcp := h.cap
  have hm := h.max
  have hC := hide fun (A : Option Addr) (n c : Nat) (xs : List Int) (q : Nat) (h : Ints w lo hi A n c xs) => rank_closure A n c xs lo hi b B m d l lo' hi' (w.drewN q) (h.same (fun _ _ _ => rfl)) hb (g.same (fun _ _ _ => rfl))
  clear hb g
  go_enter Tryz.func83, Tryz.ntmps83
  go_wp2_with fail
  go_loopw [5, 8] (fun _ i wr => ∃ (k q : Nat), k ≤ n ∧ i = .int .i64 k ∧ wr = w.drewN q) (fun _ i _ => n - (intOf i).toNat)
  case atStart => exact ⟨0, 0, by omega, rfl, rfl⟩
  case round =>
    obtain ⟨k, q, hk, rfl, rfl⟩ := hrel
    by_cases hlt : k < n
    · obtain ⟨ad, A1, n1, c1, xs, rfl, hc, hI, _, _⟩ := h.at_ hlt
      have hc' : (w.drewN q).cell? (ad.add k) = some (.slice A1 n1 c1) := hc
      have hcall := hide (hC.out A1 n1 c1 xs q hI)
      clear hI hC
      by_cases hxl : xs = l
      · go_wp2_with fail
        refine hcall.out.mono ?_
        rintro e w1 ⟨rfl, q1, rfl⟩
        rw [decide_eq_true hxl]
        go_wp2_with fail
        go_ret
        exact ⟨⟨(k : Int), rfl, by constructor <;> omega⟩, _, rfl⟩
      · go_wp2_with fail
        refine hcall.out.mono ?_
        rintro e w1 ⟨rfl, q1, rfl⟩
        rw [decide_eq_false hxl]
        go_wp2_with fail
        go_roundw
        case rel => exact ⟨k + 1, q + q1, by omega, by go_num, rfl⟩
        case measure => simp [intOf]; omega
    · obtain rfl : k = n := by omega
      go_wp2_with fail
      go_ret
      exact ⟨⟨-1, rfl, by constructor <;> omega⟩, q, rfl⟩

theorem impl_rankCanonical (B : Nat) (A : Option Addr) (n c : Nat) (l : List Int) (lo hi : Nat) (w : World) (hT : TreeV B w) (hB : B ≤ w.heap.size) (h : Ints w lo hi A n c l) (hh : hi ≤ w.heap.size) :
    Calls Tryz.prog 63 #[.slice A n c] w fun e w' => (∃ r : Int, e = .returned (.int .i64 r) ∧ R64 r) ∧ Below w.heap.size w w' := by
  have ba := below_alloc w (.cells #[.slice A n c] 22)
  obtain ⟨A', n', c', xss, hc, h2⟩ := (hT.below ba hB).rows
  have hI := hide (lib_IndexRows A' n' c' xss 0 B w.heap.size A n c l lo hi (w.alloc (.cells #[.slice A n c] 22)) h2 (by simp) (h.below ba hh))
  clear h2 h
  go_enter Tryz.func63, Tryz.ntmps63
  go_wp2_with fail
  refine hI.out.mono ?_
  rintro e w1 ⟨⟨r, rfl, hr⟩, q, rfl⟩
  have HB := hide (below_drewN ba q)
  go_wp2_with fail
  go_ret
  exact ⟨⟨r, rfl, hr⟩, HB.out⟩

theorem impl_rankOf (B gw n c : Nat) (l : List Int) (lo hi : Nat) (w : World) (hT : TreeV B w) (hB : B ≤ w.heap.size) (h : Ints w lo hi (some ⟨gw, 0, none⟩) n c l) (hh : hi ≤ w.heap.size) (hl : okG 4 1 l = true) (hl4 : l.length ≤ 4) :
    Calls Tryz.prog 44 #[.slice (some ⟨gw, 0, none⟩) n c] w fun e w' => (∃ r : Int, e = .returned (.int .i64 r) ∧ R64 r) ∧ Below w.heap.size w w' := by
  have hS := hide (impl_sortedG 1 (by omega) (by omega) 4 gw n c l lo hi w h hh hl hl4)
  have HT := hide hT
  clear h hl hT
  go_enter Tryz.func44, Tryz.ntmps44
  go_wp2_with fail
  refine hS.out.mono ?_
  rintro e w1 ⟨g1, c1, rfl, o1, b1⟩
  have z1 := b1.size
  have hR := hide (impl_rankCanonical B (some ⟨g1, 0, none⟩) n c1 _ _ _ w1 (HT.out.below b1 hB) (by omega) o1.ints (Nat.le_refl _))
  have HB1 := hide b1
  clear o1 b1 hS HT
  go_wp2_with fail
  refine hR.out.mono ?_
  rintro e w2 ⟨⟨r, rfl, hr⟩, b2⟩
  have HB2 := hide (HB1.out.trans (b2.mono z1))
  clear b2
  go_wp2_with fail
  go_ret
  exact ⟨⟨r, rfl, hr⟩, HB2.out⟩
end Go.Proofs.YthjkdpapadolgaaGreatDoor
