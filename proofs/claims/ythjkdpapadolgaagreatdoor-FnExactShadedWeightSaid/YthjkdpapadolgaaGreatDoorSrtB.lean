/- slices.SortFunc on however many rows of integers by shadeAll's closure: the rows stand in descending order. -/
import Derived.Test.YthjkdpapadolgaaGreatDoorSrtW
namespace Go.Proofs.YthjkdpapadolgaaGreatDoor
open Go.RowKit
set_option linter.unusedSimpArgs false
set_option linter.unusedVariables false
set_option maxRecDepth 20000

theorem shade_closure (A : Option Addr) (n c : Nat) (xs : List Int) (lo hi : Nat) (B : Option Addr) (m d : Nat) (ys : List Int) (lo' hi' : Nat) (w : World) (h : Ints w lo hi A n c xs) (g : Ints w lo' hi' B m d ys) :
    Calls Tryz.prog 40 #[.slice A n c, .slice B m d] w fun e w' => e = .returned (.int .i64 (cmpF ys xs)) ∧ w = w' := by
  have hC := hide (slices_Compare B m d ys lo' hi' A n c xs lo hi w g h)
  clear h g
  go_enter Tryz.func40, Tryz.ntmps40
  go_wp2_with fail
  refine hC.out.mono ?_
  rintro e w' ⟨rfl, rfl⟩
  go_wp2_with fail
  go_ret
  exact ⟨rfl, rfl⟩

section
variable {w : World} {lo hi g : Nat}
theorem sort_rowsB {n c : Nat} {vs : List Value} {xss : List (List Int)} (hR : RowsI w lo hi (some ⟨g, 0, none⟩) n c vs xss) (hn : n ≤ 1000) (hh : hi ≤ w.heap.size) :
    Calls Tryz.prog 39 #[.slice (some ⟨g, 0, none⟩) n c, .func (.func 40) #[] #[]] w fun e w' =>
      e = .returned (.tuple #[]) ∧ ∃ vs', RowsI w' lo hi (some ⟨g, 0, none⟩) n c vs' (sortF xss) ∧ Touch g (g + 1) w w' := by
  have hg : g < hi := hR.lt _ rfl
  have hlg : lo ≤ g := (hR.own.lt g rfl).1
  have hvl := hR.vlen
  have hxl := hR.len
  haveI : Inhabited (RowV w lo hi g) := ⟨⟨none, 0, 0, [], hi, hi, Ints.nil_ _ _ _, by omega, Nat.le_refl _, .inr hg, by simp⟩⟩
  obtain ⟨ds, e1, e2⟩ := rowsV (w := w) (lo := lo) (hi := hi) (g := g) vs xss (by omega) (fun j xs hj => by
    obtain ⟨B, m, d, l, h, h1, h2, h3, h4, h5, h6⟩ := hR.row j xs hj
    exact ⟨B, m, d, l, h, h1, h2, h3, h4, h5 _ rfl, h6⟩)
  have hds : ds.length = n := by rw [← hvl, ← e1]; simp
  have eg : ∀ args w, (callFunc 40 args).run Tryz.prog w = .ok (.enter 40 args) w := enters_of Tryz.func40 (by kernel_rfl) rfl
  have hH : Go.Sort.Holds encV w g 0 ds.toArray := fun j hj => by
    have hj' : j < ds.length := by simpa using hj
    rw [Nat.zero_add, getElem!_pos ds.toArray j hj]
    refine ⟨(hR.own.cellAt j (by omega)).trans ?_, hR.own.frozenAt j⟩
    rw [← e1, List.getElem?_map, List.getElem?_eq_getElem hj']
    rfl
  have hcmp : CmpReads Tryz.prog 40 #[] (encV (w := w) (lo := lo) (hi := hi) (g := g)) cfV g 0 ds.toArray.size w := by
    intro m os dk hdk x y
    obtain ⟨l, h, hx, _, x1, x2, _⟩ := x.ok
    obtain ⟨l', h', hy, _, y1, y2, _⟩ := y.ok
    have hs : ∀ l h, h ≤ hi → (h ≤ g ∨ g < l) → Same l h w (sortWorld encV w g 0 m dk os) := fun l h h1 h2 k h3 h4 => by
      unfold sortWorld
      rw [Go.Sort.heap_grow_old _ _ (by simp [Go.Sort.size_putRow, Go.Sort.ahead]; omega), block_putRow _ _ _ _ _ _ (by omega)]
      rfl
    exact (shade_closure _ _ _ _ _ _ _ _ _ _ _ _ _ (hx.same (hs _ _ x1 x2)) (hy.same (hs _ _ y1 y2))).mono fun e w' ⟨h1, h2⟩ => ⟨h1, 0, h2.symm⟩
  have hS := Any.slices_SortFunc sh_sortL (encV (w := w) (lo := lo) (hi := hi) (g := g)) (fun _ => rfl) cfV swoV 40 #[] g 0 c ds.toArray w eg hcmp.lays hH (by omega) (by simp [hds]; omega)
  change Calls Tryz.prog 39 _ _ _ at hS
  rw [show ds.toArray.size = n by simpa using hds] at hS
  refine hS.mono fun e w' ⟨he, d', q, os, hp, hso, hw⟩ => ?_
  have hsz : d'.size = n := by have := hp.1; simpa [hds] using this
  have hperm : d'.toList.Perm ds := by
    have h3 := hp.2.2
    have a1 : d'.extract 0 n = d' := by rw [← hsz]; exact Array.extract_size
    have a2 : ds.toArray.extract 0 n = ds.toArray := by
      have := Array.extract_size (xs := ds.toArray)
      rwa [show ds.toArray.size = n by simpa using hds] at this
    rw [a1, a2] at h3
    exact h3
  have hdesc : Desc (d'.toList.map (·.xs)) := sortedIn_desc (by rw [hsz]; exact hso)
  have hxs : d'.toList.map (·.xs) = sortF xss := sort_unique (by rw [← e2]; exact hperm.map _) hdesc
  have hpz : ∀ k, k ≠ g → k < w.heap.size → w'.heap[k]? = w.heap[k]? := fun k hk hk2 => by
    rw [hw]
    unfold sortWorld
    rw [Go.Sort.heap_grow_old _ _ (by simp [Go.Sort.size_putRow, Go.Sort.ahead]; omega), block_putRow _ _ _ _ _ _ hk]
    rfl
  have hpg : w'.heap[g]? = (Go.Sort.putRow encV w g 0 d').heap[g]? := by
    rw [hw]
    unfold sortWorld
    rw [Go.Sort.heap_grow_old _ _ (by simp [Go.Sort.size_putRow, Go.Sort.ahead]; omega)]
    rfl
  have hpo : w'.os = w.os ∧ w'.tape = w.tape ∧ w'.output = w.output ∧ w.heap.size ≤ w'.heap.size := by
    rw [hw]
    refine ⟨rfl, rfl, rfl, ?_⟩
    simp [sortWorld, Go.Sort.grow, Go.Sort.size_putRow, Go.Sort.ahead]
  clear hw
  refine ⟨he, d'.toList.map encV, ?_, ?_⟩
  · refine ⟨owns_same (own_putRow encV hR.own d' hsz) (fun ad e => by injection e with e; subst e; exact hpg), fun ad e => hR.lt ad e, by rw [← hxs]; simp [hsz], fun j xs hj => ?_⟩
    rw [← hxs, List.getElem?_map] at hj
    cases hv : d'.toList[j]? with
    | none => rw [hv] at hj; cases hj
    | some v =>
      rw [hv] at hj
      injection hj with hj
      subst hj
      obtain ⟨l, h, h1, h2, h3, h4, h5⟩ := v.ok
      refine ⟨v.B, v.m, v.d, l, h, by rw [List.getElem?_map, hv]; rfl, h1.same (fun k h6 h7 => ?_), h2, h3, fun ad e => by injection e with e; subst e; exact h4, h5⟩
      exact hpz k (by omega) (by omega)
  · exact ⟨hpo.1, hpo.2.1, hpo.2.2.1, hpo.2.2.2, fun k hk hd => hpz k (by omega) hk⟩
end
end Go.Proofs.YthjkdpapadolgaaGreatDoor
