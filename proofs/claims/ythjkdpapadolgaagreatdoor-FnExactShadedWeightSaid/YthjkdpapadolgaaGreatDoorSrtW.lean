/- slices.SortFunc on a few rows of integers by the closure that compares them backwards: the rows stand in descending order. -/
import Derived.Test.YthjkdpapadolgaaGreatDoorSrtL
import Derived.Test.YthjkdpapadolgaaGreatDoorRowsW
import Derived.Test.YthjkdpapadolgaaGreatDoorCanQ
namespace Go.Proofs.YthjkdpapadolgaaGreatDoor
open Go.RowKit
set_option linter.unusedSimpArgs false
set_option linter.unusedVariables false
set_option maxRecDepth 20000

theorem sorted_closure (A : Option Addr) (n c : Nat) (xs : List Int) (lo hi : Nat) (B : Option Addr) (m d : Nat) (ys : List Int) (lo' hi' : Nat) (w : World) (h : Ints w lo hi A n c xs) (g : Ints w lo' hi' B m d ys) :
    Calls Tryz.prog 59 #[.slice A n c, .slice B m d] w fun e w' => e = .returned (.int .i64 (cmpF ys xs)) ∧ w = w' := by
  have hC := hide (slices_Compare B m d ys lo' hi' A n c xs lo hi w g h)
  clear h g
  go_enter Tryz.func59, Tryz.ntmps59
  go_wp2_with fail
  refine hC.out.mono ?_
  rintro e w' ⟨rfl, rfl⟩
  go_wp2_with fail
  go_ret
  exact ⟨rfl, rfl⟩

theorem bits_len (n : Nat) (W : World) (h : n ≤ 12) : Calls Tryz.prog 61 #[.int .u64 n] W fun e w' => (∃ l : Int, e = .returned (.int .i64 l)) ∧ w' = W :=
  (Any.bits_Len sh_bitsLen n W (by omega) (by omega)).mono fun _ _ ⟨he, hw⟩ => ⟨⟨_, he⟩, hw⟩

/-- A row as the sort sees it. -/
structure RowV (w : World) (lo hi g : Nat) where
  B : Option Addr
  m : Nat
  d : Nat
  xs : List Int
  ok : ∃ l h, Ints w l h B m d xs ∧ lo ≤ l ∧ h ≤ hi ∧ (h ≤ g ∨ g < l) ∧ ∀ ad, B = some ad → ad = ⟨ad.block, 0, none⟩
def encV {w : World} {lo hi g : Nat} (v : RowV w lo hi g) : Value := .slice v.B v.m v.d
def cfV {w : World} {lo hi g : Nat} (x y : RowV w lo hi g) : Int := cmpF y.xs x.xs

section
variable {w : World} {lo hi g : Nat}
theorem ltV (x y : RowV w lo hi g) : ltOf cfV x y = lessF y.xs x.xs := cmp_neg _ _
theorem swoV : Go.Sort.SWO (ltOf (cfV (w := w) (lo := lo) (hi := hi) (g := g))) where
  irrefl x := by rw [ltV]; exact less_irrefl _
  trans x y z h1 h2 := by rw [ltV] at *; exact less_trans h2 h1
  ntrans x y z h1 h2 := by rw [ltV] at *; exact less_ntrans h2 h1

theorem rowsV : ∀ (vs : List Value) (xss : List (List Int)), vs.length = xss.length →
    (∀ (j : Nat) (xs : List Int), xss[j]? = some xs → ∃ (B : Option Addr) (m d l h : Nat), vs[j]? = some (Value.slice B m d) ∧ Ints w l h B m d xs ∧ lo ≤ l ∧ h ≤ hi ∧ (h ≤ g ∨ g < l) ∧ ∀ ad, B = some ad → ad = ⟨ad.block, 0, none⟩) →
    ∃ ds : List (RowV w lo hi g), ds.map encV = vs ∧ ds.map (·.xs) = xss
  | [], [], _, _ => ⟨[], rfl, rfl⟩
  | v :: vs, x :: xss, hl, h => by
    obtain ⟨ds, e1, e2⟩ := rowsV vs xss (by simpa using hl) (fun j xs hj => by
      obtain ⟨B, m, d, l, h, h1, h2⟩ := h (j + 1) xs (by simpa using hj)
      exact ⟨B, m, d, l, h, by simpa using h1, h2⟩)
    obtain ⟨B, m, d, l, h, h1, h2⟩ := h 0 x rfl
    have h1' : v = .slice B m d := by simpa using h1
    exact ⟨⟨B, m, d, x, l, h, h2⟩ :: ds, by rw [List.map_cons, e1, h1']; rfl, by rw [List.map_cons, e2]⟩

theorem block_putRow {α : Type} [Inhabited α] (enc : α → Value) (w : World) (b off : Nat) (d : Array α) (k : Nat) (hk : k ≠ b) : (Go.Sort.putRow enc w b off d).heap[k]? = w.heap[k]? := by
  simp [Go.Sort.putRow, Go.Sort.mapBlock, Array.getElem?_modify, Ne.symm hk]

theorem own_putRow {α : Type} [Inhabited α] (enc : α → Value) {w : World} {lo e g n c : Nat} {vs : List Value} (h : w.ownsRow lo e 1 (.slice (some ⟨g, 0, none⟩) n c) n vs) (d : Array α) (hd : d.size = n) :
    (Go.Sort.putRow enc w g 0 d).ownsRow lo e 1 (.slice (some ⟨g, 0, none⟩) n c) n (d.toList.map enc) := by
  refine ⟨by simp [hd], ?_⟩
  rcases h.2 with ⟨h', _⟩ | ⟨g', cap, cur, h', hb, hg, hnc, hcm, hcs, htake⟩
  · simp at h'
  · have e1 := h'
    simp only [Value.slice.injEq, Option.some.injEq, Addr.mk.injEq, and_true, true_and] at e1
    obtain ⟨rfl, rfl⟩ := e1
    refine .inr ⟨g, c, Go.Sort.putCells enc 0 d cur, rfl, hb, ?_, hnc, hcm, by simpa [Go.Sort.putCells] using hcs, ?_⟩
    · simp [Go.Sort.putRow, Go.Sort.mapBlock, Array.getElem?_modify, hg, Go.Sort.onCells]
    · apply List.ext_getElem?
      intro j
      rw [List.getElem?_take]
      by_cases hj : j < n
      · rw [if_pos (by omega), Array.getElem?_toList]
        simp only [Go.Sort.putCells, Array.getElem?_mapIdx]
        rw [Array.getElem?_eq_getElem (by omega), Option.map_some, if_pos ⟨Nat.zero_le _, by omega⟩]
        rw [Nat.sub_zero, getElem!_pos d j (by omega)]
        simp [hd, hj]
      · rw [if_neg (by omega), List.getElem?_eq_none (by simp; omega)]

theorem sortedIn_desc [Inhabited (RowV w lo hi g)] {d : Array (RowV w lo hi g)} (h : Go.Sort.SortedIn (ltOf cfV) 0 d.size d) : Desc (d.toList.map (·.xs)) := by
  unfold Desc
  rw [List.pairwise_map, List.pairwise_iff_getElem]
  intro i j hi hj hij
  have := h i j (Nat.zero_le _) hij (by simpa using hj)
  rw [ltV, getElem!_pos d i (by simpa using hi), getElem!_pos d j (by simpa using hj)] at this
  simpa using this

theorem sort_rows {n c : Nat} {vs : List Value} {xss : List (List Int)} (hR : RowsI w lo hi (some ⟨g, 0, none⟩) n c vs xss) (hn : n ≤ 12) (hh : hi ≤ w.heap.size) :
    Calls Tryz.prog 39 #[.slice (some ⟨g, 0, none⟩) n c, .func (.func 59) #[] #[]] w fun e w' =>
      e = .returned (.tuple #[]) ∧ ∃ vs', RowsI w' lo hi (some ⟨g, 0, none⟩) n c vs' (sortF xss) ∧ Touch g (g + 1) w w' := by
  have hg : g < hi := hR.lt _ rfl
  have hlg : lo ≤ g := (hR.own.lt g rfl).1
  have hvl := hR.vlen
  have hxl := hR.len
  haveI : Inhabited (RowV w lo hi g) := ⟨⟨none, 0, 0, [], hi, hi, Ints.nil_ _ _ _, by omega, Nat.le_refl _, .inr hg, by simp⟩⟩
  obtain ⟨ds, e1, e2⟩ := rowsV (w := w) (lo := lo) (hi := hi) (g := g) vs xss (by omega) (fun j xs hj => by
    obtain ⟨B, m, d, l, h, h1, h2, h3, h4, h5, h6⟩ := hR.row j xs hj
    exact ⟨B, m, d, l, h, h1, h2, h3, h4, h5 _ rfl, h6⟩)
  have hds : ds.length = n := by rw [← hvl, ← e1]; simp
  have eg : ∀ args w, (callFunc 59 args).run Tryz.prog w = .ok (.enter 59 args) w := enters_of Tryz.func59 (by kernel_rfl) rfl
  have hH : Go.Sort.Holds encV w g 0 ds.toArray := fun j hj => by
    have hj' : j < ds.length := by simpa using hj
    rw [Nat.zero_add, getElem!_pos ds.toArray j hj]
    refine ⟨(hR.own.cellAt j (by omega)).trans ?_, hR.own.frozenAt j⟩
    rw [← e1, List.getElem?_map, List.getElem?_eq_getElem hj']
    rfl
  have hcmp : CmpReads Tryz.prog 59 #[] (encV (w := w) (lo := lo) (hi := hi) (g := g)) cfV g 0 ds.toArray.size w := by
    intro m os dk hdk x y
    obtain ⟨l, h, hx, _, x1, x2, _⟩ := x.ok
    obtain ⟨l', h', hy, _, y1, y2, _⟩ := y.ok
    have hs : ∀ l h, h ≤ hi → (h ≤ g ∨ g < l) → Same l h w (sortWorld encV w g 0 m dk os) := fun l h h1 h2 k h3 h4 => by
      unfold sortWorld
      rw [Go.Sort.heap_grow_old _ _ (by simp [Go.Sort.size_putRow, Go.Sort.ahead]; omega), block_putRow _ _ _ _ _ _ (by omega)]
      rfl
    exact (sorted_closure _ _ _ _ _ _ _ _ _ _ _ _ _ (hx.same (hs _ _ x1 x2)) (hy.same (hs _ _ y1 y2))).mono fun e w' ⟨h1, h2⟩ => ⟨h1, 0, h2.symm⟩
  have hS := Any.slices_SortFunc_small_sorted sh_sortL (encV (w := w) (lo := lo) (hi := hi) (g := g)) (fun _ => rfl) cfV swoV 59 #[] g 0 c ds.toArray w eg hcmp hH (by simpa [hds] using hn) bits_len
  change Calls Tryz.prog 39 _ _ _ at hS
  rw [show ds.toArray.size = n by simpa using hds] at hS
  refine hS.mono fun e w' ⟨he, d', q, hp, hso, hw⟩ => ?_
  have hsz : d'.size = n := by have := hp.1; simpa [hds] using this
  have hperm : d'.toList.Perm ds := by
    have h3 := hp.2.2
    have a1 : d'.extract 0 n = d' := by rw [← hsz]; exact Array.extract_size
    have a2 : ds.toArray.extract 0 n = ds.toArray := by
      have := Array.extract_size (xs := ds.toArray)
      rwa [show ds.toArray.size = n by simpa using hds] at this
    rw [a1, a2] at h3
    exact h3
  have hdesc : Desc (d'.toList.map (·.xs)) := sortedIn_desc (by rw [hsz]; exact hso)
  have hxs : d'.toList.map (·.xs) = sortF xss := sort_unique (by rw [← e2]; exact hperm.map _) hdesc
  subst hw
  refine ⟨he, d'.toList.map encV, ?_, ?_⟩
  · refine ⟨own_putRow encV hR.own d' hsz, fun ad e => hR.lt ad e, by rw [← hxs]; simp [hsz], fun j xs hj => ?_⟩
    rw [← hxs, List.getElem?_map] at hj
    cases hv : d'.toList[j]? with
    | none => rw [hv] at hj; cases hj
    | some v =>
      rw [hv] at hj
      injection hj with hj
      subst hj
      obtain ⟨l, h, h1, h2, h3, h4, h5⟩ := v.ok
      refine ⟨v.B, v.m, v.d, l, h, by rw [List.getElem?_map, hv]; rfl, h1.same (fun k h6 h7 => ?_), h2, h3, fun ad e => by injection e with e; subst e; exact h4, h5⟩
      exact block_putRow encV w g 0 d' k (by omega)
  · refine ⟨rfl, rfl, rfl, by simp [World.drewN, Go.Sort.size_putRow], fun k hk hd => ?_⟩
    exact block_putRow encV w g 0 d' k (by omega)
end
end Go.Proofs.YthjkdpapadolgaaGreatDoor
