/- slices.SortFunc on however many rows of integers by shadeAll's closure: the rows stand in descending order. -/
import Derived.Test.YtkaepjigmcielaaGreatDoorMzN
import Derived.Test.YtkaepjigmcielaaGreatDoorMzQ
import Derived.Test.YtkaepjigmcielaaGreatDoorMzC
namespace Go.Proofs.YtkaepjigmcielaaGreatDoor
open Go.RowKit
set_option linter.unusedSimpArgs false
set_option linter.unusedVariables false
set_option maxRecDepth 20000

theorem shade_closure (A : Option Addr) (n c : Nat) (xs : List Int) (lo hi : Nat) (B : Option Addr) (m d : Nat) (ys : List Int) (lo' hi' : Nat) (w : World) (h : Ints w lo hi A n c xs) (g : Ints w lo' hi' B m d ys) :
    Calls Tryz.prog 64 #[.slice A n c, .slice B m d] w fun e w' => e = .returned (.int .i64 (cmpF ys xs)) ∧ w = w' := by
  have hC := hide (slices_Compare B m d ys lo' hi' A n c xs lo hi w g h)
  clear h g
  go_enter Tryz.func64, Tryz.ntmps64
  go_wp2_with fail
  refine hC.out.mono ?_
  rintro e w' ⟨rfl, rfl⟩
  go_wp2_with fail
  go_ret
  exact ⟨rfl, rfl⟩

section
variable {w : World} {lo hi g : Nat}
theorem sort_rowsB {n c : Nat} {vs : List Value} {xss : List (List Int)} (hR : RowsI w lo hi (some ⟨g, 0, none⟩) n c vs xss) (hn : n ≤ 1000) (hh : hi ≤ w.heap.size) :
    Calls Tryz.prog 63 #[.slice (some ⟨g, 0, none⟩) n c, .func (.func 64) #[] #[]] w fun e w' =>
      e = .returned (.tuple #[]) ∧ ∃ vs', RowsI w' lo hi (some ⟨g, 0, none⟩) n c vs' (sortF xss) ∧ Touch g (g + 1) w w' := by
  have hg : g < hi := hR.lt _ rfl
  have hlg : lo ≤ g := (hR.own.lt g rfl).1
  have hvl := hR.vlen
  have hxl := hR.len
  haveI : Inhabited (RowV w lo hi g) := ⟨⟨none, 0, 0, [], hi, hi, Ints.nil_ _ _ _, by omega, Nat.le_refl _, .inr hg, by simp⟩⟩
  obtain ⟨ds, e1, e2⟩ := rowsV (w := w) (lo := lo) (hi := hi) (g := g) vs xss (by omega) (fun j xs hj => by
    obtain ⟨B, m, d, l, h, h1, h2, h3, h4, h5, h6⟩ := hR.row j xs hj
    exact ⟨B, m, d, l, h, h1, h2, h3, h4, h5 _ rfl, h6⟩)
  have hds : ds.length = n := by rw [← hvl, ← e1]; simp
  have eg : ∀ args w, (callFunc 64 args).run Tryz.prog w = .ok (.enter 64 args) w := enters_of Tryz.func64 (by kernel_rfl) rfl
  have hH : Go.Sort.Holds encV w g 0 ds.toArray := fun j hj => by
    have hj' : j < ds.length := by simpa using hj
    rw [Nat.zero_add, getElem!_pos ds.toArray j hj]
    refine ⟨(hR.own.cellAt j (by omega)).trans ?_, hR.own.frozenAt j⟩
    rw [← e1, List.getElem?_map, List.getElem?_eq_getElem hj']
    rfl
  have hcmp : CmpReads Tryz.prog 64 #[] (encV (w := w) (lo := lo) (hi := hi) (g := g)) cfV g 0 ds.toArray.size w := by
    intro m os dk hdk x y
    obtain ⟨l, h, hx, _, x1, x2, _⟩ := x.ok
    obtain ⟨l', h', hy, _, y1, y2, _⟩ := y.ok
    have hs : ∀ l h, h ≤ hi → (h ≤ g ∨ g < l) → Same l h w (sortWorld encV w g 0 m dk os) := fun l h h1 h2 k h3 h4 => by
      unfold sortWorld
      rw [Go.Sort.heap_grow_old _ _ (by simp [Go.Sort.size_putRow, Go.Sort.ahead]; omega), block_putRow _ _ _ _ _ _ (by omega)]
      rfl
    exact (shade_closure _ _ _ _ _ _ _ _ _ _ _ _ _ (hx.same (hs _ _ x1 x2)) (hy.same (hs _ _ y1 y2))).mono fun e w' ⟨h1, h2⟩ => ⟨h1, 0, h2.symm⟩
  have hS := Any.slices_SortFunc sh_sortL (encV (w := w) (lo := lo) (hi := hi) (g := g)) (fun _ => rfl) cfV swoV 64 #[] g 0 c ds.toArray w eg hcmp.lays hH (by omega) (by simp [hds]; omega)
  change Calls Tryz.prog 63 _ _ _ at hS
  rw [show ds.toArray.size = n by simpa using hds] at hS
  refine hS.mono fun e w' ⟨he, d', q, os, hp, hso, hw⟩ => ?_
  have hsz : d'.size = n := by have := hp.1; simpa [hds] using this
  have hperm : d'.toList.Perm ds := by
    have h3 := hp.2.2
    have a1 : d'.extract 0 n = d' := by rw [← hsz]; exact Array.extract_size
    have a2 : ds.toArray.extract 0 n = ds.toArray := by
      have := Array.extract_size (xs := ds.toArray)
      rwa [show ds.toArray.size = n by simpa using hds] at this
    rw [a1, a2] at h3
    exact h3
  have hdesc : Desc (d'.toList.map (·.xs)) := sortedIn_desc (by rw [hsz]; exact hso)
  have hxs : d'.toList.map (·.xs) = sortF xss := sort_unique (by rw [← e2]; exact hperm.map _) hdesc
  have hpz : ∀ k, k ≠ g → k < w.heap.size → w'.heap[k]? = w.heap[k]? := fun k hk hk2 => by
    rw [hw]
    unfold sortWorld
    rw [Go.Sort.heap_grow_old _ _ (by simp [Go.Sort.size_putRow, Go.Sort.ahead]; omega), block_putRow _ _ _ _ _ _ hk]
    rfl
  have hpg : w'.heap[g]? = (Go.Sort.putRow encV w g 0 d').heap[g]? := by
    rw [hw]
    unfold sortWorld
    rw [Go.Sort.heap_grow_old _ _ (by simp [Go.Sort.size_putRow, Go.Sort.ahead]; omega)]
    rfl
  have hpo : w'.os = w.os ∧ w'.tape = w.tape ∧ w'.output = w.output ∧ w.heap.size ≤ w'.heap.size := by
    rw [hw]
    refine ⟨rfl, rfl, rfl, ?_⟩
    simp [sortWorld, Go.Sort.grow, Go.Sort.size_putRow, Go.Sort.ahead]
  clear hw
  refine ⟨he, d'.toList.map encV, ?_, ?_⟩
  · refine ⟨owns_same (own_putRow encV hR.own d' hsz) (fun ad e => by injection e with e; subst e; exact hpg), fun ad e => hR.lt ad e, by rw [← hxs]; simp [hsz], fun j xs hj => ?_⟩
    rw [← hxs, List.getElem?_map] at hj
    cases hv : d'.toList[j]? with
    | none => rw [hv] at hj; cases hj
    | some v =>
      rw [hv] at hj
      injection hj with hj
      subst hj
      obtain ⟨l, h, h1, h2, h3, h4, h5⟩ := v.ok
      refine ⟨v.B, v.m, v.d, l, h, by rw [List.getElem?_map, hv]; rfl, h1.same (fun k h6 h7 => ?_), h2, h3, fun ad e => by injection e with e; subst e; exact h4, h5⟩
      exact hpz k (by omega) (by omega)
  · exact ⟨hpo.1, hpo.2.1, hpo.2.2.1, hpo.2.2.2, fun k hk hd => hpz k (by omega) hk⟩
end
end Go.Proofs.YtkaepjigmcielaaGreatDoor
/- The row of shades under construction: what it holds; placeOf. -/
namespace Go.Proofs.YtkaepjigmcielaaGreatDoor
open Go.RowKit
set_option linter.unusedSimpArgs false
set_option linter.unusedVariables false
set_option maxRecDepth 20000

/-- what is known of a shaded tree, as it lies in memory -/
structure Sh where
  B : Option Addr
  m : Nat
  d : Nat
  l : List Int
  plain : Int
  C : Option Addr
  k : Nat
  f : Nat
  bs : List Int
  sy : Int
instance : Inhabited Sh := ⟨⟨none, 0, 0, [], 0, none, 0, 0, [], 0⟩⟩
def Sh.cells (e : Sh) : List Value := [.slice e.B e.m e.d, .int .i64 e.plain, .slice e.C e.k e.f, .int .i64 e.sy]
def Sh.key (e : Sh) : List Int × List Int × Int := (e.l, e.bs, e.sy)

theorem shc_at (es : List Sh) : ∀ (j : Nat) (e : Sh), es[j]? = some e → ∀ i v, e.cells[i]? = some v → (es.flatMap Sh.cells)[j * 4 + i]? = some v := by
  induction es with
  | nil => intro j m h; simp at h
  | cons q r ih =>
    intro j m h i v hv
    cases j with
    | zero =>
      simp at h
      subst h
      rw [List.flatMap_cons, Nat.zero_mul, Nat.zero_add, List.getElem?_append_left (List.getElem?_eq_some_iff.1 hv).1]
      exact hv
    | succ j =>
      have := ih j m (by simpa using h) i v hv
      rw [List.flatMap_cons, show (j + 1) * 4 + i = 4 + (j * 4 + i) by omega, List.getElem?_append_right (by simp [Sh.cells])]
      simpa [Sh.cells] using this
/-- a slice that a shade holds can be read, in blocks from lo up to hi, and in no block of the row -/
def ShR (w : World) (lo hi : Nat) (A : Option Addr) (B : Option Addr) (m d : Nat) (l : List Int) : Prop := ∃ p q, lo ≤ p ∧ q ≤ hi ∧ Ints w p q B m d l ∧ ∀ ad, A = some ad → q ≤ ad.block ∨ ad.block < p
structure AllS (w : World) (lo hi : Nat) (A : Option Addr) (n c : Nat) (es : List Sh) : Prop where
  own : w.ownsRow lo 62 4 (.slice A n c) n (es.flatMap Sh.cells)
  lt : ∀ ad, A = some ad → ad.block < hi
  len : es.length = n
  row : ∀ e ∈ es, ShR w lo hi A e.B e.m e.d e.l ∧ ShR w lo hi A e.C e.k e.f e.bs ∧ R64 e.plain ∧ R64 e.sy
section
variable {w w' : World} {lo hi : Nat} {A : Option Addr} {n c : Nat} {es : List Sh}
theorem AllS.capb (h : AllS w lo hi A n c es) : n ≤ c ∧ c ≤ 9223372036854775807 := by
  rcases h.own.2 with ⟨e, rfl⟩ | ⟨g, cap, cur, e, _, _, h1, h2, _⟩
  · injection e; omega
  · injection e with _ _ e3; unfold maxLen at h2; omega
theorem AllS.form (h : AllS w lo hi A n c es) (hn : 0 < n) : ∃ g, A = some ⟨g, 0, none⟩ ∧ lo ≤ g ∧ g < hi ∧ g < w.heap.size := by
  rcases h.own.2 with ⟨_, e⟩ | ⟨g, _, _, e, h1, h2, _⟩
  · omega
  · injection e with e
    exact ⟨g, e, h1, h.lt _ e, (Array.getElem?_eq_some_iff.1 h2).1⟩
theorem ShR.same {B : Option Addr} {m d : Nat} {l : List Int} (h : ShR w lo hi A B m d l) (hs : Same lo hi w w') : ShR w' lo hi A B m d l := by
  obtain ⟨p, q, h1, h2, h3, h4⟩ := h
  exact ⟨p, q, h1, h2, h3.same (fun k k1 k2 => hs k (by omega) (by omega)), h4⟩
theorem AllS.same (h : AllS w lo hi A n c es) (hs : Same lo hi w w') : AllS w' lo hi A n c es :=
  ⟨owns_same h.own fun ad e => hs _ (owns_lt h.own ad e).1 (h.lt ad e), h.lt, h.len, fun e he => by
    obtain ⟨r1, r2, r3⟩ := h.row e he
    exact ⟨r1.same hs, r2.same hs, r3⟩⟩
theorem AllS.below (h : AllS w lo hi A n c es) {B : Nat} (hb : Below B w w') (hB : hi ≤ B) : AllS w' lo hi A n c es := h.same (.of_below hb hB)
theorem AllS.wide (h : AllS w lo hi A n c es) {hi2 : Nat} (h2 : hi ≤ hi2) : AllS w lo hi2 A n c es :=
  ⟨h.own, fun ad e => by have := h.lt ad e; omega, h.len, fun e he => by
    obtain ⟨⟨p, q, a1, a2, a3⟩, ⟨p', q', b1, b2, b3⟩, r3⟩ := h.row e he
    exact ⟨⟨p, q, a1, by omega, a3⟩, ⟨p', q', b1, by omega, b3⟩, r3⟩⟩
theorem AllS.empty (w : World) (lo : Nat) (h : lo ≤ w.heap.size) : AllS (w.alloc (.cells #[] 62)) lo (w.heap.size + 1) (some ⟨w.heap.size, 0, none⟩) 0 0 [] :=
  ⟨by simpa using World.ownsRow_lit (size := 4) (e := 62) w #[] 0 h (by unfold maxLen; omega) (by simp), fun ad e => by injection e with e; subst e; exact Nat.lt_succ_self _, rfl, by simp⟩
theorem AllS.cell {g : Nat} (h : AllS w lo hi (some ⟨g, 0, none⟩) n c es) {j : Nat} {e : Sh} (he : es[j]? = some e) {i : Nat} {v : Value} (hv : e.cells[i]? = some v) : w.cell? ⟨g, j * 4 + i, none⟩ = some v := by
  have hj := (List.getElem?_eq_some_iff.1 he).1
  have hi := (List.getElem?_eq_some_iff.1 hv).1
  have hl := h.len
  exact (h.own.cellAt (j * 4 + i) (by have : e.cells.length = 4 := rfl; omega)).trans (shc_at es j e he i v hv)
/-- one more element: its slices can be read, in no block of the row -/
theorem AllS.push (h : AllS w lo hi A n c es) {e : Sh} (hhi : hi ≤ w.heap.size) {hi2 : Nat} (h2 : hi ≤ hi2) (h3 : hi2 ≤ w.heap.size) (hr1 : ShR w lo hi2 A e.B e.m e.d e.l) (hr2 : ShR w lo hi2 A e.C e.k e.f e.bs) (hp : R64 e.plain) (hs : R64 e.sy) {A' : Option Addr} {c' : Nat}
    (hap : Appended w lo 62 4 A n c A' (n + 1) c' (es.flatMap Sh.cells ++ e.cells) w') : AllS w' lo w'.heap.size A' (n + 1) c' (es ++ [e]) := by
  obtain ⟨a1, a2, a3⟩ := hap
  have hsz := a2.size
  have key : ∀ {B : Option Addr} {m d : Nat} {l : List Int}, ShR w lo hi2 A B m d l → ShR w' lo w'.heap.size A' B m d l := by
    rintro B m d l ⟨p, q, b1, b2, b3, b4⟩
    refine ⟨p, q, b1, by omega, b3.same (fun k k1 k2 => a2.block k (by omega) fun e => ?_), fun ad e => ?_⟩
    · obtain ⟨ad, e1, e2⟩ := ownBlock_eq.1 e.symm
      have := b4 ad e1
      omega
    · rcases a3 with a3 | a3
      · exact b4 ad (a3 ad e)
      · exact .inl (by have := a3 ad e; omega)
  refine ⟨by rw [List.flatMap_append]; simpa using a1, fun ad e => (owns_lt a1 ad e).2, by simp [h.len], fun e' he => ?_⟩
  rcases List.mem_append.1 he with he | he
  · obtain ⟨⟨p, q, b1, b2, b3⟩, ⟨p', q', c1, c2, c3⟩, r3⟩ := (h.wide h2).row e' he
    exact ⟨key ⟨p, q, b1, b2, b3⟩, key ⟨p', q', c1, c2, c3⟩, r3⟩
  · obtain rfl : e' = e := by simpa using he
    exact ⟨key hr1, key hr2, hp, hs⟩
end
/-- the row behind a slice value, as the closures read it -/
structure ShV (w : World) where
  e : Sh
  ok : ∃ p q, q ≤ w.heap.size ∧ Ints w p q e.B e.m e.d e.l

theorem place_closure (e : Sh) (p q b : Nat) (B : Option Addr) (m d : Nat) (l : List Int) (lo' hi' : Nat) (w : World) (h : Ints w p q e.B e.m e.d e.l) (hq : q ≤ w.heap.size) (hb : w.cell? ⟨b, 0, none⟩ = some (.slice B m d)) (hbw : b < w.heap.size) (g : Ints w lo' hi' B m d l) (hg : hi' ≤ w.heap.size) :
    Calls Tryz.prog 94 #[.agg e.cells.toArray, .pointer (some ⟨b, 0, none⟩)] w fun r w' => r = .returned (.bool (decide (e.l = l))) ∧ Below w.heap.size w w' := by
  show Calls Tryz.prog 94 #[.agg #[.slice e.B e.m e.d, .int .i64 e.plain, .slice e.C e.k e.f, .int .i64 e.sy], .pointer (some ⟨b, 0, none⟩)] w _
  have ba := below_alloc w (.cells #[.slice e.B e.m e.d, .int .i64 e.plain, .slice e.C e.k e.f, .int .i64 e.sy] 62)
  have hE := hide (slices_Equal e.B e.m e.d e.l p q B m d l lo' hi' _ (h.below ba hq) (g.below ba hg))
  have hb2 := (ba.cell (p := ⟨b, 0, none⟩) hbw).trans hb
  have h0 : (w.alloc (.cells #[.slice e.B e.m e.d, .int .i64 e.plain, .slice e.C e.k e.f, .int .i64 e.sy] 62)).cell? ⟨w.heap.size, 0, none⟩ = some (.slice e.B e.m e.d) := by simp
  clear h g hb
  go_enter Tryz.func94, Tryz.ntmps94
  go_wp2_with fail
  refine hE.out.mono ?_
  rintro r w1 ⟨rfl, q1, rfl⟩
  have HB := hide (below_drewN ba q1)
  go_wp2_with fail
  go_ret
  exact ⟨rfl, HB.out⟩

theorem place_idx {α : Type} [Inhabited α] (f : α → List Int) (l : List Int) (zs : List α) (x : α) : Lib.idxBy (fun _ y => decide (f y = l)) zs x = placeL (zs.map f) l := by
  have key : ∀ (zs : List α) (i : Nat), Lib.idxByFrom (fun _ y => decide (f y = l)) x zs i = match (zs.map f).findIdx? (fun x => decide (x = l)) with | some j => ((i + j : Nat) : Int) | none => -1 := by
    intro zs
    induction zs with
    | nil => intro i; rfl
    | cons y r ih =>
      intro i
      rw [Lib.idxByFrom, List.map_cons, List.findIdx?_cons]
      by_cases h : f y = l
      · simp [h]
      · rw [if_neg (by simpa using h), if_neg (by simpa using h), ih (i + 1)]
        cases (r.map f).findIdx? (fun x => decide (x = l)) with
        | none => rfl
        | some j =>
          show ((i + 1 + j : Nat) : Int) = ((i + (j + 1) : Nat) : Int)
          congr 1
          omega
  unfold Lib.idxBy placeL
  rw [key zs 0]
  cases (zs.map f).findIdx? (fun x => decide (x = l)) with
  | none => rfl
  | some j => simp

theorem impl_placeOf (lo hi g n c : Nat) (es : List Sh) (B : Option Addr) (m d : Nat) (l : List Int) (lo' hi' : Nat) (w : World) (h : AllS w lo hi (some ⟨g, 0, none⟩) n c es) (hh : hi ≤ w.heap.size) (hl : Ints w lo' hi' B m d l) (hh' : hi' ≤ w.heap.size) :
    Calls Tryz.prog 70 #[.slice (some ⟨g, 0, none⟩) n c, .slice B m d] w fun r w' => r = .returned (.int .i64 (placeL (es.map (·.l)) l)) ∧ Below w.heap.size w w' := by
  have ba := below_alloc w (.cells #[.slice B m d] 22)
  have eg : ∀ args w, (callFunc 94 args).run Tryz.prog w = .ok (.enter 94 args) w := enters_of Tryz.func94 (by kernel_rfl) rfl
  obtain ⟨w1, hw1⟩ : ∃ w1, w1 = w.alloc (.cells #[.slice B m d] 22) := ⟨_, rfl⟩
  have hcb : w1.cell? ⟨w.heap.size, 0, none⟩ = some (.slice B m d) := by rw [hw1]; simp
  have hbl : w.heap.size < w1.heap.size := by rw [hw1]; simp
  rw [← hw1] at ba
  have h1 := h.below ba hh
  have hl1 := hl.below ba hh'
  have hcap := h1.capb
  have hlen := h1.len
  have hgl := h1.lt _ rfl
  haveI : Inhabited (ShV w1) := ⟨⟨default, 0, 0, Nat.zero_le _, Ints.nil_ _ _ _⟩⟩
  obtain ⟨vs, hvs⟩ : ∃ vs : List (ShV w1), vs.map (·.e) = es := by
    have key : ∀ us : List Sh, (∀ e ∈ us, ∃ p q, q ≤ w1.heap.size ∧ Ints w1 p q e.B e.m e.d e.l) → ∃ vs : List (ShV w1), vs.map (·.e) = us := by
      intro us
      induction us with
      | nil => exact fun _ => ⟨[], rfl⟩
      | cons e r ih =>
        intro hu
        obtain ⟨vs, hv⟩ := ih fun e he => hu e (List.mem_cons_of_mem _ he)
        exact ⟨⟨e, hu e (by simp)⟩ :: vs, by rw [List.map_cons, hv]⟩
    refine key es fun e he => ?_
    obtain ⟨⟨p, q, a1, a2, a3, _⟩, _⟩ := h1.row e he
    exact ⟨p, q, by omega, a3⟩
  have hvl : vs.length = n := by rw [← hlen, ← hvs]; simp
  have hI := AnyQ.slices_IndexFunc sh_idxQ 4 Tryz.isAgg62 Tryz.sizeOf62 (fun v : ShV w1 => v.e.cells) (fun _ => rfl) (fun v => decide (v.e.l = l)) 94 #[.pointer (some ⟨w.heap.size, 0, none⟩)] eg g 0 n c vs w1
    (fun W x hb => by
      obtain ⟨p, q, hq, hx⟩ := x.ok
      have hz := hb.size
      exact (place_closure x.e p q w.heap.size B m d l lo' hi' W (hx.below hb hq) (by omega) ((hb.cell (p := ⟨w.heap.size, 0, none⟩) hbl).trans hcb) (by omega) (hl1.below hb (by omega)) (by omega)).mono fun r w' ⟨h1, h2⟩ => ⟨h1, hb.trans (h2.mono hz)⟩)
    (by omega) (by omega) (by simp only at hgl; omega) (fun j hj i v hv => by
      rw [getElem!_pos vs j hj] at hv
      rw [Nat.zero_add]
      refine h1.cell (e := vs[j].e) ?_ hv
      rw [← hvs, List.getElem?_map, List.getElem?_eq_getElem hj]
      rfl)
  change Calls Tryz.prog 93 _ _ _ at hI
  rw [List.take_of_length_le (by omega), place_idx (fun v : ShV w1 => v.e.l) l vs default, show vs.map (fun v : ShV w1 => v.e.l) = es.map (·.l) by rw [← hvs, List.map_map]; rfl] at hI
  rw [hw1] at hI
  have HI := hide hI
  have HBA := hide ba
  clear hI h1 hl1 h hl hvs hcb hgl
  subst hw1
  go_enter Tryz.func70, Tryz.ntmps70
  go_wp2_with fail
  refine HI.out.mono ?_
  rintro r w2 ⟨rfl, b2⟩
  have HB := hide (HBA.out.trans (b2.mono (Nat.le_of_lt hbl)))
  clear b2
  go_wp2_with fail
  go_ret
  exact ⟨rfl, HB.out⟩
end Go.Proofs.YtkaepjigmcielaaGreatDoor
