/- Rows of one length that a call owns, each in a block of its own; the reference's turned path as such rows. -/
import Derived.Test.YtkaepjigmcielaaGreatDoorMzBC
import Derived.Test.YtkaepjigmcielaaGreatDoorMzG
import Derived.Test.YtkaepjigmcielaaGreatDoorFormX
namespace Go.Proofs.YtkaepjigmcielaaGreatDoor
open Go.RowKit
set_option linter.unusedSimpArgs false
set_option linter.unusedVariables false
set_option maxRecDepth 20000

theorem OwnI.narrow {w : World} {lo hi n c : Nat} {A : Option Addr} {xs : List Int} (h : OwnI w lo hi A n c xs) (hn : 0 < n) : ∃ g, A = some ⟨g, 0, none⟩ ∧ lo ≤ g ∧ g < hi ∧ OwnI w g (g + 1) (some ⟨g, 0, none⟩) n c xs := by
  obtain ⟨g, rfl, h1, h2, h3⟩ := h.form hn
  refine ⟨g, rfl, h1, h2, ⟨h.own.1, ?_⟩, fun ad e => by injection e with e; subst e; exact Nat.lt_succ_self _, h.rng⟩
  rcases h.own.2 with ⟨e, _⟩ | ⟨g', cap, cur, e, _, h⟩
  · cases e
  · injection e with e1 e2 e3
    have hg : g' = g := by injection e1 with e1; injection e1 with e1; exact e1.symm
    exact .inr ⟨g', cap, cur, by rw [e1, e3], by omega, h⟩
def rowV (np : Nat) (g : Nat × Nat) : Value := .slice (some ⟨g.1, 0, none⟩) np g.2
/-- own rows, each in a block of its own -/
structure Grid (w : World) (lo hi : Nat) (A : Option Addr) (n c np : Nat) (gs : List (Nat × Nat)) (xss : List (List Int)) : Prop where
  own : w.ownsRow lo 22 1 (.slice A n c) n (gs.map (rowV np))
  lt : ∀ ad, A = some ad → ad.block < hi
  len : xss.length = n
  row : ∀ (j : Nat) (g : Nat × Nat) (xs : List Int), gs[j]? = some g → xss[j]? = some xs → OwnI w g.1 (g.1 + 1) (some ⟨g.1, 0, none⟩) np g.2 xs ∧ lo ≤ g.1 ∧ g.1 < hi ∧ ∀ ad, A = some ad → g.1 ≠ ad.block
  sep : ∀ (i j : Nat) (g g' : Nat × Nat), i ≠ j → gs[i]? = some g → gs[j]? = some g' → g.1 ≠ g'.1
section
variable {w w' : World} {lo hi : Nat} {A : Option Addr} {n c np : Nat} {gs : List (Nat × Nat)} {xss : List (List Int)}
theorem Grid.glen (h : Grid w lo hi A n c np gs xss) : gs.length = n := by have := own_len h.own; simpa using this
theorem Grid.capb (h : Grid w lo hi A n c np gs xss) : n ≤ c ∧ c ≤ 9223372036854775807 := by
  rcases h.own.2 with ⟨e, rfl⟩ | ⟨g, cap, cur, e, _, _, h1, h2, _⟩
  · injection e; omega
  · injection e with _ _ e3; unfold maxLen at h2; omega
theorem Grid.empty (w : World) (np lo : Nat) (h : lo ≤ w.heap.size) : Grid (w.alloc (.cells #[] 22)) lo (w.alloc (.cells #[] 22)).heap.size (some ⟨w.heap.size, 0, none⟩) 0 0 np [] [] :=
  ⟨by simpa using World.ownsRow_lit (size := 1) (e := 22) w #[] 0 h (by unfold maxLen; omega) (by simp), fun ad e => by injection e with e; subst e; simp, rfl, by simp, by simp⟩
theorem Grid.below (h : Grid w lo hi A n c np gs xss) {B : Nat} (hb : Below B w w') (hB : hi ≤ B) : Grid w' lo hi A n c np gs xss :=
  ⟨owns_below h.own hb fun ad e => by have := h.lt ad e; omega, h.lt, h.len, fun j g xs hg hx => by
    obtain ⟨h1, h2, h3, h4⟩ := h.row j g xs hg hx
    exact ⟨h1.below hb (by omega), h2, h3, h4⟩, h.sep⟩
theorem Grid.drew (h : Grid w lo hi A n c np gs xss) : Grid w.drew lo hi A n c np gs xss :=
  ⟨h.own, h.lt, h.len, fun j g xs hg hx => by
    obtain ⟨h1, h2, h3, h4⟩ := h.row j g xs hg hx
    exact ⟨h1.same (fun _ _ _ => rfl), h2, h3, h4⟩, h.sep⟩
theorem Grid.wide (h : Grid w lo hi A n c np gs xss) {hi2 : Nat} (h2 : hi ≤ hi2) : Grid w lo hi2 A n c np gs xss :=
  ⟨h.own, fun ad e => by have := h.lt ad e; omega, h.len, fun j g xs hg hx => by
    obtain ⟨h1, h2, h3, h4⟩ := h.row j g xs hg hx
    exact ⟨h1, h2, by omega, h4⟩, h.sep⟩
theorem Grid.push (h : Grid w lo hi A n c np gs xss) {l h' : Nat} {B : Option Addr} {d : Nat} {x : List Int} (hr : OwnI w l h' B np d x) (hnp : 0 < np) (hl : hi ≤ l) (hh' : h' ≤ w.heap.size) (hlo : lo ≤ hi) (hhi : hi ≤ w.heap.size) {A' : Option Addr} {c' : Nat}
    (hap : Appended w lo 22 1 A n c A' (n + 1) c' (gs.map (rowV np) ++ [.slice B np d]) w') : ∃ g, Grid w' lo w'.heap.size A' (n + 1) c' np (gs ++ [(g, d)]) (xss ++ [x]) := by
  obtain ⟨h1, h2, h3⟩ := hap
  obtain ⟨g, rfl, hg1, hg2, hO⟩ := hr.narrow hnp
  have hgl := h.glen
  have hxl := h.len
  have hsz := h2.size
  have keep : ∀ k, k < w.heap.size → (∀ ad, A = some ad → k ≠ ad.block) → w'.heap[k]? = w.heap[k]? ∧ ∀ ad, A' = some ad → k ≠ ad.block := by
    intro k hk hA
    refine ⟨h2.block k hk fun e => ?_, fun ad e => ?_⟩
    · obtain ⟨ad, e1, e2⟩ := ownBlock_eq.1 e.symm
      exact hA ad e1 e2.symm
    · rcases h3 with h3 | h3
      · exact hA ad (h3 ad e)
      · have := h3 ad e
        omega
  refine ⟨g, by rw [List.map_append]; exact h1, fun ad e => (owns_lt h1 ad e).2, by simp [hxl], fun j g' xs hg' hx => ?_, fun i j u u' hij hu hu' => ?_⟩
  · by_cases hj : j < n
    · rw [List.getElem?_append_left (by omega)] at hg' hx
      obtain ⟨q1, q2, q3, q4⟩ := h.row j g' xs hg' hx
      obtain ⟨k1, k2⟩ := keep g'.1 (by omega) q4
      exact ⟨q1.same fun k a b => by obtain rfl : k = g'.1 := by omega
                                     exact k1, q2, by omega, k2⟩
    · have hlt := (List.getElem?_eq_some_iff.1 hg').1
      simp at hlt
      obtain rfl : j = n := by omega
      have e1 : g' = (g, d) := by rw [← hgl] at hg'; simpa using hg'.symm
      have e2 : xs = x := by rw [← hxl] at hx; simpa using hx.symm
      subst e1 e2
      obtain ⟨k1, k2⟩ := keep g (by omega) (fun ad e => by have := h.lt ad e; omega)
      exact ⟨hO.same fun k a b => by obtain rfl : k = g := by
                                       have a' : g ≤ k := a
                                       have b' : k < g + 1 := b
                                       omega
                                     exact k1, by simp only; omega, by simp only; omega, k2⟩
  · have key : ∀ (i : Nat) (u : Nat × Nat), (gs ++ [(g, d)])[i]? = some u → (i < n ∧ gs[i]? = some u ∧ u.1 < hi) ∨ (i = n ∧ u.1 = g) := by
      intro i u hu
      by_cases hi' : i < n
      · rw [List.getElem?_append_left (by omega)] at hu
        have := (h.row i u _ hu (List.getElem?_eq_getElem (by omega))).2.2.1
        exact .inl ⟨hi', hu, this⟩
      · have hlt := (List.getElem?_eq_some_iff.1 hu).1
        simp at hlt
        obtain rfl : i = n := by omega
        have e1 : u = (g, d) := by rw [← hgl] at hu; simpa using hu.symm
        exact .inr ⟨rfl, by rw [e1]⟩
    rcases key i u hu with ⟨i1, i2, i3⟩ | ⟨i1, i2⟩
    · rcases key j u' hu' with ⟨j1, j2, j3⟩ | ⟨j1, j2⟩
      · exact h.sep i j u u' hij i2 j2
      · omega
    · rcases key j u' hu' with ⟨j1, j2, j3⟩ | ⟨j1, j2⟩
      · omega
      · omega
/-- one element of one row stored -/
theorem Grid.put (h : Grid w lo hi A n c np gs xss) {i : Nat} {g : Nat × Nat} {xs : List Int} (hg : gs[i]? = some g) (hx : xss[i]? = some xs) (k : Nat) {x : Int} (hr : R64 x) : Grid (w.setCell ⟨g.1, k, none⟩ (.int .i64 x)) lo hi A n c np gs (xss.set i (xs.set k x)) := by
  obtain ⟨h1, h2, h3, h4⟩ := h.row i g xs hg hx
  have hi2 := (List.getElem?_eq_some_iff.1 hx).1
  refine ⟨owns_same h.own fun ad e => Below.heap_setCell _ ⟨g.1, k, none⟩ _ ad.block (fun e2 => h4 ad e e2.symm), h.lt, by simpa using h.len, fun j g' ys hg' hy => ?_, h.sep⟩
  by_cases hij : i = j
  · subst hij
    rw [hg] at hg'
    injection hg' with hg'
    subst hg'
    rw [List.getElem?_set_self hi2] at hy
    injection hy with hy
    subst hy
    exact ⟨h1.putD k hr, h2, h3, h4⟩
  · rw [List.getElem?_set_ne hij] at hy
    obtain ⟨q1, q2, q3, q4⟩ := h.row j g' ys hg' hy
    have hne := h.sep i j g g' hij hg hg'
    exact ⟨q1.same (Same.setCell (p := ⟨g.1, k, none⟩) (Same.refl _ _ _) (by show g.1 < g'.1 ∨ g'.1 + 1 ≤ g.1; omega) _), q2, q3, q4⟩
theorem Grid.cells {gA : Nat} (h : Grid w lo hi (some ⟨gA, 0, none⟩) n c np gs xss) {i : Nat} (hi' : i < n) : ∃ g xs, gs[i]? = some g ∧ xss[i]? = some xs ∧ w.cell? ⟨gA, i, none⟩ = some (.slice (some ⟨g.1, 0, none⟩) np g.2) ∧ OwnI w g.1 (g.1 + 1) (some ⟨g.1, 0, none⟩) np g.2 xs ∧ lo ≤ g.1 ∧ g.1 < hi := by
  have hgl := h.glen
  have hxl := h.len
  have e1 : gs[i]? = some gs[i] := List.getElem?_eq_getElem (by omega)
  have e2 : xss[i]? = some xss[i] := List.getElem?_eq_getElem (by omega)
  obtain ⟨q1, q2, q3, _⟩ := h.row i _ _ e1 e2
  exact ⟨_, _, e1, e2, (h.own.cellAt i (by simp; omega)).trans (by rw [List.getElem?_map, e1]; rfl), q1, q2, q3⟩
theorem Grid.ints2 {gA : Nat} (h : Grid w lo hi (some ⟨gA, 0, none⟩) n c np gs xss) : Ints2 w lo hi (some ⟨gA, 0, none⟩) n c xss := by
  have hc := h.capb
  have hgl := h.glen
  refine ⟨h.len, hc.1, hc.2, fun hn => ⟨_, rfl, ?_, h.lt _ rfl, fun j xs hj => ?_⟩⟩
  · rcases h.own.2 with ⟨e, _⟩ | ⟨g, cap, cur, e, h1, _⟩
    · cases e
    · injection e with e1
      injection e1 with e1
      injection e1 with e1
      show lo ≤ gA
      omega
  · have hj2 : j < n := by have := (List.getElem?_eq_some_iff.1 hj).1; have := h.len; omega
    obtain ⟨g, xs', e1, e2, e3, e4, e5, e6⟩ := h.cells hj2
    rw [hj] at e2
    injection e2 with e2
    subst e2
    exact ⟨_, _, _, by rw [Addr.add_lit]; simpa using e3, e4.ints.wide e5 (by omega)⟩
theorem Grid.form (h : Grid w lo hi A n c np gs xss) (hn : 0 < n) : ∃ g, A = some ⟨g, 0, none⟩ ∧ lo ≤ g ∧ g < hi ∧ g < w.heap.size := by
  rcases h.own.2 with ⟨_, e⟩ | ⟨g, _, _, e, h1, h2, _⟩
  · omega
  · injection e with e
    exact ⟨g, e, h1, h.lt _ e, (Array.getElem?_eq_some_iff.1 h2).1⟩
end

set_option maxRecDepth 100000 in
set_option maxHeartbeats 8000000 in
theorem spec_l8TurnG (P : Option Addr) (np cp : Nat) (xss : List (List Int)) (lo hi dim : Nat) (w : World) (hp : Ints2 w lo hi P np cp xss) (hh : hi ≤ w.heap.size) (hL : ∀ r ∈ xss, r.length = dim) (hd0 : 0 < dim) (hd6 : dim ≤ 1000) (hn0 : 0 < np) (hn : np ≤ 1000) :
    Calls Tryz.prog 23 #[.slice P np cp] w fun e w' => ∃ gR cR gs, e = .returned (.slice (some ⟨gR, 0, none⟩) dim cR) ∧ Grid w' w.heap.size w'.heap.size (some ⟨gR, 0, none⟩) dim cR np gs (turnL xss dim) ∧ Below w.heap.size w w' := by
  obtain ⟨i0, hi0, hz0, hz1, hz2⟩ := info_parts info_int
  obtain ⟨i1, hi1, hy0, hy1, hy2⟩ := info_parts info_ints
  have hcp := hp.cap
  have hmp := hp.max
  have HP := hide hp
  have HLn := hide hL
  obtain ⟨ap, B0, m0, d0, r0, rfl, hc0, hI0, _, hx0⟩ := hp.at_ (k := 0) hn0
  obtain rfl : dim = m0 := by rw [← hI0.len]; exact (hL r0 (List.mem_of_getElem? hx0.out)).symm
  have hg0 := World.block_lt_of_cell? w _ hc0
  have HC0 := hide fun (w' : World) (hB : Below w.heap.size w w') => show w'.cell? ap = some (.slice B0 dim d0) by rw [← addr_add0 ap]; exact (hB.cell (p := ap.add 0) hg0).trans hc0
  have hcd0 := hI0.cap
  have hmd0 := hI0.max
  have htl := hide (turn_len xss dim)
  have hL1 := hide (Grid.empty w np w.heap.size (Nat.le_refl _))
  have hbL := hide (below_alloc w (.cells #[] 22))
  clear hp hL hI0 hx0 hc0
  go_enter Tryz.func23, Tryz.ntmps23
  go_wp2_with fail
  generalize w.alloc (.cells #[] 22) = W1 at hL1 hbL ⊢
  go_loopw [3, 4] (fun p i wr => ∃ (q : Nat) (R : Option Addr) (cR : Nat) (gs : List (Nat × Nat)), q ≤ dim ∧ i = .int .i64 q ∧ p = .slice R q cR ∧ Hid (Grid wr w.heap.size wr.heap.size R q cR np gs ((turnL xss dim).take q)) ∧ Hid (Below w.heap.size w wr)) (fun _ i _ => dim - (intOf i).toNat)
  case atStart => exact ⟨0, _, 0, [], by omega, rfl, rfl, hL1.out, hbL.out⟩
  case round =>
    clear hL1 hbL
    obtain ⟨q, R, cR, gs, hq, rfl, rfl, hL, hb⟩ := hrel
    have hsz := hb.out.size
    have hcR := hL.out.capb
    have u0 := HC0.out _ hb.out
    by_cases hlt : q < dim
    · obtain ⟨row, hrow⟩ : ∃ row, row = xss.map fun r => r.getD q 0 := ⟨_, rfl⟩
      have hrl : Hid (row.length = np) := by show _ = _; rw [hrow, List.length_map, HP.out.len]
      have hT : Hid ((turnL xss dim).take q ++ [row] = (turnL xss dim).take (q + 1)) := take_snocJ (by rw [hrow]; exact turn_at xss hlt)
      have hO0 : Hid ((wr.alloc (.cells #[] 3)).ownsRow wr.heap.size 3 1 (.slice (some ⟨wr.heap.size, 0, none⟩) 0 0) 0 ((row.take 0).map (Value.int .i64))) := by
        show World.ownsRow _ _ _ _ _ _ _
        simpa using World.ownsRow_lit (size := 1) (e := 3) (base := wr.heap.size) wr #[] 0 (Nat.le_refl _) (by unfold maxLen; omega) rfl
      have hB0 := hide (below_alloc wr (.cells #[] 3))
      go_wp2_with fail
      obtain ⟨wo, hwo⟩ : ∃ wo, wo = wr := ⟨_, rfl⟩
      rw [← hwo] at hO0 hB0 ⊢
      have hszo : w.heap.size ≤ wo.heap.size := by rw [hwo]; exact hsz
      have hLo : Hid (Grid wo w.heap.size wo.heap.size R q cR np gs ((turnL xss dim).take q)) := by rw [hwo]; exact hL.out
      have hbo : Hid (Below w.heap.size w wo) := by rw [hwo]; exact hb.out
      clear hwo hL hb u0 hsz
      generalize wo.alloc (.cells #[] 3) = W2 at hO0 hB0 ⊢
      go_loopw [5, 6] (fun p i wr => ∃ (j : Nat) (S : Option Addr) (cS : Nat), j ≤ np ∧ i = .int .i64 j ∧ p = .slice S j cS ∧ Hid (wr.ownsRow wo.heap.size 3 1 (.slice S j cS) j ((row.take j).map (Value.int .i64))) ∧ Hid (Below wo.heap.size wo wr)) (fun _ i _ => np - (intOf i).toNat)
      case atStart => exact ⟨0, _, _, by omega, rfl, rfl, hO0.out, hB0.out⟩
      case round =>
        clear hO0 hB0
        obtain ⟨j, S, cS, hj, rfl, rfl, hO, hbr⟩ := hrel
        have hszr := hbr.out.size
        have hbw := hide (hbo.out.trans (hbr.out.mono hszo))
        by_cases hlt2 : j < np
        · obtain ⟨ap2, Br, m2, d2, r, e, hcr, hIr, _, hxr⟩ := HP.out.at_ hlt2
          injection e with e
          subst e
          have hrd := HLn.out r (List.mem_of_getElem? hxr.out)
          obtain rfl : dim = m2 := by rw [← hIr.len]; exact hrd.symm
          have hcr2 := hIr.cap
          have hmr2 := hIr.max
          obtain ⟨bd, x, rfl, hcx, hx64, _, hxx⟩ := hIr.at_ hlt
          have hc4 := (hbw.out.cell (p := ap.add j) (World.block_lt_of_cell? w _ hcr)).trans hcr
          have hc5 := (hbw.out.cell (p := bd.add q) (World.block_lt_of_cell? w _ hcx)).trans hcx
          have hT2 : Hid ((row.take j).map (Value.int .i64) ++ [Value.int .i64 x] = (row.take (j + 1)).map (Value.int .i64)) := by
            show _ = _
            rw [← take_snocJ (xs := row) (k := j) (x := x) (by rw [hrow, List.getElem?_map, hxr.out]; simp [List.getD, hxx.out]), List.map_append]
            rfl
          clear hcr hIr hxr hcx hxx hrd
          go_wp2_with (at_builtin; refine wpl_app1 rfl (.tmp 23) (.tmp 31) 22 rfl wo.heap.size 3 i0 (.int .i64 0) 1 8 Tryz.underlying22 hi0 hz0 hz1 hz2 rfl (by omega) wr #[.int .i64 x] S j cS 1 _ rfl rfl hO.out rfl (by simp [Value.oneCell']) (by omega) (by omega) (by omega) ?_; intro A5 c5 w5 happ5 hlt5; have hb5 := hide (happ5.low hbr.out hszr (Nat.le_refl _) hO.out); have hO5 := hide happ5.1; clear happ5)
          rw [hT2.out] at hO5
          refine ⟨⟨j + 1, A5, c5, by omega, by go_num, rfl, hO5.out, hb5.out⟩, ?_⟩
          simp [intOf]; omega
        · obtain rfl : np = j := by omega
          have hOw := hO.out
          rw [List.take_of_length_le (Nat.le_of_eq hrl.out)] at hOw
          have hrng : ∀ y ∈ row, R64 y := fun y hy => by
            rw [hrow] at hy
            obtain ⟨r, hr, rfl⟩ := List.mem_map.1 hy
            obtain ⟨q2, hq2⟩ := List.mem_iff_getElem?.1 hr
            have hq3 := (List.getElem?_eq_some_iff.1 hq2).1
            obtain ⟨_, _, _, _, r2, _, _, hIr, _, hx2⟩ := HP.out.at_ (k := q2) (by have := HP.out.len; omega)
            have h3 := hx2.out
            rw [hq2] at h3
            injection h3 with h3
            subst h3
            exact r64_getDJ hIr.rng q
          have hI := hide (⟨hOw, fun ad e => (owns_lt hOw ad e).2, hrng⟩ : OwnI wr wo.heap.size wr.heap.size S np cS row)
          have hLr := hide (hLo.out.below hbr.out (Nat.le_refl _))
          clear hLo hO hOw hrng
          go_wp2_with (at_builtin; refine wpl_app1 rfl (.tmp 33) (.tmp 35) 26 rfl w.heap.size 22 i1 (.slice none 0 0) 1 24 Tryz.underlying26 hi1 hy0 hy1 hy2 rfl (by omega) wr #[.slice S np cS] R q cR 1 _ rfl rfl hLr.out.own rfl (by simp [Value.oneCell']) (by omega) (by omega) (by omega) ?_; intro A5 c5 w5 happ5 hlt5; have hL5 := hide (hLr.out.push (l := wo.heap.size) (h' := wr.heap.size) (x := row) hI.out hn0 (Nat.le_refl _) (Nat.le_refl _) (by omega) (by omega) happ5); have hb5 := hide (happ5.low hbw.out (by omega) (by omega) hLr.out.own); clear happ5)
          obtain ⟨gnew, hL6⟩ := hL5.out
          rw [hT.out] at hL6
          refine ⟨⟨q + 1, A5, c5, _, by omega, by go_num, rfl, hL6, hb5.out⟩, ?_⟩
          simp [intOf]; omega
    · obtain rfl : dim = q := by omega
      have hL2 := hL.out
      rw [List.take_of_length_le (Nat.le_of_eq htl.out)] at hL2
      obtain ⟨gR, rfl, _, _, _⟩ := hL2.form hd0
      have HL := hide hL2
      clear hL hL2
      go_wp2_with fail
      go_ret
      exact ⟨_, _, _, rfl, HL.out, hb.out⟩
end Go.Proofs.YtkaepjigmcielaaGreatDoor
/- The symmetry of a shaded tree: the reference's walk. -/
namespace Go.Proofs.YtkaepjigmcielaaGreatDoor
open Go.RowKit
set_option linter.unusedSimpArgs false
set_option linter.unusedVariables false
set_option maxRecDepth 20000

theorem mul_bdT {a b A B : Int} (h0 : 0 ≤ a) (h1 : a ≤ A) (h2 : 0 ≤ b) (h3 : b ≤ B) : 0 ≤ a * b ∧ a * b ≤ A * B :=
  ⟨Int.mul_nonneg h0 h2, Int.mul_le_mul h1 h3 h2 (by omega)⟩

theorem drewN_b (wr : World) (q : Nat) : Below wr.heap.size wr (wr.drewN q) := below_drewN (Below.refl _ _) q
set_option maxRecDepth 100000 in
set_option maxHeartbeats 8000000 in
theorem spec_l10Twins : ∀ (m gl ml cl : Nat) (l : List Int) (lo hi : Nat) (w : World), Ints w lo hi (some ⟨gl, 0, none⟩) ml cl l → hi ≤ w.heap.size → l ∈ tabL → l.length ≤ m →
    Calls Tryz.prog 27 #[.slice (some ⟨gl, 0, none⟩) ml cl] w fun e w' => e = .returned (.int .i64 (symL l)) ∧ Below w.heap.size w w' := by
  intro m
  induction m with
  | zero =>
    intro gl ml cl l lo hi w _ _ hl h0
    exfalso
    obtain ⟨b, q, e, _⟩ := (tab_good hl).1
    rw [e] at h0
    simp at h0
  | succ m ih =>
    intro gl ml cl l lo hi w h hh hl hlm
    obtain ⟨hgood, hl4⟩ := tab_good hl
    have htw := tw_facts hl
    obtain ⟨a, rr, rfl⟩ : ∃ a rr, l = a :: rr := by
      obtain ⟨b, q, e, _⟩ := hgood
      exact ⟨b, q, e⟩
    obtain ⟨hpg, hr2, hh4, ha0, ha2⟩ := good_parts hgood
    have IH := hide ih
    have HTW := hide htw
    have HGP := hide hpg
    have hml : ml ≤ 4 := by rw [← h.len]; exact hl4
    have HFo := hide (spec_l10Form 4 gl ml cl (a :: rr) lo hi w h hh hgood hl4 (Nat.le_refl _) htw.le)
    rw [htw.form] at HFo
    clear h ih htw hpg hgood hl
    go_enter Tryz.func27, Tryz.ntmps27
    go_wp2_with (first
      | (go_at_call 52; refine HFo.out.mono ?_; rintro e w1 ⟨g1, c1, rfl, hO1, b1⟩; have z1 := b1.size; have HPt := hide (spec_l10Parts g1 ml c1 a rr w.heap.size w1.heap.size w1 hO1.ints (Nat.le_refl _) hml ⟨ha0, ha2⟩ hr2 hh4); have B1 := hide b1; clear HFo hO1 b1)
      | (go_at_call 53; refine HPt.out.mono ?_; rintro e w2 ⟨g8, n8, c8, v8, rfl, hO8, b2⟩; have z2 := b2.size; have hR8 := hide hO8.rows; have hg8 := hO8.own.lt g8 rfl; have hc8 := hO8.capb; have hl8 := hide hO8.len; have B2 := hide (B1.out.trans (b2.mono z1)); clear HPt hO8 b2 B1))
    go_loopw [3, 5, 6] (fun o r i wr => ∃ (k : Nat) (out run : Int) (pv : Option (List Int)), k ≤ n8 ∧ i = .int .i64 (k : Int) ∧ r = .int .i64 run ∧ o = .int .i64 out ∧ Hid (symL (a :: rr) = twGo pv run out ((partsF [] rr).drop k)) ∧ Hid (twOk pv run out ((partsF [] rr).drop k) = true) ∧ Hid (pv = if k = 0 then none else (partsF [] rr)[k - 1]?) ∧ Hid (Below w2.heap.size w2 wr)) (fun _ _ i _ => n8 - (intOf i).toNat)
    case atStart => exact ⟨0, 1, 0, none, by omega, rfl, rfl, rfl, HTW.out.go.symm, HTW.out.ok, rfl, Below.refl _ _⟩
    case round =>
      obtain ⟨k, out, run, pv, hk, rfl, rfl, rfl, hgo, hokk, hpv, hb⟩ := hrel
      have zr := hb.out.size
      by_cases hlt : k < n8
      · obtain ⟨Bp, mp, dp, lp, hp_, p, hcw, hI1, hlp, hhp, hx, hvx, hform⟩ := hR8.out.at_ hlt
        have hpm := List.mem_of_getElem? hx.out
        have hps := HTW.out.sub p hpm
        obtain ⟨cq, pr, hpe, hcq⟩ := good_col (HGP.out p hpm)
        have hmp0 : 0 < mp := by
          have := hI1.len
          rw [hpe] at this
          simp at this
          omega
        obtain ⟨ad, rfl⟩ : ∃ ad, Bp = some ad := by
          obtain ⟨ad, e, _⟩ := hI1.cells hmp0
          exact ⟨ad, e⟩
        obtain ⟨gp, hgpe⟩ : ∃ g, ad = ⟨g, 0, none⟩ := ⟨_, hform ad rfl⟩
        subst hgpe
        have hIp := hide (hI1.below hb.out hhp)
        have hcp : wr.cell? ⟨g8, k, none⟩ = some (.slice (some ⟨gp, 0, none⟩) mp dp) := (hb.out.cell (p := ⟨g8, k, none⟩) (by show g8 < _; omega)).trans hcw
        have hcpb := hIp.out.cap
        have hcpm := hIp.out.max
        have hg8w : g8 < wr.heap.size := by omega
        have hdk : (partsF [] rr).drop k = p :: (partsF [] rr).drop (k + 1) := by
          rw [List.drop_eq_getElem_cons (by rw [hl8.out]; exact hlt)]
          congr 1
          have := hx.out
          rw [List.getElem?_eq_getElem (by rw [hl8.out]; exact hlt)] at this
          injection this
        have hgo2 := hgo.out
        have hok2 := hokk.out
        rw [hdk, twGo] at hgo2
        rw [hdk, twOk] at hok2
        rw [Bool.and_eq_true, decide_eq_true_eq] at hok2
        obtain ⟨⟨hr0, hr4, ho0, ho1, hs0, hs1⟩, hok3⟩ := hok2
        obtain ⟨s, hs⟩ : ∃ s, s = symL p := ⟨_, rfl⟩
        rw [← hs] at hgo2 hs0 hs1 hok3
        obtain ⟨r1, hr1⟩ : ∃ r1, r1 = (if pv.all (fun q => decide (p = q)) then run + 1 else 1) := ⟨_, rfl⟩
        rw [← hr1] at hgo2 hok3
        have hr1b : 0 ≤ r1 ∧ r1 ≤ 5 := by rw [hr1]; split <;> omega
        obtain ⟨m1, hm1⟩ : ∃ m1, m1 = out * r1 := ⟨_, rfl⟩
        have hm1b : 0 ≤ m1 ∧ m1 ≤ 1000 * 5 := by rw [hm1]; exact mul_bdT ho0 ho1 hr1b.1 hr1b.2
        rw [← hm1] at hgo2 hok3
        obtain ⟨m2, hm2⟩ : ∃ m2, m2 = m1 * s := ⟨_, rfl⟩
        have hm2b : 0 ≤ m2 ∧ m2 ≤ (1000 * 5) * 1000 := by rw [hm2]; exact mul_bdT hm1b.1 hm1b.2 hs0 hs1
        rw [← hm2] at hgo2 hok3
        have hw1 : IntKind.i64.wrap (out * r1) = m1 := by rw [← hm1]; exact IntWalk.i64_in _ (by omega)
        have hw2 : IntKind.i64.wrap (m1 * s) = m2 := by rw [← hm2]; exact IntWalk.i64_in _ (by omega)
        have HGO := hide hgo2
        have HOK := hide hok3
        have HSS := hide hs
        have HM1 := hide hm1
        have HPV : Hid (some p = if k + 1 = 0 then none else (partsF [] rr)[k + 1 - 1]?) := by
          show _ = _
          rw [if_neg (by omega), Nat.add_sub_cancel]
          exact hx.out.symm
        have hRec : Hid (∀ W, Below wr.heap.size wr W → Calls Tryz.prog 27 #[.slice (some ⟨gp, 0, none⟩) mp dp] W fun e w' => e = .returned (.int .i64 s) ∧ Below W.heap.size W w') := fun W hW => by
          have := hW.size
          have hlm2 := hps.2
          have := IH.out gp mp dp p lp hp_ W (hIp.out.below hW (by omega)) (by omega) hps.1 (by simp only [List.length_cons] at hlm hlm2; omega)
          rwa [← HSS.out] at this
        clear hI1 hvx hform hcw hpm hps hpe hdk hgo hokk hgo2 hok3 hs hm1 hm2
        by_cases hk0 : k = 0
        · have hpvn : pv = none := by rw [hpv.out, if_pos hk0]
          have hr1e : r1 = run + 1 := by rw [hr1, hpvn]; rfl
          have hd1 : decide ((0 : Int) < (k : Int)) = false := by simp; omega
          have hd2 : decide (0 < k) = false := by simp; omega
          have hwr : IntKind.i64.wrap (run + 1) = r1 := by rw [hr1e]; exact IntWalk.i64_in _ (by omega)
          clear hr1 hr1e hpvn hpv hx hk0
          go_wp2_with fail
          go_quiet (fail)
          go_wp2_with fail
          clear hd1 hd2 hwr
          go_wp2_with (go_at_call 27; refine (hRec.out _ (drewN_b wr _)).mono ?_; rintro e w9 ⟨rfl, b9⟩)
          have HB9 := hide (hb.out.trans (((drewN_b wr _).trans b9).mono zr))
          clear hw1 hw2 hcp b9
          go_roundw
          case rel => exact ⟨k + 1, m2, r1, some p, by omega, by go_num, rfl, rfl, HGO.out, HOK.out, HPV.out, HB9.out⟩
          case measure => simp [intOf]; omega
        · obtain ⟨kk, rfl⟩ : ∃ kk, k = kk + 1 := ⟨k - 1, by omega⟩
          obtain ⟨B2, mp2, dp2, lp2, hp2, pp, hcw2, hI2, _, hhp2, hx2, _, _⟩ := hR8.out.at_ (k := kk) (by omega)
          have hpvs : pv = some pp := by
            rw [hpv.out, if_neg (by omega), Nat.add_sub_cancel]
            exact hx2.out
          have hIq := hide (hI2.below hb.out hhp2)
          have hcp2 : wr.cell? ⟨g8, kk, none⟩ = some (.slice B2 mp2 dp2) := (hb.out.cell (p := ⟨g8, kk, none⟩) (by show g8 < _; omega)).trans hcw2
          have hcpb2 := hIq.out.cap
          have hcpm2 := hIq.out.max
          have hd1 : decide ((0 : Int) < ((kk + 1 : Nat) : Int)) = true := decide_eq_true (by omega)
          have hd3 : decide ((0 : Int) < (kk : Int) + 1) = true := decide_eq_true (by omega)
          have hwk : IntKind.i64.wrap (((kk + 1 : Nat) : Int) - 1) = kk := by rw [IntWalk.i64_in _ (by omega)]; omega
          have hk00 : (0 : Int) ≤ ((kk + 1 : Nat) : Int) - 1 := by omega
          have hE := hide fun W (h : ∃ q, W = wr.drewN q) => spec_l2Same (some ⟨gp, 0, none⟩) mp dp p lp hp_ B2 mp2 dp2 pp lp2 hp2 W (hIp.out.same (by obtain ⟨q, rfl⟩ := h; exact fun _ _ _ => rfl)) (hIq.out.same (by obtain ⟨q, rfl⟩ := h; exact fun _ _ _ => rfl))
          by_cases hpp : p = pp
          · have hr1e : r1 = run + 1 := by rw [hr1, hpvs]; simp [hpp]
            have hwr : IntKind.i64.wrap (run + 1) = r1 := by rw [hr1e]; exact IntWalk.i64_in _ (by omega)
            have HE : Hid (∀ W, (∃ q, W = wr.drewN q) → Calls Tryz.prog 51 #[.slice (some ⟨gp, 0, none⟩) mp dp, .slice B2 mp2 dp2] W fun e w' => e = .returned (.bool true) ∧ ∃ q, w' = W.drewN q) := by
              have := hE.out
              rw [decide_eq_true hpp] at this
              exact this
            have hmp2 : mp2 ≤ dp2 := hcpb2
            clear hr1 hr1e hpvs hpv hx hx2 hI2 hcw2 hE hpp hk0
            go_wp2_with fail
            go_quiet ((go_at_call 51; first | exact Calls.quiet_of (HE.out _ ⟨_, rfl⟩) | exact quiet_add (HE.out _ ⟨_, rfl⟩)))
            go_wp2_with fail
            clear hd1 hd3 hwr hwk hk00 hcp2
            go_wp2_with (go_at_call 27; refine (hRec.out _ (drewN_b wr _)).mono ?_; rintro e w9 ⟨rfl, b9⟩)
            have HB9 := hide (hb.out.trans (((drewN_b wr _).trans b9).mono zr))
            clear hw1 hw2 hcp b9
            go_roundw
            case rel => exact ⟨kk + 1 + 1, m2, r1, some p, by omega, by go_num, rfl, rfl, HGO.out, HOK.out, HPV.out, HB9.out⟩
            case measure => simp [intOf]; omega
          · have hr1e : r1 = 1 := by rw [hr1, hpvs]; simp [hpp]
            have HE : Hid (∀ W, (∃ q, W = wr.drewN q) → Calls Tryz.prog 51 #[.slice (some ⟨gp, 0, none⟩) mp dp, .slice B2 mp2 dp2] W fun e w' => e = .returned (.bool false) ∧ ∃ q, w' = W.drewN q) := by
              have := hE.out
              rw [decide_eq_false hpp] at this
              exact this
            have hwr : IntKind.i64.wrap (run + 1) = run + 1 := IntWalk.i64_in _ (by omega)
            clear hr1 hpvs hpv hx hx2 hI2 hcw2 hE hpp hk0
            have hm1o : m1 = out := by rw [HM1.out, hr1e, Int.mul_one]
            subst hr1e
            subst hm1o
            have hw3 : wrap64 (m1 * s) = m2 := (IntWalk.i64_left (m1 * s)).symm.trans hw2
            clear HM1
            go_wp2_with fail
            go_quiet ((go_at_call 51; first | exact Calls.quiet_of (HE.out _ ⟨_, rfl⟩) | exact quiet_add (HE.out _ ⟨_, rfl⟩)))
            go_wp2_with fail
            clear hd1 hd3 hwr hwk hk00 hcp2
            go_wp2_with (go_at_call 27; refine (hRec.out _ (drewN_b wr _)).mono ?_; rintro e w9 ⟨rfl, b9⟩)
            have HB9 := hide (hb.out.trans (((drewN_b wr _).trans b9).mono zr))
            clear hw1 hw2 hcp b9
            go_roundw
            case rel => exact ⟨kk + 1 + 1, m2, 1, some p, by omega, by go_num, rfl, rfl, HGO.out, HOK.out, HPV.out, HB9.out⟩
            case measure => simp [intOf]; omega
      · obtain rfl : n8 = k := by omega
        have hE : Hid (out = symL (a :: rr)) := by
          show _ = _
          rw [hgo.out, List.drop_eq_nil_of_le (Nat.le_of_eq hl8.out), twGo]
        have HB := hide (B2.out.trans (hb.out.mono (by omega)))
        clear hgo hokk hpv
        go_wp2_with fail
        go_ret
        exact ⟨ret_int hE.out, HB.out⟩
end Go.Proofs.YtkaepjigmcielaaGreatDoor
/- Elementary differentials of shaded trees along paths: the reference's walk. -/
namespace Go.Proofs.YtkaepjigmcielaaGreatDoor
open Go.RowKit
set_option linter.unusedSimpArgs false
set_option linter.unusedVariables false
set_option maxRecDepth 20000

theorem shAl_len (dim n : Nat) (D : Nat → Jr n) : ∀ r ∈ Jr.rowsJ dim D, r.length = n := fun r hr => (Jr.rowsJ_num dim D r hr).1
end Go.Proofs.YtkaepjigmcielaaGreatDoor
