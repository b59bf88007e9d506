/- Coordinates moved by the weights of their colours: the reference's walk. -/
import Derived.Test.YtlmkjfgomlamhaaJetU
namespace Go.Proofs.Ytlmkjfgomlamhaa
open Go.RowKit
set_option linter.unusedSimpArgs false
set_option linter.unusedVariables false
set_option maxRecDepth 20000

theorem Lst.put2 {α : Type} {K : Kd α} {T : TypeId} {P : Nat → Prop} {w : World} {lo hi g n c : Nat} {vs : List Value} {xs : List α} (h : Lst K T P w lo hi (some ⟨g, 0, none⟩) n c vs xs) {l h' : Nat} {v : Value} {x : α} (hr : K.rd w l h' v x) (hlo : lo ≤ l) (h2 : h' ≤ hi) (hd : h' ≤ g ∨ g < l) {k : Nat} (hk : k < n) :
    Lst K T P (w.setCell ⟨g, k, none⟩ v) lo hi (some ⟨g, 0, none⟩) n c (vs.set k v) (xs.set k x) := by
  have hvl := h.vlen
  have hxl := h.len
  refine ⟨(h.own.stored k v).1, h.lt, by simpa using hxl, fun j y hy hP => ?_⟩
  by_cases e : j = k
  · subst e
    rw [List.getElem?_set_self (by omega)] at hy
    injection hy with hy
    subst hy
    exact ⟨v, l, h', List.getElem?_set_self (by omega), K.same hr (Same.setCell (p := ⟨g, j, none⟩) (Same.refl _ _ _) (hd.symm) _), hlo, h2, fun ad e => by injection e with e; subst e; exact hd⟩
  · rw [List.getElem?_set_ne (by omega)] at hy
    obtain ⟨u, l1, h1, e1, e2, e3, e4, e5⟩ := h.row j y hy hP
    refine ⟨u, l1, h1, by rw [List.getElem?_set_ne (by omega)]; exact e1, K.same e2 (Same.setCell (p := ⟨g, k, none⟩) (Same.refl _ _ _) ?_ _), e3, e4, e5⟩
    rcases e5 _ rfl with e7 | e7
    · exact .inr e7
    · exact .inl e7
theorem mixQ_keep {α : Type} {new old : List α} {k j : Nat} (h1 : new.length = k) (h2 : old.length = k) (hj : j < k) (hx : new[j]? = old[j]?) : mixQ new old (j + 1) = mixQ new old j := by
  have h3 : new[j]? = some (old[j]'(by omega)) := by rw [hx, List.getElem?_eq_getElem (by omega)]
  rw [← mixQ_set h1 h2 hj h3]
  apply List.ext_getElem?
  intro i
  by_cases e : i = j
  · subst e
    have hl : (mixQ new old i).length = k := by simp [mixQ, h1, h2]; omega
    rw [List.getElem?_set_self (by omega)]
    unfold mixQ
    rw [List.getElem?_append_right (by simp; omega)]
    simp only [List.length_take, h1, List.getElem?_drop]
    rw [show i + (i - min i k) = i by omega, List.getElem?_eq_getElem (by omega)]
  · rw [List.getElem?_set_ne (by omega)]
/-- the coordinates of colour 1 out of b, the others out of a -/
def selL (cs : List Int) (a b : List (List Int)) : List (List Int) := (List.range a.length).map fun i => if cs.getD i 0 = 1 then b.getD i [] else a.getD i []
theorem selL_len (cs : List Int) (a b : List (List Int)) : (selL cs a b).length = a.length := by simp [selL]
theorem selL_one {cs : List Int} {a b : List (List Int)} {i : Nat} {y : List Int} (h : i < a.length) (hc : cs[i]? = some 1) (hb : b[i]? = some y) : (selL cs a b)[i]? = some y := by
  simp only [selL, List.getElem?_map, List.getElem?_range h, Option.map_some]
  rw [show cs.getD i 0 = 1 by rw [List.getD, hc]; rfl, if_pos rfl, List.getD, hb]
  rfl
theorem selL_none {cs : List Int} {a b : List (List Int)} {i : Nat} {c : Int} (h : i < a.length) (hc : cs[i]? = some c) (hn : c ≠ 1) : (selL cs a b)[i]? = a[i]? := by
  simp only [selL, List.getElem?_map, List.getElem?_range h, Option.map_some]
  rw [show cs.getD i 0 = c by rw [List.getD, hc]; rfl, if_neg hn, List.getD, List.getElem?_eq_getElem h]
  rfl
theorem selL_num {n : Nat} {cs : List Int} {a b : List (List Int)} (ha : JNum n a) (hb : JNum n b) (hl : b.length = a.length) : JNum n (selL cs a b) := by
  intro r hr
  simp only [selL, List.mem_map, List.mem_range] at hr
  obtain ⟨i, hi, rfl⟩ := hr
  by_cases h : cs.getD i 0 = 1
  · rw [if_pos h]
    exact hb _ (by rw [List.getD, List.getElem?_eq_getElem (by omega)]; exact List.getElem_mem _)
  · rw [if_neg h]
    exact ha _ (by rw [List.getD, List.getElem?_eq_getElem (by omega)]; exact List.getElem_mem _)

set_option maxRecDepth 100000 in
set_option maxHeartbeats 8000000 in
theorem spec_l10Moved (gy dim cy : Nat) (yss : List (List Int)) (lo hi n : Nat) (C : Option Addr) (cC : Nat) (cs : List Int) (lo1 hi1 : Nat) (W : Option Addr) (nW cW : Nat) (ws : List Int) (lo2 hi2 : Nat) (V : Option Addr) (nV cV : Nat) (us : List Int) (lo4 hi4 : Nat) (A : Option Addr) (S cS : Nat) (st : List (List (List Int))) (lo3 hi3 : Nat) (w : World)
    (hy : Ints2 w lo hi (some ⟨gy, 0, none⟩) dim cy yss) (hc : Ints w lo1 hi1 C dim cC cs) (hw : Ints w lo2 hi2 W nW cW ws) (hu : Ints w lo4 hi4 V nV cV us) (hs : Ints3 w lo3 hi3 A S cS st) (hh : hi ≤ w.heap.size) (hh1 : hi1 ≤ w.heap.size) (hh2 : hi2 ≤ w.heap.size) (hh4 : hi4 ≤ w.heap.size) (hh3 : hi3 ≤ w.heap.size)
    (hN : JNum n yss) (hS : St3 n dim st) (hSW : S ≤ nW) (hSV : S ≤ nV) (hd0 : 0 < dim) (hd6 : dim ≤ 6) (hn0 : 0 < n) (hn : n ≤ 1000) (hS2 : S ≤ 1000) :
    Calls Try.prog 30 #[.slice (some ⟨gy, 0, none⟩) dim cy, .slice C dim cC, .slice W nW cW, .slice V nV cV, .slice A S cS] w fun e w' => ∃ gR cR, e = .returned (.slice (some ⟨gR, 0, none⟩) dim cR) ∧ Ints2 w' w.heap.size w'.heap.size (some ⟨gR, 0, none⟩) dim cR (selL cs (movL yss ws st) (movL yss us st)) ∧ Below w.heap.size w w' := by
  have hcC := hc.cap
  have hmC := hc.max
  have HC := hide hc
  have hyl := hide hy.len
  have HA := hide (spec_l8Moved gy dim cy yss lo hi n W nW cW ws lo2 hi2 A S cS st lo3 hi3 w hy hw hs hh hh2 hh3 hN hS hSW hd0 hd6 hn0 hn hS2)
  have HB0 := hide fun (w1 : World) (hB : Below w.heap.size w w1) (hz : w.heap.size ≤ w1.heap.size) => spec_l8Moved gy dim cy yss lo hi n V nV cV us lo4 hi4 A S cS st lo3 hi3 w1 (hy.below hB hh) (hu.below hB hh4) (hs.below hB hh3) (by omega) (by omega) (by omega) hN hS hSV hd0 hd6 hn0 hn hS2
  have hal : Hid ((movL yss ws st).length = dim) := by show _ = _; rw [movL_len, hy.len]
  have hbl : Hid ((movL yss us st).length = dim) := by show _ = _; rw [movL_len, hy.len]
  have hsl : Hid ((selL cs (movL yss ws st) (movL yss us st)).length = dim) := by show _ = _; rw [selL_len, hal.out]
  clear hy hc hw hu hs hN hS
  go_enter Try.func30, Try.ntmps30
  go_wp2_with (first
    | (go_at_call 52; refine HA.out.mono ?_; rintro e w1 ⟨gA, cA, vs, rfl, hLA, hb1⟩; have hz1 := hb1.size; have HB := hide (HB0.out w1 hb1 hz1); have HLA := hide hLA; have Hb1 := hide hb1; clear HA HB0 hLA hb1)
    | (go_at_call 52; refine HB.out.mono ?_; rintro e w2 ⟨gB, cB, vs2, rfl, hLB, hb2⟩; have hz2 := hb2.size; have HLB := hide hLB.ints2; have HL2 := hide (HLA.out.below hb2 (Nat.le_refl _)); have Hb2 := hide (Hb1.out.trans (hb2.mono hz1)); clear HB hLB hb2))
  have hcA := HL2.out.capb
  have hgA := HL2.out.lt _ rfl
  have hcB := HLB.out.cap
  have hmB := HLB.out.max
  simp only at hgA
  have HLs := hide (HL2.out.wide hz2)
  rw [← mixQ_zero (selL cs (movL yss ws st) (movL yss us st)) (movL yss ws st)] at HLs
  have hZ0 : Hid (w2.heap.size ≤ w2.heap.size) := Nat.le_refl _
  obtain ⟨z1, hz⟩ : ∃ z, z = w1.heap.size := ⟨_, rfl⟩
  obtain ⟨z2, hzz⟩ : ∃ z, z = w2.heap.size := ⟨_, rfl⟩
  rw [← hz] at HLB hgA hz1 hz2
  rw [← hzz] at HLB HLs hz2
  have hZ0 : Hid (z2 ≤ w2.heap.size) := Nat.le_of_eq hzz
  clear hz hzz HL2 HLA Hb1
  go_loopw [13] (fun i wr => ∃ (q : Nat) (vs : List Value), q ≤ dim ∧ i = .int .i64 q ∧ Hid (Lst kI 22 (fun _ => True) wr w.heap.size z2 (some ⟨gA, 0, none⟩) dim cA vs (mixQ (selL cs (movL yss ws st) (movL yss us st)) (movL yss ws st) q)) ∧ Hid (Below w.heap.size w wr) ∧ Hid (Ints2 wr z1 z2 (some ⟨gB, 0, none⟩) dim cB (movL yss us st)) ∧ Hid (z2 ≤ wr.heap.size)) (fun i _ => dim - (intOf i).toNat)
  case atStart => exact ⟨0, vs, by omega, rfl, HLs.out, Hb2.out, HLB.out, hZ0.out⟩
  case round =>
    clear HLs HLB Hb2 hZ0
    obtain ⟨q, vs, hq, rfl, hL, hb, hB, hZ⟩ := hrel
    by_cases hlt : q < dim
    · obtain ⟨ac, c, rfl, hcc, hcr, _, hcx⟩ := (HC.out.below hb.out hh1).at_ hlt
      by_cases hc1 : c = 1
      · subst hc1
        obtain ⟨ab, Bv, m, d, y, e, hcb, hIb, _, hbx⟩ := hB.out.at_ hlt
        injection e with e
        subst e
        have hcb1 : wr.cell? ⟨gB, q, none⟩ = some (.slice Bv m d) := by simpa [Addr.add_lit] using hcb
        have hvl := hL.out.vlen
        have hca : wr.cell? ⟨gA, q, none⟩ = some (vs[q]'(by omega)) := (hL.out.own.cellAt q (by omega)).trans (List.getElem?_eq_getElem (by omega))
        have hfa := hL.out.own.frozenAt q
        have hglo := (hL.out.own.lt gA rfl).1
        have hNw := hL.out.put2 (v := .slice Bv m d) (x := y) (k := q) ⟨Bv, m, d, rfl, hIb⟩ (by omega) (Nat.le_refl _) (.inr hgA) hlt
        rw [mixQ_set hsl.out hal.out hlt (selL_one (by rw [hal.out]; exact hlt) hcx.out hbx.out)] at hNw
        have HN := hide hNw
        have HbN := hide (hb.out.setCell (p := ⟨gA, q, none⟩) hglo (.slice Bv m d))
        have HBN := hide (hB.out.same (Same.setCell (p := ⟨gA, q, none⟩) (Same.refl _ _ _) (.inl hgA) (.slice Bv m d)))
        have hZN : Hid (z2 ≤ (wr.setCell ⟨gA, q, none⟩ (.slice Bv m d)).heap.size) := by
          show _ ≤ _
          have := hZ.out
          simpa [World.setCell] using this
        clear hcb hIb hbx hcx hNw hL hb hB hZ hglo
        go_wp2_with fail
        go_roundw
        case rel => exact ⟨q + 1, _, by omega, by go_num, HN.out, HbN.out, HBN.out, hZN.out⟩
        case measure => simp [intOf]; omega
      · have hNw := hL.out
        rw [← mixQ_keep hsl.out hal.out hlt (selL_none (by rw [hal.out]; exact hlt) hcx.out hc1)] at hNw
        have HN := hide hNw
        have hcne : (c == 1) = false := by simpa using hc1
        clear hcx hNw hL hc1
        go_wp2_with fail
        go_roundw
        case rel => exact ⟨q + 1, _, by omega, by go_num, HN.out, hb.out, hB.out, hZ.out⟩
        case measure => simp [intOf]; omega
    · obtain rfl : dim = q := by omega
      have hE := hL.out
      rw [mixQ_all hsl.out hal.out] at hE
      have HE := hide (hE.ints2.wide2 (Nat.le_refl _) hZ.out)
      clear hL hE
      go_wp2_with fail
      go_ret
      exact ⟨_, _, rfl, HE.out, hb.out⟩
end Go.Proofs.Ytlmkjfgomlamhaa
