/- Polynomials and fields: copies and comparisons. -/
import Derived.Test.YtjamdnbabfodkaaMono
namespace Go.Proofs.Ytjamdnbabfodkaa
open Go.RowKit
set_option linter.unusedSimpArgs false
set_option linter.unusedVariables false
set_option maxRecDepth 20000

theorem info_mono : (Try.prog.info? 53).map (fun i => (i.zero, i.size, i.bytes)) = some (some (.agg #[.int .i64 0, .slice none 0 0]), 2, 32) := by kernel_rfl
theorem info_monos : (Try.prog.info? 54).map (fun i => (i.zero, i.size, i.bytes)) = some (some (.slice none 0 0), 1, 24) := by kernel_rfl

set_option maxHeartbeats 2000000 in
theorem laws_toMonomialS (A : Option Addr) (n c : Nat) (ms : List Mono) (lo hi : Nat) (w : World) (h : Mons w lo hi A n c ms) (hh : hi ≤ w.heap.size) (hn : n ≤ 1048576) (hr : ∀ m ∈ ms, m.2.length ≤ 1048576) :
    Calls Try.prog 58 #[.slice A n c] w fun e w' => ∃ A' c', e = .returned (.slice A' n c') ∧ Mons w' w.heap.size w'.heap.size A' n c' ms ∧ Below w.heap.size w w' := by
  obtain ⟨i0, hi0, hz0, hz1, hz2⟩ := info_parts info_mono
  have hcp := h.cap
  have hm := h.max
  have HR := hide hr
  clear hr
  go_enter Try.func58, Try.ntmps58
  go_wp2_with (at_make; refine wpList_make_full _ rfl _ _ 54 rfl w.heap.size 53 i0 (.agg #[.int .i64 0, .slice none 0 0]) 2 Try.underlying54 hi0 hz0 hz1 .i64 .i64 n n n rfl rfl rfl rfl (by rw [hz2]; omega) (by unfold maxLen; omega) (Nat.le_refl _) ?_; intro w1 hown hg1)
  have hs1 : w.heap.size < w1.heap.size := (hown.lt w.heap.size rfl).2
  have hb1 : Below w.heap.size w w1 := (Below.refl _ _).grown hg1 (Nat.le_refl _) (by simp)
  clear hg1
  go_loopw [4] (fun i wr => ∃ (k : Nat) (vs : List Value), k ≤ n ∧ i = .int .i64 k ∧ Hid (wr.ownsRow w.heap.size 53 2 (.slice (some ⟨w.heap.size, 0, none⟩) n n) n vs) ∧ Hid (Below w.heap.size w wr) ∧ w.heap.size < wr.heap.size ∧ Hid (vs.length = n * 2 ∧ ∀ j, j < k → ∃ x B m d xs, vs[j * 2]? = some (.int .i64 x) ∧ vs[j * 2 + 1]? = some (.slice B m d) ∧ ms[j]? = some (x, xs) ∧ R64 x ∧ Ints wr (w.heap.size + 1) wr.heap.size B m d xs))
    (fun i _ => n - (intOf i).toNat)
  case atStart =>
    refine ⟨0, _, by omega, rfl, hown, hb1, hs1, ?_, fun j hj => absurd hj (by omega)⟩
    have := hown.1
    simpa using this
  case round =>
    obtain ⟨k, vs, hk, rfl, hown', hb', hs', hys⟩ := hrel
    by_cases hlt : k < n
    · obtain ⟨ad, x, B, m, d, xs, rfl, hc1, hc2, hxr, hi1, _, hx⟩ := (h.below hb'.out hh).at_ hlt
      have hml : m ≤ 1048576 := by
        have := HR.out (x, xs) (List.mem_of_getElem? hx.out)
        have := hi1.len
        simp only at *
        omega
      have hT := hide (laws_toMonomial x B m d xs lo hi wr hi1 (Nat.le_trans hh hb'.out.size) hml)
      have hvl := hys.out.1
      obtain ⟨v0, hv0⟩ : ∃ v0, vs[k * 2]? = some v0 := ⟨_, List.getElem?_eq_getElem (by omega)⟩
      obtain ⟨v1, hv1⟩ : ∃ v1, vs[k * 2 + 1]? = some v1 := ⟨_, List.getElem?_eq_getElem (by omega)⟩
      clear hi1
      go_wp2_with fail
      refine hT.out.mono ?_
      rintro e w2 ⟨B2, d2, rfl, o2, b2⟩
      have z2 := b2.size
      have own2 : w2.ownsRow w.heap.size 53 2 (.slice (some ⟨w.heap.size, 0, none⟩) n n) n vs := owns_same hown'.out fun ad e => by
        injection e with e
        subst e
        exact b2.block _ hs'
      have hc3 : w2.cell? ⟨w.heap.size, k * 2, none⟩ = some v0 := by
        rw [own2.cellAt (k * 2) (by omega)]
        exact hv0
      have hc4 : w2.cell? ⟨w.heap.size, k * 2 + 1, none⟩ = some v1 := by
        rw [own2.cellAt (k * 2 + 1) (by omega)]
        exact hv1
      have hf3 := own2.frozenAt (k * 2)
      have hf4 := own2.frozenAt (k * 2 + 1)
      have hst := own2.stored (k * 2) (.int .i64 x)
      have hst2 := hst.1.stored (k * 2 + 1) (.slice B2 m d2)
      have hb2 : Below w.heap.size w ((w2.setCell ⟨w.heap.size, k * 2, none⟩ (.int .i64 x)).setCell ⟨w.heap.size, k * 2 + 1, none⟩ (.slice B2 m d2)) := ((hb'.out.trans (b2.mono hb'.out.size)).setCell (Nat.le_refl _) _).setCell (Nat.le_refl _) _
      have hs3 : w.heap.size < ((w2.setCell ⟨w.heap.size, k * 2, none⟩ (.int .i64 x)).setCell ⟨w.heap.size, k * 2 + 1, none⟩ (.slice B2 m d2)).heap.size := by simp [World.setCell]; omega
      have hvs : Hid (((vs.set (k * 2) (.int .i64 x)).set (k * 2 + 1) (.slice B2 m d2)).length = n * 2 ∧ ∀ j, j < k + 1 → ∃ x' B m' d xs, ((vs.set (k * 2) (.int .i64 x)).set (k * 2 + 1) (.slice B2 m d2))[j * 2]? = some (.int .i64 x') ∧ ((vs.set (k * 2) (.int .i64 x)).set (k * 2 + 1) (.slice B2 m d2))[j * 2 + 1]? = some (.slice B m' d) ∧ ms[j]? = some (x', xs) ∧ R64 x' ∧ Ints ((w2.setCell ⟨w.heap.size, k * 2, none⟩ (.int .i64 x)).setCell ⟨w.heap.size, k * 2 + 1, none⟩ (.slice B2 m d2)) (w.heap.size + 1) ((w2.setCell ⟨w.heap.size, k * 2, none⟩ (.int .i64 x)).setCell ⟨w.heap.size, k * 2 + 1, none⟩ (.slice B2 m d2)).heap.size B m' d xs) := by
        refine ⟨by simpa using hvl, fun j hj => ?_⟩
        have hsz3 : ((w2.setCell ⟨w.heap.size, k * 2, none⟩ (.int .i64 x)).setCell ⟨w.heap.size, k * 2 + 1, none⟩ (.slice B2 m d2)).heap.size = w2.heap.size := by simp [World.setCell]
        rw [hsz3]
        have hsame : Same (w.heap.size + 1) w2.heap.size w2 ((w2.setCell ⟨w.heap.size, k * 2, none⟩ (.int .i64 x)).setCell ⟨w.heap.size, k * 2 + 1, none⟩ (.slice B2 m d2)) := Same.setCell (p := ⟨w.heap.size, k * 2 + 1, none⟩) (Same.setCell (p := ⟨w.heap.size, k * 2, none⟩) (Same.refl _ _ _) (.inl (Nat.lt_succ_self w.heap.size)) _) (.inl (Nat.lt_succ_self w.heap.size)) _
        by_cases hjk : j = k
        · subst hjk
          refine ⟨x, B2, m, d2, xs, ?_, ?_, hx.out, hxr, ?_⟩
          · rw [List.getElem?_set_ne (by omega), List.getElem?_set_self (by omega)]
          · rw [List.getElem?_set_self (by simp; omega)]
          · exact (o2.ints.wide (by omega) (Nat.le_refl _)).same hsame
        · obtain ⟨x3, B3, m3, d3, xs3, h1, h1', h2, h2', h3⟩ := hys.out.2 j (by omega)
          refine ⟨x3, B3, m3, d3, xs3, ?_, ?_, h2, h2', ?_⟩
          · rw [List.getElem?_set_ne (by omega), List.getElem?_set_ne (by omega)]; exact h1
          · rw [List.getElem?_set_ne (by omega), List.getElem?_set_ne (by omega)]; exact h1'
          · exact (((h3.below b2 (Nat.le_refl _)).wide (Nat.le_refl _) z2)).same hsame
      have HS := hide (And.intro hst2.1 (And.intro hb2 hs3))
      clear hst hst2 hb2 hs3 hown' hb' hs' hys own2 o2 hx hvl hxr
      go_wp2_with fail
      go_roundw
      case rel => exact ⟨k + 1, _, by omega, by go_num, HS.out.1, HS.out.2.1, HS.out.2.2, hvs⟩
      case measure => simp [intOf]; omega
    · obtain rfl : k = n := by omega
      have hl := h.len
      have HB := hb'.out
      have R : Mons wr w.heap.size wr.heap.size (some ⟨w.heap.size, 0, none⟩) k k ms := by
        refine ⟨hl, Nat.le_refl _, by omega, fun _ => ⟨_, rfl, Nat.le_refl _, hs', fun j m hx => ?_⟩⟩
        have hj := (List.getElem?_eq_some_iff.1 hx).1
        obtain ⟨x3, B3, m3, d3, xs3, h1, h1', h2, h2', h3⟩ := hys.out.2 j (by omega)
        rw [hx] at h2
        injection h2 with h2
        subst h2
        have e1 := hown'.out.cells (g := w.heap.size) rfl (j * 2) _ h1
        have e2 := hown'.out.cells (g := w.heap.size) rfl (j * 2 + 1) _ h1'
        refine ⟨e1, h2', B3, m3, d3, ?_, h3.wide (by omega) (Nat.le_refl _)⟩
        rw [Addr.add_lit] at e2
        rw [Addr.add_lit]
        exact e2
      clear hown' hb' hys
      go_wp2_with fail
      go_ret
      exact ⟨_, _, rfl, R, HB⟩

set_option maxHeartbeats 1000000 in
theorem laws_toMonomialSS (A : Option Addr) (n c : Nat) (xss : List (List Mono)) (lo hi : Nat) (w : World) (h : Mons2 w lo hi A n c xss) (hh : hi ≤ w.heap.size) (hn : n ≤ 1048576) (hr : ∀ xs ∈ xss, xs.length ≤ 1048576 ∧ ∀ m ∈ xs, m.2.length ≤ 1048576) :
    Calls Try.prog 33 #[.slice A n c] w fun e w' => ∃ A' c', e = .returned (.slice A' n c') ∧ Mons2 w' w.heap.size w'.heap.size A' n c' xss ∧ Below w.heap.size w w' := by
  obtain ⟨i0, hi0, hz0, hz1, hz2⟩ := info_parts info_monos
  have hcp := h.cap
  have hm := h.max
  have HR := hide hr
  clear hr
  go_enter Try.func33, Try.ntmps33
  go_wp2_with (at_make; refine wpList_make_full _ rfl _ _ 34 rfl w.heap.size 54 i0 (.slice none 0 0) 1 Try.underlying34 hi0 hz0 hz1 .i64 .i64 n n n rfl rfl rfl rfl (by rw [hz2]; omega) (by unfold maxLen; omega) (Nat.le_refl _) ?_; intro w1 hown hg1)
  have hs1 : w.heap.size < w1.heap.size := (hown.lt w.heap.size rfl).2
  have hb1 : Below w.heap.size w w1 := (Below.refl _ _).grown hg1 (Nat.le_refl _) (by simp)
  clear hg1
  go_loopw [4] (fun i wr => ∃ (k : Nat) (vs : List Value), k ≤ n ∧ i = .int .i64 k ∧ Hid (wr.ownsRow w.heap.size 54 1 (.slice (some ⟨w.heap.size, 0, none⟩) n n) n vs) ∧ Hid (Below w.heap.size w wr) ∧ w.heap.size < wr.heap.size ∧ Hid (vs.length = n ∧ ∀ j, j < k → ∃ B m d xs, vs[j]? = some (.slice B m d) ∧ xss[j]? = some xs ∧ Mons wr (w.heap.size + 1) wr.heap.size B m d xs))
    (fun i _ => n - (intOf i).toNat)
  case atStart =>
    refine ⟨0, _, by omega, rfl, hown, hb1, hs1, ?_, fun j hj => absurd hj (by omega)⟩
    have := hown.1
    simpa using this
  case round =>
    obtain ⟨k, vs, hk, rfl, hown', hb', hs', hys⟩ := hrel
    by_cases hlt : k < n
    · obtain ⟨ad, B, m, d, xs, rfl, hc, hi1, _, hx⟩ := (h.below hb'.out hh).at_ hlt
      have hml : m ≤ 1048576 := by
        have := (HR.out xs (List.mem_of_getElem? hx.out)).1
        have := hi1.len
        omega
      have hrows := (HR.out xs (List.mem_of_getElem? hx.out)).2
      have hT := hide (laws_toMonomialS B m d xs lo hi wr hi1 (Nat.le_trans hh hb'.out.size) hml hrows)
      have hvl := hys.out.1
      obtain ⟨v0, hv0⟩ : ∃ v0, vs[k]? = some v0 := ⟨_, List.getElem?_eq_getElem (by omega)⟩
      clear hi1 hvl hrows
      go_wp2_with fail
      refine hT.out.mono ?_
      rintro e w2 ⟨B2, d2, rfl, o2, b2⟩
      have z2 := b2.size
      have own2 : w2.ownsRow w.heap.size 54 1 (.slice (some ⟨w.heap.size, 0, none⟩) n n) n vs := owns_same hown'.out fun ad e => by
        injection e with e
        subst e
        exact b2.block _ hs'
      have hc2 : w2.cell? ⟨w.heap.size, k, none⟩ = some v0 := by
        rw [own2.cellAt k (by omega)]
        exact hv0
      have hf2 := own2.frozenAt k
      have hst := own2.stored k (.slice B2 m d2)
      have hb2 : Below w.heap.size w (w2.setCell ⟨w.heap.size, k, none⟩ (.slice B2 m d2)) := (hb'.out.trans (b2.mono hb'.out.size)).setCell (Nat.le_refl _) _
      have hs2 : w.heap.size < (w2.setCell ⟨w.heap.size, k, none⟩ (.slice B2 m d2)).heap.size := by simpa [World.setCell] using (by omega : w.heap.size < w2.heap.size)
      have hvs : Hid ((vs.set k (.slice B2 m d2)).length = n ∧ ∀ j, j < k + 1 → ∃ B m' d xs, (vs.set k (.slice B2 m d2))[j]? = some (.slice B m' d) ∧ xss[j]? = some xs ∧ Mons (w2.setCell ⟨w.heap.size, k, none⟩ (.slice B2 m d2)) (w.heap.size + 1) (w2.setCell ⟨w.heap.size, k, none⟩ (.slice B2 m d2)).heap.size B m' d xs) := by
        refine ⟨by simpa using hys.out.1, fun j hj => ?_⟩
        have hsz3 : (w2.setCell ⟨w.heap.size, k, none⟩ (.slice B2 m d2)).heap.size = w2.heap.size := by simp [World.setCell]
        rw [hsz3]
        have hsame : Same (w.heap.size + 1) w2.heap.size w2 (w2.setCell ⟨w.heap.size, k, none⟩ (.slice B2 m d2)) := Same.setCell (p := ⟨w.heap.size, k, none⟩) (Same.refl _ _ _) (.inl (Nat.lt_succ_self w.heap.size)) _
        by_cases hjk : j = k
        · subst hjk
          refine ⟨B2, m, d2, xs, ?_, hx.out, ?_⟩
          · rw [List.getElem?_set_self (by have := hys.out.1; omega)]
          · exact (o2.wide (by omega) (Nat.le_refl _)).same hsame
        · obtain ⟨B3, m3, d3, xs3, h1, h2, h3⟩ := hys.out.2 j (by omega)
          refine ⟨B3, m3, d3, xs3, ?_, h2, ?_⟩
          · rw [List.getElem?_set_ne (by omega)]; exact h1
          · exact (((h3.below b2 (Nat.le_refl _)).wide (Nat.le_refl _) z2)).same hsame
      have HS := hide (And.intro hst.1 (And.intro hb2 hs2))
      clear hst hb2 hs2 hown' hb' hs' hys own2 o2 hx
      go_wp2_with fail
      go_roundw
      case rel => exact ⟨k + 1, _, by omega, by go_num, HS.out.1, HS.out.2.1, HS.out.2.2, hvs⟩
      case measure => simp [intOf]; omega
    · obtain rfl : k = n := by omega
      have hl := h.len
      have HB := hb'.out
      have R : Mons2 wr w.heap.size wr.heap.size (some ⟨w.heap.size, 0, none⟩) k k xss := by
        refine ⟨hl, Nat.le_refl _, by omega, fun _ => ⟨_, rfl, Nat.le_refl _, hs', fun j xs hx => ?_⟩⟩
        have hj := (List.getElem?_eq_some_iff.1 hx).1
        obtain ⟨B3, m3, d3, xs3, h1, h2, h3⟩ := hys.out.2 j (by omega)
        rw [hx] at h2
        injection h2 with h2
        subst h2
        refine ⟨B3, m3, d3, ?_, h3.wide (by omega) (Nat.le_refl _)⟩
        rw [hown'.out.cells (g := w.heap.size) rfl j _ h1]
      clear hown' hb' hys
      go_wp2_with fail
      go_ret
      exact ⟨_, _, rfl, R, HB⟩

theorem laws_toField (o : Int) (A : Option Addr) (n c : Nat) (xs : List (List Mono)) (lo hi : Nat) (w : World) (h : Mons2 w lo hi A n c xs) (hh : hi ≤ w.heap.size) (hn : n ≤ 1048576) (hr : ∀ p ∈ xs, p.length ≤ 1048576 ∧ ∀ m ∈ p, m.2.length ≤ 1048576) :
    Calls Try.prog 8 #[.agg #[.int .i64 o, .slice A n c]] w fun e w' => ∃ A' c', e = .returned (.agg #[.int .i64 o, .slice A' n c']) ∧ Mons2 w' w.heap.size w'.heap.size A' n c' xs ∧ Below w.heap.size w w' := by
  have hcp := h.cap
  have hm := h.max
  go_enter Try.func8, Try.ntmps8
  go_wp2_with fail
  refine (laws_toMonomialSS A n c xs lo hi _ (h.below (B := w.heap.size) (by (repeat (first | with_reducible exact Below.refl _ _ | with_reducible exact Below.refl _ _ | with_reducible refine Below.drew ?_ | ((with_reducible refine Below.alloc ?_ ?_ _); rotate_left; · first | omega | (simp [World.setCell]; done) | (simp [World.setCell]; omega)) | ((with_reducible refine Below.setCell ?_ ?_ _); rotate_left; · first | exact Nat.le_refl _ | omega | (simp; done) | (simp; omega))))) hh) (by simp; omega) hn hr).mono ?_
  rintro e w1 ⟨A1, c1, rfl, o1, b1⟩
  obtain ⟨p20, p21, f20, f21, hlt2⟩ := res2 b1
  obtain ⟨p10, p11, f10, f11, hlt1⟩ := res2 (below_alloc_inv b1)
  simp at p10 p11 p20 p21 f10 f11 f20 f21 hlt1 hlt2
  have b2 : Below w.heap.size w w1 := below_alloc_inv (below_alloc_inv (below_alloc_inv b1))
  have HO : Hid (Mons2 w1 (w.heap.size + 1 + 1 + 1) w1.heap.size A1 n c1 xs) := o1.wide (by simp) (Nat.le_refl _)
  clear b1 o1
  go_wp2_with fail
  refine bodyPost_ret (v := .agg #[.int .i64 o, .slice A1 n c1]) (by simp [results, Try.results8, go_sem, p10, p11, p20, p21, hlt1, hlt2]) rfl ⟨_, _, rfl, ?_, ?_⟩
  · refine (Mons2.same HO.out ?_).wide (by omega) ?_
    · (repeat (first | with_reducible exact Same.refl _ _ _ | with_reducible refine Same.drew ?_ | ((with_reducible refine Same.alloc ?_ ?_ _); rotate_left; · first | omega | (simp [World.setCell]; done) | (simp [World.setCell]; omega)) | ((with_reducible refine Same.setCell ?_ ?_ _); rotate_left; · first | omega | (simp; done) | (simp; omega))))
    · simp [World.setCell]
  · (repeat (first | with_reducible exact b2 | with_reducible exact Below.refl _ _ | with_reducible refine Below.drew ?_ | ((with_reducible refine Below.alloc ?_ ?_ _); rotate_left; · first | omega | (simp [World.setCell]; done) | (simp [World.setCell]; omega)) | ((with_reducible refine Below.setCell ?_ ?_ _); rotate_left; · first | exact Nat.le_refl _ | omega | (simp; done) | (simp; omega))))


set_option maxRecDepth 100000 in
set_option maxHeartbeats 2000000 in
theorem laws_eqMonomialS (A : Option Addr) (n c : Nat) (xs : List Mono) (lo hi : Nat) (B : Option Addr) (m d : Nat) (ys : List Mono) (lo' hi' : Nat) (w : World) (h : Mons w lo hi A n c xs) (g : Mons w lo' hi' B m d ys) (hh : hi ≤ w.heap.size) (gh : hi' ≤ w.heap.size) :
    Calls Try.prog 71 #[.slice A n c, .slice B m d] w fun e w' => e = .returned (.bool (decide (xs = ys))) ∧ Below w.heap.size w w' := by
  have hcp := h.cap
  have hm := h.max
  have gcp := g.cap
  have gm := g.max
  by_cases hnm : n = m
  · subst hnm
    go_enter Try.func71, Try.ntmps71
    go_wp2_with fail
    go_loopw [5] (fun i wr => ∃ (k : Nat), k ≤ n ∧ i = .int .i64 k ∧ Hid (Below w.heap.size w wr) ∧ Hid (xs.take k = ys.take k)) (fun i _ => n - (intOf i).toNat)
    case atStart => exact ⟨0, by omega, rfl, Below.refl _ _, rfl⟩
    case round =>
      obtain ⟨k, hk, rfl, hb, hr⟩ := hrel
      by_cases hlt : k < n
      · have hsz := hb.out.size
        have H1 := h.below hb.out hh
        have G1 := g.below hb.out gh
        obtain ⟨ad, x, B1, m1, d1, px, rfl, hc1, hc2, _, hi1, _, hx⟩ := H1.at_ hlt
        obtain ⟨ae, y, B2, m2, d2, py, rfl, hd1, hd2, _, hi2, _, hy⟩ := G1.at_ hlt
        have hlt' : (k : Int) < n := by omega
        have HE := hide (laws_eqMonomial x B1 m1 d1 px lo hi y B2 m2 d2 py lo' hi' wr.drew (hi1.same fun _ _ _ => rfl) (hi2.same fun _ _ _ => rfl) (Nat.le_trans hh hsz) (Nat.le_trans gh hsz))
        cases hxy : decide ((x, px) = (y, py)) with
        | true =>
          have hxy' : (x, px) = (y, py) := of_decide_eq_true hxy
          rw [hxy] at HE
          have ht : Hid (xs.take (k + 1) = ys.take (k + 1)) := take_snoc2 hr.out hx.out (by rw [hy.out, hxy'])
          clear hxy hxy' hx hy H1 G1
          go_wp2_with fail
          go_region_held3 (fun w' => w'.cell? (ad.add (k * 2)) = some (.int .i64 x) ∧ w'.cell? ⟨(ad.add (k * 2)).block, (ad.add (k * 2)).off + 1, none⟩ = some (.slice B1 m1 d1) ∧ w'.cell? (ae.add (k * 2)) = some (.int .i64 y) ∧ w'.cell? ⟨(ae.add (k * 2)).block, (ae.add (k * 2)).off + 1, none⟩ = some (.slice B2 m2 d2)) (first | exact ⟨hc1, hc2, hd1, hd2⟩ | go_keep)
            (first
              | (go_at_call 86; refine HE.out.mono ?_; rintro e w2 ⟨rfl, bF0⟩; have bF : Below wr.heap.size wr w2 := ((Below.refl _ wr).drew).trans bF0; have T0 := And.intro ((bF.cell (World.block_lt_of_cell? wr _ hc1)).trans hc1) (And.intro ((bF.cell (World.block_lt_of_cell? wr _ hc2)).trans hc2) (And.intro ((bF.cell (World.block_lt_of_cell? wr _ hd1)).trans hd1) ((bF.cell (World.block_lt_of_cell? wr _ hd2)).trans hd2)))))
          have HB : Hid (Below w.heap.size w w2) := hb.out.trans (bF.mono hsz)
          clear bF bF0 T0 HE hb
          go_wp2_with fail
          go_roundw
          case rel => exact ⟨k + 1, by omega, by go_num, HB, ht⟩
          case measure => simp [intOf]; omega
        | false =>
          have hxy' : ¬ (x, px) = (y, py) := of_decide_eq_false hxy
          rw [hxy] at HE
          have hF : Hid (decide (xs = ys) = false) := decide_eq_false fun e => by
            have h1 := hx.out
            rw [e, hy.out] at h1
            exact hxy' (by injection h1 with h1; exact h1.symm)
          clear hxy hxy' hx hy H1 G1
          go_wp2_with fail
          go_region_held3 (fun w' => w'.cell? (ad.add (k * 2)) = some (.int .i64 x) ∧ w'.cell? ⟨(ad.add (k * 2)).block, (ad.add (k * 2)).off + 1, none⟩ = some (.slice B1 m1 d1) ∧ w'.cell? (ae.add (k * 2)) = some (.int .i64 y) ∧ w'.cell? ⟨(ae.add (k * 2)).block, (ae.add (k * 2)).off + 1, none⟩ = some (.slice B2 m2 d2)) (first | exact ⟨hc1, hc2, hd1, hd2⟩ | go_keep)
            (first
              | (go_at_call 86; refine HE.out.mono ?_; rintro e w2 ⟨rfl, bF0⟩; have bF : Below wr.heap.size wr w2 := ((Below.refl _ wr).drew).trans bF0; have T0 := And.intro ((bF.cell (World.block_lt_of_cell? wr _ hc1)).trans hc1) (And.intro ((bF.cell (World.block_lt_of_cell? wr _ hc2)).trans hc2) (And.intro ((bF.cell (World.block_lt_of_cell? wr _ hd1)).trans hd1) ((bF.cell (World.block_lt_of_cell? wr _ hd2)).trans hd2)))))
          have HB := hb.out.trans (bF.mono hsz)
          clear bF bF0 T0 HE hb
          go_wp2_with fail
          go_ret
          exact ⟨ret_bool hF.out.symm, HB⟩
      · obtain rfl : k = n := by omega
        have HB := hb.out
        have hF : Hid (decide (xs = ys) = true) := by
          show _ = _
          have h1 := hr.out
          have h2 := h.len
          have h3 := g.len
          rw [List.take_of_length_le (by omega), List.take_of_length_le (by omega)] at h1
          simpa using h1
        go_wp2_with fail
        go_ret
        exact ⟨ret_bool hF.out.symm, HB⟩
  · have hne : ((n : Int) != (m : Int)) = true := by simpa using (by omega : ¬ (n : Int) = m)
    have hF : Hid (decide (xs = ys) = false) := decide_eq_false fun e => hnm (by rw [← h.len, ← g.len, e])
    clear hnm
    go_enter Try.func71, Try.ntmps71
    go_wp2_with fail
    go_ret
    exact ⟨ret_bool hF.out.symm, Below.refl _ _⟩

set_option maxRecDepth 100000 in
set_option maxHeartbeats 2000000 in
theorem laws_eqMonomialSS (A : Option Addr) (n c : Nat) (xs : List (List Mono)) (lo hi : Nat) (B : Option Addr) (m d : Nat) (ys : List (List Mono)) (lo' hi' : Nat) (w : World) (h : Mons2 w lo hi A n c xs) (g : Mons2 w lo' hi' B m d ys) (hh : hi ≤ w.heap.size) (gh : hi' ≤ w.heap.size) :
    Calls Try.prog 44 #[.slice A n c, .slice B m d] w fun e w' => e = .returned (.bool (decide (xs = ys))) ∧ Below w.heap.size w w' := by
  have hcp := h.cap
  have hm := h.max
  have gcp := g.cap
  have gm := g.max
  by_cases hnm : n = m
  · subst hnm
    go_enter Try.func44, Try.ntmps44
    go_wp2_with fail
    go_loopw [5] (fun i wr => ∃ (k : Nat), k ≤ n ∧ i = .int .i64 k ∧ Hid (Below w.heap.size w wr) ∧ Hid (xs.take k = ys.take k)) (fun i _ => n - (intOf i).toNat)
    case atStart => exact ⟨0, by omega, rfl, Below.refl _ _, rfl⟩
    case round =>
      obtain ⟨k, hk, rfl, hb, hr⟩ := hrel
      by_cases hlt : k < n
      · have hsz := hb.out.size
        have H1 := h.below hb.out hh
        have G1 := g.below hb.out gh
        obtain ⟨ad, B1, m1, d1, px, rfl, hc1, hi1, _, hx⟩ := H1.at_ hlt
        obtain ⟨ae, B2, m2, d2, py, rfl, hd1, hi2, _, hy⟩ := G1.at_ hlt
        have hlt' : (k : Int) < n := by omega
        have HE := hide (laws_eqMonomialS B1 m1 d1 px lo hi B2 m2 d2 py lo' hi' wr.drew (hi1.same fun _ _ _ => rfl) (hi2.same fun _ _ _ => rfl) (Nat.le_trans hh hsz) (Nat.le_trans gh hsz))
        cases hxy : decide (px = py) with
        | true =>
          have hxy' : px = py := of_decide_eq_true hxy
          rw [hxy] at HE
          have ht : Hid (xs.take (k + 1) = ys.take (k + 1)) := take_snoc2 hr.out hx.out (by rw [hy.out, hxy'])
          clear hxy hxy' hx hy H1 G1
          go_wp2_with fail
          go_region_held3 (fun w' => w'.cell? (ad.add k) = some (.slice B1 m1 d1) ∧ w'.cell? (ae.add k) = some (.slice B2 m2 d2)) (first | exact ⟨hc1, hd1⟩ | go_keep)
            (first
              | (go_at_call 71; refine HE.out.mono ?_; rintro e w2 ⟨rfl, bF0⟩; have bF : Below wr.heap.size wr w2 := ((Below.refl _ wr).drew).trans bF0; have T0 := And.intro ((bF.cell (World.block_lt_of_cell? wr _ hc1)).trans hc1) ((bF.cell (World.block_lt_of_cell? wr _ hd1)).trans hd1)))
          have HB : Hid (Below w.heap.size w w2) := hb.out.trans (bF.mono hsz)
          clear bF bF0 T0 HE hb
          go_wp2_with fail
          go_roundw
          case rel => exact ⟨k + 1, by omega, by go_num, HB, ht⟩
          case measure => simp [intOf]; omega
        | false =>
          have hxy' : ¬ px = py := of_decide_eq_false hxy
          rw [hxy] at HE
          have hF : Hid (decide (xs = ys) = false) := decide_eq_false fun e => by
            have h1 := hx.out
            rw [e, hy.out] at h1
            exact hxy' (by injection h1 with h1; exact h1.symm)
          clear hxy hxy' hx hy H1 G1
          go_wp2_with fail
          go_region_held3 (fun w' => w'.cell? (ad.add k) = some (.slice B1 m1 d1) ∧ w'.cell? (ae.add k) = some (.slice B2 m2 d2)) (first | exact ⟨hc1, hd1⟩ | go_keep)
            (first
              | (go_at_call 71; refine HE.out.mono ?_; rintro e w2 ⟨rfl, bF0⟩; have bF : Below wr.heap.size wr w2 := ((Below.refl _ wr).drew).trans bF0; have T0 := And.intro ((bF.cell (World.block_lt_of_cell? wr _ hc1)).trans hc1) ((bF.cell (World.block_lt_of_cell? wr _ hd1)).trans hd1)))
          have HB := hb.out.trans (bF.mono hsz)
          clear bF bF0 T0 HE hb
          go_wp2_with fail
          go_ret
          exact ⟨ret_bool hF.out.symm, HB⟩
      · obtain rfl : k = n := by omega
        have HB := hb.out
        have hF : Hid (decide (xs = ys) = true) := by
          show _ = _
          have h1 := hr.out
          have h2 := h.len
          have h3 := g.len
          rw [List.take_of_length_le (by omega), List.take_of_length_le (by omega)] at h1
          simpa using h1
        go_wp2_with fail
        go_ret
        exact ⟨ret_bool hF.out.symm, HB⟩
  · have hne : ((n : Int) != (m : Int)) = true := by simpa using (by omega : ¬ (n : Int) = m)
    have hF : Hid (decide (xs = ys) = false) := decide_eq_false fun e => hnm (by rw [← h.len, ← g.len, e])
    clear hnm
    go_enter Try.func44, Try.ntmps44
    go_wp2_with fail
    go_ret
    exact ⟨ret_bool hF.out.symm, Below.refl _ _⟩
end Go.Proofs.Ytjamdnbabfodkaa
