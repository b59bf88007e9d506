/- Derivatives of polynomials: the program's walk. -/
import Derived.Test.YtjamdnbabfodkaaSoF
import Derived.Test.YtjamdnbabfodkaaMgA
namespace Go.Proofs.Ytjamdnbabfodkaa
open Go.RowKit
set_option linter.unusedSimpArgs false
set_option linter.unusedVariables false
set_option maxRecDepth 20000

theorem cell_al {w : World} {p : Addr} {v : Value} {ob : Obj} (hc : w.cell? p = some v) : (w.alloc ob).cell? p = some v :=
  ((below_alloc w ob).cell (p := p) (World.block_lt_of_cell? w _ hc)).trans hc

theorem cell_far2 {w : World} {g : Nat} {p : Addr} {x y v : Value} (hc : w.cell? p = some v) (hne : ¬ p.block = g) : ((w.setCell ⟨g, 0, none⟩ x).setCell ⟨g, 1, none⟩ y).cell? p = some v :=
  (World.cell?_of_block ((Below.heap_setCell _ ⟨g, 1, none⟩ _ _ hne).trans (Below.heap_setCell _ ⟨g, 0, none⟩ _ _ hne))).trans hc

theorem timesF_R64 (a b : Int) : R64 (timesF a b) := by have := timesF_bd a b; constructor <;> omega

/-- a monomial laid in a block of its own, its powers a copy -/
def NewM (W1 wx : World) (s8 : Value) (co : Int) (m : Nat) (xs : List Int) : Prop :=
  ∃ (b : Nat) (B3 : Option Addr) (d3 : Nat), s8 = .pointer (some ⟨b, 0, none⟩) ∧ BlkN wx b #[.int .i64 co, .slice B3 m d3] ∧ OwnI wx W1.heap.size wx.heap.size B3 m d3 xs ∧ Below W1.heap.size W1 wx ∧ (∀ ad, B3 = some ad → ad.block ≠ b) ∧ W1.heap.size ≤ b
theorem newM_alloc {W1 w5 : World} {L m d3 : Nat} {B3 : Option Addr} {xs : List Int} (co : Int) (hO : OwnI w5 L w5.heap.size B3 m d3 xs) (hL : W1.heap.size ≤ L) (hb : Below W1.heap.size W1 w5) (T : TypeId) :
    NewM W1 (w5.alloc (.cells #[.int .i64 co, .slice B3 m d3] T)) (.pointer (some ⟨w5.heap.size, 0, none⟩)) co m xs :=
  ⟨_, B3, d3, rfl, BlkN.new _ _ _, (hO.below (below_alloc w5 _) (Nat.le_refl _)).wide hL (by simp), hb.trans ((below_alloc w5 _).mono hb.size), fun ad e => by have := hO.lt ad e; omega, hb.size⟩
theorem newM_store {W1 w5 : World} {L m d3 : Nat} {B3 : Option Addr} {xs : List Int} {x0 y0 : Value} (co : Int) (hO : OwnI w5 L w5.heap.size B3 m d3 xs) (hL : W1.heap.size < L) (hb : Below W1.heap.size W1 w5) (kb : BlkN w5 W1.heap.size #[x0, y0]) :
    NewM W1 ((w5.setCell ⟨W1.heap.size, 0, none⟩ (.int .i64 co)).setCell ⟨W1.heap.size, 1, none⟩ (.slice B3 m d3)) (.pointer (some ⟨W1.heap.size, 0, none⟩)) co m xs := by
  have k2 := (kb.set 0 (.int .i64 co)).set 1 (.slice B3 m d3)
  simp only [List.setIfInBounds_toArray, List.set_cons_zero, List.set_cons_succ] at k2
  have hs : Same L w5.heap.size w5 ((w5.setCell ⟨W1.heap.size, 0, none⟩ (.int .i64 co)).setCell ⟨W1.heap.size, 1, none⟩ (.slice B3 m d3)) :=
    Same.setCell (p := ⟨W1.heap.size, 1, none⟩) (Same.setCell (p := ⟨W1.heap.size, 0, none⟩) (Same.refl _ _ _) (.inl hL) _) (.inl hL) _
  exact ⟨_, B3, d3, rfl, k2, (hO.same hs).wide (by omega) (by simp [World.setCell]), (hb.setCell (Nat.le_refl _) _).setCell (Nat.le_refl _) _, fun ad e => by have := (hO.lt_size ad e).1; omega, Nat.le_refl _⟩

/-- the derivative of a monomial with respect to the variable v, if there is one -/
def partM (v : Nat) (m : Mono) : Option Mono := if 0 < m.2.getD v 0 then some (timesF m.1 (m.2.getD v 0), m.2.set v (m.2.getD v 0 - 1)) else none
def partF (ms : List Mono) (v : Nat) : List Mono := ms.filterMap (partM v)
theorem part_step {ms : List Mono} {k v : Nat} {m : Mono} (h : ms[k]? = some m) : partF (ms.take (k + 1)) v = partF (ms.take k) v ++ (partM v m).toList := by
  rw [partF, partF, List.take_add_one, h, List.filterMap_append]
  cases hp : partM v m <;> simp [hp]

set_option maxRecDepth 100000 in
set_option maxHeartbeats 8000000 in
theorem impl_partial (P : Option Addr) (n c : Nat) (ms : List Mono) (lo hi v : Nat) (w : World) (h : Mons w lo hi P n c ms) (hh : hi ≤ w.heap.size) (hn : n ≤ 549755813888) (hv : ∀ m ∈ ms, v < m.2.length ∧ m.2.length ≤ 1048576) (hv0 : v ≤ 1048576) :
    Calls Try.prog 66 #[.slice P n c, .int .i64 v] w fun e w' => ∃ A' n' c', e = .returned (.slice A' n' c') ∧ Mons w' w.heap.size w'.heap.size A' n' c' (partF ms v) ∧ n' ≤ n ∧ Below w.heap.size w w' := by
  obtain ⟨i0, hi0, hz0, hz1, hz2⟩ := info_parts info_mono
  have hcp := h.cap
  have hmx := h.max
  have HP := hide h
  have HV := hide hv
  have hb0 := hide (below_alloc w (.cells #[] 53))
  have hE0 := hide (LstE.empty w w.heap.size (Nat.le_refl _))
  have hz : (w.alloc (.cells #[] 53)).heap.size = w.heap.size + 1 := by simp
  rw [← hz] at hE0
  clear h hv hz
  go_enter Try.func66, Try.ntmps66
  go_wp2_with fail
  generalize w.alloc (.cells #[] 53) = W0 at hb0 hE0 ⊢
  go_loopw [5, 12] (fun o i wr => ∃ (k n' c' : Nat) (A' : Option Addr) (es : List El), k ≤ n ∧ i = .int .i64 k ∧ o = .slice A' n' c' ∧ n' ≤ k ∧ Hid (LstE wr w.heap.size wr.heap.size A' n' c' es) ∧ Hid (es.map El.mono = partF (ms.take k) v) ∧ Hid (Below w.heap.size w wr)) (fun _ i _ => n - (intOf i).toNat)
  case atStart => exact ⟨0, 0, 0, _, [], by omega, rfl, rfl, by omega, hE0.out, rfl, hb0.out⟩
  case round =>
    clear hE0 hb0
    obtain ⟨k, n', c', A', es, hk, rfl, rfl, hnk, hE, hM, hb⟩ := hrel
    have hsz := hb.out.size
    by_cases hlt : k < n
    · obtain ⟨ad, x, B, m, d, xs, rfl, hc1, hc2, hxr, hI, _, hx⟩ := (HP.out.below hb.out hh).at_ hlt
      obtain ⟨hvm, hml⟩ := HV.out _ (List.mem_of_getElem? hx.out)
      simp only at hvm hml
      obtain rfl : m = xs.length := hI.len.symm
      have a1 := below_alloc wr (.cells #[.int .i64 x, .slice B xs.length d] 53)
      have j0 := hide (BlkN.new wr #[.int .i64 x, .slice B xs.length d] 53)
      have z1 : (wr.alloc (.cells #[.int .i64 x, .slice B xs.length d] 53)).heap.size = wr.heap.size + 1 := by simp
      have hI1 := hide (hI.below a1 (by omega))
      have hE1 := hide (hE.out.below a1 (Nat.le_refl _))
      have hb1 := hide (hb.out.trans (a1.mono hsz))
      have HXR := hide hxr
      have hdc := hI.cap
      have hdm := hI.max
      have hpst := hide (part_step (v := v) hx.out)
      clear a1 hI hE hb hxr hx
      go_upto_region 5 with fail
      generalize wr.alloc (.cells #[.int .i64 x, .slice B xs.length d] 53) = W1 at j0 z1 hI1 hE1 hb1 ⊢
      clear hc1 hc2
      obtain ⟨bd, p, rfl, hcp, hpr, _, hxp⟩ := hI1.out.at_ hvm
      have hgd : xs.getD v 0 = p := by rw [List.getD, hxp.out]; rfl
      obtain ⟨q, hq⟩ : ∃ q, q = wr.heap.size := ⟨_, rfl⟩
      rw [← hq] at j0 z1 hsz hE1 ⊢
      have hqW : q < W1.heap.size := by omega
      clear hq z1
      have T0 : W1.cell? ⟨q, 0, none⟩ = some (.int .i64 x) ∧ W1.cell? ⟨q, 1, none⟩ = some (.slice (some bd) xs.length d) ∧ W1.cell? (bd.add v) = some (.int .i64 p) := ⟨j0.out.c 0 rfl, j0.out.c 1 rfl, hcp⟩
      have T1 : W1.drew.cell? ⟨q, 0, none⟩ = some (.int .i64 x) ∧ W1.drew.cell? ⟨q, 1, none⟩ = some (.slice (some bd) xs.length d) ∧ W1.drew.cell? (bd.add v) = some (.int .i64 p) := T0
      have t0 := T0.2.1
      by_cases hp0 : 0 < p
      · have hpM : partM v (x, xs) = some (timesF x p, xs.set v (p - 1)) := by
          rw [partM]; simp only [hgd]; rw [if_pos hp0]
        have hpM2 : Hid (partF (ms.take (k + 1)) v = partF (ms.take k) v ++ [(timesF x p, xs.set v (p - 1))]) := by show _ = _; rw [hpst.out, hpM]; rfl
        have hpr64 := hide hpr
        clear hpM hpst hgd
        go_upto_region 6 with fail
        go_cut [8] (fun s8 wx => Hid (NewM W1 wx s8 (timesF x p) xs.length xs))
        case first =>
          have hiw : hi ≤ W1.heap.size := by have := hb1.out.size; omega
          have hbdv := World.block_lt_of_cell? _ _ hcp
          have HTC := hide fun (w' : World) (hB : Below W1.heap.size W1 w') => show w'.cell? ⟨q, 0, none⟩ = some (.int .i64 x) ∧ w'.cell? ⟨q, 1, none⟩ = some (.slice (some bd) xs.length d) ∧ w'.cell? (bd.add v) = some (.int .i64 p) from ⟨(hB.cell (p := ⟨q, 0, none⟩) hqW).trans T0.1, (hB.cell (p := ⟨q, 1, none⟩) hqW).trans T0.2.1, (hB.cell (p := bd.add v) hbdv).trans T0.2.2⟩
          have d1 : Below W1.heap.size W1 W1.drew := (Below.refl _ _).drew
          go_region_held3 (fun w' => w'.cell? ⟨q, 0, none⟩ = some (.int .i64 x) ∧ w'.cell? ⟨q, 1, none⟩ = some (.slice (some bd) xs.length d) ∧ w'.cell? (bd.add v) = some (.int .i64 p)) (first | exact T0 | exact T1 | exact ⟨cell_al T1.1, cell_al T1.2.1, cell_al T1.2.2⟩ | exact TC | exact ⟨cell_al TC.1, cell_al TC.2.1, cell_al TC.2.2⟩ | exact ⟨cell_far2 TC.1 (Nat.ne_of_lt hqW), cell_far2 TC.2.1 (Nat.ne_of_lt hqW), cell_far2 TC.2.2 (Nat.ne_of_lt hbdv)⟩ | exact ⟨cell_far2 TC.1 (Nat.ne_of_lt hqW5), cell_far2 TC.2.1 (Nat.ne_of_lt hqW5), cell_far2 TC.2.2 (Nat.ne_of_lt hbdv5)⟩ | go_keep)
            (first
              | (go_at_call 42; refine (impl_Times x p _ HXR.out hpr64.out).mono ?_; rintro e w' ⟨rfl, rfl⟩)
              | (go_at_call 80; refine (slices_Clone (some bd) xs.length d xs lo hi _ (hI1.out.below (B := W1.heap.size) (by (repeat (first | with_reducible exact d1 | with_reducible exact Below.refl _ _ | with_reducible refine Below.drew ?_ | ((with_reducible refine Below.alloc ?_ ?_ _); rotate_left; · first | omega | (simp [World.setCell]; done) | (simp [World.setCell]; omega)) | ((with_reducible refine Below.setCell ?_ ?_ _); rotate_left; · first | exact Nat.le_refl _ | omega | (simp; done) | (simp; omega))))) hiw) (by first | exact hiw | (simp; omega)) hml).mono ?_; rintro e w5 ⟨B3, d3, rfl, o3, b3⟩; have bb : Below W1.heap.size W1 w5 := (by refine Below.trans ?_ (Below.mono b3 ?_); (· (repeat (first | with_reducible exact d1 | with_reducible exact Below.refl _ _ | with_reducible refine Below.drew ?_ | ((with_reducible refine Below.alloc ?_ ?_ _); rotate_left; · first | omega | (simp [World.setCell]; done) | (simp [World.setCell]; omega)) | ((with_reducible refine Below.setCell ?_ ?_ _); rotate_left; · first | exact Nat.le_refl _ | omega | (simp; done) | (simp; omega))))); (· first | exact Nat.le_refl _ | simp)); have szb := bb.size; have hqW5 : q < w5.heap.size := (by omega); have hbdv5 : (bd.add v).block < w5.heap.size := (by omega); have TC := HTC.out _ bb; (first | (have kb : BlkN w5 W1.heap.size #[.int .i64 0, .slice none 0 0] := (BlkN.new W1.drew #[.int .i64 0, .slice none 0 0] 53).below b3) | skip); (first | (have y0 := kb.c 0 rfl; have y1 := kb.c 1 rfl; have y2 := kb.f 0; have y3 := kb.f 1; have y4 := kb.lt) | skip); have HO3 := hide o3; clear o3 b3))
          all_goals go_wp2_with fail
          all_goals go_meet
          all_goals first
            | exact newM_alloc (timesF x p) HO3.out (by first | exact Nat.le_refl _ | simp) bb _
            | exact newM_store (timesF x p) HO3.out (by simp) bb kb
        case rest =>
          obtain ⟨b, B3, d3, rfl, hB, hO, hbl, hne, hle⟩ := hcut.out
          clear hcut T0 T1 t0 hcp
          obtain ⟨g3, rfl, hg3, hg3h, hg3w⟩ := hO.form (by omega)
          have hgb : ¬ b = g3 := fun e => hne _ rfl e.symm
          have hpv : xs[v]? = some p := hxp.out
          have y1 := hB.c 1 rfl
          have y2 := (hO.own.cellAt v (by omega)).trans (by simp [hpv] : (xs.map (Value.int .i64))[v]? = some (.int .i64 p))
          have y3 := hO.own.frozenAt v
          have hdc3 := hO.cap
          have hdm3 := hO.max
          have hst := (hO.own.stored v (.int .i64 (p - 1))).1
          rw [show (xs.map (Value.int .i64)).set v (Value.int .i64 (p - 1)) = (xs.set v (p - 1)).map (Value.int .i64) by rw [List.map_set]] at hst
          have hpr := hpr64.out
          unfold R64 at hpr
          have hO2 : OwnI (wc.setCell ⟨g3, v, none⟩ (.int .i64 (p - 1))) W1.heap.size (wc.setCell ⟨g3, v, none⟩ (.int .i64 (p - 1))).heap.size (some ⟨g3, 0, none⟩) xs.length d3 (xs.set v (p - 1)) :=
            ⟨hst, fun ad e => by have := (owns_lt hst ad e).2; exact this, fun y hy => by
              rcases List.mem_or_eq_of_mem_set hy with h1 | h1
              · exact hO.rng y h1
              · rw [h1]; constructor <;> omega⟩
          have hB2 := hB.far (b := g3) (i := v) hgb (.int .i64 (p - 1))
          have hbl2 := hbl.setCell (p := ⟨g3, v, none⟩) hg3 (.int .i64 (p - 1))
          have HO2 := hide hO2
          have HB2 := hide hB2
          have HBL2 := hide hbl2
          clear hst hO2 hB2 hbl2 hpv hB hO hbl hne
          go_upto_region 8 with fail
          generalize wc.setCell ⟨g3, v, none⟩ (.int .i64 (p - 1)) = W3 at HO2 HB2 HBL2 ⊢
          clear y1 y2 y3 hg3w
          have hE3 := hide (hE1.out.below HBL2.out (by omega))
          have hb3 := hide (hb1.out.trans (HBL2.out.mono hb1.out.size))
          have z3 := HBL2.out.size
          have hw3 := hb3.out.size
          have r0 := HB2.out.c 0 rfl
          have r1 := HB2.out.c 1 rfl
          have hq3 : q ≤ W3.heap.size := by omega
          go_wp2_with (at_builtin; refine wpl_app1b rfl (.tmp 41) (.tmp 43) 54 rfl w.heap.size 53 i0 (.agg #[.int .i64 0, .slice none 0 0]) 2 32 Try.underlying54 hi0 hz0 hz1 hz2 rfl (by omega) W3 #[.int .i64 (timesF x p), .slice (some ⟨g3, 0, none⟩) xs.length d3] _ rfl A' n' c' 1 _ rfl rfl hE3.out.own rfl (by simp [Value.oneCell']) (by omega) (by omega) hw3 ?_; intro A2 c2 w4 happ hlt4)
          have hL := hide (hE3.out.push (e := ⟨timesF x p, some ⟨g3, 0, none⟩, xs.length, d3, xs.set v (p - 1)⟩) (timesF_R64 x p) HO2.out.ints (by omega) (Nat.le_refl _) hsz hq3 happ)
          have hB4 := hide (happ.low hb3.out hw3 (Nat.le_refl _) hE3.out.own)
          have hM4 : Hid ((es ++ [(⟨timesF x p, some ⟨g3, 0, none⟩, xs.length, d3, xs.set v (p - 1)⟩ : El)]).map El.mono = partF (ms.take (k + 1)) v) := by
            show _ = _
            rw [hpM2.out, List.map_append, hM.out]
            rfl
          clear happ hE3 HO2 HB2 HBL2 hb3 r0 r1
          go_wp2_with fail
          go_roundw
          case rel => exact ⟨k + 1, n' + 1, c2, A2, _, by omega, by go_num, rfl, by omega, hL.out, hM4.out, hB4.out⟩
          case measure => simp [intOf]; omega
      · have hpM2 : Hid (partF (ms.take (k + 1)) v = partF (ms.take k) v) := by
          show _ = _
          rw [hpst.out, partM]; simp only [hgd]; rw [if_neg hp0]; simp
        have hM4 : Hid (es.map El.mono = partF (ms.take (k + 1)) v) := by show _ = _; rw [hpM2.out]; exact hM.out
        have hE4 := hide (hE1.out.wide (hi2 := W1.heap.size) (by omega))
        clear hpst hgd hpM2 hE1
        go_wp2_with fail
        go_roundw
        case rel => exact ⟨k + 1, n', c', A', es, by omega, by go_num, rfl, by omega, hE4.out, hM4.out, hb1.out⟩
        case measure => simp [intOf]; omega
    · obtain rfl : n = k := by omega
      have hle : Hid (es.map El.mono = partF ms v) := by
        show _ = _
        rw [hM.out, List.take_of_length_le (Nat.le_of_eq HP.out.len)]
      have hmo := hide hE.out.mons
      rw [hle.out] at hmo
      go_wp2_with fail
      go_ret
      exact ⟨_, _, _, rfl, hmo.out, hnk, hb.out⟩
end Go.Proofs.Ytjamdnbabfodkaa
