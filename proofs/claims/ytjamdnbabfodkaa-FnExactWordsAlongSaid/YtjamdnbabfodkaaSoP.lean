/- Derivatives of polynomials: the reference's walk. -/
import Derived.Test.YtjamdnbabfodkaaSoG
import Derived.Test.YtjamdnbabfodkaaSoH
import Derived.Test.YtjamdnbabfodkaaLieA
namespace Go.Proofs.Ytjamdnbabfodkaa
open Go.RowKit
set_option linter.unusedSimpArgs false
set_option linter.unusedVariables false
set_option maxRecDepth 20000

theorem newM_store2 {W1 w5 : World} {m d3 b : Nat} {B3 : Option Addr} {xs : List Int} {x0 y0 : Value} (co : Int) (hO : OwnI w5 W1.heap.size w5.heap.size B3 m d3 xs) (hne : ∀ ad, B3 = some ad → ad.block ≠ b) (hb : Below W1.heap.size W1 w5) (kb : BlkN w5 b #[x0, y0]) (hbW : W1.heap.size ≤ b) :
    NewM W1 ((w5.setCell ⟨b, 0, none⟩ (.int .i64 co)).setCell ⟨b, 1, none⟩ (.slice B3 m d3)) (.pointer (some ⟨b, 0, none⟩)) co m xs := by
  have k2 := (kb.set 0 (.int .i64 co)).set 1 (.slice B3 m d3)
  simp only [List.setIfInBounds_toArray, List.set_cons_zero, List.set_cons_succ] at k2
  refine ⟨b, B3, d3, rfl, k2, ⟨?_, fun ad e => by have := hO.lt ad e; simpa [World.setCell] using this, hO.rng⟩, (hb.setCell (p := ⟨b, 0, none⟩) hbW _).setCell (p := ⟨b, 1, none⟩) hbW _, hne, hbW⟩
  exact owns_setCell (owns_setCell hO.own (p := ⟨b, 0, none⟩) hne _) (p := ⟨b, 1, none⟩) hne _

set_option maxRecDepth 100000 in
set_option maxHeartbeats 8000000 in
theorem spec_l9Partial (P : Option Addr) (n c : Nat) (ms : List Mono) (lo hi v dim : Nat) (w : World) (h : Mons w lo hi P n c ms) (hh : hi ≤ w.heap.size) (hn : n ≤ 549755813888) (hd1 : dim ≤ 6) (hv : ∀ m ∈ ms, m.2.length = dim) (hv0 : v < dim) :
    Calls Try.prog 55 #[.slice P n c, .int .i64 v, .int .i64 1] w fun e w' => ∃ A' n' c', e = .returned (.slice A' n' c') ∧ Mons w' w.heap.size w'.heap.size A' n' c' (partF ms v) ∧ n' ≤ n ∧ Below w.heap.size w w' := by
  obtain ⟨i0, hi0, hz0, hz1, hz2⟩ := info_parts info_mono
  have hcp := h.cap
  have hmx := h.max
  have HP := hide h
  have HV := hide hv
  have hb0 := hide (below_alloc w (.cells #[] 53))
  have hE0 := hide (LstE.empty w w.heap.size (Nat.le_refl _))
  have hz : (w.alloc (.cells #[] 53)).heap.size = w.heap.size + 1 := by simp
  rw [← hz] at hE0
  clear h hv hz
  go_enter Try.func55, Try.ntmps55
  go_wp2_with fail
  generalize w.alloc (.cells #[] 53) = W0 at hb0 hE0 ⊢
  go_loopw [7, 8] (fun o i wr => ∃ (k n' c' : Nat) (A' : Option Addr) (es : List El), k ≤ n ∧ i = .int .i64 k ∧ o = .slice A' n' c' ∧ n' ≤ k ∧ Hid (LstE wr w.heap.size wr.heap.size A' n' c' es) ∧ Hid (es.map El.mono = partF (ms.take k) v) ∧ Hid (Below w.heap.size w wr)) (fun _ i _ => n - (intOf i).toNat)
  case atStart => exact ⟨0, 0, 0, _, [], by omega, rfl, rfl, by omega, hE0.out, rfl, hb0.out⟩
  case round =>
    clear hE0 hb0
    obtain ⟨k, n', c', A', es, hk, rfl, rfl, hnk, hE, hM, hb⟩ := hrel
    have hsz := hb.out.size
    by_cases hlt : k < n
    · obtain ⟨ad, x, B, m, d, xs, rfl, hc1, hc2, hxr, hI, _, hx⟩ := (HP.out.below hb.out hh).at_ hlt
      have hvm := HV.out _ (List.mem_of_getElem? hx.out)
      simp only at hvm
      obtain rfl : m = dim := by rw [← hI.len]; exact hvm
      have hI1 := hide hI
      have HXR := hide hxr
      have hdc := hI.cap
      have hdm := hI.max
      have hpst := hide (part_step (v := v) hx.out)
      clear hI hxr hx hvm
      obtain ⟨bd, p, rfl, hcp, hpr, _, hxp⟩ := hI1.out.at_ hv0
      have hgd : xs.getD v 0 = p := by rw [List.getD, hxp.out]; rfl
      by_cases hp0 : 0 < p
      · have hpM : partM v (x, xs) = some (timesF x p, xs.set v (p - 1)) := by
          rw [partM]; simp only [hgd]; rw [if_pos hp0]
        have hpM2 : Hid (partF (ms.take (k + 1)) v = partF (ms.take k) v ++ [(timesF x p, xs.set v (p - 1))]) := by show _ = _; rw [hpst.out, hpM]; rfl
        have hpr64 := hide hpr
        have hw1 : IntKind.i64.wrap (1 * p) = p := by rw [Int.one_mul]; exact IntWalk.i64_in _ (by unfold R64 at hpr; omega)
        have hw2 : IntKind.i64.wrap p = p := IntWalk.i64_in _ (by unfold R64 at hpr; omega)
        clear hpM hpst hgd
        go_upto_region 6 with fail
        have T0 : wr.cell? (ad.add (k * 2)) = some (.int .i64 x) ∧ wr.cell? ⟨(ad.add (k * 2)).block, (ad.add (k * 2)).off + 1, none⟩ = some (.slice (some bd) m d) ∧ wr.cell? (bd.add v) = some (.int .i64 p) := ⟨hc1, hc2, hcp⟩
        have T1 : wr.drew.cell? (ad.add (k * 2)) = some (.int .i64 x) ∧ wr.drew.cell? ⟨(ad.add (k * 2)).block, (ad.add (k * 2)).off + 1, none⟩ = some (.slice (some bd) m d) ∧ wr.drew.cell? (bd.add v) = some (.int .i64 p) := T0
        go_cut [9] (fun s9 wx => Hid (NewM wr wx s9 (timesF x p) m xs))
        case first =>
          as_aux_lemma =>
          have hiw : hi ≤ wr.heap.size := by omega
          have L1 := World.block_lt_of_cell? _ _ hc1
          have L2 := World.block_lt_of_cell? _ _ hc2
          have L3 := World.block_lt_of_cell? _ _ hcp
          have HTC := hide fun (w' : World) (hB : Below wr.heap.size wr w') => show w'.cell? (ad.add (k * 2)) = some (.int .i64 x) ∧ w'.cell? ⟨(ad.add (k * 2)).block, (ad.add (k * 2)).off + 1, none⟩ = some (.slice (some bd) m d) ∧ w'.cell? (bd.add v) = some (.int .i64 p) from ⟨(hB.cell (p := ad.add (k * 2)) L1).trans T0.1, (hB.cell (p := ⟨(ad.add (k * 2)).block, (ad.add (k * 2)).off + 1, none⟩) L2).trans T0.2.1, (hB.cell (p := bd.add v) L3).trans T0.2.2⟩
          have d1 : Below wr.heap.size wr wr.drew := (Below.refl _ _).drew
          have ownA : (wr.drew.alloc (.cells #[] 3)).ownsRow wr.heap.size 3 1 (.slice (some ⟨wr.heap.size, 0, none⟩) 0 0) 0 (([] : List Int).map (Value.int .i64)) := by
            simpa using World.ownsRow_lit (size := 1) (e := 3) wr.drew #[] 0 (Nat.le_refl wr.heap.size) (by unfold maxLen; omega) rfl
          have ownB : ((wr.drew.alloc (.cells #[.int .i64 0, .slice none 0 0] 53)).alloc (.cells #[] 3)).ownsRow wr.heap.size 3 1 (.slice (some ⟨wr.heap.size + 1, 0, none⟩) 0 0) 0 (([] : List Int).map (Value.int .i64)) := by
            simpa using World.ownsRow_lit (size := 1) (e := 3) (wr.drew.alloc (.cells #[.int .i64 0, .slice none 0 0] 53)) #[] 0 (base := wr.heap.size) (by simp) (by unfold maxLen; omega) rfl
          have ownC := ownA.alloc (.cells #[.int .i64 0, .slice none 0 0] 53)
          have ownD := ownA
          have bA : Below wr.heap.size wr (wr.drew.alloc (.cells #[] 3)) := d1.alloc (Nat.le_refl _) _
          have bB : Below wr.heap.size wr ((wr.drew.alloc (.cells #[.int .i64 0, .slice none 0 0] 53)).alloc (.cells #[] 3)) := (d1.alloc (Nat.le_refl _) _).alloc (by simp) _
          have bC : Below wr.heap.size wr ((wr.drew.alloc (.cells #[] 3)).alloc (.cells #[.int .i64 0, .slice none 0 0] 53)) := bA.alloc (by simp) _
          have kB : BlkN ((wr.drew.alloc (.cells #[.int .i64 0, .slice none 0 0] 53)).alloc (.cells #[] 3)) wr.heap.size #[.int .i64 0, .slice none 0 0] := (BlkN.new wr.drew _ _).alloc _
          have kC : BlkN ((wr.drew.alloc (.cells #[] 3)).alloc (.cells #[.int .i64 0, .slice none 0 0] 53)) (wr.heap.size + 1) #[.int .i64 0, .slice none 0 0] := by
            have := BlkN.new (wr.drew.alloc (.cells #[] 3)) #[.int .i64 0, .slice none 0 0] 53
            simpa using this
          have hm0 : 0 < m := by omega
          have HXS := hide hI1.out.rng
          go_region_held3 (fun w' => w'.cell? (ad.add (k * 2)) = some (.int .i64 x) ∧ w'.cell? ⟨(ad.add (k * 2)).block, (ad.add (k * 2)).off + 1, none⟩ = some (.slice (some bd) m d) ∧ w'.cell? (bd.add v) = some (.int .i64 p)) (first | exact T0 | exact T1 | exact HTC.out _ bA | exact HTC.out _ bB | exact HTC.out _ bC | exact ⟨cell_al T1.1, cell_al T1.2.1, cell_al T1.2.2⟩ | exact TC | exact ⟨cell_al TC.1, cell_al TC.2.1, cell_al TC.2.2⟩ | exact HTC.out _ TS | go_keep)
            (first
              | (go_at_call 32; refine (spec_Times x p _ HXR.out hpr64.out).mono ?_; rintro e w' ⟨rfl, rfl⟩)
              | (refine step_appI2 (by rfl) _ _ (by rfl) _ wr.heap.size (wr.heap.size + 1) 0 0 [] (by rfl) ownB bd m d lo hi xs (by rfl) (hI1.out.below bB hiw) hm0 m (by omega) (by omega) bB.size ?_; intro g5 c5 w5 hown5 hgrow5 hat5 hlt5; have bb : Below wr.heap.size wr w5 := (bB.grown hgrow5 bB.size (fun k hk => by injection hk with hk; omega)); have szb := bb.size; have TC := HTC.out _ bb; have kb : BlkN w5 wr.heap.size #[.int .i64 0, .slice none 0 0] := (kB.same (hgrow5.block _ kB.lt (by simp))); have y0 := kb.c 0 rfl; have y1 := kb.c 1 rfl; have y2 := kb.f 0; have y3 := kb.f 1; have y4 := kb.lt; have hgb : (g5 : Nat) ≠ wr.heap.size := (by have := bB.size; simp at hat5; omega); have TS := ((bb.setCell (p := ⟨wr.heap.size, 0, none⟩) (Nat.le_refl _) (.int .i64 (timesF x p))).setCell (p := ⟨wr.heap.size, 1, none⟩) (Nat.le_refl _) (.slice (some ⟨g5, 0, none⟩) m c5)))
              | (refine step_appI2 (by rfl) _ _ (by rfl) _ wr.heap.size wr.heap.size 0 0 [] (by rfl) ownC bd m d lo hi xs (by rfl) (hI1.out.below bC hiw) hm0 m (by omega) (by omega) bC.size ?_; intro g5 c5 w5 hown5 hgrow5 hat5 hlt5; have bb : Below wr.heap.size wr w5 := (bC.grown hgrow5 bC.size (fun k hk => by injection hk with hk; omega)); have szb := bb.size; have TC := HTC.out _ bb; have kb : BlkN w5 (wr.heap.size + 1) #[.int .i64 0, .slice none 0 0] := (kC.same (hgrow5.block _ kC.lt (by simp))); have y0 := kb.c 0 rfl; have y1 := kb.c 1 rfl; have y2 := kb.f 0; have y3 := kb.f 1; have y4 := kb.lt; have hgb : (g5 : Nat) ≠ wr.heap.size + 1 := (by simp at hat5; omega); have TS := ((bb.setCell (p := ⟨wr.heap.size + 1, 0, none⟩) (by show _ ≤ wr.heap.size + 1; omega) (.int .i64 (timesF x p))).setCell (p := ⟨wr.heap.size + 1, 1, none⟩) (by show _ ≤ wr.heap.size + 1; omega) (.slice (some ⟨g5, 0, none⟩) m c5)))
              | (refine step_appI2 (by rfl) _ _ (by rfl) _ wr.heap.size wr.heap.size 0 0 [] (by rfl) ownD bd m d lo hi xs (by rfl) (hI1.out.below bA hiw) hm0 m (by omega) (by omega) bA.size ?_; intro g5 c5 w5 hown5 hgrow5 hat5 hlt5; have bb : Below wr.heap.size wr w5 := (bA.grown hgrow5 bA.size (fun k hk => by injection hk with hk; omega)); have szb := bb.size; have TC := HTC.out _ bb))
          all_goals go_wp2_with fail
          all_goals go_meet
          all_goals
            have hO5 : OwnI w5 wr.heap.size w5.heap.size (some ⟨g5, 0, none⟩) m c5 xs := ⟨hown5, fun ad e => by injection e with e; subst e; exact hlt5, HXS.out⟩
          all_goals first
            | exact newM_alloc (timesF x p) hO5 (Nat.le_refl _) bb _
            | exact newM_store2 (timesF x p) hO5 (fun ad e => by injection e with e; subst e; exact hgb) bb kb (by omega)
        case rest =>
          obtain ⟨b, B3, d3, rfl, hB, hO, hbl, hne, hle⟩ := hcut.out
          clear hcut T0 T1 hcp hc1 hc2 hw1 hw2
          obtain ⟨g3, rfl, hg3, hg3h, hg3w⟩ := hO.form (by omega)
          have hgb : ¬ b = g3 := fun e => hne _ rfl e.symm
          have hpv : xs[v]? = some p := hxp.out
          have y1 := hB.c 1 rfl
          have y2 := (hO.own.cellAt v (by omega)).trans (by simp [hpv] : (xs.map (Value.int .i64))[v]? = some (.int .i64 p))
          have y3 := hO.own.frozenAt v
          have hdc3 := hO.cap
          have hdm3 := hO.max
          have hst := (hO.own.stored v (.int .i64 (p - 1))).1
          rw [show (xs.map (Value.int .i64)).set v (Value.int .i64 (p - 1)) = (xs.set v (p - 1)).map (Value.int .i64) by rw [List.map_set]] at hst
          have hpr := hpr64.out
          unfold R64 at hpr
          have hO2 : OwnI (wc.setCell ⟨g3, v, none⟩ (.int .i64 (p - 1))).drew wr.heap.size (wc.setCell ⟨g3, v, none⟩ (.int .i64 (p - 1))).drew.heap.size (some ⟨g3, 0, none⟩) m d3 (xs.set v (p - 1)) :=
            ⟨hst, fun ad e => by have := (owns_lt hst ad e).2; exact this, fun y hy => by
              rcases List.mem_or_eq_of_mem_set hy with h1 | h1
              · exact hO.rng y h1
              · rw [h1]; constructor <;> omega⟩
          have hB2 := (hB.far (b := g3) (i := v) hgb (.int .i64 (p - 1))).drew
          have hbl2 := (hbl.setCell (p := ⟨g3, v, none⟩) hg3 (.int .i64 (p - 1))).drew
          have HO2 := hide hO2
          have HB2 := hide hB2
          have HBL2 := hide hbl2
          have hw3' : IntKind.i64.wrap (p - 1) = p - 1 := IntWalk.i64_in _ (by omega)
          clear hst hO2 hB2 hbl2 hpv hB hO hbl hne
          go_wp2_with fail
          go_region
          go_upto_region 8 with fail
          generalize (wc.setCell ⟨g3, v, none⟩ (.int .i64 (p - 1))).drew = W3 at HO2 HB2 HBL2 ⊢
          clear y1 y2 y3 hg3w hw3'
          have hE3 := hide (hE.out.below HBL2.out (Nat.le_refl _))
          have hb3 := hide (hb.out.trans (HBL2.out.mono hsz))
          have z3 := HBL2.out.size
          have hw3 := hb3.out.size
          have r0 := HB2.out.c 0 rfl
          have r1 := HB2.out.c 1 rfl
          go_wp2_with (at_builtin; refine wpl_app1b rfl (.tmp 60) (.tmp 62) 54 rfl w.heap.size 53 i0 (.agg #[.int .i64 0, .slice none 0 0]) 2 32 Try.underlying54 hi0 hz0 hz1 hz2 rfl (by omega) W3 #[.int .i64 (timesF x p), .slice (some ⟨g3, 0, none⟩) m d3] _ rfl A' n' c' 1 _ rfl rfl hE3.out.own rfl (by simp [Value.oneCell']) (by omega) (by omega) hw3 ?_; intro A2 c2 w4 happ hlt4)
          have hL := hide (hE3.out.push (e := ⟨timesF x p, some ⟨g3, 0, none⟩, m, d3, xs.set v (p - 1)⟩) (timesF_R64 x p) HO2.out.ints (Nat.le_refl _) (Nat.le_refl _) hsz z3 happ)
          have hB4 := hide (happ.low hb3.out hw3 (Nat.le_refl _) hE3.out.own)
          have hM4 : Hid ((es ++ [(⟨timesF x p, some ⟨g3, 0, none⟩, m, d3, xs.set v (p - 1)⟩ : El)]).map El.mono = partF (ms.take (k + 1)) v) := by
            show _ = _
            rw [hpM2.out, List.map_append, hM.out]
            rfl
          clear happ hE3 HO2 HB2 HBL2 hb3 r0 r1
          go_wp2_with fail
          go_roundw
          case rel => exact ⟨k + 1, n' + 1, c2, A2, _, by omega, by go_num, rfl, by omega, hL.out, hM4.out, hB4.out⟩
          case measure => simp [intOf]; omega
      · have hpM2 : Hid (partF (ms.take (k + 1)) v = partF (ms.take k) v) := by
          show _ = _
          rw [hpst.out, partM]; simp only [hgd]; rw [if_neg hp0]; simp
        have hM4 : Hid (es.map El.mono = partF (ms.take (k + 1)) v) := by show _ = _; rw [hpM2.out]; exact hM.out
        clear hpst hgd hpM2
        go_wp2_with fail
        go_roundw
        case rel => exact ⟨k + 1, n', c', A', es, by omega, by go_num, rfl, by omega, hE.out, hM4.out, hb.out⟩
        case measure => simp [intOf]; omega
    · obtain rfl : n = k := by omega
      have hle : Hid (es.map El.mono = partF ms v) := by
        show _ = _
        rw [hM.out, List.take_of_length_le (Nat.le_of_eq HP.out.len)]
      have hmo := hide hE.out.mons
      rw [hle.out] at hmo
      go_wp2_with fail
      go_ret
      exact ⟨_, _, _, rfl, hmo.out, hnk, hb.out⟩
end Go.Proofs.Ytjamdnbabfodkaa
