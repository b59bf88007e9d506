/- Known schemes: the walk of the reference's text. -/
import Derived.Test.YtppekbokaknocaaDoorKnown
namespace Go.Proofs.YtppekbokaknocaaDoor
open Go.RowKit
set_option linter.unusedSimpArgs false
set_option linter.unusedVariables false
set_option maxRecDepth 20000

def ksS : List Int := [jumpF, 1 - 2 * jumpF, jumpF]
theorem ksS_rng : ∀ k ∈ ksS, R64 k := by
  intro m hm
  have h := jumpF_bd
  simp only [ksS, List.mem_cons, List.not_mem_nil, or_false] at hm
  rcases hm with rfl | rfl | rfl <;> (constructor <;> omega)
theorem timesM_res (k : Int) : timesM (resF k) = timesM k := by
  unfold timesM
  simp only [timesF_res_r]
theorem jumpS_eq : (ksS.take 3).flatMap timesM = jumpL := by
  have e : minusF 1 (timesF 2 jumpF) = resF (1 - 2 * jumpF) := by
    unfold minusF timesF resF
    generalize 2 * jumpF = t
    omega
  show timesM jumpF ++ (timesM (1 - 2 * jumpF) ++ (timesM jumpF ++ [])) = timesM jumpF ++ (timesM (minusF 1 (timesF 2 jumpF)) ++ (timesM jumpF ++ []))
  rw [e, timesM_res]
theorem cbrt_bd : 0 ≤ cbrtF 2 ∧ cbrtF 2 < 1000000271 := powF_bd _ _
theorem jump_eq : invF (2 - cbrtF 2) = jumpF := by
  unfold jumpF
  rw [show minusF 2 (cbrtF 2) = resF (2 - cbrtF 2) from rfl, invF_res]

set_option maxRecDepth 100000 in
set_option maxHeartbeats 2000000 in
theorem spec_KnownScheme (nm : ByteArray) (w : World) :
    Calls Tryd.prog 54 #[.string nm] w fun e w' => ∃ A n c, e = .returned (.tuple #[.slice A n c, .bool (knownF nm).2]) ∧ OwnM w' w.heap.size w'.heap.size A n c (knownF nm).1 ∧ Below w.heap.size w w' := by
  have h1r : R64 (1 : Int) := by constructor <;> omega
  have h2r : R64 (2 : Int) := by constructor <;> omega
  cases hl : (nm.toList == [108, 105, 101]) with
  | true =>
    have hF : Hid (knownF nm = ([(0, 1), (1, 1)], true)) := if_pos hl
    go_enter Tryd.func54, Tryd.ntmps54
    go_wp2_with fail
    refine (spec_Fraction 1 2 w h1r h2r).mono ?_
    rintro e w' ⟨rfl, rfl⟩
    go_wp2_with fail
    refine bodyPost_ret (results_tmp2 rfl _ _ _) rfl ⟨some ⟨w.heap.size + 1, 0, none⟩, 2, 2, by rw [hF.out]; rfl, ?_, by (repeat (first | with_reducible exact Below.refl _ _ | with_reducible exact Below.refl _ _ | with_reducible refine Below.drew ?_ | ((with_reducible refine Below.alloc ?_ ?_ _); rotate_left; · first | omega | (simp [World.setCell]; done) | (simp [World.setCell]; omega)) | ((with_reducible refine Below.setCell ?_ ?_ _); rotate_left; · first | exact Nat.le_refl _ | omega | (simp; done) | (simp; omega))))⟩
    rw [hF.out]
    refine ⟨?_, fun ad e => ?_, ?_⟩
    · simpa [mcells] using World.ownsRow_lit (size := 2) (e := 38) (base := w.heap.size) (w.alloc (.cells #[.int .i64 0, .int .i64 (fracF 1 2), .int .i64 1, .int .i64 1, .int .i64 0, .int .i64 (fracF 1 2)] 38)) #[.int .i64 0, .int .i64 1, .int .i64 1, .int .i64 1] 2 (by simp) (by unfold maxLen; omega) rfl
    · injection e with e
      subst e
      simp
    · intro m hm
      simp only [List.mem_cons, List.not_mem_nil, or_false] at hm
      rcases hm with rfl | rfl <;> exact ⟨by constructor <;> omega, by constructor <;> omega⟩
  | false =>
    have hl' : ¬ (nm.toList == [108, 105, 101]) = true := by rw [hl]; simp
    cases hs : (nm.toList == [115, 116, 114, 97, 110, 103]) with
    | true =>
      have hF : Hid (knownF nm = (strangL, true)) := by show _ = _; unfold knownF; rw [if_neg hl', if_pos hs]
      clear hl'
      go_enter Tryd.func54, Tryd.ntmps54
      go_wp2_with fail
      refine (spec_Fraction 1 2 w h1r h2r).mono ?_
      rintro e w' ⟨rfl, rfl⟩
      go_wp2_with fail
      refine bodyPost_ret (results_tmp2 rfl _ _ _) rfl ⟨some ⟨w.heap.size, 0, none⟩, 3, 3, by rw [hF.out]; rfl, ?_, by (repeat (first | with_reducible exact Below.refl _ _ | with_reducible exact Below.refl _ _ | with_reducible refine Below.drew ?_ | ((with_reducible refine Below.alloc ?_ ?_ _); rotate_left; · first | omega | (simp [World.setCell]; done) | (simp [World.setCell]; omega)) | ((with_reducible refine Below.setCell ?_ ?_ _); rotate_left; · first | exact Nat.le_refl _ | omega | (simp; done) | (simp; omega))))⟩
      rw [hF.out]
      refine ⟨?_, fun ad e => ?_, strang_rng⟩
      · simpa [strangL, mcells] using World.ownsRow_lit (size := 2) (e := 38) w #[.int .i64 0, .int .i64 (fracF 1 2), .int .i64 1, .int .i64 1, .int .i64 0, .int .i64 (fracF 1 2)] 3 (Nat.le_refl _) (by unfold maxLen; omega) rfl
      · injection e with e
        subst e
        simp
    | false =>
      have hs' : ¬ (nm.toList == [115, 116, 114, 97, 110, 103]) = true := by rw [hs]; simp
      cases hj : (nm.toList == [106, 117, 109, 112]) with
      | true =>
        have hF : Hid (knownF nm = (jumpL, true)) := by show _ = _; unfold knownF; rw [if_neg hl', if_neg hs', if_pos hj]
        clear hl' hs'
        obtain ⟨i0, hi0, hz0, hz1, hz2⟩ := info_parts info_move
        have a1 := below_alloc w (.cells #[.int .i64 0, .int .i64 (fracF 1 2), .int .i64 1, .int .i64 1, .int .i64 0, .int .i64 (fracF 1 2)] 38)
        have own1 : (w.alloc (.cells #[.int .i64 0, .int .i64 (fracF 1 2), .int .i64 1, .int .i64 1, .int .i64 0, .int .i64 (fracF 1 2)] 38)).ownsRow w.heap.size 38 2 (.slice (some ⟨w.heap.size, 0, none⟩) 3 3) 3 (strangL.flatMap mcells) := by
          simpa [strangL, mcells] using World.ownsRow_lit (size := 2) (e := 38) w #[.int .i64 0, .int .i64 (fracF 1 2), .int .i64 1, .int .i64 1, .int .i64 0, .int .i64 (fracF 1 2)] 3 (Nat.le_refl _) (by unfold maxLen; omega) rfl
        have om : OwnM (w.alloc (.cells #[.int .i64 0, .int .i64 (fracF 1 2), .int .i64 1, .int .i64 1, .int .i64 0, .int .i64 (fracF 1 2)] 38)) w.heap.size (w.heap.size + 1) (some ⟨w.heap.size, 0, none⟩) 3 3 strangL := ⟨own1, fun ad e => by injection e with e; subst e; exact Nat.lt_succ_self _, strang_rng⟩
        have ms := ((om.moves.below (below_alloc _ (.cells #[] 38)) (by simp)).below (below_alloc _ (.cells #[.int .i64 jumpF, .int .i64 (1 - 2 * jumpF), .int .i64 jumpF] 3)) (by simp))
        have oo : (((w.alloc (.cells #[.int .i64 0, .int .i64 (fracF 1 2), .int .i64 1, .int .i64 1, .int .i64 0, .int .i64 (fracF 1 2)] 38)).alloc (.cells #[] 38)).alloc (.cells #[.int .i64 jumpF, .int .i64 (1 - 2 * jumpF), .int .i64 jumpF] 3)).ownsRow (w.heap.size + 1) 38 2 (.slice (some ⟨w.heap.size + 1, 0, none⟩) 0 0) 0 ([].flatMap mcells) := by
          have q : ((w.alloc (.cells #[.int .i64 0, .int .i64 (fracF 1 2), .int .i64 1, .int .i64 1, .int .i64 0, .int .i64 (fracF 1 2)] 38)).alloc (.cells #[] 38)).ownsRow (w.heap.size + 1) 38 2 (.slice (some ⟨w.heap.size + 1, 0, none⟩) 0 0) 0 [] := by
            simpa using World.ownsRow_lit (size := 2) (e := 38) (base := w.heap.size + 1) (w.alloc (.cells #[.int .i64 0, .int .i64 (fracF 1 2), .int .i64 1, .int .i64 1, .int .i64 0, .int .i64 (fracF 1 2)] 38)) #[] 0 (by simp) (by unfold maxLen; omega) rfl
          exact q.alloc _
        have ki : Ints (((w.alloc (.cells #[.int .i64 0, .int .i64 (fracF 1 2), .int .i64 1, .int .i64 1, .int .i64 0, .int .i64 (fracF 1 2)] 38)).alloc (.cells #[] 38)).alloc (.cells #[.int .i64 jumpF, .int .i64 (1 - 2 * jumpF), .int .i64 jumpF] 3)) (w.heap.size + 1 + 1) (w.heap.size + 1 + 1 + 1) (some ⟨w.heap.size + 1 + 1, 0, none⟩) 3 3 ksS := by
          have q : (((w.alloc (.cells #[.int .i64 0, .int .i64 (fracF 1 2), .int .i64 1, .int .i64 1, .int .i64 0, .int .i64 (fracF 1 2)] 38)).alloc (.cells #[] 38)).alloc (.cells #[.int .i64 jumpF, .int .i64 (1 - 2 * jumpF), .int .i64 jumpF] 3)).ownsRow (w.heap.size + 1 + 1) 3 1 (.slice (some ⟨w.heap.size + 1 + 1, 0, none⟩) 3 3) 3 (ksS.map (Value.int .i64)) := by
            simpa [ksS] using World.ownsRow_lit (size := 1) (e := 3) (base := w.heap.size + 1 + 1) ((w.alloc (.cells #[.int .i64 0, .int .i64 (fracF 1 2), .int .i64 1, .int .i64 1, .int .i64 0, .int .i64 (fracF 1 2)] 38)).alloc (.cells #[] 38)) #[.int .i64 jumpF, .int .i64 (1 - 2 * jumpF), .int .i64 jumpF] 3 (by simp) (by unfold maxLen; omega) rfl
          exact (OwnI.ints ⟨q, fun ad e => by injection e with e; subst e; exact Nat.lt_succ_self _, ksS_rng⟩)
        have bb : Below w.heap.size w (((w.alloc (.cells #[.int .i64 0, .int .i64 (fracF 1 2), .int .i64 1, .int .i64 1, .int .i64 0, .int .i64 (fracF 1 2)] 38)).alloc (.cells #[] 38)).alloc (.cells #[.int .i64 jumpF, .int .i64 (1 - 2 * jumpF), .int .i64 jumpF] 3)) := by (repeat (first | with_reducible exact Below.refl _ _ | with_reducible exact Below.refl _ _ | with_reducible refine Below.drew ?_ | ((with_reducible refine Below.alloc ?_ ?_ _); rotate_left; · first | omega | (simp [World.setCell]; done) | (simp [World.setCell]; omega)) | ((with_reducible refine Below.setCell ?_ ?_ _); rotate_left; · first | exact Nat.le_refl _ | omega | (simp; done) | (simp; omega))))
        have zz : (((w.alloc (.cells #[.int .i64 0, .int .i64 (fracF 1 2), .int .i64 1, .int .i64 1, .int .i64 0, .int .i64 (fracF 1 2)] 38)).alloc (.cells #[] 38)).alloc (.cells #[.int .i64 jumpF, .int .i64 (1 - 2 * jumpF), .int .i64 jumpF] 3)).heap.size = w.heap.size + 1 + 1 + 1 := by simp
        have hjb := jumpF_bd
        have hcb := cbrt_bd
        have hcr : R64 (2 - cbrtF 2) := by constructor <;> omega
        have hw1 := IntWalk.i64_in (2 - cbrtF 2) (by omega)
        have hw2 := IntWalk.i64_in (2 * jumpF) (by omega)
        have hw3 := IntWalk.i64_in (1 - 2 * jumpF) (by omega)
        clear a1 own1 om
        go_enter Tryd.func54, Tryd.ntmps54
        go_wp2_with fail
        refine (spec_Fraction 1 2 w h1r h2r).mono ?_
        rintro e w' ⟨rfl, rfl⟩
        go_wp2_with fail
        refine (spec_CubeRoot 2 _ h2r).mono ?_
        rintro e w' ⟨rfl, rfl⟩
        go_wp2_with fail
        refine (spec_Inverse (2 - cbrtF 2) _ hcr).mono ?_
        rintro e w' ⟨rfl, rfl⟩
        rw [jump_eq]
        go_wp2_with fail
        generalize (((w.alloc (.cells #[.int .i64 0, .int .i64 (fracF 1 2), .int .i64 1, .int .i64 1, .int .i64 0, .int .i64 (fracF 1 2)] 38)).alloc (.cells #[] 38)).alloc (.cells #[.int .i64 jumpF, .int .i64 (1 - 2 * jumpF), .int .i64 jumpF] 3)) = W at ms oo ki bb zz ⊢
        obtain ⟨gs, hgs⟩ : ∃ gs, gs = w.heap.size := ⟨_, rfl⟩
        obtain ⟨gk, hgk⟩ : ∃ gk, gk = w.heap.size + 1 + 1 := ⟨_, rfl⟩
        rw [← hgk] at ki ⊢
        have bound1 : gs < w.heap.size + 1 := by omega
        have bound2 : gk < W.heap.size := by omega
        have bound3 : w.heap.size + 1 ≠ gk := by omega
        have bound5 : w.heap.size + 1 < gk := by omega
        have bound4 : w.heap.size < W.heap.size := by omega
        clear hgk hgs zz
        go_loopw [7, 9, 10, 40] (fun v _ _ i wr => ∃ (k : Nat) (A : Option Addr) (m c : Nat), k ≤ 3 ∧ i = .int .i64 k ∧ v = .slice A m c ∧ Hid (m = 3 * k) ∧ m ≤ 9 ∧ wr.ownsRow (w.heap.size + 1) 38 2 (.slice A m c) m (((ksS.take k).flatMap timesM).flatMap mcells) ∧ (∀ ad, A = some ad → ad.block ≠ gk) ∧
            Hid (Moves wr w.heap.size (w.heap.size + 1) (some ⟨w.heap.size, 0, none⟩) 3 3 strangL) ∧ Hid (Ints wr gk (gk + 1) (some ⟨gk, 0, none⟩) 3 3 ksS) ∧ gk < wr.heap.size ∧ Below w.heap.size w wr)
          (fun _ _ _ i _ => 4 - (intOf i).toNat)
        case atStart => exact ⟨0, _, _, _, by omega, rfl, rfl, rfl, by omega, oo, fun ad e => by injection e with e; subst e; exact bound3, ms, ki, bound2, bb⟩
        case round =>
          clear oo ms ki bb
          obtain ⟨k, A, m, c, hk, rfl, rfl, hmk, hm9, hown, hne, hms, hki, hgk, hb⟩ := hrel
          by_cases hlt : k < 3
          · have hcell := hki.out.cellK (j := k) hlt
            obtain ⟨kv, hkv⟩ : ∃ kv, ksS.getD k 0 = kv := ⟨_, rfl⟩
            have hkr : R64 kv := by
              rw [← hkv, List.getD, List.getElem?_eq_getElem (show k < ksS.length by simpa [ksS] using hlt)]
              exact ksS_rng _ (List.getElem_mem _)
            have hkt : Hid (ksS.take (k + 1) = ksS.take k ++ [kv]) := by
              show _ = _
              rw [List.take_add_one, ← hkv, List.getD, List.getElem?_eq_getElem (show k < ksS.length by simpa [ksS] using hlt)]
              rfl
            rw [hkv] at hcell
            clear hkv
            go_wp2_with fail
            obtain ⟨W5, rfl⟩ : ∃ W5 : World, W5 = wr := ⟨_, rfl⟩
            try rw [show decide ((k : Int) < 3) = true by simp; omega]
            go_loopw [7, 10] (fun v i wr => ∃ (j : Nat) (A : Option Addr) (m c : Nat), j ≤ 3 ∧ i = .int .i64 j ∧ v = .slice A m c ∧ Hid (m = 3 * k + j) ∧ m ≤ 9 ∧ wr.ownsRow (w.heap.size + 1) 38 2 (.slice A m c) m (((ksS.take k).flatMap timesM ++ (timesM kv).take j).flatMap mcells) ∧ (∀ ad, A = some ad → ad.block ≠ gk) ∧
                Hid (Moves wr w.heap.size (w.heap.size + 1) (some ⟨w.heap.size, 0, none⟩) 3 3 strangL) ∧ Hid (Ints wr gk (gk + 1) (some ⟨gk, 0, none⟩) 3 3 ksS) ∧ gk < wr.heap.size ∧ Below w.heap.size w wr)
              (fun _ i _ => 4 - (intOf i).toNat)
            case atStart => exact ⟨0, A, m, c, by omega, rfl, rfl, by show _ = _; rw [hmk.out]; rfl, hm9, by simpa using hown, hne, hms, hki, hgk, hb⟩
            case round =>
              clear hown hne hms hki hgk hb hcell hm9 hmk
              obtain ⟨j, A, m, c, hj3, rfl, rfl, hmj, hm9, hown, hne, hms, hki, hgk, hb⟩ := hrel
              by_cases hlt2 : j < 3
              · obtain ⟨ad, x, y, e1, hc1, hc2, hr1, hr2, hd, hx⟩ := hms.out.at_ hlt2
                injection e1 with e1
                subst e1
                have hq1 : wr.cell? ⟨w.heap.size, j * 2, none⟩ = some (.int .i64 x) := by simpa [Addr.add_lit] using hc1
                have hq2 : wr.cell? ⟨w.heap.size, j * 2 + 1, none⟩ = some (.int .i64 y) := by simpa [Addr.add_lit] using hc2
                have hsz := hb.size
                have hm8 : m ≤ 8 := by have := hmj.out; omega
                have htk : Hid ((timesM kv).take (j + 1) = (timesM kv).take j ++ [(x, timesF y kv)]) := by
                  show _ = _
                  rw [List.take_add_one]
                  unfold timesM
                  rw [List.getElem?_map, hx.out]
                  rfl
                have aX : Below wr.heap.size wr (wr.alloc (.cells #[.int .i64 x, .int .i64 (timesF y kv)] 38)).drew := by (repeat (first | with_reducible exact Below.refl _ _ | with_reducible exact Below.refl _ _ | with_reducible refine Below.drew ?_ | ((with_reducible refine Below.alloc ?_ ?_ _); rotate_left; · first | omega | (simp [World.setCell]; done) | (simp [World.setCell]; omega)) | ((with_reducible refine Below.setCell ?_ ?_ _); rotate_left; · first | exact Nat.le_refl _ | omega | (simp; done) | (simp; omega))))
                have hownX : (wr.alloc (.cells #[.int .i64 x, .int .i64 (timesF y kv)] 38)).drew.ownsRow (w.heap.size + 1) 38 2 (.slice A m c) m (((ksS.take k).flatMap timesM ++ (timesM kv).take j).flatMap mcells) := hown.alloc _
                have hbl : ∀ ad, A = some ad → w.heap.size + 1 ≤ ad.block ∧ ad.block < wr.heap.size := fun ad e => owns_lt hown ad e
                have hXz : (wr.alloc (.cells #[.int .i64 x, .int .i64 (timesF y kv)] 38)).drew.heap.size = wr.heap.size + 1 := by simp
                have HM := hide (hms.out.below aX (by omega))
                have HK := hide (hki.out.below aX (by omega))
                have hb3 := hb.trans (aX.mono hsz)
                have hcX : (wr.alloc (.cells #[.int .i64 x, .int .i64 (timesF y kv)] 38)).drew.cell? ⟨wr.heap.size, 0, none⟩ = some (.int .i64 x) ∧ (wr.alloc (.cells #[.int .i64 x, .int .i64 (timesF y kv)] 38)).drew.cell? ⟨wr.heap.size, 1, none⟩ = some (.int .i64 (timesF y kv)) := by constructor <;> simp
                have HX := hide (And.intro hownX (And.intro hb3 (And.intro hbl (And.intro hXz (And.intro hcX hne)))))
                clear hc1 hc2 hd hx hms hki hr1 aX hownX hb3 hXz hbl hown hcX hne hb
                go_wp2_with fail
                go_region_held3 (fun w' => w'.cell? ⟨w.heap.size, j * 2, none⟩ = some (.int .i64 x) ∧ w'.cell? ⟨w.heap.size, j * 2 + 1, none⟩ = some (.int .i64 y)) (first | exact ⟨hq1, hq2⟩ | exact ⟨cell_al2 hq1, cell_al2 hq2⟩ | exact ⟨T0, T1⟩ | go_keep)
                  (first
                    | (go_at_call 57; refine (spec_Times y kv _ hr2 hkr).mono ?_; rintro e w' ⟨rfl, rfl⟩)
                    | (refine step_appM (by rfl) _ _ (by rfl) _ (w.heap.size + 1) A m c _ (by rfl) HX.out.1 wr.heap.size 1 x (timesF y kv) (by rfl) HX.out.2.2.2.2.1 (by omega) (by rw [HX.out.2.2.2.1]; omega) ?_; intro g2 c2 w2 hown3 hgrow hat hlt3; have hnr : some w.heap.size ≠ Value.ownBlock (.slice A m c) := (by cases A with | none => simp [Value.ownBlock] | some ad => (have := HX.out.2.2.1 ad rfl; simp [Value.ownBlock]; omega)); have T0 := (hgrow.cell_far ⟨w.heap.size, j * 2, none⟩ (by show w.heap.size < _; rw [HX.out.2.2.2.1]; omega) hnr).trans (cell_al2 hq1); have T1 := (hgrow.cell_far ⟨w.heap.size, j * 2 + 1, none⟩ (by show w.heap.size < _; rw [HX.out.2.2.2.1]; omega) hnr).trans (cell_al2 hq2)))
                have hob : ∀ kk, (∀ ad, A = some ad → ad.block ≠ kk) → some kk ≠ Value.ownBlock (.slice A m c) := by
                  intro kk hkk
                  cases A with
                  | none => simp [Value.ownBlock]
                  | some ad => have := hkk ad rfl; simp [Value.ownBlock]; omega
                have hXz := HX.out.2.2.2.1
                have HB : Below w.heap.size w w2 := Below.grown HX.out.2.1 hgrow (by rw [hXz]; omega) (by
                  intro kk hkk
                  cases A with
                  | none => simp [Value.ownBlock] at hkk
                  | some ad => simp [Value.ownBlock] at hkk; have := HX.out.2.2.1 ad rfl; omega)
                have ms2 := hide (HM.out.same (fun kk q1 q2 => hgrow.block kk (by rw [hXz]; omega) (hob kk (fun ad e => by have := (HX.out.2.2.1 ad e).1; omega))))
                have ki2 := hide (HK.out.same (fun kk q1 q2 => hgrow.block kk (by rw [hXz]; omega) (hob kk (fun ad e => by have := HX.out.2.2.2.2.2 ad e; omega))))
                have hne2 : ∀ ad, some (⟨g2, 0, none⟩ : Addr) = some ad → ad.block ≠ gk := by
                  intro ad e
                  injection e with e
                  subst e
                  show g2 ≠ gk
                  rcases hat with hat | hat
                  · cases A with
                    | none => simp [Value.ownBlock] at hat
                    | some ad => simp [Value.ownBlock] at hat; have := HX.out.2.2.2.2.2 ad rfl; omega
                  · rw [hXz] at hat; omega
                have hg2 : gk < w2.heap.size := by have := hgrow.size; rw [hXz] at this; omega
                have hL : w2.ownsRow (w.heap.size + 1) 38 2 (.slice (some ⟨g2, 0, none⟩) (m + 1) c2) (m + 1) (((ksS.take k).flatMap timesM ++ (timesM kv).take (j + 1)).flatMap mcells) := by
                  rw [htk.out, ← List.append_assoc, List.flatMap_append]
                  simpa using hown3
                have hmj2 : Hid (m + 1 = 3 * k + (j + 1)) := by show _ = _; rw [hmj.out]; omega
                clear hown3 hgrow hat HX HM HK T0 T1 hob hnr hXz hq1 hq2
                go_wp2_with fail
                go_roundw
                case rel => exact ⟨j + 1, _, m + 1, c2, by omega, by go_num, rfl, hmj2, by omega, hL, hne2, ms2, ki2, hg2, HB⟩
                case measure => simp [intOf]; omega
              · obtain rfl : j = 3 := by omega
                have hL : wr.ownsRow (w.heap.size + 1) 38 2 (.slice A m c) m (((ksS.take (k + 1)).flatMap timesM).flatMap mcells) := by
                  rw [hkt.out, List.flatMap_append]
                  simpa [timesM, strangL] using hown
                have hmk2 : Hid (m = 3 * (k + 1)) := by show _ = _; rw [hmj.out]; omega
                clear hown hmj
                go_wp2_with fail
                go_roundw
                case rel => exact ⟨k + 1, A, m, c, by omega, by go_num, rfl, hmk2, hm9, hL, hne, hms, hki, hgk, hb⟩
                case measure => simp [intOf]; omega
          · obtain rfl : k = 3 := by omega
            have B5 := hb
            have HO : Hid (OwnM wr w.heap.size wr.heap.size A m c jumpL) := ⟨owns_low (jumpS_eq ▸ hown) (Nat.le_succ _), fun ad e => (owns_lt hown ad e).2, jump_rng⟩
            clear hown hms hki
            go_wp2_with fail
            refine bodyPost_ret (results_tmp2 rfl _ _ _) rfl ⟨A, m, c, by rw [hF.out]; rfl, ?_, hb⟩
            rw [hF.out]
            exact HO.out
      | false =>
        have hF : Hid (knownF nm = ([], false)) := by show _ = _; unfold knownF; rw [if_neg hl', if_neg hs', if_neg (by rw [hj]; simp)]
        clear hl' hs'
        go_enter Tryd.func54, Tryd.ntmps54
        go_wp2_with fail
        refine (spec_Fraction 1 2 w h1r h2r).mono ?_
        rintro e w' ⟨rfl, rfl⟩
        go_wp2_with fail
        refine bodyPost_ret (results_tmp2 rfl _ _ _) rfl ⟨none, 0, 0, by rw [hF.out]; rfl, ?_, by (repeat (first | with_reducible exact Below.refl _ _ | with_reducible exact Below.refl _ _ | with_reducible refine Below.drew ?_ | ((with_reducible refine Below.alloc ?_ ?_ _); rotate_left; · first | omega | (simp [World.setCell]; done) | (simp [World.setCell]; omega)) | ((with_reducible refine Below.setCell ?_ ?_ _); rotate_left; · first | exact Nat.le_refl _ | omega | (simp; done) | (simp; omega))))⟩
        rw [hF.out]
        exact ⟨World.ownsRow_nil _ _ _ _, by simp, by simp⟩
end Go.Proofs.YtppekbokaknocaaDoor
