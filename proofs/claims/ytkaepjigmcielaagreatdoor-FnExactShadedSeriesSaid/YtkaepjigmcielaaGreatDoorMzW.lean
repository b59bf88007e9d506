/- Shaded trees of an order, and by their numbers: the reference's walks. -/
import Derived.Test.YtkaepjigmcielaaGreatDoorGrW
import Derived.Test.YtkaepjigmcielaaGreatDoorMzL
import Derived.Test.YtkaepjigmcielaaGreatDoorMzP
import Derived.Test.YtkaepjigmcielaaGreatDoorMzK
import Derived.Test.YtkaepjigmcielaaGreatDoorMzB
import Derived.Test.YtkaepjigmcielaaGreatDoorMzV
namespace Go.Proofs.YtkaepjigmcielaaGreatDoor
open Go.RowKit
set_option linter.unusedSimpArgs false
set_option linter.unusedVariables false
set_option maxRecDepth 20000

theorem filterL_step {α : Type} {p : α → Bool} {ls : List α} {k : Nat} {l : α} (h : ls[k]? = some l) : (ls.take (k + 1)).filter p = (ls.take k).filter p ++ (if p l = true then [l] else []) := by
  rw [List.take_add_one, h, List.filter_append]
  simp [List.filter_cons]
theorem cnt_pos : ∀ n ∈ [1, 2, 3, 4], cntF (n - 1) < cntF n := by decide
theorem rows_pos {n : Nat} (h1 : 1 ≤ n) (h4 : n ≤ 4) : 0 < (rowsT n).length := by
  have := cnt_pos n (by simp; omega)
  rw [rowsT_len h1 h4]
  omega
set_option maxRecDepth 100000 in
set_option maxHeartbeats 8000000 in
theorem spec_ShadesOf (n : Nat) (hn1 : 1 ≤ n) (hn4 : n ≤ 4) (w : World) :
    Calls Tryz.prog 24 #[.int .i64 (n : Int)] w fun e w' => ∃ g n' c' vs, e = .returned (.slice (some ⟨g, 0, none⟩) n' c') ∧ RowsI w' w.heap.size w'.heap.size (some ⟨g, 0, none⟩) n' c' vs (rowsT n) ∧ Below w.heap.size w w' := by
  obtain ⟨i1, hi1, hy0, hy1, hy2⟩ := info_parts info_ints
  have hin := hide fun W => spec_l1In (n : Int) 1 4 W
  have hdec : (decide ((1 : Int) ≤ (n : Int)) && decide ((n : Int) ≤ 4)) = true := by
    simp
    omega
  rw [hdec] at hin
  have hG := hide fun W => spec_l10Grow n n none 0 0 [] 0 0 W (Ints.nil_ W 0 0) (Nat.zero_le _) (by omega) hn4 (by simp) (fun _ => ⟨rfl, rfl⟩)
  have b0 := below_alloc w (.cells #[] 22)
  have o0 := hide (RowsO.empty w w.heap.size (Nat.le_refl _)).rows
  have z0 : (w.alloc (.cells #[] 22)).heap.size = w.heap.size + 1 := by simp
  have hok := hide fun l (hl : l ∈ growF n []) => List.all_eq_true.1 (grow_ok n (by simp; omega)) l hl
  have hnum := grow_num n (by simp; omega)
  have htab := hide (grow_tab n (by simp; omega))
  clear hdec
  go_enter Tryz.func24, Tryz.ntmps24
  go_wp2_with fail
  refine (hin.out _).mono ?_
  rintro e w1 ⟨rfl, rfl⟩
  go_wp2_with fail
  refine (hG.out _).mono ?_
  rintro e w1 ⟨gL, nL, cL, vL, rfl, hR, b1⟩
  have z1 := b1.size
  rw [z0] at z1 hR
  have hgL := hR.own.lt gL rfl
  have hcL := hR.capb
  have hnL := hR.len
  have hNL : nL ≤ 1000 := by omega
  have HNL := hide hnL
  have HR := hide hR
  have o1 := hide (o0.out.below b1 (Nat.le_refl _))
  rw [z0] at o1
  have bb := hide (b0.trans (b1.mono (by omega)))
  clear hR b1 o0 b0 hnL hin hG
  go_wp2_with fail
  go_loopw [3, 5] (fun o i wr => ∃ (k N c' : Nat) (A' : Option Addr), k ≤ nL ∧ i = .int .i64 (k : Int) ∧ o = .slice A' N c' ∧ N ≤ k ∧ Hid (∃ vs, RowsI wr w.heap.size wr.heap.size A' N c' vs (((growF n []).take k).filter fun l => decide (formF 4 l = l))) ∧ Hid (∀ ad, A' = some ad → ad.block = w.heap.size ∨ w1.heap.size ≤ ad.block) ∧ Hid (Same (w.heap.size + 1) w1.heap.size w1 wr) ∧ w1.heap.size ≤ wr.heap.size ∧ Hid (Below w.heap.size w wr)) (fun _ i _ => nL - (intOf i).toNat)
  case atStart => exact ⟨0, 0, 0, _, by omega, rfl, rfl, by omega, ⟨[], o1.out.wide (by omega)⟩, fun ad e => by injection e with e; subst e; exact .inl rfl, Same.refl _ _ _, Nat.le_refl _, bb.out⟩
  case round =>
    clear o1 bb
    obtain ⟨i, N, c', A', hk, rfl, rfl, hNk, hO, hA, hS, hzr, hb⟩ := hrel
    have zr := hb.out.size
    by_cases hlt : i < nL
    · obtain ⟨B, m, d, l', h', l, hcw, hI1, hl', hh', hx, hvx, hform⟩ := HR.out.at_ hlt
      have hmem := List.mem_of_getElem? hx.out
      have hgo := hok.out l hmem
      simp only [Bool.and_eq_true, List.all_eq_true, decide_eq_true_eq] at hgo
      obtain ⟨hg1, hg2⟩ := hgo
      obtain ⟨hgood, hl4⟩ := good_of hg1
      have hm : 0 < m := by
        obtain ⟨b, q, e, _⟩ := hgood
        have := hI1.len
        rw [e] at this
        simp at this
        omega
      obtain ⟨ad, rfl⟩ : ∃ ad, B = some ad := by
        obtain ⟨ad, e, _⟩ := hI1.cells hm
        exact ⟨ad, e⟩
      obtain ⟨gr, hgr⟩ : ∃ g, ad = ⟨g, 0, none⟩ := ⟨_, hform ad rfl⟩
      subst hgr
      have hIr := hide (hI1.same fun q q1 q2 => hS.out q (by omega) (by omega))
      have hcl : wr.cell? ⟨gL, i, none⟩ = some (.slice (some ⟨gr, 0, none⟩) m d) := (hS.out.cell (p := ⟨gL, i, none⟩) (by show w.heap.size + 1 ≤ gL; omega) (by show gL < _; omega)).trans hcw
      have hgLw : gL < wr.heap.size := by omega
      have hst := hide (filterL_step (p := fun l => decide (formF 4 l = l)) hx.out)
      have hForm : Hid (∀ W, Below wr.heap.size wr W → Calls Tryz.prog 52 #[.slice (some ⟨gr, 0, none⟩) m d] W fun e w' => ∃ g' c', e = .returned (.slice (some ⟨g', 0, none⟩) m c') ∧ OwnI w' W.heap.size w'.heap.size (some ⟨g', 0, none⟩) m c' (formF 4 l) ∧ Below W.heap.size W w') := fun W hW =>
        spec_l10Form 4 gr m d l l' h' W (hIr.out.below hW (by omega)) (by have := hW.size; omega) hgood hl4 (Nat.le_refl _) (fun x hx => (hg2 x hx).2)
      have hSame : Hid (∀ W, Below wr.heap.size wr W → ∀ g c p q, OwnI W p q (some ⟨g, 0, none⟩) m c (formF 4 l) → Calls Tryz.prog 51 #[.slice (some ⟨g, 0, none⟩) m c, .slice (some ⟨gr, 0, none⟩) m d] W fun e w' => e = .returned (.bool (decide (formF 4 l = l))) ∧ Below W.heap.size W w') := fun W hW g c p q ho =>
        (spec_l2Same _ _ _ _ _ _ _ _ _ _ _ _ W ho.ints (hIr.out.below hW (by omega))).mono fun e w' ⟨h1, n1, h2⟩ => ⟨h1, by rw [h2]; exact below_drewN (Below.refl _ _) n1⟩
      have hN3 : N ≤ 1000 := by omega
      clear hI1 hx hvx hform hcw hmem hg1 hg2 hgood
      by_cases hfl : formF 4 l = l
      · rw [decide_eq_true hfl] at hSame
        have hpt : Hid ((((growF n []).take (i + 1)).filter fun l => decide (formF 4 l = l)) = (((growF n []).take i).filter fun l => decide (formF 4 l = l)) ++ [l]) := by
          show _ = _
          rw [hst.out, if_pos (decide_eq_true hfl)]
        clear hst hfl
        go_upto_region 8 with fail
        go_cut [27] (fun s27 wx => s27 = .bool true ∧ Hid (Below wr.heap.size wr wx))
        case first =>
          refine wp_region_Z (fun W' => Below wr.heap.size wr W') 9 (by kernel_rfl) ?_
          simp only [List.size_toArray, List.length_cons, List.length_nil, Nat.reduceAdd]
          have hS0 : Below wr.heap.size wr wr.drew := (Below.refl wr.heap.size wr).drew
          generalize wr.drew = V at hS0 ⊢
          refine wpAnyZ_takeW 0 (.slice (some ⟨gL, 0, none⟩) nL cL) rfl (by kernel_rfl) (by kernel_rfl) (fun _ _ _ h => h) (by rfl) (fun _ => by first | (simp [go_sem]; done) | go_simp) hS0 ?_
          try simp only [Act.put, List.setIfInBounds_toArray, List.set_cons_zero, List.set_cons_succ, List.getElem_toArray, List.getElem_cons_zero, List.getElem_cons_succ]
          refine wpAnyZ_takeW 1 (.int .i64 (i : Int)) rfl (by kernel_rfl) (by kernel_rfl) (fun _ _ _ h => h) (by rfl) (fun _ => by first | (simp [go_sem]; done) | go_simp) hS0 ?_
          try simp only [Act.put, List.setIfInBounds_toArray, List.set_cons_zero, List.set_cons_succ, List.getElem_toArray, List.getElem_cons_zero, List.getElem_cons_succ]
          refine wpAnyZ_takeW 2 (.pointer (some ⟨gL, i, none⟩)) rfl (by kernel_rfl) (by kernel_rfl) (fun _ _ _ h => h) (by rfl) (fun _ => by first | (simp [go_sem]; done) | go_simp) hS0 ?_
          try simp only [Act.put, List.setIfInBounds_toArray, List.set_cons_zero, List.set_cons_succ, List.getElem_toArray, List.getElem_cons_zero, List.getElem_cons_succ]
          refine wpAnyZ_takeW 5 (.slice (some ⟨gL, 0, none⟩) nL cL) rfl (by kernel_rfl) (by kernel_rfl) (fun _ _ _ h => h) (by rfl) (fun _ => by first | (simp [go_sem]; done) | go_simp) hS0 ?_
          try simp only [Act.put, List.setIfInBounds_toArray, List.set_cons_zero, List.set_cons_succ, List.getElem_toArray, List.getElem_cons_zero, List.getElem_cons_succ]
          refine wpAnyZ_takeW 6 (.int .i64 (i : Int)) rfl (by kernel_rfl) (by kernel_rfl) (fun _ _ _ h => h) (by rfl) (fun _ => by first | (simp [go_sem]; done) | go_simp) hS0 ?_
          try simp only [Act.put, List.setIfInBounds_toArray, List.set_cons_zero, List.set_cons_succ, List.getElem_toArray, List.getElem_cons_zero, List.getElem_cons_succ]
          refine wpAnyZ_takeW 7 (.pointer (some ⟨gL, i, none⟩)) rfl (by kernel_rfl) (by kernel_rfl) (fun _ _ _ h => h) (by rfl) (fun _ => by first | (simp [go_sem]; done) | go_simp) hS0 ?_
          try simp only [Act.put, List.setIfInBounds_toArray, List.set_cons_zero, List.set_cons_succ, List.getElem_toArray, List.getElem_cons_zero, List.getElem_cons_succ]
          refine wpAnyZ_two 3 8 (by kernel_rfl) rfl rfl (by rfl) (by rfl) (fun K hK => ?_) (fun K hK => ?_)
          ·
            have qe3_0 := (hS0.cell (p := ⟨gL, i, none⟩) hgLw).trans hcl
            go_simp
            refine hK.out _ _ hS0 ?_
            clear hK K qe3_0
            try simp only [Act.put, List.setIfInBounds_toArray, List.set_cons_zero, List.set_cons_succ, List.getElem_toArray, List.getElem_cons_zero, List.getElem_cons_succ]
            refine wpAnyZ_two 4 8 (by kernel_rfl) rfl rfl (by rfl) (by rfl) (fun K hK => ?_) (fun K hK => ?_)
            ·
              go_simp
              refine (hForm.out V hS0).mono ?_
              rintro e x1 ⟨gf, cf, rfl, of, b1⟩
              have z1 := hS0.size
              have hS1 := hS0.trans (b1.mono z1)
              have hof := hide of
              clear of
              clear z1
              go_wp2_with fail
              refine hK.out _ _ hS1 ?_
              clear hK K
              try simp only [Act.put, List.setIfInBounds_toArray, List.set_cons_zero, List.set_cons_succ, List.getElem_toArray, List.getElem_cons_zero, List.getElem_cons_succ]
              refine wpAnyZ_one 8 (by kernel_rfl) rfl (by rfl) (fun K hK => ?_)
              have qe8_0 := (hS1.cell (p := ⟨gL, i, none⟩) hgLw).trans hcl
              go_simp
              refine hK.out _ _ hS1 ?_
              clear hK K qe8_0
              try simp only [Act.put, List.setIfInBounds_toArray, List.set_cons_zero, List.set_cons_succ, List.getElem_toArray, List.getElem_cons_zero, List.getElem_cons_succ]
              refine wpAnyZ_last (by kernel_rfl) rfl (by kernel_rfl) (by rfl) (fun K hK => ?_)
              have hK2 := hide hK
              clear hK
              go_simp
              refine (hSame.out x1 hS1 gf cf _ _ hof.out).mono ?_
              rintro e x9 ⟨rfl, b9⟩
              go_wp2_with fail
              refine hK2.out _ _ ?_
              clear hK2 K
              have hb9 := hide (hS1.trans (b9.mono hS1.size))
              clear b9
              go_wp2_with fail
              go_meet
              case rel => exact ⟨rfl, hb9.out⟩
            ·
              have qe8_0 := (hS0.cell (p := ⟨gL, i, none⟩) hgLw).trans hcl
              go_simp
              refine hK.out _ _ hS0 ?_
              clear hK K qe8_0
              try simp only [Act.put, List.setIfInBounds_toArray, List.set_cons_zero, List.set_cons_succ, List.getElem_toArray, List.getElem_cons_zero, List.getElem_cons_succ]
              refine wpAnyZ_one 4 (by kernel_rfl) rfl (by rfl) (fun K hK => ?_)
              go_simp
              refine (hForm.out V hS0).mono ?_
              rintro e x1 ⟨gf, cf, rfl, of, b1⟩
              have z1 := hS0.size
              have hS1 := hS0.trans (b1.mono z1)
              have hof := hide of
              clear of
              clear z1
              go_wp2_with fail
              refine hK.out _ _ hS1 ?_
              clear hK K
              try simp only [Act.put, List.setIfInBounds_toArray, List.set_cons_zero, List.set_cons_succ, List.getElem_toArray, List.getElem_cons_zero, List.getElem_cons_succ]
              refine wpAnyZ_last (by kernel_rfl) rfl (by kernel_rfl) (by rfl) (fun K hK => ?_)
              have hK2 := hide hK
              clear hK
              go_simp
              refine (hSame.out x1 hS1 gf cf _ _ hof.out).mono ?_
              rintro e x9 ⟨rfl, b9⟩
              go_wp2_with fail
              refine hK2.out _ _ ?_
              clear hK2 K
              have hb9 := hide (hS1.trans (b9.mono hS1.size))
              clear b9
              go_wp2_with fail
              go_meet
              case rel => exact ⟨rfl, hb9.out⟩
          ·
            have qe8_0 := (hS0.cell (p := ⟨gL, i, none⟩) hgLw).trans hcl
            go_simp
            refine hK.out _ _ hS0 ?_
            clear hK K qe8_0
            try simp only [Act.put, List.setIfInBounds_toArray, List.set_cons_zero, List.set_cons_succ, List.getElem_toArray, List.getElem_cons_zero, List.getElem_cons_succ]
            refine wpAnyZ_one 3 (by kernel_rfl) rfl (by rfl) (fun K hK => ?_)
            have qe3_0 := (hS0.cell (p := ⟨gL, i, none⟩) hgLw).trans hcl
            go_simp
            refine hK.out _ _ hS0 ?_
            clear hK K qe3_0
            try simp only [Act.put, List.setIfInBounds_toArray, List.set_cons_zero, List.set_cons_succ, List.getElem_toArray, List.getElem_cons_zero, List.getElem_cons_succ]
            refine wpAnyZ_one 4 (by kernel_rfl) rfl (by rfl) (fun K hK => ?_)
            go_simp
            refine (hForm.out V hS0).mono ?_
            rintro e x1 ⟨gf, cf, rfl, of, b1⟩
            have z1 := hS0.size
            have hS1 := hS0.trans (b1.mono z1)
            have hof := hide of
            clear of
            clear z1
            go_wp2_with fail
            refine hK.out _ _ hS1 ?_
            clear hK K
            try simp only [Act.put, List.setIfInBounds_toArray, List.set_cons_zero, List.set_cons_succ, List.getElem_toArray, List.getElem_cons_zero, List.getElem_cons_succ]
            refine wpAnyZ_last (by kernel_rfl) rfl (by kernel_rfl) (by rfl) (fun K hK => ?_)
            have hK2 := hide hK
            clear hK
            go_simp
            refine (hSame.out x1 hS1 gf cf _ _ hof.out).mono ?_
            rintro e x9 ⟨rfl, b9⟩
            go_wp2_with fail
            refine hK2.out _ _ ?_
            clear hK2 K
            have hb9 := hide (hS1.trans (b9.mono hS1.size))
            clear b9
            go_wp2_with fail
            go_meet
            case rel => exact ⟨rfl, hb9.out⟩
        case rest =>
         obtain ⟨rfl, hb9⟩ := hcut
         obtain ⟨vs, hv⟩ := hO.out
         have z9 := hb9.out.size
         have hv9 := hide (hv.below hb9.out (Nat.le_refl _))
         have hcl9 := (hb9.out.cell (p := ⟨gL, i, none⟩) hgLw).trans hcl
         have hI9 := hide (hIr.out.below hb9.out (by omega))
         clear hv hO hcl hForm hSame hIr
         go_wp2_with (at_builtin; refine wpl_app1b rfl (.tmp 28) (.tmp 33) 26 rfl w.heap.size 22 i1 (.slice none 0 0) 1 24 Tryz.underlying26 hi1 hy0 hy1 hy2 rfl (by omega) wc #[.slice (some ⟨gr, 0, none⟩) m d] _ rfl A' N c' 1 _ rfl rfl hv9.out.own rfl (by simp [Value.oneCell']) (by omega) (by omega) (by omega) ?_; intro A5 c5 w5 hap5 hlt5)
         have hN5 := hide (hv9.out.snoc (by omega) hI9.out (by omega) (by omega) (fun ad e => by have := hA.out ad e; omega) (fun ad e => by injection e with e; subst e; rfl) hap5)
         have hA5 : Hid (∀ ad, A5 = some ad → ad.block = w.heap.size ∨ w1.heap.size ≤ ad.block) := fun ad e => by
           rcases hap5.2.2 with h1 | h1
           · exact hA.out ad (h1 ad e)
           · have := h1 ad e
             omega
         have hS5 := hide ((hS.out.trans (.of_below hb9.out hzr)).trans (hap5.sameB (by omega) fun ad e => by
           have := hA.out ad e
           omega))
         have hb5 := hide (hap5.low (hb.out.trans (hb9.out.mono zr)) (by omega) (Nat.le_refl _) hv9.out.own)
         rw [← hpt.out] at hN5
         clear hap5 hv9 hI9 hA hS hb hb9
         go_wp2_with fail
         go_roundw
         case rel => exact ⟨i + 1, N + 1, c5, A5, by omega, by go_num, rfl, by omega, ⟨_, hN5.out⟩, hA5.out, hS5.out, by omega, hb5.out⟩
         case measure => simp [intOf]; omega
      · rw [decide_eq_false hfl] at hSame
        have hpt : Hid ((((growF n []).take (i + 1)).filter fun l => decide (formF 4 l = l)) = (((growF n []).take i).filter fun l => decide (formF 4 l = l))) := by
          show _ = _
          rw [hst.out, if_neg (by simpa using hfl), List.append_nil]
        clear hst hfl
        go_upto_region 8 with fail
        go_cut [27] (fun s27 wx => s27 = .bool false ∧ Hid (Below wr.heap.size wr wx))
        case first =>
          refine wp_region_Z (fun W' => Below wr.heap.size wr W') 9 (by kernel_rfl) ?_
          simp only [List.size_toArray, List.length_cons, List.length_nil, Nat.reduceAdd]
          have hS0 : Below wr.heap.size wr wr.drew := (Below.refl wr.heap.size wr).drew
          generalize wr.drew = V at hS0 ⊢
          refine wpAnyZ_takeW 0 (.slice (some ⟨gL, 0, none⟩) nL cL) rfl (by kernel_rfl) (by kernel_rfl) (fun _ _ _ h => h) (by rfl) (fun _ => by first | (simp [go_sem]; done) | go_simp) hS0 ?_
          try simp only [Act.put, List.setIfInBounds_toArray, List.set_cons_zero, List.set_cons_succ, List.getElem_toArray, List.getElem_cons_zero, List.getElem_cons_succ]
          refine wpAnyZ_takeW 1 (.int .i64 (i : Int)) rfl (by kernel_rfl) (by kernel_rfl) (fun _ _ _ h => h) (by rfl) (fun _ => by first | (simp [go_sem]; done) | go_simp) hS0 ?_
          try simp only [Act.put, List.setIfInBounds_toArray, List.set_cons_zero, List.set_cons_succ, List.getElem_toArray, List.getElem_cons_zero, List.getElem_cons_succ]
          refine wpAnyZ_takeW 2 (.pointer (some ⟨gL, i, none⟩)) rfl (by kernel_rfl) (by kernel_rfl) (fun _ _ _ h => h) (by rfl) (fun _ => by first | (simp [go_sem]; done) | go_simp) hS0 ?_
          try simp only [Act.put, List.setIfInBounds_toArray, List.set_cons_zero, List.set_cons_succ, List.getElem_toArray, List.getElem_cons_zero, List.getElem_cons_succ]
          refine wpAnyZ_takeW 5 (.slice (some ⟨gL, 0, none⟩) nL cL) rfl (by kernel_rfl) (by kernel_rfl) (fun _ _ _ h => h) (by rfl) (fun _ => by first | (simp [go_sem]; done) | go_simp) hS0 ?_
          try simp only [Act.put, List.setIfInBounds_toArray, List.set_cons_zero, List.set_cons_succ, List.getElem_toArray, List.getElem_cons_zero, List.getElem_cons_succ]
          refine wpAnyZ_takeW 6 (.int .i64 (i : Int)) rfl (by kernel_rfl) (by kernel_rfl) (fun _ _ _ h => h) (by rfl) (fun _ => by first | (simp [go_sem]; done) | go_simp) hS0 ?_
          try simp only [Act.put, List.setIfInBounds_toArray, List.set_cons_zero, List.set_cons_succ, List.getElem_toArray, List.getElem_cons_zero, List.getElem_cons_succ]
          refine wpAnyZ_takeW 7 (.pointer (some ⟨gL, i, none⟩)) rfl (by kernel_rfl) (by kernel_rfl) (fun _ _ _ h => h) (by rfl) (fun _ => by first | (simp [go_sem]; done) | go_simp) hS0 ?_
          try simp only [Act.put, List.setIfInBounds_toArray, List.set_cons_zero, List.set_cons_succ, List.getElem_toArray, List.getElem_cons_zero, List.getElem_cons_succ]
          refine wpAnyZ_two 3 8 (by kernel_rfl) rfl rfl (by rfl) (by rfl) (fun K hK => ?_) (fun K hK => ?_)
          ·
            have qe3_0 := (hS0.cell (p := ⟨gL, i, none⟩) hgLw).trans hcl
            go_simp
            refine hK.out _ _ hS0 ?_
            clear hK K qe3_0
            try simp only [Act.put, List.setIfInBounds_toArray, List.set_cons_zero, List.set_cons_succ, List.getElem_toArray, List.getElem_cons_zero, List.getElem_cons_succ]
            refine wpAnyZ_two 4 8 (by kernel_rfl) rfl rfl (by rfl) (by rfl) (fun K hK => ?_) (fun K hK => ?_)
            ·
              go_simp
              refine (hForm.out V hS0).mono ?_
              rintro e x1 ⟨gf, cf, rfl, of, b1⟩
              have z1 := hS0.size
              have hS1 := hS0.trans (b1.mono z1)
              have hof := hide of
              clear of
              clear z1
              go_wp2_with fail
              refine hK.out _ _ hS1 ?_
              clear hK K
              try simp only [Act.put, List.setIfInBounds_toArray, List.set_cons_zero, List.set_cons_succ, List.getElem_toArray, List.getElem_cons_zero, List.getElem_cons_succ]
              refine wpAnyZ_one 8 (by kernel_rfl) rfl (by rfl) (fun K hK => ?_)
              have qe8_0 := (hS1.cell (p := ⟨gL, i, none⟩) hgLw).trans hcl
              go_simp
              refine hK.out _ _ hS1 ?_
              clear hK K qe8_0
              try simp only [Act.put, List.setIfInBounds_toArray, List.set_cons_zero, List.set_cons_succ, List.getElem_toArray, List.getElem_cons_zero, List.getElem_cons_succ]
              refine wpAnyZ_last (by kernel_rfl) rfl (by kernel_rfl) (by rfl) (fun K hK => ?_)
              have hK2 := hide hK
              clear hK
              go_simp
              refine (hSame.out x1 hS1 gf cf _ _ hof.out).mono ?_
              rintro e x9 ⟨rfl, b9⟩
              go_wp2_with fail
              refine hK2.out _ _ ?_
              clear hK2 K
              have hb9 := hide (hS1.trans (b9.mono hS1.size))
              clear b9
              go_wp2_with fail
              go_meet
              case rel => exact ⟨rfl, hb9.out⟩
            ·
              have qe8_0 := (hS0.cell (p := ⟨gL, i, none⟩) hgLw).trans hcl
              go_simp
              refine hK.out _ _ hS0 ?_
              clear hK K qe8_0
              try simp only [Act.put, List.setIfInBounds_toArray, List.set_cons_zero, List.set_cons_succ, List.getElem_toArray, List.getElem_cons_zero, List.getElem_cons_succ]
              refine wpAnyZ_one 4 (by kernel_rfl) rfl (by rfl) (fun K hK => ?_)
              go_simp
              refine (hForm.out V hS0).mono ?_
              rintro e x1 ⟨gf, cf, rfl, of, b1⟩
              have z1 := hS0.size
              have hS1 := hS0.trans (b1.mono z1)
              have hof := hide of
              clear of
              clear z1
              go_wp2_with fail
              refine hK.out _ _ hS1 ?_
              clear hK K
              try simp only [Act.put, List.setIfInBounds_toArray, List.set_cons_zero, List.set_cons_succ, List.getElem_toArray, List.getElem_cons_zero, List.getElem_cons_succ]
              refine wpAnyZ_last (by kernel_rfl) rfl (by kernel_rfl) (by rfl) (fun K hK => ?_)
              have hK2 := hide hK
              clear hK
              go_simp
              refine (hSame.out x1 hS1 gf cf _ _ hof.out).mono ?_
              rintro e x9 ⟨rfl, b9⟩
              go_wp2_with fail
              refine hK2.out _ _ ?_
              clear hK2 K
              have hb9 := hide (hS1.trans (b9.mono hS1.size))
              clear b9
              go_wp2_with fail
              go_meet
              case rel => exact ⟨rfl, hb9.out⟩
          ·
            have qe8_0 := (hS0.cell (p := ⟨gL, i, none⟩) hgLw).trans hcl
            go_simp
            refine hK.out _ _ hS0 ?_
            clear hK K qe8_0
            try simp only [Act.put, List.setIfInBounds_toArray, List.set_cons_zero, List.set_cons_succ, List.getElem_toArray, List.getElem_cons_zero, List.getElem_cons_succ]
            refine wpAnyZ_one 3 (by kernel_rfl) rfl (by rfl) (fun K hK => ?_)
            have qe3_0 := (hS0.cell (p := ⟨gL, i, none⟩) hgLw).trans hcl
            go_simp
            refine hK.out _ _ hS0 ?_
            clear hK K qe3_0
            try simp only [Act.put, List.setIfInBounds_toArray, List.set_cons_zero, List.set_cons_succ, List.getElem_toArray, List.getElem_cons_zero, List.getElem_cons_succ]
            refine wpAnyZ_one 4 (by kernel_rfl) rfl (by rfl) (fun K hK => ?_)
            go_simp
            refine (hForm.out V hS0).mono ?_
            rintro e x1 ⟨gf, cf, rfl, of, b1⟩
            have z1 := hS0.size
            have hS1 := hS0.trans (b1.mono z1)
            have hof := hide of
            clear of
            clear z1
            go_wp2_with fail
            refine hK.out _ _ hS1 ?_
            clear hK K
            try simp only [Act.put, List.setIfInBounds_toArray, List.set_cons_zero, List.set_cons_succ, List.getElem_toArray, List.getElem_cons_zero, List.getElem_cons_succ]
            refine wpAnyZ_last (by kernel_rfl) rfl (by kernel_rfl) (by rfl) (fun K hK => ?_)
            have hK2 := hide hK
            clear hK
            go_simp
            refine (hSame.out x1 hS1 gf cf _ _ hof.out).mono ?_
            rintro e x9 ⟨rfl, b9⟩
            go_wp2_with fail
            refine hK2.out _ _ ?_
            clear hK2 K
            have hb9 := hide (hS1.trans (b9.mono hS1.size))
            clear b9
            go_wp2_with fail
            go_meet
            case rel => exact ⟨rfl, hb9.out⟩
        case rest =>
         obtain ⟨rfl, hb9⟩ := hcut
         obtain ⟨vs, hv⟩ := hO.out
         have z9 := hb9.out.size
         have hv9 := hide ((hv.below hb9.out (Nat.le_refl _)).wide z9)
         have hS5 := hide (hS.out.trans (.of_below hb9.out hzr))
         have hb5 := hide (hb.out.trans (hb9.out.mono zr))
         rw [← hpt.out] at hv9
         clear hv hO hcl hForm hSame hIr hb hS hb9
         go_wp2_with fail
         go_roundw
         case rel => exact ⟨i + 1, N, c', A', by omega, by go_num, rfl, by omega, ⟨_, hv9.out⟩, hA.out, hS5.out, by omega, hb5.out⟩
         case measure => simp [intOf]; omega
    · obtain rfl : i = nL := by omega
      rw [List.take_of_length_le (Nat.le_of_eq HNL.out), htab.out] at hO
      obtain ⟨vs, hv⟩ := hO.out
      obtain ⟨g, rfl⟩ : ∃ g, A' = some ⟨g, 0, none⟩ := by
        have hN : 0 < N := by
          have := hv.len
          have := rows_pos hn1 hn4
          omega
        obtain ⟨_, _, hsh, hsf⟩ := own_shape hv.own
        injection hsh with hsh
        cases A' with
        | none => exact absurd (RowsI.nil_n hv) (by omega)
        | some ad => exact ⟨ad.block, by rw [hsf ad hsh.symm]⟩
      have HV := hide hv
      clear hv hO hA
      go_wp2_with fail
      go_ret
      exact ⟨g, N, c', vs, rfl, HV.out, hb.out⟩

theorem rowsT_at {n k : Nat} (h1 : 1 ≤ n) (h4 : n ≤ 4) (hlo : cntF (n - 1) ≤ k) (hhi : k < cntF n) : (rowsT n)[k - cntF (n - 1)]? = some (listAt (k : Int)) := by
  have c2 := (cnt_step n (by simp; omega)).2
  have hl := tabL_len
  unfold rowsT listAt
  rw [List.getElem?_drop, List.getElem?_take_of_lt (by omega), show cntF (n - 1) + (k - cntF (n - 1)) = k by omega, Int.toNat_natCast, List.getElem?_eq_getElem (by omega)]
  rfl

end Go.Proofs.YtkaepjigmcielaaGreatDoor
/- Weights of shaded trees: the reference's walk. -/
namespace Go.Proofs.YtkaepjigmcielaaGreatDoor
open Go.RowKit
set_option linter.unusedSimpArgs false
set_option linter.unusedVariables false
set_option maxRecDepth 20000

theorem good_col {l : List Int} (h : Good l) : ∃ a r, l = a :: r ∧ (a = 0 ∨ a = 1) := by
  obtain ⟨b, q, e, h0, h1, _⟩ := h
  exact ⟨b, q, e, by omega⟩

end Go.Proofs.YtkaepjigmcielaaGreatDoor
