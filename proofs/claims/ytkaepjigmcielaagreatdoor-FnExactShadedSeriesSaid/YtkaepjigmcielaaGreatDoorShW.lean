/- All shaded trees: the program's walk. -/
import Derived.Test.YtkaepjigmcielaaGreatDoorMzR
import Derived.Test.YtkaepjigmcielaaGreatDoorMzS
import Derived.Test.YtkaepjigmcielaaGreatDoorMzL
namespace Go.Proofs.YtkaepjigmcielaaGreatDoor
open Go.RowKit
set_option linter.unusedSimpArgs false
set_option linter.unusedVariables false
set_option maxRecDepth 20000

def listC (l : List Int) : List (List Int) := (colF l).map (formG 4 2)
theorem listsF_eq (n : Nat) : listsF n = (levF n).flatMap listC := rfl
theorem lists_okG {n : Nat} (h1 : 1 ≤ n) (h4 : n ≤ 4) {l x : List Int} (hl : l ∈ levF n) (hx : x ∈ colF l) : okG 4 2 x = true := by
  have hn : n ∈ [1, 2, 3, 4] := by simp; omega
  exact List.all_eq_true.1 (List.all_eq_true.1 (lists_ok n hn) l hl) x hx
theorem colF_mem_len {l x : List Int} (h : x ∈ colF l) : x.length = l.length := by
  simp only [colF, List.mem_map] at h
  obtain ⟨s, _, rfl⟩ := h
  exact colR_len s l 0
theorem lists_pos : ∀ n ∈ [1, 2, 3, 4], 0 < (listsF n).length := by decide +kernel
theorem map_step {α β : Type} {ls : List α} {f : α → β} {k : Nat} {l : α} (h : ls[k]? = some l) : (ls.take (k + 1)).map f = (ls.take k).map f ++ [f l] := by
  rw [List.take_add_one, h]
  simp

theorem info_shade : (Tryz.prog.info? 62).map (fun i => (i.zero, i.size, i.bytes)) = some (some (.agg #[.slice none 0 0, .int .i64 0, .slice none 0 0, .int .i64 0]), 4, 64) := by kernel_rfl
def prevB (bs : List Int) (i : Nat) : Option Int := if i = 0 then none else bs[i - 1]?
theorem prev_next {bs : List Int} {i : Nat} {b : Int} (h : bs[i]? = some b) : prevB bs (i + 1) = some b := by
  rw [prevB, if_neg (by omega), Nat.add_sub_cancel]
  exact h
theorem blk_keep {w w' : World} {g n c : Nat} {A : Option Addr} {vs : Array Value} (h : BlkN w g vs) (hg : w.grownBy w' (Value.ownBlock (.slice A n c))) (hA : ∀ ad, A = some ad → g < ad.block) : BlkN w' g vs :=
  h.same (hg.block g h.lt fun e => by
    obtain ⟨ad, e1, e2⟩ := ownBlock_eq.1 e.symm
    have := hA ad e1
    omega)

set_option maxRecDepth 100000 in
set_option maxHeartbeats 8000000 in
theorem impl_shadeAll (B : Nat) (w : World) (hT : TreeV B w) (hB : B ≤ w.heap.size) :
    Calls Tryz.prog 35 #[] w fun e w' => ∃ g c es, e = .returned (.slice (some ⟨g, 0, none⟩) 72 c) ∧ AllS w' w.heap.size w'.heap.size (some ⟨g, 0, none⟩) 72 c es ∧ es.map Sh.key = tabS ∧ Below w.heap.size w w' := by
  obtain ⟨i0, hi0, hz0, hz1, hz2⟩ := info_parts info_int
  obtain ⟨i1, hi1, hy0, hy1, hy2⟩ := info_parts info_ints
  obtain ⟨i4, hi4, hw0, hw1, hw2⟩ := info_parts info_shade
  have HT := hide hT
  clear hT
  have b0 := below_alloc w (.cells #[] 62)
  have o0 := hide ((AllS.empty w w.heap.size (Nat.le_refl _)).wide (hi2 := (w.alloc (.cells #[] 62)).heap.size) (by simp))
  go_enter Tryz.func35, Tryz.ntmps35
  go_wp2_with fail
  generalize World.alloc w (.cells #[] 62) = W0 at o0 b0 ⊢
  go_loopw [1, 2, 3, 5, 7, 9, 10, 11, 13, 15, 16, 17, 18] (fun o i _ _ _ _ _ _ _ _ _ _ _ wr => ∃ (n c : Nat) (A : Option Addr), 1 ≤ n ∧ n ≤ 5 ∧ i = .int .i64 (n : Int) ∧ o = .slice A (cntF (n - 1)) c ∧ Hid (∃ es, AllS wr w.heap.size wr.heap.size A (cntF (n - 1)) c es ∧ es.map Sh.key = tabS.take (cntF (n - 1))) ∧ Hid (Below w.heap.size w wr)) (fun _ i _ _ _ _ _ _ _ _ _ _ _ _ => 6 - (intOf i).toNat)
  case atStart => exact ⟨1, 0, _, by omega, by omega, rfl, rfl, ⟨[], o0.out, rfl⟩, b0⟩
  case round =>
    clear o0 b0
    obtain ⟨n, c, A, hn1, hn5, rfl, rfl, hO, hb⟩ := hrel
    have zr := hb.out.size
    by_cases hlt : n ≤ 4
    · have hdl : decide ((n : Int) ≤ 4) = true := by simp; omega
      obtain ⟨N0, hN0⟩ : ∃ q, q = cntF (n - 1) := ⟨_, rfl⟩
      rw [← hN0] at hO ⊢
      have HN0 := hide hN0
      clear hN0
      obtain ⟨wo, hwo⟩ : ∃ wo : World, wo = wr := ⟨_, rfl⟩
      subst hwo
      have bL := below_alloc wo (.cells #[] 22)
      have oL := hide (RowsO.empty wo wo.heap.size (Nat.le_refl _))
      have zL : (wo.alloc (.cells #[] 22)).heap.size = wo.heap.size + 1 := by simp
      have hLev := hide fun W => impl_levelLists n hn1 hlt W
      go_wp2_with fail
      refine (hLev.out _).mono ?_
      rintro e w1 ⟨g1, n1, c1, vs1, rfl, hO1, b1⟩
      have z1 := b1.size
      rw [zL] at z1
      have hR1 := hide hO1.rows
      have hg1 := hO1.own.lt g1 rfl
      rw [zL] at hg1 hR1
      have hcb1 := hO1.capb
      have hl1 := hide hO1.len
      have hn15 : n1 ≤ 5 := by
        have := hO1.len
        have := (lists_len n (by simp; omega)).2
        omega
      have hL0 : Hid (RowsO w1 wo.heap.size (some ⟨wo.heap.size, 0, none⟩) 0 0 [] []) := oL.out.kept b1
      have hb01 := hide (bL.trans (b1.mono (by omega)))
      clear hO1 b1 oL bL hLev
      go_wp2_with fail
      go_loopw [3, 5, 7, 28] (fun o _ _ i wr => ∃ (k N c' : Nat) (A : Option Addr), k ≤ n1 ∧ i = .int .i64 (k : Int) ∧ o = .slice A N c' ∧ N ≤ 16 * k ∧ Hid (∃ vs, RowsO wr wo.heap.size A N c' vs (((levF n).take k).flatMap listC)) ∧ Hid (∀ ad, A = some ad → ad.block = wo.heap.size ∨ w1.heap.size ≤ ad.block) ∧ Hid (Same (wo.heap.size + 1) w1.heap.size w1 wr) ∧ w1.heap.size ≤ wr.heap.size ∧ Hid (Below wo.heap.size wo wr)) (fun _ _ _ i _ => n1 - (intOf i).toNat)
      case atStart => exact ⟨0, 0, 0, _, by omega, rfl, rfl, by omega, ⟨[], hL0.out⟩, fun ad e => by injection e with e; subst e; exact .inl rfl, Same.refl _ _ _, Nat.le_refl _, hb01.out⟩
      case round =>
        clear hL0 hb01
        obtain ⟨k, N, c', A3, hk, rfl, rfl, hNk, hL, hA, hS, hzr, hbo⟩ := hrel
        by_cases hlt2 : k < n1
        · obtain ⟨B1, m, d, l', h', l, hcw, hI1, hl', hh', hx, hvx, hform⟩ := hR1.out.at_ hlt2
          have hcl : wr.cell? ⟨g1, k, none⟩ = some (.slice B1 m d) := (hS.out.cell (p := ⟨g1, k, none⟩) (by show wo.heap.size + 1 ≤ g1; omega) (by show g1 < _; omega)).trans hcw
          have hlmem := List.mem_of_getElem? hx.out
          obtain ⟨hlm, hlr⟩ := lev_mem hn1 hlt hlmem
          have hCol := hide (impl_colourings B1 m d l l' h' wr (hI1.same fun q q1 q2 => hS.out q (by omega) (by omega)) (by omega) (by have := hI1.len; omega) hlr)
          have hfs := hide (flat_step (f := listC) hx.out)
          have hok := hide fun x (hx : x ∈ colF l) => And.intro (lists_okG hn1 hlt hlmem hx) (colF_mem_len hx)
          have hclen : (colF l).length ≤ 16 := by
            rw [colF_len, hlm]
            exact Nat.pow_le_pow_right (by omega) hlt
          have HCL := hide hclen
          have HLM := hide hlm
          clear hI1 hx hvx hform hcw hlmem hlm hlr hclen
          go_wp2_with fail
          refine hCol.out.mono ?_
          rintro e w2 ⟨g2, n2, c2, vs2, rfl, hO2, b2⟩
          have z2 := b2.size
          have hR2 := hide hO2.rows
          have hg2 := hO2.own.lt g2 rfl
          have hcb2 := hO2.capb
          have hl2 := hide hO2.len
          have hn2 : n2 ≤ 16 := by
            have := hO2.len
            have := HCL.out
            omega
          obtain ⟨wp, hwp⟩ : ∃ wp : World, wp = wr := ⟨_, rfl⟩
          subst hwp
          have hL2 : Hid (∃ vs, RowsO w2 wo.heap.size A3 N c' vs (((levF n).take k).flatMap listC ++ ((colF l).take 0).map (formG 4 2))) := by
            obtain ⟨vs, hv⟩ := hL.out
            exact ⟨vs, by simpa using hv.kept b2⟩
          have hA2 : Hid (∀ ad, A3 = some ad → ad.block < wp.heap.size ∨ w2.heap.size ≤ ad.block) := by
            obtain ⟨vs, hv⟩ := hL.out
            exact fun ad e => .inl (owns_lt hv.own ad e).2
          have hS2 := hide (hS.out.trans (.of_below b2 hzr))
          have hzo := hbo.out.size
          have hb2o := hide (hbo.out.trans (b2.mono hzo))
          clear hO2 hCol hcl
          go_wp2_with fail
          go_loopw [3, 7, 35] (fun o _ i wr => ∃ (j N c' : Nat) (A : Option Addr), j ≤ n2 ∧ i = .int .i64 (j : Int) ∧ o = .slice A N c' ∧ N ≤ 16 * k + j ∧ Hid (∃ vs, RowsO wr wo.heap.size A N c' vs (((levF n).take k).flatMap listC ++ ((colF l).take j).map (formG 4 2))) ∧ Hid (∀ ad, A = some ad → ad.block = wo.heap.size ∨ w1.heap.size ≤ ad.block) ∧ Hid (∀ ad, A = some ad → ad.block < wp.heap.size ∨ w2.heap.size ≤ ad.block) ∧ Hid (Same (wo.heap.size + 1) w1.heap.size w1 wr) ∧ Hid (Same wp.heap.size w2.heap.size w2 wr) ∧ w2.heap.size ≤ wr.heap.size ∧ Hid (Below wo.heap.size wo wr)) (fun _ _ i _ => n2 - (intOf i).toNat)
          case atStart => exact ⟨0, N, c', A3, by omega, rfl, rfl, by omega, hL2.out, hA.out, hA2.out, hS2.out, Same.refl _ _ _, Nat.le_refl _, hb2o.out⟩
          case round =>
            clear hL hA hS hbo hL2 hA2 hS2 hb2o b2
            obtain ⟨j, N, c', A3, hj, rfl, rfl, hNj, hL, hA, hA2, hS, hS2, hzr2, hbo⟩ := hrel
            by_cases hlt3 : j < n2
            · obtain ⟨B2, m2, d2, l2, h2, x, hcw, hI2, hl2', hh2', hx, hvx, hform⟩ := hR2.out.at_ hlt3
              have hcx : wr.cell? ⟨g2, j, none⟩ = some (.slice B2 m2 d2) := (hS2.out.cell (p := ⟨g2, j, none⟩) (by show wp.heap.size ≤ g2; omega) (by show g2 < _; omega)).trans hcw
              obtain ⟨hox, hxl⟩ := hok.out x (List.mem_of_getElem? hx.out)
              have hm2 : 0 < m2 := by have := okG_pos hox; have := hI2.len; omega
              have hm24 : x.length ≤ 4 := by have := HLM.out; omega
              obtain ⟨ad, rfl⟩ : ∃ ad, B2 = some ad := by
                obtain ⟨ad, e, _⟩ := hI2.cells hm2
                exact ⟨ad, e⟩
              obtain ⟨b, hb0⟩ : ∃ b, ad = ⟨b, 0, none⟩ := ⟨_, hform ad rfl⟩
              subst hb0
              have hSo := hide (impl_sortedG 2 (by omega) (by omega) 4 b m2 d2 x l2 h2 wr (hI2.same fun q q1 q2 => hS2.out q (by omega) (by omega)) (by omega) hox hm24)
              have hst := hide (map_step (f := formG 4 2) hx.out)
              clear hI2 hx hvx hform hcw hox hxl
              go_wp2_with fail
              refine hSo.out.mono ?_
              rintro e w3 ⟨g3, c3, rfl, o3, b3⟩
              have z3 := b3.size
              obtain ⟨vs3, hLv⟩ := hL.out
              have hLw := hide hLv
              have hLk := hide (hLv.kept b3)
              have ho3 := hide o3
              have hzo3 := hbo.out.size
              have hb3 := hide b3
              clear hLv hL o3 b3 hSo hcx
              go_wp2_with (at_builtin; refine wpl_app1b rfl (.tmp 39) (.tmp 42) 26 rfl wo.heap.size 22 i1 (.slice none 0 0) 1 24 Tryz.underlying26 hi1 hy0 hy1 hy2 rfl (by omega) w3 #[.slice (some ⟨g3, 0, none⟩) m2 c3] _ rfl A3 N c' 1 _ rfl rfl hLk.out.own rfl (by simp [Value.oneCell']) (by omega) (by omega) (by omega) ?_; intro A5 c5 w5 hap5 hlt5)
              have hO5 := hide (hLk.out.pushRow (owns_low ho3.out.own hzo3) ho3.out.rng (hb := wr.heap.size) (fun ad e => (owns_lt ho3.out.own ad e).1) (fun ad e => (owns_lt hLw.out.own ad e).2) (fun j v hv b hb => (hLw.out.olt j v hv b hb).2) hap5)
              have hA5 : Hid (∀ ad, A5 = some ad → ad.block = wo.heap.size ∨ w1.heap.size ≤ ad.block) := fun ad e => by
                rcases hap5.2.2 with h1 | h1
                · exact hA.out ad (h1 ad e)
                · have := h1 ad e
                  omega
              have hA6 : Hid (∀ ad, A5 = some ad → ad.block < wp.heap.size ∨ w2.heap.size ≤ ad.block) := fun ad e => by
                rcases hap5.2.2 with h1 | h1
                · exact hA2.out ad (h1 ad e)
                · have := h1 ad e
                  omega
              have hS5 := hide ((hS.out.trans (.of_below hb3.out (by omega))).trans (hap5.sameB (by omega) fun ad e => by
                have := hA.out ad e
                omega))
              have hS6 := hide ((hS2.out.trans (.of_below hb3.out (by omega))).trans (hap5.sameB (by omega) fun ad e => hA2.out ad e))
              have hB5 := hide (hap5.low (hbo.out.trans (hb3.out.mono hzo3)) (by omega) (Nat.le_refl _) hLk.out.own)
              have hz5 : w2.heap.size ≤ w5.heap.size := by omega
              rw [List.append_assoc, ← hst.out] at hO5
              clear hap5 hLw hLk ho3 hS hS2 hA hA2 hbo hb3
              go_roundw
              case rel => exact ⟨j + 1, N + 1, c5, A5, by omega, by go_num, rfl, by omega, ⟨_, hO5.out⟩, hA5.out, hA6.out, hS5.out, hS6.out, hz5, hB5.out⟩
              case measure => simp [intOf]; omega
            · obtain rfl : j = n2 := by omega
              have htk : (colF l).take j = colF l := List.take_of_length_le (Nat.le_of_eq hl2.out)
              rw [htk, show (colF l).map (formG 4 2) = listC l from rfl, ← hfs.out] at hL
              go_wp2_with fail
              go_roundw
              case rel => exact ⟨k + 1, N, c', A3, by omega, by go_num, rfl, by omega, hL.out, hA.out, hS.out, by omega, hbo.out⟩
              case measure => simp [intOf]; omega
        · obtain rfl : k = n1 := by omega
          have htk : (levF n).take k = levF n := List.take_of_length_le (Nat.le_of_eq hl1.out)
          rw [htk, ← listsF_eq] at hL
          obtain ⟨vs3, hLv⟩ := hL.out
          have hN3 : N ≤ 80 ∧ 0 < N := by
            have h1 := hLv.len
            have h2 := (lists_len n (by simp; omega)).1
            have h3 := lists_pos n (by simp; omega)
            omega
          obtain ⟨gL, rfl, hgL1, hgL2⟩ := hLv.form hN3.2
          have hSort := hide (sort_rowsB hLv.rows (by omega) (Nat.le_refl _))
          have hcL := hLv.capb
          have hzo := hbo.out.size
          clear hLv hL hA hS htk hR1
          go_wp2_with fail
          refine hSort.out.mono ?_
          rintro e w2 ⟨rfl, vs2, hR2, t2⟩
          have z2 := t2.size
          have hComp := hide (compact_rows hR2 z2)
          have ht2 := hide (hbo.out.trans (t2.below hgL1 hzo))
          clear hR2 t2 hSort
          go_wp2_with fail
          refine hComp.out.mono ?_
          rintro e w3 ⟨m, vs4, rfl, hR3, t3⟩
          have z3 := t3.size
          have ht3 := hide (ht2.out.trans (t3.below hgL1 (by omega)))
          rw [rowsT_eq hn1 hlt] at hR3
          have hm := hR3.len
          rw [rowsT_len hn1 hlt] at hm
          have hcR := hR3.capb
          obtain ⟨hc1, hc2⟩ := cnt_step n (by simp; omega)
          have hN72 : N0 ≤ 72 := by have := HN0.out; omega
          have hR := hide hR3
          have hO3 : Hid (∃ es, AllS w3 w.heap.size wo.heap.size A N0 c es ∧ es.map Sh.key = tabS.take N0) := by
            obtain ⟨es, h1, h2⟩ := hO.out
            exact ⟨es, h1.below ht3.out (Nat.le_refl _), h2⟩
          have hb3 := hide (hb.out.trans (ht3.out.mono zr))
          obtain ⟨hiR, hhiR⟩ : ∃ q, q = wr.heap.size := ⟨_, rfl⟩
          have hiR1 : wo.heap.size ≤ hiR := by omega
          have hiR2 : hiR ≤ w3.heap.size := by omega
          have hgR : gL < hiR := by omega
          rw [← hhiR] at hR
          clear hR3 t3 hComp ht2 hbo hO hhiR hb ht3 hzr
          go_wp2_with fail
          go_loopw [1, 9, 10, 11, 13, 15, 16, 17, 18, 51] (fun o _ _ _ _ _ _ _ _ i wr => ∃ (k c' : Nat) (A : Option Addr), k ≤ m ∧ i = .int .i64 (k : Int) ∧ o = .slice A (N0 + k) c' ∧ Hid (∃ es, AllS wr w.heap.size wr.heap.size A (N0 + k) c' es ∧ es.map Sh.key = tabS.take (N0 + k)) ∧ Hid (∀ ad, A = some ad → ad.block < wo.heap.size ∨ hiR ≤ ad.block) ∧ Hid (Same wo.heap.size hiR w3 wr) ∧ w3.heap.size ≤ wr.heap.size ∧ Hid (Below w.heap.size w wr)) (fun _ _ _ _ _ _ _ _ _ i _ => m - (intOf i).toNat)
          case atStart =>
            refine ⟨0, c, A, by omega, rfl, rfl, ?_, ?_, Same.refl _ _ _, Nat.le_refl _, hb3.out⟩
            · obtain ⟨es, h1, h2⟩ := hO3.out
              exact ⟨es, h1.wide (by omega), h2⟩
            · obtain ⟨es, h1, h2⟩ := hO3.out
              exact fun ad e => .inl (h1.lt ad e)
          case round =>
            clear hO3 hb3
            obtain ⟨k, c', A, hk, rfl, rfl, hO, hA, hS, hzr, hb⟩ := hrel
            by_cases hlt2 : k < m
            · obtain ⟨B1, m1, d1, l', h', l, hcw, hI1, hl', hh', hx, hvx, hform⟩ := hR.out.at_ hlt2
              have hcl : wr.cell? ⟨gL, k, none⟩ = some (.slice B1 m1 d1) := (hS.out.cell (p := ⟨gL, k, none⟩) (by show wo.heap.size ≤ gL; omega) (by show gL < _; omega)).trans hcw
              obtain ⟨a, rr, bs, sy, hF⟩ := row_facts hn1 hlt hx.out
              rw [← HN0.out] at hF
              have HF := hide hF
              have hm1 : m1 = rr.length + 1 := by
                have := hI1.len
                rw [hF.eq] at this
                simpa using this.symm
              have hm14 : m1 ≤ 4 := by have := hI1.len; have := hF.len; omega
              have hm1p : 1 ≤ m1 := by omega
              obtain ⟨ad, rfl⟩ : ∃ ad, B1 = some ad := by
                obtain ⟨ad, e, _⟩ := hI1.cells (by omega)
                exact ⟨ad, e⟩
              obtain ⟨b, hb0⟩ : ∃ b, ad = ⟨b, 0, none⟩ := ⟨_, hform ad rfl⟩
              subst hb0
              have hIW := hide fun (W : World) (hs : Same wo.heap.size hiR w3 W) => hI1.same fun q q1 q2 => hs q (by omega) (by omega)
              obtain ⟨wq, hwq⟩ : ∃ wq : World, wq = wr := ⟨_, rfl⟩
              subst hwq
              have bS := below_alloc wq (.cells #[.slice none 0 0, .int .i64 0, .slice none 0 0, .int .i64 0] 62)
              have hBlk0 := BlkN.new wq #[.slice none 0 0, .int .i64 0, .slice none 0 0, .int .i64 0] 62
              have f0 := hBlk0.f 0
              have f1 := hBlk0.f 1
              have f2 := hBlk0.f 2
              have f3 := hBlk0.f 3
              clear hI1 hx hvx hform hcw hF hm1
              go_wp2_with fail
              have hBkA : BlkN ((wq.alloc (.cells #[.slice (some ⟨b, 0, none⟩) m1 d1, .int .i64 0, .slice none 0 0, .int .i64 1] 62)).alloc (.cells #[] 3)) wq.heap.size #[.slice (some ⟨b, 0, none⟩) m1 d1, .int .i64 0, .slice none 0 0, .int .i64 1] := (BlkN.new wq _ _).alloc _
              have bWA := (below_alloc wq (.cells #[.slice (some ⟨b, 0, none⟩) m1 d1, .int .i64 0, .slice none 0 0, .int .i64 1] 62)).trans ((below_alloc (wq.alloc (.cells #[.slice (some ⟨b, 0, none⟩) m1 d1, .int .i64 0, .slice none 0 0, .int .i64 1] 62)) (.cells #[] 3)).mono (by simp))
              have oLv : Hid (OwnI ((wq.alloc (.cells #[.slice (some ⟨b, 0, none⟩) m1 d1, .int .i64 0, .slice none 0 0, .int .i64 1] 62)).alloc (.cells #[] 3)) (wq.heap.size + 1) ((wq.alloc (.cells #[.slice (some ⟨b, 0, none⟩) m1 d1, .int .i64 0, .slice none 0 0, .int .i64 1] 62)).alloc (.cells #[] 3)).heap.size (some ⟨wq.heap.size + 1, 0, none⟩) 0 0 ((halfF l).take 0)) := by
                have := World.ownsRow_lit (size := 1) (e := 3) (base := wq.heap.size + 1) (wq.alloc (.cells #[.slice (some ⟨b, 0, none⟩) m1 d1, .int .i64 0, .slice none 0 0, .int .i64 1] 62)) #[] 0 (by simp) (by unfold maxLen; omega) rfl
                refine ⟨by simpa using this, fun ad e => by injection e with e; subst e; simp, by simp⟩
              have hBk := hide hBkA
              have bW := hide bWA
              clear hBlk0 f0 f1 f2 f3 bS hBkA bWA
              generalize World.alloc (World.alloc wq (.cells #[.slice (some ⟨b, 0, none⟩) m1 d1, .int .i64 0, .slice none 0 0, .int .i64 1] 62)) (.cells #[] 3) = W5 at hBk bW oLv ⊢
              go_loopw [11, 13, 60] (fun o _ i wr => ∃ (q c5 : Nat) (A5 : Option Addr), q ≤ m1 ∧ i = .int .i64 (q : Int) ∧ o = .slice A5 q c5 ∧ Hid (OwnI wr (wq.heap.size + 1) wr.heap.size A5 q c5 ((halfF l).take q)) ∧ Hid (BlkN wr wq.heap.size #[.slice (some ⟨b, 0, none⟩) m1 d1, .int .i64 0, .slice none 0 0, .int .i64 1]) ∧ Hid (Below wq.heap.size wq wr)) (fun _ _ i _ => m1 - (intOf i).toNat)
              case atStart => exact ⟨0, 0, _, by omega, rfl, rfl, oLv.out, hBk.out, bW.out⟩
              case round =>
                clear oLv hBk bW
                obtain ⟨q, c5, A5, hq, rfl, rfl, oLv, hBk, bW⟩ := hrel
                have zW := bW.out.size
                by_cases hlt3 : q < m1
                · obtain ⟨ad, x, e1, hcx, _, _, hxu⟩ := (hIW.out _ (hS.out.trans (.of_below bW.out (by omega)))).at_ hlt3
                  injection e1 with e1
                  subst e1
                  obtain ⟨hx0, hx1⟩ := HF.out.small x (List.mem_of_getElem? hxu.out)
                  have hbs := hBk.out.lt
                  have hst : Hid ((halfF l).take (q + 1) = (halfF l).take q ++ [x / 2]) := by
                    show _ = _
                    rw [List.take_add_one]
                    simp [halfF, hxu.out]
                  have hcx2 : wr.cell? ⟨b, q, none⟩ = some (.int .i64 x) := by simpa [Addr.add_lit] using hcx
                  clear hcx hxu
                  go_wp2_with (at_builtin; refine wpl_app1b rfl (.tmp 64) (.tmp 67) 22 rfl (wq.heap.size + 1) 3 i0 (.int .i64 0) 1 8 Tryz.underlying22 hi0 hz0 hz1 hz2 rfl (by omega) wr #[.int .i64 (x / 2)] _ rfl A5 q c5 1 _ rfl rfl oLv.out.own rfl (by simp [Value.oneCell']) (by omega) (by omega) (by omega) ?_; intro A6 c6 w6 hap6 hlt6)
                  have oL6 : Hid (OwnI w6 (wq.heap.size + 1) w6.heap.size A6 (q + 1) c6 ((halfF l).take (q + 1))) := by
                    refine ⟨?_, fun ad e => (owns_lt hap6.1 ad e).2, ?_⟩
                    · have := hap6.1
                      rw [hst.out]
                      simpa using this
                    · intro z hz
                      rw [hst.out] at hz
                      rcases List.mem_append.1 hz with hz | hz
                      · exact oLv.out.rng z hz
                      · obtain rfl : z = x / 2 := by simpa using hz
                        constructor <;> omega
                  have hBk6 := hide (blk_keep hBk.out hap6.2.1 fun ad e => by have := (owns_lt oLv.out.own ad e).1; omega)
                  have bW6 := hide (hap6.low bW.out zW (by omega) oLv.out.own)
                  clear hap6 oLv hBk bW
                  go_roundw
                  case rel => exact ⟨q + 1, c6, A6, by omega, by go_num, rfl, oL6.out, hBk6.out, bW6.out⟩
                  case measure => simp [intOf]; omega
                · obtain rfl : q = m1 := by omega
                  have htk : (halfF l).take q = halfF l := List.take_of_length_le (by
                    have h1 := (hIW.out w3 (Same.refl _ _ _)).len
                    simp [halfF]
                    omega)
                  rw [htk] at oLv
                  obtain ⟨g5, rfl, _, _, _⟩ := oLv.out.form (by omega)
                  have hzb : w.heap.size ≤ wq.heap.size := hb.out.size
                  have hRk := hide (impl_rankOf B g5 q c5 (halfF l) _ _ wr (HT.out.below (hb.out.trans (bW.out.mono hzb)) hB) (by omega) oLv.out.ints (Nat.le_refl _) HF.out.half (by have := HF.out.len; simpa [halfF] using this))
                  have f1 := hBk.out.f 1
                  have hbs := hBk.out.lt
                  clear oLv htk
                  go_wp2_with fail
                  refine hRk.out.mono ?_
                  rintro e w6 ⟨⟨pl, rfl, hpl⟩, b6⟩
                  have z6 := b6.size
                  have hBk6 := hide ((hBk.out.below b6).set 1 (.int .i64 pl))
                  have bW6 := hide ((bW.out.trans (b6.mono zW)).setCell (p := ⟨wq.heap.size, 1, none⟩) (Nat.le_refl _) (.int .i64 pl))
                  have f1 := (hBk.out.below b6).f 1
                  have cl1 := (hBk.out.below b6).c 1 rfl
                  clear hBk bW b6 hRk
                  go_wp2_with fail
                  have hlq := (hIW.out _ (hS.out.trans (.of_below bW6.out (by omega))))
                  rw [HF.out.eq] at hlq
                  have hBr := hide (impl_branchLists b q d1 a rr l' h' (w6.setCell ⟨wq.heap.size, 1, none⟩ (.int .i64 pl)) hlq (by have := bW6.out.size; omega) hm14 HF.out.two HF.out.head)
                  have hBk7 : Hid (BlkN (w6.setCell ⟨wq.heap.size, 1, none⟩ (.int .i64 pl)) wq.heap.size #[.slice (some ⟨b, 0, none⟩) q d1, .int .i64 pl, .slice none 0 0, .int .i64 1]) := by
                    show BlkN _ _ _
                    have := hBk6.out
                    simpa using this
                  have z7 := bW6.out.size
                  have hb7 := hBk7.out.lt
                  clear hlq hBk6 cl1 f1
                  generalize w6.setCell ⟨wq.heap.size, 1, none⟩ (.int .i64 pl) = w7 at hBr hBk7 bW6 z7 hb7 ⊢
                  refine hBr.out.mono ?_
                  rintro e w8 ⟨g8, n8, c8, vs8, rfl, hO8, b8⟩
                  have z8 := b8.size
                  have hR8 := hide hO8.rows
                  have hg8 := hO8.own.lt g8 rfl
                  have hcb8 := hO8.capb
                  have hl8 := hide hO8.len
                  have hn8 : n8 ≤ 3 := by
                    have h1 := hO8.len
                    have h2 := partsF_len rr [] (.inr HF.out.head)
                    have h3 := HF.out.len
                    rw [HF.out.eq] at h3
                    simp at h2 h3
                    omega
                  have hBk8 := hide (hBk7.out.below b8)
                  have hb8 := hBk8.out.lt
                  have bW8 := hide (bW6.out.trans (b8.mono z7))
                  clear hO8 b8 hBr hBk7 bW6
                  obtain ⟨pt, hpt⟩ : ∃ pt : List Int, pt = (partsF [] rr).map (placeL (tabL.take N0)) := ⟨_, rfl⟩
                  have hbran := HF.out.bran
                  rw [← hpt] at hbran
                  have HPT := hide hpt
                  have HBr := hide hbran
                  clear hpt hbran
                  go_wp2_with fail
                  go_loopw [15, 76] (fun _ i wr => ∃ (q6 f6 : Nat) (C6 : Option Addr), q6 ≤ n8 ∧ i = .int .i64 (q6 : Int) ∧ Hid (OwnI wr w8.heap.size wr.heap.size C6 q6 f6 (pt.take q6)) ∧ Hid (BlkN wr wq.heap.size #[.slice (some ⟨b, 0, none⟩) q d1, .int .i64 pl, .slice C6 q6 f6, .int .i64 1]) ∧ Hid (Same w7.heap.size w8.heap.size w8 wr) ∧ w8.heap.size ≤ wr.heap.size ∧ Hid (Below wq.heap.size wq wr)) (fun _ i _ => n8 - (intOf i).toNat)
                  case atStart => exact ⟨0, 0, none, by omega, rfl, OwnI.nil_ _ _ _, hBk8.out, Same.refl _ _ _, Nat.le_refl _, bW8.out⟩
                  case round =>
                    clear hBk8 bW8
                    obtain ⟨q6, f6, C6, hq6, rfl, hC, hBk, hS8, hz8, bW⟩ := hrel
                    have zW8 := bW.out.size
                    have hcf := hC.out.cap
                    have hcm := hC.out.max
                    by_cases hlt4 : q6 < n8
                    · obtain ⟨B9, m9, d9, l9, h9, p, hcw, hI9, hl9, hh9, hx, hvx, hform⟩ := hR8.out.at_ hlt4
                      have hcp : wr.cell? ⟨g8, q6, none⟩ = some (.slice B9 m9 d9) := (hS8.out.cell (p := ⟨g8, q6, none⟩) (by show w7.heap.size ≤ g8; omega) (by show g8 < _; omega)).trans hcw
                      have hI9' := hide (hI9.same fun q q1 q2 => hS8.out q (by omega) (by omega))
                      obtain ⟨hp1, hp2, hp3⟩ := HF.out.place p (List.mem_of_getElem? hx.out)
                      have hN1 : 0 < N0 + k := by omega
                      obtain ⟨es, hes, hkey⟩ := hO.out
                      obtain ⟨gA, rfl, hgA1, hgA2, hgA3⟩ := hes.form hN1
                      have hAll := hide (hes.below bW.out (Nat.le_refl _))
                      have hmp : es.map (·.l) = tabL.take (N0 + k) := by
                        have := congrArg (List.map (·.1)) hkey
                        rw [List.map_map] at this
                        rw [tabL, ← List.map_take]
                        exact this
                      rw [← hmp] at hp1
                      obtain ⟨pv, hpv⟩ : ∃ pv, pv = placeL (tabL.take N0) p := ⟨_, rfl⟩
                      rw [← hpv] at hp1 hp2 hp3
                      have hst : Hid (pt.take (q6 + 1) = pt.take q6 ++ [pv]) := by
                        show _ = _
                        rw [List.take_add_one, HPT.out, List.getElem?_map, hx.out, hpv]
                        rfl
                      have hp3' : pv ≤ 72 := by omega
                      have hPl := hide fun (V : World) (hV : Below wr.heap.size wr V) => (impl_placeOf w.heap.size wq.heap.size gA (N0 + k) c' es B9 m9 d9 p l9 h9 V (hAll.out.below (hV) (by omega)) (by have := hV.size; omega) (hI9'.out.below hV (by omega)) (by have := hV.size; omega))
                      rw [hp1] at hPl
                      have hbs := hBk.out.lt
                      clear hI9 hx hvx hform hcw hes hkey hmp hp1 hpv hI9' hp3
                      go_upto_region 30 with fail
                      refine wp_region_Z (fun W' => W'.cell? ⟨wq.heap.size, 2, none⟩ = some (.slice C6 q6 f6)) 8 (by kernel_rfl) ?_
                      simp only [List.size_toArray, List.length_cons, List.length_nil, Nat.reduceAdd]
                      have hS0 : wr.drew.cell? ⟨wq.heap.size, 2, none⟩ = some (.slice C6 q6 f6) := hBk.out.c 2 rfl
                      have bV := hide ((Below.refl wr.heap.size wr).drew)
                      have hbV : wq.heap.size < wr.drew.heap.size := hbs
                      have hzV : w8.heap.size ≤ wr.drew.heap.size := hz8
                      have hzQ : wr.heap.size ≤ wr.drew.heap.size := Nat.le_refl _
                      generalize wr.drew = V at hS0 bV hbV hzV hzQ ⊢
                      refine wpAnyZ_takeW 0 (.pointer (some ⟨wq.heap.size, 2, none⟩)) rfl (by kernel_rfl) (by kernel_rfl) (fun _ _ _ h => h) (by rfl) (fun _ => by first | (simp [go_sem]; done) | go_simp) hS0 ?_
                      try simp only [Act.put, List.setIfInBounds_toArray, List.set_cons_zero, List.set_cons_succ, List.getElem_toArray, List.getElem_cons_zero, List.getElem_cons_succ]
                      refine wpAnyZ_take 1 (.slice C6 q6 f6) rfl (by kernel_rfl) (by kernel_rfl) (fun _ _ _ h => h) (by rfl) (fun _ hS => by have q0 := hS; clear hS; first | (simp [go_sem, q0]; done) | go_simp) hS0 ?_
                      try simp only [Act.put, List.setIfInBounds_toArray, List.set_cons_zero, List.set_cons_succ, List.getElem_toArray, List.getElem_cons_zero, List.getElem_cons_succ]
                      refine wpAnyZ_takeW 2 (.slice (some ⟨gA, 0, none⟩) (N0 + k) c') rfl (by kernel_rfl) (by kernel_rfl) (fun _ _ _ h => h) (by rfl) (fun _ => by first | (simp [go_sem]; done) | go_simp) hS0 ?_
                      try simp only [Act.put, List.setIfInBounds_toArray, List.set_cons_zero, List.set_cons_succ, List.getElem_toArray, List.getElem_cons_zero, List.getElem_cons_succ]
                      refine wpAnyZ_takeW 3 (.slice B9 m9 d9) rfl (by kernel_rfl) (by kernel_rfl) (fun _ _ _ h => h) (by rfl) (fun _ => by first | (simp [go_sem]; done) | go_simp) hS0 ?_
                      try simp only [Act.put, List.setIfInBounds_toArray, List.set_cons_zero, List.set_cons_succ, List.getElem_toArray, List.getElem_cons_zero, List.getElem_cons_succ]
                      refine wpAnyZ_one 4 (by kernel_rfl) rfl (by rfl) (fun K hK => ?_)
                      go_simp
                      refine (hPl.out V bV.out).mono ?_
                      rintro e V2 ⟨rfl, bV2⟩
                      have zV2 := bV2.size
                      have bV3 := hide (bV.out.trans (bV2.mono hzQ))
                      have hS1 : V2.cell? ⟨wq.heap.size, 2, none⟩ = some (.slice C6 q6 f6) := (bV2.cell (p := ⟨wq.heap.size, 2, none⟩) hbV).trans hS0
                      clear bV2
                      go_wp2_with fail
                      refine hK.out _ _ hS1 ?_
                      clear hK K
                      try simp only [Act.put, List.setIfInBounds_toArray, List.set_cons_zero, List.set_cons_succ, List.getElem_toArray, List.getElem_cons_zero, List.getElem_cons_succ]
                      refine wpAnyZ_one 5 (by kernel_rfl) rfl (by rfl) (fun K hK => ?_)
                      go_simp
                      have hS2 := ((below_alloc V2 (.cells #[.int .i64 pv] 3)).cell (p := ⟨wq.heap.size, 2, none⟩) (by show wq.heap.size < V2.heap.size; omega)).trans hS1
                      refine hK.out _ _ hS2 ?_
                      clear hK K
                      try simp only [Act.put, List.setIfInBounds_toArray, List.set_cons_zero, List.set_cons_succ, List.getElem_toArray, List.getElem_cons_zero, List.getElem_cons_succ]
                      refine wpAnyZ_one 6 (by kernel_rfl) rfl (by rfl) (fun K hK => ?_)
                      have hC2 := hide (hC.out.below (bV3.out) (Nat.le_refl _))
                      refine owp_app1 (.tmp 81) (.tmp 85) 22 rfl w8.heap.size 3 i0 (.int .i64 0) 1 8 Tryz.underlying22 hi0 hz0 hz1 hz2 rfl (by omega) V2 #[.int .i64 pv] _ rfl C6 q6 f6 1 _ rfl rfl hC2.out.own rfl (by simp [Value.oneCell']) (by omega) (by omega) (by omega) ?_
                      intro A9 c9 w9 hap9 hlt9
                      have hW9 : Same wq.heap.size (wq.heap.size + 1) V2 w9 := hap9.sameB (by omega) (fun ad e => by have := (owns_lt hC2.out.own ad e).1; omega)
                      have hS3 := (hW9.cell (p := ⟨wq.heap.size, 2, none⟩) (Nat.le_refl _) (Nat.lt_succ_self _)).trans hS1
                      have hBk9 := hide ((hBk.out.below bV3.out).same (hW9 _ (Nat.le_refl _) (Nat.lt_succ_self _)))
                      have hS9 := hide ((hS8.out.trans (.of_below bV3.out hz8)).trans (hap9.sameB (by omega) fun ad e => by have := (owns_lt hC2.out.own ad e).1; omega))
                      have bW9 := hide (hap9.low (bW.out.trans (bV3.out.mono zW8)) (by omega) (by omega) hC2.out.own)
                      have hC9 : Hid (OwnI w9 w8.heap.size w9.heap.size A9 (q6 + 1) c9 (pt.take (q6 + 1))) := by
                        refine ⟨?_, fun ad e => (owns_lt hap9.1 ad e).2, ?_⟩
                        · have := hap9.1
                          rw [hst.out]
                          simpa using this
                        · intro z hz
                          rw [hst.out] at hz
                          rcases List.mem_append.1 hz with hz | hz
                          · exact hC.out.rng z hz
                          · obtain rfl : z = pv := by simpa using hz
                            constructor <;> omega
                      have hz9 : w8.heap.size ≤ w9.heap.size := by omega
                      have g2 := hBk9.out.f 2
                      clear hW9 hap9 hC2
                      refine hK.out _ _ hS3 ?_
                      clear hK K
                      try simp only [Act.put, List.setIfInBounds_toArray, List.set_cons_zero, List.set_cons_succ, List.getElem_toArray, List.getElem_cons_zero, List.getElem_cons_succ]
                      refine wpAnyZ_takeW 7 (.pointer (some ⟨wq.heap.size, 2, none⟩)) rfl (by kernel_rfl) (by kernel_rfl) (fun _ _ _ h => h) (by rfl) (fun _ => by first | (simp [go_sem]; done) | go_simp) hS3 ?_
                      try simp only [Act.put, List.setIfInBounds_toArray, List.set_cons_zero, List.set_cons_succ, List.getElem_toArray, List.getElem_cons_zero, List.getElem_cons_succ]
                      refine wpAnyZ_last (by kernel_rfl) rfl (by kernel_rfl) (by rfl) (fun K hK => ?_)
                      go_simp
                      refine hK _ _ ?_
                      clear hK K
                      have hC10 := hide (hC9.out.same (w' := w9.setCell ⟨wq.heap.size, 2, none⟩ (.slice A9 (q6 + 1) c9)) (Same.setCell (p := ⟨wq.heap.size, 2, none⟩) (Same.refl _ _ _) (.inl hb8) _))
                      have hBk10 : Hid (BlkN (w9.setCell ⟨wq.heap.size, 2, none⟩ (.slice A9 (q6 + 1) c9)) wq.heap.size #[.slice (some ⟨b, 0, none⟩) q d1, .int .i64 pl, .slice A9 (q6 + 1) c9, .int .i64 1]) := by
                        show BlkN _ _ _
                        have := hBk9.out.set 2 (.slice A9 (q6 + 1) c9)
                        simpa using this
                      have hS10 := hide (Same.setCell (p := ⟨wq.heap.size, 2, none⟩) hS9.out (.inl hb7) (.slice A9 (q6 + 1) c9))
                      have bW10 := hide (bW9.out.setCell (p := ⟨wq.heap.size, 2, none⟩) (Nat.le_refl _) (.slice A9 (q6 + 1) c9))
                      have hz10 : w8.heap.size ≤ (w9.setCell ⟨wq.heap.size, 2, none⟩ (.slice A9 (q6 + 1) c9)).heap.size := by simpa [World.setCell] using hz9
                      have hC11 := hC10.out.wide (Nat.le_refl _) (hi' := (w9.setCell ⟨wq.heap.size, 2, none⟩ (.slice A9 (q6 + 1) c9)).heap.size) (by simp [World.setCell])
                      have hC11 := hide hC11
                      clear hC9 hBk9 hS9 bW9 hC10 g2 hS3 hS0 hS1 hS2 bV bV3 hC hBk bW hS8
                      go_wp2_with fail
                      go_roundw
                      case rel => exact ⟨q6 + 1, c9, A9, by omega, by go_num, hC11.out, hBk10.out, hS10.out, hz10, bW10.out⟩
                      case measure => simp [intOf]; omega
                    · obtain rfl : q6 = n8 := by omega
                      have hptl : pt.length = q6 := by rw [HPT.out, List.length_map]; exact hl8.out
                      rw [List.take_of_length_le (Nat.le_of_eq hptl)] at hC
                      have hSo := hide (sort_ints hC.out (by omega))
                      have hbsm := hide fun x (hx : x ∈ bs) => (sortI_perm pt).mem_iff.1 (by rw [HBr.out]; exact hx)
                      have hsl : bs.length = q6 := by rw [← HBr.out, (sortI_perm pt).length_eq, hptl]
                      have HSL := hide hsl
                      rw [HBr.out] at hSo
                      have c2 := hBk.out.c 2 rfl
                      have hbs := hBk.out.lt
                      clear hC hptl hsl
                      go_wp2_with fail
                      refine hSo.out.mono ?_
                      rintro e w10 ⟨rfl, o10, t10⟩
                      have z10 := t10.size
                      have hBk10 := hide (hBk.out.touch t10 (.inl hb8))
                      have bW10 := hide (bW.out.trans (t10.below (by omega) zW8))
                      have hC := hide (o10.wide (lo' := w8.heap.size) (hi' := w10.heap.size) (Nat.le_refl _) z10)
                      have c2 := hBk10.out.c 2 rfl
                      clear hBk bW hS8 o10 t10 hSo
                      go_wp2_with fail
                      have c2' := hide c2
                      clear c2 c2'
                      go_loopw [16, 17, 18, 95] (fun tm _ _ i wr => ∃ (j : Nat) (times acc : Int), j ≤ q6 ∧ i = .int .i64 (j : Int) ∧ tm = .int .i64 times ∧ Hid (BlkN wr wq.heap.size #[.slice (some ⟨b, 0, none⟩) q d1, .int .i64 pl, .slice C6 q6 f6, .int .i64 acc]) ∧ Hid (symGo symAt (bs.drop j) (prevB bs j) times acc = sy ∧ symOk (bs.drop j) (prevB bs j) times acc = true) ∧ Hid (Touch wq.heap.size (wq.heap.size + 1) w10 wr)) (fun _ _ _ i _ => q6 - (intOf i).toNat)
                      case atStart => exact ⟨0, 0, 1, by omega, rfl, rfl, hBk10.out, ⟨HF.out.sym, HF.out.symo⟩, .refl _ _ _⟩
                      case round =>
                        clear hBk10
                        obtain ⟨j, times, acc, hj, rfl, rfl, hBk, hSy, hTc⟩ := hrel
                        have zT := hTc.out.size
                        by_cases hlt5 : j < q6
                        · have hCr := hide (hC.out.same (hTc.out.same (.inr (by omega)) (Nat.le_refl _)))
                          obtain ⟨gC, rfl, hgC1, hgC2, _⟩ := hCr.out.form (by omega)
                          obtain ⟨ad, x, e1, hcx, _, hxd, hxu⟩ := hCr.out.ints.at_ hlt5
                          injection e1 with e1
                          subst e1
                          have hxm := hbsm.out x (List.mem_of_getElem? hxu.out)
                          rw [HPT.out, List.mem_map] at hxm
                          obtain ⟨p, hpm, hpx⟩ := hxm
                          obtain ⟨_, hp2, hp3⟩ := HF.out.place p hpm
                          rw [hpx] at hp2 hp3
                          obtain ⟨bn, rfl⟩ : ∃ bn : Nat, x = (bn : Int) := ⟨x.toNat, by omega⟩
                          have hbn : bn < N0 := by omega
                          obtain ⟨es, hes, hkey⟩ := hO.out
                          obtain ⟨gA, rfl, hgA1, hgA2, hgA3⟩ := hes.form (by omega)
                          have hAll := hide ((hes.below bW10.out (Nat.le_refl _)).same (hTc.out.same (.inl (Nat.le_refl _)) (by omega)))
                          obtain ⟨e, he, hek⟩ : ∃ e : Sh, es[bn]? = some e ∧ e.sy = symAt (bn : Int) := by
                            have hle := hes.len
                            refine ⟨_, List.getElem?_eq_getElem (by omega), ?_⟩
                            have := congrArg (fun l => l[bn]?) hkey
                            simp only [List.getElem?_map, List.getElem?_eq_getElem (show bn < es.length by omega)] at this
                            rw [List.getElem?_take_of_lt (by omega)] at this
                            unfold symAt
                            rw [Int.toNat_natCast, ← this]
                            rfl
                          have hcA := hAll.out.cell he (i := 3) (v := .int .i64 e.sy) rfl
                          rw [hek] at hcA
                          obtain ⟨sb, hsb⟩ : ∃ sb, sb = symAt (bn : Int) := ⟨_, rfl⟩
                          have hsg := hSy.out
                          rw [hxd.out, symGo, symOk] at hsg
                          rw [← hsb] at hcA hsg
                          simp only [Bool.and_eq_true, decide_eq_true_eq] at hsg
                          obtain ⟨hsg1, ⟨⟨⟨⟨⟨hk1, hk2⟩, hk3⟩, hk4⟩, hk5⟩, hk6⟩, hsg2⟩ := hsg
                          have hpn := hide (prev_next hxu.out)
                          rw [← hpn.out] at hsg1 hsg2
                          obtain ⟨tt, htt⟩ : ∃ tt, tt = (if (prevB bs j).all (fun p => decide ((bn : Int) = p)) then times + 1 else 1) := ⟨_, rfl⟩
                          rw [← htt] at hk2 hk4 hk6 hsg1 hsg2
                          have HTT := hide htt
                          have HSG := hide (And.intro hsg1 hsg2)
                          have hcx2 : wr.cell? ⟨gC, j, none⟩ = some (.int .i64 (bn : Int)) := by simpa [Addr.add_lit] using hcx
                          have hcapC := hCr.out.cap
                          have hmaxC := hCr.out.max
                          have hwt : IntKind.i64.wrap (times + 1) = times + 1 := IntWalk.i64_in _ (by omega)
                          have hw1 : IntKind.i64.wrap (tt * sb) = tt * sb := IntWalk.i64_in _ (by omega)
                          have hw2 : IntKind.i64.wrap (acc * (tt * sb)) = acc * (tt * sb) := IntWalk.i64_in _ (by omega)
                          have hcapA := hAll.out.capb
                          have c2 := hBk.out.c 2 rfl
                          have hbs := hBk.out.lt
                          clear hcx hxd hxu hpm hpx hes hkey he hek hsb htt hsg1 hsg2 hpn hSy
                          rcases Nat.eq_zero_or_pos j with hj0 | hj0
                          · subst hj0
                            obtain rfl : tt = times + 1 := HTT.out
                            clear hk1 hk3 hk5 HTT
                            go_upto_region 40 with fail
                            refine wp_region_Z (fun W' => W'.cell? ⟨wq.heap.size, 3, none⟩ = some (.int .i64 acc) ∧ W'.cell? ⟨gA, bn * 4 + 3, none⟩ = some (.int .i64 sb)) 11 (by kernel_rfl) ?_
                            simp only [List.size_toArray, List.length_cons, List.length_nil, Nat.reduceAdd]
                            have hS0 : wr.drew.cell? ⟨wq.heap.size, 3, none⟩ = some (.int .i64 acc) ∧ wr.drew.cell? ⟨gA, bn * 4 + 3, none⟩ = some (.int .i64 sb) := ⟨hBk.out.c 3 rfl, hcA⟩
                            have hBkV := hide hBk.out.drew
                            have hTV := hide hTc.out.drew
                            generalize wr.drew = V at hS0 hBkV hTV ⊢
                            refine wpAnyZ_takeW 0 (.pointer (some ⟨wq.heap.size, 3, none⟩)) rfl (by kernel_rfl) (by kernel_rfl) (fun _ _ _ h => h) (by rfl) (fun _ => by first | (simp [go_sem]; done) | go_simp) hS0 ?_
                            try simp only [Act.put, List.setIfInBounds_toArray, List.set_cons_zero, List.set_cons_succ, List.getElem_toArray, List.getElem_cons_zero, List.getElem_cons_succ]
                            refine wpAnyZ_take 1 (.int .i64 acc) rfl (by kernel_rfl) (by kernel_rfl) (fun _ _ _ h => h) (by rfl) (fun _ hS => by have q0 := hS.1; clear hS; first | (simp [go_sem, q0]; done) | go_simp) hS0 ?_
                            try simp only [Act.put, List.setIfInBounds_toArray, List.set_cons_zero, List.set_cons_succ, List.getElem_toArray, List.getElem_cons_zero, List.getElem_cons_succ]
                            refine wpAnyZ_takeW 2 (.int .i64 (times + 1)) rfl (by kernel_rfl) (by kernel_rfl) (fun _ _ _ h => h) (by rfl) (fun _ => by first | (simp [go_sem]; done) | go_simp) hS0 ?_
                            try simp only [Act.put, List.setIfInBounds_toArray, List.set_cons_zero, List.set_cons_succ, List.getElem_toArray, List.getElem_cons_zero, List.getElem_cons_succ]
                            refine wpAnyZ_takeW 3 (.slice (some ⟨gA, 0, none⟩) (N0 + k) c') rfl (by kernel_rfl) (by kernel_rfl) (fun _ _ _ h => h) (by rfl) (fun _ => by first | (simp [go_sem]; done) | go_simp) hS0 ?_
                            try simp only [Act.put, List.setIfInBounds_toArray, List.set_cons_zero, List.set_cons_succ, List.getElem_toArray, List.getElem_cons_zero, List.getElem_cons_succ]
                            refine wpAnyZ_takeW 4 (.int .i64 (bn : Int)) rfl (by kernel_rfl) (by kernel_rfl) (fun _ _ _ h => h) (by rfl) (fun _ => by first | (simp [go_sem]; done) | go_simp) hS0 ?_
                            try simp only [Act.put, List.setIfInBounds_toArray, List.set_cons_zero, List.set_cons_succ, List.getElem_toArray, List.getElem_cons_zero, List.getElem_cons_succ]
                            refine wpAnyZ_takeW 5 (.pointer (some ⟨gA, bn * 4, none⟩)) rfl (by kernel_rfl) (by kernel_rfl) (fun _ _ _ h => h) (by rfl) (fun _ => by go_simp; intro hx; omega) hS0 ?_
                            try simp only [Act.put, List.setIfInBounds_toArray, List.set_cons_zero, List.set_cons_succ, List.getElem_toArray, List.getElem_cons_zero, List.getElem_cons_succ]
                            refine wpAnyZ_takeW 6 (.pointer (some ⟨gA, bn * 4 + 3, none⟩)) rfl (by kernel_rfl) (by kernel_rfl) (fun _ _ _ h => h) (by rfl) (fun _ => by first | (simp [go_sem]; done) | go_simp) hS0 ?_
                            try simp only [Act.put, List.setIfInBounds_toArray, List.set_cons_zero, List.set_cons_succ, List.getElem_toArray, List.getElem_cons_zero, List.getElem_cons_succ]
                            refine wpAnyZ_take 7 (.int .i64 sb) rfl (by kernel_rfl) (by kernel_rfl) (fun _ _ _ h => h) (by rfl) (fun _ hS => by have q0 := hS.2; clear hS; first | (simp [go_sem, q0]; done) | go_simp) hS0 ?_
                            try simp only [Act.put, List.setIfInBounds_toArray, List.set_cons_zero, List.set_cons_succ, List.getElem_toArray, List.getElem_cons_zero, List.getElem_cons_succ]
                            refine wpAnyZ_takeW 8 (.int .i64 ((times + 1) * sb)) rfl (by kernel_rfl) (by kernel_rfl) (fun _ _ _ h => h) (by rfl) (fun _ => by simp [go_sem, hw1]) hS0 ?_
                            try simp only [Act.put, List.setIfInBounds_toArray, List.set_cons_zero, List.set_cons_succ, List.getElem_toArray, List.getElem_cons_zero, List.getElem_cons_succ]
                            refine wpAnyZ_takeW 9 (.int .i64 (acc * ((times + 1) * sb))) rfl (by kernel_rfl) (by kernel_rfl) (fun _ _ _ h => h) (by rfl) (fun _ => by simp [go_sem, hw2]) hS0 ?_
                            try simp only [Act.put, List.setIfInBounds_toArray, List.set_cons_zero, List.set_cons_succ, List.getElem_toArray, List.getElem_cons_zero, List.getElem_cons_succ]
                            refine wpAnyZ_takeW 10 (.pointer (some ⟨wq.heap.size, 3, none⟩)) rfl (by kernel_rfl) (by kernel_rfl) (fun _ _ _ h => h) (by rfl) (fun _ => by first | (simp [go_sem]; done) | go_simp) hS0 ?_
                            try simp only [Act.put, List.setIfInBounds_toArray, List.set_cons_zero, List.set_cons_succ, List.getElem_toArray, List.getElem_cons_zero, List.getElem_cons_succ]
                            have g0 := hS0.1
                            have g3 := hBkV.out.f 3
                            refine wpAnyZ_last (by kernel_rfl) rfl (by kernel_rfl) (by rfl) (fun K hK => ?_)
                            go_simp
                            refine hK _ _ ?_
                            clear hK K g0 g3
                            have hBk9 : Hid (BlkN (V.setCell ⟨wq.heap.size, 3, none⟩ (.int .i64 (acc * ((times + 1) * sb)))) wq.heap.size #[.slice (some ⟨b, 0, none⟩) q d1, .int .i64 pl, .slice (some ⟨gC, 0, none⟩) q6 f6, .int .i64 (acc * ((times + 1) * sb))]) := by
                              show BlkN _ _ _
                              have := hBkV.out.set 3 (.int .i64 (acc * ((times + 1) * sb)))
                              simpa using this
                            have hT9 := hide (hTV.out.setCell (p := ⟨wq.heap.size, 3, none⟩) (.inl ⟨Nat.le_refl _, Nat.lt_succ_self _⟩) (.int .i64 (acc * ((times + 1) * sb))))
                            clear hBkV hTV hS0 hBk hTc hcA hw1 hw2 hwt
                            go_wp2_with fail
                            go_roundw
                            case rel => exact ⟨0 + 1, times + 1, acc * ((times + 1) * sb), by omega, by go_num, rfl, hBk9.out, HSG.out, hT9.out⟩
                            case measure => simp [intOf]; omega
                          · obtain ⟨j, rfl⟩ : ∃ y, j = y + 1 := ⟨j - 1, by omega⟩
                            obtain ⟨ad, x, e1, hcp, _, _, hpu⟩ := hCr.out.ints.at_ (k := j) (by omega)
                            injection e1 with e1
                            subst e1
                            have hcp2 : wr.cell? ⟨gC, j, none⟩ = some (.int .i64 x) := by simpa [Addr.add_lit] using hcp
                            have hpv : prevB bs (j + 1) = some x := prev_next hpu.out
                            have htt := HTT.out
                            rw [hpv] at htt
                            have hwj : IntKind.i64.wrap (((j + 1 : Nat) : Int) - 1) = j := by rw [IntWalk.i64_in _ (by omega)]; omega
                            have hj0' : (0 : Int) ≤ ((j + 1 : Nat) : Int) - 1 := by omega
                            have hjd : decide (((j + 1 : Nat) : Int) > 0) = true := decide_eq_true (by omega)
                            clear hcp hpu hpv HTT hj0
                            by_cases hbx : (bn : Int) = x
                            · obtain rfl : tt = times + 1 := by simpa [hbx] using htt
                              have hbq : ((bn : Int) != x) = false := by simpa using hbx
                              have hbq2 : ((bn : Int) == x) = true := by simpa using hbx
                              clear htt hbx hk1 hk3 hk5
                              go_upto_region 40 with fail
                              refine wp_region_Z (fun W' => W'.cell? ⟨wq.heap.size, 3, none⟩ = some (.int .i64 acc) ∧ W'.cell? ⟨gA, bn * 4 + 3, none⟩ = some (.int .i64 sb)) 11 (by kernel_rfl) ?_
                              simp only [List.size_toArray, List.length_cons, List.length_nil, Nat.reduceAdd]
                              have hS0 : wr.drew.cell? ⟨wq.heap.size, 3, none⟩ = some (.int .i64 acc) ∧ wr.drew.cell? ⟨gA, bn * 4 + 3, none⟩ = some (.int .i64 sb) := ⟨hBk.out.c 3 rfl, hcA⟩
                              have hBkV := hide hBk.out.drew
                              have hTV := hide hTc.out.drew
                              generalize wr.drew = V at hS0 hBkV hTV ⊢
                              refine wpAnyZ_takeW 0 (.pointer (some ⟨wq.heap.size, 3, none⟩)) rfl (by kernel_rfl) (by kernel_rfl) (fun _ _ _ h => h) (by rfl) (fun _ => by first | (simp [go_sem]; done) | go_simp) hS0 ?_
                              try simp only [Act.put, List.setIfInBounds_toArray, List.set_cons_zero, List.set_cons_succ, List.getElem_toArray, List.getElem_cons_zero, List.getElem_cons_succ]
                              refine wpAnyZ_take 1 (.int .i64 acc) rfl (by kernel_rfl) (by kernel_rfl) (fun _ _ _ h => h) (by rfl) (fun _ hS => by have q0 := hS.1; clear hS; first | (simp [go_sem, q0]; done) | go_simp) hS0 ?_
                              try simp only [Act.put, List.setIfInBounds_toArray, List.set_cons_zero, List.set_cons_succ, List.getElem_toArray, List.getElem_cons_zero, List.getElem_cons_succ]
                              refine wpAnyZ_takeW 2 (.int .i64 (times + 1)) rfl (by kernel_rfl) (by kernel_rfl) (fun _ _ _ h => h) (by rfl) (fun _ => by first | (simp [go_sem]; done) | go_simp) hS0 ?_
                              try simp only [Act.put, List.setIfInBounds_toArray, List.set_cons_zero, List.set_cons_succ, List.getElem_toArray, List.getElem_cons_zero, List.getElem_cons_succ]
                              refine wpAnyZ_takeW 3 (.slice (some ⟨gA, 0, none⟩) (N0 + k) c') rfl (by kernel_rfl) (by kernel_rfl) (fun _ _ _ h => h) (by rfl) (fun _ => by first | (simp [go_sem]; done) | go_simp) hS0 ?_
                              try simp only [Act.put, List.setIfInBounds_toArray, List.set_cons_zero, List.set_cons_succ, List.getElem_toArray, List.getElem_cons_zero, List.getElem_cons_succ]
                              refine wpAnyZ_takeW 4 (.int .i64 (bn : Int)) rfl (by kernel_rfl) (by kernel_rfl) (fun _ _ _ h => h) (by rfl) (fun _ => by first | (simp [go_sem]; done) | go_simp) hS0 ?_
                              try simp only [Act.put, List.setIfInBounds_toArray, List.set_cons_zero, List.set_cons_succ, List.getElem_toArray, List.getElem_cons_zero, List.getElem_cons_succ]
                              refine wpAnyZ_takeW 5 (.pointer (some ⟨gA, bn * 4, none⟩)) rfl (by kernel_rfl) (by kernel_rfl) (fun _ _ _ h => h) (by rfl) (fun _ => by go_simp; intro hx; omega) hS0 ?_
                              try simp only [Act.put, List.setIfInBounds_toArray, List.set_cons_zero, List.set_cons_succ, List.getElem_toArray, List.getElem_cons_zero, List.getElem_cons_succ]
                              refine wpAnyZ_takeW 6 (.pointer (some ⟨gA, bn * 4 + 3, none⟩)) rfl (by kernel_rfl) (by kernel_rfl) (fun _ _ _ h => h) (by rfl) (fun _ => by first | (simp [go_sem]; done) | go_simp) hS0 ?_
                              try simp only [Act.put, List.setIfInBounds_toArray, List.set_cons_zero, List.set_cons_succ, List.getElem_toArray, List.getElem_cons_zero, List.getElem_cons_succ]
                              refine wpAnyZ_take 7 (.int .i64 sb) rfl (by kernel_rfl) (by kernel_rfl) (fun _ _ _ h => h) (by rfl) (fun _ hS => by have q0 := hS.2; clear hS; first | (simp [go_sem, q0]; done) | go_simp) hS0 ?_
                              try simp only [Act.put, List.setIfInBounds_toArray, List.set_cons_zero, List.set_cons_succ, List.getElem_toArray, List.getElem_cons_zero, List.getElem_cons_succ]
                              refine wpAnyZ_takeW 8 (.int .i64 ((times + 1) * sb)) rfl (by kernel_rfl) (by kernel_rfl) (fun _ _ _ h => h) (by rfl) (fun _ => by simp [go_sem, hw1]) hS0 ?_
                              try simp only [Act.put, List.setIfInBounds_toArray, List.set_cons_zero, List.set_cons_succ, List.getElem_toArray, List.getElem_cons_zero, List.getElem_cons_succ]
                              refine wpAnyZ_takeW 9 (.int .i64 (acc * ((times + 1) * sb))) rfl (by kernel_rfl) (by kernel_rfl) (fun _ _ _ h => h) (by rfl) (fun _ => by simp [go_sem, hw2]) hS0 ?_
                              try simp only [Act.put, List.setIfInBounds_toArray, List.set_cons_zero, List.set_cons_succ, List.getElem_toArray, List.getElem_cons_zero, List.getElem_cons_succ]
                              refine wpAnyZ_takeW 10 (.pointer (some ⟨wq.heap.size, 3, none⟩)) rfl (by kernel_rfl) (by kernel_rfl) (fun _ _ _ h => h) (by rfl) (fun _ => by first | (simp [go_sem]; done) | go_simp) hS0 ?_
                              try simp only [Act.put, List.setIfInBounds_toArray, List.set_cons_zero, List.set_cons_succ, List.getElem_toArray, List.getElem_cons_zero, List.getElem_cons_succ]
                              have g0 := hS0.1
                              have g3 := hBkV.out.f 3
                              refine wpAnyZ_last (by kernel_rfl) rfl (by kernel_rfl) (by rfl) (fun K hK => ?_)
                              go_simp
                              refine hK _ _ ?_
                              clear hK K g0 g3
                              have hBk9 : Hid (BlkN (V.setCell ⟨wq.heap.size, 3, none⟩ (.int .i64 (acc * ((times + 1) * sb)))) wq.heap.size #[.slice (some ⟨b, 0, none⟩) q d1, .int .i64 pl, .slice (some ⟨gC, 0, none⟩) q6 f6, .int .i64 (acc * ((times + 1) * sb))]) := by
                                show BlkN _ _ _
                                have := hBkV.out.set 3 (.int .i64 (acc * ((times + 1) * sb)))
                                simpa using this
                              have hT9 := hide (hTV.out.setCell (p := ⟨wq.heap.size, 3, none⟩) (.inl ⟨Nat.le_refl _, Nat.lt_succ_self _⟩) (.int .i64 (acc * ((times + 1) * sb))))
                              clear hBkV hTV hS0 hBk hTc hcA hw1 hw2 hwt
                              go_wp2_with fail
                              go_roundw
                              case rel => exact ⟨j + 1 + 1, times + 1, acc * ((times + 1) * sb), by omega, by go_num, rfl, hBk9.out, HSG.out, hT9.out⟩
                              case measure => simp [intOf]; omega
                            · obtain rfl : tt = 1 := by simpa [hbx] using htt
                              have hbq : ((bn : Int) != x) = true := by simpa using hbx
                              have hbq2 : ((bn : Int) == x) = false := by simpa using hbx
                              rw [Int.one_mul] at hw1 hw2
                              have HSG : Hid (symGo symAt (bs.drop (j + 1 + 1)) (prevB bs (j + 1 + 1)) 1 (acc * sb) = sy ∧ symOk (bs.drop (j + 1 + 1)) (prevB bs (j + 1 + 1)) 1 (acc * sb) = true) := by
                                have := HSG.out
                                rwa [Int.one_mul] at this
                              clear htt hbx hk1 hk3 hk5
                              go_upto_region 40 with fail
                              refine wp_region_Z (fun W' => W'.cell? ⟨wq.heap.size, 3, none⟩ = some (.int .i64 acc) ∧ W'.cell? ⟨gA, bn * 4 + 3, none⟩ = some (.int .i64 sb)) 11 (by kernel_rfl) ?_
                              simp only [List.size_toArray, List.length_cons, List.length_nil, Nat.reduceAdd]
                              have hS0 : wr.drew.cell? ⟨wq.heap.size, 3, none⟩ = some (.int .i64 acc) ∧ wr.drew.cell? ⟨gA, bn * 4 + 3, none⟩ = some (.int .i64 sb) := ⟨hBk.out.c 3 rfl, hcA⟩
                              have hBkV := hide hBk.out.drew
                              have hTV := hide hTc.out.drew
                              generalize wr.drew = V at hS0 hBkV hTV ⊢
                              refine wpAnyZ_takeW 0 (.pointer (some ⟨wq.heap.size, 3, none⟩)) rfl (by kernel_rfl) (by kernel_rfl) (fun _ _ _ h => h) (by rfl) (fun _ => by first | (simp [go_sem]; done) | go_simp) hS0 ?_
                              try simp only [Act.put, List.setIfInBounds_toArray, List.set_cons_zero, List.set_cons_succ, List.getElem_toArray, List.getElem_cons_zero, List.getElem_cons_succ]
                              refine wpAnyZ_take 1 (.int .i64 acc) rfl (by kernel_rfl) (by kernel_rfl) (fun _ _ _ h => h) (by rfl) (fun _ hS => by have q0 := hS.1; clear hS; first | (simp [go_sem, q0]; done) | go_simp) hS0 ?_
                              try simp only [Act.put, List.setIfInBounds_toArray, List.set_cons_zero, List.set_cons_succ, List.getElem_toArray, List.getElem_cons_zero, List.getElem_cons_succ]
                              refine wpAnyZ_takeW 2 (.int .i64 (1)) rfl (by kernel_rfl) (by kernel_rfl) (fun _ _ _ h => h) (by rfl) (fun _ => by first | (simp [go_sem]; done) | go_simp) hS0 ?_
                              try simp only [Act.put, List.setIfInBounds_toArray, List.set_cons_zero, List.set_cons_succ, List.getElem_toArray, List.getElem_cons_zero, List.getElem_cons_succ]
                              refine wpAnyZ_takeW 3 (.slice (some ⟨gA, 0, none⟩) (N0 + k) c') rfl (by kernel_rfl) (by kernel_rfl) (fun _ _ _ h => h) (by rfl) (fun _ => by first | (simp [go_sem]; done) | go_simp) hS0 ?_
                              try simp only [Act.put, List.setIfInBounds_toArray, List.set_cons_zero, List.set_cons_succ, List.getElem_toArray, List.getElem_cons_zero, List.getElem_cons_succ]
                              refine wpAnyZ_takeW 4 (.int .i64 (bn : Int)) rfl (by kernel_rfl) (by kernel_rfl) (fun _ _ _ h => h) (by rfl) (fun _ => by first | (simp [go_sem]; done) | go_simp) hS0 ?_
                              try simp only [Act.put, List.setIfInBounds_toArray, List.set_cons_zero, List.set_cons_succ, List.getElem_toArray, List.getElem_cons_zero, List.getElem_cons_succ]
                              refine wpAnyZ_takeW 5 (.pointer (some ⟨gA, bn * 4, none⟩)) rfl (by kernel_rfl) (by kernel_rfl) (fun _ _ _ h => h) (by rfl) (fun _ => by go_simp; intro hx; omega) hS0 ?_
                              try simp only [Act.put, List.setIfInBounds_toArray, List.set_cons_zero, List.set_cons_succ, List.getElem_toArray, List.getElem_cons_zero, List.getElem_cons_succ]
                              refine wpAnyZ_takeW 6 (.pointer (some ⟨gA, bn * 4 + 3, none⟩)) rfl (by kernel_rfl) (by kernel_rfl) (fun _ _ _ h => h) (by rfl) (fun _ => by first | (simp [go_sem]; done) | go_simp) hS0 ?_
                              try simp only [Act.put, List.setIfInBounds_toArray, List.set_cons_zero, List.set_cons_succ, List.getElem_toArray, List.getElem_cons_zero, List.getElem_cons_succ]
                              refine wpAnyZ_take 7 (.int .i64 sb) rfl (by kernel_rfl) (by kernel_rfl) (fun _ _ _ h => h) (by rfl) (fun _ hS => by have q0 := hS.2; clear hS; first | (simp [go_sem, q0]; done) | go_simp) hS0 ?_
                              try simp only [Act.put, List.setIfInBounds_toArray, List.set_cons_zero, List.set_cons_succ, List.getElem_toArray, List.getElem_cons_zero, List.getElem_cons_succ]
                              refine wpAnyZ_takeW 8 (.int .i64 (sb)) rfl (by kernel_rfl) (by kernel_rfl) (fun _ _ _ h => h) (by rfl) (fun _ => by simp [go_sem, hw1]) hS0 ?_
                              try simp only [Act.put, List.setIfInBounds_toArray, List.set_cons_zero, List.set_cons_succ, List.getElem_toArray, List.getElem_cons_zero, List.getElem_cons_succ]
                              refine wpAnyZ_takeW 9 (.int .i64 (acc * sb)) rfl (by kernel_rfl) (by kernel_rfl) (fun _ _ _ h => h) (by rfl) (fun _ => by simp [go_sem, hw2]) hS0 ?_
                              try simp only [Act.put, List.setIfInBounds_toArray, List.set_cons_zero, List.set_cons_succ, List.getElem_toArray, List.getElem_cons_zero, List.getElem_cons_succ]
                              refine wpAnyZ_takeW 10 (.pointer (some ⟨wq.heap.size, 3, none⟩)) rfl (by kernel_rfl) (by kernel_rfl) (fun _ _ _ h => h) (by rfl) (fun _ => by first | (simp [go_sem]; done) | go_simp) hS0 ?_
                              try simp only [Act.put, List.setIfInBounds_toArray, List.set_cons_zero, List.set_cons_succ, List.getElem_toArray, List.getElem_cons_zero, List.getElem_cons_succ]
                              have g0 := hS0.1
                              have g3 := hBkV.out.f 3
                              refine wpAnyZ_last (by kernel_rfl) rfl (by kernel_rfl) (by rfl) (fun K hK => ?_)
                              go_simp
                              refine hK _ _ ?_
                              clear hK K g0 g3
                              have hBk9 : Hid (BlkN (V.setCell ⟨wq.heap.size, 3, none⟩ (.int .i64 (acc * sb))) wq.heap.size #[.slice (some ⟨b, 0, none⟩) q d1, .int .i64 pl, .slice (some ⟨gC, 0, none⟩) q6 f6, .int .i64 (acc * sb)]) := by
                                show BlkN _ _ _
                                have := hBkV.out.set 3 (.int .i64 (acc * sb))
                                simpa using this
                              have hT9 := hide (hTV.out.setCell (p := ⟨wq.heap.size, 3, none⟩) (.inl ⟨Nat.le_refl _, Nat.lt_succ_self _⟩) (.int .i64 (acc * sb)))
                              clear hBkV hTV hS0 hBk hTc hcA hw1 hw2 hwt
                              go_wp2_with fail
                              go_roundw
                              case rel => exact ⟨j + 1 + 1, 1, acc * sb, by omega, by go_num, rfl, hBk9.out, HSG.out, hT9.out⟩
                              case measure => simp [intOf]; omega
                        · obtain rfl : j = q6 := by omega
                          have hsg := hSy.out
                          have hnil : bs.drop j = [] := List.drop_eq_nil_of_le (Nat.le_of_eq HSL.out)
                          rw [hnil, symGo, symOk] at hsg
                          obtain ⟨hacc, hrg⟩ := hsg
                          simp only [decide_eq_true_eq] at hrg
                          subst hacc
                          have bWr := hide (bW10.out.trans (hTc.out.below (Nat.le_refl _) (by omega)))
                          have zWr := bWr.out.size
                          have hCr := hide (hC.out.same (hTc.out.same (.inr (by omega)) (Nat.le_refl _)))
                          obtain ⟨es, hes, hkey⟩ := hO.out
                          have hAll := hide (hes.below bWr.out (Nat.le_refl _))
                          have hlI := hide (hIW.out _ (hS.out.trans (.of_below bWr.out (by omega))))
                          have HKey := hide hkey
                          have hcA := hAll.out.capb
                          have r0 := hBk.out.c 0 rfl
                          have r1 := hBk.out.c 1 rfl
                          have r2 := hBk.out.c 2 rfl
                          have r3 := hBk.out.c 3 rfl
                          have hbs := hBk.out.lt
                          have hkn : N0 + k ≤ 72 := by have := HN0.out; omega
                          have hzw := hb.out.size
                          have hoo := hAll.out.own
                          have hOO := hide hoo
                          clear hes hkey hnil hSy hoo
                          go_wp2_with (at_builtin; refine wpl_app1b rfl (.tmp 126) (.tmp 128) 56 rfl w.heap.size 62 i4 (.agg #[.slice none 0 0, .int .i64 0, .slice none 0 0, .int .i64 0]) 4 64 Tryz.underlying56 hi4 hw0 hw1 hw2 rfl (by omega) wr #[.slice (some ⟨b, 0, none⟩) q d1, .int .i64 pl, .slice C6 j f6, .int .i64 acc] _ rfl A (N0 + k) c' 1 _ rfl rfl hOO.out rfl (by simp [Value.oneCell']) (by omega) (by omega) (by omega) ?_; intro A9 c9 w9 hap9 hlt9)
                          have hAll9 := hide (hAll.out.push (e := ⟨some ⟨b, 0, none⟩, q, d1, l, pl, C6, j, f6, bs, acc⟩) (by omega) (hi2 := wr.heap.size) (by omega) (Nat.le_refl _) ⟨l', h', by omega, by omega, hlI.out, fun ad e => by
                            have := hA.out ad e
                            omega⟩ ⟨w8.heap.size, w10.heap.size, by omega, by omega, hCr.out.ints, fun ad e => .inr (by
                            have := hAll.out.lt ad e
                            omega)⟩ hpl (show R64 acc from ⟨by omega, by omega⟩) hap9)
                          have hA9 : Hid (∀ ad, A9 = some ad → ad.block < wo.heap.size ∨ hiR ≤ ad.block) := fun ad e => by
                            rcases hap9.2.2 with h1 | h1
                            · exact hA.out ad (h1 ad e)
                            · have := h1 ad e
                              omega
                          have hS9 := hide ((hS.out.trans (.of_below bWr.out (by omega))).trans (hap9.sameB (by omega) fun ad e => hA.out ad e))
                          have hb9 := hide (hap9.low (hb.out.trans (bWr.out.mono hzw)) (by omega) (Nat.le_refl _) hOO.out)
                          have hk9 : Hid (List.map Sh.key (es ++ [⟨some ⟨b, 0, none⟩, q, d1, l, pl, C6, j, f6, bs, acc⟩]) = tabS.take (N0 + k + 1)) := by
                            show _ = _
                            rw [List.take_add_one, HF.out.row, ← HKey.out]
                            rw [List.map_append]
                            rfl
                          have hz9 : w3.heap.size ≤ w9.heap.size := by omega
                          clear hap9 hOO hAll hCr hlI bWr hBk hTc r0 r1 r2 r3 hA hS hb
                          go_roundw
                          case rel => exact ⟨k + 1, c9, A9, by omega, by go_num, rfl, ⟨_, hAll9.out, hk9.out⟩, hA9.out, hS9.out, hz9, hb9.out⟩
                          case measure => simp [intOf]; omega
            · obtain rfl : k = m := by omega
              have hNk : N0 + k = cntF n := by have := HN0.out; omega
              rw [hNk] at hO
              go_wp2_with fail
              rw [hNk]
              go_roundw
              case rel => exact ⟨n + 1, c', A, by omega, by omega, by go_num, rfl, hO.out, hb.out⟩
              case measure => simp [intOf]; omega
    · obtain rfl : n = 5 := by omega
      obtain ⟨es, hes, hkey⟩ := hO.out
      have e72 : cntF (5 - 1) = 72 := rfl
      rw [e72] at hes hkey ⊢
      obtain ⟨g, rfl, _⟩ := hes.form (by omega)
      rw [List.take_of_length_le (Nat.le_of_eq tab_len)] at hkey
      have HE := hide hes
      have HK := hide hkey
      clear hes hkey hO
      go_wp2_with fail
      go_ret
      exact ⟨g, c, es, rfl, HE.out, HK.out, hb.out⟩
end Go.Proofs.YtkaepjigmcielaaGreatDoor
