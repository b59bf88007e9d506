/- Polynomials turned back into paths, each row its own: the program's walk. -/
import Derived.Test.YtkaepjigmcielaaGreatDoorMzM
import Derived.Test.YtkaepjigmcielaaGreatDoorMzZ
import Derived.Test.YtkaepjigmcielaaGreatDoorMzT
namespace Go.Proofs.YtkaepjigmcielaaGreatDoor
open Go.RowKit
set_option linter.unusedSimpArgs false
set_option linter.unusedVariables false
set_option maxRecDepth 20000

set_option maxRecDepth 100000 in
set_option maxHeartbeats 8000000 in
theorem impl_pointsO (P : Option Addr) (np cp : Nat) (xss : List (List Int)) (lo hi dim : Nat) (w : World) (hp : Ints2 w lo hi P np cp xss) (hh : hi ≤ w.heap.size) (hL : ∀ r ∈ xss, dim ≤ r.length) (hd0 : 0 < dim) (hd6 : dim ≤ 1000) (hn : np ≤ 1000) :
    Calls Tryz.prog 41 #[.slice P np cp, .int .i64 (dim : Int)] w fun e w' => ∃ gR cR, e = .returned (.slice (some ⟨gR, 0, none⟩) dim cR) ∧ Ros kO 22 w' w.heap.size w'.heap.size (some ⟨gR, 0, none⟩) dim cR (turnL xss dim) ∧ Below w.heap.size w w' := by
  obtain ⟨i0, hi0, hz0, hz1, hz2⟩ := info_parts info_int
  have hcp := hp.cap
  have hmp := hp.max
  have HP := hide hp
  have HLn := hide hL
  have hmk := make_rows dim hd6 w
  have hN := hide ((OutS.nils kO 22 w dim (turn_len xss dim) (by omega) (.slice none 0 0) rfl).wide (mid' := (w.alloc (.cells (madeCells #[.slice none 0 0] dim) 22)).heap.size) (by simp))
  have hbN := hide (below_alloc w (.cells (madeCells #[.slice none 0 0] dim) 22))
  have htl := hide (turn_len xss dim)
  clear hp hL
  go_enter Tryz.func41, Tryz.ntmps41
  go_wp2_with fail
  clear hmk
  obtain ⟨g, hg⟩ : ∃ g, g = w.heap.size := ⟨_, rfl⟩
  have hgw : Hid (g = w.heap.size) := hg
  generalize w.alloc (.cells (madeCells #[.slice none 0 0] dim) 22) = W0 at hN hbN ⊢
  have hN2 : Hid (OutS kO W0 w.heap.size W0.heap.size 22 g dim dim 0 (List.replicate dim (.slice none 0 0)) (turnL xss dim)) := by rw [hg]; exact hN.out
  have hV0 : Hid (∀ k, 0 ≤ k → k < dim → (List.replicate dim (Value.slice none 0 0))[k]? = some (Value.slice none 0 0)) := fun k _ hk => by simp [hk]
  rw [← hg]
  clear hN hg
  go_loopw [13] (fun z wr => ∃ (i : Nat) (vs : List Value), i ≤ dim ∧ z = .int .i64 i ∧ Hid (OutS kO wr w.heap.size wr.heap.size 22 g dim dim i vs (turnL xss dim)) ∧ Hid (Below w.heap.size w wr) ∧ Hid (∀ k, i ≤ k → k < dim → vs[k]? = some (Value.slice none 0 0))) (fun z _ => dim - (intOf z).toNat)
  case atStart => exact ⟨0, _, by omega, rfl, hN2.out, hbN.out, hV0.out⟩
  case round =>
    clear hN2 hbN hV0
    obtain ⟨i, vs, hi, rfl, hLs, hbw0, hnil⟩ := hrel
    have hszw := hbw0.out.size
    by_cases hlt : i < dim
    · obtain ⟨row, hrow⟩ : ∃ row, row = xss.map fun r => r.getD i 0 := ⟨_, rfl⟩
      have hrl : Hid (row.length = np) := by show _ = _; rw [hrow, List.length_map, HP.out.len]
      have hta : Hid ((turnL xss dim)[i]? = some row) := by show _ = _; rw [hrow]; exact turn_at xss hlt
      have hvi := hide (hnil.out i (Nat.le_refl _) hlt)
      have hO0 : Hid (wr.ownsRow wr.heap.size 3 1 (.slice none 0 0) 0 ((row.take 0).map (Value.int .i64))) := by
        show World.ownsRow _ _ _ _ _ _ _
        simpa using World.ownsRow_nil _ _ _ _
      have hH0 := hLs
      have hnl := hide (fun k (hk : i + 1 ≤ k) (hk2 : k < dim) => hnil.out k (by omega) hk2)
      obtain ⟨hb, hhb⟩ : ∃ hb, hb = wr.heap.size := ⟨_, rfl⟩
      rw [← hhb] at hO0 hH0
      have hbw : w.heap.size ≤ hb := by omega
      have hbr0 : Hid (hb ≤ wr.heap.size) := Nat.le_of_eq hhb
      clear hhb hLs hnil
      have vsR := hide (show ∀ k, k ≠ i → vs[k]? = vs[k]? from fun _ _ => rfl)
      obtain ⟨vs0, hvs0⟩ : ∃ v, v = vs := ⟨_, rfl⟩
      go_wp2_with fail
      go_loopw [18] (fun z wr2 => ∃ (j : Nat) (B : Option Addr) (d : Nat) (vs : List Value), j ≤ np ∧ z = .int .i64 j ∧ Hid (OutS kO wr2 w.heap.size hb 22 g dim dim i vs (turnL xss dim)) ∧ Hid (vs[i]? = some (.slice B j d)) ∧ Hid (wr2.ownsRow hb 3 1 (.slice B j d) j ((row.take j).map (Value.int .i64))) ∧ Hid (Below w.heap.size w wr2 ∧ hb ≤ wr2.heap.size ∧ ∀ k, k ≠ i → vs[k]? = vs0[k]?)) (fun z _ => np - (intOf z).toNat)
      case atStart => exact ⟨0, none, 0, vs, by omega, rfl, hH0.out, hvi.out, hO0.out, hbw0.out, hbr0.out, fun k _ => by rw [hvs0]⟩
      case round =>
        clear hH0 hvi hO0 hbw0 hbr0
        obtain ⟨j, B, d, vs, hj, rfl, hLs, hvi, hO, hB⟩ := hrel
        by_cases hlt2 : j < np
        · obtain ⟨ap, Br, m2, d2, r, rfl, hcr, hIr, _, hxr⟩ := HP.out.at_ hlt2
          have hrd := HLn.out r (List.mem_of_getElem? hxr.out)
          have hrl2 := hIr.len
          have hcr2 := hIr.cap
          have hmr2 := hIr.max
          obtain ⟨bd, x, rfl, hcx, hx64, _, hxx⟩ := hIr.at_ (k := i) (by omega)
          have hgr := World.block_lt_of_cell? w _ hcr
          have hgx := World.block_lt_of_cell? w _ hcx
          have HCR := hide fun (w' : World) (hB : Below w.heap.size w w') => (hB.cell (p := ap.add j) hgr).trans hcr
          have HCX := hide fun (w' : World) (hB : Below w.heap.size w w') => (hB.cell (p := bd.add i) hgx).trans hcx
          have hT : Hid (row.take j ++ [x] = row.take (j + 1)) := take_snocJ (by rw [hrow, List.getElem?_map, hxr.out]; simp [List.getD, hxx.out])
          have hc4 := HCR.out _ hB.out.1
          have HVS := hide hB.out.2.2
          have HLd := hide hLs.out.drew
          have HOd : Hid (wr.drew.ownsRow hb 3 1 (.slice B j d) j ((row.take j).map (Value.int .i64))) := hO.out
          have HBd := hide hB.out.1.drew
          have hzd : hb ≤ wr.drew.heap.size := hB.out.2.1
          have HV := hide hvi.out
          have hOc : j ≤ d ∧ d ≤ 9223372036854775807 := by
            rcases hO.out.2 with ⟨e, rfl⟩ | ⟨_, _, _, e, _, _, h1, h2, _⟩
            · injection e; omega
            · injection e with _ _ e3; unfold maxLen at h2; omega
          have hvn := hLs.out.vlen
          have him : i < m2 := by omega
          have him2 : ¬ m2 ≤ i := by omega
          have hS0' : Hid (wr.drew.cell? ⟨g, i, none⟩ = some (.slice B j d) ∧ wr.drew.cell? (bd.add i) = some (.int .i64 x)) := ⟨(HLd.out.own.cellAt i (by omega)).trans HV.out, HCX.out _ HBd.out⟩
          have HS1' : Hid ((wr.drew.alloc (.cells #[.int .i64 x] 3)).cell? ⟨g, i, none⟩ = some (.slice B j d) ∧ (wr.drew.alloc (.cells #[.int .i64 x] 3)).cell? (bd.add i) = some (.int .i64 x)) :=
            ⟨((below_alloc wr.drew (.cells #[.int .i64 x] 3)).cell (p := ⟨g, i, none⟩) (World.block_lt_of_cell? _ _ hS0'.out.1)).trans hS0'.out.1, HCX.out _ (HBd.out.alloc (by show w.heap.size ≤ wr.drew.heap.size; omega) _)⟩
          clear hcr hcx hIr hxr hxx hO hB hLs hvi hrd
          go_wp2_with fail
          refine wp_region_Z (fun W' => W'.cell? ⟨g, i, none⟩ = some (.slice B j d) ∧ W'.cell? (bd.add i) = some (.int .i64 x)) 13 (by kernel_rfl) ?_
          obtain ⟨V, hV⟩ : ∃ V, V = wr.drew := ⟨_, rfl⟩
          rw [← hV] at HLd HOd HBd hzd hS0' HS1' ⊢
          have hS0 := hS0'.out
          have HS1 := HS1'
          clear hS0' HS1' hV hc4
          refine wpAnyZ_takeW 0 (.slice (some ⟨g, 0, none⟩) dim dim) rfl (by kernel_rfl) (by kernel_rfl) (fun _ _ _ h => h) (by rfl) (fun _ => by go_simp) hS0 ?_
          try simp only [Act.put, List.setIfInBounds_toArray, List.set_cons_zero, List.set_cons_succ]
          refine wpAnyZ_takeW 1 (.int .i64 (i : Int)) rfl (by kernel_rfl) (by kernel_rfl) (fun _ _ _ h => h) (by rfl) (fun _ => by go_simp) hS0 ?_
          try simp only [Act.put, List.setIfInBounds_toArray, List.set_cons_zero, List.set_cons_succ]
          refine wpAnyZ_takeW 2 (.slice (some ⟨g, 0, none⟩) dim dim) rfl (by kernel_rfl) (by kernel_rfl) (fun _ _ _ h => h) (by rfl) (fun _ => by go_simp) hS0 ?_
          try simp only [Act.put, List.setIfInBounds_toArray, List.set_cons_zero, List.set_cons_succ]
          refine wpAnyZ_takeW 3 (.int .i64 (i : Int)) rfl (by kernel_rfl) (by kernel_rfl) (fun _ _ _ h => h) (by rfl) (fun _ => by go_simp) hS0 ?_
          try simp only [Act.put, List.setIfInBounds_toArray, List.set_cons_zero, List.set_cons_succ]
          refine wpAnyZ_takeW 4 (.pointer (some ⟨g, i, none⟩)) rfl (by kernel_rfl) (by kernel_rfl) (fun _ _ _ h => h) (by rfl) (fun _ => by go_simp) hS0 ?_
          try simp only [Act.put, List.setIfInBounds_toArray, List.set_cons_zero, List.set_cons_succ]
          refine wpAnyZ_take 5 (.slice B j d) rfl (by kernel_rfl) (by kernel_rfl) (fun _ _ _ h => h) (by rfl) (fun _ hS => by have q0 := hS.1; clear hS; go_simp) hS0 ?_
          try simp only [Act.put, List.setIfInBounds_toArray, List.set_cons_zero, List.set_cons_succ]
          refine wpAnyZ_takeW 6 (.slice (some bd) m2 d2) rfl (by kernel_rfl) (by kernel_rfl) (fun _ _ _ h => h) (by rfl) (fun _ => by go_simp) hS0 ?_
          try simp only [Act.put, List.setIfInBounds_toArray, List.set_cons_zero, List.set_cons_succ]
          refine wpAnyZ_takeW 7 (.int .i64 (i : Int)) rfl (by kernel_rfl) (by kernel_rfl) (fun _ _ _ h => h) (by rfl) (fun _ => by go_simp) hS0 ?_
          try simp only [Act.put, List.setIfInBounds_toArray, List.set_cons_zero, List.set_cons_succ]
          refine wpAnyZ_takeW 8 (.pointer (some (bd.add i))) rfl (by kernel_rfl) (by kernel_rfl) (fun _ _ _ h => h) (by rfl) (fun _ => by go_simp) hS0 ?_
          try simp only [Act.put, List.setIfInBounds_toArray, List.set_cons_zero, List.set_cons_succ]
          refine wpAnyZ_take 9 (.int .i64 x) rfl (by kernel_rfl) (by kernel_rfl) (fun _ _ _ h => h) (by rfl) (fun _ hS => by have q0 := hS.2; clear hS; go_simp) hS0 ?_
          try simp only [Act.put, List.setIfInBounds_toArray, List.set_cons_zero, List.set_cons_succ]
          refine wpAnyZ_one 10 (by kernel_rfl) rfl (by rfl) (fun K hK => ?_)
          go_simp
          refine hK.out _ _ HS1.out ?_
          clear hK K
          try simp only [Act.put, List.setIfInBounds_toArray, List.set_cons_zero, List.set_cons_succ]
          refine wpAnyZ_one 11 (by kernel_rfl) rfl (by rfl) (fun K hK => ?_)
          refine owp_appJ (.tmp 27) (.tmp 32) 22 rfl hb 3 i0 (.int .i64 0) 1 8 Tryz.underlying22 hi0 hz0 hz1 hz2 rfl (by omega) V #[.int .i64 x] _ rfl B j d 1 _ rfl rfl HOd.out rfl (by simp [Value.oneCell']) (by omega) (by omega) hzd ?_
          intro A3 c3 w5 happ hlt3
          have b5 := hide (happ.low (Below.refl hb V) hzd (Nat.le_refl _) HOd.out)
          have HL5 := hide (HLd.out.below b5.out (Nat.le_refl _))
          have hO5 : Hid (w5.ownsRow hb 3 1 (.slice A3 (j + 1) c3) (j + 1) ((row.take (j + 1)).map (Value.int .i64))) := by
            show World.ownsRow _ _ _ _ _ _ _
            rw [← hT.out, List.map_append]
            exact happ.1
          have hS2 : w5.cell? ⟨g, i, none⟩ = some (.slice B j d) ∧ w5.cell? (bd.add i) = some (.int .i64 x) := ⟨(HL5.out.own.cellAt i (by omega)).trans HV.out, HCX.out _ (HBd.out.trans (b5.out.mono hbw))⟩
          have f5 := HL5.out.own.frozenAt i
          clear happ HS1
          refine hK.out _ _ hS2 ?_
          clear hK K
          try simp only [Act.put, List.setIfInBounds_toArray, List.set_cons_zero, List.set_cons_succ]
          refine wpAnyZ_takeW 12 (.pointer (some ⟨g, i, none⟩)) rfl (by kernel_rfl) (by kernel_rfl) (fun _ _ _ h => h) (by rfl) (fun _ => by go_simp) hS2 ?_
          try simp only [Act.put, List.setIfInBounds_toArray, List.set_cons_zero, List.set_cons_succ]
          refine wpAnyZ_last (by kernel_rfl) rfl (by kernel_rfl) (by rfl) (fun K hK => ?_)
          go_simp
          refine hK _ _ ?_
          clear hK K
          have hvl := HL5.out.vlen
          have HF := hide (HL5.out.hole (.slice A3 (j + 1) c3))
          have HVn : Hid ((vs.set i (Value.slice A3 (j + 1) c3))[i]? = some (.slice A3 (j + 1) c3)) := List.getElem?_set_self (by omega)
          have hOn : Hid ((w5.setCell ⟨g, i, none⟩ (.slice A3 (j + 1) c3)).ownsRow hb 3 1 (.slice A3 (j + 1) c3) (j + 1) ((row.take (j + 1)).map (Value.int .i64))) := owns_setCell hO5.out (p := ⟨g, i, none⟩) (fun ad e => by
            have h1 := (owns_lt hO5.out ad e).1
            have h2 := HL5.out.lt
            show ad.block ≠ g
            omega) _
          have bn : Hid (Below w.heap.size w (w5.setCell ⟨g, i, none⟩ (.slice A3 (j + 1) c3)) ∧ hb ≤ (w5.setCell ⟨g, i, none⟩ (.slice A3 (j + 1) c3)).heap.size ∧ ∀ k, k ≠ i → (vs.set i (Value.slice A3 (j + 1) c3))[k]? = vs0[k]?) := ⟨(HBd.out.trans (b5.out.mono hbw)).setCell (p := ⟨g, i, none⟩) (by have := (HL5.out.own.lt g rfl).1; exact this) (.slice A3 (j + 1) c3), by
            have h1 := b5.out.size
            have h2 : (w5.setCell ⟨g, i, none⟩ (.slice A3 (j + 1) c3)).heap.size = w5.heap.size := by simp [World.setCell]
            omega, fun k hk => by rw [List.getElem?_set_ne (Ne.symm hk)]; exact HVS.out k hk⟩
          clear HL5 hO5 b5 hS2 f5
          go_wp2_with fail
          go_roundw
          case rel => exact ⟨j + 1, A3, c3, _, by omega, by go_num, HF.out, HVn.out, hOn.out, bn.out⟩
          case measure => simp [intOf]; omega
        · obtain rfl : np = j := by omega
          have hOw := hO.out
          rw [List.take_of_length_le (Nat.le_of_eq hrl.out)] at hOw
          have hrng : ∀ y ∈ row, R64 y := fun y hy => by
            rw [hrow] at hy
            obtain ⟨r, hr, rfl⟩ := List.mem_map.1 hy
            obtain ⟨q, hq⟩ := List.mem_iff_getElem?.1 hr
            have hq2 := (List.getElem?_eq_some_iff.1 hq).1
            obtain ⟨_, _, _, _, r2, _, _, hIr, _, hx2⟩ := HP.out.at_ (k := q) (by have := HP.out.len; omega)
            have h3 := hx2.out
            rw [hq] at h3
            injection h3 with h3
            subst h3
            exact r64_getDJ hIr.rng i
          have hI : OwnI wr hb wr.heap.size B np d row := ⟨hOw, fun ad e => (owns_lt hOw ad e).2, hrng⟩
          have hF := hide (hLs.out.fill hvi.out hta.out (⟨B, np, d, rfl, hI⟩ : kO.rd wr hb wr.heap.size _ _) (Nat.le_refl hb) hB.out.2.1)
          have hn2 := hide fun k (hk : i + 1 ≤ k) (hk2 : k < dim) => (hB.out.2.2 k (by omega)).trans (hvs0 ▸ hnl.out k hk hk2)
          have hB1 := hide hB.out.1
          clear hLs hvi hO hB hI hOw hrng
          go_wp2_with fail
          go_roundw
          case rel => exact ⟨i + 1, vs, by omega, by go_num, hF.out, hB1.out, hn2.out⟩
          case measure => simp [intOf]; omega
    · obtain rfl : dim = i := by omega
      have HE : Hid (Ros kO 22 wr w.heap.size wr.heap.size (some ⟨g, 0, none⟩) dim dim (turnL xss dim)) := .inr ⟨_, _, rfl, hLs.out⟩
      clear hLs
      go_wp2_with fail
      go_ret
      exact ⟨_, _, rfl, HE.out, hbw0.out⟩
end Go.Proofs.YtkaepjigmcielaaGreatDoor
/- Steps of pairs along paths: what is computed, in plain Lean. -/
namespace Go.Proofs.YtkaepjigmcielaaGreatDoor
open Go.RowKit
set_option linter.unusedSimpArgs false
set_option linter.unusedVariables false
set_option maxRecDepth 20000

theorem poly_good {dim : Nat} : ∀ (ms : List Mono) (prev : Option (List Int)), polyGo (dim : Int) prev ms = true → GoodM dim ms
  | [], _, _ => fun m hm => absurd hm (by simp)
  | m :: r, prev, h => by
    rw [polyGo] at h
    split at h
    · rename_i hm
      intro y hy
      rcases List.mem_cons.1 hy with rfl | hy
      · unfold monoOk at hm
        simp only [Bool.and_eq_true, decide_eq_true_eq] at hm
        obtain ⟨⟨⟨⟨⟨_, h1⟩, h2⟩, h3⟩, _⟩, _⟩ := hm
        exact ⟨(isNumF_iff _).1 h1, by omega, h3⟩
      · exact poly_good r _ h y hy
    · cases h
theorem field_good {dim : Nat} {ps : List (List Mono)} (h : fieldF (dim : Int) ps = true) : GoodF dim ps ∧ 1 ≤ dim ∧ dim ≤ 6 := by
  unfold fieldF at h
  simp only [Bool.and_eq_true, decide_eq_true_eq] at h
  obtain ⟨⟨⟨h1, h2⟩, h3⟩, h4⟩ := h
  refine ⟨⟨by omega, ?_⟩, by omega, by omega⟩
  have go : ∀ (qs : List (List Mono)), fieldGo (dim : Int) qs = true → ∀ ms ∈ qs, GoodM dim ms := by
    intro qs
    induction qs with
    | nil => intro _ ms hm; exact absurd hm (by simp)
    | cons p r ih =>
      intro hq ms hm
      rw [fieldGo] at hq
      split at hq
      · rename_i hp
        rcases List.mem_cons.1 hm with rfl | hm
        · unfold polyF at hp
          simp only [Bool.and_eq_true] at hp
          exact poly_good _ _ hp.2
        · exact ih hq ms hm
      · cases hq
  exact go ps h4
theorem path_good {dim : Nat} {xss : List (List Int)} (h : pathOkF xss (dim : Int) = true) : (1 ≤ xss.length ∧ xss.length ≤ 7) ∧ ∀ r ∈ xss, r.length = dim ∧ ∀ x ∈ r, 0 ≤ x ∧ x < 1000000271 := by
  unfold pathOkF at h
  simp only [Bool.and_eq_true, decide_eq_true_eq] at h
  refine ⟨h.1, ?_⟩
  have go : ∀ (qs : List (List Int)), pathGo (dim : Int) qs = true → ∀ r ∈ qs, r.length = dim ∧ ∀ x ∈ r, 0 ≤ x ∧ x < 1000000271 := by
    intro qs
    induction qs with
    | nil => intro _ ms hm; exact absurd hm (by simp)
    | cons p r ih =>
      intro hq ms hm
      rw [pathGo] at hq
      split at hq
      · rename_i hp
        simp only [Bool.and_eq_true, decide_eq_true_eq] at hp
        rcases List.mem_cons.1 hm with rfl | hm
        · exact ⟨by omega, allNumF_mem hp.2⟩
        · exact ih hq ms hm
      · cases hq
  exact go xss h.2
theorem turn_num {dim : Nat} {xss : List (List Int)} (h : ∀ r ∈ xss, r.length = dim ∧ ∀ x ∈ r, 0 ≤ x ∧ x < 1000000271) : JNum xss.length (turnL xss dim) := by
  intro r hr
  simp only [turnL, List.mem_map, List.mem_range] at hr
  obtain ⟨i, hi, rfl⟩ := hr
  refine ⟨by simp, fun x hx => ?_⟩
  obtain ⟨q, hq, rfl⟩ := List.mem_map.1 hx
  have h1 := h q hq
  exact h1.2 _ (by rw [List.getD, List.getElem?_eq_getElem (by omega)]; exact List.getElem_mem _)
end Go.Proofs.YtkaepjigmcielaaGreatDoor
/- Steps of pairs along paths: the program's walk. -/
namespace Go.Proofs.YtkaepjigmcielaaGreatDoor
open Go.RowKit
set_option linter.unusedSimpArgs false
set_option linter.unusedVariables false
set_option maxRecDepth 20000

theorem Tabs.below {w w' : World} {lo hi g dim S B : Nat} {tA tB : Nat → List Int} (h : Tabs w lo hi g dim S tA tB) (hb : Below B w w') (hB : hi ≤ B) (hg : g < B) : Tabs w' lo hi g dim S tA tB := by
  intro j hj
  obtain ⟨AA, cA, BB, cB, t0, t1, t2, hA, hB', hf⟩ := h j hj
  exact ⟨AA, cA, BB, cB, (hb.cell (p := ⟨g, j * 3, none⟩) hg).trans t0, (hb.cell (p := ⟨g, j * 3 + 1, none⟩) hg).trans t1, (hb.cell (p := ⟨g, j * 3 + 2, none⟩) hg).trans t2, hA.below hb hB, hB'.below hb hB, hf⟩
end Go.Proofs.YtkaepjigmcielaaGreatDoor
/- Steps of pairs along paths: the reference's walk. -/
namespace Go.Proofs.YtkaepjigmcielaaGreatDoor
open Go.RowKit
set_option linter.unusedSimpArgs false
set_option linter.unusedVariables false
set_option maxRecDepth 20000

/-- the pair and the field in the call's own cells -/
structure EnvP (w wr : World) (vp vf : Array Value) : Prop where
  low : Below w.heap.size w wr
  par : BlkN wr w.heap.size vp
  fld : BlkN wr (w.heap.size + 1) vf
theorem EnvP.below {w wr w' : World} {vp vf : Array Value} (h : EnvP w wr vp vf) {B : Nat} (hb : Below B wr w') (hB : w.heap.size + 2 ≤ B) : EnvP w w' vp vf :=
  ⟨h.low.trans (hb.mono (by omega)), h.par.same (hb.block _ (by omega)), h.fld.same (hb.block _ (by omega))⟩
theorem EnvP.drew {w wr : World} {vp vf : Array Value} (h : EnvP w wr vp vf) : EnvP w wr.drew vp vf := ⟨h.low.drew, h.par.drew, h.fld.drew⟩
theorem EnvP.size {w wr : World} {vp vf : Array Value} (h : EnvP w wr vp vf) : w.heap.size + 2 ≤ wr.heap.size := h.fld.lt

end Go.Proofs.YtkaepjigmcielaaGreatDoor
