/- The branches of a list, whatever the step of its levels: the program's walk. -/
import Derived.Test.YthjkdpapadolgaaGreatDoorBrW
import Derived.Test.YthjkdpapadolgaaGreatDoorShP
namespace Go.Proofs.YthjkdpapadolgaaGreatDoor
open Go.RowKit
set_option linter.unusedSimpArgs false
set_option linter.unusedVariables false
set_option maxRecDepth 20000

theorem parts_stepG (st : Int) (ps : List (List Int)) (x : Int) (r : List Int) : partsG st ps (x :: r) = partsG st (pushLast (if x - st < st then ps ++ [[]] else ps) (x - st)) r := rfl

set_option maxHeartbeats 4000000 in
theorem impl_branchListsG (st : Int) (hs1 : 1 ≤ st) (hs2 : st ≤ 2) (gw n c : Nat) (a : Int) (r : List Int) (lo hi : Nat) (w : World) (h : Ints w lo hi (some ⟨gw, 0, none⟩) n c (a :: r)) (hh : hi ≤ w.heap.size) (hn : n ≤ 4) (hr : ∀ x ∈ r, st ≤ x) (h4 : ∀ x ∈ r.head?, x - st < st) :
    Calls Tryz.prog 45 #[.slice (some ⟨gw, 0, none⟩) n c, .int .i64 st] w fun e w' => ∃ g' n' c' vs, e = .returned (.slice (some ⟨g', 0, none⟩) n' c') ∧ RowsO w' w.heap.size (some ⟨g', 0, none⟩) n' c' vs (partsG st [] r) ∧ Below w.heap.size w w' := by
  obtain ⟨i0, hi0, hz0, hz1, hz2⟩ := info_parts info_int
  obtain ⟨i1, hi1, hy0, hy1, hy2⟩ := info_parts info_ints
  have hm := h.max
  have hcp := h.cap
  have hl := hide h.len
  have hn1 : 1 ≤ n := by have := hl.out; simp at this; omega
  have ht := h.tail_if
  have HR := hide hr
  have H4 := hide h4
  clear hr h4 h
  have b0 := below_alloc w (.cells #[] 22)
  have o0 := hide (RowsO.empty w w.heap.size (Nat.le_refl _))
  have z0 := b0.size
  by_cases hcc : c = 1
  · obtain rfl : n = 1 := by omega
    obtain rfl : r = [] := by have := hl.out; simpa using this
    subst hcc
    clear hl ht HR H4
    go_enter Tryz.func45, Tryz.ntmps45
    go_wp2_with fail
    refine wp_loop_rounds 1 ?_
    rw [rounds_succ]
    go_wp2_with fail
    go_ret
    exact ⟨_, _, _, _, rfl, o0.out, b0⟩
  · rw [if_neg hcc] at ht
    go_enter Tryz.func45, Tryz.ntmps45
    go_wp2_with fail
    generalize World.alloc w (.cells #[] 22) = W0 at o0 b0 z0 ⊢
    have hlr : r.length = n - 1 := ht.len
    have HL := hide hlr
    clear hlr hl
    go_loopw [5, 7, 8, 13] (fun o _ _ i wr => ∃ (k gA n' c' : Nat), k ≤ n - 1 ∧ i = .int .i64 k ∧ o = .slice (some ⟨gA, 0, none⟩) n' c' ∧ n' ≤ k ∧ (0 < k → 0 < n') ∧ Hid (∃ vs pss, RowsO wr w.heap.size (some ⟨gA, 0, none⟩) n' c' vs pss ∧ partsG st [] r = partsG st pss (r.drop k) ∧ ∀ p ∈ pss, p.length ≤ k) ∧ Hid (Below w.heap.size w wr))
      (fun _ _ _ i _ => n - (intOf i).toNat)
    case atStart => exact ⟨0, _, 0, 0, by omega, rfl, rfl, by omega, by omega, ⟨_, _, o0.out, rfl, by simp⟩, b0⟩
    case round =>
      obtain ⟨k, gA, N, C, hk, rfl, rfl, hNk, hN0, hrel, hb⟩ := hrel
      have hsz := hb.out.size
      by_cases hlt : k < n - 1
      · obtain ⟨ad, x, e, hc, hxr, hdx, hx⟩ := (ht.below hb.out hh).at_ hlt
        injection e with e
        subst e
        have hx2 : st ≤ x := HR.out x (List.mem_of_getElem? hx.out)
        unfold R64 at hxr
        obtain ⟨vs, pss, hO, hE, hP4⟩ := hrel.out
        have HP4 := hide hP4
        have hcb := hO.capb
        have hvl := hide hO.vlen
        have hpl := hide hO.len
        have HO := hide hO
        have HE : Hid (partsG st [] r = partsG st (pushLast (if x - st < st then pss ++ [[]] else pss) (x - st)) (r.drop (k + 1))) := by show _ = _; rw [hE, hdx.out, parts_stepG]
        simp only [Addr.add_lit] at hc
        have hr64 : R64 (x - st) := ⟨by omega, by omega⟩
        have HR64 := hide hr64
        clear hE hO hrel hdx hr64 hP4
        have hadd : IntKind.i64.wrap (x - st) = x - st := IntWalk.i64_in _ (by omega)
        have HW := hide hadd
        clear hadd
        by_cases hx4 : x - st < st
        · have hdec : decide (x - st < st) = true := decide_eq_true hx4
          have HE2 : Hid (partsG st [] r = partsG st (pushLast (pss ++ [[]]) (x - st)) (r.drop (k + 1))) := by show _ = _; rw [HE.out, if_pos hx4]
          go_wp2_with (first | (at_builtin; refine wpl_app1b rfl (.tmp 22) (.tmp 24) 50 rfl w.heap.size 22 i1 (.slice none 0 0) 1 24 Tryz.underlying50 hi1 hy0 hy1 hy2 rfl (by omega) _ #[.slice (some ⟨wr.heap.size, 0, none⟩) 0 0] _ (by simp) (some ⟨gA, 0, none⟩) N C 1 _ rfl rfl (HO.out.own.alloc _) rfl (by simp [Value.oneCell']) (by omega) (by omega) (by simp; omega) ?_; intro A2 c2 w4 happ hlt2; have hP := hide (HO.out.push hsz happ); obtain ⟨g, rfl, hg1, hg2⟩ := hP.out.form (Nat.succ_pos _); have cel := hP.out.cell (snoc_getV hvl.out); have b4 := hide (happ.low (hb.out.alloc hsz _) (by simp; omega) (Nat.le_refl _) (HO.out.own.alloc _)); have Q4 := hide (hP.out.nilrow (snoc_getV hvl.out)); have hcb2 := hP.out.capb; have zw4 : w.heap.size ≤ w4.heap.size := b4.out.size; clear happ) | (at_builtin; refine wpl_app1b rfl (.tmp 34) (.tmp 38) 22 rfl w.heap.size 3 i0 (.int .i64 0) 1 8 Tryz.underlying22 hi0 hz0 hz1 hz2 rfl (by omega) _ #[.int .i64 (x - st)] _ rfl _ 0 0 1 _ rfl rfl Q4.out rfl (by simp [Value.oneCell']) (by omega) (by omega) zw4 ?_; intro B3 d3 w5 happ hlt5; obtain ⟨mc, mf⟩ := hP.out.mid (snoc_getV hvl.out) happ; have HG := hide (hP.out.grow (snoc_get hpl.out) (snoc_getV hvl.out) happ HR64.out); have b5 := hide (happ.low b4.out zw4 (Nat.le_refl _) Q4.out); clear happ))
          go_roundw
          case rel => exact ⟨k + 1, _, N + 1, c2, by omega, by go_num, rfl, by omega, by omega, ⟨_, _, HG.out, by rw [HE2.out, ← set_last (snoc_get hpl.out) (by simp [hpl.out])], len_set (len_snoc HP4.out) (snoc_get hpl.out)⟩, b5.out.setCell (by omega) _⟩
          case measure => simp [intOf]; omega
        · have hdec : decide (x - st < st) = false := decide_eq_false hx4
          have HE2 : Hid (partsG st [] r = partsG st (pushLast pss (x - st)) (r.drop (k + 1))) := by show _ = _; rw [HE.out, if_neg hx4]
          have hk0 : 0 < k := by
            rcases Nat.eq_zero_or_pos k with e | e
            · subst e
              have := H4.out x (by rw [List.head?_eq_getElem?]; exact hx.out)
              omega
            · exact e
          obtain ⟨N, rfl⟩ : ∃ M, N = M + 1 := ⟨N - 1, by omega⟩
          obtain ⟨g, eg_, hg1, hg2⟩ := HO.out.form (Nat.succ_pos _)
          injection eg_ with eg_
          injection eg_ with eg_
          subst eg_
          obtain ⟨B, m, d, xs, q1, q2, q3, q4⟩ := HO.out.last
          have cel := HO.out.cell q1
          have Q1 := hide q1
          have Q2 := hide q2
          have Q4 := hide q4
          have hml : m ≤ 1099511627775 := by
            have e := q3
            have := HP4.out xs (List.mem_of_getElem? q2)
            omega
          clear q1 q2 q3 q4
          go_wp2_with (at_builtin; refine wpl_app1b rfl (.tmp 34) (.tmp 38) 22 rfl w.heap.size 3 i0 (.int .i64 0) 1 8 Tryz.underlying22 hi0 hz0 hz1 hz2 rfl (by omega) wr #[.int .i64 (x - st)] _ rfl B m d 1 _ rfl rfl Q4.out rfl (by simp [Value.oneCell']) (by omega) (by omega) hsz ?_; intro B3 d3 w5 happ hlt5; obtain ⟨mc, mf⟩ := HO.out.mid Q1.out happ; have HG := hide (HO.out.grow Q2.out Q1.out happ HR64.out); have b5 := hide (happ.low hb.out hsz (Nat.le_refl _) Q4.out); clear happ)
          go_roundw
          case rel => exact ⟨k + 1, _, N + 1, C, by omega, by go_num, rfl, by omega, by omega, ⟨_, _, HG.out, by rw [HE2.out, ← set_last Q2.out (by simp [hpl.out])], len_set HP4.out Q2.out⟩, b5.out.setCell (by omega) _⟩
          case measure => simp [intOf]; omega
      · obtain rfl : k = n - 1 := by omega
        obtain ⟨vs, pss, hO, hE, _⟩ := hrel.out
        have hnil : r.drop (n - 1) = [] := List.drop_eq_nil_of_le (by rw [HL.out]; exact Nat.le_refl _)
        have R : RowsO wr w.heap.size (some ⟨gA, 0, none⟩) N C vs (partsG st [] r) := by rw [hE, hnil]; exact hO
        have HR2 := hide R
        clear hE hO hrel hnil R
        go_wp2_with fail
        go_ret
        exact ⟨_, _, _, _, rfl, HR2.out, hb.out⟩
end Go.Proofs.YthjkdpapadolgaaGreatDoor
