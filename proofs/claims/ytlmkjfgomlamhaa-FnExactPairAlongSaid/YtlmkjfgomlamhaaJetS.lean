/- Paths turned into polynomials and back: the reference's walk. -/
import Derived.Test.YtlmkjfgomlamhaaJetT
namespace Go.Proofs.Ytlmkjfgomlamhaa
open Go.RowKit
set_option linter.unusedSimpArgs false
set_option linter.unusedVariables false
set_option maxRecDepth 20000

theorem addr_add0 (a : Addr) : a.add 0 = a := by
  obtain ⟨b, o, l⟩ := a
  cases l <;> simp [Addr.add]

set_option maxRecDepth 100000 in
set_option maxHeartbeats 8000000 in
theorem spec_l8Turn (P : Option Addr) (np cp : Nat) (xss : List (List Int)) (lo hi dim : Nat) (w : World) (hp : Ints2 w lo hi P np cp xss) (hh : hi ≤ w.heap.size) (hL : ∀ r ∈ xss, r.length = dim) (hd0 : 0 < dim) (hd6 : dim ≤ 1000) (hn0 : 0 < np) (hn : np ≤ 1000) :
    Calls Try.prog 28 #[.slice P np cp] w fun e w' => ∃ gR cR, e = .returned (.slice (some ⟨gR, 0, none⟩) dim cR) ∧ Ints2 w' w.heap.size w'.heap.size (some ⟨gR, 0, none⟩) dim cR (turnL xss dim) ∧ Below w.heap.size w w' := by
  obtain ⟨i0, hi0, hz0, hz1, hz2⟩ := info_parts info_int
  obtain ⟨i1, hi1, hy0, hy1, hy2⟩ := info_parts info_ints
  have hcp := hp.cap
  have hmp := hp.max
  have HP := hide hp
  have HLn := hide hL
  obtain ⟨ap, B0, m0, d0, r0, rfl, hc0, hI0, _, hx0⟩ := hp.at_ (k := 0) hn0
  obtain rfl : dim = m0 := by rw [← hI0.len]; exact (hL r0 (List.mem_of_getElem? hx0.out)).symm
  have hg0 := World.block_lt_of_cell? w _ hc0
  have HC0 := hide fun (w' : World) (hB : Below w.heap.size w w') => show w'.cell? ap = some (.slice B0 dim d0) by rw [← addr_add0 ap]; exact (hB.cell (p := ap.add 0) hg0).trans hc0
  have hcd0 := hI0.cap
  have hmd0 := hI0.max
  have htl := hide (turn_len xss dim)
  have hL0 := hide (Lst.empty kI 22 (fun _ => True) w w.heap.size (Nat.le_refl _))
  have hbL := hide (below_alloc w (.cells #[] 22))
  have zL : (w.alloc (.cells #[] 22)).heap.size = w.heap.size + 1 := by simp
  have hL1 := hide (hL0.out.wide (hi2 := (w.alloc (.cells #[] 22)).heap.size) (by omega))
  clear hp hL hI0 hx0 hc0 hL0 zL
  go_enter Try.func28, Try.ntmps28
  go_wp2_with fail
  generalize w.alloc (.cells #[] 22) = W1 at hL1 hbL ⊢
  go_loopw [3, 4] (fun p i wr => ∃ (q : Nat) (R : Option Addr) (cR : Nat) (vs : List Value), q ≤ dim ∧ i = .int .i64 q ∧ p = .slice R q cR ∧ Hid (Lst kI 22 (fun _ => True) wr w.heap.size wr.heap.size R q cR vs ((turnL xss dim).take q)) ∧ Hid (Below w.heap.size w wr)) (fun _ i _ => dim - (intOf i).toNat)
  case atStart => exact ⟨0, _, 0, [], by omega, rfl, rfl, hL1.out, hbL.out⟩
  case round =>
    clear hL1 hbL
    obtain ⟨q, R, cR, vs, hq, rfl, rfl, hL, hb⟩ := hrel
    have hsz := hb.out.size
    have hcR := hL.out.capb
    have u0 := HC0.out _ hb.out
    by_cases hlt : q < dim
    · obtain ⟨row, hrow⟩ : ∃ row, row = xss.map fun r => r.getD q 0 := ⟨_, rfl⟩
      have hrl : Hid (row.length = np) := by show _ = _; rw [hrow, List.length_map, HP.out.len]
      have hT : Hid ((turnL xss dim).take q ++ [row] = (turnL xss dim).take (q + 1)) := take_snocJ (by rw [hrow]; exact turn_at xss hlt)
      have hO0 : Hid ((wr.alloc (.cells #[] 3)).ownsRow wr.heap.size 3 1 (.slice (some ⟨wr.heap.size, 0, none⟩) 0 0) 0 ((row.take 0).map (Value.int .i64))) := by
        show World.ownsRow _ _ _ _ _ _ _
        simpa using World.ownsRow_lit (size := 1) (e := 3) (base := wr.heap.size) wr #[] 0 (Nat.le_refl _) (by unfold maxLen; omega) rfl
      have hB0 := hide (below_alloc wr (.cells #[] 3))
      go_wp2_with fail
      obtain ⟨wo, hwo⟩ : ∃ wo, wo = wr := ⟨_, rfl⟩
      rw [← hwo] at hO0 hB0 ⊢
      have hszo : w.heap.size ≤ wo.heap.size := by rw [hwo]; exact hsz
      have hLo : Hid (Lst kI 22 (fun _ => True) wo w.heap.size wo.heap.size R q cR vs ((turnL xss dim).take q)) := by rw [hwo]; exact hL.out
      have hbo : Hid (Below w.heap.size w wo) := by rw [hwo]; exact hb.out
      clear hwo hL hb u0 hsz
      generalize wo.alloc (.cells #[] 3) = W2 at hO0 hB0 ⊢
      go_loopw [5, 6] (fun p i wr => ∃ (j : Nat) (S : Option Addr) (cS : Nat), j ≤ np ∧ i = .int .i64 j ∧ p = .slice S j cS ∧ Hid (wr.ownsRow wo.heap.size 3 1 (.slice S j cS) j ((row.take j).map (Value.int .i64))) ∧ Hid (Below wo.heap.size wo wr)) (fun _ i _ => np - (intOf i).toNat)
      case atStart => exact ⟨0, _, _, by omega, rfl, rfl, hO0.out, hB0.out⟩
      case round =>
        clear hO0 hB0
        obtain ⟨j, S, cS, hj, rfl, rfl, hO, hbr⟩ := hrel
        have hszr := hbr.out.size
        have hbw := hide (hbo.out.trans (hbr.out.mono hszo))
        by_cases hlt2 : j < np
        · obtain ⟨ap2, Br, m2, d2, r, e, hcr, hIr, _, hxr⟩ := HP.out.at_ hlt2
          injection e with e
          subst e
          have hrd := HLn.out r (List.mem_of_getElem? hxr.out)
          obtain rfl : dim = m2 := by rw [← hIr.len]; exact hrd.symm
          have hcr2 := hIr.cap
          have hmr2 := hIr.max
          obtain ⟨bd, x, rfl, hcx, hx64, _, hxx⟩ := hIr.at_ hlt
          have hc4 := (hbw.out.cell (p := ap.add j) (World.block_lt_of_cell? w _ hcr)).trans hcr
          have hc5 := (hbw.out.cell (p := bd.add q) (World.block_lt_of_cell? w _ hcx)).trans hcx
          have hT2 : Hid ((row.take j).map (Value.int .i64) ++ [Value.int .i64 x] = (row.take (j + 1)).map (Value.int .i64)) := by
            show _ = _
            rw [← take_snocJ (xs := row) (k := j) (x := x) (by rw [hrow, List.getElem?_map, hxr.out]; simp [List.getD, hxx.out]), List.map_append]
            rfl
          clear hcr hIr hxr hcx hxx hrd
          go_wp2_with (at_builtin; refine wpl_app1 rfl (.tmp 23) (.tmp 31) 22 rfl wo.heap.size 3 i0 (.int .i64 0) 1 8 Try.underlying22 hi0 hz0 hz1 hz2 rfl (by omega) wr #[.int .i64 x] S j cS 1 _ rfl rfl hO.out rfl (by simp [Value.oneCell']) (by omega) (by omega) (by omega) ?_; intro A5 c5 w5 happ5 hlt5; have hb5 := hide (happ5.low hbr.out hszr (Nat.le_refl _) hO.out); have hO5 := hide happ5.1; clear happ5)
          rw [hT2.out] at hO5
          refine ⟨⟨j + 1, A5, c5, by omega, by go_num, rfl, hO5.out, hb5.out⟩, ?_⟩
          simp [intOf]; omega
        · obtain rfl : np = j := by omega
          have hOw := hO.out
          rw [List.take_of_length_le (Nat.le_of_eq hrl.out)] at hOw
          have hrng : ∀ y ∈ row, R64 y := fun y hy => by
            rw [hrow] at hy
            obtain ⟨r, hr, rfl⟩ := List.mem_map.1 hy
            obtain ⟨q2, hq2⟩ := List.mem_iff_getElem?.1 hr
            have hq3 := (List.getElem?_eq_some_iff.1 hq2).1
            obtain ⟨_, _, _, _, r2, _, _, hIr, _, hx2⟩ := HP.out.at_ (k := q2) (by have := HP.out.len; omega)
            have h3 := hx2.out
            rw [hq2] at h3
            injection h3 with h3
            subst h3
            exact r64_getDJ hIr.rng q
          have hI := hide (⟨hOw, fun ad e => (owns_lt hOw ad e).2, hrng⟩ : OwnI wr wo.heap.size wr.heap.size S np cS row).ints
          have hLr := hide (hLo.out.below hbr.out (Nat.le_refl _))
          clear hLo hO hOw hrng
          go_wp2_with (at_builtin; refine wpl_app1 rfl (.tmp 33) (.tmp 35) 30 rfl w.heap.size 22 i1 (.slice none 0 0) 1 24 Try.underlying30 hi1 hy0 hy1 hy2 rfl (by omega) wr #[.slice S np cS] R q cR 1 _ rfl rfl hLr.out.own rfl (by simp [Value.oneCell']) (by omega) (by omega) (by omega) ?_; intro A5 c5 w5 happ5 hlt5; have hL5 := hide (hLr.out.push (l := wo.heap.size) (h' := wr.heap.size) (x := row) ⟨S, np, cS, rfl, hI.out⟩ (Nat.le_refl _) (Nat.le_refl _) hszo hszr happ5); have hb5 := hide (happ5.low hbw.out (by omega) (by omega) hLr.out.own); clear happ5)
          rw [hT.out] at hL5
          refine ⟨⟨q + 1, A5, c5, _, by omega, by go_num, rfl, hL5.out, hb5.out⟩, ?_⟩
          simp [intOf]; omega
    · obtain rfl : dim = q := by omega
      have hL2 := hL.out
      rw [List.take_of_length_le (Nat.le_of_eq htl.out)] at hL2
      obtain ⟨gR, rfl, _, _, _⟩ := hL2.form hd0
      have HL := hide hL2.ints2
      clear hL hL2
      go_wp2_with fail
      go_ret
      exact ⟨_, _, rfl, HL.out, hb.out⟩
end Go.Proofs.Ytlmkjfgomlamhaa
