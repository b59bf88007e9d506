/- Reading a scheme: the reference's walk. -/
import Derived.Test.YtppekbokaknocaaDoorParM
namespace Go.Proofs.YtppekbokaknocaaDoor
open Go.RowKit
set_option linter.unusedSimpArgs false
set_option linter.unusedVariables false
set_option maxRecDepth 20000

set_option maxRecDepth 100000 in
set_option maxHeartbeats 4000000 in
theorem spec_ParseScheme (s : ByteArray) (w : World) (hs : s.size ≤ 1048576) :
    Calls Tryd.prog 5 #[.string s] w fun e w' => ∃ A n c, e = .returned (.tuple #[.slice A n c, .bool (parSchF s).2]) ∧ OwnM w' w.heap.size w'.heap.size A n c (parSchF s).1 ∧ Below w.heap.size w w' := by
  obtain ⟨i0, hi0, hz0, hz1, hz2⟩ := info_parts info_move
  have hS := hide (spec_l1Cut s 32 32 rfl (w.alloc (.cells #[] 38)) (by omega))
  have q0 : (w.alloc (.cells #[] 38)).ownsRow w.heap.size 38 2 (.slice (some ⟨w.heap.size, 0, none⟩) 0 0) 0 (([] : List (Int × Int)).flatMap mcells) := by
    simpa using World.ownsRow_lit (size := 2) (e := 38) (base := w.heap.size) w #[] 0 (Nat.le_refl _) (by unfold maxLen; omega) rfl
  have b1 := below_alloc w (.cells #[] 38)
  have hz1' : (w.alloc (.cells #[] 38)).heap.size = w.heap.size + 1 := by simp
  go_enter Tryd.func5, Tryd.ntmps5
  go_wp2_with fail
  refine hS.out.mono ?_
  rintro e W ⟨A0, n, cn, ps, rfl, hrow, hpl, bW⟩
  rw [hz1'] at bW hrow
  have hnl : ps.length = n := by simpa using hrow.out.1
  have hnb : n ≤ 1048577 := by
    rw [← hnl, ← List.length_map (f := fun p : ByteArray => p.data.toList), hpl.out]
    have := pieces_count (x := 32) s.data.toList
    rw [list_len] at this
    omega
  have hn0 : 0 < n := by
    rcases Nat.eq_zero_or_pos n with h0 | h0
    · have e : ps = [] := List.eq_nil_of_length_eq_zero (by omega)
      have h2 := hpl.out
      rw [e] at h2
      exact absurd h2.symm (piecesF_ne _ _)
    · exact h0
  have hcp := row_cap hrow.out
  obtain ⟨hcp1, hcp2⟩ := hcp
  obtain ⟨g, rfl, hgz, hgb, hcells⟩ := row_get hrow.out hn0
  have q1 : W.ownsRow w.heap.size 38 2 (.slice (some ⟨w.heap.size, 0, none⟩) 0 0) 0 (([] : List (Int × Int)).flatMap mcells) := owns_same q0 fun ad e => by
    injection e with e
    subst e
    exact bW.block _ (Nat.lt_succ_self _)
  have b2 : Below w.heap.size w W := b1.trans (bW.mono (by omega))
  have hgw : w.heap.size < g := by omega
  have hne0 : ∀ ad, some (⟨w.heap.size, 0, none⟩ : Addr) = some ad → ad.block ≠ g := fun ad e => by injection e with e; subst e; exact Nat.ne_of_lt hgw
  clear hrow hgb hz1' q0 b1 hS bW
  go_wp2_with fail
  go_loopw [4, 6, 7, 8] (fun v iv _ _ wr => ∃ (k : Nat) (A : Option Addr) (c : Nat) (ms : List (Int × Int)), k ≤ n ∧ iv = .int .i64 k ∧ v = .slice A k c ∧ Hid (wr.ownsRow w.heap.size 38 2 (.slice A k c) k (ms.flatMap mcells)) ∧ Hid (∀ ad, A = some ad → ad.block ≠ g) ∧ Hid (∀ j p, ps[j]? = some p → wr.cell? ⟨g, j, none⟩ = some (.string p)) ∧ g < wr.heap.size ∧ Hid (wordsF (piecesF 32 s.data.toList) = preM ms (wordsF ((ps.map (·.data.toList)).drop k))) ∧ Hid (∀ m ∈ ms, R64 m.1 ∧ R64 m.2) ∧ Hid (Below w.heap.size w wr))
    (fun _ iv _ _ _ => n - (intOf iv).toNat)
  case atStart => exact ⟨0, _, _, [], by omega, rfl, rfl, q1, hne0, hcells, hgz, by show _ = _; rw [List.drop_zero, hpl.out]; cases wordsF (piecesF 32 s.data.toList) <;> simp [preM], (fun m hm => absurd hm (by simp) : ∀ m ∈ ([] : List (Int × Int)), R64 m.1 ∧ R64 m.2), b2⟩
  case round =>
    clear q1 hne0 hcells hgz b2
    obtain ⟨k, A, c, ms, hk, rfl, rfl, hown, hne, hcell, hgl, hws, hrg, hb⟩ := hrel
    have hsz := hb.out.size
    by_cases hlt : k < n
    · obtain ⟨p, hp⟩ : ∃ p, ps[k]? = some p := ⟨_, List.getElem?_eq_getElem (by omega)⟩
      have hck := hcell.out k p hp
      have hd := hide (drop_map hp)
      have hlt' : (k : Int) < n := by omega
      have hps1 : p.size ≤ 1048576 := by
        have hz := mem_pieces (x := 32) (by rw [← hpl.out]; exact List.mem_map.2 ⟨p, List.mem_of_getElem? hp, rfl⟩ : p.data.toList ∈ piecesF 32 s.data.toList)
        rw [list_len, list_len] at hz
        omega
      have HB := hb.out
      by_cases h0 : p.size = 0
      · have hF := hide (parSch_none (preM_none hws.out hd.out (word_empty h0)))
        clear hd hp hown hne hcell hws hrg hb
        go_wp2_with fail
        refine bodyPost_ret (results_tmp2 rfl _ _ _) rfl ⟨_, _, _, by rw [hF.out]; rfl, by rw [hF.out]; exact own_nilM _ _ _, HB⟩
      · have hp0 : 0 < p.size := by omega
        have hp0' : (0 : Int) < p.size := by omega
        have hp1' : (1 : Int) ≤ p.size := by omega
        have hz0' : ((p.size : Int) == 0) = false := by simpa using h0
        obtain ⟨c0, hc0⟩ : ∃ c, p[0]'hp0 = c := ⟨_, rfl⟩
        have hIn := hide (spec_l1In (c0.toNat : Int) 97 98 wr)
        by_cases hl : c0 = 97 ∨ c0 = 98
        · have hw := word_par hp0 hc0 hl
          have hN := hide (fun v : World => spec_ParseNumber (p.extract 1 p.size) v (Nat.le_trans (ext_size p) hps1))
          have hbd := parF_bd (s := p.extract 1 p.size)
          obtain ⟨v, ok, hv⟩ : ∃ v ok, parF (p.extract 1 p.size) = (v, ok) := ⟨_, _, rfl⟩
          rw [hv] at hw hbd
          simp only [hv] at hN
          obtain ⟨hv0, hv1⟩ : 0 ≤ v ∧ v < 1000000271 := hbd
          cases ok with
          | false =>
            have hF := hide (parSch_none (preM_none hws.out hd.out hw))
            clear hd hp hown hne hcell hws hrg hb hw hv
            rcases hl with hl | hl
            all_goals
              subst hl
              go_wp2_with fail
              refine hIn.out.mono ?_
              rintro e w' ⟨rfl, rfl⟩
              go_wp2_with fail
              refine (hN.out _).mono ?_
              rintro e w' ⟨rfl, bF⟩
              have HB2 := HB.trans (bF.mono HB.size)
              go_wp2_with fail
              refine bodyPost_ret (results_tmp2 rfl _ _ _) rfl ⟨_, _, _, by rw [hF.out]; rfl, by rw [hF.out]; exact own_nilM _ _ _, HB2⟩
          | true =>
            rcases hl with hl | hl
            · subst hl
              have hws2 : Hid (wordsF (piecesF 32 s.data.toList) = preM (ms ++ [(0, v)]) (wordsF ((ps.map (·.data.toList)).drop (k + 1)))) := preM_step hws.out hd.out hw
              clear hd hw hv
              go_wp2_with fail
              refine hIn.out.mono ?_
              rintro e w' ⟨rfl, rfl⟩
              go_wp2_with fail
              refine (hN.out _).mono ?_
              rintro e w2 ⟨rfl, bF⟩
              have HB2 := HB.trans (bF.mono HB.size)
              have own2 : w2.ownsRow w.heap.size 38 2 (.slice A k c) k (ms.flatMap mcells) := owns_same hown.out fun ad e => bF.block _ (owns_lt hown.out ad e).2
              have cell2 : ∀ j p, ps[j]? = some p → w2.cell? ⟨g, j, none⟩ = some (.string p) := fun j p hp => (bF.cell (p := ⟨g, j, none⟩) hgl).trans (hcell.out j p hp)
              have hck2 := cell2 k p hp
              have hsz2 : w.heap.size ≤ w2.heap.size := Nat.le_trans hsz bF.size
              have hgl2 : g < w2.heap.size := Nat.lt_of_lt_of_le hgl bF.size
              have CE := hide cell2
              clear cell2 hck hp
              go_wp2_with (at_builtin; refine wpl_app1 rfl (.tmp 45) (.tmp 55) 22 rfl w.heap.size 38 i0 (.agg #[.int .i64 0, .int .i64 0]) 2 16 Tryd.underlying22 hi0 hz0 hz1 hz2 rfl (by omega) _ #[.int .i64 0, .int .i64 v] A k c 1 _ rfl rfl own2 rfl (by simp [Value.oneCell']) (by omega) (by omega) hsz2 ?_; intro A2 c2 w4 happ hlt2)
              have hL : Hid (w4.ownsRow w.heap.size 38 2 (.slice A2 (k + 1) c2) (k + 1) ((ms ++ [(0, v)]).flatMap mcells)) := by
                show World.ownsRow _ _ _ _ _ _ _
                rw [List.flatMap_append]
                simpa [mcells] using happ.1
              have HB : Hid (Below w.heap.size w w4) := happ.below HB2 hsz2 (fun ad e => (owns_lt own2 ad e).1)
              have hne2 : Hid (∀ ad, A2 = some ad → ad.block ≠ g) := fun ad e => by
                rcases happ.2.2 with h3 | h3
                · exact hne.out ad (h3 ad e)
                · have := h3 ad e; omega
              have hc2 : Hid (∀ j p, ps[j]? = some p → w4.cell? ⟨g, j, none⟩ = some (.string p)) := fun j p hp => (World.cell?_of_block (happ.2.1.block g hgl2 (own_ne (n := k) (c := c) hne.out))).trans (CE.out j p hp)
              have hg2 : g < w4.heap.size := by have := happ.2.1.size; omega
              have hrg2 : Hid (∀ m ∈ ms ++ [((0 : Int), v)], R64 m.1 ∧ R64 m.2) := fun m hm => by
                rcases List.mem_append.1 hm with hm | hm
                · exact hrg.out m hm
                · rw [List.mem_singleton.1 hm]
                  exact ⟨⟨by omega, by omega⟩, ⟨by omega, by omega⟩⟩
              clear happ hown hne hcell hws hrg hb own2 CE HB2
              go_wp2_with fail
              go_roundw
              case rel => exact ⟨k + 1, A2, c2, _, by omega, by go_num, rfl, hL, hne2, hc2, hg2, hws2, hrg2, HB⟩
              case measure => simp [intOf]; omega
            · subst hl
              have hws2 : Hid (wordsF (piecesF 32 s.data.toList) = preM (ms ++ [(1, v)]) (wordsF ((ps.map (·.data.toList)).drop (k + 1)))) := preM_step hws.out hd.out hw
              clear hd hw hv
              go_wp2_with fail
              refine hIn.out.mono ?_
              rintro e w' ⟨rfl, rfl⟩
              go_wp2_with fail
              refine (hN.out _).mono ?_
              rintro e w2 ⟨rfl, bF⟩
              have HB2 := HB.trans (bF.mono HB.size)
              have own2 : w2.ownsRow w.heap.size 38 2 (.slice A k c) k (ms.flatMap mcells) := owns_same hown.out fun ad e => bF.block _ (owns_lt hown.out ad e).2
              have cell2 : ∀ j p, ps[j]? = some p → w2.cell? ⟨g, j, none⟩ = some (.string p) := fun j p hp => (bF.cell (p := ⟨g, j, none⟩) hgl).trans (hcell.out j p hp)
              have hck2 := cell2 k p hp
              have hsz2 : w.heap.size ≤ w2.heap.size := Nat.le_trans hsz bF.size
              have hgl2 : g < w2.heap.size := Nat.lt_of_lt_of_le hgl bF.size
              have CE := hide cell2
              clear cell2 hck hp
              go_wp2_with (at_builtin; refine wpl_app1 rfl (.tmp 45) (.tmp 55) 22 rfl w.heap.size 38 i0 (.agg #[.int .i64 0, .int .i64 0]) 2 16 Tryd.underlying22 hi0 hz0 hz1 hz2 rfl (by omega) _ #[.int .i64 1, .int .i64 v] A k c 1 _ rfl rfl own2 rfl (by simp [Value.oneCell']) (by omega) (by omega) hsz2 ?_; intro A2 c2 w4 happ hlt2)
              have hL : Hid (w4.ownsRow w.heap.size 38 2 (.slice A2 (k + 1) c2) (k + 1) ((ms ++ [(1, v)]).flatMap mcells)) := by
                show World.ownsRow _ _ _ _ _ _ _
                rw [List.flatMap_append]
                simpa [mcells] using happ.1
              have HB : Hid (Below w.heap.size w w4) := happ.below HB2 hsz2 (fun ad e => (owns_lt own2 ad e).1)
              have hne2 : Hid (∀ ad, A2 = some ad → ad.block ≠ g) := fun ad e => by
                rcases happ.2.2 with h3 | h3
                · exact hne.out ad (h3 ad e)
                · have := h3 ad e; omega
              have hc2 : Hid (∀ j p, ps[j]? = some p → w4.cell? ⟨g, j, none⟩ = some (.string p)) := fun j p hp => (World.cell?_of_block (happ.2.1.block g hgl2 (own_ne (n := k) (c := c) hne.out))).trans (CE.out j p hp)
              have hg2 : g < w4.heap.size := by have := happ.2.1.size; omega
              have hrg2 : Hid (∀ m ∈ ms ++ [((1 : Int), v)], R64 m.1 ∧ R64 m.2) := fun m hm => by
                rcases List.mem_append.1 hm with hm | hm
                · exact hrg.out m hm
                · rw [List.mem_singleton.1 hm]
                  exact ⟨⟨by omega, by omega⟩, ⟨by omega, by omega⟩⟩
              clear happ hown hne hcell hws hrg hb own2 CE HB2
              go_wp2_with fail
              go_roundw
              case rel => exact ⟨k + 1, A2, c2, _, by omega, by go_num, rfl, hL, hne2, hc2, hg2, hws2, hrg2, HB⟩
              case measure => simp [intOf]; omega
        · have hF := hide (parSch_none (preM_none hws.out hd.out (word_bad hp0 hc0 (fun e => hl (.inl e)) (fun e => hl (.inr e)))))
          have hx : (decide ((97 : Int) ≤ (c0.toNat : Int)) && decide ((c0.toNat : Int) ≤ 98)) = false := by
            have h1 : c0.toNat ≠ 97 := fun e => hl (.inl (UInt8.toNat_inj.1 e))
            have h2 : c0.toNat ≠ 98 := fun e => hl (.inr (UInt8.toNat_inj.1 e))
            simp
            omega
          rw [hx] at hIn
          have hcb : (c0.toNat : Int) < 256 := by have := c0.toNat_lt; omega
          clear hd hp hown hne hcell hws hrg hb hl hx
          go_wp2_with fail
          refine hIn.out.mono ?_
          rintro e w' ⟨rfl, rfl⟩
          go_wp2_with fail
          refine bodyPost_ret (results_tmp2 rfl _ _ _) rfl ⟨_, _, _, by rw [hF.out]; rfl, by rw [hF.out]; exact own_nilM _ _ _, HB⟩
    · obtain rfl : k = n := by omega
      have hW := preM_end hws.out (List.drop_of_length_le (by rw [List.length_map]; omega))
      have hG := parSch_some hW
      have om : OwnM wr w.heap.size wr.heap.size A k c ms := ⟨hown.out, fun ad e => (owns_lt hown.out ad e).2, hrg.out⟩
      have hOk := hide (spec_SchemeOk A k c ms w.heap.size wr.heap.size wr om.moves)
      have HB := hb.out
      cases hv : schemeOkF ms with
      | false =>
        have hF : Hid (parSchF s = ([], false)) := hG.trans (if_neg (by rw [hv]; simp))
        rw [hv] at hOk
        clear hv hW hG hown hne hcell hws hrg hb om
        go_wp2_with fail
        refine hOk.out.mono ?_
        rintro e w9 ⟨rfl, rfl⟩
        go_wp2_with fail
        refine bodyPost_ret (results_tmp2 rfl _ _ _) rfl ⟨_, _, _, by rw [hF.out]; rfl, by rw [hF.out]; exact own_nilM _ _ _, HB⟩
      | true =>
        have hF : Hid (parSchF s = (ms, true)) := hG.trans (if_pos hv)
        rw [hv] at hOk
        have OM := hide om
        clear hv hW hG hown hne hcell hws hrg hb om
        go_wp2_with fail
        refine hOk.out.mono ?_
        rintro e w9 ⟨rfl, rfl⟩
        go_wp2_with fail
        refine bodyPost_ret (results_tmp2 rfl _ _ _) rfl ⟨_, _, _, by rw [hF.out]; rfl, by rw [hF.out]; exact OM.out, HB⟩
end Go.Proofs.YtppekbokaknocaaDoor
