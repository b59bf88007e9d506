/- Reading a scheme: the walks of the program's and of the reference's text. -/
import Derived.Test.YtppekbokaknocaaDoorParS
import Derived.Test.YtppekbokaknocaaDoorTxtM
namespace Go.Proofs.YtppekbokaknocaaDoor
open Go.RowKit
set_option linter.unusedSimpArgs false
set_option linter.unusedVariables false
set_option maxRecDepth 20000

def preM (ms : List (Int × Int)) (o : Option (List (Int × Int))) : Option (List (Int × Int)) := o.map (ms ++ ·)
theorem preM_step {L : List (List UInt8)} {k : Nat} {x : List UInt8} {ms : List (Int × Int)} {m : Int × Int} {W : Option (List (Int × Int))} (h : W = preM ms (wordsF (L.drop k))) (hd : L.drop k = x :: L.drop (k + 1)) (hm : wordF x = some m) : W = preM (ms ++ [m]) (wordsF (L.drop (k + 1))) := by
  rw [h, hd, wordsF, hm]
  cases wordsF (L.drop (k + 1)) with
  | none => rfl
  | some l => simp [preM]
theorem preM_none {L : List (List UInt8)} {k : Nat} {x : List UInt8} {ms : List (Int × Int)} {W : Option (List (Int × Int))} (h : W = preM ms (wordsF (L.drop k))) (hd : L.drop k = x :: L.drop (k + 1)) (hm : wordF x = none) : W = none := by
  rw [h, hd, wordsF, hm]; rfl
theorem preM_end {L : List (List UInt8)} {k : Nat} {ms : List (Int × Int)} {W : Option (List (Int × Int))} (h : W = preM ms (wordsF (L.drop k))) (hd : L.drop k = []) : W = some ms := by
  rw [h, hd, wordsF]; simp [preM]
theorem parSch_none {s : ByteArray} (h : wordsF (piecesF 32 s.data.toList) = none) : parSchF s = ([], false) := by unfold parSchF; rw [h]
theorem parSch_some {s : ByteArray} {ms : List (Int × Int)} (h : wordsF (piecesF 32 s.data.toList) = some ms) : parSchF s = if schemeOkF ms = true then (ms, true) else ([], false) := by unfold parSchF; rw [h]
theorem word_empty {p : ByteArray} (h : p.size = 0) : wordF p.data.toList = none := by
  rw [show p.data.toList = [] from List.eq_nil_of_length_eq_zero (by rw [list_len]; exact h)]; rfl
theorem word_cons {p : ByteArray} (h : 0 < p.size) {c : UInt8} (hc : p[0] = c) : p.data.toList = c :: (p.extract 1 p.size).data.toList := by
  have := drop_at h
  rw [List.drop_zero, hc] at this
  rw [ext_one, this]
  rfl
theorem word_bad {p : ByteArray} (h : 0 < p.size) {c : UInt8} (hc : p[0] = c) (h1 : c ≠ 97) (h2 : c ≠ 98) : wordF p.data.toList = none := by
  rw [word_cons h hc, wordF]
  rw [if_neg]
  rintro (e | e)
  · exact h1 (UInt8.toNat_inj.1 e)
  · exact h2 (UInt8.toNat_inj.1 e)
theorem word_par {p : ByteArray} (h : 0 < p.size) {c : UInt8} (hc : p[0] = c) (h1 : c = 97 ∨ c = 98) : wordF p.data.toList = if (parF (p.extract 1 p.size)).2 = true then some ((c.toNat : Int) - 97, (parF (p.extract 1 p.size)).1) else none := by
  rw [word_cons h hc, wordF]
  have e : (⟨(p.extract 1 p.size).data.toList.toArray⟩ : ByteArray) = p.extract 1 p.size := bytes_ext (by simp)
  rw [if_pos (by rcases h1 with rfl | rfl; exact .inl rfl; exact .inr rfl), e]
theorem own_nilM (w : World) (lo hi : Nat) : OwnM w lo hi none 0 0 [] := ⟨World.ownsRow_nil _ _ _ _, by simp, by simp⟩
theorem drop_map {ps : List ByteArray} {k : Nat} {p : ByteArray} (h : ps[k]? = some p) : (ps.map (·.data.toList)).drop k = p.data.toList :: (ps.map (·.data.toList)).drop (k + 1) := by
  have hl := (List.getElem?_eq_some_iff.1 h).1
  rw [List.drop_eq_getElem_cons (by simpa using hl), List.getElem_map, (List.getElem?_eq_some_iff.1 h).2]
theorem ext_size (p : ByteArray) : (p.extract 1 p.size).size ≤ p.size := by
  rw [← list_len, ext_one, List.length_drop, list_len]; omega
theorem OwnM.wide' {w : World} {lo hi hi' : Nat} {A : Option Addr} {n c : Nat} {ms : List (Int × Int)} (h : OwnM w lo hi A n c ms) (h2 : hi ≤ hi') : OwnM w lo hi' A n c ms := ⟨h.own, fun ad e => Nat.lt_of_lt_of_le (h.lt ad e) h2, h.rng⟩
theorem pieces_count {x : UInt8} : ∀ L : List UInt8, (piecesF x L).length ≤ L.length + 1
  | [] => by simp [piecesF]
  | c :: r => by
    have ih := pieces_count (x := x) r
    rw [piecesF]
    split
    · simp only [List.length_cons]; omega
    · split
      · rename_i p q e
        rw [e] at ih
        simp only [List.length_cons] at ih ⊢
        omega
      · simp

set_option maxRecDepth 100000 in
set_option maxHeartbeats 4000000 in
theorem impl_ParseScheme (s : ByteArray) (mx : Int) (w : World) (hs : s.size ≤ 1048576) (hm : w.cell? ⟨0, 0, none⟩ = some (.int .i64 mx)) :
    Calls Tryd.prog 6 #[.string s] w fun e w' => ∃ A n c, e = .returned (.tuple #[.slice A n c, .bool (parSchF s).2]) ∧ OwnM w' w.heap.size w'.heap.size A n c (parSchF s).1 ∧ Below w.heap.size w w' := by
  obtain ⟨i0, hi0, hz0, hz1, hz2⟩ := info_parts info_move
  have hm0 := World.block_lt_of_cell? w _ hm
  have hm1 : (w.alloc (.cells #[] 38)).cell? ⟨0, 0, none⟩ = some (.int .i64 mx) := ((below_alloc w (.cells #[] 38)).cell hm0).trans hm
  have HM : Hid (∀ v : World, Below w.heap.size w v → v.cell? ⟨0, 0, none⟩ = some (.int .i64 mx)) := fun v hv => (hv.cell hm0).trans hm
  obtain ⟨ps, hps⟩ : ∃ ps, ps = Lib.splitB ⟨#[32]⟩ 0 (Lib.countB s ⟨#[32]⟩) s := ⟨_, rfl⟩
  obtain ⟨n, hn⟩ : ∃ n, n = Lib.countB s ⟨#[32]⟩ + 1 := ⟨_, rfl⟩
  have hpl : Hid (ps.map (·.data.toList) = piecesF 32 s.data.toList) := by show _ = _; rw [hps]; exact split_pieces 32 s
  have hnl : ps.length = n := by
    have h1 := split_count 32 s
    have h2 := congrArg List.length hpl.out
    rw [List.length_map] at h2
    omega
  have hnb : n ≤ 1048577 := by
    rw [← hnl, ← List.length_map (f := fun p : ByteArray => p.data.toList), hpl.out]
    have := pieces_count (x := 32) s.data.toList
    rw [list_len] at this
    omega
  have hS := hide (sh_strings_Split s ⟨#[32]⟩ mx (w.alloc (.cells #[] 38)) (by omega) hm1 (Nat.le_refl _))
  rw [← hps, ← hn] at hS
  have q0 : (w.alloc (.cells #[] 38)).ownsRow w.heap.size 38 2 (.slice (some ⟨w.heap.size, 0, none⟩) 0 0) 0 (([] : List (Int × Int)).flatMap mcells) := by
    simpa using World.ownsRow_lit (size := 2) (e := 38) (base := w.heap.size) w #[] 0 (Nat.le_refl _) (by unfold maxLen; omega) rfl
  have q1 := q0.alloc (.cells (ps.map Value.string).toArray 9)
  have b1 := below_alloc w (.cells #[] 38)
  have b2 := b1.trans ((below_alloc (w.alloc (.cells #[] 38)) (.cells (ps.map Value.string).toArray 9)).mono b1.size)
  have hcells : ∀ j p, ps[j]? = some p → ((w.alloc (.cells #[] 38)).alloc (.cells (ps.map Value.string).toArray 9)).cell? ⟨w.heap.size + 1, j, none⟩ = some (.string p) := fun j p hp => by
    have hz : (w.alloc (.cells #[] 38)).heap.size = w.heap.size + 1 := by simp
    rw [← hz, cell_of_row _ _ _ (ps.map Value.string).toArray 9 (0, 0) (heap_alloc_new _ _)]
    simpa using hp
  have hgz : w.heap.size + 1 < ((w.alloc (.cells #[] 38)).alloc (.cells (ps.map Value.string).toArray 9)).heap.size := by simp
  have hz1' : (w.alloc (.cells #[] 38)).heap.size = w.heap.size + 1 := by simp
  have hne0 : ∀ ad, some (⟨w.heap.size, 0, none⟩ : Addr) = some ad → ad.block ≠ w.heap.size + 1 := fun ad e => by injection e with e; subst e; exact Nat.ne_of_lt (Nat.lt_succ_self _)
  clear hm hm1 hps hn
  rw [hz1'] at hS
  go_enter Tryd.func6, Tryd.ntmps6
  go_wp2_with fail
  refine hS.out.mono ?_
  rintro e w1 ⟨rfl, rfl⟩
  go_wp2_with fail
  generalize ((w.alloc (.cells #[] 38)).alloc (.cells (ps.map Value.string).toArray 9)) = W at q1 b2 hcells hgz ⊢
  obtain ⟨g, hg⟩ : ∃ g, g = w.heap.size + 1 := ⟨_, rfl⟩
  rw [← hg] at hcells hgz hne0 ⊢
  have hgw : w.heap.size < g := by omega
  clear hg hz1' q0 b1 hS
  go_loopw [4, 6, 7, 8, 13] (fun v _ _ _ iv wr => ∃ (k : Nat) (A : Option Addr) (c : Nat) (ms : List (Int × Int)), k ≤ n ∧ iv = .int .i64 k ∧ v = .slice A k c ∧ Hid (wr.ownsRow w.heap.size 38 2 (.slice A k c) k (ms.flatMap mcells)) ∧ Hid (∀ ad, A = some ad → ad.block ≠ g) ∧ Hid (∀ j p, ps[j]? = some p → wr.cell? ⟨g, j, none⟩ = some (.string p)) ∧ g < wr.heap.size ∧ Hid (wordsF (piecesF 32 s.data.toList) = preM ms (wordsF ((ps.map (·.data.toList)).drop k))) ∧ Hid (∀ m ∈ ms, R64 m.1 ∧ R64 m.2) ∧ Hid (Below w.heap.size w wr))
    (fun _ _ _ _ iv _ => n - (intOf iv).toNat)
  case atStart => exact ⟨0, _, _, [], by omega, rfl, rfl, q1, hne0, hcells, hgz, by show _ = _; rw [List.drop_zero, hpl.out]; cases wordsF (piecesF 32 s.data.toList) <;> simp [preM], (fun m hm => absurd hm (by simp) : ∀ m ∈ ([] : List (Int × Int)), R64 m.1 ∧ R64 m.2), b2⟩
  case round =>
    clear q1 hne0 hcells hgz b2
    obtain ⟨k, A, c, ms, hk, rfl, rfl, hown, hne, hcell, hgl, hws, hrg, hb⟩ := hrel
    have hsz := hb.out.size
    by_cases hlt : k < n
    · obtain ⟨p, hp⟩ : ∃ p, ps[k]? = some p := ⟨_, List.getElem?_eq_getElem (by omega)⟩
      have hck := hcell.out k p hp
      have hd := hide (drop_map hp)
      have hlt' : (k : Int) < n := by omega
      have hps1 : p.size ≤ 1048576 := by
        have hz := mem_pieces (x := 32) (by rw [← hpl.out]; exact List.mem_map.2 ⟨p, List.mem_of_getElem? hp, rfl⟩ : p.data.toList ∈ piecesF 32 s.data.toList)
        rw [list_len, list_len] at hz
        omega
      have HB := hb.out
      by_cases h0 : p.size = 0
      · have hF := hide (parSch_none (preM_none hws.out hd.out (word_empty h0)))
        have he : p = ByteArray.empty := bytes_ext (List.eq_nil_of_length_eq_zero (by rw [list_len]; exact h0))
        have hnil : (p.toList == []) = true := by rw [he, ByteArray.toList_eq]; rfl
        clear he hd hp hown hne hcell hws hrg hb
        go_wp2_with fail
        refine bodyPost_ret (results_tmp2 rfl _ _ _) rfl ⟨_, _, _, by rw [hF.out]; rfl, by rw [hF.out]; exact own_nilM _ _ _, HB⟩
      · have hp0 : 0 < p.size := by omega
        have hp0' : (0 : Int) < p.size := by omega
        have hp1' : (1 : Int) ≤ p.size := by omega
        have hnil : (p.toList == []) = false := by
          rw [ByteArray.toList_eq]
          cases e : p.data.toList with
          | nil => exact absurd (by rw [← list_len, e]; rfl) h0
          | cons c r => rfl
        obtain ⟨c0, hc0⟩ : ∃ c, p[0]'hp0 = c := ⟨_, rfl⟩
        by_cases hl : c0 = 97 ∨ c0 = 98
        · have hw := word_par hp0 hc0 hl
          have hN := hide (impl_ParseNumber (p.extract 1 p.size) mx wr (Nat.le_trans (ext_size p) hps1) (HM.out wr HB))
          have hbd := parF_bd (s := p.extract 1 p.size)
          obtain ⟨v, ok, hv⟩ : ∃ v ok, parF (p.extract 1 p.size) = (v, ok) := ⟨_, _, rfl⟩
          rw [hv] at hw hN hbd
          obtain ⟨hv0, hv1⟩ : 0 ≤ v ∧ v < 1000000271 := hbd
          cases ok with
          | false =>
            have hF := hide (parSch_none (preM_none hws.out hd.out hw))
            clear hd hp hown hne hcell hws hrg hb hw hv
            rcases hl with hl | hl
            all_goals
              subst hl
              go_wp2_with fail
              refine hN.out.mono ?_
              rintro e w' ⟨rfl, q, rfl⟩
              have HB2 := below_drewN HB q
              go_wp2_with fail
              refine bodyPost_ret (results_tmp2 rfl _ _ _) rfl ⟨_, _, _, by rw [hF.out]; rfl, by rw [hF.out]; exact own_nilM _ _ _, HB2⟩
          | true =>
            rcases hl with hl | hl
            · subst hl
              have hws2 : Hid (wordsF (piecesF 32 s.data.toList) = preM (ms ++ [(0, v)]) (wordsF ((ps.map (·.data.toList)).drop (k + 1)))) := preM_step hws.out hd.out hw
              clear hd hp hw hv
              go_wp2_with fail
              refine hN.out.mono ?_
              rintro e w' ⟨rfl, q, rfl⟩
              have HB2 := below_drewN HB q
              have own2 : (wr.drewN q).ownsRow w.heap.size 38 2 (.slice A k c) k (ms.flatMap mcells) := owns_same hown.out fun _ _ => rfl
              have cell2 : ∀ j p, ps[j]? = some p → (wr.drewN q).cell? ⟨g, j, none⟩ = some (.string p) := hcell.out
              have hsz2 : w.heap.size ≤ (wr.drewN q).heap.size := hsz
              have hgl2 : g < (wr.drewN q).heap.size := hgl
              go_wp2_with (at_builtin; refine wpl_app1 rfl (.tmp 37) (.tmp 44) 22 rfl w.heap.size 38 i0 (.agg #[.int .i64 0, .int .i64 0]) 2 16 Tryd.underlying22 hi0 hz0 hz1 hz2 rfl (by omega) _ #[.int .i64 0, .int .i64 v] A k c 1 _ rfl rfl own2 rfl (by simp [Value.oneCell']) (by omega) (by omega) hsz2 ?_; intro A2 c2 w4 happ hlt2)
              have hL : Hid (w4.ownsRow w.heap.size 38 2 (.slice A2 (k + 1) c2) (k + 1) ((ms ++ [(0, v)]).flatMap mcells)) := by
                show World.ownsRow _ _ _ _ _ _ _
                rw [List.flatMap_append]
                simpa [mcells] using happ.1
              have HB : Hid (Below w.heap.size w w4) := happ.below HB2 hsz2 (fun ad e => (owns_lt own2 ad e).1)
              have hne2 : Hid (∀ ad, A2 = some ad → ad.block ≠ g) := fun ad e => by
                rcases happ.2.2 with h3 | h3
                · exact hne.out ad (h3 ad e)
                · have := h3 ad e; omega
              have hc2 : Hid (∀ j p, ps[j]? = some p → w4.cell? ⟨g, j, none⟩ = some (.string p)) := fun j p hp => (World.cell?_of_block (happ.2.1.block g hgl2 (own_ne (n := k) (c := c) hne.out))).trans (cell2 j p hp)
              have hg2 : g < w4.heap.size := by have := happ.2.1.size; omega
              have hrg2 : Hid (∀ m ∈ ms ++ [((0 : Int), v)], R64 m.1 ∧ R64 m.2) := fun m hm => by
                rcases List.mem_append.1 hm with hm | hm
                · exact hrg.out m hm
                · rw [List.mem_singleton.1 hm]
                  exact ⟨⟨by omega, by omega⟩, ⟨by omega, by omega⟩⟩
              clear happ hown hne hcell hws hrg hb own2 cell2 HB2
              go_wp2_with fail
              go_roundw
              case rel => exact ⟨k + 1, A2, c2, _, by omega, by go_num, rfl, hL, hne2, hc2, hg2, hws2, hrg2, HB⟩
              case measure => simp [intOf]; omega
            · subst hl
              have hws2 : Hid (wordsF (piecesF 32 s.data.toList) = preM (ms ++ [(1, v)]) (wordsF ((ps.map (·.data.toList)).drop (k + 1)))) := preM_step hws.out hd.out hw
              clear hd hp hw hv
              go_wp2_with fail
              refine hN.out.mono ?_
              rintro e w' ⟨rfl, q, rfl⟩
              have HB2 := below_drewN HB q
              have own2 : (wr.drewN q).ownsRow w.heap.size 38 2 (.slice A k c) k (ms.flatMap mcells) := owns_same hown.out fun _ _ => rfl
              have cell2 : ∀ j p, ps[j]? = some p → (wr.drewN q).cell? ⟨g, j, none⟩ = some (.string p) := hcell.out
              have hsz2 : w.heap.size ≤ (wr.drewN q).heap.size := hsz
              have hgl2 : g < (wr.drewN q).heap.size := hgl
              go_wp2_with (at_builtin; refine wpl_app1 rfl (.tmp 37) (.tmp 44) 22 rfl w.heap.size 38 i0 (.agg #[.int .i64 0, .int .i64 0]) 2 16 Tryd.underlying22 hi0 hz0 hz1 hz2 rfl (by omega) _ #[.int .i64 1, .int .i64 v] A k c 1 _ rfl rfl own2 rfl (by simp [Value.oneCell']) (by omega) (by omega) hsz2 ?_; intro A2 c2 w4 happ hlt2)
              have hL : Hid (w4.ownsRow w.heap.size 38 2 (.slice A2 (k + 1) c2) (k + 1) ((ms ++ [(1, v)]).flatMap mcells)) := by
                show World.ownsRow _ _ _ _ _ _ _
                rw [List.flatMap_append]
                simpa [mcells] using happ.1
              have HB : Hid (Below w.heap.size w w4) := happ.below HB2 hsz2 (fun ad e => (owns_lt own2 ad e).1)
              have hne2 : Hid (∀ ad, A2 = some ad → ad.block ≠ g) := fun ad e => by
                rcases happ.2.2 with h3 | h3
                · exact hne.out ad (h3 ad e)
                · have := h3 ad e; omega
              have hc2 : Hid (∀ j p, ps[j]? = some p → w4.cell? ⟨g, j, none⟩ = some (.string p)) := fun j p hp => (World.cell?_of_block (happ.2.1.block g hgl2 (own_ne (n := k) (c := c) hne.out))).trans (cell2 j p hp)
              have hg2 : g < w4.heap.size := by have := happ.2.1.size; omega
              have hrg2 : Hid (∀ m ∈ ms ++ [((1 : Int), v)], R64 m.1 ∧ R64 m.2) := fun m hm => by
                rcases List.mem_append.1 hm with hm | hm
                · exact hrg.out m hm
                · rw [List.mem_singleton.1 hm]
                  exact ⟨⟨by omega, by omega⟩, ⟨by omega, by omega⟩⟩
              clear happ hown hne hcell hws hrg hb own2 cell2 HB2
              go_wp2_with fail
              go_roundw
              case rel => exact ⟨k + 1, A2, c2, _, by omega, by go_num, rfl, hL, hne2, hc2, hg2, hws2, hrg2, HB⟩
              case measure => simp [intOf]; omega
        · have hF := hide (parSch_none (preM_none hws.out hd.out (word_bad hp0 hc0 (fun e => hl (.inl e)) (fun e => hl (.inr e)))))
          have hx1 : ((c0.toNat : Int) == 97) = false := by
            simp only [beq_eq_false_iff_ne, ne_eq]
            intro e
            exact hl (.inl (UInt8.toNat_inj.1 (by show c0.toNat = 97; omega)))
          have hx2 : ((c0.toNat : Int) == 98) = false := by
            simp only [beq_eq_false_iff_ne, ne_eq]
            intro e
            exact hl (.inr (UInt8.toNat_inj.1 (by show c0.toNat = 98; omega)))
          have hx1' : ((c0.toNat : Int) != 97) = true := by simp only [bne, hx1, Bool.not_false]
          have hx2' : ((c0.toNat : Int) != 98) = true := by simp only [bne, hx2, Bool.not_false]
          clear hd hp hown hne hcell hws hrg hb hl
          go_wp2_with fail
          refine bodyPost_ret (results_tmp2 rfl _ _ _) rfl ⟨_, _, _, by rw [hF.out]; rfl, by rw [hF.out]; exact own_nilM _ _ _, HB⟩
    · obtain rfl : k = n := by omega
      have hW := preM_end hws.out (List.drop_of_length_le (by rw [List.length_map]; omega))
      have hG := parSch_some hW
      have om : OwnM wr w.heap.size wr.heap.size A k c ms := ⟨hown.out, fun ad e => (owns_lt hown.out ad e).2, hrg.out⟩
      have hOk := hide (impl_SchemeOk A k c ms w.heap.size wr.heap.size wr om.moves (Nat.le_refl _))
      have HB := hb.out
      cases hv : schemeOkF ms with
      | false =>
        have hF : Hid (parSchF s = ([], false)) := hG.trans (if_neg (by rw [hv]; simp))
        rw [hv] at hOk
        clear hv hW hG hown hne hcell hws hrg hb om
        go_wp2_with fail
        refine hOk.out.mono ?_
        rintro e w9 ⟨rfl, b9⟩
        go_wp2_with fail
        refine bodyPost_ret (results_tmp2 rfl _ _ _) rfl ⟨_, _, _, by rw [hF.out]; rfl, by rw [hF.out]; exact own_nilM _ _ _, HB.trans (b9.mono HB.size)⟩
      | true =>
        have hF : Hid (parSchF s = (ms, true)) := hG.trans (if_pos hv)
        rw [hv] at hOk
        have OM := hide om
        clear hv hW hG hown hne hcell hws hrg hb om
        go_wp2_with fail
        refine hOk.out.mono ?_
        rintro e w9 ⟨rfl, b9⟩
        go_wp2_with fail
        refine bodyPost_ret (results_tmp2 rfl _ _ _) rfl ⟨_, _, _, by rw [hF.out]; rfl, by rw [hF.out]; exact (OM.out.below b9 (Nat.le_refl _)).wide' b9.size, HB.trans (b9.mono HB.size)⟩
end Go.Proofs.YtppekbokaknocaaDoor
