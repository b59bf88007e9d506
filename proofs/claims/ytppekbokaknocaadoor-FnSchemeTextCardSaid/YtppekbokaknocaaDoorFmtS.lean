/- The texts of schemes: the walks. -/
import Derived.Test.YtppekbokaknocaaDoorStrS
import Derived.Test.YtppekbokaknocaaDoorTxtM
namespace Go.Proofs.YtppekbokaknocaaDoor
open Go.RowKit
set_option linter.unusedSimpArgs false
set_option linter.unusedVariables false
set_option maxRecDepth 20000

theorem fmtSch_ok {ms : List (Int × Int)} (h : schemeOkF ms = true) : fmtSchF ms = joinB ⟨#[32]⟩ (ms.map moveB) := if_pos h
theorem fmtSch_no {ms : List (Int × Int)} (h : schemeOkF ms = false) : fmtSchF ms = ⟨#[]⟩ := if_neg (by rw [h]; simp)
theorem moves_size {ms : List (Int × Int)} : ∀ x ∈ ms.map moveB, x.size ≤ 12 := by
  intro x hx
  obtain ⟨m, _, rfl⟩ := List.mem_map.1 hx
  exact moveB_size m
theorem enc_let {x : Int} (h : x = 0 ∨ x = 1) : Utf8.encode (97 + x) = letB x := by
  rcases h with rfl | rfl
  · exact encode_ascii 97 (by omega)
  · exact encode_ascii 98 (by omega)

set_option maxRecDepth 100000 in
set_option maxHeartbeats 2000000 in
theorem impl_FormatScheme (A0 : Option Addr) (n c0 : Nat) (ms : List (Int × Int)) (lo hi : Nat) (w : World) (h : Moves w lo hi A0 n c0 ms) (hh : hi ≤ w.heap.size) :
    Calls Tryd.prog 12 #[.slice A0 n c0] w fun e w' => e = .returned (.string (fmtSchF ms)) ∧ Below w.heap.size w w' := by
  have hcp := h.cap
  have hm := h.max
  cases hv : schemeOkF ms with
  | false =>
    have hF := hide (fmtSch_no hv)
    go_enter Tryd.func12, Tryd.ntmps12
    go_wp2_with fail
    refine (impl_SchemeOk A0 n c0 ms lo hi w h hh).mono ?_
    rintro e w1 ⟨rfl, b1⟩
    rw [hv]
    go_wp2_with fail
    go_ret
    exact ⟨by rw [hF.out]; rfl, b1⟩
  | true =>
    have hF := hide (fmtSch_ok hv)
    have hok := hide (ok_moves hv)
    have hn12 : n ≤ 12 := by
      have := h.len
      unfold schemeOkF at hv
      simp only [Bool.and_eq_true, decide_eq_true_eq] at hv
      omega
    go_enter Tryd.func12, Tryd.ntmps12
    go_wp2_with fail
    refine (impl_SchemeOk A0 n c0 ms lo hi w h hh).mono ?_
    rintro e w1 ⟨rfl, b1⟩
    rw [hv]
    have z1 := b1.size
    have h1 := h.below b1 hh
    have q0 : (w1.alloc (.cells #[] 9)).ownsRow w.heap.size 9 1 (.slice (some ⟨w1.heap.size, 0, none⟩) 0 0) 0 ((((ms.map moveB).take 0)).map Value.string) := by
      simpa using World.ownsRow_lit (size := 1) (e := 9) (base := w.heap.size) w1 #[] 0 z1 (by unfold maxLen; omega) rfl
    have b2 := b1.trans ((below_alloc w1 (.cells #[] 9)).mono z1)
    have h2 := h.below b2 hh
    clear h1 hv
    go_wp2_with fail
    go_loopw [3, 5, 12] (fun v _ i wr => ∃ (k : Nat) (A : Option Addr) (c : Nat), k ≤ n ∧ i = .int .i64 k ∧ v = .slice A k c ∧ Hid (wr.ownsRow w.heap.size 9 1 (.slice A k c) k (((ms.map moveB).take k).map Value.string)) ∧ Hid (Below w.heap.size w wr))
      (fun _ _ i _ => n - (intOf i).toNat)
    case atStart => exact ⟨0, _, _, by omega, rfl, rfl, q0, b2⟩
    case round =>
      clear q0 b2 h2 b1
      obtain ⟨k, A, c, hk, rfl, rfl, hown, hb⟩ := hrel
      by_cases hlt : k < n
      · obtain ⟨ad, x, y, rfl, hc1, hc2, hr1, hr2, hd, hx⟩ := (h.below hb.out hh).at_ hlt
        have hmv := (moveOk_iff (x, y)).1 (hok.out (x, y) (by rw [← List.getElem?_eq_some_iff.1 hx.out |>.2]; exact List.getElem_mem _))
        have hE := enc_let hmv.1
        have hs1 : (letB x).size = 1 := rfl
        have hs2 := fmtF_size y
        have hsz := hb.out.size
        have hw1 : IntKind.i64.wrap (97 + x) = 97 + x := by rcases hmv.1 with rfl | rfl <;> rfl
        have hw2 : IntKind.i32.wrap (97 + x) = 97 + x := by rcases hmv.1 with rfl | rfl <;> rfl
        have hadd : ∀ W : World, (Op.stringOp .add (letB x) (fmtF y)).run Tryd.prog W = .ok (.string (letB x ++ fmtF y)) W := fun W => run_string_add_sum W _ _ (by omega)
        have hadd2 : ((letB x).size + (fmtF y).size > 9223372036854775807) = False := eq_false (by omega)
        clear hs1 hs2
        have hnx : Hid ((ms.map moveB).take (k + 1) = (ms.map moveB).take k ++ [letB x ++ fmtF y]) := by
          show _ = _
          rw [List.take_add_one, List.getElem?_map, hx.out]
          rfl
        have aX : Below wr.heap.size wr ((wr.alloc (.cells #[.int .i64 x, .int .i64 y] 38)).alloc (.cells #[.string (letB x ++ fmtF y)] 9)).drew := by (repeat (first | with_reducible exact Below.refl _ _ | with_reducible exact Below.refl _ _ | with_reducible refine Below.drew ?_ | ((with_reducible refine Below.alloc ?_ ?_ _); rotate_left; · first | omega | (simp [World.setCell]; done) | (simp [World.setCell]; omega)) | ((with_reducible refine Below.setCell ?_ ?_ _); rotate_left; · first | exact Nat.le_refl _ | omega | (simp; done) | (simp; omega))))
        have hownX : ((wr.alloc (.cells #[.int .i64 x, .int .i64 y] 38)).alloc (.cells #[.string (letB x ++ fmtF y)] 9)).drew.ownsRow w.heap.size 9 1 (.slice A k c) k (((ms.map moveB).take k).map Value.string) := (hown.out.alloc _).alloc _
        have hXz : ((wr.alloc (.cells #[.int .i64 x, .int .i64 y] 38)).alloc (.cells #[.string (letB x ++ fmtF y)] 9)).drew.heap.size = wr.heap.size + 1 + 1 := by simp
        have hbl : ∀ ad, A = some ad → w.heap.size ≤ ad.block ∧ ad.block < wr.heap.size := fun ad e => owns_lt hown.out ad e
        have hcX : ((wr.alloc (.cells #[.int .i64 x, .int .i64 y] 38)).alloc (.cells #[.string (letB x ++ fmtF y)] 9)).drew.cell? ⟨wr.heap.size + 1, 0, none⟩ = some (.string (letB x ++ fmtF y)) := by simp
        have hb3 := hb.out.trans (aX.mono hsz)
        have HX := hide (And.intro hownX (And.intro hb3 (And.intro hbl (And.intro hXz hcX))))
        have c0 : (wr.alloc (.cells #[.int .i64 x, .int .i64 y] 38)).cell? ⟨wr.heap.size, 0, none⟩ = some (.int .i64 x) := by simp
        have c1 : (wr.alloc (.cells #[.int .i64 x, .int .i64 y] 38)).cell? ⟨wr.heap.size, 1, none⟩ = some (.int .i64 y) := by simp
        have hx1 : -9223372036854775808 ≤ x ∧ x ≤ 1 := by omega
        obtain ⟨hx1a, hx1b⟩ := hx1
        have HMV := hide hmv
        clear hd hx hr1 aX hownX hb3 hXz hbl hcX hmv hr2
        go_wp2_with fail
        go_region_held3 (fun w' => w'.cell? ⟨wr.heap.size, 0, none⟩ = some (.int .i64 x) ∧ w'.cell? ⟨wr.heap.size, 1, none⟩ = some (.int .i64 y)) (first | exact ⟨c0, c1⟩ | exact ⟨cell_al2' c0, cell_al2' c1⟩ | exact ⟨T0, T1⟩ | go_keep)
          (first
            | (go_at_call 27; refine (impl_FormatNumber y _).mono ?_; rintro e w' ⟨rfl, rfl⟩)
            | (refine step_appS (by rfl) _ _ (by rfl) _ w.heap.size A k c _ (by rfl) HX.out.1 (wr.heap.size + 1) 1 (letB x ++ fmtF y) (by rfl) HX.out.2.2.2.2 (by omega) (by rw [HX.out.2.2.2.1]; omega) ?_; intro g2 c2 w2 hown3 hgrow hat hlt3; have hnr := own_ne (n := k) (c := c) (kk := wr.heap.size) (fun ad e => Nat.ne_of_lt (HX.out.2.2.1 ad e).2); have T0 := (hgrow.cell_far ⟨wr.heap.size, 0, none⟩ (by show wr.heap.size < _; rw [HX.out.2.2.2.1]; omega) hnr).trans (cell_al2' c0); have T1 := (hgrow.cell_far ⟨wr.heap.size, 1, none⟩ (by show wr.heap.size < _; rw [HX.out.2.2.2.1]; omega) hnr).trans (cell_al2' c1)))
        have HB : Hid (Below w.heap.size w w2) := Below.grown HX.out.2.1 hgrow (by rw [HX.out.2.2.2.1]; omega) (own_ge fun ad e => (HX.out.2.2.1 ad e).1)
        have hL : Hid (w2.ownsRow w.heap.size 9 1 (.slice (some ⟨g2, 0, none⟩) (k + 1) c2) (k + 1) (((ms.map moveB).take (k + 1)).map Value.string)) := by
          show World.ownsRow _ _ _ _ _ _ _
          rw [hnx.out, List.map_append]
          exact hown3
        clear hown3 hgrow hat HX T0 T1 c0 c1 hnr hnx
        go_wp2_with fail
        go_roundw
        case rel => exact ⟨k + 1, _, c2, by omega, by go_num, rfl, hL, HB⟩
        case measure => simp [intOf]; omega
      · obtain rfl : k = n := by omega
        have hl : ms.length = k := h.len
        have hJ := fun W (hW : W = wr) => join_row A k c w.heap.size (ms.map moveB) ⟨#[32]⟩ W (by rw [hW]; have := hown.out; rwa [List.take_of_length_le (by simp; omega)] at this)
          (Nat.le_trans (joinB_size ⟨#[32]⟩ 12 _ moves_size) (by rw [List.length_map, hl]; show (12 + 1) * k ≤ _; omega)) (by omega)
        have hJ2 := hide (hJ wr rfl)
        have hbz := hb.out.size
        clear hJ
        go_wp2_with fail
        refine hJ2.out.mono ?_
        rintro e w9 ⟨rfl, b9⟩
        have b10 := hb.out.trans (b9.mono hbz)
        go_wp2_with fail
        go_ret
        exact ⟨by rw [hF.out]; rfl, b10⟩

theorem cut_let {x : Int} (h : x = 0 ∨ x = 1) : (ByteArray.mk #[97, 98]).extract x.toNat (x + 1).toNat = letB x := by
  rcases h with rfl | rfl <;> rfl

theorem slice_let {x : Int} (h : x = 0 ∨ x = 1) : ∀ W : World, (Instr.slice 9 (.string (ByteArray.mk #[97, 98])) (some (.int .i64 x)) (some (.int .i64 (x + 1))) none).run Tryd.prog W = .ok (.string (letB x)) W := by
  intro W
  rw [← cut_let h]
  have h2 : (ByteArray.mk #[97, 98]).size = 2 := rfl
  exact run_slice_string (P := Tryd.prog) W 9 (ByteArray.mk #[97, 98]) .i64 .i64 x (x + 1) Tryd.underlying9 (by omega) (by omega) (by rw [h2]; omega)

set_option maxRecDepth 100000 in
set_option maxHeartbeats 2000000 in
theorem spec_FormatScheme (A0 : Option Addr) (n c0 : Nat) (ms : List (Int × Int)) (lo hi : Nat) (w : World) (h : Moves w lo hi A0 n c0 ms) (hh : hi ≤ w.heap.size) :
    Calls Tryd.prog 30 #[.slice A0 n c0] w fun e w' => e = .returned (.string (fmtSchF ms)) ∧ Below w.heap.size w w' := by
  have hcp := h.cap
  have hm := h.max
  cases hv : schemeOkF ms with
  | false =>
    have hF := hide (fmtSch_no hv)
    have hn0 : 0 < n := by
      rcases Nat.eq_zero_or_pos n with h0 | h0
      · have e : ms = [] := List.eq_nil_of_length_eq_zero (by rw [h.len, h0])
        subst e
        cases hv
      · exact h0
    have hS := hide (spec_SchemeOk A0 n c0 ms lo hi w h)
    rw [hv] at hS
    clear hv
    go_enter Tryd.func30, Tryd.ntmps30
    go_wp2_with fail
    go_loop [3, 4] (fun s i => s = .string ⟨#[]⟩ ∧ i = .int .i64 0) (fun _ _ => 0)
    case atStart => exact ⟨rfl, rfl⟩
    case round =>
      obtain ⟨rfl, rfl⟩ := hrel
      go_wp2_with fail
      refine hS.out.mono ?_
      rintro e w' ⟨rfl, rfl⟩
      go_wp2_with fail
      go_ret
      exact ⟨by rw [hF.out]; rfl, Below.refl _ _⟩
  | true =>
    have hF := hide (fmtSch_ok hv)
    have hok := hide (ok_moves hv)
    have hn12 : n ≤ 12 := by
      have := h.len
      unfold schemeOkF at hv
      simp only [Bool.and_eq_true, decide_eq_true_eq] at hv
      omega
    have hv2 := hide hv
    clear hv
    go_enter Tryd.func30, Tryd.ntmps30
    go_wp2_with fail
    go_loopw [3, 4] (fun sv i wr => ∃ (k : Nat) (s : ByteArray), k ≤ n ∧ i = .int .i64 k ∧ sv = .string s ∧ Hid (s = joinB ⟨#[32]⟩ ((ms.map moveB).take k)) ∧ s.size ≤ 160 ∧ Hid (Below w.heap.size w wr))
      (fun _ i _ => n - (intOf i).toNat)
    case atStart => exact ⟨0, ⟨#[]⟩, by omega, rfl, rfl, rfl, by show 0 ≤ 160; omega, Below.refl _ _⟩
    case round =>
      obtain ⟨k, s, hk, rfl, rfl, hs, hss, hb⟩ := hrel
      by_cases hlt : k < n
      · have hS := hide (spec_SchemeOk A0 n c0 ms lo hi wr (h.below hb.out hh))
        rw [hv2.out] at hS
        obtain ⟨ad, x, y, rfl, hc1, hc2, hr1, hr2, hd, hx⟩ := (h.below hb.out hh).at_ hlt
        have hmv := (moveOk_iff (x, y)).1 (hok.out (x, y) (by rw [← List.getElem?_eq_some_iff.1 hx.out |>.2]; exact List.getElem_mem _))
        have hs1 : (letB x).size = 1 := rfl
        have hs2 := fmtF_size y
        have hs3 : (ByteArray.mk #[32]).size = 1 := rfl
        have hsz := hb.out.size
        have hlt' : (k : Int) < n := by omega
        obtain ⟨S1, hS1, hS1s, hS1k⟩ : ∃ S1 : ByteArray, Hid (S1 = if k = 0 then s else s ++ ⟨#[32]⟩) ∧ S1.size ≤ 161 ∧ Hid (S1 ++ letB x ++ fmtF y = joinB ⟨#[32]⟩ ((ms.map moveB).take (k + 1))) := by
          refine ⟨(if k = 0 then s else s ++ ⟨#[32]⟩ : ByteArray), by show _ = _; rfl, ?_, ?_⟩
          · split
            · omega
            · rw [ByteArray.size_append]; omega
          · show _ = _
            have hxm : (ms.map moveB)[k]? = some (moveB (x, y)) := by rw [List.getElem?_map, hx.out]; rfl
            split
            · rename_i h0
              subst h0
              rw [joinB_take0 _ _ hxm, hs.out, List.take_zero, joinB_nil]
              exact congrArg (· ++ fmtF y) (nil_app (letB x))
            · rename_i h0
              rw [joinB_take _ _ _ hxm (by omega), ← hs.out, moveB, app_assoc]
        have hadd1 : ∀ W : World, (Op.stringOp .add S1 (letB x)).run Tryd.prog W = .ok (.string (S1 ++ letB x)) W := fun W => run_string_add_sum W _ _ (by omega)
        have hadd2 : ∀ W : World, (Op.stringOp .add (S1 ++ letB x) (fmtF y)).run Tryd.prog W = .ok (.string (S1 ++ letB x ++ fmtF y)) W := fun W => run_string_add_sum W _ _ (by rw [ByteArray.size_append]; omega)
        have hnS : (S1 ++ letB x ++ fmtF y).size ≤ 160 := by
          rw [hS1k.out]
          refine Nat.le_trans (joinB_take_le ⟨#[32]⟩ _ 12 moves_size _) ?_
          rw [List.length_map, h.len]
          show (12 + 1) * n ≤ 160
          omega
        have hsl := slice_let (x := x) hmv.1
        have hw1 : IntKind.i64.wrap (x + 1) = x + 1 := by rcases hmv.1 with rfl | rfl <;> rfl
        have hx0 : 0 ≤ x ∧ x ≤ 1 := by omega
        obtain ⟨hx0a, hx0b⟩ := hx0
        have HN := hide (And.intro hnS hsz)
        clear hd hx hr1 hr2 hmv hnS hsz hs
        by_cases h0 : k = 0
        · have hS1' := hS1.out
          rw [if_pos h0] at hS1'
          subst hS1'
          have hnk : ¬ (0 < k) := by omega
          clear hS1 h0 hs1 hs2
          go_wp2_with fail
          refine hS.out.mono ?_
          rintro e w' ⟨rfl, rfl⟩
          go_wp2_with fail
          have CB : ∀ v : World, Below wr.heap.size wr v → v.cell? (ad.add (k * 2)) = some (.int .i64 x) ∧ v.cell? ⟨(ad.add (k * 2)).block, (ad.add (k * 2)).off + 1, none⟩ = some (.int .i64 y) := fun v hv => ⟨(hv.cell (World.block_lt_of_cell? wr _ hc1)).trans hc1, (hv.cell (World.block_lt_of_cell? wr _ hc2)).trans hc2⟩
          have CC := hide CB
          have c0 : wr.cell? (ad.add (k * 2)) = some (.int .i64 x) ∧ wr.cell? ⟨(ad.add (k * 2)).block, (ad.add (k * 2)).off + 1, none⟩ = some (.int .i64 y) := ⟨hc1, hc2⟩
          clear CB hc1 hc2
          go_region_held3 (fun w' => w'.cell? (ad.add (k * 2)) = some (.int .i64 x) ∧ w'.cell? ⟨(ad.add (k * 2)).block, (ad.add (k * 2)).off + 1, none⟩ = some (.int .i64 y)) (first | exact c0 | exact T0 | go_keep)
            (first
              | (go_at_call 38; refine (spec_FormatNumber y _).mono ?_; rintro e w2 ⟨rfl, bF0⟩; have bF : Below wr.heap.size wr w2 := ((Below.refl _ wr).drew).trans bF0; have T0 := CC.out w2 bF))
          have HB : Hid (Below w.heap.size w w2) := hb.out.trans (Below.mono bF HN.out.2)
          have hS2 := HN.out.1
          clear bF bF0 T0 CC HN c0
          go_wp2_with fail
          go_roundw
          case rel => exact ⟨k + 1, S1 ++ letB x ++ fmtF y, by omega, by go_num, rfl, hS1k, hS2, HB⟩
          case measure => simp [intOf]; omega
        · have hS1' := hS1.out
          rw [if_neg h0] at hS1'
          have hS1h := hide hS1'
          have hnk : 0 < k := by omega
          clear hS1 h0 hs1 hs2 hS1'
          go_wp2_with fail
          refine hS.out.mono ?_
          rintro e w' ⟨rfl, rfl⟩
          go_wp2_with fail
          rw [← hS1h.out]
          clear hS1h
          have CB : ∀ v : World, Below wr.heap.size wr v → v.cell? (ad.add (k * 2)) = some (.int .i64 x) ∧ v.cell? ⟨(ad.add (k * 2)).block, (ad.add (k * 2)).off + 1, none⟩ = some (.int .i64 y) := fun v hv => ⟨(hv.cell (World.block_lt_of_cell? wr _ hc1)).trans hc1, (hv.cell (World.block_lt_of_cell? wr _ hc2)).trans hc2⟩
          have CC := hide CB
          have c0 : wr.cell? (ad.add (k * 2)) = some (.int .i64 x) ∧ wr.cell? ⟨(ad.add (k * 2)).block, (ad.add (k * 2)).off + 1, none⟩ = some (.int .i64 y) := ⟨hc1, hc2⟩
          clear CB hc1 hc2
          go_region_held3 (fun w' => w'.cell? (ad.add (k * 2)) = some (.int .i64 x) ∧ w'.cell? ⟨(ad.add (k * 2)).block, (ad.add (k * 2)).off + 1, none⟩ = some (.int .i64 y)) (first | exact c0 | exact T0 | go_keep)
            (first
              | (go_at_call 38; refine (spec_FormatNumber y _).mono ?_; rintro e w2 ⟨rfl, bF0⟩; have bF : Below wr.heap.size wr w2 := ((Below.refl _ wr).drew).trans bF0; have T0 := CC.out w2 bF))
          have HB : Hid (Below w.heap.size w w2) := hb.out.trans (Below.mono bF HN.out.2)
          have hS2 := HN.out.1
          clear bF bF0 T0 CC HN c0
          go_wp2_with fail
          go_roundw
          case rel => exact ⟨k + 1, S1 ++ letB x ++ fmtF y, by omega, by go_num, rfl, hS1k, hS2, HB⟩
          case measure => simp [intOf]; omega
      · obtain rfl : k = n := by omega
        have hl : ms.length = k := h.len
        have hG : Hid (fmtSchF ms = s) := by show _ = _; rw [hF.out, hs.out, List.take_of_length_le (by simp; omega)]
        have hB := hb.out
        clear hs hb
        go_wp2_with fail
        go_ret
        exact ⟨by rw [hG.out]; rfl, hB⟩
end Go.Proofs.YtppekbokaknocaaDoor
