/- Proved here: for every input the statement FnSchemeText returns true, and its argument reads as before. The card ties the two listed tables. No conditions. -/
import Derived.Test.YtppekbokaknocaaDoorDrawV
import Derived.Test.YtppekbokaknocaaDoorDrawS
import Derived.Test.YtppekbokaknocaaDoorParM2
import Derived.Test.YtppekbokaknocaaDoorShades
import Derived.Test.YtppekbokaknocaaDoorAppG
import Derived.Test.YtppekbokaknocaaDoorCardF
namespace Go.Proofs.YtppekbokaknocaaDoor.fnSchemeText
open Go.ChangeShapes Go.WideShapes Go.ChangeAt Go.RowKit
set_option linter.unusedSimpArgs false
set_option linter.unusedVariables false
set_option maxRecDepth 20000

theorem ok_of {ms : List (Int × Int)} (h : ∀ m ∈ ms, (0 ≤ m.1 ∧ m.1 ≤ 1) ∧ 0 ≤ m.2 ∧ m.2 < 1000000271) (hl : ms.length ≤ 12) : schemeOkF ms = true := by
  unfold schemeOkF
  rw [decide_eq_true hl, Bool.true_and, movesGo_iff]
  intro m hm
  have := h m hm
  rw [moveOk_iff]
  omega
theorem placeGo_snoc : ∀ (xs : List Int) (st : Int), 0 ≤ placeGo st xs → placeGo st (xs ++ [1]) = 2 * placeGo st xs + 2
  | [], st, _ => by
    show (if isLetterF 1 = true then placeGo (2 * st + 1 + 1) [] else -1) = _
    rw [if_pos (by decide)]
    show 2 * st + 1 + 1 = 2 * st + 2
    omega
  | x :: r, st, h => by
    rw [placeGo] at h
    rw [List.cons_append, placeGo, placeGo]
    by_cases hx : isLetterF x = true
    · rw [if_pos hx] at h ⊢
      rw [if_pos hx]
      exact placeGo_snoc r _ h
    · rw [if_neg hx] at h
      omega
theorem place_snoc {xs : List Int} (h : 0 ≤ placeF xs) (hl : xs.length ≤ 4) : placeF (xs ++ [1]) = 2 * placeF xs + 2 := by
  unfold placeF at h ⊢
  rw [if_neg (by omega)] at h
  rw [if_neg (by simp; omega), if_neg (by omega)]
  exact placeGo_snoc xs 0 h
theorem pow_one_le : ∀ n : Nat, (1 : Int) ≤ 2 ^ n
  | 0 => by simp
  | n + 1 => by have := pow_one_le n; rw [Int.pow_succ]; omega
theorem placeGo_bd : ∀ (n : Nat) (xs : List Int) (st b : Int), xs.length ≤ n → 0 ≤ st → st ≤ b → 0 ≤ b → -1 ≤ placeGo st xs ∧ placeGo st xs ≤ b * 2 ^ n + 2 * 2 ^ n - 2
  | n, [], st, b, _, h0, h1, hb => by
    have h2 : (1 : Int) ≤ 2 ^ n := pow_one_le n
    have h3 : b * 1 ≤ b * 2 ^ n := Int.mul_le_mul_of_nonneg_left h2 hb
    show -1 ≤ st ∧ st ≤ _
    omega
  | 0, x :: r, _, _, h, _, _, _ => by simp at h
  | n + 1, x :: r, st, b, h, h0, h1, hb => by
    rw [placeGo]
    have h2 : (1 : Int) ≤ 2 ^ n := pow_one_le n
    have hbn : 0 ≤ b * 2 ^ n := Int.mul_nonneg hb (by omega)
    by_cases hx : isLetterF x = true
    · rw [if_pos hx]
      have hx2 := (isLetterF_iff x).1 hx
      have ih := placeGo_bd n r (2 * st + 1 + x) (2 * b + 2) (by simpa using h) (by omega) (by omega) (by omega)
      have e : (2 * b + 2) * 2 ^ n = 2 * (b * 2 ^ n) + 2 * 2 ^ n := by rw [Int.add_mul, Int.mul_assoc]
      have e2 : b * 2 ^ (n + 1) = 2 * (b * 2 ^ n) := by rw [Int.pow_succ, ← Int.mul_assoc, Int.mul_comm]
      have e3 : (2 : Int) * 2 ^ (n + 1) = 4 * 2 ^ n := by rw [Int.pow_succ]; omega
      rw [e] at ih
      rw [e2, e3]
      omega
    · rw [if_neg hx]
      have e2 : b * 2 ^ (n + 1) = 2 * (b * 2 ^ n) := by rw [Int.pow_succ, ← Int.mul_assoc, Int.mul_comm]
      have e3 : (2 : Int) * 2 ^ (n + 1) = 4 * 2 ^ n := by rw [Int.pow_succ]; omega
      rw [e2, e3]
      omega
theorem place_bd (xs : List Int) : -1 ≤ placeF xs ∧ placeF xs ≤ 62 := by
  unfold placeF
  split
  · omega
  · have := placeGo_bd 5 xs 0 0 (by omega) (by omega) (by omega) (by omega)
    have e : (2 : Int) ^ 5 = 32 := rfl
    rw [e] at this
    omega
theorem place_long {xs : List Int} (h : 5 < xs.length) : placeF xs = -1 := by unfold placeF; rw [if_pos h]

set_option maxRecDepth 100000 in
set_option maxHeartbeats 8000000 in
theorem walk (A : Option Addr) (n c : Nat) (mx : Int) (w : World) (h : Bytes w 0 w.heap.size A n c) (hmx : w.cell? ⟨0, 0, none⟩ = some (.int .i64 mx)) :
    Calls Tryd.prog 4 #[.slice A n c] w fun e w' => e = .returned (.bool true) ∧ Below w.heap.size w w' := by
  have hcp := h.cap
  have hmxx := h.max
  obtain ⟨i0, hi0, hz0, hz1, hz2⟩ := info_parts info_int
  by_cases hbig : 1048576 < n
  · go_enter Tryd.func4, Tryd.ntmps4
    go_wp2_with fail
    refine (laws_big A n c w (by omega)).mono ?_
    rintro e w1 ⟨rfl, rfl⟩
    rw [decide_eq_true hbig]
    go_wp2_with fail
    go_ret
    exact ⟨rfl, Below.refl _ _⟩
  · have hm0 := World.block_lt_of_cell? w _ hmx
    have HM : Hid (∀ v : World, Below w.heap.size w v → v.cell? ⟨0, 0, none⟩ = some (.int .i64 mx)) := fun v hv => (hv.cell hm0).trans hmx
    clear hmx
    go_enter Tryd.func4, Tryd.ntmps4
    go_wp2_with fail
    refine (laws_big A n c w (by omega)).mono ?_
    rintro e w1 ⟨rfl, rfl⟩
    rw [decide_eq_false hbig]
    go_wp2_with fail
    refine (spec_DrawSchemes w.heap.size A n c w h (Nat.le_refl _)).mono ?_
    rintro e wd ⟨Am, m, dm, ms, Ak, k2, dk, ks, l0, rfl, hm4, hk4, om, ok, hl0, gm, gk, B0⟩
    have om' := hide (om.wide' hl0)
    have hmsl := om.len
    have hok : Hid (schemeOkF ms = true) := ok_of gm (by omega)
    have z0 := B0.size
    have mcap := om.moves.cap
    have mmax := om.moves.max
    clear gm gk ok om hk4 hl0
    by_cases hm0 : m = 0
    · have hP : Hid (parSchF (fmtSchF ms) = ([], false)) := by show _ = _; rw [List.eq_nil_of_length_eq_zero (hmsl.trans hm0)]; exact par_fmt_nil
      subst hm0
      go_wp2_with fail
      refine (impl_FormatScheme Am 0 dm ms w.heap.size wd.heap.size wd om'.out.moves (Nat.le_refl _)).mono ?_
      rintro e w1 ⟨rfl, b1⟩
      have B1 := B0.trans (b1.mono z0)
      have z1 := b1.size
      have hfs := fmtSch_size ms
      go_wp2_with fail
      refine (impl_ParseScheme (fmtSchF ms) mx w1 (by omega) (HM.out w1 B1)).mono ?_
      rw [hP.out]
      rintro e w2 ⟨A1, n1, c1, rfl, o1, b2⟩
      have B2 := B1.trans (b2.mono B1.size)
      have z2 := b2.size
      have n1l := o1.len
      have n1c := o1.moves.cap
      have n1m := o1.moves.max
      clear B1 hfs
      go_wp2_with fail
      refine (spec_DrawParseScheme w.heap.size A n c w2 (h.below B2 (Nat.le_refl _)) B2.size).mono ?_
      rintro e w3 ⟨t, rfl, ht, b3⟩
      have B3 := B2.trans (b3.mono B2.size)
      have z3 := b3.size
      clear B2
      go_wp2_with fail
      refine (impl_ParseScheme t mx w3 (by omega) (HM.out w3 B3)).mono ?_
      rintro e w4 ⟨A2, n2, c2, rfl, o2, b4⟩
      have B4 := B3.trans (b4.mono B3.size)
      have z4 := b4.size
      have n2c := o2.moves.cap
      have n2m := o2.moves.max
      clear B3
      go_wp2_with fail
      refine (spec_ParseScheme t w4 (by omega)).mono ?_
      rintro e w5 ⟨A3, n3, c3, rfl, o3, b5⟩
      have B5 := B4.trans (b5.mono B4.size)
      have z5 := b5.size
      clear B4 o3
      go_wp2_with fail
      refine (spec_DrawPlaceOfWord w.heap.size A n c w5 (h.below B5 (Nat.le_refl _)) B5.size).mono ?_
      rintro e w6 ⟨B, k, d, rfl, hk6, ⟨xs, oW⟩, b6⟩
      have B6 := B5.trans (b6.mono B5.size)
      have z6 := b6.size
      have xl := oW.len
      have kc := oW.cap
      have km := oW.max
      clear B5
      go_wp2_with fail
      refine (impl_PlaceOfWord B k d xs w5.heap.size w6.heap.size w6 oW.ints).mono ?_
      rintro e w' ⟨rfl, rfl⟩
      have hpb := place_bd xs
      obtain ⟨at_, hat⟩ : ∃ a, placeF xs = a := ⟨_, rfl⟩
      rw [hat] at hpb ⊢
      obtain ⟨hpb1, hpb2⟩ := hpb
      have o26 := hide ((o2.below b5 (Nat.le_refl _)).below b6 z5)
      have OW := hide oW
      obtain rfl : 0 = n1 := n1l
      clear o1 o2 oW b1 b2 b3 b4 b5 b6 om'
      cases hread : (parSchF t).2 with
      | true =>
        have hfp := fmt_par (s := t) (ms := (parSchF t).1) (by rw [← hread])
        have heq : ((fmtSchF (parSchF t).1).toList == t.toList) = true := by rw [hfp.1]; simp
        have HFP := hide hfp.1
        clear hfp heq
        go_wp2_with fail
        refine (impl_FormatScheme A2 n2 c2 (parSchF t).1 w3.heap.size w4.heap.size w6 o26.out.moves (by omega)).mono ?_
        rintro e w7 ⟨rfl, b7⟩
        rw [HFP.out]
        have B7 := B6.trans (b7.mono B6.size)
        have OW7 := hide (OW.out.below b7 (Nat.le_refl _))
        have z7 := b7.size
        clear B6 OW b7
        go_wp2_with fail
        refine (spec_PlaceOfWord B k d xs w5.heap.size w6.heap.size w7 OW7.out.ints).mono ?_
        rw [hat]
        rintro e w' ⟨rfl, rfl⟩
        go_wp2_with fail
        go_loop [14] (fun i => i = .int .i64 0) (fun _ => 0)
        case atStart => rfl
        case round =>
          subst hrel
          have OW8 := OW7
          have B8 := B7
          have z8 := z7
          obtain ⟨w8, hw8⟩ : ∃ w8 : World, w8 = w7 := ⟨_, rfl⟩
          rw [← hw8] at OW8 B8 z8 ⊢
          clear OW7 B7 z7 hw8
          by_cases hneg : at_ < 0
          · go_wp2_with fail
            go_ret
            exact ⟨rfl, B8⟩
          · by_cases h5 : k = 5
            · subst h5
              go_wp2_with fail
              go_ret
              exact ⟨rfl, B8⟩
            · have hk4 : k ≤ 4 := by
                rcases Nat.lt_or_ge 5 k with h6 | h6
                · have := place_long (xs := xs) (by omega)
                  omega
                · omega
              have hk5' : ((k : Int) == 5) = false := by simp only [beq_eq_false_iff_ne, ne_eq]; omega
              have hps := hide (place_snoc (xs := xs) (by omega) (by omega))
              have z9 : (w8.alloc (.cells #[] 3)).heap.size = w8.heap.size + 1 := by simp
              have q0 : (w8.alloc (.cells #[] 3)).ownsRow w8.heap.size 3 1 (.slice (some ⟨w8.heap.size, 0, none⟩) 0 0) 0 (([] : List Int).map (Value.int .i64)) := by
                simpa using World.ownsRow_lit (size := 1) (e := 3) (base := w8.heap.size) w8 #[] 0 (Nat.le_refl _) (by unfold maxLen; omega) rfl
              have OW9 := (OW8.out.ints).below (below_alloc w8 (.cells #[] 3)) z8
              have B9 := B8.trans ((below_alloc w8 (.cells #[] 3)).mono B8.size)
              have hnews : ∀ ad, B = some ad → ∀ (j : Nat) u, (xs.map (Value.int .i64))[j]? = some u → (w8.alloc (.cells #[] 3)).cell? (ad.add j) = some u := fun ad e j u hu => by
                rw [List.getElem?_map] at hu
                cases hy : xs[j]? with
                | none => rw [hy] at hu; cases hu
                | some y =>
                  rw [hy] at hu
                  injection hu with hu
                  subst hu
                  have hk0 : 0 < k := by have := (List.getElem?_eq_some_iff.1 hy).1; omega
                  obtain ⟨ae, e2, _, _, hc⟩ := OW9.cells hk0
                  rw [e] at e2
                  injection e2 with e2
                  subst e2
                  exact hc j y hy
              have hBn : B = none → k = 0 ∧ d = 0 := fun e => by
                rcases OW8.out.own.2 with ⟨e1, rfl⟩ | ⟨g, cap, cur, e1, _⟩
                · injection e1 with _ _ e3
                  exact ⟨rfl, e3⟩
                · rw [e] at e1
                  injection e1 with e1
                  cases e1
              have hone : ∀ u ∈ xs.map (Value.int .i64), u.oneCell' = true := fun u hu => by
                obtain ⟨y, _, rfl⟩ := List.mem_map.1 hu
                rfl
              have HB9 := hide B9
              clear B9
              go_wp2_with (first
                | (at_builtin; refine wpl_appG (by kernel_rfl) (.tmp 105) (.tmp 106) 34 rfl _ w8.heap.size 3 i0 (.int .i64 0) 1 8 Tryd.underlying34 hi0 hz0 hz1 hz2 rfl (by omega) (some ⟨w8.heap.size, 0, none⟩) 0 0 (([] : List Int).map (Value.int .i64)) rfl q0 B k d (xs.map (Value.int .i64)) rfl (by simpa using xl) hnews hBn hone (by omega) (by omega) (by omega) ?_; intro A4 c4 w9 hap1; simp only [Nat.zero_add, List.nil_append, List.map_nil] at hap1)
                | (at_builtin; refine wpl_app1G (by kernel_rfl) (.tmp 107) (.tmp 108) 34 rfl w8.heap.size 3 i0 (.int .i64 0) 1 8 Tryd.underlying34 hi0 hz0 hz1 hz2 rfl (by omega) w9 #[.int .i64 1] A4 k c4 1 _ rfl rfl hap1.1 rfl (by simp [Value.oneCell']) (by omega) (by omega) (by have := hap1.2.1.size; omega) ?_; intro A5 c5 w10 hap2 hlt2))
              have O5 : OwnI w10 w8.heap.size w10.heap.size A5 (k + 1) c5 (xs ++ [1]) := ⟨by rw [List.map_append]; exact hap2.1, fun ad e => (owns_lt hap2.1 ad e).2, rng_snocI OW8.out.rng ⟨by omega, by omega⟩⟩
              have hz8 := B8.size
              have B10 : Below w.heap.size w w9 := hap1.below HB9.out (by omega) (fun ad e => by injection e with e; subst e; exact hz8)
              have B11 : Below w.heap.size w w10 := hap2.below B10 B10.size (fun ad e => Nat.le_trans hz8 (owns_lt hap1.1 ad e).1)
              have hP5 := hide (impl_PlaceOfWord A5 (k + 1) c5 (xs ++ [1]) w8.heap.size w10.heap.size w10 O5.ints)
              rw [hps.out, hat] at hP5
              clear O5 hap1 hap2 B10 hnews hBn hone OW8 OW9 HB9 B8 q0
              refine hP5.out.mono ?_
              rintro e w' ⟨rfl, rfl⟩
              go_wp2_with fail
              go_ret
              exact ⟨by simp, B11⟩
      | false =>
        obtain ⟨w7, hw7⟩ : ∃ w7 : World, w7 = w6 := ⟨_, rfl⟩
        have B7 : Below w.heap.size w w7 := by rw [hw7]; exact B6
        have OW7 : Hid (OwnI w7 w5.heap.size w6.heap.size B k d xs) := by show OwnI _ _ _ _ _ _ _; rw [hw7]; exact OW.out
        have z7 : w6.heap.size ≤ w7.heap.size := by rw [hw7]; exact Nat.le_refl _
        rw [← hw7]
        clear B6 OW hw7
        go_wp2_with fail
        refine (spec_PlaceOfWord B k d xs w5.heap.size w6.heap.size w7 OW7.out.ints).mono ?_
        rw [hat]
        rintro e w' ⟨rfl, rfl⟩
        go_wp2_with fail
        go_loop [14] (fun i => i = .int .i64 0) (fun _ => 0)
        case atStart => rfl
        case round =>
          subst hrel
          have OW8 := OW7
          have B8 := B7
          have z8 := z7
          obtain ⟨w8, hw8⟩ : ∃ w8 : World, w8 = w7 := ⟨_, rfl⟩
          rw [← hw8] at OW8 B8 z8 ⊢
          clear OW7 B7 z7 hw8
          by_cases hneg : at_ < 0
          · go_wp2_with fail
            go_ret
            exact ⟨rfl, B8⟩
          · by_cases h5 : k = 5
            · subst h5
              go_wp2_with fail
              go_ret
              exact ⟨rfl, B8⟩
            · have hk4 : k ≤ 4 := by
                rcases Nat.lt_or_ge 5 k with h6 | h6
                · have := place_long (xs := xs) (by omega)
                  omega
                · omega
              have hk5' : ((k : Int) == 5) = false := by simp only [beq_eq_false_iff_ne, ne_eq]; omega
              have hps := hide (place_snoc (xs := xs) (by omega) (by omega))
              have z9 : (w8.alloc (.cells #[] 3)).heap.size = w8.heap.size + 1 := by simp
              have q0 : (w8.alloc (.cells #[] 3)).ownsRow w8.heap.size 3 1 (.slice (some ⟨w8.heap.size, 0, none⟩) 0 0) 0 (([] : List Int).map (Value.int .i64)) := by
                simpa using World.ownsRow_lit (size := 1) (e := 3) (base := w8.heap.size) w8 #[] 0 (Nat.le_refl _) (by unfold maxLen; omega) rfl
              have OW9 := (OW8.out.ints).below (below_alloc w8 (.cells #[] 3)) z8
              have B9 := B8.trans ((below_alloc w8 (.cells #[] 3)).mono B8.size)
              have hnews : ∀ ad, B = some ad → ∀ (j : Nat) u, (xs.map (Value.int .i64))[j]? = some u → (w8.alloc (.cells #[] 3)).cell? (ad.add j) = some u := fun ad e j u hu => by
                rw [List.getElem?_map] at hu
                cases hy : xs[j]? with
                | none => rw [hy] at hu; cases hu
                | some y =>
                  rw [hy] at hu
                  injection hu with hu
                  subst hu
                  have hk0 : 0 < k := by have := (List.getElem?_eq_some_iff.1 hy).1; omega
                  obtain ⟨ae, e2, _, _, hc⟩ := OW9.cells hk0
                  rw [e] at e2
                  injection e2 with e2
                  subst e2
                  exact hc j y hy
              have hBn : B = none → k = 0 ∧ d = 0 := fun e => by
                rcases OW8.out.own.2 with ⟨e1, rfl⟩ | ⟨g, cap, cur, e1, _⟩
                · injection e1 with _ _ e3
                  exact ⟨rfl, e3⟩
                · rw [e] at e1
                  injection e1 with e1
                  cases e1
              have hone : ∀ u ∈ xs.map (Value.int .i64), u.oneCell' = true := fun u hu => by
                obtain ⟨y, _, rfl⟩ := List.mem_map.1 hu
                rfl
              have HB9 := hide B9
              clear B9
              go_wp2_with (first
                | (at_builtin; refine wpl_appG (by kernel_rfl) (.tmp 105) (.tmp 106) 34 rfl _ w8.heap.size 3 i0 (.int .i64 0) 1 8 Tryd.underlying34 hi0 hz0 hz1 hz2 rfl (by omega) (some ⟨w8.heap.size, 0, none⟩) 0 0 (([] : List Int).map (Value.int .i64)) rfl q0 B k d (xs.map (Value.int .i64)) rfl (by simpa using xl) hnews hBn hone (by omega) (by omega) (by omega) ?_; intro A4 c4 w9 hap1; simp only [Nat.zero_add, List.nil_append, List.map_nil] at hap1)
                | (at_builtin; refine wpl_app1G (by kernel_rfl) (.tmp 107) (.tmp 108) 34 rfl w8.heap.size 3 i0 (.int .i64 0) 1 8 Tryd.underlying34 hi0 hz0 hz1 hz2 rfl (by omega) w9 #[.int .i64 1] A4 k c4 1 _ rfl rfl hap1.1 rfl (by simp [Value.oneCell']) (by omega) (by omega) (by have := hap1.2.1.size; omega) ?_; intro A5 c5 w10 hap2 hlt2))
              have O5 : OwnI w10 w8.heap.size w10.heap.size A5 (k + 1) c5 (xs ++ [1]) := ⟨by rw [List.map_append]; exact hap2.1, fun ad e => (owns_lt hap2.1 ad e).2, rng_snocI OW8.out.rng ⟨by omega, by omega⟩⟩
              have hz8 := B8.size
              have B10 : Below w.heap.size w w9 := hap1.below HB9.out (by omega) (fun ad e => by injection e with e; subst e; exact hz8)
              have B11 : Below w.heap.size w w10 := hap2.below B10 B10.size (fun ad e => Nat.le_trans hz8 (owns_lt hap1.1 ad e).1)
              have hP5 := hide (impl_PlaceOfWord A5 (k + 1) c5 (xs ++ [1]) w8.heap.size w10.heap.size w10 O5.ints)
              rw [hps.out, hat] at hP5
              clear O5 hap1 hap2 B10 hnews hBn hone OW8 OW9 HB9 B8 q0
              refine hP5.out.mono ?_
              rintro e w' ⟨rfl, rfl⟩
              go_wp2_with fail
              go_ret
              exact ⟨by simp, B11⟩
    · have hP : Hid (parSchF (fmtSchF ms) = (ms, true)) := par_fmt hok.out (fun e => hm0 (by rw [← hmsl, e]; rfl))
      have hmp : 0 < m := by omega
      go_wp2_with fail
      refine (impl_FormatScheme Am m dm ms w.heap.size wd.heap.size wd om'.out.moves (Nat.le_refl _)).mono ?_
      rintro e w1 ⟨rfl, b1⟩
      have B1 := B0.trans (b1.mono z0)
      have z1 := b1.size
      have hfs := fmtSch_size ms
      go_wp2_with fail
      refine (impl_ParseScheme (fmtSchF ms) mx w1 (by omega) (HM.out w1 B1)).mono ?_
      rw [hP.out]
      rintro e w2 ⟨A1, n1, c1, rfl, o1, b2⟩
      have B2 := B1.trans (b2.mono B1.size)
      have z2 := b2.size
      have n1l := o1.len
      have n1c := o1.moves.cap
      have n1m := o1.moves.max
      clear B1 hfs
      go_wp2_with fail
      refine (spec_DrawParseScheme w.heap.size A n c w2 (h.below B2 (Nat.le_refl _)) B2.size).mono ?_
      rintro e w3 ⟨t, rfl, ht, b3⟩
      have B3 := B2.trans (b3.mono B2.size)
      have z3 := b3.size
      clear B2
      go_wp2_with fail
      refine (impl_ParseScheme t mx w3 (by omega) (HM.out w3 B3)).mono ?_
      rintro e w4 ⟨A2, n2, c2, rfl, o2, b4⟩
      have B4 := B3.trans (b4.mono B3.size)
      have z4 := b4.size
      have n2c := o2.moves.cap
      have n2m := o2.moves.max
      clear B3
      go_wp2_with fail
      refine (spec_ParseScheme t w4 (by omega)).mono ?_
      rintro e w5 ⟨A3, n3, c3, rfl, o3, b5⟩
      have B5 := B4.trans (b5.mono B4.size)
      have z5 := b5.size
      clear B4 o3
      go_wp2_with fail
      refine (spec_DrawPlaceOfWord w.heap.size A n c w5 (h.below B5 (Nat.le_refl _)) B5.size).mono ?_
      rintro e w6 ⟨B, k, d, rfl, hk6, ⟨xs, oW⟩, b6⟩
      have B6 := B5.trans (b6.mono B5.size)
      have z6 := b6.size
      have xl := oW.len
      have kc := oW.cap
      have km := oW.max
      clear B5
      go_wp2_with fail
      refine (impl_PlaceOfWord B k d xs w5.heap.size w6.heap.size w6 oW.ints).mono ?_
      rintro e w' ⟨rfl, rfl⟩
      have hpb := place_bd xs
      obtain ⟨at_, hat⟩ : ∃ a, placeF xs = a := ⟨_, rfl⟩
      rw [hat] at hpb ⊢
      obtain ⟨hpb1, hpb2⟩ := hpb
      have o26 := hide ((o2.below b5 (Nat.le_refl _)).below b6 z5)
      have OW := hide oW
      have o16 := hide ((((o1.below b3 (Nat.le_refl _)).below b4 z3).below b5 (by omega)).below b6 (by omega))
      have om6 := hide ((((((om'.out.below b1 (Nat.le_refl _)).below b2 z1).below b3 (by omega)).below b4 (by omega)).below b5 (by omega)).below b6 (by omega))
      obtain rfl : m = n1 := hmsl.symm.trans n1l
      clear o1 o2 oW b1 b2 b3 b4 b5 b6 om'
      cases hread : (parSchF t).2 with
      | true =>
        have hfp := fmt_par (s := t) (ms := (parSchF t).1) (by rw [← hread])
        have heq : ((fmtSchF (parSchF t).1).toList == t.toList) = true := by rw [hfp.1]; simp
        have HFP := hide hfp.1
        clear hfp heq
        go_wp2_with fail
        refine (impl_FormatScheme A2 n2 c2 (parSchF t).1 w3.heap.size w4.heap.size w6 o26.out.moves (by omega)).mono ?_
        rintro e w7 ⟨rfl, b7⟩
        rw [HFP.out]
        have B7 := B6.trans (b7.mono B6.size)
        have OW7 := hide (OW.out.below b7 (Nat.le_refl _))
        have z7 := b7.size
        have o17 := hide (o16.out.below b7 (by omega))
        have om7 := hide (om6.out.below b7 (by omega))
        clear B6 OW b7 o16 om6
        go_wp2_with fail
        refine (spec_PlaceOfWord B k d xs w5.heap.size w6.heap.size w7 OW7.out.ints).mono ?_
        rw [hat]
        rintro e w' ⟨rfl, rfl⟩
        go_wp2_with fail
        have hmi : (m : Int) ≤ 4 := by omega
        go_loopw [14] (fun i wr => ∃ (j q : Nat), j ≤ m ∧ i = .int .i64 j ∧ wr = w7.drewN q) (fun i _ => m - (intOf i).toNat)
        case atStart => exact ⟨0, 0, by omega, rfl, rfl⟩
        case round =>
          obtain ⟨j, q, hj, rfl, rfl⟩ := hrel
          by_cases hlt : j < m
          · obtain ⟨a1, x1, y1, rfl, hc1, hc2, hr1, hr2, _, hx1⟩ := o17.out.moves.at_ hlt
            obtain ⟨a2, x2, y2, rfl, hd1, hd2, hs1, hs2, _, hx2⟩ := om7.out.moves.at_ hlt
            obtain ⟨rfl, rfl⟩ : x1 = x2 ∧ y1 = y2 := by
              have e := hx1.out
              rw [hx2.out] at e
              injection e with e
              injection e with e1 e2
              exact ⟨e1.symm, e2.symm⟩
            have hlt' : (j : Int) < m := by omega
            clear hx1 hx2
            go_wp2_with fail
            go_quiet (fail)
            go_wp2_with fail
            go_roundw
            case rel => exact ⟨j + 1, _, by omega, by go_num, rfl⟩
            case measure => simp [intOf]; omega
          · obtain rfl : j = m := by omega
            have OW8 : Hid (OwnI (w7.drewN q) w5.heap.size w6.heap.size B k d xs) := OW7.out.same (fun _ _ _ => rfl)
            have B8 := below_drewN B7 q
            have z8 : w6.heap.size ≤ (w7.drewN q).heap.size := z7
            generalize w7.drewN q = w8 at OW8 B8 z8 ⊢
            clear OW7 B7 z7 o17 om7
            by_cases hneg : at_ < 0
            · go_wp2_with fail
              go_ret
              exact ⟨rfl, B8⟩
            · by_cases h5 : k = 5
              · subst h5
                go_wp2_with fail
                go_ret
                exact ⟨rfl, B8⟩
              · have hk4 : k ≤ 4 := by
                  rcases Nat.lt_or_ge 5 k with h6 | h6
                  · have := place_long (xs := xs) (by omega)
                    omega
                  · omega
                have hk5' : ((k : Int) == 5) = false := by simp only [beq_eq_false_iff_ne, ne_eq]; omega
                have hps := hide (place_snoc (xs := xs) (by omega) (by omega))
                have z9 : (w8.alloc (.cells #[] 3)).heap.size = w8.heap.size + 1 := by simp
                have q0 : (w8.alloc (.cells #[] 3)).ownsRow w8.heap.size 3 1 (.slice (some ⟨w8.heap.size, 0, none⟩) 0 0) 0 (([] : List Int).map (Value.int .i64)) := by
                  simpa using World.ownsRow_lit (size := 1) (e := 3) (base := w8.heap.size) w8 #[] 0 (Nat.le_refl _) (by unfold maxLen; omega) rfl
                have OW9 := (OW8.out.ints).below (below_alloc w8 (.cells #[] 3)) z8
                have B9 := B8.trans ((below_alloc w8 (.cells #[] 3)).mono B8.size)
                have hnews : ∀ ad, B = some ad → ∀ (j : Nat) u, (xs.map (Value.int .i64))[j]? = some u → (w8.alloc (.cells #[] 3)).cell? (ad.add j) = some u := fun ad e j u hu => by
                  rw [List.getElem?_map] at hu
                  cases hy : xs[j]? with
                  | none => rw [hy] at hu; cases hu
                  | some y =>
                    rw [hy] at hu
                    injection hu with hu
                    subst hu
                    have hk0 : 0 < k := by have := (List.getElem?_eq_some_iff.1 hy).1; omega
                    obtain ⟨ae, e2, _, _, hc⟩ := OW9.cells hk0
                    rw [e] at e2
                    injection e2 with e2
                    subst e2
                    exact hc j y hy
                have hBn : B = none → k = 0 ∧ d = 0 := fun e => by
                  rcases OW8.out.own.2 with ⟨e1, rfl⟩ | ⟨g, cap, cur, e1, _⟩
                  · injection e1 with _ _ e3
                    exact ⟨rfl, e3⟩
                  · rw [e] at e1
                    injection e1 with e1
                    cases e1
                have hone : ∀ u ∈ xs.map (Value.int .i64), u.oneCell' = true := fun u hu => by
                  obtain ⟨y, _, rfl⟩ := List.mem_map.1 hu
                  rfl
                have HB9 := hide B9
                clear B9
                go_wp2_with (first
                  | (at_builtin; refine wpl_appG (by kernel_rfl) (.tmp 105) (.tmp 106) 34 rfl _ w8.heap.size 3 i0 (.int .i64 0) 1 8 Tryd.underlying34 hi0 hz0 hz1 hz2 rfl (by omega) (some ⟨w8.heap.size, 0, none⟩) 0 0 (([] : List Int).map (Value.int .i64)) rfl q0 B k d (xs.map (Value.int .i64)) rfl (by simpa using xl) hnews hBn hone (by omega) (by omega) (by omega) ?_; intro A4 c4 w9 hap1; simp only [Nat.zero_add, List.nil_append, List.map_nil] at hap1)
                  | (at_builtin; refine wpl_app1G (by kernel_rfl) (.tmp 107) (.tmp 108) 34 rfl w8.heap.size 3 i0 (.int .i64 0) 1 8 Tryd.underlying34 hi0 hz0 hz1 hz2 rfl (by omega) w9 #[.int .i64 1] A4 k c4 1 _ rfl rfl hap1.1 rfl (by simp [Value.oneCell']) (by omega) (by omega) (by have := hap1.2.1.size; omega) ?_; intro A5 c5 w10 hap2 hlt2))
                have O5 : OwnI w10 w8.heap.size w10.heap.size A5 (k + 1) c5 (xs ++ [1]) := ⟨by rw [List.map_append]; exact hap2.1, fun ad e => (owns_lt hap2.1 ad e).2, rng_snocI OW8.out.rng ⟨by omega, by omega⟩⟩
                have hz8 := B8.size
                have B10 : Below w.heap.size w w9 := hap1.below HB9.out (by omega) (fun ad e => by injection e with e; subst e; exact hz8)
                have B11 : Below w.heap.size w w10 := hap2.below B10 B10.size (fun ad e => Nat.le_trans hz8 (owns_lt hap1.1 ad e).1)
                have hP5 := hide (impl_PlaceOfWord A5 (k + 1) c5 (xs ++ [1]) w8.heap.size w10.heap.size w10 O5.ints)
                rw [hps.out, hat] at hP5
                clear O5 hap1 hap2 B10 hnews hBn hone OW8 OW9 HB9 B8 q0
                refine hP5.out.mono ?_
                rintro e w' ⟨rfl, rfl⟩
                go_wp2_with fail
                go_ret
                exact ⟨by simp, B11⟩
      | false =>
        obtain ⟨w7, hw7⟩ : ∃ w7 : World, w7 = w6 := ⟨_, rfl⟩
        have B7 : Below w.heap.size w w7 := by rw [hw7]; exact B6
        have OW7 : Hid (OwnI w7 w5.heap.size w6.heap.size B k d xs) := by show OwnI _ _ _ _ _ _ _; rw [hw7]; exact OW.out
        have z7 : w6.heap.size ≤ w7.heap.size := by rw [hw7]; exact Nat.le_refl _
        have o17 : Hid (OwnM w7 w1.heap.size w2.heap.size A1 m c1 ms) := by show OwnM _ _ _ _ _ _ _; rw [hw7]; exact o16.out
        have om7 : Hid (OwnM w7 w.heap.size wd.heap.size Am m dm ms) := by show OwnM _ _ _ _ _ _ _; rw [hw7]; exact om6.out
        rw [← hw7]
        clear B6 OW hw7 o16 om6
        go_wp2_with fail
        refine (spec_PlaceOfWord B k d xs w5.heap.size w6.heap.size w7 OW7.out.ints).mono ?_
        rw [hat]
        rintro e w' ⟨rfl, rfl⟩
        go_wp2_with fail
        have hmi : (m : Int) ≤ 4 := by omega
        go_loopw [14] (fun i wr => ∃ (j q : Nat), j ≤ m ∧ i = .int .i64 j ∧ wr = w7.drewN q) (fun i _ => m - (intOf i).toNat)
        case atStart => exact ⟨0, 0, by omega, rfl, rfl⟩
        case round =>
          obtain ⟨j, q, hj, rfl, rfl⟩ := hrel
          by_cases hlt : j < m
          · obtain ⟨a1, x1, y1, rfl, hc1, hc2, hr1, hr2, _, hx1⟩ := o17.out.moves.at_ hlt
            obtain ⟨a2, x2, y2, rfl, hd1, hd2, hs1, hs2, _, hx2⟩ := om7.out.moves.at_ hlt
            obtain ⟨rfl, rfl⟩ : x1 = x2 ∧ y1 = y2 := by
              have e := hx1.out
              rw [hx2.out] at e
              injection e with e
              injection e with e1 e2
              exact ⟨e1.symm, e2.symm⟩
            have hlt' : (j : Int) < m := by omega
            clear hx1 hx2
            go_wp2_with fail
            go_quiet (fail)
            go_wp2_with fail
            go_roundw
            case rel => exact ⟨j + 1, _, by omega, by go_num, rfl⟩
            case measure => simp [intOf]; omega
          · obtain rfl : j = m := by omega
            have OW8 : Hid (OwnI (w7.drewN q) w5.heap.size w6.heap.size B k d xs) := OW7.out.same (fun _ _ _ => rfl)
            have B8 := below_drewN B7 q
            have z8 : w6.heap.size ≤ (w7.drewN q).heap.size := z7
            generalize w7.drewN q = w8 at OW8 B8 z8 ⊢
            clear OW7 B7 z7 o17 om7
            by_cases hneg : at_ < 0
            · go_wp2_with fail
              go_ret
              exact ⟨rfl, B8⟩
            · by_cases h5 : k = 5
              · subst h5
                go_wp2_with fail
                go_ret
                exact ⟨rfl, B8⟩
              · have hk4 : k ≤ 4 := by
                  rcases Nat.lt_or_ge 5 k with h6 | h6
                  · have := place_long (xs := xs) (by omega)
                    omega
                  · omega
                have hk5' : ((k : Int) == 5) = false := by simp only [beq_eq_false_iff_ne, ne_eq]; omega
                have hps := hide (place_snoc (xs := xs) (by omega) (by omega))
                have z9 : (w8.alloc (.cells #[] 3)).heap.size = w8.heap.size + 1 := by simp
                have q0 : (w8.alloc (.cells #[] 3)).ownsRow w8.heap.size 3 1 (.slice (some ⟨w8.heap.size, 0, none⟩) 0 0) 0 (([] : List Int).map (Value.int .i64)) := by
                  simpa using World.ownsRow_lit (size := 1) (e := 3) (base := w8.heap.size) w8 #[] 0 (Nat.le_refl _) (by unfold maxLen; omega) rfl
                have OW9 := (OW8.out.ints).below (below_alloc w8 (.cells #[] 3)) z8
                have B9 := B8.trans ((below_alloc w8 (.cells #[] 3)).mono B8.size)
                have hnews : ∀ ad, B = some ad → ∀ (j : Nat) u, (xs.map (Value.int .i64))[j]? = some u → (w8.alloc (.cells #[] 3)).cell? (ad.add j) = some u := fun ad e j u hu => by
                  rw [List.getElem?_map] at hu
                  cases hy : xs[j]? with
                  | none => rw [hy] at hu; cases hu
                  | some y =>
                    rw [hy] at hu
                    injection hu with hu
                    subst hu
                    have hk0 : 0 < k := by have := (List.getElem?_eq_some_iff.1 hy).1; omega
                    obtain ⟨ae, e2, _, _, hc⟩ := OW9.cells hk0
                    rw [e] at e2
                    injection e2 with e2
                    subst e2
                    exact hc j y hy
                have hBn : B = none → k = 0 ∧ d = 0 := fun e => by
                  rcases OW8.out.own.2 with ⟨e1, rfl⟩ | ⟨g, cap, cur, e1, _⟩
                  · injection e1 with _ _ e3
                    exact ⟨rfl, e3⟩
                  · rw [e] at e1
                    injection e1 with e1
                    cases e1
                have hone : ∀ u ∈ xs.map (Value.int .i64), u.oneCell' = true := fun u hu => by
                  obtain ⟨y, _, rfl⟩ := List.mem_map.1 hu
                  rfl
                have HB9 := hide B9
                clear B9
                go_wp2_with (first
                  | (at_builtin; refine wpl_appG (by kernel_rfl) (.tmp 105) (.tmp 106) 34 rfl _ w8.heap.size 3 i0 (.int .i64 0) 1 8 Tryd.underlying34 hi0 hz0 hz1 hz2 rfl (by omega) (some ⟨w8.heap.size, 0, none⟩) 0 0 (([] : List Int).map (Value.int .i64)) rfl q0 B k d (xs.map (Value.int .i64)) rfl (by simpa using xl) hnews hBn hone (by omega) (by omega) (by omega) ?_; intro A4 c4 w9 hap1; simp only [Nat.zero_add, List.nil_append, List.map_nil] at hap1)
                  | (at_builtin; refine wpl_app1G (by kernel_rfl) (.tmp 107) (.tmp 108) 34 rfl w8.heap.size 3 i0 (.int .i64 0) 1 8 Tryd.underlying34 hi0 hz0 hz1 hz2 rfl (by omega) w9 #[.int .i64 1] A4 k c4 1 _ rfl rfl hap1.1 rfl (by simp [Value.oneCell']) (by omega) (by omega) (by have := hap1.2.1.size; omega) ?_; intro A5 c5 w10 hap2 hlt2))
                have O5 : OwnI w10 w8.heap.size w10.heap.size A5 (k + 1) c5 (xs ++ [1]) := ⟨by rw [List.map_append]; exact hap2.1, fun ad e => (owns_lt hap2.1 ad e).2, rng_snocI OW8.out.rng ⟨by omega, by omega⟩⟩
                have hz8 := B8.size
                have B10 : Below w.heap.size w w9 := hap1.below HB9.out (by omega) (fun ad e => by injection e with e; subst e; exact hz8)
                have B11 : Below w.heap.size w w10 := hap2.below B10 B10.size (fun ad e => Nat.le_trans hz8 (owns_lt hap1.1 ad e).1)
                have hP5 := hide (impl_PlaceOfWord A5 (k + 1) c5 (xs ++ [1]) w8.heap.size w10.heap.size w10 O5.ints)
                rw [hps.out, hat] at hP5
                clear O5 hap1 hap2 B10 hnews hBn hone OW8 OW9 HB9 B8 q0
                refine hP5.out.mono ?_
                rintro e w' ⟨rfl, rfl⟩
                go_wp2_with fail
                go_ret
                exact ⟨by simp, B11⟩
theorem own : ownKnob Tryd.prog.godebug = none := by kernel_rfl
theorem laidOut : laidOutB Tryd.prog = true := by kernel_rfl
set_option maxRecDepth 100000 in
theorem lifted (os : Os) (started : os.Started) (H : Type) (enc : TypeId × Value → H) :
    ReturnsInHanded {} Tryd.checked os 4 .any (fun w args => (Rows.fnSchemeTextSpec.pre enc Tryd.prog Tryd.f4 [] false w args ∧ laidMetH Tryd.prog [("unicode/utf8.acceptRanges", Rows.laid_unicode_utf8_acceptRanges), ("unicode/utf8.first", Rows.laid_unicode_utf8_first)] w) ∧ sizedMet enc Tryd.prog Tryd.f4 (OpenSpec.ofChange Rows.fnSchemeTextSpec) false w args) (Rows.fnSchemeTextSpec.post enc Tryd.prog Tryd.f4 false true false false) := by
  refine returnsInHanded_of_calls own started (by kernel_rfl)
    (ChangeSpec.witness_shaped (enc := enc) (C := Tryd.checked) (os := os) (fn := Tryd.f4) (X := fun w _ => laidMetH Tryd.prog [("unicode/utf8.acceptRanges", Rows.laid_unicode_utf8_acceptRanges), ("unicode/utf8.first", Rows.laid_unicode_utf8_first)] w) false (laidWorld os) #[.slice none 0 0] 8 rfl (World.shaped_of_RefB (by kernel_rfl) (by kernel_rfl)) (by kernel_rfl) (by kernel_rfl) (by kernel_rfl) (laidWorld_met os _)) ?_
  intro w0 tape inp _ hsh _ hok hpre _
  obtain ⟨_, _, _, fn', hfn', _, _, _, _, hval0⟩ := hok
  obtain rfl : fn' = Tryd.f4 := Option.some.inj (hfn'.symm.trans Tryd.func4)
  obtain ⟨⟨⟨ds, gs, before, hW0, _⟩, _⟩, _⟩ := hpre
  have hW := DataW.Whole.of_heap (w' := w0.forCall tape inp) (by rfl) hW0
  obtain ⟨mx, hmx⟩ := max_cell hsh
  generalize w0.forCall tape inp = W at hW hval0 hmx ⊢
  generalize inp.args = args at hW hval0 ⊢
  refine (show Calls Tryd.prog 4 args W (fun e W' => ∃ v, e = .returned v ∧ Rows.fnSchemeTextSpec.post enc Tryd.prog Tryd.f4 false true false false W args v W') from ?_).mono fun e W' ⟨v, he, hp⟩ => by subst he; exact ChangeSpec.post_blind hp
  have hval : ∀ (j : Nat) t v, Tryd.f4.params[j]? = some t → args[j]? = some v → Value.okWide Tryd.prog W .any _ t v := hval0
  clear hW0
  have hW' := hW
  obtain ⟨p, q, hA0, hV, rfl, hfz, hnd⟩ := hW
  have hA : DataW.TrodAll enc Tryd.prog W 0 (fun _ => true) true Tryd.f4.params.toList args.toList ds p := hA0
  rw [Tryd.params4] at hA hval
  obtain ⟨v0, vs0, d0, ds0, p0, q0, hargs, rfl, rfl, h0, t0⟩ := trodAll_cons hA
  obtain ⟨rfl, rfl, rfl⟩ := trodAll_nil t0
  obtain rfl : args = #[v0] := by cases args; simp_all
  obtain ⟨rfl, rfl⟩ := trodVars_none hV
  have k0 := h0
  have lt0 : ∀ x ∈ p0, x.block < W.heap.size := by obtain ⟨m, hm⟩ := k0; exact DataW.trod_lt m _ _ _ hm
  obtain ⟨a0, n0, c0, rfl⟩ := okWide_slice Tryd.underlying28 (hval 0 28 v0 rfl rfl)
  have r0 := open_pbytes h0
  clear hA0 hval0
  refine (walk a0 n0 c0 mx W r0 hmx).mono fun e W' ⟨he, bel⟩ => ?_
  subst he
  exact ⟨_, rfl, _, _, _, [], _, [], hW', trodAll_mk1 (shut_bool Tryd.underlying4 _), (trodAll_cons_mk (Below.trod laidOut (by kernel_rfl) (of_decide_eq_true (by kernel_rfl)) k0 bel lt0) trodAll_mk0), rfl, bel.frame _, fun h => by cases h⟩
theorem over : Rows.fnSchemeTextRow.holds Tryd.pinned (OpenSpec.ofChange Rows.fnSchemeTextSpec) :=
  OpenClaim.holds_of_wide 4 Tryd.f4 rfl rfl rfl rfl rfl rfl rfl ⟨rfl, rfl, rfl, rfl, rfl⟩ rfl rfl rfl rfl rfl (by kernel_rfl) Tryd.func4 (by kernel_rfl)
    (of_decide_eq_true (by kernel_rfl)) (by unfold Func.isWrapper; first | (rw [if_pos (by decide +kernel)]; kernel_rfl) | (rw [if_neg (by decide +kernel)]; exact ⟨rfl, rfl⟩))
    (fun os started H enc _ => lifted os started H enc)
theorem proved : Rows.FnSchemeTextCardSaid :=
  Claim7.holds_tied_plain_at .later [] [.data, .pinned] true (true, "73a24c3f95b5679b91fab7cb08920b5c64418f95723d55d11a433ea54c464d59") false
    over (fun _ h => by cases h) (by kernel_rfl) (fun _ h => by cases h) fnSchemeText_row_tie rfl ⟨rfl, rfl⟩ (by kernel_rfl) rfl
    (fun f fn hf hfn => by
      obtain rfl : f = 4 := Option.some.inj ((show Tryd.prog.funcNamed Rows.fnSchemeTextRow.func = some 4 by kernel_rfl).symm.trans hf) |>.symm
      obtain rfl : fn = Tryd.f4 := (Option.some.inj (Tryd.func4.symm.trans hfn)).symm
      exact ⟨by kernel_rfl, fun j t ht => by
        have hm : t ∈ Tryd.f4.params.toList := by simpa using Array.mem_of_getElem? ht
        have hall : (Tryd.f4.params.toList.all fun u => !Tryd.prog.wantsStandIn u) = true := by kernel_rfl
        exact (show Tryd.prog.wantsStandIn t = false by simpa using List.all_eq_true.1 hall t hm)⟩)
    (by kernel_rfl)
#print axioms proved

end Go.Proofs.YtppekbokaknocaaDoor.fnSchemeText
