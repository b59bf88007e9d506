/- Draws of texts of schemes and of words: the walks. -/
import Derived.Test.YtppekbokaknocaaDoorDrawW
import Derived.Test.YtppekbokaknocaaDoorFmtS
import Derived.Test.YtppekbokaknocaaDoorKnownS
import Derived.Laws.IdiomStrings
namespace Go.Proofs.YtppekbokaknocaaDoor
open Go.RowKit
set_option linter.unusedSimpArgs false
set_option linter.unusedVariables false
set_option maxRecDepth 20000

/-- A pick out of a list of integers that has just been laid. -/
theorem spec_l1PickInt (hi g b n : Nat) (xs : List Int) (w : World) (h : Cur w hi g) (hn0 : 0 < n) (hn : n ≤ 256) (hl : xs.length = n) (hb : b < w.heap.size) (hbg : g < b) (hc : ∀ j x, xs[j]? = some x → w.cell? ⟨b, j, none⟩ = some (.int .i64 x)) :
    Calls Tryd.prog 34 #[.pointer (some ⟨g, 0, none⟩), .slice (some ⟨b, 0, none⟩) n n] w fun e w' => ∃ x, e = .returned (.int .i64 x) ∧ x ∈ xs ∧ Cur w' hi g ∧ Touch g (g + 1) w w' := by
  have HC := hide hc
  clear hc
  go_enter Tryd.func34, Tryd.ntmps34
  go_wp2_with fail
  refine (spec_l1Below hi g (n : Int) w h (by omega) (by omega)).mono ?_
  rintro e w1 ⟨i, rfl, hi0, hi1, c1, t1⟩
  obtain ⟨k, rfl⟩ : ∃ k : Nat, i = k := ⟨i.toNat, by omega⟩
  obtain ⟨x, hx⟩ : ∃ x, xs[k]? = some x := ⟨_, List.getElem?_eq_getElem (by omega)⟩
  have hcell : w1.cell? ⟨b, k, none⟩ = some (.int .i64 x) := (World.cell?_of_block (a := ⟨b, k, none⟩) (t1.block b hb (.inr (by omega)))).trans (HC.out k x hx)
  have hxm := hide (List.mem_of_getElem? hx)
  clear hx
  go_wp2_with fail
  go_ret
  exact ⟨x, rfl, hxm.out, c1, t1⟩

/-- A pick out of a list of texts that has just been laid. -/
theorem spec_l1Pick (hi g b n : Nat) (xs : List ByteArray) (w : World) (h : Cur w hi g) (hn0 : 0 < n) (hn : n ≤ 256) (hl : xs.length = n) (hb : b < w.heap.size) (hbg : g < b) (hc : ∀ j x, xs[j]? = some x → w.cell? ⟨b, j, none⟩ = some (.string x)) :
    Calls Tryd.prog 53 #[.pointer (some ⟨g, 0, none⟩), .slice (some ⟨b, 0, none⟩) n n] w fun e w' => ∃ x, e = .returned (.string x) ∧ x ∈ xs ∧ Cur w' hi g ∧ Touch g (g + 1) w w' := by
  have HC := hide hc
  clear hc
  go_enter Tryd.func53, Tryd.ntmps53
  go_wp2_with fail
  refine (spec_l1Below hi g (n : Int) w h (by omega) (by omega)).mono ?_
  rintro e w1 ⟨i, rfl, hi0, hi1, c1, t1⟩
  obtain ⟨k, rfl⟩ : ∃ k : Nat, i = k := ⟨i.toNat, by omega⟩
  obtain ⟨x, hx⟩ : ∃ x, xs[k]? = some x := ⟨_, List.getElem?_eq_getElem (by omega)⟩
  have hcell : w1.cell? ⟨b, k, none⟩ = some (.string x) := (World.cell?_of_block (a := ⟨b, k, none⟩) (t1.block b hb (.inr (by omega)))).trans (HC.out k x hx)
  have hxm := hide (List.mem_of_getElem? hx)
  clear hx
  go_wp2_with fail
  go_ret
  exact ⟨x, rfl, hxm.out, c1, t1⟩

theorem lit_cells {w : World} {vs : List Value} {t : TypeId} : ∀ j v, vs[j]? = some v → (w.alloc (.cells vs.toArray t)).cell? ⟨w.heap.size, j, none⟩ = some v := fun j v hv => by
  rw [cell_of_row _ _ _ vs.toArray t (0, 0) (heap_alloc_new w _)]
  simpa using hv

set_option maxHeartbeats 1000000 in
theorem spec_dBent (hi g : Nat) (w : World) (h : Cur w hi g) :
    Calls Tryd.prog 55 #[.pointer (some ⟨g, 0, none⟩)] w fun e w' => ∃ x, e = .returned (.int .i64 x) ∧ R64 x ∧ Cur w' hi g ∧ Touch g (g + 1) w w' := by
  go_enter Tryd.func55, Tryd.ntmps55
  go_wp2_with fail
  refine (spec_l1Once hi g 20 w h (by omega) (by omega)).mono ?_
  rintro e w1 ⟨ob, rfl, c1, t1⟩
  have z1 := t1.size
  have g1 := h.lt
  cases ob with
  | true =>
    go_wp2_with fail
    have cA := c1.below (below_alloc w1 (.cells #[.int .i64 (-1), .int .i64 1000000271, .int .i64 9223372036854775807] 3))
    have tA := t1.alloc (.cells #[.int .i64 (-1), .int .i64 1000000271, .int .i64 9223372036854775807] 3)
    have hcs : ∀ j x, ([-1, 1000000271, 9223372036854775807] : List Int)[j]? = some x → (w1.alloc (.cells #[.int .i64 (-1), .int .i64 1000000271, .int .i64 9223372036854775807] 3)).cell? ⟨w1.heap.size, j, none⟩ = some (.int .i64 x) := fun j x hx =>
      lit_cells (vs := [.int .i64 (-1), .int .i64 1000000271, .int .i64 9223372036854775807]) j _ (by
        have := congrArg (Option.map (Value.int .i64)) hx
        rw [← List.getElem?_map] at this
        exact this)
    refine (spec_l1PickInt hi g w1.heap.size 3 [-1, 1000000271, 9223372036854775807] _ cA (by omega) (by omega) rfl (by simp) (by omega) hcs).mono ?_
    rintro e w2 ⟨x, rfl, hx, c2, t2⟩
    have hxr : R64 x := by
      simp only [List.mem_cons, List.not_mem_nil, or_false] at hx
      rcases hx with rfl | rfl | rfl <;> (constructor <;> omega)
    have T := tA.trans t2
    clear hcs cA tA t2 hx
    go_wp2_with fail
    go_ret
    exact ⟨x, rfl, hxr, c2, T⟩
  | false =>
    go_wp2_with fail
    refine (spec_dNum hi g w1 c1).mono ?_
    rintro e w2 ⟨x, rfl, hx0, hx1, c2, t2⟩
    have T := t1.trans t2
    clear t2
    go_wp2_with fail
    go_ret
    exact ⟨x, rfl, ⟨by omega, by omega⟩, c2, T⟩

def sliceLenOf : Value → Nat
  | .slice _ n _ => n
  | _ => 0
theorem known_len9 (nm : ByteArray) : (knownF nm).1.length ≤ 9 := by
  unfold knownF
  split
  · simp
  · split
    · simp [strangL]
    · split
      · simp [jumpL, ksL, timesM, strangL]
      · simp
theorem rng_snoc {ms : List (Int × Int)} {a b : Int} (h : ∀ m ∈ ms, R64 m.1 ∧ R64 m.2) (ha : R64 a) (hb : R64 b) : ∀ m ∈ ms ++ [(a, b)], R64 m.1 ∧ R64 m.2 := fun m hm => by
  rcases List.mem_append.1 hm with hm | hm
  · exact h m hm
  · rw [List.mem_singleton.1 hm]; exact ⟨ha, hb⟩

set_option maxRecDepth 100000 in
set_option maxHeartbeats 2000000 in
theorem spec_dAnyMoves (hi g : Nat) (w : World) (h : Cur w hi g) :
    Calls Tryd.prog 31 #[.pointer (some ⟨g, 0, none⟩)] w fun e w' => ∃ (A : Option Addr) (n c : Nat), e = .returned (.slice A n c) ∧ n ≤ 13 ∧ (∃ ms, OwnM w' w.heap.size w'.heap.size A n c ms) ∧ Cur w' hi g ∧ Touch g (g + 1) w w' := by
  obtain ⟨i0, hi0, hz0, hz1, hz2⟩ := info_parts info_move
  obtain ⟨glt, hgl⟩ := h.lt
  go_enter Tryd.func31, Tryd.ntmps31
  go_wp2_with fail
  refine (spec_l1Once hi g 4 w h (by omega) (by omega)).mono ?_
  rintro e w1 ⟨ob, rfl, c1, t1⟩
  have z1 := t1.size
  cases ob with
  | true =>
    go_wp2_with fail
    have cA := c1.below (below_alloc w1 (.cells #[.string ⟨#[108, 105, 101]⟩, .string ⟨#[115, 116, 114, 97, 110, 103]⟩, .string ⟨#[106, 117, 109, 112]⟩] 9))
    have tA := t1.alloc (.cells #[.string ⟨#[108, 105, 101]⟩, .string ⟨#[115, 116, 114, 97, 110, 103]⟩, .string ⟨#[106, 117, 109, 112]⟩] 9)
    have hcs : ∀ j x, ([⟨#[108, 105, 101]⟩, ⟨#[115, 116, 114, 97, 110, 103]⟩, ⟨#[106, 117, 109, 112]⟩] : List ByteArray)[j]? = some x → (w1.alloc (.cells #[.string ⟨#[108, 105, 101]⟩, .string ⟨#[115, 116, 114, 97, 110, 103]⟩, .string ⟨#[106, 117, 109, 112]⟩] 9)).cell? ⟨w1.heap.size, j, none⟩ = some (.string x) := fun j x hx =>
      lit_cells (vs := [.string ⟨#[108, 105, 101]⟩, .string ⟨#[115, 116, 114, 97, 110, 103]⟩, .string ⟨#[106, 117, 109, 112]⟩]) j _ (by
        have := congrArg (Option.map Value.string) hx
        rw [← List.getElem?_map] at this
        exact this)
    refine (spec_l1Pick hi g w1.heap.size 3 _ _ cA (by omega) (by omega) rfl (by simp) (by omega) hcs).mono ?_
    rintro e w2 ⟨x, rfl, _, c2, t2⟩
    have T := tA.trans t2
    have z2 := T.size
    clear hcs cA tA t2
    go_wp2_with fail
    refine (spec_KnownScheme x w2).mono ?_
    rintro e w3 ⟨A, n, c, rfl, o3, b3⟩
    have hn : n ≤ 9 := by rw [← o3.len]; exact known_len9 x
    have c3 := c2.below b3
    have T3 := T.then_below b3 (by omega)
    have O3 : OwnM w3 w.heap.size w3.heap.size A n c (knownF x).1 := ⟨owns_low o3.own (by omega), o3.lt, o3.rng⟩
    clear o3 b3 c2 T
    go_wp2_with fail
    go_ret
    exact ⟨A, n, c, rfl, by omega, ⟨_, O3⟩, c3, T3⟩
  | false =>
    go_wp2_with fail
    refine (spec_dMoves hi g 5 w1 c1 (by omega)).mono ?_
    rintro e w2 ⟨A', k, c', ms, rfl, hk, o2, _, c2, t2⟩
    have z2 := t2.size
    have T2 := t1.trans t2
    go_wp2_with fail
    refine (spec_l1Below hi g 16 w2 c2 (by omega) (by omega)).mono ?_
    rintro e w3 ⟨x, rfl, hx0, hx1, c3, t3⟩
    have z3 := t3.size
    have T3 := T2.trans t3
    have o3 := o2.same (t3.same (.inr (by omega)) (Nat.le_refl _))
    have own3 : w3.ownsRow w.heap.size 38 2 (.slice A' k c') k (ms.flatMap mcells) := owns_low o3.own (by omega)
    have rng3 := hide o3.rng
    clear o2 t2 t3 T2 o3
    by_cases x0 : x = 0
    · subst x0
      go_wp2_with (at_builtin; refine wpl_app1 rfl (.tmp 22) (.tmp 24) 22 rfl w.heap.size 38 i0 (.agg #[.int .i64 0, .int .i64 0]) 2 16 Tryd.underlying22 hi0 hz0 hz1 hz2 rfl (by omega) _ #[.int .i64 2, .int .i64 1] A' k c' 1 _ rfl rfl own3 rfl (by simp [Value.oneCell']) (by omega) (by omega) (by omega) ?_; intro A2 c4 w5 happ hlt2)
      have HB := hide (happ.below (Below.refl w.heap.size w3) (by omega) (fun ad e => (owns_lt own3 ad e).1))
      have O : OwnM w5 w.heap.size w5.heap.size A2 (k + 1) c4 (ms ++ [(2, 1)]) := ⟨by rw [mcells_snoc]; exact happ.1, fun ad e => (owns_lt happ.1 ad e).2, rng_snoc rng3.out ⟨by omega, by omega⟩ ⟨by omega, by omega⟩⟩
      have C5 := c3.low HB.out (by omega)
      have T5 := T3.then_below HB.out (Nat.le_refl _)
      clear happ own3 HB
      go_wp2_with fail
      go_ret
      exact ⟨A2, k + 1, c4, rfl, by omega, ⟨_, O⟩, C5, T5⟩
    · have hx0' : (x == 0) = false := by simpa using x0
      by_cases x1 : x = 1
      · subst x1
        go_wp2_with fail
        refine (spec_dBent hi g w3 c3).mono ?_
        rintro e w4 ⟨v, rfl, hv, c4', t4⟩
        have z4 := t4.size
        have T4 := T3.trans t4
        have own4 : w4.ownsRow w.heap.size 38 2 (.slice A' k c') k (ms.flatMap mcells) := owns_same own3 fun ad e => t4.block ad.block (owns_lt own3 ad e).2 (.inr (by have := (owns_lt own3 ad e).1; omega))
        clear own3 t4 T3 c3
        go_wp2_with (at_builtin; refine wpl_app1 rfl (.tmp 28) (.tmp 32) 22 rfl w.heap.size 38 i0 (.agg #[.int .i64 0, .int .i64 0]) 2 16 Tryd.underlying22 hi0 hz0 hz1 hz2 rfl (by omega) _ #[.int .i64 0, .int .i64 v] A' k c' 1 _ rfl rfl own4 rfl (by simp [Value.oneCell']) (by omega) (by omega) (by omega) ?_; intro A2 c4 w5 happ hlt2)
        have HB := hide (happ.below (Below.refl w.heap.size w4) (by omega) (fun ad e => (owns_lt own4 ad e).1))
        have O : OwnM w5 w.heap.size w5.heap.size A2 (k + 1) c4 (ms ++ [(0, v)]) := ⟨by rw [mcells_snoc]; exact happ.1, fun ad e => (owns_lt happ.1 ad e).2, rng_snoc rng3.out ⟨by omega, by omega⟩ hv⟩
        have C5 := c4'.low HB.out (by omega)
        have T5 := T4.then_below HB.out (Nat.le_refl _)
        clear happ own4 HB
        go_wp2_with fail
        go_ret
        exact ⟨A2, k + 1, c4, rfl, by omega, ⟨_, O⟩, C5, T5⟩
      · have hx1' : (x == 1) = false := by simpa using x1
        by_cases x2 : x = 2
        · subst x2
          have HO := hide own3
          clear own3
          go_wp2_with fail
          go_loopw [5] (fun l wr => ∃ (k : Nat) (A' : Option Addr) (c' : Nat) (ms : List (Int × Int)), k ≤ 13 ∧ l = .slice A' k c' ∧ Hid (wr.ownsRow w.heap.size 38 2 (.slice A' k c') k (ms.flatMap mcells)) ∧ Hid (∀ m ∈ ms, R64 m.1 ∧ R64 m.2) ∧ Hid (Cur wr hi g) ∧ Hid (Touch g (g + 1) w wr))
            (fun l _ => 14 - sliceLenOf l)
          case atStart => exact ⟨k, A', c', ms, by omega, rfl, HO, rng3, c3, T3⟩
          case round =>
            clear HO rng3 c3 T3 hk
            obtain ⟨k, A', c', ms, hk, rfl, hown, hrg, hc, hT⟩ := hrel
            have hzr := hT.out.size
            go_wp2_with fail
            refine (spec_l1Below hi g 2 wr hc.out (by omega) (by omega)).mono ?_
            rintro e w6 ⟨r, rfl, hr0, hr1, c6, t6⟩
            have z6 := t6.size
            have T6 := hT.out.trans t6
            have own6 : w6.ownsRow w.heap.size 38 2 (.slice A' k c') k (ms.flatMap mcells) := owns_same hown.out fun ad e => t6.block ad.block (owns_lt hown.out ad e).2 (.inr (by have := (owns_lt hown.out ad e).1; omega))
            clear hown hc hT t6
            by_cases hlt : (k : Int) < 12 + r
            · go_wp2_with (at_builtin; refine wpl_app1 rfl (.tmp 42) (.tmp 44) 22 rfl w.heap.size 38 i0 (.agg #[.int .i64 0, .int .i64 0]) 2 16 Tryd.underlying22 hi0 hz0 hz1 hz2 rfl (by omega) _ #[.int .i64 0, .int .i64 1] A' k c' 1 _ rfl rfl own6 rfl (by simp [Value.oneCell']) (by omega) (by omega) (by omega) ?_; intro A2 c4 w5 happ hlt2)
              have HB := hide (happ.below (Below.refl w.heap.size w6) (by omega) (fun ad e => (owns_lt own6 ad e).1))
              have O : Hid (w5.ownsRow w.heap.size 38 2 (.slice A2 (k + 1) c4) (k + 1) ((ms ++ [(0, 1)]).flatMap mcells)) := by
                show World.ownsRow _ _ _ _ _ _ _
                rw [mcells_snoc]; exact happ.1
              have R5 : Hid (∀ m ∈ ms ++ [((0 : Int), (1 : Int))], R64 m.1 ∧ R64 m.2) := rng_snoc hrg.out ⟨by omega, by omega⟩ ⟨by omega, by omega⟩
              have C5 : Hid (Cur w5 hi g) := c6.low HB.out (by omega)
              have T5 : Hid (Touch g (g + 1) w w5) := T6.then_below HB.out (Nat.le_refl _)
              clear happ own6 HB c6 T6
              go_wp2_with fail
              go_roundw
              case rel => exact ⟨k + 1, A2, c4, _, by omega, rfl, O, R5, C5, T5⟩
              case measure => simp [sliceLenOf]; omega
            · have O : OwnM w6 w.heap.size w6.heap.size A' k c' ms := ⟨own6, fun ad e => (owns_lt own6 ad e).2, hrg.out⟩
              clear own6
              go_wp2_with fail
              go_ret
              exact ⟨A', k, c', rfl, hk, ⟨_, O⟩, c6, T6⟩
        · have hx2' : (x == 2) = false := by simpa using x2
          have O : OwnM w3 w.heap.size w3.heap.size A' k c' ms := ⟨own3, fun ad e => (owns_lt own3 ad e).2, rng3.out⟩
          clear own3
          go_wp2_with fail
          go_ret
          exact ⟨A', k, c', rfl, by omega, ⟨_, O⟩, c3, T3⟩
end Go.Proofs.YtppekbokaknocaaDoor
