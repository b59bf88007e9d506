/- What the statements draw: two schemes; three words. -/
import Derived.Test.YtodlfmagkjblgaaDrawW
import Derived.Test.YtodlfmagkjblgaaExp
namespace Go.Proofs.Ytodlfmagkjblgaa
open Go.RowKit
set_option linter.unusedSimpArgs false
set_option linter.unusedVariables false
set_option maxRecDepth 20000

set_option maxHeartbeats 1000000 in
theorem spec_DrawSchemes (hi : Nat) (A : Option Addr) (n c : Nat) (w : World) (h : Bytes w 0 hi A n c) (hh : hi ≤ w.heap.size) :
    Calls Try.prog 45 #[.slice A n c] w fun e w' => ∃ B m d ms C k f ks lo, e = .returned (.tuple #[.slice B m d, .slice C k f]) ∧ m ≤ 4 ∧ k ≤ 4 ∧ OwnM w' w.heap.size lo B m d ms ∧ OwnM w' lo w'.heap.size C k f ks ∧ lo ≤ w'.heap.size ∧
      (∀ m ∈ ms, (0 ≤ m.1 ∧ m.1 ≤ 1) ∧ 0 ≤ m.2 ∧ m.2 < 1000000271) ∧ (∀ m ∈ ks, (0 ≤ m.1 ∧ m.1 ≤ 1) ∧ 0 ≤ m.2 ∧ m.2 < 1000000271) ∧ Below w.heap.size w w' := by
  go_enter Try.func45, Try.ntmps45
  go_wp2_with fail
  refine (spec_l1New hi A n c w h hh).mono ?_
  rintro e w1 ⟨rfl, c1, b1⟩
  have z1 := b1.size
  have l1 := c1.lt
  go_wp2_with fail
  refine (spec_dMoves hi w.heap.size 4 w1 c1 (by omega)).mono ?_
  rintro e w2 ⟨B, m, d, ms, rfl, hm, o2, p2, c2, t2⟩
  have z2 := t2.size
  go_wp2_with fail
  refine (spec_dMoves hi w.heap.size 4 w2 c2 (by omega)).mono ?_
  rintro e w3 ⟨C, k, f, ks, rfl, hk, o3, p3, c3, t3⟩
  have z3 := t3.size
  have o2' := o2.same (t3.same (.inr (by omega)) (Nat.le_refl _))
  have b3 : Below w.heap.size w w3 := (b1.trans (t2.below (Nat.le_refl _) (by omega))).trans (t3.below (Nat.le_refl _) (by omega))
  go_wp2_with fail
  go_ret2
  exact ⟨B, m, d, ms, C, k, f, ks, w2.heap.size, rfl, hm, hk, ⟨owns_low o2'.own (by omega), o2'.lt, o2'.rng⟩, o3, z3, p2, p3, b3⟩

theorem blk_far {w w' : World} {g : Nat} {vs : Array Value} {A : Option Addr} {n c : Nat} (h : BlkN w g vs) (hg : w.grownBy w' (Value.ownBlock (.slice A n c))) (hne : ∀ ad, A = some ad → ad.block ≠ g) : BlkN w' g vs :=
  h.same (hg.block g h.lt (by
    cases A with
    | none => simp [Value.ownBlock]
    | some ad => simp [Value.ownBlock]; exact fun e => hne ad rfl e.symm))
theorem snoc_num {xs : List Int} {x : Int} (h : ∀ y ∈ xs, 0 ≤ y ∧ y < 1000000271) (hx : 0 ≤ x ∧ x < 1000000271) : Hid (∀ y ∈ xs ++ [x], 0 ≤ y ∧ y < 1000000271) := by
  show ∀ y ∈ xs ++ [x], _
  intro y hy
  rcases List.mem_append.1 hy with hy | hy
  · exact h y hy
  · simp at hy; subst hy; exact hx
theorem nums_r64 {xs : List Int} (h : ∀ x ∈ xs, 0 ≤ x ∧ x < 1000000271) : ∀ x ∈ xs, R64 x := fun x hx => by
  have := h x hx
  constructor <;> omega
set_option maxHeartbeats 2000000 in
theorem spec_dWords (hi g : Nat) (o one : Int) (w : World) (h : Cur w hi g) (h0 : 0 ≤ o) (h5 : o ≤ 5) (hone : 0 ≤ one ∧ one < 1000000271) :
    Calls Try.prog 86 #[.pointer (some ⟨g, 0, none⟩), .int .i64 o, .int .i64 one] w fun e w' => ∃ A c xs, e = .returned (.agg #[.int .i64 o, .slice A (cntN o) c]) ∧ OwnI w' w.heap.size w'.heap.size A (cntN o) c xs ∧ (∀ x ∈ xs, 0 ≤ x ∧ x < 1000000271) ∧ Cur w' hi g ∧ Touch g (g + 1) w w' := by
  obtain ⟨i0, hi0, hz0, hz1, hz2⟩ := info_parts info_int
  obtain ⟨glt, hgl⟩ := h.lt
  have hcb := cntN_bd h5
  go_enter Try.func86, Try.ntmps86
  go_wp2_with fail
  have a1 := below_alloc w (.cells #[.int .i64 0, .slice none 0 0] 38)
  have j0 := BlkN.new w #[.int .i64 0, .slice none 0 0] 38
  have z1 : (w.alloc (.cells #[.int .i64 0, .slice none 0 0] 38)).heap.size = w.heap.size + 1 := by simp
  generalize w.alloc (.cells #[.int .i64 0, .slice none 0 0] 38) = w1 at a1 j0 z1 ⊢
  have a2 := below_alloc w1 (.cells #[.int .i64 one] 3)
  have j0a := j0.below a2
  have z2 : (w1.alloc (.cells #[.int .i64 one] 3)).heap.size = w.heap.size + 1 + 1 := by simp; omega
  have hq := World.ownsRow_lit (size := 1) (e := 3) w1 #[.int .i64 one] 1 (base := w.heap.size + 1) (by omega) (by unfold maxLen; omega) rfl
  rw [z1] at hq
  generalize w1.alloc (.cells #[.int .i64 one] 3) = w2 at a2 j0a z2 hq ⊢
  have a3 := below_alloc w2 (.cells #[.int .i64 o, .slice (some ⟨w.heap.size + 1, 0, none⟩) 1 1] 38)
  have j0b := j0a.below a3
  have j2 := BlkN.new w2 #[.int .i64 o, .slice (some ⟨w.heap.size + 1, 0, none⟩) 1 1] 38
  have hq2 := owns_below hq a3 (fun ad e => by injection e with e; subst e; show w.heap.size + 1 < _; omega)
  have z3 : (w2.alloc (.cells #[.int .i64 o, .slice (some ⟨w.heap.size + 1, 0, none⟩) 1 1] 38)).heap.size = w.heap.size + 1 + 1 + 1 := by simp; omega
  rw [z2] at j2
  have bW : Below w.heap.size w (w2.alloc (.cells #[.int .i64 o, .slice (some ⟨w.heap.size + 1, 0, none⟩) 1 1] 38)) := (a1.trans (a2.mono (by omega))).trans (a3.mono (by omega))
  generalize w2.alloc (.cells #[.int .i64 o, .slice (some ⟨w.heap.size + 1, 0, none⟩) 1 1] 38) = W at a3 j0b j2 hq2 z3 bW ⊢
  have cW := h.low bW glt
  have tW : Touch g (g + 1) w W := Touch.of_below bW
  clear a1 a2 a3 j0 j0a hq bW h
  go_loopw [8, 9] (fun i _ wr => ∃ (k : Nat) (A' : Option Addr) (c' : Nat) (xs : List Int), 1 ≤ k ∧ k ≤ cntN o ∧ i = .int .i64 k ∧ BlkN wr (w.heap.size + 1 + 1) #[.int .i64 o, .slice A' k c'] ∧ BlkN wr w.heap.size #[.int .i64 0, .slice none 0 0] ∧ wr.ownsRow (w.heap.size + 1) 3 1 (.slice A' k c') k (xs.map (Value.int .i64)) ∧ Hid (∀ x ∈ xs, 0 ≤ x ∧ x < 1000000271) ∧
      (∀ ad, A' = some ad → ad.block ≠ w.heap.size + 1 + 1) ∧ Cur wr hi g ∧ Touch g (g + 1) w wr)
    (fun i _ _ => cntN o - (intOf i).toNat)
  case atStart => exact ⟨1, _, _, [one], by omega, by omega, rfl, j2, j0b, hq2, (by show ∀ x ∈ [one], _; intro x hx; simp at hx; subst hx; exact hone), (by intro ad e; injection e with e; subst e; show w.heap.size + 1 ≠ _; omega), cW, tW⟩
  case round =>
    clear j2 j0b hq2 cW tW z1 z2 z3
    obtain ⟨k, A', c', xs, hk1, hk2, rfl, j2, j0, hown, hnum, hne, cr, tr⟩ := hrel
    have sz := tr.size
    have q2 := j2.lt
    go_wp2_with fail
    refine (spec_l11Count o wr h0 h5).mono ?_
    rintro e wx ⟨rfl, rfl⟩
    by_cases hlt : k < cntN o
    · go_wp2_with fail
      refine (spec_l1Once hi g 2 wr cr (by omega) (by omega)).mono ?_
      rintro e w2 ⟨b, rfl, c2, t2⟩
      cases b with
      | true =>
        go_wp2_with fail
        refine (spec_dNum hi g w2 c2).mono ?_
        rintro e w3 ⟨x, rfl, hx0, hx1, c3, t3⟩
        have t23 := t2.trans t3
        have z3 := t23.size
        have hown3 := owns_same hown (fun ad e => t23.block ad.block (owns_lt hown ad e).2 (.inr (by have := (owns_lt hown ad e).1; omega)))
        have m2 := j2.touch t23 (by omega)
        have m0 := j0.touch t23 (by omega)
        have tw := tr.trans t23
        clear hown t2 t3 t23 c2 tr cr j2 j0
        have r1 := m2.c 1 rfl
        have f1 := m2.f 1
        have hw3 : w.heap.size + 1 + 1 < w3.heap.size := m2.lt
        go_wp2_with (at_builtin; refine wpl_app1 rfl (.tmp 25) (.tmp 27) 22 rfl (w.heap.size + 1) 3 i0 (.int .i64 0) 1 8 Try.underlying22 hi0 hz0 hz1 hz2 rfl (by omega) w3 #[.int .i64 x] A' k c' 1 _ rfl rfl hown3 rfl (by simp [Value.oneCell']) (by omega) (by omega) (by omega) ?_; intro A2 c4 w4 happ hlt2; have u2 := blk_far m2 happ.2.1 hne; have r4 := u2.f 1; have r5 := u2.c 1 rfl; have r6 := u2.lt)
        have HB1 := (happ.below (Below.refl (w.heap.size + 1) w3) (by omega) (fun ad e => (owns_lt hown3 ad e).1))
        have HB := HB1.mono (show w.heap.size ≤ w.heap.size + 1 by omega)
        have u2 := blk_far m2 happ.2.1 hne
        have u0 := m0.same (HB1.block w.heap.size (by omega))
        have hne2 : ∀ ad, A2 = some ad → ad.block ≠ w.heap.size + 1 + 1 := by
          intro ad e
          rcases happ.2.2 with h1 | h1
          · exact hne ad (h1 ad e)
          · have := h1 ad e
            omega
        have v2 := u2.set 1 (.slice A2 (k + 1) c4)
        simp only [List.setIfInBounds_toArray, List.set_cons_zero, List.set_cons_succ] at v2
        have v0 := u0.far (b := w.heap.size + 1 + 1) (i := 1) (by omega) (.slice A2 (k + 1) c4)
        have ho4 := owns_setCell happ.1 (p := ⟨w.heap.size + 1 + 1, 1, none⟩) hne2 (.slice A2 (k + 1) c4)
        have hb5 := HB.setCell (p := ⟨w.heap.size + 1 + 1, 1, none⟩) (by show w.heap.size ≤ w.heap.size + 1 + 1; omega) (.slice A2 (k + 1) c4)
        have HH := hide (And.intro v2 (And.intro v0 (And.intro ho4 hb5)))
        clear r4 r5 r6 u2 u0 v2 v0 ho4 hb5 HB HB1 happ hown3 m2 m0 r1 f1 hne
        go_wp2_with fail
        go_roundw
        case rel => exact ⟨k + 1, A2, c4, xs ++ [x], by omega, by omega, by go_num, HH.out.1, HH.out.2.1, by simpa using HH.out.2.2.1, snoc_num hnum.out ⟨hx0, hx1⟩, hne2, c3.low HH.out.2.2.2 (by omega), tw.then_below HH.out.2.2.2 (Nat.le_refl _)⟩
        case measure => simp [intOf]; omega
      | false =>
        have z3 := t2.size
        have hown3 := owns_same hown (fun ad e => t2.block ad.block (owns_lt hown ad e).2 (.inr (by have := (owns_lt hown ad e).1; omega)))
        have m2 := j2.touch t2 (by omega)
        have m0 := j0.touch t2 (by omega)
        have tw := tr.trans t2
        clear hown t2 tr cr j2 j0
        have r1 := m2.c 1 rfl
        have f1 := m2.f 1
        have hw3 : w.heap.size + 1 + 1 < w2.heap.size := m2.lt
        go_wp2_with (at_builtin; refine wpl_app1 rfl (.tmp 25) (.tmp 27) 22 rfl (w.heap.size + 1) 3 i0 (.int .i64 0) 1 8 Try.underlying22 hi0 hz0 hz1 hz2 rfl (by omega) w2 #[.int .i64 0] A' k c' 1 _ rfl rfl hown3 rfl (by simp [Value.oneCell']) (by omega) (by omega) (by omega) ?_; intro A2 c4 w4 happ hlt2; have u2 := blk_far m2 happ.2.1 hne; have r4 := u2.f 1; have r5 := u2.c 1 rfl; have r6 := u2.lt)
        have HB1 := (happ.below (Below.refl (w.heap.size + 1) w2) (by omega) (fun ad e => (owns_lt hown3 ad e).1))
        have HB := HB1.mono (show w.heap.size ≤ w.heap.size + 1 by omega)
        have u2 := blk_far m2 happ.2.1 hne
        have u0 := m0.same (HB1.block w.heap.size (by omega))
        have hne2 : ∀ ad, A2 = some ad → ad.block ≠ w.heap.size + 1 + 1 := by
          intro ad e
          rcases happ.2.2 with h1 | h1
          · exact hne ad (h1 ad e)
          · have := h1 ad e
            omega
        have v2 := u2.set 1 (.slice A2 (k + 1) c4)
        simp only [List.setIfInBounds_toArray, List.set_cons_zero, List.set_cons_succ] at v2
        have v0 := u0.far (b := w.heap.size + 1 + 1) (i := 1) (by omega) (.slice A2 (k + 1) c4)
        have ho4 := owns_setCell happ.1 (p := ⟨w.heap.size + 1 + 1, 1, none⟩) hne2 (.slice A2 (k + 1) c4)
        have hb5 := HB.setCell (p := ⟨w.heap.size + 1 + 1, 1, none⟩) (by show w.heap.size ≤ w.heap.size + 1 + 1; omega) (.slice A2 (k + 1) c4)
        have HH := hide (And.intro v2 (And.intro v0 (And.intro ho4 hb5)))
        clear r4 r5 r6 u2 u0 v2 v0 ho4 hb5 HB HB1 happ hown3 m2 m0 r1 f1 hne
        go_wp2_with fail
        go_roundw
        case rel => exact ⟨k + 1, A2, c4, xs ++ [0], by omega, by omega, by go_num, HH.out.1, HH.out.2.1, by simpa using HH.out.2.2.1, snoc_num hnum.out ⟨by omega, by omega⟩, hne2, c2.low HH.out.2.2.2 (by omega), tw.then_below HH.out.2.2.2 (Nat.le_refl _)⟩
        case measure => simp [intOf]; omega
    · obtain rfl : k = cntN o := by omega
      have p0 := j2.c 0 rfl
      have p1 := j2.c 1 rfl
      have e0 := j0.c 0 rfl
      have e1 := j0.c 1 rfl
      have f0 := j0.f 0
      have f1 := j0.f 1
      have lt0 := j0.lt
      have ho := owns_same hown (w' := (wr.setCell ⟨w.heap.size, 0, none⟩ (.int .i64 o)).setCell ⟨w.heap.size, 1, none⟩ (.slice A' (cntN o) c')) (fun ad e => by
        have := (owns_lt hown ad e).1
        exact (Below.heap_setCell _ ⟨w.heap.size, 1, none⟩ _ ad.block (by show ad.block ≠ w.heap.size; omega)).trans (Below.heap_setCell _ ⟨w.heap.size, 0, none⟩ _ ad.block (by show ad.block ≠ w.heap.size; omega)))
      have hb := store2_below (Below.refl w.heap.size wr) (Nat.le_refl _) (.int .i64 o) (.slice A' (cntN o) c')
      have HH := hide (And.intro ho hb)
      have hsz := hide (fun ad e => (owns_lt hown ad e).2)
      clear ho hb hown
      go_wp2_with fail
      refine bodyPost_ret (v := .agg #[.int .i64 o, .slice A' (cntN o) c']) (by simp [results, Try.results86, go_sem, e0, e1, lt0]) rfl ⟨A', c', xs, rfl, ⟨owns_low HH.out.1 (by omega), fun ad e => ?_, nums_r64 hnum.out⟩, hnum.out, cr.low HH.out.2 (by omega), tr.then_below HH.out.2 (Nat.le_refl _)⟩
      have := hsz.out ad e
      simpa [World.setCell] using this
set_option maxHeartbeats 2000000 in
theorem spec_DrawThreeWords (hi : Nat) (A : Option Addr) (n c : Nat) (o : Int) (w : World) (h : Bytes w 0 hi A n c) (hh : hi ≤ w.heap.size) (h0 : 0 ≤ o) (h5 : o ≤ 5) :
    Calls Try.prog 30 #[.slice A n c, .int .i64 o] w fun e w' => ∃ A1 c1 xs A2 c2 ys A3 c3 zs l1 l2, e = .returned (.tuple #[.agg #[.int .i64 o, .slice A1 (cntN o) c1], .agg #[.int .i64 o, .slice A2 (cntN o) c2], .agg #[.int .i64 o, .slice A3 (cntN o) c3]]) ∧
      OwnI w' w.heap.size l1 A1 (cntN o) c1 xs ∧ OwnI w' l1 l2 A2 (cntN o) c2 ys ∧ OwnI w' l2 w'.heap.size A3 (cntN o) c3 zs ∧ w.heap.size ≤ l1 ∧ l1 ≤ l2 ∧ l2 ≤ w'.heap.size ∧
      (∀ x ∈ xs, 0 ≤ x ∧ x < 1000000271) ∧ (∀ x ∈ ys, 0 ≤ x ∧ x < 1000000271) ∧ (∀ x ∈ zs, 0 ≤ x ∧ x < 1000000271) ∧ Below w.heap.size w w' := by
  go_enter Try.func30, Try.ntmps30
  go_wp2_with fail
  have a1 := below_alloc w (.cells #[.int .i64 0, .slice none 0 0] 38)
  have j0 := BlkN.new w #[.int .i64 0, .slice none 0 0] 38
  have z1 : (w.alloc (.cells #[.int .i64 0, .slice none 0 0] 38)).heap.size = w.heap.size + 1 := by simp
  generalize w.alloc (.cells #[.int .i64 0, .slice none 0 0] 38) = w1 at a1 j0 z1 ⊢
  have a2 := below_alloc w1 (.cells #[.int .i64 0, .slice none 0 0] 38)
  have j0a := j0.below a2
  have j1 := BlkN.new w1 #[.int .i64 0, .slice none 0 0] 38
  rw [z1] at j1
  have z2 : (w1.alloc (.cells #[.int .i64 0, .slice none 0 0] 38)).heap.size = w.heap.size + 1 + 1 := by simp; omega
  generalize w1.alloc (.cells #[.int .i64 0, .slice none 0 0] 38) = w2 at a2 j0a j1 z2 ⊢
  have a3 := below_alloc w2 (.cells #[.int .i64 0, .slice none 0 0] 38)
  have j0b := j0a.below a3
  have j1b := j1.below a3
  have j2 := BlkN.new w2 #[.int .i64 0, .slice none 0 0] 38
  rw [z2] at j2
  have z3 : (w2.alloc (.cells #[.int .i64 0, .slice none 0 0] 38)).heap.size = w.heap.size + 1 + 1 + 1 := by simp; omega
  have bW : Below w.heap.size w (w2.alloc (.cells #[.int .i64 0, .slice none 0 0] 38)) := (a1.trans (a2.mono (by omega))).trans (a3.mono (by omega))
  generalize w2.alloc (.cells #[.int .i64 0, .slice none 0 0] 38) = W at a3 j0b j1b j2 z3 bW ⊢
  have hW := h.below bW hh
  clear a1 a2 a3 j0 j0a j1
  refine (spec_l1New hi A n c W hW (by omega)).mono ?_
  rintro e v0 ⟨rfl, q0, b0⟩
  have y0 := b0.size
  have g0 := q0.lt
  obtain ⟨g, hg⟩ : ∃ g, g = W.heap.size := ⟨_, rfl⟩
  have hgle : W.heap.size ≤ g := by omega
  have hgH := hide hg
  rw [← hg] at q0 g0 b0 ⊢
  clear hg
  have z3i : w.heap.size + 3 ≤ W.heap.size := by omega
  have z3h := hide z3
  clear z1 z2 z3
  have k0 := j0b.same (b0.block _ (by have := hgH.out; omega))
  have k1 := j1b.same (b0.block _ (by have := hgH.out; omega))
  have k2 := j2.same (b0.block _ (by have := hgH.out; omega))
  have BV := bW.trans (b0.mono (by omega))
  clear j0b j1b j2 bW hgH z3h
  go_wp2_with fail
  refine (spec_dNum hi g v0 q0).mono ?_
  rintro e v1 ⟨x1, rfl, hx10, hx11, q1, t1⟩
  have y1 := t1.size
  go_wp2_with fail
  refine (spec_dWords hi g o x1 v1 q1 h0 h5 ⟨hx10, hx11⟩).mono ?_
  rintro e v2 ⟨A1, c1, xs, rfl, o1, n1, q2, t2⟩
  have y2 := t2.size
  go_wp2_with fail
  refine (spec_dNum hi g v2 q2).mono ?_
  rintro e v3 ⟨x2, rfl, hx20, hx21, q3, t3⟩
  have y3 := t3.size
  go_wp2_with fail
  refine (spec_dWords hi g o x2 v3 q3 h0 h5 ⟨hx20, hx21⟩).mono ?_
  rintro e v4 ⟨A2, c2, ys, rfl, o2, n2, q4, t4⟩
  have y4 := t4.size
  go_wp2_with fail
  refine (spec_dNum hi g v4 q4).mono ?_
  rintro e v5 ⟨x3, rfl, hx30, hx31, q5, t5⟩
  have y5 := t5.size
  go_wp2_with fail
  refine (spec_dWords hi g o x3 v5 q5 h0 h5 ⟨hx30, hx31⟩).mono ?_
  rintro e v6 ⟨A3, c3, zs, rfl, o3, n3, q6, t6⟩
  have y6 := t6.size
  have T12 := t1.trans t2
  have T36 := ((t3.trans t4).trans t5).trans t6
  have T56 := t5.trans t6
  have T := T12.trans T36
  have p1 := o1.same (T36.same (.inr (by omega)) (Nat.le_refl _))
  have p2 := o2.same (T56.same (.inr (by omega)) (Nat.le_refl _))
  have m0 := k0.touch T (by omega)
  have m1 := k1.touch T (by omega)
  have m2 := k2.touch T (by omega)
  have B6 := BV.trans (T.below (B := w.heap.size) (by omega) (by omega))
  clear k0 k1 k2 t1 t2 t3 t4 t5 t6 T12 T36 T56 T BV q0 q1 q2 q3 q4 q5 q6 o1 o2 b0 hW
  have e00 := m0.c 0 rfl
  have e01 := m0.c 1 rfl
  have f00 := m0.f 0
  have f01 := m0.f 1
  have e10 := m1.c 0 rfl
  have e11 := m1.c 1 rfl
  have f10 := m1.f 0
  have f11 := m1.f 1
  have e20 := m2.c 0 rfl
  have e21 := m2.c 1 rfl
  have f20 := m2.f 0
  have f21 := m2.f 1
  have lt2 := m2.lt
  have s1 : Same (v5.heap.size) v6.heap.size v6 v6 := Same.refl _ _ _
  have HQ := hide (And.intro p1 (And.intro p2 (And.intro o3 B6)))
  clear m0 m1 m2 p1 p2 o3 B6 s1
  go_wp2_with fail
  refine bodyPost_ret (v := .tuple #[.agg #[.int .i64 o, .slice A1 (cntN o) c1], .agg #[.int .i64 o, .slice A2 (cntN o) c2], .agg #[.int .i64 o, .slice A3 (cntN o) c3]]) (by simp [results, Try.results30, go_sem, e00, e01, e10, e11, e20, e21, lt2]) rfl
    ⟨A1, c1, xs, A2, c2, ys, A3, c3, zs, v2.heap.size, v4.heap.size, rfl, ?_, ?_, ?_, by omega, by omega, ?_, n1, n2, n3, ?_⟩
  · refine (OwnI.same HQ.out.1 (w' := _) ?_).wide (by omega) (Nat.le_refl _)
    (repeat (first | with_reducible exact Same.refl _ _ _ | with_reducible refine Same.drew ?_ | ((with_reducible refine Same.alloc ?_ ?_ _); rotate_left; · first | omega | (simp [World.setCell]; done) | (simp [World.setCell]; omega)) | ((with_reducible refine Same.setCell ?_ ?_ _); rotate_left; · first | omega | (simp; done) | (simp; omega))))
  · refine (OwnI.same HQ.out.2.1 (w' := _) ?_).wide (by omega) (Nat.le_refl _)
    (repeat (first | with_reducible exact Same.refl _ _ _ | with_reducible refine Same.drew ?_ | ((with_reducible refine Same.alloc ?_ ?_ _); rotate_left; · first | omega | (simp [World.setCell]; done) | (simp [World.setCell]; omega)) | ((with_reducible refine Same.setCell ?_ ?_ _); rotate_left; · first | omega | (simp; done) | (simp; omega))))
  · refine (OwnI.same HQ.out.2.2.1 (w' := _) ?_).wide (by omega) ?_
    · (repeat (first | with_reducible exact Same.refl _ _ _ | with_reducible refine Same.drew ?_ | ((with_reducible refine Same.alloc ?_ ?_ _); rotate_left; · first | omega | (simp [World.setCell]; done) | (simp [World.setCell]; omega)) | ((with_reducible refine Same.setCell ?_ ?_ _); rotate_left; · first | omega | (simp; done) | (simp; omega))))
    · simp [World.setCell]
  · simp [World.setCell]; omega
  · (repeat (first | with_reducible exact HQ.out.2.2.2 | with_reducible exact Below.refl _ _ | with_reducible refine Below.drew ?_ | ((with_reducible refine Below.alloc ?_ ?_ _); rotate_left; · first | omega | (simp [World.setCell]; done) | (simp [World.setCell]; omega)) | ((with_reducible refine Below.setCell ?_ ?_ _); rotate_left; · first | exact Nat.le_refl _ | omega | (simp; done) | (simp; omega))))
end Go.Proofs.Ytodlfmagkjblgaa
