/- Words times a number, sums of words: the walks of both texts. -/
import Derived.Test.YtodlfmagkjblgaaWordsOk
namespace Go.Proofs.Ytodlfmagkjblgaa
open Go.RowKit
set_option linter.unusedSimpArgs false
set_option linter.unusedVariables false
set_option maxRecDepth 20000

/-- A block of two cells, whole. -/
structure Blk2 (w : World) (g : Nat) (a b : Value) : Prop where
  h : ∃ T, w.heap[g]? = some (.cells #[a, b] T (0, 0))
section
variable {w w' : World} {g lo hi : Nat} {a b : Value}
theorem Blk2.lt (h : Blk2 w g a b) : g < w.heap.size := by
  obtain ⟨T, h⟩ := h.h
  exact (Array.getElem?_eq_some_iff.1 h).1
theorem Blk2.c0 (h : Blk2 w g a b) : w.cell? ⟨g, 0, none⟩ = some a := by
  obtain ⟨T, h⟩ := h.h
  rw [cell_of_row w g 0 #[a, b] T (0, 0) h]; rfl
theorem Blk2.c1 (h : Blk2 w g a b) : w.cell? ⟨g, 1, none⟩ = some b := by
  obtain ⟨T, h⟩ := h.h
  rw [cell_of_row w g 1 #[a, b] T (0, 0) h]; rfl
theorem Blk2.f0 (h : Blk2 w g a b) : w.frozen? ⟨g, 0, none⟩ = false := by
  obtain ⟨T, h⟩ := h.h
  exact frozen_of_row w g 0 #[a, b] T h
theorem Blk2.f1 (h : Blk2 w g a b) : w.frozen? ⟨g, 1, none⟩ = false := by
  obtain ⟨T, h⟩ := h.h
  exact frozen_of_row w g 1 #[a, b] T h
theorem Blk2.new (w : World) (a b : Value) (T : TypeId) : Blk2 (w.alloc (.cells #[a, b] T)) w.heap.size a b := ⟨T, heap_alloc_new w _⟩
theorem Blk2.same (h : Blk2 w g a b) (hs : w'.heap[g]? = w.heap[g]?) : Blk2 w' g a b := by
  obtain ⟨T, h⟩ := h.h
  exact ⟨T, hs.trans h⟩
theorem Blk2.below (h : Blk2 w g a b) (hb : Below w.heap.size w w') : Blk2 w' g a b := h.same (hb.block g h.lt)
theorem Blk2.drew (h : Blk2 w g a b) : Blk2 w.drew g a b := h.same rfl
theorem Blk2.touch (h : Blk2 w g a b) (ht : Touch lo hi w w') (hd : g < lo ∨ hi ≤ g) : Blk2 w' g a b := h.same (ht.block g h.lt hd)
end

/-- A row of integers filled cell by cell: one step. -/
theorem fill_step {w3 wr : World} {g lo n c2 j : Nat} {ys zs : List Int} {v : Int} (hown : wr.ownsRow lo 3 1 (.slice (some ⟨g, 0, none⟩) n c2) n (ys.map (Value.int .i64))) (ht : Touch g (g + 1) w3 wr) (hs : Hid (wr.heap.size = w3.heap.size))
    (hys : Hid (ys.length = n ∧ ys.take j = zs.take j)) (hz : zs[j]? = some v) (hj : j < n) :
    wr.cell? ⟨g, j, none⟩ = some (.int .i64 (ys.getD j 0)) ∧ wr.frozen? ⟨g, j, none⟩ = false ∧
    Hid ((wr.setCell ⟨g, j, none⟩ (.int .i64 v)).ownsRow lo 3 1 (.slice (some ⟨g, 0, none⟩) n c2) n ((ys.set j v).map (Value.int .i64)) ∧ Touch g (g + 1) w3 (wr.setCell ⟨g, j, none⟩ (.int .i64 v)) ∧
      Hid ((wr.setCell ⟨g, j, none⟩ (.int .i64 v)).heap.size = w3.heap.size) ∧ Hid ((ys.set j v).length = n ∧ (ys.set j v).take (j + 1) = zs.take (j + 1))) := by
  have hst := hown.stored j (.int .i64 v)
  refine ⟨?_, hown.frozenAt j, by simpa [List.map_set] using hst.1, ht.setCell (.inl ⟨Nat.le_refl _, by simp⟩) _, ?_, by simpa using hys.out.1, take_set_step hys.out.2 (by have := hys.out.1; omega) hz⟩
  · rw [hown.cellAt j (by omega)]
    have := hys.out.1
    simp [List.getD, show j < ys.length by omega]
  · show _ = _
    rw [← hs.out]
    simp [World.setCell]
theorem fill_end {n j : Nat} {ys zs : List Int} (hys : Hid (ys.length = n ∧ ys.take j = zs.take j)) (hz : zs.length = n) (hj : n ≤ j) : ys = zs := by
  have h1 := hys.out
  rw [List.take_of_length_le (by omega), List.take_of_length_le (by omega)] at h1
  exact h1.2

theorem Blk2.store {w : World} {g : Nat} {a b : Value} (h : Blk2 w g a b) (x y : Value) : Cell2 ((w.setCell ⟨g, 0, none⟩ x).setCell ⟨g, 1, none⟩ y) g x y := by
  obtain ⟨T, hh⟩ := h.h
  have h1 : (w.setCell ⟨g, 0, none⟩ x).heap[g]? = some (.cells #[x, b] T (0, 0)) := by simp [World.setCell, Array.getElem?_modify, hh]
  have h2 : ((w.setCell ⟨g, 0, none⟩ x).setCell ⟨g, 1, none⟩ y).heap[g]? = some (.cells #[x, y] T (0, 0)) := by
    generalize w.setCell ⟨g, 0, none⟩ x = v at h1 ⊢
    simp [World.setCell, Array.getElem?_modify, h1]
  exact ⟨by rw [cell_of_row _ g 0 #[x, y] T (0, 0) h2]; rfl, by rw [cell_of_row _ g 1 #[x, y] T (0, 0) h2]; rfl, (Array.getElem?_eq_some_iff.1 h2).1⟩

theorem cell_far {w : World} {g h o : Nat} {x y v : Value} (hc : w.cell? ⟨h, o, none⟩ = some v) (hne : ¬ h = g) : ((w.setCell ⟨g, 0, none⟩ x).setCell ⟨g, 1, none⟩ y).cell? ⟨h, o, none⟩ = some v :=
  (World.cell?_of_block (w := w) (a := ⟨h, o, none⟩) ((Below.heap_setCell _ ⟨g, 1, none⟩ _ h hne).trans (Below.heap_setCell _ ⟨g, 0, none⟩ _ h hne))).trans hc
theorem cell_alloc_far {w : World} {h o : Nat} {v : Value} {ob : Obj} (hc : w.cell? ⟨h, o, none⟩ = some v) : (w.alloc ob).cell? ⟨h, o, none⟩ = some v :=
  (World.cell?_of_block (w := w) (a := ⟨h, o, none⟩) (Below.heap_alloc _ _ _ (World.block_lt_of_cell? w _ hc))).trans hc

def scaleF (o : Int) (xs : List Int) (k : Int) : Int × List Int := if wordsOkF o xs then (o, xs.map (fun x => timesF x k)) else (0, [])
theorem wordsOk_facts {o : Int} {xs : List Int} (h : wordsOkF o xs = true) : (0 ≤ o ∧ o ≤ 5) ∧ xs.length = cntN o ∧ ∀ x ∈ xs, 0 ≤ x ∧ x < 1000000271 := by
  unfold wordsOkF at h
  simp only [Bool.and_eq_true, decide_eq_true_eq] at h
  exact ⟨h.1, h.2.1, allNumF_mem h.2.2⟩
theorem r64_of_num {x : Int} (h : 0 ≤ x ∧ x < 1000000271) : R64 x := by constructor <;> omega

set_option maxRecDepth 100000 in
set_option maxHeartbeats 1000000 in
theorem spec_ScaleWords (o : Int) (A : Option Addr) (n c : Nat) (xs : List Int) (lo hi : Nat) (k : Int) (w : World) (h : Ints w lo hi A n c xs) (hh : hi ≤ w.heap.size) (hk : R64 k) :
    Calls Try.prog 112 #[.agg #[.int .i64 o, .slice A n c], .int .i64 k] w fun e w' => ∃ A' n' c', e = .returned (.agg #[.int .i64 (scaleF o xs k).1, .slice A' n' c']) ∧ OwnI w' w.heap.size w'.heap.size A' n' c' (scaleF o xs k).2 ∧ Below w.heap.size w w' := by
  have hm := h.max
  have hcp := h.cap
  have hk' := hide hk
  clear hk
  have a1 := below_alloc w (.cells #[.int .i64 o, .slice A n c] 38)
  have a2 := below_alloc (w.alloc (.cells #[.int .i64 o, .slice A n c] 38)) (.cells #[.int .i64 0, .slice none 0 0] 38)
  have j1 := (Blk2.new w (.int .i64 o) (.slice A n c) 38).below a2
  have j2 := Blk2.new (w.alloc (.cells #[.int .i64 o, .slice A n c] 38)) (.int .i64 0) (.slice none 0 0) 38
  have b2 := a1.trans (a2.mono a1.size)
  simp only [World.size_alloc] at j2
  by_cases hok : wordsOkF o xs = true
  · have hF : Hid (scaleF o xs k = (o, xs.map (fun x => timesF x k))) := if_pos hok
    obtain ⟨⟨h0, h5⟩, hlen, hnum⟩ := wordsOk_facts hok
    have hnum' := hide hnum
    have hcb := cntN_bd h5
    obtain rfl : n = cntN o := by rw [← h.len, hlen]
    have hok' := hide hok
    clear hnum hlen hok
    go_enter Try.func112, Try.ntmps112
    go_wp2_with fail
    have h2 := h.below b2 hh
    have z2 := b2.size
    generalize World.alloc (World.alloc w (.cells #[.int .i64 o, .slice A (cntN o) c] 38)) (.cells #[.int .i64 0, .slice none 0 0] 38) = W at j1 j2 b2 h2 z2 ⊢
    clear a1 a2
    refine (spec_WordsOk o A (cntN o) c xs lo hi W h2 (by omega)).mono ?_
    rintro e w1 ⟨rfl, b1⟩
    rw [hok'.out]
    have j3 := j1.below b1
    have j4 := j2.below b1
    have h3 := h2.below b1 (by omega)
    have b3 := b2.trans (b1.mono z2)
    clear j1 j2 h2 b2 b1 z2
    have p0 := j3.c0
    go_wp2_with fail
    refine (spec_l11Zero o w1 h0 h5).mono ?_
    rintro e w2 ⟨A2, c2, rfl, o2, b2⟩
    obtain ⟨g, rfl, hg1, hg2, hg3⟩ := o2.form (by omega)
    have j5 := (j3.below b2).below (below_alloc w2 (.cells #[.int .i64 o, .slice (some ⟨g, 0, none⟩) (cntN o) c2] 38))
    have j6 := (j4.below b2).below (below_alloc w2 (.cells #[.int .i64 o, .slice (some ⟨g, 0, none⟩) (cntN o) c2] 38))
    have j7 := Blk2.new w2 (.int .i64 o) (.slice (some ⟨g, 0, none⟩) (cntN o) c2) 38
    have o3 := o2.below (below_alloc w2 (.cells #[.int .i64 o, .slice (some ⟨g, 0, none⟩) (cntN o) c2] 38)) (Nat.le_refl _)
    have b4 := (b3.trans (b2.mono b3.size)).trans ((below_alloc w2 (.cells #[.int .i64 o, .slice (some ⟨g, 0, none⟩) (cntN o) c2] 38)).mono (Nat.le_trans b3.size b2.size))
    have h4 := (h3.below b2 (Nat.le_trans hh b3.size)).below (below_alloc w2 (.cells #[.int .i64 o, .slice (some ⟨g, 0, none⟩) (cntN o) c2] 38)) (Nat.le_trans hh (Nat.le_trans b3.size b2.size))
    have z3 := b3.size
    have z4 := b2.size
    have l4 := j4.lt
    have l7 := j7.lt
    clear j3 j4 h3 b3 b2 o2 p0
    go_wp2_with fail
    generalize World.alloc w2 (.cells #[.int .i64 o, .slice (some ⟨g, 0, none⟩) (cntN o) c2] 38) = w3 at j5 j6 j7 o3 b4 h4 l7 ⊢
    go_loopw [6] (fun i wr => ∃ (j : Nat) (ys : List Int), j ≤ cntN o ∧ i = .int .i64 j ∧ Touch g (g + 1) w3 wr ∧ Hid (wr.heap.size = w3.heap.size) ∧ wr.ownsRow w1.heap.size 3 1 (.slice (some ⟨g, 0, none⟩) (cntN o) c2) (cntN o) (ys.map (Value.int .i64)) ∧ Hid (ys.length = cntN o ∧ ys.take j = (xs.map (fun x => timesF x k)).take j))
      (fun i _ => cntN o - (intOf i).toNat)
    case atStart => exact ⟨0, _, by omega, rfl, .refl _ _ _, rfl, o3.own, o3.len, by simp⟩
    case round =>
      obtain ⟨j, ys, hj, rfl, ht, hs, hown, hys⟩ := hrel
      have k5 := j5.touch ht (by omega)
      have k7 := j7.touch ht (by omega)
      have h5' := h4.same (ht.same (.inl (by omega)) (by have := j7.lt; omega))
      by_cases hlt : j < cntN o
      · obtain ⟨ad, x, rfl, hc, hr, _, hx⟩ := h5'.at_ hlt
        have p1 := k5.c1
        have p2 := k7.c1
        have hx' := hnum'.out x (List.mem_of_getElem? hx.out)
        have hv : (xs.map (fun x => timesF x k))[j]? = some (timesF x k) := by rw [List.getElem?_map, hx.out]; rfl
        obtain ⟨hc1, hf1, HS⟩ := fill_step hown ht hs hys hv hlt
        have hne : ¬ w.heap.size = g := by omega
        have hne2 : ¬ w2.heap.size = g := by omega
        clear hr hv hown ht hs hys k5 k7 h5'
        go_wp2_with fail
        refine still_tail 11 (by kernel_rfl) (by kernel_rfl) ?_
        simp only [List.take_succ_cons, List.take_zero, List.drop_succ_cons, List.drop_zero]
        repeat still_step
        still_call (still_same (spec_Times _ _ _ (r64_of_num hx') hk'.out))
        repeat still_step
        refine wpStill_nil ?_
        go_wp2_with fail
        go_roundw
        case rel => exact ⟨j + 1, ys.set j (timesF x k), by omega, by go_num, HS.out.2.1.drew, HS.out.2.2.1, HS.out.1, HS.out.2.2.2⟩
        case measure => simp [intOf]; omega
      · have k6 := j6.touch ht (by omega)
        have p1 := k5.c1
        have p2 := k7.c1
        have p3 := k7.c0
        have p4 := k6.c0
        have p5 := k6.c1
        have p6 := k6.f0
        have p7 := k6.f1
        have e := fill_end hys (by rw [List.length_map]; exact h.len) (by omega)
        subst e
        have B5 := b4.trans (ht.below (B := w.heap.size) (by omega) b4.size)
        have HO : Hid (OwnI wr w1.heap.size wr.heap.size (some ⟨g, 0, none⟩) (cntN o) c2 (xs.map (fun x => timesF x k))) := by
          refine ⟨hown, fun ad e => (owns_lt hown ad e).2, fun y hy => ?_⟩
          simp only [List.mem_map] at hy
          obtain ⟨z, _, rfl⟩ := hy
          exact r64_of_num (timesF_bd _ _)
        have l6 := k6.lt
        clear hown ht hs hys k5 k6 k7 h5' o3 j5 j6 j7
        go_wp2_with fail
        refine bodyPost_ret (v := .agg #[.int .i64 o, .slice (some ⟨g, 0, none⟩) (cntN o) c2]) (by simp [results, Try.results112, go_sem, p4, p5]) rfl ⟨_, _, _, by rw [hF.out], ?_, ?_⟩
        · rw [hF.out]
          refine (OwnI.same HO.out ?_).wide (by omega) ?_
          · (repeat (first | with_reducible exact Same.refl _ _ _ | with_reducible refine Same.drew ?_ | ((with_reducible refine Same.alloc ?_ ?_ _); rotate_left; · first | omega | (simp [World.setCell]; done) | (simp [World.setCell]; omega)) | ((with_reducible refine Same.setCell ?_ ?_ _); rotate_left; · first | omega | (simp; done) | (simp; omega))))
          · simp [World.setCell]
        · (repeat (first | with_reducible exact B5 | with_reducible exact Below.refl _ _ | with_reducible refine Below.drew ?_ | ((with_reducible refine Below.alloc ?_ ?_ _); rotate_left; · first | omega | (simp [World.setCell]; done) | (simp [World.setCell]; omega)) | ((with_reducible refine Below.setCell ?_ ?_ _); rotate_left; · first | exact Nat.le_refl _ | omega | (simp; done) | (simp; omega))))
  · have hF : Hid (scaleF o xs k = (0, [])) := if_neg hok
    have hok' : wordsOkF o xs = false := by simpa using hok
    clear hok
    go_enter Try.func112, Try.ntmps112
    go_wp2_with fail
    have h2 := h.below b2 hh
    have z2 := b2.size
    generalize World.alloc (World.alloc w (.cells #[.int .i64 o, .slice A n c] 38)) (.cells #[.int .i64 0, .slice none 0 0] 38) = W at j1 j2 b2 h2 z2 ⊢
    clear a1 a2
    refine (spec_WordsOk o A n c xs lo hi W h2 (by omega)).mono ?_
    rintro e w1 ⟨rfl, b1⟩
    rw [hok']
    have j4 := j2.below b1
    have b3 := b2.trans (b1.mono z2)
    have p4 := j4.c0
    have p5 := j4.c1
    have p6 := j4.f0
    have p7 := j4.f1
    go_wp2_with fail
    refine bodyPost_ret (v := .agg #[.int .i64 0, .slice none 0 0]) (by simp [results, Try.results112, go_sem, p4, p5]) rfl ⟨_, _, _, by rw [hF.out], by rw [hF.out]; exact OwnI.nil_ _ _ _, ?_⟩
    (repeat (first | with_reducible exact b3 | with_reducible exact Below.refl _ _ | with_reducible refine Below.drew ?_ | ((with_reducible refine Below.alloc ?_ ?_ _); rotate_left; · first | omega | (simp [World.setCell]; done) | (simp [World.setCell]; omega)) | ((with_reducible refine Below.setCell ?_ ?_ _); rotate_left; · first | exact Nat.le_refl _ | omega | (simp; done) | (simp; omega))))

def fitF (o : Int) (xs : List Int) (o' : Int) (ys : List Int) : Bool := (wordsOkF o xs && wordsOkF o' ys) && (o == o')

set_option maxHeartbeats 400000 in
theorem impl_wordsFit (o : Int) (A : Option Addr) (n c : Nat) (xs : List Int) (lo hi : Nat) (o' : Int) (B : Option Addr) (m d : Nat) (ys : List Int) (lo' hi' : Nat) (w : World) (h : Ints w lo hi A n c xs) (g : Ints w lo' hi' B m d ys) (hh : hi ≤ w.heap.size) (gh : hi' ≤ w.heap.size) :
    Calls Try.prog 72 #[.agg #[.int .i64 o, .slice A n c], .agg #[.int .i64 o', .slice B m d]] w fun e w' => e = .returned (.bool (fitF o xs o' ys)) ∧ Below w.heap.size w w' := by
  have a1 := below_alloc w (.cells #[.int .i64 o, .slice A n c] 38)
  have a2 := below_alloc (w.alloc (.cells #[.int .i64 o, .slice A n c] 38)) (.cells #[.int .i64 o', .slice B m d] 38)
  have j1 := (Blk2.new w (.int .i64 o) (.slice A n c) 38).below a2
  have j2 := Blk2.new (w.alloc (.cells #[.int .i64 o, .slice A n c] 38)) (.int .i64 o') (.slice B m d) 38
  have b2 := a1.trans (a2.mono a1.size)
  simp only [World.size_alloc] at j2
  have h2 := h.below b2 hh
  have g2 := g.below b2 gh
  have z2 := b2.size
  have hF : Hid (fitF o xs o' ys = ((wordsOkF o xs && wordsOkF o' ys) && (o == o'))) := rfl
  go_enter Try.func72, Try.ntmps72
  go_wp2_with fail
  generalize World.alloc (World.alloc w (.cells #[.int .i64 o, .slice A n c] 38)) (.cells #[.int .i64 o', .slice B m d] 38) = W at j1 j2 b2 h2 g2 z2 ⊢
  clear a1 a2
  refine (impl_WordsOk o A n c xs lo hi W h2 (by omega)).mono ?_
  rintro e w1 ⟨rfl, b1⟩
  have k1 := j1.below b1
  have k2 := j2.below b1
  have b3 := b2.trans (b1.mono z2)
  have g3 := g2.below b1 (by omega)
  have z3 := b3.size
  cases hb1 : wordsOkF o xs with
  | false =>
    rw [hb1] at hF
    go_wp2_with fail
    go_ret
    exact ⟨ret_bool hF.out.symm, b3⟩
  | true =>
    rw [hb1] at hF
    have p1 := k2.c0
    have p2 := k2.c1
    have p3 := k1.c0
    clear b1 b2 h2 g2 z2 hb1
    go_wp2_with fail
    refine (impl_WordsOk o' B m d ys lo' hi' w1 g3 (by omega)).mono ?_
    rintro e w2 ⟨rfl, b4⟩
    have l1 := k1.below b4
    have l2 := k2.below b4
    have b5 := b3.trans (b4.mono z3)
    clear p1 p2 p3
    have p1 := l1.c0
    have p2 := l2.c0
    cases hb2 : wordsOkF o' ys with
    | false =>
      rw [hb2] at hF
      go_wp2_with fail
      go_ret
      exact ⟨ret_bool hF.out.symm, b5⟩
    | true =>
      rw [hb2] at hF
      clear hb2
      go_wp2_with fail
      go_ret
      exact ⟨ret_bool (by rw [hF.out]; rfl), b5⟩

set_option maxHeartbeats 400000 in
theorem spec_l11Two (o : Int) (A : Option Addr) (n c : Nat) (xs : List Int) (lo hi : Nat) (o' : Int) (B : Option Addr) (m d : Nat) (ys : List Int) (lo' hi' : Nat) (w : World) (h : Ints w lo hi A n c xs) (g : Ints w lo' hi' B m d ys) (hh : hi ≤ w.heap.size) (gh : hi' ≤ w.heap.size) :
    Calls Try.prog 67 #[.agg #[.int .i64 o, .slice A n c], .agg #[.int .i64 o', .slice B m d]] w fun e w' => e = .returned (.bool (fitF o xs o' ys)) ∧ Below w.heap.size w w' := by
  have a1 := below_alloc w (.cells #[.int .i64 o, .slice A n c] 38)
  have a2 := below_alloc (w.alloc (.cells #[.int .i64 o, .slice A n c] 38)) (.cells #[.int .i64 o', .slice B m d] 38)
  have j1 := (Blk2.new w (.int .i64 o) (.slice A n c) 38).below a2
  have j2 := Blk2.new (w.alloc (.cells #[.int .i64 o, .slice A n c] 38)) (.int .i64 o') (.slice B m d) 38
  have b2 := a1.trans (a2.mono a1.size)
  simp only [World.size_alloc] at j2
  have h2 := h.below b2 hh
  have g2 := g.below b2 gh
  have z2 := b2.size
  have hF : Hid (fitF o xs o' ys = ((wordsOkF o xs && wordsOkF o' ys) && (o == o'))) := rfl
  go_enter Try.func67, Try.ntmps67
  go_wp2_with fail
  generalize World.alloc (World.alloc w (.cells #[.int .i64 o, .slice A n c] 38)) (.cells #[.int .i64 o', .slice B m d] 38) = W at j1 j2 b2 h2 g2 z2 ⊢
  clear a1 a2
  refine (spec_WordsOk o A n c xs lo hi W h2 (by omega)).mono ?_
  rintro e w1 ⟨rfl, b1⟩
  have k1 := j1.below b1
  have k2 := j2.below b1
  have b3 := b2.trans (b1.mono z2)
  have g3 := g2.below b1 (by omega)
  have z3 := b3.size
  cases hb1 : wordsOkF o xs with
  | false =>
    rw [hb1] at hF
    go_wp2_with fail
    go_ret
    exact ⟨ret_bool hF.out.symm, b3⟩
  | true =>
    rw [hb1] at hF
    have p1 := k2.c0
    have p2 := k2.c1
    have p3 := k1.c0
    clear b1 b2 h2 g2 z2 hb1
    go_wp2_with fail
    refine (spec_WordsOk o' B m d ys lo' hi' w1 g3 (by omega)).mono ?_
    rintro e w2 ⟨rfl, b4⟩
    have l1 := k1.below b4
    have l2 := k2.below b4
    have b5 := b3.trans (b4.mono z3)
    clear p1 p2 p3
    have p1 := l1.c0
    have p2 := l2.c0
    cases hb2 : wordsOkF o' ys with
    | false =>
      rw [hb2] at hF
      go_wp2_with fail
      go_ret
      exact ⟨ret_bool hF.out.symm, b5⟩
    | true =>
      rw [hb2] at hF
      clear hb2
      go_wp2_with fail
      go_ret
      exact ⟨ret_bool (by rw [hF.out]; rfl), b5⟩
end Go.Proofs.Ytodlfmagkjblgaa
