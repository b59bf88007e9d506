/- Sums of words and words times a number: the reference's AddWords, the program's mixWords, AddWords, ScaleWords. -/
import Derived.Test.YtodlfmagkjblgaaMix
namespace Go.Proofs.Ytodlfmagkjblgaa
open Go.RowKit
set_option linter.unusedSimpArgs false
set_option linter.unusedVariables false
set_option maxRecDepth 20000

def zipF (xs ys : List Int) (k : Int) : List Int := List.zipWith (fun a b => plusF a (timesF b k)) xs ys
def addF (o : Int) (xs : List Int) (o' : Int) (ys : List Int) : (Int × List Int) × Bool := if fitF o xs o' ys then ((o, zipF xs ys 1), true) else ((0, []), false)
theorem fit_facts {o o' : Int} {xs ys : List Int} (h : fitF o xs o' ys = true) : wordsOkF o xs = true ∧ wordsOkF o' ys = true ∧ o = o' := by
  unfold fitF at h
  simp only [Bool.and_eq_true, beq_iff_eq] at h
  exact ⟨h.1.1, h.1.2, h.2⟩
theorem zip_at {xs ys : List Int} {k x y : Int} {j : Nat} (hx : xs[j]? = some x) (hy : ys[j]? = some y) : (zipF xs ys k)[j]? = some (plusF x (timesF y k)) := by
  unfold zipF
  rw [List.getElem?_zipWith, hx, hy]
theorem zip_len {xs ys : List Int} {k : Int} {n : Nat} (hx : xs.length = n) (hy : ys.length = n) : (zipF xs ys k).length = n := by
  unfold zipF
  rw [List.length_zipWith, hx, hy]; omega
theorem zip_rng (xs ys : List Int) (k : Int) : ∀ x ∈ zipF xs ys k, R64 x := by
  intro x hx
  obtain ⟨j, hj⟩ := List.getElem?_of_mem hx
  unfold zipF at hj
  rw [List.getElem?_zipWith] at hj
  split at hj
  · injection hj with hj
    rw [← hj]
    exact r64_of_num (plusF_bd _ _)
  · cases hj

set_option maxRecDepth 100000 in
set_option maxHeartbeats 1000000 in
theorem spec_AddWords (o : Int) (A : Option Addr) (n c : Nat) (xs : List Int) (lo hi : Nat) (o' : Int) (B : Option Addr) (m d : Nat) (ys : List Int) (lo' hi' : Nat) (w : World) (h : Ints w lo hi A n c xs) (g' : Ints w lo' hi' B m d ys) (hh : hi ≤ w.heap.size) (gh : hi' ≤ w.heap.size) :
    Calls Try.prog 111 #[.agg #[.int .i64 o, .slice A n c], .agg #[.int .i64 o', .slice B m d]] w fun e w' => ∃ A' n' c', e = .returned (.tuple #[.agg #[.int .i64 (addF o xs o' ys).1.1, .slice A' n' c'], .bool (addF o xs o' ys).2]) ∧ OwnI w' w.heap.size w'.heap.size A' n' c' (addF o xs o' ys).1.2 ∧ Below w.heap.size w w' := by
  have hm := h.max
  have hcp := h.cap
  have gm := g'.max
  have gcp := g'.cap
  have a1 := below_alloc w (.cells #[.int .i64 o, .slice A n c] 38)
  have a2 := below_alloc (w.alloc (.cells #[.int .i64 o, .slice A n c] 38)) (.cells #[.int .i64 o', .slice B m d] 38)
  have a3 := below_alloc ((w.alloc (.cells #[.int .i64 o, .slice A n c] 38)).alloc (.cells #[.int .i64 o', .slice B m d] 38)) (.cells #[.int .i64 0, .slice none 0 0] 38)
  have j1 := ((Blk2.new w (.int .i64 o) (.slice A n c) 38).below a2).below a3
  have j2 := (Blk2.new (w.alloc (.cells #[.int .i64 o, .slice A n c] 38)) (.int .i64 o') (.slice B m d) 38).below a3
  have j3 := Blk2.new ((w.alloc (.cells #[.int .i64 o, .slice A n c] 38)).alloc (.cells #[.int .i64 o', .slice B m d] 38)) (.int .i64 0) (.slice none 0 0) 38
  have b0 := (a1.trans (a2.mono a1.size)).trans (a3.mono (a1.trans (a2.mono a1.size)).size)
  simp only [World.size_alloc] at j2 j3
  clear a1 a2 a3
  have z0 := b0.size
  by_cases hok : fitF o xs o' ys = true
  · have hF : Hid (addF o xs o' ys = ((o, zipF xs ys 1), true)) := if_pos hok
    obtain ⟨ok1, ok2, rfl⟩ := fit_facts hok
    obtain ⟨⟨h0, h5⟩, hlen, hnum⟩ := wordsOk_facts ok1
    obtain ⟨_, hlen2, hnum2⟩ := wordsOk_facts ok2
    have hnum' := hide hnum
    have hnum2' := hide hnum2
    have hcb := cntN_bd h5
    obtain rfl : n = cntN o := by rw [← h.len, hlen]
    obtain rfl : m = cntN o := by rw [← g'.len, hlen2]
    have hok' := hide hok
    clear hnum hnum2 hlen hlen2 hok ok1 ok2
    go_enter Try.func111, Try.ntmps111
    go_wp2_with fail
    have h1 := h.below b0 hh
    have g1 := g'.below b0 gh
    generalize World.alloc (World.alloc (World.alloc w (.cells #[.int .i64 o, .slice A (cntN o) c] 38)) (.cells #[.int .i64 o, .slice B (cntN o) d] 38)) (.cells #[.int .i64 0, .slice none 0 0] 38) = W at j1 j2 j3 b0 h1 g1 z0 ⊢
    refine (spec_l11Two o A (cntN o) c xs lo hi o B (cntN o) d ys lo' hi' W h1 g1 (by omega) (by omega)).mono ?_
    rintro e w1 ⟨rfl, b1⟩
    rw [hok'.out]
    have k1 := j1.below b1
    have k2 := j2.below b1
    have k3 := j3.below b1
    have h2 := h1.below b1 (by omega)
    have g2 := g1.below b1 (by omega)
    have b2 := b0.trans (b1.mono z0)
    have z1 := b2.size
    have q3 := k3.lt
    clear j1 j2 j3 h1 g1 b0 b1 z0
    have p0 := k1.c0
    go_wp2_with fail
    refine (spec_l11Zero o w1 h0 h5).mono ?_
    rintro e w2 ⟨A2, c2, rfl, o2, b3⟩
    obtain ⟨g, rfl, hg1, hg2, hg3⟩ := o2.form (by omega)
    have a4 := below_alloc w2 (.cells #[.int .i64 o, .slice (some ⟨g, 0, none⟩) (cntN o) c2] 38)
    have j1 := (k1.below b3).below a4
    have j2 := (k2.below b3).below a4
    have j3 := (k3.below b3).below a4
    have j4 := Blk2.new w2 (.int .i64 o) (.slice (some ⟨g, 0, none⟩) (cntN o) c2) 38
    have o3 := o2.below a4 (Nat.le_refl _)
    have z2 := b3.size
    have h3 := (h2.below b3 (by omega)).below a4 (by omega)
    have g3 := (g2.below b3 (by omega)).below a4 (by omega)
    have b4 := (b2.trans (b3.mono z1)).trans (a4.mono (by omega))
    have q4 := j4.lt
    clear k1 k2 k3 h2 g2 b2 b3 o2 p0
    go_wp2_with fail
    generalize World.alloc w2 (.cells #[.int .i64 o, .slice (some ⟨g, 0, none⟩) (cntN o) c2] 38) = w3 at a4 j1 j2 j3 j4 o3 h3 g3 b4 q4 ⊢
    clear a4
    go_loopw [7] (fun i wr => ∃ (j : Nat) (vs : List Int), j ≤ cntN o ∧ i = .int .i64 j ∧ Touch g (g + 1) w3 wr ∧ Hid (wr.heap.size = w3.heap.size) ∧ wr.ownsRow w1.heap.size 3 1 (.slice (some ⟨g, 0, none⟩) (cntN o) c2) (cntN o) (vs.map (Value.int .i64)) ∧ Hid (vs.length = cntN o ∧ vs.take j = (zipF xs ys 1).take j))
      (fun i _ => cntN o - (intOf i).toNat)
    case atStart => exact ⟨0, _, by omega, rfl, .refl _ _ _, rfl, o3.own, o3.len, by simp⟩
    case round =>
      obtain ⟨j, vs, hj, rfl, ht, hs, hown, hys⟩ := hrel
      have k1 := j1.touch ht (by omega)
      have k2 := j2.touch ht (by omega)
      have k4 := j4.touch ht (by omega)
      have h4 := h3.same (ht.same (.inl (by omega)) (by omega))
      have g4 := g3.same (ht.same (.inl (by omega)) (by omega))
      by_cases hlt : j < cntN o
      · obtain ⟨ad, x, rfl, hc, hr, _, hx⟩ := h4.at_ hlt
        obtain ⟨ae, y, rfl, hd, hr2, _, hy⟩ := g4.at_ hlt
        have p1 := k1.c1
        have p2 := k2.c1
        have p3 := k4.c1
        have hx' := hnum'.out x (List.mem_of_getElem? hx.out)
        have hy' := hnum2'.out y (List.mem_of_getElem? hy.out)
        have hv : (zipF xs ys 1)[j]? = some (plusF x y) := by
          rw [zip_at hx.out hy.out, timesF_one, resF_of hy'.1 hy'.2]
        obtain ⟨hc1, hf1, HS⟩ := fill_step hown ht hs hys hv hlt
        have hne : ¬ w.heap.size = g := by omega
        have hne2 : ¬ w2.heap.size = g := by omega
        have hne3 : ¬ w.heap.size + 1 = g := by omega
        clear hr hr2 hv hown ht hs hys k1 k2 k4 h4 g4
        go_wp2_with fail
        refine still_tail 15 (by kernel_rfl) (by kernel_rfl) ?_
        simp only [List.take_succ_cons, List.take_zero, List.drop_succ_cons, List.drop_zero]
        repeat still_step
        still_call (still_same (spec_Plus _ _ _ (r64_of_num hx') (r64_of_num hy')))
        repeat still_step
        refine wpStill_nil ?_
        go_wp2_with fail
        go_roundw
        case rel => exact ⟨j + 1, vs.set j (plusF x y), by omega, by go_num, HS.out.2.1.drew, HS.out.2.2.1, HS.out.1, HS.out.2.2.2⟩
        case measure => simp [intOf]; omega
      · have k3 := j3.touch ht (by omega)
        have p1 := k1.c1
        have p2 := k4.c1
        have p3 := k4.c0
        have p4 := k3.c0
        have p5 := k3.c1
        have p6 := k3.f0
        have p7 := k3.f1
        have l6 := k3.lt
        have e := fill_end hys (zip_len h3.len g3.len) (by omega)
        subst e
        have B5 := b4.trans (ht.below (B := w.heap.size) (by omega) b4.size)
        have HO : Hid (OwnI wr w1.heap.size wr.heap.size (some ⟨g, 0, none⟩) (cntN o) c2 (zipF xs ys 1)) :=
          ⟨hown, fun ad e => (owns_lt hown ad e).2, zip_rng xs ys 1⟩
        clear hown ht hs hys k1 k2 k3 k4 h4 g4 o3 j1 j2 j3 j4
        go_wp2_with fail
        refine bodyPost_ret (v := .tuple #[.agg #[.int .i64 o, .slice (some ⟨g, 0, none⟩) (cntN o) c2], .bool true]) (by simp [results, Try.results111, go_sem, p4, p5]) rfl ⟨_, _, _, by rw [hF.out], ?_, ?_⟩
        · rw [hF.out]
          refine (OwnI.same HO.out ?_).wide (by omega) ?_
          · (repeat (first | with_reducible exact Same.refl _ _ _ | with_reducible refine Same.drew ?_ | ((with_reducible refine Same.alloc ?_ ?_ _); rotate_left; · first | omega | (simp [World.setCell]; done) | (simp [World.setCell]; omega)) | ((with_reducible refine Same.setCell ?_ ?_ _); rotate_left; · first | omega | (simp; done) | (simp; omega))))
          · simp [World.setCell]
        · (repeat (first | with_reducible exact B5 | with_reducible exact Below.refl _ _ | with_reducible refine Below.drew ?_ | ((with_reducible refine Below.alloc ?_ ?_ _); rotate_left; · first | omega | (simp [World.setCell]; done) | (simp [World.setCell]; omega)) | ((with_reducible refine Below.setCell ?_ ?_ _); rotate_left; · first | exact Nat.le_refl _ | omega | (simp; done) | (simp; omega))))
  · have hF : Hid (addF o xs o' ys = ((0, []), false)) := if_neg hok
    have hok' : fitF o xs o' ys = false := by simpa using hok
    clear hok
    go_enter Try.func111, Try.ntmps111
    go_wp2_with fail
    have h1 := h.below b0 hh
    have g1 := g'.below b0 gh
    generalize World.alloc (World.alloc (World.alloc w (.cells #[.int .i64 o, .slice A n c] 38)) (.cells #[.int .i64 o', .slice B m d] 38)) (.cells #[.int .i64 0, .slice none 0 0] 38) = W at j1 j2 j3 b0 h1 g1 z0 ⊢
    refine (spec_l11Two o A n c xs lo hi o' B m d ys lo' hi' W h1 g1 (by omega) (by omega)).mono ?_
    rintro e w1 ⟨rfl, b1⟩
    rw [hok']
    have k3 := j3.below b1
    have b3 := b0.trans (b1.mono z0)
    have p4 := k3.c0
    have p5 := k3.c1
    have p6 := k3.f0
    have p7 := k3.f1
    go_wp2_with fail
    refine bodyPost_ret (v := .tuple #[.agg #[.int .i64 0, .slice none 0 0], .bool false]) (by simp [results, Try.results111, go_sem, p4, p5]) rfl ⟨_, _, _, by rw [hF.out], by rw [hF.out]; exact OwnI.nil_ _ _ _, ?_⟩
    (repeat (first | with_reducible exact b3 | with_reducible exact Below.refl _ _ | with_reducible refine Below.drew ?_ | ((with_reducible refine Below.alloc ?_ ?_ _); rotate_left; · first | omega | (simp [World.setCell]; done) | (simp [World.setCell]; omega)) | ((with_reducible refine Below.setCell ?_ ?_ _); rotate_left; · first | exact Nat.le_refl _ | omega | (simp; done) | (simp; omega))))

set_option maxRecDepth 100000 in
set_option maxHeartbeats 1000000 in
theorem impl_mixWords (o : Int) (A : Option Addr) (n c : Nat) (xs : List Int) (lo hi : Nat) (o' : Int) (B : Option Addr) (m d : Nat) (ys : List Int) (lo' hi' : Nat) (k : Int) (w : World) (h : Ints w lo hi A n c xs) (g' : Ints w lo' hi' B m d ys) (hh : hi ≤ w.heap.size) (gh : hi' ≤ w.heap.size)
    (h0 : 0 ≤ o) (h5 : o ≤ 5) (hn : n = cntN o) (hm2 : m = cntN o) (hnum : ∀ x ∈ xs, 0 ≤ x ∧ x < 1000000271) (hnum2 : ∀ x ∈ ys, 0 ≤ x ∧ x < 1000000271) (hk : R64 k) :
    Calls Try.prog 81 #[.agg #[.int .i64 o, .slice A n c], .agg #[.int .i64 o', .slice B m d], .int .i64 k] w fun e w' => ∃ A' c', e = .returned (.agg #[.int .i64 o, .slice A' (cntN o) c']) ∧ OwnI w' w.heap.size w'.heap.size A' (cntN o) c' (zipF xs ys k) ∧ Below w.heap.size w w' := by
  have hm := h.max
  have hcp := h.cap
  have gm := g'.max
  have gcp := g'.cap
  have a1 := below_alloc w (.cells #[.int .i64 o, .slice A n c] 38)
  have a2 := below_alloc (w.alloc (.cells #[.int .i64 o, .slice A n c] 38)) (.cells #[.int .i64 o', .slice B m d] 38)
  have a3 := below_alloc ((w.alloc (.cells #[.int .i64 o, .slice A n c] 38)).alloc (.cells #[.int .i64 o', .slice B m d] 38)) (.cells #[.int .i64 0, .slice none 0 0] 38)
  have j1 := ((Blk2.new w (.int .i64 o) (.slice A n c) 38).below a2).below a3
  have j2 := (Blk2.new (w.alloc (.cells #[.int .i64 o, .slice A n c] 38)) (.int .i64 o') (.slice B m d) 38).below a3
  have j3 := Blk2.new ((w.alloc (.cells #[.int .i64 o, .slice A n c] 38)).alloc (.cells #[.int .i64 o', .slice B m d] 38)) (.int .i64 0) (.slice none 0 0) 38
  have b0 := (a1.trans (a2.mono a1.size)).trans (a3.mono (a1.trans (a2.mono a1.size)).size)
  simp only [World.size_alloc] at j2 j3
  clear a1 a2 a3
  have z0 := b0.size
  have hnum' := hide hnum
  have hnum2' := hide hnum2
  have hk' := hide hk
  have hcb := cntN_bd h5
  subst hn
  obtain rfl := hm2
  clear hnum hnum2 hk
  go_enter Try.func81, Try.ntmps81
  go_wp2_with fail
  have h2 := h.below b0 hh
  have g2 := g'.below b0 gh
  generalize World.alloc (World.alloc (World.alloc w (.cells #[.int .i64 o, .slice A (cntN o) c] 38)) (.cells #[.int .i64 o', .slice B (cntN o) d] 38)) (.cells #[.int .i64 0, .slice none 0 0] 38) = w1 at j1 j2 j3 b0 h2 g2 z0 ⊢
  have q3 := j3.lt
  refine (impl_noWords o w1 h0 h5).mono ?_
  rintro e w2 ⟨A2, c2, rfl, o2, b3⟩
  obtain ⟨g, rfl, hg1, hg2, hg3⟩ := o2.form (by omega)
  have a4 := below_alloc w2 (.cells #[.int .i64 o, .slice (some ⟨g, 0, none⟩) (cntN o) c2] 38)
  have k1 := (j1.below b3).below a4
  have k2 := (j2.below b3).below a4
  have k3 := (j3.below b3).below a4
  have j4 := Blk2.new w2 (.int .i64 o) (.slice (some ⟨g, 0, none⟩) (cntN o) c2) 38
  have o3 := o2.below a4 (Nat.le_refl _)
  have z2 := b3.size
  have h3 := (h2.below b3 (by omega)).below a4 (by omega)
  have g3 := (g2.below b3 (by omega)).below a4 (by omega)
  have b4 := (b0.trans (b3.mono z0)).trans (a4.mono (by omega))
  have q4 := j4.lt
  clear j1 j2 j3 h2 g2 b0 b3 o2
  have p0 := j4.c1
  go_wp2_with fail
  clear p0
  generalize World.alloc w2 (.cells #[.int .i64 o, .slice (some ⟨g, 0, none⟩) (cntN o) c2] 38) = w3 at a4 k1 k2 k3 j4 o3 h3 g3 b4 q4 ⊢
  clear a4
  go_loopw [8, 15] (fun _ i wr => ∃ (j : Nat) (vs : List Int), j ≤ cntN o ∧ i = .int .i64 j ∧ Touch g (g + 1) w3 wr ∧ Hid (wr.heap.size = w3.heap.size) ∧ wr.ownsRow w1.heap.size 3 1 (.slice (some ⟨g, 0, none⟩) (cntN o) c2) (cntN o) (vs.map (Value.int .i64)) ∧ Hid (vs.length = cntN o ∧ vs.take j = (zipF xs ys k).take j))
    (fun _ i _ => cntN o - (intOf i).toNat)
  case atStart => exact ⟨0, _, by omega, rfl, .refl _ _ _, rfl, o3.own, o3.len, by simp⟩
  case round =>
    obtain ⟨j, vs, hj, rfl, ht, hs, hown, hys⟩ := hrel
    have l1 := k1.touch ht (by omega)
    have l2 := k2.touch ht (by omega)
    have l4 := j4.touch ht (by omega)
    have h4 := h3.same (ht.same (.inl (by omega)) (by omega))
    have g4 := g3.same (ht.same (.inl (by omega)) (by omega))
    by_cases hlt : j < cntN o
    · obtain ⟨ad, x, rfl, hc, hr, _, hx⟩ := h4.at_ hlt
      obtain ⟨ae, y, rfl, hd, hr2, _, hy⟩ := g4.at_ hlt
      have p1 := l1.c1
      have p2 := l2.c1
      have p3 := l4.c1
      have hx' := hnum'.out x (List.mem_of_getElem? hx.out)
      have hy' := hnum2'.out y (List.mem_of_getElem? hy.out)
      have hv : (zipF xs ys k)[j]? = some (plusF x (timesF y k)) := zip_at hx.out hy.out
      obtain ⟨hc1, hf1, HS⟩ := fill_step hown ht hs hys hv hlt
      have hne : ¬ w.heap.size = g := by omega
      have hne2 : ¬ w2.heap.size = g := by omega
      have hne3 : ¬ w.heap.size + 1 = g := by omega
      clear hr hr2 hv hown ht hs hys l1 l2 l4 h4 g4
      go_wp2_with fail
      refine still_tail 17 (by kernel_rfl) (by kernel_rfl) ?_
      simp only [List.take_succ_cons, List.take_zero, List.drop_succ_cons, List.drop_zero]
      repeat still_step
      still_call (still_same (impl_Times _ _ _ (r64_of_num hy') hk'.out))
      repeat still_step
      still_call (still_same (impl_Plus _ _ _ (r64_of_num hx') (r64_of_num (timesF_bd _ _))))
      repeat still_step
      refine wpStill_nil ?_
      go_wp2_with fail
      go_roundw
      case rel => exact ⟨j + 1, vs.set j (plusF x (timesF y k)), by omega, by go_num, HS.out.2.1.drew, HS.out.2.2.1, HS.out.1, HS.out.2.2.2⟩
      case measure => simp [intOf]; omega
    · have l3 := k3.touch ht (by omega)
      have p1 := l1.c1
      have p2 := l4.c1
      have p3 := l4.c0
      have p4 := l3.c0
      have p5 := l3.c1
      have p6 := l3.f0
      have p7 := l3.f1
      have l6 := l3.lt
      have e := fill_end hys (zip_len h3.len g3.len) (by omega)
      subst e
      have B5 := b4.trans (ht.below (B := w.heap.size) (by omega) b4.size)
      have HO : Hid (OwnI wr w1.heap.size wr.heap.size (some ⟨g, 0, none⟩) (cntN o) c2 (zipF xs ys k)) :=
        ⟨hown, fun ad e => (owns_lt hown ad e).2, zip_rng xs ys k⟩
      clear hown ht hs hys l1 l2 l3 l4 h4 g4 o3 k1 k2 k3 j4
      go_wp2_with fail
      refine bodyPost_ret (v := .agg #[.int .i64 o, .slice (some ⟨g, 0, none⟩) (cntN o) c2]) (by simp [results, Try.results81, go_sem, p4, p5]) rfl ⟨_, _, rfl, ?_, ?_⟩
      · refine (OwnI.same HO.out ?_).wide (by omega) ?_
        · (repeat (first | with_reducible exact Same.refl _ _ _ | with_reducible refine Same.drew ?_ | ((with_reducible refine Same.alloc ?_ ?_ _); rotate_left; · first | omega | (simp [World.setCell]; done) | (simp [World.setCell]; omega)) | ((with_reducible refine Same.setCell ?_ ?_ _); rotate_left; · first | omega | (simp; done) | (simp; omega))))
        · simp [World.setCell]
      · (repeat (first | with_reducible exact B5 | with_reducible exact Below.refl _ _ | with_reducible refine Below.drew ?_ | ((with_reducible refine Below.alloc ?_ ?_ _); rotate_left; · first | omega | (simp [World.setCell]; done) | (simp [World.setCell]; omega)) | ((with_reducible refine Below.setCell ?_ ?_ _); rotate_left; · first | exact Nat.le_refl _ | omega | (simp; done) | (simp; omega))))

set_option maxRecDepth 100000 in
set_option maxHeartbeats 1000000 in
theorem impl_AddWords (o : Int) (A : Option Addr) (n c : Nat) (xs : List Int) (lo hi : Nat) (o' : Int) (B : Option Addr) (m d : Nat) (ys : List Int) (lo' hi' : Nat) (w : World) (h : Ints w lo hi A n c xs) (g' : Ints w lo' hi' B m d ys) (hh : hi ≤ w.heap.size) (gh : hi' ≤ w.heap.size) :
    Calls Try.prog 31 #[.agg #[.int .i64 o, .slice A n c], .agg #[.int .i64 o', .slice B m d]] w fun e w' => ∃ A' n' c', e = .returned (.tuple #[.agg #[.int .i64 (addF o xs o' ys).1.1, .slice A' n' c'], .bool (addF o xs o' ys).2]) ∧ OwnI w' w.heap.size w'.heap.size A' n' c' (addF o xs o' ys).1.2 ∧ Below w.heap.size w w' := by
  have a1 := below_alloc w (.cells #[.int .i64 o, .slice A n c] 38)
  have a2 := below_alloc (w.alloc (.cells #[.int .i64 o, .slice A n c] 38)) (.cells #[.int .i64 o', .slice B m d] 38)
  have a3 := below_alloc ((w.alloc (.cells #[.int .i64 o, .slice A n c] 38)).alloc (.cells #[.int .i64 o', .slice B m d] 38)) (.cells #[.int .i64 0, .slice none 0 0] 38)
  have j1 := ((Blk2.new w (.int .i64 o) (.slice A n c) 38).below a2).below a3
  have j2 := (Blk2.new (w.alloc (.cells #[.int .i64 o, .slice A n c] 38)) (.int .i64 o') (.slice B m d) 38).below a3
  have j3 := Blk2.new ((w.alloc (.cells #[.int .i64 o, .slice A n c] 38)).alloc (.cells #[.int .i64 o', .slice B m d] 38)) (.int .i64 0) (.slice none 0 0) 38
  have b0 := (a1.trans (a2.mono a1.size)).trans (a3.mono (a1.trans (a2.mono a1.size)).size)
  simp only [World.size_alloc] at j2 j3
  clear a1 a2 a3
  have z0 := b0.size
  have hc := hide (rfl : fitF o xs o' ys = fitF o xs o' ys)
  go_enter Try.func31, Try.ntmps31
  go_wp2_with fail
  have h1 := h.below b0 hh
  have g1 := g'.below b0 gh
  generalize World.alloc (World.alloc (World.alloc w (.cells #[.int .i64 o, .slice A n c] 38)) (.cells #[.int .i64 o', .slice B m d] 38)) (.cells #[.int .i64 0, .slice none 0 0] 38) = W at j1 j2 j3 b0 h1 g1 z0 ⊢
  refine (impl_wordsFit o A n c xs lo hi o' B m d ys lo' hi' W h1 g1 (by omega) (by omega)).mono ?_
  rintro e w1 ⟨rfl, b1⟩
  have k1 := j1.below b1
  have k2 := j2.below b1
  have k3 := j3.below b1
  have h2 := h1.below b1 (by omega)
  have g2 := g1.below b1 (by omega)
  have b2 := b0.trans (b1.mono z0)
  have z1 := b2.size
  have q3 := k3.lt
  clear j1 j2 j3 h1 g1 b0 b1 z0
  by_cases hok : fitF o xs o' ys = true
  · have hF : Hid (addF o xs o' ys = ((o, zipF xs ys 1), true)) := if_pos hok
    obtain ⟨ok1, ok2, rfl⟩ := fit_facts hok
    obtain ⟨⟨h0, h5⟩, hlen, hnum⟩ := wordsOk_facts ok1
    obtain ⟨_, hlen2, hnum2⟩ := wordsOk_facts ok2
    have hn : n = cntN o := by rw [← h.len, hlen]
    have hm : m = cntN o := by rw [← g'.len, hlen2]
    rw [hok]
    have H := hide (And.intro hn (And.intro hm (And.intro hnum hnum2)))
    clear hn hm hnum hnum2 hlen hlen2 hok ok1 ok2
    have p1 := k1.c0
    have p2 := k1.c1
    have p3 := k2.c0
    have p4 := k2.c1
    go_wp2_with fail
    clear p1 p2 p3 p4
    refine (impl_mixWords o A n c xs lo hi o B m d ys lo' hi' 1 w1 h2 g2 (by omega) (by omega) h0 h5 H.out.1 H.out.2.1 H.out.2.2.1 H.out.2.2.2 (by constructor <;> omega)).mono ?_
    rintro e w2 ⟨A2, c2, rfl, o2, b3⟩
    have l3 := k3.below b3
    have p4 := l3.c0
    have p5 := l3.c1
    have p6 := l3.f0
    have p7 := l3.f1
    have l6 := l3.lt
    have B5 := b2.trans (b3.mono z1)
    have HO := hide o2
    clear o2 b3 b2 l3 k1 k2 k3
    go_wp2_with fail
    refine bodyPost_ret (v := .tuple #[.agg #[.int .i64 o, .slice A2 (cntN o) c2], .bool true]) (by simp [results, Try.results31, go_sem, p4, p5]) rfl ⟨_, _, _, by rw [hF.out], ?_, ?_⟩
    · rw [hF.out]
      refine (OwnI.same HO.out ?_).wide (by omega) ?_
      · (repeat (first | with_reducible exact Same.refl _ _ _ | with_reducible refine Same.drew ?_ | ((with_reducible refine Same.alloc ?_ ?_ _); rotate_left; · first | omega | (simp [World.setCell]; done) | (simp [World.setCell]; omega)) | ((with_reducible refine Same.setCell ?_ ?_ _); rotate_left; · first | omega | (simp; done) | (simp; omega))))
      · simp [World.setCell]
    · (repeat (first | with_reducible exact B5 | with_reducible exact Below.refl _ _ | with_reducible refine Below.drew ?_ | ((with_reducible refine Below.alloc ?_ ?_ _); rotate_left; · first | omega | (simp [World.setCell]; done) | (simp [World.setCell]; omega)) | ((with_reducible refine Below.setCell ?_ ?_ _); rotate_left; · first | exact Nat.le_refl _ | omega | (simp; done) | (simp; omega))))
  · have hF : Hid (addF o xs o' ys = ((0, []), false)) := if_neg hok
    have hok' : fitF o xs o' ys = false := by simpa using hok
    rw [hok']
    clear hok
    have p4 := k3.c0
    have p5 := k3.c1
    have p6 := k3.f0
    have p7 := k3.f1
    go_wp2_with fail
    refine bodyPost_ret (v := .tuple #[.agg #[.int .i64 0, .slice none 0 0], .bool false]) (by simp [results, Try.results31, go_sem, p4, p5]) rfl ⟨_, _, _, by rw [hF.out], by rw [hF.out]; exact OwnI.nil_ _ _ _, ?_⟩
    (repeat (first | with_reducible exact b2 | with_reducible exact Below.refl _ _ | with_reducible refine Below.drew ?_ | ((with_reducible refine Below.alloc ?_ ?_ _); rotate_left; · first | omega | (simp [World.setCell]; done) | (simp [World.setCell]; omega)) | ((with_reducible refine Below.setCell ?_ ?_ _); rotate_left; · first | exact Nat.le_refl _ | omega | (simp; done) | (simp; omega))))

theorem zip_zeros {n : Nat} {ys : List Int} {k : Int} (h : ys.length = n) : zipF (List.replicate n 0) ys k = ys.map (fun x => timesF x k) := by
  apply List.ext_getElem?
  intro j
  unfold zipF
  rw [List.getElem?_zipWith, List.getElem?_map, List.getElem?_replicate]
  by_cases hj : j < n
  · rw [if_pos hj, List.getElem?_eq_getElem (by omega)]
    simp only [Option.map_some]
    rw [plusF_zero, resF_of (timesF_bd _ _).1 (timesF_bd _ _).2]
  · rw [if_neg hj, List.getElem?_eq_none (by omega)]
    rfl
theorem zeros_num (n : Nat) : ∀ x ∈ List.replicate n (0 : Int), 0 ≤ x ∧ x < 1000000271 := by
  intro x hx
  rw [List.mem_replicate] at hx
  rw [hx.2]
  constructor <;> omega

set_option maxRecDepth 100000 in
set_option maxHeartbeats 1000000 in
theorem impl_ScaleWords (o : Int) (A : Option Addr) (n c : Nat) (xs : List Int) (lo hi : Nat) (k : Int) (w : World) (h : Ints w lo hi A n c xs) (hh : hi ≤ w.heap.size) (hk : R64 k) :
    Calls Try.prog 35 #[.agg #[.int .i64 o, .slice A n c], .int .i64 k] w fun e w' => ∃ A' n' c', e = .returned (.agg #[.int .i64 (scaleF o xs k).1, .slice A' n' c']) ∧ OwnI w' w.heap.size w'.heap.size A' n' c' (scaleF o xs k).2 ∧ Below w.heap.size w w' := by
  have hk' := hide hk
  clear hk
  have a1 := below_alloc w (.cells #[.int .i64 o, .slice A n c] 38)
  have a2 := below_alloc (w.alloc (.cells #[.int .i64 o, .slice A n c] 38)) (.cells #[.int .i64 0, .slice none 0 0] 38)
  have j1 := (Blk2.new w (.int .i64 o) (.slice A n c) 38).below a2
  have j2 := Blk2.new (w.alloc (.cells #[.int .i64 o, .slice A n c] 38)) (.int .i64 0) (.slice none 0 0) 38
  have b0 := a1.trans (a2.mono a1.size)
  simp only [World.size_alloc] at j2
  clear a1 a2
  have z0 := b0.size
  go_enter Try.func35, Try.ntmps35
  go_wp2_with fail
  have h1 := h.below b0 hh
  generalize World.alloc (World.alloc w (.cells #[.int .i64 o, .slice A n c] 38)) (.cells #[.int .i64 0, .slice none 0 0] 38) = W at j1 j2 b0 h1 z0 ⊢
  refine (impl_WordsOk o A n c xs lo hi W h1 (by omega)).mono ?_
  rintro e w1 ⟨rfl, b1⟩
  have k1 := j1.below b1
  have k2 := j2.below b1
  have h2 := h1.below b1 (by omega)
  have b2 := b0.trans (b1.mono z0)
  have z1 := b2.size
  clear j1 j2 h1 b0 b1 z0
  by_cases hok : wordsOkF o xs = true
  · have hF : Hid (scaleF o xs k = (o, xs.map (fun x => timesF x k))) := if_pos hok
    obtain ⟨⟨h0, h5⟩, hlen, hnum⟩ := wordsOk_facts hok
    have hn : n = cntN o := by rw [← h.len, hlen]
    rw [hok]
    have H := hide (And.intro hn (And.intro hnum hlen))
    clear hn hnum hlen hok
    have d1 : Below w1.heap.size w1 w1.drew := (Below.refl _ _).drew
    have l1 := k1.below d1
    have l2 := k2.below d1
    have h3 := h2.below d1 (by omega)
    have b3 := b2.trans (d1.mono z1)
    have z2 := b3.size
    have p1 := k1.c0
    have p2 := k1.c1
    go_wp2_with fail
    go_region_held3 (fun w' => w'.cell? ⟨w.heap.size, 0, none⟩ = some (.int .i64 o) ∧ w'.cell? ⟨w.heap.size, 1, none⟩ = some (.slice A n c)) (first | exact ⟨p1, p2⟩ | exact ⟨P1, P2⟩ | exact ⟨Q1, Q2⟩ | go_keep)
      (first
        | (go_at_call 80; refine (impl_noWords o w1.drew h0 h5).mono ?_; rintro e w2 ⟨A2, c2, rfl, o2, b4⟩; have P1 := (l1.below b4).c0; have P2 := (l1.below b4).c1)
        | (go_at_call 81; refine (impl_mixWords o A2 (cntN o) c2 (List.replicate (cntN o) 0) _ _ o A n c xs lo hi k w2 o2.ints (h3.below b4 (by omega)) (by omega) (by have := b4.size; omega) h0 h5 rfl H.out.1 (zeros_num _) H.out.2.1 hk'.out).mono ?_; rintro e w3 ⟨A3, c3, rfl, o3, b5⟩; have Q1 := ((l1.below b4).below b5).c0; have Q2 := ((l1.below b4).below b5).c1; have Q3 := ((l2.below b4).below b5).c0; have Q4 := ((l2.below b4).below b5).c1; have Q5 := ((l2.below b4).below b5).f0; have Q6 := ((l2.below b4).below b5).f1))
    have z4 := b4.size
    have z5 := b5.size
    have B5 := (b3.trans (b4.mono z2)).trans (b5.mono (Nat.le_trans z2 z4))
    have hlt := ((l2.below b4).below b5).lt
    have hlt2 := (l2.below b4).lt
    rw [zip_zeros H.out.2.2] at o3
    have HO := hide o3
    clear o3 b5 b4 o2 P1 P2 p1 p2 k1 k2 l1 l2 h3
    go_wp2_with fail
    refine bodyPost_ret (v := .agg #[.int .i64 o, .slice A3 (cntN o) c3]) (by simp [results, Try.results35, go_sem, Q3, Q4]) rfl ⟨_, _, _, by rw [hF.out], ?_, ?_⟩
    · rw [hF.out]
      refine (OwnI.same HO.out ?_).wide (by omega) ?_
      · (repeat (first | with_reducible exact Same.refl _ _ _ | with_reducible refine Same.drew ?_ | ((with_reducible refine Same.alloc ?_ ?_ _); rotate_left; · first | omega | (simp [World.setCell]; done) | (simp [World.setCell]; omega)) | ((with_reducible refine Same.setCell ?_ ?_ _); rotate_left; · first | omega | (simp; done) | (simp; omega))))
      · simp [World.setCell]
    · (repeat (first | with_reducible exact B5 | with_reducible exact Below.refl _ _ | with_reducible refine Below.drew ?_ | ((with_reducible refine Below.alloc ?_ ?_ _); rotate_left; · first | omega | (simp [World.setCell]; done) | (simp [World.setCell]; omega)) | ((with_reducible refine Below.setCell ?_ ?_ _); rotate_left; · first | exact Nat.le_refl _ | omega | (simp; done) | (simp; omega))))
  · have hF : Hid (scaleF o xs k = (0, [])) := if_neg hok
    have hok' : wordsOkF o xs = false := by simpa using hok
    rw [hok']
    clear hok
    have p4 := k2.c0
    have p5 := k2.c1
    have p6 := k2.f0
    have p7 := k2.f1
    go_wp2_with fail
    refine bodyPost_ret (v := .agg #[.int .i64 0, .slice none 0 0]) (by simp [results, Try.results35, go_sem, p4, p5]) rfl ⟨_, _, _, by rw [hF.out], by rw [hF.out]; exact OwnI.nil_ _ _ _, ?_⟩
    (repeat (first | with_reducible exact b2 | with_reducible exact Below.refl _ _ | with_reducible refine Below.drew ?_ | ((with_reducible refine Below.alloc ?_ ?_ _); rotate_left; · first | omega | (simp [World.setCell]; done) | (simp [World.setCell]; omega)) | ((with_reducible refine Below.setCell ?_ ?_ _); rotate_left; · first | exact Nat.le_refl _ | omega | (simp; done) | (simp; omega))))
end Go.Proofs.Ytodlfmagkjblgaa
