/- Products of words: the walks of both texts. -/
import Derived.Test.YtodlfmagkjblgaaAddW
import Derived.Test.YtodlfmagkjblgaaWordAt
namespace Go.Proofs.Ytodlfmagkjblgaa
open Go.RowKit
set_option linter.unusedSimpArgs false
set_option linter.unusedVariables false
set_option maxRecDepth 20000

def mulGo (xs ys v : List Int) : Nat → Nat → Int → Int
  | 0, _, acc => acc
  | s + 1, k, acc => mulGo xs ys v s (k + 1) (plusF acc (timesF (xs.getD (placeF (v.take k)).toNat 0) (ys.getD (placeF (v.drop k)).toNat 0)))
def mulAt (xs ys : List Int) (i : Nat) : Int := mulGo xs ys (wordL i) ((wordL i).length + 1) 0 0
def mulL (n : Nat) (xs ys : List Int) : List Int := (List.range n).map (mulAt xs ys)
def mulF (o : Int) (xs : List Int) (o' : Int) (ys : List Int) : (Int × List Int) × Bool := if fitF o xs o' ys then ((o, mulL (cntN o) xs ys), true) else ((0, []), false)

theorem mulGo_bd (xs ys v : List Int) (s k : Nat) (acc : Int) (h : 0 ≤ acc ∧ acc < 1000000271) : 0 ≤ mulGo xs ys v s k acc ∧ mulGo xs ys v s k acc < 1000000271 := by
  induction s generalizing k acc with
  | zero => exact h
  | succ s ih => exact ih _ _ (plusF_bd _ _)
theorem mulL_len (n : Nat) (xs ys : List Int) : (mulL n xs ys).length = n := by simp [mulL]
theorem mulL_at {n : Nat} (xs ys : List Int) {j : Nat} (h : j < n) : (mulL n xs ys)[j]? = some (mulAt xs ys j) := by simp [mulL, h]
theorem mulL_num (n : Nat) (xs ys : List Int) : ∀ x ∈ mulL n xs ys, 0 ≤ x ∧ x < 1000000271 := by
  intro x hx
  simp only [mulL, List.mem_map] at hx
  obtain ⟨i, _, rfl⟩ := hx
  exact mulGo_bd _ _ _ _ _ _ (by omega)

theorem Ints.take_ {w : World} {lo hi : Nat} {A : Option Addr} {n c : Nat} {xs : List Int} (h : Ints w lo hi A n c xs) {k : Nat} (hk : k ≤ n) : Ints w lo hi A k c (xs.take k) :=
  ⟨by rw [List.length_take]; have := h.len; omega, by have := h.cap; omega, h.max, (fun h0 => by
    obtain ⟨ad, e, h1, h2, hc⟩ := h.cells (by omega)
    refine ⟨ad, e, h1, h2, fun j x hx => hc j x ?_⟩
    rw [List.getElem?_take] at hx
    split at hx
    · exact hx
    · cases hx), fun x hx => h.rng x (List.mem_of_mem_take hx)⟩
theorem Ints.drop_ {w : World} {lo hi g : Nat} {n c : Nat} {xs : List Int} (h : Ints w lo hi (some ⟨g, 0, none⟩) n c xs) {k : Nat} (hk : k ≤ n) : Ints w lo hi (some ⟨g, k, none⟩) (n - k) (c - k) (xs.drop k) :=
  ⟨by rw [List.length_drop]; have := h.len; omega, by have := h.cap; omega, by have := h.max; omega, (fun h0 => by
    obtain ⟨ad, e, h1, h2, hc⟩ := h.cells (by omega)
    injection e with e
    subst e
    refine ⟨_, rfl, h1, h2, fun j x hx => ?_⟩
    rw [List.getElem?_drop] at hx
    have := hc _ _ hx
    simpa [Addr.add_lit] using this), fun x hx => h.rng x (List.mem_of_mem_drop hx)⟩

theorem Ints.drop_if {w : World} {lo hi g : Nat} {n c : Nat} {xs : List Int} (h : Ints w lo hi (some ⟨g, 0, none⟩) n c xs) {k : Nat} (hk : k ≤ n) : Ints w lo hi (if c = k then some ⟨g, 0, none⟩ else some ⟨g, k, none⟩) (n - k) (c - k) (xs.drop k) := by
  split
  · have h1 := h.cap
    have h2 := (h.drop_ hk)
    exact ⟨h2.len, h2.cap, h2.max, fun h0 => absurd h0 (by omega), h2.rng⟩
  · exact h.drop_ hk

/-- Where the two halves of a word lie. -/
theorem place_nat {o : Int} (h5 : o ≤ 5) {j : Nat} (hj : j < cntN o) (k : Nat) : (∃ p : Nat, placeF ((wordL j).take k) = (p : Int) ∧ p < cntN o) ∧ ∃ q : Nat, placeF ((wordL j).drop k) = (q : Int) ∧ q < cntN o := by
  have hl : (wordL j).length ≤ o.toNat := wordL_len j o.toNat (by unfold cntN at hj; omega)
  have hb := wordL_bit j
  have key : ∀ v : List Int, (∀ x ∈ v, x = 0 ∨ x = 1) → v.length ≤ o.toNat → ∃ p : Nat, placeF v = (p : Int) ∧ p < cntN o := by
    intro v hv hvl
    obtain ⟨h1, h2⟩ := placeF_bd hv (by omega)
    have h3 : (2 : Int) ^ (v.length + 1) ≤ 2 ^ (o.toNat + 1) := by
      have : (2 : Nat) ^ (v.length + 1) ≤ 2 ^ (o.toNat + 1) := Nat.pow_le_pow_right (by omega) (by omega)
      exact_mod_cast this
    refine ⟨(placeF v).toNat, by omega, ?_⟩
    unfold cntN
    have h4 : ((2 ^ (o.toNat + 1) : Nat) : Int) = 2 ^ (o.toNat + 1) := by simp
    omega
  refine ⟨key _ (fun x hx => hb x (List.mem_of_mem_take hx)) (by rw [List.length_take]; omega), key _ (fun x hx => hb x (List.mem_of_mem_drop hx)) (by rw [List.length_drop]; omega)⟩

/-- A row whose cells are set one behind the other, each in several steps. -/
def FillI (n j : Nat) (zs vs : List Int) : Prop := vs.length = n ∧ vs.take j = zs.take j ∧ ∀ i, j ≤ i → i < n → vs[i]? = some 0
def FillJ (n j : Nat) (zs vs : List Int) (acc : Int) : Prop := vs.length = n ∧ vs.take j = zs.take j ∧ vs[j]? = some acc ∧ ∀ i, j < i → i < n → vs[i]? = some 0
theorem fillI_new (n : Nat) (zs : List Int) : FillI n 0 zs (List.replicate n 0) := ⟨by simp, by simp, fun i _ h => by simp [h]⟩
theorem FillI.open {n j : Nat} {zs vs : List Int} (h : FillI n j zs vs) (hj : j < n) : FillJ n j zs vs 0 := ⟨h.1, h.2.1, h.2.2 j (Nat.le_refl _) hj, fun i h1 h2 => h.2.2 i (by omega) h2⟩
theorem FillJ.close {n j : Nat} {zs vs : List Int} {acc : Int} (h : FillJ n j zs vs acc) (hz : zs[j]? = some acc) : FillI n (j + 1) zs vs :=
  ⟨h.1, by rw [List.take_add_one, List.take_add_one, h.2.1, h.2.2.1, hz], fun i h1 h2 => h.2.2.2 i (by omega) h2⟩
theorem FillJ.set {n j : Nat} {zs vs : List Int} {acc : Int} (h : FillJ n j zs vs acc) (hj : j < n) (v : Int) : FillJ n j zs (vs.set j v) v :=
  ⟨by simpa using h.1, by rw [List.take_set_of_le (Nat.le_refl _)]; exact h.2.1, by rw [List.getElem?_set_self (by have := h.1; omega)], fun i h1 h2 => by rw [List.getElem?_set_ne (by omega)]; exact h.2.2.2 i h1 h2⟩
theorem FillI.done {n j : Nat} {zs vs : List Int} (h : FillI n j zs vs) (hz : zs.length = n) (hj : n ≤ j) : vs = zs := by
  have h1 := h.2.1
  rwa [List.take_of_length_le (by have := h.1; omega), List.take_of_length_le (by omega)] at h1
theorem fillJ_step {w3 wr : World} {g lo n c2 j : Nat} {vs zs : List Int} {acc v : Int} (hown : wr.ownsRow lo 3 1 (.slice (some ⟨g, 0, none⟩) n c2) n (vs.map (Value.int .i64))) (ht : Touch g (g + 1) w3 wr)
    (hf : FillJ n j zs vs acc) (hj : j < n) :
    wr.cell? ⟨g, j, none⟩ = some (.int .i64 acc) ∧ wr.frozen? ⟨g, j, none⟩ = false ∧
    Hid ((wr.setCell ⟨g, j, none⟩ (.int .i64 v)).ownsRow lo 3 1 (.slice (some ⟨g, 0, none⟩) n c2) n ((vs.set j v).map (Value.int .i64)) ∧ Touch g (g + 1) w3 (wr.setCell ⟨g, j, none⟩ (.int .i64 v)) ∧ FillJ n j zs (vs.set j v) v) := by
  have hst := hown.stored j (.int .i64 v)
  refine ⟨?_, hown.frozenAt j, by simpa [List.map_set] using hst.1, ht.setCell (.inl ⟨Nat.le_refl _, by simp⟩) _, hf.set hj v⟩
  rw [hown.cellAt j (by omega)]
  simp [hf.2.2.1]

set_option maxRecDepth 100000 in
set_option maxHeartbeats 2000000 in
theorem impl_mulWords (o : Int) (A : Option Addr) (n c : Nat) (xs : List Int) (lo hi : Nat) (o' : Int) (B : Option Addr) (m d : Nat) (ys : List Int) (lo' hi' : Nat) (w : World) (h : Ints w lo hi A n c xs) (g' : Ints w lo' hi' B m d ys) (hh : hi ≤ w.heap.size) (gh : hi' ≤ w.heap.size)
    (h0 : 0 ≤ o) (h5 : o ≤ 5) (hn : n = cntN o) (hm2 : m = cntN o) (hnum : ∀ x ∈ xs, 0 ≤ x ∧ x < 1000000271) (hnum2 : ∀ x ∈ ys, 0 ≤ x ∧ x < 1000000271) :
    Calls Try.prog 73 #[.agg #[.int .i64 o, .slice A n c], .agg #[.int .i64 o', .slice B m d]] w fun e w' => ∃ A' c', e = .returned (.agg #[.int .i64 o, .slice A' (cntN o) c']) ∧ OwnI w' w.heap.size w'.heap.size A' (cntN o) c' (mulL (cntN o) xs ys) ∧ Below w.heap.size w w' := by
  have hm := h.max
  have hcp := h.cap
  have gm := g'.max
  have gcp := g'.cap
  have a1 := below_alloc w (.cells #[.int .i64 o, .slice A n c] 38)
  have a2 := below_alloc (w.alloc (.cells #[.int .i64 o, .slice A n c] 38)) (.cells #[.int .i64 o', .slice B m d] 38)
  have a3 := below_alloc ((w.alloc (.cells #[.int .i64 o, .slice A n c] 38)).alloc (.cells #[.int .i64 o', .slice B m d] 38)) (.cells #[.int .i64 0, .slice none 0 0] 38)
  have j1 := ((Blk2.new w (.int .i64 o) (.slice A n c) 38).below a2).below a3
  have j2 := (Blk2.new (w.alloc (.cells #[.int .i64 o, .slice A n c] 38)) (.int .i64 o') (.slice B m d) 38).below a3
  have j3 := Blk2.new ((w.alloc (.cells #[.int .i64 o, .slice A n c] 38)).alloc (.cells #[.int .i64 o', .slice B m d] 38)) (.int .i64 0) (.slice none 0 0) 38
  have b0 := (a1.trans (a2.mono a1.size)).trans (a3.mono (a1.trans (a2.mono a1.size)).size)
  simp only [World.size_alloc] at j2 j3
  clear a1 a2 a3
  have z0 := b0.size
  have hnum' := hide hnum
  have hnum2' := hide hnum2
  have hcb := cntN_bd h5
  subst hn
  obtain rfl := hm2
  clear hnum hnum2
  go_enter Try.func73, Try.ntmps73
  go_wp2_with fail
  have h2 := h.below b0 hh
  have g2 := g'.below b0 gh
  generalize World.alloc (World.alloc (World.alloc w (.cells #[.int .i64 o, .slice A (cntN o) c] 38)) (.cells #[.int .i64 o', .slice B (cntN o) d] 38)) (.cells #[.int .i64 0, .slice none 0 0] 38) = w1 at j1 j2 j3 b0 h2 g2 z0 ⊢
  have q3 := j3.lt
  refine (impl_noWords o w1 h0 h5).mono ?_
  rintro e w2 ⟨A2, c2, rfl, o2, b3⟩
  obtain ⟨g, rfl, hg1, hg2, hg3⟩ := o2.form (by omega)
  have a4 := below_alloc w2 (.cells #[.int .i64 o, .slice (some ⟨g, 0, none⟩) (cntN o) c2] 38)
  have k1 := (j1.below b3).below a4
  have k2 := (j2.below b3).below a4
  have k3 := (j3.below b3).below a4
  have j4 := Blk2.new w2 (.int .i64 o) (.slice (some ⟨g, 0, none⟩) (cntN o) c2) 38
  have o3 := o2.below a4 (Nat.le_refl _)
  have z2 := b3.size
  have h3 := (h2.below b3 (by omega)).below a4 (by omega)
  have g3 := (g2.below b3 (by omega)).below a4 (by omega)
  have b4 := (b0.trans (b3.mono z0)).trans (a4.mono (by omega))
  have q4 := j4.lt
  clear j1 j2 j3 h2 g2 b0 b3 o2
  have p0 := j4.c1
  go_wp2_with fail
  clear p0
  generalize World.alloc w2 (.cells #[.int .i64 o, .slice (some ⟨g, 0, none⟩) (cntN o) c2] 38) = w3 at a4 k1 k2 k3 j4 o3 h3 g3 b4 q4 ⊢
  clear a4
  have hin := fillI_new (cntN o) (mulL (cntN o) xs ys)
  go_loopw [6, 7, 8, 15] (fun _ _ _ i wr => ∃ (j : Nat) (vs : List Int), j ≤ cntN o ∧ i = .int .i64 j ∧ Touch g (g + 1) w3 wr ∧ wr.ownsRow w1.heap.size 3 1 (.slice (some ⟨g, 0, none⟩) (cntN o) c2) (cntN o) (vs.map (Value.int .i64)) ∧ FillI (cntN o) j (mulL (cntN o) xs ys) vs)
    (fun _ _ _ i _ => cntN o - (intOf i).toNat)
  case atStart => exact ⟨0, _, by omega, rfl, .refl _ _ _, o3.own, hin⟩
  case round =>
    obtain ⟨j, vs, hj, rfl, ht, hown, hf⟩ := hrel
    by_cases hlt : j < cntN o
    · obtain ⟨wo, rfl⟩ : ∃ wo : World, wo = wr := ⟨_, rfl⟩
      go_wp2_with fail
      refine (impl_wordAt j wo (by omega)).mono ?_
      rintro e w4 ⟨gw, cw, rfl, ow, bw⟩
      have hL := wordL_len5 (p := j) (by omega)
      have hgw := (ow.lt_size _ rfl)
      have ht4 : Touch g (g + 1) w3 w4 := ht.trans (.of_below bw)
      have hown4 := owns_below hown bw (fun ad e => (owns_lt hown ad e).2)
      have hg0 := (owns_lt hown _ rfl)
      have hs3 := ht.size
      have hs4 := bw.size
      have hfj := hf.open hlt
      have hpl := place_nat h5 hlt
      simp only at hg0 hgw
      clear hown ht bw hf
      go_wp2_with fail
      go_loopw [8] (fun i wr => ∃ (k : Nat) (acc : Int) (vs : List Int), k ≤ (wordL j).length + 1 ∧ i = .int .i64 k ∧ Touch g (g + 1) w4 wr ∧ wr.ownsRow w1.heap.size 3 1 (.slice (some ⟨g, 0, none⟩) (cntN o) c2) (cntN o) (vs.map (Value.int .i64)) ∧ FillJ (cntN o) j (mulL (cntN o) xs ys) vs acc ∧ Hid (mulAt xs ys j = mulGo xs ys (wordL j) ((wordL j).length + 1 - k) k acc) ∧ Hid (0 ≤ acc ∧ acc < 1000000271))
        (fun i _ => (wordL j).length + 1 - (intOf i).toNat)
      case atStart => exact ⟨0, 0, vs, by omega, rfl, .refl _ _ _, hown4, hfj, rfl, ⟨by omega, by omega⟩⟩
      case round =>
        clear hown4 hfj
        obtain ⟨k, acc, vs, hk, rfl, ht, hown, hf, hm, ha⟩ := hrel
        by_cases hk2 : k ≤ (wordL j).length
        · obtain ⟨⟨p, hp, hpn⟩, q, hq, hqn⟩ := hpl k
          have t3 := ht4.trans ht
          have l1 := k1.touch t3 (by omega)
          have l2 := k2.touch t3 (by omega)
          have l4 := j4.touch t3 (by omega)
          obtain ⟨ad, x, rfl, hc, hr, _, hx⟩ := (h3.same (t3.same (.inl (by omega)) (by omega))).at_ hpn
          obtain ⟨ae, y, rfl, hd, hr2, _, hy⟩ := (g3.same (t3.same (.inl (by omega)) (by omega))).at_ hqn
          have hwi := (ow.ints.same (ht.same (.inr (by omega)) (by omega)))
          have c1 : Calls Try.prog 124 #[.slice (some ⟨gw, 0, none⟩) k cw] wr.drew fun e w' => e = .returned (.int .i64 (p : Int)) ∧ wr.drew = w' := by
            rw [← hp]; exact impl_PlaceOfWord _ _ _ _ _ _ _ ((hwi.same (Same.drew (Same.refl _ _ _))).take_ hk2)
          have c2' : Calls Try.prog 124 #[.slice (if cw = k then some ⟨gw, 0, none⟩ else some ⟨gw, k, none⟩) ((wordL j).length - k) (cw - k)] wr.drew fun e w' => e = .returned (.int .i64 (q : Int)) ∧ wr.drew = w' := by
            rw [← hq]; exact impl_PlaceOfWord _ _ _ _ _ _ _ ((hwi.same (Same.drew (Same.refl _ _ _))).drop_if hk2)
          have p1 := l1.c1
          have p2 := l2.c1
          have p3 := l4.c1
          have hcw := hwi.cap
          have hcw2 := hwi.max
          have hkc : k ≤ cw := by omega
          have hx' := hnum'.out x (List.mem_of_getElem? hx.out)
          have hy' := hnum2'.out y (List.mem_of_getElem? hy.out)
          obtain ⟨hc1, hf1, HS⟩ := fillJ_step (v := plusF acc (timesF x y)) hown ht hf hlt
          have hm2 : Hid (mulAt xs ys j = mulGo xs ys (wordL j) ((wordL j).length + 1 - (k + 1)) (k + 1) (plusF acc (timesF x y))) := by
            show _ = _
            rw [hm.out, show (wordL j).length + 1 - k = ((wordL j).length + 1 - (k + 1)) + 1 by omega, mulGo, hp, hq]
            simp [List.getD, hx.out, hy.out]
          have hne : ¬ w.heap.size = g := by omega
          have hne2 : ¬ w2.heap.size = g := by omega
          have hne3 : ¬ w.heap.size + 1 = g := by omega
          clear hr hr2 hown ht hf l1 l2 l4 hm t3 hwi hp hq
          go_wp2_with fail
          refine still_tail 27 (by kernel_rfl) (by kernel_rfl) ?_
          simp only [List.take_succ_cons, List.take_zero, List.drop_succ_cons, List.drop_zero]
          repeat still_step
          still_call (still_same c1)
          repeat still_step
          still_call (still_same c2')
          repeat still_step
          still_call (still_same (impl_Times _ _ _ (r64_of_num hx') (r64_of_num hy')))
          repeat still_step
          still_call (still_same (impl_Plus _ _ _ (r64_of_num ha.out) (r64_of_num (timesF_bd _ _))))
          repeat still_step
          refine wpStill_nil ?_
          go_wp2_with fail
          go_roundw
          case rel => exact ⟨k + 1, plusF acc (timesF x y), vs.set j (plusF acc (timesF x y)), by omega, by go_num, HS.out.2.1.drew, HS.out.1, HS.out.2.2, hm2, plusF_bd _ _⟩
          case measure => simp [intOf]; omega
        · have hmm : mulAt xs ys j = acc := by
            rw [hm.out, show (wordL j).length + 1 - k = 0 by omega, mulGo]
          have hf2 := hf.close (by rw [mulL_at xs ys hlt, hmm])
          have t3 := ht4.trans ht
          clear hf ht ht4 hm ow hpl
          go_wp2_with fail
          go_roundw
          case rel => exact ⟨j + 1, vs, by omega, by go_num, t3, hown, hf2⟩
          case measure => simp [intOf]; omega
    · have l3 := k3.touch ht (by omega)
      have l4 := j4.touch ht (by omega)
      have p2 := l4.c1
      have p3 := l4.c0
      have p4 := l3.c0
      have p5 := l3.c1
      have p6 := l3.f0
      have p7 := l3.f1
      have l6 := l3.lt
      have e := hf.done (mulL_len _ _ _) (by omega)
      subst e
      have B5 := b4.trans (ht.below (B := w.heap.size) (by omega) b4.size)
      have HO : Hid (OwnI wr w1.heap.size wr.heap.size (some ⟨g, 0, none⟩) (cntN o) c2 (mulL (cntN o) xs ys)) :=
        ⟨hown, fun ad e => (owns_lt hown ad e).2, fun x hx => r64_of_num (mulL_num _ _ _ x hx)⟩
      clear hown ht hf l3 l4 h3 g3 o3 k1 k2 k3 j4 hin
      go_wp2_with fail
      refine bodyPost_ret (v := .agg #[.int .i64 o, .slice (some ⟨g, 0, none⟩) (cntN o) c2]) (by simp [results, Try.results73, go_sem, p4, p5]) rfl ⟨_, _, rfl, ?_, ?_⟩
      · refine (OwnI.same HO.out ?_).wide (by omega) ?_
        · (repeat (first | with_reducible exact Same.refl _ _ _ | with_reducible refine Same.drew ?_ | ((with_reducible refine Same.alloc ?_ ?_ _); rotate_left; · first | omega | (simp [World.setCell]; done) | (simp [World.setCell]; omega)) | ((with_reducible refine Same.setCell ?_ ?_ _); rotate_left; · first | omega | (simp; done) | (simp; omega))))
        · simp [World.setCell]
      · (repeat (first | with_reducible exact B5 | with_reducible exact Below.refl _ _ | with_reducible refine Below.drew ?_ | ((with_reducible refine Below.alloc ?_ ?_ _); rotate_left; · first | omega | (simp [World.setCell]; done) | (simp [World.setCell]; omega)) | ((with_reducible refine Below.setCell ?_ ?_ _); rotate_left; · first | exact Nat.le_refl _ | omega | (simp; done) | (simp; omega))))

set_option maxRecDepth 100000 in
set_option maxHeartbeats 1000000 in
theorem impl_MulWords (o : Int) (A : Option Addr) (n c : Nat) (xs : List Int) (lo hi : Nat) (o' : Int) (B : Option Addr) (m d : Nat) (ys : List Int) (lo' hi' : Nat) (w : World) (h : Ints w lo hi A n c xs) (g' : Ints w lo' hi' B m d ys) (hh : hi ≤ w.heap.size) (gh : hi' ≤ w.heap.size) :
    Calls Try.prog 22 #[.agg #[.int .i64 o, .slice A n c], .agg #[.int .i64 o', .slice B m d]] w fun e w' => ∃ A' n' c', e = .returned (.tuple #[.agg #[.int .i64 (mulF o xs o' ys).1.1, .slice A' n' c'], .bool (mulF o xs o' ys).2]) ∧ OwnI w' w.heap.size w'.heap.size A' n' c' (mulF o xs o' ys).1.2 ∧ Below w.heap.size w w' := by
  have a1 := below_alloc w (.cells #[.int .i64 o, .slice A n c] 38)
  have a2 := below_alloc (w.alloc (.cells #[.int .i64 o, .slice A n c] 38)) (.cells #[.int .i64 o', .slice B m d] 38)
  have a3 := below_alloc ((w.alloc (.cells #[.int .i64 o, .slice A n c] 38)).alloc (.cells #[.int .i64 o', .slice B m d] 38)) (.cells #[.int .i64 0, .slice none 0 0] 38)
  have j1 := ((Blk2.new w (.int .i64 o) (.slice A n c) 38).below a2).below a3
  have j2 := (Blk2.new (w.alloc (.cells #[.int .i64 o, .slice A n c] 38)) (.int .i64 o') (.slice B m d) 38).below a3
  have j3 := Blk2.new ((w.alloc (.cells #[.int .i64 o, .slice A n c] 38)).alloc (.cells #[.int .i64 o', .slice B m d] 38)) (.int .i64 0) (.slice none 0 0) 38
  have b0 := (a1.trans (a2.mono a1.size)).trans (a3.mono (a1.trans (a2.mono a1.size)).size)
  simp only [World.size_alloc] at j2 j3
  clear a1 a2 a3
  have z0 := b0.size
  have hc := hide (rfl : fitF o xs o' ys = fitF o xs o' ys)
  go_enter Try.func22, Try.ntmps22
  go_wp2_with fail
  have h1 := h.below b0 hh
  have g1 := g'.below b0 gh
  generalize World.alloc (World.alloc (World.alloc w (.cells #[.int .i64 o, .slice A n c] 38)) (.cells #[.int .i64 o', .slice B m d] 38)) (.cells #[.int .i64 0, .slice none 0 0] 38) = W at j1 j2 j3 b0 h1 g1 z0 ⊢
  refine (impl_wordsFit o A n c xs lo hi o' B m d ys lo' hi' W h1 g1 (by omega) (by omega)).mono ?_
  rintro e w1 ⟨rfl, b1⟩
  have k1 := j1.below b1
  have k2 := j2.below b1
  have k3 := j3.below b1
  have h2 := h1.below b1 (by omega)
  have g2 := g1.below b1 (by omega)
  have b2 := b0.trans (b1.mono z0)
  have z1 := b2.size
  have q3 := k3.lt
  clear j1 j2 j3 h1 g1 b0 b1 z0
  by_cases hok : fitF o xs o' ys = true
  · have hF : Hid (mulF o xs o' ys = ((o, mulL (cntN o) xs ys), true)) := if_pos hok
    obtain ⟨ok1, ok2, rfl⟩ := fit_facts hok
    obtain ⟨⟨h0, h5⟩, hlen, hnum⟩ := wordsOk_facts ok1
    obtain ⟨_, hlen2, hnum2⟩ := wordsOk_facts ok2
    have hn : n = cntN o := by rw [← h.len, hlen]
    have hm : m = cntN o := by rw [← g'.len, hlen2]
    rw [hok]
    have H := hide (And.intro hn (And.intro hm (And.intro hnum hnum2)))
    clear hn hm hnum hnum2 hlen hlen2 hok ok1 ok2
    have p1 := k1.c0
    have p2 := k1.c1
    have p3 := k2.c0
    have p4 := k2.c1
    go_wp2_with fail
    clear p1 p2 p3 p4
    refine (impl_mulWords o A n c xs lo hi o B m d ys lo' hi' w1 h2 g2 (by omega) (by omega) h0 h5 H.out.1 H.out.2.1 H.out.2.2.1 H.out.2.2.2).mono ?_
    rintro e w2 ⟨A2, c2, rfl, o2, b3⟩
    have l3 := k3.below b3
    have p4 := l3.c0
    have p5 := l3.c1
    have p6 := l3.f0
    have p7 := l3.f1
    have l6 := l3.lt
    have B5 := b2.trans (b3.mono z1)
    have HO := hide o2
    clear o2 b3 b2 l3 k1 k2 k3
    go_wp2_with fail
    refine bodyPost_ret (v := .tuple #[.agg #[.int .i64 o, .slice A2 (cntN o) c2], .bool true]) (by simp [results, Try.results22, go_sem, p4, p5]) rfl ⟨_, _, _, by rw [hF.out], ?_, ?_⟩
    · rw [hF.out]
      refine (OwnI.same HO.out ?_).wide (by omega) ?_
      · (repeat (first | with_reducible exact Same.refl _ _ _ | with_reducible refine Same.drew ?_ | ((with_reducible refine Same.alloc ?_ ?_ _); rotate_left; · first | omega | (simp [World.setCell]; done) | (simp [World.setCell]; omega)) | ((with_reducible refine Same.setCell ?_ ?_ _); rotate_left; · first | omega | (simp; done) | (simp; omega))))
      · simp [World.setCell]
    · (repeat (first | with_reducible exact B5 | with_reducible exact Below.refl _ _ | with_reducible refine Below.drew ?_ | ((with_reducible refine Below.alloc ?_ ?_ _); rotate_left; · first | omega | (simp [World.setCell]; done) | (simp [World.setCell]; omega)) | ((with_reducible refine Below.setCell ?_ ?_ _); rotate_left; · first | exact Nat.le_refl _ | omega | (simp; done) | (simp; omega))))
  · have hF : Hid (mulF o xs o' ys = ((0, []), false)) := if_neg hok
    have hok' : fitF o xs o' ys = false := by simpa using hok
    rw [hok']
    clear hok
    have p4 := k3.c0
    have p5 := k3.c1
    have p6 := k3.f0
    have p7 := k3.f1
    go_wp2_with fail
    refine bodyPost_ret (v := .tuple #[.agg #[.int .i64 0, .slice none 0 0], .bool false]) (by simp [results, Try.results22, go_sem, p4, p5]) rfl ⟨_, _, _, by rw [hF.out], by rw [hF.out]; exact OwnI.nil_ _ _ _, ?_⟩
    (repeat (first | with_reducible exact b2 | with_reducible exact Below.refl _ _ | with_reducible refine Below.drew ?_ | ((with_reducible refine Below.alloc ?_ ?_ _); rotate_left; · first | omega | (simp [World.setCell]; done) | (simp [World.setCell]; omega)) | ((with_reducible refine Below.setCell ?_ ?_ _); rotate_left; · first | exact Nat.le_refl _ | omega | (simp; done) | (simp; omega))))

set_option maxRecDepth 100000 in
set_option maxHeartbeats 2000000 in
theorem spec_MulWords (o : Int) (A : Option Addr) (n c : Nat) (xs : List Int) (lo hi : Nat) (o' : Int) (B : Option Addr) (m d : Nat) (ys : List Int) (lo' hi' : Nat) (w : World) (h : Ints w lo hi A n c xs) (g' : Ints w lo' hi' B m d ys) (hh : hi ≤ w.heap.size) (gh : hi' ≤ w.heap.size) :
    Calls Try.prog 20 #[.agg #[.int .i64 o, .slice A n c], .agg #[.int .i64 o', .slice B m d]] w fun e w' => ∃ A' n' c', e = .returned (.tuple #[.agg #[.int .i64 (mulF o xs o' ys).1.1, .slice A' n' c'], .bool (mulF o xs o' ys).2]) ∧ OwnI w' w.heap.size w'.heap.size A' n' c' (mulF o xs o' ys).1.2 ∧ Below w.heap.size w w' := by
  have hm := h.max
  have hcp := h.cap
  have gm := g'.max
  have gcp := g'.cap
  have a1 := below_alloc w (.cells #[.int .i64 o, .slice A n c] 38)
  have a2 := below_alloc (w.alloc (.cells #[.int .i64 o, .slice A n c] 38)) (.cells #[.int .i64 o', .slice B m d] 38)
  have a3 := below_alloc ((w.alloc (.cells #[.int .i64 o, .slice A n c] 38)).alloc (.cells #[.int .i64 o', .slice B m d] 38)) (.cells #[.int .i64 0, .slice none 0 0] 38)
  have j1 := ((Blk2.new w (.int .i64 o) (.slice A n c) 38).below a2).below a3
  have j2 := (Blk2.new (w.alloc (.cells #[.int .i64 o, .slice A n c] 38)) (.int .i64 o') (.slice B m d) 38).below a3
  have j3 := Blk2.new ((w.alloc (.cells #[.int .i64 o, .slice A n c] 38)).alloc (.cells #[.int .i64 o', .slice B m d] 38)) (.int .i64 0) (.slice none 0 0) 38
  have b0 := (a1.trans (a2.mono a1.size)).trans (a3.mono (a1.trans (a2.mono a1.size)).size)
  simp only [World.size_alloc] at j2 j3
  clear a1 a2 a3
  have z0 := b0.size
  by_cases hok : fitF o xs o' ys = true
  · have hF : Hid (mulF o xs o' ys = ((o, mulL (cntN o) xs ys), true)) := if_pos hok
    obtain ⟨ok1, ok2, rfl⟩ := fit_facts hok
    obtain ⟨⟨h0, h5⟩, hlen, hnum⟩ := wordsOk_facts ok1
    obtain ⟨_, hlen2, hnum2⟩ := wordsOk_facts ok2
    have hnum' := hide hnum
    have hnum2' := hide hnum2
    have hcb := cntN_bd h5
    obtain rfl : n = cntN o := by rw [← h.len, hlen]
    obtain rfl : m = cntN o := by rw [← g'.len, hlen2]
    have hok' := hide hok
    clear hnum hnum2 hlen hlen2 hok ok1 ok2
    go_enter Try.func20, Try.ntmps20
    go_wp2_with fail
    have h1 := h.below b0 hh
    have g1 := g'.below b0 gh
    generalize World.alloc (World.alloc (World.alloc w (.cells #[.int .i64 o, .slice A (cntN o) c] 38)) (.cells #[.int .i64 o, .slice B (cntN o) d] 38)) (.cells #[.int .i64 0, .slice none 0 0] 38) = W at j1 j2 j3 b0 h1 g1 z0 ⊢
    refine (spec_l11Two o A (cntN o) c xs lo hi o B (cntN o) d ys lo' hi' W h1 g1 (by omega) (by omega)).mono ?_
    rintro e w1 ⟨rfl, b1⟩
    rw [hok'.out]
    have k1 := j1.below b1
    have k2 := j2.below b1
    have k3 := j3.below b1
    have h2 := h1.below b1 (by omega)
    have g2 := g1.below b1 (by omega)
    have b2 := b0.trans (b1.mono z0)
    have z1 := b2.size
    have q3 := k3.lt
    clear j1 j2 j3 h1 g1 b0 b1 z0
    have p0 := k1.c0
    go_wp2_with fail
    refine (spec_l11Zero o w1 h0 h5).mono ?_
    rintro e w2 ⟨A2, c2, rfl, o2, b3⟩
    obtain ⟨g, rfl, hg1, hg2, hg3⟩ := o2.form (by omega)
    have a4 := below_alloc w2 (.cells #[.int .i64 o, .slice (some ⟨g, 0, none⟩) (cntN o) c2] 38)
    have j1 := (k1.below b3).below a4
    have j2 := (k2.below b3).below a4
    have j3 := (k3.below b3).below a4
    have j4 := Blk2.new w2 (.int .i64 o) (.slice (some ⟨g, 0, none⟩) (cntN o) c2) 38
    have o3 := o2.below a4 (Nat.le_refl _)
    have z2 := b3.size
    have h3 := (h2.below b3 (by omega)).below a4 (by omega)
    have g3 := (g2.below b3 (by omega)).below a4 (by omega)
    have b4 := (b2.trans (b3.mono z1)).trans (a4.mono (by omega))
    have q4 := j4.lt
    clear k1 k2 k3 h2 g2 b2 b3 o2 p0
    go_wp2_with fail
    generalize World.alloc w2 (.cells #[.int .i64 o, .slice (some ⟨g, 0, none⟩) (cntN o) c2] 38) = w3 at a4 j1 j2 j3 j4 o3 h3 g3 b4 q4 ⊢
    clear a4
    have hin := fillI_new (cntN o) (mulL (cntN o) xs ys)
    go_loopw [7, 8, 9] (fun i _ _ wr => ∃ (j : Nat) (vs : List Int), j ≤ cntN o ∧ i = .int .i64 j ∧ Touch g (g + 1) w3 wr ∧ wr.ownsRow w1.heap.size 3 1 (.slice (some ⟨g, 0, none⟩) (cntN o) c2) (cntN o) (vs.map (Value.int .i64)) ∧ FillI (cntN o) j (mulL (cntN o) xs ys) vs)
      (fun i _ _ _ => cntN o - (intOf i).toNat)
    case atStart => exact ⟨0, _, by omega, rfl, .refl _ _ _, o3.own, hin⟩
    case round =>
      obtain ⟨j, vs, hj, rfl, ht, hown, hf⟩ := hrel
      by_cases hlt : j < cntN o
      · obtain ⟨wo, rfl⟩ : ∃ wo : World, wo = wr := ⟨_, rfl⟩
        have p0 := (j4.touch ht (by omega)).c1
        go_wp2_with fail
        clear p0
        refine (spec_l11Word j wo (by omega)).mono ?_
        rintro e w4 ⟨gw, cw, rfl, ow, bw⟩
        have hL := wordL_len5 (p := j) (by omega)
        have hgw := (ow.lt_size _ rfl)
        have ht4 : Touch g (g + 1) w3 w4 := ht.trans (.of_below bw)
        have hown4 := owns_below hown bw (fun ad e => (owns_lt hown ad e).2)
        have hg0 := (owns_lt hown _ rfl)
        have hs3 := ht.size
        have hs4 := bw.size
        have hfj := hf.open hlt
        have hpl := place_nat h5 hlt
        simp only at hg0 hgw
        clear hown ht bw hf
        go_wp2_with fail
        go_loopw [9] (fun i wr => ∃ (k : Nat) (acc : Int) (vs : List Int), k ≤ (wordL j).length + 1 ∧ i = .int .i64 k ∧ Touch g (g + 1) w4 wr ∧ wr.ownsRow w1.heap.size 3 1 (.slice (some ⟨g, 0, none⟩) (cntN o) c2) (cntN o) (vs.map (Value.int .i64)) ∧ FillJ (cntN o) j (mulL (cntN o) xs ys) vs acc ∧ Hid (mulAt xs ys j = mulGo xs ys (wordL j) ((wordL j).length + 1 - k) k acc) ∧ Hid (0 ≤ acc ∧ acc < 1000000271))
          (fun i _ => (wordL j).length + 1 - (intOf i).toNat)
        case atStart => exact ⟨0, 0, vs, by omega, rfl, .refl _ _ _, hown4, hfj, rfl, ⟨by omega, by omega⟩⟩
        case round =>
          clear hown4 hfj
          obtain ⟨k, acc, vs, hk, rfl, ht, hown, hf, hm, ha⟩ := hrel
          by_cases hk2 : k ≤ (wordL j).length
          · obtain ⟨⟨p, hp, hpn⟩, q, hq, hqn⟩ := hpl k
            have t3 := ht4.trans ht
            have l1 := j1.touch t3 (by omega)
            have l2 := j2.touch t3 (by omega)
            have l4 := j4.touch t3 (by omega)
            obtain ⟨ad, x, rfl, hc, hr, _, hx⟩ := (h3.same (t3.same (.inl (by omega)) (by omega))).at_ hpn
            obtain ⟨ae, y, rfl, hd, hr2, _, hy⟩ := (g3.same (t3.same (.inl (by omega)) (by omega))).at_ hqn
            have hwi := (ow.ints.same (ht.same (.inr (by omega)) (by omega)))
            have c1 : Calls Try.prog 70 #[.slice (some ⟨gw, 0, none⟩) k cw] wr.drew fun e w' => e = .returned (.int .i64 (p : Int)) ∧ wr.drew = w' := by
              rw [← hp]; exact spec_PlaceOfWord _ _ _ _ _ _ _ ((hwi.same (Same.drew (Same.refl _ _ _))).take_ hk2)
            have c2' : Calls Try.prog 70 #[.slice (if cw = k then some ⟨gw, 0, none⟩ else some ⟨gw, k, none⟩) ((wordL j).length - k) (cw - k)] wr.drew fun e w' => e = .returned (.int .i64 (q : Int)) ∧ wr.drew = w' := by
              rw [← hq]; exact spec_PlaceOfWord _ _ _ _ _ _ _ ((hwi.same (Same.drew (Same.refl _ _ _))).drop_if hk2)
            have p1 := l1.c1
            have p2 := l2.c1
            have p3 := l4.c1
            have hcw := hwi.cap
            have hcw2 := hwi.max
            have hkc : k ≤ cw := by omega
            have hx' := hnum'.out x (List.mem_of_getElem? hx.out)
            have hy' := hnum2'.out y (List.mem_of_getElem? hy.out)
            obtain ⟨hc1, hf1, HS⟩ := fillJ_step (v := plusF acc (timesF x y)) hown ht hf hlt
            have hm2 : Hid (mulAt xs ys j = mulGo xs ys (wordL j) ((wordL j).length + 1 - (k + 1)) (k + 1) (plusF acc (timesF x y))) := by
              show _ = _
              rw [hm.out, show (wordL j).length + 1 - k = ((wordL j).length + 1 - (k + 1)) + 1 by omega, mulGo, hp, hq]
              simp [List.getD, hx.out, hy.out]
            have hne : ¬ w.heap.size = g := by omega
            have hne2 : ¬ w2.heap.size = g := by omega
            have hne3 : ¬ w.heap.size + 1 = g := by omega
            clear hr hr2 hown ht hf l1 l2 l4 hm t3 hwi hp hq
            go_wp2_with fail
            refine still_tail 27 (by kernel_rfl) (by kernel_rfl) ?_
            simp only [List.take_succ_cons, List.take_zero, List.drop_succ_cons, List.drop_zero]
            repeat still_step
            still_call (still_same c1)
            repeat still_step
            still_call (still_same c2')
            repeat still_step
            still_call (still_same (spec_Times _ _ _ (r64_of_num hx') (r64_of_num hy')))
            repeat still_step
            still_call (still_same (spec_Plus _ _ _ (r64_of_num ha.out) (r64_of_num (timesF_bd _ _))))
            repeat still_step
            refine wpStill_nil ?_
            go_wp2_with fail
            go_roundw
            case rel => exact ⟨k + 1, plusF acc (timesF x y), vs.set j (plusF acc (timesF x y)), by omega, by go_num, HS.out.2.1.drew, HS.out.1, HS.out.2.2, hm2, plusF_bd _ _⟩
            case measure => simp [intOf]; omega
          · have hmm : mulAt xs ys j = acc := by
              rw [hm.out, show (wordL j).length + 1 - k = 0 by omega, mulGo]
            have hf2 := hf.close (by rw [mulL_at xs ys hlt, hmm])
            have t3 := ht4.trans ht
            clear hf ht ht4 hm ow hpl
            go_wp2_with fail
            go_roundw
            case rel => exact ⟨j + 1, vs, by omega, by go_num, t3, hown, hf2⟩
            case measure => simp [intOf]; omega
      · have k1 := j1.touch ht (by omega)
        have k4 := j4.touch ht (by omega)
        have k3 := j3.touch ht (by omega)
        have p1 := k1.c1
        have p2 := k4.c1
        have p3 := k4.c0
        have p4 := k3.c0
        have p5 := k3.c1
        have p6 := k3.f0
        have p7 := k3.f1
        have l6 := k3.lt
        have e := hf.done (mulL_len _ _ _) (by omega)
        subst e
        have B5 := b4.trans (ht.below (B := w.heap.size) (by omega) b4.size)
        have HO : Hid (OwnI wr w1.heap.size wr.heap.size (some ⟨g, 0, none⟩) (cntN o) c2 (mulL (cntN o) xs ys)) :=
          ⟨hown, fun ad e => (owns_lt hown ad e).2, fun x hx => r64_of_num (mulL_num _ _ _ x hx)⟩
        clear hown ht hf k1 k3 k4 h3 g3 o3 j1 j2 j3 j4 hin
        go_wp2_with fail
        refine bodyPost_ret (v := .tuple #[.agg #[.int .i64 o, .slice (some ⟨g, 0, none⟩) (cntN o) c2], .bool true]) (by simp [results, Try.results20, go_sem, p4, p5]) rfl ⟨_, _, _, by rw [hF.out], ?_, ?_⟩
        · rw [hF.out]
          refine (OwnI.same HO.out ?_).wide (by omega) ?_
          · (repeat (first | with_reducible exact Same.refl _ _ _ | with_reducible refine Same.drew ?_ | ((with_reducible refine Same.alloc ?_ ?_ _); rotate_left; · first | omega | (simp [World.setCell]; done) | (simp [World.setCell]; omega)) | ((with_reducible refine Same.setCell ?_ ?_ _); rotate_left; · first | omega | (simp; done) | (simp; omega))))
          · simp [World.setCell]
        · (repeat (first | with_reducible exact B5 | with_reducible exact Below.refl _ _ | with_reducible refine Below.drew ?_ | ((with_reducible refine Below.alloc ?_ ?_ _); rotate_left; · first | omega | (simp [World.setCell]; done) | (simp [World.setCell]; omega)) | ((with_reducible refine Below.setCell ?_ ?_ _); rotate_left; · first | exact Nat.le_refl _ | omega | (simp; done) | (simp; omega))))
  · have hF : Hid (mulF o xs o' ys = ((0, []), false)) := if_neg hok
    have hok' : fitF o xs o' ys = false := by simpa using hok
    clear hok
    go_enter Try.func20, Try.ntmps20
    go_wp2_with fail
    have h1 := h.below b0 hh
    have g1 := g'.below b0 gh
    generalize World.alloc (World.alloc (World.alloc w (.cells #[.int .i64 o, .slice A n c] 38)) (.cells #[.int .i64 o', .slice B m d] 38)) (.cells #[.int .i64 0, .slice none 0 0] 38) = W at j1 j2 j3 b0 h1 g1 z0 ⊢
    refine (spec_l11Two o A n c xs lo hi o' B m d ys lo' hi' W h1 g1 (by omega) (by omega)).mono ?_
    rintro e w1 ⟨rfl, b1⟩
    rw [hok']
    have k3 := j3.below b1
    have b3 := b0.trans (b1.mono z0)
    have p4 := k3.c0
    have p5 := k3.c1
    have p6 := k3.f0
    have p7 := k3.f1
    go_wp2_with fail
    refine bodyPost_ret (v := .tuple #[.agg #[.int .i64 0, .slice none 0 0], .bool false]) (by simp [results, Try.results20, go_sem, p4, p5]) rfl ⟨_, _, _, by rw [hF.out], by rw [hF.out]; exact OwnI.nil_ _ _ _, ?_⟩
    (repeat (first | with_reducible exact b3 | with_reducible exact Below.refl _ _ | with_reducible refine Below.drew ?_ | ((with_reducible refine Below.alloc ?_ ?_ _); rotate_left; · first | omega | (simp [World.setCell]; done) | (simp [World.setCell]; omega)) | ((with_reducible refine Below.setCell ?_ ?_ _); rotate_left; · first | exact Nat.le_refl _ | omega | (simp; done) | (simp; omega))))
end Go.Proofs.Ytodlfmagkjblgaa
