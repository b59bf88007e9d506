/- Logarithms of words: the walk of the program's text. -/
import Derived.Test.YtodlfmagkjblgaaExpS
namespace Go.Proofs.Ytodlfmagkjblgaa
open Go.RowKit
set_option linter.unusedSimpArgs false
set_option linter.unusedVariables false
set_option maxRecDepth 20000

def sgnN (j : Nat) : Int := if j % 2 = 0 then -1 else 1
theorem sgn_neg (j : Nat) : -sgnN j = sgnN (j + 1) := by
  unfold sgnN
  by_cases h : j % 2 = 0
  · rw [if_pos h, if_neg (by omega)]; rfl
  · rw [if_neg h, if_pos (by omega)]
theorem sgn_bd (j : Nat) : -1 ≤ sgnN j ∧ sgnN j ≤ 1 := by
  unfold sgnN
  split <;> omega
def logGo (n : Nat) (x : List Int) : Nat → Nat → List Int → List Int → List Int
  | 0, _, out, _ => out
  | s + 1, j, out, pw => logGo n x s (j + 1) (zipF out (mulL n pw x) (fracF (sgnN j) j)) (mulL n pw x)
def restL (n : Nat) (xs : List Int) : List Int := zipF xs (unitL n) (-1)
def logL (o : Int) (xs : List Int) : List Int := logGo (cntN o) (restL (cntN o) xs) o.toNat 1 (List.replicate (cntN o) 0) (unitL (cntN o))
def logF (o : Int) (xs : List Int) : (Int × List Int) × Bool := if wordsOkF o xs = true ∧ xs.getD 0 0 = 1 then ((o, logL o xs), true) else ((0, []), false)
theorem logGo_len (n : Nat) (xs : List Int) (s j : Nat) (out pw : List Int) (h : out.length = n) : (logGo n xs s j out pw).length = n := by
  induction s generalizing j out pw with
  | zero => exact h
  | succ s ih => exact ih _ _ _ (zip_len h (mulL_len _ _ _))
theorem logL_len (o : Int) (xs : List Int) : (logL o xs).length = cntN o := logGo_len _ _ _ _ _ _ (by simp)
theorem logF_len (o : Int) (xs : List Int) : (logF o xs).1.2.length ≤ 63 := by
  unfold logF
  split
  · rename_i h
    have := cntN_bd (wordsOk_facts h.1).1.2
    show (logL o xs).length ≤ 63
    rw [logL_len]
    omega
  · simp
set_option maxRecDepth 100000 in
set_option maxHeartbeats 2000000 in
theorem impl_LogWords (o : Int) (A : Option Addr) (n c : Nat) (xs : List Int) (lo hi : Nat) (w : World) (h : Ints w lo hi A n c xs) (hh : hi ≤ w.heap.size) :
    Calls Try.prog 33 #[.agg #[.int .i64 o, .slice A n c]] w fun e w' => ∃ A' n' c', e = .returned (.tuple #[.agg #[.int .i64 (logF o xs).1.1, .slice A' n' c'], .bool (logF o xs).2]) ∧ OwnI w' w.heap.size w'.heap.size A' n' c' (logF o xs).1.2 ∧ Below w.heap.size w w' := by
  have hm := h.max
  have hcp := h.cap
  have a1 := below_alloc w (.cells #[.int .i64 o, .slice A n c] 38)
  have a2 := below_alloc (w.alloc (.cells #[.int .i64 o, .slice A n c] 38)) (.cells #[.int .i64 0, .slice none 0 0] 38)
  have j1 := (Blk2.new w (.int .i64 o) (.slice A n c) 38).below a2
  have j2 := Blk2.new (w.alloc (.cells #[.int .i64 o, .slice A n c] 38)) (.int .i64 0) (.slice none 0 0) 38
  have b0 := a1.trans (a2.mono a1.size)
  simp only [World.size_alloc] at j2
  have z0 := b0.size
  clear a1 a2
  go_enter Try.func33, Try.ntmps33
  go_wp2_with fail
  have h1 := h.below b0 hh
  generalize World.alloc (World.alloc w (.cells #[.int .i64 o, .slice A n c] 38)) (.cells #[.int .i64 0, .slice none 0 0] 38) = W at j1 j2 b0 h1 z0 ⊢
  refine (impl_WordsOk o A n c xs lo hi W h1 (by omega)).mono ?_
  rintro e w1 ⟨rfl, b1⟩
  have k1 := j1.below b1
  have k2 := j2.below b1
  have h2 := h1.below b1 (by omega)
  have b2 := b0.trans (b1.mono z0)
  have z1 := b2.size
  have q2 := k2.lt
  clear j1 j2 h1 b0 b1 z0
  by_cases hok : wordsOkF o xs = true
  · obtain ⟨⟨h0, h5⟩, hlen, hnum⟩ := wordsOk_facts hok
    have hcb := cntN_bd h5
    obtain rfl : n = cntN o := by rw [← h.len, hlen]
    obtain ⟨ad, x, rfl, hc, hr, _, hx⟩ := h2.at_ (k := 0) (by omega)
    have p0 := k1.c1
    have hgd : xs.getD 0 0 = x := by rw [List.getD, hx.out]; rfl
    have hc0 : w1.cell? ad = some (.int .i64 x) := by simpa [Addr.add] using hc
    have H := hide (And.intro hnum hlen)
    have hokH := hide hok
    rw [hok]
    clear hnum hlen hr hx hok
    by_cases hx0 : x = 1
    · have hF : Hid (logF o xs = ((o, logL o xs), true)) := if_pos ⟨hokH.out, hgd.trans hx0⟩
      clear hgd
      subst hx0
      have hnum' := hide H.out.1
      clear H
      have p1 := k1.c0
      have p2 := k1.c1
      have hr1 : R64 (-1 : Int) := by constructor <;> omega
      go_upto_region 3 with fail
      go_cut [4] (fun s4 wx => ∃ (A' : Option Addr) (c' b : Nat), s4 = .pointer (some ⟨b, 0, none⟩) ∧ Below w1.heap.size w1 wx ∧ w1.heap.size ≤ b ∧ Blk2 wx b (.int .i64 o) (.slice A' (cntN o) c') ∧ OwnI wx w1.heap.size wx.heap.size A' (cntN o) c' (restL (cntN o) xs))
      case first =>
        have d : Below w1.heap.size w1 w1.drew := (Below.refl _ _).drew
        go_region_held3 (fun w' => w'.cell? ⟨w.heap.size, 0, none⟩ = some (.int .i64 o) ∧ w'.cell? ⟨w.heap.size, 1, none⟩ = some (.slice (some ad) (cntN o) c)) (first | exact ⟨p1, p2⟩ | exact ⟨P1, P2⟩ | exact ⟨Q1, Q2⟩ | exact ⟨cell_alloc_far p1, cell_alloc_far p2⟩ | exact ⟨cell_alloc_far P1, cell_alloc_far P2⟩ | exact ⟨cell_alloc_far Q1, cell_alloc_far Q2⟩ | exact ⟨cell_far Q1 ne0, cell_far Q2 ne0⟩ | exact ⟨cell_far Q1 ne1, cell_far Q2 ne1⟩ | go_keep)
          (first
            | (go_at_call 34; refine (impl_Unit o _ h0 h5).mono ?_; rintro e u1 ⟨A3, c3, rfl, o3, b3⟩; have BU : Below w1.heap.size w1 u1 := (by refine Below.trans ?_ (Below.mono b3 ?_); (· (repeat (first | with_reducible exact d | with_reducible exact Below.refl _ _ | with_reducible refine Below.drew ?_ | ((with_reducible refine Below.alloc ?_ ?_ _); rotate_left; · first | omega | (simp [World.setCell]; done) | (simp [World.setCell]; omega)) | ((with_reducible refine Below.setCell ?_ ?_ _); rotate_left; · first | exact Nat.le_refl _ | omega | (simp; done) | (simp; omega))))); (· first | omega | (simp; omega) | simp)); have szu := BU.size; have P1 := (k1.below BU).c0; have P2 := (k1.below BU).c1; (first | (have kb0 : Blk2 u1 w1.heap.size (.int .i64 0) (.slice none 0 0) := (Blk2.new w1.drew (.int .i64 0) (.slice none 0 0) 38).below b3) | (have kb0 : Blk2 u1 w1.heap.size (.int .i64 0) (.slice none 0 0) := (Blk2.new w1 (.int .i64 0) (.slice none 0 0) 38).drew.below b3) | skip); (first | (have ltk0 := kb0.lt) | skip))
            | (go_at_call 81; refine (impl_mixWords o (some ad) (cntN o) c xs lo hi o A3 (cntN o) c3 (unitL (cntN o)) _ _ (-1) _ (h2.below (B := w1.heap.size) (by (repeat (first | with_reducible exact BU | with_reducible exact Below.refl _ _ | with_reducible refine Below.drew ?_ | ((with_reducible refine Below.alloc ?_ ?_ _); rotate_left; · first | omega | (simp [World.setCell]; done) | (simp [World.setCell]; omega)) | ((with_reducible refine Below.setCell ?_ ?_ _); rotate_left; · first | exact Nat.le_refl _ | omega | (simp; done) | (simp; omega))))) (by omega)) (o3.below (B := u1.heap.size) (by (repeat (first | with_reducible exact Below.refl _ _ | with_reducible exact Below.refl _ _ | with_reducible refine Below.drew ?_ | ((with_reducible refine Below.alloc ?_ ?_ _); rotate_left; · first | omega | (simp [World.setCell]; done) | (simp [World.setCell]; omega)) | ((with_reducible refine Below.setCell ?_ ?_ _); rotate_left; · first | exact Nat.le_refl _ | omega | (simp; done) | (simp; omega))))) (Nat.le_refl _)).ints (by first | omega | (simp; omega) | simp) (by first | omega | (simp; omega) | simp) h0 h5 rfl rfl hnum'.out (unitL_num _) hr1).mono ?_; rintro e u2 ⟨A4, c4, rfl, o4, b4⟩; have BC : Below w1.heap.size w1 u2 := (by refine Below.trans ?_ (Below.mono b4 ?_); (· (repeat (first | with_reducible exact BU | with_reducible exact Below.refl _ _ | with_reducible refine Below.drew ?_ | ((with_reducible refine Below.alloc ?_ ?_ _); rotate_left; · first | omega | (simp [World.setCell]; done) | (simp [World.setCell]; omega)) | ((with_reducible refine Below.setCell ?_ ?_ _); rotate_left; · first | exact Nat.le_refl _ | omega | (simp; done) | (simp; omega))))); (· first | omega | (simp; omega) | simp)); have szc := BC.size; have Q1 := (k1.below BC).c0; have Q2 := (k1.below BC).c1; have OC : OwnI u2 w1.heap.size u2.heap.size A4 (cntN o) c4 (restL (cntN o) xs) := o4.wide (by first | omega | (simp; omega)) (Nat.le_refl _); (first | (have kc := kb0.below b4) | (have kc := (Blk2.new u1 (.int .i64 0) (.slice none 0 0) 38).below b4) | skip); (first | (have z0 := kc.c0; have z1 := kc.c1; have z2 := kc.f0; have z3 := kc.f1; have z4 := kc.lt) | skip); have ne0 : ¬ w.heap.size = w1.heap.size := (by omega); have ne1 : ¬ w.heap.size = u1.heap.size := (by omega)))
        all_goals go_wp2_with fail
        all_goals go_meet
        all_goals first
          | exact ⟨A4, c4, _, rfl, BC.trans ((below_alloc u2 _).mono szc), szc, Blk2.new u2 _ _ _, (OC.below (below_alloc u2 _) (Nat.le_refl _)).wide (Nat.le_refl _) (by simp)⟩
          | exact ⟨A4, c4, w1.heap.size, rfl, (by (repeat (first | with_reducible exact BC | with_reducible exact Below.refl _ _ | with_reducible refine Below.drew ?_ | ((with_reducible refine Below.alloc ?_ ?_ _); rotate_left; · first | omega | (simp [World.setCell]; done) | (simp [World.setCell]; omega)) | ((with_reducible refine Below.setCell ?_ ?_ _); rotate_left; · first | exact Nat.le_refl _ | omega | (simp; done) | (simp; omega))))), (by omega), kc.store2 _ _, (OwnI.same o4 (by (repeat (first | with_reducible exact Same.refl _ _ _ | with_reducible refine Same.drew ?_ | ((with_reducible refine Same.alloc ?_ ?_ _); rotate_left; · first | omega | (simp [World.setCell]; done) | (simp [World.setCell]; omega)) | ((with_reducible refine Same.setCell ?_ ?_ _); rotate_left; · first | omega | (simp; done) | (simp; omega)))))).wide (by first | omega | (simp; omega) | simp) (by simp [World.setCell])⟩
          | exact ⟨A4, c4, u1.heap.size, rfl, (by (repeat (first | with_reducible exact BC | with_reducible exact Below.refl _ _ | with_reducible refine Below.drew ?_ | ((with_reducible refine Below.alloc ?_ ?_ _); rotate_left; · first | omega | (simp [World.setCell]; done) | (simp [World.setCell]; omega)) | ((with_reducible refine Below.setCell ?_ ?_ _); rotate_left; · first | exact Nat.le_refl _ | omega | (simp; done) | (simp; omega))))), (by omega), kc.store2 _ _, (OwnI.same o4 (by (repeat (first | with_reducible exact Same.refl _ _ _ | with_reducible refine Same.drew ?_ | ((with_reducible refine Same.alloc ?_ ?_ _); rotate_left; · first | omega | (simp [World.setCell]; done) | (simp [World.setCell]; omega)) | ((with_reducible refine Same.setCell ?_ ?_ _); rotate_left; · first | omega | (simp; done) | (simp; omega)))))).wide (by first | omega | (simp; omega) | simp) (by simp [World.setCell])⟩
      case rest =>
        obtain ⟨Ax, cx, bx, rfl, bc, hbx, kx, ox⟩ := hcut
        obtain ⟨w2, rfl⟩ : ∃ W : World, W = wc := ⟨_, rfl⟩
        have K1 := k1.below bc
        have K2 := k2.below bc
        have H2 := h2.below bc (by omega)
        have b3 := b2.trans (bc.mono z1)
        have z2 := bc.size
        have qx := kx.lt
        clear p1 p2 k1 k2 h2 b2 bc p0
        have p1 := K1.c0
        go_wp2_with fail
        clear p1
        refine (impl_noWords o w2 h0 h5).mono ?_
        rintro e w3 ⟨A3, c3, rfl, o3, b4⟩
        have a3 := below_alloc w3 (.cells #[.int .i64 o, .slice A3 (cntN o) c3] 38)
        have l1 := (K1.below b4).below a3
        have l2 := (K2.below b4).below a3
        have lx := (kx.below b4).below a3
        have l3 := Blk2.new w3 (.int .i64 o) (.slice A3 (cntN o) c3) 38
        have z3 := b4.size
        have o3' := o3.below a3 (Nat.le_refl _)
        have ox2 := (ox.below b4 (Nat.le_refl _)).below a3 (by omega)
        have b5 := (b3.trans (b4.mono (by omega))).trans (a3.mono (by omega))
        have q3 := l3.lt
        have p1 := l1.c0
        clear K1 K2 kx H2 b3 b4 o3 ox
        go_wp2_with fail
        clear p1
        generalize World.alloc w3 (.cells #[.int .i64 o, .slice A3 (cntN o) c3] 38) = W2 at a3 l1 l2 l3 lx o3' ox2 b5 q3 ⊢
        clear a3
        refine (impl_Unit o W2 h0 h5).mono ?_
        rintro e w4 ⟨A4, c4, rfl, o4, b6⟩
        have a4 := below_alloc w4 (.cells #[.int .i64 o, .slice A4 (cntN o) c4] 38)
        have m1 := (l1.below b6).below a4
        have m2 := (l2.below b6).below a4
        have mx := (lx.below b6).below a4
        have m3 := (l3.below b6).below a4
        have m4 := Blk2.new w4 (.int .i64 o) (.slice A4 (cntN o) c4) 38
        have z4 := b6.size
        have o5 := (o3'.below b6 (by omega)).below a4 (by omega)
        have o6 := o4.below a4 (Nat.le_refl _)
        have ox3 := (ox2.below b6 (by omega)).below a4 (by omega)
        have b7 := (b5.trans (b6.mono (by omega))).trans (a4.mono (by omega))
        have q4 := m4.lt
        clear l1 l2 l3 lx b5 b6 o4 o3' ox2
        go_wp2_with fail
        generalize World.alloc w4 (.cells #[.int .i64 o, .slice A4 (cntN o) c4] 38) = w5 at a4 m1 m2 m3 m4 mx o5 o6 ox3 b7 q4 ⊢
        clear a4
        have hxn := hide (zip_num xs (unitL (cntN o)) (-1))
        have hx3 := hide ox3.ints
        clear ox3
        go_loopw [7, 8] (fun sg i wr => ∃ (j : Nat) (B3 : Option Addr) (d3 : Nat) (B4 : Option Addr) (d4 lo3 hi3 lo4 hi4 : Nat) (out pw : List Int) (s7 : Int), 1 ≤ j ∧ j ≤ o.toNat + 1 ∧ sg = .int .i64 s7 ∧ (-1 ≤ s7 ∧ s7 ≤ 1) ∧ Hid (s7 = sgnN j) ∧ i = .int .i64 j ∧ Below w3.heap.size w5 wr ∧ Blk2 wr w3.heap.size (.int .i64 o) (.slice B3 (cntN o) d3) ∧ Blk2 wr w4.heap.size (.int .i64 o) (.slice B4 (cntN o) d4) ∧
            Hid (OwnI wr lo3 hi3 B3 (cntN o) d3 out ∧ w2.heap.size ≤ lo3 ∧ hi3 ≤ wr.heap.size ∧ (hi3 ≤ w4.heap.size ∨ w4.heap.size < lo3) ∧ ∀ x ∈ out, 0 ≤ x ∧ x < 1000000271) ∧ Hid (OwnI wr lo4 hi4 B4 (cntN o) d4 pw ∧ w2.heap.size ≤ lo4 ∧ hi4 ≤ wr.heap.size ∧ ∀ x ∈ pw, 0 ≤ x ∧ x < 1000000271) ∧ Hid (logL o xs = logGo (cntN o) (restL (cntN o) xs) (o.toNat + 1 - j) j out pw))
          (fun _ i _ => 7 - (intOf i).toNat)
        case atStart => exact ⟨1, A3, c3, A4, c4, w2.heap.size, w3.heap.size, W2.heap.size, w4.heap.size, List.replicate (cntN o) 0, unitL (cntN o), 1, by omega, by omega, rfl, by omega, rfl, rfl, Below.refl _ _, m3, m4, ⟨o5, by omega, by omega, by omega, zeros_num _⟩, ⟨o6, by omega, by omega, unitL_num _⟩, rfl⟩
        case round =>
          obtain ⟨j, B3, d3, B4, d4, lo3, hi3, lo4, hi4, out, pw, s7, hj1, hj2, rfl, hs7, hsg, rfl, hb, n3, n4, ho3, ho4, hE⟩ := hrel
          have n1 := m1.same (hb.block w.heap.size (by omega))
          have n2 := m2.same (hb.block (w.heap.size + 1) (by omega))
          have nx := mx.same (hb.block bx (by omega))
          have h4 := hx3.out.same (Same.of_below hb (show w2.heap.size ≤ w3.heap.size by omega))
          have hs := hb.size
          have s1 := n1.lt
          have s4 := n4.lt
          by_cases hle : j ≤ o.toNat
          · obtain ⟨s, hsn⟩ : ∃ s, o.toNat + 1 - j = s + 1 := ⟨o.toNat - j, by omega⟩
            have E1 : Hid (logL o xs = logGo (cntN o) (restL (cntN o) xs) s (j + 1) (zipF out (mulL (cntN o) pw (restL (cntN o) xs)) (fracF s7 j)) (mulL (cntN o) pw (restL (cntN o) xs))) := by
              show _ = _
              rw [hE.out, hsn, logGo, hsg.out]
            have hle' : (j : Int) ≤ o := by omega
            have p0 := n1.c0
            have p1 := n1.c1
            have p2 := n4.c0
            have p3 := n4.c1
            have p4 := nx.c0
            have p5 := nx.c1
            go_wp2_with fail
            clear p0 p1 p2 p3 p4 p5 hE
            refine (impl_mulWords o B4 (cntN o) d4 pw lo4 hi4 o Ax (cntN o) cx (restL (cntN o) xs) _ _ wr ho4.out.1.ints h4 ho4.out.2.2.1 (by omega) h0 h5 rfl rfl ho4.out.2.2.2 hxn.out).mono ?_
            rintro e v1 ⟨A5, c5, rfl, o5', b5⟩
            have y5 := b5.size
            have M4 := n4.below b5
            have n4' := M4.store2 (.int .i64 o) (.slice A5 (cntN o) c5)
            have n3' := (n3.below b5).far (show w3.heap.size ≠ w4.heap.size by omega) (.int .i64 o) (.slice A5 (cntN o) c5)
            have P3 := (ho3.out.1.below b5 ho3.out.2.2.1).same (store2_same (.int .i64 o) (.slice A5 (cntN o) c5) (b := w4.heap.size) (by have := ho3.out.2.2.2.1; omega))
            have P5 := o5'.same (store2_same (.int .i64 o) (.slice A5 (cntN o) c5) (b := w4.heap.size) (by omega))
            have Hb := store2_below (hb.trans (b5.mono (show w3.heap.size ≤ wr.heap.size by omega))) (show w3.heap.size ≤ w4.heap.size by omega) (.int .i64 o) (.slice A5 (cntN o) c5)
            have ys := store2_size v1 w4.heap.size (.int .i64 o) (.slice A5 (cntN o) c5)
            have g0 := M4.c0
            have g1 := M4.c1
            have f0 := M4.f0
            have f1 := M4.f1
            clear n1 n2 n3 n4 nx h4 o5'
            go_wp2_with fail
            clear g0 g1 f0 f1 M4
            generalize (v1.setCell ⟨w4.heap.size, 0, none⟩ (.int .i64 o)).setCell ⟨w4.heap.size, 1, none⟩ (.slice A5 (cntN o) c5) = v2 at n4' n3' P3 P5 Hb ys ⊢
            have d2 : Below v2.heap.size v2 v2.drew := (Below.refl _ _).drew
            have dz := d2.size
            have r4 := n4'.below d2
            have r3 := n3'.below d2
            have a1 := n3'.c0
            have a2 := n3'.c1
            have a3 := n4'.c0
            have a4 := n4'.c1
            have H3 := ho3.out.2.2.2.2
            have HL := mulL_num (cntN o) pw (restL (cntN o) xs)
            have hfr : R64 (j : Int) := by constructor <;> omega
            have h1r : R64 s7 := by constructor <;> omega
            have hi3 := ho3.out.2.2.1
            have HH := hide (And.intro P3 (And.intro P5 (And.intro H3 HL)))
            clear P3 P5 H3 HL ho3 ho4 n3' n4'
            refine still_tail 5 (by kernel_rfl) (by kernel_rfl) ?_
            simp only [List.take_succ_cons, List.take_zero, List.drop_succ_cons, List.drop_zero]
            repeat still_step
            still_call (still_same (impl_Fraction s7 j _ h1r hfr))
            repeat still_step
            refine wpStill_nil ?_
            go_wp2_with fail
            refine (impl_mixWords o B3 (cntN o) d3 out _ _ o A5 (cntN o) c5 (mulL (cntN o) pw (restL (cntN o) xs)) _ _ (fracF s7 j) v2.drew (HH.out.1.below d2 (by omega)).ints (HH.out.2.1.below d2 (by omega)).ints (by omega) (by omega) h0 h5 rfl rfl HH.out.2.2.1 HH.out.2.2.2 (r64_of_num (fracF_bd _ _))).mono ?_
            rintro e v4 ⟨A6, c6, rfl, o6', b6⟩
            have y6 := b6.size
            have R3 := r3.below b6
            have n3 := R3.store2 (.int .i64 o) (.slice A6 (cntN o) c6)
            have n4 := (r4.below b6).far (show w4.heap.size ≠ w3.heap.size by omega) (.int .i64 o) (.slice A6 (cntN o) c6)
            have N6 := o6'.same (store2_same (.int .i64 o) (.slice A6 (cntN o) c6) (b := w3.heap.size) (by omega))
            have N5 := ((HH.out.2.1.below d2 (by omega)).below b6 (by omega)).same (store2_same (.int .i64 o) (.slice A6 (cntN o) c6) (b := w3.heap.size) (by omega))
            have HB := store2_below ((Hb.drew).trans (b6.mono (show w3.heap.size ≤ v2.drew.heap.size by omega))) (Nat.le_refl _) (.int .i64 o) (.slice A6 (cntN o) c6)
            have ys6 := store2_size v4 w3.heap.size (.int .i64 o) (.slice A6 (cntN o) c6)
            have g0 := R3.c0
            have g1 := R3.c1
            have f0 := R3.f0
            have f1 := R3.f1
            have hsn' : Hid (-s7 = sgnN (j + 1)) := by show _ = _; rw [hsg.out, sgn_neg]
            have hnw := IntWalk.i64_in (-s7) (by omega)
            clear r3 r4 R3 b6 o6' a1 a2 a3 a4
            go_wp2_with fail
            clear g0 g1 f0 f1
            go_roundw
            case rel =>
              exact ⟨j + 1, A6, c6, A5, c5, _, _, _, _, _, _, -s7, by omega, by omega, by go_num, by omega, hsn', by go_num, HB, n3, n4, ⟨N6, by omega, by omega, by omega, zip_num _ _ _⟩, ⟨N5, by omega, by omega, HH.out.2.2.2⟩, by
                show _ = _
                rw [E1.out]
                congr 1
                omega⟩
            case measure => simp [intOf]; omega
          · have E0 : Hid (logL o xs = out) := by
              show _ = _
              rw [hE.out, show o.toNat + 1 - j = 0 by omega]
              rfl
            have hle' : ¬ (j : Int) ≤ o := by omega
            have p0 := n1.c0
            have p2 := n3.c0
            have p3 := n3.c1
            have p4 := n2.c0
            have p5 := n2.c1
            have p6 := n2.f0
            have p7 := n2.f1
            have B5 := b7.trans (hb.mono (show w.heap.size ≤ w3.heap.size by omega))
            have HO2 := hide ho3.out.1
            have hz3 := ho3.out.2.2.1
            have hz2 := ho3.out.2.1
            have l6 := n2.lt
            clear hE ho3 ho4 hb n1 n2 n3 n4 nx h4 m1 m2 m3 m4 mx o5 o6 b7
            go_wp2_with fail
            refine bodyPost_ret (v := .tuple #[.agg #[.int .i64 o, .slice B3 (cntN o) d3], .bool true]) (by simp [results, Try.results33, go_sem, p4, p5]) rfl ⟨_, _, _, by rw [hF.out], ?_, ?_⟩
            · rw [hF.out]
              show OwnI _ _ _ _ _ _ (logL o xs)
              rw [E0.out]
              refine (OwnI.same HO2.out ?_).wide (by omega) ?_
              · (repeat (first | with_reducible exact Same.refl _ _ _ | with_reducible refine Same.drew ?_ | ((with_reducible refine Same.alloc ?_ ?_ _); rotate_left; · first | omega | (simp [World.setCell]; done) | (simp [World.setCell]; omega)) | ((with_reducible refine Same.setCell ?_ ?_ _); rotate_left; · first | omega | (simp; done) | (simp; omega))))
              · simp [World.setCell]; omega
            · (repeat (first | with_reducible exact B5 | with_reducible exact Below.refl _ _ | with_reducible refine Below.drew ?_ | ((with_reducible refine Below.alloc ?_ ?_ _); rotate_left; · first | omega | (simp [World.setCell]; done) | (simp [World.setCell]; omega)) | ((with_reducible refine Below.setCell ?_ ?_ _); rotate_left; · first | exact Nat.le_refl _ | omega | (simp; done) | (simp; omega))))
    · have hF : Hid (logF o xs = ((0, []), false)) := if_neg (fun h => hx0 (hgd.symm.trans h.2))
      clear hgd
      have p4 := k2.c0
      have p5 := k2.c1
      have p6 := k2.f0
      have p7 := k2.f1
      go_wp2_with fail
      refine bodyPost_ret (v := .tuple #[.agg #[.int .i64 0, .slice none 0 0], .bool false]) (by simp [results, Try.results33, go_sem, p4, p5]) rfl ⟨_, _, _, by rw [hF.out], by rw [hF.out]; exact OwnI.nil_ _ _ _, ?_⟩
      (repeat (first | with_reducible exact b2 | with_reducible exact Below.refl _ _ | with_reducible refine Below.drew ?_ | ((with_reducible refine Below.alloc ?_ ?_ _); rotate_left; · first | omega | (simp [World.setCell]; done) | (simp [World.setCell]; omega)) | ((with_reducible refine Below.setCell ?_ ?_ _); rotate_left; · first | exact Nat.le_refl _ | omega | (simp; done) | (simp; omega))))
  · have hF : Hid (logF o xs = ((0, []), false)) := if_neg (fun h => hok h.1)
    have hok' : wordsOkF o xs = false := by simpa using hok
    rw [hok']
    clear hok
    have p4 := k2.c0
    have p5 := k2.c1
    have p6 := k2.f0
    have p7 := k2.f1
    go_wp2_with fail
    refine bodyPost_ret (v := .tuple #[.agg #[.int .i64 0, .slice none 0 0], .bool false]) (by simp [results, Try.results33, go_sem, p4, p5]) rfl ⟨_, _, _, by rw [hF.out], by rw [hF.out]; exact OwnI.nil_ _ _ _, ?_⟩
    (repeat (first | with_reducible exact b2 | with_reducible exact Below.refl _ _ | with_reducible refine Below.drew ?_ | ((with_reducible refine Below.alloc ?_ ?_ _); rotate_left; · first | omega | (simp [World.setCell]; done) | (simp [World.setCell]; omega)) | ((with_reducible refine Below.setCell ?_ ?_ _); rotate_left; · first | exact Nat.le_refl _ | omega | (simp; done) | (simp; omega))))

end Go.Proofs.Ytodlfmagkjblgaa
