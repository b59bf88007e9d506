/- Logarithms of words: the walk of the reference's text. -/
import Derived.Test.YtodlfmagkjblgaaLog
import Derived.Test.YtodlfmagkjblgaaLast
namespace Go.Proofs.Ytodlfmagkjblgaa
open Go.RowKit
set_option linter.unusedSimpArgs false
set_option linter.unusedVariables false
set_option maxRecDepth 20000

set_option maxRecDepth 100000 in
set_option maxHeartbeats 2000000 in
theorem spec_LogWords (o : Int) (A : Option Addr) (n c : Nat) (xs : List Int) (lo hi : Nat) (w : World) (h : Ints w lo hi A n c xs) (hh : hi ≤ w.heap.size) :
    Calls Try.prog 52 #[.agg #[.int .i64 o, .slice A n c]] w fun e w' => ∃ A' n' c', e = .returned (.tuple #[.agg #[.int .i64 (logF o xs).1.1, .slice A' n' c'], .bool (logF o xs).2]) ∧ OwnI w' w.heap.size w'.heap.size A' n' c' (logF o xs).1.2 ∧ Below w.heap.size w w' := by
  have hm := h.max
  have hcp := h.cap
  have a1 := below_alloc w (.cells #[.int .i64 o, .slice A n c] 38)
  have a2 := below_alloc (w.alloc (.cells #[.int .i64 o, .slice A n c] 38)) (.cells #[.int .i64 0, .slice none 0 0] 38)
  have j1 := (Blk2.new w (.int .i64 o) (.slice A n c) 38).below a2
  have j2 := Blk2.new (w.alloc (.cells #[.int .i64 o, .slice A n c] 38)) (.int .i64 0) (.slice none 0 0) 38
  have b0 := a1.trans (a2.mono a1.size)
  simp only [World.size_alloc] at j2
  have z0 := b0.size
  clear a1 a2
  go_enter Try.func52, Try.ntmps52
  go_wp2_with fail
  have h1 := h.below b0 hh
  generalize World.alloc (World.alloc w (.cells #[.int .i64 o, .slice A n c] 38)) (.cells #[.int .i64 0, .slice none 0 0] 38) = W at j1 j2 b0 h1 z0 ⊢
  refine (spec_WordsOk o A n c xs lo hi W h1 (by omega)).mono ?_
  rintro e w1 ⟨rfl, b1⟩
  have k1 := j1.below b1
  have k2 := j2.below b1
  have h2 := h1.below b1 (by omega)
  have b2 := b0.trans (b1.mono z0)
  have z1 := b2.size
  have q2 := k2.lt
  clear j1 j2 h1 b0 b1 z0
  by_cases hok : wordsOkF o xs = true
  · obtain ⟨⟨h0, h5⟩, hlen, hnum⟩ := wordsOk_facts hok
    have hcb := cntN_bd h5
    obtain rfl : n = cntN o := by rw [← h.len, hlen]
    obtain ⟨ad, x, rfl, hc, hr, _, hx⟩ := h2.at_ (k := 0) (by omega)
    have p0 := k1.c1
    have hgd : xs.getD 0 0 = x := by rw [List.getD, hx.out]; rfl
    have hc0 : w1.cell? ad = some (.int .i64 x) := by simpa [Addr.add] using hc
    have H := hide (And.intro hnum hlen)
    have hokH := hide hok
    rw [hok]
    clear hnum hlen hr hx hok
    by_cases hx0 : x = 1
    · have hF : Hid (logF o xs = ((o, logL o xs), true)) := if_pos ⟨hokH.out, hgd.trans hx0⟩
      clear hgd
      subst hx0
      have hnum' := hide H.out.1
      clear H
      have hr1 : R64 (-1 : Int) := by constructor <;> omega
      have p1 := k1.c0
      go_wp2_with fail
      clear p0 p1
      refine (spec_l11Zero o w1 h0 h5).mono ?_
      rintro e w2 ⟨A3, c3, rfl, o3, b3⟩
      have a3 := below_alloc w2 (.cells #[.int .i64 o, .slice A3 (cntN o) c3] 38)
      have l1 := (k1.below b3).below a3
      have l2 := (k2.below b3).below a3
      have l3 := Blk2.new w2 (.int .i64 o) (.slice A3 (cntN o) c3) 38
      have o3' := o3.below a3 (Nat.le_refl _)
      have z2 := b3.size
      have h3 := (h2.below b3 (by omega)).below a3 (by omega)
      have b4 := (b2.trans (b3.mono z1)).trans (a3.mono (by omega))
      have q3 := l3.lt
      have p1 := l1.c0
      have p2 := l1.c1
      clear k1 k2 h2 b2 b3 o3
      go_upto_region 4 with fail
      generalize World.alloc w2 (.cells #[.int .i64 o, .slice A3 (cntN o) c3] 38) = W2 at a3 l1 l2 l3 o3' h3 b4 q3 p1 p2 ⊢
      clear a3
      have zW := b4.size
      go_cut [5, 6] (fun s5 s6 wx => ∃ (A' : Option Addr) (c' b : Nat), s5 = .pointer (some ⟨b, 0, none⟩) ∧ s6 = .bool true ∧ Below W2.heap.size W2 wx ∧ W2.heap.size ≤ b ∧ Blk2 wx b (.int .i64 o) (.slice A' (cntN o) c') ∧ OwnI wx W2.heap.size wx.heap.size A' (cntN o) c' (restL (cntN o) xs))
      case first =>
        have d : Below W2.heap.size W2 W2.drew := (Below.refl _ _).drew
        go_region_held3 (fun w' => w'.cell? ⟨w.heap.size, 0, none⟩ = some (.int .i64 o) ∧ w'.cell? ⟨w.heap.size, 1, none⟩ = some (.slice (some ad) (cntN o) c)) (first | exact ⟨p1, p2⟩ | exact ⟨P1, P2⟩ | exact ⟨R1, R2⟩ | exact ⟨Q1, Q2⟩ | exact ⟨cell_alloc_far p1, cell_alloc_far p2⟩ | exact ⟨cell_alloc_far P1, cell_alloc_far P2⟩ | exact ⟨cell_alloc_far R1, cell_alloc_far R2⟩ | exact ⟨cell_alloc_far Q1, cell_alloc_far Q2⟩ | exact ⟨cell_far Q1 ne0, cell_far Q2 ne0⟩ | exact ⟨cell_far Q1 ne1, cell_far Q2 ne1⟩ | exact ⟨cell_far Q1 ne2, cell_far Q2 ne2⟩ | go_keep)
          (first
            | (go_at_call 113; refine (spec_Unit o _ h0 h5).mono ?_; rintro e u1 ⟨A4, c4, rfl, o4, b5⟩; have BU : Below W2.heap.size W2 u1 := (by refine Below.trans ?_ (Below.mono b5 ?_); (· (repeat (first | with_reducible exact d | with_reducible exact Below.refl _ _ | with_reducible refine Below.drew ?_ | ((with_reducible refine Below.alloc ?_ ?_ _); rotate_left; · first | omega | (simp [World.setCell]; done) | (simp [World.setCell]; omega)) | ((with_reducible refine Below.setCell ?_ ?_ _); rotate_left; · first | exact Nat.le_refl _ | omega | (simp; done) | (simp; omega))))); (· first | omega | (simp; omega) | simp)); have szu := BU.size; have P1 := (l1.below BU).c0; have P2 := (l1.below BU).c1; (first | (have kb0 : Blk2 u1 W2.heap.size (.int .i64 0) (.slice none 0 0) := (Blk2.new W2.drew (.int .i64 0) (.slice none 0 0) 38).below b5) | (have kb0 : Blk2 u1 W2.heap.size (.int .i64 0) (.slice none 0 0) := (Blk2.new W2 (.int .i64 0) (.slice none 0 0) 38).drew.below b5) | skip); (first | (have ltk0 := kb0.lt) | skip))
            | (go_at_call 112; refine (spec_Scale_ok o A4 (cntN o) c4 (unitL (cntN o)) _ _ (-1) _ (o4.below (B := u1.heap.size) (by (repeat (first | with_reducible exact Below.refl _ _ | with_reducible exact Below.refl _ _ | with_reducible refine Below.drew ?_ | ((with_reducible refine Below.alloc ?_ ?_ _); rotate_left; · first | omega | (simp [World.setCell]; done) | (simp [World.setCell]; omega)) | ((with_reducible refine Below.setCell ?_ ?_ _); rotate_left; · first | exact Nat.le_refl _ | omega | (simp; done) | (simp; omega))))) (Nat.le_refl _)).ints (by first | omega | (simp; omega) | simp) hr1 (wordsOk_of h0 h5 (by simp [unitL]) (unitL_num _))).mono ?_; rintro e u2 ⟨A5, c5, rfl, o5, b6⟩; have BV : Below W2.heap.size W2 u2 := (by refine Below.trans ?_ (Below.mono b6 ?_); (· (repeat (first | with_reducible exact BU | with_reducible exact Below.refl _ _ | with_reducible refine Below.drew ?_ | ((with_reducible refine Below.alloc ?_ ?_ _); rotate_left; · first | omega | (simp [World.setCell]; done) | (simp [World.setCell]; omega)) | ((with_reducible refine Below.setCell ?_ ?_ _); rotate_left; · first | exact Nat.le_refl _ | omega | (simp; done) | (simp; omega))))); (· first | omega | (simp; omega) | simp)); have BV1 : Below u1.heap.size u1 u2 := (by refine Below.trans ?_ (Below.mono b6 ?_); (· (repeat (first | with_reducible exact Below.refl _ _ | with_reducible exact Below.refl _ _ | with_reducible refine Below.drew ?_ | ((with_reducible refine Below.alloc ?_ ?_ _); rotate_left; · first | omega | (simp [World.setCell]; done) | (simp [World.setCell]; omega)) | ((with_reducible refine Below.setCell ?_ ?_ _); rotate_left; · first | exact Nat.le_refl _ | omega | (simp; done) | (simp; omega))))); (· simp)); have szv := BV.size; have szv1 := BV1.size; have R1 := (l1.below BV).c0; have R2 := (l1.below BV).c1; (first | (have kb1 := kb0.below b6) | (have kb1 := (Blk2.new u1 (.int .i64 0) (.slice none 0 0) 38).below b6) | skip); (first | (have ltk1 := kb1.lt) | skip))
            | (go_at_call 111; refine (spec_Add_ok o (some ad) (cntN o) c xs lo hi A5 (cntN o) c5 ((unitL (cntN o)).map (fun x => timesF x (-1))) _ _ _ (h3.below (B := W2.heap.size) (by (repeat (first | with_reducible exact BV | with_reducible exact Below.refl _ _ | with_reducible refine Below.drew ?_ | ((with_reducible refine Below.alloc ?_ ?_ _); rotate_left; · first | omega | (simp [World.setCell]; done) | (simp [World.setCell]; omega)) | ((with_reducible refine Below.setCell ?_ ?_ _); rotate_left; · first | exact Nat.le_refl _ | omega | (simp; done) | (simp; omega))))) (by omega)) (o5.below (B := u2.heap.size) (by (repeat (first | with_reducible exact Below.refl _ _ | with_reducible exact Below.refl _ _ | with_reducible refine Below.drew ?_ | ((with_reducible refine Below.alloc ?_ ?_ _); rotate_left; · first | omega | (simp [World.setCell]; done) | (simp [World.setCell]; omega)) | ((with_reducible refine Below.setCell ?_ ?_ _); rotate_left; · first | exact Nat.le_refl _ | omega | (simp; done) | (simp; omega))))) (Nat.le_refl _)).ints (by first | omega | (simp; omega) | simp) (by first | omega | (simp; omega) | simp) hokH.out (wordsOk_of h0 h5 (by simp [unitL]) (map_num _ _))).mono ?_; rintro e u3 ⟨A6, c6, rfl, o6, b7⟩; have BC : Below W2.heap.size W2 u3 := (by refine Below.trans ?_ (Below.mono b7 ?_); (· (repeat (first | with_reducible exact BV | with_reducible exact Below.refl _ _ | with_reducible refine Below.drew ?_ | ((with_reducible refine Below.alloc ?_ ?_ _); rotate_left; · first | omega | (simp [World.setCell]; done) | (simp [World.setCell]; omega)) | ((with_reducible refine Below.setCell ?_ ?_ _); rotate_left; · first | exact Nat.le_refl _ | omega | (simp; done) | (simp; omega))))); (· first | omega | (simp; omega) | simp)); have szc := BC.size; have Q1 := (l1.below BC).c0; have Q2 := (l1.below BC).c1; rw [zip_scale] at o6; have OC : OwnI u3 W2.heap.size u3.heap.size A6 (cntN o) c6 (restL (cntN o) xs) := o6.wide (by first | omega | (simp; omega)) (Nat.le_refl _); (first | (have kc := kb1.below b7) | (have kc := (Blk2.new u2 (.int .i64 0) (.slice none 0 0) 38).below b7) | skip); (first | (have z0 := kc.c0; have z1 := kc.c1; have z2 := kc.f0; have z3 := kc.f1; have z4 := kc.lt) | skip); have ne0 : ¬ w.heap.size = W2.heap.size := (by omega); have ne1 : ¬ w.heap.size = u1.heap.size := (by omega); have ne2 : ¬ w.heap.size = u2.heap.size := (by omega)))
        all_goals go_wp2_with fail
        all_goals go_meet
        all_goals first
          | exact ⟨A6, c6, _, rfl, rfl, BC.trans ((below_alloc u3 _).mono szc), szc, Blk2.new u3 _ _ _, (OC.below (below_alloc u3 _) (Nat.le_refl _)).wide (Nat.le_refl _) (by simp)⟩
          | exact ⟨A6, c6, W2.heap.size, rfl, rfl, (by (repeat (first | with_reducible exact BC | with_reducible exact Below.refl _ _ | with_reducible refine Below.drew ?_ | ((with_reducible refine Below.alloc ?_ ?_ _); rotate_left; · first | omega | (simp [World.setCell]; done) | (simp [World.setCell]; omega)) | ((with_reducible refine Below.setCell ?_ ?_ _); rotate_left; · first | exact Nat.le_refl _ | omega | (simp; done) | (simp; omega))))), (by omega), kc.store2 _ _, (OwnI.same o6 (by (repeat (first | with_reducible exact Same.refl _ _ _ | with_reducible refine Same.drew ?_ | ((with_reducible refine Same.alloc ?_ ?_ _); rotate_left; · first | omega | (simp [World.setCell]; done) | (simp [World.setCell]; omega)) | ((with_reducible refine Same.setCell ?_ ?_ _); rotate_left; · first | omega | (simp; done) | (simp; omega)))))).wide (by first | omega | (simp; omega) | simp) (by simp [World.setCell])⟩
          | exact ⟨A6, c6, u1.heap.size, rfl, rfl, (by (repeat (first | with_reducible exact BC | with_reducible exact Below.refl _ _ | with_reducible refine Below.drew ?_ | ((with_reducible refine Below.alloc ?_ ?_ _); rotate_left; · first | omega | (simp [World.setCell]; done) | (simp [World.setCell]; omega)) | ((with_reducible refine Below.setCell ?_ ?_ _); rotate_left; · first | exact Nat.le_refl _ | omega | (simp; done) | (simp; omega))))), (by omega), kc.store2 _ _, (OwnI.same o6 (by (repeat (first | with_reducible exact Same.refl _ _ _ | with_reducible refine Same.drew ?_ | ((with_reducible refine Same.alloc ?_ ?_ _); rotate_left; · first | omega | (simp [World.setCell]; done) | (simp [World.setCell]; omega)) | ((with_reducible refine Same.setCell ?_ ?_ _); rotate_left; · first | omega | (simp; done) | (simp; omega)))))).wide (by first | omega | (simp; omega) | simp) (by simp [World.setCell])⟩
          | exact ⟨A6, c6, u2.heap.size, rfl, rfl, (by (repeat (first | with_reducible exact BC | with_reducible exact Below.refl _ _ | with_reducible refine Below.drew ?_ | ((with_reducible refine Below.alloc ?_ ?_ _); rotate_left; · first | omega | (simp [World.setCell]; done) | (simp [World.setCell]; omega)) | ((with_reducible refine Below.setCell ?_ ?_ _); rotate_left; · first | exact Nat.le_refl _ | omega | (simp; done) | (simp; omega))))), (by omega), kc.store2 _ _, (OwnI.same o6 (by (repeat (first | with_reducible exact Same.refl _ _ _ | with_reducible refine Same.drew ?_ | ((with_reducible refine Same.alloc ?_ ?_ _); rotate_left; · first | omega | (simp [World.setCell]; done) | (simp [World.setCell]; omega)) | ((with_reducible refine Same.setCell ?_ ?_ _); rotate_left; · first | omega | (simp; done) | (simp; omega)))))).wide (by first | omega | (simp; omega) | simp) (by simp [World.setCell])⟩
      case rest =>
        obtain ⟨Ax, cx, bx, rfl, rfl, bc, hbx, kx, ox⟩ := hcut
        obtain ⟨w3, rfl⟩ : ∃ W : World, W = wc := ⟨_, rfl⟩
        have K1 := l1.below bc
        have K2 := l2.below bc
        have K3 := l3.below bc
        have O3 := o3'.below bc (by omega)
        have b5 := b4.trans (bc.mono zW)
        have z3 := bc.size
        have qx := kx.lt
        clear p1 p2 l1 l2 l3 h3 b4 bc o3'
        have p1 := K1.c0
        go_wp2_with fail
        clear p1
        refine (spec_Unit o w3 h0 h5).mono ?_
        rintro e w4 ⟨A4, c4, rfl, o4, b6⟩
        have a4 := below_alloc w4 (.cells #[.int .i64 o, .slice A4 (cntN o) c4] 38)
        have m1 := (K1.below b6).below a4
        have m2 := (K2.below b6).below a4
        have mx := (kx.below b6).below a4
        have m3 := (K3.below b6).below a4
        have m4 := Blk2.new w4 (.int .i64 o) (.slice A4 (cntN o) c4) 38
        have z4 := b6.size
        have o5 := (O3.below b6 (by omega)).below a4 (by omega)
        have o6 := o4.below a4 (Nat.le_refl _)
        have ox3 := (ox.below b6 (Nat.le_refl _)).below a4 (by omega)
        have b7 := (b5.trans (b6.mono (by omega))).trans (a4.mono (by omega))
        have q4 := m4.lt
        clear K1 K2 K3 kx b5 b6 o4 O3 ox
        go_wp2_with fail
        generalize World.alloc w4 (.cells #[.int .i64 o, .slice A4 (cntN o) c4] 38) = w5 at a4 m1 m2 m3 m4 mx o5 o6 ox3 b7 q4 ⊢
        clear a4
        have hxok := hide (wordsOk_of h0 h5 ox3.len (zip_num xs (unitL (cntN o)) (-1)))
        have hx3 := hide ox3
        clear ox3
        go_loopw [8, 9] (fun i _ wr => ∃ (j : Nat) (B3 : Option Addr) (d3 : Nat) (B4 : Option Addr) (d4 lo3 hi3 lo4 hi4 : Nat) (out pw : List Int), 1 ≤ j ∧ j ≤ o.toNat + 1 ∧ i = .int .i64 j ∧ Below w2.heap.size w5 wr ∧ Same W2.heap.size w3.heap.size w5 wr ∧ Blk2 wr w2.heap.size (.int .i64 o) (.slice B3 (cntN o) d3) ∧ Blk2 wr w4.heap.size (.int .i64 o) (.slice B4 (cntN o) d4) ∧
            Hid (OwnI wr lo3 hi3 B3 (cntN o) d3 out ∧ w1.heap.size ≤ lo3 ∧ hi3 ≤ wr.heap.size ∧ (hi3 ≤ w2.heap.size ∨ w4.heap.size < lo3) ∧ ∀ x ∈ out, 0 ≤ x ∧ x < 1000000271) ∧ Hid (OwnI wr lo4 hi4 B4 (cntN o) d4 pw ∧ w3.heap.size ≤ lo4 ∧ hi4 ≤ wr.heap.size ∧ ∀ x ∈ pw, 0 ≤ x ∧ x < 1000000271) ∧ Hid (logL o xs = logGo (cntN o) (restL (cntN o) xs) (o.toNat + 1 - j) j out pw))
          (fun i _ _ => 7 - (intOf i).toNat)
        case atStart => exact ⟨1, A3, c3, A4, c4, w1.heap.size, w2.heap.size, w3.heap.size, w4.heap.size, List.replicate (cntN o) 0, unitL (cntN o), by omega, by omega, rfl, Below.refl _ _, Same.refl _ _ _, m3, m4, ⟨o5, by omega, by omega, by omega, zeros_num _⟩, ⟨o6, by omega, by omega, unitL_num _⟩, rfl⟩
        case round =>
          obtain ⟨j, B3, d3, B4, d4, lo3, hi3, lo4, hi4, out, pw, hj1, hj2, rfl, hb, hsm, n3, n4, ho3, ho4, hE⟩ := hrel
          have n1 := m1.same (hb.block w.heap.size (by omega))
          have n2 := m2.same (hb.block (w.heap.size + 1) (by omega))
          have nx := mx.same (hsm bx (by omega) (by omega))
          have h4 := hx3.out.same hsm
          have hs := hb.size
          have s1 := n1.lt
          have s4 := n4.lt
          by_cases hle : j ≤ o.toNat
          · obtain ⟨s, hsn⟩ : ∃ s, o.toNat + 1 - j = s + 1 := ⟨o.toNat - j, by omega⟩
            have E1 : Hid (logL o xs = logGo (cntN o) (restL (cntN o) xs) s (j + 1) (zipF out (mulL (cntN o) pw (restL (cntN o) xs)) (fracF (sgnN j) j)) (mulL (cntN o) pw (restL (cntN o) xs))) := by
              show _ = _
              rw [hE.out, hsn, logGo]
            have hle' : (j : Int) ≤ o := by omega
            have p0 := n1.c0
            have p2 := n4.c0
            have p3 := n4.c1
            have p4 := nx.c0
            have p5 := nx.c1
            go_wp2_with fail
            clear p0 p2 p3 p4 p5 hE
            refine (spec_Mul_ok o B4 (cntN o) d4 pw lo4 hi4 Ax (cntN o) cx (restL (cntN o) xs) _ _ wr ho4.out.1.ints h4.ints ho4.out.2.2.1 (by omega) (wordsOk_of h0 h5 ho4.out.1.len ho4.out.2.2.2) hxok.out).mono ?_
            rintro e v1 ⟨A5, c5, rfl, o5', b5'⟩
            have y5 := b5'.size
            have M4 := n4.below b5'
            have n4' := M4.store2 (.int .i64 o) (.slice A5 (cntN o) c5)
            have n3' := (n3.below b5').far (show w2.heap.size ≠ w4.heap.size by omega) (.int .i64 o) (.slice A5 (cntN o) c5)
            have P3 := (ho3.out.1.below b5' ho3.out.2.2.1).same (store2_same (.int .i64 o) (.slice A5 (cntN o) c5) (b := w4.heap.size) (by have := ho3.out.2.2.2.1; omega))
            have P5 := o5'.same (store2_same (.int .i64 o) (.slice A5 (cntN o) c5) (b := w4.heap.size) (by omega))
            have Hb := store2_below (hb.trans (b5'.mono (show w2.heap.size ≤ wr.heap.size by omega))) (show w2.heap.size ≤ w4.heap.size by omega) (.int .i64 o) (.slice A5 (cntN o) c5)
            have Hsm : Same W2.heap.size w3.heap.size w5 _ := hsm.trans ((Same.of_below (lo := W2.heap.size) (hi := w3.heap.size) b5' (by omega)).trans (store2_same (b := w4.heap.size) (.int .i64 o) (.slice A5 (cntN o) c5) (by omega)))
            have ys := store2_size v1 w4.heap.size (.int .i64 o) (.slice A5 (cntN o) c5)
            have hlo3 := ho3.out.2.1
            have hhi3 := ho3.out.2.2.1
            have hdi3 := ho3.out.2.2.2.1
            have ok3 := wordsOk_of h0 h5 P3.len ho3.out.2.2.2.2
            have ok5 := wordsOk_of h0 h5 P5.len (mulL_num _ _ _)
            have g0 := M4.c0
            have g1 := M4.c1
            have f0 := M4.f0
            have f1 := M4.f1
            have HH := hide (And.intro P3 (And.intro P5 (And.intro ok3 ok5)))
            have hjr : R64 (j : Int) := by constructor <;> omega
            have hir := r64_of_num (invF_bd (j : Int))
            clear n1 n2 n3 n4 nx h4 o5' b5' hb hsm P3 P5 ok3 ok5 ho3 ho4
            generalize hv2 : (v1.setCell ⟨w4.heap.size, 0, none⟩ (.int .i64 o)).setCell ⟨w4.heap.size, 1, none⟩ (.slice A5 (cntN o) c5) = v2 at n4' n3' HH Hb Hsm ys
            by_cases hpar : j % 2 = 0
            all_goals first
              | (have hp1 : (j : Int).tmod 2 = 0 := by rw [Int.tmod_eq_emod_of_nonneg (by omega)]; omega
                 go_upto_region 13 with fail
                 generalize hv : Value.int IntKind.i64 (-1) = vs
                 obtain ⟨sg, rfl, hsg, hsb⟩ : ∃ sg : Int, vs = .int .i64 sg ∧ Hid (sg = sgnN j) ∧ R64 sg := ⟨-1, hv.symm, by show _ = _; unfold sgnN; rw [if_pos hpar], by constructor <;> omega⟩
                 clear hv hp1 hpar
                 try rw [hv2])
              | (have hp1 : ¬ (j : Int).tmod 2 = 0 := by rw [Int.tmod_eq_emod_of_nonneg (by omega)]; omega
                 go_upto_region 13 with fail
                 generalize hv : Value.int IntKind.i64 1 = vs
                 obtain ⟨sg, rfl, hsg, hsb⟩ : ∃ sg : Int, vs = .int .i64 sg ∧ Hid (sg = sgnN j) ∧ R64 sg := ⟨1, hv.symm, by show _ = _; unfold sgnN; rw [if_neg hpar], by constructor <;> omega⟩
                 clear hv hp1 hpar
                 try rw [hv2])
            all_goals
              clear g0 g1 f0 f1 M4 hv2
              have d2 : Below v2.heap.size v2 v2.drew := (Below.refl _ _).drew
              have dz := d2.size
              have r4 := n4'.below d2
              have r3 := n3'.below d2
              have hts := r64_of_num (timesF_bd sg (invF (j : Int)))
              have hS0 : Two w2.heap.size (.int .i64 o) (.slice B3 (cntN o) d3) w4.heap.size (.int .i64 o) (.slice A5 (cntN o) c5) v2.drew := ⟨⟨r3.c0, r3.c1⟩, r4.c0, r4.c1⟩
              refine wp_region_Z (Two w2.heap.size (.int .i64 o) (.slice B3 (cntN o) d3) w4.heap.size (.int .i64 o) (.slice A5 (cntN o) c5)) 11 (by kernel_rfl) ?_
              refine wpAnyZ_take 0 (.agg #[.int .i64 o, .slice B3 (cntN o) d3]) rfl (by kernel_rfl) (by kernel_rfl) (fun _ _ _ h => h) (by rfl) (fun _ hS => by obtain ⟨⟨s1, s2⟩, s3, s4⟩ := hS; go_simp) hS0 ?_
              try simp only [Act.put, List.setIfInBounds_toArray, List.set_cons_zero, List.set_cons_succ]
              refine wpAnyZ_take 1 (.agg #[.int .i64 o, .slice A5 (cntN o) c5]) rfl (by kernel_rfl) (by kernel_rfl) (fun _ _ _ h => h) (by rfl) (fun _ hS => by obtain ⟨⟨s1, s2⟩, s3, s4⟩ := hS; go_simp) hS0 ?_
              try simp only [Act.put, List.setIfInBounds_toArray, List.set_cons_zero, List.set_cons_succ]
              refine wpAnyZ_takeW 2 (.int .i64 sg) rfl (by kernel_rfl) (by kernel_rfl) (fun _ _ _ h => h) (by rfl) (fun _ => by go_simp) hS0 ?_
              try simp only [Act.put, List.setIfInBounds_toArray, List.set_cons_zero, List.set_cons_succ]
              refine wpAnyZ_takeW 3 (.int .i64 (j : Int)) rfl (by kernel_rfl) (by kernel_rfl) (fun _ _ _ h => h) (by rfl) (fun _ => by go_simp) hS0 ?_
              try simp only [Act.put, List.setIfInBounds_toArray, List.set_cons_zero, List.set_cons_succ]
              refine wpAnyZ_one 4 (by kernel_rfl) rfl (by rfl) (fun K hK => ?_)
              go_simp
              refine (spec_Inverse (j : Int) v2.drew hjr).mono ?_
              rintro e w' ⟨rfl, rfl⟩
              go_wp2_with fail
              refine hK.out _ _ hS0 ?_
              clear hK K
              try simp only [Act.put, List.setIfInBounds_toArray, List.set_cons_zero, List.set_cons_succ]
              refine wpAnyZ_one 5 (by kernel_rfl) rfl (by rfl) (fun K hK => ?_)
              go_simp
              refine (spec_Times sg (invF (j : Int)) v2.drew hsb hir).mono ?_
              rintro e w' ⟨rfl, rfl⟩
              go_wp2_with fail
              refine hK.out _ _ hS0 ?_
              clear hK K
              try simp only [Act.put, List.setIfInBounds_toArray, List.set_cons_zero, List.set_cons_succ]
              refine wpAnyZ_one 6 (by kernel_rfl) rfl (by rfl) (fun K hK => ?_)
              go_simp
              refine (spec_Scale_ok o A5 (cntN o) c5 _ _ _ (timesF sg (invF (j : Int))) v2.drew (HH.out.2.1.below d2 (by omega)).ints (by omega) hts HH.out.2.2.2).mono ?_
              rintro e u1 ⟨A6, c6, rfl, o6', b7'⟩
              have y7 := b7'.size
              have hS1 : Two w2.heap.size (.int .i64 o) (.slice B3 (cntN o) d3) w4.heap.size (.int .i64 o) (.slice A5 (cntN o) c5) u1 := ⟨⟨(r3.below b7').c0, (r3.below b7').c1⟩, (r4.below b7').c0, (r4.below b7').c1⟩
              go_wp2_with fail
              refine hK.out _ _ hS1 ?_
              clear hK K
              try simp only [Act.put, List.setIfInBounds_toArray, List.set_cons_zero, List.set_cons_succ]
              refine wpAnyZ_one 7 (by kernel_rfl) rfl (by rfl) (fun K hK => ?_)
              go_simp
              refine (spec_Add_ok o B3 (cntN o) d3 out lo3 hi3 A6 (cntN o) c6 _ _ _ u1 ((HH.out.1.below d2 (by omega)).below b7' (by omega)).ints o6'.ints (by omega) (by omega) HH.out.2.2.1 (wordsOk_of h0 h5 o6'.len (map_num _ _))).mono ?_
              rintro e u2 ⟨A7, c7, rfl, o7, b8⟩
              have y8 := b8.size
              have R3 := (r3.below b7').below b8
              have R4 := (r4.below b7').below b8
              have hS2 : Two w2.heap.size (.int .i64 o) (.slice B3 (cntN o) d3) w4.heap.size (.int .i64 o) (.slice A5 (cntN o) c5) u2 := ⟨⟨R3.c0, R3.c1⟩, R4.c0, R4.c1⟩
              go_wp2_with fail
              refine hK.out _ _ hS2 ?_
              clear hK K
              try simp only [Act.put, List.setIfInBounds_toArray, List.set_cons_zero, List.set_cons_succ]
              refine wpAnyZ_takeW 8 (.tuple #[.agg #[.int .i64 o, .slice A7 (cntN o) c7], .bool true]) rfl (by kernel_rfl) (by kernel_rfl) (fun _ _ _ h => h) (by rfl) (fun _ => by go_simp) hS2 ?_
              try simp only [Act.put, List.setIfInBounds_toArray, List.set_cons_zero, List.set_cons_succ]
              refine wpAnyZ_takeW 9 (.agg #[.int .i64 o, .slice A7 (cntN o) c7]) rfl (by kernel_rfl) (by kernel_rfl) (fun _ _ _ h => h) (by rfl) (fun _ => by go_simp) hS2 ?_
              try simp only [Act.put, List.setIfInBounds_toArray, List.set_cons_zero, List.set_cons_succ]
              refine wpAnyZ_takeW 10 (.bool true) rfl (by kernel_rfl) (by kernel_rfl) (fun _ _ _ h => h) (by rfl) (fun _ => by go_simp) hS2 ?_
              try simp only [Act.put, List.setIfInBounds_toArray, List.set_cons_zero, List.set_cons_succ]
              rw [zip_scale] at o7
              have n3 := R3.store2 (.int .i64 o) (.slice A7 (cntN o) c7)
              have n4 := R4.far (show w4.heap.size ≠ w2.heap.size by omega) (.int .i64 o) (.slice A7 (cntN o) c7)
              have N7 := o7.same (store2_same (.int .i64 o) (.slice A7 (cntN o) c7) (b := w2.heap.size) (by omega))
              have N5 := (((HH.out.2.1.below d2 (by omega)).below b7' (by omega)).below b8 (by omega)).same (store2_same (.int .i64 o) (.slice A7 (cntN o) c7) (b := w2.heap.size) (by omega))
              have HB := store2_below ((Hb.drew.trans (b7'.mono (show w2.heap.size ≤ v2.drew.heap.size by omega))).trans (b8.mono (show w2.heap.size ≤ u1.heap.size by omega))) (Nat.le_refl _) (.int .i64 o) (.slice A7 (cntN o) c7)
              have HS : Same W2.heap.size w3.heap.size w5 _ := ((Hsm.drew).trans ((Same.of_below (lo := W2.heap.size) (hi := w3.heap.size) b7' (by omega)).trans (Same.of_below (lo := W2.heap.size) (hi := w3.heap.size) b8 (by omega)))).trans (store2_same (b := w2.heap.size) (.int .i64 o) (.slice A7 (cntN o) c7) (by omega))
              have ys7 := store2_size u2 w2.heap.size (.int .i64 o) (.slice A7 (cntN o) c7)
              have g0 := R3.c0
              have g1 := R3.c1
              have f0 := R3.f0
              have f1 := R3.f1
              have E2 : Hid (logL o xs = logGo (cntN o) (restL (cntN o) xs) s (j + 1) (zipF out (mulL (cntN o) pw (restL (cntN o) xs)) (timesF sg (invF j))) (mulL (cntN o) pw (restL (cntN o) xs))) := by
                show _ = _
                rw [E1.out, ← hsg.out]
                rfl
              clear hS0 hS1 hS2 R3 R4 r3 r4 o7 o6' b7' b8 Hb Hsm d2 HH E1
              refine wpAnyZ_last (by kernel_rfl) rfl (by kernel_rfl) (by rfl) (fun K hK => ?_)
              go_simp
              refine hK _ _ ?_
              clear hK K g0 g1 f0 f1
              generalize (u2.setCell ⟨w2.heap.size, 0, none⟩ (.int .i64 o)).setCell ⟨w2.heap.size, 1, none⟩ (.slice A7 (cntN o) c7) = v4 at n3 n4 N7 N5 HB HS ys7 ⊢
              go_wp2_with fail
              go_roundw
              case rel =>
                exact ⟨j + 1, A7, c7, A5, c5, _, _, _, _, _, _, by omega, by omega, by go_num, HB, HS, n3, n4, ⟨N7, by omega, by omega, by omega, zip_num _ _ _⟩, ⟨N5, by omega, by omega, mulL_num _ _ _⟩, by
                  show _ = _
                  rw [E2.out]
                  congr 1
                  omega⟩
              case measure => simp [intOf]; omega
          · have E0 : Hid (logL o xs = out) := by
              show _ = _
              rw [hE.out, show o.toNat + 1 - j = 0 by omega]
              rfl
            have hle' : ¬ (j : Int) ≤ o := by omega
            have p0 := n1.c0
            have p2 := n3.c0
            have p3 := n3.c1
            have p4 := n2.c0
            have p5 := n2.c1
            have p6 := n2.f0
            have p7 := n2.f1
            have B5 := b7.trans (hb.mono (show w.heap.size ≤ w2.heap.size by omega))
            have HO2 := hide ho3.out.1
            have hz3 := ho3.out.2.2.1
            have hz2 := ho3.out.2.1
            have l6 := n2.lt
            clear hE ho3 ho4 hb n1 n2 n3 n4 nx h4 m1 m2 m3 m4 mx o5 o6 b7 hsm
            go_wp2_with fail
            refine bodyPost_ret (v := .tuple #[.agg #[.int .i64 o, .slice B3 (cntN o) d3], .bool true]) (by simp [results, Try.results52, go_sem, p4, p5]) rfl ⟨_, _, _, by rw [hF.out], ?_, ?_⟩
            · rw [hF.out]
              show OwnI _ _ _ _ _ _ (logL o xs)
              rw [E0.out]
              refine (OwnI.same HO2.out ?_).wide (by omega) ?_
              · (repeat (first | with_reducible exact Same.refl _ _ _ | with_reducible refine Same.drew ?_ | ((with_reducible refine Same.alloc ?_ ?_ _); rotate_left; · first | omega | (simp [World.setCell]; done) | (simp [World.setCell]; omega)) | ((with_reducible refine Same.setCell ?_ ?_ _); rotate_left; · first | omega | (simp; done) | (simp; omega))))
              · simp [World.setCell]; omega
            · (repeat (first | with_reducible exact B5 | with_reducible exact Below.refl _ _ | with_reducible refine Below.drew ?_ | ((with_reducible refine Below.alloc ?_ ?_ _); rotate_left; · first | omega | (simp [World.setCell]; done) | (simp [World.setCell]; omega)) | ((with_reducible refine Below.setCell ?_ ?_ _); rotate_left; · first | exact Nat.le_refl _ | omega | (simp; done) | (simp; omega))))
    · have hF : Hid (logF o xs = ((0, []), false)) := if_neg (fun h => hx0 (hgd.symm.trans h.2))
      clear hgd
      have p4 := k2.c0
      have p5 := k2.c1
      have p6 := k2.f0
      have p7 := k2.f1
      go_wp2_with fail
      refine bodyPost_ret (v := .tuple #[.agg #[.int .i64 0, .slice none 0 0], .bool false]) (by simp [results, Try.results52, go_sem, p4, p5]) rfl ⟨_, _, _, by rw [hF.out], by rw [hF.out]; exact OwnI.nil_ _ _ _, ?_⟩
      (repeat (first | with_reducible exact b2 | with_reducible exact Below.refl _ _ | with_reducible refine Below.drew ?_ | ((with_reducible refine Below.alloc ?_ ?_ _); rotate_left; · first | omega | (simp [World.setCell]; done) | (simp [World.setCell]; omega)) | ((with_reducible refine Below.setCell ?_ ?_ _); rotate_left; · first | exact Nat.le_refl _ | omega | (simp; done) | (simp; omega))))
  · have hF : Hid (logF o xs = ((0, []), false)) := if_neg (fun h => hok h.1)
    have hok' : wordsOkF o xs = false := by simpa using hok
    rw [hok']
    clear hok
    have p4 := k2.c0
    have p5 := k2.c1
    have p6 := k2.f0
    have p7 := k2.f1
    go_wp2_with fail
    refine bodyPost_ret (v := .tuple #[.agg #[.int .i64 0, .slice none 0 0], .bool false]) (by simp [results, Try.results52, go_sem, p4, p5]) rfl ⟨_, _, _, by rw [hF.out], by rw [hF.out]; exact OwnI.nil_ _ _ _, ?_⟩
    (repeat (first | with_reducible exact b2 | with_reducible exact Below.refl _ _ | with_reducible refine Below.drew ?_ | ((with_reducible refine Below.alloc ?_ ?_ _); rotate_left; · first | omega | (simp [World.setCell]; done) | (simp [World.setCell]; omega)) | ((with_reducible refine Below.setCell ?_ ?_ _); rotate_left; · first | exact Nat.le_refl _ | omega | (simp; done) | (simp; omega))))

end Go.Proofs.Ytodlfmagkjblgaa
