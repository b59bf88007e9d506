/- Symplectic pairs: IsSymplecticPair of both texts. -/
import Derived.Test.YtodlfmagkjblgaaSymI
namespace Go.Proofs.Ytodlfmagkjblgaa
open Go.RowKit
set_option linter.unusedSimpArgs false
set_option linter.unusedVariables false
set_option maxRecDepth 20000

set_option maxHeartbeats 1000000 in
theorem impl_IsSymplecticPair (s : Int) (A : Option Addr) (n c : Nat) (xs : List Int) (B : Option Addr) (m d : Nat) (ys : List Int) (s' : Int) (A' : Option Addr) (n' c' : Nat) (xs' : List Int) (B' : Option Addr) (m' d' : Nat) (ys' : List Int) (lo hi : Nat) (w : World) (h : Ints w lo hi A n c xs) (g : Ints w lo hi B m d ys) (h' : Ints w lo hi A' n' c' xs') (g' : Ints w lo hi B' m' d' ys') (hh : hi ≤ w.heap.size) :
    Calls Try.prog 17 #[.agg #[.int .i64 s, .slice A n c, .slice B m d, .int .i64 s', .slice A' n' c', .slice B' m' d']] w fun e w' => e = .returned (.bool (symF s xs ys s' xs' ys')) ∧ Below w.heap.size w w' := by
  have a1 := below_alloc w (.cells #[.int .i64 s, .slice A n c, .slice B m d, .int .i64 s', .slice A' n' c', .slice B' m' d'] 31)
  have j1 := BlkN.new w #[.int .i64 s, .slice A n c, .slice B m d, .int .i64 s', .slice A' n' c', .slice B' m' d'] 31
  have z0 := a1.size
  go_enter Try.func17, Try.ntmps17
  go_wp2_with fail
  generalize World.alloc w (.cells #[.int .i64 s, .slice A n c, .slice B m d, .int .i64 s', .slice A' n' c', .slice B' m' d'] 31) = W at a1 j1 z0 ⊢
  refine (impl_PairOk s A n c xs B m d ys s' A' n' c' xs' B' m' d' ys' lo hi W (h.below a1 hh) (g.below a1 hh) (h'.below a1 hh) (g'.below a1 hh) (by omega)).mono ?_
  rintro e w1 ⟨rfl, b1⟩
  have k1 := j1.below b1
  have B1 := a1.trans (b1.mono z0)
  have z1 := B1.size
  clear j1 b1 a1
  by_cases hok : pairOkF s xs ys s' xs' ys' = true
  · obtain ⟨o1, o2, rfl⟩ := pairOk_facts hok
    obtain ⟨k, rfl, hk8, hl1, hl2⟩ := tabOk_facts o1
    obtain ⟨k', hkk, _, hl3, hl4⟩ := tabOk_facts o2
    obtain rfl : k = k' := by omega
    have hF : Hid (symF (k : Int) xs ys (k : Int) xs' ys' = (decide (ys = ys') && symI k ys xs xs' k 0)) := if_pos hok
    obtain rfl : m = k := by rw [← g.len, hl2]
    obtain rfl : m' = m := by rw [← g'.len, hl4]
    have hn : n = m' * m' := by rw [← h.len, hl1]
    have hn' : n' = m' * m' := by rw [← h'.len, hl3]
    have HN := hide (And.intro hn (And.intro hn' (And.intro o1 o2)))
    rw [hok]
    clear hn hn' o1 o2 hl1 hl2 hl3 hl4 hkk hok
    have p0 := k1.c 0 rfl
    have p1 := k1.c 1 rfl
    have p2 := k1.c 2 rfl
    have p3 := k1.c 3 rfl
    have p4 := k1.c 4 rfl
    have p5 := k1.c 5 rfl
    go_wp2_with fail
    clear p0 p1 p2 p3 p4 p5
    refine (impl_symplectic m' A n c xs B d ys A' n' c' xs' B' d' ys' lo hi w1 (h.below B1 hh) (g.below B1 hh) (h'.below B1 hh) (g'.below B1 hh) (by omega) hk8 HN.out.1 HN.out.2.1 HN.out.2.2.1 HN.out.2.2.2).mono ?_
    rintro e w2 ⟨rfl, b2⟩
    have B2 := B1.trans (b2.mono z1)
    clear k1
    go_wp2_with fail
    go_ret
    exact ⟨ret_bool hF.out.symm, B2⟩
  · have hF : Hid (symF s xs ys s' xs' ys' = false) := if_neg hok
    have hok' : pairOkF s xs ys s' xs' ys' = false := by simpa using hok
    rw [hok']
    clear hok hok' k1
    go_wp2_with fail
    go_ret
    exact ⟨ret_bool hF.out.symm, B1⟩

set_option maxRecDepth 100000 in
set_option maxHeartbeats 4000000 in
theorem spec_IsSymplecticPair (s : Int) (A : Option Addr) (n c : Nat) (xs : List Int) (B : Option Addr) (m d : Nat) (ys : List Int) (s' : Int) (A' : Option Addr) (n' c' : Nat) (xs' : List Int) (B' : Option Addr) (m' d' : Nat) (ys' : List Int) (lo hi : Nat) (w : World) (h : Ints w lo hi A n c xs) (g : Ints w lo hi B m d ys) (h' : Ints w lo hi A' n' c' xs') (g' : Ints w lo hi B' m' d' ys') (hh : hi ≤ w.heap.size) :
    Calls Try.prog 15 #[.agg #[.int .i64 s, .slice A n c, .slice B m d, .int .i64 s', .slice A' n' c', .slice B' m' d']] w fun e w' => e = .returned (.bool (symF s xs ys s' xs' ys')) ∧ Below w.heap.size w w' := by
  have a1 := below_alloc w (.cells #[.int .i64 s, .slice A n c, .slice B m d, .int .i64 s', .slice A' n' c', .slice B' m' d'] 31)
  have j1 := BlkN.new w #[.int .i64 s, .slice A n c, .slice B m d, .int .i64 s', .slice A' n' c', .slice B' m' d'] 31
  have z0 := a1.size
  go_enter Try.func15, Try.ntmps15
  go_wp2_with fail
  generalize World.alloc w (.cells #[.int .i64 s, .slice A n c, .slice B m d, .int .i64 s', .slice A' n' c', .slice B' m' d'] 31) = W at a1 j1 z0 ⊢
  refine (spec_PairOk s A n c xs B m d ys s' A' n' c' xs' B' m' d' ys' lo hi W (h.below a1 hh) (g.below a1 hh) (h'.below a1 hh) (g'.below a1 hh) (by omega)).mono ?_
  rintro e w1 ⟨rfl, b1⟩
  have k1 := j1.below b1
  have B1 := a1.trans (b1.mono z0)
  have z1 := B1.size
  have q1 := k1.lt
  clear j1 b1 a1
  by_cases hok : pairOkF s xs ys s' xs' ys' = true
  · obtain ⟨o1, o2, rfl⟩ := pairOk_facts hok
    obtain ⟨k, rfl, hk8, hl1, hl2⟩ := tabOk_facts o1
    obtain ⟨k', hkk, _, hl3, hl4⟩ := tabOk_facts o2
    obtain rfl : k = k' := by omega
    have hF : Hid (symF (k : Int) xs ys (k : Int) xs' ys' = (decide (ys = ys') && symI k ys xs xs' k 0)) := if_pos hok
    obtain rfl : m = k := by rw [← g.len, hl2]
    obtain rfl : m' = m := by rw [← g'.len, hl4]
    have hn : n = m' * m' := by rw [← h.len, hl1]
    have hn' : n' = m' * m' := by rw [← h'.len, hl3]
    have hn64 : n ≤ 64 := by rw [hn]; exact Nat.mul_le_mul hk8 hk8
    have hn64' : n' ≤ 64 := by rw [hn']; exact Nat.mul_le_mul hk8 hk8
    have HN := hide (And.intro hn hn')
    rw [hok]
    clear hn hn' o1 o2 hl1 hl2 hl3 hl4 hkk hok
    have hcp := h.cap
    have hmx := h.max
    have gcp := g.cap
    have gmx := g.max
    have hcp' := h'.cap
    have hmx' := h'.max
    have p2 := k1.c 2 rfl
    have p5 := k1.c 5 rfl
    go_wp2_with fail
    clear p2 p5
    refine (spec_l2Same B m' d ys lo hi B' m' d' ys' lo hi w1 (g.below B1 hh) (g'.below B1 hh)).mono ?_
    rintro e w3 ⟨rfl, q, hw3⟩
    have b3 : Below w1.heap.size w1 w3 := by rw [hw3]; exact below_drewN (Below.refl _ _) q
    clear hw3
    have m1 := k1.below b3
    have B3 := B1.trans (b3.mono z1)
    have z3 := B3.size
    clear k1 b3 B1
    by_cases hys : ys = ys'
    · have hd : decide (ys = ys') = true := by simpa using hys
      have hV : Hid (symF (m' : Int) xs ys (m' : Int) xs' ys' = symI m' ys xs xs' m' 0) := by show _ = _; rw [hF.out, hd]; rfl
      rw [hd]
      clear hd hys hF
      have p0 := m1.c 0 rfl
      have p2 := m1.c 2 rfl
      go_wp2_with fail
      clear p0 p2
      go_loopw [5, 6, 7] (fun i _ _ wr => ∃ (a : Nat), a ≤ m' ∧ i = .int .i64 a ∧ Below w3.heap.size w3 wr ∧ Hid (symF (m' : Int) xs ys (m' : Int) xs' ys' = symI m' ys xs xs' (m' - a) a)) (fun i _ _ _ => m' - (intOf i).toNat)
      case atStart => exact ⟨0, by omega, rfl, Below.refl _ _, hV⟩
      case round =>
        clear hV
        obtain ⟨a, ha, rfl, hb, hI⟩ := hrel
        by_cases hlt : a < m'
        · have hI2 : Hid (symF (m' : Int) xs ys (m' : Int) xs' ys' = if symJ m' ys xs xs' a m' 0 = true then symI m' ys xs xs' (m' - (a + 1)) (a + 1) else false) := by
            show _ = _
            rw [hI.out, show m' - a = (m' - (a + 1)) + 1 by omega, symI]
          clear hI
          go_wp2_with fail
          go_loopw [6, 7] (fun j _ wr => ∃ (b : Nat), b ≤ m' ∧ j = .int .i64 b ∧ Below w3.heap.size w3 wr ∧ Hid (symJ m' ys xs xs' a m' 0 = symJ m' ys xs xs' a (m' - b) b)) (fun j _ _ => m' - (intOf j).toNat)
          case atStart => exact ⟨0, by omega, rfl, hb, rfl⟩
          case round =>
            clear hb
            obtain ⟨b, hbk, rfl, hb, hJ⟩ := hrel
            by_cases hlt2 : b < m'
            · have hs3 := hb.size
              have n1 := m1.below hb
              have B4 := B3.trans (hb.mono z3)
              have i1 := idx_lt hlt hlt2
              have i2 := idx_lt hlt2 hlt
              rw [← HN.out.2] at i1
              rw [← HN.out.1] at i2
              have gI := g.below B4 hh
              have hI1 := h.below B4 hh
              have hI1' := h'.below B4 hh
              obtain ⟨ad, eB, _, _, _⟩ := gI.cells (by omega)
              subst eB
              obtain ⟨a1', eA, _, _, _⟩ := hI1.cells (by omega)
              subst eA
              obtain ⟨a2', eA', _, _, _⟩ := hI1'.cells (by omega)
              subst eA'
              have hca := gI.cellD hlt
              have hcb := gI.cellD hlt2
              have hcg := hI1'.cellD i1
              have hcf := hI1.cellD i2
              obtain ⟨bi, hbi⟩ : ∃ x, ys.getD a 0 = x := ⟨_, rfl⟩
              obtain ⟨bj, hbj⟩ : ∃ x, ys.getD b 0 = x := ⟨_, rfl⟩
              obtain ⟨gv, hgv⟩ : ∃ x, xs'.getD (a * m' + b) 0 = x := ⟨_, rfl⟩
              obtain ⟨fv, hfv⟩ : ∃ x, xs.getD (b * m' + a) 0 = x := ⟨_, rfl⟩
              have hEq : Hid (symJ m' ys xs xs' a m' 0 = if plusF (timesF bi gv) (timesF bj fv) = timesF bi bj then symJ m' ys xs xs' a (m' - (b + 1)) (b + 1) else false) := by
                show _ = _
                rw [hJ.out, show m' - b = (m' - (b + 1)) + 1 by omega, symJ, hbi, hbj, hgv, hfv]
              have rbi : R64 bi := by rw [← hbi]; exact r64_getD g.rng _
              have rbj : R64 bj := by rw [← hbj]; exact r64_getD g.rng _
              have rgv : R64 gv := by rw [← hgv]; exact r64_getD h'.rng _
              have rfv : R64 fv := by rw [← hfv]; exact r64_getD h.rng _
              have rt1 := r64_nm (timesF_bd bi gv)
              have rt2 := r64_nm (timesF_bd bj fv)
              rw [hbi] at hca
              rw [hbj] at hcb
              rw [hgv] at hcg
              rw [hfv] at hcf
              obtain ⟨qa, hqa⟩ : ∃ x : Nat, x = a * m' := ⟨_, rfl⟩
              obtain ⟨qb, hqb⟩ : ∃ x : Nat, x = b * m' := ⟨_, rfl⟩
              rw [← hqa] at i1 hcg
              rw [← hqb] at i2 hcf
              have hma : (a : Int) * (m' : Int) = (qa : Int) := by rw [hqa]; simp
              have hmb : (b : Int) * (m' : Int) = (qb : Int) := by rw [hqb]; simp
              have w1a := IntWalk.i64_in (qa : Int) (by omega)
              have w1b := IntWalk.i64_in (qb : Int) (by omega)
              have w2a := IntWalk.i64_in ((qa : Int) + (b : Int)) (by omega)
              have w2b := IntWalk.i64_in ((qb : Int) + (a : Int)) (by omega)
              have l1 : (qa : Int) + (b : Int) < (n' : Int) := by omega
              have l2 : (qb : Int) + (a : Int) < (n : Int) := by omega
              have e1 : ((qa : Int) + (b : Int)).toNat = qa + b := by omega
              have e2 : ((qb : Int) + (a : Int)).toNat = qb + a := by omega
              have p0 := n1.c 0 rfl
              have p1 := n1.c 1 rfl
              have p2 := n1.c 2 rfl
              have p4 := n1.c 4 rfl
              clear hJ hbi hbj hgv hfv gI n1 hI1 hI1' hqa hqb HN m1
              go_wp2_with fail
              go_quiet ((first
                | (go_at_call 63; first | exact quiet_left (spec_Times _ _ _ (by assumption) (by assumption)) | exact quiet_add_left (spec_Times _ _ _ (by assumption) (by assumption)))
                | (go_at_call 62; first | exact quiet_left (spec_Plus _ _ _ (by assumption) (by assumption)) | exact quiet_add_left (spec_Plus _ _ _ (by assumption) (by assumption)))))
              go_wp2_with fail
              go_quiet ((go_at_call 63; first | exact quiet_left (spec_Times _ _ _ (by assumption) (by assumption)) | exact quiet_add_left (spec_Times _ _ _ (by assumption) (by assumption))))
              by_cases hxy : plusF (timesF bi gv) (timesF bj fv) = timesF bi bj
              · have E2 := hide (hEq.out.trans (if_pos hxy))
                go_wp2_with fail
                go_roundw
                case rel => exact ⟨b + 1, by omega, by go_num, by first | exact below_drewN hb _ | exact below_drewN (below_drewN hb _) _, E2⟩
                case measure => simp [intOf]; omega
              · have E2 : Hid (symF (m' : Int) xs ys (m' : Int) xs' ys' = false) := by
                  show _ = _
                  rw [hI2.out, hEq.out, if_neg hxy]
                  rfl
                go_wp2_with fail
                go_ret
                exact ⟨ret_bool E2.out.symm, by first | exact below_drewN B4 _ | exact below_drewN (below_drewN B4 _) _⟩
            · have E2 : Hid (symF (m' : Int) xs ys (m' : Int) xs' ys' = symI m' ys xs xs' (m' - (a + 1)) (a + 1)) := by
                show _ = _
                rw [hI2.out, hJ.out, show m' - b = 0 by omega, symJ, if_pos rfl]
              clear hI2 hJ
              go_wp2_with fail
              go_roundw
              case rel => exact ⟨a + 1, by omega, by go_num, hb, E2⟩
              case measure => simp [intOf]; omega
        · have E2 : Hid (symF (m' : Int) xs ys (m' : Int) xs' ys' = true) := by
            show _ = _
            rw [hI.out, show m' - a = 0 by omega, symI]
          have HB := B3.trans (hb.mono z3)
          go_wp2_with fail
          go_ret
          exact ⟨ret_bool E2.out.symm, HB⟩
    · have hd : decide (ys = ys') = false := by simpa using hys
      have hV : Hid (symF (m' : Int) xs ys (m' : Int) xs' ys' = false) := by show _ = _; rw [hF.out, hd]; rfl
      rw [hd]
      clear hd hys
      go_wp2_with fail
      go_ret
      exact ⟨ret_bool hV.out.symm, B3⟩
  · have hF : Hid (symF s xs ys s' xs' ys' = false) := if_neg hok
    have hok' : pairOkF s xs ys s' xs' ys' = false := by simpa using hok
    rw [hok']
    clear hok hok' k1
    go_wp2_with fail
    go_ret
    exact ⟨ret_bool hF.out.symm, B1⟩

end Go.Proofs.Ytodlfmagkjblgaa
