/- Symplectic pairs: the loops of both texts. -/
import Derived.Test.YtodlfmagkjblgaaSym
namespace Go.Proofs.Ytodlfmagkjblgaa
open Go.RowKit
set_option linter.unusedSimpArgs false
set_option linter.unusedVariables false
set_option maxRecDepth 20000

def symJ (n : Nat) (b f g : List Int) (i : Nat) : Nat → Nat → Bool
  | 0, _ => true
  | s + 1, j => if plusF (timesF (b.getD i 0) (g.getD (i * n + j) 0)) (timesF (b.getD j 0) (f.getD (j * n + i) 0)) = timesF (b.getD i 0) (b.getD j 0) then symJ n b f g i s (j + 1) else false
def symI (n : Nat) (b f g : List Int) : Nat → Nat → Bool
  | 0, _ => true
  | s + 1, i => if symJ n b f g i n 0 = true then symI n b f g s (i + 1) else false
def symF (s : Int) (xs ys : List Int) (s' : Int) (xs' ys' : List Int) : Bool := if pairOkF s xs ys s' xs' ys' = true then decide (ys = ys') && symI s.toNat ys xs xs' s.toNat 0 else false
theorem tabOk_facts {s : Int} {xs ys : List Int} (h : tabOkF s xs ys = true) : ∃ k : Nat, s = (k : Int) ∧ k ≤ 8 ∧ xs.length = k * k ∧ ys.length = k := by
  unfold tabOkF at h
  simp only [Bool.and_eq_true, decide_eq_true_eq] at h
  obtain ⟨⟨h0, h8⟩, h1, h2, _⟩ := h
  refine ⟨s.toNat, by omega, by omega, ?_, by omega⟩
  obtain ⟨k, rfl⟩ : ∃ k : Nat, s = (k : Int) := ⟨s.toNat, by omega⟩
  have : ((k * k : Nat) : Int) = (k : Int) * k := by simp
  simp only [Int.toNat_natCast]
  omega
theorem pairOk_facts {s : Int} {xs ys : List Int} {s' : Int} {xs' ys' : List Int} (h : pairOkF s xs ys s' xs' ys' = true) : tabOkF s xs ys = true ∧ tabOkF s' xs' ys' = true ∧ s = s' := by
  unfold pairOkF at h
  simp only [Bool.and_eq_true, beq_iff_eq] at h
  exact ⟨h.1, h.2.1, h.2.2⟩
theorem r64_nm {x : Int} (h : 0 ≤ x ∧ x < 1000000271) : R64 x := by constructor <;> omega
theorem r64_getD {xs : List Int} (h : ∀ x ∈ xs, R64 x) (p : Nat) : R64 (xs.getD p 0) := by
  rw [List.getD]
  cases hx : xs[p]? with
  | none => constructor <;> simp
  | some x => exact h x (List.mem_of_getElem? hx)
theorem Ints.cellD {w : World} {lo hi : Nat} {ad : Addr} {n c : Nat} {xs : List Int} (h : Ints w lo hi (some ad) n c xs) {p : Nat} (hp : p < n) : w.cell? (ad.add p) = some (.int .i64 (xs.getD p 0)) := by
  obtain ⟨ad', x, e, hc, _, _, hx⟩ := h.at_ hp
  injection e with e
  subst e
  rw [hc, List.getD, hx.out]
  rfl
theorem idx_lt {k a b : Nat} (ha : a < k) (hb : b < k) : a * k + b < k * k := by
  have : (a + 1) * k ≤ k * k := Nat.mul_le_mul_right _ ha
  rw [Nat.add_mul] at this
  omega

set_option maxRecDepth 100000 in
set_option maxHeartbeats 4000000 in
theorem impl_symplectic (k : Nat) (A : Option Addr) (n c : Nat) (xs : List Int) (B : Option Addr) (d : Nat) (ys : List Int) (A' : Option Addr) (n' c' : Nat) (xs' : List Int) (B' : Option Addr) (d' : Nat) (ys' : List Int) (lo hi : Nat) (w : World) (h : Ints w lo hi A n c xs) (g : Ints w lo hi B k d ys) (h' : Ints w lo hi A' n' c' xs') (g' : Ints w lo hi B' k d' ys') (hh : hi ≤ w.heap.size) (hk : k ≤ 8) (hn : n = k * k) (hn' : n' = k * k) (t1 : tabOkF k xs ys = true) (t2 : tabOkF k xs' ys' = true) :
    Calls Try.prog 65 #[.agg #[.int .i64 (k : Int), .slice A n c, .slice B k d], .agg #[.int .i64 (k : Int), .slice A' n' c', .slice B' k d']] w fun e w' => e = .returned (.bool (decide (ys = ys') && symI k ys xs xs' k 0)) ∧ Below w.heap.size w w' := by
  have hcp := h.cap
  have hmx := h.max
  have gcp := g.cap
  have gmx := g.max
  have HN := hide (And.intro hn hn')
  have TT := hide (And.intro t1 t2)
  clear hn hn' t1 t2
  have a1 := below_alloc w (.cells #[.int .i64 (k : Int), .slice A n c, .slice B k d] 29)
  have j1 := BlkN.new w #[.int .i64 (k : Int), .slice A n c, .slice B k d] 29
  have a2 := below_alloc (w.alloc (.cells #[.int .i64 (k : Int), .slice A n c, .slice B k d] 29)) (.cells #[.int .i64 (k : Int), .slice A' n' c', .slice B' k d'] 29)
  have j1b := j1.below a2
  have j2 := BlkN.new (w.alloc (.cells #[.int .i64 (k : Int), .slice A n c, .slice B k d] 29)) #[.int .i64 (k : Int), .slice A' n' c', .slice B' k d'] 29
  have c0 := a1.trans (a2.mono a1.size)
  simp only [World.size_alloc] at j2
  have z0 := c0.size
  clear a1 a2 j1
  go_enter Try.func65, Try.ntmps65
  go_wp2_with fail
  generalize (w.alloc (.cells #[.int .i64 (k : Int), .slice A n c, .slice B k d] 29)).alloc (.cells #[.int .i64 (k : Int), .slice A' n' c', .slice B' k d'] 29) = W at c0 j1b j2 z0 ⊢
  refine (impl_TableauOk k A n c xs B k d ys lo hi W (h.below c0 hh) (g.below c0 hh) (by omega)).mono ?_
  rintro e w1 ⟨rfl, b1⟩
  rw [TT.out.1]
  have k1 := j1b.below b1
  have k2 := j2.below b1
  have B1 := c0.trans (b1.mono z0)
  have z1 := B1.size
  clear j1b j2 b1 c0
  have p0 := k2.c 0 rfl
  have p1 := k2.c 1 rfl
  have p2 := k2.c 2 rfl
  go_wp2_with fail
  clear p0 p1 p2
  refine (impl_TableauOk k A' n' c' xs' B' k d' ys' lo hi w1 (h'.below B1 hh) (g'.below B1 hh) (by omega)).mono ?_
  rintro e w2 ⟨rfl, b2⟩
  rw [TT.out.2]
  have l1 := k1.below b2
  have l2 := k2.below b2
  have B2 := B1.trans (b2.mono z1)
  have z2 := B2.size
  clear k1 k2 b2 B1
  have p1 := l1.c 2 rfl
  have p2 := l2.c 2 rfl
  go_wp2_with fail
  clear p1 p2
  refine (slices_Equal B k d ys lo hi B' k d' ys' lo hi w2 (g.below B2 hh) (g'.below B2 hh)).mono ?_
  rintro e w3 ⟨rfl, q, hw3⟩
  have b3 : Below w2.heap.size w2 w3 := by rw [hw3]; exact below_drewN (Below.refl _ _) q
  clear hw3
  have m1 := l1.below b3
  have m2 := l2.below b3
  have B3 := B2.trans (b3.mono z2)
  have z3 := B3.size
  clear l1 l2 b3 B2
  have q1 := m1.lt
  have q2 := m2.lt
  by_cases hys : ys = ys'
  · have hd : decide (ys = ys') = true := by simpa using hys
    have hV : Hid ((decide (ys = ys') && symI k ys xs xs' k 0) = symI k ys xs xs' k 0) := by show _ = _; rw [hd]; rfl
    rw [hd]
    clear hd hys
    have p1 := m1.c 2 rfl
    go_wp2_with fail
    clear p1
    go_loopw [6, 7, 28, 33] (fun _ _ i _ wr => ∃ (a : Nat), a ≤ k ∧ i = .int .i64 a ∧ Below w3.heap.size w3 wr ∧ Hid ((decide (ys = ys') && symI k ys xs xs' k 0) = symI k ys xs xs' (k - a) a)) (fun _ _ i _ _ => k - (intOf i).toNat)
    case atStart => exact ⟨0, by omega, rfl, Below.refl _ _, hV⟩
    case round =>
      clear hV
      obtain ⟨a, ha, rfl, hb, hI⟩ := hrel
      by_cases hlt : a < k
      · have hI2 : Hid ((decide (ys = ys') && symI k ys xs xs' k 0) = if symJ k ys xs xs' a k 0 = true then symI k ys xs xs' (k - (a + 1)) (a + 1) else false) := by
          show _ = _
          rw [hI.out, show k - a = (k - (a + 1)) + 1 by omega, symI]
        clear hI
        go_wp2_with fail
        go_loopw [7, 33] (fun _ j wr => ∃ (b : Nat), b ≤ k ∧ j = .int .i64 b ∧ Below w3.heap.size w3 wr ∧ Hid (symJ k ys xs xs' a k 0 = symJ k ys xs xs' a (k - b) b)) (fun _ j _ => k - (intOf j).toNat)
        case atStart => exact ⟨0, by omega, rfl, hb, rfl⟩
        case round =>
          clear hb
          obtain ⟨b, hbk, rfl, hb, hJ⟩ := hrel
          by_cases hlt2 : b < k
          · have hs3 := hb.size
            have n1 := m1.below hb
            have n2 := m2.below hb
            have B4 := B3.trans (hb.mono z3)
            have gI := g.below B4 hh
            obtain ⟨ad, eB, _, hadb, _⟩ := gI.cells (by omega)
            subst eB
            have hca := gI.cellD hlt
            have hcb := gI.cellD hlt2
            obtain ⟨bi, hbi⟩ : ∃ x, ys.getD a 0 = x := ⟨_, rfl⟩
            obtain ⟨bj, hbj⟩ : ∃ x, ys.getD b 0 = x := ⟨_, rfl⟩
            obtain ⟨gv, hgv⟩ : ∃ x, xs'.getD (a * k + b) 0 = x := ⟨_, rfl⟩
            obtain ⟨fv, hfv⟩ : ∃ x, xs.getD (b * k + a) 0 = x := ⟨_, rfl⟩
            have hEq : Hid (symJ k ys xs xs' a k 0 = if plusF (timesF bi gv) (timesF bj fv) = timesF bi bj then symJ k ys xs xs' a (k - (b + 1)) (b + 1) else false) := by
              show _ = _
              rw [hJ.out, show k - b = (k - (b + 1)) + 1 by omega, symJ, hbi, hbj, hgv, hfv]
            have rbi : R64 bi := by rw [← hbi]; exact r64_getD g.rng _
            have rbj : R64 bj := by rw [← hbj]; exact r64_getD g.rng _
            have rgv : R64 gv := by rw [← hgv]; exact r64_getD h'.rng _
            have rfv : R64 fv := by rw [← hfv]; exact r64_getD h.rng _
            have rt1 := r64_nm (timesF_bd bi gv)
            have rt2 := r64_nm (timesF_bd bj fv)
            rw [hbi] at hca
            rw [hbj] at hcb
            have d2 : Below wr.heap.size wr wr.drew := (Below.refl _ _).drew
            have dz := d2.size
            have r1 := n1.below d2
            have r2 := n2.below d2
            have D4 := B4.trans (d2.mono (by omega))
            have hA1 := hide (block_of_add ad a)
            have hA2 := hide (block_of_add ad b)
            have CA := hide (And.intro hca hcb)
            have G1 := hide (And.intro hgv hfv)
            have p0 := n1.c 0 rfl
            have p1 := n1.c 1 rfl
            have p2 := n1.c 2 rfl
            have p3 := n2.c 0 rfl
            have p4 := n2.c 1 rfl
            have p5 := n2.c 2 rfl
            clear hJ hbi hbj hgv hfv gI n1 n2
            go_wp2_with fail
            go_region_held3 (fun w' => w'.cell? ⟨w.heap.size, 0, none⟩ = some (.int .i64 (k : Int)) ∧ w'.cell? ⟨w.heap.size, 1, none⟩ = some (.slice A n c) ∧ w'.cell? ⟨w.heap.size, 2, none⟩ = some (.slice (some ad) k d) ∧ w'.cell? ⟨w.heap.size + 1, 0, none⟩ = some (.int .i64 (k : Int)) ∧ w'.cell? ⟨w.heap.size + 1, 1, none⟩ = some (.slice A' n' c') ∧ w'.cell? ⟨w.heap.size + 1, 2, none⟩ = some (.slice B' k d') ∧ w'.cell? (ad.add a) = some (.int .i64 bi) ∧ w'.cell? (ad.add b) = some (.int .i64 bj))
              (first | exact ⟨p0, p1, p2, p3, p4, p5, hca, hcb⟩ | exact ⟨s1.c 0 rfl, s1.c 1 rfl, s1.c 2 rfl, s2.c 0 rfl, s2.c 1 rfl, s2.c 2 rfl, X1, X2⟩ | exact ⟨t1'.c 0 rfl, t1'.c 1 rfl, t1'.c 2 rfl, t2'.c 0 rfl, t2'.c 1 rfl, t2'.c 2 rfl, Y1, Y2⟩ | go_keep)
              (first
                | (go_at_call 99; first
                    | (refine (impl_a k A n c xs (some ad) k d b a lo hi u1 ((h.below D4 hh).below b6 (by omega)) (by omega) hk HN.out.1 hlt2 hlt).mono ?_; rintro e u2 ⟨rfl, b7⟩; rw [G1.out.2]; have y7 := b7.size; have t1' := s1.below b7; have t2' := s2.below b7; have Y1 := (b7.cell (p := ad.add a) (by have := hA1.out; omega)).trans X1; have Y2 := (b7.cell (p := ad.add b) (by have := hA2.out; omega)).trans X2)
                    | (refine (impl_a k A' n' c' xs' B' k d' a b lo hi wr.drew (h'.below D4 hh) (by omega) hk HN.out.2 hlt hlt2).mono ?_; rintro e u1 ⟨rfl, b6⟩; rw [G1.out.1]; have y6 := b6.size; have s1 := r1.below b6; have s2 := r2.below b6; have X1 := (b6.cell (p := ad.add a) (by have := hA1.out; omega)).trans CA.out.1; have X2 := (b6.cell (p := ad.add b) (by have := hA2.out; omega)).trans CA.out.2))
                | (go_at_call 84; refine (impl_Times _ _ _ (by assumption) (by assumption)).mono ?_; rintro e w' ⟨rfl, rfl⟩)
                | (go_at_call 122; refine (impl_Plus _ _ _ (by assumption) (by assumption)).mono ?_; rintro e w' ⟨rfl, rfl⟩))
            clear p0 p1 p2 p3 p4 p5 r1 r2 s1 s2 t1' t2' X1 X2 Y1 Y2 hca hcb CA G1
            by_cases hxy : plusF (timesF bi gv) (timesF bj fv) = timesF bi bj
            · have E2 := hide (hEq.out.trans (if_pos hxy))
              have HB := (hb.drew.trans (b6.mono (show w3.heap.size ≤ wr.drew.heap.size by omega))).trans (b7.mono (show w3.heap.size ≤ u1.heap.size by omega))
              go_wp2_with fail
              go_roundw
              case rel => exact ⟨b + 1, by omega, by go_num, HB, E2⟩
              case measure => simp [intOf]; omega
            · have E2 : Hid ((decide (ys = ys') && symI k ys xs xs' k 0) = false) := by
                show _ = _
                rw [hI2.out, hEq.out, if_neg hxy]
                rfl
              have HB := B3.trans (((hb.drew.trans (b6.mono (show w3.heap.size ≤ wr.drew.heap.size by omega))).trans (b7.mono (show w3.heap.size ≤ u1.heap.size by omega))).mono z3)
              go_wp2_with fail
              go_ret
              exact ⟨ret_bool E2.out.symm, HB⟩
          · have E2 : Hid ((decide (ys = ys') && symI k ys xs xs' k 0) = symI k ys xs xs' (k - (a + 1)) (a + 1)) := by
              show _ = _
              rw [hI2.out, hJ.out, show k - b = 0 by omega, symJ, if_pos rfl]
            clear hI2 hJ
            go_wp2_with fail
            go_roundw
            case rel => exact ⟨a + 1, by omega, by go_num, hb, E2⟩
            case measure => simp [intOf]; omega
      · have E2 : Hid ((decide (ys = ys') && symI k ys xs xs' k 0) = true) := by
          show _ = _
          rw [hI.out, show k - a = 0 by omega, symI]
        have HB := B3.trans (hb.mono z3)
        go_wp2_with fail
        go_ret
        exact ⟨ret_bool E2.out.symm, HB⟩
  · have hd : decide (ys = ys') = false := by simpa using hys
    have hV : Hid ((decide (ys = ys') && symI k ys xs xs' k 0) = false) := by show _ = _; rw [hd]; rfl
    rw [hd]
    clear hd hys
    go_wp2_with fail
    go_ret
    exact ⟨ret_bool hV.out.symm, B3⟩

end Go.Proofs.Ytodlfmagkjblgaa
