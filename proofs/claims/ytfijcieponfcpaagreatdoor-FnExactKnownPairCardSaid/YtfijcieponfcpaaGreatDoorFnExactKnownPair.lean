/- Proved here: for every input the statement FnExactKnownPair returns true, and its argument reads as before. No conditions. -/
import Derived.Test.YtfijcieponfcpaaGreatDoorMgG
import Derived.Test.YtfijcieponfcpaaGreatDoorMgH
namespace Go.Proofs.YtfijcieponfcpaaGreatDoor.fnExactKnownPair
open Go.ChangeShapes Go.WideShapes Go.ChangeAt Go.RowKit
set_option linter.unusedSimpArgs false
set_option linter.unusedVariables false
set_option maxRecDepth 20000

theorem laws_markPair_nil (w : World) : Calls Tryz.prog 7 #[zPair, .int .i64 1] w fun e w' => e = .returned (.int .i64 1) ∧ Below w.heap.size w w' := by
  have a1 := below_alloc w (.cells #[.int .i64 0, .slice none 0 0, .slice none 0 0, .int .i64 0, .slice none 0 0, .slice none 0 0] 26)
  have j1 := BlkN.new w #[.int .i64 0, .slice none 0 0, .slice none 0 0, .int .i64 0, .slice none 0 0, .slice none 0 0] 26
  go_enter Tryz.func7, Tryz.ntmps7
  have p0 := j1.c 0 rfl
  have p1 := j1.c 1 rfl
  have p2 := j1.c 2 rfl
  go_wp2_with fail
  clear p0 p1 p2
  generalize World.alloc w (.cells #[.int .i64 0, .slice none 0 0, .slice none 0 0, .int .i64 0, .slice none 0 0, .slice none 0 0] 26) = W at a1 j1 ⊢
  refine (laws_markTableau 0 none 0 0 [] none 0 0 [] W.heap.size W.heap.size W.heap.size W.heap.size W.heap.size W.heap.size 1 W (OwnI.nil_ _ _ _) (OwnI.nil_ _ _ _) (.inl (Nat.le_refl _)) (by omega) (Nat.le_refl _) (by omega) (by omega)).mono ?_
  rintro e w1 ⟨rfl, _, _, t1, _⟩
  have b1 := t1.below (Nat.le_refl _) (Nat.le_refl _)
  have k1 := j1.below b1
  have B1 := a1.trans (b1.mono a1.size)
  have p3 := k1.c 3 rfl
  have p4 := k1.c 4 rfl
  have p5 := k1.c 5 rfl
  clear t1 b1 j1 a1
  go_wp2_with fail
  clear p3 p4 p5
  refine (laws_markTableau 0 none 0 0 [] none 0 0 [] w1.heap.size w1.heap.size w1.heap.size w1.heap.size w1.heap.size w1.heap.size 1 w1 (OwnI.nil_ _ _ _) (OwnI.nil_ _ _ _) (.inl (Nat.le_refl _)) (by omega) (Nat.le_refl _) (by omega) (by omega)).mono ?_
  rintro e w2 ⟨rfl, _, _, t2, _⟩
  have B2 := B1.trans ((t2.below (Nat.le_refl _) (Nat.le_refl _)).mono B1.size)
  go_wp2_with fail
  go_ret
  exact ⟨ret_int (by omega), B2⟩

section
variable {w : World} {lo hi : Nat} {s : Int} {A : Option Addr} {n c : Nat} {xs : List Int} {B : Option Addr} {m d : Nat} {ys : List Int} {A' : Option Addr} {n' c' : Nat} {xs' : List Int} {B' : Option Addr} {m' d' : Nat} {ys' : List Int}
theorem markO (h : PairO w lo hi s A n c xs B m d ys A' n' c' xs' B' m' d' ys') (hh : hi ≤ w.heap.size) (hs : n + m + n' + m' ≤ 30) :
    Calls Tryz.prog 7 #[.agg #[.int .i64 s, .slice A n c, .slice B m d, .int .i64 s, .slice A' n' c', .slice B' m' d'], .int .i64 1] w fun e w' => e = .returned (.int .i64 (1 + n + m + n' + m')) ∧ PairI w' lo hi A n c (marks 1 n) B m d (marks (1 + n) m) A' n' c' (marks (1 + n + m) n') B' m' d' (marks (1 + n + m + n') m') ∧ Touch lo hi w w' := by
  rcases h.own with ⟨rfl, rfl, rfl, rfl, rfl, rfl, rfl, rfl, rfl, rfl, rfl, rfl, rfl⟩ | ⟨l1, l2, l3, l4, hd, hb, h1, h2, h3, h4⟩
  · refine (laws_markPair_nil w).mono ?_
    rintro e w' ⟨rfl, hB⟩
    exact ⟨by rfl, ⟨Ints.nil_ _ _ _, Ints.nil_ _ _ _, Ints.nil_ _ _ _, Ints.nil_ _ _ _⟩, .of_below hB⟩
  · refine (laws_markPair s A n c xs B m d ys s A' n' c' xs' B' m' d' ys' l1 l2 l3 l4 lo hi 1 w h1 h2 h3 h4 hd hb hh (by omega) (by omega)).mono ?_
    rintro e w' ⟨rfl, o1, o2, o3, o4, ht⟩
    exact ⟨rfl, ⟨(o1.wide (by omega) (by omega)).ints, (o2.wide (by omega) (by omega)).ints, (o3.wide (by omega) (by omega)).ints, (o4.wide (by omega) (by omega)).ints⟩, ht⟩
theorem heldO (h : PairI w lo hi A n c (marks 1 n) B m d (marks (1 + n) m) A' n' c' (marks (1 + n + m) n') B' m' d' (marks (1 + n + m + n') m')) (hh : hi ≤ w.heap.size) (hs : n + m + n' + m' ≤ 30) (s : Int) :
    Calls Tryz.prog 8 #[.agg #[.int .i64 s, .slice A n c, .slice B m d, .int .i64 s, .slice A' n' c', .slice B' m' d'], .int .i64 1] w fun e w' => e = .returned (.int .i64 (1 + n + m + n' + m')) ∧ Below w.heap.size w w' :=
  laws_heldPair s A n c B m d s A' n' c' B' m' d' lo hi 1 w h.i1 h.i2 h.i3 h.i4 hh (by omega) (by omega)
theorem pairEq_refl (s : Int) (xs ys xs' ys' : List Int) : pairEqF s xs ys s xs' ys' s xs ys s xs' ys' = true := by simp [pairEqF, tabEqF]
end
theorem eqO {w : World} {s : Int} {xs ys xs' ys' : List Int} {lo hi : Nat} {A : Option Addr} {n c : Nat} {B : Option Addr} {m d : Nat} {A' : Option Addr} {n' c' : Nat} {B' : Option Addr} {m' d' : Nat} (h : PairO w lo hi s A n c xs B m d ys A' n' c' xs' B' m' d' ys') (hh : hi ≤ w.heap.size)
    {lo' hi' : Nat} {C : Option Addr} {k e : Nat} {D : Option Addr} {l f : Nat} {C' : Option Addr} {k' e' : Nat} {D' : Option Addr} {l' f' : Nat} (g : PairI w lo' hi' C k e xs D l f ys C' k' e' xs' D' l' f' ys') (hh' : hi' ≤ w.heap.size) :
    Calls Tryz.prog 6 #[.agg #[.int .i64 s, .slice A n c, .slice B m d, .int .i64 s, .slice A' n' c', .slice B' m' d'], .agg #[.int .i64 s, .slice C k e, .slice D l f, .int .i64 s, .slice C' k' e', .slice D' l' f']] w fun r w' => r = .returned (.bool true) ∧ Below w.heap.size w w' := by
  have := laws_eqPair s A n c xs B m d ys s A' n' c' xs' B' m' d' ys' lo hi s C k e xs D l f ys s C' k' e' xs' D' l' f' ys' lo' hi' w h.i1 h.i2 h.i3 h.i4 g.i1 g.i2 g.i3 g.i4 hh hh'
  rwa [pairEq_refl] at this

theorem six {w : World} {g : Nat} {a b c d e f : Value} (h : BlkN w g #[a, b, c, d, e, f]) : w.cell? ⟨g, 0, none⟩ = some a ∧ w.cell? ⟨g, 1, none⟩ = some b ∧ w.cell? ⟨g, 2, none⟩ = some c ∧ w.cell? ⟨g, 3, none⟩ = some d ∧ w.cell? ⟨g, 4, none⟩ = some e ∧ w.cell? ⟨g, 5, none⟩ = some f :=
  ⟨h.c 0 rfl, h.c 1 rfl, h.c 2 rfl, h.c 3 rfl, h.c 4 rfl, h.c 5 rfl⟩

set_option maxRecDepth 100000 in
set_option maxHeartbeats 8000000 in
theorem walk (nm : ByteArray) (mx : Int) (w : World) (hz : nm.size ≤ maxLen) (hm : w.cell? ⟨0, 0, none⟩ = some (.int .i64 mx)) :
    Calls Tryz.prog 3 #[.string nm] w fun e w' => e = .returned (.bool true) ∧ Below w.heap.size w w' := by
  have hz2 : nm.size ≤ 9223372036854775807 := by unfold maxLen at hz; omega
  by_cases hbig : (1048576 : Int) < (nm.size : Int)
  · go_enter Tryz.func3, Tryz.ntmps3
    go_wp2_with fail
    go_ret
    exact ⟨rfl, Below.refl _ _⟩
  have hm0 := World.block_lt_of_cell? w _ hm
  have HM : Hid (∀ v : World, Below w.heap.size w v → v.cell? ⟨0, 0, none⟩ = some (.int .i64 mx)) := fun v hv => (hv.cell hm0).trans hm
  have HS := hide fun W => spec_KnownPair nm W
  have HP := hide fun W => impl_KnownPair nm mx W
  have HL := hide (kp_len nm)
  clear hm
  generalize kpF nm = K at HS HP HL
  obtain ⟨s, xs, ys, xs', ys', ok⟩ := K
  simp only at HS HP HL
  go_enter Tryz.func3, Tryz.ntmps3
  go_wp2_with fail
  refine (HS.out w).mono ?_
  rintro e w1 ⟨C, k, e0, D, l, f, C', k', e0', D', l', f', rfl, s1, b1⟩
  have a1 := below_alloc w1 (.cells #[.int .i64 s, .slice C k e0, .slice D l f, .int .i64 s, .slice C' k' e0', .slice D' l' f'] 26)
  have k1 := BlkN.new w1 #[.int .i64 s, .slice C k e0, .slice D l f, .int .i64 s, .slice C' k' e0', .slice D' l' f'] 26
  have s1a := s1.below a1 (Nat.le_refl _)
  have bw1 := b1.trans (a1.mono b1.size)
  have z1 := b1.size
  have z1a := k1.lt
  clear s1 b1 a1
  go_wp2_with fail
  generalize w1.alloc (.cells #[.int .i64 s, .slice C k e0, .slice D l f, .int .i64 s, .slice C' k' e0', .slice D' l' f'] 26) = V1 at k1 s1a bw1 z1a ⊢
  refine (HP.out V1 (HM.out _ bw1)).mono ?_
  rintro e w2 ⟨A, n, c, B, m, d, A', n', c', B', m', d', rfl, s2, b2⟩
  have hsum : Hid (n + m + n' + m' ≤ 30) := by
    have := HL.out
    show _ ≤ _
    rw [← s2.i1.len, ← s2.i2.len, ← s2.i3.len, ← s2.i4.len]
    exact this
  have z2 := b2.size
  have k1b := k1.below b2
  have s1b := s1a.below b2 (by omega)
  have bw2 := bw1.trans (b2.mono bw1.size)
  have a2 := below_alloc w2 (.cells #[.int .i64 s, .slice A n c, .slice B m d, .int .i64 s, .slice A' n' c', .slice B' m' d'] 26)
  have k2 := BlkN.new w2 #[.int .i64 s, .slice A n c, .slice B m d, .int .i64 s, .slice A' n' c', .slice B' m' d'] 26
  have z2a := k2.lt
  have k1c := k1b.below a2
  have s1c := s1b.below a2 (by omega)
  have s2c := s2.below a2 (Nat.le_refl _)
  have bw3 := bw2.trans (a2.mono bw2.size)
  clear s1a s1b s2 b2 a2 k1 k1b bw1 bw2
  obtain ⟨p0, p1, p2, p3, p4, p5⟩ := six k1c
  go_wp2_with fail
  clear p0 p1 p2 p3 p4 p5
  generalize w2.alloc (.cells #[.int .i64 s, .slice A n c, .slice B m d, .int .i64 s, .slice A' n' c', .slice B' m' d'] 26) = V2 at k2 k1c s1c s2c bw3 z2a ⊢
  refine (eqO s2c (by omega) s1c (by omega)).mono ?_
  rintro e w3 ⟨rfl, b3⟩
  have z3 := b3.size
  have k13 := k1c.below b3
  have k23 := k2.below b3
  have s13 := s1c.below b3 (by omega)
  have s23 := s2c.below b3 (by omega)
  have bw4 := bw3.trans (b3.mono bw3.size)
  clear s1c s2c b3 bw3 k1c k2
  obtain ⟨p0, p1, p2, p3, p4, p5⟩ := six k23
  cases ok
  all_goals
    go_wp2_with fail
    clear p0 p1 p2 p3 p4 p5
    refine (markO s23 (by omega) hsum.out).mono ?_
    rintro e w4 ⟨rfl, s24, t4⟩
    have z4 := t4.size
    have k14 := k13.touch t4 (.inl (by omega))
    have k24 := k23.touch t4 (.inr (by omega))
    have s14 := s13.same (t4.same (.inl (by omega)) (by omega))
    have bw5 := bw4.trans (t4.below (B := w.heap.size) (by omega) bw4.size)
    clear s23 t4 bw4 k13 k23
    obtain ⟨p0, p1, p2, p3, p4, p5⟩ := six k24
    go_wp2_with fail
    clear p0 p1 p2 p3 p4 p5
    refine (heldO s24 (by omega) hsum.out s).mono ?_
    rintro e w5 ⟨rfl, b5⟩
    have z5 := b5.size
    have k15 := k14.below b5
    have k25 := k24.below b5
    have s15 := s14.below b5 (by omega)
    have s25 := s24.below b5 (by omega)
    have bw6 := bw5.trans (b5.mono bw5.size)
    have hne : ¬ (1 + (n : Int) + m + n' + m' < 0) := by omega
    clear s14 s24 b5 bw5 k14 k24
    go_wp2_with fail
    refine (HP.out w5 (HM.out _ bw6)).mono ?_
    rintro e w6 ⟨F, n6, c6, G, m6, d6, F', n6', c6', G', m6', d6', rfl, s36, b6⟩
    have z6 := b6.size
    have k16 := k15.below b6
    have k26 := k25.below b6
    have s16 := s15.below b6 (by omega)
    have s26 := s25.below b6 (by omega)
    have bw7 := bw6.trans (b6.mono bw6.size)
    have a7 := below_alloc w6 (.cells #[.int .i64 s, .slice F n6 c6, .slice G m6 d6, .int .i64 s, .slice F' n6' c6', .slice G' m6' d6'] 26)
    have z7 := a7.size
    have k17 := k16.below a7
    have k27 := k26.below a7
    have s17 := s16.below a7 (by omega)
    have s27 := s26.below a7 (by omega)
    have s37 := s36.below a7 (Nat.le_refl _)
    have bw8 := bw7.trans (a7.mono bw7.size)
    clear s15 s25 s16 s26 s36 b6 bw6 bw7 k15 k25 k16 k26 a7
    obtain ⟨p0, p1, p2, p3, p4, p5⟩ := six k17
    go_wp2_with fail
    clear p0 p1 p2 p3 p4 p5
    generalize w6.alloc (.cells #[.int .i64 s, .slice F n6 c6, .slice G m6 d6, .int .i64 s, .slice F' n6' c6', .slice G' m6' d6'] 26) = V7 at k17 k27 s17 s27 s37 bw8 z7 ⊢
    refine (eqO s37 (by omega) s17 (by omega)).mono ?_
    rintro e w8 ⟨rfl, b8⟩
    have z8 := b8.size
    have k28 := k27.below b8
    have s28 := s27.below b8 (by omega)
    have bw9 := bw8.trans (b8.mono bw8.size)
    clear s17 s27 s37 b8 bw8 k17 k27
    obtain ⟨p0, p1, p2, p3, p4, p5⟩ := six k28
    go_wp2_with fail
    clear p0 p1 p2 p3 p4 p5
    refine (heldO s28 (by omega) hsum.out s).mono ?_
    rintro e w9 ⟨rfl, b9⟩
    have BW := hide (bw9.trans (b9.mono bw9.size))
    clear bw9 b9 s28 k28
    go_wp2_with fail
    go_ret
    exact ⟨rfl, BW.out⟩

theorem own : ownKnob Tryz.prog.godebug = none := by kernel_rfl
theorem laidOut : laidOutB Tryz.prog = true := by kernel_rfl
set_option maxRecDepth 100000 in
theorem lifted (os : Os) (started : os.Started) (H : Type) (enc : TypeId × Value → H) :
    ReturnsInHanded {} Tryz.checked os 3 .any (fun w args => (Rows.fnExactKnownPairSpec.pre enc Tryz.prog Tryz.f3 [] false w args ∧ laidMetH Tryz.prog [("unicode/utf8.acceptRanges", Rows.laid_unicode_utf8_acceptRanges), ("unicode/utf8.first", Rows.laid_unicode_utf8_first)] w) ∧ sizedMet enc Tryz.prog Tryz.f3 (OpenSpec.ofChange Rows.fnExactKnownPairSpec) false w args) (Rows.fnExactKnownPairSpec.post enc Tryz.prog Tryz.f3 false true false false) := by
  refine returnsInHanded_of_calls own started (by kernel_rfl)
    (ChangeSpec.witness_shaped (enc := enc) (C := Tryz.checked) (os := os) (fn := Tryz.f3) (X := fun w _ => laidMetH Tryz.prog [("unicode/utf8.acceptRanges", Rows.laid_unicode_utf8_acceptRanges), ("unicode/utf8.first", Rows.laid_unicode_utf8_first)] w) false (laidWorld os) #[.string ⟨#[]⟩] 8 rfl (World.shaped_of_RefB (by kernel_rfl) (by kernel_rfl)) (by kernel_rfl) (by kernel_rfl) (by kernel_rfl) (laidWorld_met os _)) ?_
  intro w0 tape inp _ hsh _ hok hpre _
  obtain ⟨_, _, _, fn', hfn', _, _, _, _, hval0⟩ := hok
  obtain rfl : fn' = Tryz.f3 := Option.some.inj (hfn'.symm.trans Tryz.func3)
  obtain ⟨⟨⟨ds, gs, before, hW0, _⟩, _⟩, _⟩ := hpre
  have hW := DataW.Whole.of_heap (w' := w0.forCall tape inp) (by rfl) hW0
  obtain ⟨mx, hmx⟩ := max_cell hsh
  generalize w0.forCall tape inp = W at hW hval0 hmx ⊢
  generalize inp.args = args at hW hval0 ⊢
  refine (show Calls Tryz.prog 3 args W (fun e W' => ∃ v, e = .returned v ∧ Rows.fnExactKnownPairSpec.post enc Tryz.prog Tryz.f3 false true false false W args v W') from ?_).mono fun e W' ⟨v, he, hp⟩ => by subst he; exact ChangeSpec.post_blind hp
  have hval : ∀ (j : Nat) t v, Tryz.f3.params[j]? = some t → args[j]? = some v → Value.okWide Tryz.prog W .any _ t v := hval0
  clear hW0
  have hW' := hW
  obtain ⟨p, q, hA0, hV, rfl, hfz, hnd⟩ := hW
  have hA : DataW.TrodAll enc Tryz.prog W 0 (fun _ => true) true Tryz.f3.params.toList args.toList ds p := hA0
  rw [Tryz.params3] at hA hval
  obtain ⟨v0, vs0, d0, ds0, p0, q0, hargs, rfl, rfl, h0, t0⟩ := trodAll_cons hA
  obtain ⟨rfl, rfl, rfl⟩ := trodAll_nil t0
  obtain rfl : args = #[v0] := by cases args; simp_all
  obtain ⟨rfl, rfl⟩ := trodVars_none hV
  have k0 := h0
  have lt0 : ∀ x ∈ p0, x.block < W.heap.size := by obtain ⟨m, hm⟩ := k0; exact DataW.trod_lt m _ _ _ hm
  obtain ⟨s_0, rfl, z_0⟩ := open_pstr h0 (hval 0 9 v0 rfl rfl)
  clear hA0 hval0
  refine (walk s_0 mx W z_0 hmx).mono fun e W' ⟨he, bel⟩ => ?_
  subst he
  exact ⟨_, rfl, _, _, _, [], _, [], hW', trodAll_mk1 (shut_bool Tryz.underlying4 _), (trodAll_cons_mk (Below.trod laidOut (by kernel_rfl) (of_decide_eq_true (by kernel_rfl)) k0 bel lt0) trodAll_mk0), rfl, bel.frame _, fun h => by cases h⟩
theorem over : Rows.fnExactKnownPairRow.holds Tryz.pinned (OpenSpec.ofChange Rows.fnExactKnownPairSpec) :=
  OpenClaim.holds_of_wide 3 Tryz.f3 rfl rfl rfl rfl rfl rfl rfl ⟨rfl, rfl, rfl, rfl, rfl⟩ rfl rfl rfl rfl rfl (by kernel_rfl) Tryz.func3 (by kernel_rfl)
    (of_decide_eq_true (by kernel_rfl)) (by unfold Func.isWrapper; first | (rw [if_pos (by decide +kernel)]; kernel_rfl) | (rw [if_neg (by decide +kernel)]; exact ⟨rfl, rfl⟩))
    (fun os started H enc _ => lifted os started H enc)
theorem proved : Rows.FnExactKnownPairCardSaid :=
  Claim7.holds_tied_plain_at .later [] [.data, .pinned] true (true, "9aeb69fae4d3117eeeb770674d225acd5262c1d1636f660ed212a959609ca50a") false
    over (fun _ h => by cases h) (by kernel_rfl) (fun _ h => by cases h) fnExactKnownPair_row_tie rfl ⟨rfl, rfl⟩ (by kernel_rfl) rfl
    (fun f fn hf hfn => by
      obtain rfl : f = 3 := Option.some.inj ((show Tryz.prog.funcNamed Rows.fnExactKnownPairRow.func = some 3 by kernel_rfl).symm.trans hf) |>.symm
      obtain rfl : fn = Tryz.f3 := (Option.some.inj (Tryz.func3.symm.trans hfn)).symm
      exact ⟨by kernel_rfl, fun j t ht => by
        have hm : t ∈ Tryz.f3.params.toList := by simpa using Array.mem_of_getElem? ht
        have hall : (Tryz.f3.params.toList.all fun u => !Tryz.prog.wantsStandIn u) = true := by kernel_rfl
        exact (show Tryz.prog.wantsStandIn t = false by simpa using List.all_eq_true.1 hall t hm)⟩)
    (by kernel_rfl)
#print axioms proved

end Go.Proofs.YtfijcieponfcpaaGreatDoor.fnExactKnownPair
