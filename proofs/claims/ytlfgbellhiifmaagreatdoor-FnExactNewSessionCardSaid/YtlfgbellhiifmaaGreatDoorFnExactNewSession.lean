/- Proved here: for every input the statement FnExactNewSession returns true, and its arguments read as before. No conditions. -/
import Derived.Test.YtlfgbellhiifmaaGreatDoorMkS
import Derived.Test.YtlfgbellhiifmaaGreatDoorSes
import Derived.Test.YtlfgbellhiifmaaGreatDoorCardF
namespace Go.Proofs.YtlfgbellhiifmaaGreatDoor.fnExactNewSession
open Go.ChangeShapes Go.WideShapes Go.ChangeAt Go.RowKit
set_option linter.unusedSimpArgs false
set_option linter.unusedVariables false
set_option maxRecDepth 20000

theorem ses_eq {lo hi : Nat} {A : Option Addr} {c : Nat} {B : Option Addr} {d gP e gQ q gR r : Nat} {X : Option Addr} {f : Nat} {a b x y p : Int} {m1 m2 m3 : Nat} {lo' hi' : Nat} {A' : Option Addr} {c' : Nat} {B' : Option Addr} {d' gP' e' gQ' q' gR' r' : Nat} {X' : Option Addr} {f' : Nat} {m1' m2' m3' : Nat} (w : World)
    (h : Sess w lo hi A c B d gP e gQ q gR r X f a b x y p m1 m2 m3) (hh : hi ≤ w.heap.size) (h' : Sess w lo' hi' A' c' B' d' gP' e' gQ' q' gR' r' X' f' a b x y p m1' m2' m3') (hh' : hi' ≤ w.heap.size) :
    Calls Tryz.prog 6 #[.agg #[.int .i64 1, .slice A 1 c, .slice B 1 d, .int .i64 1, .slice (some ⟨gP, 0, none⟩) 1 e, .slice X 1 f], .agg #[.int .i64 1, .slice A' 1 c', .slice B' 1 d', .int .i64 1, .slice (some ⟨gP', 0, none⟩) 1 e', .slice X' 1 f']] w fun r w' => r = .returned (.bool true) ∧ Below w.heap.size w w' := by
  obtain ⟨l1, l2, l3, l4, oA, oB, fF, oX⟩ := h
  obtain ⟨l1', l2', l3', l4', oA', oB', fF', oX'⟩ := h'
  exact laws_eqSession 1 A 1 c [a] B 1 d [b] 1 _ 1 e _ X 1 f [p] lo hi w (oA.wide (Nat.le_refl _) (by omega)).ints (oB.wide (by omega) (by omega)).ints (fF.mons2.wide (by omega) (by omega)) (oX.wide (by omega) (by omega)).ints hh A' c' B' d' _ e' X' f' lo' hi'
    (oA'.wide (Nat.le_refl _) (by omega)).ints (oB'.wide (by omega) (by omega)).ints (fF'.mons2.wide (by omega) (by omega)) (oX'.wide (by omega) (by omega)).ints hh'

theorem six {w : World} {g : Nat} {a b c d e f : Value} (h : BlkN w g #[a, b, c, d, e, f]) : w.cell? ⟨g, 0, none⟩ = some a ∧ w.cell? ⟨g, 1, none⟩ = some b ∧ w.cell? ⟨g, 2, none⟩ = some c ∧ w.cell? ⟨g, 3, none⟩ = some d ∧ w.cell? ⟨g, 4, none⟩ = some e ∧ w.cell? ⟨g, 5, none⟩ = some f :=
  ⟨h.c 0 rfl, h.c 1 rfl, h.c 2 rfl, h.c 3 rfl, h.c 4 rfl, h.c 5 rfl⟩

set_option maxRecDepth 100000 in
set_option maxHeartbeats 8000000 in
theorem walk (mx : Int) (w : World) (hm : w.cell? ⟨0, 0, none⟩ = some (.int .i64 mx)) :
    Calls Tryz.prog 3 #[] w fun e w' => e = .returned (.bool true) ∧ Below w.heap.size w w' := by
  have hm0 := World.block_lt_of_cell? w _ hm
  have HM : Hid (∀ v : World, Below w.heap.size w v → v.cell? ⟨0, 0, none⟩ = some (.int .i64 mx)) := fun v hv => (hv.cell hm0).trans hm
  clear hm
  go_enter Tryz.func3, Tryz.ntmps3
  go_wp2_with fail
  refine (spec_NewSession w).mono ?_
  rintro e w1 ⟨A, c, B, d, gP, e0, gQ, q, gR, r, X, f, m1, m2, m3, rfl, s1, b1⟩
  have a1 := below_alloc w1 (.cells #[.int .i64 1, .slice A 1 c, .slice B 1 d, .int .i64 1, .slice (some ⟨gP, 0, none⟩) 1 e0, .slice X 1 f] 29)
  have k1 := BlkN.new w1 #[.int .i64 1, .slice A 1 c, .slice B 1 d, .int .i64 1, .slice (some ⟨gP, 0, none⟩) 1 e0, .slice X 1 f] 29
  have s1a := s1.below a1 (Nat.le_refl _)
  have bw1 := b1.trans (a1.mono b1.size)
  have z1 := b1.size
  have z1a := k1.lt
  clear s1 b1 a1
  go_wp2_with fail
  generalize w1.alloc (.cells #[.int .i64 1, .slice A 1 c, .slice B 1 d, .int .i64 1, .slice (some ⟨gP, 0, none⟩) 1 e0, .slice X 1 f] 29) = V1 at k1 s1a bw1 z1a ⊢
  refine (impl_NewSession mx V1 (HM.out _ bw1)).mono ?_
  rintro e w2 ⟨A2, c2, B2, d2, gP2, e2, gQ2, q2, gR2, r2, X2, f2, n1, n2, n3, rfl, s2, b2⟩
  have z2 := b2.size
  have k1b := k1.below b2
  have s1b := s1a.below b2 (by omega)
  have bw2 := bw1.trans (b2.mono bw1.size)
  have a2 := below_alloc w2 (.cells #[.int .i64 1, .slice A2 1 c2, .slice B2 1 d2, .int .i64 1, .slice (some ⟨gP2, 0, none⟩) 1 e2, .slice X2 1 f2] 29)
  have k2 := BlkN.new w2 #[.int .i64 1, .slice A2 1 c2, .slice B2 1 d2, .int .i64 1, .slice (some ⟨gP2, 0, none⟩) 1 e2, .slice X2 1 f2] 29
  have z2a := k2.lt
  have k1c := k1b.below a2
  have s1c := s1b.below a2 (by omega)
  have s2c := s2.below a2 (Nat.le_refl _)
  have bw3 := bw2.trans (a2.mono bw2.size)
  clear s1a s1b s2 b2 a2 k1 k1b bw1 bw2
  obtain ⟨p0, p1, p2, p3, p4, p5⟩ := six k1c
  go_wp2_with fail
  clear p0 p1 p2 p3 p4 p5
  generalize w2.alloc (.cells #[.int .i64 1, .slice A2 1 c2, .slice B2 1 d2, .int .i64 1, .slice (some ⟨gP2, 0, none⟩) 1 e2, .slice X2 1 f2] 29) = V2 at k2 k1c s1c s2c bw3 z2a ⊢
  refine (ses_eq V2 s2c (by omega) s1c (by omega)).mono ?_
  rintro e w3 ⟨rfl, b3⟩
  have z3 := b3.size
  have k13 := k1c.below b3
  have k23 := k2.below b3
  have s13 := s1c.below b3 (by omega)
  have s23 := s2c.below b3 (by omega)
  have bw4 := bw3.trans (b3.mono bw3.size)
  clear s1c s2c b3 bw3 k1c k2
  obtain ⟨p0, p1, p2, p3, p4, p5⟩ := six k23
  go_wp2_with fail
  clear p0 p1 p2 p3 p4 p5
  refine (laws_markSession1 V1.heap.size w2.heap.size A2 c2 B2 d2 gP2 e2 gQ2 q2 gR2 r2 X2 f2 0 1 1 1 1 n1 n2 n3 w3 s23 (by omega)).mono ?_
  rintro e w4 ⟨rfl, s24, t4⟩
  have z4 := t4.size
  have k14 := k13.touch t4 (.inl (by omega))
  have k24 := k23.touch t4 (.inr (by omega))
  have s14 := s13.same (t4.same (.inl (by omega)) (by omega))
  have bw5 := bw4.trans (t4.below (B := w.heap.size) (by omega) bw4.size)
  clear s23 t4 bw4 k13 k23
  obtain ⟨p0, p1, p2, p3, p4, p5⟩ := six k24
  go_wp2_with fail
  clear p0 p1 p2 p3 p4 p5
  refine (laws_heldSession1 V1.heap.size w2.heap.size A2 c2 B2 d2 gP2 e2 gQ2 q2 gR2 r2 X2 f2 n1 n2 n3 w4 s24 (by omega)).mono ?_
  rintro e w5 ⟨rfl, b5⟩
  have z5 := b5.size
  have k15 := k14.below b5
  have k25 := k24.below b5
  have s15 := s14.below b5 (by omega)
  have s25 := s24.below b5 (by omega)
  have bw6 := bw5.trans (b5.mono bw5.size)
  clear s14 s24 b5 bw5 k14 k24
  go_wp2_with fail
  refine (impl_NewSession mx w5 (HM.out _ bw6)).mono ?_
  rintro e w6 ⟨A3, c3, B3, d3, gP3, e3, gQ3, q3, gR3, r3, X3, f3, j1, j2, j3, rfl, s36, b6⟩
  have z6 := b6.size
  have k16 := k15.below b6
  have k26 := k25.below b6
  have s16 := s15.below b6 (by omega)
  have s26 := s25.below b6 (by omega)
  have bw7 := bw6.trans (b6.mono bw6.size)
  have a7 := below_alloc w6 (.cells #[.int .i64 1, .slice A3 1 c3, .slice B3 1 d3, .int .i64 1, .slice (some ⟨gP3, 0, none⟩) 1 e3, .slice X3 1 f3] 29)
  have z7 := a7.size
  have k17 := k16.below a7
  have k27 := k26.below a7
  have s17 := s16.below a7 (by omega)
  have s27 := s26.below a7 (by omega)
  have s37 := s36.below a7 (Nat.le_refl _)
  have bw8 := bw7.trans (a7.mono bw7.size)
  clear s15 s25 s16 s26 s36 b6 bw6 bw7 k15 k25 k16 k26 a7
  obtain ⟨p0, p1, p2, p3, p4, p5⟩ := six k17
  go_wp2_with fail
  clear p0 p1 p2 p3 p4 p5
  generalize w6.alloc (.cells #[.int .i64 1, .slice A3 1 c3, .slice B3 1 d3, .int .i64 1, .slice (some ⟨gP3, 0, none⟩) 1 e3, .slice X3 1 f3] 29) = V7 at k17 k27 s17 s27 s37 bw8 z7 ⊢
  refine (ses_eq V7 s37 (by omega) s17 (by omega)).mono ?_
  rintro e w8 ⟨rfl, b8⟩
  have z8 := b8.size
  have k28 := k27.below b8
  have s28 := s27.below b8 (by omega)
  have bw9 := bw8.trans (b8.mono bw8.size)
  clear s17 s27 s37 b8 bw8 k17 k27
  obtain ⟨p0, p1, p2, p3, p4, p5⟩ := six k28
  go_wp2_with fail
  clear p0 p1 p2 p3 p4 p5
  refine (laws_heldSession1 V1.heap.size w2.heap.size A2 c2 B2 d2 gP2 e2 gQ2 q2 gR2 r2 X2 f2 n1 n2 n3 w8 s28 (by omega)).mono ?_
  rintro e w9 ⟨rfl, b9⟩
  have BW := hide (bw9.trans (b9.mono bw9.size))
  go_wp2_with fail
  go_ret
  exact ⟨rfl, BW.out⟩

theorem own : ownKnob Tryz.prog.godebug = none := by kernel_rfl
theorem laidOut : laidOutB Tryz.prog = true := by kernel_rfl
set_option maxRecDepth 100000 in
theorem lifted (os : Os) (started : os.Started) (H : Type) (enc : TypeId × Value → H) :
    ReturnsInHanded {} Tryz.checked os 3 .any (fun w args => (Rows.fnExactNewSessionSpec.pre enc Tryz.prog Tryz.f3 [] false w args ∧ laidMetH Tryz.prog [("unicode/utf8.acceptRanges", Rows.laid_unicode_utf8_acceptRanges), ("unicode/utf8.first", Rows.laid_unicode_utf8_first)] w) ∧ sizedMet enc Tryz.prog Tryz.f3 (OpenSpec.ofChange Rows.fnExactNewSessionSpec) false w args) (Rows.fnExactNewSessionSpec.post enc Tryz.prog Tryz.f3 false true false false) := by
  refine returnsInHanded_of_calls own started (by kernel_rfl)
    (ChangeSpec.witness_shaped (enc := enc) (C := Tryz.checked) (os := os) (fn := Tryz.f3) (X := fun w _ => laidMetH Tryz.prog [("unicode/utf8.acceptRanges", Rows.laid_unicode_utf8_acceptRanges), ("unicode/utf8.first", Rows.laid_unicode_utf8_first)] w) false (laidWorld os) #[] 8 rfl (World.shaped_of_RefB (by kernel_rfl) (by kernel_rfl)) (by kernel_rfl) (by kernel_rfl) (by kernel_rfl) (laidWorld_met os _)) ?_
  intro w0 tape inp _ hsh _ hok hpre _
  obtain ⟨_, _, _, fn', hfn', _, _, _, _, hval0⟩ := hok
  obtain rfl : fn' = Tryz.f3 := Option.some.inj (hfn'.symm.trans Tryz.func3)
  obtain ⟨⟨⟨ds, gs, before, hW0, _⟩, _⟩, _⟩ := hpre
  have hW := DataW.Whole.of_heap (w' := w0.forCall tape inp) (by rfl) hW0
  obtain ⟨mx, hmx⟩ := max_cell hsh
  generalize w0.forCall tape inp = W at hW hval0 hmx ⊢
  generalize inp.args = args at hW hval0 ⊢
  refine (show Calls Tryz.prog 3 args W (fun e W' => ∃ v, e = .returned v ∧ Rows.fnExactNewSessionSpec.post enc Tryz.prog Tryz.f3 false true false false W args v W') from ?_).mono fun e W' ⟨v, he, hp⟩ => by subst he; exact ChangeSpec.post_blind hp
  have hval : ∀ (j : Nat) t v, Tryz.f3.params[j]? = some t → args[j]? = some v → Value.okWide Tryz.prog W .any _ t v := hval0
  clear hW0
  have hW' := hW
  obtain ⟨p, q, hA0, hV, rfl, hfz, hnd⟩ := hW
  have hA : DataW.TrodAll enc Tryz.prog W 0 (fun _ => true) true Tryz.f3.params.toList args.toList ds p := hA0
  rw [Tryz.params3] at hA hval
  obtain ⟨hargs, rfl, rfl⟩ := trodAll_nil hA
  obtain rfl : args = #[] := by cases args; simp_all
  obtain ⟨rfl, rfl⟩ := trodVars_none hV
  clear hA0 hval0
  refine (walk  mx W  hmx).mono fun e W' ⟨he, bel⟩ => ?_
  subst he
  exact ⟨_, rfl, _, _, _, [], _, [], hW', trodAll_mk1 (shut_bool Tryz.underlying4 _), trodAll_mk0, rfl, bel.frame _, fun h => by cases h⟩
theorem over : Rows.fnExactNewSessionRow.holds Tryz.pinned (OpenSpec.ofChange Rows.fnExactNewSessionSpec) :=
  OpenClaim.holds_of_wide 3 Tryz.f3 rfl rfl rfl rfl rfl rfl rfl ⟨rfl, rfl, rfl, rfl, rfl⟩ rfl rfl rfl rfl rfl (by kernel_rfl) Tryz.func3 (by kernel_rfl)
    (of_decide_eq_true (by kernel_rfl)) (by unfold Func.isWrapper; first | (rw [if_pos (by decide +kernel)]; kernel_rfl) | (rw [if_neg (by decide +kernel)]; exact ⟨rfl, rfl⟩))
    (fun os started H enc _ => lifted os started H enc)
theorem proved : Rows.FnExactNewSessionCardSaid :=
  Claim7.holds_tied_plain_at .later [] [.data, .pinned] true (true, "402d88097a3a5872b49ab04b890dd509d8d41a6d10567bc908360714623e84ee") false
    over (fun _ h => by cases h) (by kernel_rfl) (fun _ h => by cases h) fnExactNewSession_row_tie rfl ⟨rfl, rfl⟩ (by kernel_rfl) rfl
    (fun f fn hf hfn => by
      obtain rfl : f = 3 := Option.some.inj ((show Tryz.prog.funcNamed Rows.fnExactNewSessionRow.func = some 3 by kernel_rfl).symm.trans hf) |>.symm
      obtain rfl : fn = Tryz.f3 := (Option.some.inj (Tryz.func3.symm.trans hfn)).symm
      exact ⟨by kernel_rfl, fun j t ht => by
        have hm : t ∈ Tryz.f3.params.toList := by simpa using Array.mem_of_getElem? ht
        have hall : (Tryz.f3.params.toList.all fun u => !Tryz.prog.wantsStandIn u) = true := by kernel_rfl
        exact (show Tryz.prog.wantsStandIn t = false by simpa using List.all_eq_true.1 hall t hm)⟩)
    (by kernel_rfl)
#print axioms proved

end Go.Proofs.YtlfgbellhiifmaaGreatDoor.fnExactNewSession
