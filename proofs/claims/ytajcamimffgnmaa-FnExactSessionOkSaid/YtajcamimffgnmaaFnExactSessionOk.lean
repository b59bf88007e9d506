/- Proved here: for every input the statement FnExactSessionOk returns true, and its arguments read as before. No conditions. -/
import Derived.Test.YtajcamimffgnmaaSesTo
import Derived.Test.YtajcamimffgnmaaFrames
namespace Go.Proofs.Ytajcamimffgnmaa.fnExactSessionOk
open Go.ChangeShapes Go.WideShapes Go.ChangeAt Go.RowKit
set_option linter.unusedSimpArgs false
set_option linter.unusedVariables false
set_option maxRecDepth 20000

set_option maxRecDepth 100000 in
set_option maxHeartbeats 4000000 in
theorem walk (s : Int) (A : Option Addr) (n c : Nat) (us : List Int) (B : Option Addr) (m d : Nat) (vs : List Int) (o : Int) (P : Option Addr) (k e : Nat) (ps : List (List Mono)) (X : Option Addr) (x f : Nat) (xs : List Int) (w : World) (ha : Ints w 0 w.heap.size A n c us) (hb : Ints w 0 w.heap.size B m d vs) (hp : Mons2 w 0 w.heap.size P k e ps) (hx : Ints w 0 w.heap.size X x f xs) :
    Calls Try.prog 3 #[.agg #[.int .i64 s, .slice A n c, .slice B m d, .int .i64 o, .slice P k e, .slice X x f]] w fun r w' => r = .returned (.bool true) ∧ Below w.heap.size w w' := by
  have acp := ha.cap
  have amx := ha.max
  have bcp := hb.cap
  have bmx := hb.max
  have xcp := hx.cap
  have xmx := hx.max
  have pcp := hp.cap
  have pmx := hp.max
  have B0 := below_alloc w (.cells #[.int .i64 s, .slice A n c, .slice B m d, .int .i64 o, .slice P k e, .slice X x f] 29)
  have j0 := BlkN.new w #[.int .i64 s, .slice A n c, .slice B m d, .int .i64 o, .slice P k e, .slice X x f] 29
  go_enter Try.func3, Try.ntmps3
  go_wp2_with fail
  generalize w.alloc (.cells #[.int .i64 s, .slice A n c, .slice B m d, .int .i64 o, .slice P k e, .slice X x f] 29) = W at B0 j0 ⊢
  have z0 := B0.size
  have ha0 := ha.below B0 (Nat.le_refl _)
  have hb0 := hb.below B0 (Nat.le_refl _)
  have hp0 := hp.below B0 (Nat.le_refl _)
  have hx0 := hx.below B0 (Nat.le_refl _)
  clear ha hb hp hx
  refine (laws_szSession s A n c us B m d vs o P k e ps X x f xs 0 w.heap.size 1048576 W ha0 hb0 hp0 hx0 z0 (by omega) (by omega)).mono ?_
  rintro r w1 ⟨left, rfl, hs, b1⟩
  have j1 := j0.below b1
  have B1 := B0.trans (b1.mono z0)
  have z1 := B1.size
  have ha1 := ha0.below b1 (by omega)
  have hb1 := hb0.below b1 (by omega)
  have hp1 := hp0.below b1 (by omega)
  have hx1 := hx0.below b1 (by omega)
  clear ha0 hb0 hp0 hx0 b1 B0 j0
  by_cases hl : left < 0
  · go_wp2_with fail
    go_ret
    exact ⟨rfl, B1⟩
  · obtain ⟨hn, hm, hxx, hk, hr⟩ := hs (by omega)
    have HR := hide hr
    have HL : Hid (∀ p ∈ ps, ∀ m ∈ p, m.2.length ≤ 1048576) := fun p hp => (hr p hp).2
    clear hr hs
    have v0 : w1.cell? ⟨w.heap.size, 0, none⟩ = some (.int .i64 s) := j1.c 0 rfl
    have v1 : w1.cell? ⟨w.heap.size, 1, none⟩ = some (.slice A n c) := j1.c 1 rfl
    have v2 : w1.cell? ⟨w.heap.size, 2, none⟩ = some (.slice B m d) := j1.c 2 rfl
    have v3 : w1.cell? ⟨w.heap.size, 3, none⟩ = some (.int .i64 o) := j1.c 3 rfl
    have v4 : w1.cell? ⟨w.heap.size, 4, none⟩ = some (.slice P k e) := j1.c 4 rfl
    have v5 : w1.cell? ⟨w.heap.size, 5, none⟩ = some (.slice X x f) := j1.c 5 rfl
    go_wp2_with fail
    clear v0 v1 v2 v3 v4 v5
    refine (laws_toSession s A n c us B m d vs o P k e ps X x f xs 0 w.heap.size w1 ha1 hb1 hp1 hx1 z1 hn hm hxx hk HR.out).mono ?_
    rintro r w2 ⟨A1, c1, B1', d1, P1, e1, X1, f1, rfl, ia, ib, ip, ix, b2⟩
    have B2 := B1.trans (b2.mono z1)
    have z2 := B2.size
    have b2s := b2.size
    have j2 := j1.below b2
    have ha2 := ha1.below b2 (by omega)
    have hb2 := hb1.below b2 (by omega)
    have hp2 := hp1.below b2 (by omega)
    have hx2 := hx1.below b2 (by omega)
    clear ha1 hb1 hp1 hx1 j1 B1
    go_wp2_with fail
    refine (spec_SessionOk s A1 n c1 us B1' m d1 vs o P1 k e1 ps X1 x f1 xs w1.heap.size w2.heap.size w2 ia ib ip ix (Nat.le_refl _) HL.out).mono ?_
    rintro r w3 ⟨rfl, b3⟩
    clear ia ib ip ix
    have B3 := B2.trans (b3.mono z2)
    have z3 := B3.size
    have b3s := b3.size
    have j3 := j2.below b3
    have ha3 := ha2.below b3 (by omega)
    have hb3 := hb2.below b3 (by omega)
    have hp3 := hp2.below b3 (by omega)
    have hx3 := hx2.below b3 (by omega)
    clear ha2 hb2 hp2 hx2 j2 B2
    have v0 : w3.cell? ⟨w.heap.size, 0, none⟩ = some (.int .i64 s) := j3.c 0 rfl
    have v1 : w3.cell? ⟨w.heap.size, 1, none⟩ = some (.slice A n c) := j3.c 1 rfl
    have v2 : w3.cell? ⟨w.heap.size, 2, none⟩ = some (.slice B m d) := j3.c 2 rfl
    have v3 : w3.cell? ⟨w.heap.size, 3, none⟩ = some (.int .i64 o) := j3.c 3 rfl
    have v4 : w3.cell? ⟨w.heap.size, 4, none⟩ = some (.slice P k e) := j3.c 4 rfl
    have v5 : w3.cell? ⟨w.heap.size, 5, none⟩ = some (.slice X x f) := j3.c 5 rfl
    go_wp2_with fail
    clear v0 v1 v2 v3 v4 v5
    refine (laws_toSession s A n c us B m d vs o P k e ps X x f xs 0 w.heap.size w3 ha3 hb3 hp3 hx3 z3 hn hm hxx hk HR.out).mono ?_
    rintro r w4 ⟨A2, c2, B2', d2, P2, e2, X2, f2, rfl, ia, ib, ip, ix, b4⟩
    have B4 := B3.trans (b4.mono z3)
    have z4 := B4.size
    have b4s := b4.size
    have j4 := j3.below b4
    have ha4 := ha3.below b4 (by omega)
    have hb4 := hb3.below b4 (by omega)
    have hp4 := hp3.below b4 (by omega)
    have hx4 := hx3.below b4 (by omega)
    clear ha3 hb3 hp3 hx3 j3 B3
    have b5 := below_alloc w4 (.cells #[.int .i64 s, .slice A2 n c2, .slice B2' m d2, .int .i64 o, .slice P2 k e2, .slice X2 x f2] 37)
    have kk := BlkN.new w4 #[.int .i64 s, .slice A2 n c2, .slice B2' m d2, .int .i64 o, .slice P2 k e2, .slice X2 x f2] 37
    go_wp2_with fail
    generalize w4.alloc (.cells #[.int .i64 s, .slice A2 n c2, .slice B2' m d2, .int .i64 o, .slice P2 k e2, .slice X2 x f2] 37) = w5 at b5 kk ⊢
    have ia5 := ia.below b5 (Nat.le_refl _)
    have ib5 := ib.below b5 (Nat.le_refl _)
    have ip5 := ip.below b5 (Nat.le_refl _)
    have ix5 := ix.below b5 (Nat.le_refl _)
    clear ia ib ip ix
    have B5 := B4.trans (b5.mono z4)
    have z5 := B5.size
    have b5s := b5.size
    have j5 := j4.below b5
    have ha5 := ha4.below b5 (by omega)
    have hb5 := hb4.below b5 (by omega)
    have hp5 := hp4.below b5 (by omega)
    have hx5 := hx4.below b5 (by omega)
    clear ha4 hb4 hp4 hx4 j4 B4
    refine (impl_SessionOk s A2 n c2 us B2' m d2 vs o P2 k e2 ps X2 x f2 xs w3.heap.size w4.heap.size w5 ia5 ib5 ip5 ix5 b5s HL.out).mono ?_
    rintro r w6 ⟨rfl, b6⟩
    have kk6 := kk.below b6
    have ia6 := ia5.below b6 b5s
    have ib6 := ib5.below b6 b5s
    have ip6 := ip5.below b6 b5s
    have ix6 := ix5.below b6 b5s
    clear ia5 ib5 ip5 ix5
    have B6 := B5.trans (b6.mono z5)
    have z6 := B6.size
    have b6s := b6.size
    have j6 := j5.below b6
    have ha6 := ha5.below b6 (by omega)
    have hb6 := hb5.below b6 (by omega)
    have hp6 := hp5.below b6 (by omega)
    have hx6 := hx5.below b6 (by omega)
    clear ha5 hb5 hp5 hx5 j5 B5
    generalize sesF s us vs o ps xs = bb
    cases bb
    all_goals
      have d7 : Below w6.heap.size w6 w6.drew := (Below.refl _ _).drew
      have dz := d7.size
      have x7 := kk6.below d7
      have k7 := j6.below d7
      have B7 := B6.trans (d7.mono z6)
      have z7 := B7.size
      have ha7 := ha6.below d7 (by omega)
      have hb7 := hb6.below d7 (by omega)
      have hp7 := hp6.below d7 (by omega)
      have hx7 := hx6.below d7 (by omega)
      have ia7 := ia6.below d7 (by omega)
      have ib7 := ib6.below d7 (by omega)
      have ip7 := ip6.below d7 (by omega)
      have ix7 := ix6.below d7 (by omega)
      have p0 := kk6.c 0 rfl
      have r0 := j6.c 0 rfl
      have p1 := kk6.c 1 rfl
      have r1 := j6.c 1 rfl
      have p2 := kk6.c 2 rfl
      have r2 := j6.c 2 rfl
      have p3 := kk6.c 3 rfl
      have r3 := j6.c 3 rfl
      have p4 := kk6.c 4 rfl
      have r4 := j6.c 4 rfl
      have p5 := kk6.c 5 rfl
      have r5 := j6.c 5 rfl
      go_wp2_with fail
      go_region_held3 (fun w' => w'.cell? ⟨w4.heap.size, 0, none⟩ = some (.int .i64 s) ∧ w'.cell? ⟨w4.heap.size, 1, none⟩ = some (.slice A2 n c2) ∧ w'.cell? ⟨w4.heap.size, 2, none⟩ = some (.slice B2' m d2) ∧ w'.cell? ⟨w4.heap.size, 3, none⟩ = some (.int .i64 o) ∧ w'.cell? ⟨w4.heap.size, 4, none⟩ = some (.slice P2 k e2) ∧ w'.cell? ⟨w4.heap.size, 5, none⟩ = some (.slice X2 x f2) ∧ w'.cell? ⟨w.heap.size, 0, none⟩ = some (.int .i64 s) ∧ w'.cell? ⟨w.heap.size, 1, none⟩ = some (.slice A n c) ∧ w'.cell? ⟨w.heap.size, 2, none⟩ = some (.slice B m d) ∧ w'.cell? ⟨w.heap.size, 3, none⟩ = some (.int .i64 o) ∧ w'.cell? ⟨w.heap.size, 4, none⟩ = some (.slice P k e) ∧ w'.cell? ⟨w.heap.size, 5, none⟩ = some (.slice X x f)) (first | exact ⟨p0, p1, p2, p3, p4, p5, r0, r1, r2, r3, r4, r5⟩ | exact ⟨x8.c 0 rfl, x8.c 1 rfl, x8.c 2 rfl, x8.c 3 rfl, x8.c 4 rfl, x8.c 5 rfl, k8.c 0 rfl, k8.c 1 rfl, k8.c 2 rfl, k8.c 3 rfl, k8.c 4 rfl, k8.c 5 rfl⟩ | exact ⟨x9.c 0 rfl, x9.c 1 rfl, x9.c 2 rfl, x9.c 3 rfl, x9.c 4 rfl, x9.c 5 rfl, k9.c 0 rfl, k9.c 1 rfl, k9.c 2 rfl, k9.c 3 rfl, k9.c 4 rfl, k9.c 5 rfl⟩ | go_keep)
        (first
          | (go_at_call 6; refine (laws_toSession s A n c us B m d vs o P k e ps X x f xs 0 w.heap.size w6.drew ha7 hb7 hp7 hx7 z7 hn hm hxx hk HR.out).mono ?_; rintro r w8 ⟨A3, c3, B3', d3, P3, e3, X3, f3, rfl, qa, qb, qp, qx, b8⟩; have x8 := x7.below b8; have k8 := k7.below b8; have y8 := b8.size)
          | (go_at_call 8; refine (laws_eqSession s A2 n c2 us B2' m d2 vs o P2 k e2 ps X2 x f2 xs w3.heap.size w4.heap.size w8 (ia7.below b8 (by omega)) (ib7.below b8 (by omega)) (ip7.below b8 (by omega)) (ix7.below b8 (by omega)) (by omega) A3 c3 B3' d3 P3 e3 X3 f3 w6.drew.heap.size w8.heap.size qa qb qp qx (Nat.le_refl _)).mono ?_; rintro r w9 ⟨rfl, b9⟩; have x9 := x8.below b9; have k9 := k8.below b9))
      have HB := B7.trans ((b8.trans (b9.mono y8)).mono (by omega))
      go_wp2_with fail
      go_ret
      exact ⟨rfl, HB⟩

section
variable {H : Type} {enc : TypeId × Value → H} {W : World} {sp : Nat → Bool} {held : Bool} {fuel : Nat} {cs : List Value} {x : DataW H × List MemPlace}
theorem cells_mono (h : DataW.trod enc Try.prog W 0 sp held fuel 72 cs = some x) : ∃ a B k d xs, cs = [.int .i64 a, .slice B k d] ∧ R64 a ∧ Ints W 0 W.heap.size B k d xs := by
  obtain ⟨ys, n, _, _, hl, hn, hf⟩ := DataW.trod_struct Try.underlying72 h
  have hl2 : cs.length = 2 := hl.trans (by kernel_rfl)
  match cs, hl2 with
  | [c0, c1], _ =>
    have hn2 : ys.length = 2 := hn
    have h0 := hf 0 _ rfl
    have h1 := hf 1 _ rfl
    have e0 : ([c0, c1].drop 0).take (Try.prog.cellsOf 3) = [c0] := by rw [show Try.prog.cellsOf 3 = 1 from by kernel_rfl]; rfl
    have e1 : ([c0, c1].drop 1).take (Try.prog.cellsOf 22) = [c1] := by rw [show Try.prog.cellsOf 22 = 1 from by kernel_rfl]; rfl
    rw [List.getElem?_eq_getElem (by omega)] at h0 h1
    obtain ⟨a, ha, _, wa⟩ := DataW.trod_int Try.underlying3 ((congrArg _ e0).symm.trans h0)
    obtain ⟨B, k, d, xs, hb, hi⟩ := cells_ints ((congrArg _ e1).symm.trans h1)
    simp at ha hb
    exact ⟨a, B, k, d, xs, by rw [ha, hb], r64_of_wf wa, hi⟩
theorem cells_monos (h : DataW.trod enc Try.prog W 0 sp held fuel 64 cs = some x) : ∃ A n c ms, cs = [.slice A n c] ∧ Mons W 0 W.heap.size A n c ms := by
  obtain ⟨A, n, c, ms, rfl, h1, h2, h3, h4⟩ := open_elems (C := 2) Try.underlying64 (by kernel_rfl) (by omega) (fun (m : Mono) (cs : List Value) => ∃ B k d, cs = [.int .i64 m.1, .slice B k d] ∧ R64 m.1 ∧ Ints W 0 W.heap.size B k d m.2)
    (fun fuel cs x hx => by
      obtain ⟨a, B, k, d, xs, e, ra, hi⟩ := cells_mono hx
      exact ⟨(a, xs), B, k, d, e, ra, hi⟩) h
  refine ⟨A, n, c, ms, rfl, h1, h2, h3, fun hn => ?_⟩
  obtain ⟨ad, rfl, hb, hat⟩ := h4 hn
  refine ⟨ad, rfl, Nat.zero_le _, hb, fun j m hj => ?_⟩
  obtain ⟨cs', ⟨B, k, d, rfl, ra, hi⟩, _, hc⟩ := hat j m hj
  exact ⟨hc 0 (by omega), ra, B, k, d, hc 1 (by omega), hi⟩
theorem cells_monoss (h : DataW.trod enc Try.prog W 0 sp held fuel 25 cs = some x) : ∃ A n c ps, cs = [.slice A n c] ∧ Mons2 W 0 W.heap.size A n c ps := by
  obtain ⟨A, n, c, ms, rfl, h1, h2, h3, h4⟩ := open_elems (C := 1) Try.underlying25 (by kernel_rfl) (by omega) (fun (m : List Mono) (cs : List Value) => ∃ B k d, cs = [.slice B k d] ∧ Mons W 0 W.heap.size B k d m)
    (fun fuel cs x hx => by
      obtain ⟨B, k, d, xs, e, hi⟩ := cells_monos hx
      exact ⟨xs, B, k, d, e, hi⟩) h
  refine ⟨A, n, c, ms, rfl, h1, h2, h3, fun hn => ?_⟩
  obtain ⟨ad, rfl, hb, hat⟩ := h4 hn
  refine ⟨ad, rfl, Nat.zero_le _, hb, fun j m hj => ?_⟩
  obtain ⟨cs', ⟨B, k, d, rfl, hi⟩, _, hc⟩ := hat j m hj
  have h0 := hc 0 (by omega)
  rw [Nat.mul_one, Addr.add_zero'] at h0
  exact ⟨B, k, d, h0, hi⟩
theorem cells_field (h : DataW.trod enc Try.prog W 0 sp held fuel 27 cs = some x) : ∃ o P k e ps, cs = [.int .i64 o, .slice P k e] ∧ Mons2 W 0 W.heap.size P k e ps := by
  obtain ⟨ys, n, _, _, hl, hn, hf⟩ := DataW.trod_struct Try.underlying27 h
  have hl2 : cs.length = 2 := hl.trans (by kernel_rfl)
  match cs, hl2 with
  | [c0, c1], _ =>
    have hn2 : ys.length = 2 := hn
    have h0 := hf 0 _ rfl
    have h1 := hf 1 _ rfl
    have e0 : ([c0, c1].drop 0).take (Try.prog.cellsOf 3) = [c0] := by rw [show Try.prog.cellsOf 3 = 1 from by kernel_rfl]; rfl
    have e1 : ([c0, c1].drop 1).take (Try.prog.cellsOf 25) = [c1] := by rw [show Try.prog.cellsOf 25 = 1 from by kernel_rfl]; rfl
    rw [List.getElem?_eq_getElem (by omega)] at h0 h1
    obtain ⟨a, ha, _, wa⟩ := DataW.trod_int Try.underlying3 ((congrArg _ e0).symm.trans h0)
    obtain ⟨B, k, d, xs, hb, hi⟩ := cells_monoss ((congrArg _ e1).symm.trans h1)
    simp at ha hb
    exact ⟨a, B, k, d, xs, by rw [ha, hb], hi⟩
theorem cells_tabl (h : DataW.trod enc Try.prog W 0 sp held fuel 24 cs = some x) : ∃ s A n c xs B m d ys, cs = [.int .i64 s, .slice A n c, .slice B m d] ∧ Ints W 0 W.heap.size A n c xs ∧ Ints W 0 W.heap.size B m d ys := by
  obtain ⟨ys, n, _, _, hl, hn, hf⟩ := DataW.trod_struct Try.underlying24 h
  have hl2 : cs.length = 3 := hl.trans (by kernel_rfl)
  match cs, hl2 with
  | [c0, c1, c2], _ =>
    have hn2 : ys.length = 3 := hn
    have h0 := hf 0 _ rfl
    have h1 := hf 1 _ rfl
    have h2 := hf 2 _ rfl
    have e0 : ([c0, c1, c2].drop 0).take (Try.prog.cellsOf 3) = [c0] := by rw [show Try.prog.cellsOf 3 = 1 from by kernel_rfl]; rfl
    have e1 : ([c0, c1, c2].drop 1).take (Try.prog.cellsOf 22) = [c1] := by rw [show Try.prog.cellsOf 22 = 1 from by kernel_rfl]; rfl
    have e2 : ([c0, c1, c2].drop 2).take (Try.prog.cellsOf 22) = [c2] := by rw [show Try.prog.cellsOf 22 = 1 from by kernel_rfl]; rfl
    rw [List.getElem?_eq_getElem (by omega)] at h0 h1 h2
    obtain ⟨a, ha, _, wa⟩ := DataW.trod_int Try.underlying3 ((congrArg _ e0).symm.trans h0)
    obtain ⟨A, n1, c, xs, hb, hi⟩ := cells_ints ((congrArg _ e1).symm.trans h1)
    obtain ⟨B, m, d, zs, hb2, hi2⟩ := cells_ints ((congrArg _ e2).symm.trans h2)
    simp at ha hb hb2
    exact ⟨a, A, n1, c, xs, B, m, d, zs, by rw [ha, hb, hb2], hi, hi2⟩
theorem cells_ses (h : DataW.trod enc Try.prog W 0 sp held fuel 29 cs = some x) : ∃ s A n c us B m d vs o P k e ps X x f xs, cs = [.int .i64 s, .slice A n c, .slice B m d, .int .i64 o, .slice P k e, .slice X x f] ∧ Ints W 0 W.heap.size A n c us ∧ Ints W 0 W.heap.size B m d vs ∧ Mons2 W 0 W.heap.size P k e ps ∧ Ints W 0 W.heap.size X x f xs := by
  obtain ⟨ys, n, _, _, hl, hn, hf⟩ := DataW.trod_struct Try.underlying29 h
  have hl2 : cs.length = 6 := hl.trans (by kernel_rfl)
  match cs, hl2 with
  | [c0, c1, c2, c3, c4, c5], _ =>
    have hn2 : ys.length = 3 := hn
    have h0 := hf 0 _ rfl
    have h1 := hf 1 _ rfl
    have h2 := hf 2 _ rfl
    have e0 : ([c0, c1, c2, c3, c4, c5].drop 0).take (Try.prog.cellsOf 24) = [c0, c1, c2] := by rw [show Try.prog.cellsOf 24 = 3 from by kernel_rfl]; rfl
    have e1 : ([c0, c1, c2, c3, c4, c5].drop 3).take (Try.prog.cellsOf 27) = [c3, c4] := by rw [show Try.prog.cellsOf 27 = 2 from by kernel_rfl]; rfl
    have e2 : ([c0, c1, c2, c3, c4, c5].drop 5).take (Try.prog.cellsOf 22) = [c5] := by rw [show Try.prog.cellsOf 22 = 1 from by kernel_rfl]; rfl
    rw [List.getElem?_eq_getElem (by omega)] at h0 h1 h2
    obtain ⟨s, A, n1, c, xs, B, m, d, zs, q, i1, i2⟩ := cells_tabl ((congrArg _ e0).symm.trans h0)
    obtain ⟨o, P, k, e, ps, q', i3⟩ := cells_field ((congrArg _ e1).symm.trans h1)
    obtain ⟨X, x, f, us, q2, i4⟩ := cells_ints ((congrArg _ e2).symm.trans h2)
    simp at q q' q2
    obtain ⟨rfl, rfl, rfl⟩ := q
    obtain ⟨rfl, rfl⟩ := q'
    subst q2
    exact ⟨_, _, _, _, _, _, _, _, _, _, _, _, _, _, _, _, _, _, rfl, i1, i2, i3, i4⟩
theorem open_pses {v : Value} {d : DataW H} {p : List MemPlace} (h : DataW.Trod enc Try.prog W 0 sp held 29 v d p) (hv : ∃ cs, v = .agg cs) : ∃ s A n c us B m d vs o P k e ps X x f xs, v = .agg #[.int .i64 s, .slice A n c, .slice B m d, .int .i64 o, .slice P k e, .slice X x f] ∧ Ints W 0 W.heap.size A n c us ∧ Ints W 0 W.heap.size B m d vs ∧ Mons2 W 0 W.heap.size P k e ps ∧ Ints W 0 W.heap.size X x f xs := by
  obtain ⟨m, hm⟩ := h
  obtain ⟨cs, rfl⟩ := hv
  obtain ⟨s, A, n, c, us, B, m, d, vs, o, P, k, e, ps, X, x, f, xs, he, hi⟩ := cells_ses hm
  refine ⟨s, A, n, c, us, B, m, d, vs, o, P, k, e, ps, X, x, f, xs, ?_, hi⟩
  simp [Value.cells] at he
  exact congrArg Value.agg (Array.ext' (by simpa using he))
end
theorem own : ownKnob Try.prog.godebug = none := by kernel_rfl
theorem laidOut : laidOutB Try.prog = true := by kernel_rfl
set_option maxRecDepth 100000 in
theorem lifted (os : Os) (started : os.Started) (H : Type) (enc : TypeId × Value → H) :
    ReturnsInHanded {} Try.checked os 3 .any (Rows.fnExactSessionOkSpec.pre6 enc Try.prog Try.f3 Rows.fnExactSessionOkRow.domain false) (Rows.fnExactSessionOkSpec.post enc Try.prog Try.f3 false true false false) := by
  refine returnsInHanded_of_change (C := Try.checked) own started (by kernel_rfl) Try.func3
    (ChangeSpec.witness6 (enc := enc) (C := Try.checked) false ⟨#[], #[.agg #[.int .i64 0, .slice none 0 0, .slice none 0 0, .int .i64 0, .slice none 0 0, .slice none 0 0]], []⟩ 8 (by kernel_rfl) (by kernel_rfl) (by kernel_rfl) (by kernel_rfl)) ?_
  intro W base args ds gs before hval0 hW hcnd _
  have hval : ∀ (j : Nat) t v, Try.f3.params[j]? = some t → args[j]? = some v → Value.okWide Try.prog W .any base t v := hval0
  have hW' := hW
  obtain ⟨p, q, hA0, hV, rfl, hfz, hnd⟩ := hW
  have hA : DataW.TrodAll enc Try.prog W 0 (fun _ => true) true Try.f3.params.toList args.toList ds p := hA0
  rw [Try.params3] at hA hval
  obtain ⟨v0, vs0, d0, ds0, p0, q0, hargs, rfl, rfl, h0, t0⟩ := trodAll_cons hA
  obtain ⟨rfl, rfl, rfl⟩ := trodAll_nil t0
  obtain rfl : args = #[v0] := by cases args; simp_all
  obtain ⟨rfl, rfl⟩ := trodVars_none hV
  have k0 := h0
  have lt0 : ∀ x ∈ p0, x.block < W.heap.size := by obtain ⟨m, hm⟩ := k0; exact DataW.trod_lt m _ _ _ hm
  obtain ⟨s_0, A_0, n_0, c_0, us_0, B_0, m_0, d_0, vs_0, o_0, P_0, k_0, e_0, ps_0, X_0, x_0, f_0, xs_0, rfl, iA0, iB0, iC0, iD0⟩ := open_pses h0 (by obtain ⟨cs, hcs, _⟩ := okWide_struct Try.underlying29 (hval 0 29 v0 rfl rfl); exact ⟨cs, hcs⟩)
  clear hA0 hval0
  refine (walk s_0 A_0 n_0 c_0 us_0 B_0 m_0 d_0 vs_0 o_0 P_0 k_0 e_0 ps_0 X_0 x_0 f_0 xs_0 W iA0 iB0 iC0 iD0).mono fun e W' ⟨he, bel⟩ => ?_
  subst he
  exact ⟨_, rfl, _, _, _, [], _, [], hW', trodAll_mk1 (shut_bool Try.underlying4 _), (trodAll_cons_mk (Below.trod laidOut (by kernel_rfl) (of_decide_eq_true (by kernel_rfl)) k0 bel lt0) trodAll_mk0), rfl, bel.frame _, fun h => by cases h⟩
theorem over : Rows.fnExactSessionOkRow.holds Try.pinned (OpenSpec.ofChange Rows.fnExactSessionOkSpec) :=
  OpenClaim.holds_of_wide 3 Try.f3 rfl rfl rfl rfl rfl rfl rfl ⟨rfl, rfl, rfl, rfl, rfl⟩ rfl rfl rfl rfl rfl (by kernel_rfl) Try.func3 (by kernel_rfl)
    (of_decide_eq_true (by kernel_rfl)) (by unfold Func.isWrapper; first | (rw [if_pos (by decide +kernel)]; kernel_rfl) | (rw [if_neg (by decide +kernel)]; exact ⟨rfl, rfl⟩))
    (fun os started H enc _ => lifted os started H enc)
theorem proved : Rows.FnExactSessionOkSaid := over
#print axioms proved

end Go.Proofs.Ytajcamimffgnmaa.fnExactSessionOk
