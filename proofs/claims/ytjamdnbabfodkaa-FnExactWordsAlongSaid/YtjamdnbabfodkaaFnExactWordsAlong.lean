/- Proved here: for every input the statement FnExactWordsAlong returns true, and its arguments read as before. No conditions. -/
import Derived.Test.YtjamdnbabfodkaaSoZ
import Derived.Test.YtjamdnbabfodkaaWordsL
import Derived.Test.YtjamdnbabfodkaaMgH
import Derived.Test.YtjamdnbabfodkaaFrames
namespace Go.Proofs.Ytjamdnbabfodkaa.fnExactWordsAlong
open Go.ChangeShapes Go.WideShapes Go.ChangeAt Go.RowKit
set_option linter.unusedSimpArgs false
set_option linter.unusedVariables false
set_option maxRecDepth 20000

theorem drewN_below (wr : World) (q : Nat) : Below wr.heap.size wr (wr.drewN q) := below_drewN (Below.refl _ _) q
theorem envDrew {w wr : World} {va vf vg : Array Value} (h : EnvW w wr va vf vg) : EnvW w wr.drew va vf vg := h.keep (Below.refl _ _).drew
/-- the arguments' boxes and what the reference says -/
structure StA (w wr : World) (va vf vg : Array Value) (z : Nat) (W0 : Option Addr) (n0 c0 : Nat) (res : List (List Int)) : Prop where
  env : EnvW w wr va vf vg
  ref : Ints2 wr 0 z W0 n0 c0 res
  zl : w.heap.size + 3 ≤ z
  zw : z ≤ wr.heap.size
theorem StA.below {w wr w' : World} {va vf vg : Array Value} {z : Nat} {W0 : Option Addr} {n0 c0 : Nat} {res : List (List Int)} (h : StA w wr va vf vg z W0 n0 c0 res) {N : Nat} (hb : Below N wr w') (hN : z ≤ N) : StA w w' va vf vg z W0 n0 c0 res :=
  ⟨h.env.below hb (by have := h.zl; omega), h.ref.below hb hN, h.zl, by have := hb.size; have := h.zw; omega⟩
theorem StA.touch {w wr w' : World} {va vf vg : Array Value} {z : Nat} {W0 : Option Addr} {n0 c0 : Nat} {res : List (List Int)} (h : StA w wr va vf vg z W0 n0 c0 res) {lo hi : Nat} (ht : Touch lo hi wr w') (hl : z ≤ lo) : StA w w' va vf vg z W0 n0 c0 res :=
  h.below (ht.below hl h.zw) (Nat.le_refl _)
/-- the call's own copies of the arguments -/
structure StX (wr : World) (p0 g0 f0 g1 h0 g2 y0 hi : Nat) (o : Int) (A1 : Option Addr) (nt a1 : Nat) (ts : List Int) (df : Int) (F1 : Option Addr) (kf e1 : Nat) (ps : List (List Mono)) (dg : Int) (G1 : Option Addr) (kg e2 : Nat) (qs : List (List Mono)) (Y1 : Option Addr) (my d1 : Nat) (ys : List Int) (v0 v1 v2 : Array Value) : Prop where
  wo : OwnI wr p0 g0 A1 nt a1 ts
  b0 : BlkN wr g0 v0
  fi : Ros kM 54 wr f0 g1 F1 kf e1 ps
  b1 : BlkN wr g1 v1
  gi : Ros kM 54 wr h0 g2 G1 kg e2 qs
  b2 : BlkN wr g2 v2
  yi : OwnI wr y0 hi Y1 my d1 ys
  ord : p0 ≤ g0 ∧ g0 < f0 ∧ f0 ≤ g1 ∧ g1 < h0 ∧ h0 ≤ g2 ∧ g2 < y0 ∧ y0 ≤ hi
  hw : hi ≤ wr.heap.size
theorem StX.below {wr w' : World} {p0 g0 f0 g1 h0 g2 y0 hi : Nat} {o : Int} {A1 : Option Addr} {nt a1 : Nat} {ts : List Int} {df : Int} {F1 : Option Addr} {kf e1 : Nat} {ps : List (List Mono)} {dg : Int} {G1 : Option Addr} {kg e2 : Nat} {qs : List (List Mono)} {Y1 : Option Addr} {my d1 : Nat} {ys : List Int} {v0 v1 v2 : Array Value} (h : StX wr p0 g0 f0 g1 h0 g2 y0 hi o A1 nt a1 ts df F1 kf e1 ps dg G1 kg e2 qs Y1 my d1 ys v0 v1 v2) {N : Nat} (hb : Below N wr w') (hN : hi ≤ N) : StX w' p0 g0 f0 g1 h0 g2 y0 hi o A1 nt a1 ts df F1 kf e1 ps dg G1 kg e2 qs Y1 my d1 ys v0 v1 v2 := by
  obtain ⟨o1, o2, o3, o4, o5, o6, o7⟩ := h.ord
  exact ⟨h.wo.below hb (by omega), h.b0.same (hb.block _ (by omega)), h.fi.below hb (by omega), h.b1.same (hb.block _ (by omega)), h.gi.below hb (by omega), h.b2.same (hb.block _ (by omega)), h.yi.below hb (by omega), h.ord, by have := hb.size; have := h.hw; omega⟩

section
variable {H : Type} {enc : TypeId × Value → H} {W : World} {sp : Nat → Bool} {held : Bool} {fuel : Nat} {cs : List Value} {x : DataW H × List MemPlace}
theorem cells_mono (h : DataW.trod enc Try.prog W 0 sp held fuel 86 cs = some x) : ∃ a B k d xs, cs = [.int .i64 a, .slice B k d] ∧ R64 a ∧ Ints W 0 W.heap.size B k d xs := by
  obtain ⟨ys, n, _, _, hl, hn, hf⟩ := DataW.trod_struct Try.underlying86 h
  have hl2 : cs.length = 2 := hl.trans (by kernel_rfl)
  match cs, hl2 with
  | [c0, c1], _ =>
    have hn2 : ys.length = 2 := hn
    have h0 := hf 0 _ rfl
    have h1 := hf 1 _ rfl
    have e0 : ([c0, c1].drop 0).take (Try.prog.cellsOf 3) = [c0] := by rw [show Try.prog.cellsOf 3 = 1 from by kernel_rfl]; rfl
    have e1 : ([c0, c1].drop 1).take (Try.prog.cellsOf 22) = [c1] := by rw [show Try.prog.cellsOf 22 = 1 from by kernel_rfl]; rfl
    rw [List.getElem?_eq_getElem (by omega)] at h0 h1
    obtain ⟨a, ha, _, wa⟩ := DataW.trod_int Try.underlying3 ((congrArg _ e0).symm.trans h0)
    obtain ⟨B, k, d, xs, hb, hi⟩ := cells_ints ((congrArg _ e1).symm.trans h1)
    simp at ha hb
    exact ⟨a, B, k, d, xs, by rw [ha, hb], r64_of_wf wa, hi⟩
theorem cells_monos (h : DataW.trod enc Try.prog W 0 sp held fuel 69 cs = some x) : ∃ A n c ms, cs = [.slice A n c] ∧ Mons W 0 W.heap.size A n c ms := by
  obtain ⟨A, n, c, ms, rfl, h1, h2, h3, h4⟩ := open_elems (C := 2) Try.underlying69 (by kernel_rfl) (by omega) (fun (m : Mono) (cs : List Value) => ∃ B k d, cs = [.int .i64 m.1, .slice B k d] ∧ R64 m.1 ∧ Ints W 0 W.heap.size B k d m.2)
    (fun fuel cs x hx => by
      obtain ⟨a, B, k, d, xs, e, ra, hi⟩ := cells_mono hx
      exact ⟨(a, xs), B, k, d, e, ra, hi⟩) h
  refine ⟨A, n, c, ms, rfl, h1, h2, h3, fun hn => ?_⟩
  obtain ⟨ad, rfl, hb, hat⟩ := h4 hn
  refine ⟨ad, rfl, Nat.zero_le _, hb, fun j m hj => ?_⟩
  obtain ⟨cs', ⟨B, k, d, rfl, ra, hi⟩, _, hc⟩ := hat j m hj
  exact ⟨hc 0 (by omega), ra, B, k, d, hc 1 (by omega), hi⟩
theorem cells_monoss (h : DataW.trod enc Try.prog W 0 sp held fuel 25 cs = some x) : ∃ A n c ps, cs = [.slice A n c] ∧ Mons2 W 0 W.heap.size A n c ps := by
  obtain ⟨A, n, c, ms, rfl, h1, h2, h3, h4⟩ := open_elems (C := 1) Try.underlying25 (by kernel_rfl) (by omega) (fun (m : List Mono) (cs : List Value) => ∃ B k d, cs = [.slice B k d] ∧ Mons W 0 W.heap.size B k d m)
    (fun fuel cs x hx => by
      obtain ⟨B, k, d, xs, e, hi⟩ := cells_monos hx
      exact ⟨xs, B, k, d, e, hi⟩) h
  refine ⟨A, n, c, ms, rfl, h1, h2, h3, fun hn => ?_⟩
  obtain ⟨ad, rfl, hb, hat⟩ := h4 hn
  refine ⟨ad, rfl, Nat.zero_le _, hb, fun j m hj => ?_⟩
  obtain ⟨cs', ⟨B, k, d, rfl, hi⟩, _, hc⟩ := hat j m hj
  have h0 := hc 0 (by omega)
  rw [Nat.mul_one, Addr.add_zero'] at h0
  exact ⟨B, k, d, h0, hi⟩
theorem cells_field (h : DataW.trod enc Try.prog W 0 sp held fuel 27 cs = some x) : ∃ o P k e ps, cs = [.int .i64 o, .slice P k e] ∧ Mons2 W 0 W.heap.size P k e ps := by
  obtain ⟨ys, n, _, _, hl, hn, hf⟩ := DataW.trod_struct Try.underlying27 h
  have hl2 : cs.length = 2 := hl.trans (by kernel_rfl)
  match cs, hl2 with
  | [c0, c1], _ =>
    have hn2 : ys.length = 2 := hn
    have h0 := hf 0 _ rfl
    have h1 := hf 1 _ rfl
    have e0 : ([c0, c1].drop 0).take (Try.prog.cellsOf 3) = [c0] := by rw [show Try.prog.cellsOf 3 = 1 from by kernel_rfl]; rfl
    have e1 : ([c0, c1].drop 1).take (Try.prog.cellsOf 25) = [c1] := by rw [show Try.prog.cellsOf 25 = 1 from by kernel_rfl]; rfl
    rw [List.getElem?_eq_getElem (by omega)] at h0 h1
    obtain ⟨a, ha, _, wa⟩ := DataW.trod_int Try.underlying3 ((congrArg _ e0).symm.trans h0)
    obtain ⟨B, k, d, xs, hb, hi⟩ := cells_monoss ((congrArg _ e1).symm.trans h1)
    simp at ha hb
    exact ⟨a, B, k, d, xs, by rw [ha, hb], hi⟩
theorem open_pfield {v : Value} {d : DataW H} {p : List MemPlace} (h : DataW.Trod enc Try.prog W 0 sp held 27 v d p) (hv : ∃ cs, v = .agg cs) : ∃ o P k e ps, v = .agg #[.int .i64 o, .slice P k e] ∧ Mons2 W 0 W.heap.size P k e ps := by
  obtain ⟨m, hm⟩ := h
  obtain ⟨cs, rfl⟩ := hv
  obtain ⟨o, P, k, e, ps, he, hi⟩ := cells_field hm
  refine ⟨o, P, k, e, ps, ?_, hi⟩
  simp [Value.cells] at he
  exact congrArg Value.agg (Array.ext' (by simpa using he))
end

set_option maxRecDepth 100000 in
set_option maxHeartbeats 16000000 in
theorem walk (o : Int) (TA : Option Addr) (nt ct : Nat) (ts : List Int) (df : Int) (F : Option Addr) (kf ef : Nat) (ps : List (List Mono)) (dg : Int) (G : Option Addr) (kg eg : Nat) (qs : List (List Mono)) (Y : Option Addr) (my dy : Nat) (ys : List Int) (w : World) (h : Ints w 0 w.heap.size TA nt ct ts) (_hs : R64 o) (hf : Mons2 w 0 w.heap.size F kf ef ps) (hg : Mons2 w 0 w.heap.size G kg eg qs) (hy : Ints w 0 w.heap.size Y my dy ys) :
    Calls Try.prog 3 #[.agg #[.int .i64 o, .slice TA nt ct], .agg #[.int .i64 df, .slice F kf ef], .agg #[.int .i64 dg, .slice G kg eg], .slice Y my dy] w fun e w' => e = .returned (.bool true) ∧ Below w.heap.size w w' := by
  have q1 := h.cap
  have q2 := h.max
  have q3 := hf.cap
  have q4 := hf.max
  have q5 := hg.cap
  have q6 := hg.max
  have q7 := hy.cap
  have q8 := hy.max
  have E0 := EnvW.start w #[.int .i64 o, .slice TA nt ct] #[.int .i64 df, .slice F kf ef] #[.int .i64 dg, .slice G kg eg] 24 27 27
  by_cases hcl : 1048576 < my
  · go_enter Try.func3, Try.ntmps3
    go_wp2_with fail
    go_ret
    exact ⟨rfl, E0.low⟩
  have hcl' : my ≤ 1048576 := by omega
  clear hcl
  go_enter Try.func3, Try.ntmps3
  have u0 := E0.ba.c 0 rfl
  have u1 := E0.ba.c 1 rfl
  go_wp2_with fail
  clear u0 u1
  generalize ((w.alloc (.cells #[.int .i64 o, .slice TA nt ct] 24)).alloc (.cells #[.int .i64 df, .slice F kf ef] 27)).alloc (.cells #[.int .i64 dg, .slice G kg eg] 27) = W0 at E0 ⊢
  refine (laws_szWords o TA nt ct 1048576 W0 (by omega) (by omega) (by omega)).mono ?_
  by_cases hs1 : (1048576 : Int) - (nt : Int) < 0
  · have hF0 : szF nt 1048576 = -1 := if_pos hs1
    rw [hF0]
    rintro r w1 ⟨rfl, hb⟩
    have E1 := E0.keep hb
    go_wp2_with fail
    go_ret
    exact ⟨rfl, E1.low⟩
  have hF0 : szF nt 1048576 = 1048576 - nt := if_neg hs1
  rw [hF0]
  rintro r w1 ⟨rfl, hb⟩
  have hnt : nt ≤ 1048576 := by omega
  have E1 := E0.keep hb
  clear hb E0 hF0
  have f0 := E1.bf.c 0 rfl
  have f1 := E1.bf.c 1 rfl
  go_wp2_with fail
  clear f0 f1
  refine (laws_szField df F kf ef ps 0 w.heap.size (1048576 - nt) w1 (hf.below E1.low (Nat.le_refl _)) E1.low.size (by omega) (by omega)).mono ?_
  rintro r w2 ⟨l2, rfl, ⟨hs2, hs3, hs4⟩, hb⟩
  have E2 := E1.keep hb
  clear hb E1
  by_cases hs5 : l2 < 0
  · go_wp2_with fail
    go_ret
    exact ⟨rfl, E2.low⟩
  obtain ⟨hkf, hps⟩ := hs4 (by omega)
  have HPS := hide hps
  have hl2 : l2 ≤ 1048576 := by omega
  clear hs2 hs3 hs4 hps
  have f0 := E2.bg.c 0 rfl
  have f1 := E2.bg.c 1 rfl
  go_wp2_with fail
  clear f0 f1
  refine (laws_szField dg G kg eg qs 0 w.heap.size l2 w2 (hg.below E2.low (Nat.le_refl _)) E2.low.size (by omega) hl2).mono ?_
  rintro r w3 ⟨l3, rfl, ⟨hs2, hs3, hs4⟩, hb⟩
  have E3 := E2.keep hb
  clear hb E2
  by_cases hs6 : l3 < 0
  · go_wp2_with fail
    go_ret
    exact ⟨rfl, E3.low⟩
  obtain ⟨hkg, hqs⟩ := hs4 (by omega)
  have HQS := hide hqs
  clear hs2 hs3 hs4 hqs
  have HKP := hide fun p hp m hm => (HPS.out p hp).2 m hm
  have HKQ := hide fun p hp m hm => (HQS.out p hp).2 m hm
  have HT := hide h
  have HF := hide hf
  have HG := hide hg
  have HY := hide hy
  have HCC := hide fun (w' : World) (q : EnvW w w' #[.int .i64 o, .slice TA nt ct] #[.int .i64 df, .slice F kf ef] #[.int .i64 dg, .slice G kg eg]) => show w'.cell? ⟨w.heap.size, 0, none⟩ = some (.int .i64 o) ∧ w'.cell? ⟨w.heap.size, 1, none⟩ = some (.slice TA nt ct) ∧ w'.cell? ⟨w.heap.size + 1, 0, none⟩ = some (.int .i64 df) ∧ w'.cell? ⟨w.heap.size + 1, 1, none⟩ = some (.slice F kf ef) ∧ w'.cell? ⟨w.heap.size + 1 + 1, 0, none⟩ = some (.int .i64 dg) ∧ w'.cell? ⟨w.heap.size + 1 + 1, 1, none⟩ = some (.slice G kg eg) from ⟨q.ba.c 0 rfl, q.ba.c 1 rfl, q.bf.c 0 rfl, q.bf.c 1 rfl, q.bg.c 0 rfl, q.bg.c 1 rfl⟩
  have T0 := HCC.out _ E3
  have e0 := hide (envDrew E3)
  have T1 := hide (HCC.out _ e0.out)
  have z0 := e0.out.low.size
  have z02 := e0.out.size
  clear h hf hg hy E3 hs5 hl2
  have HTW := hide (laws_toWords o TA nt ct ts 0 w.heap.size w3.drew (HT.out.below e0.out.low (Nat.le_refl _)) z0 hnt)
  go_wp2_with fail
  go_region_held3 (fun w' => w'.cell? ⟨w.heap.size, 0, none⟩ = some (.int .i64 o) ∧ w'.cell? ⟨w.heap.size, 1, none⟩ = some (.slice TA nt ct) ∧ w'.cell? ⟨w.heap.size + 1, 0, none⟩ = some (.int .i64 df) ∧ w'.cell? ⟨w.heap.size + 1, 1, none⟩ = some (.slice F kf ef) ∧ w'.cell? ⟨w.heap.size + 1 + 1, 0, none⟩ = some (.int .i64 dg) ∧ w'.cell? ⟨w.heap.size + 1 + 1, 1, none⟩ = some (.slice G kg eg)) (first | exact T1.out | exact T0 | exact Ta1 | exact Ta2 | exact Ta3 | exact Ta4 | exact Ta5 | go_keep)
    (first
      | (go_at_call 7; refine HTW.out.mono ?_; rintro r ta1 ⟨Aa, aa, rfl, oAa, bba1⟩; have ea1 := hide (e0.out.below bba1 (by omega)); have Ta1 := HCC.out _ ea1.out; have za1 := bba1.size; have HAa := hide (oAa.ints.wide (lo' := 0) (hi' := ta1.heap.size) (Nat.zero_le _) (Nat.le_refl _)); have BBa1 := hide bba1; have HTF := hide (laws_toFieldO df F kf ef ps 0 w.heap.size ta1 (HF.out.below ea1.out.low (Nat.le_refl _)) (by omega) hkf HPS.out); clear HTW oAa bba1)
      | (go_at_call 8; refine HTF.out.mono ?_; rintro r ta2 ⟨Fa, efa, rfl, oFa, bba2⟩; have ea2 := hide (ea1.out.below bba2 (by omega)); have Ta2 := HCC.out _ ea2.out; have za2 := bba2.size; have HAa2 := hide (HAa.out.below bba2 (Nat.le_refl _)); have HFa := hide (oFa.mons2.wide (lo' := 0) (hi' := ta2.heap.size) (Nat.zero_le _) (Nat.le_refl _)); have BBa2 := hide (BBa1.out.trans (bba2.mono za1)); have HTG := hide (laws_toFieldO dg G kg eg qs 0 w.heap.size ta2 (HG.out.below ea2.out.low (Nat.le_refl _)) (by omega) hkg HQS.out); clear HTF HAa oFa bba2)
      | (go_at_call 8; refine HTG.out.mono ?_; rintro r ta3 ⟨Ga, ega, rfl, oGa, bba3⟩; have ea3 := hide (ea2.out.below bba3 (by omega)); have Ta3 := HCC.out _ ea3.out; have za3 := bba3.size; have HAa3 := hide (HAa2.out.below bba3 (by omega)); have HFa3 := hide (HFa.out.below bba3 (Nat.le_refl _)); have HGa := hide (oGa.mons2.wide (lo' := 0) (hi' := ta3.heap.size) (Nat.zero_le _) (Nat.le_refl _)); have BBa3 := hide (BBa2.out.trans (bba3.mono (by omega))); have HTY := hide (laws_toIntS Y my dy ys 0 w.heap.size ta3 (HY.out.below ea3.out.low (Nat.le_refl _)) (by omega) hcl'); clear HTG HAa2 HFa oGa bba3)
      | (go_at_call 9; refine HTY.out.mono ?_; rintro r ta4 ⟨Ya, dya, rfl, oYa, bba4⟩; have ea4 := hide (ea3.out.below bba4 (by omega)); have Ta4 := HCC.out _ ea4.out; have za4 := bba4.size; have HAa4 := hide ((HAa3.out.below bba4 (by omega)).wide (lo' := 0) (hi' := ta4.heap.size) (Nat.le_refl _) (by omega)); have HFa4 := hide ((HFa3.out.below bba4 (by omega)).wide (lo' := 0) (hi' := ta4.heap.size) (Nat.le_refl _) (by omega)); have HGa4 := hide ((HGa.out.below bba4 (Nat.le_refl _)).wide (lo' := 0) (hi' := ta4.heap.size) (Nat.le_refl _) (by omega)); have HYa := hide (oYa.ints.wide (lo' := 0) (hi' := ta4.heap.size) (Nat.zero_le _) (Nat.le_refl _)); have BBa4 := hide (BBa3.out.trans (bba4.mono (by omega))); have HCA := hide (spec_WordsAlong_all o Aa nt aa ts df Fa kf efa ps dg Ga kg ega qs Ya my dya ys ta4 HAa4.out HFa4.out HGa4.out HYa.out HKP.out HKQ.out); clear HTY HAa3 HFa3 HGa oYa bba4)
      | (go_at_call 6; refine HCA.out.mono ?_; rintro r ta5 ⟨Ra, naR, caR, rfl, oRa, bba5⟩; have ea5 := hide (ea4.out.below bba5 (by omega)); have Ta5 := HCC.out _ ea5.out; have za5 := bba5.size; have BBa5 := hide (BBa4.out.trans (bba5.mono (by omega))); have SA := hide (show StA w ta5 #[.int .i64 o, .slice TA nt ct] #[.int .i64 df, .slice F kf ef] #[.int .i64 dg, .slice G kg eg] ta5.heap.size Ra naR caR (wordsAl o ts df ps dg qs ys) from ⟨ea5.out, oRa.wide2 (Nat.zero_le _) (Nat.le_refl _), ea5.out.size, Nat.le_refl _⟩); clear HCA HAa4 HFa4 HGa4 HYa bba5))
  clear Ta1 Ta2 Ta3 Ta4 Ta5 ea1 ea2 ea3 ea4 BBa1 BBa2 BBa3 BBa4
  clear T0 T1 e0 oRa BBa5
  obtain ⟨z, hz1⟩ : ∃ z, z = ta5.heap.size := ⟨_, rfl⟩
  rw [← hz1] at SA
  have hz : z ≤ ta5.heap.size := by omega
  have hzw : w.heap.size + 3 ≤ z := by have := ea5.out.size; omega
  clear hz1 ea5
  have u0 := SA.out.env.ba.c 0 rfl
  have u1 := SA.out.env.ba.c 1 rfl
  go_wp2_with fail
  clear u0 u1
  refine (laws_toWords o TA nt ct ts 0 w.heap.size ta5 (HT.out.below SA.out.env.low (Nat.le_refl _)) SA.out.env.low.size hnt).mono ?_
  rintro r v1 ⟨A1, a1, rfl, oA, b1⟩
  have y1 := b1.size
  replace SA := hide (SA.out.below b1 hz)
  have j0 := hide (BlkN.new v1 #[.int .i64 o, .slice A1 nt a1] 32)
  have x0 := below_alloc v1 (.cells #[.int .i64 o, .slice A1 nt a1] 32)
  have y2 : v1.heap.size < (v1.alloc (.cells #[.int .i64 o, .slice A1 nt a1] 32)).heap.size := by simp
  replace SA := hide (SA.out.below x0 (by omega))
  have HWo := hide (oA.below x0 (Nat.le_refl _))
  clear oA b1 x0
  have u0 := SA.out.env.bf.c 0 rfl
  have u1 := SA.out.env.bf.c 1 rfl
  go_wp2_with fail
  clear u0 u1
  generalize v1.alloc (.cells #[.int .i64 o, .slice A1 nt a1] 32) = v2 at j0 y2 SA HWo ⊢
  obtain ⟨p0, hp0⟩ : ∃ p, p = ta5.heap.size := ⟨_, rfl⟩
  rw [← hp0] at HWo
  have zp0 : z ≤ p0 := by omega
  obtain ⟨g0, hg0⟩ : ∃ p, p = v1.heap.size := ⟨_, rfl⟩
  rw [← hg0] at HWo j0 ⊢
  have p0g0 : p0 ≤ g0 := by omega
  have g0v2 : g0 < v2.heap.size := by omega
  clear hp0 hg0 y1 y2
  refine (laws_toFieldO df F kf ef ps 0 w.heap.size v2 (HF.out.below SA.out.env.low (Nat.le_refl _)) SA.out.env.low.size hkf HPS.out).mono ?_
  rintro r v3 ⟨F1, e1, rfl, oP, b3⟩
  have y3 := b3.size
  replace SA := hide (SA.out.below b3 (by omega))
  replace j0 := hide (j0.out.below b3)
  replace HWo := hide (HWo.out.below b3 (by omega))
  have j1 := hide (BlkN.new v3 #[.int .i64 df, .slice F1 kf e1] 36)
  have a3 := below_alloc v3 (.cells #[.int .i64 df, .slice F1 kf e1] 36)
  have y4 : v3.heap.size < (v3.alloc (.cells #[.int .i64 df, .slice F1 kf e1] 36)).heap.size := by simp
  replace SA := hide (SA.out.below a3 (by omega))
  replace j0 := hide (j0.out.below a3)
  replace HWo := hide (HWo.out.below a3 (by omega))
  have HFi := hide (oP.below a3 (Nat.le_refl _))
  clear oP b3 a3
  have u0 := SA.out.env.bg.c 0 rfl
  have u1 := SA.out.env.bg.c 1 rfl
  go_wp2_with fail
  clear u0 u1
  generalize v3.alloc (.cells #[.int .i64 df, .slice F1 kf e1] 36) = v4 at j0 j1 y4 SA HWo HFi ⊢
  obtain ⟨f0, hf0⟩ : ∃ p, p = v2.heap.size := ⟨_, rfl⟩
  rw [← hf0] at HFi
  have g0f0 : g0 < f0 := by omega
  obtain ⟨g1, hg1⟩ : ∃ p, p = v3.heap.size := ⟨_, rfl⟩
  rw [← hg1] at HFi j1 ⊢
  have f0g1 : f0 ≤ g1 := by omega
  have g1v4 : g1 < v4.heap.size := by omega
  have g0v4 : g0 < v4.heap.size := by omega
  clear hf0 hg1 y3 y4 g0v2
  refine (laws_toFieldO dg G kg eg qs 0 w.heap.size v4 (HG.out.below SA.out.env.low (Nat.le_refl _)) SA.out.env.low.size hkg HQS.out).mono ?_
  rintro r v5 ⟨G1, e2, rfl, oP, b5⟩
  have y5 := b5.size
  replace SA := hide (SA.out.below b5 (by omega))
  replace j0 := hide (j0.out.below b5)
  replace j1 := hide (j1.out.below b5)
  replace HWo := hide (HWo.out.below b5 (by omega))
  replace HFi := hide (HFi.out.below b5 (by omega))
  have j2 := hide (BlkN.new v5 #[.int .i64 dg, .slice G1 kg e2] 36)
  have a5 := below_alloc v5 (.cells #[.int .i64 dg, .slice G1 kg e2] 36)
  have y6 : v5.heap.size < (v5.alloc (.cells #[.int .i64 dg, .slice G1 kg e2] 36)).heap.size := by simp
  replace SA := hide (SA.out.below a5 (by omega))
  replace j0 := hide (j0.out.below a5)
  replace j1 := hide (j1.out.below a5)
  replace HWo := hide (HWo.out.below a5 (by omega))
  replace HFi := hide (HFi.out.below a5 (by omega))
  have HGi := hide (oP.below a5 (Nat.le_refl _))
  clear oP b5 a5
  go_wp2_with fail
  generalize v5.alloc (.cells #[.int .i64 dg, .slice G1 kg e2] 36) = v6 at j0 j1 j2 y6 SA HWo HFi HGi ⊢
  obtain ⟨h0, hh0⟩ : ∃ p, p = v4.heap.size := ⟨_, rfl⟩
  rw [← hh0] at HGi
  have g1h0 : g1 < h0 := by omega
  obtain ⟨g2, hg2⟩ : ∃ p, p = v5.heap.size := ⟨_, rfl⟩
  rw [← hg2] at HGi j2 ⊢
  have h0g2 : h0 ≤ g2 := by omega
  have g2v6 : g2 < v6.heap.size := by omega
  clear hh0 hg2 y5 y6 g0v4 g1v4
  refine (laws_toIntS Y my dy ys 0 w.heap.size v6 (HY.out.below SA.out.env.low (Nat.le_refl _)) SA.out.env.low.size hcl').mono ?_
  rintro r v7 ⟨Y1, d1, rfl, oY, b7⟩
  have y7 := b7.size
  replace SA := hide (SA.out.below b7 (by omega))
  replace j0 := hide (j0.out.below b7)
  replace j1 := hide (j1.out.below b7)
  replace j2 := hide (j2.out.below b7)
  replace HWo := hide (HWo.out.below b7 (by omega))
  replace HFi := hide (HFi.out.below b7 (by omega))
  replace HGi := hide (HGi.out.below b7 (by omega))
  have SX := hide (⟨HWo.out, j0.out, HFi.out, j1.out, HGi.out, j2.out, oY, ⟨p0g0, g0f0, f0g1, g1h0, h0g2, g2v6, y7⟩, Nat.le_refl _⟩ : StX v7 p0 g0 f0 g1 h0 g2 v6.heap.size v7.heap.size o A1 nt a1 ts df F1 kf e1 ps dg G1 kg e2 qs Y1 my d1 ys #[.int .i64 o, .slice A1 nt a1] #[.int .i64 df, .slice F1 kf e1] #[.int .i64 dg, .slice G1 kg e2])
  obtain ⟨yy, hyy⟩ : ∃ p, p = v6.heap.size := ⟨_, rfl⟩
  obtain ⟨hi, hhi⟩ : ∃ p, p = v7.heap.size := ⟨_, rfl⟩
  rw [← hyy, ← hhi] at SX
  have zhi : z ≤ hi := by omega
  have hv7 : hi ≤ v7.heap.size := by omega
  clear hyy hhi j0 j1 j2 HWo HFi HGi oY b7 y7 g2v6
  have u0 := SX.out.b0.c 0 rfl
  have u1 := SX.out.b0.c 1 rfl
  have t0 := SX.out.b1.c 0 rfl
  have t1 := SX.out.b1.c 1 rfl
  have s0 := SX.out.b2.c 0 rfl
  have s1 := SX.out.b2.c 1 rfl
  go_wp2_with fail
  clear u0 u1
  clear t0 t1
  clear s0 s1
  refine (impl_WordsAlong_all o A1 nt a1 ts df F1 kf e1 ps dg G1 kg e2 qs Y1 my d1 ys v7 (SX.out.wo.ints.wide (Nat.zero_le _) (by have := SX.out.ord; have := SX.out.hw; omega)) (SX.out.fi.mons2.wide (Nat.zero_le _) (by have := SX.out.ord; have := SX.out.hw; omega)) (SX.out.gi.mons2.wide (Nat.zero_le _) (by have := SX.out.ord; have := SX.out.hw; omega)) (SX.out.yi.ints.wide (Nat.zero_le _) (by have := SX.out.ord; have := SX.out.hw; omega)) HKP.out HKQ.out).mono ?_
  rintro r v8 ⟨Rg, ng, cg, rfl, oG, b8⟩
  have y8 := b8.size
  replace SA := hide (SA.out.below b8 (by omega))
  replace SX := hide (SX.out.below b8 hv7)
  obtain ⟨r0, hr0⟩ : ∃ p, p = v7.heap.size := ⟨_, rfl⟩
  have SG := hide oG
  rw [← hr0] at SG
  have hir0 : hi ≤ r0 := by omega
  have r0v8 : r0 ≤ v8.heap.size := by omega
  clear hr0 oG b8 y8 hv7
  obtain ⟨res, hres⟩ : ∃ res, res = (wordsAl o ts df ps dg qs ys) := ⟨_, rfl⟩
  have htot : totS res ≤ 1000000 := by rw [hres]; exact SG.out.tot
  rw [← hres] at SA SG
  obtain ⟨r1, hr1⟩ : ∃ p, p = v8.heap.size := ⟨_, rfl⟩
  rw [← hr1] at SG
  have r0r1 : r0 ≤ r1 := by omega
  have r1v8 : r1 ≤ v8.heap.size := by omega
  have hresH := hide hres
  clear hr1 hres r0v8

  have zv8 : z ≤ v8.heap.size := SA.out.zw
  have hv8 : hi ≤ v8.heap.size := SX.out.hw
  go_wp2_with fail
  refine (laws_eqIntSS Rg ng cg res r0 r1 Ra naR caR res 0 z v8 SG.out.ints2 SA.out.ref).mono ?_
  rw [decide_eq_true (rfl : res = res)]
  rintro r v9 ⟨rfl, nq8, rfl⟩
  have bq8 := drewN_below v8 nq8
  replace SA := hide (SA.out.below bq8 (by omega))
  replace SX := hide (SX.out.below bq8 (by omega))
  replace SG := hide (SG.out.below bq8 (by omega))
  have r1v9 : r1 ≤ (v8.drewN nq8).heap.size := r1v8
  generalize v8.drewN nq8 = v9 at SA SX SG r1v9 ⊢
  clear bq8 zv8 hv8 r1v8
  have HCa := hide fun (w' : World) (q : EnvW w w' #[.int .i64 o, .slice TA nt ct] #[.int .i64 df, .slice F kf ef] #[.int .i64 dg, .slice G kg eg]) (q2 : BlkN w' g0 #[.int .i64 o, .slice A1 nt a1]) => show w'.cell? ⟨w.heap.size, 0, none⟩ = some (.int .i64 o) ∧ w'.cell? ⟨w.heap.size, 1, none⟩ = some (.slice TA nt ct) ∧ w'.cell? ⟨g0, 0, none⟩ = some (.int .i64 o) ∧ w'.cell? ⟨g0, 1, none⟩ = some (.slice A1 nt a1) from ⟨q.ba.c 0 rfl, q.ba.c 1 rfl, q2.c 0 rfl, q2.c 1 rfl⟩
  have zva : z ≤ v9.heap.size := SA.out.zw
  have hva : hi ≤ v9.heap.size := SX.out.hw
  have Taa := HCa.out _ SA.out.env SX.out.b0
  replace SA := hide (SA.out.below ((Below.refl v9.heap.size v9).drew) (by omega))
  replace SX := hide (SX.out.below ((Below.refl v9.heap.size v9).drew) (by omega))
  replace SG := hide (SG.out.below ((Below.refl v9.heap.size v9).drew) (by omega))
  have Tab := hide (HCa.out _ SA.out.env SX.out.b0)
  have zda : v9.heap.size ≤ v9.drew.heap.size := Nat.le_refl _
  have HTP := hide (laws_toWords o TA nt ct ts 0 w.heap.size v9.drew (HT.out.below SA.out.env.low (Nat.le_refl _)) SA.out.env.low.size hnt)
  go_wp2_with fail
  go_region_held3 (fun w' => w'.cell? ⟨w.heap.size, 0, none⟩ = some (.int .i64 o) ∧ w'.cell? ⟨w.heap.size, 1, none⟩ = some (.slice TA nt ct) ∧ w'.cell? ⟨g0, 0, none⟩ = some (.int .i64 o) ∧ w'.cell? ⟨g0, 1, none⟩ = some (.slice A1 nt a1)) (first | exact Tab.out | exact Taa | exact Ta1 | exact Ta2 | go_keep)
    (first
      | (go_at_call 7; refine HTP.out.mono ?_; rintro r xa ⟨Pa, ca, rfl, oa, bb1⟩; have za1 := bb1.size; replace SA := hide (SA.out.below bb1 (by omega)); replace SX := hide (SX.out.below bb1 (by omega)); replace SG := hide (SG.out.below bb1 (by omega)); have Ta1 := HCa.out _ SA.out.env SX.out.b0; have hEQ := laws_eqWords o A1 nt a1 ts 0 xa.heap.size o Pa nt ca ts 0 xa.heap.size xa (SX.out.wo.ints.wide (Nat.zero_le _) (by have := SX.out.ord; have := SX.out.hw; omega)) (oa.ints.wide (Nat.zero_le _) (Nat.le_refl _)) (Nat.le_refl _) (Nat.le_refl _); rw [decide_eq_true (rfl : (o, ts) = (o, ts))] at hEQ; have HEQ := hide hEQ; clear HTP hEQ oa bb1)
      | (go_at_call 12; refine HEQ.out.mono ?_; rintro r v10 ⟨rfl, bb2⟩; have za2 := bb2.size; replace SA := hide (SA.out.below bb2 (by omega)); replace SX := hide (SX.out.below bb2 (by omega)); replace SG := hide (SG.out.below bb2 (by omega)); have Ta2 := HCa.out _ SA.out.env SX.out.b0; clear HEQ bb2))
  have r1v10 : r1 ≤ v10.heap.size := by omega
  clear Ta1 Ta2 Taa Tab HCa za1 za2 zda r1v9 zva hva
  have HCf := hide fun (w' : World) (q : EnvW w w' #[.int .i64 o, .slice TA nt ct] #[.int .i64 df, .slice F kf ef] #[.int .i64 dg, .slice G kg eg]) (q2 : BlkN w' g1 #[.int .i64 df, .slice F1 kf e1]) => show w'.cell? ⟨w.heap.size + 1, 0, none⟩ = some (.int .i64 df) ∧ w'.cell? ⟨w.heap.size + 1, 1, none⟩ = some (.slice F kf ef) ∧ w'.cell? ⟨g1, 0, none⟩ = some (.int .i64 df) ∧ w'.cell? ⟨g1, 1, none⟩ = some (.slice F1 kf e1) from ⟨q.bf.c 0 rfl, q.bf.c 1 rfl, q2.c 0 rfl, q2.c 1 rfl⟩
  have zvf : z ≤ v10.heap.size := SA.out.zw
  have hvf : hi ≤ v10.heap.size := SX.out.hw
  have Tfa := HCf.out _ SA.out.env SX.out.b1
  replace SA := hide (SA.out.below ((Below.refl v10.heap.size v10).drew) (by omega))
  replace SX := hide (SX.out.below ((Below.refl v10.heap.size v10).drew) (by omega))
  replace SG := hide (SG.out.below ((Below.refl v10.heap.size v10).drew) (by omega))
  have Tfb := hide (HCf.out _ SA.out.env SX.out.b1)
  have zdf : v10.heap.size ≤ v10.drew.heap.size := Nat.le_refl _
  have HTP := hide (laws_toFieldO df F kf ef ps 0 w.heap.size v10.drew (HF.out.below SA.out.env.low (Nat.le_refl _)) SA.out.env.low.size hkf HPS.out)
  go_wp2_with fail
  go_region_held3 (fun w' => w'.cell? ⟨w.heap.size + 1, 0, none⟩ = some (.int .i64 df) ∧ w'.cell? ⟨w.heap.size + 1, 1, none⟩ = some (.slice F kf ef) ∧ w'.cell? ⟨g1, 0, none⟩ = some (.int .i64 df) ∧ w'.cell? ⟨g1, 1, none⟩ = some (.slice F1 kf e1)) (first | exact Tfb.out | exact Tfa | exact Tf1 | exact Tf2 | go_keep)
    (first
      | (go_at_call 8; refine HTP.out.mono ?_; rintro r xf ⟨Pf, cf, rfl, of, bb1⟩; have zf1 := bb1.size; replace SA := hide (SA.out.below bb1 (by omega)); replace SX := hide (SX.out.below bb1 (by omega)); replace SG := hide (SG.out.below bb1 (by omega)); have Tf1 := HCf.out _ SA.out.env SX.out.b1; have hEQ := laws_eqField df F1 kf e1 ps 0 xf.heap.size df Pf kf cf ps 0 xf.heap.size xf (SX.out.fi.mons2.wide (Nat.zero_le _) (by have := SX.out.ord; have := SX.out.hw; omega)) (of.mons2.wide (Nat.zero_le _) (Nat.le_refl _)) (Nat.le_refl _) (Nat.le_refl _); rw [decide_eq_true (rfl : df = df), decide_eq_true (rfl : ps = ps)] at hEQ; have HEQ := hide hEQ; clear HTP hEQ of bb1)
      | (go_at_call 13; refine HEQ.out.mono ?_; rintro r v11 ⟨rfl, bb2⟩; have zf2 := bb2.size; replace SA := hide (SA.out.below bb2 (by omega)); replace SX := hide (SX.out.below bb2 (by omega)); replace SG := hide (SG.out.below bb2 (by omega)); have Tf2 := HCf.out _ SA.out.env SX.out.b1; clear HEQ bb2))
  have r1v11 : r1 ≤ v11.heap.size := by omega
  clear Tf1 Tf2 Tfa Tfb HCf zf1 zf2 zdf r1v10 zvf hvf
  have HCg := hide fun (w' : World) (q : EnvW w w' #[.int .i64 o, .slice TA nt ct] #[.int .i64 df, .slice F kf ef] #[.int .i64 dg, .slice G kg eg]) (q2 : BlkN w' g2 #[.int .i64 dg, .slice G1 kg e2]) => show w'.cell? ⟨w.heap.size + 1 + 1, 0, none⟩ = some (.int .i64 dg) ∧ w'.cell? ⟨w.heap.size + 1 + 1, 1, none⟩ = some (.slice G kg eg) ∧ w'.cell? ⟨g2, 0, none⟩ = some (.int .i64 dg) ∧ w'.cell? ⟨g2, 1, none⟩ = some (.slice G1 kg e2) from ⟨q.bg.c 0 rfl, q.bg.c 1 rfl, q2.c 0 rfl, q2.c 1 rfl⟩
  have zvg : z ≤ v11.heap.size := SA.out.zw
  have hvg : hi ≤ v11.heap.size := SX.out.hw
  have Tga := HCg.out _ SA.out.env SX.out.b2
  replace SA := hide (SA.out.below ((Below.refl v11.heap.size v11).drew) (by omega))
  replace SX := hide (SX.out.below ((Below.refl v11.heap.size v11).drew) (by omega))
  replace SG := hide (SG.out.below ((Below.refl v11.heap.size v11).drew) (by omega))
  have Tgb := hide (HCg.out _ SA.out.env SX.out.b2)
  have zdg : v11.heap.size ≤ v11.drew.heap.size := Nat.le_refl _
  have HTP := hide (laws_toFieldO dg G kg eg qs 0 w.heap.size v11.drew (HG.out.below SA.out.env.low (Nat.le_refl _)) SA.out.env.low.size hkg HQS.out)
  go_wp2_with fail
  go_region_held3 (fun w' => w'.cell? ⟨w.heap.size + 1 + 1, 0, none⟩ = some (.int .i64 dg) ∧ w'.cell? ⟨w.heap.size + 1 + 1, 1, none⟩ = some (.slice G kg eg) ∧ w'.cell? ⟨g2, 0, none⟩ = some (.int .i64 dg) ∧ w'.cell? ⟨g2, 1, none⟩ = some (.slice G1 kg e2)) (first | exact Tgb.out | exact Tga | exact Tg1 | exact Tg2 | go_keep)
    (first
      | (go_at_call 8; refine HTP.out.mono ?_; rintro r xg ⟨Pg, cg', rfl, og, bb1⟩; have zg1 := bb1.size; replace SA := hide (SA.out.below bb1 (by omega)); replace SX := hide (SX.out.below bb1 (by omega)); replace SG := hide (SG.out.below bb1 (by omega)); have Tg1 := HCg.out _ SA.out.env SX.out.b2; have hEQ := laws_eqField dg G1 kg e2 qs 0 xg.heap.size dg Pg kg cg' qs 0 xg.heap.size xg (SX.out.gi.mons2.wide (Nat.zero_le _) (by have := SX.out.ord; have := SX.out.hw; omega)) (og.mons2.wide (Nat.zero_le _) (Nat.le_refl _)) (Nat.le_refl _) (Nat.le_refl _); rw [decide_eq_true (rfl : dg = dg), decide_eq_true (rfl : qs = qs)] at hEQ; have HEQ := hide hEQ; clear HTP hEQ og bb1)
      | (go_at_call 13; refine HEQ.out.mono ?_; rintro r v12 ⟨rfl, bb2⟩; have zg2 := bb2.size; replace SA := hide (SA.out.below bb2 (by omega)); replace SX := hide (SX.out.below bb2 (by omega)); replace SG := hide (SG.out.below bb2 (by omega)); have Tg2 := HCg.out _ SA.out.env SX.out.b2; clear HEQ bb2))
  have r1v12 : r1 ≤ v12.heap.size := by omega
  clear Tg1 Tg2 Tga Tgb HCg zg1 zg2 zdg r1v11 zvg hvg
  have zv12 : z ≤ v12.heap.size := SA.out.zw
  have hv12 : hi ≤ v12.heap.size := SX.out.hw
  go_wp2_with fail
  refine (laws_toIntS Y my dy ys 0 w.heap.size v12 (HY.out.below SA.out.env.low (Nat.le_refl _)) SA.out.env.low.size hcl').mono ?_
  rintro r v13 ⟨C3, cc3, rfl, oC3, b13⟩
  have y13 := b13.size
  replace SA := hide (SA.out.below b13 (by omega))
  replace SX := hide (SX.out.below b13 (by omega))
  replace SG := hide (SG.out.below b13 (by omega))
  clear b13
  go_wp2_with fail
  refine (laws_eqIntS Y1 my d1 ys yy hi C3 my cc3 ys v12.heap.size v13.heap.size v13 SX.out.yi.ints oC3.ints).mono ?_
  rw [decide_eq_true (rfl : ys = ys)]
  rintro r v14 ⟨rfl, nq14, rfl⟩
  have bq14 := drewN_below v13 nq14
  replace SA := hide (SA.out.below bq14 (by omega))
  replace SX := hide (SX.out.below bq14 (by omega))
  replace SG := hide (SG.out.below bq14 (by omega))
  have r1v14 : r1 ≤ (v13.drewN nq14).heap.size := (by show r1 ≤ v13.heap.size; omega)
  generalize v13.drewN nq14 = v14 at SA SX SG r1v14 ⊢
  clear bq14 oC3 y13 r1v12 zv12 hv12
  have u0 := SX.out.b0.c 0 rfl
  have u1 := SX.out.b0.c 1 rfl
  go_wp2_with fail
  clear u0 u1
  have hord := hide SX.out.ord
  have hvx := SX.out.hw
  have hk60 : 1048576 * (1048576 * (1 + 1048576)) = 1152922604118474752 := by decide
  have hbtf : totMM ps ≤ 1048576 * (1048576 * (1 + 1048576)) := by
    have t1 := totMM_bd (C := 1048576 * (1 + 1048576)) ps (fun p hp => Nat.le_trans (totM_bd (C := 1048576) p (fun m hm => (HPS.out p hp).2 m hm)) (Nat.mul_le_mul_right _ (HPS.out p hp).1))
    have t2 := SX.out.fi.len
    rw [t2] at t1
    exact Nat.le_trans t1 (Nat.mul_le_mul_right _ (by omega))
  obtain ⟨tf, htf'⟩ : ∃ tm, tm = totMM ps := ⟨_, rfl⟩
  rw [← htf'] at hbtf
  have htf := hide htf'
  clear htf'
  rw [hk60] at hbtf
  have hbtg : totMM qs ≤ 1048576 * (1048576 * (1 + 1048576)) := by
    have t1 := totMM_bd (C := 1048576 * (1 + 1048576)) qs (fun p hp => Nat.le_trans (totM_bd (C := 1048576) p (fun m hm => (HQS.out p hp).2 m hm)) (Nat.mul_le_mul_right _ (HQS.out p hp).1))
    have t2 := SX.out.gi.len
    rw [t2] at t1
    exact Nat.le_trans t1 (Nat.mul_le_mul_right _ (by omega))
  obtain ⟨tg, htg'⟩ : ∃ tm, tm = totMM qs := ⟨_, rfl⟩
  rw [← htg'] at hbtg
  have htg := hide htg'
  clear htg'
  rw [hk60] at hbtg
  clear hk60
  refine (laws_markWords o A1 nt a1 ts p0 g0 1 v14 SX.out.wo (by have := hord.out; omega) (by omega) (by omega)).mono ?_
  rintro r v15 ⟨rfl, _, T15⟩
  have y15 := T15.size
  replace SA := hide (SA.out.touch T15 zp0)
  replace SG := hide (SG.out.same (T15.same (.inr (by have := hord.out; omega)) r1v14))
  have HFi := hide (SX.out.fi.same (T15.same (.inr (by have := hord.out; omega)) (by have := hord.out; omega)))
  have HB1 := hide (SX.out.b1.same (T15.block _ (by have := hord.out; omega) (.inr (by have := hord.out; omega))))
  have HGi := hide (SX.out.gi.same (T15.same (.inr (by have := hord.out; omega)) (by have := hord.out; omega)))
  have HB2 := hide (SX.out.b2.same (T15.block _ (by have := hord.out; omega) (.inr (by have := hord.out; omega))))
  have HYi := hide (SX.out.yi.same (T15.same (.inr (by have := hord.out; omega)) (by have := hord.out; omega)))
  have r1v15 : r1 ≤ v15.heap.size := by omega
  have hiv15 : hi ≤ v15.heap.size := by omega
  clear T15 y15 SX hvx r1v14
  have t0 := HB1.out.c 0 rfl
  have t1 := HB1.out.c 1 rfl
  go_wp2_with fail
  clear t0 t1
  refine (laws_markFieldO df F1 kf e1 ps f0 g1 (1 + nt) v15 HFi.out (by have := hord.out; omega) (by omega) (by rw [← htf.out]; omega)).mono ?_
  rw [← htf.out]
  rintro r v16 ⟨rfl, T16⟩
  have y16 := T16.size
  replace SA := hide (SA.out.touch T16 (by have := hord.out; omega))
  replace SG := hide (SG.out.same (T16.same (.inr (by have := hord.out; omega)) r1v15))
  replace HGi := hide (HGi.out.same (T16.same (.inr (by have := hord.out; omega)) (by have := hord.out; omega)))
  replace HB2 := hide (HB2.out.same (T16.block _ (by have := hord.out; omega) (.inr (by have := hord.out; omega))))
  replace HYi := hide (HYi.out.same (T16.same (.inr (by have := hord.out; omega)) (by have := hord.out; omega)))
  have r1v16 : r1 ≤ v16.heap.size := by omega
  have hiv16 : hi ≤ v16.heap.size := by omega
  clear T16 y16 HFi HB1 r1v15 hiv15
  have t0 := HB2.out.c 0 rfl
  have t1 := HB2.out.c 1 rfl
  go_wp2_with fail
  clear t0 t1
  refine (laws_markFieldO dg G1 kg e2 qs h0 g2 (1 + nt + tf) v16 HGi.out (by have := hord.out; omega) (by omega) (by rw [← htg.out]; omega)).mono ?_
  rw [← htg.out]
  rintro r v17 ⟨rfl, T17⟩
  have y17 := T17.size
  replace SA := hide (SA.out.touch T17 (by have := hord.out; omega))
  replace SG := hide (SG.out.same (T17.same (.inr (by have := hord.out; omega)) r1v16))
  replace HYi := hide (HYi.out.same (T17.same (.inr (by have := hord.out; omega)) (by have := hord.out; omega)))
  have r1v17 : r1 ≤ v17.heap.size := by omega
  have hiv17 : hi ≤ v17.heap.size := by omega
  clear T17 y17 HGi HB2 r1v16 hiv16
  go_wp2_with fail
  refine (laws_markIntS Y1 my d1 ys yy hi (1 + nt + tf + tg) v17 HYi.out (by omega) (by omega)).mono ?_
  rintro r v18 ⟨rfl, _, T18, y18⟩
  replace SA := hide (SA.out.touch T18 (by have := hord.out; omega))
  replace SG := hide (SG.out.same (T18.same (.inr (by have := hord.out; omega)) r1v17))
  have r1v18 : r1 ≤ v18.heap.size := by omega
  clear T18 y18 HYi r1v17 hiv17
  go_wp2_with fail
  refine (laws_eqIntSS Rg ng cg res r0 r1 Ra naR caR res 0 z v18 SG.out.ints2 SA.out.ref).mono ?_
  rw [decide_eq_true (rfl : res = res)]
  rintro r v19 ⟨rfl, nq19, rfl⟩
  have bq19 := drewN_below v18 nq19
  replace SA := hide (SA.out.below bq19 SA.out.zw)
  replace SG := hide (SG.out.below bq19 r1v18)
  have r1v19 : r1 ≤ (v18.drewN nq19).heap.size := r1v18
  generalize v18.drewN nq19 = v19 at SA SG r1v19 ⊢
  clear bq19 r1v18
  go_wp2_with fail
  refine (laws_markIntSSW Rg ng cg res r0 r1 v19 SG.out r1v19).mono ?_
  rintro r v20 ⟨rfl, hM, T20, y20⟩
  replace SA := hide (SA.out.touch T20 (by have := hord.out; omega))
  replace SG := hide hM
  have r1v20 : r1 ≤ v20.heap.size := by omega
  clear T20 y20 hM r1v19
  go_wp2_with fail
  refine (laws_heldIntSSO Rg ng cg res r0 r1 1 v20 SG.out.ints2 (by omega) (by omega)).mono ?_
  rintro r v21 ⟨rfl, rfl⟩
  have T0 := HCC.out _ SA.out.env
  have e0 := hide (envDrew SA.out.env)
  have T1 := hide (HCC.out _ e0.out)
  have z0 := e0.out.low.size
  have z02 := e0.out.size
  have HTW := hide (laws_toWords o TA nt ct ts 0 w.heap.size v20.drew (HT.out.below e0.out.low (Nat.le_refl _)) z0 hnt)
  go_wp2_with fail
  go_region_held3 (fun w' => w'.cell? ⟨w.heap.size, 0, none⟩ = some (.int .i64 o) ∧ w'.cell? ⟨w.heap.size, 1, none⟩ = some (.slice TA nt ct) ∧ w'.cell? ⟨w.heap.size + 1, 0, none⟩ = some (.int .i64 df) ∧ w'.cell? ⟨w.heap.size + 1, 1, none⟩ = some (.slice F kf ef) ∧ w'.cell? ⟨w.heap.size + 1 + 1, 0, none⟩ = some (.int .i64 dg) ∧ w'.cell? ⟨w.heap.size + 1 + 1, 1, none⟩ = some (.slice G kg eg)) (first | exact T1.out | exact T0 | exact Th1 | exact Th2 | exact Th3 | exact Th4 | exact Th5 | go_keep)
    (first
      | (go_at_call 7; refine HTW.out.mono ?_; rintro r th1 ⟨Ah, ah, rfl, oAh, bbh1⟩; have eh1 := hide (e0.out.below bbh1 (by omega)); have Th1 := HCC.out _ eh1.out; have zh1 := bbh1.size; have HAh := hide (oAh.ints.wide (lo' := 0) (hi' := th1.heap.size) (Nat.zero_le _) (Nat.le_refl _)); have BBh1 := hide bbh1; have HTF := hide (laws_toFieldO df F kf ef ps 0 w.heap.size th1 (HF.out.below eh1.out.low (Nat.le_refl _)) (by omega) hkf HPS.out); clear HTW oAh bbh1)
      | (go_at_call 8; refine HTF.out.mono ?_; rintro r th2 ⟨Fh, efh, rfl, oFh, bbh2⟩; have eh2 := hide (eh1.out.below bbh2 (by omega)); have Th2 := HCC.out _ eh2.out; have zh2 := bbh2.size; have HAh2 := hide (HAh.out.below bbh2 (Nat.le_refl _)); have HFh := hide (oFh.mons2.wide (lo' := 0) (hi' := th2.heap.size) (Nat.zero_le _) (Nat.le_refl _)); have BBh2 := hide (BBh1.out.trans (bbh2.mono zh1)); have HTG := hide (laws_toFieldO dg G kg eg qs 0 w.heap.size th2 (HG.out.below eh2.out.low (Nat.le_refl _)) (by omega) hkg HQS.out); clear HTF HAh oFh bbh2)
      | (go_at_call 8; refine HTG.out.mono ?_; rintro r th3 ⟨Gh, egh, rfl, oGh, bbh3⟩; have eh3 := hide (eh2.out.below bbh3 (by omega)); have Th3 := HCC.out _ eh3.out; have zh3 := bbh3.size; have HAh3 := hide (HAh2.out.below bbh3 (by omega)); have HFh3 := hide (HFh.out.below bbh3 (Nat.le_refl _)); have HGh := hide (oGh.mons2.wide (lo' := 0) (hi' := th3.heap.size) (Nat.zero_le _) (Nat.le_refl _)); have BBh3 := hide (BBh2.out.trans (bbh3.mono (by omega))); have HTY := hide (laws_toIntS Y my dy ys 0 w.heap.size th3 (HY.out.below eh3.out.low (Nat.le_refl _)) (by omega) hcl'); clear HTG HAh2 HFh oGh bbh3)
      | (go_at_call 9; refine HTY.out.mono ?_; rintro r th4 ⟨Yh, dyh, rfl, oYh, bbh4⟩; have eh4 := hide (eh3.out.below bbh4 (by omega)); have Th4 := HCC.out _ eh4.out; have zh4 := bbh4.size; have HAh4 := hide ((HAh3.out.below bbh4 (by omega)).wide (lo' := 0) (hi' := th4.heap.size) (Nat.le_refl _) (by omega)); have HFh4 := hide ((HFh3.out.below bbh4 (by omega)).wide (lo' := 0) (hi' := th4.heap.size) (Nat.le_refl _) (by omega)); have HGh4 := hide ((HGh.out.below bbh4 (Nat.le_refl _)).wide (lo' := 0) (hi' := th4.heap.size) (Nat.le_refl _) (by omega)); have HYh := hide (oYh.ints.wide (lo' := 0) (hi' := th4.heap.size) (Nat.zero_le _) (Nat.le_refl _)); have BBh4 := hide (BBh3.out.trans (bbh4.mono (by omega))); have HCA := hide (impl_WordsAlong_all o Ah nt ah ts df Fh kf efh ps dg Gh kg egh qs Yh my dyh ys th4 HAh4.out HFh4.out HGh4.out HYh.out HKP.out HKQ.out); clear HTY HAh3 HFh3 HGh oYh bbh4)
      | (go_at_call 10; refine HCA.out.mono ?_; rintro r th5 ⟨Rh, nhR, chR, rfl, oRh, bbh5⟩; have eh5 := hide (eh4.out.below bbh5 (by omega)); have Th5 := HCC.out _ eh5.out; have zh5 := bbh5.size; have BBh5 := hide (BBh4.out.trans (bbh5.mono (by omega))); have HRh := hide oRh; clear oRh; clear HCA HAh4 HFh4 HGh4 HYh bbh5))
  clear Th1 Th2 Th3 Th4 Th5 eh1 eh2 eh3 eh4 BBh1 BBh2 BBh3 BBh4
  have bH := ((Below.refl v20.heap.size v20).drew).trans BBh5.out
  replace SA := hide (SA.out.below bH SA.out.zw)
  replace SG := hide (SG.out.below bH r1v20)
  have r1h : r1 ≤ th5.heap.size := Nat.le_trans r1v20 bH.size
  rw [← hresH.out] at HRh
  clear bH BBh5 T0 T1 e0 eh5 r1v20 zh1 zh2 zh3 zh4 zh5 z0 z02
  go_wp2_with fail
  refine (laws_eqIntSS Rh nhR chR res _ _ Ra naR caR res 0 z th5 HRh.out.ints2 SA.out.ref).mono ?_
  rw [decide_eq_true (rfl : res = res)]
  rintro r v24 ⟨rfl, nq24, rfl⟩
  have bq24 := drewN_below th5 nq24
  replace SA := hide (SA.out.below bq24 SA.out.zw)
  replace SG := hide (SG.out.below bq24 r1h)
  generalize th5.drewN nq24 = v24 at SA SG ⊢
  clear bq24 HRh
  go_wp2_with fail
  refine (laws_heldIntSSO Rg ng cg res r0 r1 1 v24 SG.out.ints2 (by omega) (by omega)).mono ?_
  rintro r v25 ⟨rfl, rfl⟩
  go_wp2_with fail
  go_ret
  exact ⟨rfl, SA.out.env.low⟩

theorem own : ownKnob Try.prog.godebug = none := by kernel_rfl
theorem laidOut : laidOutB Try.prog = true := by kernel_rfl
set_option maxRecDepth 100000 in
theorem lifted (os : Os) (started : os.Started) (H : Type) (enc : TypeId × Value → H) :
    ReturnsInHanded {} Try.checked os 3 .any (Rows.fnExactWordsAlongSpec.pre6 enc Try.prog Try.f3 Rows.fnExactWordsAlongRow.domain false) (Rows.fnExactWordsAlongSpec.post enc Try.prog Try.f3 false true false false) := by
  refine returnsInHanded_of_change (C := Try.checked) own started (by kernel_rfl) Try.func3
    (ChangeSpec.witness6 (enc := enc) (C := Try.checked) false ⟨#[], #[.agg #[.int .i64 0, .slice none 0 0], .agg #[.int .i64 0, .slice none 0 0], .agg #[.int .i64 0, .slice none 0 0], .slice none 0 0], []⟩ 8 (by kernel_rfl) (by kernel_rfl) (by kernel_rfl) (by kernel_rfl)) ?_
  intro W base args ds gs before hval0 hW hcnd _
  have hval : ∀ (j : Nat) t v, Try.f3.params[j]? = some t → args[j]? = some v → Value.okWide Try.prog W .any base t v := hval0
  have hW' := hW
  obtain ⟨p, q, hA0, hV, rfl, hfz, hnd⟩ := hW
  have hA : DataW.TrodAll enc Try.prog W 0 (fun _ => true) true Try.f3.params.toList args.toList ds p := hA0
  rw [Try.params3] at hA hval
  obtain ⟨v0, vs0, d0, ds0, p0, q0, hargs, rfl, rfl, h0, t0⟩ := trodAll_cons hA
  obtain ⟨v1, vs1, d1, ds1, p1, q1, rfl, rfl, rfl, h1, t1⟩ := trodAll_cons t0
  obtain ⟨v2, vs2, d2, ds2, p2, q2, rfl, rfl, rfl, h2, t2⟩ := trodAll_cons t1
  obtain ⟨v3, vs3, d3, ds3, p3, q3, rfl, rfl, rfl, h3, t3⟩ := trodAll_cons t2
  obtain ⟨rfl, rfl, rfl⟩ := trodAll_nil t3
  obtain rfl : args = #[v0, v1, v2, v3] := by cases args; simp_all
  obtain ⟨rfl, rfl⟩ := trodVars_none hV
  have k0 := h0
  have lt0 : ∀ x ∈ p0, x.block < W.heap.size := by obtain ⟨m, hm⟩ := k0; exact DataW.trod_lt m _ _ _ hm
  have k1 := h1
  have lt1 : ∀ x ∈ p1, x.block < W.heap.size := by obtain ⟨m, hm⟩ := k1; exact DataW.trod_lt m _ _ _ hm
  have k2 := h2
  have lt2 : ∀ x ∈ p2, x.block < W.heap.size := by obtain ⟨m, hm⟩ := k2; exact DataW.trod_lt m _ _ _ hm
  have k3 := h3
  have lt3 : ∀ x ∈ p3, x.block < W.heap.size := by obtain ⟨m, hm⟩ := k3; exact DataW.trod_lt m _ _ _ hm
  obtain ⟨y0, a0, n0, c0, xs0, rfl, s0, r0⟩ := open_pwords h0 (by obtain ⟨cs, hcs, _⟩ := okWide_struct Try.underlying24 (hval 0 24 v0 rfl rfl); exact ⟨cs, hcs⟩)
  obtain ⟨o_1, P_1, k_1, e_1, ps_1, rfl, iP1⟩ := open_pfield h1 (by obtain ⟨cs, hcs, _⟩ := okWide_struct Try.underlying27 (hval 1 27 v1 rfl rfl); exact ⟨cs, hcs⟩)
  obtain ⟨o_2, P_2, k_2, e_2, ps_2, rfl, iP2⟩ := open_pfield h2 (by obtain ⟨cs, hcs, _⟩ := okWide_struct Try.underlying27 (hval 2 27 v2 rfl rfl); exact ⟨cs, hcs⟩)
  obtain ⟨a3, n3, c3, rfl⟩ := okWide_slice Try.underlying22 (hval 3 22 v3 rfl rfl)
  obtain ⟨xs3, r3⟩ := open_pints h3
  clear hA0 hval0
  refine (walk y0 a0 n0 c0 xs0 o_1 P_1 k_1 e_1 ps_1 o_2 P_2 k_2 e_2 ps_2 a3 n3 c3 xs3 W r0 s0 iP1 iP2 r3).mono fun e W' ⟨he, bel⟩ => ?_
  subst he
  exact ⟨_, rfl, _, _, _, [], _, [], hW', trodAll_mk1 (shut_bool Try.underlying4 _), (trodAll_cons_mk (Below.trod laidOut (by kernel_rfl) (of_decide_eq_true (by kernel_rfl)) k0 bel lt0) (trodAll_cons_mk (Below.trod laidOut (by kernel_rfl) (of_decide_eq_true (by kernel_rfl)) k1 bel lt1) (trodAll_cons_mk (Below.trod laidOut (by kernel_rfl) (of_decide_eq_true (by kernel_rfl)) k2 bel lt2) (trodAll_cons_mk (Below.trod laidOut (by kernel_rfl) (of_decide_eq_true (by kernel_rfl)) k3 bel lt3) trodAll_mk0)))), rfl, bel.frame _, fun h => by cases h⟩
theorem over : Rows.fnExactWordsAlongRow.holds Try.pinned (OpenSpec.ofChange Rows.fnExactWordsAlongSpec) :=
  OpenClaim.holds_of_wide 3 Try.f3 rfl rfl rfl rfl rfl rfl rfl ⟨rfl, rfl, rfl, rfl, rfl⟩ rfl rfl rfl rfl rfl (by kernel_rfl) Try.func3 (by kernel_rfl)
    (of_decide_eq_true (by kernel_rfl)) (by unfold Func.isWrapper; first | (rw [if_pos (by decide +kernel)]; kernel_rfl) | (rw [if_neg (by decide +kernel)]; exact ⟨rfl, rfl⟩))
    (fun os started H enc _ => lifted os started H enc)
theorem proved : Rows.FnExactWordsAlongSaid := over
#print axioms proved

end Go.Proofs.Ytjamdnbabfodkaa.fnExactWordsAlong
