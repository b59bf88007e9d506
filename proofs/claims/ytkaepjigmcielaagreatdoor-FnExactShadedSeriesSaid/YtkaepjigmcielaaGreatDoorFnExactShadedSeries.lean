/- Proved here: for every input the statement FnExactShadedSeries returns true, and its arguments read as before, whatever the open variable holds. No conditions. -/
import Derived.Test.YtkaepjigmcielaaGreatDoorDgG
import Derived.Test.YtkaepjigmcielaaGreatDoorMzBE
namespace Go.Proofs.YtkaepjigmcielaaGreatDoor.fnExactShadedSeries
open Go.ChangeShapes Go.WideShapes Go.ChangeAt Go.RowKit
set_option linter.unusedSimpArgs false
set_option linter.unusedVariables false
set_option maxRecDepth 20000

/-- the field's box -/
structure EnvF (w wr : World) (vf : Array Value) : Prop where
  low : Below w.heap.size w wr
  fld : BlkN wr w.heap.size vf
theorem EnvF.below {w wr w' : World} {vf : Array Value} (h : EnvF w wr vf) {B : Nat} (hb : Below B wr w') (hB : w.heap.size + 1 ≤ B) : EnvF w w' vf :=
  ⟨h.low.trans (hb.mono (by omega)), h.fld.same (hb.block _ (by omega))⟩
theorem EnvF.drew {w wr : World} {vf : Array Value} (h : EnvF w wr vf) : EnvF w wr.drew vf := ⟨h.low.drew, h.fld.drew⟩
theorem EnvF.size {w wr : World} {vf : Array Value} (h : EnvF w wr vf) : w.heap.size + 1 ≤ wr.heap.size := h.fld.lt
/-- the field's box and what the reference says -/
structure StA (w wr : World) (vf : Array Value) (z : Nat) (W0 : Option Addr) (n0 c0 : Nat) (res : List (List Int)) : Prop where
  env : EnvF w wr vf
  ref : Ints2 wr 0 z W0 n0 c0 res
  zl : w.heap.size + 1 ≤ z
  zw : z ≤ wr.heap.size
theorem StA.below {w wr w' : World} {vf : Array Value} {z : Nat} {W0 : Option Addr} {n0 c0 : Nat} {res : List (List Int)} (h : StA w wr vf z W0 n0 c0 res) {N : Nat} (hb : Below N wr w') (hN : z ≤ N) : StA w w' vf z W0 n0 c0 res :=
  ⟨h.env.below hb (by have := h.zl; omega), h.ref.below hb hN, h.zl, by have := hb.size; have := h.zw; omega⟩
theorem StA.touch {w wr w' : World} {vf : Array Value} {z : Nat} {W0 : Option Addr} {n0 c0 : Nat} {res : List (List Int)} (h : StA w wr vf z W0 n0 c0 res) {lo hi : Nat} (ht : Touch lo hi wr w') (hl : z ≤ lo) : StA w w' vf z W0 n0 c0 res :=
  h.below (ht.below hl h.zw) (Nat.le_refl _)
theorem drewN_below (wr : World) (q : Nat) : Below wr.heap.size wr (wr.drewN q) := below_drewN (Below.refl _ _) q

section
variable {H : Type} {enc : TypeId × Value → H} {W : World} {sp : Nat → Bool} {held : Bool} {fuel : Nat} {cs : List Value} {x : DataW H × List MemPlace}
theorem cells_mono (h : DataW.trod enc Tryz.prog W 0 sp held fuel 93 cs = some x) : ∃ a B k d xs, cs = [.int .i64 a, .slice B k d] ∧ R64 a ∧ Ints W 0 W.heap.size B k d xs := by
  obtain ⟨ys, n, _, _, hl, hn, hf⟩ := DataW.trod_struct Tryz.underlying93 h
  have hl2 : cs.length = 2 := hl.trans (by kernel_rfl)
  match cs, hl2 with
  | [c0, c1], _ =>
    have hn2 : ys.length = 2 := hn
    have h0 := hf 0 _ rfl
    have h1 := hf 1 _ rfl
    have e0 : ([c0, c1].drop 0).take (Tryz.prog.cellsOf 3) = [c0] := by rw [show Tryz.prog.cellsOf 3 = 1 from by kernel_rfl]; rfl
    have e1 : ([c0, c1].drop 1).take (Tryz.prog.cellsOf 22) = [c1] := by rw [show Tryz.prog.cellsOf 22 = 1 from by kernel_rfl]; rfl
    rw [List.getElem?_eq_getElem (by omega)] at h0 h1
    obtain ⟨a, ha, _, wa⟩ := DataW.trod_int Tryz.underlying3 ((congrArg _ e0).symm.trans h0)
    obtain ⟨B, k, d, xs, hb, hi⟩ := cells_ints ((congrArg _ e1).symm.trans h1)
    simp at ha hb
    exact ⟨a, B, k, d, xs, by rw [ha, hb], r64_of_wf wa, hi⟩
theorem cells_monos (h : DataW.trod enc Tryz.prog W 0 sp held fuel 69 cs = some x) : ∃ A n c ms, cs = [.slice A n c] ∧ Mons W 0 W.heap.size A n c ms := by
  obtain ⟨A, n, c, ms, rfl, h1, h2, h3, h4⟩ := open_elems (C := 2) Tryz.underlying69 (by kernel_rfl) (by omega) (fun (m : Mono) (cs : List Value) => ∃ B k d, cs = [.int .i64 m.1, .slice B k d] ∧ R64 m.1 ∧ Ints W 0 W.heap.size B k d m.2)
    (fun fuel cs x hx => by
      obtain ⟨a, B, k, d, xs, e, ra, hi⟩ := cells_mono hx
      exact ⟨(a, xs), B, k, d, e, ra, hi⟩) h
  refine ⟨A, n, c, ms, rfl, h1, h2, h3, fun hn => ?_⟩
  obtain ⟨ad, rfl, hb, hat⟩ := h4 hn
  refine ⟨ad, rfl, Nat.zero_le _, hb, fun j m hj => ?_⟩
  obtain ⟨cs', ⟨B, k, d, rfl, ra, hi⟩, _, hc⟩ := hat j m hj
  exact ⟨hc 0 (by omega), ra, B, k, d, hc 1 (by omega), hi⟩
theorem cells_monoss (h : DataW.trod enc Tryz.prog W 0 sp held fuel 23 cs = some x) : ∃ A n c ps, cs = [.slice A n c] ∧ Mons2 W 0 W.heap.size A n c ps := by
  obtain ⟨A, n, c, ms, rfl, h1, h2, h3, h4⟩ := open_elems (C := 1) Tryz.underlying23 (by kernel_rfl) (by omega) (fun (m : List Mono) (cs : List Value) => ∃ B k d, cs = [.slice B k d] ∧ Mons W 0 W.heap.size B k d m)
    (fun fuel cs x hx => by
      obtain ⟨B, k, d, xs, e, hi⟩ := cells_monos hx
      exact ⟨xs, B, k, d, e, hi⟩) h
  refine ⟨A, n, c, ms, rfl, h1, h2, h3, fun hn => ?_⟩
  obtain ⟨ad, rfl, hb, hat⟩ := h4 hn
  refine ⟨ad, rfl, Nat.zero_le _, hb, fun j m hj => ?_⟩
  obtain ⟨cs', ⟨B, k, d, rfl, hi⟩, _, hc⟩ := hat j m hj
  have h0 := hc 0 (by omega)
  rw [Nat.mul_one, Addr.add_zero'] at h0
  exact ⟨B, k, d, h0, hi⟩
theorem cells_field (h : DataW.trod enc Tryz.prog W 0 sp held fuel 25 cs = some x) : ∃ o P k e ps, cs = [.int .i64 o, .slice P k e] ∧ Mons2 W 0 W.heap.size P k e ps := by
  obtain ⟨ys, n, _, _, hl, hn, hf⟩ := DataW.trod_struct Tryz.underlying25 h
  have hl2 : cs.length = 2 := hl.trans (by kernel_rfl)
  match cs, hl2 with
  | [c0, c1], _ =>
    have hn2 : ys.length = 2 := hn
    have h0 := hf 0 _ rfl
    have h1 := hf 1 _ rfl
    have e0 : ([c0, c1].drop 0).take (Tryz.prog.cellsOf 3) = [c0] := by rw [show Tryz.prog.cellsOf 3 = 1 from by kernel_rfl]; rfl
    have e1 : ([c0, c1].drop 1).take (Tryz.prog.cellsOf 23) = [c1] := by rw [show Tryz.prog.cellsOf 23 = 1 from by kernel_rfl]; rfl
    rw [List.getElem?_eq_getElem (by omega)] at h0 h1
    obtain ⟨a, ha, _, wa⟩ := DataW.trod_int Tryz.underlying3 ((congrArg _ e0).symm.trans h0)
    obtain ⟨B, k, d, xs, hb, hi⟩ := cells_monoss ((congrArg _ e1).symm.trans h1)
    simp at ha hb
    exact ⟨a, B, k, d, xs, by rw [ha, hb], hi⟩
theorem open_pfield {v : Value} {d : DataW H} {p : List MemPlace} (h : DataW.Trod enc Tryz.prog W 0 sp held 25 v d p) (hv : ∃ cs, v = .agg cs) : ∃ o P k e ps, v = .agg #[.int .i64 o, .slice P k e] ∧ Mons2 W 0 W.heap.size P k e ps := by
  obtain ⟨m, hm⟩ := h
  obtain ⟨cs, rfl⟩ := hv
  obtain ⟨o, P, k, e, ps, he, hi⟩ := cells_field hm
  refine ⟨o, P, k, e, ps, ?_, hi⟩
  simp [Value.cells] at he
  exact congrArg Value.agg (Array.ext' (by simpa using he))
end

set_option maxRecDepth 100000 in
set_option maxHeartbeats 16000000 in
theorem walk (C0 : Option Addr) (n0 c0 : Nat) (cs0 : List Int) (o : Int) (P : Option Addr) (k e : Nat) (ps : List (List Mono)) (C2 : Option Addr) (n2 c2 : Nat) (cs2 : List Int) (X : Option Addr) (x f : Nat) (xss : List (List Int)) (w : World) (hc0 : Ints w 0 w.heap.size C0 n0 c0 cs0) (hp : Mons2 w 0 w.heap.size P k e ps) (hc2 : Ints w 0 w.heap.size C2 n2 c2 cs2) (hx : Ints2 w 0 w.heap.size X x f xss) (hT : TreeV w.heap.size w) :
    Calls Tryz.prog 3 #[.slice C0 n0 c0, .agg #[.int .i64 o, .slice P k e], .slice C2 n2 c2, .slice X x f] w fun e w' => e = .returned (.bool true) ∧ Below w.heap.size w w' := by
  have q0 := hc0.cap
  have q1 := hc0.max
  have q2 := hp.cap
  have q3 := hp.max
  have q4 := hc2.cap
  have q5 := hc2.max
  have q6 := hx.cap
  have q7 := hx.max
  have b0 := below_alloc w (.cells #[.int .i64 o, .slice P k e] 25)
  have E0 : EnvF w (w.alloc (.cells #[.int .i64 o, .slice P k e] 25)) #[.int .i64 o, .slice P k e] := ⟨b0, BlkN.new w #[.int .i64 o, .slice P k e] 25⟩
  have HT := hide hT
  clear b0 hT
  by_cases hcl : 1048576 < n0
  · go_enter Tryz.func3, Tryz.ntmps3
    go_wp2_with fail
    go_ret
    exact ⟨rfl, E0.low⟩
  have hm0 : n0 ≤ 1048576 := by omega
  clear hcl
  by_cases hcl : 1048576 < n2
  · go_enter Tryz.func3, Tryz.ntmps3
    go_wp2_with fail
    go_ret
    exact ⟨rfl, E0.low⟩
  have hm2 : n2 ≤ 1048576 := by omega
  clear hcl
  go_enter Tryz.func3, Tryz.ntmps3
  have f0 := E0.fld.c 0 rfl
  have f1 := E0.fld.c 1 rfl
  go_wp2_with fail
  clear f0 f1
  generalize w.alloc (.cells #[.int .i64 o, .slice P k e] 25) = w1 at E0 ⊢
  refine (laws_szField o P k e ps 0 w.heap.size 1048576 w1 (hp.below E0.low (Nat.le_refl _)) E0.low.size (by omega) (by omega)).mono ?_
  rintro r w2 ⟨l2, rfl, ⟨hs2, hs3, hs4⟩, hb⟩
  have E2 := E0.below hb E0.size
  clear hb E0
  by_cases hs5 : l2 < 0
  · go_wp2_with fail
    go_ret
    exact ⟨rfl, E2.low⟩
  obtain ⟨hk, hps⟩ := hs4 (by omega)
  have HPS := hide hps
  have hl2 : l2 ≤ 1048576 := by omega
  clear hs2 hs3 hs4 hps
  go_wp2_with fail
  refine (laws_szIntSS X x f xss 0 w.heap.size l2 w2 (hx.below E2.low (Nat.le_refl _)) (by omega) hl2).mono ?_
  rcases szRows_ok2 xss (l := l2) (by omega) hl2 with hlt | ⟨hge, hn0, hr0⟩
  · rintro r w3 ⟨rfl, rfl⟩
    go_wp2_with fail
    go_ret
    exact ⟨rfl, E2.low⟩
  rintro r w3 ⟨rfl, rfl⟩
  have hx1 : x ≤ 1048576 := by rw [← hx.len]; exact hn0
  have HR := hide hr0
  have HKL := hide fun p hp m hm => (HPS.out p hp).2 m hm
  have H00 := hide hc0
  have H10 := hide hp
  have H20 := hide hc2
  have H30 := hide hx
  have HCC := hide fun (w' : World) (q : EnvF w w' #[.int .i64 o, .slice P k e]) => show w'.cell? ⟨w.heap.size, 0, none⟩ = some (.int .i64 o) ∧ w'.cell? ⟨w.heap.size, 1, none⟩ = some (.slice P k e) from ⟨q.fld.c 0 rfl, q.fld.c 1 rfl⟩
  clear hc0 hp hc2 hx hr0 hn0
  have Taa := HCC.out _ E2
  have ea0 := hide E2.drew
  have Tab := hide (HCC.out _ ea0.out)
  clear E2
  have HTa0 := hide (laws_toIntS C0 n0 c0 cs0 0 w.heap.size w2.drew (H00.out.below ea0.out.low (Nat.le_refl _)) ea0.out.low.size hm0)
  go_wp2_with fail
  go_region_held3 (fun w' => w'.cell? ⟨w.heap.size, 0, none⟩ = some (.int .i64 o) ∧ w'.cell? ⟨w.heap.size, 1, none⟩ = some (.slice P k e)) (first | exact Tab.out | exact Taa | exact Ta1 | exact Ta2 | exact Ta3 | exact Ta4 | exact Ta5 | go_keep)
    (first
      | (go_at_call 7; refine HTa0.out.mono ?_; rintro r ta1 ⟨Aa0, ca0, rfl, ooa0, bba1⟩; have ea1 := hide (ea0.out.below bba1 (by have := ea0.out.size; omega)); have Ta1 := HCC.out _ ea1.out; have za1 := bba1.size; have sza1 := ea1.out.low.size; have BBa1 := hide (bba1); have Ga0_1 := hide ooa0; have HTa1 := hide (laws_toFieldO o P k e ps 0 w.heap.size ta1 (H10.out.below ea1.out.low (Nat.le_refl _)) sza1 hk HPS.out); clear HTa0 ooa0 bba1)
      | (go_at_call 8; refine HTa1.out.mono ?_; rintro r ta2 ⟨Aa1, ca1, rfl, ooa1, bba2⟩; have ea2 := hide (ea1.out.below bba2 (by have := ea1.out.size; omega)); have Ta2 := HCC.out _ ea2.out; have za2 := bba2.size; have sza2 := ea2.out.low.size; have BBa2 := hide (BBa1.out.trans (bba2.mono (by omega))); have Ga1_2 := hide ooa1; have Ga0_2 := hide (Ga0_1.out.below bba2 (by omega)); clear Ga0_1; have HTa2 := hide (laws_toIntS C2 n2 c2 cs2 0 w.heap.size ta2 (H20.out.below ea2.out.low (Nat.le_refl _)) sza2 hm2); clear HTa1 ooa1 bba2)
      | (go_at_call 7; refine HTa2.out.mono ?_; rintro r ta3 ⟨Aa2, ca2, rfl, ooa2, bba3⟩; have ea3 := hide (ea2.out.below bba3 (by have := ea2.out.size; omega)); have Ta3 := HCC.out _ ea3.out; have za3 := bba3.size; have sza3 := ea3.out.low.size; have BBa3 := hide (BBa2.out.trans (bba3.mono (by omega))); have Ga2_3 := hide ooa2; have Ga0_3 := hide (Ga0_2.out.below bba3 (by omega)); clear Ga0_2; have Ga1_3 := hide (Ga1_2.out.below bba3 (by omega)); clear Ga1_2; have HTa3 := hide (laws_toIntSSO X x f xss 0 w.heap.size ta3 (H30.out.below ea3.out.low (Nat.le_refl _)) sza3 hx1 HR.out); clear HTa2 ooa2 bba3)
      | (go_at_call 9; refine HTa3.out.mono ?_; rintro r ta4 ⟨Aa3, ca3, rfl, ooa3, bba4⟩; have ea4 := hide (ea3.out.below bba4 (by have := ea3.out.size; omega)); have Ta4 := HCC.out _ ea4.out; have za4 := bba4.size; have sza4 := ea4.out.low.size; have BBa4 := hide (BBa3.out.trans (bba4.mono (by omega))); have Ga3_4 := hide ooa3; have Ga0_4 := hide (Ga0_3.out.below bba4 (by omega)); clear Ga0_3; have Ga1_4 := hide (Ga1_3.out.below bba4 (by omega)); clear Ga1_3; have Ga2_4 := hide (Ga2_3.out.below bba4 (by omega)); clear Ga2_3; have HTa4 := hide (spec_ShadedSeries_all Aa0 n0 ca0 cs0 o Aa1 k ca1 ps Aa2 n2 ca2 cs2 Aa3 x ca3 xss 0 ta4.heap.size ta4 (Ga0_4.out.ints.wide (lo' := 0) (hi' := ta4.heap.size) (Nat.zero_le _) (by omega)) (Ga1_4.out.mons2.wide (lo' := 0) (hi' := ta4.heap.size) (Nat.zero_le _) (by omega)) (Ga2_4.out.ints.wide (lo' := 0) (hi' := ta4.heap.size) (Nat.zero_le _) (by omega)) (Ga3_4.out.ints2.wide2 (lo' := 0) (hi' := ta4.heap.size) (Nat.zero_le _) (by omega)) (Nat.le_refl _) HKL.out); clear HTa3 ooa3 bba4)
      | (go_at_call 6; refine HTa4.out.mono ?_; rintro r ta5 ⟨Ra, naR, caR, rfl, oRa, bba5⟩; have ea5 := hide (ea4.out.below bba5 (by have := ea4.out.size; omega)); have Ta5 := HCC.out _ ea5.out; have za5 := bba5.size; have BBa5 := hide (BBa4.out.trans (bba5.mono (by omega))); have SA := hide (show StA w ta5 #[.int .i64 o, .slice P k e] ta5.heap.size Ra naR caR (shSe cs0 o ps cs2 xss) from ⟨ea5.out, oRa.wide2 (Nat.zero_le _) (Nat.le_refl _), ea5.out.size, Nat.le_refl _⟩); clear HTa4 Ga0_4 Ga1_4 Ga2_4 Ga3_4))
  clear Ta1 Ta2 Ta3 Ta4 Ta5 ea0 ea1 ea2 ea3 ea4 sza1 sza2 sza3 sza4 BBa1 BBa2 BBa3 BBa4
  clear Taa Tab oRa
  obtain ⟨z, hz1⟩ : ∃ z, z = ta5.heap.size := ⟨_, rfl⟩
  rw [← hz1] at SA
  have hz : z ≤ ta5.heap.size := by omega
  have hzw : w.heap.size + 1 ≤ z := by have := ea5.out.size; omega
  clear hz1 ea5 BBa5 za1 za2 za3 za4 za5
  go_wp2_with fail
  refine (laws_toIntS C0 n0 c0 cs0 0 w.heap.size ta5 (H00.out.below SA.out.env.low (Nat.le_refl _)) SA.out.env.low.size hm0).mono ?_
  rintro r v1 ⟨Cq0, cq0, rfl, oo, bb⟩
  have yy := bb.size
  obtain ⟨lo0, hlo⟩ : ∃ p, p = ta5.heap.size := ⟨_, rfl⟩
  obtain ⟨hi0, hhi⟩ : ∃ p, p = v1.heap.size := ⟨_, rfl⟩
  have H0q := hide oo
  rw [← hlo, ← hhi] at H0q
  have ol0 : z ≤ lo0 := by omega
  have oh0 : lo0 ≤ hi0 := by omega
  have ow : hi0 ≤ v1.heap.size := by omega
  clear hlo hhi
  replace SA := hide (SA.out.below bb (by omega))
  clear bb oo yy hz
  have owp := ow
  clear ow
  have f0 := SA.out.env.fld.c 0 rfl
  have f1 := SA.out.env.fld.c 1 rfl
  go_wp2_with fail
  clear f0 f1
  refine (laws_toFieldO o P k e ps 0 w.heap.size v1 (H10.out.below SA.out.env.low (Nat.le_refl _)) SA.out.env.low.size hk HPS.out).mono ?_
  rintro r v2 ⟨Pq, kq, rfl, oo, bb⟩
  have yy := bb.size
  obtain ⟨lo1, hlo⟩ : ∃ p, p = v1.heap.size := ⟨_, rfl⟩
  obtain ⟨hi1, hhi⟩ : ∃ p, p = v2.heap.size := ⟨_, rfl⟩
  have H1q := hide oo
  rw [← hlo, ← hhi] at H1q
  have ol1 : hi0 ≤ lo1 := by omega
  have oh1 : lo1 ≤ hi1 := by omega
  have ow : hi1 ≤ v2.heap.size := by omega
  clear hlo hhi
  replace SA := hide (SA.out.below bb (by omega))
  replace H0q := hide (H0q.out.below bb (by omega))
  clear bb oo yy owp
  have jq := hide (BlkN.new v2 #[.int .i64 o, .slice Pq k kq] 33)
  have aa := below_alloc v2 (.cells #[.int .i64 o, .slice Pq k kq] 33)
  have yy : v2.heap.size < (v2.alloc (.cells #[.int .i64 o, .slice Pq k kq] 33)).heap.size := by simp
  replace SA := hide (SA.out.below aa (by omega))
  replace H0q := hide (H0q.out.below aa (by omega))
  replace H1q := hide (H1q.out.below aa (by omega))
  clear aa
  go_wp2_with fail
  generalize v2.alloc (.cells #[.int .i64 o, .slice Pq k kq] 33) = v3 at jq yy SA H0q H1q ⊢
  obtain ⟨gq, hgq⟩ : ∃ p, p = v2.heap.size := ⟨_, rfl⟩
  rw [← hgq] at jq ⊢
  have og : hi1 ≤ gq := by omega
  have owp : gq + 1 ≤ v3.heap.size := by omega
  clear hgq yy ow
  go_wp2_with fail
  refine (laws_toIntS C2 n2 c2 cs2 0 w.heap.size v3 (H20.out.below SA.out.env.low (Nat.le_refl _)) SA.out.env.low.size hm2).mono ?_
  rintro r v4 ⟨Cq2, cq2, rfl, oo, bb⟩
  have yy := bb.size
  obtain ⟨lo2, hlo⟩ : ∃ p, p = v3.heap.size := ⟨_, rfl⟩
  obtain ⟨hi2, hhi⟩ : ∃ p, p = v4.heap.size := ⟨_, rfl⟩
  have H2q := hide oo
  rw [← hlo, ← hhi] at H2q
  have ol2 : gq + 1 ≤ lo2 := by omega
  have oh2 : lo2 ≤ hi2 := by omega
  have ow : hi2 ≤ v4.heap.size := by omega
  clear hlo hhi
  replace SA := hide (SA.out.below bb (by omega))
  replace H0q := hide (H0q.out.below bb (by omega))
  replace H1q := hide (H1q.out.below bb (by omega))
  replace jq := hide (jq.out.below bb)
  clear bb oo yy owp
  have owp := ow
  clear ow
  go_wp2_with fail
  refine (laws_toIntSSO X x f xss 0 w.heap.size v4 (H30.out.below SA.out.env.low (Nat.le_refl _)) SA.out.env.low.size hx1 HR.out).mono ?_
  rintro r v5 ⟨Xq, fq, rfl, oo, bb⟩
  have yy := bb.size
  obtain ⟨lo3, hlo⟩ : ∃ p, p = v4.heap.size := ⟨_, rfl⟩
  obtain ⟨hi3, hhi⟩ : ∃ p, p = v5.heap.size := ⟨_, rfl⟩
  have H3q := hide oo
  rw [← hlo, ← hhi] at H3q
  have ol3 : hi2 ≤ lo3 := by omega
  have oh3 : lo3 ≤ hi3 := by omega
  have ow : hi3 ≤ v5.heap.size := by omega
  clear hlo hhi
  replace SA := hide (SA.out.below bb (by omega))
  replace H0q := hide (H0q.out.below bb (by omega))
  replace H1q := hide (H1q.out.below bb (by omega))
  replace jq := hide (jq.out.below bb)
  replace H2q := hide (H2q.out.below bb (by omega))
  clear bb oo yy owp
  have owp := ow
  clear ow
  have t0 := jq.out.c 0 rfl
  have t1 := jq.out.c 1 rfl
  go_wp2_with fail
  clear t0 t1
  refine (impl_ShadedSeries_all w.heap.size Cq0 n0 cq0 cs0 o Pq k kq ps Cq2 n2 cq2 cs2 Xq x fq xss 0 v5.heap.size v5 (HT.out.below SA.out.env.low (Nat.le_refl _)) SA.out.env.low.size (H0q.out.ints.wide (lo' := 0) (hi' := v5.heap.size) (Nat.zero_le _) (by omega)) (H1q.out.mons2.wide (lo' := 0) (hi' := v5.heap.size) (Nat.zero_le _) (by omega)) (H2q.out.ints.wide (lo' := 0) (hi' := v5.heap.size) (Nat.zero_le _) (by omega)) (H3q.out.ints2.wide2 (lo' := 0) (hi' := v5.heap.size) (Nat.zero_le _) (by omega)) (Nat.le_refl _) HKL.out).mono ?_
  rintro r v6 ⟨Rg, ng, cg, rfl, oG, bb⟩
  have yy := bb.size
  obtain ⟨r0, hr0⟩ : ∃ p, p = v5.heap.size := ⟨_, rfl⟩
  obtain ⟨r1, hr1⟩ : ∃ p, p = v6.heap.size := ⟨_, rfl⟩
  have SG := hide oG
  rw [← hr0, ← hr1] at SG
  have or0 : hi3 ≤ r0 := by omega
  have or1 : r0 ≤ r1 := by omega
  have ow : r1 ≤ v6.heap.size := by omega
  clear hr0 hr1
  replace SA := hide (SA.out.below bb (by omega))
  replace H0q := hide (H0q.out.below bb (by omega))
  replace H1q := hide (H1q.out.below bb (by omega))
  replace jq := hide (jq.out.below bb)
  replace H2q := hide (H2q.out.below bb (by omega))
  replace H3q := hide (H3q.out.below bb (by omega))
  clear bb oG yy owp
  obtain ⟨res, hres⟩ : ∃ res, res = (shSe cs0 o ps cs2 xss) := ⟨_, rfl⟩
  have htot : totS res ≤ 1048576 := by rw [hres]; exact shSe_tot _ _ _ _ _
  rw [← hres] at SA SG
  have hresH := hide hres
  clear hres
  go_wp2_with fail
  refine (laws_eqIntSS Rg ng cg res r0 r1 Ra naR caR res 0 z v6 SG.out.ints2 SA.out.ref).mono ?_
  rw [decide_eq_true (rfl : res = res)]
  rintro r v7x ⟨rfl, nq, rfl⟩
  have bq := drewN_below v6 nq
  replace SA := hide (SA.out.below bq (by omega))
  replace H0q := hide (H0q.out.below bq (by omega))
  replace H1q := hide (H1q.out.below bq (by omega))
  replace jq := hide (jq.out.below bq)
  replace H2q := hide (H2q.out.below bq (by omega))
  replace H3q := hide (H3q.out.below bq (by omega))
  replace SG := hide (SG.out.below bq (by omega))
  have ow2 : r1 ≤ (v6.drewN nq).heap.size := (by show r1 ≤ v6.heap.size; omega)
  generalize v6.drewN nq = v7 at SA H0q H1q jq H2q H3q SG ow2 ⊢
  have ow := ow2
  clear bq ow2
  go_wp2_with fail
  refine (laws_toIntS C0 n0 c0 cs0 0 w.heap.size v7 (H00.out.below SA.out.env.low (Nat.le_refl _)) SA.out.env.low.size hm0).mono ?_
  rintro r v8 ⟨A3, c3, rfl, o3, bb⟩
  have yy := bb.size
  replace SA := hide (SA.out.below bb (by omega))
  replace H0q := hide (H0q.out.below bb (by omega))
  replace H1q := hide (H1q.out.below bb (by omega))
  replace jq := hide (jq.out.below bb)
  replace H2q := hide (H2q.out.below bb (by omega))
  replace H3q := hide (H3q.out.below bb (by omega))
  replace SG := hide (SG.out.below bb (by omega))
  have ow2 : r1 ≤ v8.heap.size := by omega
  have O3 := hide o3
  clear bb yy ow o3
  have ow := ow2
  clear ow2
  go_wp2_with fail
  refine (laws_eqIntS Cq0 n0 cq0 cs0 _ _ A3 n0 c3 cs0 _ _ v8 H0q.out.ints O3.out.ints).mono ?_
  rw [decide_eq_true (rfl : cs0 = cs0)]
  rintro r v9x ⟨rfl, nq, rfl⟩
  have bq := drewN_below v8 nq
  replace SA := hide (SA.out.below bq (by omega))
  replace H0q := hide (H0q.out.below bq (by omega))
  replace H1q := hide (H1q.out.below bq (by omega))
  replace jq := hide (jq.out.below bq)
  replace H2q := hide (H2q.out.below bq (by omega))
  replace H3q := hide (H3q.out.below bq (by omega))
  replace SG := hide (SG.out.below bq (by omega))
  have ow2 : r1 ≤ (v8.drewN nq).heap.size := (by show r1 ≤ v8.heap.size; omega)
  generalize v8.drewN nq = v9 at SA H0q H1q jq H2q H3q SG ow2 ⊢
  have ow := ow2
  clear bq ow2 O3
  have HCf := hide fun (w' : World) (q : EnvF w w' #[.int .i64 o, .slice P k e]) (q2 : BlkN w' gq #[.int .i64 o, .slice Pq k kq]) => show w'.cell? ⟨w.heap.size, 0, none⟩ = some (.int .i64 o) ∧ w'.cell? ⟨w.heap.size, 1, none⟩ = some (.slice P k e) ∧ w'.cell? ⟨gq, 0, none⟩ = some (.int .i64 o) ∧ w'.cell? ⟨gq, 1, none⟩ = some (.slice Pq k kq) from ⟨q.fld.c 0 rfl, q.fld.c 1 rfl, q2.c 0 rfl, q2.c 1 rfl⟩
  have Tfa := HCf.out _ SA.out.env jq.out
  replace SA := hide (SA.out.below ((Below.refl v9.heap.size v9).drew) (by omega))
  replace H0q := hide (H0q.out.below ((Below.refl v9.heap.size v9).drew) (by omega))
  replace H1q := hide (H1q.out.below ((Below.refl v9.heap.size v9).drew) (by omega))
  replace jq := hide (jq.out.below ((Below.refl v9.heap.size v9).drew))
  replace H2q := hide (H2q.out.below ((Below.refl v9.heap.size v9).drew) (by omega))
  replace H3q := hide (H3q.out.below ((Below.refl v9.heap.size v9).drew) (by omega))
  replace SG := hide (SG.out.below ((Below.refl v9.heap.size v9).drew) (by omega))
  have Tfb := hide (HCf.out _ SA.out.env jq.out)
  have zdf : v9.heap.size ≤ v9.drew.heap.size := Nat.le_refl _
  have HTP := hide (laws_toFieldO o P k e ps 0 w.heap.size v9.drew (H10.out.below SA.out.env.low (Nat.le_refl _)) SA.out.env.low.size hk HPS.out)
  go_wp2_with fail
  go_region_held3 (fun w' => w'.cell? ⟨w.heap.size, 0, none⟩ = some (.int .i64 o) ∧ w'.cell? ⟨w.heap.size, 1, none⟩ = some (.slice P k e) ∧ w'.cell? ⟨gq, 0, none⟩ = some (.int .i64 o) ∧ w'.cell? ⟨gq, 1, none⟩ = some (.slice Pq k kq)) (first | exact Tfb.out | exact Tfa | exact Tf1 | exact Tf2 | go_keep)
    (first
      | (go_at_call 8; refine HTP.out.mono ?_; rintro r v10 ⟨Pf1, kf1, rfl, oPf, bb1⟩; have zf1 := bb1.size; replace SA := hide (SA.out.below bb1 (by omega)); replace H0q := hide (H0q.out.below bb1 (by omega)); replace H1q := hide (H1q.out.below bb1 (by omega)); replace jq := hide (jq.out.below bb1); replace H2q := hide (H2q.out.below bb1 (by omega)); replace H3q := hide (H3q.out.below bb1 (by omega)); replace SG := hide (SG.out.below bb1 (by omega)); have Tf1 := HCf.out _ SA.out.env jq.out; have hEQ := laws_eqField o Pq k kq ps 0 v10.heap.size o Pf1 k kf1 ps 0 v10.heap.size v10 (H1q.out.mons2.wide (Nat.zero_le _) (by omega)) (oPf.mons2.wide (Nat.zero_le _) (Nat.le_refl _)) (Nat.le_refl _) (Nat.le_refl _); rw [decide_eq_true (rfl : o = o), decide_eq_true (rfl : ps = ps)] at hEQ; have HEQ := hide hEQ; clear HTP hEQ oPf bb1)
      | (go_at_call 13; refine HEQ.out.mono ?_; rintro r v11 ⟨rfl, bb2⟩; have zf2 := bb2.size; replace SA := hide (SA.out.below bb2 (by omega)); replace H0q := hide (H0q.out.below bb2 (by omega)); replace H1q := hide (H1q.out.below bb2 (by omega)); replace jq := hide (jq.out.below bb2); replace H2q := hide (H2q.out.below bb2 (by omega)); replace H3q := hide (H3q.out.below bb2 (by omega)); replace SG := hide (SG.out.below bb2 (by omega)); have Tf2 := HCf.out _ SA.out.env jq.out; clear HEQ bb2))
  have ow2 : r1 ≤ v11.heap.size := by omega
  clear Tf1 Tf2 Tfa Tfb HCf zf1 zf2 zdf ow
  have ow := ow2
  clear ow2
  go_wp2_with fail
  refine (laws_toIntS C2 n2 c2 cs2 0 w.heap.size v11 (H20.out.below SA.out.env.low (Nat.le_refl _)) SA.out.env.low.size hm2).mono ?_
  rintro r v12 ⟨A3, c3, rfl, o3, bb⟩
  have yy := bb.size
  replace SA := hide (SA.out.below bb (by omega))
  replace H0q := hide (H0q.out.below bb (by omega))
  replace H1q := hide (H1q.out.below bb (by omega))
  replace jq := hide (jq.out.below bb)
  replace H2q := hide (H2q.out.below bb (by omega))
  replace H3q := hide (H3q.out.below bb (by omega))
  replace SG := hide (SG.out.below bb (by omega))
  have ow2 : r1 ≤ v12.heap.size := by omega
  have O3 := hide o3
  clear bb yy ow o3
  have ow := ow2
  clear ow2
  go_wp2_with fail
  refine (laws_eqIntS Cq2 n2 cq2 cs2 _ _ A3 n2 c3 cs2 _ _ v12 H2q.out.ints O3.out.ints).mono ?_
  rw [decide_eq_true (rfl : cs2 = cs2)]
  rintro r v13x ⟨rfl, nq, rfl⟩
  have bq := drewN_below v12 nq
  replace SA := hide (SA.out.below bq (by omega))
  replace H0q := hide (H0q.out.below bq (by omega))
  replace H1q := hide (H1q.out.below bq (by omega))
  replace jq := hide (jq.out.below bq)
  replace H2q := hide (H2q.out.below bq (by omega))
  replace H3q := hide (H3q.out.below bq (by omega))
  replace SG := hide (SG.out.below bq (by omega))
  have ow2 : r1 ≤ (v12.drewN nq).heap.size := (by show r1 ≤ v12.heap.size; omega)
  generalize v12.drewN nq = v13 at SA H0q H1q jq H2q H3q SG ow2 ⊢
  have ow := ow2
  clear bq ow2 O3
  go_wp2_with fail
  refine (laws_toIntSSO X x f xss 0 w.heap.size v13 (H30.out.below SA.out.env.low (Nat.le_refl _)) SA.out.env.low.size hx1 HR.out).mono ?_
  rintro r v14 ⟨A3, c3, rfl, o3, bb⟩
  have yy := bb.size
  replace SA := hide (SA.out.below bb (by omega))
  replace H0q := hide (H0q.out.below bb (by omega))
  replace H1q := hide (H1q.out.below bb (by omega))
  replace jq := hide (jq.out.below bb)
  replace H2q := hide (H2q.out.below bb (by omega))
  replace H3q := hide (H3q.out.below bb (by omega))
  replace SG := hide (SG.out.below bb (by omega))
  have ow2 : r1 ≤ v14.heap.size := by omega
  have O3 := hide o3
  clear bb yy ow o3
  have ow := ow2
  clear ow2
  go_wp2_with fail
  refine (laws_eqIntSS Xq x fq xss _ _ A3 x c3 xss _ _ v14 H3q.out.ints2 O3.out.ints2).mono ?_
  rw [decide_eq_true (rfl : xss = xss)]
  rintro r v15x ⟨rfl, nq, rfl⟩
  have bq := drewN_below v14 nq
  replace SA := hide (SA.out.below bq (by omega))
  replace H0q := hide (H0q.out.below bq (by omega))
  replace H1q := hide (H1q.out.below bq (by omega))
  replace jq := hide (jq.out.below bq)
  replace H2q := hide (H2q.out.below bq (by omega))
  replace H3q := hide (H3q.out.below bq (by omega))
  replace SG := hide (SG.out.below bq (by omega))
  have ow2 : r1 ≤ (v14.drewN nq).heap.size := (by show r1 ≤ v14.heap.size; omega)
  generalize v14.drewN nq = v15 at SA H0q H1q jq H2q H3q SG ow2 ⊢
  have ow := ow2
  clear bq ow2 O3
  have hps3 : totMM ps ≤ 1048576 * (1048576 * (1 + 1048576)) := by
    have t1 := totMM_bd (C := 1048576 * (1 + 1048576)) ps (fun p hp => Nat.le_trans (totM_bd (C := 1048576) p (fun m hm => (HPS.out p hp).2 m hm)) (Nat.mul_le_mul_right _ (HPS.out p hp).1))
    have t2 := H1q.out.len
    rw [t2] at t1
    exact Nat.le_trans t1 (Nat.mul_le_mul_right _ (by omega))
  have hxs3 : totS xss ≤ 1048576 * 1048576 := by
    have t1 := totS_bd (C := 1048576) xss HR.out
    have t2 := H3q.out.len
    rw [t2] at t1
    exact Nat.le_trans t1 (Nat.mul_le_mul_right _ (by omega))
  obtain ⟨tm, htm'⟩ : ∃ tm, tm = totMM ps := ⟨_, rfl⟩
  obtain ⟨tx, htx'⟩ : ∃ tx, tx = totS xss := ⟨_, rfl⟩
  rw [← htm'] at hps3
  rw [← htx'] at hxs3
  have htm := hide htm'
  have htx := hide htx'
  clear htm' htx'
  have hk60 : 1048576 * (1048576 * (1 + 1048576)) = 1152922604118474752 := by decide
  rw [hk60] at hps3
  clear hk60
  go_wp2_with fail
  refine (laws_markIntS Cq0 n0 cq0 cs0 lo0 hi0 (1) v15 H0q.out (by omega) (by omega)).mono ?_
  rintro r v16 ⟨rfl, _, TT, yy⟩
  replace SA := hide (SA.out.touch TT (by omega))
  replace H1q := hide (H1q.out.same (TT.same (by omega) (by omega)))
  replace jq := hide (jq.out.touch TT (by omega))
  replace H2q := hide (H2q.out.same (TT.same (by omega) (by omega)))
  replace H3q := hide (H3q.out.same (TT.same (by omega) (by omega)))
  replace SG := hide (SG.out.same (TT.same (by omega) (by omega)))
  have ow2 : r1 ≤ v16.heap.size := by omega
  clear TT yy H0q ow
  have ow := ow2
  clear ow2
  have t0 := jq.out.c 0 rfl
  have t1 := jq.out.c 1 rfl
  go_wp2_with fail
  clear t0 t1
  refine (laws_markFieldO o Pq k kq ps lo1 hi1 (1 + n0) v16 H1q.out (by omega) (by omega) (by rw [← htm.out]; omega)).mono ?_
  rw [← htm.out]
  rintro r v17 ⟨rfl, TT⟩
  have yy := TT.size
  replace SA := hide (SA.out.touch TT (by omega))
  replace H2q := hide (H2q.out.same (TT.same (by omega) (by omega)))
  replace H3q := hide (H3q.out.same (TT.same (by omega) (by omega)))
  replace SG := hide (SG.out.same (TT.same (by omega) (by omega)))
  have ow2 : r1 ≤ v17.heap.size := by omega
  clear TT yy H1q jq ow
  have ow := ow2
  clear ow2
  go_wp2_with fail
  refine (laws_markIntS Cq2 n2 cq2 cs2 lo2 hi2 (1 + n0 + tm) v17 H2q.out (by omega) (by omega)).mono ?_
  rintro r v18 ⟨rfl, _, TT, yy⟩
  replace SA := hide (SA.out.touch TT (by omega))
  replace H3q := hide (H3q.out.same (TT.same (by omega) (by omega)))
  replace SG := hide (SG.out.same (TT.same (by omega) (by omega)))
  have ow2 : r1 ≤ v18.heap.size := by omega
  clear TT yy H2q ow
  have ow := ow2
  clear ow2
  go_wp2_with fail
  refine (laws_markIntSSO Xq x fq xss lo3 hi3 (1 + n0 + tm + n2) v18 H3q.out (by omega) (by omega) (by rw [← htx.out]; omega)).mono ?_
  rw [← htx.out]
  rintro r v19 ⟨rfl, _, TT, yy⟩
  replace SA := hide (SA.out.touch TT (by omega))
  replace SG := hide (SG.out.same (TT.same (by omega) (by omega)))
  have ow2 : r1 ≤ v19.heap.size := by omega
  clear TT yy H3q ow
  have ow := ow2
  clear ow2
  go_wp2_with fail
  refine (laws_eqIntSS Rg ng cg res r0 r1 Ra naR caR res 0 z v19 SG.out.ints2 SA.out.ref).mono ?_
  rw [decide_eq_true (rfl : res = res)]
  rintro r v20x ⟨rfl, nq, rfl⟩
  have bq := drewN_below v19 nq
  replace SA := hide (SA.out.below bq (by omega))
  replace SG := hide (SG.out.below bq (by omega))
  have ow2 : r1 ≤ (v19.drewN nq).heap.size := (by show r1 ≤ v19.heap.size; omega)
  generalize v19.drewN nq = v20 at SA SG ow2 ⊢
  have ow := ow2
  clear bq ow2
  go_wp2_with fail
  refine (laws_markIntSSO Rg ng cg res r0 r1 1 v20 SG.out ow (by omega) (by omega)).mono ?_
  rintro r v21 ⟨rfl, hM, TT, yy⟩
  replace SA := hide (SA.out.touch TT (by omega))
  replace SG := hide hM
  have ow2 : r1 ≤ v21.heap.size := by omega
  clear TT yy hM ow
  have ow := ow2
  clear ow2
  go_wp2_with fail
  refine (laws_heldIntSSO Rg ng cg res r0 r1 1 v21 SG.out.ints2 (by omega) (by omega)).mono ?_
  rintro r v21x ⟨rfl, rfl⟩
  have Tha := HCC.out _ SA.out.env
  have eh0 := hide SA.out.env.drew
  have Thb := hide (HCC.out _ eh0.out)
  have HTh0 := hide (laws_toIntS C0 n0 c0 cs0 0 w.heap.size v21.drew (H00.out.below eh0.out.low (Nat.le_refl _)) eh0.out.low.size hm0)
  go_wp2_with fail
  go_region_held3 (fun w' => w'.cell? ⟨w.heap.size, 0, none⟩ = some (.int .i64 o) ∧ w'.cell? ⟨w.heap.size, 1, none⟩ = some (.slice P k e)) (first | exact Thb.out | exact Tha | exact Th1 | exact Th2 | exact Th3 | exact Th4 | exact Th5 | go_keep)
    (first
      | (go_at_call 7; refine HTh0.out.mono ?_; rintro r th1 ⟨Ah0, ch0, rfl, ooh0, bbh1⟩; have eh1 := hide (eh0.out.below bbh1 (by have := eh0.out.size; omega)); have Th1 := HCC.out _ eh1.out; have zh1 := bbh1.size; have szh1 := eh1.out.low.size; have BBh1 := hide (bbh1); have Gh0_1 := hide ooh0; have HTh1 := hide (laws_toFieldO o P k e ps 0 w.heap.size th1 (H10.out.below eh1.out.low (Nat.le_refl _)) szh1 hk HPS.out); clear HTh0 ooh0 bbh1)
      | (go_at_call 8; refine HTh1.out.mono ?_; rintro r th2 ⟨Ah1, ch1, rfl, ooh1, bbh2⟩; have eh2 := hide (eh1.out.below bbh2 (by have := eh1.out.size; omega)); have Th2 := HCC.out _ eh2.out; have zh2 := bbh2.size; have szh2 := eh2.out.low.size; have BBh2 := hide (BBh1.out.trans (bbh2.mono (by omega))); have Gh1_2 := hide ooh1; have Gh0_2 := hide (Gh0_1.out.below bbh2 (by omega)); clear Gh0_1; have HTh2 := hide (laws_toIntS C2 n2 c2 cs2 0 w.heap.size th2 (H20.out.below eh2.out.low (Nat.le_refl _)) szh2 hm2); clear HTh1 ooh1 bbh2)
      | (go_at_call 7; refine HTh2.out.mono ?_; rintro r th3 ⟨Ah2, ch2, rfl, ooh2, bbh3⟩; have eh3 := hide (eh2.out.below bbh3 (by have := eh2.out.size; omega)); have Th3 := HCC.out _ eh3.out; have zh3 := bbh3.size; have szh3 := eh3.out.low.size; have BBh3 := hide (BBh2.out.trans (bbh3.mono (by omega))); have Gh2_3 := hide ooh2; have Gh0_3 := hide (Gh0_2.out.below bbh3 (by omega)); clear Gh0_2; have Gh1_3 := hide (Gh1_2.out.below bbh3 (by omega)); clear Gh1_2; have HTh3 := hide (laws_toIntSSO X x f xss 0 w.heap.size th3 (H30.out.below eh3.out.low (Nat.le_refl _)) szh3 hx1 HR.out); clear HTh2 ooh2 bbh3)
      | (go_at_call 9; refine HTh3.out.mono ?_; rintro r th4 ⟨Ah3, ch3, rfl, ooh3, bbh4⟩; have eh4 := hide (eh3.out.below bbh4 (by have := eh3.out.size; omega)); have Th4 := HCC.out _ eh4.out; have zh4 := bbh4.size; have szh4 := eh4.out.low.size; have BBh4 := hide (BBh3.out.trans (bbh4.mono (by omega))); have Gh3_4 := hide ooh3; have Gh0_4 := hide (Gh0_3.out.below bbh4 (by omega)); clear Gh0_3; have Gh1_4 := hide (Gh1_3.out.below bbh4 (by omega)); clear Gh1_3; have Gh2_4 := hide (Gh2_3.out.below bbh4 (by omega)); clear Gh2_3; have HTh4 := hide (impl_ShadedSeries_all w.heap.size Ah0 n0 ch0 cs0 o Ah1 k ch1 ps Ah2 n2 ch2 cs2 Ah3 x ch3 xss 0 th4.heap.size th4 (HT.out.below eh4.out.low (Nat.le_refl _)) szh4 (Gh0_4.out.ints.wide (lo' := 0) (hi' := th4.heap.size) (Nat.zero_le _) (by omega)) (Gh1_4.out.mons2.wide (lo' := 0) (hi' := th4.heap.size) (Nat.zero_le _) (by omega)) (Gh2_4.out.ints.wide (lo' := 0) (hi' := th4.heap.size) (Nat.zero_le _) (by omega)) (Gh3_4.out.ints2.wide2 (lo' := 0) (hi' := th4.heap.size) (Nat.zero_le _) (by omega)) (Nat.le_refl _) HKL.out); clear HTh3 ooh3 bbh4)
      | (go_at_call 10; refine HTh4.out.mono ?_; rintro r th5 ⟨Rh, nhR, chR, rfl, oRh, bbh5⟩; have eh5 := hide (eh4.out.below bbh5 (by have := eh4.out.size; omega)); have Th5 := HCC.out _ eh5.out; have zh5 := bbh5.size; have BBh5 := hide (BBh4.out.trans (bbh5.mono (by omega))); have HRh := hide oRh; clear oRh; clear HTh4 Gh0_4 Gh1_4 Gh2_4 Gh3_4))
  clear Th1 Th2 Th3 Th4 Th5 eh0 eh1 eh2 eh3 eh4 szh1 szh2 szh3 szh4 BBh1 BBh2 BBh3 BBh4
  have bH := (((Below.refl v21.heap.size v21).drew).trans BBh5.out)
  replace SA := hide (SA.out.below bH SA.out.zw)
  replace SG := hide (SG.out.below bH ow)
  have ow2 : r1 ≤ th5.heap.size := Nat.le_trans ow bH.size
  rw [← hresH.out] at HRh
  clear bH BBh5 Tha Thb eh5 ow zh1 zh2 zh3 zh4 zh5
  go_wp2_with fail
  refine (laws_eqIntSS Rh nhR chR res _ _ Ra naR caR res 0 z th5 HRh.out.ints2 SA.out.ref).mono ?_
  rw [decide_eq_true (rfl : res = res)]
  rintro r vy ⟨rfl, nq, rfl⟩
  have bq := drewN_below th5 nq
  replace SA := hide (SA.out.below bq SA.out.zw)
  replace SG := hide (SG.out.below bq ow2)
  generalize th5.drewN nq = vz at SA SG ⊢
  clear bq HRh
  go_wp2_with fail
  refine (laws_heldIntSSO Rg ng cg res r0 r1 1 vz SG.out.ints2 (by omega) (by omega)).mono ?_
  rintro r vzx ⟨rfl, rfl⟩
  go_wp2_with fail
  go_ret
  exact ⟨rfl, SA.out.env.low⟩

theorem own : ownKnob Tryz.prog.godebug = none := by kernel_rfl
theorem laidOut : laidOutB Tryz.prog = true := by kernel_rfl
set_option maxRecDepth 100000 in
theorem lifted (os : Os) (started : os.Started) (H : Type) (enc : TypeId × Value → H) :
    ReturnsInHanded {} Tryz.checked os 3 .any (Rows.fnExactShadedSeriesSpec.pre6 enc Tryz.prog Tryz.f3 Rows.fnExactShadedSeriesRow.domain false) (Rows.fnExactShadedSeriesSpec.post enc Tryz.prog Tryz.f3 false true false false) := by
  refine returnsInHanded_of_change (C := Tryz.checked) own started (by kernel_rfl) Tryz.func3
    (ChangeSpec.witness6 (enc := enc) (C := Tryz.checked) false ⟨#[], #[.slice none 0 0, .agg #[.int .i64 0, .slice none 0 0], .slice none 0 0, .slice none 0 0], []⟩ 8 (by kernel_rfl) (by kernel_rfl) (by kernel_rfl) (by kernel_rfl)) ?_
  intro W base args ds gs before hval0 hW hcnd _
  have hval : ∀ (j : Nat) t v, Tryz.f3.params[j]? = some t → args[j]? = some v → Value.okWide Tryz.prog W .any base t v := hval0
  have hW' := hW
  obtain ⟨p, q, hA0, hV, rfl, hfz, hnd⟩ := hW
  have hA : DataW.TrodAll enc Tryz.prog W 0 (fun _ => true) true Tryz.f3.params.toList args.toList ds p := hA0
  rw [Tryz.params3] at hA hval
  obtain ⟨v0, vs0, d0, ds0, p0, q0, hargs, rfl, rfl, h0, t0⟩ := trodAll_cons hA
  obtain ⟨v1, vs1, d1, ds1, p1, q1, rfl, rfl, rfl, h1, t1⟩ := trodAll_cons t0
  obtain ⟨v2, vs2, d2, ds2, p2, q2, rfl, rfl, rfl, h2, t2⟩ := trodAll_cons t1
  obtain ⟨v3, vs3, d3, ds3, p3, q3, rfl, rfl, rfl, h3, t3⟩ := trodAll_cons t2
  obtain ⟨rfl, rfl, rfl⟩ := trodAll_nil t3
  obtain rfl : args = #[v0, v1, v2, v3] := by cases args; simp_all
  obtain ⟨dv, rfl, hTv⟩ := var_tree hV
  have k0 := h0
  have lt0 : ∀ x ∈ p0, x.block < W.heap.size := by obtain ⟨m, hm⟩ := k0; exact DataW.trod_lt m _ _ _ hm
  have k1 := h1
  have lt1 : ∀ x ∈ p1, x.block < W.heap.size := by obtain ⟨m, hm⟩ := k1; exact DataW.trod_lt m _ _ _ hm
  have k2 := h2
  have lt2 : ∀ x ∈ p2, x.block < W.heap.size := by obtain ⟨m, hm⟩ := k2; exact DataW.trod_lt m _ _ _ hm
  have k3 := h3
  have lt3 : ∀ x ∈ p3, x.block < W.heap.size := by obtain ⟨m, hm⟩ := k3; exact DataW.trod_lt m _ _ _ hm
  obtain ⟨a0, n0, c0, rfl⟩ := okWide_slice Tryz.underlying22 (hval 0 22 v0 rfl rfl)
  obtain ⟨xs0, r0⟩ := open_pints h0
  obtain ⟨o_1, P_1, k_1, e_1, ps_1, rfl, iP1⟩ := open_pfield h1 (by obtain ⟨cs, hcs, _⟩ := okWide_struct Tryz.underlying25 (hval 1 25 v1 rfl rfl); exact ⟨cs, hcs⟩)
  obtain ⟨a2, n2, c2, rfl⟩ := okWide_slice Tryz.underlying22 (hval 2 22 v2 rfl rfl)
  obtain ⟨xs2, r2⟩ := open_pints h2
  obtain ⟨a3, n3, c3, rfl⟩ := okWide_slice Tryz.underlying26 (hval 3 26 v3 rfl rfl)
  obtain ⟨xs3, r3⟩ := open_pintss h3
  clear hA0 hval0
  refine (walk a0 n0 c0 xs0 o_1 P_1 k_1 e_1 ps_1 a2 n2 c2 xs2 a3 n3 c3 xs3 W r0 iP1 r2 r3 hTv).mono fun e W' ⟨he, bel⟩ => ?_
  subst he
  exact ⟨_, rfl, _, _, _, [], _, q, hW', trodAll_mk1 (shut_bool Tryz.underlying4 _), (trodAll_cons_mk (Below.trod laidOut (by kernel_rfl) (of_decide_eq_true (by kernel_rfl)) k0 bel lt0) (trodAll_cons_mk (Below.trod laidOut (by kernel_rfl) (of_decide_eq_true (by kernel_rfl)) k1 bel lt1) (trodAll_cons_mk (Below.trod laidOut (by kernel_rfl) (of_decide_eq_true (by kernel_rfl)) k2 bel lt2) (trodAll_cons_mk (Below.trod laidOut (by kernel_rfl) (of_decide_eq_true (by kernel_rfl)) k3 bel lt3) trodAll_mk0)))), bel.trodVars laidOut (by kernel_rfl) hV, bel.frame _, fun h => by cases h⟩
theorem over : Rows.fnExactShadedSeriesRow.holds Tryz.pinned (OpenSpec.ofChange Rows.fnExactShadedSeriesSpec) :=
  OpenClaim.holds_of_wide 3 Tryz.f3 rfl rfl rfl rfl rfl rfl rfl ⟨rfl, rfl, rfl, rfl, rfl⟩ rfl rfl rfl rfl rfl (by kernel_rfl) Tryz.func3 (by kernel_rfl)
    (of_decide_eq_true (by kernel_rfl)) (by unfold Func.isWrapper; first | (rw [if_pos (by decide +kernel)]; kernel_rfl) | (rw [if_neg (by decide +kernel)]; exact ⟨rfl, rfl⟩))
    (fun os started H enc _ => lifted os started H enc)
theorem proved : Rows.FnExactShadedSeriesSaid := over
#print axioms proved

end Go.Proofs.YtkaepjigmcielaaGreatDoor.fnExactShadedSeries
