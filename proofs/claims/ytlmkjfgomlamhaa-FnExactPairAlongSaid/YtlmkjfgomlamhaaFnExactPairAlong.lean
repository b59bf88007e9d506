/- Proved here: for every input the statement FnExactPairAlong returns true, and its arguments read as before. No conditions. -/
import Derived.Test.YtlmkjfgomlamhaaJetR
import Derived.Test.YtlmkjfgomlamhaaFrames
namespace Go.Proofs.Ytlmkjfgomlamhaa.fnExactPairAlong
open Go.ChangeShapes Go.WideShapes Go.ChangeAt Go.RowKit
set_option linter.unusedSimpArgs false
set_option linter.unusedVariables false
set_option maxRecDepth 20000

/-- the arguments' boxes and what the reference says -/
structure StA (w wr : World) (vp vf : Array Value) (z : Nat) (W0 : Option Addr) (n0 c0 : Nat) (res : List (List Int)) : Prop where
  env : EnvP w wr vp vf
  ref : Ints2 wr 0 z W0 n0 c0 res
  zl : w.heap.size + 2 ≤ z
  zw : z ≤ wr.heap.size
theorem StA.below {w wr w' : World} {vp vf : Array Value} {z : Nat} {W0 : Option Addr} {n0 c0 : Nat} {res : List (List Int)} (h : StA w wr vp vf z W0 n0 c0 res) {N : Nat} (hb : Below N wr w') (hN : z ≤ N) : StA w w' vp vf z W0 n0 c0 res :=
  ⟨h.env.below hb (by have := h.zl; omega), h.ref.below hb hN, h.zl, by have := hb.size; have := h.zw; omega⟩
theorem StA.touch {w wr w' : World} {vp vf : Array Value} {z : Nat} {W0 : Option Addr} {n0 c0 : Nat} {res : List (List Int)} (h : StA w wr vp vf z W0 n0 c0 res) {lo hi : Nat} (ht : Touch lo hi wr w') (hl : z ≤ lo) : StA w w' vp vf z W0 n0 c0 res :=
  h.below (ht.below hl h.zw) (Nat.le_refl _)
/-- the call's own copies of the arguments -/
structure StX (wr : World) (lo p1 g0 f0 f1 g1 c0 c1 q0 hi : Nat) (A : Option Addr) (n c : Nat) (xs : List Int) (B : Option Addr) (m d : Nat) (ys : List Int) (A' : Option Addr) (n' c' : Nat) (xs' : List Int) (B' : Option Addr) (m' d' : Nat) (ys' : List Int) (v0 v1 : Array Value)
    (P : Option Addr) (k e : Nat) (ps : List (List Mono)) (C : Option Addr) (nC cC : Nat) (cs : List Int) (X : Option Addr) (x f : Nat) (xss : List (List Int)) : Prop where
  pa : PairS wr lo p1 A n c xs B m d ys A' n' c' xs' B' m' d' ys'
  b0 : BlkN wr g0 v0
  fi : Ros kM 81 wr f0 f1 P k e ps
  b1 : BlkN wr g1 v1
  co : OwnI wr c0 c1 C nC cC cs
  pt : Ros kO 22 wr q0 hi X x f xss
  ord : lo ≤ p1 ∧ p1 ≤ g0 ∧ g0 < f0 ∧ f0 ≤ f1 ∧ f1 ≤ g1 ∧ g1 < c0 ∧ c0 ≤ c1 ∧ c1 ≤ q0 ∧ q0 ≤ hi
  hw : hi ≤ wr.heap.size
theorem StX.below {wr w' : World} {lo p1 g0 f0 f1 g1 c0 c1 q0 hi : Nat} {A : Option Addr} {n c : Nat} {xs : List Int} {B : Option Addr} {m d : Nat} {ys : List Int} {A' : Option Addr} {n' c' : Nat} {xs' : List Int} {B' : Option Addr} {m' d' : Nat} {ys' : List Int} {v0 v1 : Array Value}
    {P : Option Addr} {k e : Nat} {ps : List (List Mono)} {C : Option Addr} {nC cC : Nat} {cs : List Int} {X : Option Addr} {x f : Nat} {xss : List (List Int)} (h : StX wr lo p1 g0 f0 f1 g1 c0 c1 q0 hi A n c xs B m d ys A' n' c' xs' B' m' d' ys' v0 v1 P k e ps C nC cC cs X x f xss) {N : Nat} (hb : Below N wr w') (hN : hi ≤ N) :
    StX w' lo p1 g0 f0 f1 g1 c0 c1 q0 hi A n c xs B m d ys A' n' c' xs' B' m' d' ys' v0 v1 P k e ps C nC cC cs X x f xss := by
  obtain ⟨o1, o2, o3, o4, o5, o6, o7, o8, o9⟩ := h.ord
  exact ⟨h.pa.below hb (by omega), h.b0.same (hb.block _ (by omega)), h.fi.below hb (by omega), h.b1.same (hb.block _ (by omega)), h.co.below hb (by omega), h.pt.below hb (by omega), h.ord, by have := hb.size; have := h.hw; omega⟩

theorem drewN_below (wr : World) (q : Nat) : Below wr.heap.size wr (wr.drewN q) := below_drewN (Below.refl _ _) q

section
variable {H : Type} {enc : TypeId × Value → H} {W : World} {sp : Nat → Bool} {held : Bool} {fuel : Nat} {cs : List Value} {x : DataW H × List MemPlace}
theorem cells_mono (h : DataW.trod enc Try.prog W 0 sp held fuel 98 cs = some x) : ∃ a B k d xs, cs = [.int .i64 a, .slice B k d] ∧ R64 a ∧ Ints W 0 W.heap.size B k d xs := by
  obtain ⟨ys, n, _, _, hl, hn, hf⟩ := DataW.trod_struct Try.underlying98 h
  have hl2 : cs.length = 2 := hl.trans (by kernel_rfl)
  match cs, hl2 with
  | [c0, c1], _ =>
    have hn2 : ys.length = 2 := hn
    have h0 := hf 0 _ rfl
    have h1 := hf 1 _ rfl
    have e0 : ([c0, c1].drop 0).take (Try.prog.cellsOf 3) = [c0] := by rw [show Try.prog.cellsOf 3 = 1 from by kernel_rfl]; rfl
    have e1 : ([c0, c1].drop 1).take (Try.prog.cellsOf 22) = [c1] := by rw [show Try.prog.cellsOf 22 = 1 from by kernel_rfl]; rfl
    rw [List.getElem?_eq_getElem (by omega)] at h0 h1
    obtain ⟨a, ha, _, wa⟩ := DataW.trod_int Try.underlying3 ((congrArg _ e0).symm.trans h0)
    obtain ⟨B, k, d, xs, hb, hi⟩ := cells_ints ((congrArg _ e1).symm.trans h1)
    simp at ha hb
    exact ⟨a, B, k, d, xs, by rw [ha, hb], r64_of_wf wa, hi⟩
theorem cells_monos (h : DataW.trod enc Try.prog W 0 sp held fuel 76 cs = some x) : ∃ A n c ms, cs = [.slice A n c] ∧ Mons W 0 W.heap.size A n c ms := by
  obtain ⟨A, n, c, ms, rfl, h1, h2, h3, h4⟩ := open_elems (C := 2) Try.underlying76 (by kernel_rfl) (by omega) (fun (m : Mono) (cs : List Value) => ∃ B k d, cs = [.int .i64 m.1, .slice B k d] ∧ R64 m.1 ∧ Ints W 0 W.heap.size B k d m.2)
    (fun fuel cs x hx => by
      obtain ⟨a, B, k, d, xs, e, ra, hi⟩ := cells_mono hx
      exact ⟨(a, xs), B, k, d, e, ra, hi⟩) h
  refine ⟨A, n, c, ms, rfl, h1, h2, h3, fun hn => ?_⟩
  obtain ⟨ad, rfl, hb, hat⟩ := h4 hn
  refine ⟨ad, rfl, Nat.zero_le _, hb, fun j m hj => ?_⟩
  obtain ⟨cs', ⟨B, k, d, rfl, ra, hi⟩, _, hc⟩ := hat j m hj
  exact ⟨hc 0 (by omega), ra, B, k, d, hc 1 (by omega), hi⟩
theorem cells_monoss (h : DataW.trod enc Try.prog W 0 sp held fuel 27 cs = some x) : ∃ A n c ps, cs = [.slice A n c] ∧ Mons2 W 0 W.heap.size A n c ps := by
  obtain ⟨A, n, c, ms, rfl, h1, h2, h3, h4⟩ := open_elems (C := 1) Try.underlying27 (by kernel_rfl) (by omega) (fun (m : List Mono) (cs : List Value) => ∃ B k d, cs = [.slice B k d] ∧ Mons W 0 W.heap.size B k d m)
    (fun fuel cs x hx => by
      obtain ⟨B, k, d, xs, e, hi⟩ := cells_monos hx
      exact ⟨xs, B, k, d, e, hi⟩) h
  refine ⟨A, n, c, ms, rfl, h1, h2, h3, fun hn => ?_⟩
  obtain ⟨ad, rfl, hb, hat⟩ := h4 hn
  refine ⟨ad, rfl, Nat.zero_le _, hb, fun j m hj => ?_⟩
  obtain ⟨cs', ⟨B, k, d, rfl, hi⟩, _, hc⟩ := hat j m hj
  have h0 := hc 0 (by omega)
  rw [Nat.mul_one, Addr.add_zero'] at h0
  exact ⟨B, k, d, h0, hi⟩
theorem cells_field (h : DataW.trod enc Try.prog W 0 sp held fuel 29 cs = some x) : ∃ o P k e ps, cs = [.int .i64 o, .slice P k e] ∧ Mons2 W 0 W.heap.size P k e ps := by
  obtain ⟨ys, n, _, _, hl, hn, hf⟩ := DataW.trod_struct Try.underlying29 h
  have hl2 : cs.length = 2 := hl.trans (by kernel_rfl)
  match cs, hl2 with
  | [c0, c1], _ =>
    have hn2 : ys.length = 2 := hn
    have h0 := hf 0 _ rfl
    have h1 := hf 1 _ rfl
    have e0 : ([c0, c1].drop 0).take (Try.prog.cellsOf 3) = [c0] := by rw [show Try.prog.cellsOf 3 = 1 from by kernel_rfl]; rfl
    have e1 : ([c0, c1].drop 1).take (Try.prog.cellsOf 27) = [c1] := by rw [show Try.prog.cellsOf 27 = 1 from by kernel_rfl]; rfl
    rw [List.getElem?_eq_getElem (by omega)] at h0 h1
    obtain ⟨a, ha, _, wa⟩ := DataW.trod_int Try.underlying3 ((congrArg _ e0).symm.trans h0)
    obtain ⟨B, k, d, xs, hb, hi⟩ := cells_monoss ((congrArg _ e1).symm.trans h1)
    simp at ha hb
    exact ⟨a, B, k, d, xs, by rw [ha, hb], hi⟩
theorem open_pfield {v : Value} {d : DataW H} {p : List MemPlace} (h : DataW.Trod enc Try.prog W 0 sp held 29 v d p) (hv : ∃ cs, v = .agg cs) : ∃ o P k e ps, v = .agg #[.int .i64 o, .slice P k e] ∧ Mons2 W 0 W.heap.size P k e ps := by
  obtain ⟨m, hm⟩ := h
  obtain ⟨cs, rfl⟩ := hv
  obtain ⟨o, P, k, e, ps, he, hi⟩ := cells_field hm
  refine ⟨o, P, k, e, ps, ?_, hi⟩
  simp [Value.cells] at he
  exact congrArg Value.agg (Array.ext' (by simpa using he))
end

set_option maxRecDepth 100000 in
set_option maxHeartbeats 16000000 in
theorem walk (s : Int) (A : Option Addr) (n c : Nat) (xs : List Int) (B : Option Addr) (m d : Nat) (ys : List Int) (s' : Int) (A' : Option Addr) (n' c' : Nat) (xs' : List Int) (B' : Option Addr) (m' d' : Nat) (ys' : List Int) (o : Int) (P : Option Addr) (k e : Nat) (ps : List (List Mono)) (C : Option Addr) (nC cC : Nat) (cs : List Int) (X : Option Addr) (x f : Nat) (xss : List (List Int)) (w : World) (h : Ints w 0 w.heap.size A n c xs) (g : Ints w 0 w.heap.size B m d ys) (h' : Ints w 0 w.heap.size A' n' c' xs') (g' : Ints w 0 w.heap.size B' m' d' ys') (hp : Mons2 w 0 w.heap.size P k e ps) (hc : Ints w 0 w.heap.size C nC cC cs) (hx : Ints2 w 0 w.heap.size X x f xss) :
    Calls Try.prog 3 #[.agg #[.int .i64 s, .slice A n c, .slice B m d, .int .i64 s', .slice A' n' c', .slice B' m' d'], .agg #[.int .i64 o, .slice P k e], .slice C nC cC, .slice X x f] w fun e w' => e = .returned (.bool true) ∧ Below w.heap.size w w' := by
  have q1 := h.cap
  have q2 := h.max
  have q3 := g.cap
  have q4 := g.max
  have q5 := h'.cap
  have q6 := h'.max
  have q7 := g'.cap
  have q8 := g'.max
  have q9 := hp.cap
  have q10 := hp.max
  have q11 := hc.cap
  have q12 := hc.max
  have q13 := hx.cap
  have q14 := hx.max
  have b0 := below_alloc w (.cells #[.int .i64 s, .slice A n c, .slice B m d, .int .i64 s', .slice A' n' c', .slice B' m' d'] 26)
  have k0 := BlkN.new w #[.int .i64 s, .slice A n c, .slice B m d, .int .i64 s', .slice A' n' c', .slice B' m' d'] 26
  have z0 : (w.alloc (.cells #[.int .i64 s, .slice A n c, .slice B m d, .int .i64 s', .slice A' n' c', .slice B' m' d'] 26)).heap.size = w.heap.size + 1 := by simp
  have E0 : EnvP w ((w.alloc (.cells #[.int .i64 s, .slice A n c, .slice B m d, .int .i64 s', .slice A' n' c', .slice B' m' d'] 26)).alloc (.cells #[.int .i64 o, .slice P k e] 29)) #[.int .i64 s, .slice A n c, .slice B m d, .int .i64 s', .slice A' n' c', .slice B' m' d'] #[.int .i64 o, .slice P k e] := by
    have k1 := BlkN.new (w.alloc (.cells #[.int .i64 s, .slice A n c, .slice B m d, .int .i64 s', .slice A' n' c', .slice B' m' d'] 26)) #[.int .i64 o, .slice P k e] 29
    rw [z0] at k1
    exact ⟨b0.alloc (by omega) _, k0.alloc _, k1⟩
  clear b0 k0 z0
  by_cases hcl : 1048576 < nC
  · go_enter Try.func3, Try.ntmps3
    go_wp2_with fail
    go_ret
    exact ⟨rfl, E0.low⟩
  have hcl' : nC ≤ 1048576 := by omega
  clear hcl
  go_enter Try.func3, Try.ntmps3
  have u0 := E0.par.c 0 rfl
  have u1 := E0.par.c 1 rfl
  have u2 := E0.par.c 2 rfl
  have u3 := E0.par.c 3 rfl
  have u4 := E0.par.c 4 rfl
  have u5 := E0.par.c 5 rfl
  go_wp2_with fail
  clear u0 u1 u2 u3 u4 u5
  generalize (w.alloc (.cells #[.int .i64 s, .slice A n c, .slice B m d, .int .i64 s', .slice A' n' c', .slice B' m' d'] 26)).alloc (.cells #[.int .i64 o, .slice P k e] 29) = W0 at E0 ⊢
  refine (laws_szPair s A n c B m d s' A' n' c' B' m' d' 1048576 W0 (by omega) (by omega) (by omega) (by omega) (by omega) (by omega)).mono ?_
  by_cases hs1 : (1048576 : Int) < (n : Int) + m + n' + m'
  · rw [sz4F_big hs1]
    rintro r w1 ⟨rfl, hb⟩
    have E1 := E0.below hb E0.size
    go_wp2_with fail
    go_ret
    exact ⟨rfl, E1.low⟩
  rw [sz4F_ok (by omega)]
  rintro r w1 ⟨rfl, hb⟩
  have E1 := E0.below hb E0.size
  clear hb E0
  have f0 := E1.fld.c 0 rfl
  have f1 := E1.fld.c 1 rfl
  go_wp2_with fail
  clear f0 f1
  refine (laws_szField o P k e ps 0 w.heap.size (1048576 - n - m - n' - m') w1 (hp.below E1.low (Nat.le_refl _)) E1.low.size (by omega) (by omega)).mono ?_
  rintro r w2 ⟨l2, rfl, ⟨hs2, hs3, hs4⟩, hb⟩
  have E2 := E1.below hb E1.size
  clear hb E1
  by_cases hs5 : l2 < 0
  · go_wp2_with fail
    go_ret
    exact ⟨rfl, E2.low⟩
  obtain ⟨hk, hps⟩ := hs4 (by omega)
  have HPS := hide hps
  have hl2 : l2 ≤ 1048576 := by omega
  clear hs2 hs3 hs4 hps
  go_wp2_with fail
  refine (laws_szIntSS X x f xss 0 w.heap.size l2 w2 (hx.below E2.low (Nat.le_refl _)) (by omega) hl2).mono ?_
  rcases szRows_ok2 xss (l := l2) (by omega) hl2 with hlt | ⟨hge, hn0, hr0⟩
  · rintro r w3 ⟨rfl, rfl⟩
    go_wp2_with fail
    go_ret
    exact ⟨rfl, E2.low⟩
  rintro r w3 ⟨rfl, rfl⟩
  have hx1 : x ≤ 1048576 := by rw [← hx.len]; exact hn0
  have HR := hide hr0
  have HKL := hide fun p hp m hm => (HPS.out p hp).2 m hm
  have HH := hide h
  have HG := hide g
  have HH' := hide h'
  have HG' := hide g'
  have HP := hide hp
  have HC := hide hc
  have HX := hide hx
  have hnl : n ≤ 1048576 := by omega
  have hml : m ≤ 1048576 := by omega
  have hnl' : n' ≤ 1048576 := by omega
  have hml' : m' ≤ 1048576 := by omega
  have HCC := hide fun (w' : World) (q : EnvP w w' #[.int .i64 s, .slice A n c, .slice B m d, .int .i64 s', .slice A' n' c', .slice B' m' d'] #[.int .i64 o, .slice P k e]) => show w'.cell? ⟨w.heap.size, 0, none⟩ = some (.int .i64 s) ∧ w'.cell? ⟨w.heap.size, 1, none⟩ = some (.slice A n c) ∧ w'.cell? ⟨w.heap.size, 2, none⟩ = some (.slice B m d) ∧ w'.cell? ⟨w.heap.size, 3, none⟩ = some (.int .i64 s') ∧ w'.cell? ⟨w.heap.size, 4, none⟩ = some (.slice A' n' c') ∧ w'.cell? ⟨w.heap.size, 5, none⟩ = some (.slice B' m' d') ∧ w'.cell? ⟨w.heap.size + 1, 0, none⟩ = some (.int .i64 o) ∧ w'.cell? ⟨w.heap.size + 1, 1, none⟩ = some (.slice P k e) from ⟨q.par.c 0 rfl, q.par.c 1 rfl, q.par.c 2 rfl, q.par.c 3 rfl, q.par.c 4 rfl, q.par.c 5 rfl, q.fld.c 0 rfl, q.fld.c 1 rfl⟩
  have T0 := HCC.out _ E2
  have e0 := hide E2.drew
  have T1 := hide (HCC.out _ e0.out)
  have z0 := e0.out.low.size
  have z02 := e0.out.size
  clear h g h' g' hp hc hx hr0 hn0 E2
  have HTP := hide (laws_toPair s A n c xs B m d ys s' A' n' c' xs' B' m' d' ys' 0 w.heap.size w2.drew (HH.out.below e0.out.low (Nat.le_refl _)) (HG.out.below e0.out.low (Nat.le_refl _)) (HH'.out.below e0.out.low (Nat.le_refl _)) (HG'.out.below e0.out.low (Nat.le_refl _)) z0 hnl hml hnl' hml')
  go_wp2_with fail
  go_region_held3 (fun w' => w'.cell? ⟨w.heap.size, 0, none⟩ = some (.int .i64 s) ∧ w'.cell? ⟨w.heap.size, 1, none⟩ = some (.slice A n c) ∧ w'.cell? ⟨w.heap.size, 2, none⟩ = some (.slice B m d) ∧ w'.cell? ⟨w.heap.size, 3, none⟩ = some (.int .i64 s') ∧ w'.cell? ⟨w.heap.size, 4, none⟩ = some (.slice A' n' c') ∧ w'.cell? ⟨w.heap.size, 5, none⟩ = some (.slice B' m' d') ∧ w'.cell? ⟨w.heap.size + 1, 0, none⟩ = some (.int .i64 o) ∧ w'.cell? ⟨w.heap.size + 1, 1, none⟩ = some (.slice P k e)) (first | exact T1.out | exact T0 | exact Ta1 | exact Ta2 | exact Ta3 | exact Ta4 | exact Ta5 | go_keep)
    (first
      | (go_at_call 8; refine HTP.out.mono ?_; rintro r ta1 ⟨Aa1, ca1, Ba1, da1, Aa2, ca2, Ba2, da2, ma1, ma2, ma3, rfl, oAa, oBa, oAa', oBa', hma, bba1⟩; have ea1 := hide (e0.out.below bba1 z02); have Ta1 := HCC.out _ ea1.out; have za1 := bba1.size; have hPaa := hide (show PairS ta1 w2.drew.heap.size ta1.heap.size Aa1 n ca1 xs Ba1 m da1 ys Aa2 n' ca2 xs' Ba2 m' da2 ys' from ⟨ma1, ma2, ma3, oAa, oBa, oAa', oBa', by omega, by omega, by omega, by omega⟩); have HTF := hide (laws_toFieldO o P k e ps 0 w.heap.size ta1 (HP.out.below ea1.out.low (Nat.le_refl _)) (by omega) hk HPS.out); clear HTP oAa oBa oAa' oBa' bba1)
      | (go_at_call 9; refine HTF.out.mono ?_; rintro r ta2 ⟨Pa1, ka1, rfl, oPa, bba2⟩; have ea2 := hide (ea1.out.below bba2 (by omega)); have Ta2 := HCC.out _ ea2.out; have za2 := bba2.size; have HPaa2 := hide (hPaa.out.below bba2 (Nat.le_refl _)); have hFia := hide oPa; have HTC := hide (laws_toIntS C nC cC cs 0 w.heap.size ta2 (HC.out.below ea2.out.low (Nat.le_refl _)) (by omega) hcl'); clear HTF hPaa oPa bba2)
      | (go_at_call 10; refine HTC.out.mono ?_; rintro r ta3 ⟨Ca1, cca1, rfl, oCa, bba3⟩; have ea3 := hide (ea2.out.below bba3 (by omega)); have Ta3 := HCC.out _ ea3.out; have za3 := bba3.size; have HPaa3 := hide (HPaa2.out.below bba3 (by omega)); have HFia3 := hide (hFia.out.below bba3 (Nat.le_refl _)); have hCoa := hide oCa; have HTX := hide (laws_toIntSSO X x f xss 0 w.heap.size ta3 (HX.out.below ea3.out.low (Nat.le_refl _)) (by omega) hx1 HR.out); clear HTC HPaa2 hFia oCa bba3)
      | (go_at_call 11; refine HTX.out.mono ?_; rintro r ta4 ⟨Xa1, cxa1, rfl, oXa, bba4⟩; have ea4 := hide (ea3.out.below bba4 (by omega)); have Ta4 := HCC.out _ ea4.out; have za4 := bba4.size; have HPaa4 := hide ((HPaa3.out.below bba4 (by omega)).ints (H := ta4.heap.size) (by omega)); have HFma := hide HPaa3.out.form; have HFia4 := hide ((HFia3.out.below bba4 (by omega)).mons2.wide (lo' := 0) (hi' := ta4.heap.size) (Nat.zero_le _) (by omega)); have HCoa4 := hide ((hCoa.out.below bba4 (Nat.le_refl _)).ints.wide (lo' := 0) (hi' := ta4.heap.size) (Nat.zero_le _) (by omega)); have HXoa := hide (oXa.ints2.wide2 (lo' := 0) (hi' := ta4.heap.size) (Nat.zero_le _) (Nat.le_refl _)); have HCA := hide (spec_PairAlong_all s Aa1 n ca1 xs Ba1 m da1 ys s' Aa2 n' ca2 xs' Ba2 m' da2 ys' o Pa1 k ka1 ps Ca1 nC cca1 cs Xa1 x cxa1 xss 0 ta4.heap.size ta4 HPaa4.out.1 HPaa4.out.2.1 HPaa4.out.2.2.1 HPaa4.out.2.2.2 HFia4.out HCoa4.out HXoa.out (Nat.le_refl _) HKL.out HFma.out.1 HFma.out.2); clear HTX HPaa3 HFia3 hCoa oXa bba4)
      | (go_at_call 7; refine HCA.out.mono ?_; rintro r ta5 ⟨Ra, naR, caR, rfl, oRa, bba5⟩; have ea5 := hide (ea4.out.below bba5 (by omega)); have Ta5 := HCC.out _ ea5.out; have za5 := bba5.size; have SA := hide (show StA w ta5 #[.int .i64 s, .slice A n c, .slice B m d, .int .i64 s', .slice A' n' c', .slice B' m' d'] #[.int .i64 o, .slice P k e] ta5.heap.size Ra naR caR (pairAl s xs ys s' xs' ys' o ps cs xss) from ⟨ea5.out, oRa.wide2 (Nat.zero_le _) (Nat.le_refl _), ea5.out.size, Nat.le_refl _⟩); clear HCA HPaa4 HFma HFia4 HCoa4 HXoa))
  clear Ta1 Ta2 Ta3 Ta4 Ta5 ea1 ea2 ea3 ea4
  clear T0 T1 e0 oRa
  obtain ⟨z, hz1⟩ : ∃ z, z = ta5.heap.size := ⟨_, rfl⟩
  rw [← hz1] at SA
  have hz : z ≤ ta5.heap.size := by omega
  have hzw : w.heap.size + 2 ≤ z := by have := ea5.out.size; omega
  clear hz1 ea5
  have u0 := SA.out.env.par.c 0 rfl
  have u1 := SA.out.env.par.c 1 rfl
  have u2 := SA.out.env.par.c 2 rfl
  have u3 := SA.out.env.par.c 3 rfl
  have u4 := SA.out.env.par.c 4 rfl
  have u5 := SA.out.env.par.c 5 rfl
  go_wp2_with fail
  clear u0 u1 u2 u3 u4 u5
  refine (laws_toPair s A n c xs B m d ys s' A' n' c' xs' B' m' d' ys' 0 w.heap.size ta5 (HH.out.below SA.out.env.low (Nat.le_refl _)) (HG.out.below SA.out.env.low (Nat.le_refl _)) (HH'.out.below SA.out.env.low (Nat.le_refl _)) (HG'.out.below SA.out.env.low (Nat.le_refl _)) SA.out.env.low.size hnl hml hnl' hml').mono ?_
  rintro r v1 ⟨A1, c1, B1, d1, A2, c2, B2, d2, m1, m2, m3, rfl, oA, oB, oA', oB', hm, b1⟩
  have y1 := b1.size
  replace SA := hide (SA.out.below b1 hz)
  have hPa : PairS v1 ta5.heap.size v1.heap.size A1 n c1 xs B1 m d1 ys A2 n' c2 xs' B2 m' d2 ys' := ⟨m1, m2, m3, oA, oB, oA', oB', by omega, by omega, by omega, by omega⟩
  have hfm := hide hPa.form
  have j0 := hide (BlkN.new v1 #[.int .i64 s, .slice A1 n c1, .slice B1 m d1, .int .i64 s', .slice A2 n' c2, .slice B2 m' d2] 37)
  have a0 := below_alloc v1 (.cells #[.int .i64 s, .slice A1 n c1, .slice B1 m d1, .int .i64 s', .slice A2 n' c2, .slice B2 m' d2] 37)
  have y2 : v1.heap.size < (v1.alloc (.cells #[.int .i64 s, .slice A1 n c1, .slice B1 m d1, .int .i64 s', .slice A2 n' c2, .slice B2 m' d2] 37)).heap.size := by simp
  replace SA := hide (SA.out.below a0 (by omega))
  have HPa := hide (hPa.below a0 (Nat.le_refl _))
  clear oA oB oA' oB' hm b1 hPa a0
  have u0 := SA.out.env.fld.c 0 rfl
  have u1 := SA.out.env.fld.c 1 rfl
  go_wp2_with fail
  clear u0 u1
  generalize v1.alloc (.cells #[.int .i64 s, .slice A1 n c1, .slice B1 m d1, .int .i64 s', .slice A2 n' c2, .slice B2 m' d2] 37) = v2 at j0 y2 SA HPa ⊢
  obtain ⟨p0, hp0⟩ : ∃ p, p = ta5.heap.size := ⟨_, rfl⟩
  rw [← hp0] at HPa
  have zp0 : z ≤ p0 := by omega
  obtain ⟨g0, hg0⟩ : ∃ p, p = v1.heap.size := ⟨_, rfl⟩
  rw [← hg0] at HPa j0 ⊢
  have p0g0 : p0 ≤ g0 := by omega
  have g0v2 : g0 < v2.heap.size := by omega
  clear hp0 hg0 y1 y2
  refine (laws_toFieldO o P k e ps 0 w.heap.size v2 (HP.out.below SA.out.env.low (Nat.le_refl _)) SA.out.env.low.size hk HPS.out).mono ?_
  rintro r v3 ⟨P1, k1, rfl, oP, b3⟩
  have y3 := b3.size
  replace SA := hide (SA.out.below b3 (by omega))
  replace j0 := hide (j0.out.below b3)
  replace HPa := hide (HPa.out.below b3 (by omega))
  have j1 := hide (BlkN.new v3 #[.int .i64 o, .slice P1 k k1] 41)
  have a3 := below_alloc v3 (.cells #[.int .i64 o, .slice P1 k k1] 41)
  have y4 : v3.heap.size < (v3.alloc (.cells #[.int .i64 o, .slice P1 k k1] 41)).heap.size := by simp
  replace SA := hide (SA.out.below a3 (by omega))
  replace j0 := hide (j0.out.below a3)
  replace HPa := hide (HPa.out.below a3 (by omega))
  have HFi := hide (oP.below a3 (Nat.le_refl _))
  clear oP b3 a3
  go_wp2_with fail
  generalize v3.alloc (.cells #[.int .i64 o, .slice P1 k k1] 41) = v4 at j0 j1 y4 SA HPa HFi ⊢
  obtain ⟨f0, hf0⟩ : ∃ p, p = v2.heap.size := ⟨_, rfl⟩
  rw [← hf0] at HFi
  have g0f0 : g0 < f0 := by omega
  obtain ⟨g1, hg1⟩ : ∃ p, p = v3.heap.size := ⟨_, rfl⟩
  rw [← hg1] at HFi j1 ⊢
  have f0g1 : f0 ≤ g1 := by omega
  have g1v4 : g1 < v4.heap.size := by omega
  have g0v4 : g0 < v4.heap.size := by omega
  clear hf0 hg1 y3 y4
  refine (laws_toIntS C nC cC cs 0 w.heap.size v4 (HC.out.below SA.out.env.low (Nat.le_refl _)) SA.out.env.low.size hcl').mono ?_
  rintro r v5 ⟨C1, cc1, rfl, oC, b5⟩
  have y5 := b5.size
  replace SA := hide (SA.out.below b5 (by omega))
  replace j0 := hide (j0.out.below b5)
  replace j1 := hide (j1.out.below b5)
  replace HPa := hide (HPa.out.below b5 (by omega))
  replace HFi := hide (HFi.out.below b5 (by omega))
  have HCo := hide oC
  clear oC b5
  go_wp2_with fail
  refine (laws_toIntSSO X x f xss 0 w.heap.size v5 (HX.out.below SA.out.env.low (Nat.le_refl _)) SA.out.env.low.size hx1 HR.out).mono ?_
  rintro r v6 ⟨X1, cx1, rfl, oX, b6⟩
  have y6 := b6.size
  replace SA := hide (SA.out.below b6 (by omega))
  replace j0 := hide (j0.out.below b6)
  replace j1 := hide (j1.out.below b6)
  replace HPa := hide (HPa.out.below b6 (by omega))
  replace HFi := hide (HFi.out.below b6 (by omega))
  replace HCo := hide (HCo.out.below b6 (Nat.le_refl _))
  have SX := hide (⟨HPa.out, j0.out, HFi.out, j1.out, HCo.out, oX, ⟨p0g0, Nat.le_refl _, g0f0, f0g1, Nat.le_refl _, g1v4, y5, Nat.le_refl _, y6⟩, Nat.le_refl _⟩ : StX v6 p0 g0 g0 f0 g1 g1 v4.heap.size v5.heap.size v5.heap.size v6.heap.size A1 n c1 xs B1 m d1 ys A2 n' c2 xs' B2 m' d2 ys' #[.int .i64 s, .slice A1 n c1, .slice B1 m d1, .int .i64 s', .slice A2 n' c2, .slice B2 m' d2] #[.int .i64 o, .slice P1 k k1] P1 k k1 ps C1 nC cc1 cs X1 x cx1 xss)
  obtain ⟨c0', hc0'⟩ : ∃ p, p = v4.heap.size := ⟨_, rfl⟩
  obtain ⟨q0', hq0'⟩ : ∃ p, p = v5.heap.size := ⟨_, rfl⟩
  obtain ⟨hi', hhi'⟩ : ∃ p, p = v6.heap.size := ⟨_, rfl⟩
  rw [← hc0', ← hq0', ← hhi'] at SX
  have zhi : z ≤ hi' := by omega
  have hv6 : hi' ≤ v6.heap.size := by omega
  clear hc0' hq0' hhi' j0 j1 HPa HFi HCo oX b6 y5 y6 g0v2 g0v4 g1v4
  have u0 := SX.out.b0.c 0 rfl
  have u1 := SX.out.b0.c 1 rfl
  have u2 := SX.out.b0.c 2 rfl
  have u3 := SX.out.b0.c 3 rfl
  have u4 := SX.out.b0.c 4 rfl
  have u5 := SX.out.b0.c 5 rfl
  have t0 := SX.out.b1.c 0 rfl
  have t1 := SX.out.b1.c 1 rfl
  go_wp2_with fail
  clear u0 u1 u2 u3 u4 u5
  clear t0 t1
  refine (impl_PairAlong_all s A1 n c1 xs B1 m d1 ys s' A2 n' c2 xs' B2 m' d2 ys' o P1 k k1 ps C1 nC cc1 cs X1 x cx1 xss 0 v6.heap.size v6 (SX.out.pa.ints (by have := SX.out.ord; omega)).1 (SX.out.pa.ints (by have := SX.out.ord; omega)).2.1 (SX.out.pa.ints (by have := SX.out.ord; omega)).2.2.1 (SX.out.pa.ints (by have := SX.out.ord; omega)).2.2.2 (SX.out.fi.mons2.wide (Nat.zero_le _) (by have := SX.out.ord; omega)) (SX.out.co.ints.wide (Nat.zero_le _) (by have := SX.out.ord; omega)) (SX.out.pt.ints2.wide2 (Nat.zero_le _) hv6) (Nat.le_refl _) HKL.out hfm.out.1 hfm.out.2).mono ?_
  rintro r v7 ⟨Rg, ng, cg, rfl, oG, b7⟩
  have y7 := b7.size
  replace SA := hide (SA.out.below b7 (by omega))
  replace SX := hide (SX.out.below b7 hv6)
  obtain ⟨r0, hr0⟩ : ∃ p, p = v6.heap.size := ⟨_, rfl⟩
  have SG := hide oG
  rw [← hr0] at SG
  have hir0 : hi' ≤ r0 := by omega
  have r0v7 : r0 ≤ v7.heap.size := by omega
  clear hr0 oG b7 y7 hv6
  obtain ⟨res, hres⟩ : ∃ res, res = (pairAl s xs ys s' xs' ys' o ps cs xss) := ⟨_, rfl⟩
  have htot : totS res ≤ 1048576 := by rw [hres]; exact pairAl_tot _ _ _ _ _ _ _ _ _ _
  rw [← hres] at SA SG
  obtain ⟨r1, hr1⟩ : ∃ p, p = v7.heap.size := ⟨_, rfl⟩
  rw [← hr1] at SG
  have r0r1 : r0 ≤ r1 := by omega
  have r1v7 : r1 ≤ v7.heap.size := by omega
  clear hr1
  have hresH := hide hres
  clear hres r0v7

  have zv7 : z ≤ v7.heap.size := SA.out.zw
  have hv7 : hi' ≤ v7.heap.size := SX.out.hw
  go_wp2_with fail
  refine (laws_eqIntSS Rg ng cg res r0 r1 Ra naR caR res 0 z v7 SG.out.ints2 SA.out.ref).mono ?_
  rw [decide_eq_true (rfl : res = res)]
  rintro r v8 ⟨rfl, nq8, rfl⟩
  have bq8 := drewN_below v7 nq8
  replace SA := hide (SA.out.below bq8 (by omega))
  replace SX := hide (SX.out.below bq8 (by omega))
  replace SG := hide (SG.out.below bq8 (by omega))
  have r1v8 : r1 ≤ (v7.drewN nq8).heap.size := r1v7
  generalize v7.drewN nq8 = v8 at SA SX SG r1v8 ⊢
  clear bq8 zv7 hv7 r1v7
  have HCp := hide fun (w' : World) (q : EnvP w w' #[.int .i64 s, .slice A n c, .slice B m d, .int .i64 s', .slice A' n' c', .slice B' m' d'] #[.int .i64 o, .slice P k e]) (q2 : BlkN w' g0 #[.int .i64 s, .slice A1 n c1, .slice B1 m d1, .int .i64 s', .slice A2 n' c2, .slice B2 m' d2]) => show w'.cell? ⟨w.heap.size, 0, none⟩ = some (.int .i64 s) ∧ w'.cell? ⟨w.heap.size, 1, none⟩ = some (.slice A n c) ∧ w'.cell? ⟨w.heap.size, 2, none⟩ = some (.slice B m d) ∧ w'.cell? ⟨w.heap.size, 3, none⟩ = some (.int .i64 s') ∧ w'.cell? ⟨w.heap.size, 4, none⟩ = some (.slice A' n' c') ∧ w'.cell? ⟨w.heap.size, 5, none⟩ = some (.slice B' m' d') ∧ w'.cell? ⟨g0, 0, none⟩ = some (.int .i64 s) ∧ w'.cell? ⟨g0, 1, none⟩ = some (.slice A1 n c1) ∧ w'.cell? ⟨g0, 2, none⟩ = some (.slice B1 m d1) ∧ w'.cell? ⟨g0, 3, none⟩ = some (.int .i64 s') ∧ w'.cell? ⟨g0, 4, none⟩ = some (.slice A2 n' c2) ∧ w'.cell? ⟨g0, 5, none⟩ = some (.slice B2 m' d2) from ⟨q.par.c 0 rfl, q.par.c 1 rfl, q.par.c 2 rfl, q.par.c 3 rfl, q.par.c 4 rfl, q.par.c 5 rfl, q2.c 0 rfl, q2.c 1 rfl, q2.c 2 rfl, q2.c 3 rfl, q2.c 4 rfl, q2.c 5 rfl⟩
  have zvp : z ≤ v8.heap.size := SA.out.zw
  have hvp : hi' ≤ v8.heap.size := SX.out.hw
  have Tpa := HCp.out _ SA.out.env SX.out.b0
  replace SA := hide (SA.out.below ((Below.refl v8.heap.size v8).drew) (by omega))
  replace SX := hide (SX.out.below ((Below.refl v8.heap.size v8).drew) (by omega))
  replace SG := hide (SG.out.below ((Below.refl v8.heap.size v8).drew) (by omega))
  have Tpb := hide (HCp.out _ SA.out.env SX.out.b0)
  have zdp : v8.heap.size ≤ v8.drew.heap.size := Nat.le_refl _
  have HTP := hide (laws_toPair s A n c xs B m d ys s' A' n' c' xs' B' m' d' ys' 0 w.heap.size v8.drew (HH.out.below SA.out.env.low (Nat.le_refl _)) (HG.out.below SA.out.env.low (Nat.le_refl _)) (HH'.out.below SA.out.env.low (Nat.le_refl _)) (HG'.out.below SA.out.env.low (Nat.le_refl _)) SA.out.env.low.size hnl hml hnl' hml')
  go_wp2_with fail
  go_region_held3 (fun w' => w'.cell? ⟨w.heap.size, 0, none⟩ = some (.int .i64 s) ∧ w'.cell? ⟨w.heap.size, 1, none⟩ = some (.slice A n c) ∧ w'.cell? ⟨w.heap.size, 2, none⟩ = some (.slice B m d) ∧ w'.cell? ⟨w.heap.size, 3, none⟩ = some (.int .i64 s') ∧ w'.cell? ⟨w.heap.size, 4, none⟩ = some (.slice A' n' c') ∧ w'.cell? ⟨w.heap.size, 5, none⟩ = some (.slice B' m' d') ∧ w'.cell? ⟨g0, 0, none⟩ = some (.int .i64 s) ∧ w'.cell? ⟨g0, 1, none⟩ = some (.slice A1 n c1) ∧ w'.cell? ⟨g0, 2, none⟩ = some (.slice B1 m d1) ∧ w'.cell? ⟨g0, 3, none⟩ = some (.int .i64 s') ∧ w'.cell? ⟨g0, 4, none⟩ = some (.slice A2 n' c2) ∧ w'.cell? ⟨g0, 5, none⟩ = some (.slice B2 m' d2)) (first | exact Tpb.out | exact Tpa | exact Tp1 | exact Tp2 | go_keep)
    (first
      | (go_at_call 8; refine HTP.out.mono ?_; rintro r v9 ⟨Ap1, cp1, Bp1, dp1, Ap2, cp2, Bp2, dp2, mp1, mp2, mp3, rfl, pA, pB, pA', pB', hm, bb1⟩; have zp1 := bb1.size; replace SA := hide (SA.out.below bb1 (by omega)); replace SX := hide (SX.out.below bb1 (by omega)); replace SG := hide (SG.out.below bb1 (by omega)); have Tp1 := HCp.out _ SA.out.env SX.out.b0; have hEQ := laws_eqPair s A1 n c1 xs B1 m d1 ys s' A2 n' c2 xs' B2 m' d2 ys' 0 v9.heap.size s Ap1 n cp1 xs Bp1 m dp1 ys s' Ap2 n' cp2 xs' Bp2 m' dp2 ys' 0 v9.heap.size v9 (SX.out.pa.ints (H := v9.heap.size) (by have := SX.out.ord; have := SX.out.hw; omega)).1 (SX.out.pa.ints (H := v9.heap.size) (by have := SX.out.ord; have := SX.out.hw; omega)).2.1 (SX.out.pa.ints (H := v9.heap.size) (by have := SX.out.ord; have := SX.out.hw; omega)).2.2.1 (SX.out.pa.ints (H := v9.heap.size) (by have := SX.out.ord; have := SX.out.hw; omega)).2.2.2 (pA.ints.wide (Nat.zero_le _) (by omega)) (pB.ints.wide (Nat.zero_le _) (by omega)) (pA'.ints.wide (Nat.zero_le _) (by omega)) (pB'.ints.wide (Nat.zero_le _) (Nat.le_refl _)) (Nat.le_refl _) (Nat.le_refl _); rw [pairEq_refl] at hEQ; have HEQ := hide hEQ; clear HTP hEQ pA pB pA' pB' hm bb1)
      | (go_at_call 14; refine HEQ.out.mono ?_; rintro r v10 ⟨rfl, bb2⟩; have zp2 := bb2.size; replace SA := hide (SA.out.below bb2 (by omega)); replace SX := hide (SX.out.below bb2 (by omega)); replace SG := hide (SG.out.below bb2 (by omega)); have Tp2 := HCp.out _ SA.out.env SX.out.b0; clear HEQ bb2))
  have r1v10 : r1 ≤ v10.heap.size := by omega
  clear Tp1 Tp2 Tpa Tpb HCp zp1 zp2 zdp r1v8 zvp hvp
  have HCf := hide fun (w' : World) (q : EnvP w w' #[.int .i64 s, .slice A n c, .slice B m d, .int .i64 s', .slice A' n' c', .slice B' m' d'] #[.int .i64 o, .slice P k e]) (q2 : BlkN w' g1 #[.int .i64 o, .slice P1 k k1]) => show w'.cell? ⟨w.heap.size + 1, 0, none⟩ = some (.int .i64 o) ∧ w'.cell? ⟨w.heap.size + 1, 1, none⟩ = some (.slice P k e) ∧ w'.cell? ⟨g1, 0, none⟩ = some (.int .i64 o) ∧ w'.cell? ⟨g1, 1, none⟩ = some (.slice P1 k k1) from ⟨q.fld.c 0 rfl, q.fld.c 1 rfl, q2.c 0 rfl, q2.c 1 rfl⟩
  have zvf : z ≤ v10.heap.size := SA.out.zw
  have hvf : hi' ≤ v10.heap.size := SX.out.hw
  have Tfa := HCf.out _ SA.out.env SX.out.b1
  replace SA := hide (SA.out.below ((Below.refl v10.heap.size v10).drew) (by omega))
  replace SX := hide (SX.out.below ((Below.refl v10.heap.size v10).drew) (by omega))
  replace SG := hide (SG.out.below ((Below.refl v10.heap.size v10).drew) (by omega))
  have Tfb := hide (HCf.out _ SA.out.env SX.out.b1)
  have zdf : v10.heap.size ≤ v10.drew.heap.size := Nat.le_refl _
  have HTP := hide (laws_toFieldO o P k e ps 0 w.heap.size v10.drew (HP.out.below SA.out.env.low (Nat.le_refl _)) SA.out.env.low.size hk HPS.out)
  go_wp2_with fail
  go_region_held3 (fun w' => w'.cell? ⟨w.heap.size + 1, 0, none⟩ = some (.int .i64 o) ∧ w'.cell? ⟨w.heap.size + 1, 1, none⟩ = some (.slice P k e) ∧ w'.cell? ⟨g1, 0, none⟩ = some (.int .i64 o) ∧ w'.cell? ⟨g1, 1, none⟩ = some (.slice P1 k k1)) (first | exact Tfb.out | exact Tfa | exact Tf1 | exact Tf2 | go_keep)
    (first
      | (go_at_call 9; refine HTP.out.mono ?_; rintro r v11 ⟨Pf1, kf1, rfl, oPf, bb1⟩; have zf1 := bb1.size; replace SA := hide (SA.out.below bb1 (by omega)); replace SX := hide (SX.out.below bb1 (by omega)); replace SG := hide (SG.out.below bb1 (by omega)); have Tf1 := HCf.out _ SA.out.env SX.out.b1; have hEQ := laws_eqField o P1 k k1 ps 0 v11.heap.size o Pf1 k kf1 ps 0 v11.heap.size v11 (SX.out.fi.mons2.wide (Nat.zero_le _) (by have := SX.out.ord; have := SX.out.hw; omega)) (oPf.mons2.wide (Nat.zero_le _) (Nat.le_refl _)) (Nat.le_refl _) (Nat.le_refl _); rw [decide_eq_true (rfl : o = o), decide_eq_true (rfl : ps = ps)] at hEQ; have HEQ := hide hEQ; clear HTP hEQ oPf bb1)
      | (go_at_call 15; refine HEQ.out.mono ?_; rintro r v12 ⟨rfl, bb2⟩; have zf2 := bb2.size; replace SA := hide (SA.out.below bb2 (by omega)); replace SX := hide (SX.out.below bb2 (by omega)); replace SG := hide (SG.out.below bb2 (by omega)); have Tf2 := HCf.out _ SA.out.env SX.out.b1; clear HEQ bb2))
  have r1v12 : r1 ≤ v12.heap.size := by omega
  clear Tf1 Tf2 Tfa Tfb HCf zf1 zf2 zdf r1v10 zvf hvf
  have zv12 : z ≤ v12.heap.size := SA.out.zw
  have hv12 : hi' ≤ v12.heap.size := SX.out.hw
  go_wp2_with fail
  refine (laws_toIntS C nC cC cs 0 w.heap.size v12 (HC.out.below SA.out.env.low (Nat.le_refl _)) SA.out.env.low.size hcl').mono ?_
  rintro r v13 ⟨C3, cc3, rfl, oC3, b13⟩
  have y13 := b13.size
  replace SA := hide (SA.out.below b13 (by omega))
  replace SX := hide (SX.out.below b13 (by omega))
  replace SG := hide (SG.out.below b13 (by omega))
  clear b13
  go_wp2_with fail
  refine (laws_eqIntS C1 nC cc1 cs g1 hi' C3 nC cc3 cs v12.heap.size v13.heap.size v13 ((SX.out.co.ints).wide (by have := SX.out.ord; omega) (by have := SX.out.ord; omega)) oC3.ints).mono ?_
  rw [decide_eq_true (rfl : cs = cs)]
  rintro r v14 ⟨rfl, nq14, rfl⟩
  have bq14 := drewN_below v13 nq14
  replace SA := hide (SA.out.below bq14 (by omega))
  replace SX := hide (SX.out.below bq14 (by omega))
  replace SG := hide (SG.out.below bq14 (by omega))
  have r1v14 : r1 ≤ (v13.drewN nq14).heap.size := (by show r1 ≤ v13.heap.size; omega)
  generalize v13.drewN nq14 = v14 at SA SX SG r1v14 ⊢
  clear bq14 oC3 y13 r1v12 zv12 hv12
  have zv14 : z ≤ v14.heap.size := SA.out.zw
  have hv14 : hi' ≤ v14.heap.size := SX.out.hw
  go_wp2_with fail
  refine (laws_toIntSSO X x f xss 0 w.heap.size v14 (HX.out.below SA.out.env.low (Nat.le_refl _)) SA.out.env.low.size hx1 HR.out).mono ?_
  rintro r v15 ⟨X3, cx3, rfl, oX3, b15⟩
  have y15 := b15.size
  replace SA := hide (SA.out.below b15 (by omega))
  replace SX := hide (SX.out.below b15 (by omega))
  replace SG := hide (SG.out.below b15 (by omega))
  clear b15
  go_wp2_with fail
  refine (laws_eqIntSS X1 x cx1 xss q0' hi' X3 x cx3 xss v14.heap.size v15.heap.size v15 SX.out.pt.ints2 oX3.ints2).mono ?_
  rw [decide_eq_true (rfl : xss = xss)]
  rintro r v16 ⟨rfl, nq16, rfl⟩
  have bq16 := drewN_below v15 nq16
  replace SA := hide (SA.out.below bq16 (by omega))
  replace SX := hide (SX.out.below bq16 (by omega))
  replace SG := hide (SG.out.below bq16 (by omega))
  have r1v16 : r1 ≤ (v15.drewN nq16).heap.size := (by show r1 ≤ v15.heap.size; omega)
  generalize v15.drewN nq16 = v16 at SA SX SG r1v16 ⊢
  clear bq16 oX3 y15 r1v14 zv14 hv14
  have u0 := SX.out.b0.c 0 rfl
  have u1 := SX.out.b0.c 1 rfl
  have u2 := SX.out.b0.c 2 rfl
  have u3 := SX.out.b0.c 3 rfl
  have u4 := SX.out.b0.c 4 rfl
  have u5 := SX.out.b0.c 5 rfl
  go_wp2_with fail
  clear u0 u1 u2 u3 u4 u5
  have hord := hide SX.out.ord
  have hvx := SX.out.hw
  have hps3 : totMM ps ≤ 1048576 * (1048576 * (1 + 1048576)) := by
    have t1 := totMM_bd (C := 1048576 * (1 + 1048576)) ps (fun p hp => Nat.le_trans (totM_bd (C := 1048576) p (fun m hm => (HPS.out p hp).2 m hm)) (Nat.mul_le_mul_right _ (HPS.out p hp).1))
    have t2 := SX.out.fi.len
    rw [t2] at t1
    exact Nat.le_trans t1 (Nat.mul_le_mul_right _ (by omega))
  have hxs3 : totS xss ≤ 1048576 * 1048576 := by
    have t1 := totS_bd (C := 1048576) xss HR.out
    have t2 := SX.out.pt.len
    rw [t2] at t1
    exact Nat.le_trans t1 (Nat.mul_le_mul_right _ (by omega))
  obtain ⟨tm, htm'⟩ : ∃ tm, tm = totMM ps := ⟨_, rfl⟩
  obtain ⟨tx, htx'⟩ : ∃ tx, tx = totS xss := ⟨_, rfl⟩
  rw [← htm'] at hps3
  rw [← htx'] at hxs3
  have htm := hide htm'
  have htx := hide htx'
  clear htm' htx'
  have hk60 : 1048576 * (1048576 * (1 + 1048576)) = 1152922604118474752 := by decide
  rw [hk60] at hps3
  clear hk60
  refine (laws_markPairR s A1 n c1 xs B1 m d1 ys s' A2 n' c2 xs' B2 m' d2 ys' p0 g0 1 v16 SX.out.pa (by have := hord.out; omega) (by omega) (by omega)).mono ?_
  rintro r v17 ⟨rfl, T17⟩
  have y17 := T17.size
  replace SA := hide (SA.out.touch T17 zp0)
  replace SG := hide (SG.out.same (T17.same (.inr (by have := hord.out; omega)) r1v16))
  have HF := hide (SX.out.fi.same (T17.same (.inr (by have := hord.out; omega)) (by have := hord.out; omega)))
  have HB := hide (SX.out.b1.same (T17.block _ (by have := hord.out; omega) (.inr (by have := hord.out; omega))))
  have HO := hide (SX.out.co.same (T17.same (.inr (by have := hord.out; omega)) (by have := hord.out; omega)))
  have HX2 := hide (SX.out.pt.same (T17.same (.inr (by have := hord.out; omega)) (by have := hord.out; omega)))
  have r1v17 : r1 ≤ v17.heap.size := by omega
  have hiv17 : hi' ≤ v17.heap.size := by omega
  clear T17 y17 SX hvx r1v16
  have t0 := HB.out.c 0 rfl
  have t1 := HB.out.c 1 rfl
  go_wp2_with fail
  clear t0 t1
  refine (laws_markFieldO o P1 k k1 ps f0 g1 (1 + n + m + n' + m') v17 HF.out (by have := hord.out; omega) (by omega) (by rw [← htm.out]; omega)).mono ?_
  rw [← htm.out]
  rintro r v18 ⟨rfl, T18⟩
  have y18 := T18.size
  replace SA := hide (SA.out.touch T18 (by have := hord.out; omega))
  replace SG := hide (SG.out.same (T18.same (.inr (by have := hord.out; omega)) r1v17))
  replace HO := hide (HO.out.same (T18.same (.inr (by have := hord.out; omega)) (by have := hord.out; omega)))
  replace HX2 := hide (HX2.out.same (T18.same (.inr (by have := hord.out; omega)) (by have := hord.out; omega)))
  have r1v18 : r1 ≤ v18.heap.size := by omega
  have hiv18 : hi' ≤ v18.heap.size := by omega
  clear T18 y18 HF HB r1v17 hiv17
  go_wp2_with fail
  refine (laws_markIntS C1 nC cc1 cs g1 q0' (1 + n + m + n' + m' + tm) v18 (HO.out.wide (by have := hord.out; omega) (Nat.le_refl _)) (by omega) (by omega)).mono ?_
  rintro r v19 ⟨rfl, _, T19, y19⟩
  replace SA := hide (SA.out.touch T19 (by have := hord.out; omega))
  replace SG := hide (SG.out.same (T19.same (.inr (by have := hord.out; omega)) r1v18))
  replace HX2 := hide (HX2.out.same (T19.same (.inr (by have := hord.out; omega)) (by have := hord.out; omega)))
  have r1v19 : r1 ≤ v19.heap.size := by omega
  have hiv19 : hi' ≤ v19.heap.size := by omega
  clear T19 y19 HO r1v18 hiv18
  go_wp2_with fail
  refine (laws_markIntSSO X1 x cx1 xss q0' hi' (1 + n + m + n' + m' + tm + nC) v19 HX2.out hiv19 (by omega) (by rw [← htx.out]; omega)).mono ?_
  rw [← htx.out]
  rintro r v20 ⟨rfl, _, T20, y20⟩
  replace SA := hide (SA.out.touch T20 (by have := hord.out; omega))
  replace SG := hide (SG.out.same (T20.same (.inr (by have := hord.out; omega)) r1v19))
  have r1v20 : r1 ≤ v20.heap.size := by omega
  clear T20 y20 HX2 r1v19 hiv19
  go_wp2_with fail
  refine (laws_eqIntSS Rg ng cg res r0 r1 Ra naR caR res 0 z v20 SG.out.ints2 SA.out.ref).mono ?_
  rw [decide_eq_true (rfl : res = res)]
  rintro r v21 ⟨rfl, nq21, rfl⟩
  have bq21 := drewN_below v20 nq21
  replace SA := hide (SA.out.below bq21 SA.out.zw)
  replace SG := hide (SG.out.below bq21 r1v20)
  have r1v21 : r1 ≤ (v20.drewN nq21).heap.size := r1v20
  generalize v20.drewN nq21 = v21 at SA SG r1v21 ⊢
  clear bq21 r1v20
  go_wp2_with fail
  refine (laws_markIntSSO Rg ng cg res r0 r1 1 v21 SG.out r1v21 (by omega) (by omega)).mono ?_
  rintro r v22 ⟨rfl, hM, T22, y22⟩
  replace SA := hide (SA.out.touch T22 (by have := hord.out; omega))
  replace SG := hide hM
  have r1v22 : r1 ≤ v22.heap.size := by omega
  clear T22 y22 hM r1v21
  go_wp2_with fail
  refine (laws_heldIntSSO Rg ng cg res r0 r1 1 v22 SG.out.ints2 (by omega) (by omega)).mono ?_
  rintro r v23 ⟨rfl, rfl⟩
  have T0 := HCC.out _ SA.out.env
  have e0 := hide SA.out.env.drew
  have T1 := hide (HCC.out _ e0.out)
  have z0 := e0.out.low.size
  have z02 := e0.out.size
  have HTP := hide (laws_toPair s A n c xs B m d ys s' A' n' c' xs' B' m' d' ys' 0 w.heap.size v22.drew (HH.out.below e0.out.low (Nat.le_refl _)) (HG.out.below e0.out.low (Nat.le_refl _)) (HH'.out.below e0.out.low (Nat.le_refl _)) (HG'.out.below e0.out.low (Nat.le_refl _)) z0 hnl hml hnl' hml')
  go_wp2_with fail
  go_region_held3 (fun w' => w'.cell? ⟨w.heap.size, 0, none⟩ = some (.int .i64 s) ∧ w'.cell? ⟨w.heap.size, 1, none⟩ = some (.slice A n c) ∧ w'.cell? ⟨w.heap.size, 2, none⟩ = some (.slice B m d) ∧ w'.cell? ⟨w.heap.size, 3, none⟩ = some (.int .i64 s') ∧ w'.cell? ⟨w.heap.size, 4, none⟩ = some (.slice A' n' c') ∧ w'.cell? ⟨w.heap.size, 5, none⟩ = some (.slice B' m' d') ∧ w'.cell? ⟨w.heap.size + 1, 0, none⟩ = some (.int .i64 o) ∧ w'.cell? ⟨w.heap.size + 1, 1, none⟩ = some (.slice P k e)) (first | exact T1.out | exact T0 | exact Th1 | exact Th2 | exact Th3 | exact Th4 | exact Th5 | go_keep)
    (first
      | (go_at_call 8; refine HTP.out.mono ?_; rintro r th1 ⟨Ah1, ch1, Bh1, dh1, Ah2, ch2, Bh2, dh2, mh1, mh2, mh3, rfl, oAh, oBh, oAh', oBh', hmh, bbh1⟩; have eh1 := hide (e0.out.below bbh1 z02); have Th1 := HCC.out _ eh1.out; have zh1 := bbh1.size; have BBh1 := hide bbh1; have hPah := hide (show PairS th1 v22.drew.heap.size th1.heap.size Ah1 n ch1 xs Bh1 m dh1 ys Ah2 n' ch2 xs' Bh2 m' dh2 ys' from ⟨mh1, mh2, mh3, oAh, oBh, oAh', oBh', by omega, by omega, by omega, by omega⟩); have HTF := hide (laws_toFieldO o P k e ps 0 w.heap.size th1 (HP.out.below eh1.out.low (Nat.le_refl _)) (by omega) hk HPS.out); clear HTP oAh oBh oAh' oBh' bbh1)
      | (go_at_call 9; refine HTF.out.mono ?_; rintro r th2 ⟨Ph1, kh1, rfl, oPh, bbh2⟩; have eh2 := hide (eh1.out.below bbh2 (by omega)); have Th2 := HCC.out _ eh2.out; have zh2 := bbh2.size; have BBh2 := hide (BBh1.out.trans (bbh2.mono zh1)); have HPah2 := hide (hPah.out.below bbh2 (Nat.le_refl _)); have hFih := hide oPh; have HTC := hide (laws_toIntS C nC cC cs 0 w.heap.size th2 (HC.out.below eh2.out.low (Nat.le_refl _)) (by omega) hcl'); clear HTF hPah oPh bbh2)
      | (go_at_call 10; refine HTC.out.mono ?_; rintro r th3 ⟨Ch1, cch1, rfl, oCh, bbh3⟩; have eh3 := hide (eh2.out.below bbh3 (by omega)); have Th3 := HCC.out _ eh3.out; have zh3 := bbh3.size; have BBh3 := hide (BBh2.out.trans (bbh3.mono (by omega))); have HPah3 := hide (HPah2.out.below bbh3 (by omega)); have HFih3 := hide (hFih.out.below bbh3 (Nat.le_refl _)); have hCoh := hide oCh; have HTX := hide (laws_toIntSSO X x f xss 0 w.heap.size th3 (HX.out.below eh3.out.low (Nat.le_refl _)) (by omega) hx1 HR.out); clear HTC HPah2 hFih oCh bbh3)
      | (go_at_call 11; refine HTX.out.mono ?_; rintro r th4 ⟨Xh1, cxh1, rfl, oXh, bbh4⟩; have eh4 := hide (eh3.out.below bbh4 (by omega)); have Th4 := HCC.out _ eh4.out; have zh4 := bbh4.size; have BBh4 := hide (BBh3.out.trans (bbh4.mono (by omega))); have HPah4 := hide ((HPah3.out.below bbh4 (by omega)).ints (H := th4.heap.size) (by omega)); have HFmh := hide HPah3.out.form; have HFih4 := hide ((HFih3.out.below bbh4 (by omega)).mons2.wide (lo' := 0) (hi' := th4.heap.size) (Nat.zero_le _) (by omega)); have HCoh4 := hide ((hCoh.out.below bbh4 (Nat.le_refl _)).ints.wide (lo' := 0) (hi' := th4.heap.size) (Nat.zero_le _) (by omega)); have HXoh := hide (oXh.ints2.wide2 (lo' := 0) (hi' := th4.heap.size) (Nat.zero_le _) (Nat.le_refl _)); have HCA := hide (impl_PairAlong_all s Ah1 n ch1 xs Bh1 m dh1 ys s' Ah2 n' ch2 xs' Bh2 m' dh2 ys' o Ph1 k kh1 ps Ch1 nC cch1 cs Xh1 x cxh1 xss 0 th4.heap.size th4 HPah4.out.1 HPah4.out.2.1 HPah4.out.2.2.1 HPah4.out.2.2.2 HFih4.out HCoh4.out HXoh.out (Nat.le_refl _) HKL.out HFmh.out.1 HFmh.out.2); clear HTX HPah3 HFih3 hCoh oXh bbh4)
      | (go_at_call 12; refine HCA.out.mono ?_; rintro r th5 ⟨Rh, nhR, chR, rfl, oRh, bbh5⟩; have eh5 := hide (eh4.out.below bbh5 (by omega)); have Th5 := HCC.out _ eh5.out; have zh5 := bbh5.size; have BBh5 := hide (BBh4.out.trans (bbh5.mono (by omega))); have HRh := hide oRh; clear oRh; clear HCA HPah4 HFmh HFih4 HCoh4 HXoh))
  clear Th1 Th2 Th3 Th4 Th5 eh1 eh2 eh3 eh4 BBh1 BBh2 BBh3 BBh4
  have bH := ((Below.refl v22.heap.size v22).drew).trans BBh5.out
  replace SA := hide (SA.out.below bH SA.out.zw)
  replace SG := hide (SG.out.below bH r1v22)
  have r1h : r1 ≤ th5.heap.size := Nat.le_trans r1v22 bH.size
  rw [← hresH.out] at HRh
  clear bH BBh5 T0 T1 e0 eh5 r1v22 zh1 zh2 zh3 zh4 zh5 z0 z02
  go_wp2_with fail
  refine (laws_eqIntSS Rh nhR chR res _ _ Ra naR caR res 0 z th5 HRh.out.ints2 SA.out.ref).mono ?_
  rw [decide_eq_true (rfl : res = res)]
  rintro r v24 ⟨rfl, nq24, rfl⟩
  have bq24 := drewN_below th5 nq24
  replace SA := hide (SA.out.below bq24 SA.out.zw)
  replace SG := hide (SG.out.below bq24 r1h)
  generalize th5.drewN nq24 = v24 at SA SG ⊢
  clear bq24 HRh
  go_wp2_with fail
  refine (laws_heldIntSSO Rg ng cg res r0 r1 1 v24 SG.out.ints2 (by omega) (by omega)).mono ?_
  rintro r v25 ⟨rfl, rfl⟩
  go_wp2_with fail
  go_ret
  exact ⟨rfl, SA.out.env.low⟩

theorem own : ownKnob Try.prog.godebug = none := by kernel_rfl
theorem laidOut : laidOutB Try.prog = true := by kernel_rfl
set_option maxRecDepth 100000 in
theorem lifted (os : Os) (started : os.Started) (H : Type) (enc : TypeId × Value → H) :
    ReturnsInHanded {} Try.checked os 3 .any (Rows.fnExactPairAlongSpec.pre6 enc Try.prog Try.f3 Rows.fnExactPairAlongRow.domain false) (Rows.fnExactPairAlongSpec.post enc Try.prog Try.f3 false true false false) := by
  refine returnsInHanded_of_change (C := Try.checked) own started (by kernel_rfl) Try.func3
    (ChangeSpec.witness6 (enc := enc) (C := Try.checked) false ⟨#[], #[.agg #[.int .i64 0, .slice none 0 0, .slice none 0 0, .int .i64 0, .slice none 0 0, .slice none 0 0], .agg #[.int .i64 0, .slice none 0 0], .slice none 0 0, .slice none 0 0], []⟩ 8 (by kernel_rfl) (by kernel_rfl) (by kernel_rfl) (by kernel_rfl)) ?_
  intro W base args ds gs before hval0 hW hcnd _
  have hval : ∀ (j : Nat) t v, Try.f3.params[j]? = some t → args[j]? = some v → Value.okWide Try.prog W .any base t v := hval0
  have hW' := hW
  obtain ⟨p, q, hA0, hV, rfl, hfz, hnd⟩ := hW
  have hA : DataW.TrodAll enc Try.prog W 0 (fun _ => true) true Try.f3.params.toList args.toList ds p := hA0
  rw [Try.params3] at hA hval
  obtain ⟨v0, vs0, d0, ds0, p0, q0, hargs, rfl, rfl, h0, t0⟩ := trodAll_cons hA
  obtain ⟨v1, vs1, d1, ds1, p1, q1, rfl, rfl, rfl, h1, t1⟩ := trodAll_cons t0
  obtain ⟨v2, vs2, d2, ds2, p2, q2, rfl, rfl, rfl, h2, t2⟩ := trodAll_cons t1
  obtain ⟨v3, vs3, d3, ds3, p3, q3, rfl, rfl, rfl, h3, t3⟩ := trodAll_cons t2
  obtain ⟨rfl, rfl, rfl⟩ := trodAll_nil t3
  obtain rfl : args = #[v0, v1, v2, v3] := by cases args; simp_all
  obtain ⟨rfl, rfl⟩ := trodVars_none hV
  have k0 := h0
  have lt0 : ∀ x ∈ p0, x.block < W.heap.size := by obtain ⟨m, hm⟩ := k0; exact DataW.trod_lt m _ _ _ hm
  have k1 := h1
  have lt1 : ∀ x ∈ p1, x.block < W.heap.size := by obtain ⟨m, hm⟩ := k1; exact DataW.trod_lt m _ _ _ hm
  have k2 := h2
  have lt2 : ∀ x ∈ p2, x.block < W.heap.size := by obtain ⟨m, hm⟩ := k2; exact DataW.trod_lt m _ _ _ hm
  have k3 := h3
  have lt3 : ∀ x ∈ p3, x.block < W.heap.size := by obtain ⟨m, hm⟩ := k3; exact DataW.trod_lt m _ _ _ hm
  obtain ⟨s_0, A_0, n_0, c_0, xs_0, B_0, m_0, d_0, ys_0, t_0, C_0, k_0, e_0, us_0, D_0, l_0, f_0, zs_0, rfl, iA0, iB0, iC0, iD0⟩ := open_ppair h0 (by obtain ⟨cs, hcs, _⟩ := okWide_struct Try.underlying26 (hval 0 26 v0 rfl rfl); exact ⟨cs, hcs⟩)
  obtain ⟨o_1, P_1, k_1, e_1, ps_1, rfl, iP1⟩ := open_pfield h1 (by obtain ⟨cs, hcs, _⟩ := okWide_struct Try.underlying29 (hval 1 29 v1 rfl rfl); exact ⟨cs, hcs⟩)
  obtain ⟨a2, n2, c2, rfl⟩ := okWide_slice Try.underlying22 (hval 2 22 v2 rfl rfl)
  obtain ⟨xs2, r2⟩ := open_pints h2
  obtain ⟨a3, n3, c3, rfl⟩ := okWide_slice Try.underlying30 (hval 3 30 v3 rfl rfl)
  obtain ⟨xs3, r3⟩ := open_pintss h3
  clear hA0 hval0
  refine (walk s_0 A_0 n_0 c_0 xs_0 B_0 m_0 d_0 ys_0 t_0 C_0 k_0 e_0 us_0 D_0 l_0 f_0 zs_0 o_1 P_1 k_1 e_1 ps_1 a2 n2 c2 xs2 a3 n3 c3 xs3 W iA0 iB0 iC0 iD0 iP1 r2 r3).mono fun e W' ⟨he, bel⟩ => ?_
  subst he
  exact ⟨_, rfl, _, _, _, [], _, [], hW', trodAll_mk1 (shut_bool Try.underlying4 _), (trodAll_cons_mk (Below.trod laidOut (by kernel_rfl) (of_decide_eq_true (by kernel_rfl)) k0 bel lt0) (trodAll_cons_mk (Below.trod laidOut (by kernel_rfl) (of_decide_eq_true (by kernel_rfl)) k1 bel lt1) (trodAll_cons_mk (Below.trod laidOut (by kernel_rfl) (of_decide_eq_true (by kernel_rfl)) k2 bel lt2) (trodAll_cons_mk (Below.trod laidOut (by kernel_rfl) (of_decide_eq_true (by kernel_rfl)) k3 bel lt3) trodAll_mk0)))), rfl, bel.frame _, fun h => by cases h⟩
theorem over : Rows.fnExactPairAlongRow.holds Try.pinned (OpenSpec.ofChange Rows.fnExactPairAlongSpec) :=
  OpenClaim.holds_of_wide 3 Try.f3 rfl rfl rfl rfl rfl rfl rfl ⟨rfl, rfl, rfl, rfl, rfl⟩ rfl rfl rfl rfl rfl (by kernel_rfl) Try.func3 (by kernel_rfl)
    (of_decide_eq_true (by kernel_rfl)) (by unfold Func.isWrapper; first | (rw [if_pos (by decide +kernel)]; kernel_rfl) | (rw [if_neg (by decide +kernel)]; exact ⟨rfl, rfl⟩))
    (fun os started H enc _ => lifted os started H enc)
theorem proved : Rows.FnExactPairAlongSaid := over
#print axioms proved

end Go.Proofs.Ytlmkjfgomlamhaa.fnExactPairAlong
