/- The value of a field at polynomials in h: the program's walk. -/
import Derived.Test.YtlmkjfgomlamhaaJetN
import Derived.Test.YtlmkjfgomlamhaaMono2
namespace Go.Proofs.Ytlmkjfgomlamhaa
open Go.RowKit
set_option linter.unusedSimpArgs false
set_option linter.unusedVariables false
set_option maxRecDepth 20000

def valL (n : Nat) (ps : List (List Mono)) (yss : List (List Int)) : List (List Int) := ps.map fun ms => polyJ n ms fun v => yss.getD v []
theorem val_at {n : Nat} {ps : List (List Mono)} {yss : List (List Int)} {q : Nat} {ms : List Mono} (h : ps[q]? = some ms) : (valL n ps yss)[q]? = some (polyJ n ms fun v => yss.getD v []) := by simp [valL, h]
theorem der_num (n : Nat) (ys : Nat → List Int) : ∀ (ms : List Mono) (o : List Int), (∀ x ∈ o, 0 ≤ x ∧ x < 1000000271) → ∀ x ∈ derJ n ys ms o, 0 ≤ x ∧ x < 1000000271
  | [], _, h => h
  | m :: r, o, _ => der_num n ys r _ (jplus_rng _ _ _)
theorem poly_num (n : Nat) (ms : List Mono) (ys : Nat → List Int) : ∀ x ∈ polyJ n ms ys, 0 ≤ x ∧ x < 1000000271 :=
  der_num n ys ms _ fun x hx => by have := (List.mem_replicate.1 hx).2; omega
theorem val_num (n : Nat) (ps : List (List Mono)) (yss : List (List Int)) : JNum n (valL n ps yss) := by
  intro r hr
  simp only [valL, List.mem_map] at hr
  obtain ⟨ms, _, rfl⟩ := hr
  exact ⟨poly_len _ _ _, poly_num _ _ _⟩
/-- what is asked of a field -/
def GoodF (dim : Nat) (ps : List (List Mono)) : Prop := ps.length = dim ∧ ∀ ms ∈ ps, GoodM dim ms

set_option maxRecDepth 100000 in
set_option maxHeartbeats 8000000 in
theorem impl_fieldAlong (o : Int) (A : Option Addr) (dim c : Nat) (ps : List (List Mono)) (lo hi : Nat) (gy cy : Nat) (yss : List (List Int)) (lo2 hi2 n : Nat) (w : World) (hp : Mons2 w lo hi A dim c ps) (hy : Ints2 w lo2 hi2 (some ⟨gy, 0, none⟩) dim cy yss) (hh : hi ≤ w.heap.size) (hh2 : hi2 ≤ w.heap.size)
    (hG : GoodF dim ps) (hN : JNum n yss) (hd0 : 0 < dim) (hd6 : dim ≤ 6) (hn0 : 0 < n) (hn : n ≤ 1000) :
    Calls Try.prog 60 #[.agg #[.int .i64 o, .slice A dim c], .slice (some ⟨gy, 0, none⟩) dim cy, .slice none 0 0] w fun e w' => ∃ gR cR, e = .returned (.slice (some ⟨gR, 0, none⟩) dim cR) ∧ Ints2 w' w.heap.size w'.heap.size (some ⟨gR, 0, none⟩) dim cR (valL n ps yss) ∧ Below w.heap.size w w' := by
  obtain ⟨i1, hi1, hy0, hy1, hy2⟩ := info_parts info_jet
  have hcp := hp.cap
  have hmp := hp.max
  have HP := hide hp
  have HY := hide hy
  have HG := hide hG
  have HN := hide hN
  have hb0 := below_alloc w (.cells #[.int .i64 o, .slice A dim c] 41)
  have hk0 := BlkN.new w #[.int .i64 o, .slice A dim c] 41
  clear hp hy hG hN
  go_enter Try.func60, Try.ntmps60
  go_wp2_with fail
  have z0 : (w.alloc (.cells #[.int .i64 o, .slice A dim c] 41)).heap.size = w.heap.size + 1 := by simp
  generalize w.alloc (.cells #[.int .i64 o, .slice A dim c] 41) = W0 at hb0 hk0 z0 ⊢
  have hL0 := hide (Lst.empty kI 88 (fun _ => True) W0 w.heap.size hb0.size)
  have hbL := hide (hb0.trans ((below_alloc W0 (.cells #[] 88)).mono hb0.size))
  have zL : (W0.alloc (.cells #[] 88)).heap.size = W0.heap.size + 1 := by simp
  have hL1 := hide (hL0.out.wide (hi2 := (W0.alloc (.cells #[] 88)).heap.size) (by omega))
  rw [z0] at hL1
  clear hL0 zL
  generalize W0.alloc (.cells #[] 88) = W1 at hL1 hbL ⊢
  clear hb0 hk0 z0
  go_loopw [7, 14] (fun p i wr => ∃ (q : Nat) (R : Option Addr) (cR : Nat) (vs : List Value), q ≤ dim ∧ i = .int .i64 q ∧ p = .slice R q cR ∧ Hid (Lst kI 88 (fun _ => True) wr w.heap.size wr.heap.size R q cR vs ((valL n ps yss).take q)) ∧ Hid (Below w.heap.size w wr)) (fun _ i _ => dim - (intOf i).toNat)
  case atStart => exact ⟨0, _, 0, [], by omega, rfl, rfl, hL1.out, hbL.out⟩
  case round =>
    clear hL1 hbL
    obtain ⟨q, R, cR, vs, hq, rfl, rfl, hL, hb⟩ := hrel
    have hsz := hb.out.size
    have hcR := hL.out.capb
    by_cases hlt : q < dim
    · obtain ⟨ad, B, m, d, ms, rfl, hc, hM, _, hx⟩ := (HP.out.below hb.out hh).at_ hlt
      have hgm := HG.out.2 ms (List.mem_of_getElem? hx.out)
      have HD := hide (impl_derived B m d ms lo hi gy dim cy yss lo2 hi2 n wr hM (HY.out.below hb.out hh2) (by omega) (by omega) hgm HN.out hd0 hd6 hn0 hn)
      have hT : Hid ((valL n ps yss).take q ++ [polyJ n ms fun v => yss.getD v []] = (valL n ps yss).take (q + 1)) := take_snocJ (val_at hx.out)
      have hcm := hM.cap
      have hmm := hM.max
      clear hM hx hgm
      go_wp2_with (first
        | (go_at_call 75; refine HD.out.mono ?_; rintro e w2 ⟨R2, c2, rfl, hI2, hb2⟩; have hL2 := hide (hL.out.below hb2 (Nat.le_refl _)); have hI3 := hide hI2; have hb3 := hide (hb.out.trans (hb2.mono hsz)); have hz2 := hb2.size; clear hI2 hb2)
        | (at_builtin; refine wpl_app1 rfl (.tmp 18) (.tmp 23) 68 rfl w.heap.size 88 i1 (.slice none 0 0) 1 24 Try.underlying68 hi1 hy0 hy1 hy2 rfl (by omega) w2 #[.slice R2 n c2] R q cR 1 _ rfl rfl hL2.out.own rfl (by simp [Value.oneCell']) (by omega) (by omega) (by omega) ?_; intro A5 c5 w5 happ5 hlt5; have hL5 := hide (hL2.out.push (l := wr.heap.size) (h' := w2.heap.size) (x := polyJ n ms fun v => yss.getD v []) ⟨R2, n, c2, rfl, hI3.out⟩ (Nat.le_refl _) (Nat.le_refl _) hsz hz2 happ5); have hb5 := hide (happ5.low hb3.out (by omega) (Nat.le_refl _) hL2.out.own); clear happ5))
      rw [hT.out] at hL5
      refine ⟨⟨q + 1, A5, c5, _, by omega, by go_num, rfl, hL5.out, hb5.out⟩, ?_⟩
      simp [intOf]; omega
    · obtain rfl : dim = q := by omega
      have hL2 := hL.out
      rw [List.take_of_length_le (by simp [valL, HG.out.1])] at hL2
      obtain ⟨gR, rfl, _, _, _⟩ := hL2.form hd0
      have HL := hide hL2.ints2
      clear hL hL2
      go_wp2_with fail
      go_ret
      exact ⟨_, _, rfl, HL.out, hb.out⟩

theorem unit_own (w : World) {n : Nat} (hn0 : 0 < n) (hn : n ≤ 1000) : Ints (w.alloc (.cells ((zeros n).setIfInBounds 0 (.int .i64 1)) 3)) w.heap.size (w.alloc (.cells ((zeros n).setIfInBounds 0 (.int .i64 1)) 3)).heap.size (some ⟨w.heap.size, 0, none⟩) n n (unitJ n 1) ∧ Below w.heap.size w (w.alloc (.cells ((zeros n).setIfInBounds 0 (.int .i64 1)) 3)) := by
  have hl : ((zeros n).setIfInBounds 0 (Value.int .i64 1)).toList = (unitJ n 1).map (Value.int .i64) := by
    rw [Array.toList_setIfInBounds, zeros_list, ← unit_set hn0, List.map_set]
    rfl
  have ho := World.ownsRow_lit (size := 1) (e := 3) (base := w.heap.size) w ((zeros n).setIfInBounds 0 (.int .i64 1)) n (Nat.le_refl _) (by unfold maxLen; omega) (by simp [zeros_size])
  rw [hl] at ho
  exact ⟨(⟨ho, fun ad e => (owns_lt ho ad e).2, fun x hx => by
    have := tabJ_num (n := n) (f := fun j => if j = 0 then 1 else 0) (fun j => by split <;> omega) x hx
    constructor <;> omega⟩ : OwnI _ w.heap.size _ _ n n (unitJ n 1)).ints, below_alloc _ _⟩

set_option maxRecDepth 100000 in
set_option maxHeartbeats 8000000 in
theorem spec_l8One (P : Option Addr) (dim cp : Nat) (pw : List Int) (lo hi : Nat) (gy cy : Nat) (yss : List (List Int)) (lo2 hi2 n : Nat) (w : World) (hp : Ints w lo hi P dim cp pw) (hy : Ints2 w lo2 hi2 (some ⟨gy, 0, none⟩) dim cy yss) (hh : hi ≤ w.heap.size) (hh2 : hi2 ≤ w.heap.size)
    (hN : JNum n yss) (hd0 : 0 < dim) (hd6 : dim ≤ 6) (hn0 : 0 < n) (hn : n ≤ 1000) :
    Calls Try.prog 51 #[.slice P dim cp, .slice (some ⟨gy, 0, none⟩) dim cy, .slice none 0 0] w fun e w' => ∃ gR, e = .returned (.slice (some ⟨gR, 0, none⟩) n n) ∧ Ints w' w.heap.size w'.heap.size (some ⟨gR, 0, none⟩) n n (prodJ (fun v => yss.getD v []) pw 0 (unitJ n 1)) ∧ Below w.heap.size w w' := by
  have hcp := hp.cap
  have hmp := hp.max
  have hcy := hy.cap
  have hmy := hy.max
  have HI := hide hp
  have HY := hide hy
  have HN := hide hN
  obtain ⟨ad, B0, m0, d0, y0, e, hc0, hI0, _, hx0⟩ := hy.at_ (k := 0) hd0
  injection e with e
  subst e
  obtain rfl : n = m0 := by rw [← hI0.len]; exact ((hN y0 (List.mem_of_getElem? hx0.out)).1).symm
  have hcy0 : w.cell? ⟨gy, 0, none⟩ = some (.slice B0 n d0) := by simpa [Addr.add_lit] using hc0
  have hcd0 := hI0.cap
  have hmd0 := hI0.max
  have hmk := make_ints n (by omega) w
  have hs0 := hide (unit_own w hn0 hn)
  have hzv : (zeros n)[0]? = some (.int .i64 0) := by
    rw [← Array.getElem?_toList, zeros_list]
    simp [hn0]
  clear hp hy hN hI0 hx0 hc0
  go_enter Try.func51, Try.ntmps51
  go_wp2_with fail
  clear hmk hcy0 hzv
  generalize w.alloc (.cells ((zeros n).setIfInBounds 0 (.int .i64 1)) 3) = W at hs0 ⊢
  have hun : Hid (∀ x ∈ unitJ n 1, 0 ≤ x ∧ x < 1000000271) := tabJ_num fun j => by split <;> omega
  go_loopw [12, 13] (fun p i wr => ∃ (v gj : Nat) (cur : List Int), v ≤ dim ∧ i = .int .i64 v ∧ p = .slice (some ⟨gj, 0, none⟩) n n ∧ Hid (Ints wr w.heap.size wr.heap.size (some ⟨gj, 0, none⟩) n n cur) ∧ Hid (Below w.heap.size w wr) ∧ Hid (∀ x ∈ cur, 0 ≤ x ∧ x < 1000000271) ∧ Hid (prodJ (fun v => yss.getD v []) pw 0 (unitJ n 1) = prodJ (fun v => yss.getD v []) (pw.drop v) v cur)) (fun _ i _ => dim - (intOf i).toNat)
  case atStart => exact ⟨0, _, _, by omega, rfl, rfl, hs0.out.1, hs0.out.2, hun.out, rfl⟩
  case round =>
    clear hs0 hun
    obtain ⟨v, gj, cur, hv, rfl, rfl, hC, hb, hcN, hT⟩ := hrel
    by_cases hlt : v < dim
    · obtain ⟨bd, p, rfl, hcp1, hpr, hdp, hxp⟩ := HI.out.at_ hlt
      obtain ⟨ae, Bv, mv, dv, yv, e, hcy, hIv, _, hxv⟩ := HY.out.at_ hlt
      injection e with e
      subst e
      have hyv := HN.out yv (List.mem_of_getElem? hxv.out)
      obtain rfl : n = mv := by rw [← hIv.len]; exact hyv.1.symm
      have hcy1 : w.cell? ⟨gy, v, none⟩ = some (.slice Bv n dv) := by simpa [Addr.add_lit] using hcy
      have hgy := World.block_lt_of_cell? w _ hcy1
      have hgp := World.block_lt_of_cell? w _ hcp1
      have HCY := hide fun (w' : World) (hB : Below w.heap.size w w') => (hB.cell (p := ⟨gy, v, none⟩) hgy).trans hcy1
      have HCP := hide fun (w' : World) (hB : Below w.heap.size w w') => (hB.cell (p := bd.add v) hgp).trans hcp1
      have hyd : Hid (yss.getD v [] = yv) := by show yss.getD v [] = yv; rw [List.getD, hxv.out]; rfl
      have hT2 : Hid (prodJ (fun v => yss.getD v []) pw 0 (unitJ n 1) = prodJ (fun v => yss.getD v []) (pw.drop (v + 1)) (v + 1) (powJ p.toNat cur yv)) := by
        show _ = _
        rw [hT.out, hdp.out, prodJ, hyd.out]
      have HIV := hide hIv
      have HYV := hide hyv.2
      have hmv := hIv.cap
      have hmv2 := hIv.max
      unfold R64 at hpr
      clear hT hdp hxp hcy hIv hxv hyv hcy1 hyd hcp1
      go_wp2_with fail
      go_loopw [12, 14] (fun q z wr4 => ∃ (zi gj : Nat) (cur : List Int), (zi : Int) ≤ 9223372036854775807 ∧ (0 < zi → (zi : Int) ≤ p) ∧ z = .int .i64 zi ∧ q = .slice (some ⟨gj, 0, none⟩) n n ∧ Hid (Ints wr4 w.heap.size wr4.heap.size (some ⟨gj, 0, none⟩) n n cur) ∧ Hid (Below w.heap.size w wr4) ∧ Hid (∀ x ∈ cur, 0 ≤ x ∧ x < 1000000271) ∧ Hid (prodJ (fun v => yss.getD v []) pw 0 (unitJ n 1) = prodJ (fun v => yss.getD v []) (pw.drop (v + 1)) (v + 1) (powJ (p - zi).toNat cur yv))) (fun _ z _ => p.toNat - (intOf z).toNat)
      case atStart => exact ⟨0, gj, cur, by omega, by omega, rfl, rfl, hC.out, hb.out, hcN.out, by rw [show (p - ((0 : Nat) : Int)).toNat = p.toNat by omega]; exact hT2.out⟩
      case round =>
        clear hC hb hcN hT2
        obtain ⟨zi, gj, cur, hz, hz2, rfl, rfl, hC, hb, hcN, hT⟩ := hrel
        have hcp4 := HCP.out _ hb.out
        by_cases hz0 : (zi : Int) < p
        · obtain ⟨q, hq⟩ : ∃ q : Nat, (p - zi).toNat = q + 1 := ⟨(p - zi).toNat - 1, by omega⟩
          have hT2 : Hid (prodJ (fun v => yss.getD v []) pw 0 (unitJ n 1) = prodJ (fun v => yss.getD v []) (pw.drop (v + 1)) (v + 1) (powJ (p - ((zi + 1 : Nat) : Int)).toNat (jmul cur yv) yv)) := by
            show _ = _
            rw [hT.out, hq, powJ, show (p - ((zi + 1 : Nat) : Int)).toNat = q by omega]
          have hcy4 := HCY.out _ hb.out
          have hsz := hb.out.size
          have HTM := hide (spec_l8Mul (some ⟨gj, 0, none⟩) n n cur w.heap.size wr.heap.size Bv dv yv lo2 hi2 wr hC.out (HIV.out.below hb.out hh2) (Nat.le_refl _) (by omega) hn hcN.out HYV.out)
          clear hq hT
          go_wp2_with (go_at_call 68; refine HTM.out.mono ?_; rintro e w5 ⟨gj2, rfl, hO5, hb5⟩; have hI5 := hide (hO5.ints.wide (lo' := w.heap.size) hsz (Nat.le_refl _)); have hb6 := hide (hb.out.trans (hb5.mono hsz)); clear hO5 hb5)
          refine ⟨⟨zi + 1, gj2, _, by omega, by omega, by go_num, rfl, hI5.out, hb6.out, jmul_rng _ _, hT2.out⟩, ?_⟩
          simp [intOf]; omega
        · have hT2 : Hid (prodJ (fun v => yss.getD v []) pw 0 (unitJ n 1) = prodJ (fun v => yss.getD v []) (pw.drop (v + 1)) (v + 1) cur) := by
            show _ = _
            rw [hT.out, show (p - zi).toNat = 0 by omega, powJ]
          clear hT
          go_wp2_with fail
          go_roundw
          case rel => exact ⟨v + 1, gj, cur, by omega, by go_num, rfl, hC.out, hb.out, hcN.out, hT2.out⟩
          case measure => simp [intOf]; omega
    · obtain rfl : dim = v := by omega
      rw [List.drop_eq_nil_of_le (Nat.le_of_eq HI.out.len), prodJ] at hT
      go_wp2_with fail
      go_ret
      exact ⟨_, rfl, by rw [hT.out]; exact hC.out, hb.out⟩
end Go.Proofs.Ytlmkjfgomlamhaa
