/- Helpers for weights of shaded trees: sums of products, rows, tableaus of a colour, a row of ones. -/
import Derived.Test.YtkaepjigmcielaaGreatDoorMzL
import Derived.Test.YtkaepjigmcielaaGreatDoorShW
import Derived.Test.YtkaepjigmcielaaGreatDoorMzO
import Derived.Test.YtkaepjigmcielaaGreatDoorMzB
import Derived.Laws.CopyOwn
import Derived.Test.YtkaepjigmcielaaGreatDoorDfV
namespace Go.Proofs.YtkaepjigmcielaaGreatDoor
open Go.RowKit
set_option linter.unusedSimpArgs false
set_option linter.unusedVariables false
set_option maxRecDepth 20000

end Go.Proofs.YtkaepjigmcielaaGreatDoor
/- A monomial's derivative along directions: the reference's walk. -/
namespace Go.Proofs.YtkaepjigmcielaaGreatDoor
open Go.RowKit
set_option linter.unusedSimpArgs false
set_option linter.unusedVariables false
set_option maxRecDepth 20000

theorem Ints3.tail {w : World} {lo hi : Nat} {ad : Addr} {K c : Nat} {x : List (List Int)} {r : List (List (List Int))} (h : Ints3 w lo hi (some ad) (K + 1) c (x :: r)) : Ints3 w lo hi (if c = 1 then some ad else some (ad.add 1)) K (c - 1) r := by
  have h1 := h.len
  have h2 := h.cap
  have h3 := h.max
  simp at h1
  refine ⟨h1, by omega, by omega, fun hK => ?_⟩
  obtain ⟨ae, e, b1, b2, hc⟩ := h.cells (by omega)
  injection e with e
  subst e
  rw [if_neg (show ¬ c = 1 by omega)]
  refine ⟨_, rfl, by rw [block_of_add]; exact b1, by rw [block_of_add]; exact b2, fun j xs hj => ?_⟩
  have := hc (j + 1) xs (by simpa using hj)
  have e2 : (ad.add 1).add j = ad.add (j + 1) := by
    rw [Addr.add_add, Nat.add_comm]
  rw [e2]
  exact this
theorem slice_tail (ad : Addr) (K c : Nat) (W : World) : (Instr.slice 75 (.slice (some ad) (K + 1) c) (some (.int .i64 1)) none none).run Tryz.prog W = .ok (.slice (if c = 1 then some ad else some (ad.add 1)) K (c - 1)) W := by
  have h := run_slice_l (P := Tryz.prog) (w := W) 75 (some ad) (K + 1) c Tryz.underlying75 .i64 1 (by omega) (by omega)
  rw [h]
  by_cases hc : c = 1
  · simp [go_sem, sliced, hc]
  · simp [go_sem, sliced, hc]
theorem pow_num (y : List Int) : ∀ (k : Nat) (o : List Int), (∀ x ∈ o, 0 ≤ x ∧ x < 1000000271) → ∀ x ∈ powJ k o y, 0 ≤ x ∧ x < 1000000271
  | 0, _, h => h
  | k + 1, o, _ => by rw [powJ]; exact pow_num y k _ (jmul_rng _ _)
theorem prod_num (ys : Nat → List Int) : ∀ (p : List Int) (v : Nat) (o : List Int), (∀ x ∈ o, 0 ≤ x ∧ x < 1000000271) → ∀ x ∈ prodJ ys p v o, 0 ≤ x ∧ x < 1000000271
  | [], _, _, h => h
  | p :: r, v, o, h => by rw [prodJ]; exact prod_num ys r (v + 1) _ (pow_num _ _ _ h)
set_option maxRecDepth 100000 in
set_option maxHeartbeats 8000000 in
theorem spec_l8OneD (gy dim cy : Nat) (yss : List (List Int)) (lo2 hi2 n : Nat) (hN : JNum n yss) (hd0 : 0 < dim) (hd6 : dim ≤ 6) (hn0 : 0 < n) (hn : n ≤ 1000) : ∀ (vs : List (List (List Int))) (V : Option Addr) (cV : Nat) (P : Option Addr) (cp : Nat) (pw : List Int) (lo hi lo3 hi3 : Nat) (w : World), Ints w lo hi P dim cp pw → Ints2 w lo2 hi2 (some ⟨gy, 0, none⟩) dim cy yss → Ints3 w lo3 hi3 V vs.length cV vs → hi ≤ w.heap.size → hi2 ≤ w.heap.size → hi3 ≤ w.heap.size → St3 n dim vs → (∀ x ∈ pw, 0 ≤ x) →
    Calls Tryz.prog 83 #[.slice P dim cp, .slice (some ⟨gy, 0, none⟩) dim cy, .slice V vs.length cV] w fun e w' => ∃ R cR, e = .returned (.slice R n cR) ∧ Ints w' w.heap.size w'.heap.size R n cR (Jr.lst (Jr.dn dim (vs.map (dirO n)) (Jr.ev (dirO n yss) 0) pw)) ∧ Below w.heap.size w w' := by
  intro vs
  induction vs with
  | nil =>
    intro V cV P cp pw lo hi lo3 hi3 w hp hy hv hh hh2 hh3 hS hpw
    refine (spec_l8One0 V cV P dim cp pw lo hi gy cy yss lo2 hi2 n w hp hy hh hh2 hN hd0 hd6 hn0 hn hv.max).mono ?_
    rintro e w' ⟨gR, rfl, hI, hb⟩
    refine ⟨_, _, rfl, ?_, hb⟩
    have e1 : prodJ (fun v => yss.getD v []) pw 0 (unitJ n 1) = Jr.lst (Jr.dn dim (([] : List (List (List Int))).map (dirO n)) (Jr.ev (dirO n yss) 0) pw) := by
      refine Jr.eq_lst (by rw [prod_len, unit_len]) (prod_num _ _ _ _ (tabJ_num fun j => by split <;> omega)) ?_
      rw [Jr.of_prod _ _ _ _ (unit_len _ _), Jr.of_unit, Jr.cst_one, Jr.one_mul]
      rfl
    rw [← e1]
    exact hI
  | cons x vs ih =>
    intro V cV P cp pw lo hi lo3 hi3 w hp hy hv hh hh2 hh3 hS hpw
    obtain ⟨i0, hi0, hz0, hz1, hz2⟩ := info_parts info_int
    obtain ⟨K, hK⟩ : ∃ K, K = vs.length := ⟨_, rfl⟩
    have hKe : (x :: vs).length = K + 1 := by rw [hK]; rfl
    rw [hKe] at hv ⊢
    have hcp := hp.cap
    have hmp := hp.max
    have hcy := hy.cap
    have hmy := hy.max
    have hcv' := hv.cap
    have hmv := hv.max
    obtain ⟨av, B1, m1, d1, x1, rfl, hcv, hIx, hx⟩ := hv.at_ (k := 0) (by omega)
    rw [Addr.add_zero'] at hcv
    have hx' := hx.out
    simp only [List.getElem?_cons_zero] at hx'
    injection hx' with hx'
    subst hx'
    have hX := hS x List.mem_cons_self
    obtain rfl : dim = m1 := by rw [← hIx.len]; exact hX.1.symm
    obtain ⟨ad0, rfl, _⟩ := hIx.cells hd0
    obtain ⟨ad, B0, m0, d0, y0, e, hc0, hI0, _, hx0⟩ := hy.at_ (k := 0) hd0
    injection e with e
    subst e
    obtain rfl : n = m0 := by rw [← hI0.len]; exact ((hN y0 (List.mem_of_getElem? hx0.out)).1).symm
    have hcy0 : w.cell? ⟨gy, 0, none⟩ = some (.slice B0 n d0) := by simpa [Addr.add_lit] using hc0
    have hcd0 := hI0.cap
    have hmd0 := hI0.max
    have hmk := make_ints n (by omega) w
    have s0 := FillS.start w n hn
    have hs0 := hide (show Ints (w.alloc (.cells (zeros n) 3)) w.heap.size (w.alloc (.cells (zeros n) 3)).heap.size (some ⟨w.heap.size, 0, none⟩) n n (zeroJ n) from s0.done.1.ints)
    have hb0 := hide s0.low
    have HI := hide hp
    have HY := hide hy
    have HV := hide hv
    have HX := hide hIx
    have HS := hide hS
    have HXN := hide hX
    have HPW := hide hpw
    have IH := hide ih
    have HK := hide hK
    clear hp hy hv hIx hS hX hpw ih hI0 hx0 hc0 s0 hx hK hKe
    obtain ⟨F, hF⟩ : ∃ F : List Int → Jr n, F = Jr.dn dim (vs.map (dirO n)) (Jr.ev (dirO n yss) 0) := ⟨_, rfl⟩
    have hFx : Hid (Jr.dn dim ((x :: vs).map (dirO n)) (Jr.ev (dirO n yss) 0) pw = Jr.sum (fun u => dirO n x u * Jr.der u F pw) dim) := by
      show _ = _
      rw [hF]
      rfl
    rw [hFx.out]
    have HF := hide hF
    clear hFx hF
    go_enter Tryz.func83, Tryz.ntmps83
    go_wp2_with fail
    clear hmk hcy0
    generalize w.alloc (.cells (zeros n) 3) = W1 at hs0 hb0 ⊢
    go_loopw [8, 9, 10, 11] (fun p i _ _ wr => ∃ (q : Nat) (R : Option Addr) (cR : Nat) (o : List Int), q ≤ dim ∧ i = .int .i64 (q : Int) ∧ p = .slice R n cR ∧ Hid (Ints wr w.heap.size wr.heap.size R n cR o) ∧ Hid (Below w.heap.size w wr) ∧ Hid (∀ x ∈ o, 0 ≤ x ∧ x < 1000000271) ∧ Hid ((Jr.of o : Jr n) = Jr.sum (fun u => dirO n x u * Jr.der u F pw) q)) (fun _ i _ _ _ => dim - (intOf i).toNat)
    case atStart => exact ⟨0, _, _, zeroJ n, by omega, rfl, rfl, hs0.out, hb0.out, fun x hx => by have := (List.mem_replicate.1 hx).2; omega, Jr.of_zero⟩
    case round =>
      clear hs0 hb0
      obtain ⟨q, R, cR, o, hq, rfl, rfl, hO, hb, hoN, hE⟩ := hrel
      have zr := hb.out.size
      by_cases hlt : q < dim
      · obtain ⟨bd, p, rfl, hcp1, hpr, hdp, hxp⟩ := (HI.out.below hb.out hh).at_ hlt
        by_cases hp0 : 0 < p
        · have bA := below_alloc wr (.cells #[] 3)
          have oA := hide (show (wr.alloc (.cells #[] 3)).ownsRow wr.heap.size 3 1 (.slice (some ⟨wr.heap.size, 0, none⟩) 0 0) 0 [] by simpa using World.ownsRow_lit (size := 1) (e := 3) wr #[] 0 (Nat.le_refl _) (by unfold maxLen; omega) rfl)
          have hsrc := hide (((HI.out.below hb.out hh).below bA (by omega)).srcL)
          have hl := hide HI.out.len
          have HR := hide HI.out.rng
          have HbA := hide bA
          clear bA
          go_wp2_with (at_builtin; refine wpl_app rfl (.tmp 35) (.tmp 36) 22 rfl _ wr.heap.size 3 i0 (.int .i64 0) 1 8 Tryz.underlying22 hi0 hz0 hz1 hz2 rfl (by omega) (some ⟨wr.heap.size, 0, none⟩) 0 0 [] rfl oA.out (some bd) dim cp (pw.map (Value.int .i64)) rfl (by simp [hl.out]) (fun ad' e => hsrc.out ad' e) (fun e => by cases e) (by intro u hu; obtain ⟨x, _, rfl⟩ := List.mem_map.1 hu; rfl) (by omega) (by omega) (by simp) ?_; intro A3 c3 w3 hap3)
          have oA3 : w3.ownsRow wr.heap.size 3 1 (.slice A3 dim c3) dim (pw.map (Value.int .i64)) := by have := hap3.1; simpa using this
          have O3 := hide (show OwnI w3 wr.heap.size w3.heap.size A3 dim c3 pw from ⟨oA3, fun ad e => (owns_lt oA3 ad e).2, HR.out⟩)
          have b3 := hide (hap3.low HbA.out (by simp) (Nat.le_refl _) oA.out)
          obtain ⟨gl, rfl, hgl1, hgl2, hgl3⟩ := O3.out.form hd0
          have hc3 : w3.cell? ⟨gl, q, none⟩ = some (.int .i64 p) := by
            obtain ⟨ad2, e3, _, _, hcs⟩ := O3.out.ints.cells hd0
            injection e3 with e3
            subst e3
            simpa [Addr.add_lit] using hcs q p hxp.out
          have hf3 : w3.frozen? ⟨gl, q, none⟩ = false := O3.out.own.frozenAt q
          have hcb3 := O3.out.capb
          clear hap3 oA3
          go_simp
          have hw1 : wrap64 (p - 1) = p - 1 := (IntWalk.i64_left (p - 1)).symm.trans (IntWalk.i64_in (p - 1) (by unfold R64 at hpr; omega))
          go_wp2_with fail
          rw [hw1]
          have hpm : R64 (p - 1) := by unfold R64 at hpr ⊢; omega
          have O9 := hide (O3.out.putD q hpm)
          have b9 := hide (show Below wr.heap.size wr (w3.setCell ⟨gl, q, none⟩ (.int .i64 (p - 1))) from b3.out.setCell (p := ⟨gl, q, none⟩) hgl1 _)
          have hsz9 : (w3.setCell ⟨gl, q, none⟩ (.int .i64 (p - 1))).heap.size = w3.heap.size := by simp [World.setCell]
          have z9 := b9.out.size
          have hsz9 : (w3.setCell ⟨gl, q, none⟩ (.int .i64 (p - 1))).heap.size = w3.heap.size := by simp [World.setCell]
          have O10 := hide (O9.out.wide (lo' := wr.heap.size) (hi' := (w3.setCell ⟨gl, q, none⟩ (.int .i64 (p - 1))).heap.size) (Nat.le_refl _) (Nat.le_of_eq hsz9.symm))
          have z9 := b9.out.size
          clear hc3 hf3 O3 b3 HbA oA hsrc hsz9 O9
          generalize w3.setCell ⟨gl, q, none⟩ (.int .i64 (p - 1)) = wc at O10 b9 z9 ⊢
          have hbw := hide (hb.out.trans (b9.out.mono zr))
          have zwc : w.heap.size ≤ wc.heap.size := Nat.le_trans zr z9
          obtain ⟨aq, Bq, mq, dq, xq, e, hcq, hIq, _, hxq⟩ := HX.out.at_ hlt
          injection e with e
          subst e
          have hxqv := HXN.out.2 xq (List.mem_of_getElem? hxq.out)
          obtain rfl : n = mq := by rw [← hIq.len]; exact hxqv.1.symm
          have hdq := hIq.cap
          have hdq2 := hIq.max
          have hcvc := (hbw.out.cell (p := av) (World.block_lt_of_cell? w _ hcv)).trans hcv
          have havw := World.block_lt_of_cell? wc _ hcvc
          have hcqc := (hbw.out.cell (p := ad0.add q) (World.block_lt_of_cell? w _ hcq)).trans hcq
          have hadw := World.block_lt_of_cell? wc _ hcqc
          have hbdw := World.block_lt_of_cell? wr _ hcp1
          have hlq : Hid (Jr.lst (dirO n x q) = xq) := by
            show Jr.lst (Jr.of (x.getD q [])) = xq
            rw [List.getD, hxq.out]
            exact Jr.lst_of hxqv.1 hxqv.2
          have hder : Hid (Jr.der q F pw = Jr.cst p * F (pw.set q (p - 1))) := by
            show _ = _
            unfold Jr.der
            rw [List.getD, hxp.out]
            exact if_pos hp0
          have hnn : Hid (∀ y ∈ pw.set q (p - 1), 0 ≤ y) := fun y hy => by
            rcases List.mem_or_eq_of_mem_set hy with hy | rfl
            · exact HPW.out y hy
            · omega
          obtain ⟨V2, hV2⟩ : ∃ V2, V2 = if cV = 1 then some av else some (av.add 1) := ⟨_, rfl⟩
          have hSl : Hid (∀ W : World, (Instr.slice 75 (.slice (some av) (K + 1) cV) (some (.int .i64 1)) none none).run Tryz.prog W = .ok (.slice V2 K (cV - 1)) W) := fun W => by rw [hV2]; exact slice_tail av K cV W
          have hTl : Hid (Ints3 w lo3 hi3 V2 K (cV - 1) vs) := by
            show Ints3 ..
            rw [hV2]
            exact Ints3.tail HV.out
          have hRec : Hid (∀ W, Below wc.heap.size wc W → Calls Tryz.prog 83 #[.slice (some ⟨gl, 0, none⟩) dim c3, .slice (some ⟨gy, 0, none⟩) dim cy, .slice V2 K (cV - 1)] W fun e w' => ∃ gw cw, e = .returned (.slice gw n cw) ∧ Ints w' W.heap.size w'.heap.size gw n cw (Jr.lst (F (pw.set q (p - 1)))) ∧ Below W.heap.size W w') := fun W hB => by
            have hz := hB.size
            have hbW := hbw.out.trans (hB.mono zwc)
            have := IH.out V2 (cV - 1) (some ⟨gl, 0, none⟩) c3 (pw.set q (p - 1)) wr.heap.size wc.heap.size lo3 hi3 W (O10.out.ints.below hB (Nat.le_refl _)) (HY.out.below hbW hh2) (by rw [← HK.out]; exact hTl.out.below hbW hh3) hz (by omega) (by omega) (fun v hv => HS.out v (List.mem_cons_of_mem _ hv)) hnn.out
            rw [← HK.out, ← HF.out] at this
            exact this
          have hMul : Hid (∀ W gw cw l h, Below wc.heap.size wc W → Ints W l h gw n cw (Jr.lst (F (pw.set q (p - 1)))) → h ≤ W.heap.size → Calls Tryz.prog 100 #[.slice Bq n dq, .slice gw n cw] W fun e w' => ∃ gR, e = .returned (.slice (some ⟨gR, 0, none⟩) n n) ∧ Ints w' W.heap.size w'.heap.size (some ⟨gR, 0, none⟩) n n (Jr.lst (dirO n x q * F (pw.set q (p - 1)))) ∧ Below W.heap.size W w') := fun W gw cw l h hB hM hh' => by
            have hz := hB.size
            have hbW := hbw.out.trans (hB.mono zwc)
            refine (spec_l8Mul Bq n dq xq lo3 hi3 gw cw _ l h W (hIq.below hbW hh3) hM (by omega) hh' hn hxqv.2 (Jr.lst_num _)).mono ?_
            rintro e w7 ⟨g7, rfl, hO7, hb7⟩
            rw [← hlq.out, Jr.mul_lst] at hO7
            exact ⟨g7, rfl, hO7.ints, hb7⟩
          clear hV2 hxp hxq hIq hxqv hcq hlq hdp
          refine wp_region_Z (fun W' => Below wc.heap.size wc W') 12 (by kernel_rfl) ?_
          simp only [List.size_toArray, List.length_cons, List.length_nil, Nat.reduceAdd]
          have hS0 : Below wc.heap.size wc wc.drew := (Below.refl wc.heap.size wc).drew
          generalize wc.drew = V at hS0 ⊢
          refine wpAnyZ_takeW 0 (.slice (some av) (K + 1) cV) rfl (by kernel_rfl) (by kernel_rfl) (fun _ _ _ h => h) (by rfl) (fun _ => by first | (simp [go_sem]; done) | go_simp) hS0 ?_
          try simp only [Act.put, List.setIfInBounds_toArray, List.set_cons_zero, List.set_cons_succ, List.getElem_toArray, List.getElem_cons_zero, List.getElem_cons_succ]
          refine wpAnyZ_takeW 1 (.pointer (some av)) rfl (by kernel_rfl) (by kernel_rfl) (fun _ _ _ h => h) (by rfl) (fun _ => by first | (simp [go_sem]; done) | go_simp) hS0 ?_
          try simp only [Act.put, List.setIfInBounds_toArray, List.set_cons_zero, List.set_cons_succ, List.getElem_toArray, List.getElem_cons_zero, List.getElem_cons_succ]
          refine wpAnyZ_take 2 (.slice (some ad0) dim d1) rfl (by kernel_rfl) (by kernel_rfl) (fun _ _ _ h => h) (by rfl) (fun _ hS => by have q0 := (hS.cell (p := av) havw).trans hcvc; clear hS; first | (simp [go_sem, q0]; done) | go_simp) hS0 ?_
          try simp only [Act.put, List.setIfInBounds_toArray, List.set_cons_zero, List.set_cons_succ, List.getElem_toArray, List.getElem_cons_zero, List.getElem_cons_succ]
          refine wpAnyZ_takeW 3 (.int .i64 (q : Int)) rfl (by kernel_rfl) (by kernel_rfl) (fun _ _ _ h => h) (by rfl) (fun _ => by first | (simp [go_sem]; done) | go_simp) hS0 ?_
          try simp only [Act.put, List.setIfInBounds_toArray, List.set_cons_zero, List.set_cons_succ, List.getElem_toArray, List.getElem_cons_zero, List.getElem_cons_succ]
          refine wpAnyZ_takeW 4 (.pointer (some (ad0.add q))) rfl (by kernel_rfl) (by kernel_rfl) (fun _ _ _ h => h) (by rfl) (fun _ => by simp [go_sem, hlt]) hS0 ?_
          try simp only [Act.put, List.setIfInBounds_toArray, List.set_cons_zero, List.set_cons_succ, List.getElem_toArray, List.getElem_cons_zero, List.getElem_cons_succ]
          refine wpAnyZ_take 5 (.slice Bq n dq) rfl (by kernel_rfl) (by kernel_rfl) (fun _ _ _ h => h) (by rfl) (fun _ hS => by have q0 := (hS.cell (p := ad0.add q) hadw).trans hcqc; clear hS; first | (simp [go_sem, q0]; done) | go_simp) hS0 ?_
          try simp only [Act.put, List.setIfInBounds_toArray, List.set_cons_zero, List.set_cons_succ, List.getElem_toArray, List.getElem_cons_zero, List.getElem_cons_succ]
          refine wpAnyZ_takeW 6 (.slice (some ⟨gl, 0, none⟩) dim c3) rfl (by kernel_rfl) (by kernel_rfl) (fun _ _ _ h => h) (by rfl) (fun _ => by first | (simp [go_sem]; done) | go_simp) hS0 ?_
          try simp only [Act.put, List.setIfInBounds_toArray, List.set_cons_zero, List.set_cons_succ, List.getElem_toArray, List.getElem_cons_zero, List.getElem_cons_succ]
          refine wpAnyZ_takeW 7 (.slice (some ⟨gy, 0, none⟩) dim cy) rfl (by kernel_rfl) (by kernel_rfl) (fun _ _ _ h => h) (by rfl) (fun _ => by first | (simp [go_sem]; done) | go_simp) hS0 ?_
          try simp only [Act.put, List.setIfInBounds_toArray, List.set_cons_zero, List.set_cons_succ, List.getElem_toArray, List.getElem_cons_zero, List.getElem_cons_succ]
          refine wpAnyZ_takeW 8 (.slice (some av) (K + 1) cV) rfl (by kernel_rfl) (by kernel_rfl) (fun _ _ _ h => h) (by rfl) (fun _ => by first | (simp [go_sem]; done) | go_simp) hS0 ?_
          try simp only [Act.put, List.setIfInBounds_toArray, List.set_cons_zero, List.set_cons_succ, List.getElem_toArray, List.getElem_cons_zero, List.getElem_cons_succ]
          refine wpAnyZ_takeW 9 (.slice V2 K (cV - 1)) rfl (by kernel_rfl) (by kernel_rfl) (fun _ _ _ h => h) (by rfl) (fun _ => by simp [go_sem, hSl.out]) hS0 ?_
          try simp only [Act.put, List.setIfInBounds_toArray, List.set_cons_zero, List.set_cons_succ, List.getElem_toArray, List.getElem_cons_zero, List.getElem_cons_succ]
          refine wpAnyZ_one 10 (by kernel_rfl) rfl (by rfl) (fun K hK => ?_)
          go_simp
          refine (hRec.out V hS0).mono ?_
          rintro e x1 ⟨gw, cw, rfl, ow, b1⟩
          have z1 := hS0.size
          have hS1 := hS0.trans (b1.mono z1)
          have how := hide ow
          clear ow
          clear z1
          go_wp2_with fail
          refine hK.out _ _ hS1 ?_
          clear hK K
          try simp only [Act.put, List.setIfInBounds_toArray, List.set_cons_zero, List.set_cons_succ, List.getElem_toArray, List.getElem_cons_zero, List.getElem_cons_succ]
          refine wpAnyZ_one 11 (by kernel_rfl) rfl (by rfl) (fun K hK => ?_)
          go_simp
          refine (hMul.out x1 gw cw _ _ hS1 how.out (Nat.le_refl _)).mono ?_
          rintro e x2 ⟨gm, rfl, om, b2⟩
          have z2 := hS1.size
          have hS2 := hS1.trans (b2.mono z2)
          have hom := hide om
          clear om how
          clear z2
          go_wp2_with fail
          refine hK.out _ _ hS2 ?_
          clear hK K
          try simp only [Act.put, List.setIfInBounds_toArray, List.set_cons_zero, List.set_cons_succ, List.getElem_toArray, List.getElem_cons_zero, List.getElem_cons_succ]
          refine wpAnyZ_last (by kernel_rfl) rfl (by kernel_rfl) (by rfl) (fun K hK => ?_)
          go_simp
          refine hK _ _ ?_
          clear hK K
          have hB4 := hide (b9.out.trans (hS2.mono z9))
          have hb4 := hide (hb.out.trans (hB4.out.mono zr))
          have zw := hB4.out.size
          have hom2 := hide (hom.out.wide (lo' := wr.heap.size) (by have := hS1.size; omega) (Nat.le_refl _))
          have hcp4 := (hB4.out.cell (p := bd.add q) hbdw).trans hcp1
          have HAD := hide (spec_l8Add R n cR o w.heap.size wr.heap.size (some ⟨gm, 0, none⟩) n _ wr.heap.size x2.heap.size p x2 (hO.out.below hB4.out (Nat.le_refl _)) hom2.out zw (Nat.le_refl _) hn hpr)
          clear hom hcp1
          go_wp2_with (go_at_call 82; refine HAD.out.mono ?_; rintro e w7 ⟨R7, c7, rfl, hO7, hb7⟩; have hI7 := hide (hO7.ints.wide (lo' := w.heap.size) (by omega) (Nat.le_refl _)); have hb8 := hide (hb4.out.trans (hb7.mono (by omega))); have hE7 := hide (show (Jr.of (jplus o (Jr.lst (dirO n x q * F (pw.set q (p - 1)))) p) : Jr n) = Jr.sum (fun u => dirO n x u * Jr.der u F pw) (q + 1) by rw [Jr.of_plus hO.out.len, hE.out, Jr.of_lst, Jr.sum, hder.out, ← Jr.mul_assoc, ← Jr.mul_assoc, Jr.mul_comm (Jr.cst p)]); clear hO7 hb7)
          refine ⟨⟨q + 1, R7, c7, _, by omega, by go_num, rfl, hI7.out, hb8.out, jplus_rng _ _ _, hE7.out⟩, ?_⟩
          simp [intOf]; omega
        · have hE2 : Hid ((Jr.of o : Jr n) = Jr.sum (fun u => dirO n x u * Jr.der u F pw) (q + 1)) := by
            show _ = _
            rw [hE.out, Jr.sum]
            have : Jr.der q F pw = 0 := by
              unfold Jr.der
              rw [List.getD, hxp.out]
              exact if_neg hp0
            rw [this, Jr.mul_zero, Jr.add_zero]
          clear hE
          go_wp2_with fail
          go_roundw
          case rel => exact ⟨q + 1, R, cR, o, by omega, by go_num, rfl, hO.out, hb.out, hoN.out, hE2.out⟩
          case measure => simp [intOf]; omega
      · obtain rfl : dim = q := by omega
        have hfin : Hid (o = Jr.lst (Jr.sum (fun u => dirO n x u * Jr.der u F pw) dim)) := Jr.eq_lst hO.out.len hoN.out hE.out
        go_wp2_with fail
        go_ret
        exact ⟨_, _, rfl, by rw [← hfin.out]; exact hO.out, hb.out⟩
end Go.Proofs.YtkaepjigmcielaaGreatDoor
/- The value of a field at polynomials in h: the reference's walk. -/
namespace Go.Proofs.YtkaepjigmcielaaGreatDoor
open Go.RowKit
set_option linter.unusedSimpArgs false
set_option linter.unusedVariables false
set_option maxRecDepth 20000

end Go.Proofs.YtkaepjigmcielaaGreatDoor
