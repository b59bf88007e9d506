/- Polynomials in h plus multiples of stages, times h: the reference's walk. -/
import Derived.Test.YtlmkjfgomlamhaaJetS
namespace Go.Proofs.Ytlmkjfgomlamhaa
open Go.RowKit
set_option linter.unusedSimpArgs false
set_option linter.unusedVariables false
set_option maxRecDepth 20000

/-- A row of the call's own that is being filled, with room behind it; nothing else has changed. -/
structure FillC (w wr : World) (g n c : Nat) (zs : List Int) : Prop where
  own : OwnI wr w.heap.size (g + 1) (some ⟨g, 0, none⟩) n c zs
  low : Below w.heap.size w wr
  glo : w.heap.size ≤ g
section
variable {w wr : World} {g n c : Nat} {zs : List Int}
theorem FillC.drew (h : FillC w wr g n c zs) : FillC w wr.drew g n c zs := ⟨h.own.same (fun _ _ _ => rfl), h.low.drew, h.glo⟩
theorem FillC.set (h : FillC w wr g n c zs) (i : Nat) {x : Int} (hx : R64 x) : FillC w (wr.setCell ⟨g, i, none⟩ (.int .i64 x)) g n c (zs.set i x) :=
  ⟨⟨by rw [List.map_set]; exact (h.own.own.stored i (.int .i64 x)).1, h.own.lt, fun y hy => by
    rcases List.mem_or_eq_of_mem_set hy with hy | rfl
    · exact h.own.rng y hy
    · exact hx⟩, h.low.setCell (p := ⟨g, i, none⟩) h.glo _, h.glo⟩
theorem FillC.cell (h : FillC w wr g n c zs) {i : Nat} (hi : i < n) : ∃ v, wr.cell? ⟨g, i, none⟩ = some (.int .i64 v) ∧ zs[i]? = some v ∧ R64 v ∧ wr.frozen? ⟨g, i, none⟩ = false := by
  have hl := h.own.len
  refine ⟨zs[i], ?_, List.getElem?_eq_getElem (by omega), h.own.rng _ (List.getElem_mem _), h.own.own.frozenAt i⟩
  rw [h.own.own.cellAt i (by omega), List.getElem?_map, List.getElem?_eq_getElem (by omega)]
  rfl
theorem FillC.done (h : FillC w wr g n c zs) : Ints wr w.heap.size wr.heap.size (some ⟨g, 0, none⟩) n c zs := (h.own.wide (Nat.le_refl _) (by have := (h.own.lt_size _ rfl).2; exact this)).ints
end

theorem acc_num {y : List Int} (v : Nat → List Int) (ws : List Int) (hy : ∀ x ∈ y, 0 ≤ x ∧ x < 1000000271) : ∀ s, ∀ x ∈ accJ y v ws s, 0 ≤ x ∧ x < 1000000271
  | 0 => hy
  | s + 1 => jplus_rng _ _ _
theorem acc_at {y : List Int} {v : Nat → List Int} {ws : List Int} {s n j : Nat} {a x k : Int} (hl : y.length = n) (hv : (v s).length = n) (hj : j + 1 < n) (ha : (accJ y v ws s)[j + 1]? = some a) (hx : (v s)[j]? = some x) (hk : ws[s]? = some k) :
    (accJ y v ws (s + 1))[j + 1]? = some (plusF a (timesF k x)) := by
  rw [accJ, show ws.getD s 0 = k by rw [List.getD, hk]; rfl, jplus_at ha (later_at hx (by omega))]
  unfold timesF
  rw [Int.mul_comm]
theorem acc_first {y : List Int} (v : Nat → List Int) (ws : List Int) (s : Nat) {n : Nat} (hl : y.length = n) (hy : ∀ x ∈ y, 0 ≤ x ∧ x < 1000000271) : mixJ (accJ y v ws (s + 1)) (accJ y v ws s) 1 = accJ y v ws s := by
  have h1 : (accJ y v ws s).length = n := by rw [acc_len, hl]
  have h2 : (accJ y v ws (s + 1)).length = n := by rw [acc_len, hl]
  by_cases hn : n = 0
  · unfold mixJ
    rw [List.eq_nil_of_length_eq_zero (h1.trans hn), List.eq_nil_of_length_eq_zero (h2.trans hn)]
    rfl
  · refine tabJ_eq (n := n) (by simp [mixJ, h1, h2]; omega) h1 fun j hj => ?_
    unfold mixJ
    by_cases h0 : j = 0
    · subst h0
      rw [List.getD_eq_getElem?_getD, List.getElem?_append_left (by simp [h2]; omega), List.getElem?_take_of_lt (by omega), accJ, jplus, tabJ_at _ (by omega)]
      have hz : (later1 (v s)).getD 0 0 = 0 := by
        by_cases hv : 0 < (v s).length
        · rw [later1, tabJ_get _ hv, if_pos rfl]
        · rw [later1, tabJ_out _ (by omega)]
      have hm := acc_num v ws hy s ((accJ y v ws s).getD 0 0) (by
        rw [List.getD_eq_getElem?_getD, List.getElem?_eq_getElem (by omega)]
        exact List.getElem_mem _)
      rw [hz]
      unfold plusF timesF
      rw [Int.zero_mul]
      simp only [Option.getD_some]
      omega
    · rw [List.getD_eq_getElem?_getD, List.getElem?_append_right (by simp [h2]; omega)]
      simp only [List.length_take, h2, List.getElem?_drop]
      rw [show 1 + (j - min 1 n) = j by omega, ← List.getD_eq_getElem?_getD]

/-- each coordinate moved -/
def movL (yss : List (List Int)) (ws : List Int) (st : List (List (List Int))) : List (List Int) := (List.range yss.length).map fun i => accJ (yss.getD i []) (fun s => (st.getD s []).getD i []) ws st.length
theorem movL_len (yss : List (List Int)) (ws : List Int) (st : List (List (List Int))) : (movL yss ws st).length = yss.length := by simp [movL]
theorem movL_at {yss : List (List Int)} (ws : List Int) (st : List (List (List Int))) {i : Nat} {y : List Int} (h : yss[i]? = some y) : (movL yss ws st)[i]? = some (accJ y (fun s => (st.getD s []).getD i []) ws st.length) := by
  have := (List.getElem?_eq_some_iff.1 h).1
  have e : yss.getD i [] = y := by rw [List.getD, h]; rfl
  simp only [movL, List.getElem?_map, List.getElem?_range this, Option.map_some, e]
theorem movL_num {n : Nat} {yss : List (List Int)} (ws : List Int) (st : List (List (List Int))) (h : JNum n yss) : JNum n (movL yss ws st) := by
  intro r hr
  simp only [movL, List.mem_map, List.mem_range] at hr
  obtain ⟨i, hi, rfl⟩ := hr
  have := h yss[i] (List.getElem_mem hi)
  rw [show yss.getD i [] = yss[i] by simp [List.getD, hi]]
  exact ⟨by rw [acc_len]; exact this.1, acc_num _ _ this.2 _⟩
def St3 (n dim : Nat) (st : List (List (List Int))) : Prop := ∀ v ∈ st, v.length = dim ∧ JNum n v

set_option maxRecDepth 100000 in
set_option maxHeartbeats 8000000 in
theorem spec_l8Moved (gy dim cy : Nat) (yss : List (List Int)) (lo hi n : Nat) (W : Option Addr) (nW cW : Nat) (ws : List Int) (lo2 hi2 : Nat) (A : Option Addr) (S cS : Nat) (st : List (List (List Int))) (lo3 hi3 : Nat) (w : World)
    (hy : Ints2 w lo hi (some ⟨gy, 0, none⟩) dim cy yss) (hw : Ints w lo2 hi2 W nW cW ws) (hs : Ints3 w lo3 hi3 A S cS st) (hh : hi ≤ w.heap.size) (hh2 : hi2 ≤ w.heap.size) (hh3 : hi3 ≤ w.heap.size)
    (hN : JNum n yss) (hS : St3 n dim st) (hSW : S ≤ nW) (hd0 : 0 < dim) (hd6 : dim ≤ 6) (hn0 : 0 < n) (hn : n ≤ 1000) (hS2 : S ≤ 1000) :
    Calls Try.prog 52 #[.slice (some ⟨gy, 0, none⟩) dim cy, .slice W nW cW, .slice A S cS] w fun e w' => ∃ gR cR vs, e = .returned (.slice (some ⟨gR, 0, none⟩) dim cR) ∧ Lst kI 22 (fun _ => True) w' w.heap.size w'.heap.size (some ⟨gR, 0, none⟩) dim cR vs (movL yss ws st) ∧ Below w.heap.size w w' := by
  obtain ⟨i0, hi0, hz0, hz1, hz2⟩ := info_parts info_int
  obtain ⟨i1, hi1, hy0, hy1, hy2⟩ := info_parts info_ints
  have hcy := hy.cap
  have hmy := hy.max
  have hcW := hw.cap
  have hmW := hw.max
  have hcS := hs.cap
  have hmS := hs.max
  have hsl := hide hs.len
  have HY := hide hy
  have HW := hide hw
  have HS := hide hs
  have HN := hide hN
  have HSt := hide hS
  have htl : Hid ((movL yss ws st).length = dim) := by show _ = _; rw [movL_len, hy.len]
  have hL0 := hide (Lst.empty kI 22 (fun _ => True) w w.heap.size (Nat.le_refl _))
  have hbL := hide (below_alloc w (.cells #[] 22))
  have zL : (w.alloc (.cells #[] 22)).heap.size = w.heap.size + 1 := by simp
  have hL1 := hide (hL0.out.wide (hi2 := (w.alloc (.cells #[] 22)).heap.size) (by omega))
  clear hy hw hs hN hS hL0 zL
  go_enter Try.func52, Try.ntmps52
  go_wp2_with fail
  generalize w.alloc (.cells #[] 22) = W1 at hL1 hbL ⊢
  go_loopw [7, 8] (fun p i wr => ∃ (q : Nat) (R : Option Addr) (cR : Nat) (vs : List Value), q ≤ dim ∧ i = .int .i64 q ∧ p = .slice R q cR ∧ Hid (Lst kI 22 (fun _ => True) wr w.heap.size wr.heap.size R q cR vs ((movL yss ws st).take q)) ∧ Hid (Below w.heap.size w wr)) (fun _ i _ => dim - (intOf i).toNat)
  case atStart => exact ⟨0, _, 0, [], by omega, rfl, rfl, hL1.out, hbL.out⟩
  case round =>
    clear hL1 hbL
    obtain ⟨q, R, cR, vs, hq, rfl, rfl, hL, hb⟩ := hrel
    obtain ⟨wo, hwo⟩ : ∃ wo, wo = wr := ⟨_, rfl⟩
    subst hwo
    have hsz := hb.out.size
    have hcR := hL.out.capb
    by_cases hlt : q < dim
    · obtain ⟨ay, B, m, d, y, e, hc, hI, _, hx⟩ := HY.out.at_ hlt
      injection e with e
      subst e
      have hyv := HN.out y (List.mem_of_getElem? hx.out)
      obtain rfl : n = m := by rw [← hI.len]; exact hyv.1.symm
      have hyl := hide hyv.1
      have hyn := hide hyv.2
      have hcd := hI.cap
      have hmd := hI.max
      have hc1 : (wo.alloc (.cells #[] 3)).cell? ⟨gy, q, none⟩ = some (.slice B n d) := by have := ((hb.out.alloc hsz (.cells #[] 3)).cell (World.block_lt_of_cell? w _ hc)).trans hc; simpa [Addr.add_lit] using this
      have hT : Hid ((movL yss ws st).take q ++ [accJ y (fun s => (st.getD s []).getD q []) ws st.length] = (movL yss ws st).take (q + 1)) := take_snocJ (movL_at ws st hx.out)
      obtain ⟨v, hv⟩ : ∃ v, v = fun s => (st.getD s []).getD q [] := ⟨_, rfl⟩
      rw [← hv] at hT
      have hvl : Hid (∀ s, s < S → (v s).length = n ∧ (st[s]?.map fun xss => xss[q]?) = some (some (v s))) := fun s hs => by
        have h1 : s < st.length := by rw [hsl.out]; exact hs
        have h2 := HSt.out st[s] (List.getElem_mem h1)
        have h3 : q < st[s].length := by rw [h2.1]; exact hlt
        have h4 : v s = st[s][q] := by rw [hv]; simp [List.getD, h1, h3]
        refine ⟨?_, ?_⟩
        · rw [h4]; exact (h2.2 _ (List.getElem_mem h3)).1
        · rw [h4, List.getElem?_eq_getElem h1]
          show some (st[s][q]?) = _
          rw [List.getElem?_eq_getElem h3]
      have own1 : (wo.alloc (.cells #[] 3)).ownsRow wo.heap.size 3 1 (.slice (some ⟨wo.heap.size, 0, none⟩) 0 0) 0 [] := World.ownsRow_lit (size := 1) (e := 3) (base := wo.heap.size) wo #[] 0 (Nat.le_refl _) (by unfold maxLen; omega) rfl
      have hb1 := below_alloc wo (.cells #[] 3)
      have hsz1 : wo.heap.size ≤ (wo.alloc (.cells #[] 3)).heap.size := hb1.size
      have hI1 := (hI.below hb.out hh).below hb1 (by omega)
      have hl1 : (y.map (Value.int .i64)).length = n * 1 := by simpa using hyv.1
      have hone : ∀ z ∈ y.map (Value.int .i64), z.oneCell' = true := by
        intro z hz
        simp only [List.mem_map] at hz
        obtain ⟨z', _, rfl⟩ := hz
        rfl
      obtain ⟨bd, rfl, _, _, _⟩ := hI.cells hn0
      have hnews : ∀ ad', some bd = some ad' → ∀ (q : Nat) u, (y.map (Value.int .i64))[q]? = some u → (wo.alloc (.cells #[] 3)).cell? (ad'.add q) = some u := by
        intro ad' e q u hu
        injection e with e
        subst e
        rw [List.getElem?_map] at hu
        cases hy : y[q]? with
        | none => rw [hy] at hu; cases hu
        | some y' =>
          rw [hy] at hu
          injection hu with hu
          subst hu
          obtain ⟨ad', e, _, _, hcc⟩ := hI1.cells hn0
          injection e with e
          subst e
          exact hcc q y' hy
      have HNW := hide hnews
      have HON := hide hone
      clear hc hI hx hyv hnews hone hI1 hv
      go_wp2_with (at_builtin; refine wpl_app rfl (.tmp 19) (.tmp 23) 22 rfl _ wo.heap.size 3 i0 (.int .i64 0) 1 8 Try.underlying22 hi0 hz0 hz1 hz2 rfl (by omega) (some ⟨wo.heap.size, 0, none⟩) 0 0 [] rfl own1 (some bd) n d (y.map (Value.int .i64)) rfl hl1 HNW.out (by intro e; cases e) HON.out (by omega) (by omega) hsz1 ?_; intro A2 c2 v2 happ2; simp only [Nat.zero_add] at happ2 ⊢; have BY := hide (happ2.low hb1 hsz1 (Nat.le_refl _) own1); have hown2 := hide happ2.1; clear happ2)
      have hO2 : OwnI v2 wo.heap.size v2.heap.size A2 n c2 y := ⟨by simpa using hown2.out, fun ad e => (owns_lt hown2.out ad e).2, fun x hx => by have := hyn.out x hx; constructor <;> omega⟩
      obtain ⟨g2, rfl, hg2, hg2', _⟩ := hO2.form hn0
      have hF : Hid (FillC wo v2 g2 n c2 (accJ y v ws 0)) := ⟨⟨hO2.own, fun ad e => by injection e with e; subst e; exact Nat.lt_succ_self _, hO2.rng⟩, BY.out, hg2⟩
      have hcc2 := hO2.cap
      have hcm2 := hO2.max
      clear hO2 hg2' hown2 BY own1 hb1 hsz1 hl1 HNW HON hc1
      go_loopw [10] (fun i w2 => ∃ (s : Nat), s ≤ S ∧ i = .int .i64 s ∧ Hid (FillC wo w2 g2 n c2 (accJ y v ws s))) (fun i _ => S - (intOf i).toNat)
      case atStart => exact ⟨0, by omega, rfl, hF.out⟩
      case round =>
        clear hF
        obtain ⟨s, hs, rfl, hF⟩ := hrel
        by_cases hlt2 : s < S
        · obtain ⟨hvn, hvat⟩ := hvl.out s hlt2
          have hwlt : s < nW := by omega
          obtain ⟨aw, k, rfl, hcw, hkr, _, hkx⟩ := HW.out.at_ hwlt
          obtain ⟨ast, Bs, ms, ds, xss, rfl, hcs, hIs, hxs⟩ := HS.out.at_ hlt2
          have hxsm := HSt.out xss (List.mem_of_getElem? hxs.out)
          obtain rfl : dim = ms := by rw [← hIs.len]; exact hxsm.1.symm
          obtain ⟨av, Bv, mv, dv, xv, rfl, hcv, hIv, _, hxv⟩ := hIs.at_ hlt
          have hve : v s = xv := by
            rw [hxs.out] at hvat
            simp only [Option.map_some] at hvat
            injection hvat with hvat
            have := hxv.out.symm.trans hvat
            injection this with this
            exact this.symm
          have hvx := (hxsm.2 xv (List.mem_of_getElem? hxv.out))
          obtain rfl : n = mv := by rw [← hIv.len]; exact hvx.1.symm
          have hcs2 := hIs.cap
          have hms2 := hIs.max
          have hcv2 := hIv.cap
          have hmv2 := hIv.max
          have HCW := hide fun (w' : World) (hB : Below w.heap.size w w') => (hB.cell (p := aw.add s) (World.block_lt_of_cell? w _ hcw)).trans hcw
          have HCS := hide fun (w' : World) (hB : Below w.heap.size w w') => (hB.cell (p := ast.add s) (World.block_lt_of_cell? w _ hcs)).trans hcs
          have HCV := hide fun (w' : World) (hB : Below w.heap.size w w') => (hB.cell (p := av.add q) (World.block_lt_of_cell? w _ hcv)).trans hcv
          have HIV := hide hIv
          have HVE := hide hve
          have hVN := hide hvn
          clear hcw hcs hcv hIs hIv hve hxs hxv hvat hvx hxsm hvn
          go_wp2_with fail
          go_loopw [11] (fun i wr => ∃ (j : Nat), j + 1 ≤ n ∧ i = .int .i64 ((j + 1 : Nat) : Int) ∧ Hid (FillC wo wr g2 n c2 (mixJ (accJ y v ws (s + 1)) (accJ y v ws s) (j + 1)))) (fun i _ => n - (intOf i).toNat)
          case atStart => exact ⟨0, by omega, by go_num, by show Hid (FillC wo _ g2 n c2 (mixJ _ _ 1)); rw [acc_first v ws s hyl.out hyn.out]; exact hF⟩
          case round =>
            clear hF
            obtain ⟨j, hj, rfl, hF⟩ := hrel
            have hbr := hide (hb.out.trans (hF.out.low.mono hsz))
            have hwj : IntKind.i64.wrap (((j + 1 : Nat) : Int) - 1) = (j : Int) := by rw [show ((j + 1 : Nat) : Int) - 1 = (j : Int) by omega]; exact IntWalk.i64_in _ (by omega)
            by_cases hlt3 : j + 1 < n
            · obtain ⟨ad, x, rfl, hcx, hxr, _, hxx⟩ := (HIV.out.below hbr.out hh3).at_ (show j < n by omega)
              obtain ⟨r, hcp, hzr, hrr, hfr⟩ := hF.out.cell hlt3
              rw [mixJ_at (by rw [acc_len, hyl.out]) hlt3] at hzr
              have hcw4 := HCW.out _ hbr.out
              have hcs4 := HCS.out _ hbr.out
              have hcv4 := HCV.out _ hbr.out
              have HT := hide fun W => spec_Times k x W hkr hxr
              have htb := timesF_bd k x
              have HP := hide fun W => spec_Plus r (timesF k x) W hrr (by constructor <;> omega)
              have hpb := plusF_bd r (timesF k x)
              have hat := acc_at (v := v) (ws := ws) (s := s) (k := k) hyl.out hVN.out hlt3 hzr (by rw [HVE.out]; exact hxx.out) hkx.out
              have hNN := hF.out.set (j + 1) (x := plusF r (timesF k x)) (by constructor <;> omega)
              rw [mixJ_set (by rw [acc_len, hyl.out]) (by rw [acc_len, hyl.out]) hlt3 hat] at hNN
              have HNN := hide hNN.drew
              have hcF := hF.out.own.cap
              clear hxx hzr hat hNN hF hbr
              obtain ⟨jj, hjj⟩ : ∃ jj, jj = j + 1 := ⟨_, rfl⟩
              rw [← hjj] at hwj hlt3 hcp hfr HNN ⊢
              have hjs : Hid (jj = j + 1) := hjj
              have hj0 : j < n := by omega
              clear hjj hj
              go_wp2_with fail
              refine still_tail 24 (by kernel_rfl) (by kernel_rfl) ?_
              simp only [List.take_succ_cons, List.take_zero, List.drop_succ_cons, List.drop_zero]
              iterate 21 still_step
              still_call (still_same (HT.out _))
              still_call (still_same (HP.out _))
              still_step
              refine wpStill_nil ?_
              go_wp2_with fail
              go_roundw
              case rel => exact ⟨jj, by omega, by go_num, HNN.out⟩
              case measure => simp [intOf]; omega
            · have hjn : j + 1 = n := by omega
              rw [hjn] at hF
              rw [mixJ_all (by rw [acc_len, hyl.out]) (by rw [acc_len, hyl.out])] at hF
              obtain ⟨jj, hjj⟩ : ∃ jj, jj = j + 1 := ⟨_, rfl⟩
              rw [← hjj] at hwj hlt3 ⊢
              obtain rfl : n = jj := by omega
              clear hjj hjn hj
              go_wp2_with fail
              go_roundw
              case rel => exact ⟨s + 1, by omega, by go_num, hF.out⟩
              case measure => simp [intOf]; omega
        · obtain rfl : S = s := by omega
          have hE : Hid (accJ y v ws S = accJ y v ws st.length) := by show _ = _; rw [hsl.out]
          have hF2 := hF.out
          rw [hE.out] at hF2
          have hI := hide hF2.done
          have hbr := hide hF2.low
          have hszr := hF2.low.size
          have hLr := hide (hL.out.below hF2.low (Nat.le_refl _))
          have hbw := hide (hb.out.trans (hF2.low.mono hsz))
          clear hL hF hF2 hE
          go_wp2_with (at_builtin; refine wpl_app1 rfl (.tmp 61) (.tmp 63) 30 rfl w.heap.size 22 i1 (.slice none 0 0) 1 24 Try.underlying30 hi1 hy0 hy1 hy2 rfl (by omega) wr #[.slice (some ⟨g2, 0, none⟩) n c2] R q cR 1 _ rfl rfl hLr.out.own rfl (by simp [Value.oneCell']) (by omega) (by omega) (by omega) ?_; intro A5 c5 w5 happ5 hlt5; have hL5 := hide (hLr.out.push (l := wo.heap.size) (h' := wr.heap.size) (x := accJ y v ws st.length) ⟨_, n, c2, rfl, hI.out⟩ (Nat.le_refl _) (Nat.le_refl _) hsz hszr happ5); have hb5 := hide (happ5.low hbw.out (by omega) (by omega) hLr.out.own); clear happ5)
          rw [hT.out] at hL5
          refine ⟨⟨q + 1, A5, c5, _, by omega, by go_num, rfl, hL5.out, hb5.out⟩, ?_⟩
          simp [intOf]; omega
    · obtain rfl : dim = q := by omega
      have hL2 := hL.out
      rw [List.take_of_length_le (Nat.le_of_eq htl.out)] at hL2
      obtain ⟨gR, rfl, _, _, _⟩ := hL2.form hd0
      have HL := hide hL2
      clear hL hL2
      go_wp2_with fail
      go_ret
      exact ⟨_, _, _, rfl, HL.out, hb.out⟩
end Go.Proofs.Ytlmkjfgomlamhaa
