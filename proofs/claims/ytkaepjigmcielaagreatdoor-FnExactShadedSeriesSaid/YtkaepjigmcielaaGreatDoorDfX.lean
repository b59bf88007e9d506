/- Elementary differentials of the first shaded trees: the program's walk. -/
import Derived.Test.YtkaepjigmcielaaGreatDoorMzU
import Derived.Test.YtkaepjigmcielaaGreatDoorShW
namespace Go.Proofs.YtkaepjigmcielaaGreatDoor
open Go.RowKit
set_option linter.unusedSimpArgs false
set_option linter.unusedVariables false
set_option maxRecDepth 20000

theorem info_jets : (Tryz.prog.info? 52).map (fun i => (i.zero, i.size, i.bytes)) = some (some (.slice none 0 0), 1, 24) := by kernel_rfl
namespace Jr
theorem dn_congr {n dim : Nat} {β : Type} (f g : β → Nat → Jr n) (F : List Int → Jr n) : ∀ bs : List β, (∀ b ∈ bs, ∀ v, v < dim → f b v = g b v) → dn dim (bs.map f) F = dn dim (bs.map g) F
  | [], _ => rfl
  | b :: r, h => by
    rw [List.map_cons, List.map_cons, dn_cons, dn_cons, dn_congr f g F r (fun b hb => h b (List.mem_cons_of_mem _ hb)), sum_congr_dir (h b List.mem_cons_self)]
theorem field_tab {n dim : Nat} {β : Type} (ps : List (List Mono)) (Y : Nat → Jr n) (G : β → Nat → Jr n) (bs : List β) : rowsJ dim (fieldD dim ps Y ((bs.map fun b => rowsJ dim (G b)).map (dirO n))) = rowsJ dim (fieldD dim ps Y (bs.map G)) := by
  refine rowsJ_ext fun v hv => ?_
  unfold fieldD
  rw [List.map_map]
  congr 1
  exact dn_congr _ _ _ bs fun b _ u hu => of_rows (G b) hu
theorem sel_start {n dim : Nat} (cols : List Int) (q : Int) (G : Nat → Jr n) : rowsJ dim (fun v => if v < 0 then selC cols q G v else G v) = rowsJ dim G := rowsJ_ext fun v hv => if_neg (by omega)
theorem sel_end {n dim : Nat} (cols : List Int) (q : Int) (G : Nat → Jr n) : rowsJ dim (fun v => if v < dim then selC cols q G v else G v) = rowsJ dim (selC cols q G) := rowsJ_ext fun v hv => if_pos hv
theorem sel_keep {n dim i : Nat} {cols : List Int} {q : Int} (G : Nat → Jr n) (h : cols.getD i 0 = q) : rowsJ dim (fun v => if v < i then selC cols q G v else G v) = rowsJ dim (fun v => if v < i + 1 then selC cols q G v else G v) := rowsJ_ext fun v hv => by
  by_cases h1 : v < i
  · rw [if_pos h1, if_pos (by omega)]
  · rw [if_neg h1]
    by_cases h2 : v = i
    · subst h2
      rw [if_pos (by omega), selC, if_pos h]
    · rw [if_neg (by omega)]
theorem sel_zero {n dim i : Nat} {cols : List Int} {q : Int} (G : Nat → Jr n) (h : ¬ cols.getD i 0 = q) : (rowsJ dim (fun v => if v < i then selC cols q G v else G v)).set i (zeroJ n) = rowsJ dim (fun v => if v < i + 1 then selC cols q G v else G v) := by
  rw [← lst_zero, rowsJ_set]
  refine rowsJ_ext fun v hv => ?_
  by_cases h2 : v = i
  · subst h2
    rw [if_pos rfl, if_pos (by omega), selC, if_neg h]
  · rw [if_neg h2]
    by_cases h1 : v < i
    · rw [if_pos h1, if_pos (by omega)]
    · rw [if_neg h1, if_neg (by omega)]
end Jr
theorem tab_three {k : Nat} {l bs : List Int} {sy : Int} (h : tabS[k]? = some (l, bs, sy)) : bs.length ≤ 3 := by
  have := List.all_eq_true.1 tab_sym2 _ (List.mem_of_getElem? h)
  simp only [Bool.and_eq_true, decide_eq_true_eq] at this
  exact this.2
theorem tab_lower : ((List.range 72).all fun k => match tabS[k]? with | some t => t.2.1.all fun b => decide (0 ≤ b ∧ b.toNat < k) | none => false) = true := by decide +kernel
theorem tab_low {k : Nat} {l bs : List Int} {sy : Int} (h : tabS[k]? = some (l, bs, sy)) : ∀ b ∈ bs, 0 ≤ b ∧ b.toNat < k := by
  have hk : k < 72 := by have := (List.getElem?_eq_some_iff.1 h).1; rw [tab_len] at this; exact this
  have := List.all_eq_true.1 tab_lower k (List.mem_range.2 hk)
  rw [h] at this
  intro b hb
  simpa using List.all_eq_true.1 this b hb
/-- a slice of elements of a row of differentials -/
theorem along_ints3 {wr : World} {T T2 : TypeId} {lo mid base : Nat} {R R2 : Option Addr} {k cR m c2 : Nat} {vs us : List Value} {D : Nat → List (List Int)} {bs : List Int} (hL : Lst kII T (fun _ => True) wr lo mid R k cR vs ((List.range k).map D)) (hown : wr.ownsRow base T2 1 (.slice R2 m c2) m us) (hb : lo ≤ base) (hm : mid ≤ wr.heap.size) (hl : bs.length = m) (hus : ∀ (j : Nat) (b : Int), bs[j]? = some b → b.toNat < k ∧ us[j]? = vs[b.toNat]?) :
    Ints3 wr lo wr.heap.size R2 m c2 (bs.map fun b => D b.toNat) := by
  have hcap : m ≤ c2 ∧ c2 ≤ 9223372036854775807 := by
    rcases hown.2 with ⟨e, rfl⟩ | ⟨g', cap, cur, e, _, _, h1, h2, _⟩
    · injection e; omega
    · injection e with _ _ e3; unfold maxLen at h2; omega
  refine ⟨by simpa using hl, hcap.1, hcap.2, fun hm0 => ?_⟩
  rcases hown.2 with ⟨_, e⟩ | ⟨g, _, _, e, h1, h2, _⟩
  · omega
  · injection e with e
    subst e
    refine ⟨_, rfl, by show lo ≤ g; omega, (Array.getElem?_eq_some_iff.1 h2).1, fun j xss hj => ?_⟩
    rw [List.getElem?_map] at hj
    cases hbj : bs[j]? with
    | none => rw [hbj] at hj; cases hj
    | some b =>
      rw [hbj] at hj
      injection hj with hj
      obtain ⟨hbk, hu⟩ := hus j b hbj
      obtain ⟨v, l, h', e1, ⟨B, q, d, rfl, hI⟩, e3, e4, _⟩ := hL.row b.toNat (D b.toNat) (by simp [hbk]) trivial
      have hjm : j < m := by
        have := (List.getElem?_eq_some_iff.1 hbj).1
        omega
      refine ⟨B, q, d, ?_, by rw [← hj]; exact hI.wide2 e3 (by omega)⟩
      have hul := own_len hown
      have := (hown.cellAt j (by omega)).trans (hu.trans e1)
      simpa [Addr.add_lit] using this

/-- a fresh row of noughts stored into a slice of rows -/
theorem Lst.make0 {T : TypeId} {wr x : World} {lo gd n m cd q : Nat} {vs : List Value} {xs : List (List Int)} (h : Lst kI T (fun _ => True) wr lo wr.heap.size (some ⟨gd, 0, none⟩) m cd vs xs) (hb : Below wr.heap.size wr x) (hlo : lo ≤ wr.heap.size) (hq : q < m) (hn : n ≤ 1000) :
    ∃ vs', Lst kI T (fun _ => True) ((x.alloc (.cells (zeros n) 3)).setCell ⟨gd, q, none⟩ (.slice (some ⟨x.heap.size, 0, none⟩) n n)) lo ((x.alloc (.cells (zeros n) 3)).setCell ⟨gd, q, none⟩ (.slice (some ⟨x.heap.size, 0, none⟩) n n)).heap.size (some ⟨gd, 0, none⟩) m cd vs' (xs.set q (zeroJ n)) := by
  have f := FillS.start x n hn
  have hz := hb.size
  have hA := hb.trans ((below_alloc x (.cells (zeros n) 3)).mono hz)
  have hse : ((x.alloc (.cells (zeros n) 3)).setCell ⟨gd, q, none⟩ (.slice (some ⟨x.heap.size, 0, none⟩) n n)).heap.size = x.heap.size + 1 := by simp [World.setCell]
  rw [hse]
  exact ⟨_, (h.below hA (Nat.le_refl _)).put (l := x.heap.size) (h' := x.heap.size + 1) ⟨_, n, n, rfl, f.own.ints⟩ hz hlo (Nat.le_refl _) (by omega) hq (fun _ _ _ => trivial)⟩
theorem range_snoc {α : Type} (k : Nat) (D : Nat → α) : (List.range k).map D ++ [D k] = (List.range (k + 1)).map D := by rw [List.range_succ, List.map_append]; rfl

set_option maxRecDepth 100000 in
set_option maxHeartbeats 8000000 in
theorem impl_shadedDifferentials (gA cA : Nat) (es : List Sh) (hkey : es.map Sh.key = tabS) (lo hi : Nat) (o : Int) (P : Option Addr) (dim c : Nat) (ps : List (List Mono)) (lo1 hi1 : Nat) (C : Option Addr) (cC : Nat) (cols : List Int) (loc hic : Nat) (gy cy : Nat) (yss : List (List Int)) (lo2 hi2 n : Nat) (cnt : Nat) (w : World)
    (hA : AllS w lo hi (some ⟨gA, 0, none⟩) 72 cA es) (hp : Mons2 w lo1 hi1 P dim c ps) (hc : Ints w loc hic C dim cC cols) (hy : Ints2 w lo2 hi2 (some ⟨gy, 0, none⟩) dim cy yss) (hh : hi ≤ w.heap.size) (hh1 : hi1 ≤ w.heap.size) (hhc : hic ≤ w.heap.size) (hh2 : hi2 ≤ w.heap.size)
    (hG : GoodF dim ps) (hN : JNum n yss) (hd0 : 0 < dim) (hd6 : dim ≤ 6) (hn0 : 0 < n) (hn : n ≤ 1000) (hcnt : cnt ≤ 72) :
    Calls Tryz.prog 36 #[.slice (some ⟨gA, 0, none⟩) 72 cA, .agg #[.int .i64 o, .slice P dim c], .slice C dim cC, .slice (some ⟨gy, 0, none⟩) dim cy, .int .i64 (cnt : Int)] w fun e w' => ∃ R cR vs, e = .returned (.slice R cnt cR) ∧ Lst kII 52 (fun _ => True) w' w.heap.size w'.heap.size R cnt cR vs ((List.range cnt).map fun (b : Nat) => Jr.rowsJ dim (Jr.dT dim ps cols (dirO n yss) (listAt (b : Int)))) ∧ Below w.heap.size w w' := by
  obtain ⟨i1, hi1', hz0, hz1, hz2⟩ := info_parts info_jets
  have hcA := hA.capb
  have hcp := hp.cap
  have hmp := hp.max
  have hcc := hc.cap
  have hmc := hc.max
  have hcy := hy.cap
  have hmy := hy.max
  have HKEY := hide hkey
  have HA := hide hA
  have HP := hide hp
  have HC := hide hc
  have HY := hide hy
  have HG := hide hG
  have HN := hide hN
  obtain ⟨ad, B0, m0, d0, y0, e, hc0, hI0, _, hx0⟩ := hy.at_ (k := 0) hd0
  injection e with e
  subst e
  obtain rfl : n = m0 := by rw [← hI0.len]; exact ((hN y0 (List.mem_of_getElem? hx0.out)).1).symm
  have hcy0 : w.cell? ⟨gy, 0, none⟩ = some (.slice B0 n d0) := by simpa [Addr.add_lit] using hc0
  have hgy0 := World.block_lt_of_cell? w _ hcy0
  have hcd0 := hI0.cap
  have hmd0 := hI0.max
  obtain ⟨Y, hY⟩ : ∃ Y : Nat → Jr n, Y = dirO n yss := ⟨_, rfl⟩
  rw [← hY]
  obtain ⟨D, hD⟩ : ∃ D : Nat → List (List Int), D = fun b : Nat => Jr.rowsJ dim (Jr.dT dim ps cols Y (listAt (b : Int))) := ⟨_, rfl⟩
  rw [show (List.range cnt).map (fun (b : Nat) => Jr.rowsJ dim (Jr.dT dim ps cols Y (listAt (b : Int)))) = (List.range cnt).map D by rw [hD]]
  have HYY := hide hY
  have HD := hide hD
  have b0 := below_alloc w (.cells #[.int .i64 o, .slice P dim c] 33)
  have k0 := BlkN.new w #[.int .i64 o, .slice P dim c] 33
  have z0 : (w.alloc (.cells #[.int .i64 o, .slice P dim c] 33)).heap.size = w.heap.size + 1 := by simp
  clear hA hp hc hy hG hN hI0 hx0 hc0 hY hD
  go_enter Tryz.func36, Tryz.ntmps36
  go_wp2_with fail
  generalize w.alloc (.cells #[.int .i64 o, .slice P dim c] 33) = W0 at b0 k0 z0 ⊢
  have hL0 := hide (Lst.empty kII 52 (fun _ => True) W0 (w.heap.size + 1) (by omega))
  have hbL := hide (b0.trans ((below_alloc W0 (.cells #[] 52)).mono b0.size))
  have zL : (W0.alloc (.cells #[] 52)).heap.size = W0.heap.size + 1 := by simp
  have hL1 := hide (hL0.out.wide (hi2 := (W0.alloc (.cells #[] 52)).heap.size) (by omega))
  rw [z0] at hL1
  have hK1 := hide (k0.alloc (.cells #[] 52))
  clear hL0 zL
  generalize W0.alloc (.cells #[] 52) = W1 at hL1 hbL hK1 ⊢
  clear b0 k0 z0
  go_loopw [11, 12] (fun p i wr => ∃ (k : Nat) (R : Option Addr) (cR : Nat) (vs : List Value), k ≤ cnt ∧ i = .int .i64 (k : Int) ∧ p = .slice R k cR ∧ Hid (Lst kII 52 (fun _ => True) wr (w.heap.size + 1) wr.heap.size R k cR vs ((List.range k).map D)) ∧ Hid (Below w.heap.size w wr) ∧ Hid (BlkN wr w.heap.size #[.int .i64 o, .slice P dim c])) (fun _ i _ => cnt - (intOf i).toNat)
  case atStart => exact ⟨0, _, 0, [], by omega, rfl, rfl, hL1.out, hbL.out, hK1.out⟩
  case round =>
    clear hL1 hbL hK1
    obtain ⟨k, R, cR, vs, hk, rfl, rfl, hL, hb, hK⟩ := hrel
    have hsz := hb.out.size
    have hcR := hL.out.capb
    by_cases hlt : k < cnt
    · obtain ⟨t, ht⟩ : ∃ t, tabS[k]? = some t := ⟨_, List.getElem?_eq_getElem (by have := tab_len; omega)⟩
      obtain ⟨l, bs, sy⟩ := t
      obtain ⟨en, hen, hek⟩ := key_at HKEY.out ht
      have hlk := list_at ht
      have hTF := tab_facts ht
      have hbs := bs_of hek
      have hel := l_of hek
      have hk72 : k < 72 := by omega
      have hAr := hide (HA.out.below hb.out hh)
      have ce0 := hAr.out.cell hen (i := 0) rfl
      have ce1 := hAr.out.cell hen (i := 1) rfl
      have ce2 := hAr.out.cell hen (i := 2) rfl
      have ce3 := hAr.out.cell hen (i := 3) rfl
      rw [Nat.add_zero] at ce0
      obtain ⟨hR1, hR2, _, _⟩ := HA.out.row en (List.mem_of_getElem? hen)
      obtain ⟨p2, q2, hp2, hq2, hI2, _⟩ := hR2
      obtain ⟨p1, q1, hp1, hq1, hIl, _⟩ := hR1
      rw [hbs] at hI2
      rw [hel] at hIl
      have HEL := hide hel
      have hcf := hI2.cap
      have hmf := hI2.max
      have hbl := hide hI2.len
      have hb3 : en.k ≤ 3 := by
        have h1 := hI2.len
        have h2 : bs.length ≤ 3 := tab_three ht
        omega
      have HI2 := hide hI2
      have HIL := hide hIl
      have HTF := hide hTF
      have HLK := hide hlk
      have hA2 := below_alloc wr (.cells #[] 52)
      have oA := hide (show (wr.alloc (.cells #[] 52)).ownsRow wr.heap.size 52 1 (.slice (some ⟨wr.heap.size, 0, none⟩) 0 0) 0 ((bs.take 0).map fun b => (vs[b.toNat]?).getD (.bool true)) by simpa using World.ownsRow_lit (size := 1) (e := 52) wr #[] 0 (Nat.le_refl _) (by unfold maxLen; omega) rfl)
      have hbA := hide hA2
      clear hek hI2 hIl hTF hlk hA2 hbs hel
      have hlow := tab_low ht
      have ce2' := (hbA.out.cell (p := ⟨gA, k * 4 + 2, none⟩) (World.block_lt_of_cell? wr _ ce2)).trans ce2
      have HLOW := hide hlow
      clear ht hlow
      go_wp2_with fail
      clear ce2'
      obtain ⟨wo, hwo⟩ : ∃ wo : World, wo = wr := ⟨_, rfl⟩
      subst hwo
      have bA0 := hide (hb.out.trans (hbA.out.mono hsz))
      generalize wo.alloc (.cells #[] 52) = W2 at oA hbA bA0 ⊢
      go_loopw [13, 31] (fun a i w2 => ∃ (j : Nat) (R2 : Option Addr) (c2 : Nat), j ≤ en.k ∧ i = .int .i64 (j : Int) ∧ a = .slice R2 j c2 ∧ Hid (w2.ownsRow wo.heap.size 52 1 (.slice R2 j c2) j ((bs.take j).map fun b => (vs[b.toNat]?).getD (.bool true))) ∧ Hid (Below wo.heap.size wo w2)) (fun _ i _ => en.k - (intOf i).toNat)
      case atStart => exact ⟨0, _, _, by omega, rfl, rfl, oA.out, hbA.out⟩
      case round =>
        clear oA hbA bA0
        obtain ⟨j, R2, c2, hj, rfl, rfl, hO, hb2⟩ := hrel
        have hzz2 := hb2.out.size
        have hbw := hide (hb.out.trans (hb2.out.mono hsz))
        by_cases hltj : j < en.k
        · obtain ⟨ad, b, hC2, hcb, hbr, _, hxb⟩ := ((HI2.out.below hb.out (by omega)).below hb2.out (by omega)).at_ hltj
          have hbl2 := HLOW.out b (List.mem_of_getElem? hxb.out)
          obtain ⟨bn, rfl⟩ : ∃ bn : Nat, b = (bn : Int) := ⟨b.toNat, by omega⟩
          have hbn : bn < k := by simpa using hbl2.2
          obtain ⟨gR, rfl, _, _, _⟩ := hL.out.form (by omega)
          have hL2 := hide (hL.out.below hb2.out (Nat.le_refl _))
          obtain ⟨v, lv, hv, xv, hcv, ⟨Bv, qv, dv, rfl, hIv⟩, _, _, hxv⟩ := hL2.out.at_ hbn trivial
          have hvv : vs[bn]? = some (.slice Bv qv dv) := by
            have := (hL2.out.own.cellAt bn (by have := hL2.out.vlen; omega)).symm.trans hcv
            simpa using this
          have hT : Hid (((bs.take (j + 1)).map fun b => (vs[b.toNat]?).getD (.bool true)) = ((bs.take j).map fun b => (vs[b.toNat]?).getD (.bool true)) ++ [.slice Bv qv dv]) := by
            show _ = _
            rw [List.take_add_one, hxb.out, List.map_append]
            simp [hvv]
          have hcO : j ≤ c2 ∧ c2 ≤ 9223372036854775807 := by
            rcases hO.out.2 with ⟨e, rfl⟩ | ⟨g', cap, cur, e, _, _, h1, h2, _⟩
            · injection e; omega
            · injection e with _ _ e3; unfold maxLen at h2; omega
          rw [hC2] at *
          clear hxb hbl2 hIv hxv hvv
          go_wp2_with (at_builtin; refine wpl_app1b rfl (.tmp 35) (.tmp 40) 58 rfl wo.heap.size 52 i1 (.slice none 0 0) 1 24 Tryz.underlying58 hi1' hz0 hz1 hz2 rfl (by omega) wr #[.slice Bv qv dv] _ rfl R2 j c2 1 _ rfl rfl hO.out rfl (by simp [Value.oneCell']) (by omega) (by omega) hzz2 ?_; intro A5 c5 w5 happ5 hlt5; have hO5 := hide happ5.1; have hb5 := hide (happ5.low hb2.out hzz2 (Nat.le_refl _) hO.out); clear happ5)
          refine ⟨⟨j + 1, A5, c5, by omega, by go_num, rfl, by rw [hT.out]; exact hO5.out, hb5.out⟩, ?_⟩
          simp [intOf]; omega
        · obtain rfl : j = en.k := by omega
          have htk : bs.take en.k = bs := List.take_of_length_le (Nat.le_of_eq hbl.out)
          rw [htk] at hO
          have hgw := hK.out.lt
          obtain ⟨dss, hdss⟩ : ∃ dss : List (List (List Int)), dss = bs.map fun b => Jr.rowsJ dim (Jr.dT dim ps cols Y (listAt b)) := ⟨_, rfl⟩
          have hde : (bs.map fun b => D b.toNat) = dss := by
            rw [hdss]
            refine List.map_congr_left fun b hb => ?_
            rw [HD.out]
            show Jr.rowsJ dim (Jr.dT dim ps cols Y (listAt ((b.toNat : Nat) : Int))) = _
            rw [show ((b.toNat : Nat) : Int) = b from Int.toNat_of_nonneg (HLOW.out b hb).1]
          have hAl := along_ints3 (hL.out.below hb2.out (Nat.le_refl _)) hO.out (by omega) hzz2 hbl.out (fun j b hjb => ⟨(HLOW.out b (List.mem_of_getElem? hjb)).2, by
            have h1 := (HLOW.out b (List.mem_of_getElem? hjb)).2
            have h2 := hL.out.vlen
            obtain ⟨v, hv⟩ : ∃ v, vs[b.toNat]? = some v := ⟨_, List.getElem?_eq_getElem (by omega)⟩
            rw [List.getElem?_map, hjb, hv]
            show some ((vs[b.toNat]?).getD _) = some v
            rw [hv]
            rfl⟩)
          rw [hde] at hAl
          have hS3 : St3 n dim dss := fun x hx => by
            rw [hdss] at hx
            obtain ⟨b, _, rfl⟩ := List.mem_map.1 hx
            exact ⟨Jr.rowsJ_len _ _, Jr.rowsJ_num _ _⟩
          have hcO : en.k ≤ c2 ∧ c2 ≤ 9223372036854775807 := ⟨hAl.cap, hAl.max⟩
          have HFA := impl_fieldAlongD o P dim c ps lo1 hi1 gy cy yss lo2 hi2 n R2 en.k c2 dss (w.heap.size + 1) wr.heap.size wr (HP.out.below hbw.out hh1) (HY.out.below hbw.out hh2) hAl (Nat.le_refl _) hS3 hb3 (by omega) (by omega) HG.out HN.out hd0 hd6 hn0 hn
          rw [← HYY.out, hdss, Jr.field_tab] at HFA
          obtain ⟨Gk, hGk⟩ : ∃ Gk : Nat → Jr n, Gk = Jr.fieldD dim ps Y (bs.map fun b => Jr.dT dim ps cols Y (listAt b)) := ⟨_, rfl⟩
          rw [← hGk] at HFA
          obtain ⟨col, hcol⟩ : ∃ col : Int, col = l.headD 0 := ⟨_, rfl⟩
          have hDk : Hid (Jr.rowsJ dim (Jr.selC cols col Gk) = D k) := by
            show _ = _
            rw [HD.out, hGk, hcol]
            show _ = Jr.rowsJ dim (Jr.dT dim ps cols Y (listAt (k : Int)))
            rw [HLK.out, Jr.dT_tab dim ps cols Y HTF.out]
          have HFA2 := hide HFA
          have HCOL := hide hcol
          have hKr := hK.out.below hb2.out
          have c0 := hKr.c 0 rfl
          have c1 := hKr.c 1 rfl
          clear hAl hS3 HFA hdss hde hGk hcol hO htk hKr
          go_wp2_with fail
          refine HFA2.out.mono ?_
          rintro e w3 ⟨gd, cd, vsd, rfl, hLd, b3⟩
          have hz3 := b3.size
          have hb4 := hide (hb2.out.trans (b3.mono hzz2))
          have hLd0 := hide (show ∃ vsd, Lst kI 55 (fun _ => True) w3 wr.heap.size w3.heap.size (some ⟨gd, 0, none⟩) dim cd vsd (Jr.rowsJ dim fun v => if v < 0 then Jr.selC cols col Gk v else Gk v) from ⟨vsd, by rw [Jr.sel_start]; exact hLd⟩)
          have hcd := hLd.capb
          obtain ⟨wa, hwa⟩ : ∃ wa : World, wa = wr := ⟨_, rfl⟩
          subst hwa
          clear c0 c1 HFA2 b3 hLd
          go_wp2_with fail
          go_loopw [49] (fun i w4 => ∃ (q : Nat), q ≤ dim ∧ i = .int .i64 (q : Int) ∧ Hid (∃ vsd, Lst kI 55 (fun _ => True) w4 wa.heap.size w4.heap.size (some ⟨gd, 0, none⟩) dim cd vsd (Jr.rowsJ dim fun v => if v < q then Jr.selC cols col Gk v else Gk v)) ∧ Hid (Below wo.heap.size wo w4) ∧ wa.heap.size ≤ w4.heap.size) (fun i _ => dim - (intOf i).toNat)
          case atStart => exact ⟨0, by omega, rfl, hLd0.out, hb4.out, hz3⟩
          case round =>
            clear hLd0 hb4
            obtain ⟨q, hq, rfl, hLd, hb5, hz5⟩ := hrel
            have hb6 := hide (hb.out.trans (hb5.out.mono hsz))
            by_cases hltq : q < dim
            · obtain ⟨adc, xq, hCc, hcx, hxr, _, hxu⟩ := (HC.out.below hb6.out hhc).at_ hltq
              have hxq : Hid (cols.getD q 0 = xq) := by show _ = _; rw [List.getD, hxu.out]; rfl
              have hq1 : q1 ≤ w.heap.size := by omega
              obtain ⟨aC, haC⟩ : ∃ a, a = adc.add q := ⟨_, rfl⟩
              rw [← haC] at hcx
              have haCw := World.block_lt_of_cell? wr _ hcx
              have de0 := (hb5.out.cell (p := ⟨gA, k * 4, none⟩) (World.block_lt_of_cell? wo _ ce0)).trans ce0
              have de1 := (hb5.out.cell (p := ⟨gA, k * 4 + 1, none⟩) (World.block_lt_of_cell? wo _ ce1)).trans ce1
              have de2 := (hb5.out.cell (p := ⟨gA, k * 4 + 2, none⟩) (World.block_lt_of_cell? wo _ ce2)).trans ce2
              have de3 := (hb5.out.cell (p := ⟨gA, k * 4 + 3, none⟩) (World.block_lt_of_cell? wo _ ce3)).trans ce3
              have hgAw := World.block_lt_of_cell? wr _ de0
              have hCol : Hid (∀ W, Below wr.heap.size wr W → Calls Tryz.prog 73 #[.agg #[.slice en.B en.m en.d, .int .i64 en.plain, .slice en.C en.k en.f, .int .i64 en.sy]] W fun e w' => e = .returned (.int .i64 col) ∧ Below W.heap.size W w') := fun W hB => by
                have hz := hB.size
                have hbW := hb6.out.trans (hB.mono (hb6.out.size))
                have := impl_colour en p1 q1 W (by rw [HEL.out]; exact HIL.out.below hbW hq1) (by omega) (by rw [HEL.out]; exact HTF.out.ne)
                rw [HEL.out, ← HCOL.out] at this
                exact this
              obtain ⟨vsd, hLd2⟩ := hLd.out
              obtain ⟨vd, ld, hd', xd, hcd1, _, _, _, _⟩ := hLd2.at_ hltq trivial
              have hfd1 := hLd2.own.frozenAt q
              have hgdlo := (hLd2.own.lt gd rfl).1
              have hgdw := World.block_lt_of_cell? wr _ hcd1
              have HLD := hide hLd2
              have y0' := (hb6.out.cell (p := ⟨gy, 0, none⟩) hgy0).trans hcy0
              have hgyw := World.block_lt_of_cell? wr _ y0'
              rw [hCc] at *
              clear hxu hLd hLd2
              by_cases hcc2 : xq = col
              · have hcb : (xq != col) = false := by simpa using hcc2
                have HN1 : Hid (∃ vsd, Lst kI 55 (fun _ => True) wr wa.heap.size wr.heap.size (some ⟨gd, 0, none⟩) dim cd vsd (Jr.rowsJ dim fun v => if v < q + 1 then Jr.selC cols col Gk v else Gk v)) := ⟨vsd, by rw [← Jr.sel_keep Gk (hxq.out.trans hcc2)]; exact HLD.out⟩
                clear hcc2 HLD hcd1 hfd1 y0'
                go_wp2_with fail
                refine wp_region_Z (fun W' => Below wr.heap.size wr W') 9 (by kernel_rfl) ?_
                simp only [List.size_toArray, List.length_cons, List.length_nil, Nat.reduceAdd]
                have hS0 : Below wr.heap.size wr wr.drew := (Below.refl wr.heap.size wr).drew
                generalize wr.drew = V at hS0 ⊢
                refine wpAnyZ_takeW 0 (.slice (some adc) dim cC) rfl (by kernel_rfl) (by kernel_rfl) (fun _ _ _ h => h) (by rfl) (fun _ => by first | (simp [go_sem]; done) | go_simp) hS0 ?_
                try simp only [Act.put, List.setIfInBounds_toArray, List.set_cons_zero, List.set_cons_succ, List.getElem_toArray, List.getElem_cons_zero, List.getElem_cons_succ]
                refine wpAnyZ_takeW 1 (.int .i64 (q : Int)) rfl (by kernel_rfl) (by kernel_rfl) (fun _ _ _ h => h) (by rfl) (fun _ => by first | (simp [go_sem]; done) | go_simp) hS0 ?_
                try simp only [Act.put, List.setIfInBounds_toArray, List.set_cons_zero, List.set_cons_succ, List.getElem_toArray, List.getElem_cons_zero, List.getElem_cons_succ]
                refine wpAnyZ_takeW 2 (.pointer (some aC)) rfl (by kernel_rfl) (by kernel_rfl) (fun _ _ _ h => h) (by rfl) (fun _ => by simp [go_sem, hltq, haC]) hS0 ?_
                try simp only [Act.put, List.setIfInBounds_toArray, List.set_cons_zero, List.set_cons_succ, List.getElem_toArray, List.getElem_cons_zero, List.getElem_cons_succ]
                refine wpAnyZ_take 3 (.int .i64 xq) rfl (by kernel_rfl) (by kernel_rfl) (fun _ _ _ h => h) (by rfl) (fun _ hS => by have q0 := (hS.cell (p := aC) haCw).trans hcx; clear hS; first | (simp [go_sem, q0]; done) | go_simp) hS0 ?_
                try simp only [Act.put, List.setIfInBounds_toArray, List.set_cons_zero, List.set_cons_succ, List.getElem_toArray, List.getElem_cons_zero, List.getElem_cons_succ]
                refine wpAnyZ_takeW 4 (.slice (some ⟨gA, 0, none⟩) 72 cA) rfl (by kernel_rfl) (by kernel_rfl) (fun _ _ _ h => h) (by rfl) (fun _ => by first | (simp [go_sem]; done) | go_simp) hS0 ?_
                try simp only [Act.put, List.setIfInBounds_toArray, List.set_cons_zero, List.set_cons_succ, List.getElem_toArray, List.getElem_cons_zero, List.getElem_cons_succ]
                refine wpAnyZ_takeW 5 (.int .i64 (k : Int)) rfl (by kernel_rfl) (by kernel_rfl) (fun _ _ _ h => h) (by rfl) (fun _ => by first | (simp [go_sem]; done) | go_simp) hS0 ?_
                try simp only [Act.put, List.setIfInBounds_toArray, List.set_cons_zero, List.set_cons_succ, List.getElem_toArray, List.getElem_cons_zero, List.getElem_cons_succ]
                refine wpAnyZ_takeW 6 (.pointer (some ⟨gA, k * 4, none⟩)) rfl (by kernel_rfl) (by kernel_rfl) (fun _ _ _ h => h) (by rfl) (fun _ => by simp [go_sem]; omega) hS0 ?_
                try simp only [Act.put, List.setIfInBounds_toArray, List.set_cons_zero, List.set_cons_succ, List.getElem_toArray, List.getElem_cons_zero, List.getElem_cons_succ]
                refine wpAnyZ_one 7 (by kernel_rfl) rfl (by rfl) (fun K hK => ?_)
                have qe7_0 := (hS0.cell (p := ⟨gA, k * 4, none⟩) hgAw).trans de0
                have qe7_1 := (hS0.cell (p := ⟨gA, k * 4 + 1, none⟩) hgAw).trans de1
                have qe7_2 := (hS0.cell (p := ⟨gA, k * 4 + 2, none⟩) hgAw).trans de2
                have qe7_3 := (hS0.cell (p := ⟨gA, k * 4 + 3, none⟩) hgAw).trans de3
                go_simp
                refine hK.out _ _ hS0 ?_
                clear hK K qe7_0 qe7_1 qe7_2 qe7_3
                try simp only [Act.put, List.setIfInBounds_toArray, List.set_cons_zero, List.set_cons_succ, List.getElem_toArray, List.getElem_cons_zero, List.getElem_cons_succ]
                refine wpAnyZ_one 8 (by kernel_rfl) rfl (by rfl) (fun K hK => ?_)
                go_simp
                refine (hCol.out V hS0).mono ?_
                rintro e x1 ⟨rfl, b1⟩
                have z1 := hS0.size
                have hS1 := hS0.trans (b1.mono z1)
                clear z1
                go_wp2_with fail
                refine hK.out _ _ hS1 ?_
                clear hK K
                try simp only [Act.put, List.setIfInBounds_toArray, List.set_cons_zero, List.set_cons_succ, List.getElem_toArray, List.getElem_cons_zero, List.getElem_cons_succ]
                refine wpAnyZ_last (by kernel_rfl) rfl (by kernel_rfl) (by rfl) (fun K hK => ?_)
                go_simp
                refine hK _ _ ?_
                clear hK K
                have hB := hide hS1
                have hzB := hB.out.size
                generalize x1 = xw at hB hzB ⊢
                have HN2 := hide (show ∃ vsd, Lst kI 55 (fun _ => True) xw wa.heap.size xw.heap.size (some ⟨gd, 0, none⟩) dim cd vsd (Jr.rowsJ dim fun v => if v < q + 1 then Jr.selC cols col Gk v else Gk v) from by obtain ⟨vs1, h1⟩ := HN1.out; exact ⟨vs1, (h1.below hB.out (Nat.le_refl _)).wide hzB⟩)
                have hb8 := hide (hb5.out.trans (hB.out.mono hb5.out.size))
                clear de0 de1 de2 de3 hcx
                go_wp2_with fail
                go_roundw
                case rel => exact ⟨q + 1, by omega, by go_num, HN2.out, hb8.out, by omega⟩
                case measure => simp [intOf]; omega
              · have hcb : (xq != col) = true := by simpa using hcc2
                have hset := Jr.sel_zero (n := n) (dim := dim) (i := q) (cols := cols) (q := col) Gk (by rw [hxq.out]; exact hcc2)
                have HSET := hide hset
                clear hcc2 hset
                go_wp2_with fail
                refine wp_region_Z (fun W' => Below wr.heap.size wr W') 9 (by kernel_rfl) ?_
                simp only [List.size_toArray, List.length_cons, List.length_nil, Nat.reduceAdd]
                have hS0 : Below wr.heap.size wr wr.drew := (Below.refl wr.heap.size wr).drew
                generalize wr.drew = V at hS0 ⊢
                refine wpAnyZ_takeW 0 (.slice (some adc) dim cC) rfl (by kernel_rfl) (by kernel_rfl) (fun _ _ _ h => h) (by rfl) (fun _ => by first | (simp [go_sem]; done) | go_simp) hS0 ?_
                try simp only [Act.put, List.setIfInBounds_toArray, List.set_cons_zero, List.set_cons_succ, List.getElem_toArray, List.getElem_cons_zero, List.getElem_cons_succ]
                refine wpAnyZ_takeW 1 (.int .i64 (q : Int)) rfl (by kernel_rfl) (by kernel_rfl) (fun _ _ _ h => h) (by rfl) (fun _ => by first | (simp [go_sem]; done) | go_simp) hS0 ?_
                try simp only [Act.put, List.setIfInBounds_toArray, List.set_cons_zero, List.set_cons_succ, List.getElem_toArray, List.getElem_cons_zero, List.getElem_cons_succ]
                refine wpAnyZ_takeW 2 (.pointer (some aC)) rfl (by kernel_rfl) (by kernel_rfl) (fun _ _ _ h => h) (by rfl) (fun _ => by simp [go_sem, hltq, haC]) hS0 ?_
                try simp only [Act.put, List.setIfInBounds_toArray, List.set_cons_zero, List.set_cons_succ, List.getElem_toArray, List.getElem_cons_zero, List.getElem_cons_succ]
                refine wpAnyZ_take 3 (.int .i64 xq) rfl (by kernel_rfl) (by kernel_rfl) (fun _ _ _ h => h) (by rfl) (fun _ hS => by have q0 := (hS.cell (p := aC) haCw).trans hcx; clear hS; first | (simp [go_sem, q0]; done) | go_simp) hS0 ?_
                try simp only [Act.put, List.setIfInBounds_toArray, List.set_cons_zero, List.set_cons_succ, List.getElem_toArray, List.getElem_cons_zero, List.getElem_cons_succ]
                refine wpAnyZ_takeW 4 (.slice (some ⟨gA, 0, none⟩) 72 cA) rfl (by kernel_rfl) (by kernel_rfl) (fun _ _ _ h => h) (by rfl) (fun _ => by first | (simp [go_sem]; done) | go_simp) hS0 ?_
                try simp only [Act.put, List.setIfInBounds_toArray, List.set_cons_zero, List.set_cons_succ, List.getElem_toArray, List.getElem_cons_zero, List.getElem_cons_succ]
                refine wpAnyZ_takeW 5 (.int .i64 (k : Int)) rfl (by kernel_rfl) (by kernel_rfl) (fun _ _ _ h => h) (by rfl) (fun _ => by first | (simp [go_sem]; done) | go_simp) hS0 ?_
                try simp only [Act.put, List.setIfInBounds_toArray, List.set_cons_zero, List.set_cons_succ, List.getElem_toArray, List.getElem_cons_zero, List.getElem_cons_succ]
                refine wpAnyZ_takeW 6 (.pointer (some ⟨gA, k * 4, none⟩)) rfl (by kernel_rfl) (by kernel_rfl) (fun _ _ _ h => h) (by rfl) (fun _ => by simp [go_sem]; omega) hS0 ?_
                try simp only [Act.put, List.setIfInBounds_toArray, List.set_cons_zero, List.set_cons_succ, List.getElem_toArray, List.getElem_cons_zero, List.getElem_cons_succ]
                refine wpAnyZ_one 7 (by kernel_rfl) rfl (by rfl) (fun K hK => ?_)
                have qe7_0 := (hS0.cell (p := ⟨gA, k * 4, none⟩) hgAw).trans de0
                have qe7_1 := (hS0.cell (p := ⟨gA, k * 4 + 1, none⟩) hgAw).trans de1
                have qe7_2 := (hS0.cell (p := ⟨gA, k * 4 + 2, none⟩) hgAw).trans de2
                have qe7_3 := (hS0.cell (p := ⟨gA, k * 4 + 3, none⟩) hgAw).trans de3
                go_simp
                refine hK.out _ _ hS0 ?_
                clear hK K qe7_0 qe7_1 qe7_2 qe7_3
                try simp only [Act.put, List.setIfInBounds_toArray, List.set_cons_zero, List.set_cons_succ, List.getElem_toArray, List.getElem_cons_zero, List.getElem_cons_succ]
                refine wpAnyZ_one 8 (by kernel_rfl) rfl (by rfl) (fun K hK => ?_)
                go_simp
                refine (hCol.out V hS0).mono ?_
                rintro e x1 ⟨rfl, b1⟩
                have z1 := hS0.size
                have hS1 := hS0.trans (b1.mono z1)
                clear z1
                go_wp2_with fail
                refine hK.out _ _ hS1 ?_
                clear hK K
                try simp only [Act.put, List.setIfInBounds_toArray, List.set_cons_zero, List.set_cons_succ, List.getElem_toArray, List.getElem_cons_zero, List.getElem_cons_succ]
                refine wpAnyZ_last (by kernel_rfl) rfl (by kernel_rfl) (by rfl) (fun K hK => ?_)
                go_simp
                refine hK _ _ ?_
                clear hK K
                have hB := hide hS1
                have hzB := hB.out.size
                generalize x1 = xw at hB hzB ⊢
                obtain ⟨vs1, hN1⟩ := HLD.out.make0 (n := n) hB.out hz5 hltq hn
                rw [HSET.out] at hN1
                have aX := below_alloc xw (.cells (zeros n) 3)
                have hBa := hB.out.trans (aX.mono hzB)
                have y1 := (hB.out.cell (p := ⟨gy, 0, none⟩) hgyw).trans y0'
                have d1 := (hBa.cell (p := ⟨gd, q, none⟩) hgdw).trans hcd1
                have f1 := (hBa.frozen (p := ⟨gd, q, none⟩) hgdw).trans hfd1
                have hmk := make_jet n hn xw
                have hb8 := hide ((hb5.out.trans (hBa.mono hb5.out.size)).setCell (p := ⟨gd, q, none⟩) (show wo.heap.size ≤ gd by omega) (.slice (some ⟨xw.heap.size, 0, none⟩) n n))
                have HN2 := hide (show ∃ vsd, Lst kI 55 (fun _ => True) ((xw.alloc (.cells (zeros n) 3)).setCell ⟨gd, q, none⟩ (.slice (some ⟨xw.heap.size, 0, none⟩) n n)) wa.heap.size ((xw.alloc (.cells (zeros n) 3)).setCell ⟨gd, q, none⟩ (.slice (some ⟨xw.heap.size, 0, none⟩) n n)).heap.size (some ⟨gd, 0, none⟩) dim cd vsd (Jr.rowsJ dim fun v => if v < q + 1 then Jr.selC cols col Gk v else Gk v) from ⟨vs1, hN1⟩)
                clear de0 de1 de2 de3 hcx hcd1 hfd1 hN1 aX hBa
                go_wp2_with fail
                clear y1 d1 f1 hmk
                go_roundw
                case rel => exact ⟨q + 1, by omega, by go_num, HN2.out, hb8.out, by simp [World.setCell]; omega⟩
                case measure => simp [intOf]; omega
            · obtain rfl : dim = q := by omega
              obtain ⟨vsd, hLd2⟩ := hLd.out
              rw [Jr.sel_end, hDk.out] at hLd2
              have hI2 := hide hLd2.ints2
              have hLr := hide (hL.out.below hb5.out (Nat.le_refl _))
              have hKr := hide (hK.out.below hb5.out)
              have hgk := hKr.out.lt
              have hszw := hb6.out.size
              clear hLd hLd2
              go_wp2_with (at_builtin; refine wpl_app1 rfl (.tmp 71) (.tmp 73) 58 rfl (w.heap.size + 1) 52 i1 (.slice none 0 0) 1 24 Tryz.underlying58 hi1' hz0 hz1 hz2 rfl (by omega) wr #[.slice (some ⟨gd, 0, none⟩) dim cd] R k cR 1 _ rfl rfl hLr.out.own rfl (by simp [Value.oneCell']) (by omega) (by omega) (by omega) ?_; intro A5 c5 w5 happ5 hlt5; have hL5 := hide (hLr.out.push (l := wa.heap.size) (h' := wr.heap.size) (x := D k) ⟨some ⟨gd, 0, none⟩, dim, cd, rfl, hI2.out⟩ hzz2 (Nat.le_refl _) (by omega) hb5.out.size happ5); have hb7 := hide (happ5.low hb6.out (by omega) (by omega) hLr.out.own); have hK5 := hide (hKr.out.same (happ5.2.1.block w.heap.size hgk (fun e => by have := (hLr.out.own.lt _ e.symm).1; omega))); clear happ5)
              rw [range_snoc] at hL5
              refine ⟨⟨k + 1, A5, c5, _, by omega, by go_num, rfl, hL5.out, hb7.out, hK5.out⟩, ?_⟩
              simp [intOf]; omega
    · obtain rfl : cnt = k := by omega
      have HL := hide (hL.out.lower (lo2 := w.heap.size) (by omega))
      clear hL
      go_wp2_with fail
      go_ret
      exact ⟨_, _, _, rfl, HL.out, hb.out⟩
end Go.Proofs.YtkaepjigmcielaaGreatDoor
