/- Weights of shaded trees: the program's walk. -/
import Derived.Test.YthjkdpapadolgaaGreatDoorWtI
namespace Go.Proofs.YthjkdpapadolgaaGreatDoor
open Go.RowKit
set_option linter.unusedSimpArgs false
set_option linter.unusedVariables false
set_option maxRecDepth 20000

/-- the two tableaus of a pair, as they lie in memory -/
structure PairD where
  k : Nat
  XA : Option Addr
  xc : Nat
  X0 : List Int
  YA : Option Addr
  yc : Nat
  Y0 : List Int
  XB : Option Addr
  xd : Nat
  X1 : List Int
  YB : Option Addr
  yd : Nat
  Y1 : List Int
structure PairR (w : World) (lo hi : Nat) (d : PairD) : Prop where
  x0 : Ints w lo hi d.XA (d.k * d.k) d.xc d.X0
  y0 : Ints w lo hi d.YA d.k d.yc d.Y0
  x1 : Ints w lo hi d.XB (d.k * d.k) d.xd d.X1
  y1 : Ints w lo hi d.YB d.k d.yd d.Y1
  fa : ∀ ad, d.XA = some ad → ad = ⟨ad.block, 0, none⟩
  fb : ∀ ad, d.XB = some ad → ad = ⟨ad.block, 0, none⟩
  hk : d.k ≤ 8
theorem PairR.same {w w' : World} {lo hi : Nat} {d : PairD} (h : PairR w lo hi d) (hs : Same lo hi w w') : PairR w' lo hi d := ⟨h.x0.same hs, h.y0.same hs, h.x1.same hs, h.y1.same hs, h.fa, h.fb, h.hk⟩
theorem PairR.below {w w' : World} {lo hi B : Nat} {d : PairD} (h : PairR w lo hi d) (hb : Below B w w') (hB : hi ≤ B) : PairR w' lo hi d := h.same (.of_below hb hB)
theorem sel_pair {w : World} {lo hi : Nat} {d : PairD} (h : PairR w lo hi d) {q : Int} (hq : q = 0 ∨ q = 1) : ∃ TA tc UA uc,
    (if q = 0 then Value.agg #[.int .i64 (d.k : Int), .slice d.XA (d.k * d.k) d.xc, .slice d.YA d.k d.yc] else .agg #[.int .i64 (d.k : Int), .slice d.XB (d.k * d.k) d.xd, .slice d.YB d.k d.yd]) = .agg #[.int .i64 (d.k : Int), .slice TA (d.k * d.k) tc, .slice UA d.k uc] ∧
    Ints w lo hi TA (d.k * d.k) tc (selF q d.X0 d.X1) ∧ Ints w lo hi UA d.k uc (selF q d.Y0 d.Y1) ∧ ∀ ad, TA = some ad → ad = ⟨ad.block, 0, none⟩ := by
  rcases hq with rfl | rfl
  · exact ⟨_, _, _, _, rfl, h.x0, h.y0, h.fa⟩
  · exact ⟨_, _, _, _, rfl, h.x1, h.y1, h.fb⟩
theorem of_pair {w : World} {lo hi : Nat} {d : PairD} (h : PairR w lo hi d) {q : Int} (hq : q = 0 ∨ q = 1) : ∃ TA tc UA uc,
    Hid (∀ W, Calls Tryz.prog 33 #[.agg #[.int .i64 (d.k : Int), .slice d.XA (d.k * d.k) d.xc, .slice d.YA d.k d.yc, .int .i64 (d.k : Int), .slice d.XB (d.k * d.k) d.xd, .slice d.YB d.k d.yd], .int .i64 q] W fun r w' => r = .returned (.agg #[.int .i64 (d.k : Int), .slice TA (d.k * d.k) tc, .slice UA d.k uc]) ∧ Below W.heap.size W w') ∧
    Ints w lo hi TA (d.k * d.k) tc (selF q d.X0 d.X1) ∧ Ints w lo hi UA d.k uc (selF q d.Y0 d.Y1) ∧ Hid (∀ ad, TA = some ad → ad = ⟨ad.block, 0, none⟩) := by
  obtain ⟨TA, tc, UA, uc, e, h1, h2, h3⟩ := sel_pair h hq
  refine ⟨TA, tc, UA, uc, fun W => ?_, h1, h2, h3⟩
  have := impl_ofT (d.k : Int) d.XA (d.k * d.k) d.xc d.YA d.k d.yc (d.k : Int) d.XB (d.k * d.k) d.xd d.YB d.k d.yd q W hq
  rw [e] at this
  exact this

theorem impl_colour (e : Sh) (p q : Nat) (w : World) (h : Ints w p q e.B e.m e.d e.l) (hq : q ≤ w.heap.size) (hne : e.l ≠ []) :
    Calls Tryz.prog 34 #[.agg #[.slice e.B e.m e.d, .int .i64 e.plain, .slice e.C e.k e.f, .int .i64 e.sy]] w fun r w' => r = .returned (.int .i64 (e.l.headD 0)) ∧ Below w.heap.size w w' := by
  have ba := below_alloc w (.cells #[.slice e.B e.m e.d, .int .i64 e.plain, .slice e.C e.k e.f, .int .i64 e.sy] 59)
  have hm : 0 < e.m := by
    have := h.len
    have := List.length_pos_iff.2 hne
    omega
  have hcp := h.cap
  have hmx := h.max
  obtain ⟨ad, x, e1, hcx, _, _, hxu⟩ := (h.below ba hq).at_ hm
  have hx : Hid (x = e.l.headD 0) := by
    have := hxu.out
    show _ = _
    cases hl : e.l with
    | nil => exact absurd hl hne
    | cons a r => rw [hl] at this; simpa using this.symm
  rw [e1]
  rw [e1] at ba hcx
  rw [Addr.add_zero'] at hcx
  have HBA := hide ba
  clear hxu h ba hne
  go_enter Tryz.func34, Tryz.ntmps34
  go_wp2_with fail
  go_ret
  exact ⟨ret_int hx.out, HBA.out⟩

theorem key_at {es : List Sh} (hkey : es.map Sh.key = tabS) {b : Nat} {t : List Int × List Int × Int} (ht : tabS[b]? = some t) : ∃ e : Sh, es[b]? = some e ∧ e.key = t := by
  rw [← hkey, List.getElem?_map] at ht
  cases he : es[b]? with
  | none => rw [he] at ht; cases ht
  | some e =>
    rw [he] at ht
    injection ht with ht
    exact ⟨e, rfl, ht⟩
theorem bs_of {e : Sh} {l bs : List Int} {sy : Int} (h : e.key = (l, bs, sy)) : e.bs = bs := congrArg (·.2.1) h
theorem l_of {e : Sh} {l bs : List Int} {sy : Int} (h : e.key = (l, bs, sy)) : e.l = l := congrArg (·.1) h

theorem tv_meet {wr W : World} {gT : Nat} {a b c x y z : Value} (km : BlkN W gT #[x, y, z]) (hb : Below wr.heap.size wr W) (hg : wr.heap.size ≤ gT) :
    ∃ g : Nat, Value.pointer (some ⟨gT, 0, none⟩) = .pointer (some ⟨g, 0, none⟩) ∧ wr.heap.size ≤ g ∧ Hid (BlkN (((W.setCell ⟨gT, 0, none⟩ a).setCell ⟨gT, 1, none⟩ b).setCell ⟨gT, 2, none⟩ c) g #[a, b, c]) ∧ Hid (Below wr.heap.size wr (((W.setCell ⟨gT, 0, none⟩ a).setCell ⟨gT, 1, none⟩ b).setCell ⟨gT, 2, none⟩ c)) := by
  have k2 := ((km.set 0 a).set 1 b).set 2 c
  simp only [List.setIfInBounds_toArray, List.set_cons_zero, List.set_cons_succ] at k2
  exact ⟨gT, rfl, hg, k2, ((hb.setCell (p := ⟨gT, 0, none⟩) hg a).setCell (p := ⟨gT, 1, none⟩) hg b).setCell (p := ⟨gT, 2, none⟩) hg c⟩

/-- the row of products, the first j of them reckoned -/
structure OutT (w5 wr : World) (B g7 k c : Nat) (new old : List Int) (j : Nat) : Prop where
  own : OwnI wr B wr.heap.size (some ⟨g7, 0, none⟩) k c (new.take j ++ old.drop j)
  chg : Touch g7 (g7 + 1) w5 wr
theorem OutT.step {w5 wr W : World} {B g7 k c j : Nat} {new old : List Int} (h : OutT w5 wr B g7 k c new old j) (hb : Below wr.heap.size wr W) (hj : j < k) {x : Int} (hx : new[j]? = some x ∧ R64 x ∧ old.length = k) : OutT w5 (W.setCell ⟨g7, j, none⟩ (.int .i64 x)) B g7 k c new old (j + 1) := by
  obtain ⟨hx1, hx2, hx3⟩ := hx
  have hjn := (List.getElem?_eq_some_iff.1 hx1).1
  have hg : g7 < wr.heap.size := h.own.lt _ rfl
  have e : (new.take j ++ old.drop j).set j x = new.take (j + 1) ++ old.drop (j + 1) := by
    have hl : (new.take j).length = j := by simp; omega
    rw [List.set_append_right _ _ (by omega), hl, Nat.sub_self, List.take_add_one, hx1, List.drop_eq_getElem_cons (show j < old.length by omega), List.set_cons_zero]
    simp
  have o1 := owns_below h.own.own hb (fun ad e => by injection e with e; subst e; exact hg)
  have o2 := (o1.stored j (.int .i64 x)).1
  have hsz : (W.setCell ⟨g7, j, none⟩ (.int .i64 x)).heap.size = W.heap.size := by simp [World.setCell]
  have hbs := hb.size
  refine ⟨⟨?_, fun ad e => by injection e with e; subst e; show g7 < _; omega, ?_⟩, (h.chg.trans (.of_below hb)).setCell (.inl ⟨Nat.le_refl _, Nat.lt_succ_self _⟩) _⟩
  · rw [← e, List.map_set]
    exact o2
  · rw [← e]
    intro y hy
    rcases List.mem_or_eq_of_mem_set hy with hy | rfl
    · exact h.own.rng y hy
    · exact hx2
theorem Ints.sub {w : World} {lo hi g n c : Nat} {xs : List Int} (h : Ints w lo hi (some ⟨g, 0, none⟩) n c xs) {k i : Nat} (hle : i * k + k ≤ n) (hk : 0 < k) : Ints w lo hi (some ⟨g, i * k, none⟩) k (c - i * k) (rowW k xs i) := by
  have hl := h.len
  have hc := h.cap
  have hm := h.max
  obtain ⟨ad, e, h1, h2, hcs⟩ := h.cells (by omega)
  injection e with e
  subst e
  refine ⟨by simp [rowW]; omega, by omega, by omega, fun _ => ⟨_, rfl, h1, h2, fun j x hx => ?_⟩, fun x hx => h.rng x (List.mem_of_mem_drop (List.mem_of_mem_take hx))⟩
  have hj : j < k := by
    have := (List.getElem?_eq_some_iff.1 hx).1
    simp [rowW] at this
    omega
  have hx2 : xs[i * k + j]? = some x := by
    rw [rowW, List.getElem?_take_of_lt hj, List.getElem?_drop] at hx
    exact hx
  have := hcs (i * k + j) x hx2
  rw [Addr.add_lit] at this ⊢
  simpa using this
theorem r64_nmT {x : Int} (h : 0 ≤ x ∧ x < 1000000271) : R64 x := ⟨by omega, by omega⟩
theorem sq_le {i k : Nat} (h : i < k) : i * k + k ≤ k * k := by
  have : (i + 1) * k ≤ k * k := Nat.mul_le_mul_right _ h
  rwa [Nat.add_mul, Nat.one_mul] at this
theorem step_at {k j : Nat} {A w old : List Int} (h : j < k) : (stepW k A w old)[j]? = some (timesF (old.getD j 0) (dotF 0 (rowW k A j) w)) := by
  simp [stepW, h]

set_option maxRecDepth 100000 in
set_option maxHeartbeats 8000000 in
theorem impl_shadedWeights (d : PairD) (gA cA : Nat) (es : List Sh) (hkey : es.map Sh.key = tabS) (lo hi lo' hi' : Nat) : ∀ (m b : Nat), b < 72 → (listAt (b : Int)).length ≤ m → ∀ w, AllS w lo hi (some ⟨gA, 0, none⟩) 72 cA es → PairR w lo' hi' d → hi ≤ w.heap.size → hi' ≤ w.heap.size →
    Calls Tryz.prog 35 #[.slice (some ⟨gA, 0, none⟩) 72 cA, .agg #[.int .i64 (d.k : Int), .slice d.XA (d.k * d.k) d.xc, .slice d.YA d.k d.yc, .int .i64 (d.k : Int), .slice d.XB (d.k * d.k) d.xd, .slice d.YB d.k d.yd], .int .i64 (b : Int)] w fun r w' => ∃ g c, r = .returned (.slice (some ⟨g, 0, none⟩) d.k c) ∧ OwnI w' w.heap.size w'.heap.size (some ⟨g, 0, none⟩) d.k c (wL d.k d.X0 d.X1 4 (listAt (b : Int))) ∧ Below w.heap.size w w' := by
  intro m
  induction m with
  | zero =>
    intro b hb hl
    exfalso
    obtain ⟨t, ht⟩ : ∃ t, tabS[b]? = some t := ⟨_, List.getElem?_eq_getElem (by have := tab_len; omega)⟩
    obtain ⟨l, bs, sy⟩ := t
    have h1 := list_at ht
    have h2 := (tab_facts ht).ne
    rw [h1] at hl
    exact h2 (List.eq_nil_of_length_eq_zero (by omega))
  | succ m ih =>
    intro b hb72 hlm w hA hP hh hh'
    obtain ⟨i0, hi0, hz0, hz1, hz2⟩ := info_parts info_int
    have IH := hide ih
    obtain ⟨t, ht⟩ : ∃ t, tabS[b]? = some t := ⟨_, List.getElem?_eq_getElem (by have := tab_len; omega)⟩
    obtain ⟨l, bs, sy⟩ := t
    have hla := list_at ht
    have HTF := hide (tab_facts ht)
    obtain ⟨e, he, hek⟩ := key_at hkey ht
    rw [hla] at hlm ⊢
    have hgAw : gA < w.heap.size := by have := hA.lt _ rfl; simp only at this; omega
    obtain ⟨_, ⟨p1, p2, hp1, hp2, hCI, _⟩, _, _⟩ := hA.row e (List.mem_of_getElem? he)
    have hbk := bs_of hek
    rw [hbk] at hCI
    have HCI := hide hCI
    have hCl := hCI.len
    have hCc := hCI.cap
    have hCm := hCI.max
    have ce2 := hA.cell he (i := 2) (v := .slice e.C e.k e.f) rfl
    have HA := hide hA
    have HP := hide hP
    have hk8 := hP.hk
    have hcA := hA.capb.2
    have b0 := below_alloc w (.cells #[.int .i64 (d.k : Int), .slice d.XA (d.k * d.k) d.xc, .slice d.YA d.k d.yc, .int .i64 (d.k : Int), .slice d.XB (d.k * d.k) d.xd, .slice d.YB d.k d.yd] 31)
    have kP0 := BlkN.new w #[.int .i64 (d.k : Int), .slice d.XA (d.k * d.k) d.xc, .slice d.YA d.k d.yc, .int .i64 (d.k : Int), .slice d.XB (d.k * d.k) d.xd, .slice d.YB d.k d.yd] 31
    have z0 : (w.alloc (.cells #[.int .i64 (d.k : Int), .slice d.XA (d.k * d.k) d.xc, .slice d.YA d.k d.yc, .int .i64 (d.k : Int), .slice d.XB (d.k * d.k) d.xd, .slice d.YB d.k d.yd] 31)).heap.size = w.heap.size + 1 := by simp
    have b1 := b0.trans ((below_alloc (w.alloc (.cells #[.int .i64 (d.k : Int), .slice d.XA (d.k * d.k) d.xc, .slice d.YA d.k d.yc, .int .i64 (d.k : Int), .slice d.XB (d.k * d.k) d.xd, .slice d.YB d.k d.yd] 31)) (.cells #[.int .i64 1] 3)).mono (by omega))
    have kP1 := kP0.alloc (.cells #[.int .i64 1] 3)
    have hc1 : ((w.alloc (.cells #[.int .i64 (d.k : Int), .slice d.XA (d.k * d.k) d.xc, .slice d.YA d.k d.yc, .int .i64 (d.k : Int), .slice d.XB (d.k * d.k) d.xd, .slice d.YB d.k d.yd] 31)).alloc (.cells #[.int .i64 1] 3)).cell? ⟨w.heap.size + 1, 0, none⟩ = some (.int .i64 1) := by
      rw [← z0]
      simp
    have z1 : ((w.alloc (.cells #[.int .i64 (d.k : Int), .slice d.XA (d.k * d.k) d.xc, .slice d.YA d.k d.yc, .int .i64 (d.k : Int), .slice d.XB (d.k * d.k) d.xd, .slice d.YB d.k d.yd] 31)).alloc (.cells #[.int .i64 1] 3)).heap.size = w.heap.size + 2 := by simp
    have hRep := hide (lib_Repeat (w.heap.size + 1) 1 d.k _ hk8 hc1 (by rw [z1]; omega) (Nat.le_refl _) (by omega))
    have HB1 := hide b1
    have HK1 := hide kP1
    clear hCI hA hP he hek hbk ih b0 b1 kP0 kP1 hc1 hla ht
    go_enter Tryz.func35, Tryz.ntmps35
    go_wp2_with fail
    refine hRep.out.mono ?_
    rintro r w1 ⟨g7, rfl, o7, b7⟩
    rw [z1] at b7 o7
    have z7 := b7.size
    obtain ⟨gP, hgP⟩ : ∃ g, g = w.heap.size := ⟨_, rfl⟩
    have hbw := hide (HB1.out.trans (b7.mono (by omega)))
    have hKP := hide (HK1.out.same (b7.block w.heap.size (by omega)))
    have ho7 := hide (show OwnI w1 (w.heap.size + 2) w1.heap.size (some ⟨g7, 0, none⟩) d.k d.k (foldW d.k d.X0 d.X1 4 (onesF d.k) ((bs.map listAt).take 0)) from o7)
    have hg7 := (o7.own.lt g7 rfl)
    have ce2 := (hbw.out.cell (p := ⟨gA, b * 4 + 2, none⟩) hgAw).trans ce2
    clear b7 o7 HB1 HK1 hRep
    go_wp2_with fail
    rw [← hgP]
    rw [← hgP] at hKP
    have hgPw : gP < w1.heap.size := by omega
    have hgP7 : gP < g7 := by omega
    have hPi : hi' ≤ gP := by omega
    have hAi : hi ≤ gP := by omega
    clear hgP
    go_loopw [9, 10, 11, 12, 24] (fun _ _ _ _ i wr => ∃ q : Nat, q ≤ e.k ∧ i = .int .i64 (q : Int) ∧ Hid (OwnI wr (w.heap.size + 2) wr.heap.size (some ⟨g7, 0, none⟩) d.k d.k (foldW d.k d.X0 d.X1 4 (onesF d.k) ((bs.map listAt).take q))) ∧ Hid (BlkN wr gP #[.int .i64 (d.k : Int), .slice d.XA (d.k * d.k) d.xc, .slice d.YA d.k d.yc, .int .i64 (d.k : Int), .slice d.XB (d.k * d.k) d.xd, .slice d.YB d.k d.yd]) ∧ w1.heap.size ≤ wr.heap.size ∧ Hid (Below w.heap.size w wr)) (fun _ _ _ _ i _ => e.k - (intOf i).toNat)
    case atStart => exact ⟨0, by omega, rfl, ho7.out, hKP.out, Nat.le_refl _, hbw.out⟩
    case round =>
      clear ho7 hKP hbw ce2
      obtain ⟨q, hq, rfl, hO, hK, hz, hb⟩ := hrel
      have hzw := hb.out.size
      by_cases hlt : q < e.k
      · obtain ⟨ad, x, e1, hcx, _, hdx, hxu⟩ := (HCI.out.below hb.out (by omega)).at_ hlt
        rw [e1]
        have hxm := List.mem_of_getElem? hxu.out
        obtain ⟨hx0, hx72, hxl, hxc, hxn⟩ := HTF.out.bd x hxm
        obtain ⟨cn, rfl⟩ : ∃ cn : Nat, x = (cn : Int) := ⟨x.toNat, by omega⟩
        have hcn : cn < 72 := by omega
        have hst : Hid ((bs.map listAt).take (q + 1) = (bs.map listAt).take q ++ [listAt (cn : Int)]) := by
          show _ = _
          rw [List.take_add_one, List.getElem?_map, hxu.out]
          rfl
        have hAr := hide (HA.out.below hb.out hh)
        have hPr := hide (HP.out.below hb.out hh')
        have hrec := hide (IH.out cn hcn (by omega) wr hAr.out hPr.out (by omega) (by omega))
        have cp0 := hK.out.c 0 rfl
        have cp1 := hK.out.c 1 rfl
        have cp2 := hK.out.c 2 rfl
        have cp3 := hK.out.c 3 rfl
        have cp4 := hK.out.c 4 rfl
        have cp5 := hK.out.c 5 rfl
        have hgPr : gP < wr.heap.size := by omega
        clear hdx hxu hxm
        go_wp2_with fail
        refine hrec.out.mono ?_
        rintro r w2 ⟨gw, cw, rfl, ow, b2⟩
        have z2 := b2.size
        have how := hide ow
        have hb2 := hide b2
        clear ow b2
        go_upto_region 6 with fail
        obtain ⟨t2, ht2⟩ : ∃ t, tabS[cn]? = some t := ⟨_, List.getElem?_eq_getElem (by have := tab_len; omega)⟩
        obtain ⟨l2, bs2, sy2⟩ := t2
        have hla2 := list_at ht2
        obtain ⟨e2, he2, hek2⟩ := key_at hkey ht2
        obtain ⟨cq, hcq⟩ : ∃ z, z = (listAt (cn : Int)).headD 0 := ⟨_, rfl⟩
        rw [← hcq] at hxc
        have HCQ := hide hcq
        have ce0 : w2.cell? ⟨gA, cn * 4, none⟩ = some (.slice e2.B e2.m e2.d) := (hb2.out.cell (p := ⟨gA, cn * 4, none⟩) (by show gA < _; omega)).trans (hAr.out.cell he2 (i := 0) (v := .slice e2.B e2.m e2.d) rfl)
        have ce1 := (hb2.out.cell (p := ⟨gA, cn * 4 + 1, none⟩) (by show gA < _; omega)).trans (hAr.out.cell he2 (i := 1) (v := .int .i64 e2.plain) rfl)
        have ce2 := (hb2.out.cell (p := ⟨gA, cn * 4 + 2, none⟩) (by show gA < _; omega)).trans (hAr.out.cell he2 (i := 2) (v := .slice e2.C e2.k e2.f) rfl)
        have ce3 := (hb2.out.cell (p := ⟨gA, cn * 4 + 3, none⟩) (by show gA < _; omega)).trans (hAr.out.cell he2 (i := 3) (v := .int .i64 e2.sy) rfl)
        obtain ⟨⟨u1, u2, hu1, hu2, hLI, _⟩, _⟩ := hAr.out.row e2 (List.mem_of_getElem? he2)
        have hCol : Hid (∀ W, Below w2.heap.size w2 W → Calls Tryz.prog 34 #[.agg #[.slice e2.B e2.m e2.d, .int .i64 e2.plain, .slice e2.C e2.k e2.f, .int .i64 e2.sy]] W fun r w' => r = .returned (.int .i64 cq) ∧ Below W.heap.size W w') := fun W hW => by
          have hs := hW.size
          have := impl_colour e2 u1 u2 W ((hLI.below hb2.out (by omega)).below hW (by omega)) (by omega) (by rw [l_of hek2, ← hla2]; exact hxn)
          rw [l_of hek2, ← hla2, ← hcq] at this
          exact this
        have hP2 := hPr.out.below hb2.out (by omega)
        obtain ⟨TA, tc, UA, uc, hOf, hTI, hUI, hTf⟩ := of_pair hP2 hxc
        have HTI := hide hTI
        have cp0 := (hb2.out.cell (p := ⟨gP, 0, none⟩) hgPr).trans cp0
        have cp1 := (hb2.out.cell (p := ⟨gP, 1, none⟩) hgPr).trans cp1
        have cp2 := (hb2.out.cell (p := ⟨gP, 2, none⟩) hgPr).trans cp2
        have cp3 := (hb2.out.cell (p := ⟨gP, 3, none⟩) hgPr).trans cp3
        have cp4 := (hb2.out.cell (p := ⟨gP, 4, none⟩) hgPr).trans cp4
        have cp5 := (hb2.out.cell (p := ⟨gP, 5, none⟩) hgPr).trans cp5
        have hgPw : gP < w2.heap.size := by omega
        have hgAw : gA < w2.heap.size := by omega
        have hO2 := hide (hO.out.below hb2.out (Nat.le_refl _))
        have hg7r : g7 < wr.heap.size := hO.out.lt _ rfl
        have hK2 := hide (hK.out.below hb2.out)
        have hbW2 := hide (hb.out.trans (hb2.out.mono hzw))
        clear hTI hUI hLI hcq hP2 hek2 he2 hla2 ht2 hrec hAr hPr hO hK hb
        go_cut [11] (fun s11 wx => ∃ gT : Nat, s11 = .pointer (some ⟨gT, 0, none⟩) ∧ w2.heap.size ≤ gT ∧ Hid (BlkN wx gT #[.int .i64 (d.k : Int), .slice TA (d.k * d.k) tc, .slice UA d.k uc]) ∧ Hid (Below w2.heap.size w2 wx))
        case first =>
          refine wp_region_Z (fun W' => Below w2.heap.size w2 W') 8 (by kernel_rfl) ?_
          simp only [List.size_toArray, List.length_cons, List.length_nil, Nat.reduceAdd]
          have hS0 : Below w2.heap.size w2 w2.drew := (Below.refl w2.heap.size w2).drew
          generalize w2.drew = V at hS0 ⊢
          refine wpAnyZ_take 0 (.agg #[.int .i64 (d.k : Int), .slice d.XA (d.k * d.k) d.xc, .slice d.YA d.k d.yc, .int .i64 (d.k : Int), .slice d.XB (d.k * d.k) d.xd, .slice d.YB d.k d.yd]) rfl (by kernel_rfl) (by kernel_rfl) (fun _ _ _ h => h) (by rfl) (fun _ hS => by have q0 := (hS.cell (p := ⟨gP, 0, none⟩) hgPw).trans cp0; have q1 := (hS.cell (p := ⟨gP, 1, none⟩) hgPw).trans cp1; have q2 := (hS.cell (p := ⟨gP, 2, none⟩) hgPw).trans cp2; have q3 := (hS.cell (p := ⟨gP, 3, none⟩) hgPw).trans cp3; have q4 := (hS.cell (p := ⟨gP, 4, none⟩) hgPw).trans cp4; have q5 := (hS.cell (p := ⟨gP, 5, none⟩) hgPw).trans cp5; clear hS; first | (simp [go_sem, q0, q1, q2, q3, q4, q5]; done) | go_simp) hS0 ?_
          try simp only [Act.put, List.setIfInBounds_toArray, List.set_cons_zero, List.set_cons_succ, List.getElem_toArray, List.getElem_cons_zero, List.getElem_cons_succ]
          refine wpAnyZ_takeW 1 (.slice (some ⟨gA, 0, none⟩) 72 cA) rfl (by kernel_rfl) (by kernel_rfl) (fun _ _ _ h => h) (by rfl) (fun _ => by first | (simp [go_sem]; done) | go_simp) hS0 ?_
          try simp only [Act.put, List.setIfInBounds_toArray, List.set_cons_zero, List.set_cons_succ, List.getElem_toArray, List.getElem_cons_zero, List.getElem_cons_succ]
          refine wpAnyZ_takeW 2 (.int .i64 (cn : Int)) rfl (by kernel_rfl) (by kernel_rfl) (fun _ _ _ h => h) (by rfl) (fun _ => by first | (simp [go_sem]; done) | go_simp) hS0 ?_
          try simp only [Act.put, List.setIfInBounds_toArray, List.set_cons_zero, List.set_cons_succ, List.getElem_toArray, List.getElem_cons_zero, List.getElem_cons_succ]
          refine wpAnyZ_takeW 3 (.pointer (some ⟨gA, cn * 4, none⟩)) rfl (by kernel_rfl) (by kernel_rfl) (fun _ _ _ h => h) (by rfl) (fun _ => by go_simp) hS0 ?_
          try simp only [Act.put, List.setIfInBounds_toArray, List.set_cons_zero, List.set_cons_succ, List.getElem_toArray, List.getElem_cons_zero, List.getElem_cons_succ]
          refine wpAnyZ_take 4 (.agg #[.slice e2.B e2.m e2.d, .int .i64 e2.plain, .slice e2.C e2.k e2.f, .int .i64 e2.sy]) rfl (by kernel_rfl) (by kernel_rfl) (fun _ _ _ h => h) (by rfl) (fun _ hS => by have q0 := (hS.cell (p := ⟨gA, cn * 4, none⟩) hgAw).trans ce0; have q1 := (hS.cell (p := ⟨gA, cn * 4 + 1, none⟩) hgAw).trans ce1; have q2 := (hS.cell (p := ⟨gA, cn * 4 + 2, none⟩) hgAw).trans ce2; have q3 := (hS.cell (p := ⟨gA, cn * 4 + 3, none⟩) hgAw).trans ce3; clear hS; first | (simp [go_sem, q0, q1, q2, q3]; done) | go_simp) hS0 ?_
          try simp only [Act.put, List.setIfInBounds_toArray, List.set_cons_zero, List.set_cons_succ, List.getElem_toArray, List.getElem_cons_zero, List.getElem_cons_succ]
          refine wpAnyZ_two 5 7 (by kernel_rfl) rfl rfl (by rfl) (by rfl) (fun K hK => ?_) (fun K hK => ?_)
          ·
            go_simp
            refine (hCol.out V hS0).mono ?_
            rintro e x1 ⟨rfl, b1⟩
            have z1 := hS0.size
            have hS1 := hS0.trans (b1.mono z1)
            clear z1
            go_wp2_with fail
            refine hK.out _ _ hS1 ?_
            clear hK K
            try simp only [Act.put, List.setIfInBounds_toArray, List.set_cons_zero, List.set_cons_succ, List.getElem_toArray, List.getElem_cons_zero, List.getElem_cons_succ]
            refine wpAnyZ_two 6 7 (by kernel_rfl) rfl rfl (by rfl) (by rfl) (fun K hK => ?_) (fun K hK => ?_)
            ·
              go_simp
              refine (hOf.out x1).mono ?_
              rintro e x2 ⟨rfl, b2⟩
              have z2 := hS1.size
              have hS2 := hS1.trans (b2.mono z2)
              clear z2
              go_wp2_with fail
              refine hK.out _ _ hS2 ?_
              clear hK K
              try simp only [Act.put, List.setIfInBounds_toArray, List.set_cons_zero, List.set_cons_succ, List.getElem_toArray, List.getElem_cons_zero, List.getElem_cons_succ]
              refine wpAnyZ_one 7 (by kernel_rfl) rfl (by rfl) (fun K hK => ?_)
              go_simp
              have a3 := below_alloc x2 (.cells #[.int .i64 0, .slice none 0 0, .slice none 0 0] 29)
              have km3 := BlkN.new x2 #[.int .i64 0, .slice none 0 0, .slice none 0 0] 29
              have z3 := hS2.size
              have hS3 := hS2.trans (a3.mono z3)
              obtain ⟨gT, hgT⟩ : ∃ z, z = x2.heap.size := ⟨_, rfl⟩
              have hgTw : w2.heap.size ≤ gT := by omega
              rw [← hgT] at km3 ⊢
              clear a3 z3 hgT
              refine hK.out _ _ hS3 ?_
              generalize x2.alloc (.cells #[.int .i64 0, .slice none 0 0, .slice none 0 0] 29) = x3 at hS3 km3 ⊢
              clear hK K
              try simp only [Act.put, List.setIfInBounds_toArray, List.set_cons_zero, List.set_cons_succ, List.getElem_toArray, List.getElem_cons_zero, List.getElem_cons_succ]
              have u0 := km3.c 0 rfl
              have v0 := km3.f 0
              have u1 := km3.c 1 rfl
              have v1 := km3.f 1
              have u2 := km3.c 2 rfl
              have v2 := km3.f 2
              have hlt := km3.lt
              refine wpAnyZ_last (by kernel_rfl) rfl (by kernel_rfl) (by rfl) (fun K hK => ?_)
              go_simp
              refine hK _ _ ?_
              clear hK K u0 u1 u2 v0 v1 v2
              go_wp2_with fail
              go_meet
              case rel => exact tv_meet km3 hS3 hgTw
            ·
              go_simp
              have a2 := below_alloc x1 (.cells #[.int .i64 0, .slice none 0 0, .slice none 0 0] 29)
              have km2 := BlkN.new x1 #[.int .i64 0, .slice none 0 0, .slice none 0 0] 29
              have z2 := hS1.size
              have hS2 := hS1.trans (a2.mono z2)
              obtain ⟨gT, hgT⟩ : ∃ z, z = x1.heap.size := ⟨_, rfl⟩
              have hgTw : w2.heap.size ≤ gT := by omega
              rw [← hgT] at km2 ⊢
              clear a2 z2 hgT
              refine hK.out _ _ hS2 ?_
              generalize x1.alloc (.cells #[.int .i64 0, .slice none 0 0, .slice none 0 0] 29) = x2 at hS2 km2 ⊢
              clear hK K
              try simp only [Act.put, List.setIfInBounds_toArray, List.set_cons_zero, List.set_cons_succ, List.getElem_toArray, List.getElem_cons_zero, List.getElem_cons_succ]
              refine wpAnyZ_one 6 (by kernel_rfl) rfl (by rfl) (fun K hK => ?_)
              go_simp
              refine (hOf.out x2).mono ?_
              rintro e x3 ⟨rfl, b3⟩
              have z3 := hS2.size
              have hS3 := hS2.trans (b3.mono z3)
              have km3 := km2.below b3
              clear z3
              clear km2
              go_wp2_with fail
              refine hK.out _ _ hS3 ?_
              clear hK K
              try simp only [Act.put, List.setIfInBounds_toArray, List.set_cons_zero, List.set_cons_succ, List.getElem_toArray, List.getElem_cons_zero, List.getElem_cons_succ]
              have u0 := km3.c 0 rfl
              have v0 := km3.f 0
              have u1 := km3.c 1 rfl
              have v1 := km3.f 1
              have u2 := km3.c 2 rfl
              have v2 := km3.f 2
              have hlt := km3.lt
              refine wpAnyZ_last (by kernel_rfl) rfl (by kernel_rfl) (by rfl) (fun K hK => ?_)
              go_simp
              refine hK _ _ ?_
              clear hK K u0 u1 u2 v0 v1 v2
              go_wp2_with fail
              go_meet
              case rel => exact tv_meet km3 hS3 hgTw
          ·
            go_simp
            have a1 := below_alloc V (.cells #[.int .i64 0, .slice none 0 0, .slice none 0 0] 29)
            have km1 := BlkN.new V #[.int .i64 0, .slice none 0 0, .slice none 0 0] 29
            have z1 := hS0.size
            have hS1 := hS0.trans (a1.mono z1)
            obtain ⟨gT, hgT⟩ : ∃ z, z = V.heap.size := ⟨_, rfl⟩
            have hgTw : w2.heap.size ≤ gT := by omega
            rw [← hgT] at km1 ⊢
            clear a1 z1 hgT
            refine hK.out _ _ hS1 ?_
            generalize V.alloc (.cells #[.int .i64 0, .slice none 0 0, .slice none 0 0] 29) = x1 at hS1 km1 ⊢
            clear hK K
            try simp only [Act.put, List.setIfInBounds_toArray, List.set_cons_zero, List.set_cons_succ, List.getElem_toArray, List.getElem_cons_zero, List.getElem_cons_succ]
            refine wpAnyZ_one 5 (by kernel_rfl) rfl (by rfl) (fun K hK => ?_)
            go_simp
            refine (hCol.out x1 hS1).mono ?_
            rintro e x2 ⟨rfl, b2⟩
            have z2 := hS1.size
            have hS2 := hS1.trans (b2.mono z2)
            have km2 := km1.below b2
            clear z2
            clear km1
            go_wp2_with fail
            refine hK.out _ _ hS2 ?_
            clear hK K
            try simp only [Act.put, List.setIfInBounds_toArray, List.set_cons_zero, List.set_cons_succ, List.getElem_toArray, List.getElem_cons_zero, List.getElem_cons_succ]
            refine wpAnyZ_one 6 (by kernel_rfl) rfl (by rfl) (fun K hK => ?_)
            go_simp
            refine (hOf.out x2).mono ?_
            rintro e x3 ⟨rfl, b3⟩
            have z3 := hS2.size
            have hS3 := hS2.trans (b3.mono z3)
            have km3 := km2.below b3
            clear z3
            clear km2
            go_wp2_with fail
            refine hK.out _ _ hS3 ?_
            clear hK K
            try simp only [Act.put, List.setIfInBounds_toArray, List.set_cons_zero, List.set_cons_succ, List.getElem_toArray, List.getElem_cons_zero, List.getElem_cons_succ]
            have u0 := km3.c 0 rfl
            have v0 := km3.f 0
            have u1 := km3.c 1 rfl
            have v1 := km3.f 1
            have u2 := km3.c 2 rfl
            have v2 := km3.f 2
            have hlt := km3.lt
            refine wpAnyZ_last (by kernel_rfl) rfl (by kernel_rfl) (by rfl) (fun K hK => ?_)
            go_simp
            refine hK _ _ ?_
            clear hK K u0 u1 u2 v0 v1 v2
            go_wp2_with fail
            go_meet
            case rel => exact tv_meet km3 hS3 hgTw
        case rest =>
          clear ce0 ce1 ce2 ce3 cp0 cp1 cp2 cp3 cp4 cp5 hCol hOf
          obtain ⟨gT, rfl, hgT, hKT, hb3⟩ := hcut
          obtain ⟨old, hold⟩ : ∃ z, z = foldW d.k d.X0 d.X1 4 (onesF d.k) ((bs.map listAt).take q) := ⟨_, rfl⟩
          obtain ⟨ws, hws⟩ : ∃ z, z = wL d.k d.X0 d.X1 4 (listAt (cn : Int)) := ⟨_, rfl⟩
          obtain ⟨T, hT⟩ : ∃ z, z = selF cq d.X0 d.X1 := ⟨_, rfl⟩
          rw [← hold] at hO2
          rw [← hws] at how
          rw [← hT] at HTI
          have hol : old.length = d.k := by rw [hold]; exact foldW_len _ _ _ _ _ _ (ones_len _)
          have hnl : (stepW d.k T ws old).length = d.k := stepW_len _ _ _ _
          have hnew : Hid (stepW d.k T ws old = foldW d.k d.X0 d.X1 4 (onesF d.k) ((bs.map listAt).take (q + 1))) := by
            show _ = _
            rw [hst.out, foldW_snoc, hold, hws, hT, col_two (by rw [← HCQ.out]; exact hxc), ← HCQ.out]
          have HOL := hide hol
          have HNL := hide hnl
          have HT0 := hide (show OutT wc wc (w.heap.size + 2) g7 d.k d.k (stepW d.k T ws old) old 0 from ⟨by simpa using (hO2.out.below hb3.out (by omega)).wide (lo' := w.heap.size + 2) (hi' := wc.heap.size) (Nat.le_refl _) (by have := hb3.out.size; omega), .refl _ _ _⟩)
          have z3 := hb3.out.size
          have HTI3 := hide (HTI.out.below hb3.out (by omega))
          have how3 := hide (how.out.below hb3.out (Nat.le_refl _))
          have hK3 := hide (hK2.out.below hb3.out)
          have hbW3 := hide (hbW2.out.trans (hb3.out.mono (by omega)))
          have hgT2 : wr.heap.size ≤ gT := by omega
          have hgTc := hKT.out.lt
          clear hold hws hT hol hnl hO2 HTI how hK2 hbW2 hb3 hst
          go_wp2_with fail
          obtain ⟨wq, hwq⟩ : ∃ z, z = wr := ⟨_, rfl⟩
          subst hwq
          go_loopw [12, 41] (fun _ i wr => ∃ j : Nat, j ≤ d.k ∧ i = .int .i64 (j : Int) ∧ Hid (OutT wc wr (w.heap.size + 2) g7 d.k d.k (stepW d.k T ws old) old j)) (fun _ i _ => d.k - (intOf i).toNat)
          case atStart => exact ⟨0, by omega, rfl, HT0.out⟩
          case round =>
            clear HT0
            obtain ⟨j, hj, rfl, HM⟩ := hrel
            have zc := HM.out.chg.size
            have hg7w : g7 < wr.heap.size := HM.out.own.lt _ rfl
            by_cases hjk : j < d.k
            · obtain ⟨ov, hove⟩ : ∃ ov, old[j]? = some ov := ⟨_, List.getElem?_eq_getElem (by have := HOL.out; omega)⟩
              have hmix : ((stepW d.k T ws old).take j ++ old.drop j)[j]? = some ov := by
                have h1 : ((stepW d.k T ws old).take j).length = j := by have := HNL.out; simp; omega
                rw [List.getElem?_append_right (by omega), h1, Nat.sub_self, List.getElem?_drop]
                simpa using hove
              have hov : wr.cell? ⟨g7, j, none⟩ = some (.int .i64 ov) := by
                obtain ⟨ad2, e3, _, _, hcs⟩ := HM.out.own.ints.cells (by omega)
                injection e3 with e3
                subst e3
                simpa [Addr.add_lit] using hcs j ov hmix
              have hof : wr.frozen? ⟨g7, j, none⟩ = false := HM.out.own.own.frozenAt j
              have hovr := HM.out.own.rng ov (List.mem_of_getElem? hmix)
              have hkk : 0 < d.k * d.k := Nat.mul_pos (by omega) (by omega)
              obtain ⟨gX, rfl⟩ : ∃ gX, TA = some ⟨gX, 0, none⟩ := by
                obtain ⟨ad2, e3, _⟩ := HTI3.out.cells hkk
                exact ⟨ad2.block, by rw [e3, ← hTf.out ad2 e3]⟩
              have hKr := hKT.out.touch HM.out.chg (.inr (by omega))
              have ct0 := hKr.c 0 rfl
              have ct1 := hKr.c 1 rfl
              have ct2 := hKr.c 2 rfl
              have hgTw := hKr.lt
              obtain ⟨dt, hdte⟩ : ∃ z, z = dotF 0 (rowW d.k T j) ws := ⟨_, rfl⟩
              have hdtr : R64 dt := by
                have := dotF_bd (rowW d.k T j) ws
                rw [hdte]
                exact r64_nmT this
              have hRow := hide fun W => impl_rowT d.k gX (d.k * d.k) tc UA d.k uc j W hk8 rfl hjk HTI3.out.cap HTI3.out.max
              have hDot : Hid (∀ W, Below wr.heap.size wr W → Calls Tryz.prog 32 #[.slice (some ⟨gX, j * d.k, none⟩) d.k (tc - j * d.k), .slice (some ⟨gw, 0, none⟩) d.k cw] W fun r w' => r = .returned (.int .i64 dt) ∧ Below W.heap.size W w') := fun W hW => by
                have h1 := ((HTI3.out.same (HM.out.chg.same (.inl (by omega)) (by omega))).below hW (by omega)).sub (i := j) (sq_le hjk) (by omega)
                have h2 := (how3.out.ints.same (HM.out.chg.same (.inr (by omega)) (by omega))).below hW (by omega)
                rw [hdte]
                exact (impl_dotT _ _ _ _ _ _ _ _ _ _ _ _ W h1 h2 (Nat.le_refl _)).mono fun r w' ⟨h3, n3, h4⟩ => ⟨h3, by rw [h4]; exact below_drewN (Below.refl _ _) n3⟩
              have hTim : Hid (∀ W, Calls Tryz.prog 56 #[.int .i64 ov, .int .i64 dt] W fun r w' => r = .returned (.int .i64 (timesF ov dt)) ∧ Below W.heap.size W w') := fun W =>
                (impl_Times ov dt W hovr hdtr).mono fun r w' ⟨h3, h4⟩ => ⟨h3, by rw [← h4]; exact Below.refl _ _⟩
              have hdt : Hid ((stepW d.k T ws old)[j]? = some (timesF ov dt) ∧ R64 (timesF ov dt) ∧ old.length = d.k) := by
                refine ⟨?_, r64_nmT (timesF_bd _ _), HOL.out⟩
                rw [step_at hjk, hdte, List.getD, hove]
                rfl
              clear hove hmix hovr hkk hKr hdte hdtr
              go_upto_region 10 with fail
              refine wp_region_Z (fun W' => Below wr.heap.size wr W') 13 (by kernel_rfl) ?_
              simp only [List.size_toArray, List.length_cons, List.length_nil, Nat.reduceAdd]
              have hS0 : Below wr.heap.size wr wr.drew := (Below.refl wr.heap.size wr).drew
              generalize wr.drew = V at hS0 ⊢
              refine wpAnyZ_takeW 0 (.slice (some ⟨g7, 0, none⟩) d.k d.k) rfl (by kernel_rfl) (by kernel_rfl) (fun _ _ _ h => h) (by rfl) (fun _ => by first | (simp [go_sem]; done) | go_simp) hS0 ?_
              try simp only [Act.put, List.setIfInBounds_toArray, List.set_cons_zero, List.set_cons_succ, List.getElem_toArray, List.getElem_cons_zero, List.getElem_cons_succ]
              refine wpAnyZ_takeW 1 (.int .i64 (j : Int)) rfl (by kernel_rfl) (by kernel_rfl) (fun _ _ _ h => h) (by rfl) (fun _ => by first | (simp [go_sem]; done) | go_simp) hS0 ?_
              try simp only [Act.put, List.setIfInBounds_toArray, List.set_cons_zero, List.set_cons_succ, List.getElem_toArray, List.getElem_cons_zero, List.getElem_cons_succ]
              refine wpAnyZ_takeW 2 (.slice (some ⟨g7, 0, none⟩) d.k d.k) rfl (by kernel_rfl) (by kernel_rfl) (fun _ _ _ h => h) (by rfl) (fun _ => by first | (simp [go_sem]; done) | go_simp) hS0 ?_
              try simp only [Act.put, List.setIfInBounds_toArray, List.set_cons_zero, List.set_cons_succ, List.getElem_toArray, List.getElem_cons_zero, List.getElem_cons_succ]
              refine wpAnyZ_takeW 3 (.int .i64 (j : Int)) rfl (by kernel_rfl) (by kernel_rfl) (fun _ _ _ h => h) (by rfl) (fun _ => by first | (simp [go_sem]; done) | go_simp) hS0 ?_
              try simp only [Act.put, List.setIfInBounds_toArray, List.set_cons_zero, List.set_cons_succ, List.getElem_toArray, List.getElem_cons_zero, List.getElem_cons_succ]
              refine wpAnyZ_takeW 4 (.pointer (some ⟨g7, j, none⟩)) rfl (by kernel_rfl) (by kernel_rfl) (fun _ _ _ h => h) (by rfl) (fun _ => by first | (simp [go_sem]; done) | go_simp) hS0 ?_
              try simp only [Act.put, List.setIfInBounds_toArray, List.set_cons_zero, List.set_cons_succ, List.getElem_toArray, List.getElem_cons_zero, List.getElem_cons_succ]
              refine wpAnyZ_take 5 (.int .i64 ov) rfl (by kernel_rfl) (by kernel_rfl) (fun _ _ _ h => h) (by rfl) (fun _ hS => by have q0 := (hS.cell (p := ⟨g7, j, none⟩) hg7w).trans hov; clear hS; first | (simp [go_sem, q0]; done) | go_simp) hS0 ?_
              try simp only [Act.put, List.setIfInBounds_toArray, List.set_cons_zero, List.set_cons_succ, List.getElem_toArray, List.getElem_cons_zero, List.getElem_cons_succ]
              refine wpAnyZ_take 6 (.agg #[.int .i64 (d.k : Int), .slice (some ⟨gX, 0, none⟩) (d.k * d.k) tc, .slice UA d.k uc]) rfl (by kernel_rfl) (by kernel_rfl) (fun _ _ _ h => h) (by rfl) (fun _ hS => by have q0 := (hS.cell (p := ⟨gT, 0, none⟩) hgTw).trans ct0; have q1 := (hS.cell (p := ⟨gT, 1, none⟩) hgTw).trans ct1; have q2 := (hS.cell (p := ⟨gT, 2, none⟩) hgTw).trans ct2; clear hS; first | (simp [go_sem, q0, q1, q2]; done) | go_simp) hS0 ?_
              try simp only [Act.put, List.setIfInBounds_toArray, List.set_cons_zero, List.set_cons_succ, List.getElem_toArray, List.getElem_cons_zero, List.getElem_cons_succ]
              refine wpAnyZ_takeW 7 (.int .i64 (j : Int)) rfl (by kernel_rfl) (by kernel_rfl) (fun _ _ _ h => h) (by rfl) (fun _ => by first | (simp [go_sem]; done) | go_simp) hS0 ?_
              try simp only [Act.put, List.setIfInBounds_toArray, List.set_cons_zero, List.set_cons_succ, List.getElem_toArray, List.getElem_cons_zero, List.getElem_cons_succ]
              refine wpAnyZ_takeW 9 (.slice (some ⟨gw, 0, none⟩) d.k cw) rfl (by kernel_rfl) (by kernel_rfl) (fun _ _ _ h => h) (by rfl) (fun _ => by first | (simp [go_sem]; done) | go_simp) hS0 ?_
              try simp only [Act.put, List.setIfInBounds_toArray, List.set_cons_zero, List.set_cons_succ, List.getElem_toArray, List.getElem_cons_zero, List.getElem_cons_succ]
              refine wpAnyZ_one 8 (by kernel_rfl) rfl (by rfl) (fun K hK => ?_)
              go_simp
              refine (hRow.out V).mono ?_
              rintro e x1 ⟨rfl, b1⟩
              have z1 := hS0.size
              have hS1 := hS0.trans (b1.mono z1)
              clear z1
              go_wp2_with fail
              refine hK.out _ _ hS1 ?_
              clear hK K
              try simp only [Act.put, List.setIfInBounds_toArray, List.set_cons_zero, List.set_cons_succ, List.getElem_toArray, List.getElem_cons_zero, List.getElem_cons_succ]
              refine wpAnyZ_one 10 (by kernel_rfl) rfl (by rfl) (fun K hK => ?_)
              go_simp
              refine (hDot.out x1 hS1).mono ?_
              rintro e x2 ⟨rfl, b2⟩
              have z2 := hS1.size
              have hS2 := hS1.trans (b2.mono z2)
              clear z2
              go_wp2_with fail
              refine hK.out _ _ hS2 ?_
              clear hK K
              try simp only [Act.put, List.setIfInBounds_toArray, List.set_cons_zero, List.set_cons_succ, List.getElem_toArray, List.getElem_cons_zero, List.getElem_cons_succ]
              refine wpAnyZ_one 11 (by kernel_rfl) rfl (by rfl) (fun K hK => ?_)
              go_simp
              refine (hTim.out x2).mono ?_
              rintro e x3 ⟨rfl, b3⟩
              have z3 := hS2.size
              have hS3 := hS2.trans (b3.mono z3)
              clear z3
              go_wp2_with fail
              refine hK.out _ _ hS3 ?_
              clear hK K
              try simp only [Act.put, List.setIfInBounds_toArray, List.set_cons_zero, List.set_cons_succ, List.getElem_toArray, List.getElem_cons_zero, List.getElem_cons_succ]
              refine wpAnyZ_takeW 12 (.pointer (some ⟨g7, j, none⟩)) rfl (by kernel_rfl) (by kernel_rfl) (fun _ _ _ h => h) (by rfl) (fun _ => by first | (simp [go_sem]; done) | go_simp) hS3 ?_
              try simp only [Act.put, List.setIfInBounds_toArray, List.set_cons_zero, List.set_cons_succ, List.getElem_toArray, List.getElem_cons_zero, List.getElem_cons_succ]
              have hcO := (hS3.cell (p := ⟨g7, j, none⟩) hg7w).trans hov
              have hfO := (hS3.frozen (p := ⟨g7, j, none⟩) hg7w).trans hof
              refine wpAnyZ_last (by kernel_rfl) rfl (by kernel_rfl) (by rfl) (fun K hK => ?_)
              go_simp
              refine hK _ _ ?_
              clear hK K hcO hfO
              have hN := hide (HM.out.step hS3 hjk hdt.out)
              clear HM hov hof
              go_wp2_with fail
              go_roundw
              case rel => exact ⟨j + 1, by omega, by go_num, hN.out⟩
              case measure => simp [intOf]; omega
            · obtain rfl : j = d.k := by omega
              have hfin : (stepW d.k T ws old).take d.k ++ old.drop d.k = stepW d.k T ws old := by
                rw [List.take_of_length_le (Nat.le_of_eq HNL.out), List.drop_eq_nil_of_le (Nat.le_of_eq HOL.out), List.append_nil]
              have hOn := HM.out.own
              rw [hfin, hnew.out] at hOn
              have HOn := hide hOn
              have hKn := hide (hK3.out.touch HM.out.chg (.inl hgP7))
              have hbn := hide (hbW3.out.trans (HM.out.chg.below (by omega) (by omega)))
              clear hOn hfin HM
              go_wp2_with fail
              go_roundw
              case rel => exact ⟨q + 1, by omega, by go_num, HOn.out, hKn.out, by omega, hbn.out⟩
              case measure => simp [intOf]; omega
      · have hqe : q = e.k := by omega
        have hfull : (bs.map listAt).take q = bs.map listAt := List.take_of_length_le (by rw [List.length_map]; omega)
        rw [hfull, ← wL_tab d.k d.X0 d.X1 HTF.out] at hO
        clear hfull
        go_wp2_with fail
        go_ret
        exact ⟨g7, d.k, rfl, hO.out.wide (by omega) (Nat.le_refl _), hb.out⟩
end Go.Proofs.YthjkdpapadolgaaGreatDoor
