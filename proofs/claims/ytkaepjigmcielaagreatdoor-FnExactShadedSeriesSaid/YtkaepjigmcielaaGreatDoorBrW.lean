/- The branches of a shaded tree: both texts. -/
import Derived.Test.YtkaepjigmcielaaGreatDoorMzG
import Derived.Test.YtkaepjigmcielaaGreatDoorMzK
import Derived.Test.YtkaepjigmcielaaGreatDoorMzI
namespace Go.Proofs.YtkaepjigmcielaaGreatDoor
open Go.RowKit
set_option linter.unusedSimpArgs false
set_option linter.unusedVariables false
set_option maxRecDepth 20000

theorem set_last {ps : List (List Int)} {k : Nat} {xs : List Int} (h : ps[k]? = some xs) (hk : k + 1 = ps.length) (y : Int) : ps.set k (xs ++ [y]) = pushLast ps y := by
  obtain ⟨hl, e⟩ := List.getElem?_eq_some_iff.1 h
  have hne : ps ≠ [] := fun e => by subst e; simp at hl
  have h1 : ps.getLast? = some xs := by rw [List.getLast?_eq_getElem?, ← hk]; exact h
  unfold pushLast
  rw [h1]
  apply List.ext_getElem?
  intro j
  by_cases hj : j = k
  · subst hj
    rw [List.getElem?_set_self hl, List.getElem?_append_right (by simp; omega)]
    simp [← hk]
  · rw [List.getElem?_set_ne (by omega)]
    by_cases hj2 : j < k
    · rw [List.getElem?_append_left (by simp; omega), List.getElem?_dropLast]
      rw [if_pos (by omega)]
    · rw [List.getElem?_eq_none (by omega), List.getElem?_eq_none (by simp; omega)]

theorem parts_step (ps : List (List Int)) (x : Int) (r : List Int) : partsF ps (x :: r) = partsF (pushLast (if x < 4 then ps ++ [[]] else ps) (x - 2)) r := rfl
theorem len_set {ps : List (List Int)} {k j : Nat} {xs : List Int} {y : Int} (h : ∀ p ∈ ps, p.length ≤ k) (hx : ps[j]? = some xs) : ∀ p ∈ ps.set j (xs ++ [y]), p.length ≤ k + 1 := by
  intro p hp
  rcases List.mem_or_eq_of_mem_set hp with hp | rfl
  · have := h p hp; omega
  · have := h xs (List.mem_of_getElem? hx); simp; omega
theorem len_snoc {ps : List (List Int)} {k : Nat} (h : ∀ p ∈ ps, p.length ≤ k) : ∀ p ∈ ps ++ [[]], p.length ≤ k := by
  intro p hp
  rcases List.mem_append.1 hp with hp | hp
  · exact h p hp
  · obtain rfl : p = [] := by simpa using hp
    simp
theorem snoc_get {ps : List (List Int)} {k : Nat} (h : ps.length = k) : (ps ++ [[]])[k]? = some [] := by subst h; simp
theorem snoc_getV {vs : List Value} {k : Nat} {v : Value} (h : vs.length = k) : (vs ++ [v])[k]? = some v := by subst h; simp

set_option maxHeartbeats 4000000 in
theorem impl_branchLists (gw n c : Nat) (a : Int) (r : List Int) (lo hi : Nat) (w : World) (h : Ints w lo hi (some ⟨gw, 0, none⟩) n c (a :: r)) (hh : hi ≤ w.heap.size) (hn : n ≤ 4) (hr : ∀ x ∈ r, 2 ≤ x) (h4 : ∀ x ∈ r.head?, x < 4) :
    Calls Tryz.prog 69 #[.slice (some ⟨gw, 0, none⟩) n c, .int .i64 2] w fun e w' => ∃ g' n' c' vs, e = .returned (.slice (some ⟨g', 0, none⟩) n' c') ∧ RowsO w' w.heap.size (some ⟨g', 0, none⟩) n' c' vs (partsF [] r) ∧ Below w.heap.size w w' := by
  obtain ⟨i0, hi0, hz0, hz1, hz2⟩ := info_parts info_int
  obtain ⟨i1, hi1, hy0, hy1, hy2⟩ := info_parts info_ints
  have hm := h.max
  have hcp := h.cap
  have hl := hide h.len
  have hn1 : 1 ≤ n := by have := hl.out; simp at this; omega
  have ht := h.tail_if
  have HR := hide hr
  have H4 := hide h4
  clear hr h4 h
  have b0 := below_alloc w (.cells #[] 22)
  have o0 := hide (RowsO.empty w w.heap.size (Nat.le_refl _))
  have z0 := b0.size
  by_cases hcc : c = 1
  · obtain rfl : n = 1 := by omega
    obtain rfl : r = [] := by have := hl.out; simpa using this
    subst hcc
    clear hl ht HR H4
    go_enter Tryz.func69, Tryz.ntmps69
    go_wp2_with fail
    refine wp_loop_rounds 1 ?_
    rw [rounds_succ]
    go_wp2_with fail
    go_ret
    exact ⟨_, _, _, _, rfl, o0.out, b0⟩
  · rw [if_neg hcc] at ht
    go_enter Tryz.func69, Tryz.ntmps69
    go_wp2_with fail
    generalize World.alloc w (.cells #[] 22) = W0 at o0 b0 z0 ⊢
    have hlr : r.length = n - 1 := ht.len
    have HL := hide hlr
    clear hlr hl
    go_loopw [5, 7, 8, 13] (fun o _ _ i wr => ∃ (k gA n' c' : Nat), k ≤ n - 1 ∧ i = .int .i64 k ∧ o = .slice (some ⟨gA, 0, none⟩) n' c' ∧ n' ≤ k ∧ (0 < k → 0 < n') ∧ Hid (∃ vs pss, RowsO wr w.heap.size (some ⟨gA, 0, none⟩) n' c' vs pss ∧ partsF [] r = partsF pss (r.drop k) ∧ ∀ p ∈ pss, p.length ≤ k) ∧ Hid (Below w.heap.size w wr))
      (fun _ _ _ i _ => n - (intOf i).toNat)
    case atStart => exact ⟨0, _, 0, 0, by omega, rfl, rfl, by omega, by omega, ⟨_, _, o0.out, rfl, by simp⟩, b0⟩
    case round =>
      obtain ⟨k, gA, N, C, hk, rfl, rfl, hNk, hN0, hrel, hb⟩ := hrel
      have hsz := hb.out.size
      by_cases hlt : k < n - 1
      · obtain ⟨ad, x, e, hc, hxr, hdx, hx⟩ := (ht.below hb.out hh).at_ hlt
        injection e with e
        subst e
        have hx2 : 2 ≤ x := HR.out x (List.mem_of_getElem? hx.out)
        unfold R64 at hxr
        obtain ⟨vs, pss, hO, hE, hP4⟩ := hrel.out
        have HP4 := hide hP4
        have hcb := hO.capb
        have hvl := hide hO.vlen
        have hpl := hide hO.len
        have HO := hide hO
        have HE : Hid (partsF [] r = partsF (pushLast (if x < 4 then pss ++ [[]] else pss) (x - 2)) (r.drop (k + 1))) := by show _ = _; rw [hE, hdx.out, parts_step]
        simp only [Addr.add_lit] at hc
        have hr64 : R64 (x - 2) := ⟨by omega, by omega⟩
        have HR64 := hide hr64
        clear hE hO hrel hdx hr64 hP4
        have hadd : IntKind.i64.wrap (x - 2) = x - 2 := IntWalk.i64_in _ (by omega)
        have HW := hide hadd
        clear hadd
        by_cases hx4 : x < 4
        · have hdec : decide (x - 2 < 2) = true := by simp; omega
          have HE2 : Hid (partsF [] r = partsF (pushLast (pss ++ [[]]) (x - 2)) (r.drop (k + 1))) := by show _ = _; rw [HE.out, if_pos hx4]
          go_wp2_with (first | (at_builtin; refine wpl_app1b rfl (.tmp 22) (.tmp 24) 26 rfl w.heap.size 22 i1 (.slice none 0 0) 1 24 Tryz.underlying26 hi1 hy0 hy1 hy2 rfl (by omega) _ #[.slice (some ⟨wr.heap.size, 0, none⟩) 0 0] _ (by simp) (some ⟨gA, 0, none⟩) N C 1 _ rfl rfl (HO.out.own.alloc _) rfl (by simp [Value.oneCell']) (by omega) (by omega) (by simp; omega) ?_; intro A2 c2 w4 happ hlt2; have hP := hide (HO.out.push hsz happ); obtain ⟨g, rfl, hg1, hg2⟩ := hP.out.form (Nat.succ_pos _); have cel := hP.out.cell (snoc_getV hvl.out); have b4 := hide (happ.low (hb.out.alloc hsz _) (by simp; omega) (Nat.le_refl _) (HO.out.own.alloc _)); have Q4 := hide (hP.out.nilrow (snoc_getV hvl.out)); have hcb2 := hP.out.capb; have zw4 : w.heap.size ≤ w4.heap.size := b4.out.size; clear happ) | (at_builtin; refine wpl_app1b rfl (.tmp 34) (.tmp 38) 22 rfl w.heap.size 3 i0 (.int .i64 0) 1 8 Tryz.underlying22 hi0 hz0 hz1 hz2 rfl (by omega) _ #[.int .i64 (x - 2)] _ rfl _ 0 0 1 _ rfl rfl Q4.out rfl (by simp [Value.oneCell']) (by omega) (by omega) zw4 ?_; intro B3 d3 w5 happ hlt5; obtain ⟨mc, mf⟩ := hP.out.mid (snoc_getV hvl.out) happ; have HG := hide (hP.out.grow (snoc_get hpl.out) (snoc_getV hvl.out) happ HR64.out); have b5 := hide (happ.low b4.out zw4 (Nat.le_refl _) Q4.out); clear happ))
          go_roundw
          case rel => exact ⟨k + 1, _, N + 1, c2, by omega, by go_num, rfl, by omega, by omega, ⟨_, _, HG.out, by rw [HE2.out, ← set_last (snoc_get hpl.out) (by simp [hpl.out])], len_set (len_snoc HP4.out) (snoc_get hpl.out)⟩, b5.out.setCell (by omega) _⟩
          case measure => simp [intOf]; omega
        · have hdec : decide (x - 2 < 2) = false := by simp; omega
          have HE2 : Hid (partsF [] r = partsF (pushLast pss (x - 2)) (r.drop (k + 1))) := by show _ = _; rw [HE.out, if_neg hx4]
          have hk0 : 0 < k := by
            rcases Nat.eq_zero_or_pos k with e | e
            · subst e
              have := H4.out x (by rw [List.head?_eq_getElem?]; exact hx.out)
              omega
            · exact e
          obtain ⟨N, rfl⟩ : ∃ M, N = M + 1 := ⟨N - 1, by omega⟩
          obtain ⟨g, eg_, hg1, hg2⟩ := HO.out.form (Nat.succ_pos _)
          injection eg_ with eg_
          injection eg_ with eg_
          subst eg_
          obtain ⟨B, m, d, xs, q1, q2, q3, q4⟩ := HO.out.last
          have cel := HO.out.cell q1
          have Q1 := hide q1
          have Q2 := hide q2
          have Q4 := hide q4
          have hml : m ≤ 1099511627775 := by
            have e := q3
            have := HP4.out xs (List.mem_of_getElem? q2)
            omega
          clear q1 q2 q3 q4
          go_wp2_with (at_builtin; refine wpl_app1b rfl (.tmp 34) (.tmp 38) 22 rfl w.heap.size 3 i0 (.int .i64 0) 1 8 Tryz.underlying22 hi0 hz0 hz1 hz2 rfl (by omega) wr #[.int .i64 (x - 2)] _ rfl B m d 1 _ rfl rfl Q4.out rfl (by simp [Value.oneCell']) (by omega) (by omega) hsz ?_; intro B3 d3 w5 happ hlt5; obtain ⟨mc, mf⟩ := HO.out.mid Q1.out happ; have HG := hide (HO.out.grow Q2.out Q1.out happ HR64.out); have b5 := hide (happ.low hb.out hsz (Nat.le_refl _) Q4.out); clear happ)
          go_roundw
          case rel => exact ⟨k + 1, _, N + 1, C, by omega, by go_num, rfl, by omega, by omega, ⟨_, _, HG.out, by rw [HE2.out, ← set_last Q2.out (by simp [hpl.out])], len_set HP4.out Q2.out⟩, b5.out.setCell (by omega) _⟩
          case measure => simp [intOf]; omega
      · obtain rfl : k = n - 1 := by omega
        obtain ⟨vs, pss, hO, hE, _⟩ := hrel.out
        have hnil : r.drop (n - 1) = [] := List.drop_eq_nil_of_le (by rw [HL.out]; exact Nat.le_refl _)
        have R : RowsO wr w.heap.size (some ⟨gA, 0, none⟩) N C vs (partsF [] r) := by rw [hE, hnil]; exact hO
        have HR2 := hide R
        clear hE hO hrel hnil R
        go_wp2_with fail
        go_ret
        exact ⟨_, _, _, _, rfl, HR2.out, hb.out⟩
/-- l10Parts -/
theorem owp_app1 {P : Program} {o : Oper} {a : Act} {K : Act → World → Prop} {Q : Exit → Act → World → Prop} (s x : Operand) (t : TypeId)
    (ho : o.op = .call { callee := .builtin .append, args := #[s, x], argTypes := #[t, t] })
    (base : Nat) (e : TypeId) (i : TypeInfo) (z : Value) (size bytes : Nat) (ht : P.underlying t = some (.slice e)) (hi : P.info? e = some i) (hz : i.zero = some z)
    (hsize : i.size = size) (hby : i.bytes = bytes) (hzs : z.cells.size = size) (hsz : 0 < size) (w0 : World) (cs : Array Value) (b : Nat) (hb : w0.heap.size = b)
    (A : Option Addr) (n c d : Nat) (xs : List Value) (hs : a.eval s = .slice A n c) (hx : a.eval x = .slice (some ⟨b, 0, none⟩) 1 d) (hown : w0.ownsRow base e size (.slice A n c) n xs)
    (hcs : cs.size = size) (h1 : ∀ u ∈ cs.toList, u.oneCell' = true) (hn : n + 1 ≤ 1099511627776) (hbytes : bytes ≤ 128) (hbase : base ≤ w0.heap.size)
    (h : ∀ A' c' w', Appended w0 base e size A n c A' (n + 1) c' (xs ++ cs.toList) w' → w0.heap.size < w'.heap.size → K (a.put o.dst (.slice A' (n + 1) c')) w') : Oper.wp P o a (w0.alloc (.cells cs e)) K Q := by
  subst hb
  obtain ⟨A', c', w', hrun, h2, h3⟩ := run_app1 (P := P) w0 base t o.type e i z size bytes ht hi hz hsize hby hzs hsz A n c xs hown cs d hcs h1 hn hbytes hbase
  unfold Oper.wp
  simp [execOp, ho, resolve, invoke, builtin, hs, hx, hrun, Result.andThen]
  exact h A' c' w' h2 h3

set_option maxHeartbeats 8000000 in
theorem spec_l10Parts (gw n c : Nat) (a : Int) (r : List Int) (lo hi : Nat) (w : World) (h : Ints w lo hi (some ⟨gw, 0, none⟩) n c (a :: r)) (hh : hi ≤ w.heap.size) (hn : n ≤ 4) (ha : 0 ≤ a ∧ a < 2) (hr : ∀ x ∈ r, 2 ≤ x) (h4 : ∀ x ∈ r.head?, x < 4) :
    Calls Tryz.prog 53 #[.slice (some ⟨gw, 0, none⟩) n c] w fun e w' => ∃ g' n' c' vs, e = .returned (.slice (some ⟨g', 0, none⟩) n' c') ∧ RowsO w' w.heap.size (some ⟨g', 0, none⟩) n' c' vs (partsF [] r) ∧ Below w.heap.size w w' := by
  obtain ⟨i0, hi0, hz0, hz1, hz2⟩ := info_parts info_int
  obtain ⟨i1, hi1, hy0, hy1, hy2⟩ := info_parts info_ints
  have hm := h.max
  have hcp := h.cap
  have hl := hide h.len
  have hn1 : 1 ≤ n := by have := hl.out; simp at this; omega
  have HR := hide hr
  have H4 := hide h4
  have HI := hide h
  clear hr h4 h
  have b0 := below_alloc w (.cells #[] 22)
  have o0 := hide (RowsO.empty w w.heap.size (Nat.le_refl _))
  have z0 := b0.size
  go_enter Tryz.func53, Tryz.ntmps53
  go_wp2_with fail
  generalize World.alloc w (.cells #[] 22) = W0 at o0 b0 z0 ⊢
  go_loopw [3, 4] (fun o i wr => ∃ (k gA n' c' : Nat), 1 ≤ k ∧ k ≤ n ∧ i = .int .i64 k ∧ o = .slice (some ⟨gA, 0, none⟩) n' c' ∧ n' < k ∧ (1 < k → 0 < n') ∧ Hid (∃ vs pss, RowsO wr w.heap.size (some ⟨gA, 0, none⟩) n' c' vs pss ∧ partsF [] r = partsF pss ((a :: r).drop k) ∧ ∀ p ∈ pss, p.length ≤ k) ∧ Hid (Below w.heap.size w wr))
    (fun _ i _ => n - (intOf i).toNat)
  case atStart => exact ⟨1, _, 0, 0, by omega, by omega, rfl, rfl, by omega, by omega, ⟨_, _, o0.out, rfl, by simp⟩, b0⟩
  case round =>
    obtain ⟨k, gA, N, C, hk1, hk, rfl, rfl, hNk, hN0, hrel, hb⟩ := hrel
    have hsz := hb.out.size
    have hI := HI.out.below hb.out hh
    by_cases hlt : k < n
    · obtain ⟨ad, y, e, hc0, _, hd0, _⟩ := hI.at_ (k := 0) (by omega)
      injection e with e
      subst e
      obtain rfl : a = y := by have := hd0.out; simp at this; exact this
      obtain ⟨ad, x, e, hc, hxr, hdx, hx⟩ := hI.at_ (k := k) hlt
      injection e with e
      subst e
      have hx' : r[k - 1]? = some x := by
        have := hx.out
        rw [show k = (k - 1) + 1 by omega] at this
        simpa using this
      have hx2 : 2 ≤ x := HR.out x (List.mem_of_getElem? hx')
      unfold R64 at hxr
      obtain ⟨vs, pss, hO, hE, hP4⟩ := hrel.out
      have HP4 := hide hP4
      have hcb := hO.capb
      have hvl := hide hO.vlen
      have hpl := hide hO.len
      have HO := hide hO
      have HE : Hid (partsF [] r = partsF (pushLast (if x < 4 then pss ++ [[]] else pss) (x - 2)) ((a :: r).drop (k + 1))) := by show _ = _; rw [hE, hdx.out, parts_step]
      simp only [Addr.add_lit, Nat.zero_add] at hc hc0
      have hr64 : R64 (x - 2) := ⟨by omega, by omega⟩
      have HR64 := hide hr64
      have HCX : Hid (∀ W, Below w.heap.size w W → W.cell? ⟨gw, k, none⟩ = some (.int .i64 x)) := fun W bW => by
        obtain ⟨ad, e, _, hb2, _⟩ := HI.out.cells (by omega)
        injection e with e
        subst e
        have hgl : gw < w.heap.size := Nat.lt_of_lt_of_le hb2 hh
        exact (bW.cell (p := ⟨gw, k, none⟩) hgl).trans ((hb.out.cell (p := ⟨gw, k, none⟩) hgl).symm.trans hc)
      have HX := hide hx'
      have HGW : Hid (∀ s, w.heap.size ≤ s → gw < s) := fun s hs => by
        obtain ⟨ad, e, _, hb2, _⟩ := HI.out.cells (by omega)
        injection e with e
        subst e
        simp at hb2
        omega
      have ha2 : a / 2 = 0 := by omega
      have HA2 := hide ha2
      clear hE hO hrel hdx hr64 hP4 hI hd0 hx hx' ha2
      by_cases hx4 : x < 4
      · have hq : x / 2 = 1 := by omega
        have ha2 := HA2.out
        go_wp2_with fail
        go_quiet (fail)
        rename_i nq
        have HOq := hide (HO.out.drewN nq)
        have hbq := hide (below_drewN hb.out nq)
        have hcq : (wr.drewN nq).cell? ⟨gw, k, none⟩ = some (.int .i64 x) := hc
        have hszq : w.heap.size ≤ (wr.drewN nq).heap.size := hsz
        generalize wr.drewN nq = wd at HOq hbq hcq hszq ⊢
        clear HO hb hc hsz hc0
        go_wp2_with (at_builtin; refine wpl_app1b rfl (.tmp 23) (.tmp 25) 26 rfl w.heap.size 22 i1 (.slice none 0 0) 1 24 Tryz.underlying26 hi1 hy0 hy1 hy2 rfl (by omega) _ #[.slice (some ⟨wd.heap.size, 0, none⟩) 0 0] _ (by simp) (some ⟨gA, 0, none⟩) N C 1 _ rfl rfl (HOq.out.own.alloc _) rfl (by simp [Value.oneCell']) (by omega) (by omega) (by simp; omega) ?_; intro A2 c2 w4 happ hlt2; have hP := hide (HOq.out.push hszq happ); obtain ⟨g, rfl, hg1, hg2⟩ := hP.out.form (Nat.succ_pos _); have bW := hide (happ.low (hbq.out.alloc hszq _) (by simp; omega) (Nat.le_refl _) (HOq.out.own.alloc _)); have Q1 := hide (snoc_getV (v := .slice (some ⟨wd.heap.size, 0, none⟩) 0 0) hvl.out); have Q2 := hide (snoc_get hpl.out); have Q4 := hide (hP.out.nilrow Q1.out); have hcb2 := hP.out.capb; have zW : w.heap.size ≤ w4.heap.size := bW.out.size; have hcx : w4.cell? ⟨gw, k, none⟩ = some (.int .i64 x) := HCX.out _ bW.out; have Hlen := hide (len_snoc HP4.out); have HEf : Hid (partsF [] r = partsF (pushLast (pss ++ [[]]) (x - 2)) ((a :: r).drop (k + 1))) := (by show _ = _; rw [HE.out, if_pos hx4]); clear happ)
        go_wp2_with fail
        have hPd := hide (hP.out.drew)
        have bWd := hide bW.out.drew
        have zWd : w.heap.size ≤ w4.drew.heap.size := zW
        have hcxd : w4.drew.cell? ⟨gw, k, none⟩ = some (.int .i64 x) := hcx
        have hg3 : g < w4.drew.heap.size := hg2
        have Q4d : Hid (w4.drew.ownsRow w.heap.size 3 1 (.slice (some ⟨wd.heap.size, 0, none⟩) 0 0) 0 (([] : List Int).map (Value.int .i64))) := Q4.out
        have hgw : gw < w4.drew.heap.size := HGW.out _ bWd.out.size
        refine wp_region_Z (fun W' => W'.cell? ⟨g, N, none⟩ = some (.slice (some ⟨wd.heap.size, 0, none⟩) 0 0) ∧ W'.cell? ⟨gw, k, none⟩ = some (.int .i64 x)) 18 (by kernel_rfl) ?_
        generalize w4.drew = V at hPd bWd zWd hcxd hg3 hgw Q4d ⊢
        have hS0 : V.cell? ⟨g, N, none⟩ = some (.slice (some ⟨wd.heap.size, 0, none⟩) 0 0) ∧ V.cell? ⟨gw, k, none⟩ = some (.int .i64 x) := ⟨hPd.out.cell Q1.out, hcxd⟩
        clear hP bW zW hcx hg2 Q4
        have hNN : ¬ ((N : Int) + 1 ≤ N) := by omega
        have hwN : IntKind.i64.wrap (N : Int) = N := IntWalk.i64_in _ (by omega)
        have hwx : IntKind.i64.wrap (x - 2) = x - 2 := IntWalk.i64_in _ (by omega)
        refine wpAnyZ_takeW 0 (.slice (some ⟨g, 0, none⟩) (N + 1) c2) rfl (by kernel_rfl) (by kernel_rfl) (fun _ _ _ h => h) (by rfl) (fun _ => by go_simp) hS0 ?_
        try simp only [Act.put, List.setIfInBounds_toArray, List.set_cons_zero, List.set_cons_succ]
        refine wpAnyZ_takeW 1 (.slice (some ⟨g, 0, none⟩) (N + 1) c2) rfl (by kernel_rfl) (by kernel_rfl) (fun _ _ _ h => h) (by rfl) (fun _ => by go_simp) hS0 ?_
        try simp only [Act.put, List.setIfInBounds_toArray, List.set_cons_zero, List.set_cons_succ]
        refine wpAnyZ_takeW 2 (.int .i64 ((N : Int) + 1)) rfl (by kernel_rfl) (by kernel_rfl) (fun _ _ _ h => h) (by rfl) (fun _ => by go_simp) hS0 ?_
        try simp only [Act.put, List.setIfInBounds_toArray, List.set_cons_zero, List.set_cons_succ]
        refine wpAnyZ_takeW 3 (.int .i64 (N : Int)) rfl (by kernel_rfl) (by kernel_rfl) (fun _ _ _ h => h) (by rfl) (fun _ => by go_simp) hS0 ?_
        try simp only [Act.put, List.setIfInBounds_toArray, List.set_cons_zero, List.set_cons_succ]
        refine wpAnyZ_takeW 4 (.slice (some ⟨g, 0, none⟩) (N + 1) c2) rfl (by kernel_rfl) (by kernel_rfl) (fun _ _ _ h => h) (by rfl) (fun _ => by go_simp) hS0 ?_
        try simp only [Act.put, List.setIfInBounds_toArray, List.set_cons_zero, List.set_cons_succ]
        refine wpAnyZ_takeW 5 (.slice (some ⟨g, 0, none⟩) (N + 1) c2) rfl (by kernel_rfl) (by kernel_rfl) (fun _ _ _ h => h) (by rfl) (fun _ => by go_simp) hS0 ?_
        try simp only [Act.put, List.setIfInBounds_toArray, List.set_cons_zero, List.set_cons_succ]
        refine wpAnyZ_takeW 6 (.int .i64 ((N : Int) + 1)) rfl (by kernel_rfl) (by kernel_rfl) (fun _ _ _ h => h) (by rfl) (fun _ => by go_simp) hS0 ?_
        try simp only [Act.put, List.setIfInBounds_toArray, List.set_cons_zero, List.set_cons_succ]
        refine wpAnyZ_takeW 7 (.int .i64 (N : Int)) rfl (by kernel_rfl) (by kernel_rfl) (fun _ _ _ h => h) (by rfl) (fun _ => by go_simp) hS0 ?_
        try simp only [Act.put, List.setIfInBounds_toArray, List.set_cons_zero, List.set_cons_succ]
        refine wpAnyZ_takeW 8 (.pointer (some ⟨g, N, none⟩)) rfl (by kernel_rfl) (by kernel_rfl) (fun _ _ _ h => h) (by rfl) (fun _ => by go_simp) hS0 ?_
        try simp only [Act.put, List.setIfInBounds_toArray, List.set_cons_zero, List.set_cons_succ]
        refine wpAnyZ_take 9 (.slice (some ⟨wd.heap.size, 0, none⟩) 0 0) rfl (by kernel_rfl) (by kernel_rfl) (fun _ _ _ h => h) (by rfl) (fun _ hS => by have q0 := hS.1; clear hS; go_simp) hS0 ?_
        try simp only [Act.put, List.setIfInBounds_toArray, List.set_cons_zero, List.set_cons_succ]
        refine wpAnyZ_takeW 10 (.slice (some ⟨gw, 0, none⟩) n c) rfl (by kernel_rfl) (by kernel_rfl) (fun _ _ _ h => h) (by rfl) (fun _ => by go_simp) hS0 ?_
        try simp only [Act.put, List.setIfInBounds_toArray, List.set_cons_zero, List.set_cons_succ]
        refine wpAnyZ_takeW 11 (.int .i64 k) rfl (by kernel_rfl) (by kernel_rfl) (fun _ _ _ h => h) (by rfl) (fun _ => by go_simp) hS0 ?_
        try simp only [Act.put, List.setIfInBounds_toArray, List.set_cons_zero, List.set_cons_succ]
        refine wpAnyZ_takeW 12 (.pointer (some ⟨gw, k, none⟩)) rfl (by kernel_rfl) (by kernel_rfl) (fun _ _ _ h => h) (by rfl) (fun _ => by go_simp) hS0 ?_
        try simp only [Act.put, List.setIfInBounds_toArray, List.set_cons_zero, List.set_cons_succ]
        refine wpAnyZ_take 13 (.int .i64 x) rfl (by kernel_rfl) (by kernel_rfl) (fun _ _ _ h => h) (by rfl) (fun _ hS => by have q0 := hS.2; clear hS; go_simp) hS0 ?_
        try simp only [Act.put, List.setIfInBounds_toArray, List.set_cons_zero, List.set_cons_succ]
        refine wpAnyZ_takeW 14 (.int .i64 (x - 2)) rfl (by kernel_rfl) (by kernel_rfl) (fun _ _ _ h => h) (by rfl) (fun _ => by go_simp) hS0 ?_
        try simp only [Act.put, List.setIfInBounds_toArray, List.set_cons_zero, List.set_cons_succ]
        refine wpAnyZ_one 15 (by kernel_rfl) rfl (by rfl) (fun K hK => ?_)
        go_simp
        have hS1 := And.intro (((below_alloc V (.cells #[.int .i64 (x - 2)] 3)).cell (p := ⟨g, N, none⟩) hg3).trans hS0.1) (((below_alloc V (.cells #[.int .i64 (x - 2)] 3)).cell (p := ⟨gw, k, none⟩) hgw).trans hS0.2)
        refine hK.out _ _ hS1 ?_
        clear hK K
        try simp only [Act.put, List.setIfInBounds_toArray, List.set_cons_zero, List.set_cons_succ]
        refine wpAnyZ_one 16 (by kernel_rfl) rfl (by rfl) (fun K hK => ?_)
        clear hwN hwx
        refine owp_app1 (.tmp 36) (.tmp 42) 22 rfl w.heap.size 3 i0 (.int .i64 0) 1 8 Tryz.underlying22 hi0 hz0 hz1 hz2 rfl (by omega) V #[.int .i64 (x - 2)] _ rfl (some ⟨wd.heap.size, 0, none⟩) 0 0 1 _ rfl rfl Q4d.out rfl (by simp [Value.oneCell']) (by omega) (by omega) zWd ?_
        intro B3 d3 w5 happ hlt5
        obtain ⟨mc, mf⟩ := hPd.out.mid Q1.out happ
        have HG := hide (hPd.out.grow Q2.out Q1.out happ HR64.out)
        have b5 := hide (happ.low bWd.out zWd (Nat.le_refl _) Q4d.out)
        have hS2 := And.intro mc (HCX.out _ b5.out)
        clear happ hS1
        refine hK.out _ _ hS2 ?_
        clear hK K
        try simp only [Act.put, List.setIfInBounds_toArray, List.set_cons_zero, List.set_cons_succ]
        refine wpAnyZ_takeW 17 (.pointer (some ⟨g, N, none⟩)) rfl (by kernel_rfl) (by kernel_rfl) (fun _ _ _ h => h) (by rfl) (fun _ => by go_simp) hS2 ?_
        try simp only [Act.put, List.setIfInBounds_toArray, List.set_cons_zero, List.set_cons_succ]
        refine wpAnyZ_last (by kernel_rfl) rfl (by kernel_rfl) (by rfl) (fun K hK => ?_)
        go_simp
        refine hK _ _ ?_
        clear hK K
        go_wp2_with fail
        go_roundw
        case rel => exact ⟨k + 1, _, N + 1, c2, by omega, by omega, by go_num, rfl, by omega, by omega, ⟨_, _, HG.out, by rw [HEf.out, ← set_last Q2.out (by simp [hpl.out])], len_set Hlen.out Q2.out⟩, b5.out.setCell (by omega) _⟩
        case measure => simp [intOf]; omega
      · have hq : (x / 2 == 1) = false := by simp; omega
        have ha2 := HA2.out
        go_wp2_with fail
        go_quiet (fail)
        rename_i nq
        have HOq := hide (HO.out.drewN nq)
        have hbq := hide (below_drewN hb.out nq)
        have hszq : w.heap.size ≤ (wr.drewN nq).heap.size := hsz
        have hcq : (wr.drewN nq).cell? ⟨gw, k, none⟩ = some (.int .i64 x) := hc
        generalize wr.drewN nq = w4 at HOq hbq hcq hszq ⊢
        clear HO hb hc hsz hc0 
        have hk0 : 1 < k := by
          rcases Nat.lt_or_ge 1 k with e | e
          · exact e
          · obtain rfl : k = 1 := by omega
            have := H4.out x (by rw [List.head?_eq_getElem?]; exact HX.out)
            omega
        obtain ⟨N, rfl⟩ : ∃ M, N = M + 1 := ⟨N - 1, by omega⟩
        obtain ⟨g, eg_, hg1, hg2⟩ := HOq.out.form (Nat.succ_pos _)
        injection eg_ with eg_
        injection eg_ with eg_
        have eg2 := eg_.symm
        subst eg2
        obtain ⟨B, m, d, xs, q1, q2, q3, q4⟩ := HOq.out.last
        have Q1 := hide q1
        have Q2 := hide q2
        have Q4 := hide q4
        have hml : m ≤ 1099511627775 := by
          have e := q3
          have := HP4.out xs (List.mem_of_getElem? q2)
          omega
        have HEf : Hid (partsF [] r = partsF (pushLast pss (x - 2)) ((a :: r).drop (k + 1))) := by show _ = _; rw [HE.out, if_neg (by omega)]
        clear q1 q2 q3 q4 
        go_wp2_with fail
        have hPd := hide (HOq.out.drew)
        have bWd := hide hbq.out.drew
        have zWd : w.heap.size ≤ w4.drew.heap.size := hszq
        have hcxd : w4.drew.cell? ⟨gw, k, none⟩ = some (.int .i64 x) := hcq
        have hg3 : g < w4.drew.heap.size := hg2
        have Q4d : Hid (w4.drew.ownsRow w.heap.size 3 1 (.slice B m d) m (xs.map (Value.int .i64))) := Q4.out
        have hgw : gw < w4.drew.heap.size := HGW.out _ bWd.out.size
        refine wp_region_Z (fun W' => W'.cell? ⟨g, N, none⟩ = some (.slice B m d) ∧ W'.cell? ⟨gw, k, none⟩ = some (.int .i64 x)) 18 (by kernel_rfl) ?_
        generalize w4.drew = V at hPd bWd zWd hcxd hg3 hgw Q4d ⊢
        have hS0 : V.cell? ⟨g, N, none⟩ = some (.slice B m d) ∧ V.cell? ⟨gw, k, none⟩ = some (.int .i64 x) := ⟨hPd.out.cell Q1.out, hcxd⟩
        clear HOq hbq hszq hcq hg2 Q4
        have hNN : ¬ ((N : Int) + 1 ≤ N) := by omega
        have hwN : IntKind.i64.wrap (N : Int) = N := IntWalk.i64_in _ (by omega)
        have hwx : IntKind.i64.wrap (x - 2) = x - 2 := IntWalk.i64_in _ (by omega)
        refine wpAnyZ_takeW 0 (.slice (some ⟨g, 0, none⟩) (N + 1) C) rfl (by kernel_rfl) (by kernel_rfl) (fun _ _ _ h => h) (by rfl) (fun _ => by go_simp) hS0 ?_
        try simp only [Act.put, List.setIfInBounds_toArray, List.set_cons_zero, List.set_cons_succ]
        refine wpAnyZ_takeW 1 (.slice (some ⟨g, 0, none⟩) (N + 1) C) rfl (by kernel_rfl) (by kernel_rfl) (fun _ _ _ h => h) (by rfl) (fun _ => by go_simp) hS0 ?_
        try simp only [Act.put, List.setIfInBounds_toArray, List.set_cons_zero, List.set_cons_succ]
        refine wpAnyZ_takeW 2 (.int .i64 ((N : Int) + 1)) rfl (by kernel_rfl) (by kernel_rfl) (fun _ _ _ h => h) (by rfl) (fun _ => by go_simp) hS0 ?_
        try simp only [Act.put, List.setIfInBounds_toArray, List.set_cons_zero, List.set_cons_succ]
        refine wpAnyZ_takeW 3 (.int .i64 (N : Int)) rfl (by kernel_rfl) (by kernel_rfl) (fun _ _ _ h => h) (by rfl) (fun _ => by go_simp) hS0 ?_
        try simp only [Act.put, List.setIfInBounds_toArray, List.set_cons_zero, List.set_cons_succ]
        refine wpAnyZ_takeW 4 (.slice (some ⟨g, 0, none⟩) (N + 1) C) rfl (by kernel_rfl) (by kernel_rfl) (fun _ _ _ h => h) (by rfl) (fun _ => by go_simp) hS0 ?_
        try simp only [Act.put, List.setIfInBounds_toArray, List.set_cons_zero, List.set_cons_succ]
        refine wpAnyZ_takeW 5 (.slice (some ⟨g, 0, none⟩) (N + 1) C) rfl (by kernel_rfl) (by kernel_rfl) (fun _ _ _ h => h) (by rfl) (fun _ => by go_simp) hS0 ?_
        try simp only [Act.put, List.setIfInBounds_toArray, List.set_cons_zero, List.set_cons_succ]
        refine wpAnyZ_takeW 6 (.int .i64 ((N : Int) + 1)) rfl (by kernel_rfl) (by kernel_rfl) (fun _ _ _ h => h) (by rfl) (fun _ => by go_simp) hS0 ?_
        try simp only [Act.put, List.setIfInBounds_toArray, List.set_cons_zero, List.set_cons_succ]
        refine wpAnyZ_takeW 7 (.int .i64 (N : Int)) rfl (by kernel_rfl) (by kernel_rfl) (fun _ _ _ h => h) (by rfl) (fun _ => by go_simp) hS0 ?_
        try simp only [Act.put, List.setIfInBounds_toArray, List.set_cons_zero, List.set_cons_succ]
        refine wpAnyZ_takeW 8 (.pointer (some ⟨g, N, none⟩)) rfl (by kernel_rfl) (by kernel_rfl) (fun _ _ _ h => h) (by rfl) (fun _ => by go_simp) hS0 ?_
        try simp only [Act.put, List.setIfInBounds_toArray, List.set_cons_zero, List.set_cons_succ]
        refine wpAnyZ_take 9 (.slice B m d) rfl (by kernel_rfl) (by kernel_rfl) (fun _ _ _ h => h) (by rfl) (fun _ hS => by have q0 := hS.1; clear hS; go_simp) hS0 ?_
        try simp only [Act.put, List.setIfInBounds_toArray, List.set_cons_zero, List.set_cons_succ]
        refine wpAnyZ_takeW 10 (.slice (some ⟨gw, 0, none⟩) n c) rfl (by kernel_rfl) (by kernel_rfl) (fun _ _ _ h => h) (by rfl) (fun _ => by go_simp) hS0 ?_
        try simp only [Act.put, List.setIfInBounds_toArray, List.set_cons_zero, List.set_cons_succ]
        refine wpAnyZ_takeW 11 (.int .i64 k) rfl (by kernel_rfl) (by kernel_rfl) (fun _ _ _ h => h) (by rfl) (fun _ => by go_simp) hS0 ?_
        try simp only [Act.put, List.setIfInBounds_toArray, List.set_cons_zero, List.set_cons_succ]
        refine wpAnyZ_takeW 12 (.pointer (some ⟨gw, k, none⟩)) rfl (by kernel_rfl) (by kernel_rfl) (fun _ _ _ h => h) (by rfl) (fun _ => by go_simp) hS0 ?_
        try simp only [Act.put, List.setIfInBounds_toArray, List.set_cons_zero, List.set_cons_succ]
        refine wpAnyZ_take 13 (.int .i64 x) rfl (by kernel_rfl) (by kernel_rfl) (fun _ _ _ h => h) (by rfl) (fun _ hS => by have q0 := hS.2; clear hS; go_simp) hS0 ?_
        try simp only [Act.put, List.setIfInBounds_toArray, List.set_cons_zero, List.set_cons_succ]
        refine wpAnyZ_takeW 14 (.int .i64 (x - 2)) rfl (by kernel_rfl) (by kernel_rfl) (fun _ _ _ h => h) (by rfl) (fun _ => by go_simp) hS0 ?_
        try simp only [Act.put, List.setIfInBounds_toArray, List.set_cons_zero, List.set_cons_succ]
        refine wpAnyZ_one 15 (by kernel_rfl) rfl (by rfl) (fun K hK => ?_)
        go_simp
        have hS1 := And.intro (((below_alloc V (.cells #[.int .i64 (x - 2)] 3)).cell (p := ⟨g, N, none⟩) hg3).trans hS0.1) (((below_alloc V (.cells #[.int .i64 (x - 2)] 3)).cell (p := ⟨gw, k, none⟩) hgw).trans hS0.2)
        refine hK.out _ _ hS1 ?_
        clear hK K
        try simp only [Act.put, List.setIfInBounds_toArray, List.set_cons_zero, List.set_cons_succ]
        refine wpAnyZ_one 16 (by kernel_rfl) rfl (by rfl) (fun K hK => ?_)
        clear hwN hwx
        refine owp_app1 (.tmp 36) (.tmp 42) 22 rfl w.heap.size 3 i0 (.int .i64 0) 1 8 Tryz.underlying22 hi0 hz0 hz1 hz2 rfl (by omega) V #[.int .i64 (x - 2)] _ rfl B m d 1 _ rfl rfl Q4d.out rfl (by simp [Value.oneCell']) (by omega) (by omega) zWd ?_
        intro B3 d3 w5 happ hlt5
        obtain ⟨mc, mf⟩ := hPd.out.mid Q1.out happ
        have HG := hide (hPd.out.grow Q2.out Q1.out happ HR64.out)
        have b5 := hide (happ.low bWd.out zWd (Nat.le_refl _) Q4d.out)
        have hS2 := And.intro mc (HCX.out _ b5.out)
        clear happ hS1
        refine hK.out _ _ hS2 ?_
        clear hK K
        try simp only [Act.put, List.setIfInBounds_toArray, List.set_cons_zero, List.set_cons_succ]
        refine wpAnyZ_takeW 17 (.pointer (some ⟨g, N, none⟩)) rfl (by kernel_rfl) (by kernel_rfl) (fun _ _ _ h => h) (by rfl) (fun _ => by go_simp) hS2 ?_
        try simp only [Act.put, List.setIfInBounds_toArray, List.set_cons_zero, List.set_cons_succ]
        refine wpAnyZ_last (by kernel_rfl) rfl (by kernel_rfl) (by rfl) (fun K hK => ?_)
        go_simp
        refine hK _ _ ?_
        clear hK K
        go_wp2_with fail
        go_roundw
        case rel => exact ⟨k + 1, _, N + 1, C, by omega, by omega, by go_num, rfl, by omega, by omega, ⟨_, _, HG.out, by rw [HEf.out, ← set_last Q2.out (by simp [hpl.out])], len_set HP4.out Q2.out⟩, b5.out.setCell (by omega) _⟩
        case measure => simp [intOf]; omega
    · obtain rfl : k = n := by omega
      obtain ⟨vs, pss, hO, hE, _⟩ := hrel.out
      have hnil : (a :: r).drop k = [] := List.drop_eq_nil_of_le (by rw [hl.out]; exact Nat.le_refl _)
      have R : RowsO wr w.heap.size (some ⟨gA, 0, none⟩) N C vs (partsF [] r) := by rw [hE, hnil]; exact hO
      have HR2 := hide R
      clear hE hO hrel hnil R hI
      go_wp2_with fail
      go_ret
      exact ⟨_, _, _, _, rfl, HR2.out, hb.out⟩
end Go.Proofs.YtkaepjigmcielaaGreatDoor
