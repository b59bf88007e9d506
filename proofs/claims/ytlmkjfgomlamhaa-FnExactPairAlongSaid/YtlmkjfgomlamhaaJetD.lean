/- Fields: marks. -/
import Derived.Test.YtlmkjfgomlamhaaJetC
import Derived.Test.YtlmkjfgomlamhaaTab
namespace Go.Proofs.Ytlmkjfgomlamhaa
open Go.RowKit
set_option linter.unusedSimpArgs false
set_option linter.unusedVariables false
set_option maxRecDepth 20000

def totM : List Mono → Nat
  | [] => 0
  | m :: r => 1 + m.2.length + totM r
def totMM : List (List Mono) → Nat
  | [] => 0
  | p :: r => totM p + totMM r
theorem totM_bd {C : Nat} : ∀ (ms : List Mono), (∀ m ∈ ms, m.2.length ≤ C) → totM ms ≤ ms.length * (1 + C)
  | [], _ => by simp [totM]
  | m :: r, h => by
    have h1 := totM_bd r (fun y hy => h y (List.mem_cons_of_mem _ hy))
    have h2 := h m (List.mem_cons_self ..)
    simp only [totM, List.length_cons]
    rw [Nat.add_mul, Nat.one_mul]
    omega
theorem totMM_bd {C : Nat} : ∀ (ps : List (List Mono)), (∀ p ∈ ps, totM p ≤ C) → totMM ps ≤ ps.length * C
  | [], _ => by simp [totMM]
  | m :: r, h => by
    have h1 := totMM_bd r (fun y hy => h y (List.mem_cons_of_mem _ hy))
    have h2 := h m (List.mem_cons_self ..)
    simp only [totMM, List.length_cons]
    rw [Nat.add_mul, Nat.one_mul]
    omega

set_option maxHeartbeats 2000000 in
theorem laws_markMonomialSO (v : Value) (ms : List Mono) (lo hi : Nat) (k0 : Int) (w : World) (h : kM.rd w lo hi v ms) (hh : hi ≤ w.heap.size) (hk0 : 0 ≤ k0) (hk1 : k0 + totM ms ≤ 4611686018427387904) :
    Calls Try.prog 62 #[v, .int .i64 k0] w fun e w' => e = .returned (.int .i64 (k0 + totM ms)) ∧ Touch lo hi w w' ∧ w'.heap.size = w.heap.size := by
  obtain ⟨g, n, c, vs, pws, rfl, h⟩ := h
  have hcb := h.capb
  have hvl := h.vlen
  have hxl := h.len
  have hlo := (h.own.lt g rfl).1
  have hst := h.stk
  rw [List.take_of_length_le (by omega)] at hst
  have hpl := hst.len
  simp only [List.length_map] at hpl
  have hst0 := hide hst
  have HO := hide h.own
  have HPr : Hid (∀ j, j < n → vs[j * 2 + 1]? = pws[j]?) := fun j hj => (h.pair j _ hj (List.getElem?_eq_getElem (by omega))).2.2
  have hgh := h.lt
  clear h hst
  go_enter Try.func62, Try.ntmps62
  go_wp2_with fail
  go_loopw [1, 5] (fun q i wr => ∃ (k m : Nat) (z : Int) (us : List Value), k ≤ n ∧ i = .int .i64 k ∧ q = .int .i64 z ∧ 0 ≤ z ∧ z + totM (ms.drop k) = k0 + totM ms ∧ g + 1 ≤ m ∧ Hid (Stk kO wr m hi (pws.drop k) ((ms.drop k).map Prod.snd)) ∧ Hid (∀ j, j < n → us[j * 2 + 1]? = pws[j]?) ∧ Hid (Touch lo hi w wr ∧ wr.heap.size = w.heap.size ∧ wr.ownsRow lo 83 2 (.slice (some ⟨g, 0, none⟩) n c) n us)) (fun _ i _ => n - (intOf i).toNat)
  case atStart => exact ⟨0, g + 1, k0, vs, by omega, rfl, rfl, hk0, by simp, Nat.le_refl _, hst0.out, HPr.out, Touch.refl _ _ _, rfl, HO.out⟩
  case round =>
    clear hst0 HO HPr
    obtain ⟨k, m, z, us, hk, rfl, rfl, hz0, hz1, hgm, hR, hPr, hT⟩ := hrel
    by_cases hlt : k < n
    · have hR2 := hR.out
      rw [List.drop_eq_getElem_cons (by omega), List.drop_eq_getElem_cons (l := ms) (by omega), List.map_cons] at hR2
      obtain ⟨l, m', h1, h2, h3, ⟨B, mm, d, hv, hB⟩, hR3⟩ := hR2.head
      have hml := hB.len
      have hul : us.length = n * 2 := by simpa using hT.out.2.2.1
      have hc1 : wr.cell? ⟨g, k * 2, none⟩ = some (us[k * 2]'(by omega)) := (hT.out.2.2.cellAt (k * 2) (by omega)).trans (List.getElem?_eq_getElem (by omega))
      have hc2 : wr.cell? ⟨g, k * 2 + 1, none⟩ = some (.slice B mm d) := by
        rw [hT.out.2.2.cellAt (k * 2 + 1) (by omega), hPr.out k hlt, List.getElem?_eq_getElem (by omega), hv]
      have hf1 := hT.out.2.2.frozenAt (k * 2)
      have htd : totM (ms.drop k) = 1 + mm + totM (ms.drop (k + 1)) := by rw [List.drop_eq_getElem_cons (l := ms) (i := k) (by omega), totM, hml]
      have hws : hi ≤ wr.heap.size := by rw [hT.out.2.1]; exact hh
      have hz2 : z + 1 + mm ≤ 4611686018427387904 := by omega
      have hfar : Same (g + 1) hi wr (wr.setCell ⟨g, k * 2, none⟩ (.int .i64 z)) := (Same.refl _ _ _).setCell (p := ⟨g, k * 2, none⟩) (.inl (Nat.lt_succ_self g)) _
      have hc3 : (wr.setCell ⟨g, k * 2, none⟩ (.int .i64 z)).cell? ⟨g, k * 2 + 1, none⟩ = some (.slice B mm d) := by
        rw [(hT.out.2.2.stored (k * 2) (.int .i64 z)).1.cellAt (k * 2 + 1) (by omega), List.getElem?_set_ne (by omega), hPr.out k hlt, List.getElem?_eq_getElem (by omega), hv]
      have sz : (wr.setCell ⟨g, k * 2, none⟩ (.int .i64 z)).heap.size = wr.heap.size := by simp [World.setCell]
      have hMK := hide (laws_markIntS B mm d _ l m' (z + 1) (wr.setCell ⟨g, k * 2, none⟩ (.int .i64 z)) (hB.same fun q a b => hfar q (by omega) (by omega)) (by omega) (by omega))
      have hRR := hide (hR3.same fun q a b => hfar q (by omega) b)
      have HP2 : Hid (∀ j, j < n → (us.set (k * 2) (.int .i64 z))[j * 2 + 1]? = pws[j]?) := fun j hj => by rw [List.getElem?_set_ne (by omega)]; exact hPr.out j hj
      have hT0 : Hid (Touch lo hi w (wr.setCell ⟨g, k * 2, none⟩ (.int .i64 z)) ∧ (wr.setCell ⟨g, k * 2, none⟩ (.int .i64 z)).heap.size = w.heap.size ∧ (wr.setCell ⟨g, k * 2, none⟩ (.int .i64 z)).ownsRow lo 83 2 (.slice (some ⟨g, 0, none⟩) n c) n (us.set (k * 2) (.int .i64 z))) :=
        ⟨hT.out.1.setCell (p := ⟨g, k * 2, none⟩) (.inl ⟨hlo, hgh⟩) _, sz.trans hT.out.2.1, (hT.out.2.2.stored (k * 2) (.int .i64 z)).1⟩
      have hws2 : hi ≤ (wr.setCell ⟨g, k * 2, none⟩ (.int .i64 z)).heap.size := by rw [sz]; exact hws
      clear hR2 hR hB hT hR3 hfar hPr sz hc2 hv
      go_wp2_with fail
      generalize wr.setCell ⟨g, k * 2, none⟩ (.int .i64 z) = W5 at hc3 hMK hRR hT0 hws2 ⊢
      refine hMK.out.mono ?_
      rintro e w2 ⟨rfl, o2, t2, e2⟩
      have hR4 := hide (hRR.out.same (t2.same (by omega) (by omega)))
      have hT2 : Hid (Touch lo hi w w2 ∧ w2.heap.size = w.heap.size ∧ w2.ownsRow lo 83 2 (.slice (some ⟨g, 0, none⟩) n c) n (us.set (k * 2) (.int .i64 z))) := ⟨hT0.out.1.trans (t2.wide (by omega) (by omega)), by rw [e2]; exact hT0.out.2.1, owns_same hT0.out.2.2 (fun ad e => by injection e with e; subst e; exact t2.block g (hT0.out.2.2.lt g rfl).2 (by omega))⟩
      clear hMK hRR hT0 o2 t2 e2
      go_wp2_with fail
      refine ⟨⟨k + 1, m', z + 1 + mm, _, by omega, by go_num, by go_num, by omega, by omega, by omega, hR4.out, HP2.out, hT2.out⟩, ?_⟩
      simp [intOf]; omega
    · obtain rfl : k = n := by omega
      rw [List.drop_eq_nil_of_le (by omega), totM] at hz1
      have hzz : Hid (z = k0 + totM ms) := by show _ = _; omega
      go_wp2_with fail
      go_ret
      exact ⟨ret_int hzz.out, hT.out.1, hT.out.2.1⟩

set_option maxHeartbeats 1000000 in
theorem laws_markMonomialSSO (A : Option Addr) (n c : Nat) (ps : List (List Mono)) (lo hi : Nat) (k0 : Int) (w : World) (h : Ros kM 81 w lo hi A n c ps) (hh : hi ≤ w.heap.size) (hk0 : 0 ≤ k0) (hk1 : k0 + totMM ps ≤ 4611686018427387904) :
    Calls Try.prog 43 #[.slice A n c, .int .i64 k0] w fun e w' => e = .returned (.int .i64 (k0 + totMM ps)) ∧ Touch lo hi w w' ∧ w'.heap.size = w.heap.size := by
  have hcb := h.capb
  rcases h with ⟨rfl, rfl, rfl, rfl, hle⟩ | ⟨g, vs, rfl, h⟩
  · go_enter Try.func43, Try.ntmps43
    go_wp2_with fail
    go_loopw [1, 5] (fun q i wr => q = .int .i64 k0 ∧ i = .int .i64 0 ∧ wr = w) (fun _ _ _ => 0)
    case atStart => exact ⟨rfl, rfl, rfl⟩
    case round =>
      obtain ⟨rfl, rfl, rfl⟩ := hrel
      go_wp2_with fail
      go_ret
      exact ⟨by simp [totMM], Touch.refl _ _ _, rfl⟩
  · have hvl := h.vlen
    have hxl := h.len
    have hlo := (h.own.lt g rfl).1
    have hst := h.stk
    rw [List.take_of_length_le (by omega), List.take_of_length_le (by omega)] at hst
    have hst0 := hide hst
    have HO := hide h.own
    clear h hst
    go_enter Try.func43, Try.ntmps43
    go_wp2_with fail
    go_loopw [1, 5] (fun q i wr => ∃ (k m : Nat) (z : Int), k ≤ n ∧ i = .int .i64 k ∧ q = .int .i64 z ∧ 0 ≤ z ∧ z + totMM (ps.drop k) = k0 + totMM ps ∧ g + 1 ≤ m ∧ Hid (Stk kM wr m hi (vs.drop k) (ps.drop k)) ∧ Hid (Touch lo hi w wr ∧ wr.heap.size = w.heap.size ∧ wr.ownsRow lo 81 1 (.slice (some ⟨g, 0, none⟩) n c) n vs)) (fun _ i _ => n - (intOf i).toNat)
    case atStart => exact ⟨0, g + 1, k0, by omega, rfl, rfl, hk0, by simp, Nat.le_refl _, hst0.out, Touch.refl _ _ _, rfl, HO.out⟩
    case round =>
      clear hst0 HO
      obtain ⟨k, m, z, hk, rfl, rfl, hz0, hz1, hgm, hR, hT⟩ := hrel
      by_cases hlt : k < n
      · have hR2 := hR.out
        rw [List.drop_eq_getElem_cons (by omega), List.drop_eq_getElem_cons (l := ps) (by omega)] at hR2
        obtain ⟨l, m', h1, h2, h3, hB, hR3⟩ := hR2.head
        have hcc : wr.cell? ⟨g, k, none⟩ = some (vs[k]'(by omega)) := by
          rw [hT.out.2.2.cellAt k (by omega), List.getElem?_eq_getElem (by omega)]
        have htd : totMM (ps.drop k) = totM (ps[k]'(by omega)) + totMM (ps.drop (k + 1)) := by rw [List.drop_eq_getElem_cons (l := ps) (i := k) (by omega), totMM]
        have hws : hi ≤ wr.heap.size := by rw [hT.out.2.1]; exact hh
        have hz2 : z + totM (ps[k]'(by omega)) ≤ 4611686018427387904 := by omega
        have hMK := hide (laws_markMonomialSO _ _ l m' z wr hB (by omega) hz0 hz2)
        obtain ⟨B, mm, d, _, _, hv, _⟩ := hB
        rw [hv] at hcc hMK
        have hT0 := hT
        have hRR := hide hR3
        clear hR2 hR hT hR3 hv
        go_wp2_with fail
        refine hMK.out.mono ?_
        rintro e w2 ⟨rfl, t2, e2⟩
        have hR4 := hide (hRR.out.same (t2.same (by omega) (by omega)))
        have hT2 : Hid (Touch lo hi w w2 ∧ w2.heap.size = w.heap.size ∧ w2.ownsRow lo 81 1 (.slice (some ⟨g, 0, none⟩) n c) n vs) := ⟨hT0.out.1.trans (t2.wide (by omega) (by omega)), by rw [e2]; exact hT0.out.2.1, owns_same hT0.out.2.2 (fun ad e => by injection e with e; subst e; exact t2.block g (hT0.out.2.2.lt g rfl).2 (by omega))⟩
        clear hMK hRR hT0 t2 e2
        go_wp2_with fail
        refine ⟨⟨k + 1, m', z + totM (ps[k]'(by omega)), by omega, by go_num, rfl, by omega, by omega, by omega, hR4.out, hT2.out⟩, ?_⟩
        simp [intOf]; omega
      · obtain rfl : k = n := by omega
        rw [List.drop_eq_nil_of_le (by omega), totMM] at hz1
        have hzz : Hid (z = k0 + totMM ps) := by show _ = _; omega
        go_wp2_with fail
        go_ret
        exact ⟨ret_int hzz.out, hT.out.1, hT.out.2.1⟩

theorem laws_markFieldO (o : Int) (A : Option Addr) (n c : Nat) (ps : List (List Mono)) (lo hi : Nat) (k0 : Int) (w : World) (h : Ros kM 81 w lo hi A n c ps) (hh : hi ≤ w.heap.size) (hk0 : 0 ≤ k0) (hk1 : k0 + totMM ps ≤ 4611686018427387904) :
    Calls Try.prog 18 #[.agg #[.int .i64 o, .slice A n c], .int .i64 k0] w fun e w' => e = .returned (.int .i64 (k0 + totMM ps)) ∧ Touch lo hi w w' := by
  have b0 := below_alloc w (.cells #[.int .i64 o, .slice A n c] 41)
  go_enter Try.func18, Try.ntmps18
  go_wp2_with fail
  refine (laws_markMonomialSSO A n c ps lo hi k0 _ (h.below b0 hh) (by simp; omega) hk0 hk1).mono ?_
  rintro e w2 ⟨rfl, t2, e2⟩
  have T := (Touch.of_below (lo := lo) (hi := hi) b0).trans t2
  go_wp2_with fail
  go_ret
  exact ⟨rfl, T⟩
end Go.Proofs.Ytlmkjfgomlamhaa
