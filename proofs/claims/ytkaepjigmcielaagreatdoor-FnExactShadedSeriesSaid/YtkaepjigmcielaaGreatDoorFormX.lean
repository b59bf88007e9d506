/- spec.l10Form returns the greatest list of a shaded tree: the walk. -/
import Derived.Test.YtkaepjigmcielaaGreatDoorMzV
namespace Go.Proofs.YtkaepjigmcielaaGreatDoor
open Go.RowKit
set_option linter.unusedSimpArgs false
set_option linter.unusedVariables false
set_option maxRecDepth 20000

theorem app_facts {w w4 : World} {lo g q C c4 : Nat} {A4 : Option Addr} {vs : List Value} {v : Value} (h : Appended w lo 22 1 (some ⟨g, 0, none⟩) q C A4 (q + 1) c4 (vs ++ [v]) w4) (ho : w.ownsRow lo 22 1 (.slice (some ⟨g, 0, none⟩) q C) q vs) :
    ∃ g4, A4 = some ⟨g4, 0, none⟩ ∧ w4.ownsRow lo 22 1 (.slice (some ⟨g4, 0, none⟩) (q + 1) c4) (q + 1) (vs ++ [v]) ∧ (∀ k, k < w.heap.size → k ≠ g → w4.heap[k]? = w.heap[k]?) ∧ (g4 = g ∨ w.heap.size ≤ g4) ∧ w.heap.size ≤ w4.heap.size ∧ q + 1 ≤ c4 := by
  obtain ⟨h1, h2, h3⟩ := h
  rcases h1.2 with ⟨_, e⟩ | ⟨g4, cap, cur, e, h4, h5, h6, _⟩
  · omega
  · injection e with e1 e2 e3
    subst e1 e3
    refine ⟨g4, rfl, h1, fun k hk hne => h2.block k hk (fun e => hne (by simpa [Value.ownBlock] using e)), ?_, h2.size, h6⟩
    rcases h3 with h3 | h3
    · have := h3 _ rfl
      injection this with this
      injection this with this
      exact .inl this.symm
    · exact .inr (h3 _ rfl)

theorem RowsI.one_nil {w : World} {lo hi n c : Nat} {A : Option Addr} {vs : List Value} {xss : List (List Int)} (h : RowsI w lo hi A n c vs xss) : ∀ v ∈ vs ++ [Value.slice none 0 0], v.oneCell' = true := by
  intro v hv
  rcases List.mem_append.1 hv with hv | hv
  · obtain ⟨j, hj, e⟩ := List.mem_iff_getElem.1 hv
    have hl := h.vlen
    have hx := h.len
    obtain ⟨B, m, d, _, _, e1, _⟩ := h.row j _ (List.getElem?_eq_getElem (by omega))
    rw [List.getElem?_eq_getElem hj, e] at e1
    injection e1 with e1
    subst e1
    rfl
  · obtain rfl : v = .slice none 0 0 := by simpa using hv
    rfl
theorem shift_set (vs : List Value) (x y : Value) (u q : Nat) (hl : vs.length = q) (hu : u ≤ q) : ((vs ++ [x]).take (u + 1) ++ ((vs ++ [x]).drop u).take (q - u)).set u y = vs.take u ++ y :: vs.drop u := by
  have e1 : ((vs ++ [x]).drop u).take (q - u) = vs.drop u := by
    rw [List.drop_append_of_le_length (by omega), List.take_append_of_le_length (by simp; omega), List.take_of_length_le (by simp; omega)]
  have e2 : ∃ z, (vs ++ [x]).take (u + 1) = vs.take u ++ [z] := by
    refine ⟨(vs ++ [x])[u]'(by simp; omega), ?_⟩
    rw [List.take_succ_eq_append_getElem (by simp; omega), List.take_append_of_le_length (by omega)]
  obtain ⟨z, e2⟩ := e2
  rw [e1, e2, List.append_assoc, List.set_append_right _ _ (by simp; omega)]
  have e3 : u - (vs.take u).length = 0 := by simp; omega
  rw [e3]
  rfl
theorem step_ins {w1 wq w4 w5 : World} {gA g4 q C c4 u l' b m d : Nat} {vs : List Value} {s : List (List Int)} {pf : List Int} (HQ : RowsI wq w1.heap.size wq.heap.size (some ⟨gA, 0, none⟩) q C vs s)
    (OQ : Ints wq l' wq.heap.size (some ⟨b, 0, none⟩) m d pf) (zr : w1.heap.size ≤ l') (_h : wq.heap.size ≤ wq.heap.size) (hgA : gA < l') (hu : u ≤ q) (at4 : g4 = gA ∨ wq.heap.size ≤ g4)
    (sm4 : ∀ k, k < wq.heap.size → k ≠ gA → w4.heap[k]? = wq.heap[k]?) (sz4 : wq.heap.size ≤ w4.heap.size)
    (ow5 : w5.ownsRow w1.heap.size 22 1 (.slice (some ⟨g4, 0, none⟩) (q + 1) c4) (q + 1) ((vs ++ [Value.slice none 0 0]).take (u + 1) ++ ((vs ++ [Value.slice none 0 0]).drop u).take (q - u))) (t5 : Touch g4 (g4 + 1) w4.drew w5) (sz5 : w5.heap.size = w4.drew.heap.size)
    (zq : w1.heap.size ≤ wq.heap.size) (hb4 : Below w1.heap.size w1 w4) (hlA : w1.heap.size ≤ gA) :
    ∃ v, w5.cell? ⟨g4, u, none⟩ = some v ∧ w5.frozen? ⟨g4, u, none⟩ = false ∧ (∃ vs6, RowsI (w5.setCell ⟨g4, u, none⟩ (.slice (some ⟨b, 0, none⟩) m d)) w1.heap.size (w5.setCell ⟨g4, u, none⟩ (.slice (some ⟨b, 0, none⟩) m d)).heap.size (some ⟨g4, 0, none⟩) (q + 1) c4 vs6 (s.take u ++ pf :: s.drop u)) ∧
      Below w1.heap.size w1 (w5.setCell ⟨g4, u, none⟩ (.slice (some ⟨b, 0, none⟩) m d)) := by
  have hvl := HQ.vlen
  have hl5 := own_len ow5
  have hlg4 : w1.heap.size ≤ g4 := (ow5.lt g4 rfl).1
  have hz4 : w4.drew.heap.size = w4.heap.size := rfl
  have st := (ow5.stored u (.slice (some ⟨b, 0, none⟩) m d)).1
  rw [shift_set vs _ _ u q hvl hu] at st
  refine ⟨_, (ow5.cellAt u (by omega)).trans (List.getElem?_eq_getElem (by omega)), ow5.frozenAt u, ⟨_, HQ.ins OQ zr (Nat.le_refl _) (fun ad e => by injection e with e; subst e; exact .inr hgA) hu ?_ (fun k hk hne => ?_) ?_ st⟩, ?_⟩
  · rcases at4 with e | e
    · exact .inl ⟨_, rfl, e.symm⟩
    · exact .inr e
  · have hne2 : k ≠ gA := fun e => hne _ rfl e.symm
    have hk4 : k ≠ g4 := by omega
    rw [Below.heap_setCell _ _ _ _ hk4]
    exact (t5.block k (by rw [hz4]; omega) (by omega)).trans (sm4 k hk hne2)
  · simp [World.setCell]
    omega
  · have h4 : Below w1.heap.size w1 w4.drew := hb4.drew
    exact (h4.trans (t5.below hlg4 (by rw [hz4]; omega))).setCell (p := ⟨g4, u, none⟩) hlg4 _

set_option maxHeartbeats 8000000 in
theorem spec_l10Form : ∀ (k gw n c : Nat) (l : List Int) (lo hi : Nat) (w : World), Ints w lo hi (some ⟨gw, 0, none⟩) n c l → hi ≤ w.heap.size → Good l → l.length ≤ k → k ≤ 4 → (∀ x ∈ l, x ≤ 1000) →
    Calls Tryz.prog 52 #[.slice (some ⟨gw, 0, none⟩) n c] w fun e w' => ∃ g' c', e = .returned (.slice (some ⟨g', 0, none⟩) n c') ∧ OwnI w' w.heap.size w'.heap.size (some ⟨g', 0, none⟩) n c' (formF k l) ∧ Below w.heap.size w w' := by
  intro k
  induction k with
  | zero =>
    intro gw n c l lo hi w h hh hg hk _ _
    obtain ⟨b, q, rfl, _⟩ := hg
    simp at hk
  | succ k ih =>
    intro gw n c l lo hi w h hh hgood hk hk4 hbd
    obtain ⟨a, r, rfl⟩ : ∃ a r, l = a :: r := by
      obtain ⟨b, q, e, _⟩ := hgood
      exact ⟨b, q, e⟩
    obtain ⟨hp, hr2, hh4, ha0, ha2⟩ := good_parts hgood
    obtain ⟨i0, hi0, hz0, hz1, hz2⟩ := info_parts info_int
    obtain ⟨i1, hi1, hy0, hy1, hy2⟩ := info_parts info_ints
    have hln : r.length + 1 = n := h.len
    have hrk : r.length ≤ k := by simpa using hk
    have hm := h.max
    have hcp := h.cap
    have hnum : (partsF [] r).length ≤ r.length := by have := parts_num (r := r) (acc := []) (.inr hh4); simpa using this
    have HB := hide (spec_l10Parts gw n c a r lo hi w h hh (by omega) ⟨ha0, ha2⟩ hr2 hh4)
    have HI := hide h
    have HP := hide hp
    have HBD := hide hbd
    have IH := hide ih
    have HLN := hide hln
    have hnk : n ≤ 4 := by omega
    have hn1p : 1 ≤ n := by omega
    have HR2 := hide hr2
    clear h hp hbd ih hgood hh4 hr2 hk hln
    go_enter Tryz.func52, Tryz.ntmps52
    go_wp2_with fail
    refine HB.out.mono ?_
    rintro e w1 ⟨g1, n1, c1, vs, rfl, hO, b1⟩
    have hR := hide hO.rows
    have hcb1 := hO.capb
    have hpl := hide hO.len
    have hn1 : n1 ≤ 3 := by
      have := hO.len
      omega
    have z1 := b1.size
    have hg1 : w.heap.size ≤ g1 ∧ g1 < w1.heap.size := hO.own.lt g1 rfl
    clear hO HB
    go_wp2_with fail
    have a2 := below_alloc w1 (.cells #[] 22)
    have o2 := hide (RowsO.empty w1 w1.heap.size (Nat.le_refl _)).rows
    generalize World.alloc w1 (.cells #[] 22) = w2 at a2 o2 ⊢
    go_loopw [4, 5, 6, 7] (fun s i _ _ wr => ∃ (q gA C : Nat), q ≤ n1 ∧ i = .int .i64 q ∧ s = .slice (some ⟨gA, 0, none⟩) q C ∧ Hid (∃ vs, RowsI wr w1.heap.size wr.heap.size (some ⟨gA, 0, none⟩) q C vs (sortF (((partsF [] r).take q).map (formF k)))) ∧ Hid (Below w1.heap.size w1 wr)) (fun _ i _ _ _ => n1 - (intOf i).toNat)
    case atStart => exact ⟨0, _, 0, by omega, rfl, rfl, ⟨_, o2.out⟩, a2⟩
    case round =>
      obtain ⟨q, gA, C, hq, rfl, rfl, hrel, hb⟩ := hrel
      obtain ⟨vs', hI⟩ := hrel.out
      have zr := hb.out.size
      have hcb2 := hI.capb
      have hgA : gA < wr.heap.size := hI.lt _ rfl
      have hlA : w1.heap.size ≤ gA := (hI.own.lt gA rfl).1
      by_cases hlt : q < n1
      · obtain ⟨p, hpj⟩ : ∃ p, (partsF [] r)[q]? = some p := ⟨_, List.getElem?_eq_getElem (by have := hpl.out; omega)⟩
        obtain ⟨B, m, d, l', h', p', hc, hin, e3, e4, hx, hv, hform⟩ := hR.out.at_ hlt
        obtain rfl : p = p' := by have := hx.out; rw [hpj] at this; injection this
        have hpm := List.mem_of_getElem? hpj
        have hgp := HP.out p hpm
        have hmp : 0 < m := by
          obtain ⟨b, q, e, _⟩ := hgp
          have := hin.len
          rw [e] at this
          simp at this
          omega
        obtain ⟨ad, rfl, _⟩ := hin.cells hmp
        obtain ⟨b, hb0⟩ : ∃ b, ad = ⟨b, 0, none⟩ := ⟨_, hform ad rfl⟩
        subst hb0
        have hcw : wr.cell? ⟨g1, q, none⟩ = some (.slice (some ⟨b, 0, none⟩) m d) := (hb.out.cell (p := ⟨g1, q, none⟩) hg1.2).trans hc
        have hcall := hide (IH.out b m d p l' h' wr (hin.below hb.out e4) (by omega) hgp (by have := parts_len hpm; omega) (by omega) (fun x hx => by
          have := HBD.out (x + 2) (List.mem_cons_of_mem _ (parts_mem hpm x hx))
          omega))
        have hst : sortF (((partsF [] r).take (q + 1)).map (formF k)) = insF (formF k p) (sortF (((partsF [] r).take q).map (formF k))) := by
          rw [List.take_add_one, hpj, List.map_append]
          exact sortF_snoc _ _
        have HST := hide hst
        have HII := hide hI
        have hsl := hide hI.len
        clear hI hrel hform hin hpj hgp hpm hx hv hc hst
        obtain ⟨pf, hpf⟩ : ∃ pf, pf = formF k p := ⟨_, rfl⟩
        rw [← hpf] at HST hcall
        clear hpf
        have hdes := hide (sortF_desc (((partsF [] r).take q).map (formF k)))
        obtain ⟨s, hs⟩ : ∃ s, s = sortF (((partsF [] r).take q).map (formF k)) := ⟨_, rfl⟩
        rw [← hs] at HST HII hsl hdes
        clear hs
        go_wp2_with fail
        refine hcall.out.mono ?_
        rintro e w3 ⟨g3, c3, rfl, o3, b3⟩
        have z3 := b3.size
        have hgm := o3.capb
        have HQ2 := hide ((HII.out.below b3 (Nat.le_refl _)).wide z3)
        have O3 := hide o3.ints
        have hgA3 : gA < w3.heap.size := by omega
        have hO3g : ∀ ad : Addr, some ad = some (⟨gA, 0, none⟩ : Addr) → w3.heap.size ≤ ad.block ∨ ad.block < wr.heap.size := fun ad e => by
          injection e with e
          subst e
          exact .inr hgA
        have HG3 := hide hO3g
        have HB3 := hide (hb.out.trans (b3.mono zr))
        clear o3 hO3g HII hcall
        go_wp2_with fail
        go_loopw [7] (fun kk wr' => ∃ (u qd : Nat), u ≤ q ∧ kk = .int .i64 u ∧ wr' = w3.drewN qd ∧ Hid (∀ t ∈ s.drop u, lessF t pf = true)) (fun kk _ => (intOf kk).toNat)
        case atStart => exact ⟨q, 0, Nat.le_refl _, rfl, rfl, fun t ht => by rw [List.drop_eq_nil_of_le (by have := hsl.out; omega)] at ht; cases ht⟩
        case round =>
          obtain ⟨u, qd, hu, rfl, rfl, HLd⟩ := hrel
          by_cases hu0 : u = 0
          · have HLt : Hid (∀ t ∈ s.take u, lessF t pf = false) := fun t ht => by rw [hu0] at ht; simp at ht
            have hd0 : decide (0 < u) = false := by simp; omega
            clear hu0
            have HQ : Hid (∃ vs, RowsI (w3.drewN qd) w1.heap.size (w3.drewN qd).heap.size (some ⟨gA, 0, none⟩) q C vs s) := ⟨_, HQ2.out.drewN qd⟩
            have zq : w1.heap.size ≤ (w3.drewN qd).heap.size := HB3.out.size
            have HBq := hide (below_drewN HB3.out qd)
            have OQ : Hid (Ints (w3.drewN qd) wr.heap.size (w3.drewN qd).heap.size (some ⟨g3, 0, none⟩) m c3 pf) := O3.out.same (fun _ _ _ => rfl)
            generalize w3.drewN qd = wq at HQ zq HBq OQ ⊢
            obtain ⟨vq, hq7⟩ := HQ.out
            have HQ := hide hq7
            clear hq7
            have hPs := hide (ins_at _ _ HLt.out HLd.out)
            go_wp2_with (at_builtin; refine wpl_app1b rfl (.tmp 40) (.tmp 41) 26 rfl w1.heap.size 22 i1 (.slice none 0 0) 1 24 Tryz.underlying26 hi1 hy0 hy1 hy2 rfl (by omega) wq #[.slice none 0 0] _ rfl (some ⟨gA, 0, none⟩) q C 1 _ rfl rfl HQ.out.own rfl (by simp [Value.oneCell']) (by omega) (by omega) zq ?_; intro A4 c4 w4 happ hlt4; have HA := hide (app_facts happ HQ.out.own); have HB4 := hide (happ.low HBq.out zq (Nat.le_refl _) HQ.out.own); clear happ)
            obtain ⟨g4, rfl, ow4, sm4, at4, sz4, cp4⟩ := HA.out
            have OW4 := hide ow4
            have SM4 := hide sm4
            have AT4 := hide at4
            clear ow4 sm4 at4 HA
            have hc1 : c4 = u + 1 ∨ ¬ c4 = u + 1 := by omega
            have hcu : ¬ c4 = u := by omega
            have hwu : IntKind.i64.wrap ((u : Int) + 1) = (u : Int) + 1 := IntWalk.i64_in _ (by omega)
            have hw0 : (0 : Int) ≤ (u : Int) + 1 := by omega
            have hwt : ((u : Int) + 1).toNat = u + 1 := by omega
            have hul : u + 1 ≤ q + 1 := by omega
            have hul2 : (u : Int) ≤ (q : Int) + 1 := by omega
            have hone := hide HQ.out.one_nil
            rcases hc1 with hc1 | hc1
            · subst hc1
              refine still_tail 7 (by kernel_rfl) (by kernel_rfl) ?_
              simp only [List.take_succ_cons, List.take_zero, List.drop_succ_cons, List.drop_zero]
              repeat still_step
              refine wpStill_nil ?_
              clear hwu hw0 hwt hul hul2
              go_wp2_with (refine wpl_shift rfl (.tmp 46) (.tmp 49) rfl w4.drew w1.heap.size g4 q _ u _ (some ⟨g4, 0, none⟩) (some ⟨g4, u, none⟩) 0 0 (q + 1 - u) 1 rfl rfl (by omega) (by omega) hu (fun h => by first | exact ⟨rfl, rfl⟩ | omega) OW4.out hone.out ?_; intro w5 ow5 t5 sz5; have HSI := hide (step_ins HQ.out OQ.out zr (Nat.le_refl _) hgA hu AT4.out SM4.out sz4 ow5 t5 sz5 zq HB4.out hlA); clear ow5 t5; obtain ⟨v5, hv5, hf5, HR6⟩ := HSI.out; have HR7 := hide HR6; clear HR6)
              go_roundw
              case rel => exact ⟨q + 1, g4, _, by omega, by go_num, rfl, by rw [HST.out, hPs.out]; exact HR7.out.1, HR7.out.2⟩
              case measure => simp [intOf]; omega
            · skip
              refine still_tail 7 (by kernel_rfl) (by kernel_rfl) ?_
              simp only [List.take_succ_cons, List.take_zero, List.drop_succ_cons, List.drop_zero]
              repeat still_step
              refine wpStill_nil ?_
              clear hwu hw0 hwt hul hul2
              go_wp2_with (refine wpl_shift rfl (.tmp 46) (.tmp 49) rfl w4.drew w1.heap.size g4 q _ u _ (some ⟨g4, u + 1, none⟩) (some ⟨g4, u, none⟩) (q - u) (c4 - (u + 1)) (q + 1 - u) (c4 - u) rfl rfl (by omega) (by omega) hu (fun h => by first | exact ⟨rfl, rfl⟩ | omega) OW4.out hone.out ?_; intro w5 ow5 t5 sz5; have HSI := hide (step_ins HQ.out OQ.out zr (Nat.le_refl _) hgA hu AT4.out SM4.out sz4 ow5 t5 sz5 zq HB4.out hlA); clear ow5 t5; obtain ⟨v5, hv5, hf5, HR6⟩ := HSI.out; have HR7 := hide HR6; clear HR6)
              go_roundw
              case rel => exact ⟨q + 1, g4, _, by omega, by go_num, rfl, by rw [HST.out, hPs.out]; exact HR7.out.1, HR7.out.2⟩
              case measure => simp [intOf]; omega
          · have hpos : 0 < u := by omega
            clear hu0
            obtain ⟨B7, m7, d7, l7, h7, t7, hc7, hin7, e73, e74, hx7, hv7, hform7⟩ := (HQ2.out.drewN qd).at_ (k := u - 1) (by omega)
            have hle : lessF t7 pf = true ∨ lessF t7 pf = false := by cases lessF t7 pf <;> simp
            have hsp := hide (fun q5 => spec_l2Less B7 m7 d7 t7 l7 h7 (some ⟨g3, 0, none⟩) m c3 pf wr.heap.size w3.heap.size (w3.drewN q5) (hin7.same (fun _ _ _ => rfl)) (O3.out.same (fun _ _ _ => rfl)))
            clear hform7 hv7 hin7
            have hdt : Hid (s.drop (u - 1) = t7 :: s.drop u) := by
              obtain ⟨hl7, e7⟩ := List.getElem?_eq_some_iff.1 hx7.out
              show _ = _
              rw [List.drop_eq_getElem_cons hl7, e7, Nat.sub_add_cancel hpos]
            have hi1 : (1 : Int) ≤ (u : Int) := by omega
            have hi0' : (0 : Int) ≤ (u : Int) - 1 := by omega
            have hit : ((u : Int) - 1).toNat = u - 1 := by omega
            have hiq : (u : Int) - 1 < q := by omega
            rcases hle with hle | hle
            · rw [hle] at hsp
              have HLd2 : Hid (∀ t ∈ s.drop (u - 1), lessF t pf = true) := fun t ht => by
                rw [hdt.out] at ht
                rcases List.mem_cons.1 ht with e | ht
                · rw [e]; exact hle
                · exact HLd.out t ht
              clear hle hdt
              go_wp2_with fail
              refine (hsp.out qd).mono ?_
              rintro e w9 ⟨rfl, q9, rfl⟩
              clear hit
              go_wp2_with fail
              go_roundw
              case rel => exact ⟨u - 1, qd + q9, by omega, by congr 1; omega, rfl, HLd2.out⟩
              case measure => simp [intOf]; omega
            · rw [hle] at hsp
              have HLt : Hid (∀ t ∈ s.take u, lessF t pf = false) := by
                have := ins_desc hdes.out hx7.out hle
                rwa [Nat.sub_add_cancel hpos] at this
              clear hle hdt hx7
              go_wp2_with fail
              refine (hsp.out qd).mono ?_
              rintro e w9 ⟨rfl, q9, rfl⟩
              have HQ : Hid (∃ vs, RowsI ((w3.drewN qd).drewN q9) w1.heap.size ((w3.drewN qd).drewN q9).heap.size (some ⟨gA, 0, none⟩) q C vs s) := ⟨_, (HQ2.out.drewN qd).drewN q9⟩
              have zq : w1.heap.size ≤ ((w3.drewN qd).drewN q9).heap.size := HB3.out.size
              have HBq := hide (below_drewN (below_drewN HB3.out qd) q9)
              have OQ : Hid (Ints ((w3.drewN qd).drewN q9) wr.heap.size ((w3.drewN qd).drewN q9).heap.size (some ⟨g3, 0, none⟩) m c3 pf) := O3.out.same (fun _ _ _ => rfl)
              generalize (w3.drewN qd).drewN q9 = wq at HQ zq HBq OQ ⊢
              obtain ⟨vq, hq7⟩ := HQ.out
              have HQ := hide hq7
              clear hq7 hsp hit hi0' hiq hi1
              have hPs := hide (ins_at _ _ HLt.out HLd.out)
              go_wp2_with (at_builtin; refine wpl_app1b rfl (.tmp 40) (.tmp 41) 26 rfl w1.heap.size 22 i1 (.slice none 0 0) 1 24 Tryz.underlying26 hi1 hy0 hy1 hy2 rfl (by omega) wq #[.slice none 0 0] _ rfl (some ⟨gA, 0, none⟩) q C 1 _ rfl rfl HQ.out.own rfl (by simp [Value.oneCell']) (by omega) (by omega) zq ?_; intro A4 c4 w4 happ hlt4; have HA := hide (app_facts happ HQ.out.own); have HB4 := hide (happ.low HBq.out zq (Nat.le_refl _) HQ.out.own); clear happ)
              obtain ⟨g4, rfl, ow4, sm4, at4, sz4, cp4⟩ := HA.out
              have OW4 := hide ow4
              have SM4 := hide sm4
              have AT4 := hide at4
              clear ow4 sm4 at4 HA
              have hc1 : c4 = u + 1 ∨ ¬ c4 = u + 1 := by omega
              have hcu : ¬ c4 = u := by omega
              have hwu : IntKind.i64.wrap ((u : Int) + 1) = (u : Int) + 1 := IntWalk.i64_in _ (by omega)
              have hw0 : (0 : Int) ≤ (u : Int) + 1 := by omega
              have hwt : ((u : Int) + 1).toNat = u + 1 := by omega
              have hul : u + 1 ≤ q + 1 := by omega
              have hul2 : (u : Int) ≤ (q : Int) + 1 := by omega
              have hone := hide HQ.out.one_nil
              rcases hc1 with hc1 | hc1
              · subst hc1
                refine still_tail 7 (by kernel_rfl) (by kernel_rfl) ?_
                simp only [List.take_succ_cons, List.take_zero, List.drop_succ_cons, List.drop_zero]
                repeat still_step
                refine wpStill_nil ?_
                clear hwu hw0 hwt hul hul2
                go_wp2_with (refine wpl_shift rfl (.tmp 46) (.tmp 49) rfl w4.drew w1.heap.size g4 q _ u _ (some ⟨g4, 0, none⟩) (some ⟨g4, u, none⟩) 0 0 (q + 1 - u) 1 rfl rfl (by omega) (by omega) hu (fun h => by first | exact ⟨rfl, rfl⟩ | omega) OW4.out hone.out ?_; intro w5 ow5 t5 sz5; have HSI := hide (step_ins HQ.out OQ.out zr (Nat.le_refl _) hgA hu AT4.out SM4.out sz4 ow5 t5 sz5 zq HB4.out hlA); clear ow5 t5; obtain ⟨v5, hv5, hf5, HR6⟩ := HSI.out; have HR7 := hide HR6; clear HR6)
                go_roundw
                case rel => exact ⟨q + 1, g4, _, by omega, by go_num, rfl, by rw [HST.out, hPs.out]; exact HR7.out.1, HR7.out.2⟩
                case measure => simp [intOf]; omega
              · skip
                refine still_tail 7 (by kernel_rfl) (by kernel_rfl) ?_
                simp only [List.take_succ_cons, List.take_zero, List.drop_succ_cons, List.drop_zero]
                repeat still_step
                refine wpStill_nil ?_
                clear hwu hw0 hwt hul hul2
                go_wp2_with (refine wpl_shift rfl (.tmp 46) (.tmp 49) rfl w4.drew w1.heap.size g4 q _ u _ (some ⟨g4, u + 1, none⟩) (some ⟨g4, u, none⟩) (q - u) (c4 - (u + 1)) (q + 1 - u) (c4 - u) rfl rfl (by omega) (by omega) hu (fun h => by first | exact ⟨rfl, rfl⟩ | omega) OW4.out hone.out ?_; intro w5 ow5 t5 sz5; have HSI := hide (step_ins HQ.out OQ.out zr (Nat.le_refl _) hgA hu AT4.out SM4.out sz4 ow5 t5 sz5 zq HB4.out hlA); clear ow5 t5; obtain ⟨v5, hv5, hf5, HR6⟩ := HSI.out; have HR7 := hide HR6; clear HR6)
                go_roundw
                case rel => exact ⟨q + 1, g4, _, by omega, by go_num, rfl, by rw [HST.out, hPs.out]; exact HR7.out.1, HR7.out.2⟩
                case measure => simp [intOf]; omega
      · obtain rfl : q = n1 := by omega
        have hI2 : RowsI wr w1.heap.size wr.heap.size (some ⟨gA, 0, none⟩) q C vs' (sortF ((partsF [] r).map (formF k))) := by
          have e : (partsF [] r).take q = partsF [] r := List.take_of_length_le (by have := hpl.out; omega)
          rw [e] at hI
          exact hI
        have hcs := hide (sorted_flat_len k r)
        have hmem := hide (fun p (hp : p ∈ sortF ((partsF [] r).map (formF k))) => sorted_mem hp)
        have hfu := hide (form_unfold k a r)
        obtain ⟨ss, hss⟩ : ∃ ss, ss = sortF ((partsF [] r).map (formF k)) := ⟨_, rfl⟩
        rw [← hss] at hI2 hcs hmem hfu
        have hb2 : Below w.heap.size w wr := b1.trans (hb.out.mono z1)
        have hR3 := hide hI2
        have hca : wr.cell? ⟨gw, 0, none⟩ = some (.int .i64 a) := by
          obtain ⟨ad, e, _, _, hc⟩ := (HI.out.below hb2 hh).cells (by omega)
          injection e with e
          subst e
          simpa [Addr.add] using hc 0 a rfl
        have HB2 := hide hb2
        have hfl : ∀ j p, ss[j]? = some p → (flat2 (ss.take j)).length + p.length ≤ r.length := fun j p h => by have := flat2_take_len h; rw [hcs.out] at this; exact this
        have HFL := hide hfl
        have hr64 : ∀ x ∈ a :: r, 0 ≤ x ∧ x ≤ 1000 := fun x hx => by
          refine ⟨?_, HBD.out x hx⟩
          rcases List.mem_cons.1 hx with rfl | hx
          · exact ha0
          · have := HR2.out x hx; omega
        have HR64 := hide hr64
        have hcb9 := hI2.capb
        have HSL := hide hI2.len
        have z2 := hb2.size
        clear hb2 hb hfl hr64 hI hI2 hrel hpl hss IH HP hR
        go_wp2_with fail
        have ow := World.ownsRow_lit (size := 1) (e := 3) wr #[.int .i64 a] 1 (Nat.le_refl _) (by unfold maxLen; omega) rfl
        have a3 := below_alloc wr (.cells #[.int .i64 a] 3)
        obtain ⟨wr2, hwr2⟩ : ∃ W : World, W = wr := ⟨_, rfl⟩
        rw [← hwr2] at ow a3 hR3 HB2 z2 zr hgA ⊢
        clear hwr2 hca
        generalize World.alloc wr2 (.cells #[.int .i64 a] 3) = w3 at ow a3 ⊢
        have z3 := a3.size
        go_loopw [8, 9, 10] (fun o i _ wr => ∃ (v N c' : Nat) (A : Option Addr), v ≤ q ∧ i = .int .i64 v ∧ o = .slice A N c' ∧ Hid (OwnI wr wr2.heap.size wr.heap.size A N c' (a :: flat2 (ss.take v))) ∧ Hid (Below wr2.heap.size wr2 wr)) (fun _ i _ _ => q - (intOf i).toNat)
        case atStart => exact ⟨0, 1, 1, _, by omega, rfl, rfl, ⟨ow, fun ad e => (owns_lt ow ad e).2, r64_one ha0 ha2⟩, a3⟩
        case round =>
          obtain ⟨v, N, c', A, hv, rfl, rfl, hO, hbr⟩ := hrel
          have zr2 := hbr.out.size
          by_cases hlt2 : v < q
          · obtain ⟨B, m, d, l', h', p, hc, hin, e3, e4, hx, _, hform⟩ := hR3.out.at_ hlt2
            clear hform
            have hc0 := hc
            have hIN := hide hin
            have hcpp := hin.cap
            have hmp := hin.max
            have hml := hide hin.len
            have hfl := HFL.out v p hx.out
            have HFp := hide hfl
            have hft := hide (flat2_take hx.out)
            have hmem2 := hide (hmem.out p (List.mem_of_getElem? hx.out))
            have hcc : ∀ W, Below wr2.heap.size wr2 W → W.cell? ⟨gA, v, none⟩ = some (.slice B m d) := fun W bW => (bW.cell (p := ⟨gA, v, none⟩) hgA).trans hc0
            have HCC := hide hcc
            clear hin hfl hc hc0 hcc hx
            go_wp2_with fail
            obtain ⟨wo, rfl⟩ : ∃ wo : World, wo = wr := ⟨_, rfl⟩
            go_loopw [8, 10] (fun o i wr => ∃ (u N c' : Nat) (A : Option Addr), u ≤ m ∧ i = .int .i64 u ∧ o = .slice A N c' ∧ Hid (OwnI wr wr2.heap.size wr.heap.size A N c' (a :: flat2 (ss.take v) ++ (p.take u).map (· + 2))) ∧ Hid (Below wr2.heap.size wr2 wr)) (fun _ i _ => m - (intOf i).toNat)
            case atStart => exact ⟨0, N, c', A, by omega, rfl, rfl, start_ok hO.out, hbr.out⟩
            case round =>
              obtain ⟨u, N2, c2, A2, hu, rfl, rfl, hO2, hbr2⟩ := hrel
              have zr3 := hbr2.out.size
              have hcW := HCC.out _ hbr2.out
              by_cases hlt3 : u < m
              · obtain ⟨ad, x, rfl, hcx, hxr, _, hxu⟩ := (hIN.out.below hbr2.out (by omega)).at_ hlt3
                have hx0 := hmem2.out x (List.mem_of_getElem? hxu.out)
                have hx1 := HR64.out (x + 2) (List.mem_cons_of_mem _ hx0)
                have hNN : N2 ≤ 4 := by
                  have e1 := hO2.out.len
                  have e2 := HFp.out
                  have e3 := hml.out
                  simp at e1
                  omega
                have hO3 := hide hO2.out.own
                go_wp2_with (at_builtin; refine wpl_app1b rfl (.tmp 74) (.tmp 83) 22 rfl wr2.heap.size 3 i0 (.int .i64 0) 1 8 Tryz.underlying22 hi0 hz0 hz1 hz2 rfl (by omega) wr #[.int .i64 (x + 2)] _ rfl A2 N2 c2 1 _ rfl rfl hO3.out rfl (by simp [Value.oneCell']) (by omega) (by omega) zr3 ?_; intro A4 c4 w4 happ hlt4; have HB4 := hide (happ.low hbr2.out zr3 (Nat.le_refl _) hO3.out); have HO4 := hide (own_snoc happ hxu.out (r64_snoc hO2.out.rng hxu.out hx1)); clear happ)
                go_roundw
                case rel => exact ⟨u + 1, N2 + 1, c4, A4, by omega, by go_num, rfl, HO4.out, HB4.out⟩
                case measure => simp [intOf]; omega
              · obtain rfl : u = m := by omega
                have hO5 : OwnI wr wr2.heap.size wr.heap.size A2 N2 c2 (a :: flat2 (ss.take (v + 1))) := by
                  have e : p.take u = p := List.take_of_length_le (by have := hml.out; omega)
                  have := hO2.out
                  rw [e] at this
                  rw [hft.out]
                  exact this
                have HO5 := hide hO5
                clear hO5 hO2
                go_wp2_with fail
                go_roundw
                case rel => exact ⟨v + 1, N2, c2, A2, by omega, by go_num, rfl, HO5.out, hbr2.out⟩
                case measure => simp [intOf]; omega
          · obtain rfl : v = q := by omega
            have hO5 : OwnI wr wr2.heap.size wr.heap.size A N c' (formF (k + 1) (a :: r)) := by
              have e : ss.take v = ss := List.take_of_length_le (by have := HSL.out; omega)
              have := hO.out
              rw [e] at this
              rw [hfu.out]
              exact this
            have hN : N = n := by
              have e1 := hO5.len
              rw [form_len] at e1
              have := HLN.out
              simp at e1
              omega
            obtain ⟨g9, rfl, _⟩ := hO5.form (by omega)
            subst hN
            have HO5 := hide hO5
            clear hO5 hO
            go_wp2_with fail
            go_ret
            exact ⟨g9, c', rfl, HO5.out.wide (by omega) (Nat.le_refl _), HB2.out.trans (hbr.out.mono z2)⟩
end Go.Proofs.YtkaepjigmcielaaGreatDoor
