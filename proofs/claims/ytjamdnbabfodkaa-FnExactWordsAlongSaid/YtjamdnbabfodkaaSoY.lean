/- Words of two fields along a point: the reference's walk. -/
import Derived.Test.YtjamdnbabfodkaaSoX
import Derived.Test.YtjamdnbabfodkaaSoW
namespace Go.Proofs.Ytjamdnbabfodkaa
open Go.RowKit
set_option linter.unusedSimpArgs false
set_option linter.unusedVariables false
set_option maxRecDepth 20000

theorem MatO.wideL {w : World} {lo hi n c dim : Nat} {A : Option Addr} {gs : List Nat} {xss : List (List Int)} (h : MatO w lo hi A n c dim gs xss) {lo' : Nat} (hl : lo' ≤ lo) : MatO w lo' hi A n c dim gs xss := h.low hl
theorem OwnI.low {w : World} {lo hi n c : Nat} {A : Option Addr} {xs : List Int} (h : OwnI w lo hi A n c xs) {lo' : Nat} (hl : lo' ≤ lo) : OwnI w lo' hi A n c xs := ⟨owns_low h.own hl, h.lt, h.rng⟩
theorem own_form1 {w : World} {lo c : Nat} {A : Option Addr} {v : Value} (h : w.ownsRow lo 3 1 (.slice A 1 c) 1 [v]) : ∃ g, A = some ⟨g, 0, none⟩ := by
  rcases h.2 with ⟨_, e⟩ | ⟨g, _, _, e, _⟩
  · omega
  · injection e with e
    exact ⟨g, e⟩

set_option maxRecDepth 100000 in
set_option maxHeartbeats 16000000 in
theorem spec_WordsAlong (o : Int) (TA : Option Addr) (nt ct : Nat) (ts : List Int) (df : Int) (F : Option Addr) (kf ef : Nat) (ps : List (List Mono)) (dg : Int) (G : Option Addr) (kg eg : Nat) (qs : List (List Mono)) (Y : Option Addr) (my dy : Nat) (ys : List Int) (w : World) (h : Ints w 0 w.heap.size TA nt ct ts) (hf : Mons2 w 0 w.heap.size F kf ef ps) (hg : Mons2 w 0 w.heap.size G kg eg qs) (hy : Ints w 0 w.heap.size Y my dy ys) (hlf : ∀ p ∈ ps, ∀ m ∈ p, m.2.length ≤ 1048576) (hlg : ∀ p ∈ qs, ∀ m ∈ p, m.2.length ≤ 1048576) :
    Calls Try.prog 6 #[.agg #[.int .i64 o, .slice TA nt ct], .agg #[.int .i64 df, .slice F kf ef], .agg #[.int .i64 dg, .slice G kg eg], .slice Y my dy] w fun r w' => Below w.heap.size w w' ∧ ((okWL o ts df ps dg qs ys = false ∧ r = .returned (.slice none 0 0)) ∨ (∃ (o' dim : Nat) (A' : Option Addr) (n' c' hi : Nat) (gs : List Nat), okWL o ts df ps dg qs ys = true ∧ OkW o ts df ps dg qs ys o' dim ∧ r = .returned (.slice A' n' c') ∧ MatO w' w.heap.size hi A' n' c' dim gs (matF ts (wordV ps qs ys dim) o' dim (cntN o') dim 0) ∧ hi ≤ w'.heap.size)) := by
  obtain ⟨i2, hi2, hx0, hx1, hx2⟩ := info_parts info_rowW
  obtain ⟨i3, hi3, hy0, hy1, hy2⟩ := info_parts info_monosW
  have q1 := h.cap
  have q2 := h.max
  have q3 := hf.cap
  have q4 := hf.max
  have q5 := hg.cap
  have q6 := hg.max
  have q7 := hy.cap
  have q8 := hy.max
  have HT := hide h
  have HF := hide hf
  have HG := hide hg
  have HYy := hide hy
  have HLF := hide hlf
  have HLG := hide hlg
  have HE := hide (EnvW.start w #[.int .i64 o, .slice TA nt ct] #[.int .i64 df, .slice F kf ef] #[.int .i64 dg, .slice G kg eg] 32 36 36)
  clear h hf hg hy hlf hlg
  go_enter Try.func6, Try.ntmps6
  go_upto_region 1 with fail
  generalize ((w.alloc (.cells #[.int .i64 o, .slice TA nt ct] 32)).alloc (.cells #[.int .i64 df, .slice F kf ef] 36)).alloc (.cells #[.int .i64 dg, .slice G kg eg] 36) = W3 at HE ⊢
  go_cut [47] (fun v wx => v = .bool (!okSL o ts df ps dg qs ys) ∧ Hid (Below W3.heap.size W3 wx))
  case first =>
    as_aux_lemma =>
    have E0 := hide (And.intro HE.out (Below.refl W3.heap.size W3))
    have c00 := E0.out.1.ba.c 0 rfl
    have c01 := E0.out.1.ba.c 1 rfl
    go_wp2_with fail
    clear c00 c01
    refine (spec_WordsOk o TA nt ct ts 0 w.heap.size W3 (HT.out.below E0.out.1.low (Nat.le_refl _)) E0.out.1.low.size).mono ?_
    rintro r w1 ⟨rfl, b1⟩
    have E1 := hide (And.intro (E0.out.1.keep b1) (E0.out.2.trans (b1.mono E0.out.2.size)))
    clear b1
    cases h1 : wordsOkF o ts with
    | false =>
      go_wp2_with fail
      go_meet
      case rel => exact ⟨by have e : okSL o ts df ps dg qs ys = false := (by unfold okSL; rw [h1]; rfl); rw [e]; rfl, hide E1.out.2⟩
    | true =>
      have c10 := E1.out.1.bf.c 0 rfl
      have c11 := E1.out.1.bf.c 1 rfl
      have HPa := hide (spec_l8Fine df F kf ef ps (some ⟨w1.heap.size, 0, none⟩) 1 1 [ys] 0 (w1.heap.size + 1) (w1.alloc (.cells #[.slice Y my dy] 22)) (((HF.out.below E1.out.1.low (Nat.le_refl _)).below (below_alloc w1 (.cells #[.slice Y my dy] 22)) E1.out.1.low.size).wide (Nat.le_refl _) (by have := E1.out.1.low.size; omega)) (ints2_row (HYy.out.below E1.out.1.low (Nat.le_refl _)) E1.out.1.low.size _) (by simp) HLF.out)
      go_wp2_with fail
      refine HPa.out.mono ?_
      rintro r w2 ⟨rfl, b2'⟩
      have b2 : Below w1.heap.size w1 w2 := (below_alloc w1 (.cells #[.slice Y my dy] 22)).trans (b2'.mono (by simp))
      clear b2' HPa
      have E2 := hide (And.intro (E1.out.1.keep b2) (E1.out.2.trans (b2.mono E1.out.2.size)))
      clear b2
      clear c10 c11
      cases h2 : (fieldF df ps && pathOkF [ys] df) with
      | false =>
        go_wp2_with fail
        go_meet
        case rel => exact ⟨by have e : okSL o ts df ps dg qs ys = false := (by unfold okSL; rw [h1, h2]; rfl); rw [e]; rfl, hide E2.out.2⟩
      | true =>
        have c20 := E2.out.1.bg.c 0 rfl
        have c21 := E2.out.1.bg.c 1 rfl
        have HPa := hide (spec_l8Fine dg G kg eg qs (some ⟨w2.heap.size, 0, none⟩) 1 1 [ys] 0 (w2.heap.size + 1) (w2.alloc (.cells #[.slice Y my dy] 22)) (((HG.out.below E2.out.1.low (Nat.le_refl _)).below (below_alloc w2 (.cells #[.slice Y my dy] 22)) E2.out.1.low.size).wide (Nat.le_refl _) (by have := E2.out.1.low.size; omega)) (ints2_row (HYy.out.below E2.out.1.low (Nat.le_refl _)) E2.out.1.low.size _) (by simp) HLG.out)
        go_wp2_with fail
        refine HPa.out.mono ?_
        rintro r w3 ⟨rfl, b3'⟩
        have b3 : Below w2.heap.size w2 w3 := (below_alloc w2 (.cells #[.slice Y my dy] 22)).trans (b3'.mono (by simp))
        clear b3' HPa
        have E3 := hide (And.intro (E2.out.1.keep b3) (E2.out.2.trans (b3.mono E2.out.2.size)))
        clear b3
        clear c20 c21
        cases h3 : (fieldF dg qs && pathOkF [ys] dg) with
        | false =>
          go_wp2_with fail
          go_meet
          case rel => exact ⟨by have e : okSL o ts df ps dg qs ys = false := (by unfold okSL; rw [h1, h2, h3]; rfl); rw [e]; rfl, hide E3.out.2⟩
        | true =>
          have h2' := h2
          have h3' := h3
          simp only [Bool.and_eq_true] at h2' h3'
          obtain ⟨dF, rfl, hfp, _, hF6, _⟩ := fld_of h2'.1
          obtain ⟨dG, rfl, hgp, _, hG6, _⟩ := fld_of h3'.1
          obtain rfl : kf = dF := by have h4 := HF.out.len; have h5 := hfp.len; omega
          obtain rfl : kg = dG := by have h4 := HG.out.len; have h5 := hgp.len; omega
          have HFP := hide hfp
          have HGP := hide hgp
          have H2 := hide h2
          have H3 := hide h3
          clear hfp hgp h2 h3 h2' h3'
          have c30 := E3.out.1.bf.c 0 rfl
          have c31 := E3.out.1.bf.c 1 rfl
          go_wp2_with fail
          clear c30 c31
          refine (spec_l11Simple F kf ef ps w3 ((HF.out.below E3.out.1.low (Nat.le_refl _)).wide (Nat.le_refl _) E3.out.1.low.size) (fun p hp m hm => ⟨HLF.out p hp m hm, fun x hx => by have h4 := ((HFP.out.part p hp).2 m hm).2 x hx; omega⟩) (by omega)).mono ?_
          rintro r w4 ⟨rfl, b4⟩
          have E4 := hide (And.intro (E3.out.1.keep b4) (E3.out.2.trans (b4.mono E3.out.2.size)))
          clear b4
          cases h4 : simpF (kf : Int) ps with
          | false =>
            go_wp2_with fail
            go_meet
            case rel => exact ⟨by have e : okSL o ts (kf : Int) ps (kg : Int) qs ys = false := (by unfold okSL; rw [h1, H2.out, H3.out, h4]; rfl); rw [e]; rfl, hide E4.out.2⟩
          | true =>
            have c40 := E4.out.1.bg.c 0 rfl
            have c41 := E4.out.1.bg.c 1 rfl
            go_wp2_with fail
            clear c40 c41
            refine (spec_l11Simple G kg eg qs w4 ((HG.out.below E4.out.1.low (Nat.le_refl _)).wide (Nat.le_refl _) E4.out.1.low.size) (fun p hp m hm => ⟨HLG.out p hp m hm, fun x hx => by have h4 := ((HGP.out.part p hp).2 m hm).2 x hx; omega⟩) (by omega)).mono ?_
            rintro r w5 ⟨rfl, b5⟩
            have E5 := hide (And.intro (E4.out.1.keep b5) (E4.out.2.trans (b5.mono E4.out.2.size)))
            clear b5
            cases h5 : simpF (kg : Int) qs with
            | false =>
              go_wp2_with fail
              go_meet
              case rel => exact ⟨by have e : okSL o ts (kf : Int) ps (kg : Int) qs ys = false := (by unfold okSL; rw [h1, H2.out, H3.out, h4, h5]; rfl); rw [e]; rfl, hide E5.out.2⟩
            | true =>
              go_wp2_with fail
              go_meet
              case rel => exact ⟨by have e : okSL o ts (kf : Int) ps (kg : Int) qs ys = true := (by unfold okSL; rw [h1, H2.out, H3.out, h4, h5]; rfl); rw [e]; rfl, hide E5.out.2⟩
  case rest =>
    obtain ⟨rfl, hb⟩ := hcut
    rw [ok_same]
    have HE1 := hide (HE.out.keep hb.out)
    clear HE
    cases hok : okWL o ts df ps dg qs ys with
    | false =>
      have hB := HE1.out.low
      go_wp2_with fail
      go_ret
      exact ⟨hB, .inl ⟨hok, rfl⟩⟩
    | true =>
      obtain ⟨o, dim, K⟩ := ok_parts hok
      obtain ⟨rfl, ho⟩ := K.ord
      obtain ⟨rfl, rfl, hd0, hd3⟩ := K.dims
      have hfp := K.fps
      have hgp := K.fqs
      have hkf : dim = kf := by have h4 := HF.out.len; have h5 := hfp.len; omega
      have hkg : dim = kg := by have h4 := HG.out.len; have h5 := hgp.len; omega
      have hmy : dim = my := by have h4 := HYy.out.len; have h5 := K.pt.1; omega
      have hnt : cntN (o : Int) = nt := by have h4 := HT.out.len; have h5 := K.num.1; omega
      subst hkf hkg hmy hnt
      have HPT := hide K.pt
      have HTN := hide K.num.2
      have HOK := hide (And.intro hok K)
      have HJN : Hid (JNum 1 (turnL [ys] dim)) := by
        intro r hr
        obtain ⟨j, hj⟩ := List.mem_iff_getElem?.1 hr
        have hjd := (List.getElem?_eq_some_iff.1 hj).1
        rw [turn_len] at hjd
        rw [turn_at _ hjd] at hj
        injection hj with hj
        subst hj
        refine ⟨rfl, fun x hx => ?_⟩
        obtain rfl : x = ys.getD j 0 := by simpa using hx
        have hl := HPT.out.1
        have e : ys[j]? = some ys[j] := List.getElem?_eq_getElem (by omega)
        rw [List.getD, e]
        exact HPT.out.2 _ (List.mem_of_getElem? e)
      have hcnt := cntN_bd (o := o) (by omega)
      clear hb hok K
      have hzc := HE1.out.size
      have HM0 := hide (MatO.empty wc (w.heap.size + 3) dim hzc)
      have HE2 := hide (HE1.out.keep (below_alloc wc (.cells #[] 22)))
      go_wp2_with fail
      clear HE1
      have hsz5 : (wc.alloc (.cells #[] 22)).heap.size = wc.heap.size + 1 := by simp
      rw [← hsz5] at HM0
      clear hsz5
      generalize wc.alloc (.cells #[] 22) = W5 at HM0 HE2 ⊢
      go_loopw [9, 10] (fun u i wr => ∃ (k c' : Nat) (A' : Option Addr) (gs : List Nat), k ≤ o + 1 ∧ i = .int .i64 k ∧ u = .slice A' k c' ∧ Hid (MatO wr (w.heap.size + 3) wr.heap.size A' k c' dim gs (List.replicate k (zeroJ dim))) ∧ Hid (EnvW w wr #[.int .i64 o, .slice TA (cntN o) ct] #[.int .i64 dim, .slice F dim ef] #[.int .i64 dim, .slice G dim eg])) (fun _ i _ => o + 1 - (intOf i).toNat)
      case atStart => exact ⟨0, 0, _, [], by omega, rfl, rfl, HM0.out, HE2.out⟩
      case round =>
        clear HM0 HE2
        obtain ⟨k, c', A', gs, hk, rfl, rfl, hM, hE⟩ := hrel
        have c0 := hE.out.ba.c 0 rfl
        by_cases hle : k ≤ o
        · have hle2 : (k : Int) ≤ (o : Int) := by omega
          have hmk := make_ints dim (by omega) wr
          have c1 := hE.out.bf.c 0 rfl
          have hcb := hM.out.capb
          have hzw := hE.out.size
          have hOw := owns_below hM.out.own (below_alloc wr (.cells (zeros dim) 3)) (fun ad e => (owns_lt hM.out.own ad e).2)
          have HOW := hide hOw
          clear hOw
          go_wp2_with (at_builtin; refine wpl_app1b rfl (.tmp 55) (.tmp 59) 30 rfl (w.heap.size + 3) 22 i2 (.slice none 0 0) 1 24 Try.underlying30 hi2 hx0 hx1 hx2 rfl (by omega) (wr.alloc (.cells (zeros dim) 3)) #[.slice (some ⟨wr.heap.size, 0, none⟩) dim dim] _ (by simp) A' k c' 1 _ rfl rfl HOW.out rfl (by simp [Value.oneCell']) (by omega) (by omega) (by simp; omega) ?_; intro A2 c2 w2 happ hlt2)
          have hM2 := hide (hM.out.push (Nat.le_refl _) (by omega) (by omega) happ)
          have hE2 : Hid (EnvW w w2 #[.int .i64 o, .slice TA (cntN o) ct] #[.int .i64 dim, .slice F dim ef] #[.int .i64 dim, .slice G dim eg]) := hE.out.below ((happ.low ((below_alloc wr (.cells (zeros dim) 3)).mono hzw) (by simp; omega) (Nat.le_refl _) HOW.out)) (Nat.le_refl _)
          have hrp : List.replicate k (zeroJ dim) ++ [zeroJ dim] = List.replicate (k + 1) (zeroJ dim) := by rw [← List.replicate_succ']
          rw [hrp] at hM2
          clear happ hM hE HOW hmk c0 c1 hrp
          go_wp2_with fail
          go_roundw
          case rel => exact ⟨k + 1, by omega, by go_num, c2, A2, ⟨rfl, rfl, rfl⟩, ⟨_, hM2.out⟩, hE2.out⟩
          case measure => simp [intOf]; omega
        · have hle2 : ¬ (k : Int) ≤ (o : Int) := by omega
          have HK : Hid (k = o + 1) := by show k = o + 1; omega
          have hrep : List.replicate k (zeroJ dim) = (matF ts (wordV ps qs ys dim) o dim (cntN o) 0 0) := by rw [mat_zero, HK.out]
          rw [hrep] at hM
          have hcM := hM.out.capb
          obtain ⟨gA, rfl, hgA1, hgA2⟩ := hM.out.form (by omega)
          go_wp2_with fail
          clear c0 hrep
          obtain ⟨gf, hgf⟩ : ∃ z, z = wr.heap.size := ⟨_, rfl⟩
          rw [← hgf] at hM hgA2
          have hgf2 : gf ≤ wr.heap.size := by omega
          have hgf3 : w.heap.size + 3 ≤ gf := by have := hE.out.size; omega
          clear hgf
          go_loopw [11] (fun i wr => ∃ (d : Nat), d ≤ dim ∧ i = .int .i64 d ∧ Hid (MatO wr (w.heap.size + 3) gf (some ⟨gA, 0, none⟩) k c' dim gs (matF ts (wordV ps qs ys dim) o dim (cntN o) d 0)) ∧ Hid (EnvW w wr #[.int .i64 o, .slice TA (cntN o) ct] #[.int .i64 dim, .slice F dim ef] #[.int .i64 dim, .slice G dim eg]) ∧ gf ≤ wr.heap.size) (fun i _ => dim - (intOf i).toNat)
          case atStart => exact ⟨0, by omega, rfl, hM.out, hE.out, hgf2⟩
          case round =>
            clear hM hE hgf2
            obtain ⟨d, hd, rfl, hM, hE, hgfw⟩ := hrel
            have c0 := hE.out.bf.c 0 rfl
            by_cases hlt : d < dim
            · have hlt' : (d : Int) < (dim : Int) := by omega
              go_upto_region 11 with fail
              clear c0
              have hmk := make_ints dim (by omega) wr
              have c1 := hE.out.bf.c 0 rfl
              have hz0 : (wr.alloc (.cells (zeros dim) 3)).ownsRow wr.heap.size 3 1 (.slice (some ⟨wr.heap.size, 0, none⟩) dim dim) dim ((zeroJ dim).map (Value.int .i64)) := owns_zeros wr dim (by omega) (Nat.le_refl _)
              have a1 := below_alloc wr (.cells (zeros dim) 3)
              have a2 := below_alloc (wr.alloc (.cells (zeros dim) 3)) (.cells #[.int .i64 1, .slice (some ⟨wr.heap.size, 0, none⟩) dim dim] 53)
              have j2 := BlkN.new (wr.alloc (.cells (zeros dim) 3)) #[.int .i64 1, .slice (some ⟨wr.heap.size, 0, none⟩) dim dim] 53
              have zz : (wr.alloc (.cells (zeros dim) 3)).heap.size = wr.heap.size + 1 := by simp
              rw [zz] at j2
              have hz2 := owns_below hz0 a2 (fun ad e => (owns_lt hz0 ad e).2)
              have b10 := a1.trans (a2.mono a1.size)
              have hs10 : wr.heap.size + 1 < ((wr.alloc (.cells (zeros dim) 3)).alloc (.cells #[.int .i64 1, .slice (some ⟨wr.heap.size, 0, none⟩) dim dim] 53)).heap.size := by simp
              have HZ2 := hide hz2
              have HB10 := hide b10
              have HJ2 := hide j2
              clear hz0 a1 a2 j2 zz hz2 b10
              go_upto_region 12 with fail
              clear hmk c1
              generalize (wr.alloc (.cells (zeros dim) 3)).alloc (.cells #[.int .i64 1, .slice (some ⟨wr.heap.size, 0, none⟩) dim dim] 53) = W10 at HZ2 HB10 HJ2 hs10 ⊢
              have y1 := HJ2.out.c 1 rfl
              have y2 := (HZ2.out.cellAt d (by omega)).trans (by rw [List.getElem?_map]; simp [zeroJ, hlt] : ((zeroJ dim).map (Value.int .i64))[d]? = some (.int .i64 0))
              have y3 := HZ2.out.frozenAt d
              have hst := (HZ2.out.stored d (.int .i64 1)).1
              rw [← List.map_set] at hst
              have hb11 := HB10.out.setCell (p := ⟨wr.heap.size, d, none⟩) (Nat.le_refl _) (.int .i64 1)
              have hj11 := HJ2.out.far (b := wr.heap.size) (i := d) (by omega) (.int .i64 1)
              have hs11 : wr.heap.size + 1 < (W10.setCell ⟨wr.heap.size, d, none⟩ (.int .i64 1)).heap.size := by simpa [World.setCell] using hs10
              have HST := hide hst
              have HB11 := hide hb11
              have HJ11 := hide hj11
              have HS11 := hide hs11
              clear hst hb11 hj11 hs11 hs10
              go_upto_region 13 with fail
              clear y1 y2 y3
              generalize W10.setCell ⟨wr.heap.size, d, none⟩ (.int .i64 1) = W11 at HST HB11 HJ11 HS11 ⊢
              clear HZ2 HB10 HJ2
              have r0 := HJ11.out.c 0 rfl
              have r1 := HJ11.out.c 1 rfl
              have a3 := below_alloc W11 (.cells #[.int .i64 1, .slice (some ⟨wr.heap.size, 0, none⟩) dim dim] 53)
              have j3 := BlkN.new W11 #[.int .i64 1, .slice (some ⟨wr.heap.size, 0, none⟩) dim dim] 53
              have hb12 := HB11.out.trans (a3.mono HB11.out.size)
              have hz12 := owns_below HST.out a3 (fun ad e => (owns_lt HST.out ad e).2)
              have HB12 := hide hb12
              have hrd : kMo.rd (W11.alloc (.cells #[.int .i64 1, .slice (some ⟨wr.heap.size, 0, none⟩) dim dim] 53)) wr.heap.size (W11.alloc (.cells #[.int .i64 1, .slice (some ⟨wr.heap.size, 0, none⟩) dim dim] 53)).heap.size (.slice (some ⟨W11.heap.size, 0, none⟩) 1 1) [unitM dim d] := by
                refine ⟨_, 1, 1, rfl, rfl, Nat.le_refl _, by omega, fun _ => ⟨_, rfl, HB11.out.size, j3.lt, fun q m hm => ?_⟩⟩
                have hq : q = 0 := by
                  have := (List.getElem?_eq_some_iff.1 hm).1
                  simpa using this
                subst hq
                obtain rfl : unitM dim d = m := by simpa using hm
                have hO : OwnI (W11.alloc (.cells #[.int .i64 1, .slice (some ⟨wr.heap.size, 0, none⟩) dim dim] 53)) wr.heap.size (W11.alloc (.cells #[.int .i64 1, .slice (some ⟨wr.heap.size, 0, none⟩) dim dim] 53)).heap.size (some ⟨wr.heap.size, 0, none⟩) dim dim ((zeroJ dim).set d 1) := ⟨hz12, fun ad e => (owns_lt hz12 ad e).2, fun x hx => by
                  rcases List.mem_or_eq_of_mem_set hx with h1 | h1
                  · have : x = 0 := by simp [zeroJ] at h1; exact h1.2
                    subst this; constructor <;> omega
                  · rw [h1]; constructor <;> omega⟩
                exact ⟨j3.c 0 rfl, by constructor <;> simp [unitM], some ⟨wr.heap.size, 0, none⟩, dim, dim, j3.c 1 rfl, hO.ints⟩
              have hL0 := Lst.one kMo 54 (fun _ => True) (W11.alloc (.cells #[.int .i64 1, .slice (some ⟨wr.heap.size, 0, none⟩) dim dim] 53)) hrd (Nat.le_refl _) (Nat.le_refl _) hb12.size
              have a4 := below_alloc (W11.alloc (.cells #[.int .i64 1, .slice (some ⟨wr.heap.size, 0, none⟩) dim dim] 53)) (.cells #[.slice (some ⟨W11.heap.size, 0, none⟩) 1 1] 54)
              have hb13 := hb12.trans (a4.mono hb12.size)
              have zz4 : ((W11.alloc (.cells #[.int .i64 1, .slice (some ⟨wr.heap.size, 0, none⟩) dim dim] 53)).alloc (.cells #[.slice (some ⟨W11.heap.size, 0, none⟩) 1 1] 54)).heap.size = (W11.alloc (.cells #[.int .i64 1, .slice (some ⟨wr.heap.size, 0, none⟩) dim dim] 53)).heap.size + 1 := by simp
              rw [← zz4] at hL0
              have hsz := hb13.size
              have hM4 := hide (hM.out.below hb13 (by omega))
              have hE4 := hide (hE.out.keep hb13)
              have HL0 := hide hL0
              have hL7 : wr.heap.size < ((W11.alloc (.cells #[.int .i64 1, .slice (some ⟨wr.heap.size, 0, none⟩) dim dim] 53)).alloc (.cells #[.slice (some ⟨W11.heap.size, 0, none⟩) 1 1] 54)).heap.size := by
                have := hb12.size
                omega
              clear hrd hL0 a4 hb13 zz4 hsz a3 j3 hb12 hz12 hM hE
              go_upto_region 14 with fail
              clear r0 r1 HST HB11 HJ11 HS11 HB12
              have zz12 : (W11.alloc (.cells #[.int .i64 1, .slice (some ⟨wr.heap.size, 0, none⟩) dim dim] 53)).heap.size = W11.heap.size + 1 := by simp
              rw [zz12] at HL0
              clear zz12
              generalize (W11.alloc (.cells #[.int .i64 1, .slice (some ⟨wr.heap.size, 0, none⟩) dim dim] 53)).alloc (.cells #[.slice (some ⟨W11.heap.size, 0, none⟩) 1 1] 54) = W13 at HL0 hM4 hE4 hL7 ⊢
              obtain ⟨L7, hL7e⟩ : ∃ z, z = wr.heap.size := ⟨_, rfl⟩
              rw [← hL7e] at HL0 hL7 hgfw ⊢
              clear hL7e
              have HMd0 : Hid (∀ (q : Nat) (m : List Mono), ([[unitM dim d]] : List (List Mono))[q]? = some m → MadeP ps qs dim d (wordL q) m) := fun q m hm => by
                have hq : q = 0 := by
                  have := (List.getElem?_eq_some_iff.1 hm).1
                  simpa using this
                subst hq
                obtain rfl : [unitM dim d] = m := by simpa using hm
                rw [wordL_zero]
                exact unitM_made ps qs dim d
              go_wp2_with fail
              go_loopw [13, 14] (fun u i wr => ∃ (p c2 : Nat) (A2 : Option Addr) (vs : List Value) (made : List (List Mono)), 1 ≤ p ∧ p ≤ cntN (o : Int) ∧ i = .int .i64 p ∧ u = .slice A2 p c2 ∧ Hid (Lst kMo 54 (fun _ => True) wr L7 wr.heap.size A2 p c2 vs made) ∧ Hid (∀ (q : Nat) (m : List Mono), made[q]? = some m → MadeP ps qs dim d (wordL q) m) ∧ Hid (MatO wr (w.heap.size + 3) gf (some ⟨gA, 0, none⟩) k c' dim gs (matF ts (wordV ps qs ys dim) o dim (cntN o) d 0)) ∧ Hid (EnvW w wr #[.int .i64 o, .slice TA (cntN o) ct] #[.int .i64 dim, .slice F dim ef] #[.int .i64 dim, .slice G dim eg]) ∧ L7 < wr.heap.size) (fun _ i _ => cntN (o : Int) - (intOf i).toNat)
              case atStart => exact ⟨1, 1, _, _, _, by omega, by omega, rfl, rfl, HL0.out, HMd0, hM4.out, hE4.out, hL7⟩
              case round =>
                clear HL0 HMd0 hM4 hE4 hL7
                obtain ⟨p, c2, A2, vs, made, hp1, hp, rfl, rfl, hLst, hMd, hM, hE, hL7s⟩ := hrel
                have ca1 := hE.out.ba.c 1 rfl
                by_cases hlt2 : p < cntN (o : Int)
                · go_upto_region 17 with fail
                  clear ca1
                  obtain ⟨x, t, q, hwl, hqp, hwq, hx01⟩ := word_tail p (by omega)
                  have HW := hide (spec_l11Word p wr (by omega))
                  have hcL := hLst.out.capb
                  go_wp2_with fail
                  refine HW.out.mono ?_
                  rintro r w9 ⟨gw, cw, rfl, hOw, hb9⟩
                  clear HW
                  have hlp := wordL_len5 (p := p) (by omega)
                  have hz9 := hb9.size
                  have hLst9 := hide (hLst.out.below hb9 (Nat.le_refl _))
                  have hM9 := hide (hM.out.below hb9 (by omega))
                  have hE9 := hide (hE.out.keep hb9)
                  have HOw := hide hOw
                  have hcw := hOw.cap
                  have hcw2 := hOw.max
                  obtain ⟨Lw, hLw⟩ : ∃ z, z = (wordL p).length := ⟨_, rfl⟩
                  rw [← hLw] at HOw hcw hlp ⊢
                  have HLW := hide hLw
                  have hw1 : 1 ≤ Lw := by
                    have h := hLw
                    rw [hwl] at h
                    simp at h
                    omega
                  have htl : t.length + 1 = Lw := by
                    have h := hLw
                    rw [hwl] at h
                    simp at h
                    omega
                  have hT1 : Ints w9 wr.heap.size w9.heap.size (if cw = 1 then some ⟨gw, 0, none⟩ else some ⟨gw, 1, none⟩) (Lw - 1) (cw - 1) t := by
                    have h := HOw.out.ints
                    rw [hwl] at h
                    exact h.tail_if
                  have hpl : placeF t = q := by
                    have h := place_tail (q := q) (by rw [hwq]; omega)
                    rwa [hwq] at h
                  obtain ⟨gm, rfl, hgm1, hgm2, _⟩ := hLst9.out.form (by omega : 0 < p)
                  obtain ⟨v, l, h', m, hcv, hrd, hl1, hl2, hmx⟩ := hLst9.out.at_ (k := q) (by omega) trivial
                  obtain ⟨Bm, nm, cm, rfl, hMm⟩ := hrd
                  have hMd1 := hMd.out q m hmx.out
                  rw [hwq] at hMd1
                  have hnm : nm ≤ 2000000000 := by
                    have h1 := hMm.len
                    have h2 := hMd1.len
                    have h3 := pow36 (L := t.length) (by omega)
                    omega
                  have hnm2 := hMm.len
                  have hpw : Hid (∀ a ∈ m, a.2.length = dim ∧ ∀ x ∈ a.2, 0 ≤ x ∧ x ≤ 1048576) := fun a ha => ⟨(hMd1.pow a ha).1, fun x hx => by have := (hMd1.pow a ha).2 x hx; omega⟩
                  have hcw0 : w9.cell? ⟨gw, 0, none⟩ = some (.int .i64 x) := (hOw.own.cellAt 0 (by omega)).trans (by rw [hwl]; rfl)
                  have HMd1 := hide hMd1
                  have HMm := hide hMm
                  have HT1 := hide hT1
                  have hwlH := hide hwl
                  obtain ⟨TT, hTT⟩ : ∃ z, z = (if cw = 1 then (some ⟨gw, 0, none⟩ : Option Addr) else some ⟨gw, 1, none⟩) := ⟨_, rfl⟩
                  obtain ⟨L1, hL1⟩ : ∃ z, z = Lw - 1 := ⟨_, rfl⟩
                  obtain ⟨c1, hc1⟩ : ∃ z, z = cw - 1 := ⟨_, rfl⟩
                  rw [← hTT, ← hL1, ← hc1] at HT1
                  have HTT := hide (And.intro hTT (And.intro hL1 hc1))
                  have hLw1 : ¬ ((Lw : Int) < 1) := by omega
                  have hLw0 : 0 < Lw := by omega
                  have hLwn : ¬ Lw = 0 := by omega
                  have HPL := hide hpl
                  clear hTT hL1 hc1 hMm hMd1 hT1 hwl hwq hmx hLst hM hE hOw hLw hpl
                  have c90 := hE9.out.bf.c 0 rfl
                  have c91 := hE9.out.bf.c 1 rfl
                  have c92 := hE9.out.bg.c 0 rfl
                  have c93 := hE9.out.bg.c 1 rfl
                  have aF := below_alloc w9 (.cells #[.int .i64 dim, .slice F dim ef] 36)
                  have jF := BlkN.new w9 #[.int .i64 dim, .slice F dim ef] 36
                  rcases hx01 with rfl | rfl
                  · as_aux_lemma =>
                    have HBF := hide aF
                    have HJF := hide jF
                    have hcw1 := (aF.cell (p := ⟨gw, 0, none⟩) (World.block_lt_of_cell? _ _ hcw0)).trans hcw0
                    clear aF jF
                    go_upto_region 21 with fail
                    clear hcw1 c90 c91 c92 c93
                    obtain ⟨WF, hWF⟩ : ∃ z, z = w9.alloc (.cells #[.int .i64 dim, .slice F dim ef] 36) := ⟨_, rfl⟩
                    rw [← hWF] at HBF HJF ⊢
                    clear hWF
                    have hbV := HBF.out.trans (Below.drew (Below.refl WF.heap.size WF) |>.mono HBF.out.size)
                    have hVz : WF.drew.heap.size ≤ WF.heap.size ∧ WF.heap.size ≤ WF.drew.heap.size := ⟨Nat.le_refl _, Nat.le_refl _⟩
                    have hzF := HBF.out.size
                    have hLV := hide (hLst9.out.below hbV hz9)
                    have hMV := hide (hM9.out.below hbV (by omega))
                    have hEV := hide (hE9.out.keep hbV)
                    have HMmV := hide (HMm.out.below hbV (by omega))
                    have HTV := hide (HT1.out.below hbV (Nat.le_refl _))
                    have HBV := hide hbV
                    have HJV := hide HJF.out.drew
                    have hcvV := (hbV.cell (p := ⟨gm, q, none⟩) (World.block_lt_of_cell? _ _ hcv)).trans hcv
                    have hcwV := (hbV.cell (p := ⟨gw, 0, none⟩) (World.block_lt_of_cell? _ _ hcw0)).trans hcw0
                    clear hbV hcv hcw0
                    refine wp_region_Z (fun W' => W'.cell? ⟨w9.heap.size, 0, none⟩ = some (.int .i64 dim) ∧ W'.cell? ⟨w9.heap.size, 1, none⟩ = some (.slice F dim ef)) 11 (by kernel_rfl) ?_
                    simp only [List.size_toArray, List.length_cons, List.length_nil, Nat.reduceAdd]
                    have hS0 : WF.drew.cell? ⟨w9.heap.size, 0, none⟩ = some (.int .i64 dim) ∧ WF.drew.cell? ⟨w9.heap.size, 1, none⟩ = some (.slice F dim ef) := ⟨HJV.out.c 0 rfl, HJV.out.c 1 rfl⟩
                    have hB0 : Below WF.drew.heap.size WF.drew WF.drew := Below.refl _ _
                    have HP : Hid (Calls Try.prog 27 #[.slice TT L1 c1] WF.drew fun e w' => e = .returned (.int .i64 (q : Int)) ∧ WF.drew = w') := by
                      show Calls _ _ _ _ _
                      rw [← HPL.out]
                      exact spec_PlaceOfWord _ _ _ _ _ _ _ HTV.out
                    generalize WF.drew = V at hLV hMV hEV HMmV HTV HBV HJV hcvV hcwV hS0 hB0 HP hVz ⊢
                    clear HBF HJF hLst9 hM9 hE9 HMm HT1 hcwV
                    refine wpAnyZ_takeW 0 (.slice (some ⟨gm, 0, none⟩) p c2) rfl (by kernel_rfl) (by kernel_rfl) (fun _ _ _ h => h) (by rfl) (fun _ => by first | (simp [go_sem]; done) | go_simp) hS0 ?_
                    try simp only [Act.put, List.setIfInBounds_toArray, List.set_cons_zero, List.set_cons_succ, List.getElem_toArray, List.getElem_cons_zero, List.getElem_cons_succ]
                    refine wpAnyZ_takeW 1 (.slice (some ⟨gm, 0, none⟩) p c2) rfl (by kernel_rfl) (by kernel_rfl) (fun _ _ _ h => h) (by rfl) (fun _ => by first | (simp [go_sem]; done) | go_simp) hS0 ?_
                    try simp only [Act.put, List.setIfInBounds_toArray, List.set_cons_zero, List.set_cons_succ, List.getElem_toArray, List.getElem_cons_zero, List.getElem_cons_succ]
                    refine wpAnyZ_takeW 2 (.slice (some ⟨gw, 0, none⟩) Lw cw) rfl (by kernel_rfl) (by kernel_rfl) (fun _ _ _ h => h) (by rfl) (fun _ => by first | (simp [go_sem]; done) | go_simp) hS0 ?_
                    try simp only [Act.put, List.setIfInBounds_toArray, List.set_cons_zero, List.set_cons_succ, List.getElem_toArray, List.getElem_cons_zero, List.getElem_cons_succ]
                    refine wpAnyZ_takeW 3 (.slice TT L1 c1) rfl (by kernel_rfl) (by kernel_rfl) (fun _ _ _ h => h) (by rfl) (fun _ => by have h1 := HTT.out.1; have h2 := HTT.out.2.1; have h3 := HTT.out.2.2; simp [go_sem, hLw1, hLw0, hLwn, h1, h2, h3]) hS0 ?_
                    try simp only [Act.put, List.setIfInBounds_toArray, List.set_cons_zero, List.set_cons_succ, List.getElem_toArray, List.getElem_cons_zero, List.getElem_cons_succ]
                    refine wpAnyZ_take 7 (.agg #[.int .i64 dim, .slice F dim ef]) rfl (by kernel_rfl) (by kernel_rfl) (fun _ _ _ h => h) (by rfl) (fun _ hS => by have q0 := hS.1; have q1 := hS.2; clear hS; first | (simp [go_sem, q0, q1]; done) | go_simp) hS0 ?_
                    try simp only [Act.put, List.setIfInBounds_toArray, List.set_cons_zero, List.set_cons_succ, List.getElem_toArray, List.getElem_cons_zero, List.getElem_cons_succ]
                    refine wpAnyZ_one 4 (by kernel_rfl) rfl (by rfl) (fun K hK => ?_)
                    go_simp
                    refine (HP.out).mono ?_
                    rintro e x1 ⟨rfl, rfl⟩
                    clear HP
                    go_wp2_with fail
                    refine hK.out _ _ hS0 ?_
                    clear hK K
                    try simp only [Act.put, List.setIfInBounds_toArray, List.set_cons_zero, List.set_cons_succ, List.getElem_toArray, List.getElem_cons_zero, List.getElem_cons_succ]
                    refine wpAnyZ_takeW 5 (.pointer (some ⟨gm, q, none⟩)) rfl (by kernel_rfl) (by kernel_rfl) (fun _ _ _ h => h) (by rfl) (fun _ => by first | (simp [go_sem]; done) | go_simp) hS0 ?_
                    try simp only [Act.put, List.setIfInBounds_toArray, List.set_cons_zero, List.set_cons_succ, List.getElem_toArray, List.getElem_cons_zero, List.getElem_cons_succ]
                    refine wpAnyZ_one 6 (by kernel_rfl) rfl (by rfl) (fun K hK => ?_)
                    have qe6_0 := hcvV
                    go_simp
                    refine hK.out _ _ hS0 ?_
                    clear hK K qe6_0
                    try simp only [Act.put, List.setIfInBounds_toArray, List.set_cons_zero, List.set_cons_succ, List.getElem_toArray, List.getElem_cons_zero, List.getElem_cons_succ]
                    refine wpAnyZ_one 8 (by kernel_rfl) rfl (by rfl) (fun K hK => ?_)
                    go_simp
                    refine (spec_l11Change Bm nm cm m F dim ef ps V (HMmV.out.wide (Nat.zero_le _) (by omega)) ((HF.out.below hEV.out.low (Nat.le_refl _)).wide (Nat.le_refl _) hEV.out.low.size) hnm hd0 (by omega) hpw.out (fun r hr => ⟨(hfp.part r hr).1, fun a ha => ⟨((hfp.part r hr).2 a ha).1, fun x hx => by have := ((hfp.part r hr).2 a ha).2 x hx; omega⟩⟩)).mono ?_
                    rintro e x2 ⟨A5, n5, c5, rfl, hM5, hn5, hG5, hb5⟩
                    have HM5 := hide hM5
                    have HC5 := hide (And.intro hn5 hG5)
                    have hB5 := hB0.trans hb5
                    have hz5 := hB5.size
                    have hS2 := (And.intro ((hb5.cell (p := ⟨w9.heap.size, 0, none⟩) (World.block_lt_of_cell? _ _ hS0.1)).trans hS0.1) ((hb5.cell (p := ⟨w9.heap.size, 1, none⟩) (World.block_lt_of_cell? _ _ hS0.2)).trans hS0.2))
                    clear hM5 hn5 hG5 hb5
                    go_wp2_with fail
                    refine hK.out _ _ hS2 ?_
                    clear hK K
                    try simp only [Act.put, List.setIfInBounds_toArray, List.set_cons_zero, List.set_cons_succ, List.getElem_toArray, List.getElem_cons_zero, List.getElem_cons_succ]
                    refine wpAnyZ_one 9 (by kernel_rfl) rfl (by rfl) (fun K hK => ?_)
                    go_simp
                    have hS3 := (And.intro (((below_alloc x2 (.cells #[.slice A5 n5 c5] 54)).cell (p := ⟨w9.heap.size, 0, none⟩) (World.block_lt_of_cell? _ _ hS2.1)).trans hS2.1) (((below_alloc x2 (.cells #[.slice A5 n5 c5] 54)).cell (p := ⟨w9.heap.size, 1, none⟩) (World.block_lt_of_cell? _ _ hS2.2)).trans hS2.2))
                    refine hK.out _ _ hS3 ?_
                    clear hK K
                    try simp only [Act.put, List.setIfInBounds_toArray, List.set_cons_zero, List.set_cons_succ, List.getElem_toArray, List.getElem_cons_zero, List.getElem_cons_succ]
                    refine wpAnyZ_one 10 (by kernel_rfl) rfl (by rfl) (fun K hK => ?_)
                    have HL5 := hide (hLV.out.below hB5 (by omega))
                    have hL75 : L7 ≤ x2.heap.size := by omega
                    refine owp_appJ (.tmp 93) (.tmp 102) 34 rfl L7 54 i3 (.slice none 0 0) 1 24 Try.underlying34 hi3 hy0 hy1 hy2 rfl (by omega) x2 #[.slice A5 n5 c5] _ rfl (some ⟨gm, 0, none⟩) p c2 1 _ rfl rfl HL5.out.own rfl (by simp [Value.oneCell']) (by omega) (by omega) hL75 ?_
                    intro A3 c3 w13 happ hlt13
                    have hL13 := hide (HL5.out.push (show kMo.rd x2 V.heap.size x2.heap.size (.slice A5 n5 c5) (chGo m [] 0 ps) from ⟨_, _, _, rfl, HM5.out⟩) (by omega) (Nat.le_refl _) (by omega) (by omega) happ)
                    have hB9 : Below w9.heap.size w9 x2 := HBV.out.trans (hB5.mono (by omega))
                    have hBV2 : Below L7 V w13 := happ.low (hB5.mono (by omega)) hL75 (Nat.le_refl _) HL5.out.own
                    have hM13 := hide (hMV.out.below hBV2 (by omega))
                    have hE13 := hide (hEV.out.below hBV2 (by have := hgfw; omega))
                    have hz13 := hBV2.size
                    have hP13 : Hid (MadeP ps qs dim d (wordL p) (chGo m [] 0 ps)) := by
                      show MadeP _ _ _ _ _ _
                      rw [hwlH.out]
                      exact made_ch hd3 hfp hgp HMd1.out (x := 0) HC5.out.2 (by have h1 := HC5.out.1; have h2 := HM5.out.len; rw [← hnm2] at h1; exact Nat.le_trans (Nat.le_of_eq h2) h1)
                    have hblk : w13.heap[w9.heap.size]? = x2.heap[w9.heap.size]? := happ.2.1.block w9.heap.size (by have := HJV.out.lt; omega) (fun e => by obtain ⟨ad, e1, e2⟩ := ownBlock_eq.1 e.symm; have h1 := hLV.out.lt ad e1; have h2 := HJV.out.lt; omega)
                    have hJ13 : BlkN w13 w9.heap.size #[.int .i64 dim, .slice F dim ef] := (HJV.out.below hB5).same hblk
                    have hS4 : w13.cell? ⟨w9.heap.size, 0, none⟩ = some (.int .i64 dim) ∧ w13.cell? ⟨w9.heap.size, 1, none⟩ = some (.slice F dim ef) := ⟨hJ13.c 0 rfl, hJ13.c 1 rfl⟩
                    clear HL5 hB9 hB5 hS3 hblk hJ13
                    refine hK.out _ _ hS4 ?_
                    clear hK K
                    try simp only [Act.put, List.setIfInBounds_toArray, List.set_cons_zero, List.set_cons_succ, List.getElem_toArray, List.getElem_cons_zero, List.getElem_cons_succ]
                    refine wpAnyZ_last (by kernel_rfl) rfl (by kernel_rfl) (by rfl) (fun K hK => ?_)
                    clear hS4
                    go_simp
                    refine hK _ _ ?_
                    clear hK K
                    have hlen9 := hLV.out.len
                    have hMdx : Hid (∀ (j : Nat) (m' : List Mono), (made ++ [chGo m [] 0 ps])[j]? = some m' → MadeP ps qs dim d (wordL j) m') := fun j m' hm => by
                      by_cases hj : j < made.length
                      · rw [List.getElem?_append_left hj] at hm
                        exact hMd.out j m' hm
                      · have hj2 := (List.getElem?_eq_some_iff.1 hm).1
                        simp at hj2
                        obtain rfl : j = p := by omega
                        rw [List.getElem?_append_right (by omega), hlen9] at hm
                        obtain rfl : chGo m [] 0 ps = m' := by simpa using hm
                        exact hP13.out
                    clear happ
                    go_wp2_with fail
                    go_roundw
                    case rel => exact ⟨p + 1, c3, A3, _, _, by omega, by omega, by go_num, rfl, hL13.out, hMdx, hM13.out, hE13.out, by omega⟩
                    case measure => simp [intOf]; omega
                  · as_aux_lemma =>
                    have hcw1 := (aF.cell (p := ⟨gw, 0, none⟩) (World.block_lt_of_cell? _ _ hcw0)).trans hcw0
                    have u2 := (aF.cell (p := ⟨w.heap.size + 1 + 1, 0, none⟩) (World.block_lt_of_cell? _ _ c92)).trans c92
                    have u3 := (aF.cell (p := ⟨w.heap.size + 1 + 1, 1, none⟩) (World.block_lt_of_cell? _ _ c93)).trans c93
                    have v0 := jF.c 0 rfl
                    have v1 := jF.c 1 rfl
                    have f0 := jF.f 0
                    have f1 := jF.f 1
                    have HBF := hide (below_alloc w9 (.cells #[.int .i64 dim, .slice G dim eg] 36))
                    have HJF := hide (BlkN.new w9 #[.int .i64 dim, .slice G dim eg] 36)
                    clear jF aF
                    go_upto_region 21 with fail
                    clear hcw1 c90 c91 c92 c93 u2 u3 v0 v1 f0 f1
                    obtain ⟨WF, hWF⟩ : ∃ z, z = w9.alloc (.cells #[.int .i64 dim, .slice G dim eg] 36) := ⟨_, rfl⟩
                    rw [← hWF] at HBF HJF ⊢
                    clear hWF
                    have hbV := HBF.out.trans (Below.drew (Below.refl WF.heap.size WF) |>.mono HBF.out.size)
                    have hVz : WF.drew.heap.size ≤ WF.heap.size ∧ WF.heap.size ≤ WF.drew.heap.size := ⟨Nat.le_refl _, Nat.le_refl _⟩
                    have hzF := HBF.out.size
                    have hLV := hide (hLst9.out.below hbV hz9)
                    have hMV := hide (hM9.out.below hbV (by omega))
                    have hEV := hide (hE9.out.keep hbV)
                    have HMmV := hide (HMm.out.below hbV (by omega))
                    have HTV := hide (HT1.out.below hbV (Nat.le_refl _))
                    have HBV := hide hbV
                    have HJV := hide HJF.out.drew
                    have hcvV := (hbV.cell (p := ⟨gm, q, none⟩) (World.block_lt_of_cell? _ _ hcv)).trans hcv
                    have hcwV := (hbV.cell (p := ⟨gw, 0, none⟩) (World.block_lt_of_cell? _ _ hcw0)).trans hcw0
                    clear hbV hcv hcw0
                    refine wp_region_Z (fun W' => W'.cell? ⟨w9.heap.size, 0, none⟩ = some (.int .i64 dim) ∧ W'.cell? ⟨w9.heap.size, 1, none⟩ = some (.slice G dim eg)) 11 (by kernel_rfl) ?_
                    simp only [List.size_toArray, List.length_cons, List.length_nil, Nat.reduceAdd]
                    have hS0 : WF.drew.cell? ⟨w9.heap.size, 0, none⟩ = some (.int .i64 dim) ∧ WF.drew.cell? ⟨w9.heap.size, 1, none⟩ = some (.slice G dim eg) := ⟨HJV.out.c 0 rfl, HJV.out.c 1 rfl⟩
                    have hB0 : Below WF.drew.heap.size WF.drew WF.drew := Below.refl _ _
                    have HP : Hid (Calls Try.prog 27 #[.slice TT L1 c1] WF.drew fun e w' => e = .returned (.int .i64 (q : Int)) ∧ WF.drew = w') := by
                      show Calls _ _ _ _ _
                      rw [← HPL.out]
                      exact spec_PlaceOfWord _ _ _ _ _ _ _ HTV.out
                    generalize WF.drew = V at hLV hMV hEV HMmV HTV HBV HJV hcvV hcwV hS0 hB0 HP hVz ⊢
                    clear HBF HJF hLst9 hM9 hE9 HMm HT1 hcwV
                    refine wpAnyZ_takeW 0 (.slice (some ⟨gm, 0, none⟩) p c2) rfl (by kernel_rfl) (by kernel_rfl) (fun _ _ _ h => h) (by rfl) (fun _ => by first | (simp [go_sem]; done) | go_simp) hS0 ?_
                    try simp only [Act.put, List.setIfInBounds_toArray, List.set_cons_zero, List.set_cons_succ, List.getElem_toArray, List.getElem_cons_zero, List.getElem_cons_succ]
                    refine wpAnyZ_takeW 1 (.slice (some ⟨gm, 0, none⟩) p c2) rfl (by kernel_rfl) (by kernel_rfl) (fun _ _ _ h => h) (by rfl) (fun _ => by first | (simp [go_sem]; done) | go_simp) hS0 ?_
                    try simp only [Act.put, List.setIfInBounds_toArray, List.set_cons_zero, List.set_cons_succ, List.getElem_toArray, List.getElem_cons_zero, List.getElem_cons_succ]
                    refine wpAnyZ_takeW 2 (.slice (some ⟨gw, 0, none⟩) Lw cw) rfl (by kernel_rfl) (by kernel_rfl) (fun _ _ _ h => h) (by rfl) (fun _ => by first | (simp [go_sem]; done) | go_simp) hS0 ?_
                    try simp only [Act.put, List.setIfInBounds_toArray, List.set_cons_zero, List.set_cons_succ, List.getElem_toArray, List.getElem_cons_zero, List.getElem_cons_succ]
                    refine wpAnyZ_takeW 3 (.slice TT L1 c1) rfl (by kernel_rfl) (by kernel_rfl) (fun _ _ _ h => h) (by rfl) (fun _ => by have h1 := HTT.out.1; have h2 := HTT.out.2.1; have h3 := HTT.out.2.2; simp [go_sem, hLw1, hLw0, hLwn, h1, h2, h3]) hS0 ?_
                    try simp only [Act.put, List.setIfInBounds_toArray, List.set_cons_zero, List.set_cons_succ, List.getElem_toArray, List.getElem_cons_zero, List.getElem_cons_succ]
                    refine wpAnyZ_take 7 (.agg #[.int .i64 dim, .slice G dim eg]) rfl (by kernel_rfl) (by kernel_rfl) (fun _ _ _ h => h) (by rfl) (fun _ hS => by have q0 := hS.1; have q1 := hS.2; clear hS; first | (simp [go_sem, q0, q1]; done) | go_simp) hS0 ?_
                    try simp only [Act.put, List.setIfInBounds_toArray, List.set_cons_zero, List.set_cons_succ, List.getElem_toArray, List.getElem_cons_zero, List.getElem_cons_succ]
                    refine wpAnyZ_one 4 (by kernel_rfl) rfl (by rfl) (fun K hK => ?_)
                    go_simp
                    refine (HP.out).mono ?_
                    rintro e x1 ⟨rfl, rfl⟩
                    clear HP
                    go_wp2_with fail
                    refine hK.out _ _ hS0 ?_
                    clear hK K
                    try simp only [Act.put, List.setIfInBounds_toArray, List.set_cons_zero, List.set_cons_succ, List.getElem_toArray, List.getElem_cons_zero, List.getElem_cons_succ]
                    refine wpAnyZ_takeW 5 (.pointer (some ⟨gm, q, none⟩)) rfl (by kernel_rfl) (by kernel_rfl) (fun _ _ _ h => h) (by rfl) (fun _ => by first | (simp [go_sem]; done) | go_simp) hS0 ?_
                    try simp only [Act.put, List.setIfInBounds_toArray, List.set_cons_zero, List.set_cons_succ, List.getElem_toArray, List.getElem_cons_zero, List.getElem_cons_succ]
                    refine wpAnyZ_one 6 (by kernel_rfl) rfl (by rfl) (fun K hK => ?_)
                    have qe6_0 := hcvV
                    go_simp
                    refine hK.out _ _ hS0 ?_
                    clear hK K qe6_0
                    try simp only [Act.put, List.setIfInBounds_toArray, List.set_cons_zero, List.set_cons_succ, List.getElem_toArray, List.getElem_cons_zero, List.getElem_cons_succ]
                    refine wpAnyZ_one 8 (by kernel_rfl) rfl (by rfl) (fun K hK => ?_)
                    go_simp
                    refine (spec_l11Change Bm nm cm m G dim eg qs V (HMmV.out.wide (Nat.zero_le _) (by omega)) ((HG.out.below hEV.out.low (Nat.le_refl _)).wide (Nat.le_refl _) hEV.out.low.size) hnm hd0 (by omega) hpw.out (fun r hr => ⟨(hgp.part r hr).1, fun a ha => ⟨((hgp.part r hr).2 a ha).1, fun x hx => by have := ((hgp.part r hr).2 a ha).2 x hx; omega⟩⟩)).mono ?_
                    rintro e x2 ⟨A5, n5, c5, rfl, hM5, hn5, hG5, hb5⟩
                    have HM5 := hide hM5
                    have HC5 := hide (And.intro hn5 hG5)
                    have hB5 := hB0.trans hb5
                    have hz5 := hB5.size
                    have hS2 := (And.intro ((hb5.cell (p := ⟨w9.heap.size, 0, none⟩) (World.block_lt_of_cell? _ _ hS0.1)).trans hS0.1) ((hb5.cell (p := ⟨w9.heap.size, 1, none⟩) (World.block_lt_of_cell? _ _ hS0.2)).trans hS0.2))
                    clear hM5 hn5 hG5 hb5
                    go_wp2_with fail
                    refine hK.out _ _ hS2 ?_
                    clear hK K
                    try simp only [Act.put, List.setIfInBounds_toArray, List.set_cons_zero, List.set_cons_succ, List.getElem_toArray, List.getElem_cons_zero, List.getElem_cons_succ]
                    refine wpAnyZ_one 9 (by kernel_rfl) rfl (by rfl) (fun K hK => ?_)
                    go_simp
                    have hS3 := (And.intro (((below_alloc x2 (.cells #[.slice A5 n5 c5] 54)).cell (p := ⟨w9.heap.size, 0, none⟩) (World.block_lt_of_cell? _ _ hS2.1)).trans hS2.1) (((below_alloc x2 (.cells #[.slice A5 n5 c5] 54)).cell (p := ⟨w9.heap.size, 1, none⟩) (World.block_lt_of_cell? _ _ hS2.2)).trans hS2.2))
                    refine hK.out _ _ hS3 ?_
                    clear hK K
                    try simp only [Act.put, List.setIfInBounds_toArray, List.set_cons_zero, List.set_cons_succ, List.getElem_toArray, List.getElem_cons_zero, List.getElem_cons_succ]
                    refine wpAnyZ_one 10 (by kernel_rfl) rfl (by rfl) (fun K hK => ?_)
                    have HL5 := hide (hLV.out.below hB5 (by omega))
                    have hL75 : L7 ≤ x2.heap.size := by omega
                    refine owp_appJ (.tmp 93) (.tmp 102) 34 rfl L7 54 i3 (.slice none 0 0) 1 24 Try.underlying34 hi3 hy0 hy1 hy2 rfl (by omega) x2 #[.slice A5 n5 c5] _ rfl (some ⟨gm, 0, none⟩) p c2 1 _ rfl rfl HL5.out.own rfl (by simp [Value.oneCell']) (by omega) (by omega) hL75 ?_
                    intro A3 c3 w13 happ hlt13
                    have hL13 := hide (HL5.out.push (show kMo.rd x2 V.heap.size x2.heap.size (.slice A5 n5 c5) (chGo m [] 0 qs) from ⟨_, _, _, rfl, HM5.out⟩) (by omega) (Nat.le_refl _) (by omega) (by omega) happ)
                    have hB9 : Below w9.heap.size w9 x2 := HBV.out.trans (hB5.mono (by omega))
                    have hBV2 : Below L7 V w13 := happ.low (hB5.mono (by omega)) hL75 (Nat.le_refl _) HL5.out.own
                    have hM13 := hide (hMV.out.below hBV2 (by omega))
                    have hE13 := hide (hEV.out.below hBV2 (by have := hgfw; omega))
                    have hz13 := hBV2.size
                    have hP13 : Hid (MadeP ps qs dim d (wordL p) (chGo m [] 0 qs)) := by
                      show MadeP _ _ _ _ _ _
                      rw [hwlH.out]
                      exact made_ch hd3 hfp hgp HMd1.out (x := 1) HC5.out.2 (by have h1 := HC5.out.1; have h2 := HM5.out.len; rw [← hnm2] at h1; exact Nat.le_trans (Nat.le_of_eq h2) h1)
                    have hblk : w13.heap[w9.heap.size]? = x2.heap[w9.heap.size]? := happ.2.1.block w9.heap.size (by have := HJV.out.lt; omega) (fun e => by obtain ⟨ad, e1, e2⟩ := ownBlock_eq.1 e.symm; have h1 := hLV.out.lt ad e1; have h2 := HJV.out.lt; omega)
                    have hJ13 : BlkN w13 w9.heap.size #[.int .i64 dim, .slice G dim eg] := (HJV.out.below hB5).same hblk
                    have hS4 : w13.cell? ⟨w9.heap.size, 0, none⟩ = some (.int .i64 dim) ∧ w13.cell? ⟨w9.heap.size, 1, none⟩ = some (.slice G dim eg) := ⟨hJ13.c 0 rfl, hJ13.c 1 rfl⟩
                    clear HL5 hB9 hB5 hS3 hblk hJ13
                    refine hK.out _ _ hS4 ?_
                    clear hK K
                    try simp only [Act.put, List.setIfInBounds_toArray, List.set_cons_zero, List.set_cons_succ, List.getElem_toArray, List.getElem_cons_zero, List.getElem_cons_succ]
                    refine wpAnyZ_last (by kernel_rfl) rfl (by kernel_rfl) (by rfl) (fun K hK => ?_)
                    clear hS4
                    go_simp
                    refine hK _ _ ?_
                    clear hK K
                    have hlen9 := hLV.out.len
                    have hMdx : Hid (∀ (j : Nat) (m' : List Mono), (made ++ [chGo m [] 0 qs])[j]? = some m' → MadeP ps qs dim d (wordL j) m') := fun j m' hm => by
                      by_cases hj : j < made.length
                      · rw [List.getElem?_append_left hj] at hm
                        exact hMd.out j m' hm
                      · have hj2 := (List.getElem?_eq_some_iff.1 hm).1
                        simp at hj2
                        obtain rfl : j = p := by omega
                        rw [List.getElem?_append_right (by omega), hlen9] at hm
                        obtain rfl : chGo m [] 0 qs = m' := by simpa using hm
                        exact hP13.out
                    clear happ
                    go_wp2_with fail
                    go_roundw
                    case rel => exact ⟨p + 1, c3, A3, _, _, by omega, by omega, by go_num, rfl, hL13.out, hMdx, hM13.out, hE13.out, by omega⟩
                    case measure => simp [intOf]; omega
                · obtain ⟨rfl⟩ : p = cntN (o : Int) := by omega
                  go_wp2_with fail
                  clear ca1
                  obtain ⟨g3, rfl, hg31, hg32, _⟩ := hLst.out.form (by omega : 0 < cntN (o : Int))
                  have hcL := hLst.out.capb
                  obtain ⟨hL, hhL⟩ : ∃ z, z = wr.heap.size := ⟨_, rfl⟩
                  rw [← hhL] at hLst hg32 hL7s
                  have hhL2 : hL ≤ wr.heap.size := by omega
                  clear hhL
                  go_loopw [17] (fun i wr => ∃ (p : Nat), p ≤ cntN (o : Int) ∧ i = .int .i64 p ∧ Hid (MatO wr (w.heap.size + 3) gf (some ⟨gA, 0, none⟩) k c' dim gs (matF ts (wordV ps qs ys dim) o dim (cntN o) d p)) ∧ Hid (EnvW w wr #[.int .i64 o, .slice TA (cntN o) ct] #[.int .i64 dim, .slice F dim ef] #[.int .i64 dim, .slice G dim eg]) ∧ Hid (Lst kMo 54 (fun _ => True) wr L7 hL (some ⟨g3, 0, none⟩) (cntN (o : Int)) c2 vs made) ∧ hL ≤ wr.heap.size) (fun i _ => cntN (o : Int) - (intOf i).toNat)
                  case atStart => exact ⟨0, by omega, rfl, hM.out, hE.out, hLst.out, hhL2⟩
                  case round =>
                    clear hM hE hLst hhL2
                    obtain ⟨p, hp, rfl, hM, hE, hLst, hhL⟩ := hrel
                    have ca1 := hE.out.ba.c 1 rfl
                    by_cases hlt2 : p < cntN (o : Int)
                    · obtain ⟨v, l, h', mm, hcv0, hrd, hl1, hl2, hmx⟩ := hLst.out.at_ (k := p) hlt2 trivial
                      obtain ⟨Bm, nm, cm, rfl, hMm0⟩ := hrd
                      have hP3 := hide (hMd.out p mm hmx.out)
                      have hmk : (Instr.makeSlice 22 (.int .i64 1) (.int .i64 1)).run Try.prog wr = .ok (.slice (some ⟨wr.heap.size, 0, none⟩) 1 1) (wr.alloc (.cells (zeros 1) 3)) := make_ints 1 (by omega) wr
                      have hown := owns_zeros wr 1 (by omega) (Nat.le_refl wr.heap.size)
                      have aZ := below_alloc wr (.cells (zeros 1) 3)
                      have hMx := hide (hM.out.below aZ (by omega))
                      have hEx := hide (hE.out.keep aZ)
                      have hLx := hide (hLst.out.below aZ hhL)
                      have hMm := hide (hMm0.below aZ (by omega))
                      have hcv := (aZ.cell (p := ⟨g3, p, none⟩) (World.block_lt_of_cell? _ _ hcv0)).trans hcv0
                      have hcpm := hMm0.cap
                      have hmxm := hMm0.max
                      have hzZ : (wr.alloc (.cells (zeros 1) 3)).heap.size = wr.heap.size + 1 := by simp
                      have HO0 : Hid (OwnI (wr.alloc (.cells (zeros 1) 3)) wr.heap.size (wr.alloc (.cells (zeros 1) 3)).heap.size (some ⟨wr.heap.size, 0, none⟩) 1 1 [0]) := ⟨by simpa [zeroJ] using hown, fun ad e => by injection e with e; subst e; rw [hzZ]; exact Nat.lt_succ_self _, fun x hx => by obtain rfl : x = 0 := (by simpa using hx); constructor <;> omega⟩
                      go_upto_region 26 with fail
                      clear hmk hown aZ ca1 hM hE hLst hcv0 hMm0
                      obtain ⟨wx, hwx⟩ : ∃ z, z = wr.alloc (.cells (zeros 1) 3) := ⟨_, rfl⟩
                      rw [← hwx] at hMx hEx hLx hMm hcv HO0 hzZ ⊢
                      obtain ⟨g5, hg5⟩ : ∃ z, z = wr.heap.size := ⟨_, rfl⟩
                      rw [← hg5] at hzZ HO0 hhL ⊢
                      have hzZ2 : g5 < wx.heap.size := by omega
                      clear hwx hg5 hzZ
                      have hpn : ¬ (cntN (o : Int) : Int) ≤ (p : Int) := by omega
                      go_wp2_with fail
                      go_loopw [18, 19] (fun u i wy => ∃ (q : Nat) (RR : Option Addr) (cR : Nat) (vv : Int), q ≤ nm ∧ i = .int .i64 q ∧ u = .slice RR 1 cR ∧ Hid (OwnI wy g5 wy.heap.size RR 1 cR [vv]) ∧ Hid (derJ 1 (fun v => (turnL [ys] dim).getD v []) mm [0] = derJ 1 (fun v => (turnL [ys] dim).getD v []) (mm.drop q) [vv]) ∧ Hid (Below wx.heap.size wx wy)) (fun _ i _ => nm - (intOf i).toNat)
                      case atStart => exact ⟨0, _, _, 0, by omega, rfl, rfl, HO0.out, rfl, Below.refl _ _⟩
                      case round =>
                        clear HO0
                        obtain ⟨q, RR, cR, vv, hq, rfl, rfl, hO, hder, hB⟩ := hrel
                        obtain ⟨wy, hwy⟩ : ∃ z, z = wr := ⟨_, rfl⟩
                        rw [← hwy] at hO hB ⊢
                        clear hwy
                        have hcvy := (hB.out.cell (p := ⟨g3, p, none⟩) (World.block_lt_of_cell? _ _ hcv)).trans hcv
                        have hcR := hO.out.cap
                        have hmR := hO.out.max
                        by_cases hlt3 : q < nm
                        · have hqn : ¬ (nm : Int) ≤ (q : Int) := by omega
                          go_upto_region 29 with fail
                          clear hcvy
                          obtain ⟨ad, cf, B1, m1, d1, xs, e1, hc1, hc2, hcr, hI, _, hx⟩ := (hMm.out.below hB.out (by omega)).at_ hlt3
                          subst e1
                          have hml : xs.length = dim := (hP3.out.pow _ (List.mem_of_getElem? hx.out)).1
                          obtain rfl : m1 = dim := by rw [← hI.len]; exact hml
                          have hcdd := hI.cap
                          have hcdm := hI.max
                          have hbx := hB.out
                          have hcvB := (hbx.cell (p := ⟨g3, p, none⟩) (World.block_lt_of_cell? _ _ hcv)).trans hcv
                          have hV9 : Below wy.heap.size wy wy.drew := (Below.refl _ _).drew
                          have hVz : wy.drew.heap.size ≤ wy.heap.size ∧ wy.heap.size ≤ wy.drew.heap.size := ⟨Nat.le_refl _, Nat.le_refl _⟩
                          have hzy := hbx.size
                          have hbV : Below wx.heap.size wx wy.drew := hbx.drew
                          have HBV := hide hbV
                          have HIV := hide (hI.below hV9 (by omega))
                          have HOV := hide (hO.out.below hV9 (Nat.le_refl _))
                          have HYV := hide (HYy.out.below ((hEx.out.below hbV (by have := hEx.out.size; omega)).low) (Nat.le_refl _))
                          have HCF := hide hcr
                          have HDX := hide hx
                          clear hI hcr hx hbx hV9 hbV
                          go_upto_region 29 with fail
                          refine wp_region_Z (fun W' => W'.cell? ⟨g3, p, none⟩ = some (.slice (some ad) nm cm) ∧ W'.cell? (ad.add (q * 2)) = some (.int .i64 cf) ∧ W'.cell? ⟨(ad.add (q * 2)).block, (ad.add (q * 2)).off + 1, none⟩ = some (.slice B1 m1 d1)) 22 (by kernel_rfl) ?_
                          simp only [List.size_toArray, List.length_cons, List.length_nil, Nat.reduceAdd]
                          have hS0 : wy.drew.cell? ⟨g3, p, none⟩ = some (.slice (some ad) nm cm) ∧ wy.drew.cell? (ad.add (q * 2)) = some (.int .i64 cf) ∧ wy.drew.cell? ⟨(ad.add (q * 2)).block, (ad.add (q * 2)).off + 1, none⟩ = some (.slice B1 m1 d1) := ⟨hcvB, hc1, hc2⟩
                          generalize wy.drew = V at HBV HIV HOV HYV hS0 hVz ⊢
                          clear hcvB hc1 hc2 hO hB
                          have hzw := hEx.out.size
                          have aY := below_alloc V (.cells #[.slice Y m1 dy] 22)
                          have hRow := ints2_row HYV.out (by omega) 22
                          have HTu := hide (spec_l8Turn (some ⟨V.heap.size, 0, none⟩) 1 1 [ys] 0 (V.heap.size + 1) m1 (V.alloc (.cells #[.slice Y m1 dy] 22)) hRow (by simp) (by intro r hr; obtain rfl : r = ys := (by simpa using hr); exact HPT.out.1) hd0 (by omega) (by omega) (by omega))
                          have HAY := hide aY
                          clear hRow
                          refine wpAnyZ_takeW 0 (.slice RR 1 cR) rfl (by kernel_rfl) (by kernel_rfl) (fun _ _ _ h => h) (by rfl) (fun _ => by first | (simp [go_sem]; done) | go_simp) hS0 ?_
                          try simp only [Act.put, List.setIfInBounds_toArray, List.set_cons_zero, List.set_cons_succ, List.getElem_toArray, List.getElem_cons_zero, List.getElem_cons_succ]
                          refine wpAnyZ_takeW 1 (.slice (some ⟨g3, 0, none⟩) (cntN o) c2) rfl (by kernel_rfl) (by kernel_rfl) (fun _ _ _ h => h) (by rfl) (fun _ => by first | (simp [go_sem]; done) | go_simp) hS0 ?_
                          try simp only [Act.put, List.setIfInBounds_toArray, List.set_cons_zero, List.set_cons_succ, List.getElem_toArray, List.getElem_cons_zero, List.getElem_cons_succ]
                          refine wpAnyZ_takeW 2 (.int .i64 p) rfl (by kernel_rfl) (by kernel_rfl) (fun _ _ _ h => h) (by rfl) (fun _ => by first | (simp [go_sem]; done) | go_simp) hS0 ?_
                          try simp only [Act.put, List.setIfInBounds_toArray, List.set_cons_zero, List.set_cons_succ, List.getElem_toArray, List.getElem_cons_zero, List.getElem_cons_succ]
                          refine wpAnyZ_takeW 3 (.pointer (some ⟨g3, p, none⟩)) rfl (by kernel_rfl) (by kernel_rfl) (fun _ _ _ h => h) (by rfl) (fun _ => by simp [go_sem, hpn]) hS0 ?_
                          try simp only [Act.put, List.setIfInBounds_toArray, List.set_cons_zero, List.set_cons_succ, List.getElem_toArray, List.getElem_cons_zero, List.getElem_cons_succ]
                          refine wpAnyZ_take 4 (.slice (some ad) nm cm) rfl (by kernel_rfl) (by kernel_rfl) (fun _ _ _ h => h) (by rfl) (fun _ hS => by have q0 := hS.1; clear hS; first | (simp [go_sem, q0]; done) | go_simp) hS0 ?_
                          try simp only [Act.put, List.setIfInBounds_toArray, List.set_cons_zero, List.set_cons_succ, List.getElem_toArray, List.getElem_cons_zero, List.getElem_cons_succ]
                          refine wpAnyZ_takeW 5 (.int .i64 q) rfl (by kernel_rfl) (by kernel_rfl) (fun _ _ _ h => h) (by rfl) (fun _ => by first | (simp [go_sem]; done) | go_simp) hS0 ?_
                          try simp only [Act.put, List.setIfInBounds_toArray, List.set_cons_zero, List.set_cons_succ, List.getElem_toArray, List.getElem_cons_zero, List.getElem_cons_succ]
                          refine wpAnyZ_takeW 6 (.pointer (some (ad.add (q * 2)))) rfl (by kernel_rfl) (by kernel_rfl) (fun _ _ _ h => h) (by rfl) (fun _ => by simp [go_sem, hqn, Nat.not_le.2 hlt3]) hS0 ?_
                          try simp only [Act.put, List.setIfInBounds_toArray, List.set_cons_zero, List.set_cons_succ, List.getElem_toArray, List.getElem_cons_zero, List.getElem_cons_succ]
                          refine wpAnyZ_takeW 7 (.pointer (some ⟨(ad.add (q * 2)).block, (ad.add (q * 2)).off + 1, none⟩)) rfl (by kernel_rfl) (by kernel_rfl) (fun _ _ _ h => h) (by rfl) (fun _ => by first | (simp [go_sem]; done) | go_simp) hS0 ?_
                          try simp only [Act.put, List.setIfInBounds_toArray, List.set_cons_zero, List.set_cons_succ, List.getElem_toArray, List.getElem_cons_zero, List.getElem_cons_succ]
                          refine wpAnyZ_take 8 (.slice B1 m1 d1) rfl (by kernel_rfl) (by kernel_rfl) (fun _ _ _ h => h) (by rfl) (fun _ hS => by have q0 := hS.2.2; clear hS; first | (simp [go_sem, q0]; done) | go_simp) hS0 ?_
                          try simp only [Act.put, List.setIfInBounds_toArray, List.set_cons_zero, List.set_cons_succ, List.getElem_toArray, List.getElem_cons_zero, List.getElem_cons_succ]
                          refine wpAnyZ_takeW 9 (.slice Y m1 dy) rfl (by kernel_rfl) (by kernel_rfl) (fun _ _ _ h => h) (by rfl) (fun _ => by first | (simp [go_sem]; done) | go_simp) hS0 ?_
                          try simp only [Act.put, List.setIfInBounds_toArray, List.set_cons_zero, List.set_cons_succ, List.getElem_toArray, List.getElem_cons_zero, List.getElem_cons_succ]
                          refine wpAnyZ_takeW 13 (.slice (some ⟨g3, 0, none⟩) (cntN o) c2) rfl (by kernel_rfl) (by kernel_rfl) (fun _ _ _ h => h) (by rfl) (fun _ => by first | (simp [go_sem]; done) | go_simp) hS0 ?_
                          try simp only [Act.put, List.setIfInBounds_toArray, List.set_cons_zero, List.set_cons_succ, List.getElem_toArray, List.getElem_cons_zero, List.getElem_cons_succ]
                          refine wpAnyZ_takeW 14 (.int .i64 p) rfl (by kernel_rfl) (by kernel_rfl) (fun _ _ _ h => h) (by rfl) (fun _ => by first | (simp [go_sem]; done) | go_simp) hS0 ?_
                          try simp only [Act.put, List.setIfInBounds_toArray, List.set_cons_zero, List.set_cons_succ, List.getElem_toArray, List.getElem_cons_zero, List.getElem_cons_succ]
                          refine wpAnyZ_takeW 15 (.pointer (some ⟨g3, p, none⟩)) rfl (by kernel_rfl) (by kernel_rfl) (fun _ _ _ h => h) (by rfl) (fun _ => by simp [go_sem, hpn]) hS0 ?_
                          try simp only [Act.put, List.setIfInBounds_toArray, List.set_cons_zero, List.set_cons_succ, List.getElem_toArray, List.getElem_cons_zero, List.getElem_cons_succ]
                          refine wpAnyZ_take 16 (.slice (some ad) nm cm) rfl (by kernel_rfl) (by kernel_rfl) (fun _ _ _ h => h) (by rfl) (fun _ hS => by have q0 := hS.1; clear hS; first | (simp [go_sem, q0]; done) | go_simp) hS0 ?_
                          try simp only [Act.put, List.setIfInBounds_toArray, List.set_cons_zero, List.set_cons_succ, List.getElem_toArray, List.getElem_cons_zero, List.getElem_cons_succ]
                          refine wpAnyZ_takeW 17 (.int .i64 q) rfl (by kernel_rfl) (by kernel_rfl) (fun _ _ _ h => h) (by rfl) (fun _ => by first | (simp [go_sem]; done) | go_simp) hS0 ?_
                          try simp only [Act.put, List.setIfInBounds_toArray, List.set_cons_zero, List.set_cons_succ, List.getElem_toArray, List.getElem_cons_zero, List.getElem_cons_succ]
                          refine wpAnyZ_takeW 18 (.pointer (some (ad.add (q * 2)))) rfl (by kernel_rfl) (by kernel_rfl) (fun _ _ _ h => h) (by rfl) (fun _ => by simp [go_sem, hqn, Nat.not_le.2 hlt3]) hS0 ?_
                          try simp only [Act.put, List.setIfInBounds_toArray, List.set_cons_zero, List.set_cons_succ, List.getElem_toArray, List.getElem_cons_zero, List.getElem_cons_succ]
                          refine wpAnyZ_takeW 19 (.pointer (some (ad.add (q * 2)))) rfl (by kernel_rfl) (by kernel_rfl) (fun _ _ _ h => h) (by rfl) (fun _ => by first | (simp [go_sem]; done) | go_simp) hS0 ?_
                          try simp only [Act.put, List.setIfInBounds_toArray, List.set_cons_zero, List.set_cons_succ, List.getElem_toArray, List.getElem_cons_zero, List.getElem_cons_succ]
                          refine wpAnyZ_take 20 (.int .i64 cf) rfl (by kernel_rfl) (by kernel_rfl) (fun _ _ _ h => h) (by rfl) (fun _ hS => by have q0 := hS.2.1; clear hS; first | (simp [go_sem, q0]; done) | go_simp) hS0 ?_
                          try simp only [Act.put, List.setIfInBounds_toArray, List.set_cons_zero, List.set_cons_succ, List.getElem_toArray, List.getElem_cons_zero, List.getElem_cons_succ]
                          refine wpAnyZ_one 10 (by kernel_rfl) rfl (by rfl) (fun K hK => ?_)
                          go_simp
                          have hS1 := (And.intro ((HAY.out.cell (p := ⟨g3, p, none⟩) (World.block_lt_of_cell? _ _ hS0.1)).trans hS0.1) (And.intro ((HAY.out.cell (p := (ad.add (q * 2))) (World.block_lt_of_cell? _ _ hS0.2.1)).trans hS0.2.1) ((HAY.out.cell (p := ⟨(ad.add (q * 2)).block, (ad.add (q * 2)).off + 1, none⟩) (World.block_lt_of_cell? _ _ hS0.2.2)).trans hS0.2.2)))
                          refine hK.out _ _ hS1 ?_
                          clear hK K
                          try simp only [Act.put, List.setIfInBounds_toArray, List.set_cons_zero, List.set_cons_succ, List.getElem_toArray, List.getElem_cons_zero, List.getElem_cons_succ]
                          refine wpAnyZ_one 11 (by kernel_rfl) rfl (by rfl) (fun K hK => ?_)
                          go_simp
                          refine (HTu.out).mono ?_
                          rintro e x1 ⟨gT, cT, rfl, hTu, hb1⟩
                          have HB1 := hide (HAY.out.trans (hb1.mono (by simp)))
                          have HTU := hide hTu
                          have hS2 := (And.intro ((hb1.cell (p := ⟨g3, p, none⟩) (World.block_lt_of_cell? _ _ hS1.1)).trans hS1.1) (And.intro ((hb1.cell (p := (ad.add (q * 2))) (World.block_lt_of_cell? _ _ hS1.2.1)).trans hS1.2.1) ((hb1.cell (p := ⟨(ad.add (q * 2)).block, (ad.add (q * 2)).off + 1, none⟩) (World.block_lt_of_cell? _ _ hS1.2.2)).trans hS1.2.2)))
                          have hz1 := hb1.size
                          clear HTu hb1 hTu hS1
                          go_wp2_with fail
                          refine hK.out _ _ hS2 ?_
                          clear hK K
                          try simp only [Act.put, List.setIfInBounds_toArray, List.set_cons_zero, List.set_cons_succ, List.getElem_toArray, List.getElem_cons_zero, List.getElem_cons_succ]
                          refine wpAnyZ_one 12 (by kernel_rfl) rfl (by rfl) (fun K hK => ?_)
                          go_simp
                          refine (spec_l8One B1 m1 d1 xs 0 V.heap.size gT cT (turnL [ys] m1) 0 x1.heap.size 1 x1 ((HIV.out.wide (Nat.zero_le _) (by omega)).below HB1.out (Nat.le_refl _)) (HTU.out.wide2 (Nat.zero_le _) (Nat.le_refl _)) HB1.out.size (Nat.le_refl _) HJN.out hd0 (by omega) (by omega) (by omega)).mono ?_
                          rintro e x2 ⟨gQ, rfl, hQ, hb2⟩
                          have HB2 := hide (HB1.out.trans (hb2.mono HB1.out.size))
                          have HQ := hide hQ
                          have hS3 := (And.intro ((hb2.cell (p := ⟨g3, p, none⟩) (World.block_lt_of_cell? _ _ hS2.1)).trans hS2.1) (And.intro ((hb2.cell (p := (ad.add (q * 2))) (World.block_lt_of_cell? _ _ hS2.2.1)).trans hS2.2.1) ((hb2.cell (p := ⟨(ad.add (q * 2)).block, (ad.add (q * 2)).off + 1, none⟩) (World.block_lt_of_cell? _ _ hS2.2.2)).trans hS2.2.2)))
                          have hz2 := hb2.size
                          clear hb2 hQ hS2
                          go_wp2_with fail
                          refine hK.out _ _ hS3 ?_
                          clear hK K
                          try simp only [Act.put, List.setIfInBounds_toArray, List.set_cons_zero, List.set_cons_succ, List.getElem_toArray, List.getElem_cons_zero, List.getElem_cons_succ]
                          refine wpAnyZ_one 21 (by kernel_rfl) rfl (by rfl) (fun K hK => ?_)
                          go_simp
                          refine (spec_l8Add RR 1 cR [vv] g5 V.heap.size (some ⟨gQ, 0, none⟩) 1 (prodJ (fun v => (turnL [ys] m1).getD v []) xs 0 (unitJ 1 1)) x1.heap.size x2.heap.size cf x2 ((HOV.out.ints.wide (Nat.le_refl _) (by omega)).below HB2.out (by omega)) HQ.out HB2.out.size (Nat.le_refl _) (by omega) HCF.out).mono ?_
                          rintro e x3 ⟨R3, c3, rfl, hO3, hb3⟩
                          have HB3 := hide (HB2.out.trans (hb3.mono HB2.out.size))
                          have HO3 := hide hO3
                          have hS4 := (And.intro ((hb3.cell (p := ⟨g3, p, none⟩) (World.block_lt_of_cell? _ _ hS3.1)).trans hS3.1) (And.intro ((hb3.cell (p := (ad.add (q * 2))) (World.block_lt_of_cell? _ _ hS3.2.1)).trans hS3.2.1) ((hb3.cell (p := ⟨(ad.add (q * 2)).block, (ad.add (q * 2)).off + 1, none⟩) (World.block_lt_of_cell? _ _ hS3.2.2)).trans hS3.2.2)))
                          have hz3 := hb3.size
                          clear hb3 hO3 hS3
                          go_wp2_with fail
                          refine hK.out _ _ hS4 ?_
                          clear hK K
                          try simp only [Act.put, List.setIfInBounds_toArray, List.set_cons_zero, List.set_cons_succ, List.getElem_toArray, List.getElem_cons_zero, List.getElem_cons_succ]
                          refine wpAnyZ_last (by kernel_rfl) rfl (by kernel_rfl) (by rfl) (fun K hK => ?_)
                          clear hS4
                          go_simp
                          refine hK _ _ ?_
                          clear hK K
                          have hstep : Hid (derJ 1 (fun v => (turnL [ys] m1).getD v []) mm [0] = derJ 1 (fun v => (turnL [ys] m1).getD v []) (mm.drop (q + 1)) (jplus [vv] (prodJ (fun v => (turnL [ys] m1).getD v []) xs 0 (unitJ 1 1)) cf)) := by
                            show _ = _
                            have hdr := List.drop_eq_getElem_cons (List.getElem?_eq_some_iff.1 HDX.out).1
                            rw [hder.out, hdr, (List.getElem?_eq_some_iff.1 HDX.out).2, derJ]
                          obtain ⟨v2, hv2⟩ : ∃ v2, jplus [vv] (prodJ (fun v => (turnL [ys] m1).getD v []) xs 0 (unitJ 1 1)) cf = [v2] := ⟨_, rfl⟩
                          rw [hv2] at hstep HO3
                          have HBx := hide (HBV.out.trans (HB3.out.mono (by have := HBV.out.size; omega)))
                          have HO4 := hide (HO3.out.low (by have := HBV.out.size; have := HB2.out.size; omega : g5 ≤ x2.heap.size))
                          clear hder hv2
                          go_wp2_with fail
                          go_roundw
                          case rel => exact ⟨q + 1, R3, c3, v2, by omega, by go_num, rfl, HO4.out, hstep, HBx.out⟩
                          case measure => simp [intOf]; omega
                        · obtain rfl : q = nm := by omega
                          have hlm := hMm.out.len
                          have hvv : derJ 1 (fun v => (turnL [ys] dim).getD v []) mm [0] = [vv] := by
                            rw [hder.out, List.drop_of_length_le (by omega)]
                            rfl
                          rw [der_val HPT.out.1, hP3.out.eqv] at hvv
                          have HVV : Hid (vv = wordV ps qs ys dim d p) := by injection hvv with hvv; exact hvv.symm
                          have hvvR : R64 vv := hO.out.rng vv (by simp)
                          have HW := hide (spec_l11Word p wy (by omega))
                          have hzy := hB.out.size
                          go_wp2_with fail
                          clear hcvy
                          refine HW.out.mono ?_
                          rintro r wz ⟨gw, cw, rfl, _, hb9⟩
                          clear HW
                          have hz9 := hb9.size
                          have hlp := wordL_len5 (p := p) (by omega)
                          have hM3 := hide ((hMx.out.below hB.out (by omega)).below hb9 (by omega))
                          have hE3 := hide ((hEx.out.keep hB.out).keep hb9)
                          have hL3 := hide ((hLx.out.below hB.out (by omega)).below hb9 (by omega))
                          have hO3 := hide (hO.out.below hb9 (Nat.le_refl _))
                          obtain ⟨Lw, hLw⟩ : ∃ z, z = (wordL p).length := ⟨_, rfl⟩
                          rw [← hLw] at hlp ⊢
                          have HLW := hide hLw
                          have hLo : Lw ≤ o := by
                            rw [HLW.out]
                            refine wordL_len p o ?_
                            have h := hlt2
                            unfold cntN at h
                            have e : ((o : Int)).toNat = o := by omega
                            rw [e] at h
                            omega
                          clear hMx hEx hLx hB hO hder hvv hLw
                          obtain ⟨cv, hcvR⟩ : ∃ z, z = cR := ⟨_, rfl⟩
                          rw [← hcvR] at hO3 hcR hmR ⊢
                          clear hcvR
                          obtain ⟨ta, tv, e1, hct, _, _, htv⟩ := (HT.out.below hE3.out.low (Nat.le_refl _)).at_ hlt2
                          subst e1
                          have hgt : ts.getD p 0 = tv := by rw [List.getD, htv.out]; rfl
                          have HTV := hide (HTN.out tv (List.mem_of_getElem? htv.out))
                          have HGT := hide hgt
                          have hca := hE3.out.ba.c 1 rfl
                          obtain ⟨gv, rfl⟩ := own_form1 hO3.out.own
                          have hcvv : wz.cell? ⟨gv, 0, none⟩ = some (.int .i64 vv) := (hO3.out.own.cellAt 0 (by omega)).trans rfl
                          obtain ⟨b, xs, hgb, hxb, hcA, hrow⟩ := hM3.out.at_ (j := Lw) (by have := HK.out; omega)
                          have hxs : (List.range dim).map (fun d' => accW ts (wordV ps qs ys dim d') Lw (if d' < d then cntN o else if d' = d then p else 0)) = xs := Option.some.inj ((mat_at _ _ _ _ _ _ _ hLo).symm.trans hxb)
                          obtain ⟨acc, hacc⟩ : ∃ z, z = accW ts (wordV ps qs ys dim d) Lw p := ⟨_, rfl⟩
                          have hxd : xs[d]? = some acc := by
                            rw [← hxs, hacc, List.getElem?_map, List.getElem?_range hlt]
                            simp
                          have hbr := hM3.out.row Lw b xs hgb hxb
                          have haR : R64 acc := hbr.2 acc (List.mem_of_getElem? hxd)
                          have hcd : wz.cell? ⟨b, d, none⟩ = some (.int .i64 acc) := (hrow.cellAt d (by omega)).trans (by rw [List.getElem?_map, hxd]; rfl)
                          have hbl := owns_lt hrow _ rfl
                          have hbh := hM3.out.lt.2 b (List.mem_of_getElem? hgb)
                          have hVz : wz.drew.heap.size ≤ wz.heap.size ∧ wz.heap.size ≤ wz.drew.heap.size := ⟨Nat.le_refl _, Nat.le_refl _⟩
                          have htR : R64 tv := by have := HTV.out; constructor <;> omega
                          have htR2 : R64 (timesF tv vv) := by have := timesF_bd tv vv; constructor <;> omega
                          have HTR := hide htR
                          have HTR2 := hide htR2
                          have HVR := hide hvvR
                          have HAR := hide haR
                          have HACC := hide hacc
                          have HXS := hide hxs
                          have HGB := hide hgb
                          have HXB := hide hxb
                          have HROW := hide hrow
                          have hLL : Lw < k := by have := HK.out; omega
                          clear htR hvvR htR2 haR hacc hxs hgb hxb hrow hxd hbr htv hgt
                          go_upto_region 31 with fail
                          refine wp_region_Z (fun W' => W'.cell? ⟨gA, Lw, none⟩ = some (.slice (some ⟨b, 0, none⟩) dim dim) ∧ W'.cell? ⟨b, d, none⟩ = some (.int .i64 acc) ∧ W'.cell? ⟨w.heap.size, 1, none⟩ = some (.slice (some ta) (cntN o) ct) ∧ W'.cell? (ta.add p) = some (.int .i64 tv) ∧ W'.cell? ⟨gv, 0, none⟩ = some (.int .i64 vv)) 23 (by kernel_rfl) ?_
                          simp only [List.size_toArray, List.length_cons, List.length_nil, Nat.reduceAdd]
                          have hS0 : wz.drew.cell? ⟨gA, Lw, none⟩ = some (.slice (some ⟨b, 0, none⟩) dim dim) ∧ wz.drew.cell? ⟨b, d, none⟩ = some (.int .i64 acc) ∧ wz.drew.cell? ⟨w.heap.size, 1, none⟩ = some (.slice (some ta) (cntN o) ct) ∧ wz.drew.cell? (ta.add p) = some (.int .i64 tv) ∧ wz.drew.cell? ⟨gv, 0, none⟩ = some (.int .i64 vv) := ⟨hcA, hcd, hca, hct, hcvv⟩
                          have hM4 := hide (hM3.out.below (Below.drew (Below.refl wz.heap.size wz)) (by omega))
                          have hE4 := hide (hE3.out.keep (Below.drew (Below.refl wz.heap.size wz)))
                          have hL4 := hide (hL3.out.below (Below.drew (Below.refl wz.heap.size wz)) (by omega))
                          have f0 := (owns_below HROW.out (Below.drew (Below.refl wz.heap.size wz)) (fun ad e => (owns_lt HROW.out ad e).2)).frozenAt d
                          generalize wz.drew = V at hS0 hM4 hE4 hL4 hVz f0 ⊢
                          clear hcA hcd hca hct hcvv hM3 hE3 hL3
                          refine wpAnyZ_takeW 0 ((.slice (some ⟨gA, 0, none⟩) k c')) rfl (by kernel_rfl) (by kernel_rfl) (fun _ _ _ h => h) (by rfl) (fun _ => by first | (simp [go_sem]; done) | go_simp) hS0 ?_
                          try simp only [Act.put, List.setIfInBounds_toArray, List.set_cons_zero, List.set_cons_succ, List.getElem_toArray, List.getElem_cons_zero, List.getElem_cons_succ]
                          refine wpAnyZ_takeW 1 (.int .i64 Lw) rfl (by kernel_rfl) (by kernel_rfl) (fun _ _ _ h => h) (by rfl) (fun _ => by first | (simp [go_sem]; done) | go_simp) hS0 ?_
                          try simp only [Act.put, List.setIfInBounds_toArray, List.set_cons_zero, List.set_cons_succ, List.getElem_toArray, List.getElem_cons_zero, List.getElem_cons_succ]
                          refine wpAnyZ_takeW 2 (.pointer (some ⟨gA, Lw, none⟩)) rfl (by kernel_rfl) (by kernel_rfl) (fun _ _ _ h => h) (by rfl) (fun _ => by simp [go_sem, hLL]) hS0 ?_
                          try simp only [Act.put, List.setIfInBounds_toArray, List.set_cons_zero, List.set_cons_succ, List.getElem_toArray, List.getElem_cons_zero, List.getElem_cons_succ]
                          refine wpAnyZ_take 3 (.slice (some ⟨b, 0, none⟩) dim dim) rfl (by kernel_rfl) (by kernel_rfl) (fun _ _ _ h => h) (by rfl) (fun _ hS => by have q0 := hS.1; clear hS; first | (simp [go_sem, q0]; done) | go_simp) hS0 ?_
                          try simp only [Act.put, List.setIfInBounds_toArray, List.set_cons_zero, List.set_cons_succ, List.getElem_toArray, List.getElem_cons_zero, List.getElem_cons_succ]
                          refine wpAnyZ_takeW 4 (.int .i64 d) rfl (by kernel_rfl) (by kernel_rfl) (fun _ _ _ h => h) (by rfl) (fun _ => by first | (simp [go_sem]; done) | go_simp) hS0 ?_
                          try simp only [Act.put, List.setIfInBounds_toArray, List.set_cons_zero, List.set_cons_succ, List.getElem_toArray, List.getElem_cons_zero, List.getElem_cons_succ]
                          refine wpAnyZ_takeW 5 ((.slice (some ⟨gA, 0, none⟩) k c')) rfl (by kernel_rfl) (by kernel_rfl) (fun _ _ _ h => h) (by rfl) (fun _ => by first | (simp [go_sem]; done) | go_simp) hS0 ?_
                          try simp only [Act.put, List.setIfInBounds_toArray, List.set_cons_zero, List.set_cons_succ, List.getElem_toArray, List.getElem_cons_zero, List.getElem_cons_succ]
                          refine wpAnyZ_takeW 6 (.int .i64 Lw) rfl (by kernel_rfl) (by kernel_rfl) (fun _ _ _ h => h) (by rfl) (fun _ => by first | (simp [go_sem]; done) | go_simp) hS0 ?_
                          try simp only [Act.put, List.setIfInBounds_toArray, List.set_cons_zero, List.set_cons_succ, List.getElem_toArray, List.getElem_cons_zero, List.getElem_cons_succ]
                          refine wpAnyZ_takeW 7 (.pointer (some ⟨gA, Lw, none⟩)) rfl (by kernel_rfl) (by kernel_rfl) (fun _ _ _ h => h) (by rfl) (fun _ => by simp [go_sem, hLL]) hS0 ?_
                          try simp only [Act.put, List.setIfInBounds_toArray, List.set_cons_zero, List.set_cons_succ, List.getElem_toArray, List.getElem_cons_zero, List.getElem_cons_succ]
                          refine wpAnyZ_take 8 (.slice (some ⟨b, 0, none⟩) dim dim) rfl (by kernel_rfl) (by kernel_rfl) (fun _ _ _ h => h) (by rfl) (fun _ hS => by have q0 := hS.1; clear hS; first | (simp [go_sem, q0]; done) | go_simp) hS0 ?_
                          try simp only [Act.put, List.setIfInBounds_toArray, List.set_cons_zero, List.set_cons_succ, List.getElem_toArray, List.getElem_cons_zero, List.getElem_cons_succ]
                          refine wpAnyZ_takeW 9 (.int .i64 d) rfl (by kernel_rfl) (by kernel_rfl) (fun _ _ _ h => h) (by rfl) (fun _ => by first | (simp [go_sem]; done) | go_simp) hS0 ?_
                          try simp only [Act.put, List.setIfInBounds_toArray, List.set_cons_zero, List.set_cons_succ, List.getElem_toArray, List.getElem_cons_zero, List.getElem_cons_succ]
                          refine wpAnyZ_takeW 10 (.pointer (some ⟨b, d, none⟩)) rfl (by kernel_rfl) (by kernel_rfl) (fun _ _ _ h => h) (by rfl) (fun _ => by simp [go_sem, hlt]) hS0 ?_
                          try simp only [Act.put, List.setIfInBounds_toArray, List.set_cons_zero, List.set_cons_succ, List.getElem_toArray, List.getElem_cons_zero, List.getElem_cons_succ]
                          refine wpAnyZ_take 11 (.int .i64 acc) rfl (by kernel_rfl) (by kernel_rfl) (fun _ _ _ h => h) (by rfl) (fun _ hS => by have q0 := hS.2.1; clear hS; first | (simp [go_sem, q0]; done) | go_simp) hS0 ?_
                          try simp only [Act.put, List.setIfInBounds_toArray, List.set_cons_zero, List.set_cons_succ, List.getElem_toArray, List.getElem_cons_zero, List.getElem_cons_succ]
                          refine wpAnyZ_takeW 12 (.pointer (some ⟨w.heap.size, 1, none⟩)) rfl (by kernel_rfl) (by kernel_rfl) (fun _ _ _ h => h) (by rfl) (fun _ => by first | (simp [go_sem]; done) | go_simp) hS0 ?_
                          try simp only [Act.put, List.setIfInBounds_toArray, List.set_cons_zero, List.set_cons_succ, List.getElem_toArray, List.getElem_cons_zero, List.getElem_cons_succ]
                          refine wpAnyZ_take 13 (.slice (some ta) (cntN o) ct) rfl (by kernel_rfl) (by kernel_rfl) (fun _ _ _ h => h) (by rfl) (fun _ hS => by have q0 := hS.2.2.1; clear hS; first | (simp [go_sem, q0]; done) | go_simp) hS0 ?_
                          try simp only [Act.put, List.setIfInBounds_toArray, List.set_cons_zero, List.set_cons_succ, List.getElem_toArray, List.getElem_cons_zero, List.getElem_cons_succ]
                          refine wpAnyZ_takeW 14 (.int .i64 p) rfl (by kernel_rfl) (by kernel_rfl) (fun _ _ _ h => h) (by rfl) (fun _ => by first | (simp [go_sem]; done) | go_simp) hS0 ?_
                          try simp only [Act.put, List.setIfInBounds_toArray, List.set_cons_zero, List.set_cons_succ, List.getElem_toArray, List.getElem_cons_zero, List.getElem_cons_succ]
                          refine wpAnyZ_takeW 15 (.pointer (some (ta.add p))) rfl (by kernel_rfl) (by kernel_rfl) (fun _ _ _ h => h) (by rfl) (fun _ => by simp [go_sem, hlt2]) hS0 ?_
                          try simp only [Act.put, List.setIfInBounds_toArray, List.set_cons_zero, List.set_cons_succ, List.getElem_toArray, List.getElem_cons_zero, List.getElem_cons_succ]
                          refine wpAnyZ_take 16 (.int .i64 tv) rfl (by kernel_rfl) (by kernel_rfl) (fun _ _ _ h => h) (by rfl) (fun _ hS => by have q0 := hS.2.2.2.1; clear hS; first | (simp [go_sem, q0]; done) | go_simp) hS0 ?_
                          try simp only [Act.put, List.setIfInBounds_toArray, List.set_cons_zero, List.set_cons_succ, List.getElem_toArray, List.getElem_cons_zero, List.getElem_cons_succ]
                          refine wpAnyZ_takeW 17 (.slice (some ⟨gv, 0, none⟩) 1 cv) rfl (by kernel_rfl) (by kernel_rfl) (fun _ _ _ h => h) (by rfl) (fun _ => by first | (simp [go_sem]; done) | go_simp) hS0 ?_
                          try simp only [Act.put, List.setIfInBounds_toArray, List.set_cons_zero, List.set_cons_succ, List.getElem_toArray, List.getElem_cons_zero, List.getElem_cons_succ]
                          refine wpAnyZ_takeW 18 (.pointer (some ⟨gv, 0, none⟩)) rfl (by kernel_rfl) (by kernel_rfl) (fun _ _ _ h => h) (by rfl) (fun _ => by first | (simp [go_sem]; done) | go_simp) hS0 ?_
                          try simp only [Act.put, List.setIfInBounds_toArray, List.set_cons_zero, List.set_cons_succ, List.getElem_toArray, List.getElem_cons_zero, List.getElem_cons_succ]
                          refine wpAnyZ_take 19 (.int .i64 vv) rfl (by kernel_rfl) (by kernel_rfl) (fun _ _ _ h => h) (by rfl) (fun _ hS => by have q0 := hS.2.2.2.2; clear hS; first | (simp [go_sem, q0]; done) | go_simp) hS0 ?_
                          try simp only [Act.put, List.setIfInBounds_toArray, List.set_cons_zero, List.set_cons_succ, List.getElem_toArray, List.getElem_cons_zero, List.getElem_cons_succ]
                          refine wpAnyZ_one 20 (by kernel_rfl) rfl (by rfl) (fun K hK => ?_)
                          go_simp
                          refine (spec_Times tv vv _ HTR.out HVR.out).mono ?_
                          rintro e x2 ⟨rfl, rfl⟩
                          go_wp2_with fail
                          refine hK.out _ _ hS0 ?_
                          clear hK K
                          try simp only [Act.put, List.setIfInBounds_toArray, List.set_cons_zero, List.set_cons_succ, List.getElem_toArray, List.getElem_cons_zero, List.getElem_cons_succ]
                          refine wpAnyZ_one 21 (by kernel_rfl) rfl (by rfl) (fun K hK => ?_)
                          go_simp
                          refine (spec_Plus acc (timesF tv vv) _ HAR.out HTR2.out).mono ?_
                          rintro e x2 ⟨rfl, rfl⟩
                          go_wp2_with fail
                          refine hK.out _ _ hS0 ?_
                          clear hK K
                          try simp only [Act.put, List.setIfInBounds_toArray, List.set_cons_zero, List.set_cons_succ, List.getElem_toArray, List.getElem_cons_zero, List.getElem_cons_succ]
                          refine wpAnyZ_takeW 22 (.pointer (some ⟨b, d, none⟩)) rfl (by kernel_rfl) (by kernel_rfl) (fun _ _ _ h => h) (by rfl) (fun _ => by simp [go_sem, hlt]) hS0 ?_
                          try simp only [Act.put, List.setIfInBounds_toArray, List.set_cons_zero, List.set_cons_succ, List.getElem_toArray, List.getElem_cons_zero, List.getElem_cons_succ]
                          have c0 := hS0.2.1
                          refine wpAnyZ_last (by kernel_rfl) rfl (by kernel_rfl) (by rfl) (fun K hK => ?_)
                          go_simp
                          refine hK _ _ ?_
                          clear hK K hS0 c0 f0
                          have hM5 := hM4.out.store HGB.out HXB.out d (x := plusF acc (timesF tv vv)) (by have := plusF_bd acc (timesF tv vv); constructor <;> omega)
                          rw [← HXS.out] at hM5
                          have hst : (matF ts (wordV ps qs ys dim) o dim (cntN o) d p).set Lw (((List.range dim).map (fun d' => accW ts (wordV ps qs ys dim d') Lw (if d' < d then cntN o else if d' = d then p else 0))).set d (plusF acc (timesF tv vv))) = matF ts (wordV ps qs ys dim) o dim (cntN o) d (p + 1) := by
                            have hl2 : (wordL p).length ≤ o := by rw [← HLW.out]; exact hLo
                            have e := mat_step ts (wordV ps qs ys dim) o dim (cntN o) d p hlt hl2
                            rw [HGT.out, ← HLW.out, ← HACC.out, ← HVV.out] at e
                            exact e.symm
                          rw [hst] at hM5
                          have hLx := hL4.out.setLow (p := ⟨b, d, none⟩) (by show b < L7; omega) (.int .i64 (plusF acc (timesF tv vv)))
                          have hEx := hE4.out.below (B := w.heap.size + 3) ((Below.refl _ _).setCell (p := ⟨b, d, none⟩) (by show w.heap.size + 3 ≤ b; omega) (.int .i64 (plusF acc (timesF tv vv)))) (Nat.le_refl _)
                          have hsx : (V.setCell ⟨b, d, none⟩ (.int .i64 (plusF acc (timesF tv vv)))).heap.size = V.heap.size := by simp [World.setCell]
                          have HMx := hide hM5
                          have HLx := hide hLx
                          have HEx := hide hEx
                          have hLh : hL ≤ (V.setCell ⟨b, d, none⟩ (.int .i64 (plusF acc (timesF tv vv)))).heap.size := by omega
                          clear hM5 hst hLx hEx hsx
                          generalize V.setCell ⟨b, d, none⟩ (.int .i64 (plusF acc (timesF tv vv))) = WX at HMx HLx HEx hLh ⊢
                          go_wp2_with fail
                          go_roundw
                          case rel => exact ⟨p + 1, by omega, by go_num, HMx.out, HEx.out, HLx.out, hLh⟩
                          case measure => simp [intOf]; omega
                    · obtain rfl : p = cntN (o : Int) := by omega
                      rw [mat_next] at hM
                      go_wp2_with fail
                      go_roundw
                      case rel => exact ⟨d + 1, by omega, by go_num, hM.out, hE.out, by omega⟩
                      case measure => simp [intOf]; omega
            · obtain rfl : d = dim := by omega
              have hM5 := hide (hM.out.low (lo' := w.heap.size) (by omega))
              have hB := hE.out.low
              go_wp2_with fail
              go_ret
              exact ⟨hB, .inr ⟨o, d, _, _, _, gf, gs, HOK.out.1, HOK.out.2, rfl, hM5.out, hgfw⟩⟩
end Go.Proofs.Ytjamdnbabfodkaa
