/- Words of two fields along a point: the program's walk. -/
import Derived.Test.YtjamdnbabfodkaaSoV
namespace Go.Proofs.Ytjamdnbabfodkaa
open Go.RowKit
set_option linter.unusedSimpArgs false
set_option linter.unusedVariables false
set_option maxRecDepth 20000

theorem info_rowW : (Try.prog.info? 22).map (fun i => (i.zero, i.size, i.bytes)) = some (some (.slice none 0 0), 1, 24) := by kernel_rfl
theorem MatO.low {w : World} {lo lo' hi n c dim : Nat} {A : Option Addr} {gs : List Nat} {xss : List (List Int)} (h : MatO w lo hi A n c dim gs xss) (hl : lo' ≤ lo) : MatO w lo' hi A n c dim gs xss :=
  ⟨owns_low h.own hl, h.gl, h.xl, fun j b xs hg hx => ⟨owns_low (h.row j b xs hg hx).1 hl, (h.row j b xs hg hx).2⟩, h.sep, h.nodup, h.lt⟩
theorem info_monosW : (Try.prog.info? 54).map (fun i => (i.zero, i.size, i.bytes)) = some (some (.slice none 0 0), 1, 24) := by kernel_rfl
theorem EnvW.same {w wr w' : World} {va vf vg : Array Value} (h : EnvW w wr va vf vg) {B : Nat} (hb : Below B wr w') (hB : w.heap.size + 3 ≤ B) : EnvW w w' va vf vg := h.below hb hB

set_option maxRecDepth 100000 in
set_option maxHeartbeats 16000000 in
theorem impl_WordsAlong_good (o dim : Nat) (TA : Option Addr) (ct : Nat) (ts : List Int) (F : Option Addr) (ef : Nat) (ps : List (List Mono)) (G : Option Addr) (eg : Nat) (qs : List (List Mono)) (Y : Option Addr) (dy : Nat) (ys : List Int) (w : World) (h : Ints w 0 w.heap.size TA (cntN o) ct ts) (hf : Mons2 w 0 w.heap.size F dim ef ps) (hg : Mons2 w 0 w.heap.size G dim eg qs) (hy : Ints w 0 w.heap.size Y dim dy ys) (hlf : ∀ p ∈ ps, ∀ m ∈ p, m.2.length ≤ 1048576) (hlg : ∀ p ∈ qs, ∀ m ∈ p, m.2.length ≤ 1048576) (hok : okWL o ts dim ps dim qs ys = true) (ho : o ≤ 5) (hd0 : 0 < dim) (hd3 : dim ≤ 3) (hfp : FldP dim ps) (hgp : FldP dim qs) (htn : ∀ x ∈ ts, 0 ≤ x ∧ x < 1000000271) :
    Calls Try.prog 10 #[.agg #[.int .i64 o, .slice TA (cntN o) ct], .agg #[.int .i64 dim, .slice F dim ef], .agg #[.int .i64 dim, .slice G dim eg], .slice Y dim dy] w fun r w' => ∃ A' n' c' hi gs, r = .returned (.slice A' n' c') ∧ MatO w' w.heap.size hi A' n' c' dim gs (matF ts (wordV ps qs ys dim) o dim (cntN o) dim 0) ∧ hi ≤ w'.heap.size ∧ Below w.heap.size w w' := by
  obtain ⟨i2, hi2, hx0, hx1, hx2⟩ := info_parts info_rowW
  obtain ⟨i3, hi3, hy0, hy1, hy2⟩ := info_parts info_monosW
  have q1 := h.cap
  have q2 := h.max
  have q3 := hf.cap
  have q4 := hf.max
  have q5 := hg.cap
  have q6 := hg.max
  have q7 := hy.cap
  have q8 := hy.max
  have HT := hide h
  have HF := hide hf
  have HG := hide hg
  have HYy := hide hy
  have HLF := hide hlf
  have HLG := hide hlg
  have HOK := hide hok
  have HTN := hide htn
  have hcnt := cntN_bd (o := o) (by omega)
  have HE := hide (EnvW.start w #[.int .i64 o, .slice TA (cntN o) ct] #[.int .i64 dim, .slice F dim ef] #[.int .i64 dim, .slice G dim eg] 32 36 36)
  clear h hf hg hy hlf hlg hok htn
  go_enter Try.func10, Try.ntmps10
  go_upto_region 1 with fail
  generalize ((w.alloc (.cells #[.int .i64 o, .slice TA (cntN o) ct] 32)).alloc (.cells #[.int .i64 dim, .slice F dim ef] 36)).alloc (.cells #[.int .i64 dim, .slice G dim eg] 36) = W3 at HE ⊢
  go_cut [59] (fun v wx => v = .bool (!okWL o ts dim ps dim qs ys) ∧ Hid (Below W3.heap.size W3 wx))
  case first =>
    as_aux_lemma =>
    have E0 := hide (And.intro HE.out (Below.refl W3.heap.size W3))
    have c0ba0 := E0.out.1.ba.c 0 rfl
    have c0ba1 := E0.out.1.ba.c 1 rfl
    go_wp2_with fail
    clear c0ba0 c0ba1
    refine (impl_WordsOk o TA (cntN o) ct ts 0 w.heap.size W3 (HT.out.below E0.out.1.low (Nat.le_refl _)) E0.out.1.low.size).mono ?_
    rintro r w1 ⟨rfl, b1⟩
    have E1 := hide (And.intro (E0.out.1.keep b1) (E0.out.2.trans (b1.mono E0.out.2.size)))
    clear b1
    cases h1 : wordsOkF o ts with
    | false =>
      go_wp2_with fail
      go_meet
      case rel => exact ⟨by simp [okWL, h1], E1.out.2⟩
    | true =>
      have c1bf0 := E1.out.1.bf.c 0 rfl
      have c1bf1 := E1.out.1.bf.c 1 rfl
      go_wp2_with fail
      clear c1bf0 c1bf1
      refine (impl_FieldOk (dim : Int) F dim ef ps 0 w.heap.size w1 (HF.out.below E1.out.1.low (Nat.le_refl _)) E1.out.1.low.size HLF.out).mono ?_
      rintro r w2 ⟨rfl, b2⟩
      have E2 := hide (And.intro (E1.out.1.keep b2) (E1.out.2.trans (b2.mono E1.out.2.size)))
      clear b2
      cases h2 : fieldF (dim : Int) ps with
      | false =>
        go_wp2_with fail
        go_meet
        case rel => exact ⟨by simp [okWL, h1, h2], E2.out.2⟩
      | true =>
        have c2bg0 := E2.out.1.bg.c 0 rfl
        have c2bg1 := E2.out.1.bg.c 1 rfl
        go_wp2_with fail
        clear c2bg0 c2bg1
        refine (impl_FieldOk (dim : Int) G dim eg qs 0 w.heap.size w2 (HG.out.below E2.out.1.low (Nat.le_refl _)) E2.out.1.low.size HLG.out).mono ?_
        rintro r w3 ⟨rfl, b3⟩
        have E3 := hide (And.intro (E2.out.1.keep b3) (E2.out.2.trans (b3.mono E2.out.2.size)))
        clear b3
        have c3bf0 := E3.out.1.bf.c 0 rfl
        have c3bf1 := E3.out.1.bf.c 1 rfl
        have c3bg0 := E3.out.1.bg.c 0 rfl
        have c3bg1 := E3.out.1.bg.c 1 rfl
        cases h3 : fieldF (dim : Int) qs with
        | false =>
          go_wp2_with fail
          go_meet
          case rel => exact ⟨by simp [okWL, h1, h2, h3], E3.out.2⟩
        | true =>
          have h4b : ((dim : Int) != (dim : Int)) = false := by simp
          by_cases h5 : (dim : Int) ≤ 3
          · have h5b : decide (3 < (dim : Int)) = false := by simp; omega
            have h5c : ¬ 3 < (dim : Int) := by omega
            go_wp2_with fail
            clear c3bf0 c3bf1 c3bg0 c3bg1
            refine (impl_low (dim : Int) F dim ef ps 0 w.heap.size w3 (HF.out.below E3.out.1.low (Nat.le_refl _)) E3.out.1.low.size HLF.out).mono ?_
            rintro r w4 ⟨rfl, b4⟩
            have E4 := hide (And.intro (E3.out.1.keep b4) (E3.out.2.trans (b4.mono E3.out.2.size)))
            clear b4
            cases h6 : lowF ps with
            | false =>
              go_wp2_with fail
              go_meet
              case rel => exact ⟨by simp [okWL, h1, h2, h3, h6], E4.out.2⟩
            | true =>
              have c4bf0 := E4.out.1.bf.c 0 rfl
              have c4bf1 := E4.out.1.bf.c 1 rfl
              have c4bg0 := E4.out.1.bg.c 0 rfl
              have c4bg1 := E4.out.1.bg.c 1 rfl
              go_wp2_with fail
              clear c4bf0 c4bf1 c4bg0 c4bg1
              refine (impl_low (dim : Int) G dim eg qs 0 w.heap.size w4 (HG.out.below E4.out.1.low (Nat.le_refl _)) E4.out.1.low.size HLG.out).mono ?_
              rintro r w5 ⟨rfl, b5⟩
              have E5 := hide (And.intro (E4.out.1.keep b5) (E4.out.2.trans (b5.mono E4.out.2.size)))
              clear b5
              cases h7 : lowF qs with
              | false =>
                go_wp2_with fail
                go_meet
                case rel => exact ⟨by simp [okWL, h1, h2, h3, h6, h7], E5.out.2⟩
              | true =>
                have c5bf0 := E5.out.1.bf.c 0 rfl
                have c5bf1 := E5.out.1.bf.c 1 rfl
                have HPa := hide (impl_PathOk (some ⟨w5.heap.size, 0, none⟩) 1 1 [ys] 0 (w5.heap.size + 1) (dim : Int) (w5.alloc (.cells #[.slice Y dim dy] 22)) (ints2_row (HYy.out.below E5.out.1.low (Nat.le_refl _)) E5.out.1.low.size _))
                have c6 : (w5.alloc (.cells #[.slice Y dim dy] 22)).cell? ⟨w.heap.size + 1, 0, none⟩ = some (.int .i64 (dim : Int)) := cell_al c5bf0
                go_wp2_with fail
                refine HPa.out.mono ?_
                rintro r w6 ⟨rfl, rfl⟩
                have E6 := E5.out.2.trans ((below_alloc w5 (.cells #[.slice Y dim dy] 22)).mono E5.out.2.size)
                clear c5bf0 c5bf1
                clear c6
                cases h8 : pathOkF [ys] (dim : Int) with
                | false =>
                  go_wp2_with fail
                  go_meet
                  case rel => exact ⟨by simp [okWL, h8], E6⟩
                | true =>
                  go_wp2_with fail
                  go_meet
                  case rel => exact ⟨by simp [okWL, h1, h2, h3, h6, h7, h5, h8], E6⟩
          · exfalso
            omega
  case rest =>
    obtain ⟨rfl, hb⟩ := hcut
    have hnn : (!okWL o ts dim ps dim qs ys) = false := by rw [HOK.out]; rfl
    have HE1 := hide (HE.out.keep hb.out)
    rw [hnn]
    clear HE hb hnn
    have hzc := HE1.out.size
    have HM0 := hide (MatO.empty wc (w.heap.size + 3) dim hzc)
    have HE2 := hide (HE1.out.keep (below_alloc wc (.cells #[] 22)))
    have c0 := HE2.out.ba.c 0 rfl
    have hw0 : IntKind.i64.wrap ((o : Int) + 1) = ((o + 1 : Nat) : Int) := by rw [show ((o + 1 : Nat) : Int) = (o : Int) + 1 by simp]; exact IntWalk.i64_in _ (by omega)
    obtain ⟨N, hN⟩ : ∃ N, N = o + 1 := ⟨_, rfl⟩
    rw [← hN] at hw0
    have HN := hide hN
    have hNb : N ≤ 6 ∧ 1 ≤ N := by omega
    clear hN
    go_wp2_with fail
    clear c0 HE1 hw0
    have hsz5 : (wc.alloc (.cells #[] 22)).heap.size = wc.heap.size + 1 := by simp
    rw [← hsz5] at HM0
    clear hsz5
    generalize wc.alloc (.cells #[] 22) = W5 at HM0 HE2 ⊢
    go_loopw [9, 64] (fun u i wr => ∃ (k c' : Nat) (A' : Option Addr) (gs : List Nat), k ≤ N ∧ i = .int .i64 k ∧ u = .slice A' k c' ∧ Hid (MatO wr (w.heap.size + 3) wr.heap.size A' k c' dim gs (List.replicate k (zeroJ dim))) ∧ Hid (EnvW w wr #[.int .i64 o, .slice TA (cntN o) ct] #[.int .i64 dim, .slice F dim ef] #[.int .i64 dim, .slice G dim eg])) (fun _ i _ => N - (intOf i).toNat)
    case atStart => exact ⟨0, 0, _, [], by omega, rfl, rfl, HM0.out, HE2.out⟩
    case round =>
      clear HM0 HE2
      obtain ⟨k, c', A', gs, hk, rfl, rfl, hM, hE⟩ := hrel
      by_cases hlt : k < N
      · have hmk := make_ints dim (by omega) wr
        have c1 := hE.out.bf.c 0 rfl
        have hcb := hM.out.capb
        have hzw := hE.out.size
        have hOw := owns_below hM.out.own (below_alloc wr (.cells (zeros dim) 3)) (fun ad e => (owns_lt hM.out.own ad e).2)
        have HOW := hide hOw
        clear hOw
        go_wp2_with (at_builtin; refine wpl_app1b rfl (.tmp 66) (.tmp 70) 30 rfl (w.heap.size + 3) 22 i2 (.slice none 0 0) 1 24 Try.underlying30 hi2 hx0 hx1 hx2 rfl (by omega) (wr.alloc (.cells (zeros dim) 3)) #[.slice (some ⟨wr.heap.size, 0, none⟩) dim dim] _ (by simp) A' k c' 1 _ rfl rfl HOW.out rfl (by simp [Value.oneCell']) (by omega) (by omega) (by simp; omega) ?_; intro A2 c2 w2 happ hlt2)
        have hM2 := hide (hM.out.push (Nat.le_refl _) (by omega) (by omega) happ)
        have hE2 : Hid (EnvW w w2 #[.int .i64 o, .slice TA (cntN o) ct] #[.int .i64 dim, .slice F dim ef] #[.int .i64 dim, .slice G dim eg]) := hE.out.below ((happ.low ((below_alloc wr (.cells (zeros dim) 3)).mono hzw) (by simp; omega) (Nat.le_refl _) HOW.out)) (Nat.le_refl _)
        have hrp : List.replicate k (zeroJ dim) ++ [zeroJ dim] = List.replicate (k + 1) (zeroJ dim) := by rw [← List.replicate_succ']
        rw [hrp] at hM2
        clear happ hM hE HOW hmk c1 hrp
        go_wp2_with fail
        go_roundw
        case rel => exact ⟨k + 1, c2, A2, _, by omega, by go_num, rfl, hM2.out, hE2.out⟩
        case measure => simp [intOf]; omega
      · obtain rfl : k = N := by omega
        obtain ⟨W6, hW6⟩ : ∃ z, z = wr := ⟨_, rfl⟩
        subst hW6
        have hrep : List.replicate k (zeroJ dim) = (matF ts (wordV ps qs ys dim) o dim (cntN o) 0 0) := by rw [mat_zero, HN.out]
        rw [hrep] at hM
        have hM7 := hide (hM.out.below (below_alloc W6 (.cells #[.int .i64 dim, .slice F dim ef, .int .i64 dim, .slice G dim eg] 36)) (Nat.le_refl _))
        have hE7 := hide (hE.out.keep (below_alloc W6 (.cells #[.int .i64 dim, .slice F dim ef, .int .i64 dim, .slice G dim eg] 36)))
        have hJ7 := hide (BlkN.new W6 #[.int .i64 dim, .slice F dim ef, .int .i64 dim, .slice G dim eg] 36)
        have f0 := hE.out.bf.c 0 rfl
        have f1 := hE.out.bf.c 1 rfl
        have f2 := hE.out.bg.c 0 rfl
        have f3 := hE.out.bg.c 1 rfl
        have hcM := hM.out.capb
        have hgsz := hE.out.size
        obtain ⟨gA, rfl, hgA1, hgA2⟩ := hM.out.form (by omega)
        clear hM hE hrep
        go_wp2_with fail
        clear f0 f1 f2 f3
        generalize W6.alloc (.cells #[.int .i64 dim, .slice F dim ef, .int .i64 dim, .slice G dim eg] 36) = W7 at hM7 hE7 hJ7 ⊢
        obtain ⟨gf, hgf⟩ : ∃ z, z = W6.heap.size := ⟨_, rfl⟩
        rw [← hgf] at hM7 hJ7 hgsz hgA2 ⊢
        clear hgf
        go_loopw [78] (fun i wr => ∃ (d : Nat), d ≤ dim ∧ i = .int .i64 d ∧ Hid (MatO wr (w.heap.size + 3) gf (some ⟨gA, 0, none⟩) k c' dim gs (matF ts (wordV ps qs ys dim) o dim (cntN o) d 0)) ∧ Hid (EnvW w wr #[.int .i64 o, .slice TA (cntN o) ct] #[.int .i64 dim, .slice F dim ef] #[.int .i64 dim, .slice G dim eg]) ∧ Hid (BlkN wr gf #[.int .i64 dim, .slice F dim ef, .int .i64 dim, .slice G dim eg])) (fun i _ => dim - (intOf i).toNat)
        case atStart => exact ⟨0, by omega, rfl, hM7.out, hE7.out, hJ7.out⟩
        case round =>
          clear hM7 hE7 hJ7
          obtain ⟨d, hd, rfl, hM, hE, hJ⟩ := hrel
          by_cases hlt : d < dim
          · have hsz := hE.out.size
            have hgfl := hJ.out.lt
            have aW := below_alloc wr (.cells #[] 54)
            have hM8 := hide (hM.out.below aW (by omega))
            have hE8 := hide (hE.out.keep aW)
            have hJ8 := hide (hJ.out.below aW)
            have hL8 := hide (Lst.empty kMo 54 (fun _ => True) wr wr.heap.size (Nat.le_refl _))
            have hz8 : (wr.alloc (.cells #[] 54)).heap.size = wr.heap.size + 1 := by simp
            rw [← hz8] at hL8
            have t1 := hE8.out.ba.c 1 rfl
            clear hM hE hJ aW hz8
            go_wp2_with fail
            clear t1
            generalize wr.alloc (.cells #[] 54) = W8 at hM8 hE8 hJ8 hL8 ⊢
            obtain ⟨L7, hL7⟩ : ∃ z, z = wr.heap.size := ⟨_, rfl⟩
            rw [← hL7] at hL8 hsz hgfl ⊢
            clear hL7
            go_loopw [12, 85] (fun u i wr => ∃ (p c2 : Nat) (A2 : Option Addr) (vs : List Value) (made : List (List Mono)), p ≤ cntN (o : Int) ∧ i = .int .i64 p ∧ u = .slice A2 p c2 ∧ Hid (Lst kMo 54 (fun _ => True) wr L7 wr.heap.size A2 p c2 vs made) ∧ Hid (∀ (q : Nat) (m : List Mono), made[q]? = some m → MadeP ps qs dim d (wordL q) m) ∧ Hid (MatO wr (w.heap.size + 3) gf (some ⟨gA, 0, none⟩) k c' dim gs (matF ts (wordV ps qs ys dim) o dim (cntN o) d p)) ∧ Hid (EnvW w wr #[.int .i64 o, .slice TA (cntN o) ct] #[.int .i64 dim, .slice F dim ef] #[.int .i64 dim, .slice G dim eg]) ∧ Hid (BlkN wr gf #[.int .i64 dim, .slice F dim ef, .int .i64 dim, .slice G dim eg]) ∧ L7 < wr.heap.size) (fun _ i _ => cntN (o : Int) - (intOf i).toNat)
            case atStart => exact ⟨0, 0, _, [], [], by omega, rfl, rfl, hL8.out, hide (fun q m hm => by simp at hm), hM8.out, hE8.out, hJ8.out, hL8.out.lt _ rfl⟩
            case round =>
              clear hM8 hE8 hJ8 hL8
              obtain ⟨p, c2, A2, vs, made, hp, rfl, rfl, hLst, hMd, hM, hE, hJ, hL7s⟩ := hrel
              by_cases hlt2 : p < cntN (o : Int)
              · obtain ⟨ta, tv, rfl, hct, _, _, htv⟩ := (HT.out.below hE.out.low (Nat.le_refl _)).at_ hlt2
                have hgt : ts.getD p 0 = tv := by rw [List.getD, htv.out]; rfl
                have HTV := hide (HTN.out tv (List.mem_of_getElem? htv.out))
                have HGT := hide hgt
                have HW := hide (impl_wordAt p wr (by omega))
                have hcL := hLst.out.capb
                clear htv hgt
                go_wp2_with fail
                refine HW.out.mono ?_
                rintro r w9 ⟨gw, cw, rfl, hOw, hb9⟩
                have hzw := hE.out.size
                have hlp := wordL_len5 (p := p) (by omega)
                have hLst9 := hide (hLst.out.below hb9 (Nat.le_refl _))
                have hM9 := hide (hM.out.below hb9 (by omega))
                have hE9 := hide (hE.out.keep hb9)
                have hJ9 := hide (hJ.out.below hb9)
                have HOw := hide hOw
                have hcw := hOw.cap
                have hcw2 := hOw.max
                obtain ⟨W8, hW8⟩ : ∃ z, z = wr := ⟨_, rfl⟩
                subst hW8
                have hz9 := hb9.size
                clear hLst hM hE hJ hOw hb9 HW
                go_upto_if 94 with fail
                obtain ⟨Lw, hLw⟩ : ∃ z, z = (wordL p).length := ⟨_, rfl⟩
                rw [← hLw] at HOw hcw hlp ⊢
                have HLW := hide hLw
                clear hLw
                go_cut [12] (fun u wx => ∃ (c3 : Nat) (A3 : Option Addr) (vs3 : List Value) (m3 : List Mono), u = .slice A3 (p + 1) c3 ∧ Hid (Lst kMo 54 (fun _ => True) wx L7 wx.heap.size A3 (p + 1) c3 vs3 (made ++ [m3])) ∧ Hid (MadeP ps qs dim d (wordL p) m3) ∧ Hid (Below L7 w9 wx) ∧ Hid (Same W8.heap.size w9.heap.size w9 wx) ∧ w9.heap.size ≤ wx.heap.size)
                case first =>
                  as_aux_lemma =>
                  by_cases hp0 : p = 0
                  · subst hp0
                    obtain rfl : Lw = 0 := by have h := HLW.out; rw [wordL_zero] at h; exact h
                    have hwl0 : Hid (wordL 0 = []) := wordL_zero
                    have hmk := make_ints dim (by omega) w9
                    have c1 := hE9.out.bf.c 0 rfl
                    have hown0 := owns_zeros (w9.alloc (.cells (zeros dim) 3)) dim (by omega) (lo := 0) (Nat.zero_le _)
                    have hz0 : (w9.alloc (.cells (zeros dim) 3)).ownsRow w9.heap.size 3 1 (.slice (some ⟨w9.heap.size, 0, none⟩) dim dim) dim ((zeroJ dim).map (Value.int .i64)) := owns_zeros w9 dim (by omega) (Nat.le_refl _)
                    have a1 := below_alloc w9 (.cells (zeros dim) 3)
                    have a2 := below_alloc (w9.alloc (.cells (zeros dim) 3)) (.cells #[.int .i64 1, .slice (some ⟨w9.heap.size, 0, none⟩) dim dim] 53)
                    have j2 := BlkN.new (w9.alloc (.cells (zeros dim) 3)) #[.int .i64 1, .slice (some ⟨w9.heap.size, 0, none⟩) dim dim] 53
                    have zz : (w9.alloc (.cells (zeros dim) 3)).heap.size = w9.heap.size + 1 := by simp
                    rw [zz] at j2
                    have hz2 := owns_below hz0 a2 (fun ad e => (owns_lt hz0 ad e).2)
                    have b10 := a1.trans (a2.mono a1.size)
                    have hs10 : w9.heap.size + 1 < ((w9.alloc (.cells (zeros dim) 3)).alloc (.cells #[.int .i64 1, .slice (some ⟨w9.heap.size, 0, none⟩) dim dim] 53)).heap.size := by simp
                    have HZ2 := hide hz2
                    have HB10 := hide b10
                    have HJ2 := hide j2
                    clear hown0 hz0 a1 a2 j2 zz hz2 b10
                    go_upto_region 19 with fail
                    clear hmk c1
                    generalize (w9.alloc (.cells (zeros dim) 3)).alloc (.cells #[.int .i64 1, .slice (some ⟨w9.heap.size, 0, none⟩) dim dim] 53) = W10 at HZ2 HB10 HJ2 hs10 ⊢
                    have y1 := HJ2.out.c 1 rfl
                    have y2 := (HZ2.out.cellAt d (by omega)).trans (by rw [List.getElem?_map]; simp [zeroJ, hlt] : ((zeroJ dim).map (Value.int .i64))[d]? = some (.int .i64 0))
                    have y3 := HZ2.out.frozenAt d
                    have hst := (HZ2.out.stored d (.int .i64 1)).1
                    rw [← List.map_set] at hst
                    have hb11 := HB10.out.setCell (p := ⟨w9.heap.size, d, none⟩) (Nat.le_refl _) (.int .i64 1)
                    have hj11 := HJ2.out.far (b := w9.heap.size) (i := d) (by omega) (.int .i64 1)
                    have hs11 : w9.heap.size + 1 < (W10.setCell ⟨w9.heap.size, d, none⟩ (.int .i64 1)).heap.size := by simpa [World.setCell] using hs10
                    have HST := hide hst
                    have HB11 := hide hb11
                    have HJ11 := hide hj11
                    have HS11 := hide hs11
                    clear hst hb11 hj11 hs11 hs10
                    go_upto_region 20 with fail
                    clear y1 y2 y3
                    generalize W10.setCell ⟨w9.heap.size, d, none⟩ (.int .i64 1) = W11 at HST HB11 HJ11 HS11 ⊢
                    clear HZ2 HB10 HJ2
                    have r0 := HJ11.out.c 0 rfl
                    have r1 := HJ11.out.c 1 rfl
                    have a3 := below_alloc W11 (.cells #[.int .i64 1, .slice (some ⟨w9.heap.size, 0, none⟩) dim dim] 53)
                    have j3 := BlkN.new W11 #[.int .i64 1, .slice (some ⟨w9.heap.size, 0, none⟩) dim dim] 53
                    have hb12 := HB11.out.trans (a3.mono HB11.out.size)
                    have hL12 := (hLst9.out.below HB11.out (by omega)).below a3 (by have := HB11.out.size; omega)
                    have hz12 := owns_below HST.out a3 (fun ad e => (owns_lt HST.out ad e).2)
                    have hz12s := a3.size
                    have HL12 := hide hL12
                    have HB12 := hide hb12
                    have hrd : kMo.rd (W11.alloc (.cells #[.int .i64 1, .slice (some ⟨w9.heap.size, 0, none⟩) dim dim] 53)) w9.heap.size (W11.alloc (.cells #[.int .i64 1, .slice (some ⟨w9.heap.size, 0, none⟩) dim dim] 53)).heap.size (.slice (some ⟨W11.heap.size, 0, none⟩) 1 1) [unitM dim d] := by
                      refine ⟨_, 1, 1, rfl, rfl, Nat.le_refl _, by omega, fun _ => ⟨_, rfl, HB11.out.size, j3.lt, fun q m hm => ?_⟩⟩
                      have hq : q = 0 := by
                        have := (List.getElem?_eq_some_iff.1 hm).1
                        simpa using this
                      subst hq
                      obtain rfl : unitM dim d = m := by simpa using hm
                      have hO : OwnI (W11.alloc (.cells #[.int .i64 1, .slice (some ⟨w9.heap.size, 0, none⟩) dim dim] 53)) w9.heap.size (W11.alloc (.cells #[.int .i64 1, .slice (some ⟨w9.heap.size, 0, none⟩) dim dim] 53)).heap.size (some ⟨w9.heap.size, 0, none⟩) dim dim ((zeroJ dim).set d 1) := ⟨hz12, fun ad e => (owns_lt hz12 ad e).2, fun x hx => by
                        rcases List.mem_or_eq_of_mem_set hx with h1 | h1
                        · have : x = 0 := by simp [zeroJ] at h1; exact h1.2
                          subst this; constructor <;> omega
                        · rw [h1]; constructor <;> omega⟩
                      exact ⟨j3.c 0 rfl, by constructor <;> simp [unitM], some ⟨w9.heap.size, 0, none⟩, dim, dim, j3.c 1 rfl, hO.ints⟩
                    have HRD := hide hrd
                    have hW12s : L7 ≤ (W11.alloc (.cells #[.int .i64 1, .slice (some ⟨w9.heap.size, 0, none⟩) dim dim] 53)).heap.size := by have := HB12.out.size; omega
                    clear a3 j3 hb12 hL12 hz12 hrd HB11
                    go_wp2_with (at_builtin; refine wpl_app1b rfl (.tmp 103) (.tmp 106) 34 rfl L7 54 i3 (.slice none 0 0) 1 24 Try.underlying34 hi3 hy0 hy1 hy2 rfl (by omega) (W11.alloc (.cells #[.int .i64 1, .slice (some ⟨w9.heap.size, 0, none⟩) dim dim] 53)) #[.slice (some ⟨W11.heap.size, 0, none⟩) 1 1] _ (by simp) A2 0 c2 1 _ rfl rfl HL12.out.own rfl (by simp [Value.oneCell']) (by omega) (by omega) hW12s ?_; intro A3 c3 w13 happ hlt13)
                    have hW8 : W8.heap.size ≤ w9.heap.size := hz9
                    have hm0 : made = [] := List.eq_nil_of_length_eq_zero hLst9.out.len
                    have hL13 := hide (HL12.out.push HRD.out (by omega) (Nat.le_refl _) (by omega) (by have := HB12.out.size; omega) happ)
                    have hB13 := hide (happ.low (HB12.out.mono (by omega : L7 ≤ w9.heap.size)) hW12s (Nat.le_refl _) HL12.out.own)
                    have hS13 : Hid (Same W8.heap.size w9.heap.size w9 w13) := fun k h1 h2 => (happ.2.1.block k (by have := HB12.out.size; omega) (fun e => by
                      obtain ⟨ad, e1, e2⟩ := ownBlock_eq.1 e.symm
                      have := hLst9.out.lt ad e1
                      omega)).trans (HB12.out.block k (by omega))
                    have hP13 : Hid (MadeP ps qs dim d (wordL 0) [unitM dim d]) := by
                      show MadeP _ _ _ _ _ _
                      rw [hwl0.out]
                      exact unitM_made ps qs dim d
                    have hs13 := hide hB13.out.size
                    clear happ HL12 HB12 HRD HST HJ11 r0 r1 hW12s
                    go_wp2_with fail
                    go_meet
                    case rel => exact ⟨c3, A3, _, [unitM dim d], rfl, hL13.out, hP13.out, hB13.out, hS13.out, by have := hB13.out.size; omega⟩
                  · obtain ⟨x, t, q, hwl, hqp, hwq, hx01⟩ := word_tail p (by omega)
                    have hw1 : 1 ≤ Lw := by
                      have h := HLW.out
                      rw [hwl] at h
                      simp at h
                      omega
                    have htl : t.length + 1 = Lw := by
                      have h := HLW.out
                      rw [hwl] at h
                      simp at h
                      omega
                    have hT1 : Ints w9 W8.heap.size w9.heap.size (if cw = 1 then some ⟨gw, 0, none⟩ else some ⟨gw, 1, none⟩) (Lw - 1) (cw - 1) t := by
                      have h := HOw.out.ints
                      rw [hwl] at h
                      exact h.tail_if
                    have hpl : placeF t = q := by
                      have h := place_tail (q := q) (by rw [hwq]; omega)
                      rwa [hwq] at h
                    obtain ⟨gm, rfl, hgm1, hgm2, _⟩ := hLst9.out.form (by omega : 0 < p)
                    obtain ⟨v, l, h', m, hcv, hrd, hl1, hl2, hmx⟩ := hLst9.out.at_ (k := q) (by omega) trivial
                    obtain ⟨Bm, nm, cm, rfl, hMm⟩ := hrd
                    have hMd1 := hMd.out q m hmx.out
                    rw [hwq] at hMd1
                    have hV9 : Below w9.heap.size w9 w9.drew := (Below.refl _ _).drew
                    have HP : Hid (Calls Try.prog 40 #[.slice (if cw = 1 then some ⟨gw, 0, none⟩ else some ⟨gw, 1, none⟩) (Lw - 1) (cw - 1)] w9.drew fun e w' => e = .returned (.int .i64 (q : Int)) ∧ w9.drew = w') := by
                      show Calls _ _ _ _ _
                      rw [← hpl]
                      exact impl_PlaceOfWord _ _ _ _ _ _ _ (hT1.below hV9 (Nat.le_refl _))
                    have hLV := hide (hLst9.out.below hV9 hz9)
                    have hJV := hide (hJ9.out.below hV9)
                    have hcVq := (hV9.cell (p := ⟨gm, q, none⟩) (World.block_lt_of_cell? _ _ hcv)).trans hcv
                    have hMV := hide (hMm.below hV9 (by omega))
                    have hEV := hide (hE9.out.below hV9 (by omega))
                    have hVz : w9.drew.heap.size = w9.heap.size := rfl
                    have HV9 := hide hV9
                    have HMd1 := hide hMd1
                    have hnm : nm ≤ 2000000000 := by
                      have h1 := hMm.len
                      have h2 := hMd1.len
                      have h3 := pow36 (L := t.length) (by omega)
                      omega
                    obtain ⟨TA, hTA⟩ : ∃ z, z = (if cw = 1 then (some ⟨gw, 0, none⟩ : Option Addr) else some ⟨gw, 1, none⟩) := ⟨_, rfl⟩
                    obtain ⟨L1, hL1⟩ : ∃ z, z = Lw - 1 := ⟨_, rfl⟩
                    obtain ⟨c1, hc1⟩ : ∃ z, z = cw - 1 := ⟨_, rfl⟩
                    rw [← hTA, ← hL1, ← hc1] at HP
                    have HTA := hide (And.intro hTA (And.intro hL1 hc1))
                    clear hTA hL1 hc1
                    have hpw : Hid (∀ a ∈ m, a.2.length = dim ∧ ∀ x ∈ a.2, 0 ≤ x ∧ x ≤ 1048576) := fun a ha => ⟨(hMd1.pow a ha).1, fun x hx => by have := (hMd1.pow a ha).2 x hx; omega⟩
                    have hwlH := hide hwl
                    have hLw1 : ¬ ((Lw : Int) < 1) := by omega
                    have hLw0 : 0 < Lw := by omega
                    have hLwn : ¬ Lw = 0 := by omega
                    have hcw0 : w9.drew.cell? ⟨gw, 0, none⟩ = some (.int .i64 x) := (HOw.out.own.cellAt 0 (by omega)).trans (by rw [hwl]; rfl)
                    clear hT1 hpl hcv hMm hV9 hMd1 hwl hwq
                    go_upto_region 21 with fail
                    rcases hx01 with rfl | rfl
                    · as_aux_lemma =>
                      refine wp_region_Z (fun W' => W'.cell? ⟨gw, 0, none⟩ = some (.int .i64 0) ∧ W'.cell? ⟨gf, 0, none⟩ = some (.int .i64 dim) ∧ W'.cell? ⟨gf, 1, none⟩ = some (.slice F dim ef)) 16 (by kernel_rfl) ?_
                      simp only [List.size_toArray, List.length_cons, List.length_nil, Nat.reduceAdd]
                      have hS0 : w9.drew.cell? ⟨gw, 0, none⟩ = some (.int .i64 0) ∧ w9.drew.cell? ⟨gf, 0, none⟩ = some (.int .i64 dim) ∧ w9.drew.cell? ⟨gf, 1, none⟩ = some (.slice F dim ef) := ⟨hcw0, hJV.out.c 0 rfl, hJV.out.c 1 rfl⟩
                      have hB0 : Below w9.drew.heap.size w9.drew w9.drew := Below.refl _ _
                      generalize w9.drew = V at HP hLV hJV hcVq hMV hEV hVz HV9 hS0 hB0 hcw0 ⊢
                      refine wpAnyZ_takeW 0 (.slice (some ⟨gm, 0, none⟩) p c2) rfl (by kernel_rfl) (by kernel_rfl) (fun _ _ _ h => h) (by rfl) (fun _ => by first | (simp [go_sem]; done) | go_simp) hS0 ?_
                      try simp only [Act.put, List.setIfInBounds_toArray, List.set_cons_zero, List.set_cons_succ, List.getElem_toArray, List.getElem_cons_zero, List.getElem_cons_succ]
                      refine wpAnyZ_takeW 1 (.slice (some ⟨gm, 0, none⟩) p c2) rfl (by kernel_rfl) (by kernel_rfl) (fun _ _ _ h => h) (by rfl) (fun _ => by first | (simp [go_sem]; done) | go_simp) hS0 ?_
                      try simp only [Act.put, List.setIfInBounds_toArray, List.set_cons_zero, List.set_cons_succ, List.getElem_toArray, List.getElem_cons_zero, List.getElem_cons_succ]
                      refine wpAnyZ_takeW 2 (.slice (some ⟨gw, 0, none⟩) Lw cw) rfl (by kernel_rfl) (by kernel_rfl) (fun _ _ _ h => h) (by rfl) (fun _ => by first | (simp [go_sem]; done) | go_simp) hS0 ?_
                      try simp only [Act.put, List.setIfInBounds_toArray, List.set_cons_zero, List.set_cons_succ, List.getElem_toArray, List.getElem_cons_zero, List.getElem_cons_succ]
                      refine wpAnyZ_takeW 3 (.slice TA L1 c1) rfl (by kernel_rfl) (by kernel_rfl) (fun _ _ _ h => h) (by rfl) (fun _ => by have h1 := HTA.out.1; have h2 := HTA.out.2.1; have h3 := HTA.out.2.2; simp [go_sem, hLw1, hLw0, hLwn, h1, h2, h3]) hS0 ?_
                      try simp only [Act.put, List.setIfInBounds_toArray, List.set_cons_zero, List.set_cons_succ, List.getElem_toArray, List.getElem_cons_zero, List.getElem_cons_succ]
                      refine wpAnyZ_takeW 7 (.slice (some ⟨gf, 0, none⟩) 2 2) rfl (by kernel_rfl) (by kernel_rfl) (fun _ _ _ h => h) (by rfl) (fun _ => by first | (simp [go_sem]; done) | go_simp) hS0 ?_
                      try simp only [Act.put, List.setIfInBounds_toArray, List.set_cons_zero, List.set_cons_succ, List.getElem_toArray, List.getElem_cons_zero, List.getElem_cons_succ]
                      refine wpAnyZ_takeW 8 (.slice (some ⟨gw, 0, none⟩) Lw cw) rfl (by kernel_rfl) (by kernel_rfl) (fun _ _ _ h => h) (by rfl) (fun _ => by first | (simp [go_sem]; done) | go_simp) hS0 ?_
                      try simp only [Act.put, List.setIfInBounds_toArray, List.set_cons_zero, List.set_cons_succ, List.getElem_toArray, List.getElem_cons_zero, List.getElem_cons_succ]
                      refine wpAnyZ_takeW 9 (.pointer (some ⟨gw, 0, none⟩)) rfl (by kernel_rfl) (by kernel_rfl) (fun _ _ _ h => h) (by rfl) (fun _ => by simp [go_sem, hLw1, hLw0, hLwn]) hS0 ?_
                      try simp only [Act.put, List.setIfInBounds_toArray, List.set_cons_zero, List.set_cons_succ, List.getElem_toArray, List.getElem_cons_zero, List.getElem_cons_succ]
                      refine wpAnyZ_take 10 (.int .i64 0) rfl (by kernel_rfl) (by kernel_rfl) (fun _ _ _ h => h) (by rfl) (fun _ hS => by have q0 := hS.1; clear hS; first | (simp [go_sem, q0]; done) | go_simp) hS0 ?_
                      try simp only [Act.put, List.setIfInBounds_toArray, List.set_cons_zero, List.set_cons_succ, List.getElem_toArray, List.getElem_cons_zero, List.getElem_cons_succ]
                      refine wpAnyZ_takeW 11 (.pointer (some ⟨gf, 0, none⟩)) rfl (by kernel_rfl) (by kernel_rfl) (fun _ _ _ h => h) (by rfl) (fun _ => by first | (simp [go_sem]; done) | go_simp) hS0 ?_
                      try simp only [Act.put, List.setIfInBounds_toArray, List.set_cons_zero, List.set_cons_succ, List.getElem_toArray, List.getElem_cons_zero, List.getElem_cons_succ]
                      refine wpAnyZ_take 12 (.agg #[.int .i64 dim, .slice F dim ef]) rfl (by kernel_rfl) (by kernel_rfl) (fun _ _ _ h => h) (by rfl) (fun _ hS => by have q0 := hS.2.1; have q1 := hS.2.2; clear hS; first | (simp [go_sem, q0, q1]; done) | go_simp) hS0 ?_
                      try simp only [Act.put, List.setIfInBounds_toArray, List.set_cons_zero, List.set_cons_succ, List.getElem_toArray, List.getElem_cons_zero, List.getElem_cons_succ]
                      refine wpAnyZ_one 4 (by kernel_rfl) rfl (by rfl) (fun K hK => ?_)
                      go_simp
                      refine (HP.out).mono ?_
                      rintro e x1 ⟨rfl, rfl⟩
                      clear HP
                      go_wp2_with fail
                      refine hK.out _ _ hS0 ?_
                      clear hK K
                      try simp only [Act.put, List.setIfInBounds_toArray, List.set_cons_zero, List.set_cons_succ, List.getElem_toArray, List.getElem_cons_zero, List.getElem_cons_succ]
                      refine wpAnyZ_takeW 5 (.pointer (some ⟨gm, q, none⟩)) rfl (by kernel_rfl) (by kernel_rfl) (fun _ _ _ h => h) (by rfl) (fun _ => by first | (simp [go_sem]; done) | go_simp) hS0 ?_
                      try simp only [Act.put, List.setIfInBounds_toArray, List.set_cons_zero, List.set_cons_succ, List.getElem_toArray, List.getElem_cons_zero, List.getElem_cons_succ]
                      refine wpAnyZ_one 6 (by kernel_rfl) rfl (by rfl) (fun K hK => ?_)
                      have qe6_0 := hcVq
                      go_simp
                      refine hK.out _ _ hS0 ?_
                      clear hK K qe6_0
                      try simp only [Act.put, List.setIfInBounds_toArray, List.set_cons_zero, List.set_cons_succ, List.getElem_toArray, List.getElem_cons_zero, List.getElem_cons_succ]
                      refine wpAnyZ_one 13 (by kernel_rfl) rfl (by rfl) (fun K hK => ?_)
                      go_simp
                      refine (impl_flowed Bm nm cm m l h' (dim : Int) F dim ef ps 0 w.heap.size dim V hMV.out (HF.out.below hEV.out.low (Nat.le_refl _)) (by omega) (by omega) hnm rfl hd0 (by omega) hpw.out (fun r hr => ⟨(hfp.part r hr).1, fun a ha => ⟨((hfp.part r hr).2 a ha).1, fun x hx => by have := ((hfp.part r hr).2 a ha).2 x hx; omega⟩⟩)).mono ?_
                      rintro e x2 ⟨A5, n5, c5, ms5, rfl, hM5, hC5, hb5⟩
                      have HM5 := hide hM5
                      have HC5 := hide hC5
                      have hB5 := hB0.trans hb5
                      have hz5 := hB5.size
                      have hS2 := And.intro ((hb5.cell (p := ⟨gw, 0, none⟩) (World.block_lt_of_cell? _ _ hS0.1)).trans hS0.1) (And.intro ((hb5.cell (p := ⟨gf, 0, none⟩) (World.block_lt_of_cell? _ _ hS0.2.1)).trans hS0.2.1) ((hb5.cell (p := ⟨gf, 1, none⟩) (World.block_lt_of_cell? _ _ hS0.2.2)).trans hS0.2.2))
                      clear hM5 hC5 hb5
                      go_wp2_with fail
                      refine hK.out _ _ hS2 ?_
                      clear hK K
                      try simp only [Act.put, List.setIfInBounds_toArray, List.set_cons_zero, List.set_cons_succ, List.getElem_toArray, List.getElem_cons_zero, List.getElem_cons_succ]
                      refine wpAnyZ_one 14 (by kernel_rfl) rfl (by rfl) (fun K hK => ?_)
                      go_simp
                      have hS3 := And.intro (((below_alloc x2 (.cells #[.slice A5 n5 c5] 54)).cell (p := ⟨gw, 0, none⟩) (World.block_lt_of_cell? _ _ hS2.1)).trans hS2.1) (And.intro (((below_alloc x2 (.cells #[.slice A5 n5 c5] 54)).cell (p := ⟨gf, 0, none⟩) (World.block_lt_of_cell? _ _ hS2.2.1)).trans hS2.2.1) (((below_alloc x2 (.cells #[.slice A5 n5 c5] 54)).cell (p := ⟨gf, 1, none⟩) (World.block_lt_of_cell? _ _ hS2.2.2)).trans hS2.2.2))
                      refine hK.out _ _ hS3 ?_
                      clear hK K
                      try simp only [Act.put, List.setIfInBounds_toArray, List.set_cons_zero, List.set_cons_succ, List.getElem_toArray, List.getElem_cons_zero, List.getElem_cons_succ]
                      refine wpAnyZ_one 15 (by kernel_rfl) rfl (by rfl) (fun K hK => ?_)
                      have HL5 := hide (hLV.out.below hB5 (by omega))
                      have hL75 : L7 ≤ x2.heap.size := by omega
                      refine owp_appJ (.tmp 108) (.tmp 122) 34 rfl L7 54 i3 (.slice none 0 0) 1 24 Try.underlying34 hi3 hy0 hy1 hy2 rfl (by omega) x2 #[.slice A5 n5 c5] _ rfl (some ⟨gm, 0, none⟩) p c2 1 _ rfl rfl HL5.out.own rfl (by simp [Value.oneCell']) (by omega) (by omega) hL75 ?_
                      intro A3 c3 w13 happ hlt13
                      have hL13 := hide (HL5.out.push (show kMo.rd x2 V.heap.size x2.heap.size (.slice A5 n5 c5) ms5 from ⟨_, _, _, rfl, HM5.out⟩) (by omega) (Nat.le_refl _) (by omega) (by omega) happ)
                      have hB9 : Below w9.heap.size w9 x2 := HV9.out.trans (hB5.mono (by omega))
                      have hB13 := hide (happ.low (hB9.mono (by omega : L7 ≤ w9.heap.size)) hL75 (Nat.le_refl _) HL5.out.own)
                      have hS13 : Hid (Same W8.heap.size w9.heap.size w9 w13) := fun k h1 h2 => (happ.2.1.block k (by omega) (fun e => by
                        obtain ⟨ad, e1, e2⟩ := ownBlock_eq.1 e.symm
                        have := hLst9.out.lt ad e1
                        omega)).trans (hB9.block k (by omega))
                      have hP13 : Hid (MadeP ps qs dim d (wordL p) ms5) := by
                        show MadeP _ _ _ _ _ _
                        rw [hwlH.out]
                        refine made_step hd3 hfp hgp HMd1.out (x := 0) (HC5.out.sum) HC5.out.num ?_ HC5.out.src
                        have h1 := HC5.out.len
                        have h2 := flow_len m ps 0 (fun r hr => (hfp.part r hr).1)
                        rw [hfp.len] at h2
                        exact Nat.le_trans h1 (Nat.le_trans h2 (Nat.mul_le_mul_left _ (by omega)))
                      have hs13 := hide hB13.out.size
                      have hS4 := And.intro (((OwnI.same HOw.out hS13.out).own.cellAt 0 (by omega)).trans (by rw [hwlH.out]; rfl : _ = some (.int .i64 0))) (And.intro ((hB13.out.cell (p := ⟨gf, 0, none⟩) hgfl).trans (hJ9.out.c 0 rfl)) ((hB13.out.cell (p := ⟨gf, 1, none⟩) hgfl).trans (hJ9.out.c 1 rfl)))
                      clear happ HL5 hS2 hS3 hB9 hB5
                      refine hK.out _ _ hS4 ?_
                      clear hK K
                      try simp only [Act.put, List.setIfInBounds_toArray, List.set_cons_zero, List.set_cons_succ, List.getElem_toArray, List.getElem_cons_zero, List.getElem_cons_succ]
                      refine wpAnyZ_last (by kernel_rfl) rfl (by kernel_rfl) (by rfl) (fun K hK => ?_)
                      clear hS4
                      go_simp
                      refine hK _ _ ?_
                      clear hK K
                      go_wp2_with fail
                      go_meet
                      case rel => exact ⟨c3, A3, _, ms5, rfl, hL13.out, hP13.out, hB13.out, hS13.out, by have := hB13.out.size; omega⟩
                    · as_aux_lemma =>
                      refine wp_region_Z (fun W' => W'.cell? ⟨gw, 0, none⟩ = some (.int .i64 1) ∧ W'.cell? ⟨gf, 2, none⟩ = some (.int .i64 dim) ∧ W'.cell? ⟨gf, 3, none⟩ = some (.slice G dim eg)) 16 (by kernel_rfl) ?_
                      simp only [List.size_toArray, List.length_cons, List.length_nil, Nat.reduceAdd]
                      have hS0 : w9.drew.cell? ⟨gw, 0, none⟩ = some (.int .i64 1) ∧ w9.drew.cell? ⟨gf, 2, none⟩ = some (.int .i64 dim) ∧ w9.drew.cell? ⟨gf, 3, none⟩ = some (.slice G dim eg) := ⟨hcw0, hJV.out.c 2 rfl, hJV.out.c 3 rfl⟩
                      have hB0 : Below w9.drew.heap.size w9.drew w9.drew := Below.refl _ _
                      generalize w9.drew = V at HP hLV hJV hcVq hMV hEV hVz HV9 hS0 hB0 hcw0 ⊢
                      refine wpAnyZ_takeW 0 (.slice (some ⟨gm, 0, none⟩) p c2) rfl (by kernel_rfl) (by kernel_rfl) (fun _ _ _ h => h) (by rfl) (fun _ => by first | (simp [go_sem]; done) | go_simp) hS0 ?_
                      try simp only [Act.put, List.setIfInBounds_toArray, List.set_cons_zero, List.set_cons_succ, List.getElem_toArray, List.getElem_cons_zero, List.getElem_cons_succ]
                      refine wpAnyZ_takeW 1 (.slice (some ⟨gm, 0, none⟩) p c2) rfl (by kernel_rfl) (by kernel_rfl) (fun _ _ _ h => h) (by rfl) (fun _ => by first | (simp [go_sem]; done) | go_simp) hS0 ?_
                      try simp only [Act.put, List.setIfInBounds_toArray, List.set_cons_zero, List.set_cons_succ, List.getElem_toArray, List.getElem_cons_zero, List.getElem_cons_succ]
                      refine wpAnyZ_takeW 2 (.slice (some ⟨gw, 0, none⟩) Lw cw) rfl (by kernel_rfl) (by kernel_rfl) (fun _ _ _ h => h) (by rfl) (fun _ => by first | (simp [go_sem]; done) | go_simp) hS0 ?_
                      try simp only [Act.put, List.setIfInBounds_toArray, List.set_cons_zero, List.set_cons_succ, List.getElem_toArray, List.getElem_cons_zero, List.getElem_cons_succ]
                      refine wpAnyZ_takeW 3 (.slice TA L1 c1) rfl (by kernel_rfl) (by kernel_rfl) (fun _ _ _ h => h) (by rfl) (fun _ => by have h1 := HTA.out.1; have h2 := HTA.out.2.1; have h3 := HTA.out.2.2; simp [go_sem, hLw1, hLw0, hLwn, h1, h2, h3]) hS0 ?_
                      try simp only [Act.put, List.setIfInBounds_toArray, List.set_cons_zero, List.set_cons_succ, List.getElem_toArray, List.getElem_cons_zero, List.getElem_cons_succ]
                      refine wpAnyZ_takeW 7 (.slice (some ⟨gf, 0, none⟩) 2 2) rfl (by kernel_rfl) (by kernel_rfl) (fun _ _ _ h => h) (by rfl) (fun _ => by first | (simp [go_sem]; done) | go_simp) hS0 ?_
                      try simp only [Act.put, List.setIfInBounds_toArray, List.set_cons_zero, List.set_cons_succ, List.getElem_toArray, List.getElem_cons_zero, List.getElem_cons_succ]
                      refine wpAnyZ_takeW 8 (.slice (some ⟨gw, 0, none⟩) Lw cw) rfl (by kernel_rfl) (by kernel_rfl) (fun _ _ _ h => h) (by rfl) (fun _ => by first | (simp [go_sem]; done) | go_simp) hS0 ?_
                      try simp only [Act.put, List.setIfInBounds_toArray, List.set_cons_zero, List.set_cons_succ, List.getElem_toArray, List.getElem_cons_zero, List.getElem_cons_succ]
                      refine wpAnyZ_takeW 9 (.pointer (some ⟨gw, 0, none⟩)) rfl (by kernel_rfl) (by kernel_rfl) (fun _ _ _ h => h) (by rfl) (fun _ => by simp [go_sem, hLw1, hLw0, hLwn]) hS0 ?_
                      try simp only [Act.put, List.setIfInBounds_toArray, List.set_cons_zero, List.set_cons_succ, List.getElem_toArray, List.getElem_cons_zero, List.getElem_cons_succ]
                      refine wpAnyZ_take 10 (.int .i64 1) rfl (by kernel_rfl) (by kernel_rfl) (fun _ _ _ h => h) (by rfl) (fun _ hS => by have q0 := hS.1; clear hS; first | (simp [go_sem, q0]; done) | go_simp) hS0 ?_
                      try simp only [Act.put, List.setIfInBounds_toArray, List.set_cons_zero, List.set_cons_succ, List.getElem_toArray, List.getElem_cons_zero, List.getElem_cons_succ]
                      refine wpAnyZ_takeW 11 (.pointer (some ⟨gf, 2, none⟩)) rfl (by kernel_rfl) (by kernel_rfl) (fun _ _ _ h => h) (by rfl) (fun _ => by first | (simp [go_sem]; done) | go_simp) hS0 ?_
                      try simp only [Act.put, List.setIfInBounds_toArray, List.set_cons_zero, List.set_cons_succ, List.getElem_toArray, List.getElem_cons_zero, List.getElem_cons_succ]
                      refine wpAnyZ_take 12 (.agg #[.int .i64 dim, .slice G dim eg]) rfl (by kernel_rfl) (by kernel_rfl) (fun _ _ _ h => h) (by rfl) (fun _ hS => by have q0 := hS.2.1; have q1 := hS.2.2; clear hS; first | (simp [go_sem, q0, q1]; done) | go_simp) hS0 ?_
                      try simp only [Act.put, List.setIfInBounds_toArray, List.set_cons_zero, List.set_cons_succ, List.getElem_toArray, List.getElem_cons_zero, List.getElem_cons_succ]
                      refine wpAnyZ_one 4 (by kernel_rfl) rfl (by rfl) (fun K hK => ?_)
                      go_simp
                      refine (HP.out).mono ?_
                      rintro e x1 ⟨rfl, rfl⟩
                      clear HP
                      go_wp2_with fail
                      refine hK.out _ _ hS0 ?_
                      clear hK K
                      try simp only [Act.put, List.setIfInBounds_toArray, List.set_cons_zero, List.set_cons_succ, List.getElem_toArray, List.getElem_cons_zero, List.getElem_cons_succ]
                      refine wpAnyZ_takeW 5 (.pointer (some ⟨gm, q, none⟩)) rfl (by kernel_rfl) (by kernel_rfl) (fun _ _ _ h => h) (by rfl) (fun _ => by first | (simp [go_sem]; done) | go_simp) hS0 ?_
                      try simp only [Act.put, List.setIfInBounds_toArray, List.set_cons_zero, List.set_cons_succ, List.getElem_toArray, List.getElem_cons_zero, List.getElem_cons_succ]
                      refine wpAnyZ_one 6 (by kernel_rfl) rfl (by rfl) (fun K hK => ?_)
                      have qe6_0 := hcVq
                      go_simp
                      refine hK.out _ _ hS0 ?_
                      clear hK K qe6_0
                      try simp only [Act.put, List.setIfInBounds_toArray, List.set_cons_zero, List.set_cons_succ, List.getElem_toArray, List.getElem_cons_zero, List.getElem_cons_succ]
                      refine wpAnyZ_one 13 (by kernel_rfl) rfl (by rfl) (fun K hK => ?_)
                      go_simp
                      refine (impl_flowed Bm nm cm m l h' (dim : Int) G dim eg qs 0 w.heap.size dim V hMV.out (HG.out.below hEV.out.low (Nat.le_refl _)) (by omega) (by omega) hnm rfl hd0 (by omega) hpw.out (fun r hr => ⟨(hgp.part r hr).1, fun a ha => ⟨((hgp.part r hr).2 a ha).1, fun x hx => by have := ((hgp.part r hr).2 a ha).2 x hx; omega⟩⟩)).mono ?_
                      rintro e x2 ⟨A5, n5, c5, ms5, rfl, hM5, hC5, hb5⟩
                      have HM5 := hide hM5
                      have HC5 := hide hC5
                      have hB5 := hB0.trans hb5
                      have hz5 := hB5.size
                      have hS2 := And.intro ((hb5.cell (p := ⟨gw, 0, none⟩) (World.block_lt_of_cell? _ _ hS0.1)).trans hS0.1) (And.intro ((hb5.cell (p := ⟨gf, 2, none⟩) (World.block_lt_of_cell? _ _ hS0.2.1)).trans hS0.2.1) ((hb5.cell (p := ⟨gf, 3, none⟩) (World.block_lt_of_cell? _ _ hS0.2.2)).trans hS0.2.2))
                      clear hM5 hC5 hb5
                      go_wp2_with fail
                      refine hK.out _ _ hS2 ?_
                      clear hK K
                      try simp only [Act.put, List.setIfInBounds_toArray, List.set_cons_zero, List.set_cons_succ, List.getElem_toArray, List.getElem_cons_zero, List.getElem_cons_succ]
                      refine wpAnyZ_one 14 (by kernel_rfl) rfl (by rfl) (fun K hK => ?_)
                      go_simp
                      have hS3 := And.intro (((below_alloc x2 (.cells #[.slice A5 n5 c5] 54)).cell (p := ⟨gw, 0, none⟩) (World.block_lt_of_cell? _ _ hS2.1)).trans hS2.1) (And.intro (((below_alloc x2 (.cells #[.slice A5 n5 c5] 54)).cell (p := ⟨gf, 2, none⟩) (World.block_lt_of_cell? _ _ hS2.2.1)).trans hS2.2.1) (((below_alloc x2 (.cells #[.slice A5 n5 c5] 54)).cell (p := ⟨gf, 3, none⟩) (World.block_lt_of_cell? _ _ hS2.2.2)).trans hS2.2.2))
                      refine hK.out _ _ hS3 ?_
                      clear hK K
                      try simp only [Act.put, List.setIfInBounds_toArray, List.set_cons_zero, List.set_cons_succ, List.getElem_toArray, List.getElem_cons_zero, List.getElem_cons_succ]
                      refine wpAnyZ_one 15 (by kernel_rfl) rfl (by rfl) (fun K hK => ?_)
                      have HL5 := hide (hLV.out.below hB5 (by omega))
                      have hL75 : L7 ≤ x2.heap.size := by omega
                      refine owp_appJ (.tmp 108) (.tmp 122) 34 rfl L7 54 i3 (.slice none 0 0) 1 24 Try.underlying34 hi3 hy0 hy1 hy2 rfl (by omega) x2 #[.slice A5 n5 c5] _ rfl (some ⟨gm, 0, none⟩) p c2 1 _ rfl rfl HL5.out.own rfl (by simp [Value.oneCell']) (by omega) (by omega) hL75 ?_
                      intro A3 c3 w13 happ hlt13
                      have hL13 := hide (HL5.out.push (show kMo.rd x2 V.heap.size x2.heap.size (.slice A5 n5 c5) ms5 from ⟨_, _, _, rfl, HM5.out⟩) (by omega) (Nat.le_refl _) (by omega) (by omega) happ)
                      have hB9 : Below w9.heap.size w9 x2 := HV9.out.trans (hB5.mono (by omega))
                      have hB13 := hide (happ.low (hB9.mono (by omega : L7 ≤ w9.heap.size)) hL75 (Nat.le_refl _) HL5.out.own)
                      have hS13 : Hid (Same W8.heap.size w9.heap.size w9 w13) := fun k h1 h2 => (happ.2.1.block k (by omega) (fun e => by
                        obtain ⟨ad, e1, e2⟩ := ownBlock_eq.1 e.symm
                        have := hLst9.out.lt ad e1
                        omega)).trans (hB9.block k (by omega))
                      have hP13 : Hid (MadeP ps qs dim d (wordL p) ms5) := by
                        show MadeP _ _ _ _ _ _
                        rw [hwlH.out]
                        refine made_step hd3 hfp hgp HMd1.out (x := 1) (HC5.out.sum) HC5.out.num ?_ HC5.out.src
                        have h1 := HC5.out.len
                        have h2 := flow_len m qs 0 (fun r hr => (hgp.part r hr).1)
                        rw [hgp.len] at h2
                        exact Nat.le_trans h1 (Nat.le_trans h2 (Nat.mul_le_mul_left _ (by omega)))
                      have hs13 := hide hB13.out.size
                      have hS4 := And.intro (((OwnI.same HOw.out hS13.out).own.cellAt 0 (by omega)).trans (by rw [hwlH.out]; rfl : _ = some (.int .i64 1))) (And.intro ((hB13.out.cell (p := ⟨gf, 2, none⟩) hgfl).trans (hJ9.out.c 2 rfl)) ((hB13.out.cell (p := ⟨gf, 3, none⟩) hgfl).trans (hJ9.out.c 3 rfl)))
                      clear happ HL5 hS2 hS3 hB9 hB5
                      refine hK.out _ _ hS4 ?_
                      clear hK K
                      try simp only [Act.put, List.setIfInBounds_toArray, List.set_cons_zero, List.set_cons_succ, List.getElem_toArray, List.getElem_cons_zero, List.getElem_cons_succ]
                      refine wpAnyZ_last (by kernel_rfl) rfl (by kernel_rfl) (by rfl) (fun K hK => ?_)
                      clear hS4
                      go_simp
                      refine hK _ _ ?_
                      clear hK K
                      go_wp2_with fail
                      go_meet
                      case rel => exact ⟨c3, A3, _, ms5, rfl, hL13.out, hP13.out, hB13.out, hS13.out, by have := hB13.out.size; omega⟩
                case rest =>
                  obtain ⟨c3, A3, vs3, m3, rfl, hL3, hP3, hb3, hs3, hz3⟩ := hcut
                  obtain ⟨g3, rfl, hg31, hg32, _⟩ := hL3.out.form (by omega : 0 < p + 1)
                  obtain ⟨v, l, h', mm, hcv, hrd, hl1, hl2, hmx⟩ := hL3.out.at_ (k := p) (by omega) trivial
                  have hlen9 := hLst9.out.len
                  have hmm : m3 = mm := by
                    have h := hmx.out
                    rw [List.getElem?_append_right (by omega), hlen9] at h
                    simpa using h
                  subst hmm
                  obtain ⟨Bm, nm, cm, rfl, hMm⟩ := hrd
                  have hM3 := hM9.out.below hb3.out (by omega)
                  have hE3 := hE9.out.below hb3.out (by omega)
                  have hJ3 := hJ9.out.same (hb3.out.block _ (by omega))
                  have hLo : Lw ≤ o := by
                    rw [HLW.out]
                    refine wordL_len p o ?_
                    have h := hlt2
                    unfold cntN at h
                    have e : ((o : Int)).toNat = o := by omega
                    rw [e] at h
                    omega
                  have hkN := HN.out
                  obtain ⟨b, xs, hgb, hxb, hcA, hrow⟩ := hM3.at_ (j := Lw) (by omega)
                  have hxs : (List.range dim).map (fun d' => accW ts (wordV ps qs ys dim d') Lw (if d' < d then cntN o else if d' = d then p else 0)) = xs := Option.some.inj ((mat_at _ _ _ _ _ _ _ hLo).symm.trans hxb)
                  obtain ⟨acc, hacc⟩ : ∃ z, z = accW ts (wordV ps qs ys dim d) Lw p := ⟨_, rfl⟩
                  have hxd : xs[d]? = some acc := by
                    rw [← hxs, hacc, List.getElem?_map, List.getElem?_range hlt]
                    simp
                  have hbr := hM3.row Lw b xs hgb hxb
                  have haR : R64 acc := hbr.2 acc (List.mem_of_getElem? hxd)
                  have hcd : wc.cell? ⟨b, d, none⟩ = some (.int .i64 acc) := (hrow.cellAt d (by omega)).trans (by rw [List.getElem?_map, hxd]; rfl)
                  have hfd := hrow.frozenAt d
                  have hbl := owns_lt hrow _ rfl
                  have hbh := hM3.lt.2 b (List.mem_of_getElem? hgb)
                  have hV9 : Below wc.heap.size wc wc.drew := (Below.refl _ _).drew
                  have hVz : wc.drew.heap.size = wc.heap.size := rfl
                  have hval := hP3.out.val ys
                  have hvr := valV_rng ys m3 0 (by omega)
                  have htR : R64 tv := by have := HTV.out; constructor <;> omega
                  have hvR : R64 (valV ys m3 0) := by constructor <;> omega
                  have htR2 : R64 (timesF tv (valV ys m3 0)) := by have := timesF_bd tv (valV ys m3 0); constructor <;> omega
                  have HC : Hid (Calls Try.prog 43 #[.slice Bm nm cm, .slice Y dim dy] wc.drew fun r w' => r = .returned (.int .i64 (valV ys m3 0)) ∧ Below wc.drew.heap.size wc.drew w') :=
                    impl_valueAt Bm nm cm m3 l h' Y dim dy ys 0 w.heap.size wc.drew (hMm.below hV9 (by omega)) (HYy.out.below (hE3.below hV9 (by omega)).low (Nat.le_refl _)) (by omega) (by have := hE3.size; omega) (fun q hq => (hP3.out.pow q hq).1)
                  have HM3 := hide hM3
                  have HE3 := hide hE3
                  have HJ3 := hide hJ3
                  have HVAL := hide hval
                  have HTR := hide htR
                  have HVR := hide hvR
                  have HTR2 := hide htR2
                  have HAR := hide haR
                  have HACC := hide hacc
                  have HXS := hide hxs
                  have HGB := hide hgb
                  have HXB := hide hxb
                  have HROW := hide hrow
                  have HFD := hide hfd
                  have hLL : Lw < k := by omega
                  have hpp : ¬ ((p : Int) + 1 ≤ p) := by omega
                  clear hMm hM3 hE3 hJ3 hval hvr htR hvR htR2 haR hacc hxs hgb hxb hrow hxd hbr hfd hmx hkN hV9
                  go_upto_region 22 with fail
                  refine wp_region_Z (fun W' => W'.cell? ⟨gA, Lw, none⟩ = some (.slice (some ⟨b, 0, none⟩) dim dim) ∧ W'.cell? ⟨b, d, none⟩ = some (.int .i64 acc) ∧ W'.cell? ⟨g3, p, none⟩ = some (.slice Bm nm cm)) 24 (by kernel_rfl) ?_
                  simp only [List.size_toArray, List.length_cons, List.length_nil, Nat.reduceAdd]
                  have hS0 : wc.drew.cell? ⟨gA, Lw, none⟩ = some (.slice (some ⟨b, 0, none⟩) dim dim) ∧ wc.drew.cell? ⟨b, d, none⟩ = some (.int .i64 acc) ∧ wc.drew.cell? ⟨g3, p, none⟩ = some (.slice Bm nm cm) := ⟨hcA, hcd, hcv⟩
                  obtain ⟨V, hV⟩ : ∃ z, z = wc.drew := ⟨_, rfl⟩
                  rw [← hV] at HC hS0 ⊢
                  have HV := hide hV
                  clear hV hcA hcd hcv
                  refine wpAnyZ_takeW 0 ((.slice (some ⟨gA, 0, none⟩) k c')) rfl (by kernel_rfl) (by kernel_rfl) (fun _ _ _ h => h) (by rfl) (fun _ => by first | (simp [go_sem]; done) | go_simp) hS0 ?_
                  try simp only [Act.put, List.setIfInBounds_toArray, List.set_cons_zero, List.set_cons_succ, List.getElem_toArray, List.getElem_cons_zero, List.getElem_cons_succ]
                  refine wpAnyZ_takeW 1 (.slice (some ⟨gw, 0, none⟩) Lw cw) rfl (by kernel_rfl) (by kernel_rfl) (fun _ _ _ h => h) (by rfl) (fun _ => by first | (simp [go_sem]; done) | go_simp) hS0 ?_
                  try simp only [Act.put, List.setIfInBounds_toArray, List.set_cons_zero, List.set_cons_succ, List.getElem_toArray, List.getElem_cons_zero, List.getElem_cons_succ]
                  refine wpAnyZ_takeW 2 (.int .i64 Lw) rfl (by kernel_rfl) (by kernel_rfl) (fun _ _ _ h => h) (by rfl) (fun _ => by first | (simp [go_sem]; done) | go_simp) hS0 ?_
                  try simp only [Act.put, List.setIfInBounds_toArray, List.set_cons_zero, List.set_cons_succ, List.getElem_toArray, List.getElem_cons_zero, List.getElem_cons_succ]
                  refine wpAnyZ_takeW 3 (.pointer (some ⟨gA, Lw, none⟩)) rfl (by kernel_rfl) (by kernel_rfl) (fun _ _ _ h => h) (by rfl) (fun _ => by first | (simp [go_sem]; done) | go_simp) hS0 ?_
                  try simp only [Act.put, List.setIfInBounds_toArray, List.set_cons_zero, List.set_cons_succ, List.getElem_toArray, List.getElem_cons_zero, List.getElem_cons_succ]
                  refine wpAnyZ_take 4 (.slice (some ⟨b, 0, none⟩) dim dim) rfl (by kernel_rfl) (by kernel_rfl) (fun _ _ _ h => h) (by rfl) (fun _ hS => by have q0 := hS.1; clear hS; first | (simp [go_sem, q0]; done) | go_simp) hS0 ?_
                  try simp only [Act.put, List.setIfInBounds_toArray, List.set_cons_zero, List.set_cons_succ, List.getElem_toArray, List.getElem_cons_zero, List.getElem_cons_succ]
                  refine wpAnyZ_takeW 5 (.int .i64 d) rfl (by kernel_rfl) (by kernel_rfl) (fun _ _ _ h => h) (by rfl) (fun _ => by first | (simp [go_sem]; done) | go_simp) hS0 ?_
                  try simp only [Act.put, List.setIfInBounds_toArray, List.set_cons_zero, List.set_cons_succ, List.getElem_toArray, List.getElem_cons_zero, List.getElem_cons_succ]
                  refine wpAnyZ_takeW 6 ((.slice (some ⟨gA, 0, none⟩) k c')) rfl (by kernel_rfl) (by kernel_rfl) (fun _ _ _ h => h) (by rfl) (fun _ => by first | (simp [go_sem]; done) | go_simp) hS0 ?_
                  try simp only [Act.put, List.setIfInBounds_toArray, List.set_cons_zero, List.set_cons_succ, List.getElem_toArray, List.getElem_cons_zero, List.getElem_cons_succ]
                  refine wpAnyZ_takeW 7 (.slice (some ⟨gw, 0, none⟩) Lw cw) rfl (by kernel_rfl) (by kernel_rfl) (fun _ _ _ h => h) (by rfl) (fun _ => by first | (simp [go_sem]; done) | go_simp) hS0 ?_
                  try simp only [Act.put, List.setIfInBounds_toArray, List.set_cons_zero, List.set_cons_succ, List.getElem_toArray, List.getElem_cons_zero, List.getElem_cons_succ]
                  refine wpAnyZ_takeW 8 (.int .i64 Lw) rfl (by kernel_rfl) (by kernel_rfl) (fun _ _ _ h => h) (by rfl) (fun _ => by first | (simp [go_sem]; done) | go_simp) hS0 ?_
                  try simp only [Act.put, List.setIfInBounds_toArray, List.set_cons_zero, List.set_cons_succ, List.getElem_toArray, List.getElem_cons_zero, List.getElem_cons_succ]
                  refine wpAnyZ_takeW 9 (.pointer (some ⟨gA, Lw, none⟩)) rfl (by kernel_rfl) (by kernel_rfl) (fun _ _ _ h => h) (by rfl) (fun _ => by first | (simp [go_sem]; done) | go_simp) hS0 ?_
                  try simp only [Act.put, List.setIfInBounds_toArray, List.set_cons_zero, List.set_cons_succ, List.getElem_toArray, List.getElem_cons_zero, List.getElem_cons_succ]
                  refine wpAnyZ_take 10 (.slice (some ⟨b, 0, none⟩) dim dim) rfl (by kernel_rfl) (by kernel_rfl) (fun _ _ _ h => h) (by rfl) (fun _ hS => by have q0 := hS.1; clear hS; first | (simp [go_sem, q0]; done) | go_simp) hS0 ?_
                  try simp only [Act.put, List.setIfInBounds_toArray, List.set_cons_zero, List.set_cons_succ, List.getElem_toArray, List.getElem_cons_zero, List.getElem_cons_succ]
                  refine wpAnyZ_takeW 11 (.int .i64 d) rfl (by kernel_rfl) (by kernel_rfl) (fun _ _ _ h => h) (by rfl) (fun _ => by first | (simp [go_sem]; done) | go_simp) hS0 ?_
                  try simp only [Act.put, List.setIfInBounds_toArray, List.set_cons_zero, List.set_cons_succ, List.getElem_toArray, List.getElem_cons_zero, List.getElem_cons_succ]
                  refine wpAnyZ_takeW 12 (.pointer (some ⟨b, d, none⟩)) rfl (by kernel_rfl) (by kernel_rfl) (fun _ _ _ h => h) (by rfl) (fun _ => by first | (simp [go_sem]; done) | go_simp) hS0 ?_
                  try simp only [Act.put, List.setIfInBounds_toArray, List.set_cons_zero, List.set_cons_succ, List.getElem_toArray, List.getElem_cons_zero, List.getElem_cons_succ]
                  refine wpAnyZ_take 13 (.int .i64 acc) rfl (by kernel_rfl) (by kernel_rfl) (fun _ _ _ h => h) (by rfl) (fun _ hS => by have q0 := hS.2.1; clear hS; first | (simp [go_sem, q0]; done) | go_simp) hS0 ?_
                  try simp only [Act.put, List.setIfInBounds_toArray, List.set_cons_zero, List.set_cons_succ, List.getElem_toArray, List.getElem_cons_zero, List.getElem_cons_succ]
                  refine wpAnyZ_takeW 14 (.int .i64 tv) rfl (by kernel_rfl) (by kernel_rfl) (fun _ _ _ h => h) (by rfl) (fun _ => by first | (simp [go_sem]; done) | go_simp) hS0 ?_
                  try simp only [Act.put, List.setIfInBounds_toArray, List.set_cons_zero, List.set_cons_succ, List.getElem_toArray, List.getElem_cons_zero, List.getElem_cons_succ]
                  refine wpAnyZ_takeW 15 (.slice (some ⟨g3, 0, none⟩) (p + 1) c3) rfl (by kernel_rfl) (by kernel_rfl) (fun _ _ _ h => h) (by rfl) (fun _ => by first | (simp [go_sem]; done) | go_simp) hS0 ?_
                  try simp only [Act.put, List.setIfInBounds_toArray, List.set_cons_zero, List.set_cons_succ, List.getElem_toArray, List.getElem_cons_zero, List.getElem_cons_succ]
                  refine wpAnyZ_takeW 16 (.int .i64 p) rfl (by kernel_rfl) (by kernel_rfl) (fun _ _ _ h => h) (by rfl) (fun _ => by first | (simp [go_sem]; done) | go_simp) hS0 ?_
                  try simp only [Act.put, List.setIfInBounds_toArray, List.set_cons_zero, List.set_cons_succ, List.getElem_toArray, List.getElem_cons_zero, List.getElem_cons_succ]
                  refine wpAnyZ_takeW 17 (.pointer (some ⟨g3, p, none⟩)) rfl (by kernel_rfl) (by kernel_rfl) (fun _ _ _ h => h) (by rfl) (fun _ => by simp [go_sem, hpp]) hS0 ?_
                  try simp only [Act.put, List.setIfInBounds_toArray, List.set_cons_zero, List.set_cons_succ, List.getElem_toArray, List.getElem_cons_zero, List.getElem_cons_succ]
                  refine wpAnyZ_take 18 (.slice Bm nm cm) rfl (by kernel_rfl) (by kernel_rfl) (fun _ _ _ h => h) (by rfl) (fun _ hS => by have q0 := hS.2.2; clear hS; first | (simp [go_sem, q0]; done) | go_simp) hS0 ?_
                  try simp only [Act.put, List.setIfInBounds_toArray, List.set_cons_zero, List.set_cons_succ, List.getElem_toArray, List.getElem_cons_zero, List.getElem_cons_succ]
                  refine wpAnyZ_takeW 19 (.slice Y dim dy) rfl (by kernel_rfl) (by kernel_rfl) (fun _ _ _ h => h) (by rfl) (fun _ => by first | (simp [go_sem]; done) | go_simp) hS0 ?_
                  try simp only [Act.put, List.setIfInBounds_toArray, List.set_cons_zero, List.set_cons_succ, List.getElem_toArray, List.getElem_cons_zero, List.getElem_cons_succ]
                  refine wpAnyZ_one 20 (by kernel_rfl) rfl (by rfl) (fun K hK => ?_)
                  go_simp
                  refine (HC.out).mono ?_
                  rintro e x1 ⟨rfl, hb1⟩
                  clear HC
                  have HB1 := hide hb1
                  have hS1 := And.intro ((hb1.cell (p := ⟨gA, Lw, none⟩) (World.block_lt_of_cell? _ _ hS0.1)).trans hS0.1) (And.intro ((hb1.cell (p := ⟨b, d, none⟩) (World.block_lt_of_cell? _ _ hS0.2.1)).trans hS0.2.1) ((hb1.cell (p := ⟨g3, p, none⟩) (World.block_lt_of_cell? _ _ hS0.2.2)).trans hS0.2.2))
                  clear hS0 hb1
                  go_wp2_with fail
                  refine hK.out _ _ hS1 ?_
                  clear hK K
                  try simp only [Act.put, List.setIfInBounds_toArray, List.set_cons_zero, List.set_cons_succ, List.getElem_toArray, List.getElem_cons_zero, List.getElem_cons_succ]
                  refine wpAnyZ_one 21 (by kernel_rfl) rfl (by rfl) (fun K hK => ?_)
                  go_simp
                  refine (impl_Times tv (valV ys m3 0) _ HTR.out HVR.out).mono ?_
                  rintro e x2 ⟨rfl, rfl⟩
                  go_wp2_with fail
                  refine hK.out _ _ hS1 ?_
                  clear hK K
                  try simp only [Act.put, List.setIfInBounds_toArray, List.set_cons_zero, List.set_cons_succ, List.getElem_toArray, List.getElem_cons_zero, List.getElem_cons_succ]
                  refine wpAnyZ_one 22 (by kernel_rfl) rfl (by rfl) (fun K hK => ?_)
                  go_simp
                  refine (impl_Plus acc (timesF tv (valV ys m3 0)) _ HAR.out HTR2.out).mono ?_
                  rintro e x2 ⟨rfl, rfl⟩
                  go_wp2_with fail
                  refine hK.out _ _ hS1 ?_
                  clear hK K
                  try simp only [Act.put, List.setIfInBounds_toArray, List.set_cons_zero, List.set_cons_succ, List.getElem_toArray, List.getElem_cons_zero, List.getElem_cons_succ]
                  refine wpAnyZ_takeW 23 (.pointer (some ⟨b, d, none⟩)) rfl (by kernel_rfl) (by kernel_rfl) (fun _ _ _ h => h) (by rfl) (fun _ => by first | (simp [go_sem]; done) | go_simp) hS1 ?_
                  try simp only [Act.put, List.setIfInBounds_toArray, List.set_cons_zero, List.set_cons_succ, List.getElem_toArray, List.getElem_cons_zero, List.getElem_cons_succ]
                  have hbx : Below wc.heap.size wc x1 := ((Below.refl _ _).drew).trans (by rw [← HV.out]; exact HB1.out.mono (by rw [HV.out]; exact Nat.le_refl _))
                  have c0 := hS1.2.1
                  have f0 := (owns_below HROW.out hbx (fun ad e => (owns_lt HROW.out ad e).2)).frozenAt d
                  refine wpAnyZ_last (by kernel_rfl) rfl (by kernel_rfl) (by rfl) (fun K hK => ?_)
                  go_simp
                  refine hK _ _ ?_
                  clear hK K hS1 c0 f0
                  have hM5 := (HM3.out.below hbx (by omega)).store HGB.out HXB.out d (x := plusF acc (timesF tv (valV ys m3 0))) (by have := plusF_bd acc (timesF tv (valV ys m3 0)); constructor <;> omega)
                  rw [← HXS.out] at hM5
                  have hst : (matF ts (wordV ps qs ys dim) o dim (cntN o) d p).set Lw (((List.range dim).map (fun d' => accW ts (wordV ps qs ys dim d') Lw (if d' < d then cntN o else if d' = d then p else 0))).set d (plusF acc (timesF tv (valV ys m3 0)))) = matF ts (wordV ps qs ys dim) o dim (cntN o) d (p + 1) := by
                    have hl2 : (wordL p).length ≤ o := by rw [← HLW.out]; exact hLo
                    have e := mat_step ts (wordV ps qs ys dim) o dim (cntN o) d p hlt hl2
                    rw [HGT.out, ← HLW.out, ← HACC.out] at e
                    rw [HVAL.out]
                    exact e.symm
                  rw [hst] at hM5
                  have hLx := (hL3.out.below hbx (Nat.le_refl _)).setLow (p := ⟨b, d, none⟩) (by show b < L7; omega) (.int .i64 (plusF acc (timesF tv (valV ys m3 0))))
                  have hEx := HE3.out.below (B := w.heap.size + 3) ((hbx.mono (by omega)).setCell (p := ⟨b, d, none⟩) (by show w.heap.size + 3 ≤ b; omega) (.int .i64 (plusF acc (timesF tv (valV ys m3 0))))) (Nat.le_refl _)
                  have hJx := ((HJ3.out.same (hbx.block _ (by omega))).far (b := b) (i := d) (by omega) (.int .i64 (plusF acc (timesF tv (valV ys m3 0)))))
                  have hzx := hbx.size
                  have hsx : (x1.setCell ⟨b, d, none⟩ (.int .i64 (plusF acc (timesF tv (valV ys m3 0))))).heap.size = x1.heap.size := by simp [World.setCell]
                  have hMdx : Hid (∀ (q : Nat) (m : List Mono), (made ++ [m3])[q]? = some m → MadeP ps qs dim d (wordL q) m) := fun q m hm => by
                    by_cases hq : q < made.length
                    · rw [List.getElem?_append_left hq] at hm
                      exact hMd.out q m hm
                    · have hq2 := (List.getElem?_eq_some_iff.1 hm).1
                      simp at hq2
                      obtain rfl : q = p := by omega
                      rw [List.getElem?_append_right (by omega), hlen9] at hm
                      obtain rfl : m3 = m := by simpa using hm
                      exact hP3.out
                  have HMx := hide hM5
                  have HLx := hide (hLx.wide (by omega : wc.heap.size ≤ x1.heap.size))
                  have HEx := hide hEx
                  have HJx := hide hJx
                  rw [← hsx] at HLx
                  have hL7x : L7 < (x1.setCell ⟨b, d, none⟩ (.int .i64 (plusF acc (timesF tv (valV ys m3 0))))).heap.size := by omega
                  clear hM5 hst hLx hEx hJx hbx hsx hzx
                  generalize x1.setCell ⟨b, d, none⟩ (.int .i64 (plusF acc (timesF tv (valV ys m3 0)))) = WX at HMx HLx HEx HJx hL7x ⊢
                  go_wp2_with fail
                  go_roundw
                  case rel => exact ⟨p + 1, c3, _, _, _, by omega, by go_num, rfl, HLx.out, hMdx, HMx.out, HEx.out, HJx.out, hL7x⟩
                  case measure => simp [intOf]; omega
              · have hpc : p = cntN (o : Int) := by omega
                have hM5 := hM
                rw [hpc, mat_next] at hM5
                have hpn : p = cntN (o : Int) := hpc
                clear hpc
                go_wp2_with fail
                go_roundw
                case rel => exact ⟨d + 1, by omega, by go_num, hM5.out, hE.out, hJ.out⟩
                case measure => simp [intOf]; omega
          · obtain rfl : d = dim := by omega
            have hM5 := hide (hM.out.low (lo' := w.heap.size) (by omega))
            have hgl := hJ.out.lt
            go_wp2_with fail
            go_ret
            exact ⟨_, _, _, gf, gs, rfl, hM5.out, by omega, hE.out.low⟩
end Go.Proofs.Ytjamdnbabfodkaa
