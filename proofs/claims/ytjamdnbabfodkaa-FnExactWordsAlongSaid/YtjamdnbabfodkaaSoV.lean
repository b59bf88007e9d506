/- Words of two fields along a point: what the program asks first. -/
import Derived.Test.YtjamdnbabfodkaaMgF
import Derived.Test.YtjamdnbabfodkaaMgJ
import Derived.Test.YtjamdnbabfodkaaPathW
namespace Go.Proofs.Ytjamdnbabfodkaa
open Go.RowKit
set_option linter.unusedSimpArgs false
set_option linter.unusedVariables false
set_option maxRecDepth 20000

def okWL (o : Int) (ts : List Int) (df : Int) (ps : List (List Mono)) (dg : Int) (qs : List (List Mono)) (ys : List Int) : Bool :=
  wordsOkF o ts && (fieldF df ps && (fieldF dg qs && (decide (df = dg) && (decide (df ≤ 3) && (lowF ps && (lowF qs && pathOkF [ys] df))))))

/-- the boxes of the arguments -/
structure EnvW (w wr : World) (va vf vg : Array Value) : Prop where
  low : Below w.heap.size w wr
  ba : BlkN wr w.heap.size va
  bf : BlkN wr (w.heap.size + 1) vf
  bg : BlkN wr (w.heap.size + 1 + 1) vg
theorem EnvW.below {w wr w' : World} {va vf vg : Array Value} (h : EnvW w wr va vf vg) {B : Nat} (hb : Below B wr w') (hB : w.heap.size + 3 ≤ B) : EnvW w w' va vf vg :=
  ⟨h.low.trans (hb.mono (by omega)), h.ba.same (hb.block _ (by omega)), h.bf.same (hb.block _ (by omega)), h.bg.same (hb.block _ (by omega))⟩
theorem EnvW.size {w wr : World} {va vf vg : Array Value} (h : EnvW w wr va vf vg) : w.heap.size + 3 ≤ wr.heap.size := h.bg.lt
theorem EnvW.keep {w wr w' : World} {va vf vg : Array Value} (h : EnvW w wr va vf vg) (hb : Below wr.heap.size wr w') : EnvW w w' va vf vg := h.below hb h.size
theorem EnvW.start (w : World) (va vf vg : Array Value) (T1 T2 T3 : TypeId) : EnvW w (((w.alloc (.cells va T1)).alloc (.cells vf T2)).alloc (.cells vg T3)) va vf vg := by
  have b1 := below_alloc w (.cells va T1)
  have b2 := below_alloc (w.alloc (.cells va T1)) (.cells vf T2)
  have b3 := below_alloc ((w.alloc (.cells va T1)).alloc (.cells vf T2)) (.cells vg T3)
  have z1 : (w.alloc (.cells va T1)).heap.size = w.heap.size + 1 := by simp
  have z2 : ((w.alloc (.cells va T1)).alloc (.cells vf T2)).heap.size = w.heap.size + 1 + 1 := by simp
  have k1 := BlkN.new w va T1
  have k2 := BlkN.new (w.alloc (.cells va T1)) vf T2
  have k3 := BlkN.new ((w.alloc (.cells va T1)).alloc (.cells vf T2)) vg T3
  rw [z1] at k2
  rw [z2] at k3
  exact ⟨(b1.trans (b2.mono (by omega))).trans (b3.mono (by omega)), (k1.alloc _).alloc _, k2.alloc _, k3⟩

set_option maxRecDepth 100000 in
set_option maxHeartbeats 8000000 in
theorem impl_WordsAlong_bad (o : Int) (TA : Option Addr) (nt ct : Nat) (ts : List Int) (df : Int) (F : Option Addr) (kf ef : Nat) (ps : List (List Mono)) (dg : Int) (G : Option Addr) (kg eg : Nat) (qs : List (List Mono)) (Y : Option Addr) (my dy : Nat) (ys : List Int) (w : World) (h : Ints w 0 w.heap.size TA nt ct ts) (hf : Mons2 w 0 w.heap.size F kf ef ps) (hg : Mons2 w 0 w.heap.size G kg eg qs) (hy : Ints w 0 w.heap.size Y my dy ys) (hlf : ∀ p ∈ ps, ∀ m ∈ p, m.2.length ≤ 1048576) (hlg : ∀ p ∈ qs, ∀ m ∈ p, m.2.length ≤ 1048576) (hok : okWL o ts df ps dg qs ys = false) :
    Calls Try.prog 10 #[.agg #[.int .i64 o, .slice TA nt ct], .agg #[.int .i64 df, .slice F kf ef], .agg #[.int .i64 dg, .slice G kg eg], .slice Y my dy] w fun r w' => r = .returned (.slice none 0 0) ∧ Below w.heap.size w w' := by
  have q1 := h.cap
  have q2 := h.max
  have q3 := hf.cap
  have q4 := hf.max
  have q5 := hg.cap
  have q6 := hg.max
  have q7 := hy.cap
  have q8 := hy.max
  have HT := hide h
  have HF := hide hf
  have HG := hide hg
  have HYy := hide hy
  have HLF := hide hlf
  have HLG := hide hlg
  have HOK := hide hok
  have HE := hide (EnvW.start w #[.int .i64 o, .slice TA nt ct] #[.int .i64 df, .slice F kf ef] #[.int .i64 dg, .slice G kg eg] 32 36 36)
  clear h hf hg hy hlf hlg hok
  go_enter Try.func10, Try.ntmps10
  go_upto_region 1 with fail
  generalize ((w.alloc (.cells #[.int .i64 o, .slice TA nt ct] 32)).alloc (.cells #[.int .i64 df, .slice F kf ef] 36)).alloc (.cells #[.int .i64 dg, .slice G kg eg] 36) = W3 at HE ⊢
  go_cut [59] (fun v wx => v = .bool (!okWL o ts df ps dg qs ys) ∧ Hid (Below W3.heap.size W3 wx))
  case first =>
    as_aux_lemma =>
    have E0 := hide (And.intro HE.out (Below.refl W3.heap.size W3))
    have c0ba0 := E0.out.1.ba.c 0 rfl
    have c0ba1 := E0.out.1.ba.c 1 rfl
    go_wp2_with fail
    clear c0ba0 c0ba1
    refine (impl_WordsOk o TA nt ct ts 0 w.heap.size W3 (HT.out.below E0.out.1.low (Nat.le_refl _)) E0.out.1.low.size).mono ?_
    rintro r w1 ⟨rfl, b1⟩
    have E1 := hide (And.intro (E0.out.1.keep b1) (E0.out.2.trans (b1.mono E0.out.2.size)))
    clear b1
    cases h1 : wordsOkF o ts with
    | false =>
      go_wp2_with fail
      go_meet
      case rel => exact ⟨by simp [okWL, h1], E1.out.2⟩
    | true =>
      have c1bf0 := E1.out.1.bf.c 0 rfl
      have c1bf1 := E1.out.1.bf.c 1 rfl
      go_wp2_with fail
      clear c1bf0 c1bf1
      refine (impl_FieldOk df F kf ef ps 0 w.heap.size w1 (HF.out.below E1.out.1.low (Nat.le_refl _)) E1.out.1.low.size HLF.out).mono ?_
      rintro r w2 ⟨rfl, b2⟩
      have E2 := hide (And.intro (E1.out.1.keep b2) (E1.out.2.trans (b2.mono E1.out.2.size)))
      clear b2
      cases h2 : fieldF df ps with
      | false =>
        go_wp2_with fail
        go_meet
        case rel => exact ⟨by simp [okWL, h1, h2], E2.out.2⟩
      | true =>
        have c2bg0 := E2.out.1.bg.c 0 rfl
        have c2bg1 := E2.out.1.bg.c 1 rfl
        go_wp2_with fail
        clear c2bg0 c2bg1
        refine (impl_FieldOk dg G kg eg qs 0 w.heap.size w2 (HG.out.below E2.out.1.low (Nat.le_refl _)) E2.out.1.low.size HLG.out).mono ?_
        rintro r w3 ⟨rfl, b3⟩
        have E3 := hide (And.intro (E2.out.1.keep b3) (E2.out.2.trans (b3.mono E2.out.2.size)))
        clear b3
        have c3bf0 := E3.out.1.bf.c 0 rfl
        have c3bf1 := E3.out.1.bf.c 1 rfl
        have c3bg0 := E3.out.1.bg.c 0 rfl
        have c3bg1 := E3.out.1.bg.c 1 rfl
        cases h3 : fieldF dg qs with
        | false =>
          go_wp2_with fail
          go_meet
          case rel => exact ⟨by simp [okWL, h1, h2, h3], E3.out.2⟩
        | true =>
          by_cases h4 : df = dg
          · subst h4
            have h4b : (df != df) = false := by simp
            by_cases h5 : df ≤ 3
            · have h5b : decide (3 < df) = false := by simp; omega
              have h5c : ¬ 3 < df := by omega
              go_wp2_with fail
              clear c3bf0 c3bf1 c3bg0 c3bg1
              refine (impl_low df F kf ef ps 0 w.heap.size w3 (HF.out.below E3.out.1.low (Nat.le_refl _)) E3.out.1.low.size HLF.out).mono ?_
              rintro r w4 ⟨rfl, b4⟩
              have E4 := hide (And.intro (E3.out.1.keep b4) (E3.out.2.trans (b4.mono E3.out.2.size)))
              clear b4
              cases h6 : lowF ps with
              | false =>
                go_wp2_with fail
                go_meet
                case rel => exact ⟨by simp [okWL, h1, h2, h3, h6], E4.out.2⟩
              | true =>
                have c4bf0 := E4.out.1.bf.c 0 rfl
                have c4bf1 := E4.out.1.bf.c 1 rfl
                have c4bg0 := E4.out.1.bg.c 0 rfl
                have c4bg1 := E4.out.1.bg.c 1 rfl
                go_wp2_with fail
                clear c4bf0 c4bf1 c4bg0 c4bg1
                refine (impl_low df G kg eg qs 0 w.heap.size w4 (HG.out.below E4.out.1.low (Nat.le_refl _)) E4.out.1.low.size HLG.out).mono ?_
                rintro r w5 ⟨rfl, b5⟩
                have E5 := hide (And.intro (E4.out.1.keep b5) (E4.out.2.trans (b5.mono E4.out.2.size)))
                clear b5
                cases h7 : lowF qs with
                | false =>
                  go_wp2_with fail
                  go_meet
                  case rel => exact ⟨by simp [okWL, h1, h2, h3, h6, h7], E5.out.2⟩
                | true =>
                  have c5bf0 := E5.out.1.bf.c 0 rfl
                  have c5bf1 := E5.out.1.bf.c 1 rfl
                  have HPa := hide (impl_PathOk (some ⟨w5.heap.size, 0, none⟩) 1 1 [ys] 0 (w5.heap.size + 1) df (w5.alloc (.cells #[.slice Y my dy] 22)) (ints2_row (HYy.out.below E5.out.1.low (Nat.le_refl _)) E5.out.1.low.size _))
                  have c6 : (w5.alloc (.cells #[.slice Y my dy] 22)).cell? ⟨w.heap.size + 1, 0, none⟩ = some (.int .i64 df) := cell_al c5bf0
                  go_wp2_with fail
                  refine HPa.out.mono ?_
                  rintro r w6 ⟨rfl, rfl⟩
                  have E6 := E5.out.2.trans ((below_alloc w5 (.cells #[.slice Y my dy] 22)).mono E5.out.2.size)
                  clear c5bf0 c5bf1
                  clear c6
                  cases h8 : pathOkF [ys] df with
                  | false =>
                    go_wp2_with fail
                    go_meet
                    case rel => exact ⟨by simp [okWL, h8], E6⟩
                  | true =>
                    go_wp2_with fail
                    go_meet
                    case rel => exact ⟨by simp [okWL, h1, h2, h3, h6, h7, h5, h8], E6⟩
            · have h5b : decide (3 < df) = true := by simp; omega
              have h5c : 3 < df := by omega
              go_wp2_with fail
              go_meet
              case rel => exact ⟨by simp [okWL, h5], E3.out.2⟩
          · have h4b : (df != dg) = true := by simpa using h4
            go_wp2_with fail
            go_meet
            case rel => exact ⟨by simp [okWL, h4], E3.out.2⟩
  case rest =>
    obtain ⟨rfl, hb⟩ := hcut
    have hnn : (!okWL o ts df ps dg qs ys) = true := by rw [HOK.out]; rfl
    have hB := HE.out.low.trans (hb.out.mono HE.out.low.size)
    rw [hnn]
    go_wp2_with fail
    go_ret
    exact ⟨rfl, hB⟩
end Go.Proofs.Ytjamdnbabfodkaa
