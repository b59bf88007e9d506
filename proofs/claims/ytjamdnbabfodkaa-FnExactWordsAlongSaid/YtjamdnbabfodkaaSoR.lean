/- What a field makes of a polynomial, and whether a field is simple: the reference's walks. -/
import Derived.Test.YtjamdnbabfodkaaSoQ
import Derived.Test.YtjamdnbabfodkaaMgE
namespace Go.Proofs.Ytjamdnbabfodkaa
open Go.RowKit
set_option linter.unusedSimpArgs false
set_option linter.unusedVariables false
set_option maxRecDepth 20000

/-- what the parts of a field from the variable i on add to s -/
def chGo (ms : List Mono) : List Mono → Nat → List (List Mono) → List Mono
  | s, _, [] => s
  | s, i, p :: r => chGo ms (timesS s (partF ms i) p) (i + 1) r
theorem chGo_step (ms : List Mono) : ∀ (ps : List (List Mono)) (s : List Mono) (i k : Nat) (p : List Mono), ps[k]? = some p → chGo ms s i (ps.take (k + 1)) = timesS (chGo ms s i (ps.take k)) (partF ms (i + k)) p
  | [], _, _, _, _, h => by simp at h
  | q :: r, s, i, 0, p, h => by
    simp at h
    subst h
    simp [chGo]
  | q :: r, s, i, k + 1, p, h => by
    rw [List.take_succ_cons, chGo, chGo_step ms r _ (i + 1) k p (by simpa using h), List.take_succ_cons, chGo, show i + 1 + k = i + (k + 1) by omega]
theorem GoodS.nil (dim : Nat) : GoodS dim [] := ⟨by simp, by simp, List.Pairwise.nil⟩

set_option maxRecDepth 100000 in
set_option maxHeartbeats 8000000 in
theorem spec_l11Change (P : Option Addr) (n c : Nat) (ms : List Mono) (F : Option Addr) (k e : Nat) (ps : List (List Mono)) (w : World) (h : Mons w 0 w.heap.size P n c ms) (g : Mons2 w 0 w.heap.size F k e ps)
    (hn : n ≤ 2000000000) (hd0 : 0 < k) (hd1 : k ≤ 6) (hv : ∀ m ∈ ms, m.2.length = k ∧ ∀ x ∈ m.2, 0 ≤ x ∧ x ≤ 1048576) (hv2 : ∀ p ∈ ps, p.length ≤ 12 ∧ ∀ m ∈ p, m.2.length = k ∧ ∀ x ∈ m.2, 0 ≤ x ∧ x ≤ 1048576) :
    Calls Try.prog 26 #[.slice P n c, .agg #[.int .i64 k, .slice F k e]] w fun r w' => ∃ A' n' c', r = .returned (.slice A' n' c') ∧ Mons w' w.heap.size w'.heap.size A' n' c' (chGo ms [] 0 ps) ∧ n' ≤ n * 12 * k ∧ GoodS k (chGo ms [] 0 ps) ∧ Below w.heap.size w w' := by
  have hcp := h.cap
  have hmx := h.max
  have gcp := g.cap
  have gmx := g.max
  have HP := hide h
  have HG := hide g
  have HV := hide hv
  have HV2 := hide hv2
  have a1 := below_alloc w (.cells #[.int .i64 (k : Int), .slice F k e] 36)
  have j1 := BlkN.new w #[.int .i64 (k : Int), .slice F k e] 36
  have a2 := a1.trans ((below_alloc (w.alloc (.cells #[.int .i64 (k : Int), .slice F k e] 36)) (.cells #[] 53)).mono a1.size)
  have hj0 := hide (j1.alloc (.cells #[] 53))
  have hb0 := hide a2
  have hz : (w.alloc (.cells #[.int .i64 (k : Int), .slice F k e] 36)).heap.size = w.heap.size + 1 := by simp
  have O1 := OutL.empty w (w.alloc (.cells #[.int .i64 (k : Int), .slice F k e] 36)) w.heap.size a1
  rw [hz] at O1
  have O0 := hide (O1.mons (Nat.le_refl _))
  have hz2 : w.heap.size + 1 < ((w.alloc (.cells #[.int .i64 (k : Int), .slice F k e] 36)).alloc (.cells #[] 53)).heap.size := by simp
  clear h g hv hv2 a1 j1 a2 hz O1
  go_enter Try.func26, Try.ntmps26
  go_wp2_with fail
  generalize (w.alloc (.cells #[.int .i64 (k : Int), .slice F k e] 36)).alloc (.cells #[] 53) = W0 at hj0 hb0 O0 hz2 ⊢
  go_loopw [5, 6] (fun u i wr => ∃ (q n' c' : Nat) (A' : Option Addr), q ≤ k ∧ i = .int .i64 q ∧ u = .slice A' n' c' ∧ n' ≤ n * 12 * q ∧ Hid (Mons wr w.heap.size wr.heap.size A' n' c' (chGo ms [] 0 (ps.take q))) ∧ Hid (GoodS k (chGo ms [] 0 (ps.take q))) ∧ Hid (Below w.heap.size w wr) ∧ Hid (BlkN wr w.heap.size #[.int .i64 (k : Int), .slice F k e])) (fun _ i _ => k - (intOf i).toNat)
  case atStart => exact ⟨0, 0, 0, _, by omega, rfl, rfl, by omega, O0.out, GoodS.nil k, hb0.out, hj0.out⟩
  case round =>
    clear hj0 hb0 O0 hz2
    obtain ⟨q, n', c', A', hq, rfl, rfl, hnq, hM, hGS, hb, hj⟩ := hrel
    have hsz := hb.out.size
    have b0 := hj.out.c 0 rfl
    have b1 := hj.out.c 1 rfl
    by_cases hlt : q < k
    · obtain ⟨ad, B, m, d, p, rfl, hc1, hp, _, hx⟩ := HG.out.at_ hlt
      obtain ⟨hpl, hpv⟩ := HV2.out p (List.mem_of_getElem? hx.out)
      have hml : m ≤ 12 := by rw [← hp.len]; exact hpl
      have HCP := hide fun (W : World) (hB : Below w.heap.size w W) => show W.cell? (ad.add q) = some (.slice B m d) ∧ Mons W 0 w.heap.size B m d p from ⟨(hB.cell (p := ad.add q) (World.block_lt_of_cell? _ _ hc1)).trans hc1, hp.below hB (Nat.le_refl _)⟩
      have HPV := hide hpv
      have hst : Hid (chGo ms [] 0 (ps.take (q + 1)) = timesS (chGo ms [] 0 (ps.take q)) (partF ms q) p) := by
        have := chGo_step ms ps [] 0 q p hx.out
        rw [Nat.zero_add] at this
        exact this
      have HC1 := hide (spec_l9Partial P n c ms 0 w.heap.size q k wr.drew (HP.out.below hb.out.drew (Nat.le_refl _)) hsz (by omega) hd1 (fun m hm => (HV.out m hm).1) hlt)
      have T0 : wr.cell? ⟨w.heap.size, 1, none⟩ = some (.slice (some ad) k e) ∧ wr.cell? (ad.add q) = some (.slice B m d) := ⟨b1, (HCP.out _ hb.out).1⟩
      have T1 : wr.drew.cell? ⟨w.heap.size, 1, none⟩ = some (.slice (some ad) k e) ∧ wr.drew.cell? (ad.add q) = some (.slice B m d) := T0
      clear hp hpv hx hpl hc1 b1
      go_upto_region 5 with fail
      clear b0
      go_region_held3 (fun w' => w'.cell? ⟨w.heap.size, 1, none⟩ = some (.slice (some ad) k e) ∧ w'.cell? (ad.add q) = some (.slice B m d)) (first | exact T0 | exact T1 | exact T2 | exact T3 | go_keep)
          (first
            | (go_at_call 55; refine HC1.out.mono ?_; rintro r w1 ⟨A1, n1, c1, rfl, hP1, hn1, hb1⟩; have hbd1 : Below wr.heap.size wr w1 := ((Below.refl _ _).drew).trans hb1; have hB1 := hide (hb.out.trans (hbd1.mono hsz)); have hz1 := hb1.size; have T2 : w1.cell? ⟨w.heap.size, 1, none⟩ = some (.slice (some ad) k e) ∧ w1.cell? (ad.add q) = some (.slice B m d) := ⟨(hj.out.below hbd1).c 1 rfl, (HCP.out _ hB1.out).1⟩; have HC2 := hide (spec_l9Times A' n' c' (chGo ms [] 0 (ps.take q)) A1 n1 c1 (partF ms q) B m d p w.heap.size k w1 ((hM.out.below hbd1 (Nat.le_refl _)).wide (Nat.le_refl _) hz1) (hP1.wide (Nat.zero_le _) (Nat.le_refl _)) ((HCP.out _ hB1.out).2.wide (Nat.le_refl _) hB1.out.size) hB1.out.size hml (by have t : n * 12 * q ≤ n * 12 * 6 := Nat.mul_le_mul_left _ (by omega); omega) hd0 hd1 hGS.out (fun m hm => (partF_mem HV.out m hm).1) HPV.out); have HBD1 := hide hbd1; clear HC1 hP1 hb1 hbd1)
            | (go_at_call 54; refine HC2.out.mono ?_; rintro r w2 ⟨A2, n2, c2, rfl, hP2, hn2, hb2⟩; have hbd2 : Below wr.heap.size wr w2 := HBD1.out.trans (hb2.mono HBD1.out.size); have hB2 := hide (hb.out.trans (hbd2.mono hsz)); have T3 : w2.cell? ⟨w.heap.size, 1, none⟩ = some (.slice (some ad) k e) ∧ w2.cell? (ad.add q) = some (.slice B m d) := ⟨(hj.out.below hbd2).c 1 rfl, (HCP.out _ hB2.out).1⟩; have HP2 := hide hP2; have HBD2 := hide hbd2; clear HC2 hP2 hb2 hbd2))
      have hn5 : n2 ≤ n * 12 * (q + 1) := by
        have t : n * 12 * (q + 1) = n * 12 * q + n * 12 := Nat.mul_succ _ _
        have t2 : n1 ≤ n := hn1
        omega
      have HP3 : Hid (Mons w2 w.heap.size w2.heap.size A2 n2 c2 (chGo ms [] 0 (ps.take (q + 1)))) := by
        show Mons _ _ _ _ _ _ _
        rw [hst.out]; exact HP2.out
      have HG3 : Hid (GoodS k (chGo ms [] 0 (ps.take (q + 1)))) := by
        show GoodS _ _
        rw [hst.out]
        exact GoodS.times (fun b hb => (HPV.out b hb).1) hGS.out (fun a ha => ((partF_mem HV.out a ha).1).1)
      have hj5 := hide (hj.out.below HBD2.out)
      clear hM hGS hb hj T0 T1 T2 T3 HBD1 HBD2 HP2
      go_wp2_with fail
      go_roundw
      case rel => exact ⟨q + 1, n2, c2, A2, by omega, by go_num, rfl, hn5, HP3.out, HG3.out, hB2.out, hj5.out⟩
      case measure => simp [intOf]; omega
    · obtain rfl : k = q := by omega
      rw [List.take_of_length_le (Nat.le_of_eq HG.out.len)] at hM hGS
      go_wp2_with fail
      go_ret
      exact ⟨A', n', c', rfl, hM.out, hnq, hGS.out, hb.out⟩
end Go.Proofs.Ytjamdnbabfodkaa
