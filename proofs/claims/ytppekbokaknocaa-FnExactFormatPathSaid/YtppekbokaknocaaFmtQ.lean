/- The texts of paths: the walks. -/
import Derived.Test.YtppekbokaknocaaFmtP
namespace Go.Proofs.Ytppekbokaknocaa
open Go.RowKit
set_option linter.unusedSimpArgs false
set_option linter.unusedVariables false
set_option maxRecDepth 20000

def sepP : ByteArray := ⟨#[32, 59, 32]⟩
def fmtPathF (xss : List (List Int)) : ByteArray := if pathOkF xss (xss.headD []).length = true then joinB sepP (xss.map numsB) else ⟨#[]⟩
theorem rows_sizes {xss : List (List Int)} (h : ∀ xs ∈ xss, xs.length ≤ 1048576) : ∀ x ∈ xss.map numsB, x.size ≤ 12582912 := by
  intro x hx
  obtain ⟨m, hm, rfl⟩ := List.mem_map.1 hx
  have h1 := numsB_size m
  have h2 := h m hm
  omega
theorem path_len {xss : List (List Int)} {d : Int} (h : pathOkF xss d = true) : 1 ≤ xss.length ∧ xss.length ≤ 7 := by
  unfold pathOkF at h
  simp only [Bool.and_eq_true, decide_eq_true_eq] at h
  exact h.1
theorem head_at {xss : List (List Int)} {xs : List Int} (h : xss[0]? = some xs) : xss.headD [] = xs := by
  cases xss with
  | nil => cases h
  | cons y r => simpa using h

set_option maxRecDepth 100000 in
set_option maxHeartbeats 2000000 in
theorem impl_FormatPath (A0 : Option Addr) (n c0 : Nat) (xss : List (List Int)) (lo hi : Nat) (w : World) (h : Ints2 w lo hi A0 n c0 xss) (hh : hi ≤ w.heap.size) (hr : ∀ xs ∈ xss, xs.length ≤ 1048576) :
    Calls Try.prog 13 #[.slice A0 n c0] w fun e w' => e = .returned (.string (fmtPathF xss)) ∧ Below w.heap.size w w' := by
  have hcp := h.cap
  have hm := h.max
  obtain ⟨i0, hi0, hz0, hz1, hz2⟩ := info_parts info_str
  have HR := hide hr
  clear hr
  by_cases h0 : n = 0
  · have hF : Hid (fmtPathF xss = ⟨#[]⟩) := by
      show _ = _
      rw [fmtPathF, if_neg]
      intro e
      have := path_len e
      have := h.len
      omega
    subst h0
    go_enter Try.func13, Try.ntmps13
    go_wp2_with fail
    go_ret
    exact ⟨by rw [hF.out]; rfl, Below.refl _ _⟩
  · obtain ⟨ad, B, m, d, xs, rfl, hc, hi1, _, hx0⟩ := h.at_ (k := 0) (by omega)
    have hP := hide (impl_PathOk (some ad) n c0 xss lo hi (m : Int) w h)
    have hdm : Hid (((xss.headD []).length : Int) = m) := by show _ = _; rw [head_at hx0.out, hi1.len]
    have h00 : ((n : Int) == 0) = false := by simpa using h0
    have hn0 : (0 : Int) < n := by omega
    have hmm := hi1.max
    have hcm := hi1.cap
    rw [Addr.add_zero'] at hc
    clear hi1 hx0
    cases hv : pathOkF xss (m : Int) with
    | false =>
      have hF : Hid (fmtPathF xss = ⟨#[]⟩) := by show _ = _; rw [fmtPathF, hdm.out, if_neg (by rw [hv]; simp)]
      rw [hv] at hP
      clear hv
      go_enter Try.func13, Try.ntmps13
      go_wp2_with fail
      refine hP.out.mono ?_
      rintro e w1 ⟨rfl, rfl⟩
      go_wp2_with fail
      go_ret
      exact ⟨by rw [hF.out]; rfl, Below.refl _ _⟩
    | true =>
      have hF : Hid (fmtPathF xss = joinB sepP (xss.map numsB)) := by show _ = _; rw [fmtPathF, hdm.out, if_pos hv]
      have hn7 : n ≤ 7 := by have := path_len hv; have := h.len; omega
      rw [hv] at hP
      clear hv hdm
      have q0 : (w.alloc (.cells #[] 9)).ownsRow w.heap.size 9 1 (.slice (some ⟨w.heap.size, 0, none⟩) 0 0) 0 ((((xss.map numsB).take 0)).map Value.string) := by
        simpa using World.ownsRow_lit (size := 1) (e := 9) (base := w.heap.size) w #[] 0 (Nat.le_refl _) (by unfold maxLen; omega) rfl
      have b2 := below_alloc w (.cells #[] 9)
      go_enter Try.func13, Try.ntmps13
      go_wp2_with fail
      refine hP.out.mono ?_
      rintro e w1 ⟨rfl, rfl⟩
      clear hc
      go_wp2_with fail
      go_loopw [3, 5, 21] (fun v _ i wr => ∃ (k : Nat) (A : Option Addr) (c : Nat), k ≤ n ∧ i = .int .i64 k ∧ v = .slice A k c ∧ Hid (wr.ownsRow w.heap.size 9 1 (.slice A k c) k (((xss.map numsB).take k).map Value.string)) ∧ Hid (Below w.heap.size w wr))
        (fun _ _ i _ => n - (intOf i).toNat)
      case atStart => exact ⟨0, _, _, by omega, rfl, rfl, q0, b2⟩
      case round =>
        clear q0 b2
        obtain ⟨k, A, c, hk, rfl, rfl, hown, hb⟩ := hrel
        by_cases hlt : k < n
        · obtain ⟨ae, B1, m1, d1, ys, e1, hc, hi1, _, hx⟩ := (h.below hb.out hh).at_ hlt
          injection e1 with e1
          subst e1
          have hnx : Hid ((xss.map numsB).take (k + 1) = (xss.map numsB).take k ++ [numsB ys]) := by
            show _ = _
            rw [List.take_add_one, List.getElem?_map, hx.out]
            rfl
          have hsz := hb.out.size
          have hml : m1 ≤ 1048576 := by
            have := HR.out ys (List.mem_of_getElem? hx.out)
            have := hi1.len
            omega
          have hT := hide (impl_FormatNumbers B1 m1 d1 ys lo hi wr hi1 (Nat.le_trans hh hsz) hml)
          clear hx hi1
          go_wp2_with fail
          refine hT.out.mono ?_
          rintro e w2 ⟨rfl, bF⟩
          have own2 : w2.ownsRow w.heap.size 9 1 (.slice A k c) k (((xss.map numsB).take k).map Value.string) := owns_same hown.out fun ad e => bF.block _ (owns_lt hown.out ad e).2
          have HB2 := hb.out.trans (bF.mono hsz)
          have hsz2 := HB2.size
          clear hown hb bF hT
          go_wp2_with (at_builtin; refine wpl_app1 rfl (.tmp 25) (.tmp 28) 41 rfl w.heap.size 9 i0 (.string ByteArray.empty) 1 16 Try.underlying41 hi0 hz0 hz1 hz2 rfl (by omega) _ #[.string (numsB ys)] A k c 1 _ rfl rfl own2 rfl (by simp [Value.oneCell']) (by omega) (by omega) hsz2 ?_; intro A2 c2 w4 happ hlt2)
          have hL : Hid (w4.ownsRow w.heap.size 9 1 (.slice A2 (k + 1) c2) (k + 1) (((xss.map numsB).take (k + 1)).map Value.string)) := by
            show World.ownsRow _ _ _ _ _ _ _
            rw [hnx.out, List.map_append]
            exact happ.1
          have HB : Hid (Below w.heap.size w w4) := happ.below HB2 hsz2 (fun ad e => (owns_lt own2 ad e).1)
          clear happ own2 HB2 hnx
          go_wp2_with fail
          go_roundw
          case rel => exact ⟨k + 1, A2, c2, by omega, by go_num, rfl, hL, HB⟩
          case measure => simp [intOf]; omega
        · obtain rfl : k = n := by omega
          have hl : xss.length = k := h.len
          have hJ2 := hide (join_row A k c w.heap.size (xss.map numsB) sepP wr (by have := hown.out; rwa [List.take_of_length_le (by simp; omega)] at this)
            (Nat.le_trans (joinB_size sepP 12582912 _ (rows_sizes HR.out)) (by rw [List.length_map, hl]; show (12582912 + 3) * k ≤ _; omega)) (by omega))
          have hbz := hb.out.size
          go_wp2_with fail
          refine hJ2.out.mono ?_
          rintro e w9 ⟨rfl, b9⟩
          have b10 := hb.out.trans (b9.mono hbz)
          go_wp2_with fail
          go_ret
          exact ⟨by rw [hF.out]; rfl, b10⟩

set_option maxRecDepth 100000 in
set_option maxHeartbeats 2000000 in
theorem spec_FormatPath (A0 : Option Addr) (n c0 : Nat) (xss : List (List Int)) (lo hi : Nat) (w : World) (h : Ints2 w lo hi A0 n c0 xss) (hh : hi ≤ w.heap.size) (hr : ∀ xs ∈ xss, xs.length ≤ 1048576) :
    Calls Try.prog 11 #[.slice A0 n c0] w fun e w' => e = .returned (.string (fmtPathF xss)) ∧ Below w.heap.size w w' := by
  have hcp := h.cap
  have hm := h.max
  have HR := hide hr
  clear hr
  by_cases h0 : n = 0
  · have hF : Hid (fmtPathF xss = ⟨#[]⟩) := by
      show _ = _
      rw [fmtPathF, if_neg]
      intro e
      have := path_len e
      have := h.len
      omega
    subst h0
    go_enter Try.func11, Try.ntmps11
    go_wp2_with fail
    go_loop [3, 4] (fun s i => s = .string ⟨#[]⟩ ∧ i = .int .i64 0) (fun _ _ => 0)
    case atStart => exact ⟨rfl, rfl⟩
    case round =>
      obtain ⟨rfl, rfl⟩ := hrel
      go_wp2_with fail
      go_ret
      exact ⟨by rw [hF.out]; rfl, Below.refl _ _⟩
  · obtain ⟨ad, B, m, d, xs, rfl, hc, hi1, _, hx0⟩ := h.at_ (k := 0) (by omega)
    have hdm : Hid (((xss.headD []).length : Int) = m) := by show _ = _; rw [head_at hx0.out, hi1.len]
    have hn0 : (0 : Int) < n := by omega
    have hmm := hi1.max
    have hcm := hi1.cap
    rw [Addr.add_zero'] at hc
    have HC : Hid (∀ v : World, Below w.heap.size w v → v.cell? ad = some (.slice B m d)) := fun v hv => (hv.cell (World.block_lt_of_cell? w _ hc)).trans hc
    clear hi1 hx0
    cases hv : pathOkF xss (m : Int) with
    | false =>
      have hF : Hid (fmtPathF xss = ⟨#[]⟩) := by show _ = _; rw [fmtPathF, hdm.out, if_neg (by rw [hv]; simp)]
      have hP := hide (spec_PathOk (some ad) n c0 xss lo hi (m : Int) w h)
      rw [hv] at hP
      clear hv
      go_enter Try.func11, Try.ntmps11
      go_wp2_with fail
      go_loop [3, 4] (fun s i => s = .string ⟨#[]⟩ ∧ i = .int .i64 0) (fun _ _ => 0)
      case atStart => exact ⟨rfl, rfl⟩
      case round =>
        obtain ⟨rfl, rfl⟩ := hrel
        go_wp2_with fail
        refine hP.out.mono ?_
        rintro e w1 ⟨rfl, rfl⟩
        go_wp2_with fail
        go_ret
        exact ⟨by rw [hF.out]; rfl, Below.refl _ _⟩
    | true =>
      have hF : Hid (fmtPathF xss = joinB sepP (xss.map numsB)) := by show _ = _; rw [fmtPathF, hdm.out, if_pos hv]
      have hn7 : n ≤ 7 := by have := path_len hv; have := h.len; omega
      have hv2 := hide hv
      have hs3 : (ByteArray.mk #[32, 59, 32]).size = 3 := rfl
      clear hv hdm hc
      go_enter Try.func11, Try.ntmps11
      go_wp2_with fail
      go_loopw [3, 4] (fun sv i wr => ∃ (k : Nat) (s : ByteArray), k ≤ n ∧ i = .int .i64 k ∧ sv = .string s ∧ Hid (s = joinB sepP ((xss.map numsB).take k)) ∧ s.size ≤ 88080405 ∧ Hid (Below w.heap.size w wr))
        (fun _ i _ => n - (intOf i).toNat)
      case atStart => exact ⟨0, ⟨#[]⟩, by omega, rfl, rfl, rfl, Nat.zero_le _, Below.refl _ _⟩
      case round =>
        obtain ⟨k, s, hk, rfl, rfl, hs, hss, hb⟩ := hrel
        by_cases hlt : k < n
        · obtain ⟨ae, B1, m1, d1, ys, e1, hc, hi1, _, hx⟩ := (h.below hb.out hh).at_ hlt
          injection e1 with e1
          subst e1
          have hc0 := HC.out wr hb.out
          have hP := hide (spec_PathOk (some ad) n c0 xss lo hi (m : Int) wr (h.below hb.out hh))
          rw [hv2.out] at hP
          have hsz := hb.out.size
          have hml : m1 ≤ 1048576 := by
            have := HR.out ys (List.mem_of_getElem? hx.out)
            have := hi1.len
            omega
          have hS := hide (spec_FormatNumbers B1 m1 d1 ys lo hi wr hi1 (Nat.le_trans hh hsz) hml)
          have hxm : (xss.map numsB)[k]? = some (numsB ys) := by rw [List.getElem?_map, hx.out]; rfl
          have hs2 : (numsB ys).size ≤ 12582912 := by have := numsB_size ys; have := hi1.len; omega
          have HN : Hid ((joinB sepP ((xss.map numsB).take (k + 1))).size ≤ 88080405) := by
            refine Nat.le_trans (joinB_take_le sepP _ 12582912 (rows_sizes HR.out) _) ?_
            rw [List.length_map, h.len]
            show (12582912 + 3) * n ≤ _
            omega
          have hlt' : (k : Int) < n := by omega
          by_cases h0 : k = 0
          · have hS1 : Hid (s ++ numsB ys = joinB sepP ((xss.map numsB).take (k + 1))) := by
              show _ = _
              subst h0
              rw [joinB_take0 _ _ hxm, hs.out, List.take_zero, joinB_nil]
              exact nil_app _
            have hnk : ¬ (0 < k) := by omega
            clear hx hs h0 hxm hi1
            go_wp2_with fail
            refine hP.out.mono ?_
            rintro e w' ⟨rfl, rfl⟩
            go_wp2_with fail
            refine hS.out.mono ?_
            rintro e w2 ⟨rfl, bF⟩
            have HB : Hid (Below w.heap.size w w2) := hb.out.trans (bF.mono hsz)
            clear bF hb hS
            go_wp2_with fail
            go_roundw
            case rel => exact ⟨k + 1, _, by omega, by go_num, rfl, hS1, by rw [hS1.out]; exact HN.out, HB⟩
            case measure => simp [intOf]; omega
          · have hS1 : Hid (s ++ ⟨#[32, 59, 32]⟩ ++ numsB ys = joinB sepP ((xss.map numsB).take (k + 1))) := by
              show _ = _
              rw [joinB_take _ _ _ hxm (by omega), ← hs.out]
              rfl
            have hnk : 0 < k := by omega
            clear hx hs h0 hxm hi1
            go_wp2_with fail
            refine hP.out.mono ?_
            rintro e w' ⟨rfl, rfl⟩
            go_wp2_with fail
            refine hS.out.mono ?_
            rintro e w2 ⟨rfl, bF⟩
            have HB : Hid (Below w.heap.size w w2) := hb.out.trans (bF.mono hsz)
            clear bF hb hS
            go_wp2_with fail
            go_roundw
            case rel => exact ⟨k + 1, _, by omega, by go_num, rfl, hS1, by rw [hS1.out]; exact HN.out, HB⟩
            case measure => simp [intOf]; omega
        · obtain rfl : k = n := by omega
          have hl : xss.length = k := h.len
          have hG : Hid (fmtPathF xss = s) := by
            show _ = _
            rw [hF.out, hs.out, List.take_of_length_le (by simp; omega)]
          have hB := hb.out
          clear hs hb
          go_wp2_with fail
          go_ret
          exact ⟨by rw [hG.out]; rfl, hB⟩
end Go.Proofs.Ytppekbokaknocaa
