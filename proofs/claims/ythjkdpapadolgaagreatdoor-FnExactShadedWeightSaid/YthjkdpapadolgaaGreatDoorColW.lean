/- All colourings of a list of levels: the program's walk. -/
import Derived.Test.YthjkdpapadolgaaGreatDoorLevW
namespace Go.Proofs.YthjkdpapadolgaaGreatDoor
open Go.RowKit
set_option linter.unusedSimpArgs false
set_option linter.unusedVariables false
set_option maxRecDepth 20000

theorem colR_at (s : Nat) : ∀ (l : List Int) (k i : Nat), (colR s k l)[i]? = (l[i]?).map fun n => 2 * n + ((s / 2 ^ (k + i) % 2 : Nat) : Int)
  | [], k, i => by simp [colR]
  | n :: r, k, 0 => by simp [colR]
  | n :: r, k, i + 1 => by
    rw [colR, List.getElem?_cons_succ, List.getElem?_cons_succ, colR_at s r (k + 1) i, show k + 1 + i = k + (i + 1) by omega]
theorem colR_len (s : Nat) : ∀ (l : List Int) (k : Nat), (colR s k l).length = l.length
  | [], _ => rfl
  | n :: r, k => by rw [colR, List.length_cons, List.length_cons, colR_len s r]
theorem colR_step {s i : Nat} {l : List Int} {n : Int} (h : l[i]? = some n) : (colR s 0 l).take (i + 1) = (colR s 0 l).take i ++ [2 * n + ((s / 2 ^ i % 2 : Nat) : Int)] := by
  rw [List.take_add_one, colR_at, h, Nat.zero_add]
  rfl
theorem colF_step {l : List Int} {s : Nat} (h : s < 2 ^ l.length) : (colF l).take (s + 1) = (colF l).take s ++ [colR s 0 l] := by
  rw [List.take_add_one]
  congr 1
  simp [colF, h]
theorem bit_one : ∀ (s k : Nat), s < 16 → k < 4 → bits BinOp.and IntKind.i64 ((s : Int) / 2 ^ k) 1 = ((s / 2 ^ k % 2 : Nat) : Int) := by
  intro s k hs hk
  have h : ∀ s ∈ List.range 16, ∀ k ∈ List.range 4, bits BinOp.and IntKind.i64 ((s : Int) / 2 ^ k) 1 = ((s / 2 ^ k % 2 : Nat) : Int) := by decide +kernel
  exact h s (by simpa using hs) k (by simpa using hk)
theorem colF_len (l : List Int) : (colF l).length = 2 ^ l.length := by simp [colF]

set_option maxRecDepth 100000 in
set_option maxHeartbeats 4000000 in
theorem impl_colourings (A0 : Option Addr) (m c0 : Nat) (l : List Int) (lo hi : Nat) (w : World) (h : Ints w lo hi A0 m c0 l) (hh : hi ≤ w.heap.size) (hm : m ≤ 4) (hl : ∀ x ∈ l, 0 ≤ x ∧ x ≤ 3) :
    Calls Tryz.prog 37 #[.slice A0 m c0] w fun e w' => ∃ g n' c vs, e = .returned (.slice (some ⟨g, 0, none⟩) n' c) ∧ RowsO w' w.heap.size (some ⟨g, 0, none⟩) n' c vs (colF l) ∧ Below w.heap.size w w' := by
  obtain ⟨i0, hi0, hz0, hz1, hz2⟩ := info_parts info_int
  obtain ⟨i1, hi1, hy0, hy1, hy2⟩ := info_parts info_ints
  have HI := hide h
  have HLen := hide h.len
  have HL := hide hl
  have hcap := h.cap
  have hmax := h.max
  have hpw : ∃ P : Nat, P = 2 ^ m ∧ 1 ≤ P ∧ P ≤ 16 := ⟨2 ^ m, rfl, Nat.one_le_two_pow, Nat.pow_le_pow_right (by omega) hm⟩
  obtain ⟨P, hP, hP1, hP16⟩ := hpw
  have HPW := hide hP
  have hw2 : wrap64 ((2 : Int) ^ m) = (P : Int) := by
    have e : ((2 : Int) ^ m) = (P : Int) := by rw [hP]; simp
    rw [e]
    exact (IntWalk.i64_left (P : Int)).symm.trans (IntWalk.i64_in (P : Int) (by omega))
  have HW2 := hide hw2
  clear hw2
  have b0 := below_alloc w (.cells #[] 22)
  have o0 := hide (RowsO.empty w w.heap.size (Nat.le_refl _))
  have z0 := b0.size
  clear h hl hP
  go_enter Tryz.func37, Tryz.ntmps37
  go_wp2_with fail
  generalize World.alloc w (.cells #[] 22) = W0 at o0 b0 z0 ⊢
  go_loopw [3, 4, 5, 6, 7] (fun o i _ _ _ wr => ∃ (s c' : Nat) (A : Option Addr), s ≤ P ∧ i = .int .i64 (s : Int) ∧ o = .slice A s c' ∧ Hid (∃ vs, RowsO wr w.heap.size A s c' vs ((colF l).take s)) ∧ Hid (Below w.heap.size w wr)) (fun _ i _ _ _ _ => P - (intOf i).toNat)
  case atStart => exact ⟨0, 0, _, by omega, rfl, rfl, ⟨_, o0.out⟩, b0⟩
  case round =>
    clear o0 b0 z0
    obtain ⟨s, c', A, hs, rfl, rfl, hO, hb⟩ := hrel
    have zr := hb.out.size
    by_cases hlt : s < P
    · have hw2 := HW2.out
      go_wp2_with fail
      clear hw2
      have bA := below_alloc wr (.cells #[] 3)
      have oA := hide (show OwnI (wr.alloc (.cells #[] 3)) wr.heap.size (wr.alloc (.cells #[] 3)).heap.size (some ⟨wr.heap.size, 0, none⟩) 0 0 ((colR s 0 l).take 0) from ⟨by simpa using World.ownsRow_lit (size := 1) (e := 3) wr #[] 0 (Nat.le_refl _) (by unfold maxLen; omega) rfl, fun ad e => by injection e with e; subst e; simp, by simp⟩)
      obtain ⟨wo, hwo⟩ : ∃ wo : World, wo = wr := ⟨_, rfl⟩
      subst hwo
      generalize World.alloc wo (.cells #[] 3) = W1 at oA bA ⊢
      go_loopw [5, 6, 7, 19] (fun o _ _ i wr => ∃ (k c' : Nat) (A : Option Addr), k ≤ m ∧ i = .int .i64 (k : Int) ∧ o = .slice A k c' ∧ Hid (OwnI wr wo.heap.size wr.heap.size A k c' ((colR s 0 l).take k)) ∧ Hid (Below wo.heap.size wo wr)) (fun _ _ _ i _ => m - (intOf i).toNat)
      case atStart => exact ⟨0, 0, _, by omega, rfl, rfl, oA.out, bA⟩
      case round =>
        clear oA bA
        obtain ⟨k, c2, A2, hk, rfl, rfl, hO2, hb2⟩ := hrel
        have zr2 := hb2.out.size
        by_cases hlt2 : k < m
        · obtain ⟨ad, x, rfl, hcx, _, _, hxu⟩ := (HI.out.below (hb.out.trans (hb2.out.mono zr)) hh).at_ hlt2
          have hx0 := HL.out x (List.mem_of_getElem? hxu.out)
          have hst := hide (colR_step (s := s) hxu.out)
          have hO3 := hide hO2.out.own
          have hbt : bits BinOp.and IntKind.i64 ((s : Int) / 2 ^ k) 1 = ((s / 2 ^ k % 2 : Nat) : Int) := bit_one s k (by omega) (by omega)
          obtain ⟨y, hy⟩ : ∃ y : Int, y = ((s / 2 ^ k % 2 : Nat) : Int) := ⟨_, rfl⟩
          have hy01 : 0 ≤ y ∧ y ≤ 1 := by omega
          rw [← hy] at hbt hst
          have hwr : wrap64 (2 * x + y) = 2 * x + y := by
            exact (IntWalk.i64_left (2 * x + y)).symm.trans (IntWalk.i64_in (2 * x + y) (by omega))
          clear hy hxu
          go_wp2_with (at_builtin; refine wpl_app1b rfl (.tmp 24) (.tmp 32) 22 rfl wo.heap.size 3 i0 (.int .i64 0) 1 8 Tryz.underlying22 hi0 hz0 hz1 hz2 rfl (by omega) wr #[.int .i64 (2 * x + y)] _ rfl A2 k c2 1 _ rfl rfl hO3.out rfl (by simp [Value.oneCell']) (by omega) (by omega) zr2 ?_; intro A4 c4 w4 happ hlt4)
          have HB4 := hide (happ.low hb2.out zr2 (Nat.le_refl _) hO3.out)
          have HO4 : Hid (OwnI w4 wo.heap.size w4.heap.size A4 (k + 1) c4 ((colR s 0 l).take (k + 1))) := by
            refine ⟨?_, fun ad e => (owns_lt happ.1 ad e).2, ?_⟩
            · have := happ.1
              rw [hst.out]
              simpa using this
            · intro z hz
              rw [hst.out] at hz
              rcases List.mem_append.1 hz with hz | hz
              · exact hO2.out.rng z hz
              · obtain rfl : z = 2 * x + y := by simpa using hz
                constructor <;> omega
          clear happ hO2 hO3 hb2
          go_roundw
          case rel => exact ⟨k + 1, c4, A4, by omega, by go_num, rfl, HO4.out, HB4.out⟩
          case measure => simp [intOf]; omega
        · obtain rfl : k = m := by omega
          have htk : (colR s 0 l).take k = colR s 0 l := List.take_of_length_le (by rw [colR_len, HLen.out]; exact Nat.le_refl _)
          rw [htk] at hO2
          obtain ⟨vs, hOv⟩ := hO.out
          have hOk := hide (hOv.kept hb2.out)
          have hOw := hide hOv
          have hR := hide (owns_low hO2.out.own zr)
          have hst := hide (colF_step (l := l) (s := s) (by rw [HLen.out, ← HPW.out]; exact hlt))
          clear hOv hO
          go_wp2_with (at_builtin; refine wpl_app1b rfl (.tmp 35) (.tmp 37) 50 rfl w.heap.size 22 i1 (.slice none 0 0) 1 24 Tryz.underlying50 hi1 hy0 hy1 hy2 rfl (by omega) wr #[.slice A2 k c2] _ rfl A s c' 1 _ rfl rfl hOk.out.own rfl (by simp [Value.oneCell']) (by omega) (by omega) (by omega) ?_; intro A5 c5 w5 hap5 hlt5)
          have hO5 := hide (hOk.out.pushRow hR.out hO2.out.rng (hb := wo.heap.size) (fun ad e => (owns_lt hO2.out.own ad e).1) (fun ad e => (owns_lt hOw.out.own ad e).2) (fun j v hv b hb => (hOw.out.olt j v hv b hb).2) hap5)
          have hB5 := hide (hap5.low (hb.out.trans (hb2.out.mono zr)) (by omega) (Nat.le_refl _) hOk.out.own)
          rw [← hst.out] at hO5
          clear hap5 hOk hOw hR hO2 hb2
          go_roundw
          case rel => exact ⟨s + 1, c5, A5, by omega, by go_num, rfl, ⟨_, hO5.out⟩, hB5.out⟩
          case measure => simp [intOf]; omega
    · obtain rfl : s = P := by omega
      have htk : (colF l).take s = colF l := List.take_of_length_le (by rw [colF_len, HLen.out, ← HPW.out]; exact Nat.le_refl _)
      rw [htk] at hO
      obtain ⟨vs, hOv⟩ := hO.out
      obtain ⟨g, rfl, _⟩ := hOv.form (by omega)
      have hO5 := hide hOv
      have hw2 := HW2.out
      clear hOv hO
      go_wp2_with fail
      go_ret
      exact ⟨g, s, c', vs, rfl, hO5.out, hb.out⟩
end Go.Proofs.YthjkdpapadolgaaGreatDoor
