/- The texts of rows of numbers and of paths: the walks. -/
import Derived.Test.YtfijcieponfcpaaGreatDoorStrS
import Derived.Test.YtfijcieponfcpaaGreatDoorPathW
namespace Go.Proofs.YtfijcieponfcpaaGreatDoor
open Go.RowKit
set_option linter.unusedSimpArgs false
set_option linter.unusedVariables false
set_option maxRecDepth 20000

def numsB (l : List Int) : ByteArray := if allNumF l = true then joinB ⟨#[32]⟩ (l.map fmtF) else ⟨#[]⟩
theorem fmt_sizes (l : List Int) : ∀ x ∈ l.map fmtF, x.size ≤ 11 := by
  intro x hx
  obtain ⟨m, _, rfl⟩ := List.mem_map.1 hx
  exact fmtF_size m
theorem numsB_size (l : List Int) : (numsB l).size ≤ 12 * l.length := by
  unfold numsB
  split
  · have := joinB_size ⟨#[32]⟩ 11 (l.map fmtF) (fmt_sizes l)
    rw [List.length_map] at this
    exact this
  · exact Nat.zero_le _

theorem allNum_step {xs : List Int} {k : Nat} {x : Int} (hd : xs.drop k = x :: xs.drop (k+1)) : allNumF (xs.drop k) = if isNumF x = true then allNumF (xs.drop (k+1)) else false := by
  rw [hd, allNumF]

set_option maxRecDepth 100000 in
set_option maxHeartbeats 2000000 in
theorem spec_FormatNumbers (A0 : Option Addr) (n c0 : Nat) (xs : List Int) (lo hi : Nat) (w : World) (h : Ints w lo hi A0 n c0 xs) (hh : hi ≤ w.heap.size) (hn : n ≤ 1048576) :
    Calls Tryz.prog 72 #[.slice A0 n c0] w fun e w' => e = .returned (.string (numsB xs)) ∧ Below w.heap.size w w' := by
  have hcp := h.cap
  have hm := h.max
  have hs3 : (ByteArray.mk #[32]).size = 1 := rfl
  go_enter Tryz.func72, Tryz.ntmps72
  go_wp2_with fail
  go_loopw [3, 4] (fun sv i wr => ∃ (k : Nat) (s : ByteArray), k ≤ n ∧ i = .int .i64 k ∧ sv = .string s ∧ Hid (s = joinB ⟨#[32]⟩ ((xs.map fmtF).take k)) ∧ s.size ≤ 12582912 ∧ Hid (allNumF xs = allNumF (xs.drop k)) ∧ Hid (Below w.heap.size w wr))
    (fun _ i _ => n - (intOf i).toNat)
  case atStart => exact ⟨0, ⟨#[]⟩, by omega, rfl, rfl, rfl, Nat.zero_le _, rfl, Below.refl _ _⟩
  case round =>
    obtain ⟨k, s, hk, rfl, rfl, hs, hss, hall, hb⟩ := hrel
    by_cases hlt : k < n
    · obtain ⟨ad, x, rfl, hc, hr, hd, hx⟩ := (h.below hb.out hh).at_ hlt
      have hI := hide (spec_IsNumber x wr)
      cases hv : isNumF x with
      | false =>
        have hG : Hid (numsB xs = ⟨#[]⟩) := if_neg (by rw [hall.out, allNum_step hd.out, hv]; simp)
        have HB := hb.out
        rw [hv] at hI
        clear hv hd hx hs hb
        go_wp2_with fail
        refine hI.out.mono ?_
        rintro e w' ⟨rfl, rfl⟩
        go_wp2_with fail
        go_ret
        exact ⟨by rw [hG.out]; rfl, HB⟩
      | true =>
        have hall2 : Hid (allNumF xs = allNumF (xs.drop (k + 1))) := by show _ = _; rw [hall.out, allNum_step hd.out, hv]; rfl
        rw [hv] at hI
        have hxm : (xs.map fmtF)[k]? = some (fmtF x) := by rw [List.getElem?_map, hx.out]; rfl
        have hs2 := fmtF_size x
        have hsz := hb.out.size
        have hS := hide (spec_FormatNumber x wr)
        have hnS : (joinB ⟨#[32]⟩ ((xs.map fmtF).take (k + 1))).size ≤ 12582912 := by
          refine Nat.le_trans (joinB_take_le ⟨#[32]⟩ _ 11 (fmt_sizes xs) _) ?_
          rw [List.length_map, h.len]
          show (11 + 1) * n ≤ _
          omega
        have HN := hide hnS
        by_cases h0 : k = 0
        · have hS1 : Hid (s ++ fmtF x = joinB ⟨#[32]⟩ ((xs.map fmtF).take (k + 1))) := by
            show _ = _
            subst h0
            rw [joinB_take0 _ _ hxm, hs.out, List.take_zero, joinB_nil]
            exact nil_app _
          have hnk : ¬ (0 < k) := by omega
          clear hv hd hx hs h0 hxm hnS hr
          go_wp2_with fail
          refine hI.out.mono ?_
          rintro e w' ⟨rfl, rfl⟩
          go_wp2_with fail
          refine hS.out.mono ?_
          rintro e w2 ⟨rfl, bF⟩
          have HB : Hid (Below w.heap.size w w2) := hb.out.trans (bF.mono hsz)
          clear bF hb hS
          go_wp2_with fail
          go_roundw
          case rel => exact ⟨k + 1, _, by omega, by go_num, rfl, hS1, by rw [hS1.out]; exact HN.out, hall2, HB⟩
          case measure => simp [intOf]; omega
        · have hS1 : Hid (s ++ ⟨#[32]⟩ ++ fmtF x = joinB ⟨#[32]⟩ ((xs.map fmtF).take (k + 1))) := by
            show _ = _
            rw [joinB_take _ _ _ hxm (by omega), ← hs.out]
          have hnk : 0 < k := by omega
          clear hv hd hx hs h0 hxm hnS hr
          go_wp2_with fail
          refine hI.out.mono ?_
          rintro e w' ⟨rfl, rfl⟩
          go_wp2_with fail
          refine hS.out.mono ?_
          rintro e w2 ⟨rfl, bF⟩
          have HB : Hid (Below w.heap.size w w2) := hb.out.trans (bF.mono hsz)
          clear bF hb hS
          go_wp2_with fail
          go_roundw
          case rel => exact ⟨k + 1, _, by omega, by go_num, rfl, hS1, by rw [hS1.out]; exact HN.out, hall2, HB⟩
          case measure => simp [intOf]; omega
    · obtain rfl : k = n := by omega
      have hl : xs.length = k := h.len
      have he := h.drop_end
      have hG : Hid (numsB xs = s) := by
        show _ = _
        rw [numsB, if_pos (by rw [hall.out, he.out]; rfl), hs.out, List.take_of_length_le (by simp; omega)]
      have hB := hb.out
      clear hs hb
      go_wp2_with fail
      go_ret
      exact ⟨by rw [hG.out]; rfl, hB⟩
end Go.Proofs.YtfijcieponfcpaaGreatDoor
