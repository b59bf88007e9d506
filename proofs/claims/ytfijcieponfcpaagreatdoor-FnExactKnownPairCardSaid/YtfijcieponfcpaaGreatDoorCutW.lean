/- Cutting a text at each place of one byte: the reference's walk. -/
import Derived.Test.YtfijcieponfcpaaGreatDoorParW
namespace Go.Proofs.YtfijcieponfcpaaGreatDoor
open Go.RowKit
set_option linter.unusedSimpArgs false
set_option linter.unusedVariables false
set_option maxRecDepth 20000

theorem ext_list (s : ByteArray) (f k : Nat) (hk : k ≤ s.size) : (s.extract f k).data.toList = (s.data.toList.drop f).take (k - f) := by
  rw [Lib.extract_data]
theorem take_next {s : ByteArray} {f k : Nat} (hf : f ≤ k) (h : k < s.size) : (s.data.toList.drop f).take (k + 1 - f) = (s.data.toList.drop f).take (k - f) ++ [s[k]] := by
  have h2 : k < s.data.toList.length := by rw [list_len]; exact h
  rw [show k + 1 - f = (k - f) + 1 by omega, List.take_add_one, List.getElem?_drop, show f + (k - f) = k by omega, List.getElem?_eq_getElem h2]
  rfl
theorem drop_split {s : ByteArray} {f k : Nat} (hf : f ≤ k) (h : k < s.size) : s.data.toList.drop f = (s.data.toList.drop f).take (k - f) ++ s[k] :: s.data.toList.drop (k + 1) := by
  rw [← drop_at h]
  have : s.data.toList.drop k = (s.data.toList.drop f).drop (k - f) := by rw [List.drop_drop, show f + (k - f) = k by omega]
  rw [this, List.take_append_drop]

set_option maxRecDepth 100000 in
set_option maxHeartbeats 2000000 in
theorem spec_l1Cut (s : ByteArray) (x : UInt8) (xi : Int) (hxi : xi = x.toNat) (w : World) (hs : s.size ≤ 1099511627000) :
    Calls Tryz.prog 46 #[.string s, .int .u8 xi] w fun e w' => ∃ (A : Option Addr) (n c : Nat) (ps : List ByteArray), e = .returned (.slice A n c) ∧ Hid (w'.ownsRow w.heap.size 9 1 (.slice A n c) n (ps.map Value.string)) ∧ Hid (ps.map (·.data.toList) = piecesF x s.data.toList) ∧ Below w.heap.size w w' := by
  obtain ⟨i0, hi0, hz0, hz1, hz2⟩ := info_parts info_str
  have q0 : (w.alloc (.cells #[] 9)).ownsRow w.heap.size 9 1 (.slice (some ⟨w.heap.size, 0, none⟩) 0 0) 0 (([] : List ByteArray).map Value.string) := by
    simpa using World.ownsRow_lit (size := 1) (e := 9) (base := w.heap.size) w #[] 0 (Nat.le_refl _) (by unfold maxLen; omega) rfl
  have b2 := below_alloc w (.cells #[] 9)
  have HXI := hide hxi
  clear hxi
  go_enter Tryz.func46, Tryz.ntmps46
  go_wp2_with fail
  go_loopw [5, 6, 7] (fun v fv iv wr => ∃ (k f m : Nat) (A : Option Addr) (c : Nat) (ps : List ByteArray), k ≤ s.size ∧ f ≤ k ∧ m ≤ k ∧ iv = .int .i64 k ∧ fv = .int .i64 f ∧ v = .slice A m c ∧ Hid (wr.ownsRow w.heap.size 9 1 (.slice A m c) m (ps.map Value.string)) ∧ Hid (piecesF x s.data.toList = ps.map (·.data.toList) ++ piecesF x (s.data.toList.drop f) ∧ x ∉ (s.data.toList.drop f).take (k - f)) ∧ Hid (Below w.heap.size w wr))
    (fun _ _ iv _ => s.size - (intOf iv).toNat)
  case atStart => exact ⟨0, 0, 0, _, _, [], by omega, by omega, by omega, rfl, rfl, rfl, q0, ⟨rfl, by simp⟩, b2⟩
  case round =>
    clear q0 b2
    obtain ⟨k, f, m, A, c, ps, hk, hf, hm, rfl, rfl, rfl, hown, hp, hb⟩ := hrel
    have hsz := hb.out.size
    by_cases hlt : k < s.size
    · obtain ⟨c1, hc1⟩ : ∃ c1, s[k] = c1 := ⟨_, rfl⟩
      have hlt' : (k : Int) < s.size := by omega
      have hf0 : (0 : Int) ≤ f := by omega
      have hf1 : (f : Int) ≤ k := by omega
      by_cases hx : c1 = x
      · have hP : Hid (piecesF x s.data.toList = (ps ++ [s.extract f k]).map (·.data.toList) ++ piecesF x (s.data.toList.drop (k + 1)) ∧ x ∉ (s.data.toList.drop (k + 1)).take (k + 1 - (k + 1))) := by
          refine ⟨?_, by simp⟩
          rw [hp.out.1, List.map_append, List.append_assoc, drop_split hf hlt, hc1, hx, piecesF_hit _ hp.out.2, ← ext_list s f k (by omega)]
          rfl
        have hcx : ((c1.toNat : Int) == xi) = true := by rw [HXI.out, hx]; simp
        clear hx hp
        go_wp2_with (at_builtin; refine wpl_app1 rfl (.tmp 20) (.tmp 25) 51 rfl w.heap.size 9 i0 (.string ByteArray.empty) 1 16 Tryz.underlying51 hi0 hz0 hz1 hz2 rfl (by omega) _ #[.string (s.extract f k)] A m c 1 _ rfl rfl hown.out rfl (by simp [Value.oneCell']) (by omega) (by omega) hsz ?_; intro A2 c2 w4 happ hlt2)
        have hL : Hid (w4.ownsRow w.heap.size 9 1 (.slice A2 (m + 1) c2) (m + 1) ((ps ++ [s.extract f k]).map Value.string)) := by
          show World.ownsRow _ _ _ _ _ _ _
          rw [List.map_append]
          exact happ.1
        have HB : Hid (Below w.heap.size w w4) := happ.below hb.out hsz (fun ad e => (owns_lt hown.out ad e).1)
        clear happ hown hb
        go_wp2_with fail
        go_roundw
        case rel => exact ⟨k + 1, k + 1, m + 1, A2, c2, _, by omega, by omega, by omega, by go_num, by go_num, rfl, hL, hP, HB⟩
        case measure => simp [intOf]; omega
      · have hP : Hid (piecesF x s.data.toList = ps.map (·.data.toList) ++ piecesF x (s.data.toList.drop f) ∧ x ∉ (s.data.toList.drop f).take (k + 1 - f)) := by
          refine ⟨hp.out.1, ?_⟩
          rw [take_next hf hlt, hc1]
          simp only [List.mem_append, List.mem_singleton, not_or]
          exact ⟨hp.out.2, fun e => hx e.symm⟩
        have hcx : ((c1.toNat : Int) == xi) = false := by
          rw [HXI.out]
          simp only [beq_eq_false_iff_ne, ne_eq]
          intro e
          exact hx (UInt8.toNat_inj.1 (by omega))
        clear hx hp
        go_wp2_with fail
        go_roundw
        case rel => exact ⟨k + 1, f, m, A, c, ps, by omega, by omega, by omega, by go_num, rfl, rfl, hown, hP, hb⟩
        case measure => simp [intOf]; omega
    · obtain rfl : k = s.size := by omega
      have hf0 : (0 : Int) ≤ f := by omega
      have hf1 : (f : Int) ≤ s.size := by omega
      have hP : Hid ((ps ++ [s.extract f s.size]).map (·.data.toList) = piecesF x s.data.toList) := by
        show _ = _
        have h2 := hp.out.2
        rw [List.take_of_length_le (by rw [List.length_drop, list_len]; omega)] at h2
        rw [hp.out.1, List.map_append, piecesF_none h2]
        simp only [List.map_cons, List.map_nil]
        rw [ext_list s f s.size (Nat.le_refl _), List.take_of_length_le (by rw [List.length_drop, list_len]; omega)]
      clear hp
      go_wp2_with (at_builtin; refine wpl_app1 rfl (.tmp 29) (.tmp 33) 51 rfl w.heap.size 9 i0 (.string ByteArray.empty) 1 16 Tryz.underlying51 hi0 hz0 hz1 hz2 rfl (by omega) _ #[.string (s.extract f s.size)] A m c 1 _ rfl rfl hown.out rfl (by simp [Value.oneCell']) (by omega) (by omega) hsz ?_; intro A2 c2 w4 happ hlt2)
      have hL : Hid (w4.ownsRow w.heap.size 9 1 (.slice A2 (m + 1) c2) (m + 1) ((ps ++ [s.extract f s.size]).map Value.string)) := by
        show World.ownsRow _ _ _ _ _ _ _
        rw [List.map_append]
        exact happ.1
      have HB : Below w.heap.size w w4 := happ.below hb.out hsz (fun ad e => (owns_lt hown.out ad e).1)
      clear happ hown hb
      go_wp2_with fail
      go_ret
      exact ⟨_, _, _, rfl, _, hL, hP, HB⟩
end Go.Proofs.YtfijcieponfcpaaGreatDoor
