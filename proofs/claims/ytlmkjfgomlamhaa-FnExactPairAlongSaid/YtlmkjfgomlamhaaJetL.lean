/- Polynomials in h: one power later; the reference's sum. -/
import Derived.Test.YtlmkjfgomlamhaaJetK
namespace Go.Proofs.Ytlmkjfgomlamhaa
open Go.RowKit
set_option linter.unusedSimpArgs false
set_option linter.unusedVariables false
set_option maxRecDepth 20000

theorem mixJ_big {new old : List Int} {k j : Nat} (h1 : new.length = k) (h2 : old.length = k) (hj : k ≤ j) : mixJ new old j = new := by
  simp [mixJ, List.take_of_length_le (show new.length ≤ j by omega), List.drop_eq_nil_of_le (show old.length ≤ j by omega)]
theorem later_at {xs : List Int} {j : Nat} {x : Int} (hx : xs[j]? = some x) (hj : j + 1 < xs.length) : (later1 xs)[j + 1]? = some x := by
  rw [later1, tabJ_at _ hj, if_neg (by omega)]
  simp [List.getD, hx]
theorem later_start {xs : List Int} {n : Nat} (h : xs.length = n) : mixJ (later1 xs) (zeroJ n) 1 = zeroJ n := by
  refine tabJ_eq (n := n) ?_ (zero_len n) fun j hj => ?_
  · simp [mixJ, later_len, h, zero_len]; omega
  · unfold mixJ
    by_cases h0 : j = 0
    · subst h0
      rw [List.getD_eq_getElem?_getD, List.getElem?_append_left (by simp [later_len, h]; omega), List.getElem?_take_of_lt (by omega), later1, tabJ_at _ (by omega)]
      simp [zeroJ, List.getD, hj]
    · rw [List.getD_eq_getElem?_getD, List.getElem?_append_right (by simp [later_len, h]; omega)]
      simp only [List.length_take, later_len, h, List.getElem?_drop]
      rw [show 1 + (j - min 1 n) = j by omega, ← List.getD_eq_getElem?_getD]

set_option maxRecDepth 100000 in
set_option maxHeartbeats 4000000 in
theorem impl_later (A : Option Addr) (n c : Nat) (xs : List Int) (lo hi : Nat) (w : World) (h : Ints w lo hi A n c xs) (hh : hi ≤ w.heap.size) (hn : n ≤ 1000) :
    Calls Try.prog 58 #[.slice A n c, .int .i64 1] w fun e w' => ∃ gR, e = .returned (.slice (some ⟨gR, 0, none⟩) n n) ∧ OwnI w' w.heap.size w'.heap.size (some ⟨gR, 0, none⟩) n n (later1 xs) ∧ Below w.heap.size w w' := by
  have hcA := h.cap
  have hmA := h.max
  have hmk := make_jet n hn w
  have HX := hide h
  have hlx := hide h.len
  have hll : Hid ((later1 xs).length = n) := by show _ = _; rw [later_len, h.len]
  have s0 := hide (FillS.start w n hn)
  clear h
  go_enter Try.func58, Try.ntmps58
  go_wp2_with fail
  clear hmk
  go_loopw [12] (fun i wr => ∃ (j : Nat), j ≤ n ∧ i = .int .i64 j ∧ Hid (FillS w wr w.heap.size n (mixJ (later1 xs) (zeroJ n) (j + 1)))) (fun i _ => n - (intOf i).toNat)
  case atStart => exact ⟨0, by omega, rfl, by show Hid (FillS w _ w.heap.size n (mixJ (later1 xs) (zeroJ n) 1)); rw [later_start hlx.out]; exact s0⟩
  case round =>
    clear s0
    obtain ⟨j, hj, rfl, hS⟩ := hrel
    by_cases hlt : j < n
    · obtain ⟨ad, x, rfl, hcx, hxr, _, hxx⟩ := (HX.out.below hS.out.low hh).at_ hlt
      by_cases hlt2 : j + 1 < n
      · obtain ⟨v, hcv, _, _, hfv⟩ := hS.out.cell hlt2
        have hat := later_at hxx.out (by rw [hlx.out]; exact hlt2)
        have hN := hS.out.set (j + 1) hxr
        rw [mixJ_set hll.out (zero_len n) hlt2 hat] at hN
        have HN := hide hN
        clear hxx hat hN hS
        go_wp2_with fail
        go_roundw
        case rel => exact ⟨j + 1, by omega, by go_num, HN.out⟩
        case measure => simp [intOf]; omega
      · have hN := hS.out
        rw [mixJ_big hll.out (zero_len n) (by omega), ← mixJ_big (j := j + 1 + 1) hll.out (zero_len n) (by omega)] at hN
        have HN := hide hN
        clear hxx hN hS
        go_wp2_with fail
        go_roundw
        case rel => exact ⟨j + 1, by omega, by go_num, HN.out⟩
        case measure => simp [intOf]; omega
    · obtain rfl : n = j := by omega
      rw [mixJ_big hll.out (zero_len n) (by omega)] at hS
      go_wp2_with fail
      go_ret
      exact ⟨_, rfl, hS.out.done⟩

theorem take_snocJ {α : Type} {xs : List α} {k : Nat} {x : α} (hx : xs[k]? = some x) : xs.take k ++ [x] = xs.take (k + 1) := by
  rw [List.take_add_one, hx]; rfl
theorem jplus_rng (xs ys : List Int) (k : Int) : ∀ z ∈ jplus xs ys k, 0 ≤ z ∧ z < 1000000271 := tabJ_num fun j => plusF_bd _ _
theorem jmul_rng (xs ys : List Int) : ∀ z ∈ jmul xs ys, 0 ≤ z ∧ z < 1000000271 := tabJ_num fun j => ⟨Int.emod_nonneg _ (by omega), Int.emod_lt_of_pos _ (by omega)⟩

set_option maxRecDepth 100000 in
set_option maxHeartbeats 4000000 in
theorem spec_l8Add (A : Option Addr) (n c : Nat) (xs : List Int) (lo hi : Nat) (B : Option Addr) (d : Nat) (ys : List Int) (lo' hi' : Nat) (k : Int) (w : World) (h : Ints w lo hi A n c xs) (g : Ints w lo' hi' B n d ys) (hh : hi ≤ w.heap.size) (hh' : hi' ≤ w.heap.size) (hn : n ≤ 1000) (hk : R64 k) :
    Calls Try.prog 50 #[.slice A n c, .slice B n d, .int .i64 k] w fun e w' => ∃ R cR, e = .returned (.slice R n cR) ∧ OwnI w' w.heap.size w'.heap.size R n cR (jplus xs ys k) ∧ Below w.heap.size w w' := by
  obtain ⟨i0, hi0, hz0, hz1, hz2⟩ := info_parts info_int
  have hcA := h.cap
  have hmA := h.max
  have hcB := g.cap
  have hmB := g.max
  have HX := hide h
  have HY := hide g
  have HK := hide hk
  have hlx : Hid ((jplus xs ys k).length = n) := by show _ = _; rw [jplus_len, h.len]
  have own0 : Hid ((w.alloc (.cells #[] 3)).ownsRow w.heap.size 3 1 (.slice (some ⟨w.heap.size, 0, none⟩) 0 0) 0 (((jplus xs ys k).take 0).map (Value.int .i64))) := by
    show World.ownsRow _ _ _ _ _ _ _
    simpa using World.ownsRow_lit (size := 1) (e := 3) (base := w.heap.size) w #[] 0 (Nat.le_refl _) (by unfold maxLen; omega) rfl
  have b0 := hide (below_alloc w (.cells #[] 3))
  clear h g hk
  go_enter Try.func50, Try.ntmps50
  go_wp2_with fail
  go_loopw [7, 8] (fun p i wr => ∃ (j : Nat) (R : Option Addr) (dR : Nat), j ≤ n ∧ i = .int .i64 j ∧ p = .slice R j dR ∧ Hid (wr.ownsRow w.heap.size 3 1 (.slice R j dR) j (((jplus xs ys k).take j).map (Value.int .i64))) ∧ Hid (Below w.heap.size w wr)) (fun _ i _ => n - (intOf i).toNat)
  case atStart => exact ⟨0, _, 0, by omega, rfl, rfl, own0.out, b0.out⟩
  case round =>
    clear own0 b0
    obtain ⟨j, R, dR, hj, rfl, rfl, hO, hb⟩ := hrel
    have hsz := hb.out.size
    by_cases hlt : j < n
    · obtain ⟨ad, x, rfl, hcx, hxr, _, hxx⟩ := (HX.out.below hb.out hh).at_ hlt
      obtain ⟨ae, y, rfl, hcy, hyr, _, hyy⟩ := (HY.out.below hb.out hh').at_ hlt
      have hat := jplus_at (k := k) hxx.out hyy.out
      have HT := hide fun W => spec_Times y k W hyr HK.out
      have htb := timesF_bd y k
      have HP := hide fun W => spec_Plus x (timesF y k) W hxr (by constructor <;> omega)
      have hpb := plusF_bd x (timesF y k)
      have hT2 : Hid ((jplus xs ys k).take j ++ [plusF x (timesF y k)] = (jplus xs ys k).take (j + 1)) := take_snocJ hat
      have hOd : Hid (wr.drew.ownsRow w.heap.size 3 1 (.slice R j dR) j (((jplus xs ys k).take j).map (Value.int .i64))) := hO.out
      have hbd := hide hb.out.drew
      have hszd : w.heap.size ≤ wr.drew.heap.size := hsz
      have HC : Hid (∀ v1 : World, Below w.heap.size w v1 → v1.cell? (ad.add j) = some (.int .i64 x) ∧ v1.cell? (ae.add j) = some (.int .i64 y)) := fun v1 hB => by
        obtain ⟨a1, x1, e1, c1, _, _, q1⟩ := (HX.out.below hB hh).at_ hlt
        obtain ⟨a2, y1, e2, c2, _, _, q2⟩ := (HY.out.below hB hh').at_ hlt
        injection e1 with e1
        injection e2 with e2
        subst e1 e2
        have f1 := hxx.out.symm.trans q1.out
        have f2 := hyy.out.symm.trans q2.out
        injection f1 with f1
        injection f2 with f2
        subst f1 f2
        exact ⟨c1, c2⟩
      have S1 := hide (HC.out _ hbd.out)
      have S2 := hide (HC.out _ (hbd.out.alloc hszd (.cells #[.int .i64 (plusF x (timesF y k))] 3)))
      clear hxx hyy hat
      go_wp2_with fail
      go_region_held3 (fun w' => w'.cell? (ad.add j) = some (.int .i64 x) ∧ w'.cell? (ae.add j) = some (.int .i64 y)) (first | exact ⟨hcx, hcy⟩ | exact S1.out | exact S2.out | exact T5 | go_keep)
        (first
          | (go_at_call 67; refine (HT.out _).mono ?_; rintro e w' ⟨rfl, rfl⟩)
          | (go_at_call 66; refine (HP.out _).mono ?_; rintro e w' ⟨rfl, rfl⟩)
          | (refine step_app1 (by rfl) _ _ 22 (by rfl) w.heap.size 3 i0 (.int .i64 0) 1 8 Try.underlying22 hi0 hz0 hz1 hz2 rfl (by omega) wr.drew #[.int .i64 (plusF x (timesF y k))] _ rfl R j dR 1 _ (by rfl) (by rfl) hOd.out rfl (by simp [Value.oneCell']) (by omega) (by omega) hszd ?_; intro R2 d3 w5 happ hlt3; have hb5 := hide (happ.low hbd.out hszd (Nat.le_refl _) hOd.out); have T5 := HC.out _ hb5.out))
      all_goals
        have hO5 : Hid (w5.ownsRow w.heap.size 3 1 (.slice R2 (j + 1) d3) (j + 1) (((jplus xs ys k).take (j + 1)).map (Value.int .i64))) := by
          show World.ownsRow _ _ _ _ _ _ _
          rw [← hT2.out, List.map_append]
          exact happ.1
        clear happ hOd hbd S1 S2 T5 hcx hcy HC hO hb
        go_wp2_with fail
        go_roundw
        case rel => exact ⟨j + 1, R2, d3, by omega, by go_num, rfl, hO5.out, hb5.out⟩
        case measure => simp [intOf]; omega
    · obtain rfl : n = j := by omega
      have hO2 := hO.out
      rw [List.take_of_length_le (Nat.le_of_eq hlx.out)] at hO2
      have HO := hide hO2
      clear hO hO2
      go_wp2_with fail
      go_ret
      exact ⟨R, dR, rfl, ⟨HO.out, fun ad e => (owns_lt HO.out ad e).2, fun z hz => by have := jplus_rng xs ys k z hz; constructor <;> omega⟩, hb.out⟩
end Go.Proofs.Ytlmkjfgomlamhaa
