/- Polynomials in h: the program's product. -/
import Derived.Test.YtjamdnbabfodkaaJetI
import Derived.Test.YtjamdnbabfodkaaPoly
import Derived.Test.YtjamdnbabfodkaaTab
import Derived.Test.YtjamdnbabfodkaaMono2
namespace Go.Proofs.Ytjamdnbabfodkaa
open Go.RowKit
set_option linter.unusedSimpArgs false
set_option linter.unusedVariables false
set_option maxRecDepth 20000

theorem mulP_zero {xs ys : List Int} {n : Nat} (h : xs.length = n) : jmulP xs ys 0 = zeroJ n := by
  refine tabJ_eq (n := n) (by rw [jmulP, tabJ_len, h]) (zero_len n) fun j hj => ?_
  rw [jmulP, tabJ_get _ (by omega)]
  simp [psum, zeroJ, hj]
theorem mulP_len (xs ys : List Int) (i : Nat) : (jmulP xs ys i).length = xs.length := tabJ_len _ _
theorem mulP_at (xs ys : List Int) {i q : Nat} (h : q < xs.length) : (jmulP xs ys i)[q]? = some (psum xs ys i q % 1000000271) := tabJ_at _ h
theorem psum_step {xs ys : List Int} {i j : Nat} {x y : Int} (hx : xs[i]? = some x) (hy : ys[j]? = some y) : psum xs ys (i + 1) (i + j) % 1000000271 = (psum xs ys i (i + j) % 1000000271 + x * y) % 1000000271 := by
  rw [psum, if_pos (by omega), show i + j - i = j by omega]
  simp only [List.getD, hx, hy, Option.getD_some]
  rw [Int.emod_add_emod]
theorem mul_begin {xs ys : List Int} {i n : Nat} (h : xs.length = n) (hi : i ≤ n) : mixJ (jmulP xs ys (i + 1)) (jmulP xs ys i) i = jmulP xs ys i := by
  refine tabJ_eq (n := n) ?_ (by rw [mulP_len, h]) fun j hj => ?_
  · simp [mixJ, mulP_len, h]; omega
  · unfold mixJ
    by_cases hji : j < i
    · rw [List.getD_eq_getElem?_getD, List.getElem?_append_left (by simp [mulP_len, h]; omega), List.getElem?_take_of_lt hji, mulP_at _ _ (by omega), List.getD_eq_getElem?_getD, mulP_at _ _ (by omega)]
      simp only [Option.getD_some]
      rw [psum, if_neg (by omega), Int.add_zero]
    · rw [List.getD_eq_getElem?_getD, List.getElem?_append_right (by simp [mulP_len, h]; omega)]
      simp only [List.length_take, mulP_len, h, List.getElem?_drop, Nat.min_eq_left hi]
      rw [show i + (j - i) = j by omega, ← List.getD_eq_getElem?_getD]
theorem mul_zero_row {xs ys : List Int} {i : Nat} (hx : xs[i]? = some 0) : jmulP xs ys (i + 1) = jmulP xs ys i := by
  unfold jmulP tabJ
  refine List.map_congr_left fun k _ => ?_
  rw [psum]
  simp [List.getD, hx]

end Go.Proofs.Ytjamdnbabfodkaa
/- Polynomials in h: the reference's product. -/
namespace Go.Proofs.Ytjamdnbabfodkaa
open Go.RowKit
set_option linter.unusedSimpArgs false
set_option linter.unusedVariables false
set_option maxRecDepth 20000

set_option maxRecDepth 100000 in
set_option maxHeartbeats 8000000 in
theorem spec_l8Mul (A : Option Addr) (n c : Nat) (xs : List Int) (lo hi : Nat) (B : Option Addr) (d : Nat) (ys : List Int) (lo' hi' : Nat) (w : World) (h : Ints w lo hi A n c xs) (g : Ints w lo' hi' B n d ys) (hh : hi ≤ w.heap.size) (hh' : hi' ≤ w.heap.size) (hn : n ≤ 1000) (hx : ∀ x ∈ xs, 0 ≤ x ∧ x < 1000000271) (hy : ∀ y ∈ ys, 0 ≤ y ∧ y < 1000000271) :
    Calls Try.prog 56 #[.slice A n c, .slice B n d] w fun e w' => ∃ gR, e = .returned (.slice (some ⟨gR, 0, none⟩) n n) ∧ OwnI w' w.heap.size w'.heap.size (some ⟨gR, 0, none⟩) n n (jmul xs ys) ∧ Below w.heap.size w w' := by
  have hcA := h.cap
  have hmA := h.max
  have hcB := g.cap
  have hmB := g.max
  have hmk := make_ints n (by omega) w
  have HX := hide h
  have HY := hide g
  have hlx := hide h.len
  have HXN := hide hx
  have HYN := hide hy
  have s0 := hide (FillS.start w n hn)
  rw [← mulP_zero (ys := ys) hlx.out] at s0
  clear h g hx hy
  go_enter Try.func56, Try.ntmps56
  go_wp2_with fail
  clear hmk
  go_loopw [6] (fun i wr => ∃ (j : Nat), j ≤ n ∧ i = .int .i64 j ∧ Hid (FillS w wr w.heap.size n (jmulP xs ys j))) (fun i _ => n - (intOf i).toNat)
  case atStart => exact ⟨0, by omega, rfl, s0⟩
  case round =>
    clear s0
    obtain ⟨i, hi, rfl, hS⟩ := hrel
    by_cases hlt : i < n
    · obtain ⟨ad, x, rfl, hcx, hxr, _, hxx⟩ := (HX.out.below hS.out.low hh).at_ hlt
      have hxb := HXN.out x (List.mem_of_getElem? hxx.out)
      by_cases hx0 : x = 0
      · subst hx0
        have hN := hS.out
        rw [← mul_zero_row (ys := ys) hxx.out] at hN
        have HN := hide hN
        have hw0 : IntKind.i64.wrap ((i : Int) + 0) = (i : Int) := by rw [Int.add_zero]; exact IntWalk.i64_in _ (by omega)
        clear hxx hS hN
        go_wp2_with fail
        go_loopw [7] (fun v wr2 => v = .int .i64 0 ∧ wr2 = wr) (fun _ _ => 0)
        case atStart => exact ⟨rfl, rfl⟩
        case round =>
          obtain ⟨rfl, rfl⟩ := hrel
          go_wp2_with fail
          go_roundw
          case rel => exact ⟨i + 1, by omega, by go_num, HN.out⟩
          case measure => simp [intOf]; omega
      · have hxne : (x != 0) = true := by simpa using hx0
        clear hx0
        go_wp2_with fail
        go_loopw [7] (fun v wr => ∃ (j : Nat), i + j ≤ n ∧ v = .int .i64 j ∧ Hid (FillS w wr w.heap.size n (mixJ (jmulP xs ys (i + 1)) (jmulP xs ys i) (i + j)))) (fun v _ => n - (intOf v).toNat)
        case atStart => exact ⟨0, by omega, rfl, by show Hid (FillS w wr w.heap.size n (mixJ (jmulP xs ys (i + 1)) (jmulP xs ys i) i)); rw [mul_begin hlx.out (by omega)]; exact hS⟩
        case round =>
          clear hS hcx
          obtain ⟨j, hj, rfl, hS⟩ := hrel
          obtain ⟨ad1, x1, e1, hcx, _, _, hxx1⟩ := (HX.out.below hS.out.low hh).at_ hlt
          injection e1 with e1
          subst e1
          obtain rfl : x = x1 := by have h1 := hxx.out; rw [hxx1.out] at h1; injection h1 with h1; exact h1.symm
          clear hxx1
          have hw0 : IntKind.i64.wrap ((i : Int) + (j : Int)) = ((i + j : Nat) : Int) := by rw [show ((i + j : Nat) : Int) = (i : Int) + j by simp]; exact IntWalk.i64_in _ (by omega)
          by_cases hlt2 : i + j < n
          · obtain ⟨ae, y, rfl, hcy, hyr, _, hyy⟩ := (HY.out.below hS.out.low hh').at_ (show j < n by omega)
            have hyb := HYN.out y (List.mem_of_getElem? hyy.out)
            obtain ⟨q, hq⟩ : ∃ q, q = i + j := ⟨_, rfl⟩
            rw [← hq] at hw0 hlt2 hS
            obtain ⟨v, hcv, hzv, hvr, hfv⟩ := hS.out.cell hlt2
            rw [mixJ_at (by rw [mulP_len, hlx.out]) hlt2, mulP_at _ _ (by rw [hlx.out]; exact hlt2)] at hzv
            injection hzv with hzv
            have hvb : 0 ≤ v ∧ v < 1000000271 := by rw [← hzv]; exact ⟨Int.emod_nonneg _ (by omega), Int.emod_lt_of_pos _ (by omega)⟩
            have hst := psum_step (j := j) hxx.out hyy.out
            rw [← hq, hzv] at hst
            have HT := hide fun W => spec_Times x y W hxr hyr
            have htb := timesF_bd x y
            have HP := hide fun W => spec_Plus v (timesF x y) W hvr (by constructor <;> omega)
            have hpb := plusF_bd v (timesF x y)
            have hat : (jmulP xs ys (i + 1))[q]? = some (plusF v (timesF x y)) := by
              rw [mulP_at _ _ (by rw [hlx.out]; exact hlt2), hst]
              unfold plusF timesF
              rw [Int.add_emod_emod]
            have hN := hS.out.set q (x := plusF v (timesF x y)) (by constructor <;> omega)
            rw [mixJ_set (by rw [mulP_len, hlx.out]) (by rw [mulP_len, hlx.out]) hlt2 hat] at hN
            have HN := hide hN.drew
            have hqs : Hid (q + 1 = i + (j + 1)) := by show _ = _; omega
            have hjn : j < n := by omega
            clear hyy hzv hst hat hN hS hvb hq
            go_wp2_with fail
            refine still_tail 21 (by kernel_rfl) (by kernel_rfl) ?_
            simp only [List.take_succ_cons, List.take_zero, List.drop_succ_cons, List.drop_zero]
            iterate 18 still_step
            still_call (still_same (HT.out _))
            still_call (still_same (HP.out _))
            still_step
            refine wpStill_nil ?_
            go_wp2_with fail
            go_roundw
            case rel => exact ⟨j + 1, by have := hqs.out; omega, by go_num, by rw [← hqs.out]; exact HN.out⟩
            case measure => simp [intOf]; omega
          · have hqn : i + j = n := by omega
            rw [hqn] at hS hw0
            rw [mixJ_all (by rw [mulP_len, hlx.out]) (by rw [mulP_len, hlx.out])] at hS
            have hqn2 := hide hqn
            clear hqn
            go_wp2_with fail
            go_roundw
            case rel => exact ⟨i + 1, by omega, by go_num, hS.out⟩
            case measure => simp [intOf]; omega
    · obtain rfl : n = i := by omega
      have hE : Hid (jmul xs ys = jmulP xs ys n) := by show _ = _; rw [jmul, hlx.out]
      go_wp2_with fail
      go_ret
      exact ⟨_, rfl, by rw [hE.out]; exact hS.out.done⟩
end Go.Proofs.Ytjamdnbabfodkaa
/- Polynomials in h: one power later; the reference's sum. -/
namespace Go.Proofs.Ytjamdnbabfodkaa
open Go.RowKit
set_option linter.unusedSimpArgs false
set_option linter.unusedVariables false
set_option maxRecDepth 20000

theorem mixJ_big {new old : List Int} {k j : Nat} (h1 : new.length = k) (h2 : old.length = k) (hj : k ≤ j) : mixJ new old j = new := by
  simp [mixJ, List.take_of_length_le (show new.length ≤ j by omega), List.drop_eq_nil_of_le (show old.length ≤ j by omega)]
theorem later_at {xs : List Int} {j : Nat} {x : Int} (hx : xs[j]? = some x) (hj : j + 1 < xs.length) : (later1 xs)[j + 1]? = some x := by
  rw [later1, tabJ_at _ hj, if_neg (by omega)]
  simp [List.getD, hx]
theorem later_start {xs : List Int} {n : Nat} (h : xs.length = n) : mixJ (later1 xs) (zeroJ n) 1 = zeroJ n := by
  refine tabJ_eq (n := n) ?_ (zero_len n) fun j hj => ?_
  · simp [mixJ, later_len, h, zero_len]; omega
  · unfold mixJ
    by_cases h0 : j = 0
    · subst h0
      rw [List.getD_eq_getElem?_getD, List.getElem?_append_left (by simp [later_len, h]; omega), List.getElem?_take_of_lt (by omega), later1, tabJ_at _ (by omega)]
      simp [zeroJ, List.getD, hj]
    · rw [List.getD_eq_getElem?_getD, List.getElem?_append_right (by simp [later_len, h]; omega)]
      simp only [List.length_take, later_len, h, List.getElem?_drop]
      rw [show 1 + (j - min 1 n) = j by omega, ← List.getD_eq_getElem?_getD]

theorem take_snocJ {α : Type} {xs : List α} {k : Nat} {x : α} (hx : xs[k]? = some x) : xs.take k ++ [x] = xs.take (k + 1) := by
  rw [List.take_add_one, hx]; rfl
theorem jplus_rng (xs ys : List Int) (k : Int) : ∀ z ∈ jplus xs ys k, 0 ≤ z ∧ z < 1000000271 := tabJ_num fun j => plusF_bd _ _
theorem jmul_rng (xs ys : List Int) : ∀ z ∈ jmul xs ys, 0 ≤ z ∧ z < 1000000271 := tabJ_num fun j => ⟨Int.emod_nonneg _ (by omega), Int.emod_lt_of_pos _ (by omega)⟩

set_option maxRecDepth 100000 in
set_option maxHeartbeats 4000000 in
theorem spec_l8Add (A : Option Addr) (n c : Nat) (xs : List Int) (lo hi : Nat) (B : Option Addr) (d : Nat) (ys : List Int) (lo' hi' : Nat) (k : Int) (w : World) (h : Ints w lo hi A n c xs) (g : Ints w lo' hi' B n d ys) (hh : hi ≤ w.heap.size) (hh' : hi' ≤ w.heap.size) (hn : n ≤ 1000) (hk : R64 k) :
    Calls Try.prog 28 #[.slice A n c, .slice B n d, .int .i64 k] w fun e w' => ∃ R cR, e = .returned (.slice R n cR) ∧ OwnI w' w.heap.size w'.heap.size R n cR (jplus xs ys k) ∧ Below w.heap.size w w' := by
  obtain ⟨i0, hi0, hz0, hz1, hz2⟩ := info_parts info_int
  have hcA := h.cap
  have hmA := h.max
  have hcB := g.cap
  have hmB := g.max
  have HX := hide h
  have HY := hide g
  have HK := hide hk
  have hlx : Hid ((jplus xs ys k).length = n) := by show _ = _; rw [jplus_len, h.len]
  have own0 : Hid ((w.alloc (.cells #[] 3)).ownsRow w.heap.size 3 1 (.slice (some ⟨w.heap.size, 0, none⟩) 0 0) 0 (((jplus xs ys k).take 0).map (Value.int .i64))) := by
    show World.ownsRow _ _ _ _ _ _ _
    simpa using World.ownsRow_lit (size := 1) (e := 3) (base := w.heap.size) w #[] 0 (Nat.le_refl _) (by unfold maxLen; omega) rfl
  have b0 := hide (below_alloc w (.cells #[] 3))
  clear h g hk
  go_enter Try.func28, Try.ntmps28
  go_wp2_with fail
  go_loopw [7, 8] (fun p i wr => ∃ (j : Nat) (R : Option Addr) (dR : Nat), j ≤ n ∧ i = .int .i64 j ∧ p = .slice R j dR ∧ Hid (wr.ownsRow w.heap.size 3 1 (.slice R j dR) j (((jplus xs ys k).take j).map (Value.int .i64))) ∧ Hid (Below w.heap.size w wr)) (fun _ i _ => n - (intOf i).toNat)
  case atStart => exact ⟨0, _, 0, by omega, rfl, rfl, own0.out, b0.out⟩
  case round =>
    clear own0 b0
    obtain ⟨j, R, dR, hj, rfl, rfl, hO, hb⟩ := hrel
    have hsz := hb.out.size
    by_cases hlt : j < n
    · obtain ⟨ad, x, rfl, hcx, hxr, _, hxx⟩ := (HX.out.below hb.out hh).at_ hlt
      obtain ⟨ae, y, rfl, hcy, hyr, _, hyy⟩ := (HY.out.below hb.out hh').at_ hlt
      have hat := jplus_at (k := k) hxx.out hyy.out
      have HT := hide fun W => spec_Times y k W hyr HK.out
      have htb := timesF_bd y k
      have HP := hide fun W => spec_Plus x (timesF y k) W hxr (by constructor <;> omega)
      have hpb := plusF_bd x (timesF y k)
      have hT2 : Hid ((jplus xs ys k).take j ++ [plusF x (timesF y k)] = (jplus xs ys k).take (j + 1)) := take_snocJ hat
      have hOd : Hid (wr.drew.ownsRow w.heap.size 3 1 (.slice R j dR) j (((jplus xs ys k).take j).map (Value.int .i64))) := hO.out
      have hbd := hide hb.out.drew
      have hszd : w.heap.size ≤ wr.drew.heap.size := hsz
      have HC : Hid (∀ v1 : World, Below w.heap.size w v1 → v1.cell? (ad.add j) = some (.int .i64 x) ∧ v1.cell? (ae.add j) = some (.int .i64 y)) := fun v1 hB => by
        obtain ⟨a1, x1, e1, c1, _, _, q1⟩ := (HX.out.below hB hh).at_ hlt
        obtain ⟨a2, y1, e2, c2, _, _, q2⟩ := (HY.out.below hB hh').at_ hlt
        injection e1 with e1
        injection e2 with e2
        subst e1 e2
        have f1 := hxx.out.symm.trans q1.out
        have f2 := hyy.out.symm.trans q2.out
        injection f1 with f1
        injection f2 with f2
        subst f1 f2
        exact ⟨c1, c2⟩
      have S1 := hide (HC.out _ hbd.out)
      have S2 := hide (HC.out _ (hbd.out.alloc hszd (.cells #[.int .i64 (plusF x (timesF y k))] 3)))
      clear hxx hyy hat
      go_wp2_with fail
      go_region_held3 (fun w' => w'.cell? (ad.add j) = some (.int .i64 x) ∧ w'.cell? (ae.add j) = some (.int .i64 y)) (first | exact ⟨hcx, hcy⟩ | exact S1.out | exact S2.out | exact T5 | go_keep)
        (first
          | (go_at_call 32; refine (HT.out _).mono ?_; rintro e w' ⟨rfl, rfl⟩)
          | (go_at_call 31; refine (HP.out _).mono ?_; rintro e w' ⟨rfl, rfl⟩)
          | (refine step_app1 (by rfl) _ _ 22 (by rfl) w.heap.size 3 i0 (.int .i64 0) 1 8 Try.underlying22 hi0 hz0 hz1 hz2 rfl (by omega) wr.drew #[.int .i64 (plusF x (timesF y k))] _ rfl R j dR 1 _ (by rfl) (by rfl) hOd.out rfl (by simp [Value.oneCell']) (by omega) (by omega) hszd ?_; intro R2 d3 w5 happ hlt3; have hb5 := hide (happ.low hbd.out hszd (Nat.le_refl _) hOd.out); have T5 := HC.out _ hb5.out))
      all_goals
        have hO5 : Hid (w5.ownsRow w.heap.size 3 1 (.slice R2 (j + 1) d3) (j + 1) (((jplus xs ys k).take (j + 1)).map (Value.int .i64))) := by
          show World.ownsRow _ _ _ _ _ _ _
          rw [← hT2.out, List.map_append]
          exact happ.1
        clear happ hOd hbd S1 S2 T5 hcx hcy HC hO hb
        go_wp2_with fail
        go_roundw
        case rel => exact ⟨j + 1, R2, d3, by omega, by go_num, rfl, hO5.out, hb5.out⟩
        case measure => simp [intOf]; omega
    · obtain rfl : n = j := by omega
      have hO2 := hO.out
      rw [List.take_of_length_le (Nat.le_of_eq hlx.out)] at hO2
      have HO := hide hO2
      clear hO hO2
      go_wp2_with fail
      go_ret
      exact ⟨R, dR, rfl, ⟨HO.out, fun ad e => (owns_lt HO.out ad e).2, fun z hz => by have := jplus_rng xs ys k z hz; constructor <;> omega⟩, hb.out⟩
end Go.Proofs.Ytjamdnbabfodkaa
/- The value of a polynomial at polynomials in h: the program's walk. -/
namespace Go.Proofs.Ytjamdnbabfodkaa
open Go.RowKit
set_option linter.unusedSimpArgs false
set_option linter.unusedVariables false
set_option maxRecDepth 20000

theorem made_one : madeCells #[Value.slice none 0 0] 1 = #[Value.slice none 0 0] := by
  apply Array.ext'
  simp [madeCells, List.range_succ]
def JNum (n : Nat) (yss : List (List Int)) : Prop := ∀ r ∈ yss, r.length = n ∧ ∀ x ∈ r, 0 ≤ x ∧ x < 1000000271
def GoodM (dim : Nat) (ms : List Mono) : Prop := ∀ m ∈ ms, (0 ≤ m.1 ∧ m.1 < 1000000271) ∧ m.2.length = dim ∧ 0 ≤ degGo 0 m.2

/-- One monomial on its way: its copy, the product so far, the sum so far. -/
structure NowS (w wr : World) (g11 gN go gj n : Nat) (co : Int) (Pw : Value) (o cur : List Int) : Prop where
  mono : BlkN wr g11 #[.int .i64 co, Pw]
  now : BlkN wr gN #[.slice (some ⟨gj, 0, none⟩) n n]
  out : Ints wr w.heap.size g11 (some ⟨go, 0, none⟩) n n o
  cur : Ints wr (gN + 1) wr.heap.size (some ⟨gj, 0, none⟩) n n cur
  low : Below w.heap.size w wr
  ord : g11 < gN ∧ w.heap.size ≤ g11
section
variable {w wr w' : World} {g11 gN go gj n : Nat} {co : Int} {Pw : Value} {o cur : List Int}
theorem NowS.below (h : NowS w wr g11 gN go gj n co Pw o cur) (hb : Below wr.heap.size wr w') : NowS w w' g11 gN go gj n co Pw o cur := by
  have hz := h.low.size
  have hm := h.mono.lt
  exact ⟨h.mono.below hb, h.now.below hb, h.out.below hb (by omega), (h.cur.below hb (Nat.le_refl _)).wide (Nat.le_refl _) hb.size, h.low.trans (hb.mono hz), h.ord⟩
theorem NowS.next (h : NowS w wr g11 gN go gj n co Pw o cur) (hb : Below wr.heap.size wr w') {gj2 : Nat} {cur2 : List Int} (hj : Ints w' wr.heap.size w'.heap.size (some ⟨gj2, 0, none⟩) n n cur2) :
    NowS w (w'.setCell ⟨gN, 0, none⟩ (.slice (some ⟨gj2, 0, none⟩) n n)) g11 gN go gj2 n co Pw o cur2 := by
  have hz := h.low.size
  have hm := h.mono.lt
  have hn := h.now.lt
  have ho := h.ord
  have hs : (w'.setCell ⟨gN, 0, none⟩ (.slice (some ⟨gj2, 0, none⟩) n n)).heap.size = w'.heap.size := by simp [World.setCell]
  have kV := (h.now.below hb).set 0 (.slice (some ⟨gj2, 0, none⟩) n n)
  simp only [List.setIfInBounds_toArray, List.set_cons_zero] at kV
  refine ⟨(h.mono.below hb).far (by omega) _, kV, (h.out.below hb (by omega)).same (Same.setCell (p := ⟨gN, 0, none⟩) (Same.refl _ _ _) (.inr (by show g11 ≤ gN; omega)) _), ?_, (h.low.trans (hb.mono hz)).setCell (p := ⟨gN, 0, none⟩) (by show w.heap.size ≤ gN; omega) _, ho⟩
  rw [hs]
  exact (hj.same (Same.setCell (p := ⟨gN, 0, none⟩) (Same.refl _ _ _) (.inl (by show gN < wr.heap.size; omega)) _)).wide (by omega) (Nat.le_refl _)
end

theorem unit_set {n : Nat} (hn : 0 < n) (c : Int) : (zeroJ n).set 0 c = unitJ n c := by
  refine tabJ_eq (n := n) (by simp [zeroJ]) (unit_len n c) fun j hj => ?_
  rw [unitJ, tabJ_get _ hj]
  by_cases h : j = 0
  · subst h
    rw [if_pos rfl, List.getD_eq_getElem?_getD, List.getElem?_set_self (by simp [zeroJ]; omega)]
    rfl
  · rw [if_neg h, List.getD_eq_getElem?_getD, List.getElem?_set_ne (by omega)]
    simp [zeroJ, hj]
end Go.Proofs.Ytjamdnbabfodkaa
/- The value of a field at polynomials in h: the program's walk. -/
namespace Go.Proofs.Ytjamdnbabfodkaa
open Go.RowKit
set_option linter.unusedSimpArgs false
set_option linter.unusedVariables false
set_option maxRecDepth 20000

def valL (n : Nat) (ps : List (List Mono)) (yss : List (List Int)) : List (List Int) := ps.map fun ms => polyJ n ms fun v => yss.getD v []
theorem val_at {n : Nat} {ps : List (List Mono)} {yss : List (List Int)} {q : Nat} {ms : List Mono} (h : ps[q]? = some ms) : (valL n ps yss)[q]? = some (polyJ n ms fun v => yss.getD v []) := by simp [valL, h]
theorem der_num (n : Nat) (ys : Nat → List Int) : ∀ (ms : List Mono) (o : List Int), (∀ x ∈ o, 0 ≤ x ∧ x < 1000000271) → ∀ x ∈ derJ n ys ms o, 0 ≤ x ∧ x < 1000000271
  | [], _, h => h
  | m :: r, o, _ => der_num n ys r _ (jplus_rng _ _ _)
theorem poly_num (n : Nat) (ms : List Mono) (ys : Nat → List Int) : ∀ x ∈ polyJ n ms ys, 0 ≤ x ∧ x < 1000000271 :=
  der_num n ys ms _ fun x hx => by have := (List.mem_replicate.1 hx).2; omega
theorem val_num (n : Nat) (ps : List (List Mono)) (yss : List (List Int)) : JNum n (valL n ps yss) := by
  intro r hr
  simp only [valL, List.mem_map] at hr
  obtain ⟨ms, _, rfl⟩ := hr
  exact ⟨poly_len _ _ _, poly_num _ _ _⟩
/-- what is asked of a field -/
def GoodF (dim : Nat) (ps : List (List Mono)) : Prop := ps.length = dim ∧ ∀ ms ∈ ps, GoodM dim ms

theorem unit_own (w : World) {n : Nat} (hn0 : 0 < n) (hn : n ≤ 1000) : Ints (w.alloc (.cells ((zeros n).setIfInBounds 0 (.int .i64 1)) 3)) w.heap.size (w.alloc (.cells ((zeros n).setIfInBounds 0 (.int .i64 1)) 3)).heap.size (some ⟨w.heap.size, 0, none⟩) n n (unitJ n 1) ∧ Below w.heap.size w (w.alloc (.cells ((zeros n).setIfInBounds 0 (.int .i64 1)) 3)) := by
  have hl : ((zeros n).setIfInBounds 0 (Value.int .i64 1)).toList = (unitJ n 1).map (Value.int .i64) := by
    rw [Array.toList_setIfInBounds, zeros_list, ← unit_set hn0, List.map_set]
    rfl
  have ho := World.ownsRow_lit (size := 1) (e := 3) (base := w.heap.size) w ((zeros n).setIfInBounds 0 (.int .i64 1)) n (Nat.le_refl _) (by unfold maxLen; omega) (by simp [zeros_size])
  rw [hl] at ho
  exact ⟨(⟨ho, fun ad e => (owns_lt ho ad e).2, fun x hx => by
    have := tabJ_num (n := n) (f := fun j => if j = 0 then 1 else 0) (fun j => by split <;> omega) x hx
    constructor <;> omega⟩ : OwnI _ w.heap.size _ _ n n (unitJ n 1)).ints, below_alloc _ _⟩

set_option maxRecDepth 100000 in
set_option maxHeartbeats 8000000 in
theorem spec_l8One (P : Option Addr) (dim cp : Nat) (pw : List Int) (lo hi : Nat) (gy cy : Nat) (yss : List (List Int)) (lo2 hi2 n : Nat) (w : World) (hp : Ints w lo hi P dim cp pw) (hy : Ints2 w lo2 hi2 (some ⟨gy, 0, none⟩) dim cy yss) (hh : hi ≤ w.heap.size) (hh2 : hi2 ≤ w.heap.size)
    (hN : JNum n yss) (hd0 : 0 < dim) (hd6 : dim ≤ 6) (hn0 : 0 < n) (hn : n ≤ 1000) :
    Calls Try.prog 29 #[.slice P dim cp, .slice (some ⟨gy, 0, none⟩) dim cy, .slice none 0 0] w fun e w' => ∃ gR, e = .returned (.slice (some ⟨gR, 0, none⟩) n n) ∧ Ints w' w.heap.size w'.heap.size (some ⟨gR, 0, none⟩) n n (prodJ (fun v => yss.getD v []) pw 0 (unitJ n 1)) ∧ Below w.heap.size w w' := by
  have hcp := hp.cap
  have hmp := hp.max
  have hcy := hy.cap
  have hmy := hy.max
  have HI := hide hp
  have HY := hide hy
  have HN := hide hN
  obtain ⟨ad, B0, m0, d0, y0, e, hc0, hI0, _, hx0⟩ := hy.at_ (k := 0) hd0
  injection e with e
  subst e
  obtain rfl : n = m0 := by rw [← hI0.len]; exact ((hN y0 (List.mem_of_getElem? hx0.out)).1).symm
  have hcy0 : w.cell? ⟨gy, 0, none⟩ = some (.slice B0 n d0) := by simpa [Addr.add_lit] using hc0
  have hcd0 := hI0.cap
  have hmd0 := hI0.max
  have hmk := make_ints n (by omega) w
  have hs0 := hide (unit_own w hn0 hn)
  have hzv : (zeros n)[0]? = some (.int .i64 0) := by
    rw [← Array.getElem?_toList, zeros_list]
    simp [hn0]
  clear hp hy hN hI0 hx0 hc0
  go_enter Try.func29, Try.ntmps29
  go_wp2_with fail
  clear hmk hcy0 hzv
  generalize w.alloc (.cells ((zeros n).setIfInBounds 0 (.int .i64 1)) 3) = W at hs0 ⊢
  have hun : Hid (∀ x ∈ unitJ n 1, 0 ≤ x ∧ x < 1000000271) := tabJ_num fun j => by split <;> omega
  go_loopw [12, 13] (fun p i wr => ∃ (v gj : Nat) (cur : List Int), v ≤ dim ∧ i = .int .i64 v ∧ p = .slice (some ⟨gj, 0, none⟩) n n ∧ Hid (Ints wr w.heap.size wr.heap.size (some ⟨gj, 0, none⟩) n n cur) ∧ Hid (Below w.heap.size w wr) ∧ Hid (∀ x ∈ cur, 0 ≤ x ∧ x < 1000000271) ∧ Hid (prodJ (fun v => yss.getD v []) pw 0 (unitJ n 1) = prodJ (fun v => yss.getD v []) (pw.drop v) v cur)) (fun _ i _ => dim - (intOf i).toNat)
  case atStart => exact ⟨0, _, _, by omega, rfl, rfl, hs0.out.1, hs0.out.2, hun.out, rfl⟩
  case round =>
    clear hs0 hun
    obtain ⟨v, gj, cur, hv, rfl, rfl, hC, hb, hcN, hT⟩ := hrel
    by_cases hlt : v < dim
    · obtain ⟨bd, p, rfl, hcp1, hpr, hdp, hxp⟩ := HI.out.at_ hlt
      obtain ⟨ae, Bv, mv, dv, yv, e, hcy, hIv, _, hxv⟩ := HY.out.at_ hlt
      injection e with e
      subst e
      have hyv := HN.out yv (List.mem_of_getElem? hxv.out)
      obtain rfl : n = mv := by rw [← hIv.len]; exact hyv.1.symm
      have hcy1 : w.cell? ⟨gy, v, none⟩ = some (.slice Bv n dv) := by simpa [Addr.add_lit] using hcy
      have hgy := World.block_lt_of_cell? w _ hcy1
      have hgp := World.block_lt_of_cell? w _ hcp1
      have HCY := hide fun (w' : World) (hB : Below w.heap.size w w') => (hB.cell (p := ⟨gy, v, none⟩) hgy).trans hcy1
      have HCP := hide fun (w' : World) (hB : Below w.heap.size w w') => (hB.cell (p := bd.add v) hgp).trans hcp1
      have hyd : Hid (yss.getD v [] = yv) := by show yss.getD v [] = yv; rw [List.getD, hxv.out]; rfl
      have hT2 : Hid (prodJ (fun v => yss.getD v []) pw 0 (unitJ n 1) = prodJ (fun v => yss.getD v []) (pw.drop (v + 1)) (v + 1) (powJ p.toNat cur yv)) := by
        show _ = _
        rw [hT.out, hdp.out, prodJ, hyd.out]
      have HIV := hide hIv
      have HYV := hide hyv.2
      have hmv := hIv.cap
      have hmv2 := hIv.max
      unfold R64 at hpr
      clear hT hdp hxp hcy hIv hxv hyv hcy1 hyd hcp1
      go_wp2_with fail
      go_loopw [12, 14] (fun q z wr4 => ∃ (zi gj : Nat) (cur : List Int), (zi : Int) ≤ 9223372036854775807 ∧ (0 < zi → (zi : Int) ≤ p) ∧ z = .int .i64 zi ∧ q = .slice (some ⟨gj, 0, none⟩) n n ∧ Hid (Ints wr4 w.heap.size wr4.heap.size (some ⟨gj, 0, none⟩) n n cur) ∧ Hid (Below w.heap.size w wr4) ∧ Hid (∀ x ∈ cur, 0 ≤ x ∧ x < 1000000271) ∧ Hid (prodJ (fun v => yss.getD v []) pw 0 (unitJ n 1) = prodJ (fun v => yss.getD v []) (pw.drop (v + 1)) (v + 1) (powJ (p - zi).toNat cur yv))) (fun _ z _ => p.toNat - (intOf z).toNat)
      case atStart => exact ⟨0, gj, cur, by omega, by omega, rfl, rfl, hC.out, hb.out, hcN.out, by rw [show (p - ((0 : Nat) : Int)).toNat = p.toNat by omega]; exact hT2.out⟩
      case round =>
        clear hC hb hcN hT2
        obtain ⟨zi, gj, cur, hz, hz2, rfl, rfl, hC, hb, hcN, hT⟩ := hrel
        have hcp4 := HCP.out _ hb.out
        by_cases hz0 : (zi : Int) < p
        · obtain ⟨q, hq⟩ : ∃ q : Nat, (p - zi).toNat = q + 1 := ⟨(p - zi).toNat - 1, by omega⟩
          have hT2 : Hid (prodJ (fun v => yss.getD v []) pw 0 (unitJ n 1) = prodJ (fun v => yss.getD v []) (pw.drop (v + 1)) (v + 1) (powJ (p - ((zi + 1 : Nat) : Int)).toNat (jmul cur yv) yv)) := by
            show _ = _
            rw [hT.out, hq, powJ, show (p - ((zi + 1 : Nat) : Int)).toNat = q by omega]
          have hcy4 := HCY.out _ hb.out
          have hsz := hb.out.size
          have HTM := hide (spec_l8Mul (some ⟨gj, 0, none⟩) n n cur w.heap.size wr.heap.size Bv dv yv lo2 hi2 wr hC.out (HIV.out.below hb.out hh2) (Nat.le_refl _) (by omega) hn hcN.out HYV.out)
          clear hq hT
          go_wp2_with (go_at_call 56; refine HTM.out.mono ?_; rintro e w5 ⟨gj2, rfl, hO5, hb5⟩; have hI5 := hide (hO5.ints.wide (lo' := w.heap.size) hsz (Nat.le_refl _)); have hb6 := hide (hb.out.trans (hb5.mono hsz)); clear hO5 hb5)
          refine ⟨⟨zi + 1, gj2, _, by omega, by omega, by go_num, rfl, hI5.out, hb6.out, jmul_rng _ _, hT2.out⟩, ?_⟩
          simp [intOf]; omega
        · have hT2 : Hid (prodJ (fun v => yss.getD v []) pw 0 (unitJ n 1) = prodJ (fun v => yss.getD v []) (pw.drop (v + 1)) (v + 1) cur) := by
            show _ = _
            rw [hT.out, show (p - zi).toNat = 0 by omega, powJ]
          clear hT
          go_wp2_with fail
          go_roundw
          case rel => exact ⟨v + 1, gj, cur, by omega, by go_num, rfl, hC.out, hb.out, hcN.out, hT2.out⟩
          case measure => simp [intOf]; omega
    · obtain rfl : dim = v := by omega
      rw [List.drop_eq_nil_of_le (Nat.le_of_eq HI.out.len), prodJ] at hT
      go_wp2_with fail
      go_ret
      exact ⟨_, rfl, by rw [hT.out]; exact hC.out, hb.out⟩
end Go.Proofs.Ytjamdnbabfodkaa
/- Paths turned into jets and back: the program's walks. -/
namespace Go.Proofs.Ytjamdnbabfodkaa
open Go.RowKit
set_option linter.unusedSimpArgs false
set_option linter.unusedVariables false
set_option maxRecDepth 20000

/-- columns -/
def turnL (xss : List (List Int)) (k : Nat) : List (List Int) := (List.range k).map fun i => xss.map fun r => r.getD i 0
theorem turn_len (xss : List (List Int)) (k : Nat) : (turnL xss k).length = k := by simp [turnL]
theorem turn_at (xss : List (List Int)) {k i : Nat} (h : i < k) : (turnL xss k)[i]? = some (xss.map fun r => r.getD i 0) := by simp [turnL, h]
def mixQ {α : Type} (new old : List α) (j : Nat) : List α := new.take j ++ old.drop j
theorem mixQ_zero {α : Type} (new old : List α) : mixQ new old 0 = old := by simp [mixQ]
theorem mixQ_all {α : Type} {new old : List α} {k : Nat} (h1 : new.length = k) (h2 : old.length = k) : mixQ new old k = new := by simp [mixQ, List.take_of_length_le (Nat.le_of_eq h1), List.drop_eq_nil_of_le (Nat.le_of_eq h2)]
theorem mixQ_set {α : Type} {new old : List α} {k j : Nat} {x : α} (h1 : new.length = k) (h2 : old.length = k) (hj : j < k) (hx : new[j]? = some x) : (mixQ new old j).set j x = mixQ new old (j + 1) := by
  unfold mixQ
  apply List.ext_getElem?
  intro i
  by_cases e : i = j
  · subst e
    rw [List.getElem?_set_self (by simp [h1, h2]; omega), List.getElem?_append_left (by simp; omega), List.getElem?_take_of_lt (by omega), hx]
  · rw [List.getElem?_set_ne (by omega)]
    by_cases e2 : i < j
    · rw [List.getElem?_append_left (by simp; omega), List.getElem?_append_left (by simp; omega), List.getElem?_take_of_lt e2, List.getElem?_take_of_lt (by omega)]
    · rw [List.getElem?_append_right (by simp; omega), List.getElem?_append_right (by simp; omega)]
      simp [h1]
      congr 1
      omega
theorem r64_getDJ {xs : List Int} (h : ∀ x ∈ xs, R64 x) (p : Nat) : R64 (xs.getD p 0) := by
  rw [List.getD]
  cases e : xs[p]? with
  | none => constructor <;> simp
  | some x => exact h x (List.mem_of_getElem? e)
theorem made_nil (n : Nat) : (madeCells #[Value.slice none 0 0] n).toList = List.replicate n (.slice none 0 0) := by
  apply List.ext_getElem?
  intro j
  simp only [madeCells]
  by_cases hj : j < n
  · simp [hj, Nat.mod_one]
  · simp [hj]
theorem Lst.nils (T : TypeId) (w : World) (n : Nat) (hn : n ≤ 1000) : Lst kI T (fun _ => True) (w.alloc (.cells (madeCells #[.slice none 0 0] n) T)) w.heap.size (w.heap.size + 1) (some ⟨w.heap.size, 0, none⟩) n n (List.replicate n (.slice none 0 0)) (List.replicate n []) := by
  have ho := World.ownsRow_lit (size := 1) (e := T) (base := w.heap.size) w (madeCells #[.slice none 0 0] n) n (Nat.le_refl _) (by unfold maxLen; omega) (by rw [← Array.length_toList, made_nil]; simp)
  rw [made_nil] at ho
  refine ⟨ho, fun ad e => by injection e with e; subst e; exact Nat.lt_succ_self _, by simp, fun j x hx _ => ?_⟩
  have hj : j < n := by have := (List.getElem?_eq_some_iff.1 hx).1; simpa using this
  obtain rfl : x = [] := by simpa [hj] using hx.symm
  exact ⟨.slice none 0 0, w.heap.size + 1, w.heap.size + 1, by simp [hj], ⟨none, 0, 0, rfl, Ints.nil_ _ _ _⟩, by omega, Nat.le_refl _, fun ad e => .inr (by injection e with e; subst e; exact Nat.lt_succ_self _)⟩
theorem make_rows (n : Nat) (hn : n ≤ 1000) (W : World) :
    (Instr.makeSlice 30 (.int .i64 (n : Int)) (.int .i64 (n : Int))).run Try.prog W = .ok (.slice (some ⟨W.heap.size, 0, none⟩) n n) (W.alloc (.cells (madeCells #[.slice none 0 0] n) 22)) := by
  obtain ⟨i0, hi0, hz0, hz1, hz2⟩ := info_parts info_ints
  have h := run_make (P := Try.prog) W 30 22 i0 (.slice none 0 0) Try.underlying30 hi0 hz0 .i64 .i64 n n (by omega) (by omega) (by rw [hz2]; omega) (by omega)
  simp only [Int.toNat_natCast, hz1, Nat.mul_one] at h
  exact h

end Go.Proofs.Ytjamdnbabfodkaa
/- Paths turned into polynomials and back: the reference's walk. -/
namespace Go.Proofs.Ytjamdnbabfodkaa
open Go.RowKit
set_option linter.unusedSimpArgs false
set_option linter.unusedVariables false
set_option maxRecDepth 20000

theorem addr_add0 (a : Addr) : a.add 0 = a := by
  obtain ⟨b, o, l⟩ := a
  cases l <;> simp [Addr.add]

set_option maxRecDepth 100000 in
set_option maxHeartbeats 8000000 in
theorem spec_l8Turn (P : Option Addr) (np cp : Nat) (xss : List (List Int)) (lo hi dim : Nat) (w : World) (hp : Ints2 w lo hi P np cp xss) (hh : hi ≤ w.heap.size) (hL : ∀ r ∈ xss, r.length = dim) (hd0 : 0 < dim) (hd6 : dim ≤ 1000) (hn0 : 0 < np) (hn : np ≤ 1000) :
    Calls Try.prog 30 #[.slice P np cp] w fun e w' => ∃ gR cR, e = .returned (.slice (some ⟨gR, 0, none⟩) dim cR) ∧ Ints2 w' w.heap.size w'.heap.size (some ⟨gR, 0, none⟩) dim cR (turnL xss dim) ∧ Below w.heap.size w w' := by
  obtain ⟨i0, hi0, hz0, hz1, hz2⟩ := info_parts info_int
  obtain ⟨i1, hi1, hy0, hy1, hy2⟩ := info_parts info_ints
  have hcp := hp.cap
  have hmp := hp.max
  have HP := hide hp
  have HLn := hide hL
  obtain ⟨ap, B0, m0, d0, r0, rfl, hc0, hI0, _, hx0⟩ := hp.at_ (k := 0) hn0
  obtain rfl : dim = m0 := by rw [← hI0.len]; exact (hL r0 (List.mem_of_getElem? hx0.out)).symm
  have hg0 := World.block_lt_of_cell? w _ hc0
  have HC0 := hide fun (w' : World) (hB : Below w.heap.size w w') => show w'.cell? ap = some (.slice B0 dim d0) by rw [← addr_add0 ap]; exact (hB.cell (p := ap.add 0) hg0).trans hc0
  have hcd0 := hI0.cap
  have hmd0 := hI0.max
  have htl := hide (turn_len xss dim)
  have hL0 := hide (Lst.empty kI 22 (fun _ => True) w w.heap.size (Nat.le_refl _))
  have hbL := hide (below_alloc w (.cells #[] 22))
  have zL : (w.alloc (.cells #[] 22)).heap.size = w.heap.size + 1 := by simp
  have hL1 := hide (hL0.out.wide (hi2 := (w.alloc (.cells #[] 22)).heap.size) (by omega))
  clear hp hL hI0 hx0 hc0 hL0 zL
  go_enter Try.func30, Try.ntmps30
  go_wp2_with fail
  generalize w.alloc (.cells #[] 22) = W1 at hL1 hbL ⊢
  go_loopw [3, 4] (fun p i wr => ∃ (q : Nat) (R : Option Addr) (cR : Nat) (vs : List Value), q ≤ dim ∧ i = .int .i64 q ∧ p = .slice R q cR ∧ Hid (Lst kI 22 (fun _ => True) wr w.heap.size wr.heap.size R q cR vs ((turnL xss dim).take q)) ∧ Hid (Below w.heap.size w wr)) (fun _ i _ => dim - (intOf i).toNat)
  case atStart => exact ⟨0, _, 0, [], by omega, rfl, rfl, hL1.out, hbL.out⟩
  case round =>
    clear hL1 hbL
    obtain ⟨q, R, cR, vs, hq, rfl, rfl, hL, hb⟩ := hrel
    have hsz := hb.out.size
    have hcR := hL.out.capb
    have u0 := HC0.out _ hb.out
    by_cases hlt : q < dim
    · obtain ⟨row, hrow⟩ : ∃ row, row = xss.map fun r => r.getD q 0 := ⟨_, rfl⟩
      have hrl : Hid (row.length = np) := by show _ = _; rw [hrow, List.length_map, HP.out.len]
      have hT : Hid ((turnL xss dim).take q ++ [row] = (turnL xss dim).take (q + 1)) := take_snocJ (by rw [hrow]; exact turn_at xss hlt)
      have hO0 : Hid ((wr.alloc (.cells #[] 3)).ownsRow wr.heap.size 3 1 (.slice (some ⟨wr.heap.size, 0, none⟩) 0 0) 0 ((row.take 0).map (Value.int .i64))) := by
        show World.ownsRow _ _ _ _ _ _ _
        simpa using World.ownsRow_lit (size := 1) (e := 3) (base := wr.heap.size) wr #[] 0 (Nat.le_refl _) (by unfold maxLen; omega) rfl
      have hB0 := hide (below_alloc wr (.cells #[] 3))
      go_wp2_with fail
      obtain ⟨wo, hwo⟩ : ∃ wo, wo = wr := ⟨_, rfl⟩
      rw [← hwo] at hO0 hB0 ⊢
      have hszo : w.heap.size ≤ wo.heap.size := by rw [hwo]; exact hsz
      have hLo : Hid (Lst kI 22 (fun _ => True) wo w.heap.size wo.heap.size R q cR vs ((turnL xss dim).take q)) := by rw [hwo]; exact hL.out
      have hbo : Hid (Below w.heap.size w wo) := by rw [hwo]; exact hb.out
      clear hwo hL hb u0 hsz
      generalize wo.alloc (.cells #[] 3) = W2 at hO0 hB0 ⊢
      go_loopw [5, 6] (fun p i wr => ∃ (j : Nat) (S : Option Addr) (cS : Nat), j ≤ np ∧ i = .int .i64 j ∧ p = .slice S j cS ∧ Hid (wr.ownsRow wo.heap.size 3 1 (.slice S j cS) j ((row.take j).map (Value.int .i64))) ∧ Hid (Below wo.heap.size wo wr)) (fun _ i _ => np - (intOf i).toNat)
      case atStart => exact ⟨0, _, _, by omega, rfl, rfl, hO0.out, hB0.out⟩
      case round =>
        clear hO0 hB0
        obtain ⟨j, S, cS, hj, rfl, rfl, hO, hbr⟩ := hrel
        have hszr := hbr.out.size
        have hbw := hide (hbo.out.trans (hbr.out.mono hszo))
        by_cases hlt2 : j < np
        · obtain ⟨ap2, Br, m2, d2, r, e, hcr, hIr, _, hxr⟩ := HP.out.at_ hlt2
          injection e with e
          subst e
          have hrd := HLn.out r (List.mem_of_getElem? hxr.out)
          obtain rfl : dim = m2 := by rw [← hIr.len]; exact hrd.symm
          have hcr2 := hIr.cap
          have hmr2 := hIr.max
          obtain ⟨bd, x, rfl, hcx, hx64, _, hxx⟩ := hIr.at_ hlt
          have hc4 := (hbw.out.cell (p := ap.add j) (World.block_lt_of_cell? w _ hcr)).trans hcr
          have hc5 := (hbw.out.cell (p := bd.add q) (World.block_lt_of_cell? w _ hcx)).trans hcx
          have hT2 : Hid ((row.take j).map (Value.int .i64) ++ [Value.int .i64 x] = (row.take (j + 1)).map (Value.int .i64)) := by
            show _ = _
            rw [← take_snocJ (xs := row) (k := j) (x := x) (by rw [hrow, List.getElem?_map, hxr.out]; simp [List.getD, hxx.out]), List.map_append]
            rfl
          clear hcr hIr hxr hcx hxx hrd
          go_wp2_with (at_builtin; refine wpl_app1 rfl (.tmp 23) (.tmp 31) 22 rfl wo.heap.size 3 i0 (.int .i64 0) 1 8 Try.underlying22 hi0 hz0 hz1 hz2 rfl (by omega) wr #[.int .i64 x] S j cS 1 _ rfl rfl hO.out rfl (by simp [Value.oneCell']) (by omega) (by omega) (by omega) ?_; intro A5 c5 w5 happ5 hlt5; have hb5 := hide (happ5.low hbr.out hszr (Nat.le_refl _) hO.out); have hO5 := hide happ5.1; clear happ5)
          rw [hT2.out] at hO5
          refine ⟨⟨j + 1, A5, c5, by omega, by go_num, rfl, hO5.out, hb5.out⟩, ?_⟩
          simp [intOf]; omega
        · obtain rfl : np = j := by omega
          have hOw := hO.out
          rw [List.take_of_length_le (Nat.le_of_eq hrl.out)] at hOw
          have hrng : ∀ y ∈ row, R64 y := fun y hy => by
            rw [hrow] at hy
            obtain ⟨r, hr, rfl⟩ := List.mem_map.1 hy
            obtain ⟨q2, hq2⟩ := List.mem_iff_getElem?.1 hr
            have hq3 := (List.getElem?_eq_some_iff.1 hq2).1
            obtain ⟨_, _, _, _, r2, _, _, hIr, _, hx2⟩ := HP.out.at_ (k := q2) (by have := HP.out.len; omega)
            have h3 := hx2.out
            rw [hq2] at h3
            injection h3 with h3
            subst h3
            exact r64_getDJ hIr.rng q
          have hI := hide (⟨hOw, fun ad e => (owns_lt hOw ad e).2, hrng⟩ : OwnI wr wo.heap.size wr.heap.size S np cS row).ints
          have hLr := hide (hLo.out.below hbr.out (Nat.le_refl _))
          clear hLo hO hOw hrng
          go_wp2_with (at_builtin; refine wpl_app1 rfl (.tmp 33) (.tmp 35) 30 rfl w.heap.size 22 i1 (.slice none 0 0) 1 24 Try.underlying30 hi1 hy0 hy1 hy2 rfl (by omega) wr #[.slice S np cS] R q cR 1 _ rfl rfl hLr.out.own rfl (by simp [Value.oneCell']) (by omega) (by omega) (by omega) ?_; intro A5 c5 w5 happ5 hlt5; have hL5 := hide (hLr.out.push (l := wo.heap.size) (h' := wr.heap.size) (x := row) ⟨S, np, cS, rfl, hI.out⟩ (Nat.le_refl _) (Nat.le_refl _) hszo hszr happ5); have hb5 := hide (happ5.low hbw.out (by omega) (by omega) hLr.out.own); clear happ5)
          rw [hT.out] at hL5
          refine ⟨⟨q + 1, A5, c5, _, by omega, by go_num, rfl, hL5.out, hb5.out⟩, ?_⟩
          simp [intOf]; omega
    · obtain rfl : dim = q := by omega
      have hL2 := hL.out
      rw [List.take_of_length_le (Nat.le_of_eq htl.out)] at hL2
      obtain ⟨gR, rfl, _, _, _⟩ := hL2.form hd0
      have HL := hide hL2.ints2
      clear hL hL2
      go_wp2_with fail
      go_ret
      exact ⟨_, _, rfl, HL.out, hb.out⟩
end Go.Proofs.Ytjamdnbabfodkaa
