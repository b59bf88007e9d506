/- Polynomials in h: the program's plus, times, later. -/
import Derived.Test.YtkaepjigmcielaaGreatDoorMzD
import Derived.Test.YtkaepjigmcielaaGreatDoorMzI
import Derived.Test.YtkaepjigmcielaaGreatDoorMzB
namespace Go.Proofs.YtkaepjigmcielaaGreatDoor
open Go.RowKit
set_option linter.unusedSimpArgs false
set_option linter.unusedVariables false
set_option maxRecDepth 20000

/-- A row of the call's own that is being filled; nothing else has changed. -/
structure FillS (w wr : World) (g n : Nat) (zs : List Int) : Prop where
  own : OwnI wr g (g + 1) (some ⟨g, 0, none⟩) n n zs
  low : Below w.heap.size w wr
  glo : w.heap.size ≤ g
section
variable {w wr : World} {g n : Nat} {zs : List Int}
theorem FillS.drew (h : FillS w wr g n zs) : FillS w wr.drew g n zs := ⟨h.own.same (fun _ _ _ => rfl), h.low.drew, h.glo⟩
theorem FillS.set (h : FillS w wr g n zs) (i : Nat) {x : Int} (hx : R64 x) : FillS w (wr.setCell ⟨g, i, none⟩ (.int .i64 x)) g n (zs.set i x) :=
  ⟨⟨by rw [List.map_set]; exact (h.own.own.stored i (.int .i64 x)).1, h.own.lt, fun y hy => by
    rcases List.mem_or_eq_of_mem_set hy with hy | rfl
    · exact h.own.rng y hy
    · exact hx⟩, h.low.setCell (p := ⟨g, i, none⟩) h.glo _, h.glo⟩
theorem FillS.cell (h : FillS w wr g n zs) {i : Nat} (hi : i < n) : ∃ v, wr.cell? ⟨g, i, none⟩ = some (.int .i64 v) ∧ zs[i]? = some v ∧ R64 v ∧ wr.frozen? ⟨g, i, none⟩ = false := by
  have hl := h.own.len
  refine ⟨zs[i], ?_, List.getElem?_eq_getElem (by omega), h.own.rng _ (List.getElem_mem _), h.own.own.frozenAt i⟩
  rw [h.own.own.cellAt i (by omega), List.getElem?_map, List.getElem?_eq_getElem (by omega)]
  rfl
theorem FillS.done (h : FillS w wr g n zs) : OwnI wr w.heap.size wr.heap.size (some ⟨g, 0, none⟩) n n zs ∧ Below w.heap.size w wr :=
  ⟨h.own.wide h.glo (by have := (h.own.lt_size _ rfl).2; exact this), h.low⟩
end
theorem FillS.start (w : World) (n : Nat) (hn : n ≤ 1000) : FillS w (w.alloc (.cells (zeros n) 3)) w.heap.size n (zeroJ n) :=
  ⟨⟨owns_zeros w n (by omega) (Nat.le_refl _), fun ad e => by injection e with e; subst e; exact Nat.lt_succ_self _, fun x hx => by have := (List.mem_replicate.1 hx).2; subst this; constructor <;> omega⟩, below_alloc _ _, Nat.le_refl _⟩
theorem make_jet (n : Nat) (hn : n ≤ 1000) (W : World) :
    (Instr.makeSlice 55 (.int .i64 (n : Int)) (.int .i64 (n : Int))).run Tryz.prog W = .ok (.slice (some ⟨W.heap.size, 0, none⟩) n n) (W.alloc (.cells (zeros n) 3)) := by
  obtain ⟨i0, hi0, hz0, hz1, hz2⟩ := info_parts info_int
  have h := run_make (P := Tryz.prog) W 55 3 i0 (.int .i64 0) Tryz.underlying55 hi0 hz0 .i64 .i64 n n (by omega) (by omega) (by rw [hz2]; omega) (by omega)
  simp only [Int.toNat_natCast, hz1, Nat.mul_one] at h
  exact h
def mixJ (new old : List Int) (j : Nat) : List Int := new.take j ++ old.drop j
theorem mixJ_zero (new old : List Int) : mixJ new old 0 = old := by simp [mixJ]
theorem mixJ_all {new old : List Int} {k : Nat} (h1 : new.length = k) (h2 : old.length = k) : mixJ new old k = new := by simp [mixJ, List.take_of_length_le (Nat.le_of_eq h1), List.drop_eq_nil_of_le (Nat.le_of_eq h2)]
theorem mixJ_at {new old : List Int} {k j : Nat} (h1 : new.length = k) (hj : j < k) : (mixJ new old j)[j]? = old[j]? := by
  unfold mixJ
  rw [List.getElem?_append_right (by simp; omega)]
  simp [h1, Nat.min_eq_left (Nat.le_of_lt hj)]
theorem mixJ_set {new old : List Int} {k j : Nat} {x : Int} (h1 : new.length = k) (h2 : old.length = k) (hj : j < k) (hx : new[j]? = some x) : (mixJ new old j).set j x = mixJ new old (j + 1) := by
  unfold mixJ
  apply List.ext_getElem?
  intro i
  by_cases e : i = j
  · subst e
    rw [List.getElem?_set_self (by simp [h1, h2]; omega), List.getElem?_append_left (by simp; omega), List.getElem?_take_of_lt (by omega), hx]
  · rw [List.getElem?_set_ne (by omega)]
    by_cases e2 : i < j
    · rw [List.getElem?_append_left (by simp; omega), List.getElem?_append_left (by simp; omega), List.getElem?_take_of_lt e2, List.getElem?_take_of_lt (by omega)]
    · rw [List.getElem?_append_right (by simp; omega), List.getElem?_append_right (by simp; omega)]
      simp [h1]
      congr 1
      omega
theorem jplus_at {xs ys : List Int} {k : Int} {j : Nat} {x y : Int} (hx : xs[j]? = some x) (hy : ys[j]? = some y) : (jplus xs ys k)[j]? = some (plusF x (timesF y k)) := by
  have h1 := (List.getElem?_eq_some_iff.1 hx).1
  rw [jplus, tabJ_at _ h1]
  simp [List.getD, hx, hy]

set_option maxRecDepth 100000 in
set_option maxHeartbeats 4000000 in
theorem impl_plus (A : Option Addr) (n c : Nat) (xs : List Int) (lo hi : Nat) (B : Option Addr) (d : Nat) (ys : List Int) (lo' hi' : Nat) (k : Int) (w : World) (h : Ints w lo hi A n c xs) (g : Ints w lo' hi' B n d ys) (hh : hi ≤ w.heap.size) (hh' : hi' ≤ w.heap.size) (hn : n ≤ 1000) (hk : R64 k) :
    Calls Tryz.prog 39 #[.slice A n c, .slice B n d, .int .i64 k] w fun e w' => ∃ gR, e = .returned (.slice (some ⟨gR, 0, none⟩) n n) ∧ OwnI w' w.heap.size w'.heap.size (some ⟨gR, 0, none⟩) n n (jplus xs ys k) ∧ Below w.heap.size w w' := by
  have hcA := h.cap
  have hmA := h.max
  have hcB := g.cap
  have hmB := g.max
  have hmk := make_jet n hn w
  have HX := hide h
  have HY := hide g
  have HK := hide hk
  have hlx : Hid ((jplus xs ys k).length = n) := by show _ = _; rw [jplus_len, h.len]
  have s0 := hide (FillS.start w n hn)
  clear h g hk
  go_enter Tryz.func39, Tryz.ntmps39
  go_wp2_with fail
  clear hmk
  go_loopw [14] (fun i wr => ∃ (j : Nat), j ≤ n ∧ i = .int .i64 j ∧ Hid (FillS w wr w.heap.size n (mixJ (jplus xs ys k) (zeroJ n) j))) (fun i _ => n - (intOf i).toNat)
  case atStart => exact ⟨0, by omega, rfl, by rw [mixJ_zero]; exact s0⟩
  case round =>
    clear s0
    obtain ⟨j, hj, rfl, hS⟩ := hrel
    by_cases hlt : j < n
    · obtain ⟨ad, x, rfl, hcx, hxr, _, hxx⟩ := (HX.out.below hS.out.low hh).at_ hlt
      obtain ⟨ae, y, rfl, hcy, hyr, _, hyy⟩ := (HY.out.below hS.out.low hh').at_ hlt
      obtain ⟨v, hcv, _, _, hfv⟩ := hS.out.cell hlt
      have hat := jplus_at (k := k) hxx.out hyy.out
      have HT := hide fun W => impl_Times y k W hyr HK.out
      have htb := timesF_bd y k
      have HP := hide fun W => impl_Plus x (timesF y k) W hxr (by constructor <;> omega)
      have hpb := plusF_bd x (timesF y k)
      have hN := hS.out.set j (x := plusF x (timesF y k)) (by constructor <;> omega)
      rw [mixJ_set hlx.out (zero_len n) hlt hat] at hN
      have HN := hide hN.drew
      clear hxx hyy hat hN hS
      go_wp2_with fail
      refine still_tail 14 (by kernel_rfl) (by kernel_rfl) ?_
      simp only [List.take_succ_cons, List.take_zero, List.drop_succ_cons, List.drop_zero]
      iterate 11 still_step
      still_call (still_same (HT.out _))
      still_call (still_same (HP.out _))
      still_step
      refine wpStill_nil ?_
      go_wp2_with fail
      go_roundw
      case rel => exact ⟨j + 1, by omega, by go_num, HN.out⟩
      case measure => simp [intOf]; omega
    · obtain rfl : n = j := by omega
      rw [mixJ_all hlx.out (zero_len n)] at hS
      go_wp2_with fail
      go_ret
      exact ⟨_, rfl, hS.out.done⟩
end Go.Proofs.YtkaepjigmcielaaGreatDoor
/- Polynomials in h: the program's product. -/
namespace Go.Proofs.YtkaepjigmcielaaGreatDoor
open Go.RowKit
set_option linter.unusedSimpArgs false
set_option linter.unusedVariables false
set_option maxRecDepth 20000

theorem mulP_zero {xs ys : List Int} {n : Nat} (h : xs.length = n) : jmulP xs ys 0 = zeroJ n := by
  refine tabJ_eq (n := n) (by rw [jmulP, tabJ_len, h]) (zero_len n) fun j hj => ?_
  rw [jmulP, tabJ_get _ (by omega)]
  simp [psum, zeroJ, hj]
theorem mulP_len (xs ys : List Int) (i : Nat) : (jmulP xs ys i).length = xs.length := tabJ_len _ _
theorem mulP_at (xs ys : List Int) {i q : Nat} (h : q < xs.length) : (jmulP xs ys i)[q]? = some (psum xs ys i q % 1000000271) := tabJ_at _ h
theorem psum_step {xs ys : List Int} {i j : Nat} {x y : Int} (hx : xs[i]? = some x) (hy : ys[j]? = some y) : psum xs ys (i + 1) (i + j) % 1000000271 = (psum xs ys i (i + j) % 1000000271 + x * y) % 1000000271 := by
  rw [psum, if_pos (by omega), show i + j - i = j by omega]
  simp only [List.getD, hx, hy, Option.getD_some]
  rw [Int.emod_add_emod]
theorem mul_begin {xs ys : List Int} {i n : Nat} (h : xs.length = n) (hi : i ≤ n) : mixJ (jmulP xs ys (i + 1)) (jmulP xs ys i) i = jmulP xs ys i := by
  refine tabJ_eq (n := n) ?_ (by rw [mulP_len, h]) fun j hj => ?_
  · simp [mixJ, mulP_len, h]; omega
  · unfold mixJ
    by_cases hji : j < i
    · rw [List.getD_eq_getElem?_getD, List.getElem?_append_left (by simp [mulP_len, h]; omega), List.getElem?_take_of_lt hji, mulP_at _ _ (by omega), List.getD_eq_getElem?_getD, mulP_at _ _ (by omega)]
      simp only [Option.getD_some]
      rw [psum, if_neg (by omega), Int.add_zero]
    · rw [List.getD_eq_getElem?_getD, List.getElem?_append_right (by simp [mulP_len, h]; omega)]
      simp only [List.length_take, mulP_len, h, List.getElem?_drop, Nat.min_eq_left hi]
      rw [show i + (j - i) = j by omega, ← List.getD_eq_getElem?_getD]
theorem mul_zero_row {xs ys : List Int} {i : Nat} (hx : xs[i]? = some 0) : jmulP xs ys (i + 1) = jmulP xs ys i := by
  unfold jmulP tabJ
  refine List.map_congr_left fun k _ => ?_
  rw [psum]
  simp [List.getD, hx]

set_option maxRecDepth 100000 in
set_option maxHeartbeats 8000000 in
theorem impl_times (A : Option Addr) (n c : Nat) (xs : List Int) (lo hi : Nat) (B : Option Addr) (d : Nat) (ys : List Int) (lo' hi' : Nat) (w : World) (h : Ints w lo hi A n c xs) (g : Ints w lo' hi' B n d ys) (hh : hi ≤ w.heap.size) (hh' : hi' ≤ w.heap.size) (hn : n ≤ 1000) (hx : ∀ x ∈ xs, 0 ≤ x ∧ x < 1000000271) (hy : ∀ y ∈ ys, 0 ≤ y ∧ y < 1000000271) :
    Calls Tryz.prog 126 #[.slice A n c, .slice B n d] w fun e w' => ∃ gR, e = .returned (.slice (some ⟨gR, 0, none⟩) n n) ∧ OwnI w' w.heap.size w'.heap.size (some ⟨gR, 0, none⟩) n n (jmul xs ys) ∧ Below w.heap.size w w' := by
  have hcA := h.cap
  have hmA := h.max
  have hcB := g.cap
  have hmB := g.max
  have hmk := make_jet n hn w
  have HX := hide h
  have HY := hide g
  have hlx := hide h.len
  have HXN := hide hx
  have HYN := hide hy
  have s0 := hide (FillS.start w n hn)
  rw [← mulP_zero (ys := ys) hlx.out] at s0
  clear h g hx hy
  go_enter Tryz.func126, Tryz.ntmps126
  go_wp2_with fail
  clear hmk
  go_loopw [14] (fun i wr => ∃ (j : Nat), j ≤ n ∧ i = .int .i64 j ∧ Hid (FillS w wr w.heap.size n (jmulP xs ys j))) (fun i _ => n - (intOf i).toNat)
  case atStart => exact ⟨0, by omega, rfl, s0⟩
  case round =>
    clear s0
    obtain ⟨i, hi, rfl, hS⟩ := hrel
    by_cases hlt : i < n
    · obtain ⟨ad, x, rfl, hcx, hxr, _, hxx⟩ := (HX.out.below hS.out.low hh).at_ hlt
      have hxb := HXN.out x (List.mem_of_getElem? hxx.out)
      by_cases hx0 : x = 0
      · subst hx0
        have hN := hS.out
        rw [← mul_zero_row (ys := ys) hxx.out] at hN
        have HN := hide hN
        clear hxx hS hN
        go_wp2_with fail
        go_roundw
        case rel => exact ⟨i + 1, by omega, by go_num, HN.out⟩
        case measure => simp [intOf]; omega
      · have hxne : (x == 0) = false := by simpa using hx0
        clear hx0
        go_wp2_with fail
        go_loopw [8] (fun v wr => ∃ (j : Nat), i + j ≤ n ∧ v = .int .i64 j ∧ Hid (FillS w wr w.heap.size n (mixJ (jmulP xs ys (i + 1)) (jmulP xs ys i) (i + j)))) (fun v _ => n - (intOf v).toNat)
        case atStart => exact ⟨0, by omega, rfl, by show Hid (FillS w wr w.heap.size n (mixJ (jmulP xs ys (i + 1)) (jmulP xs ys i) i)); rw [mul_begin hlx.out (by omega)]; exact hS⟩
        case round =>
          clear hS hcx
          obtain ⟨j, hj, rfl, hS⟩ := hrel
          have hw0 : IntKind.i64.wrap ((i : Int) + (j : Int)) = ((i + j : Nat) : Int) := by rw [show ((i + j : Nat) : Int) = (i : Int) + j by simp]; exact IntWalk.i64_in _ (by omega)
          by_cases hlt2 : i + j < n
          · obtain ⟨ae, y, rfl, hcy, hyr, _, hyy⟩ := (HY.out.below hS.out.low hh').at_ (show j < n by omega)
            have hyb := HYN.out y (List.mem_of_getElem? hyy.out)
            obtain ⟨q, hq⟩ : ∃ q, q = i + j := ⟨_, rfl⟩
            rw [← hq] at hw0 hlt2 hS
            obtain ⟨v, hcv, hzv, hvr, hfv⟩ := hS.out.cell hlt2
            rw [mixJ_at (by rw [mulP_len, hlx.out]) hlt2, mulP_at _ _ (by rw [hlx.out]; exact hlt2)] at hzv
            injection hzv with hzv
            have hvb : 0 ≤ v ∧ v < 1000000271 := by rw [← hzv]; exact ⟨Int.emod_nonneg _ (by omega), Int.emod_lt_of_pos _ (by omega)⟩
            have hst := psum_step (j := j) hxx.out hyy.out
            rw [← hq, hzv] at hst
            have hmb := mul_bd hxb.1 hxb.2 hyb.1 hyb.2
            obtain ⟨p, hp⟩ : ∃ p, p = x * y := ⟨_, rfl⟩
            rw [← hp] at hst hmb
            have hw1 : IntKind.i64.wrap (x * y) = p := by rw [← hp]; exact IntWalk.i64_in _ (by omega)
            obtain ⟨s, hs⟩ : ∃ s, s = v + p := ⟨_, rfl⟩
            have hw2 : IntKind.i64.wrap (v + p) = s := by rw [← hs]; exact IntWalk.i64_in _ (by omega)
            obtain ⟨r, hr⟩ : ∃ r, r = s % 1000000271 := ⟨_, rfl⟩
            have hs0 : 0 ≤ s := by omega
            have hrb : 0 ≤ r ∧ r < 1000000271 := by omega
            have ht : s.tmod 1000000271 = r := by rw [hr]; exact Int.tmod_eq_emod_of_nonneg hs0
            have hw3 : IntKind.i64.wrap r = r := IntWalk.i64_in _ (by omega)
            have hat : (jmulP xs ys (i + 1))[q]? = some r := by rw [mulP_at _ _ (by rw [hlx.out]; exact hlt2), hst, ← hs, hr]
            have hN := hS.out.set q (x := r) (by constructor <;> omega)
            rw [mixJ_set (by rw [mulP_len, hlx.out]) (by rw [mulP_len, hlx.out]) hlt2 hat] at hN
            have HN := hide hN.drew
            have hqs : Hid (q + 1 = i + (j + 1)) := by show _ = _; omega
            have hjn : j < n := by omega
            clear hyy hzv hst hp hs hr hat hN hS hvb hq
            go_wp2_with fail
            refine still_tail 19 (by kernel_rfl) (by kernel_rfl) ?_
            simp only [List.take_succ_cons, List.take_zero, List.drop_succ_cons, List.drop_zero]
            iterate 19 still_step
            refine wpStill_nil ?_
            go_wp2_with fail
            go_roundw
            case rel => exact ⟨j + 1, by have := hqs.out; omega, by go_num, by rw [← hqs.out]; exact HN.out⟩
            case measure => simp [intOf]; omega
          · have hqn : i + j = n := by omega
            rw [hqn] at hS hw0
            rw [mixJ_all (by rw [mulP_len, hlx.out]) (by rw [mulP_len, hlx.out])] at hS
            have hqn2 := hide hqn
            clear hqn
            go_wp2_with fail
            go_roundw
            case rel => exact ⟨i + 1, by omega, by go_num, hS.out⟩
            case measure => simp [intOf]; omega
    · obtain rfl : n = i := by omega
      have hE : Hid (jmul xs ys = jmulP xs ys n) := by show _ = _; rw [jmul, hlx.out]
      go_wp2_with fail
      go_ret
      exact ⟨_, rfl, by rw [hE.out]; exact hS.out.done⟩
end Go.Proofs.YtkaepjigmcielaaGreatDoor
/- Polynomials in h: the reference's product. -/
namespace Go.Proofs.YtkaepjigmcielaaGreatDoor
open Go.RowKit
set_option linter.unusedSimpArgs false
set_option linter.unusedVariables false
set_option maxRecDepth 20000

set_option maxRecDepth 100000 in
set_option maxHeartbeats 8000000 in
theorem spec_l8Mul (A : Option Addr) (n c : Nat) (xs : List Int) (lo hi : Nat) (B : Option Addr) (d : Nat) (ys : List Int) (lo' hi' : Nat) (w : World) (h : Ints w lo hi A n c xs) (g : Ints w lo' hi' B n d ys) (hh : hi ≤ w.heap.size) (hh' : hi' ≤ w.heap.size) (hn : n ≤ 1000) (hx : ∀ x ∈ xs, 0 ≤ x ∧ x < 1000000271) (hy : ∀ y ∈ ys, 0 ≤ y ∧ y < 1000000271) :
    Calls Tryz.prog 100 #[.slice A n c, .slice B n d] w fun e w' => ∃ gR, e = .returned (.slice (some ⟨gR, 0, none⟩) n n) ∧ OwnI w' w.heap.size w'.heap.size (some ⟨gR, 0, none⟩) n n (jmul xs ys) ∧ Below w.heap.size w w' := by
  have hcA := h.cap
  have hmA := h.max
  have hcB := g.cap
  have hmB := g.max
  have hmk := make_ints n (by omega) w
  have HX := hide h
  have HY := hide g
  have hlx := hide h.len
  have HXN := hide hx
  have HYN := hide hy
  have s0 := hide (FillS.start w n hn)
  rw [← mulP_zero (ys := ys) hlx.out] at s0
  clear h g hx hy
  go_enter Tryz.func100, Tryz.ntmps100
  go_wp2_with fail
  clear hmk
  go_loopw [6] (fun i wr => ∃ (j : Nat), j ≤ n ∧ i = .int .i64 j ∧ Hid (FillS w wr w.heap.size n (jmulP xs ys j))) (fun i _ => n - (intOf i).toNat)
  case atStart => exact ⟨0, by omega, rfl, s0⟩
  case round =>
    clear s0
    obtain ⟨i, hi, rfl, hS⟩ := hrel
    by_cases hlt : i < n
    · obtain ⟨ad, x, rfl, hcx, hxr, _, hxx⟩ := (HX.out.below hS.out.low hh).at_ hlt
      have hxb := HXN.out x (List.mem_of_getElem? hxx.out)
      by_cases hx0 : x = 0
      · subst hx0
        have hN := hS.out
        rw [← mul_zero_row (ys := ys) hxx.out] at hN
        have HN := hide hN
        have hw0 : IntKind.i64.wrap ((i : Int) + 0) = (i : Int) := by rw [Int.add_zero]; exact IntWalk.i64_in _ (by omega)
        clear hxx hS hN
        go_wp2_with fail
        go_loopw [7] (fun v wr2 => v = .int .i64 0 ∧ wr2 = wr) (fun _ _ => 0)
        case atStart => exact ⟨rfl, rfl⟩
        case round =>
          obtain ⟨rfl, rfl⟩ := hrel
          go_wp2_with fail
          go_roundw
          case rel => exact ⟨i + 1, by omega, by go_num, HN.out⟩
          case measure => simp [intOf]; omega
      · have hxne : (x != 0) = true := by simpa using hx0
        clear hx0
        go_wp2_with fail
        go_loopw [7] (fun v wr => ∃ (j : Nat), i + j ≤ n ∧ v = .int .i64 j ∧ Hid (FillS w wr w.heap.size n (mixJ (jmulP xs ys (i + 1)) (jmulP xs ys i) (i + j)))) (fun v _ => n - (intOf v).toNat)
        case atStart => exact ⟨0, by omega, rfl, by show Hid (FillS w wr w.heap.size n (mixJ (jmulP xs ys (i + 1)) (jmulP xs ys i) i)); rw [mul_begin hlx.out (by omega)]; exact hS⟩
        case round =>
          clear hS hcx
          obtain ⟨j, hj, rfl, hS⟩ := hrel
          obtain ⟨ad1, x1, e1, hcx, _, _, hxx1⟩ := (HX.out.below hS.out.low hh).at_ hlt
          injection e1 with e1
          subst e1
          obtain rfl : x = x1 := by have h1 := hxx.out; rw [hxx1.out] at h1; injection h1 with h1; exact h1.symm
          clear hxx1
          have hw0 : IntKind.i64.wrap ((i : Int) + (j : Int)) = ((i + j : Nat) : Int) := by rw [show ((i + j : Nat) : Int) = (i : Int) + j by simp]; exact IntWalk.i64_in _ (by omega)
          by_cases hlt2 : i + j < n
          · obtain ⟨ae, y, rfl, hcy, hyr, _, hyy⟩ := (HY.out.below hS.out.low hh').at_ (show j < n by omega)
            have hyb := HYN.out y (List.mem_of_getElem? hyy.out)
            obtain ⟨q, hq⟩ : ∃ q, q = i + j := ⟨_, rfl⟩
            rw [← hq] at hw0 hlt2 hS
            obtain ⟨v, hcv, hzv, hvr, hfv⟩ := hS.out.cell hlt2
            rw [mixJ_at (by rw [mulP_len, hlx.out]) hlt2, mulP_at _ _ (by rw [hlx.out]; exact hlt2)] at hzv
            injection hzv with hzv
            have hvb : 0 ≤ v ∧ v < 1000000271 := by rw [← hzv]; exact ⟨Int.emod_nonneg _ (by omega), Int.emod_lt_of_pos _ (by omega)⟩
            have hst := psum_step (j := j) hxx.out hyy.out
            rw [← hq, hzv] at hst
            have HT := hide fun W => spec_Times x y W hxr hyr
            have htb := timesF_bd x y
            have HP := hide fun W => spec_Plus v (timesF x y) W hvr (by constructor <;> omega)
            have hpb := plusF_bd v (timesF x y)
            have hat : (jmulP xs ys (i + 1))[q]? = some (plusF v (timesF x y)) := by
              rw [mulP_at _ _ (by rw [hlx.out]; exact hlt2), hst]
              unfold plusF timesF
              rw [Int.add_emod_emod]
            have hN := hS.out.set q (x := plusF v (timesF x y)) (by constructor <;> omega)
            rw [mixJ_set (by rw [mulP_len, hlx.out]) (by rw [mulP_len, hlx.out]) hlt2 hat] at hN
            have HN := hide hN.drew
            have hqs : Hid (q + 1 = i + (j + 1)) := by show _ = _; omega
            have hjn : j < n := by omega
            clear hyy hzv hst hat hN hS hvb hq
            go_wp2_with fail
            refine still_tail 21 (by kernel_rfl) (by kernel_rfl) ?_
            simp only [List.take_succ_cons, List.take_zero, List.drop_succ_cons, List.drop_zero]
            iterate 18 still_step
            still_call (still_same (HT.out _))
            still_call (still_same (HP.out _))
            still_step
            refine wpStill_nil ?_
            go_wp2_with fail
            go_roundw
            case rel => exact ⟨j + 1, by have := hqs.out; omega, by go_num, by rw [← hqs.out]; exact HN.out⟩
            case measure => simp [intOf]; omega
          · have hqn : i + j = n := by omega
            rw [hqn] at hS hw0
            rw [mixJ_all (by rw [mulP_len, hlx.out]) (by rw [mulP_len, hlx.out])] at hS
            have hqn2 := hide hqn
            clear hqn
            go_wp2_with fail
            go_roundw
            case rel => exact ⟨i + 1, by omega, by go_num, hS.out⟩
            case measure => simp [intOf]; omega
    · obtain rfl : n = i := by omega
      have hE : Hid (jmul xs ys = jmulP xs ys n) := by show _ = _; rw [jmul, hlx.out]
      go_wp2_with fail
      go_ret
      exact ⟨_, rfl, by rw [hE.out]; exact hS.out.done⟩
end Go.Proofs.YtkaepjigmcielaaGreatDoor
/- Polynomials in h: one power later; the reference's sum. -/
namespace Go.Proofs.YtkaepjigmcielaaGreatDoor
open Go.RowKit
set_option linter.unusedSimpArgs false
set_option linter.unusedVariables false
set_option maxRecDepth 20000

theorem mixJ_big {new old : List Int} {k j : Nat} (h1 : new.length = k) (h2 : old.length = k) (hj : k ≤ j) : mixJ new old j = new := by
  simp [mixJ, List.take_of_length_le (show new.length ≤ j by omega), List.drop_eq_nil_of_le (show old.length ≤ j by omega)]
theorem take_snocJ {α : Type} {xs : List α} {k : Nat} {x : α} (hx : xs[k]? = some x) : xs.take k ++ [x] = xs.take (k + 1) := by
  rw [List.take_add_one, hx]; rfl
theorem jplus_rng (xs ys : List Int) (k : Int) : ∀ z ∈ jplus xs ys k, 0 ≤ z ∧ z < 1000000271 := tabJ_num fun j => plusF_bd _ _
theorem jmul_rng (xs ys : List Int) : ∀ z ∈ jmul xs ys, 0 ≤ z ∧ z < 1000000271 := tabJ_num fun j => ⟨Int.emod_nonneg _ (by omega), Int.emod_lt_of_pos _ (by omega)⟩

set_option maxRecDepth 100000 in
set_option maxHeartbeats 4000000 in
theorem spec_l8Add (A : Option Addr) (n c : Nat) (xs : List Int) (lo hi : Nat) (B : Option Addr) (d : Nat) (ys : List Int) (lo' hi' : Nat) (k : Int) (w : World) (h : Ints w lo hi A n c xs) (g : Ints w lo' hi' B n d ys) (hh : hi ≤ w.heap.size) (hh' : hi' ≤ w.heap.size) (hn : n ≤ 1000) (hk : R64 k) :
    Calls Tryz.prog 82 #[.slice A n c, .slice B n d, .int .i64 k] w fun e w' => ∃ R cR, e = .returned (.slice R n cR) ∧ OwnI w' w.heap.size w'.heap.size R n cR (jplus xs ys k) ∧ Below w.heap.size w w' := by
  obtain ⟨i0, hi0, hz0, hz1, hz2⟩ := info_parts info_int
  have hcA := h.cap
  have hmA := h.max
  have hcB := g.cap
  have hmB := g.max
  have HX := hide h
  have HY := hide g
  have HK := hide hk
  have hlx : Hid ((jplus xs ys k).length = n) := by show _ = _; rw [jplus_len, h.len]
  have own0 : Hid ((w.alloc (.cells #[] 3)).ownsRow w.heap.size 3 1 (.slice (some ⟨w.heap.size, 0, none⟩) 0 0) 0 (((jplus xs ys k).take 0).map (Value.int .i64))) := by
    show World.ownsRow _ _ _ _ _ _ _
    simpa using World.ownsRow_lit (size := 1) (e := 3) (base := w.heap.size) w #[] 0 (Nat.le_refl _) (by unfold maxLen; omega) rfl
  have b0 := hide (below_alloc w (.cells #[] 3))
  clear h g hk
  go_enter Tryz.func82, Tryz.ntmps82
  go_wp2_with fail
  go_loopw [7, 8] (fun p i wr => ∃ (j : Nat) (R : Option Addr) (dR : Nat), j ≤ n ∧ i = .int .i64 j ∧ p = .slice R j dR ∧ Hid (wr.ownsRow w.heap.size 3 1 (.slice R j dR) j (((jplus xs ys k).take j).map (Value.int .i64))) ∧ Hid (Below w.heap.size w wr)) (fun _ i _ => n - (intOf i).toNat)
  case atStart => exact ⟨0, _, 0, by omega, rfl, rfl, own0.out, b0.out⟩
  case round =>
    clear own0 b0
    obtain ⟨j, R, dR, hj, rfl, rfl, hO, hb⟩ := hrel
    have hsz := hb.out.size
    by_cases hlt : j < n
    · obtain ⟨ad, x, rfl, hcx, hxr, _, hxx⟩ := (HX.out.below hb.out hh).at_ hlt
      obtain ⟨ae, y, rfl, hcy, hyr, _, hyy⟩ := (HY.out.below hb.out hh').at_ hlt
      have hat := jplus_at (k := k) hxx.out hyy.out
      have HT := hide fun W => spec_Times y k W hyr HK.out
      have htb := timesF_bd y k
      have HP := hide fun W => spec_Plus x (timesF y k) W hxr (by constructor <;> omega)
      have hpb := plusF_bd x (timesF y k)
      have hT2 : Hid ((jplus xs ys k).take j ++ [plusF x (timesF y k)] = (jplus xs ys k).take (j + 1)) := take_snocJ hat
      have hOd : Hid (wr.drew.ownsRow w.heap.size 3 1 (.slice R j dR) j (((jplus xs ys k).take j).map (Value.int .i64))) := hO.out
      have hbd := hide hb.out.drew
      have hszd : w.heap.size ≤ wr.drew.heap.size := hsz
      have HC : Hid (∀ v1 : World, Below w.heap.size w v1 → v1.cell? (ad.add j) = some (.int .i64 x) ∧ v1.cell? (ae.add j) = some (.int .i64 y)) := fun v1 hB => by
        obtain ⟨a1, x1, e1, c1, _, _, q1⟩ := (HX.out.below hB hh).at_ hlt
        obtain ⟨a2, y1, e2, c2, _, _, q2⟩ := (HY.out.below hB hh').at_ hlt
        injection e1 with e1
        injection e2 with e2
        subst e1 e2
        have f1 := hxx.out.symm.trans q1.out
        have f2 := hyy.out.symm.trans q2.out
        injection f1 with f1
        injection f2 with f2
        subst f1 f2
        exact ⟨c1, c2⟩
      have S1 := hide (HC.out _ hbd.out)
      have S2 := hide (HC.out _ (hbd.out.alloc hszd (.cells #[.int .i64 (plusF x (timesF y k))] 3)))
      clear hxx hyy hat
      go_wp2_with fail
      go_region_held3 (fun w' => w'.cell? (ad.add j) = some (.int .i64 x) ∧ w'.cell? (ae.add j) = some (.int .i64 y)) (first | exact ⟨hcx, hcy⟩ | exact S1.out | exact S2.out | exact T5 | go_keep)
        (first
          | (go_at_call 29; refine (HT.out _).mono ?_; rintro e w' ⟨rfl, rfl⟩)
          | (go_at_call 28; refine (HP.out _).mono ?_; rintro e w' ⟨rfl, rfl⟩)
          | (refine step_app1 (by rfl) _ _ 22 (by rfl) w.heap.size 3 i0 (.int .i64 0) 1 8 Tryz.underlying22 hi0 hz0 hz1 hz2 rfl (by omega) wr.drew #[.int .i64 (plusF x (timesF y k))] _ rfl R j dR 1 _ (by rfl) (by rfl) hOd.out rfl (by simp [Value.oneCell']) (by omega) (by omega) hszd ?_; intro R2 d3 w5 happ hlt3; have hb5 := hide (happ.low hbd.out hszd (Nat.le_refl _) hOd.out); have T5 := HC.out _ hb5.out))
      all_goals
        have hO5 : Hid (w5.ownsRow w.heap.size 3 1 (.slice R2 (j + 1) d3) (j + 1) (((jplus xs ys k).take (j + 1)).map (Value.int .i64))) := by
          show World.ownsRow _ _ _ _ _ _ _
          rw [← hT2.out, List.map_append]
          exact happ.1
        clear happ hOd hbd S1 S2 T5 hcx hcy HC hO hb
        go_wp2_with fail
        go_roundw
        case rel => exact ⟨j + 1, R2, d3, by omega, by go_num, rfl, hO5.out, hb5.out⟩
        case measure => simp [intOf]; omega
    · obtain rfl : n = j := by omega
      have hO2 := hO.out
      rw [List.take_of_length_le (Nat.le_of_eq hlx.out)] at hO2
      have HO := hide hO2
      clear hO hO2
      go_wp2_with fail
      go_ret
      exact ⟨R, dR, rfl, ⟨HO.out, fun ad e => (owns_lt HO.out ad e).2, fun z hz => by have := jplus_rng xs ys k z hz; constructor <;> omega⟩, hb.out⟩
end Go.Proofs.YtkaepjigmcielaaGreatDoor
