/- Polynomials in h: the program's plus, times, later. -/
import Derived.Test.YtlmkjfgomlamhaaJetP
import Derived.Test.YtlmkjfgomlamhaaJetM
import Derived.Test.YtlmkjfgomlamhaaNum
import Derived.Test.YtlmkjfgomlamhaaLast
namespace Go.Proofs.Ytlmkjfgomlamhaa
open Go.RowKit
set_option linter.unusedSimpArgs false
set_option linter.unusedVariables false
set_option maxRecDepth 20000

/-- A row of the call's own that is being filled; nothing else has changed. -/
structure FillS (w wr : World) (g n : Nat) (zs : List Int) : Prop where
  own : OwnI wr g (g + 1) (some ⟨g, 0, none⟩) n n zs
  low : Below w.heap.size w wr
  glo : w.heap.size ≤ g
section
variable {w wr : World} {g n : Nat} {zs : List Int}
theorem FillS.drew (h : FillS w wr g n zs) : FillS w wr.drew g n zs := ⟨h.own.same (fun _ _ _ => rfl), h.low.drew, h.glo⟩
theorem FillS.set (h : FillS w wr g n zs) (i : Nat) {x : Int} (hx : R64 x) : FillS w (wr.setCell ⟨g, i, none⟩ (.int .i64 x)) g n (zs.set i x) :=
  ⟨⟨by rw [List.map_set]; exact (h.own.own.stored i (.int .i64 x)).1, h.own.lt, fun y hy => by
    rcases List.mem_or_eq_of_mem_set hy with hy | rfl
    · exact h.own.rng y hy
    · exact hx⟩, h.low.setCell (p := ⟨g, i, none⟩) h.glo _, h.glo⟩
theorem FillS.cell (h : FillS w wr g n zs) {i : Nat} (hi : i < n) : ∃ v, wr.cell? ⟨g, i, none⟩ = some (.int .i64 v) ∧ zs[i]? = some v ∧ R64 v ∧ wr.frozen? ⟨g, i, none⟩ = false := by
  have hl := h.own.len
  refine ⟨zs[i], ?_, List.getElem?_eq_getElem (by omega), h.own.rng _ (List.getElem_mem _), h.own.own.frozenAt i⟩
  rw [h.own.own.cellAt i (by omega), List.getElem?_map, List.getElem?_eq_getElem (by omega)]
  rfl
theorem FillS.done (h : FillS w wr g n zs) : OwnI wr w.heap.size wr.heap.size (some ⟨g, 0, none⟩) n n zs ∧ Below w.heap.size w wr :=
  ⟨h.own.wide h.glo (by have := (h.own.lt_size _ rfl).2; exact this), h.low⟩
end
theorem FillS.start (w : World) (n : Nat) (hn : n ≤ 1000) : FillS w (w.alloc (.cells (zeros n) 3)) w.heap.size n (zeroJ n) :=
  ⟨⟨owns_zeros w n (by omega) (Nat.le_refl _), fun ad e => by injection e with e; subst e; exact Nat.lt_succ_self _, fun x hx => by have := (List.mem_replicate.1 hx).2; subst this; constructor <;> omega⟩, below_alloc _ _, Nat.le_refl _⟩
theorem make_jet (n : Nat) (hn : n ≤ 1000) (W : World) :
    (Instr.makeSlice 88 (.int .i64 (n : Int)) (.int .i64 (n : Int))).run Try.prog W = .ok (.slice (some ⟨W.heap.size, 0, none⟩) n n) (W.alloc (.cells (zeros n) 3)) := by
  obtain ⟨i0, hi0, hz0, hz1, hz2⟩ := info_parts info_int
  have h := run_make (P := Try.prog) W 88 3 i0 (.int .i64 0) Try.underlying88 hi0 hz0 .i64 .i64 n n (by omega) (by omega) (by rw [hz2]; omega) (by omega)
  simp only [Int.toNat_natCast, hz1, Nat.mul_one] at h
  exact h
def mixJ (new old : List Int) (j : Nat) : List Int := new.take j ++ old.drop j
theorem mixJ_zero (new old : List Int) : mixJ new old 0 = old := by simp [mixJ]
theorem mixJ_all {new old : List Int} {k : Nat} (h1 : new.length = k) (h2 : old.length = k) : mixJ new old k = new := by simp [mixJ, List.take_of_length_le (Nat.le_of_eq h1), List.drop_eq_nil_of_le (Nat.le_of_eq h2)]
theorem mixJ_at {new old : List Int} {k j : Nat} (h1 : new.length = k) (hj : j < k) : (mixJ new old j)[j]? = old[j]? := by
  unfold mixJ
  rw [List.getElem?_append_right (by simp; omega)]
  simp [h1, Nat.min_eq_left (Nat.le_of_lt hj)]
theorem mixJ_set {new old : List Int} {k j : Nat} {x : Int} (h1 : new.length = k) (h2 : old.length = k) (hj : j < k) (hx : new[j]? = some x) : (mixJ new old j).set j x = mixJ new old (j + 1) := by
  unfold mixJ
  apply List.ext_getElem?
  intro i
  by_cases e : i = j
  · subst e
    rw [List.getElem?_set_self (by simp [h1, h2]; omega), List.getElem?_append_left (by simp; omega), List.getElem?_take_of_lt (by omega), hx]
  · rw [List.getElem?_set_ne (by omega)]
    by_cases e2 : i < j
    · rw [List.getElem?_append_left (by simp; omega), List.getElem?_append_left (by simp; omega), List.getElem?_take_of_lt e2, List.getElem?_take_of_lt (by omega)]
    · rw [List.getElem?_append_right (by simp; omega), List.getElem?_append_right (by simp; omega)]
      simp [h1]
      congr 1
      omega
theorem jplus_at {xs ys : List Int} {k : Int} {j : Nat} {x y : Int} (hx : xs[j]? = some x) (hy : ys[j]? = some y) : (jplus xs ys k)[j]? = some (plusF x (timesF y k)) := by
  have h1 := (List.getElem?_eq_some_iff.1 hx).1
  rw [jplus, tabJ_at _ h1]
  simp [List.getD, hx, hy]

set_option maxRecDepth 100000 in
set_option maxHeartbeats 4000000 in
theorem impl_plus (A : Option Addr) (n c : Nat) (xs : List Int) (lo hi : Nat) (B : Option Addr) (d : Nat) (ys : List Int) (lo' hi' : Nat) (k : Int) (w : World) (h : Ints w lo hi A n c xs) (g : Ints w lo' hi' B n d ys) (hh : hi ≤ w.heap.size) (hh' : hi' ≤ w.heap.size) (hn : n ≤ 1000) (hk : R64 k) :
    Calls Try.prog 57 #[.slice A n c, .slice B n d, .int .i64 k] w fun e w' => ∃ gR, e = .returned (.slice (some ⟨gR, 0, none⟩) n n) ∧ OwnI w' w.heap.size w'.heap.size (some ⟨gR, 0, none⟩) n n (jplus xs ys k) ∧ Below w.heap.size w w' := by
  have hcA := h.cap
  have hmA := h.max
  have hcB := g.cap
  have hmB := g.max
  have hmk := make_jet n hn w
  have HX := hide h
  have HY := hide g
  have HK := hide hk
  have hlx : Hid ((jplus xs ys k).length = n) := by show _ = _; rw [jplus_len, h.len]
  have s0 := hide (FillS.start w n hn)
  clear h g hk
  go_enter Try.func57, Try.ntmps57
  go_wp2_with fail
  clear hmk
  go_loopw [14] (fun i wr => ∃ (j : Nat), j ≤ n ∧ i = .int .i64 j ∧ Hid (FillS w wr w.heap.size n (mixJ (jplus xs ys k) (zeroJ n) j))) (fun i _ => n - (intOf i).toNat)
  case atStart => exact ⟨0, by omega, rfl, by rw [mixJ_zero]; exact s0⟩
  case round =>
    clear s0
    obtain ⟨j, hj, rfl, hS⟩ := hrel
    by_cases hlt : j < n
    · obtain ⟨ad, x, rfl, hcx, hxr, _, hxx⟩ := (HX.out.below hS.out.low hh).at_ hlt
      obtain ⟨ae, y, rfl, hcy, hyr, _, hyy⟩ := (HY.out.below hS.out.low hh').at_ hlt
      obtain ⟨v, hcv, _, _, hfv⟩ := hS.out.cell hlt
      have hat := jplus_at (k := k) hxx.out hyy.out
      have HT := hide fun W => impl_Times y k W hyr HK.out
      have htb := timesF_bd y k
      have HP := hide fun W => impl_Plus x (timesF y k) W hxr (by constructor <;> omega)
      have hpb := plusF_bd x (timesF y k)
      have hN := hS.out.set j (x := plusF x (timesF y k)) (by constructor <;> omega)
      rw [mixJ_set hlx.out (zero_len n) hlt hat] at hN
      have HN := hide hN.drew
      clear hxx hyy hat hN hS
      go_wp2_with fail
      refine still_tail 14 (by kernel_rfl) (by kernel_rfl) ?_
      simp only [List.take_succ_cons, List.take_zero, List.drop_succ_cons, List.drop_zero]
      iterate 11 still_step
      still_call (still_same (HT.out _))
      still_call (still_same (HP.out _))
      still_step
      refine wpStill_nil ?_
      go_wp2_with fail
      go_roundw
      case rel => exact ⟨j + 1, by omega, by go_num, HN.out⟩
      case measure => simp [intOf]; omega
    · obtain rfl : n = j := by omega
      rw [mixJ_all hlx.out (zero_len n)] at hS
      go_wp2_with fail
      go_ret
      exact ⟨_, rfl, hS.out.done⟩
end Go.Proofs.Ytlmkjfgomlamhaa
