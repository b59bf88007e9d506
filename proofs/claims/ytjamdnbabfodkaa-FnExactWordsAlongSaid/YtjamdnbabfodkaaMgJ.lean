/- Words (an order and its numbers): what they read as, their making, their checks, the statements' helpers on them. -/
import Derived.Test.YtjamdnbabfodkaaMgA
namespace Go.Proofs.Ytjamdnbabfodkaa
open Go.RowKit
set_option linter.unusedSimpArgs false
set_option linter.unusedVariables false
set_option maxRecDepth 20000

def cntN (o : Int) : Nat := 2 ^ (o.toNat + 1) - 1
theorem cntN_bd {o : Int} (h1 : o ≤ 5) : 1 ≤ cntN o ∧ cntN o ≤ 63 := by
  unfold cntN
  have h2 : 2 ^ (o.toNat + 1) ≤ 2 ^ 6 := Nat.pow_le_pow_right (by omega) (by omega)
  have h3 : 2 ^ 1 ≤ 2 ^ (o.toNat + 1) := Nat.pow_le_pow_right (by omega) (by omega)
  omega

theorem spec_l11Count (o : Int) (w : World) (h0 : 0 ≤ o) (h1 : o ≤ 5) :
    Calls Try.prog 49 #[.int .i64 o] w fun e w' => e = .returned (.int .i64 (cntN o)) ∧ w = w' := by
  obtain h | h | h | h | h | h : o = 0 ∨ o = 1 ∨ o = 2 ∨ o = 3 ∨ o = 4 ∨ o = 5 := by omega
  all_goals
    subst h
    go_enter Try.func49, Try.ntmps49
    go_wp2_with fail
    go_ret
    exact ⟨ret_int (by decide), rfl⟩
theorem impl_countWords (o : Int) (w : World) (h0 : 0 ≤ o) (h1 : o ≤ 5) :
    Calls Try.prog 60 #[.int .i64 o] w fun e w' => e = .returned (.int .i64 (cntN o)) ∧ w = w' := by
  obtain h | h | h | h | h | h : o = 0 ∨ o = 1 ∨ o = 2 ∨ o = 3 ∨ o = 4 ∨ o = 5 := by omega
  all_goals
    subst h
    go_enter Try.func60, Try.ntmps60
    go_wp2_with fail
    go_ret
    exact ⟨ret_int (by decide), rfl⟩
theorem impl_isWordOrder (n : Int) (w : World) :
    Calls Try.prog 59 #[.int .i64 n] w fun e w' => e = .returned (.bool (decide (0 ≤ n) && decide (n ≤ 5))) ∧ w = w' := by
  by_cases h0 : 0 ≤ n
  · go_enter Try.func59, Try.ntmps59
    go_wp2_with fail
    go_ret
    exact ⟨ret_bool (by simp [h0]), rfl⟩
  · have hb : decide (0 ≤ n) = false := by simpa using h0
    go_enter Try.func59, Try.ntmps59
    go_wp2_with fail
    go_ret
    exact ⟨ret_bool (by simp [hb]), rfl⟩

theorem replicate_rng (n : Nat) : ∀ x ∈ List.replicate n (0 : Int), R64 x := by
  intro x hx
  rw [List.mem_replicate] at hx
  rw [hx.2]
  constructor <;> omega

/-- A pair of an order and numbers; the zero value for what is none. -/
def unitF (o : Int) : Int × List Int := if 0 ≤ o ∧ o ≤ 5 then (o, (List.replicate (cntN o) 0).set 0 1) else (0, [])

def letterF (o l x : Int) : Int × List Int := if (1 ≤ o ∧ o ≤ 5) ∧ (0 ≤ l ∧ l ≤ 1) then (o, (List.replicate (cntN o) 0).set (1 + l.toNat) (resF x)) else (0, [])


end Go.Proofs.Ytjamdnbabfodkaa
/- WordsOk of both texts. -/
namespace Go.Proofs.Ytjamdnbabfodkaa
open Go.RowKit
set_option linter.unusedSimpArgs false
set_option linter.unusedVariables false
set_option maxRecDepth 20000

def wordsOkF (o : Int) (xs : List Int) : Bool := (decide (0 ≤ o) && decide (o ≤ 5)) && (decide (xs.length = cntN o) && allNumF xs)

set_option maxHeartbeats 400000 in
theorem impl_WordsOk (o : Int) (A : Option Addr) (n c : Nat) (xs : List Int) (lo hi : Nat) (w : World) (h : Ints w lo hi A n c xs) (hh : hi ≤ w.heap.size) :
    Calls Try.prog 34 #[.agg #[.int .i64 o, .slice A n c]] w fun e w' => e = .returned (.bool (wordsOkF o xs)) ∧ Below w.heap.size w w' := by
  have hm := h.max
  have hcp := h.cap
  have hb0 : Below w.heap.size w (w.alloc (.cells #[.int .i64 o, .slice A n c] 32)) := (Below.refl _ _).alloc (Nat.le_refl _) _
  have hI := hide (h.below hb0 hh)
  have hl := hide h.len
  by_cases hO : 0 ≤ o ∧ o ≤ 5
  · have hOb : (decide (0 ≤ o) && decide (o ≤ 5)) = true := by simp; omega
    obtain ⟨h0, h5⟩ := hO
    have hcb := cntN_bd h5
    by_cases hn : n = cntN o
    · have hF : Hid (wordsOkF o xs = allNumF xs) := by
        show _ = _
        rw [wordsOkF, hOb, hl.out, decide_eq_true hn]; rfl
      have hnb : (n == cntN o) = true := by rw [beq_iff_eq]; exact hn
      have hnb2 : ((n : Int) == ((cntN o : Nat) : Int)) = true := by rw [beq_iff_eq]; omega
      clear hn
      go_enter Try.func34, Try.ntmps34
      go_wp2_with fail
      go_quiet ((first
        | (go_at_call 59; first | exact quiet_left (impl_isWordOrder _ _) | exact quiet_add_left (impl_isWordOrder _ _))
        | (go_at_call 60; first | exact quiet_left (impl_countWords _ _ h0 h5) | exact quiet_add_left (impl_countWords _ _ h0 h5))
        | (go_at_call 61; first | exact quiet_left (impl_allNumbers _ _ _ _ _ _ _ (hI.out.same fun _ _ _ => rfl)) | exact quiet_add_left (impl_allNumbers _ _ _ _ _ _ _ (hI.out.same fun _ _ _ => rfl)))))
      go_wp2_with fail
      go_ret
      exact ⟨ret_bool hF.out.symm, below_drewN hb0 _⟩
    · have hF : Hid (wordsOkF o xs = false) := by
        show _ = _
        rw [wordsOkF, hOb, hl.out, decide_eq_false hn]; rfl
      have hnb : (n == cntN o) = false := by rw [beq_eq_false_iff_ne]; exact hn
      have hnb2 : ((n : Int) == ((cntN o : Nat) : Int)) = false := by rw [beq_eq_false_iff_ne]; omega
      clear hn
      go_enter Try.func34, Try.ntmps34
      go_wp2_with fail
      go_quiet ((first
        | (go_at_call 59; first | exact quiet_left (impl_isWordOrder _ _) | exact quiet_add_left (impl_isWordOrder _ _))
        | (go_at_call 60; first | exact quiet_left (impl_countWords _ _ h0 h5) | exact quiet_add_left (impl_countWords _ _ h0 h5))))
      go_wp2_with fail
      go_ret
      exact ⟨ret_bool hF.out.symm, below_drewN hb0 _⟩
  · have hOb : (decide (0 ≤ o) && decide (o ≤ 5)) = false := by
      rw [Bool.eq_false_iff]; intro e; simp at e; exact hO e
    have hF : Hid (wordsOkF o xs = false) := by
      show _ = _
      rw [wordsOkF, hOb]; rfl
    clear hO
    go_enter Try.func34, Try.ntmps34
    go_wp2_with fail
    go_quiet ((go_at_call 59; first | exact quiet_left (impl_isWordOrder _ _) | exact quiet_add_left (impl_isWordOrder _ _)))
    go_wp2_with fail
    go_ret
    exact ⟨ret_bool hF.out.symm, below_drewN hb0 _⟩

set_option maxHeartbeats 400000 in
theorem spec_WordsOk (o : Int) (A : Option Addr) (n c : Nat) (xs : List Int) (lo hi : Nat) (w : World) (h : Ints w lo hi A n c xs) (hh : hi ≤ w.heap.size) :
    Calls Try.prog 22 #[.agg #[.int .i64 o, .slice A n c]] w fun e w' => e = .returned (.bool (wordsOkF o xs)) ∧ Below w.heap.size w w' := by
  have hm := h.max
  have hcp := h.cap
  have hb0 : Below w.heap.size w (w.alloc (.cells #[.int .i64 o, .slice A n c] 32)) := (Below.refl _ _).alloc (Nat.le_refl _) _
  have hI := hide (h.below hb0 hh)
  have hl := hide h.len
  by_cases hO : 0 ≤ o ∧ o ≤ 5
  · have hOb : (decide (0 ≤ o) && decide (o ≤ 5)) = true := by simp; omega
    obtain ⟨h0, h5⟩ := hO
    have hcb := cntN_bd h5
    by_cases hn : n = cntN o
    · have hF : Hid (wordsOkF o xs = allNumF xs) := by
        show _ = _
        rw [wordsOkF, hOb, hl.out, decide_eq_true hn]; rfl
      have hnb : (n == cntN o) = true := by rw [beq_iff_eq]; exact hn
      have hnb2 : ((n : Int) == ((cntN o : Nat) : Int)) = true := by rw [beq_iff_eq]; omega
      clear hn
      go_enter Try.func22, Try.ntmps22
      go_wp2_with fail
      go_quiet ((first
        | (go_at_call 48; first | exact quiet_left (spec_l1In _ _ _ _) | exact quiet_add_left (spec_l1In _ _ _ _))
        | (go_at_call 49; first | exact quiet_left (spec_l11Count _ _ h0 h5) | exact quiet_add_left (spec_l11Count _ _ h0 h5))
        | (go_at_call 50; first | exact quiet_left (spec_l1All _ _ _ _ _ _ _ (hI.out.same fun _ _ _ => rfl)) | exact quiet_add_left (spec_l1All _ _ _ _ _ _ _ (hI.out.same fun _ _ _ => rfl)))))
      go_wp2_with fail
      go_ret
      exact ⟨ret_bool hF.out.symm, below_drewN hb0 _⟩
    · have hF : Hid (wordsOkF o xs = false) := by
        show _ = _
        rw [wordsOkF, hOb, hl.out, decide_eq_false hn]; rfl
      have hnb : (n == cntN o) = false := by rw [beq_eq_false_iff_ne]; exact hn
      have hnb2 : ((n : Int) == ((cntN o : Nat) : Int)) = false := by rw [beq_eq_false_iff_ne]; omega
      clear hn
      go_enter Try.func22, Try.ntmps22
      go_wp2_with fail
      go_quiet ((first
        | (go_at_call 48; first | exact quiet_left (spec_l1In _ _ _ _) | exact quiet_add_left (spec_l1In _ _ _ _))
        | (go_at_call 49; first | exact quiet_left (spec_l11Count _ _ h0 h5) | exact quiet_add_left (spec_l11Count _ _ h0 h5))))
      go_wp2_with fail
      go_ret
      exact ⟨ret_bool hF.out.symm, below_drewN hb0 _⟩
  · have hOb : (decide (0 ≤ o) && decide (o ≤ 5)) = false := by
      rw [Bool.eq_false_iff]; intro e; simp at e; exact hO e
    have hF : Hid (wordsOkF o xs = false) := by
      show _ = _
      rw [wordsOkF, hOb]; rfl
    clear hO
    go_enter Try.func22, Try.ntmps22
    go_wp2_with fail
    go_quiet ((go_at_call 48; first | exact quiet_left (spec_l1In _ _ _ _) | exact quiet_add_left (spec_l1In _ _ _ _)))
    go_wp2_with fail
    go_ret
    exact ⟨ret_bool hF.out.symm, below_drewN hb0 _⟩
end Go.Proofs.Ytjamdnbabfodkaa
