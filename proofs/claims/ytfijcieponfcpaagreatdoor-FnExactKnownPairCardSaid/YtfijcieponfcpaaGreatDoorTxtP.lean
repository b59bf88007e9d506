/- Reading the texts of numbers: the plain laws. -/
import Derived.Test.YtfijcieponfcpaaGreatDoorTxt
import Derived.Lib.Split
namespace Go.Proofs.YtfijcieponfcpaaGreatDoor
open Go.RowKit
set_option linter.unusedSimpArgs false
set_option linter.unusedVariables false
set_option maxRecDepth 20000
/-! the bytes of decimals, and reading them -/
def decL (n : Nat) : List UInt8 := (decB n).data.toList
theorem decL_small {n : Nat} (h : n < 10) : decL n = [UInt8.ofNat (48 + n)] := by rw [decL, decB_small h]; rfl
theorem decL_big {n : Nat} (h : ¬ n < 10) : decL n = decL (n / 10) ++ [UInt8.ofNat (48 + n % 10)] := by
  rw [decL, decB_big h, ByteArray.data_append, Array.toList_append]; rfl
def isDig (c : UInt8) : Bool := decide (48 ≤ c.toNat) && decide (c.toNat ≤ 57)
def digsF : List UInt8 → Nat → Option Nat
  | [], n => some n
  | c :: r, n => if isDig c = true then digsF r (10 * n + (c.toNat - 48)) else none
theorem dig_ofNat {d : Nat} (h : d < 10) : isDig (UInt8.ofNat (48 + d)) = true ∧ (UInt8.ofNat (48 + d)).toNat = 48 + d := by
  have e : (UInt8.ofNat (48 + d)).toNat = 48 + d := by rw [UInt8.toNat_ofNat']; omega
  refine ⟨?_, e⟩
  unfold isDig
  rw [e]
  simp
  omega
theorem digsF_append (a b : List UInt8) (n : Nat) : digsF (a ++ b) n = (digsF a n).bind (digsF b) := by
  induction a generalizing n with
  | nil => rfl
  | cons c r ih =>
    rw [List.cons_append, digsF, digsF]
    split
    · exact ih _
    · rfl
theorem decL_lt (P : Nat → Prop) (h1 : ∀ n, n < 10 → P n) (h2 : ∀ n, ¬ n < 10 → P (n / 10) → P n) : ∀ n, P n := by
  intro n
  induction n using Nat.strongRecOn with
  | _ n ih =>
    by_cases h : n < 10
    · exact h1 n h
    · exact h2 n h (ih _ (by omega))
theorem digsF_dec : ∀ n, digsF (decL n) 0 = some n := by
  refine decL_lt _ (fun n h => ?_) (fun n h ih => ?_)
  · rw [decL_small h, digsF, if_pos (dig_ofNat h).1, (dig_ofNat h).2, digsF]
    congr 1; omega
  · have hd := dig_ofNat (d := n % 10) (by omega)
    rw [decL_big h, digsF_append, ih]
    show digsF _ _ = _
    rw [digsF, if_pos hd.1, hd.2, digsF]
    congr 1; omega
theorem decL_digs : ∀ n, ∀ c ∈ decL n, isDig c = true := by
  refine decL_lt _ (fun n h => ?_) (fun n h ih => ?_)
  · rw [decL_small h]
    intro c hc
    rw [List.mem_singleton.1 hc]
    exact (dig_ofNat h).1
  · rw [decL_big h]
    intro c hc
    rcases List.mem_append.1 hc with hc | hc
    · exact ih c hc
    · rw [List.mem_singleton.1 hc]
      exact (dig_ofNat (by omega)).1
theorem decL_ne : ∀ n, decL n ≠ [] := by
  refine decL_lt _ (fun n h => ?_) (fun n h ih => ?_)
  · rw [decL_small h]; simp
  · rw [decL_big h]; simp
theorem decL_head : ∀ n, 1 ≤ n → (decL n).head? ≠ some 48 := by
  refine decL_lt _ (fun n h h1 => ?_) (fun n h ih h1 => ?_)
  · rw [decL_small h]
    intro e
    have e' : UInt8.ofNat (48 + n) = 48 := by simpa using e
    have := (dig_ofNat h).2
    rw [e'] at this
    have : (48 : UInt8).toNat = 48 := rfl
    omega
  · have ih' := ih (by omega)
    rw [decL_big h]
    cases e : decL (n / 10) with
    | nil => exact absurd e (decL_ne _)
    | cons c r => rw [e] at ih'; simpa using ih'
theorem not_mem_dig {l : List UInt8} (h : ∀ c ∈ l, isDig c = true) {x : UInt8} (hx : isDig x = false) : x ∉ l := fun hm => by rw [h x hm] at hx; cases hx

/-- the program's reader of a decimal, and the reference's -/
def rdI (s : List UInt8) : Int := if s.length = 0 ∨ 10 < s.length ∨ (1 < s.length ∧ s.head? = some 48) then -1 else match digsF s 0 with | some n => (n : Int) | none => -1
def rdS (s : List UInt8) : Int := if s.length = 0 ∨ 10 < s.length then -1 else match digsF s 0 with | some n => (n : Int) | none => -1
theorem decL_one {n : Nat} (h : 1 < (decL n).length) : 1 ≤ n := by
  rcases Nat.eq_zero_or_pos n with rfl | h0
  · rw [decL_small (by omega)] at h; simp at h
  · exact h0
theorem rdI_dec {n : Nat} (h : (decL n).length ≤ 10) : rdI (decL n) = n := by
  unfold rdI
  rw [if_neg, digsF_dec]
  rintro (h1 | h1 | ⟨h1, h2⟩)
  · exact decL_ne n (List.eq_nil_of_length_eq_zero h1)
  · omega
  · exact decL_head n (decL_one h1) h2
theorem rdS_dec {n : Nat} (h : (decL n).length ≤ 10) : rdS (decL n) = n := by
  unfold rdS
  rw [if_neg, digsF_dec]
  rintro (h1 | h1)
  · exact decL_ne n (List.eq_nil_of_length_eq_zero h1)
  · omega
theorem digsF_bd : ∀ (s : List UInt8) (n m : Nat), digsF s n = some m → m < (n + 1) * 10 ^ s.length
  | [], n, m, h => by
    injection h with h
    subst h
    simp
  | c :: r, n, m, h => by
    rw [digsF] at h
    split at h
    · rename_i hc
      have := digsF_bd r _ m h
      simp only [isDig, Bool.and_eq_true, decide_eq_true_eq] at hc
      rw [List.length_cons, Nat.pow_succ]
      have h2 : (10 * n + (c.toNat - 48) + 1) * 10 ^ r.length ≤ (10 * (n + 1)) * 10 ^ r.length := Nat.mul_le_mul_right _ (by omega)
      have h3 : (n + 1) * (10 ^ r.length * 10) = (10 * (n + 1)) * 10 ^ r.length := by rw [Nat.mul_comm (10 ^ r.length) 10, ← Nat.mul_assoc, Nat.mul_comm (n + 1) 10]
      omega
    · cases h

/-! the pieces between two signs -/
def piecesF (x : UInt8) : List UInt8 → List (List UInt8)
  | [] => [[]]
  | c :: r => if c = x then [] :: piecesF x r else match piecesF x r with | p :: q => (c :: p) :: q | [] => [[c]]
theorem piecesF_ne (x : UInt8) (s : List UInt8) : piecesF x s ≠ [] := by
  cases s with
  | nil => simp [piecesF]
  | cons c r =>
    rw [piecesF]
    split
    · simp
    · split <;> simp
theorem piecesF_none {x : UInt8} : ∀ {s : List UInt8}, x ∉ s → piecesF x s = [s]
  | [], _ => rfl
  | c :: r, h => by
    simp only [List.mem_cons, not_or] at h
    rw [piecesF, if_neg (fun e => h.1 e.symm), piecesF_none h.2]
theorem piecesF_hit {x : UInt8} : ∀ {a : List UInt8} (b : List UInt8), x ∉ a → piecesF x (a ++ x :: b) = a :: piecesF x b
  | [], b, _ => by rw [List.nil_append, piecesF, if_pos rfl]
  | c :: r, b, h => by
    simp only [List.mem_cons, not_or] at h
    rw [List.cons_append, piecesF, if_neg (fun e => h.1 e.symm), piecesF_hit b h.2]
theorem cut_hit {x : UInt8} : ∀ {a : List UInt8} (b : List UInt8), x ∉ a → Lib.index (a ++ x :: b) [x] = (a.length : Int)
  | [], b, _ => by simp [Lib.index, List.isPrefixOf]
  | c :: r, b, h => by
    simp only [List.mem_cons, not_or] at h
    have hc : (x == c) = false := by simpa using h.1
    rw [List.cons_append, Lib.index, cut_hit b h.2]
    have : (((r.length : Int)) == -1) = false := by rw [beq_eq_false_iff_ne]; omega
    simp [List.isPrefixOf, hc, this]
theorem cut_miss {x : UInt8} : ∀ {a : List UInt8}, x ∉ a → Lib.index a [x] = -1
  | [], _ => by simp [Lib.index]
  | c :: r, h => by
    simp only [List.mem_cons, not_or] at h
    have hc : (x == c) = false := by simpa using h.1
    rw [Lib.index, cut_miss h.2]
    simp [List.isPrefixOf, hc]
theorem libcut_hit {x : UInt8} {a : List UInt8} (b : List UInt8) (h : x ∉ a) : Lib.cut (a ++ x :: b) [x] = (a, b, true) := by
  unfold Lib.cut
  rw [cut_hit b h, if_pos (by omega)]
  simp
theorem libcut_miss {x : UInt8} {a : List UInt8} (h : x ∉ a) : Lib.cut a [x] = (a, [], false) := by
  unfold Lib.cut
  rw [cut_miss h, if_neg (by omega)]
theorem split_at {x : UInt8} (s : List UInt8) : x ∉ s ∨ ∃ a b, s = a ++ x :: b ∧ x ∉ a := by
  induction s with
  | nil => exact .inl (by simp)
  | cons c r ih =>
    by_cases hc : c = x
    · exact .inr ⟨[], r, by rw [hc]; rfl, by simp⟩
    · rcases ih with h | ⟨a, b, e, h⟩
      · exact .inl (by simp only [List.mem_cons, not_or]; exact ⟨fun e => hc e.symm, h⟩)
      · exact .inr ⟨c :: a, b, by rw [e]; rfl, by simp only [List.mem_cons, not_or]; exact ⟨fun e => hc e.symm, h⟩⟩

/-! every number from 1 to 9999 times its power P-2 is 1 -/
def pwGo : Nat → Nat → Nat → Nat → Nat
  | 0, _, _, acc => acc
  | f + 1, a, k, acc => pwGo f (a * a % 1000000271) (k / 2) (bif k % 2 == 1 then acc * a % 1000000271 else acc)
def chkTo : Nat → Nat → Bool
  | _, 0 => true
  | lo, n + 1 => bif pwGo 30 (lo + n) 1000000269 1 * (lo + n) % 1000000271 == 1 then chkTo lo n else false
theorem chkTo_mem {lo : Nat} : ∀ {n : Nat}, chkTo lo n = true → ∀ b, lo ≤ b → b < lo + n → pwGo 30 b 1000000269 1 * b % 1000000271 = 1
  | 0, _, b, h1, h2 => by omega
  | n + 1, h, b, h1, h2 => by
    rw [chkTo] at h
    cases hc : (pwGo 30 (lo + n) 1000000269 1 * (lo + n) % 1000000271 == 1) with
    | false => rw [hc] at h; cases h
    | true =>
      rw [hc] at h
      by_cases hb : b = lo + n
      · subst hb; simpa using hc
      · exact chkTo_mem (n := n) h b h1 (by omega)
theorem chk0 : chkTo 1 2500 = true := by decide +kernel
theorem chk1 : chkTo 2501 2500 = true := by decide +kernel
theorem chk2 : chkTo 5001 2500 = true := by decide +kernel
theorem chk3 : chkTo 7501 2499 = true := by decide +kernel
theorem npow_mod (a n : Nat) : (a % 1000000271) ^ n % 1000000271 = a ^ n % 1000000271 := by
  induction n with
  | zero => simp
  | succ n ih => rw [Nat.pow_succ, Nat.pow_succ, Nat.mul_mod, ih, Nat.mod_mod, ← Nat.mul_mod]
theorem pwGo_eq : ∀ (f a k acc : Nat), k < 2 ^ f → pwGo f a k acc % 1000000271 = a ^ k * acc % 1000000271
  | 0, a, k, acc, h => by
    obtain rfl : k = 0 := by simpa using h
    simp [pwGo]
  | f + 1, a, k, acc, h => by
    rw [Nat.pow_succ] at h
    rw [pwGo, pwGo_eq f _ _ _ (by omega)]
    have e : a ^ k = (a * a) ^ (k / 2) * a ^ (k % 2) := by
      rw [← Nat.pow_two, ← Nat.pow_mul, ← Nat.pow_add, Nat.div_add_mod]
    rw [Nat.mul_mod, npow_mod, e]
    rcases Nat.mod_two_eq_zero_or_one k with h0 | h0
    · rw [h0, ← Nat.mul_mod]
      simp
    · rw [h0, Nat.pow_one]
      simp only [beq_self_eq_true, cond_true]
      rw [Nat.mod_mod, Nat.mul_assoc, Nat.mul_mod ((a * a) ^ (k / 2)) (a * acc), Nat.mul_comm a acc]

/-! a fraction is what its parts say -/
theorem chk_all (b : Nat) (h1 : 1 ≤ b) (h2 : b ≤ 9999) : pwGo 30 b 1000000269 1 * b % 1000000271 = 1 := by
  by_cases h : b < 2501
  · exact chkTo_mem chk0 b h1 (by omega)
  · by_cases h' : b < 5001
    · exact chkTo_mem chk1 b (by omega) (by omega)
    · by_cases h'' : b < 7501
      · exact chkTo_mem chk2 b (by omega) (by omega)
      · exact chkTo_mem chk3 b (by omega) (by omega)
theorem powF_nat (a : Int) (k : Nat) : powF a (k : Int) = a ^ k % 1000000271 := by
  unfold powF
  rw [if_neg (by omega), Int.toNat_natCast]
theorem cast_pow (b k : Nat) (h : b ^ k * b % 1000000271 = 1) : (b : Int) * ((b : Int) ^ k % 1000000271) % 1000000271 = 1 := by
  have h3 : (b : Int) ^ k * b % 1000000271 = 1 := by
    have e : (b : Int) ^ k * b = ((b ^ k * b : Nat) : Int) := by rw [Int.natCast_mul, Int.natCast_pow]
    rw [e]
    generalize b ^ k * b = t at h
    omega
  rw [Int.mul_emod, Int.emod_emod_of_dvd _ (by omega), ← Int.mul_emod, Int.mul_comm]
  exact h3
theorem pw_one (b k : Nat) (hk : k < 2 ^ 30) (h : pwGo 30 b k 1 * b % 1000000271 = 1) : b ^ k * b % 1000000271 = 1 := by
  rw [Nat.mul_mod, pwGo_eq 30 b k 1 hk, Nat.mul_one, ← Nat.mul_mod] at h
  exact h
theorem inv_mul (b : Nat) (h1 : 1 ≤ b) (h2 : b ≤ 9999) : (b : Int) * invF b % 1000000271 = 1 := by
  have h := cast_pow b _ (pw_one b _ (by decide) (chk_all b h1 h2))
  rw [← powF_nat] at h
  exact h
theorem frac_of {n b : Nat} (hn : n < 1000000271) (h1 : 1 ≤ b) (h2 : b ≤ 9999) : fracF ((n * b % 1000000271 : Nat) : Int) b = n := by
  have h := inv_mul b h1 h2
  unfold fracF timesF
  rw [Int.natCast_emod, Int.natCast_mul]
  show ((n : Int) * b) % 1000000271 * invF b % 1000000271 = n
  rw [Int.mul_emod, Int.emod_emod_of_dvd _ (by omega), ← Int.mul_emod, Int.mul_assoc, Int.mul_emod, h, Int.mul_one, Int.emod_emod_of_dvd _ (by omega)]
  omega
theorem frac_neg (a b : Int) : resF (-fracF a b) = fracF (-a) b := by
  unfold fracF timesF resF
  rw [Int.neg_mul]
  generalize a * invF b = t
  omega
theorem frac_of_neg {n b : Nat} (hn : n < 1000000271) (h1 : 1 ≤ b) (h2 : b ≤ 9999) : fracF (-((1000000271 - n * b % 1000000271 : Nat) : Int)) b = n := by
  have h := frac_of hn h1 h2
  rw [← fracF_res_l] at h ⊢
  have e : resF (-((1000000271 - n * b % 1000000271 : Nat) : Int)) = resF ((n * b % 1000000271 : Nat) : Int) := by
    have := Nat.mod_lt (n * b) (by decide : 0 < 1000000271)
    unfold resF
    omega
  rw [e]
  exact h

/-! what the program and what the reference reads, ahead of their last question -/
def preI (s : List UInt8) : Int :=
  if Lib.hasPrefix s [35] = true then rdI (s.drop 1)
  else
    let t := Lib.trimPrefix s [45]
    let a := rdI (Lib.cut t [47]).1
    let b := if (Lib.cut t [47]).2.2 = true then rdI (Lib.cut t [47]).2.1 else 1
    if a < 0 ∨ b < 1 then -1
    else if t.length < s.length then resF (-fracF a b) else fracF a b
def parF (s : ByteArray) : Int × Bool :=
  if 0 ≤ preI s.data.toList ∧ fmtF (preI s.data.toList) = s then (preI s.data.toList, true) else (0, false)

theorem dig_ne {c : UInt8} (h : isDig c = true) : c ≠ 35 ∧ c ≠ 45 ∧ c ≠ 47 := by
  refine ⟨?_, ?_, ?_⟩ <;> (rintro rfl; revert h; decide)
theorem dec_cons (n : Nat) : ∃ c r, decL n = c :: r ∧ isDig c = true := by
  cases e : decL n with
  | nil => exact absurd e (decL_ne n)
  | cons c r => exact ⟨c, r, rfl, decL_digs n c (by rw [e]; simp)⟩
theorem dec_no47 (n : Nat) : (47 : UInt8) ∉ decL n := not_mem_dig (decL_digs n) (by decide)
theorem decL_len {m n : Nat} (h : n < 10 ^ (m + 1)) : (decL n).length ≤ m + 1 := by
  have := decB_size_le m n h
  rw [decL, Array.length_toList]
  exact this
def slashL (b : Nat) : List UInt8 := if b = 1 then [] else 47 :: decL b
theorem slash_data (b : Nat) : (slashB b).data.toList = slashL b := by
  unfold slashB slashL
  split
  · rfl
  · rw [ByteArray.data_append, Array.toList_append]; rfl
theorem cut_slash (a b : Nat) : Lib.cut (decL a ++ slashL b) [47] = (decL a, if b = 1 then [] else decL b, decide (b ≠ 1)) := by
  unfold slashL
  by_cases h : b = 1
  · rw [if_pos h, if_pos h, List.append_nil, libcut_miss (dec_no47 a)]
    simp [h]
  · rw [if_neg h, if_neg h, libcut_hit _ (dec_no47 a)]
    simp [h]
theorem rd_slash {b : Nat} (h2 : b ≤ 9999) : (if decide (b ≠ 1) = true then rdI (if b = 1 then [] else decL b) else 1) = (b : Int) := by
  by_cases h : b = 1
  · subst h; simp
  · rw [if_pos (by simpa using h), if_neg h, rdI_dec (by have := decL_len (m := 3) (n := b) (by omega); omega)]
theorem preI_pos {n b : Nat} (hn : n < 1000000271) (h1 : 1 ≤ b) (h2 : b ≤ 9999) (h : n * b % 1000000271 ≤ 9999) : preI (decL (n * b % 1000000271) ++ slashL b) = n := by
  obtain ⟨c, r, e, hc⟩ := dec_cons (n * b % 1000000271)
  have hne := dig_ne hc
  have hp : ∀ x : UInt8, x ≠ c → Lib.hasPrefix (decL (n * b % 1000000271) ++ slashL b) [x] = false := fun x hx => by
    rw [e]
    simpa [Lib.hasPrefix, List.isPrefixOf] using hx
  unfold preI
  rw [if_neg (by rw [hp 35 (fun e => hne.1 e.symm)]; simp)]
  have ht : Lib.trimPrefix (decL (n * b % 1000000271) ++ slashL b) [45] = decL (n * b % 1000000271) ++ slashL b := by
    unfold Lib.trimPrefix
    rw [if_neg (by rw [hp 45 (fun e => hne.2.1 e.symm)]; simp)]
  simp only [ht, cut_slash, rd_slash h2]
  rw [rdI_dec (by have := decL_len (m := 3) (n := n * b % 1000000271) (by omega); omega), if_neg (by omega), if_neg (by omega)]
  exact frac_of hn h1 h2
theorem preI_neg {n b : Nat} (hn : n < 1000000271) (h1 : 1 ≤ b) (h2 : b ≤ 9999) (h : 999990272 ≤ n * b % 1000000271) : preI (45 :: (decL (1000000271 - n * b % 1000000271) ++ slashL b)) = n := by
  have hl := Nat.mod_lt (n * b) (by decide : 0 < 1000000271)
  unfold preI
  rw [if_neg (by simp [Lib.hasPrefix, List.isPrefixOf])]
  have ht : Lib.trimPrefix (45 :: (decL (1000000271 - n * b % 1000000271) ++ slashL b)) [45] = decL (1000000271 - n * b % 1000000271) ++ slashL b := by
    unfold Lib.trimPrefix
    rw [if_pos (by simp [Lib.hasPrefix, List.isPrefixOf])]
    rfl
  simp only [ht, cut_slash, rd_slash h2]
  rw [rdI_dec (by have := decL_len (m := 3) (n := 1000000271 - n * b % 1000000271) (by omega); omega), if_neg (by omega), if_pos (by simp), frac_neg]
  exact frac_of_neg hn h1 h2
theorem preI_hash {n : Nat} (hn : n < 1000000271) : preI (35 :: decL n) = n := by
  unfold preI
  rw [if_pos (by simp [Lib.hasPrefix, List.isPrefixOf])]
  exact rdI_dec (decL_len (m := 9) (by omega))
theorem part_data {n b : Nat} {s : ByteArray} (h : partF n b = some s) :
    (n * b % 1000000271 ≤ 9999 ∧ s.data.toList = decL (n * b % 1000000271) ++ slashL b) ∨ (999990272 ≤ n * b % 1000000271 ∧ s.data.toList = 45 :: (decL (1000000271 - n * b % 1000000271) ++ slashL b)) := by
  unfold partF at h
  split at h
  · rename_i h1
    injection h with h
    subst h
    exact .inl ⟨h1, by rw [ByteArray.data_append, Array.toList_append, slash_data]; rfl⟩
  · split at h
    · rename_i h1
      injection h with h
      subst h
      exact .inr ⟨h1, by rw [ByteArray.data_append, ByteArray.data_append, Array.toList_append, Array.toList_append, slash_data]; rfl⟩
    · cases h
theorem preI_from (n : Nat) (hn : n < 1000000271) : ∀ b, 1 ≤ b → preI (fmtFrom n b).data.toList = n := by
  intro b h1
  by_cases hb : b ≤ 9999
  · cases hp : partF n b with
    | some s =>
      rw [fmtFrom_some hb hp]
      rcases part_data hp with ⟨h, e⟩ | ⟨h, e⟩
      · rw [e]; exact preI_pos hn h1 hb h
      · rw [e]; exact preI_neg hn h1 hb h
    | none => rw [fmtFrom_none hb hp]; exact preI_from n hn (b + 1) (by omega)
  · rw [fmtFrom_end hb, ByteArray.data_append, Array.toList_append]
    exact preI_hash hn
termination_by b => 10000 - b
theorem preI_fmt {n : Int} (h0 : 0 ≤ n) (h1 : n < 1000000271) : preI (fmtF n).data.toList = n := by
  unfold fmtF
  rw [if_pos ⟨h0, h1⟩, preI_from n.toNat (by omega) 1 (by omega)]
  omega
theorem parF_fmt {n : Int} (h0 : 0 ≤ n) (h1 : n < 1000000271) : parF (fmtF n) = (n, true) := by
  unfold parF
  rw [preI_fmt h0 h1, if_pos ⟨h0, rfl⟩]

/-- what the reference reads: its pieces between '/' are p -/
def preS (s : List UInt8) : Int :=
  if s.head? = some 35 then rdS (s.drop 1)
  else
    let p := piecesF 47 (if s.head? = some 45 then s.drop 1 else s)
    let a := rdS (p.headD [])
    let b := if 1 < p.length then rdS (p.getD 1 []) else 1
    if a < 0 ∨ b < 0 ∨ 2 < p.length then -1
    else fracF ((if s.head? = some 45 then -1 else 1) * a) b
theorem pieces_slash (a b : Nat) : piecesF 47 (decL a ++ slashL b) = if b = 1 then [decL a] else [decL a, decL b] := by
  unfold slashL
  by_cases h : b = 1
  · rw [if_pos h, if_pos h, List.append_nil, piecesF_none (dec_no47 a)]
  · rw [if_neg h, if_neg h, piecesF_hit _ (dec_no47 a), piecesF_none (dec_no47 b)]
theorem preS_pos {n b : Nat} (hn : n < 1000000271) (h1 : 1 ≤ b) (h2 : b ≤ 9999) (h : n * b % 1000000271 ≤ 9999) : preS (decL (n * b % 1000000271) ++ slashL b) = n := by
  obtain ⟨c, r, e, hc⟩ := dec_cons (n * b % 1000000271)
  have hne := dig_ne hc
  have hh : (decL (n * b % 1000000271) ++ slashL b).head? = some c := by rw [e]; rfl
  have hf := frac_of hn h1 h2
  have r1 : rdS (decL (n * b % 1000000271)) = ((n * b % 1000000271 : Nat) : Int) := rdS_dec (by have := decL_len (m := 3) (n := n * b % 1000000271) (by omega); omega)
  have r2 : rdS (decL b) = (b : Int) := rdS_dec (by have := decL_len (m := 3) (n := b) (by omega); omega)
  unfold preS
  rw [hh, if_neg (by simpa using hne.1)]
  have h45 : ¬ (some c = some (45 : UInt8)) := by simpa using hne.2.1
  simp only [if_neg h45, pieces_slash]
  by_cases hb : b = 1
  · subst hb
    simp only [if_true, List.headD_cons, List.length_cons, List.length_nil, r1]
    rw [if_neg (by omega), if_neg (by omega), Int.one_mul]
    exact hf
  · simp only [if_neg hb, List.headD_cons, List.length_cons, List.length_nil, r1]
    have l2 : 1 < 0 + 1 + 1 := by omega
    simp only [if_pos l2, List.getD_cons_succ, List.getD_cons_zero, r2]
    rw [if_neg (by omega), Int.one_mul]
    exact hf
theorem preS_neg {n b : Nat} (hn : n < 1000000271) (h1 : 1 ≤ b) (h2 : b ≤ 9999) (h : 999990272 ≤ n * b % 1000000271) : preS (45 :: (decL (1000000271 - n * b % 1000000271) ++ slashL b)) = n := by
  have hl := Nat.mod_lt (n * b) (by decide : 0 < 1000000271)
  have hf := frac_of_neg hn h1 h2
  have r1 : rdS (decL (1000000271 - n * b % 1000000271)) = ((1000000271 - n * b % 1000000271 : Nat) : Int) := rdS_dec (by have := decL_len (m := 3) (n := 1000000271 - n * b % 1000000271) (by omega); omega)
  have r2 : rdS (decL b) = (b : Int) := rdS_dec (by have := decL_len (m := 3) (n := b) (by omega); omega)
  unfold preS
  rw [List.head?_cons, if_neg (by simp)]
  simp only [if_true, List.drop_one, List.tail_cons, pieces_slash]
  by_cases hb : b = 1
  · subst hb
    simp only [if_true, List.headD_cons, List.length_cons, List.length_nil, r1]
    rw [if_neg (by omega), if_neg (by omega), Int.neg_mul, Int.one_mul]
    exact hf
  · simp only [if_neg hb, List.headD_cons, List.length_cons, List.length_nil, r1]
    have l2 : 1 < 0 + 1 + 1 := by omega
    simp only [if_pos l2, List.getD_cons_succ, List.getD_cons_zero, r2]
    rw [if_neg (by omega), Int.neg_mul, Int.one_mul]
    exact hf
theorem preS_hash {n : Nat} (hn : n < 1000000271) : preS (35 :: decL n) = n := by
  unfold preS
  rw [List.head?_cons, if_pos rfl]
  exact rdS_dec (decL_len (m := 9) (by omega))
theorem preS_from (n : Nat) (hn : n < 1000000271) : ∀ b, 1 ≤ b → preS (fmtFrom n b).data.toList = n := by
  intro b h1
  by_cases hb : b ≤ 9999
  · cases hp : partF n b with
    | some s =>
      rw [fmtFrom_some hb hp]
      rcases part_data hp with ⟨h, e⟩ | ⟨h, e⟩
      · rw [e]; exact preS_pos hn h1 hb h
      · rw [e]; exact preS_neg hn h1 hb h
    | none => rw [fmtFrom_none hb hp]; exact preS_from n hn (b + 1) (by omega)
  · rw [fmtFrom_end hb, ByteArray.data_append, Array.toList_append]
    exact preS_hash hn
termination_by b => 10000 - b
theorem preS_fmt {n : Int} (h0 : 0 ≤ n) (h1 : n < 1000000271) : preS (fmtF n).data.toList = n := by
  unfold fmtF
  rw [if_pos ⟨h0, h1⟩, preS_from n.toNat (by omega) 1 (by omega)]
  omega
theorem fmtF_bad {n : Int} (h : ¬ (0 ≤ n ∧ n < 1000000271)) : fmtF n = ByteArray.empty := if_neg h
theorem parF_S {s : ByteArray} (hs : s ≠ ByteArray.empty) : parF s = if fmtF (preS s.data.toList) = s then (preS s.data.toList, true) else (0, false) := by
  unfold parF
  by_cases h : fmtF (preS s.data.toList) = s
  · have hv : 0 ≤ preS s.data.toList ∧ preS s.data.toList < 1000000271 := by
      by_cases hv : 0 ≤ preS s.data.toList ∧ preS s.data.toList < 1000000271
      · exact hv
      · rw [fmtF_bad hv] at h
        exact absurd h.symm hs
    have e := preI_fmt hv.1 hv.2
    rw [h] at e
    rw [if_pos h, e, if_pos ⟨hv.1, h⟩]
  · rw [if_neg h, if_neg]
    rintro ⟨h0, h1⟩
    have hv : preI s.data.toList < 1000000271 := by
      by_cases hv : preI s.data.toList < 1000000271
      · exact hv
      · rw [fmtF_bad (fun h => hv h.2)] at h1
        exact absurd h1.symm hs
    have e := preS_fmt h0 hv
    rw [h1] at e
    rw [e] at h
    exact h h1
theorem parF_empty : parF ByteArray.empty = (0, false) := by
  unfold parF
  rw [if_neg]
  rintro ⟨h0, _⟩
  revert h0
  show ¬ (0 ≤ preI [])
  simp [preI, Lib.hasPrefix, Lib.trimPrefix, Lib.cut, Lib.index, rdI]
theorem parF_bd {s : ByteArray} : 0 ≤ (parF s).1 ∧ (parF s).1 < 1000000271 := by
  unfold parF
  split
  · rename_i h
    refine ⟨h.1, ?_⟩
    by_cases hv : preI s.data.toList < 1000000271
    · exact hv
    · have h1 := h.2
      rw [fmtF_bad (fun h => hv h.2)] at h1
      have h0 := h.1
      rw [← h1] at h0
      exfalso
      revert h0
      show ¬ (0 ≤ preI [])
      simp [preI, Lib.hasPrefix, Lib.trimPrefix, Lib.cut, Lib.index, rdI]
  · simp

/-! the library's split at one byte -/
theorem count_eq {x : UInt8} : ∀ (f : Nat) (s : List UInt8), s.length < f → Lib.countFrom [x] f s + 1 = (piecesF x s).length
  | 0, s, h => by omega
  | f + 1, s, h => by
    rw [Lib.countFrom]
    rcases split_at (x := x) s with hn | ⟨a, b, rfl, ha⟩
    · rw [cut_miss hn, piecesF_none hn]; rfl
    · rw [cut_hit b ha, piecesF_hit b ha]
      have h1 : (((a.length : Int)) == -1) = false := by rw [beq_eq_false_iff_ne]; omega
      have h2 : (a ++ x :: b).drop (((a.length : Int)).toNat + [x].length) = b := by simp
      rw [h1, h2]
      simp only [List.length_append, List.length_cons] at h
      have := count_eq (x := x) f b (by omega)
      simp only [Bool.false_eq_true, if_false, List.length_cons]
      omega
theorem splitK_eq {x : UInt8} : ∀ (k : Nat) (s : List UInt8), (piecesF x s).length ≤ k + 1 → Lib.splitK [x] 0 k s = piecesF x s
  | 0, s, h => by
    rcases split_at (x := x) s with hn | ⟨a, b, rfl, ha⟩
    · rw [piecesF_none hn]; rfl
    · rw [piecesF_hit b ha] at h
      have : (piecesF x b).length ≠ 0 := by
        cases b with
        | nil => simp [piecesF]
        | cons c r => rw [piecesF]; split; simp; split <;> simp
      simp only [List.length_cons] at h
      omega
  | k + 1, s, h => by
    rw [Lib.splitK]
    rcases split_at (x := x) s with hn | ⟨a, b, rfl, ha⟩
    · rw [cut_miss hn, piecesF_none hn]; rfl
    · rw [piecesF_hit b ha] at h ⊢
      have h1 : (((a.length : Int)) == -1) = false := by rw [beq_eq_false_iff_ne]; omega
      have h2 : (a ++ x :: b).drop (((a.length : Int)).toNat + [x].length) = b := by simp
      have h3 : (a ++ x :: b).take (((a.length : Int)).toNat + 0) = a := by simp
      rw [cut_hit b ha, h1, h2, h3]
      simp only [List.length_cons] at h
      rw [splitK_eq k b (by omega)]
      rfl

theorem split_pieces (x : UInt8) (s : ByteArray) : (Lib.splitB ⟨#[x]⟩ 0 (Lib.countB s ⟨#[x]⟩) s).map (·.data.toList) = piecesF x s.data.toList := by
  rw [Lib.splitB_data]
  refine splitK_eq _ _ ?_
  rw [← count_eq (x := x) (s.data.toList.length + 1) _ (Nat.lt_succ_self _)]
  exact Nat.le_refl _
theorem split_count (x : UInt8) (s : ByteArray) : Lib.countB s ⟨#[x]⟩ + 1 = (piecesF x s.data.toList).length := count_eq (x := x) (s.data.toList.length + 1) _ (Nat.lt_succ_self _)
end Go.Proofs.YtfijcieponfcpaaGreatDoor
