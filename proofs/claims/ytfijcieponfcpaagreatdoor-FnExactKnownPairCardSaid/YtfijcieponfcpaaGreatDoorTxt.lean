/- Texts of numbers: the plain laws. -/
import Derived.Test.YtfijcieponfcpaaGreatDoorNumLaws
import Derived.Lib.Join
import Derived.Laws.Runes
namespace Go.Proofs.YtfijcieponfcpaaGreatDoor
open Go.RowKit
set_option linter.unusedSimpArgs false
set_option linter.unusedVariables false
set_option maxRecDepth 20000

/-! decimals -/
def dgB (n : Nat) : ByteArray := ⟨#[UInt8.ofNat (48 + n)]⟩
def decB (n : Nat) : ByteArray := if n < 10 then dgB n else decB (n / 10) ++ dgB (n % 10)
termination_by n
theorem decB_small {n : Nat} (h : n < 10) : decB n = dgB n := by rw [decB, if_pos h]
theorem decB_big {n : Nat} (h : ¬ n < 10) : decB n = decB (n / 10) ++ dgB (n % 10) := by rw [decB, if_neg h]
theorem dgB_size (n : Nat) : (dgB n).size = 1 := rfl
theorem decB_size_le : ∀ (m n : Nat), n < 10 ^ (m + 1) → (decB n).size ≤ m + 1
  | 0, n, h => by rw [decB_small (by simpa using h), dgB_size]; omega
  | m + 1, n, h => by
    by_cases hn : n < 10
    · rw [decB_small hn, dgB_size]; omega
    · rw [decB_big hn, ByteArray.size_append, dgB_size]
      have : n / 10 < 10 ^ (m + 1) := by
        rw [Nat.div_lt_iff_lt_mul (by omega)]
        rw [Nat.pow_succ] at h
        exact h
      have := decB_size_le m _ this
      omega
theorem decB_pos (n : Nat) : 0 < (decB n).size := by
  by_cases hn : n < 10
  · rw [decB_small hn, dgB_size]; omega
  · rw [decB_big hn, ByteArray.size_append, dgB_size]; omega

theorem encode_ascii (n : Nat) (h : n < 128) : Utf8.encode (n : Int) = ⟨#[UInt8.ofNat n]⟩ := by
  have hv : Utf8.valid (n : Int) = true := by rw [validRune_eq]; unfold validRune; simp; omega
  unfold Utf8.encode
  simp only [hv, if_true, Int.toNat_natCast, h]

/-! fractions -/
def slashB (b : Nat) : ByteArray := if b = 1 then ByteArray.empty else ⟨#[47]⟩ ++ decB b
def partF (n : Nat) (b : Nat) : Option ByteArray :=
  if n * b % 1000000271 ≤ 9999 then some (decB (n * b % 1000000271) ++ slashB b)
  else if 999990272 ≤ n * b % 1000000271 then some (⟨#[45]⟩ ++ decB (1000000271 - n * b % 1000000271) ++ slashB b)
  else none
def fmtFrom (n : Nat) (b : Nat) : ByteArray :=
  if b ≤ 9999 then (match partF n b with | some s => s | none => fmtFrom n (b + 1)) else ⟨#[35]⟩ ++ decB n
termination_by 10000 - b
theorem fmtFrom_some {n b : Nat} (h : b ≤ 9999) {s : ByteArray} (hp : partF n b = some s) : fmtFrom n b = s := by rw [fmtFrom, if_pos h, hp]
theorem fmtFrom_none {n b : Nat} (h : b ≤ 9999) (hp : partF n b = none) : fmtFrom n b = fmtFrom n (b + 1) := by rw [fmtFrom, if_pos h, hp]
theorem fmtFrom_end {n b : Nat} (h : ¬ b ≤ 9999) : fmtFrom n b = ⟨#[35]⟩ ++ decB n := by rw [fmtFrom, if_neg h]
theorem partF_size {n b : Nat} (hb : b ≤ 9999) {s : ByteArray} (h : partF n b = some s) : s.size ≤ 11 ∧ 0 < s.size := by
  have h1 : (slashB b).size ≤ 5 := by
    unfold slashB
    split
    · simp
    · have := decB_size_le 3 b (by omega)
      rw [ByteArray.size_append]
      show 1 + _ ≤ 5
      omega
  unfold partF at h
  split at h
  · injection h with h
    subst h
    have h2 := decB_size_le 3 (n * b % 1000000271) (by omega)
    have h3 := decB_pos (n * b % 1000000271)
    rw [ByteArray.size_append]
    omega
  · split at h
    · injection h with h
      subst h
      have h2 := decB_size_le 3 (1000000271 - n * b % 1000000271) (by omega)
      rw [ByteArray.size_append, ByteArray.size_append]
      show 1 + _ + _ ≤ 11 ∧ 0 < 1 + _ + _
      omega
    · cases h
theorem fmtFrom_size (n : Nat) (hn : n < 1000000271) : ∀ b, (fmtFrom n b).size ≤ 11 ∧ 0 < (fmtFrom n b).size := by
  intro b
  by_cases hb : b ≤ 9999
  · cases hp : partF n b with
    | some s => rw [fmtFrom_some hb hp]; exact partF_size hb hp
    | none => rw [fmtFrom_none hb hp]; exact fmtFrom_size n hn (b + 1)
  · rw [fmtFrom_end hb, ByteArray.size_append]
    have := decB_size_le 9 n (by omega)
    show 1 + _ ≤ 11 ∧ 0 < 1 + _
    omega
termination_by b => 10000 - b
def fmtF (n : Int) : ByteArray := if 0 ≤ n ∧ n < 1000000271 then fmtFrom n.toNat 1 else ByteArray.empty
theorem fmtF_size (n : Int) : (fmtF n).size ≤ 11 := by
  unfold fmtF
  split
  · exact (fmtFrom_size _ (by omega) 1).1
  · simp
/-- one number's text off the whole loop -/
theorem sub_slash (b : Nat) (hb : b = 1) : slashB b = ByteArray.empty := if_pos hb

/-! texts joined -/
def joinB (sep : ByteArray) (xs : List ByteArray) : ByteArray := ⟨(Lib.join (xs.map (·.data.toList)) sep.data.toList).toArray⟩
theorem joinB_data (sep : ByteArray) (xs : List ByteArray) : (joinB sep xs).data.toList = Lib.join (xs.map (·.data.toList)) sep.data.toList := rfl
theorem bytes_ext {a b : ByteArray} (h : a.data.toList = b.data.toList) : a = b := by
  cases a; cases b
  simpa using h
theorem append_data (a b : ByteArray) : (a ++ b).data.toList = a.data.toList ++ b.data.toList := by
  rw [ByteArray.data_append, Array.toList_append]
theorem joinB_nil (sep : ByteArray) : joinB sep [] = ByteArray.empty := rfl
theorem joinB_one (sep x : ByteArray) : joinB sep [x] = x := bytes_ext (by rw [joinB_data]; exact Lib.join_one _ _)
theorem joinB_snoc (sep : ByteArray) {xs : List ByteArray} (h : xs ≠ []) (x : ByteArray) : joinB sep (xs ++ [x]) = joinB sep xs ++ sep ++ x := by
  refine bytes_ext ?_
  rw [joinB_data, append_data, append_data, joinB_data]
  cases xs with
  | nil => exact absurd rfl h
  | cons y r =>
    rw [List.cons_append, List.map_cons, List.map_cons, Lib.join_cons, Lib.join_cons, List.map_append]
    simp [Lib.joinTail, List.append_assoc]
theorem joinB_cons (sep : ByteArray) {xs : List ByteArray} (h : xs ≠ []) (x : ByteArray) : (joinB sep (x :: xs)).data.toList = x.data.toList ++ sep.data.toList ++ (joinB sep xs).data.toList := by
  rw [joinB_data, joinB_data]
  cases xs with
  | nil => exact absurd rfl h
  | cons y r =>
    rw [List.map_cons, List.map_cons, Lib.join_cons, Lib.join_cons]
    simp [Lib.joinTail, List.append_assoc]
theorem joinB_take (sep : ByteArray) (xs : List ByteArray) (k : Nat) {x : ByteArray} (hx : xs[k]? = some x) (hk : 0 < k) : joinB sep (xs.take (k + 1)) = joinB sep (xs.take k) ++ sep ++ x := by
  rw [List.take_add_one, hx]
  refine joinB_snoc sep ?_ x
  intro e
  have h := congrArg List.length e
  have h2 : k < xs.length := (List.getElem?_eq_some_iff.1 hx).1
  rw [List.length_take, List.length_nil] at h
  omega
theorem joinB_take0 (sep : ByteArray) (xs : List ByteArray) {x : ByteArray} (hx : xs[0]? = some x) : joinB sep (xs.take 1) = x := by
  rw [List.take_add_one, hx]
  exact joinB_one sep x
theorem joinB_size (sep : ByteArray) (m : Nat) : ∀ (xs : List ByteArray), (∀ x ∈ xs, x.size ≤ m) → (joinB sep xs).size ≤ (m + sep.size) * xs.length
  | [], _ => by simp [joinB_nil]
  | [x], h => by
    have := h x (by simp)
    rw [joinB_one]
    simp
    omega
  | x :: y :: r, h => by
    have h1 := h x (by simp)
    have h2 := joinB_size sep m (y :: r) (fun z hz => h z (List.mem_cons_of_mem _ hz))
    have e : (joinB sep (x :: y :: r)).size = x.size + sep.size + (joinB sep (y :: r)).size := by
      rw [Lib.size_eq, joinB_cons sep (by simp) x, List.length_append, List.length_append, ← Lib.size_eq, ← Lib.size_eq, ← Lib.size_eq]
    rw [e, List.length_cons, Nat.mul_succ]
    omega
theorem joinB_take_le (sep : ByteArray) (xs : List ByteArray) (m : Nat) (h : ∀ x ∈ xs, x.size ≤ m) (k : Nat) : (joinB sep (xs.take k)).size ≤ (m + sep.size) * xs.length := by
  refine Nat.le_trans (joinB_size sep m _ (fun x hx => h x (List.mem_of_mem_take hx))) (Nat.mul_le_mul_left _ ?_)
  rw [List.length_take]
  omega
end Go.Proofs.YtfijcieponfcpaaGreatDoor
