/- Texts of schemes: the plain laws. -/
import Derived.Test.YtppekbokaknocaaDoorTxtP
import Derived.Test.YtppekbokaknocaaDoorMoves
namespace Go.Proofs.YtppekbokaknocaaDoor
open Go.RowKit
set_option linter.unusedSimpArgs false
set_option linter.unusedVariables false
set_option maxRecDepth 20000

/-! texts of schemes, and reading them -/
def letB (x : Int) : ByteArray := ⟨#[UInt8.ofNat (97 + x.toNat)]⟩
def moveB (m : Int × Int) : ByteArray := letB m.1 ++ fmtF m.2
def fmtSchF (ms : List (Int × Int)) : ByteArray := if schemeOkF ms = true then joinB ⟨#[32]⟩ (ms.map moveB) else ByteArray.empty
theorem moveB_size (m : Int × Int) : (moveB m).size ≤ 12 := by
  have h := fmtF_size m.2
  rw [moveB, ByteArray.size_append]
  show 1 + _ ≤ 12
  omega
def wordF (s : List UInt8) : Option (Int × Int) :=
  match s with
  | [] => none
  | c :: r => if c.toNat = 97 ∨ c.toNat = 98 then (if (parF ⟨r.toArray⟩).2 = true then some ((c.toNat : Int) - 97, (parF ⟨r.toArray⟩).1) else none) else none
def wordsF : List (List UInt8) → Option (List (Int × Int))
  | [] => some []
  | s :: r => match wordF s with | none => none | some m => match wordsF r with | none => none | some ms => some (m :: ms)
def parSchF (s : ByteArray) : List (Int × Int) × Bool :=
  match wordsF (piecesF 32 s.data.toList) with
  | none => ([], false)
  | some ms => if schemeOkF ms = true then (ms, true) else ([], false)

theorem dec_no (x : UInt8) (hx : isDig x = false) (n : Nat) : x ∉ (decB n).data.toList := not_mem_dig (decL_digs n) hx
theorem slash_no (x : UInt8) (hx : isDig x = false) (h47 : x ≠ 47) (b : Nat) : x ∉ (slashB b).data.toList := by
  rw [slash_data]
  unfold slashL
  split
  · simp
  · simp only [List.mem_cons, not_or]
    exact ⟨h47, dec_no x hx b⟩
theorem part_no (x : UInt8) (hx : isDig x = false) (h47 : x ≠ 47) (h45 : x ≠ 45) {n b : Nat} {s : ByteArray} (h : partF n b = some s) : x ∉ s.data.toList := by
  have h2 := slash_no x hx h47 b
  rw [slash_data] at h2
  rcases part_data h with ⟨_, e⟩ | ⟨_, e⟩
  · rw [e]
    simp only [List.mem_append, not_or]
    exact ⟨dec_no x hx _, h2⟩
  · rw [e]
    simp only [List.mem_cons, List.mem_append, not_or]
    exact ⟨h45, dec_no x hx _, h2⟩
theorem from_no (x : UInt8) (hx : isDig x = false) (h47 : x ≠ 47) (h45 : x ≠ 45) (h35 : x ≠ 35) (n : Nat) : ∀ b, x ∉ (fmtFrom n b).data.toList := by
  intro b
  by_cases hb : b ≤ 9999
  · cases hp : partF n b with
    | some s => rw [fmtFrom_some hb hp]; exact part_no x hx h47 h45 hp
    | none => rw [fmtFrom_none hb hp]; exact from_no x hx h47 h45 h35 n (b + 1)
  · rw [fmtFrom_end hb, append_data]
    simp only [List.mem_append, not_or]
    exact ⟨by simpa using h35, dec_no x hx _⟩
termination_by b => 10000 - b
theorem fmtF_no32 (n : Int) : (32 : UInt8) ∉ (fmtF n).data.toList := by
  unfold fmtF
  split
  · exact from_no 32 (by decide) (by decide) (by decide) (by decide) _ _
  · show (32 : UInt8) ∉ []
    simp
theorem moveOk_iff (m : Int × Int) : moveOk m = true ↔ (m.1 = 0 ∨ m.1 = 1) ∧ 0 ≤ m.2 ∧ m.2 < 1000000271 := by
  unfold moveOk
  rw [Bool.and_eq_true, Bool.and_eq_true, isNumF_iff, decide_eq_true_eq, decide_eq_true_eq]
  omega
theorem movesGo_iff (ms : List (Int × Int)) : movesGo ms = true ↔ ∀ m ∈ ms, moveOk m = true := by
  induction ms with
  | nil => simp [movesGo]
  | cons m r ih =>
    rw [movesGo]
    constructor
    · intro h
      split at h
      · rename_i hm
        intro x hx
        rcases List.mem_cons.1 hx with rfl | hx
        · exact hm
        · exact ih.1 h x hx
      · cases h
    · intro h
      rw [if_pos (h m (by simp))]
      exact ih.2 fun x hx => h x (List.mem_cons_of_mem _ hx)
theorem moveB_data (m : Int × Int) : (moveB m).data.toList = UInt8.ofNat (97 + m.1.toNat) :: (fmtF m.2).data.toList := by rw [moveB, append_data]; rfl
theorem moveB_no32 {m : Int × Int} (h : moveOk m = true) : (32 : UInt8) ∉ (moveB m).data.toList := by
  obtain ⟨h1, _⟩ := (moveOk_iff m).1 h
  rw [moveB_data]
  simp only [List.mem_cons, not_or]
  refine ⟨?_, fmtF_no32 _⟩
  rcases h1 with h1 | h1 <;> (rw [h1]; decide)
theorem wordF_move {m : Int × Int} (h : moveOk m = true) : wordF (moveB m).data.toList = some m := by
  obtain ⟨h1, h2, h3⟩ := (moveOk_iff m).1 h
  rw [moveB_data]
  have e : (⟨(fmtF m.2).data.toList.toArray⟩ : ByteArray) = fmtF m.2 := bytes_ext (by simp)
  have ep := parF_fmt h2 h3
  unfold wordF
  simp only [e, ep, if_true]
  rcases h1 with h1 | h1
  · rw [h1, if_pos (by decide)]
    have : m = (0, m.2) := by rw [← h1]
    rw [this]
    rfl
  · rw [h1, if_pos (by decide)]
    have : m = (1, m.2) := by rw [← h1]
    rw [this]
    rfl
theorem wordsF_moves : ∀ {ms : List (Int × Int)}, (∀ m ∈ ms, moveOk m = true) → wordsF (ms.map fun m => (moveB m).data.toList) = some ms
  | [], _ => rfl
  | m :: r, h => by
    rw [List.map_cons, wordsF, wordF_move (h m (by simp)), wordsF_moves fun x hx => h x (List.mem_cons_of_mem _ hx)]
theorem pieces_join {x : UInt8} : ∀ {xs : List ByteArray}, xs ≠ [] → (∀ y ∈ xs, x ∉ y.data.toList) → piecesF x (joinB ⟨#[x]⟩ xs).data.toList = xs.map (·.data.toList)
  | [], h, _ => absurd rfl h
  | [y], _, h => by rw [joinB_one, piecesF_none (h y (by simp))]; rfl
  | y :: z :: r, _, h => by
    rw [joinB_cons _ (by simp) y, List.append_assoc]
    show piecesF x (y.data.toList ++ x :: (joinB ⟨#[x]⟩ (z :: r)).data.toList) = _
    rw [piecesF_hit _ (h y (by simp)), pieces_join (by simp) fun u hu => h u (List.mem_cons_of_mem _ hu)]
    rfl
theorem ok_moves {ms : List (Int × Int)} (h : schemeOkF ms = true) : ∀ m ∈ ms, moveOk m = true := by
  unfold schemeOkF at h
  rw [Bool.and_eq_true] at h
  exact (movesGo_iff ms).1 h.2
theorem par_fmt {ms : List (Int × Int)} (h : schemeOkF ms = true) (hne : ms ≠ []) : parSchF (fmtSchF ms) = (ms, true) := by
  have hm := ok_moves h
  unfold parSchF fmtSchF
  rw [if_pos h, pieces_join (by simpa using hne) (by
    intro y hy
    obtain ⟨m, hm1, rfl⟩ := List.mem_map.1 hy
    exact moveB_no32 (hm m hm1)), List.map_map]
  show (match wordsF (ms.map fun m => (moveB m).data.toList) with | none => _ | some ms => _) = _
  rw [wordsF_moves hm]
  show (if _ then _ else _) = _
  rw [if_pos h]
theorem par_fmt_nil : parSchF (fmtSchF []) = ([], false) := by
  unfold parSchF fmtSchF
  rw [if_pos (by decide)]
  rfl
theorem wordF_some {s : List UInt8} {m : Int × Int} (h : wordF s = some m) : (moveB m).data.toList = s := by
  unfold wordF at h
  split at h
  · cases h
  · rename_i c r
    split at h
    · rename_i hc
      split at h
      · rename_i hp
        injection h with h
        subst h
        rw [moveB_data]
        have e : fmtF (parF ⟨r.toArray⟩).1 = ⟨r.toArray⟩ := by
          unfold parF at hp ⊢
          split
          · rename_i hq; exact hq.2
          · rename_i hq; rw [if_neg hq] at hp; cases hp
        rw [e]
        congr 1
        show UInt8.ofNat (97 + ((c.toNat : Int) - 97).toNat) = c
        have h97 : 97 ≤ c.toNat := by omega
        rw [show 97 + ((c.toNat : Int) - 97).toNat = c.toNat by omega]
        simp
      · cases h
    · cases h
theorem wordsF_some : ∀ {l : List (List UInt8)} {ms : List (Int × Int)}, wordsF l = some ms → l = ms.map fun m => (moveB m).data.toList
  | [], ms, h => by
    injection h with h
    subst h
    rfl
  | s :: r, ms, h => by
    rw [wordsF] at h
    split at h
    · cases h
    · rename_i m hm
      split at h
      · cases h
      · rename_i ms' hms
        injection h with h
        subst h
        rw [List.map_cons, ← wordsF_some hms, wordF_some hm]
theorem pieces_back {x : UInt8} : ∀ (s : List UInt8) (xs : List ByteArray), piecesF x s = xs.map (·.data.toList) → (joinB ⟨#[x]⟩ xs).data.toList = s
  | s, xs, h => by
    rcases split_at (x := x) s with hn | ⟨a, b, e, ha⟩
    · rw [piecesF_none hn] at h
      match xs, h with
      | [y], h =>
        rw [joinB_one]
        injection h with h
        exact h.symm
    · have hlt : b.length < s.length := by rw [e]; simp; omega
      rw [e, piecesF_hit b ha] at h
      match xs, h with
      | y :: r, h =>
        injection h with h1 h2
        have hr : r ≠ [] := by
          rintro rfl
          exact piecesF_ne x b h2
        have h1' : a = y.data.toList := h1
        rw [joinB_cons _ hr y, pieces_back b r h2, e, h1', List.append_assoc]
        rfl
termination_by s => s.length
theorem fmt_par {s : ByteArray} {ms : List (Int × Int)} (h : parSchF s = (ms, true)) : fmtSchF ms = s ∧ schemeOkF ms = true := by
  unfold parSchF at h
  split at h
  · cases h
  · rename_i ms' hw
    split at h
    · rename_i hok
      injection h with h1
      subst h1
      refine ⟨?_, hok⟩
      unfold fmtSchF
      rw [if_pos hok]
      refine bytes_ext (pieces_back _ _ ?_)
      rw [wordsF_some hw, List.map_map]
      rfl
    · cases h
theorem parSch_ok (s : ByteArray) : schemeOkF (parSchF s).1 = true := by
  unfold parSchF
  split
  · decide
  · split
    · assumption
    · decide
end Go.Proofs.YtppekbokaknocaaDoor
