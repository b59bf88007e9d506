/- IsShades, CountShades, PlaceOfWord: the walks of both texts, and that the two agree. -/
import Derived.Test.YtjamdnbabfodkaaMgA
import Derived.Test.YtjamdnbabfodkaaAppend
namespace Go.Proofs.Ytjamdnbabfodkaa
open Go.RowKit
set_option linter.unusedSimpArgs false
set_option linter.unusedVariables false
set_option maxRecDepth 20000

def countShadesF (n : Int) : Int := if n = 0 then 0 else if n = 1 then 2 else if n = 2 then 6 else if n = 3 then 20 else if n = 4 then 72 else -1



def placeGo : Int → List Int → Int
  | st, [] => st
  | st, x :: xs => if isLetterF x then placeGo (2 * st + 1 + x) xs else -1
def placeF (xs : List Int) : Int := if 5 < xs.length then -1 else placeGo 0 xs

set_option maxHeartbeats 400000 in
theorem impl_PlaceOfWord (A : Option Addr) (n c : Nat) (xs : List Int) (lo hi : Nat) (w : World) (h : Ints w lo hi A n c xs) :
    Calls Try.prog 40 #[.slice A n c] w fun e w' => e = .returned (.int .i64 (placeF xs)) ∧ w = w' := by
  have hm := h.max
  have hcp := h.cap
  by_cases h5 : 5 < n
  · have hF : Hid (placeF xs = -1) := by show _ = _; unfold placeF; rw [if_pos (by have := h.len; omega)]
    go_enter Try.func40, Try.ntmps40
    go_wp2
    go_ret
    exact ⟨ret_int hF.out.symm, rfl⟩
  · have hF : Hid (placeF xs = placeGo 0 (xs.drop 0)) := by show _ = _; unfold placeF; rw [if_neg (by have := h.len; omega)]; rfl
    go_enter Try.func40, Try.ntmps40
    go_wp2_with fail
    go_loop [3, 5, 11] (fun s x i => ∃ (k : Nat) (st : Int), k ≤ n ∧ i = .int .i64 k ∧ s = .int .i64 (st + 1) ∧ 0 ≤ st ∧ st + 2 ≤ 2 ^ (k+1) ∧ Hid (placeF xs = placeGo st (xs.drop k))) (fun _ _ i => n - (intOf i).toNat)
    case atStart => exact ⟨0, 0, by omega, rfl, rfl, by omega, by decide, hF⟩
    case round =>
      obtain ⟨k, st, hk, rfl, rfl, h0, h1, hrel⟩ := hrel
      have hp : (2:Int)^(k+2) = 2 * 2^(k+1) := by rw [Int.pow_succ]; omega
      have hp2 : (2:Int)^(k+1) ≤ 64 := by
        have : (2:Nat)^(k+1) ≤ 2^6 := Nat.pow_le_pow_right (by omega) (by omega)
        exact_mod_cast this
      have hp' := hide hp
      clear hp
      by_cases hlt : k < n
      · obtain ⟨ad, x, rfl, hc, hr, hd, _⟩ := h.at_ hlt
        clear hr
        by_cases hL : isLetterF x = true
        · have hL2 := (isLetterF_iff x).1 hL
          go_wp2_with (go_at_call 68; refine (impl_isLetter _ _).mono ?_; rintro e w' ⟨rfl, rfl⟩)
          go_round
          case rel => exact ⟨k + 1, 2 * st + 1 + x, by omega, by go_num, by congr 1; omega, by omega, by have := hp'.out; omega, by show _ = _; rw [hrel.out, hd.out, placeGo, if_pos hL]⟩
          case measure => simp [intOf]; omega
        · have hL' : isLetterF x = false := by simpa using hL
          clear hL
          go_wp2_with (go_at_call 68; refine (impl_isLetter _ _).mono ?_; rintro e w' ⟨rfl, rfl⟩)
          go_ret
          exact ⟨ret_int (by rw [hrel.out, hd.out, placeGo, hL']; rfl), rfl⟩
      · obtain rfl : k = n := by omega
        have e := h.drop_end
        go_wp2
        go_ret
        exact ⟨ret_int (by rw [hrel.out, e.out, placeGo]), rfl⟩

set_option maxHeartbeats 400000 in
theorem spec_PlaceOfWord (A : Option Addr) (n c : Nat) (xs : List Int) (lo hi : Nat) (w : World) (h : Ints w lo hi A n c xs) :
    Calls Try.prog 27 #[.slice A n c] w fun e w' => e = .returned (.int .i64 (placeF xs)) ∧ w = w' := by
  have hm := h.max
  have hcp := h.cap
  by_cases h5 : 5 < n
  · have hF : Hid (placeF xs = -1) := by show _ = _; unfold placeF; rw [if_pos (by have := h.len; omega)]
    go_enter Try.func27, Try.ntmps27
    go_wp2
    go_ret
    exact ⟨ret_int hF.out.symm, rfl⟩
  · have hF : Hid (placeF xs = placeGo 0 (xs.drop 0)) := by show _ = _; unfold placeF; rw [if_neg (by have := h.len; omega)]; rfl
    go_enter Try.func27, Try.ntmps27
    go_wp2_with fail
    go_loop [3, 4] (fun s i => ∃ (k : Nat) (st : Int), k ≤ n ∧ i = .int .i64 k ∧ s = .int .i64 st ∧ 0 ≤ st ∧ st + 2 ≤ 2 ^ (k+1) ∧ Hid (placeF xs = placeGo st (xs.drop k))) (fun _ i => n - (intOf i).toNat)
    case atStart => exact ⟨0, 0, by omega, rfl, rfl, by omega, by decide, hF⟩
    case round =>
      obtain ⟨k, st, hk, rfl, rfl, h0, h1, hrel⟩ := hrel
      have hp : (2:Int)^(k+2) = 2 * 2^(k+1) := by rw [Int.pow_succ]; omega
      have hp2 : (2:Int)^(k+1) ≤ 64 := by
        have : (2:Nat)^(k+1) ≤ 2^6 := Nat.pow_le_pow_right (by omega) (by omega)
        exact_mod_cast this
      have hp' := hide hp
      clear hp
      by_cases hlt : k < n
      · obtain ⟨ad, x, rfl, hc, hr, hd, _⟩ := h.at_ hlt
        clear hr
        by_cases hL : 0 ≤ x ∧ x ≤ 1
        · have hd1 : decide (0 ≤ x) = true := by simpa using hL.1
          have hd2 : decide (x ≤ 1) = true := by simpa using hL.2
          go_wp2_with (go_at_call 48; refine (spec_l1In _ _ _ _).mono ?_; rintro e w' ⟨rfl, rfl⟩)
          go_round
          case rel => exact ⟨k + 1, 2 * st + 1 + x, by omega, by go_num, rfl, by omega, by have := hp'.out; omega, by show _ = _; rw [hrel.out, hd.out, placeGo, if_pos ((isLetterF_iff x).2 hL)]⟩
          case measure => simp [intOf]; omega
        · have hL' : Hid (isLetterF x = false) := by show _ = _; rw [Bool.eq_false_iff]; exact fun e => hL ((isLetterF_iff x).1 e)
          have hL2 : (decide (0 ≤ x) && decide (x ≤ 1)) = false := hL'.out
          clear hL
          go_wp2_with (go_at_call 48; refine (spec_l1In _ _ _ _).mono ?_; rintro e w' ⟨rfl, rfl⟩)
          go_ret
          exact ⟨ret_int (by rw [hrel.out, hd.out, placeGo, hL'.out]; rfl), rfl⟩
      · obtain rfl : k = n := by omega
        have e := h.drop_end
        go_wp2
        go_ret
        exact ⟨ret_int (by rw [hrel.out, e.out, placeGo]), rfl⟩



end Go.Proofs.Ytjamdnbabfodkaa
/- The word at a place: what it is, and the walks of both texts. -/
namespace Go.Proofs.Ytjamdnbabfodkaa
open Go.RowKit
set_option linter.unusedSimpArgs false
set_option linter.unusedVariables false
set_option maxRecDepth 20000

def wordL (p : Nat) : List Int := if p = 0 then [] else wordL ((p - 1) / 2) ++ [(((p - 1) % 2 : Nat) : Int)]
termination_by p
decreasing_by omega

theorem wordL_zero : wordL 0 = [] := by unfold wordL; simp
theorem wordL_pos {p : Nat} (h : 0 < p) : wordL p = wordL ((p - 1) / 2) ++ [(((p - 1) % 2 : Nat) : Int)] := by rw [wordL, if_neg (by omega)]
theorem wordL_len (p k : Nat) (h : p + 2 ≤ 2 ^ (k + 1)) : (wordL p).length ≤ k := by
  induction k generalizing p with
  | zero =>
    obtain rfl : p = 0 := by simp at h; omega
    rw [wordL_zero]; simp
  | succ k ih =>
    by_cases hp : p = 0
    · subst hp; rw [wordL_zero]; simp
    · rw [wordL_pos (by omega), List.length_append]
      have := ih ((p - 1) / 2) (by rw [Nat.pow_succ] at h; omega)
      simp; omega
theorem wordL_len5 {p : Nat} (h : p ≤ 62) : (wordL p).length ≤ 5 := wordL_len p 5 (by omega)
theorem wordL_bit (p : Nat) : ∀ x ∈ wordL p, x = 0 ∨ x = 1 := by
  induction p using Nat.strongRecOn with
  | ind p ih =>
    by_cases hp : p = 0
    · subst hp; rw [wordL_zero]; simp
    · rw [wordL_pos (by omega)]
      intro x hx
      rw [List.mem_append] at hx
      rcases hx with hx | hx
      · exact ih _ (by omega) x hx
      · simp at hx; omega
theorem placeGo_bd (xs : List Int) (hb : ∀ x ∈ xs, x = 0 ∨ x = 1) (k : Nat) (st : Int) (h0 : 0 ≤ st) (h1 : st + 2 ≤ 2 ^ (k + 1)) : 0 ≤ placeGo st xs ∧ placeGo st xs + 2 ≤ 2 ^ (k + xs.length + 1) := by
  induction xs generalizing k st with
  | nil => simpa [placeGo] using ⟨h0, h1⟩
  | cons x xs ih =>
    have hx := hb x (by simp)
    have hl : isLetterF x = true := (isLetterF_iff x).2 (by omega)
    rw [placeGo, if_pos hl]
    have h2 : (2 : Int) ^ (k + 1 + 1) = 2 ^ (k + 1) * 2 := Int.pow_succ _ _
    have := ih (fun y hy => hb y (by simp [hy])) (k + 1) (2 * st + 1 + x) (by omega) (by omega)
    rw [List.length_cons, show k + (xs.length + 1) + 1 = k + 1 + xs.length + 1 by omega]
    exact this
theorem placeF_bd {xs : List Int} (hb : ∀ x ∈ xs, x = 0 ∨ x = 1) (hl : xs.length ≤ 5) : 0 ≤ placeF xs ∧ placeF xs + 2 ≤ 2 ^ (xs.length + 1) := by
  unfold placeF
  rw [if_neg (by omega)]
  have := placeGo_bd xs hb 0 0 (by omega) (by omega)
  rwa [Nat.zero_add] at this

set_option maxRecDepth 100000 in
set_option maxHeartbeats 800000 in
theorem impl_wordAt (p : Nat) (w : World) (hp : p ≤ 62) :
    Calls Try.prog 38 #[.int .i64 p] w fun e w' => ∃ g c', e = .returned (.slice (some ⟨g, 0, none⟩) (wordL p).length c') ∧ OwnI w' w.heap.size w'.heap.size (some ⟨g, 0, none⟩) (wordL p).length c' (wordL p) ∧ Below w.heap.size w w' := by
  obtain ⟨i0, hi0, hz0, hz1, hz2⟩ := info_parts info_int
  have hl5 := wordL_len5 hp
  go_enter Try.func38, Try.ntmps38
  go_wp2
  go_loopw [3, 4] (fun v i wr => ∃ (q k g c' : Nat) (zs : List Int), q ≤ 62 ∧ i = .int .i64 ((q : Int) + 1) ∧ v = .slice (some ⟨g, 0, none⟩) k c' ∧ Hid (wordL p = wordL q ++ zs) ∧ wr.ownsRow w.heap.size 3 1 (.slice (some ⟨g, 0, none⟩) k c') k (zs.map (Value.int .i64)) ∧ Below w.heap.size w wr)
    (fun _ i _ => (intOf i).toNat)
  case atStart => exact ⟨p, 0, w.heap.size, 0, [], hp, rfl, rfl, by show _ = _; simp, by simpa using World.ownsRow_lit (size := 1) (e := 3) w #[] 0 (Nat.le_refl _) (by unfold maxLen; omega) rfl, (Below.refl _ _).alloc (Nat.le_refl _) _⟩
  case round =>
    obtain ⟨q, k, g, c', zs, hq, rfl, rfl, hz, hown, hb⟩ := hrel
    have hk : k ≤ 5 := by
      have h1 := congrArg List.length hz.out
      rw [List.length_append] at h1
      have h2 : zs.length = k := by simpa using hown.1
      omega
    have hsz := hb.size
    by_cases hlt : 0 < q
    · have hbl : w.heap.size ≤ g := (hown.lt g rfl).1
      have hz' := hz.out
      rw [wordL_pos hlt] at hz'
      have hz2' := hide hz'
      clear hz'
      have hn := World.ownsRow_lit (size := 1) (e := 3) wr #[.int .i64 (((q : Int) + 1) % 2)] 1 (Nat.le_refl _) (by unfold maxLen; omega) rfl
      have hl : (zs.map (Value.int .i64)).length = k * 1 := hown.1
      have hone : ∀ u ∈ zs.map (Value.int .i64), u.oneCell' = true := by
        intro u hu
        simp only [List.mem_map] at hu
        obtain ⟨x, _, rfl⟩ := hu
        rfl
      have hnews : ∀ ad, some (⟨g, 0, none⟩ : Addr) = some ad → ∀ j u, (zs.map (Value.int .i64))[j]? = some u → (wr.alloc (.cells #[.int .i64 (((q : Int) + 1) % 2)] 3)).cell? (ad.add j) = some u := by
        intro ad e j u hu
        injection e with e
        subst e
        exact (hown.alloc _).cells (g := g) rfl j u hu
      go_wp2_with (at_builtin; refine wpl_app rfl (.tmp 14) (.tmp 15) 22 rfl _ wr.heap.size 3 i0 (.int .i64 0) 1 8 Try.underlying22 hi0 hz0 hz1 hz2 rfl (by omega) (some ⟨wr.heap.size, 0, none⟩) 1 1 [.int .i64 (((q : Int) + 1) % 2)] rfl hn (some ⟨g, 0, none⟩) k c' (zs.map (Value.int .i64)) rfl hl hnews (by intro e; cases e) hone (by omega) (by omega) (by simp) ?_; intro A2 c2 w2 happ)
      have h2 : Below w.heap.size w w2 := happ.below (hb.alloc (by omega) _) (by simp; omega) (by intro ad e; injection e with e; subst e; exact hsz)
      obtain ⟨g2, e2, hg2⟩ : ∃ g2, A2 = some ⟨g2, 0, none⟩ ∧ wr.heap.size ≤ g2 := by
        rcases happ.1.2 with ⟨e, h0⟩ | ⟨g2, cap, cur, e, h1, _⟩
        · exact absurd h0 (by omega)
        · injection e with e
          exact ⟨g2, e, h1⟩
      subst e2
      have HS := hide (And.intro (owns_low happ.1 hsz) h2)
      clear happ hown hb hz hn h2 hnews hone hl
      go_wp2
      go_roundw
      case rel => exact ⟨(q - 1) / 2, 1 + k, g2, c2, (((q - 1) % 2 : Nat) : Int) :: zs, by omega, by go_num, rfl, by show _ = _; rw [hz2'.out]; simp, by
        have h1 := HS.out.1
        have e : ((q : Int) + 1) % 2 = (((q - 1) % 2 : Nat) : Int) := by omega
        rw [e] at h1
        exact h1, HS.out.2⟩
      case measure => simp [intOf]; omega
    · obtain rfl : q = 0 := by omega
      rw [wordL_zero, List.nil_append] at hz
      have hz' := hz.out
      subst hz'
      go_wp2
      go_ret
      have hk : k = (wordL p).length := by simpa using hown.1.symm
      subst hk
      exact ⟨g, c', rfl, ⟨hown, fun ad e => (owns_lt hown ad e).2, fun x hx => by rcases wordL_bit p x hx with h | h <;> subst h <;> constructor <;> omega⟩, hb⟩

set_option maxRecDepth 100000 in
set_option maxHeartbeats 800000 in
theorem spec_l11Word (p : Nat) (w : World) (hp : p ≤ 62) :
    Calls Try.prog 25 #[.int .i64 p] w fun e w' => ∃ g c', e = .returned (.slice (some ⟨g, 0, none⟩) (wordL p).length c') ∧ OwnI w' w.heap.size w'.heap.size (some ⟨g, 0, none⟩) (wordL p).length c' (wordL p) ∧ Below w.heap.size w w' := by
  obtain ⟨i0, hi0, hz0, hz1, hz2⟩ := info_parts info_int
  have hl5 := wordL_len5 hp
  go_enter Try.func25, Try.ntmps25
  go_wp2
  go_loopw [0, 3] (fun i v wr => ∃ (q k g c' : Nat) (zs : List Int), q ≤ 62 ∧ i = .int .i64 (q : Int) ∧ v = .slice (some ⟨g, 0, none⟩) k c' ∧ Hid (wordL p = wordL q ++ zs) ∧ wr.ownsRow w.heap.size 3 1 (.slice (some ⟨g, 0, none⟩) k c') k (zs.map (Value.int .i64)) ∧ Below w.heap.size w wr)
    (fun i _ _ => (intOf i).toNat)
  case atStart => exact ⟨p, 0, w.heap.size, 0, [], hp, rfl, rfl, by show _ = _; simp, by simpa using World.ownsRow_lit (size := 1) (e := 3) w #[] 0 (Nat.le_refl _) (by unfold maxLen; omega) rfl, (Below.refl _ _).alloc (Nat.le_refl _) _⟩
  case round =>
    obtain ⟨q, k, g, c', zs, hq, rfl, rfl, hz, hown, hb⟩ := hrel
    have hk : k ≤ 5 := by
      have h1 := congrArg List.length hz.out
      rw [List.length_append] at h1
      have h2 : zs.length = k := by simpa using hown.1
      omega
    have hsz := hb.size
    by_cases hlt : 0 < q
    · have hbl : w.heap.size ≤ g := (hown.lt g rfl).1
      have hz' := hz.out
      rw [wordL_pos hlt] at hz'
      have hz2' := hide hz'
      clear hz'
      have hn := World.ownsRow_lit (size := 1) (e := 3) wr #[.int .i64 (((q : Int) - 1) % 2)] 1 (Nat.le_refl _) (by unfold maxLen; omega) rfl
      have hl : (zs.map (Value.int .i64)).length = k * 1 := hown.1
      have hone : ∀ u ∈ zs.map (Value.int .i64), u.oneCell' = true := by
        intro u hu
        simp only [List.mem_map] at hu
        obtain ⟨x, _, rfl⟩ := hu
        rfl
      have hnews : ∀ ad, some (⟨g, 0, none⟩ : Addr) = some ad → ∀ j u, (zs.map (Value.int .i64))[j]? = some u → (wr.alloc (.cells #[.int .i64 (((q : Int) - 1) % 2)] 3)).cell? (ad.add j) = some u := by
        intro ad e j u hu
        injection e with e
        subst e
        exact (hown.alloc _).cells (g := g) rfl j u hu
      go_wp2_with (at_builtin; refine wpl_app rfl (.tmp 10) (.tmp 11) 22 rfl _ wr.heap.size 3 i0 (.int .i64 0) 1 8 Try.underlying22 hi0 hz0 hz1 hz2 rfl (by omega) (some ⟨wr.heap.size, 0, none⟩) 1 1 [.int .i64 (((q : Int) - 1) % 2)] rfl hn (some ⟨g, 0, none⟩) k c' (zs.map (Value.int .i64)) rfl hl hnews (by intro e; cases e) hone (by omega) (by omega) (by simp) ?_; intro A2 c2 w2 happ)
      have h2 : Below w.heap.size w w2 := happ.below (hb.alloc (by omega) _) (by simp; omega) (by intro ad e; injection e with e; subst e; exact hsz)
      obtain ⟨g2, e2, hg2⟩ : ∃ g2, A2 = some ⟨g2, 0, none⟩ ∧ wr.heap.size ≤ g2 := by
        rcases happ.1.2 with ⟨e, h0⟩ | ⟨g2, cap, cur, e, h1, _⟩
        · exact absurd h0 (by omega)
        · injection e with e
          exact ⟨g2, e, h1⟩
      subst e2
      have HS := hide (And.intro (owns_low happ.1 hsz) h2)
      clear happ hown hb hz hn h2 hnews hone hl
      go_wp2
      go_roundw
      case rel => exact ⟨(q - 1) / 2, 1 + k, g2, c2, (((q - 1) % 2 : Nat) : Int) :: zs, by omega, by go_num, rfl, by show _ = _; rw [hz2'.out]; simp, by
        have h1 := HS.out.1
        have e : ((q : Int) - 1) % 2 = (((q - 1) % 2 : Nat) : Int) := by omega
        rw [e] at h1
        exact h1, HS.out.2⟩
      case measure => simp [intOf]; omega
    · obtain rfl : q = 0 := by omega
      rw [wordL_zero, List.nil_append] at hz
      have hz' := hz.out
      subst hz'
      go_wp2
      go_ret
      have hk : k = (wordL p).length := by simpa using hown.1.symm
      subst hk
      exact ⟨g, c', rfl, ⟨hown, fun ad e => (owns_lt hown ad e).2, fun x hx => by rcases wordL_bit p x hx with h | h <;> subst h <;> constructor <;> omega⟩, hb⟩

end Go.Proofs.Ytjamdnbabfodkaa
