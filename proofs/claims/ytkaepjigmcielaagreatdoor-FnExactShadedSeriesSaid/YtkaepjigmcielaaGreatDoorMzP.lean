/- Symplectic pairs: the walks of both texts. -/
import Derived.Test.YtkaepjigmcielaaGreatDoorMzO
import Derived.Test.YtkaepjigmcielaaGreatDoorMzK
import Derived.Test.YtkaepjigmcielaaGreatDoorMzG
import Derived.Lib.SliceRun
namespace Go.Proofs.YtkaepjigmcielaaGreatDoor
open Go.RowKit
set_option linter.unusedSimpArgs false
set_option linter.unusedVariables false
set_option maxRecDepth 20000

theorem slices_Equal (A : Option Addr) (n c : Nat) (xs : List Int) (lo hi : Nat) (B : Option Addr) (m d : Nat) (ys : List Int) (lo' hi' : Nat) (w : World) (h : Ints w lo hi A n c xs) (g : Ints w lo' hi' B m d ys) :
    Calls Tryz.prog 67 #[.slice A n c, .slice B m d] w fun e w' => e = .returned (.bool (decide (xs = ys))) ∧ ∃ q, w' = w.drewN q := by
  have hcp := h.cap
  have hm := h.max
  have gcp := g.cap
  have gm := g.max
  by_cases hnm : n = m
  · subst hnm
    go_enter Tryz.func67, Tryz.ntmps67
    go_wp2
    go_loopw [5, 13] (fun _ i wr => ∃ (k q : Nat), k ≤ n ∧ i = .int .i64 k ∧ wr = w.drewN q ∧ Hid (xs.take k = ys.take k)) (fun _ i _ => n - (intOf i).toNat)
    case atStart => exact ⟨0, 0, by omega, rfl, rfl, rfl⟩
    case round =>
      obtain ⟨k, q, hk, rfl, rfl, hr⟩ := hrel
      by_cases hlt : k < n
      · obtain ⟨ad, x, rfl, hc, _, _, hx⟩ := h.at_ hlt
        obtain ⟨ae, y, rfl, hd, _, _, hy⟩ := g.at_ hlt
        by_cases hxy : x = y
        · subst hxy
          go_wp2
          go_quiet (fail)
          go_wp2
          go_roundw
          case rel => exact ⟨k + 1, _, by omega, by go_num, rfl, take_snoc_eq hr.out hx.out hy.out⟩
          case measure => simp [intOf]; omega
        · have hne : (x != y) = true := by simpa using hxy
          have hF : Hid (¬ xs = ys) := fun e => by
            have h1 := hx.out
            rw [e, hy.out] at h1
            exact hxy (by injection h1 with h1; exact h1.symm)
          clear hxy
          go_wp2
          go_quiet (fail)
          go_wp2
          go_ret
          exact ⟨ret_bool (by simpa using hF.out), _, World.drewN_drewN _ _ _⟩
      · obtain rfl : k = n := by omega
        go_wp2
        go_ret
        refine ⟨ret_bool ?_, _, rfl⟩
        have h1 := hr.out
        have h2 := h.len
        have h3 := g.len
        rw [List.take_of_length_le (by omega), List.take_of_length_le (by omega)] at h1
        simpa using h1
  · have hne : ((n : Int) != (m : Int)) = true := by simpa using (by omega : ¬ (n : Int) = m)
    have hF : Hid (¬ xs = ys) := fun e => hnm (by rw [← h.len, ← g.len, e])
    clear hnm
    go_enter Tryz.func67, Tryz.ntmps67
    go_wp2
    go_ret
    exact ⟨ret_bool (by simpa using hF.out), 0, rfl⟩

def lessSF : List Int → List Int → Bool
  | [], [] => false
  | [], _ :: _ => true
  | _ :: _, [] => false
  | x :: xs, y :: ys => if x = y then lessSF xs ys else decide (x < y)
theorem less_sameS (xs ys : List Int) : (!lessSF xs ys && !lessSF ys xs) = decide (xs = ys) := by
  induction xs generalizing ys with
  | nil => cases ys <;> rfl
  | cons x xs ih =>
    cases ys with
    | nil => rfl
    | cons y ys =>
      rw [lessSF, lessSF]
      by_cases h : x = y
      · subst h
        rw [if_pos rfl, if_pos rfl, ih]
        simp
      · rw [if_neg h, if_neg (Ne.symm h)]
        have : decide (x :: xs = y :: ys) = false := decide_eq_false (fun e => h (by injection e))
        rw [this]
        rcases (show x < y ∨ y < x by omega) with q | q
        · simp [q]
        · simp [q]

theorem spec_l2LessS (A : Option Addr) (n c : Nat) (xs : List Int) (lo hi : Nat) (B : Option Addr) (m d : Nat) (ys : List Int) (lo' hi' : Nat) (w : World) (h : Ints w lo hi A n c xs) (g : Ints w lo' hi' B m d ys) :
    Calls Tryz.prog 81 #[.slice A n c, .slice B m d] w fun e w' => e = .returned (.bool (lessSF xs ys)) ∧ ∃ q, w' = w.drewN q := by
  have hcp := h.cap
  have hm := h.max
  have gcp := g.cap
  have gm := g.max
  go_enter Tryz.func81, Tryz.ntmps81
  go_wp2
  go_loopw [5] (fun i wr => ∃ (k q : Nat), k ≤ n ∧ k ≤ m ∧ i = .int .i64 k ∧ wr = w.drewN q ∧ Hid (lessSF xs ys = lessSF (xs.drop k) (ys.drop k))) (fun i _ => n - (intOf i).toNat)
  case atStart => exact ⟨0, 0, by omega, by omega, rfl, rfl, rfl⟩
  case round =>
    obtain ⟨k, q, hk, hk2, rfl, rfl, hr⟩ := hrel
    by_cases hlt : k < n
    · by_cases hlt2 : k < m
      · obtain ⟨ad, x, rfl, hc, _, hdx, hx⟩ := h.at_ hlt
        obtain ⟨ae, y, rfl, hd, _, hdy, hy⟩ := g.at_ hlt2
        have hE : Hid (lessSF xs ys = if x = y then lessSF (xs.drop (k + 1)) (ys.drop (k + 1)) else decide (x < y)) := by
          show _ = _
          rw [hr.out, hdx.out, hdy.out, lessSF]
        by_cases hxy : x = y
        · have hE2 : Hid (lessSF xs ys = lessSF (xs.drop (k + 1)) (ys.drop (k + 1))) := hide (hE.out.trans (if_pos hxy))
          subst hxy
          clear hr hE hdx hdy
          go_wp2
          go_quiet (fail)
          go_wp2
          go_roundw
          case rel => exact ⟨k + 1, _, by omega, by omega, by go_num, rfl, hE2⟩
          case measure => simp [intOf]; omega
        · have hne : (x != y) = true := by simpa using hxy
          have hE2 : Hid (lessSF xs ys = decide (x < y)) := hide (hE.out.trans (if_neg hxy))
          clear hr hE hdx hdy hxy
          go_wp2
          go_quiet (fail)
          go_wp2
          go_quiet (fail)
          go_wp2
          go_ret
          exact ⟨ret_bool hE2.out.symm, _, by rw [World.drewN_drewN, World.drewN_drewN]⟩
      · obtain rfl : k = m := by omega
        have e := g.drop_end
        have hE2 : Hid (lessSF xs ys = decide (n < k)) := by
          show _ = _
          rw [hr.out, e.out, decide_eq_false (by omega)]
          obtain ⟨ad, x, _, _, _, hdx, _⟩ := h.at_ hlt
          rw [hdx.out]
          rfl
        clear hr
        go_wp2
        go_ret
        exact ⟨ret_bool hE2.out.symm, _, rfl⟩
    · obtain rfl : k = n := by omega
      have e := h.drop_end
      have hE2 : Hid (lessSF xs ys = decide (k < m)) := by
        show _ = _
        rw [hr.out, e.out]
        by_cases hlt2 : k < m
        · obtain ⟨ad, x, _, _, _, hdx, _⟩ := g.at_ hlt2
          rw [hdx.out, decide_eq_true (by omega)]
          rfl
        · obtain rfl : k = m := by omega
          rw [g.drop_end.out, decide_eq_false (by omega)]
          rfl
      clear hr
      go_wp2
      go_ret
      exact ⟨ret_bool hE2.out.symm, _, rfl⟩

theorem spec_l2Same (A : Option Addr) (n c : Nat) (xs : List Int) (lo hi : Nat) (B : Option Addr) (m d : Nat) (ys : List Int) (lo' hi' : Nat) (w : World) (h : Ints w lo hi A n c xs) (g : Ints w lo' hi' B m d ys) :
    Calls Tryz.prog 51 #[.slice A n c, .slice B m d] w fun e w' => e = .returned (.bool (decide (xs = ys))) ∧ ∃ q, w' = w.drewN q := by
  go_enter Tryz.func51, Tryz.ntmps51
  go_wp2_with fail
  refine (spec_l2LessS A n c xs lo hi B m d ys lo' hi' w h g).mono ?_
  rintro e w1 ⟨rfl, q, rfl⟩
  cases hx : lessSF xs ys with
  | true =>
    go_wp2_with fail
    go_ret
    exact ⟨ret_bool (by rw [← less_sameS, hx]; rfl), _, rfl⟩
  | false =>
    go_wp2_with fail
    refine (spec_l2LessS B m d ys lo' hi' A n c xs lo hi (w.drewN q) (g.same (fun _ _ _ => rfl)) (h.same (fun _ _ _ => rfl))).mono ?_
    rintro e w1 ⟨rfl, q2, rfl⟩
    go_wp2_with fail
    go_ret
    exact ⟨ret_bool (by rw [← less_sameS, hx]; simp), _, by first | exact rfl | exact World.drewN_drewN _ _ _⟩

end Go.Proofs.YtkaepjigmcielaaGreatDoor
/- slices.CompactFunc on rows of integers by slices.Equal: equal neighbours stand once. -/
namespace Go.Proofs.YtkaepjigmcielaaGreatDoor
open Go.RowKit
set_option linter.unusedSimpArgs false
set_option linter.unusedVariables false
set_option maxRecDepth 20000

theorem compGo_snoc : ∀ (l : List (List Int)) (a x : List Int), compGo a (l ++ [x]) = if (a :: l).getLast? = some x then compGo a l else compGo a l ++ [x]
  | [], a, x => by
    simp only [List.nil_append, compGo, List.getLast?_singleton, Option.some.injEq]
    by_cases h : x = a
    · simp [h]
    · simp [h, Ne.symm h]
  | b :: r, a, x => by
    rw [List.cons_append, compGo, compGo]
    have hl : (a :: b :: r).getLast? = (b :: r).getLast? := by simp [List.getLast?_cons]
    by_cases h : b = a
    · subst h
      rw [if_pos rfl, if_pos rfl, compGo_snoc r b x, hl]
    · rw [if_neg h, if_neg h, compGo_snoc r b x, hl]
      split <;> rfl
theorem comp_snoc {l : List (List Int)} (x : List Int) (h : l ≠ []) : compF (l ++ [x]) = if l.getLast? = some x then compF l else compF l ++ [x] := by
  cases l with
  | nil => exact absurd rfl h
  | cons a r =>
    rw [List.cons_append, compF, compF, compGo_snoc]
    split <;> rfl
theorem comp_step {xss : List (List Int)} {k : Nat} {x y : List Int} (hx : xss[k + 1]? = some x) (hy : xss[k]? = some y) : compF (xss.take (k + 2)) = if x = y then compF (xss.take (k + 1)) else compF (xss.take (k + 1)) ++ [x] := by
  have hl := (List.getElem?_eq_some_iff.1 hx).1
  have e1 : (xss.take (k + 1)).getLast? = some y := by
    rw [List.getLast?_eq_getElem?, List.length_take, Nat.min_eq_left (by omega), List.getElem?_take_of_lt (by omega)]
    exact hy
  rw [show k + 2 = (k + 1) + 1 from rfl, List.take_add_one, hx, Option.toList_some, comp_snoc x (by intro e; rw [e] at e1; cases e1), e1]
  by_cases h : x = y
  · simp [h]
  · rw [if_neg (by simpa using Ne.symm h), if_neg h]

theorem own_cut {w : World} {lo e g n c k : Nat} {vs : List Value} (h : w.ownsRow lo e 1 (.slice (some ⟨g, 0, none⟩) n c) n vs) (hk : k ≤ n) : w.ownsRow lo e 1 (.slice (some ⟨g, 0, none⟩) k c) k (vs.take k) := by
  have hl := own_len h
  rcases h.2 with ⟨e1, _⟩ | ⟨g', cap, cur, e1, h1, h2, h3, h4, h5, h6⟩
  · cases e1
  · injection e1 with e1 e2 e3
    injection e1 with e1
    injection e1 with e1
    subst e1 e3
    refine ⟨by simp [hl, hk], .inr ⟨g, c, cur, rfl, h1, h2, by omega, h4, h5, ?_⟩⟩
    rw [Nat.mul_one] at h6 ⊢
    rw [← h6, List.take_take, Nat.min_eq_left hk]
theorem own_cells {lo e g n c : Nat} : ∀ (zs : List Value) (o : Nat) {w : World} {vs : List Value}, w.ownsRow lo e 1 (.slice (some ⟨g, 0, none⟩) n c) n vs → ∃ vs', (w.setCells g o zs).ownsRow lo e 1 (.slice (some ⟨g, 0, none⟩) n c) n vs' ∧ vs'.take o = vs.take o
  | [], _, _, vs, h => ⟨vs, h, rfl⟩
  | z :: zs, o, w, vs, h => by
    obtain ⟨vs', h1, h2⟩ := own_cells zs (o + 1) (h.stored o z).1
    refine ⟨vs', h1, ?_⟩
    have h3 := congrArg (List.take o) h2
    rw [List.take_take, List.take_take, Nat.min_eq_left (by omega)] at h3
    rw [h3, List.take_set_of_le (by omega)]
theorem block_cells {g k : Nat} (hk : k ≠ g) : ∀ (zs : List Value) (o : Nat) {w : World}, (w.setCells g o zs).heap[k]? = w.heap[k]?
  | [], _, _ => rfl
  | z :: zs, o, w => (block_cells hk zs (o + 1)).trans (Below.heap_setCell _ _ _ _ hk)
theorem touch_cells {lo hi g : Nat} {a : World} (h1 : lo ≤ g) (h2 : g < hi) : ∀ (zs : List Value) (o : Nat) {w : World}, Touch lo hi a w → Touch lo hi a (w.setCells g o zs)
  | [], _, _, h => h
  | z :: zs, o, w, h => touch_cells h1 h2 zs (o + 1) (h.setCell (.inl ⟨h1, h2⟩) z)

theorem RowsI.same {w w' : World} {lo hi n c : Nat} {A : Option Addr} {vs : List Value} {xss : List (List Int)} (h : RowsI w lo hi A n c vs xss) (hs : Same lo hi w w') : RowsI w' lo hi A n c vs xss :=
  ⟨owns_same h.own fun ad e => hs _ (owns_lt h.own ad e).1 (h.lt ad e), h.lt, h.len, fun j xs hj => by
    obtain ⟨B1, m1, d1, l1, h1, e1, e2, e3, e4, e5, e6⟩ := h.row j xs hj
    exact ⟨B1, m1, d1, l1, h1, e1, e2.same (fun k k1 k2 => hs k (by omega) (by omega)), e3, e4, e5, e6⟩⟩
/-- a row stored once more at another place -/
theorem RowsI.again {w : World} {lo hi g n c : Nat} {vs : List Value} {xss : List (List Int)} (h : RowsI w lo hi (some ⟨g, 0, none⟩) n c vs xss) {k j : Nat} (hk : k < n) {xs : List Int} {v : Value} (hx : xss[j]? = some xs) (hv : vs[j]? = some v) :
    RowsI (w.setCell ⟨g, k, none⟩ v) lo hi (some ⟨g, 0, none⟩) n c (vs.set k v) (xss.set k xs) := by
  have hvl := h.vlen
  have hxl := h.len
  have key : ∀ (i : Nat) (ys : List Int), xss[i]? = some ys → ∃ (B : Option Addr) (m d l h : Nat), vs[i]? = some (Value.slice B m d) ∧ Ints (w.setCell ⟨g, k, none⟩ v) l h B m d ys ∧ lo ≤ l ∧ h ≤ hi ∧ (∀ ad, some (⟨g, 0, none⟩ : Addr) = some ad → h ≤ ad.block ∨ ad.block < l) ∧ ∀ ad, B = some ad → ad = ⟨ad.block, 0, none⟩ := by
    intro i ys hi
    obtain ⟨B, m, d, l, h', e1, e2, e3, e4, e5, e6⟩ := h.row i ys hi
    refine ⟨B, m, d, l, h', e1, e2.same (Same.setCell (p := ⟨g, k, none⟩) (Same.refl _ _ _) ?_ _), e3, e4, e5, e6⟩
    rcases e5 _ rfl with e7 | e7
    · exact .inr e7
    · exact .inl e7
  refine ⟨(h.own.stored k v).1, h.lt, by simpa using hxl, fun i ys hi => ?_⟩
  by_cases hik : i = k
  · subst hik
    rw [List.getElem?_set_self (by omega)] at hi
    injection hi with hi
    subst hi
    obtain ⟨B, m, d, l, h', e1, e2, e3⟩ := key j xs hx
    rw [hv] at e1
    injection e1 with e1
    exact ⟨B, m, d, l, h', by rw [List.getElem?_set_self (by omega), e1], e2, e3⟩
  · rw [List.getElem?_set_ne (by omega)] at hi
    obtain ⟨B, m, d, l, h', e1, e2⟩ := key i ys hi
    exact ⟨B, m, d, l, h', by rw [List.getElem?_set_ne (by omega)]; exact e1, e2⟩
theorem RowsI.cut {w : World} {lo hi g n c k : Nat} {vs : List Value} {xss : List (List Int)} (h : RowsI w lo hi (some ⟨g, 0, none⟩) n c vs xss) (hk : k ≤ n) (zs : List Value) : ∃ vs', RowsI (w.setCells g k zs) lo hi (some ⟨g, 0, none⟩) k c vs' (xss.take k) := by
  obtain ⟨vs', h1, h2⟩ := own_cells zs k h.own
  have hxl := h.len
  refine ⟨vs'.take k, own_cut h1 hk, h.lt, by simp; omega, fun j xs hj => ?_⟩
  have hjk : j < k := by
    have := (List.getElem?_eq_some_iff.1 hj).1
    simp at this
    omega
  rw [List.getElem?_take_of_lt hjk] at hj
  obtain ⟨B, m, d, l, h', e1, e2, e3, e4, e5, e6⟩ := h.row j xs hj
  refine ⟨B, m, d, l, h', ?_, e2.same (fun q q1 q2 => block_cells ?_ zs k), e3, e4, e5, e6⟩
  · rw [h2, List.getElem?_take_of_lt hjk]
    exact e1
  · have := e5 _ rfl
    simp only at this
    omega

/-- what the second loop keeps: the first k rows are the rows up to q without equal neighbours; from q - 1 on the rows are as they were -/
def CompI (xss ys : List (List Int)) (k q : Nat) : Prop := ys.take k = compF (xss.take q) ∧ ys.drop (q - 1) = xss.drop (q - 1)
theorem CompI.start {xss : List (List Int)} {k : Nat} {x : List Int} (hc : compF (xss.take (k + 1)) = xss.take (k + 1)) (hx : xss[k + 1]? = some x) (hy : xss[k]? = some x) : CompI xss xss (k + 1) (k + 2) :=
  ⟨by rw [comp_step hx hy, if_pos rfl, hc], rfl⟩
theorem CompI.at_ {xss ys : List (List Int)} {k q j : Nat} (h : CompI xss ys k q) (hj : q - 1 ≤ j) : ys[j]? = xss[j]? := by
  have := congrArg (fun l => l[j - (q - 1)]?) h.2
  simpa [List.getElem?_drop, show q - 1 + (j - (q - 1)) = j by omega] using this
theorem CompI.skip {xss ys : List (List Int)} {k q : Nat} {x : List Int} (h : CompI xss ys k (q + 1)) (hx : xss[q + 1]? = some x) (hy : xss[q]? = some x) : CompI xss ys k (q + 2) :=
  ⟨by rw [comp_step hx hy, if_pos rfl]; exact h.1, by
    have := congrArg (List.drop 1) h.2
    simpa [List.drop_drop] using this⟩
theorem CompI.keep {xss ys : List (List Int)} {k q : Nat} {x y : List Int} (h : CompI xss ys k (q + 1)) (hx : xss[q + 1]? = some x) (hy : xss[q]? = some y) (hne : x ≠ y) (hk : k ≤ q) (hl : ys.length = xss.length) : CompI xss (ys.set k x) (k + 1) (q + 2) := by
  have hq := (List.getElem?_eq_some_iff.1 hx).1
  refine ⟨?_, ?_⟩
  · rw [comp_step hx hy, if_neg hne, ← h.1, List.take_add_one, List.getElem?_set_self (by omega), List.take_set_of_le (Nat.le_refl _)]
    rfl
  · have := congrArg (List.drop 1) h.2
    rw [show q + 2 - 1 = q + 1 from rfl, List.drop_set_of_lt (by omega)]
    simpa [List.drop_drop] using this

set_option maxRecDepth 100000 in
set_option maxHeartbeats 4000000 in
theorem compact_rows {w : World} {lo hi g n c : Nat} {vs : List Value} {xss : List (List Int)} (hR : RowsI w lo hi (some ⟨g, 0, none⟩) n c vs xss) (hh : hi ≤ w.heap.size) :
    Calls Tryz.prog 66 #[.slice (some ⟨g, 0, none⟩) n c, .func (.func 67) #[] #[]] w fun e w' =>
      ∃ m vs', e = .returned (.slice (some ⟨g, 0, none⟩) m c) ∧ RowsI w' lo hi (some ⟨g, 0, none⟩) m c vs' (compF xss) ∧ Touch g (g + 1) w w' := by
  have hcb := hR.capb
  have hxl := hide hR.len
  have hgw : g < w.heap.size := by have := hR.lt _ rfl; simp only at this; omega
  have hEq : ∀ (A : Option Addr) (m d : Nat) (xs : List Int) (l h : Nat) (B : Option Addr) (m' d' : Nat) (ys : List Int) (l' h' : Nat) (W : World), Ints W l h A m d xs → Ints W l' h' B m' d' ys → Calls Tryz.prog 67 #[.slice A m d, .slice B m' d'] W fun e w' => e = .returned (.bool (decide (xs = ys))) ∧ ∃ q, w' = W.drewN q :=
    fun A m d xs l h B m' d' ys l' h' W h1 h2 => slices_Equal A m d xs l h B m' d' ys l' h' W h1 h2
  have HEq := hide hEq
  clear hEq
  by_cases hn2 : n < 2
  · have he : compF xss = xss := by
      have := hxl.out
      match xss, this with
      | [], _ => rfl
      | [a], _ => rfl
      | _ :: _ :: _, e => simp at e; omega
    have HR := hide hR
    have HE := hide he
    clear hR he HEq
    go_enter Tryz.func66, Tryz.ntmps66
    go_wp2_with fail
    go_ret
    exact ⟨n, vs, rfl, by rw [HE.out]; exact HR.out, .refl _ _ _⟩
  · have HR := hide hR
    clear hR
    go_enter Tryz.func66, Tryz.ntmps66
    go_wp2_with fail
    go_loopw [5] (fun i wr => ∃ (k q : Nat), k + 1 ≤ n ∧ i = .int .i64 ((k + 1 : Nat) : Int) ∧ wr = w.drewN q ∧ Hid (compF (xss.take (k + 1)) = xss.take (k + 1))) (fun i _ => n - (intOf i).toNat)
    case atStart =>
      refine ⟨0, 0, by omega, rfl, rfl, ?_⟩
      show _ = _
      have := hxl.out
      match xss, this with
      | [], e => simp at e; omega
      | a :: r, _ => rfl
    case round =>
      obtain ⟨k, q, hk, rfl, rfl, hc⟩ := hrel
      by_cases hlt : k + 1 < n
      · obtain ⟨B1, m1, d1, l1, h1, xs, hc1, hI1, _, _, hx1, hv1, _⟩ := HR.out.at_ hlt
        obtain ⟨B2, m2, d2, l2, h2, ys, hc2, hI2, _, _, hx2, hv2, _⟩ := HR.out.at_ (k := k) (by omega)
        have hE := hide fun W (h : ∃ q, W = w.drewN q) => HEq.out B1 m1 d1 xs l1 h1 B2 m2 d2 ys l2 h2 W (hI1.same (by obtain ⟨q, rfl⟩ := h; exact fun _ _ _ => rfl)) (hI2.same (by obtain ⟨q, rfl⟩ := h; exact fun _ _ _ => rfl))
        have hwk : IntKind.i64.wrap (((k + 1 : Nat) : Int) - 1) = k := by rw [IntWalk.i64_in _ (by omega)]; omega
        have hk0 : (0 : Int) ≤ ((k + 1 : Nat) : Int) - 1 := by omega
        have hcc1 : w.cell? ⟨g, k + 1, none⟩ = some (.slice B1 m1 d1) := hc1
        clear hI1 hI2 hv1 hv2 hc1
        by_cases hxy : xs = ys
        · subst hxy
          have HE : Hid (∀ W, (∃ q, W = w.drewN q) → Calls Tryz.prog 67 #[.slice B1 m1 d1, .slice B2 m2 d2] W fun e w' => e = .returned (.bool true) ∧ ∃ q, w' = W.drewN q) := by
            have := hE.out
            rw [decide_eq_true rfl] at this
            exact this
          have HCI := hide (CompI.start hc.out hx1.out hx2.out)
          have hkc : ¬ (k + 1 = c) := by omega
          clear hE hc hx1 hx2
          go_wp2_with fail
          go_quiet ((go_at_call 67; first | exact Calls.quiet_of (HE.out _ ⟨_, rfl⟩) | exact quiet_add (HE.out _ ⟨_, rfl⟩)))
          go_wp2_with fail
          have HR0 := hide fun nq => HR.out.drewN nq
          have ht0 := hide fun nq => (Touch.refl g (g + 1) w).drewN nq
          clear hcc1 hc2 HE
          go_loopw [5, 7] (fun i j wr => ∃ (k' q : Nat) (vs' : List Value) (ys : List (List Int)), 1 ≤ k' ∧ k' + 1 ≤ k + 1 + (q + 1) ∧ k + 1 + (q + 1) ≤ n ∧ i = .int .i64 (k' : Int) ∧ j = .int .i64 ((q + 1 : Nat) : Int) ∧ Hid (RowsI wr lo hi (some ⟨g, 0, none⟩) n c vs' ys) ∧ Hid (CompI xss ys k' (k + 1 + (q + 1))) ∧ Hid (Touch g (g + 1) w wr)) (fun _ j _ => n - (k + 1) - (intOf j).toNat)
          case atStart => exact ⟨k + 1, 0, vs, xss, by omega, by omega, by omega, rfl, rfl, HR0.out _, HCI.out, ht0.out _⟩
          case round =>
            clear HR0 ht0 HCI
            obtain ⟨k', q, vs', ys, hk1, hkq, hqn, rfl, rfl, hR, hCI, hT⟩ := hrel
            by_cases hlt2 : q + 1 < n - (k + 1)
            · obtain ⟨B1, m1, d1, l1, h1, us, hc1, hI1, _, _, hx1, hv1, _⟩ := hR.out.at_ (k := k + 1 + (q + 1)) (by omega)
              obtain ⟨B2, m2, d2, l2, h2, ts, hc2, hI2, _, _, hx2, hv2, _⟩ := hR.out.at_ (k := k + 1 + q) (by omega)
              have hE := hide fun W (h : ∃ q, W = wr.drewN q) => HEq.out B1 m1 d1 us l1 h1 B2 m2 d2 ts l2 h2 W (hI1.same (by obtain ⟨q, rfl⟩ := h; exact fun _ _ _ => rfl)) (hI2.same (by obtain ⟨q, rfl⟩ := h; exact fun _ _ _ => rfl))
              have hwk : IntKind.i64.wrap (((q + 1 : Nat) : Int) - 1) = q := by rw [IntWalk.i64_in _ (by omega)]; omega
              have hk0 : (0 : Int) ≤ ((q + 1 : Nat) : Int) - 1 := by omega
              have ex1 := hx1.out
              rw [hCI.out.at_ (by omega)] at ex1
              have ex2 := hx2.out
              rw [hCI.out.at_ (by omega)] at ex2
              have EX1 := hide ex1
              have EX2 := hide ex2
              have hyl := hide hR.out.len
              have hfz := hide (hR.out.own.frozenAt k')
              have hck : ∃ v, wr.cell? ⟨g, k', none⟩ = some v := ⟨_, (hR.out.own.cellAt k' (by omega)).trans (List.getElem?_eq_getElem (by have := hR.out.vlen; omega))⟩
              clear hI1 hI2 ex1 ex2
              by_cases hxy : us = ts
              · subst hxy
                have HE : Hid (∀ W, (∃ q, W = wr.drewN q) → Calls Tryz.prog 67 #[.slice B1 m1 d1, .slice B2 m2 d2] W fun e w' => e = .returned (.bool true) ∧ ∃ q, w' = W.drewN q) := by
                  have := hE.out
                  rw [decide_eq_true rfl] at this
                  exact this
                have HC2 := hide (hCI.out.skip (q := k + 1 + q) EX1.out EX2.out)
                clear hE hck hv1 hv2 hx1 hx2
                go_wp2_with fail
                go_quiet ((go_at_call 67; first | exact Calls.quiet_of (HE.out _ ⟨_, rfl⟩) | exact quiet_add (HE.out _ ⟨_, rfl⟩)))
                go_wp2_with fail
                have HR2 := hide fun nq2 => hR.out.drewN nq2
                have HT2 := hide fun nq2 => hT.out.drewN nq2
                go_roundw
                case rel => exact ⟨k', q + 1, vs', ys, by omega, by omega, by omega, rfl, by go_num, HR2.out _, HC2.out, HT2.out _⟩
                case measure => simp [intOf]; omega
              · have HE : Hid (∀ W, (∃ q, W = wr.drewN q) → Calls Tryz.prog 67 #[.slice B1 m1 d1, .slice B2 m2 d2] W fun e w' => e = .returned (.bool false) ∧ ∃ q, w' = W.drewN q) := by
                  have := hE.out
                  rw [decide_eq_false hxy] at this
                  exact this
                have HC2 := hide (hCI.out.keep (q := k + 1 + q) EX1.out EX2.out hxy (by omega) (by rw [hyl.out, hxl.out]))
                have HRA := hide fun nq => (hR.out.drewN nq).again (k := k') (by omega) hx1.out hv1.out
                have HTA := hide fun nq => (hT.out.drewN nq).setCell (p := ⟨g, k', none⟩) (.inl ⟨Nat.le_refl _, Nat.lt_succ_self _⟩) (.slice B1 m1 d1)
                obtain ⟨v0, hck⟩ := hck
                have hfz := hfz.out
                clear hE hxy hv1 hv2 hx1 hx2
                go_wp2_with fail
                go_quiet ((go_at_call 67; first | exact Calls.quiet_of (HE.out _ ⟨_, rfl⟩) | exact quiet_add (HE.out _ ⟨_, rfl⟩)))
                go_wp2_with fail
                go_roundw
                case rel => exact ⟨k' + 1, q + 1, vs'.set k' (.slice B1 m1 d1), ys.set k' us, by omega, by omega, by omega, by go_num, by go_num, HRA.out _, HC2.out, HTA.out _⟩
                case measure => simp [intOf]; omega
            · have hq : k + 1 + (q + 1) = n := by omega
              obtain ⟨vs2, hcut⟩ := hR.out.cut (k := k') (by omega) (List.replicate (n - k') (.slice none 0 0))
              have hCI' := hCI.out.1
              rw [hq, List.take_of_length_le (Nat.le_of_eq hxl.out)] at hCI'
              rw [hCI'] at hcut
              have HCut := hide hcut
              have HTC := hide (touch_cells (Nat.le_refl g) (Nat.lt_succ_self g) (List.replicate (n - k') (.slice none 0 0)) k' hT.out)
              have hzv : ∀ w, (zeroValue 22).run Tryz.prog w = .ok (.slice none 0 0) w := Tryz.zeroValue22
              have hvl2 := hide hR.out.vlen
              have hclear := fun ty => Lib.run_clear_slice (P := Tryz.prog) wr 26 22 ty (.slice none 0 0) Tryz.underlying26 hzv rfl rfl g k' (n - k') (c - k') (by omega)
                (fun j hj => by rw [hR.out.own.cellAt (k' + j) (by omega), List.getElem?_eq_getElem (by have := hvl2.out; omega)]; rfl) (fun j hj => hR.out.own.frozenAt _)
              have hkc2 : ¬ (k' = c) := by omega
              have hkn2 : ¬ (k' = n) := by omega
              have ec1 : ((n - k' : Nat) : Int) = (n : Int) - k' := by omega
              clear hR hCI hCI' hcut hvl2
              go_wp2_with fail
              go_ret
              exact ⟨k', vs2, rfl, HCut.out, HTC.out⟩
        · have HE : Hid (∀ W, (∃ q, W = w.drewN q) → Calls Tryz.prog 67 #[.slice B1 m1 d1, .slice B2 m2 d2] W fun e w' => e = .returned (.bool false) ∧ ∃ q, w' = W.drewN q) := by
            have := hE.out
            rw [decide_eq_false hxy] at this
            exact this
          have HC2 : Hid (compF (xss.take (k + 2)) = xss.take (k + 2)) := by
            show _ = _
            rw [comp_step hx1.out hx2.out, if_neg hxy, hc.out, show k + 2 = (k + 1) + 1 from rfl, List.take_add_one (i := k + 1), hx1.out]
            rfl
          clear hE hxy hc hx1 hx2
          go_wp2_with fail
          go_quiet ((go_at_call 67; first | exact Calls.quiet_of (HE.out _ ⟨_, rfl⟩) | exact quiet_add (HE.out _ ⟨_, rfl⟩)))
          go_wp2_with fail
          go_roundw
          case rel => exact ⟨k + 1, _, by omega, by go_num, rfl, HC2.out⟩
          case measure => simp [intOf]; omega
      · obtain rfl : n = k + 1 := by omega
        have hc' := hc.out
        rw [List.take_of_length_le (Nat.le_of_eq hxl.out)] at hc'
        have HC2 := hide hc'
        have HR2 := hide (HR.out.drewN q)
        have ht := (Touch.refl g (g + 1) w).drewN q
        clear hc hc'
        go_wp2_with fail
        go_ret
        exact ⟨_, vs, rfl, by rw [HC2.out]; exact HR2.out, ht⟩
end Go.Proofs.YtkaepjigmcielaaGreatDoor
