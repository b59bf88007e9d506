/- Slices of moves (a struct of two integers): what such a slice reads as, the statements' helpers, SchemeOk of both texts. -/
import Derived.Test.YtppekbokaknocaaDoorIntS
import Derived.Test.YtppekbokaknocaaDoorAppend
namespace Go.Proofs.YtppekbokaknocaaDoor
open Go.RowKit
set_option linter.unusedSimpArgs false
set_option linter.unusedVariables false
set_option maxRecDepth 20000

structure Moves (w : World) (lo hi : Nat) (A : Option Addr) (n c : Nat) (ms : List (Int × Int)) : Prop where
  len : ms.length = n
  cap : n ≤ c
  max : c ≤ 9223372036854775807
  cells : 0 < n → ∃ ad, A = some ad ∧ lo ≤ ad.block ∧ ad.block < hi ∧ ∀ j m, ms[j]? = some m → w.cell? (ad.add (j * 2)) = some (.int .i64 m.1) ∧ w.cell? ⟨(ad.add (j * 2)).block, (ad.add (j * 2)).off + 1, none⟩ = some (.int .i64 m.2)
  rng : ∀ m ∈ ms, R64 m.1 ∧ R64 m.2

section
variable {w w' : World} {lo hi : Nat} {A : Option Addr} {n c : Nat} {ms : List (Int × Int)}
theorem Moves.at_ (h : Moves w lo hi A n c ms) {k : Nat} (hk : k < n) :
    ∃ ad x y, A = some ad ∧ w.cell? (ad.add (k * 2)) = some (.int .i64 x) ∧ w.cell? ⟨(ad.add (k * 2)).block, (ad.add (k * 2)).off + 1, none⟩ = some (.int .i64 y) ∧ R64 x ∧ R64 y ∧ Hid (ms.drop k = (x, y) :: ms.drop (k+1)) ∧ Hid (ms[k]? = some (x, y)) := by
  obtain ⟨ad, e, _, _, hc⟩ := h.cells (by omega)
  have hl : k < ms.length := by have := h.len; omega
  have h1 := hc k _ (List.getElem?_eq_getElem hl)
  have h2 := h.rng _ (List.getElem_mem hl)
  exact ⟨ad, ms[k].1, ms[k].2, e, h1.1, h1.2, h2.1, h2.2, List.drop_eq_getElem_cons hl, List.getElem?_eq_getElem hl⟩
theorem Moves.same (h : Moves w lo hi A n c ms) (hs : Same lo hi w w') : Moves w' lo hi A n c ms :=
  ⟨h.len, h.cap, h.max, fun hn => by
    obtain ⟨ad, e, h1, h2, hc⟩ := h.cells hn
    refine ⟨ad, e, h1, h2, fun j m hm => ?_⟩
    obtain ⟨a1, a2⟩ := hc j m hm
    exact ⟨(hs.cell (by rw [block_of_add]; exact h1) (by rw [block_of_add]; exact h2)).trans a1, (hs.cell (p := ⟨(ad.add (j * 2)).block, (ad.add (j * 2)).off + 1, none⟩) (by rw [block_of_add]; exact h1) (by rw [block_of_add]; exact h2)).trans a2⟩, h.rng⟩
theorem Moves.below {B : Nat} (h : Moves w lo hi A n c ms) (hb : Below B w w') (hB : hi ≤ B) : Moves w' lo hi A n c ms := h.same (.of_below hb hB)
theorem Moves.drop_end (h : Moves w lo hi A n c ms) : Hid (ms.drop n = []) := List.drop_eq_nil_of_le (Nat.le_of_eq h.len)
end

theorem info_move : (Tryd.prog.info? 38).map (fun i => (i.zero, i.size, i.bytes)) = some (some (.agg #[.int .i64 0, .int .i64 0]), 2, 16) := by kernel_rfl

def mcells (m : Int × Int) : List Value := [.int .i64 m.1, .int .i64 m.2]
theorem mcells_len (ms : List (Int × Int)) : (ms.flatMap mcells).length = ms.length * 2 := by
  induction ms with
  | nil => rfl
  | cons m r ih => rw [List.flatMap_cons, List.length_append, ih, List.length_cons, show (mcells m).length = 2 from rfl]; omega
theorem mcells_at (ms : List (Int × Int)) : ∀ (j : Nat) (m : Int × Int), ms[j]? = some m → (ms.flatMap mcells)[j * 2]? = some (.int .i64 m.1) ∧ (ms.flatMap mcells)[j * 2 + 1]? = some (.int .i64 m.2) := by
  induction ms with
  | nil => intro j m h; simp at h
  | cons q r ih =>
    intro j m h
    cases j with
    | zero =>
      simp at h
      subst h
      simp [List.flatMap_cons, mcells]
    | succ j =>
      have := ih j m (by simpa using h)
      rw [List.flatMap_cons, show (j + 1) * 2 = 2 + j * 2 from by omega, show 2 + j * 2 + 1 = 2 + (j * 2 + 1) from by omega]
      rw [show mcells q = [.int .i64 q.1, .int .i64 q.2] from rfl]
      rw [List.getElem?_append_right (by simp), List.getElem?_append_right (by simp)]
      simpa [Nat.add_sub_cancel_left, show 2 + (j * 2 + 1) - 2 = j * 2 + 1 from by omega] using this
theorem mcells_set (ms : List (Int × Int)) : ∀ (j : Nat) (x y : Int), j < ms.length → ((ms.flatMap mcells).set (j * 2) (.int .i64 x)).set (j * 2 + 1) (.int .i64 y) = (ms.set j (x, y)).flatMap mcells := by
  induction ms with
  | nil => intro j x y h; simp at h
  | cons q r ih =>
    intro j x y h
    cases j with
    | zero => simp [List.flatMap_cons, mcells]
    | succ j =>
      have := ih j x y (by simpa using h)
      rw [List.flatMap_cons, List.set_cons_succ, List.flatMap_cons, ← this, show (j + 1) * 2 = (j * 2 + 1) + 1 from by omega]
      simp [mcells]

/-- A slice of moves in a row of the call's own. -/
structure OwnM (w : World) (lo hi : Nat) (A : Option Addr) (n c : Nat) (ms : List (Int × Int)) : Prop where
  own : w.ownsRow lo 38 2 (.slice A n c) n (ms.flatMap mcells)
  lt : ∀ ad, A = some ad → ad.block < hi
  rng : ∀ m ∈ ms, R64 m.1 ∧ R64 m.2

section
variable {w w' : World} {lo hi : Nat} {A : Option Addr} {n c : Nat} {ms : List (Int × Int)}
theorem OwnM.len (h : OwnM w lo hi A n c ms) : ms.length = n := by
  have := h.own.1
  rw [mcells_len] at this
  omega
theorem OwnM.form (h : OwnM w lo hi A n c ms) (hn : 0 < n) : ∃ g, A = some ⟨g, 0, none⟩ ∧ lo ≤ g ∧ g < hi ∧ g < w.heap.size := by
  rcases h.own.2 with ⟨_, rfl⟩ | ⟨g, cap, cur, e, h1, h2, _⟩
  · omega
  · injection e with e1
    exact ⟨g, e1, h1, h.lt _ e1, (Array.getElem?_eq_some_iff.1 h2).1⟩
theorem OwnM.moves (h : OwnM w lo hi A n c ms) : Moves w lo hi A n c ms := by
  have hcm : n ≤ c ∧ c ≤ 9223372036854775807 := by
    rcases h.own.2 with ⟨e, rfl⟩ | ⟨g, cap, cur, e, _, _, h1, h2, _⟩
    · injection e with _ _ e3; omega
    · injection e with _ _ e3; unfold maxLen at h2; omega
  refine ⟨h.len, hcm.1, hcm.2, fun hn => ?_, h.rng⟩
  obtain ⟨g, rfl, h1, h2, _⟩ := h.form hn
  refine ⟨_, rfl, h1, h2, fun j m hm => ?_⟩
  obtain ⟨a1, a2⟩ := mcells_at ms j m hm
  have b1 := h.own.cells (g := g) rfl _ _ a1
  have b2 := h.own.cells (g := g) rfl _ _ a2
  refine ⟨b1, ?_⟩
  rw [Addr.add_lit] at b2
  rw [Addr.add_lit]
  exact b2
theorem OwnM.same (h : OwnM w lo hi A n c ms) (hs : Same lo hi w w') : OwnM w' lo hi A n c ms := by
  refine ⟨⟨h.own.1, ?_⟩, h.lt, h.rng⟩
  rcases h.own.2 with h2 | ⟨g, cap, cur, e, h1, h2, r⟩
  · exact .inl h2
  · have e' := e
    injection e' with e1
    exact .inr ⟨g, cap, cur, e, h1, (hs g h1 (h.lt _ e1)).trans h2, r⟩
theorem OwnM.below {B : Nat} (h : OwnM w lo hi A n c ms) (hb : Below B w w') (hB : hi ≤ B) : OwnM w' lo hi A n c ms := h.same (.of_below hb hB)
end

theorem take_set_m {ys xs : List (Int × Int)} {k : Nat} {x : Int × Int} (h : ys.take k = xs.take k) (hk : k < ys.length) (hx : xs[k]? = some x) : (ys.set k x).take (k+1) = xs.take (k+1) := by
  have h1 : (ys.set k x).take k = xs.take k := by rw [List.take_set_of_le (Nat.le_refl _), h]
  rw [List.take_add_one, List.take_add_one, h1, hx, List.getElem?_set_self hk]

theorem made_move (n : Nat) : (madeCells (Value.agg #[.int .i64 0, .int .i64 0]).cells (n * 2)).toList = (List.replicate n ((0, 0) : Int × Int)).flatMap mcells := by
  apply List.ext_getElem?
  intro j
  have hl : ((List.replicate n ((0, 0) : Int × Int)).flatMap mcells).length = n * 2 := by rw [mcells_len]; simp
  by_cases hj : j < n * 2
  · have e : ((List.replicate n ((0, 0) : Int × Int)).flatMap mcells)[j]? = some (.int .i64 0) := by
      have h1 := mcells_at (List.replicate n ((0, 0) : Int × Int)) (j / 2) (0, 0) (by rw [List.getElem?_replicate]; rw [if_pos (by omega)])
      rcases Nat.mod_two_eq_zero_or_one j with h0 | h0
      · have e2 : j = j / 2 * 2 := by omega
        rw [← e2] at h1; exact h1.1
      · have e2 : j = j / 2 * 2 + 1 := by omega
        rw [← e2] at h1; exact h1.2
    rw [e]
    simp only [madeCells, Value.cells]
    rcases Nat.mod_two_eq_zero_or_one j with h0 | h0 <;> simp [hj, h0]
  · rw [List.getElem?_eq_none (l := (List.replicate n ((0, 0) : Int × Int)).flatMap mcells) (by rw [hl]; omega)]
    simp [madeCells, hj]

theorem laws_eqMove (x y x' y' : Int) (w : World) :
    Calls Tryd.prog 24 #[.agg #[.int .i64 x, .int .i64 y], .agg #[.int .i64 x', .int .i64 y']] w fun e w' => e = .returned (.bool (decide ((x, y) = (x', y')))) ∧ Below w.heap.size w w' := by
  by_cases hx : x = x'
  · subst hx
    by_cases hy : y = y'
    · subst hy
      go_enter Tryd.func24, Tryd.ntmps24
      go_wp2_with fail
      go_ret
      refine ⟨ret_bool (by simp), ?_⟩
      repeat (first | exact Below.refl _ _ | refine Below.alloc ?_ (by simp; try omega) _)
    · have hyb : (y != y') = true := by simpa using hy
      have hF : Hid (¬ (x, y) = (x, y')) := fun e => hy (by injection e)
      clear hy
      go_enter Tryd.func24, Tryd.ntmps24
      go_wp2_with fail
      go_ret
      refine ⟨ret_bool (decide_eq_false hF.out).symm, ?_⟩
      repeat (first | exact Below.refl _ _ | refine Below.alloc ?_ (by simp; try omega) _)
  · have hxb : (x != x') = true := by simpa using hx
    have hF : Hid (¬ (x, y) = (x', y')) := fun e => hx (by injection e)
    clear hx
    go_enter Tryd.func24, Tryd.ntmps24
    go_wp2_with fail
    go_ret
    refine ⟨ret_bool (decide_eq_false hF.out).symm, ?_⟩
    repeat (first | exact Below.refl _ _ | refine Below.alloc ?_ (by simp; try omega) _)

theorem take_snoc_m {xs ys : List (Int × Int)} {k : Nat} {x : Int × Int} (h : xs.take k = ys.take k) (hx : xs[k]? = some x) (hy : ys[k]? = some x) : xs.take (k+1) = ys.take (k+1) := by
  rw [List.take_add_one, List.take_add_one, h, hx, hy]

set_option maxHeartbeats 400000 in
theorem laws_eqMoveS (A : Option Addr) (n c : Nat) (xs : List (Int × Int)) (lo hi : Nat) (B : Option Addr) (m d : Nat) (ys : List (Int × Int)) (lo' hi' : Nat) (w : World) (h : Moves w lo hi A n c xs) (g : Moves w lo' hi' B m d ys) (hh : hi ≤ w.heap.size) (gh : hi' ≤ w.heap.size) :
    Calls Tryd.prog 7 #[.slice A n c, .slice B m d] w fun e w' => e = .returned (.bool (decide (xs = ys))) ∧ Below w.heap.size w w' := by
  have hcp := h.cap
  have hm := h.max
  have gcp := g.cap
  have gm := g.max
  by_cases hnm : n = m
  · subst hnm
    go_enter Tryd.func7, Tryd.ntmps7
    go_wp2_with fail
    go_loopw [5] (fun i wr => ∃ (k : Nat), k ≤ n ∧ i = .int .i64 k ∧ Below w.heap.size w wr ∧ Hid (xs.take k = ys.take k)) (fun i _ => n - (intOf i).toNat)
    case atStart => exact ⟨0, by omega, rfl, Below.refl _ _, rfl⟩
    case round =>
      obtain ⟨k, hk, rfl, hb, hr⟩ := hrel
      by_cases hlt : k < n
      · obtain ⟨ad, x, y, rfl, hc1, hc2, hr1, hr2, _, hx⟩ := (h.below hb hh).at_ hlt
        obtain ⟨ae, x', y', rfl, hd1, hd2, gr1, gr2, _, hy⟩ := (g.below hb gh).at_ hlt
        clear hr1 hr2 gr1 gr2
        go_wp2_with fail
        go_still_tail 8, (by kernel_rfl)
        change wpList _ _ _ _ _ wr.drew
        go_wp2_with fail
        refine (laws_eqMove x y x' y' wr.drew).mono ?_
        rintro e w2 ⟨rfl, b2⟩
        have hb2 := hb.drew.trans (b2.mono hb.drew.size)
        clear b2 hb
        by_cases hxy : (x, y) = (x', y')
        · have hd : decide ((x, y) = (x', y')) = true := decide_eq_true hxy
          rw [hd]
          have hF : Hid (xs.take (k+1) = ys.take (k+1)) := take_snoc_m hr.out hx.out (by rw [hxy]; exact hy.out)
          clear hxy hd
          go_wp2_with fail
          go_roundw
          case rel => exact ⟨k + 1, by omega, by go_num, hb2, hF⟩
          case measure => simp [intOf]; omega
        · have hd : decide ((x, y) = (x', y')) = false := decide_eq_false hxy
          rw [hd]
          have hF : Hid (¬ xs = ys) := fun e => by
            have h1 := hx.out
            rw [e, hy.out] at h1
            exact hxy (by injection h1 with h1; exact h1.symm)
          clear hxy hd
          go_wp2_with fail
          go_ret
          exact ⟨ret_bool (by simpa using hF.out), hb2⟩
      · obtain rfl : k = n := by omega
        go_wp2
        go_ret
        refine ⟨ret_bool ?_, hb⟩
        have h1 := hr.out
        have h2 := h.len
        have h3 := g.len
        rw [List.take_of_length_le (by omega), List.take_of_length_le (by omega)] at h1
        simpa using h1
  · have hne : ((n : Int) != (m : Int)) = true := by simpa using (by omega : ¬ (n : Int) = m)
    have hF : Hid (¬ xs = ys) := fun e => hnm (by rw [← h.len, ← g.len, e])
    clear hnm
    go_enter Tryd.func7, Tryd.ntmps7
    go_wp2_with fail
    go_ret
    exact ⟨ret_bool (by simpa using hF.out), Below.refl _ _⟩

def marksM (k : Int) (n : Nat) : List (Int × Int) := (List.range n).map (fun i : Nat => (k + 2 * (i : Int), k + 2 * (i : Int) + 1))
theorem marksM_len (k : Int) (n : Nat) : (marksM k n).length = n := by simp [marksM]
theorem marksM_at {k : Int} {n j : Nat} (h : j < n) : (marksM k n)[j]? = some (k + 2 * j, k + 2 * j + 1) := by simp [marksM, h]
theorem marksM_rng {k : Int} {n : Nat} (h0 : 0 ≤ k) (h1 : k + 2 * n ≤ 4611686018427387904) : ∀ m ∈ marksM k n, R64 m.1 ∧ R64 m.2 := by
  intro x hx
  simp only [marksM, List.mem_map, List.mem_range] at hx
  obtain ⟨i, hi, rfl⟩ := hx
  exact ⟨⟨by dsimp; omega, by dsimp; omega⟩, ⟨by dsimp; omega, by dsimp; omega⟩⟩

set_option maxHeartbeats 400000 in
theorem laws_markMoveS (A : Option Addr) (n c : Nat) (xs : List (Int × Int)) (lo hi : Nat) (k0 : Int) (w : World) (h : OwnM w lo hi A n c xs) (hk0 : 0 ≤ k0) (hk1 : k0 + 2 * n ≤ 4611686018427387904) :
    Calls Tryd.prog 8 #[.slice A n c, .int .i64 k0] w fun e w' => e = .returned (.int .i64 (k0 + 2 * n)) ∧ OwnM w' lo hi A n c (marksM k0 n) ∧ Touch lo hi w w' ∧ w'.heap.size = w.heap.size := by
  have hcp := h.moves.cap
  have hm := h.moves.max
  go_enter Tryd.func8, Tryd.ntmps8
  go_wp2_with fail
  go_loopw [1, 5] (fun q i wr => ∃ (k : Nat) (ys : List (Int × Int)), k ≤ n ∧ i = .int .i64 k ∧ q = .int .i64 (k0 + 2 * k) ∧ wr.ownsRow lo 38 2 (.slice A n c) n (ys.flatMap mcells) ∧ Touch lo hi w wr ∧ Hid (wr.heap.size = w.heap.size) ∧ Hid (ys.length = n ∧ ys.take k = (marksM k0 n).take k))
    (fun _ i _ => n - (intOf i).toNat)
  case atStart => exact ⟨0, xs, by omega, rfl, by simp, h.own, .refl _ _ _, rfl, h.len, by simp⟩
  case round =>
    obtain ⟨k, ys, hk, rfl, rfl, hown', hb', hs', hys⟩ := hrel
    by_cases hlt : k < n
    · obtain ⟨g, rfl, hg1, hg2, hg3⟩ := h.form (by omega)
      have hc3 : wr.cell? ⟨g, k * 2, none⟩ = some (.int .i64 (ys.getD k (0,0)).1) := by
        rw [hown'.cellAt (k * 2) (by omega)]
        exact (mcells_at ys k _ (by have := hys.out.1; simp [List.getD, show k < ys.length by omega])).1
      have hc4 : wr.cell? ⟨g, k * 2 + 1, none⟩ = some (.int .i64 (ys.getD k (0,0)).2) := by
        rw [hown'.cellAt (k * 2 + 1) (by omega)]
        exact (mcells_at ys k _ (by have := hys.out.1; simp [List.getD, show k < ys.length by omega])).2
      have hf3 := hown'.frozenAt (k * 2)
      have hf4 := hown'.frozenAt (k * 2 + 1)
      have hst := hown'.stored (k * 2) (.int .i64 (k0 + 2 * k))
      have hst2 := hst.1.stored (k * 2 + 1) (.int .i64 (k0 + 2 * k + 1))
      rw [mcells_set ys k _ _ (by have := hys.out.1; omega)] at hst2
      have hb2 : Touch lo hi w ((wr.setCell ⟨g, k * 2, none⟩ (.int .i64 (k0 + 2 * k))).setCell ⟨g, k * 2 + 1, none⟩ (.int .i64 (k0 + 2 * k + 1))) := (hb'.setCell (.inl ⟨hg1, hg2⟩) _).setCell (.inl ⟨hg1, hg2⟩) _
      have hs2 : ((wr.setCell ⟨g, k * 2, none⟩ (.int .i64 (k0 + 2 * k))).setCell ⟨g, k * 2 + 1, none⟩ (.int .i64 (k0 + 2 * k + 1))).heap.size = w.heap.size := by simpa [World.setCell] using hs'.out
      have hrel' : Hid ((ys.set k (k0 + 2 * k, k0 + 2 * k + 1)).length = n ∧ (ys.set k (k0 + 2 * k, k0 + 2 * k + 1)).take (k+1) = (marksM k0 n).take (k+1)) :=
        ⟨by simpa using hys.out.1, take_set_m hys.out.2 (by have := hys.out.1; omega) (marksM_at hlt)⟩
      have HS := hide (And.intro hst2.1 (And.intro hb2 hs2))
      clear hst hst2 hb2 hs2 hown' hb' hs'
      go_wp2_with fail
      go_roundw
      case rel => exact ⟨k + 1, ys.set k (k0 + 2 * k, k0 + 2 * k + 1), by omega, by go_num, by go_num, HS.out.1, HS.out.2.1, HS.out.2.2, hrel'⟩
      case measure => simp [intOf]; omega
    · obtain rfl : k = n := by omega
      go_wp2_with fail
      go_ret
      have e : ys = marksM k0 k := by
        have h1 := hys.out
        have h2 := marksM_len k0 k
        rw [List.take_of_length_le (by omega), List.take_of_length_le (by omega)] at h1
        exact h1.2
      subst e
      exact ⟨rfl, ⟨hown', h.lt, marksM_rng hk0 hk1⟩, hb', hs'.out⟩

set_option maxHeartbeats 400000 in
theorem laws_heldMoveS (A : Option Addr) (n c : Nat) (lo hi : Nat) (k0 : Int) (w : World) (h : Moves w lo hi A n c (marksM k0 n)) (hk0 : 0 ≤ k0) (hk1 : k0 + 2 * n ≤ 4611686018427387904) :
    Calls Tryd.prog 9 #[.slice A n c, .int .i64 k0] w fun e w' => e = .returned (.int .i64 (k0 + 2 * n)) ∧ w = w' := by
  have hcp := h.cap
  have hm := h.max
  go_enter Tryd.func9, Tryd.ntmps9
  go_wp2_with fail
  go_loop [1, 5] (fun q i => ∃ (k : Nat), k ≤ n ∧ i = .int .i64 k ∧ q = .int .i64 (k0 + 2 * k)) (fun _ i => n - (intOf i).toNat)
  case atStart => exact ⟨0, by omega, rfl, by simp⟩
  case round =>
    obtain ⟨k, hk, rfl, rfl⟩ := hrel
    by_cases hlt : k < n
    · obtain ⟨ad, x, y, rfl, hc1, hc2, hr1, hr2, _, hx⟩ := h.at_ hlt
      have hx' := hx.out
      rw [marksM_at hlt] at hx'
      obtain ⟨rfl, rfl⟩ : k0 + 2 * k = x ∧ k0 + 2 * k + 1 = y := by injection hx' with hx'; injection hx' with a b; exact ⟨a, b⟩
      clear hx' hr1 hr2
      go_wp2_with fail
      go_round
      case rel => exact ⟨k + 1, by omega, by go_num, by go_num⟩
      case measure => simp [intOf]; omega
    · obtain rfl : k = n := by omega
      go_wp2_with fail
      go_ret
      exact ⟨rfl, rfl⟩

def moveOk (m : Int × Int) : Bool := (decide (0 ≤ m.1) && decide (m.1 ≤ 1)) && isNumF m.2
def movesGo : List (Int × Int) → Bool
  | [] => true
  | m :: r => if moveOk m then movesGo r else false
def schemeOkF (ms : List (Int × Int)) : Bool := decide (ms.length ≤ 12) && movesGo ms

set_option maxHeartbeats 400000 in
theorem impl_SchemeOk (A : Option Addr) (n c : Nat) (ms : List (Int × Int)) (lo hi : Nat) (w : World) (h : Moves w lo hi A n c ms) (hh : hi ≤ w.heap.size) :
    Calls Tryd.prog 23 #[.slice A n c] w fun e w' => e = .returned (.bool (schemeOkF ms)) ∧ Below w.heap.size w w' := by
  have hm := h.max
  have hcp := h.cap
  by_cases h12 : 12 < n
  · have hG : Hid (schemeOkF ms = false) := by
      show _ = _
      rw [schemeOkF, h.len]; simp; omega
    go_enter Tryd.func23, Tryd.ntmps23
    go_wp2_with fail
    go_ret
    exact ⟨ret_bool hG.out.symm, Below.refl _ _⟩
  · have hG : Hid (schemeOkF ms = movesGo (ms.drop 0)) := by
      show _ = _
      rw [schemeOkF, h.len, decide_eq_true (by omega : n ≤ 12)]; rfl
    go_enter Tryd.func23, Tryd.ntmps23
    go_wp2_with fail
    go_loopw [4, 10] (fun _ i wr => ∃ (k : Nat), k ≤ n ∧ i = .int .i64 k ∧ Below w.heap.size w wr ∧ Hid (schemeOkF ms = movesGo (ms.drop k))) (fun _ i _ => n - (intOf i).toNat)
    case atStart => exact ⟨0, by omega, rfl, Below.refl _ _, hG⟩
    case round =>
      obtain ⟨k, hk, rfl, hb, hrel'⟩ := hrel
      by_cases hlt : k < n
      · obtain ⟨ad, x, y, rfl, hc1, hc2, hr1, hr2, hd, hx⟩ := (h.below hb hh).at_ hlt
        have hsz := hb.size
        have hb2 := hide ((hb.alloc (o := .cells #[.int .i64 x, .int .i64 y] 38) hb.size))
        clear hb
        by_cases hL : isLetterF x = true
        · by_cases hN : isNumF y = true
          · have hG2 : Hid (schemeOkF ms = movesGo (ms.drop (k+1))) := by
              show _ = _
              rw [hrel'.out, hd.out, movesGo, if_pos (by show (isLetterF x && isNumF y) = true; rw [hL, hN]; rfl)]
            go_wp2_with (first
              | (go_at_call 35; refine (impl_isLetter _ _).mono ?_; rintro e w' ⟨rfl, rfl⟩)
              | (go_at_call 47; refine (impl_IsNumber _ _).mono ?_; rintro e w' ⟨rfl, rfl⟩))
            go_roundw
            case rel => exact ⟨k + 1, by omega, by go_num, hb2.out, hG2⟩
            case measure => simp [intOf]; omega
          · have hN' : isNumF y = false := by simpa using hN
            have hG2 : Hid (schemeOkF ms = false) := by
              show _ = _
              rw [hrel'.out, hd.out, movesGo, if_neg]
              show ¬ (isLetterF x && isNumF y) = true
              rw [hL, hN']; simp
            clear hN
            go_wp2_with (first
              | (go_at_call 35; refine (impl_isLetter _ _).mono ?_; rintro e w' ⟨rfl, rfl⟩)
              | (go_at_call 47; refine (impl_IsNumber _ _).mono ?_; rintro e w' ⟨rfl, rfl⟩))
            go_ret
            exact ⟨ret_bool hG2.out.symm, hb2.out⟩
        · have hL' : isLetterF x = false := by simpa using hL
          have hG2 : Hid (schemeOkF ms = false) := by
            show _ = _
            rw [hrel'.out, hd.out, movesGo, if_neg]
            show ¬ (isLetterF x && isNumF y) = true
            rw [hL']; simp
          clear hL
          go_wp2_with (first
            | (go_at_call 35; refine (impl_isLetter _ _).mono ?_; rintro e w' ⟨rfl, rfl⟩)
            | (go_at_call 47; refine (impl_IsNumber _ _).mono ?_; rintro e w' ⟨rfl, rfl⟩))
          go_ret
          exact ⟨ret_bool hG2.out.symm, hb2.out⟩
      · obtain rfl : k = n := by omega
        have e := h.drop_end
        go_wp2_with fail
        go_ret
        exact ⟨ret_bool (by rw [hrel'.out, e.out, movesGo]), hb⟩

set_option maxHeartbeats 400000 in
theorem spec_SchemeOk (A : Option Addr) (n c : Nat) (ms : List (Int × Int)) (lo hi : Nat) (w : World) (h : Moves w lo hi A n c ms) :
    Calls Tryd.prog 20 #[.slice A n c] w fun e w' => e = .returned (.bool (schemeOkF ms)) ∧ w = w' := by
  have hm := h.max
  have hcp := h.cap
  go_enter Tryd.func20, Tryd.ntmps20
  go_wp2_with fail
  go_loop [3] (fun i => ∃ (k : Nat), k ≤ n ∧ i = .int .i64 k ∧ Hid (movesGo ms = movesGo (ms.drop k))) (fun i => n - (intOf i).toNat)
  case atStart => exact ⟨0, by omega, rfl, rfl⟩
  case round =>
    obtain ⟨k, hk, rfl, hrel'⟩ := hrel
    by_cases hlt : k < n
    · obtain ⟨ad, x, y, rfl, hc1, hc2, hr1, hr2, hd, hx⟩ := h.at_ hlt
      clear hr1 hr2
      by_cases hL : (decide (0 ≤ x) && decide (x ≤ 1)) = true
      · by_cases hN : isNumF y = true
        · have hG2 : Hid (movesGo ms = movesGo (ms.drop (k+1))) := by
            show _ = _
            rw [hrel'.out, hd.out, movesGo, if_pos (by rw [moveOk, hL, hN]; rfl)]
          go_wp2_with (first
            | (go_at_call 18; refine (spec_l1In _ _ _ _).mono ?_; rintro e w' ⟨rfl, rfl⟩)
            | (go_at_call 39; refine (spec_IsNumber _ _).mono ?_; rintro e w' ⟨rfl, rfl⟩))
          go_round
          case rel => exact ⟨k + 1, by omega, by go_num, hG2⟩
          case measure => simp [intOf]; omega
        · have hN' : isNumF y = false := by simpa using hN
          have hG2 : Hid (schemeOkF ms = false) := by
            show _ = _
            rw [schemeOkF, hrel'.out, hd.out, movesGo, if_neg (by rw [moveOk, hL, hN']; simp), Bool.and_false]
          clear hN
          go_wp2_with (first
            | (go_at_call 18; refine (spec_l1In _ _ _ _).mono ?_; rintro e w' ⟨rfl, rfl⟩)
            | (go_at_call 39; refine (spec_IsNumber _ _).mono ?_; rintro e w' ⟨rfl, rfl⟩))
          go_ret
          exact ⟨ret_bool hG2.out.symm, rfl⟩
      · have hL' : (decide (0 ≤ x) && decide (x ≤ 1)) = false := by simpa using hL
        have hG2 : Hid (schemeOkF ms = false) := by
          show _ = _
          rw [schemeOkF, hrel'.out, hd.out, movesGo, if_neg (by rw [moveOk, hL']; simp), Bool.and_false]
        clear hL
        go_wp2_with (first
          | (go_at_call 18; refine (spec_l1In _ _ _ _).mono ?_; rintro e w' ⟨rfl, rfl⟩)
          | (go_at_call 39; refine (spec_IsNumber _ _).mono ?_; rintro e w' ⟨rfl, rfl⟩))
        go_ret
        exact ⟨ret_bool hG2.out.symm, rfl⟩
    · obtain rfl : k = n := by omega
      have e := h.drop_end
      have hG : Hid (schemeOkF ms = decide ((k : Int) ≤ 12)) := by
        show _ = _
        rw [schemeOkF, hrel'.out, e.out, movesGo, h.len, Bool.and_true]
        rw [Bool.eq_iff_iff]; simp; omega
      go_wp2_with fail
      go_ret
      exact ⟨ret_bool hG.out.symm, rfl⟩
end Go.Proofs.YtppekbokaknocaaDoor
