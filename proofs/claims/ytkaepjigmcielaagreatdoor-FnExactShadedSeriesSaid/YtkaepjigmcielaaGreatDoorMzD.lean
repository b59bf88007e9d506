/- Monomials, polynomials and fields: what they read as, and the statements' helpers on them. -/
import Derived.Test.YtkaepjigmcielaaGreatDoorMzC
namespace Go.Proofs.YtkaepjigmcielaaGreatDoor
open Go.RowKit
set_option linter.unusedSimpArgs false
set_option linter.unusedVariables false
set_option maxRecDepth 20000

abbrev Mono := Int × List Int
/-- A slice of monomials that can be read; all its cells lie in the blocks from lo up to hi. -/
structure Mons (w : World) (lo hi : Nat) (A : Option Addr) (n c : Nat) (ms : List Mono) : Prop where
  len : ms.length = n
  cap : n ≤ c
  max : c ≤ 9223372036854775807
  cells : 0 < n → ∃ ad, A = some ad ∧ lo ≤ ad.block ∧ ad.block < hi ∧ ∀ j m, ms[j]? = some m → w.cell? (ad.add (j * 2)) = some (.int .i64 m.1) ∧ R64 m.1 ∧ ∃ B k d, w.cell? ⟨(ad.add (j * 2)).block, (ad.add (j * 2)).off + 1, none⟩ = some (.slice B k d) ∧ Ints w lo hi B k d m.2
/-- A slice of slices of monomials. -/
structure Mons2 (w : World) (lo hi : Nat) (A : Option Addr) (n c : Nat) (ps : List (List Mono)) : Prop where
  len : ps.length = n
  cap : n ≤ c
  max : c ≤ 9223372036854775807
  cells : 0 < n → ∃ ad, A = some ad ∧ lo ≤ ad.block ∧ ad.block < hi ∧ ∀ j ms, ps[j]? = some ms → ∃ B m d, w.cell? (ad.add j) = some (.slice B m d) ∧ Mons w lo hi B m d ms

section
variable {w w' : World} {lo hi : Nat} {A : Option Addr} {n c : Nat} {ms : List Mono} {ps : List (List Mono)}
theorem Mons.at_ (h : Mons w lo hi A n c ms) {k : Nat} (hk : k < n) :
    ∃ ad x B m d xs, A = some ad ∧ w.cell? (ad.add (k * 2)) = some (.int .i64 x) ∧ w.cell? ⟨(ad.add (k * 2)).block, (ad.add (k * 2)).off + 1, none⟩ = some (.slice B m d) ∧ R64 x ∧ Ints w lo hi B m d xs ∧ Hid (ms.drop k = (x, xs) :: ms.drop (k+1)) ∧ Hid (ms[k]? = some (x, xs)) := by
  obtain ⟨ad, e, _, _, hc⟩ := h.cells (by omega)
  have hl : k < ms.length := by have := h.len; omega
  obtain ⟨h1, h2, B, m, d, h3, h4⟩ := hc k _ (List.getElem?_eq_getElem hl)
  exact ⟨ad, _, B, m, d, _, e, h1, h3, h2, h4, List.drop_eq_getElem_cons hl, List.getElem?_eq_getElem hl⟩
theorem Mons.same (h : Mons w lo hi A n c ms) (hs : Same lo hi w w') : Mons w' lo hi A n c ms :=
  ⟨h.len, h.cap, h.max, fun hn => by
    obtain ⟨ad, e, h1, h2, hc⟩ := h.cells hn
    refine ⟨ad, e, h1, h2, fun j m hm => ?_⟩
    obtain ⟨h3, h4, B, k, d, h5, h6⟩ := hc j m hm
    exact ⟨(hs.cell (by rw [block_of_add]; exact h1) (by rw [block_of_add]; exact h2)).trans h3, h4, B, k, d, (hs.cell (p := ⟨(ad.add (j * 2)).block, (ad.add (j * 2)).off + 1, none⟩) (by show lo ≤ (ad.add (j * 2)).block; rw [block_of_add]; exact h1) (by show (ad.add (j * 2)).block < hi; rw [block_of_add]; exact h2)).trans h5, h6.same hs⟩⟩
theorem Mons.below {B : Nat} (h : Mons w lo hi A n c ms) (hb : Below B w w') (hB : hi ≤ B) : Mons w' lo hi A n c ms := h.same (.of_below hb hB)
theorem Mons.wide {lo' hi' : Nat} (h : Mons w lo hi A n c ms) (h1 : lo' ≤ lo) (h2 : hi ≤ hi') : Mons w lo' hi' A n c ms :=
  ⟨h.len, h.cap, h.max, fun hn => by
    obtain ⟨ad, e, h3, h4, hc⟩ := h.cells hn
    refine ⟨ad, e, by omega, by omega, fun j m hm => ?_⟩
    obtain ⟨h3, h4, B, k, d, h5, h6⟩ := hc j m hm
    exact ⟨h3, h4, B, k, d, h5, h6.wide h1 h2⟩⟩
theorem Mons.drop_end (h : Mons w lo hi A n c ms) : Hid (ms.drop n = []) := List.drop_eq_nil_of_le (Nat.le_of_eq h.len)
theorem Mons2.at_ (h : Mons2 w lo hi A n c ps) {k : Nat} (hk : k < n) :
    ∃ ad B m d ms, A = some ad ∧ w.cell? (ad.add k) = some (.slice B m d) ∧ Mons w lo hi B m d ms ∧ Hid (ps.drop k = ms :: ps.drop (k+1)) ∧ Hid (ps[k]? = some ms) := by
  obtain ⟨ad, e, _, _, hc⟩ := h.cells (by omega)
  have hl : k < ps.length := by have := h.len; omega
  obtain ⟨B, m, d, h1, h2⟩ := hc k _ (List.getElem?_eq_getElem hl)
  exact ⟨ad, B, m, d, _, e, h1, h2, List.drop_eq_getElem_cons hl, List.getElem?_eq_getElem hl⟩
theorem Mons2.same (h : Mons2 w lo hi A n c ps) (hs : Same lo hi w w') : Mons2 w' lo hi A n c ps :=
  ⟨h.len, h.cap, h.max, fun hn => by
    obtain ⟨ad, e, h1, h2, hc⟩ := h.cells hn
    refine ⟨ad, e, h1, h2, fun j xs hx => ?_⟩
    obtain ⟨B, m, d, h3, h4⟩ := hc j xs hx
    exact ⟨B, m, d, (hs.cell (by rw [block_of_add]; exact h1) (by rw [block_of_add]; exact h2)).trans h3, h4.same hs⟩⟩
theorem Mons2.below {B : Nat} (h : Mons2 w lo hi A n c ps) (hb : Below B w w') (hB : hi ≤ B) : Mons2 w' lo hi A n c ps := h.same (.of_below hb hB)
theorem Mons2.wide {lo' hi' : Nat} (h : Mons2 w lo hi A n c ps) (h1 : lo' ≤ lo) (h2 : hi ≤ hi') : Mons2 w lo' hi' A n c ps :=
  ⟨h.len, h.cap, h.max, fun hn => by
    obtain ⟨ad, e, h3, h4, hc⟩ := h.cells hn
    refine ⟨ad, e, by omega, by omega, fun j m hm => ?_⟩
    obtain ⟨B, k, d, h5, h6⟩ := hc j m hm
    exact ⟨B, k, d, h5, h6.wide h1 h2⟩⟩
theorem Mons2.drop_end (h : Mons2 w lo hi A n c ps) : Hid (ps.drop n = []) := List.drop_eq_nil_of_le (Nat.le_of_eq h.len)
end

/-- what a measure of a value may be: -1 where it is too great -/
def Sz (left r : Int) (P : Prop) : Prop := -1 ≤ r ∧ r ≤ left ∧ (0 ≤ r → P)

theorem laws_szMonomial (x : Int) (A : Option Addr) (n c : Nat) (left : Int) (w : World) (hn : n ≤ 9223372036854775807) (h0 : 0 ≤ left) (h1 : left ≤ 1048576) :
    Calls Tryz.prog 79 #[.agg #[.int .i64 x, .slice A n c], .int .i64 left] w fun e w' => ∃ r, e = .returned (.int .i64 r) ∧ Sz left r (n ≤ 1048576) ∧ Below w.heap.size w w' := by
  by_cases hlt : left - n < 0
  · have hF : szF n left = -1 := if_pos hlt
    go_enter Tryz.func79, Tryz.ntmps79
    go_wp2_with fail
    refine (laws_szIntS A n c left _ hn h0 h1).mono ?_
    rintro e w1 ⟨rfl, rfl⟩
    rw [hF]
    clear hF
    go_wp2_with fail
    go_ret
    exact ⟨_, rfl, ⟨by omega, by omega, by omega⟩, by (repeat (first | with_reducible exact Below.refl _ _ | with_reducible exact Below.refl _ _ | with_reducible refine Below.drew ?_ | ((with_reducible refine Below.alloc ?_ ?_ _); rotate_left; · first | omega | (simp [World.setCell]; done) | (simp [World.setCell]; omega)) | ((with_reducible refine Below.setCell ?_ ?_ _); rotate_left; · first | exact Nat.le_refl _ | omega | (simp; done) | (simp; omega))))⟩
  · have hF : szF n left = left - n := if_neg hlt
    go_enter Tryz.func79, Tryz.ntmps79
    go_wp2_with fail
    refine (laws_szIntS A n c left _ hn h0 h1).mono ?_
    rintro e w1 ⟨rfl, rfl⟩
    rw [hF]
    clear hF
    go_wp2_with fail
    go_ret
    exact ⟨_, rfl, ⟨by omega, by omega, by omega⟩, by (repeat (first | with_reducible exact Below.refl _ _ | with_reducible exact Below.refl _ _ | with_reducible refine Below.drew ?_ | ((with_reducible refine Below.alloc ?_ ?_ _); rotate_left; · first | omega | (simp [World.setCell]; done) | (simp [World.setCell]; omega)) | ((with_reducible refine Below.setCell ?_ ?_ _); rotate_left; · first | exact Nat.le_refl _ | omega | (simp; done) | (simp; omega))))⟩

set_option maxHeartbeats 400000 in
theorem laws_szMonomialS (A : Option Addr) (n c : Nat) (ms : List Mono) (lo hi : Nat) (left : Int) (w : World) (h : Mons w lo hi A n c ms) (hh : hi ≤ w.heap.size) (h0 : 0 ≤ left) (h1 : left ≤ 1048576) :
    Calls Tryz.prog 45 #[.slice A n c, .int .i64 left] w fun e w' => ∃ r, e = .returned (.int .i64 r) ∧ Sz left r (n ≤ 1048576 ∧ ∀ m ∈ ms, m.2.length ≤ 1048576) ∧ Below w.heap.size w w' := by
  have hcp := h.cap
  have hm := h.max
  by_cases hlt : left - n < 0
  · go_enter Tryz.func45, Tryz.ntmps45
    go_wp2_with fail
    go_ret
    exact ⟨_, rfl, ⟨by omega, by omega, by omega⟩, Below.refl _ _⟩
  · go_enter Tryz.func45, Tryz.ntmps45
    go_wp2_with fail
    go_loopw [1, 5] (fun l i wr => ∃ (k : Nat) (r : Int), k ≤ n ∧ i = .int .i64 k ∧ l = .int .i64 r ∧ 0 ≤ r ∧ r ≤ left ∧ Hid (∀ m ∈ ms.take k, m.2.length ≤ 1048576) ∧ Hid (Below w.heap.size w wr)) (fun _ i _ => n - (intOf i).toNat)
    case atStart => exact ⟨0, left - n, by omega, rfl, rfl, by omega, by omega, (fun m hm => absurd hm (by simp) : ∀ m ∈ ms.take 0, m.2.length ≤ 1048576), Below.refl _ _⟩
    case round =>
      obtain ⟨k, r, hk, rfl, rfl, hr0, hr1, hrs, hb⟩ := hrel
      by_cases hlt2 : k < n
      · obtain ⟨ad, x, B, m, d, xs, rfl, hc1, hc2, hxr, hi1, hd, hx⟩ := (h.below hb.out hh).at_ hlt2
        have hml := hi1.len
        have hmm := hi1.max
        have hmc := hi1.cap
        have hsz := hb.out.size
        have hS := hide (laws_szMonomial x B m d r wr (by omega) hr0 (by omega))
        clear hi1 hd hxr
        go_wp2_with fail
        refine hS.out.mono ?_
        rintro e w1 ⟨r2, rfl, ⟨s1, s2, s3⟩, b1⟩
        have HB : Hid (Below w.heap.size w w1) := hb.out.trans (b1.mono hsz)
        clear b1 hb
        by_cases hneg : r2 < 0
        · have hbb := HB.out
          go_wp2_with fail
          go_ret
          exact ⟨_, rfl, ⟨by omega, by omega, by omega⟩, hbb⟩
        · have hrs2 : Hid (∀ m ∈ ms.take (k + 1), m.2.length ≤ 1048576) := fun y hy => by
            rw [List.take_add_one, hx.out] at hy
            rcases List.mem_append.1 hy with hy | hy
            · exact hrs.out y hy
            · have e : y = (x, xs) := by simpa using hy
              rw [e]
              have := s3 (by omega)
              show xs.length ≤ _
              omega
          clear hrs s3 hx
          go_wp2_with fail
          go_roundw
          case rel => exact ⟨k + 1, r2, by omega, by go_num, rfl, by omega, by omega, hrs2, HB⟩
          case measure => simp [intOf]; omega
      · obtain rfl : k = n := by omega
        have hbb := hb.out
        have hl := h.len
        have hall : ∀ m ∈ ms, m.2.length ≤ 1048576 := fun y hy => hrs.out y (by rw [List.take_of_length_le (by omega)]; exact hy)
        go_wp2_with fail
        go_ret
        exact ⟨_, rfl, ⟨by omega, by omega, fun _ => ⟨by omega, hall⟩⟩, hbb⟩

set_option maxHeartbeats 400000 in
theorem laws_szMonomialSS (A : Option Addr) (n c : Nat) (ps : List (List Mono)) (lo hi : Nat) (left : Int) (w : World) (h : Mons2 w lo hi A n c ps) (hh : hi ≤ w.heap.size) (h0 : 0 ≤ left) (h1 : left ≤ 1048576) :
    Calls Tryz.prog 18 #[.slice A n c, .int .i64 left] w fun e w' => ∃ r, e = .returned (.int .i64 r) ∧ Sz left r (n ≤ 1048576 ∧ ∀ p ∈ ps, p.length ≤ 1048576 ∧ ∀ m ∈ p, m.2.length ≤ 1048576) ∧ Below w.heap.size w w' := by
  have hcp := h.cap
  have hm := h.max
  by_cases hlt : left - n < 0
  · go_enter Tryz.func18, Tryz.ntmps18
    go_wp2_with fail
    go_ret
    exact ⟨_, rfl, ⟨by omega, by omega, by omega⟩, Below.refl _ _⟩
  · go_enter Tryz.func18, Tryz.ntmps18
    go_wp2_with fail
    go_loopw [1, 5] (fun l i wr => ∃ (k : Nat) (r : Int), k ≤ n ∧ i = .int .i64 k ∧ l = .int .i64 r ∧ 0 ≤ r ∧ r ≤ left ∧ Hid (∀ p ∈ ps.take k, p.length ≤ 1048576 ∧ ∀ m ∈ p, m.2.length ≤ 1048576) ∧ Hid (Below w.heap.size w wr)) (fun _ i _ => n - (intOf i).toNat)
    case atStart => exact ⟨0, left - n, by omega, rfl, rfl, by omega, by omega, (fun m hm => absurd hm (by simp) : ∀ p ∈ ps.take 0, p.length ≤ 1048576 ∧ ∀ m ∈ p, m.2.length ≤ 1048576), Below.refl _ _⟩
    case round =>
      obtain ⟨k, r, hk, rfl, rfl, hr0, hr1, hrs, hb⟩ := hrel
      by_cases hlt2 : k < n
      · obtain ⟨ad, B, m, d, p, rfl, hc1, hi1, hd, hx⟩ := (h.below hb.out hh).at_ hlt2
        have hml := hi1.len
        have hsz := hb.out.size
        have hS := hide (laws_szMonomialS B m d p lo hi r wr hi1 (Nat.le_trans hh hsz) hr0 (by omega))
        clear hi1 hd
        go_wp2_with fail
        refine hS.out.mono ?_
        rintro e w1 ⟨r2, rfl, ⟨s1, s2, s3⟩, b1⟩
        have HB : Hid (Below w.heap.size w w1) := hb.out.trans (b1.mono hsz)
        clear b1 hb
        by_cases hneg : r2 < 0
        · have hbb := HB.out
          go_wp2_with fail
          go_ret
          exact ⟨_, rfl, ⟨by omega, by omega, by omega⟩, hbb⟩
        · have hrs2 : Hid (∀ p ∈ ps.take (k + 1), p.length ≤ 1048576 ∧ ∀ m ∈ p, m.2.length ≤ 1048576) := fun y hy => by
            rw [List.take_add_one, hx.out] at hy
            rcases List.mem_append.1 hy with hy | hy
            · exact hrs.out y hy
            · have e : y = p := by simpa using hy
              rw [e]
              have := s3 (by omega)
              exact ⟨by omega, this.2⟩
          clear hrs s3 hx
          go_wp2_with fail
          go_roundw
          case rel => exact ⟨k + 1, r2, by omega, by go_num, rfl, by omega, by omega, hrs2, HB⟩
          case measure => simp [intOf]; omega
      · obtain rfl : k = n := by omega
        have hbb := hb.out
        have hl := h.len
        have hall : ∀ p ∈ ps, p.length ≤ 1048576 ∧ ∀ m ∈ p, m.2.length ≤ 1048576 := fun y hy => hrs.out y (by rw [List.take_of_length_le (by omega)]; exact hy)
        go_wp2_with fail
        go_ret
        exact ⟨_, rfl, ⟨by omega, by omega, fun _ => ⟨by omega, hall⟩⟩, hbb⟩

theorem laws_toMonomial (o : Int) (A : Option Addr) (n c : Nat) (xs : List Int) (lo hi : Nat) (w : World) (h : Ints w lo hi A n c xs) (hh : hi ≤ w.heap.size) (hn : n ≤ 1048576) :
    Calls Tryz.prog 85 #[.agg #[.int .i64 o, .slice A n c]] w fun e w' => ∃ A' c', e = .returned (.agg #[.int .i64 o, .slice A' n c']) ∧ OwnI w' w.heap.size w'.heap.size A' n c' xs ∧ Below w.heap.size w w' := by
  have hcp := h.cap
  have hm := h.max
  go_enter Tryz.func85, Tryz.ntmps85
  go_wp2_with fail
  refine (laws_toIntS A n c xs lo hi _ (h.below (B := w.heap.size) (by (repeat (first | with_reducible exact Below.refl _ _ | with_reducible exact Below.refl _ _ | with_reducible refine Below.drew ?_ | ((with_reducible refine Below.alloc ?_ ?_ _); rotate_left; · first | omega | (simp [World.setCell]; done) | (simp [World.setCell]; omega)) | ((with_reducible refine Below.setCell ?_ ?_ _); rotate_left; · first | exact Nat.le_refl _ | omega | (simp; done) | (simp; omega))))) hh) (by simp; omega) hn).mono ?_
  rintro e w1 ⟨A1, c1, rfl, o1, b1⟩
  obtain ⟨p20, p21, f20, f21, hlt2⟩ := res2 b1
  obtain ⟨p10, p11, f10, f11, hlt1⟩ := res2 (below_alloc_inv b1)
  simp at p10 p11 p20 p21 f10 f11 f20 f21 hlt1 hlt2
  have b2 : Below w.heap.size w w1 := below_alloc_inv (below_alloc_inv (below_alloc_inv b1))
  have HO : Hid (OwnI w1 (w.heap.size + 1 + 1 + 1) w1.heap.size A1 n c1 xs) := o1.wide (by simp) (Nat.le_refl _)
  clear b1 o1
  go_wp2_with fail
  refine bodyPost_ret (v := .agg #[.int .i64 o, .slice A1 n c1]) (by simp [results, Tryz.results85, go_sem, p10, p11, p20, p21, hlt1, hlt2]) rfl ⟨_, _, rfl, ?_, ?_⟩
  · refine (OwnI.same HO.out ?_).wide (by omega) ?_
    · (repeat (first | with_reducible exact Same.refl _ _ _ | with_reducible refine Same.drew ?_ | ((with_reducible refine Same.alloc ?_ ?_ _); rotate_left; · first | omega | (simp [World.setCell]; done) | (simp [World.setCell]; omega)) | ((with_reducible refine Same.setCell ?_ ?_ _); rotate_left; · first | omega | (simp; done) | (simp; omega))))
    · simp [World.setCell]
  · (repeat (first | with_reducible exact b2 | with_reducible exact Below.refl _ _ | with_reducible refine Below.drew ?_ | ((with_reducible refine Below.alloc ?_ ?_ _); rotate_left; · first | omega | (simp [World.setCell]; done) | (simp [World.setCell]; omega)) | ((with_reducible refine Below.setCell ?_ ?_ _); rotate_left; · first | exact Nat.le_refl _ | omega | (simp; done) | (simp; omega))))

theorem laws_eqMonomial (o : Int) (A : Option Addr) (n c : Nat) (xs : List Int) (lo hi : Nat) (o' : Int) (B : Option Addr) (m d : Nat) (ys : List Int) (lo' hi' : Nat) (w : World) (h : Ints w lo hi A n c xs) (g : Ints w lo' hi' B m d ys) (hh : hi ≤ w.heap.size) (gh : hi' ≤ w.heap.size) :
    Calls Tryz.prog 99 #[.agg #[.int .i64 o, .slice A n c], .agg #[.int .i64 o', .slice B m d]] w fun e w' => e = .returned (.bool (decide ((o, xs) = (o', ys)))) ∧ Below w.heap.size w w' := by
  by_cases ho : o = o'
  · subst ho
    go_enter Tryz.func99, Tryz.ntmps99
    go_wp2_with fail
    refine (laws_eqIntS A n c xs lo hi B m d ys lo' hi' _ (h.below (B := w.heap.size) (by (repeat (first | with_reducible exact Below.refl _ _ | with_reducible exact Below.refl _ _ | with_reducible refine Below.drew ?_ | ((with_reducible refine Below.alloc ?_ ?_ _); rotate_left; · first | omega | (simp [World.setCell]; done) | (simp [World.setCell]; omega)) | ((with_reducible refine Below.setCell ?_ ?_ _); rotate_left; · first | exact Nat.le_refl _ | omega | (simp; done) | (simp; omega))))) hh) (g.below (B := w.heap.size) (by (repeat (first | with_reducible exact Below.refl _ _ | with_reducible exact Below.refl _ _ | with_reducible refine Below.drew ?_ | ((with_reducible refine Below.alloc ?_ ?_ _); rotate_left; · first | omega | (simp [World.setCell]; done) | (simp [World.setCell]; omega)) | ((with_reducible refine Below.setCell ?_ ?_ _); rotate_left; · first | exact Nat.le_refl _ | omega | (simp; done) | (simp; omega))))) gh)).mono ?_
    rintro e w1 ⟨rfl, q, rfl⟩
    by_cases hxy : xs = ys
    · have hd : decide (xs = ys) = true := by simpa using hxy
      have hF : Hid (decide ((o, xs) = (o, ys)) = true) := by show _ = _; simpa using hxy
      rw [hd]
      clear hd hxy
      go_wp2_with fail
      go_ret
      exact ⟨ret_bool hF.out.symm, below_drewN (by (repeat (first | with_reducible exact Below.refl _ _ | with_reducible exact Below.refl _ _ | with_reducible refine Below.drew ?_ | ((with_reducible refine Below.alloc ?_ ?_ _); rotate_left; · first | omega | (simp [World.setCell]; done) | (simp [World.setCell]; omega)) | ((with_reducible refine Below.setCell ?_ ?_ _); rotate_left; · first | exact Nat.le_refl _ | omega | (simp; done) | (simp; omega))))) _⟩
    · have hd : decide (xs = ys) = false := by simpa using hxy
      have hF : Hid (decide ((o, xs) = (o, ys)) = false) := by show _ = _; simpa using hxy
      rw [hd]
      clear hd hxy
      go_wp2_with fail
      go_ret
      exact ⟨ret_bool hF.out.symm, below_drewN (by (repeat (first | with_reducible exact Below.refl _ _ | with_reducible exact Below.refl _ _ | with_reducible refine Below.drew ?_ | ((with_reducible refine Below.alloc ?_ ?_ _); rotate_left; · first | omega | (simp [World.setCell]; done) | (simp [World.setCell]; omega)) | ((with_reducible refine Below.setCell ?_ ?_ _); rotate_left; · first | exact Nat.le_refl _ | omega | (simp; done) | (simp; omega))))) _⟩
  · have hob : (o != o') = true := by simpa using ho
    have hF : Hid (decide ((o, xs) = (o', ys)) = false) := decide_eq_false (fun e => ho (by injection e))
    clear ho
    go_enter Tryz.func99, Tryz.ntmps99
    go_wp2_with fail
    go_ret
    exact ⟨ret_bool hF.out.symm, by (repeat (first | with_reducible exact Below.refl _ _ | with_reducible exact Below.refl _ _ | with_reducible refine Below.drew ?_ | ((with_reducible refine Below.alloc ?_ ?_ _); rotate_left; · first | omega | (simp [World.setCell]; done) | (simp [World.setCell]; omega)) | ((with_reducible refine Below.setCell ?_ ?_ _); rotate_left; · first | exact Nat.le_refl _ | omega | (simp; done) | (simp; omega))))⟩
end Go.Proofs.YtkaepjigmcielaaGreatDoor
/- Polynomials in h of a fixed length in plain Lean: products, sums, the rounds of a step, and that the rounds come to rest. -/
namespace Go.Proofs.YtkaepjigmcielaaGreatDoor
/-- a list of n values of a function -/
def tabJ (n : Nat) (f : Nat → Int) : List Int := (List.range n).map f
theorem tabJ_len (n : Nat) (f : Nat → Int) : (tabJ n f).length = n := by simp [tabJ]
theorem tabJ_get {n j : Nat} (f : Nat → Int) (h : j < n) : (tabJ n f).getD j 0 = f j := by simp [tabJ, h]
theorem tabJ_at {n j : Nat} (f : Nat → Int) (h : j < n) : (tabJ n f)[j]? = some (f j) := by simp [tabJ, h]
theorem tabJ_out {n j : Nat} (f : Nat → Int) (h : n ≤ j) : (tabJ n f).getD j 0 = 0 := by simp [tabJ, h]
theorem tabJ_num {n : Nat} {f : Nat → Int} (h : ∀ j, 0 ≤ f j ∧ f j < 1000000271) : ∀ x ∈ tabJ n f, 0 ≤ x ∧ x < 1000000271 := by
  intro x hx
  simp only [tabJ, List.mem_map] at hx
  obtain ⟨j, _, rfl⟩ := hx
  exact h j
theorem tabJ_self {n : Nat} {a : List Int} (h : a.length = n) : tabJ n (fun j => a.getD j 0) = a := by
  apply List.ext_getElem?
  intro j
  by_cases hj : j < n
  · rw [tabJ_at _ hj, List.getElem?_eq_getElem (by omega)]
    simp [show j < a.length by omega]
  · rw [List.getElem?_eq_none (by rw [tabJ_len]; omega), List.getElem?_eq_none (by omega)]
theorem tabJ_eq {n : Nat} {a b : List Int} (ha : a.length = n) (hb : b.length = n) (h : ∀ j, j < n → a.getD j 0 = b.getD j 0) : a = b := by
  rw [← tabJ_self ha, ← tabJ_self hb]
  unfold tabJ
  exact List.map_congr_left fun j hj => h j (List.mem_range.1 hj)

/-- a plus k times b -/
def jplus (a b : List Int) (k : Int) : List Int := tabJ a.length fun j => plusF (a.getD j 0) (timesF (b.getD j 0) k)
def psum (a b : List Int) : Nat → Nat → Int
  | 0, _ => 0
  | i + 1, k => psum a b i k + (if i ≤ k then a.getD i 0 * b.getD (k - i) 0 else 0)
/-- the product, as far as the first i elements of a -/
def jmulP (a b : List Int) (i : Nat) : List Int := tabJ a.length fun k => psum a b i k % 1000000271
def jmul (a b : List Int) : List Int := jmulP a b a.length
def later1 (v : List Int) : List Int := tabJ v.length fun j => if j = 0 then 0 else v.getD (j - 1) 0
def unitJ (n : Nat) (c : Int) : List Int := tabJ n fun j => if j = 0 then c else 0
def zeroJ (n : Nat) : List Int := List.replicate n 0
def powJ : Nat → List Int → List Int → List Int
  | 0, o, _ => o
  | n + 1, o, y => powJ n (jmul o y) y
def prodJ (ys : Nat → List Int) : List Int → Nat → List Int → List Int
  | [], _, o => o
  | p :: r, v, o => prodJ ys r (v + 1) (powJ p.toNat o (ys v))
/-- the sum of the monomials, one added to the other -/
def derJ (n : Nat) (ys : Nat → List Int) : List Mono → List Int → List Int
  | [], o => o
  | m :: r, o => derJ n ys r (jplus o (prodJ ys m.2 0 (unitJ n 1)) m.1)
/-- y and h times the values, times the elements of a row -/
def accJ (y : List Int) (v : Nat → List Int) (row : List Int) : Nat → List Int
  | 0 => y
  | s + 1 => jplus (accJ y v row s) (later1 (v s)) (row.getD s 0)
/-- agreement of the first t elements -/
def Agr (t : Nat) (a b : List Int) : Prop := ∀ j, j < t → a.getD j 0 = b.getD j 0
theorem Agr.refl (t : Nat) (a : List Int) : Agr t a a := fun _ _ => rfl
theorem jplus_len (a b : List Int) (k : Int) : (jplus a b k).length = a.length := tabJ_len _ _
theorem jmul_len (a b : List Int) : (jmul a b).length = a.length := tabJ_len _ _
theorem later_len (v : List Int) : (later1 v).length = v.length := tabJ_len _ _
theorem unit_len (n : Nat) (c : Int) : (unitJ n c).length = n := tabJ_len _ _
theorem zero_len (n : Nat) : (zeroJ n).length = n := by simp [zeroJ]
theorem pow_len : ∀ (k : Nat) (o y : List Int), (powJ k o y).length = o.length
  | 0, _, _ => rfl
  | k + 1, o, y => by rw [powJ, pow_len k, jmul_len]
theorem prod_len (ys : Nat → List Int) : ∀ (p : List Int) (v : Nat) (o : List Int), (prodJ ys p v o).length = o.length
  | [], _, _ => rfl
  | p :: r, v, o => by rw [prodJ, prod_len ys r, pow_len]
theorem acc_len (y : List Int) (v : Nat → List Int) (row : List Int) : ∀ s, (accJ y v row s).length = y.length
  | 0 => rfl
  | s + 1 => by rw [accJ, jplus_len, acc_len y v row s]
theorem Agr.plus {t : Nat} {a a' b b' : List Int} (h : Agr t a a') (hl : a.length = a'.length) (g : Agr t b b') (k : Int) : Agr t (jplus a b k) (jplus a' b' k) := by
  intro j hj
  by_cases hn : j < a.length
  · rw [jplus, jplus, tabJ_get _ hn, tabJ_get _ (by omega), h j hj, g j hj]
  · rw [jplus, jplus, tabJ_out _ (by omega), tabJ_out _ (by omega)]
theorem psum_agr {t : Nat} {a a' b b' : List Int} (h : Agr t a a') (g : Agr t b b') {k : Nat} (hk : k < t) : ∀ i, psum a b i k = psum a' b' i k
  | 0 => rfl
  | i + 1 => by
    rw [psum, psum, psum_agr h g hk i]
    by_cases hi : i ≤ k
    · rw [if_pos hi, if_pos hi, h i (by omega), g (k - i) (by omega)]
    · rw [if_neg hi, if_neg hi]
theorem Agr.mul {t : Nat} {a a' b b' : List Int} (h : Agr t a a') (hl : a.length = a'.length) (g : Agr t b b') : Agr t (jmul a b) (jmul a' b') := by
  intro j hj
  by_cases hn : j < a.length
  · rw [jmul, jmul, jmulP, jmulP, tabJ_get _ hn, tabJ_get _ (by omega), psum_agr h g hj, hl]
  · rw [jmul, jmul, jmulP, jmulP, tabJ_out _ (by omega), tabJ_out _ (by omega)]
theorem Agr.later {t : Nat} {a a' : List Int} (h : Agr t a a') (hl : a.length = a'.length) : Agr (t + 1) (later1 a) (later1 a') := by
  intro j hj
  by_cases hn : j < a.length
  · rw [later1, later1, tabJ_get _ hn, tabJ_get _ (by omega)]
    by_cases h0 : j = 0
    · rw [if_pos h0, if_pos h0]
    · rw [if_neg h0, if_neg h0, h (j - 1) (by omega)]
  · rw [later1, later1, tabJ_out _ (by omega), tabJ_out _ (by omega)]
theorem Agr.pow {t : Nat} {y y' : List Int} (hy : Agr t y y') : ∀ (k : Nat) {o o' : List Int}, Agr t o o' → o.length = o'.length → Agr t (powJ k o y) (powJ k o' y')
  | 0, _, _, h, _ => h
  | k + 1, o, o', h, hl => Agr.pow hy k (h.mul hl hy) (by rw [jmul_len, jmul_len, hl])
theorem Agr.prod {t : Nat} {ys ys' : Nat → List Int} (hy : ∀ v, Agr t (ys v) (ys' v)) : ∀ (p : List Int) (v : Nat) {o o' : List Int}, Agr t o o' → o.length = o'.length → Agr t (prodJ ys p v o) (prodJ ys' p v o')
  | [], _, _, _, h, _ => h
  | p :: r, v, _, _, h, hl => Agr.prod hy r (v + 1) (Agr.pow (hy v) p.toNat h hl) (by rw [pow_len, pow_len, hl])
theorem Agr.der {t n : Nat} {ys ys' : Nat → List Int} (hy : ∀ v, Agr t (ys v) (ys' v)) : ∀ (ms : List Mono) {o o' : List Int}, Agr t o o' → o.length = o'.length → Agr t (derJ n ys ms o) (derJ n ys' ms o')
  | [], _, _, h, _ => h
  | m :: r, o, o', h, hl => Agr.der hy r (h.plus hl (Agr.prod hy m.2 0 (Agr.refl t _) rfl) m.1) (by rw [jplus_len, jplus_len, hl])
theorem Agr.acc {t : Nat} (y : List Int) {v v' : Nat → List Int} (h : ∀ s, Agr t (v s) (v' s)) (hl : ∀ s, (v s).length = (v' s).length) (row : List Int) : ∀ s, Agr (t + 1) (accJ y v row s) (accJ y v' row s)
  | 0 => Agr.refl _ _
  | s + 1 => (Agr.acc y h hl row s).plus (by rw [acc_len, acc_len]) ((h s).later (hl s)) _
/-! the coefficient ahead of the product or behind it -/
end Go.Proofs.YtkaepjigmcielaaGreatDoor
