/- Fields and sessions: the statements' helpers on them. -/
import Derived.Test.YtkaepjigmcielaaGreatDoorMzY
import Derived.Test.YtkaepjigmcielaaGreatDoorMzBA
import Derived.Test.YtkaepjigmcielaaGreatDoorMzBB
import Derived.Test.YtkaepjigmcielaaGreatDoorMzX
namespace Go.Proofs.YtkaepjigmcielaaGreatDoor
open Go.RowKit
set_option linter.unusedSimpArgs false
set_option linter.unusedVariables false
set_option maxRecDepth 20000

theorem laws_szField (o : Int) (A : Option Addr) (n c : Nat) (ps : List (List Mono)) (lo hi : Nat) (left : Int) (w : World) (h : Mons2 w lo hi A n c ps) (hh : hi ≤ w.heap.size) (h0 : 0 ≤ left) (h1 : left ≤ 1048576) :
    Calls Tryz.prog 4 #[.agg #[.int .i64 o, .slice A n c], .int .i64 left] w fun e w' => ∃ r, e = .returned (.int .i64 r) ∧ Sz left r (n ≤ 1048576 ∧ ∀ p ∈ ps, p.length ≤ 1048576 ∧ ∀ m ∈ p, m.2.length ≤ 1048576) ∧ Below w.heap.size w w' := by
  go_enter Tryz.func4, Tryz.ntmps4
  go_wp2_with fail
  refine (laws_szMonomialSS A n c ps lo hi left _ (h.below (B := w.heap.size) (by (repeat (first | with_reducible exact Below.refl _ _ | with_reducible exact Below.refl _ _ | with_reducible refine Below.drew ?_ | ((with_reducible refine Below.alloc ?_ ?_ _); rotate_left; · first | omega | (simp [World.setCell]; done) | (simp [World.setCell]; omega)) | ((with_reducible refine Below.setCell ?_ ?_ _); rotate_left; · first | exact Nat.le_refl _ | omega | (simp; done) | (simp; omega))))) hh) (by simp; omega) h0 h1).mono ?_
  rintro e w1 ⟨r, rfl, hs, b1⟩
  have B1 : Below w.heap.size w w1 := below_alloc_inv b1
  have HS := hide hs
  have hr1 := hs.1
  clear hs b1
  by_cases hr : r < 0
  · go_wp2_with fail
    go_ret
    exact ⟨_, rfl, ⟨by omega, by omega, by omega⟩, B1⟩
  · go_wp2_with fail
    go_ret
    exact ⟨_, rfl, HS.out, B1⟩

set_option maxHeartbeats 400000 in
theorem laws_eqField (o : Int) (A : Option Addr) (n c : Nat) (xs : List (List Mono)) (lo hi : Nat) (o' : Int) (B : Option Addr) (m d : Nat) (ys : List (List Mono)) (lo' hi' : Nat) (w : World) (h : Mons2 w lo hi A n c xs) (g : Mons2 w lo' hi' B m d ys) (hh : hi ≤ w.heap.size) (gh : hi' ≤ w.heap.size) :
    Calls Tryz.prog 13 #[.agg #[.int .i64 o, .slice A n c], .agg #[.int .i64 o', .slice B m d]] w fun e w' => e = .returned (.bool (decide (o = o') && decide (xs = ys))) ∧ Below w.heap.size w w' := by
  by_cases ho : o = o'
  · subst ho
    go_enter Tryz.func13, Tryz.ntmps13
    go_wp2_with fail
    refine (laws_eqMonomialSS A n c xs lo hi B m d ys lo' hi' _ (h.below (B := w.heap.size) (by (repeat (first | with_reducible exact Below.refl _ _ | with_reducible exact Below.refl _ _ | with_reducible refine Below.drew ?_ | ((with_reducible refine Below.alloc ?_ ?_ _); rotate_left; · first | omega | (simp [World.setCell]; done) | (simp [World.setCell]; omega)) | ((with_reducible refine Below.setCell ?_ ?_ _); rotate_left; · first | exact Nat.le_refl _ | omega | (simp; done) | (simp; omega))))) hh) (g.below (B := w.heap.size) (by (repeat (first | with_reducible exact Below.refl _ _ | with_reducible exact Below.refl _ _ | with_reducible refine Below.drew ?_ | ((with_reducible refine Below.alloc ?_ ?_ _); rotate_left; · first | omega | (simp [World.setCell]; done) | (simp [World.setCell]; omega)) | ((with_reducible refine Below.setCell ?_ ?_ _); rotate_left; · first | exact Nat.le_refl _ | omega | (simp; done) | (simp; omega))))) gh) (by simp; omega) (by simp; omega)).mono ?_
    rintro e w1 ⟨rfl, b1⟩
    have B1 : Below w.heap.size w w1 := below_alloc_inv (below_alloc_inv b1)
    clear b1
    by_cases hxy : xs = ys
    · have hd : decide (xs = ys) = true := by simpa using hxy
      have hF : Hid ((decide (o = o) && decide (xs = ys)) = true) := by show _ = _; rw [hd]; simp
      rw [hd]
      clear hd hxy
      go_wp2_with fail
      go_ret
      exact ⟨ret_bool hF.out.symm, B1⟩
    · have hd : decide (xs = ys) = false := by simpa using hxy
      have hF : Hid ((decide (o = o) && decide (xs = ys)) = false) := by show _ = _; rw [hd]; simp
      rw [hd]
      clear hd hxy
      go_wp2_with fail
      go_ret
      exact ⟨ret_bool hF.out.symm, B1⟩
  · have hob : (o != o') = true := by simpa using ho
    have hF : Hid ((decide (o = o') && decide (xs = ys)) = false) := by show _ = _; rw [decide_eq_false ho]; rfl
    clear ho
    go_enter Tryz.func13, Tryz.ntmps13
    go_wp2_with fail
    go_ret
    exact ⟨ret_bool hF.out.symm, by (repeat (first | with_reducible exact Below.refl _ _ | with_reducible exact Below.refl _ _ | with_reducible refine Below.drew ?_ | ((with_reducible refine Below.alloc ?_ ?_ _); rotate_left; · first | omega | (simp [World.setCell]; done) | (simp [World.setCell]; omega)) | ((with_reducible refine Below.setCell ?_ ?_ _); rotate_left; · first | exact Nat.le_refl _ | omega | (simp; done) | (simp; omega))))⟩

end Go.Proofs.YtkaepjigmcielaaGreatDoor
/- Steps of pairs along paths: what the law's walk uses. -/
namespace Go.Proofs.YtkaepjigmcielaaGreatDoor
open Go.RowKit
set_option linter.unusedSimpArgs false
set_option linter.unusedVariables false
set_option maxRecDepth 20000

theorem szRows_ok2 (xss : List (List Int)) {l : Int} (h0 : 0 ≤ l) (h1 : l ≤ 1048576) : (szRowsF xss l < 0) ∨ (0 ≤ szRowsF xss l ∧ xss.length ≤ 1048576 ∧ ∀ xs ∈ xss, xs.length ≤ 1048576) := by
  unfold szRowsF
  split
  · exact .inl (by omega)
  · have h := szRowsGo_bd xss (l - xss.length) (by omega)
    by_cases h0 : szRowsGo xss (l - xss.length) < 0
    · exact .inl h0
    · exact .inr ⟨by omega, by omega, fun xs hx => by have := h.2 (by omega) xs hx; omega⟩

/-- the four rows of a pair, each in blocks of its own -/
def PairS (wr : World) (lo hi : Nat) (A : Option Addr) (n c : Nat) (xs : List Int) (B : Option Addr) (m d : Nat) (ys : List Int) (A' : Option Addr) (n' c' : Nat) (xs' : List Int) (B' : Option Addr) (m' d' : Nat) (ys' : List Int) : Prop :=
  ∃ m1 m2 m3, OwnI wr lo m1 A n c xs ∧ OwnI wr m1 m2 B m d ys ∧ OwnI wr m2 m3 A' n' c' xs' ∧ OwnI wr m3 hi B' m' d' ys' ∧ lo ≤ m1 ∧ m1 ≤ m2 ∧ m2 ≤ m3 ∧ m3 ≤ hi
section
variable {w w' : World} {lo hi : Nat} {A : Option Addr} {n c : Nat} {xs : List Int} {B : Option Addr} {m d : Nat} {ys : List Int} {A' : Option Addr} {n' c' : Nat} {xs' : List Int} {B' : Option Addr} {m' d' : Nat} {ys' : List Int}
theorem PairS.same (h : PairS w lo hi A n c xs B m d ys A' n' c' xs' B' m' d' ys') (hs : Same lo hi w w') : PairS w' lo hi A n c xs B m d ys A' n' c' xs' B' m' d' ys' := by
  obtain ⟨m1, m2, m3, a, b, c, d, e1, e2, e3, e4⟩ := h
  exact ⟨m1, m2, m3, a.same fun k p q => hs k (by omega) (by omega), b.same fun k p q => hs k (by omega) (by omega), c.same fun k p q => hs k (by omega) (by omega), d.same fun k p q => hs k (by omega) (by omega), e1, e2, e3, e4⟩
theorem PairS.below {N : Nat} (h : PairS w lo hi A n c xs B m d ys A' n' c' xs' B' m' d' ys') (hb : Below N w w') (hN : hi ≤ N) : PairS w' lo hi A n c xs B m d ys A' n' c' xs' B' m' d' ys' := h.same (.of_below hb hN)
theorem PairS.le (h : PairS w lo hi A n c xs B m d ys A' n' c' xs' B' m' d' ys') : lo ≤ hi := by
  obtain ⟨m1, m2, m3, _, _, _, _, e1, e2, e3, e4⟩ := h
  omega
theorem PairS.ints (h : PairS w lo hi A n c xs B m d ys A' n' c' xs' B' m' d' ys') {H : Nat} (hH : hi ≤ H) : Ints w 0 H A n c xs ∧ Ints w 0 H B m d ys ∧ Ints w 0 H A' n' c' xs' ∧ Ints w 0 H B' m' d' ys' := by
  obtain ⟨m1, m2, m3, a, b, c, d, e1, e2, e3, e4⟩ := h
  exact ⟨a.ints.wide (Nat.zero_le _) (by omega), b.ints.wide (Nat.zero_le _) (by omega), c.ints.wide (Nat.zero_le _) (by omega), d.ints.wide (Nat.zero_le _) (by omega)⟩
theorem PairS.form (h : PairS w lo hi A n c xs B m d ys A' n' c' xs' B' m' d' ys') : (0 < n → ∃ g, A = some ⟨g, 0, none⟩) ∧ (0 < n' → ∃ g, A' = some ⟨g, 0, none⟩) := by
  obtain ⟨m1, m2, m3, a, b, c, d, e1, e2, e3, e4⟩ := h
  exact ⟨fun hn => by obtain ⟨g, e, _⟩ := a.form hn; exact ⟨g, e⟩, fun hn => by obtain ⟨g, e, _⟩ := c.form hn; exact ⟨g, e⟩⟩
end

end Go.Proofs.YtkaepjigmcielaaGreatDoor
/- Elementary differentials of shaded trees along paths: both walks. -/
namespace Go.Proofs.YtkaepjigmcielaaGreatDoor
open Go.RowKit
set_option linter.unusedSimpArgs false
set_option linter.unusedVariables false
set_option maxRecDepth 20000

/-- what a field, colours and a path that are fine say -/
structure ColOk (dim n : Nat) (ps : List (List Mono)) (cs : List Int) (xss : List (List Int)) : Prop where
  gf : GoodF dim ps
  d0 : 1 ≤ dim
  d6 : dim ≤ 6
  n0 : 1 ≤ n
  n7 : n ≤ 7
  nl : xss.length = n
  rw' : ∀ r ∈ xss, r.length = dim ∧ ∀ x ∈ r, 0 ≤ x ∧ x < 1000000271
  cl : cs.length = dim
  cc : ∀ c ∈ cs, c = 0 ∨ c = 1
theorem colOk_iff {o : Int} {ps : List (List Mono)} {cs : List Int} {xss : List (List Int)} (h : colOkF o ps cs xss = true) : ∃ dim n : Nat, o = dim ∧ ColOk dim n ps cs xss := by
  unfold colOkF at h
  simp only [Bool.and_eq_true, decide_eq_true_eq] at h
  obtain ⟨⟨h1, h2⟩, h3, h4⟩ := h
  obtain ⟨dim, rfl⟩ : ∃ d : Nat, o = d := ⟨cs.length, h3.symm⟩
  obtain ⟨g1, g2, g3⟩ := field_good h1
  obtain ⟨p1, p2⟩ := path_good h2
  exact ⟨dim, xss.length, rfl, g1, g2, g3, p1.1, p1.2, rfl, p2, by omega, colGo_mem _ h4⟩
theorem list_fine {cn : Nat} (hcn : cn < 72) : Good (listAt (cn : Int)) ∧ (listAt (cn : Int)).length ≤ 4 := by
  obtain ⟨t2, ht2⟩ : ∃ t, tabS[cn]? = some t := ⟨_, List.getElem?_eq_getElem (by have := tab_len; omega)⟩
  obtain ⟨l2, bs2, sy2⟩ := t2
  have htk := List.all_eq_true.1 tab_ok l2 (by
    have : tabL[cn]? = some l2 := by unfold tabL; rw [List.getElem?_map, ht2]; rfl
    exact List.mem_of_getElem? this)
  rw [list_at ht2]
  exact good_of htk

end Go.Proofs.YtkaepjigmcielaaGreatDoor
/- The series of shaded trees: plain laws; rows of one length that a call owns. -/
namespace Go.Proofs.YtkaepjigmcielaaGreatDoor
open Go.RowKit
set_option linter.unusedSimpArgs false
set_option linter.unusedVariables false

/-- k powers of h later -/
def laterK (v : List Int) (k : Nat) : List Int := tabJ v.length fun j => if j < k then 0 else v.getD (j - k) 0
theorem laterK_len (v : List Int) (k : Nat) : (laterK v k).length = v.length := tabJ_len _ _
theorem laterK_zero (v : List Int) : laterK v 0 = v := by
  refine tabJ_eq (n := v.length) (laterK_len v 0) rfl fun j hj => ?_
  rw [laterK, tabJ_get _ hj, if_neg (by omega), Nat.sub_zero]
theorem laterK_succ (v : List Int) (k : Nat) : laterK v (k + 1) = later1 (laterK v k) := by
  refine tabJ_eq (n := v.length) (laterK_len v _) (by rw [later_len, laterK_len]) fun j hj => ?_
  rw [laterK, later1, tabJ_get _ hj, tabJ_get _ (by rw [laterK_len]; exact hj)]
  by_cases h0 : j = 0
  · rw [if_pos h0, if_pos (by omega)]
  · rw [if_neg h0, laterK, tabJ_get _ (by omega)]
    by_cases h1 : j < k + 1
    · rw [if_pos h1, if_pos (by omega)]
    · rw [if_neg h1, if_neg (by omega), show j - (k + 1) = j - 1 - k by omega]
theorem laterK_num {v : List Int} (h : ∀ x ∈ v, 0 ≤ x ∧ x < 1000000271) (k : Nat) : ∀ x ∈ laterK v k, 0 ≤ x ∧ x < 1000000271 := by
  refine tabJ_num fun j => ?_
  split
  · omega
  · rw [List.getD_eq_getElem?_getD]
    cases hv : v[j - k]? with
    | none => simp
    | some x => exact h x (List.mem_of_getElem? hv)
theorem laterK_at {v : List Int} {j k : Nat} {x : Int} (hx : v[j]? = some x) (hj : j + k < v.length) : (laterK v k)[j + k]? = some x := by
  rw [laterK, tabJ_at _ hj, if_neg (by omega), show j + k - k = j by omega]
  simp [List.getD, hx]
theorem laterK_start {v : List Int} {n : Nat} (h : v.length = n) (k : Nat) : mixJ (laterK v k) (zeroJ n) k = zeroJ n := by
  refine tabJ_eq (n := n) ?_ (zero_len n) fun j hj => ?_
  · simp [mixJ, laterK_len, h, zero_len]; omega
  · unfold mixJ
    by_cases h0 : j < k
    · rw [List.getD_eq_getElem?_getD, List.getElem?_append_left (by simp [laterK_len, h]; omega), List.getElem?_take_of_lt h0, laterK, tabJ_at _ (by omega), if_pos h0]
      simp [zeroJ, List.getD, hj]
    · rw [List.getD_eq_getElem?_getD, List.getElem?_append_right (by simp [laterK_len, h]; omega)]
      simp only [List.length_take, laterK_len, h, List.getElem?_drop]
      rw [show k + (j - min k n) = j by omega, ← List.getD_eq_getElem?_getD]
namespace Jr
variable {n : Nat}
theorem of_laterK {v : List Int} (hv : v.length = n) : ∀ k, (of (laterK v k) : Jr n) = pow x k * of v
  | 0 => by rw [laterK_zero, pow, one_mul]
  | k + 1 => by rw [laterK_succ, of_later (by rw [laterK_len, hv]), of_laterK hv k, pow, mul_assoc]
theorem later_lst (u : Jr n) (k : Nat) : laterK (lst u) k = lst (pow x k * u) :=
  eq_lst (by rw [laterK_len, lst_len]) (laterK_num (lst_num u) k) (by rw [of_laterK (lst_len u), of_lst])
theorem pow_big {k : Nat} (h : n ≤ k) (u : Jr n) : pow x k * u = 0 := by
  have e : laterK (lst u) k = zeroJ n := by
    refine tabJ_eq (n := n) (by rw [laterK_len, lst_len]) (zero_len n) fun j hj => ?_
    rw [laterK, tabJ_get _ (by rw [lst_len]; exact hj), if_pos (by omega)]
    simp [zeroJ, hj]
  rw [← of_lst u, ← of_laterK (lst_len u), e, of_zero]
/-- what one shaded tree adds -/
def serT (dim : Nat) (ps : List (List Mono)) (cols : List Int) (Y : Nat → Jr n) (cs : List Int) (b v : Nat) : Jr n := cst (fracF (cs.getD b 0) (symAt (b : Int))) * (pow x (listAt (b : Int)).length * dT dim ps cols Y (listAt (b : Int)) v)
/-- the path and what the first j shaded trees add -/
def serAt (dim : Nat) (ps : List (List Mono)) (cols : List Int) (Y : Nat → Jr n) (cs : List Int) (j v : Nat) : Jr n := Y v + sum (fun b => serT dim ps cols Y cs b v) j
theorem serAt_zero (dim : Nat) (ps : List (List Mono)) (cols : List Int) (Y : Nat → Jr n) (cs : List Int) (v : Nat) : serAt dim ps cols Y cs 0 v = Y v := by
  rw [serAt, sum, add_zero]
theorem serAt_succ (dim : Nat) (ps : List (List Mono)) (cols : List Int) (Y : Nat → Jr n) (cs : List Int) (j v : Nat) : serAt dim ps cols Y cs (j + 1) v = serAt dim ps cols Y cs j v + serT dim ps cols Y cs j v := by
  rw [serAt, sum, serAt, add_assoc]
theorem serAt_rest (dim : Nat) (ps : List (List Mono)) (cols : List Int) (Y : Nat → Jr n) (cs : List Int) {j : Nat} (h : ∀ b, j ≤ b → b < 72 → n ≤ (listAt (b : Int)).length) (v : Nat) : ∀ d, j + d ≤ 72 → serAt dim ps cols Y cs (j + d) v = serAt dim ps cols Y cs j v
  | 0, _ => rfl
  | d + 1, hd => by
    rw [show j + (d + 1) = j + d + 1 by omega, serAt_succ, serAt_rest dim ps cols Y cs h v d (by omega), serT, pow_big (h (j + d) (by omega) (by omega)), mul_zero, add_zero]
/-- a row and c times another one, later -/
theorem ser_lst (a u : Jr n) (k : Nat) (c : Int) : jplus (lst a) (laterK (lst u) k) c = lst (a + cst c * (pow x k * u)) := by rw [later_lst, plus_lst]
end Jr
/-- how many shaded trees a path of n elements meets -/
def cntP (n : Nat) : Nat := cntF (min 4 (n - 1))
theorem cnt_rest {n : Nat} (h1 : 1 ≤ n) (h7 : n ≤ 7) : cntP n ≤ 72 ∧ ∀ b, cntP n ≤ b → b < 72 → n ≤ (listAt (b : Int)).length ∨ 4 < n := by
  have h : ∀ n ∈ [1, 2, 3, 4, 5, 6, 7], cntP n ≤ 72 ∧ (List.range 72).all (fun b => decide (b < cntP n ∨ n ≤ (listAt (b : Int)).length ∨ 4 < n)) = true := by decide +kernel
  have hm : n ∈ [1, 2, 3, 4, 5, 6, 7] := by
    rcases (show n = 1 ∨ n = 2 ∨ n = 3 ∨ n = 4 ∨ n = 5 ∨ n = 6 ∨ n = 7 by omega) with rfl | rfl | rfl | rfl | rfl | rfl | rfl <;> simp
  obtain ⟨h2, h3⟩ := h n hm
  refine ⟨h2, fun b hb hb2 => ?_⟩
  have := List.all_eq_true.1 h3 b (List.mem_range.2 hb2)
  simp only [decide_eq_true_eq] at this
  omega
theorem cnt_all {n : Nat} (h : 4 < n) : cntP n = 72 := by
  unfold cntP
  rw [show min 4 (n - 1) = 4 by omega]
  rfl
theorem ser_all {n : Nat} (h1 : 1 ≤ n) (h7 : n ≤ 7) (dim : Nat) (ps : List (List Mono)) (cols : List Int) (Y : Nat → Jr n) (cs : List Int) (v : Nat) : Jr.serAt dim ps cols Y cs 72 v = Jr.serAt dim ps cols Y cs (cntP n) v := by
  by_cases h4 : 4 < n
  · rw [cnt_all h4]
  · obtain ⟨h2, h3⟩ := cnt_rest h1 h7
    have := Jr.serAt_rest dim ps cols Y cs (j := cntP n) (fun b hb hb2 => by have := h3 b hb hb2; omega) v (72 - cntP n) (by omega)
    rwa [show cntP n + (72 - cntP n) = 72 by omega] at this
/-- the rows of an order, with their places -/
theorem place_len {n b : Nat} (h1 : 1 ≤ n) (h4 : n ≤ 4) (hlo : cntF (n - 1) ≤ b) (hhi : b < cntF n) : (listAt (b : Int)).length = n := by
  have h : ∀ n ∈ [1, 2, 3, 4], (List.range 72).all (fun b => decide (cntF (n - 1) ≤ b → b < cntF n → (listAt (b : Int)).length = n)) = true := by decide +kernel
  have hm : n ∈ [1, 2, 3, 4] := by
    rcases (show n = 1 ∨ n = 2 ∨ n = 3 ∨ n = 4 by omega) with rfl | rfl | rfl | rfl <;> simp
  have hb : b < 72 := by
    have : cntF n ≤ 72 := by
      rcases (show n = 1 ∨ n = 2 ∨ n = 3 ∨ n = 4 by omega) with rfl | rfl | rfl | rfl <;> decide
    omega
  have := List.all_eq_true.1 (h n hm) b (List.mem_range.2 hb)
  simp only [decide_eq_true_eq] at this
  exact this hlo hhi
def shSeOk (cs : List Int) (o : Int) (ps : List (List Mono)) (cols : List Int) (xss : List (List Int)) : Bool := colOkF o ps cols xss && (decide ((cs.length : Int) = 72) && allNumF cs)
/-- the series along a path -/
def shSe (cs : List Int) (o : Int) (ps : List (List Mono)) (cols : List Int) (xss : List (List Int)) : List (List Int) :=
  if shSeOk cs o ps cols xss = true then turnL (Jr.rowsJ o.toNat (Jr.serAt o.toNat ps cols (dirO xss.length (turnL xss o.toNat)) cs 72)) xss.length else []
theorem shSe_ok {cs : List Int} {dim n : Nat} {ps : List (List Mono)} {cols : List Int} {xss : List (List Int)} (h : shSeOk cs (dim : Int) ps cols xss = true) (hn : xss.length = n) : shSe cs (dim : Int) ps cols xss = turnL (Jr.rowsJ dim (Jr.serAt dim ps cols (dirO n (turnL xss dim)) cs 72)) n := by
  subst hn
  unfold shSe
  rw [if_pos h]
  rfl
theorem shSe_bad {cs : List Int} {o : Int} {ps : List (List Mono)} {cols : List Int} {xss : List (List Int)} (h : shSeOk cs o ps cols xss = false) : shSe cs o ps cols xss = [] := by
  unfold shSe
  rw [h]
  rfl
theorem shSe_tot (cs : List Int) (o : Int) (ps : List (List Mono)) (cols : List Int) (xss : List (List Int)) : totS (shSe cs o ps cols xss) ≤ 1048576 := by
  cases hk : shSeOk cs o ps cols xss with
  | false => rw [shSe_bad hk]; simp [totS]
  | true =>
    have hc : colOkF o ps cols xss = true := by unfold shSeOk at hk; rw [Bool.and_eq_true] at hk; exact hk.1
    obtain ⟨dim, n, rfl, h⟩ := colOk_iff hc
    rw [shSe_ok hk h.nl]
    have h6 := h.d6
    have h7 := h.n7
    have hb := totS_bd (C := 6) (turnL (Jr.rowsJ dim (Jr.serAt dim ps cols (dirO n (turnL xss dim)) cs 72)) n) (fun r hr => by
      simp only [turnL, List.mem_map, List.mem_range] at hr
      obtain ⟨i, _, rfl⟩ := hr
      rw [List.length_map, Jr.rowsJ_len]
      exact h6)
    rw [turn_len] at hb
    omega

/-! the symmetry, as the reference reckons it -/
def symL (p : List Int) : Int := symAt (placeL tabL p)
def twGo : Option (List Int) → Int → Int → List (List Int) → Int
  | _, _, out, [] => out
  | pv, run, out, p :: r => twGo (some p) (if pv.all (fun q => decide (p = q)) then run + 1 else 1) (out * (if pv.all (fun q => decide (p = q)) then run + 1 else 1) * symL p) r
def twOk : Option (List Int) → Int → Int → List (List Int) → Bool
  | _, run, out, [] => decide (0 ≤ run ∧ run ≤ 4 ∧ 0 ≤ out ∧ out ≤ 1000)
  | pv, run, out, p :: r => decide (0 ≤ run ∧ run ≤ 4 ∧ 0 ≤ out ∧ out ≤ 1000 ∧ 0 ≤ symL p ∧ symL p ≤ 1000) && twOk (some p) (if pv.all (fun q => decide (p = q)) then run + 1 else 1) (out * (if pv.all (fun q => decide (p = q)) then run + 1 else 1) * symL p) r
theorem tab_tw : (tabS.all fun t => decide (formF 4 t.1 = t.1) && decide (twGo none 0 1 (partsF [] t.1.tail) = t.2.2) && twOk none 0 1 (partsF [] t.1.tail) && (partsF [] t.1.tail).all (fun p => decide (p ∈ tabL) && decide (p.length < t.1.length)) && decide (symL t.1 = t.2.2) && decide (0 ≤ t.2.2 ∧ t.2.2 ≤ 6) && t.1.all (fun x => decide (x ≤ 1000))) = true := by decide +kernel
structure TwF (l : List Int) : Prop where
  form : formF 4 l = l
  go : twGo none 0 1 (partsF [] l.tail) = symL l
  ok : twOk none 0 1 (partsF [] l.tail) = true
  sub : ∀ p ∈ partsF [] l.tail, p ∈ tabL ∧ p.length < l.length
  bd : 0 ≤ symL l ∧ symL l ≤ 6
  le : ∀ x ∈ l, x ≤ 1000
theorem tw_facts {l : List Int} (h : l ∈ tabL) : TwF l := by
  unfold tabL at h
  obtain ⟨t, ht, rfl⟩ := List.mem_map.1 h
  have := List.all_eq_true.1 tab_tw t ht
  simp only [Bool.and_eq_true, decide_eq_true_eq, List.all_eq_true] at this
  obtain ⟨⟨⟨⟨⟨⟨h1, h2⟩, h3⟩, h4⟩, h5⟩, h6⟩, h7⟩ := this
  exact ⟨h1, by rw [h2, h5], h3, h4, by rw [h5]; exact h6, h7⟩
theorem list_mem {b : Nat} (h : b < 72) : listAt (b : Int) ∈ tabL := by
  obtain ⟨t, ht⟩ : ∃ t, tabS[b]? = some t := ⟨_, List.getElem?_eq_getElem (by have := tab_len; omega)⟩
  obtain ⟨l, bs, sy⟩ := t
  rw [list_at ht]
  unfold tabL
  exact List.mem_map.2 ⟨_, List.mem_of_getElem? ht, rfl⟩
theorem sym_at {b : Nat} (h : b < 72) : symL (listAt (b : Int)) = symAt (b : Int) := by
  have h : (List.range 72).all (fun b => decide (symL (listAt (b : Int)) = symAt (b : Int))) = true := by decide +kernel
  simpa using List.all_eq_true.1 h b (List.mem_range.2 (by assumption))
theorem tab_good {l : List Int} (h : l ∈ tabL) : Good l ∧ l.length ≤ 4 := good_of (List.all_eq_true.1 tab_ok l h)
end Go.Proofs.YtkaepjigmcielaaGreatDoor
/- The series of shaded trees: polynomials in h some powers later; a copy of a row of polynomials. -/
namespace Go.Proofs.YtkaepjigmcielaaGreatDoor
open Go.RowKit
set_option linter.unusedSimpArgs false
set_option linter.unusedVariables false
set_option maxRecDepth 20000

set_option maxRecDepth 100000 in
set_option maxHeartbeats 4000000 in
theorem impl_laterK (k : Nat) (hk9 : k ≤ 1000) (A : Option Addr) (n c : Nat) (xs : List Int) (lo hi : Nat) (w : World) (h : Ints w lo hi A n c xs) (hh : hi ≤ w.heap.size) (hn : n ≤ 1000) :
    Calls Tryz.prog 40 #[.slice A n c, .int .i64 (k : Int)] w fun e w' => ∃ gR, e = .returned (.slice (some ⟨gR, 0, none⟩) n n) ∧ OwnI w' w.heap.size w'.heap.size (some ⟨gR, 0, none⟩) n n (laterK xs k) ∧ Below w.heap.size w w' := by
  have hcA := h.cap
  have hmA := h.max
  have hmk := make_jet n hn w
  have HX := hide h
  have hlx := hide h.len
  have hll : Hid ((laterK xs k).length = n) := by show _ = _; rw [laterK_len, h.len]
  have s0 := hide (FillS.start w n hn)
  clear h
  go_enter Tryz.func40, Tryz.ntmps40
  go_wp2_with fail
  clear hmk
  go_loopw [12] (fun i wr => ∃ (j : Nat), j ≤ n ∧ i = .int .i64 j ∧ Hid (FillS w wr w.heap.size n (mixJ (laterK xs k) (zeroJ n) (j + k)))) (fun i _ => n - (intOf i).toNat)
  case atStart => exact ⟨0, by omega, rfl, by show Hid (FillS w _ w.heap.size n (mixJ (laterK xs k) (zeroJ n) (0 + k))); rw [Nat.zero_add, laterK_start hlx.out k]; exact s0⟩
  case round =>
    clear s0
    obtain ⟨j, hj, rfl, hS⟩ := hrel
    by_cases hlt : j < n
    · obtain ⟨ad, x, rfl, hcx, hxr, _, hxx⟩ := (HX.out.below hS.out.low hh).at_ hlt
      have hwj := IntWalk.i64_in ((j : Int) + (k : Int)) (by omega)
      by_cases hlt2 : j + k < n
      · obtain ⟨v, hcv, _, _, hfv⟩ := hS.out.cell hlt2
        have hat := laterK_at hxx.out (by rw [hlx.out]; exact hlt2)
        have hN := hS.out.set (j + k) hxr
        rw [mixJ_set hll.out (zero_len n) hlt2 hat, show j + k + 1 = j + 1 + k by omega] at hN
        have HN := hide hN
        clear hxx hat hN hS
        go_wp2_with fail
        go_roundw
        case rel => exact ⟨j + 1, by omega, by go_num, HN.out⟩
        case measure => simp [intOf]; omega
      · have hN := hS.out
        rw [mixJ_big hll.out (zero_len n) (by omega), ← mixJ_big (j := j + 1 + k) hll.out (zero_len n) (by omega)] at hN
        have HN := hide hN
        clear hxx hN hS
        go_wp2_with fail
        go_roundw
        case rel => exact ⟨j + 1, by omega, by go_num, HN.out⟩
        case measure => simp [intOf]; omega
    · obtain rfl : n = j := by omega
      rw [mixJ_big hll.out (zero_len n) (by omega)] at hS
      go_wp2_with fail
      go_ret
      exact ⟨_, rfl, hS.out.done⟩


set_option maxHeartbeats 1000000 in
theorem clone_jets (gy dim cy : Nat) (yss : List (List Int)) (lo hi : Nat) (w : World) (h : Ints2 w lo hi (some ⟨gy, 0, none⟩) dim cy yss) (hh : hi ≤ w.heap.size) (hn : dim ≤ 1048576) (hd0 : 0 < dim) :
    Calls Tryz.prog 34 #[.slice (some ⟨gy, 0, none⟩) dim cy] w fun e w' => ∃ g c' vs, e = .returned (.slice (some ⟨g, 0, none⟩) dim c') ∧ Lst kI 55 (fun _ => True) w' (min lo w.heap.size) w'.heap.size (some ⟨g, 0, none⟩) dim c' vs yss ∧ w.heap.size ≤ g ∧ Below w.heap.size w w' := by
  obtain ⟨i0, hi0, hz0, hz1, hz2⟩ := info_parts info_jet
  have heq := fun W : World => Lib.run_eql_slice_nil (P := Tryz.prog) W 52 55 (some ⟨gy, 0, none⟩) dim cy 0 0 Tryz.underlying52
  have hcp := h.cap
  have hmp := h.max
  have hown : (w.alloc (.cells #[] 55)).ownsRow w.heap.size 55 1 (.slice (some ⟨w.heap.size, 0, none⟩) 0 0) 0 [] := by
    simpa using World.ownsRow_lit (size := 1) (e := 55) w #[] 0 (Nat.le_refl _) (by unfold maxLen; omega) rfl
  obtain ⟨ad, e, hlo, hhi, hc⟩ := h.cells hd0
  injection e with e
  subst e
  have hvs : ∃ vs : List Value, vs.length = dim ∧ ∀ j xs, yss[j]? = some xs → ∃ B m d, vs[j]? = some (.slice B m d) ∧ w.cell? ⟨gy, j, none⟩ = some (.slice B m d) ∧ Ints w lo hi B m d xs := by
    refine ⟨(List.range dim).map fun j => (w.cell? ⟨gy, j, none⟩).getD (.bool true), by simp, fun j xs hj => ?_⟩
    obtain ⟨B, m, d, h1, h2⟩ := hc j xs hj
    have hj2 : j < dim := by have := (List.getElem?_eq_some_iff.1 hj).1; have := h.len; omega
    rw [Addr.add_lit] at h1
    have h1' : w.cell? ⟨gy, j, none⟩ = some (.slice B m d) := by simpa using h1
    exact ⟨B, m, d, by simp [hj2, h1'], h1', h2⟩
  obtain ⟨vs, hvl, hvs⟩ := hvs
  have hb1 := below_alloc w (.cells #[] 55)
  have hsrc : ∀ ad', (some (⟨gy, 0, none⟩ : Addr)) = some ad' → ∀ j u, vs[j]? = some u → (w.alloc (.cells #[] 55)).cell? (ad'.add j) = some u := by
    intro ad' e j u hu
    injection e with e
    subst e
    have hj : j < yss.length := by have := (List.getElem?_eq_some_iff.1 hu).1; have := h.len; omega
    obtain ⟨B, m, d, e1, e2, _⟩ := hvs j _ (List.getElem?_eq_getElem hj)
    rw [hu] at e1
    injection e1 with e1
    subst e1
    have := (hb1.cell (p := ⟨gy, j, none⟩) (World.block_lt_of_cell? w _ e2)).trans e2
    rw [Addr.add_lit]
    simpa using this
  have hone : ∀ u ∈ vs, u.oneCell' = true := by
    intro u hu
    obtain ⟨j, hj⟩ := List.mem_iff_getElem?.1 hu
    have hj2 : j < yss.length := by have := (List.getElem?_eq_some_iff.1 hj).1; have := h.len; omega
    obtain ⟨B, m, d, e1, _⟩ := hvs j _ (List.getElem?_eq_getElem hj2)
    rw [hj] at e1
    injection e1 with e1
    subst e1
    rfl
  have H2 := hide hsrc
  have HONE := hide hone
  have HVS := hide hvs
  have HL := hide h.len
  have HVL := hide hvl
  clear hsrc hone hvs hc
  go_enter Tryz.func34, Tryz.ntmps34
  go_wp2_with (at_builtin; refine wpl_app rfl (.tmp 5) (.tmp 6) 52 rfl _ w.heap.size 55 i0 (.slice none 0 0) 1 24 Tryz.underlying52 hi0 hz0 hz1 hz2 rfl (by omega) (some ⟨w.heap.size, 0, none⟩) 0 0 [] rfl hown (some ⟨gy, 0, none⟩) dim cy vs rfl (by simp [HVL.out]) (fun ad' e => H2.out ad' e) (fun e => by cases e) HONE.out (by omega) (by omega) (by simp) ?_; intro A2 c2 w2 happ)
  have e : 0 + dim = dim := by omega
  rw [e] at happ
  have h3 := happ.1
  rw [List.nil_append] at h3
  have hb : Below w.heap.size w w2 := happ.below (below_alloc w _) (by simp) (by intro ad e; cases e; exact Nat.le_refl _)
  clear happ
  have hg : ∃ g, A2 = some ⟨g, 0, none⟩ ∧ w.heap.size ≤ g ∧ g < w2.heap.size := by
    rcases h3.2 with ⟨_, e⟩ | ⟨g, _, _, e, h1, h2, _⟩
    · omega
    · injection e with e
      exact ⟨g, e, h1, (Array.getElem?_eq_some_iff.1 h2).1⟩
  obtain ⟨g, rfl, hg1, hg2⟩ := hg
  have HR : Hid (Lst kI 55 (fun _ => True) w2 (min lo w.heap.size) w2.heap.size (some ⟨g, 0, none⟩) dim c2 vs yss) :=
    ⟨owns_low h3 (Nat.min_le_right _ _), fun ad e => by injection e with e; subst e; exact hg2, HL.out, fun j xs hj _ => by
      obtain ⟨B, m, d, e1, _, e3⟩ := HVS.out j xs hj
      exact ⟨_, lo, hi, e1, ⟨B, m, d, rfl, e3.below hb hh⟩, Nat.min_le_left _ _, by have := hb.size; omega, fun ad e => .inl (by injection e with e; subst e; show hi ≤ g; omega)⟩⟩
  have HB := hide hb
  clear h3 hb
  go_wp2_with fail
  go_ret
  exact ⟨_, _, rfl, ⟨_, HR.out⟩, hg1, HB.out⟩
end Go.Proofs.YtkaepjigmcielaaGreatDoor
