/- Derivatives along directions: lists for ring elements, the products on their way in memory. -/
import Derived.Test.YtkaepjigmcielaaGreatDoorMzL
import Derived.Test.YtkaepjigmcielaaGreatDoorMzM
import Derived.Test.YtkaepjigmcielaaGreatDoorJetA
namespace Go.Proofs.YtkaepjigmcielaaGreatDoor
open Go.RowKit
set_option linter.unusedSimpArgs false
set_option linter.unusedVariables false
namespace Jr
variable {n : Nat}
theorem mul_lst (u v : Jr n) : jmul (lst u) (lst v) = lst (u * v) :=
  eq_lst (by rw [jmul_len, lst_len]) (jmul_rng _ _) (by rw [of_mul (lst_len u), of_lst, of_lst])
theorem plus_lst (u v : Jr n) (k : Int) : jplus (lst u) (lst v) k = lst (u + cst k * v) :=
  eq_lst (by rw [jplus_len, lst_len]) (jplus_rng _ _ _) (by rw [of_plus (lst_len u), of_lst, of_lst])
theorem plus_lst1 (u v : Jr n) : jplus (lst u) (lst v) 1 = lst (u + v) := by rw [plus_lst, cst_one, one_mul]
theorem lst_zero : lst (0 : Jr n) = zeroJ n :=
  (eq_lst (zero_len n) (fun x hx => by have := (List.mem_replicate.1 hx).2; omega) of_zero).symm
theorem lst_unit {c : Int} (h0 : 0 ≤ c) (h1 : c < 1000000271) : lst (cst c : Jr n) = unitJ n c :=
  (eq_lst (unit_len n c) (tabJ_num fun j => by split <;> omega) (of_unit c)).symm
theorem rowsJ_ext {dim : Nat} {D E : Nat → Jr n} (h : ∀ v, v < dim → D v = E v) : rowsJ dim D = rowsJ dim E := by
  unfold rowsJ
  exact List.map_congr_left fun v hv => by rw [h v (List.mem_range.1 hv)]
theorem rowsJ_set {dim k : Nat} (D : Nat → Jr n) (u : Jr n) : (rowsJ dim D).set k (lst u) = rowsJ dim (fun v => if v = k then u else D v) := by
  apply List.ext_getElem?
  intro j
  rw [List.getElem?_set]
  by_cases hj : j < dim
  · have e2 : (rowsJ dim fun v => if v = k then u else D v)[j]? = some (lst (if j = k then u else D j)) := rowsJ_at _ hj
    rw [e2]
    by_cases h : k = j
    · subst h
      rw [if_pos rfl, if_pos (by rw [rowsJ_len]; exact hj), if_pos rfl]
    · rw [if_neg h, rowsJ_at _ hj, if_neg (fun e => h e.symm)]
  · have e1 : (rowsJ dim D)[j]? = none := List.getElem?_eq_none (by rw [rowsJ_len]; omega)
    have e2 : (rowsJ dim fun v => if v = k then u else D v)[j]? = none := List.getElem?_eq_none (by rw [rowsJ_len]; omega)
    rw [e1, e2]
    split
    · rw [if_neg (by rw [rowsJ_len]; omega)]
    · rfl
theorem rows_of {dim : Nat} {xss : List (List Int)} (hl : xss.length = dim) (h : JNum n xss) : rowsJ dim (fun v => (of (xss.getD v []) : Jr n)) = xss := by
  apply List.ext_getElem?
  intro j
  by_cases hj : j < dim
  · rw [rowsJ_at _ hj, List.getElem?_eq_getElem (by omega)]
    have hx := h xss[j] (List.getElem_mem (by omega))
    have e : xss.getD j [] = xss[j] := by simp [List.getD, show j < xss.length by omega]
    rw [e, lst_of hx.1 hx.2]
  · rw [List.getElem?_eq_none (by rw [rowsJ_len]; omega), List.getElem?_eq_none (by omega)]
theorem of_rows {dim v : Nat} (D : Nat → Jr n) (h : v < dim) : of ((rowsJ dim D).getD v []) = D v := by rw [rowsJ_get D h, of_lst]
/-- the directions as the contracts name them -/
theorem dirs_list (dss : List (List (List Int))) : (List.range dss.length).map (fun d v => (of ((dss.getD d []).getD v []) : Jr n)) = dss.map fun xss v => of (xss.getD v []) := by
  apply List.ext_getElem?
  intro j
  by_cases hj : j < dss.length
  · simp [hj, List.getD]
  · simp [hj]
end Jr
theorem deg_sum : ∀ (l : List Int) (s : Int), 0 ≤ degGo s l → 0 ≤ s → degGo s l = l.foldl (fun (a b : Int) => a + b) s ∧ ∀ x ∈ l, 0 ≤ x ∧ x ≤ 5
  | [], s, h, _ => ⟨rfl, by simp⟩
  | p :: r, s, h, hs => by
    rw [degGo] at h ⊢
    by_cases hp : p < 0 ∨ 5 < p
    · rw [if_pos hp] at h; omega
    · rw [if_neg hp] at h ⊢
      have ih := deg_sum r (s + p) h (by omega)
      refine ⟨ih.1, fun x hx => ?_⟩
      rcases List.mem_cons.1 hx with rfl | hx
      · omega
      · exact ih.2 x hx
theorem good_e {dim : Nat} {pw : List Int} (hl : pw.length = dim) (h : 0 ≤ degGo 0 pw) : Jr.GoodE dim pw := ⟨hl, fun x hx => ((deg_sum pw 0 h (by omega)).2 x hx).1⟩
/-- the factors taken so far: all ahead of v, and p of v -/
def expo (dim : Nat) (pw : List Int) (v : Nat) (p : Int) : List Int := (List.range dim).map fun u => if u < v then pw.getD u 0 else if u = v then p else 0
theorem expo_len (dim : Nat) (pw : List Int) (v : Nat) (p : Int) : (expo dim pw v p).length = dim := by simp [expo]
theorem expo_good {dim : Nat} {pw : List Int} (h : Jr.GoodE dim pw) (v : Nat) {p : Int} (hp : 0 ≤ p) : Jr.GoodE dim (expo dim pw v p) :=
  ⟨expo_len _ _ _ _, fun x hx => by
    simp only [expo, List.mem_map, List.mem_range] at hx
    obtain ⟨u, _, rfl⟩ := hx
    have := h.at_ u
    split
    · exact this
    · split <;> omega⟩
theorem expo_start (dim : Nat) (pw : List Int) : expo dim pw 0 0 = List.replicate dim 0 := by
  unfold expo
  rw [List.map_congr_left (g := fun _ => (0 : Int)) (fun u _ => by rw [if_neg (by omega)]; split <;> rfl)]
  apply List.ext_getElem?
  intro j
  by_cases hj : j < dim <;> simp [hj, List.getElem?_replicate]
theorem expo_inc {dim v : Nat} (pw : List Int) (hv : v < dim) (p : Int) : Jr.inc v (expo dim pw v p) = expo dim pw v (p + 1) := by
  unfold Jr.inc
  apply List.ext_getElem?
  intro j
  have e1 : (expo dim pw v p).getD v 0 = p := by simp [expo, List.getD, hv]
  rw [e1, List.getElem?_set]
  by_cases hj : j < dim
  · by_cases h : v = j
    · subst h
      simp [expo, hv]
    · rw [if_neg h]
      simp only [expo, List.getElem?_map, List.getElem?_range hj, Option.map_some]
      rw [if_neg (show ¬ j = v from fun e => h e.symm), if_neg (show ¬ j = v from fun e => h e.symm)]
  · simp [expo, hj]
    omega
theorem expo_next {dim v : Nat} {pw : List Int} (hl : pw.length = dim) : expo dim pw v (pw.getD v 0) = expo dim pw (v + 1) 0 := by
  unfold expo
  refine List.map_congr_left fun u _ => ?_
  by_cases h1 : u < v
  · rw [if_pos h1, if_pos (by omega)]
  · rw [if_neg h1]
    by_cases h2 : u = v
    · subst h2
      rw [if_pos rfl, if_pos (by omega)]
    · rw [if_neg h2, if_neg (show ¬ u < v + 1 by omega)]
      split <;> rfl
theorem expo_all {dim : Nat} {pw : List Int} (hl : pw.length = dim) : expo dim pw dim 0 = pw := by
  apply List.ext_getElem?
  intro j
  by_cases hj : j < dim
  · simp only [expo, List.getElem?_map, List.getElem?_range hj, Option.map_some]
    rw [if_pos hj, List.getElem?_eq_getElem (by omega)]
    simp [List.getD, show j < pw.length by omega]
  · rw [List.getElem?_eq_none (by rw [expo_len]; omega), List.getElem?_eq_none (by omega)]
theorem OwnI.putD {w : World} {lo hi n c g : Nat} {xs : List Int} (h : OwnI w lo hi (some ⟨g, 0, none⟩) n c xs) (k : Nat) {x : Int} (hx : R64 x) : OwnI (w.setCell ⟨g, k, none⟩ (.int .i64 x)) lo hi (some ⟨g, 0, none⟩) n c (xs.set k x) :=
  ⟨by
    have := (h.own.stored k (.int .i64 x)).1
    rwa [← List.map_set] at this, h.lt, fun y hy => by
    rcases List.mem_or_eq_of_mem_set hy with hy | rfl
    · exact h.rng y hy
    · exact hx⟩
theorem bit_facts {s q : Nat} (hs : s < 8) (hq : q < 3) (hbit : s / 2 ^ q % 2 = 1) : ∃ D sd : Nat, Hid (sd = s - 2 ^ q) ∧ sd < s ∧ Hid (bits BinOp.xor IntKind.i64 (s : Int) (D : Int) = (sd : Int)) ∧ Hid (wrap64 ((2 : Int) ^ q) = (D : Int)) ∧ Hid (IntKind.i64.wrap ((2 : Int) ^ q) = (D : Int)) := by
  have h : ∀ s ∈ List.range 8, ∀ q ∈ List.range 3, s / 2 ^ q % 2 = 1 → s - 2 ^ q < s ∧ bits BinOp.xor IntKind.i64 (s : Int) ((2 ^ q : Nat) : Int) = ((s - 2 ^ q : Nat) : Int) ∧ wrap64 ((2 : Int) ^ q) = ((2 ^ q : Nat) : Int) ∧ IntKind.i64.wrap ((2 : Int) ^ q) = ((2 ^ q : Nat) : Int) := by decide +kernel
  obtain ⟨h1, h2, h3, h4⟩ := h s (by simpa using hs) q (by simpa using hq) hbit
  exact ⟨2 ^ q, s - 2 ^ q, rfl, h1, h2, h3, h4⟩
def dirO (n : Nat) (xss : List (List Int)) (v : Nat) : Jr n := Jr.of (xss.getD v [])
/-- the product of a set of directions, with its number -/
def setE {n : Nat} (A : Nat → Nat → Jr n) (Y : Nat → Jr n) (dim K : Nat) (co : Int) (s : Nat) (e : List Int) : Jr n := Jr.cst co * Jr.dn dim (Jr.dirs A K s) (Jr.ev Y 0) e
/-- what the first d directions add -/
def setP {n : Nat} (A : Nat → Nat → Jr n) (Y : Nat → Jr n) (dim K : Nat) (co : Int) (s v : Nat) (e : List Int) (d : Nat) : Jr n := Jr.cst co * Jr.part A dim K s v (Jr.ev Y 0) e d
section
variable {n : Nat} {A : Nat → Nat → Jr n} {Y : Nat → Jr n} {dim K : Nat} {co : Int}
theorem set_start {s : Nat} (hK : K ≤ 3) (hs : s < 2 ^ K) (pw : List Int) : setE A Y dim K co s (expo dim pw 0 0) = if s = 0 then Jr.cst co else 0 := by
  unfold setE
  rw [expo_start, Jr.dirs_start Y A hK hs]
  by_cases h : s = 0
  · rw [if_pos h, if_pos h, Jr.mul_comm, Jr.one_mul]
  · rw [if_neg h, if_neg h, Jr.mul_zero]
theorem set_zero {s v : Nat} {e : List Int} : setE A Y dim K co s e * Y v = Y v * setE A Y dim K co s e + setP A Y dim K co s v e 0 := by
  unfold setP
  rw [Jr.part_zero, Jr.mul_zero, Jr.add_zero, Jr.mul_comm]
theorem set_yes {s v d : Nat} {e : List Int} (h : s / 2 ^ d % 2 = 1) : Y v * setE A Y dim K co s e + setP A Y dim K co s v e d + setE A Y dim K co (s - 2 ^ d) e * A d v = Y v * setE A Y dim K co s e + setP A Y dim K co s v e (d + 1) := by
  unfold setP
  rw [Jr.part_yes _ _ _ _ _ _ _ h, Jr.mul_add, Jr.add_assoc]
  congr 2
  unfold setE
  rw [Jr.mul_assoc, Jr.mul_comm (A d v)]
theorem set_no {s v d : Nat} {e : List Int} (h : ¬ s / 2 ^ d % 2 = 1) : Y v * setE A Y dim K co s e + setP A Y dim K co s v e d = Y v * setE A Y dim K co s e + setP A Y dim K co s v e (d + 1) := by
  unfold setP
  rw [Jr.part_no _ _ _ _ _ _ _ h]
theorem set_all {s v : Nat} {e : List Int} (hv : v < dim) (hK : K ≤ 3) (hs : s < 2 ^ K) (he : Jr.GoodE dim e) : Y v * setE A Y dim K co s e + setP A Y dim K co s v e K = setE A Y dim K co s (Jr.inc v e) := by
  unfold setP setE
  rw [Jr.dirs_inc hv Y A hK hs he, Jr.mul_add, ← Jr.mul_assoc, ← Jr.mul_assoc, Jr.mul_comm (Y v)]
theorem set_full (hK : K ≤ 3) (e : List Int) : setE A Y dim K co (2 ^ K - 1) e = Jr.cst co * Jr.dn dim ((List.range K).map A) (Jr.ev Y 0) e := by
  unfold setE
  rw [Jr.dirs_full A hK]
end

/-- One monomial on its way: its copy, the products of the sets of directions, the sum so far. -/
structure NowD (w wr : World) (g11 gN go n sets : Nat) (co : Int) (Pw : Value) (o : List Int) (xs : List (List Int)) : Prop where
  mono : BlkN wr g11 #[.int .i64 co, Pw]
  now : ∃ vs, Lst kI 55 (fun _ => True) wr gN wr.heap.size (some ⟨gN, 0, none⟩) sets sets vs xs
  out : Ints wr w.heap.size g11 (some ⟨go, 0, none⟩) n n o
  low : Below w.heap.size w wr
  ord : g11 < gN ∧ w.heap.size ≤ g11
section
variable {w wr w' : World} {g11 gN go n sets : Nat} {co : Int} {Pw : Value} {o : List Int} {xs : List (List Int)}
theorem NowD.below (h : NowD w wr g11 gN go n sets co Pw o xs) (hb : Below wr.heap.size wr w') : NowD w w' g11 gN go n sets co Pw o xs := by
  have hz := h.low.size
  have hm := h.mono.lt
  obtain ⟨vs, hn⟩ := h.now
  exact ⟨h.mono.below hb, ⟨vs, (hn.below hb (Nat.le_refl _)).wide hb.size⟩, h.out.below hb (by omega), h.low.trans (hb.mono hz), h.ord⟩
theorem NowD.drew (h : NowD w wr g11 gN go n sets co Pw o xs) : NowD w wr.drew g11 gN go n sets co Pw o xs := h.below (Below.refl _ _).drew
theorem NowD.at_ (h : NowD w wr g11 gN go n sets co Pw o xs) {s : Nat} (hs : s < sets) : ∃ B m d x, wr.cell? ⟨gN, s, none⟩ = some (.slice B m d) ∧ Ints wr gN wr.heap.size B m d x ∧ Hid (xs[s]? = some x) ∧ wr.frozen? ⟨gN, s, none⟩ = false := by
  obtain ⟨vs, hn⟩ := h.now
  obtain ⟨v, l, h', x, hc, ⟨B, m, d, rfl, hI⟩, h1, h2, hx⟩ := hn.at_ hs trivial
  exact ⟨B, m, d, x, hc, hI.wide h1 h2, hx, hn.own.frozenAt s⟩
theorem NowD.glt (h : NowD w wr g11 gN go n sets co Pw o xs) : gN < wr.heap.size := by
  obtain ⟨vs, hn⟩ := h.now
  exact hn.lt _ rfl
theorem NowD.put (h : NowD w wr g11 gN go n sets co Pw o xs) {s : Nat} (hs : s < sets) (hb : Below wr.heap.size wr w') {B : Option Addr} {m d : Nat} {x : List Int} (hx : Ints w' wr.heap.size w'.heap.size B m d x) :
    NowD w (w'.setCell ⟨gN, s, none⟩ (.slice B m d)) g11 gN go n sets co Pw o (xs.set s x) := by
  have hz := h.low.size
  have hm := h.mono.lt
  have hg := h.glt
  have ho := h.ord
  have hsz := hb.size
  have hse : (w'.setCell ⟨gN, s, none⟩ (.slice B m d)).heap.size = w'.heap.size := by simp [World.setCell]
  obtain ⟨vs, hn⟩ := (h.below hb).now
  have hn0 := h.now
  obtain ⟨vs0, hn0⟩ := hn0
  have hn1 := hn0.below hb (Nat.le_refl _)
  have hp := hn1.put (v := .slice B m d) (x := x) (l := wr.heap.size) (h' := w'.heap.size) ⟨B, m, d, rfl, hx⟩ (Nat.le_refl _) (by omega) (hi2 := w'.heap.size) (Nat.le_refl _) hsz hs (P' := fun _ => True) (fun _ _ _ => trivial)
  exact ⟨(h.mono.below hb).far (by omega) _, ⟨_, by rw [hse]; exact hp⟩, (h.out.below hb (by omega)).same (Same.setCell (p := ⟨gN, s, none⟩) (Same.refl _ _ _) (.inr (by show g11 ≤ gN; omega)) _), (h.low.trans (hb.mono hz)).setCell (p := ⟨gN, s, none⟩) (by show w.heap.size ≤ gN; omega) _, ho⟩
end
/-- the products being laid -/
structure NowI (w wr : World) (g11 gN go n sets j : Nat) (co : Int) (Pw : Value) (o : List Int) : Prop where
  mono : BlkN wr g11 #[.int .i64 co, Pw]
  now : ∃ vs, OutS kO wr gN wr.heap.size 55 gN sets sets j vs (List.replicate sets (zeroJ n))
  out : Ints wr w.heap.size g11 (some ⟨go, 0, none⟩) n n o
  low : Below w.heap.size w wr
  ord : g11 < gN ∧ w.heap.size ≤ g11
section
variable {w wr w' : World} {g11 gN go n sets j : Nat} {co : Int} {Pw : Value} {o : List Int} {xs : List (List Int)}
theorem NowI.start {W : World} (hsets : sets ≤ 1000) (hm : BlkN W g11 #[.int .i64 co, Pw]) (hO : Ints W w.heap.size g11 (some ⟨go, 0, none⟩) n n o) (hb : Below w.heap.size w W) (ho : g11 + 1 = W.heap.size ∧ w.heap.size ≤ g11) :
    NowI w (W.alloc (.cells (madeCells #[.slice none 0 0] sets) 55)) g11 W.heap.size go n sets 0 co Pw o := by
  have a1 := below_alloc W (.cells (madeCells #[.slice none 0 0] sets) 55)
  have z1 : (W.alloc (.cells (madeCells #[.slice none 0 0] sets) 55)).heap.size = W.heap.size + 1 := by simp
  refine ⟨hm.below a1, ⟨_, by rw [z1]; exact OutS.nils kO 55 W sets (List.length_replicate ..) (by omega) (.slice none 0 0) rfl⟩, hO.below a1 (by omega), hb.trans (a1.mono (by omega)), by omega⟩
theorem NowI.cell (h : NowI w wr g11 gN go n sets j co Pw o) {k : Nat} (hk : k < sets) : ∃ v, wr.cell? ⟨gN, k, none⟩ = some v ∧ wr.frozen? ⟨gN, k, none⟩ = false := by
  obtain ⟨vs, hn⟩ := h.now
  obtain ⟨v, h1, _, h2⟩ := hn.at_ hk
  exact ⟨v, h1, h2⟩
theorem NowI.step (h : NowI w wr g11 gN go n sets j co Pw o) (hj : j < sets) (hn : n ≤ 1000) :
    NowI w ((wr.alloc (.cells (zeros n) 3)).setCell ⟨gN, j, none⟩ (.slice (some ⟨wr.heap.size, 0, none⟩) n n)) g11 gN go n sets (j + 1) co Pw o := by
  have ho := h.ord
  have hm := h.mono.lt
  have hlow := h.low
  obtain ⟨vs, hN⟩ := h.now
  have hg := hN.lt
  have hvl := hN.vlen
  have f := FillS.start wr n hn
  have z1 : (wr.alloc (.cells (zeros n) 3)).heap.size = wr.heap.size + 1 := by simp
  have a1 := below_alloc wr (.cells (zeros n) 3)
  generalize wr.alloc (.cells (zeros n) 3) = W1 at f z1 a1 ⊢
  have hse : (W1.setCell ⟨gN, j, none⟩ (.slice (some ⟨wr.heap.size, 0, none⟩) n n)).heap.size = wr.heap.size + 1 := by rw [← z1]; simp [World.setCell]
  have h1 := (hN.below a1 (Nat.le_refl _)).hole (.slice (some ⟨wr.heap.size, 0, none⟩) n n)
  have fo : OwnI (W1.setCell ⟨gN, j, none⟩ (.slice (some ⟨wr.heap.size, 0, none⟩) n n)) wr.heap.size (wr.heap.size + 1) (some ⟨wr.heap.size, 0, none⟩) n n (zeroJ n) := f.own.same (Same.setCell (p := ⟨gN, j, none⟩) (Same.refl _ _ _) (.inl (by show gN < wr.heap.size; omega)) _)
  refine ⟨(h.mono.below a1).far (by omega) _, ⟨_, by rw [hse]; exact h1.fill (l := wr.heap.size) (List.getElem?_set_self (by omega)) (by rw [List.getElem?_replicate, if_pos hj]) ⟨_, _, _, rfl, fo⟩ (Nat.le_refl _) (Nat.le_succ _)⟩, (h.out.below a1 (by omega)).same (Same.setCell (p := ⟨gN, j, none⟩) (Same.refl _ _ _) (.inr (by show g11 ≤ gN; omega)) _), (hlow.trans (a1.mono hlow.size)).setCell (p := ⟨gN, j, none⟩) (by show w.heap.size ≤ gN; omega) _, ho⟩
theorem NowI.first (h : NowI w wr g11 gN go n sets sets co Pw o) (hs : 0 < sets) (hn0 : 0 < n) (hc : 0 ≤ co ∧ co < 1000000271) : ∃ gj d v, wr.cell? ⟨gN, 0, none⟩ = some (.slice (some ⟨gj, 0, none⟩) n d) ∧ n ≤ d ∧ d ≤ 9223372036854775807 ∧ wr.cell? ⟨gj, 0, none⟩ = some v ∧ wr.frozen? ⟨gj, 0, none⟩ = false ∧
    NowD w (wr.setCell ⟨gj, 0, none⟩ (.int .i64 co)) g11 gN go n sets co Pw o (Jr.rowsJ sets fun s => (if s = 0 then Jr.cst co else 0 : Jr n)) := by
  have ho := h.ord
  have hm := h.mono.lt
  have hlow := h.low
  obtain ⟨vs, hN⟩ := h.now
  have hg := hN.lt
  have hvl := hN.vlen
  have hst := hN.stk
  rw [List.take_of_length_le (by omega), List.take_of_length_le (by simp)] at hst
  obtain ⟨q, rfl⟩ : ∃ q, sets = q + 1 := ⟨sets - 1, by omega⟩
  cases vs with
  | nil => simp at hvl
  | cons v0 vr =>
    rw [List.replicate_succ] at hst
    obtain ⟨l, m, h1, h2, h3, ⟨B, k, d, rfl, hO⟩, hst2⟩ := hst.head
    obtain rfl : n = k := by rw [← hO.ints.len, zero_len]
    obtain ⟨gj, rfl, hg1, hg2, hg3⟩ := hO.form hn0
    obtain ⟨u, hu, hvu, hfu⟩ := hN.at_ (k := 0) (by omega)
    obtain rfl : Value.slice (some ⟨gj, 0, none⟩) n d = u := by simpa using hvu
    have hcb := hO.capb
    have hcx : ∃ v, wr.cell? ⟨gj, 0, none⟩ = some v := by
      obtain ⟨ad, e, _, _, hcs⟩ := hO.ints.cells hn0
      injection e with e
      subst e
      exact ⟨_, by simpa [Addr.add_lit] using hcs 0 0 (by simp [zeroJ, hn0])⟩
    obtain ⟨v, hcv⟩ := hcx
    have hse : (wr.setCell ⟨gj, 0, none⟩ (.int .i64 co)).heap.size = wr.heap.size := by simp [World.setCell]
    refine ⟨gj, d, v, hu, hcb.1, hcb.2, hcv, hO.own.frozenAt 0, h.mono.far (by omega) _, ⟨.slice (some ⟨gj, 0, none⟩) n d :: vr, ?_⟩, h.out.same (Same.setCell (p := ⟨gj, 0, none⟩) (Same.refl _ _ _) (.inr (by show g11 ≤ gj; omega)) _), hlow.setCell (p := ⟨gj, 0, none⟩) (by show w.heap.size ≤ gj; omega) _, ho⟩
    rw [hse]
    have hO2 : OwnI (wr.setCell ⟨gj, 0, none⟩ (.int .i64 co)) l m (some ⟨gj, 0, none⟩) n d (unitJ n co) := by
      have := hO.putD 0 (x := co) (by constructor <;> omega)
      rwa [unit_set hn0] at this
    have hst3 : Stk kO (wr.setCell ⟨gj, 0, none⟩ (.int .i64 co)) m wr.heap.size vr (List.replicate q (zeroJ n)) := hst2.same (Same.setCell (p := ⟨gj, 0, none⟩) (Same.refl _ _ _) (.inl (by show gj < m; omega)) _)
    have hown : (wr.setCell ⟨gj, 0, none⟩ (.int .i64 co)).ownsRow gN 55 1 (.slice (some ⟨gN, 0, none⟩) (q + 1) (q + 1)) (q + 1) (.slice (some ⟨gj, 0, none⟩) n d :: vr) :=
      owns_same hN.own (fun ad e => by
        injection e with e
        subst e
        exact Below.heap_setCell _ ⟨gj, 0, none⟩ _ gN (by show gN ≠ gj; omega))
    have hrow : Jr.rowsJ (q + 1) (fun s => (if s = 0 then Jr.cst co else 0 : Jr n)) = unitJ n co :: List.replicate q (zeroJ n) := by
      apply List.ext_getElem?
      intro j
      by_cases hj : j < q + 1
      · rw [Jr.rowsJ_at _ hj]
        cases j with
        | zero => rw [if_pos rfl, Jr.lst_unit hc.1 hc.2]; rfl
        | succ j => rw [if_neg (by omega), Jr.lst_zero, List.getElem?_cons_succ, List.getElem?_replicate, if_pos (by omega)]
      · rw [List.getElem?_eq_none (by rw [Jr.rowsJ_len]; omega), List.getElem?_eq_none (by simp; omega)]
    rw [hrow]
    refine ⟨hown, fun ad e => by injection e with e; subst e; exact hg, by simp, fun j x hx _ => ?_⟩
    have hall : Stk kO (wr.setCell ⟨gj, 0, none⟩ (.int .i64 co)) (gN + 1) wr.heap.size (.slice (some ⟨gj, 0, none⟩) n d :: vr) (unitJ n co :: List.replicate q (zeroJ n)) := ⟨l, m, h1, h2, ⟨_, _, _, rfl, hO2⟩, hst3⟩
    obtain ⟨v', l', m', e1, ⟨B', k', d', rfl, hO'⟩, e2, e3, e4⟩ := hall.get hx
    exact ⟨_, l', m', e1, ⟨_, _, _, rfl, hO'.ints⟩, by omega, e4, fun ad e => .inr (by injection e with e; subst e; show gN < l'; omega)⟩
end
end Go.Proofs.YtkaepjigmcielaaGreatDoor
