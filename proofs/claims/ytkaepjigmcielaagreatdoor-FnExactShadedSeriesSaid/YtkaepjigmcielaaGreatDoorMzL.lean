/- Shaded trees: what the table says of each row, for the program's walk. -/
import Derived.Test.YtkaepjigmcielaaGreatDoorMzK
import Derived.Test.YtkaepjigmcielaaGreatDoorMzA
import Derived.Test.YtkaepjigmcielaaGreatDoorMzH
import Derived.Test.YtkaepjigmcielaaGreatDoorMzE
namespace Go.Proofs.YtkaepjigmcielaaGreatDoor
open Go.RowKit
set_option linter.unusedSimpArgs false
set_option linter.unusedVariables false
set_option maxRecDepth 20000

theorem cnt_step : ∀ n ∈ [1, 2, 3, 4], cntF (n - 1) ≤ cntF n ∧ cntF n ≤ 72 := by decide
theorem tabL_len : tabL.length = 72 := by decide +kernel
def rowsT (n : Nat) : List (List Int) := (tabL.take (cntF n)).drop (cntF (n - 1))
theorem rowsT_eq {n : Nat} (h1 : 1 ≤ n) (h4 : n ≤ 4) : compF (sortF (listsF n)) = rowsT n := rows_tab n (by simp; omega)
theorem rowsT_len {n : Nat} (h1 : 1 ≤ n) (h4 : n ≤ 4) : (rowsT n).length = cntF n - cntF (n - 1) := by
  have := cnt_step n (by simp; omega)
  have := tabL_len
  simp [rowsT]
  omega

theorem placeL_take {xs : List (List Int)} {a b : Nat} {p : List Int} (hab : a ≤ b) (h : placeL (xs.take a) p ≠ -1) : placeL (xs.take b) p = placeL (xs.take a) p ∧ 0 ≤ placeL (xs.take a) p ∧ placeL (xs.take a) p < a := by
  unfold placeL at h ⊢
  cases hf : (xs.take a).findIdx? (fun x => decide (x = p)) with
  | none => rw [hf] at h; exact absurd rfl h
  | some i =>
    have e : xs.take b = xs.take a ++ (xs.drop a).take (b - a) := by
      rw [show b = a + (b - a) by omega, List.take_add]
      congr 2
      omega
    have hi : i < (xs.take a).length := by
      have := List.findIdx?_eq_some_iff_getElem.1 hf
      exact this.1
    rw [e, List.findIdx?_append, hf]
    simp at hi
    simp
    omega

def symAt (b : Int) : Int := ((tabS[b.toNat]?).map (·.2.2)).getD 0
/-- every number that the program comes by while it reckons a symmetry is small -/
def symOk : List Int → Option Int → Int → Int → Bool
  | [], _, _, acc => decide (0 ≤ acc ∧ acc ≤ 1000000)
  | b :: r, pv, times, acc =>
    let t := if pv.all (fun p => decide (b = p)) then times + 1 else 1
    decide (0 ≤ times ∧ times ≤ 10) && decide (0 ≤ t ∧ t ≤ 10) && decide (0 ≤ symAt b ∧ symAt b ≤ 1000) && decide (0 ≤ t * symAt b ∧ t * symAt b ≤ 10000) && decide (0 ≤ acc ∧ acc ≤ 1000000) && decide (0 ≤ acc * (t * symAt b) ∧ acc * (t * symAt b) ≤ 1000000) && symOk r (some b) t (acc * (t * symAt b))
theorem tab_sym2 : (tabS.all fun t => decide (symGo symAt t.2.1 none 0 1 = t.2.2) && symOk t.2.1 none 0 1 && decide (t.2.1.length ≤ 3)) = true := by decide +kernel
theorem tab_small : (tabL.all fun l => l.all fun x => decide (0 ≤ x ∧ x ≤ 1000)) = true := by decide +kernel

structure RowF (N0 k : Nat) (l : List Int) (a : Int) (r : List Int) (bs : List Int) (sy : Int) : Prop where
  eq : l = a :: r
  row : tabS[N0 + k]? = some (l, bs, sy)
  half : okG 4 1 (halfF l) = true
  len : l.length ≤ 4
  small : ∀ x ∈ l, 0 ≤ x ∧ x ≤ 1000
  two : ∀ x ∈ r, 2 ≤ x
  head : ∀ x ∈ r.head?, x < 4
  place : ∀ p ∈ partsF [] r, placeL (tabL.take (N0 + k)) p = placeL (tabL.take (N0)) p ∧ 0 ≤ placeL (tabL.take (N0)) p ∧ placeL (tabL.take (N0)) p < N0
  bran : sortI ((partsF [] r).map (placeL (tabL.take (N0)))) = bs
  sym : symGo symAt bs none 0 1 = sy
  symo : symOk bs none 0 1 = true
  blen : bs.length ≤ 3
theorem row_facts {n k : Nat} (h1 : 1 ≤ n) (h4 : n ≤ 4) {l : List Int} (h : (rowsT n)[k]? = some l) : ∃ a r bs sy, RowF (cntF (n - 1)) k l a r bs sy := by
  have hn : n ∈ [1, 2, 3, 4] := by simp; omega
  obtain ⟨c1, c2⟩ := cnt_step n hn
  have hk := (List.getElem?_eq_some_iff.1 h).1
  rw [rowsT_len h1 h4] at hk
  have hkl : cntF (n - 1) + k < cntF n := by omega
  have hL : tabL[cntF (n - 1) + k]? = some l := by
    unfold rowsT at h
    rw [List.getElem?_drop, List.getElem?_take_of_lt hkl] at h
    exact h
  have htl := tab_len
  obtain ⟨t, ht⟩ : ∃ t, tabS[cntF (n - 1) + k]? = some t := ⟨_, List.getElem?_eq_getElem (by omega)⟩
  have htt : t.1 = l := by
    have : tabL[cntF (n - 1) + k]? = (tabS[cntF (n - 1) + k]?).map (·.1) := by simp [tabL]
    rw [ht, hL] at this
    injection this with this
    exact this.symm
  obtain ⟨l', bs, sy⟩ := t
  obtain rfl : l' = l := htt
  have hm := List.mem_of_getElem? hL
  have hms := List.mem_of_getElem? ht
  have f1 := List.all_eq_true.1 half_ok _ hm
  have f2 := good_of (List.all_eq_true.1 tab_ok _ hm)
  have f3 := List.all_eq_true.1 tab_sym2 _ hms
  have f4 : ∀ x ∈ l', 0 ≤ x ∧ x ≤ 1000 := by simpa [List.all_eq_true] using List.all_eq_true.1 tab_small _ hm
  simp only [Bool.and_eq_true, decide_eq_true_eq] at f3
  obtain ⟨a, r, e⟩ : ∃ a r, l' = a :: r := by
    obtain ⟨b, q, e, _⟩ := f2.1
    exact ⟨b, q, e⟩
  subst e
  obtain ⟨b, q, e, g0, g1, g2⟩ := f2.1
  injection e with e1 e2
  subst e1 e2
  have f5 : (match ((a :: r), bs, sy).1 with
    | [] => false
    | _ :: r => (partsF [] r).all (fun p => decide (placeL (tabL.take (cntF (n - 1))) p ≠ -1)) && decide (sortI ((partsF [] r).map (placeL (tabL.take (cntF (n - 1))))) = bs)) = true :=
    List.all_eq_true.1 (tab_branches n hn) ((a :: r), bs, sy) (List.mem_of_getElem? (i := k) (by rw [List.getElem?_drop, List.getElem?_take_of_lt hkl]; exact ht))
  simp only [Bool.and_eq_true, decide_eq_true_eq, List.all_eq_true] at f5
  exact ⟨a, r, bs, sy, rfl, ht, f1, f2.2, f4, shadesGo_two r a g2, shadesGo_head g1 g0 g2, fun p hp => placeL_take (by omega) (f5.1 p hp), f5.2, f3.1.1, f3.1.2, f3.2⟩
end Go.Proofs.YtkaepjigmcielaaGreatDoor
/- Weights of shaded trees, in plain Lean. -/
namespace Go.Proofs.YtkaepjigmcielaaGreatDoor
open Go.RowKit
set_option linter.unusedSimpArgs false
set_option linter.unusedVariables false
set_option maxRecDepth 20000

def rowW (k : Nat) (A : List Int) (i : Nat) : List Int := (A.drop (i * k)).take k
/-- what the program's weights of the tree at place b are -/
def listAt (b : Int) : List Int := (tabL[b.toNat]?).getD []
theorem tab_perm : (tabS.all fun t => ((t.2.1.map listAt).isPerm (partsF [] t.1.tail)) && t.2.1.all (fun b => decide (0 ≤ b ∧ b < 72 ∧ ((listAt b).length < t.1.length) ∧ ((listAt b).headD 0 = 0 ∨ (listAt b).headD 0 = 1) ∧ (listAt b) ≠ [])) && decide (t.1.length ≤ 4) && decide (t.1.headD 0 = 0 ∨ t.1.headD 0 = 1) && decide (t.1 ≠ [])) = true := by decide +kernel
structure TabF (l bs : List Int) : Prop where
  perm : (bs.map listAt).Perm (partsF [] l.tail)
  bd : ∀ b ∈ bs, 0 ≤ b ∧ b < 72 ∧ (listAt b).length < l.length ∧ ((listAt b).headD 0 = 0 ∨ (listAt b).headD 0 = 1) ∧ listAt b ≠ []
  len : l.length ≤ 4
  col : l.headD 0 = 0 ∨ l.headD 0 = 1
  ne : l ≠ []
theorem tab_facts {b : Nat} {l bs : List Int} {sy : Int} (h : tabS[b]? = some (l, bs, sy)) : TabF l bs := by
  have := List.all_eq_true.1 tab_perm _ (List.mem_of_getElem? h)
  simp only [Bool.and_eq_true, decide_eq_true_eq, List.all_eq_true] at this
  obtain ⟨⟨⟨⟨h1, h2⟩, h3⟩, h4⟩, h5⟩ := this
  exact ⟨List.isPerm_iff.1 h1, fun b hb => by simpa using h2 b hb, h3, h4, h5⟩
theorem list_at {b : Nat} {l bs : List Int} {sy : Int} (h : tabS[b]? = some (l, bs, sy)) : listAt (b : Int) = l := by
  unfold listAt tabL
  rw [Int.toNat_natCast, List.getElem?_map, h]
  rfl
theorem col_two {l : List Int} (h : l.headD 0 = 0 ∨ l.headD 0 = 1) : l.headD 0 % 2 = l.headD 0 := by omega
end Go.Proofs.YtkaepjigmcielaaGreatDoor
/- Elementary differentials of shaded trees, in the ring of polynomials in h. -/
namespace Go.Proofs.YtkaepjigmcielaaGreatDoor
set_option linter.unusedSimpArgs false
set_option linter.unusedVariables false
namespace Jr
variable {n : Nat}
/-- the list of an element of the ring -/
def lst (u : Jr n) : List Int := Quotient.lift (fun a : Sr => tabJ n fun k => a k % 1000000271) (fun a b h => by
  unfold tabJ
  exact List.map_congr_left fun k hk => h k (List.mem_range.1 hk)) u
theorem lst_mk (a : Sr) : lst (mk a : Jr n) = tabJ n fun k => a k % 1000000271 := rfl
theorem lst_len (u : Jr n) : (lst u).length = n := by
  refine ind (p := fun u => (lst u).length = n) (fun a => ?_) u
  rw [lst_mk, tabJ_len]
theorem lst_num (u : Jr n) : ∀ x ∈ lst u, 0 ≤ x ∧ x < 1000000271 := by
  refine ind (p := fun u => ∀ x ∈ lst u, 0 ≤ x ∧ x < 1000000271) (fun a => ?_) u
  rw [lst_mk]
  exact tabJ_num fun j => by omega
theorem of_lst (u : Jr n) : of (lst u) = u := by
  refine ind (p := fun u => of (lst u) = u) (fun a => ?_) u
  rw [lst_mk, of]
  refine sound fun k hk => ?_
  rw [tabJ_get _ hk, Int.emod_emod_of_dvd _ (Int.dvd_refl _)]
theorem lst_of {a : List Int} (h : a.length = n) (ha : ∀ x ∈ a, 0 ≤ x ∧ x < 1000000271) : lst (of a : Jr n) = a :=
  of_inj (lst_len _) h (lst_num _) ha (of_lst _)
theorem eq_lst {a : List Int} {u : Jr n} (h : a.length = n) (ha : ∀ x ∈ a, 0 ≤ x ∧ x < 1000000271) (e : of a = u) : a = lst u := by
  rw [← e, lst_of h ha]
/-- the coordinates of a direction as lists -/
def rowsJ (dim : Nat) (D : Nat → Jr n) : List (List Int) := (List.range dim).map fun v => lst (D v)
theorem rowsJ_len (dim : Nat) (D : Nat → Jr n) : (rowsJ dim D).length = dim := by simp [rowsJ]
theorem rowsJ_at {dim v : Nat} (D : Nat → Jr n) (h : v < dim) : (rowsJ dim D)[v]? = some (lst (D v)) := by simp [rowsJ, h]
theorem rowsJ_get {dim v : Nat} (D : Nat → Jr n) (h : v < dim) : (rowsJ dim D).getD v [] = lst (D v) := by rw [List.getD, rowsJ_at D h]; rfl
theorem rowsJ_num (dim : Nat) (D : Nat → Jr n) : JNum n (rowsJ dim D) := by
  intro r hr
  simp only [rowsJ, List.mem_map] at hr
  obtain ⟨v, _, rfl⟩ := hr
  exact ⟨lst_len _, lst_num _⟩
theorem sum_congr_dir {dim : Nat} {F : List Int → Jr n} {a b : Nat → Jr n} (h : ∀ v, v < dim → a v = b v) : ddir dim a F = ddir dim b F := by
  funext e
  unfold ddir
  exact sum_congr fun v hv => by rw [h v hv]
/-- the derivative of a field along directions -/
def fieldD (dim : Nat) (ps : List (List Mono)) (Y : Nat → Jr n) (ds : List (Nat → Jr n)) (v : Nat) : Jr n := sumR (dn dim ds (ev Y 0)) (ps.getD v [])
/-- only the coordinates of one colour -/
def selC (cols : List Int) (q : Int) (D : Nat → Jr n) (v : Nat) : Jr n := if cols.getD v 0 = q then D v else 0
/-- the elementary differential of a shaded tree -/
def dS (dim : Nat) (ps : List (List Mono)) (cols : List Int) (Y : Nat → Jr n) : Nat → List Int → Nat → Jr n
  | 0, _ => fun _ => 0
  | f + 1, l => selC cols (l.headD 0 % 2) (fieldD dim ps Y ((partsF [] l.tail).map (dS dim ps cols Y f)))
theorem dS_fuel (dim : Nat) (ps : List (List Mono)) (cols : List Int) (Y : Nat → Jr n) : ∀ (f : Nat) (l : List Int), l.length < f → dS dim ps cols Y (f + 1) l = dS dim ps cols Y f l
  | 0, l, h => by omega
  | f + 1, l, h => by
    rw [dS, dS]
    have e : (partsF [] l.tail).map (dS dim ps cols Y (f + 1)) = (partsF [] l.tail).map (dS dim ps cols Y f) := by
      refine List.map_congr_left fun p hp => ?_
      cases l with
      | nil => exact absurd hp (by simp [partsF])
      | cons a r =>
        have h1 := parts_len hp
        simp only [List.tail_cons, List.length_cons] at h1 h
        exact dS_fuel dim ps cols Y f p (by omega)
    rw [e]
/-- the differential of a list of at most four nodes -/
def dT (dim : Nat) (ps : List (List Mono)) (cols : List Int) (Y : Nat → Jr n) : List Int → Nat → Jr n := dS dim ps cols Y 5
theorem dT_eq (dim : Nat) (ps : List (List Mono)) (cols : List Int) (Y : Nat → Jr n) {l : List Int} (h : l.length ≤ 4) : dT dim ps cols Y l = selC cols (l.headD 0 % 2) (fieldD dim ps Y ((partsF [] l.tail).map (dT dim ps cols Y))) := by
  unfold dT
  rw [dS]
  congr 2
  refine List.map_congr_left fun p hp => ?_
  cases l with
  | nil => exact absurd hp (by simp [partsF])
  | cons a r =>
    have h1 := parts_len hp
    simp only [List.tail_cons, List.length_cons] at h1 h
    exact (dS_fuel dim ps cols Y 4 p (by omega)).symm
/-- the same by the table's places -/
theorem dT_tab (dim : Nat) (ps : List (List Mono)) (cols : List Int) (Y : Nat → Jr n) {l bs : List Int} (h : TabF l bs) : dT dim ps cols Y l = selC cols (l.headD 0) (fieldD dim ps Y (bs.map fun b => dT dim ps cols Y (listAt b))) := by
  rw [dT_eq dim ps cols Y h.len, col_two h.col]
  congr 1
  funext v
  unfold fieldD
  have e := dn_perm dim ((h.perm).map (dT dim ps cols Y)) (ev Y 0)
  rw [List.map_map] at e
  rw [← e]
  rfl
end Jr
end Go.Proofs.YtkaepjigmcielaaGreatDoor
/- Sets of directions by bits, and what one factor makes of the products for each set. -/
namespace Go.Proofs.YtkaepjigmcielaaGreatDoor
set_option linter.unusedSimpArgs false
set_option linter.unusedVariables false
/-- the places of the bits of s below K -/
def bitsF (K s : Nat) : List Nat := (List.range K).filter fun d => decide (s / 2 ^ d % 2 = 1)
theorem bits_step (d s : Nat) : bitsF (d + 1) s = bitsF d s ++ (if s / 2 ^ d % 2 = 1 then [d] else []) := by
  unfold bitsF
  rw [List.range_succ, List.filter_append]
  congr 1
  by_cases h : s / 2 ^ d % 2 = 1 <;> simp [h]
theorem bits_picks : ∀ K ∈ [0, 1, 2, 3], ∀ s ∈ List.range (2 ^ K), Jr.picks (bitsF K s) = (bitsF K s).map fun d => (d, bitsF K (s - 2 ^ d)) := by decide +kernel
theorem bits_zero : ∀ K ∈ [0, 1, 2, 3], bitsF K 0 = [] := by decide +kernel
theorem bits_pos : ∀ K ∈ [0, 1, 2, 3], ∀ s ∈ List.range (2 ^ K), s ≠ 0 → bitsF K s ≠ [] := by decide +kernel
theorem bits_full : ∀ K ∈ [0, 1, 2, 3], bitsF K (2 ^ K - 1) = List.range K := by decide +kernel
theorem mem_four {K : Nat} (h : K ≤ 3) : K ∈ [0, 1, 2, 3] := by
  rcases K with _ | _ | _ | _ | K
  · simp
  · simp
  · simp
  · simp
  · omega
namespace Jr
variable {n : Nat}
/-- the directions of a set -/
def dirs (A : Nat → Nat → Jr n) (K s : Nat) : List (Nat → Jr n) := (bitsF K s).map A
theorem dirs_zero (A : Nat → Nat → Jr n) {K : Nat} (h : K ≤ 3) : dirs A K 0 = [] := by rw [dirs, bits_zero K (mem_four h)]; rfl
theorem dirs_full (A : Nat → Nat → Jr n) {K : Nat} (h : K ≤ 3) : dirs A K (2 ^ K - 1) = (List.range K).map A := by rw [dirs, bits_full K (mem_four h)]
theorem sumL_app : ∀ (p q : List (Jr n)), sumL (p ++ q) = sumL p + sumL q
  | [], q => (zero_add _).symm
  | a :: r, q => by rw [List.cons_append, sumL, sumL, sumL_app r q, add_assoc]
/-- what a set's product gets from the sets with one direction less, as far as the first d directions -/
def part (A : Nat → Nat → Jr n) (dim K s v : Nat) (F : List Int → Jr n) (e : List Int) (d : Nat) : Jr n := sumL ((bitsF d s).map fun d => A d v * dn dim (dirs A K (s - 2 ^ d)) F e)
theorem part_zero (A : Nat → Nat → Jr n) (dim K s v : Nat) (F : List Int → Jr n) (e : List Int) : part A dim K s v F e 0 = 0 := rfl
theorem part_yes (A : Nat → Nat → Jr n) (dim K s v : Nat) (F : List Int → Jr n) (e : List Int) {d : Nat} (h : s / 2 ^ d % 2 = 1) : part A dim K s v F e (d + 1) = part A dim K s v F e d + A d v * dn dim (dirs A K (s - 2 ^ d)) F e := by
  unfold part
  rw [bits_step, if_pos h, List.map_append, sumL_app]
  congr 1
  exact add_zero _
theorem part_no (A : Nat → Nat → Jr n) (dim K s v : Nat) (F : List Int → Jr n) (e : List Int) {d : Nat} (h : ¬ s / 2 ^ d % 2 = 1) : part A dim K s v F e (d + 1) = part A dim K s v F e d := by
  unfold part
  rw [bits_step, if_neg h, List.append_nil]
theorem pow_succ' (Y : Jr n) (k : Nat) : pow Y (k + 1) = Y * pow Y k := rfl
/-- one factor more -/
theorem ev_inc (Y : Nat → Jr n) : ∀ (e : List Int) (u v : Nat), v < e.length → (∀ x ∈ e, 0 ≤ x) → ev Y u (inc v e) = Y (u + v) * ev Y u e
  | [], u, v, h, _ => absurd h (by simp)
  | p :: r, u, 0, _, h => by
    have h0 := h p List.mem_cons_self
    show pow (Y u) (p + 1).toNat * ev Y (u + 1) r = Y (u + 0) * (pow (Y u) p.toNat * ev Y (u + 1) r)
    rw [show (p + 1).toNat = p.toNat + 1 by omega, pow_succ', mul_assoc]
    rfl
  | p :: r, u, v + 1, hl, h => by
    have ih := ev_inc Y r (u + 1) v (by simpa using hl) fun x hx => h x (List.mem_cons_of_mem _ hx)
    have e1 : inc (v + 1) (p :: r) = p :: inc v r := rfl
    rw [e1, ev, ih, ev, show u + 1 + v = u + (v + 1) by omega, ← mul_assoc, mul_comm (pow _ _), mul_assoc]
/-- the product of a set with one factor more -/
theorem dirs_inc {dim v : Nat} (hv : v < dim) (Y : Nat → Jr n) (A : Nat → Nat → Jr n) {K s : Nat} (hK : K ≤ 3) (hs : s < 2 ^ K) {e : List Int} (h : GoodE dim e) :
    dn dim (dirs A K s) (ev Y 0) (inc v e) = Y v * dn dim (dirs A K s) (ev Y 0) e + part A dim K s v (ev Y 0) e K := by
  rw [dn_inc hv (Y := Y v) (F := ev Y 0) (fun e he => by
    have := ev_inc Y e 0 v (by rw [he.1]; exact hv) he.2
    rwa [Nat.zero_add] at this) (dirs A K s) e h]
  congr 1
  rw [dirs, picks_map, bits_picks K (mem_four hK) s (List.mem_range.2 hs), List.map_map, List.map_map, part]
  rfl
theorem ev_zeros (Y : Nat → Jr n) : ∀ (k u : Nat), ev Y u (List.replicate k 0) = 1
  | 0, _ => rfl
  | k + 1, u => by
    rw [List.replicate_succ, ev, ev_zeros Y k (u + 1)]
    show (1 : Jr n) * 1 = 1
    exact one_mul _
/-- the products of the start -/
theorem dirs_start (Y : Nat → Jr n) (A : Nat → Nat → Jr n) {dim K s : Nat} (hK : K ≤ 3) (hs : s < 2 ^ K) : dn dim (dirs A K s) (ev Y 0) (List.replicate dim 0) = if s = 0 then 1 else 0 := by
  by_cases h : s = 0
  · subst h
    rw [if_pos rfl, dirs_zero A hK]
    exact ev_zeros Y dim 0
  · rw [if_neg h]
    have hb := bits_pos K (mem_four hK) s (List.mem_range.2 hs) h
    obtain ⟨d, r, hd⟩ : ∃ d r, bitsF K s = d :: r := by
      cases hq : bitsF K s with
      | nil => exact absurd hq hb
      | cons d r => exact ⟨d, r, rfl⟩
    rw [dirs, hd, List.map_cons]
    exact dn_none (fun v => by
      rw [List.getD_eq_getElem?_getD, List.getElem?_replicate]
      split <;> rfl) _ _
/-- too few factors: nothing -/
theorem dn_few {dim : Nat} (F : List Int → Jr n) : ∀ (ds : List (Nat → Jr n)) (e : List Int), GoodE dim e → (e.foldl (fun (a b : Int) => a + b) 0 : Int) < (ds.length : Int) → dn dim ds F e = 0
  | [], e, h, hl => by
    exfalso
    have : ∀ (l : List Int) (s : Int), (∀ x ∈ l, 0 ≤ x) → 0 ≤ s → 0 ≤ l.foldl (fun (a b : Int) => a + b) s := by
      intro l
      induction l with
      | nil => intro s _ hs; exact hs
      | cons a r ih => intro s hx hs; exact ih _ (fun x hx' => hx x (List.mem_cons_of_mem _ hx')) (by have := hx a List.mem_cons_self; show 0 ≤ s + a; omega)
    have := this e 0 h.2 (Int.le_refl _)
    simp at hl
    omega
  | a :: r, e, h, hl => by
    rw [dn_cons]
    unfold ddir
    rw [sum_congr (g := fun _ => 0) fun v hv => ?_, sum_zero]
    unfold der
    split
    · rename_i hp
      have hfs : ∀ (l : List Int) (s : Int) (v : Nat) (x : Int), v < l.length → (l.set v x).foldl (fun (a b : Int) => a + b) s = l.foldl (fun (a b : Int) => a + b) s + x - l.getD v 0 := by
        intro l
        have hadd : ∀ (l : List Int) (s t : Int), l.foldl (fun (a b : Int) => a + b) (s + t) = l.foldl (fun (a b : Int) => a + b) s + t := by
          intro l
          induction l with
          | nil => intro s t; rfl
          | cons a r ih => intro s t; show r.foldl (fun (a b : Int) => a + b) (s + t + a) = r.foldl (fun (a b : Int) => a + b) (s + a) + t; rw [show s + t + a = s + a + t by omega, ih]
        induction l with
        | nil => intro s v x h; exact absurd h (by simp)
        | cons a r ih =>
          intro s v x h
          cases v with
          | zero => show r.foldl (fun (a b : Int) => a + b) (s + x) = r.foldl (fun (a b : Int) => a + b) (s + a) + x - a; rw [hadd, hadd]; omega
          | succ v => exact ih (s + a) v x (by simpa using h)
      rw [dn_few F r _ (h.set v (by omega)) (by
        rw [hfs _ _ _ _ (by rw [h.1]; exact hv)]
        simp only [List.length_cons] at hl
        omega), mul_zero, mul_zero]
    · exact mul_zero _
end Jr
end Go.Proofs.YtkaepjigmcielaaGreatDoor
/- The value of a field at polynomials in h: the program's walk. -/
namespace Go.Proofs.YtkaepjigmcielaaGreatDoor
open Go.RowKit
set_option linter.unusedSimpArgs false
set_option linter.unusedVariables false
set_option maxRecDepth 20000

/-- what is asked of a field -/
def GoodF (dim : Nat) (ps : List (List Mono)) : Prop := ps.length = dim ∧ ∀ ms ∈ ps, GoodM dim ms

theorem unit_own (w : World) {n : Nat} (hn0 : 0 < n) (hn : n ≤ 1000) : Ints (w.alloc (.cells ((zeros n).setIfInBounds 0 (.int .i64 1)) 3)) w.heap.size (w.alloc (.cells ((zeros n).setIfInBounds 0 (.int .i64 1)) 3)).heap.size (some ⟨w.heap.size, 0, none⟩) n n (unitJ n 1) ∧ Below w.heap.size w (w.alloc (.cells ((zeros n).setIfInBounds 0 (.int .i64 1)) 3)) := by
  have hl : ((zeros n).setIfInBounds 0 (Value.int .i64 1)).toList = (unitJ n 1).map (Value.int .i64) := by
    rw [Array.toList_setIfInBounds, zeros_list, ← unit_set hn0, List.map_set]
    rfl
  have ho := World.ownsRow_lit (size := 1) (e := 3) (base := w.heap.size) w ((zeros n).setIfInBounds 0 (.int .i64 1)) n (Nat.le_refl _) (by unfold maxLen; omega) (by simp [zeros_size])
  rw [hl] at ho
  exact ⟨(⟨ho, fun ad e => (owns_lt ho ad e).2, fun x hx => by
    have := tabJ_num (n := n) (f := fun j => if j = 0 then 1 else 0) (fun j => by split <;> omega) x hx
    constructor <;> omega⟩ : OwnI _ w.heap.size _ _ n n (unitJ n 1)).ints, below_alloc _ _⟩

end Go.Proofs.YtkaepjigmcielaaGreatDoor
/- A monomial's derivative along no directions: the reference's walk. -/
namespace Go.Proofs.YtkaepjigmcielaaGreatDoor
open Go.RowKit
set_option linter.unusedSimpArgs false
set_option linter.unusedVariables false
set_option maxRecDepth 20000

set_option maxRecDepth 100000 in
set_option maxHeartbeats 8000000 in
theorem spec_l8One0 (V : Option Addr) (cV : Nat) (P : Option Addr) (dim cp : Nat) (pw : List Int) (lo hi : Nat) (gy cy : Nat) (yss : List (List Int)) (lo2 hi2 n : Nat) (w : World) (hp : Ints w lo hi P dim cp pw) (hy : Ints2 w lo2 hi2 (some ⟨gy, 0, none⟩) dim cy yss) (hh : hi ≤ w.heap.size) (hh2 : hi2 ≤ w.heap.size)
    (hN : JNum n yss) (hd0 : 0 < dim) (hd6 : dim ≤ 6) (hn0 : 0 < n) (hn : n ≤ 1000) (hcV : cV ≤ 9223372036854775807) :
    Calls Tryz.prog 83 #[.slice P dim cp, .slice (some ⟨gy, 0, none⟩) dim cy, .slice V 0 cV] w fun e w' => ∃ gR, e = .returned (.slice (some ⟨gR, 0, none⟩) n n) ∧ Ints w' w.heap.size w'.heap.size (some ⟨gR, 0, none⟩) n n (prodJ (fun v => yss.getD v []) pw 0 (unitJ n 1)) ∧ Below w.heap.size w w' := by
  have hcp := hp.cap
  have hmp := hp.max
  have hcy := hy.cap
  have hmy := hy.max
  have HI := hide hp
  have HY := hide hy
  have HN := hide hN
  obtain ⟨ad, B0, m0, d0, y0, e, hc0, hI0, _, hx0⟩ := hy.at_ (k := 0) hd0
  injection e with e
  subst e
  obtain rfl : n = m0 := by rw [← hI0.len]; exact ((hN y0 (List.mem_of_getElem? hx0.out)).1).symm
  have hcy0 : w.cell? ⟨gy, 0, none⟩ = some (.slice B0 n d0) := by simpa [Addr.add_lit] using hc0
  have hcd0 := hI0.cap
  have hmd0 := hI0.max
  have hmk := make_ints n (by omega) w
  have hs0 := hide (unit_own w hn0 hn)
  have hzv : (zeros n)[0]? = some (.int .i64 0) := by
    rw [← Array.getElem?_toList, zeros_list]
    simp [hn0]
  clear hp hy hN hI0 hx0 hc0
  go_enter Tryz.func83, Tryz.ntmps83
  go_wp2_with fail
  clear hmk hcy0 hzv
  generalize w.alloc (.cells ((zeros n).setIfInBounds 0 (.int .i64 1)) 3) = W at hs0 ⊢
  have hun : Hid (∀ x ∈ unitJ n 1, 0 ≤ x ∧ x < 1000000271) := tabJ_num fun j => by split <;> omega
  go_loopw [12, 13] (fun p i wr => ∃ (v gj : Nat) (cur : List Int), v ≤ dim ∧ i = .int .i64 v ∧ p = .slice (some ⟨gj, 0, none⟩) n n ∧ Hid (Ints wr w.heap.size wr.heap.size (some ⟨gj, 0, none⟩) n n cur) ∧ Hid (Below w.heap.size w wr) ∧ Hid (∀ x ∈ cur, 0 ≤ x ∧ x < 1000000271) ∧ Hid (prodJ (fun v => yss.getD v []) pw 0 (unitJ n 1) = prodJ (fun v => yss.getD v []) (pw.drop v) v cur)) (fun _ i _ => dim - (intOf i).toNat)
  case atStart => exact ⟨0, _, _, by omega, rfl, rfl, hs0.out.1, hs0.out.2, hun.out, rfl⟩
  case round =>
    clear hs0 hun
    obtain ⟨v, gj, cur, hv, rfl, rfl, hC, hb, hcN, hT⟩ := hrel
    by_cases hlt : v < dim
    · obtain ⟨bd, p, rfl, hcp1, hpr, hdp, hxp⟩ := HI.out.at_ hlt
      obtain ⟨ae, Bv, mv, dv, yv, e, hcy, hIv, _, hxv⟩ := HY.out.at_ hlt
      injection e with e
      subst e
      have hyv := HN.out yv (List.mem_of_getElem? hxv.out)
      obtain rfl : n = mv := by rw [← hIv.len]; exact hyv.1.symm
      have hcy1 : w.cell? ⟨gy, v, none⟩ = some (.slice Bv n dv) := by simpa [Addr.add_lit] using hcy
      have hgy := World.block_lt_of_cell? w _ hcy1
      have hgp := World.block_lt_of_cell? w _ hcp1
      have HCY := hide fun (w' : World) (hB : Below w.heap.size w w') => (hB.cell (p := ⟨gy, v, none⟩) hgy).trans hcy1
      have HCP := hide fun (w' : World) (hB : Below w.heap.size w w') => (hB.cell (p := bd.add v) hgp).trans hcp1
      have hyd : Hid (yss.getD v [] = yv) := by show yss.getD v [] = yv; rw [List.getD, hxv.out]; rfl
      have hT2 : Hid (prodJ (fun v => yss.getD v []) pw 0 (unitJ n 1) = prodJ (fun v => yss.getD v []) (pw.drop (v + 1)) (v + 1) (powJ p.toNat cur yv)) := by
        show _ = _
        rw [hT.out, hdp.out, prodJ, hyd.out]
      have HIV := hide hIv
      have HYV := hide hyv.2
      have hmv := hIv.cap
      have hmv2 := hIv.max
      unfold R64 at hpr
      clear hT hdp hxp hcy hIv hxv hyv hcy1 hyd hcp1
      go_wp2_with fail
      go_loopw [12, 14] (fun q z wr4 => ∃ (zi gj : Nat) (cur : List Int), (zi : Int) ≤ 9223372036854775807 ∧ (0 < zi → (zi : Int) ≤ p) ∧ z = .int .i64 zi ∧ q = .slice (some ⟨gj, 0, none⟩) n n ∧ Hid (Ints wr4 w.heap.size wr4.heap.size (some ⟨gj, 0, none⟩) n n cur) ∧ Hid (Below w.heap.size w wr4) ∧ Hid (∀ x ∈ cur, 0 ≤ x ∧ x < 1000000271) ∧ Hid (prodJ (fun v => yss.getD v []) pw 0 (unitJ n 1) = prodJ (fun v => yss.getD v []) (pw.drop (v + 1)) (v + 1) (powJ (p - zi).toNat cur yv))) (fun _ z _ => p.toNat - (intOf z).toNat)
      case atStart => exact ⟨0, gj, cur, by omega, by omega, rfl, rfl, hC.out, hb.out, hcN.out, by rw [show (p - ((0 : Nat) : Int)).toNat = p.toNat by omega]; exact hT2.out⟩
      case round =>
        clear hC hb hcN hT2
        obtain ⟨zi, gj, cur, hz, hz2, rfl, rfl, hC, hb, hcN, hT⟩ := hrel
        have hcp4 := HCP.out _ hb.out
        by_cases hz0 : (zi : Int) < p
        · obtain ⟨q, hq⟩ : ∃ q : Nat, (p - zi).toNat = q + 1 := ⟨(p - zi).toNat - 1, by omega⟩
          have hT2 : Hid (prodJ (fun v => yss.getD v []) pw 0 (unitJ n 1) = prodJ (fun v => yss.getD v []) (pw.drop (v + 1)) (v + 1) (powJ (p - ((zi + 1 : Nat) : Int)).toNat (jmul cur yv) yv)) := by
            show _ = _
            rw [hT.out, hq, powJ, show (p - ((zi + 1 : Nat) : Int)).toNat = q by omega]
          have hcy4 := HCY.out _ hb.out
          have hsz := hb.out.size
          have HTM := hide (spec_l8Mul (some ⟨gj, 0, none⟩) n n cur w.heap.size wr.heap.size Bv dv yv lo2 hi2 wr hC.out (HIV.out.below hb.out hh2) (Nat.le_refl _) (by omega) hn hcN.out HYV.out)
          clear hq hT
          go_wp2_with (go_at_call 100; refine HTM.out.mono ?_; rintro e w5 ⟨gj2, rfl, hO5, hb5⟩; have hI5 := hide (hO5.ints.wide (lo' := w.heap.size) hsz (Nat.le_refl _)); have hb6 := hide (hb.out.trans (hb5.mono hsz)); clear hO5 hb5)
          refine ⟨⟨zi + 1, gj2, _, by omega, by omega, by go_num, rfl, hI5.out, hb6.out, jmul_rng _ _, hT2.out⟩, ?_⟩
          simp [intOf]; omega
        · have hT2 : Hid (prodJ (fun v => yss.getD v []) pw 0 (unitJ n 1) = prodJ (fun v => yss.getD v []) (pw.drop (v + 1)) (v + 1) cur) := by
            show _ = _
            rw [hT.out, show (p - zi).toNat = 0 by omega, powJ]
          clear hT
          go_wp2_with fail
          go_roundw
          case rel => exact ⟨v + 1, gj, cur, by omega, by go_num, rfl, hC.out, hb.out, hcN.out, hT2.out⟩
          case measure => simp [intOf]; omega
    · obtain rfl : dim = v := by omega
      rw [List.drop_eq_nil_of_le (Nat.le_of_eq HI.out.len), prodJ] at hT
      go_wp2_with fail
      go_ret
      exact ⟨_, rfl, by rw [hT.out]; exact hC.out, hb.out⟩
end Go.Proofs.YtkaepjigmcielaaGreatDoor
