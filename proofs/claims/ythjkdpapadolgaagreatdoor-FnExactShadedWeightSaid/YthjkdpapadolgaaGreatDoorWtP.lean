/- Weights of shaded trees, in plain Lean. -/
import Derived.Test.YthjkdpapadolgaaGreatDoorShQ
import Derived.Test.YthjkdpapadolgaaGreatDoorNumLaws
namespace Go.Proofs.YthjkdpapadolgaaGreatDoor
open Go.RowKit
set_option linter.unusedSimpArgs false
set_option linter.unusedVariables false
set_option maxRecDepth 20000

def dotF (acc : Int) : List Int → List Int → Int
  | [], _ => acc
  | _ :: _, [] => acc
  | a :: u, b :: v => dotF (plusF acc (timesF a b)) u v
def rowW (k : Nat) (A : List Int) (i : Nat) : List Int := (A.drop (i * k)).take k
def stepW (k : Nat) (A w out : List Int) : List Int := (List.range k).map fun i => timesF (out.getD i 0) (dotF 0 (rowW k A i) w)
def selF (q : Int) (a b : List Int) : List Int := if q = 0 then a else b
def onesF (k : Nat) : List Int := List.replicate k 1
/-- the stage weights of a shaded tree, out of its list -/
def wL (k : Nat) (X0 X1 : List Int) : Nat → List Int → List Int
  | 0, _ => onesF k
  | f + 1, l => (partsF [] l.tail).foldl (fun out p => stepW k (selF (p.headD 0 % 2) X0 X1) (wL k X0 X1 f p) out) (onesF k)
def foldW (k : Nat) (X0 X1 : List Int) (f : Nat) (out : List Int) (ps : List (List Int)) : List Int := ps.foldl (fun out p => stepW k (selF (p.headD 0 % 2) X0 X1) (wL k X0 X1 f p) out) out
theorem wL_succ (k : Nat) (X0 X1 : List Int) (f : Nat) (l : List Int) : wL k X0 X1 (f + 1) l = foldW k X0 X1 f (onesF k) (partsF [] l.tail) := rfl

theorem stepW_len (k : Nat) (A w out : List Int) : (stepW k A w out).length = k := by simp [stepW]
theorem ones_len (k : Nat) : (onesF k).length = k := by simp [onesF]
theorem foldW_len (k : Nat) (X0 X1 : List Int) (f : Nat) : ∀ (ps : List (List Int)) (out : List Int), out.length = k → (foldW k X0 X1 f out ps).length = k
  | [], _, h => h
  | p :: r, out, _ => foldW_len k X0 X1 f r _ (stepW_len _ _ _ _)
theorem wL_len (k : Nat) (X0 X1 : List Int) (f : Nat) (l : List Int) : (wL k X0 X1 f l).length = k := by
  cases f with
  | zero => exact ones_len k
  | succ f => exact foldW_len k X0 X1 f _ _ (ones_len k)
theorem stepW_bd {k : Nat} {A w out : List Int} : ∀ x ∈ stepW k A w out, 0 ≤ x ∧ x < 1000000271 := by
  intro x hx
  simp only [stepW, List.mem_map] at hx
  obtain ⟨i, _, rfl⟩ := hx
  exact timesF_bd _ _
theorem ones_bd {k : Nat} : ∀ x ∈ onesF k, 0 ≤ x ∧ x < 1000000271 := by
  intro x hx
  simp only [onesF, List.mem_replicate] at hx
  omega
theorem foldW_bd {k : Nat} {X0 X1 : List Int} {f : Nat} : ∀ {ps : List (List Int)} {out : List Int}, (∀ x ∈ out, 0 ≤ x ∧ x < 1000000271) → ∀ x ∈ foldW k X0 X1 f out ps, 0 ≤ x ∧ x < 1000000271
  | [], _, h => h
  | _ :: r, _, _ => foldW_bd (ps := r) stepW_bd
theorem wL_bd {k : Nat} {X0 X1 : List Int} {f : Nat} {l : List Int} : ∀ x ∈ wL k X0 X1 f l, 0 ≤ x ∧ x < 1000000271 := by
  cases f with
  | zero => exact ones_bd
  | succ f => exact foldW_bd ones_bd
theorem timesF_swap (a b c : Int) : timesF (timesF a b) c = timesF (timesF a c) b := by
  unfold timesF
  rw [Int.mul_emod, Int.emod_emod_of_dvd _ (by omega), ← Int.mul_emod, Int.mul_assoc, Int.mul_comm b c, ← Int.mul_assoc]
  rw [Int.mul_emod (a * c % 1000000271) b, Int.emod_emod_of_dvd _ (by omega), ← Int.mul_emod]
theorem stepW_getD {k i : Nat} {A w out : List Int} (h : i < k) : (stepW k A w out).getD i 0 = timesF (out.getD i 0) (dotF 0 (rowW k A i) w) := by
  simp [stepW, h]
theorem stepW_comm (k : Nat) (A w A' w' out : List Int) : stepW k A' w' (stepW k A w out) = stepW k A w (stepW k A' w' out) := by
  unfold stepW
  refine List.map_congr_left fun i hi => ?_
  have hi' : i < k := by simpa using hi
  show timesF ((stepW k A w out).getD i 0) _ = timesF ((stepW k A' w' out).getD i 0) _
  rw [stepW_getD hi', stepW_getD hi', timesF_swap]
theorem foldW_perm (k : Nat) (X0 X1 : List Int) (f : Nat) (out : List Int) {ps qs : List (List Int)} (h : ps.Perm qs) : foldW k X0 X1 f out ps = foldW k X0 X1 f out qs :=
  h.foldl_eq' (fun _ _ _ _ _ => stepW_comm _ _ _ _ _ _) out
theorem foldW_snoc (k : Nat) (X0 X1 : List Int) (f : Nat) (out : List Int) (ps : List (List Int)) (p : List Int) : foldW k X0 X1 f out (ps ++ [p]) = stepW k (selF (p.headD 0 % 2) X0 X1) (wL k X0 X1 f p) (foldW k X0 X1 f out ps) := by
  simp [foldW]
theorem foldl_congr {α β : Type} {f g : β → α → β} : ∀ {ps : List α}, (∀ p ∈ ps, ∀ b, f b p = g b p) → ∀ b, ps.foldl f b = ps.foldl g b
  | [], _, _ => rfl
  | p :: r, h, b => by
    rw [List.foldl_cons, List.foldl_cons, h p (by simp), foldl_congr (fun q hq => h q (List.mem_cons_of_mem _ hq))]
theorem wL_fuel (k : Nat) (X0 X1 : List Int) : ∀ (f : Nat) (l : List Int), l.length ≤ f → wL k X0 X1 (f + 1) l = wL k X0 X1 f l
  | 0, l, h => by
    have : l = [] := by simpa using h
    subst this
    rfl
  | f + 1, l, h => by
    rw [wL_succ, wL_succ]
    refine foldl_congr (fun p hp out => ?_) _
    have h1 := parts_len hp
    simp at h1
    rw [wL_fuel k X0 X1 f p (by omega)]
theorem wL_four (k : Nat) (X0 X1 : List Int) {l : List Int} (h : l.length ≤ 3) : wL k X0 X1 3 l = wL k X0 X1 4 l := (wL_fuel k X0 X1 3 l h).symm
/-- the branches by the table's places are the branches of the list -/
theorem place_at {xs : List (List Int)} {p : List Int} (h : placeL xs p ≠ -1) : xs[(placeL xs p).toNat]? = some p := by
  unfold placeL at h ⊢
  cases hf : xs.findIdx? (fun x => decide (x = p)) with
  | none => rw [hf] at h; exact absurd rfl h
  | some i =>
    have hi := List.findIdx?_eq_some_iff_getElem.1 hf
    obtain ⟨h1, h2, _⟩ := hi
    rw [show ((i : Nat) : Int).toNat = i from Int.toNat_natCast i, List.getElem?_eq_getElem h1]
    simpa using h2
/-- what the program's weights of the tree at place b are -/
def listAt (b : Int) : List Int := (tabL[b.toNat]?).getD []
theorem dotF_bdA : ∀ (us vs : List Int) (acc : Int), 0 ≤ acc ∧ acc < 1000000271 → 0 ≤ dotF acc us vs ∧ dotF acc us vs < 1000000271
  | [], _, _, h => h
  | _ :: _, [], _, h => h
  | _ :: u, _ :: v, _, _ => dotF_bdA u v _ (plusF_bd _ _)
theorem dotF_bd (us vs : List Int) : 0 ≤ dotF 0 us vs ∧ dotF 0 us vs < 1000000271 := dotF_bdA us vs 0 (by omega)
theorem tab_perm : (tabS.all fun t => ((t.2.1.map listAt).isPerm (partsF [] t.1.tail)) && t.2.1.all (fun b => decide (0 ≤ b ∧ b < 72 ∧ ((listAt b).length < t.1.length) ∧ ((listAt b).headD 0 = 0 ∨ (listAt b).headD 0 = 1) ∧ (listAt b) ≠ [])) && decide (t.1.length ≤ 4) && decide (t.1.headD 0 = 0 ∨ t.1.headD 0 = 1) && decide (t.1 ≠ [])) = true := by decide +kernel
structure TabF (l bs : List Int) : Prop where
  perm : (bs.map listAt).Perm (partsF [] l.tail)
  bd : ∀ b ∈ bs, 0 ≤ b ∧ b < 72 ∧ (listAt b).length < l.length ∧ ((listAt b).headD 0 = 0 ∨ (listAt b).headD 0 = 1) ∧ listAt b ≠ []
  len : l.length ≤ 4
  col : l.headD 0 = 0 ∨ l.headD 0 = 1
  ne : l ≠ []
theorem tab_facts {b : Nat} {l bs : List Int} {sy : Int} (h : tabS[b]? = some (l, bs, sy)) : TabF l bs := by
  have := List.all_eq_true.1 tab_perm _ (List.mem_of_getElem? h)
  simp only [Bool.and_eq_true, decide_eq_true_eq, List.all_eq_true] at this
  obtain ⟨⟨⟨⟨h1, h2⟩, h3⟩, h4⟩, h5⟩ := this
  exact ⟨List.isPerm_iff.1 h1, fun b hb => by simpa using h2 b hb, h3, h4, h5⟩
theorem list_at {b : Nat} {l bs : List Int} {sy : Int} (h : tabS[b]? = some (l, bs, sy)) : listAt (b : Int) = l := by
  unfold listAt tabL
  rw [Int.toNat_natCast, List.getElem?_map, h]
  rfl
theorem wL_tab (k : Nat) (X0 X1 : List Int) {l bs : List Int} (h : TabF l bs) : wL k X0 X1 4 l = foldW k X0 X1 4 (onesF k) (bs.map listAt) := by
  rw [wL_succ, foldW_perm k X0 X1 3 _ h.perm.symm]
  refine foldl_congr (fun p hp out => ?_) _
  obtain ⟨b, hb, rfl⟩ := List.mem_map.1 hp
  have := (h.bd b hb).2.2.1
  have := h.len
  rw [wL_four k X0 X1 (by omega)]
theorem col_two {l : List Int} (h : l.headD 0 = 0 ∨ l.headD 0 = 1) : l.headD 0 % 2 = l.headD 0 := by omega
def shWt (ok : Bool) (k : Nat) (X0 Y0 X1 Y1 : List Int) (K : Int) : Int :=
  if ok && (decide (0 ≤ K) && decide (K < 72)) then dotF 0 (selF ((listAt K).headD 0 % 2) Y0 Y1) (wL k X0 X1 4 (listAt K)) else 0
end Go.Proofs.YthjkdpapadolgaaGreatDoor
