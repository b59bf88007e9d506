/- Shaded trees: the table of all of them, and the plain functions that the program makes it by. -/
import Derived.Test.YthjkdpapadolgaaGreatDoorCanQ
namespace Go.Proofs.YthjkdpapadolgaaGreatDoor
open Go.RowKit
set_option linter.unusedSimpArgs false
set_option linter.unusedVariables false
set_option maxRecDepth 20000

/-- list, places of the branches in ascending order, symmetry -/
def tabS : List (List Int × List Int × Int) := [
  ([1], [], 1), ([0], [], 1), ([1, 3], [0], 1), ([1, 2], [1], 1),
  ([0, 3], [0], 1), ([0, 2], [1], 1), ([1, 3, 5], [2], 1), ([1, 3, 4], [3], 1),
  ([1, 3, 3], [0, 0], 2), ([1, 3, 2], [0, 1], 1), ([1, 2, 5], [4], 1), ([1, 2, 4], [5], 1),
  ([1, 2, 2], [1, 1], 2), ([0, 3, 5], [2], 1), ([0, 3, 4], [3], 1), ([0, 3, 3], [0, 0], 2),
  ([0, 3, 2], [0, 1], 1), ([0, 2, 5], [4], 1), ([0, 2, 4], [5], 1), ([0, 2, 2], [1, 1], 2),
  ([1, 3, 5, 7], [6], 1), ([1, 3, 5, 6], [7], 1), ([1, 3, 5, 5], [8], 2), ([1, 3, 5, 4], [9], 1),
  ([1, 3, 5, 3], [0, 2], 1), ([1, 3, 5, 2], [1, 2], 1), ([1, 3, 4, 7], [10], 1), ([1, 3, 4, 6], [11], 1),
  ([1, 3, 4, 4], [12], 2), ([1, 3, 4, 3], [0, 3], 1), ([1, 3, 4, 2], [1, 3], 1), ([1, 3, 3, 3], [0, 0, 0], 6),
  ([1, 3, 3, 2], [0, 0, 1], 2), ([1, 3, 2, 5], [0, 4], 1), ([1, 3, 2, 4], [0, 5], 1), ([1, 3, 2, 2], [0, 1, 1], 2),
  ([1, 2, 5, 7], [13], 1), ([1, 2, 5, 6], [14], 1), ([1, 2, 5, 5], [15], 2), ([1, 2, 5, 4], [16], 1),
  ([1, 2, 5, 2], [1, 4], 1), ([1, 2, 4, 7], [17], 1), ([1, 2, 4, 6], [18], 1), ([1, 2, 4, 4], [19], 2),
  ([1, 2, 4, 2], [1, 5], 1), ([1, 2, 2, 2], [1, 1, 1], 6), ([0, 3, 5, 7], [6], 1), ([0, 3, 5, 6], [7], 1),
  ([0, 3, 5, 5], [8], 2), ([0, 3, 5, 4], [9], 1), ([0, 3, 5, 3], [0, 2], 1), ([0, 3, 5, 2], [1, 2], 1),
  ([0, 3, 4, 7], [10], 1), ([0, 3, 4, 6], [11], 1), ([0, 3, 4, 4], [12], 2), ([0, 3, 4, 3], [0, 3], 1),
  ([0, 3, 4, 2], [1, 3], 1), ([0, 3, 3, 3], [0, 0, 0], 6), ([0, 3, 3, 2], [0, 0, 1], 2), ([0, 3, 2, 5], [0, 4], 1),
  ([0, 3, 2, 4], [0, 5], 1), ([0, 3, 2, 2], [0, 1, 1], 2), ([0, 2, 5, 7], [13], 1), ([0, 2, 5, 6], [14], 1),
  ([0, 2, 5, 5], [15], 2), ([0, 2, 5, 4], [16], 1), ([0, 2, 5, 2], [1, 4], 1), ([0, 2, 4, 7], [17], 1),
  ([0, 2, 4, 6], [18], 1), ([0, 2, 4, 4], [19], 2), ([0, 2, 4, 2], [1, 5], 1), ([0, 2, 2, 2], [1, 1, 1], 6)]
def tabL : List (List Int) := tabS.map (·.1)
def cntF : Nat → Nat
  | 0 => 0
  | 1 => 2
  | 2 => 6
  | 3 => 20
  | _ => 72

/-- the branches, when two levels differ by s -/
def partsG (s : Int) : List (List Int) → List Int → List (List Int)
  | acc, [] => acc
  | acc, n :: r => partsG s (pushLast (if n - s < s then acc ++ [[]] else acc) (n - s)) r
def formG : Nat → Int → List Int → List Int
  | 0, _, l => l
  | _ + 1, _, [] => []
  | k + 1, s, a :: r => a :: (sortF ((partsG s [] r).map (formG k s))).flatMap (·.map (· + s))
/-- what a list must be for the program to put it into form -/
def okG : Nat → Int → List Int → Bool
  | 0, _, _ => false
  | _ + 1, _, [] => false
  | k + 1, s, a :: r => decide (0 ≤ a ∧ a ≤ 1000) && r.all (fun x => decide (s ≤ x ∧ x ≤ 1000)) && r.head?.all (fun x => decide (x - s < s)) && (partsG s [] r).all (okG k s)

def lastZ : List Int → Int
  | [] => 0
  | [x] => x
  | _ :: r => lastZ r
/-- all lists of levels of an order -/
def levF : Nat → List (List Int)
  | 0 => []
  | 1 => [[0]]
  | n + 2 => (levF (n + 1)).flatMap fun l => (List.range (lastZ l + 1).toNat).map fun k => l ++ [((k : Nat) : Int) + 1]
def colR (set : Nat) : Nat → List Int → List Int
  | _, [] => []
  | i, n :: r => (2 * n + ((set / 2 ^ i % 2 : Nat) : Int)) :: colR set (i + 1) r
/-- all colourings of a list of levels -/
def colF (l : List Int) : List (List Int) := (List.range (2 ^ l.length)).map fun s => colR s 0 l
def compGo (a : List Int) : List (List Int) → List (List Int)
  | [] => []
  | b :: r => if b = a then compGo a r else b :: compGo b r
/-- equal neighbours once -/
def compF : List (List Int) → List (List Int)
  | [] => []
  | a :: r => a :: compGo a r
def listsF (n : Nat) : List (List Int) := (levF n).flatMap fun l => (colF l).map (formG 4 2)
def halfF (l : List Int) : List Int := l.map (· / 2)
/-- place of a list in a row of lists, -1 where it is not -/
def placeL (all : List (List Int)) (l : List Int) : Int := match all.findIdx? (fun x => decide (x = l)) with | some i => i | none => -1
def insI (x : Int) : List Int → List Int
  | [] => [x]
  | y :: r => if x ≤ y then x :: y :: r else y :: insI x r
def sortI : List Int → List Int
  | [] => []
  | x :: r => insI x (sortI r)
/-- symmetry out of the branches -/
def symGo (sy : Int → Int) : List Int → Option Int → Int → Int → Int
  | [], _, _, acc => acc
  | b :: r, pv, times, acc => let t := if pv.all (fun p => decide (b = p)) then times + 1 else 1
    symGo sy r (some b) t (acc * (t * sy b))

theorem rows_tab : ∀ n ∈ [1, 2, 3, 4], compF (sortF (listsF n)) = (tabL.take (cntF n)).drop (cntF (n - 1)) := by decide +kernel
theorem lists_ok : ∀ n ∈ [1, 2, 3, 4], ((levF n).all fun l => (colF l).all (okG 4 2)) = true := by decide +kernel
theorem lev_shape : ∀ n ∈ [1, 2, 3, 4], ((levF n).all fun l => decide (l.length = n) && l.all fun x => decide (0 ≤ x ∧ x ≤ 3)) = true := by decide +kernel
theorem lists_len : ∀ n ∈ [1, 2, 3, 4], (listsF n).length ≤ 80 ∧ (levF n).length ≤ 5 := by decide +kernel
theorem half_ok : (tabL.all fun l => okG 4 1 (halfF l)) = true := by decide +kernel
theorem tab_ok : (tabL.all isShadesF) = true := by decide +kernel
theorem tab_branches : ∀ n ∈ [1, 2, 3, 4], (((tabS.take (cntF n)).drop (cntF (n - 1))).all fun t => match t.1 with
    | [] => false
    | _ :: r => (partsF [] r).all (fun p => decide (placeL (tabL.take (cntF (n - 1))) p ≠ -1)) && decide (sortI ((partsF [] r).map (placeL (tabL.take (cntF (n - 1))))) = t.2.1)) = true := by decide +kernel
theorem tab_sym : (tabS.all fun t => decide (symGo (fun b => ((tabS[b.toNat]?).map (·.2.2)).getD 0) t.2.1 none 0 1 = t.2.2)) = true := by decide +kernel
theorem tab_len : tabS.length = 72 := by decide +kernel
end Go.Proofs.YthjkdpapadolgaaGreatDoor
