/- Numbers that are all different: both walks. -/
import Derived.Test.YtfijcieponfcpaaGreatDoorIntS
import Derived.Test.YtfijcieponfcpaaGreatDoorLast
import Derived.Test.YtfijcieponfcpaaGreatDoorMgB
import Derived.Test.YtfijcieponfcpaaGreatDoorTab
import Derived.Laws.CopyOwn
import Derived.Test.YtfijcieponfcpaaGreatDoorConjR
namespace Go.Proofs.YtfijcieponfcpaaGreatDoor
open Go.RowKit
set_option linter.unusedSimpArgs false
set_option linter.unusedVariables false
set_option maxRecDepth 20000

theorem nd_ne {xs : List Int} (h : xs.Nodup) {i j : Nat} {x y : Int} (hij : j < i) (hx : xs[i]? = some x) (hy : xs[j]? = some y) : ¬ x = y := by
  intro e
  subst e
  have h1 := (List.getElem?_eq_some_iff.1 hx).1
  have h2 := (List.getElem?_eq_some_iff.1 hy).1
  rw [List.getElem?_eq_getElem h1] at hx
  rw [List.getElem?_eq_getElem h2] at hy
  injection hx with hx
  injection hy with hy
  exact List.pairwise_iff_getElem.1 h j i h2 h1 hij (hy.trans hx.symm)

set_option maxHeartbeats 1000000 in
theorem impl_allDifferent (g n c : Nat) (xs : List Int) (lo hi : Nat) (w : World) (h : Ints w lo hi (some ⟨g, 0, none⟩) n c xs) (hd : xs.Nodup) :
    Calls Tryz.prog 61 #[.slice (some ⟨g, 0, none⟩) n c] w fun e w' => e = .returned (.bool true) ∧ w = w' := by
  have hm := h.max
  have hcp := h.cap
  have HI := hide h
  have HD := hide hd
  clear h hd
  go_enter Tryz.func61, Tryz.ntmps61
  go_wp2_with fail
  go_loop [9] (fun i => ∃ (k : Nat), k ≤ n ∧ i = .int .i64 k) (fun i => n - (intOf i).toNat)
  case atStart => exact ⟨0, by omega, rfl⟩
  case round =>
    obtain ⟨k, hk, rfl⟩ := hrel
    by_cases hlt : k < n
    · obtain ⟨ad, x, e, hc, hxr, _, hx⟩ := HI.out.at_ hlt
      injection e with e
      subst e
      have hcx : w.cell? ⟨g, k, none⟩ = some (.int .i64 x) := by simpa [Addr.add_lit] using hc
      clear hc
      go_wp2_with fail
      go_loop [18] (fun i => ∃ (j : Nat), j ≤ k ∧ i = .int .i64 j) (fun i => k - (intOf i).toNat)
      case atStart => exact ⟨0, by omega, rfl⟩
      case round =>
        obtain ⟨j, hj, rfl⟩ := hrel
        by_cases hlt2 : j < k
        · obtain ⟨ad, y, e, hc, hyr, _, hy⟩ := HI.out.at_ (show j < n by omega)
          injection e with e
          subst e
          have hcy : w.cell? ⟨g, j, none⟩ = some (.int .i64 y) := by simpa [Addr.add_lit] using hc
          have hne : (x == y) = false := by simpa using nd_ne HD.out hlt2 hx.out hy.out
          clear hc hcx hx hy
          go_wp2_with fail
          go_round
          case rel => exact ⟨j + 1, by omega, by go_num⟩
          case measure => simp [intOf]; omega
        · obtain rfl : k = j := by omega
          go_wp2_with fail
          go_round
          case rel => exact ⟨k + 1, by omega, by go_num⟩
          case measure => simp [intOf]; omega
    · obtain rfl : k = n := by omega
      go_wp2_with fail
      go_ret
      exact ⟨rfl, rfl⟩

set_option maxHeartbeats 1000000 in
theorem spec_l7Different (g n c : Nat) (xs : List Int) (lo hi : Nat) (w : World) (h : Ints w lo hi (some ⟨g, 0, none⟩) n c xs) (hd : xs.Nodup) (hN : allNumF xs = true) :
    Calls Tryz.prog 50 #[.slice (some ⟨g, 0, none⟩) n c] w fun e w' => e = .returned (.bool true) ∧ ∃ q, w' = w.drewN q := by
  have hm := h.max
  have hcp := h.cap
  have HI := hide h
  have HD := hide hd
  have HA := hide fun W (hW : ∃ q, W = w.drewN q) => spec_l1All (some ⟨g, 0, none⟩) n c xs lo hi W (by obtain ⟨q, rfl⟩ := hW; exact h.same (fun _ _ _ => rfl))
  rw [hN] at HA
  clear h hd hN
  go_enter Tryz.func50, Tryz.ntmps50
  go_wp2_with fail
  go_loopw [3] (fun i wr => ∃ (k q : Nat), k ≤ n ∧ i = .int .i64 k ∧ wr = w.drewN q) (fun i _ => n - (intOf i).toNat)
  case atStart => exact ⟨0, 0, by omega, rfl, rfl⟩
  case round =>
    obtain ⟨k, q0, hk, rfl, rfl⟩ := hrel
    by_cases hlt : k < n
    · obtain ⟨ad, x, e, hc, hxr, _, hx⟩ := HI.out.at_ hlt
      injection e with e
      subst e
      have hcx : w.cell? ⟨g, k, none⟩ = some (.int .i64 x) := by simpa [Addr.add_lit] using hc
      clear hc
      go_wp2_with fail
      go_loopw [4] (fun i wr => ∃ (j q : Nat), j ≤ k ∧ i = .int .i64 j ∧ wr = w.drewN q) (fun i _ => k - (intOf i).toNat)
      case atStart => exact ⟨0, q0, by omega, rfl, rfl⟩
      case round =>
        obtain ⟨j, q1, hj, rfl, rfl⟩ := hrel
        by_cases hlt2 : j < k
        · obtain ⟨ad, y, e, hc, hyr, _, hy⟩ := HI.out.at_ (show j < n by omega)
          injection e with e
          subst e
          have hcy : w.cell? ⟨g, j, none⟩ = some (.int .i64 y) := by simpa [Addr.add_lit] using hc
          have hne : (y == x) = false := by simpa using fun e => nd_ne HD.out hlt2 hx.out hy.out e.symm
          clear hc hx hy
          go_wp2_with fail
          go_quiet (fail)
          go_wp2_with fail
          go_roundw
          case rel => exact ⟨j + 1, _, by omega, by go_num, rfl⟩
          case measure => simp [intOf]; omega
        · obtain rfl : k = j := by omega
          go_wp2_with fail
          go_roundw
          case rel => exact ⟨k + 1, q1, by omega, by go_num, rfl⟩
          case measure => simp [intOf]; omega
    · obtain rfl : k = n := by omega
      go_wp2_with (go_at_call 54; refine (HA.out _ ⟨_, rfl⟩).mono ?_; rintro e w' ⟨rfl, rfl⟩)
      go_ret
      exact ⟨rfl, _, rfl⟩
end Go.Proofs.YtfijcieponfcpaaGreatDoor
/- Tableaus of collocation: helpers. -/
namespace Go.Proofs.YtfijcieponfcpaaGreatDoor
open Go.RowKit
set_option linter.unusedSimpArgs false
set_option linter.unusedVariables false
set_option maxRecDepth 20000

/-- the cells of a block of integers -/
def iCells (zs : List Int) : Array Value := (zs.map (Value.int .i64)).toArray

theorem owp_copyO {o : Oper} {a : Act} {K : Act → World → Prop} {Q : Exit → Act → World → Prop} (d s : Operand)
    (ho : o.op = .call { callee := .builtin .copy, args := #[d, s], argTypes := #[22, 22] }) (w : World) (g off k c0 : Nat) (A : Option Addr) (c : Nat) (ys zs : List Int) (lo hi : Nat)
    (hd : a.eval d = .slice (some ⟨g, off, none⟩) k c0) (hs : a.eval s = .slice A k c) (hg : w.heap[g]? = some (.cells (iCells zs) 3 (0, 0))) (hk : 0 < k) (hfit : off + k ≤ zs.length) (hin : Ints w lo hi A k c ys)
    (h : ∀ w', w'.heap[g]? = some (.cells (iCells (zs.take off ++ (ys ++ zs.drop (off + k)))) 3 (0, 0)) → Touch g (g + 1) w w' → w'.heap.size = w.heap.size → K (a.put o.dst (.int .i64 (k : Int))) w') : Oper.wp Tryz.prog o a w K Q := by
  obtain ⟨i0, hi0, hz0, hz1, hz2⟩ := info_parts info_int
  obtain ⟨ad, rfl, _, _, hc⟩ := hin.cells hk
  have hl := hin.len
  have hrun := run_copy_row (P := Tryz.prog) w 22 22 o.type 3 g off k c0 ad k c (iCells zs) 3 (ys.map (Value.int .i64)) Tryz.underlying22 (by rw [hi0]; simp [hz1]) hg (by simp [hl]) (by
    intro j v hv
    rw [List.getElem?_map] at hv
    cases hy : ys[j]? with
    | none => rw [hy] at hv; cases hv
    | some y =>
      rw [hy] at hv
      simp at hv
      subst hv
      exact hc j y hy) (by simp [iCells, hl]; omega) (by
    intro v hv
    simp only [List.mem_map] at hv
    obtain ⟨y, _, rfl⟩ := hv
    rfl)
  unfold Oper.wp
  simp [execOp, ho, resolve, invoke, builtin, hd, hs, hrun, Result.andThen]
  have e : ((iCells zs).toList.take off ++ (ys.map (Value.int .i64) ++ (iCells zs).toList.drop (off + (ys.map (Value.int .i64)).length))).toArray = iCells (zs.take off ++ (ys ++ zs.drop (off + k))) := by
    simp [iCells, hl, List.map_take, List.map_drop]
  have := h (w.setRow g ((iCells zs).toList.take off ++ (ys.map (Value.int .i64) ++ (iCells zs).toList.drop (off + (ys.map (Value.int .i64)).length))).toArray) (by rw [← e]; exact setRow_heap w g _ _ _ _ hg) ⟨rfl, rfl, rfl, by simp [World.setRow], fun b _ hb => setRow_other w g b _ (by omega)⟩ (by simp [World.setRow])
  simp only [goInt, List.length_map, hl] at this ⊢
  exact this
theorem wpl_copyO {ops : Array Oper} {rest : List Oper} {o : Oper} {a : Act} {Q : Exit → Act → World → Prop} (hgd : o.guard = none) (d s : Operand)
    (ho : o.op = .call { callee := .builtin .copy, args := #[d, s], argTypes := #[22, 22] }) (w : World) (g off k c0 : Nat) (A : Option Addr) (c : Nat) (ys zs : List Int) (lo hi : Nat)
    (hd : a.eval d = .slice (some ⟨g, off, none⟩) k c0) (hs : a.eval s = .slice A k c) (hg : w.heap[g]? = some (.cells (iCells zs) 3 (0, 0))) (hk : 0 < k) (hfit : off + k ≤ zs.length) (hin : Ints w lo hi A k c ys)
    (h : ∀ w', w'.heap[g]? = some (.cells (iCells (zs.take off ++ (ys ++ zs.drop (off + k)))) 3 (0, 0)) → Touch g (g + 1) w w' → w'.heap.size = w.heap.size → wpList Tryz.prog ops Q rest (a.put o.dst (.int .i64 (k : Int))) w') : wpList Tryz.prog ops Q (o :: rest) a w :=
  wpList_plain hgd fun _ hK => owp_copyO d s ho w g off k c0 A c ys zs lo hi hd hs hg hk hfit hin fun w' h1 h2 h3 => hK _ _ (h w' h1 h2 h3)
theorem step_copyO {ops : Array Oper} {o : Oper} {a : Act} {K : Act → World → Prop} {Q : Exit → Act → World → Prop} {E : Prop} (hgd : o.guard = none) (d s : Operand)
    (ho : o.op = .call { callee := .builtin .copy, args := #[d, s], argTypes := #[22, 22] }) (w : World) (g off k c0 : Nat) (A : Option Addr) (c : Nat) (ys zs : List Int) (lo hi : Nat)
    (hd : a.eval d = .slice (some ⟨g, off, none⟩) k c0) (hs : a.eval s = .slice A k c) (hg : w.heap[g]? = some (.cells (iCells zs) 3 (0, 0))) (hk : 0 < k) (hfit : off + k ≤ zs.length) (hin : Ints w lo hi A k c ys)
    (h : ∀ w', w'.heap[g]? = some (.cells (iCells (zs.take off ++ (ys ++ zs.drop (off + k)))) 3 (0, 0)) → Touch g (g + 1) w w' → w'.heap.size = w.heap.size → K (a.put o.dst (.int .i64 (k : Int))) w') :
    if Region.wanted o (yielded ops a.tmps) = true then Oper.wp Tryz.prog o a w K Q else E := by
  have hw : Region.wanted o (yielded ops a.tmps) = true := by simp [Region.wanted, hgd]
  rw [if_pos hw]
  exact owp_copyO d s ho w g off k c0 A c ys zs lo hi hd hs hg hk hfit hin h

theorem OwnI.block {w : World} {g n : Nat} {lo hi : Nat} {zs : List Int} (h : OwnI w lo hi (some ⟨g, 0, none⟩) n n zs) : w.heap[g]? = some (.cells (iCells zs) 3 (0, 0)) := by
  have hl := h.len
  rcases h.own.2 with ⟨e, _⟩ | ⟨g', cap, cur, e, h1, h2, h3, h4, h5, h6⟩
  · cases e
  · injection e with e1 e2 e3
    injection e1 with e1
    injection e1 with e1
    subst e1 e3
    rw [h2]
    congr 2
    have h7 : cur.toList.take (n * 1) = zs.map (Value.int .i64) := by simpa [hl] using h6
    have h8 : cur.toList.length = n := by simpa using h5
    rw [List.take_of_length_le (by omega)] at h7
    rw [iCells, ← h7]
theorem block_own {w : World} {g n lo : Nat} {zs : List Int} (h : w.heap[g]? = some (.cells (iCells zs) 3 (0, 0))) (hl : zs.length = n) (hlo : lo ≤ g) (hn : n ≤ 1099511627776) (hr : ∀ x ∈ zs, R64 x) : OwnI w lo w.heap.size (some ⟨g, 0, none⟩) n n zs := by
  have hg := (Array.getElem?_eq_some_iff.1 h).1
  refine ⟨⟨by simp [hl], .inr ⟨g, n, _, rfl, hlo, h, Nat.le_refl _, by unfold maxLen; omega, by simp [iCells, hl], by simp only [iCells, Nat.mul_one]; exact List.take_of_length_le (by simp [hl])⟩⟩, fun ad e => by injection e with e; subst e; exact hg, hr⟩

/-- the rows of the weights of the first nodes, one behind the other -/
def catF (xs : List Int) (i : Nat) : List Int := ((xs.take i).map fun x => solF xs.length (vanM xs xs.length) (goalL (powGoal x) xs.length)).flatten
theorem cat_step {xs : List Int} {i : Nat} {x : Int} (h : xs[i]? = some x) : catF xs (i + 1) = catF xs i ++ solF xs.length (vanM xs xs.length) (goalL (powGoal x) xs.length) := by
  unfold catF
  rw [List.take_add_one, h]
  simp
theorem wgt_len (xs : List Int) (f : Int → Int) {n : Nat} (h : xs.length = n) : (solF n (vanM xs n) (goalL f n)).length = n := sol_len (van_len _ _) (goal_len _ _)
theorem cat_len (xs : List Int) : ∀ i, i ≤ xs.length → (catF xs i).length = i * xs.length
  | 0, _ => by simp [catF]
  | i + 1, h => by
    rw [cat_step (List.getElem?_eq_getElem (by omega)), List.length_append, cat_len xs i (by omega), wgt_len _ _ rfl, Nat.add_mul, Nat.one_mul]
/-- the block of A when i rows have been laid -/
def layF (xs : List Int) (i : Nat) : List Int := catF xs i ++ List.replicate (xs.length * xs.length - i * xs.length) 0
theorem lay_zero (xs : List Int) : layF xs 0 = List.replicate (xs.length * xs.length) 0 := by simp [layF, catF]
theorem lay_len {xs : List Int} {i : Nat} (h : i ≤ xs.length) : (layF xs i).length = xs.length * xs.length := by
  have : i * xs.length ≤ xs.length * xs.length := Nat.mul_le_mul_right _ h
  rw [layF, List.length_append, cat_len xs i h, List.length_replicate]
  omega
theorem lay_step {xs : List Int} {i n : Nat} {x : Int} (hn : xs.length = n) (h : xs[i]? = some x) : (layF xs i).take (i * n) ++ (solF n (vanM xs n) (goalL (powGoal x) n) ++ (layF xs i).drop (i * n + n)) = layF xs (i + 1) := by
  have hi := (List.getElem?_eq_some_iff.1 h).1
  have hl := cat_len xs i (by omega)
  subst hn
  unfold layF
  rw [List.take_left' hl, cat_step h, List.append_assoc]
  congr 2
  rw [List.drop_append, List.drop_eq_nil_of_le (by omega), hl]
  simp [Nat.add_mul]
  omega
theorem lay_all {xs : List Int} {n : Nat} (hn : xs.length = n) : layF xs n = catF xs n := by
  subst hn
  simp [layF]
end Go.Proofs.YtfijcieponfcpaaGreatDoor
/- The systems of the nodes of Lobatto, reckoned by the kernel. -/
namespace Go.Proofs.YtfijcieponfcpaaGreatDoor
open Go.RowKit
set_option linter.unusedSimpArgs false
set_option linter.unusedVariables false
set_option maxRecDepth 20000

def invK (a : Int) : Int := fpowGo 40 1 (resF a) 1000000269
def powK (a k : Int) : Int := fpowGo 40 1 (resF a) k
def fracK (a b : Int) : Int := timesF a (invK b)
theorem inv_k (a : Int) : invF a = invK a := inv_fast a
theorem frac_k (a b : Int) : fracF a b = fracK a b := by unfold fracF fracK; rw [inv_k]
theorem pow_k {a k : Int} (h : 0 ≤ k) (h2 : k < 1000) : powF a k = powK a k := powF_fast h (by omega)
def stepK (c : Nat) (M : List (List Int)) (piv : List Int) : List (List Int) × List Int :=
  let a := pivF M c (M.length - piv.length) piv.length
  if a = M.length then (M, piv)
  else
    let M1 := swapF M a piv.length
    let M2 := M1.set piv.length (scalRowF (invK (atM M1 piv.length c)) (M1.getD piv.length []))
    (elimsF c piv.length M.length 0 M2, piv ++ [(c : Int)])
def redK : Nat → Nat → List (List Int) → List Int → List (List Int) × List Int
  | 0, _, M, piv => (M, piv)
  | f + 1, c, M, piv => redK f (c + 1) (stepK c M piv).1 (stepK c M piv).2
theorem step_k (c : Nat) (M : List (List Int)) (p : List Int) : stepF c M p = stepK c M p := by
  unfold stepF stepK
  simp only [inv_k]
theorem red_k : ∀ (f c : Nat) (M : List (List Int)) (p : List Int), redF f c M p = redK f c M p
  | 0, _, _, _ => rfl
  | f + 1, c, M, p => by rw [redF, redK, step_k, red_k f]
def vanK (xs : List Int) (n : Nat) : List (List Int) := (List.range n).map fun q : Nat => xs.map fun x => powK x (q : Int)
def goalK (x : Int) (n : Nat) : List Int := (List.range n).map fun q : Nat => fracK (powK x ((q : Int) + 1)) ((q : Int) + 1)
theorem van_k (xs : List Int) {n : Nat} (hn : n ≤ 8) : vanM xs n = vanK xs n := by
  unfold vanM vanK powRow
  refine List.map_congr_left fun q hq => List.map_congr_left fun x _ => pow_k (by omega) ?_
  have := List.mem_range.1 hq
  omega
theorem goal_k (x : Int) {n : Nat} (hn : n ≤ 8) : goalL (powGoal x) n = goalK x n := by
  unfold goalL goalK powGoal
  refine List.map_congr_left fun q hq => ?_
  have := List.mem_range.1 hq
  rw [frac_k, pow_k (by omega) (by omega)]
theorem pow_one {k : Int} (h : 0 ≤ k) : powF 1 k = 1 := by
  unfold powF
  rw [if_neg (by omega), Int.one_pow]
  rfl
theorem goal_one (n : Nat) : goalL (fracF 1) n = goalL (powGoal 1) n := by
  unfold goalL powGoal
  refine List.map_congr_left fun q hq => ?_
  rw [pow_one (by omega)]
def solK (xs : List Int) (x : Int) (n : Nat) : List Int := (redK n 0 (augF (vanK xs n) (goalK x n)) []).1.map fun r => r.getD n 0
def fullK (xs : List Int) (x : Int) (n : Nat) : Bool := (redK n 0 (augF (vanK xs n) (goalK x n)) []).2 == (List.range n).map fun i : Nat => (i : Int)
theorem sol_k (xs : List Int) (x : Int) {n : Nat} (hn : n ≤ 8) : solF n (vanM xs n) (goalL (powGoal x) n) = solK xs x n := by
  unfold solF solK
  rw [red_k, van_k xs hn, goal_k x hn]
theorem full_k {xs : List Int} {x : Int} {n : Nat} (hn : n ≤ 8) (h : fullK xs x n = true) : FullF n (vanM xs n) (goalL (powGoal x) n) := by
  unfold FullF
  rw [red_k, van_k xs hn, goal_k x hn]
  simpa [fullK] using h
theorem cat_k (xs : List Int) (hn : xs.length ≤ 8) (i : Nat) : catF xs i = ((xs.take i).map fun x => solK xs x xs.length).flatten := by
  unfold catF
  simp only [sol_k xs _ hn]

def half : Int := 500000136
theorem half_eq : fracF 1 2 = half := by rw [frac_k]; decide +kernel
def nod2 : List Int := [0, 1]
def nod3 : List Int := [0, half, 1]
theorem full2 : ∀ x ∈ nod2, FullF 2 (vanM nod2 2) (goalL (powGoal x) 2) := by
  have h : ∀ x ∈ nod2, fullK nod2 x 2 = true := by decide +kernel
  exact fun x hx => full_k (by omega) (h x hx)
theorem full3 : ∀ x ∈ nod3, FullF 3 (vanM nod3 3) (goalL (powGoal x) 3) := by
  have h : ∀ x ∈ nod3, fullK nod3 x 3 = true := by decide +kernel
  exact fun x hx => full_k (by omega) (h x hx)
/-- the tableaus -/
def lobA2 : List Int := catF nod2 2
def lobB2 : List Int := solF 2 (vanM nod2 2) (goalL (powGoal 1) 2)
def lobA3 : List Int := catF nod3 3
def lobB3 : List Int := solF 3 (vanM nod3 3) (goalL (powGoal 1) 3)
theorem lob2_ok : tabOkF 2 lobA2 lobB2 = true ∧ ¬ (0 : Int) ∈ lobB2 := by
  unfold lobA2 lobB2
  rw [cat_k _ (by decide), sol_k _ _ (by omega)]
  decide +kernel
theorem lob3_ok : tabOkF 3 lobA3 lobB3 = true ∧ ¬ (0 : Int) ∈ lobB3 := by
  unfold lobA3 lobB3
  rw [cat_k _ (by decide), sol_k _ _ (by omega)]
  decide +kernel
theorem nod2_num : ∀ x ∈ nod2, 0 ≤ x ∧ x < 1000000271 := by decide
theorem nod3_num : ∀ x ∈ nod3, 0 ≤ x ∧ x < 1000000271 := by decide
theorem nod2_nd : nod2.Nodup := by decide
theorem nod3_nd : nod3.Nodup := by decide
end Go.Proofs.YtfijcieponfcpaaGreatDoor
