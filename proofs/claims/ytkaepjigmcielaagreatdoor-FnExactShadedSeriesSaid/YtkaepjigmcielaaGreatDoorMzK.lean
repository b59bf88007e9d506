/- The value of a polynomial at polynomials in h: the program's walk. -/
import Derived.Test.YtkaepjigmcielaaGreatDoorMzJ
import Derived.Test.YtkaepjigmcielaaGreatDoorMzF
import Derived.Test.YtkaepjigmcielaaGreatDoorMzC
import Derived.Test.YtkaepjigmcielaaGreatDoorMzE
import Derived.Test.YtkaepjigmcielaaGreatDoorMzB
namespace Go.Proofs.YtkaepjigmcielaaGreatDoor
open Go.RowKit
set_option linter.unusedSimpArgs false
set_option linter.unusedVariables false
set_option maxRecDepth 20000

theorem info_jet : (Tryz.prog.info? 55).map (fun i => (i.zero, i.size, i.bytes)) = some (some (.slice none 0 0), 1, 24) := by kernel_rfl
theorem make_jets (n : Nat) (hn : n ≤ 1000) (W : World) :
    (Instr.makeSlice 52 (.int .i64 (n : Int)) (.int .i64 (n : Int))).run Tryz.prog W = .ok (.slice (some ⟨W.heap.size, 0, none⟩) n n) (W.alloc (.cells (madeCells #[.slice none 0 0] n) 55)) := by
  obtain ⟨i0, hi0, hz0, hz1, hz2⟩ := info_parts info_jet
  have h := run_make (P := Tryz.prog) W 52 55 i0 (.slice none 0 0) Tryz.underlying52 hi0 hz0 .i64 .i64 n n (by omega) (by omega) (by rw [hz2]; omega) (by omega)
  simp only [Int.toNat_natCast, hz1, Nat.mul_one] at h
  exact h
def JNum (n : Nat) (yss : List (List Int)) : Prop := ∀ r ∈ yss, r.length = n ∧ ∀ x ∈ r, 0 ≤ x ∧ x < 1000000271
def GoodM (dim : Nat) (ms : List Mono) : Prop := ∀ m ∈ ms, (0 ≤ m.1 ∧ m.1 < 1000000271) ∧ m.2.length = dim ∧ 0 ≤ degGo 0 m.2

/-- One monomial on its way: its copy, the product so far, the sum so far. -/
structure NowS (w wr : World) (g11 gN go gj n : Nat) (co : Int) (Pw : Value) (o cur : List Int) : Prop where
  mono : BlkN wr g11 #[.int .i64 co, Pw]
  now : BlkN wr gN #[.slice (some ⟨gj, 0, none⟩) n n]
  out : Ints wr w.heap.size g11 (some ⟨go, 0, none⟩) n n o
  cur : Ints wr (gN + 1) wr.heap.size (some ⟨gj, 0, none⟩) n n cur
  low : Below w.heap.size w wr
  ord : g11 < gN ∧ w.heap.size ≤ g11
section
variable {w wr w' : World} {g11 gN go gj n : Nat} {co : Int} {Pw : Value} {o cur : List Int}
theorem NowS.below (h : NowS w wr g11 gN go gj n co Pw o cur) (hb : Below wr.heap.size wr w') : NowS w w' g11 gN go gj n co Pw o cur := by
  have hz := h.low.size
  have hm := h.mono.lt
  exact ⟨h.mono.below hb, h.now.below hb, h.out.below hb (by omega), (h.cur.below hb (Nat.le_refl _)).wide (Nat.le_refl _) hb.size, h.low.trans (hb.mono hz), h.ord⟩
end

theorem unit_set {n : Nat} (hn : 0 < n) (c : Int) : (zeroJ n).set 0 c = unitJ n c := by
  refine tabJ_eq (n := n) (by simp [zeroJ]) (unit_len n c) fun j hj => ?_
  rw [unitJ, tabJ_get _ hj]
  by_cases h : j = 0
  · subst h
    rw [if_pos rfl, List.getD_eq_getElem?_getD, List.getElem?_set_self (by simp [zeroJ]; omega)]
    rfl
  · rw [if_neg h, List.getD_eq_getElem?_getD, List.getElem?_set_ne (by omega)]
    simp [zeroJ, hj]
theorem NowS.start {w wr : World} {go n : Nat} {co : Int} {Pw : Value} {o : List Int} (hn0 : 0 < n) (hn : n ≤ 1000) (hO : Ints wr w.heap.size wr.heap.size (some ⟨go, 0, none⟩) n n o) (hb : Below w.heap.size w wr) (hc : R64 co) :
    NowS w ((((wr.alloc (.cells #[.int .i64 co, Pw] 95)).alloc (.cells #[.slice (some ⟨wr.heap.size + 1 + 1, 0, none⟩) n n] 55)).alloc (.cells (zeros n) 3)).setCell ⟨wr.heap.size + 1 + 1, 0, none⟩ (.int .i64 co)).drew wr.heap.size (wr.heap.size + 1) go (wr.heap.size + 1 + 1) n co Pw o (unitJ n co) := by
  have z1 : (wr.alloc (.cells #[.int .i64 co, Pw] 95)).heap.size = wr.heap.size + 1 := by simp
  have k1 := BlkN.new wr #[.int .i64 co, Pw] 95
  have b1 := below_alloc wr (.cells #[.int .i64 co, Pw] 95)
  generalize wr.alloc (.cells #[.int .i64 co, Pw] 95) = W1 at z1 k1 b1 ⊢
  have k2 := BlkN.new W1 #[.slice (some ⟨wr.heap.size + 1 + 1, 0, none⟩) n n] 55
  have b2 := below_alloc W1 (.cells #[.slice (some ⟨wr.heap.size + 1 + 1, 0, none⟩) n n] 55)
  have z2 : (W1.alloc (.cells #[.slice (some ⟨wr.heap.size + 1 + 1, 0, none⟩) n n] 55)).heap.size = wr.heap.size + 1 + 1 := by simp [z1]
  rw [z1] at k2
  generalize W1.alloc (.cells #[.slice (some ⟨wr.heap.size + 1 + 1, 0, none⟩) n n] 55) = W2 at z2 k2 b2 ⊢
  have f := ((FillS.start W2 n hn).set 0 hc).drew
  rw [z2, unit_set hn0] at f
  have b3 : Below W2.heap.size W2 ((W2.alloc (.cells (zeros n) 3)).setCell ⟨wr.heap.size + 1 + 1, 0, none⟩ (.int .i64 co)).drew := by
    have := f.low
    exact this
  have bb : Below wr.heap.size wr ((W2.alloc (.cells (zeros n) 3)).setCell ⟨wr.heap.size + 1 + 1, 0, none⟩ (.int .i64 co)).drew := b1.trans ((b2.mono (by omega)).trans (b3.mono (by omega)))
  exact ⟨(k1.below b2).below b3, k2.below b3, hO.below bb (Nat.le_refl _), (f.own.wide (lo' := wr.heap.size + 1 + 1) (hi' := ((W2.alloc (.cells (zeros n) 3)).setCell ⟨wr.heap.size + 1 + 1, 0, none⟩ (.int .i64 co)).drew.heap.size) (Nat.le_refl _) (by have := (f.own.lt_size _ rfl).2; exact this)).ints, hb.trans (bb.mono hb.size), by omega, hb.size⟩

end Go.Proofs.YtkaepjigmcielaaGreatDoor
/- Shaded trees: their branches and their greatest list, as plain functions. -/
namespace Go.Proofs.YtkaepjigmcielaaGreatDoor
open Go.RowKit
set_option linter.unusedSimpArgs false
set_option linter.unusedVariables false
set_option maxRecDepth 20000

def pushLast (ps : List (List Int)) (x : Int) : List (List Int) := ps.dropLast ++ [ps.getLast?.getD [] ++ [x]]
/-- the branches, from the rest of a list -/
def partsF : List (List Int) → List Int → List (List Int)
  | acc, [] => acc
  | acc, n :: r => partsF (pushLast (if n < 4 then acc ++ [[]] else acc) (n - 2)) r
def insF (p : List Int) : List (List Int) → List (List Int)
  | [] => [p]
  | q :: r => if lessF q p then p :: q :: r else q :: insF p r
def sortF (ps : List (List Int)) : List (List Int) := ps.foldl (fun s p => insF p s) []
def formF : Nat → List Int → List Int
  | 0, l => l
  | _ + 1, [] => []
  | k + 1, a :: r => a :: (sortF ((partsF [] r).map (formF k))).flatMap (·.map (· + 2))

theorem pushLast_len (ps : List (List Int)) (x : Int) (h : ps ≠ []) : (pushLast ps x).length = ps.length := by
  unfold pushLast
  have := List.length_pos_iff.2 h
  simp
  omega
theorem partsF_len : ∀ (r : List Int) (acc : List (List Int)), acc ≠ [] ∨ (∀ n ∈ r.head?, n < 4) → (partsF acc r).length ≤ acc.length + r.length
  | [], acc, _ => by simp [partsF]
  | n :: r, acc, h => by
    rw [partsF]
    by_cases hn : n < 4
    · rw [if_pos hn]
      have h1 := partsF_len r (pushLast (acc ++ [[]]) (n - 2)) (.inl (by unfold pushLast; simp))
      rw [pushLast_len _ _ (by simp)] at h1
      simp at h1 ⊢
      omega
    · rw [if_neg hn]
      have ha : acc ≠ [] := by
        rcases h with h | h
        · exact h
        · exact absurd (h n (by simp)) hn
      have h1 := partsF_len r (pushLast acc (n - 2)) (.inl (by unfold pushLast; simp))
      rw [pushLast_len _ _ ha] at h1
      simp
      omega
end Go.Proofs.YtkaepjigmcielaaGreatDoor
/- IsShades, CountShades, PlaceOfWord: the walks of both texts, and that the two agree. -/
namespace Go.Proofs.YtkaepjigmcielaaGreatDoor
open Go.RowKit
set_option linter.unusedSimpArgs false
set_option linter.unusedVariables false
set_option maxRecDepth 20000

def countShadesF (n : Int) : Int := if n = 0 then 0 else if n = 1 then 2 else if n = 2 then 6 else if n = 3 then 20 else if n = 4 then 72 else -1

theorem impl_CountShades (n : Int) (w : World) :
    Calls Tryz.prog 37 #[.int .i64 n] w fun e w' => e = .returned (.int .i64 (countShadesF n)) ∧ Below w.heap.size w w' := by
  by_cases h0 : n < 0
  · have hF : Hid (countShadesF n = -1) := by show _ = _; unfold countShadesF; repeat rw [if_neg (by omega)]
    have hd : decide (0 ≤ n) = false := by simpa using h0
    go_enter Tryz.func37, Tryz.ntmps37
    go_wp2
    go_ret
    exact ⟨ret_int hF.out.symm, Below.refl _ _⟩
  · by_cases h4 : 4 < n
    · have hF : Hid (countShadesF n = -1) := by show _ = _; unfold countShadesF; repeat rw [if_neg (by omega)]
      have hd : decide (n ≤ 4) = false := by simpa using h4
      go_enter Tryz.func37, Tryz.ntmps37
      go_wp2
      go_ret
      exact ⟨ret_int hF.out.symm, Below.refl _ _⟩
    · obtain h | h | h | h | h : n = 0 ∨ n = 1 ∨ n = 2 ∨ n = 3 ∨ n = 4 := by omega
      all_goals
        subst h
        clear h0 h4
        go_enter Tryz.func37, Tryz.ntmps37
        go_wp2
        go_ret
        exact ⟨ret_int (by decide), (Below.refl _ _).alloc (Nat.le_refl _) _⟩



def shadesGo (prev : Int) : List Int → Bool
  | [] => true
  | x :: r => if x < 2 ∨ prev / 2 + 1 < x / 2 then false else shadesGo x r
def isShadesF : List Int → Bool
  | [] => false
  | x :: r => if 3 < r.length ∨ x < 0 ∨ 1 < x then false else shadesGo x r


end Go.Proofs.YtkaepjigmcielaaGreatDoor
/- Shaded trees: the plain facts on branches, the greatest list, and descending order. -/
namespace Go.Proofs.YtkaepjigmcielaaGreatDoor
open Go.RowKit
set_option linter.unusedSimpArgs false
set_option linter.unusedVariables false
set_option maxRecDepth 20000

theorem less_lt : ∀ (p q : List Int), lessF p q = true ↔ p < q
  | p, [] => by cases p <;> simp [lessF]
  | [], _ :: _ => by simp [lessF]
  | a :: x, b :: y => by
    rw [lessF, List.cons_lt_cons_iff]
    by_cases h : a = b
    · subst h
      rw [if_neg (by simp), less_lt x y]
      simp
    · rw [if_pos h]
      simp [h]
theorem less_irrefl (p : List Int) : lessF p p = false := by
  rw [Bool.eq_false_iff, ne_eq, less_lt]
  exact List.lt_irrefl p
theorem less_trans {p q r : List Int} (h : lessF p q = true) (h2 : lessF q r = true) : lessF p r = true := by
  rw [less_lt] at *
  exact List.lt_trans h h2
theorem less_ntrans {p q r : List Int} (h : lessF p q = false) (h2 : lessF q r = false) : lessF p r = false := by
  rw [Bool.eq_false_iff, ne_eq, less_lt] at *
  intro h3
  have h4 : q ≤ p := h
  have h5 : r ≤ q := h2
  exact (List.le_trans h5 h4) h3
theorem less_anti {p q : List Int} (h : lessF p q = false) (h2 : lessF q p = false) : p = q := by
  rw [Bool.eq_false_iff, ne_eq, less_lt] at *
  exact List.le_antisymm h2 h
theorem cmp_neg (p q : List Int) : decide (cmpF p q < 0) = lessF p q := by
  have h := cmp_less q p
  have h2 : cmpF q p = - cmpF p q := by
    clear h
    induction p generalizing q with
    | nil => cases q <;> rfl
    | cons a x ih =>
      cases q with
      | nil => rfl
      | cons b y =>
        rw [cmpF, cmpF, ih y]
        unfold cmpI
        by_cases h1 : a < b
        · have h2 : ¬ b < a := by omega
          simp [h1, h2]
        · by_cases h2 : b < a
          · simp [h1, h2]
          · simp [h1, h2]
  rw [h2] at h
  have h3 : decide (-cmpF p q ≤ 0) = !decide (cmpF p q < 0) := by
    by_cases e : cmpF p q < 0
    · rw [decide_eq_true e, decide_eq_false (by omega)]; rfl
    · rw [decide_eq_false e, decide_eq_true (by omega)]; rfl
  rw [h3] at h
  simpa using h

/-- no later one is greater than an earlier one -/
def Desc (ps : List (List Int)) : Prop := ps.Pairwise fun a b => lessF a b = false

theorem insF_mem (p : List Int) : ∀ (s : List (List Int)) (x : List Int), x ∈ insF p s ↔ x = p ∨ x ∈ s
  | [], x => by simp [insF]
  | q :: r, x => by
    rw [insF]
    split
    · simp
    · rw [List.mem_cons, insF_mem p r x, List.mem_cons]
      constructor
      · rintro (h | h | h)
        · exact .inr (.inl h)
        · exact .inl h
        · exact .inr (.inr h)
      · rintro (h | h | h)
        · exact .inr (.inl h)
        · exact .inl h
        · exact .inr (.inr h)
theorem insF_perm (p : List Int) : ∀ s : List (List Int), (insF p s).Perm (p :: s)
  | [] => List.Perm.refl _
  | q :: r => by
    rw [insF]
    split
    · exact List.Perm.refl _
    · exact ((insF_perm p r).cons q).trans (List.Perm.swap p q r)
theorem insF_desc (p : List Int) : ∀ s : List (List Int), Desc s → Desc (insF p s)
  | [], _ => by simp [insF, Desc]
  | q :: r, h => by
    have h' := List.pairwise_cons.1 h
    rw [insF]
    split
    · rename_i hlt
      refine List.pairwise_cons.2 ⟨fun x hx => ?_, h⟩
      have hpq : lessF p q = false := by
        cases e : lessF p q with
        | false => rfl
        | true => have := less_trans hlt e; rw [less_irrefl] at this; cases this
      rcases List.mem_cons.1 hx with rfl | hx
      · exact hpq
      · exact less_ntrans hpq (h'.1 x hx)
    · rename_i hlt
      refine List.pairwise_cons.2 ⟨fun x hx => ?_, insF_desc p r h'.2⟩
      rcases (insF_mem p r x).1 hx with rfl | hx
      · simpa using hlt
      · exact h'.1 x hx
theorem foldl_ins (ps : List (List Int)) : ∀ s, Desc s → Desc (ps.foldl (fun s p => insF p s) s) ∧ (ps.foldl (fun s p => insF p s) s).Perm (ps ++ s) := by
  induction ps with
  | nil => exact fun s h => ⟨h, List.Perm.refl _⟩
  | cons p r ih =>
    intro s h
    obtain ⟨h1, h2⟩ := ih (insF p s) (insF_desc p s h)
    refine ⟨h1, h2.trans ?_⟩
    exact ((insF_perm p s).append_left r).trans List.perm_middle
theorem sortF_desc (ps : List (List Int)) : Desc (sortF ps) := (foldl_ins ps [] List.Pairwise.nil).1
theorem sortF_perm (ps : List (List Int)) : (sortF ps).Perm ps := by unfold sortF; simpa using (foldl_ins ps [] List.Pairwise.nil).2
theorem sort_unique {ds ps : List (List Int)} (hp : ds.Perm ps) (hs : Desc ds) : ds = sortF ps :=
  List.Perm.eq_of_pairwise (fun _ _ _ _ h1 h2 => less_anti h1 h2) hs (sortF_desc ps) (hp.trans (sortF_perm ps).symm)
theorem sortF_snoc (ps : List (List Int)) (p : List Int) : sortF (ps ++ [p]) = insF p (sortF ps) := by simp [sortF]

/-- what a list of a shaded tree is, its length aside -/
def Good (l : List Int) : Prop := ∃ b q, l = b :: q ∧ 0 ≤ b ∧ b < 2 ∧ shadesGo b q = true
theorem shadesGo_cons {a n : Int} {r : List Int} : shadesGo a (n :: r) = true ↔ (2 ≤ n ∧ n / 2 ≤ a / 2 + 1) ∧ shadesGo n r = true := by
  rw [shadesGo]
  split
  · simp; omega
  · simp; omega
theorem shadesGo_two : ∀ (r : List Int) (a : Int), shadesGo a r = true → ∀ x ∈ r, 2 ≤ x
  | [], _, _, x, hx => by cases hx
  | n :: r, a, h, x, hx => by
    obtain ⟨⟨h1, _⟩, h2⟩ := shadesGo_cons.1 h
    rcases List.mem_cons.1 hx with rfl | hx
    · exact h1
    · exact shadesGo_two r n h2 x hx
theorem shadesGo_head {a : Int} {r : List Int} (ha : a < 2) (h0 : 0 ≤ a) (h : shadesGo a r = true) : ∀ x ∈ r.head?, x < 4 := by
  cases r with
  | nil => simp
  | cons n r =>
    obtain ⟨⟨h1, h2⟩, _⟩ := shadesGo_cons.1 h
    intro x hx
    obtain rfl : n = x := by simpa using hx
    omega
def lastOf (b : Int) : List Int → Int
  | [] => b
  | x :: r => lastOf x r
theorem shadesGo_snoc : ∀ (q : List Int) (b y : Int), shadesGo b q = true → 2 ≤ y → y / 2 ≤ lastOf b q / 2 + 1 → shadesGo b (q ++ [y]) = true
  | [], b, y, _, h1, h2 => shadesGo_cons.2 ⟨⟨h1, h2⟩, rfl⟩
  | n :: q, b, y, h, h1, h2 => by
    obtain ⟨h3, h4⟩ := shadesGo_cons.1 h
    exact shadesGo_cons.2 ⟨h3, shadesGo_snoc q n y h4 h1 h2⟩
theorem lastOf_snoc : ∀ (q : List Int) (b y : Int), lastOf b (q ++ [y]) = y
  | [], _, _ => rfl
  | n :: q, _, y => lastOf_snoc q n y

theorem parts_good : ∀ (r : List Int) (pv : Int) (acc : List (List Int)), 0 ≤ pv → shadesGo pv r = true → (∀ p ∈ acc, Good p) → (acc = [] ∧ pv < 2 ∨ ∃ i b q, acc = i ++ [b :: q] ∧ lastOf b q = pv - 2 ∧ 2 ≤ pv) → ∀ p ∈ partsF acc r, Good p
  | [], _, acc, _, _, h, _ => h
  | n :: r, pv, acc, h0, hs, h, hl => by
    obtain ⟨⟨h1, h2⟩, h3⟩ := shadesGo_cons.1 hs
    rw [partsF]
    by_cases hn : n < 4
    · rw [if_pos hn]
      have e : pushLast (acc ++ [[]]) (n - 2) = acc ++ [[n - 2]] := by simp [pushLast]
      rw [e]
      refine parts_good r n _ (by omega) h3 ?_ (.inr ⟨acc, n - 2, [], rfl, rfl, h1⟩)
      intro p hp
      rcases List.mem_append.1 hp with hp | hp
      · exact h p hp
      · obtain rfl : p = [n - 2] := by simpa using hp
        exact ⟨n - 2, [], rfl, by omega, by omega, rfl⟩
    · rw [if_neg hn]
      rcases hl with ⟨_, h5⟩ | ⟨i, b, q, rfl, h5, h6⟩
      · omega
      · have e : pushLast (i ++ [b :: q]) (n - 2) = i ++ [b :: (q ++ [n - 2])] := by simp [pushLast]
        rw [e]
        refine parts_good r n _ (by omega) h3 ?_ (.inr ⟨i, b, q ++ [n - 2], rfl, lastOf_snoc _ _ _, h1⟩)
        intro p hp
        rcases List.mem_append.1 hp with hp | hp
        · exact h p (List.mem_append.2 (.inl hp))
        · obtain rfl : p = b :: (q ++ [n - 2]) := by simpa using hp
          obtain ⟨b', q', e', g1, g2, g3⟩ := h (b :: q) (by simp)
          injection e' with e1 e2
          subst e1 e2
          exact ⟨b, q ++ [n - 2], rfl, g1, g2, shadesGo_snoc q b _ g3 (by omega) (by rw [h5]; omega)⟩
theorem flat_push (ps : List (List Int)) (x : Int) : (pushLast ps x).flatten = ps.flatten ++ [x] := by
  unfold pushLast
  rcases List.eq_nil_or_concat ps with rfl | ⟨i, l, rfl⟩
  · rfl
  · simp
theorem parts_flat : ∀ (r : List Int) (acc : List (List Int)), (partsF acc r).flatten = acc.flatten ++ r.map (· - 2)
  | [], acc => by simp [partsF]
  | n :: r, acc => by
    rw [partsF, parts_flat r, flat_push]
    split <;> simp
theorem len_flat {p : List Int} {ps : List (List Int)} (h : p ∈ ps) : p.length ≤ ps.flatten.length := by
  induction ps with
  | nil => cases h
  | cons q r ih =>
    rw [List.flatten_cons, List.length_append]
    rcases List.mem_cons.1 h with rfl | h
    · omega
    · have := ih h; omega
theorem parts_len {r : List Int} {p : List Int} (h : p ∈ partsF [] r) : p.length ≤ r.length := by
  have h1 := len_flat h
  rw [parts_flat] at h1
  simpa using h1
theorem perm_flatMap {f : List Int → List Int} {us vs : List (List Int)} (h : us.Perm vs) : (us.flatMap f).Perm (vs.flatMap f) := h.flatMap_right f
theorem perm_flat_map {f : List Int → List Int} : ∀ (ps : List (List Int)), (∀ p ∈ ps, (f p).Perm p) → ((ps.map f).flatMap (·.map (· + 2))).Perm (ps.flatten.map (· + 2))
  | [], _ => List.Perm.refl _
  | p :: r, h => by
    rw [List.map_cons, List.flatMap_cons, List.flatten_cons, List.map_append]
    exact ((h p (by simp)).map _).append (perm_flat_map r fun q hq => h q (List.mem_cons_of_mem _ hq))
theorem form_perm : ∀ (k : Nat) (l : List Int), (formF k l).Perm l
  | 0, _ => List.Perm.refl _
  | _ + 1, [] => List.Perm.refl _
  | k + 1, a :: r => by
    rw [formF]
    refine List.Perm.cons a ?_
    refine (perm_flatMap (sortF_perm _)).trans ((perm_flat_map _ fun p _ => form_perm k p).trans ?_)
    rw [parts_flat]
    have e : (([] : List (List Int)).flatten ++ r.map (· - 2)).map (· + 2) = r := by
      simp [List.map_map, Function.comp_def]
    rw [e]
/-- a branch of a good list -/
theorem part_good {a : Int} {r : List Int} (h0 : 0 ≤ a) (h1 : a < 2) (h : shadesGo a r = true) : ∀ p ∈ partsF [] r, Good p := parts_good r a [] h0 h (by simp) (.inl ⟨rfl, h1⟩)
theorem good_of {l : List Int} (h : isShadesF l = true) : Good l ∧ l.length ≤ 4 := by
  cases l with
  | nil => cases h
  | cons x r =>
    rw [isShadesF] at h
    split at h
    · cases h
    · exact ⟨⟨x, r, rfl, by omega, by omega, h⟩, by simp; omega⟩
theorem parts_num {r : List Int} {acc : List (List Int)} (h : acc ≠ [] ∨ ∀ n ∈ r.head?, n < 4) : (partsF acc r).length ≤ acc.length + r.length := partsF_len r acc h
end Go.Proofs.YtkaepjigmcielaaGreatDoor
/- Shaded trees: the table of all of them, and the plain functions that the program makes it by. -/
namespace Go.Proofs.YtkaepjigmcielaaGreatDoor
open Go.RowKit
set_option linter.unusedSimpArgs false
set_option linter.unusedVariables false
set_option maxRecDepth 20000

/-- list, places of the branches in ascending order, symmetry -/
def tabS : List (List Int × List Int × Int) := [
  ([1], [], 1), ([0], [], 1), ([1, 3], [0], 1), ([1, 2], [1], 1),
  ([0, 3], [0], 1), ([0, 2], [1], 1), ([1, 3, 5], [2], 1), ([1, 3, 4], [3], 1),
  ([1, 3, 3], [0, 0], 2), ([1, 3, 2], [0, 1], 1), ([1, 2, 5], [4], 1), ([1, 2, 4], [5], 1),
  ([1, 2, 2], [1, 1], 2), ([0, 3, 5], [2], 1), ([0, 3, 4], [3], 1), ([0, 3, 3], [0, 0], 2),
  ([0, 3, 2], [0, 1], 1), ([0, 2, 5], [4], 1), ([0, 2, 4], [5], 1), ([0, 2, 2], [1, 1], 2),
  ([1, 3, 5, 7], [6], 1), ([1, 3, 5, 6], [7], 1), ([1, 3, 5, 5], [8], 2), ([1, 3, 5, 4], [9], 1),
  ([1, 3, 5, 3], [0, 2], 1), ([1, 3, 5, 2], [1, 2], 1), ([1, 3, 4, 7], [10], 1), ([1, 3, 4, 6], [11], 1),
  ([1, 3, 4, 4], [12], 2), ([1, 3, 4, 3], [0, 3], 1), ([1, 3, 4, 2], [1, 3], 1), ([1, 3, 3, 3], [0, 0, 0], 6),
  ([1, 3, 3, 2], [0, 0, 1], 2), ([1, 3, 2, 5], [0, 4], 1), ([1, 3, 2, 4], [0, 5], 1), ([1, 3, 2, 2], [0, 1, 1], 2),
  ([1, 2, 5, 7], [13], 1), ([1, 2, 5, 6], [14], 1), ([1, 2, 5, 5], [15], 2), ([1, 2, 5, 4], [16], 1),
  ([1, 2, 5, 2], [1, 4], 1), ([1, 2, 4, 7], [17], 1), ([1, 2, 4, 6], [18], 1), ([1, 2, 4, 4], [19], 2),
  ([1, 2, 4, 2], [1, 5], 1), ([1, 2, 2, 2], [1, 1, 1], 6), ([0, 3, 5, 7], [6], 1), ([0, 3, 5, 6], [7], 1),
  ([0, 3, 5, 5], [8], 2), ([0, 3, 5, 4], [9], 1), ([0, 3, 5, 3], [0, 2], 1), ([0, 3, 5, 2], [1, 2], 1),
  ([0, 3, 4, 7], [10], 1), ([0, 3, 4, 6], [11], 1), ([0, 3, 4, 4], [12], 2), ([0, 3, 4, 3], [0, 3], 1),
  ([0, 3, 4, 2], [1, 3], 1), ([0, 3, 3, 3], [0, 0, 0], 6), ([0, 3, 3, 2], [0, 0, 1], 2), ([0, 3, 2, 5], [0, 4], 1),
  ([0, 3, 2, 4], [0, 5], 1), ([0, 3, 2, 2], [0, 1, 1], 2), ([0, 2, 5, 7], [13], 1), ([0, 2, 5, 6], [14], 1),
  ([0, 2, 5, 5], [15], 2), ([0, 2, 5, 4], [16], 1), ([0, 2, 5, 2], [1, 4], 1), ([0, 2, 4, 7], [17], 1),
  ([0, 2, 4, 6], [18], 1), ([0, 2, 4, 4], [19], 2), ([0, 2, 4, 2], [1, 5], 1), ([0, 2, 2, 2], [1, 1, 1], 6)]
def tabL : List (List Int) := tabS.map (·.1)
def cntF : Nat → Nat
  | 0 => 0
  | 1 => 2
  | 2 => 6
  | 3 => 20
  | _ => 72

/-- the branches, when two levels differ by s -/
def partsG (s : Int) : List (List Int) → List Int → List (List Int)
  | acc, [] => acc
  | acc, n :: r => partsG s (pushLast (if n - s < s then acc ++ [[]] else acc) (n - s)) r
def formG : Nat → Int → List Int → List Int
  | 0, _, l => l
  | _ + 1, _, [] => []
  | k + 1, s, a :: r => a :: (sortF ((partsG s [] r).map (formG k s))).flatMap (·.map (· + s))
/-- what a list must be for the program to put it into form -/
def okG : Nat → Int → List Int → Bool
  | 0, _, _ => false
  | _ + 1, _, [] => false
  | k + 1, s, a :: r => decide (0 ≤ a ∧ a ≤ 1000) && r.all (fun x => decide (s ≤ x ∧ x ≤ 1000)) && r.head?.all (fun x => decide (x - s < s)) && (partsG s [] r).all (okG k s)

def lastZ : List Int → Int
  | [] => 0
  | [x] => x
  | _ :: r => lastZ r
/-- all lists of levels of an order -/
def levF : Nat → List (List Int)
  | 0 => []
  | 1 => [[0]]
  | n + 2 => (levF (n + 1)).flatMap fun l => (List.range (lastZ l + 1).toNat).map fun k => l ++ [((k : Nat) : Int) + 1]
def colR (set : Nat) : Nat → List Int → List Int
  | _, [] => []
  | i, n :: r => (2 * n + ((set / 2 ^ i % 2 : Nat) : Int)) :: colR set (i + 1) r
/-- all colourings of a list of levels -/
def colF (l : List Int) : List (List Int) := (List.range (2 ^ l.length)).map fun s => colR s 0 l
def compGo (a : List Int) : List (List Int) → List (List Int)
  | [] => []
  | b :: r => if b = a then compGo a r else b :: compGo b r
/-- equal neighbours once -/
def compF : List (List Int) → List (List Int)
  | [] => []
  | a :: r => a :: compGo a r
def listsF (n : Nat) : List (List Int) := (levF n).flatMap fun l => (colF l).map (formG 4 2)
def halfF (l : List Int) : List Int := l.map (· / 2)
/-- place of a list in a row of lists, -1 where it is not -/
def placeL (all : List (List Int)) (l : List Int) : Int := match all.findIdx? (fun x => decide (x = l)) with | some i => i | none => -1
def insI (x : Int) : List Int → List Int
  | [] => [x]
  | y :: r => if x ≤ y then x :: y :: r else y :: insI x r
def sortI : List Int → List Int
  | [] => []
  | x :: r => insI x (sortI r)
/-- symmetry out of the branches -/
def symGo (sy : Int → Int) : List Int → Option Int → Int → Int → Int
  | [], _, _, acc => acc
  | b :: r, pv, times, acc => let t := if pv.all (fun p => decide (b = p)) then times + 1 else 1
    symGo sy r (some b) t (acc * (t * sy b))

theorem rows_tab : ∀ n ∈ [1, 2, 3, 4], compF (sortF (listsF n)) = (tabL.take (cntF n)).drop (cntF (n - 1)) := by decide +kernel
theorem lists_ok : ∀ n ∈ [1, 2, 3, 4], ((levF n).all fun l => (colF l).all (okG 4 2)) = true := by decide +kernel
theorem lev_shape : ∀ n ∈ [1, 2, 3, 4], ((levF n).all fun l => decide (l.length = n) && l.all fun x => decide (0 ≤ x ∧ x ≤ 3)) = true := by decide +kernel
theorem lists_len : ∀ n ∈ [1, 2, 3, 4], (listsF n).length ≤ 80 ∧ (levF n).length ≤ 5 := by decide +kernel
theorem half_ok : (tabL.all fun l => okG 4 1 (halfF l)) = true := by decide +kernel
theorem tab_ok : (tabL.all isShadesF) = true := by decide +kernel
theorem tab_branches : ∀ n ∈ [1, 2, 3, 4], (((tabS.take (cntF n)).drop (cntF (n - 1))).all fun t => match t.1 with
    | [] => false
    | _ :: r => (partsF [] r).all (fun p => decide (placeL (tabL.take (cntF (n - 1))) p ≠ -1)) && decide (sortI ((partsF [] r).map (placeL (tabL.take (cntF (n - 1))))) = t.2.1)) = true := by decide +kernel
theorem tab_len : tabS.length = 72 := by decide +kernel
end Go.Proofs.YtkaepjigmcielaaGreatDoor
