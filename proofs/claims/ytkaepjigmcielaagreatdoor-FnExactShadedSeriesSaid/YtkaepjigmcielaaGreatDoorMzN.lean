/- The branches of a list, whatever the step of its levels: the program's walk. -/
import Derived.Test.YtkaepjigmcielaaGreatDoorBrW
import Derived.Test.YtkaepjigmcielaaGreatDoorMzK
import Derived.Shelf.SlSortCmp.Small
import Derived.Shelf.SlSortCmp.Whole1
import Derived.Shelf.Small.Bits
import Derived.Shelf.SlGeneric
import Derived.Ground.SlsfProg
import Derived.Ground.NamesProg
import Derived.Test.YtkaepjigmcielaaGreatDoorChecked
import Derived.Test.YtkaepjigmcielaaGreatDoorMzG
namespace Go.Proofs.YtkaepjigmcielaaGreatDoor
open Go.RowKit
set_option linter.unusedSimpArgs false
set_option linter.unusedVariables false
set_option maxRecDepth 20000

theorem parts_stepG (st : Int) (ps : List (List Int)) (x : Int) (r : List Int) : partsG st ps (x :: r) = partsG st (pushLast (if x - st < st then ps ++ [[]] else ps) (x - st)) r := rfl

set_option maxHeartbeats 4000000 in
theorem impl_branchListsG (st : Int) (hs1 : 1 ≤ st) (hs2 : st ≤ 2) (gw n c : Nat) (a : Int) (r : List Int) (lo hi : Nat) (w : World) (h : Ints w lo hi (some ⟨gw, 0, none⟩) n c (a :: r)) (hh : hi ≤ w.heap.size) (hn : n ≤ 4) (hr : ∀ x ∈ r, st ≤ x) (h4 : ∀ x ∈ r.head?, x - st < st) :
    Calls Tryz.prog 69 #[.slice (some ⟨gw, 0, none⟩) n c, .int .i64 st] w fun e w' => ∃ g' n' c' vs, e = .returned (.slice (some ⟨g', 0, none⟩) n' c') ∧ RowsO w' w.heap.size (some ⟨g', 0, none⟩) n' c' vs (partsG st [] r) ∧ Below w.heap.size w w' := by
  obtain ⟨i0, hi0, hz0, hz1, hz2⟩ := info_parts info_int
  obtain ⟨i1, hi1, hy0, hy1, hy2⟩ := info_parts info_ints
  have hm := h.max
  have hcp := h.cap
  have hl := hide h.len
  have hn1 : 1 ≤ n := by have := hl.out; simp at this; omega
  have ht := h.tail_if
  have HR := hide hr
  have H4 := hide h4
  clear hr h4 h
  have b0 := below_alloc w (.cells #[] 22)
  have o0 := hide (RowsO.empty w w.heap.size (Nat.le_refl _))
  have z0 := b0.size
  by_cases hcc : c = 1
  · obtain rfl : n = 1 := by omega
    obtain rfl : r = [] := by have := hl.out; simpa using this
    subst hcc
    clear hl ht HR H4
    go_enter Tryz.func69, Tryz.ntmps69
    go_wp2_with fail
    refine wp_loop_rounds 1 ?_
    rw [rounds_succ]
    go_wp2_with fail
    go_ret
    exact ⟨_, _, _, _, rfl, o0.out, b0⟩
  · rw [if_neg hcc] at ht
    go_enter Tryz.func69, Tryz.ntmps69
    go_wp2_with fail
    generalize World.alloc w (.cells #[] 22) = W0 at o0 b0 z0 ⊢
    have hlr : r.length = n - 1 := ht.len
    have HL := hide hlr
    clear hlr hl
    go_loopw [5, 7, 8, 13] (fun o _ _ i wr => ∃ (k gA n' c' : Nat), k ≤ n - 1 ∧ i = .int .i64 k ∧ o = .slice (some ⟨gA, 0, none⟩) n' c' ∧ n' ≤ k ∧ (0 < k → 0 < n') ∧ Hid (∃ vs pss, RowsO wr w.heap.size (some ⟨gA, 0, none⟩) n' c' vs pss ∧ partsG st [] r = partsG st pss (r.drop k) ∧ ∀ p ∈ pss, p.length ≤ k) ∧ Hid (Below w.heap.size w wr))
      (fun _ _ _ i _ => n - (intOf i).toNat)
    case atStart => exact ⟨0, _, 0, 0, by omega, rfl, rfl, by omega, by omega, ⟨_, _, o0.out, rfl, by simp⟩, b0⟩
    case round =>
      obtain ⟨k, gA, N, C, hk, rfl, rfl, hNk, hN0, hrel, hb⟩ := hrel
      have hsz := hb.out.size
      by_cases hlt : k < n - 1
      · obtain ⟨ad, x, e, hc, hxr, hdx, hx⟩ := (ht.below hb.out hh).at_ hlt
        injection e with e
        subst e
        have hx2 : st ≤ x := HR.out x (List.mem_of_getElem? hx.out)
        unfold R64 at hxr
        obtain ⟨vs, pss, hO, hE, hP4⟩ := hrel.out
        have HP4 := hide hP4
        have hcb := hO.capb
        have hvl := hide hO.vlen
        have hpl := hide hO.len
        have HO := hide hO
        have HE : Hid (partsG st [] r = partsG st (pushLast (if x - st < st then pss ++ [[]] else pss) (x - st)) (r.drop (k + 1))) := by show _ = _; rw [hE, hdx.out, parts_stepG]
        simp only [Addr.add_lit] at hc
        have hr64 : R64 (x - st) := ⟨by omega, by omega⟩
        have HR64 := hide hr64
        clear hE hO hrel hdx hr64 hP4
        have hadd : IntKind.i64.wrap (x - st) = x - st := IntWalk.i64_in _ (by omega)
        have HW := hide hadd
        clear hadd
        by_cases hx4 : x - st < st
        · have hdec : decide (x - st < st) = true := decide_eq_true hx4
          have HE2 : Hid (partsG st [] r = partsG st (pushLast (pss ++ [[]]) (x - st)) (r.drop (k + 1))) := by show _ = _; rw [HE.out, if_pos hx4]
          go_wp2_with (first | (at_builtin; refine wpl_app1b rfl (.tmp 22) (.tmp 24) 26 rfl w.heap.size 22 i1 (.slice none 0 0) 1 24 Tryz.underlying26 hi1 hy0 hy1 hy2 rfl (by omega) _ #[.slice (some ⟨wr.heap.size, 0, none⟩) 0 0] _ (by simp) (some ⟨gA, 0, none⟩) N C 1 _ rfl rfl (HO.out.own.alloc _) rfl (by simp [Value.oneCell']) (by omega) (by omega) (by simp; omega) ?_; intro A2 c2 w4 happ hlt2; have hP := hide (HO.out.push hsz happ); obtain ⟨g, rfl, hg1, hg2⟩ := hP.out.form (Nat.succ_pos _); have cel := hP.out.cell (snoc_getV hvl.out); have b4 := hide (happ.low (hb.out.alloc hsz _) (by simp; omega) (Nat.le_refl _) (HO.out.own.alloc _)); have Q4 := hide (hP.out.nilrow (snoc_getV hvl.out)); have hcb2 := hP.out.capb; have zw4 : w.heap.size ≤ w4.heap.size := b4.out.size; clear happ) | (at_builtin; refine wpl_app1b rfl (.tmp 34) (.tmp 38) 22 rfl w.heap.size 3 i0 (.int .i64 0) 1 8 Tryz.underlying22 hi0 hz0 hz1 hz2 rfl (by omega) _ #[.int .i64 (x - st)] _ rfl _ 0 0 1 _ rfl rfl Q4.out rfl (by simp [Value.oneCell']) (by omega) (by omega) zw4 ?_; intro B3 d3 w5 happ hlt5; obtain ⟨mc, mf⟩ := hP.out.mid (snoc_getV hvl.out) happ; have HG := hide (hP.out.grow (snoc_get hpl.out) (snoc_getV hvl.out) happ HR64.out); have b5 := hide (happ.low b4.out zw4 (Nat.le_refl _) Q4.out); clear happ))
          go_roundw
          case rel => exact ⟨k + 1, _, N + 1, c2, by omega, by go_num, rfl, by omega, by omega, ⟨_, _, HG.out, by rw [HE2.out, ← set_last (snoc_get hpl.out) (by simp [hpl.out])], len_set (len_snoc HP4.out) (snoc_get hpl.out)⟩, b5.out.setCell (by omega) _⟩
          case measure => simp [intOf]; omega
        · have hdec : decide (x - st < st) = false := decide_eq_false hx4
          have HE2 : Hid (partsG st [] r = partsG st (pushLast pss (x - st)) (r.drop (k + 1))) := by show _ = _; rw [HE.out, if_neg hx4]
          have hk0 : 0 < k := by
            rcases Nat.eq_zero_or_pos k with e | e
            · subst e
              have := H4.out x (by rw [List.head?_eq_getElem?]; exact hx.out)
              omega
            · exact e
          obtain ⟨N, rfl⟩ : ∃ M, N = M + 1 := ⟨N - 1, by omega⟩
          obtain ⟨g, eg_, hg1, hg2⟩ := HO.out.form (Nat.succ_pos _)
          injection eg_ with eg_
          injection eg_ with eg_
          subst eg_
          obtain ⟨B, m, d, xs, q1, q2, q3, q4⟩ := HO.out.last
          have cel := HO.out.cell q1
          have Q1 := hide q1
          have Q2 := hide q2
          have Q4 := hide q4
          have hml : m ≤ 1099511627775 := by
            have e := q3
            have := HP4.out xs (List.mem_of_getElem? q2)
            omega
          clear q1 q2 q3 q4
          go_wp2_with (at_builtin; refine wpl_app1b rfl (.tmp 34) (.tmp 38) 22 rfl w.heap.size 3 i0 (.int .i64 0) 1 8 Tryz.underlying22 hi0 hz0 hz1 hz2 rfl (by omega) wr #[.int .i64 (x - st)] _ rfl B m d 1 _ rfl rfl Q4.out rfl (by simp [Value.oneCell']) (by omega) (by omega) hsz ?_; intro B3 d3 w5 happ hlt5; obtain ⟨mc, mf⟩ := HO.out.mid Q1.out happ; have HG := hide (HO.out.grow Q2.out Q1.out happ HR64.out); have b5 := hide (happ.low hb.out hsz (Nat.le_refl _) Q4.out); clear happ)
          go_roundw
          case rel => exact ⟨k + 1, _, N + 1, C, by omega, by go_num, rfl, by omega, by omega, ⟨_, _, HG.out, by rw [HE2.out, ← set_last Q2.out (by simp [hpl.out])], len_set HP4.out Q2.out⟩, b5.out.setCell (by omega) _⟩
          case measure => simp [intOf]; omega
      · obtain rfl : k = n - 1 := by omega
        obtain ⟨vs, pss, hO, hE, _⟩ := hrel.out
        have hnil : r.drop (n - 1) = [] := List.drop_eq_nil_of_le (by rw [HL.out]; exact Nat.le_refl _)
        have R : RowsO wr w.heap.size (some ⟨gA, 0, none⟩) N C vs (partsG st [] r) := by rw [hE, hnil]; exact hO
        have HR2 := hide R
        clear hE hO hrel hnil R
        go_wp2_with fail
        go_ret
        exact ⟨_, _, _, _, rfl, HR2.out, hb.out⟩
end Go.Proofs.YtkaepjigmcielaaGreatDoor
/- slices.SortFunc and bits.Len: the library's laying at this dump, printed by the shelf's plain mode. -/
namespace Go.Proofs.YtkaepjigmcielaaGreatDoor
open Go.Shelf
set_option linter.unusedSimpArgs false
set_option linter.unusedVariables false
set_option maxRecDepth 20000
def sh_sortL_ren : Go.Shelf.Ren := ⟨fun | 6 => 63 | 15 => 90 | 14 => 89 | 28 => 111 | 29 => 112 | 20 => 103 | 21 => 104 | 22 => 105 | 23 => 106 | 24 => 107 | 25 => 108 | 26 => 109 | 27 => 110 | 46 => 127 | 47 => 128 | 48 => 129 | 49 => 130 | 50 => 131 | 57 => 135 | n => n, fun | 22 => 26 | 24 => 22 | 25 => 82 | 3 => 3 | 39 => 101 | 0 => 0 | 53 => 117 | 55 => 119 | 4 => 4 | 46 => 110 | 45 => 109 | 50 => 114 | 5 => 5 | 9 => 9 | 66 => 128 | 70 => 132 | 76 => 136 | 77 => 137 | n => n, fun | n => n⟩
theorem sh_sortL : Go.Proofs.SlLaysF.n6 Tryz.prog sh_sortL_ren := {
  mixed := by kernel_rfl
  f6 := ⟨Tryz.f63.name, by decide, Tryz.func63.trans (congrArg some (by kernel_rfl))⟩
  f14 := ⟨Tryz.f89.name, by decide, Tryz.func89.trans (congrArg some (by kernel_rfl))⟩
  f15 := Tryz.func90.trans (congrArg some (by kernel_rfl))
  f20 := ⟨Tryz.f103.name, by decide, Tryz.func103.trans (congrArg some (by kernel_rfl))⟩
  f21 := ⟨Tryz.f104.name, by decide, Tryz.func104.trans (congrArg some (by kernel_rfl))⟩
  f22 := ⟨Tryz.f105.name, by decide, Tryz.func105.trans (congrArg some (by kernel_rfl))⟩
  f23 := ⟨Tryz.f106.name, by decide, Tryz.func106.trans (congrArg some (by kernel_rfl))⟩
  f24 := ⟨Tryz.f107.name, by decide, Tryz.func107.trans (congrArg some (by kernel_rfl))⟩
  f25 := ⟨Tryz.f108.name, by decide, Tryz.func108.trans (congrArg some (by kernel_rfl))⟩
  f26 := ⟨Tryz.f109.name, by decide, Tryz.func109.trans (congrArg some (by kernel_rfl))⟩
  f27 := ⟨Tryz.f110.name, by decide, Tryz.func110.trans (congrArg some (by kernel_rfl))⟩
  f28 := Tryz.func111.trans (congrArg some (by kernel_rfl))
  f29 := Tryz.func112.trans (congrArg some (by kernel_rfl))
  f46 := ⟨Tryz.f127.name, by decide, Tryz.func127.trans (congrArg some (by kernel_rfl))⟩
  f47 := Tryz.func128.trans (congrArg some (by kernel_rfl))
  f48 := Tryz.func129.trans (congrArg some (by kernel_rfl))
  f49 := ⟨Tryz.f130.name, by decide, Tryz.func130.trans (congrArg some (by kernel_rfl))⟩
  f50 := ⟨Tryz.f131.name, by decide, Tryz.func131.trans (congrArg some (by kernel_rfl))⟩
  f57 := ⟨Tryz.f135.name, by decide, Tryz.func135.trans (congrArg some (by kernel_rfl))⟩
  t0 := Tryz.underlying0
  a0 := Tryz.isAgg0
  z0 := Tryz.sizeOf0
  v0 := Tryz.zeroValue0
  t3 := Tryz.underlying3
  a3 := Tryz.isAgg3
  z3 := Tryz.sizeOf3
  v3 := Tryz.zeroValue3
  t4 := Tryz.underlying4
  a4 := Tryz.isAgg4
  z4 := Tryz.sizeOf4
  v4 := Tryz.zeroValue4
  t5 := Tryz.underlying5
  a5 := Tryz.isAgg5
  z5 := Tryz.sizeOf5
  v5 := Tryz.zeroValue5
  t9 := Tryz.underlying9
  a9 := Tryz.isAgg9
  z9 := Tryz.sizeOf9
  v9 := Tryz.zeroValue9
  t22 := Tryz.underlying26
  a22 := Tryz.isAgg26
  z22 := Tryz.sizeOf26
  v22 := Tryz.zeroValue26
  a24 := Tryz.isAgg22
  z24 := Tryz.sizeOf22
  t25 := Tryz.underlying82
  a25 := Tryz.isAgg82
  z25 := Tryz.sizeOf82
  v25 := Tryz.zeroValue82
  t39 := Tryz.underlying101
  a39 := Tryz.isAgg101
  z39 := Tryz.sizeOf101
  v39 := Tryz.zeroValue101
  t45 := Tryz.underlying109
  a45 := Tryz.isAgg109
  z45 := Tryz.sizeOf109
  v45 := Tryz.zeroValue109
  t46 := Tryz.underlying110
  a46 := Tryz.isAgg110
  z46 := Tryz.sizeOf110
  v46 := Tryz.zeroValue110
  t50 := Tryz.underlying114
  a50 := Tryz.isAgg114
  z50 := Tryz.sizeOf114
  v50 := Tryz.zeroValue114
  t53 := Tryz.underlying117
  a53 := Tryz.isAgg117
  z53 := Tryz.sizeOf117
  v53 := Tryz.zeroValue117
  t55 := Tryz.underlying119
  a55 := Tryz.isAgg119
  z55 := Tryz.sizeOf119
  v55 := Tryz.zeroValue119
  t66 := Tryz.underlying128
  a66 := Tryz.isAgg128
  z66 := Tryz.sizeOf128
  v66 := Tryz.zeroValue128
  t70 := Tryz.underlying132
  a70 := Tryz.isAgg132
  z70 := Tryz.sizeOf132
  v70 := Tryz.zeroValue132
  t76 := Tryz.underlying136
  a76 := Tryz.isAgg136
  z76 := Tryz.sizeOf136
  v76 := Tryz.zeroValue136
  t77 := Tryz.underlying137
  a77 := Tryz.isAgg137
  z77 := Tryz.sizeOf137
  v77 := Tryz.zeroValue137 }
def sh_bitsLen_ren : Go.Shelf.Ren := ⟨fun | 125 => 90 | 128 => 111 | 129 => 112 | n => n, fun | 46 => 101 | 3 => 3 | 51 => 117 | 53 => 119 | 4 => 4 | 5 => 5 | 9 => 9 | n => n, fun | n => n⟩
theorem sh_bitsLen : Go.Proofs.Lays.n125 Tryz.prog sh_bitsLen_ren := {
  mixed := by kernel_rfl
  f125 := Tryz.func90.trans (congrArg some (by kernel_rfl))
  f128 := Tryz.func111.trans (congrArg some (by kernel_rfl))
  f129 := Tryz.func112.trans (congrArg some (by kernel_rfl))
  t3 := Tryz.underlying3
  a3 := Tryz.isAgg3
  z3 := Tryz.sizeOf3
  v3 := Tryz.zeroValue3
  t4 := Tryz.underlying4
  a4 := Tryz.isAgg4
  z4 := Tryz.sizeOf4
  v4 := Tryz.zeroValue4
  t5 := Tryz.underlying5
  a5 := Tryz.isAgg5
  z5 := Tryz.sizeOf5
  v5 := Tryz.zeroValue5
  t9 := Tryz.underlying9
  a9 := Tryz.isAgg9
  z9 := Tryz.sizeOf9
  v9 := Tryz.zeroValue9
  t46 := Tryz.underlying101
  a46 := Tryz.isAgg101
  z46 := Tryz.sizeOf101
  v46 := Tryz.zeroValue101
  t51 := Tryz.underlying117
  a51 := Tryz.isAgg117
  z51 := Tryz.sizeOf117
  v51 := Tryz.zeroValue117
  t53 := Tryz.underlying119
  a53 := Tryz.isAgg119
  z53 := Tryz.sizeOf119
  v53 := Tryz.zeroValue119 }
end Go.Proofs.YtkaepjigmcielaaGreatDoor
/- slices.SortFunc on a few rows of integers by the closure that compares them backwards: the rows stand in descending order. -/
namespace Go.Proofs.YtkaepjigmcielaaGreatDoor
open Go.RowKit
set_option linter.unusedSimpArgs false
set_option linter.unusedVariables false
set_option maxRecDepth 20000

theorem sorted_closure (A : Option Addr) (n c : Nat) (xs : List Int) (lo hi : Nat) (B : Option Addr) (m d : Nat) (ys : List Int) (lo' hi' : Nat) (w : World) (h : Ints w lo hi A n c xs) (g : Ints w lo' hi' B m d ys) :
    Calls Tryz.prog 88 #[.slice A n c, .slice B m d] w fun e w' => e = .returned (.int .i64 (cmpF ys xs)) ∧ w = w' := by
  have hC := hide (slices_Compare B m d ys lo' hi' A n c xs lo hi w g h)
  clear h g
  go_enter Tryz.func88, Tryz.ntmps88
  go_wp2_with fail
  refine hC.out.mono ?_
  rintro e w' ⟨rfl, rfl⟩
  go_wp2_with fail
  go_ret
  exact ⟨rfl, rfl⟩

theorem bits_len (n : Nat) (W : World) (h : n ≤ 12) : Calls Tryz.prog 90 #[.int .u64 n] W fun e w' => (∃ l : Int, e = .returned (.int .i64 l)) ∧ w' = W :=
  (Any.bits_Len sh_bitsLen n W (by omega) (by omega)).mono fun _ _ ⟨he, hw⟩ => ⟨⟨_, he⟩, hw⟩

/-- A row as the sort sees it. -/
structure RowV (w : World) (lo hi g : Nat) where
  B : Option Addr
  m : Nat
  d : Nat
  xs : List Int
  ok : ∃ l h, Ints w l h B m d xs ∧ lo ≤ l ∧ h ≤ hi ∧ (h ≤ g ∨ g < l) ∧ ∀ ad, B = some ad → ad = ⟨ad.block, 0, none⟩
def encV {w : World} {lo hi g : Nat} (v : RowV w lo hi g) : Value := .slice v.B v.m v.d
def cfV {w : World} {lo hi g : Nat} (x y : RowV w lo hi g) : Int := cmpF y.xs x.xs

section
variable {w : World} {lo hi g : Nat}
theorem ltV (x y : RowV w lo hi g) : ltOf cfV x y = lessF y.xs x.xs := cmp_neg _ _
theorem swoV : Go.Sort.SWO (ltOf (cfV (w := w) (lo := lo) (hi := hi) (g := g))) where
  irrefl x := by rw [ltV]; exact less_irrefl _
  trans x y z h1 h2 := by rw [ltV] at *; exact less_trans h2 h1
  ntrans x y z h1 h2 := by rw [ltV] at *; exact less_ntrans h2 h1

theorem rowsV : ∀ (vs : List Value) (xss : List (List Int)), vs.length = xss.length →
    (∀ (j : Nat) (xs : List Int), xss[j]? = some xs → ∃ (B : Option Addr) (m d l h : Nat), vs[j]? = some (Value.slice B m d) ∧ Ints w l h B m d xs ∧ lo ≤ l ∧ h ≤ hi ∧ (h ≤ g ∨ g < l) ∧ ∀ ad, B = some ad → ad = ⟨ad.block, 0, none⟩) →
    ∃ ds : List (RowV w lo hi g), ds.map encV = vs ∧ ds.map (·.xs) = xss
  | [], [], _, _ => ⟨[], rfl, rfl⟩
  | v :: vs, x :: xss, hl, h => by
    obtain ⟨ds, e1, e2⟩ := rowsV vs xss (by simpa using hl) (fun j xs hj => by
      obtain ⟨B, m, d, l, h, h1, h2⟩ := h (j + 1) xs (by simpa using hj)
      exact ⟨B, m, d, l, h, by simpa using h1, h2⟩)
    obtain ⟨B, m, d, l, h, h1, h2⟩ := h 0 x rfl
    have h1' : v = .slice B m d := by simpa using h1
    exact ⟨⟨B, m, d, x, l, h, h2⟩ :: ds, by rw [List.map_cons, e1, h1']; rfl, by rw [List.map_cons, e2]⟩

theorem block_putRow {α : Type} [Inhabited α] (enc : α → Value) (w : World) (b off : Nat) (d : Array α) (k : Nat) (hk : k ≠ b) : (Go.Sort.putRow enc w b off d).heap[k]? = w.heap[k]? := by
  simp [Go.Sort.putRow, Go.Sort.mapBlock, Array.getElem?_modify, Ne.symm hk]

theorem own_putRow {α : Type} [Inhabited α] (enc : α → Value) {w : World} {lo e g n c : Nat} {vs : List Value} (h : w.ownsRow lo e 1 (.slice (some ⟨g, 0, none⟩) n c) n vs) (d : Array α) (hd : d.size = n) :
    (Go.Sort.putRow enc w g 0 d).ownsRow lo e 1 (.slice (some ⟨g, 0, none⟩) n c) n (d.toList.map enc) := by
  refine ⟨by simp [hd], ?_⟩
  rcases h.2 with ⟨h', _⟩ | ⟨g', cap, cur, h', hb, hg, hnc, hcm, hcs, htake⟩
  · simp at h'
  · have e1 := h'
    simp only [Value.slice.injEq, Option.some.injEq, Addr.mk.injEq, and_true, true_and] at e1
    obtain ⟨rfl, rfl⟩ := e1
    refine .inr ⟨g, c, Go.Sort.putCells enc 0 d cur, rfl, hb, ?_, hnc, hcm, by simpa [Go.Sort.putCells] using hcs, ?_⟩
    · simp [Go.Sort.putRow, Go.Sort.mapBlock, Array.getElem?_modify, hg, Go.Sort.onCells]
    · apply List.ext_getElem?
      intro j
      rw [List.getElem?_take]
      by_cases hj : j < n
      · rw [if_pos (by omega), Array.getElem?_toList]
        simp only [Go.Sort.putCells, Array.getElem?_mapIdx]
        rw [Array.getElem?_eq_getElem (by omega), Option.map_some, if_pos ⟨Nat.zero_le _, by omega⟩]
        rw [Nat.sub_zero, getElem!_pos d j (by omega)]
        simp [hd, hj]
      · rw [if_neg (by omega), List.getElem?_eq_none (by simp; omega)]

theorem sortedIn_desc [Inhabited (RowV w lo hi g)] {d : Array (RowV w lo hi g)} (h : Go.Sort.SortedIn (ltOf cfV) 0 d.size d) : Desc (d.toList.map (·.xs)) := by
  unfold Desc
  rw [List.pairwise_map, List.pairwise_iff_getElem]
  intro i j hi hj hij
  have := h i j (Nat.zero_le _) hij (by simpa using hj)
  rw [ltV, getElem!_pos d i (by simpa using hi), getElem!_pos d j (by simpa using hj)] at this
  simpa using this

theorem sort_rows {n c : Nat} {vs : List Value} {xss : List (List Int)} (hR : RowsI w lo hi (some ⟨g, 0, none⟩) n c vs xss) (hn : n ≤ 12) (hh : hi ≤ w.heap.size) :
    Calls Tryz.prog 63 #[.slice (some ⟨g, 0, none⟩) n c, .func (.func 88) #[] #[]] w fun e w' =>
      e = .returned (.tuple #[]) ∧ ∃ vs', RowsI w' lo hi (some ⟨g, 0, none⟩) n c vs' (sortF xss) ∧ Touch g (g + 1) w w' := by
  have hg : g < hi := hR.lt _ rfl
  have hlg : lo ≤ g := (hR.own.lt g rfl).1
  have hvl := hR.vlen
  have hxl := hR.len
  haveI : Inhabited (RowV w lo hi g) := ⟨⟨none, 0, 0, [], hi, hi, Ints.nil_ _ _ _, by omega, Nat.le_refl _, .inr hg, by simp⟩⟩
  obtain ⟨ds, e1, e2⟩ := rowsV (w := w) (lo := lo) (hi := hi) (g := g) vs xss (by omega) (fun j xs hj => by
    obtain ⟨B, m, d, l, h, h1, h2, h3, h4, h5, h6⟩ := hR.row j xs hj
    exact ⟨B, m, d, l, h, h1, h2, h3, h4, h5 _ rfl, h6⟩)
  have hds : ds.length = n := by rw [← hvl, ← e1]; simp
  have eg : ∀ args w, (callFunc 88 args).run Tryz.prog w = .ok (.enter 88 args) w := enters_of Tryz.func88 (by kernel_rfl) rfl
  have hH : Go.Sort.Holds encV w g 0 ds.toArray := fun j hj => by
    have hj' : j < ds.length := by simpa using hj
    rw [Nat.zero_add, getElem!_pos ds.toArray j hj]
    refine ⟨(hR.own.cellAt j (by omega)).trans ?_, hR.own.frozenAt j⟩
    rw [← e1, List.getElem?_map, List.getElem?_eq_getElem hj']
    rfl
  have hcmp : CmpReads Tryz.prog 88 #[] (encV (w := w) (lo := lo) (hi := hi) (g := g)) cfV g 0 ds.toArray.size w := by
    intro m os dk hdk x y
    obtain ⟨l, h, hx, _, x1, x2, _⟩ := x.ok
    obtain ⟨l', h', hy, _, y1, y2, _⟩ := y.ok
    have hs : ∀ l h, h ≤ hi → (h ≤ g ∨ g < l) → Same l h w (sortWorld encV w g 0 m dk os) := fun l h h1 h2 k h3 h4 => by
      unfold sortWorld
      rw [Go.Sort.heap_grow_old _ _ (by simp [Go.Sort.size_putRow, Go.Sort.ahead]; omega), block_putRow _ _ _ _ _ _ (by omega)]
      rfl
    exact (sorted_closure _ _ _ _ _ _ _ _ _ _ _ _ _ (hx.same (hs _ _ x1 x2)) (hy.same (hs _ _ y1 y2))).mono fun e w' ⟨h1, h2⟩ => ⟨h1, 0, h2.symm⟩
  have hS := Any.slices_SortFunc_small_sorted sh_sortL (encV (w := w) (lo := lo) (hi := hi) (g := g)) (fun _ => rfl) cfV swoV 88 #[] g 0 c ds.toArray w eg hcmp hH (by simpa [hds] using hn) bits_len
  change Calls Tryz.prog 63 _ _ _ at hS
  rw [show ds.toArray.size = n by simpa using hds] at hS
  refine hS.mono fun e w' ⟨he, d', q, hp, hso, hw⟩ => ?_
  have hsz : d'.size = n := by have := hp.1; simpa [hds] using this
  have hperm : d'.toList.Perm ds := by
    have h3 := hp.2.2
    have a1 : d'.extract 0 n = d' := by rw [← hsz]; exact Array.extract_size
    have a2 : ds.toArray.extract 0 n = ds.toArray := by
      have := Array.extract_size (xs := ds.toArray)
      rwa [show ds.toArray.size = n by simpa using hds] at this
    rw [a1, a2] at h3
    exact h3
  have hdesc : Desc (d'.toList.map (·.xs)) := sortedIn_desc (by rw [hsz]; exact hso)
  have hxs : d'.toList.map (·.xs) = sortF xss := sort_unique (by rw [← e2]; exact hperm.map _) hdesc
  subst hw
  refine ⟨he, d'.toList.map encV, ?_, ?_⟩
  · refine ⟨own_putRow encV hR.own d' hsz, fun ad e => hR.lt ad e, by rw [← hxs]; simp [hsz], fun j xs hj => ?_⟩
    rw [← hxs, List.getElem?_map] at hj
    cases hv : d'.toList[j]? with
    | none => rw [hv] at hj; cases hj
    | some v =>
      rw [hv] at hj
      injection hj with hj
      subst hj
      obtain ⟨l, h, h1, h2, h3, h4, h5⟩ := v.ok
      refine ⟨v.B, v.m, v.d, l, h, by rw [List.getElem?_map, hv]; rfl, h1.same (fun k h6 h7 => ?_), h2, h3, fun ad e => by injection e with e; subst e; exact h4, h5⟩
      exact block_putRow encV w g 0 d' k (by omega)
  · refine ⟨rfl, rfl, rfl, by simp [World.drewN, Go.Sort.size_putRow], fun k hk hd => ?_⟩
    exact block_putRow encV w g 0 d' k (by omega)
end
end Go.Proofs.YtkaepjigmcielaaGreatDoor
/- impl.sorted returns the greatest list of a shaded tree. -/
namespace Go.Proofs.YtkaepjigmcielaaGreatDoor
open Go.RowKit
set_option linter.unusedSimpArgs false
set_option linter.unusedVariables false
set_option maxRecDepth 20000

def flat2 (s : List (List Int)) : List Int := s.flatMap (·.map (· + 2))
theorem flat2_len (s : List (List Int)) : (flat2 s).length = s.flatten.length := by
  unfold flat2
  induction s with
  | nil => rfl
  | cons p r ih => rw [List.flatMap_cons, List.flatten_cons, List.length_append, List.length_append, ih, List.length_map]
theorem flat2_take {s : List (List Int)} {j : Nat} {p : List Int} (h : s[j]? = some p) : flat2 (s.take (j + 1)) = flat2 (s.take j) ++ p.map (· + 2) := by
  unfold flat2
  rw [List.take_add_one, h]
  simp
theorem flat2_take_len {s : List (List Int)} {j : Nat} {p : List Int} (h : s[j]? = some p) : (flat2 (s.take j)).length + p.length ≤ s.flatten.length := by
  have h1 := flat2_take h
  have h2 : (flat2 (s.take (j + 1))).length ≤ (flat2 s).length := by
    have : flat2 s = flat2 (s.take (j + 1)) ++ flat2 (s.drop (j + 1)) := by
      unfold flat2
      rw [← List.flatMap_append, List.take_append_drop]
    rw [this, List.length_append]
    omega
  rw [h1, List.length_append, List.length_map, flat2_len s] at h2
  exact h2

theorem form_len (k : Nat) (l : List Int) : (formF k l).length = l.length := (form_perm k l).length_eq
theorem flatten_perm {us vs : List (List Int)} (h : us.Perm vs) : us.flatten.length = vs.flatten.length := by
  have := (perm_flatMap (f := id) h).length_eq
  simpa [List.flatMap_id] using this
theorem map_flat_len (k : Nat) : ∀ ps : List (List Int), (ps.map (formF k)).flatten.length = ps.flatten.length
  | [] => rfl
  | p :: r => by rw [List.map_cons, List.flatten_cons, List.flatten_cons, List.length_append, List.length_append, form_len, map_flat_len k r]
theorem sorted_flat_len (k : Nat) (r : List Int) : (sortF ((partsF [] r).map (formF k))).flatten.length = r.length := by
  rw [flatten_perm (sortF_perm _), map_flat_len, parts_flat]
  simp
theorem sorted_mem {k : Nat} {r : List Int} {p : List Int} (h : p ∈ sortF ((partsF [] r).map (formF k))) : ∀ x ∈ p, x + 2 ∈ r := by
  intro x hx
  have h1 := (sortF_perm _).mem_iff.1 h
  obtain ⟨q, hq, rfl⟩ := List.mem_map.1 h1
  have h2 := (form_perm k q).mem_iff.1 hx
  have h3 : x ∈ (partsF [] r).flatten := List.mem_flatten.2 ⟨q, hq, h2⟩
  rw [parts_flat] at h3
  obtain ⟨y, hy, rfl⟩ := List.mem_map.1 (by simpa using h3 : x ∈ r.map (· - 2))
  simpa using hy
theorem own_snoc {w0 w4 : World} {lo n c c4 : Nat} {A A4 : Option Addr} {xs p : List Int} {u : Nat} {x : Int} (h : Appended w0 lo 3 1 A n c A4 (n + 1) c4 ((xs ++ (p.take u).map (· + 2)).map (Value.int .i64) ++ [.int .i64 (x + 2)]) w4) (hx : p[u]? = some x) (hr : ∀ y ∈ xs ++ (p.take (u + 1)).map (· + 2), R64 y) : OwnI w4 lo w4.heap.size A4 (n + 1) c4 (xs ++ (p.take (u + 1)).map (· + 2)) :=
  ⟨by
    have := h.1
    rw [List.take_add_one, hx]
    simpa using this, fun ad e => (owns_lt h.1 ad e).2, hr⟩
theorem start_ok {w : World} {lo hi n c : Nat} {A : Option Addr} {xs p : List Int} (h : OwnI w lo hi A n c xs) : OwnI w lo hi A n c (xs ++ (p.take 0).map (· + 2)) := by simpa using h
theorem r64_snoc {xs p : List Int} {u : Nat} {x : Int} (h : ∀ y ∈ xs ++ (p.take u).map (· + 2), R64 y) (hx : p[u]? = some x) (hr : 0 ≤ x + 2 ∧ x + 2 ≤ 1000) : ∀ y ∈ xs ++ (p.take (u + 1)).map (· + 2), R64 y := by
  intro y hy
  rw [List.take_add_one, hx, List.map_append, ← List.append_assoc] at hy
  rcases List.mem_append.1 hy with hy | hy
  · exact h y hy
  · obtain rfl : y = x + 2 := by simpa using hy
    constructor <;> omega
theorem r64_one {a : Int} (h0 : 0 ≤ a) (h2 : a < 2) : ∀ x ∈ a :: flat2 (([] : List (List Int)).take 0), R64 x := by
  intro x hx
  obtain rfl : x = a := by simpa [flat2] using hx
  constructor <;> omega
theorem parts_mem {r : List Int} {p : List Int} (h : p ∈ partsF [] r) : ∀ x ∈ p, x + 2 ∈ r := by
  intro x hx
  have h3 : x ∈ (partsF [] r).flatten := List.mem_flatten.2 ⟨p, h, hx⟩
  rw [parts_flat] at h3
  obtain ⟨y, hy, rfl⟩ := List.mem_map.1 (by simpa using h3 : x ∈ r.map (· - 2))
  simpa using hy
theorem good_parts {a : Int} {r : List Int} (h : Good (a :: r)) : (∀ p ∈ partsF [] r, Good p) ∧ (∀ x ∈ r, 2 ≤ x) ∧ (∀ x ∈ r.head?, x < 4) ∧ 0 ≤ a ∧ a < 2 := by
  obtain ⟨b, q, e, h0, h1, h2⟩ := h
  injection e with e1 e2
  subst e1 e2
  exact ⟨part_good h0 h1 h2, shadesGo_two r a h2, shadesGo_head h1 h0 h2, h0, h1⟩
theorem form_unfold (k : Nat) (a : Int) (r : List Int) : formF (k + 1) (a :: r) = a :: flat2 (sortF ((partsF [] r).map (formF k))) := rfl

end Go.Proofs.YtkaepjigmcielaaGreatDoor
