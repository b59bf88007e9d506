/- Elementary differentials of shaded trees along paths: the reference's walk. -/
import Derived.Test.YtjpldapkdfafgaaGreatDoorMzBB
import Derived.Test.YtjpldapkdfafgaaGreatDoorRows
import Derived.Test.YtjpldapkdfafgaaGreatDoorMzA
import Derived.Test.YtjpldapkdfafgaaGreatDoorMzC
import Derived.ProofKit
import Derived.OpenShut
import Derived.ShutString
import Derived.ChangeOld
import Derived.Below
import Derived.Test.YtjpldapkdfafgaaGreatDoorMzQ
import Derived.OpenVars
import Derived.ChangeVars
namespace Go.Proofs.YtjpldapkdfafgaaGreatDoor
open Go.RowKit
set_option linter.unusedSimpArgs false
set_option linter.unusedVariables false
set_option maxRecDepth 20000

theorem shAl_len (dim n : Nat) (D : Nat → Jr n) : ∀ r ∈ Jr.rowsJ dim D, r.length = n := fun r hr => (Jr.rowsJ_num dim D r hr).1
set_option maxRecDepth 100000 in
set_option maxHeartbeats 8000000 in
theorem spec_ShadedAlong_bad (o : Int) (P : Option Addr) (k e : Nat) (ps : List (List Mono)) (C : Option Addr) (nC cC : Nat) (cs : List Int) (K : Int) (X : Option Addr) (x f : Nat) (xss : List (List Int)) (lo hi : Nat) (w : World)
    (hp : Mons2 w lo hi P k e ps) (hc : Ints w lo hi C nC cC cs) (hx : Ints2 w lo hi X x f xss) (hh : hi ≤ w.heap.size) (hlen : ∀ p ∈ ps, ∀ m ∈ p, m.2.length ≤ 1048576) (hbad : shAlOk o ps cs xss K = false) :
    Calls Tryz.prog 6 #[.agg #[.int .i64 o, .slice P k e], .slice C nC cC, .int .i64 K, .slice X x f] w fun r w' => r = .returned (.slice none 0 0) ∧ Below w.heap.size w w' := by
  have hcl := hc.len
  have b1 := below_alloc w (.cells #[.int .i64 o, .slice P k e] 32)
  have k1 := BlkN.new w #[.int .i64 o, .slice P k e] 32
  have hat : ∀ W, Calls Tryz.prog 20 #[.int .i64 K] W fun r w' => ∃ A m c, r = .returned (.slice A m c) ∧ ((0 ≤ K ∧ K < 72) ∨ m = 0) ∧ m ≤ 4 ∧ c ≤ 9223372036854775807 ∧ m ≤ c ∧ Below W.heap.size W w' := fun W => by
    by_cases hK : 0 ≤ K ∧ K < 72
    · obtain ⟨cn, rfl⟩ : ∃ q : Nat, K = (q : Int) := ⟨K.toNat, by omega⟩
      refine (spec_ShadesAt cn (by omega) W).mono ?_
      rintro r w' ⟨g, m, c, l, h, rfl, hI, _, _, hb⟩
      have := (list_fine (cn := cn) (by omega)).2
      exact ⟨_, m, c, rfl, .inl hK, by rw [← hI.len]; exact this, hI.max, hI.cap, hb⟩
    · refine (spec_ShadesAt_not K hK W).mono ?_
      rintro r w' ⟨rfl, rfl⟩
      exact ⟨_, 0, 0, rfl, .inr rfl, by omega, by omega, by omega, Below.refl _ _⟩
  have HAT := hide hat
  clear hat
  go_enter Tryz.func6, Tryz.ntmps6
  go_wp2_with fail
  generalize w.alloc (.cells #[.int .i64 o, .slice P k e] 32) = W1 at b1 k1 ⊢
  have z1 := b1.size
  refine (HAT.out _).mono ?_
  rintro r w2 ⟨A, m, c, rfl, hm, hm4, hc63, hmc, hb2⟩
  have b2 := b1.trans (hb2.mono z1)
  have k2 := k1.below hb2
  have z2 := b2.size
  have u0 := k2.c 0 rfl
  have u1 := k2.c 1 rfl
  clear b1 k1 z1 hb2
  go_wp2_with fail
  clear u0 u1
  refine (spec_l8FineJ o P k e ps X x f xss lo hi w2 (hp.below b2 hh) (hx.below b2 hh) (by omega) hlen).mono ?_
  rintro r w3 ⟨rfl, hb3⟩
  have b3 := b2.trans (hb3.mono z2)
  have k3 := k2.below hb3
  have z3 := b3.size
  cases ht : (fieldF o ps && pathOkF xss o) with
  | false =>
    clear ht k2 k3
    go_wp2_with fail
    go_ret
    exact ⟨rfl, b3⟩
  | true =>
    have v0 := k3.c 0 rfl
    have v1 := k3.c 1 rfl
    clear k2
    go_wp2_with fail
    clear v0 v1
    refine (spec_l10Colours o P k e C nC cC cs lo hi w3 (hc.below b3 hh) (by omega)).mono ?_
    rintro r w4 ⟨rfl, hb4⟩
    have b4 := b3.trans (hb4.mono z3)
    cases ht2 : (colGo cs && decide ((nC : Int) = o)) with
    | false =>
      clear ht ht2 k3
      go_wp2_with fail
      go_ret
      exact ⟨rfl, b4⟩
    | true =>
      have hm0 : m = 0 := by
        rcases hm with hK | hm
        · exfalso
          unfold shAlOk colOkF at hbad
          rw [ht, hcl, Bool.and_comm (decide _) (colGo cs), ht2] at hbad
          simp at hbad
          omega
        · exact hm
      subst hm0
      clear ht ht2 k3 hm
      go_wp2_with fail
      go_ret
      exact ⟨rfl, b4⟩

set_option maxRecDepth 100000 in
set_option maxHeartbeats 8000000 in
theorem spec_ShadedAlong_good (dim np kn : Nat) (P : Option Addr) (e : Nat) (ps : List (List Mono)) (C : Option Addr) (cC : Nat) (cs : List Int) (X : Option Addr) (f : Nat) (xss : List (List Int)) (lo hi : Nat) (w : World)
    (hp : Mons2 w lo hi P dim e ps) (hc : Ints w lo hi C dim cC cs) (hx : Ints2 w lo hi X np f xss) (hh : hi ≤ w.heap.size) (hlen : ∀ p ∈ ps, ∀ m ∈ p, m.2.length ≤ 1048576) (hok : ColOk dim np ps cs xss) (hgood : colOkF (dim : Int) ps cs xss = true) (hkn : kn < 72) :
    Calls Tryz.prog 6 #[.agg #[.int .i64 (dim : Int), .slice P dim e], .slice C dim cC, .int .i64 (kn : Int), .slice X np f] w fun r w' => ∃ gR cR, r = .returned (.slice (some ⟨gR, 0, none⟩) np cR) ∧ Ints2 w' w.heap.size w'.heap.size (some ⟨gR, 0, none⟩) np cR (turnL (Jr.rowsJ dim (Jr.dT dim ps cs (dirO np (turnL xss dim)) (listAt (kn : Int)))) np) ∧ Below w.heap.size w w' := by
  have hd0 := hok.d0
  have hd6 := hok.d6
  have hn0 := hok.n0
  have hn7 := hok.n7
  have HK := hide hok
  have HX := hide hx
  have HP := hide hp
  have HC := hide hc
  have hxp := hx.cap
  have hxm := hx.max
  have b1 := below_alloc w (.cells #[.int .i64 (dim : Int), .slice P dim e] 32)
  have k1 := BlkN.new w #[.int .i64 (dim : Int), .slice P dim e] 32
  have hfine := list_fine hkn
  have HF := hide hfine
  go_enter Tryz.func6, Tryz.ntmps6
  go_wp2_with fail
  generalize w.alloc (.cells #[.int .i64 (dim : Int), .slice P dim e] 32) = W1 at b1 k1 ⊢
  have z1 := b1.size
  refine (spec_ShadesAt kn hkn W1).mono ?_
  rintro r w2 ⟨gl, ml, cl, ll, lh, rfl, hIl, hll, hlh, hb2⟩
  have hml4 : ml ≤ 4 := by rw [← hIl.len]; exact hfine.2
  have hml0 : 0 < ml := by
    obtain ⟨b, q, e, _⟩ := hfine.1
    rw [← hIl.len, e]
    simp
  have hlc := hIl.cap
  have hlm := hIl.max
  have b2 := b1.trans (hb2.mono z1)
  have k2 := k1.below hb2
  have z2 := b2.size
  have u0 := k2.c 0 rfl
  have u1 := k2.c 1 rfl
  clear b1 k1 z1 hb2 hfine
  go_wp2_with fail
  clear u0 u1
  refine (spec_l8FineJ (dim : Int) P dim e ps X np f xss lo hi w2 (hp.below b2 hh) (hx.below b2 hh) (by omega) hlen).mono ?_
  have ht : (fieldF (dim : Int) ps && pathOkF xss (dim : Int)) = true := by unfold colOkF at hgood; simp only [Bool.and_eq_true] at hgood ⊢; exact hgood.1
  rw [ht]
  rintro r w3 ⟨rfl, hb3⟩
  have b3 := b2.trans (hb3.mono z2)
  have k3 := k2.below hb3
  have hI3 := hIl.below hb3 hlh
  have z3 := b3.size
  have hz3 := hb3.size
  have v0 := k3.c 0 rfl
  have v1 := k3.c 1 rfl
  clear ht k2 b2 hIl
  go_wp2_with fail
  clear v0 v1
  refine (spec_l10Colours (dim : Int) P dim e C dim cC cs lo hi w3 (hc.below b3 hh) (by omega)).mono ?_
  have ht2 : (colGo cs && decide ((dim : Int) = (dim : Int))) = true := by unfold colOkF at hgood; simp only [Bool.and_eq_true] at hgood; rw [hgood.2.2]; simp
  rw [ht2]
  rintro r w4 ⟨rfl, hb4⟩
  have b4 := hide (b3.trans (hb4.mono z3))
  have k4 := hide (k3.below hb4)
  have hI4 := hide (hI3.below hb4 (by omega))
  have z4 := b4.out.size
  have hz4 := hb4.size
  have hml1 : ¬ ml = 0 := by omega
  clear ht2 k3 hb4 b3 hI3 hp hc hx hok hgood
  go_wp2_with fail
  obtain ⟨gP, hgP⟩ : ∃ g, g = w.heap.size := ⟨_, rfl⟩
  rw [← hgP] at k4 ⊢
  clear hgP
  have cp0 := k4.out.c 0 rfl
  have cp1 := k4.out.c 1 rfl
  have hgPw := k4.out.lt
  have hnl := hide HK.out.nl
  have hNum : Hid (JNum np (turnL xss dim)) := by have := turn_num HK.out.rw'; rw [hnl.out] at this; exact this
  have hTu : Hid (∀ W, Below w4.heap.size w4 W → Calls Tryz.prog 23 #[.slice X np f] W fun e w' => ∃ gR cR, e = .returned (.slice (some ⟨gR, 0, none⟩) dim cR) ∧ Ints2 w' W.heap.size w'.heap.size (some ⟨gR, 0, none⟩) dim cR (turnL xss dim) ∧ Below W.heap.size W w') := fun W hW =>
    spec_l8Turn X np f xss lo hi dim W (HX.out.below (b4.out.trans (hW.mono z4)) hh) (by have := hW.size; omega) (fun r hr => (HK.out.rw' r hr).1) (by omega) (by omega) (by omega) (by omega)
  have hDif : Hid (∀ W gy cy l2 h2, Below w4.heap.size w4 W → Ints2 W l2 h2 (some ⟨gy, 0, none⟩) dim cy (turnL xss dim) → h2 ≤ W.heap.size →
      Calls Tryz.prog 24 #[.agg #[.int .i64 (dim : Int), .slice P dim e], .slice C dim cC, .slice (some ⟨gl, 0, none⟩) ml cl, .slice (some ⟨gy, 0, none⟩) dim cy] W fun r w' => ∃ gR cR, r = .returned (.slice (some ⟨gR, 0, none⟩) dim cR) ∧ Ints2 w' W.heap.size w'.heap.size (some ⟨gR, 0, none⟩) dim cR (Jr.rowsJ dim (Jr.dT dim ps cs (dirO np (turnL xss dim)) (listAt (kn : Int)))) ∧ Below W.heap.size W w') := fun W gy cy l2 h2 hW hy hz2 => by
    have hbW := b4.out.trans (hW.mono z4)
    have hs := hW.size
    refine (spec_l10Differential P dim e ps lo hi C cC cs lo hi gy cy (turnL xss dim) l2 h2 np HK.out.gf hNum.out (by omega) hd6 (by omega) (by omega) 4 gl ml cl (listAt (kn : Int)) ll lh W (hI4.out.below hW (by omega)) (by omega) HF.out.1 HF.out.2 (Nat.le_refl _) (HP.out.below hbW hh) (HC.out.below hbW hh) hy (by omega) (by omega) hz2).mono ?_
    rintro r w' ⟨gR, cR, vs, rfl, hL, hb⟩
    exact ⟨gR, cR, rfl, hL.ints2, hb⟩
  have hTb : Hid (∀ W gd cd l2 h2, Below w4.heap.size w4 W → Ints2 W l2 h2 (some ⟨gd, 0, none⟩) dim cd (Jr.rowsJ dim (Jr.dT dim ps cs (dirO np (turnL xss dim)) (listAt (kn : Int)))) → h2 ≤ W.heap.size → Calls Tryz.prog 23 #[.slice (some ⟨gd, 0, none⟩) dim cd] W fun e w' => ∃ gR cR, e = .returned (.slice (some ⟨gR, 0, none⟩) np cR) ∧ Ints2 w' W.heap.size w'.heap.size (some ⟨gR, 0, none⟩) np cR (turnL (Jr.rowsJ dim (Jr.dT dim ps cs (dirO np (turnL xss dim)) (listAt (kn : Int)))) np) ∧ Below W.heap.size W w') := fun W gd cd l2 h2 hW hI hz =>
    spec_l8Turn (some ⟨gd, 0, none⟩) dim cd _ l2 h2 np W hI hz (shAl_len dim np _) (by omega) (by omega) (by omega) (by omega)
  clear k4
  refine wp_region_Z (fun W' => Below w4.heap.size w4 W') 7 (by kernel_rfl) ?_
  simp only [List.size_toArray, List.length_cons, List.length_nil, Nat.reduceAdd]
  have hS0 : Below w4.heap.size w4 w4.drew := (Below.refl w4.heap.size w4).drew
  generalize w4.drew = V at hS0 ⊢
  refine wpAnyZ_take 0 (.agg #[.int .i64 (dim : Int), .slice P dim e]) rfl (by kernel_rfl) (by kernel_rfl) (fun _ _ _ h => h) (by rfl) (fun _ hS => by have q0 := (hS.cell (p := ⟨gP, 0, none⟩) hgPw).trans cp0; have q1 := (hS.cell (p := ⟨gP, 1, none⟩) hgPw).trans cp1; clear hS; first | (simp [go_sem, q0, q1]; done) | go_simp) hS0 ?_
  try simp only [Act.put, List.setIfInBounds_toArray, List.set_cons_zero, List.set_cons_succ, List.getElem_toArray, List.getElem_cons_zero, List.getElem_cons_succ]
  refine wpAnyZ_takeW 1 (.slice C dim cC) rfl (by kernel_rfl) (by kernel_rfl) (fun _ _ _ h => h) (by rfl) (fun _ => by first | (simp [go_sem]; done) | go_simp) hS0 ?_
  try simp only [Act.put, List.setIfInBounds_toArray, List.set_cons_zero, List.set_cons_succ, List.getElem_toArray, List.getElem_cons_zero, List.getElem_cons_succ]
  refine wpAnyZ_takeW 2 (.slice (some ⟨gl, 0, none⟩) ml cl) rfl (by kernel_rfl) (by kernel_rfl) (fun _ _ _ h => h) (by rfl) (fun _ => by first | (simp [go_sem]; done) | go_simp) hS0 ?_
  try simp only [Act.put, List.setIfInBounds_toArray, List.set_cons_zero, List.set_cons_succ, List.getElem_toArray, List.getElem_cons_zero, List.getElem_cons_succ]
  refine wpAnyZ_takeW 3 (.slice X np f) rfl (by kernel_rfl) (by kernel_rfl) (fun _ _ _ h => h) (by rfl) (fun _ => by first | (simp [go_sem]; done) | go_simp) hS0 ?_
  try simp only [Act.put, List.setIfInBounds_toArray, List.set_cons_zero, List.set_cons_succ, List.getElem_toArray, List.getElem_cons_zero, List.getElem_cons_succ]
  refine wpAnyZ_one 4 (by kernel_rfl) rfl (by rfl) (fun K hK => ?_)
  go_simp
  refine (hTu.out V hS0).mono ?_
  rintro e x1 ⟨gy, cy, rfl, oJ, b1⟩
  have z1 := hS0.size
  have hS1 := hS0.trans (b1.mono z1)
  have hJ := hide oJ
  clear oJ
  clear z1
  go_wp2_with fail
  refine hK.out _ _ hS1 ?_
  clear hK K
  try simp only [Act.put, List.setIfInBounds_toArray, List.set_cons_zero, List.set_cons_succ, List.getElem_toArray, List.getElem_cons_zero, List.getElem_cons_succ]
  refine wpAnyZ_one 5 (by kernel_rfl) rfl (by rfl) (fun K hK => ?_)
  go_simp
  refine (hDif.out x1 gy cy _ _ hS1 hJ.out (Nat.le_refl _)).mono ?_
  rintro e x2 ⟨gd, cd, rfl, oD, b2⟩
  have z2 := hS1.size
  have hS2 := hS1.trans (b2.mono z2)
  have hD := hide oD
  clear oD hJ
  clear z2
  go_wp2_with fail
  refine hK.out _ _ hS2 ?_
  clear hK K
  try simp only [Act.put, List.setIfInBounds_toArray, List.set_cons_zero, List.set_cons_succ, List.getElem_toArray, List.getElem_cons_zero, List.getElem_cons_succ]
  refine wpAnyZ_one 6 (by kernel_rfl) rfl (by rfl) (fun K hK => ?_)
  go_simp
  refine (hTb.out x2 gd cd _ _ hS2 hD.out (Nat.le_refl _)).mono ?_
  rintro e x3 ⟨gQ, cQ, rfl, oQ, b3⟩
  have z3 := hS2.size
  have hS3 := hS2.trans (b3.mono z3)
  have hQ := hide (oQ.wide2 (lo' := w.heap.size) (by have := hS2.size; omega) (Nat.le_refl _))
  clear oQ hD
  clear z3
  go_wp2_with fail
  refine hK.out _ _ hS3 ?_
  clear hK K
  try simp only [Act.put, List.setIfInBounds_toArray, List.set_cons_zero, List.set_cons_succ, List.getElem_toArray, List.getElem_cons_zero, List.getElem_cons_succ]
  refine wpAnyZ_last (by kernel_rfl) rfl (by kernel_rfl) (by rfl) (fun K hK => ?_)
  go_simp
  refine hK _ _ ?_
  clear hK K
  have hBz := hide hS3
  go_wp2_with fail
  go_ret
  exact ⟨_, _, rfl, hQ.out, b4.out.trans (hBz.out.mono z4)⟩

theorem spec_ShadedAlong_all (o : Int) (P : Option Addr) (k e : Nat) (ps : List (List Mono)) (C : Option Addr) (nC cC : Nat) (cs : List Int) (K : Int) (X : Option Addr) (x f : Nat) (xss : List (List Int)) (lo hi : Nat) (w : World)
    (hp : Mons2 w lo hi P k e ps) (hc : Ints w lo hi C nC cC cs) (hx : Ints2 w lo hi X x f xss) (hh : hi ≤ w.heap.size) (hlen : ∀ p ∈ ps, ∀ m ∈ p, m.2.length ≤ 1048576) :
    Calls Tryz.prog 6 #[.agg #[.int .i64 o, .slice P k e], .slice C nC cC, .int .i64 K, .slice X x f] w fun r w' => ∃ R q cR, r = .returned (.slice R q cR) ∧ Ints2 w' w.heap.size w'.heap.size R q cR (shAl o ps cs xss K) ∧ Below w.heap.size w w' := by
  cases hk : shAlOk o ps cs xss K with
  | false =>
    refine (spec_ShadedAlong_bad o P k e ps C nC cC cs K X x f xss lo hi w hp hc hx hh hlen hk).mono ?_
    rintro r w' ⟨rfl, hb⟩
    exact ⟨none, 0, 0, rfl, by rw [shAl_bad hk]; exact Ints2.nil_ _ _ _, hb⟩
  | true =>
    have hk2 := hk
    unfold shAlOk at hk2
    simp only [Bool.and_eq_true, decide_eq_true_eq] at hk2
    obtain ⟨dim, np, rfl, hK⟩ := colOk_iff hk2.1
    obtain rfl : k = dim := by rw [← hp.len]; exact hK.gf.1
    obtain rfl : nC = k := by rw [← hc.len]; exact hK.cl
    obtain rfl : x = np := by rw [← hx.len]; exact hK.nl
    obtain ⟨kn, rfl⟩ : ∃ q : Nat, K = (q : Int) := ⟨K.toNat, by omega⟩
    refine (spec_ShadedAlong_good nC x kn P e ps C cC cs X f xss lo hi w hp hc hx hh hlen hK hk2.1 (by omega)).mono ?_
    rintro r w' ⟨gR, cR, rfl, hR, hb⟩
    exact ⟨_, _, _, rfl, by rw [shAl_ok hk hK.nl]; exact hR, hb⟩
end Go.Proofs.YtjpldapkdfafgaaGreatDoor
/- What every outer proof needs: a parameter's reading as my walks take it. -/
namespace Go.Proofs.YtjpldapkdfafgaaGreatDoor
open Go.ChangeShapes Go.WideShapes Go.ChangeAt Go.RowKit
set_option linter.unusedSimpArgs false
set_option linter.unusedVariables false
set_option maxRecDepth 20000

theorem r64_of_wf {n : Int} (h : (Lit.int .i64 n).wf = true) : R64 n := by
  simp [Lit.wf, IntKind.min, IntKind.max, IntKind.signed, IntKind.bits] at h
  exact h

section
variable {H : Type} {enc : TypeId × Value → H} {W : World} {sp : Nat → Bool} {held : Bool} {fuel : Nat} {cs : List Value} {x : DataW H × List MemPlace}

theorem cells_ints (h : DataW.trod enc Tryz.prog W 0 sp held fuel 25 cs = some x) : ∃ A n c xs, cs = [.slice A n c] ∧ Ints W 0 W.heap.size A n c xs := by
  rcases open_ints Tryz.underlying25 Tryz.underlying3 (by kernel_rfl) h with ⟨rfl, _⟩ | ⟨a, len, cap, zs, rfl, _, hl, hm, hz, _, hcell, hwz⟩
  · exact ⟨none, 0, 0, [], rfl, Ints.nil_ _ _ _⟩
  · have hle : len ≤ zs.length := by rw [hz]; split <;> omega
    refine ⟨some a, len, cap, zs.take len, rfl, by simp; omega, hl, by unfold maxLen at hm; omega, fun hn => ?_, fun y hy => r64_of_wf (hwz y (List.mem_of_mem_take hy))⟩
    have hat : ∀ j y, (zs.take len)[j]? = some y → W.cell? (a.add j) = some (.int .i64 y) := by
      intro j y hy
      rw [List.getElem?_take] at hy
      split at hy
      · rename_i hj
        rw [hcell j (by omega)]
        simp [List.getD, hy]
      · cases hy
    refine ⟨a, rfl, Nat.zero_le _, ?_, hat⟩
    have h0 := hat 0 (zs[0]'(by omega)) (by simp [hn])
    have := World.block_lt_of_cell? W _ h0
    rwa [block_of_add] at this

theorem open_pint {v : Value} {d : DataW H} {p : List MemPlace} (h : DataW.Trod enc Tryz.prog W 0 sp held 3 v d p) (hv : ∃ k n, v = .int k n) : ∃ a, v = .int .i64 a ∧ R64 a := by
  obtain ⟨m, hm⟩ := h
  obtain ⟨n, hn, _, wf⟩ := DataW.trod_int Tryz.underlying3 hm
  obtain ⟨k, n', rfl⟩ := hv
  simp [Value.cells] at hn
  obtain ⟨rfl, rfl⟩ := hn
  exact ⟨_, rfl, r64_of_wf wf⟩
theorem open_pints {A : Option Addr} {n c : Nat} {d : DataW H} {p : List MemPlace} (h : DataW.Trod enc Tryz.prog W 0 sp held 25 (.slice A n c) d p) : ∃ xs, Ints W 0 W.heap.size A n c xs := by
  obtain ⟨m, hm⟩ := h
  obtain ⟨A', n', c', xs, he, hi⟩ := cells_ints hm
  simp [Value.cells] at he
  obtain ⟨rfl, rfl, rfl⟩ := he
  exact ⟨xs, hi⟩



/-- A slice's elements, each read by E. -/
theorem open_elems {t e : TypeId} {C : Nat} (ht : Tryz.prog.underlying t = some (.slice e)) (hC : Tryz.prog.cellsOf e = C) (h0 : 0 < C) {α : Type} (E : α → List Value → Prop)
    (hE : ∀ (fuel : Nat) (cs : List Value) (x : DataW H × List MemPlace), DataW.trod enc Tryz.prog W 0 sp held fuel e cs = some x → ∃ a, E a cs) (h : DataW.trod enc Tryz.prog W 0 sp held fuel t cs = some x) :
    ∃ (A : Option Addr) (n c : Nat) (ms : List α), cs = [.slice A n c] ∧ ms.length = n ∧ n ≤ c ∧ c ≤ 9223372036854775807 ∧
      (0 < n → ∃ ad, A = some ad ∧ ad.block < W.heap.size ∧ ∀ j m, ms[j]? = some m → ∃ cs', E m cs' ∧ cs'.length = C ∧ ∀ i, i < C → W.cell? ((ad.add (j * C)).add i) = cs'[i]?) := by
  rcases DataW.trod_slice ht h with ⟨rfl, _⟩ | ⟨a, len, cap, elems, rest, n, _, rfl, _, _, hl, hm, hlen, hel, _, _⟩
  · exact ⟨none, 0, 0, [], rfl, rfl, Nat.le_refl _, by omega, fun h => absurd h (by omega)⟩
  · have hone : ∀ i : Fin len, ∃ m : α, ∃ cs', E m cs' ∧ cs'.length = C ∧ ∀ k, k < C → W.cell? ((a.add (i.1 * C)).add k) = cs'[k]? := by
      intro i
      have h1 := hel i.1 i.2
      rw [List.getElem?_eq_getElem (by omega), hC] at h1
      obtain ⟨cs', h2, h3⟩ := Option.bind_eq_some_iff.1 h1
      obtain ⟨_, hcl, hat⟩ := World.cells?_some h2
      obtain ⟨m, hm⟩ := hE _ _ _ h3
      exact ⟨m, cs', hm, hcl, hat⟩
    refine ⟨some a, len, cap, List.ofFn (fun i => Classical.choose (hone i)), rfl, by simp, hl, by unfold maxLen at hm; omega, fun hn => ?_⟩
    refine ⟨a, rfl, ?_, fun j m hj => ?_⟩
    · obtain ⟨cs', _, hcl, hat⟩ := Classical.choose_spec (hone ⟨0, hn⟩)
      have h2 := hat 0 h0
      rw [List.getElem?_eq_getElem (by omega)] at h2
      have := World.block_lt_of_cell? W _ h2
      rwa [block_of_add, block_of_add] at this
    · have hj' : j < len := by
        have := (List.getElem?_eq_some_iff.1 hj).1
        simpa using this
      rw [List.getElem?_ofFn] at hj
      simp only [hj', dif_pos] at hj
      injection hj with hj
      subst hj
      exact Classical.choose_spec (hone ⟨j, hj'⟩)

theorem cells_intss (h : DataW.trod enc Tryz.prog W 0 sp held fuel 26 cs = some x) : ∃ A n c xss, cs = [.slice A n c] ∧ Ints2 W 0 W.heap.size A n c xss := by
  obtain ⟨A, n, c, ms, rfl, h1, h2, h3, h4⟩ := open_elems (C := 1) Tryz.underlying26 (by kernel_rfl) (by omega) (fun (m : List Int) (cs : List Value) => ∃ B k d, cs = [.slice B k d] ∧ Ints W 0 W.heap.size B k d m)
    (fun fuel cs x hx => by
      obtain ⟨B, k, d, xs, e, hi⟩ := cells_ints hx
      exact ⟨xs, B, k, d, e, hi⟩) h
  refine ⟨A, n, c, ms, rfl, h1, h2, h3, fun hn => ?_⟩
  obtain ⟨ad, rfl, hb, hat⟩ := h4 hn
  refine ⟨ad, rfl, Nat.zero_le _, hb, fun j m hj => ?_⟩
  obtain ⟨cs', ⟨B, k, d, rfl, hi⟩, _, hc⟩ := hat j m hj
  have h0 := hc 0 (by omega)
  rw [Nat.mul_one, Addr.add_zero'] at h0
  exact ⟨B, k, d, h0, hi⟩
theorem open_pintss {A : Option Addr} {n c : Nat} {d : DataW H} {p : List MemPlace} (h : DataW.Trod enc Tryz.prog W 0 sp held 26 (.slice A n c) d p) : ∃ xs, Ints2 W 0 W.heap.size A n c xs := by
  obtain ⟨m, hm⟩ := h
  obtain ⟨A', n', c', xs, he, hi⟩ := cells_intss hm
  simp [Value.cells] at he
  obtain ⟨rfl, rfl, rfl⟩ := he
  exact ⟨xs, hi⟩
end
end Go.Proofs.YtjpldapkdfafgaaGreatDoor
/- What a statement knows of the variable treeRows, which it leaves open. -/
namespace Go.Proofs.YtjpldapkdfafgaaGreatDoor
open Go.ChangeShapes Go.WideShapes Go.ChangeAt Go.RowKit
set_option linter.unusedSimpArgs false
set_option linter.unusedVariables false
set_option maxRecDepth 20000

theorem tree_named : Tryz.prog.globalNamed "loop.example/g03110/impl.treeRows" = some 0 := by kernel_rfl
theorem tree_type : (Tryz.prog.globals[0]?).map (·.type) = some 26 := by kernel_rfl
theorem var_tree {H : Type} {enc : TypeId × Value → H} {W : World} {gs : List (DataW H)} {q : List MemPlace} (hV : DataW.TrodVars enc Tryz.prog W (fun _ => true) ["loop.example/g03110/impl.treeRows"] gs q) :
    ∃ dv, gs = [dv] ∧ TreeV W.heap.size W := by
  obtain ⟨g, t, cs, fuel, d, p, rfl, h1, h2, h3, h4, _⟩ := trodVars_one hV
  rw [tree_named] at h1
  injection h1 with h1
  subst h1
  rw [tree_type] at h2
  injection h2 with h2
  subst h2
  obtain ⟨A, n, c, xs, he, hi⟩ := cells_intss h4
  refine ⟨d, rfl, ?_⟩
  have hc : W.cell? ⟨0, 0, none⟩ = some (.slice A n c) := by
    unfold World.var? at h3
    rw [tree_named] at h3
    simp only [Option.bind_some] at h3
    split at h3
    · rename_i c' t' fr hb
      injection h3 with h3
      subst h3
      have : c'[0]? = some (.slice A n c) := by rw [← Array.getElem?_toList, he]; rfl
      simp only [World.cell?, hb]
      simpa using this
    · cases h3
  exact ⟨World.block_lt_of_cell? _ _ hc, A, n, c, xs, hc, hi⟩
end Go.Proofs.YtjpldapkdfafgaaGreatDoor
