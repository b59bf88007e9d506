/- Reading a number: the walks of the program's and of the reference's text. -/
import Derived.Test.YtfijcieponfcpaaGreatDoorCutW
namespace Go.Proofs.YtfijcieponfcpaaGreatDoor
open Go.RowKit
set_option linter.unusedSimpArgs false
set_option linter.unusedVariables false
set_option maxRecDepth 20000

theorem rdI_bd (l : List UInt8) : -1 ≤ rdI l ∧ rdI l ≤ 9999999999 := by
  unfold rdI
  split
  · omega
  · rename_i h
    have hl : l.length ≤ 10 := by
      rcases Nat.lt_or_ge 10 l.length with h1 | h1
      · exact absurd (.inr (.inl h1)) h
      · exact h1
    cases hd : digsF l 0 with
    | none => simp
    | some n =>
      have h1 := digsF_bd l 0 n hd
      have h2 : n < 10 ^ 10 := pow_le10 (k := l.length) (by omega) hl
      simp only
      omega
theorem rdS_bd (l : List UInt8) : -1 ≤ rdS l ∧ rdS l ≤ 9999999999 := by
  unfold rdS
  split
  · omega
  · rename_i h
    have hl : l.length ≤ 10 := by omega
    cases hd : digsF l 0 with
    | none => simp
    | some n =>
      have h1 := digsF_bd l 0 n hd
      have h2 : n < 10 ^ 10 := pow_le10 (k := l.length) (by omega) hl
      simp only
      omega
theorem ext_one (s : ByteArray) : (s.extract 1 s.size).data.toList = s.data.toList.drop 1 := by
  rw [ext_list s 1 s.size (Nat.le_refl _), List.take_of_length_le (by rw [List.length_drop, list_len]; omega)]
theorem pre_size {s : ByteArray} {x : UInt8} (h : Lib.hasPrefix s.data.toList [x] = true) : 1 ≤ s.size := by
  rw [← list_len]
  cases e : s.data.toList with
  | nil => rw [e] at h; simp [Lib.hasPrefix, List.isPrefixOf] at h
  | cons c r => simp
theorem preI_A {L : List UInt8} (h : Lib.hasPrefix L [35] = true) : preI L = rdI (L.drop 1) := by
  unfold preI
  rw [if_pos h]
def fracT (T L : List UInt8) (a b : Int) : Int := if a < 0 ∨ b < 1 then -1 else if T.length < L.length then resF (-fracF a b) else fracF a b
theorem preI_B {L : List UInt8} (h : Lib.hasPrefix L [35] = false) : preI L = fracT (Lib.trimPrefix L [45]) L (rdI (Lib.cut (Lib.trimPrefix L [45]) [47]).1) (if (Lib.cut (Lib.trimPrefix L [45]) [47]).2.2 = true then rdI (Lib.cut (Lib.trimPrefix L [45]) [47]).2.1 else 1) := by
  unfold preI fracT
  rw [if_neg (by rw [h]; simp)]
theorem trim_len (L : List UInt8) (x : UInt8) : (Lib.trimPrefix L [x]).length ≤ L.length := by
  unfold Lib.trimPrefix
  split
  · rw [List.length_drop]; omega
  · exact Nat.le_refl _
theorem cut_len (L : List UInt8) (x : UInt8) : (Lib.cut L [x]).1.length ≤ L.length ∧ (Lib.cut L [x]).2.1.length ≤ L.length := by
  unfold Lib.cut
  split
  · exact ⟨by rw [List.length_take]; omega, by rw [List.length_drop]; omega⟩
  · exact ⟨Nat.le_refl _, Nat.zero_le _⟩
theorem parF_ok {s : ByteArray} {N : Int} (h : preI s.data.toList = N) (h0 : 0 ≤ N) (hf : ((fmtF N).toList == s.toList) = true) : parF s = (N, true) := by
  have e : fmtF N = s := bytes_ext (by rw [← ByteArray.toList_eq, ← ByteArray.toList_eq]; exact beq_iff_eq.1 hf)
  unfold parF
  rw [h, if_pos ⟨h0, e⟩]
theorem parF_no {s : ByteArray} {N : Int} (h : preI s.data.toList = N) (hf : ((fmtF N).toList == s.toList) = false) : parF s = (0, false) := by
  unfold parF
  rw [h, if_neg]
  rintro ⟨_, e⟩
  rw [e] at hf
  simp at hf
theorem parF_neg {s : ByteArray} {N : Int} (h : preI s.data.toList = N) (h0 : N < 0) : parF s = (0, false) := by
  unfold parF
  rw [h, if_neg]
  rintro ⟨h1, _⟩
  omega


set_option maxRecDepth 100000 in
set_option maxHeartbeats 2000000 in
theorem impl_ParseNumber (s : ByteArray) (m : Int) (w : World) (hs : s.size ≤ 1048576) (hm : w.cell? ⟨0, 0, none⟩ = some (.int .i64 m)) :
    Calls Tryz.prog 80 #[.string s] w fun e w' => e = .returned (.tuple #[.int .i64 (parF s).1, .bool (parF s).2]) ∧ ∃ q, w' = w.drewN q := by
  cases hp : Lib.hasPrefix s.data.toList [35] with
  | true =>
    have h1 := pre_size hp
    have hP : Hid (preI s.data.toList = rdI (s.data.toList.drop 1)) := preI_A hp
    have hR := hide (impl_readDecimal (s.extract 1 s.size) w (by rw [← list_len, ext_one, List.length_drop, list_len]; omega))
    rw [ext_one] at hR
    have hH := hide (sh_strings_HasPrefix s ⟨#[35]⟩ w)
    rw [show (Lib.hasPrefix s.data.toList (ByteArray.mk #[35]).data.toList) = true from hp] at hH
    have h1' : (1 : Int) ≤ s.size := by omega
    obtain ⟨N, hN⟩ : ∃ N, rdI (s.data.toList.drop 1) = N := ⟨_, rfl⟩
    rw [hN] at hP hR
    have hbd := rdI_bd (s.data.toList.drop 1)
    rw [hN] at hbd
    obtain ⟨hbd1, hbd2⟩ := hbd
    clear hp hm
    go_enter Tryz.func80, Tryz.ntmps80
    go_wp2_with fail
    refine hH.out.mono ?_
    rintro e w' ⟨rfl, rfl⟩
    go_wp2_with fail
    refine hR.out.mono ?_
    rintro e w' ⟨rfl, rfl⟩
    by_cases hneg : N < 0
    · have hF := hide (parF_neg hP.out hneg)
      go_wp2_with fail
      refine bodyPost_ret (results_tmp2 rfl _ _ _) rfl ⟨by rw [hF.out]; rfl, 0, rfl⟩
    · have hnn : 0 ≤ N := by omega
      cases hq : ((fmtF (N)).toList == s.toList) with
      | true =>
        have hF := hide (parF_ok hP.out hnn hq)
        go_wp2_with fail
        refine (impl_FormatNumber (N) _).mono ?_
        rintro e w' ⟨rfl, rfl⟩
        go_wp2_with fail
        refine bodyPost_ret (results_tmp2 rfl _ _ _) rfl ⟨by rw [hF.out]; rfl, 0, rfl⟩
      | false =>
        have hF := hide (parF_no hP.out hq)
        go_wp2_with fail
        refine (impl_FormatNumber (N) _).mono ?_
        rintro e w' ⟨rfl, rfl⟩
        go_wp2_with fail
        refine bodyPost_ret (results_tmp2 rfl _ _ _) rfl ⟨by rw [hF.out]; rfl, 0, rfl⟩
  | false =>
    obtain ⟨T, hT⟩ : ∃ T : ByteArray, T = ⟨(Lib.trimPrefix s.data.toList [45]).toArray⟩ := ⟨_, rfl⟩
    have hTl : T.data.toList = Lib.trimPrefix s.data.toList [45] := by rw [hT]
    obtain ⟨X, hX⟩ : ∃ X : ByteArray, X = ⟨(Lib.cut T.data.toList [47]).1.toArray⟩ := ⟨_, rfl⟩
    obtain ⟨Y, hY⟩ : ∃ Y : ByteArray, Y = ⟨(Lib.cut T.data.toList [47]).2.1.toArray⟩ := ⟨_, rfl⟩
    have hXl : X.data.toList = (Lib.cut T.data.toList [47]).1 := by rw [hX]
    have hYl : Y.data.toList = (Lib.cut T.data.toList [47]).2.1 := by rw [hY]
    have hTs : T.size ≤ 1048576 := by
      have := trim_len s.data.toList 45
      rw [← hTl, list_len, list_len] at this
      omega
    have hXs : X.size ≤ 1048576 := by
      have := (cut_len T.data.toList 47).1
      rw [← hXl, list_len, list_len] at this
      omega
    have hYs : Y.size ≤ 1048576 := by
      have := (cut_len T.data.toList 47).2
      rw [← hYl, list_len, list_len] at this
      omega
    have hH := hide (sh_strings_HasPrefix s ⟨#[35]⟩ w)
    rw [show (Lib.hasPrefix s.data.toList (ByteArray.mk #[35]).data.toList) = false from hp] at hH
    have hTr := hide (sh_strings_TrimPrefix s ⟨#[45]⟩ w)
    rw [show (⟨(Lib.trimPrefix s.data.toList (ByteArray.mk #[45]).data.toList).toArray⟩ : ByteArray) = T from hT.symm] at hTr
    have hC := hide (sh_strings_Cut T ⟨#[47]⟩ m w (by omega) hm)
    rw [show (⟨(Lib.cut T.data.toList (ByteArray.mk #[47]).data.toList).1.toArray⟩ : ByteArray) = X from hX.symm, show (⟨(Lib.cut T.data.toList (ByteArray.mk #[47]).data.toList).2.1.toArray⟩ : ByteArray) = Y from hY.symm] at hC
    obtain ⟨a, ha⟩ : ∃ a, rdI X.data.toList = a := ⟨_, rfl⟩
    obtain ⟨y, hy⟩ : ∃ y, rdI Y.data.toList = y := ⟨_, rfl⟩
    have hP0 := preI_B hp
    rw [← hTl, ← hXl, ← hYl, ha, hy] at hP0
    have hab := rdI_bd X.data.toList
    have hyb := rdI_bd Y.data.toList
    rw [ha] at hab
    rw [hy] at hyb
    obtain ⟨hab1, hab2⟩ := hab
    obtain ⟨hyb1, hyb2⟩ := hyb
    have hRX : Hid (∀ v : World, Calls Tryz.prog 94 #[.string X] v fun e w' => e = .returned (.int .i64 a) ∧ v = w') := fun v => by have := impl_readDecimal X v (by omega); rwa [ha] at this
    have hRY : Hid (∀ v : World, Calls Tryz.prog 94 #[.string Y] v fun e w' => e = .returned (.int .i64 y) ∧ v = w') := fun v => by have := impl_readDecimal Y v (by omega); rwa [hy] at this
    have har : R64 a := ⟨by omega, by omega⟩
    have hyr : R64 y := ⟨by omega, by omega⟩
    have h1r : R64 (1 : Int) := ⟨by omega, by omega⟩
    have hlen : ∀ b, fracT T.data.toList s.data.toList a b = if a < 0 ∨ b < 1 then -1 else if T.size < s.size then resF (-fracF a b) else fracF a b := fun b => by unfold fracT; rw [list_len, list_len]
    have HLEN := hide hlen
    cases hsl : (Lib.cut T.data.toList [47]).2.2
    all_goals
      have hC2 := hC.out
      rw [show (Lib.cut T.data.toList (ByteArray.mk #[47]).data.toList).2.2 = _ from hsl] at hC2
      have HC := hide hC2
      rw [hsl] at hP0
    all_goals clear hC hC2 hsl hT hTl hX hXl hY hYl ha hy hlen hp hm

    · have hP1 : Hid (preI s.data.toList = fracT T.data.toList s.data.toList a 1) := by show _ = _; simpa using hP0
      rw [HLEN.out] at hP1
      clear hP0 HLEN
      have hfb := fracF_bd a 1
      by_cases hn : a < 0
      · have hF := hide (parF_neg (hP1.out.trans (if_pos (.inl hn))) (by omega))
        go_enter Tryz.func80, Tryz.ntmps80
        go_wp2_with fail
        refine hH.out.mono ?_
        rintro e w' ⟨rfl, rfl⟩
        go_wp2_with fail
        refine hTr.out.mono ?_
        rintro e w' ⟨rfl, rfl⟩
        go_wp2_with fail
        refine HC.out.mono ?_
        rintro e w' ⟨rfl, q, rfl⟩
        go_wp2_with fail
        refine (hRX.out _).mono ?_
        rintro e w' ⟨rfl, rfl⟩
        go_wp2_with fail
        refine bodyPost_ret (results_tmp2 rfl _ _ _) rfl ⟨by rw [hF.out]; rfl, q, rfl⟩
      · have hP2 : Hid (preI s.data.toList = if T.size < s.size then resF (-fracF a 1) else fracF a 1) := hP1.out.trans (if_neg (by omega))
        obtain ⟨f, hf⟩ : ∃ f, fracF a 1 = f := ⟨_, rfl⟩
        have hFr := hide (fun v : World => impl_Fraction a 1 v har h1r)
        rw [hf] at hP2 hfb
        simp only [hf] at hFr
        have hf0 : 0 ≤ f := hfb.1
        have hf1 : f < 1000000271 := hfb.2
        have hfn : 0 ≤ resF (-f) := (resF_bd _).1
        have hRs := hide (fun v : World => impl_residue (-f) v ⟨by omega, by omega⟩)
        clear hf hfb hP1
        by_cases hlt : T.size < s.size
        · have hP3 : Hid (preI s.data.toList = resF (-f)) := hP2.out.trans (if_pos hlt)
          obtain ⟨N, hN⟩ : ∃ N, resF (-f) = N := ⟨_, rfl⟩
          rw [hN] at hP3 hfn
          simp only [hN] at hRs
          have hnn := hfn
          clear hN hP2
          go_enter Tryz.func80, Tryz.ntmps80
          go_wp2_with fail
          refine hH.out.mono ?_
          rintro e w' ⟨rfl, rfl⟩
          go_wp2_with fail
          refine hTr.out.mono ?_
          rintro e w' ⟨rfl, rfl⟩
          go_wp2_with fail
          refine HC.out.mono ?_
          rintro e w' ⟨rfl, q, rfl⟩
          go_wp2_with fail
          refine (hRX.out _).mono ?_
          rintro e w' ⟨rfl, rfl⟩
          go_wp2_with fail
          refine (hFr.out _).mono ?_
          rintro e w' ⟨rfl, rfl⟩
          go_wp2_with fail
          refine (hRs.out _).mono ?_
          rintro e w' ⟨rfl, rfl⟩
          cases hq : ((fmtF (N)).toList == s.toList) with
          | true =>
            have hF := hide (parF_ok hP3.out hnn hq)
            go_wp2_with fail
            refine (impl_FormatNumber (N) _).mono ?_
            rintro e w' ⟨rfl, rfl⟩
            go_wp2_with fail
            refine bodyPost_ret (results_tmp2 rfl _ _ _) rfl ⟨by rw [hF.out]; rfl, q, rfl⟩
          | false =>
            have hF := hide (parF_no hP3.out hq)
            go_wp2_with fail
            refine (impl_FormatNumber (N) _).mono ?_
            rintro e w' ⟨rfl, rfl⟩
            go_wp2_with fail
            refine bodyPost_ret (results_tmp2 rfl _ _ _) rfl ⟨by rw [hF.out]; rfl, q, rfl⟩
        · have hP3 : Hid (preI s.data.toList = f) := hP2.out.trans (if_neg hlt)
          have hnn := hf0
          clear hP2
          go_enter Tryz.func80, Tryz.ntmps80
          go_wp2_with fail
          refine hH.out.mono ?_
          rintro e w' ⟨rfl, rfl⟩
          go_wp2_with fail
          refine hTr.out.mono ?_
          rintro e w' ⟨rfl, rfl⟩
          go_wp2_with fail
          refine HC.out.mono ?_
          rintro e w' ⟨rfl, q, rfl⟩
          go_wp2_with fail
          refine (hRX.out _).mono ?_
          rintro e w' ⟨rfl, rfl⟩
          go_wp2_with fail
          refine (hFr.out _).mono ?_
          rintro e w' ⟨rfl, rfl⟩
          cases hq : ((fmtF (f)).toList == s.toList) with
          | true =>
            have hF := hide (parF_ok hP3.out hnn hq)
            go_wp2_with fail
            refine (impl_FormatNumber (f) _).mono ?_
            rintro e w' ⟨rfl, rfl⟩
            go_wp2_with fail
            refine bodyPost_ret (results_tmp2 rfl _ _ _) rfl ⟨by rw [hF.out]; rfl, q, rfl⟩
          | false =>
            have hF := hide (parF_no hP3.out hq)
            go_wp2_with fail
            refine (impl_FormatNumber (f) _).mono ?_
            rintro e w' ⟨rfl, rfl⟩
            go_wp2_with fail
            refine bodyPost_ret (results_tmp2 rfl _ _ _) rfl ⟨by rw [hF.out]; rfl, q, rfl⟩
    · have hP1 : Hid (preI s.data.toList = fracT T.data.toList s.data.toList a y) := by show _ = _; simpa using hP0
      rw [HLEN.out] at hP1
      clear hP0 HLEN
      have hfb := fracF_bd a y
      by_cases hn : a < 0
      · have hF := hide (parF_neg (hP1.out.trans (if_pos (.inl hn))) (by omega))
        go_enter Tryz.func80, Tryz.ntmps80
        go_wp2_with fail
        refine hH.out.mono ?_
        rintro e w' ⟨rfl, rfl⟩
        go_wp2_with fail
        refine hTr.out.mono ?_
        rintro e w' ⟨rfl, rfl⟩
        go_wp2_with fail
        refine HC.out.mono ?_
        rintro e w' ⟨rfl, q, rfl⟩
        go_wp2_with fail
        refine (hRY.out _).mono ?_
        rintro e w' ⟨rfl, rfl⟩
        go_wp2_with fail
        refine (hRX.out _).mono ?_
        rintro e w' ⟨rfl, rfl⟩
        go_wp2_with fail
        refine bodyPost_ret (results_tmp2 rfl _ _ _) rfl ⟨by rw [hF.out]; rfl, q, rfl⟩
      · by_cases hb : y < 1
        · have hF := hide (parF_neg (hP1.out.trans (if_pos (.inr hb))) (by omega))
          go_enter Tryz.func80, Tryz.ntmps80
          go_wp2_with fail
          refine hH.out.mono ?_
          rintro e w' ⟨rfl, rfl⟩
          go_wp2_with fail
          refine hTr.out.mono ?_
          rintro e w' ⟨rfl, rfl⟩
          go_wp2_with fail
          refine HC.out.mono ?_
          rintro e w' ⟨rfl, q, rfl⟩
          go_wp2_with fail
          refine (hRY.out _).mono ?_
          rintro e w' ⟨rfl, rfl⟩
          go_wp2_with fail
          refine (hRX.out _).mono ?_
          rintro e w' ⟨rfl, rfl⟩
          go_wp2_with fail
          refine bodyPost_ret (results_tmp2 rfl _ _ _) rfl ⟨by rw [hF.out]; rfl, q, rfl⟩
        · have hP2 : Hid (preI s.data.toList = if T.size < s.size then resF (-fracF a y) else fracF a y) := hP1.out.trans (if_neg (by omega))
          obtain ⟨f, hf⟩ : ∃ f, fracF a y = f := ⟨_, rfl⟩
          have hFr := hide (fun v : World => impl_Fraction a y v har hyr)
          rw [hf] at hP2 hfb
          simp only [hf] at hFr
          have hf0 : 0 ≤ f := hfb.1
          have hf1 : f < 1000000271 := hfb.2
          have hfn : 0 ≤ resF (-f) := (resF_bd _).1
          have hRs := hide (fun v : World => impl_residue (-f) v ⟨by omega, by omega⟩)
          clear hf hfb hP1
          by_cases hlt : T.size < s.size
          · have hP3 : Hid (preI s.data.toList = resF (-f)) := hP2.out.trans (if_pos hlt)
            obtain ⟨N, hN⟩ : ∃ N, resF (-f) = N := ⟨_, rfl⟩
            rw [hN] at hP3 hfn
            simp only [hN] at hRs
            have hnn := hfn
            clear hN hP2
            go_enter Tryz.func80, Tryz.ntmps80
            go_wp2_with fail
            refine hH.out.mono ?_
            rintro e w' ⟨rfl, rfl⟩
            go_wp2_with fail
            refine hTr.out.mono ?_
            rintro e w' ⟨rfl, rfl⟩
            go_wp2_with fail
            refine HC.out.mono ?_
            rintro e w' ⟨rfl, q, rfl⟩
            go_wp2_with fail
            refine (hRY.out _).mono ?_
            rintro e w' ⟨rfl, rfl⟩
            go_wp2_with fail
            refine (hRX.out _).mono ?_
            rintro e w' ⟨rfl, rfl⟩
            go_wp2_with fail
            refine (hFr.out _).mono ?_
            rintro e w' ⟨rfl, rfl⟩
            go_wp2_with fail
            refine (hRs.out _).mono ?_
            rintro e w' ⟨rfl, rfl⟩
            cases hq : ((fmtF (N)).toList == s.toList) with
            | true =>
              have hF := hide (parF_ok hP3.out hnn hq)
              go_wp2_with fail
              refine (impl_FormatNumber (N) _).mono ?_
              rintro e w' ⟨rfl, rfl⟩
              go_wp2_with fail
              refine bodyPost_ret (results_tmp2 rfl _ _ _) rfl ⟨by rw [hF.out]; rfl, q, rfl⟩
            | false =>
              have hF := hide (parF_no hP3.out hq)
              go_wp2_with fail
              refine (impl_FormatNumber (N) _).mono ?_
              rintro e w' ⟨rfl, rfl⟩
              go_wp2_with fail
              refine bodyPost_ret (results_tmp2 rfl _ _ _) rfl ⟨by rw [hF.out]; rfl, q, rfl⟩
          · have hP3 : Hid (preI s.data.toList = f) := hP2.out.trans (if_neg hlt)
            have hnn := hf0
            clear hP2
            go_enter Tryz.func80, Tryz.ntmps80
            go_wp2_with fail
            refine hH.out.mono ?_
            rintro e w' ⟨rfl, rfl⟩
            go_wp2_with fail
            refine hTr.out.mono ?_
            rintro e w' ⟨rfl, rfl⟩
            go_wp2_with fail
            refine HC.out.mono ?_
            rintro e w' ⟨rfl, q, rfl⟩
            go_wp2_with fail
            refine (hRY.out _).mono ?_
            rintro e w' ⟨rfl, rfl⟩
            go_wp2_with fail
            refine (hRX.out _).mono ?_
            rintro e w' ⟨rfl, rfl⟩
            go_wp2_with fail
            refine (hFr.out _).mono ?_
            rintro e w' ⟨rfl, rfl⟩
            cases hq : ((fmtF (f)).toList == s.toList) with
            | true =>
              have hF := hide (parF_ok hP3.out hnn hq)
              go_wp2_with fail
              refine (impl_FormatNumber (f) _).mono ?_
              rintro e w' ⟨rfl, rfl⟩
              go_wp2_with fail
              refine bodyPost_ret (results_tmp2 rfl _ _ _) rfl ⟨by rw [hF.out]; rfl, q, rfl⟩
            | false =>
              have hF := hide (parF_no hP3.out hq)
              go_wp2_with fail
              refine (impl_FormatNumber (f) _).mono ?_
              rintro e w' ⟨rfl, rfl⟩
              go_wp2_with fail
              refine bodyPost_ret (results_tmp2 rfl _ _ _) rfl ⟨by rw [hF.out]; rfl, q, rfl⟩
end Go.Proofs.YtfijcieponfcpaaGreatDoor
