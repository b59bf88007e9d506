/- Solutions of systems: the program's walk. -/
import Derived.Test.YtfijcieponfcpaaGreatDoorMgB
namespace Go.Proofs.YtfijcieponfcpaaGreatDoor
open Go.RowKit
set_option linter.unusedSimpArgs false
set_option linter.unusedVariables false
set_option maxRecDepth 20000

set_option maxRecDepth 100000 in
set_option maxHeartbeats 16000000 in
theorem impl_SolveSystem (gr n rc : Nat) (xss : List (List Int)) (gt tc : Nat) (ys : List Int) (lo hi lo' hi' : Nat) (w : World) (h : Ints2 w lo hi (some ⟨gr, 0, none⟩) n rc xss) (hN : NumM n xss) (ht : Ints w lo' hi' (some ⟨gt, 0, none⟩) n tc ys)
    (hy : ∀ y ∈ ys, 0 ≤ y ∧ y < 1000000271) (hh : hi ≤ w.heap.size) (hh' : hi' ≤ w.heap.size) (hn : 0 < n) (hn2 : n ≤ 8) (hf : FullF n xss ys) :
    Calls Tryz.prog 83 #[.slice (some ⟨gr, 0, none⟩) n rc, .slice (some ⟨gt, 0, none⟩) n tc] w fun e w' => ∃ C cc, e = .returned (.tuple #[.slice C n cc, .bool true]) ∧ OwnI w' w.heap.size w'.heap.size C n cc (solF n xss ys) ∧ Below w.heap.size w w' := by
  obtain ⟨i0, hi0, hz0, hz1, hz2⟩ := info_parts info_int
  obtain ⟨i1, hi1, hy0, hy1, hy2⟩ := info_parts info_ints
  have hcr := h.cap
  have hmr := h.max
  have hct := ht.cap
  have hmt := ht.max
  have hnn : ¬ (n : Int) = 0 := by omega
  have HSY := hide (impl_systemOk (some ⟨gr, 0, none⟩) n rc xss lo hi n w h hN hn hn2 hn hn2)
  have HAL := hide (impl_allNumbers (some ⟨gt, 0, none⟩) n tc ys lo' hi' w ht)
  have hay : allNumF ys = true := allNumF_of hy
  rw [hay] at HAL
  obtain ⟨ad, B0, m0, d0, xs0, e, hc0, hI0, hd0, hx0⟩ := h.at_ (k := 0) hn
  injection e with e
  subst e
  obtain rfl : n = m0 := by rw [← hI0.len]; exact ((numF_row hN hx0.out).1).symm
  have hc0' : w.cell? ⟨gr, 0, none⟩ = some (.slice B0 n d0) := by simpa [Addr.add_lit] using hc0
  have hcd0 := hI0.cap
  have hmd0 := hI0.max
  have HI := hide h
  have HT := hide ht
  have HN := hide hN
  have HY := hide hy
  have hlx := hide h.len
  have hly := hide ht.len
  clear h ht hN hy hI0 hd0 hx0 hc0 hay
  have s0 := hide (RowsO.empty w w.heap.size (Nat.le_refl _))
  have b0 := hide (below_alloc w (.cells #[] 22))
  go_enter Tryz.func83, Tryz.ntmps83
  go_wp2_with (first
    | (go_at_call 98; refine HSY.out.mono ?_; rintro e w' ⟨rfl, rfl⟩)
    | (go_at_call 60; refine HAL.out.mono ?_; rintro e w' ⟨rfl, rfl⟩))
  clear hc0' HSY HAL
  have hly' := hly.out
  have hlx' := hlx.out
  go_loopw [7, 35] (fun p i wr => ∃ (j : Nat) (A : Option Addr) (c' : Nat) (vs : List Value), j ≤ n ∧ i = .int .i64 j ∧ p = .slice A j c' ∧ Hid (RowsO wr w.heap.size A j c' vs ((augF xss ys).take j)) ∧ Hid (Below w.heap.size w wr)) (fun _ i _ => n - (intOf i).toNat)
  case atStart => exact ⟨0, _, 0, [], by omega, rfl, rfl, s0.out, b0.out⟩
  case round =>
    obtain ⟨j, A, c', vs, hj, rfl, rfl, hO, hb⟩ := hrel
    have hsz := hb.out.size
    have hcb := hO.out.capb
    by_cases hlt : j < n
    · obtain ⟨ad0, B, m, d, xs, e, hc, hI, hdx, hx⟩ := (HI.out.below hb.out hh).at_ hlt
      injection e with e
      subst e
      obtain rfl : n = m := by rw [← hI.len]; exact ((numF_row HN.out hx.out).1).symm
      obtain ⟨ad, rfl, had1, had2, _⟩ := hI.cells hn
      obtain ⟨ad1, x, e, hcx0, hxr, hdy, hyx⟩ := (HT.out.below hb.out hh').at_ hlt
      injection e with e
      subst e
      have hrc : wr.cell? ⟨gr, j, none⟩ = some (.slice (some ad) n d) := by simpa [Addr.add_lit] using hc
      have hcx : wr.cell? ⟨gt, j, none⟩ = some (.int .i64 x) := by simpa [Addr.add_lit] using hcx0
      have hcd := hI.cap
      have hmd := hI.max
      have hxb := HY.out x (List.mem_of_getElem? hyx.out)
      have hAug := aug_at hx.out hyx.out
      have HM2 : Hid ((augF xss ys).take j ++ [xs ++ [x]] = (augF xss ys).take (j + 1)) := take_snoc0 hAug
      have hxs := HN.out xs (List.mem_of_getElem? hx.out)
      have HXS := hide hxs
      have hI1 := hide (hI.wide (Nat.zero_le _) (show hi ≤ wr.heap.size by omega))
      obtain ⟨adt, e, _, hgt, _⟩ := HT.out.cells hn
      injection e with e
      subst e
      simp only at hgt
      have hgt' : gt < wr.heap.size := by omega
      clear hc hcx0 hI hdx hx hdy hyx hAug hxs had1 had2
      have d2 : Below wr.heap.size wr wr.drew := (Below.refl _ _).drew
      have e1 := below_alloc wr.drew (.cells #[] 3)
      have e2 := below_alloc wr.drew (.cells #[.int .i64 x] 3)
      have e12 := below_alloc (wr.drew.alloc (.cells #[] 3)) (.cells #[.int .i64 x] 3)
      have e21 := below_alloc (wr.drew.alloc (.cells #[.int .i64 x] 3)) (.cells #[] 3)
      have F1 : Below wr.heap.size wr (wr.drew.alloc (.cells #[] 3)) := by (repeat (first | with_reducible exact Below.refl _ _ | with_reducible exact Below.refl _ _ | with_reducible refine Below.drew ?_ | ((with_reducible refine Below.alloc ?_ ?_ _); rotate_left; · first | omega | (simp [World.setCell]; done) | (simp [World.setCell]; omega)) | ((with_reducible refine Below.setCell ?_ ?_ _); rotate_left; · first | exact Nat.le_refl _ | omega | (simp; done) | (simp; omega))))
      have F2 : Below wr.heap.size wr (wr.drew.alloc (.cells #[.int .i64 x] 3)) := by (repeat (first | with_reducible exact Below.refl _ _ | with_reducible exact Below.refl _ _ | with_reducible refine Below.drew ?_ | ((with_reducible refine Below.alloc ?_ ?_ _); rotate_left; · first | omega | (simp [World.setCell]; done) | (simp [World.setCell]; omega)) | ((with_reducible refine Below.setCell ?_ ?_ _); rotate_left; · first | exact Nat.le_refl _ | omega | (simp; done) | (simp; omega))))
      have F12 : Below wr.heap.size wr ((wr.drew.alloc (.cells #[] 3)).alloc (.cells #[.int .i64 x] 3)) := by (repeat (first | with_reducible exact Below.refl _ _ | with_reducible exact Below.refl _ _ | with_reducible refine Below.drew ?_ | ((with_reducible refine Below.alloc ?_ ?_ _); rotate_left; · first | omega | (simp [World.setCell]; done) | (simp [World.setCell]; omega)) | ((with_reducible refine Below.setCell ?_ ?_ _); rotate_left; · first | exact Nat.le_refl _ | omega | (simp; done) | (simp; omega))))
      have F21 : Below wr.heap.size wr ((wr.drew.alloc (.cells #[.int .i64 x] 3)).alloc (.cells #[] 3)) := by (repeat (first | with_reducible exact Below.refl _ _ | with_reducible exact Below.refl _ _ | with_reducible refine Below.drew ?_ | ((with_reducible refine Below.alloc ?_ ?_ _); rotate_left; · first | omega | (simp [World.setCell]; done) | (simp [World.setCell]; omega)) | ((with_reducible refine Below.setCell ?_ ?_ _); rotate_left; · first | exact Nat.le_refl _ | omega | (simp; done) | (simp; omega))))
      have own1 : (wr.drew.alloc (.cells #[] 3)).ownsRow wr.heap.size 3 1 (.slice (some ⟨wr.heap.size, 0, none⟩) 0 0) 0 (([] : List Int).map (Value.int .i64)) := by
        simpa using World.ownsRow_lit (size := 1) (e := 3) wr.drew #[] 0 (show wr.heap.size ≤ wr.drew.heap.size from Nat.le_refl _) (by unfold maxLen; omega) rfl
      have own2 : ((wr.drew.alloc (.cells #[] 3)).alloc (.cells #[.int .i64 x] 3)).ownsRow wr.heap.size 3 1 (.slice (some ⟨wr.heap.size, 0, none⟩) 0 0) 0 (([] : List Int).map (Value.int .i64)) := own1.alloc _
      have own3 : ((wr.drew.alloc (.cells #[.int .i64 x] 3)).alloc (.cells #[] 3)).ownsRow wr.heap.size 3 1 (.slice (some ⟨wr.heap.size + 1, 0, none⟩) 0 0) 0 (([] : List Int).map (Value.int .i64)) := by
        simpa using World.ownsRow_lit (size := 1) (e := 3) (wr.drew.alloc (.cells #[.int .i64 x] 3)) #[] 0 (show wr.heap.size ≤ (wr.drew.alloc (.cells #[.int .i64 x] 3)).heap.size by simp) (by unfold maxLen; omega) rfl
      have x2 : Ints ((wr.drew.alloc (.cells #[] 3)).alloc (.cells #[.int .i64 x] 3)) 0 (wr.heap.size + 2) (some ⟨wr.heap.size + 1, 0, none⟩) 1 1 [x] := by
        simpa using ints_lit0 (wr.drew.alloc (.cells #[] 3)) x hxr (wr.heap.size + 2) (by simp)
      have x3 : Ints ((wr.drew.alloc (.cells #[.int .i64 x] 3)).alloc (.cells #[] 3)) 0 (wr.heap.size + 1) (some ⟨wr.heap.size, 0, none⟩) 1 1 [x] :=
        (ints_lit0 wr.drew x hxr (wr.heap.size + 1) (show wr.heap.size < _ by omega)).below e21 (by simp)
      have in1 := hI1.out.below F1 (Nat.le_refl _)
      have in2 := hI1.out.below F12 (Nat.le_refl _)
      have in3 := hI1.out.below F21 (Nat.le_refl _)
      have cellB : ∀ (v1 : World), Below wr.heap.size wr v1 → v1.cell? ⟨gt, j, none⟩ = some (.int .i64 x) := fun _ hB => (hB.cell (p := ⟨gt, j, none⟩) hgt').trans hcx
      have cellC : ∀ (v1 : World), Below w.heap.size w v1 → v1.cell? ⟨gt, j, none⟩ = some (.int .i64 x) := fun _ hB => ((hB.cell (p := ⟨gt, j, none⟩) (by show gt < _; omega)).trans (hb.out.cell (p := ⟨gt, j, none⟩) (by show gt < _; omega)).symm).trans hcx
      have FH := hide (And.intro F1 (And.intro F2 (And.intro F12 F21)))
      have OW := hide (And.intro own1 (And.intro own2 own3))
      have IN := hide (And.intro in1 (And.intro in2 in3))
      have XX := hide (And.intro x2 x3)
      have CB := hide cellB
      have CC := hide cellC
      clear d2 e1 e2 e12 e21 F1 F2 F12 F21 own1 own2 own3 in1 in2 in3 x2 x3 cellB cellC
      have HRC := hrc
      go_wp2_with fail
      go_region_held3 (fun w' => w'.cell? ⟨gt, j, none⟩ = some (.int .i64 x)) (first | exact hcx | exact CB.out _ FH.out.1 | exact CB.out _ FH.out.2.1 | exact CB.out _ FH.out.2.2.1 | exact CB.out _ FH.out.2.2.2 | exact T1 | exact T1' | exact T2 | exact T2' | exact T3 | go_keep)
        (first
          | (refine step_appI0 (by rfl) _ _ (by rfl) _ wr.heap.size _ 0 0 [] (by rfl) OW.out.1 ad n d 0 wr.heap.size xs (by rfl) IN.out.1 (by omega) n (by omega) (by omega) (by simp) ?_; intro g1 c1 v1 hown1 hgrow1 hat1 hlt1; have BU := Below.grown FH.out.1 hgrow1 (by simp) (by intro k hk; injection hk with hk; omega); have szu := BU.size; have T1 := CB.out _ BU; have e9 := below_alloc v1 (.cells #[.int .i64 x] 3); have BX : Below wr.heap.size wr (v1.alloc (.cells #[.int .i64 x] 3)) := (by (repeat (first | with_reducible exact BU | with_reducible exact Below.refl _ _ | with_reducible refine Below.drew ?_ | ((with_reducible refine Below.alloc ?_ ?_ _); rotate_left; · first | omega | (simp [World.setCell]; done) | (simp [World.setCell]; omega)) | ((with_reducible refine Below.setCell ?_ ?_ _); rotate_left; · first | exact Nat.le_refl _ | omega | (simp; done) | (simp; omega))))); have T1' := CB.out _ BX; have own8 := hown1.alloc (.cells #[.int .i64 x] 3); have in8 := ints_lit0 v1 x hxr (v1.heap.size + 1) (by omega))
          | (refine step_appI0 (by rfl) _ _ (by rfl) _ wr.heap.size _ 0 0 [] (by rfl) OW.out.2.1 ad n d 0 wr.heap.size xs (by rfl) IN.out.2.1 (by omega) n (by omega) (by omega) (by simp <;> omega) ?_; intro g1 c1 v1 hown1 hgrow1 hat1 hlt1; have BX := Below.grown FH.out.2.2.1 hgrow1 (by simp <;> omega) (by intro k hk; injection hk with hk; omega); have szu := BX.size; have T1 := CB.out _ BX; have own8 := hown1; have in8 := (XX.out.1.wide (lo' := 0) (hi' := wr.heap.size + 2) (Nat.zero_le _) (Nat.le_refl _)).grown_far0 hgrow1 (by omega))
          | (refine step_appI0 (by rfl) _ _ (by rfl) _ wr.heap.size _ 0 0 [] (by rfl) OW.out.2.2 ad n d 0 wr.heap.size xs (by rfl) IN.out.2.2 (by omega) n (by omega) (by omega) (by simp <;> omega) ?_; intro g1 c1 v1 hown1 hgrow1 hat1 hlt1; have BX := Below.grown FH.out.2.2.2 hgrow1 (by simp <;> omega) (by intro k hk; injection hk with hk; omega); have szu := BX.size; have T1 := CB.out _ BX; have own8 := hown1; have in8 := XX.out.2.grown_far0 hgrow1 (by omega))
          | (refine step_appI0 (by rfl) _ _ (by rfl) _ wr.heap.size _ n _ _ (by rfl) own8 _ 1 1 _ _ [x] (by rfl) in8 (by omega) (n + 1) (by omega) (by omega) (by first | omega | (simp; omega)) ?_; intro g2 c2 v2 hown2 hgrow2 hat2 hlt2; have BY := Below.grown BX hgrow2 (by first | omega | (simp; omega)) (by intro k hk; injection hk with hk; subst hk; have := (owns_lt own8 _ rfl).1; simpa using this); have szv := BY.size; have T2 := CB.out _ BY; have T2' := CB.out _ (BY.alloc (by omega) (.cells #[.slice (some ⟨g2, 0, none⟩) (n + 1) c2] 22)); have HOv := hide (hO.out.below BY))
          | (refine step_app1 (by rfl) _ _ 67 (by rfl) w.heap.size 22 i1 (.slice none 0 0) 1 24 Tryz.underlying67 hi1 hy0 hy1 hy2 rfl (by omega) v2 #[.slice (some ⟨g2, 0, none⟩) (n + 1) c2] _ rfl A j c' 1 vs (by rfl) (by rfl) HOv.out.own rfl (by simp [Value.oneCell']) (by omega) (by omega) (by omega) ?_; intro A3 c3 w5 happ hlt3; have BZ := hide (happ.low (hb.out.trans (BY.mono hsz)) (by omega) (Nat.le_refl _) HOv.out.own); have T3 := CC.out _ BZ.out))
      all_goals
        have hP := hide (HOv.out.pushRow (hb := wr.heap.size) (xs := xs ++ [x]) (owns_low hown2 hsz) (fun y hy => by
          rcases List.mem_append.1 hy with hy | hy
          · have := HXS.out.2 y hy
            constructor <;> omega
          · obtain rfl : y = x := by simpa using hy
            exact hxr) (fun ad e => (owns_lt hown2 ad e).1) hO.out.olt2 (fun j v hv b hb => (hO.out.olt j v hv b hb).2) happ)
        rw [HM2.out] at hP
        clear happ hown2 HOv hown1 own8 in8 BY BX FH OW IN XX CB CC hI1 hO hcx HRC hrc T1 T2 T2' T3 hb
        go_wp2_with fail
        go_roundw
        case rel => exact ⟨j + 1, A3, c3, _, by omega, by go_num, rfl, hP.out, BZ.out⟩
        case measure => simp [intOf]; omega
    · obtain rfl : n = j := by omega
      have hO2 := hO.out
      rw [List.take_of_length_le (Nat.le_of_eq (aug_len hlx.out hly.out))] at hO2
      obtain ⟨g, rfl, hg1, hg2⟩ := hO2.form hn
      have HRR := hide (impl_reduceRows w.heap.size wr.heap.size g n c' (n + 1) n vs _ wr (hO2.mat (aug_num HN.out hlx.out hly.out HY.out)) hg1 (Nat.le_refl _) hn2 (by omega) (by omega) (by omega))
      have hmk := make_ints n (by omega)
      have hMl := hide ((red_len n 0 (augF xss ys) []).trans (aug_len hlx.out hly.out))
      obtain ⟨sol, hsol⟩ : ∃ v, v = solF n xss ys := ⟨_, rfl⟩
      have hsl : Hid (sol.length = n) := by rw [hsol]; exact sol_len hlx.out hly.out
      have HS0 := hide hsol
      have HSOL : Hid (sol = (redF n 0 (augF xss ys) []).1.map fun x => x.getD n 0) := hsol
      have HF := hide hf
      clear hO hO2 hcb hsol hf hlx' hly'
      go_wp2_with (go_at_call 99; refine HRR.out.mono ?_; rintro e w1 ⟨A1, m1, d1, vs1, rfl, hR⟩; obtain ⟨rfl, hS⟩ := SolS.start hR HF.out hn2 rfl; have hcb1 := hR.own.capb; have HS := hide hS; have hw1 := hide (hR.mat.low.size); clear hR hS)
      generalize (redF n 0 (augF xss ys) []).1 = Mr at HS hMl HSOL
      clear HRR HF hmk
      go_loopw [60] (fun i wr2 => ∃ (q : Nat), q ≤ n ∧ i = .int .i64 q ∧ SolS wr wr2 w.heap.size wr.heap.size g n c' (n + 1) vs1 Mr w1.heap.size A1 d1 (mixL sol (List.replicate n 0) q)) (fun i _ => n - (intOf i).toNat)
      case atStart => exact ⟨0, by omega, rfl, by rw [mixL_zero]; exact HS.out⟩
      case round =>
        obtain ⟨q, hq, rfl, hS⟩ := hrel
        by_cases hlt2 : q < n
        · obtain ⟨b, db, r1, r2, r3, r4, r5, r6, r7⟩ := hS.mat.row hlt2 (Nat.succ_pos n)
          obtain ⟨e1, e2, e3, e4⟩ := hS.mat.cell r2 hlt2 (Nat.lt_succ_self n)
          obtain ⟨ad, x, e, hpc0, hpr, _, hpx⟩ := hS.piv.ints.at_ hlt2
          obtain ⟨ga, hA1, hga1, hga2, _⟩ := hS.piv.form hn
          subst hA1
          injection e with e
          subst e
          obtain rfl : (q : Int) = x := by have := hpx.out; rw [idxL_at hlt2] at this; injection this
          have hpc : wr.cell? ⟨ga, q, none⟩ = some (.int .i64 (q : Int)) := by simpa [Addr.add_lit] using hpc0
          have hfo := hS.out.own.frozenAt q
          obtain ⟨ov, hov⟩ : ∃ v, ((mixL sol (List.replicate n 0) q).map (Value.int .i64))[q]? = some v := ⟨_, List.getElem?_eq_getElem (by have := mixL_len hsl.out (List.length_replicate (n := n) (a := (0 : Int))) (Nat.le_of_lt hlt2); simp; omega)⟩
          have hco := (hS.out.own.cellAt q (by omega)).trans hov
          clear hov
          have hsx := sol_at (n := n) (i := q) (M := Mr) (by rw [hMl.out]; exact hlt2)
          have hsx2 : sol[q]? = some (atM Mr q n) := by rw [HSOL.out]; exact hsx
          have hSn := hS.set (i := q) (x := atM Mr q n) (Nat.le_trans hb.out.size hw1.out) (by constructor <;> omega)
          rw [mixL_set hsl.out (List.length_replicate ..) hlt2 hsx2] at hSn
          have HSN := hide hSn.drew
          obtain ⟨k1, hk1, hlk⟩ : ∃ k1, k1 = n + 1 ∧ n < k1 := ⟨_, rfl, Nat.lt_succ_self n⟩
          rw [← hk1] at r1 r3
          clear hpc0 hpx hpr hsx hsx2 hSn hS HS r2 e2 e3 e4 hk1
          go_wp2_with fail
          refine still_tail 13 (by kernel_rfl) (by kernel_rfl) ?_
          simp only [List.take_succ_cons, List.take_zero, List.drop_succ_cons, List.drop_zero]
          repeat still_step
          refine wpStill_nil ?_
          go_wp2_with fail
          go_roundw
          case rel => exact ⟨q + 1, by omega, by go_num, HSN.out⟩
          case measure => simp [intOf]; omega
        · obtain rfl : n = q := by omega
          rw [mixL_all hsl.out (List.length_replicate ..)] at hS
          have hbw := hb.out.trans hS.mat.low
          have hge := Nat.le_trans hb.out.size hw1.out
          have hO := hS.out.wide (lo' := w.heap.size) (hi' := wr.heap.size) hge (by obtain ⟨_, e, _, _, h3⟩ := hS.out.form hn; injection e with e; injection e with e; subst e; exact h3)
          rw [HS0.out] at hO
          clear hS HS
          have HO := hide hO
          clear hO
          go_wp2_with fail
          refine bodyPost_ret (v := .tuple #[.slice (some ⟨w1.heap.size, 0, none⟩) n n, .bool true]) (by simp [results, Tryz.results83, go_sem]) rfl ⟨_, _, rfl, HO.out, hbw⟩
end Go.Proofs.YtfijcieponfcpaaGreatDoor
/- Weights of nodes: the program's walk. -/
namespace Go.Proofs.YtfijcieponfcpaaGreatDoor
open Go.RowKit
set_option linter.unusedSimpArgs false
set_option linter.unusedVariables false
set_option maxRecDepth 20000

set_option maxHeartbeats 1000000 in
theorem impl_clos1 (gp : Nat) (x k : Int) (W : World) (h : W.cell? ⟨gp, 0, none⟩ = some (.int .i64 x)) (hx : R64 x) (h0 : 0 < k) (h8 : k ≤ 8) :
    Calls Tryz.prog 63 #[.int .i64 k, .pointer (some ⟨gp, 0, none⟩)] W fun e w' => e = .returned (.int .i64 (fracF (powF x k) k)) ∧ W = w' := by
  have HP := hide fun W => impl_Power x k W hx (by constructor <;> omega)
  have hpb := powF_bd x k
  have HF := hide fun W => impl_Fraction (powF x k) k W (by constructor <;> omega) (by constructor <;> omega)
  go_enter Tryz.func63, Tryz.ntmps63
  go_wp2_with (first
    | (go_at_call 64; refine (HP.out _).mono ?_; rintro e w' ⟨rfl, rfl⟩)
    | (go_at_call 38; refine (HF.out _).mono ?_; rintro e w' ⟨rfl, rfl⟩))
  go_ret
  exact ⟨rfl, rfl⟩
set_option maxHeartbeats 1000000 in
theorem impl_clos2 (k : Int) (W : World) (h0 : 0 < k) (h8 : k ≤ 8) :
    Calls Tryz.prog 65 #[.int .i64 k] W fun e w' => e = .returned (.int .i64 (fracF 1 k)) ∧ W = w' := by
  have HF := hide fun W => impl_Fraction 1 k W (by constructor <;> omega) (by constructor <;> omega)
  go_enter Tryz.func65, Tryz.ntmps65
  go_wp2_with (go_at_call 38; refine (HF.out _).mono ?_; rintro e w' ⟨rfl, rfl⟩)
  go_ret
  exact ⟨rfl, rfl⟩

set_option maxRecDepth 100000 in
set_option maxHeartbeats 4000000 in
theorem impl_quadrature1 (A0 : Option Addr) (n c : Nat) (xs : List Int) (gp : Nat) (f : Int → Int) (lo hi : Nat) (w : World) (h : Ints w lo hi A0 n c xs) (hh : hi ≤ w.heap.size) (hn : 0 < n) (hn2 : n ≤ 8)
    (hfn : ∀ k, 0 ≤ f k ∧ f k < 1000000271) (hf : FullF n (vanM xs n) (goalL f n))
    (HVH : ∀ (W : World) (k : Int), Below w.heap.size w W → 0 < k → k ≤ 8 → Calls Tryz.prog 63 #[.int .i64 k, .pointer (some ⟨gp, 0, none⟩)] W fun e w' => e = .returned (.int .i64 (f k)) ∧ W = w') :
    Calls Tryz.prog 62 #[.slice A0 n c, .func (.func 63) #[] #[.pointer (some ⟨gp, 0, none⟩)]] w fun e w' => ∃ R d, e = .returned (.slice R n d) ∧ OwnI w' w.heap.size w'.heap.size R n d (solF n (vanM xs n) (goalL f n)) ∧ Below w.heap.size w w' := by
  obtain ⟨i0, hi0, hz0, hz1, hz2⟩ := info_parts info_int
  obtain ⟨i1, hi1, hy0, hy1, hy2⟩ := info_parts info_ints
  have hcp := h.cap
  have hm := h.max
  have HI := hide h
  have hlx := hide h.len
  have HF := hide hf
  have HV := hide HVH
  have s0 := hide (QuS.start w)
  clear HVH
  clear h hf
  go_enter Tryz.func62, Tryz.ntmps62
  go_wp2_with fail
  go_loopw [5, 6, 7] (fun p g i wr => ∃ (q : Nat) (A : Option Addr) (c' : Nat) (vs : List Value) (G : Option Addr) (d : Nat), q ≤ n ∧ i = .int .i64 ((q : Int) + 1) ∧ p = .slice A q c' ∧ g = .slice G q d ∧ Hid (QuS w wr w.heap.size A q c' vs ((vanM xs n).take q) G q d ((goalL f n).take q))) (fun _ _ i _ => n + 1 - (intOf i).toNat)
  case atStart => exact ⟨0, _, 0, [], _, 0, by omega, rfl, rfl, by simp, s0.out⟩
  case round =>
    clear s0
    obtain ⟨q, A, c', vs, G, d, hq, rfl, rfl, rfl, hQ⟩ := hrel
    have hsz := hQ.out.low.size
    have hcA := hQ.out.rows.capb
    have hcG := hQ.out.goal.capb
    by_cases hlt : q < n
    · have hT : Hid ((vanM xs n).take q ++ [powRow xs (q : Int)] = (vanM xs n).take (q + 1)) := take_snoc0 (van_at hlt)
      have hU : Hid ((goalL f n).take q ++ [f ((q : Int) + 1)] = (goalL f n).take (q + 1)) := take_snoc0 (goal_at (f := f) hlt)
      have hfb := hfn ((q : Int) + 1)
      have hfr : R64 (f ((q : Int) + 1)) := by constructor <;> omega
      have r0 : Hid ((wr.alloc (.cells #[] 3)).ownsRow wr.heap.size 3 1 (.slice (some ⟨wr.heap.size, 0, none⟩) 0 0) 0 (((powRow xs (q : Int)).take 0).map (Value.int .i64))) := by
        show World.ownsRow _ _ _ _ _ _ _
        simpa using World.ownsRow_lit (size := 1) (e := 3) (base := wr.heap.size) wr #[] 0 (Nat.le_refl _) (by unfold maxLen; omega) rfl
      have rb := hide (below_alloc wr (.cells #[] 3))
      go_wp2_with fail
      obtain ⟨wo, hwo⟩ : ∃ wo, wo = wr := ⟨_, rfl⟩
      rw [← hwo] at hQ hsz r0 rb ⊢
      clear hwo
      go_loopw [8, 24] (fun p i wr => ∃ (j : Nat) (R : Option Addr) (d : Nat), j ≤ n ∧ i = .int .i64 j ∧ p = .slice R j d ∧ Hid (wr.ownsRow wo.heap.size 3 1 (.slice R j d) j (((powRow xs (q : Int)).take j).map (Value.int .i64))) ∧ Hid (Below wo.heap.size wo wr)) (fun _ i _ => n - (intOf i).toNat)
      case atStart => exact ⟨0, _, 0, by omega, rfl, rfl, r0.out, rb.out⟩
      case round =>
        clear r0 rb
        obtain ⟨j, R, d2, hj, rfl, rfl, hO, hb⟩ := hrel
        have hsz2 := hb.out.size
        have hI := (HI.out.below hQ.out.low hh).below (hb.out.mono hsz) hh
        by_cases hlt2 : j < n
        · obtain ⟨ad, x, rfl, hc, hxr, hdx, hx⟩ := hI.at_ hlt2
          have HPW := hide fun W => impl_Power x (q : Int) W hxr (by constructor <;> omega)
          have hpb := powF_bd x (q : Int)
          have hT2 : Hid ((powRow xs (q : Int)).take j ++ [powF x (q : Int)] = (powRow xs (q : Int)).take (j + 1)) := take_snoc0 (powRow_at hx.out)
          have hpr : R64 (powF x (q : Int)) := by constructor <;> omega
          clear hdx hx hI
          go_wp2_with (first
            | (go_at_call 64; refine (HPW.out _).mono ?_; rintro e w' ⟨rfl, rfl⟩)
            | (at_builtin; refine wpl_app1 rfl (.tmp 28) (.tmp 33) 22 rfl wo.heap.size 3 i0 (.int .i64 0) 1 8 Tryz.underlying22 hi0 hz0 hz1 hz2 rfl (by omega) wr #[.int .i64 (powF x (q : Int))] R j d2 1 _ rfl rfl hO.out rfl (by simp [Value.oneCell']) (by omega) (by omega) hsz2 ?_; intro R2 d3 w5 happ hlt3; have hb5 := hide (happ.low hb.out hsz2 (Nat.le_refl _) hO.out)))
          have hO5 : Hid (w5.ownsRow wo.heap.size 3 1 (.slice R2 (j + 1) d3) (j + 1) (((powRow xs (q : Int)).take (j + 1)).map (Value.int .i64))) := by
            show World.ownsRow _ _ _ _ _ _ _
            rw [← hT2.out, List.map_append]
            exact happ.1
          refine ⟨⟨.slice R2 (j + 1) d3, .int .i64 x, .int .i64 ((j : Int) + 1), ⟨j + 1, by omega, by go_num, R2, d3, rfl, ?_⟩, rfl, rfl, rfl⟩, ?_⟩
          · show World.ownsRow _ _ _ _ _ _ _
            rw [← List.map_take]
            exact hO5.out
          · simp [intOf]; omega
        · obtain rfl : n = j := by omega
          have hO2 := hO.out
          rw [List.take_of_length_le (by simp [powRow, hlx.out])] at hO2
          have HO := hide hO2
          have hsz3 := Nat.le_trans hsz hsz2
          have HQ2 := hide (hQ.out.below hsz hb.out)
          clear hO hO2 hI
          go_wp2_with (first
            | (go_at_call 63; refine (HV.out _ _ HQ5.out.low (by omega) (by omega)).mono ?_; rintro e w' ⟨rfl, rfl⟩)
            | (at_builtin; refine wpl_app1 rfl (.tmp 36) (.tmp 38) 67 rfl w.heap.size 22 i1 (.slice none 0 0) 1 24 Tryz.underlying67 hi1 hy0 hy1 hy2 rfl (by omega) wr #[.slice R n d2] A q c' 1 _ rfl rfl HQ2.out.rows.own rfl (by simp [Value.oneCell']) (by omega) (by omega) hsz3 ?_; intro A5 c5 w5 happ5 hlt5; have HQ5 := hide (HQ2.out.pushRow hsz3 HO.out (powRow_rng _ _) hsz hQ.out.old happ5); have hsz5 : w.heap.size ≤ w5.heap.size := (by omega); clear happ5)
            | (at_builtin; refine wpl_app1 rfl (.tmp 40) (.tmp 44) 22 rfl w.heap.size 3 i0 (.int .i64 0) 1 8 Tryz.underlying22 hi0 hz0 hz1 hz2 rfl (by omega) w5 #[.int .i64 (f ((q : Int) + 1))] G q d 1 _ rfl rfl HQ5.out.goal.own rfl (by simp [Value.oneCell']) (by omega) (by omega) hsz5 ?_; intro A6 c6 w6 happ6 hlt6; have HQ6 := hide (HQ5.out.pushGoal hsz5 hfr happ6); clear happ6))
          rw [hT.out, hU.out] at HQ6
          refine ⟨⟨q + 1, A5, c5, _, A6, c6, by omega, by go_num, rfl, rfl, HQ6.out⟩, ?_⟩
          simp [intOf]; omega
    · obtain rfl : n = q := by omega
      have hQ2 := hQ.out
      rw [List.take_of_length_le (Nat.le_of_eq (van_len xs n)), List.take_of_length_le (Nat.le_of_eq (goal_len _ n))] at hQ2
      obtain ⟨gr, rfl, hr1, hr2⟩ := hQ2.rows.form hn
      obtain ⟨gt, rfl, ht1, ht2, _⟩ := hQ2.goal.form hn
      have hvn := van_num xs n
      rw [hlx.out] at hvn
      have HSS := hide (impl_SolveSystem gr n c' _ gt d _ w.heap.size wr.heap.size w.heap.size wr.heap.size wr hQ2.rows.ints2 hvn hQ2.goal.ints (goal_num hfn) (Nat.le_refl _) (Nat.le_refl _) hn hn2 HF.out)
      have hbQ := hide hQ2.low
      clear hQ hQ2 hvn
      go_wp2_with (go_at_call 83; refine HSS.out.mono ?_; rintro e w3 ⟨C, cc, rfl, hO, hb⟩; have HO := hide (hO.wide (lo' := w.heap.size) hsz (Nat.le_refl _)); have HB := hide (hbQ.out.trans (hb.mono hsz)); clear hO hb)
      go_ret
      exact ⟨C, cc, rfl, HO.out, HB.out⟩

set_option maxRecDepth 100000 in
set_option maxHeartbeats 4000000 in
theorem impl_quadrature2 (A0 : Option Addr) (n c : Nat) (xs : List Int) (f : Int → Int) (lo hi : Nat) (w : World) (h : Ints w lo hi A0 n c xs) (hh : hi ≤ w.heap.size) (hn : 0 < n) (hn2 : n ≤ 8)
    (hfn : ∀ k, 0 ≤ f k ∧ f k < 1000000271) (hf : FullF n (vanM xs n) (goalL f n))
    (HVH : ∀ (W : World) (k : Int), Below w.heap.size w W → 0 < k → k ≤ 8 → Calls Tryz.prog 65 #[.int .i64 k] W fun e w' => e = .returned (.int .i64 (f k)) ∧ W = w') :
    Calls Tryz.prog 62 #[.slice A0 n c, .func (.func 65) #[] #[]] w fun e w' => ∃ R d, e = .returned (.slice R n d) ∧ OwnI w' w.heap.size w'.heap.size R n d (solF n (vanM xs n) (goalL f n)) ∧ Below w.heap.size w w' := by
  obtain ⟨i0, hi0, hz0, hz1, hz2⟩ := info_parts info_int
  obtain ⟨i1, hi1, hy0, hy1, hy2⟩ := info_parts info_ints
  have hcp := h.cap
  have hm := h.max
  have HI := hide h
  have hlx := hide h.len
  have HF := hide hf
  have HV := hide HVH
  have s0 := hide (QuS.start w)
  clear HVH
  clear h hf
  go_enter Tryz.func62, Tryz.ntmps62
  go_wp2_with fail
  go_loopw [5, 6, 7] (fun p g i wr => ∃ (q : Nat) (A : Option Addr) (c' : Nat) (vs : List Value) (G : Option Addr) (d : Nat), q ≤ n ∧ i = .int .i64 ((q : Int) + 1) ∧ p = .slice A q c' ∧ g = .slice G q d ∧ Hid (QuS w wr w.heap.size A q c' vs ((vanM xs n).take q) G q d ((goalL f n).take q))) (fun _ _ i _ => n + 1 - (intOf i).toNat)
  case atStart => exact ⟨0, _, 0, [], _, 0, by omega, rfl, rfl, by simp, s0.out⟩
  case round =>
    clear s0
    obtain ⟨q, A, c', vs, G, d, hq, rfl, rfl, rfl, hQ⟩ := hrel
    have hsz := hQ.out.low.size
    have hcA := hQ.out.rows.capb
    have hcG := hQ.out.goal.capb
    by_cases hlt : q < n
    · have hT : Hid ((vanM xs n).take q ++ [powRow xs (q : Int)] = (vanM xs n).take (q + 1)) := take_snoc0 (van_at hlt)
      have hU : Hid ((goalL f n).take q ++ [f ((q : Int) + 1)] = (goalL f n).take (q + 1)) := take_snoc0 (goal_at (f := f) hlt)
      have hfb := hfn ((q : Int) + 1)
      have hfr : R64 (f ((q : Int) + 1)) := by constructor <;> omega
      have r0 : Hid ((wr.alloc (.cells #[] 3)).ownsRow wr.heap.size 3 1 (.slice (some ⟨wr.heap.size, 0, none⟩) 0 0) 0 (((powRow xs (q : Int)).take 0).map (Value.int .i64))) := by
        show World.ownsRow _ _ _ _ _ _ _
        simpa using World.ownsRow_lit (size := 1) (e := 3) (base := wr.heap.size) wr #[] 0 (Nat.le_refl _) (by unfold maxLen; omega) rfl
      have rb := hide (below_alloc wr (.cells #[] 3))
      go_wp2_with fail
      obtain ⟨wo, hwo⟩ : ∃ wo, wo = wr := ⟨_, rfl⟩
      rw [← hwo] at hQ hsz r0 rb ⊢
      clear hwo
      go_loopw [8, 24] (fun p i wr => ∃ (j : Nat) (R : Option Addr) (d : Nat), j ≤ n ∧ i = .int .i64 j ∧ p = .slice R j d ∧ Hid (wr.ownsRow wo.heap.size 3 1 (.slice R j d) j (((powRow xs (q : Int)).take j).map (Value.int .i64))) ∧ Hid (Below wo.heap.size wo wr)) (fun _ i _ => n - (intOf i).toNat)
      case atStart => exact ⟨0, _, 0, by omega, rfl, rfl, r0.out, rb.out⟩
      case round =>
        clear r0 rb
        obtain ⟨j, R, d2, hj, rfl, rfl, hO, hb⟩ := hrel
        have hsz2 := hb.out.size
        have hI := (HI.out.below hQ.out.low hh).below (hb.out.mono hsz) hh
        by_cases hlt2 : j < n
        · obtain ⟨ad, x, rfl, hc, hxr, hdx, hx⟩ := hI.at_ hlt2
          have HPW := hide fun W => impl_Power x (q : Int) W hxr (by constructor <;> omega)
          have hpb := powF_bd x (q : Int)
          have hT2 : Hid ((powRow xs (q : Int)).take j ++ [powF x (q : Int)] = (powRow xs (q : Int)).take (j + 1)) := take_snoc0 (powRow_at hx.out)
          have hpr : R64 (powF x (q : Int)) := by constructor <;> omega
          clear hdx hx hI
          go_wp2_with (first
            | (go_at_call 64; refine (HPW.out _).mono ?_; rintro e w' ⟨rfl, rfl⟩)
            | (at_builtin; refine wpl_app1 rfl (.tmp 28) (.tmp 33) 22 rfl wo.heap.size 3 i0 (.int .i64 0) 1 8 Tryz.underlying22 hi0 hz0 hz1 hz2 rfl (by omega) wr #[.int .i64 (powF x (q : Int))] R j d2 1 _ rfl rfl hO.out rfl (by simp [Value.oneCell']) (by omega) (by omega) hsz2 ?_; intro R2 d3 w5 happ hlt3; have hb5 := hide (happ.low hb.out hsz2 (Nat.le_refl _) hO.out)))
          have hO5 : Hid (w5.ownsRow wo.heap.size 3 1 (.slice R2 (j + 1) d3) (j + 1) (((powRow xs (q : Int)).take (j + 1)).map (Value.int .i64))) := by
            show World.ownsRow _ _ _ _ _ _ _
            rw [← hT2.out, List.map_append]
            exact happ.1
          refine ⟨⟨.slice R2 (j + 1) d3, .int .i64 x, .int .i64 ((j : Int) + 1), ⟨j + 1, by omega, by go_num, R2, d3, rfl, ?_⟩, rfl, rfl, rfl⟩, ?_⟩
          · show World.ownsRow _ _ _ _ _ _ _
            rw [← List.map_take]
            exact hO5.out
          · simp [intOf]; omega
        · obtain rfl : n = j := by omega
          have hO2 := hO.out
          rw [List.take_of_length_le (by simp [powRow, hlx.out])] at hO2
          have HO := hide hO2
          have hsz3 := Nat.le_trans hsz hsz2
          have HQ2 := hide (hQ.out.below hsz hb.out)
          clear hO hO2 hI
          go_wp2_with (first
            | (go_at_call 65; refine (HV.out _ _ HQ5.out.low (by omega) (by omega)).mono ?_; rintro e w' ⟨rfl, rfl⟩)
            | (at_builtin; refine wpl_app1 rfl (.tmp 36) (.tmp 38) 67 rfl w.heap.size 22 i1 (.slice none 0 0) 1 24 Tryz.underlying67 hi1 hy0 hy1 hy2 rfl (by omega) wr #[.slice R n d2] A q c' 1 _ rfl rfl HQ2.out.rows.own rfl (by simp [Value.oneCell']) (by omega) (by omega) hsz3 ?_; intro A5 c5 w5 happ5 hlt5; have HQ5 := hide (HQ2.out.pushRow hsz3 HO.out (powRow_rng _ _) hsz hQ.out.old happ5); have hsz5 : w.heap.size ≤ w5.heap.size := (by omega); clear happ5)
            | (at_builtin; refine wpl_app1 rfl (.tmp 40) (.tmp 44) 22 rfl w.heap.size 3 i0 (.int .i64 0) 1 8 Tryz.underlying22 hi0 hz0 hz1 hz2 rfl (by omega) w5 #[.int .i64 (f ((q : Int) + 1))] G q d 1 _ rfl rfl HQ5.out.goal.own rfl (by simp [Value.oneCell']) (by omega) (by omega) hsz5 ?_; intro A6 c6 w6 happ6 hlt6; have HQ6 := hide (HQ5.out.pushGoal hsz5 hfr happ6); clear happ6))
          rw [hT.out, hU.out] at HQ6
          refine ⟨⟨q + 1, A5, c5, _, A6, c6, by omega, by go_num, rfl, rfl, HQ6.out⟩, ?_⟩
          simp [intOf]; omega
    · obtain rfl : n = q := by omega
      have hQ2 := hQ.out
      rw [List.take_of_length_le (Nat.le_of_eq (van_len xs n)), List.take_of_length_le (Nat.le_of_eq (goal_len _ n))] at hQ2
      obtain ⟨gr, rfl, hr1, hr2⟩ := hQ2.rows.form hn
      obtain ⟨gt, rfl, ht1, ht2, _⟩ := hQ2.goal.form hn
      have hvn := van_num xs n
      rw [hlx.out] at hvn
      have HSS := hide (impl_SolveSystem gr n c' _ gt d _ w.heap.size wr.heap.size w.heap.size wr.heap.size wr hQ2.rows.ints2 hvn hQ2.goal.ints (goal_num hfn) (Nat.le_refl _) (Nat.le_refl _) hn hn2 HF.out)
      have hbQ := hide hQ2.low
      clear hQ hQ2 hvn
      go_wp2_with (go_at_call 83; refine HSS.out.mono ?_; rintro e w3 ⟨C, cc, rfl, hO, hb⟩; have HO := hide (hO.wide (lo' := w.heap.size) hsz (Nat.le_refl _)); have HB := hide (hbQ.out.trans (hb.mono hsz)); clear hO hb)
      go_ret
      exact ⟨C, cc, rfl, HO.out, HB.out⟩
end Go.Proofs.YtfijcieponfcpaaGreatDoor
