/- Solutions of systems: the reference's walk. -/
import Derived.Test.YtfijcieponfcpaaGreatDoorMgB
namespace Go.Proofs.YtfijcieponfcpaaGreatDoor
open Go.RowKit
set_option linter.unusedSimpArgs false
set_option linter.unusedVariables false
set_option maxRecDepth 20000

set_option maxHeartbeats 1000000 in
theorem spec_l1Rows (gr n c : Nat) (xss : List (List Int)) (lo hi k : Nat) (w : World) (h : Ints2 w lo hi (some ⟨gr, 0, none⟩) n c xss) (hN : NumM k xss) (hn : 0 < n) (hn2 : n ≤ 8) (hk : 0 < k) (hk2 : k ≤ 8) :
    Calls Tryz.prog 87 #[.slice (some ⟨gr, 0, none⟩) n c] w fun e w' => e = .returned (.bool true) ∧ ∃ q, w' = w.drewN q := by
  have hcp := h.cap
  have hm := h.max
  have HN := hide hN
  obtain ⟨ad, B0, m0, d0, xs0, e, hc0', hi0, _, hx0⟩ := h.at_ hn
  injection e with e
  subst e
  have hc0 : w.cell? ⟨gr, 0, none⟩ = some (.slice B0 m0 d0) := by simpa [Addr.add_lit] using hc0'
  have hm0 := hi0.max
  obtain rfl : k = m0 := by rw [← hi0.len]; exact ((numF_row hN hx0.out).1).symm
  have hcm0 := hi0.cap
  have HI := hide h
  clear hN hi0 hx0 hc0' h
  have t1 : (decide ((1 : Int) ≤ n) && decide ((n : Int) ≤ 40)) = true := by simp; omega
  have t2 : (decide ((1 : Int) ≤ k) && decide ((k : Int) ≤ 40)) = true := by simp; omega
  go_enter Tryz.func87, Tryz.ntmps87
  go_wp2_with (go_at_call 49; refine (spec_l1In _ _ _ _).mono ?_; rintro e w' ⟨rfl, rfl⟩)
  go_loopw [3] (fun i wr => ∃ (j q : Nat), j ≤ n ∧ i = .int .i64 j ∧ wr = w.drewN q) (fun i _ => n - (intOf i).toNat)
  case atStart => exact ⟨0, 0, by omega, rfl, rfl⟩
  case round =>
    obtain ⟨j, q, hj, rfl, rfl⟩ := hrel
    by_cases hlt : j < n
    · obtain ⟨ad', B, m, d, xs, e, hc', hi, _, hx⟩ := HI.out.at_ hlt
      injection e with e
      subst e
      have hc : w.cell? ⟨gr, j, none⟩ = some (.slice B m d) := by simpa [Addr.add_lit] using hc'
      have hmm := hi.max
      have hcm := hi.cap
      obtain rfl : k = m := by rw [← hi.len]; exact ((numF_row HN.out hx.out).1).symm
      have hr := (numF_row HN.out hx.out).2
      have HE := hide fun W (hW : ∃ q, W = w.drewN q) => spec_l1All B k d xs lo _ W (by obtain ⟨q, rfl⟩ := hW; exact hi.same (fun _ _ _ => rfl))
      rw [hr] at HE
      have hq1 : ((k : Int) != (k : Int)) = false := by simp
      clear hi hx hc' hr
      go_wp2_with fail
      go_quiet ((go_at_call 54; first | exact Calls.quiet_of (HE.out _ ⟨_, rfl⟩) | exact quiet_add (HE.out _ ⟨_, rfl⟩) | exact quiet_left (HE.out _ ⟨_, rfl⟩) | exact quiet_add_left (HE.out _ ⟨_, rfl⟩)))
      go_wp2_with fail
      go_roundw
      case rel => exact ⟨j + 1, _, by omega, by go_num, rfl⟩
      case measure => simp [intOf]; omega
    · obtain rfl : j = n := by omega
      go_wp2_with fail
      go_ret
      exact ⟨rfl, _, rfl⟩

set_option maxRecDepth 100000 in
set_option maxHeartbeats 4000000 in
theorem spec_l1Copy (gr n rc k : Nat) (xss : List (List Int)) (lo hi : Nat) (w : World) (h : Ints2 w lo hi (some ⟨gr, 0, none⟩) n rc xss) (hN : NumM k xss) (hh : hi ≤ w.heap.size) (hn2 : n ≤ 8) (hk : 0 < k) (hk2 : k ≤ 8) :
    Calls Tryz.prog 88 #[.slice (some ⟨gr, 0, none⟩) n rc] w fun e w' => ∃ A c vs, e = .returned (.slice A n c) ∧ RowsO w' w.heap.size A n c vs xss ∧ Below w.heap.size w w' := by
  obtain ⟨i0, hi0, hz0, hz1, hz2⟩ := info_parts info_int
  obtain ⟨i1, hi1, hy0, hy1, hy2⟩ := info_parts info_ints
  have hcr := h.cap
  have hmr := h.max
  have HI := hide h
  have HN := hide hN
  have hlx := hide h.len
  clear h hN
  have s0 := hide (RowsO.empty w w.heap.size (Nat.le_refl _))
  have b0 := hide (below_alloc w (.cells #[] 22))
  go_enter Tryz.func88, Tryz.ntmps88
  go_wp2_with fail
  go_loopw [3, 4] (fun p i wr => ∃ (j : Nat) (A : Option Addr) (c' : Nat) (vs : List Value), j ≤ n ∧ i = .int .i64 j ∧ p = .slice A j c' ∧ Hid (RowsO wr w.heap.size A j c' vs (xss.take j)) ∧ Hid (Below w.heap.size w wr)) (fun _ i _ => n - (intOf i).toNat)
  case atStart => exact ⟨0, _, 0, [], by omega, rfl, rfl, s0.out, b0.out⟩
  case round =>
    obtain ⟨j, A, c', vs, hj, rfl, rfl, hO, hb⟩ := hrel
    have hsz := hb.out.size
    have hcb := hO.out.capb
    by_cases hlt : j < n
    · obtain ⟨ad0, B, m, d, xs, e, hc, hI, hdx, hx⟩ := (HI.out.below hb.out hh).at_ hlt
      injection e with e
      subst e
      obtain rfl : k = m := by rw [← hI.len]; exact ((numF_row HN.out hx.out).1).symm
      obtain ⟨ad, rfl, had1, had2, _⟩ := hI.cells hk
      have hrc : wr.cell? ⟨gr, j, none⟩ = some (.slice (some ad) k d) := by simpa [Addr.add_lit] using hc
      have hrc1 := (below_alloc wr (.cells #[] 3)).cell (p := ⟨gr, j, none⟩) (World.block_lt_of_cell? wr _ hrc) |>.trans hrc
      have hcd := hI.cap
      have hmd := hI.max
      have HM2 : Hid (xss.take j ++ [xs] = xss.take (j + 1)) := take_snoc0 hx.out
      have HXS := hide (HN.out xs (List.mem_of_getElem? hx.out))
      have hb1 := below_alloc wr (.cells #[] 3)
      have own1 : (wr.alloc (.cells #[] 3)).ownsRow wr.heap.size 3 1 (.slice (some ⟨wr.heap.size, 0, none⟩) 0 0) 0 [] := by
        simpa using World.ownsRow_lit (size := 1) (e := 3) wr #[] 0 (Nat.le_refl _) (by unfold maxLen; omega) rfl
      have hI1 := hI.below hb1 (by omega)
      have hsz1 : wr.heap.size ≤ (wr.alloc (.cells #[] 3)).heap.size := hb1.size
      have hl1 : (xs.map (Value.int .i64)).length = k * 1 := by simpa using hI.len
      have hone : ∀ z ∈ xs.map (Value.int .i64), z.oneCell' = true := by
        intro z hz
        simp only [List.mem_map] at hz
        obtain ⟨z', _, rfl⟩ := hz
        rfl
      have hnews : ∀ ad', some ad = some ad' → ∀ (q : Nat) u, (xs.map (Value.int .i64))[q]? = some u → (wr.alloc (.cells #[] 3)).cell? (ad'.add q) = some u := by
        intro ad' e q u hu
        injection e with e
        subst e
        rw [List.getElem?_map] at hu
        cases hy : xs[q]? with
        | none => rw [hy] at hu; cases hu
        | some y =>
          rw [hy] at hu
          injection hu with hu
          subst hu
          obtain ⟨ad', e, _, _, hcc⟩ := hI1.cells hk
          injection e with e
          subst e
          exact hcc q y hy
      have HNW := hide hnews
      have HON := hide hone
      clear hc hI hdx hx had1 had2 hnews hone
      go_wp2_with (first
        | (at_builtin; refine wpl_app rfl (.tmp 13) (.tmp 17) 22 rfl _ wr.heap.size 3 i0 (.int .i64 0) 1 8 Tryz.underlying22 hi0 hz0 hz1 hz2 rfl (by omega) (some ⟨wr.heap.size, 0, none⟩) 0 0 [] rfl own1 (some ad) k d (xs.map (Value.int .i64)) rfl hl1 HNW.out (by intro e; cases e) HON.out (by omega) (by omega) hsz1 ?_; intro A2 c2 v2 happ2; simp only [Nat.zero_add] at happ2 ⊢; have BY := hide (happ2.low hb1 hsz1 (Nat.le_refl _) own1); have hown2 := hide happ2.1; have HOv := hide (hO.out.below BY.out); have szv := BY.out.size; clear happ2)
        | (at_builtin; refine wpl_app1 rfl (.tmp 12) (.tmp 19) 67 rfl w.heap.size 22 i1 (.slice none 0 0) 1 24 Tryz.underlying67 hi1 hy0 hy1 hy2 rfl (by omega) v2 #[.slice A2 k c2] A j c' 1 _ rfl rfl HOv.out.own rfl (by simp [Value.oneCell']) (by omega) (by omega) (by omega) ?_; intro A3 c3 w5 happ hlt3))
      have hP := hide (HOv.out.pushRow (hb := wr.heap.size) (xs := xs) (owns_low hown2.out hsz) (fun y hy => by
        have := HXS.out.2 y hy
        constructor <;> omega) (fun ad e => (owns_lt hown2.out ad e).1) hO.out.olt2 (fun j v hv b hb => (hO.out.olt j v hv b hb).2) happ)
      rw [HM2.out] at hP
      have BZ := happ.low (hb.out.trans (BY.out.mono hsz)) (by omega) (Nat.le_refl _) HOv.out.own
      refine ⟨⟨j + 1, A3, c3, _, by omega, by go_num, rfl, hP.out, BZ⟩, ?_⟩
      simp [intOf]; omega
    · obtain rfl : n = j := by omega
      have hO2 := hO.out
      rw [List.take_of_length_le (Nat.le_of_eq hlx.out)] at hO2
      have HO := hide hO2
      clear hO hO2
      go_wp2_with fail
      go_ret
      exact ⟨A, c', vs, rfl, HO.out, hb.out⟩

set_option maxRecDepth 100000 in
set_option maxHeartbeats 16000000 in
theorem spec_SolveSystem (gr n rc : Nat) (xss : List (List Int)) (gt tc : Nat) (ys : List Int) (lo hi lo' hi' : Nat) (w : World) (h : Ints2 w lo hi (some ⟨gr, 0, none⟩) n rc xss) (hN : NumM n xss) (ht : Ints w lo' hi' (some ⟨gt, 0, none⟩) n tc ys)
    (hy : ∀ y ∈ ys, 0 ≤ y ∧ y < 1000000271) (hh : hi ≤ w.heap.size) (hh' : hi' ≤ w.heap.size) (hn : 0 < n) (hn2 : n ≤ 8) (hf : FullF n xss ys) :
    Calls Tryz.prog 76 #[.slice (some ⟨gr, 0, none⟩) n rc, .slice (some ⟨gt, 0, none⟩) n tc] w fun e w' => ∃ C cc, e = .returned (.tuple #[.slice C n cc, .bool true]) ∧ OwnI w' w.heap.size w'.heap.size C n cc (solF n xss ys) ∧ Below w.heap.size w w' := by
  obtain ⟨i0, hi0, hz0, hz1, hz2⟩ := info_parts info_int
  have hcr := h.cap
  have hmr := h.max
  have hct := ht.cap
  have hmt := ht.max
  have HAL := hide fun W (hW : ∃ q, W = w.drewN q) => spec_l1All (some ⟨gt, 0, none⟩) n tc ys lo' hi' W (by obtain ⟨q, rfl⟩ := hW; exact ht.same (fun _ _ _ => rfl))
  have hay : allNumF ys = true := allNumF_of hy
  rw [hay] at HAL
  obtain ⟨ad, B0, m0, d0, xs0, e, hc0, hI0, hd0, hx0⟩ := h.at_ (k := 0) hn
  injection e with e
  subst e
  obtain rfl : n = m0 := by rw [← hI0.len]; exact ((numF_row hN hx0.out).1).symm
  have hc0' : w.cell? ⟨gr, 0, none⟩ = some (.slice B0 n d0) := by simpa [Addr.add_lit] using hc0
  have hcd0 := hI0.cap
  have hmd0 := hI0.max
  have HL1 := hide (spec_l1Rows gr n rc xss lo hi n w h hN hn hn2 hn hn2)
  have HCP := hide fun (W : World) (hW : ∃ q, W = w.drewN q) => spec_l1Copy gr n rc n xss lo hi W (h.same (by obtain ⟨q, rfl⟩ := hW; exact fun _ _ _ => rfl)) hN (by obtain ⟨q, rfl⟩ := hW; exact hh) hn2 hn hn2
  have HI := hide h
  have HT := hide ht
  have HN := hide hN
  have HY := hide hy
  have hlx := hide h.len
  have hly := hide ht.len
  have hnb : ((n : Int) != (n : Int)) = false := by simp
  clear h ht hN hy hI0 hd0 hx0 hc0 hay
  go_enter Tryz.func76, Tryz.ntmps76
  go_wp2_with (first
    | (go_at_call 87; refine HL1.out.mono ?_; rintro e w' ⟨rfl, q1, rfl⟩)
    | (go_at_call 54; refine (HAL.out _ ⟨_, rfl⟩).mono ?_; rintro e w' ⟨rfl, rfl⟩)
    | (go_at_call 88; refine (HCP.out _ ⟨_, rfl⟩).mono ?_; rintro e W0 ⟨A0, c0, vs0, rfl, hO0, hb0⟩; obtain ⟨g, rfl, hg1, hg2⟩ := hO0.form hn; have hcb0 := hO0.capb; have hO1 : Hid (RowsO W0 w.heap.size (some ⟨g, 0, none⟩) n c0 vs0 xss) := hO0; have hb1 : Hid (Below w.heap.size w W0) := (below_drewN (Below.refl _ _) q1).trans hb0; have hg1' : w.heap.size ≤ g := hg1; clear hO0 hb0 hg1))
  clear HL1 HCP HAL hc0' hg2
  have hly' := hly.out
  go_loopw [8] (fun i wr => ∃ (j : Nat) (vs : List Value), j ≤ n ∧ i = .int .i64 j ∧ Hid (RowsO wr w.heap.size (some ⟨g, 0, none⟩) n c0 vs (mixR (augF xss ys) xss j)) ∧ Hid (Below w.heap.size w wr)) (fun i _ => n - (intOf i).toNat)
  case atStart => exact ⟨0, vs0, by omega, rfl, by rw [mixR_zero]; exact hO1.out, hb1.out⟩
  case round =>
    clear hO1 hb1
    obtain ⟨j, vs, hj, rfl, hO, hb⟩ := hrel
    have hsz := hb.out.size
    have hal := hide (aug_len hlx.out hly.out)
    by_cases hlt : j < n
    · obtain ⟨ad1, x, e, hcx0, hxr, hdy, hyx⟩ := (HT.out.below hb.out hh').at_ hlt
      injection e with e
      subst e
      have hcx : wr.cell? ⟨gt, j, none⟩ = some (.int .i64 x) := by simpa [Addr.add_lit] using hcx0
      have hx : (mixR (augF xss ys) xss j)[j]? = some (xss.getD j []) := by rw [mixR_at hal.out hlt]; exact getM? (by rw [hlx.out]; exact hlt)
      obtain ⟨xs, hxs⟩ : ∃ xs, xs = xss.getD j [] := ⟨_, rfl⟩
      have hxN := HN.out.row (i := j) (by rw [hlx.out]; exact hlt)
      rw [← hxs] at hx hxN
      have hAug : (augF xss ys)[j]? = some (xs ++ [x]) := aug_at (by rw [hxs]; exact getM? (by rw [hlx.out]; exact hlt)) hyx.out
      obtain ⟨b, d, r1, r2, r3, r4, r5, r6, r7, r8⟩ := hO.out.rowAt hx (by omega)
      obtain ⟨kx, hkx⟩ : ∃ kx, kx = xs.length := ⟨_, rfl⟩
      have hkn : kx = n := by omega
      rw [← hkx] at r1 r2 r4
      obtain rfl : n = kx := hkn.symm
      have hset := mixR_set hal.out hlx.out hlt hAug
      have hrc := hO.out.cell r1
      have hOd := hide hO.out.drew
      have hXd := hide hx
      have hR1 := hide r1
      have hSET := hide hset
      have hg8 := r8 g rfl
      obtain ⟨adt, e, _, hgt, _⟩ := HT.out.cells hn
      injection e with e
      subst e
      simp only at hgt
      have hgtw : gt < wr.heap.size := by omega
      have hgw : g < wr.heap.size := hO.out.olt2 _ rfl
      have hLc : ∀ W, Below wr.heap.size wr W → W.cell? ⟨g, j, none⟩ = some (.slice (some ⟨b, 0, none⟩) n d) ∧ W.cell? ⟨gt, j, none⟩ = some (.int .i64 x) := fun W hW => ⟨(hW.cell (p := ⟨g, j, none⟩) hgw).trans hrc, (hW.cell (p := ⟨gt, j, none⟩) hgtw).trans hcx⟩
      have HSET := hide hset
      have hS0' := hLc _ ((Below.refl _ _).drew)
      have HS1' := hide (hLc _ (((Below.refl wr.heap.size wr).drew).alloc (Nat.le_refl _) (.cells #[.int .i64 x] 3)))
      have HRo : Hid (wr.drew.ownsRow w.heap.size 3 1 (.slice (some ⟨b, 0, none⟩) n d) n (xs.map (Value.int .i64))) := r2
      have hszd : w.heap.size ≤ wr.drew.heap.size := hsz
      have hbd := hide hb.out.drew
      have HCX := hide fun (v1 : World) (hB : Below w.heap.size w v1) => (((hB.cell (p := ⟨gt, j, none⟩) (by show gt < _; omega)).trans (hb.out.cell (p := ⟨gt, j, none⟩) (by show gt < _; omega)).symm).trans hcx : v1.cell? ⟨gt, j, none⟩ = some (.int .i64 x))
      clear hcx0 hdy hyx hx hxN hAug r1 r2 r3 r8 hset hLc hxs hkx hkn
      go_wp2_with fail
      refine wp_region_Z (fun W' => W'.cell? ⟨g, j, none⟩ = some (.slice (some ⟨b, 0, none⟩) n d) ∧ W'.cell? ⟨gt, j, none⟩ = some (.int .i64 x)) 13 (by kernel_rfl) ?_
      obtain ⟨V, hV⟩ : ∃ V, V = wr.drew := ⟨_, rfl⟩
      rw [← hV] at hOd hS0' HS1' HRo hszd hbd ⊢
      have hS0 := hS0'
      have HS1 := HS1'
      clear hS0' HS1' hV hO hb hrc hcx hgtw hgw
      refine wpAnyZ_takeW 0 (.slice (some ⟨g, 0, none⟩) n c0) rfl (by kernel_rfl) (by kernel_rfl) (fun _ _ _ h => h) (by rfl) (fun _ => by go_simp) hS0 ?_
      try simp only [Act.put, List.setIfInBounds_toArray, List.set_cons_zero, List.set_cons_succ]
      refine wpAnyZ_takeW 1 (.int .i64 (j : Int)) rfl (by kernel_rfl) (by kernel_rfl) (fun _ _ _ h => h) (by rfl) (fun _ => by go_simp) hS0 ?_
      try simp only [Act.put, List.setIfInBounds_toArray, List.set_cons_zero, List.set_cons_succ]
      refine wpAnyZ_takeW 2 (.slice (some ⟨g, 0, none⟩) n c0) rfl (by kernel_rfl) (by kernel_rfl) (fun _ _ _ h => h) (by rfl) (fun _ => by go_simp) hS0 ?_
      try simp only [Act.put, List.setIfInBounds_toArray, List.set_cons_zero, List.set_cons_succ]
      refine wpAnyZ_takeW 3 (.int .i64 (j : Int)) rfl (by kernel_rfl) (by kernel_rfl) (fun _ _ _ h => h) (by rfl) (fun _ => by go_simp) hS0 ?_
      try simp only [Act.put, List.setIfInBounds_toArray, List.set_cons_zero, List.set_cons_succ]
      refine wpAnyZ_takeW 4 (.pointer (some ⟨g, j, none⟩)) rfl (by kernel_rfl) (by kernel_rfl) (fun _ _ _ h => h) (by rfl) (fun _ => by go_simp) hS0 ?_
      try simp only [Act.put, List.setIfInBounds_toArray, List.set_cons_zero, List.set_cons_succ]
      refine wpAnyZ_take 5 (.slice (some ⟨b, 0, none⟩) n d) rfl (by kernel_rfl) (by kernel_rfl) (fun _ _ _ h => h) (by rfl) (fun _ hS => by have q0 := hS.1; clear hS; go_simp) hS0 ?_
      try simp only [Act.put, List.setIfInBounds_toArray, List.set_cons_zero, List.set_cons_succ]
      refine wpAnyZ_takeW 6 (.slice (some ⟨gt, 0, none⟩) n tc) rfl (by kernel_rfl) (by kernel_rfl) (fun _ _ _ h => h) (by rfl) (fun _ => by go_simp) hS0 ?_
      try simp only [Act.put, List.setIfInBounds_toArray, List.set_cons_zero, List.set_cons_succ]
      refine wpAnyZ_takeW 7 (.int .i64 (j : Int)) rfl (by kernel_rfl) (by kernel_rfl) (fun _ _ _ h => h) (by rfl) (fun _ => by go_simp) hS0 ?_
      try simp only [Act.put, List.setIfInBounds_toArray, List.set_cons_zero, List.set_cons_succ]
      refine wpAnyZ_takeW 8 (.pointer (some ⟨gt, j, none⟩)) rfl (by kernel_rfl) (by kernel_rfl) (fun _ _ _ h => h) (by rfl) (fun _ => by go_simp) hS0 ?_
      try simp only [Act.put, List.setIfInBounds_toArray, List.set_cons_zero, List.set_cons_succ]
      refine wpAnyZ_take 9 (.int .i64 x) rfl (by kernel_rfl) (by kernel_rfl) (fun _ _ _ h => h) (by rfl) (fun _ hS => by have q0 := hS.2; clear hS; go_simp) hS0 ?_
      try simp only [Act.put, List.setIfInBounds_toArray, List.set_cons_zero, List.set_cons_succ]
      refine wpAnyZ_one 10 (by kernel_rfl) rfl (by rfl) (fun K hK => ?_)
      go_simp
      refine hK.out _ _ HS1.out ?_
      clear hK K
      try simp only [Act.put, List.setIfInBounds_toArray, List.set_cons_zero, List.set_cons_succ]
      refine wpAnyZ_one 11 (by kernel_rfl) rfl (by rfl) (fun K hK => ?_)
      refine owp_appS (.tmp 44) (.tmp 49) 22 rfl w.heap.size 3 i0 (.int .i64 0) 1 8 Tryz.underlying22 hi0 hz0 hz1 hz2 rfl (by omega) V #[.int .i64 x] _ rfl (some ⟨b, 0, none⟩) n d 1 (xs.map (Value.int .i64)) rfl rfl HRo.out rfl (by simp [Value.oneCell']) (by omega) (by omega) hszd ?_
      intro A3 c3 w5 happ hlt3
      obtain ⟨mc, mf⟩ := hOd.out.mid hR1.out happ
      have HG := hide (hOd.out.grow hXd.out hR1.out happ hxr)
      rw [HSET.out] at HG
      have b5 := hide (happ.low hbd.out hszd (Nat.le_refl _) HRo.out)
      have hS2 := And.intro mc (HCX.out _ b5.out)
      clear happ HS1
      refine hK.out _ _ hS2 ?_
      clear hK K
      try simp only [Act.put, List.setIfInBounds_toArray, List.set_cons_zero, List.set_cons_succ]
      refine wpAnyZ_takeW 12 (.pointer (some ⟨g, j, none⟩)) rfl (by kernel_rfl) (by kernel_rfl) (fun _ _ _ h => h) (by rfl) (fun _ => by go_simp) hS2 ?_
      try simp only [Act.put, List.setIfInBounds_toArray, List.set_cons_zero, List.set_cons_succ]
      refine wpAnyZ_last (by kernel_rfl) rfl (by kernel_rfl) (by rfl) (fun K hK => ?_)
      go_simp
      refine hK _ _ ?_
      clear hK K
      go_wp2_with fail
      go_roundw
      case rel => exact ⟨j + 1, _, by omega, by go_num, HG.out, b5.out.setCell hg1' _⟩
      case measure => simp [intOf]; omega
    · obtain rfl : n = j := by omega
      have hO2 := hO.out
      rw [mixR_all hal.out hlx.out] at hO2
      have hcb := hO2.capb
      have HRR := hide (spec_l1Reduce w.heap.size wr.heap.size g n c0 (n + 1) n vs _ wr (hO2.mat (aug_num HN.out hlx.out hly.out HY.out)) hg1' (Nat.le_refl _) hn2 (by omega) (by omega) (by omega))
      have hmk := make_ints n (by omega)
      have hMl := hide ((red_len n 0 (augF xss ys) []).trans (aug_len hlx.out hly.out))
      obtain ⟨sol, hsol⟩ : ∃ v, v = solF n xss ys := ⟨_, rfl⟩
      have hsl : Hid (sol.length = n) := by rw [hsol]; exact sol_len hlx.out hly.out
      have HS0 := hide hsol
      have HSOL : Hid (sol = (redF n 0 (augF xss ys) []).1.map fun x => x.getD n 0) := hsol
      have HF := hide hf
      clear hO hO2 hsol hf hly' hal
      go_wp2_with (go_at_call 89; refine HRR.out.mono ?_; rintro e w1 ⟨A1, m1, d1, vs1, rfl, hR⟩; obtain ⟨rfl, hS⟩ := SolS.start hR HF.out hn2 rfl; have hcb1 := hR.own.capb; have HS := hide hS; have hw1 := hide (hR.mat.low.size); clear hR hS)
      generalize (redF n 0 (augF xss ys) []).1 = Mr at HS hMl HSOL
      clear HRR HF hmk
      go_loopw [11] (fun i wr2 => ∃ (q : Nat), q ≤ n ∧ i = .int .i64 q ∧ SolS wr wr2 w.heap.size wr.heap.size g n c0 (n + 1) vs1 Mr w1.heap.size A1 d1 (mixL sol (List.replicate n 0) q)) (fun i _ => n - (intOf i).toNat)
      case atStart => exact ⟨0, by omega, rfl, by rw [mixL_zero]; exact HS.out⟩
      case round =>
        obtain ⟨q, hq, rfl, hS⟩ := hrel
        by_cases hlt2 : q < n
        · obtain ⟨b, db, r1, r2, r3, r4, r5, r6, r7⟩ := hS.mat.row hlt2 (Nat.succ_pos n)
          obtain ⟨e1, e2, e3, e4⟩ := hS.mat.cell r2 hlt2 (Nat.lt_succ_self n)
          obtain ⟨ad, x, e, hpc0, hpr, _, hpx⟩ := hS.piv.ints.at_ hlt2
          obtain ⟨ga, hA1, hga1, hga2, _⟩ := hS.piv.form hn
          subst hA1
          injection e with e
          subst e
          obtain rfl : (q : Int) = x := by have := hpx.out; rw [idxL_at hlt2] at this; injection this
          have hpc : wr.cell? ⟨ga, q, none⟩ = some (.int .i64 (q : Int)) := by simpa [Addr.add_lit] using hpc0
          have hfo := hS.out.own.frozenAt q
          obtain ⟨ov, hov⟩ : ∃ v, ((mixL sol (List.replicate n 0) q).map (Value.int .i64))[q]? = some v := ⟨_, List.getElem?_eq_getElem (by have := mixL_len hsl.out (List.length_replicate (n := n) (a := (0 : Int))) (Nat.le_of_lt hlt2); simp; omega)⟩
          have hco := (hS.out.own.cellAt q (by omega)).trans hov
          clear hov
          have hsx := sol_at (n := n) (i := q) (M := Mr) (by rw [hMl.out]; exact hlt2)
          have hsx2 : sol[q]? = some (atM Mr q n) := by rw [HSOL.out]; exact hsx
          have hSn := hS.set (i := q) (x := atM Mr q n) (Nat.le_trans hb.out.size hw1.out) (by constructor <;> omega)
          rw [mixL_set hsl.out (List.length_replicate ..) hlt2 hsx2] at hSn
          have HSN := hide hSn.drew
          obtain ⟨k1, hk1, hlk⟩ : ∃ k1, k1 = n + 1 ∧ n < k1 := ⟨_, rfl, Nat.lt_succ_self n⟩
          rw [← hk1] at r1 r3
          clear hpc0 hpx hpr hsx hsx2 hSn hS HS r2 e2 e3 e4 hk1
          go_wp2_with fail
          refine still_tail 13 (by kernel_rfl) (by kernel_rfl) ?_
          simp only [List.take_succ_cons, List.take_zero, List.drop_succ_cons, List.drop_zero]
          repeat still_step
          refine wpStill_nil ?_
          go_wp2_with fail
          go_roundw
          case rel => exact ⟨q + 1, by omega, by go_num, HSN.out⟩
          case measure => simp [intOf]; omega
        · obtain rfl : n = q := by omega
          rw [mixL_all hsl.out (List.length_replicate ..)] at hS
          have hbw := hb.out.trans hS.mat.low
          have hge := Nat.le_trans hb.out.size hw1.out
          have hO := hS.out.wide (lo' := w.heap.size) (hi' := wr.heap.size) hge (by obtain ⟨_, e, _, _, h3⟩ := hS.out.form hn; injection e with e; injection e with e; subst e; exact h3)
          rw [HS0.out] at hO
          clear hS HS
          have HO := hide hO
          clear hO
          go_wp2_with fail
          refine bodyPost_ret (v := .tuple #[.slice (some ⟨w1.heap.size, 0, none⟩) n n, .bool true]) (by simp [results, Tryz.results76, go_sem]) rfl ⟨_, _, rfl, HO.out, hbw⟩
end Go.Proofs.YtfijcieponfcpaaGreatDoor
/- Weights of nodes: the reference's walk. -/
namespace Go.Proofs.YtfijcieponfcpaaGreatDoor
open Go.RowKit
set_option linter.unusedSimpArgs false
set_option linter.unusedVariables false
set_option maxRecDepth 20000

set_option maxRecDepth 100000 in
set_option maxHeartbeats 4000000 in
theorem spec_l6Powers (A : Option Addr) (n c : Nat) (xs : List Int) (e0 : Int) (lo hi : Nat) (w : World) (h : Ints w lo hi A n c xs) (hh : hi ≤ w.heap.size) (hn2 : n ≤ 8) (he : R64 e0) :
    Calls Tryz.prog 74 #[.slice A n c, .int .i64 e0] w fun e w' => ∃ R d, e = .returned (.slice R n d) ∧ OwnI w' w.heap.size w'.heap.size R n d (powRow xs e0) ∧ Below w.heap.size w w' := by
  obtain ⟨i0, hi0, hz0, hz1, hz2⟩ := info_parts info_int
  have hcp := h.cap
  have hm := h.max
  have HI := hide h
  have hlx := hide h.len
  have HE := hide he
  have own0 := hide (World.ownsRow_lit (size := 1) (e := 3) (base := w.heap.size) w #[] 0 (Nat.le_refl _) (by unfold maxLen; omega) rfl)
  have b0 := hide (below_alloc w (.cells #[] 3))
  clear h he
  go_enter Tryz.func74, Tryz.ntmps74
  go_wp2_with fail
  go_loopw [5, 6] (fun p i wr => ∃ (j : Nat) (R : Option Addr) (d : Nat), j ≤ n ∧ i = .int .i64 j ∧ p = .slice R j d ∧ Hid (wr.ownsRow w.heap.size 3 1 (.slice R j d) j (((powRow xs e0).take j).map (Value.int .i64))) ∧ Hid (Below w.heap.size w wr)) (fun _ i _ => n - (intOf i).toNat)
  case atStart => exact ⟨0, _, 0, by omega, rfl, rfl, by show World.ownsRow _ _ _ _ _ _ _; simpa using own0.out, b0.out⟩
  case round =>
    obtain ⟨j, R, d, hj, rfl, rfl, hO, hb⟩ := hrel
    have hsz := hb.out.size
    by_cases hlt : j < n
    · obtain ⟨ad, x, rfl, hc, hxr, hdx, hx⟩ := (HI.out.below hb.out hh).at_ hlt
      have HPW := hide fun W => spec_Power x e0 W hxr HE.out
      have hpb := powF_bd x e0
      have hT : Hid ((powRow xs e0).take j ++ [powF x e0] = (powRow xs e0).take (j + 1)) := take_snoc0 (powRow_at hx.out)
      have hpr : R64 (powF x e0) := by constructor <;> omega
      clear hdx hx
      go_wp2_with (first
        | (go_at_call 75; refine (HPW.out _).mono ?_; rintro e w' ⟨rfl, rfl⟩)
        | (at_builtin; refine wpl_app1 rfl (.tmp 14) (.tmp 21) 22 rfl w.heap.size 3 i0 (.int .i64 0) 1 8 Tryz.underlying22 hi0 hz0 hz1 hz2 rfl (by omega) wr #[.int .i64 (powF x e0)] R j d 1 _ rfl rfl hO.out rfl (by simp [Value.oneCell']) (by omega) (by omega) hsz ?_; intro R2 d2 w5 happ hlt3))
      have hO5 : Hid (w5.ownsRow w.heap.size 3 1 (.slice R2 (j + 1) d2) (j + 1) (((powRow xs e0).take (j + 1)).map (Value.int .i64))) := by
        show World.ownsRow _ _ _ _ _ _ _
        rw [← hT.out, List.map_append]
        exact happ.1
      have hb5 := happ.low hb.out hsz (Nat.le_refl _) hO.out
      refine ⟨⟨j + 1, R2, d2, by omega, by go_num, rfl, hO5.out, hb5⟩, ?_⟩
      simp [intOf]; omega
    · obtain rfl : n = j := by omega
      have hO2 := hO.out
      rw [List.take_of_length_le (by simp [powRow, hlx.out])] at hO2
      have HO := hide hO2
      clear hO hO2
      go_wp2_with fail
      go_ret
      exact ⟨R, d, rfl, ⟨HO.out, fun ad e => (owns_lt HO.out ad e).2, powRow_rng _ _⟩, hb.out⟩

set_option maxRecDepth 100000 in
set_option maxHeartbeats 4000000 in
theorem spec_l7Weights (A0 : Option Addr) (n c : Nat) (xs : List Int) (a0 : Int) (lo hi : Nat) (w : World) (h : Ints w lo hi A0 n c xs) (hh : hi ≤ w.heap.size) (hn : 0 < n) (hn2 : n ≤ 8) (ha : R64 a0) (hf : FullF n (vanM xs n) (goalL (powGoal a0) n)) :
    Calls Tryz.prog 51 #[.slice A0 n c, .int .i64 a0] w fun e w' => ∃ R d, e = .returned (.slice R n d) ∧ OwnI w' w.heap.size w'.heap.size R n d (solF n (vanM xs n) (goalL (powGoal a0) n)) ∧ Below w.heap.size w w' := by
  obtain ⟨i0, hi0, hz0, hz1, hz2⟩ := info_parts info_int
  obtain ⟨i1, hi1, hy0, hy1, hy2⟩ := info_parts info_ints
  have hcp := h.cap
  have hm := h.max
  have HI := hide h
  have hlx := hide h.len
  have HA := hide ha
  have HF := hide hf
  have s0 := hide (QuS.start w)
  clear h ha hf
  go_enter Tryz.func51, Tryz.ntmps51
  go_wp2_with fail
  go_loopw [5, 6, 7] (fun p g i wr => ∃ (q : Nat) (A : Option Addr) (c' : Nat) (vs : List Value) (G : Option Addr) (d : Nat), q ≤ n ∧ i = .int .i64 ((q : Int) + 1) ∧ p = .slice A q c' ∧ g = .slice G q d ∧ Hid (QuS w wr w.heap.size A q c' vs ((vanM xs n).take q) G q d ((goalL (powGoal a0) n).take q))) (fun _ _ i _ => n + 1 - (intOf i).toNat)
  case atStart => exact ⟨0, _, 0, [], _, 0, by omega, rfl, rfl, by simp, s0.out⟩
  case round =>
    clear s0
    obtain ⟨q, A, c', vs, G, d, hq, rfl, rfl, rfl, hQ⟩ := hrel
    have hsz := hQ.out.low.size
    have hcA := hQ.out.rows.capb
    have hcG := hQ.out.goal.capb
    have hI := HI.out.below hQ.out.low hh
    by_cases hlt : q < n
    · have HPW := hide (spec_l6Powers A0 n c xs (q : Int) lo hi wr hI (by omega) hn2 (by constructor <;> omega))
      have HPP := hide fun W => spec_Power a0 ((q : Int) + 1) W HA.out (by constructor <;> omega)
      have hpb := powF_bd a0 ((q : Int) + 1)
      have HFR := hide fun W => spec_Fraction (powF a0 ((q : Int) + 1)) ((q : Int) + 1) W (by constructor <;> omega) (by constructor <;> omega)
      have hfb := fracF_bd (powF a0 ((q : Int) + 1)) ((q : Int) + 1)
      have hfr : R64 (fracF (powF a0 ((q : Int) + 1)) ((q : Int) + 1)) := by constructor <;> omega
      have hT : Hid ((vanM xs n).take q ++ [powRow xs (q : Int)] = (vanM xs n).take (q + 1)) := take_snoc0 (van_at hlt)
      have hU : Hid ((goalL (powGoal a0) n).take q ++ [fracF (powF a0 ((q : Int) + 1)) ((q : Int) + 1)] = (goalL (powGoal a0) n).take (q + 1)) := take_snoc0 (goal_at (f := powGoal a0) hlt)
      clear hI
      go_wp2_with (first
        | (go_at_call 74; refine HPW.out.mono ?_; rintro e w2 ⟨R2, d2, rfl, hO2, hb2⟩; have HQ2 := hide (hQ.out.below hsz hb2); have hO3 := hide hO2; have hsz2 := Nat.le_trans hsz hb2.size; clear hO2 hb2)
        | (go_at_call 75; refine (HPP.out _).mono ?_; rintro e w' ⟨rfl, rfl⟩)
        | (go_at_call 26; refine (HFR.out _).mono ?_; rintro e w' ⟨rfl, rfl⟩)
        | (at_builtin; refine wpl_app1 rfl (.tmp 18) (.tmp 23) 67 rfl w.heap.size 22 i1 (.slice none 0 0) 1 24 Tryz.underlying67 hi1 hy0 hy1 hy2 rfl (by omega) w2 #[.slice R2 n d2] A q c' 1 _ rfl rfl HQ2.out.rows.own rfl (by simp [Value.oneCell']) (by omega) (by omega) hsz2 ?_; intro A5 c5 w5 happ5 hlt5; have HQ5 := hide (HQ2.out.pushRow hsz2 hO3.out.own hO3.out.rng hsz hQ.out.old happ5); have hsz5 : w.heap.size ≤ w5.heap.size := (by omega); clear happ5)
        | (at_builtin; refine wpl_app1 rfl (.tmp 25) (.tmp 31) 22 rfl w.heap.size 3 i0 (.int .i64 0) 1 8 Tryz.underlying22 hi0 hz0 hz1 hz2 rfl (by omega) w5 #[.int .i64 (fracF (powF a0 ((q : Int) + 1)) ((q : Int) + 1))] G q d 1 _ rfl rfl HQ5.out.goal.own rfl (by simp [Value.oneCell']) (by omega) (by omega) hsz5 ?_; intro A6 c6 w6 happ6 hlt6; have HQ6 := hide (HQ5.out.pushGoal hsz5 hfr happ6); clear happ6))
      rw [hT.out, hU.out] at HQ6
      refine ⟨⟨q + 1, A5, c5, _, A6, c6, by omega, by go_num, rfl, rfl, HQ6.out⟩, ?_⟩
      simp [intOf]; omega
    · obtain rfl : n = q := by omega
      have hQ2 := hQ.out
      rw [List.take_of_length_le (Nat.le_of_eq (van_len xs n)), List.take_of_length_le (Nat.le_of_eq (goal_len _ n))] at hQ2
      obtain ⟨gr, rfl, hr1, hr2⟩ := hQ2.rows.form hn
      obtain ⟨gt, rfl, ht1, ht2, _⟩ := hQ2.goal.form hn
      have hvn := van_num xs n
      rw [hlx.out] at hvn
      have HSS := hide (spec_SolveSystem gr n c' _ gt d _ w.heap.size wr.heap.size w.heap.size wr.heap.size wr hQ2.rows.ints2 hvn hQ2.goal.ints (goal_num fun k => fracF_bd _ _) (Nat.le_refl _) (Nat.le_refl _) hn hn2 HF.out)
      have hbQ := hide hQ2.low
      clear hQ hQ2 hvn hI
      go_wp2_with (go_at_call 76; refine HSS.out.mono ?_; rintro e w3 ⟨C, cc, rfl, hO, hb⟩; have HO := hide (hO.wide (lo' := w.heap.size) hsz (Nat.le_refl _)); have HB := hide (hbQ.out.trans (hb.mono hsz)); clear hO hb)
      go_ret
      exact ⟨C, cc, rfl, HO.out, HB.out⟩
end Go.Proofs.YtfijcieponfcpaaGreatDoor
