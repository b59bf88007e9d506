/- The reduction of a system: the program's walk. -/
import Derived.Test.YtfijcieponfcpaaGreatDoorMgA
namespace Go.Proofs.YtfijcieponfcpaaGreatDoor
open Go.RowKit
set_option linter.unusedSimpArgs false
set_option linter.unusedVariables false
set_option maxRecDepth 20000

structure RedS (w wr : World) (lo hi g n c k : Nat) (vs : List Value) (M : List (List Int)) (sz : Nat) (A : Option Addr) (m d : Nat) (pc : List Int) : Prop where
  mat : MatB w wr lo hi g n c k vs M
  own : OwnI wr w.heap.size sz A m d pc
  siz : wr.heap.size = sz
  hh : hi ≤ w.heap.size
section
variable {w wr : World} {lo hi g n c k : Nat} {vs : List Value} {M : List (List Int)} {sz : Nat} {A : Option Addr} {m d : Nat} {pc : List Int}
theorem RedS.drew (h : RedS w wr lo hi g n c k vs M sz A m d pc) : RedS w wr.drew lo hi g n c k vs M sz A m d pc := ⟨h.mat.drew, h.own.same (fun _ _ _ => rfl), h.siz, h.hh⟩
theorem RedS.setIn (h : RedS w wr lo hi g n c k vs M sz A m d pc) {i j b e : Nat} (hv : vs[i]? = some (.slice (some ⟨b, 0, none⟩) k e)) (hi' : i < n) (hlo : lo ≤ b) (hb : b < hi) {x : Int} (hx : 0 ≤ x ∧ x < 1000000271) :
    RedS w (wr.setCell ⟨b, j, none⟩ (.int .i64 x)) lo hi g n c k vs (M.set i ((M.getD i []).set j x)) sz A m d pc :=
  ⟨h.mat.setIn hv hi' hlo hx, h.own.same (Same.setCell (p := ⟨b, j, none⟩) (Same.refl _ _ _) (.inl (by have := h.hh; show b < w.heap.size; omega)) _), by simpa [World.setCell] using h.siz, h.hh⟩
theorem RedS.swap (h : RedS w wr lo hi g n c k vs M sz A m d pc) {i j : Nat} {u v : Value} (hu : vs[i]? = some u) (hv : vs[j]? = some v) (hi' : i < n) (hj : j < n) (hlo : lo ≤ g) :
    RedS w ((wr.setCell ⟨g, i, none⟩ v).setCell ⟨g, j, none⟩ u) lo hi g n c k ((vs.set i v).set j u) (swapF M i j) sz A m d pc := by
  have hg : g < w.heap.size := by have := h.hh; have := h.mat.glt; omega
  exact ⟨h.mat.swap hu hv hi' hj hlo, h.own.same (Same.setCell (p := ⟨g, j, none⟩) (Same.setCell (p := ⟨g, i, none⟩) (Same.refl _ _ _) (.inl hg) _) (.inl hg) _), by simpa [World.setCell] using h.siz, h.hh⟩
theorem RedS.push (h : RedS w wr lo hi g n c k vs M sz A m d pc) {A' : Option Addr} {d' : Nat} {x : Int} {w' : World} (hap : Appended wr w.heap.size 3 1 A m d A' (m + 1) d' (pc.map (Value.int .i64) ++ (#[Value.int .i64 x] : Array Value).toList) w') (hx : R64 x) (hlo : lo ≤ g) :
    RedS w w' lo hi g n c k vs M w'.heap.size A' (m + 1) d' (pc ++ [x]) := by
  have hg := h.mat.glt
  have hh := h.hh
  have hb := hap.low (Below.refl lo wr) (by have := h.mat.low.size; omega) (by omega) h.own.own
  refine ⟨h.mat.keep (fun b hb' => hap.2.1.block b (by have := h.mat.low.size; omega) (fun e => ?_)) hb, ⟨by simpa using hap.1, fun ad e => (owns_lt hap.1 ad e).2, fun y hy => ?_⟩, rfl, hh⟩
  · have := (h.own.own.lt b e.symm).1
    omega
  · rcases List.mem_append.1 hy with hy | hy
    · exact h.own.rng y hy
    · obtain rfl : y = x := by simpa using hy
      exact hx
end

set_option maxRecDepth 100000 in
set_option maxHeartbeats 16000000 in
theorem impl_reduceRows (lo hi g n c k cols : Nat) (vs : List Value) (M : List (List Int)) (w : World) (h : MatB w w lo hi g n c k vs M) (hlo : lo ≤ g) (hh : hi ≤ w.heap.size) (hn2 : n ≤ 8) (hk : cols ≤ k) (hk0 : 0 < k) (hk2 : k ≤ 9) :
    Calls Tryz.prog 99 #[.slice (some ⟨g, 0, none⟩) n c, .int .i64 (cols : Int)] w fun e w' => ∃ A m d vs', e = .returned (.slice A m d) ∧ RedS w w' lo hi g n c k vs' (redF cols 0 M []).1 w'.heap.size A m d (redF cols 0 M []).2 := by
  obtain ⟨i0, hi0, hz0, hz1, hz2⟩ := info_parts info_int
  have hcb := h.rows.capb
  have s0 : RedS w (w.alloc (.cells #[] 3)) lo hi g n c k vs M (w.alloc (.cells #[] 3)).heap.size (some ⟨w.heap.size, 0, none⟩) 0 0 [] := by
    have hb := below_alloc w (.cells #[] 3)
    refine ⟨h.keep (fun b hb' => hb.block b (by omega)) (hb.mono (by have := h.glt; omega)), ⟨by simpa using World.ownsRow_lit (size := 1) (e := 3) (base := w.heap.size) w #[] 0 (Nat.le_refl _) (by unfold maxLen; omega) rfl, fun ad e => by injection e with e; subst e; simp, by simp⟩, rfl, hh⟩
  have hml := h.len
  clear h
  go_enter Tryz.func99, Tryz.ntmps99
  go_wp2_with fail
  generalize w.alloc (.cells #[] 3) = W at s0 ⊢
  go_loopw [5, 6] (fun p i wr => ∃ (cc m d : Nat) (A : Option Addr) (vs : List Value) (Mc : List (List Int)) (pc : List Int), cc ≤ cols ∧ i = .int .i64 cc ∧ p = .slice A m d ∧ m ≤ n ∧ RedS w wr lo hi g n c k vs Mc wr.heap.size A m d pc ∧ Hid (redF cols 0 M [] = redF (cols - cc) cc Mc pc))
    (fun _ i _ => cols - (intOf i).toNat)
  case atStart => exact ⟨0, 0, 0, _, vs, M, [], by omega, rfl, rfl, by omega, by rw [s0.siz]; exact s0, rfl⟩
  case round =>
    clear s0
    obtain ⟨cc, m, d, A, vs, Mc, pc, hcc, rfl, rfl, hm, hS, hR⟩ := hrel
    have hpl := hS.own.len
    have hdb := hS.own.capb
    have hMl := hS.mat.len
    by_cases hlt : cc < cols
    · have HS := hide hS
      have HPL := hide hpl
      have HML := hide hMl
      clear hS hpl hMl
      go_wp2_with fail
      go_loop [7] (fun i => ∃ (a : Nat), m ≤ a ∧ a ≤ n ∧ i = .int .i64 a ∧ Hid (pivF Mc cc (n - m) m = pivF Mc cc (n - a) a)) (fun i => n - (intOf i).toNat)
      case atStart => exact ⟨m, by omega, by omega, rfl, rfl⟩
      case round =>
        obtain ⟨a, ha1, ha2, rfl, hp⟩ := hrel
        by_cases hlt2 : a < n
        · obtain ⟨b, db, r1, r2, r3, r4, r5, r6, r7⟩ := HS.out.mat.row hlt2 hk0
          obtain ⟨e1, e2, e3, e4⟩ := HS.out.mat.cell r2 hlt2 (show cc < k by omega)
          by_cases hz : atM Mc a cc = 0
          · have hG : Hid (pivF Mc cc (n - m) m = pivF Mc cc (n - (a + 1)) (a + 1)) := hp.out.trans (piv_step hlt2 hz)
            rw [hz] at e1
            clear e3 e4 hz hp r2
            go_wp2_with fail
            go_round
            case rel => exact ⟨a + 1, by omega, by omega, by go_num, hG⟩
            case measure => simp [intOf]; omega
          · have hG : Hid (pivF Mc cc (n - m) m = a) := hp.out.trans (piv_hit hlt2 hz)
            have hne : (atM Mc a cc == 0) = false := by simpa using hz
            have hna : ¬ (a : Int) = n := by omega
            obtain ⟨bt, dt, t1, t2, t3, t4, t5, t6, t7⟩ := HS.out.mat.row (show m < n by omega) hk0
            have f1 := HS.out.mat.fro a
            have f2 := HS.out.mat.fro m
            have hSW := hide (HS.out.swap r2 t2 hlt2 (by omega) hlo)
            clear hp hz
            go_wp2_with fail
            -- SWAP
            refine wp_region_Z (fun _ => True) 15 (by kernel_rfl) ?_
            have hS0 : True := trivial
            have r1d : wr.drew.cell? ⟨g, a, none⟩ = some (.slice (some ⟨b, 0, none⟩) k db) := r1
            have t1d : wr.drew.cell? ⟨g, m, none⟩ = some (.slice (some ⟨bt, 0, none⟩) k dt) := t1
            have f1d : wr.drew.frozen? ⟨g, a, none⟩ = false := f1
            have f2d : wr.drew.frozen? ⟨g, m, none⟩ = false := f2
            have hSWd := hide hSW.out.drew
            have hmn : m < n := by omega
            have hnm : ¬ n ≤ m := by omega
            have hst := (HS.out.mat.rows.own.stored a (.slice (some ⟨bt, 0, none⟩) k dt)).1
            have f3 := hst.frozenAt m
            have t3d := hst.cellAt m (by omega)
            obtain ⟨tv, htv⟩ : ∃ tv, (vs.set a (Value.slice (some ⟨bt, 0, none⟩) k dt))[m]? = some tv := ⟨_, List.getElem?_eq_getElem (by have := HS.out.mat.rows.vlen; simp; omega)⟩
            rw [htv] at t3d
            clear r1 t1 f1 f2 e1 hSW hst htv
            refine wpAnyZ_takeW 0 (.slice (some ⟨g, 0, none⟩) n c) rfl (by kernel_rfl) (by kernel_rfl) (fun _ _ _ h => h) (by rfl) (fun _ => by go_simp) hS0 ?_
            try simp only [Act.put, List.setIfInBounds_toArray, List.set_cons_zero, List.set_cons_succ]
            refine wpAnyZ_takeW 1 (.int .i64 (a : Int)) rfl (by kernel_rfl) (by kernel_rfl) (fun _ _ _ h => h) (by rfl) (fun _ => by go_simp) hS0 ?_
            try simp only [Act.put, List.setIfInBounds_toArray, List.set_cons_zero, List.set_cons_succ]
            refine wpAnyZ_takeW 2 (.slice (some ⟨g, 0, none⟩) n c) rfl (by kernel_rfl) (by kernel_rfl) (fun _ _ _ h => h) (by rfl) (fun _ => by go_simp) hS0 ?_
            try simp only [Act.put, List.setIfInBounds_toArray, List.set_cons_zero, List.set_cons_succ]
            refine wpAnyZ_takeW 3 (.int .i64 (m : Int)) rfl (by kernel_rfl) (by kernel_rfl) (fun _ _ _ h => h) (by rfl) (fun _ => by go_simp) hS0 ?_
            try simp only [Act.put, List.setIfInBounds_toArray, List.set_cons_zero, List.set_cons_succ]
            refine wpAnyZ_takeW 4 (.slice (some ⟨g, 0, none⟩) n c) rfl (by kernel_rfl) (by kernel_rfl) (fun _ _ _ h => h) (by rfl) (fun _ => by go_simp) hS0 ?_
            try simp only [Act.put, List.setIfInBounds_toArray, List.set_cons_zero, List.set_cons_succ]
            refine wpAnyZ_takeW 5 (.int .i64 (m : Int)) rfl (by kernel_rfl) (by kernel_rfl) (fun _ _ _ h => h) (by rfl) (fun _ => by go_simp) hS0 ?_
            try simp only [Act.put, List.setIfInBounds_toArray, List.set_cons_zero, List.set_cons_succ]
            refine wpAnyZ_takeW 6 (.pointer (some ⟨g, m, none⟩)) rfl (by kernel_rfl) (by kernel_rfl) (fun _ _ _ h => h) (by rfl) (fun _ => by go_simp) hS0 ?_
            try simp only [Act.put, List.setIfInBounds_toArray, List.set_cons_zero, List.set_cons_succ]
            refine wpAnyZ_takeW 8 (.slice (some ⟨g, 0, none⟩) n c) rfl (by kernel_rfl) (by kernel_rfl) (fun _ _ _ h => h) (by rfl) (fun _ => by go_simp) hS0 ?_
            try simp only [Act.put, List.setIfInBounds_toArray, List.set_cons_zero, List.set_cons_succ]
            refine wpAnyZ_takeW 9 (.int .i64 (a : Int)) rfl (by kernel_rfl) (by kernel_rfl) (fun _ _ _ h => h) (by rfl) (fun _ => by go_simp) hS0 ?_
            try simp only [Act.put, List.setIfInBounds_toArray, List.set_cons_zero, List.set_cons_succ]
            refine wpAnyZ_takeW 10 (.pointer (some ⟨g, a, none⟩)) rfl (by kernel_rfl) (by kernel_rfl) (fun _ _ _ h => h) (by rfl) (fun _ => by go_simp) hS0 ?_
            try simp only [Act.put, List.setIfInBounds_toArray, List.set_cons_zero, List.set_cons_succ]
            refine wpAnyZ_two 7 11 (by kernel_rfl) rfl rfl (by rfl) (by rfl) (fun K hK => ?_) (fun K hK => ?_)
            case' refine_1 =>
              go_simp
              refine hK.out _ _ hS0 ?_
              clear hK K 
              try simp only [Act.put, List.setIfInBounds_toArray, List.set_cons_zero, List.set_cons_succ]
              refine wpAnyZ_one 11 (by kernel_rfl) rfl (by rfl) (fun K hK => ?_)
              go_simp
              refine hK.out _ _ hS0 ?_
              clear hK K 
              try simp only [Act.put, List.setIfInBounds_toArray, List.set_cons_zero, List.set_cons_succ]
              refine wpAnyZ_takeW 12 (.pointer (some ⟨g, a, none⟩)) rfl (by kernel_rfl) (by kernel_rfl) (fun _ _ _ h => h) (by rfl) (fun _ => by go_simp) hS0 ?_
              try simp only [Act.put, List.setIfInBounds_toArray, List.set_cons_zero, List.set_cons_succ]
              refine wpAnyZ_one 13 (by kernel_rfl) rfl (by rfl) (fun K hK => ?_)
              go_simp
              refine hK.out _ _ trivial ?_
              clear hK K
              try simp only [Act.put, List.setIfInBounds_toArray, List.set_cons_zero, List.set_cons_succ]
              refine wpAnyZ_takeW 14 (.pointer (some ⟨g, m, none⟩)) rfl (by kernel_rfl) (by kernel_rfl) (fun _ _ _ h => h) (by rfl) (fun _ => by go_simp) trivial ?_
              try simp only [Act.put, List.setIfInBounds_toArray, List.set_cons_zero, List.set_cons_succ]
              refine wpAnyZ_last (by kernel_rfl) rfl (by kernel_rfl) (by rfl) (fun K hK => ?_)
              go_simp
              refine hK _ _ ?_
              clear hK K
              clear t3d f3
            case' refine_2 =>
              go_simp
              refine hK.out _ _ hS0 ?_
              clear hK K 
              try simp only [Act.put, List.setIfInBounds_toArray, List.set_cons_zero, List.set_cons_succ]
              refine wpAnyZ_one 7 (by kernel_rfl) rfl (by rfl) (fun K hK => ?_)
              go_simp
              refine hK.out _ _ hS0 ?_
              clear hK K 
              try simp only [Act.put, List.setIfInBounds_toArray, List.set_cons_zero, List.set_cons_succ]
              refine wpAnyZ_takeW 12 (.pointer (some ⟨g, a, none⟩)) rfl (by kernel_rfl) (by kernel_rfl) (fun _ _ _ h => h) (by rfl) (fun _ => by go_simp) hS0 ?_
              try simp only [Act.put, List.setIfInBounds_toArray, List.set_cons_zero, List.set_cons_succ]
              refine wpAnyZ_one 13 (by kernel_rfl) rfl (by rfl) (fun K hK => ?_)
              go_simp
              refine hK.out _ _ trivial ?_
              clear hK K
              try simp only [Act.put, List.setIfInBounds_toArray, List.set_cons_zero, List.set_cons_succ]
              refine wpAnyZ_takeW 14 (.pointer (some ⟨g, m, none⟩)) rfl (by kernel_rfl) (by kernel_rfl) (fun _ _ _ h => h) (by rfl) (fun _ => by go_simp) trivial ?_
              try simp only [Act.put, List.setIfInBounds_toArray, List.set_cons_zero, List.set_cons_succ]
              refine wpAnyZ_last (by kernel_rfl) rfl (by kernel_rfl) (by rfl) (fun K hK => ?_)
              go_simp
              refine hK _ _ ?_
              clear hK K
              clear t3d f3
            -- SWAPPED
            all_goals
              clear r1d t1d f1d f2d r3 r4 r5 r6 r7 t3 t4 t5 t6 t7 e2 e3 e4 hcc ha1 ha2 hna hnm
              generalize ((wr.setCell ⟨g, a, none⟩ (.slice (some ⟨bt, 0, none⟩) k dt)).setCell ⟨g, m, none⟩ (.slice (some ⟨b, 0, none⟩) k db)).drew = V at hSWd ⊢
              obtain ⟨vs1, hv1⟩ : ∃ v, v = (vs.set a (Value.slice (some ⟨bt, 0, none⟩) k dt)).set m (Value.slice (some ⟨b, 0, none⟩) k db) := ⟨_, rfl⟩
              obtain ⟨M1, hM1⟩ : ∃ v, v = swapF Mc a m := ⟨_, rfl⟩
              rw [← hv1, ← hM1] at hSWd
              obtain ⟨sz, hsz⟩ : ∃ s, s = wr.heap.size := ⟨_, rfl⟩
              rw [← hsz] at hSWd
              clear hsz
              have HM1 := hide hM1
              clear hv1 hM1 r2 t2
              obtain ⟨b1, d1, q1, q2, q3, q4, q5, q6, q7⟩ := hSWd.out.mat.row hmn hk0
              obtain ⟨y1, y2, y3, y4⟩ := hSWd.out.mat.cell q2 hmn (show cc < k by omega)
              have hrx : R64 (atM M1 m cc) := by constructor <;> omega
              obtain ⟨x, hx⟩ : ∃ x, x = invF (atM M1 m cc) := ⟨_, rfl⟩
              have hxb := invF_bd (atM M1 m cc)
              have hI : Hid (∀ W, Calls Tryz.prog 70 #[.int .i64 (atM M1 m cc)] W fun e w' => e = .returned (.int .i64 x) ∧ W = w') := fun W => by rw [hx]; exact impl_Inverse _ W hrx
              rw [← hx] at hxb
              have HX := hide hx
              have HRX := hide (show R64 x by constructor <;> omega)
              clear hrx hx y2 y3 y4
              go_wp2_with (go_at_call 70; refine (hI.out _).mono ?_; rintro e w' ⟨rfl, rfl⟩)
              clear y1 q1 hI
              go_loopw [71] (fun i wr2 => ∃ (j : Nat), j ≤ k ∧ i = .int .i64 j ∧ RedS w wr2 lo hi g n c k vs1 (M1.set m (mixL (scalRowF x (M1.getD m [])) (M1.getD m []) j)) sz A m d pc) (fun i _ => k - (intOf i).toNat)
              case atStart =>
                refine ⟨0, by omega, rfl, ?_⟩
                rw [mixL_zero, mat_self (by rw [hSWd.out.mat.len]; exact hmn)]
                exact hSWd.out
              case round =>
                obtain ⟨j, hj, rfl, hT⟩ := hrel
                by_cases hlt3 : j < k
                · have hMl := hT.mat.len
                  rw [List.length_set] at hMl
                  have hr0 := hSWd.out.mat.num.row (i := m) (by omega)
                  have p1 := hT.mat.rows.cell q2
                  obtain ⟨p2, p3, p4, p5⟩ := hT.mat.cell q2 hmn hlt3
                  obtain ⟨y, hy⟩ : ∃ y, y = (M1.getD m []).getD j 0 := ⟨_, rfl⟩
                  rw [mat_at (by omega) (num_scale x hr0.1).1 hlt3, ← hy] at p2 p4 p5
                  have hry : R64 y := by constructor <;> omega
                  have hsc := scale_at (x := x) hr0.1 hlt3
                  rw [← hy] at hsc
                  have hN := hT.setIn (j := j) q2 hmn q6 q5 (timesF_bd y x)
                  rw [mat_step (by omega) (num_scale x hr0.1).1 hr0.1 hlt3 hsc] at hN
                  have HN := hide hN.drew
                  have HT := hide (impl_Times y x)
                  clear hT hr0 hy hsc hN p4 p5
                  go_wp2_with fail
                  refine still_tail 15 (by kernel_rfl) (by kernel_rfl) ?_
                  simp only [List.take_succ_cons, List.take_zero, List.drop_succ_cons, List.drop_zero]
                  repeat still_step
                  still_call (still_same (HT.out _ hry HRX.out))
                  repeat still_step
                  refine wpStill_nil ?_
                  go_wp2_with fail
                  go_roundw
                  case rel => exact ⟨j + 1, by omega, by go_num, HN.out⟩
                  case measure => simp [intOf]; omega
                · obtain rfl : k = j := by omega
                  have hr0 := hSWd.out.mat.num.row (i := m) (by rw [hSWd.out.mat.len]; exact hmn)
                  rw [mixL_all (num_scale x hr0.1).1 hr0.1] at hT
                  obtain ⟨M2, hM2⟩ : ∃ v, v = M1.set m (scalRowF x (M1.getD m [])) := ⟨_, rfl⟩
                  rw [← hM2] at hT
                  have HM2 := hide hM2
                  have HT := hide hT
                  clear hr0 hT hM2 hSWd
                  go_wp2_with fail
                  go_loopw [92] (fun i wr3 => ∃ (ii : Nat) (Mi : List (List Int)), ii ≤ n ∧ i = .int .i64 ii ∧ RedS w wr3 lo hi g n c k vs1 Mi sz A m d pc ∧ Hid (elimsF cc m n 0 M2 = elimsF cc m (n - ii) ii Mi)) (fun i _ => n - (intOf i).toNat)
                  case atStart => exact ⟨0, M2, by omega, rfl, HT.out, rfl⟩
                  case round =>
                    obtain ⟨ii, Mi, hii, rfl, hU, hE⟩ := hrel
                    clear HT
                    by_cases hlt4 : ii < n
                    · obtain ⟨b2, d2, s1, s2, s3, s4, s5, s6, s7⟩ := hU.mat.row hlt4 hk0
                      obtain ⟨c1, c2, c3, c4⟩ := hU.mat.cell s2 hlt4 (show cc < k by omega)
                      have HU := hide hU
                      by_cases him : ii = m
                      · have hE2 : Hid (elimsF cc m n 0 M2 = elimsF cc m (n - (ii + 1)) (ii + 1) Mi) := hE.out.trans (elims_skip hlt4 (.inl him))
                        subst him
                        clear hU c2 c3 c4 s2 hE
                        go_wp2_with fail
                        go_roundw
                        case rel => exact ⟨_, Mi, by omega, by go_num, HU.out, hE2⟩
                        case measure => simp [intOf]; omega
                      · have hne4 : ((ii : Int) == (m : Int)) = false := by simp; omega
                        by_cases hz4 : atM Mi ii cc = 0
                        · have hE2 : Hid (elimsF cc m n 0 M2 = elimsF cc m (n - (ii + 1)) (ii + 1) Mi) := hE.out.trans (elims_skip hlt4 (.inr hz4))
                          rw [hz4] at c1
                          clear hU c2 c3 c4 s2 hE hz4
                          go_wp2_with fail
                          go_roundw
                          case rel => exact ⟨ii + 1, Mi, by omega, by go_num, HU.out, hE2⟩
                          case measure => simp [intOf]; omega
                        · have hE2 : Hid (elimsF cc m n 0 M2 = elimsF cc m (n - (ii + 1)) (ii + 1) (Mi.set ii (elimF (atM Mi ii cc) (Mi.getD ii []) (Mi.getD m [])))) := hE.out.trans (elims_row hlt4 him hz4)
                          have hz5 : (atM Mi ii cc == 0) = false := by simpa using hz4
                          obtain ⟨mm, hmm⟩ : ∃ v, v = atM Mi ii cc := ⟨_, rfl⟩
                          rw [← hmm] at hE2 c1 c3 c4 hz5
                          have hml2 := hU.mat.len
                          have hri := hU.mat.num.row (i := ii) (by omega)
                          have hrt := hU.mat.num.row (i := m) (by omega)
                          have HRI := hide hri
                          have HRT := hide hrt
                          clear hU c2 hE hz4 hmm hri hrt
                          go_wp2_with fail
                          clear c1 s1 hz5
                          go_loopw [120] (fun i wr4 => ∃ (j : Nat), j ≤ k ∧ i = .int .i64 j ∧ RedS w wr4 lo hi g n c k vs1 (Mi.set ii (mixL (elimF mm (Mi.getD ii []) (Mi.getD m [])) (Mi.getD ii []) j)) sz A m d pc) (fun i _ => k - (intOf i).toNat)
                          case atStart =>
                            refine ⟨0, by omega, rfl, ?_⟩
                            rw [mixL_zero, mat_self (by omega)]
                            exact HU.out
                          case round =>
                            obtain ⟨j, hj, rfl, hT⟩ := hrel
                            by_cases hlt5 : j < k
                            · have p1 := hT.mat.rows.cell s2
                              have p0 := hT.mat.rows.cell q2
                              obtain ⟨u2, u3, u4, u5⟩ := hT.mat.cell s2 hlt4 hlt5
                              obtain ⟨v2, v3, v4, v5⟩ := hT.mat.cell q2 hmn hlt5
                              have hle := (num_elim mm HRI.out.1 HRT.out.1).1
                              have hea := elim_at (m := mm) HRI.out.1 HRT.out.1 hlt5
                              obtain ⟨y, hy⟩ : ∃ y, y = (Mi.getD ii []).getD j 0 := ⟨_, rfl⟩
                              obtain ⟨z, hz⟩ : ∃ z, z = atM Mi m j := ⟨_, rfl⟩
                              rw [mat_at (by omega) hle hlt5, ← hy] at u2 u4 u5
                              rw [mat_other (Ne.symm him), ← hz] at v2 v4 v5
                              rw [← hy, show (Mi.getD m []).getD j 0 = z from hz.symm] at hea
                              have hmz := mul_bd c3 c4 v4 v5
                              have hN := hT.setIn (j := j) s2 hlt4 s6 s5 (minusF_bd y (mm * z))
                              rw [mat_step (by omega) hle HRI.out.1 hlt5 hea] at hN
                              have HN := hide hN.drew
                              have HM := hide (fun W => impl_Minus y (mm * z) W (by constructor <;> omega) (by constructor <;> omega))
                              obtain ⟨p, hp⟩ : ∃ p, p = mm * z := ⟨_, rfl⟩
                              rw [← hp] at HM HN hmz
                              have hwr : IntKind.i64.wrap (mm * z) = p := by rw [← hp]; exact IntWalk.i64_in _ (by omega)
                              clear hT hy hz hea hN u4 u5 v3 hle hp
                              go_wp2_with fail
                              refine still_tail 23 (by kernel_rfl) (by kernel_rfl) ?_
                              simp only [List.take_succ_cons, List.take_zero, List.drop_succ_cons, List.drop_zero]
                              iterate 21 still_step
                              still_call (still_same (HM.out _))
                              still_step
                              refine wpStill_nil ?_
                              go_wp2_with fail
                              go_roundw
                              case rel => exact ⟨j + 1, by omega, by go_num, HN.out⟩
                              case measure => simp [intOf]; omega
                            · obtain rfl : k = j := by omega
                              rw [mixL_all (num_elim mm HRI.out.1 HRT.out.1).1 HRI.out.1] at hT
                              have HT2 := hide hT
                              clear hT
                              go_wp2_with fail
                              go_roundw
                              case rel => exact ⟨ii + 1, _, by omega, by go_num, HT2.out, hE2⟩
                              case measure => simp [intOf]; omega
                    · obtain rfl : n = ii := by omega
                      rw [elims_end] at hE
                      have hS2 : Hid (stepF cc Mc pc = (Mi, pc ++ [(cc : Int)])) := by
                        show _ = _
                        rw [step_some HML.out HPL.out hG.out hlt2, ← HM1.out, ← HX.out, ← HM2.out, hE.out]
                      have hR2 : Hid (redF cols 0 M [] = redF (cols - (cc + 1)) (cc + 1) Mi (pc ++ [(cc : Int)])) := by
                        show _ = _
                        rw [hR.out, red_step hlt, hS2.out]
                      have HU := hide hU
                      have hown := hU.own.own
                      have hmat := hU.mat.low.size
                      have hcr : R64 (cc : Int) := by constructor <;> omega
                      clear hU hE
                      have HR2 := hR2
                      clear hR2 hcb
                      clear hR hS2
                      go_wp2_with (at_builtin; refine wpl_app1 rfl (.tmp 148) (.tmp 150) 22 rfl w.heap.size 3 i0 (.int .i64 0) 1 8 Tryz.underlying22 hi0 hz0 hz1 hz2 rfl (by omega) wr #[.int .i64 (cc : Int)] A m d 1 _ rfl rfl hown rfl (by simp [Value.oneCell']) (by omega) (by omega) hmat ?_; intro A2 d9 w4 happ hlt9)
                      have HN := hide (HU.out.push happ hcr hlo)
                      clear happ hown
                      go_roundw
                      case rel => exact ⟨cc + 1, m + 1, d9, A2, vs1, Mi, pc ++ [(cc : Int)], by omega, by go_num, rfl, by omega, HN.out, HR2⟩
                      case measure => simp [intOf]; omega
        · obtain rfl : a = n := by omega
          have hG : Hid (stepF cc Mc pc = (Mc, pc)) := step_none HML.out HPL.out (hp.out.trans piv_end)
          have hR2 : Hid (redF cols 0 M [] = redF (cols - (cc + 1)) (cc + 1) Mc pc) := by
            show _ = _
            rw [hR.out, red_step hlt, hG.out]
          clear hp hG hR
          go_wp2_with fail
          go_roundw
          case rel => exact ⟨cc + 1, m, d, A, vs, Mc, pc, by omega, by go_num, rfl, hm, HS.out, hR2⟩
          case measure => simp [intOf]; omega
    · obtain rfl : cc = cols := by omega
      have e := red_end (cols := cc) (M := Mc) (p := pc)
      rw [← hR.out] at e
      have HE := hide e
      have HS := hide hS
      clear e hS hR
      go_wp2_with fail
      go_ret
      exact ⟨A, m, d, vs, rfl, by rw [HE.out]; exact HS.out⟩
end Go.Proofs.YtfijcieponfcpaaGreatDoor
