/- Paths turned into jets and back: the program's walks. -/
import Derived.Test.YtkaepjigmcielaaGreatDoorMzL
namespace Go.Proofs.YtkaepjigmcielaaGreatDoor
open Go.RowKit
set_option linter.unusedSimpArgs false
set_option linter.unusedVariables false
set_option maxRecDepth 20000

/-- columns -/
def turnL (xss : List (List Int)) (k : Nat) : List (List Int) := (List.range k).map fun i => xss.map fun r => r.getD i 0
theorem turn_len (xss : List (List Int)) (k : Nat) : (turnL xss k).length = k := by simp [turnL]
theorem turn_at (xss : List (List Int)) {k i : Nat} (h : i < k) : (turnL xss k)[i]? = some (xss.map fun r => r.getD i 0) := by simp [turnL, h]
def mixQ {α : Type} (new old : List α) (j : Nat) : List α := new.take j ++ old.drop j
theorem mixQ_zero {α : Type} (new old : List α) : mixQ new old 0 = old := by simp [mixQ]
theorem mixQ_all {α : Type} {new old : List α} {k : Nat} (h1 : new.length = k) (h2 : old.length = k) : mixQ new old k = new := by simp [mixQ, List.take_of_length_le (Nat.le_of_eq h1), List.drop_eq_nil_of_le (Nat.le_of_eq h2)]
theorem mixQ_set {α : Type} {new old : List α} {k j : Nat} {x : α} (h1 : new.length = k) (h2 : old.length = k) (hj : j < k) (hx : new[j]? = some x) : (mixQ new old j).set j x = mixQ new old (j + 1) := by
  unfold mixQ
  apply List.ext_getElem?
  intro i
  by_cases e : i = j
  · subst e
    rw [List.getElem?_set_self (by simp [h1, h2]; omega), List.getElem?_append_left (by simp; omega), List.getElem?_take_of_lt (by omega), hx]
  · rw [List.getElem?_set_ne (by omega)]
    by_cases e2 : i < j
    · rw [List.getElem?_append_left (by simp; omega), List.getElem?_append_left (by simp; omega), List.getElem?_take_of_lt e2, List.getElem?_take_of_lt (by omega)]
    · rw [List.getElem?_append_right (by simp; omega), List.getElem?_append_right (by simp; omega)]
      simp [h1]
      congr 1
      omega
theorem r64_getDJ {xs : List Int} (h : ∀ x ∈ xs, R64 x) (p : Nat) : R64 (xs.getD p 0) := by
  rw [List.getD]
  cases e : xs[p]? with
  | none => constructor <;> simp
  | some x => exact h x (List.mem_of_getElem? e)
theorem made_nil (n : Nat) : (madeCells #[Value.slice none 0 0] n).toList = List.replicate n (.slice none 0 0) := by
  apply List.ext_getElem?
  intro j
  simp only [madeCells]
  by_cases hj : j < n
  · simp [hj, Nat.mod_one]
  · simp [hj]
theorem Lst.nils (T : TypeId) (w : World) (n : Nat) (hn : n ≤ 1000) : Lst kI T (fun _ => True) (w.alloc (.cells (madeCells #[.slice none 0 0] n) T)) w.heap.size (w.heap.size + 1) (some ⟨w.heap.size, 0, none⟩) n n (List.replicate n (.slice none 0 0)) (List.replicate n []) := by
  have ho := World.ownsRow_lit (size := 1) (e := T) (base := w.heap.size) w (madeCells #[.slice none 0 0] n) n (Nat.le_refl _) (by unfold maxLen; omega) (by rw [← Array.length_toList, made_nil]; simp)
  rw [made_nil] at ho
  refine ⟨ho, fun ad e => by injection e with e; subst e; exact Nat.lt_succ_self _, by simp, fun j x hx _ => ?_⟩
  have hj : j < n := by have := (List.getElem?_eq_some_iff.1 hx).1; simpa using this
  obtain rfl : x = [] := by simpa [hj] using hx.symm
  exact ⟨.slice none 0 0, w.heap.size + 1, w.heap.size + 1, by simp [hj], ⟨none, 0, 0, rfl, Ints.nil_ _ _ _⟩, by omega, Nat.le_refl _, fun ad e => .inr (by injection e with e; subst e; exact Nat.lt_succ_self _)⟩
theorem make_rows (n : Nat) (hn : n ≤ 1000) (W : World) :
    (Instr.makeSlice 26 (.int .i64 (n : Int)) (.int .i64 (n : Int))).run Tryz.prog W = .ok (.slice (some ⟨W.heap.size, 0, none⟩) n n) (W.alloc (.cells (madeCells #[.slice none 0 0] n) 22)) := by
  obtain ⟨i0, hi0, hz0, hz1, hz2⟩ := info_parts info_ints
  have h := run_make (P := Tryz.prog) W 26 22 i0 (.slice none 0 0) Tryz.underlying26 hi0 hz0 .i64 .i64 n n (by omega) (by omega) (by rw [hz2]; omega) (by omega)
  simp only [Int.toNat_natCast, hz1, Nat.mul_one] at h
  exact h

set_option maxRecDepth 100000 in
set_option maxHeartbeats 8000000 in
theorem impl_jets (P : Option Addr) (np cp : Nat) (xss : List (List Int)) (lo hi dim : Nat) (w : World) (hp : Ints2 w lo hi P np cp xss) (hh : hi ≤ w.heap.size) (hL : ∀ r ∈ xss, dim ≤ r.length) (hd0 : 0 < dim) (hd6 : dim ≤ 1000) (hn : np ≤ 1000) :
    Calls Tryz.prog 33 #[.slice P np cp, .int .i64 (dim : Int)] w fun e w' => ∃ gR cR, e = .returned (.slice (some ⟨gR, 0, none⟩) dim cR) ∧ Ints2 w' w.heap.size w'.heap.size (some ⟨gR, 0, none⟩) dim cR (turnL xss dim) ∧ Below w.heap.size w w' := by
  obtain ⟨i0, hi0, hz0, hz1, hz2⟩ := info_parts info_int
  have hcp := hp.cap
  have hmp := hp.max
  have HP := hide hp
  have HLn := hide hL
  have hmk := make_jets dim hd6 w
  have hN := hide ((Lst.nils 55 w dim hd6).wide (hi2 := (w.alloc (.cells (madeCells #[.slice none 0 0] dim) 55)).heap.size) (by simp))
  have hbN := hide (below_alloc w (.cells (madeCells #[.slice none 0 0] dim) 55))
  have htl := hide (turn_len xss dim)
  clear hp hL
  go_enter Tryz.func33, Tryz.ntmps33
  go_wp2_with fail
  clear hmk
  obtain ⟨g, hg⟩ : ∃ g, g = w.heap.size := ⟨_, rfl⟩
  have hgw : Hid (g = w.heap.size) := hg
  generalize w.alloc (.cells (madeCells #[.slice none 0 0] dim) 55) = W0 at hN hbN ⊢
  have hN2 : Hid (Lst kI 55 (fun _ => True) W0 w.heap.size W0.heap.size (some ⟨g, 0, none⟩) dim dim (List.replicate dim (.slice none 0 0)) (mixQ (turnL xss dim) (List.replicate dim []) 0)) := by rw [hg, mixQ_zero]; exact hN.out
  have hV0 : Hid (∀ k, 0 ≤ k → k < dim → (List.replicate dim (Value.slice none 0 0))[k]? = some (Value.slice none 0 0)) := fun k _ hk => by simp [hk]
  rw [← hg]
  clear hN hg
  go_loopw [13] (fun z wr => ∃ (i : Nat) (vs : List Value), i ≤ dim ∧ z = .int .i64 i ∧ Hid (Lst kI 55 (fun _ => True) wr w.heap.size wr.heap.size (some ⟨g, 0, none⟩) dim dim vs (mixQ (turnL xss dim) (List.replicate dim []) i)) ∧ Hid (Below w.heap.size w wr) ∧ Hid (∀ k, i ≤ k → k < dim → vs[k]? = some (Value.slice none 0 0))) (fun z _ => dim - (intOf z).toNat)
  case atStart => exact ⟨0, _, by omega, rfl, hN2.out, hbN.out, hV0.out⟩
  case round =>
    clear hN2 hbN hV0
    obtain ⟨i, vs, hi, rfl, hLs, hbw0, hnil⟩ := hrel
    have hszw := hbw0.out.size
    by_cases hlt : i < dim
    · obtain ⟨row, hrow⟩ : ∃ row, row = xss.map fun r => r.getD i 0 := ⟨_, rfl⟩
      have hrl : Hid (row.length = np) := by show _ = _; rw [hrow, List.length_map, HP.out.len]
      have hta : Hid ((turnL xss dim)[i]? = some row) := by show _ = _; rw [hrow]; exact turn_at xss hlt
      have hvi := hide (hnil.out i (Nat.le_refl _) hlt)
      have hO0 : Hid (wr.ownsRow wr.heap.size 3 1 (.slice none 0 0) 0 ((row.take 0).map (Value.int .i64))) := by
        show World.ownsRow _ _ _ _ _ _ _
        simpa using World.ownsRow_nil _ _ _ _
      have hH0 := hide (hLs.out.imp (P' := fun j => j ≠ i) (fun _ _ => trivial))
      have hnl := hide (fun k (hk : i + 1 ≤ k) (hk2 : k < dim) => hnil.out k (by omega) hk2)
      obtain ⟨hb, hhb⟩ : ∃ hb, hb = wr.heap.size := ⟨_, rfl⟩
      rw [← hhb] at hO0 hH0
      have hbw : w.heap.size ≤ hb := by omega
      have hbr0 : Hid (hb ≤ wr.heap.size) := Nat.le_of_eq hhb
      clear hhb hLs hnil
      have vsR := hide (show ∀ k, k ≠ i → vs[k]? = vs[k]? from fun _ _ => rfl)
      obtain ⟨vs0, hvs0⟩ : ∃ v, v = vs := ⟨_, rfl⟩
      go_wp2_with fail
      go_loopw [18] (fun z wr2 => ∃ (j : Nat) (B : Option Addr) (d : Nat) (vs : List Value), j ≤ np ∧ z = .int .i64 j ∧ Hid (Lst kI 55 (fun k => k ≠ i) wr2 w.heap.size hb (some ⟨g, 0, none⟩) dim dim vs (mixQ (turnL xss dim) (List.replicate dim []) i)) ∧ Hid (vs[i]? = some (.slice B j d)) ∧ Hid (wr2.ownsRow hb 3 1 (.slice B j d) j ((row.take j).map (Value.int .i64))) ∧ Hid (Below w.heap.size w wr2 ∧ hb ≤ wr2.heap.size ∧ ∀ k, k ≠ i → vs[k]? = vs0[k]?)) (fun z _ => np - (intOf z).toNat)
      case atStart => exact ⟨0, none, 0, vs, by omega, rfl, hH0.out, hvi.out, hO0.out, hbw0.out, hbr0.out, fun k _ => by rw [hvs0]⟩
      case round =>
        clear hH0 hvi hO0 hbw0 hbr0
        obtain ⟨j, B, d, vs, hj, rfl, hLs, hvi, hO, hB⟩ := hrel
        by_cases hlt2 : j < np
        · obtain ⟨ap, Br, m2, d2, r, rfl, hcr, hIr, _, hxr⟩ := HP.out.at_ hlt2
          have hrd := HLn.out r (List.mem_of_getElem? hxr.out)
          have hrl2 := hIr.len
          have hcr2 := hIr.cap
          have hmr2 := hIr.max
          obtain ⟨bd, x, rfl, hcx, hx64, _, hxx⟩ := hIr.at_ (k := i) (by omega)
          have hgr := World.block_lt_of_cell? w _ hcr
          have hgx := World.block_lt_of_cell? w _ hcx
          have HCR := hide fun (w' : World) (hB : Below w.heap.size w w') => (hB.cell (p := ap.add j) hgr).trans hcr
          have HCX := hide fun (w' : World) (hB : Below w.heap.size w w') => (hB.cell (p := bd.add i) hgx).trans hcx
          have hT : Hid (row.take j ++ [x] = row.take (j + 1)) := take_snocJ (by rw [hrow, List.getElem?_map, hxr.out]; simp [List.getD, hxx.out])
          have hc4 := HCR.out _ hB.out.1
          have HVS := hide hB.out.2.2
          have HLd := hide hLs.out.drew
          have HOd : Hid (wr.drew.ownsRow hb 3 1 (.slice B j d) j ((row.take j).map (Value.int .i64))) := hO.out
          have HBd := hide hB.out.1.drew
          have hzd : hb ≤ wr.drew.heap.size := hB.out.2.1
          have HV := hide hvi.out
          have hOc : j ≤ d ∧ d ≤ 9223372036854775807 := by
            rcases hO.out.2 with ⟨e, rfl⟩ | ⟨_, _, _, e, _, _, h1, h2, _⟩
            · injection e; omega
            · injection e with _ _ e3; unfold maxLen at h2; omega
          have hvn := hLs.out.vlen
          have him : i < m2 := by omega
          have him2 : ¬ m2 ≤ i := by omega
          have hS0' : Hid (wr.drew.cell? ⟨g, i, none⟩ = some (.slice B j d) ∧ wr.drew.cell? (bd.add i) = some (.int .i64 x)) := ⟨(HLd.out.own.cellAt i (by omega)).trans HV.out, HCX.out _ HBd.out⟩
          have HS1' : Hid ((wr.drew.alloc (.cells #[.int .i64 x] 3)).cell? ⟨g, i, none⟩ = some (.slice B j d) ∧ (wr.drew.alloc (.cells #[.int .i64 x] 3)).cell? (bd.add i) = some (.int .i64 x)) :=
            ⟨((below_alloc wr.drew (.cells #[.int .i64 x] 3)).cell (p := ⟨g, i, none⟩) (World.block_lt_of_cell? _ _ hS0'.out.1)).trans hS0'.out.1, HCX.out _ (HBd.out.alloc (by show w.heap.size ≤ wr.drew.heap.size; omega) _)⟩
          clear hcr hcx hIr hxr hxx hO hB hLs hvi hrd
          go_wp2_with fail
          refine wp_region_Z (fun W' => W'.cell? ⟨g, i, none⟩ = some (.slice B j d) ∧ W'.cell? (bd.add i) = some (.int .i64 x)) 13 (by kernel_rfl) ?_
          obtain ⟨V, hV⟩ : ∃ V, V = wr.drew := ⟨_, rfl⟩
          rw [← hV] at HLd HOd HBd hzd hS0' HS1' ⊢
          have hS0 := hS0'.out
          have HS1 := HS1'
          clear hS0' HS1' hV hc4
          refine wpAnyZ_takeW 0 (.slice (some ⟨g, 0, none⟩) dim dim) rfl (by kernel_rfl) (by kernel_rfl) (fun _ _ _ h => h) (by rfl) (fun _ => by go_simp) hS0 ?_
          try simp only [Act.put, List.setIfInBounds_toArray, List.set_cons_zero, List.set_cons_succ]
          refine wpAnyZ_takeW 1 (.int .i64 (i : Int)) rfl (by kernel_rfl) (by kernel_rfl) (fun _ _ _ h => h) (by rfl) (fun _ => by go_simp) hS0 ?_
          try simp only [Act.put, List.setIfInBounds_toArray, List.set_cons_zero, List.set_cons_succ]
          refine wpAnyZ_takeW 2 (.slice (some ⟨g, 0, none⟩) dim dim) rfl (by kernel_rfl) (by kernel_rfl) (fun _ _ _ h => h) (by rfl) (fun _ => by go_simp) hS0 ?_
          try simp only [Act.put, List.setIfInBounds_toArray, List.set_cons_zero, List.set_cons_succ]
          refine wpAnyZ_takeW 3 (.int .i64 (i : Int)) rfl (by kernel_rfl) (by kernel_rfl) (fun _ _ _ h => h) (by rfl) (fun _ => by go_simp) hS0 ?_
          try simp only [Act.put, List.setIfInBounds_toArray, List.set_cons_zero, List.set_cons_succ]
          refine wpAnyZ_takeW 4 (.pointer (some ⟨g, i, none⟩)) rfl (by kernel_rfl) (by kernel_rfl) (fun _ _ _ h => h) (by rfl) (fun _ => by go_simp) hS0 ?_
          try simp only [Act.put, List.setIfInBounds_toArray, List.set_cons_zero, List.set_cons_succ]
          refine wpAnyZ_take 5 (.slice B j d) rfl (by kernel_rfl) (by kernel_rfl) (fun _ _ _ h => h) (by rfl) (fun _ hS => by have q0 := hS.1; clear hS; go_simp) hS0 ?_
          try simp only [Act.put, List.setIfInBounds_toArray, List.set_cons_zero, List.set_cons_succ]
          refine wpAnyZ_takeW 6 (.slice (some bd) m2 d2) rfl (by kernel_rfl) (by kernel_rfl) (fun _ _ _ h => h) (by rfl) (fun _ => by go_simp) hS0 ?_
          try simp only [Act.put, List.setIfInBounds_toArray, List.set_cons_zero, List.set_cons_succ]
          refine wpAnyZ_takeW 7 (.int .i64 (i : Int)) rfl (by kernel_rfl) (by kernel_rfl) (fun _ _ _ h => h) (by rfl) (fun _ => by go_simp) hS0 ?_
          try simp only [Act.put, List.setIfInBounds_toArray, List.set_cons_zero, List.set_cons_succ]
          refine wpAnyZ_takeW 8 (.pointer (some (bd.add i))) rfl (by kernel_rfl) (by kernel_rfl) (fun _ _ _ h => h) (by rfl) (fun _ => by go_simp) hS0 ?_
          try simp only [Act.put, List.setIfInBounds_toArray, List.set_cons_zero, List.set_cons_succ]
          refine wpAnyZ_take 9 (.int .i64 x) rfl (by kernel_rfl) (by kernel_rfl) (fun _ _ _ h => h) (by rfl) (fun _ hS => by have q0 := hS.2; clear hS; go_simp) hS0 ?_
          try simp only [Act.put, List.setIfInBounds_toArray, List.set_cons_zero, List.set_cons_succ]
          refine wpAnyZ_one 10 (by kernel_rfl) rfl (by rfl) (fun K hK => ?_)
          go_simp
          refine hK.out _ _ HS1.out ?_
          clear hK K
          try simp only [Act.put, List.setIfInBounds_toArray, List.set_cons_zero, List.set_cons_succ]
          refine wpAnyZ_one 11 (by kernel_rfl) rfl (by rfl) (fun K hK => ?_)
          refine owp_appJ (.tmp 27) (.tmp 32) 55 rfl hb 3 i0 (.int .i64 0) 1 8 Tryz.underlying55 hi0 hz0 hz1 hz2 rfl (by omega) V #[.int .i64 x] _ rfl B j d 1 _ rfl rfl HOd.out rfl (by simp [Value.oneCell']) (by omega) (by omega) hzd ?_
          intro A3 c3 w5 happ hlt3
          have b5 := hide (happ.low (Below.refl hb V) hzd (Nat.le_refl _) HOd.out)
          have HL5 := hide (HLd.out.below b5.out (Nat.le_refl _))
          have hO5 : Hid (w5.ownsRow hb 3 1 (.slice A3 (j + 1) c3) (j + 1) ((row.take (j + 1)).map (Value.int .i64))) := by
            show World.ownsRow _ _ _ _ _ _ _
            rw [← hT.out, List.map_append]
            exact happ.1
          have hS2 : w5.cell? ⟨g, i, none⟩ = some (.slice B j d) ∧ w5.cell? (bd.add i) = some (.int .i64 x) := ⟨(HL5.out.own.cellAt i (by omega)).trans HV.out, HCX.out _ (HBd.out.trans (b5.out.mono hbw))⟩
          have f5 := HL5.out.own.frozenAt i
          clear happ HS1
          refine hK.out _ _ hS2 ?_
          clear hK K
          try simp only [Act.put, List.setIfInBounds_toArray, List.set_cons_zero, List.set_cons_succ]
          refine wpAnyZ_takeW 12 (.pointer (some ⟨g, i, none⟩)) rfl (by kernel_rfl) (by kernel_rfl) (fun _ _ _ h => h) (by rfl) (fun _ => by go_simp) hS2 ?_
          try simp only [Act.put, List.setIfInBounds_toArray, List.set_cons_zero, List.set_cons_succ]
          refine wpAnyZ_last (by kernel_rfl) rfl (by kernel_rfl) (by rfl) (fun K hK => ?_)
          go_simp
          refine hK _ _ ?_
          clear hK K
          have hvl := HL5.out.vlen
          have HF := hide (HL5.out.hole (.slice A3 (j + 1) c3))
          have HVn : Hid ((vs.set i (Value.slice A3 (j + 1) c3))[i]? = some (.slice A3 (j + 1) c3)) := List.getElem?_set_self (by omega)
          have hOn : Hid ((w5.setCell ⟨g, i, none⟩ (.slice A3 (j + 1) c3)).ownsRow hb 3 1 (.slice A3 (j + 1) c3) (j + 1) ((row.take (j + 1)).map (Value.int .i64))) := owns_setCell hO5.out (p := ⟨g, i, none⟩) (fun ad e => by
            have h1 := (owns_lt hO5.out ad e).1
            have h2 := HL5.out.lt _ rfl
            show ad.block ≠ g
            simp only at h2
            omega) _
          have bn : Hid (Below w.heap.size w (w5.setCell ⟨g, i, none⟩ (.slice A3 (j + 1) c3)) ∧ hb ≤ (w5.setCell ⟨g, i, none⟩ (.slice A3 (j + 1) c3)).heap.size ∧ ∀ k, k ≠ i → (vs.set i (Value.slice A3 (j + 1) c3))[k]? = vs0[k]?) := ⟨(HBd.out.trans (b5.out.mono hbw)).setCell (p := ⟨g, i, none⟩) (by have := (HL5.out.own.lt g rfl).1; exact this) (.slice A3 (j + 1) c3), by
            have h1 := b5.out.size
            have h2 : (w5.setCell ⟨g, i, none⟩ (.slice A3 (j + 1) c3)).heap.size = w5.heap.size := by simp [World.setCell]
            omega, fun k hk => by rw [List.getElem?_set_ne (Ne.symm hk)]; exact HVS.out k hk⟩
          clear HL5 hO5 b5 hS2 f5
          go_wp2_with fail
          go_roundw
          case rel => exact ⟨j + 1, A3, c3, _, by omega, by go_num, HF.out, HVn.out, hOn.out, bn.out⟩
          case measure => simp [intOf]; omega
        · obtain rfl : np = j := by omega
          have hOw := hO.out
          rw [List.take_of_length_le (Nat.le_of_eq hrl.out)] at hOw
          have hrng : ∀ y ∈ row, R64 y := fun y hy => by
            rw [hrow] at hy
            obtain ⟨r, hr, rfl⟩ := List.mem_map.1 hy
            obtain ⟨q, hq⟩ := List.mem_iff_getElem?.1 hr
            have hq2 := (List.getElem?_eq_some_iff.1 hq).1
            obtain ⟨_, _, _, _, r2, _, _, hIr, _, hx2⟩ := HP.out.at_ (k := q) (by have := HP.out.len; omega)
            have h3 := hx2.out
            rw [hq] at h3
            injection h3 with h3
            subst h3
            exact r64_getDJ hIr.rng i
          have hI : Ints wr hb wr.heap.size B np d row := (⟨hOw, fun ad e => (owns_lt hOw ad e).2, hrng⟩ : OwnI wr hb wr.heap.size B np d row).ints
          have hF := hide (hLs.out.fill (P' := fun _ => True) hvi.out ⟨B, np, d, rfl, hI⟩ (Nat.le_refl hb) hbw (Nat.le_refl _) hB.out.2.1)
          rw [mixQ_set htl.out (List.length_replicate ..) hlt hta.out] at hF
          have hn2 := hide fun k (hk : i + 1 ≤ k) (hk2 : k < dim) => (hB.out.2.2 k (by omega)).trans (hvs0 ▸ hnl.out k hk hk2)
          have hB1 := hide hB.out.1
          clear hLs hvi hO hB hI hOw hrng
          go_wp2_with fail
          go_roundw
          case rel => exact ⟨i + 1, vs, by omega, by go_num, hF.out, hB1.out, hn2.out⟩
          case measure => simp [intOf]; omega
    · obtain rfl : dim = i := by omega
      have hE := hLs.out
      rw [mixQ_all htl.out (List.length_replicate ..)] at hE
      have HE := hide hE.ints2
      clear hE hLs
      go_wp2_with fail
      go_ret
      exact ⟨_, _, rfl, HE.out, hbw0.out⟩

end Go.Proofs.YtkaepjigmcielaaGreatDoor
/- Paths turned into polynomials and back: the reference's walk. -/
namespace Go.Proofs.YtkaepjigmcielaaGreatDoor
open Go.RowKit
set_option linter.unusedSimpArgs false
set_option linter.unusedVariables false
set_option maxRecDepth 20000

theorem addr_add0 (a : Addr) : a.add 0 = a := by
  obtain ⟨b, o, l⟩ := a
  cases l <;> simp [Addr.add]

set_option maxRecDepth 100000 in
set_option maxHeartbeats 8000000 in
theorem spec_l8Turn (P : Option Addr) (np cp : Nat) (xss : List (List Int)) (lo hi dim : Nat) (w : World) (hp : Ints2 w lo hi P np cp xss) (hh : hi ≤ w.heap.size) (hL : ∀ r ∈ xss, r.length = dim) (hd0 : 0 < dim) (hd6 : dim ≤ 1000) (hn0 : 0 < np) (hn : np ≤ 1000) :
    Calls Tryz.prog 23 #[.slice P np cp] w fun e w' => ∃ gR cR, e = .returned (.slice (some ⟨gR, 0, none⟩) dim cR) ∧ Ints2 w' w.heap.size w'.heap.size (some ⟨gR, 0, none⟩) dim cR (turnL xss dim) ∧ Below w.heap.size w w' := by
  obtain ⟨i0, hi0, hz0, hz1, hz2⟩ := info_parts info_int
  obtain ⟨i1, hi1, hy0, hy1, hy2⟩ := info_parts info_ints
  have hcp := hp.cap
  have hmp := hp.max
  have HP := hide hp
  have HLn := hide hL
  obtain ⟨ap, B0, m0, d0, r0, rfl, hc0, hI0, _, hx0⟩ := hp.at_ (k := 0) hn0
  obtain rfl : dim = m0 := by rw [← hI0.len]; exact (hL r0 (List.mem_of_getElem? hx0.out)).symm
  have hg0 := World.block_lt_of_cell? w _ hc0
  have HC0 := hide fun (w' : World) (hB : Below w.heap.size w w') => show w'.cell? ap = some (.slice B0 dim d0) by rw [← addr_add0 ap]; exact (hB.cell (p := ap.add 0) hg0).trans hc0
  have hcd0 := hI0.cap
  have hmd0 := hI0.max
  have htl := hide (turn_len xss dim)
  have hL0 := hide (Lst.empty kI 22 (fun _ => True) w w.heap.size (Nat.le_refl _))
  have hbL := hide (below_alloc w (.cells #[] 22))
  have zL : (w.alloc (.cells #[] 22)).heap.size = w.heap.size + 1 := by simp
  have hL1 := hide (hL0.out.wide (hi2 := (w.alloc (.cells #[] 22)).heap.size) (by omega))
  clear hp hL hI0 hx0 hc0 hL0 zL
  go_enter Tryz.func23, Tryz.ntmps23
  go_wp2_with fail
  generalize w.alloc (.cells #[] 22) = W1 at hL1 hbL ⊢
  go_loopw [3, 4] (fun p i wr => ∃ (q : Nat) (R : Option Addr) (cR : Nat) (vs : List Value), q ≤ dim ∧ i = .int .i64 q ∧ p = .slice R q cR ∧ Hid (Lst kI 22 (fun _ => True) wr w.heap.size wr.heap.size R q cR vs ((turnL xss dim).take q)) ∧ Hid (Below w.heap.size w wr)) (fun _ i _ => dim - (intOf i).toNat)
  case atStart => exact ⟨0, _, 0, [], by omega, rfl, rfl, hL1.out, hbL.out⟩
  case round =>
    clear hL1 hbL
    obtain ⟨q, R, cR, vs, hq, rfl, rfl, hL, hb⟩ := hrel
    have hsz := hb.out.size
    have hcR := hL.out.capb
    have u0 := HC0.out _ hb.out
    by_cases hlt : q < dim
    · obtain ⟨row, hrow⟩ : ∃ row, row = xss.map fun r => r.getD q 0 := ⟨_, rfl⟩
      have hrl : Hid (row.length = np) := by show _ = _; rw [hrow, List.length_map, HP.out.len]
      have hT : Hid ((turnL xss dim).take q ++ [row] = (turnL xss dim).take (q + 1)) := take_snocJ (by rw [hrow]; exact turn_at xss hlt)
      have hO0 : Hid ((wr.alloc (.cells #[] 3)).ownsRow wr.heap.size 3 1 (.slice (some ⟨wr.heap.size, 0, none⟩) 0 0) 0 ((row.take 0).map (Value.int .i64))) := by
        show World.ownsRow _ _ _ _ _ _ _
        simpa using World.ownsRow_lit (size := 1) (e := 3) (base := wr.heap.size) wr #[] 0 (Nat.le_refl _) (by unfold maxLen; omega) rfl
      have hB0 := hide (below_alloc wr (.cells #[] 3))
      go_wp2_with fail
      obtain ⟨wo, hwo⟩ : ∃ wo, wo = wr := ⟨_, rfl⟩
      rw [← hwo] at hO0 hB0 ⊢
      have hszo : w.heap.size ≤ wo.heap.size := by rw [hwo]; exact hsz
      have hLo : Hid (Lst kI 22 (fun _ => True) wo w.heap.size wo.heap.size R q cR vs ((turnL xss dim).take q)) := by rw [hwo]; exact hL.out
      have hbo : Hid (Below w.heap.size w wo) := by rw [hwo]; exact hb.out
      clear hwo hL hb u0 hsz
      generalize wo.alloc (.cells #[] 3) = W2 at hO0 hB0 ⊢
      go_loopw [5, 6] (fun p i wr => ∃ (j : Nat) (S : Option Addr) (cS : Nat), j ≤ np ∧ i = .int .i64 j ∧ p = .slice S j cS ∧ Hid (wr.ownsRow wo.heap.size 3 1 (.slice S j cS) j ((row.take j).map (Value.int .i64))) ∧ Hid (Below wo.heap.size wo wr)) (fun _ i _ => np - (intOf i).toNat)
      case atStart => exact ⟨0, _, _, by omega, rfl, rfl, hO0.out, hB0.out⟩
      case round =>
        clear hO0 hB0
        obtain ⟨j, S, cS, hj, rfl, rfl, hO, hbr⟩ := hrel
        have hszr := hbr.out.size
        have hbw := hide (hbo.out.trans (hbr.out.mono hszo))
        by_cases hlt2 : j < np
        · obtain ⟨ap2, Br, m2, d2, r, e, hcr, hIr, _, hxr⟩ := HP.out.at_ hlt2
          injection e with e
          subst e
          have hrd := HLn.out r (List.mem_of_getElem? hxr.out)
          obtain rfl : dim = m2 := by rw [← hIr.len]; exact hrd.symm
          have hcr2 := hIr.cap
          have hmr2 := hIr.max
          obtain ⟨bd, x, rfl, hcx, hx64, _, hxx⟩ := hIr.at_ hlt
          have hc4 := (hbw.out.cell (p := ap.add j) (World.block_lt_of_cell? w _ hcr)).trans hcr
          have hc5 := (hbw.out.cell (p := bd.add q) (World.block_lt_of_cell? w _ hcx)).trans hcx
          have hT2 : Hid ((row.take j).map (Value.int .i64) ++ [Value.int .i64 x] = (row.take (j + 1)).map (Value.int .i64)) := by
            show _ = _
            rw [← take_snocJ (xs := row) (k := j) (x := x) (by rw [hrow, List.getElem?_map, hxr.out]; simp [List.getD, hxx.out]), List.map_append]
            rfl
          clear hcr hIr hxr hcx hxx hrd
          go_wp2_with (at_builtin; refine wpl_app1 rfl (.tmp 23) (.tmp 31) 22 rfl wo.heap.size 3 i0 (.int .i64 0) 1 8 Tryz.underlying22 hi0 hz0 hz1 hz2 rfl (by omega) wr #[.int .i64 x] S j cS 1 _ rfl rfl hO.out rfl (by simp [Value.oneCell']) (by omega) (by omega) (by omega) ?_; intro A5 c5 w5 happ5 hlt5; have hb5 := hide (happ5.low hbr.out hszr (Nat.le_refl _) hO.out); have hO5 := hide happ5.1; clear happ5)
          rw [hT2.out] at hO5
          refine ⟨⟨j + 1, A5, c5, by omega, by go_num, rfl, hO5.out, hb5.out⟩, ?_⟩
          simp [intOf]; omega
        · obtain rfl : np = j := by omega
          have hOw := hO.out
          rw [List.take_of_length_le (Nat.le_of_eq hrl.out)] at hOw
          have hrng : ∀ y ∈ row, R64 y := fun y hy => by
            rw [hrow] at hy
            obtain ⟨r, hr, rfl⟩ := List.mem_map.1 hy
            obtain ⟨q2, hq2⟩ := List.mem_iff_getElem?.1 hr
            have hq3 := (List.getElem?_eq_some_iff.1 hq2).1
            obtain ⟨_, _, _, _, r2, _, _, hIr, _, hx2⟩ := HP.out.at_ (k := q2) (by have := HP.out.len; omega)
            have h3 := hx2.out
            rw [hq2] at h3
            injection h3 with h3
            subst h3
            exact r64_getDJ hIr.rng q
          have hI := hide (⟨hOw, fun ad e => (owns_lt hOw ad e).2, hrng⟩ : OwnI wr wo.heap.size wr.heap.size S np cS row).ints
          have hLr := hide (hLo.out.below hbr.out (Nat.le_refl _))
          clear hLo hO hOw hrng
          go_wp2_with (at_builtin; refine wpl_app1 rfl (.tmp 33) (.tmp 35) 26 rfl w.heap.size 22 i1 (.slice none 0 0) 1 24 Tryz.underlying26 hi1 hy0 hy1 hy2 rfl (by omega) wr #[.slice S np cS] R q cR 1 _ rfl rfl hLr.out.own rfl (by simp [Value.oneCell']) (by omega) (by omega) (by omega) ?_; intro A5 c5 w5 happ5 hlt5; have hL5 := hide (hLr.out.push (l := wo.heap.size) (h' := wr.heap.size) (x := row) ⟨S, np, cS, rfl, hI.out⟩ (Nat.le_refl _) (Nat.le_refl _) hszo hszr happ5); have hb5 := hide (happ5.low hbw.out (by omega) (by omega) hLr.out.own); clear happ5)
          rw [hT.out] at hL5
          refine ⟨⟨q + 1, A5, c5, _, by omega, by go_num, rfl, hL5.out, hb5.out⟩, ?_⟩
          simp [intOf]; omega
    · obtain rfl : dim = q := by omega
      have hL2 := hL.out
      rw [List.take_of_length_le (Nat.le_of_eq htl.out)] at hL2
      obtain ⟨gR, rfl, _, _, _⟩ := hL2.form hd0
      have HL := hide hL2.ints2
      clear hL hL2
      go_wp2_with fail
      go_ret
      exact ⟨_, _, rfl, HL.out, hb.out⟩
end Go.Proofs.YtkaepjigmcielaaGreatDoor
/- Polynomials in h plus multiples of stages, times h: the reference's walk. -/
namespace Go.Proofs.YtkaepjigmcielaaGreatDoor
open Go.RowKit
set_option linter.unusedSimpArgs false
set_option linter.unusedVariables false
set_option maxRecDepth 20000

/-- A row of the call's own that is being filled, with room behind it; nothing else has changed. -/
structure FillC (w wr : World) (g n c : Nat) (zs : List Int) : Prop where
  own : OwnI wr w.heap.size (g + 1) (some ⟨g, 0, none⟩) n c zs
  low : Below w.heap.size w wr
  glo : w.heap.size ≤ g
section
variable {w wr : World} {g n c : Nat} {zs : List Int}
theorem FillC.drew (h : FillC w wr g n c zs) : FillC w wr.drew g n c zs := ⟨h.own.same (fun _ _ _ => rfl), h.low.drew, h.glo⟩
theorem FillC.set (h : FillC w wr g n c zs) (i : Nat) {x : Int} (hx : R64 x) : FillC w (wr.setCell ⟨g, i, none⟩ (.int .i64 x)) g n c (zs.set i x) :=
  ⟨⟨by rw [List.map_set]; exact (h.own.own.stored i (.int .i64 x)).1, h.own.lt, fun y hy => by
    rcases List.mem_or_eq_of_mem_set hy with hy | rfl
    · exact h.own.rng y hy
    · exact hx⟩, h.low.setCell (p := ⟨g, i, none⟩) h.glo _, h.glo⟩
theorem FillC.cell (h : FillC w wr g n c zs) {i : Nat} (hi : i < n) : ∃ v, wr.cell? ⟨g, i, none⟩ = some (.int .i64 v) ∧ zs[i]? = some v ∧ R64 v ∧ wr.frozen? ⟨g, i, none⟩ = false := by
  have hl := h.own.len
  refine ⟨zs[i], ?_, List.getElem?_eq_getElem (by omega), h.own.rng _ (List.getElem_mem _), h.own.own.frozenAt i⟩
  rw [h.own.own.cellAt i (by omega), List.getElem?_map, List.getElem?_eq_getElem (by omega)]
  rfl
theorem FillC.done (h : FillC w wr g n c zs) : Ints wr w.heap.size wr.heap.size (some ⟨g, 0, none⟩) n c zs := (h.own.wide (Nat.le_refl _) (by have := (h.own.lt_size _ rfl).2; exact this)).ints
end

def St3 (n dim : Nat) (st : List (List (List Int))) : Prop := ∀ v ∈ st, v.length = dim ∧ JNum n v

end Go.Proofs.YtkaepjigmcielaaGreatDoor
