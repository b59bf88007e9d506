/- All lists of levels of an order: the program's walk. -/
import Derived.Test.YtkaepjigmcielaaGreatDoorMzQ
namespace Go.Proofs.YtkaepjigmcielaaGreatDoor
open Go.RowKit
set_option linter.unusedSimpArgs false
set_option linter.unusedVariables false
set_option maxRecDepth 20000

theorem Appended.sameB {w0 w' : World} {base e size n c m c' lo hi : Nat} {A A' : Option Addr} {xs : List Value} (h : Appended w0 base e size A n c A' m c' xs w') (hh : hi ≤ w0.heap.size) (hA : ∀ ad, A = some ad → ad.block < lo ∨ hi ≤ ad.block) : Same lo hi w0 w' := fun k k1 k2 =>
  h.2.1.block k (by omega) fun e => by
    obtain ⟨ad, e1, e2⟩ := ownBlock_eq.1 e.symm
    have := hA ad e1
    omega
theorem RowsO.kept {w w' : World} {lo n c : Nat} {A : Option Addr} {vs : List Value} {xss : List (List Int)} (h : RowsO w lo A n c vs xss) (hb : Below w.heap.size w w') : RowsO w' lo A n c vs xss :=
  ⟨owns_below h.own hb fun ad e => (owns_lt h.own ad e).2, h.len, fun j xs hj => by
    obtain ⟨B, m, d, e1, e2, e3⟩ := h.row j xs hj
    exact ⟨B, m, d, e1, owns_below e2 hb fun ad e => (owns_lt e2 ad e).2, e3⟩, h.sep, h.sep2⟩

theorem Ints.srcL {w : World} {lo hi : Nat} {A : Option Addr} {n c : Nat} {xs : List Int} (h : Ints w lo hi A n c xs) : ∀ ad, A = some ad → ∀ j u, (xs.map (Value.int .i64))[j]? = some u → w.cell? (ad.add j) = some u := by
  intro ad e j u hu
  rw [List.getElem?_map] at hu
  cases hx : xs[j]? with
  | none => rw [hx] at hu; cases hu
  | some x =>
    rw [hx] at hu
    injection hu with hu
    subst hu
    have hn : 0 < n := by
      have := (List.getElem?_eq_some_iff.1 hx).1
      have := h.len
      omega
    obtain ⟨ad', e', _, _, hc⟩ := h.cells hn
    obtain rfl : ad = ad' := by rw [e] at e'; injection e'
    exact hc j x hx

def extF (l : List Int) : List (List Int) := (List.range (lastZ l + 1).toNat).map fun k => l ++ [((k : Nat) : Int) + 1]
theorem ext_len (l : List Int) : (extF l).length = (lastZ l + 1).toNat := by simp [extF]
theorem ext_step {l : List Int} {k : Nat} (h : k < (lastZ l + 1).toNat) : (extF l).take (k + 1) = (extF l).take k ++ [l ++ [(k : Int) + 1]] := by
  rw [List.take_add_one]
  congr 1
  simp [extF, h]
theorem lastZ_at : ∀ (l : List Int) (m : Nat), l.length = m + 1 → l[m]? = some (lastZ l)
  | [x], m, h => by
    obtain rfl : m = 0 := by simpa using h.symm
    rfl
  | x :: y :: r, m, h => by
    cases m with
    | zero => simp at h
    | succ m =>
      rw [List.getElem?_cons_succ]
      exact lastZ_at (y :: r) m (by simpa using h)
theorem lev_succ {n : Nat} (h : 2 ≤ n) : levF n = (levF (n - 1)).flatMap extF := by
  obtain ⟨m, rfl⟩ : ∃ m, n = m + 2 := ⟨n - 2, by omega⟩
  rfl
theorem flat_step {α : Type} {ls : List (List Int)} {f : List Int → List α} {k : Nat} {l : List Int} (h : ls[k]? = some l) : (ls.take (k + 1)).flatMap f = (ls.take k).flatMap f ++ f l := by
  rw [List.take_add_one, h]
  simp
theorem lev_mem {n : Nat} (h1 : 1 ≤ n) (h4 : n ≤ 4) {l : List Int} (hl : l ∈ levF n) : l.length = n ∧ ∀ x ∈ l, 0 ≤ x ∧ x ≤ 3 := by
  have hn : n ∈ [1, 2, 3, 4] := by simp; omega
  have := List.all_eq_true.1 (lev_shape n hn) l hl
  simpa [List.all_eq_true] using this
theorem lev_pos : ∀ n ∈ [1, 2, 3, 4], 0 < (levF n).length := by decide +kernel
theorem lastZ_mem : ∀ (l : List Int), l ≠ [] → lastZ l ∈ l
  | [x], _ => by simp [lastZ]
  | x :: y :: r, _ => List.mem_cons_of_mem _ (lastZ_mem (y :: r) (by simp))

set_option maxRecDepth 100000 in
set_option maxHeartbeats 4000000 in
theorem impl_levelLists : ∀ (n : Nat), 1 ≤ n → n ≤ 4 → ∀ w : World,
    Calls Tryz.prog 60 #[.int .i64 (n : Int)] w fun e w' => ∃ g n' c vs, e = .returned (.slice (some ⟨g, 0, none⟩) n' c) ∧ RowsO w' w.heap.size (some ⟨g, 0, none⟩) n' c vs (levF n) ∧ Below w.heap.size w w' := by
  intro n
  induction n with
  | zero => intro h; omega
  | succ n ih =>
    intro _ h4 w
    rcases Nat.eq_zero_or_pos n with h0 | h0
    · subst h0
      have b0 := below_alloc w (.cells #[.int .i64 0] 3)
      have b1 := (below_alloc (w.alloc (.cells #[.int .i64 0] 3)) (.cells #[.slice (some ⟨w.heap.size, 0, none⟩) 1 1] 22))
      have o0 := World.ownsRow_lit (size := 1) (e := 3) w #[.int .i64 0] 1 (Nat.le_refl _) (by unfold maxLen; omega) rfl
      have z0 : (w.alloc (.cells #[.int .i64 0] 3)).heap.size = w.heap.size + 1 := by simp
      have o1 := World.ownsRow_lit (size := 1) (e := 22) (w.alloc (.cells #[.int .i64 0] 3)) (base := w.heap.size) #[.slice (some ⟨w.heap.size, 0, none⟩) 1 1] 1 (by omega) (by unfold maxLen; omega) rfl
      have hR : RowsO ((w.alloc (.cells #[.int .i64 0] 3)).alloc (.cells #[.slice (some ⟨w.heap.size, 0, none⟩) 1 1] 22)) w.heap.size (some ⟨w.heap.size + 1, 0, none⟩) 1 1 [.slice (some ⟨w.heap.size, 0, none⟩) 1 1] (levF 1) := by
        rw [z0] at o1
        refine ⟨o1, rfl, fun j xs hj => ?_, fun j v hj => ?_, fun i j u v hij hi hj => ?_⟩
        · obtain rfl : j = 0 := by have := (List.getElem?_eq_some_iff.1 hj).1; simp [levF] at this; omega
          obtain rfl : [0] = xs := by simpa [levF] using hj
          refine ⟨_, _, _, rfl, ?_, by simp [R64]⟩
          exact owns_below o0 b1 fun ad e => (owns_lt o0 ad e).2
        · obtain rfl : j = 0 := by have := (List.getElem?_eq_some_iff.1 hj).1; simp at this; omega
          obtain rfl : Value.slice (some ⟨w.heap.size, 0, none⟩) 1 1 = v := by simpa using hj
          refine .inr ?_
          simp [Value.ownBlock]
        · have h1 := (List.getElem?_eq_some_iff.1 hi).1
          have h2 := (List.getElem?_eq_some_iff.1 hj).1
          simp at h1 h2
          omega
      have HR := hide hR
      have HB := hide (b0.trans (b1.mono (Nat.le_of_lt (by rw [z0]; omega))))
      clear hR b0 b1 o0 o1 z0
      go_enter Tryz.func60, Tryz.ntmps60
      go_wp2_with fail
      go_ret
      exact ⟨_, 1, 1, _, rfl, HR.out, HB.out⟩
    · obtain ⟨i0, hi0, hz0, hz1, hz2⟩ := info_parts info_int
      obtain ⟨i1, hi1, hy0, hy1, hy2⟩ := info_parts info_ints
      have IH := hide (ih h0 (by omega))
      have hmem := hide fun l (hl : l ∈ levF n) => lev_mem h0 (by omega) hl
      have hlv := hide (lev_succ (n := n + 1) (by omega))
      have hln := hide (lists_len n (by simp; omega)).2
      have hne : (((n + 1 : Nat) : Int) == 1) = false := by simp; omega
      have hwn : IntKind.i64.wrap (((n + 1 : Nat) : Int) - 1) = n := by rw [IntWalk.i64_in _ (by omega)]; omega
      clear ih
      have b0 := below_alloc w (.cells #[] 22)
      have o0 := hide (RowsO.empty w w.heap.size (Nat.le_refl _))
      have z0 := b0.size
      have z00 : (w.alloc (.cells #[] 22)).heap.size = w.heap.size + 1 := by simp
      go_enter Tryz.func60, Tryz.ntmps60
      go_wp2_with fail
      refine (IH.out _).mono ?_
      rintro e w1 ⟨g1, n1, c1, vs1, rfl, hO1, b1⟩
      have z1 := b1.size
      rw [z00] at z1
      have hR1 := hide hO1.rows
      have hg1 := (hO1.own.lt g1 rfl)
      rw [z00] at hg1
      have hcb1 := hO1.capb
      have hl1 := hide hO1.len
      have hn1 : n1 ≤ 5 := by have := hO1.len; have := hln.out; omega
      have hO0 : Hid (RowsO w1 w.heap.size (some ⟨w.heap.size, 0, none⟩) 0 0 [] []) := o0.out.kept b1
      have hb01 := hide (b0.trans (b1.mono (by omega)))
      rw [z00] at hR1
      clear hO1 b1 o0 b0 IH
      go_wp2_with fail
      go_loopw [3, 5, 6, 16] (fun o _ _ i wr => ∃ (k N c' : Nat) (A : Option Addr), k ≤ n1 ∧ i = .int .i64 (k : Int) ∧ o = .slice A N c' ∧ N ≤ 10 * k ∧ Hid (∃ vs, RowsO wr w.heap.size A N c' vs (((levF n).take k).flatMap extF)) ∧ Hid (∀ ad, A = some ad → ad.block = w.heap.size ∨ w1.heap.size ≤ ad.block) ∧ Hid (Same (w.heap.size + 1) w1.heap.size w1 wr) ∧ w1.heap.size ≤ wr.heap.size ∧ Hid (Below w.heap.size w wr)) (fun _ _ _ i _ => n1 - (intOf i).toNat)
      case atStart => exact ⟨0, 0, 0, _, by omega, rfl, rfl, by omega, ⟨[], hO0.out⟩, fun ad e => by injection e with e; subst e; exact .inl rfl, Same.refl _ _ _, Nat.le_refl _, hb01.out⟩
      case round =>
        clear hO0 hb01
        obtain ⟨k, N, c', A, hk, rfl, rfl, hNk, hO, hA, hS, hzr, hb⟩ := hrel
        by_cases hlt : k < n1
        · obtain ⟨B, m, d, l', h', l, hcw, hI1, hl', hh', hx, hvx, hform⟩ := hR1.out.at_ hlt
          have hcl : wr.cell? ⟨g1, k, none⟩ = some (.slice B m d) := (hS.out.cell (p := ⟨g1, k, none⟩) (by show w.heap.size + 1 ≤ g1; omega) (by show g1 < _; omega)).trans hcw
          obtain ⟨hlm, hlr⟩ := hmem.out l (List.mem_of_getElem? hx.out)
          have hmn : m = n := by rw [← hI1.len]; exact hlm
          subst hmn
          obtain ⟨m, rfl⟩ : ∃ q, m = q + 1 := ⟨m - 1, by omega⟩
          obtain ⟨ad, rfl⟩ : ∃ ad, B = some ad := by
            obtain ⟨ad, e, _⟩ := hI1.cells (by omega)
            exact ⟨ad, e⟩
          have hlast := hide (lastZ_at l m hlm)
          have hzb := hlr _ (List.mem_of_getElem? hlast.out)
          have hIW := hide fun (W : World) (hs : Same (w.heap.size + 1) w1.heap.size w1 W) => hI1.same (fun q q1 q2 => hs q (by omega) (by omega))
          have hLR := hide hlr
          have hLM := hide hlm
          obtain ⟨z, hz⟩ : ∃ z, z = lastZ l := ⟨_, rfl⟩
          have hlast' : Hid (l[m]? = some z) := by show _ = _; rw [hz]; exact hlast.out
          rw [← hz] at hzb
          have HZ := hide hz
          have hfs := hide (flat_step (f := extF) hx.out)
          have hmm : m ≤ 2 := by omega
          clear hlm hlr hI1 hlast hx hz hcw hvx hform
          go_wp2_with fail
          obtain ⟨wo, rfl⟩ : ∃ wo : World, wo = wr := ⟨_, rfl⟩
          go_loopw [3, 6] (fun o i wr => ∃ (j N c' : Nat) (A : Option Addr), 1 ≤ j ∧ (j : Int) ≤ z + 2 ∧ i = .int .i64 (j : Int) ∧ o = .slice A N c' ∧ N ≤ 10 * k + j ∧ Hid (∃ vs, RowsO wr w.heap.size A N c' vs (((levF (m + 1)).take k).flatMap extF ++ (extF l).take (j - 1))) ∧ Hid (∀ ad, A = some ad → ad.block = w.heap.size ∨ w1.heap.size ≤ ad.block) ∧ Hid (Same (w.heap.size + 1) w1.heap.size w1 wr) ∧ w1.heap.size ≤ wr.heap.size ∧ Hid (Below w.heap.size w wr)) (fun _ i _ => (z + 4).toNat - (intOf i).toNat)
          case atStart => exact ⟨1, N, c', A, by omega, by omega, rfl, rfl, by omega, by rw [Nat.sub_self, List.take_zero, List.append_nil]; exact hO.out, hA.out, hS.out, hzr, hb.out⟩
          case round =>
            clear hO hA hS hb hcl
            obtain ⟨j, N2, c2, A2, hj1, hj, rfl, rfl, hNj, hO, hA, hS, hzr2, hb⟩ := hrel
            obtain ⟨j, rfl⟩ : ∃ q, j = q + 1 := ⟨j - 1, by omega⟩
            rw [Nat.add_sub_cancel] at hO
            have hIl := hide (hIW.out _ hS.out)
            have hcz : wr.cell? (ad.add m) = some (.int .i64 z) := by
              obtain ⟨ad2, e, _, _, hc⟩ := hIl.out.cells (by omega)
              injection e with e
              subst e
              exact hc m z hlast'.out
            have hcap := hIl.out.cap
            have hmax := hIl.out.max
            have hwm : IntKind.i64.wrap (((m + 1 : Nat) : Int) - 1) = m := by rw [IntWalk.i64_in _ (by omega)]; omega
            have hm0 : (0 : Int) ≤ ((m + 1 : Nat) : Int) - 1 := by omega
            by_cases hlt2 : (j : Int) < z + 1
            · have bA := below_alloc wr (.cells #[] 3)
              have oA := hide (show (wr.alloc (.cells #[] 3)).ownsRow wr.heap.size 3 1 (.slice (some ⟨wr.heap.size, 0, none⟩) 0 0) 0 [] by simpa using World.ownsRow_lit (size := 1) (e := 3) wr #[] 0 (Nat.le_refl _) (by unfold maxLen; omega) rfl)
              have hhi : h' ≤ wr.heap.size := by omega
              have hsrc := hide ((hIl.out.below bA hhi).srcL)
              have hlm2 := hide hLM.out
              obtain ⟨vs2, hOv⟩ := hO.out
              have hOw := hide hOv
              clear hOv
              have hzo := hb.out.size
              clear hO hIl
              go_wp2_with (first
                | (at_builtin; refine wpl_app rfl (.tmp 32) (.tmp 33) 22 rfl _ wr.heap.size 3 i0 (.int .i64 0) 1 8 Tryz.underlying22 hi0 hz0 hz1 hz2 rfl (by omega) (some ⟨wr.heap.size, 0, none⟩) 0 0 [] rfl oA.out (some ad) (m + 1) d (l.map (Value.int .i64)) rfl (by simp [hlm2.out]) (fun ad' e => hsrc.out ad' e) (fun e => by cases e) (by intro u hu; obtain ⟨x, _, rfl⟩ := List.mem_map.1 hu; rfl) (by omega) (by omega) (by simp) ?_; intro A3 c3 w3 hap3; have bA3 := hide (hap3.low bA (by simp) (Nat.le_refl _) oA.out); have oA3 := hide (show w3.ownsRow wr.heap.size 3 1 (.slice A3 (m + 1) c3) (m + 1) (l.map (Value.int .i64)) by (have := hap3.1; simpa using this)); have zA3 : wr.heap.size ≤ w3.heap.size := bA3.out.size; clear hap3)
                | (at_builtin; refine wpl_app1b rfl (.tmp 34) (.tmp 36) 22 rfl wr.heap.size 3 i0 (.int .i64 0) 1 8 Tryz.underlying22 hi0 hz0 hz1 hz2 rfl (by omega) _ #[.int .i64 ((j : Int) + 1)] _ rfl A3 (m + 1) c3 1 _ rfl (by rfl) oA3.out rfl (by simp [Value.oneCell']) (by omega) (by omega) zA3 ?_; intro A4 c4 w4 hap4 hlt4; have bA4 := hide (hap4.low bA3.out zA3 (Nat.le_refl _) oA3.out); have oA4 := hide hap4.1; have zA4 : wr.heap.size ≤ w4.heap.size := bA4.out.size; clear hap4)
                | (at_builtin; refine wpl_app1b rfl (.tmp 31) (.tmp 38) 26 rfl w.heap.size 22 i1 (.slice none 0 0) 1 24 Tryz.underlying26 hi1 hy0 hy1 hy2 rfl (by omega) _ #[.slice A4 (m + 1 + 1) c4] _ rfl A2 N2 c2 1 _ rfl (by rfl) (hOw.out.kept bA4.out).own rfl (by simp [Value.oneCell']) (by omega) (by omega) (by omega) ?_; intro A5 c5 w5 hap5 hlt5))
              have hOk := hOw.out.kept bA4.out
              have hr5 : w4.ownsRow w.heap.size 3 1 (.slice A4 (m + 1 + 1) c4) (m + 1 + 1) ((l ++ [(j : Int) + 1]).map (Value.int .i64)) := by
                have := owns_low oA4.out hzo
                simpa using this
              have hO5 := hide (hOk.pushRow hr5 (fun x hx => by
                rcases List.mem_append.1 hx with hx | hx
                · have := hLR.out x hx
                  constructor <;> omega
                · obtain rfl : x = (j : Int) + 1 := by simpa using hx
                  constructor <;> omega) (hb := wr.heap.size) (fun ad e => (owns_lt oA4.out ad e).1) (fun ad e => (owns_lt hOw.out.own ad e).2) (fun j v hv b hb => (hOw.out.olt j v hv b hb).2) hap5)
              have hA5 : Hid (∀ ad, A5 = some ad → ad.block = w.heap.size ∨ w1.heap.size ≤ ad.block) := fun ad e => by
                rcases hap5.2.2 with h1 | h1
                · exact hA.out ad (h1 ad e)
                · have := h1 ad e
                  omega
              have hS5 := hide ((hS.out.trans (.of_below bA4.out hzr2)).trans (hap5.sameB (by omega) fun ad e => by
                have := hA.out ad e
                omega))
              have hB5 := hide (hap5.low (hb.out.trans (bA4.out.mono hzo)) (by omega) (Nat.le_refl _) hOk.own)
              have hst := hide (ext_step (l := l) (k := j) (by have := HZ.out; omega))
              have hz5 : w1.heap.size ≤ w5.heap.size := by omega
              clear hOk hr5 hap5 hOw hS hA oA4 oA3 oA bA bA3 bA4 hsrc
              go_roundw
              case rel => exact ⟨j + 2, by omega, by omega, by omega, N2 + 1, c5, A5, ⟨rfl, rfl, rfl⟩, by omega, by rw [show j + 2 - 1 = j + 1 from rfl, hst.out, ← List.append_assoc]; exact ⟨_, hO5.out⟩, hA5.out, hS5.out, hz5, hB5.out⟩
              case measure => simp [intOf]; omega
            · have hj2 : (j : Int) = z + 1 := by omega
              have htk : (extF l).take j = extF l := List.take_of_length_le (by rw [ext_len]; have := HZ.out; omega)
              rw [htk, ← hfs.out] at hO
              clear hIl
              go_wp2_with fail
              go_roundw
              case rel => exact ⟨k + 1, N2, c2, A2, by omega, by go_num, rfl, by omega, hO.out, hA.out, hS.out, hzr2, hb.out⟩
              case measure => simp [intOf]; omega
        · obtain rfl : k = n1 := by omega
          have htk : (levF n).take k = levF n := List.take_of_length_le (Nat.le_of_eq hl1.out)
          rw [htk] at hO
          have hlv2 := hlv.out
          rw [Nat.add_sub_cancel] at hlv2
          rw [← hlv2] at hO
          obtain ⟨vs, hO⟩ := hO.out
          have hO := hide hO
          have hN0 : 0 < N := by
            have := hO.out.len
            have := lev_pos (n + 1) (by simp; omega)
            omega
          obtain ⟨g, rfl, _⟩ := hO.out.form hN0
          clear hA hlv2 htk
          go_wp2_with fail
          go_ret
          exact ⟨g, N, c', vs, rfl, hO.out, hb.out⟩
end Go.Proofs.YtkaepjigmcielaaGreatDoor
/- All colourings of a list of levels: the program's walk. -/
namespace Go.Proofs.YtkaepjigmcielaaGreatDoor
open Go.RowKit
set_option linter.unusedSimpArgs false
set_option linter.unusedVariables false
set_option maxRecDepth 20000

theorem colR_at (s : Nat) : ∀ (l : List Int) (k i : Nat), (colR s k l)[i]? = (l[i]?).map fun n => 2 * n + ((s / 2 ^ (k + i) % 2 : Nat) : Int)
  | [], k, i => by simp [colR]
  | n :: r, k, 0 => by simp [colR]
  | n :: r, k, i + 1 => by
    rw [colR, List.getElem?_cons_succ, List.getElem?_cons_succ, colR_at s r (k + 1) i, show k + 1 + i = k + (i + 1) by omega]
theorem colR_len (s : Nat) : ∀ (l : List Int) (k : Nat), (colR s k l).length = l.length
  | [], _ => rfl
  | n :: r, k => by rw [colR, List.length_cons, List.length_cons, colR_len s r]
theorem colR_step {s i : Nat} {l : List Int} {n : Int} (h : l[i]? = some n) : (colR s 0 l).take (i + 1) = (colR s 0 l).take i ++ [2 * n + ((s / 2 ^ i % 2 : Nat) : Int)] := by
  rw [List.take_add_one, colR_at, h, Nat.zero_add]
  rfl
theorem colF_step {l : List Int} {s : Nat} (h : s < 2 ^ l.length) : (colF l).take (s + 1) = (colF l).take s ++ [colR s 0 l] := by
  rw [List.take_add_one]
  congr 1
  simp [colF, h]
theorem bit_one : ∀ (s k : Nat), s < 16 → k < 4 → bits BinOp.and IntKind.i64 ((s : Int) / 2 ^ k) 1 = ((s / 2 ^ k % 2 : Nat) : Int) := by
  intro s k hs hk
  have h : ∀ s ∈ List.range 16, ∀ k ∈ List.range 4, bits BinOp.and IntKind.i64 ((s : Int) / 2 ^ k) 1 = ((s / 2 ^ k % 2 : Nat) : Int) := by decide +kernel
  exact h s (by simpa using hs) k (by simpa using hk)
theorem colF_len (l : List Int) : (colF l).length = 2 ^ l.length := by simp [colF]

set_option maxRecDepth 100000 in
set_option maxHeartbeats 4000000 in
theorem impl_colourings (A0 : Option Addr) (m c0 : Nat) (l : List Int) (lo hi : Nat) (w : World) (h : Ints w lo hi A0 m c0 l) (hh : hi ≤ w.heap.size) (hm : m ≤ 4) (hl : ∀ x ∈ l, 0 ≤ x ∧ x ≤ 3) :
    Calls Tryz.prog 61 #[.slice A0 m c0] w fun e w' => ∃ g n' c vs, e = .returned (.slice (some ⟨g, 0, none⟩) n' c) ∧ RowsO w' w.heap.size (some ⟨g, 0, none⟩) n' c vs (colF l) ∧ Below w.heap.size w w' := by
  obtain ⟨i0, hi0, hz0, hz1, hz2⟩ := info_parts info_int
  obtain ⟨i1, hi1, hy0, hy1, hy2⟩ := info_parts info_ints
  have HI := hide h
  have HLen := hide h.len
  have HL := hide hl
  have hcap := h.cap
  have hmax := h.max
  have hpw : ∃ P : Nat, P = 2 ^ m ∧ 1 ≤ P ∧ P ≤ 16 := ⟨2 ^ m, rfl, Nat.one_le_two_pow, Nat.pow_le_pow_right (by omega) hm⟩
  obtain ⟨P, hP, hP1, hP16⟩ := hpw
  have HPW := hide hP
  have hw2 : wrap64 ((2 : Int) ^ m) = (P : Int) := by
    have e : ((2 : Int) ^ m) = (P : Int) := by rw [hP]; simp
    rw [e]
    exact (IntWalk.i64_left (P : Int)).symm.trans (IntWalk.i64_in (P : Int) (by omega))
  have HW2 := hide hw2
  clear hw2
  have b0 := below_alloc w (.cells #[] 22)
  have o0 := hide (RowsO.empty w w.heap.size (Nat.le_refl _))
  have z0 := b0.size
  clear h hl hP
  go_enter Tryz.func61, Tryz.ntmps61
  go_wp2_with fail
  generalize World.alloc w (.cells #[] 22) = W0 at o0 b0 z0 ⊢
  go_loopw [3, 4, 5, 6, 7] (fun o i _ _ _ wr => ∃ (s c' : Nat) (A : Option Addr), s ≤ P ∧ i = .int .i64 (s : Int) ∧ o = .slice A s c' ∧ Hid (∃ vs, RowsO wr w.heap.size A s c' vs ((colF l).take s)) ∧ Hid (Below w.heap.size w wr)) (fun _ i _ _ _ _ => P - (intOf i).toNat)
  case atStart => exact ⟨0, 0, _, by omega, rfl, rfl, ⟨_, o0.out⟩, b0⟩
  case round =>
    clear o0 b0 z0
    obtain ⟨s, c', A, hs, rfl, rfl, hO, hb⟩ := hrel
    have zr := hb.out.size
    by_cases hlt : s < P
    · have hw2 := HW2.out
      go_wp2_with fail
      clear hw2
      have bA := below_alloc wr (.cells #[] 3)
      have oA := hide (show OwnI (wr.alloc (.cells #[] 3)) wr.heap.size (wr.alloc (.cells #[] 3)).heap.size (some ⟨wr.heap.size, 0, none⟩) 0 0 ((colR s 0 l).take 0) from ⟨by simpa using World.ownsRow_lit (size := 1) (e := 3) wr #[] 0 (Nat.le_refl _) (by unfold maxLen; omega) rfl, fun ad e => by injection e with e; subst e; simp, by simp⟩)
      obtain ⟨wo, hwo⟩ : ∃ wo : World, wo = wr := ⟨_, rfl⟩
      subst hwo
      generalize World.alloc wo (.cells #[] 3) = W1 at oA bA ⊢
      go_loopw [5, 6, 7, 19] (fun o _ _ i wr => ∃ (k c' : Nat) (A : Option Addr), k ≤ m ∧ i = .int .i64 (k : Int) ∧ o = .slice A k c' ∧ Hid (OwnI wr wo.heap.size wr.heap.size A k c' ((colR s 0 l).take k)) ∧ Hid (Below wo.heap.size wo wr)) (fun _ _ _ i _ => m - (intOf i).toNat)
      case atStart => exact ⟨0, 0, _, by omega, rfl, rfl, oA.out, bA⟩
      case round =>
        clear oA bA
        obtain ⟨k, c2, A2, hk, rfl, rfl, hO2, hb2⟩ := hrel
        have zr2 := hb2.out.size
        by_cases hlt2 : k < m
        · obtain ⟨ad, x, rfl, hcx, _, _, hxu⟩ := (HI.out.below (hb.out.trans (hb2.out.mono zr)) hh).at_ hlt2
          have hx0 := HL.out x (List.mem_of_getElem? hxu.out)
          have hst := hide (colR_step (s := s) hxu.out)
          have hO3 := hide hO2.out.own
          have hbt : bits BinOp.and IntKind.i64 ((s : Int) / 2 ^ k) 1 = ((s / 2 ^ k % 2 : Nat) : Int) := bit_one s k (by omega) (by omega)
          obtain ⟨y, hy⟩ : ∃ y : Int, y = ((s / 2 ^ k % 2 : Nat) : Int) := ⟨_, rfl⟩
          have hy01 : 0 ≤ y ∧ y ≤ 1 := by omega
          rw [← hy] at hbt hst
          have hwr : wrap64 (2 * x + y) = 2 * x + y := by
            exact (IntWalk.i64_left (2 * x + y)).symm.trans (IntWalk.i64_in (2 * x + y) (by omega))
          clear hy hxu
          go_wp2_with (at_builtin; refine wpl_app1b rfl (.tmp 24) (.tmp 32) 22 rfl wo.heap.size 3 i0 (.int .i64 0) 1 8 Tryz.underlying22 hi0 hz0 hz1 hz2 rfl (by omega) wr #[.int .i64 (2 * x + y)] _ rfl A2 k c2 1 _ rfl rfl hO3.out rfl (by simp [Value.oneCell']) (by omega) (by omega) zr2 ?_; intro A4 c4 w4 happ hlt4)
          have HB4 := hide (happ.low hb2.out zr2 (Nat.le_refl _) hO3.out)
          have HO4 : Hid (OwnI w4 wo.heap.size w4.heap.size A4 (k + 1) c4 ((colR s 0 l).take (k + 1))) := by
            refine ⟨?_, fun ad e => (owns_lt happ.1 ad e).2, ?_⟩
            · have := happ.1
              rw [hst.out]
              simpa using this
            · intro z hz
              rw [hst.out] at hz
              rcases List.mem_append.1 hz with hz | hz
              · exact hO2.out.rng z hz
              · obtain rfl : z = 2 * x + y := by simpa using hz
                constructor <;> omega
          clear happ hO2 hO3 hb2
          go_roundw
          case rel => exact ⟨k + 1, c4, A4, by omega, by go_num, rfl, HO4.out, HB4.out⟩
          case measure => simp [intOf]; omega
        · obtain rfl : k = m := by omega
          have htk : (colR s 0 l).take k = colR s 0 l := List.take_of_length_le (by rw [colR_len, HLen.out]; exact Nat.le_refl _)
          rw [htk] at hO2
          obtain ⟨vs, hOv⟩ := hO.out
          have hOk := hide (hOv.kept hb2.out)
          have hOw := hide hOv
          have hR := hide (owns_low hO2.out.own zr)
          have hst := hide (colF_step (l := l) (s := s) (by rw [HLen.out, ← HPW.out]; exact hlt))
          clear hOv hO
          go_wp2_with (at_builtin; refine wpl_app1b rfl (.tmp 35) (.tmp 37) 26 rfl w.heap.size 22 i1 (.slice none 0 0) 1 24 Tryz.underlying26 hi1 hy0 hy1 hy2 rfl (by omega) wr #[.slice A2 k c2] _ rfl A s c' 1 _ rfl rfl hOk.out.own rfl (by simp [Value.oneCell']) (by omega) (by omega) (by omega) ?_; intro A5 c5 w5 hap5 hlt5)
          have hO5 := hide (hOk.out.pushRow hR.out hO2.out.rng (hb := wo.heap.size) (fun ad e => (owns_lt hO2.out.own ad e).1) (fun ad e => (owns_lt hOw.out.own ad e).2) (fun j v hv b hb => (hOw.out.olt j v hv b hb).2) hap5)
          have hB5 := hide (hap5.low (hb.out.trans (hb2.out.mono zr)) (by omega) (Nat.le_refl _) hOk.out.own)
          rw [← hst.out] at hO5
          clear hap5 hOk hOw hR hO2 hb2
          go_roundw
          case rel => exact ⟨s + 1, c5, A5, by omega, by go_num, rfl, ⟨_, hO5.out⟩, hB5.out⟩
          case measure => simp [intOf]; omega
    · obtain rfl : s = P := by omega
      have htk : (colF l).take s = colF l := List.take_of_length_le (by rw [colF_len, HLen.out, ← HPW.out]; exact Nat.le_refl _)
      rw [htk] at hO
      obtain ⟨vs, hOv⟩ := hO.out
      obtain ⟨g, rfl, _⟩ := hOv.form (by omega)
      have hO5 := hide hOv
      have hw2 := HW2.out
      clear hOv hO
      go_wp2_with fail
      go_ret
      exact ⟨g, s, c', vs, rfl, hO5.out, hb.out⟩
end Go.Proofs.YtkaepjigmcielaaGreatDoor
