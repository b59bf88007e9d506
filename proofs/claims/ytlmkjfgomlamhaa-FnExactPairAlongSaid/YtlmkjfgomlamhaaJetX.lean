/- One step's sums: the program's closure. -/
import Derived.Test.YtlmkjfgomlamhaaJetW
namespace Go.Proofs.Ytlmkjfgomlamhaa
open Go.RowKit
set_option linter.unusedSimpArgs false
set_option linter.unusedVariables false
set_option maxRecDepth 20000

/-- read in the blocks named, or in the memory of before -/
def kB (w0 : World) (lo0 hi0 : Nat) : Kd (List Int) := ⟨fun w l h v xs => ∃ B m d, v = .slice B m d ∧ (Ints w l h B m d xs ∨ Ints w0 lo0 hi0 B m d xs), fun ⟨B, m, d, e, hI⟩ hs => ⟨B, m, d, e, hI.elim (fun h => .inl (h.same hs)) .inr⟩, fun ⟨_, _, _, e, _⟩ => by rw [e]; rfl⟩
theorem Lst.ints2B {T : TypeId} {w0 w : World} {lo0 hi0 lo hi : Nat} {A : Option Addr} {n c : Nat} {vs : List Value} {xss : List (List Int)} (h : Lst (kB w0 lo0 hi0) T (fun _ => True) w lo hi A n c vs xss) (hb : Below hi0 w0 w) (h0 : hi0 ≤ hi) : Ints2 w 0 hi A n c xss := by
  have hc := h.capb
  refine ⟨h.len, hc.1, hc.2, fun hn => ?_⟩
  obtain ⟨g, rfl, h1, h2, _⟩ := h.form hn
  refine ⟨_, rfl, Nat.zero_le _, h2, fun j xs hj => ?_⟩
  obtain ⟨v, l, h', e1, ⟨B, m, d, rfl, e2⟩, e3, e4, _⟩ := h.row j xs hj trivial
  have hvl := h.vlen
  refine ⟨B, m, d, ?_, ?_⟩
  · have hj2 := (List.getElem?_eq_some_iff.1 e1).1
    simpa [Addr.add_lit] using (h.own.cellAt j (by omega)).trans e1
  · rcases e2 with e2 | e2
    · exact e2.wide (Nat.zero_le _) e4
    · exact (e2.below hb (Nat.le_refl _)).wide (Nat.zero_le _) h0

theorem acc_none (y : List Int) (v : Nat → List Int) (ws : List Int) : accJ y v ws 0 = y := rfl

set_option maxRecDepth 100000 in
set_option maxHeartbeats 8000000 in
theorem impl_add (g5 g9 gy dim cy : Nat) (yss : List (List Int)) (lo hi n i : Nat) (R : Option Addr) (nR cR : Nat) (ws : List Int) (lo2 hi2 : Nat) (A : Option Addr) (S cS : Nat) (st : List (List (List Int))) (lo3 hi3 : Nat) (y : List Int) (w : World)
    (h5 : w.cell? ⟨g5, 0, none⟩ = some (.slice (some ⟨gy, 0, none⟩) dim cy)) (h9 : w.cell? ⟨g9, 0, none⟩ = some (.slice A S cS))
    (hy : Ints2 w lo hi (some ⟨gy, 0, none⟩) dim cy yss) (hw : Ints w lo2 hi2 R nR cR ws) (hs : Ints3 w lo3 hi3 A S cS st) (hh : hi ≤ w.heap.size) (hh2 : hi2 ≤ w.heap.size) (hh3 : hi3 ≤ w.heap.size)
    (hN : JNum n yss) (hS : St3 n dim st) (hSW : S ≤ nR) (hi1 : i < dim) (hd6 : dim ≤ 6) (hn : n ≤ 1000) (hS2 : S ≤ 1000) (hyi : yss[i]? = some y) :
    Calls Try.prog 56 #[.int .i64 (i : Int), .slice R nR cR, .pointer (some ⟨g5, 0, none⟩), .pointer (some ⟨g9, 0, none⟩)] w fun e w' => ∃ B d, e = .returned (.slice B n d) ∧ (Ints w' w.heap.size w'.heap.size B n d (accJ y (fun s => (st.getD s []).getD i []) ws S) ∨ Ints w lo hi B n d (accJ y (fun s => (st.getD s []).getD i []) ws S)) ∧ Below w.heap.size w w' := by
  have hcy := hy.cap
  have hmy := hy.max
  have hcW := hw.cap
  have hmW := hw.max
  have hcS := hs.cap
  have hmS := hs.max
  have hsl := hide hs.len
  obtain ⟨ay, B, m, d, y', e, hc, hI, _, hx⟩ := hy.at_ hi1
  injection e with e
  subst e
  obtain rfl : y = y' := by have := hx.out; rw [hyi] at this; injection this
  have hyv := hN y (List.mem_of_getElem? hyi)
  obtain rfl : n = m := by rw [← hI.len]; exact hyv.1.symm
  have hyl := hide hyv.1
  have hyn := hide hyv.2
  have hcd := hI.cap
  have hmd := hI.max
  have hc1 : w.cell? ⟨gy, i, none⟩ = some (.slice B n d) := by simpa [Addr.add_lit] using hc
  have HI := hide hI
  have HW := hide hw
  have HS := hide hs
  have HSt := hide hS
  obtain ⟨v, hv⟩ : ∃ v, v = fun s => (st.getD s []).getD i [] := ⟨_, rfl⟩
  have hvl : Hid (∀ s, s < S → (v s).length = n ∧ (st[s]?.map fun xss => xss[i]?) = some (some (v s))) := fun s hs => by
    have h1 : s < st.length := by rw [hsl.out]; exact hs
    have h2 := HSt.out st[s] (List.getElem_mem h1)
    have h3 : i < st[s].length := by rw [h2.1]; exact hi1
    have h4 : v s = st[s][i] := by rw [hv]; simp [List.getD, h1, h3]
    refine ⟨?_, ?_⟩
    · rw [h4]; exact (h2.2 _ (List.getElem_mem h3)).1
    · rw [h4, List.getElem?_eq_getElem h1]
      show some (st[s][i]?) = _
      rw [List.getElem?_eq_getElem h3]
  rw [← hv]
  have HC9 := hide fun (w' : World) (hB : Below w.heap.size w w') => (hB.cell (p := ⟨g9, 0, none⟩) (World.block_lt_of_cell? w _ h9)).trans h9
  clear hv hc hI hx hyv hy hw hs hN hS hyi
  go_enter Try.func56, Try.ntmps56
  go_wp2_with fail
  clear hc1 h5
  go_loopw [7, 15] (fun o z wr => ∃ (s : Nat) (B : Option Addr) (d : Nat), s ≤ S ∧ z = .int .i64 s ∧ o = .slice B n d ∧ Hid (Ints wr w.heap.size wr.heap.size B n d (accJ y v ws s) ∨ Ints w lo hi B n d (accJ y v ws s)) ∧ Hid (Below w.heap.size w wr)) (fun _ z _ => S - (intOf z).toNat)
  case atStart => exact ⟨0, B, d, by omega, rfl, rfl, .inr HI.out, Below.refl _ _⟩
  case round =>
    clear h9
    obtain ⟨s, B, d, hs, rfl, rfl, hO, hb⟩ := hrel
    have hsz := hb.out.size
    by_cases hlt2 : s < S
    · obtain ⟨hvn, hvat⟩ := hvl.out s hlt2
      have hwlt : s < nR := by omega
      obtain ⟨aw, k, rfl, hcw, hkr, _, hkx⟩ := HW.out.at_ hwlt
      obtain ⟨ast, Bs, ms, ds, xss, rfl, hcs, hIs, hxs⟩ := HS.out.at_ hlt2
      have hxsm := HSt.out xss (List.mem_of_getElem? hxs.out)
      obtain rfl : dim = ms := by rw [← hIs.len]; exact hxsm.1.symm
      obtain ⟨av, Bv, mv, dv, xv, rfl, hcv, hIv, _, hxv⟩ := hIs.at_ hi1
      have hve : v s = xv := by
        rw [hxs.out] at hvat
        simp only [Option.map_some] at hvat
        injection hvat with hvat
        have := hxv.out.symm.trans hvat
        injection this with this
        exact this.symm
      have hvx := (hxsm.2 xv (List.mem_of_getElem? hxv.out))
      obtain rfl : n = mv := by rw [← hIv.len]; exact hvx.1.symm
      have hcs2 := hIs.cap
      have hms2 := hIs.max
      have hcv2 := hIv.cap
      have hmv2 := hIv.max
      have hT : Hid (accJ y v ws (s + 1) = jplus (accJ y v ws s) (later1 xv) k) := by show _ = _; rw [accJ, hve, List.getD, hkx.out]; rfl
      have HCC := hide fun (w' : World) (hB : Below w.heap.size w w') => show w'.cell? ⟨g9, 0, none⟩ = some (.slice (some ast) S cS) ∧ w'.cell? (ast.add s) = some (.slice (some av) dim ds) ∧ w'.cell? (av.add i) = some (.slice Bv n dv) ∧ w'.cell? (aw.add s) = some (.int .i64 k) from
        ⟨HC9.out w' hB, (hB.cell (World.block_lt_of_cell? w _ hcs)).trans hcs, (hB.cell (World.block_lt_of_cell? w _ hcv)).trans hcv, (hB.cell (World.block_lt_of_cell? w _ hcw)).trans hcw⟩
      obtain ⟨c0, c1, c2, c3⟩ := HCC.out _ hb.out
      have hOl : ∃ l h, Ints wr l h B n d (accJ y v ws s) ∧ h ≤ wr.heap.size := by
        rcases hO.out with h | h
        · exact ⟨_, _, h, Nat.le_refl _⟩
        · exact ⟨_, _, h.below hb.out hh, by omega⟩
      obtain ⟨ll, lh, hOi, hlh⟩ := hOl
      have hbd := hide hb.out.drew
      have HOd := hide (hOi.same (w' := wr.drew) (fun _ _ _ => rfl))
      have S1 := hide (HCC.out _ hbd.out)
      have zd : wr.drew.heap.size = wr.heap.size := rfl
      have HLT := hide (impl_later Bv n dv xv lo3 hi3 wr.drew (hIv.below hbd.out hh3) (by omega) hn)
      have hOc := hOi.cap
      have hOm := hOi.max
      clear hcw hcs hcv hIs hIv hve hxs hxv hvat hvx hxsm hvn hkx hOi hO
      go_wp2_with fail
      go_region_held3 (fun w' => w'.cell? ⟨g9, 0, none⟩ = some (.slice (some ast) S cS) ∧ w'.cell? (ast.add s) = some (.slice (some av) dim ds) ∧ w'.cell? (av.add i) = some (.slice Bv n dv) ∧ w'.cell? (aw.add s) = some (.int .i64 k)) (first | exact S1.out | exact T6 | exact T7 | exact ⟨c0, c1, c2, c3⟩ | go_keep)
        (first
          | (go_at_call 58; refine HLT.out.mono ?_; rintro e w6 ⟨g6, rfl, hO6, hb6⟩; have hb7 := hide (hbd.out.trans (hb6.mono (by omega))); have T6 := HCC.out _ hb7.out; have z6 := hb6.size; have HPL := hide (impl_plus B n d (accJ y v ws s) ll lh (some ⟨g6, 0, none⟩) n (later1 xv) _ _ k w6 (HOd.out.below hb6 (by omega)) hO6.ints (by omega) (Nat.le_refl _) hn hkr); clear HLT)
          | (go_at_call 57; refine HPL.out.mono ?_; rintro e w7 ⟨g7, rfl, hO7, hb8⟩; have hb9 := hide (hb7.out.trans (hb8.mono (by omega))); have T7 := HCC.out _ hb9.out; have hI7 := hide (hO7.ints.wide (lo' := w.heap.size) (by omega) (Nat.le_refl _)); clear HPL))
      rw [← hT.out] at hI7
      clear T6 T7 S1 HOd hbd hO6 hO7 hb6 hb8 hb7 c0 c1 c2 c3 hT hb
      go_wp2_with fail
      go_roundw
      case rel => exact ⟨s + 1, _, _, by omega, by go_num, rfl, .inl hI7.out, hb9.out⟩
      case measure => simp [intOf]; omega
    · obtain rfl : S = s := by omega
      go_wp2_with fail
      go_ret
      exact ⟨B, d, rfl, hO.out, hb.out⟩
end Go.Proofs.Ytlmkjfgomlamhaa
