/- Products of polynomials: the program's walk. -/
import Derived.Test.YtjamdnbabfodkaaSoG
import Derived.Test.YtjamdnbabfodkaaJetI
namespace Go.Proofs.Ytjamdnbabfodkaa
open Go.RowKit
set_option linter.unusedSimpArgs false
set_option linter.unusedVariables false
set_option maxRecDepth 20000

def addP (a b : List Int) : List Int := List.zipWith (· + ·) a b
def mulM (a b : Mono) : Mono := (timesF a.1 b.1, addP a.2 b.2)
def mulMF (ms qs : List Mono) : List Mono := ms.flatMap fun a => qs.map (mulM a)
theorem mulMF_len (ms qs : List Mono) : (mulMF ms qs).length = ms.length * qs.length := by
  induction ms with
  | nil => simp [mulMF]
  | cons a r ih =>
    have e : mulMF (a :: r) qs = qs.map (mulM a) ++ mulMF r qs := rfl
    rw [e, List.length_append, ih, List.length_map, List.length_cons, Nat.succ_mul, Nat.add_comm]
theorem mulMF_step {ms qs : List Mono} {k : Nat} {a : Mono} (h : ms[k]? = some a) : mulMF (ms.take (k + 1)) qs = mulMF (ms.take k) qs ++ qs.map (mulM a) := by
  rw [List.take_add_one, h, mulMF, List.flatMap_append]
  simp [mulMF]
theorem mulMF_bd {ms qs : List Mono} {n m k j : Nat} (hn : ms.length = n) (hm : qs.length = m) (hk : k < n) (hj : j < m) (a : Mono) : (mulMF (ms.take k) qs ++ (qs.take j).map (mulM a)).length + 1 ≤ n * m := by
  rw [List.length_append, mulMF_len, List.length_map, List.length_take, List.length_take, hn, hm, Nat.min_eq_left (by omega), Nat.min_eq_left (by omega)]
  have h1 : (k + 1) * m ≤ n * m := Nat.mul_le_mul_right _ hk
  rw [Nat.succ_mul] at h1
  omega
theorem addP_len {a b : List Int} {n : Nat} (ha : a.length = n) (hb : b.length = n) : (addP a b).length = n := by simp [addP, ha, hb]
theorem addP_at {a b : List Int} {i : Nat} {x y : Int} (ha : a[i]? = some x) (hb : b[i]? = some y) : (addP a b)[i]? = some (x + y) := by simp [addP, List.getElem?_zipWith, ha, hb]

theorem Ints.across {w W1 W2 : World} {lo hi : Nat} {A : Option Addr} {n c : Nat} {xs : List Int} (h : Ints W1 lo hi A n c xs) {B : Nat} (b1 : Below B w W1) (b2 : Below B w W2) (hB : hi ≤ B) : Ints W2 lo hi A n c xs :=
  h.same fun k _ h2 => (b2.block k (by omega)).trans (b1.block k (by omega)).symm
theorem blk_grown {w w' : World} {g : Nat} {vs : Array Value} {A : Option Addr} {n c : Nat} (h : BlkN w g vs) (hg : w.grownBy w' (Value.ownBlock (.slice A n c))) (hne : ∀ ad, A = some ad → ad.block ≠ g) : BlkN w' g vs :=
  h.same (hg.block g h.lt fun e => by
    obtain ⟨ad, e1, e2⟩ := ownBlock_eq.1 e.symm
    exact hne ad e1 e2)

set_option maxRecDepth 100000 in
set_option maxHeartbeats 16000000 in
theorem impl_multiply (P : Option Addr) (n c : Nat) (ms : List Mono) (lo hi : Nat) (Q : Option Addr) (n2 c2 : Nat) (qs : List Mono) (lo2 hi2 dim : Nat) (w : World) (h : Mons w lo hi P n c ms) (g : Mons w lo2 hi2 Q n2 c2 qs) (hh : hi ≤ w.heap.size) (hh2 : hi2 ≤ w.heap.size)
    (hT : n * n2 ≤ 549755813888) (hd0 : 0 < dim) (hd1 : dim ≤ 1048576) (hv : ∀ m ∈ ms, m.2.length = dim ∧ ∀ x ∈ m.2, 0 ≤ x ∧ x ≤ 1048576) (hv2 : ∀ m ∈ qs, m.2.length = dim ∧ ∀ x ∈ m.2, 0 ≤ x ∧ x ≤ 1048576) :
    Calls Try.prog 65 #[.slice P n c, .slice Q n2 c2] w fun e w' => ∃ A' n' c', e = .returned (.slice A' n' c') ∧ Mons w' w.heap.size w'.heap.size A' n' c' (mulMF ms qs) ∧ (A' = none → n' = 0 ∧ c' = 0) ∧ Below w.heap.size w w' := by
  obtain ⟨i0, hi0, hz0, hz1, hz2⟩ := info_parts info_mono
  have hcp := h.cap
  have hmx := h.max
  have gcp := g.cap
  have gmx := g.max
  have HP := hide h
  have HQ := hide g
  have HV := hide hv
  have HV2 := hide hv2
  have HT := hide hT
  have hb0 := hide (below_alloc w (.cells #[] 53))
  have hE0 := hide (LstE.empty w w.heap.size (Nat.le_refl _))
  have hz : (w.alloc (.cells #[] 53)).heap.size = w.heap.size + 1 := by simp
  rw [← hz] at hE0
  clear h g hv hv2 hz hT
  go_enter Try.func65, Try.ntmps65
  go_wp2_with fail
  generalize w.alloc (.cells #[] 53) = W0 at hb0 hE0 ⊢
  go_loopw [5, 16] (fun o i wr => ∃ (k n' c' : Nat) (A' : Option Addr) (es : List El), k ≤ n ∧ i = .int .i64 k ∧ o = .slice A' n' c' ∧ Hid (LstE wr w.heap.size wr.heap.size A' n' c' es) ∧ Hid (es.map El.mono = mulMF (ms.take k) qs) ∧ Hid (Below w.heap.size w wr)) (fun _ i _ => n - (intOf i).toNat)
  case atStart => exact ⟨0, 0, 0, _, [], by omega, rfl, rfl, hE0.out, rfl, hb0.out⟩
  case round =>
    clear hE0 hb0
    obtain ⟨k, n', c', A', es, hk, rfl, rfl, hE, hM, hb⟩ := hrel
    have hsz := hb.out.size
    by_cases hlt : k < n
    · obtain ⟨ad, x1, B1, m, d1, xs, rfl, hc1, hc2, hxr, hI, _, hx⟩ := (HP.out.below hb.out hh).at_ hlt
      obtain ⟨hml, hxb⟩ := HV.out _ (List.mem_of_getElem? hx.out)
      simp only at hml hxb
      obtain rfl : m = dim := by rw [← hI.len]; exact hml
      have a1 := below_alloc wr (.cells #[.int .i64 x1, .slice B1 m d1] 53)
      have j7 := hide (BlkN.new wr #[.int .i64 x1, .slice B1 m d1] 53)
      have z1 : (wr.alloc (.cells #[.int .i64 x1, .slice B1 m d1] 53)).heap.size = wr.heap.size + 1 := by simp
      have hI1 := hide (hI.below a1 (by omega))
      have hE1 := hide (hE.out.below a1 (Nat.le_refl _))
      have hb1 := hide (hb.out.trans (a1.mono hsz))
      have HXR := hide hxr
      have HXB := hide hxb
      have hmst := hide (mulMF_step (qs := qs) hx.out)
      clear a1 hI hE hb hxr hx hxb hml
      go_upto_region 5 with fail
      generalize wr.alloc (.cells #[.int .i64 x1, .slice B1 m d1] 53) = W1 at j7 z1 hI1 hE1 hb1 ⊢
      clear hc1 hc2
      obtain ⟨q7, hq7⟩ : ∃ q, q = wr.heap.size := ⟨_, rfl⟩
      rw [← hq7] at j7 z1 hsz hE1 ⊢
      have hqW : q7 < W1.heap.size := by omega
      have hE2 := hide (hE1.out.wide (hi2 := W1.heap.size) (by omega))
      have hne7 := hide fun (ad : Addr) (e : A' = some ad) => (show ad.block ≠ q7 by have := hE1.out.lt ad e; omega)
      clear hq7 z1 hE1
      go_wp2_with fail
      go_loopw [5, 22] (fun o i wr => ∃ (j n' c' : Nat) (A' : Option Addr) (es : List El), j ≤ n2 ∧ i = .int .i64 j ∧ o = .slice A' n' c' ∧ Hid (LstE wr w.heap.size wr.heap.size A' n' c' es) ∧ Hid (es.map El.mono = mulMF (ms.take k) qs ++ (qs.take j).map (mulM (x1, xs))) ∧ Hid (Below w.heap.size w wr) ∧ Hid (BlkN wr q7 #[.int .i64 x1, .slice B1 m d1]) ∧ Hid (∀ ad, A' = some ad → ad.block ≠ q7)) (fun _ i _ => n2 - (intOf i).toNat)
      case atStart => exact ⟨0, n', c', A', es, by omega, rfl, rfl, hE2.out, by show _ = _; rw [hM.out]; simp, hb1.out, j7.out, hne7.out⟩
      case round =>
        clear hE2 hM hne7 j7
        obtain ⟨j, n', c', A', es, hj, rfl, rfl, hE, hM, hb, j7, hne7⟩ := hrel
        have hsz2 := hb.out.size
        by_cases hlt2 : j < n2
        · obtain ⟨ae, x2, B2, m2, d2, ys, rfl, hc1, hc2, hyr, hJ, _, hy⟩ := (HQ.out.below hb.out hh2).at_ hlt2
          obtain ⟨hml2, hyb⟩ := HV2.out _ (List.mem_of_getElem? hy.out)
          simp only at hml2 hyb
          obtain rfl : m2 = m := by rw [← hJ.len]; exact hml2
          have a2 := below_alloc wr (.cells #[.int .i64 x2, .slice B2 m2 d2] 53)
          have j9 := hide (BlkN.new wr #[.int .i64 x2, .slice B2 m2 d2] 53)
          have j7b := hide (j7.out.below a2)
          have z2 : (wr.alloc (.cells #[.int .i64 x2, .slice B2 m2 d2] 53)).heap.size = wr.heap.size + 1 := by simp
          have hJ1 := hide (hJ.below a2 (by omega))
          have hI2 := hide (hI1.out.across hb1.out (hb.out.trans (a2.mono hsz2)) hh)
          have hE1 := hide (hE.out.below a2 (Nat.le_refl _))
          have hb2 := hide (hb.out.trans (a2.mono hsz2))
          have HYR := hide hyr
          have HYB := hide hyb
          have HY := hide hy
          have hlen := hide (mulMF_bd (HP.out.len) (HQ.out.len) hlt hlt2 (x1, xs))
          have hnl := hide hE.out.len
          have hdc := hJ.cap
          have hdm := hJ.max
          clear a2 hJ hE hb hyr hy hyb hml2 j7
          go_upto_region 8 with fail
          generalize wr.alloc (.cells #[.int .i64 x2, .slice B2 m2 d2] 53) = W2 at j9 j7b z2 hJ1 hI2 hE1 hb2 ⊢
          clear hc1 hc2
          obtain ⟨q9, hq9⟩ : ∃ q, q = wr.heap.size := ⟨_, rfl⟩
          rw [← hq9] at j9 z2 hsz2 hE1 ⊢
          have hqW2 : q9 < W2.heap.size := by omega
          have hW12 := hb2.out.size
          have hq72 := j7b.out.lt
          clear hq9 z2
          have T0 : W2.cell? ⟨q7, 0, none⟩ = some (.int .i64 x1) ∧ W2.cell? ⟨q7, 1, none⟩ = some (.slice B1 m2 d1) ∧ W2.cell? ⟨q9, 0, none⟩ = some (.int .i64 x2) := ⟨j7b.out.c 0 rfl, j7b.out.c 1 rfl, j9.out.c 0 rfl⟩
          have T1 : W2.drew.cell? ⟨q7, 0, none⟩ = some (.int .i64 x1) ∧ W2.drew.cell? ⟨q7, 1, none⟩ = some (.slice B1 m2 d1) ∧ W2.drew.cell? ⟨q9, 0, none⟩ = some (.int .i64 x2) := T0
          go_cut [10] (fun s10 wx => Hid (NewM W2 wx s10 (timesF x1 x2) m2 xs))
          case first =>
            as_aux_lemma =>
            have hiw : hi ≤ W2.heap.size := by omega
            have HTC := hide fun (w' : World) (hB : Below W2.heap.size W2 w') => show w'.cell? ⟨q7, 0, none⟩ = some (.int .i64 x1) ∧ w'.cell? ⟨q7, 1, none⟩ = some (.slice B1 m2 d1) ∧ w'.cell? ⟨q9, 0, none⟩ = some (.int .i64 x2) from ⟨(hB.cell (p := ⟨q7, 0, none⟩) hq72).trans T0.1, (hB.cell (p := ⟨q7, 1, none⟩) hq72).trans T0.2.1, (hB.cell (p := ⟨q9, 0, none⟩) hqW2).trans T0.2.2⟩
            have d0 : Below W2.heap.size W2 W2.drew := (Below.refl _ _).drew
            go_region_held3 (fun w' => w'.cell? ⟨q7, 0, none⟩ = some (.int .i64 x1) ∧ w'.cell? ⟨q7, 1, none⟩ = some (.slice B1 m2 d1) ∧ w'.cell? ⟨q9, 0, none⟩ = some (.int .i64 x2)) (first | exact T0 | exact T1 | exact ⟨cell_al T1.1, cell_al T1.2.1, cell_al T1.2.2⟩ | exact TC | exact ⟨cell_al TC.1, cell_al TC.2.1, cell_al TC.2.2⟩ | exact ⟨cell_far2 TC.1 (Nat.ne_of_lt hq72), cell_far2 TC.2.1 (Nat.ne_of_lt hq72), cell_far2 TC.2.2 (Nat.ne_of_lt hqW2)⟩ | go_keep)
              (first
                | (go_at_call 42; refine (impl_Times x1 x2 _ HXR.out HYR.out).mono ?_; rintro e w' ⟨rfl, rfl⟩)
                | (go_at_call 80; refine (slices_Clone B1 m2 d1 xs lo hi _ (hI2.out.below (B := W2.heap.size) (by (repeat (first | with_reducible exact d0 | with_reducible exact Below.refl _ _ | with_reducible refine Below.drew ?_ | ((with_reducible refine Below.alloc ?_ ?_ _); rotate_left; · first | omega | (simp [World.setCell]; done) | (simp [World.setCell]; omega)) | ((with_reducible refine Below.setCell ?_ ?_ _); rotate_left; · first | exact Nat.le_refl _ | omega | (simp; done) | (simp; omega))))) hiw) (by first | exact hiw | (simp; omega)) hd1).mono ?_; rintro e w5 ⟨B3, d3, rfl, o3, b3⟩; have bb : Below W2.heap.size W2 w5 := (by refine Below.trans ?_ (Below.mono b3 ?_); (· (repeat (first | with_reducible exact d0 | with_reducible exact Below.refl _ _ | with_reducible refine Below.drew ?_ | ((with_reducible refine Below.alloc ?_ ?_ _); rotate_left; · first | omega | (simp [World.setCell]; done) | (simp [World.setCell]; omega)) | ((with_reducible refine Below.setCell ?_ ?_ _); rotate_left; · first | exact Nat.le_refl _ | omega | (simp; done) | (simp; omega))))); (· first | exact Nat.le_refl _ | simp)); have szb := bb.size; have TC := HTC.out _ bb; (first | (have kb : BlkN w5 W2.heap.size #[.int .i64 0, .slice none 0 0] := (BlkN.new W2.drew #[.int .i64 0, .slice none 0 0] 53).below b3) | skip); (first | (have y0 := kb.c 0 rfl; have y1 := kb.c 1 rfl; have y2 := kb.f 0; have y3 := kb.f 1; have y4 := kb.lt) | skip); have HO3 := hide o3; clear o3 b3))
            all_goals go_wp2_with fail
            all_goals go_meet
            all_goals first
              | exact newM_alloc (timesF x1 x2) HO3.out (by first | exact Nat.le_refl _ | simp) bb _
              | exact newM_store (timesF x1 x2) HO3.out (by simp) bb kb
          case rest =>
            obtain ⟨b, B3, d3, rfl, hB, hO, hbl, hne, hle⟩ := hcut.out
            clear hcut T0 T1
            obtain ⟨g3, rfl, hg3, hg3h, hg3w⟩ := hO.form (by omega)
            have hgb : ¬ b = g3 := fun e => hne _ rfl e.symm
            have y1 := (j9.out.below hbl).c 1 rfl
            have hdc3 := hO.cap
            have hdm3 := hO.max
            have hmix0 : mixJ (addP xs ys) xs 0 = xs := mixJ_zero _ _
            rw [← hmix0] at hO
            have HO := hide hO
            have HB := hide hB
            have HBL := hide hbl
            clear hmix0 hO hB hbl hne
            go_wp2_with fail
            clear y1
            go_loopw [38] (fun i wr => ∃ (q : Nat), q ≤ m2 ∧ i = .int .i64 q ∧ Hid (OwnI wr W2.heap.size wr.heap.size (some ⟨g3, 0, none⟩) m2 d3 (mixJ (addP xs ys) xs q)) ∧ Hid (BlkN wr b #[.int .i64 (timesF x1 x2), .slice (some ⟨g3, 0, none⟩) m2 d3]) ∧ Hid (Below W2.heap.size W2 wr) ∧ g3 < wr.heap.size) (fun i _ => m2 - (intOf i).toNat)
            case atStart => exact ⟨0, by omega, rfl, HO.out, HB.out, HBL.out, hg3w⟩
            case round =>
              clear HO HB HBL hg3w
              obtain ⟨q, hq, rfl, hO, hB, hbl, hg3w⟩ := hrel
              have hzw := hbl.out.size
              by_cases hlt3 : q < m2
              · obtain ⟨bd, y, rfl, hcy, _, _, hyy⟩ := (hJ1.out.below hbl.out (by omega)).at_ hlt3
                have hyb := HYB.out y (List.mem_of_getElem? hyy.out)
                have hxl : xs.length = m2 := hI2.out.len
                have hyl : ys.length = m2 := hJ1.out.len
                obtain ⟨x, hxx⟩ : ∃ x, xs[q]? = some x := ⟨_, List.getElem?_eq_getElem (by omega)⟩
                have hxb := HXB.out x (List.mem_of_getElem? hxx)
                have hcx := (hO.out.own.cellAt q (by omega)).trans (by rw [List.getElem?_map, mixJ_at (addP_len hxl hyl) hlt3, hxx]; rfl : ((mixJ (addP xs ys) xs q).map (Value.int .i64))[q]? = some (.int .i64 x))
                have hfx := hO.out.own.frozenAt q
                have hcb := hB.out.c 1 rfl
                have hst := (hO.out.own.stored q (.int .i64 (x + y))).1
                rw [← List.map_set, mixJ_set (addP_len hxl hyl) hxl hlt3 (addP_at hxx hyy.out)] at hst
                have hdc5 := hO.out.cap
                have hO2 : Hid (OwnI (wr.setCell ⟨g3, q, none⟩ (.int .i64 (x + y))) W2.heap.size (wr.setCell ⟨g3, q, none⟩ (.int .i64 (x + y))).heap.size (some ⟨g3, 0, none⟩) m2 d3 (mixJ (addP xs ys) xs (q + 1))) :=
                  ⟨hst, fun ad e => (owns_lt hst ad e).2, fun z hz => by
                    rw [← mixJ_set (addP_len hxl hyl) hxl hlt3 (addP_at hxx hyy.out)] at hz
                    rcases List.mem_or_eq_of_mem_set hz with h1 | h1
                    · exact hO.out.rng z h1
                    · rw [h1]; constructor <;> omega⟩
                have hB2 := hide (hB.out.far (b := g3) (i := q) hgb (.int .i64 (x + y)))
                have hbl2 := hide (hbl.out.setCell (p := ⟨g3, q, none⟩) hg3 (.int .i64 (x + y)))
                have hg4 : g3 < (wr.setCell ⟨g3, q, none⟩ (.int .i64 (x + y))).heap.size := by simpa [World.setCell] using hg3w
                have HG4 := hide hg4
                clear hst hO hB hbl hxl hyl hxx hyy hg4 hzw
                go_wp2_with fail
                go_roundw
                case rel => exact ⟨q + 1, by omega, by go_num, hO2.out, hB2.out, hbl2.out, HG4.out⟩
                case measure => simp [intOf]; omega
              · obtain rfl : m2 = q := by omega
                have hxl : xs.length = m2 := hI2.out.len
                have hyl : ys.length = m2 := hJ1.out.len
                rw [mixJ_all (addP_len hxl hyl) hxl] at hO
                have hE3 := hide (hE1.out.below hbl.out (by omega))
                have hb3 := hide (hb2.out.trans (hbl.out.mono hW12))
                have hw3 := hb3.out.size
                have j7c := hide (j7b.out.below hbl.out)
                have r0 := hB.out.c 0 rfl
                have r1 := hB.out.c 1 rfl
                have hq3 : q9 ≤ wr.heap.size := by omega
                have hnn : n' + 1 ≤ 1099511627776 := by
                  have t1 := hlen.out
                  rw [← hM.out, List.length_map, hnl.out] at t1
                  have t2 := HT.out
                  omega
                clear hxl hyl hdc3 hdm3
                go_wp2_with (at_builtin; refine wpl_app1b rfl (.tmp 52) (.tmp 54) 54 rfl w.heap.size 53 i0 (.agg #[.int .i64 0, .slice none 0 0]) 2 32 Try.underlying54 hi0 hz0 hz1 hz2 rfl (by omega) wr #[.int .i64 (timesF x1 x2), .slice (some ⟨g3, 0, none⟩) m2 d3] _ rfl A' n' c' 1 _ rfl rfl hE3.out.own rfl (by simp [Value.oneCell']) hnn (by omega) hw3 ?_; intro A2 c2 w4 happ hlt4)
                have hL := hide (hE3.out.push (e := ⟨timesF x1 x2, some ⟨g3, 0, none⟩, m2, d3, addP xs ys⟩) (timesF_R64 x1 x2) hO.out.ints (by omega) (Nat.le_refl _) hsz2 hq3 happ)
                have hB4 := hide (happ.low hb3.out hw3 (Nat.le_refl _) hE3.out.own)
                have j7d := hide (blk_grown j7c.out happ.2.1 hne7.out)
                have hne8 : Hid (∀ ad, A2 = some ad → ad.block ≠ q7) := fun ad e => by
                  rcases happ.2.2 with h1 | h1
                  · exact hne7.out ad (h1 ad e)
                  · have := h1 ad e
                    omega
                have hM4 : Hid ((es ++ [(⟨timesF x1 x2, some ⟨g3, 0, none⟩, m2, d3, addP xs ys⟩ : El)]).map El.mono = mulMF (ms.take k) qs ++ (qs.take (j + 1)).map (mulM (x1, xs))) := by
                  show _ = _
                  rw [List.map_append, hM.out, List.take_add_one, HY.out, List.map_append, List.append_assoc]
                  rfl
                clear happ hE3 hb3 j7c hO hB hbl r0 r1 hE1 hne7 j7b
                go_wp2_with fail
                go_roundw
                case rel => exact ⟨j + 1, n' + 1, c2, A2, _, by omega, by go_num, rfl, hL.out, hM4.out, hB4.out, j7d.out, hne8.out⟩
                case measure => simp [intOf]; omega
        · obtain rfl : n2 = j := by omega
          have hM4 : Hid (es.map El.mono = mulMF (ms.take (k + 1)) qs) := by
            show _ = _
            rw [hmst.out, hM.out, List.take_of_length_le (Nat.le_of_eq HQ.out.len)]
          go_wp2_with fail
          go_roundw
          case rel => exact ⟨k + 1, n', c', A', es, by omega, by go_num, rfl, hE.out, hM4.out, hb.out⟩
          case measure => simp [intOf]; omega
    · obtain rfl : n = k := by omega
      have hle : Hid (es.map El.mono = mulMF ms qs) := by
        show _ = _
        rw [hM.out, List.take_of_length_le (Nat.le_of_eq HP.out.len)]
      have hmo := hide hE.out.mons
      have hnc := hide hE.out.nil_cap
      rw [hle.out] at hmo
      go_wp2_with fail
      go_ret
      exact ⟨_, _, _, rfl, hmo.out, hnc.out, hb.out⟩
end Go.Proofs.Ytjamdnbabfodkaa
