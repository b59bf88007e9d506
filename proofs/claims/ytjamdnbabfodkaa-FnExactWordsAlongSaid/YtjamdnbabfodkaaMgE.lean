/- What a field makes of a polynomial: the program's walk. -/
import Derived.Test.YtjamdnbabfodkaaMgC
import Derived.Test.YtjamdnbabfodkaaSoH
namespace Go.Proofs.Ytjamdnbabfodkaa
open Go.RowKit
set_option linter.unusedSimpArgs false
set_option linter.unusedVariables false
set_option maxRecDepth 20000

/-- the stable sort of an empty row -/
theorem lib_insertion0 (A : Option Addr) (c : Nat) (w : World) :
    Calls Try.prog 93 #[.slice A 0 c, .int .i64 0, .int .i64 0, .func (.func 82) #[] #[]] w fun r w' => r = .returned (.tuple #[]) ∧ w = w' := by
  go_enter Try.func93, Try.ntmps93
  go_wp2_with fail
  go_loopw [8] (fun i wr => i = .int .i64 1 ∧ wr = w) (fun _ _ => 0)
  case atStart => exact ⟨rfl, rfl⟩
  case round =>
    obtain ⟨rfl, rfl⟩ := hrel
    go_wp2_with fail
    go_end0
    exact ⟨rfl, rfl⟩
theorem lib_stable0 (A : Option Addr) (c : Nat) (w : World) :
    Calls Try.prog 90 #[.slice A 0 c, .int .i64 0, .func (.func 82) #[] #[]] w fun r w' => r = .returned (.tuple #[]) ∧ w = w' := by
  go_enter Try.func90, Try.ntmps90
  go_wp2_with fail
  go_loopw [7, 8] (fun x y wr => x = .int .i64 0 ∧ y = .int .i64 20 ∧ wr = w) (fun _ _ _ => 0)
  case atStart => exact ⟨rfl, rfl, rfl⟩
  case round =>
    obtain ⟨rfl, rfl, rfl⟩ := hrel
    go_wp2_with fail
    refine (lib_insertion0 A c wr).mono ?_
    rintro r w1 ⟨rfl, rfl⟩
    go_wp2_with fail
    go_loopw [6] (fun x wr2 => x = .int .i64 20 ∧ wr2 = wr) (fun _ _ => 0)
    case atStart => exact ⟨rfl, rfl⟩
    case round =>
      obtain ⟨rfl, rfl⟩ := hrel
      go_wp2_with fail
      go_end0
      exact ⟨rfl, rfl⟩
theorem lib_SortStable0 (A : Option Addr) (c : Nat) (w : World) :
    Calls Try.prog 81 #[.slice A 0 c, .func (.func 82) #[] #[]] w fun r w' => r = .returned (.tuple #[]) ∧ w = w' := by
  go_enter Try.func81, Try.ntmps81
  go_wp2_with fail
  refine (lib_stable0 A c w).mono ?_
  rintro r w1 ⟨rfl, rfl⟩
  go_wp2_with fail
  go_end0
  exact ⟨rfl, rfl⟩
theorem impl_collect0 (A : Option Addr) (c : Nat) (w : World) :
    Calls Try.prog 67 #[.slice A 0 c] w fun r w' => ∃ A' n' c', r = .returned (.slice A' n' c') ∧ Mons w' w.heap.size w'.heap.size A' n' c' [] ∧ Below w.heap.size w w' := by
  have ho0 : (w.alloc (.cells #[] 53)).ownsRow w.heap.size 53 2 (.slice (some ⟨w.heap.size, 0, none⟩) 0 0) 0 (([] : List El).flatMap El.cells) := by
    simpa using World.ownsRow_lit (size := 2) (e := 53) w #[] 0 (Nat.le_refl _) (by unfold maxLen; omega) rfl
  have HD := hide (lib_DeleteFunc w.heap.size 0 0 (some ⟨w.heap.size, 0, none⟩) [] (w.alloc (.cells #[] 53)) ho0 rfl (by simp) (by omega))
  have hb0 := hide (below_alloc w (.cells #[] 53))
  clear ho0
  go_enter Try.func67, Try.ntmps67
  go_wp2_with fail
  refine (lib_SortStable0 A c w).mono ?_
  rintro r w1 ⟨rfl, rfl⟩
  go_wp2_with fail
  go_loopw [3, 12] (fun o i wr => i = .int .i64 0 ∧ o = .slice (some ⟨w.heap.size, 0, none⟩) 0 0 ∧ wr = w.alloc (.cells #[] 53)) (fun _ _ _ => 0)
  case atStart => exact ⟨rfl, rfl, rfl⟩
  case round =>
    obtain ⟨rfl, rfl, rfl⟩ := hrel
    go_wp2_with fail
    refine HD.out.mono ?_
    rintro r w2 ⟨A3, n3, c3, rfl, hR, b2⟩
    have hB := hide (hb0.out.trans b2)
    have HR := hide hR
    clear hR b2 HD hb0
    go_wp2_with fail
    go_ret
    have h0 : n3 = 0 := by have := HR.out.len; simpa using this.symm
    subst h0
    exact ⟨A3, 0, c3, rfl, ⟨rfl, HR.out.cap, HR.out.max, fun h => absurd h (by omega)⟩, hB.out⟩

theorem Mons.across2 {w W1 W2 : World} {lo hi : Nat} {A : Option Addr} {n c : Nat} {ms : List Mono} (h : Mons W1 lo hi A n c ms) {B : Nat} (b1 : Below B w W1) (b2 : Below B w W2) (hB : hi ≤ B) : Mons W2 lo hi A n c ms :=
  h.same fun k _ h2 => (b2.block k (by omega)).trans (b1.block k (by omega)).symm

/-- the derivative of a polynomial along the parts of a field, from the variable i on -/
def flowGo (ms : List Mono) : Nat → List (List Mono) → List Mono
  | _, [] => []
  | i, p :: r => mulMF (partF ms i) p ++ flowGo ms (i + 1) r
theorem flow_step (ms : List Mono) : ∀ (ps : List (List Mono)) (i k : Nat) (p : List Mono), ps[k]? = some p → flowGo ms i (ps.take (k + 1)) = flowGo ms i (ps.take k) ++ mulMF (partF ms (i + k)) p
  | [], _, _, _, h => by simp at h
  | q :: r, i, 0, p, h => by
    simp at h
    subst h
    simp [flowGo]
  | q :: r, i, k + 1, p, h => by
    have ih := flow_step ms r (i + 1) k p (by simpa using h)
    rw [List.take_succ_cons, flowGo, ih, List.take_succ_cons, flowGo, List.append_assoc, show i + 1 + k = i + (k + 1) by omega]
theorem partF_len (ms : List Mono) (v : Nat) : (partF ms v).length ≤ ms.length := List.length_filterMap_le _ _
theorem partM_some {v : Nat} {m m' : Mono} (h : partM v m = some m') : 0 < m.2.getD v 0 ∧ m' = (timesF m.1 (m.2.getD v 0), m.2.set v (m.2.getD v 0 - 1)) := by
  unfold partM at h
  split at h
  · rename_i h0
    exact ⟨h0, by injection h with h; exact h.symm⟩
  · cases h
theorem partF_mem {ms : List Mono} {v dim : Nat} {C : Int} (hms : ∀ m ∈ ms, m.2.length = dim ∧ ∀ x ∈ m.2, 0 ≤ x ∧ x ≤ C) : ∀ m ∈ partF ms v, (m.2.length = dim ∧ ∀ x ∈ m.2, 0 ≤ x ∧ x ≤ C) ∧ 0 ≤ m.1 ∧ m.1 < 1000000271 := by
  intro m hm
  simp only [partF, List.mem_filterMap] at hm
  obtain ⟨m0, h0, h1⟩ := hm
  obtain ⟨h2, rfl⟩ := partM_some h1
  obtain ⟨h3, h4⟩ := hms m0 h0
  refine ⟨⟨by simpa using h3, fun x hx => ?_⟩, timesF_bd _ _⟩
  rcases List.mem_or_eq_of_mem_set hx with h5 | h5
  · exact h4 x h5
  · have hv : v < m0.2.length := by
      rcases Nat.lt_or_ge v m0.2.length with h6 | h6
      · exact h6
      · rw [List.getD, List.getElem?_eq_none h6] at h2
        simp at h2
    have h7 := h4 _ (List.getElem_mem hv)
    have h8 : m0.2.getD v 0 = m0.2[v] := by simp [List.getD, hv]
    rw [h8] at h2 h5
    rw [h5]
    omega

set_option maxRecDepth 100000 in
set_option maxHeartbeats 8000000 in
theorem impl_flowed (P : Option Addr) (n c : Nat) (ms : List Mono) (lo hi : Nat) (o : Int) (F : Option Addr) (k e : Nat) (ps : List (List Mono)) (lo2 hi2 dim : Nat) (w : World) (h : Mons w lo hi P n c ms) (g : Mons2 w lo2 hi2 F k e ps) (hh : hi ≤ w.heap.size) (hh2 : hi2 ≤ w.heap.size)
    (hn : n ≤ 2000000000) (hk : k = dim) (hd0 : 0 < dim) (hd1 : dim ≤ 6) (hv : ∀ m ∈ ms, m.2.length = dim ∧ ∀ x ∈ m.2, 0 ≤ x ∧ x ≤ 1048576) (hv2 : ∀ p ∈ ps, p.length ≤ 12 ∧ ∀ m ∈ p, m.2.length = dim ∧ ∀ x ∈ m.2, 0 ≤ x ∧ x ≤ 1048576) :
    Calls Try.prog 39 #[.slice P n c, .agg #[.int .i64 o, .slice F k e]] w fun r w' => ∃ A' n' c' ms', r = .returned (.slice A' n' c') ∧ Mons w' w.heap.size w'.heap.size A' n' c' ms' ∧ ColP (flowGo ms 0 ps) ms' ∧ Below w.heap.size w w' := by
  subst hk
  obtain ⟨i0, hi0, hz0, hz1, hz2⟩ := info_parts info_mono
  have hcp := h.cap
  have hmx := h.max
  have gcp := g.cap
  have gmx := g.max
  have HP := hide h
  have HG := hide g
  have HV := hide hv
  have HV2 := hide hv2
  have a1 := below_alloc w (.cells #[.int .i64 o, .slice F k e] 36)
  have z1 : (w.alloc (.cells #[.int .i64 o, .slice F k e] 36)).heap.size = w.heap.size + 1 := by simp
  have a2 := a1.trans ((below_alloc (w.alloc (.cells #[.int .i64 o, .slice F k e] 36)) (.cells #[] 53)).mono a1.size)
  have E0 := LstE.empty (w.alloc (.cells #[.int .i64 o, .slice F k e] 36)) w.heap.size a1.size
  rw [z1] at E0
  have E1 := hide (E0.wide (hi2 := ((w.alloc (.cells #[.int .i64 o, .slice F k e] 36)).alloc (.cells #[] 53)).heap.size) (by simp))
  have hb0 := hide a2
  have hcapn := hide hv
  clear h g hv hv2 a1 a2 E0 z1 hcapn
  go_enter Try.func39, Try.ntmps39
  go_wp2_with fail
  generalize (w.alloc (.cells #[.int .i64 o, .slice F k e] 36)).alloc (.cells #[] 53) = W0 at hb0 E1 ⊢
  go_loopw [5, 12] (fun u i wr => ∃ (q n' c' : Nat) (A' : Option Addr) (es : List El), q ≤ k ∧ i = .int .i64 q ∧ u = .slice A' n' c' ∧ n' ≤ q * 24000000000 ∧ Hid (LstE wr w.heap.size wr.heap.size A' n' c' es) ∧ Hid (es.map El.mono = flowGo ms 0 (ps.take q)) ∧ Hid (Below w.heap.size w wr) ∧ Hid (∀ e ∈ es, 0 ≤ e.x ∧ e.x < 1000000271)) (fun _ i _ => k - (intOf i).toNat)
  case atStart => exact ⟨0, 0, 0, _, [], by omega, rfl, rfl, by omega, E1.out, rfl, hb0.out, (fun e he => absurd he (by simp) : ∀ e ∈ ([] : List El), 0 ≤ e.x ∧ e.x < 1000000271)⟩
  case round =>
    clear E1 hb0
    obtain ⟨q, n', c', A', es, hq, rfl, rfl, hnq, hE, hM, hb, hX⟩ := hrel
    have hsz := hb.out.size
    by_cases hlt : q < k
    · obtain ⟨ad, B, m, d, p, rfl, hc1, hp, _, hx⟩ := (HG.out.below hb.out hh2).at_ hlt
      obtain ⟨hpl, hpv⟩ := HV2.out p (List.mem_of_getElem? hx.out)
      have hml : m ≤ 12 := by rw [← hp.len]; exact hpl
      have hmc := hp.cap
      have hmm := hp.max
      have HPP := hide hp
      have HPV := hide hpv
      have hst := hide (flow_step ms ps 0 q p hx.out)
      have HC1 := hide (impl_partial P n c ms lo hi q wr (HP.out.below hb.out hh) (by omega) (by omega) (fun m hm => ⟨by rw [(HV.out m hm).1]; omega, by rw [(HV.out m hm).1]; omega⟩) (by omega))
      clear hp hpv hx hpl
      go_wp2_with fail
      refine HC1.out.mono ?_
      rintro r w1 ⟨A1, n1, c1, rfl, hP1, hn1, hb1⟩
      have HP1 := hide hP1
      have hB1 := hide (hb.out.trans (hb1.mono hsz))
      have hE1 := hide (hE.out.below hb1 (Nat.le_refl _))
      have hc11 := hP1.cap
      have hc12 := hP1.max
      have hwz := hb1.size
      have hnm : n1 * m ≤ 24000000000 := by
        have h1 : n1 * m ≤ n1 * 12 := Nat.mul_le_mul_left _ hml
        have h2 : n1 ≤ 2000000000 := by omega
        have h3 : n1 * 12 ≤ 2000000000 * 12 := Nat.mul_le_mul_right _ h2
        omega
      have HC2 := hide (impl_multiply A1 n1 c1 (partF ms q) wr.heap.size w1.heap.size B m d p lo2 hi2 k w1 hP1 (HPP.out.across2 hb.out hB1.out hh2) (Nat.le_refl _) (by have := hB1.out.size; omega) (by omega) hd0 (by omega) (fun m hm => (partF_mem HV.out m hm).1) HPV.out)
      clear hP1 hb1 HC1 hb hE
      go_wp2_with fail
      refine HC2.out.mono ?_
      rintro r w2 ⟨A2, n2, c2, rfl, hP2, hnc, hb2⟩
      have hB2 := hide (hB1.out.trans (hb2.mono hB1.out.size))
      have hE2 := hide (hE1.out.below hb2 hwz)
      have hzz2 := hb2.size
      obtain ⟨fs, hf1, hf2, hf3⟩ := hP2.els
      have hfl : fs.length = n2 := by rw [← hP2.len, ← hf1, List.length_map]
      have hn2l : n2 = (partF ms q).length * p.length := by rw [← hP2.len, mulMF_len]
      have hn2b : n2 ≤ 24000000000 := by rw [hn2l, HP1.out.len, HPP.out.len]; exact hnm
      have hnq2 : n' + n2 ≤ (q + 1) * 24000000000 := by omega
      have hnn : n' + n2 ≤ 1099511627776 := by omega
      have hw2 := hB2.out.size
      have HF1 := hide hf1
      have HF2 := hide hf2
      have HF3 := hide hf3
      have HFL := hide hfl
      have HNC := hide hnc
      have hc21 := hP2.cap
      have hc22 := hP2.max
      clear hP2 hnc hb2 HC2 hf1 hf2 hf3 hn2l hn2b hfl
      go_wp2_with (at_builtin; refine wpl_app rfl (.tmp 17) (.tmp 22) 54 rfl w2 w.heap.size 53 i0 (.agg #[.int .i64 0, .slice none 0 0]) 2 32 Try.underlying54 hi0 hz0 hz1 hz2 rfl (by omega) A' n' c' (es.flatMap El.cells) rfl hE2.out.own A2 n2 c2 (fs.flatMap El.cells) rfl (by rw [elc_len, HFL.out]) (fun ad e => HF3.out ad e) HNC.out (elc_one fs) hnn (by omega) hw2 ?_; intro A3 c3 w3 happ)
      have hE3 : Hid (LstE w3 w.heap.size w3.heap.size A3 (n' + n2) c3 (es ++ fs)) := by
        have e := happ
        rw [← HFL.out] at e
        have := hE2.out.cat (fs := fs) (l := w1.heap.size) (q := w2.heap.size) HF2.out hwz (Nat.le_refl _) hsz (by omega) e
        rw [HFL.out] at this
        exact this
      have hB3 := hide (happ.low hB2.out hw2 (Nat.le_refl _) hE2.out.own)
      have hM3 : Hid ((es ++ fs).map El.mono = flowGo ms 0 (ps.take (q + 1))) := by
        show _ = _
        rw [List.map_append, hM.out, HF1.out, hst.out, Nat.zero_add]
      have hX3 : Hid (∀ e ∈ es ++ fs, 0 ≤ e.x ∧ e.x < 1000000271) := fun e he => by
        rcases List.mem_append.1 he with h1 | h1
        · exact hX.out e h1
        · have h2 : e.mono ∈ mulMF (partF ms q) p := by rw [← HF1.out]; exact List.mem_map_of_mem h1
          simp only [mulMF, List.mem_flatMap, List.mem_map] at h2
          obtain ⟨a, _, b, _, h3⟩ := h2
          have h4 : e.x = timesF a.1 b.1 := by rw [show e.x = e.mono.1 from rfl, ← h3]; rfl
          rw [h4]; exact timesF_bd _ _
      clear happ hE2 HF1 HF2 HF3 HFL HNC hM hX
      go_wp2_with fail
      go_roundw
      case rel => exact ⟨q + 1, n' + n2, c3, A3, es ++ fs, by omega, by go_num, rfl, hnq2, hE3.out, hM3.out, hB3.out, hX3.out⟩
      case measure => simp [intOf]; omega
    · obtain rfl : k = q := by omega
      rw [List.take_of_length_le (Nat.le_of_eq HG.out.len)] at hM
      by_cases hn0 : n' = 0
      · subst hn0
        have hes : es = [] := List.eq_nil_of_length_eq_zero hE.out.len
        subst hes
        have hfl : Hid (flowGo ms 0 ps = []) := by show _ = _; rw [← hM.out]; rfl
        have HC := hide (impl_collect0 A' c' wr)
        go_wp2_with fail
        refine HC.out.mono ?_
        rintro r w1 ⟨A1, n1, c1, rfl, hP1, hb1⟩
        have HP1 := hide (hP1.wide hsz (Nat.le_refl _))
        have HB1 := hide (hb.out.trans (hb1.mono hsz))
        clear hP1 hb1 HC
        go_wp2_with fail
        go_ret
        refine ⟨A1, n1, c1, [], rfl, HP1.out, ?_, HB1.out⟩
        rw [hfl.out]
        exact ⟨Nat.le_refl _, by simp, by simp, fun _ => rfl⟩
      · obtain ⟨ga, rfl, hg1, hg2, hg3⟩ := hE.out.form (by omega)
        have hMM := hM.out
        have HC := hide (impl_collect ga n' c' es w.heap.size wr.heap.size wr hE.out (Nat.le_refl _) hsz (by omega) hX.out)
        rw [hMM] at HC
        clear hMM
        go_wp2_with fail
        refine HC.out.mono ?_
        rintro r w1 ⟨A1, n1, c1, ms', rfl, hP1, hcol, ht⟩
        have HP1 := hide hP1
        have HCL := hide hcol
        have HB1 := hide (hb.out.trans (ht.below hg1 hsz))
        clear hP1 hcol ht HC
        go_wp2_with fail
        go_ret
        exact ⟨A1, n1, c1, ms', rfl, HP1.out, HCL.out, HB1.out⟩
end Go.Proofs.Ytjamdnbabfodkaa
/- The value of a polynomial at a point, and whether a field is low: the program's walks. -/
namespace Go.Proofs.Ytjamdnbabfodkaa
open Go.RowKit
set_option linter.unusedSimpArgs false
set_option linter.unusedVariables false
set_option maxRecDepth 20000

/-- the value of a monomial whose powers are those given, of the variables from v on -/
def monV (ys : List Int) : List Int → Nat → Int → Int
  | [], _, n => n
  | k :: r, v, n => monV ys r (v + 1) (timesF n (powF (ys.getD v 0) k))
def valV (ys : List Int) : List Mono → Int → Int
  | [], o => o
  | m :: r, o => valV ys r (plusF o (monV ys m.2 0 m.1))
theorem monV_R64 (ys : List Int) : ∀ (l : List Int) (v : Nat) (n : Int), R64 n → R64 (monV ys l v n)
  | [], _, _, h => h
  | k :: r, v, n, _ => monV_R64 ys r (v + 1) _ (timesF_R64 _ _)

set_option maxRecDepth 100000 in
set_option maxHeartbeats 4000000 in
theorem impl_valueAt (P : Option Addr) (n c : Nat) (ms : List Mono) (lo hi : Nat) (Y : Option Addr) (m d : Nat) (ys : List Int) (lo2 hi2 : Nat) (w : World) (h : Mons w lo hi P n c ms) (g : Ints w lo2 hi2 Y m d ys) (hh : hi ≤ w.heap.size) (hh2 : hi2 ≤ w.heap.size)
    (hv : ∀ q ∈ ms, q.2.length = m) :
    Calls Try.prog 43 #[.slice P n c, .slice Y m d] w fun r w' => r = .returned (.int .i64 (valV ys ms 0)) ∧ Below w.heap.size w w' := by
  have hcp := h.cap
  have hmx := h.max
  have gcp := g.cap
  have gmx := g.max
  have HP := hide h
  have HG := hide g
  have HV := hide hv
  clear h g hv
  go_enter Try.func43, Try.ntmps43
  go_wp2_with fail
  go_loopw [5, 13] (fun o i wr => ∃ (k : Nat) (s : Int), k ≤ n ∧ i = .int .i64 k ∧ o = .int .i64 s ∧ Hid (R64 s) ∧ Hid (valV ys ms 0 = valV ys (ms.drop k) s) ∧ Hid (Below w.heap.size w wr)) (fun _ i _ => n - (intOf i).toNat)
  case atStart => exact ⟨0, 0, by omega, rfl, rfl, by show R64 0; constructor <;> omega, rfl, Below.refl _ _⟩
  case round =>
    obtain ⟨k, s, hk, rfl, rfl, hsr, hS, hb⟩ := hrel
    have hsz := hb.out.size
    by_cases hlt : k < n
    · obtain ⟨ad, x, B, q, dq, xs, rfl, hc1, hc2, hxr, hI, hd, hx⟩ := (HP.out.below hb.out hh).at_ hlt
      have hql := HV.out _ (List.mem_of_getElem? hx.out)
      simp only at hql
      obtain rfl : q = m := by rw [← hI.len]; exact hql
      have a1 := below_alloc wr (.cells #[.int .i64 x, .slice B q dq] 53)
      have j7 := hide (BlkN.new wr #[.int .i64 x, .slice B q dq] 53)
      have hI1 := hide (hI.below a1 (by omega))
      have hb1 := hide (hb.out.trans (a1.mono hsz))
      have hdc := hI.cap
      have hdm := hI.max
      have hS1 : Hid (valV ys ms 0 = valV ys (ms.drop (k + 1)) (plusF s (monV ys xs 0 x))) := by show _ = _; rw [hS.out, hd.out, valV]
      have HXR := hide hxr
      clear a1 hI hb hd hx hS hxr hql
      go_upto_region 5 with fail
      generalize wr.alloc (.cells #[.int .i64 x, .slice B q dq] 53) = W1 at j7 hI1 hb1 ⊢
      clear hc1 hc2
      obtain ⟨b, hbq⟩ : ∃ q, q = wr.heap.size := ⟨_, rfl⟩
      rw [← hbq] at j7 ⊢
      clear hbq hsz
      have t0 := j7.out.c 0 rfl
      have t1 := j7.out.c 1 rfl
      have hw1 := hb1.out.size
      go_wp2_with fail
      clear t0 t1
      go_loopw [8, 22] (fun nn i wr2 => ∃ (v : Nat) (z : Int), v ≤ q ∧ i = .int .i64 v ∧ nn = .int .i64 z ∧ Hid (R64 z) ∧ Hid (monV ys xs 0 x = monV ys (xs.drop v) v z) ∧ wr2 = W1) (fun _ i _ => q - (intOf i).toNat)
      case atStart => exact ⟨0, x, by omega, rfl, rfl, HXR.out, rfl, rfl⟩
      case round =>
        obtain ⟨v, z, hv, rfl, rfl, hzr, hZ, rfl⟩ := hrel
        by_cases hlt2 : v < q
        · obtain ⟨bd, p, rfl, hcp, hpr, hdp, hxp⟩ := hI1.out.at_ hlt2
          obtain ⟨be, y, rfl, hcy, hyr, _, hyy⟩ := (HG.out.below hb1.out hh2).at_ hlt2
          have hgd : ys.getD v 0 = y := by rw [List.getD, hyy.out]; rfl
          have hZ2 : Hid (monV ys xs 0 x = monV ys (xs.drop (v + 1)) (v + 1) (timesF z (powF y p))) := by show _ = _; rw [hZ.out, hdp.out, monV, hgd]
          have hpb := powF_bd y p
          have HPo := hide (impl_Power y p wr hyr hpr)
          have HTi := hide (impl_Times z (powF y p) wr hzr.out (by constructor <;> omega))
          have hR2 := hide (timesF_R64 z (powF y p))
          clear hyr hpr hdp hxp hyy hgd hZ hzr hpb
          go_wp2_with (first
            | (go_at_call 70; refine HPo.out.mono ?_; rintro r w9 ⟨rfl, rfl⟩)
            | (go_at_call 42; refine HTi.out.mono ?_; rintro r w9 ⟨rfl, rfl⟩))
          go_roundw
          case rel => exact ⟨v + 1, _, by omega, by go_num, rfl, hR2.out, hZ2.out, by first | rfl | trivial⟩
          case measure => simp [intOf]; omega
        · obtain rfl : q = v := by omega
          rw [List.drop_eq_nil_of_le (Nat.le_of_eq hI1.out.len), monV] at hZ
          have hS2 : Hid (valV ys ms 0 = valV ys (ms.drop (k + 1)) (plusF s z)) := by show _ = _; rw [hS1.out, hZ.out]
          have HPl := hide (impl_Plus s z wr hsr.out hzr.out)
          have hpb := plusF_bd s z
          have hR2 : Hid (R64 (plusF s z)) := by show R64 _; constructor <;> omega
          clear hS1 hZ hpb
          go_wp2_with (go_at_call 41; refine HPl.out.mono ?_; rintro r w9 ⟨rfl, rfl⟩)
          go_roundw
          case rel => exact ⟨k + 1, _, by omega, by go_num, rfl, hR2.out, hS2.out, hb1.out⟩
          case measure => simp [intOf]; omega
    · obtain rfl : n = k := by omega
      rw [List.drop_eq_nil_of_le (Nat.le_of_eq HP.out.len), valV] at hS
      go_wp2_with fail
      go_ret
      exact ⟨ret_int hS.out.symm, hb.out⟩

/-- no monomial has powers with a sum of more than 2 -/
def lowP (p : List Mono) : Bool := p.all fun m => decide (degGo 0 m.2 ≤ 2)
def lowF (ps : List (List Mono)) : Bool := ps.all lowP
theorem all_step {α : Type} {f : α → Bool} {l : List α} {k : Nat} {a : α} {b : Bool} (hb : b = (l.drop k).all f) (hd : l.drop k = a :: l.drop (k + 1)) (ha : f a = true) : b = (l.drop (k + 1)).all f := by rw [hb, hd, List.all_cons, ha, Bool.true_and]
theorem all_no {α : Type} {f : α → Bool} {l : List α} {k : Nat} {a : α} {b : Bool} (hb : b = (l.drop k).all f) (hd : l.drop k = a :: l.drop (k + 1)) (ha : f a = false) : b = false := by rw [hb, hd, List.all_cons, ha, Bool.false_and]

set_option maxRecDepth 100000 in
set_option maxHeartbeats 4000000 in
theorem impl_low (o : Int) (A : Option Addr) (n c : Nat) (ps : List (List Mono)) (lo hi : Nat) (w : World) (h : Mons2 w lo hi A n c ps) (hh : hi ≤ w.heap.size) (hlen : ∀ p ∈ ps, ∀ m ∈ p, m.2.length ≤ 1048576) :
    Calls Try.prog 36 #[.agg #[.int .i64 o, .slice A n c]] w fun r w' => r = .returned (.bool (lowF ps)) ∧ Below w.heap.size w w' := by
  have hcp := h.cap
  have hmx := h.max
  have HP := hide h
  have HL := hide hlen
  have hb0 := hide (below_alloc w (.cells #[.int .i64 o, .slice A n c] 36))
  clear h hlen
  go_enter Try.func36, Try.ntmps36
  go_wp2_with fail
  generalize w.alloc (.cells #[.int .i64 o, .slice A n c] 36) = W0 at hb0 ⊢
  go_loopw [10] (fun i wr => ∃ (k : Nat), k ≤ n ∧ i = .int .i64 k ∧ Hid (lowF ps = (ps.drop k).all lowP) ∧ Hid (Below w.heap.size w wr)) (fun i _ => n - (intOf i).toNat)
  case atStart => exact ⟨0, by omega, rfl, rfl, hb0.out⟩
  case round =>
    clear hb0
    obtain ⟨k, hk, rfl, hS, hb⟩ := hrel
    have hsz := hb.out.size
    by_cases hlt : k < n
    · obtain ⟨ad, B, m, d, p, rfl, hc1, hp, hd, hx⟩ := (HP.out.below hb.out hh).at_ hlt
      have hpl := hide (HL.out p (List.mem_of_getElem? hx.out))
      have HPP := hide hp
      have hmc := hp.cap
      have hmm := hp.max
      have HB := hide hb.out
      clear hp hx
      go_wp2_with fail
      go_loopw [16] (fun i wr2 => ∃ (j : Nat), j ≤ m ∧ i = .int .i64 j ∧ Hid (lowP p = (p.drop j).all fun m => decide (degGo 0 m.2 ≤ 2)) ∧ Hid (Below w.heap.size w wr2)) (fun i _ => m - (intOf i).toNat)
      case atStart => exact ⟨0, by omega, rfl, rfl, hb.out⟩
      case round =>
        clear hb
        obtain ⟨j, hj, rfl, hT, hb⟩ := hrel
        have hsz2 := hb.out.size
        by_cases hlt2 : j < m
        · obtain ⟨ae, x, B2, m2, d2, xs, rfl, hc3, hc4, hxr, hI, hd2, hx2⟩ := (HPP.out.across2 HB.out hb.out hh).at_ hlt2
          have hxl := hpl.out _ (List.mem_of_getElem? hx2.out)
          simp only at hxl
          have a1 := below_alloc wr (.cells #[.int .i64 x, .slice B2 m2 d2] 53)
          have hb1 := hide (hb.out.trans (a1.mono hsz2))
          have hI1 := hI.below a1 (by omega)
          have HD := hide (impl_degree B2 m2 d2 xs lo hi _ hI1 (by rw [← hI.len]; exact hxl))
          have hdc := hI.cap
          have hdm := hI.max
          have hbd := degGo_bd xs 0 (by omega)
          clear a1 hI1 hI hb hxr hx2
          by_cases hdeg : degGo 0 xs ≤ 2
          · have hT2 : Hid (lowP p = (p.drop (j + 1)).all fun m => decide (degGo 0 m.2 ≤ 2)) := all_step hT.out hd2.out (by simpa using hdeg)
            obtain ⟨dg, hdg⟩ : ∃ dg, dg = degGo 0 xs := ⟨_, rfl⟩
            rw [← hdg] at HD hdeg
            clear hT hd2 hdg hbd
            go_wp2_with fail
            refine HD.out.mono ?_
            rintro r w9 ⟨rfl, rfl⟩
            clear HD
            go_wp2_with fail
            go_roundw
            case rel => exact ⟨j + 1, by omega, by go_num, hT2.out, hb1.out⟩
            case measure => simp [intOf]; omega
          · have hT2 : lowP p = false := all_no hT.out hd2.out (by simpa using hdeg)
            have hF : Hid (lowF ps = false) := all_no hS.out hd.out hT2
            obtain ⟨dg, hdg⟩ : ∃ dg, dg = degGo 0 xs := ⟨_, rfl⟩
            rw [← hdg] at HD hdeg
            clear hT hd2 hdg hbd hT2
            go_wp2_with fail
            refine HD.out.mono ?_
            rintro r w9 ⟨rfl, rfl⟩
            clear HD
            go_wp2_with fail
            go_ret
            exact ⟨ret_bool hF.out.symm, hb1.out⟩
        · obtain rfl : m = j := by omega
          rw [List.drop_eq_nil_of_le (Nat.le_of_eq HPP.out.len)] at hT
          have hS2 : Hid (lowF ps = (ps.drop (k + 1)).all lowP) := all_step hS.out hd.out hT.out
          clear hS hT hd
          go_wp2_with fail
          go_roundw
          case rel => exact ⟨k + 1, by omega, by go_num, hS2.out, hb.out⟩
          case measure => simp [intOf]; omega
    · obtain rfl : n = k := by omega
      rw [List.drop_eq_nil_of_le (Nat.le_of_eq HP.out.len)] at hS
      have hF : Hid (lowF ps = true) := hS.out
      go_wp2_with fail
      go_ret
      exact ⟨ret_bool hF.out.symm, hb.out⟩
end Go.Proofs.Ytjamdnbabfodkaa
/- Whether a field is simple: the reference's walk. -/
namespace Go.Proofs.Ytjamdnbabfodkaa
open Go.RowKit
set_option linter.unusedSimpArgs false
set_option linter.unusedVariables false
set_option maxRecDepth 20000

def sumGo : Int → List Int → Int
  | s, [] => s
  | s, x :: r => sumGo (s + x) r
theorem sumGo_bd : ∀ (l : List Int) (s : Int), 0 ≤ s → (∀ x ∈ l, 0 ≤ x ∧ x ≤ 1048576) → 0 ≤ sumGo s l ∧ sumGo s l ≤ s + 1048576 * l.length
  | [], s, h, _ => by simp [sumGo]; omega
  | x :: r, s, h, hx => by
    have h1 := hx x List.mem_cons_self
    have := sumGo_bd r (s + x) (by omega) (fun y hy => hx y (List.mem_cons_of_mem _ hy))
    rw [sumGo]
    simp only [List.length_cons]
    omega
theorem deg_sum : ∀ (l : List Int) (s : Int), (∀ x ∈ l, 0 ≤ x ∧ x ≤ 5) → degGo s l = sumGo s l
  | [], _, _ => rfl
  | x :: r, s, h => by
    have h1 := h x List.mem_cons_self
    rw [degGo, sumGo, if_neg (by omega)]
    exact deg_sum r (s + x) (fun y hy => h y (List.mem_cons_of_mem _ hy))

set_option maxHeartbeats 1000000 in
theorem spec_l11Sum (A : Option Addr) (n c : Nat) (xs : List Int) (lo hi : Nat) (w : World) (h : Ints w lo hi A n c xs) (hn : n ≤ 1048576) (hx : ∀ x ∈ xs, 0 ≤ x ∧ x ≤ 1048576) :
    Calls Try.prog 53 #[.slice A n c] w fun e w' => e = .returned (.int .i64 (sumGo 0 xs)) ∧ w = w' := by
  have hcp := h.cap
  have hm := h.max
  have HX := hide hx
  clear hx
  go_enter Try.func53, Try.ntmps53
  go_wp2_with fail
  go_loop [3, 4] (fun s i => ∃ (k : Nat) (r : Int), k ≤ n ∧ i = .int .i64 k ∧ s = .int .i64 r ∧ 0 ≤ r ∧ r ≤ 1048576 * (k : Int) ∧ Hid (sumGo 0 xs = sumGo r (xs.drop k))) (fun _ i => n - (intOf i).toNat)
  case atStart => exact ⟨0, 0, by omega, rfl, rfl, by omega, by omega, rfl⟩
  case round =>
    obtain ⟨k, r, hk, rfl, rfl, hr0, hr1, hr⟩ := hrel
    by_cases hlt : k < n
    · obtain ⟨ad, x, rfl, hc, hxr, hdx, hxx⟩ := h.at_ hlt
      have hb := HX.out x (List.mem_of_getElem? hxx.out)
      have hst : Hid (sumGo 0 xs = sumGo (r + x) (xs.drop (k+1))) := by show _ = _; rw [hr.out, hdx.out, sumGo]
      clear hxr
      go_wp2_with fail
      go_round
      case rel => exact ⟨k + 1, r + x, by omega, by go_num, rfl, by omega, by omega, hst⟩
      case measure => simp [intOf]; omega
    · obtain rfl : k = n := by omega
      have e := h.drop_end
      have hst2 : Hid (sumGo 0 xs = r) := by show _ = _; rw [hr.out, e.out, sumGo]
      go_wp2_with fail
      go_ret
      exact ⟨ret_int hst2.out.symm, rfl⟩

def simpP (p : List Mono) : Bool := p.all fun m => decide (sumGo 0 m.2 ≤ 2)
def simpF (dim : Int) (ps : List (List Mono)) : Bool := ps.all simpP && decide (dim ≤ 3)

set_option maxRecDepth 100000 in
set_option maxHeartbeats 4000000 in
theorem spec_l11Simple (F : Option Addr) (n c : Nat) (ps : List (List Mono)) (w : World) (h : Mons2 w 0 w.heap.size F n c ps) (hv : ∀ p ∈ ps, ∀ m ∈ p, m.2.length ≤ 1048576 ∧ ∀ x ∈ m.2, 0 ≤ x ∧ x ≤ 1048576) (hn6 : n ≤ 1048576) :
    Calls Try.prog 24 #[.agg #[.int .i64 n, .slice F n c]] w fun r w' => r = .returned (.bool (simpF n ps)) ∧ Below w.heap.size w w' := by
  have hcp := h.cap
  have hmx := h.max
  have HP := hide h
  have HV := hide hv
  have hb0 := hide (below_alloc w (.cells #[.int .i64 (n : Int), .slice F n c] 36))
  have hj0 := hide (BlkN.new w #[.int .i64 (n : Int), .slice F n c] 36)
  clear h hv
  go_enter Try.func24, Try.ntmps24
  go_wp2_with fail
  generalize w.alloc (.cells #[.int .i64 (n : Int), .slice F n c] 36) = W0 at hb0 hj0 ⊢
  go_loopw [3] (fun i wr => ∃ (k : Nat), k ≤ n ∧ i = .int .i64 k ∧ Hid (ps.all simpP = (ps.drop k).all simpP) ∧ wr = W0) (fun i _ => n - (intOf i).toNat)
  case atStart => exact ⟨0, by omega, rfl, rfl, rfl⟩
  case round =>
    obtain ⟨k, hk, rfl, hS, rfl⟩ := hrel
    have b0 := hj0.out.c 0 rfl
    have b1 := hj0.out.c 1 rfl
    by_cases hlt : k < n
    · obtain ⟨ad, B, m, d, p, rfl, hc1, hp, hd, hx⟩ := (HP.out.below hb0.out (Nat.le_refl _)).at_ hlt
      have hpl := hide (HV.out p (List.mem_of_getElem? hx.out))
      have HPP := hide hp
      have hmc := hp.cap
      have hmm := hp.max
      clear hp hx
      go_wp2_with fail
      go_loopw [4] (fun i wr2 => ∃ (j : Nat), j ≤ m ∧ i = .int .i64 j ∧ Hid (simpP p = (p.drop j).all fun m => decide (sumGo 0 m.2 ≤ 2)) ∧ wr2 = wr) (fun i _ => m - (intOf i).toNat)
      case atStart => exact ⟨0, by omega, rfl, rfl, by first | rfl | trivial⟩
      case round =>
        obtain ⟨j, hj, rfl, hT, rfl⟩ := hrel
        by_cases hlt2 : j < m
        · obtain ⟨ae, x, B2, m2, d2, xs, rfl, hc3, hc4, hxr, hI, hd2, hx2⟩ := HPP.out.at_ hlt2
          obtain ⟨hxl, hxb⟩ := hpl.out _ (List.mem_of_getElem? hx2.out)
          simp only at hxl hxb
          have HD := hide (spec_l11Sum B2 m2 d2 xs 0 w.heap.size wr hI (by rw [← hI.len]; exact hxl) hxb)
          have hdc := hI.cap
          have hdm := hI.max
          have hbd := sumGo_bd xs 0 (by omega) hxb
          clear hI hxr hx2 hxb
          by_cases hdeg : sumGo 0 xs ≤ 2
          · have hT2 : Hid (simpP p = (p.drop (j + 1)).all fun m => decide (sumGo 0 m.2 ≤ 2)) := all_step hT.out hd2.out (by simpa using hdeg)
            obtain ⟨dg, hdg⟩ : ∃ dg, dg = sumGo 0 xs := ⟨_, rfl⟩
            rw [← hdg] at HD hdeg
            clear hT hd2 hdg hbd
            go_wp2_with fail
            refine HD.out.mono ?_
            rintro r w9 ⟨rfl, rfl⟩
            clear HD
            go_wp2_with fail
            go_roundw
            case rel => exact ⟨j + 1, by omega, by go_num, hT2.out, by first | rfl | trivial⟩
            case measure => simp [intOf]; omega
          · have hT2 : simpP p = false := all_no hT.out hd2.out (by simpa using hdeg)
            have hF : Hid (simpF n ps = false) := by show _ = _; rw [simpF, all_no hS.out hd.out hT2]; rfl
            obtain ⟨dg, hdg⟩ : ∃ dg, dg = sumGo 0 xs := ⟨_, rfl⟩
            rw [← hdg] at HD hdeg
            clear hT hd2 hdg hbd hT2
            go_wp2_with fail
            refine HD.out.mono ?_
            rintro r w9 ⟨rfl, rfl⟩
            clear HD
            go_wp2_with fail
            go_ret
            exact ⟨ret_bool hF.out.symm, hb0.out⟩
        · obtain rfl : m = j := by omega
          rw [List.drop_eq_nil_of_le (Nat.le_of_eq HPP.out.len)] at hT
          have hS2 : Hid (ps.all simpP = (ps.drop (k + 1)).all simpP) := all_step hS.out hd.out hT.out
          clear hS hT hd
          go_wp2_with fail
          go_roundw
          case rel => exact ⟨k + 1, by omega, by go_num, hS2.out, by first | rfl | trivial⟩
          case measure => simp [intOf]; omega
    · obtain rfl : n = k := by omega
      rw [List.drop_eq_nil_of_le (Nat.le_of_eq HP.out.len)] at hS
      by_cases h3 : n ≤ 3
      · have hF : Hid (simpF n ps = true) := by show _ = _; rw [simpF, hS.out]; simp; omega
        go_wp2_with fail
        go_ret
        exact ⟨ret_bool (by rw [hF.out]; first | rfl | (simp; omega)), hb0.out⟩
      · have hF : Hid (simpF n ps = false) := by show _ = _; rw [simpF, hS.out]; simp; omega
        go_wp2_with fail
        go_ret
        exact ⟨ret_bool (by rw [hF.out]; first | rfl | (simp; omega)), hb0.out⟩
end Go.Proofs.Ytjamdnbabfodkaa
