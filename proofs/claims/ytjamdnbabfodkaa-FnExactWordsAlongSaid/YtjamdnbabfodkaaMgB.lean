/- Rows of monomials with those left out whose number is 0: the library's walk by the program's closure. -/
import Derived.Test.YtjamdnbabfodkaaSoF
import Derived.Lib.SliceRun
import Derived.Test.YtjamdnbabfodkaaSoG
import Derived.Test.YtjamdnbabfodkaaSoA
namespace Go.Proofs.Ytjamdnbabfodkaa
open Go.RowKit
set_option linter.unusedSimpArgs false
set_option linter.unusedVariables false
set_option maxRecDepth 20000

/-- the closure that asks whether a monomial's number is 0 -/
theorem collect_del (x : Int) (B : Option Addr) (m d : Nat) (W : World) :
    Calls Try.prog 85 #[.agg #[.int .i64 x, .slice B m d]] W fun r W' => r = .returned (.bool (decide (x = 0))) ∧ Below W.heap.size W W' := by
  by_cases hx : x = 0
  · subst hx
    go_enter Try.func85, Try.ntmps85
    go_wp2_with fail
    go_ret
    exact ⟨rfl, by (repeat (first | with_reducible exact Below.refl _ _ | with_reducible exact Below.refl _ _ | with_reducible refine Below.drew ?_ | ((with_reducible refine Below.alloc ?_ ?_ _); rotate_left; · first | omega | (simp [World.setCell]; done) | (simp [World.setCell]; omega)) | ((with_reducible refine Below.setCell ?_ ?_ _); rotate_left; · first | exact Nat.le_refl _ | omega | (simp; done) | (simp; omega))))⟩
  · have hne : (x == 0) = false := by simpa using hx
    have hF : Hid (decide (x = 0) = false) := decide_eq_false hx
    clear hx
    go_enter Try.func85, Try.ntmps85
    go_wp2_with fail
    go_ret
    exact ⟨ret_bool hF.out.symm, by (repeat (first | with_reducible exact Below.refl _ _ | with_reducible exact Below.refl _ _ | with_reducible refine Below.drew ?_ | ((with_reducible refine Below.alloc ?_ ?_ _); rotate_left; · first | omega | (simp [World.setCell]; done) | (simp [World.setCell]; omega)) | ((with_reducible refine Below.setCell ?_ ?_ _); rotate_left; · first | exact Nat.le_refl _ | omega | (simp; done) | (simp; omega))))⟩

theorem run_clear2 {P : Program} (w : World) (t e ty : TypeId) (i : TypeInfo) (ht : P.underlying t = some (.slice e)) (hi : P.info? e = some i) (hz : i.zero = some (.agg #[.int .i64 0, .slice none 0 0])) (b o n c : Nat) (hn : 0 < n)
    (hc : ∀ j, j < n * 2 → (w.cell? ⟨b, o + j, none⟩).isSome = true) (hf : ∀ j, j < n * 2 → w.frozen? ⟨b, o + j, none⟩ = false) :
    (Builtin.clear_ #[t] ty #[.slice (some ⟨b, o, none⟩) n c]).run P w = .ok (.tuple #[]) (w.setCells b o (Builtin.zeroCells #[.int .i64 0, .slice none 0 0] n).toList) := by
  have hlen : (Builtin.zeroCells #[.int .i64 0, .slice none 0 0] n).toList.length = n * 2 := by simp [Builtin.zeroCells]
  have hone : ∀ v ∈ (Builtin.zeroCells #[.int .i64 0, .slice none 0 0] n).toList, v.oneCell' = true := by
    intro v hv
    simp only [Builtin.zeroCells, Array.toList_map, Array.toList_range, List.mem_map, List.mem_range] at hv
    obtain ⟨j, _, rfl⟩ := hv
    rcases Nat.mod_two_eq_zero_or_one j with h | h <;> simp [h, Value.oneCell']
  have hst := run_storeCells_cells (P := P) b o (Builtin.zeroCells #[.int .i64 0, .slice none 0 0] n).toList 0 w (by rw [hlen]; simpa using hc) (by rw [hlen]; simpa using hf) hone
  simp only [Nat.add_zero] at hst
  have hcl : (Value.agg #[.int .i64 0, .slice none 0 0]).cells = #[.int .i64 0, .slice none 0 0] := rfl
  obtain ⟨m, rfl⟩ : ∃ m, n = m + 1 := ⟨n - 1, by omega⟩
  have hv : ∀ w, (zeroValue e).run P w = .ok (.agg #[.int .i64 0, .slice none 0 0]) w := fun w => by simp [zeroValue, typeInfo, hi, hz]
  simp [Builtin.clear_, run_underlying ht, hv, hcl, hst]
theorem belowCells {B : Nat} {a : World} {b : Nat} (hb : B ≤ b) : ∀ (vs : List Value) (o : Nat) {w : World}, Below B a w → Below B a (w.setCells b o vs)
  | [], _, _, h => h
  | v :: r, o, _, h => belowCells hb r (o + 1) (h.setCell (p := ⟨b, o, none⟩) hb v)

def nz (e : El) : Bool := !decide (e.x = 0)
/-- the place of the first monomial whose number is 0 -/
def zAt (es : List El) : Nat := (es.takeWhile nz).length
theorem takeWhile_at {es : List El} {k : Nat} (hk : (es.take k).all nz = true) {e : El} (he : es[k]? = some e) (h0 : e.x = 0) : zAt es = k := by
  induction es generalizing k with
  | nil => simp at he
  | cons a r ih =>
    cases k with
    | zero =>
      simp at he
      subst he
      simp [zAt, List.takeWhile_cons, nz, h0]
    | succ k =>
      simp only [List.take_succ_cons, List.all_cons, Bool.and_eq_true] at hk
      have := ih hk.2 (by simpa using he)
      rw [zAt, List.takeWhile_cons, if_pos hk.1, List.length_cons]
      rw [zAt] at this
      rw [this]

/-- where the search ends -/
def idxZ (es : List El) : Int := if es.all nz = true then -1 else (zAt es : Int)
theorem all_take_step {es : List El} {k : Nat} (hk : (es.take k).all nz = true) {e : El} (he : es[k]? = some e) (h0 : ¬ e.x = 0) : (es.take (k + 1)).all nz = true := by
  rw [List.take_add_one, he, List.all_append, hk]
  simp [nz, h0]

set_option maxHeartbeats 1000000 in
theorem lib_IndexFunc (lo n c : Nat) (A : Option Addr) (es : List El) (w : World) (h : w.ownsRow lo 53 2 (.slice A n c) n (es.flatMap El.cells)) (hl : es.length = n) :
    Calls Try.prog 91 #[.slice A n c, .func (.func 85) #[] #[]] w fun r w' => r = .returned (.int .i64 (idxZ es)) ∧ Below w.heap.size w w' := by
  have hcb : n ≤ c ∧ c ≤ 9223372036854775807 := by
    rcases h.2 with ⟨e, rfl⟩ | ⟨g', cap, cur, e, _, _, h1, h2, _⟩
    · injection e; omega
    · injection e with _ _ e3; unfold maxLen at h2; omega
  have HO := hide h
  have HL := hide hl
  clear h hl
  go_enter Try.func91, Try.ntmps91
  go_wp2_with fail
  go_loopw [8] (fun i wr => ∃ (k : Nat), k ≤ n ∧ i = .int .i64 k ∧ Hid ((es.take k).all nz = true) ∧ Hid (Below w.heap.size w wr)) (fun i _ => n - (intOf i).toNat)
  case atStart => exact ⟨0, by omega, rfl, by show _ = _; simp, Below.refl _ _⟩
  case round =>
    obtain ⟨k, hk, rfl, hA, hb⟩ := hrel
    by_cases hlt : k < n
    · obtain ⟨⟨x, B, m, d, xs⟩, he⟩ : ∃ e, es[k]? = some e := ⟨_, List.getElem?_eq_getElem (by have := HL.out; omega)⟩
      obtain ⟨g, hg⟩ : ∃ g, A = some ⟨g, 0, none⟩ := by
        rcases HO.out.2 with ⟨_, e⟩ | ⟨g, _, _, e, _⟩
        · omega
        · injection e with e; exact ⟨g, e⟩
      subst hg
      have hO := owns_below HO.out hb.out (fun ad e => (owns_lt HO.out ad e).2)
      obtain ⟨e1, e2⟩ := elc_at es k _ he
      have c1 := (hO.cellAt (k * 2) (by omega)).trans e1
      have c2 := (hO.cellAt (k * 2 + 1) (by omega)).trans e2
      simp only at c1 c2
      have HC := hide (collect_del x B m d wr)
      clear e1 e2 hO
      by_cases hx : x = 0
      · have hd : decide (x = 0) = true := by simpa using hx
        have hF : Hid (idxZ es = (k : Int)) := by
          show _ = _
          rw [idxZ, if_neg, takeWhile_at hA.out he hx]
          intro hall
          have := List.all_eq_true.1 hall _ (List.mem_of_getElem? he)
          simp [nz, hx] at this
        rw [hd] at HC
        clear hd hx he
        go_wp2_with fail
        refine HC.out.mono ?_
        rintro r w1 ⟨rfl, b1⟩
        have B1 := hb.out.trans (b1.mono hb.out.size)
        clear HC
        go_wp2_with fail
        go_ret
        exact ⟨ret_int hF.out.symm, B1⟩
      · have hd : decide (x = 0) = false := by simpa using hx
        have hA2 := hide (all_take_step hA.out he hx)
        rw [hd] at HC
        clear hd hx he hA
        go_wp2_with fail
        refine HC.out.mono ?_
        rintro r w1 ⟨rfl, b1⟩
        have B1 := hide (hb.out.trans (b1.mono hb.out.size))
        clear HC b1 hb
        go_wp2_with fail
        go_roundw
        case rel => exact ⟨k + 1, by omega, by go_num, hA2.out, B1.out⟩
        case measure => simp [intOf]; omega
    · obtain rfl : n = k := by omega
      have hF : Hid (idxZ es = -1) := by
        have h1 := hA.out
        rw [List.take_of_length_le (Nat.le_of_eq HL.out)] at h1
        show _ = _
        rw [idxZ, if_pos h1]
      go_wp2_with fail
      go_ret
      exact ⟨ret_int hF.out.symm, hb.out⟩
end Go.Proofs.Ytjamdnbabfodkaa
/- Rows of monomials with those left out whose number is 0: the library's DeleteFunc. -/
namespace Go.Proofs.Ytjamdnbabfodkaa
open Go.RowKit
set_option linter.unusedSimpArgs false
set_option linter.unusedVariables false
set_option maxRecDepth 20000

/-- elements whose cells can be read in a block from lo on -/
structure RdE (w : World) (lo : Nat) (A : Option Addr) (n c : Nat) (es : List El) : Prop where
  len : es.length = n
  cap : n ≤ c
  max : c ≤ 9223372036854775807
  cells : 0 < n → ∃ g, A = some ⟨g, 0, none⟩ ∧ lo ≤ g ∧ g < w.heap.size ∧ ∀ j e, es[j]? = some e → w.cell? ⟨g, j * 2, none⟩ = some (.int .i64 e.x) ∧ w.cell? ⟨g, j * 2 + 1, none⟩ = some (.slice e.B e.m e.d)

theorem own_capE {w : World} {lo n c : Nat} {A : Option Addr} {vs : List Value} (h : w.ownsRow lo 53 2 (.slice A n c) n vs) : n ≤ c ∧ c ≤ 9223372036854775807 := by
  rcases h.2 with ⟨e, rfl⟩ | ⟨g', cap, cur, e, _, _, h1, h2, _⟩
  · injection e; omega
  · injection e with _ _ e3; unfold maxLen at h2; omega
theorem own_formE {w : World} {lo n c : Nat} {A : Option Addr} {vs : List Value} (h : w.ownsRow lo 53 2 (.slice A n c) n vs) (hn : 0 < n) : ∃ g, A = some ⟨g, 0, none⟩ ∧ lo ≤ g ∧ g < w.heap.size := by
  rcases h.2 with ⟨_, e⟩ | ⟨g, _, _, e, h1, h2, _⟩
  · omega
  · injection e with e
    exact ⟨g, e, h1, (Array.getElem?_eq_some_iff.1 h2).1⟩
theorem own_rdE {w : World} {lo n c : Nat} {A : Option Addr} {es : List El} (h : w.ownsRow lo 53 2 (.slice A n c) n (es.flatMap El.cells)) (hl : es.length = n) : RdE w lo A n c es := by
  have hc := own_capE h
  refine ⟨hl, hc.1, hc.2, fun hn => ?_⟩
  obtain ⟨g, rfl, h1, h2⟩ := own_formE h hn
  refine ⟨g, rfl, h1, h2, fun j e he => ?_⟩
  have hj := (List.getElem?_eq_some_iff.1 he).1
  obtain ⟨e1, e2⟩ := elc_at es j e he
  exact ⟨(h.cellAt (j * 2) (by omega)).trans e1, (h.cellAt (j * 2 + 1) (by omega)).trans e2⟩

theorem zAt_lt : ∀ (es : List El), ¬ es.all nz = true → zAt es < es.length ∧ (es.take (zAt es)).filter nz = es.take (zAt es) ∧ ∃ e, es[zAt es]? = some e ∧ nz e = false
  | [], h => absurd rfl h
  | a :: r, h => by
    by_cases ha : nz a = true
    · have hr : ¬ r.all nz = true := fun e => h (by rw [List.all_cons, ha, e]; rfl)
      obtain ⟨h1, h2, e, h3, h4⟩ := zAt_lt r hr
      have hz : zAt (a :: r) = zAt r + 1 := by rw [zAt, List.takeWhile_cons, if_pos ha]; rfl
      rw [hz]
      refine ⟨by simpa using h1, ?_, e, by simpa using h3, h4⟩
      rw [List.take_succ_cons, List.filter_cons, if_pos ha, h2]
    · have ha' : nz a = false := by simpa using ha
      have hz : zAt (a :: r) = 0 := by rw [zAt, List.takeWhile_cons, if_neg ha]; rfl
      rw [hz]
      exact ⟨by simp, rfl, a, rfl, ha'⟩
theorem filter_step {es : List El} {j : Nat} {e : El} (he : es[j]? = some e) : (es.take (j + 1)).filter nz = (es.take j).filter nz ++ (if nz e = true then [e] else []) := by
  rw [List.take_add_one, he, List.filter_append]
  by_cases h : nz e = true
  · rw [if_pos h]; simp [h]
  · rw [if_neg h]; simp [h]
theorem drop_at {α : Type} {xs ys : List α} {j : Nat} (h : xs.drop j = ys.drop j) : xs[j]? = ys[j]? := by
  have := congrArg List.head? h
  rw [List.head?_drop, List.head?_drop] at this
  exact this
theorem drop_succ_eq {α : Type} {xs ys : List α} {j : Nat} (h : xs.drop j = ys.drop j) : xs.drop (j + 1) = ys.drop (j + 1) := by
  have := congrArg List.tail h
  rwa [List.tail_drop, List.tail_drop] at this

set_option maxRecDepth 100000 in
set_option maxHeartbeats 4000000 in
theorem lib_DeleteFunc (lo n c : Nat) (A : Option Addr) (es : List El) (w : World) (h : w.ownsRow lo 53 2 (.slice A n c) n (es.flatMap El.cells)) (hl : es.length = n) (hlo : lo ≤ w.heap.size) (hn : n ≤ 1099511627776) :
    Calls Try.prog 84 #[.slice A n c, .func (.func 85) #[] #[]] w fun r w' => ∃ A' n' c', r = .returned (.slice A' n' c') ∧ RdE w' lo A' n' c' (es.filter nz) ∧ Below lo w w' := by
  obtain ⟨i0, hi0, hz0, hz1, hz2⟩ := info_parts info_mono
  have hcb := own_capE h
  have HO := hide h
  have HL := hide hl
  have HI := hide (lib_IndexFunc lo n c A es w h hl)
  clear h hl
  go_enter Try.func84, Try.ntmps84
  go_wp2_with fail
  refine HI.out.mono ?_
  rintro r w1 ⟨rfl, b1⟩
  have HB := hide (b1.mono hlo)
  have HO1 := hide (owns_below HO.out b1 (fun ad e => (owns_lt HO.out ad e).2))
  have hlo1 : lo ≤ w1.heap.size := Nat.le_trans hlo b1.size
  clear HI b1
  by_cases hall : es.all nz = true
  · have hi : idxZ es = -1 := if_pos hall
    have hf : Hid (es.filter nz = es) := List.filter_eq_self.2 (List.all_eq_true.1 hall)
    rw [hi]
    clear hall hi
    go_wp2_with fail
    go_ret
    refine ⟨A, n, c, rfl, ?_, HB.out⟩
    rw [hf.out]
    exact own_rdE HO1.out HL.out
  · obtain ⟨z1, z2, e0, z3, z4⟩ := zAt_lt es hall
    have hi : idxZ es = (zAt es : Int) := if_neg hall
    obtain ⟨k0, hk0⟩ : ∃ k, k = zAt es := ⟨_, rfl⟩
    rw [← hk0] at z1 z2 z3 hi
    have hst : Hid (es.take k0 = (es.take (k0 + 1)).filter nz) := by
      show _ = _
      rw [filter_step z3, z2, if_neg (by simp [z4]), List.append_nil]
    have hkn : k0 < n := by have := HL.out; omega
    obtain ⟨g, rfl, hg1, hg2⟩ := own_formE HO1.out (by omega)
    have hne : ((k0 : Int) == -1) = false := by simp
    rw [hi]
    clear hall hi z1 z2 z3 z4 hk0 hg2
    go_wp2_with fail
    go_loopw [5, 6] (fun x y wr => ∃ (i j : Nat) (es' : List El), i < j ∧ j ≤ n ∧ x = .int .i64 i ∧ y = .int .i64 j ∧ Hid (wr.ownsRow lo 53 2 (.slice (some ⟨g, 0, none⟩) n c) n (es'.flatMap El.cells)) ∧ Hid (es'.length = n) ∧ Hid (es'.take i = (es.take j).filter nz) ∧ Hid (es'.drop j = es.drop j) ∧ Hid (Below lo w wr)) (fun _ y _ => n - (intOf y).toNat)
    case atStart => exact ⟨k0, k0 + 1, es, by omega, by omega, rfl, by go_num, HO1.out, HL.out, hst.out, rfl, HB.out⟩
    case round =>
      clear HO1 HB hst hlo1 hne
      obtain ⟨i, j, es', hij, hj, rfl, rfl, hO, hL, hT, hD, hb⟩ := hrel
      have hlw : lo ≤ wr.heap.size := Nat.le_trans hlo hb.out.size
      by_cases hlt : j < n
      · obtain ⟨⟨x, B, m, d, xs⟩, he⟩ : ∃ e, es'[j]? = some e := ⟨_, List.getElem?_eq_getElem (by have := hL.out; omega)⟩
        have he0 : es[j]? = some ⟨x, B, m, d, xs⟩ := by rw [← drop_at hD.out]; exact he
        obtain ⟨e1, e2⟩ := elc_at es' j _ he
        have c1 := (hO.out.cellAt (j * 2) (by omega)).trans e1
        have c2 := (hO.out.cellAt (j * 2 + 1) (by omega)).trans e2
        simp only at c1 c2
        have a1 := below_alloc wr (.cells #[.int .i64 x, .slice B m d] 53)
        have j7 := hide (BlkN.new wr #[.int .i64 x, .slice B m d] 53)
        have hO1 := hide (owns_below hO.out a1 (fun ad e => (owns_lt hO.out ad e).2))
        have hb1 := hide (hb.out.trans (a1.mono hlw))
        have hgq : g < wr.heap.size := (hO.out.lt g rfl).2
        have hfs := hide (filter_step he0)
        have HE := hide he
        have hD2 := hide (drop_succ_eq hD.out)
        clear e1 e2 a1 hO hb he he0 hD
        go_upto_region 8 with fail
        generalize wr.alloc (.cells #[.int .i64 x, .slice B m d] 53) = W1 at j7 hO1 hb1 ⊢
        clear c1 c2
        obtain ⟨q, hq⟩ : ∃ q, q = wr.heap.size := ⟨_, rfl⟩
        rw [← hq] at j7 hgq ⊢
        clear hq hlw
        have hlw : lo ≤ W1.heap.size := Nat.le_trans hlo hb1.out.size
        have t0 := j7.out.c 0 rfl
        have t1 := j7.out.c 1 rfl
        have HC := hide (collect_del x B m d W1)
        by_cases hx : x = 0
        · have hd : decide (x = 0) = true := by simpa using hx
          have hT2 : Hid (es'.take i = (es.take (j + 1)).filter nz) := by
            show _ = _
            rw [hfs.out, if_neg (by simp [nz, hx]), List.append_nil]
            exact hT.out
          rw [hd] at HC
          clear hd hx hfs hT
          go_wp2_with fail
          refine HC.out.mono ?_
          rintro r w2 ⟨rfl, b2⟩
          have hO2 := hide (owns_below hO1.out b2 (fun ad e => (owns_lt hO1.out ad e).2))
          have hb2 := hide (hb1.out.trans (b2.mono hlw))
          clear HC b2 t0 t1
          go_wp2_with fail
          go_roundw
          case rel => exact ⟨i, j + 1, es', by omega, by omega, rfl, by go_num, hO2.out, hL.out, hT2.out, hD2.out, hb2.out⟩
          case measure => simp [intOf]; omega
        · have hd : decide (x = 0) = false := by simpa using hx
          have hil : i < es'.length := by have := hL.out; omega
          have hT2 : Hid ((es'.set i ⟨x, B, m, d, xs⟩).take (i + 1) = (es.take (j + 1)).filter nz) := by
            show _ = _
            rw [hfs.out, if_pos (by simp [nz, hx]), ← hT.out, List.take_add_one, List.getElem?_set_self hil, List.take_set_of_le (Nat.le_refl _)]
            rfl
          have hD3 : Hid ((es'.set i ⟨x, B, m, d, xs⟩).drop (j + 1) = es.drop (j + 1)) := by
            show _ = _
            rw [List.drop_set_of_lt (by omega)]
            exact hD2.out
          rw [hd] at HC
          clear hd hx hfs hT hD2
          go_wp2_with fail
          refine HC.out.mono ?_
          rintro r w2 ⟨rfl, b2⟩
          have hO2 := hide (owns_below hO1.out b2 (fun ad e => (owns_lt hO1.out ad e).2))
          have hb2 := hide (hb1.out.trans (b2.mono hlw))
          have j8 := j7.out.below b2
          have t2 := j8.c 0 rfl
          have t3 := j8.c 1 rfl
          have hf1 := hO2.out.frozenAt (i * 2)
          have hf2 := hO2.out.frozenAt (i * 2 + 1)
          have hc1 := hO2.out.cellAt (i * 2) (by omega)
          have hc2 := hO2.out.cellAt (i * 2 + 1) (by omega)
          obtain ⟨⟨x4, B4, m4, d4, xs4⟩, he4⟩ : ∃ e, es'[i]? = some e := ⟨_, List.getElem?_eq_getElem hil⟩
          obtain ⟨e5, e6⟩ := elc_at es' i _ he4
          rw [e5] at hc1
          rw [e6] at hc2
          simp only at hc1 hc2
          have hst := ((hO2.out.stored (i * 2) (.int .i64 x)).1.stored (i * 2 + 1) (.slice B m d)).1
          have hset := elc_set es' i ⟨x, B, m, d, xs⟩ hil
          simp only at hset
          rw [hset] at hst
          have hb3 := (hb2.out.setCell (p := ⟨g, i * 2, none⟩) hg1 (.int .i64 x)).setCell (p := ⟨g, i * 2 + 1, none⟩) hg1 (.slice B m d)
          have HST := hide hst
          have HB3 := hide hb3
          have hin : i < n := by omega
          have hL3 : Hid ((es'.set i ⟨x, B, m, d, xs⟩).length = n) := by show _ = _; rw [List.length_set]; exact hL.out
          clear HC b2 t0 t1 j8 hst hb3 he4 e5 e6 hset hil hO2 hb2 hO1 hb1 HE
          go_wp2_with fail
          go_roundw
          case rel => exact ⟨i + 1, j + 1, _, by omega, by omega, by go_num, by go_num, HST.out, hL3.out, hT2.out, hD3.out, HB3.out⟩
          case measure => simp [intOf]; omega
      · obtain rfl : n = j := by omega
        have hcn : ¬ c = i := by omega
        have hin : i < n := hij
        have hcl : ∀ ty, (Builtin.clear_ #[54] ty #[.slice (some ⟨g, i * 2, none⟩) (n - i) (c - i)]).run Try.prog wr = .ok (.tuple #[]) (wr.setCells g (i * 2) (Builtin.zeroCells #[.int .i64 0, .slice none 0 0] (n - i)).toList) := fun ty =>
          run_clear2 wr 54 53 ty i0 Try.underlying54 hi0 hz0 g (i * 2) (n - i) (c - i) (by omega) (fun q hq => by
            rw [hO.out.cellAt (i * 2 + q) (by omega)]
            have hlen := elc_len es'
            have := hL.out
            rw [List.getElem?_eq_getElem (by omega)]
            rfl) (fun q hq => hO.out.frozenAt _)
        go_wp2_with fail
        clear hcl
        go_ret
        have hfil : es.filter nz = es'.take i := by
          rw [hT.out, List.take_of_length_le (Nat.le_of_eq HL.out)]
        have hlt2 : (es'.take i).length = i := by rw [List.length_take, hL.out]; omega
        refine ⟨some ⟨g, 0, none⟩, i, c, rfl, ?_, belowCells hg1 _ _ hb.out⟩
        rw [hfil]
        refine ⟨hlt2, by omega, by omega, fun h0 => ⟨g, rfl, hg1, ?_, fun q e he => ?_⟩⟩
        · have h1 := (hO.out.lt g rfl).2
          have h2 := (belowCells (B := 0) (b := g) (Nat.zero_le _) (Builtin.zeroCells #[.int .i64 0, .slice none 0 0] (n - i)).toList (i * 2) (Below.refl 0 wr)).size
          omega
        · have hq : q < i := by
            have := (List.getElem?_eq_some_iff.1 he).1
            omega
          have he' : es'[q]? = some e := by rwa [List.getElem?_take_of_lt hq] at he
          obtain ⟨e1, e2⟩ := elc_at es' q e he'
          have c1 := (hO.out.cellAt (q * 2) (by omega)).trans e1
          have c2 := (hO.out.cellAt (q * 2 + 1) (by omega)).trans e2
          exact ⟨(World.cell?_setCells_out g _ (i * 2) wr ⟨g, q * 2, none⟩ (fun _ _ => .inl (by show q * 2 < i * 2; omega))).trans c1, (World.cell?_setCells_out g _ (i * 2) wr ⟨g, q * 2 + 1, none⟩ (fun _ _ => .inl (by show q * 2 + 1 < i * 2; omega))).trans c2⟩
end Go.Proofs.Ytjamdnbabfodkaa
/- A row of monomials put in order by exchanges of neighbours. -/
namespace Go.Proofs.Ytjamdnbabfodkaa
open Go.RowKit
set_option linter.unusedSimpArgs false
set_option linter.unusedVariables false
set_option maxRecDepth 20000

/-- the closure as a value -/
def cmpV : Value := .func (.func 82) #[] #[]
def Cells2 (g p q : Nat) (e1 e2 : El) (w' : World) : Prop := w'.cell? ⟨g, p * 2, none⟩ = some (.int .i64 e1.x) ∧ w'.cell? ⟨g, p * 2 + 1, none⟩ = some (.slice e1.B e1.m e1.d) ∧ w'.cell? ⟨g, q * 2, none⟩ = some (.int .i64 e2.x) ∧ w'.cell? ⟨g, q * 2 + 1, none⟩ = some (.slice e2.B e2.m e2.d)
theorem SortC.cells2 {w W : World} {lo g n c : Nat} {es : List El} (h : SortC w W lo g n c es) {p q : Nat} {e1 e2 : El} (h1 : es[p]? = some e1) (h2 : es[q]? = some e2) (hp : p < n) (hq : q < n) :
    W.cell? ⟨g, p * 2, none⟩ = some (.int .i64 e1.x) ∧ W.cell? ⟨g, p * 2 + 1, none⟩ = some (.slice e1.B e1.m e1.d) ∧ W.cell? ⟨g, q * 2, none⟩ = some (.int .i64 e2.x) ∧ W.cell? ⟨g, q * 2 + 1, none⟩ = some (.slice e2.B e2.m e2.d) := by
  obtain ⟨_, he1, a, b, _⟩ := h.at_ hp
  obtain ⟨_, he2, a', b', _⟩ := h.at_ hq
  rw [he1.out] at h1
  rw [he2.out] at h2
  injection h1 with h1
  injection h2 with h2
  subst h1 h2
  exact ⟨a, b, a', b'⟩
theorem SortC.some_ {w W : World} {lo g n c : Nat} {es : List El} (h : SortC w W lo g n c es) {k : Nat} (hk : k < n) : ∃ x B m d xs, es[k]? = some ⟨x, B, m, d, xs⟩ := by
  have hl := h.len
  exact ⟨_, _, _, _, _, List.getElem?_eq_getElem (by omega)⟩

set_option maxHeartbeats 8000000 in
theorem lib_insertion (w W : World) (lo g n c : Nat) (es : List El) (h : SortC w W lo g n c es) (a b : Nat) (hab : a ≤ b) (hb : b ≤ n) (hnb : n ≤ 4611686018427387904) :
    Calls Try.prog 93 #[.slice (some ⟨g, 0, none⟩) n c, .int .i64 a, .int .i64 b, .func (.func 82) #[] #[]] W fun r W' => r = .returned (.tuple #[]) ∧ ∃ es', List.Perm es' es ∧ SortC w W' lo g n c es' := by
  have hcb := h.capb
  have HS := hide h
  clear h
  go_enter Try.func93, Try.ntmps93
  go_wp2_with fail
  go_loopw [8] (fun i wr => ∃ (k : Nat) (es' : List El), a + 1 ≤ k ∧ k ≤ b + 1 ∧ i = .int .i64 k ∧ Hid (List.Perm es' es) ∧ Hid (SortC w wr lo g n c es')) (fun i _ => b + 1 - (intOf i).toNat)
  case atStart => exact ⟨a + 1, es, by omega, by omega, by go_num, List.Perm.refl _, HS.out⟩
  case round =>
    clear HS
    obtain ⟨k, es', hk1, hk2, rfl, hP, hS⟩ := hrel
    by_cases hlt : k < b
    · go_wp2_with fail
      go_loopw [9] (fun i wr => ∃ (j : Nat) (es' : List El), a ≤ j ∧ j ≤ k ∧ i = .int .i64 j ∧ Hid (List.Perm es' es) ∧ Hid (SortC w wr lo g n c es')) (fun i _ => (intOf i).toNat)
      case atStart => exact ⟨k, es', by omega, by omega, rfl, hP.out, hS.out⟩
      case round =>
        clear hP hS
        obtain ⟨j, es', hj1, hj2, rfl, hP, hS⟩ := hrel
        by_cases hja : a < j
        · have hgd : decide ((a : Int) < (j : Int)) = true := by simpa using hja
          obtain ⟨q, hq⟩ : ∃ q, q = j - 1 := ⟨_, rfl⟩
          have hw0 : IntKind.i64.wrap ((j : Int) - 1) = (q : Int) := by rw [show (q : Int) = (j : Int) - 1 by omega]; exact IntWalk.i64_in _ (by omega)
          have hjn : j < n := by omega
          have hqn : q < n := by omega
          have hqj : q < j := by omega
          have HQ := hide hq
          clear hq
          obtain ⟨x1, B1, m1, d1, xs1, he1⟩ := hS.out.some_ hjn
          obtain ⟨x2, B2, m2, d2, xs2, he2⟩ := hS.out.some_ hqn
          have T0 := hS.out.cells2 he1 he2 hjn hqn
          have T1 := hS.out.drew.cells2 he1 he2 hjn hqn
          have HC := hide (collect_cmp x1 B1 m1 d1 xs1 x2 B2 m2 d2 xs2 g wr.drew (hS.out.drew.mem he1) (hS.out.drew.mem he2))
          have HE1 := hide he1
          have HE2 := hide he2
          clear he1 he2
          go_wp2_with fail
          go_region_held3 (fun w' => w'.cell? ⟨g, j * 2, none⟩ = some (.int .i64 x1) ∧ w'.cell? ⟨g, j * 2 + 1, none⟩ = some (.slice B1 m1 d1) ∧ w'.cell? ⟨g, q * 2, none⟩ = some (.int .i64 x2) ∧ w'.cell? ⟨g, q * 2 + 1, none⟩ = some (.slice B2 m2 d2)) (first | exact T0 | exact T1 | exact T2.out | go_keep)
            (first
              | (go_at_call 82; refine HC.out.mono ?_; rintro r w1 ⟨z, rfl, hz, hb1⟩; have hS1 := hide (hS.out.drew.below hb1); have T2 := hide (hS1.out.cells2 HE1.out HE2.out hjn hqn); clear HC))
          clear T0 T1
          by_cases hz0 : z < 0
          · have n1 : ¬ j * 2 = q * 2 := by omega
            have n2 : ¬ j * 2 = q * 2 + 1 := by omega
            have n3 : ¬ j * 2 + 1 = q * 2 := by omega
            have n4 : ¬ j * 2 + 1 = q * 2 + 1 := by omega
            obtain ⟨_, _, _, _, f1, f2, _⟩ := hS1.out.at_ hjn
            obtain ⟨_, _, _, _, f3, f4, _⟩ := hS1.out.at_ hqn
            obtain ⟨c1, c2, c3, c4⟩ := T2.out
            have g1 := hide (hS1.out.swap hjn hqn HE1.out HE2.out).drew
            have g2 : Hid (List.Perm ((es'.set j ⟨x2, B2, m2, d2, xs2⟩).set q ⟨x1, B1, m1, d1, xs1⟩) es) := (perm_swap HE1.out HE2.out).trans hP.out
            clear HE1 HE2 T2 hS1 hS hP hz hb1
            go_wp2_with fail
            go_region
            go_wp2_with fail
            go_roundw
            case rel => exact ⟨q, _, by have := HQ.out; omega, by omega, rfl, g2.out, g1.out⟩
            case measure => simp [intOf]; omega
          · clear HE1 HE2 T2 hz
            have g1 := hS1
            clear hS hb1
            go_wp2_with fail
            go_roundw
            case rel => exact ⟨k + 1, es', by omega, by omega, by go_num, hP.out, g1.out⟩
            case measure => simp [intOf]; omega
        · have hgd : decide ((a : Int) < (j : Int)) = false := by simpa using hja
          have g1 := hide fun q => hS.out.below (below_drewN (Below.refl _ _) q)
          clear hS
          go_wp2_with fail
          go_quiet (fail)
          go_wp2_with fail
          go_roundw
          case rel => exact ⟨k + 1, es', by omega, by omega, by go_num, hP.out, g1.out _⟩
          case measure => simp [intOf]; omega
    · go_wp2_with fail
      go_end0
      exact ⟨rfl, es', hP.out, hS.out⟩
end Go.Proofs.Ytjamdnbabfodkaa
