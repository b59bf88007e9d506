/- Words of two fields along a point: both texts' results as one value, and the marks on its rows. -/
import Derived.Test.YtjamdnbabfodkaaSoY
import Derived.Test.YtjamdnbabfodkaaMgH
namespace Go.Proofs.Ytjamdnbabfodkaa
open Go.RowKit
set_option linter.unusedSimpArgs false
set_option linter.unusedVariables false
set_option maxRecDepth 20000

/-- a new row of numbers put in the place of an old one, in the same block -/
theorem MatO.put {w w' : World} {lo hi n c dim : Nat} {A : Option Addr} {gs : List Nat} {xss : List (List Int)} (h : MatO w lo hi A n c dim gs xss) (hhi : hi ≤ w.heap.size) {k b : Nat} {xs ys : List Int} (hg : gs[k]? = some b) (hx : xss[k]? = some xs)
    (hO : OwnI w' b (b + 1) (some ⟨b, 0, none⟩) dim dim ys) (ht : Touch b (b + 1) w w') : MatO w' lo hi A n c dim gs (xss.set k ys) := by
  have hkx := (List.getElem?_eq_some_iff.1 hx).1
  have hxl := h.xl
  have hkg := (List.getElem?_eq_some_iff.1 hg).1
  refine ⟨owns_same h.own (fun ad e => ht.block _ (owns_lt h.own ad e).2 (by have h1 := h.sep b (List.mem_of_getElem? hg) ad e; omega)), h.gl, by simpa using hxl, fun q b' zs hg' hz => ?_, h.sep, h.nodup, h.lt⟩
  by_cases hq : k = q
  · subst hq
    rw [hg] at hg'
    injection hg' with hg'
    subst hg'
    rw [List.getElem?_set_self hkx] at hz
    injection hz with hz
    subst hz
    have hb := owns_lt (h.row k b xs hg hx).1 _ rfl
    exact ⟨owns_low hO.own hb.1, hO.rng⟩
  · rw [List.getElem?_set_ne hq] at hz
    obtain ⟨r1, r2⟩ := h.row q b' zs hg' hz
    refine ⟨owns_same r1 (fun ad e => ?_), r2⟩
    injection e with e
    subst e
    have hlt := h.lt.2 b' (List.mem_of_getElem? hg')
    refine ht.block b' (by omega) ?_
    have hne : b' ≠ b := fun e2 => by
      subst e2
      exact hq ((List.getElem?_inj hkg h.nodup).1 (hg.trans hg'.symm))
    omega

/-- own rows, or nil -/
def ResW (w : World) (lo hi : Nat) (A : Option Addr) (n c : Nat) (xss : List (List Int)) : Prop :=
  (A = none ∧ n = 0 ∧ c = 0 ∧ xss = []) ∨ ∃ dim gs, MatO w lo hi A n c dim gs xss ∧ dim ≤ 1000 ∧ n ≤ 1000
section
variable {w w' : World} {lo hi n c : Nat} {A : Option Addr} {xss : List (List Int)}
theorem ResW.same (h : ResW w lo hi A n c xss) (hs : Same lo hi w w') : ResW w' lo hi A n c xss := by
  rcases h with h | ⟨dim, gs, h, hd⟩
  · exact .inl h
  · exact .inr ⟨dim, gs, h.same hs, hd⟩
theorem ResW.below (h : ResW w lo hi A n c xss) {B : Nat} (hb : Below B w w') (hB : hi ≤ B) : ResW w' lo hi A n c xss := h.same (.of_below hb hB)
theorem ResW.wide (h : ResW w lo hi A n c xss) {hi' : Nat} (hB : hi ≤ hi') : ResW w lo hi' A n c xss := by
  rcases h with h | ⟨dim, gs, h, hd⟩
  · exact .inl h
  · exact .inr ⟨dim, gs, h.wide hB, hd⟩
theorem ResW.ints2 (h : ResW w lo hi A n c xss) : Ints2 w lo hi A n c xss := by
  rcases h with ⟨rfl, rfl, rfl, rfl⟩ | ⟨dim, gs, h, hd⟩
  · exact Ints2.nil_ _ _ _
  · exact h.ints2 hd.1
theorem ResW.tot (h : ResW w lo hi A n c xss) : totS xss ≤ 1000000 := by
  rcases h with ⟨rfl, rfl, rfl, rfl⟩ | ⟨dim, gs, h, hd⟩
  · simp [totS]
  · have h1 := totS_bd (C := 1000) xss (fun xs hx => by
      obtain ⟨j, hj⟩ := List.mem_iff_getElem?.1 hx
      have hjl := (List.getElem?_eq_some_iff.1 hj).1
      have hgl := h.gl
      have hxl := h.xl
      have hr := (h.row j gs[j] xs (List.getElem?_eq_getElem (by omega)) hj).1
      have hl := own_len hr
      simp at hl
      omega)
    rw [h.xl] at h1
    have h2 : n * 1000 ≤ 1000 * 1000 := Nat.mul_le_mul_right _ hd.2
    omega
end

theorem set_mix {α : Type} (A B : List α) (k : Nat) (a : α) (hA : A[k]? = some a) (hl : A.length = B.length) : (A.take k ++ B.drop k).set k a = A.take (k + 1) ++ B.drop (k + 1) := by
  have hk := (List.getElem?_eq_some_iff.1 hA).1
  have hd : B.drop k = B[k] :: B.drop (k + 1) := List.drop_eq_getElem_cons (by omega)
  have hlt : (A.take k).length = k := by simp; omega
  rw [hd, List.set_append_right _ _ (by omega), hlt, Nat.sub_self, List.set_cons_zero, List.take_add_one, hA]
  simp
theorem mks_take : ∀ (k : Nat) (z : Int) (xss : List (List Int)) (xs : List Int), xss[k]? = some xs → (mksS z xss)[k]? = some (marks (z + totS (xss.take k)) xs.length)
  | 0, z, x :: r, xs, h => by
    simp at h
    subst h
    simp [mksS, totS]
  | k + 1, z, x :: r, xs, h => by
    have e : z + (x.length : Int) + (totS (r.take k) : Int) = z + (totS ((x :: r).take (k + 1)) : Int) := by rw [List.take_succ_cons, totS]; push_cast; omega
    rw [mksS, List.getElem?_cons_succ, mks_take k _ r xs (by simpa using h), e]
  | 0, _, [], _, h => by simp at h
  | _ + 1, _, [], _, h => by simp at h

set_option maxRecDepth 100000 in
set_option maxHeartbeats 4000000 in
theorem laws_markIntSSW (A : Option Addr) (n c : Nat) (xss : List (List Int)) (lo hi : Nat) (w : World) (h : ResW w lo hi A n c xss) (hh : hi ≤ w.heap.size) :
    Calls Try.prog 18 #[.slice A n c, .int .i64 1] w fun e w' => e = .returned (.int .i64 (1 + totS xss)) ∧ ResW w' lo hi A n c (mksS 1 xss) ∧ Touch lo hi w w' ∧ w'.heap.size = w.heap.size := by
  have htot := h.tot
  rcases h with ⟨rfl, rfl, rfl, rfl⟩ | ⟨dim, gs, h, hd, hn⟩
  · go_enter Try.func18, Try.ntmps18
    go_wp2_with fail
    go_loopw [1, 5] (fun q i wr => q = .int .i64 1 ∧ i = .int .i64 0 ∧ wr = w) (fun _ _ _ => 0)
    case atStart => exact ⟨rfl, rfl, rfl⟩
    case round =>
      obtain ⟨rfl, rfl, rfl⟩ := hrel
      go_wp2_with fail
      go_ret
      exact ⟨by simp [totS], .inl ⟨rfl, rfl, rfl, rfl⟩, Touch.refl _ _ _, rfl⟩
  · have hcb := h.capb
    have hgl := hide h.gl
    have hxl := hide h.xl
    have hM0 := hide h
    have hrl : Hid (∀ (j : Nat) (xs : List Int), xss[j]? = some xs → xs.length = dim) := fun j xs hj => by
      have h1 := (List.getElem?_eq_some_iff.1 hj).1
      have h2 := h.xl
      have h3 := h.gl
      have hr := (h.row j gs[j] xs (List.getElem?_eq_getElem (by omega)) hj).1
      have hl := own_len hr
      simpa using hl
    clear h
    go_enter Try.func18, Try.ntmps18
    go_wp2_with fail
    go_loopw [1, 5] (fun q i wr => ∃ (k : Nat) (z : Int) (yss : List (List Int)), k ≤ n ∧ i = .int .i64 k ∧ q = .int .i64 z ∧ (1 ≤ z ∧ z ≤ 1 + totS xss) ∧ Hid (z = 1 + totS (xss.take k)) ∧ Hid (MatO wr lo hi A n c dim gs yss) ∧ Hid (yss = (mksS 1 xss).take k ++ xss.drop k) ∧ Hid (Touch lo hi w wr ∧ wr.heap.size = w.heap.size)) (fun _ i _ => n - (intOf i).toNat)
    case atStart => exact ⟨0, 1, xss, by omega, rfl, rfl, by omega, by show (1 : Int) = _; simp [totS], hM0.out, rfl, Touch.refl _ _ _, rfl⟩
    case round =>
      clear hM0
      obtain ⟨k, z, yss, hk, rfl, rfl, hzb, hz, hM, hY, hT⟩ := hrel
      by_cases hlt : k < n
      · obtain ⟨g, rfl, _, _⟩ := hM.out.form (by omega)
        obtain ⟨b, ys, hgb, hyb, hcc, hrow⟩ := hM.out.at_ hlt
        have hxl' := hxl.out
        have hyx : xss[k]? = some ys := by
          rw [hY.out, List.getElem?_append_right (by simp [mksS_len]; omega)] at hyb
          simp only [List.length_take, mksS_len, List.getElem?_drop] at hyb
          rw [show k + (k - min k xss.length) = k by omega] at hyb
          exact hyb
        have hyd := hrl.out k ys hyx
        have hlb := owns_lt hrow _ rfl
        have hub := hM.out.lt.2 b (List.mem_of_getElem? hgb)
        have hrow2 := (hM.out.row k b ys hgb hyb)
        have hOb : OwnI wr b (b + 1) (some ⟨b, 0, none⟩) dim dim ys := ⟨by
          rcases hrow with ⟨h1, h2⟩
          refine ⟨h1, ?_⟩
          rcases h2 with ⟨e, _⟩ | ⟨g', cap, cur, e, h3, h4⟩
          · injection e with e; cases e
          · injection e with e e2 e3
            injection e with e
            injection e with e
            subst e
            exact .inr ⟨b, cap, cur, by rw [e3], Nat.le_refl _, h4⟩, fun ad e => by injection e with e; subst e; exact Nat.lt_succ_self _, hrow2.2⟩
        have htk : totS (xss.take (k + 1)) = totS (xss.take k) + dim := by
          have : ∀ (l : List (List Int)) (j : Nat) (y : List Int), l[j]? = some y → totS (l.take (j + 1)) = totS (l.take j) + y.length := by
            intro l
            induction l with
            | nil => intro j y hj; simp at hj
            | cons a r ih =>
              intro j y hj
              cases j with
              | zero => simp at hj; subst hj; simp [totS]
              | succ j => rw [List.take_succ_cons, List.take_succ_cons, totS, totS, ih j y (by simpa using hj)]; omega
          rw [this xss k ys hyx, hyd]
        have hle : totS (xss.take (k + 1)) ≤ totS xss := by
          have : ∀ (l : List (List Int)) (j : Nat), totS (l.take j) ≤ totS l := by
            intro l
            induction l with
            | nil => intro j; simp
            | cons a r ih =>
              intro j
              cases j with
              | zero => simp [totS]
              | succ j => rw [List.take_succ_cons, totS, totS]; have := ih j; omega
          exact this xss (k + 1)
        have hmk := hide (mks_take k 1 xss ys hyx)
        have hMK := hide (laws_markIntS (some ⟨b, 0, none⟩) dim dim ys b (b + 1) z wr hOb (by omega) (by have := hz.out; omega))
        have HGB := hide hgb
        have HYB := hide hyb
        have HYX := hide hyx
        have hT0 := hT
        have hM1 := hM
        have hws : hi ≤ wr.heap.size := by rw [hT.out.2]; exact hh
        clear hM hT hrow hrow2 hOb hgb hyb hyx
        go_wp2_with fail
        refine hMK.out.mono ?_
        rintro e w2 ⟨rfl, o2, t2, e2⟩
        have hM2 := hide (hM1.out.put hws HGB.out HYB.out o2 t2)
        have hT2 : Hid (Touch lo hi w w2 ∧ w2.heap.size = w.heap.size) := ⟨hT0.out.1.trans (t2.wide hlb.1 (by omega)), by rw [e2]; exact hT0.out.2⟩
        have hY2 : Hid (yss.set k (marks z dim) = (mksS 1 xss).take (k + 1) ++ xss.drop (k + 1)) := by
          show _ = _
          rw [hY.out]
          exact set_mix _ _ _ _ (by rw [hmk.out, ← hz.out, hyd]) (mksS_len _ _)
        have hz2 : Hid (z + dim = 1 + totS (xss.take (k + 1))) := by show _ = _; have := hz.out; rw [htk]; push_cast; omega
        have hz3 : 1 ≤ z + (dim : Int) ∧ z + (dim : Int) ≤ 1 + totS xss := by have := hz2.out; omega
        have hz4 : z + (dim : Int) ≤ 4611686018427387904 := by omega
        clear hMK hM1 hT0 o2 t2 e2 htk hmk hle
        go_wp2_with fail
        refine ⟨⟨k + 1, z + dim, _, by omega, by go_num, by go_num, hz3, hz2, hM2.out, hY2.out, hT2.out⟩, ?_⟩
        simp [intOf]; omega
      · obtain rfl : k = n := by omega
        have hxl' := hxl.out
        have hY2 : yss = mksS 1 xss := by
          rw [hY.out, List.drop_of_length_le (by omega), List.append_nil, List.take_of_length_le (by rw [mksS_len]; omega)]
        have hF : Hid (ResW wr lo hi A k c (mksS 1 xss)) := .inr ⟨dim, gs, by rw [← hY2]; exact hM.out, hd, hn⟩
        have hzz : Hid (z = 1 + totS xss) := by show _ = _; rw [hz.out, List.take_of_length_le (by omega)]
        clear hY hM hY2 hz
        go_wp2_with fail
        go_ret
        exact ⟨ret_int hzz.out, hF.out, hT.out.1, hT.out.2⟩

def wordsAl (o : Int) (ts : List Int) (df : Int) (ps : List (List Mono)) (dg : Int) (qs : List (List Mono)) (ys : List Int) : List (List Int) :=
  if okWL o ts df ps dg qs ys = true then matF ts (wordV ps qs ys df.toNat) o.toNat df.toNat (cntN o) df.toNat 0 else []
theorem mat_low {w : World} {lo hi n c dim : Nat} {A : Option Addr} {gs : List Nat} {ts : List Int} {F : Nat → Nat → Int} {o cnt d i : Nat} (h : MatO w lo hi A n c dim gs (matF ts F o dim cnt d i)) : n = o + 1 := by
  have := h.xl
  simp [matF] at this
  omega
section
variable (o : Int) (TA : Option Addr) (nt ct : Nat) (ts : List Int) (df : Int) (F : Option Addr) (kf ef : Nat) (ps : List (List Mono)) (dg : Int) (G : Option Addr) (kg eg : Nat) (qs : List (List Mono)) (Y : Option Addr) (my dy : Nat) (ys : List Int) (w : World)
  (h : Ints w 0 w.heap.size TA nt ct ts) (hf : Mons2 w 0 w.heap.size F kf ef ps) (hg : Mons2 w 0 w.heap.size G kg eg qs) (hy : Ints w 0 w.heap.size Y my dy ys) (hlf : ∀ p ∈ ps, ∀ m ∈ p, m.2.length ≤ 1048576) (hlg : ∀ p ∈ qs, ∀ m ∈ p, m.2.length ≤ 1048576)
include h hf hg hy hlf hlg
theorem impl_WordsAlong_all :
    Calls Try.prog 10 #[.agg #[.int .i64 o, .slice TA nt ct], .agg #[.int .i64 df, .slice F kf ef], .agg #[.int .i64 dg, .slice G kg eg], .slice Y my dy] w fun r w' => ∃ A' n' c', r = .returned (.slice A' n' c') ∧ ResW w' w.heap.size w'.heap.size A' n' c' (wordsAl o ts df ps dg qs ys) ∧ Below w.heap.size w w' := by
  cases hok : okWL o ts df ps dg qs ys with
  | false =>
    refine (impl_WordsAlong_bad o TA nt ct ts df F kf ef ps dg G kg eg qs Y my dy ys w h hf hg hy hlf hlg hok).mono ?_
    rintro r w' ⟨rfl, hb⟩
    exact ⟨none, 0, 0, rfl, .inl ⟨rfl, rfl, rfl, by rw [wordsAl, hok]; rfl⟩, hb⟩
  | true =>
    obtain ⟨o', dim, K⟩ := ok_parts hok
    obtain ⟨rfl, ho⟩ := K.ord
    obtain ⟨rfl, rfl, hd0, hd3⟩ := K.dims
    obtain rfl : kf = dim := by have h4 := hf.len; have h5 := K.fps.len; omega
    obtain rfl : kg = kf := by have h4 := hg.len; have h5 := K.fqs.len; omega
    obtain rfl : my = kg := by have h4 := hy.len; have h5 := K.pt.1; omega
    obtain rfl : nt = cntN (o' : Int) := by have h4 := h.len; have h5 := K.num.1; omega
    refine (impl_WordsAlong_good o' my TA ct ts F ef ps G eg qs Y dy ys w h hf hg hy hlf hlg hok ho hd0 hd3 K.fps K.fqs K.num.2).mono ?_
    rintro r w' ⟨A', n', c', hi, gs, rfl, hM, hhi, hb⟩
    refine ⟨A', n', c', rfl, .inr ⟨my, gs, ?_, by omega, by rw [mat_low hM]; omega⟩, hb⟩
    rw [wordsAl, if_pos hok]
    exact hM.wide hhi
theorem spec_WordsAlong_all :
    Calls Try.prog 6 #[.agg #[.int .i64 o, .slice TA nt ct], .agg #[.int .i64 df, .slice F kf ef], .agg #[.int .i64 dg, .slice G kg eg], .slice Y my dy] w fun r w' => ∃ A' n' c', r = .returned (.slice A' n' c') ∧ Ints2 w' w.heap.size w'.heap.size A' n' c' (wordsAl o ts df ps dg qs ys) ∧ Below w.heap.size w w' := by
  refine (spec_WordsAlong o TA nt ct ts df F kf ef ps dg G kg eg qs Y my dy ys w h hf hg hy hlf hlg).mono ?_
  rintro r w' ⟨hb, ⟨hok, rfl⟩ | ⟨o', dim, A', n', c', hi, gs, hok, K, rfl, hM, hhi⟩⟩
  · exact ⟨none, 0, 0, rfl, by rw [wordsAl, hok]; exact Ints2.nil_ _ _ _, hb⟩
  · obtain ⟨rfl, ho⟩ := K.ord
    obtain ⟨rfl, rfl, hd0, hd3⟩ := K.dims
    refine ⟨A', n', c', rfl, ?_, hb⟩
    rw [wordsAl, if_pos hok]
    exact (hM.wide hhi).ints2 (by omega)
end
end Go.Proofs.Ytjamdnbabfodkaa
