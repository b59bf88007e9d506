/- The field of a new session: where it lies; the program's text of it. -/
import Derived.Test.YtlfgbellhiifmaaGreatDoorFldI
import Derived.Test.YtlfgbellhiifmaaGreatDoorPnT
namespace Go.Proofs.YtlfgbellhiifmaaGreatDoor
open Go.RowKit
set_option linter.unusedSimpArgs false
set_option linter.unusedVariables false
set_option maxRecDepth 20000

/-- A field of one coordinate with one monomial, each of its three rows in a block of its own. -/
structure Fld1 (w : World) (lo hi : Nat) (gP e gQ q gR r : Nat) (x y : Int) : Prop where
  p : w.ownsRow lo 50 1 (.slice (some ⟨gP, 0, none⟩) 1 e) 1 [.slice (some ⟨gQ, 0, none⟩) 1 q]
  q : w.ownsRow lo 52 2 (.slice (some ⟨gQ, 0, none⟩) 1 q) 1 [.int .i64 x, .slice (some ⟨gR, 0, none⟩) 1 r]
  r : w.ownsRow lo 3 1 (.slice (some ⟨gR, 0, none⟩) 1 r) 1 [.int .i64 y]
  lp : gP < hi
  lq : gQ < hi
  lr : gR < hi
  pq : gP ≠ gQ
  pr : gP ≠ gR
  qr : gQ ≠ gR
  rx : R64 x
  ry : R64 y

theorem one_rng {y : Int} (h : R64 y) : ∀ z ∈ [y], R64 z := by
  intro z hz
  obtain rfl : z = y := by simpa using hz
  exact h
section
variable {w w' : World} {lo hi gP e gQ q gR r : Nat} {x y : Int}
theorem own_cap {n c g e size : Nat} {xs : List Value} (h : w.ownsRow lo e size (.slice (some ⟨g, 0, none⟩) n c) n xs) : n ≤ c ∧ c ≤ 9223372036854775807 := by
  rcases h.2 with ⟨h', _⟩ | ⟨g', cap, cur, h', _, _, h1, h2, _⟩
  · simp at h'
  · injection h' with _ _ e3; unfold maxLen at h2; omega
theorem Fld1.same (h : Fld1 w lo hi gP e gQ q gR r x y) (hs : Same lo hi w w') : Fld1 w' lo hi gP e gQ q gR r x y :=
  ⟨owns_same h.p (fun ad e => by injection e with e; subst e; exact hs gP (h.p.lt gP rfl).1 h.lp), owns_same h.q (fun ad e => by injection e with e; subst e; exact hs gQ (h.q.lt gQ rfl).1 h.lq),
    owns_same h.r (fun ad e => by injection e with e; subst e; exact hs gR (h.r.lt gR rfl).1 h.lr), h.lp, h.lq, h.lr, h.pq, h.pr, h.qr, h.rx, h.ry⟩
theorem Fld1.below {B : Nat} (h : Fld1 w lo hi gP e gQ q gR r x y) (hb : Below B w w') (hB : hi ≤ B) : Fld1 w' lo hi gP e gQ q gR r x y := h.same (.of_below hb hB)
theorem Fld1.wide {lo' hi' : Nat} (h : Fld1 w lo hi gP e gQ q gR r x y) (h1 : lo' ≤ lo) (h2 : hi ≤ hi') : Fld1 w lo' hi' gP e gQ q gR r x y :=
  ⟨owns_low h.p h1, owns_low h.q h1, owns_low h.r h1, Nat.lt_of_lt_of_le h.lp h2, Nat.lt_of_lt_of_le h.lq h2, Nat.lt_of_lt_of_le h.lr h2, h.pq, h.pr, h.qr, h.rx, h.ry⟩
theorem Fld1.cp (h : Fld1 w lo hi gP e gQ q gR r x y) : w.cell? ⟨gP, 0, none⟩ = some (.slice (some ⟨gQ, 0, none⟩) 1 q) := h.p.cellAt 0 (by omega)
theorem Fld1.cq0 (h : Fld1 w lo hi gP e gQ q gR r x y) : w.cell? ⟨gQ, 0, none⟩ = some (.int .i64 x) := h.q.cellAt 0 (by omega)
theorem Fld1.cq1 (h : Fld1 w lo hi gP e gQ q gR r x y) : w.cell? ⟨gQ, 1, none⟩ = some (.slice (some ⟨gR, 0, none⟩) 1 r) := h.q.cellAt 1 (by omega)
theorem Fld1.cr (h : Fld1 w lo hi gP e gQ q gR r x y) : w.cell? ⟨gR, 0, none⟩ = some (.int .i64 y) := h.r.cellAt 0 (by omega)
theorem Fld1.ints (h : Fld1 w lo hi gP e gQ q gR r x y) : OwnI w lo hi (some ⟨gR, 0, none⟩) 1 r [y] := ⟨h.r, fun ad e => by injection e with e; subst e; exact h.lr, one_rng h.ry⟩
theorem Fld1.mons2 (h : Fld1 w lo hi gP e gQ q gR r x y) : Mons2 w lo hi (some ⟨gP, 0, none⟩) 1 e [[(x, [y])]] := by
  refine ⟨rfl, (own_cap h.p).1, (own_cap h.p).2, fun _ => ⟨_, rfl, (h.p.lt gP rfl).1, h.lp, fun j ms hj => ?_⟩⟩
  match j, hj with
  | 0, hj =>
    obtain rfl : ms = [(x, [y])] := by simpa using hj.symm
    refine ⟨_, 1, q, h.cp, ⟨rfl, (own_cap h.q).1, (own_cap h.q).2, fun _ => ⟨_, rfl, (h.q.lt gQ rfl).1, h.lq, fun i m hi => ?_⟩⟩⟩
    match i, hi with
    | 0, hi =>
      obtain rfl : m = (x, [y]) := by simpa using hi.symm
      exact ⟨h.cq0, h.rx, _, 1, r, h.cq1, h.ints.ints⟩
    | i + 1, hi => simp at hi
  | j + 1, hj => simp at hj
end
theorem field_ok1 : fieldF 1 [[(1, [1])]] = true := by decide +kernel
theorem fmt_one : fmtF 1 = ⟨#[49]⟩ := by decide +kernel
theorem enc97 : Utf8.encode 97 = ⟨#[97]⟩ := by decide +kernel
theorem join_one (sep : ByteArray) (s : ByteArray) : joinB sep [s] = s := bytes_ext (by rw [joinB_data]; simp [Lib.join])

theorem text_1a : (⟨#[49]⟩ : ByteArray) ++ (⟨#[42]⟩ ++ ⟨#[97]⟩) = ⟨#[49, 42, 97]⟩ := by decide +kernel
theorem own_text {w : World} {lo : Nat} {A : Option Addr} {c : Nat} (h : w.ownsRow lo 9 1 (.slice A (0 + 1) c) (0 + 1) (([] : List ByteArray).map Value.string ++ [Value.string (⟨#[49]⟩ ++ (⟨#[42]⟩ ++ ⟨#[97]⟩))])) : w.ownsRow lo 9 1 (.slice A 1 c) 1 ([(⟨#[49, 42, 97]⟩ : ByteArray)].map Value.string) := by
  rw [text_1a] at h
  exact h
theorem own_neq {a b n c n' c' : Nat} (h : a < b) : (Value.slice (some ⟨a, 0, none⟩) n c).ownBlock ≠ (Value.slice (some ⟨b, 0, none⟩) n' c').ownBlock := by
  simp [Value.ownBlock]
  omega

set_option maxRecDepth 100000 in
set_option maxHeartbeats 4000000 in
theorem impl_FormatField1 (lo hi gP e gQ q gR r : Nat) (w : World) (h : Fld1 w lo hi gP e gQ q gR r 1 1) (hh : hi ≤ w.heap.size) :
    Calls Tryz.prog 41 #[.agg #[.int .i64 1, .slice (some ⟨gP, 0, none⟩) 1 e]] w fun e w' => e = .returned (.string ⟨#[49, 42, 97]⟩) ∧ Below w.heap.size w w' := by
  have b0 := below_alloc w (.cells #[.int .i64 1, .slice (some ⟨gP, 0, none⟩) 1 e] 27)
  have k0 := BlkN.new w #[.int .i64 1, .slice (some ⟨gP, 0, none⟩) 1 e] 27
  have hcp := own_cap h.p
  have hcq := own_cap h.q
  have hcr := own_cap h.r
  have H0 := hide h
  clear h
  go_enter Tryz.func41, Tryz.ntmps41
  go_wp2_with fail
  generalize w.alloc (.cells #[.int .i64 1, .slice (some ⟨gP, 0, none⟩) 1 e] 27) = W at b0 k0 ⊢
  have z0 := b0.size
  have hK := impl_FieldOk 1 (some ⟨gP, 0, none⟩) 1 e [[(1, [1])]] 0 W.heap.size W (((H0.out.below b0 hh).mons2).wide (Nat.zero_le _) (by omega)) (Nat.le_refl _) (by simp)
  rw [field_ok1] at hK
  refine hK.mono ?_
  rintro e w1 ⟨rfl, b1⟩
  have k1 := k0.below b1
  have bw1 := b0.trans (b1.mono z0)
  have r1 := k1.c 0 rfl
  have r2 := k1.c 1 rfl
  have k1a := k1.alloc (.cells #[] 9)
  have ra1 := k1a.c 0 rfl
  have ra2 := k1a.c 1 rfl
  have HF1 := hide (H0.out.below bw1 hh)
  clear k0 hK
  go_wp2_with fail
  obtain ⟨i0, hi0, hz0, hz1, hz2⟩ := info_parts info_str
  have own2 : (w1.alloc (.cells #[] 9)).ownsRow w.heap.size 9 1 (.slice (some ⟨w1.heap.size, 0, none⟩) 0 0) 0 (([] : List ByteArray).map Value.string) := by
    simpa using World.ownsRow_lit (size := 1) (e := 9) (base := w.heap.size) w1 #[] 0 bw1.size (by unfold maxLen; omega) rfl
  have bw2 : Below w.heap.size w (w1.alloc (.cells #[] 9)) := bw1.alloc bw1.size _
  have HF2 := hide (H0.out.below bw2 hh)
  have zw2 : w1.heap.size < (w1.alloc (.cells #[] 9)).heap.size := by simp
  obtain ⟨ga, hga⟩ : ∃ ga, ga = w1.heap.size := ⟨_, rfl⟩
  rw [← hga] at own2 zw2 ⊢
  generalize w1.alloc (.cells #[] 9) = w2 at own2 bw2 HF2 zw2 ⊢
  clear ra1 ra2 k1a k1 r1 r2 HF1 b1 hga
  have Own2 := hide own2
  have z2 := bw2.size
  -- texts
  have own3 : (w2.alloc (.cells #[] 9)).ownsRow w.heap.size 9 1 (.slice (some ⟨w2.heap.size, 0, none⟩) 0 0) 0 (([] : List ByteArray).map Value.string) := by
    simpa using World.ownsRow_lit (size := 1) (e := 9) (base := w.heap.size) w2 #[] 0 z2 (by unfold maxLen; omega) rfl
  have hcp2 := HF2.out.cp
  have hq0 := ((HF2.out).below (below_alloc w2 (.cells #[] 9)) (by omega)).cq0
  have hq1 := ((HF2.out).below (below_alloc w2 (.cells #[] 9)) (by omega)).cq1
  have b4 : Below w.heap.size w ((w2.alloc (.cells #[] 9)).alloc (.cells #[.int .i64 1, .slice (some ⟨gR, 0, none⟩) 1 r] 52)) := (bw2.alloc z2 _).alloc (by simp; omega) _
  have F4 := H0.out.below b4 hh
  have hr0 := F4.cr
  have own4 := own3.alloc (.cells #[.int .i64 1, .slice (some ⟨gR, 0, none⟩) 1 r] 52)
  have hE := enc97
  have hFN := impl_FormatNumber 1 ((w2.alloc (.cells #[] 9)).alloc (.cells #[.int .i64 1, .slice (some ⟨gR, 0, none⟩) 1 r] 52))
  rw [fmt_one] at hFN
  have HFN := hide hFN
  have Own4 := hide own4
  have z4 := b4.size
  clear hFN own2 own3 own4 F4
  refine wp_loop_rounds 2 ?_
  rw [rounds_succ]
  go_wp2_with fail
  refine wp_loop_rounds 2 ?_
  rw [rounds_succ]
  go_wp2_with fail
  refine HFN.out.mono ?_
  rintro e w5 ⟨rfl, rfl⟩
  go_wp2_with fail
  have hF4 := hide (H0.out.below b4 hh)
  have b4' : Below w2.heap.size w2 ((w2.alloc (.cells #[] 9)).alloc (.cells #[.int .i64 1, .slice (some ⟨gR, 0, none⟩) 1 r] 52)) := ((Below.refl _ _).alloc (Nat.le_refl _) _).alloc (by simp) _
  have Own2b := hide (owns_below Own2.out b4' (fun ad e => by injection e with e; subst e; show ga < w2.heap.size; omega))
  obtain ⟨gt, hgt⟩ : ∃ gt, gt = w2.heap.size := ⟨_, rfl⟩
  have hgt1 : ga < gt := by omega
  have z5 : gt < ((w2.alloc (.cells #[] 9)).alloc (.cells #[.int .i64 1, .slice (some ⟨gR, 0, none⟩) 1 r] 52)).heap.size := by rw [hgt]; simp; omega
  rw [← hgt] at Own4 ⊢
  clear hgt HFN b4' hcp2 hq0 hq1
  generalize (w2.alloc (.cells #[] 9)).alloc (.cells #[.int .i64 1, .slice (some ⟨gR, 0, none⟩) 1 r] 52) = w5 at b4 hr0 Own4 hF4 Own2b z4 z5 ⊢
  have hw1 : IntKind.i32.wrap 97 = 97 := rfl
  refine wp_loop_rounds 2 ?_
  rw [rounds_succ]
  go_wp2_with fail
  rw [rounds_succ]
  go_wp2_with (at_builtin; refine wpl_app1b rfl (.tmp 57) (.tmp 59) 48 rfl w.heap.size 9 i0 (.string ByteArray.empty) 1 16 Tryz.underlying48 hi0 hz0 hz1 hz2 rfl (by omega) w5 _ _ rfl (some ⟨gt, 0, none⟩) 0 0 1 _ rfl rfl Own4.out rfl (by simp [Value.oneCell']) (by omega) (by omega) z4 ?_; intro A6 c6 w6 happ hlt6; have B6 := hide (happ.low b4 z4 (Nat.le_refl _) Own4.out); have O6 := hide (own_text happ.1); have P6 := hide (Own2b.out.kept happ.2.1 (.inr (own_neq hgt1))); clear happ)
  have z6 : w.heap.size ≤ w6.heap.size := B6.out.size
  have hJ := hide (join_row A6 1 c6 w.heap.size [⟨#[49, 42, 97]⟩] ⟨#[32, 43, 32]⟩ w6 O6.out (by rw [join_one]; decide) (by omega))
  have hzp : ga < w6.heap.size := by omega
  rw [rounds_succ]
  go_wp2_with (first | (go_at_call 79; refine hJ.out.mono ?_; rintro e w7 ⟨rfl, b7⟩; rw [join_one]; have bw7 := B6.out.trans (b7.mono z6); have z7 : w.heap.size ≤ w7.heap.size := bw7.size; have P7 := hide (owns_below P6.out b7 (fun ad e => by injection e with e; subst e; exact hzp))) | (at_builtin; refine wpl_app1b rfl (.tmp 68) (.tmp 71) 48 rfl w.heap.size 9 i0 (.string ByteArray.empty) 1 16 Tryz.underlying48 hi0 hz0 hz1 hz2 rfl (by omega) w7 _ _ rfl (some ⟨ga, 0, none⟩) 0 0 1 _ rfl rfl P7.out rfl (by simp [Value.oneCell']) (by omega) (by omega) z7 ?_; intro A8 c8 w8 happ hlt8; have B8 := hide (happ.low bw7 z7 (Nat.le_refl _) P7.out); have O8 := hide happ.1; clear happ))
  have z8 : w.heap.size ≤ w8.heap.size := B8.out.size
  have hJ2 := hide (join_row A8 1 c8 w.heap.size [⟨#[49, 42, 97]⟩] ⟨#[59, 32]⟩ w8 O8.out (by rw [join_one]; decide) (by omega))
  rw [rounds_succ]
  go_wp2_with fail
  refine hJ2.out.mono ?_
  rintro e w9 ⟨rfl, b9⟩
  rw [join_one]
  have HB := hide (B8.out.trans (b9.mono z8))
  go_wp2_with fail
  go_ret
  exact ⟨rfl, HB.out⟩

theorem fld_done {w w7 : World} {lo hi gP e gQ q gR r : Nat} {x y : Int} (h : Fld1 w7 lo hi gP e gQ q gR r x y) (b : Below w.heap.size w w7) (h1 : w.heap.size < lo) (h2 : hi ≤ w7.heap.size) (v1 v2 : Value) :
    Fld1 ((w7.setCell ⟨w.heap.size, 0, none⟩ v1).setCell ⟨w.heap.size, 1, none⟩ v2) w.heap.size ((w7.setCell ⟨w.heap.size, 0, none⟩ v1).setCell ⟨w.heap.size, 1, none⟩ v2).heap.size gP e gQ q gR r x y ∧ Below w.heap.size w ((w7.setCell ⟨w.heap.size, 0, none⟩ v1).setCell ⟨w.heap.size, 1, none⟩ v2) := by
  have hs : ((w7.setCell ⟨w.heap.size, 0, none⟩ v1).setCell ⟨w.heap.size, 1, none⟩ v2).heap.size = w7.heap.size := by simp [World.setCell]
  rw [hs]
  exact ⟨(h.same (((Same.refl _ _ w7).setCell (.inl h1) _).setCell (.inl h1) _)).wide (by omega) h2, (b.setCell (Nat.le_refl _) _).setCell (Nat.le_refl _) _⟩


theorem owns_raise {w : World} {base base' e size g n c : Nat} {xs : List Value} (h : w.ownsRow base e size (.slice (some ⟨g, 0, none⟩) n c) n xs) (hb : base' ≤ g) : w.ownsRow base' e size (.slice (some ⟨g, 0, none⟩) n c) n xs := by
  refine ⟨h.1, ?_⟩
  rcases h.2 with ⟨h', _⟩ | ⟨g', cap, cur, h', h1, r⟩
  · simp at h'
  · have h2 := h'
    injection h2 with h3
    injection h3 with h3
    injection h3 with h3
    exact .inr ⟨g', cap, cur, h', by omega, r⟩
/-- what the append of the monomial leaves -/
theorem mono_step {w w4 w5 : World} {gp c5 gR lo hi : Nat} {A5 : Option Addr} {v1 v2 : Array Value} {g1 g2 : Nat} (h : Appended w4 w.heap.size 52 2 (some ⟨gp, 0, none⟩) 0 0 A5 (0 + 1) c5 ([] ++ (#[Value.int .i64 1, Value.slice (some ⟨gR, 0, none⟩) 1 1] : Array Value).toList) w5)
    (hown : w4.ownsRow w.heap.size 52 2 (.slice (some ⟨gp, 0, none⟩) 0 0) 0 []) (hb : Below w.heap.size w w4) (k1 : BlkN w4 g1 v1) (k2 : BlkN w4 g2 v2) (o : OwnI w4 lo hi (some ⟨gR, 0, none⟩) 1 1 [1]) (h1 : gp < lo) (hz : w.heap.size ≤ w4.heap.size) (h2 : hi ≤ w4.heap.size) (h3 : g1 < gp) (h4 : g2 < gp) :
    ∃ gQ, A5 = some ⟨gQ, 0, none⟩ ∧ w5.ownsRow w.heap.size 52 2 (.slice (some ⟨gQ, 0, none⟩) 1 c5) 1 [.int .i64 1, .slice (some ⟨gR, 0, none⟩) 1 1] ∧ OwnI w5 lo hi (some ⟨gR, 0, none⟩) 1 1 [1] ∧ gQ ≠ gR ∧ gQ < w5.heap.size ∧ gp ≤ gQ ∧ BlkN w5 g1 v1 ∧ BlkN w5 g2 v2 ∧ Below w.heap.size w w5 ∧ w4.heap.size ≤ w5.heap.size := by
  have hb5 := h.low hb hz (Nat.le_refl _) hown
  obtain ⟨ha, hg, hA⟩ := h
  have hgR : gR < w4.heap.size := (o.own.lt gR rfl).2
  have hgRl : lo ≤ gR := (o.own.lt gR rfl).1
  have hk : ∀ k, k < w4.heap.size → k ≠ gp → w5.heap[k]? = w4.heap[k]? := fun k hk hne => hg.block k hk (fun e => hne (by simpa [Value.ownBlock] using e))
  rcases ha.2 with ⟨_, e⟩ | ⟨gQ, cap, cur, e, h5, h6, _⟩
  · omega
  · injection e with e1 e2 e3
    subst e1 e3
    have hq : gQ = gp ∨ w4.heap.size ≤ gQ := by
      rcases hA with hA | hA
      · have := hA _ rfl
        injection this with this
        injection this with this
        exact .inl this.symm
      · exact .inr (hA _ rfl)
    have hgp : gp < w4.heap.size := (hown.lt gp rfl).2
    have k1l := k1.lt
    have k2l := k2.lt
    refine ⟨gQ, rfl, ha, ⟨owns_same o.own (fun ad e => by injection e with e; subst e; exact hk gR hgR (by omega)), o.lt, o.rng⟩, by omega, (Array.getElem?_eq_some_iff.1 h6).1, by omega, k1.same (hk g1 k1l (by omega)), k2.same (hk g2 k2l (by omega)), hb5, hg.size⟩

set_option maxRecDepth 100000 in
set_option maxHeartbeats 8000000 in
theorem impl_ParseField1 (mx : Int) (w : World) (hm : w.cell? ⟨0, 0, none⟩ = some (.int .i64 mx)) :
    Calls Tryz.prog 12 #[.string ⟨#[49, 42, 97]⟩] w fun r w' => ∃ gP e gQ q gR c, r = .returned (.tuple #[.agg #[.int .i64 1, .slice (some ⟨gP, 0, none⟩) 1 e], .bool true]) ∧ Fld1 w' w.heap.size w'.heap.size gP e gQ q gR c 1 1 ∧ Below w.heap.size w w' := by
  obtain ⟨i0, hi0, hz0, hz1, hz2⟩ := info_parts info_mono
  obtain ⟨i1, hi1, hy0, hy1, hy2⟩ := info_parts info_monos
  have hm0 := World.block_lt_of_cell? w _ hm
  have HM : Hid (∀ v : World, Below w.heap.size w v → v.cell? ⟨0, 0, none⟩ = some (.int .i64 mx)) := fun v hv => (hv.cell hm0).trans hm
  have hsz : (⟨#[49, 42, 97]⟩ : ByteArray).size = 3 := rfl
  have HS := hide (fun W hb => sh_strings_Split ⟨#[49, 42, 97]⟩ ⟨#[59, 32]⟩ mx W (by rw [hsz]; omega) (HM.out W hb) (by decide))
  rw [split_semi.1, split_semi.2] at HS
  have HS2 := hide (fun W hb => sh_strings_Split ⟨#[49, 42, 97]⟩ ⟨#[32, 43, 32]⟩ mx W (by rw [hsz]; omega) (HM.out W hb) (by decide))
  rw [split_plus.1, split_plus.2] at HS2
  have HR := hide (fun W hb => impl_readMono mx W (HM.out W hb))
  have hne : ((⟨#[49, 42, 97]⟩ : ByteArray).toList == [48]) = false := by rw [ByteArray.toList_eq]; rfl
  have b0 := below_alloc w (.cells #[.int .i64 0, .slice none 0 0] 27)
  clear hm
  go_enter Tryz.func12, Tryz.ntmps12
  go_wp2_with fail
  refine (HS.out _ b0).mono ?_
  rintro e w1 ⟨rfl, rfl⟩
  have k0 := ((BlkN.new w #[.int .i64 0, .slice none 0 0] 27).alloc (.cells #[.string ⟨#[49, 42, 97]⟩] 9)).alloc (.cells #[.int .i64 1, .slice none 0 0] 27)
  have ks := (BlkN.new (w.alloc (.cells #[.int .i64 0, .slice none 0 0] 27)) #[.string ⟨#[49, 42, 97]⟩] 9).alloc (.cells #[.int .i64 1, .slice none 0 0] 27)
  have kf := BlkN.new ((w.alloc (.cells #[.int .i64 0, .slice none 0 0] 27)).alloc (.cells #[.string ⟨#[49, 42, 97]⟩] 9)) #[.int .i64 1, .slice none 0 0] 27
  rw [show (w.alloc (.cells #[.int .i64 0, .slice none 0 0] 27)).heap.size = w.heap.size + 1 from by simp] at ks
  rw [show ((w.alloc (.cells #[.int .i64 0, .slice none 0 0] 27)).alloc (.cells #[.string ⟨#[49, 42, 97]⟩] 9)).heap.size = w.heap.size + 1 + 1 from by simp] at kf
  have bW : Below w.heap.size w (((w.alloc (.cells #[.int .i64 0, .slice none 0 0] 27)).alloc (.cells #[.string ⟨#[49, 42, 97]⟩] 9)).alloc (.cells #[.int .i64 1, .slice none 0 0] 27)) := by (repeat (first | with_reducible exact Below.refl _ _ | with_reducible exact Below.refl _ _ | with_reducible refine Below.drew ?_ | ((with_reducible refine Below.alloc ?_ ?_ _); rotate_left; · first | omega | (simp [World.setCell]; done) | (simp [World.setCell]; omega)) | ((with_reducible refine Below.setCell ?_ ?_ _); rotate_left; · first | exact Nat.le_refl _ | omega | (simp; done) | (simp; omega))))
  clear HS b0
  have hdim : ∀ W, Calls Tryz.prog 39 #[.int .i64 1] W fun e w' => e = .returned (.bool true) ∧ W = w' := fun W => by
    go_enter Tryz.func39, Tryz.ntmps39
    go_wp2_with fail
    go_ret
    exact ⟨rfl, rfl⟩
  have HD := hide hdim
  clear hdim
  go_wp2_with (go_at_call 39; refine (HD.out _).mono ?_; rintro e w2 ⟨rfl, rfl⟩)
  generalize ((w.alloc (.cells #[.int .i64 0, .slice none 0 0] 27)).alloc (.cells #[.string ⟨#[49, 42, 97]⟩] 9)).alloc (.cells #[.int .i64 1, .slice none 0 0] 27) = W at k0 ks kf bW ⊢
  have zW : w.heap.size + 1 + 1 < W.heap.size := kf.lt
  have hc0 := ks.c 0 rfl
  have bW1 : Below w.heap.size w (W.alloc (.cells #[] 52)) := bW.alloc (by omega) _
  have b2' := HS2.out _ bW1
  have KS2 := hide b2'
  have ks1 := ks.alloc (.cells #[] 52)
  have hc1 := ks1.c 0 rfl
  clear b2' HS2
  refine wp_loop_rounds 2 ?_
  rw [rounds_succ]
  go_wp2_with fail
  refine KS2.out.mono ?_
  rintro e w2 ⟨rfl, rfl⟩
  have own0 : ((W.alloc (.cells #[] 52)).alloc (.cells #[.string ⟨#[49, 42, 97]⟩] 9)).ownsRow w.heap.size 52 2 (.slice (some ⟨W.heap.size, 0, none⟩) 0 0) 0 [] := by
    simpa using (World.ownsRow_lit (size := 2) (e := 52) (base := w.heap.size) W #[] 0 (by omega) (by unfold maxLen; omega) rfl).alloc (.cells #[.string ⟨#[49, 42, 97]⟩] 9)
  have bX : Below w.heap.size w ((W.alloc (.cells #[] 52)).alloc (.cells #[.string ⟨#[49, 42, 97]⟩] 9)) := bW1.alloc bW1.size _
  have bWX : Below W.heap.size W ((W.alloc (.cells #[] 52)).alloc (.cells #[.string ⟨#[49, 42, 97]⟩] 9)) := ((Below.refl _ _).alloc (Nat.le_refl _) _).alloc (by simp) _
  have ks2 := BlkN.new (W.alloc (.cells #[] 52)) #[.string ⟨#[49, 42, 97]⟩] 9
  rw [show (W.alloc (.cells #[] 52)).heap.size = W.heap.size + 1 from by simp] at ks2
  have hc2 := ks2.c 0 rfl
  have zX : W.heap.size + 1 < ((W.alloc (.cells #[] 52)).alloc (.cells #[.string ⟨#[49, 42, 97]⟩] 9)).heap.size := by simp
  have k0X := k0.below bWX
  have kfX := kf.below bWX
  have hf0 := kfX.c 0 rfl
  clear KS2 hc0 hc1 ks1 ks k0 kf ks2
  go_wp2_with fail
  obtain ⟨gp, hgp⟩ : ∃ gp, gp = W.heap.size := ⟨_, rfl⟩
  rw [← hgp] at own0 hc2 zX zW ⊢
  generalize (W.alloc (.cells #[] 52)).alloc (.cells #[.string ⟨#[49, 42, 97]⟩] 9) = X at own0 bX hc2 zX k0X kfX hf0 ⊢
  clear hgp bWX bW1 bW
  refine wp_loop_rounds 2 ?_
  rw [rounds_succ]
  go_wp2_with fail
  refine (HR.out X bX).mono ?_
  rintro e w3 ⟨gR, rfl, o3, b3⟩
  have z3 := b3.size
  have own3 := owns_below own0 b3 (fun ad e => by injection e with e; subst e; show gp < X.heap.size; omega)
  have k03 := k0X.below b3
  have kf3 := kfX.below b3
  have bw3 := bX.trans (b3.mono bX.size)
  have own4 := own3.alloc (.cells #[.int .i64 1, .slice (some ⟨gR, 0, none⟩) 1 1] 52)
  have bw4 : Below w.heap.size w (w3.alloc (.cells #[.int .i64 1, .slice (some ⟨gR, 0, none⟩) 1 1] 52)) := bw3.alloc bw3.size _
  have k04 := k03.alloc (.cells #[.int .i64 1, .slice (some ⟨gR, 0, none⟩) 1 1] 52)
  have kf4 := kf3.alloc (.cells #[.int .i64 1, .slice (some ⟨gR, 0, none⟩) 1 1] 52)
  have o4 := o3.below (below_alloc w3 (.cells #[.int .i64 1, .slice (some ⟨gR, 0, none⟩) 1 1] 52)) (Nat.le_refl _)
  have z4 : w.heap.size ≤ (w3.alloc (.cells #[.int .i64 1, .slice (some ⟨gR, 0, none⟩) 1 1] 52)).heap.size := bw4.size
  have z4' : w3.heap.size < (w3.alloc (.cells #[.int .i64 1, .slice (some ⟨gR, 0, none⟩) 1 1] 52)).heap.size := by simp
  have Own4 := hide own4
  have gRl : X.heap.size ≤ gR ∧ gR < w3.heap.size := ⟨(o3.own.lt gR rfl).1, o3.lt _ rfl⟩
  have K04 := hide k04
  have KF4 := hide kf4
  have O4 := hide o4
  have HB4 := hide bw4
  clear own0 own3 own4 k03 kf3 k04 kf4 o3 o4 b3 k0X kfX hf0
  go_wp2_with (at_builtin; refine wpl_app1b rfl (.tmp 49) (.tmp 51) 50 rfl w.heap.size 52 i0 (.agg #[.int .i64 0, .slice none 0 0]) 2 32 Tryz.underlying50 hi0 hz0 hz1 hz2 rfl (by omega) (w3.alloc (.cells #[.int .i64 1, .slice (some ⟨gR, 0, none⟩) 1 1] 52)) #[.int .i64 1, .slice (some ⟨gR, 0, none⟩) 1 1] _ (by simp) (some ⟨gp, 0, none⟩) 0 0 1 _ rfl rfl Own4.out rfl (by simp [Value.oneCell']) (by omega) (by omega) z4 ?_; intro A5 c5 w5 happ hlt5; have H5 := hide (mono_step happ Own4.out HB4.out K04.out KF4.out O4.out (by omega) z4 (by omega) (by omega) (by omega)); clear happ)
  obtain ⟨gQ, rfl, q5, r5, nQR, ltQ, leQ, k05, kf5, bw5, z45⟩ := H5.out
  have Q5 := hide q5
  have R5 := hide r5
  have K05 := hide k05
  have KF5 := hide kf5
  have hf1 := kf5.c 1 rfl
  have z5 : w.heap.size ≤ w5.heap.size := bw5.size
  have hnil := hide (World.ownsRow_nil w5 w5.heap.size 50 1)
  clear q5 r5 k05 kf5 H5 K04 KF4 O4 Own4
  rw [rounds_succ]
  go_wp2_with (at_builtin; refine wpl_app1b rfl (.tmp 55) (.tmp 57) 25 rfl w5.heap.size 50 i1 (.slice none 0 0) 1 24 Tryz.underlying25 hi1 hy0 hy1 hy2 rfl (by omega) w5 #[.slice (some ⟨gQ, 0, none⟩) 1 c5] _ rfl none 0 0 1 _ rfl rfl hnil.out rfl (by simp [Value.oneCell']) (by omega) (by omega) (Nat.le_refl _) ?_; intro A6 c6 w6 happ hlt6; have b6 := hide (happ.low (Below.refl w5.heap.size w5) (Nat.le_refl _) (Nat.le_refl _) hnil.out); have P6 := hide happ.1; have kf6 := KF5.out.below b6.out; have f1 := kf6.c 1 rfl; have f0 := kf6.c 0 rfl; have ff := kf6.f 1; clear happ)
  obtain ⟨gP, rfl, hP1, hP2⟩ := own_form P6.out (by omega)
  have zQ : gQ < w5.heap.size := ltQ
  have hRl : gR < w5.heap.size := by omega
  have hgR : gp ≤ gR := by omega
  have hF6 : Fld1 w6 gp w6.heap.size gP c6 gQ c5 gR 1 1 1 :=
    ⟨owns_raise P6.out (by omega), owns_raise (owns_below Q5.out b6.out (fun ad e => by injection e with e; subst e; exact zQ)) leQ, owns_raise (R5.out.below b6.out (by omega)).own hgR, hP2, by omega, by omega, by omega, by omega, nQR, by constructor <;> omega, by constructor <;> omega⟩
  have F7 := hide (hF6.same (w' := w6.setCell ⟨w.heap.size + 1 + 1, 1, none⟩ (.slice (some ⟨gP, 0, none⟩) 1 c6)) (Same.setCell (p := ⟨w.heap.size + 1 + 1, 1, none⟩) (Same.refl _ _ _) (.inl (by show w.heap.size + 1 + 1 < gp; omega)) _))
  have K07 := hide ((K05.out.below b6.out).far (b := w.heap.size + 1 + 1) (i := 1) (by omega) (.slice (some ⟨gP, 0, none⟩) 1 c6))
  have kf7 := kf6.set 1 (.slice (some ⟨gP, 0, none⟩) 1 c6)
  simp only [List.setIfInBounds_toArray, List.set_cons_zero, List.set_cons_succ] at kf7
  have bw6 := bw5.trans (b6.out.mono z5)
  have bw7 : Below w.heap.size w (w6.setCell ⟨w.heap.size + 1 + 1, 1, none⟩ (.slice (some ⟨gP, 0, none⟩) 1 c6)) := bw6.setCell (by show w.heap.size ≤ w.heap.size + 1 + 1; omega) _
  have z7 : w6.heap.size ≤ (w6.setCell ⟨w.heap.size + 1 + 1, 1, none⟩ (.slice (some ⟨gP, 0, none⟩) 1 c6)).heap.size := by simp [World.setCell]
  have z6' := b6.out.size
  clear hF6 kf6 f0 f1 ff P6 Q5 R5 K05 KF5 hf1
  generalize w6.setCell ⟨w.heap.size + 1 + 1, 1, none⟩ (.slice (some ⟨gP, 0, none⟩) 1 c6) = w7 at F7 K07 kf7 bw7 z7 ⊢
  have f0 := kf7.c 0 rfl
  have f1 := kf7.c 1 rfl
  have KF7 := hide kf7
  clear kf7
  rw [rounds_succ]
  go_wp2_with fail
  refine (impl_FormatField1 gp w6.heap.size gP c6 gQ c5 gR 1 w7 F7.out z7).mono ?_
  rintro e w8 ⟨rfl, b8⟩
  have kf8 := KF7.out.below b8
  have k08 := K07.out.below b8
  have bw8 := bw7.trans (b8.mono bw7.size)
  have F8 := F7.out.below b8 z7
  have z8 := b8.size
  have hR := fld_done F8 bw8 (by omega) (by omega) (.int .i64 1) (.slice (some ⟨gP, 0, none⟩) 1 c6)
  have HR9 := hide hR
  have t0 := kf8.c 0 rfl
  have t1 := kf8.c 1 rfl
  have U1 := k08.c 0 rfl
  have U2 := k08.c 1 rfl
  have V1 := k08.f 0
  have V2 := k08.f 1
  have zk := k08.lt
  clear hR F8 bw8 kf8 k08 F7 K07 KF7 f0 f1
  go_wp2_with fail
  refine bodyPost_ret (v := .tuple #[.agg #[.int .i64 1, .slice (some ⟨gP, 0, none⟩) 1 c6], .bool true]) (by simp [results, Tryz.results12, go_sem, U1, U2, V1, V2, zk]) rfl ⟨gP, c6, gQ, c5, gR, 1, rfl, ?_⟩
  exact HR9.out
end Go.Proofs.YtlfgbellhiifmaaGreatDoor
