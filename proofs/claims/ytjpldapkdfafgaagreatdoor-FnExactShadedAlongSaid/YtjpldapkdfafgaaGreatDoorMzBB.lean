/- Fields and sessions: the statements' helpers on them. -/
import Derived.Test.YtjpldapkdfafgaaGreatDoorMzX
import Derived.Test.YtjpldapkdfafgaaGreatDoorMzZ
import Derived.Test.YtjpldapkdfafgaaGreatDoorMzBA
import Derived.Test.YtjpldapkdfafgaaGreatDoorMzW
namespace Go.Proofs.YtjpldapkdfafgaaGreatDoor
open Go.RowKit
set_option linter.unusedSimpArgs false
set_option linter.unusedVariables false
set_option maxRecDepth 20000

theorem laws_szField (o : Int) (A : Option Addr) (n c : Nat) (ps : List (List Mono)) (lo hi : Nat) (left : Int) (w : World) (h : Mons2 w lo hi A n c ps) (hh : hi ≤ w.heap.size) (h0 : 0 ≤ left) (h1 : left ≤ 1048576) :
    Calls Tryz.prog 4 #[.agg #[.int .i64 o, .slice A n c], .int .i64 left] w fun e w' => ∃ r, e = .returned (.int .i64 r) ∧ Sz left r (n ≤ 1048576 ∧ ∀ p ∈ ps, p.length ≤ 1048576 ∧ ∀ m ∈ p, m.2.length ≤ 1048576) ∧ Below w.heap.size w w' := by
  go_enter Tryz.func4, Tryz.ntmps4
  go_wp2_with fail
  refine (laws_szMonomialSS A n c ps lo hi left _ (h.below (B := w.heap.size) (by (repeat (first | with_reducible exact Below.refl _ _ | with_reducible exact Below.refl _ _ | with_reducible refine Below.drew ?_ | ((with_reducible refine Below.alloc ?_ ?_ _); rotate_left; · first | omega | (simp [World.setCell]; done) | (simp [World.setCell]; omega)) | ((with_reducible refine Below.setCell ?_ ?_ _); rotate_left; · first | exact Nat.le_refl _ | omega | (simp; done) | (simp; omega))))) hh) (by simp; omega) h0 h1).mono ?_
  rintro e w1 ⟨r, rfl, hs, b1⟩
  have B1 : Below w.heap.size w w1 := below_alloc_inv b1
  have HS := hide hs
  have hr1 := hs.1
  clear hs b1
  by_cases hr : r < 0
  · go_wp2_with fail
    go_ret
    exact ⟨_, rfl, ⟨by omega, by omega, by omega⟩, B1⟩
  · go_wp2_with fail
    go_ret
    exact ⟨_, rfl, HS.out, B1⟩

set_option maxHeartbeats 400000 in
theorem laws_eqField (o : Int) (A : Option Addr) (n c : Nat) (xs : List (List Mono)) (lo hi : Nat) (o' : Int) (B : Option Addr) (m d : Nat) (ys : List (List Mono)) (lo' hi' : Nat) (w : World) (h : Mons2 w lo hi A n c xs) (g : Mons2 w lo' hi' B m d ys) (hh : hi ≤ w.heap.size) (gh : hi' ≤ w.heap.size) :
    Calls Tryz.prog 12 #[.agg #[.int .i64 o, .slice A n c], .agg #[.int .i64 o', .slice B m d]] w fun e w' => e = .returned (.bool (decide (o = o') && decide (xs = ys))) ∧ Below w.heap.size w w' := by
  by_cases ho : o = o'
  · subst ho
    go_enter Tryz.func12, Tryz.ntmps12
    go_wp2_with fail
    refine (laws_eqMonomialSS A n c xs lo hi B m d ys lo' hi' _ (h.below (B := w.heap.size) (by (repeat (first | with_reducible exact Below.refl _ _ | with_reducible exact Below.refl _ _ | with_reducible refine Below.drew ?_ | ((with_reducible refine Below.alloc ?_ ?_ _); rotate_left; · first | omega | (simp [World.setCell]; done) | (simp [World.setCell]; omega)) | ((with_reducible refine Below.setCell ?_ ?_ _); rotate_left; · first | exact Nat.le_refl _ | omega | (simp; done) | (simp; omega))))) hh) (g.below (B := w.heap.size) (by (repeat (first | with_reducible exact Below.refl _ _ | with_reducible exact Below.refl _ _ | with_reducible refine Below.drew ?_ | ((with_reducible refine Below.alloc ?_ ?_ _); rotate_left; · first | omega | (simp [World.setCell]; done) | (simp [World.setCell]; omega)) | ((with_reducible refine Below.setCell ?_ ?_ _); rotate_left; · first | exact Nat.le_refl _ | omega | (simp; done) | (simp; omega))))) gh) (by simp; omega) (by simp; omega)).mono ?_
    rintro e w1 ⟨rfl, b1⟩
    have B1 : Below w.heap.size w w1 := below_alloc_inv (below_alloc_inv b1)
    clear b1
    by_cases hxy : xs = ys
    · have hd : decide (xs = ys) = true := by simpa using hxy
      have hF : Hid ((decide (o = o) && decide (xs = ys)) = true) := by show _ = _; rw [hd]; simp
      rw [hd]
      clear hd hxy
      go_wp2_with fail
      go_ret
      exact ⟨ret_bool hF.out.symm, B1⟩
    · have hd : decide (xs = ys) = false := by simpa using hxy
      have hF : Hid ((decide (o = o) && decide (xs = ys)) = false) := by show _ = _; rw [hd]; simp
      rw [hd]
      clear hd hxy
      go_wp2_with fail
      go_ret
      exact ⟨ret_bool hF.out.symm, B1⟩
  · have hob : (o != o') = true := by simpa using ho
    have hF : Hid ((decide (o = o') && decide (xs = ys)) = false) := by show _ = _; rw [decide_eq_false ho]; rfl
    clear ho
    go_enter Tryz.func12, Tryz.ntmps12
    go_wp2_with fail
    go_ret
    exact ⟨ret_bool hF.out.symm, by (repeat (first | with_reducible exact Below.refl _ _ | with_reducible exact Below.refl _ _ | with_reducible refine Below.drew ?_ | ((with_reducible refine Below.alloc ?_ ?_ _); rotate_left; · first | omega | (simp [World.setCell]; done) | (simp [World.setCell]; omega)) | ((with_reducible refine Below.setCell ?_ ?_ _); rotate_left; · first | exact Nat.le_refl _ | omega | (simp; done) | (simp; omega))))⟩

end Go.Proofs.YtjpldapkdfafgaaGreatDoor
/- Steps of pairs along paths: what the law's walk uses. -/
namespace Go.Proofs.YtjpldapkdfafgaaGreatDoor
open Go.RowKit
set_option linter.unusedSimpArgs false
set_option linter.unusedVariables false
set_option maxRecDepth 20000

theorem szRows_ok2 (xss : List (List Int)) {l : Int} (h0 : 0 ≤ l) (h1 : l ≤ 1048576) : (szRowsF xss l < 0) ∨ (0 ≤ szRowsF xss l ∧ xss.length ≤ 1048576 ∧ ∀ xs ∈ xss, xs.length ≤ 1048576) := by
  unfold szRowsF
  split
  · exact .inl (by omega)
  · have h := szRowsGo_bd xss (l - xss.length) (by omega)
    by_cases h0 : szRowsGo xss (l - xss.length) < 0
    · exact .inl h0
    · exact .inr ⟨by omega, by omega, fun xs hx => by have := h.2 (by omega) xs hx; omega⟩

/-- the four rows of a pair, each in blocks of its own -/
def PairS (wr : World) (lo hi : Nat) (A : Option Addr) (n c : Nat) (xs : List Int) (B : Option Addr) (m d : Nat) (ys : List Int) (A' : Option Addr) (n' c' : Nat) (xs' : List Int) (B' : Option Addr) (m' d' : Nat) (ys' : List Int) : Prop :=
  ∃ m1 m2 m3, OwnI wr lo m1 A n c xs ∧ OwnI wr m1 m2 B m d ys ∧ OwnI wr m2 m3 A' n' c' xs' ∧ OwnI wr m3 hi B' m' d' ys' ∧ lo ≤ m1 ∧ m1 ≤ m2 ∧ m2 ≤ m3 ∧ m3 ≤ hi
section
variable {w w' : World} {lo hi : Nat} {A : Option Addr} {n c : Nat} {xs : List Int} {B : Option Addr} {m d : Nat} {ys : List Int} {A' : Option Addr} {n' c' : Nat} {xs' : List Int} {B' : Option Addr} {m' d' : Nat} {ys' : List Int}
theorem PairS.same (h : PairS w lo hi A n c xs B m d ys A' n' c' xs' B' m' d' ys') (hs : Same lo hi w w') : PairS w' lo hi A n c xs B m d ys A' n' c' xs' B' m' d' ys' := by
  obtain ⟨m1, m2, m3, a, b, c, d, e1, e2, e3, e4⟩ := h
  exact ⟨m1, m2, m3, a.same fun k p q => hs k (by omega) (by omega), b.same fun k p q => hs k (by omega) (by omega), c.same fun k p q => hs k (by omega) (by omega), d.same fun k p q => hs k (by omega) (by omega), e1, e2, e3, e4⟩
theorem PairS.below {N : Nat} (h : PairS w lo hi A n c xs B m d ys A' n' c' xs' B' m' d' ys') (hb : Below N w w') (hN : hi ≤ N) : PairS w' lo hi A n c xs B m d ys A' n' c' xs' B' m' d' ys' := h.same (.of_below hb hN)
theorem PairS.le (h : PairS w lo hi A n c xs B m d ys A' n' c' xs' B' m' d' ys') : lo ≤ hi := by
  obtain ⟨m1, m2, m3, _, _, _, _, e1, e2, e3, e4⟩ := h
  omega
theorem PairS.ints (h : PairS w lo hi A n c xs B m d ys A' n' c' xs' B' m' d' ys') {H : Nat} (hH : hi ≤ H) : Ints w 0 H A n c xs ∧ Ints w 0 H B m d ys ∧ Ints w 0 H A' n' c' xs' ∧ Ints w 0 H B' m' d' ys' := by
  obtain ⟨m1, m2, m3, a, b, c, d, e1, e2, e3, e4⟩ := h
  exact ⟨a.ints.wide (Nat.zero_le _) (by omega), b.ints.wide (Nat.zero_le _) (by omega), c.ints.wide (Nat.zero_le _) (by omega), d.ints.wide (Nat.zero_le _) (by omega)⟩
theorem PairS.form (h : PairS w lo hi A n c xs B m d ys A' n' c' xs' B' m' d' ys') : (0 < n → ∃ g, A = some ⟨g, 0, none⟩) ∧ (0 < n' → ∃ g, A' = some ⟨g, 0, none⟩) := by
  obtain ⟨m1, m2, m3, a, b, c, d, e1, e2, e3, e4⟩ := h
  exact ⟨fun hn => by obtain ⟨g, e, _⟩ := a.form hn; exact ⟨g, e⟩, fun hn => by obtain ⟨g, e, _⟩ := c.form hn; exact ⟨g, e⟩⟩
end

end Go.Proofs.YtjpldapkdfafgaaGreatDoor
/- Elementary differentials of shaded trees along paths: both walks. -/
namespace Go.Proofs.YtjpldapkdfafgaaGreatDoor
open Go.RowKit
set_option linter.unusedSimpArgs false
set_option linter.unusedVariables false
set_option maxRecDepth 20000

/-- what a field, colours and a path that are fine say -/
structure ColOk (dim n : Nat) (ps : List (List Mono)) (cs : List Int) (xss : List (List Int)) : Prop where
  gf : GoodF dim ps
  d0 : 1 ≤ dim
  d6 : dim ≤ 6
  n0 : 1 ≤ n
  n7 : n ≤ 7
  nl : xss.length = n
  rw' : ∀ r ∈ xss, r.length = dim ∧ ∀ x ∈ r, 0 ≤ x ∧ x < 1000000271
  cl : cs.length = dim
  cc : ∀ c ∈ cs, c = 0 ∨ c = 1
theorem colOk_iff {o : Int} {ps : List (List Mono)} {cs : List Int} {xss : List (List Int)} (h : colOkF o ps cs xss = true) : ∃ dim n : Nat, o = dim ∧ ColOk dim n ps cs xss := by
  unfold colOkF at h
  simp only [Bool.and_eq_true, decide_eq_true_eq] at h
  obtain ⟨⟨h1, h2⟩, h3, h4⟩ := h
  obtain ⟨dim, rfl⟩ : ∃ d : Nat, o = d := ⟨cs.length, h3.symm⟩
  obtain ⟨g1, g2, g3⟩ := field_good h1
  obtain ⟨p1, p2⟩ := path_good h2
  exact ⟨dim, xss.length, rfl, g1, g2, g3, p1.1, p1.2, rfl, p2, by omega, colGo_mem _ h4⟩
def shAlOk (o : Int) (ps : List (List Mono)) (cs : List Int) (xss : List (List Int)) (K : Int) : Bool := colOkF o ps cs xss && (decide (0 ≤ K) && decide (K < 72))
/-- a shaded tree's differential along a path -/
def shAl (o : Int) (ps : List (List Mono)) (cs : List Int) (xss : List (List Int)) (K : Int) : List (List Int) :=
  if shAlOk o ps cs xss K = true then turnL (Jr.rowsJ o.toNat (Jr.dT o.toNat ps cs (dirO xss.length (turnL xss o.toNat)) (listAt K))) xss.length else []
theorem shAl_ok {dim n : Nat} {ps : List (List Mono)} {cs : List Int} {xss : List (List Int)} {K : Int} (h : shAlOk (dim : Int) ps cs xss K = true) (hn : xss.length = n) : shAl (dim : Int) ps cs xss K = turnL (Jr.rowsJ dim (Jr.dT dim ps cs (dirO n (turnL xss dim)) (listAt K))) n := by
  subst hn
  unfold shAl
  rw [if_pos h]
  rfl
theorem shAl_bad {o : Int} {ps : List (List Mono)} {cs : List Int} {xss : List (List Int)} {K : Int} (h : shAlOk o ps cs xss K = false) : shAl o ps cs xss K = [] := by
  unfold shAl
  rw [h]
  rfl
theorem shAl_tot (o : Int) (ps : List (List Mono)) (cs : List Int) (xss : List (List Int)) (K : Int) : totS (shAl o ps cs xss K) ≤ 1048576 := by
  cases hk : shAlOk o ps cs xss K with
  | false => rw [shAl_bad hk]; simp [totS]
  | true =>
    have hc : colOkF o ps cs xss = true := by unfold shAlOk at hk; rw [Bool.and_eq_true] at hk; exact hk.1
    obtain ⟨dim, n, rfl, h⟩ := colOk_iff hc
    rw [shAl_ok hk h.nl]
    have h6 := h.d6
    have h7 := h.n7
    have hb := totS_bd (C := 6) (turnL (Jr.rowsJ dim (Jr.dT dim ps cs (dirO n (turnL xss dim)) (listAt K))) n) (fun r hr => by
      simp only [turnL, List.mem_map, List.mem_range] at hr
      obtain ⟨i, _, rfl⟩ := hr
      rw [List.length_map, Jr.rowsJ_len]
      exact h6)
    rw [turn_len] at hb
    omega
theorem list_fine {cn : Nat} (hcn : cn < 72) : Good (listAt (cn : Int)) ∧ (listAt (cn : Int)).length ≤ 4 := by
  obtain ⟨t2, ht2⟩ : ∃ t, tabS[cn]? = some t := ⟨_, List.getElem?_eq_getElem (by have := tab_len; omega)⟩
  obtain ⟨l2, bs2, sy2⟩ := t2
  have htk := List.all_eq_true.1 tab_ok l2 (by
    have : tabL[cn]? = some l2 := by unfold tabL; rw [List.getElem?_map, ht2]; rfl
    exact List.mem_of_getElem? this)
  rw [list_at ht2]
  exact good_of htk

set_option maxRecDepth 100000 in
set_option maxHeartbeats 8000000 in
theorem impl_ShadedAlong_bad (o : Int) (P : Option Addr) (k e : Nat) (ps : List (List Mono)) (C : Option Addr) (nC cC : Nat) (cs : List Int) (K : Int) (X : Option Addr) (x f : Nat) (xss : List (List Int)) (lo hi : Nat) (w : World)
    (hp : Mons2 w lo hi P k e ps) (hc : Ints w lo hi C nC cC cs) (hx : Ints2 w lo hi X x f xss) (hh : hi ≤ w.heap.size) (hlen : ∀ p ∈ ps, ∀ m ∈ p, m.2.length ≤ 1048576) (hbad : shAlOk o ps cs xss K = false) :
    Calls Tryz.prog 10 #[.agg #[.int .i64 o, .slice P k e], .slice C nC cC, .int .i64 K, .slice X x f] w fun r w' => r = .returned (.slice none 0 0) ∧ Below w.heap.size w w' := by
  have b1 := below_alloc w (.cells #[.int .i64 o, .slice P k e] 32)
  go_enter Tryz.func10, Tryz.ntmps10
  go_wp2_with fail
  generalize w.alloc (.cells #[.int .i64 o, .slice P k e] 32) = W1 at b1 ⊢
  have z1 := b1.size
  refine (impl_coloursOk o P k e ps C nC cC cs X x f xss lo hi W1 (hp.below b1 hh) (hc.below b1 hh) (hx.below b1 hh) (by omega) hlen).mono ?_
  rintro r w2 ⟨rfl, hb2⟩
  have b2 := b1.trans (hb2.mono z1)
  cases ht : colOkF o ps cs xss with
  | false =>
    clear ht
    go_wp2_with fail
    go_ret
    exact ⟨rfl, b2⟩
  | true =>
    have hP : (decide (0 ≤ K) && decide (K < 72)) = false := by
      unfold shAlOk at hbad
      rw [ht] at hbad
      simpa using hbad
    have hIs := hide fun W => impl_isShade K W
    rw [hP] at hIs
    clear ht hP
    go_wp2_with fail
    refine (hIs.out _).mono ?_
    rintro r w3 ⟨rfl, rfl⟩
    go_wp2_with fail
    go_ret
    exact ⟨rfl, b2⟩

set_option maxRecDepth 100000 in
set_option maxHeartbeats 8000000 in
theorem impl_ShadedAlong_good (Bt : Nat) (dim np kn : Nat) (P : Option Addr) (e : Nat) (ps : List (List Mono)) (C : Option Addr) (cC : Nat) (cs : List Int) (X : Option Addr) (f : Nat) (xss : List (List Int)) (lo hi : Nat) (w : World)
    (hT : TreeV Bt w) (hBt : Bt ≤ w.heap.size) (hp : Mons2 w lo hi P dim e ps) (hc : Ints w lo hi C dim cC cs) (hx : Ints2 w lo hi X np f xss) (hh : hi ≤ w.heap.size) (hlen : ∀ p ∈ ps, ∀ m ∈ p, m.2.length ≤ 1048576) (hok : ColOk dim np ps cs xss) (hgood : colOkF (dim : Int) ps cs xss = true) (hkn : kn < 72) :
    Calls Tryz.prog 10 #[.agg #[.int .i64 (dim : Int), .slice P dim e], .slice C dim cC, .int .i64 (kn : Int), .slice X np f] w fun r w' => ∃ gR cR, r = .returned (.slice (some ⟨gR, 0, none⟩) np cR) ∧ Ros kO 25 w' w.heap.size w'.heap.size (some ⟨gR, 0, none⟩) np cR (turnL (Jr.rowsJ dim (Jr.dT dim ps cs (dirO np (turnL xss dim)) (listAt (kn : Int)))) np) ∧ Below w.heap.size w w' := by
  have hd0 := hok.d0
  have hd6 := hok.d6
  have hn0 := hok.n0
  have hn7 := hok.n7
  have HK := hide hok
  have HT := hide hT
  have HX := hide hx
  have HP := hide hp
  have HC := hide hc
  have hxp := hx.cap
  have hxm := hx.max
  have b1 := below_alloc w (.cells #[.int .i64 (dim : Int), .slice P dim e] 32)
  have k1 := BlkN.new w #[.int .i64 (dim : Int), .slice P dim e] 32
  go_enter Tryz.func10, Tryz.ntmps10
  go_wp2_with fail
  generalize w.alloc (.cells #[.int .i64 (dim : Int), .slice P dim e] 32) = W1 at b1 k1 ⊢
  have z1 := b1.size
  refine (impl_coloursOk (dim : Int) P dim e ps C dim cC cs X np f xss lo hi W1 (hp.below b1 hh) (hc.below b1 hh) (hx.below b1 hh) (by omega) hlen).mono ?_
  rw [hgood]
  rintro r w2 ⟨rfl, hb2⟩
  have bO := hide (b1.trans (hb2.mono z1))
  have k2 := hide (k1.below hb2)
  have z2 := bO.out.size
  have hIs := hide fun W => impl_isShade (kn : Int) W
  have hKb : (decide (0 ≤ (kn : Int)) && decide ((kn : Int) < 72)) = true := by simp; omega
  rw [hKb] at hIs
  clear b1 k1 hb2 hp hc hx hok hgood hKb hT z1
  go_wp2_with fail
  refine (hIs.out _).mono ?_
  rintro r w3 ⟨rfl, rfl⟩
  obtain ⟨gP, hgP⟩ : ∃ g, g = w.heap.size := ⟨_, rfl⟩
  rw [← hgP] at k2 ⊢
  clear hgP hIs
  have cp0 := k2.out.c 0 rfl
  have cp1 := k2.out.c 1 rfl
  have hgPw := k2.out.lt
  have hnl := hide HK.out.nl
  have hNum : Hid (JNum np (turnL xss dim)) := by have := turn_num HK.out.rw'; rw [hnl.out] at this; exact this
  have hAll : Hid (∀ W, Below w2.heap.size w2 W → Calls Tryz.prog 30 #[] W fun e w' => ∃ g c es, e = .returned (.slice (some ⟨g, 0, none⟩) 72 c) ∧ AllS w' W.heap.size w'.heap.size (some ⟨g, 0, none⟩) 72 c es ∧ es.map Sh.key = tabS ∧ Below W.heap.size W w') := fun W hW =>
    impl_shadeAll Bt W (HT.out.below (bO.out.trans (hW.mono z2)) hBt) (by have := hW.size; omega)
  have hJets : Hid (∀ W, Below w2.heap.size w2 W → Calls Tryz.prog 31 #[.slice X np f, .int .i64 (dim : Int)] W fun e w' => ∃ gR cR, e = .returned (.slice (some ⟨gR, 0, none⟩) dim cR) ∧ Ints2 w' W.heap.size w'.heap.size (some ⟨gR, 0, none⟩) dim cR (turnL xss dim) ∧ Below W.heap.size W w') := fun W hW =>
    impl_jets X np f xss lo hi dim W (HX.out.below (bO.out.trans (hW.mono z2)) hh) (by have := hW.size; omega) (fun r hr => by rw [(HK.out.rw' r hr).1]; exact Nat.le_refl _) (by omega) (by omega) (by omega)
  have hDif : Hid (∀ W gA cA es l1 h1 gy cy l2 h2, Below w2.heap.size w2 W → AllS W l1 h1 (some ⟨gA, 0, none⟩) 72 cA es → es.map Sh.key = tabS → h1 ≤ W.heap.size → Ints2 W l2 h2 (some ⟨gy, 0, none⟩) dim cy (turnL xss dim) → h2 ≤ W.heap.size →
      Calls Tryz.prog 29 #[.slice (some ⟨gA, 0, none⟩) 72 cA, .agg #[.int .i64 (dim : Int), .slice P dim e], .slice C dim cC, .slice (some ⟨gy, 0, none⟩) dim cy, .int .i64 ((kn + 1 : Nat) : Int)] W fun r w' => ∃ gR cR Bd qd, r = .returned (.slice (some ⟨gR, 0, none⟩) (kn + 1) cR) ∧ kn + 1 ≤ cR ∧ cR ≤ 9223372036854775807 ∧ w'.cell? ⟨gR, kn, none⟩ = some (.slice Bd dim qd) ∧ Ints2 w' W.heap.size w'.heap.size Bd dim qd (Jr.rowsJ dim (Jr.dT dim ps cs (dirO np (turnL xss dim)) (listAt (kn : Int)))) ∧ Below W.heap.size W w') := fun W gA cA es l1 h1 gy cy l2 h2 hW hA hkey hz1 hy hz2 => by
    have hbW := bO.out.trans (hW.mono z2)
    have hs := hW.size
    refine (impl_shadedDifferentials gA cA es hkey l1 h1 (dim : Int) P dim e ps lo hi C cC cs lo hi gy cy (turnL xss dim) l2 h2 np (kn + 1) W hA (HP.out.below hbW hh) (HC.out.below hbW hh) hy hz1 (by omega) (by omega) hz2 HK.out.gf hNum.out (by omega) hd6 (by omega) (by omega) (by omega)).mono ?_
    rintro r w' ⟨R, cR, vs, rfl, hL, hb⟩
    obtain ⟨gR, rfl, _, _, _⟩ := hL.form (by omega)
    obtain ⟨v, l, h', x, hcv, ⟨Bd, qd, dd, rfl, hI⟩, q1, q2, hx⟩ := hL.at_ (k := kn) (by omega) trivial
    have hxx := hx.out
    simp only [List.getElem?_map, List.getElem?_range (show kn < kn + 1 by omega), Option.map_some, Option.some.injEq] at hxx
    rw [← hxx] at hI
    obtain rfl : dim = qd := by rw [← hI.len, Jr.rowsJ_len]
    have hcap := hL.capb
    exact ⟨gR, cR, Bd, dd, rfl, hcap.1, hcap.2, hcv, hI.wide2 q1 q2, hb⟩
  have hPts : Hid (∀ W Bd qd l2 h2, Below w2.heap.size w2 W → Ints2 W l2 h2 Bd dim qd (Jr.rowsJ dim (Jr.dT dim ps cs (dirO np (turnL xss dim)) (listAt (kn : Int)))) → h2 ≤ W.heap.size → Calls Tryz.prog 28 #[.slice Bd dim qd, .int .i64 (np : Int)] W fun e w' => ∃ gR cR, e = .returned (.slice (some ⟨gR, 0, none⟩) np cR) ∧ Ros kO 25 w' W.heap.size w'.heap.size (some ⟨gR, 0, none⟩) np cR (turnL (Jr.rowsJ dim (Jr.dT dim ps cs (dirO np (turnL xss dim)) (listAt (kn : Int)))) np) ∧ Below W.heap.size W w') := fun W Bd qd l2 h2 hW hI hz =>
    impl_pointsO Bd dim qd _ l2 h2 np W hI hz (fun r hr => by rw [(Jr.rowsJ_num dim _ r hr).1]; exact Nat.le_refl _) (by omega) (by omega) (by omega)
  clear k2
  have hwk := IntWalk.i64_in ((kn : Int) + 1) (by omega)
  go_upto_region 3 with fail
  refine wp_region_Z (fun W' => Below w2.heap.size w2 W') 16 (by kernel_rfl) ?_
  simp only [List.size_toArray, List.length_cons, List.length_nil, Nat.reduceAdd]
  have hS0 : Below w2.heap.size w2 w2.drew := (Below.refl w2.heap.size w2).drew
  generalize w2.drew = V at hS0 ⊢
  refine wpAnyZ_take 1 (.agg #[.int .i64 (dim : Int), .slice P dim e]) rfl (by kernel_rfl) (by kernel_rfl) (fun _ _ _ h => h) (by rfl) (fun _ hS => by have q0 := (hS.cell (p := ⟨gP, 0, none⟩) hgPw).trans cp0; have q1 := (hS.cell (p := ⟨gP, 1, none⟩) hgPw).trans cp1; clear hS; first | (simp [go_sem, q0, q1]; done) | go_simp) hS0 ?_
  try simp only [Act.put, List.setIfInBounds_toArray, List.set_cons_zero, List.set_cons_succ, List.getElem_toArray, List.getElem_cons_zero, List.getElem_cons_succ]
  refine wpAnyZ_takeW 2 (.slice C dim cC) rfl (by kernel_rfl) (by kernel_rfl) (fun _ _ _ h => h) (by rfl) (fun _ => by first | (simp [go_sem]; done) | go_simp) hS0 ?_
  try simp only [Act.put, List.setIfInBounds_toArray, List.set_cons_zero, List.set_cons_succ, List.getElem_toArray, List.getElem_cons_zero, List.getElem_cons_succ]
  refine wpAnyZ_takeW 3 (.slice X np f) rfl (by kernel_rfl) (by kernel_rfl) (fun _ _ _ h => h) (by rfl) (fun _ => by first | (simp [go_sem]; done) | go_simp) hS0 ?_
  try simp only [Act.put, List.setIfInBounds_toArray, List.set_cons_zero, List.set_cons_succ, List.getElem_toArray, List.getElem_cons_zero, List.getElem_cons_succ]
  refine wpAnyZ_takeW 4 (.pointer (some ⟨gP, 0, none⟩)) rfl (by kernel_rfl) (by kernel_rfl) (fun _ _ _ h => h) (by rfl) (fun _ => by first | (simp [go_sem]; done) | go_simp) hS0 ?_
  try simp only [Act.put, List.setIfInBounds_toArray, List.set_cons_zero, List.set_cons_succ, List.getElem_toArray, List.getElem_cons_zero, List.getElem_cons_succ]
  refine wpAnyZ_take 5 (.int .i64 (dim : Int)) rfl (by kernel_rfl) (by kernel_rfl) (fun _ _ _ h => h) (by rfl) (fun _ hS => by have q0 := (hS.cell (p := ⟨gP, 0, none⟩) hgPw).trans cp0; clear hS; first | (simp [go_sem, q0]; done) | go_simp) hS0 ?_
  try simp only [Act.put, List.setIfInBounds_toArray, List.set_cons_zero, List.set_cons_succ, List.getElem_toArray, List.getElem_cons_zero, List.getElem_cons_succ]
  refine wpAnyZ_takeW 7 (.int .i64 (kn : Int)) rfl (by kernel_rfl) (by kernel_rfl) (fun _ _ _ h => h) (by rfl) (fun _ => by first | (simp [go_sem]; done) | go_simp) hS0 ?_
  try simp only [Act.put, List.setIfInBounds_toArray, List.set_cons_zero, List.set_cons_succ, List.getElem_toArray, List.getElem_cons_zero, List.getElem_cons_succ]
  refine wpAnyZ_takeW 8 (.int .i64 ((kn + 1 : Nat) : Int)) rfl (by kernel_rfl) (by kernel_rfl) (fun _ _ _ h => h) (by rfl) (fun _ => by first | (simp [go_sem, hwk]; done) | go_simp) hS0 ?_
  try simp only [Act.put, List.setIfInBounds_toArray, List.set_cons_zero, List.set_cons_succ, List.getElem_toArray, List.getElem_cons_zero, List.getElem_cons_succ]
  refine wpAnyZ_takeW 10 (.int .i64 (kn : Int)) rfl (by kernel_rfl) (by kernel_rfl) (fun _ _ _ h => h) (by rfl) (fun _ => by first | (simp [go_sem]; done) | go_simp) hS0 ?_
  try simp only [Act.put, List.setIfInBounds_toArray, List.set_cons_zero, List.set_cons_succ, List.getElem_toArray, List.getElem_cons_zero, List.getElem_cons_succ]
  refine wpAnyZ_takeW 13 (.slice X np f) rfl (by kernel_rfl) (by kernel_rfl) (fun _ _ _ h => h) (by rfl) (fun _ => by first | (simp [go_sem]; done) | go_simp) hS0 ?_
  try simp only [Act.put, List.setIfInBounds_toArray, List.set_cons_zero, List.set_cons_succ, List.getElem_toArray, List.getElem_cons_zero, List.getElem_cons_succ]
  refine wpAnyZ_takeW 14 (.int .i64 (np : Int)) rfl (by kernel_rfl) (by kernel_rfl) (fun _ _ _ h => h) (by rfl) (fun _ => by first | (simp [go_sem]; done) | go_simp) hS0 ?_
  try simp only [Act.put, List.setIfInBounds_toArray, List.set_cons_zero, List.set_cons_succ, List.getElem_toArray, List.getElem_cons_zero, List.getElem_cons_succ]
  refine wpAnyZ_one 0 (by kernel_rfl) rfl (by rfl) (fun K hK => ?_)
  go_simp
  refine (hAll.out V hS0).mono ?_
  rintro e x1 ⟨gA, cA, es, rfl, oA, hky, b1⟩
  have z1 := hS0.size
  have hS1 := hS0.trans (b1.mono z1)
  have hA1 := hide oA
  have hKY := hide hky
  clear oA hky
  clear z1
  go_wp2_with fail
  refine hK.out _ _ hS1 ?_
  clear hK K
  try simp only [Act.put, List.setIfInBounds_toArray, List.set_cons_zero, List.set_cons_succ, List.getElem_toArray, List.getElem_cons_zero, List.getElem_cons_succ]
  refine wpAnyZ_one 6 (by kernel_rfl) rfl (by rfl) (fun K hK => ?_)
  go_simp
  refine (hJets.out x1 hS1).mono ?_
  rintro e x2 ⟨gy, cy, rfl, oJ, b2⟩
  have z2 := hS1.size
  have hS2 := hS1.trans (b2.mono z2)
  have hJ1 := hide oJ
  clear oJ
  have hJF := hide hJ1.out
  have hAF := hide (hA1.out.below b2 (Nat.le_refl _))
  have zF := b2.size
  clear hA1 hJ1
  clear z2
  go_wp2_with fail
  refine hK.out _ _ hS2 ?_
  clear hK K
  try simp only [Act.put, List.setIfInBounds_toArray, List.set_cons_zero, List.set_cons_succ, List.getElem_toArray, List.getElem_cons_zero, List.getElem_cons_succ]
  refine wpAnyZ_one 9 (by kernel_rfl) rfl (by rfl) (fun K hK => ?_)
  go_simp
  refine (hDif.out x2 gA cA es _ _ gy cy _ _ hS2 hAF.out hKY.out (by omega) hJF.out (by omega)).mono ?_
  rintro e x3 ⟨gR, cR, Bd, qd, rfl, hq1, hq2, hcv, oD, b3⟩
  have z3 := hS2.size
  have hS3 := hS2.trans (b3.mono z3)
  have hD := hide oD
  clear oD hAF hJF
  clear z3
  go_wp2_with fail
  refine hK.out _ _ hS3 ?_
  clear hK K
  try simp only [Act.put, List.setIfInBounds_toArray, List.set_cons_zero, List.set_cons_succ, List.getElem_toArray, List.getElem_cons_zero, List.getElem_cons_succ]
  refine wpAnyZ_takeW 11 (.pointer (some ⟨gR, kn, none⟩)) rfl (by kernel_rfl) (by kernel_rfl) (fun _ _ _ h => h) (by rfl) (fun _ => by simp [go_sem]; omega) hS3 ?_
  try simp only [Act.put, List.setIfInBounds_toArray, List.set_cons_zero, List.set_cons_succ, List.getElem_toArray, List.getElem_cons_zero, List.getElem_cons_succ]
  refine wpAnyZ_one 12 (by kernel_rfl) rfl (by rfl) (fun K hK => ?_)
  have qe12_0 := hcv
  go_simp
  refine hK.out _ _ hS3 ?_
  clear hK K qe12_0
  try simp only [Act.put, List.setIfInBounds_toArray, List.set_cons_zero, List.set_cons_succ, List.getElem_toArray, List.getElem_cons_zero, List.getElem_cons_succ]
  refine wpAnyZ_one 15 (by kernel_rfl) rfl (by rfl) (fun K hK => ?_)
  go_simp
  refine (hPts.out x3 Bd qd _ _ hS3 hD.out (Nat.le_refl _)).mono ?_
  rintro e x4 ⟨gQ, cQ, rfl, oQ, b4⟩
  have z4 := hS3.size
  have hS4 := hS3.trans (b4.mono z4)
  have hQ := hide (oQ.wide (lo' := w.heap.size) (by have := hS3.size; omega) (Nat.le_refl _))
  clear oQ hD
  clear z4
  go_wp2_with fail
  refine hK.out _ _ hS4 ?_
  clear hK K
  try simp only [Act.put, List.setIfInBounds_toArray, List.set_cons_zero, List.set_cons_succ, List.getElem_toArray, List.getElem_cons_zero, List.getElem_cons_succ]
  refine wpAnyZ_last (by kernel_rfl) rfl (by kernel_rfl) (by rfl) (fun K hK => ?_)
  go_simp
  refine hK _ _ ?_
  clear hK K
  have hBz := hide hS4
  go_wp2_with fail
  go_ret
  exact ⟨_, _, rfl, hQ.out, bO.out.trans (hBz.out.mono z2)⟩

theorem impl_ShadedAlong_all (Bt : Nat) (o : Int) (P : Option Addr) (k e : Nat) (ps : List (List Mono)) (C : Option Addr) (nC cC : Nat) (cs : List Int) (K : Int) (X : Option Addr) (x f : Nat) (xss : List (List Int)) (lo hi : Nat) (w : World)
    (hT : TreeV Bt w) (hBt : Bt ≤ w.heap.size) (hp : Mons2 w lo hi P k e ps) (hc : Ints w lo hi C nC cC cs) (hx : Ints2 w lo hi X x f xss) (hh : hi ≤ w.heap.size) (hlen : ∀ p ∈ ps, ∀ m ∈ p, m.2.length ≤ 1048576) :
    Calls Tryz.prog 10 #[.agg #[.int .i64 o, .slice P k e], .slice C nC cC, .int .i64 K, .slice X x f] w fun r w' => ∃ R q cR, r = .returned (.slice R q cR) ∧ Ros kO 25 w' w.heap.size w'.heap.size R q cR (shAl o ps cs xss K) ∧ Below w.heap.size w w' := by
  cases hk : shAlOk o ps cs xss K with
  | false =>
    refine (impl_ShadedAlong_bad o P k e ps C nC cC cs K X x f xss lo hi w hp hc hx hh hlen hk).mono ?_
    rintro r w' ⟨rfl, hb⟩
    exact ⟨none, 0, 0, rfl, .inl ⟨rfl, rfl, rfl, shAl_bad hk, hb.size⟩, hb⟩
  | true =>
    have hk2 := hk
    unfold shAlOk at hk2
    simp only [Bool.and_eq_true, decide_eq_true_eq] at hk2
    obtain ⟨dim, np, rfl, hK⟩ := colOk_iff hk2.1
    obtain rfl : k = dim := by rw [← hp.len]; exact hK.gf.1
    obtain rfl : nC = k := by rw [← hc.len]; exact hK.cl
    obtain rfl : x = np := by rw [← hx.len]; exact hK.nl
    obtain ⟨kn, rfl⟩ : ∃ q : Nat, K = (q : Int) := ⟨K.toNat, by omega⟩
    refine (impl_ShadedAlong_good Bt nC x kn P e ps C cC cs X f xss lo hi w hT hBt hp hc hx hh hlen hK hk2.1 (by omega)).mono ?_
    rintro r w' ⟨gR, cR, rfl, hR, hb⟩
    exact ⟨_, _, _, rfl, by rw [shAl_ok hk hK.nl]; exact hR, hb⟩
end Go.Proofs.YtjpldapkdfafgaaGreatDoor
