/- Own slices whose elements own their memory, one behind the other: copies, marks. -/
import Derived.Test.YtjamdnbabfodkaaJetM
import Derived.Test.YtjamdnbabfodkaaMgA
import Derived.Test.YtjamdnbabfodkaaMono2
import Derived.Test.YtjamdnbabfodkaaTab
namespace Go.Proofs.Ytjamdnbabfodkaa
open Go.RowKit
set_option linter.unusedSimpArgs false
set_option linter.unusedVariables false
set_option maxRecDepth 20000

/-- the call's own row of integers -/
def kO : Kd (List Int) := ⟨fun w l h v xs => ∃ B m d, v = .slice B m d ∧ OwnI w l h B m d xs, fun ⟨B, m, d, e, hI⟩ hs => ⟨B, m, d, e, hI.same hs⟩, fun ⟨_, _, _, e, _⟩ => by rw [e]; rfl⟩
/-- each element in blocks of its own, one behind the other -/
def Stk {α : Type} (K : Kd α) (w : World) : Nat → Nat → List Value → List α → Prop
  | lo, hi, [], [] => lo ≤ hi
  | lo, hi, v :: vs, x :: xs => ∃ l m, lo ≤ l ∧ l ≤ m ∧ K.rd w l m v x ∧ Stk K w m hi vs xs
  | _, _, _, _ => False
section
variable {α : Type} {K : Kd α} {w w' : World}
theorem Stk.le : ∀ {vs : List Value} {xs : List α} {lo hi : Nat}, Stk K w lo hi vs xs → lo ≤ hi
  | [], [], _, _, h => h
  | v :: vs, x :: xs, _, _, ⟨_, _, h1, h1', _, h2⟩ => Nat.le_trans (Nat.le_trans h1 h1') h2.le
  | [], _ :: _, _, _, h => by cases h
  | _ :: _, [], _, _, h => by cases h
theorem Stk.len : ∀ {vs : List Value} {xs : List α} {lo hi : Nat}, Stk K w lo hi vs xs → vs.length = xs.length
  | [], [], _, _, _ => rfl
  | v :: vs, x :: xs, _, _, ⟨_, _, _, _, _, h2⟩ => by simp [h2.len]
  | [], _ :: _, _, _, h => by cases h
  | _ :: _, [], _, _, h => by cases h
theorem Stk.same : ∀ {vs : List Value} {xs : List α} {lo hi : Nat}, Stk K w lo hi vs xs → Same lo hi w w' → Stk K w' lo hi vs xs
  | [], [], _, _, h, _ => h
  | v :: vs, x :: xs, _, _, ⟨l, m, h1, h1', h2, h3⟩, hs => ⟨l, m, h1, h1', K.same h2 (fun k a b => hs k (Nat.le_trans h1 a) (Nat.lt_of_lt_of_le b h3.le)), h3.same (fun k a b => hs k (Nat.le_trans (Nat.le_trans h1 h1') a) b)⟩
  | [], _ :: _, _, _, h, _ => by cases h
  | _ :: _, [], _, _, h, _ => by cases h
theorem Stk.wide : ∀ {vs : List Value} {xs : List α} {lo lo' hi hi' : Nat}, Stk K w lo hi vs xs → lo' ≤ lo → hi ≤ hi' → Stk K w lo' hi' vs xs
  | [], [], _, _, _, _, h, h1, h2 => Nat.le_trans (Nat.le_trans h1 h) h2
  | v :: vs, x :: xs, _, _, _, _, ⟨l, m, h1, h1', h2, h3⟩, a, b => ⟨l, m, Nat.le_trans a h1, h1', h2, h3.wide (Nat.le_refl _) b⟩
  | [], _ :: _, _, _, _, _, h, _, _ => by cases h
  | _ :: _, [], _, _, _, _, h, _, _ => by cases h
theorem Stk.snoc : ∀ {vs : List Value} {xs : List α} {lo m l hi : Nat} {v : Value} {x : α}, Stk K w lo m vs xs → K.rd w l hi v x → m ≤ l → l ≤ hi → Stk K w lo hi (vs ++ [v]) (xs ++ [x])
  | [], [], _, _, l, hi, v, x, h, hr, hm, hl => ⟨l, hi, Nat.le_trans h hm, hl, hr, Nat.le_refl _⟩
  | u :: vs, y :: xs, _, _, _, _, _, _, ⟨q, q', h1, h1', h2, h3⟩, hr, hm, hl => ⟨q, q', h1, h1', h2, h3.snoc hr hm hl⟩
  | [], _ :: _, _, _, _, _, _, _, h, _, _, _ => by cases h
  | _ :: _, [], _, _, _, _, _, _, h, _, _, _ => by cases h
theorem Stk.append : ∀ {vs us : List Value} {xs ys : List α} {lo m hi : Nat}, Stk K w lo m vs xs → Stk K w m hi us ys → Stk K w lo hi (vs ++ us) (xs ++ ys)
  | [], _, [], _, _, _, _, h, h2 => h2.wide h (Nat.le_refl _)
  | u :: vs, _, y :: xs, _, _, _, _, ⟨q, q', h1, h1', h2, h3⟩, h4 => ⟨q, q', h1, h1', h2, h3.append h4⟩
  | [], _, _ :: _, _, _, _, _, h, _ => by cases h
  | _ :: _, _, [], _, _, _, _, h, _ => by cases h
theorem Stk.head {vs : List Value} {xs : List α} {lo hi : Nat} {v : Value} {x : α} (h : Stk K w lo hi (v :: vs) (x :: xs)) : ∃ l m, lo ≤ l ∧ l ≤ m ∧ m ≤ hi ∧ K.rd w l m v x ∧ Stk K w m hi vs xs := by
  obtain ⟨l, m, h1, h1', h2, h3⟩ := h
  exact ⟨l, m, h1, h1', h3.le, h2, h3⟩
theorem Stk.get : ∀ {vs : List Value} {xs : List α} {lo hi : Nat}, Stk K w lo hi vs xs → ∀ {j : Nat} {x : α}, xs[j]? = some x → ∃ v l m, vs[j]? = some v ∧ K.rd w l m v x ∧ lo ≤ l ∧ l ≤ m ∧ m ≤ hi
  | [], [], _, _, _, j, x, hx => by simp at hx
  | v :: vs, y :: xs, _, _, ⟨l, m, h1, h1', h2, h3⟩, 0, x, hx => by
    obtain rfl : y = x := by simpa using hx
    exact ⟨v, l, m, rfl, h2, h1, h1', h3.le⟩
  | v :: vs, y :: xs, _, _, ⟨l, m, h1, h1', h2, h3⟩, j + 1, x, hx => by
    obtain ⟨u, l2, m2, e, r, a, b, c⟩ := h3.get (j := j) (x := x) (by simpa using hx)
    exact ⟨u, l2, m2, by simpa using e, r, by omega, b, c⟩
  | [], _ :: _, _, _, h, _, _, _ => by cases h
  | _ :: _, [], _, _, h, _, _, _ => by cases h
theorem Stk.below {vs : List Value} {xs : List α} {lo hi B : Nat} (h : Stk K w lo hi vs xs) (hb : Below B w w') (hB : hi ≤ B) : Stk K w' lo hi vs xs := h.same (.of_below hb hB)
end

/-- The call's own outer slice, its first i elements laid, one behind the other. -/
structure OutS {α : Type} (K : Kd α) (w : World) (lo mid : Nat) (T : TypeId) (g n c i : Nat) (vs : List Value) (xs : List α) : Prop where
  own : w.ownsRow lo T 1 (.slice (some ⟨g, 0, none⟩) n c) n vs
  stk : Stk K w (g + 1) mid (vs.take i) (xs.take i)
  len : xs.length = n
section
variable {α : Type} {K : Kd α} {T : TypeId} {w w' : World} {lo mid g n c i : Nat} {vs : List Value} {xs : List α}
theorem OutS.vlen (h : OutS K w lo mid T g n c i vs xs) : vs.length = n := own_len h.own
theorem OutS.lt (h : OutS K w lo mid T g n c i vs xs) : g < mid := h.stk.le
theorem OutS.below (h : OutS K w lo mid T g n c i vs xs) {B : Nat} (hb : Below B w w') (hB : mid ≤ B) : OutS K w' lo mid T g n c i vs xs :=
  ⟨owns_below h.own hb fun ad e => by injection e with e; subst e; have := h.lt; show g < B; omega, h.stk.below hb hB, h.len⟩
theorem OutS.drew (h : OutS K w lo mid T g n c i vs xs) : OutS K w.drew lo mid T g n c i vs xs := ⟨h.own, h.stk.same (fun _ _ _ => rfl), h.len⟩
theorem OutS.wide (h : OutS K w lo mid T g n c i vs xs) {mid' : Nat} (h2 : mid ≤ mid') : OutS K w lo mid' T g n c i vs xs := ⟨h.own, h.stk.wide (Nat.le_refl _) h2, h.len⟩
theorem OutS.hole (h : OutS K w lo mid T g n c i vs xs) (v : Value) : OutS K (w.setCell ⟨g, i, none⟩ v) lo mid T g n c i (vs.set i v) xs :=
  ⟨(h.own.stored i v).1, by
    rw [List.take_set_of_le (Nat.le_refl i)]
    exact h.stk.same ((Same.refl _ _ _).setCell (p := ⟨g, i, none⟩) (.inl (Nat.lt_succ_self g)) v), h.len⟩
theorem OutS.fill (h : OutS K w lo mid T g n c i vs xs) {l h' : Nat} {v : Value} {x : α} (hv : vs[i]? = some v) (hx : xs[i]? = some x) (hr : K.rd w l h' v x) (hl : mid ≤ l) (hl2 : l ≤ h') : OutS K w lo h' T g n c (i + 1) vs xs :=
  ⟨h.own, by rw [List.take_add_one, List.take_add_one, hv, hx]; exact h.stk.snoc hr hl hl2, h.len⟩
theorem OutS.at_ (h : OutS K w lo mid T g n c i vs xs) {k : Nat} (hk : k < n) : ∃ v, w.cell? ⟨g, k, none⟩ = some v ∧ vs[k]? = some v ∧ w.frozen? ⟨g, k, none⟩ = false := by
  have hvl := h.vlen
  exact ⟨vs[k], (h.own.cellAt k (by omega)).trans (List.getElem?_eq_getElem (by omega)), List.getElem?_eq_getElem (by omega), h.own.frozenAt k⟩
theorem OutS.capb (h : OutS K w lo mid T g n c i vs xs) : n ≤ c ∧ c ≤ 9223372036854775807 := by
  rcases h.own.2 with ⟨e, rfl⟩ | ⟨g', cap, cur, e, _, _, h1, h2, _⟩
  · injection e; omega
  · injection e with _ _ e3; unfold maxLen at h2; omega
end
theorem OutS.nils {α : Type} (K : Kd α) (T : TypeId) (w : World) (n : Nat) {xs : List α} (hl : xs.length = n) (hn : n ≤ 9223372036854775807) (v : Value) (hv : v.oneCell' = true) : OutS K (w.alloc (.cells (madeCells #[v] n) T)) w.heap.size (w.heap.size + 1) T w.heap.size n n 0 (List.replicate n v) xs := by
  have e : (madeCells #[v] n).toList = List.replicate n v := by
    apply List.ext_getElem?
    intro j
    simp only [madeCells]
    by_cases hj : j < n
    · simp [hj, Nat.mod_one]
    · simp [hj]
  have ho := World.ownsRow_lit (size := 1) (e := T) (base := w.heap.size) w (madeCells #[v] n) n (Nat.le_refl _) (by unfold maxLen; omega) (by rw [← Array.length_toList, e]; simp)
  rw [e] at ho
  exact ⟨ho, Nat.le_refl _, hl⟩
/-- own, or nil -/
def Ros {α : Type} (K : Kd α) (T : TypeId) (w : World) (lo hi : Nat) (A : Option Addr) (n c : Nat) (xs : List α) : Prop :=
  (A = none ∧ n = 0 ∧ c = 0 ∧ xs = [] ∧ lo ≤ hi) ∨ ∃ g vs, A = some ⟨g, 0, none⟩ ∧ OutS K w lo hi T g n c n vs xs
theorem Ros.same {α : Type} {K : Kd α} {T : TypeId} {w w' : World} {lo hi : Nat} {A : Option Addr} {n c : Nat} {xs : List α} (h : Ros K T w lo hi A n c xs) (hs : Same lo hi w w') : Ros K T w' lo hi A n c xs := by
  rcases h with h | ⟨g, vs, e, h⟩
  · exact .inl h
  · have h1 := (h.own.lt g rfl).1
    have h2 := h.lt
    exact .inr ⟨g, vs, e, owns_same h.own (fun ad e => by injection e with e; subst e; exact hs g h1 h2), h.stk.same (fun k a b => hs k (by omega) b), h.len⟩
theorem Ros.below {α : Type} {K : Kd α} {T : TypeId} {w w' : World} {lo hi B : Nat} {A : Option Addr} {n c : Nat} {xs : List α} (h : Ros K T w lo hi A n c xs) (hb : Below B w w') (hB : hi ≤ B) : Ros K T w' lo hi A n c xs := h.same (.of_below hb hB)
theorem Ros.wide {α : Type} {K : Kd α} {T : TypeId} {w : World} {lo hi lo' hi' : Nat} {A : Option Addr} {n c : Nat} {xs : List α} (h : Ros K T w lo hi A n c xs) (h1 : lo' ≤ lo) (h2 : hi ≤ hi') : Ros K T w lo' hi' A n c xs := by
  rcases h with ⟨a, b, c, d, e⟩ | ⟨g, vs, e, h⟩
  · exact .inl ⟨a, b, c, d, by omega⟩
  · exact .inr ⟨g, vs, e, owns_low h.own h1, h.stk.wide (Nat.le_refl _) h2, h.len⟩
theorem Ros.len {α : Type} {K : Kd α} {T : TypeId} {w : World} {lo hi : Nat} {A : Option Addr} {n c : Nat} {xs : List α} (h : Ros K T w lo hi A n c xs) : xs.length = n := by
  rcases h with ⟨_, rfl, _, rfl, _⟩ | ⟨_, _, _, h⟩
  · rfl
  · exact h.len
theorem Ros.capb {α : Type} {K : Kd α} {T : TypeId} {w : World} {lo hi : Nat} {A : Option Addr} {n c : Nat} {xs : List α} (h : Ros K T w lo hi A n c xs) : n ≤ c ∧ c ≤ 9223372036854775807 := by
  rcases h with ⟨_, rfl, rfl, _⟩ | ⟨_, _, _, h⟩
  · omega
  · exact h.capb
theorem Ros.le {α : Type} {K : Kd α} {T : TypeId} {w : World} {lo hi : Nat} {A : Option Addr} {n c : Nat} {xs : List α} (h : Ros K T w lo hi A n c xs) : lo ≤ hi := by
  rcases h with ⟨_, _, _, _, h⟩ | ⟨g, _, _, h⟩
  · exact h
  · have h1 := (h.own.lt g rfl).1
    have h2 := h.lt
    omega
theorem Ros.ints2 {T : TypeId} {w : World} {lo hi : Nat} {A : Option Addr} {n c : Nat} {xss : List (List Int)} (h : Ros kO T w lo hi A n c xss) : Ints2 w lo hi A n c xss := by
  rcases h with ⟨rfl, rfl, rfl, rfl, _⟩ | ⟨g, vs, rfl, h⟩
  · exact Ints2.nil_ _ _ _
  · have h1 := (h.own.lt g rfl).1
    have h2 := h.lt
    have hvl := h.vlen
    have hs := h.stk
    rw [List.take_of_length_le (by omega), List.take_of_length_le (Nat.le_of_eq h.len)] at hs
    refine ⟨h.len, h.capb.1, h.capb.2, fun hn => ⟨_, rfl, h1, h2, fun j xs hj => ?_⟩⟩
    obtain ⟨v, l, m, e, ⟨B, k, d, rfl, hO⟩, a, b, c⟩ := hs.get hj
    refine ⟨B, k, d, ?_, hO.ints.wide (by omega) c⟩
    have hj2 := (List.getElem?_eq_some_iff.1 e).1
    simpa [Addr.add_lit] using (h.own.cellAt j (by omega)).trans e
end Go.Proofs.Ytjamdnbabfodkaa
/- Paths: own copies, marks. -/
namespace Go.Proofs.Ytjamdnbabfodkaa
open Go.RowKit
set_option linter.unusedSimpArgs false
set_option linter.unusedVariables false
set_option maxRecDepth 20000

theorem Kd.setCell {α : Type} (K : Kd α) {w : World} {l h : Nat} {v : Value} {x : α} (hr : K.rd w l h v x) {p : Addr} (hp : p.block < l ∨ h ≤ p.block) (u : Value) : K.rd (w.setCell p u) l h v x := K.same hr ((Same.refl _ _ _).setCell hp u)

/-- the rows marked one behind the other -/
def mksS : Int → List (List Int) → List (List Int)
  | _, [] => []
  | k, xs :: r => marks k xs.length :: mksS (k + xs.length) r
def totS : List (List Int) → Nat
  | [] => 0
  | xs :: r => xs.length + totS r
theorem totS_bd {C : Nat} : ∀ (xss : List (List Int)), (∀ xs ∈ xss, xs.length ≤ C) → totS xss ≤ xss.length * C
  | [], _ => by simp [totS]
  | xs :: r, h => by
    have h1 := totS_bd r (fun y hy => h y (List.mem_cons_of_mem _ hy))
    have h2 := h xs (List.mem_cons_self ..)
    simp only [totS, List.length_cons]
    rw [Nat.add_mul, Nat.one_mul]
    omega
theorem mksS_len : ∀ (k : Int) (xss : List (List Int)), (mksS k xss).length = xss.length
  | _, [] => rfl
  | k, xs :: r => by simp [mksS, mksS_len]

set_option maxHeartbeats 1000000 in
theorem laws_markIntSSO (A : Option Addr) (n c : Nat) (xss : List (List Int)) (lo hi : Nat) (k0 : Int) (w : World) (h : Ros kO 22 w lo hi A n c xss) (hh : hi ≤ w.heap.size) (hk0 : 0 ≤ k0) (hk1 : k0 + totS xss ≤ 4611686018427387904) :
    Calls Try.prog 18 #[.slice A n c, .int .i64 k0] w fun e w' => e = .returned (.int .i64 (k0 + totS xss)) ∧ Ros kO 22 w' lo hi A n c (mksS k0 xss) ∧ Touch lo hi w w' ∧ w'.heap.size = w.heap.size := by
  have hcb := h.capb
  rcases h with ⟨rfl, rfl, rfl, rfl, hle⟩ | ⟨g, vs, rfl, h⟩
  · go_enter Try.func18, Try.ntmps18
    go_wp2_with fail
    go_loopw [1, 5] (fun q i wr => q = .int .i64 k0 ∧ i = .int .i64 0 ∧ wr = w) (fun _ _ _ => 0)
    case atStart => exact ⟨rfl, rfl, rfl⟩
    case round =>
      obtain ⟨rfl, rfl, rfl⟩ := hrel
      go_wp2_with fail
      go_ret
      exact ⟨by simp [totS], .inl ⟨rfl, rfl, rfl, rfl, hle⟩, Touch.refl _ _ _, rfl⟩
  · have hvl := h.vlen
    have hxl := h.len
    have hlo := (h.own.lt g rfl).1
    have hst := h.stk
    rw [List.take_of_length_le (by omega), List.take_of_length_le (by omega)] at hst
    have hst0 := hide hst
    have HO := hide h.own
    clear h hst
    go_enter Try.func18, Try.ntmps18
    go_wp2_with fail
    go_loopw [1, 5] (fun q i wr => ∃ (k m : Nat) (z : Int) (done : List (List Int)), k ≤ n ∧ i = .int .i64 k ∧ q = .int .i64 z ∧ 0 ≤ z ∧ z + totS (xss.drop k) = k0 + totS xss ∧ Hid (Stk kO wr (g + 1) m (vs.take k) done) ∧ Hid (Stk kO wr m hi (vs.drop k) (xss.drop k)) ∧ Hid (done ++ mksS z (xss.drop k) = mksS k0 xss) ∧ Hid (Touch lo hi w wr ∧ wr.heap.size = w.heap.size ∧ wr.ownsRow lo 22 1 (.slice (some ⟨g, 0, none⟩) n c) n vs)) (fun _ i _ => n - (intOf i).toNat)
    case atStart => exact ⟨0, g + 1, k0, [], by omega, rfl, rfl, hk0, by simp, Nat.le_refl _, hst0.out, rfl, Touch.refl _ _ _, rfl, HO.out⟩
    case round =>
      obtain ⟨k, m, z, done, hk, rfl, rfl, hz0, hz1, hD, hR, hE, hT⟩ := hrel
      by_cases hlt : k < n
      · have hR2 := hR.out
        rw [List.drop_eq_getElem_cons (by omega), List.drop_eq_getElem_cons (l := xss) (by omega)] at hR2
        obtain ⟨l, m', h1, h2, h3, ⟨B, mm, d, hv, hB⟩, hR3⟩ := hR2.head
        have hml := hB.len
        have hcc : wr.cell? ⟨g, k, none⟩ = some (.slice B mm d) := by
          rw [hT.out.2.2.cellAt k (by omega), List.getElem?_eq_getElem (by omega), hv]
        have htd : totS (xss.drop k) = mm + totS (xss.drop (k + 1)) := by rw [List.drop_eq_getElem_cons (l := xss) (i := k) (by omega), totS, hml]
        have hgm := hD.out.le
        have hws : hi ≤ wr.heap.size := by rw [hT.out.2.1]; exact hh
        have hMK := hide (laws_markIntS B mm d _ l m' z wr hB hz0 (by omega))
        have hE2 : Hid (done ++ [marks z mm] ++ mksS (z + mm) (xss.drop (k + 1)) = mksS k0 xss) := by
          show _ = _
          rw [← hE.out, List.drop_eq_getElem_cons (l := xss) (i := k) (by omega), mksS, hml]
          simp
        have hT0 := hT
        have hRR := hide hR3
        have hDD := hD
        clear hR2 hR hB hD hE hT hR3
        have hz2 : z + mm ≤ 4611686018427387904 := by omega
        go_wp2_with fail
        refine hMK.out.mono ?_
        rintro e w2 ⟨rfl, o2, t2, e2⟩
        have hD2 := hide ((hDD.out.same (t2.same (by omega) (by omega))).snoc (l := l) (hi := m') (⟨B, mm, d, rfl, o2⟩ : kO.rd w2 l m' (.slice B mm d) (marks z mm)) (by omega) (by omega))
        have hR4 := hide (hRR.out.same (t2.same (by omega) (by omega)))
        have hT2 : Hid (Touch lo hi w w2 ∧ w2.heap.size = w.heap.size ∧ w2.ownsRow lo 22 1 (.slice (some ⟨g, 0, none⟩) n c) n vs) := ⟨hT0.out.1.trans (t2.wide (by omega) (by omega)), by rw [e2]; exact hT0.out.2.1, owns_same hT0.out.2.2 (fun ad e => by injection e with e; subst e; exact t2.block g (hT0.out.2.2.lt g rfl).2 (by omega))⟩
        clear hMK
        go_wp2_with fail
        refine ⟨⟨k + 1, m', z + mm, done ++ [marks z mm], by omega, by go_num, by go_num, by omega, by omega, ?_, hR4.out, hE2.out, hT2.out⟩, ?_⟩
        · show Stk kO w2 (g + 1) m' (vs.take (k + 1)) _
          rw [List.take_add_one, List.getElem?_eq_getElem (by omega), hv]
          exact hD2.out
        · simp [intOf]; omega
      · obtain rfl : k = n := by omega
        have hR2 := hR.out
        have hD2 := hD.out
        have hE2 := hE.out
        rw [List.drop_eq_nil_of_le (by omega), List.drop_eq_nil_of_le (by omega)] at hR2
        rw [List.drop_eq_nil_of_le (by omega), mksS, List.append_nil] at hE2
        rw [List.drop_eq_nil_of_le (by omega), totS] at hz1
        have hml : m ≤ hi := hR2
        rw [List.take_of_length_le (by omega)] at hD2
        have hF : Hid (Ros kO 22 wr lo hi (some ⟨g, 0, none⟩) k c (mksS k0 xss)) := by
          refine .inr ⟨g, vs, rfl, hT.out.2.2, ?_, by rw [mksS_len]; exact hxl⟩
          rw [List.take_of_length_le (by omega), List.take_of_length_le (by rw [mksS_len]; omega), ← hE2]
          exact hD2.wide (Nat.le_refl _) hml
        have hzz : Hid (z = k0 + totS xss) := by show _ = _; omega
        clear hR2 hD2 hE2 hR hD hE
        go_wp2_with fail
        go_ret
        exact ⟨ret_int hzz.out, hF.out, hT.out.1, hT.out.2.1⟩

set_option maxHeartbeats 1000000 in
theorem laws_heldIntSSO (A : Option Addr) (n c : Nat) (xss : List (List Int)) (lo hi : Nat) (k0 : Int) (w : World) (h : Ints2 w lo hi A n c (mksS k0 xss)) (hk0 : 0 ≤ k0) (hk1 : k0 + totS xss ≤ 4611686018427387904) :
    Calls Try.prog 19 #[.slice A n c, .int .i64 k0] w fun e w' => e = .returned (.int .i64 (k0 + totS xss)) ∧ w = w' := by
  have hcp := h.cap
  have hmx := h.max
  have hl := h.len
  rw [mksS_len] at hl
  have HH := hide h
  clear h
  go_enter Try.func19, Try.ntmps19
  go_wp2_with fail
  go_loop [1, 5] (fun q i => ∃ (k : Nat) (z : Int), k ≤ n ∧ i = .int .i64 k ∧ q = .int .i64 z ∧ 0 ≤ z ∧ z + totS (xss.drop k) = k0 + totS xss ∧ Hid (mksS z (xss.drop k) = (mksS k0 xss).drop k)) (fun _ i => n - (intOf i).toNat)
  case atStart => exact ⟨0, k0, by omega, rfl, rfl, hk0, by simp, rfl⟩
  case round =>
    obtain ⟨k, z, hk, rfl, rfl, hz0, hz1, hE⟩ := hrel
    by_cases hlt : k < n
    · obtain ⟨ad, B, m, d, xs, rfl, hc, hi1, hdx, _⟩ := HH.out.at_ hlt
      have hE2 := hE.out
      rw [hdx.out, List.drop_eq_getElem_cons (by omega), mksS] at hE2
      injection hE2 with h1 h2
      have hml := hi1.len
      rw [← h1, marks_len] at hml
      rw [← h1, hml] at hi1
      have htd : totS (xss.drop k) = m + totS (xss.drop (k + 1)) := by rw [List.drop_eq_getElem_cons (l := xss) (i := k) (by omega), totS, hml]
      have HK := hide (laws_heldIntS B m d lo hi z w hi1 hz0 (by omega))
      rw [hml] at h2
      have HE := hide h2
      have hnn : ¬ z + (m : Int) < 0 := by omega
      clear hE hi1 hdx h1 h2
      go_wp2_with (go_at_call 46; refine HK.out.mono ?_; rintro e w2 ⟨rfl, rfl⟩)
      go_round
      case rel => exact ⟨k + 1, z + m, by omega, by go_num, by go_num, by omega, by omega, HE.out⟩
      case measure => simp [intOf]; omega
    · obtain rfl : k = n := by omega
      rw [List.drop_eq_nil_of_le (by omega), totS] at hz1
      have hzz : Hid (z = k0 + totS xss) := by show _ = _; omega
      go_wp2_with fail
      go_ret
      exact ⟨ret_int hzz.out, rfl⟩
end Go.Proofs.Ytjamdnbabfodkaa
/- Fields: own copies, marks. -/
namespace Go.Proofs.Ytjamdnbabfodkaa
open Go.RowKit
set_option linter.unusedSimpArgs false
set_option linter.unusedVariables false
set_option maxRecDepth 20000

/-- The call's own slice of monomials, the first k of them laid. -/
structure OutM (w : World) (lo mid g n c k : Nat) (vs pws : List Value) (ms : List Mono) : Prop where
  own : w.ownsRow lo 53 2 (.slice (some ⟨g, 0, none⟩) n c) n vs
  len : ms.length = n
  pair : ∀ j m, j < k → ms[j]? = some m → vs[j * 2]? = some (.int .i64 m.1) ∧ R64 m.1 ∧ vs[j * 2 + 1]? = pws[j]?
  stk : Stk kO w (g + 1) mid pws ((ms.take k).map Prod.snd)
section
variable {w w' : World} {lo mid g n c k : Nat} {vs pws : List Value} {ms : List Mono}
theorem OutM.lt (h : OutM w lo mid g n c k vs pws ms) : g < mid := h.stk.le
theorem OutM.vlen (h : OutM w lo mid g n c k vs pws ms) : vs.length = n * 2 := by simpa using h.own.1
theorem OutM.same (h : OutM w lo mid g n c k vs pws ms) (hs : Same lo mid w w') : OutM w' lo mid g n c k vs pws ms := by
  have h1 := (h.own.lt g rfl).1
  have h2 := h.lt
  exact ⟨owns_same h.own (fun ad e => by injection e with e; subst e; exact hs g h1 h2), h.len, h.pair, h.stk.same (fun q a b => hs q (by omega) b)⟩
theorem OutM.below (h : OutM w lo mid g n c k vs pws ms) {B : Nat} (hb : Below B w w') (hB : mid ≤ B) : OutM w' lo mid g n c k vs pws ms := h.same (.of_below hb hB)
theorem OutM.capb (h : OutM w lo mid g n c k vs pws ms) : n ≤ c ∧ c ≤ 9223372036854775807 := by
  rcases h.own.2 with ⟨e, rfl⟩ | ⟨g', cap, cur, e, _, _, h1, h2, _⟩
  · injection e; omega
  · injection e with _ _ e3; unfold maxLen at h2; omega
/-- one more monomial laid -/
theorem OutM.put (h : OutM w lo mid g n c k vs pws ms) (hk : k < n) {m : Mono} (hm : ms[k]? = some m) (hr : R64 m.1) {B : Option Addr} {mm d l h' : Nat} (hO : OwnI w l h' B mm d m.2) (hl : mid ≤ l) (hl2 : l ≤ h') :
    OutM ((w.setCell ⟨g, k * 2, none⟩ (.int .i64 m.1)).setCell ⟨g, k * 2 + 1, none⟩ (.slice B mm d)) lo h' g n c (k + 1) ((vs.set (k * 2) (.int .i64 m.1)).set (k * 2 + 1) (.slice B mm d)) (pws ++ [.slice B mm d]) ms := by
  have hvl := h.vlen
  have hpl := h.stk.len
  have hml := h.len
  have hgm := h.lt
  simp only [List.length_map, List.length_take] at hpl
  have hsame : ∀ a b, g < a → Same a b w ((w.setCell ⟨g, k * 2, none⟩ (.int .i64 m.1)).setCell ⟨g, k * 2 + 1, none⟩ (.slice B mm d)) := fun a b hg => Same.setCell (p := ⟨g, k * 2 + 1, none⟩) (Same.setCell (p := ⟨g, k * 2, none⟩) (Same.refl _ _ _) (.inl hg) _) (.inl hg) _
  refine ⟨((h.own.stored (k * 2) (.int .i64 m.1)).1.stored (k * 2 + 1) (.slice B mm d)).1, h.len, fun j m' hj hm' => ?_, ?_⟩
  · by_cases e : j = k
    · subst e
      obtain rfl : m = m' := by rw [hm] at hm'; injection hm'
      refine ⟨?_, hr, ?_⟩
      · rw [List.getElem?_set_ne (by omega), List.getElem?_set_self (by omega)]
      · rw [List.getElem?_set_self (by simp; omega), List.getElem?_append_right (by omega)]
        simp [show j - pws.length = 0 by omega]
    · obtain ⟨a, b, e2⟩ := h.pair j m' (by omega) hm'
      refine ⟨?_, b, ?_⟩
      · rw [List.getElem?_set_ne (by omega), List.getElem?_set_ne (by omega)]; exact a
      · rw [List.getElem?_set_ne (by omega), List.getElem?_set_ne (by omega), List.getElem?_append_left (by omega)]; exact e2
  · rw [List.take_add_one, hm, List.map_append]
    exact (h.stk.same (hsame _ _ (Nat.lt_succ_self g))).snoc (⟨B, mm, d, rfl, hO.same (hsame _ _ (by omega))⟩ : kO.rd _ l h' _ _) hl hl2
end
/-- a slice of monomials of the call's own -/
def kM : Kd (List Mono) := ⟨fun w l h v ms => ∃ g n c vs pws, v = .slice (some ⟨g, 0, none⟩) n c ∧ OutM w l h g n c n vs pws ms, fun ⟨g, n, c, vs, pws, e, hI⟩ hs => ⟨g, n, c, vs, pws, e, hI.same hs⟩, fun ⟨_, _, _, _, _, e, _⟩ => by rw [e]; rfl⟩
theorem OutM.mons {w : World} {lo hi g n c : Nat} {vs pws : List Value} {ms : List Mono} (h : OutM w lo hi g n c n vs pws ms) : Mons w lo hi (some ⟨g, 0, none⟩) n c ms := by
  have hl := h.len
  have hc := h.capb
  refine ⟨hl, hc.1, hc.2, fun hn => ⟨_, rfl, (h.own.lt g rfl).1, h.lt, fun j m hm => ?_⟩⟩
  have hj := (List.getElem?_eq_some_iff.1 hm).1
  obtain ⟨a, b, e⟩ := h.pair j m (by omega) hm
  have hs := h.stk
  rw [List.take_of_length_le (by omega)] at hs
  obtain ⟨v, l, q, e2, ⟨B, kk, d, rfl, hO⟩, x, y, z⟩ := hs.get (j := j) (x := m.2) (by rw [List.getElem?_map, hm]; rfl)
  have e1 := h.own.cells (g := g) rfl (j * 2) _ a
  have e3 := h.own.cells (g := g) rfl (j * 2 + 1) _ (e.trans e2)
  have h1 := (h.own.lt g rfl).1
  refine ⟨e1, b, B, kk, d, ?_, hO.ints.wide (by omega) z⟩
  rw [Addr.add_lit] at e3
  rw [Addr.add_lit]
  exact e3
theorem Ros.mons2 {T : TypeId} {w : World} {lo hi : Nat} {A : Option Addr} {n c : Nat} {ps : List (List Mono)} (h : Ros kM T w lo hi A n c ps) : Mons2 w lo hi A n c ps := by
  rcases h with ⟨rfl, rfl, rfl, rfl, _⟩ | ⟨g, vs, rfl, h⟩
  · exact ⟨rfl, Nat.le_refl _, by omega, fun h => absurd h (by omega)⟩
  · have h1 := (h.own.lt g rfl).1
    have h2 := h.lt
    have hvl := h.vlen
    have hs := h.stk
    rw [List.take_of_length_le (by omega), List.take_of_length_le (Nat.le_of_eq h.len)] at hs
    refine ⟨h.len, h.capb.1, h.capb.2, fun hn => ⟨_, rfl, h1, h2, fun j xs hj => ?_⟩⟩
    obtain ⟨v, l, m, e, ⟨g2, k, d, vs2, pws, rfl, hO⟩, a, b, c⟩ := hs.get hj
    refine ⟨_, k, d, ?_, hO.mons.wide (by omega) c⟩
    have hj2 := (List.getElem?_eq_some_iff.1 e).1
    simpa [Addr.add_lit] using (h.own.cellAt j (by omega)).trans e

set_option maxHeartbeats 2000000 in
theorem laws_toMonomialSO (A : Option Addr) (n c : Nat) (ms : List Mono) (lo hi : Nat) (w : World) (h : Mons w lo hi A n c ms) (hh : hi ≤ w.heap.size) (hn : n ≤ 1048576) (hr : ∀ m ∈ ms, m.2.length ≤ 1048576) :
    Calls Try.prog 58 #[.slice A n c] w fun e w' => ∃ A' c', e = .returned (.slice A' n c') ∧ kM.rd w' w.heap.size w'.heap.size (.slice A' n c') ms ∧ Below w.heap.size w w' := by
  obtain ⟨i0, hi0, hz0, hz1, hz2⟩ := info_parts info_mono
  have hcp := h.cap
  have hm := h.max
  have hl := hide h.len
  have HR := hide hr
  clear hr
  go_enter Try.func58, Try.ntmps58
  go_wp2_with (at_make; refine wpList_make_full _ rfl _ _ 54 rfl w.heap.size 53 i0 (.agg #[.int .i64 0, .slice none 0 0]) 2 Try.underlying54 hi0 hz0 hz1 .i64 .i64 n n n rfl rfl rfl rfl (by rw [hz2]; omega) (by unfold maxLen; omega) (Nat.le_refl _) ?_; intro w1 hown hg1)
  have hs1 : w.heap.size < w1.heap.size := (hown.lt w.heap.size rfl).2
  have hb1 : Hid (Below w.heap.size w w1) := (Below.refl _ _).grown hg1 (Nat.le_refl _) (by simp)
  obtain ⟨vs0, hvs0⟩ : ∃ vs, w1.ownsRow w.heap.size 53 2 (.slice (some ⟨w.heap.size, 0, none⟩) n n) n vs := ⟨_, hown⟩
  have hO0 : Hid (OutM w1 w.heap.size w1.heap.size w.heap.size n n 0 vs0 [] ms) := ⟨hvs0, hl.out, fun j m hj => absurd hj (by omega), hs1⟩
  clear hg1 hown hvs0
  go_loopw [4] (fun i wr => ∃ (k : Nat) (vs pws : List Value), k ≤ n ∧ i = .int .i64 k ∧ Hid (OutM wr w.heap.size wr.heap.size w.heap.size n n k vs pws ms) ∧ Hid (Below w.heap.size w wr)) (fun i _ => n - (intOf i).toNat)
  case atStart => exact ⟨0, _, _, by omega, rfl, hO0.out, hb1.out⟩
  case round =>
    clear hO0 hb1 hs1
    obtain ⟨k, vs, pws, hk, rfl, hO, hb⟩ := hrel
    have hsz := hb.out.size
    by_cases hlt : k < n
    · obtain ⟨ad, x, B, m, d, xs, rfl, hc1, hc2, hxr, hi1, _, hx⟩ := (h.below hb.out hh).at_ hlt
      have hml : m ≤ 1048576 := by
        have := HR.out (x, xs) (List.mem_of_getElem? hx.out)
        have := hi1.len
        simp only at *
        omega
      have hT := hide (laws_toMonomial x B m d xs lo hi wr hi1 (Nat.le_trans hh hsz) hml)
      have hvl := hO.out.vlen
      clear hi1
      go_wp2_with fail
      refine hT.out.mono ?_
      rintro e w2 ⟨B2, d2, rfl, o2, b2⟩
      have z2 := b2.size
      have hO2 := hO.out.below b2 (Nat.le_refl _)
      have hc3 : w2.cell? ⟨w.heap.size, k * 2, none⟩ = some (vs[k * 2]'(by omega)) := by
        rw [hO2.own.cellAt (k * 2) (by omega)]
        exact List.getElem?_eq_getElem (by omega)
      have hc4 : w2.cell? ⟨w.heap.size, k * 2 + 1, none⟩ = some (vs[k * 2 + 1]'(by omega)) := by
        rw [hO2.own.cellAt (k * 2 + 1) (by omega)]
        exact List.getElem?_eq_getElem (by omega)
      have hf3 := hO2.own.frozenAt (k * 2)
      have hf4 := hO2.own.frozenAt (k * 2 + 1)
      have sz : ((w2.setCell ⟨w.heap.size, k * 2, none⟩ (.int .i64 x)).setCell ⟨w.heap.size, k * 2 + 1, none⟩ (.slice B2 m d2)).heap.size = w2.heap.size := by simp [World.setCell]
      have hO3 := hO2.put hlt hx.out hxr o2 (Nat.le_refl _) z2
      rw [← sz] at hO3
      have HO := hide hO3
      have HB : Hid (Below w.heap.size w ((w2.setCell ⟨w.heap.size, k * 2, none⟩ (.int .i64 x)).setCell ⟨w.heap.size, k * 2 + 1, none⟩ (.slice B2 m d2))) := ((hb.out.trans (b2.mono hsz)).setCell (Nat.le_refl _) _).setCell (Nat.le_refl _) _
      clear hO2 hO3 hO hb o2 hx sz hxr
      go_wp2_with fail
      go_roundw
      case rel => exact ⟨k + 1, _, _, by omega, by go_num, HO.out, HB.out⟩
      case measure => simp [intOf]; omega
    · obtain rfl : k = n := by omega
      go_wp2_with fail
      go_ret
      exact ⟨_, _, rfl, ⟨_, _, _, _, _, rfl, hO.out⟩, hb.out⟩

set_option maxHeartbeats 1000000 in
theorem laws_toMonomialSSO (A : Option Addr) (n c : Nat) (xss : List (List Mono)) (lo hi : Nat) (w : World) (h : Mons2 w lo hi A n c xss) (hh : hi ≤ w.heap.size) (hn : n ≤ 1048576) (hr : ∀ xs ∈ xss, xs.length ≤ 1048576 ∧ ∀ m ∈ xs, m.2.length ≤ 1048576) :
    Calls Try.prog 33 #[.slice A n c] w fun e w' => ∃ A' c', e = .returned (.slice A' n c') ∧ Ros kM 54 w' w.heap.size w'.heap.size A' n c' xss ∧ Below w.heap.size w w' := by
  obtain ⟨i0, hi0, hz0, hz1, hz2⟩ := info_parts info_monos
  have hcp := h.cap
  have hm := h.max
  have hl := hide h.len
  have HR := hide hr
  clear hr
  go_enter Try.func33, Try.ntmps33
  go_wp2_with (at_make; refine wpList_make_full _ rfl _ _ 34 rfl w.heap.size 54 i0 (.slice none 0 0) 1 Try.underlying34 hi0 hz0 hz1 .i64 .i64 n n n rfl rfl rfl rfl (by rw [hz2]; omega) (by unfold maxLen; omega) (Nat.le_refl _) ?_; intro w1 hown hg1)
  have hs1 : w.heap.size < w1.heap.size := (hown.lt w.heap.size rfl).2
  have hb1 : Hid (Below w.heap.size w w1) := (Below.refl _ _).grown hg1 (Nat.le_refl _) (by simp)
  obtain ⟨vs0, hvs0⟩ : ∃ vs, w1.ownsRow w.heap.size 54 1 (.slice (some ⟨w.heap.size, 0, none⟩) n n) n vs := ⟨_, hown⟩
  have hO0 : Hid (OutS kM w1 w.heap.size w1.heap.size 54 w.heap.size n n 0 vs0 xss) := ⟨hvs0, hs1, hl.out⟩
  clear hg1 hown hvs0
  go_loopw [4] (fun i wr => ∃ (k : Nat) (vs : List Value), k ≤ n ∧ i = .int .i64 k ∧ Hid (OutS kM wr w.heap.size wr.heap.size 54 w.heap.size n n k vs xss) ∧ Hid (Below w.heap.size w wr)) (fun i _ => n - (intOf i).toNat)
  case atStart => exact ⟨0, _, by omega, rfl, hO0.out, hb1.out⟩
  case round =>
    clear hO0 hb1 hs1
    obtain ⟨k, vs, hk, rfl, hO, hb⟩ := hrel
    have hsz := hb.out.size
    by_cases hlt : k < n
    · obtain ⟨ad, B, m, d, xs, rfl, hc, hi1, _, hx⟩ := (h.below hb.out hh).at_ hlt
      have hml : m ≤ 1048576 := by
        have := (HR.out xs (List.mem_of_getElem? hx.out)).1
        have := hi1.len
        omega
      have hT := hide (laws_toMonomialSO B m d xs lo hi wr hi1 (Nat.le_trans hh hsz) hml (HR.out xs (List.mem_of_getElem? hx.out)).2)
      have hvl := hO.out.vlen
      clear hi1
      go_wp2_with fail
      refine hT.out.mono ?_
      rintro e w2 ⟨B2, d2, rfl, o2, b2⟩
      have z2 := b2.size
      have hO2 := hO.out.below b2 (Nat.le_refl _)
      obtain ⟨v0, hc2, _, hf2⟩ := hO2.at_ hlt
      have sz : (w2.setCell ⟨w.heap.size, k, none⟩ (.slice B2 m d2)).heap.size = w2.heap.size := by simp [World.setCell]
      have hlo : w.heap.size < wr.heap.size := hO.out.lt
      have hO3 := (hO2.hole (.slice B2 m d2)).fill (l := wr.heap.size) (h' := w2.heap.size) (List.getElem?_set_self (by omega)) hx.out (Kd.setCell kM o2 (p := ⟨w.heap.size, k, none⟩) (.inl hlo) _) (Nat.le_refl _) z2
      rw [← sz] at hO3
      have HO := hide hO3
      have HB : Hid (Below w.heap.size w (w2.setCell ⟨w.heap.size, k, none⟩ (.slice B2 m d2))) := (hb.out.trans (b2.mono hsz)).setCell (Nat.le_refl _) _
      clear hO2 hO3 hO hb o2 hx hvl sz
      go_wp2_with fail
      go_roundw
      case rel => exact ⟨k + 1, _, by omega, by go_num, HO.out, HB.out⟩
      case measure => simp [intOf]; omega
    · obtain rfl : k = n := by omega
      go_wp2_with fail
      go_ret
      exact ⟨_, _, rfl, .inr ⟨_, _, rfl, hO.out⟩, hb.out⟩

theorem laws_toFieldO (o : Int) (A : Option Addr) (n c : Nat) (xs : List (List Mono)) (lo hi : Nat) (w : World) (h : Mons2 w lo hi A n c xs) (hh : hi ≤ w.heap.size) (hn : n ≤ 1048576) (hr : ∀ p ∈ xs, p.length ≤ 1048576 ∧ ∀ m ∈ p, m.2.length ≤ 1048576) :
    Calls Try.prog 8 #[.agg #[.int .i64 o, .slice A n c]] w fun e w' => ∃ A' c', e = .returned (.agg #[.int .i64 o, .slice A' n c']) ∧ Ros kM 54 w' w.heap.size w'.heap.size A' n c' xs ∧ Below w.heap.size w w' := by
  have hcp := h.cap
  have hm := h.max
  go_enter Try.func8, Try.ntmps8
  go_wp2_with fail
  refine (laws_toMonomialSSO A n c xs lo hi _ (h.below (B := w.heap.size) (by (repeat (first | with_reducible exact Below.refl _ _ | with_reducible exact Below.refl _ _ | with_reducible refine Below.drew ?_ | ((with_reducible refine Below.alloc ?_ ?_ _); rotate_left; · first | omega | (simp [World.setCell]; done) | (simp [World.setCell]; omega)) | ((with_reducible refine Below.setCell ?_ ?_ _); rotate_left; · first | exact Nat.le_refl _ | omega | (simp; done) | (simp; omega))))) hh) (by simp; omega) hn hr).mono ?_
  rintro e w1 ⟨A1, c1, rfl, o1, b1⟩
  obtain ⟨p20, p21, f20, f21, hlt2⟩ := res2 b1
  obtain ⟨p10, p11, f10, f11, hlt1⟩ := res2 (below_alloc_inv b1)
  simp at p10 p11 p20 p21 f10 f11 f20 f21 hlt1 hlt2
  have b2 : Below w.heap.size w w1 := below_alloc_inv (below_alloc_inv (below_alloc_inv b1))
  have HO : Hid (Ros kM 54 w1 (w.heap.size + 1 + 1 + 1) w1.heap.size A1 n c1 xs) := o1.wide (by simp) (Nat.le_refl _)
  clear b1 o1
  go_wp2_with fail
  refine bodyPost_ret (v := .agg #[.int .i64 o, .slice A1 n c1]) (by simp [results, Try.results8, go_sem, p10, p11, p20, p21, hlt1, hlt2]) rfl ⟨_, _, rfl, ?_, ?_⟩
  · refine (Ros.same HO.out ?_).wide (by omega) ?_
    · (repeat (first | with_reducible exact Same.refl _ _ _ | with_reducible refine Same.drew ?_ | ((with_reducible refine Same.alloc ?_ ?_ _); rotate_left; · first | omega | (simp [World.setCell]; done) | (simp [World.setCell]; omega)) | ((with_reducible refine Same.setCell ?_ ?_ _); rotate_left; · first | omega | (simp; done) | (simp; omega))))
    · simp [World.setCell]
  · (repeat (first | with_reducible exact b2 | with_reducible exact Below.refl _ _ | with_reducible refine Below.drew ?_ | ((with_reducible refine Below.alloc ?_ ?_ _); rotate_left; · first | omega | (simp [World.setCell]; done) | (simp [World.setCell]; omega)) | ((with_reducible refine Below.setCell ?_ ?_ _); rotate_left; · first | exact Nat.le_refl _ | omega | (simp; done) | (simp; omega))))
end Go.Proofs.Ytjamdnbabfodkaa
/- Fields: marks. -/
namespace Go.Proofs.Ytjamdnbabfodkaa
open Go.RowKit
set_option linter.unusedSimpArgs false
set_option linter.unusedVariables false
set_option maxRecDepth 20000

def totM : List Mono → Nat
  | [] => 0
  | m :: r => 1 + m.2.length + totM r
def totMM : List (List Mono) → Nat
  | [] => 0
  | p :: r => totM p + totMM r
theorem totM_bd {C : Nat} : ∀ (ms : List Mono), (∀ m ∈ ms, m.2.length ≤ C) → totM ms ≤ ms.length * (1 + C)
  | [], _ => by simp [totM]
  | m :: r, h => by
    have h1 := totM_bd r (fun y hy => h y (List.mem_cons_of_mem _ hy))
    have h2 := h m (List.mem_cons_self ..)
    simp only [totM, List.length_cons]
    rw [Nat.add_mul, Nat.one_mul]
    omega
theorem totMM_bd {C : Nat} : ∀ (ps : List (List Mono)), (∀ p ∈ ps, totM p ≤ C) → totMM ps ≤ ps.length * C
  | [], _ => by simp [totMM]
  | m :: r, h => by
    have h1 := totMM_bd r (fun y hy => h y (List.mem_cons_of_mem _ hy))
    have h2 := h m (List.mem_cons_self ..)
    simp only [totMM, List.length_cons]
    rw [Nat.add_mul, Nat.one_mul]
    omega

set_option maxHeartbeats 2000000 in
theorem laws_markMonomialSO (v : Value) (ms : List Mono) (lo hi : Nat) (k0 : Int) (w : World) (h : kM.rd w lo hi v ms) (hh : hi ≤ w.heap.size) (hk0 : 0 ≤ k0) (hk1 : k0 + totM ms ≤ 4611686018427387904) :
    Calls Try.prog 72 #[v, .int .i64 k0] w fun e w' => e = .returned (.int .i64 (k0 + totM ms)) ∧ Touch lo hi w w' ∧ w'.heap.size = w.heap.size := by
  obtain ⟨g, n, c, vs, pws, rfl, h⟩ := h
  have hcb := h.capb
  have hvl := h.vlen
  have hxl := h.len
  have hlo := (h.own.lt g rfl).1
  have hst := h.stk
  rw [List.take_of_length_le (by omega)] at hst
  have hpl := hst.len
  simp only [List.length_map] at hpl
  have hst0 := hide hst
  have HO := hide h.own
  have HPr : Hid (∀ j, j < n → vs[j * 2 + 1]? = pws[j]?) := fun j hj => (h.pair j _ hj (List.getElem?_eq_getElem (by omega))).2.2
  have hgh := h.lt
  clear h hst
  go_enter Try.func72, Try.ntmps72
  go_wp2_with fail
  go_loopw [1, 5] (fun q i wr => ∃ (k m : Nat) (z : Int) (us : List Value), k ≤ n ∧ i = .int .i64 k ∧ q = .int .i64 z ∧ 0 ≤ z ∧ z + totM (ms.drop k) = k0 + totM ms ∧ g + 1 ≤ m ∧ Hid (Stk kO wr m hi (pws.drop k) ((ms.drop k).map Prod.snd)) ∧ Hid (∀ j, j < n → us[j * 2 + 1]? = pws[j]?) ∧ Hid (Touch lo hi w wr ∧ wr.heap.size = w.heap.size ∧ wr.ownsRow lo 53 2 (.slice (some ⟨g, 0, none⟩) n c) n us)) (fun _ i _ => n - (intOf i).toNat)
  case atStart => exact ⟨0, g + 1, k0, vs, by omega, rfl, rfl, hk0, by simp, Nat.le_refl _, hst0.out, HPr.out, Touch.refl _ _ _, rfl, HO.out⟩
  case round =>
    clear hst0 HO HPr
    obtain ⟨k, m, z, us, hk, rfl, rfl, hz0, hz1, hgm, hR, hPr, hT⟩ := hrel
    by_cases hlt : k < n
    · have hR2 := hR.out
      rw [List.drop_eq_getElem_cons (by omega), List.drop_eq_getElem_cons (l := ms) (by omega), List.map_cons] at hR2
      obtain ⟨l, m', h1, h2, h3, ⟨B, mm, d, hv, hB⟩, hR3⟩ := hR2.head
      have hml := hB.len
      have hul : us.length = n * 2 := by simpa using hT.out.2.2.1
      have hc1 : wr.cell? ⟨g, k * 2, none⟩ = some (us[k * 2]'(by omega)) := (hT.out.2.2.cellAt (k * 2) (by omega)).trans (List.getElem?_eq_getElem (by omega))
      have hc2 : wr.cell? ⟨g, k * 2 + 1, none⟩ = some (.slice B mm d) := by
        rw [hT.out.2.2.cellAt (k * 2 + 1) (by omega), hPr.out k hlt, List.getElem?_eq_getElem (by omega), hv]
      have hf1 := hT.out.2.2.frozenAt (k * 2)
      have htd : totM (ms.drop k) = 1 + mm + totM (ms.drop (k + 1)) := by rw [List.drop_eq_getElem_cons (l := ms) (i := k) (by omega), totM, hml]
      have hws : hi ≤ wr.heap.size := by rw [hT.out.2.1]; exact hh
      have hz2 : z + 1 + mm ≤ 4611686018427387904 := by omega
      have hfar : Same (g + 1) hi wr (wr.setCell ⟨g, k * 2, none⟩ (.int .i64 z)) := (Same.refl _ _ _).setCell (p := ⟨g, k * 2, none⟩) (.inl (Nat.lt_succ_self g)) _
      have hc3 : (wr.setCell ⟨g, k * 2, none⟩ (.int .i64 z)).cell? ⟨g, k * 2 + 1, none⟩ = some (.slice B mm d) := by
        rw [(hT.out.2.2.stored (k * 2) (.int .i64 z)).1.cellAt (k * 2 + 1) (by omega), List.getElem?_set_ne (by omega), hPr.out k hlt, List.getElem?_eq_getElem (by omega), hv]
      have sz : (wr.setCell ⟨g, k * 2, none⟩ (.int .i64 z)).heap.size = wr.heap.size := by simp [World.setCell]
      have hMK := hide (laws_markIntS B mm d _ l m' (z + 1) (wr.setCell ⟨g, k * 2, none⟩ (.int .i64 z)) (hB.same fun q a b => hfar q (by omega) (by omega)) (by omega) (by omega))
      have hRR := hide (hR3.same fun q a b => hfar q (by omega) b)
      have HP2 : Hid (∀ j, j < n → (us.set (k * 2) (.int .i64 z))[j * 2 + 1]? = pws[j]?) := fun j hj => by rw [List.getElem?_set_ne (by omega)]; exact hPr.out j hj
      have hT0 : Hid (Touch lo hi w (wr.setCell ⟨g, k * 2, none⟩ (.int .i64 z)) ∧ (wr.setCell ⟨g, k * 2, none⟩ (.int .i64 z)).heap.size = w.heap.size ∧ (wr.setCell ⟨g, k * 2, none⟩ (.int .i64 z)).ownsRow lo 53 2 (.slice (some ⟨g, 0, none⟩) n c) n (us.set (k * 2) (.int .i64 z))) :=
        ⟨hT.out.1.setCell (p := ⟨g, k * 2, none⟩) (.inl ⟨hlo, hgh⟩) _, sz.trans hT.out.2.1, (hT.out.2.2.stored (k * 2) (.int .i64 z)).1⟩
      have hws2 : hi ≤ (wr.setCell ⟨g, k * 2, none⟩ (.int .i64 z)).heap.size := by rw [sz]; exact hws
      clear hR2 hR hB hT hR3 hfar hPr sz hc2 hv
      go_wp2_with fail
      generalize wr.setCell ⟨g, k * 2, none⟩ (.int .i64 z) = W5 at hc3 hMK hRR hT0 hws2 ⊢
      refine hMK.out.mono ?_
      rintro e w2 ⟨rfl, o2, t2, e2⟩
      have hR4 := hide (hRR.out.same (t2.same (by omega) (by omega)))
      have hT2 : Hid (Touch lo hi w w2 ∧ w2.heap.size = w.heap.size ∧ w2.ownsRow lo 53 2 (.slice (some ⟨g, 0, none⟩) n c) n (us.set (k * 2) (.int .i64 z))) := ⟨hT0.out.1.trans (t2.wide (by omega) (by omega)), by rw [e2]; exact hT0.out.2.1, owns_same hT0.out.2.2 (fun ad e => by injection e with e; subst e; exact t2.block g (hT0.out.2.2.lt g rfl).2 (by omega))⟩
      clear hMK hRR hT0 o2 t2 e2
      go_wp2_with fail
      refine ⟨⟨k + 1, m', z + 1 + mm, _, by omega, by go_num, by go_num, by omega, by omega, by omega, hR4.out, HP2.out, hT2.out⟩, ?_⟩
      simp [intOf]; omega
    · obtain rfl : k = n := by omega
      rw [List.drop_eq_nil_of_le (by omega), totM] at hz1
      have hzz : Hid (z = k0 + totM ms) := by show _ = _; omega
      go_wp2_with fail
      go_ret
      exact ⟨ret_int hzz.out, hT.out.1, hT.out.2.1⟩

set_option maxHeartbeats 1000000 in
theorem laws_markMonomialSSO (A : Option Addr) (n c : Nat) (ps : List (List Mono)) (lo hi : Nat) (k0 : Int) (w : World) (h : Ros kM 54 w lo hi A n c ps) (hh : hi ≤ w.heap.size) (hk0 : 0 ≤ k0) (hk1 : k0 + totMM ps ≤ 4611686018427387904) :
    Calls Try.prog 45 #[.slice A n c, .int .i64 k0] w fun e w' => e = .returned (.int .i64 (k0 + totMM ps)) ∧ Touch lo hi w w' ∧ w'.heap.size = w.heap.size := by
  have hcb := h.capb
  rcases h with ⟨rfl, rfl, rfl, rfl, hle⟩ | ⟨g, vs, rfl, h⟩
  · go_enter Try.func45, Try.ntmps45
    go_wp2_with fail
    go_loopw [1, 5] (fun q i wr => q = .int .i64 k0 ∧ i = .int .i64 0 ∧ wr = w) (fun _ _ _ => 0)
    case atStart => exact ⟨rfl, rfl, rfl⟩
    case round =>
      obtain ⟨rfl, rfl, rfl⟩ := hrel
      go_wp2_with fail
      go_ret
      exact ⟨by simp [totMM], Touch.refl _ _ _, rfl⟩
  · have hvl := h.vlen
    have hxl := h.len
    have hlo := (h.own.lt g rfl).1
    have hst := h.stk
    rw [List.take_of_length_le (by omega), List.take_of_length_le (by omega)] at hst
    have hst0 := hide hst
    have HO := hide h.own
    clear h hst
    go_enter Try.func45, Try.ntmps45
    go_wp2_with fail
    go_loopw [1, 5] (fun q i wr => ∃ (k m : Nat) (z : Int), k ≤ n ∧ i = .int .i64 k ∧ q = .int .i64 z ∧ 0 ≤ z ∧ z + totMM (ps.drop k) = k0 + totMM ps ∧ g + 1 ≤ m ∧ Hid (Stk kM wr m hi (vs.drop k) (ps.drop k)) ∧ Hid (Touch lo hi w wr ∧ wr.heap.size = w.heap.size ∧ wr.ownsRow lo 54 1 (.slice (some ⟨g, 0, none⟩) n c) n vs)) (fun _ i _ => n - (intOf i).toNat)
    case atStart => exact ⟨0, g + 1, k0, by omega, rfl, rfl, hk0, by simp, Nat.le_refl _, hst0.out, Touch.refl _ _ _, rfl, HO.out⟩
    case round =>
      clear hst0 HO
      obtain ⟨k, m, z, hk, rfl, rfl, hz0, hz1, hgm, hR, hT⟩ := hrel
      by_cases hlt : k < n
      · have hR2 := hR.out
        rw [List.drop_eq_getElem_cons (by omega), List.drop_eq_getElem_cons (l := ps) (by omega)] at hR2
        obtain ⟨l, m', h1, h2, h3, hB, hR3⟩ := hR2.head
        have hcc : wr.cell? ⟨g, k, none⟩ = some (vs[k]'(by omega)) := by
          rw [hT.out.2.2.cellAt k (by omega), List.getElem?_eq_getElem (by omega)]
        have htd : totMM (ps.drop k) = totM (ps[k]'(by omega)) + totMM (ps.drop (k + 1)) := by rw [List.drop_eq_getElem_cons (l := ps) (i := k) (by omega), totMM]
        have hws : hi ≤ wr.heap.size := by rw [hT.out.2.1]; exact hh
        have hz2 : z + totM (ps[k]'(by omega)) ≤ 4611686018427387904 := by omega
        have hMK := hide (laws_markMonomialSO _ _ l m' z wr hB (by omega) hz0 hz2)
        obtain ⟨B, mm, d, _, _, hv, _⟩ := hB
        rw [hv] at hcc hMK
        have hT0 := hT
        have hRR := hide hR3
        clear hR2 hR hT hR3 hv
        go_wp2_with fail
        refine hMK.out.mono ?_
        rintro e w2 ⟨rfl, t2, e2⟩
        have hR4 := hide (hRR.out.same (t2.same (by omega) (by omega)))
        have hT2 : Hid (Touch lo hi w w2 ∧ w2.heap.size = w.heap.size ∧ w2.ownsRow lo 54 1 (.slice (some ⟨g, 0, none⟩) n c) n vs) := ⟨hT0.out.1.trans (t2.wide (by omega) (by omega)), by rw [e2]; exact hT0.out.2.1, owns_same hT0.out.2.2 (fun ad e => by injection e with e; subst e; exact t2.block g (hT0.out.2.2.lt g rfl).2 (by omega))⟩
        clear hMK hRR hT0 t2 e2
        go_wp2_with fail
        refine ⟨⟨k + 1, m', z + totM (ps[k]'(by omega)), by omega, by go_num, rfl, by omega, by omega, by omega, hR4.out, hT2.out⟩, ?_⟩
        simp [intOf]; omega
      · obtain rfl : k = n := by omega
        rw [List.drop_eq_nil_of_le (by omega), totMM] at hz1
        have hzz : Hid (z = k0 + totMM ps) := by show _ = _; omega
        go_wp2_with fail
        go_ret
        exact ⟨ret_int hzz.out, hT.out.1, hT.out.2.1⟩

theorem laws_markFieldO (o : Int) (A : Option Addr) (n c : Nat) (ps : List (List Mono)) (lo hi : Nat) (k0 : Int) (w : World) (h : Ros kM 54 w lo hi A n c ps) (hh : hi ≤ w.heap.size) (hk0 : 0 ≤ k0) (hk1 : k0 + totMM ps ≤ 4611686018427387904) :
    Calls Try.prog 16 #[.agg #[.int .i64 o, .slice A n c], .int .i64 k0] w fun e w' => e = .returned (.int .i64 (k0 + totMM ps)) ∧ Touch lo hi w w' := by
  have b0 := below_alloc w (.cells #[.int .i64 o, .slice A n c] 36)
  go_enter Try.func16, Try.ntmps16
  go_wp2_with fail
  refine (laws_markMonomialSSO A n c ps lo hi k0 _ (h.below b0 hh) (by simp; omega) hk0 hk1).mono ?_
  rintro e w2 ⟨rfl, t2, e2⟩
  have T := (Touch.of_below (lo := lo) (hi := hi) b0).trans t2
  go_wp2_with fail
  go_ret
  exact ⟨rfl, T⟩
end Go.Proofs.Ytjamdnbabfodkaa
