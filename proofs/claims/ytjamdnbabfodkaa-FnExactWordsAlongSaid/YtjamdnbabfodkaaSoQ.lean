/- Products of polynomials: the reference's walk. -/
import Derived.Test.YtjamdnbabfodkaaSoO
import Derived.Test.YtjamdnbabfodkaaSoP
import Derived.Test.YtjamdnbabfodkaaJetM
namespace Go.Proofs.Ytjamdnbabfodkaa
open Go.RowKit
set_option linter.unusedSimpArgs false
set_option linter.unusedVariables false
set_option maxRecDepth 20000

theorem none_ne (b : Nat) : ∀ ad : Addr, (none : Option Addr) = some ad → ad.block ≠ b := fun ad e => nomatch e
theorem Ints.cellq {w : World} {lo hi : Nat} {a : Addr} {n c : Nat} {xs : List Int} (h : Ints w lo hi (some a) n c xs) {q : Nat} {p : Int} (hq : xs[q]? = some p) : w.cell? (a.add q) = some (.int .i64 p) := by
  have hn : 0 < n := by
    have := (List.getElem?_eq_some_iff.1 hq).1
    have := h.len
    omega
  obtain ⟨ad, e, _, _, hc⟩ := h.cells hn
  injection e with e
  subst e
  exact hc q p hq
def rowS (s : List Mono) (a : Mono) (bs : List Mono) : List Mono := bs.foldl (fun s b => putF s (mulM a b)) s
def timesS (ss aa bs : List Mono) : List Mono := aa.foldl (fun s a => rowS s a bs) ss
theorem foldl_take {α β : Type} (f : β → α → β) (l : List α) (z : β) {k : Nat} {a : α} (h : l[k]? = some a) : (l.take (k + 1)).foldl f z = f ((l.take k).foldl f z) a := by
  rw [List.take_add_one, h, List.foldl_append]; rfl
/-- a polynomial of the reference: numbers, as many powers, in descending order -/
structure GoodS (dim : Nat) (s : List Mono) : Prop where
  num : ∀ q ∈ s, 0 ≤ q.1 ∧ q.1 < 1000000271
  len : ∀ q ∈ s, q.2.length = dim
  desc : Desc s
theorem GoodS.put {dim : Nat} {s : List Mono} (h : GoodS dim s) {m : Mono} (hm : 0 ≤ m.1 ∧ m.1 < 1000000271) (hl : m.2.length = dim) : GoodS dim (putF s m) :=
  ⟨fun q hq => putR_num s m h.num hm q (List.mem_filter.1 hq).1, fun q hq => by
    rcases putR_mem s m q (List.mem_filter.1 hq).1 with h1 | h1
    · rw [h1]; exact hl
    · exact h.len q h1, List.Pairwise.filter _ (putR_desc s m h.desc (fun q hq => by rw [h.len q hq, hl]))⟩
theorem GoodS.row {dim : Nat} {a : Mono} (ha : a.2.length = dim) : ∀ {bs s : List Mono}, GoodS dim s → (∀ b ∈ bs, b.2.length = dim) → GoodS dim (rowS s a bs)
  | [], _, h, _ => h
  | b :: r, s, h, hb => by
    show GoodS dim (rowS (putF s (mulM a b)) a r)
    exact GoodS.row ha (h.put (timesF_bd _ _) (addP_len ha (hb b List.mem_cons_self))) (fun b' hb' => hb b' (List.mem_cons_of_mem _ hb'))
theorem GoodS.times {dim : Nat} {bs : List Mono} (hb : ∀ b ∈ bs, b.2.length = dim) : ∀ {aa s : List Mono}, GoodS dim s → (∀ a ∈ aa, a.2.length = dim) → GoodS dim (timesS s aa bs)
  | [], _, h, _ => h
  | a :: r, s, h, ha => by
    show GoodS dim (timesS (rowS s a bs) r bs)
    exact GoodS.times hb (h.row (ha a List.mem_cons_self) hb) (fun a' ha' => ha a' (List.mem_cons_of_mem _ ha'))
theorem putF_len (s : List Mono) (m : Mono) : (putF s m).length ≤ s.length + 1 := Nat.le_trans (List.length_filter_le _ _) (putR_len s m)

set_option maxRecDepth 100000 in
set_option maxHeartbeats 16000000 in
theorem spec_l9Times (S : Option Addr) (n0 c0 : Nat) (ss : List Mono) (P : Option Addr) (n1 c1 : Nat) (aa : List Mono) (Q : Option Addr) (n2 c2 : Nat) (bs : List Mono) (lo dim : Nat) (w : World)
    (h : Mons w lo w.heap.size S n0 c0 ss) (g : Mons w 0 w.heap.size P n1 c1 aa) (f : Mons w 0 w.heap.size Q n2 c2 bs) (hlo : lo ≤ w.heap.size) (hn2 : n2 ≤ 12) (hB : n0 + n1 * 12 ≤ 200000000000) (hd0 : 0 < dim) (hd1 : dim ≤ 6)
    (hs : GoodS dim ss) (ha : ∀ q ∈ aa, q.2.length = dim ∧ ∀ x ∈ q.2, 0 ≤ x ∧ x ≤ 1048576) (hb : ∀ q ∈ bs, q.2.length = dim ∧ ∀ x ∈ q.2, 0 ≤ x ∧ x ≤ 1048576) :
    Calls Try.prog 54 #[.slice S n0 c0, .slice P n1 c1, .slice Q n2 c2] w fun r w' => ∃ A' n' c', r = .returned (.slice A' n' c') ∧ Mons w' lo w'.heap.size A' n' c' (timesS ss aa bs) ∧ n' ≤ n0 + n1 * 12 ∧ Below w.heap.size w w' := by
  obtain ⟨i1, hi1, hy0, hy1, hy2⟩ := info_parts info_int
  have hcp := g.cap
  have hmx := g.max
  have fcp := f.cap
  have fmx := f.max
  have hcs := h.cap
  have hms := h.max
  have HG := hide g
  have HF := hide f
  have HA := hide ha
  have HB := hide hb
  have HS0 := hide h
  have HGS := hide hs
  clear h g f ha hb hs
  go_enter Try.func54, Try.ntmps54
  go_wp2_with fail
  go_loopw [0, 7] (fun u i wr => ∃ (k n' c' : Nat) (A' : Option Addr) (s : List Mono), k ≤ n1 ∧ i = .int .i64 k ∧ u = .slice A' n' c' ∧ n' ≤ n0 + k * 12 ∧ Hid (Mons wr lo wr.heap.size A' n' c' s) ∧ Hid (s = timesS ss (aa.take k) bs) ∧ Hid (GoodS dim s) ∧ Hid (Below w.heap.size w wr)) (fun _ i _ => n1 - (intOf i).toNat)
  case atStart => exact ⟨0, n0, c0, S, ss, by omega, rfl, rfl, by omega, HS0.out, rfl, HGS.out, Below.refl _ _⟩
  case round =>
    clear HS0 hcs hms
    obtain ⟨k, n', c', A', s, hk, rfl, rfl, hnk, hS, hT, hGS, hb⟩ := hrel
    by_cases hlt : k < n1
    · obtain ⟨ad, x, B1, m, d1, xs, rfl, hc1, hc2, hxr, hI, _, hx⟩ := HG.out.at_ hlt
      obtain ⟨hml, hxb⟩ := HA.out _ (List.mem_of_getElem? hx.out)
      simp only at hml hxb
      obtain rfl : m = dim := by rw [← hI.len]; exact hml
      have HCA := hide fun (W : World) (hB : Below w.heap.size w W) => show W.cell? (ad.add (k * 2)) = some (.int .i64 x) ∧ W.cell? ⟨(ad.add (k * 2)).block, (ad.add (k * 2)).off + 1, none⟩ = some (.slice B1 m d1) ∧ Ints W 0 w.heap.size B1 m d1 xs from ⟨(hB.cell (p := ad.add (k * 2)) (World.block_lt_of_cell? _ _ hc1)).trans hc1, (hB.cell (p := ⟨(ad.add (k * 2)).block, (ad.add (k * 2)).off + 1, none⟩) (World.block_lt_of_cell? _ _ hc2)).trans hc2, hI.below hB (Nat.le_refl _)⟩
      have HXR := hide hxr
      have HXB := hide hxb
      have hxl := hide hml
      have hdc := hI.cap
      have hdm := hI.max
      have hT1 : Hid (timesS ss (aa.take (k + 1)) bs = rowS s (x, xs) bs) := by show _ = _; rw [hT.out]; exact foldl_take _ aa ss hx.out
      clear hI hxr hxb hml hx hc1 hc2
      go_wp2_with fail
      go_loopw [0, 8] (fun u i wr => ∃ (j n' c' : Nat) (A' : Option Addr) (s2 : List Mono), j ≤ n2 ∧ i = .int .i64 j ∧ u = .slice A' n' c' ∧ n' ≤ n0 + k * 12 + j ∧ Hid (Mons wr lo wr.heap.size A' n' c' s2) ∧ Hid (s2 = rowS s (x, xs) (bs.take j)) ∧ Hid (GoodS m s2) ∧ Hid (Below w.heap.size w wr)) (fun _ i _ => n2 - (intOf i).toNat)
      case atStart => exact ⟨0, n', c', A', s, by omega, rfl, rfl, by omega, hS.out, rfl, hGS.out, hb.out⟩
      case round =>
        clear hS hT hGS hb hnk
        obtain ⟨j, n', c', A', s2, hj, rfl, rfl, hnk, hS, hT, hGS, hb⟩ := hrel
        have hsz := hb.out.size
        by_cases hlt2 : j < n2
        · obtain ⟨ae, y, B2, m2, d2, ys, rfl, hc3, hc4, hyr, hJ, _, hy⟩ := HF.out.at_ hlt2
          obtain ⟨hml2, hyb⟩ := HB.out _ (List.mem_of_getElem? hy.out)
          simp only at hml2 hyb
          obtain rfl : m2 = m := by rw [← hJ.len]; exact hml2
          have HCB := hide fun (W : World) (hB : Below w.heap.size w W) => show W.cell? (ae.add (j * 2)) = some (.int .i64 y) ∧ W.cell? ⟨(ae.add (j * 2)).block, (ae.add (j * 2)).off + 1, none⟩ = some (.slice B2 m2 d2) ∧ Ints W 0 w.heap.size B2 m2 d2 ys from ⟨(hB.cell (p := ae.add (j * 2)) (World.block_lt_of_cell? _ _ hc3)).trans hc3, (hB.cell (p := ⟨(ae.add (j * 2)).block, (ae.add (j * 2)).off + 1, none⟩) (World.block_lt_of_cell? _ _ hc4)).trans hc4, hJ.below hB (Nat.le_refl _)⟩
          have HYR := hide hyr
          have HYB := hide hyb
          have hyl := hide hml2
          have hdc2 := hJ.cap
          have hdm2 := hJ.max
          have hT2 : Hid (rowS s (x, xs) (bs.take (j + 1)) = putF s2 (timesF x y, addP xs ys)) := by show _ = _; rw [hT.out]; exact foldl_take _ bs s hy.out
          clear hJ hyr hyb hml2 hy hc3 hc4
          have U0 := HCA.out _ hb.out
          have V0 := HCB.out _ hb.out
          have T0 : wr.cell? (ad.add (k * 2)) = some (.int .i64 x) ∧ wr.cell? (ae.add (j * 2)) = some (.int .i64 y) := ⟨U0.1, V0.1⟩
          have T1 : wr.drew.cell? (ad.add (k * 2)) = some (.int .i64 x) ∧ wr.drew.cell? (ae.add (j * 2)) = some (.int .i64 y) := T0
          clear U0 V0
          go_upto_region 7 with fail
          go_cut [9] (fun s9 wx => ∃ b, s9 = .pointer (some ⟨b, 0, none⟩) ∧ Hid (BlkN wx b #[.int .i64 (timesF x y), .slice none 0 0]) ∧ Hid (Below wr.heap.size wr wx) ∧ wr.heap.size ≤ b)
          case first =>
            go_region_held3 (fun w' => w'.cell? (ad.add (k * 2)) = some (.int .i64 x) ∧ w'.cell? (ae.add (j * 2)) = some (.int .i64 y)) (first | exact T0 | exact T1 | exact ⟨cell_al T1.1, cell_al T1.2⟩ | go_keep)
              (first
                | (go_at_call 32; refine (spec_Times x y _ HXR.out HYR.out).mono ?_; rintro e w' ⟨rfl, rfl⟩))
            all_goals go_wp2_with fail
            all_goals go_meet
            all_goals exact ⟨wr.heap.size, rfl, (BlkN.new wr _ _).drew, (below_alloc wr _).drew, Nat.le_refl _⟩
          case rest =>
            obtain ⟨b, rfl, hB, hbl, hbw⟩ := hcut
            obtain ⟨w0, hw00⟩ : ∃ z, z = wr := ⟨_, rfl⟩
            subst hw00
            clear T0 T1
            have hbC := hide (hb.out.trans (hbl.out.mono hsz))
            have hSC := hide (hS.out.below hbl.out (Nat.le_refl _))
            have hb0 := hb
            have hSw := hide fun (W : World) (hB : Below w0.heap.size w0 W) => (hS.out.below hB (Nat.le_refl _)).wide (lo' := lo) (hi' := W.heap.size) (Nat.le_refl _) hB.size
            clear hS hb
            go_wp2_with fail
            go_loopw [10] (fun i wr => ∃ (q c3 : Nat) (A3 : Option Addr), q ≤ m2 ∧ i = .int .i64 q ∧ Hid (BlkN wr b #[.int .i64 (timesF x y), .slice A3 q c3]) ∧ Hid (OwnI wr w0.heap.size wr.heap.size A3 q c3 ((addP xs ys).take q)) ∧ Hid (∀ ad, A3 = some ad → ad.block ≠ b) ∧ Hid (Below w0.heap.size w0 wr)) (fun i _ => m2 - (intOf i).toNat)
            case atStart => exact ⟨0, 0, none, by omega, rfl, hB.out, OwnI.nil_ _ _ _, none_ne b, hbl.out⟩
            case round =>
              clear hB hbl hbC hSC
              obtain ⟨q, c3, A3, hq, rfl, hB, hO, hne, hbl⟩ := hrel
              have hbC := hide (hb0.out.trans (hbl.out.mono hsz))
              obtain ⟨u1, u2, hIx⟩ := HCA.out _ hbC.out
              obtain ⟨v1, v2, hIy⟩ := HCB.out _ hbC.out
              by_cases hlt3 : q < m2
              · obtain ⟨bx, p1, rfl, hcx, _, _, hxx⟩ := hIx.at_ hlt3
                obtain ⟨by_, p2, rfl, hcy, _, _, hyy⟩ := hIy.at_ hlt3
                have hp1 := HXB.out p1 (List.mem_of_getElem? hxx.out)
                have hp2 := HYB.out p2 (List.mem_of_getElem? hyy.out)
                have hst := hide (addP_at hxx.out hyy.out)
                have hst3 := hxx
                have hst4 := hyy
                have hw0 : IntKind.i64.wrap (p1 + p2) = p1 + p2 := IntWalk.i64_in _ (by omega)
                have hB1 := hB.out.c 1 rfl
                have hOw := hO.out.own
                have hzz := hbl.out.size
                have hblt := hB.out.lt
                clear hIx hIy hxx hyy u1 v1
                go_upto_region 11 with fail
                refine wp_region_Z (fun W' => W'.cell? ⟨b, 1, none⟩ = some (.slice A3 q c3) ∧ W'.cell? ⟨(ad.add (k * 2)).block, (ad.add (k * 2)).off + 1, none⟩ = some (.slice (some bx) m2 d1) ∧ W'.cell? (bx.add q) = some (.int .i64 p1) ∧ W'.cell? ⟨(ae.add (j * 2)).block, (ae.add (j * 2)).off + 1, none⟩ = some (.slice (some by_) m2 d2) ∧ W'.cell? (by_.add q) = some (.int .i64 p2)) 22 (by kernel_rfl) ?_
                have hOd := hide (OwnI.same (w' := wr.drew) hO.out (fun _ _ _ => rfl))
                have hBd := hide hB.out.drew
                have hbd := hide hbl.out.drew
                have hbCd := hide hbC.out.drew
                have hS0 : wr.drew.cell? ⟨b, 1, none⟩ = some (.slice A3 q c3) ∧ wr.drew.cell? ⟨(ad.add (k * 2)).block, (ad.add (k * 2)).off + 1, none⟩ = some (.slice (some bx) m2 d1) ∧ wr.drew.cell? (bx.add q) = some (.int .i64 p1) ∧ wr.drew.cell? ⟨(ae.add (j * 2)).block, (ae.add (j * 2)).off + 1, none⟩ = some (.slice (some by_) m2 d2) ∧ wr.drew.cell? (by_.add q) = some (.int .i64 p2) := ⟨hB1, u2, hcx, v2, hcy⟩
                have hzd : w0.heap.size ≤ wr.drew.heap.size := hzz
                have hbltd : b < wr.drew.heap.size := hblt
                have hOwd : wr.drew.ownsRow w0.heap.size 3 1 (.slice A3 q c3) q (((addP xs ys).take q).map (Value.int .i64)) := hOd.out.own
                clear hO hB hbl hbC hB1 u2 v2 hcx hcy hOw hzz hblt
                generalize wr.drew = V at hOd hBd hbd hbCd hS0 hzd hbltd hOwd ⊢
                refine wpAnyZ_takeW 0 (.pointer (some ⟨b, 1, none⟩)) rfl (by kernel_rfl) (by kernel_rfl) (fun _ _ _ h => h) (by rfl) (fun _ => by go_simp) hS0 ?_
                try simp only [Act.put, List.setIfInBounds_toArray, List.set_cons_zero, List.set_cons_succ]
                refine wpAnyZ_take 1 (.slice A3 q c3) rfl (by kernel_rfl) (by kernel_rfl) (fun _ _ _ h => h) (by rfl) (fun _ hS => by have q0 := hS.1; clear hS; go_simp) hS0 ?_
                try simp only [Act.put, List.setIfInBounds_toArray, List.set_cons_zero, List.set_cons_succ]
                refine wpAnyZ_takeW 2 (.slice (some ad) n1 c1) rfl (by kernel_rfl) (by kernel_rfl) (fun _ _ _ h => h) (by rfl) (fun _ => by go_simp) hS0 ?_
                try simp only [Act.put, List.setIfInBounds_toArray, List.set_cons_zero, List.set_cons_succ]
                refine wpAnyZ_takeW 3 (.int .i64 (k : Int)) rfl (by kernel_rfl) (by kernel_rfl) (fun _ _ _ h => h) (by rfl) (fun _ => by go_simp) hS0 ?_
                try simp only [Act.put, List.setIfInBounds_toArray, List.set_cons_zero, List.set_cons_succ]
                refine wpAnyZ_takeW 4 (.pointer (some (ad.add (k * 2)))) rfl (by kernel_rfl) (by kernel_rfl) (fun _ _ _ h => h) (by rfl) (fun _ => by go_simp) hS0 ?_
                try simp only [Act.put, List.setIfInBounds_toArray, List.set_cons_zero, List.set_cons_succ]
                refine wpAnyZ_takeW 5 (.pointer (some ⟨(ad.add (k * 2)).block, (ad.add (k * 2)).off + 1, none⟩)) rfl (by kernel_rfl) (by kernel_rfl) (fun _ _ _ h => h) (by rfl) (fun _ => by go_simp) hS0 ?_
                try simp only [Act.put, List.setIfInBounds_toArray, List.set_cons_zero, List.set_cons_succ]
                refine wpAnyZ_take 6 (.slice (some bx) m2 d1) rfl (by kernel_rfl) (by kernel_rfl) (fun _ _ _ h => h) (by rfl) (fun _ hS => by have q0 := hS.2.1; clear hS; go_simp) hS0 ?_
                try simp only [Act.put, List.setIfInBounds_toArray, List.set_cons_zero, List.set_cons_succ]
                refine wpAnyZ_takeW 7 (.int .i64 (q : Int)) rfl (by kernel_rfl) (by kernel_rfl) (fun _ _ _ h => h) (by rfl) (fun _ => by go_simp) hS0 ?_
                try simp only [Act.put, List.setIfInBounds_toArray, List.set_cons_zero, List.set_cons_succ]
                refine wpAnyZ_takeW 8 (.pointer (some (bx.add q))) rfl (by kernel_rfl) (by kernel_rfl) (fun _ _ _ h => h) (by rfl) (fun _ => by go_simp) hS0 ?_
                try simp only [Act.put, List.setIfInBounds_toArray, List.set_cons_zero, List.set_cons_succ]
                refine wpAnyZ_take 9 (.int .i64 p1) rfl (by kernel_rfl) (by kernel_rfl) (fun _ _ _ h => h) (by rfl) (fun _ hS => by have q0 := hS.2.2.1; clear hS; go_simp) hS0 ?_
                try simp only [Act.put, List.setIfInBounds_toArray, List.set_cons_zero, List.set_cons_succ]
                refine wpAnyZ_takeW 10 (.slice (some ae) n2 c2) rfl (by kernel_rfl) (by kernel_rfl) (fun _ _ _ h => h) (by rfl) (fun _ => by go_simp) hS0 ?_
                try simp only [Act.put, List.setIfInBounds_toArray, List.set_cons_zero, List.set_cons_succ]
                refine wpAnyZ_takeW 11 (.int .i64 (j : Int)) rfl (by kernel_rfl) (by kernel_rfl) (fun _ _ _ h => h) (by rfl) (fun _ => by go_simp) hS0 ?_
                try simp only [Act.put, List.setIfInBounds_toArray, List.set_cons_zero, List.set_cons_succ]
                refine wpAnyZ_takeW 12 (.pointer (some (ae.add (j * 2)))) rfl (by kernel_rfl) (by kernel_rfl) (fun _ _ _ h => h) (by rfl) (fun _ => by go_simp) hS0 ?_
                try simp only [Act.put, List.setIfInBounds_toArray, List.set_cons_zero, List.set_cons_succ]
                refine wpAnyZ_takeW 13 (.pointer (some ⟨(ae.add (j * 2)).block, (ae.add (j * 2)).off + 1, none⟩)) rfl (by kernel_rfl) (by kernel_rfl) (fun _ _ _ h => h) (by rfl) (fun _ => by go_simp) hS0 ?_
                try simp only [Act.put, List.setIfInBounds_toArray, List.set_cons_zero, List.set_cons_succ]
                refine wpAnyZ_take 14 (.slice (some by_) m2 d2) rfl (by kernel_rfl) (by kernel_rfl) (fun _ _ _ h => h) (by rfl) (fun _ hS => by have q0 := hS.2.2.2.1; clear hS; go_simp) hS0 ?_
                try simp only [Act.put, List.setIfInBounds_toArray, List.set_cons_zero, List.set_cons_succ]
                refine wpAnyZ_takeW 15 (.int .i64 (q : Int)) rfl (by kernel_rfl) (by kernel_rfl) (fun _ _ _ h => h) (by rfl) (fun _ => by go_simp) hS0 ?_
                try simp only [Act.put, List.setIfInBounds_toArray, List.set_cons_zero, List.set_cons_succ]
                refine wpAnyZ_takeW 16 (.pointer (some (by_.add q))) rfl (by kernel_rfl) (by kernel_rfl) (fun _ _ _ h => h) (by rfl) (fun _ => by go_simp) hS0 ?_
                try simp only [Act.put, List.setIfInBounds_toArray, List.set_cons_zero, List.set_cons_succ]
                refine wpAnyZ_take 17 (.int .i64 p2) rfl (by kernel_rfl) (by kernel_rfl) (fun _ _ _ h => h) (by rfl) (fun _ hS => by have q0 := hS.2.2.2.2; clear hS; go_simp) hS0 ?_
                try simp only [Act.put, List.setIfInBounds_toArray, List.set_cons_zero, List.set_cons_succ]
                refine wpAnyZ_takeW 18 (.int .i64 (p1 + p2)) rfl (by kernel_rfl) (by kernel_rfl) (fun _ _ _ h => h) (by rfl) (fun _ => by go_simp) hS0 ?_
                try simp only [Act.put, List.setIfInBounds_toArray, List.set_cons_zero, List.set_cons_succ]
                refine wpAnyZ_one 19 (by kernel_rfl) rfl (by rfl) (fun K hK => ?_)
                go_simp
                have aV := below_alloc V (.cells #[.int .i64 (p1 + p2)] 3)
                have hS1 := And.intro ((aV.cell (p := ⟨b, 1, none⟩) (World.block_lt_of_cell? _ _ hS0.1)).trans hS0.1) (And.intro ((aV.cell (p := ⟨(ad.add (k * 2)).block, (ad.add (k * 2)).off + 1, none⟩) (World.block_lt_of_cell? _ _ hS0.2.1)).trans hS0.2.1) (And.intro ((aV.cell (p := bx.add q) (World.block_lt_of_cell? _ _ hS0.2.2.1)).trans hS0.2.2.1) (And.intro ((aV.cell (p := ⟨(ae.add (j * 2)).block, (ae.add (j * 2)).off + 1, none⟩) (World.block_lt_of_cell? _ _ hS0.2.2.2.1)).trans hS0.2.2.2.1) ((aV.cell (p := by_.add q) (World.block_lt_of_cell? _ _ hS0.2.2.2.2)).trans hS0.2.2.2.2))))
                refine hK.out _ _ hS1 ?_
                clear hK K
                try simp only [Act.put, List.setIfInBounds_toArray, List.set_cons_zero, List.set_cons_succ]
                refine wpAnyZ_one 20 (by kernel_rfl) rfl (by rfl) (fun K hK => ?_)
                clear hw0
                refine owp_appJ (.tmp 46) (.tmp 64) 22 rfl w0.heap.size 3 i1 (.int .i64 0) 1 8 Try.underlying22 hi1 hy0 hy1 hy2 rfl (by omega) V #[.int .i64 (p1 + p2)] _ rfl A3 q c3 1 _ rfl rfl hOwd rfl (by simp [Value.oneCell']) (by omega) (by omega) hzd ?_
                intro A4 c4 w5 happ hlt5
                have hb5 := hide (happ.low hbd.out hzd (Nat.le_refl _) hOwd)
                have hbC5 := hide (hb0.out.trans (hb5.out.mono hsz))
                have hB5 := hide (blk_grown hBd.out happ.2.1 hne.out)
                obtain ⟨_, f2, _⟩ := HCA.out _ hbC5.out
                obtain ⟨_, f4, _⟩ := HCB.out _ hbC5.out
                have hne5 : Hid (∀ ad, A4 = some ad → ad.block ≠ b) := fun ad e => by
                  rcases happ.2.2 with h1 | h1
                  · exact hne.out ad (h1 ad e)
                  · have := h1 ad e
                    omega
                have hOq := happ.1
                have hb0z := hb0.out.size
                have hS2 := And.intro (hB5.out.c 1 rfl) (And.intro f2 (And.intro ((Ints.cellq (HCA.out _ hbC5.out).2.2 hst3.out)) (And.intro f4 (Ints.cellq (HCB.out _ hbC5.out).2.2 hst4.out))))
                clear happ hS1
                refine hK.out _ _ hS2 ?_
                clear hK K
                try simp only [Act.put, List.setIfInBounds_toArray, List.set_cons_zero, List.set_cons_succ]
                refine wpAnyZ_takeW 21 (.pointer (some ⟨b, 1, none⟩)) rfl (by kernel_rfl) (by kernel_rfl) (fun _ _ _ h => h) (by rfl) (fun _ => by go_simp) hS2 ?_
                try simp only [Act.put, List.setIfInBounds_toArray, List.set_cons_zero, List.set_cons_succ]
                have g1 := hB5.out.f 1
                have g2 := hB5.out.c 1 rfl
                refine wpAnyZ_last (by kernel_rfl) rfl (by kernel_rfl) (by rfl) (fun K hK => ?_)
                go_simp
                refine hK _ _ ?_
                clear hK K g1 g2
                have hO6 : Hid (OwnI (w5.setCell ⟨b, 1, none⟩ (.slice A4 (q + 1) c4)) w0.heap.size (w5.setCell ⟨b, 1, none⟩ (.slice A4 (q + 1) c4)).heap.size A4 (q + 1) c4 ((addP xs ys).take (q + 1))) := by
                  have t1 := owns_setCell hOq (p := ⟨b, 1, none⟩) (fun ad e => hne5.out ad e) (.slice A4 (q + 1) c4)
                  have t2 : ((addP xs ys).take (q + 1)) = (addP xs ys).take q ++ [p1 + p2] := by rw [List.take_add_one, hst.out]; rfl
                  refine ⟨?_, fun ad e => (owns_lt t1 ad e).2, fun z hz => ?_⟩
                  · rw [t2, List.map_append]; exact t1
                  · rw [t2] at hz
                    rcases List.mem_append.1 hz with h1 | h1
                    · exact hOd.out.rng z h1
                    · obtain rfl : z = p1 + p2 := by simpa using h1
                      constructor <;> omega
                have hB6 : Hid (BlkN (w5.setCell ⟨b, 1, none⟩ (.slice A4 (q + 1) c4)) b #[.int .i64 (timesF x y), .slice A4 (q + 1) c4]) := by
                  have t1 := hB5.out.set 1 (.slice A4 (q + 1) c4)
                  simp only [List.setIfInBounds_toArray, List.set_cons_zero, List.set_cons_succ] at t1
                  exact t1
                have hb6 := hide (hb5.out.setCell (p := ⟨b, 1, none⟩) hbw (.slice A4 (q + 1) c4))
                clear hOq hB5 hb5 hS2 f2 f4 hbC5
                go_wp2_with fail
                go_roundw
                case rel => exact ⟨q + 1, c4, A4, by omega, by go_num, hB6.out, hO6.out, hne5.out, hb6.out⟩
                case measure => simp [intOf]; omega
              · obtain rfl : m2 = q := by omega
                have htk : (addP xs ys).take m2 = addP xs ys := List.take_of_length_le (Nat.le_of_eq (addP_len hxl.out hyl.out))
                rw [htk] at hO
                have hSZ := hSw.out _ hbl.out
                have r0 := hB.out.c 0 rfl
                have r1 := hB.out.c 1 rfl
                have HPut := hide (spec_l9Put A' n' c' s2 lo (timesF x y) A3 m2 c3 (addP xs ys) wr hSZ (hO.out.ints.wide (by omega) (Nat.le_refl _)) (by have := hbC.out.size; omega) (by omega) hGS.out.num (timesF_bd x y) hGS.out.desc)
                have hG2 := hide (hGS.out.put (m := (timesF x y, addP xs ys)) (timesF_bd x y) (addP_len hxl.out hyl.out))
                have hlen2 := hide (putF_len s2 (timesF x y, addP xs ys))
                have hS2l := hide hSZ.len
                clear u1 v1 v2 hIx hIy hSZ
                go_wp2_with fail
                refine HPut.out.mono ?_
                rintro r w2 ⟨A5, n5, c5, rfl, hM5, hb5⟩
                have hn5 : n5 ≤ n' + 1 := by
                  have t1 := hlen2.out
                  rw [← hT2.out] at t1
                  have t2 := hM5.len
                  rw [← hT2.out] at t2
                  have t3 := hS2l.out
                  omega
                rw [← hT2.out] at hM5 hG2
                have HM5 := hide hM5
                have HB5 := hide (hbC.out.trans (hb5.mono hbC.out.size))
                clear hM5 hb5 HPut r0 r1 hlen2 hS2l
                go_wp2_with fail
                go_roundw
                case rel => exact ⟨j + 1, n5, c5, A5, _, by omega, by go_num, rfl, by omega, HM5.out, rfl, hG2.out, HB5.out⟩
                case measure => simp [intOf]; omega
        · obtain rfl : n2 = j := by omega
          rw [List.take_of_length_le (Nat.le_of_eq HF.out.len)] at hT
          have hT3 : Hid (s2 = timesS ss (aa.take (k + 1)) bs) := by show _ = _; rw [hT1.out]; exact hT.out
          go_wp2_with fail
          go_roundw
          case rel => exact ⟨k + 1, n', c', A', s2, by omega, by go_num, rfl, by omega, hS.out, hT3.out, hGS.out, hb.out⟩
          case measure => simp [intOf]; omega
    · obtain rfl : n1 = k := by omega
      rw [List.take_of_length_le (Nat.le_of_eq HG.out.len)] at hT
      have hS2 := hS.out.wide (lo' := lo) (hi' := wr.heap.size) (Nat.le_refl _) (Nat.le_refl _)
      rw [hT.out] at hS2
      have HS2 := hide hS2
      clear hS2
      go_wp2_with fail
      go_ret
      exact ⟨A', n', c', rfl, HS2.out, hnk, hb.out⟩
end Go.Proofs.Ytjamdnbabfodkaa
