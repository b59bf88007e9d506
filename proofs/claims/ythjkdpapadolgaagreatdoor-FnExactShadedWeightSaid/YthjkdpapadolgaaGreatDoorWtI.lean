/- Helpers for weights of shaded trees: sums of products, rows, tableaus of a colour, a row of ones. -/
import Derived.Test.YthjkdpapadolgaaGreatDoorWtP
import Derived.Test.YthjkdpapadolgaaGreatDoorShW
import Derived.Test.YthjkdpapadolgaaGreatDoorPr
import Derived.Test.YthjkdpapadolgaaGreatDoorNum
import Derived.Laws.CopyOwn
namespace Go.Proofs.YthjkdpapadolgaaGreatDoor
open Go.RowKit
set_option linter.unusedSimpArgs false
set_option linter.unusedVariables false
set_option maxRecDepth 20000

theorem impl_rowT (k : Nat) (gA n c : Nat) (B : Option Addr) (m d : Nat) (i : Nat) (w : World) (hk : k ≤ 8) (hn : n = k * k) (hi : i < k) (hc : n ≤ c) (hc2 : c ≤ 9223372036854775807) :
    Calls Tryz.prog 58 #[.agg #[.int .i64 (k : Int), .slice (some ⟨gA, 0, none⟩) n c, .slice B m d], .int .i64 (i : Int)] w fun e w' => e = .returned (.slice (some ⟨gA, i * k, none⟩) k (c - i * k)) ∧ Below w.heap.size w w' := by
  have a1 := below_alloc w (.cells #[.int .i64 (k : Int), .slice (some ⟨gA, 0, none⟩) n c, .slice B m d] 29)
  have h64 : n ≤ 64 := by rw [hn]; exact Nat.mul_le_mul hk hk
  have hle : i * k + k ≤ n := by
    rw [hn]
    have : (i + 1) * k ≤ k * k := Nat.mul_le_mul_right _ hi
    rwa [Nat.add_mul, Nat.one_mul] at this
  obtain ⟨q, hq⟩ : ∃ q : Nat, q = i * k := ⟨_, rfl⟩
  rw [← hq] at hle ⊢
  have hqi : (i : Int) * (k : Int) = (q : Int) := by rw [hq]; simp
  have hqj : ((i : Int) + 1) * (k : Int) = ((q + k : Nat) : Int) := by rw [Int.add_mul, Int.one_mul, hqi]; simp
  have hw1 := IntWalk.i64_in (q : Int) (by omega)
  have hw2 := IntWalk.i64_in ((q + k : Nat) : Int) (by omega)
  have hw3 := IntWalk.i64_in ((i : Int) + 1) (by omega)
  have hqc : ¬ c = q := by omega
  have hsub : q + k - q = k := by omega
  clear hq hn
  go_enter Tryz.func58, Tryz.ntmps58
  go_wp2_with fail
  rw [hsub]
  go_ret
  exact ⟨rfl, a1⟩
theorem spec_rowT (k : Nat) (gA n c : Nat) (B : Option Addr) (m d : Nat) (i : Nat) (w : World) (hk : k ≤ 8) (hn : n = k * k) (hi : i < k) (hc : n ≤ c) (hc2 : c ≤ 9223372036854775807) :
    Calls Tryz.prog 29 #[.agg #[.int .i64 (k : Int), .slice (some ⟨gA, 0, none⟩) n c, .slice B m d], .int .i64 (i : Int)] w fun e w' => e = .returned (.slice (some ⟨gA, i * k, none⟩) k (c - i * k)) ∧ Below w.heap.size w w' := by
  have a1 := below_alloc w (.cells #[.int .i64 (k : Int), .slice (some ⟨gA, 0, none⟩) n c, .slice B m d] 29)
  have h64 : n ≤ 64 := by rw [hn]; exact Nat.mul_le_mul hk hk
  have hle : i * k + k ≤ n := by
    rw [hn]
    have : (i + 1) * k ≤ k * k := Nat.mul_le_mul_right _ hi
    rwa [Nat.add_mul, Nat.one_mul] at this
  obtain ⟨q, hq⟩ : ∃ q : Nat, q = i * k := ⟨_, rfl⟩
  rw [← hq] at hle ⊢
  have hqi : (i : Int) * (k : Int) = (q : Int) := by rw [hq]; simp
  have hqj : ((i : Int) + 1) * (k : Int) = ((q + k : Nat) : Int) := by rw [Int.add_mul, Int.one_mul, hqi]; simp
  have hw1 := IntWalk.i64_in (q : Int) (by omega)
  have hw2 := IntWalk.i64_in ((q + k : Nat) : Int) (by omega)
  have hw3 := IntWalk.i64_in ((i : Int) + 1) (by omega)
  have hqc : ¬ c = q := by omega
  have hsub : q + k - q = k := by omega
  clear hq hn
  go_enter Tryz.func29, Tryz.ntmps29
  go_wp2_with fail
  rw [hsub]
  go_ret
  exact ⟨rfl, a1⟩
set_option maxHeartbeats 1000000 in
theorem impl_ofT (s : Int) (A : Option Addr) (n c : Nat) (B : Option Addr) (m d : Nat) (s' : Int) (A' : Option Addr) (n' c' : Nat) (B' : Option Addr) (m' d' : Nat) (q : Int) (w : World) (hq : q = 0 ∨ q = 1) :
    Calls Tryz.prog 33 #[.agg #[.int .i64 s, .slice A n c, .slice B m d, .int .i64 s', .slice A' n' c', .slice B' m' d'], .int .i64 q] w fun r w' => r = .returned (if q = 0 then .agg #[.int .i64 s, .slice A n c, .slice B m d] else .agg #[.int .i64 s', .slice A' n' c', .slice B' m' d']) ∧ Below w.heap.size w w' := by
  have b0 := below_alloc w (.cells #[.int .i64 s, .slice A n c, .slice B m d, .int .i64 s', .slice A' n' c', .slice B' m' d'] 31)
  have k0 := BlkN.new w #[.int .i64 s, .slice A n c, .slice B m d, .int .i64 s', .slice A' n' c', .slice B' m' d'] 31
  have z0 : (w.alloc (.cells #[.int .i64 s, .slice A n c, .slice B m d, .int .i64 s', .slice A' n' c', .slice B' m' d'] 31)).heap.size = w.heap.size + 1 := by simp
  go_enter Tryz.func33, Tryz.ntmps33
  rcases hq with rfl | rfl
  · go_wp2_with fail
    generalize w.alloc (.cells #[.int .i64 s, .slice A n c, .slice B m d, .int .i64 s', .slice A' n' c', .slice B' m' d'] 31) = W0 at b0 k0 z0 ⊢
    have k1 := BlkN.new W0 #[.int .i64 s, .slice A n c, .slice B m d] 29
    rw [z0] at k1
    have r0 := k1.c 0 rfl
    have r1 := k1.c 1 rfl
    have r2 := k1.c 2 rfl
    have lt1 := k1.lt
    refine bodyPost_ret (v := .agg #[.int .i64 s, .slice A n c, .slice B m d]) (by simp [results, Tryz.results33, go_sem, r0, r1, r2, lt1]) rfl ⟨by rfl, b0.alloc (by omega) _⟩
  · go_wp2_with fail
    generalize w.alloc (.cells #[.int .i64 s, .slice A n c, .slice B m d, .int .i64 s', .slice A' n' c', .slice B' m' d'] 31) = W0 at b0 k0 z0 ⊢
    have k1 := BlkN.new W0 #[.int .i64 s', .slice A' n' c', .slice B' m' d'] 29
    rw [z0] at k1
    have r0 := k1.c 0 rfl
    have r1 := k1.c 1 rfl
    have r2 := k1.c 2 rfl
    have lt1 := k1.lt
    refine bodyPost_ret (v := .agg #[.int .i64 s', .slice A' n' c', .slice B' m' d']) (by simp [results, Tryz.results33, go_sem, r0, r1, r2, lt1]) rfl ⟨by rfl, b0.alloc (by omega) _⟩
set_option maxHeartbeats 1000000 in
theorem spec_ofT (s : Int) (A : Option Addr) (n c : Nat) (B : Option Addr) (m d : Nat) (s' : Int) (A' : Option Addr) (n' c' : Nat) (B' : Option Addr) (m' d' : Nat) (q : Int) (w : World) (hq : q = 0 ∨ q = 1) :
    Calls Tryz.prog 13 #[.agg #[.int .i64 s, .slice A n c, .slice B m d, .int .i64 s', .slice A' n' c', .slice B' m' d'], .int .i64 q] w fun r w' => r = .returned (if q = 0 then .agg #[.int .i64 s, .slice A n c, .slice B m d] else .agg #[.int .i64 s', .slice A' n' c', .slice B' m' d']) ∧ Below w.heap.size w w' := by
  have b0 := below_alloc w (.cells #[.int .i64 s, .slice A n c, .slice B m d, .int .i64 s', .slice A' n' c', .slice B' m' d'] 31)
  have k0 := BlkN.new w #[.int .i64 s, .slice A n c, .slice B m d, .int .i64 s', .slice A' n' c', .slice B' m' d'] 31
  have z0 : (w.alloc (.cells #[.int .i64 s, .slice A n c, .slice B m d, .int .i64 s', .slice A' n' c', .slice B' m' d'] 31)).heap.size = w.heap.size + 1 := by simp
  go_enter Tryz.func13, Tryz.ntmps13
  rcases hq with rfl | rfl
  · go_wp2_with fail
    generalize w.alloc (.cells #[.int .i64 s, .slice A n c, .slice B m d, .int .i64 s', .slice A' n' c', .slice B' m' d'] 31) = W0 at b0 k0 z0 ⊢
    have k1 := BlkN.new W0 #[.int .i64 s, .slice A n c, .slice B m d] 29
    rw [z0] at k1
    have r0 := k1.c 0 rfl
    have r1 := k1.c 1 rfl
    have r2 := k1.c 2 rfl
    have lt1 := k1.lt
    refine bodyPost_ret (v := .agg #[.int .i64 s, .slice A n c, .slice B m d]) (by simp [results, Tryz.results13, go_sem, r0, r1, r2, lt1]) rfl ⟨by rfl, b0.alloc (by omega) _⟩
  · go_wp2_with fail
    generalize w.alloc (.cells #[.int .i64 s, .slice A n c, .slice B m d, .int .i64 s', .slice A' n' c', .slice B' m' d'] 31) = W0 at b0 k0 z0 ⊢
    have k1 := BlkN.new W0 #[.int .i64 s', .slice A' n' c', .slice B' m' d'] 29
    rw [z0] at k1
    have r0 := k1.c 0 rfl
    have r1 := k1.c 1 rfl
    have r2 := k1.c 2 rfl
    have lt1 := k1.lt
    refine bodyPost_ret (v := .agg #[.int .i64 s', .slice A' n' c', .slice B' m' d']) (by simp [results, Tryz.results13, go_sem, r0, r1, r2, lt1]) rfl ⟨by rfl, b0.alloc (by omega) _⟩

theorem impl_dotT (A : Option Addr) (n c : Nat) (us : List Int) (lo hi : Nat) (B : Option Addr) (m d : Nat) (vs : List Int) (lo' hi' : Nat) (w : World) (h : Ints w lo hi A n c us) (g : Ints w lo' hi' B m d vs) (hnm : n ≤ m) :
    Calls Tryz.prog 32 #[.slice A n c, .slice B m d] w fun e w' => e = .returned (.int .i64 (dotF 0 us vs)) ∧ ∃ q, w' = w.drewN q := by
  have hcp := h.cap
  have hm := h.max
  have gcp := g.cap
  have gm := g.max
  go_enter Tryz.func32, Tryz.ntmps32
  go_wp2_with fail
  go_loopw [5, 6, 9] (fun o _ i wr => ∃ (k q : Nat) (acc : Int), k ≤ n ∧ i = .int .i64 (k : Int) ∧ o = .int .i64 acc ∧ R64 acc ∧ wr = w.drewN q ∧ Hid (dotF 0 us vs = dotF acc (us.drop k) (vs.drop k))) (fun _ _ i _ => n - (intOf i).toNat)
  case atStart => exact ⟨0, 0, 0, by omega, rfl, rfl, by constructor <;> omega, rfl, rfl⟩
  case round =>
    obtain ⟨k, q, acc, hk, rfl, rfl, hra, rfl, hr⟩ := hrel
    by_cases hlt : k < n
    · obtain ⟨ad, x, rfl, hc, hx, hdx, _⟩ := h.at_ hlt
      obtain ⟨ae, y, rfl, hd, hy, hdy, _⟩ := g.at_ (k := k) (by omega)
      have hE : Hid (dotF 0 us vs = dotF (plusF acc (timesF x y)) (us.drop (k + 1)) (vs.drop (k + 1))) := by
        show _ = _
        rw [hr.out, hdx.out, hdy.out, dotF]
      have htr : R64 (timesF x y) := by have := timesF_bd x y; constructor <;> omega
      have hpr : R64 (plusF acc (timesF x y)) := by have := plusF_bd acc (timesF x y); constructor <;> omega
      have HX := hide hx
      have HY := hide hy
      have HA := hide hra
      have HTR := hide htr
      have HPR := hide hpr
      clear hr hdx hdy hx hy hra htr hpr
      go_wp2_with fail
      go_quiet ((first | (go_at_call 56; first | exact Calls.quiet_of_same (still_same (impl_Times x y _ HX.out HY.out)) | exact quiet_add_left (impl_Times x y _ HX.out HY.out)) | (go_at_call 55; first | exact Calls.quiet_of_same (still_same (impl_Plus acc (timesF x y) _ HA.out HTR.out)) | exact quiet_add_left (impl_Plus acc (timesF x y) _ HA.out HTR.out))))
      go_wp2_with fail
      go_roundw
      case rel => exact ⟨k + 1, _, _, by omega, by go_num, rfl, HPR.out, rfl, hE.out⟩
      case measure => simp [intOf]; omega
    · obtain rfl : k = n := by omega
      have hF : Hid (dotF 0 us vs = acc) := by
        show _ = _
        rw [hr.out, h.drop_end.out]
        rfl
      clear hr
      go_wp2_with fail
      go_ret
      exact ⟨ret_int hF.out.symm, q, rfl⟩

theorem spec_dotT (A : Option Addr) (n c : Nat) (us : List Int) (lo hi : Nat) (B : Option Addr) (m d : Nat) (vs : List Int) (lo' hi' : Nat) (w : World) (h : Ints w lo hi A n c us) (g : Ints w lo' hi' B m d vs) (hnm : n ≤ m) :
    Calls Tryz.prog 12 #[.slice A n c, .slice B m d] w fun e w' => e = .returned (.int .i64 (dotF 0 us vs)) ∧ ∃ q, w' = w.drewN q := by
  have hcp := h.cap
  have hm := h.max
  have gcp := g.cap
  have gm := g.max
  go_enter Tryz.func12, Tryz.ntmps12
  go_wp2_with fail
  go_loopw [5, 6] (fun o i wr => ∃ (k q : Nat) (acc : Int), k ≤ n ∧ i = .int .i64 (k : Int) ∧ o = .int .i64 acc ∧ R64 acc ∧ wr = w.drewN q ∧ Hid (dotF 0 us vs = dotF acc (us.drop k) (vs.drop k))) (fun _ i _ => n - (intOf i).toNat)
  case atStart => exact ⟨0, 0, 0, by omega, rfl, rfl, by constructor <;> omega, rfl, rfl⟩
  case round =>
    obtain ⟨k, q, acc, hk, rfl, rfl, hra, rfl, hr⟩ := hrel
    by_cases hlt : k < n
    · obtain ⟨ad, x, rfl, hc, hx, hdx, _⟩ := h.at_ hlt
      obtain ⟨ae, y, rfl, hd, hy, hdy, _⟩ := g.at_ (k := k) (by omega)
      have hE : Hid (dotF 0 us vs = dotF (plusF acc (timesF x y)) (us.drop (k + 1)) (vs.drop (k + 1))) := by
        show _ = _
        rw [hr.out, hdx.out, hdy.out, dotF]
      have htr : R64 (timesF x y) := by have := timesF_bd x y; constructor <;> omega
      have hpr : R64 (plusF acc (timesF x y)) := by have := plusF_bd acc (timesF x y); constructor <;> omega
      have HX := hide hx
      have HY := hide hy
      have HA := hide hra
      have HTR := hide htr
      have HPR := hide hpr
      clear hr hdx hdy hx hy hra htr hpr
      go_wp2_with fail
      go_quiet ((first | (go_at_call 27; first | exact Calls.quiet_of_same (still_same (spec_Times x y _ HX.out HY.out)) | exact quiet_add_left (spec_Times x y _ HX.out HY.out)) | (go_at_call 26; first | exact Calls.quiet_of_same (still_same (spec_Plus acc (timesF x y) _ HA.out HTR.out)) | exact quiet_add_left (spec_Plus acc (timesF x y) _ HA.out HTR.out))))
      go_wp2_with fail
      go_roundw
      case rel => exact ⟨k + 1, _, _, by omega, by go_num, rfl, HPR.out, rfl, hE.out⟩
      case measure => simp [intOf]; omega
    · obtain rfl : k = n := by omega
      have hF : Hid (dotF 0 us vs = acc) := by
        show _ = _
        rw [hr.out, h.drop_end.out]
        rfl
      clear hr
      go_wp2_with fail
      go_ret
      exact ⟨ret_int hF.out.symm, q, rfl⟩

def iCellsT (zs : List Int) : Array Value := (zs.map (Value.int .i64)).toArray
theorem setRow_heapT (w : World) (g : Nat) (cur new : Array Value) (t : TypeId) (fr : Nat × Nat) (h : w.heap[g]? = some (.cells cur t fr)) : (w.setRow g new).heap[g]? = some (.cells new t fr) := by
  simp [World.setRow, Array.getElem?_modify, h]
theorem owp_copyR {o : Oper} {a : Act} {K : Act → World → Prop} {Q : Exit → Act → World → Prop} (d s : Operand)
    (ho : o.op = .call { callee := .builtin .copy, args := #[d, s], argTypes := #[22, 22] }) (w : World) (g off dl c0 : Nat) (ad : Addr) (sl c : Nat) (ys zs : List Int)
    (hd : a.eval d = .slice (some ⟨g, off, none⟩) dl c0) (hs : a.eval s = .slice (some ad) sl c) (hg : w.heap[g]? = some (.cells (iCellsT zs) 3 (0, 0))) (hl : ys.length = min sl dl) (hsrc : ∀ j y, ys[j]? = some y → w.cell? (ad.add j) = some (.int .i64 y)) (hfit : off + ys.length ≤ zs.length)
    (h : ∀ w', w'.heap[g]? = some (.cells (iCellsT (zs.take off ++ (ys ++ zs.drop (off + ys.length)))) 3 (0, 0)) → Touch g (g + 1) w w' → w'.heap.size = w.heap.size → K (a.put o.dst (.int .i64 (ys.length : Int))) w') : Oper.wp Tryz.prog o a w K Q := by
  obtain ⟨i0, hi0, hz0, hz1, hz2⟩ := info_parts info_int
  have hrun := run_copy_row (P := Tryz.prog) w 22 22 o.type 3 g off dl c0 ad sl c (iCellsT zs) 3 (ys.map (Value.int .i64)) Tryz.underlying22 (by rw [hi0]; simp [hz1]) hg (by simpa using hl) (by
    intro j v hv
    rw [List.getElem?_map] at hv
    cases hy : ys[j]? with
    | none => rw [hy] at hv; cases hv
    | some y =>
      rw [hy] at hv
      simp at hv
      subst hv
      exact hsrc j y hy) (by simpa [iCellsT] using hfit) (by
    intro v hv
    simp only [List.mem_map] at hv
    obtain ⟨y, _, rfl⟩ := hv
    rfl)
  unfold Oper.wp
  simp [execOp, ho, resolve, invoke, builtin, hd, hs, hrun, Result.andThen]
  have e : ((iCellsT zs).toList.take off ++ (ys.map (Value.int .i64) ++ (iCellsT zs).toList.drop (off + (ys.map (Value.int .i64)).length))).toArray = iCellsT (zs.take off ++ (ys ++ zs.drop (off + ys.length))) := by
    simp [iCellsT, List.map_take, List.map_drop]
  have := h (w.setRow g ((iCellsT zs).toList.take off ++ (ys.map (Value.int .i64) ++ (iCellsT zs).toList.drop (off + (ys.map (Value.int .i64)).length))).toArray) (by rw [← e]; exact setRow_heapT w g _ _ _ _ hg) ⟨rfl, rfl, rfl, by simp [World.setRow], fun b _ hb => by
    simp only [World.setRow, Array.getElem?_modify]
    rw [if_neg (by omega)]⟩ (by simp [World.setRow])
  simp only [goInt, List.length_map] at this ⊢
  exact this
theorem wpl_copyR {ops : Array Oper} {rest : List Oper} {o : Oper} {a : Act} {Q : Exit → Act → World → Prop} (hgd : o.guard = none) (d s : Operand)
    (ho : o.op = .call { callee := .builtin .copy, args := #[d, s], argTypes := #[22, 22] }) (w : World) (g off dl c0 : Nat) (ad : Addr) (sl c : Nat) (ys zs : List Int)
    (hd : a.eval d = .slice (some ⟨g, off, none⟩) dl c0) (hs : a.eval s = .slice (some ad) sl c) (hg : w.heap[g]? = some (.cells (iCellsT zs) 3 (0, 0))) (hl : ys.length = min sl dl) (hsrc : ∀ j y, ys[j]? = some y → w.cell? (ad.add j) = some (.int .i64 y)) (hfit : off + ys.length ≤ zs.length)
    (h : ∀ w', w'.heap[g]? = some (.cells (iCellsT (zs.take off ++ (ys ++ zs.drop (off + ys.length)))) 3 (0, 0)) → Touch g (g + 1) w w' → w'.heap.size = w.heap.size → wpList Tryz.prog ops Q rest (a.put o.dst (.int .i64 (ys.length : Int))) w') : wpList Tryz.prog ops Q (o :: rest) a w :=
  wpList_plain hgd fun _ hK => owp_copyR d s ho w g off dl c0 ad sl c ys zs hd hs hg hl hsrc hfit fun w' h1 h2 h3 => hK _ _ (h w' h1 h2 h3)
/-- the first q are ones, the others up to k zeros -/
def repT (q k : Nat) : List Int := List.replicate q 1 ++ List.replicate (k - q) 0
theorem rep_len {q k : Nat} (h : q ≤ k) : (repT q k).length = k := by simp [repT]; omega
theorem rep_step {q k : Nat} (h1 : 1 ≤ q) (h : q ≤ k) : (repT q k).take q ++ (List.replicate (min q (k - q)) 1 ++ (repT q k).drop (q + (List.replicate (min q (k - q)) (1 : Int)).length)) = repT (q + min q (k - q)) k := by
  apply List.ext_getElem?
  intro j
  simp only [repT, List.length_replicate]
  rw [List.take_append_of_le_length (by simp), List.take_of_length_le (by simp), ← List.append_assoc, List.replicate_append_replicate]
  congr 2
  rw [List.drop_append, List.length_replicate, List.drop_eq_nil_of_le (by simp), List.nil_append, List.drop_replicate]
  congr 1
  omega
theorem rep_start (k : Nat) : (repT 0 k).take 0 ++ (List.replicate (min 1 k) 1 ++ (repT 0 k).drop (0 + (List.replicate (min 1 k) (1 : Int)).length)) = repT (min 1 k) k := by
  simp only [repT, List.length_replicate, List.take_zero, List.nil_append, List.replicate_zero, Nat.sub_zero, Nat.zero_add, List.drop_replicate]
theorem one_cell {w : World} {g k : Nat} {j : Nat} {y : Int} (hc : w.cell? ⟨g, 0, none⟩ = some (.int .i64 1)) (hj : (List.replicate (min 1 k) (1 : Int))[j]? = some y) : w.cell? ((⟨g, 0, none⟩ : Addr).add j) = some (.int .i64 y) := by
  have hjl := (List.getElem?_eq_some_iff.1 hj).1
  simp at hjl
  have hy : y = 1 := by
    have := List.mem_of_getElem? hj
    simp at this
    exact this.2
  subst hy
  obtain rfl : j = 0 := by omega
  simpa [Addr.add] using hc
theorem rep_cell {w : World} {g q k c : Nat} {j : Nat} {y : Int} (hg : w.heap[g]? = some (.cells (iCellsT (repT q k)) 3 (0, 0))) (hj : (List.replicate (min q c) (1 : Int))[j]? = some y) : w.cell? ((⟨g, 0, none⟩ : Addr).add j) = some (.int .i64 y) := by
  have hjl := (List.getElem?_eq_some_iff.1 hj).1
  simp at hjl
  have hy : y = 1 := by
    have := List.mem_of_getElem? hj
    simp at this
    exact this.2
  subst hy
  rw [Addr.add_lit, Nat.zero_add]
  simp only [World.cell?, hg]
  simp only [iCellsT, repT, List.map_append, List.map_replicate, List.getElem?_toArray]
  rw [List.getElem?_append_left (by simp; omega), List.getElem?_replicate, if_pos (show j < q by omega)]
  rfl
theorem own_rep {w : World} {g k lo : Nat} (hg : w.heap[g]? = some (.cells (iCellsT (repT k k)) 3 (0, 0))) (hl : lo ≤ g) (hk : k ≤ 8) : OwnI w lo w.heap.size (some ⟨g, 0, none⟩) k k (onesF k) := by
  have e : repT k k = onesF k := by simp [repT, onesF]
  rw [e] at hg
  refine ⟨⟨by simp [onesF], .inr ⟨g, k, iCellsT (onesF k), rfl, hl, hg, Nat.le_refl _, by unfold maxLen; omega, by simp [iCellsT, onesF], ?_⟩⟩, fun ad e => by injection e with e; subst e; exact (Array.getElem?_eq_some_iff.1 hg).1, fun x hx => by have := ones_bd x hx; constructor <;> omega⟩
  simp [iCellsT, onesF]

set_option maxRecDepth 100000 in
set_option maxHeartbeats 4000000 in
/-- a row of ones -/
theorem lib_Repeat (gx c k : Nat) (w : World) (hk : k ≤ 8) (hc : w.cell? ⟨gx, 0, none⟩ = some (.int .i64 1)) (hgx : gx < w.heap.size) (hc1 : 1 ≤ c) (hcm : c ≤ 9223372036854775807) :
    Calls Tryz.prog 57 #[.slice (some ⟨gx, 0, none⟩) 1 c, .int .i64 (k : Int)] w fun e w' => ∃ g, e = .returned (.slice (some ⟨g, 0, none⟩) k k) ∧ OwnI w' w.heap.size w'.heap.size (some ⟨g, 0, none⟩) k k (onesF k) ∧ Below w.heap.size w w' := by
  have hMul := fun W => Any.bits_Mul sh_bitsMul 1 k (by omega) (by omega) W
  have hMul2 : ∀ W, Calls Tryz.prog 71 #[.int .u64 1, .int .u64 (k : Int)] W fun e w' => e = .returned (.tuple #[.int .u64 0, .int .u64 (k : Int)]) ∧ w' = W := fun W => by
    have := hMul W
    rw [show 1 * k / 18446744073709551616 = 0 by omega, show 1 * k % 18446744073709551616 = k by omega] at this
    exact this
  have HMul := hide hMul2
  clear hMul hMul2
  have hwk : IntKind.u64.wrap (k : Int) = k := by simp [IntKind.wrap, IntKind.bits, IntKind.signed]; omega
  have hwk2 : IntKind.i64.wrap (k : Int) = k := IntWalk.i64_in _ (by omega)
  have hkb : decide ((9223372036854775807 : Int) < (k : Int)) = false := decide_eq_false (by omega)
  have hmk := hide fun W => make_ints k (by omega) W
  go_enter Tryz.func57, Tryz.ntmps57
  go_wp2_with fail
  refine (HMul.out _).mono ?_
  rintro e w1 ⟨rfl, rfl⟩
  have hmk1 := hmk.out w1
  have hz : zeros k = iCellsT (repT 0 k) := by
    apply Array.ext'
    rw [zeros_list]
    simp [iCellsT, repT]
  rw [hz] at hmk1
  have bA := below_alloc w1 (.cells (iCellsT (repT 0 k)) 3)
  have hgA := hide (heap_alloc_new w1 (.cells (iCellsT (repT 0 k)) 3))
  have hcA := (bA.cell (p := ⟨gx, 0, none⟩) hgx).trans hc
  have hgA2 := hgA
  have hgw : w1.heap.size ≤ w1.heap.size := Nat.le_refl _
  have hsA : (w1.alloc (.cells (iCellsT (repT 0 k)) 3)).heap.size = w1.heap.size + 1 := by simp
  clear hz hgA hc hmk
  go_wp2_with (with_reducible refine wpl_copyR rfl (.tmp 31) (.tmp 32) rfl _ w1.heap.size 0 k k ⟨gx, 0, none⟩ 1 c (List.replicate (min 1 k) 1) (repT 0 k) rfl rfl hgA2.out (by simp) (fun j y hj => one_cell hcA hj) (by rw [rep_len (by omega)]; simp; omega) ?_; intro w2 hg2 ht2 hz2; rw [rep_start, List.length_replicate] at *)
  have hg3 := hide hg2
  have hb3 := hide (bA.trans (ht2.below (B := w1.heap.size) hgw (by omega)))
  clear hg2 ht2 hz2 hgA2 hcA bA hmk1 hsA
  go_wp2_with fail
  go_loopw [8] (fun i wr => ∃ q : Nat, q ≤ k ∧ (k = 0 ∨ 1 ≤ q) ∧ i = .int .i64 (q : Int) ∧ Hid (wr.heap[w1.heap.size]? = some (.cells (iCellsT (repT q k)) 3 (0, 0))) ∧ Hid (Below w1.heap.size w1 wr)) (fun i _ => k - (intOf i).toNat)
  case atStart => exact ⟨min 1 k, by omega, by omega, rfl, hg3.out, hb3.out⟩
  case round =>
    clear hg3 hb3
    obtain ⟨q, hqk, hq0, rfl, hg, hb⟩ := hrel
    by_cases hlt : q < k
    · have hq1 : 1 ≤ q := by omega
      have hq2 : q ≤ k := by omega
      have hqq : ¬ (q = k) := by omega
      have hwq : IntKind.i64.wrap ((q : Int) + ((min q (k - q) : Nat) : Int)) = ((q + min q (k - q) : Nat) : Int) := by
        rw [IntWalk.i64_in _ (by omega)]
        simp
      go_upto_region 9 with fail
      refine wp_region_Z (fun _ => True) 9 (by kernel_rfl) ?_
      simp only [List.size_toArray, List.length_cons, List.length_nil, Nat.reduceAdd]
      have hS0 : True := trivial
      have hgV : wr.drew.heap[w1.heap.size]? = some (.cells (iCellsT (repT q k)) 3 (0, 0)) := hg.out
      have hbV := hide hb.out.drew
      clear hg hb
      generalize wr.drew = V at hgV hbV ⊢
      refine wpAnyZ_takeW 0 (.int .i64 (q : Int)) rfl (by kernel_rfl) (by kernel_rfl) (fun _ _ _ h => h) (by rfl) (fun _ => by first | (simp [go_sem]; done) | go_simp) hS0 ?_
      try simp only [Act.put, List.setIfInBounds_toArray, List.set_cons_zero, List.set_cons_succ, List.getElem_toArray, List.getElem_cons_zero, List.getElem_cons_succ]
      refine wpAnyZ_takeW 1 (.slice (some ⟨w1.heap.size, 0, none⟩) k k) rfl (by kernel_rfl) (by kernel_rfl) (fun _ _ _ h => h) (by rfl) (fun _ => by first | (simp [go_sem]; done) | go_simp) hS0 ?_
      try simp only [Act.put, List.setIfInBounds_toArray, List.set_cons_zero, List.set_cons_succ, List.getElem_toArray, List.getElem_cons_zero, List.getElem_cons_succ]
      refine wpAnyZ_takeW 2 (.int .i64 (q : Int)) rfl (by kernel_rfl) (by kernel_rfl) (fun _ _ _ h => h) (by rfl) (fun _ => by first | (simp [go_sem]; done) | go_simp) hS0 ?_
      try simp only [Act.put, List.setIfInBounds_toArray, List.set_cons_zero, List.set_cons_succ, List.getElem_toArray, List.getElem_cons_zero, List.getElem_cons_succ]
      refine wpAnyZ_takeW 3 (.slice (some ⟨w1.heap.size, q, none⟩) (k - q) (k - q)) rfl (by kernel_rfl) (by kernel_rfl) (fun _ _ _ h => h) (by rfl) (fun _ => by go_simp; omega) hS0 ?_
      try simp only [Act.put, List.setIfInBounds_toArray, List.set_cons_zero, List.set_cons_succ, List.getElem_toArray, List.getElem_cons_zero, List.getElem_cons_succ]
      refine wpAnyZ_takeW 4 (.slice (some ⟨w1.heap.size, 0, none⟩) k k) rfl (by kernel_rfl) (by kernel_rfl) (fun _ _ _ h => h) (by rfl) (fun _ => by first | (simp [go_sem]; done) | go_simp) hS0 ?_
      try simp only [Act.put, List.setIfInBounds_toArray, List.set_cons_zero, List.set_cons_succ, List.getElem_toArray, List.getElem_cons_zero, List.getElem_cons_succ]
      refine wpAnyZ_takeW 5 (.int .i64 (q : Int)) rfl (by kernel_rfl) (by kernel_rfl) (fun _ _ _ h => h) (by rfl) (fun _ => by first | (simp [go_sem]; done) | go_simp) hS0 ?_
      try simp only [Act.put, List.setIfInBounds_toArray, List.set_cons_zero, List.set_cons_succ, List.getElem_toArray, List.getElem_cons_zero, List.getElem_cons_succ]
      refine wpAnyZ_takeW 6 (.slice (some ⟨w1.heap.size, 0, none⟩) q k) rfl (by kernel_rfl) (by kernel_rfl) (fun _ _ _ h => h) (by rfl) (fun _ => by go_simp) hS0 ?_
      try simp only [Act.put, List.setIfInBounds_toArray, List.set_cons_zero, List.set_cons_succ, List.getElem_toArray, List.getElem_cons_zero, List.getElem_cons_succ]
      refine wpAnyZ_one 7 (by kernel_rfl) rfl (by rfl) (fun K hK => ?_)
      refine owp_copyR (.tmp 41) (.tmp 44) rfl V w1.heap.size q (k - q) (k - q) ⟨w1.heap.size, 0, none⟩ q k (List.replicate (min q (k - q)) 1) (repT q k) rfl rfl hgV (by simp) (fun j y hj => rep_cell hgV hj) (by rw [rep_len hq2]; simp; omega) ?_
      intro w9 hg9 ht9 hz9
      rw [rep_step hq1 hq2, List.length_replicate] at *
      refine hK.out _ _ trivial ?_
      clear hK K
      try simp only [Act.put, List.setIfInBounds_toArray, List.set_cons_zero, List.set_cons_succ, List.getElem_toArray, List.getElem_cons_zero, List.getElem_cons_succ]
      refine wpAnyZ_takeW 8 (.int .i64 ((q + min q (k - q) : Nat) : Int)) rfl (by kernel_rfl) (by kernel_rfl) (fun _ _ _ h => h) (by rfl) (fun _ => by go_simp) trivial ?_
      try simp only [Act.put, List.setIfInBounds_toArray, List.set_cons_zero, List.set_cons_succ, List.getElem_toArray, List.getElem_cons_zero, List.getElem_cons_succ]
      refine wpAnyZ_last (by kernel_rfl) rfl (by kernel_rfl) (by rfl) (fun K hK => ?_)
      go_simp
      refine hK _ _ ?_
      clear hK K
      have hg10 := hide hg9
      have hb10 := hide (hbV.out.trans (ht9.below hgw hbV.out.size))
      clear hg9 ht9 hgV hbV
      go_wp2_with fail
      go_roundw
      case rel => exact ⟨q + min q (k - q), by omega, by omega, rfl, hg10.out, hb10.out⟩
      case measure => simp [intOf]; omega
    · obtain rfl : q = k := by omega
      have hO := hide (own_rep hg.out hgw hk)
      go_wp2_with fail
      go_ret
      exact ⟨w1.heap.size, rfl, hO.out, hb.out⟩
end Go.Proofs.YthjkdpapadolgaaGreatDoor
