/- The walks of the number functions, of the program and of the reference: each returns the plain function of NumLaws. -/
import Derived.Test.YtomgcbfcnjbofaaGreatMgA
namespace Go.Proofs.YtomgcbfcnjbofaaGreat
open Go.RowKit
set_option linter.unusedSimpArgs false
set_option linter.unusedVariables false
set_option maxRecDepth 20000
theorem spec_l1In (n lo hi:Int) (w:World) :
  Calls Tryz.prog 64 #[.int .i64 n,.int .i64 lo,.int .i64 hi] w fun e w'=>e = .returned (.bool (decide (lo≤n) && decide (n≤hi)))∧w=w':=by
 by_cases h0:lo≤n
 ·by_cases h1:n≤hi
  ·go_enter Tryz.func64,Tryz.ntmps64
   go_wp2
   go_ret
   exact ⟨by simp [h0,h1],rfl⟩
  ·go_enter Tryz.func64,Tryz.ntmps64
   go_wp2
   go_ret
   exact ⟨by simp [h1],rfl⟩
 ·go_enter Tryz.func64,Tryz.ntmps64
  go_wp2
  go_ret
  exact ⟨ret_bool (by simp;omega),rfl⟩
theorem impl_IsNumber (n:Int) (w:World) :
  Calls Tryz.prog 75 #[.int .i64 n] w fun e w'=>e = .returned (.bool (isNumF n))∧w=w':=by
 by_cases h0:0≤n
 ·by_cases h1:n<1000000271
  ·go_enter Tryz.func75,Tryz.ntmps75
   go_wp2
   go_ret
   exact ⟨by simp [isNumF,h0,h1],rfl⟩
  ·go_enter Tryz.func75,Tryz.ntmps75
   go_wp2
   go_ret
   exact ⟨by simp [isNumF,h1],rfl⟩
 ·go_enter Tryz.func75,Tryz.ntmps75
  go_wp2
  go_ret
  exact ⟨ret_bool (by simp [isNumF];omega),rfl⟩
theorem spec_IsNumber (n:Int) (w:World) :
  Calls Tryz.prog 98 #[.int .i64 n] w fun e w'=>e = .returned (.bool (isNumF n))∧w=w':=by
 have hF:Hid ((decide (0≤n) && decide (n≤1000000270))=isNumF n):=by
  show _=_
  rw [Bool.eq_iff_iff];simp [isNumF];omega
 go_enter Tryz.func98,Tryz.ntmps98
 go_wp2_with (go_at_call 64;refine (spec_l1In _ _ _ _).mono ?_;rintro e w' ⟨rfl,rfl⟩)
 go_ret
 exact ⟨ret_bool hF.out,rfl⟩
theorem impl_residue (n:Int) (w:World) (h:R64 n) :
  Calls Tryz.prog 62 #[.int .i64 n] w fun e w'=>e = .returned (.int .i64 (resF n))∧w=w':=by
 have hb:=tmod_bd n
 have hF:=hide (res_eq' n)
 obtain ⟨h1,h2⟩:=h
 go_enter Tryz.func62,Tryz.ntmps62
 go_wp2
 go_ret
 exact ⟨ret_int (by rw [← hF.out]),rfl⟩
theorem spec_l1Residue (n:Int) (w:World) (h:R64 n) :
  Calls Tryz.prog 66 #[.int .i64 n] w fun e w'=>e = .returned (.int .i64 (resF n))∧w=w':=by
 have hb:=tmod_bd n
 have hF:=hide (res_eq' n)
 obtain ⟨h1,h2⟩:=h
 go_enter Tryz.func66,Tryz.ntmps66
 go_wp2
 go_ret
 exact ⟨ret_int (by rw [← hF.out]),rfl⟩
theorem impl_Plus (a b:Int) (w:World) (ha:R64 a) (hb:R64 b) :
  Calls Tryz.prog 69 #[.int .i64 a,.int .i64 b] w fun e w'=>e = .returned (.int .i64 (plusF a b))∧w=w':=by
 have hA:=resF_bd a
 have hB:=resF_bd b
 have ha':=hide ha
 have hb':=hide hb
 clear ha hb
 go_enter Tryz.func69,Tryz.ntmps69
 go_wp2_with (go_at_call 62;refine (impl_residue _ _ (by first | exact ha'.out | exact hb'.out)).mono ?_;rintro e w' ⟨rfl,rfl⟩)
 go_ret
 exact ⟨ret_int (plus_eq a b),rfl⟩
theorem spec_Plus (a b:Int) (w:World) (ha:R64 a) (hb:R64 b) :
  Calls Tryz.prog 88 #[.int .i64 a,.int .i64 b] w fun e w'=>e = .returned (.int .i64 (plusF a b))∧w=w':=by
 have hA:=resF_bd a
 have hB:=resF_bd b
 have ha':=hide ha
 have hb':=hide hb
 clear ha hb
 go_enter Tryz.func88,Tryz.ntmps88
 go_wp2_with (go_at_call 66;refine (spec_l1Residue _ _ (by first | exact ha'.out | exact hb'.out)).mono ?_;rintro e w' ⟨rfl,rfl⟩)
 go_ret
 exact ⟨ret_int (plus_eq a b),rfl⟩
theorem impl_Minus (a b:Int) (w:World) (ha:R64 a) (hb:R64 b) :
  Calls Tryz.prog 22 #[.int .i64 a,.int .i64 b] w fun e w'=>e = .returned (.int .i64 (minusF a b))∧w=w':=by
 have hA:=resF_bd a
 have hB:=resF_bd b
 have ha':=hide ha
 have hb':=hide hb
 clear ha hb
 go_enter Tryz.func22,Tryz.ntmps22
 go_wp2_with (go_at_call 62;refine (impl_residue _ _ (by first | exact ha'.out | exact hb'.out)).mono ?_;rintro e w' ⟨rfl,rfl⟩)
 go_ret
 exact ⟨ret_int (minus_eq a b),rfl⟩
theorem spec_Minus (a b:Int) (w:World) (ha:R64 a) (hb:R64 b) :
  Calls Tryz.prog 30 #[.int .i64 a,.int .i64 b] w fun e w'=>e = .returned (.int .i64 (minusF a b))∧w=w':=by
 have hA:=resF_bd a
 have hB:=resF_bd b
 have ha':=hide ha
 have hb':=hide hb
 have hF:=hide (minus_eq' a b)
 clear ha hb
 go_enter Tryz.func30,Tryz.ntmps30
 go_wp2_with (go_at_call 66;refine (spec_l1Residue _ _ (by first | exact ha'.out | exact hb'.out | (constructor <;> omega))).mono ?_;rintro e w' ⟨rfl,rfl⟩)
 go_ret
 exact ⟨ret_int hF.out,rfl⟩
theorem impl_Times (a b:Int) (w:World) (ha:R64 a) (hb:R64 b) :
  Calls Tryz.prog 24 #[.int .i64 a,.int .i64 b] w fun e w'=>e = .returned (.int .i64 (timesF a b))∧w=w':=by
 have hA:=resF_bd a
 have hB:=resF_bd b
 have hm:=mul_bd hA.1 hA.2 hB.1 hB.2
 have ha':=hide ha
 have hb':=hide hb
 clear ha hb
 go_enter Tryz.func24,Tryz.ntmps24
 go_wp2_with (go_at_call 62;refine (impl_residue _ _ (by first | exact ha'.out | exact hb'.out)).mono ?_;rintro e w' ⟨rfl,rfl⟩)
 go_ret
 exact ⟨ret_int (times_eq a b),rfl⟩
theorem spec_Times (a b:Int) (w:World) (ha:R64 a) (hb:R64 b) :
  Calls Tryz.prog 32 #[.int .i64 a,.int .i64 b] w fun e w'=>e = .returned (.int .i64 (timesF a b))∧w=w':=by
 have hA:=resF_bd a
 have hB:=resF_bd b
 have hm:=mul_bd hA.1 hA.2 hB.1 hB.2
 have ha':=hide ha
 have hb':=hide hb
 clear ha hb
 go_enter Tryz.func32,Tryz.ntmps32
 go_wp2_with (go_at_call 66;refine (spec_l1Residue _ _ (by first | exact ha'.out | exact hb'.out)).mono ?_;rintro e w' ⟨rfl,rfl⟩)
 go_ret
 exact ⟨ret_int (times_eq a b),rfl⟩
theorem impl_Power (a k:Int) (w:World) (ha:R64 a) (hk:R64 k) :
  Calls Tryz.prog 97 #[.int .i64 a,.int .i64 k] w fun e w'=>e = .returned (.int .i64 (powF a k))∧w=w':=by
 have hA:=resF_bd a
 have ha':=hide ha
 obtain ⟨hk1,hk2⟩:=hk
 clear ha
 by_cases hneg:k<0
 ·have hF:=hide (powF_neg (a:=a) hneg)
  go_enter Tryz.func97,Tryz.ntmps97
  go_wp2
  go_ret
  exact ⟨ret_int hF.out.symm,rfl⟩
 ·have hF:=hide (powF_start (a:=a) (k:=k) (by omega))
  go_enter Tryz.func97,Tryz.ntmps97
  go_wp2_with (go_at_call 62;refine (impl_residue _ _ ha'.out).mono ?_;rintro e w' ⟨rfl,rfl⟩)
  go_loop [1,5,6] (fun j o x=>∃ (k' o' x':Int),j = .int .i64 k'∧o = .int .i64 o'∧x = .int .i64 x'∧0≤k'∧k'≤k∧0≤o'∧o'<1000000271∧0≤x'∧x'<1000000271∧Hid (powF a k=(o'*x' ^ k'.toNat) % 1000000271)) (fun j _ _=>(intOf j).toNat)
  case atStart=>exact ⟨k,1,resF a,rfl,rfl,rfl,by omega,by omega,by omega,by omega,hA.1,hA.2,hF⟩
  case round =>
   obtain ⟨k',o',x',rfl,rfl,rfl,h0,h1,h2,h3,h4,h5,hr⟩:=hrel
   have hm:=mul_bd h2 h3 h4 h5
   have hm2:=mul_bd h4 h5 h4 h5
   have hq:0≤o'*x' % 1000000271∧o'*x' % 1000000271<1000000271:=by omega
   have hq2:0≤x'*x' % 1000000271∧x'*x' % 1000000271<1000000271:=by omega
   by_cases hpos:0<k'
   ·by_cases hodd:k' % 2=1
    ·have hs:=hide (pow_odd (o:=o') (x:=x') h0 hodd)
     have hob:(k' % 2 == 1)=true:=by simpa using hodd
     clear hodd
     go_wp2
     go_round
     case rel=>exact ⟨_,_,_,rfl,rfl,rfl,by omega,by omega,hq.1,hq.2,hq2.1,hq2.2,hr.out.trans hs.out⟩
     case measure=>simp [intOf];omega
    ·have hev:k' % 2=0:=by omega
     have hs:=hide (pow_even (o:=o') (x:=x') h0 hev)
     have hob:(k' % 2 == 1)=false:=by simpa using hodd
     clear hodd hev
     go_wp2
     go_round
     case rel=>exact ⟨_,_,_,rfl,rfl,rfl,by omega,by omega,h2,h3,hq2.1,hq2.2,hr.out.trans hs.out⟩
     case measure=>simp [intOf];omega
   ·obtain rfl:k'=0:=by omega
    have hs:=hide (pow_stop (o:=o') (x:=x') h2 h3)
    go_wp2
    go_ret
    exact ⟨ret_int (hr.out.trans hs.out).symm,rfl⟩
theorem spec_Power (a k:Int) (w:World) (ha:R64 a) (hk:R64 k) :
  Calls Tryz.prog 99 #[.int .i64 a,.int .i64 k] w fun e w'=>e = .returned (.int .i64 (powF a k))∧w=w':=by
 have hA:=resF_bd a
 have ha':=hide ha
 obtain ⟨hk1,hk2⟩:=hk
 clear ha
 by_cases hneg:k<0
 ·have hF:=hide (powF_neg (a:=a) hneg)
  go_enter Tryz.func99,Tryz.ntmps99
  go_wp2
  go_ret
  exact ⟨ret_int hF.out.symm,rfl⟩
 ·have hF:=hide (powF_start (a:=a) (k:=k) (by omega))
  go_enter Tryz.func99,Tryz.ntmps99
  go_wp2_with (go_at_call 66;refine (spec_l1Residue _ _ ha'.out).mono ?_;rintro e w' ⟨rfl,rfl⟩)
  go_loop [5,6,7] (fun o x j=>∃ (k' o' x':Int),j = .int .i64 k'∧o = .int .i64 o'∧x = .int .i64 x'∧0≤k'∧k'≤k∧0≤o'∧o'<1000000271∧0≤x'∧x'<1000000271∧Hid (powF a k=(o'*x' ^ k'.toNat) % 1000000271)) (fun _ _ j=>(intOf j).toNat)
  case atStart=>exact ⟨k,1,resF a,rfl,rfl,rfl,by omega,by omega,by omega,by omega,hA.1,hA.2,hF⟩
  case round =>
   obtain ⟨k',o',x',rfl,rfl,rfl,h0,h1,h2,h3,h4,h5,hr⟩:=hrel
   have hq:=timesF_bd o' x'
   have hq2:=timesF_bd x' x'
   by_cases hpos:0<k'
   ·by_cases hodd:k' % 2=1
    ·have hs:=hide (pow_odd (o:=o') (x:=x') h0 hodd)
     have hob:(k' % 2 == 1)=true:=by simpa using hodd
     clear hodd
     go_wp2_with (go_at_call 32;refine (spec_Times _ _ _ (by constructor <;> omega) (by constructor <;> omega)).mono ?_;rintro e w' ⟨rfl,rfl⟩)
     go_round
     case rel=>exact ⟨_,_,_,rfl,rfl,rfl,by omega,by omega,hq.1,hq.2,hq2.1,hq2.2,hr.out.trans hs.out⟩
     case measure=>simp [intOf];omega
    ·have hev:k' % 2=0:=by omega
     have hs:=hide (pow_even (o:=o') (x:=x') h0 hev)
     have hob:(k' % 2 == 1)=false:=by simpa using hodd
     clear hodd hev
     go_wp2_with (go_at_call 32;refine (spec_Times _ _ _ (by constructor <;> omega) (by constructor <;> omega)).mono ?_;rintro e w' ⟨rfl,rfl⟩)
     go_round
     case rel=>exact ⟨_,_,_,rfl,rfl,rfl,by omega,by omega,h2,h3,hq2.1,hq2.2,hr.out.trans hs.out⟩
     case measure=>simp [intOf];omega
   ·obtain rfl:k'=0:=by omega
    have hs:=hide (pow_stop (o:=o') (x:=x') h2 h3)
    go_wp2
    go_ret
    exact ⟨ret_int (hr.out.trans hs.out).symm,rfl⟩
theorem impl_Inverse (a:Int) (w:World) (ha:R64 a) :
  Calls Tryz.prog 63 #[.int .i64 a] w fun e w'=>e = .returned (.int .i64 (invF a))∧w=w':=by
 have ha':=hide ha
 clear ha
 go_enter Tryz.func63,Tryz.ntmps63
 go_wp2_with (go_at_call 97;refine (impl_Power _ _ _ ha'.out (by constructor <;> omega)).mono ?_;rintro e w' ⟨rfl,rfl⟩)
 go_ret
 exact ⟨ret_int rfl,rfl⟩
theorem impl_Fraction (a b:Int) (w:World) (ha:R64 a) (hb:R64 b) :
  Calls Tryz.prog 23 #[.int .i64 a,.int .i64 b] w fun e w'=>e = .returned (.int .i64 (fracF a b))∧w=w':=by
 have ha':=hide ha
 have hb':=hide hb
 have hi:=invF_bd b
 clear ha hb
 go_enter Tryz.func23,Tryz.ntmps23
 go_wp2_with (first
  | (go_at_call 63;refine (impl_Inverse _ _ hb'.out).mono ?_;rintro e w' ⟨rfl,rfl⟩)
  | (go_at_call 24;refine (impl_Times _ _ _ ha'.out (by constructor <;> omega)).mono ?_;rintro e w' ⟨rfl,rfl⟩))
 go_ret
 exact ⟨ret_int rfl,rfl⟩
theorem spec_Inverse (a:Int) (w:World) (ha:R64 a) :
  Calls Tryz.prog 67 #[.int .i64 a] w fun e w'=>e = .returned (.int .i64 (invF a))∧w=w':=by
 have ha':=hide ha
 clear ha
 go_enter Tryz.func67,Tryz.ntmps67
 go_wp2_with (go_at_call 99;refine (spec_Power _ _ _ ha'.out (by constructor <;> omega)).mono ?_;rintro e w' ⟨rfl,rfl⟩)
 go_ret
 exact ⟨ret_int rfl,rfl⟩
theorem spec_Fraction (a b:Int) (w:World) (ha:R64 a) (hb:R64 b) :
  Calls Tryz.prog 31 #[.int .i64 a,.int .i64 b] w fun e w'=>e = .returned (.int .i64 (fracF a b))∧w=w':=by
 have ha':=hide ha
 have hb':=hide hb
 have hi:=invF_bd b
 clear ha hb
 go_enter Tryz.func31,Tryz.ntmps31
 go_wp2_with (first
  | (go_at_call 67;refine (spec_Inverse _ _ hb'.out).mono ?_;rintro e w' ⟨rfl,rfl⟩)
  | (go_at_call 32;refine (spec_Times _ _ _ ha'.out (by constructor <;> omega)).mono ?_;rintro e w' ⟨rfl,rfl⟩))
 go_ret
 exact ⟨ret_int rfl,rfl⟩
end Go.Proofs.YtomgcbfcnjbofaaGreat
/- The walks of the statements' own helpers on slices of integers: a copy, a comparison, a mark, a look at the marks, a count. -/
namespace Go.Proofs.YtomgcbfcnjbofaaGreat
open Go.RowKit
set_option linter.unusedSimpArgs false
set_option linter.unusedVariables false
set_option maxRecDepth 20000
theorem take_set_step {ys xs:List Int} {k:Nat} {x:Int} (h:ys.take k=xs.take k) (hk:k<ys.length) (hx:xs[k]? = some x):(ys.set k x).take (k+1)=xs.take (k+1):=by
 have h1:(ys.set k x).take k=xs.take k:=by rw [List.take_set_of_le (Nat.le_refl _),h]
 rw [List.take_add_one,List.take_add_one,h1,hx,List.getElem?_set_self hk]
theorem take_snoc_eq {xs ys:List Int} {k:Nat} {x:Int} (h:xs.take k=ys.take k) (hx:xs[k]? = some x) (hy:ys[k]? = some x):xs.take (k+1)=ys.take (k+1):=by
 rw [List.take_add_one,List.take_add_one,h,hx,hy]
def allNumF:List Int→Bool
 | []=>true
 | x :: r=>if isNumF x then allNumF r else false
theorem allNumF_mem {xs:List Int} (h:allNumF xs=true):∀ x∈xs,0≤x∧x<1000000271:=by
 induction xs with
 | nil=>simp
 | cons x r ih =>
  rw [allNumF] at h
  split at h
  ·rename_i hx
   intro y hy
   rcases List.mem_cons.1 hy with rfl | hy
   ·exact (isNumF_iff _).1 hx
   ·exact ih h y hy
  ·cases h
theorem allNumF_of {xs:List Int} (h:∀ x∈xs,0≤x∧x<1000000271):allNumF xs=true:=by
 induction xs with
 | nil=>rfl
 | cons x r ih=>rw [allNumF,if_pos ((isNumF_iff _).2 (h x (by simp))),ih fun y hy=>h y (by simp [hy])]
set_option maxHeartbeats 400000 in
theorem spec_l1All (A:Option Addr) (n c:Nat) (xs:List Int) (lo hi:Nat) (w:World) (h:Ints w lo hi A n c xs) :
  Calls Tryz.prog 65 #[.slice A n c] w fun e w'=>e = .returned (.bool (allNumF xs))∧w=w':=by
 have hm:=h.max
 have hcp:=h.cap
 go_enter Tryz.func65,Tryz.ntmps65
 go_wp2_with fail
 go_loop [3] (fun i=>∃ (k:Nat),k≤n∧i = .int .i64 k∧Hid (allNumF xs=allNumF (xs.drop k))) (fun i=>n - (intOf i).toNat)
 case atStart=>exact ⟨0,by omega,rfl,rfl⟩
 case round =>
  obtain ⟨k,hk,rfl,hrel'⟩:=hrel
  by_cases hlt:k<n
  ·obtain ⟨ad,x,rfl,hc,hr,hd,hx⟩:=h.at_ hlt
   clear hr
   by_cases hN:isNumF x=true
   ·have hG:Hid (allNumF xs=allNumF (xs.drop (k+1))):=by
     show _=_
     rw [hrel'.out,hd.out,allNumF,if_pos hN]
    go_wp2_with (go_at_call 98;refine (spec_IsNumber _ _).mono ?_;rintro e w' ⟨rfl,rfl⟩)
    go_round
    case rel=>exact ⟨k+1,by omega,by go_num,hG⟩
    case measure=>simp [intOf];omega
   ·have hN':isNumF x=false:=by simpa using hN
    have hG:Hid (allNumF xs=false):=by
     show _=_
     rw [hrel'.out,hd.out,allNumF,if_neg hN]
    clear hN
    go_wp2_with (go_at_call 98;refine (spec_IsNumber _ _).mono ?_;rintro e w' ⟨rfl,rfl⟩)
    go_ret
    exact ⟨ret_bool hG.out.symm,rfl⟩
  ·obtain rfl:k=n:=by omega
   have e:=h.drop_end
   go_wp2_with fail
   go_ret
   exact ⟨ret_bool (by rw [hrel'.out,e.out,allNumF]),rfl⟩
set_option maxHeartbeats 400000 in
theorem impl_allNumbers (A:Option Addr) (n c:Nat) (xs:List Int) (lo hi:Nat) (w:World) (h:Ints w lo hi A n c xs) :
  Calls Tryz.prog 60 #[.slice A n c] w fun e w'=>e = .returned (.bool (allNumF xs))∧w=w':=by
 have hm:=h.max
 have hcp:=h.cap
 go_enter Tryz.func60,Tryz.ntmps60
 go_wp2_with fail
 go_loop [4,7] (fun _ i=>∃ (k:Nat),k≤n∧i = .int .i64 k∧Hid (allNumF xs=allNumF (xs.drop k))) (fun _ i=>n - (intOf i).toNat)
 case atStart=>exact ⟨0,by omega,rfl,rfl⟩
 case round =>
  obtain ⟨k,hk,rfl,hrel'⟩:=hrel
  by_cases hlt:k<n
  ·obtain ⟨ad,x,rfl,hc,hr,hd,hx⟩:=h.at_ hlt
   clear hr
   by_cases hN:isNumF x=true
   ·have hG:Hid (allNumF xs=allNumF (xs.drop (k+1))):=by
     show _=_
     rw [hrel'.out,hd.out,allNumF,if_pos hN]
    go_wp2_with (go_at_call 75;refine (impl_IsNumber _ _).mono ?_;rintro e w' ⟨rfl,rfl⟩)
    go_round
    case rel=>exact ⟨k+1,by omega,by go_num,hG⟩
    case measure=>simp [intOf];omega
   ·have hN':isNumF x=false:=by simpa using hN
    have hG:Hid (allNumF xs=false):=by
     show _=_
     rw [hrel'.out,hd.out,allNumF,if_neg hN]
    clear hN
    go_wp2_with (go_at_call 75;refine (impl_IsNumber _ _).mono ?_;rintro e w' ⟨rfl,rfl⟩)
    go_ret
    exact ⟨ret_bool hG.out.symm,rfl⟩
  ·obtain rfl:k=n:=by omega
   have e:=h.drop_end
   go_wp2_with fail
   go_ret
   exact ⟨ret_bool (by rw [hrel'.out,e.out,allNumF]),rfl⟩
end Go.Proofs.YtomgcbfcnjbofaaGreat
/- Tableaus and pairs of them: the statements' helpers, TableauOk and PairOk of both texts. -/
namespace Go.Proofs.YtomgcbfcnjbofaaGreat
open Go.RowKit
set_option linter.unusedSimpArgs false
set_option linter.unusedVariables false
set_option maxRecDepth 20000
structure BlkN (w:World) (g:Nat) (vs:Array Value):Prop where
 h:∃ T,w.heap[g]? = some (.cells vs T (0,0))
section
variable {w w':World} {g lo hi:Nat} {vs:Array Value}
theorem BlkN.lt (h:BlkN w g vs):g<w.heap.size:=by
 obtain ⟨T,h⟩:=h.h
 exact (Array.getElem?_eq_some_iff.1 h).1
theorem BlkN.c (h:BlkN w g vs) (i:Nat) {v:Value} (hv:vs[i]? = some v):w.cell? ⟨g,i,none⟩=some v:=by
 obtain ⟨T,h⟩:=h.h
 rw [cell_of_row w g i vs T (0,0) h];exact hv
theorem BlkN.f (h:BlkN w g vs) (i:Nat):w.frozen? ⟨g,i,none⟩=false:=by
 obtain ⟨T,h⟩:=h.h
 exact frozen_of_row w g i vs T h
theorem BlkN.new (w:World) (vs:Array Value) (T:TypeId):BlkN (w.alloc (.cells vs T)) w.heap.size vs:=⟨T,heap_alloc_new w _⟩
theorem BlkN.same (h:BlkN w g vs) (hs:w'.heap[g]? = w.heap[g]?):BlkN w' g vs:=by
 obtain ⟨T,h⟩:=h.h
 exact ⟨T,hs.trans h⟩
theorem BlkN.below (h:BlkN w g vs) (hb:Below w.heap.size w w'):BlkN w' g vs:=h.same (hb.block g h.lt)
theorem BlkN.drew (h:BlkN w g vs):BlkN w.drew g vs:=h.same rfl
theorem BlkN.touch (h:BlkN w g vs) (ht:Touch lo hi w w') (hd:g<lo∨hi≤g):BlkN w' g vs:=h.same (ht.block g h.lt hd)
theorem BlkN.alloc (h:BlkN w g vs) (o:Obj):BlkN (w.alloc o) g vs:=h.same (Below.heap_alloc _ _ _ h.lt)
theorem BlkN.set (h:BlkN w g vs) (i:Nat) (x:Value):BlkN (w.setCell ⟨g,i,none⟩ x) g (vs.setIfInBounds i x):=by
 obtain ⟨T,hh⟩:=h.h
 exact ⟨T,by simp [World.setCell,Array.getElem?_modify,hh]⟩
theorem BlkN.far (h:BlkN w g vs) {b i:Nat} (hne:g≠b) (x:Value):BlkN (w.setCell ⟨b,i,none⟩ x) g vs:=h.same (Below.heap_setCell _ ⟨b,i,none⟩ _ g hne)
end
def tabOkF (s:Int) (xs ys:List Int):Bool:=(decide (0≤s) && decide (s≤8)) && (decide ((xs.length:Int)=s*s) && (decide ((ys.length:Int)=s) && (allNumF xs && allNumF ys)))
set_option maxHeartbeats 1000000 in
theorem spec_TableauOk (s:Int) (A:Option Addr) (n c:Nat) (xs:List Int) (B:Option Addr) (m d:Nat) (ys:List Int) (lo hi:Nat) (w:World) (h:Ints w lo hi A n c xs) (g:Ints w lo hi B m d ys) (hh:hi≤w.heap.size) :
  Calls Tryz.prog 28 #[.agg #[.int .i64 s,.slice A n c,.slice B m d]] w fun e w'=>e = .returned (.bool (tabOkF s xs ys))∧Below w.heap.size w w':=by
 have hcp:=h.cap
 have hmx:=h.max
 have gcp:=g.cap
 have gmx:=g.max
 have hl:=hide h.len
 have gl:=hide g.len
 have b0:=below_alloc w (.cells #[.int .i64 s,.slice A n c,.slice B m d] 26)
 by_cases hs:0≤s∧s≤8
 ·have hOb:(decide (0≤s) && decide (s≤8))=true:=by simp;omega
  have hT:Hid (tabOkF s xs ys=(decide ((n:Int)=s*s) && (decide ((m:Int)=s) && (allNumF xs && allNumF ys)))):=by
   show _=_
   unfold tabOkF
   rw [hOb,hl.out,gl.out,Bool.true_and]
  obtain ⟨h0,h8⟩:=hs
  obtain ⟨ss,hss,hs0,hs64⟩:∃ ss:Int,s*s=ss∧0≤ss∧ss≤64:=by
   obtain e | e | e | e | e | e | e | e | e:s=0∨s=1∨s=2∨s=3∨s=4∨s=5∨s=6∨s=7∨s=8:=by omega
   all_goals (subst e;exact ⟨_,rfl,by decide,by decide⟩)
  have hw:=IntWalk.i64_in ss (by omega)
  rw [hss] at hT
  by_cases hx:(n:Int)=ss
  ·have hnb:((n:Int) == ss)=true:=by rw [beq_iff_eq];exact hx
   by_cases hy:(m:Int)=s
   ·have hmb:((m:Int) == s)=true:=by rw [beq_iff_eq];exact hy
    have hT2:Hid (tabOkF s xs ys=(allNumF xs && allNumF ys)):=by show _=_;rw [hT.out,decide_eq_true hx,decide_eq_true hy];rfl
    clear hx hy hT
    cases hxA:allNumF xs with
    | true =>
     cases hyA:allNumF ys with
     | true =>
      rw [hxA,hyA] at hT2
      go_enter Tryz.func28,Tryz.ntmps28
      go_wp2_with fail
      refine (spec_l1In _ _ _ _).mono ?_
      rintro e w' ⟨rfl,rfl⟩
      rw [hOb]
      go_wp2_with fail
      refine (spec_l1All A n c xs lo hi _ (h.below (B:=w.heap.size) b0 hh)).mono ?_
      rintro e w' ⟨rfl,rfl⟩
      rw [hxA]
      go_wp2_with fail
      refine (spec_l1All B m d ys lo hi _ (g.below (B:=w.heap.size) b0 hh)).mono ?_
      rintro e w' ⟨rfl,rfl⟩
      rw [hyA]
      go_wp2_with fail
      go_ret
      exact ⟨ret_bool hT2.out.symm,b0⟩
     | false =>
      rw [hxA,hyA] at hT2
      go_enter Tryz.func28,Tryz.ntmps28
      go_wp2_with fail
      refine (spec_l1In _ _ _ _).mono ?_
      rintro e w' ⟨rfl,rfl⟩
      rw [hOb]
      go_wp2_with fail
      refine (spec_l1All A n c xs lo hi _ (h.below (B:=w.heap.size) b0 hh)).mono ?_
      rintro e w' ⟨rfl,rfl⟩
      rw [hxA]
      go_wp2_with fail
      refine (spec_l1All B m d ys lo hi _ (g.below (B:=w.heap.size) b0 hh)).mono ?_
      rintro e w' ⟨rfl,rfl⟩
      rw [hyA]
      go_wp2_with fail
      go_ret
      exact ⟨ret_bool hT2.out.symm,b0⟩
    | false =>
     rw [hxA] at hT2
     go_enter Tryz.func28,Tryz.ntmps28
     go_wp2_with fail
     refine (spec_l1In _ _ _ _).mono ?_
     rintro e w' ⟨rfl,rfl⟩
     rw [hOb]
     go_wp2_with fail
     refine (spec_l1All A n c xs lo hi _ (h.below (B:=w.heap.size) b0 hh)).mono ?_
     rintro e w' ⟨rfl,rfl⟩
     rw [hxA]
     go_wp2_with fail
     go_ret
     exact ⟨ret_bool hT2.out.symm,b0⟩
   ·have hmb:((m:Int) == s)=false:=by rw [beq_eq_false_iff_ne];exact hy
    have hT2:Hid (tabOkF s xs ys=false):=by show _=_;rw [hT.out,decide_eq_true hx,decide_eq_false hy];rfl
    clear hx hy hT
    go_enter Tryz.func28,Tryz.ntmps28
    go_wp2_with fail
    refine (spec_l1In _ _ _ _).mono ?_
    rintro e w' ⟨rfl,rfl⟩
    rw [hOb]
    go_wp2_with fail
    go_ret
    exact ⟨ret_bool hT2.out.symm,b0⟩
  ·have hnb:((n:Int) == ss)=false:=by rw [beq_eq_false_iff_ne];exact hx
   have hT2:Hid (tabOkF s xs ys=false):=by show _=_;rw [hT.out,decide_eq_false hx];rfl
   clear hx hT
   go_enter Tryz.func28,Tryz.ntmps28
   go_wp2_with fail
   refine (spec_l1In _ _ _ _).mono ?_
   rintro e w' ⟨rfl,rfl⟩
   rw [hOb]
   go_wp2_with fail
   go_ret
   exact ⟨ret_bool hT2.out.symm,b0⟩
 ·have hOb:(decide (0≤s) && decide (s≤8))=false:=by
   rw [Bool.eq_false_iff];intro e;simp at e;exact hs e
  have hT2:Hid (tabOkF s xs ys=false):=by show _=_;unfold tabOkF;rw [hOb];rfl
  by_cases h0:0≤s
  all_goals
   (try have h8:8<s:=by omega)
   clear hs
   go_enter Tryz.func28,Tryz.ntmps28
   go_wp2_with fail
   refine (spec_l1In _ _ _ _).mono ?_
   rintro e w' ⟨rfl,rfl⟩
   rw [hOb]
   go_wp2_with fail
   go_ret
   exact ⟨ret_bool hT2.out.symm,b0⟩
set_option maxHeartbeats 1000000 in
theorem impl_TableauOk (s:Int) (A:Option Addr) (n c:Nat) (xs:List Int) (B:Option Addr) (m d:Nat) (ys:List Int) (lo hi:Nat) (w:World) (h:Ints w lo hi A n c xs) (g:Ints w lo hi B m d ys) (hh:hi≤w.heap.size) :
  Calls Tryz.prog 19 #[.agg #[.int .i64 s,.slice A n c,.slice B m d]] w fun e w'=>e = .returned (.bool (tabOkF s xs ys))∧Below w.heap.size w w':=by
 have hcp:=h.cap
 have hmx:=h.max
 have gcp:=g.cap
 have gmx:=g.max
 have hl:=hide h.len
 have gl:=hide g.len
 have b0:=below_alloc w (.cells #[.int .i64 s,.slice A n c,.slice B m d] 26)
 by_cases hs:0≤s∧s≤8
 ·have hOb:(decide (0≤s) && decide (s≤8))=true:=by simp;omega
  have hT:Hid (tabOkF s xs ys=(decide ((n:Int)=s*s) && (decide ((m:Int)=s) && (allNumF xs && allNumF ys)))):=by
   show _=_
   unfold tabOkF
   rw [hOb,hl.out,gl.out,Bool.true_and]
  obtain ⟨h0,h8⟩:=hs
  obtain ⟨ss,hss,hs0,hs64⟩:∃ ss:Int,s*s=ss∧0≤ss∧ss≤64:=by
   obtain e | e | e | e | e | e | e | e | e:s=0∨s=1∨s=2∨s=3∨s=4∨s=5∨s=6∨s=7∨s=8:=by omega
   all_goals (subst e;exact ⟨_,rfl,by decide,by decide⟩)
  have hw:=IntWalk.i64_in ss (by omega)
  rw [hss] at hT
  by_cases hx:(n:Int)=ss
  ·have hnb:((n:Int) == ss)=true:=by rw [beq_iff_eq];exact hx
   by_cases hy:(m:Int)=s
   ·have hmb:((m:Int) == s)=true:=by rw [beq_iff_eq];exact hy
    have hT2:Hid (tabOkF s xs ys=(allNumF xs && allNumF ys)):=by show _=_;rw [hT.out,decide_eq_true hx,decide_eq_true hy];rfl
    clear hx hy hT
    cases hxA:allNumF xs with
    | true =>
     cases hyA:allNumF ys with
     | true =>
      rw [hxA,hyA] at hT2
      go_enter Tryz.func19,Tryz.ntmps19
      go_wp2_with fail
      refine (impl_allNumbers A n c xs lo hi _ (h.below (B:=w.heap.size) b0 hh)).mono ?_
      rintro e w' ⟨rfl,rfl⟩
      rw [hxA]
      go_wp2_with fail
      refine (impl_allNumbers B m d ys lo hi _ (g.below (B:=w.heap.size) b0 hh)).mono ?_
      rintro e w' ⟨rfl,rfl⟩
      rw [hyA]
      go_wp2_with fail
      go_ret
      exact ⟨ret_bool hT2.out.symm,b0⟩
     | false =>
      rw [hxA,hyA] at hT2
      go_enter Tryz.func19,Tryz.ntmps19
      go_wp2_with fail
      refine (impl_allNumbers A n c xs lo hi _ (h.below (B:=w.heap.size) b0 hh)).mono ?_
      rintro e w' ⟨rfl,rfl⟩
      rw [hxA]
      go_wp2_with fail
      refine (impl_allNumbers B m d ys lo hi _ (g.below (B:=w.heap.size) b0 hh)).mono ?_
      rintro e w' ⟨rfl,rfl⟩
      rw [hyA]
      go_wp2_with fail
      go_ret
      exact ⟨ret_bool hT2.out.symm,b0⟩
    | false =>
     rw [hxA] at hT2
     go_enter Tryz.func19,Tryz.ntmps19
     go_wp2_with fail
     refine (impl_allNumbers A n c xs lo hi _ (h.below (B:=w.heap.size) b0 hh)).mono ?_
     rintro e w' ⟨rfl,rfl⟩
     rw [hxA]
     go_wp2_with fail
     go_ret
     exact ⟨ret_bool hT2.out.symm,b0⟩
   ·have hmb:((m:Int) == s)=false:=by rw [beq_eq_false_iff_ne];exact hy
    have hT2:Hid (tabOkF s xs ys=false):=by show _=_;rw [hT.out,decide_eq_true hx,decide_eq_false hy];rfl
    clear hx hy hT
    go_enter Tryz.func19,Tryz.ntmps19
    go_wp2_with fail
    go_ret
    exact ⟨ret_bool hT2.out.symm,b0⟩
  ·have hnb:((n:Int) == ss)=false:=by rw [beq_eq_false_iff_ne];exact hx
   have hT2:Hid (tabOkF s xs ys=false):=by show _=_;rw [hT.out,decide_eq_false hx];rfl
   clear hx hT
   go_enter Tryz.func19,Tryz.ntmps19
   go_wp2_with fail
   go_ret
   exact ⟨ret_bool hT2.out.symm,b0⟩
 ·have hOb:(decide (0≤s) && decide (s≤8))=false:=by
   rw [Bool.eq_false_iff];intro e;simp at e;exact hs e
  have hT2:Hid (tabOkF s xs ys=false):=by show _=_;unfold tabOkF;rw [hOb];rfl
  by_cases h0:0≤s
  all_goals
   (try have h8:8<s:=by omega)
   clear hs
   go_enter Tryz.func19,Tryz.ntmps19
   go_wp2_with fail
   go_ret
   exact ⟨ret_bool hT2.out.symm,b0⟩
end Go.Proofs.YtomgcbfcnjbofaaGreat
/- Pairs of tableaus: the statements' helpers, PairOk of both texts. -/
namespace Go.Proofs.YtomgcbfcnjbofaaGreat
open Go.RowKit
set_option linter.unusedSimpArgs false
set_option linter.unusedVariables false
set_option maxRecDepth 20000
def pairOkF (s:Int) (xs ys:List Int) (s':Int) (xs' ys':List Int):Bool:=tabOkF s xs ys && (tabOkF s' xs' ys' && (s == s'))
set_option maxHeartbeats 1000000 in
theorem impl_PairOk (s:Int) (A:Option Addr) (n c:Nat) (xs:List Int) (B:Option Addr) (m d:Nat) (ys:List Int) (s':Int) (A':Option Addr) (n' c':Nat) (xs':List Int) (B':Option Addr) (m' d':Nat) (ys':List Int) (lo hi:Nat) (w:World) (h:Ints w lo hi A n c xs) (g:Ints w lo hi B m d ys) (h':Ints w lo hi A' n' c' xs') (g':Ints w lo hi B' m' d' ys') (hh:hi≤w.heap.size) :
  Calls Tryz.prog 33 #[.agg #[.int .i64 s,.slice A n c,.slice B m d,.int .i64 s',.slice A' n' c',.slice B' m' d']] w fun e w'=>e = .returned (.bool (pairOkF s xs ys s' xs' ys'))∧Below w.heap.size w w':=by
 have a1:=below_alloc w (.cells #[.int .i64 s,.slice A n c,.slice B m d,.int .i64 s',.slice A' n' c',.slice B' m' d'] 30)
 have j1:=BlkN.new w #[.int .i64 s,.slice A n c,.slice B m d,.int .i64 s',.slice A' n' c',.slice B' m' d'] 30
 have z0:=a1.size
 have h1:=h.below a1 hh
 have g1:=g.below a1 hh
 go_enter Tryz.func33,Tryz.ntmps33
 go_wp2_with fail
 generalize World.alloc w (.cells #[.int .i64 s,.slice A n c,.slice B m d,.int .i64 s',.slice A' n' c',.slice B' m' d'] 30)=W at a1 j1 z0 h1 g1 ⊢
 refine (impl_TableauOk s A n c xs B m d ys lo hi W h1 g1 (by omega)).mono ?_
 rintro e w1 ⟨rfl,b1⟩
 have k1:=j1.below b1
 have B1:=a1.trans (b1.mono z0)
 have z1:=B1.size
 cases hA:tabOkF s xs ys with
 | false =>
  have hF:Hid (pairOkF s xs ys s' xs' ys'=false):=by show _=_;unfold pairOkF;rw [hA];rfl
  clear hA k1 j1
  go_wp2_with fail
  go_ret
  exact ⟨ret_bool hF.out.symm,B1⟩
 | true =>
  have hF:Hid (pairOkF s xs ys s' xs' ys'=(tabOkF s' xs' ys' && (s == s'))):=by show _=_;unfold pairOkF;rw [hA];rfl
  have p3:=k1.c 3 rfl
  have p4:=k1.c 4 rfl
  have p5:=k1.c 5 rfl
  clear hA
  go_wp2_with fail
  clear p3 p4 p5
  refine (impl_TableauOk s' A' n' c' xs' B' m' d' ys' lo hi w1 (h'.below B1 hh) (g'.below B1 hh) (by omega)).mono ?_
  rintro e w2 ⟨rfl,b2⟩
  have l1:=k1.below b2
  have B2:=B1.trans (b2.mono z1)
  have p0:=l1.c 0 rfl
  have p3:=l1.c 3 rfl
  clear k1 j1 l1
  cases hB:tabOkF s' xs' ys' with
  | false =>
   rw [hB] at hF
   clear hB
   go_wp2_with fail
   go_ret
   exact ⟨ret_bool hF.out.symm,B2⟩
  | true =>
   rw [hB,Bool.true_and] at hF
   clear hB
   go_wp2_with fail
   go_ret
   exact ⟨ret_bool hF.out.symm,B2⟩
end Go.Proofs.YtomgcbfcnjbofaaGreat
