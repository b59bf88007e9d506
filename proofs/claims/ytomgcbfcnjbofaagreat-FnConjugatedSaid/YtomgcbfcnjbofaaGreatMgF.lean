/- Slices of slices of integers: what they read as, and the statements' helpers on them. -/
import Derived.Test.YtomgcbfcnjbofaaGreatMgB
import Derived.Test.YtomgcbfcnjbofaaGreatMgA
namespace Go.Proofs.YtomgcbfcnjbofaaGreat
open Go.RowKit
set_option linter.unusedSimpArgs false
set_option linter.unusedVariables false
set_option maxRecDepth 20000
structure Ints2 (w:World) (lo hi:Nat) (A:Option Addr) (n c:Nat) (xss:List (List Int)):Prop where
 len:xss.length=n
 cap:n≤c
 max:c≤9223372036854775807
 cells:0<n→∃ ad,A=some ad∧lo≤ad.block∧ad.block<hi∧∀ j xs,xss[j]? = some xs→∃ B m d,w.cell? (ad.add j)=some (.slice B m d)∧Ints w lo hi B m d xs
section
variable {w w':World} {lo hi:Nat} {A:Option Addr} {n c:Nat} {xss:List (List Int)}
theorem Ints2.at_ (h:Ints2 w lo hi A n c xss) {k:Nat} (hk:k<n) :
  ∃ ad B m d xs,A=some ad∧w.cell? (ad.add k)=some (.slice B m d)∧Ints w lo hi B m d xs∧Hid (xss.drop k=xs :: xss.drop (k+1))∧Hid (xss[k]? = some xs):=by
 obtain ⟨ad,e,_,_,hc⟩:=h.cells (by omega)
 have hl:k<xss.length:=by have:=h.len;omega
 obtain ⟨B,m,d,h1,h2⟩:=hc k _ (List.getElem?_eq_getElem hl)
 exact ⟨ad,B,m,d,_,e,h1,h2,List.drop_eq_getElem_cons hl,List.getElem?_eq_getElem hl⟩
theorem Ints2.same (h:Ints2 w lo hi A n c xss) (hs:Same lo hi w w'):Ints2 w' lo hi A n c xss :=
 ⟨h.len,h.cap,h.max,fun hn=>by
  obtain ⟨ad,e,h1,h2,hc⟩:=h.cells hn
  refine ⟨ad,e,h1,h2,fun j xs hx=>?_⟩
  obtain ⟨B,m,d,h3,h4⟩:=hc j xs hx
  exact ⟨B,m,d,(hs.cell (by rw [block_of_add];exact h1) (by rw [block_of_add];exact h2)).trans h3,h4.same hs⟩⟩
theorem Ints2.below {B:Nat} (h:Ints2 w lo hi A n c xss) (hb:Below B w w') (hB:hi≤B):Ints2 w' lo hi A n c xss:=h.same (.of_below hb hB)
theorem Ints2.drop_end (h:Ints2 w lo hi A n c xss):Hid (xss.drop n=[]):=List.drop_eq_nil_of_le (Nat.le_of_eq h.len)
end
theorem info_ints:(Tryz.prog.info? 24).map (fun i=>(i.zero,i.size,i.bytes))=some (some (.slice none 0 0),1,24):=by kernel_rfl
end Go.Proofs.YtomgcbfcnjbofaaGreat
/- Paths: whether they are well formed; the walks. -/
namespace Go.Proofs.YtomgcbfcnjbofaaGreat
open Go.RowKit
set_option linter.unusedSimpArgs false
set_option linter.unusedVariables false
set_option maxRecDepth 20000
def pathGo (dim:Int):List (List Int)→Bool
 | []=>true
 | xs :: r=>if (decide ((xs.length:Int)=dim) && allNumF xs)=true then pathGo dim r else false
def pathOkF (xss:List (List Int)) (dim:Int):Bool:=(decide (1≤xss.length) && decide (xss.length≤7)) && pathGo dim xss
section
variable {xss:List (List Int)} {dim:Int} {k:Nat} {xs:List Int}
theorem pathGo_step (hd:xss.drop k=xs :: xss.drop (k+1)) (h1:(xs.length:Int)=dim) (h2:allNumF xs=true):pathGo dim (xss.drop k)=pathGo dim (xss.drop (k+1)):=by
 rw [hd,pathGo,if_pos (by rw [decide_eq_true h1,h2];rfl)]
theorem pathGo_no1 (hd:xss.drop k=xs :: xss.drop (k+1)) (h1:¬ (xs.length:Int)=dim):pathGo dim (xss.drop k)=false:=by
 rw [hd,pathGo,if_neg (by rw [decide_eq_false h1];simp)]
theorem pathGo_no2 (hd:xss.drop k=xs :: xss.drop (k+1)) (h2:allNumF xs=false):pathGo dim (xss.drop k)=false:=by
 rw [hd,pathGo,if_neg (by rw [h2];simp)]
end
set_option maxHeartbeats 400000 in
theorem impl_PathOk (A:Option Addr) (n c:Nat) (xss:List (List Int)) (lo hi:Nat) (dim:Int) (w:World) (h:Ints2 w lo hi A n c xss) :
  Calls Tryz.prog 50 #[.slice A n c,.int .i64 dim] w fun e w'=>e = .returned (.bool (pathOkF xss dim))∧w=w':=by
 have hcp:=h.cap
 have hm:=h.max
 by_cases h0:n=0
 ·have hF:Hid (pathOkF xss dim=false):=by show _=_;unfold pathOkF;rw [h.len,h0];rfl
  subst h0
  go_enter Tryz.func50,Tryz.ntmps50
  go_wp2_with fail
  go_ret
  exact ⟨ret_bool hF.out.symm,rfl⟩
 ·by_cases h7:7<n
  ·have hF:Hid (pathOkF xss dim=false):=by show _=_;unfold pathOkF;rw [h.len,decide_eq_false (by omega:¬ n≤7),Bool.and_false];rfl
   go_enter Tryz.func50,Tryz.ntmps50
   go_wp2_with fail
   go_ret
   exact ⟨ret_bool hF.out.symm,rfl⟩
  ·have hF:Hid (pathOkF xss dim=pathGo dim (xss.drop 0)):=by show _=_;unfold pathOkF;rw [h.len,decide_eq_true (by omega:n≤7),decide_eq_true (by omega:1≤n)];rfl
   have h00:((n:Int) == 0)=false:=by simpa using h0
   have h07:¬ (7<(n:Int)):=by omega
   go_enter Tryz.func50,Tryz.ntmps50
   go_wp2_with fail
   go_loop [6,17] (fun _ i=>∃ (k:Nat),k≤n∧i = .int .i64 k∧Hid (pathOkF xss dim=pathGo dim (xss.drop k))) (fun _ i=>n - (intOf i).toNat)
   case atStart=>exact ⟨0,by omega,rfl,hF⟩
   case round =>
    obtain ⟨k,hk,rfl,hr⟩:=hrel
    by_cases hlt:k<n
    ·obtain ⟨ad,B,m,d,xs,rfl,hc,hi1,hd,hx⟩:=h.at_ hlt
     have hA:=hide (impl_allNumbers B m d xs lo hi w hi1)
     have hml:=hide hi1.len
     have hcm:=hi1.cap
     have hmm:=hi1.max
     by_cases hdim:(m:Int)=dim
     ·have hdim2:=hide hdim
      cases hv:allNumF xs with
      | true =>
       rw [hv] at hA
       have hG:Hid (pathOkF xss dim=pathGo dim (xss.drop (k+1))):=hr.out.trans (pathGo_step hd.out (by rw [hml.out];exact hdim) hv)
       clear hv
       subst hdim
       go_wp2_with fail
       refine hA.out.mono ?_
       rintro e w' ⟨rfl,rfl⟩
       go_wp2_with fail
       go_round
       case rel=>exact ⟨k+1,by omega,by go_num,hG⟩
       case measure=>simp [intOf];omega
      | false =>
       rw [hv] at hA
       have hG:Hid (pathOkF xss dim=false):=hr.out.trans (pathGo_no2 hd.out hv)
       clear hv
       subst hdim
       go_wp2_with fail
       refine hA.out.mono ?_
       rintro e w' ⟨rfl,rfl⟩
       go_wp2_with fail
       go_ret
       exact ⟨ret_bool hG.out.symm,rfl⟩
     ·have hG:Hid (pathOkF xss dim=false):=hr.out.trans (pathGo_no1 hd.out (by rw [hml.out];exact hdim))
      have hne:((m:Int) != dim)=true:=by simpa using hdim
      go_wp2_with fail
      go_ret
      exact ⟨ret_bool hG.out.symm,rfl⟩
    ·obtain rfl:k=n:=by omega
     have e:=h.drop_end
     have hG:Hid (pathOkF xss dim=true):=by show _=_;rw [hr.out,e.out,pathGo]
     go_wp2_with fail
     go_ret
     exact ⟨ret_bool hG.out.symm,rfl⟩
end Go.Proofs.YtomgcbfcnjbofaaGreat
/- Monomials, polynomials and fields: what they read as, and the statements' helpers on them. -/
namespace Go.Proofs.YtomgcbfcnjbofaaGreat
open Go.RowKit
set_option linter.unusedSimpArgs false
set_option linter.unusedVariables false
set_option maxRecDepth 20000
abbrev Mono:=Int×List Int
structure Mons (w:World) (lo hi:Nat) (A:Option Addr) (n c:Nat) (ms:List Mono):Prop where
 len:ms.length=n
 cap:n≤c
 max:c≤9223372036854775807
 cells:0<n→∃ ad,A=some ad∧lo≤ad.block∧ad.block<hi∧∀ j m,ms[j]? = some m→w.cell? (ad.add (j*2))=some (.int .i64 m.1)∧R64 m.1∧∃ B k d,w.cell? ⟨(ad.add (j*2)).block,(ad.add (j*2)).off+1,none⟩=some (.slice B k d)∧Ints w lo hi B k d m.2
structure Mons2 (w:World) (lo hi:Nat) (A:Option Addr) (n c:Nat) (ps:List (List Mono)):Prop where
 len:ps.length=n
 cap:n≤c
 max:c≤9223372036854775807
 cells:0<n→∃ ad,A=some ad∧lo≤ad.block∧ad.block<hi∧∀ j ms,ps[j]? = some ms→∃ B m d,w.cell? (ad.add j)=some (.slice B m d)∧Mons w lo hi B m d ms
section
variable {w w':World} {lo hi:Nat} {A:Option Addr} {n c:Nat} {ms:List Mono} {ps:List (List Mono)}
theorem Mons.at_ (h:Mons w lo hi A n c ms) {k:Nat} (hk:k<n) :
  ∃ ad x B m d xs,A=some ad∧w.cell? (ad.add (k*2))=some (.int .i64 x)∧w.cell? ⟨(ad.add (k*2)).block,(ad.add (k*2)).off+1,none⟩=some (.slice B m d)∧R64 x∧Ints w lo hi B m d xs∧Hid (ms.drop k=(x,xs) :: ms.drop (k+1))∧Hid (ms[k]? = some (x,xs)):=by
 obtain ⟨ad,e,_,_,hc⟩:=h.cells (by omega)
 have hl:k<ms.length:=by have:=h.len;omega
 obtain ⟨h1,h2,B,m,d,h3,h4⟩:=hc k _ (List.getElem?_eq_getElem hl)
 exact ⟨ad,_,B,m,d,_,e,h1,h3,h2,h4,List.drop_eq_getElem_cons hl,List.getElem?_eq_getElem hl⟩
theorem Mons.same (h:Mons w lo hi A n c ms) (hs:Same lo hi w w'):Mons w' lo hi A n c ms :=
 ⟨h.len,h.cap,h.max,fun hn=>by
  obtain ⟨ad,e,h1,h2,hc⟩:=h.cells hn
  refine ⟨ad,e,h1,h2,fun j m hm=>?_⟩
  obtain ⟨h3,h4,B,k,d,h5,h6⟩:=hc j m hm
  exact ⟨(hs.cell (by rw [block_of_add];exact h1) (by rw [block_of_add];exact h2)).trans h3,h4,B,k,d,(hs.cell (p:=⟨(ad.add (j*2)).block,(ad.add (j*2)).off+1,none⟩) (by show lo≤(ad.add (j*2)).block;rw [block_of_add];exact h1) (by show (ad.add (j*2)).block<hi;rw [block_of_add];exact h2)).trans h5,h6.same hs⟩⟩
theorem Mons.below {B:Nat} (h:Mons w lo hi A n c ms) (hb:Below B w w') (hB:hi≤B):Mons w' lo hi A n c ms:=h.same (.of_below hb hB)
theorem Mons.wide {lo' hi':Nat} (h:Mons w lo hi A n c ms) (h1:lo'≤lo) (h2:hi≤hi'):Mons w lo' hi' A n c ms :=
 ⟨h.len,h.cap,h.max,fun hn=>by
  obtain ⟨ad,e,h3,h4,hc⟩:=h.cells hn
  refine ⟨ad,e,by omega,by omega,fun j m hm=>?_⟩
  obtain ⟨h3,h4,B,k,d,h5,h6⟩:=hc j m hm
  exact ⟨h3,h4,B,k,d,h5,h6.wide h1 h2⟩⟩
theorem Mons.drop_end (h:Mons w lo hi A n c ms):Hid (ms.drop n=[]):=List.drop_eq_nil_of_le (Nat.le_of_eq h.len)
theorem Mons2.at_ (h:Mons2 w lo hi A n c ps) {k:Nat} (hk:k<n) :
  ∃ ad B m d ms,A=some ad∧w.cell? (ad.add k)=some (.slice B m d)∧Mons w lo hi B m d ms∧Hid (ps.drop k=ms :: ps.drop (k+1))∧Hid (ps[k]? = some ms):=by
 obtain ⟨ad,e,_,_,hc⟩:=h.cells (by omega)
 have hl:k<ps.length:=by have:=h.len;omega
 obtain ⟨B,m,d,h1,h2⟩:=hc k _ (List.getElem?_eq_getElem hl)
 exact ⟨ad,B,m,d,_,e,h1,h2,List.drop_eq_getElem_cons hl,List.getElem?_eq_getElem hl⟩
theorem Mons2.same (h:Mons2 w lo hi A n c ps) (hs:Same lo hi w w'):Mons2 w' lo hi A n c ps :=
 ⟨h.len,h.cap,h.max,fun hn=>by
  obtain ⟨ad,e,h1,h2,hc⟩:=h.cells hn
  refine ⟨ad,e,h1,h2,fun j xs hx=>?_⟩
  obtain ⟨B,m,d,h3,h4⟩:=hc j xs hx
  exact ⟨B,m,d,(hs.cell (by rw [block_of_add];exact h1) (by rw [block_of_add];exact h2)).trans h3,h4.same hs⟩⟩
theorem Mons2.below {B:Nat} (h:Mons2 w lo hi A n c ps) (hb:Below B w w') (hB:hi≤B):Mons2 w' lo hi A n c ps:=h.same (.of_below hb hB)
theorem Mons2.wide {lo' hi':Nat} (h:Mons2 w lo hi A n c ps) (h1:lo'≤lo) (h2:hi≤hi'):Mons2 w lo' hi' A n c ps :=
 ⟨h.len,h.cap,h.max,fun hn=>by
  obtain ⟨ad,e,h3,h4,hc⟩:=h.cells hn
  refine ⟨ad,e,by omega,by omega,fun j m hm=>?_⟩
  obtain ⟨B,k,d,h5,h6⟩:=hc j m hm
  exact ⟨B,k,d,h5,h6.wide h1 h2⟩⟩
theorem Mons2.drop_end (h:Mons2 w lo hi A n c ps):Hid (ps.drop n=[]):=List.drop_eq_nil_of_le (Nat.le_of_eq h.len)
end
end Go.Proofs.YtomgcbfcnjbofaaGreat
/- Polynomials and fields: copies and comparisons. -/
namespace Go.Proofs.YtomgcbfcnjbofaaGreat
open Go.RowKit
set_option linter.unusedSimpArgs false
set_option linter.unusedVariables false
set_option maxRecDepth 20000
theorem info_mono:(Tryz.prog.info? 67).map (fun i=>(i.zero,i.size,i.bytes))=some (some (.agg #[.int .i64 0,.slice none 0 0]),2,32):=by kernel_rfl
end Go.Proofs.YtomgcbfcnjbofaaGreat
/- Polynomials: whether they are well formed; the plain law and small walks. -/
namespace Go.Proofs.YtomgcbfcnjbofaaGreat
open Go.RowKit
set_option linter.unusedSimpArgs false
set_option linter.unusedVariables false
set_option maxRecDepth 20000
def cmpI (a b:Int):Int:=if a<b then -1 else if b<a then 1 else 0
def cmpF:List Int→List Int→Int
 | [],[]=>0
 | [],_ :: _ => -1
 | _ :: _,[]=>1
 | a :: x,b :: y=>if cmpI a b≠0 then cmpI a b else cmpF x y
def lessF:List Int→List Int→Bool
 | _,[]=>false
 | [],_ :: _=>true
 | a :: x,b :: y=>if a≠b then decide (a<b) else lessF x y
theorem cmp_less:∀ (q p:List Int),decide (cmpF q p≤0) = !lessF p q
 | [],[]=>rfl
 | [],_ :: _=>rfl
 | _ :: _,[]=>rfl
 | a :: x,b :: y=>by
  rw [cmpF,lessF]
  unfold cmpI
  by_cases h:a<b
  ·rw [if_pos h,if_pos (by omega),if_pos (by omega),decide_eq_false (by omega:¬ b<a)];rfl
  ·rw [if_neg h]
   by_cases h2:b<a
   ·rw [if_pos h2,if_pos (by omega),if_pos (by omega),decide_eq_true h2];rfl
   ·rw [if_neg h2,if_neg (by omega),if_neg (by omega)]
    exact cmp_less x y
def degGo:Int→List Int→Int
 | s,[]=>s
 | s,p :: r=>if p<0∨5<p then -1 else degGo (s+p) r
theorem degGo_bd:∀ (l:List Int) (s:Int),0≤s → -1≤degGo s l∧degGo s l≤s+5*l.length
 | [],s,h=>by unfold degGo;simp;omega
 | p :: r,s,h=>by
  rw [degGo]
  split
  ·simp only [List.length_cons];omega
  ·have:=degGo_bd r (s+p) (by omega)
   simp only [List.length_cons];omega
def pless:Option (List Int)→List Int→Bool
 | none,_=>true
 | some q,xs=>lessF xs q
def monoOk (dim:Int) (prev:Option (List Int)) (m:Mono):Bool :=
 !(m.1 == 0) && isNumF m.1 && decide ((m.2.length:Int)=dim) && decide (0≤degGo 0 m.2) && decide (degGo 0 m.2≤5) && pless prev m.2
def polyGo (dim:Int):Option (List Int)→List Mono→Bool
 | _,[]=>true
 | prev,m :: r=>if monoOk dim prev m=true then polyGo dim (some m.2) r else false
def polyF (ms:List Mono) (dim:Int):Bool:=(decide (1≤dim) && decide (dim≤6)) && decide (ms.length≤12) && polyGo dim none ms
def fieldGo (dim:Int):List (List Mono)→Bool
 | []=>true
 | p :: r=>if polyF p dim=true then fieldGo dim r else false
def fieldF (dim:Int) (ps:List (List Mono)):Bool:=(decide (1≤dim) && decide (dim≤6)) && decide ((ps.length:Int)=dim) && fieldGo dim ps
theorem impl_isDim (d:Int) (w:World) :
  Calls Tryz.prog 73 #[.int .i64 d] w fun e w'=>e = .returned (.bool (decide (1≤d) && decide (d≤6)))∧w=w':=by
 by_cases h0:1≤d
 ·by_cases h1:d≤6
  ·go_enter Tryz.func73,Tryz.ntmps73
   go_wp2_with fail
   go_ret
   exact ⟨by simp [h0,h1],rfl⟩
  ·go_enter Tryz.func73,Tryz.ntmps73
   go_wp2_with fail
   go_ret
   exact ⟨by simp [h1],rfl⟩
 ·go_enter Tryz.func73,Tryz.ntmps73
  go_wp2_with fail
  go_ret
  exact ⟨ret_bool (by simp;omega),rfl⟩
theorem cmp_Compare (a b:Int) (w:World) :
  Calls Tryz.prog 102 #[.int .i64 a,.int .i64 b] w fun e w'=>e = .returned (.int .i64 (cmpI a b))∧w=w':=by
 by_cases h:a<b
 ·have hF:Hid (cmpI a b = -1):=if_pos h
  go_enter Tryz.func102,Tryz.ntmps102
  go_wp2
  go_ret
  exact ⟨ret_int hF.out.symm,rfl⟩
 ·by_cases h2:b<a
  ·have hF:Hid (cmpI a b=1):=by show _=_;rw [cmpI,if_neg h,if_pos h2]
   go_enter Tryz.func102,Tryz.ntmps102
   go_wp2
   go_ret
   exact ⟨ret_int hF.out.symm,rfl⟩
  ·have hF:Hid (cmpI a b=0):=by show _=_;rw [cmpI,if_neg h,if_neg h2]
   go_enter Tryz.func102,Tryz.ntmps102
   go_wp2
   go_ret
   exact ⟨ret_int hF.out.symm,rfl⟩
set_option maxHeartbeats 1000000 in
theorem slices_Compare (A:Option Addr) (n c:Nat) (xs:List Int) (lo hi:Nat) (B:Option Addr) (m d:Nat) (ys:List Int) (lo' hi':Nat) (w:World) (h:Ints w lo hi A n c xs) (g:Ints w lo' hi' B m d ys) :
  Calls Tryz.prog 76 #[.slice A n c,.slice B m d] w fun e w'=>e = .returned (.int .i64 (cmpF xs ys))∧w=w':=by
 have hcp:=h.cap
 have hm:=h.max
 have gcp:=g.cap
 have gm:=g.max
 go_enter Tryz.func76,Tryz.ntmps76
 go_wp2_with fail
 go_loop [5,6,7,8,11] (fun _ _ _ _ i=>∃ (k:Nat),k≤n∧k≤m∧i = .int .i64 k∧Hid (cmpF xs ys=cmpF (xs.drop k) (ys.drop k))) (fun _ _ _ _ i=>n - (intOf i).toNat)
 case atStart=>exact ⟨0,by omega,by omega,rfl,rfl⟩
 case round =>
  obtain ⟨k,hk,hkm,rfl,hr⟩:=hrel
  by_cases hlt:k<n
  ·obtain ⟨ad,x,rfl,hc,hxr,hdx,_⟩:=h.at_ hlt
   by_cases hlt2:k<m
   ·obtain ⟨ae,y,rfl,hd,hyr,hdy,_⟩:=g.at_ hlt2
    have hC:=hide (cmp_Compare x y w)
    have hst:Hid (cmpF xs ys=if cmpI x y≠0 then cmpI x y else cmpF (xs.drop (k+1)) (ys.drop (k+1))):=by show _=_;rw [hr.out,hdx.out,hdy.out,cmpF]
    obtain ⟨z,hz⟩:∃ z,cmpI x y=z:=⟨_,rfl⟩
    rw [hz] at hC hst
    clear hz hxr hyr
    by_cases h0:z=0
    ·have hst2:Hid (cmpF xs ys=cmpF (xs.drop (k+1)) (ys.drop (k+1))):=hst.out.trans (if_neg (by omega))
     subst h0
     go_wp2_with fail
     refine hC.out.mono ?_
     rintro e w' ⟨rfl,rfl⟩
     go_wp2_with fail
     go_round
     case rel=>exact ⟨k+1,by omega,by omega,by go_num,hst2⟩
     case measure=>simp [intOf];omega
    ·have hst2:Hid (cmpF xs ys=z):=hst.out.trans (if_pos h0)
     have hz0:(z != 0)=true:=by simpa using h0
     go_wp2_with fail
     refine hC.out.mono ?_
     rintro e w' ⟨rfl,rfl⟩
     go_wp2_with fail
     go_ret
     exact ⟨ret_int hst2.out.symm,rfl⟩
   ·obtain rfl:k=m:=by omega
    have e:=g.drop_end
    have hst2:Hid (cmpF xs ys=1):=by show _=_;rw [hr.out,hdx.out,e.out,cmpF]
    go_wp2_with fail
    go_ret
    exact ⟨ret_int hst2.out.symm,rfl⟩
  ·obtain rfl:k=n:=by omega
   have e:=h.drop_end
   by_cases hlt2:k<m
   ·obtain ⟨ae,y,rfl,_,_,hdy,_⟩:=g.at_ hlt2
    have hst2:Hid (cmpF xs ys = -1):=by show _=_;rw [hr.out,hdy.out,e.out,cmpF]
    go_wp2_with fail
    go_ret
    exact ⟨ret_int hst2.out.symm,rfl⟩
   ·obtain rfl:k=m:=by omega
    have e2:=g.drop_end
    have hst2:Hid (cmpF xs ys=0):=by show _=_;rw [hr.out,e.out,e2.out,cmpF]
    go_wp2_with fail
    go_ret
    exact ⟨ret_int hst2.out.symm,rfl⟩
set_option maxHeartbeats 1000000 in
theorem spec_l2Less (A:Option Addr) (n c:Nat) (xs:List Int) (lo hi:Nat) (B:Option Addr) (m d:Nat) (ys:List Int) (lo' hi':Nat) (w:World) (h:Ints w lo hi A n c xs) (g:Ints w lo' hi' B m d ys) :
  Calls Tryz.prog 101 #[.slice A n c,.slice B m d] w fun e w'=>e = .returned (.bool (lessF xs ys))∧∃ q,w'=w.drewN q:=by
 have hcp:=h.cap
 have hm:=h.max
 have gcp:=g.cap
 have gm:=g.max
 go_enter Tryz.func101,Tryz.ntmps101
 go_wp2_with fail
 go_loopw [5] (fun i wr=>∃ (k q:Nat),k≤n∧k≤m∧i = .int .i64 k∧wr=w.drewN q∧Hid (lessF xs ys=lessF (xs.drop k) (ys.drop k))) (fun i _=>n - (intOf i).toNat)
 case atStart=>exact ⟨0,0,by omega,by omega,rfl,rfl,rfl⟩
 case round =>
  obtain ⟨k,q,hk,hkm,rfl,rfl,hr⟩:=hrel
  by_cases hlt:k<n
  ·obtain ⟨ad,x,rfl,hc,hxr,hdx,_⟩:=h.at_ hlt
   by_cases hlt2:k<m
   ·obtain ⟨ae,y,rfl,hd,hyr,hdy,_⟩:=g.at_ hlt2
    have hst:Hid (lessF xs ys=if x≠y then decide (x<y) else lessF (xs.drop (k+1)) (ys.drop (k+1))):=by show _=_;rw [hr.out,hdx.out,hdy.out,lessF]
    by_cases h0:x=y
    ·have hst2:Hid (lessF xs ys=lessF (xs.drop (k+1)) (ys.drop (k+1))):=hst.out.trans (if_neg (by simpa using h0))
     subst h0
     go_wp2_with fail
     go_quiet (fail)
     go_wp2_with fail
     go_roundw
     case rel=>exact ⟨k+1,_,by omega,by omega,by go_num,rfl,hst2⟩
     case measure=>simp [intOf];omega
    ·have hst2:Hid (lessF xs ys=decide (x<y)):=hst.out.trans (if_pos h0)
     have hne:(x != y)=true:=by simpa using h0
     go_wp2_with fail
     go_quiet (fail)
     go_wp2_with fail
     go_quiet (fail)
     go_wp2_with fail
     go_ret
     exact ⟨ret_bool hst2.out.symm,_,(World.drewN_drewN _ _ _).trans (World.drewN_drewN _ _ _)⟩
   ·obtain rfl:k=m:=by omega
    have e:=g.drop_end
    have hst2:Hid (lessF xs ys=false):=by show _=_;rw [hr.out,hdx.out,e.out,lessF]
    go_wp2_with fail
    go_ret
    exact ⟨ret_bool (by first | exact hst2.out.symm | (rw [hst2.out];done) | (rw [hst2.out];simp;done) | (rw [hst2.out];simp;omega)),_,rfl⟩
  ·obtain rfl:k=n:=by omega
   have e:=h.drop_end
   by_cases hlt2:k<m
   ·obtain ⟨ae,y,rfl,_,_,hdy,_⟩:=g.at_ hlt2
    have hst2:Hid (lessF xs ys=true):=by show _=_;rw [hr.out,hdy.out,e.out,lessF]
    go_wp2_with fail
    go_ret
    exact ⟨ret_bool (by first | exact hst2.out.symm | (rw [hst2.out];done) | (rw [hst2.out];simp;done) | (rw [hst2.out];simp;omega)),_,rfl⟩
   ·obtain rfl:k=m:=by omega
    have e2:=g.drop_end
    have hst2:Hid (lessF xs ys=false):=by show _=_;rw [hr.out,e.out,e2.out,lessF]
    go_wp2_with fail
    go_ret
    exact ⟨ret_bool (by first | exact hst2.out.symm | (rw [hst2.out];done) | (rw [hst2.out];simp;done) | (rw [hst2.out];simp;omega)),_,rfl⟩
set_option maxHeartbeats 1000000 in
theorem impl_degree (A:Option Addr) (n c:Nat) (xs:List Int) (lo hi:Nat) (w:World) (h:Ints w lo hi A n c xs) (hn:n≤1048576) :
  Calls Tryz.prog 74 #[.slice A n c] w fun e w'=>e = .returned (.int .i64 (degGo 0 xs))∧w=w':=by
 have hcp:=h.cap
 have hm:=h.max
 go_enter Tryz.func74,Tryz.ntmps74
 go_wp2_with fail
 go_loop [3,5,8] (fun s _ i=>∃ (k:Nat) (r:Int),k≤n∧i = .int .i64 k∧s = .int .i64 r∧0≤r∧r≤5*(k:Int)∧Hid (degGo 0 xs=degGo r (xs.drop k))) (fun _ _ i=>n - (intOf i).toNat)
 case atStart=>exact ⟨0,0,by omega,rfl,rfl,by omega,by omega,rfl⟩
 case round =>
  obtain ⟨k,r,hk,rfl,rfl,hr0,hr1,hr⟩:=hrel
  by_cases hlt:k<n
  ·obtain ⟨ad,x,rfl,hc,hxr,hdx,_⟩:=h.at_ hlt
   have hst:Hid (degGo 0 xs=if x<0∨5<x then -1 else degGo (r+x) (xs.drop (k+1))):=by show _=_;rw [hr.out,hdx.out,degGo]
   obtain ⟨hx1,hx2⟩:=hxr
   by_cases h0:x<0
   ·have hst2:Hid (degGo 0 xs = -1):=hst.out.trans (if_pos (.inl h0))
    go_wp2_with fail
    go_ret
    exact ⟨ret_int hst2.out.symm,rfl⟩
   ·by_cases h5:5<x
    ·have hst2:Hid (degGo 0 xs = -1):=hst.out.trans (if_pos (.inr h5))
     go_wp2_with fail
     go_ret
     exact ⟨ret_int hst2.out.symm,rfl⟩
    ·have hst2:Hid (degGo 0 xs=degGo (r+x) (xs.drop (k+1))):=hst.out.trans (if_neg (by omega))
     go_wp2_with fail
     go_round
     case rel=>exact ⟨k+1,r+x,by omega,by go_num,rfl,by omega,by omega,hst2⟩
     case measure=>simp [intOf];omega
  ·obtain rfl:k=n:=by omega
   have e:=h.drop_end
   have hst2:Hid (degGo 0 xs=r):=by show _=_;rw [hr.out,e.out,degGo]
   go_wp2_with fail
   go_ret
   exact ⟨ret_int hst2.out.symm,rfl⟩
end Go.Proofs.YtomgcbfcnjbofaaGreat
