/- A row of monomials put in order: the library's stable sort by the closure that compares two of them exchanges them. -/
import Derived.Test.YtomgcbfcnjbofaaGreatMgO
import Derived.Test.YtomgcbfcnjbofaaGreatMgN
import Derived.Test.YtomgcbfcnjbofaaGreatMgI
namespace Go.Proofs.YtomgcbfcnjbofaaGreat
open Go.RowKit
set_option linter.unusedSimpArgs false
set_option linter.unusedVariables false
set_option maxRecDepth 20000
set_option maxHeartbeats 8000000 in
theorem lib_stable (w W:World) (lo g n c:Nat) (es:List El) (h:SortC w W lo g n c es) (hnb:n≤1099511627776) :
  Calls Tryz.prog 103 #[.slice (some ⟨g,0,none⟩) n c,.int .i64 n,.func (.func 78) #[] #[]] W fun r W'=>r = .returned (.tuple #[])∧∃ es',List.Perm es' es∧SortC w W' lo g n c es':=by
 have HS:=hide h
 clear h
 go_enter Tryz.func103,Tryz.ntmps103
 go_wp2_with fail
 go_loopw [7,8] (fun x y wr=>∃ (a:Nat) (es':List El),a≤n∧x = .int .i64 a∧y = .int .i64 ((a+20:Nat):Int)∧Hid (List.Perm es' es)∧Hid (SortC w wr lo g n c es')) (fun x _ _=>n - (intOf x).toNat)
 case atStart=>exact ⟨0,es,by omega,rfl,rfl,List.Perm.refl _,HS.out⟩
 case round =>
  clear HS
  obtain ⟨a,es',ha,rfl,rfl,hP,hS⟩:=hrel
  obtain ⟨b,hb⟩:∃ b,b=a+20:=⟨_,rfl⟩
  rw [← hb]
  have HB:=hide hb
  have hab:a<b∧b≤2199023255552:=by omega
  clear hb
  by_cases hlt:b≤n
  ·have HC:=hide (lib_insertion w wr lo g n c es' hS.out a b (by omega) hlt (by omega))
   go_wp2_with fail
   refine HC.out.mono ?_
   rintro r w1 ⟨rfl,es2,hP2,hS2⟩
   have HP2:Hid (List.Perm es2 es):=hP2.trans hP.out
   have HS2:=hide hS2
   clear hP2 hS2 HC hS hP
   go_wp2_with fail
   go_roundw
   case rel=>exact ⟨b,es2,by omega,rfl,by go_num,HP2.out,HS2.out⟩
   case measure=>simp [intOf];omega
  ·have HC:=hide (lib_insertion w wr lo g n c es' hS.out a n (by omega) (by omega) (by omega))
   go_wp2_with fail
   refine HC.out.mono ?_
   rintro r w1 ⟨rfl,es2,hP2,hS2⟩
   have HP2:Hid (List.Perm es2 es):=hP2.trans hP.out
   have HS2:=hide hS2
   clear hP2 hS2 HC hS hP HB hlt hab
   go_wp2_with fail
   go_loopw [6,7,8,9] (fun s x y _ wr=>∃ (bs:Nat) (es':List El),20≤bs∧bs≤2199023255552∧s = .int .i64 bs∧Hid (List.Perm es' es)∧Hid (SortC w wr lo g n c es')) (fun s _ _ _ _=>2199023255553 - (intOf s).toNat)
   case atStart=>exact ⟨20,es2,by omega,by omega,rfl,HP2.out,HS2.out⟩
   case round =>
    clear HS2 HP2
    obtain ⟨bs,es',hs0,hs1,rfl,hP,hS⟩:=hrel
    by_cases hlt:bs<n
    ·obtain ⟨b2,hb2⟩:∃ b2,b2=2*bs:=⟨_,rfl⟩
     have hw0:IntKind.i64.wrap (2*(bs:Int))=(b2:Int):=by rw [show (b2:Int)=2*(bs:Int) by omega];exact IntWalk.i64_in _ (by omega)
     have hw1:IntKind.i64.wrap ((bs:Int)*2)=(b2:Int):=by rw [show (b2:Int)=(bs:Int)*2 by omega];exact IntWalk.i64_in _ (by omega)
     have HB2:=hide hb2
     have hb2b:bs<b2∧b2≤2199023255552:=by omega
     clear hb2
     go_wp2_with fail
     go_loopw [7,8] (fun x y wr=>∃ (a:Nat) (es':List El),a≤n∧x = .int .i64 a∧y = .int .i64 ((a+b2:Nat):Int)∧Hid (List.Perm es' es)∧Hid (SortC w wr lo g n c es')) (fun x _ _=>n - (intOf x).toNat)
     case atStart=>exact ⟨0,es',by omega,rfl,by go_num,hP.out,hS.out⟩
     case round =>
      clear hS hP
      obtain ⟨a,es',ha,rfl,rfl,hP,hS⟩:=hrel
      obtain ⟨b,hb⟩:∃ b,b=a+b2:=⟨_,rfl⟩
      rw [← hb]
      have hw2:IntKind.i64.wrap ((a:Int)+bs)=((a+bs:Nat):Int):=by rw [show ((a+bs:Nat):Int)=(a:Int)+bs by simp];exact IntWalk.i64_in _ (by omega)
      obtain ⟨m,hm⟩:∃ m,m=a+bs:=⟨_,rfl⟩
      rw [← hm] at hw2
      have ham:a<m∧m<b∧b≤4398046511104:=by omega
      have HB:=hide hb
      clear hm
      by_cases hlt2:b≤n
      ·have HC:=hide (lib_symMerge w lo g n c hnb (b - a) wr es' a m b hS.out (by omega) (by omega) hlt2 (Nat.le_refl _))
       have hw3:IntKind.i64.wrap ((b:Int)+b2)=((b+b2:Nat):Int):=by rw [show ((b+b2:Nat):Int)=(b:Int)+b2 by simp];exact IntWalk.i64_in _ (by omega)
       obtain ⟨e,he⟩:∃ e,e=b+b2:=⟨_,rfl⟩
       rw [← he] at hw3
       have HE:=hide he
       clear he hb
       go_wp2_with fail
       refine HC.out.mono ?_
       rintro r w1 ⟨rfl,es2,hP2,hS2⟩
       have HP2:Hid (List.Perm es2 es):=hP2.trans hP.out
       have HS2:=hide hS2
       clear hP2 hS2 HC hS hP
       go_wp2_with fail
       go_roundw
       case rel=>exact ⟨b,es2,by omega,rfl,by rw [← HE.out],HP2.out,HS2.out⟩
       case measure=>simp [intOf];omega
      ·clear hb
       by_cases hlt3:m<n
       ·have HC:=hide (lib_symMerge w lo g n c hnb (n - a) wr es' a m n hS.out (by omega) hlt3 (Nat.le_refl _) (Nat.le_refl _))
        go_wp2_with fail
        refine HC.out.mono ?_
        rintro r w1 ⟨rfl,es2,hP2,hS2⟩
        have HP2:Hid (List.Perm es2 es):=hP2.trans hP.out
        have HS2:=hide hS2
        clear hP2 hS2 HC hS hP
        go_wp2_with fail
        go_roundw
        case rel=>exact ⟨b2,es2,by omega,by omega,rfl,HP2.out,HS2.out⟩
        case measure=>simp [intOf];omega
       ·go_wp2_with fail
        go_roundw
        case rel=>exact ⟨b2,es',by omega,by omega,rfl,hP.out,hS.out⟩
        case measure=>simp [intOf];omega
    ·go_wp2_with fail
     go_end0
     exact ⟨rfl,es',hP.out,hS.out⟩
theorem lib_SortStable (w W:World) (lo g n c:Nat) (es:List El) (h:SortC w W lo g n c es) (hnb:n≤1099511627776) :
  Calls Tryz.prog 77 #[.slice (some ⟨g,0,none⟩) n c,.func (.func 78) #[] #[]] W fun r W'=>r = .returned (.tuple #[])∧∃ es',List.Perm es' es∧SortC w W' lo g n c es':=by
 have HC:=hide (lib_stable w W lo g n c es h hnb)
 clear h
 go_enter Tryz.func77,Tryz.ntmps77
 go_wp2_with fail
 refine HC.out.mono ?_
 rintro r w1 ⟨rfl,es2,hP2,hS2⟩
 have HP2:=hide hP2
 have HS2:=hide hS2
 clear hP2 hS2 HC
 go_wp2_with fail
 go_end0
 exact ⟨rfl,es2,HP2.out,HS2.out⟩
end Go.Proofs.YtomgcbfcnjbofaaGreat
/- Polynomials put in order, with equal powers added up: the program's walk of collect. -/
namespace Go.Proofs.YtomgcbfcnjbofaaGreat
open Go.RowKit
set_option linter.unusedSimpArgs false
set_option linter.unusedVariables false
set_option maxRecDepth 20000
theorem ints_Equal (A:Option Addr) (n c:Nat) (xs:List Int) (lo hi:Nat) (B:Option Addr) (m d:Nat) (ys:List Int) (lo' hi':Nat) (w:World) (h:Ints w lo hi A n c xs) (g:Ints w lo' hi' B m d ys) :
  Calls Tryz.prog 68 #[.slice A n c,.slice B m d] w fun e w'=>e = .returned (.bool (decide (xs=ys)))∧∃ q,w'=w.drewN q:=by
 have hcp:=h.cap
 have hm:=h.max
 have gcp:=g.cap
 have gm:=g.max
 by_cases hnm:n=m
 ·subst hnm
  go_enter Tryz.func68,Tryz.ntmps68
  go_wp2
  go_loopw [5,13] (fun _ i wr=>∃ (k q:Nat),k≤n∧i = .int .i64 k∧wr=w.drewN q∧Hid (xs.take k=ys.take k)) (fun _ i _=>n - (intOf i).toNat)
  case atStart=>exact ⟨0,0,by omega,rfl,rfl,rfl⟩
  case round =>
   obtain ⟨k,q,hk,rfl,rfl,hr⟩:=hrel
   by_cases hlt:k<n
   ·obtain ⟨ad,x,rfl,hc,_,_,hx⟩:=h.at_ hlt
    obtain ⟨ae,y,rfl,hd,_,_,hy⟩:=g.at_ hlt
    by_cases hxy:x=y
    ·subst hxy
     go_wp2
     go_quiet (fail)
     go_wp2
     go_roundw
     case rel=>exact ⟨k+1,_,by omega,by go_num,rfl,take_snoc_eq hr.out hx.out hy.out⟩
     case measure=>simp [intOf];omega
    ·have hne:(x != y)=true:=by simpa using hxy
     have hF:Hid (¬ xs=ys):=fun e=>by
      have h1:=hx.out
      rw [e,hy.out] at h1
      exact hxy (by injection h1 with h1;exact h1.symm)
     clear hxy
     go_wp2
     go_quiet (fail)
     go_wp2
     go_ret
     exact ⟨ret_bool (by simpa using hF.out),_,World.drewN_drewN _ _ _⟩
   ·obtain rfl:k=n:=by omega
    go_wp2
    go_ret
    refine ⟨ret_bool ?_,_,rfl⟩
    have h1:=hr.out
    have h2:=h.len
    have h3:=g.len
    rw [List.take_of_length_le (by omega),List.take_of_length_le (by omega)] at h1
    simpa using h1
 ·have hne:((n:Int) != (m:Int))=true:=by simpa using (by omega:¬ (n:Int)=m)
  have hF:Hid (¬ xs=ys):=fun e=>hnm (by rw [← h.len,← g.len,e])
  clear hnm
  go_enter Tryz.func68,Tryz.ntmps68
  go_wp2
  go_ret
  exact ⟨ret_bool (by simpa using hF.out),0,rfl⟩
def sumM (φ:List Int→Int):List Mono→Int
 | []=>0
 | m :: r=>m.1*φ m.2+sumM φ r
theorem sumM_app (φ:List Int→Int) (p q:List Mono):sumM φ (p++q)=sumM φ p+sumM φ q:=by
 induction p with
 | nil=>simp [sumM]
 | cons a r ih=>rw [List.cons_append,sumM,sumM,ih];omega
theorem sumM_perm (φ:List Int→Int) {p q:List Mono} (h:p.Perm q):sumM φ p=sumM φ q:=by
 induction h with
 | nil=>rfl
 | cons a _ ih=>rw [sumM,sumM,ih]
 | swap a b l=>simp only [sumM];omega
 | trans _ _ ih1 ih2=>rw [ih1,ih2]
structure ColP (p r:List Mono):Prop where
 len:r.length≤p.length
 num:∀ m∈r,0≤m.1∧m.1<1000000271
 src:∀ m∈r,∃ m'∈p,m'.2=m.2
 sum:∀ φ,sumM φ r % 1000000271=sumM φ p % 1000000271
theorem ColP.perm {p p' r:List Mono} (h:ColP p r) (hp:p.Perm p'):ColP p' r :=
 ⟨by rw [← hp.length_eq];exact h.len,h.num,fun m hm=>by
  obtain ⟨m',h1,h2⟩:=h.src m hm
  exact ⟨m',hp.mem_iff.1 h1,h2⟩,fun φ=>by rw [h.sum,sumM_perm φ hp]⟩
structure ColE (ps es:List El):Prop where
 num:∀ e∈es,(0≤e.x∧e.x<1000000271)∧∃ e'∈ps,e.B=e'.B∧e.m=e'.m∧e.d=e'.d∧e.xs=e'.xs
 sum:∀ φ,sumM φ (es.map El.mono) % 1000000271=sumM φ (ps.map El.mono) % 1000000271
theorem ColE.nil:ColE [] []:=⟨by simp,fun _=>rfl⟩
theorem ColE.push {ps es:List El} (h:ColE ps es) {e:El} (he:0≤e.x∧e.x<1000000271):ColE (ps++[e]) (es++[e]) :=
 ⟨fun e' he'=>by
  rcases List.mem_append.1 he' with h1 | h1
  ·obtain ⟨a,b,c,d⟩:=h.num e' h1
   exact ⟨a,b,List.mem_append_left _ c,d⟩
  ·obtain rfl:e'=e:=by simpa using h1
   exact ⟨he,e',by simp,rfl,rfl,rfl,rfl⟩,fun φ=>by
  rw [List.map_append,List.map_append,sumM_app,sumM_app,Int.add_emod,h.sum,← Int.add_emod]⟩
theorem plusF_mod (a b:Int):plusF a b % 1000000271=(a+b) % 1000000271:=by
 unfold plusF
 omega
theorem sumM_set (φ:List Int→Int):∀ (es:List El) (k:Nat) (a b:El),es[k]? = some a→sumM φ ((es.set k b).map El.mono)=sumM φ (es.map El.mono) - a.x*φ a.xs+b.x*φ b.xs
 | [],k,a,b,h=>by simp at h
 | e :: r,0,a,b,h=>by
  simp at h
  subst h
  simp only [List.set_cons_zero,List.map_cons,sumM,El.mono]
  omega
 | e :: r,k+1,a,b,h=>by
  have ih:=sumM_set φ r k a b (by simpa using h)
  simp only [List.set_cons_succ,List.map_cons,sumM,ih]
  omega
theorem ColE.add {ps es:List El} (h:ColE ps es) {k:Nat} {a e:El} (ha:es[k]? = some a) (hxs:a.xs=e.xs):ColE (ps++[e]) (es.set k ⟨plusF a.x e.x,a.B,a.m,a.d,a.xs⟩) :=
 ⟨fun e' he'=>by
  rcases List.mem_or_eq_of_mem_set he' with h1 | h1
  ·obtain ⟨q,b,c,d⟩:=h.num e' h1
   exact ⟨q,b,List.mem_append_left _ c,d⟩
  ·obtain ⟨_,b,c,d⟩:=h.num a (List.mem_of_getElem? ha)
   rw [h1]
   exact ⟨plusF_bd _ _,b,List.mem_append_left _ c,d⟩,fun φ=>by
  rw [sumM_set φ es k a _ ha,List.map_append,sumM_app]
  have hs:=h.sum φ
  have hp:=plusF_mod a.x e.x
  simp only [List.map_cons,List.map_nil,sumM,El.mono,← hxs]
  obtain ⟨S,hS⟩:∃ S,S=sumM φ (es.map El.mono):=⟨_,rfl⟩
  obtain ⟨T,hT⟩:∃ T,T=sumM φ (ps.map El.mono):=⟨_,rfl⟩
  rw [← hS,← hT] at hs
  rw [← hS,← hT]
  obtain ⟨v,hv⟩:∃ v,v=φ a.xs:=⟨_,rfl⟩
  rw [← hv]
  have e1:(plusF a.x e.x*v) % 1000000271=((a.x+e.x)*v) % 1000000271:=by rw [Int.mul_emod,hp,← Int.mul_emod]
  have e2:(a.x+e.x)*v=a.x*v+e.x*v:=Int.add_mul _ _ _
  rw [e2] at e1
  obtain ⟨A,hA⟩:∃ A,A=a.x*v:=⟨_,rfl⟩
  obtain ⟨E,hE⟩:∃ E,E=e.x*v:=⟨_,rfl⟩
  obtain ⟨Q,hQ⟩:∃ Q,Q=plusF a.x e.x*v:=⟨_,rfl⟩
  rw [← hA,← hE,← hQ] at e1
  rw [← hA,← hE,← hQ]
  omega⟩
theorem ColE.filter {ps es:List El} (h:ColE ps es):ColE ps (es.filter nz) :=
 ⟨fun e he=>h.num e (List.mem_filter.1 he).1,fun φ=>by
  rw [← h.sum φ]
  congr 1
  clear h
  induction es with
  | nil=>rfl
  | cons a r ih =>
   rw [List.filter_cons]
   split
   ·rw [List.map_cons,sumM,ih,List.map_cons,sumM]
   ·rename_i hz
    have:a.x=0:=by simpa [nz] using hz
    rw [ih,List.map_cons,sumM]
    simp [El.mono,this]⟩
end Go.Proofs.YtomgcbfcnjbofaaGreat
/- Polynomials in h modulo the prime, as far as a power of h, as a ring; and that a step of a symplectic pair keeps the form of two tangents. -/
namespace Go.Proofs.YtomgcbfcnjbofaaGreat
set_option linter.unusedSimpArgs false
set_option linter.unusedVariables false
abbrev Sr:=Nat→Int
def conv:Sr→Sr→Nat→Int
 | a,b,0=>a 0*b 0
 | a,b,k+1=>a 0*b (k+1)+conv (fun i=>a (i+1)) b k
theorem conv_addl:∀ (k:Nat) (a a' b:Sr),conv (fun i=>a i+a' i) b k=conv a b k+conv a' b k
 | 0,a,a',b=>by rw [conv,conv,conv,Int.add_mul]
 | k+1,a,a',b=>by rw [conv,conv,conv,conv_addl k,Int.add_mul];omega
theorem conv_smul:∀ (k:Nat) (c:Int) (a b:Sr),conv (fun i=>c*a i) b k=c*conv a b k
 | 0,c,a,b=>by rw [conv,conv,Int.mul_assoc]
 | k+1,c,a,b=>by rw [conv,conv,conv_smul k c,Int.mul_add,Int.mul_assoc]
theorem conv_right:∀ (k:Nat) (a b:Sr),conv a b (k+1)=conv a (fun i=>b (i+1)) k+a (k+1)*b 0
 | 0,a,b=>by rw [conv,conv,conv]
 | k+1,a,b=>by
  rw [conv,conv_right k,conv]
  omega
theorem conv_comm:∀ (k:Nat) (a b:Sr),conv a b k=conv b a k
 | 0,a,b=>by rw [conv,conv,Int.mul_comm]
 | k+1,a,b=>by rw [conv_right,conv,conv_comm k,Int.mul_comm (a (k+1))];omega
theorem conv_assoc:∀ (k:Nat) (a b c:Sr),conv (conv a b) c k=conv a (conv b c) k
 | 0,a,b,c=>by rw [conv,conv,conv,conv,Int.mul_assoc]
 | k+1,a,b,c=>by
  have e:(fun i=>conv a b (i+1))=fun i=>a 0*(fun j=>b (j+1)) i+conv (fun j=>a (j+1)) b i:=by
   funext i;rw [conv]
  rw [conv,e,conv_addl,conv_smul,conv_assoc k,conv,conv,conv,Int.mul_add,Int.mul_assoc]
  omega
def oneS:Sr:=fun k=>if k=0 then 1 else 0
def xS:Sr:=fun k=>if k=1 then 1 else 0
theorem conv_zero:∀ (k:Nat) (b:Sr),conv (fun _=>0) b k=0
 | 0,b=>by rw [conv,Int.zero_mul]
 | k+1,b=>by rw [conv,conv_zero k];omega
theorem conv_one (k:Nat) (b:Sr):conv oneS b k=b k:=by
 cases k with
 | zero=>show 1*b 0=b 0;omega
 | succ k =>
  rw [conv]
  have e:(fun i=>oneS (i+1))=fun _=>0:=by funext i;simp [oneS]
  rw [e,conv_zero]
  show 1*b (k+1)+0=_
  omega
theorem conv_x (k:Nat) (b:Sr):conv xS b k=if k=0 then 0 else b (k - 1):=by
 cases k with
 | zero=>show 0*b 0=_;simp
 | succ k =>
  rw [conv]
  have e:(fun i=>xS (i+1))=oneS:=by funext i;simp [xS,oneS]
  rw [e,conv_one]
  show 0*b (k+1)+b k=_
  simp
def RelJ (n:Nat) (a b:Sr):Prop:=∀ k,k<n→a k % 1000000271=b k % 1000000271
def relS (n:Nat):Setoid Sr:=⟨RelJ n,fun _ _ _=>rfl,fun h k hk=>(h k hk).symm,fun h g k hk=>(h k hk).trans (g k hk)⟩
def Jr (n:Nat):Type:=Quotient (relS n)
theorem emod_add {a a' b b':Int} (h:a % 1000000271=a' % 1000000271) (g:b % 1000000271=b' % 1000000271):(a+b) % 1000000271=(a'+b') % 1000000271:=by omega
theorem emod_mul {a a' b b':Int} (h:a % 1000000271=a' % 1000000271) (g:b % 1000000271=b' % 1000000271):(a*b) % 1000000271=(a'*b') % 1000000271:=by
 rw [Int.mul_emod,h,g,← Int.mul_emod]
theorem conv_rel:∀ (k:Nat) {a a' b b':Sr},RelJ (k+1) a a'→RelJ (k+1) b b'→conv a b k % 1000000271=conv a' b' k % 1000000271
 | 0,_,_,_,_,h,g=>by rw [conv,conv];exact emod_mul (h 0 (by omega)) (g 0 (by omega))
 | k+1,_,_,_,_,h,g=>by
  rw [conv,conv]
  exact emod_add (emod_mul (h 0 (by omega)) (g (k+1) (by omega))) (conv_rel k (fun i hi=>h (i+1) (by omega)) (fun i hi=>g i (by omega)))
namespace Jr
variable {n:Nat}
def mk (a:Sr):Jr n:=Quotient.mk (relS n) a
theorem sound {a b:Sr} (h:RelJ n a b):(mk a:Jr n)=mk b:=Quotient.sound h
theorem exact {a b:Sr} (h:(mk a:Jr n)=mk b):RelJ n a b:=Quotient.exact h
def add:Jr n→Jr n→Jr n:=Quotient.lift₂ (fun a b=>mk fun i=>a i+b i) fun _ _ _ _ h g=>sound fun k hk=>emod_add (h k hk) (g k hk)
def mul:Jr n→Jr n→Jr n:=Quotient.lift₂ (fun a b=>mk (conv a b)) fun _ _ _ _ h g=>sound fun k hk=>conv_rel k (fun i hi=>h i (by omega)) (fun i hi=>g i (by omega))
def cst (c:Int):Jr n:=mk fun i=>c*oneS i
instance:Add (Jr n):=⟨add⟩
instance:Mul (Jr n):=⟨mul⟩
instance:Zero (Jr n):=⟨mk fun _=>0⟩
instance:One (Jr n):=⟨mk oneS⟩
def x:Jr n:=mk xS
theorem ind {p:Jr n→Prop} (h:∀ a,p (mk a)) (u:Jr n):p u:=Quotient.ind h u
theorem mk_add (a b:Sr):(mk a:Jr n)+mk b=mk fun i=>a i+b i:=rfl
theorem mk_mul (a b:Sr):(mk a:Jr n)*mk b=mk (conv a b):=rfl
theorem eq_of {a b:Sr} (h:∀ k,a k=b k):(mk a:Jr n)=mk b:=sound fun k _=>by rw [h k]
theorem add_comm (u v:Jr n):u+v=v+u:=by
 induction u using ind with | _ a;induction v using ind with | _ b
 exact eq_of fun k=>Int.add_comm _ _
theorem add_assoc (u v w:Jr n):u+v+w=u+(v+w):=by
 induction u using ind with | _ a;induction v using ind with | _ b;induction w using ind with | _ c
 exact eq_of fun k=>Int.add_assoc _ _ _
theorem add_zero (u:Jr n):u+0=u:=by
 induction u using ind with | _ a
 exact eq_of fun k=>Int.add_zero _
theorem zero_add (u:Jr n):0+u=u:=by rw [add_comm,add_zero]
theorem mul_comm (u v:Jr n):u*v=v*u:=by
 induction u using ind with | _ a;induction v using ind with | _ b
 exact eq_of fun k=>conv_comm k a b
theorem mul_assoc (u v w:Jr n):u*v*w=u*(v*w):=by
 induction u using ind with | _ a;induction v using ind with | _ b;induction w using ind with | _ c
 exact eq_of fun k=>conv_assoc k a b c
theorem add_mul (u v w:Jr n):(u+v)*w=u*w+v*w:=by
 induction u using ind with | _ a;induction v using ind with | _ b;induction w using ind with | _ c
 exact eq_of fun k=>conv_addl k a b c
theorem mul_add (u v w:Jr n):u*(v+w)=u*v+u*w:=by rw [mul_comm,add_mul,mul_comm v,mul_comm w]
theorem one_mul (u:Jr n):1*u=u:=by
 induction u using ind with | _ a
 exact eq_of fun k=>conv_one k a
theorem zero_mul (u:Jr n):0*u=0:=by
 induction u using ind with | _ a
 exact eq_of fun k=>conv_zero k a
theorem mul_zero (u:Jr n):u*0=0:=by rw [mul_comm,zero_mul]
theorem cst_mul (c:Int) (a:Sr):cst c*(mk a:Jr n)=mk fun i=>c*a i:=eq_of fun k=>by rw [conv_smul,conv_one]
theorem cst_mod {c d:Int} (h:c % 1000000271=d % 1000000271):(cst c:Jr n)=cst d:=sound fun _ _=>emod_mul h rfl
theorem cst_add (c d:Int):(cst (c+d):Jr n)=cst c+cst d:=eq_of fun k=>Int.add_mul _ _ _
theorem cst_cst (c d:Int):(cst (c*d):Jr n)=cst c*cst d:=by
 rw [show (cst d:Jr n)=mk fun i=>d*oneS i from rfl,cst_mul]
 exact eq_of fun k=>Int.mul_assoc _ _ _
theorem cst_zero:(cst 0:Jr n)=0:=eq_of fun k=>Int.zero_mul _
theorem cst_one:(cst 1:Jr n)=1:=eq_of fun k=>Int.one_mul _
instance:Std.Associative (α:=Jr n) (·+·):=⟨add_assoc⟩
instance:Std.Commutative (α:=Jr n) (·+·):=⟨add_comm⟩
instance:Std.Associative (α:=Jr n) (·*·):=⟨mul_assoc⟩
instance:Std.Commutative (α:=Jr n) (·*·):=⟨mul_comm⟩
def sum (f:Nat→Jr n):Nat→Jr n
 | 0=>0
 | s+1=>sum f s+f s
theorem sum_congr {f g:Nat→Jr n}:∀ {S:Nat},(∀ s,s<S→f s=g s)→sum f S=sum g S
 | 0,_=>rfl
 | S+1,h=>by rw [sum,sum,sum_congr (fun s hs=>h s (by omega)),h S (by omega)]
theorem sum_add (f g:Nat→Jr n):∀ S:Nat,sum (fun s=>f s+g s) S=sum f S+sum g S
 | 0=>(add_zero 0).symm
 | S+1=>by rw [sum,sum,sum,sum_add f g S];ac_rfl
theorem mul_sum (u:Jr n) (f:Nat→Jr n):∀ S:Nat,u*sum f S=sum (fun s=>u*f s) S
 | 0=>mul_zero u
 | S+1=>by rw [sum,sum,mul_add,mul_sum u f S]
theorem sum_mul (u:Jr n) (f:Nat→Jr n) (S:Nat):sum f S*u=sum (fun s=>f s*u) S:=by
 rw [mul_comm,mul_sum]
 exact sum_congr fun s _=>mul_comm _ _
theorem sum_zero:∀ S:Nat,sum (fun _=>(0:Jr n)) S=0
 | 0=>rfl
 | S+1=>by rw [sum,sum_zero S,add_zero]
theorem sum_swap (f:Nat→Nat→Jr n) (T:Nat):∀ S:Nat,sum (fun s=>sum (f s) T) S=sum (fun j=>sum (fun s=>f s j) S) T
 | 0=>(sum_zero T).symm
 | S+1=>by
  rw [sum,sum_swap f T S,← sum_add]
  exact sum_congr fun j _=>rfl
theorem half {S:Nat} {U W:Jr n} {k l:Nat→Jr n} {a ah:Nat→Nat→Jr n} {b:Nat→Jr n} {Us Ws:Nat→Jr n} (hU:∀ s,s<S→Us s=U+sum (fun j=>a s j*k j) S) (hW:∀ s,s<S→Ws s=W+sum (fun j=>ah s j*l j) S)
  (hs:∀ s,s<S→∀ j,j<S→b s*b j=b j*a j s+b s*ah s j) :
  (U+sum (fun s=>b s*k s) S)*(W+sum (fun s=>b s*l s) S)=U*W+sum (fun s=>b s*(Us s*l s+k s*Ws s)) S:=by
 have e1:sum (fun s=>b s*(Us s*l s+k s*Ws s)) S=sum (fun s=>b s*l s*U) S+sum (fun s=>b s*k s*W) S+sum (fun s=>sum (fun j=>(b j*a j s+b s*ah s j)*(k s*l j)) S) S:=by
  have h1:∀ s,s<S→b s*(Us s*l s+k s*Ws s)=(b s*l s*U+b s*k s*W)+(sum (fun j=>b s*a s j*(k j*l s)) S+sum (fun j=>b s*ah s j*(k s*l j)) S):=fun s hs'=>by
   rw [hU s hs',hW s hs',add_mul,mul_add (k s),mul_add,mul_add,mul_add,sum_mul,mul_sum (k s),mul_sum,mul_sum]
   have t1:sum (fun j=>b s*(a s j*k j*l s)) S=sum (fun j=>b s*a s j*(k j*l s)) S:=sum_congr fun j _=>by ac_rfl
   have t2:sum (fun j=>b s*(k s*(ah s j*l j))) S=sum (fun j=>b s*ah s j*(k s*l j)) S:=sum_congr fun j _=>by ac_rfl
   rw [t1,t2]
   ac_rfl
  rw [sum_congr h1,sum_add,sum_add,sum_add,sum_swap (fun s j=>b s*a s j*(k j*l s)),← sum_add (fun j=>sum (fun s=>b s*a s j*(k j*l s)) S)]
  congr 1
  refine sum_congr fun s _=>?_
  rw [← sum_add]
  exact sum_congr fun j _=>(add_mul _ _ _).symm
 have e2:sum (fun s=>sum (fun j=>(b j*a j s+b s*ah s j)*(k s*l j)) S) S=sum (fun s=>b s*k s) S*sum (fun s=>b s*l s) S:=by
  rw [sum_mul]
  refine sum_congr fun s hs'=>?_
  rw [mul_sum]
  refine sum_congr fun j hj=>?_
  rw [← hs s hs' j hj]
  ac_rfl
 rw [e1,e2,add_mul,mul_add,mul_add,mul_sum,sum_mul]
 have t1:sum (fun s=>U*(b s*l s)) S=sum (fun s=>b s*l s*U) S:=sum_congr fun s _=>by ac_rfl
 rw [t1]
 ac_rfl
theorem symp {S:Nat} {U V U' V':Jr n} {al be ga de:Nat→Jr n} {a ah:Nat→Nat→Jr n} {b:Nat→Jr n} {Us Vs Us' Vs' k l k' l':Nat→Jr n}
  (hU:∀ s,s<S→Us s=U+sum (fun j=>a s j*k j) S) (hV:∀ s,s<S→Vs s=V+sum (fun j=>ah s j*l j) S)
  (hU':∀ s,s<S→Us' s=U'+sum (fun j=>a s j*k' j) S) (hV':∀ s,s<S→Vs' s=V'+sum (fun j=>ah s j*l' j) S)
  (hk:∀ s,s<S→k s=x*(al s*Us s+be s*Vs s)) (hl:∀ s,s<S→l s=x*(ga s*Us s+de s*Vs s))
  (hk':∀ s,s<S→k' s=x*(al s*Us' s+be s*Vs' s)) (hl':∀ s,s<S→l' s=x*(ga s*Us' s+de s*Vs' s))
  (hz:∀ s,s<S→al s+de s=0)
  (hs:∀ s,s<S→∀ j,j<S→b s*b j=b j*a j s+b s*ah s j) :
  (U+sum (fun s=>b s*k s) S)*(V'+sum (fun s=>b s*l' s) S)+cst (-1)*((V+sum (fun s=>b s*l s) S)*(U'+sum (fun s=>b s*k' s) S))=U*V'+cst (-1)*(V*U'):=by
 have e:sum (fun s=>b s*(Us s*l' s+k s*Vs' s)) S=sum (fun s=>b s*(Us' s*l s+k' s*Vs s)) S:=by
  refine sum_congr fun s h=>?_
  rw [hk s h,hl s h,hk' s h,hl' s h]
  congr 1
  have z1:x*(al s+de s)*(Us s*Vs' s)=0:=by rw [hz s h,mul_zero,zero_mul]
  have z2:x*(al s+de s)*(Us' s*Vs s)=0:=by rw [hz s h,mul_zero,zero_mul]
  have l1:Us s*(x*(ga s*Us' s+de s*Vs' s))+x*(al s*Us s+be s*Vs s)*Vs' s=x*ga s*(Us s*Us' s)+x*be s*(Vs s*Vs' s)+x*(al s+de s)*(Us s*Vs' s):=by
   simp only [mul_add,add_mul]
   ac_rfl
  have l2:Us' s*(x*(ga s*Us s+de s*Vs s))+x*(al s*Us' s+be s*Vs' s)*Vs s=x*ga s*(Us s*Us' s)+x*be s*(Vs s*Vs' s)+x*(al s+de s)*(Us' s*Vs s):=by
   simp only [mul_add,add_mul]
   ac_rfl
  rw [l1,l2,z1,z2]
 rw [half hU hV' hs,mul_comm (V+_),half hU' hV hs,e,mul_add (cst (-1)),mul_comm V U']
 have c:sum (fun s=>b s*(Us' s*l s+k' s*Vs s)) S+cst (-1)*sum (fun s=>b s*(Us' s*l s+k' s*Vs s)) S=0:=by
  generalize sum (fun s=>b s*(Us' s*l s+k' s*Vs s)) S=q
  have h1:q+cst (-1)*q=(1+cst (-1))*q:=by rw [add_mul,one_mul]
  rw [h1,← cst_one,← cst_add,show (1:Int) + -1=0 from rfl,cst_zero,zero_mul]
 calc U*V'+sum (fun s=>b s*(Us' s*l s+k' s*Vs s)) S+(cst (-1)*(U'*V)+cst (-1)*sum (fun s=>b s*(Us' s*l s+k' s*Vs s)) S)
   = U*V'+cst (-1)*(U'*V)+(sum (fun s=>b s*(Us' s*l s+k' s*Vs s)) S+cst (-1)*sum (fun s=>b s*(Us' s*l s+k' s*Vs s)) S):=by ac_rfl
  _=U*V'+cst (-1)*(U'*V):=by rw [c,add_zero]
end Jr
end Go.Proofs.YtomgcbfcnjbofaaGreat
/- Lists as elements of the ring of polynomials in h: what the program's sums, products and powers are there. -/
namespace Go.Proofs.YtomgcbfcnjbofaaGreat
set_option linter.unusedSimpArgs false
set_option linter.unusedVariables false
namespace Jr
variable {n:Nat}
def of (a:List Int):Jr n:=mk fun k=>a.getD k 0
theorem of_inj {a b:List Int} (ha:a.length=n) (hb:b.length=n) (na:∀ x∈a,0≤x∧x<1000000271) (nb:∀ x∈b,0≤x∧x<1000000271) (h:(of a:Jr n)=of b):a=b:=by
 have hr:=exact h
 refine tabJ_eq ha hb fun j hj=>?_
 have h1:a.getD j 0 % 1000000271=b.getD j 0 % 1000000271:=hr j hj
 have e1:a.getD j 0=a[j]:=by simp [List.getD,show j<a.length by omega]
 have e2:b.getD j 0=b[j]:=by simp [List.getD,show j<b.length by omega]
 rw [e1,e2] at h1 ⊢
 have:=na _ (List.getElem_mem (h:=by omega):a[j]∈a)
 have:=nb _ (List.getElem_mem (h:=by omega):b[j]∈b)
 omega
theorem of_plus {a b:List Int} (ha:a.length=n) (k:Int):(of (jplus a b k):Jr n)=of a+cst k*of b:=by
 rw [of,of,of,cst_mul,mk_add]
 refine sound fun j hj=>?_
 rw [jplus,tabJ_get _ (by omega)]
 unfold plusF timesF
 rw [Int.emod_emod_of_dvd _ (Int.dvd_refl _)]
 refine emod_add rfl ?_
 rw [Int.emod_emod_of_dvd _ (Int.dvd_refl _),Int.mul_comm]
theorem psum_front:∀ (i k:Nat) (a b:List Int),psum a b (i+1) (k+1)=a.getD 0 0*b.getD (k+1) 0+psum a.tail b i k
 | 0,k,a,b=>by simp [psum]
 | i+1,k,a,b=>by
  rw [psum,psum_front i k a b,psum,Int.add_assoc]
  congr 2
  by_cases h:i≤k
  ·rw [if_pos h,if_pos (by omega),show k+1 - (i+1)=k - i by omega]
   congr 1
   cases a <;> simp
  ·rw [if_neg h,if_neg (by omega)]
theorem psum_conv:∀ (k:Nat) (a b:List Int),psum a b (k+1) k=conv (fun i=>a.getD i 0) (fun i=>b.getD i 0) k
 | 0,a,b=>by simp [psum,conv]
 | k+1,a,b=>by
  rw [psum_front,psum_conv k,conv]
  congr 2
  funext i
  cases a <;> simp
theorem psum_more (a b:List Int) (k:Nat):∀ d,psum a b (k+1+d) k=psum a b (k+1) k
 | 0=>rfl
 | d+1=>by
  show psum a b (k+1+d) k+_=_
  rw [psum_more a b k d,if_neg (by show ¬ k+1+d≤k;omega),Int.add_zero]
theorem of_mul {a b:List Int} (ha:a.length=n):(of (jmul a b):Jr n)=of a*of b:=by
 rw [of,of,of,mk_mul]
 refine sound fun j hj=>?_
 rw [jmul,jmulP,tabJ_get _ (by omega),Int.emod_emod_of_dvd _ (Int.dvd_refl _),← psum_conv,show a.length=j+1+(n - (j+1)) by omega,psum_more]
theorem of_later {v:List Int} (hv:v.length=n):(of (later1 v):Jr n)=x*of v:=by
 rw [of,of,x,mk_mul]
 refine sound fun j hj=>?_
 rw [later1,tabJ_get _ (by omega),conv_x]
theorem of_unit (c:Int):(of (unitJ n c):Jr n)=cst c:=by
 refine sound fun j hj=>?_
 rw [unitJ,tabJ_get _ hj]
 unfold oneS
 by_cases h:j=0
 ·rw [if_pos h,if_pos h,Int.mul_one]
 ·rw [if_neg h,if_neg h,Int.mul_zero]
theorem of_zero:(of (zeroJ n):Jr n)=0:=by
 refine sound fun j hj=>?_
 simp [zeroJ,hj]
def pow (u:Jr n):Nat→Jr n
 | 0=>1
 | k+1=>u*pow u k
theorem of_pow (y:List Int):∀ (k:Nat) (o:List Int),o.length=n→(of (powJ k o y):Jr n)=of o*pow (of y) k
 | 0,o,_=>by rw [powJ,pow,mul_comm,one_mul]
 | k+1,o,h=>by
  rw [powJ,of_pow y k _ (by rw [jmul_len,h]),of_mul h,pow,mul_assoc]
def ev (Y:Nat→Jr n):Nat→List Int→Jr n
 | _,[]=>1
 | v,p :: r=>pow (Y v) p.toNat*ev Y (v+1) r
theorem of_prod (ys:Nat→List Int):∀ (p:List Int) (v:Nat) (o:List Int),o.length=n→(of (prodJ ys p v o):Jr n)=of o*ev (fun i=>of (ys i)) v p
 | [],_,o,_=>by rw [prodJ,ev,mul_comm,one_mul]
 | p :: r,v,o,h=>by
  rw [prodJ,of_prod ys r (v+1) _ (by rw [pow_len,h]),of_pow _ _ _ h,ev,mul_assoc]
def sumR (F:List Int→Jr n):List Mono→Jr n
 | []=>0
 | m :: r=>cst m.1*F m.2+sumR F r
theorem of_der (ys:Nat→List Int):∀ (ms:List Mono) (o:List Int),o.length=n→(of (derJ n ys ms o):Jr n)=of o+sumR (ev (fun i=>of (ys i)) 0) ms
 | [],o,_=>by rw [derJ,sumR,add_zero]
 | m :: r,o,h=>by
  rw [derJ,of_der ys r _ (by rw [jplus_len,h]),of_plus h,of_prod _ _ _ _ (unit_len _ _),of_unit,cst_one,one_mul,sumR,add_assoc]
theorem of_poly (ys:Nat→List Int) (ms:List Mono):(of (polyJ n ms ys):Jr n)=sumR (ev (fun i=>of (ys i)) 0) ms:=by
 rw [polyJ,of_der ys ms _ (zero_len n),of_zero,zero_add]
theorem of_acc {y:List Int} (hy:y.length=n) {v:Nat→List Int} (hv:∀ s,(v s).length=n) (row:List Int):∀ s,(of (accJ y v row s):Jr n)=of y+sum (fun j=>cst (row.getD j 0)*(x*of (v j))) s
 | 0=>by rw [accJ,sum,add_zero]
 | s+1=>by
  rw [accJ,of_plus (by rw [acc_len,hy]),of_acc hy hv row s,of_later (hv s),sum,add_assoc]
theorem sumR_app (F:List Int→Jr n):∀ (p q:List Mono),sumR F (p++q)=sumR F p+sumR F q
 | [],q=>(zero_add _).symm
 | a :: r,q=>by rw [List.cons_append,sumR,sumR,sumR_app F r q,add_assoc]
theorem sumR_mul (F:List Int→Jr n) (u:Jr n):∀ ms:List Mono,sumR F ms*u=sumR (fun e=>F e*u) ms
 | []=>zero_mul u
 | m :: r=>by rw [sumR,sumR,add_mul,sumR_mul F u r,mul_assoc]
theorem sumR_congr {F G:List Int→Jr n}:∀ {ms:List Mono},(∀ m∈ms,F m.2=G m.2)→sumR F ms=sumR G ms
 | [],_=>rfl
 | m :: r,h=>by rw [sumR,sumR,h m List.mem_cons_self,sumR_congr (fun q hq=>h q (List.mem_cons_of_mem _ hq))]
theorem sumR_map (F:List Int→Jr n) (g:List Int→List Int):∀ ms:List Mono,sumR F (ms.map fun m=>(m.1,g m.2))=sumR (fun e=>F (g e)) ms
 | []=>rfl
 | m :: r=>by rw [List.map_cons,sumR,sumR,sumR_map F g r]
theorem sumR_rep (F:List Int→Jr n) (R:List Int→Sr) (hR:∀ e,mk (R e)=F e):∀ ms:List Mono,sumR F ms=mk fun k=>sumM (fun e=>R e k) ms
 | []=>rfl
 | m :: r=>by
  rw [sumR,sumR_rep F R hR r]
  have e:cst m.1*F m.2=mk fun k=>m.1*R m.2 k:=by rw [← cst_mul,hR]
  rw [e,mk_add]
  rfl
theorem sumR_eqv (F:List Int→Jr n) {a b:List Mono} (h:∀ φ,sumM φ a % 1000000271=sumM φ b % 1000000271):sumR F a=sumR F b:=by
 obtain ⟨R,hR⟩:∃ R:List Int→Sr,∀ e,mk (R e)=F e:=⟨fun e=>Classical.choose (Quotient.exists_rep (F e)),fun e=>Classical.choose_spec (Quotient.exists_rep (F e))⟩
 rw [sumR_rep F R hR,sumR_rep F R hR]
 exact sound fun k _=>h _
def der (v:Nat) (F:List Int→Jr n) (e:List Int):Jr n:=if 0<e.getD v 0 then cst (e.getD v 0)*F (e.set v (e.getD v 0 - 1)) else 0
theorem sumR_part (F:List Int→Jr n) (v:Nat):∀ ms:List Mono,sumR F (partF ms v)=sumR (der v F) ms
 | []=>rfl
 | m :: r=>by
  have ih:=sumR_part F v r
  rw [sumR,der]
  by_cases h:0<m.2.getD v 0
  ·have e1:partF (m :: r) v=(timesF m.1 (m.2.getD v 0),m.2.set v (m.2.getD v 0 - 1)) :: partF r v:=by
    simp only [partF,List.filterMap_cons,partM,if_pos h]
   rw [e1,if_pos h,sumR,ih,← mul_assoc,← cst_cst]
   congr 2
   refine cst_mod ?_
   unfold timesF
   exact Int.emod_emod_of_dvd _ (Int.dvd_refl _)
  ·have e1:partF (m :: r) v=partF r v:=by
    simp only [partF,List.filterMap_cons,partM,if_neg h]
   rw [e1,if_neg h,mul_zero,zero_add,ih]
theorem der_comm (F:List Int→Jr n) (e:List Int) {v u:Nat} (h:v≠u):der v (der u F) e=der u (der v F) e:=by
 have g1:(e.set v (e.getD v 0 - 1)).getD u 0=e.getD u 0:=by
  rw [List.getD_eq_getElem?_getD,List.getElem?_set_ne h,← List.getD_eq_getElem?_getD]
 have g2:(e.set u (e.getD u 0 - 1)).getD v 0=e.getD v 0:=by
  rw [List.getD_eq_getElem?_getD,List.getElem?_set_ne h.symm,← List.getD_eq_getElem?_getD]
 unfold der
 rw [g1,g2]
 by_cases h1:0<e.getD v 0
 ·by_cases h2:0<e.getD u 0
  ·rw [if_pos h1,if_pos h2,if_pos h2,if_pos h1,List.set_comm _ _ h]
   ac_rfl
  ·rw [if_pos h1,if_neg h2,if_neg h2,mul_zero]
 ·by_cases h2:0<e.getD u 0
  ·rw [if_neg h1,if_pos h2,if_neg h1,mul_zero]
  ·rw [if_neg h1,if_neg h2]
def scaledF (ms:List Mono) (k:Int):List Mono:=ms.map fun m=>(timesF m.1 k,m.2)
theorem sumR_scaled (F:List Int→Jr n) (k:Int):∀ ms:List Mono,sumR F (scaledF ms k)=cst k*sumR F ms
 | []=>(mul_zero _).symm
 | m :: r=>by
  have e:scaledF (m :: r) k=(timesF m.1 k,m.2) :: scaledF r k:=rfl
  rw [e,sumR,sumR_scaled F k r,sumR,mul_add]
  congr 1
  rw [← mul_assoc,← cst_cst]
  congr 1
  refine cst_mod ?_
  unfold timesF
  rw [Int.emod_emod_of_dvd _ (Int.dvd_refl _),Int.mul_comm]
theorem ham_zero (F:List Int→Jr n) (h:List Mono):sumR F (partF (partF h 1) 0)+sumR F (partF (scaledF (partF h 0) (-1)) 1)=0:=by
 rw [sumR_part,sumR_part,sumR_part,sumR_scaled,sumR_part]
 have e:sumR (der 1 (der 0 F)) h=sumR (der 0 (der 1 F)) h:=sumR_congr fun m _=>der_comm F m.2 (by omega)
 rw [e]
 generalize sumR (der 0 (der 1 F)) h=q
 have h1:q+cst (-1)*q=(1+cst (-1))*q:=by rw [add_mul,one_mul]
 rw [h1,← cst_one,← cst_add,show (1:Int) + -1=0 from rfl,cst_zero,zero_mul]
end Jr
end Go.Proofs.YtomgcbfcnjbofaaGreat
