/- Steps of pairs along paths: what the law's walk uses. -/
import Derived.Test.YtomgcbfcnjbofaaGreatMgV
import Derived.Test.YtomgcbfcnjbofaaGreatMgC
import Derived.Test.YtomgcbfcnjbofaaGreatMgT
namespace Go.Proofs.YtomgcbfcnjbofaaGreat
open Go.RowKit
set_option linter.unusedSimpArgs false
set_option linter.unusedVariables false
set_option maxRecDepth 20000
def PairS (wr:World) (lo hi:Nat) (A:Option Addr) (n c:Nat) (xs:List Int) (B:Option Addr) (m d:Nat) (ys:List Int) (A':Option Addr) (n' c':Nat) (xs':List Int) (B':Option Addr) (m' d':Nat) (ys':List Int):Prop :=
 ∃ m1 m2 m3,OwnI wr lo m1 A n c xs∧OwnI wr m1 m2 B m d ys∧OwnI wr m2 m3 A' n' c' xs'∧OwnI wr m3 hi B' m' d' ys'∧lo≤m1∧m1≤m2∧m2≤m3∧m3≤hi
section
variable {w w':World} {lo hi:Nat} {A:Option Addr} {n c:Nat} {xs:List Int} {B:Option Addr} {m d:Nat} {ys:List Int} {A':Option Addr} {n' c':Nat} {xs':List Int} {B':Option Addr} {m' d':Nat} {ys':List Int}
theorem PairS.same (h:PairS w lo hi A n c xs B m d ys A' n' c' xs' B' m' d' ys') (hs:Same lo hi w w'):PairS w' lo hi A n c xs B m d ys A' n' c' xs' B' m' d' ys':=by
 obtain ⟨m1,m2,m3,a,b,c,d,e1,e2,e3,e4⟩:=h
 exact ⟨m1,m2,m3,a.same fun k p q=>hs k (by omega) (by omega),b.same fun k p q=>hs k (by omega) (by omega),c.same fun k p q=>hs k (by omega) (by omega),d.same fun k p q=>hs k (by omega) (by omega),e1,e2,e3,e4⟩
theorem PairS.below {N:Nat} (h:PairS w lo hi A n c xs B m d ys A' n' c' xs' B' m' d' ys') (hb:Below N w w') (hN:hi≤N):PairS w' lo hi A n c xs B m d ys A' n' c' xs' B' m' d' ys':=h.same (.of_below hb hN)
theorem PairS.le (h:PairS w lo hi A n c xs B m d ys A' n' c' xs' B' m' d' ys'):lo≤hi:=by
 obtain ⟨m1,m2,m3,_,_,_,_,e1,e2,e3,e4⟩:=h
 omega
theorem PairS.ints (h:PairS w lo hi A n c xs B m d ys A' n' c' xs' B' m' d' ys') {H:Nat} (hH:hi≤H):Ints w 0 H A n c xs∧Ints w 0 H B m d ys∧Ints w 0 H A' n' c' xs'∧Ints w 0 H B' m' d' ys':=by
 obtain ⟨m1,m2,m3,a,b,c,d,e1,e2,e3,e4⟩:=h
 exact ⟨a.ints.wide (Nat.zero_le _) (by omega),b.ints.wide (Nat.zero_le _) (by omega),c.ints.wide (Nat.zero_le _) (by omega),d.ints.wide (Nat.zero_le _) (by omega)⟩
theorem PairS.form (h:PairS w lo hi A n c xs B m d ys A' n' c' xs' B' m' d' ys'):(0<n→∃ g,A=some ⟨g,0,none⟩)∧(0<n'→∃ g,A'=some ⟨g,0,none⟩):=by
 obtain ⟨m1,m2,m3,a,b,c,d,e1,e2,e3,e4⟩:=h
 exact ⟨fun hn=>by obtain ⟨g,e,_⟩:=a.form hn;exact ⟨g,e⟩,fun hn=>by obtain ⟨g,e,_⟩:=c.form hn;exact ⟨g,e⟩⟩
end
theorem impl_PairAlong_all (s:Int) (A:Option Addr) (n c:Nat) (xs:List Int) (B:Option Addr) (m d:Nat) (ys:List Int) (s':Int) (A':Option Addr) (n' c':Nat) (xs':List Int) (B':Option Addr) (m' d':Nat) (ys':List Int) (o:Int) (P:Option Addr) (k e:Nat) (ps:List (List Mono)) (C:Option Addr) (nC cC:Nat) (cs:List Int) (X:Option Addr) (x f:Nat) (xss:List (List Int)) (lo hi:Nat) (w:World)
  (h:Ints w lo hi A n c xs) (g:Ints w lo hi B m d ys) (h':Ints w lo hi A' n' c' xs') (g':Ints w lo hi B' m' d' ys') (hp:Mons2 w lo hi P k e ps) (hc:Ints w lo hi C nC cC cs) (hx:Ints2 w lo hi X x f xss) (hh:hi≤w.heap.size) (hlen:∀ p∈ps,∀ m∈p,m.2.length≤1048576)
  (hA:0<n→∃ gA,A=some ⟨gA,0,none⟩) (hA':0<n'→∃ gA,A'=some ⟨gA,0,none⟩) :
  Calls Tryz.prog 12 #[.agg #[.int .i64 s,.slice A n c,.slice B m d,.int .i64 s',.slice A' n' c',.slice B' m' d'],.agg #[.int .i64 o,.slice P k e],.slice C nC cC,.slice X x f] w fun r w'=>∃ R q cR,r = .returned (.slice R q cR)∧Ros kO 24 w' w.heap.size w'.heap.size R q cR (pairAl s xs ys s' xs' ys' o ps cs xss)∧Below w.heap.size w w':=by
 cases hk:pairAlOk s xs ys s' xs' ys' o ps cs xss with
 | false =>
  refine (impl_PairAlong_bad s A n c xs B m d ys s' A' n' c' xs' B' m' d' ys' o P k e ps C nC cC cs X x f xss lo hi w h g h' g' hp hc hx hh hlen hk).mono ?_
  rintro r w' ⟨rfl,hb⟩
  exact ⟨none,0,0,rfl,.inl ⟨rfl,rfl,rfl,pairAl_bad hk,hb.size⟩,hb⟩
 | true =>
  obtain ⟨S,dim,np,rfl,rfl,rfl,hK⟩:=pairAlOk_iff hk
  obtain rfl:n=S*S:=by rw [← h.len];exact hK.xl
  obtain rfl:m=S:=by rw [← g.len];exact hK.yl
  obtain rfl:n'=m*m:=by rw [← h'.len];exact hK.xl'
  obtain rfl:m'=m:=by rw [← g'.len];exact hK.yl'
  obtain rfl:k=dim:=by rw [← hp.len];exact hK.gf.1
  obtain rfl:nC=k:=by rw [← hc.len];exact hK.cl
  obtain rfl:x=np:=by rw [← hx.len];exact hK.nl
  refine (impl_PairAlong_good m' nC x A c xs B d ys A' c' xs' B' d' ys' P e ps C cC cs X f xss lo hi w h g h' g' hp hc hx hh hlen (fun h0=>hA (Nat.mul_pos h0 h0)) (fun h0=>hA' (Nat.mul_pos h0 h0)) hK hk).mono ?_
  rintro r w' ⟨gR,cR,rfl,hR,hb⟩
  exact ⟨_,_,_,rfl,hR,hb⟩
end Go.Proofs.YtomgcbfcnjbofaaGreat
