/-DD of the proof,laid behind one another. -/
import Derived.Test.YtlifeokjcgngjaaGreatKAdjustKnown1
import Derived.RangeFuncBox
import Derived.Orders
import Derived.Deep.MidRow
import Derived.Laws.MakeOwn
import Derived.RegionTactic
import Derived.Laws.Slices
import Derived.Deep.LoopGhost
import Derived.Scope
import Derived.Deep.AppendSrc
import Derived.Laws.AppendOwn
set_option linter.all false
set_option maxHeartbeats 64000000
namespace Go.Proofs.YtlifeokjcgngjaaGreat
section
open Go.RowKit
def GD (neg:Bool) (xs:List Nat):Int:=if neg=true then-(au xs:Int) else (au xs:Int)
def fi (neg:Bool) (xs:List Nat):Bool:=match xs.getLast? with|none=> !neg|some x=>decide (x≠0)
def numOf (neg:Bool) (xs:List Nat):Int:=if fi neg xs=true then GD neg xs else 0
theorem xm (neg:Bool):fi neg []= !neg:=rfl
variable {xs:List Nat}
theorem BA {neg:Bool} {x:Nat} (h:xs[xs.length-1]? =some x):fi neg xs=decide (x≠0):=by
 unfold fi;rw[Rv,h]
theorem RX {neg:Bool} (h:fi neg xs=true):∀ x,xs.getLast? =some x->x≠0:=by
 intro x hx;unfold fi at h;rw[hx] at h;simpa using h
theorem yJ {neg:Bool} (hl:eB xs) (h:fi neg xs=true) (hx:xs≠[]):au xs≠0:=by
 intro h0;have:=sx hl (RX h);rw[h0,de] at this;exact hx this.symm
theorem canon {neg:Bool} (hl:eB xs) (h:fi neg xs=true):neg=decide (GD neg xs<0)/\xs=limbs (GD neg xs).natAbs:=by
 have h1:=sx hl (RX h);have h2:(GD neg xs).natAbs=au xs:=by unfold GD;split <;> simp
 refine⟨?_,by rw[h2,h1]⟩;by_cases hx:xs=[]
 ·subst hx;rw[xm] at h;cases neg
  ·simp[GD,fQ]
  ·cases h
 ·have:=yJ hl h hx;cases neg
  ·simp[GD]
  ·simp[GD];omega
theorem sO (X:Int):fi (decide (X<0)) (limbs X.natAbs)=true:=by
 by_cases h:X=0
 ·subst h;simp[de,fi]
 ·unfold fi;cases hl:(limbs X.natAbs).getLast? with
  | none=>rw[List.getLast?_eq_none_iff,qO] at hl;omega
  | some x=>simpa using xk _ _ hl
theorem Pn (X:Int):GD (decide (X<0)) (limbs X.natAbs)=X:=by
 unfold GD;rw[ax];by_cases h:X<0
 ·rw[if_pos (by simpa using h)];omega
 ·rw[if_neg (by simpa using h)];omega
theorem ji (X:Int):numOf (decide (X<0)) (limbs X.natAbs)=X:=by
 unfold numOf;rw[if_pos (sO X),Pn]
theorem Im {neg:Bool} (hl:eB xs):(limbs (numOf neg xs).natAbs).length<=xs.length:=by
 unfold numOf
 split
 ·rename_i h;rw[<-(canon hl h).2];exact bl _
 ·rw[show (0:Int).natAbs=0 from aa,de];exact eK _
def iP (w:World) (v:Value) (neg:Bool) (xs:List Nat):Prop:=∃ p c,v=.agg #[.bool neg,.slice p xs.length c]/\Rd w 1 (.slice p xs.length c) xs.length (ints .u32 xs)/\eB xs
def cX (w:World) (v:Value) (X:Int) (k:Nat):Prop:=∃ neg xs,iP w v neg xs/\X=numOf neg xs/\xs.length<=k
def df (w:World) (v:Value) (X:Int):Prop:=iP w v (decide (X<0)) (limbs X.natAbs)
def aE (w:World) (B:Nat) (v:Value) (X:Int):Prop:=∃ p c,v=.agg #[.bool (decide (X<0)),.slice p (limbs X.natAbs).length c]/\w.ownsRow B 78 1 (.slice p (limbs X.natAbs).length c) (limbs X.natAbs).length (ints .u32 (limbs X.natAbs))
def aD (w w':World):Prop:=Below w.heap.size w w'
theorem aD.refl (w:World):aD w w:=gY _ _
variable {w w':World}
theorem aD.alloc (h:aD w w') (o:Obj):aD w (w'.alloc o):=Below.alloc h h.size o
theorem aD.drew (h:aD w w'):aD w w'.drew:=Below.drew h
theorem aD.drewN (h:aD w w') (n:Nat):aD w (w'.drewN n):=Below.drewN h n
variable {a:World}
theorem aD.aN {b c:World} (h:aD a b) (k:aD b c):aD a c:=Below.aN h k
theorem aD.setCell (h:aD w w') {p:Addr} (hp:w.heap.size<=p.block) (v:Value):aD w (w'.setCell p v):=Below.setCell h hp v
variable {u:Value}
theorem aD.cell (h:aD w w') {a:Addr} (hc:w.cell? a=some u):w'.cell? a=some u:=Below.keeps h _ _ hc
theorem aD.size (h:aD w w'):w.heap.size<=w'.heap.size:=Below.size h
variable {v:Value}
theorem iP.bS {neg:Bool} (h:iP w v neg xs) (hb:aD w w'):iP w' v neg xs:=by
 obtain⟨p,c,hv,hr,hl⟩:=h;exact⟨p,c,hv,hr.below hb,hl⟩
variable {X:Int}
theorem cX.bS {k:Nat} (h:cX w v X k) (hb:aD w w'):cX w' v X k:=by
 obtain⟨neg,xs,hn,hx,hk⟩:=h;exact⟨neg,xs,hn.bS hb,hx,hk⟩
theorem df.bS (h:df w v X) (hb:aD w w'):df w' v X:=iP.bS h hb
variable {B:Nat}
theorem aE.rd (h:aE w B v X):df w v X:=by
 obtain⟨p,c,hv,ho⟩:=h;exact⟨p,c,hv,Rd.own ho,aF _⟩
theorem aE.mono {B':Nat} (h:aE w B v X) (hB:B'<=B):aE w B' v X:=by
 obtain⟨p,c,hv,ho⟩:=h;exact⟨p,c,hv,Own.mono ho hB⟩
theorem df.to {k:Nat} (h:df w v X) (hk:(limbs X.natAbs).length<=k):cX w v X k:=⟨_,_,h,(ji X).symm,hk⟩
theorem cX.len {k:Nat} (h:cX w v X k):(limbs X.natAbs).length<=k:=by
 obtain⟨neg,xs,⟨_,_,_,_,hl⟩,rfl,hk⟩:=h;exact bG (Im hl) hk
theorem df.zero (w:World):df w (.agg #[.bool false,.slice none 0 0]) 0:=by
 refine⟨none,0,?_,?_,aF _⟩
 ·simp[de]
 ·simp only[show (0:Int).natAbs=0 from aa,de];exact Rd.nil w 1
theorem aE.zero (w:World) (B:Nat):aE w B (.agg #[.bool false,.slice none 0 0]) 0:=by
 refine⟨none,0,?_,?_⟩
 ·simp[de]
 ·simp only[show (0:Int).natAbs=0 from aa,de];exact oI _ _ _ _
variable {c m:Nat} {p:Option Addr}
theorem aE.of {neg:Bool} {n:Nat} (h:w.ownsRow B 78 1 (.slice p n c) (limbs m).length (ints .u32 (limbs m))) (hn:n=(limbs m).length) (X:Int) (hX:X=if neg=true then-(m:Int) else m):
  aE w B (.agg #[.bool (neg && decide (0<n)),.slice p n c]) X:=by
 subst hn;have h1:X.natAbs=m:=by rw[hX];split <;> simp
 refine⟨p,c,?_,by rw[h1];exact h⟩;rw[h1]
 congr 3
 by_cases hm:m=0
 ·subst hm;have:X=0:=ae;rw[this];simp[de]
 ·have:=fp hm;cases neg
  ·simp at hX;simp[hX]
  ·simp at hX;simp[hX];omega
theorem df.of {neg:Bool} {n:Nat} (h:Rd w 1 (.slice p n c) (limbs m).length (ints .u32 (limbs m))) (hn:n=(limbs m).length) (X:Int) (hX:X=if neg=true then-(m:Int) else m):
  df w (.agg #[.bool (neg && decide (0<n)),.slice p n c]) X:=by
 subst hn;have h1:X.natAbs=m:=by rw[hX];split <;> simp
 refine⟨p,c,?_,by rw[h1];exact h,aF _⟩;rw[h1]
 congr 3
 by_cases hm:m=0
 ·subst hm;have:X=0:=ae;rw[this];simp[de]
 ·have:=fp hm;cases neg
  ·simp at hX;simp[hX]
  ·simp at hX;simp[hX];omega
def Sz (X:Int) (k:Nat):Prop:=(limbs X.natAbs).length<=k
theorem Sz.lt {k:Nat} (h:Sz X k):X.natAbs<4294967296^k:=tS (sw _) (tQ ae h)
theorem Sz.of_lt {k:Nat} (h:X.natAbs<4294967296^k):Sz X k:=nH k _ h
theorem Sz.mono {k l:Nat} (h:Sz X k) (RT:k<=l):Sz X l:=bG h RT
variable {Y:Int}
theorem Sz.le {k:Nat} (h:Sz Y k) (Eb:X.natAbs<=Y.natAbs):Sz X k:=bG (eN Eb) h
theorem Sz.neg {k:Nat} (h:Sz X k):Sz (-X) k:=Sz.le h (by rw[Int.natAbs_neg];exact bl _)
theorem Sz.add {k l:Nat} (hx:Sz X k) (hy:Sz Y l) (hk:k<=m) (hl:l<=m):Sz (X+Y) (m+1):=by
 refine Sz.of_lt ?_;have h1:=tS hx.lt (tQ ae hk);have h2:=tS hy.lt (tQ ae hl);have h3:(X+Y).natAbs<=X.natAbs+Y.natAbs:=Int.natAbs_add_le X Y;rw[ir];omega
theorem Sz.mul {k l:Nat} (hx:Sz X k) (hy:Sz Y l):Sz (X*Y) (k+l):=by
 refine Sz.of_lt ?_;rw[Int.natAbs_mul,tX];exact Nat.mul_lt_mul'' hx.lt hy.lt
theorem Sz.zero:Sz 0 0:=by show (limbs 0).length<=0;rw[de];exact bl _
theorem Sz.small (h:X.natAbs<4294967296):Sz X 1:=Sz.of_lt (by simpa using h)
def cN (w:World) (b:Nat) (t:TypeId) (cs:Array Value):Prop:=w.heap[b]? =some (.cells cs t (0,0))
variable {cs:Array Value} {t:TypeId}
theorem cN.lt {b:Nat} (h:cN w b t cs):b<w.heap.size:=(uA.1 h).1
theorem cN.new (w:World) (t:TypeId) (cs:Array Value):cN (w.alloc (.cells cs t)) w.heap.size t cs:=World.alloc_heap_new w _
theorem cN.newAt {b:Nat} (hb:b=w.heap.size) (t:TypeId) (cs:Array Value):cN (w.alloc (.cells cs t)) b t cs:=hb▸cN.new w t cs
theorem cN.bS {b:Nat} (h:cN w b t cs) (hb:aD w w'):cN w' b t cs:=(tZ hb b h.lt).trans h
theorem cN.alloc {b:Nat} (h:cN w b t cs) (o:Obj):cN (w.alloc o) b t cs:=h.bS ((aD.refl w).alloc o)
theorem cN.drew {b:Nat} (h:cN w b t cs):cN w.drew b t cs:=h
theorem cN.drewN {b:Nat} (h:cN w b t cs) (n:Nat):cN (w.drewN n) b t cs:=h
variable {j:Nat}
theorem cN.cell {b:Nat} (h:cN w b t cs) (hj:cs[j]? =some u):w.cell? ⟨b,j,none⟩=some u:=by
 simp[World.cell?,show w.heap[b]? =_ from h,hj]
theorem cN.frozen {b:Nat} (h:cN w b t cs) (j:Nat):w.frozen? ⟨b,j,none⟩=false:=by
 simp[World.frozen?,show w.heap[b]? =_ from h]
theorem cN.set {b:Nat} (h:cN w b t cs) (v:Value):cN (w.setCell ⟨b,j,none⟩ v) b t (cs.setIfInBounds j v):=by
 obtain⟨hlt,hk⟩:=uA.1 h;show (w.heap.modify b _)[b]? =_;rw[wA (by rw[Array.size_modify];exact hlt),Array.getElem_modify_self,hk];rfl
variable {b':Nat}
theorem cN.other {b:Nat} (h:cN w b t cs) (hne:b≠b') (v:Value):cN (w.setCell ⟨b',j,none⟩ v) b t cs:=
 (uE _ _ _ b hne).trans h
theorem cN.two {b:Nat} (h:cN w b t #[u,v]):w.cell? ⟨b,0,none⟩=some u/\w.cell? ⟨b,1,none⟩=some v/\w.frozen? ⟨b,0,none⟩=false/\w.frozen? ⟨b,1,none⟩=false:=
 ⟨h.cell rfl,h.cell rfl,h.frozen 0,h.frozen 1⟩
theorem cN.dv {b:Nat} (h:cN w b t #[u,v]) (u' v':Value):cN ((w.setCell ⟨b,0,none⟩ u').setCell ⟨b,1,none⟩ v') b t #[u',v']:=(h.set (j:=0) u').set (j:=1) v'
theorem aD.dv (h:aD w w') {b:Nat} (hb:w.heap.size<=b) (u v:Value):aD w ((w'.setCell ⟨b,0,none⟩ u).setCell ⟨b,1,none⟩ v):=(h.setCell (p:=⟨b,0,none⟩) hb u).setCell (p:=⟨b,1,none⟩) hb v
theorem qS (w:World) (t t':TypeId) (cs jU:Array Value):cN ((w.alloc (.cells cs t)).alloc (.cells jU t')) w.heap.size t cs/\cN ((w.alloc (.cells cs t)).alloc (.cells jU t')) (w.heap.size+1) t' jU/\aD w ((w.alloc (.cells cs t)).alloc (.cells jU t')):=
 ⟨(cN.new _ _ _).alloc _,cN.newAt cZ _ _,((aD.refl w).alloc _).alloc _⟩
theorem sP (w:World) (t t' OA:TypeId) (cs jU wj:Array Value):cN (((w.alloc (.cells cs t)).alloc (.cells jU t')).alloc (.cells wj OA)) w.heap.size t cs/\cN (((w.alloc (.cells cs t)).alloc (.cells jU t')).alloc (.cells wj OA)) (w.heap.size+1) t' jU/\
  cN (((w.alloc (.cells cs t)).alloc (.cells jU t')).alloc (.cells wj OA)) (w.heap.size+2) OA wj/\aD w (((w.alloc (.cells cs t)).alloc (.cells jU t')).alloc (.cells wj OA)):=
 ⟨(qS w t t' cs jU).1.alloc _,(qS w t t' cs jU).2.1.alloc _,cN.newAt cZ _ _,(qS w t t' cs jU).2.2.alloc _⟩
def aH (W:World) (r:Nat) (w':World):Prop:=W.heap.size<=w'.heap.size/\∀ b,b<W.heap.size->b≠r->w'.heap[b]? =W.heap[b]?
theorem aH.refl (W:World) (r:Nat):aH W r W:=⟨bl _,λ_ _ _=>rfl⟩
variable {r:Nat} {W:World}
theorem aH.drew (h:aH W r w'):aH W r w'.drew:=h
theorem aH.aN {b:World} (h:aH W r a) (k:aD a b):aH W r b:=
 ⟨bG h.1 k.size,λj hj hr=>(tZ k j (tS hj h.1)).trans (h.2 j hj hr)⟩
theorem aH.alloc (h:aH W r a) (o:Obj):aH W r (a.alloc o):=h.aN ((aD.refl a).alloc o)
theorem aH.set (h:aH W r a) (v:Value):aH W r (a.setCell ⟨r,j,none⟩ v):=
 ⟨bG h.1 cZ,λb hb hr=>(uE _ _ _ b hr).trans (h.2 b hb hr)⟩
theorem aH.cls {b:Nat} (h:aH W r w') (hc:cN W b t cs) (hr:b≠r):cN w' b t cs:=(h.2 b hc.lt hr).trans hc
theorem aH.cells {b:Nat} (h:aH W r w') (hc:cN W b t #[u,v]) (hr:b≠r):w'.cell? ⟨b,0,none⟩=some u/\w'.cell? ⟨b,1,none⟩=some v:=
 ⟨(h.cls hc hr).cell rfl,(h.cls hc hr).cell rfl⟩
variable {base:Nat}
theorem cN.notRow {b e sz n:Nat} {xs:List Value} (h:cN w b t cs) (hte:t≠e) (hr:w.ownsRow base e sz v n xs):some b≠v.ownBlock:=by
 rcases hr.2 with ⟨rfl,rfl⟩|⟨g,cap,cur,rfl,_,hg,_⟩
 ·simp[Value.ownBlock]
 ·intro e';obtain rfl:b=g:=by simpa [Value.ownBlock] using e'
  have:=(show w.heap[b]? =_ from h).symm.trans hg;simp at this;exact hte this.2
theorem Own.XP {b e sz n:Nat} {xs:List Value} (hr:w.ownsRow base e sz v n xs) (h:cN w b t cs) (hte:t≠e) (u:Value):(w.setCell ⟨b,j,none⟩ u).ownsRow base e sz v n xs:=by
 refine⟨hr.1,?_⟩;rcases hr.2 with h2|⟨g,cap,cur,hv,hb,hg,r⟩
 ·exact .inl h2
 ·refine .inr ⟨g,cap,cur,hv,hb,?_,r⟩
  have hne:g≠b:=λe'=>by
   have:=h.notRow hte hr;rw[hv] at this;simp[Value.ownBlock,e'] at this
  exact (uE _ _ _ g hne).trans hg
variable {x y:Value}
theorem Own.dv {b e sz n:Nat} {xs:List Value} (hr:w.ownsRow base e sz v n xs) (h:cN w b t #[x,y]) (hte:t≠e) (u u':Value):((w.setCell ⟨b,0,none⟩ u).setCell ⟨b,1,none⟩ u').ownsRow base e sz v n xs:=
 Own.XP (Own.XP hr h hte u) (h.set (j:=0) u) hte u'
theorem cN.fS {b:Nat} (h:cN w b t cs) (hne:b≠b') (u v:Value):cN ((w.setCell ⟨b',0,none⟩ u).setCell ⟨b',1,none⟩ v) b t cs:=(h.other hne u).other hne v
theorem aE.dv {b:Nat} (h:aE w B v X) (hc:cN w b t #[x,y]) (ht:t≠78) (u u':Value):aE ((w.setCell ⟨b,0,none⟩ u).setCell ⟨b,1,none⟩ u') B v X:=by
 obtain⟨p,c,hv,ho⟩:=h;exact⟨p,c,hv,Own.dv ho hc ht u u'⟩
theorem aE.form (h:aE w B v X):∃ s p n c,v=.agg #[.bool s,.slice p n c]:=by
 obtain⟨p,c,hv,_⟩:=h;exact⟨_,_,_,_,hv⟩
theorem df.jj (h:df w v X):∃ s p n c,v=.agg #[.bool s,.slice p n c]:=by
 obtain⟨p,c,hv,_⟩:=h;exact⟨_,_,_,_,hv⟩
theorem cX.form {k:Nat} (h:cX w v X k):∃ s p n c,v=.agg #[.bool s,.slice p n c]:=by
 obtain⟨neg,xs,⟨p,c,hv,_⟩,_⟩:=h;exact⟨_,_,_,_,hv⟩
theorem aH.uQ {b:Nat} (h:aH W r a) (hb:W.heap.size<=b) (v:Value):aH W r (a.setCell ⟨b,j,none⟩ v):=
 ⟨bG h.1 cZ,λk hk hr=>(uE _ _ _ k (by show k≠b;omega)).trans (h.2 k hk hr)⟩
variable {s:Bool}
theorem df.parts {n:Nat} (h:df w (.agg #[.bool s,.slice p n c]) X):n=(limbs X.natAbs).length/\Rd w 1 (.slice p n c) n (ints .u32 (limbs X.natAbs))/\X=if s=true then-(X.natAbs:Int) else (X.natAbs:Int):=by
 obtain⟨p',c',hv,hr,_⟩:=h;simp only[Value.agg.injEq,Array.mk.injEq,List.cons.injEq,Value.bool.injEq,Value.slice.injEq,and_true] at hv;obtain⟨rfl,rfl,rfl,rfl⟩:=hv;refine⟨aa,hr,?_⟩
 split
 ·rename_i h;have:=nO h;omega
 ·rename_i h;have:¬ X<0:=λh'=>h (aw h');omega
theorem df.own {p':Option Addr} {n c':Nat} (h:df w (.agg #[.bool s,.slice p n c]) X) (ho:w'.ownsRow B 78 1 (.slice p' n c') n (ints .u32 (limbs X.natAbs))):
  aE w' B (.agg #[.bool s,.slice p' n c']) X:=by
 obtain⟨p1,c1,hv,hr,_⟩:=h;simp only[Value.agg.injEq,Array.mk.injEq,List.cons.injEq,Value.bool.injEq,Value.slice.injEq,and_true] at hv;obtain⟨rfl,rfl,rfl,rfl⟩:=hv;exact⟨p',c',aa,ho⟩
theorem aE.ofNat {n:Nat} (h:w.ownsRow B 78 1 (.slice p n c) n (ints .u32 (limbs m))) (hn:n=(limbs m).length):aE w B (.agg #[.bool false,.slice p n c]) (m:Int):=by
 subst hn;refine⟨p,c,?_,by simpa using h⟩
 congr 3
theorem sign_neg (h:X<0):X.sign= -1:=Int.sign_eq_neg_one_of_neg h
theorem fR (h:0<X):X.sign=1:=Int.sign_eq_one_of_pos h
theorem df.TV {n:Nat} (h:df w (.agg #[.bool s,.slice p n c]) X):s=decide (X<0):=by
 obtain⟨p',c',hv,hr,_⟩:=h;simp only[Value.agg.injEq,Array.mk.injEq,List.cons.injEq,Value.bool.injEq,Value.slice.injEq,and_true] at hv;exact hv.1
def cd (W:World) (r q:Nat) (w':World):Prop:=W.heap.size<=w'.heap.size/\∀ b,b<W.heap.size->b≠r->b≠q->w'.heap[b]? =W.heap[b]?
theorem cd.refl (W:World) (r q:Nat):cd W r q W:=⟨bl _,λ_ _ _ _=>rfl⟩
theorem cd.drew {q:Nat} (h:cd W r q w'):cd W r q w'.drew:=h
theorem cd.aN {b:World} {q:Nat} (h:cd W r q a) (k:aD a b):cd W r q b:=
 ⟨bG h.1 k.size,λj hj hr hq=>(tZ k j (tS hj h.1)).trans (h.2 j hj hr hq)⟩
theorem cd.XQ {q:Nat} (h:cd W r q a) (v:Value):cd W r q (a.setCell ⟨r,j,none⟩ v):=
 ⟨bG h.1 cZ,λb hb hr hq=>(uE _ _ _ b hr).trans (h.2 b hb hr hq)⟩
theorem cd.sQ {q:Nat} (h:cd W r q a) (v:Value):cd W r q (a.setCell ⟨q,j,none⟩ v):=
 ⟨bG h.1 cZ,λb hb hr hq=>(uE _ _ _ b hq).trans (h.2 b hb hr hq)⟩
theorem cd.cls {q b:Nat} (h:cd W r q w') (hc:cN W b t cs) (hr:b≠r) (hq:b≠q):cN w' b t cs:=(h.2 b hc.lt hr hq).trans hc
theorem cN.apart {a b:Nat} {t':TypeId} {jU:Array Value} (h:cN w a t cs) (h':cN w b t' jU) (ht:t≠t'):a≠b:=λe=>by
 subst e;have:=(show w.heap[_]? =_ from h).symm.trans h';simp at this;exact ht this.2
theorem aE.cast (h:aE w B v X) (e:X=Y):aE w B v Y:=e▸h
theorem sum_len {a b n:Nat} (hn:n=(limbs a).length) (hm:m=(limbs b).length):(limbs (a+b)).length<=n+m+1:=by
 have:=Sz.add (X:=(a:Int)) (Y:=(b:Int)) (k:=n) (l:=m) (m:=n+m) (by show (limbs _).length<=_;rw[AZ];omega) (by show (limbs _).length<=_;rw[AZ];omega) ae ae;have e:((a:Int)+(b:Int)).natAbs=a+b:=ae;unfold Sz at this
 rwa [e] at this
inductive AV where
 | val (v:Value)
 | box (i off:Nat)
 | xn (i off:Nat)
 | row (i o n c:Nat)
 | fn (g:FuncId) (first:List Value) (cap:List (Nat×Nat))
 | agg (l:List AV)
 | nJ (l:List AV)
def AV.leaf (β:Nat->Nat):AV->Value
 | .val v=>v
 | .box i off=>.pointer (some ⟨β i,off,none⟩)
 | .xn i off=>.pointer (some ⟨β i,off,none⟩)
 | .row i o n c=>.slice (some ⟨β i,o,none⟩) n c
 | .fn g first cap=>.func (.func g) first.toArray (cap.map λp=>Value.pointer (some ⟨β p.1,p.2,none⟩)).toArray
 | .agg _=>undef
 | .nJ _=>undef
def AV.nR (β:Nat->Nat):AV->Value
 | .val v=>v
 | .box i off=>.pointer (some ⟨β i,off,none⟩)
 | .xn i off=>.pointer (some ⟨β i,off,none⟩)
 | .row i o n c=>.slice (some ⟨β i,o,none⟩) n c
 | .fn g first cap=>.func (.func g) first.toArray (cap.map λp=>Value.pointer (some ⟨β p.1,p.2,none⟩)).toArray
 | .agg l=>.agg (l.map (AV.leaf β)).toArray
 | .nJ _=>undef
def AV.bH (β:Nat->Nat):AV->Value
 | .val v=>v
 | .box i off=>.pointer (some ⟨β i,off,none⟩)
 | .xn i off=>.pointer (some ⟨β i,off,none⟩)
 | .row i o n c=>.slice (some ⟨β i,o,none⟩) n c
 | .fn g first cap=>.func (.func g) first.toArray (cap.map λp=>Value.pointer (some ⟨β p.1,p.2,none⟩)).toArray
 | .agg l=>.agg (l.map (AV.leaf β)).toArray
 | .nJ l=>.tuple (l.map (AV.nR β)).toArray
def AV.dN:AV->List Nat
 | .box i _=>[i]
 | .xn i _=>[i]
 | .row i _ _ _=>[i]
 | .fn _ _ cap=>cap.map (·.1)
 | _=>[]
def bM:List AV->List Nat
 | []=>[]
 | v::r=>v.dN++bM r
def AV.Ac:AV->List Nat
 | .box i _=>[i]
 | .xn i _=>[i]
 | .row i _ _ _=>[i]
 | .fn _ _ cap=>cap.map (·.1)
 | .agg l=>bM l
 | _=>[]
def JQ:List AV->List Nat
 | []=>[]
 | v::r=>v.Ac++JQ r
def AV.ids:AV->List Nat
 | .box i _=>[i]
 | .xn i _=>[i]
 | .row i _ _ _=>[i]
 | .fn _ _ cap=>cap.map (·.1)
 | .agg l=>bM l
 | .nJ l=>JQ l
 | .val _=>[]
def gl:List AV->List Nat
 | []=>[]
 | v::r=>v.ids++gl r
variable {l:List AV} {i:Nat}
theorem dh:i∈bM l↔∃ v∈l,i∈v.dN:=by
 induction l with
 | nil=>exact⟨λh=>(by cases h),λ⟨_,h,_⟩=>(by cases h)⟩
 | cons x r ih=>rw[bM,mV,ih];simp
theorem sR:i∈JQ l↔∃ v∈l,i∈v.Ac:=by
 induction l with
 | nil=>exact⟨λh=>(by cases h),λ⟨_,h,_⟩=>(by cases h)⟩
 | cons x r ih=>rw[JQ,mV,ih];simp
theorem GF:i∈gl l↔∃ v∈l,i∈v.ids:=by
 induction l with
 | nil=>exact⟨λh=>(by cases h),λ⟨_,h,_⟩=>(by cases h)⟩
 | cons x r ih=>rw[gl,mV,ih];simp
variable {β dQ:Nat->Nat}
theorem Ad {cap:List (Nat×Nat)} (h:∀ i∈cap.map (·.1),dQ i=β i):(cap.map λp=>Value.pointer (some ⟨dQ p.1,p.2,none⟩))=cap.map λp=>Value.pointer (some ⟨β p.1,p.2,none⟩):=
 tR λp hp=>by rw[h p.1 (eG.2 ⟨p,hp,rfl⟩)]
theorem AV.Po:∀ {v:AV},(∀ i∈v.dN,dQ i=β i)->v.leaf dQ=v.leaf β
 | .val _,_=>rfl
 | .box i off,h=>by simp only[AV.leaf,h i (by simp[AV.dN])]
 | .xn i off,h=>by simp only[AV.leaf,h i (by simp[AV.dN])]
 | .row i o n c,h=>by simp only[AV.leaf,h i (by simp[AV.dN])]
 | .fn g first cap,h=>by simp only[AV.leaf,Ad h]
 | .agg _,_=>rfl
 | .nJ _,_=>rfl
theorem nc (h:∀ i∈bM l,dQ i=β i):l.map (AV.leaf dQ)=l.map (AV.leaf β):=
 tR λv hv=>AV.Po λi hi=>h i (dh.2 ⟨v,hv,hi⟩)
theorem AV.Mb:∀ {v:AV},(∀ i∈v.Ac,dQ i=β i)->v.nR dQ=v.nR β
 | .val _,_=>rfl
 | .box i off,h=>by simp only[AV.nR,h i (by simp[AV.Ac])]
 | .xn i off,h=>by simp only[AV.nR,h i (by simp[AV.Ac])]
 | .row i o n c,h=>by simp only[AV.nR,h i (by simp[AV.Ac])]
 | .fn g first cap,h=>by simp only[AV.nR,Ad h]
 | .agg l,h=>by simp only[AV.nR,nc (l:=l) h]
 | .nJ _,_=>rfl
theorem AV.Eo:∀ {v:AV},(∀ i∈v.ids,dQ i=β i)->v.bH dQ=v.bH β
 | .val _,_=>rfl
 | .box i off,h=>by simp only[AV.bH,h i (by simp[AV.ids])]
 | .xn i off,h=>by simp only[AV.bH,h i (by simp[AV.ids])]
 | .row i o n c,h=>by simp only[AV.bH,h i (by simp[AV.ids])]
 | .fn g first cap,h=>by simp only[AV.bH,Ad h]
 | .agg l,h=>by simp only[AV.bH,nc (l:=l) h]
 | .nJ l,h=>by
   have:l.map (AV.nR dQ)=l.map (AV.nR β):=tR λv hv=>AV.Mb λi hi=>h i (sR.2 ⟨v,hv,hi⟩);simp only[AV.bH,this]
def Fr:=Nat->Option AV
def Hp:=Nat->Option (TypeId×List AV)
def Fr.put (F:Fr) (d:Nat) (v:AV):Fr:=λn=>bif Nat.beq n d then some v else F n
def Fr.dw (F:Fr):Option Nat->AV->Fr
 | none,_=>F
 | some d,v=>F.put d v
def Hp.put (H:Hp) (d:Nat) (c:TypeId×List AV):Hp:=λn=>bif Nat.beq n d then some c else H n
def Hp.upd (H:Hp):Option (Nat×(TypeId×List AV))->Hp
 | none=>H
 | some x=>H.put x.1 x.2
def Hp.jk (H:Hp):List (Nat×(TypeId×List AV))->Hp
 | []=>H
 | x::r=>(H.put x.1 x.2).jk r
def AV.xS (i:Nat) (ρ:AV->Value) (x:AV):AV:=bif x.dN.any (Nat.beq i) then .val (ρ x) else x
def AV.fg1 (i:Nat) (ρ:AV->Value):AV->AV
 | .agg l=>.agg (l.map (AV.xS i ρ))
 | x=>x.xS i ρ
def AV.fg (i:Nat) (ρ:AV->Value):AV->AV
 | .agg l=>.agg (l.map (AV.xS i ρ))
 | .nJ l=>.nJ (l.map (AV.fg1 i ρ))
 | x=>x.xS i ρ
def Fr.forget (F:Fr):Option Nat->(AV->Value)->Fr
 | none,_=>F
 | some i,ρ=>λn=>match F n with
   | some v=>some (v.fg i ρ)
   | none=>none
def Hp.forget (H:Hp):Option Nat->(AV->Value)->Hp
 | none,_=>H
 | some i,ρ=>λn=>bif Nat.beq n i then none else match H n with
   | some (t,cs)=>some (t,cs.map (AV.xS i ρ))
   | none=>none
structure TI where
 size:Nat
 agg:Bool
 zero:Value
 places:Array (Nat×Nat)
 TW:Array Bool
 bool:Bool
 elem:Option (TypeId×Nat)
 kind:Option IntKind
 ptr:Bool:=false
structure TI.Ok (P:Program) (t:TypeId) (i:TI):Prop where
 row:∃ d,P.underlying t=some d/\d.isRow=i.agg
 size:(P.info? t).map (·.size)=some i.size
 isBool:i.bool=true->P.underlying t=some .bool
 isSlice:∀ e n,i.elem=some (e,n)->P.underlying t=some (.slice e)/\∀ w,(sizeOf e).run P w=.ok n w
 isInt:∀ k,i.kind=some k->P.underlying t=some (.int k)
 RY:i.ptr=true->P.underlying t=some (.pointer (P.pointee t)):=by exact λh=>by cases h
 lone:i.agg=false->i.size=1
 Ep:i.zero.cells.size=i.size
 Mc:(P.info? t).map (·.zero)=some (some i.zero)
 bytes:(P.info? t).map (λq=>Nat.ble q.bytes (24*i.size))=some true
 pos:0<i.size
 zero:∀ w,(zeroValue t).run P w=.ok i.zero w
 XR:∀ k p,i.places[k]? =some p->∀ b o w,(Instr.fieldAt t (.pointer (some ⟨b,o,none⟩)) k).run P w=.ok (.pointer (some ⟨b,o+p.1,none⟩)) w
 fld:∀ k p,i.places[k]? =some p->∀ cs w v,(match i.TW[k]? with|some true=>some (Value.agg (cs.extract p.1 (p.1+p.2)))|some false=>cs[p.1]? |none=>none)=some v->(Instr.field t (.agg cs) k).run P w=.ok v w
 bld:i.agg=true->∀ ps w cs,Instr.fill (i.places[·]?) i.zero.cells ps.toList=some cs->(Instr.build t ps).run P w=.ok (.agg cs) w
structure KC where
 U:TypeId
 S:Nat->Prop
 T:TypeId->Bool
def KC.fz (K:KC) (t:TypeId):Bool:=Nat.beq t K.U || K.T t
abbrev KU (U:TypeId):KC:=⟨U,λ_=>True,λ_=>false⟩
def cJ:Value->Bool
 | .agg _=>false
 | .tuple _=>false
 | .int .u32 _=>false
 | _=>true
def bO:AV->Bool
 | .val v=>cJ v
 | .agg _=>false
 | .nJ _=>false
 | _=>true
theorem Er (h:cJ v=true):v.oneCell'=true:=by
 unfold cJ at h
 split at h <;> first|cases h|skip
 unfold Value.oneCell'
 split <;> simp_all
theorem uR:∀ {x:AV},bO x=true->cJ (x.leaf β)=true
 | .val _,h=>h
 | .box _ _,_=>rfl
 | .xn _ _,_=>rfl
 | .row _ _ _ _,_=>rfl
 | .fn _ _ _,_=>rfl
 | .agg _,h=>by cases h
 | .nJ _,h=>by cases h
theorem gw (h:l.all bO=true):(l.map (AV.leaf β)).all cJ=true:=
 eg.2 λx hx=>by
  obtain⟨y,hy,rfl⟩:=eG.1 hx;exact uR (eg.1 h y hy)
structure bg (K:KC) (w w':World):Prop where
 size:w.heap.size<=w'.heap.size
 cell:∀ a x,K.S a.block->w.cell? a=some (.int .u32 x)->w'.cell? a=some (.int .u32 x)
 block:∀ (t:TypeId) (g:Nat) (cur:Array Value),K.fz t=true->K.S g->w.heap[g]? =some (Obj.cells cur t (0,0))->w'.heap[g]? =some (Obj.cells cur t (0,0))
 map:∀ (g:Nat) es c,w.heap[g]? =some (Obj.map es c)->w'.heap[g]? =some (Obj.map es c)
abbrev Kp (U:TypeId) (w w':World):Prop:=bg (KU U) w w'
theorem bg.refl (K:KC) (w:World):bg K w w:=⟨bl _,λ_ _ _ h=>h,λ_ _ _ _ _ h=>h,λ_ _ _ h=>h⟩
variable {K:KC}
theorem bg.aN {b c:World} (h:bg K a b) (k:bg K b c):bg K a c:=
 ⟨bG h.size k.size,λ_ _ s h1=>k.cell _ _ s (h.cell _ _ s h1),λ_ _ _ f s h1=>k.block _ _ _ f s (h.block _ _ _ f s h1),λ_ _ _ h1=>k.map _ _ _ (h.map _ _ _ h1)⟩
theorem bg.of (h:aD w w'):bg K w w':=
 ⟨h.size,λ_ _ _ hc=>h.cell hc,λ_ g _ _ _ hg=>(tZ h g (uA.1 hg).1).trans hg,λg _ _ hg=>(tZ h g (uA.1 hg).1).trans hg⟩
variable {U:TypeId}
theorem Kp.aN {b c:World} (h:Kp U a b) (k:Kp U b c):Kp U a c:=bg.aN h k
theorem Kp.of (h:aD w w'):Kp U w w':=bg.of h
theorem bg.fq (h:bg K w w'):bg ⟨K.U,K.S,λ_=>false⟩ w w':=
 ⟨h.size,h.cell,λt g cur f s hg=>h.block t g cur (by
   unfold KC.fz at f ⊢;rw[Hq] at f ⊢;exact f.imp id (λe=>by cases e)) s hg,h.map⟩
def sm (H:Hp) (β:Nat->Nat) (i:Nat):Obj:=match H i with
 | some (t,cs)=>.cells (cs.map (AV.leaf β)).toArray t
 | none=>.cells #[] 0
def mkW (H:Hp) (β:Nat->Nat):Nat->World->World
 | 0,w=>w
 | n+1,w=>(mkW H β n w).alloc (sm H β n)
theorem Md (H:Hp) (β:Nat->Nat) (w:World):∀ n,(mkW H β n w).heap.size=w.heap.size+n
 | 0=>rfl
 | n+1=>by show ((mkW H β n w).alloc _).heap.size=_;simp[Md H β w n];omega
theorem Dh (H:Hp) (β:Nat->Nat) (w:World):∀ n,aD w (mkW H β n w)
 | 0=>aD.refl w
 | n+1=>(Dh H β w n).alloc _
theorem Pp (H:Hp) (β:Nat->Nat) (w:World) {i:Nat} {t:TypeId} {cs:List AV} (h:H i=some (t,cs)):∀ n,i<n->cN (mkW H β n w) (w.heap.size+i) t (cs.map (AV.leaf β)).toArray
 | 0,hi=>ae
 | n+1,hi=>by
   by_cases e:i=n
   ·subst e;show cN ((mkW H β i w).alloc (sm H β i)) _ _ _;have hb:sm H β i=.cells (cs.map (AV.leaf β)).toArray t:=by unfold sm;rw[h]
    rw[hb,<-Md H β w i];exact cN.new _ _ _
   ·exact (Pp H β w h n ae).alloc _
structure Stp (K:KC) (Cl:Nat->Nat->Prop) (w w':World):Prop where
 os:w'.os=w.os
 tape:w'.tape=w.tape
 output:w'.output=w.output
 size:w.heap.size<=w'.heap.size
 sm:∀ g,g<w.heap.size->w'.heap[g]? =w.heap[g]?\/((∃ i,Cl i g)/\∃ t cs,cN w' g t (List.toArray cs)/\K.fz t=false/\cs.all cJ=true)\/¬ K.S g
theorem Stp.bS {Cl:Nat->Nat->Prop} (h:aD w w'):Stp K Cl w w':=⟨h.os,h.tape,h.output,h.size,λg hg=>.inl (tZ h g hg)⟩
variable {w0:World}
theorem Pq (h:aD w0 w) (keep:∀ b,b<w0.heap.size->K.S b) (s:Stp K (λ_ g=>w0.heap.size<=g) w w'):aD w0 w':=
 Below.trans h ⟨s.os,s.tape,s.output,s.size,λg hg=>by
  rcases s.sm g (tS hg h.size) with e|⟨⟨_,hi⟩,_⟩|e
  ·exact e
  ·exact absurd hi (Nat.not_le.2 hg)
  ·exact absurd (keep g hg) e⟩
theorem TY {w1:World} {top:Nat} (h:aD w0 w1) (H:Hp) (hf:∀ i,top<=i->H i=none):
  ∃ β w2,bg K w1 w2/\aD w0 w2/\(∀ i t cs,H i=some (t,cs)->w0.heap.size<=β i/\cN w2 (β i) t (cs.map (AV.leaf β)).toArray)/\∀ i j,H i≠none->H j≠none->β i=β j->i=j:=by
 let β:Nat->Nat:=λi=>w1.heap.size+i
 refine⟨β,mkW H β top w1,bg.of (Dh H β w1 _),h.aN (Dh H β w1 _),λi t cs hi=>⟨?_,Pp H β w1 hi _ ?_⟩,λi j _ _ e=> ?_⟩
 ·have:=h.size;show w0.heap.size<=w1.heap.size+i;omega
 ·apply Xh;intro e;rw[hf i ae] at hi;cases hi
 ·change w1.heap.size+i=w1.heap.size+j at e;omega
structure Cx where
 P:Program
 w0:World
 N:Nat
 K:KC
 SU:TypeId->Bool
 ti:TypeId->Option TI
 keep:∀ b,b<w0.heap.size->K.S b
 Cl:Nat->Nat->Prop:=λ_ g=>w0.heap.size<=g
 Old:World->Prop:=λw=>aD w0 w
 top:Nat:=2*N
 topN:2*N<=top:=by exact bl _
 BB:∀ i g,i<2*N->w0.heap.size<=g->Cl i g:=by exact λ_ _ _ h=>h
 newMv:∀ i j g,Cl i g->j<2*N->Cl j g:=by exact λ_ _ _ h _=>h
 ll:∀ w,Old w->w0.heap.size<=w.heap.size:=by exact λ_ h=>aD.size h
 vJ:Old w0:=by exact aD.refl _
 Di:∀ w w',Old w->(∀ b,b<w0.heap.size->K.S b)->bg K w w'->Stp K Cl w w'->Old w':=by exact λ_ _ h k _ s=>Pq h k s
 RZ:∀ w a u,Old w->(∀ i,¬ Cl i a.block)->w0.cell? a=some u->w.cell? a=some u:=by exact λ_ _ _ h _ hc=>aD.cell h hc
 lay:∀ w1 (H:Hp),Old w1->(∀ i t cs,H i=some (t,cs)->K.fz t=false/\cs.all bO=true)->(∀ i,top<=i->H i=none)->
  ∃ β w2,bg K w1 w2/\Old w2/\(∀ i t cs,H i=some (t,cs)->Cl i (β i)/\cN w2 (β i) t (cs.map (AV.leaf β)).toArray)/\∀ i j,H i≠none->H j≠none->β i=β j->i=j:=by exact λ_ H h _ hf=>TY h H hf
theorem Cx.aN (C:Cx) (h:C.Old w) (k:aD w w'):C.Old w':=C.Di _ _ h C.keep (bg.of k) (Stp.bS k)
def Cx.At (C:Cx) (a:Addr) (u:Value):Prop:=∀ w,C.Old w->w.cell? a=some u
def Cx.Ok (C:Cx):Prop:=∀ t i,C.ti t=some i->TI.Ok C.P t i
def ev (F:Fr):Operand->Option AV
 | .tmp t=>F t
 | .const v=>some (.val v)
 | .func f=>some (.val (.func (.func f) #[] #[]))
 | .global _=>none
def nS (F:Fr) (x:Operand):Option Value:=match ev F x with|some (.val v)=>some v|_=>none
def evs (F:Fr):List Operand->Option (List Value)
 | []=>some []
 | x::r=>match nS F x,evs F r with|some v,some l=>some (v::l)|_,_=>none
def BC (F:Fr):List Operand->Option (List AV)
 | []=>some []
 | x::r=>match ev F x,BC F r with|some v,some l=>some (v::l)|_,_=>none
def Dj:List AV->Option (List (Nat×Nat))
 | []=>some []
 | .box i off::r=>(match Dj r with|some l=>some ((i,off)::l)|none=>none)
 | _::_=>none
def Sa (F:Fr) (x:Operand):Option (FuncId×List AV×List AV):=match ev F x with
 | some (.val (.func (.func g) first cap))=>some (g,first.toList.map .val,cap.toList.map .val)
 | some (.fn g first cap)=>some (g,first.map .val,cap.map λp=>.box p.1 p.2)
 | _=>none
def JR (F:Fr):List (Nat×Operand)->Option (List (Nat×AV))
 | []=>some []
 | (k,x)::r=>match ev F x,JR F r with|some v,some l=>some ((k,v)::l)|_,_=>none
def evo (F:Fr):Option Operand->Option (Option Int)
 | none=>some none
 | some x=>match nS F x with|some (.int _ k)=>some (some k)|_=>none
def binI (op:BinOp) (k:IntKind) (a b:Int):Option Value:=
 match op with
 | .eql=>some (.bool (a == b))
 | .neq=>some (.bool (a != b))
 | .lss=>some (.bool (decide (a<b)))
 | .leq=>some (.bool (decide (a<=b)))
 | .gtr=>some (.bool (decide (a>b)))
 | .geq=>some (.bool (decide (a>=b)))
 | .add=>some (.int k (k.wrap (a+b)))
 | .sub=>some (.int k (k.wrap (a-b)))
 | .mul=>some (.int k (k.wrap (a*b)))
 | .quo=>bif decide (b=0) then none else some (.int k (k.wrap (a.tdiv b)))
 | .rem=>bif decide (b=0) then none else some (.int k (a.tmod b))
 | .and=>some (.int k (bits .and k a b))
 | .or=>some (.int k (bits .or k a b))
 | .xor=>some (.int k (bits .xor k a b))
 | .andNot=>some (.int k (bits .andNot k a b))
 | _=>none
def shI (op:BinOp) (k:IntKind) (a b:Int):Option Value:=
 match op with
 | .shl=>some (.int k (k.wrap (a*2^min b.toNat k.bits)))
 | .shr=>some (.int k (a.fdiv (2^min b.toNat k.bits)))
 | _=>none
def isSh:BinOp->Bool
 | .shl=>true
 | .shr=>true
 | _=>false
def binS (op:BinOp) (a b:ByteArray):Option Value:=
 match op with
 | .eql=>some (.bool (a.toList == b.toList))
 | .neq=>some (.bool !(a.toList == b.toList))
 | _=>none
def binB (op:BinOp) (a b:Bool):Option Value:=
 match op with
 | .eql=>some (.bool (a == b))
 | .neq=>some (.bool (!(a == b)))
 | _=>none
def yK (op:BinOp) (a:Bool):Option Value:=
 match op with
 | .eql=>some (.bool a)
 | .neq=>some (.bool (!a))
 | _=>none
def sameKind:IntKind->IntKind->Bool:=λk l=>decide (k=l)
def binA (op:BinOp):Value->Value->Option Value
 | .int k a,.int l b=>bif isSh op then (bif decide (b<0) then none else shI op k a b) else bif sameKind k l then binI op k a b else none
 | .string a,.string b=>binS op a b
 | _,_=>none
inductive rH where
 | fn (g:FuncId) (args:List AV)
 | op (o:Oper) (vs:List AV)
def rH.ids:rH->List Nat
 | .fn _ l=>gl l
 | .op _ l=>gl l
inductive Step where
 | gM (v:AV) (u:Option (Nat×(TypeId×List AV)))
 | read (i:TI) (a:Addr)
 | mv (i:TI) (cs:List AV) (off:Nat)
 | cond (φ:Prop) (v:AV) (u:Option (Nat×(TypeId×List AV)))
 | call (d:rH)
 | bad
def GG:Option AV->Step
 | some v=>.gM v none
 | none=>.bad
def yL:Option Value->Step
 | some v=>.gM (.val v) none
 | none=>.bad
def qT (i:TI) (cs:List Value):Value:=bif i.agg then .agg cs.toArray else cs.headD undef
def jl:List AV->Option (List Value)
 | []=>some []
 | .val v::r=>(match jl r with|some l=>some (v::l)|none=>none)
 | _::_=>none
def Sb {α:Type}:List AV->(List Value->α)->α->α
 | [],k,_=>k []
 | .val v::r,k,e=>Sb r (λl=>k (v::l)) e
 | _::_,_,e=>e
theorem Me {α:Type}:∀ (l:List AV) (k:List Value->α) (e:α),Sb l k e=match jl l with|some vs=>k vs|none=>e
 | [],_,_=>rfl
 | .val v::r,k,e=>by
   show Sb r (λl=>k (v::l)) e=match (match jl r with|some l=>some (v::l)|none=>none) with|some vs=>k vs|none=>e
   rw[Me r];cases jl r <;> rfl
 | .box _ _::_,_,_=>rfl
 | .xn _ _::_,_,_=>rfl
 | .row _ _ _ _::_,_,_=>rfl
 | .fn _ _ _::_,_,_=>rfl
 | .agg _::_,_,_=>rfl
 | .nJ _::_,_,_=>rfl
def BD (l:List AV):AV:=match jl l with|some vs=>.val (.agg vs.toArray)|none=>.agg l
def TZ {α:Type} (l:List AV) (k:AV->α):α:=Sb l (λvs=>k (.val (.agg vs.toArray))) (k (.agg l))
theorem ql {α:Type} (l:List AV) (k:AV->α):TZ l k=k (BD l):=by
 unfold TZ BD;rw[Me];cases jl l <;> rfl
def rI (i:TI) (cs:List AV):AV:=bif i.agg then BD cs else cs.headD (.val undef)
def ln {α:Type} {γ:Type}:List γ->(List γ->α)->α
 | [],k=>k []
 | x::r,k=>ln r λl=>k (x::l)
theorem eH {α γ:Type}:∀ (l:List γ) (k:List γ->α),ln l k=k l
 | [],_=>rfl
 | x::r,k=>eH r λl=>k (x::l)
def Ua {γ:Type}:List γ->Nat->Option γ
 | [],_=>none
 | x::_,0=>some x
 | _::r,k+1=>Ua r k
theorem Dk {γ:Type}:∀ (l:List γ) (k:Nat),Ua l k=l[k]?
 | [],_=>rfl
 | _::_,0=>rfl
 | _::r,k+1=>by rw[Ua,Dk r k];rfl
def jm:AV->Bool
 | .nJ _=>false
 | _=>true
def oO:AV->Bool
 | .agg _=>false
 | .nJ _=>false
 | _=>true
def cellsOf:AV->List AV
 | .val v=>v.cells.toList.map .val
 | .agg l=>l
 | x=>[x]
def Es (i:TI) (cs:List AV) (off:Nat):Step:=
 bif Nat.ble (off+i.size) cs.length then ln ((cs.drop off).take i.size) (λl=>bif i.agg then TZ l (λv=>.gM v none) else (match l with|x::_=>.gM x none|[]=>.bad)) else .bad
def uS (i:TI) (b:Nat) (t:TypeId) (cs:List AV) (off:Nat) (v:AV):Step:=
 bif Nat.ble (off+i.size) cs.length && Nat.beq (cellsOf v).length i.size && (cellsOf v).all bO
 then ln (cs.take off++(cellsOf v++cs.drop (off+i.size))) (λl=>.gM (.val undef) (some (b,(t,l)))) else .bad
def Mf (i:TI) (b:Nat) (t:TypeId) (cs:List AV) (off:Nat) (v:AV):Step:=
 bif Nat.beq (cellsOf v).length i.size && (cellsOf v).all bO
 then .cond (off+i.size<=cs.length) (.val undef) (some (b,(t,cs.take off++(cellsOf v++cs.drop (off+i.size))))) else .bad
def uT (K:KC) (d:Nat) (t:TypeId) (cs:List AV):Option (TypeId×List AV)->Step
 | none=>bif !K.fz t && cs.all bO then ln cs (λl=>.gM (.box d 0) (some (d,(t,l)))) else .bad
 | some _=>.bad
def JS (sz:Nat):Nat->List (Nat×AV)->Option (List AV)
 | _,[]=>some []
 | k,(j,v)::r=>bif Nat.beq j k && Nat.beq (cellsOf v).length sz && jm v then (match JS sz (k+1) r with|some l=>some (cellsOf v++l)|none=>none) else none
def BF (K:KC) (d:Nat) (e:TypeId) (n:Nat) (cs:List AV):Option (TypeId×List AV)->Step
 | none=>bif !K.fz e && cs.all bO then ln cs (λl=>.gM (.row d 0 n n) (some (d,(e,l)))) else .bad
 | some _=>.bad
def Ip (places:Array (Nat×Nat)) (cells:List AV):List (Nat×AV)->Option (List AV)
 | []=>some cells
 | (i,v)::rest=>match places[i]? with
   | none=>none
   | some p=>bif Nat.beq (cellsOf v).length p.2 && Nat.ble (p.1+p.2) cells.length && jm v then Ip places (cells.take p.1++(cellsOf v++cells.drop (p.1+p.2))) rest else none
def nK:Nat->List AV->List AV
 | 0,_=>[]
 | n+1,z=>z++nK n z
def uU (F:Fr) (o:Oper):Step:=match BC F o.op.operands.toList with|some vs=>.call (.op o vs)|none=>.bad
def Et:List Value->Option (IntKind×List Int)
 | []=>none
 | [.int k a]=>some (k,[a])
 | .int k a::r=>(match Et r with|some (l,xs)=>bif sameKind k l then some (k,a::xs) else none|none=>none)
 | _=>none
def uj:Int->List Int->Int
 | x,[]=>x
 | x,y::r=>uj (if y>x then y else x) r
def XS:Int->List Int->Int
 | x,[]=>x
 | x,y::r=>XS (if y<x then y else x) r
def qU (i:TI) (cs:List AV) (k:Nat):Step:=match i.places[k]?,i.TW[k]? with
 | some p,some true=>ln ((cs.drop p.1).take p.2) (λl=>TZ l (λv=>.gM v none))
 | some p,some false=>(match Ua cs p.1 with|some x=>bif oO x then .gM x none else .bad|none=>.bad)
 | _,_=>.bad
def act (C:Cx) (F:Fr) (H:Hp) (o:Oper):Step:=
 match o.op with
 | .move x=>GG (ev F x)
 | .assign x=>GG (ev F x)
 | .pick c x y=>match nS F c with|some (.bool t)=>GG (bif t then ev F x else ev F y)|_=>.bad
 | .unOp .not _ x=>match nS F x with|some (.bool t)=>.gM (.val (.bool !t)) none|_=>.bad
 | .unOp .neg _ x=>match nS F x with|some (.int k n)=>.gM (.val (.int k (k.wrap (0-n)))) none|_=>.bad
 | .binOp op t x y _=>match nS F x,nS F y with
   | some (.bool a),some (.bool b)=>(match C.ti t with|some i=>yL (bif i.bool then binB op a b else none)|none=>.bad)
   | some (.pointer p),some (.pointer none)=>(match C.ti t with|some i=>yL (bif i.ptr then yK op p.isNone else none)|none=>.bad)
   | some (.slice p _ _),some (.slice none n c)=>(match C.ti t with|some i=>yL (bif i.elem.isSome && (Nat.beq n 0 && Nat.beq c 0) then yK op p.isNone else none)|none=>.bad)
   | some a,some b=>yL (binA op a b)
   | none,some (.pointer none)=>(match ev F x,C.ti t with
     | some (.box _ _),some i=>yL (bif i.ptr then yK op false else none)
     | some (.xn _ _),some i=>yL (bif i.ptr then yK op false else none)
     | _,_=>.bad)
   | none,some (.slice none n c)=>(match ev F x,C.ti t with
     | some (.row _ _ _ _),some i=>yL (bif i.elem.isSome && (Nat.beq n 0 && Nat.beq c 0) then yK op false else none)
     | _,_=>.bad)
   | _,_=>.bad
 | .convert s t x=>match C.ti s,C.ti t,nS F x with
   | some _,some i,some (.int _ n)=>(match i.kind with|some k=>.gM (.val (.int k (k.wrap n))) none|none=>.bad)
   | _,_,_=>.bad
 | .extract x k=>match ev F x with
   | some (.val (.tuple vs))=>yL (Ua vs.toList k)
   | some (.nJ l)=>(match Ua l k with|some x=>bif jm x then .gM x none else .bad|none=>.bad)
   | _=>.bad
 | .field t x k=>match ev F x,C.ti t with
   | some (.val (.agg cs)),some i=>qU i (cs.toList.map .val) k
   | some (.agg l),some i=>qU i l k
   | _,_=>.bad
 | .fieldAddr t x k=>match ev F x,C.ti t with
   | some (.box b off),some i=>match i.places[k]? with|some p=>.gM (.box b (off+p.1)) none|none=>.bad
   | some (.xn b off),some i=>match i.places[k]? with|some p=>.gM (.xn b (off+p.1)) none|none=>.bad
   | some (.val (.pointer (some ⟨b,off,none⟩))),some i=>match i.places[k]? with|some p=>.gM (.val (.pointer (some ⟨b,off+p.1,none⟩))) none|none=>.bad
   | _,_=>.bad
 | .nilCheck x=>match ev F x with
   | some (.box b off)=>.gM (.box b off) none
   | some (.xn b off)=>.gM (.xn b off) none
   | some (.val (.pointer (some a)))=>.gM (.val (.pointer (some a))) none
   | _=>.bad
 | .build t ps=>match C.ti t,JR F ps.toList with
   | some i,some l=>match (bif i.agg then Ip i.places (i.zero.cells.toList.map .val) l else none) with|some cs=>ln cs (λl=>TZ l (λv=>.gM v none))|none=>.bad
   | _,_=>.bad
 | .alloc t=>match o.dst,C.ti t with
   | some d,some i=>uT C.K d t (i.zero.cells.toList.map .val) (H d)
   | _,_=>.bad
 | .box t x=>match o.dst,ev F x with
   | some d,some v=>uT C.K d t (cellsOf v) (H d)
   | _,_=>.bad
 | .load t x=>match ev F x,C.ti t with
   | some (.box b off),some i=>match H b with|some (_,cs)=>Es i cs off|none=>.bad
   | some (.xn b off),some i=>match H b with|some (_,cs)=>.mv i cs off|none=>.bad
   | some (.val (.pointer (some a))),some i=>.read i a
   | _,_=>.bad
 | .store t x y=>match ev F x,ev F y,C.ti t with
   | some (.box b off),some v,some i=>match H b with|some (tb,cs)=>uS i b tb cs off v|none=>.bad
   | some (.xn b off),some v,some i=>match H b with|some (tb,cs)=>Mf i b tb cs off v|none=>.bad
   | _,_,_=>.bad
 | .makeFunc (.func g) first cap=>match evs F first.toList,BC F cap.toList with
   | some l,some []=>.gM (.val (.func (.func g) l.toArray #[])) none
   | some l,some m=>(match Dj m with|some bs=>.gM (.fn g l bs) none|none=>.bad)
   | _,_=>.bad
 | .buildSlice t n ps=>bif C.SU t then uU F o else match o.dst,C.ti t,JR F ps.toList with
   | some d,some i,some l=>(match i.elem with
     | some (e,sz)=>(match C.ti e,JS sz 0 l with
       | some _,some cs=>bif Nat.beq ps.size n && Nat.ble (n*sz) 16777216 then BF C.K d e n cs (H d) else .bad
       | _,_=>.bad)
     | none=>.bad)
   | _,_,_=>.bad
 | .indexAddr t x ix=>match ev F x,nS F ix,C.ti t with
   | some (.val (.slice (some ⟨b,off,none⟩) n _)),some (.int _ k),some i=>(match i.elem with
     | some (_,sz)=>.cond ((0:Int)<=k/\k<(n:Int)) (.val (.pointer (some ⟨b,off+k.toNat*sz,none⟩))) none
     | none=>.bad)
   | some (.row b off n _),some (.int _ k),some i=>(match i.elem with
     | some (_,sz)=>.cond ((0:Int)<=k/\k<(n:Int)) (.xn b (off+k.toNat*sz)) none
     | none=>.bad)
   | _,_,_=>.bad
 | .makeSlice t l c=>match o.dst,C.ti t,nS F l,nS F c with
   | some d,some i,some (.int _ n),some (.int _ m)=>(match i.elem with
     | some (e,sz)=>(match C.ti e,H d with
       | some ie,none=>bif !C.K.fz e && ie.zero.cells.toList.all cJ then
        .cond (n=m/\0<=n/\n*(24*(ie.size:Int))<=140737488355328) (.row d 0 n.toNat n.toNat) (some (d,(e,nK n.toNat (ie.zero.cells.toList.map .val)))) else .bad
       | _,_=>.bad)
     | none=>.bad)
   | _,_,_,_=>.bad
 | .slice t x lo hi none=>match ev F x,C.ti t,evo F lo,evo F hi with
   | some (.row b off n c),some i,some l,some h=>(match i.elem with
     | some (_,sz)=>.cond (0<=l.getD 0/\l.getD 0<=h.getD (n:Int)/\h.getD (n:Int)<=(c:Int)/\(c:Int)<=9223372036854775807) (.row b (if c=(l.getD 0).toNat then off else off+(l.getD 0).toNat*sz) ((h.getD (n:Int)).toNat-(l.getD 0).toNat) (c-(l.getD 0).toNat)) none
     | none=>.bad)
   | some (.val (.slice p n c)),some i,some l,some h=>(match i.elem with
     | some (_,sz)=>.cond (0<=l.getD 0/\l.getD 0<=h.getD (n:Int)/\h.getD (n:Int)<=(c:Int)/\(c:Int)<=9223372036854775807) (.val (.slice (if c=(l.getD 0).toNat then p else p.map (·.add ((l.getD 0).toNat*sz))) ((h.getD (n:Int)).toNat-(l.getD 0).toNat) (c-(l.getD 0).toNat))) none
     | none=>.bad)
   | _,_,_,_=>.bad
 | .call c=>match c.callee with
   | .builtin .len=>match c.args.toList,c.argTypes.toList with
     | [x],[t]=>(match ev F x,C.ti t with
       | some (.val (.slice _ n _)),some i=>(match i.elem with|some _=>.gM (.val (.int .i64 (n:Int))) none|none=>.bad)
       | some (.row _ _ n _),some i=>(match i.elem with|some _=>.gM (.val (.int .i64 (n:Int))) none|none=>.bad)
       | _,_=>.bad)
     | _,_=>.bad
   | .builtin .max=>match (evs F c.args.toList).bind Et with
     | some (k,x::r)=>.gM (.val (.int k (uj x r))) none
     | _=>.bad
   | .builtin .min=>match (evs F c.args.toList).bind Et with
     | some (k,x::r)=>.gM (.val (.int k (XS x r))) none
     | _=>.bad
   | .value f=>match Sa F f,BC F c.args.toList with
     | some (g,first,cap),some l=>ln (first++(l++cap)) (λl=>.call (.fn g l))
     | _,_=>.bad
   | _=>uU F o
 | _=>uU F o
def wants (full:Array Oper) (F:Fr) (o:Oper):Option Bool:=
 match o.guard with
 | none=>some true
 | some (g,b)=>match (full[g]?).bind (·.dst) with
   | none=>none
   | some d=>match F d with
     | some (.val (.bool c))=>some (c == b)
     | some (.val (.tuple _))=>some false
     | _=>none
def nU (N:Nat):Option Nat->Bool
 | none=>true
 | some d=>Nat.blt d N
def stepOf (C:Cx) (full:Array Oper) (F:Fr) (H:Hp) (o:Oper):Step:=
 bif nU C.N o.dst then (match wants full F o with
  | none=>.bad
  | some false=>.gM (.val undef) none
  | some true=>act C F H o) else .bad
def XT (l:List FuncId) (c:Call):Bool:=match c.callee with | .value (.func g)=>l.any (Nat.beq g)|_=>false
def Pr (l:List FuncId) (c:Call):Bool:=match c.callee with | .value (.func g)=>l.any (Nat.beq (g+1000000))|_=>false
def aW (su:TypeId->Bool) (l:List FuncId) (o:Oper):Nat:=match o.op with
 | .move _=>0
 | .assign _=>0
 | .pick _ _ _=>0
 | .unOp .not _ _=>0
 | .unOp .neg _ _=>0
 | .binOp _ _ _ _ _=>0
 | .convert _ _ _=>0
 | .extract _ _=>0
 | .field _ _ _=>0
 | .fieldAddr _ _ _=>0
 | .nilCheck _=>0
 | .build _ _=>0
 | .makeFunc (.func _) _ _=>0
 | .indexAddr _ _ _=>0
 | .slice _ _ _ _ none=>0
 | .load _ _=>1
 | .alloc _=>2
 | .box _ _=>2
 | .makeSlice _ _ _=>2
 | .buildSlice t _ _=>bif su t then 4 else 2
 | .store _ _ _=>3
 | .call c=>(match c.callee with
   | .builtin .len=>0
   | .builtin .max=>0
   | .builtin .min=>0
   | .builtin .copy=>3
   | .value _=>bif Pr l c then 5 else bif XT l c then 3 else 4
   | _=>5)
 | .lookup _ _ _ _=>4
 | _=>5
def XU:Nat->Nat
 | 3=>1
 | 5=>2
 | _=>0
def lvl (su:TypeId->Bool) (m:Option (List FuncId)) (o:Oper):Nat:=match m with
 | none=>2
 | some l=>XU (aW su l o)
def nL (P:Program) (g:FuncId):Prop:=∃ fn,P.funcs[g]? =some fn/\(fn.name == "runtime.NumGoroutine")=false/\fn.body.isNone=false
structure nX (C:Cx) (β:Nat->Nat) (w:World) (i:Nat) (t:TypeId) (cs:List AV):Prop where
 new:C.Cl i (β i)
 ty:C.K.fz t=false
 cls:cN w (β i) t (cs.map (AV.leaf β)).toArray
 ok:cs.all bO=true
inductive Reach (H:Hp) (ids:List Nat):Nat->Prop
 | base {i:Nat}:i∈ids->Reach H ids i
 | step {i j:Nat} {t:TypeId} {cs:List AV}:Reach H ids i->H i=some (t,cs)->j∈bM cs->Reach H ids j
structure nd (C:Cx) (β:Nat->Nat) (H:Hp) (ids:List Nat) (w:World):Prop where
 own:∀ i,Reach H ids i->∀ t cs,H i=some (t,cs)->nX C β w i t cs
 apart:∀ i j,Reach H ids i->Reach H ids j->H i≠none->H j≠none->β i=β j->i=j
structure GH (C:Cx) (β dQ:Nat->Nat) (H:Hp) (ids:List Nat) (del:Option Nat) (ups:List (Nat×(TypeId×List AV))) (w w':World):Prop where
 os:w'.os=w.os
 tape:w'.tape=w.tape
 output:w'.output=w.output
 size:w.heap.size<=w'.heap.size
 block:∀ b,b<w.heap.size->(∀ x∈ups,b≠dQ x.1)->(∀ i,del=some i->b≠β i)->(C.K.S b\/∀ t cur,C.K.fz t=true->w.heap[b]?≠some (Obj.cells cur t (0,0)))->w'.heap[b]? =w.heap[b]?
 agree:∀ i,i∉ups.map (·.1)->dQ i=β i
 gone:∀ i,del=some i->Reach H ids i/\H i≠none
 left:∀ i,del=some i->(w'.heap[β i]? =w.heap[β i]?\/∃ t cs,cN w' (β i) t (List.toArray cs)/\C.K.fz t=false/\cs.all cJ=true)\/∃ x∈ups,dQ x.1=β i
 own:∀ x∈ups,nX C dQ w' x.1 x.2.1 x.2.2
 orig:∀ x∈ups,(H x.1≠none/\del≠some x.1/\Reach H ids x.1/\dQ x.1=β x.1)\/((H x.1=none\/del=some x.1)/\x.1<2*C.N/\(w.heap.size<=dQ x.1\/∃ i,del=some i/\dQ x.1=β i))
 once:(ups.map (·.1)).Nodup
 apart:∀ x∈ups,∀ y∈ups,dQ x.1=dQ y.1->x.1=y.1
 closed:∀ x∈ups,∀ j∈bM x.2.2,j∈ups.map (·.1)\/(H j≠none/\del≠some j)
def Ae (P:Program) (d:rH) (β:Nat->Nat) (w:World) (R:Ending->World->Prop):Prop:=match d with
 | .fn g args=>nL P g/\Calls P g (args.map (AV.bH β)).toArray w R
 | .op o vs=>∃ v w2,(∀ ρ:Operand->Value,o.op.operands.toList.map ρ=vs.map (AV.bH β)->(execOp ρ o).run P w=.ok (.value v) w2\/((execOp ρ o).run P w=.ok .skip w2/\v=undef))/\R (.returned v) w2
def eO (C:Cx) (lv:Nat) (F:Fr) (H:Hp) (d:rH) (w:World) (k:AV->Fr->Hp->World->Prop):Prop:=
 ∀ w1 β,bg C.K w w1->C.Old w1->nd C β H d.ids w1->Ae C.P d β w1 λe w2=>∃ dQ r del ups,e=.returned (r.bH dQ)/\(∀ i∈r.ids,i∈ups.map (·.1)\/(Reach H d.ids i/\H i≠none/\del≠some i))/\(1<=lv\/ups=[])/\(2<=lv\/del=none)/\
   GH C β dQ H d.ids del ups w1 w2/\(bg C.K w w2->bg C.K w1 w2->C.Old w2->∀ ρ,(∀ x,cJ (ρ x)=true)->k r (F.forget del ρ) ((H.forget del ρ).jk ups) w2)
def ReadVC (C:Cx) (seq:Bool) (i:TI) (a:Addr) (w:World) (k:Value->Prop):Prop:=
 ∃ cs:List Value,cs.length=i.size/\((∀ j u,cs[j]? =some u->C.At (a.add j) u)\/(seq=true/\∀ w1,bg C.K w w1->C.Old w1->∀ j u,cs[j]? =some u->w1.cell? (a.add j)=some u))/\k (qT i cs)
def seqOf:Option (List FuncId)->Bool
 | none=>true
 | some _=>false
def one (C:Cx) (m:Option (List FuncId)) (full:Array Oper) (o:Oper) (k:Fr->Hp->World->Prop) (F:Fr) (H:Hp) (w:World):Prop:=
 match stepOf C full F H o with
 | .gM v u=>k (F.dw o.dst v) (H.upd u) w
 | .read i a=>ReadVC C (seqOf m) i a w λv=>k (F.dw o.dst (.val v)) H w
 | .mv i cs off=>∃ vs:List AV,vs.length=i.size/\(∀ j u,vs[j]? =some u->cs[off+j]? =some u)/\k (F.dw o.dst (rI i vs)) H w
 | .cond φ v u=>φ/\k (F.dw o.dst v) (H.upd u) w
 | .call d=>eO C (lvl C.SU m o) F H d w λr F' H' w2=>k (F'.dw o.dst r) H' w2
 | .bad=>False
def aB (C:Cx) (m:Option (List FuncId)) (full:Array Oper):List Oper->(Fr->Hp->World->Prop)->Fr->Hp->World->Prop
 | [],K,F,H,w=>K F H w
 | o::r,K,F,H,w=>one C m full o (aB C m full r K) F H w
def lp (F:Fr) (H:Hp):Prop:=∀ d v,F d=some v->∀ i∈v.ids,H i≠none
structure JT (C:Cx) (H:Hp):Prop where
 ok:∀ i t cs,H i=some (t,cs)->C.K.fz t=false/\cs.all bO=true
 closed:∀ i t cs,H i=some (t,cs)->∀ j∈bM cs,H j≠none
 few:∀ i,C.top<=i->H i=none
structure Rel (C:Cx) (β:Nat->Nat) (F:Fr) (H:Hp) (a:Act) (w:World):Prop where
 defers:a.defers=[]
 size:a.tmps.size=C.N
 tmp:∀ d v,F d=some v->a.tmps.getD d undef=v.bH β
 own:∀ i t cs,H i=some (t,cs)->nX C β w i t cs
 apart:∀ i j,H i≠none->H j≠none->β i=β j->i=j
 closed:lp F H
 fits:∀ d v,F d=some v->d<C.N
 hp:JT C H
 old:C.Old w
theorem Fr.eT (F:Fr) (d n:Nat) (v:AV):(F.put d v) n=if n=d then some v else F n:=by
 unfold Fr.put;by_cases h:n=d
 ·subst h;simp
 ·have:Nat.beq n d=false:=by rw[<-wE,Nat.beq_eq];exact h
  simp[this,h]
theorem Hp.eT (H:Hp) (d n:Nat) (c:TypeId×List AV):(H.put d c) n=if n=d then some c else H n:=by
 unfold Hp.put;by_cases h:n=d
 ·subst h;simp
 ·have:Nat.beq n d=false:=by rw[<-wE,Nat.beq_eq];exact h
  simp[this,h]
theorem ng:∀ {l:List AV} {vs:List Value},jl l=some vs->l=vs.map .val
 | [],vs,h=>by cases h;rfl
 | .val v::r,vs,h=>by
   unfold jl at h
   split at h
   ·rename_i l hl;cases h;rw[ng hl];rfl
   ·cases h
 | .box _ _::_,_,h=>by cases h
 | .xn _ _::_,_,h=>by cases h
 | .row _ _ _ _::_,_,h=>by cases h
 | .fn _ _ _::_,_,h=>by cases h
 | .agg _::_,_,h=>by cases h
 | .nJ _::_,_,h=>by cases h
theorem aV (β:Nat->Nat) (vs:List Value):(vs.map AV.val).map (AV.leaf β)=vs:=by rw[pZ];exact List.map_id vs
theorem iV (β:Nat->Nat) (vs:List Value):(vs.map AV.val).map (AV.bH β)=vs:=by rw[pZ];exact List.map_id vs
theorem ah (vs:List Value):bM (vs.map AV.val)=[]:=by
 induction vs with
 | nil=>rfl
 | cons v r ih=>rw[kX,bM,ih];rfl
theorem xo (β:Nat->Nat) (l:List AV):(BD l).bH β=.agg (l.map (AV.leaf β)).toArray:=by
 unfold BD;cases h:jl l with
 | none=>rfl
 | some vs=>
   have:=ng h;subst this;rw[aV];rfl
theorem Af (h:i∈(BD l).ids):i∈bM l:=by
 unfold BD at h;cases hv:jl l with
 | none=>rw[hv] at h;exact h
 | some vs=>rw[hv] at h;cases h
theorem lz (β:Nat->Nat):∀ (v:AV),(∀ l,v≠.nJ l)->(cellsOf v).map (AV.leaf β)=(v.bH β).cells.toList
 | .val v,_=>by unfold cellsOf;rw[aV];rfl
 | .box _ _,_=>rfl
 | .xn _ _,_=>rfl
 | .row _ _ _ _,_=>rfl
 | .fn _ _ _,_=>rfl
 | .agg l,_=>by simp[cellsOf,AV.bH,Value.cells]
 | .nJ l,h=>absurd rfl (h l)
theorem rJ {v:AV} (h:jm v=true):∀ l,v≠.nJ l:=λl e=>by subst e;cases h
theorem Sc {v:AV} (h:(cellsOf v).all bO=true):∀ l,v≠.nJ l:=λl e=>by subst e;simp[cellsOf,bO] at h
theorem nh {v:AV} (h:∀ l,v≠.nJ l) (hi:i∈bM (cellsOf v)):i∈v.ids:=by
 cases v with
 | val v=>rw[cellsOf,ah] at hi;cases hi
 | nJ l=>exact absurd aa (h l)
 | agg l=>exact hi
 | box i off=>simpa [cellsOf,bM,AV.dN,AV.ids] using hi
 | xn i off=>simpa [cellsOf,bM,AV.dN,AV.ids] using hi
 | row i o n c=>simpa [cellsOf,bM,AV.dN,AV.ids] using hi
 | fn g f c=>simpa [cellsOf,bM,AV.dN,AV.ids] using hi
theorem iW (l r:List AV):bM (l++r)=bM l++bM r:=by
 induction l with
 | nil=>rfl
 | cons v l ih=>rw[Lr,bM,bM,ih,uF]
theorem Ub:∀ {v:AV},bO v=true->v.leaf β=v.bH β
 | .val _,_=>rfl
 | .box _ _,_=>rfl
 | .xn _ _,_=>rfl
 | .row _ _ _ _,_=>rfl
 | .fn _ _ _,_=>rfl
 | .agg _,h=>by cases h
 | .nJ _,h=>by cases h
theorem uV:∀ {v:AV},oO v=true->v.leaf β=v.bH β
 | .val _,_=>rfl
 | .box _ _,_=>rfl
 | .xn _ _,_=>rfl
 | .row _ _ _ _,_=>rfl
 | .fn _ _ _,_=>rfl
 | .agg _,h=>by cases h
 | .nJ _,h=>by cases h
theorem xp {v:AV} (h:oO v=true):v.dN=v.ids:=by cases v <;> first|rfl|cases h
theorem uW {v:AV} (h:jm v=true):v.nR β=v.bH β:=by cases v <;> first|rfl|cases h
theorem xq {v:AV} (h:jm v=true):v.Ac=v.ids:=by cases v <;> first|rfl|cases h
theorem XV {v:AV} (h:bO v=true):v.dN=v.ids:=by
 cases v <;> first|rfl|cases h
section
variable {C:Cx} {β:Nat->Nat} {F:Fr} {H:Hp} {a:Act} {w:World}
variable {v:AV} {x:Operand}
theorem Rel.ev (hr:Rel C β F H a w) (h:Proofs.YtlifeokjcgngjaaGreat.ev F x=some v):a.eval x=v.bH β:=by
 cases x with
 | tmp t=>exact hr.tmp t v h
 | const c=>cases h;rfl
 | func f=>cases h;rfl
 | global g=>cases h
theorem evv_ev {v:Value} (h:Proofs.YtlifeokjcgngjaaGreat.nS F x=some v):Proofs.YtlifeokjcgngjaaGreat.ev F x=some (.val v):=by
 unfold Proofs.YtlifeokjcgngjaaGreat.nS at h
 split at h
 ·rename_i u hu;cases h;exact hu
 ·cases h
theorem Rel.nS (hr:Rel C β F H a w) {v:Value} (h:Proofs.YtlifeokjcgngjaaGreat.nS F x=some v):a.eval x=v:=hr.ev (evv_ev h)
theorem Rel.evs (hr:Rel C β F H a w):∀ {l:List Operand} {vs:List Value},Proofs.YtlifeokjcgngjaaGreat.evs F l=some vs->l.map a.eval=vs
 | [],vs,h=>by cases h;rfl
 | x::r,vs,h=>by
   unfold Proofs.YtlifeokjcgngjaaGreat.evs at h
   split at h
   ·rename_i v l hv hl;cases h;rw[kX,hr.nS hv,hr.evs hl]
   ·cases h
theorem Rel.BC (hr:Rel C β F H a w):∀ {l:List Operand} {vs:List AV},Proofs.YtlifeokjcgngjaaGreat.BC F l=some vs->l.map a.eval=vs.map (AV.bH β)
 | [],vs,h=>by cases h;rfl
 | x::r,vs,h=>by
   unfold Proofs.YtlifeokjcgngjaaGreat.BC at h
   split at h
   ·rename_i v l hv hl;cases h;rw[kX,hr.ev hv,hr.BC hl];rfl
   ·cases h
theorem Rel.JR (hr:Rel C β F H a w):∀ {l:List (Nat×Operand)} {vs:List (Nat×AV)},Proofs.YtlifeokjcgngjaaGreat.JR F l=some vs->l.map (λp=>(p.1,a.eval p.2))=vs.map (λp=>(p.1,p.2.bH β))
 | [],vs,h=>by cases h;rfl
 | (k,x)::r,vs,h=>by
   unfold Proofs.YtlifeokjcgngjaaGreat.JR at h
   split at h
   ·rename_i v l hv hl;cases h;rw[kX,hr.JR hl];simp[hr.ev hv]
   ·cases h
theorem lp.ev (hc:lp F H) (h:Proofs.YtlifeokjcgngjaaGreat.ev F x=some v):∀ i∈v.ids,H i≠none:=by
 cases x with
 | tmp t=>exact hc t v h
 | const c=>cases h;intro i hi;cases hi
 | func f=>cases h;intro i hi;cases hi
 | global g=>cases h
theorem lp.BC (hc:lp F H):∀ {l:List Operand} {vs:List AV},Proofs.YtlifeokjcgngjaaGreat.BC F l=some vs->∀ v∈vs,∀ i∈v.ids,H i≠none
 | [],vs,h=>by cases h;intro v hv;cases hv
 | x::r,vs,h=>by
   unfold Proofs.YtlifeokjcgngjaaGreat.BC at h
   split at h
   ·rename_i v l hv hl;cases h;intro u hu;rcases eD.1 hu with rfl|hu
    ·exact hc.ev hv
    ·exact hc.BC hl u hu
   ·cases h
theorem lp.JR (hc:lp F H):∀ {l:List (Nat×Operand)} {vs:List (Nat×AV)},Proofs.YtlifeokjcgngjaaGreat.JR F l=some vs->∀ v∈vs,∀ i∈v.2.ids,H i≠none
 | [],vs,h=>by cases h;intro v hv;cases hv
 | (k,x)::r,vs,h=>by
   unfold Proofs.YtlifeokjcgngjaaGreat.JR at h
   split at h
   ·rename_i v l hv hl;cases h;intro u hu;rcases eD.1 hu with rfl|hu
    ·exact hc.ev hv
    ·exact hc.JR hl u hu
   ·cases h
theorem Rel.gm (hr:Rel C β F H a w) (h:Proofs.YtlifeokjcgngjaaGreat.ev F x=some v):∀ i∈v.ids,H i≠none:=hr.closed.ev h
theorem Rel.put (hr:Rel C β F H a w) {dst:Option Nat} (hd:nU C.N dst=true) (hc:∀ i∈v.ids,H i≠none):Rel C β (F.dw dst v) H (a.put dst (v.bH β)) w:=by
 cases dst with
 | none=>exact hr
 | some d=>
   have hlt:d<C.N:=by simpa [nU,Nat.blt_eq] using hd
   refine⟨hr.defers,by simp[Act.put,hr.size],λn u hn=> ?_,hr.own,hr.apart,λn u hn=> ?_,λn u hn=> ?_,hr.hp,hr.old⟩
   ·change (F.put d v) n=some u at hn;rw[Fr.eT] at hn;show (a.tmps.setIfInBounds d (v.bH β)).getD n undef=_;by_cases h:n=d
    ·subst h;rw[if_pos rfl] at hn;cases hn;simp[Array.getD_eq_getD_getElem?,Array.getElem?_setIfInBounds,hr.size,hlt]
    ·rw[if_neg h] at hn;have:=hr.tmp n u hn;rw[lX] at this ⊢;rw[Le,if_neg (λe=>h e.symm)];exact this
   ·change (F.put d v) n=some u at hn;rw[Fr.eT] at hn;by_cases h:n=d
    ·rw[if_pos h] at hn;cases hn;exact hc
    ·rw[if_neg h] at hn;exact hr.closed n u hn
   ·change (F.put d v) n=some u at hn;rw[Fr.eT] at hn;by_cases h:n=d
    ·rw[h];exact hlt
    ·rw[if_neg h] at hn;exact hr.fits n u hn
variable {P:Program} {i:TI} {t:TypeId}
theorem ke (hi:TI.Ok P t i) (a:Addr) (cs:List Value) (hl:cs.length=i.size) (w:World) (hc:∀ j u,cs[j]? =some u->w.cell? (a.add j)=some u):
  (loadVar t a).run P w=.ok (qT i cs) w:=by
 obtain⟨d,hu,hd⟩:=hi.row;have hz:=hi.size;cases hq:P.info? t with
 | none=>rw[hq] at hz;simp at hz
 | some ti=>
   rw[hq] at hz;simp at hz;unfold loadVar qT;cases hg:i.agg
   ·have h1:=hi.lone hg;rw[hg] at hd;obtain⟨u,rfl⟩:∃ u,cs=[u]:=List.length_eq_one_iff.1 ae;have:=hc 0 u aa;have ha:a.add 0=a:=by unfold Addr.add;split <;> simp_all
    rw[ha] at this;cases d <;> simp_all [isAgg,run_underlying hu,TypeDesc.isRow]
   ·rw[hg] at hd;have hld:=run_loadCells_list (P:=P) w a cs hc;rw[hl,<-hz] at hld;cases d <;> simp_all [isAgg,run_underlying hu,TypeDesc.isRow,sizeOf,typeInfo]
variable {cs:List AV}
theorem xr (hi:TI.Ok P t i) (hl:cs.length=i.size) (hk:cs.all bO=true):(rI i cs).bH β=qT i (cs.map (AV.leaf β)):=by
 unfold rI qT;cases hg:i.agg with
 | true=>exact xo β cs
 | false=>
   have h1:=hi.lone hg;obtain⟨u,rfl⟩:∃ u,cs=[u]:=List.length_eq_one_iff.1 ae;simp at hk;simp[Ub hk]
theorem Ag {j:Nat} (hk:cs.all bO=true) (h:j∈(rI i cs).ids):j∈bM cs:=by
 unfold rI at h;cases hg:i.agg with
 | true=>rw[hg] at h;exact Af h
 | false=>
   rw[hg] at h;cases cs with
   | nil=>cases h
   | cons x r=>
     simp only[cond_false,List.headD_cons] at h;simp at hk;rw[bM,XV hk.1];exact uC _ h
end
def Mg:List Value->Nat->List Value->List Value
 | l,_,[]=>l
 | l,o,v::r=>Mg (l.set o v) (o+1) r
theorem vK:∀ (vs l:List Value) (o:Nat),o+vs.length<=l.length->Mg l o vs=l.take o++(vs++l.drop (o+vs.length))
 | [],l,o,_=>by simp[Mg]
 | v::r,l,o,h=>by
   simp only[List.length_cons] at h;have h1:o<l.length:=ae;rw[Mg,vK r (l.set o v) (o+1) (by rw[Ht];omega),List.take_succ_eq_append_getElem (by rw[Ht];omega),List.getElem_set_self,List.take_set_of_le (bl _),List.drop_set_of_lt ae];simp[Nat.add_assoc,Nat.add_comm 1]
theorem Ah:∀ (l:List Value) (k off:Nat) (A:Array Value),(l.zipIdx k).foldl (λ(cs:Array Value) (x:Value×Nat)=>cs.setIfInBounds (off+x.2) x.1) A=(Mg A.toList (off+k) l).toArray
 | [],_,_,A=>by simp[Mg]
 | v::r,k,off,A=>by
   rw[List.zipIdx_cons,Lu,Ah r (k+1) off,Mg];simp[Nat.add_assoc]
theorem Eu {β:Nat->Nat} {v:AV} (h:jm v=true):(v.bH β).cells.size=(cellsOf v).length:=by
 rw[<-DL,<-lz β v (rJ h),bJ]
theorem bF {n m:Nat} (h:Nat.ble n m=true):n<=m:=Nat.le_of_ble_eq_true h
theorem Mh {β:Nat->Nat} {places:Array (Nat×Nat)}:∀ (l:List (Nat×AV)) (cells:List AV) {cs:List AV},Ip places cells l=some cs->
  Instr.fill (places[·]?) (cells.map (AV.leaf β)).toArray (l.map λp=>(p.1,p.2.bH β))=some (cs.map (AV.leaf β)).toArray
 | [],cells,cs,h=>by cases h;rfl
 | (i,v)::rest,cells,cs,h=>by
   unfold Ip at h;rw[kX];unfold Instr.fill;cases hp:places[i]? with
   | none=>rw[hp] at h;cases h
   | some p=>
     rw[hp] at h;simp only at h ⊢;cases hb:Nat.beq (cellsOf v).length p.2 && Nat.ble (p.1+p.2) cells.length && jm v with
     | false=>rw[hb] at h;cases h
     | true=>
       rw[hb] at h;simp only[Bool.and_eq_true] at hb;have h1:=oD hb.1.1;have h2:=bF hb.1.2;have h3:=Eu (β:=β) hb.2;have h4:=lz β v (rJ hb.2);rw[if_neg (by simp[h3,h1];omega)];have:=Mh (β:=β) rest _ h;rw[<-this]
       congr 1
       have e:=Ah (v.bH β).cells.toList 0 p.1 (cells.map (AV.leaf β)).toArray;rw[vK _ _ _ (by simp[h3,h1];omega)] at e;simp only[Nat.add_zero,Array.length_toList,h3,h1] at e
       rw[show (cells.take p.1++(cellsOf v++cells.drop (p.1+p.2))).map (AV.leaf β)=(cells.map (AV.leaf β)).take p.1++((v.bH β).cells.toList++(cells.map (AV.leaf β)).drop (p.1+p.2)) by
        rw[aQ,aQ,h4,Lw,List.map_drop]]
       rw[<-e];rw[<-Array.foldl_toList]
       congr 1
       simp
theorem Mj {K:KC} {b o:Nat} {t:TypeId} {w:World} {cs:List Value} {v:Value} (hc:cN w b t cs.toArray) (ht:K.fz t=false) (hk:cs.all cJ=true):
  bg K w (w.setCell ⟨b,o,none⟩ v)/\cN (w.setCell ⟨b,o,none⟩ v) b t (cs.set o v).toArray:=by
 refine⟨⟨cZ,λa x _ hx=> ?_,λt' g cur hf _ hg=> ?_,λg es c hg=> ?_⟩,?_⟩
 ·by_cases hb:a.block=b
  ·exfalso
   have:cs.toArray[a.off]? =some (.int .u32 x):=by
    simp only[World.cell?,hb,show w.heap[b]? =_ from hc] at hx;simp at hx;simpa using hx.2
   have hm:=dz (show cs[a.off]? =some (.int .u32 x) by simpa using this);have:=eg.1 hk _ hm;cases this
  ·rw[Li (w:=w) (uE w ⟨b,o,none⟩ v a.block hb)];exact hx
 ·rw[uE _ _ _ g (λe=>by
   have e':g=b:=e;subst e';have:=(show w.heap[_]? =_ from hc).symm.trans hg;simp at this;rw[<-this.2,ht] at hf;cases hf)]
  exact hg
 ·rw[uE _ _ _ g (λe=>by
   have e':g=b:=e;subst e';have:=(show w.heap[_]? =_ from hc).symm.trans hg;simp at this)]
  exact hg
 ·have:=hc.set (j:=o) v;simpa using this
theorem sS {K:KC} {b:Nat} {t:TypeId}:∀ (vs:List Value) (o:Nat) (w:World) (cs:List Value),cN w b t cs.toArray->K.fz t=false->cs.all cJ=true->vs.all cJ=true->
  bg K w (w.setCells b o vs)/\cN (w.setCells b o vs) b t (Mg cs o vs).toArray/\(∀ g t' jU,g≠b->cN w g t' jU->cN (w.setCells b o vs) g t' jU)/\∀ w0,aD w0 w->w0.heap.size<=b->aD w0 (w.setCells b o vs)
 | [],o,w,cs,hc,_,_,_=>⟨bg.refl _ _,hc,λ_ _ _ _ h=>h,λ_ h _=>h⟩
 | v::r,o,w,cs,hc,ht,hk,hv=>by
   rw[List.all_cons,jP] at hv;obtain⟨h1,h2⟩:=Mj (o:=o) (v:=v) hc ht hk
   have WN:(cs.set o v).all cJ=true:=eg.2 λx hx=>by
    rcases Lf hx with h|rfl
    ·exact eg.1 hk _ h
    ·exact hv.1
   obtain⟨k1,k2,k3,k4⟩:=sS r (o+1) _ _ h2 ht WN hv.2;exact⟨h1.aN k1,k2,λg t' jU hg h=>k3 g t' jU hg (h.other hg v),λw0 h hb=>k4 w0 (h.setCell (p:=⟨b,o,none⟩) hb v) hb⟩
section
variable {C:Cx} {β:Nat->Nat} {F:Fr} {H:Hp} {a:Act} {w:World}
variable {cs:List AV} {d:Nat} {t:TypeId}
theorem JT.put (mQ:JT C H) (hd:d<C.top) (ht:C.K.fz t=false) (hk:cs.all bO=true) (kP:∀ j∈bM cs,H j≠none):JT C (H.put d (t,cs)):=by
 have Mk:∀ j,H j≠none->(H.put d (t,cs)) j≠none:=λj hj=>by
  rw[Hp.eT];split
  ·simp
  ·exact hj
 refine⟨λi t' jU h=> ?_,λi t' jU h j hj=> ?_,λi hi=> ?_⟩
 ·rw[Hp.eT] at h;by_cases e:i=d
  ·rw[if_pos e] at h;cases h;exact⟨ht,hk⟩
  ·rw[if_neg e] at h;exact mQ.ok i t' jU h
 ·rw[Hp.eT] at h;by_cases e:i=d
  ·rw[if_pos e] at h;cases h;exact Mk j (kP j hj)
  ·rw[if_neg e] at h;exact Mk j (mQ.closed i t' jU h j hj)
 ·rw[Hp.eT,if_neg ae];exact mQ.few i hi
variable {c:TypeId×List AV}
theorem Mm {j:Nat} (hj:H j≠none):(H.put d c) j≠none:=by
 rw[Hp.eT];split
 ·simp
 ·exact hj
theorem Rel.make (hr:Rel C β F H a w) (hd:d<C.N) (h0:H d=none) (ht:C.K.fz t=false) (hk:cs.all bO=true) (kP:∀ j∈bM cs,H j≠none):
  ∃ dQ,dQ d=w.heap.size/\Rel C dQ F (H.put d (t,cs)) a (w.alloc (.cells (cs.map (AV.leaf β)).toArray t)):=by
 let dQ:Nat->Nat:=λn=>if n=d then w.heap.size else β n
 have hb:∀ i,i≠d->dQ i=β i:=λi hi=>if_neg hi;have yM:dQ d=w.heap.size:=if_pos aa;have hco:∀ n v,F n=some v->v.bH dQ=v.bH β:=λn v hn=>AV.Eo λi hi=>hb i λe=>hr.closed n v hn i hi (e▸h0);have hle:∀ l:List AV,(∀ j∈bM l,H j≠none)->l.map (AV.leaf dQ)=l.map (AV.leaf β):=λl hl=>nc λi hi=>hb i λe=>hl i hi (e▸h0)
 have OX:Rel C dQ F (H.put d (t,cs)) a (w.alloc (.cells (cs.map (AV.leaf β)).toArray t)):=by
  refine⟨hr.defers,hr.size,λn v hn=>(hr.tmp n v hn).trans (hco n v hn).symm,λi t' jU hi=> ?_,λi j hi hj he=> ?_,λn v hn i hi=> ?_,hr.fits,hr.hp.put (by have:=C.topN;omega) ht hk kP,C.aN hr.old ((aD.refl w).alloc _)⟩
  ·rw[Hp.eT] at hi;by_cases h:i=d
   ·rw[if_pos h] at hi;cases hi;subst h;exact⟨by rw[yM];exact C.BB _ _ ae (C.ll _ hr.old),ht,by rw[yM,hle _ kP];exact cN.new _ _ _,hk⟩
   ·rw[if_neg h] at hi;obtain⟨h1,h2,h3,h4⟩:=hr.own i t' jU hi;exact⟨by rw[hb i h];exact h1,h2,by rw[hb i h,hle _ (hr.hp.closed i t' jU hi)];exact h3.alloc _,h4⟩
  ·rw[Hp.eT] at hi hj
   have lt:∀ i,H i≠none->β i<w.heap.size:=λi hi=>by
    cases hh:H i with
    | none=>exact absurd hh hi
    | some x=>exact (hr.own i x.1 x.2 hh).cls.lt
   by_cases h1:i=d <;> by_cases h2:j=d
   ·rw[h1,h2]
   ·rw[if_neg h2] at hj;rw[h1,yM,hb j h2] at he;have:=lt j hj;omega
   ·rw[if_neg h1] at hi;rw[h2,yM,hb i h1] at he;have:=lt i hi;omega
   ·rw[if_neg h1] at hi;rw[if_neg h2] at hj;rw[hb i h1,hb j h2] at he;exact hr.apart i j hi hj he
  ·exact Mm (hr.closed n v hn i hi)
 exact⟨dQ,yM,OX⟩
theorem oP {b:Nat}:∀ (vs:List Value) (o:Nat) (w:World) (k:Nat),k≠b->(w.setCells b o vs).heap[k]? =w.heap[k]?
 | [],_,_,_,_=>rfl
 | v::r,o,w,k,hk=>(oP r (o+1) (w.setCell ⟨b,o,none⟩ v) k hk).trans (uE w ⟨b,o,none⟩ v k hk)
theorem qV {b:Nat}:∀ (vs:List Value) (o:Nat) (w:World),(w.setCells b o vs).os=w.os/\(w.setCells b o vs).tape=w.tape/\(w.setCells b o vs).output=w.output/\w.heap.size<=(w.setCells b o vs).heap.size
 | [],_,w=>⟨rfl,rfl,rfl,bl _⟩
 | v::r,o,w=>by
   obtain⟨h1,h2,h3,h4⟩:=qV (b:=b) r (o+1) (w.setCell ⟨b,o,none⟩ v);exact⟨h1,h2,h3,bG (by simp[World.setCell]) h4⟩
variable {K:KC}
theorem JU {Cl:Nat->Nat->Prop} {b o:Nat} {w:World} {vs:List Value} {cs:List Value} (hn:∃ i,Cl i b) (ht:K.fz t=false) (hc:cN (w.setCells b o vs) b t cs.toArray) (hk:cs.all cJ=true):Stp K Cl w (w.setCells b o vs):=by
 obtain⟨h1,h2,h3,h4⟩:=qV (b:=b) vs o w;refine⟨h1,h2,h3,h4,λg _=> ?_⟩;by_cases e:g=b
 ·subst e;exact .inr (.inl ⟨hn,t,cs,hc,ht,hk⟩)
 ·exact .inl (oP vs o w g e)
variable {vs:List AV} {off:Nat}
theorem Rel.stored (hr:Rel C β F H a w) {b:Nat} (h:H b=some (t,cs)) (hl:off+vs.length<=cs.length) (hv:vs.all bO=true) (kP:∀ j∈bM vs,H j≠none):
  bg C.K w (w.setCells (β b) off (vs.map (AV.leaf β)))/\Rel C β F (H.put b (t,cs.take off++(vs++cs.drop (off+vs.length)))) a (w.setCells (β b) off (vs.map (AV.leaf β))):=by
 obtain⟨h2,h3,h1,h4⟩:=hr.own b t cs h;obtain⟨k1,k2,k3,k4⟩:=sS (K:=C.K) (vs.map (AV.leaf β)) off w (cs.map (AV.leaf β)) h1 h3 (gw h4) (gw hv)
 have bu:b<C.top:=by
  apply Xh;intro e;rw[hr.hp.few b ae] at h;cases h
 have hcs:=hr.hp.closed b t cs h
 have sL:(cs.take off++(vs++cs.drop (off+vs.length))).all bO=true:=by
  simp only[List.all_append,Bool.and_eq_true];exact⟨eg.2 λx hx=>eg.1 h4 x (mU hx),hv,eg.2 λx hx=>eg.1 h4 x (uB hx)⟩
 have hcl':∀ j∈bM (cs.take off++(vs++cs.drop (off+vs.length))),H j≠none:=λj hj=>by
  obtain⟨v,hv',hj'⟩:=dh.1 hj;simp only[List.mem_append] at hv';rcases hv' with e|e|e
  ·exact hcs j (dh.2 ⟨v,mU e,hj'⟩)
  ·exact kP j (dh.2 ⟨v,e,hj'⟩)
  ·exact hcs j (dh.2 ⟨v,uB e,hj'⟩)
 refine⟨k1,hr.defers,hr.size,hr.tmp,λi t' jU hi=> ?_,λi j hi hj he=> ?_,λn v hn i hi=>Mm (hr.closed n v hn i hi),hr.fits,hr.hp.put bu h3 sL hcl',C.Di _ _ hr.old C.keep k1 (JU ⟨b,h2⟩ h3 k2 (by rw[vK _ _ off (by simp only[List.length_map];omega)];simp only[List.all_append,Bool.and_eq_true];exact⟨eg.2 λx hx=>eg.1 (gw h4) x (mU hx),gw hv,eg.2 λx hx=>eg.1 (gw h4) x (uB hx)⟩))⟩
 ·rw[Hp.eT] at hi;by_cases hib:i=b
  ·rw[if_pos hib] at hi;cases hi;subst hib;rw[vK _ _ off (by simp only[List.length_map];omega)] at k2;refine⟨h2,h3,?_,sL⟩;rw[aQ,aQ,Lw,List.map_drop];simpa using k2
  ·rw[if_neg hib] at hi;obtain⟨g2,g3,g1,g4⟩:=hr.own i t' jU hi;exact⟨g2,g3,k3 _ _ _ (λe=>hib (hr.apart i b (by rw[hi];simp) (by rw[h];simp) e)) g1,g4⟩
 ·rw[Hp.eT] at hi hj;refine hr.apart i j ?_ ?_ he
  ·by_cases hib:i=b
   ·rw[hib,h];simp
   ·rw[if_neg hib] at hi;exact hi
  ·by_cases hjb:j=b
   ·rw[hjb,h];simp
   ·rw[if_neg hjb] at hj;exact hj
theorem bg.alloc (w:World) (o:Obj):bg K w (w.alloc o):=bg.of ((aD.refl w).alloc o)
def gP (C:Cx) (F:Fr) (H:Hp) (o:Oper) (a:Act) (w:World) (v:AV) (u:Option (Nat×(TypeId×List AV))):Prop:=
 ∃ dQ w',bg C.K w w'/\Rel C dQ (F.dw o.dst v) (H.upd u) (a.put o.dst (v.bH dQ)) w'/\
   ((execOp a.eval o).run C.P w=.ok (.value (v.bH dQ)) w'\/((execOp a.eval o).run C.P w=.ok .skip w'/\v.bH dQ=undef))
variable {v:AV} {o:Oper}
theorem gP.pure (hr:Rel C β F H a w) (hd:nU C.N o.dst=true) (hc:∀ i∈v.ids,H i≠none) (h:(execOp a.eval o).run C.P w=.ok (.value (v.bH β)) w):gP C F H o a w v none:=
 ⟨β,w,bg.refl _ _,hr.put hd hc,.inl h⟩
theorem gP.val (hr:Rel C β F H a w) (hd:nU C.N o.dst=true) {v:Value} (h:(execOp a.eval o).run C.P w=.ok (.value v) w):gP C F H o a w (.val v) none:=
 gP.pure hr hd (λ_ hi=>by cases hi) h
theorem Dl (e:v.ids=[d]):∀ i∈v.ids,(H.put d c) i≠none:=by
 rw[e];intro i hi;rw[ay.1 hi,Hp.eT,if_pos rfl];simp
variable {u:Option (Nat×(TypeId×List AV))}
theorem rK {x:Option AV} (h:GG x=.gM v u):x=some v/\u=none:=by
 cases x with
 | none=>cases h
 | some y=>cases h;exact⟨aa,aa⟩
theorem jn {x:Option Value} (h:yL x=.gM v u):∃ y,x=some y/\v=.val y/\u=none:=by
 cases x with
 | none=>cases h
 | some y=>cases h;exact⟨y,aa,aa,aa⟩
variable {h:Option (TypeId×List AV)}
theorem vL (e:uT K d t cs h=.gM v u):
  h=none/\K.fz t=false/\cs.all bO=true/\v=.box d 0/\u=some (d,(t,cs)):=by
 cases h with
 | some x=>cases e
 | none=>
   unfold uT at e;cases hb: !K.fz t && cs.all bO with
   | false=>rw[hb] at e;cases e
   | true=>
     rw[hb] at e;change ln cs _=_ at e;rw[eH] at e;cases e;rw[jP] at hb;exact⟨aa,by simpa using hb.1,hb.2,rfl,rfl⟩
variable {i:TI}
theorem Iq (e:Es i cs off=.gM v u):
  off+i.size<=cs.length/\v=rI i ((cs.drop off).take i.size)/\u=none:=by
 unfold Es at e;cases hb:Nat.ble (off+i.size) cs.length with
 | false=>rw[hb] at e;cases e
 | true=>
   rw[hb] at e;change ln _ _=_ at e;rw[eH] at e;refine⟨bF hb,?_⟩;unfold rI;cases hg:i.agg with
   | true=>
     rw[hg,cond_true,ql] at e;cases e;exact⟨aa,aa⟩
   | false=>
     rw[hg] at e;simp only[cond_false] at e ⊢
     split at e
     ·rename_i x r hx;cases e;rw[hx];exact⟨aa,aa⟩
     ·cases e
theorem Ps {b:Nat} {x:AV} (e:uS i b t cs off x=.gM v u):
  off+i.size<=cs.length/\(cellsOf x).length=i.size/\(cellsOf x).all bO=true/\v=.val undef/\u=some (b,(t,cs.take off++(cellsOf x++cs.drop (off+i.size)))):=by
 unfold uS at e;cases hb:Nat.ble (off+i.size) cs.length && Nat.beq (cellsOf x).length i.size && (cellsOf x).all bO with
 | false=>rw[hb] at e;cases e
 | true=>
   rw[hb] at e;change ln _ _=_ at e;rw[eH] at e;cases e;simp only[Bool.and_eq_true] at hb;exact⟨bF hb.1.1,oD hb.1.2,hb.2,aa,aa⟩
theorem Uc {b:Nat} {x:AV} {φ:Prop} (e:Mf i b t cs off x=.cond φ v u):
  φ=(off+i.size<=cs.length)/\(cellsOf x).length=i.size/\(cellsOf x).all bO=true/\v=.val undef/\u=some (b,(t,cs.take off++(cellsOf x++cs.drop (off+i.size)))):=by
 unfold Mf at e;cases hb:Nat.beq (cellsOf x).length i.size && (cellsOf x).all bO with
 | false=>rw[hb] at e;cases e
 | true=>
   rw[hb] at e;cases e;rw[jP] at hb;exact⟨aa,oD hb.1,hb.2,aa,aa⟩
theorem Ir {e:TypeId} {n:Nat} (q:BF K d e n cs h=.gM v u):
  h=none/\K.fz e=false/\cs.all bO=true/\v=.row d 0 n n/\u=some (d,(e,cs)):=by
 cases h with
 | some x=>cases q
 | none=>
   unfold BF at q;cases hb: !K.fz e && cs.all bO with
   | false=>rw[hb] at q;cases q
   | true=>
     rw[hb] at q;change ln cs _=_ at q;rw[eH] at q;cases q;rw[jP] at hb;exact⟨aa,by simpa using hb.1,hb.2,rfl,rfl⟩
theorem Ev:∀ {m:List AV} {bs:List (Nat×Nat)},Dj m=some bs->m=bs.map λp=>AV.box p.1 p.2
 | [],bs,h=>by cases h;rfl
 | .box i off::r,bs,h=>by
   unfold Dj at h
   split at h
   ·rename_i l hl;cases h;rw[Ev hl];rfl
   ·cases h
 | .val _::_,_,h=>by cases h
 | .xn _ _::_,_,h=>by cases h
 | .row _ _ _ _::_,_,h=>by cases h
 | .fn _ _ _::_,_,h=>by cases h
 | .agg _::_,_,h=>by cases h
 | .nJ _::_,_,h=>by cases h
theorem Mn {sz:Nat}:∀ (l:List (Nat×AV)) (k:Nat) {cs:List AV},JS sz k l=some cs->∀ j∈bM cs,∃ p∈l,j∈p.2.ids
 | [],k,cs,h,j,hj=>by cases h;cases hj
 | (q,v)::r,k,cs,h,j,hj=>by
   unfold JS at h;cases hb:Nat.beq q k && Nat.beq (cellsOf v).length sz && jm v with
   | false=>rw[hb] at h;cases h
   | true=>
     rw[hb,cond_true] at h;simp only[Bool.and_eq_true] at hb
     split at h
     ·rename_i l hl;cases h;rw[iW] at hj;rcases mV.1 hj with e|e
      ·exact⟨(q,v),cZ,nh (rJ hb.2) e⟩
      ·obtain⟨p,hp,hpj⟩:=Mn r (k+1) hl j e;exact⟨p,by simp[hp],hpj⟩
     ·cases h
theorem Iu {places:Array (Nat×Nat)}:∀ (l:List (Nat×AV)) (cells:List AV) {cs:List AV},Ip places cells l=some cs->∀ j∈bM cs,j∈bM cells\/∃ p∈l,j∈p.2.ids
 | [],cells,cs,h,j,hj=>by cases h;exact .inl hj
 | (i,v)::rest,cells,cs,h,j,hj=>by
   unfold Ip at h
   split at h
   ·cases h
   ·rename_i p hp;cases hb:Nat.beq (cellsOf v).length p.2 && Nat.ble (p.1+p.2) cells.length && jm v with
    | false=>rw[hb] at h;cases h
    | true=>
      rw[hb] at h;simp only[Bool.and_eq_true] at hb;rcases Iu rest _ h j hj with e|⟨q,hq,e⟩
      ·obtain⟨x,hx,hj'⟩:=dh.1 e;simp only[List.mem_append] at hx;rcases hx with g|g|g
       ·exact .inl (dh.2 ⟨x,mU g,hj'⟩)
       ·exact .inr ⟨(i,v),cZ,nh (rJ hb.2) (dh.2 ⟨x,g,hj'⟩)⟩
       ·exact .inl (dh.2 ⟨x,uB g,hj'⟩)
      ·exact .inr ⟨q,by simp[hq],e⟩
theorem vM {sz:Nat}:∀ (l:List (Nat×AV)) (k:Nat) (pre rest:List Value) {cs:List AV},JS sz k l=some cs->pre.length=k*sz->rest.length=l.length*sz->
  Instr.fill (λi=>some (i*sz,sz)) (pre++rest).toArray (l.map λp=>(p.1,p.2.bH β))=some (pre++cs.map (AV.leaf β)).toArray
 | [],k,pre,rest,cs,h,h1,h2=>by
   cases h;have:rest=[]:=rp (by simpa using h2);subst this;rfl
 | (j,v)::r,k,pre,rest,cs,h,h1,h2=>by
   unfold JS at h;cases hb:Nat.beq j k && Nat.beq (cellsOf v).length sz && jm v with
   | false=>rw[hb] at h;cases h
   | true=>
     rw[hb,cond_true] at h;simp only[Bool.and_eq_true] at hb;have e1:=oD hb.1.1;have e2:(v.bH β).cells.size=sz:=(Eu hb.2).trans (oD hb.1.2);have e7:=lz β v (rJ hb.2);subst e1
     split at h
     ·rename_i l hl;cases h;rw[wD,Nat.succ_mul] at h2;rw[kX];unfold Instr.fill;simp only;rw[if_neg (by simp[e2];omega)];have e:=Ah (v.bH β).cells.toList 0 (j*sz) (pre++rest).toArray;rw[vK _ _ _ (by simp[e2];omega)] at e
      have e3:(v.bH β).cells.zipIdx.foldl (λcs (x:Value×Nat)=>cs.setIfInBounds (j*sz+x.2) x.1) (pre++rest).toArray=((pre++(v.bH β).cells.toList)++rest.drop sz).toArray:=by
       rw[<-Array.foldl_toList];have e4:(v.bH β).cells.zipIdx.toList=(v.bH β).cells.toList.zipIdx 0:=cZ;rw[e4,e];apply ry.1;have l1:(v.bH β).cells.toList.length=sz:=by simpa using e2
       simp only[Nat.add_zero,l1];rw[<-h1,Xc (bl _),List.take_length,List.drop_append,pU ae];simp
      have:=vM r (j+1) (pre++(v.bH β).cells.toList) (rest.drop sz) hl (by rw[fH,h1,Nat.succ_mul];simp[e2]) (by rw[Bd];omega);rw[uF] at this;rw[uF] at e3;rw[show (λ(cs:Array Value) (x:Value×Nat)=>match x with|(c,j_1)=>cs.setIfInBounds (j*sz+j_1) c)=(λ(cs:Array Value) (x:Value×Nat)=>cs.setIfInBounds (j*sz+x.2) x.1) from aa,e3,this];simp[e7]
     ·cases h
variable {x y:Operand} {P:Program} {r:Value}
theorem XW {op:BinOp} {u v:Value} (h:binA op u v=some r) (w:World):
  (do eqGuard op t x y u v;binOp op t u v:Sem Value).run P w=.ok r w:=by
 unfold binA at h
 split at h
 ·rename_i k m l n;cases hsh:isSh op with
  | true=>
    rw[hsh] at h;cases hb:decide (n<0) with
    | true=>rw[hb] at h;cases h
    | false=>
      rw[hb] at h;have hn:¬ n<0:=of_decide_eq_false hb
      cases op <;> first
       | (cases hsh;done)
       | (simp only[shI,cond_true,cond_false,Option.some.injEq] at h
          subst h;simp[eqGuard,binOp,Op.shift,hn])
  | false=>
  rw[hsh] at h;cases hk:sameKind k l with
  | false=>rw[hk] at h;cases h
  | true=>
    rw[hk] at h;have RT:k=l:=nO hk;subst RT;unfold binI at h
    cases op <;> simp only[cond_true,cond_false] at h <;> first
     | (cases h;simp[eqGuard,binOp,Op.intCmp,Op.intArith];done)
     | (cases h;done)
     | (cases h;simp[eqGuard,binOp,Op.intBits,bits];done)
     | (cases hn:decide (n=0) with
        | true=>rw[hn] at h;cases h
        | false=>
          rw[hn] at h;cases h;have hn:n≠0:=of_decide_eq_false hn;simp[eqGuard,binOp,Op.intArith,Op.intDiv,hn])
 ·unfold binS at h
  cases op <;> simp only[Option.some.injEq] at h <;> first
   | (cases h;done)
   | (subst h;simp[eqGuard,binOp,Op.stringOp];done)
 ·cases h
variable {ρ:Operand->Value} {p:Option Addr} {t':TypeId}
theorem xt {op:BinOp} (hop:o.op=.binOp op t x y t') (h1:ρ x=.pointer p) (h2:ρ y=.pointer none) (hu:P.underlying t=some (.pointer (P.pointee t))) (h:yK op p.isNone=some r) (w:World):
  (execOp ρ o).run P w=.ok (.value r) w:=by
 unfold yK at h
 cases op <;> simp only[Option.some.injEq] at h <;> first
  | (cases h;done)
  | (subst h;simp[execOp,hop,h1,h2,eqGuard,binOp,run_equal_pointer_nil w t p hu];done)
theorem Iv {op:BinOp} {e:TypeId} {l c:Nat} (hop:o.op=.binOp op t x y t') (h1:ρ x=.slice p l c) (h2:ρ y=.slice none 0 0) (hu:P.underlying t=some (.slice e)) (h:yK op p.isNone=some r) (w:World):
  (execOp ρ o).run P w=.ok (.value r) w:=by
 unfold yK at h
 cases op <;> simp only[Option.some.injEq] at h <;> first
  | (cases h;done)
  | (subst h;simp[execOp,hop,h1,h2,eqGuard,binOp,run_equal_slice_nil w t e p l c hu];done)
theorem Mp (f:Int->Int->Int) (m2:Value->Value->Sem Value) (hm:∀ k a b (w:World),(m2 (.int k a) (.int k b)).run P w=.ok (.int k (f a b)) w):∀ (l:List Value) (v:Value) {k:IntKind} {xs:List Int},Et (v::l)=some (k,xs)->
  ∃ x r,xs=x::r/\v=.int k x/\∀ (y:Int) (w:World),(l.foldlM m2 (.int k y)).run P w=.ok (.int k (r.foldl f y)) w:=by
 intro l
 induction l with
 | nil=>
   intro v k xs h;cases v <;> first|(cases h;done)|skip
   cases h;exact⟨_,[],aa,aa,λy w=>aa⟩
 | cons u s ih=>
   intro v k xs h;cases v <;> first|(cases h;done)|skip
   rename_i k' a;have h':(match Et (u::s) with|some (l,xs)=>bif sameKind k' l then some (k',a::xs) else none|none=>none)=some (k,xs):=h
   split at h'
   ·rename_i l ys hl;cases hk:sameKind k' l with
    | false=>rw[hk] at h';cases h'
    | true=>
      rw[hk] at h';have RT:k'=l:=nO hk;subst RT;cases h';obtain⟨x,r,rfl,rfl,hr⟩:=ih u hl;refine⟨a,x::r,aa,aa,λy w=> ?_⟩;rw[List.foldlM_cons,Sem.run_bind,hm,Result.andThen_ok,hr];rfl
   ·cases h'
theorem iQ {F:Fr} (h:uU F o=.gM v u):False:=by
 unfold uU at h;split at h <;> cases h
theorem oQ {k:Nat} (h:qU i cs k=.gM v u):
  u=none/\∃ p,i.places[k]? =some p/\((i.TW[k]? =some true/\v=BD ((cs.drop p.1).take p.2))\/(i.TW[k]? =some false/\cs[p.1]? =some v/\oO v=true)):=by
 unfold qU at h
 split at h
 ·rename_i p hp hg;rw[eH,ql] at h;cases h;exact⟨aa,p,hp,.inl ⟨hg,aa⟩⟩
 ·rename_i p hp hg
  split at h
  ·rename_i x hx;cases hn:oO x with
   | false=>rw[hn] at h;cases h
   | true=>
     rw[hn] at h;cases h;rw[Dk] at hx;exact⟨aa,p,hp,.inr ⟨hg,hx,hn⟩⟩
  ·cases h
 ·cases h
theorem Iw (hC:C.Ok) (hi:C.ti t=some i) {k:Nat} (h:qU i cs k=.gM v u) (w:World):
  (Instr.field t (.agg (cs.map (AV.leaf β)).toArray) k).run C.P w=.ok (v.bH β) w:=by
 obtain⟨_,p,hp,⟨hg,rfl⟩|⟨hg,hv,hn⟩⟩:=oQ h
 ·refine (hC t i hi).fld k p hp _ w _ ?_;rw[hg,xo];simp only
  congr 2
  apply ry.1;simp[Array.toList_extract,List.extract_eq_take_drop,List.map_take,List.map_drop]
 ·refine (hC t i hi).fld k p hp _ w _ ?_;rw[hg,<-uV hn];simp[hv]
theorem yN {k:Nat} (h:qU i cs k=.gM v u):∀ j∈v.ids,j∈bM cs:=by
 intro j hj;obtain⟨_,p,hp,⟨hg,rfl⟩|⟨hg,hv,hn⟩⟩:=oQ h
 ·obtain⟨x,hx,hj'⟩:=dh.1 (Af hj);exact dh.2 ⟨x,uB (mU hx),hj'⟩
 ·exact dh.2 ⟨v,dz hv,by rw[xp hn];exact hj⟩
theorem yO (hC:C.Ok) (hr:Rel C β F H a w) (hi:C.ti t=some i) {b:Nat} {tb:TypeId} (hb:H b=some (tb,cs)) {y:AV} (h1:off+i.size<=cs.length) (h2:(cellsOf y).length=i.size) (h3:(cellsOf y).all bO=true):
  (Instr.storeAt t (.pointer (some ⟨β b,off,none⟩)) (y.bH β)).run C.P w=.ok () (w.setCells (β b) off ((cellsOf y).map (AV.leaf β))):=by
 obtain⟨_,_,g1,_⟩:=hr.own b tb cs hb;have ht:=Sc h3;have kP:=lz β y ht;have hz:=(hC t i hi).size;cases hq:C.P.info? t with
 | none=>rw[hq] at hz;simp at hz
 | some ti=>
   rw[hq] at hz;simp at hz
   have:=run_storeCells_cells (P:=C.P) (β b) off ((cellsOf y).map (AV.leaf β)) 0 w (λj hj=>by
     rw[bJ] at hj;obtain⟨z,hz⟩:∃ z,(cs.map (AV.leaf β))[off+j]? =some z:=⟨_,bj (by rw[bJ];omega)⟩;rw[nP,g1.cell (u:=z) (by simpa using hz)];rfl)
    (λj _=>g1.frozen _) (λz hz=>by
     obtain⟨q,hq,rfl⟩:=eG.1 hz;exact Er (uR (eg.1 h3 q hq)))
   have e6:(y.bH β).cells.size=i.size:=by rw[<-DL,<-kP,bJ,h2]
   rw[nP] at this;simp only[Instr.storeAt,Instr.sureAddr,storeVar,sizeOf,typeInfo,Sem.run_bind,Sem.run_pure,Result.andThen_ok];simp[hq,hz,e6,<-kP,this]
theorem Ai (hr:Rel C β F H a w) {b:Nat} {tb:TypeId} (hb:H b=some (tb,cs)) (hv:∀ j u,vs[j]? =some u->cs[off+j]? =some u):∀ j u,(vs.map (AV.leaf β))[j]? =some u->w.cell? ((⟨β b,off,none⟩:Addr).add j)=some u:=by
 intro j u hj;obtain⟨_,_,g1,_⟩:=hr.own b tb cs hb;rw[Addr.add_mid];rw[gT] at hj;cases hvj:vs[j]? with
 | none=>rw[hvj] at hj;cases hj
 | some x=>
   rw[hvj] at hj;cases hj;refine g1.cell ?_;simp[hv j x hvj]
theorem Sd (hC:C.Ok) (h:act C F H o=.gM v u) (hd:nU C.N o.dst=true) (hr:Rel C β F H a w):gP C F H o a w v u:=by
 unfold act at h;cases hop:o.op <;> rw[hop] at h <;> simp only at h <;> try (first|cases h;done|exact (iQ h).elim)
 case move x=>
  obtain⟨h1,rfl⟩:=rK h;exact gP.pure hr hd (hr.gm h1) (by simp[execOp,hop,hr.ev h1])
 case assign x=>
  obtain⟨h1,rfl⟩:=rK h;exact gP.pure hr hd (hr.gm h1) (by simp[execOp,hop,hr.ev h1])
 case pick c x y=>
  split at h
  ·rename_i t ht;obtain⟨h1,rfl⟩:=rK h;have hc:=hr.nS ht;cases t
   ·exact gP.pure hr hd (hr.gm h1) (by simp[execOp,hop,hc,asBool,hr.ev h1])
   ·exact gP.pure hr hd (hr.gm h1) (by simp[execOp,hop,hc,asBool,hr.ev h1])
  ·cases h
 case alloc t=>
  split at h
  ·rename_i d i jV hi;obtain⟨h1,h2,h3,rfl,rfl⟩:=vL h;rw[jV] at hd;have hlt:d<C.N:=by simpa [nU,Nat.blt_eq] using hd
   obtain⟨dQ,he,OX⟩:=hr.make hlt h1 h2 h3 (by rw[ah];intro j hj;cases hj);rw[aV] at OX;refine⟨dQ,_,bg.alloc _ _,OX.put (by rw[jV];exact hd) (Dl aa),.inl ?_⟩;have Ew:(AV.box d 0).bH dQ=.pointer (some ⟨w.heap.size,0,none⟩):=by show Value.pointer (some ⟨dQ d,0,none⟩)=_;rw[he]
   rw[Ew];simp[execOp,hop,Instr.alloc,(hC t i hi).zero,newVar,newRow]
  ·cases h
 case box t x=>
  split at h
  ·rename_i d y jV hv;obtain⟨h1,h2,h3,rfl,rfl⟩:=vL h;rw[jV] at hd;have hlt:d<C.N:=by simpa [nU,Nat.blt_eq] using hd
   have ht:=Sc h3;obtain⟨dQ,he,OX⟩:=hr.make hlt h1 h2 h3 (λj hj=>hr.gm hv j (nh ht hj));rw[lz β y ht] at OX;refine⟨dQ,_,bg.alloc _ _,OX.put (by rw[jV];exact hd) (Dl aa),.inl ?_⟩;have Ew:(AV.box d 0).bH dQ=.pointer (some ⟨w.heap.size,0,none⟩):=by show Value.pointer (some ⟨dQ d,0,none⟩)=_;rw[he]
   rw[Ew];simp[execOp,hop,Instr.box,hr.ev hv,newVar,newRow]
  ·cases h
 case build t ps=>
  split at h
  ·rename_i i l hi hl
   split at h
   ·rename_i cs hf;rw[eH,ql] at h;cases h;have Pd:=hr.JR hl
    have hg:i.agg=true:=by
     cases hg:i.agg with
     | true=>rfl
     | false=>rw[hg] at hf;cases hf
    rw[hg] at hf;refine gP.pure hr hd (λj hj=> ?_) ?_
    ·rcases Iu _ _ hf j (Af hj) with e|⟨p,hp,e⟩
     ·rw[ah] at e;cases e
     ·exact hr.closed.JR hl p hp j e
    ·have:(Instr.build t (ps.map λx=>(x.1,a.eval x.2))).run C.P w=.ok (.agg (cs.map (AV.leaf β)).toArray) w:=(hC t i hi).bld hg _ w _ (by
      rw[rz,Pd];have:=Mh (β:=β) _ _ hf;rw[aV] at this;exact this)
     rw[xo];simp[execOp,hop,this]
   ·cases h
  ·cases h
 case load t x=>
  split at h
  ·rename_i b off i hx hi
   split at h
   ·rename_i tb cs hb;obtain⟨h1,rfl,rfl⟩:=Iq h;have he:a.eval x=.pointer (some ⟨β b,off,none⟩):=hr.ev hx;have hl:((cs.drop off).take i.size).length=i.size:=by rw[cw,Bd];omega
    have hk:((cs.drop off).take i.size).all bO=true:=eg.2 λy hy=>eg.1 (hr.own b tb cs hb).ok y (uB (mU hy))
    have hsub:∀ j u,((cs.drop off).take i.size)[j]? =some u->cs[off+j]? =some u:=λj u hj=>by
     rw[AY] at hj
     split at hj
     ·rwa [uD] at hj
     ·cases hj
    refine gP.pure hr hd (λj hj=> ?_) ?_
    ·obtain⟨y,hy,hj'⟩:=dh.1 (Ag hk hj);exact hr.hp.closed b tb cs hb j (dh.2 ⟨y,uB (mU hy),hj'⟩)
    ·have:=ke (hC t i hi) ⟨β b,off,none⟩ (((cs.drop off).take i.size).map (AV.leaf β)) (by rw[bJ,hl]) w (Ai hr hb hsub);rw[xr (hC t i hi) hl hk];simp[execOp,hop,he,Instr.loadAt,Instr.sureAddr,this]
   ·cases h
  ·split at h <;> cases h
  ·cases h
  ·cases h
 case store t x y=>
  split at h
  ·rename_i b off y' i hx hv hi
   split at h
   ·rename_i tb cs hb;obtain⟨h1,h2,h3,rfl,rfl⟩:=Ps h;have he:a.eval x=.pointer (some ⟨β b,off,none⟩):=hr.ev hx;have hy:=hr.ev hv;obtain⟨k1,k2⟩:=hr.stored hb (by rw[h2];exact h1) h3 (λj hj=>hr.gm hv j (nh (Sc h3) hj));rw[h2] at k2;refine⟨β,_,k1,k2.put hd (λ_ hi=>by cases hi),.inr ⟨?_,aa⟩⟩;have:=yO hC hr hi hb h1 h2 h3;simp[execOp,hop,he,hy,this]
   ·cases h
  ·split at h
   ·unfold Mf at h
    revert h
    generalize (Nat.beq _ _ && _)=q;cases q <;> intro h <;> cases h
   ·cases h
  ·cases h
 case binOp op t x y t'=>
  split at h
  ·rename_i p q hp hq;have e1:=hr.nS hp;have e2:=hr.nS hq
   split at h
   ·rename_i i hi;obtain⟨y',h1,rfl,rfl⟩:=jn h;cases hb:i.bool with
    | false=>rw[hb] at h1;cases h1
    | true=>
      rw[hb] at h1;change binB op p q=some y' at h1;refine gP.val hr hd ?_;have hu:=(hC t i hi).isBool hb;unfold binB at h1;cases op <;> simp at h1 <;> subst h1 <;> simp[execOp,hop,e1,e2,eqGuard,binOp,run_equal_bool w t _ _ hu]
   ·cases h
  ·rename_i p hp hq;have e1:=hr.nS hp;have e2:=hr.nS hq
   split at h
   ·rename_i i hi;obtain⟨y',h1,rfl,rfl⟩:=jn h;cases hb:i.ptr with
    | false=>rw[hb] at h1;cases h1
    | true=>
      rw[hb] at h1;change yK op p.isNone=some y' at h1;exact gP.val hr hd (xt hop e1 e2 ((hC t i hi).RY hb) h1 w)
   ·cases h
  ·rename_i p l c n c' hp hq;have e1:=hr.nS hp;have e2:=hr.nS hq
   split at h
   ·rename_i i hi;obtain⟨y',h1,rfl,rfl⟩:=jn h;cases hb:(i.elem.isSome && (Nat.beq n 0 && Nat.beq c' 0)) with
    | false=>rw[hb] at h1;cases h1
    | true=>
      rw[hb] at h1;change yK op p.isNone=some y' at h1;simp only[Bool.and_eq_true,Nat.beq_eq] at hb;obtain⟨hb,rfl,rfl⟩:=hb;obtain⟨⟨e,sz⟩,he⟩:=Option.isSome_iff_exists.1 hb;exact gP.val hr hd (Iv hop e1 e2 ((hC t i hi).isSlice e sz he).1 h1 w)
   ·cases h
  ·rename_i p q _ _ _ hp hq;obtain⟨y',h1,rfl,rfl⟩:=jn h;refine gP.val hr hd ?_;have:=XW (P:=C.P) (t:=t) (x:=x) (y:=y) h1 w;unfold execOp;rw[hop];show (do pure (Next.value (<-(do eqGuard op t x y (a.eval x) (a.eval y);binOp op t (a.eval x) (a.eval y)))):Sem Next).run C.P w=_;rw[hr.nS hp,hr.nS hq,Sem.run_bind,this];rfl
  ·rename_i hp hq;have e2:=hr.nS hq
   split at h
   ·rename_i b off i hx hi;have e1:a.eval x=.pointer (some ⟨β b,off,none⟩):=hr.ev hx;obtain⟨y',h1,rfl,rfl⟩:=jn h;cases hb:i.ptr with
    | false=>rw[hb] at h1;cases h1
    | true=>
      rw[hb] at h1;change yK op false=some y' at h1;exact gP.val hr hd (xt hop e1 e2 ((hC t i hi).RY hb) h1 w)
   ·rename_i b off i hx hi;have e1:a.eval x=.pointer (some ⟨β b,off,none⟩):=hr.ev hx;obtain⟨y',h1,rfl,rfl⟩:=jn h;cases hb:i.ptr with
    | false=>rw[hb] at h1;cases h1
    | true=>
      rw[hb] at h1;change yK op false=some y' at h1;exact gP.val hr hd (xt hop e1 e2 ((hC t i hi).RY hb) h1 w)
   ·cases h
  ·rename_i n c' hp hq;have e2:=hr.nS hq
   split at h
   ·rename_i b off l c i hx hi;have e1:a.eval x=.slice (some ⟨β b,off,none⟩) l c:=hr.ev hx;obtain⟨y',h1,rfl,rfl⟩:=jn h;cases hb:(i.elem.isSome && (Nat.beq n 0 && Nat.beq c' 0)) with
    | false=>rw[hb] at h1;cases h1
    | true=>
      rw[hb] at h1;change yK op false=some y' at h1;simp only[Bool.and_eq_true,Nat.beq_eq] at hb;obtain⟨hb,rfl,rfl⟩:=hb;obtain⟨⟨e,sz⟩,he⟩:=Option.isSome_iff_exists.1 hb;exact gP.val hr hd (Iv hop e1 e2 ((hC t i hi).isSlice e sz he).1 h1 w)
   ·cases h
  ·cases h
 case unOp op t x=>
  cases op <;> simp only at h <;> try (exact (iQ h).elim)
  ·split at h
   ·rename_i k n hx;cases h;exact gP.val hr hd (by simp[execOp,hop,hr.nS hx,Op.unary,Op.intArith])
   ·cases h
  ·split at h
   ·rename_i t ht;cases h;exact gP.val hr hd (by simp[execOp,hop,hr.nS ht,Op.unary])
   ·cases h
 case convert s t x=>
  split at h
  ·rename_i i' i k n hs hi hx
   split at h
   ·rename_i kd hk;cases h;obtain⟨d,hsd,_⟩:=(hC s i' hs).row;have hu:=(hC t i hi).isInt kd hk;refine gP.val hr hd ?_
    have:(convert s t (.int k n)).run C.P w=.ok (.int kd (kd.wrap n)) w:=by
     cases d <;> simp[convert,run_underlying hsd,run_underlying hu,Conv.intToInt]
    simp[execOp,hop,hr.nS hx,this]
   ·cases h
  ·cases h
 case fieldAddr t x k=>
  split at h
  ·rename_i b off i hx hi
   split at h
   ·rename_i p hp;cases h;have he:a.eval x=.pointer (some ⟨β b,off,none⟩):=hr.ev hx;exact gP.pure hr hd (λi' xu=>hr.gm hx i' (by simpa [AV.ids] using xu)) (by simp[execOp,hop,he,(hC t i hi).XR k p hp,AV.bH])
   ·cases h
  ·rename_i b off i hx hi
   split at h
   ·rename_i p hp;cases h;have he:a.eval x=.pointer (some ⟨β b,off,none⟩):=hr.ev hx;exact gP.pure hr hd (λi' xu=>hr.gm hx i' (by simpa [AV.ids] using xu)) (by simp[execOp,hop,he,(hC t i hi).XR k p hp,AV.bH])
   ·cases h
  ·rename_i b off i hx hi
   split at h
   ·rename_i p hp;cases h;have he:a.eval x=.pointer (some ⟨b,off,none⟩):=hr.ev hx;exact gP.val hr hd (by simp[execOp,hop,he,(hC t i hi).XR k p hp])
   ·cases h
  ·cases h
 case nilCheck x=>
  split at h
  ·rename_i b off hx;cases h;have he:a.eval x=.pointer (some ⟨β b,off,none⟩):=hr.ev hx;exact gP.pure hr hd (λi' xu=>hr.gm hx i' (by simpa [AV.ids] using xu)) (by simp[execOp,hop,he,AV.bH])
  ·rename_i b off hx;cases h;have he:a.eval x=.pointer (some ⟨β b,off,none⟩):=hr.ev hx;exact gP.pure hr hd (λi' xu=>hr.gm hx i' (by simpa [AV.ids] using xu)) (by simp[execOp,hop,he,AV.bH])
  ·rename_i b hx;cases h;have he:a.eval x=.pointer (some b):=hr.ev hx;exact gP.val hr hd (by simp[execOp,hop,he])
  ·cases h
 case field t x k=>
  split at h
  ·rename_i cs i hx hi;obtain⟨rfl,_⟩:=oQ h;have he:a.eval x=.agg cs:=hr.ev hx;refine gP.pure hr hd (λj hj=> ?_) ?_
   ·have:=yN h j hj;rw[ah] at this;cases this
   ·have:=Iw (β:=β) hC hi h w;rw[aV] at this;simp[execOp,hop,he,this]
  ·rename_i l i hx hi;obtain⟨rfl,_⟩:=oQ h;have he:a.eval x=.agg (l.map (AV.leaf β)).toArray:=hr.ev hx;refine gP.pure hr hd (λj hj=>hr.gm hx j (yN h j hj)) ?_;have:=Iw (β:=β) hC hi h w;simp[execOp,hop,he,this]
  ·cases h
 case extract x k=>
  split at h
  ·rename_i vs hx;obtain⟨y,h1,rfl,rfl⟩:=jn h;rw[Dk] at h1;have h1:vs[k]? =some y:=by simpa using h1
   have he:a.eval x=.tuple vs:=hr.ev hx;exact gP.val hr hd (by simp[execOp,hop,he,Instr.extract,h1])
  ·rename_i l hx
   split at h
   ·rename_i y hy;cases hn:jm y with
    | false=>rw[hn] at h;cases h
    | true=>
      rw[hn] at h;cases h;rw[Dk] at hy;have he:a.eval x=.tuple (l.map (AV.nR β)).toArray:=hr.ev hx;refine gP.pure hr hd (λj hj=>hr.gm hx j (sR.2 ⟨v,dz hy,by rw[xq hn];exact hj⟩)) ?_;rw[<-uW hn];simp[execOp,hop,he,Instr.extract,hy]
   ·cases h
  ·cases h
 case call c=>
  split at h
  ·rename_i kP
   split at h
   ·rename_i x t hx ht;have e1:c.args=#[x]:=ry.1 hx;have e2:c.argTypes=#[t]:=ry.1 ht
    split at h
    ·rename_i p n k i hv hi
     split at h
     ·rename_i sz hz;cases h;obtain⟨he,_⟩:=(hC t i hi).isSlice sz.1 sz.2 hz;have e3:a.eval x=.slice p n k:=hr.ev hv;exact gP.val hr hd (by simp[execOp,hop,resolve,kP,invoke,builtin,Builtin.len_,e1,e2,e3,run_underlying he,goInt])
     ·cases h
    ·rename_i b o n k i hv hi
     split at h
     ·rename_i sz hz;cases h;obtain⟨he,_⟩:=(hC t i hi).isSlice sz.1 sz.2 hz;have e3:a.eval x=.slice (some ⟨β b,o,none⟩) n k:=hr.ev hv;exact gP.val hr hd (by simp[execOp,hop,resolve,kP,invoke,builtin,Builtin.len_,e1,e2,e3,run_underlying he,goInt])
     ·cases h
    ·cases h
   ·cases h
  ·rename_i kP
   split at h
   ·rename_i k x r hx;cases h;obtain⟨vs,Ud,qW⟩:=Option.bind_eq_some_iff.1 hx;have e1:=hr.evs Ud;cases vs with
    | nil=>cases qW
    | cons y l=>
      obtain⟨x',r',he,rfl,hrun⟩:=Mp (P:=C.P) (λx y=>if y>x then y else x) Builtin.max2 (λk a b w=>aa) l y qW;cases he
      have hm:∀ (r:List Int) (x:Int),uj x r=r.foldl (λx y=>if y>x then y else x) x:=λr=>by
       induction r with
       | nil=>intro x;rfl
       | cons z r ih=>intro x;rw[uj,ih];rfl
      refine gP.val hr hd ?_;have e5:(c.args.map a.eval).toList=.int k x::l:=by rw[rz,e1]
      have e6:(Builtin.max_ c.argTypes o.type (c.args.map a.eval)).run C.P w=.ok (.int k (uj x r)) w:=by
       unfold Builtin.max_;rw[e5];show (l.foldlM Builtin.max2 (.int k x)).run C.P w=_;rw[hrun,hm]
      unfold execOp;rw[hop];simp only[resolve,kP,invoke,builtin,Sem.run_bind,Sem.run_pure,Result.andThen_ok,e6]
   ·cases h
  ·rename_i kP
   split at h
   ·rename_i k x r hx;cases h;obtain⟨vs,Ud,qW⟩:=Option.bind_eq_some_iff.1 hx;have e1:=hr.evs Ud;cases vs with
    | nil=>cases qW
    | cons y l=>
      obtain⟨x',r',he,rfl,hrun⟩:=Mp (P:=C.P) (λx y=>if y<x then y else x) Builtin.min2 (λk a b w=>aa) l y qW;cases he
      have hm:∀ (r:List Int) (x:Int),XS x r=r.foldl (λx y=>if y<x then y else x) x:=λr=>by
       induction r with
       | nil=>intro x;rfl
       | cons z r ih=>intro x;rw[XS,ih];rfl
      refine gP.val hr hd ?_;have e5:(c.args.map a.eval).toList=.int k x::l:=by rw[rz,e1]
      have e6:(Builtin.min_ c.argTypes o.type (c.args.map a.eval)).run C.P w=.ok (.int k (XS x r)) w:=by
       unfold Builtin.min_;rw[e5];show (l.foldlM Builtin.min2 (.int k x)).run C.P w=_;rw[hrun,hm]
      unfold execOp;rw[hop];simp only[resolve,kP,invoke,builtin,Sem.run_bind,Sem.run_pure,Result.andThen_ok,e6]
   ·cases h
  ·split at h
   ·rw[eH] at h;cases h
   ·cases h
  ·exact (iQ h).elim
 case makeFunc fn first cap=>
  cases fn <;> simp only at h <;> try (exact (iQ h).elim)
  split at h
  ·rename_i l hl hm;cases h;have e1:=hr.evs hl;have e2:=hr.BC hm;have e3:first.map a.eval=l.toArray:=ry.1 (by rw[rz,e1]);have e4:cap.map a.eval=#[]:=ry.1 (by rw[rz,e2];rfl);exact gP.val hr hd (by simp[execOp,hop,Instr.makeFunc,e3,e4])
  ·rename_i l m hne hl hm
   split at h
   ·rename_i bs Dc;cases h;have e1:=hr.evs hl;have e2:=hr.BC hm;have e3:first.map a.eval=l.toArray:=ry.1 (by rw[rz,e1]);have hb:=Ev Dc;have e4:cap.map a.eval=(bs.map λp=>Value.pointer (some ⟨β p.1,p.2,none⟩)).toArray:=ry.1 (by rw[rz,e2,hb,pZ];rfl)
    exact gP.pure hr hd (λi hi=>by
     obtain⟨p,hp,rfl⟩:=eG.1 (show i∈bs.map (·.1) from hi);exact hr.closed.BC hm (.box p.1 p.2) (by rw[hb];exact eG.2 ⟨p,hp,aa⟩) p.1 (by simp[AV.ids])) (by simp[execOp,hop,Instr.makeFunc,e3,e4,AV.bH])
   ·cases h
  ·cases h
 case buildSlice t n ps=>
  revert h
  cases hsu:C.SU t <;> intro h
  ·rw[cond_false] at h
   split at h
   ·rename_i d i l jV hi hl
    split at h
    ·rename_i e sz hz
     split at h
     ·rename_i ie cs Dm hcs;cases hq:Nat.beq ps.size n && Nat.ble (n*sz) 16777216 with
      | false=>rw[hq] at h;cases h
      | true=>
        rw[hq] at h;rw[jP] at hq;have q1:=oD hq.1;have q2:=bF hq.2;obtain⟨h1,h2,h3,rfl,rfl⟩:=Ir h;rw[jV] at hd;have hlt:d<C.N:=by simpa [nU,Nat.blt_eq] using hd
        obtain⟨dQ,he,OX⟩:=hr.make hlt h1 h2 h3 (λj hj=>by
         obtain⟨p,hp,hpj⟩:=Mn _ _ hcs j hj;exact hr.closed.JR hl p hp j hpj)
        refine⟨dQ,_,bg.alloc _ _,OX.put (by rw[jV];exact hd) (Dl aa),.inl ?_⟩;have Ew:(AV.row d 0 n n).bH dQ=.slice (some ⟨w.heap.size,0,none⟩) n n:=by show Value.slice (some ⟨dQ d,0,none⟩) n n=_;rw[he]
        rw[Ew];obtain⟨hu,hsz⟩:=(hC t i hi).isSlice e sz hz;have Pd:=hr.JR hl
        have hlen:l.length=n:=by
         have:=ak List.length Pd;simp at this;omega
        have BG:∀ A:Array Value,A.size=n*sz->Instr.fill (λi=>some (i*sz,sz)) A (l.map λp=>(p.1,p.2.bH β))=some (cs.map (AV.leaf β)).toArray:=λA hA=>by
         have:=vM (β:=β) (sz:=sz) l 0 [] A.toList hcs cZ (by rw[DL,hA,hlen]);simpa using this
        have nW:=(hC e ie Dm).zero;simp only[execOp,hop,Instr.buildSlice,Sem.run_bind,run_underlying hu,Result.andThen_ok,hsz];rw[if_neg ae];have e5:(ps.map λx=>(x.1,a.eval x.2)).toList=l.map λp=>(p.1,p.2.bH β):=by rw[rz,Pd]
        by_cases hn:n*sz=0
        ·simp only[if_pos hn,Sem.run_bind,Sem.run_pure,Result.andThen_ok];rw[e5,BG _ cZ];simp[newRow]
        ·simp only[if_neg hn,Sem.run_bind,Sem.run_pure,Result.andThen_ok,nW];rw[e5,BG _ cZ];simp[newRow]
     ·cases h
    ·cases h
   ·cases h
  ·exact (iQ h).elim
 case indexAddr t x ix=>
  split at h
  ·split at h <;> cases h
  ·split at h <;> cases h
  ·cases h
 case makeSlice t l c=>
  split at h
  ·split at h
   ·split at h
    ·revert h
     generalize (!_ && _)=q;cases q <;> intro h <;> cases h
    ·cases h
   ·cases h
  ·cases h
 case slice t x lo hi mx=>
  cases mx <;> simp only at h <;> try (exact (iQ h).elim)
  split at h
  ·split at h <;> cases h
  ·split at h <;> cases h
  ·cases h
end
section
variable {C:Cx} {β:Nat->Nat} {F:Fr} {H:Hp} {a:Act} {w w':World} {full:Array Oper} {o:Oper} {Q:Exit->Act->World->Prop}
theorem uX (hr:Rel C β F H a w) {b:Bool} (h:wants full F o=some b):Region.wanted o (yielded full a.tmps)=b:=by
 unfold wants at h;unfold Region.wanted
 split at h
 ·rename_i hg;rw[hg];cases h;rfl
 ·rename_i g want hg;rw[hg]
  split at h
  ·cases h
  ·rename_i d hd
   split at h
   ·rename_i c hc;cases h;have:=hr.tmp d _ hc
    have h2:a.tmps[d]? =some (.bool c):=by
     rw[lX] at this;cases he:a.tmps[d]? with
     | none=>rw[he] at this;simp[undef,AV.bH] at this
     | some z=>rw[he] at this;simpa [AV.bH] using this
    simp only[yielded,hd,Option.bind_some,h2];cases c <;> cases want <;> rfl
   ·rename_i vs hc;cases h;have:=hr.tmp d _ hc;simp only[yielded,hd,Option.bind_some];rw[lX] at this;cases he:a.tmps[d]? with
    | none=>rfl
    | some z=>
      rw[he] at this;simp[AV.bH] at this;subst this;rfl
   ·cases h
def Plain (s:Step):Prop:=s=.bad\/∃ v u,s=.gM v u
theorem Plain.bad:Plain .bad:=.inl rfl
theorem Plain.gM (v:AV) (u:Option (Nat×(TypeId×List AV))):Plain (.gM v u):=.inr ⟨v,u,rfl⟩
theorem Plain.GG (x:Option AV):Plain (Proofs.YtlifeokjcgngjaaGreat.GG x):=by cases x <;> first|exact .bad|exact .gM _ _
theorem Plain.yL (x:Option Value):Plain (Proofs.YtlifeokjcgngjaaGreat.yL x):=by cases x <;> first|exact .bad|exact .gM _ _
theorem Plain.Es (i:TI) (cs:List AV) (off:Nat):Plain (Proofs.YtlifeokjcgngjaaGreat.Es i cs off):=by
 unfold Proofs.YtlifeokjcgngjaaGreat.Es;rw[eH];cases Nat.ble (off+i.size) cs.length
 ·exact .bad
 ·cases i.agg
  ·show Plain (match (cs.drop off).take i.size with|x::_=>.gM x none|[]=>.bad)
   split <;> first|exact .bad|exact .gM _ _
  ·rw[cond_true,cond_true,ql];exact .gM _ _
theorem Plain.uS (i:TI) (b:Nat) (t:TypeId) (cs:List AV) (off:Nat) (v:AV):Plain (Proofs.YtlifeokjcgngjaaGreat.uS i b t cs off v):=by
 unfold Proofs.YtlifeokjcgngjaaGreat.uS;rw[eH];cases (Nat.ble (off+i.size) cs.length && Nat.beq (cellsOf v).length i.size && (cellsOf v).all bO) <;> first|exact .bad|exact .gM _ _
theorem Plain.uT (K:KC) (d:Nat) (t:TypeId) (cs:List AV) (h:Option (TypeId×List AV)):Plain (Proofs.YtlifeokjcgngjaaGreat.uT K d t cs h):=by
 unfold Proofs.YtlifeokjcgngjaaGreat.uT;cases h with
 | some _=>exact .bad
 | none=>dsimp only;rw[eH];cases (!K.fz t && cs.all bO) <;> first|exact .bad|exact .gM _ _
theorem Plain.BF (K:KC) (d:Nat) (e:TypeId) (n:Nat) (cs:List AV) (h:Option (TypeId×List AV)):Plain (Proofs.YtlifeokjcgngjaaGreat.BF K d e n cs h):=by
 unfold Proofs.YtlifeokjcgngjaaGreat.BF;cases h with
 | some _=>exact .bad
 | none=>dsimp only;rw[eH];cases (!K.fz e && cs.all bO) <;> first|exact .bad|exact .gM _ _
theorem Plain.qU (i:TI) (cs:List AV) (k:Nat):Plain (Proofs.YtlifeokjcgngjaaGreat.qU i cs k):=by
 unfold Proofs.YtlifeokjcgngjaaGreat.qU
 split
 ·rw[eH,ql];exact .gM _ _
 ·split
  ·rename_i x _;cases oO x <;> first|exact .bad|exact .gM _ _
  ·exact .bad
 ·exact .bad
variable {s:Step}
theorem Plain.no_read (h:Plain s) {i:TI} {x:Addr} (e:s=.read i x):False:=by rcases h with h|⟨v,u,h⟩ <;> rw[h] at e <;> cases e
variable {cs:List AV}
theorem Plain.no_peek (h:Plain s) {i:TI} {x:Nat} (e:s=.mv i cs x):False:=by rcases h with h|⟨v,u,h⟩ <;> rw[h] at e <;> cases e
variable {v:AV} {u:Option (Nat×(TypeId×List AV))} {φ:Prop}
theorem Plain.Se (h:Plain s) (e:s=.cond φ v u):False:=by rcases h with h|⟨v,u,h⟩ <;> rw[h] at e <;> cases e
variable {d:rH}
theorem Plain.no_call (h:Plain s) (e:s=.call d):False:=by rcases h with h|⟨v,u,h⟩ <;> rw[h] at e <;> cases e
inductive Kind (C:Cx) (F:Fr) (H:Hp) (o:Oper):Step->Prop
 | plain {s:Step}:Plain s->Kind C F H o s
 | read {t:TypeId} {y:Operand} {i:TI} {x:Addr}:o.op=.load t y->C.ti t=some i->ev F y=some (.val (.pointer (some x)))->Kind C F H o (.read i x)
 | mv {t:TypeId} {y:Operand} {i:TI} {b off:Nat} {tb:TypeId} {cs:List AV}:o.op=.load t y->C.ti t=some i->ev F y=some (.xn b off)->H b=some (tb,cs)->Kind C F H o (.mv i cs off)
 | store {t:TypeId} {x y:Operand} {φ:Prop} {v:AV} {u:Option (Nat×(TypeId×List AV))}:o.op=.store t x y->Kind C F H o (.cond φ v u)
 | index {t:TypeId} {x y:Operand} {φ:Prop} {v:AV}:o.op=.indexAddr t x y->Kind C F H o (.cond φ v none)
 | slice {t:TypeId} {x:Operand} {lo hi:Option Operand} {φ:Prop} {v:AV}:o.op=.slice t x lo hi none->Kind C F H o (.cond φ v none)
 | make {t:TypeId} {l c:Operand} {φ:Prop} {v:AV} {d:Nat} {q:TypeId×List AV}:o.op=.makeSlice t l c->o.dst=some d->H d=none->Kind C F H o (.cond φ v (some (d,q)))
 | fn {c:Call} {f:Operand} {g:FuncId} {first l cap:List AV}:o.op=.call c->c.callee=.value f->Sa F f=some (g,first,cap)->BC F c.args.toList=some l->Kind C F H o (.call (.fn g (first++(l++cap))))
 | raw {vs:List AV}:BC F o.op.operands.toList=some vs->((∃ t n ps,o.op=.buildSlice t n ps/\C.SU t=true)\/∀ su l,3<=aW su l o)->Kind C F H o (.call (.op o vs))
theorem Kind.bad:Kind C F H o .bad:=.plain .bad
theorem Kind.gM (v:AV) (u:Option (Nat×(TypeId×List AV))):Kind C F H o (.gM v u):=.plain (.gM v u)
theorem Kind.uU (h:(∃ t n ps,o.op=.buildSlice t n ps/\C.SU t=true)\/∀ su l,3<=aW su l o):Kind C F H o (Proofs.YtlifeokjcgngjaaGreat.uU F o):=by
 unfold Proofs.YtlifeokjcgngjaaGreat.uU
 split
 ·rename_i vs hv;exact .raw hv h
 ·exact .bad
theorem uY:Kind C F H o (act C F H o):=by
 unfold act;cases hop:o.op
 case load t y=>
  simp only
  split
  ·split
   ·exact .plain (.Es _ _ _)
   ·exact .bad
  ·rename_i b off i hx hi
   split
   ·rename_i tb cs hb;exact .mv hop hi hx hb
   ·exact .bad
  ·rename_i x i hx hi;exact .read hop hi hx
  ·exact .bad
 case indexAddr t x ix=>
  simp only
  split
  ·split
   ·exact .index hop
   ·exact .bad
  ·split
   ·exact .index hop
   ·exact .bad
  ·exact .bad
 case store t x y=>
  simp only
  split
  ·split
   ·exact .plain (.uS _ _ _ _ _ _)
   ·exact .bad
  ·split
   ·rename_i tb cs hb;unfold Mf;generalize (_ && _)=q;cases q
    ·exact .bad
    ·exact .store hop
   ·exact .bad
  ·exact .bad
 case slice t x lo hi mx=>
  cases mx with
  | some m=>exact .uU (.inr λsu l=>by unfold aW;rw[hop];exact bF aa)
  | none=>
    simp only
    split
    ·split
     ·exact .slice hop
     ·exact .bad
    ·split
     ·exact .slice hop
     ·exact .bad
    ·exact .bad
 case makeSlice t l c=>
  simp only
  split
  ·rename_i d i k n k' m jV hi hl hc
   split
   ·split
    ·rename_i ie Dm h0;generalize (_ && _)=q;cases q
     ·exact .bad
     ·exact .make hop jV h0
    ·exact .bad
   ·exact .bad
  ·exact .bad
 case call c=>
  simp only
  split
  ·split
   ·split
    ·split <;> first|exact .gM _ _|exact .bad
    ·split <;> first|exact .gM _ _|exact .bad
    ·exact .bad
   ·exact .bad
  ·split <;> first|exact .gM _ _|exact .bad
  ·split <;> first|exact .gM _ _|exact .bad
  ·rename_i f kP
   split
   ·rename_i g first cap l hf hl
    rw[eH];exact .fn hop kP hf hl
   ·exact .bad
  ·rename_i h1 h2 h3 h4;refine .uU (.inr λsu l=> ?_);unfold aW;rw[hop];simp only
   split
   ·rename_i e;exact absurd e h1
   ·rename_i e;exact absurd e h2
   ·rename_i e;exact absurd e h3
   ·exact bl _
   ·rename_i e;exact absurd e (h4 _)
   ·omega
 case move=>exact .plain (.GG _)
 case assign=>exact .plain (.GG _)
 case pick=>simp only;split <;> first|exact .plain (.GG _)|exact .bad
 case unOp op _ _=>
  cases op <;> simp only <;> first
   | exact .uU (.inr λsu l=>by unfold aW;rw[hop];exact bF aa)
   | (split <;> first|exact .gM _ _|exact .bad)
 case binOp=>simp only;split <;> first|exact .plain (.yL _)|exact .bad|(split <;> first|exact .plain (.yL _)|exact .bad)
 case convert=>simp only;split <;> first|exact .bad|(split <;> first|exact .gM _ _|exact .bad)
 case extract=>
  simp only
  split
  ·exact .plain (.yL _)
  ·split
   ·rename_i x _;cases jm x <;> first|exact .bad|exact .gM _ _
   ·exact .bad
  ·exact .bad
 case field=>simp only;split <;> first|exact .plain (.qU _ _ _)|exact .bad
 case nilCheck=>simp only;split <;> first|exact .bad|exact .gM _ _
 case fieldAddr=>simp only;split <;> first|exact .bad|(split <;> first|exact .bad|exact .gM _ _)
 case build=>simp only;split <;> first|exact .bad|(split <;> first|exact .bad|(rw[eH,ql];exact .gM _ _))
 case alloc=>simp only;split <;> first|exact .bad|exact .plain (.uT _ _ _ _ _)
 case box=>simp only;split <;> first|exact .bad|exact .plain (.uT _ _ _ _ _)
 case makeFunc fn _ _=>
  cases fn <;> simp only <;> first
   | exact .uU (.inr λsu l=>by unfold aW;rw[hop];exact bF aa)
   | (split <;> first|exact .gM _ _|exact .bad|(split <;> first|exact .gM _ _|exact .bad))
 case buildSlice t n ps=>
  simp only;cases hsu:C.SU t
  ·rw[cond_false]
   split
   ·split
    ·split
     ·cases (Nat.beq _ _ && Nat.ble _ _)
      ·exact .bad
      ·exact .plain (.BF _ _ _ _ _ _)
     ·exact .bad
    ·exact .bad
   ·exact .bad
  ·exact .uU (.inl ⟨t,n,ps,hop,hsu⟩)
 all_goals exact .uU (.inr λsu l=>by unfold aW;rw[hop];exact bF aa)
theorem XX {i:TI} {x:Addr} (h:act C F H o=.read i x):∃ t y,o.op=.load t y/\C.ti t=some i/\ev F y=some (.val (.pointer (some x))):=by
 have k:=uY (C:=C) (F:=F) (H:=H) (o:=o);rw[h] at k;cases k with
 | plain p=>exact (p.no_read aa).elim
 | read h1 h2 h3=>exact⟨_,_,h1,h2,h3⟩
theorem Mq {i:TI} {off:Nat} (h:act C F H o=.mv i cs off):∃ t y b tb,o.op=.load t y/\C.ti t=some i/\ev F y=some (.xn b off)/\H b=some (tb,cs):=by
 have k:=uY (C:=C) (F:=F) (H:=H) (o:=o);rw[h] at k;cases k with
 | plain p=>exact (p.no_peek aa).elim
 | mv h1 h2 h3 h4=>exact⟨_,_,_,_,h1,h2,h3,h4⟩
theorem Ex (h:act C F H o=.call d):(∃ c f g first l cap,o.op=.call c/\c.callee=.value f/\Sa F f=some (g,first,cap)/\BC F c.args.toList=some l/\d=.fn g (first++(l++cap)))\/
  (∃ vs,BC F o.op.operands.toList=some vs/\d=.op o vs/\((∃ t n ps,o.op=.buildSlice t n ps/\C.SU t=true)\/∀ su l,3<=aW su l o)):=by
 have k:=uY (C:=C) (F:=F) (H:=H) (o:=o);rw[h] at k;cases k with
 | plain p=>exact (p.no_call aa).elim
 | fn h1 h2 h3 h4=>exact .inl ⟨_,_,_,_,_,_,h1,h2,h3,h4,aa⟩
 | raw h1 h2=>exact .inr ⟨_,h1,aa,h2⟩
theorem BH (β:Nat->Nat) (z:List Value):∀ n,(nK n (z.map .val)).map (AV.leaf β)=(List.range (n*z.length)).map λi=>z.getD (i%z.length) undef
 | 0=>by simp[nK]
 | n+1=>by
   rw[nK,aQ,aV,BH β z n];rw[Nat.succ_mul,xZ,List.range_add,aQ,pZ]
   congr 1
   ·apply List.ext_getElem
    ·simp
    ·intro i h1 h2;simp only[List.getElem_map,List.getElem_range];rw[xW h1,fG,bj h1];rfl
   ·apply tR;intro i _;simp
theorem Ix {z:List AV} (h:z.all bO=true):∀ n,(nK n z).all bO=true
 | 0=>rfl
 | n+1=>by rw[nK,kW,h,Ix h n];rfl
theorem Ey {z:List AV} (h:bM z=[]):∀ n,bM (nK n z)=[]
 | 0=>rfl
 | n+1=>by rw[nK,iW,h,Ey h n];rfl
theorem dx {z:List Value} (h:z.all cJ=true):(z.map AV.val).all bO=true:=eg.2 λx hx=>by
 obtain⟨y,hy,rfl⟩:=eG.1 hx;exact eg.1 h y hy
theorem Dn (hr:Rel C β F H a w) {x:Option Operand} {k:Option Int} (h:evo F x=some k):(k=none/\x.map a.eval=none)\/∃ kd n,k=some n/\x.map a.eval=some (.int kd n):=by
 cases x with
 | none=>cases h;exact .inl ⟨aa,aa⟩
 | some y=>
   unfold evo at h;simp only at h
   split at h
   ·rename_i kd n hn;cases h;exact .inr ⟨kd,n,aa,by rw[Option.map_some,hr.nS hn]⟩
   ·cases h
variable {P:Program} {t:TypeId}
theorem Iy {e:TypeId} {sz:Nat} (hu:P.underlying t=some (.slice e)) (hsz:∀ w,(sizeOf e).run P w=.ok sz w) {p:Option Addr} {n c:Nat} {lo hi:Option Value} {l h:Option Int}
  (hl:(l=none/\lo=none)\/∃ kd k,l=some k/\lo=some (.int kd k)) (hh:(h=none/\hi=none)\/∃ kd k,h=some k/\hi=some (.int kd k))
  (h0:0<=l.getD 0) (h1:l.getD 0<=h.getD (n:Int)) (h2:h.getD (n:Int)<=(c:Int)) (w:World):
  (Instr.sliceAt t (.slice p n c) lo hi none).run P w=.ok (.slice (if c=(l.getD 0).toNat then p else p.map (·.add ((l.getD 0).toNat*sz))) ((h.getD (n:Int)).toNat-(l.getD 0).toNat) (c-(l.getD 0).toNat)) w:=by
 have hb:(Instr.sliceBounds true n c lo hi none).run P w=.ok ((l.getD 0).toNat,(h.getD (n:Int)).toNat,c) w:=by
  unfold Instr.sliceBounds;rcases hh with ⟨rfl,rfl⟩|⟨kd,k,rfl,rfl⟩ <;> rcases hl with ⟨rfl,rfl⟩|⟨kl,j,rfl,rfl⟩
  ·simp
  ·simp only[Option.getD_some,Option.getD_none] at h0 h1 h2 ⊢;simp[run_sliceBound w kl j n .sliceB h0 h1]
  ·simp only[Option.getD_some,Option.getD_none] at h0 h1 h2 ⊢;simp[run_sliceBound w kd k c .sliceAcap ae h2]
  ·simp only[Option.getD_some] at h0 h1 h2 ⊢;have:(j:Int)<=(k.toNat:Int):=ae;simp[run_sliceBound w kd k c .sliceAcap ae h2,run_sliceBound w kl j k.toNat .sliceB h0 this]
 have h3:(Instr.slice t (.slice p n c) lo hi none).run P w=.ok (.slice (if c=(l.getD 0).toNat then p else p.map (·.add ((l.getD 0).toNat*sz))) ((h.getD (n:Int)).toNat-(l.getD 0).toNat) (c-(l.getD 0).toNat)) w:=by
  unfold Instr.slice;simp only[Sem.run_bind,run_underlying hu,Result.andThen_ok,hb,hsz,Sem.run_pure]
 unfold Instr.sliceAt;simp only[Sem.run_bind,run_underlying hu,Result.andThen_ok];exact h3
theorem Mr (hC:C.Ok) {o:Oper} (h:act C F H o=.cond φ v u) (Pu:φ) (hd:nU C.N o.dst=true) (hr:Rel C β F H a w):gP C F H o a w v u:=by
 have hkind:(∃ t x y,o.op=.store t x y)\/(∃ t x y,o.op=.indexAddr t x y)\/(∃ t x lo hi,o.op=.slice t x lo hi none)\/∃ t l c,o.op=.makeSlice t l c:=by
  have k:=uY (C:=C) (F:=F) (H:=H) (o:=o);rw[h] at k;cases k with
  | plain p=>exact (p.Se aa).elim
  | store e=>exact .inl ⟨_,_,_,e⟩
  | index e=>exact .inr (.inl ⟨_,_,_,e⟩)
  | slice e=>exact .inr (.inr (.inl ⟨_,_,_,_,e⟩))
  | make e=>exact .inr (.inr (.inr ⟨_,_,_,e⟩))
 unfold act at h;rcases hkind with ⟨t,x,y,hop⟩|⟨t,x,y,hop⟩|⟨t,x,lo,hi,hop⟩|⟨t,l,c,hop⟩ <;> rw[hop] at h <;> simp only at h
 ·
  split at h
  ·split at h
   ·unfold uS at h
    revert h
    generalize (_ && _)=q;cases q <;> intro h
    ·cases h
    ·rw[cond_true,eH] at h;cases h
   ·cases h
  ·rename_i b off y' i hx hv hi
   split at h
   ·rename_i tb cs hb;obtain⟨rfl,h2,h3,rfl,rfl⟩:=Uc h;have he:a.eval x=.pointer (some ⟨β b,off,none⟩):=hr.ev hx;have hy:=hr.ev hv;obtain⟨k1,k2⟩:=hr.stored hb (by rw[h2];exact Pu) h3 (λj hj=>hr.gm hv j (nh (Sc h3) hj));rw[h2] at k2;refine⟨β,_,k1,k2.put hd (λ_ hi=>by cases hi),.inr ⟨?_,aa⟩⟩;have:=yO hC hr hi hb Pu h2 h3;simp[execOp,hop,he,hy,this]
   ·cases h
  ·cases h
 ·
  split at h
  ·rename_i b off n c kd k i hx hix hi
   split at h
   ·rename_i e sz hz;cases h;obtain⟨he,hsz⟩:=(hC t i hi).isSlice e sz hz;have hxe:a.eval x=.slice (some ⟨b,off,none⟩) n c:=hr.ev hx;refine gP.val hr hd ?_;simp[execOp,hop,hxe,hr.nS hix,Instr.indexAt,asIntOf,run_underlying he,hsz,Pu,Addr.add_mid]
   ·cases h
  ·rename_i b off n c kd k i hx hix hi
   split at h
   ·rename_i e sz hz;cases h;obtain⟨he,hsz⟩:=(hC t i hi).isSlice e sz hz;have hxe:a.eval x=.slice (some ⟨β b,off,none⟩) n c:=hr.ev hx;refine gP.pure hr hd (λj hj=>hr.gm hx j (by simpa [AV.ids] using hj)) ?_;simp[execOp,hop,hxe,hr.nS hix,Instr.indexAt,asIntOf,run_underlying he,hsz,Pu,Addr.add_mid,AV.bH]
   ·cases h
  ·cases h
 ·
  split at h
  ·rename_i b off n c i l hh hx hi hl hhh
   split at h
   ·rename_i e sz hz;cases h;obtain⟨he,hsz⟩:=(hC t i hi).isSlice e sz hz;have hxe:a.eval x=.slice (some ⟨β b,off,none⟩) n c:=hr.ev hx;refine gP.pure hr hd (λj hj=>hr.gm hx j (by simpa [AV.ids] using hj)) ?_;have:=Iy (P:=C.P) he hsz (p:=some ⟨β b,off,none⟩) (Dn hr hl) (Dn hr hhh) Pu.1 Pu.2.1 Pu.2.2.1 w
    have e4:(if c=(l.getD 0).toNat then some (⟨β b,off,none⟩:Addr) else (some (⟨β b,off,none⟩:Addr)).map (·.add ((l.getD 0).toNat*sz)))=some ⟨β b,if c=(l.getD 0).toNat then off else off+(l.getD 0).toNat*sz,none⟩:=by
     split
     ·rfl
     ·rw[Option.map_some,Addr.add_mid]
    rw[e4] at this;simp[execOp,hop,hxe,this,AV.bH]
   ·cases h
  ·rename_i p n c i l hh hx hi hl hhh
   split at h
   ·rename_i e sz hz;cases h;obtain⟨he,hsz⟩:=(hC t i hi).isSlice e sz hz;have hxe:a.eval x=.slice p n c:=hr.ev hx;have:=Iy (P:=C.P) he hsz (p:=p) (Dn hr hl) (Dn hr hhh) Pu.1 Pu.2.1 Pu.2.2.1 w;exact gP.val hr hd (by simp[execOp,hop,hxe,this])
   ·cases h
  ·cases h
 ·
  split at h
  ·rename_i d i k n k' m jV hi hl hc
   split at h
   ·rename_i e sz hz
    split at h
    ·rename_i ie Dm h0;cases hq: !C.K.fz e && ie.zero.cells.toList.all cJ with
     | false=>rw[hq] at h;cases h
     | true=>
       rw[hq] at h;cases h;rw[jP] at hq;obtain⟨rfl,hn,hb⟩:=Pu;obtain⟨hu,hsz⟩:=(hC t i hi).isSlice e sz hz;rw[jV] at hd;have hlt:d<C.N:=by simpa [nU,Nat.blt_eq] using hd
       have hne:C.K.fz e=false:=by simpa using hq.1
       have Ue:=hC e ie Dm;have XY:=Ue.size;cases Cm:C.P.info? e with
       | none=>rw[Cm] at XY;simp at XY
       | some ti=>
         rw[Cm] at XY;simp only[Option.map_some,Option.some.injEq] at XY;obtain⟨n',rfl⟩:∃ n':Nat,n=(n':Int):=⟨n.toNat,ae⟩;have hbt:ti.bytes<=24*ie.size:=bF (by have:=Ue.bytes;rw[Cm] at this;simpa using this);have hps:=Ue.pos
         have hle:n'<=140737488355328:=by
          have:(n':Int)*24<=n' *(24*(ie.size:Int)):=Int.mul_le_mul_of_nonneg_left ae ae;omega
         have Tv:(ti.bytes:Int)*(n':Int)<=281474976710656:=by
          have:(ti.bytes:Int)*(n':Int)<=(24*(ie.size:Int))*n':=Int.mul_le_mul_of_nonneg_right ae ae;rw[Int.mul_comm] at hb;omega
         have hrun:=run_make (P:=C.P) w t e ti ie.zero hu Cm (by have:=Ue.Mc;rw[Cm] at this;simpa using this) k k' (n':Int) (n':Int) ae (Int.le_refl _) Tv ae
         have hcs:madeCells ie.zero.cells ((n':Int).toNat*ti.size)=((nK (n':Int).toNat (ie.zero.cells.toList.map .val)).map (AV.leaf β)).toArray:=by
          rw[BH,XY,<-Ue.Ep];have hzp:0<ie.zero.cells.size:=by rw[Ue.Ep];exact hps
          apply ry.1;show ((Array.range _).map _).toList=(((List.range _).map _).toArray).toList;rw[rz,Array.toList_range];rw[DL];refine tR λq _=> ?_;have hlt:=fY q hzp;rw[fG,Array.getElem?_toList,wA hlt];simp[hlt]
         obtain⟨dQ,he,OX⟩:=hr.make hlt h0 hne (Ix (dx hq.2) (n':Int).toNat) (by rw[Ey (ah _)];intro j hj;cases hj);refine⟨dQ,_,bg.alloc _ _,OX.put (by rw[jV];exact hd) (Dl aa),.inl ?_⟩;have Ew:(AV.row d 0 (n':Int).toNat (n':Int).toNat).bH dQ=.slice (some ⟨w.heap.size,0,none⟩) (n':Int).toNat (n':Int).toNat:=by show Value.slice (some ⟨dQ d,0,none⟩) _ _=_;rw[he]
         rw[Ew];rw[hcs] at hrun;simp only[execOp,hop,hr.nS hl,hr.nS hc,Sem.run_bind,hrun,Result.andThen_ok,Sem.run_pure]
    ·cases h
   ·cases h
  ·cases h
variable {g:FuncId} {first cap:List AV}
theorem Rel.Sa (hr:Rel C β F H a w) {x:Operand} (h:Proofs.YtlifeokjcgngjaaGreat.Sa F x=some (g,first,cap)):a.eval x=.func (.func g) (first.map (AV.bH β)).toArray (cap.map (AV.bH β)).toArray:=by
 unfold Proofs.YtlifeokjcgngjaaGreat.Sa at h
 split at h
 ·rename_i g' f c hx;cases h;have:=hr.ev hx;rw[iV,iV];exact this
 ·rename_i g' f c hx;cases h;have:=hr.ev hx;rw[iV,pZ];exact this
 ·cases h
theorem lp.Sa (hc:lp F H) {x:Operand} (h:Proofs.YtlifeokjcgngjaaGreat.Sa F x=some (g,first,cap)):(∀ v∈first,∀ i∈v.ids,H i≠none)/\∀ v∈cap,∀ i∈v.ids,H i≠none:=by
 have hm:∀ l:List Value,∀ v∈l.map AV.val,∀ i∈v.ids,H i≠none:=λl v hv i hi=>by
  obtain⟨u,_,rfl⟩:=eG.1 hv;cases hi
 unfold Proofs.YtlifeokjcgngjaaGreat.Sa at h
 split at h
 ·cases h;exact⟨hm _,hm _⟩
 ·rename_i g' f c hx;cases h;refine⟨hm _,λv hv i hi=> ?_⟩;obtain⟨p,hp,rfl⟩:=eG.1 hv;have:=hc.ev hx i;refine this ?_;rw[ay.1 hi];exact eG.2 ⟨p,hp,aa⟩
 ·cases h
theorem Hp.rL:∀ {ups:List (Nat×(TypeId×List AV))} {H:Hp} {i:Nat},(ups.map (·.1)).Nodup->(i∉ups.map (·.1)->(H.jk ups) i=H i)/\∀ c,(i,c)∈ups->(H.jk ups) i=some c
 | [],H,i,_=>⟨λ_=>rfl,λc h=>by cases h⟩
 | x::r,H,i,hn=>by
   rw[kX,List.nodup_cons] at hn;obtain⟨h1,h2⟩:=Hp.rL (ups:=r) (H:=H.put x.1 x.2) (i:=i) hn.2;refine⟨λhi=> ?_,λc hc=> ?_⟩
   ·rw[kX,eD,not_or] at hi;show ((H.put x.1 x.2).jk r) i=_;rw[h1 hi.2,Hp.eT,if_neg hi.1]
   ·rcases eD.1 hc with e|e
    ·show ((H.put x.1 x.2).jk r) i=_;rw[<-e] at hn ⊢;rw[(Hp.rL (ups:=r) (H:=H.put i c) (i:=i) hn.2).1 hn.1,Hp.eT,if_pos rfl]
    ·exact h2 c e
variable {ups:List (Nat×(TypeId×List AV))}
theorem Hp.lH (hn:(ups.map (·.1)).Nodup) (i:Nat):(∃ c,(i,c)∈ups/\(H.jk ups) i=some c)\/(i∉ups.map (·.1)/\(H.jk ups) i=H i):=by
 by_cases hm:i∈ups.map (·.1)
 ·obtain⟨x,hx,rfl⟩:=eG.1 hm;exact .inl ⟨x.2,hx,(Hp.rL hn).2 x.2 hx⟩
 ·exact .inr ⟨hm,(Hp.rL hn).1 hm⟩
variable {i:Nat}
theorem xw (h:(ups.map (·.1)).Nodup) (hi:i∈ups.map (·.1)):(H.jk ups) i≠none:=by
 obtain⟨x,hx,rfl⟩:=eG.1 hi;rw[(Hp.rL (H:=H) (i:=x.1) h).2 x.2 hx];simp
theorem ni (h:(ups.map (·.1)).Nodup) (hi:H i≠none):(H.jk ups) i≠none:=by
 rcases Hp.lH (H:=H) h i with ⟨c,_,e⟩|⟨_,e⟩
 ·rw[e];simp
 ·rw[e];exact hi
def BI (ρ:AV->Value) (β:Nat->Nat):Prop:=∀ x,bO x=true->ρ x=x.leaf β
def XZ (β:Nat->Nat) (x:AV):Value:=if bO x=true then x.leaf β else .bool false
theorem Ya (β:Nat->Nat):BI (XZ β) β:=λx hx=>if_pos hx
theorem yP (β:Nat->Nat) (x:AV):cJ (XZ β x)=true:=by
 unfold XZ
 split
 ·rename_i h;exact uR h
 ·rfl
variable {x:AV}
theorem lids_ok (h:i∈x.dN):bO x=true\/False:=by
 cases x <;> first|exact .inl aa|cases h
theorem Ms:x.dN.any (Nat.beq i)=true↔i∈x.dN:=by
 rw[kV];exact⟨λ⟨y,hy,e⟩=>(oD e)▸hy,λh=>⟨i,h,cZ⟩⟩
variable {ρ:AV->Value}
theorem Mu (gH:BI ρ β) (i:Nat) (x:AV):(x.xS i ρ).leaf β=x.leaf β:=by
 unfold AV.xS;cases hb:x.dN.any (Nat.beq i) with
 | false=>rfl
 | true=>
   have:=(lids_ok (Ms.1 hb)).resolve_right id;exact gH x this
variable {j:Nat}
theorem Mv (h:j∈(x.xS i ρ).dN):j∈x.dN/\i∉x.dN:=by
 unfold AV.xS at h;cases hb:x.dN.any (Nat.beq i) with
 | false=>
   rw[hb] at h;exact⟨h,λe=>by rw[Ms.2 e] at hb;cases hb⟩
 | true=>rw[hb] at h;cases h
theorem fgl_ok (gH:∀ x,cJ (ρ x)=true) (h:bO x=true):bO (x.xS i ρ)=true:=by
 unfold AV.xS;cases x.dN.any (Nat.beq i) with
 | false=>exact h
 | true=>exact gH x
theorem Aj (gH:BI ρ β) (i:Nat) (l:List AV):(l.map (AV.xS i ρ)).map (AV.leaf β)=l.map (AV.leaf β):=by
 rw[pZ];exact tR λx _=>Mu gH i x
variable {l:List AV}
theorem Ak (h:j∈bM (l.map (AV.xS i ρ))):j∈bM l/\j≠i:=by
 obtain⟨y,hy,hj⟩:=dh.1 h;obtain⟨x,hx,rfl⟩:=eG.1 hy;obtain⟨h1,h2⟩:=Mv hj;exact⟨dh.2 ⟨x,hx,h1⟩,λe=>h2 (e▸h1)⟩
theorem yQ (hx:oO x=true) (h:j∈(x.xS i ρ).ids):j∈x.ids/\j≠i:=by
 have e:(x.xS i ρ).ids=(x.xS i ρ).dN:=by
  unfold AV.xS;cases x.dN.any (Nat.beq i)
  ·exact (xp hx).symm
  ·rfl
 rw[e] at h;obtain⟨h1,h2⟩:=Mv h;exact⟨xp hx▸h1,λe=>h2 (e▸h1)⟩
theorem uZ (gH:BI ρ β) (i:Nat) (hx:oO x=true):(x.xS i ρ).bH β=x.bH β:=by
 rw[<-uV hx,<-Mu gH i x]
 symm
 refine uV ?_;unfold AV.xS;cases x.dN.any (Nat.beq i) <;> first|exact hx|rfl
theorem Pv (hx:oO x=true):jm (x.xS i ρ)=true:=by
 unfold AV.xS;cases x.dN.any (Nat.beq i) with
 | false=>cases x <;> first|rfl|cases hx
 | true=>rfl
theorem Yb (gH:BI ρ β) (i:Nat) (x:AV):(x.fg1 i ρ).nR β=x.nR β:=by
 have key:∀ y:AV,oO y=true->(y.xS i ρ).nR β=y.nR β:=λy hy=>by
  rw[uW (Pv hy),uW (by cases y <;> first|rfl|cases hy),uZ gH i hy]
 cases x with
 | agg l=>show Value.agg ((l.map _).map _).toArray=_;rw[Aj gH];rfl
 | nJ l=>rfl
 | val v=>rfl
 | box j o=>exact key _ aa
 | xn j o=>exact key _ aa
 | row j o n c=>exact key _ aa
 | fn g f c=>exact key _ aa
theorem fg_conc (gH:BI ρ β) (i:Nat) (x:AV):(x.fg i ρ).bH β=x.bH β:=by
 cases x with
 | agg l=>show Value.agg ((l.map _).map _).toArray=_;rw[Aj gH];rfl
 | nJ l=>
   show Value.tuple ((l.map _).map _).toArray=Value.tuple (l.map _).toArray;rw[pZ]
   congr 2
   exact tR λy _=>Yb gH i y
 | val v=>rfl
 | box j o=>exact uZ gH i aa
 | xn j o=>exact uZ gH i aa
 | row j o n c=>exact uZ gH i aa
 | fn g f c=>exact uZ gH i aa
theorem fg1_ids (h:j∈(x.fg1 i ρ).Ac):j∈x.Ac/\j≠i:=by
 have key:∀ y:AV,oO y=true->j∈(y.xS i ρ).Ac->j∈y.Ac/\j≠i:=λy hy h=>by
  have e1:(y.xS i ρ).Ac=(y.xS i ρ).ids:=xq (by unfold AV.xS;cases y.dN.any (Nat.beq i) <;> first|rfl|(cases y <;> first|rfl|cases hy));have e2:y.Ac=y.ids:=xq (by cases y <;> first|rfl|cases hy);rw[e2];exact yQ hy (e1▸h)
 cases x with
 | agg l=>exact Ak h
 | nJ l=>cases h
 | val v=>cases h
 | box j o=>exact key _ aa h
 | xn j o=>exact key _ aa h
 | row j o n c=>exact key _ aa h
 | fn g f c=>exact key _ aa h
theorem fg_ids (h:j∈(x.fg i ρ).ids):j∈x.ids/\j≠i:=by
 cases x with
 | agg l=>exact Ak h
 | nJ l=>
   obtain⟨y,hy,hj⟩:=sR.1 h;obtain⟨z,hz,rfl⟩:=eG.1 hy;obtain⟨h1,h2⟩:=fg1_ids hj;exact⟨sR.2 ⟨z,hz,h1⟩,h2⟩
 | val v=>cases h
 | box j o=>exact yQ aa h
 | xn j o=>exact yQ aa h
 | row j o n c=>exact yQ aa h
 | fn g f c=>exact yQ aa h
variable {del:Option Nat}
theorem Hp.iD (h:(H.forget del ρ) i=some (t,cs)):del≠some i/\∃ cs0,H i=some (t,cs0)/\(BI ρ β->cs.map (AV.leaf β)=cs0.map (AV.leaf β))/\
  ((∀ x,cJ (ρ x)=true)->cs0.all bO=true->cs.all bO=true)/\∀ j∈bM cs,j∈bM cs0/\del≠some j:=by
 cases del with
 | none=>exact⟨cZ,cs,h,λ_=>aa,λ_ h=>h,λj hj=>⟨hj,cZ⟩⟩
 | some d=>
   unfold Hp.forget at h;simp only at h;cases hb:Nat.beq i d with
   | true=>rw[hb] at h;cases h
   | false=>
     rw[hb,cond_false] at h
     split at h
     ·rename_i t' cs0 h0;cases h;refine⟨λe=> ?_,cs0,h0,λgH=>Aj gH d cs0,λhc h1=>eg.2 λx hx=> ?_,λj hj=> ?_⟩
      ·cases e;rw[Nat.beq_refl] at hb;cases hb
      ·obtain⟨y,hy,rfl⟩:=eG.1 hx;exact fgl_ok hc (eg.1 h1 y hy)
      ·obtain⟨h1,h2⟩:=Ak hj;exact⟨h1,λe=>h2 (by cases e;rfl)⟩
     ·cases h
theorem Hp.nj (h:H i≠none) (hd:del≠some i):(H.forget del ρ) i≠none:=by
 cases del with
 | none=>exact h
 | some d=>
   unfold Hp.forget;simp only;have:Nat.beq i d=false:=by rw[<-wE,Nat.beq_eq];exact λe=>hd (by rw[e])
   rw[this,cond_false];cases hh:H i with
   | none=>exact absurd hh h
   | some c=>simp
theorem Hp.Mw (h:H i=none):(H.forget del ρ) i=none:=by
 cases del with
 | none=>exact h
 | some d=>
   unfold Hp.forget;simp only;cases Nat.beq i d with
   | true=>rfl
   | false=>rw[cond_false,h]
theorem Fr.iD {d:Nat} (h:(F.forget del ρ) d=some v):∃ u,F d=some u/\(BI ρ β->v.bH β=u.bH β)/\∀ i∈v.ids,i∈u.ids/\del≠some i:=by
 cases del with
 | none=>exact⟨v,h,λ_=>aa,λi hi=>⟨hi,cZ⟩⟩
 | some e=>
   unfold Fr.forget at h;simp only at h
   split at h
   ·rename_i u hu;cases h;refine⟨u,hu,λgH=>fg_conc gH e u,λi hi=> ?_⟩;obtain⟨h1,h2⟩:=fg_ids hi;exact⟨h1,λq=>h2 (by cases q;rfl)⟩
   ·cases h
theorem Rel.Mx (hr:Rel C β F H a w) (ids:List Nat):nd C β H ids w:=
 ⟨λi _ t cs h=>hr.own i t cs h,λi j _ _ h1 h2 e=>hr.apart i j h1 h2 e⟩
variable {C:Cx} {β:Nat->Nat} {w:World}
theorem Uf (h:nX C β w i t cs) {p:Addr} {x:Int} (hp:p.block=β i) (hx:w.cell? p=some (.int .u32 x)):False:=by
 simp only[World.cell?,hp,show w.heap[β i]? =_ from h.cls] at hx;simp at hx;have hm:Value.int .u32 x∈cs.map (AV.leaf β):=dz (i:=p.off) (by simpa using hx.2);have:=eg.1 (gw (β:=β) h.ok) _ hm;cases this
theorem Ez (h:nX C β w i t cs) {t':TypeId} {cur:Array Value} (hf:C.K.fz t'=true) (hx:w.heap[β i]? =some (Obj.cells cur t' (0,0))):False:=by
 have:=(show w.heap[_]? =_ from h.cls).symm.trans hx;simp at this;rw[<-this.2,h.ty] at hf;cases hf
variable {dQ:Nat->Nat}
theorem GH.was {ids:List Nat} (h:GH C β dQ H ids del ups w w') (ho:nd C β H ids w) {b:Nat} (hb:b<w.heap.size) (hx:(∃ x∈ups,b=dQ x.1)\/∃ i,del=some i/\b=β i):∃ i t cs,b=β i/\nX C β w i t cs:=by
 have key:∀ i,Reach H ids i->H i≠none->b=β i->∃ i t cs,b=β i/\nX C β w i t cs:=λi hi hn e=>by
  cases hh:H i with
  | none=>exact absurd hh hn
  | some c=>exact⟨i,c.1,c.2,e,ho.own i hi c.1 c.2 hh⟩
 rcases hx with ⟨x,hx,e⟩|⟨i,hi,e⟩
 ·rcases h.orig x hx with ⟨h1,h2,h3,h4⟩|⟨_,_,h3|⟨i,hi,h3⟩⟩
  ·exact key x.1 h3 h1 (e.trans h4)
  ·omega
  ·obtain⟨g1,g2⟩:=h.gone i hi;exact key i g1 g2 (e.trans h3)
 ·obtain⟨g1,g2⟩:=h.gone i hi;exact key i g1 g2 e
theorem GH.kp {ids:List Nat} (h:GH C β dQ H ids del ups w w') (ho:nd C β H ids w):bg C.K w w':=by
 have key:∀ b,b<w.heap.size->C.K.S b->w'.heap[b]? =w.heap[b]?\/∃ i t cs,b=β i/\nX C β w i t cs:=λb hb hs=>by
  by_cases hx:(∃ x∈ups,b=dQ x.1)\/∃ i,del=some i/\b=β i
  ·exact .inr (h.was ho hb hx)
  ·exact .inl (h.block b hb (λx hx' e=>hx (.inl ⟨x,hx',e⟩)) (λi hi e=>hx (.inr ⟨i,hi,e⟩)) (.inl hs))
 refine⟨h.size,λa x hs hx=> ?_,λt' g cur hf hs hg=> ?_,λg es c hg=> ?_⟩
 ·rcases key a.block (Hf w a hx) hs with e|⟨i,t,cs,h1,h2⟩
  ·rw[Li (w:=w) e];exact hx
  ·exact (Uf h2 h1 hx).elim
 ·rcases key g (uA.1 hg).1 hs with e|⟨i,t,cs,h1,h2⟩
  ·rw[e];exact hg
  ·exact (Ez h2 hf (h1▸hg)).elim
 ·have hlt:=(uA.1 hg).1
  have no:∀ i t cs,g=β i->nX C β w i t cs->False:=λi t cs e o=>by
   have:=(show w.heap[_]? =_ from o.cls).symm.trans (e▸hg);simp at this
  refine (h.block g hlt (λx hx e=> ?_) (λi hi e=> ?_) (.inr λt cur _ e=>by rw[hg] at e;cases e)).trans hg
  ·obtain⟨i,t,cs,e1,e2⟩:=h.was ho hlt (.inl ⟨x,hx,e⟩);exact no i t cs e1 e2
  ·obtain⟨i,t,cs,e1,e2⟩:=h.was ho hlt (.inr ⟨i,hi,e⟩);exact no i t cs e1 e2
theorem GH.old {ids:List Nat} (h:GH C β dQ H ids del ups w w') (ho:nd C β H ids w) (hb:C.Old w):C.Old w':=
 C.Di _ _ hb C.keep (h.kp ho) ⟨h.os,h.tape,h.output,h.size,λg hg=>by
   have up:∀ x∈ups,g=dQ x.1->w'.heap[g]? =w.heap[g]?\/((∃ i,C.Cl i g)/\∃ t cs,cN w' g t (List.toArray cs)/\C.K.fz t=false/\cs.all cJ=true)\/¬ C.K.S g:=λx hx e=>by
    obtain⟨g1,g2,g3,g4⟩:=h.own x hx;exact .inr (.inl ⟨⟨x.1,e▸g1⟩,x.2.1,_,e▸g3,g2,gw g4⟩)
   by_cases h1:∃ x∈ups,g=dQ x.1
   ·obtain⟨x,hx,e⟩:=h1;exact up x hx e
   ·by_cases h2:∃ i,del=some i/\g=β i
    ·obtain⟨i,hi,e⟩:=h2;rcases h.left i hi with (e' |⟨t,cs,e1,e2,e3⟩)|⟨x,hx,e'⟩
     ·exact .inl (by rw[e];exact e')
     ·obtain⟨g1,g2⟩:=h.gone i hi;cases hh:H i with
      | none=>exact absurd hh g2
      | some c=>exact .inr (.inl ⟨⟨i,e▸(ho.own i g1 c.1 c.2 hh).new⟩,t,cs,e▸e1,e2,e3⟩)
     ·exact up x hx (e.trans e'.symm)
    ·by_cases h3:C.K.S g
     ·exact .inl (h.block g hg (λx hx e=>h1 ⟨x,hx,e⟩) (λi hi e=>h2 ⟨i,hi,e⟩) (.inl h3))
     ·exact .inr (.inr h3)⟩
theorem GH.same {ids:List Nat} (h:GH C β dQ H ids del ups w w') (h1:H j≠none) (h2:del≠some j):dQ j=β j:=by
 by_cases hm:j∈ups.map (·.1)
 ·obtain⟨x,hx,rfl⟩:=eG.1 hm;rcases h.orig x hx with ⟨_,_,_,e⟩|⟨e|e,_⟩
  ·exact e
  ·exact absurd e h1
  ·exact absurd e h2
 ·exact h.agree j hm
theorem GH.hp {ids:List Nat} (h:GH C β dQ H ids del ups w w') (mQ:JT C H) (gH:∀ x,cJ (ρ x)=true):JT C ((H.forget del ρ).jk ups):=by
 refine⟨λi t cs hi=> ?_,λi t cs hi j hj=> ?_,λi hi=> ?_⟩
 ·rcases Hp.lH (H:=H.forget del ρ) h.once i with ⟨c,hc,e⟩|⟨_,e⟩
  ·rw[e] at hi;cases hi;have:=h.own _ hc;exact⟨this.ty,this.ok⟩
  ·rw[e] at hi;obtain⟨_,cs0,h0,_,h2,_⟩:=Hp.iD (β:=β) hi;obtain⟨g1,g2⟩:=mQ.ok i t cs0 h0;exact⟨g1,h2 gH g2⟩
 ·have key:j∈ups.map (·.1)\/(H j≠none/\del≠some j):=by
   rcases Hp.lH (H:=H.forget del ρ) h.once i with ⟨c,hc,e⟩|⟨_,e⟩
   ·rw[e] at hi;cases hi;exact h.closed _ hc j hj
   ·rw[e] at hi;obtain⟨_,cs0,h0,_,_,h3⟩:=Hp.iD (β:=β) hi;obtain⟨g1,g2⟩:=h3 j hj;exact .inr ⟨mQ.closed i t cs0 h0 j g1,g2⟩
  rcases key with e|⟨e1,e2⟩
  ·exact xw h.once e
  ·exact ni h.once (Hp.nj e1 e2)
 ·rcases Hp.lH (H:=H.forget del ρ) h.once i with ⟨c,hc,e⟩|⟨_,e⟩
  ·rcases h.orig _ hc with ⟨h1,_⟩|⟨_,h2,_⟩
   ·exact absurd (mQ.few i hi) h1
   ·simp only at h2;have:=C.topN;omega
  ·rw[e,Hp.Mw (mQ.few i hi)]
theorem Rel.changed (hr:Rel C β F H a w) {ids:List Nat} (h:GH C β dQ H ids del ups w w'):Rel C dQ (F.forget del (XZ β)) ((H.forget del (XZ β)).jk ups) a w':=by
 have ho:=hr.Mx ids
 have lt:∀ i,H i≠none->β i<w.heap.size:=λi hi=>by
  cases hh:H i with
  | none=>exact absurd hh hi
  | some x=>exact (hr.own i x.1 x.2 hh).cls.lt
 have away:∀ i,H i≠none->del≠some i->i∉ups.map (·.1)->∀ x∈ups,β i≠dQ x.1:=λi hi hd hn x hx e=>by
  rcases h.orig x hx with ⟨h1,h2,_,h4⟩|⟨_,_,h3|⟨d,hd',h3⟩⟩
  ·exact hn (by rw[hr.apart i x.1 hi h1 (e.trans h4)];exact eG.2 ⟨x,hx,aa⟩)
  ·have:=lt i hi;omega
  ·exact hd (by rw[hr.apart i d hi (h.gone d hd').2 (e.trans h3)];exact hd')
 have at_:∀ i t cs,((H.forget del (XZ β)).jk ups) i=some (t,cs)->((i,(t,cs))∈ups)\/(i∉ups.map (·.1)/\del≠some i/\∃ cs0,H i=some (t,cs0)/\cs.map (AV.leaf β)=cs0.map (AV.leaf β)/\cs.all bO=true/\∀ j∈bM cs,j∈bM cs0/\del≠some j):=λi t cs hi=>by
  rcases Hp.lH (H:=H.forget del (XZ β)) h.once i with ⟨c,hc,e⟩|⟨hn,e⟩
  ·rw[e] at hi;cases hi;exact .inl hc
  ·rw[e] at hi;obtain⟨h1,cs0,h0,h2,h3,h4⟩:=Hp.iD (β:=β) hi;exact .inr ⟨hn,h1,cs0,h0,h2 (Ya β),h3 (yP β) (hr.own i t cs0 h0).ok,h4⟩
 refine⟨hr.defers,hr.size,λd v hv=> ?_,λi t cs hi=> ?_,λi j hi hj e=> ?_,λd v hv i hi=> ?_,λd v hv=> ?_,h.hp hr.hp (yP β),h.old ho hr.old⟩
 ·obtain⟨u,hu,h1,h2⟩:=Fr.iD (β:=β) hv;rw[hr.tmp d u hu,<-h1 (Ya β)];exact (AV.Eo λi hi=>h.same (hr.closed d u hu i (h2 i hi).1) (h2 i hi).2).symm
 ·rcases at_ i t cs hi with e|⟨hn,hd,cs0,h0,h1,h2,h3⟩
  ·exact h.own _ e
  ·have hs:H i≠none:=by rw[h0];simp
   obtain⟨g1,g2,g3,g4⟩:=hr.own i t cs0 h0;refine⟨by rw[h.same hs hd];exact g1,g2,?_,h2⟩;rw[h.same hs hd,nc (l:=cs) (β:=β) (λj hj=>h.same (hr.hp.closed i t cs0 h0 j (h3 j hj).1) (h3 j hj).2),h1];exact (h.block (β i) g3.lt (away i hs hd hn) (λd hd' e=>hd (by rw[hr.apart i d hs (h.gone d hd').2 e];exact hd')) (.inr λt' cur hf hc=>Ez ⟨g1,g2,g3,g4⟩ hf hc)).trans g3
 ·have Yc:∀ i,((H.forget del (XZ β)).jk ups) i≠none->(∃ c,(i,c)∈ups)\/(i∉ups.map (·.1)/\del≠some i/\H i≠none):=λi hi=>by
   cases hh:((H.forget del (XZ β)).jk ups) i with
   | none=>exact absurd hh hi
   | some c=>
     rcases at_ i c.1 c.2 hh with e|⟨hn,hd,cs0,h0,_⟩
     ·exact .inl ⟨c,e⟩
     ·exact .inr ⟨hn,hd,by rw[h0];simp⟩
  rcases Yc i hi with ⟨c,hc⟩|⟨n1,d1,s1⟩ <;> rcases Yc j hj with ⟨c',hc'⟩|⟨n2,d2,s2⟩
  ·exact h.apart _ hc _ hc' e
  ·rw[h.same s2 d2] at e;exact absurd e.symm (away j s2 d2 n2 _ hc)
  ·rw[h.same s1 d1] at e;exact absurd e (away i s1 d1 n1 _ hc')
  ·rw[h.same s1 d1,h.same s2 d2] at e;exact hr.apart i j s1 s2 e
 ·obtain⟨u,hu,_,h2⟩:=Fr.iD (β:=β) hv;obtain⟨g1,g2⟩:=h2 i hi;exact ni h.once (Hp.nj (hr.closed d u hu i g1) g2)
 ·obtain⟨u,hu,_⟩:=Fr.iD (β:=β) hv;exact hr.fits d u hu
theorem JV (h:nL P g) (args:Array Value) (w:World):(callFunc g args).run P w=.ok (.enter g args) w:=by
 obtain⟨fn,h1,h2,h3⟩:=h;have h2':fn.name≠"runtime.NumGoroutine":=by simpa using h2
 have h3':fn.body≠none:=λe=>by simp[e] at h3
 simp[callFunc,h1,h2',h3']
theorem oT (h:stepOf C full F H o≠.bad):nU C.N o.dst=true/\((wants full F o=some false/\stepOf C full F H o=.gM (.val undef) none)\/(wants full F o=some true/\stepOf C full F H o=act C F H o)):=by
 unfold stepOf at h ⊢;cases hd:nU C.N o.dst with
 | false=>rw[hd] at h;exact absurd aa h
 | true=>
   refine⟨aa,?_⟩;rw[hd] at h;cases hw:wants full F o with
   | none=>rw[hw] at h;exact absurd aa h
   | some b=>cases b <;> simp
variable {next:Act->World->Prop}
theorem Oper.rM {v:Value} (h:(execOp a.eval o).run P w=.ok (.value v) w') (hn:next (a.put o.dst v) w'):o.wp P a w next Q:=by
 unfold Oper.wp;rw[h];exact hn
theorem Oper.wp_skip (h:(execOp a.eval o).run P w=.ok .skip w') (hn:next (a.put o.dst undef) w'):o.wp P a w next Q:=by
 unfold Oper.wp;rw[h];exact hn
theorem Oper.Yd {args:Array Value} (h:(execOp a.eval o).run P w=.ok (.enter g args) w) (hn:Calls P g args w λe w2=>∃ v,e=.returned v/\next (a.put o.dst v) w2):o.wp P a w next Q:=by
 unfold Oper.wp;rw[h];refine Calls.mono hn ?_;rintro e w2 ⟨v,rfl,hv⟩;exact hv
theorem EA (h:∀ v∈l,∀ i∈v.ids,H i≠none):∀ i∈gl l,H i≠none:=λi hi=>by
 obtain⟨v,hv,hi⟩:=GF.1 hi;exact h v hv i hi
theorem My (hc:lp F H) (h:act C F H o=.call d):∀ i∈d.ids,H i≠none:=by
 rcases Ex h with ⟨c,f,g,first,l,cap,hop,kP,hf,hl,rfl⟩|⟨vs,hv,rfl,_⟩
 ·refine EA λv hv=> ?_;obtain⟨f1,f2⟩:=hc.Sa hf;rcases mV.1 hv with e|e
  ·exact f1 v e
  ·rcases mV.1 e with e|e
   ·exact hc.BC hl v e
   ·exact f2 v e
 ·exact EA λv hv'=>hc.BC hv v hv'
theorem Sf (hr:Rel C β F H a w) (h:act C F H o=.call d) (hd:Ae C.P d β w λe w2=>∃ v,e=.returned v/\next (a.put o.dst v) w2):o.wp C.P a w next Q:=by
 rcases Ex h with ⟨c,f,g,first,l,cap,hop,kP,hf,hl,rfl⟩|⟨vs,hv,rfl,_⟩
 ·obtain⟨h1,h2⟩:=hd;have Pd:=hr.BC hl;refine Oper.Yd (g:=g) (args:=((first++(l++cap)).map (AV.bH β)).toArray) ?_ h2
  have e1:(c.args.map a.eval)=(l.map (AV.bH β)).toArray:=by
   apply ry.1;rw[rz,Pd]
  have e2:(first.map (AV.bH β)).toArray++(l.map (AV.bH β)).toArray++(cap.map (AV.bH β)).toArray=((first++(l++cap)).map (AV.bH β)).toArray:=by
   apply ry.1;simp
  unfold execOp;rw[hop];simp only[resolve,kP,hr.Sa hf,e1,Deferred.ofValue,invoke,Sem.run_bind,Sem.run_pure,Result.andThen_ok];rw[e2,JV h1]
 ·obtain⟨v,w2,h1,v',he,h2⟩:=hd;cases he;rcases h1 a.eval (hr.BC hv) with e|⟨e,rfl⟩
  ·exact Oper.rM e h2
  ·exact Oper.wp_skip e h2
theorem Ae.mono {R R':Ending->World->Prop} (h:Ae P d β w R) (hR:∀ e w2,R e w2->R' e w2):Ae P d β w R':=by
 cases d with
 | fn g args=>exact⟨h.1,Calls.mono h.2 hR⟩
 | op o vs=>
   obtain⟨v,w2,h1,h2⟩:=h;exact⟨v,w2,h1,hR _ _ h2⟩
theorem vN (hC:C.Ok) {k:Fr->Hp->World->Prop} {m:Option (List FuncId)} (h:one C m full o k F H w) (hr:Rel C β F H a w') (hk:bg C.K w w')
  (hn:∀ β F' H' w1 a' jf,k F' H' w1->Rel C β F' H' a' jf->bg C.K w1 jf->next a' jf):
  if Region.wanted o (yielded full a.tmps)=true then Oper.wp C.P o a w' next Q else next (a.put o.dst undef) w':=by
 have hb:stepOf C full F H o≠.bad:=λe=>by unfold one at h;rw[e] at h;exact h
 obtain⟨hd,⟨hw,hs⟩|⟨hw,hs⟩⟩:=oT hb
 ·rw[uX hr hw,if_neg cZ];unfold one at h;rw[hs] at h;exact hn β _ _ w _ w' h (hr.put hd (v:=.val undef) (λ_ hi=>by cases hi)) hk
 ·rw[uX hr hw,if_pos rfl];unfold one at h;rw[hs] at h;cases hst:act C F H o with
  | bad=>rw[hst] at h;exact h.elim
  | gM v u=>
    rw[hst] at h;obtain⟨dQ,w2,k2,r2,e⟩:=Sd hC hst hd hr;have:=hn dQ _ _ w _ w2 h r2 (hk.aN k2);rcases e with e|⟨e,hu⟩
    ·exact Oper.rM e this
    ·rw[hu] at this;exact Oper.wp_skip e this
  | cond φ v u=>
    rw[hst] at h;obtain⟨dQ,w2,k2,r2,e⟩:=Mr hC hst h.1 hd hr;have:=hn dQ _ _ w _ w2 h.2 r2 (hk.aN k2);rcases e with e|⟨e,hu⟩
    ·exact Oper.rM e this
    ·rw[hu] at this;exact Oper.wp_skip e this
  | read i x=>
    rw[hst] at h;obtain⟨cs,h1,h2,h3⟩:=h;obtain⟨t,y,hop,hi,hy⟩:=XX hst
    have e:=ke (hC t i hi) x cs h1 w' (by
     rcases h2 with h2|⟨_,h2⟩
     ·exact λj u hj=>h2 j u hj _ hr.old
     ·exact h2 w' hk hr.old)
    refine Oper.rM (v:=qT i cs) (w':=w') ?_ (hn β _ _ w _ w' h3 (hr.put hd (v:=.val (qT i cs)) (λ_ hi=>by cases hi)) hk);have he:a.eval y=.pointer (some x):=hr.ev hy;simp[execOp,hop,he,Instr.loadAt,Instr.sureAddr,e]
  | mv i cs off=>
    rw[hst] at h;obtain⟨vs,h1,h2,h3⟩:=h;obtain⟨t,y,b,tb,hop,hi,hy,hb⟩:=Mq hst
    have Ye:∀ x∈vs,x∈cs:=λx hx=>by
     obtain⟨j,hj⟩:=oG hx;exact dz (h2 j x hj)
    have mQ:vs.all bO=true:=eg.2 λx hx=>eg.1 (hr.own b tb cs hb).ok x (Ye x hx);have e:=ke (hC t i hi) ⟨β b,off,none⟩ (vs.map (AV.leaf β)) (by rw[bJ,h1]) w' (Ai hr hb h2);refine Oper.rM (v:=(rI i vs).bH β) (w':=w') ?_ (hn β _ _ w _ w' h3 (hr.put hd (λj hj=> ?_)) hk)
    ·have he:a.eval y=.pointer (some ⟨β b,off,none⟩):=hr.ev hy;rw[xr (hC t i hi) h1 mQ];simp[execOp,hop,he,Instr.loadAt,Instr.sureAddr,e]
    ·obtain⟨x,hx,hj'⟩:=dh.1 (Ag mQ hj);exact hr.hp.closed b tb cs hb j (dh.2 ⟨x,Ye x hx,hj'⟩)
  | call d=>
    rw[hst] at h;refine Sf hr hst ((h w' β hk hr.old (hr.Mx _)).mono ?_);rintro e w2 ⟨dQ,r,del,ups,rfl,TL,_,_,hch,hv⟩;have ho:=hr.Mx d.ids;have o2:=hch.old ho hr.old;have k2:=hch.kp ho;have qk:=hr.changed hch;refine⟨_,aa,hn dQ _ _ w2 _ w2 (hv (hk.aN k2) k2 o2 (XZ β) (yP β)) (qk.put hd (λi hi=> ?_)) (bg.refl _ _)⟩;rcases TL i hi with e|⟨_,e1,e2⟩
    ·exact xw hch.once e
    ·exact ni hch.once (Hp.nj e1 e2)
theorem xx (hC:C.Ok) {m:Option (List FuncId)} {K:Fr->Hp->World->Prop} (hQ:∀ β F H w a w',K F H w->Rel C β F H a w'->bg C.K w w'->Q .normal a w'):
  ∀ (l:List Oper) (β:Nat->Nat) (F:Fr) (H:Hp) (w:World) (a:Act) (w':World),aB C m full l K F H w->Rel C β F H a w'->bg C.K w w'->wpList C.P full Q l a w'
 | [],β,F,H,w,a,w',h,hr,hk=>hQ β F H w a w' h hr hk
 | o::r,β,F,H,w,a,w',h,hr,hk=>by
   refine wpList_step λK' hK'=> ?_;exact vN hC (k:=aB C m full r K) h hr hk λβ F' H' w1 a' jf h1 h2 h3=>hK' _ _ (xx hC hQ r β F' H' w1 a' jf h1 h2 h3)
end
def BJ (p o:Nat):Bool:=bif Nat.beq p 5 || Nat.beq o 5 then false else Nat.beq p 0 || Nat.beq o 0 || (Nat.ble p 2 && Nat.ble o 2) || (Nat.beq p 4 && Nat.ble o 2) || (Nat.ble p 2 && Nat.beq o 4)
def JW (o:Oper):Bool:=match o.op,o.guard with
 | .move (.tmp _),none=>true
 | _,_=>false
def indep (su:TypeId->Bool) (l:List FuncId) (full:Array Oper) (p o:Oper):Bool:=p.apart full o && (BJ (aW su l p) (aW su l o) || JW p)
def ib (full:Array Oper) (j:Nat):List Nat:=match full[j]? with
 | none=>[]
 | some o=>(o.after.toList.filter (Region.binds .any)).map (·.on)
def reach (full:Array Oper):Nat->Nat->Nat->Bool
 | 0,j,i=>(ib full j).contains i
 | f+1,j,i=>(ib full j).contains i || (ib full j).any λd=>Nat.blt i d && reach full f d i
def EB (su:TypeId->Bool) (l:List FuncId) (full:Array Oper) (i j:Nat):Bool:=
 (match full[i]?,full[j]? with|some p,some o=>indep su l full p o|_,_=>true) || reach full full.size j i
def lI (su:TypeId->Bool) (l:List FuncId) (full:Array Oper):Bool:=(List.range full.size).all λj=>(ib full j).all (λd=>Nat.blt d j) && (List.range j).all λi=>EB su l full i j
section
variable {C:Cx} {F:Fr} {H:Hp} {w:World} {full:Array Oper} {p o:Oper} {ml:List FuncId}
variable {y:Operand}
theorem xd {t:Tmp} (hy:y∈o.op.operands.toList) (h:y=.tmp t):t∈o.looksAt full:=by
 unfold Oper.looksAt;refine mV.2 (.inl ?_);exact List.mem_filterMap.2 ⟨y,hy,by rw[h]⟩
variable {F F':Fr}
theorem Yf (h:∀ t,y=.tmp t->F' t=F t):ev F' y=ev F y:=by
 cases y with
 | tmp t=>exact h t aa
 | const v=>rfl
 | func f=>rfl
 | global g=>rfl
theorem iX (h:ev F' y=ev F y):nS F' y=nS F y:=by unfold nS;rw[h]
theorem Al {F F':Fr}:∀ {l:List Operand},(∀ y∈l,ev F' y=ev F y)->evs F' l=evs F l
 | [],_=>rfl
 | x::r,h=>by unfold evs;rw[iX (h x cZ),Al (l:=r) (λy hy=>h y (by simp[hy]))]
theorem vO {F F':Fr}:∀ {l:List Operand},(∀ y∈l,ev F' y=ev F y)->BC F' l=BC F l
 | [],_=>rfl
 | x::r,h=>by unfold BC;rw[h x cZ,vO (l:=r) (λy hy=>h y (by simp[hy]))]
theorem Ug (h:ev F' y=ev F y):Sa F' y=Sa F y:=by unfold Sa;rw[h]
theorem Am {F F':Fr}:∀ {l:List (Nat×Operand)},(∀ y∈l,ev F' y.2=ev F y.2)->JR F' l=JR F l
 | [],_=>rfl
 | (k,x)::r,h=>by unfold JR;rw[h (k,x) cZ,Am (l:=r) (λy hy=>h y (by simp[hy]))]
theorem Iz:∀ {x:Option Operand},(∀ y∈x.toArray.toList,ev F' y=ev F y)->evo F' x=evo F x
 | none,_=>rfl
 | some x,h=>by
   show (match nS F' x with|some (.int _ k)=>some (some k)|_=>none)=match nS F x with|some (.int _ k)=>some (some k)|_=>none
   rw[iX (h x cZ)]
theorem Pw (h:∀ y∈o.op.operands.toList,ev F' y=ev F y):uU F' o=uU F o:=by
 unfold uU;rw[vO h]
theorem Uh (h:∀ y∈o.op.operands.toList,ev F' y=ev F y):act C F' H o=act C F H o:=by
 have gN:=Pw h;unfold act;cases hop:o.op <;> rw[hop] at h <;> simp only[Op.operands] at h ⊢ <;> try (exact gN)
 case move x=>rw[h x cZ]
 case assign x=>rw[h x cZ]
 case pick c a b=>rw[iX (h c cZ),h a cZ,h b cZ]
 case box t x=>rw[h x cZ]
 case build t ps=>rw[Am (λy hy=>h y.2 (by simp;exact⟨y.1,by simpa using hy⟩))]
 case load t x=>rw[h x cZ]
 case store t x y=>rw[h x cZ,h y cZ]
 case binOp op t x y t'=>rw[iX (h x cZ),iX (h y cZ),h x cZ]
 case unOp op t x=>cases op <;> simp only <;> first|exact gN|rw[iX (h x cZ)]
 case convert s t x=>rw[iX (h x cZ)]
 case nilCheck x=>rw[h x cZ]
 case fieldAddr t x k=>rw[h x cZ]
 case field t x k=>rw[h x cZ]
 case indexAddr t x ix=>rw[h x cZ,iX (h ix cZ)]
 case extract x k=>rw[h x cZ]
 case makeSlice t l c=>rw[iX (h l cZ),iX (h c cZ)]
 case slice t x lo hi mx=>
  cases mx with
  | some m=>exact gN
  | none=>
    simp only;rw[h x cZ,Iz (x:=lo) (λy hy=>h y (by simp at hy ⊢;exact .inr (.inl hy))),Iz (x:=hi) (λy hy=>h y (by simp at hy ⊢;exact .inr (.inr hy)))]
 case makeFunc fn first cap=>
  cases fn <;> simp only <;> try (exact gN)
  rw[Al (l:=first.toList) (λy hy=>h y (by simp;exact .inl (by simpa using hy))),vO (l:=cap.toList) (λy hy=>h y (by simp;exact .inr (by simpa using hy)))]
 case buildSlice t n ps=>
  rw[gN,Am (λy hy=>h y.2 (by simp;exact⟨y.1,by simpa using hy⟩))]
 case call c=>
  simp only[Call.operands] at h;cases hc:c.callee with
  | value f=>
    rw[hc] at h;simp only at h ⊢;rw[Ug (h f cZ),vO (λy hy=>h y (by simp;exact .inr (by simpa using hy)))]
  | invoke r n=>exact gN
  | builtin b=>
    rw[hc] at h;have he:evs F' c.args.toList=evs F c.args.toList:=Al λy hy=>h y (by simpa using hy);cases b <;> simp only <;> first|exact gN|(rw[he];done)|skip
    split
    ·rename_i x t hx ht
     rw[(h x (by
      have e1:c.args=#[x]:=ry.1 hx;simp[e1]))]
    ·rfl
variable {x:AV} {d:Option Nat}
theorem xy {t:Nat} (h:∀ n,d=some n->t≠n):(F.dw d x) t=F t:=by
 cases d with
 | none=>rfl
 | some n=>show (F.put n x) t=_;rw[Fr.eT,if_neg (h n rfl)]
theorem Mz (h:∀ g b d,o.guard=some (g,b)->(full[g]?).bind (·.dst)=some d->F' d=F d):wants full F' o=wants full F o:=by
 unfold wants;cases hg:o.guard with
 | none=>rfl
 | some gb=>
   obtain⟨g,b⟩:=gb;simp only;cases hd:(full[g]?).bind (·.dst) with
   | none=>rfl
   | some d=>simp only;rw[h g b d hg hd]
theorem fT (h:∀ n,d=some n->n∉o.looksAt full):stepOf C full (F.dw d x) H o=stepOf C full F H o:=by
 have h1:act C (F.dw d x) H o=act C F H o:=Uh λy hy=>Yf λt ht=>xy λn hn e=>h n hn (e▸xd hy ht)
 have h2:wants full (F.dw d x) o=wants full F o:=Mz λg b t hg ht=>xy λn hn e=>h n hn (by
  subst e;unfold Oper.looksAt;rw[hg];simp only;exact mV.2 (.inr (by rw[ht];simp)))
 unfold stepOf;rw[h1,h2]
theorem oU {H H':Hp} (h:aW C.SU ml o=0\/aW C.SU ml o=4):act C F H' o=act C F H o:=by
 unfold aW at h;unfold act;cases hop:o.op <;> rw[hop] at h <;> simp only at h ⊢ <;> try (exfalso;revert h;simp;done)
 case unOp op _ _=>cases op <;> rfl
 case makeFunc fn _ _=>cases fn <;> rfl
 case slice t x lo hi mx=>cases mx <;> rfl
 case buildSlice t n ps=>
  cases hb:C.SU t with
  | true=>rfl
  | false=>rw[hb] at h;simp at h
variable {c:TypeId×List AV}
theorem Px {d:Nat} (h:aW C.SU ml o=1) (hc:lp F H) (hd:H d=none):act C F (H.put d c) o=act C F H o:=by
 unfold aW at h;unfold act;cases hop:o.op <;> rw[hop] at h <;> simp only at h ⊢ <;> try (exfalso;revert h;simp;done)
 case load t x=>
  split
  ·rename_i b off i hx hi
   have:b≠d:=λe=>by
    subst e;exact hc.ev hx _ (by simp[AV.ids]) hd
   rw[Hp.eT,if_neg this]
  ·rename_i b off i hx hi
   have:b≠d:=λe=>by
    subst e;exact hc.ev hx _ (by simp[AV.ids]) hd
   rw[Hp.eT,if_neg this]
  ·rfl
  ·rfl
 case unOp op _ _=>cases op <;> simp at h
 case makeFunc fn _ _=>cases fn <;> simp at h
 case slice t x lo hi mx=>cases mx <;> simp at h
 case buildSlice t n ps=>cases hb:C.SU t <;> rw[hb] at h <;> simp at h
theorem Py {d d':Nat} (h:aW C.SU ml o=2) (hd:o.dst=some d) (hne:d≠d'):act C F (H.put d' c) o=act C F H o:=by
 have e:(H.put d' c) d=H d:=by rw[Hp.eT,if_neg hne]
 unfold aW at h;unfold act;cases hop:o.op <;> rw[hop] at h <;> simp only at h ⊢ <;> try (exfalso;revert h;simp;done)
 case alloc t=>
  rw[hd];cases C.ti t with
  | none=>rfl
  | some i=>show uT C.K d t _ ((H.put d' c) d)=_;rw[e]
 case box t x=>
  rw[hd];cases ev F x with
  | none=>rfl
  | some i=>show uT C.K d t _ ((H.put d' c) d)=_;rw[e]
 case makeSlice t l k=>
  rw[hd];cases C.ti t with
  | none=>rfl
  | some i=>
    cases nS F l with
    | none=>rfl
    | some vl=>
      cases vl <;> try rfl
      cases nS F k with
      | none=>rfl
      | some vk=>
        cases vk <;> try rfl
        simp only;cases i.elem with
        | none=>rfl
        | some es=>
          obtain⟨e2,sz⟩:=es;simp only;rw[e]
 case unOp op _ _=>cases op <;> simp at h
 case makeFunc fn _ _=>cases fn <;> simp at h
 case slice t x lo hi mx=>cases mx <;> simp at h
 case buildSlice t n ps=>
  cases hb:C.SU t with
  | true=>rfl
  | false=>
    rw[cond_false,cond_false,hd];cases C.ti t with
    | none=>rfl
    | some i=>
      cases JR F ps.toList with
      | none=>rfl
      | some l=>
        simp only;cases i.elem with
        | none=>rfl
        | some es=>
          obtain⟨e2,sz⟩:=es;simp only;cases C.ti e2 with
          | none=>rfl
          | some ie=>
            cases JS sz 0 l with
            | none=>rfl
            | some cs=>show (bif _ then BF C.K d e2 n cs ((H.put d' c) d) else _)=_;rw[e]
theorem MA {c:Nat×(TypeId×List AV)} (h:aW C.SU ml o=2) (hd:o.dst=none):act C F (H.put c.1 c.2) o=act C F H o:=by
 unfold aW at h;unfold act;cases hop:o.op <;> rw[hop] at h <;> simp only at h ⊢ <;> try (exfalso;revert h;simp;done)
 case alloc t=>simp only[hd]
 case box t x=>simp only[hd]
 case makeSlice t l c=>simp only[hd]
 case unOp op _ _=>cases op <;> simp at h
 case makeFunc fn _ _=>cases fn <;> simp at h
 case slice t x lo hi mx=>cases mx <;> simp at h
 case buildSlice t n ps=>
  cases hb:C.SU t with
  | true=>rfl
  | false=>simp only[cond_false,hd]
variable {v:AV} {u:Option (Nat×(TypeId×List AV))}
theorem act_upd (h:act C F H o=.gM v u):u=none\/aW C.SU ml o=3\/(aW C.SU ml o=2/\∃ d c,o.dst=some d/\u=some (d,c)/\H d=none):=by
 unfold act at h;cases hop:o.op <;> rw[hop] at h <;> simp only at h <;> try (first|cases h;done|exact (iQ h).elim)
 case store=>exact .inr (.inl (by unfold aW;rw[hop]))
 case alloc t=>
  split at h
  ·rename_i d i jV hi;obtain⟨h1,h2,h3,h4,h5⟩:=vL h;exact .inr (.inr ⟨by unfold aW;rw[hop],d,_,jV,h5,h1⟩)
  ·cases h
 case box t x=>
  split at h
  ·rename_i d i jV hi;obtain⟨h1,h2,h3,h4,h5⟩:=vL h;exact .inr (.inr ⟨by unfold aW;rw[hop],d,_,jV,h5,h1⟩)
  ·cases h
 case move=>exact .inl (rK h).2
 case assign=>exact .inl (rK h).2
 case pick=>split at h <;> first|exact .inl (rK h).2|cases h
 case load=>
  split at h
  ·split at h
   ·exact .inl (Iq h).2.2
   ·cases h
  ·split at h <;> cases h
  ·cases h
  ·cases h
 case build=>split at h <;> first|(cases h;done)|(split at h <;> first|(cases h;done)|(rw[eH,ql] at h;cases h;exact .inl aa))
 case binOp=>split at h <;> first|exact .inl (jn h).choose_spec.2.2|(cases h;done)|(split at h <;> first|exact .inl (jn h).choose_spec.2.2|(cases h;done))
 case unOp op _ _=>cases op <;> simp only at h <;> first|exact (iQ h).elim|(split at h <;> first|(cases h;done)|(cases h;exact .inl aa))
 case convert=>split at h <;> first|(cases h;done)|(split at h <;> first|(cases h;done)|(cases h;exact .inl aa))
 case nilCheck=>split at h <;> first|(cases h;done)|(cases h;exact .inl aa)
 case fieldAddr=>split at h <;> first|(cases h;done)|(split at h <;> first|(cases h;done)|(cases h;exact .inl aa))
 case field=>split at h <;> first|(cases h;done)|exact .inl (oQ h).1
 case extract=>
  split at h
  ·exact .inl (jn h).choose_spec.2.2
  ·split at h
   ·rename_i x _;cases hn:jm x <;> rw[hn] at h <;> cases h;exact .inl aa
   ·cases h
  ·cases h
 case indexAddr=>split at h <;> first|(cases h;done)|(split at h <;> cases h)
 case slice t x lo hi mx=>
  cases mx <;> simp only at h <;> first|exact (iQ h).elim|skip
  split at h <;> first|(cases h;done)|(split at h <;> cases h)
 case makeSlice=>
  split at h
  ·split at h
   ·split at h
    ·revert h
     generalize (!_ && _)=q;cases q <;> intro h <;> cases h
    ·cases h
   ·cases h
  ·cases h
 case makeFunc fn _ _=>
  cases fn <;> simp only at h <;> try (exact (iQ h).elim)
  split at h
  ·cases h;exact .inl aa
  ·split at h
   ·cases h;exact .inl aa
   ·cases h
  ·cases h
 case buildSlice t n ps=>
  cases hsu:C.SU t with
  | true=>rw[hsu] at h;exact (iQ h).elim
  | false=>
    rw[hsu,cond_false] at h
    split at h
    ·rename_i d i l jV hi hl
     split at h
     ·split at h
      ·revert h
       generalize (Nat.beq _ _ && _)=q;cases q <;> intro h
       ·cases h
       ·obtain⟨h1,h2,h3,h4,h5⟩:=Ir h;exact .inr (.inr ⟨by unfold aW;rw[hop];simp[hsu],d,_,jV,h5,h1⟩)
      ·cases h
     ·cases h
    ·cases h
 case call=>
  split at h
  ·split at h
   ·split at h
    ·split at h
     ·cases h;exact .inl aa
     ·cases h
    ·split at h
     ·cases h;exact .inl aa
     ·cases h
    ·cases h
   ·cases h
  ·split at h <;> first|(cases h;done)|(cases h;exact .inl aa)
  ·split at h <;> first|(cases h;done)|(cases h;exact .inl aa)
  ·split at h
   ·rw[eH] at h;cases h
   ·cases h
  ·exact (iQ h).elim
theorem Yg {φ:Prop} (h:act C F H o=.cond φ v u):u=none\/aW C.SU ml o=3\/(aW C.SU ml o=2/\∃ d c,o.dst=some d/\u=some (d,c)/\H d=none):=by
 have k:=uY (C:=C) (F:=F) (H:=H) (o:=o);rw[h] at k;cases k with
 | plain p=>exact (p.Se aa).elim
 | store e=>exact .inr (.inl (by unfold aW;rw[e]))
 | index e=>exact .inl aa
 | slice e=>exact .inl aa
 | make e h1 h2=>exact .inr (.inr ⟨by unfold aW;rw[e],_,_,h1,rfl,h2⟩)
theorem MB {su:TypeId->Bool} {l:List FuncId} {o:Oper}:aW su l o<=5:=by
 unfold aW
 split
 all_goals first
  | exact bF aa
  | (cases su _ <;> exact bF aa)
  | (split <;> first|exact bF aa|(cases Pr l _ <;> cases XT l _ <;> exact bF aa))
theorem Pz {d:rH} (h:act C F H o=.call d):aW C.SU ml o=3\/aW C.SU ml o=4\/aW C.SU ml o=5:=by
 rcases Ex h with ⟨c,f,g,first,l,cap,hop,kP,_⟩|⟨vs,_,_,⟨t,n,ps,hop,hsu⟩|h5⟩
 ·unfold aW;rw[hop];simp only[kP];cases Pr ml c
  ·cases XT ml c
   ·exact .inr (.inl aa)
   ·exact .inl aa
  ·exact .inr (.inr aa)
 ·unfold aW;rw[hop];simp[hsu]
 ·have h6:=h5 C.SU ml;have h7:=MB (su:=C.SU) (l:=ml) (o:=o);omega
end
end
section
open Go.RowKit
structure Live (C:Cx) (F:Fr) (H:Hp) (w:World):Prop where
 hp:JT C H
 closed:lp F H
 fits:∀ d v,F d=some v->d<C.N
 there:∃ w1,bg C.K w w1/\C.Old w1
section
variable {C:Cx} {F:Fr} {H:Hp} {w:World} {full:Array Oper} {p o:Oper} {k:Fr->Hp->World->Prop} {ml:List FuncId}
theorem Live.rel (h:Live C F H w):∃ β a w1,Rel C β F H a w1/\bg C.K w w1:=by
 obtain⟨w1,h1,h2⟩:=h.there;obtain⟨β,w2,k1,k2,k3,k4⟩:=C.lay w1 H h2 h.hp.ok h.hp.few;refine⟨β,⟨(Array.range C.N).map λd=>match F d with|some v=>v.bH β|none=>undef,[]⟩,w2,⟨aa,cZ,λd v hv=> ?_,λi t cs hi=>⟨(k3 i t cs hi).1,(h.hp.ok i t cs hi).1,(k3 i t cs hi).2,(h.hp.ok i t cs hi).2⟩,k4,h.closed,h.fits,h.hp,k2⟩,h1.aN k1⟩;have hd:=h.fits d v hv;simp[Array.getD_eq_getD_getElem?,hd,hv]
variable {β:Nat->Nat}
theorem Live.of {a:Act} {w1:World} (h:Rel C β F H a w1) (hk:bg C.K w w1):Live C F H w:=⟨h.hp,h.closed,h.fits,w1,hk,h.old⟩
def Step.still (C:Cx):Step->Option ((AV->Prop)×Option (Nat×(TypeId×List AV)))
 | .gM v u=>some (λx=>x=v,u)
 | .read i a=>some (λx=>∃ cs:List Value,cs.length=i.size/\(∀ j u,cs[j]? =some u->C.At (a.add j) u)/\x=.val (qT i cs),none)
 | .mv i cs off=>some (λx=>∃ vs:List AV,vs.length=i.size/\(∀ j u,vs[j]? =some u->cs[off+j]? =some u)/\x=rI i vs,none)
 | .cond φ v u=>some (λx=>φ/\x=v,u)
 | .call _=>none
 | .bad=>none
variable {Ψ:AV->Prop} {u:Option (Nat×(TypeId×List AV))}
theorem fK (hs:(stepOf C full F H o).still C=some (Ψ,u)):one C (some ml) full o k F H w↔∃ x,Ψ x/\k (F.dw o.dst x) (H.upd u) w:=by
 unfold one;cases hst:stepOf C full F H o with
 | gM v u'=>
   rw[hst] at hs;cases hs;exact⟨λh=>⟨v,aa,h⟩,λ⟨x,hx,h⟩=>hx▸h⟩
 | read i a=>
   rw[hst] at hs;cases hs;constructor
   ·rintro⟨cs,h1,h2|⟨h2,_⟩,h3⟩
    ·exact⟨_,⟨cs,h1,h2,aa⟩,h3⟩
    ·cases h2
   ·rintro⟨x,⟨cs,h1,h2,rfl⟩,h3⟩;exact⟨cs,h1,.inl h2,h3⟩
 | mv i cs off=>
   rw[hst] at hs;cases hs;exact⟨λ⟨vs,h1,h2,h3⟩=>⟨_,⟨vs,h1,h2,aa⟩,h3⟩,λ⟨x,⟨vs,h1,h2,e⟩,h3⟩=>⟨vs,h1,h2,e▸h3⟩⟩
 | cond φ v u'=>
   rw[hst] at hs;cases hs;exact⟨λh=>⟨v,⟨h.1,aa⟩,h.2⟩,λ⟨x,hx,h⟩=>⟨hx.1,hx.2▸h⟩⟩
 | call d=>rw[hst] at hs;cases hs
 | bad=>rw[hst] at hs;cases hs
theorem IA {α:Type} {n:Nat} {cs ds:List α} {f:Nat->Option α} (h1:cs.length=n) (h2:∀ j u,cs[j]? =some u->f j=some u) (g1:ds.length=n) (g2:∀ j u,ds[j]? =some u->f j=some u):cs=ds:=by
 apply Lp;intro j;by_cases hj:j<n
 ·have a1:=bj (show j<cs.length by omega);have a2:=bj (show j<ds.length by omega);rw[a1,a2,<-h2 j _ a1,<-g2 j _ a2]
 ·rw[ru ae,ru ae]
variable {x y:AV} {s:Step}
theorem IB (hs:s.still C=some (Ψ,u)) (hx:Ψ x) (hy:Ψ y):x=y:=by
 cases s with
 | gM v u'=>cases hs;exact hx.trans hy.symm
 | read i a=>
   cases hs;obtain⟨cs,h1,h2,rfl⟩:=hx;obtain⟨ds,g1,g2,rfl⟩:=hy;rw[IA (f:=λj=>C.w0.cell? (a.add j)) h1 (λj u hj=>h2 j u hj _ C.vJ) g1 (λj u hj=>g2 j u hj _ C.vJ)]
 | mv i cs off=>
   cases hs;obtain⟨jU,h1,h2,rfl⟩:=hx;obtain⟨ds,g1,g2,rfl⟩:=hy;rw[IA (f:=λj=>cs[off+j]?) h1 h2 g1 g2]
 | cond φ v u'=>cases hs;exact hx.2.trans hy.2.symm
 | call d=>cases hs
 | bad=>cases hs
theorem oV (s:Step):s=.bad\/(∃ Ψ u,s.still C=some (Ψ,u))\/∃ d,s=.call d:=by
 cases s with
 | gM v u=>exact .inr (.inl ⟨_,_,aa⟩)
 | read i a=>exact .inr (.inl ⟨_,_,aa⟩)
 | mv i cs off=>exact .inr (.inl ⟨_,_,aa⟩)
 | cond φ v u=>exact .inr (.inl ⟨_,_,aa⟩)
 | call d=>exact .inr (.inr ⟨d,aa⟩)
 | bad=>exact .inl aa
variable {H':Hp}
theorem iw (h:act C F H' o=act C F H o):stepOf C full F H' o=stepOf C full F H o:=by unfold stepOf;rw[h]
theorem xz (h:stepOf C full F H o=s):s=.bad\/s=.gM (.val undef) none\/act C F H o=s:=by
 by_cases hb:stepOf C full F H o=.bad
 ·exact .inl (h.symm.trans hb)
 ·obtain⟨_,⟨_,e⟩|⟨_,e⟩⟩:=oT hb
  ·exact .inr (.inl (h.symm.trans e))
  ·exact .inr (.inr (e.symm.trans h))
theorem jo (hs:(stepOf C full F H o).still C=some (Ψ,u)):u=none\/aW C.SU ml o=3\/(aW C.SU ml o=2/\∃ d c,o.dst=some d/\u=some (d,c)/\H d=none):=by
 cases hst:stepOf C full F H o with
 | gM v u'=>
   rw[hst] at hs;cases hs;rcases xz hst with h|h|h
   ·cases h
   ·cases h;exact .inl aa
   ·exact act_upd h
 | read i a=>rw[hst] at hs;cases hs;exact .inl aa
 | mv i cs off=>rw[hst] at hs;cases hs;exact .inl aa
 | cond φ v u'=>
   rw[hst] at hs;cases hs;rcases xz hst with h|h|h
   ·cases h
   ·cases h
   ·exact Yg h
 | call d=>rw[hst] at hs;cases hs
 | bad=>rw[hst] at hs;cases hs
variable {d:rH}
theorem qm (h:stepOf C full F H o=.call d):(aW C.SU ml o=3\/aW C.SU ml o=4\/aW C.SU ml o=5)/\(lp F H->∀ i∈d.ids,H i≠none):=by
 rcases xz h with e|e|e
 ·cases e
 ·cases e
 ·exact⟨Pz e,λhc=>My hc e⟩
variable {a:Nat}
theorem xA {b:Nat} (h:BJ a b=true):BJ b a=true:=by
 unfold BJ at h ⊢;rw[Bool.or_comm (Nat.beq b 5)];cases hb:(Nat.beq a 5 || Nat.beq b 5) with
 | true=>rw[hb] at h;cases h
 | false=>
   rw[hb] at h;simp only[cond_false,Bool.or_eq_true,Bool.and_eq_true] at h ⊢;rcases h with (((h|h)|h)|h)|h
   ·exact .inl (.inl (.inl (.inr h)))
   ·exact .inl (.inl (.inl (.inl h)))
   ·exact .inl (.inl (.inr ⟨h.2,h.1⟩))
   ·exact .inr ⟨h.2,h.1⟩
   ·exact .inl (.inr ⟨h.2,h.1⟩)
theorem vP {b:Nat} (h:BJ a b=true):a≠5/\b≠5/\(a=0\/b=0\/(a<=2/\b<=2)\/(a=4/\b<=2)\/(a<=2/\b=4)):=by
 unfold BJ at h;cases hb:(Nat.beq a 5 || Nat.beq b 5) with
 | true=>rw[hb] at h;cases h
 | false=>
   rw[hb] at h;rw[Bool.or_eq_false_iff] at hb;simp only[cond_false,Bool.or_eq_true,Bool.and_eq_true,Nat.beq_eq,Nat.ble_eq] at h;refine⟨λe=>by rw[e] at hb;simp at hb,λe=>by rw[e] at hb;simp at hb,?_⟩;omega
theorem Ao (hs:(stepOf C full F H p).still C=some (Ψ,u)) (hm:BJ (aW C.SU ml p) (aW C.SU ml o)=true) (hdd:∀ d,p.dst=some d->o.dst≠some d) (hc:lp F H):
  stepOf C full F (H.upd u) o=stepOf C full F H o:=by
 rcases jo (ml:=ml) hs with rfl|h3|⟨h2,d,c,hd,rfl,h0⟩
 ·rfl
 ·rw[h3] at hm;have:=vP hm;exact iw (oU (ml:=ml) (.inl ae))
 ·rw[h2] at hm;have hmi:=vP hm;show stepOf C full F (H.put d c) o=_;have:aW C.SU ml o=0\/aW C.SU ml o=1\/aW C.SU ml o=2\/aW C.SU ml o=4:=ae;rcases this with e|e|e|e
  ·exact iw (oU (ml:=ml) (.inl e))
  ·exact iw (Px (ml:=ml) e hc h0)
  ·cases hod:o.dst with
   | none=>exact iw (MA (ml:=ml) (c:=(d,c)) e hod)
   | some d'=>exact iw (Py (ml:=ml) e hod (λe'=>hdd d hd (by rw[hod,e'])))
  ·exact iw (oU (ml:=ml) (.inr e))
variable {F:Fr}
theorem om {d d':Option Nat} (h:∀ n,d=some n->d'≠some n):(F.dw d x).dw d' y=(F.dw d' y).dw d x:=by
 cases d with
 | none=>rfl
 | some n=>
   cases d' with
   | none=>rfl
   | some n'=>
     have hne:n≠n':=λe=>h n aa (by rw[e])
     funext z
     show ((F.put n x).put n' y) z=((F.put n' y).put n x) z;simp only[Fr.eT];by_cases h1:z=n'
     ·subst h1;rw[if_pos rfl,if_neg (λe=>hne e.symm)];exact (if_pos aa).symm
     ·rw[if_neg h1];by_cases h2:z=n
      ·rw[if_pos h2,if_pos h2]
      ·rw[if_neg h2,if_neg h2,if_neg h1]
theorem Yh {Ψ':AV->Prop} {u':Option (Nat×(TypeId×List AV))} (hp:(stepOf C full F H p).still C=some (Ψ,u)) (ho:(stepOf C full F H o).still C=some (Ψ',u')) (hm:BJ (aW C.SU ml p) (aW C.SU ml o)=true) (hdd:∀ d,p.dst=some d->o.dst≠some d):
  (H.upd u).upd u'=(H.upd u').upd u:=by
 have hmi:=vP hm;rcases jo (ml:=ml) hp with rfl|h3|⟨h2,d,c,hd,rfl,h0⟩
 ·rfl
 ·rcases jo (ml:=ml) ho with rfl|g3|⟨g2,_⟩
  ·rfl
  ·omega
  ·omega
 ·rcases jo (ml:=ml) ho with rfl|g3|⟨g2,d',c',hd',rfl,h0'⟩
  ·rfl
  ·omega
  ·have hne:d≠d':=λe=>hdd d hd (by rw[hd',e])
   funext z
   show ((H.put d c).put d' c') z=((H.put d' c').put d c) z;simp only[Hp.eT];by_cases h1:z=d'
   ·subst h1;rw[if_pos rfl,if_neg (λe=>hne e.symm)];exact (if_pos aa).symm
   ·rw[if_neg h1];by_cases h2:z=d
    ·rw[if_pos h2,if_pos h2]
    ·rw[if_neg h2,if_neg h2,if_neg h1]
variable {R:Ending->World->Prop} {P:Program} {w:World}
theorem Calls.some {g:FuncId} {args:Array Value} (h:Calls P g args w R):∃ e w',R e w':=by
 obtain⟨e,w',_,hR,_⟩:=h [];exact⟨e,w',hR⟩
theorem Ae.some (h:Ae P d β w R):∃ e w',R e w':=by
 cases d with
 | fn g args=>exact Calls.some h.2
 | op o vs=>
   obtain⟨v,w2,_,h2⟩:=h;exact⟨_,w2,h2⟩
variable {j:AV->Fr->Hp->World->Prop}
theorem eO.mono {lv:Nat} {j':AV->Fr->Hp->World->Prop} (hL:Live C F H w) (h:eO C lv F H d w j)
  (hj:∀ r F' H' w2,Live C F' H' w2->(∀ i∈r.ids,H' i≠none)->(lv=0->H'=H)->(lv<=1->F'=F)->j r F' H' w2->j' r F' H' w2):eO C lv F H d w j':=by
 intro w1 β h1 h2 h3;refine (h w1 β h1 h2 h3).mono ?_;rintro e w2 ⟨dQ,r,del,ups,rfl,TL,GA,OB,hch,hv⟩;refine⟨dQ,r,del,ups,aa,TL,GA,OB,hch,λa b c ρ gH=>hj r _ _ w2 ⟨hch.hp hL.hp gH,λd' v hv' i hi=> ?_,λd' v hv'=> ?_,w2,bg.refl _ _,c⟩ (λi hi=> ?_) (λha=> ?_) (λha=> ?_) (hv a b c ρ gH)⟩
 ·obtain⟨u,hu,_,g2⟩:=Fr.iD (β:=β) hv';obtain⟨q1,q2⟩:=g2 i hi;exact ni hch.once (Hp.nj (hL.closed d' u hu i q1) q2)
 ·obtain⟨u,hu,_⟩:=Fr.iD (β:=β) hv';exact hL.fits d' u hu
 ·rcases TL i hi with e|⟨_,e1,e2⟩
  ·exact xw hch.once e
  ·exact ni hch.once (Hp.nj e1 e2)
 ·have e1:ups=[]:=GA.resolve_left ae;have e2:del=none:=OB.resolve_left ae;rw[e1,e2];rfl
 ·have e2:del=none:=OB.resolve_left ae;rw[e2];rfl
theorem eO.some {lv:Nat} (hL:Live C F H w) (h:eO C lv F H d w j):∃ r F' H' w2,(lv=0->H'=H)/\(lv<=1->F'=F)/\j r F' H' w2:=by
 obtain⟨β,a,w1,hr,hk⟩:=hL.rel;obtain⟨e,w2,dQ,r,del,ups,rfl,TL,GA,OB,hch,hv⟩:=(h w1 β hk hr.old (hr.Mx _)).some;have ho:=hr.Mx d.ids;have k2:=hch.kp ho;refine⟨r,_,_,w2,λha=> ?_,λha=> ?_,hv (hk.aN k2) k2 (hch.old ho hr.old) (XZ β) (yP β)⟩
 ·have e1:ups=[]:=GA.resolve_left ae;have e2:del=none:=OB.resolve_left ae;rw[e1,e2];rfl
 ·have e2:del=none:=OB.resolve_left ae;rw[e2];rfl
theorem eO.frame {lv:Nat} {j:AV->Hp->World->Prop} {F1:Fr} (h:eO C lv F H d w λr _ H' w2=>j r H' w2):eO C lv F1 H d w λr _ H' w2=>j r H' w2:=h
variable {i:Nat}
theorem PA {ids:List Nat} (hh:∀ i,Reach H ids i->H' i=H i) (h:Reach H' ids i):Reach H ids i:=by
 induction h with
 | base hi=>exact .base hi
 | step hi h1 h2 ih=>exact .step ih ((hh _ ih).symm.trans h1) h2
theorem qn {ids:List Nat} (hh:∀ i,Reach H ids i->H' i=H i) (h:Reach H ids i):Reach H' ids i:=by
 induction h with
 | base hi=>exact .base hi
 | step hi h1 h2 ih=>exact .step ih ((hh _ hi).trans h1) h2
theorem eO.heap {j:AV->World->Prop} (hh:∀ i,Reach H d.ids i->H' i=H i) (h:eO C 0 F H d w λr _ _ w2=>j r w2):eO C 0 F H' d w λr _ _ w2=>j r w2:=by
 intro w1 β h1 h2 h3;have h3':nd C β H d.ids w1:=⟨λi hi t cs hx=>h3.own i (qn hh hi) t cs (by rw[hh i hi];exact hx),λi j hi hj ei ej e=>h3.apart i j (qn hh hi) (qn hh hj) (by rw[hh i hi];exact ei) (by rw[hh j hj];exact ej) e⟩;refine (h w1 β h1 h2 h3').mono ?_;rintro e w2 ⟨dQ,r,del,ups,rfl,TL,GA,OB,hch,hv⟩;have e1:ups=[]:=GA.resolve_left ae;have e2:del=none:=OB.resolve_left ae;subst e1;subst e2;refine⟨dQ,r,none,[],aa,λi hi=> ?_,.inr aa,.inr aa,⟨hch.os,hch.tape,hch.output,hch.size,hch.block,hch.agree,λi hi=>(by cases hi),λi hi=>(by cases hi),hch.own,λx hx=>(by cases hx),hch.once,hch.apart,λx hx=>(by cases hx)⟩,hv⟩;rcases TL i hi with e|⟨e0,e1,e2⟩
 ·exact .inl e
 ·exact .inr ⟨qn hh e0,hh i e0▸e1,e2⟩
theorem yR (hp:JT C H) {ids:List Nat} (h0:∀ i∈ids,H i≠none) (h:Reach H ids i):H i≠none:=by
 induction h with
 | base hi=>exact h0 _ hi
 | step hi h1 h2 ih=>exact hp.closed _ _ _ h1 _ h2
theorem EC (h:aW C.SU ml o=3\/aW C.SU ml o=4\/aW C.SU ml o=5) (h5:aW C.SU ml o≠5):(aW C.SU ml o=3/\lvl C.SU (some ml) o=1)\/(aW C.SU ml o=4/\lvl C.SU (some ml) o=0):=by
 rcases h with e|e|e
 ·exact .inl ⟨e,by show XU _=_;rw[e];rfl⟩
 ·exact .inr ⟨e,by show XU _=_;rw[e];rfl⟩
 ·exact absurd e h5
theorem sU (hC:C.Ok) (hL:Live C F H w) (hs:(stepOf C full F H o).still C=some (Ψ,u)) (hx:Ψ x):Live C (F.dw o.dst x) (H.upd u) w:=by
 obtain⟨β,a,w1,hr,hk⟩:=hL.rel;have hb:stepOf C full F H o≠.bad:=λe=>by rw[e] at hs;cases hs
 obtain⟨hd,⟨_,e⟩|⟨_,e⟩⟩:=oT hb
 ·rw[e] at hs;cases hs;cases hx;exact Live.of (hr.put hd (λ_ hi=>by cases hi)) hk
 ·rw[e] at hs;cases hst:act C F H o with
  | bad=>rw[hst] at hs;cases hs
  | call d=>rw[hst] at hs;cases hs
  | gM v u'=>
    rw[hst] at hs;cases hs;cases hx;obtain⟨dQ,w2,k2,r2,_⟩:=Sd hC hst hd hr;exact Live.of r2 (hk.aN k2)
  | cond φ v u'=>
    rw[hst] at hs;cases hs;obtain⟨Pu,rfl⟩:=hx;obtain⟨dQ,w2,k2,r2,_⟩:=Mr hC hst Pu hd hr;exact Live.of r2 (hk.aN k2)
  | read i y=>
    rw[hst] at hs;cases hs;obtain⟨cs,_,_,rfl⟩:=hx;exact Live.of (hr.put hd (λ_ hi=>by cases hi)) hk
  | mv i cs off=>
    rw[hst] at hs;cases hs;obtain⟨vs,h1,h2,rfl⟩:=hx;obtain⟨t,y,b,tb,hop,hi,hy,hb⟩:=Mq hst
    have Ye:∀ x∈vs,x∈cs:=λx hx=>by
     obtain⟨j,hj⟩:=oG hx;exact dz (h2 j x hj)
    have mQ:vs.all bO=true:=eg.2 λx hx=>eg.1 (hr.own b tb cs hb).ok x (Ye x hx);refine Live.of (hr.put hd (λj hj=> ?_)) hk;obtain⟨x,hx,hj'⟩:=dh.1 (Ag mQ hj);exact hr.hp.closed b tb cs hb j (dh.2 ⟨x,Ye x hx,hj'⟩)
theorem PB (h:JW p=true):∃ t,p.op=.move (.tmp t)/\p.guard=none:=by
 unfold JW at h
 split at h
 ·rename_i t e1 e2;exact⟨t,e1,e2⟩
 ·cases h
theorem MC {d:Option Nat} {v:AV} {ρ:AV->Value}:(F.dw d v).forget (some i) ρ=(F.forget (some i) ρ).dw d (v.fg i ρ):=by
 cases d with
 | none=>rfl
 | some n=>
   funext z
   show (match (F.put n v) z with|some v=>some (v.fg i ρ)|none=>none)=((F.forget (some i) ρ).put n (v.fg i ρ)) z;rw[Fr.eT,Fr.eT];by_cases hz:z=n
   ·rw[if_pos hz,if_pos hz]
   ·rw[if_neg hz,if_neg hz];rfl
theorem swapM (ha:p.apart full o=true) (hi:JW p=true) (h:one C (some ml) full p (one C (some ml) full o k) F H w):one C (some ml) full o (one C (some ml) full p k) F H w:=by
 obtain⟨a1,a2,a3⟩:=Oper.apart_spec ha;obtain⟨t,hop,hg⟩:=PB hi
 have hst:∀ (F:Fr) (H:Hp),stepOf C full F H p=bif nU C.N p.dst then GG (F t) else .bad:=λF H=>by
  unfold stepOf wants act;rw[hg,hop];rfl
 have hto:o.dst≠some t:=λe=>a3 t e (xd (y:=.tmp t) (by rw[hop];simp[Op.operands]) aa);cases hd:nU C.N p.dst with
 | false=>unfold one at h;rw[hst,hd] at h;exact h.elim
 | true=>
   cases hF:F t with
   | none=>unfold one at h;rw[hst,hd,hF] at h;exact h.elim
   | some v=>
     have h':one C (some ml) full o k (F.dw p.dst v) H w:=by
      unfold one at h;rw[hst,hd,hF] at h;exact h
     have eo:stepOf C full (F.dw p.dst v) H o=stepOf C full F H o:=fT a1
     have key:∀ (F':Fr) (H':Hp) (w':World) (r v':AV),F' t=some v'->k ((F'.dw p.dst v').dw o.dst r) H' w'->one C (some ml) full p k (F'.dw o.dst r) H' w':=λF' H' w' r v' hF' hk=>by
      have e:(F'.dw o.dst r) t=some v':=(xy λn hn=>λe=>hto (by rw[hn,e])).trans hF';unfold one;rw[hst,hd,e];show k ((F'.dw o.dst r).dw p.dst v') H' w';rw[om (λn hn e'=>a2 n e' hn)];exact hk
     unfold one at h' ⊢;rw[eo] at h';cases hso:stepOf C full F H o with
     | gM y u=>rw[hso] at h';exact key F _ _ _ _ hF h'
     | read i a=>
       rw[hso] at h';obtain⟨cs,h1,h2,h3⟩:=h';exact⟨cs,h1,h2,key F _ _ _ _ hF h3⟩
     | mv i cs off=>
       rw[hso] at h';obtain⟨vs,h1,h2,h3⟩:=h';exact⟨vs,h1,h2,key F _ _ _ _ hF h3⟩
     | cond φ y u=>rw[hso] at h';exact⟨h'.1,key F _ _ _ _ hF h'.2⟩
     | bad=>rw[hso] at h';exact h'.elim
     | call d=>
       rw[hso] at h';intro w1 β h1 h2 h3;refine (h' w1 β h1 h2 h3).mono ?_;rintro e w2 ⟨dQ,r,del,ups,he,TL,GA,OB,hch,hv⟩;refine⟨dQ,r,del,ups,he,TL,GA,OB,hch,λa b c ρ gH=> ?_⟩;have hv':=hv a b c ρ gH;cases del with
       | none=>exact key _ _ _ _ _ hF hv'
       | some i=>
         rw[MC] at hv';refine key _ _ _ _ _ ?_ hv';show (match F t with|some v=>some (v.fg i ρ)|none=>none)=_;rw[hF]
theorem swap (hC:C.Ok) (hL:Live C F H w) (hi:indep C.SU ml full p o=true) (h:one C (some ml) full p (one C (some ml) full o k) F H w):one C (some ml) full o (one C (some ml) full p k) F H w:=by
 unfold indep at hi;rw[jP] at hi;obtain⟨ha,hm⟩:=hi;rcases Hq _ _▸hm with hm|hmv
 case inr=>exact swapM ha hmv h
 obtain⟨a1,a2,a3⟩:=Oper.apart_spec ha;have a2':∀ d,o.dst=some d->p.dst≠some d:=λd hd e=>a2 d e hd;have hmi:=vP hm;have hc:=hL.closed;rcases oV (C:=C) (stepOf C full F H p) with hp|⟨Ψp,up,hp⟩|⟨d,hp⟩
 ·unfold one at h;rw[hp] at h;exact h.elim
 ·obtain⟨x,hx,h⟩:=(fK hp).1 h;have eo:stepOf C full (F.dw p.dst x) (H.upd up) o=stepOf C full F H o:=(fT a1).trans (Ao hp hm a2 hc);rcases oV (C:=C) (stepOf C full F H o) with ho|⟨Ψo,uo,ho⟩|⟨d,ho⟩
  ·unfold one at h;rw[eo,ho] at h;exact h.elim
  ·obtain⟨y,hy,h⟩:=(fK (by rw[eo];exact ho)).1 h;refine (fK ho).2 ⟨y,hy,(fK (Ψ:=Ψp) (u:=up) ?_).2 ⟨x,hx,?_⟩⟩
   ·rw[show stepOf C full (F.dw o.dst y) (H.upd uo) p=stepOf C full F H p from (fT a3).trans (Ao ho (xA hm) a2' hc)];exact hp
   ·rw[om a2',Yh ho hp (xA hm) a2'];exact h
  ·obtain⟨co,cid⟩:=qm (ml:=ml) ho;unfold one at h ⊢;rw[eo,ho] at h;rw[ho];have hL':=sU hC hL hp hx;rcases EC co hmi.2.1 with ⟨c3,al⟩|⟨c4,al⟩
   ·-- a call that may change variables:p has no memory
    have p0:aW C.SU ml p=0:=ae
    have IC:up=none:=by
     rcases jo (ml:=ml) hp with e|e|⟨e,_⟩
     ·exact e
     ·omega
     ·omega
    subst IC
    have h1:eO C (lvl C.SU (some ml) o) (F.dw p.dst x) H d w λr _ H' w2=>k ((F.dw p.dst x).dw o.dst r) H' w2:=eO.mono hL' h λr F' H' w2 _ _ _ hF hv=>by
     rw[hF ae] at hv;exact hv
    refine eO.mono hL (eO.frame (F1:=F) (j:=λr H' w2=>k ((F.dw p.dst x).dw o.dst r) H' w2) h1) λr F' H' w2 _ _ _ hF hv=> ?_;rw[hF ae]
    have:one C (some ml) full p k (F.dw o.dst r) H' w2:=by
     refine (fK (Ψ:=Ψp) (u:=none) ?_).2 ⟨x,hx,?_⟩
     ·rw[show stepOf C full (F.dw o.dst r) H' p=stepOf C full F H p from (fT a3).trans (iw (oU (ml:=ml) (.inl p0)))];exact hp
     ·rw[om a2'];exact hv
    exact this
   ·rw[al] at h ⊢
    have h1:eO C 0 (F.dw p.dst x) (H.upd up) d w λr _ _ w2=>k ((F.dw p.dst x).dw o.dst r) (H.upd up) w2:=eO.mono hL' h λr F' H' w2 _ _ hH hF hv=>by
     rw[hF ae,hH rfl] at hv;exact hv
    have hids:∀ i,Reach (H.upd up) d.ids i->H i=(H.upd up) i:=by
     rcases jo (ml:=ml) hp with e|e|⟨e,d',c,hd,e2,h0⟩
     ·rw[e];exact λ_ _=>aa
     ·omega
     ·rw[e2]
      have Yi:∀ i,Reach H d.ids i->(H.put d' c) i=H i:=λi hi=>by
       rw[Hp.eT,if_neg];intro e3;exact yR hL.hp (cid hc) hi (e3▸h0)
      exact λi hi=>(Yi i (PA Yi hi)).symm
    have h2:=eO.frame (F1:=F) (j:=λr _ w2=>k ((F.dw p.dst x).dw o.dst r) (H.upd up) w2) (eO.heap (H':=H) (j:=λr w2=>k ((F.dw p.dst x).dw o.dst r) (H.upd up) w2) hids h1);refine eO.mono hL h2 λr F' H' w2 _ _ hH hF hv=> ?_;rw[hH rfl,hF ae]
    have:one C (some ml) full p k (F.dw o.dst r) H w2:=by
     refine (fK (Ψ:=Ψp) (u:=up) ?_).2 ⟨x,hx,?_⟩
     ·rw[show stepOf C full (F.dw o.dst r) H p=stepOf C full F H p from fT a3];exact hp
     ·rw[om a2'];exact hv
    exact this
 ·obtain⟨cp,cid⟩:=qm (ml:=ml) hp
  have h':eO C (lvl C.SU (some ml) p) F H d w λr F' H' w2=>one C (some ml) full o k (F'.dw p.dst r) H' w2:=by
   unfold one at h;rw[hp] at h;exact h
  rcases EC cp hmi.1 with ⟨c3,al⟩|⟨c4,al⟩
  ·have o0:aW C.SU ml o=0:=by omega
   have eo:∀ (r:AV) (H':Hp),stepOf C full (F.dw p.dst r) H' o=stepOf C full F H o:=λr H'=>(fT a1).trans (iw (oU (ml:=ml) (.inl o0)));rcases oV (C:=C) (stepOf C full F H o) with ho|⟨Ψo,uo,ho⟩|⟨d',ho⟩
   ·obtain⟨r,F',H',w2,_,hF,hv⟩:=h'.some hL;rw[hF ae] at hv;unfold one at hv;rw[eo r H',ho] at hv;exact hv.elim
   ·have huo:uo=none:=by
     rcases jo (ml:=ml) ho with e|e|⟨e,_⟩
     ·exact e
     ·omega
     ·omega
    subst huo;obtain⟨r,F',H',w2,_,hF,hv⟩:=h'.some hL;rw[hF ae] at hv;obtain⟨y,hy,_⟩:=(fK (by rw[eo r H'];exact ho)).1 hv;refine (fK ho).2 ⟨y,hy,?_⟩;have ep:stepOf C full (F.dw o.dst y) (H.upd none) p=.call d:=(fT a3).trans hp;unfold one;rw[ep]
    have h1:eO C (lvl C.SU (some ml) p) F H d w λr _ H' w2=>k ((F.dw o.dst y).dw p.dst r) H' w2:=eO.mono hL h' λr F' H' w2 _ _ _ hF hv=>by
     rw[hF ae] at hv;obtain⟨z,hz,hv⟩:=(fK (by rw[eo r H'];exact ho)).1 hv;rw[IB ho hy hz,om a2'];exact hv
    exact eO.mono (sU hC hL ho hy) (eO.frame (F1:=F.dw o.dst y) (j:=λr H' w2=>k ((F.dw o.dst y).dw p.dst r) H' w2) h1) λr F' H' w2 _ _ _ hF hv=>by
     rw[hF ae];exact hv
   ·obtain⟨co,_⟩:=qm (ml:=ml) ho;omega
  ·rw[al] at h';have eo:∀ r:AV,stepOf C full (F.dw p.dst r) H o=stepOf C full F H o:=λr=>fT a1
   have h2:eO C 0 F H d w λr _ _ w2=>one C (some ml) full o k (F.dw p.dst r) H w2:=eO.mono hL h' λr F' H' w2 _ _ hH hF hv=>by
    rw[hH rfl,hF ae] at hv;exact hv
   rcases oV (C:=C) (stepOf C full F H o) with ho|⟨Ψo,uo,ho⟩|⟨d',ho⟩
   ·obtain⟨r,F',H',w2,_,_,hv⟩:=h2.some hL;unfold one at hv;rw[eo r,ho] at hv;exact hv.elim
   ·obtain⟨r,F',H',w2,_,_,hv⟩:=h2.some hL;obtain⟨y,hy,_⟩:=(fK (by rw[eo r];exact ho)).1 hv;refine (fK ho).2 ⟨y,hy,?_⟩;have ep:stepOf C full (F.dw o.dst y) (H.upd uo) p=.call d:=((fT a3).trans (Ao ho (xA hm) a2' hc)).trans hp;unfold one;rw[ep,al]
    have hids:∀ i,Reach H d.ids i->(H.upd uo) i=H i:=λi hi=>by
     rcases jo (ml:=ml) ho with e|e|⟨e,d',c,hd,e2,h0⟩
     ·rw[e];rfl
     ·omega
     ·rw[e2];show (H.put d' c) i=H i;rw[Hp.eT,if_neg];intro e3;exact yR hL.hp (cid hc) hi (e3▸h0)
    have h3:=eO.frame (F1:=F.dw o.dst y) (j:=λr H' w2=>one C (some ml) full o k (F.dw p.dst r) H w2) (eO.heap (H':=H.upd uo) (j:=λr w2=>one C (some ml) full o k (F.dw p.dst r) H w2) hids h2);refine eO.mono (sU hC hL ho hy) h3 λr F' H' w2 _ _ hH hF hv=> ?_;obtain⟨z,hz,hv⟩:=(fK (by rw[eo r];exact ho)).1 hv;rw[hH rfl,hF ae,IB ho hy hz,om a2'];exact hv
   ·obtain⟨co,_⟩:=qm (ml:=ml) ho;omega
theorem Yj (hC:C.Ok) {k':Fr->Hp->World->Prop} (hL:Live C F H w) (h:one C (some ml) full p k F H w) (hk:∀ F' H' w',Live C F' H' w'->k F' H' w'->k' F' H' w'):one C (some ml) full p k' F H w:=by
 rcases oV (C:=C) (stepOf C full F H p) with hp|⟨Ψp,up,hp⟩|⟨d,hp⟩
 ·unfold one at h;rw[hp] at h;exact h.elim
 ·obtain⟨x,hx,h⟩:=(fK hp).1 h;exact (fK hp).2 ⟨x,hx,hk _ _ _ (sU hC hL hp hx) h⟩
 ·have hb:stepOf C full F H p≠.bad:=λe=>by rw[e] at hp;cases hp
  have hd:=(oT hb).1;unfold one at h ⊢;rw[hp] at h ⊢;refine eO.mono hL h λr F' H' w2 hL2 TL _ _ hv=>hk _ _ _ ?_ hv;obtain⟨β,a,w1,hr,iy⟩:=hL2.rel;exact Live.of (hr.put hd TL) iy
theorem Yk (hC:C.Ok) {K:Fr->Hp->World->Prop} {post:List Oper}:∀ (pre:List Oper) (F:Fr) (H:Hp) (w:World),(∀ q∈pre,indep C.SU ml full q o=true)->Live C F H w->aB C (some ml) full (pre++o::post) K F H w->aB C (some ml) full (o::(pre++post)) K F H w
 | [],F,H,w,_,_,h=>h
 | q::r,F,H,w,hi,hL,h=>by
   have h1:one C (some ml) full q (aB C (some ml) full (o::(r++post)) K) F H w:=Yj hC hL (show one C (some ml) full q (aB C (some ml) full (r++o::post) K) F H w from h) λF' H' w' hL' hv=>Yk hC r F' H' w' (λq' hq'=>hi q' (by simp[hq'])) hL' hv;exact swap hC hL (hi q cZ) h1
end
section
variable {C:Cx} {full:Array Oper} {ml:List FuncId} {Q:Exit->Act->World->Prop}
theorem MD {j d:Nat} {o:Oper} (ho:full[j]? =some o):d∈ib full j↔∃ e∈o.after.toList,Region.binds .any e=true/\e.on=d:=by
 unfold ib;rw[ho];simp only[List.mem_map,List.mem_filter];exact⟨λ⟨e,⟨h1,h2⟩,h3⟩=>⟨e,h1,h2,h3⟩,λ⟨e,h1,h2,h3⟩=>⟨e,⟨h1,h2⟩,h3⟩⟩
variable {listed:Array Bool} {i:Nat}
theorem mem_ready:i∈Region.ready .any full listed↔i<full.size/\listed.getD i true=false/\∀ d∈ib full i,listed.getD d false=true:=by
 unfold Region.ready;rw[Bf,Bg];constructor
 ·rintro⟨h1,h2⟩;have ho:=wA h1;simp only[Bool.and_eq_true,Bool.not_eq_true',ho,Option.map_some,Option.getD_some,Array.all_eq_true_iff_forall_mem,Bool.or_eq_true] at h2;refine⟨h1,h2.1,λd hd=> ?_⟩;obtain⟨e,he,hb,rfl⟩:=(MD ho).1 hd;rcases h2.2 e (by simpa using he) with h|h
  ·rw[hb] at h;cases h
  ·exact h
 ·rintro⟨h1,h2,h3⟩;refine⟨h1,?_⟩;have ho:=wA h1;simp only[Bool.and_eq_true,Bool.not_eq_true',ho,Option.map_some,Option.getD_some,Array.all_eq_true_iff_forall_mem,Bool.or_eq_true];refine⟨h2,λe he=> ?_⟩;cases hb:Region.binds .any e with
  | false=>exact .inl aa
  | true=>exact .inr (h3 _ ((MD ho).2 ⟨e,by simpa using he,hb,rfl⟩))
theorem yS {listed:Array Bool} (ME:∀ j,j<full.size->∀ d∈ib full j,d<j) (ID:∀ j,j<full.size->listed.getD j true=true->∀ d∈ib full j,listed.getD d false=true) (hsz:listed.size=full.size) {i:Nat}:
  ∀ (f j:Nat),j<full.size->(∀ d∈ib full j,listed.getD d false=true)->reach full f j i=true->listed.getD i false=true
 | 0,j,_,hj,h=>hj i (by unfold reach at h;simpa using h)
 | f+1,j,hjs,hj,h=>by
   unfold reach at h;rcases Hq _ _▸h with e|e
   ·exact hj i (by simpa using e)
   ·obtain⟨d,hd,e⟩:=kV.1 e;rw[jP] at e;have hdj:=ME j hjs d hd;have hl:=hj d hd;refine yS ME ID hsz f d ae (ID d ae ?_) e.2;have:d<listed.size:=ae;rw[lX] at hl ⊢;rw[wA this] at hl ⊢;exact hl
variable {K:Fr->Hp->World->Prop}
theorem Ui (hC:C.Ok) (np:lI C.SU ml full=true) (hQ:∀ β F H w a w',K F H w->Rel C β F H a w'->bg C.K w w'->Q .normal a w'):
  ∀ (fuel:Nat) (listed:Array Bool) (rem:List Nat) (β:Nat->Nat) (F:Fr) (H:Hp) (w:World) (a:Act) (w':World),listed.size=full.size->rem.Pairwise (·< ·)->(∀ x,x∈rem↔x<full.size/\listed.getD x true=false)->rem.length<=fuel->
    (∀ j,j<full.size->listed.getD j true=true->∀ d∈ib full j,listed.getD d false=true)->
    aB C (some ml) full (rem.filterMap (full[·]?)) K F H w->Rel C β F H a w'->bg C.K w w'->wpAny C.P .any full Q fuel listed a w':=by
 have ME:∀ j,j<full.size->∀ d∈ib full j,d<j:=λj hj d hd=>by
  unfold lI at np;have:=eg.1 np j (Bg.2 hj);rw[jP] at this;exact bF (eg.1 this.1 d hd)
 have hpair:∀ i j,i<j->j<full.size->EB C.SU ml full i j=true:=λi j hij hj=>by
  unfold lI at np;have:=eg.1 np j (Bg.2 hj);rw[jP] at this;exact eg.1 this.2 i (Bg.2 hij)
 intro fuel
 induction fuel with
 | zero=>
   intro listed rem β F H w a w' hsz hpw PC hlen ID h hr hk;have h0:rem=[]:=rp ae;subst h0;refine⟨?_,hQ β F H w a w' h hr hk⟩;rw[Ru];intro i hi;have:=mem_ready.1 hi;exact absurd ((PC i).2 ⟨this.1,this.2.1⟩) cZ
 | succ fuel ih=>
   intro listed rem β F H w a w' hsz hpw PC hlen ID h hr hk;constructor
   ·intro Yl;cases rem with
    | nil=>exact hQ β F H w a w' h hr hk
    | cons i r=>
      exfalso;have hi:=(PC i).1 cZ
      have:i∈Region.ready .any full listed:=mem_ready.2 ⟨hi.1,hi.2,λd hd=>by
       have hdi:=ME i hi.1 d hd;cases hl:listed.getD d true with
       | true=>
         rw[lX] at hl ⊢;have:d<listed.size:=ae;rw[wA this] at hl ⊢;exact hl
       | false=>
         have hm:=(PC d).2 ⟨ae,hl⟩;rcases eD.1 hm with e|e
         ·omega
         ·have:=(List.pairwise_cons.1 hpw).1 d e;omega⟩
      rw[Yl] at this;cases this
   ·intro i hi;obtain⟨Gs,hi2,hi3⟩:=mem_ready.1 hi;obtain⟨pre,post,rfl⟩:=List.append_of_mem ((PC i).2 ⟨Gs,hi2⟩);have ho:=wA Gs;generalize full[i]=o at ho;have hpp:=List.pairwise_append.1 hpw;have hlt:∀ p∈pre,p<i:=λp hp=>hpp.2.2 p hp i cZ;have Ym:∀ p∈post,i<p:=(List.pairwise_cons.1 hpp.2.1).1
    have hb:aB C (some ml) full (o::(pre.filterMap (full[·]?)++post.filterMap (full[·]?))) K F H w:=by
     refine Yk hC _ F H w (λq hq=> ?_) (Live.of hr hk) (by
      rw[List.filterMap_append,List.filterMap_cons_some ho] at h;exact h)
     obtain⟨p,hp,hpq⟩:=List.mem_filterMap.1 hq;have hpl:=((PC p).1 (by simp[hp])).2;have hpi:=hlt p hp;have:=hpair p i hpi Gs;unfold EB at this;rw[hpq,ho] at this;simp only[Bool.or_eq_true] at this
     have hno:listed.getD p false=false:=by
      have:p<listed.size:=ae;rw[lX] at hpl ⊢;rw[wA this] at hpl ⊢;exact hpl
     rcases this with e|e
     ·exact e
     ·have:=yS ME ID hsz full.size i Gs hi3 e;rw[hno] at this;cases this
    have PD:one C (some ml) full o (aB C (some ml) full ((pre++post).filterMap (full[·]?)) K) F H w:=by
     rw[List.filterMap_append];exact hb
    have:=vN (Q:=Q) (next:=wpAny C.P .any full Q fuel (listed.setIfInBounds i true)) hC PD hr hk λdQ F' H' w1 a' jf h1 h2 h3=>by
     refine ih (listed.setIfInBounds i true) (pre++post) dQ F' H' w1 a' jf (by simp[hsz]) ?_ ?_ ?_ ?_ h1 h2 h3
     ·exact List.pairwise_append.2 ⟨hpp.1,(List.pairwise_cons.1 hpp.2.1).2,λx hx y hy=>hpp.2.2 x hx y (by simp[hy])⟩
     ·intro x;by_cases hx:x=i
      ·subst hx;constructor
       ·intro hm;rcases mV.1 hm with e|e
        ·exact absurd (hlt _ e) ae
        ·exact absurd (Ym _ e) ae
       ·rintro⟨_,e⟩;simp[Array.getD_eq_getD_getElem?,Array.getElem?_setIfInBounds,hsz,Gs] at e
      ·have e1:(listed.setIfInBounds i true).getD x true=listed.getD x true:=by
        rw[lX,Le,if_neg (λe=>hx e.symm),<-lX]
       rw[e1,<-PC x];simp[hx]
     ·have:(pre++i::post).length=(pre++post).length+1:=by simp;omega
      omega
     ·intro j hj hl d hd
      have Ck:listed.getD d false=true->(listed.setIfInBounds i true).getD d false=true:=λe=>by
       by_cases hx:d=i
       ·subst hx;simp[Array.getD_eq_getD_getElem?,Array.getElem?_setIfInBounds,hsz,Gs]
       ·rw[lX,Le,if_neg (λe=>hx e.symm),<-lX];exact e
      by_cases hx:j=i
      ·subst hx;exact Ck (hi3 d hd)
      ·refine Ck (ID j hj ?_ d hd)
       rwa [lX,Le,if_neg (λe=>hx e.symm),<-lX] at hl
    unfold wpOp;rw[ho];simp only
    split
    ·rename_i hw;rw[if_pos hw] at this;exact .inl this
    ·rename_i hw;rw[if_neg hw] at this;exact this
theorem IE:∀ (l:List Oper) (k:Nat),(∀ j,l[j]? =full[k+j]?)->(List.range' k l.length).filterMap (full[·]?)=l
 | [],_,_=>rfl
 | o::l,k,h=>by
   rw[wD,List.range'_succ,List.filterMap_cons_some (b:=o) (by simpa using (h 0).symm),IE l (k+1) (λj=>by
    have:=h (j+1);simpa [Nat.add_assoc,Nat.add_comm 1 j] using this)]
variable {a:Act} {F:Fr} {H:Hp} {β:Nat->Nat} {w:World}
theorem Rel.drew (hr:Rel C β F H a w):Rel C β F H a w.drew:=
 ⟨hr.defers,hr.size,hr.tmp,λi t cs h=>⟨(hr.own i t cs h).new,(hr.own i t cs h).ty,(hr.own i t cs h).cls,(hr.own i t cs h).ok⟩,hr.apart,hr.closed,hr.fits,hr.hp,C.aN hr.old ((aD.refl _).drew)⟩
variable {w':World}
theorem bg.drew {K:KC} (h:bg K w w'):bg K w w'.drew:=⟨h.size,h.cell,h.block,h.map⟩
variable {id:Nat}
theorem JX (hC:C.Ok) (hm:C.P.follows .mixedOrders=true) (np:lI C.SU ml full=true) (hQ:∀ β F H w a w',K F H w->Rel C β F H a w'->bg C.K w w'->Q .normal a w')
  (h:aB C (some ml) full full.toList K F H w) (hr:Rel C β F H a w') (hk:bg C.K w w'):(Code.region id full true).wp C.P Q a w':=by
 refine wp_region_any hm ?_;refine Ui hC np hQ full.size (Array.replicate full.size false) (List.range full.size) β F H w a w'.drew cZ List.pairwise_lt_range ?_ cZ ?_ ?_ hr.drew hk.drew
 ·intro x;rw[Bg];constructor
  ·intro hx;refine⟨hx,?_⟩;simp[Array.getD_eq_getD_getElem?,Array.getElem?_replicate,hx]
  ·exact λh=>h.1
 ·intro j hj hl;simp[Array.getD_eq_getD_getElem?,Array.getElem?_replicate,hj] at hl
 ·have:(List.range full.size).filterMap (full[·]?)=full.toList:=by
   rw[List.range_eq_range',<-DL];exact IE full.toList 0 (λj=>cZ)
  rw[this];exact h
def MF (l:List Nat) (p:Nat->Prop):Prop:=match l with
 | []=>True
 | i::r=>p i/\MF r p
theorem MG {p:Nat->Prop}:∀ {l:List Nat},MF l p->∀ i∈l,p i
 | j::r,h,i,hi=>by
   rcases eD.1 hi with rfl|e
   ·exact h.1
   ·exact MG h.2 i e
def Cn (l:List Nat) (i:Nat):Bool:=l.any (Nat.beq i)
theorem yU {l:List Nat}:Cn l i=true↔i∈l:=by
 unfold Cn;rw[kV];exact⟨λ⟨y,hy,e⟩=>(oD e)▸hy,λh=>⟨i,h,cZ⟩⟩
def rdy (full:Array Oper) (done:List Nat):List Nat:=(List.range full.size).filter λi=> !(Cn done i) && (ib full i).all (Cn done)
def Lists (full:Array Oper) (done:List Nat) (listed:Array Bool):Prop:=listed.size=full.size/\(∀ i,i<full.size->(listed.getD i true=true↔i∈done))/\∀ i∈done,i<full.size
theorem Ap {done:List Nat} (h:Lists full done listed):i∈Region.ready .any full listed↔i∈rdy full done:=by
 rw[mem_ready];unfold rdy;rw[Bf,Bg,jP,eg]
 have hf:∀ d,listed.getD d false=true↔d<full.size/\d∈done:=λd=>by
  by_cases hd:d<full.size
  ·have hl:d<listed.size:=by rw[h.1];exact hd
   have:=h.2.1 d hd;rw[lX] at this ⊢;rw[wA hl] at this ⊢;exact⟨λe=>⟨hd,this.1 e⟩,λe=>this.2 e.2⟩
  ·have hl:¬ d<listed.size:=by rw[h.1];exact hd
   rw[lX,Array.getElem?_eq_none ae];exact⟨λe=>(by cases e),λe=>absurd e.1 hd⟩
 constructor
 ·rintro⟨h1,h2,h3⟩;refine⟨h1,?_,λd hd=>yU.2 ((hf d).1 (h3 d hd)).2⟩;cases hb:Cn done i with
  | false=>rfl
  | true=>
    have:=(h.2.1 i h1).2 (yU.1 hb);rw[h2] at this;cases this
 ·rintro⟨h1,h2,h3⟩;refine⟨h1,?_,λd hd=>(hf d).2 ?_⟩
  ·cases hb:listed.getD i true with
   | false=>rfl
   | true=>
     rw[yU.2 ((h.2.1 i h1).1 hb)] at h2;cases h2
  ·have:=yU.1 (h3 d hd);exact⟨h.2.2 d this,this⟩
def vc (C:Cx) (ml:List FuncId) (full:Array Oper):Nat->List Nat->(Fr->Hp->World->Prop)->Fr->Hp->World->Prop
 | 0,_,K,F,H,w=>K F H w
 | f+1,done,K,F,H,w=>match rdy full done with
   | []=>K F H w
   | l=>MF l λi=>match full[i]? with
     | some o=>one C (some ml) full o (vc C ml full f (i::done) K) F H w
     | none=>False
theorem MH (hC:C.Ok) (hQ:∀ β F H w a w',K F H w->Rel C β F H a w'->bg C.K w w'->Q .normal a w'):
  ∀ (f:Nat) (done:List Nat) (listed:Array Bool) (β:Nat->Nat) (F:Fr) (H:Hp) (w:World) (a:Act) (w':World),Lists full done listed->((List.range full.size).filter λi=> !Cn done i).length<=f->vc C ml full f done K F H w->Rel C β F H a w'->bg C.K w w'->wpAny C.P .any full Q f listed a w':=by
 intro f
 induction f with
 | zero=>
   intro done listed β F H w a w' hL hf h hr hk;refine⟨?_,hQ β F H w a w' h hr hk⟩;rw[Ru];intro i hi;have xu:=(Ap hL).1 hi;unfold rdy at xu;rw[Bf,jP] at xu;have:i∈(List.range full.size).filter λi=> !Cn done i:=Bf.2 ⟨xu.1,xu.2.1⟩;rw[rp (Nat.le_zero.1 hf)] at this;cases this
 | succ f ih=>
   intro done listed β F H w a w' hL hf h hr hk;unfold vc at h;constructor
   ·intro Yl
    have:rdy full done=[]:=by
     rw[Ru];intro i hi;have:=(Ap hL).2 hi;rw[Yl] at this;cases this
    rw[this] at h;exact hQ β F H w a w' h hr hk
   ·intro i hi
    have h':MF (rdy full done) λi=>match full[i]? with
     | some o=>one C (some ml) full o (vc C ml full f (i::done) K) F H w
     | none=>False:=by
     cases hl:rdy full done with
     | nil=>exact aj
     | cons x r=>rw[hl] at h;exact h
    have xu:=(Ap hL).1 hi;have PD:=MG h' i xu;obtain⟨Gs,hi2,_⟩:=mem_ready.1 hi;unfold rdy at xu;rw[Bf,jP] at xu;have ho:=wA Gs;generalize full[i]=o at ho;rw[ho] at PD
    have:=vN (Q:=Q) (next:=wpAny C.P .any full Q f (listed.setIfInBounds i true)) hC PD hr hk λdQ F' H' w1 a' jf h1 h2 h3=>
     ih (i::done) (listed.setIfInBounds i true) dQ F' H' w1 a' jf ⟨by simp[hL.1],λj hj=>by
      by_cases e:j=i
      ·subst e;have hl:j<listed.size:=by rw[hL.1];exact hj
       simp[Array.getD_eq_getD_getElem?,Array.getElem?_setIfInBounds,hl]
      ·rw[lX,Le,if_neg (λe'=>e e'.symm),<-lX,hL.2.1 j hj];simp[e],λj hj=>by
      rcases eD.1 hj with e|e
      ·rw[e];exact Gs
      ·exact hL.2.2 j e⟩ (by
      have e1:((List.range full.size).filter λj=> !Cn (i::done) j)=((List.range full.size).filter λj=> !Cn done j).filter λj=> !Nat.beq j i:=by
       rw[List.filter_filter]
       congr 1
       funext j
       show (!(Nat.beq j i || Cn done j))=_;rw[Bool.not_or]
      have hlt:(((List.range full.size).filter λj=> !Cn done j).filter λj=> !Nat.beq j i).length<((List.range full.size).filter λj=> !Cn done j).length:=
       List.length_filter_lt_length_iff_exists.2 ⟨i,Bf.2 ⟨xu.1,xu.2.1⟩,cZ⟩
      rw[e1];omega) h1 h2 h3
    unfold wpOp;rw[ho];simp only
    split
    ·rename_i hw;rw[if_pos hw] at this;exact .inl this
    ·rename_i hw;rw[if_neg hw] at this;exact this
theorem PE (hC:C.Ok) (hm:C.P.follows .mixedOrders=true) (hQ:∀ β F H w a w',K F H w->Rel C β F H a w'->bg C.K w w'->Q .normal a w')
  (h:vc C ml full full.size [] K F H w) (hr:Rel C β F H a w') (hk:bg C.K w w'):(Code.region id full true).wp C.P Q a w':=by
 refine wp_region_any hm ?_;refine MH hC hQ full.size [] (Array.replicate full.size false) β F H w a w'.drew ⟨cZ,λi hi=> ?_,λi hi=>(by cases hi)⟩ ?_ h hr.drew hk.drew
 ·simp[Array.getD_eq_getD_getElem?,Array.getElem?_replicate,hi]
 ·exact bG (RB _ _) cZ
end
inductive It where
 | code (c:Code)
 | sm (id:Nat)
 | back (Φ:Act->World->Prop)
 | scope
def post (P:Program) (Q:Exit->Act->World->Prop):List It->Exit->Act->World->Prop
 | []=>Q
 | .code c::k=>Exit.then (λa w=>c.wp P (post P Q k) a w) (post P Q k)
 | .sm id::k=>Exit.inBlock id (post P Q k)
 | .back Φ::k=>Exit.then Φ (post P Q k)
 | .scope::k=>Exit.noGoto (post P Q k)
def VS (C:Cx) (Q:Exit->Act->World->Prop) (stk:List It) (F:Fr) (H:Hp) (w:World):Prop:=
 ∀ β a w',Rel C β F H a w'->bg C.K w w'->post C.P Q stk .normal a w'
def pop (id:Nat):List It->Option (List It)
 | []=>none
 | .code _::k=>pop id k
 | .back _::k=>pop id k
 | .scope::k=>pop id k
 | .sm i::k=>bif Nat.beq id i then some k else pop id k
def Fr.of (L:List (Nat×AV)):Fr:=λn=>match L with
 | []=>none
 | (d,v)::r=>bif Nat.beq n d then some v else Fr.of r n
def Hp.of (L:List (Nat×(TypeId×List AV))):Hp:=λn=>match L with
 | []=>none
 | (d,v)::r=>bif Nat.beq n d then some v else Hp.of r n
def ED (F:Fr):List (Nat×AV)->Prop
 | []=>True
 | p::r=>F p.1=some p.2/\ED F r
def xB (H:Hp):List (Nat×(TypeId×List AV))->Prop
 | []=>True
 | p::r=>H p.1=some p.2/\xB H r
def inM (M:List (Nat×(TypeId×List AV))) (i:Nat):Bool:=M.any λq=>Nat.beq i q.1
def JY (L:List (Nat×AV)) (M:List (Nat×(TypeId×List AV))):Bool:=L.all λp=>p.2.ids.all λi=>inM M i
def aq (M:List (Nat×(TypeId×List AV))) (cs:List AV):Prop:=∀ j∈bM cs,inM M j=true
def sV (M:List (Nat×(TypeId×List AV))):List (Nat×(TypeId×List AV))->Prop
 | []=>True
 | p::r=>aq M p.2.2/\sV M r
variable {M:List (Nat×(TypeId×List AV))} {cs:List AV}
theorem aq.lit (h:(bM cs).all (inM M)=true):aq M cs:=λj hj=>eg.1 h j hj
theorem aq.none (h:bM cs=[]):aq M cs:=λj hj=>by rw[h] at hj;cases hj
theorem aq.vals (vs:List Value):aq M (vs.map .val):=.none (ah vs)
theorem aq.append {ds:List AV} (h:aq M cs) (k:aq M ds):aq M (cs++ds):=λj hj=>by
 rw[iW] at hj;exact (mV.1 hj).elim (h j) (k j)
theorem sV.mem {M:List (Nat×(TypeId×List AV))}:∀ {r:List (Nat×(TypeId×List AV))},sV M r->∀ p∈r,aq M p.2.2
 | [],_,p,hp=>by cases hp
 | q::r,h,p,hp=>by
   rcases eD.1 hp with rfl|e
   ·exact h.1
   ·exact sV.mem h.2 p e
section
variable {C:Cx} {Q:Exit->Act->World->Prop} {k:List It} {F:Fr} {H:Hp} {w:World}
theorem Fr.jq:∀ {L:List (Nat×AV)} {d:Nat} {v:AV},Fr.of L d=some v->(d,v)∈L
 | [],d,v,h=>by unfold Fr.of at h;cases h
 | (e,u)::r,d,v,h=>by
   unfold Fr.of at h;cases hb:Nat.beq d e with
   | true=>
     rw[hb] at h;cases h;rw[oD hb];simp
   | false=>
     rw[hb] at h;exact DK _ (Fr.jq h)
theorem Hp.jq:∀ {L:List (Nat×(TypeId×List AV))} {d:Nat} {v:TypeId×List AV},Hp.of L d=some v->(d,v)∈L
 | [],d,v,h=>by unfold Hp.of at h;cases h
 | (e,u)::r,d,v,h=>by
   unfold Hp.of at h;cases hb:Nat.beq d e with
   | true=>
     rw[hb] at h;cases h;rw[oD hb];simp
   | false=>
     rw[hb] at h;exact DK _ (Hp.jq h)
theorem ED.mem:∀ {L:List (Nat×AV)},ED F L->∀ d v,(d,v)∈L->F d=some v
 | p::r,h,d,v,hm=>by
   rcases eD.1 hm with e|e
   ·have:=h.1;rw[<-e] at this;exact this
   ·exact ED.mem h.2 d v e
theorem xB.mem:∀ {L:List (Nat×(TypeId×List AV))},xB H L->∀ d v,(d,v)∈L->H d=some v
 | p::r,h,d,v,hm=>by
   rcases eD.1 hm with e|e
   ·have:=h.1;rw[<-e] at this;exact this
   ·exact xB.mem h.2 d v e
theorem Hp.JZ:∀ {M:List (Nat×(TypeId×List AV))} {i:Nat},inM M i=true->Hp.of M i≠none
 | (e,u)::r,i,h=>by
   unfold Hp.of;cases hb:Nat.beq i e with
   | true=>simp
   | false=>
     unfold inM at h;rw[List.any_cons,hb] at h;exact Hp.JZ h
variable {β:Nat->Nat}
theorem Rel.narrow {a:Act} (hr:Rel C β F H a w) {L:List (Nat×AV)} {M:List (Nat×(TypeId×List AV))} (h1:ED F L) (h2:xB H M) (h3:JY L M=true) (h4:sV M M):Rel C β (Fr.of L) (Hp.of M) a w:=by
 have key:∀ i,Hp.of M i≠none->H i≠none:=λi hi=>by
  cases hh:Hp.of M i with
  | none=>exact absurd hh hi
  | some c=>rw[h2.mem i c (Hp.jq hh)];simp
 refine⟨hr.defers,hr.size,λd v h=>hr.tmp d v (h1.mem d v (Fr.jq h)),λi t cs h=>hr.own i t cs (h2.mem i _ (Hp.jq h)),λi j hi hj e=>hr.apart i j (key i hi) (key j hj) e,λd v h i hi=> ?_,λd v h=>hr.fits d v (h1.mem d v (Fr.jq h)),
  ⟨λi t cs h=>hr.hp.ok i t cs (h2.mem i _ (Hp.jq h)),λi t cs h j hj=>Hp.JZ (h4.mem _ (Hp.jq h) j hj),λi hi=> ?_⟩,hr.old⟩
 ·have:=eg.1 h3 _ (Fr.jq h);exact Hp.JZ (eg.1 this i hi)
 ·cases hh:Hp.of M i with
  | none=>rfl
  | some c=>exact absurd (hr.hp.few i hi) (key i (by rw[hh];simp))
theorem VS.narrow (L:List (Nat×AV)) (M:List (Nat×(TypeId×List AV))) (h1:ED F L) (h2:xB H M) (h3:JY L M=true) (h4:sV M M) (h:VS C Q k (Fr.of L) (Hp.of M) w):VS C Q k F H w:=
 λβ a w' hr hk=>h β a w' (hr.narrow h1 h2 h3 h4) hk
theorem VS.now (h:∀ w',bg C.K w w'->C.Old w'->VS C Q k F H w'):VS C Q k F H w:=λβ a w' hr hk=>h w' hk hr.old β a w' hr (bg.refl _ _)
theorem VS.skip (h:VS C Q k F H w):VS C Q (.code .skip::k) F H w:=λβ a w' hr hk=>wp_skip (h β a w' hr hk)
variable {x y:Code}
theorem VS.seq (h:VS C Q (.code x::.code y::k) F H w):VS C Q (.code (.seq x y)::k) F H w:=λβ a w' hr hk=>wp_seq (h β a w' hr hk)
variable {id:Nat}
theorem VS.block {c:Code} (h:VS C Q (.code c::.sm id::k) F H w):VS C Q (.code (.block id c)::k) F H w:=λβ a w' hr hk=>wp_block (h β a w' hr hk)
theorem VS.sm (h:VS C Q k F H w):VS C Q (.sm id::k) F H w:=h
variable {c:Operand}
theorem VS.cond {b:Bool} (hc:nS F c=some (.bool b)) (h:VS C Q (.code (bif b then x else y)::k) F H w):VS C Q (.code (.cond c x y)::k) F H w:=λβ a w' hr hk=>
 wp_cond (t:=b) (hr.nS hc) (by cases b <;> exact h β a w' hr hk)
theorem VS.condT (hc:nS F c=some (.bool true)) (h:VS C Q (.code x::k) F H w):VS C Q (.code (.cond c x y)::k) F H w:=VS.cond hc h
theorem VS.condF (hc:nS F c=some (.bool false)) (h:VS C Q (.code y::k) F H w):VS C Q (.code (.cond c x y)::k) F H w:=VS.cond hc h
theorem VS.condB {b:Bool} (b':Bool) (hc:nS F c=some (.bool b)) (hb:b=b') (h:VS C Q (.code (bif b' then x else y)::k) F H w):VS C Q (.code (.cond c x y)::k) F H w:=VS.cond hc (hb▸h)
theorem VS.aR {b:Bool} (hc:nS F c=some (.bool b)) (hb:b=true) (h:VS C Q (.code x::k) F H w):VS C Q (.code (.cond c x y)::k) F H w:=VS.condB true hc hb h
theorem VS.aO {b:Bool} (hc:nS F c=some (.bool b)) (hb:b=false) (h:VS C Q (.code y::k) F H w):VS C Q (.code (.cond c x y)::k) F H w:=VS.condB false hc hb h
theorem vd {P:Program} {id:Nat}:∀ {stk k:List It} {a:Act} {w:World},pop id stk=some k->post P Q k .normal a w->post P Q stk (.exit id) a w
 | .code _::s,k,a,w,h,hp=>vd (stk:=s) h hp
 | .back _::s,k,a,w,h,hp=>vd (stk:=s) h hp
 | .scope::s,k,a,w,h,hp=>vd (stk:=s) h hp
 | .sm i::s,k,a,w,h,hp=>by
   unfold pop at h;show Exit.inBlock i _ (.exit id) a w;unfold Exit.inBlock;cases hb:Nat.beq id i with
   | true=>
     rw[hb] at h;cases h;simp only;rw[if_pos (oD hb)];exact hp
   | false=>
     rw[hb] at h;simp only;rw[if_neg (λe=>by rw[e,Nat.beq_refl] at hb;cases hb)];exact vd (stk:=s) h hp
theorem VS.exit {k':List It} (hp:pop id k=some k') (h:VS C Q k' F H w):VS C Q (.code (.exit id)::k) F H w:=λβ a w' hr hk=>wp_exit (vd hp (h β a w' hr hk))
variable {ops:Array Oper}
theorem VS.region (hC:C.Ok) (h:aB C none ops ops.toList (VS C Q k) F H w):VS C Q (.code (.region id ops false)::k) F H w:=λβ a w' hr hk=>
 wp_region_list (xx hC (λβ F H w a w' h hr hk=>h β a w' hr hk) ops.toList β F H w a w' h hr hk)
theorem VS.draw (hC:C.Ok) (hm:C.P.follows .mixedOrders=true) (ml:List FuncId) (np:lI C.SU ml ops=true) (h:aB C (some ml) ops ops.toList (VS C Q k) F H w):VS C Q (.code (.region id ops true)::k) F H w:=λβ a w' hr hk=>
 JX hC hm np (λβ F H w a w' h hr hk=>h β a w' hr hk) h hr hk
theorem VS.EE (hC:C.Ok) (hm:C.P.follows .mixedOrders=true) (n:Nat) (hn:ops.size=n) (h:vc C [] ops n [] (VS C Q k) F H w):VS C Q (.code (.region id ops true)::k) F H w:=λβ a w' hr hk=>
 PE (ml:=[]) (K:=VS C Q k) hC hm (λβ F H w a w' h hr hk=>h β a w' hr hk) (by rw[hn];exact h) hr hk
def Entry (J:Nat->List (Nat×AV)->List (Nat×(TypeId×List AV))->World->Prop) (n:Nat) (F:Fr) (H:Hp) (w:World):Prop:=
 ∃ L M,ED F L/\xB H M/\JY L M=true/\sV M M/\J n L M w
def Held (C:Cx) (J:Nat->List (Nat×AV)->List (Nat×(TypeId×List AV))->World->Prop) (n:Nat) (a:Act) (w:World):Prop:=
 ∃ β L M w1,J n L M w1/\Rel C β (Fr.of L) (Hp.of M) a w/\bg C.K w1 w
variable {J:Nat->List (Nat×AV)->List (Nat×(TypeId×List AV))->World->Prop}
theorem VS.loop {body:Code} (n0:Nat) (h0:Entry J n0 F H w)
  (round:∀ n L M w,J n L M w->VS C Q (.code body::.back (λa w=>∃ m,m<n/\Held C J m a w)::k) (Fr.of L) (Hp.of M) w):VS C Q (.code (.loop body)::k) F H w:=λβ a w' hr hk=>by
 obtain⟨L,M,h1,h2,h3,h4,h5⟩:=h0;refine wp_loop_ghost (Held C J) n0 ⟨β,L,M,w,h5,hr.narrow h1 h2 h3 h4,hk⟩ ?_;rintro n a1 w1 ⟨yV,L1,M1,wl,hJ,qj,iy⟩;exact round n L1 M1 wl hJ yV a1 w1 qj iy
theorem VS.back {n:Nat} (m:Nat) (hm:m<n) (h:Entry J m F H w):VS C Q (.back (λa w=>∃ m,m<n/\Held C J m a w)::k) F H w:=λβ a w' hr hk=>by
 obtain⟨L,M,h1,h2,h3,h4,h5⟩:=h;exact⟨m,hm,β,L,M,w,h5,hr.narrow h1 h2 h3 h4,hk⟩
def ve (C:Cx) (F:Fr) (H:Hp):List ResultVar->Option (List AV)
 | []=>some []
 | .tmp t::r=>match F t,ve C F H r with|some v,some l=>(bif jm v then some (v::l) else none)|_,_=>none
 | .cell x t::r=>match F x,C.ti t,ve C F H r with
   | some (.box b off),some i,some l=>(match H b with
     | some (_,cs)=>bif Nat.ble (off+i.size) cs.length then ln ((cs.drop off).take i.size) (λq=>bif i.agg then TZ q (λv=>some (v::l)) else (match q with|x::_=>some (x::l)|[]=>none)) else none
     | none=>none)
   | _,_,_=>none
def nJ:List Value->Value
 | [v]=>v
 | l=>.tuple l.toArray
def Uj (tmps:Array Value):ResultVar->Sem Value
 | .tmp t=>pure (tmps.getD t undef)
 | .cell x t=>do loadVar t (<-asAddr (tmps.getD x undef))
theorem Aq (hC:C.Ok) {β:Nat->Nat} {a:Act} (hr:Rel C β F H a w):∀ {l:List ResultVar} {vs:List AV},ve C F H l=some vs->
  (l.mapM (Uj a.tmps)).run C.P w=.ok (vs.map (AV.bH β)) w
 | [],vs,h=>by cases h;rfl
 | .tmp t::r,vs,h=>by
   unfold ve at h
   split at h
   ·rename_i v l hv hl;cases hn:jm v with
    | false=>rw[hn] at h;cases h
    | true=>
      rw[hn] at h;cases h;have e1:a.tmps.getD t undef=v.bH β:=hr.tmp t v hv;have e2:(Uj a.tmps (.tmp t)).run C.P w=.ok (v.bH β) w:=by show (pure (a.tmps.getD t undef):Sem Value).run C.P w=_;rw[e1];rfl
      have:=Aq hC hr hl;simp only[List.mapM_cons,Sem.run_bind,e2,Result.andThen_ok,this,Sem.run_pure,List.map_cons]
   ·cases h
 | .cell x t::r,vs,h=>by
   unfold ve at h
   split at h
   ·rename_i b off i l hx hi hl
    split at h
    ·rename_i tb cs hb;cases hz:Nat.ble (off+i.size) cs.length with
     | false=>rw[hz] at h;cases h
     | true=>
       rw[hz,cond_true,eH] at h;have hle:=bF hz;have hlen:((cs.drop off).take i.size).length=i.size:=by rw[cw,Bd];omega
       have mQ:((cs.drop off).take i.size).all bO=true:=eg.2 λy hy=>eg.1 (hr.own b tb cs hb).ok y (uB (mU hy))
       have Ud:vs=rI i ((cs.drop off).take i.size)::l:=by
        unfold rI;cases hg:i.agg with
        | true=>rw[hg,cond_true,ql] at h;cases h;rfl
        | false=>
          rw[hg,cond_false] at h
          split at h
          ·rename_i y q hq;cases h;rw[hq];rfl
          ·cases h
       subst Ud;have e1:a.tmps.getD x undef=.pointer (some ⟨β b,off,none⟩):=hr.tmp x _ hx
       have hsub:∀ j u,((cs.drop off).take i.size)[j]? =some u->cs[off+j]? =some u:=λj u hj=>by
        rw[AY] at hj
        split at hj
        ·rwa [uD] at hj
        ·cases hj
       have e2:=ke (hC t i hi) ⟨β b,off,none⟩ (((cs.drop off).take i.size).map (AV.leaf β)) (by rw[bJ,hlen]) w (Ai hr hb hsub)
       have e3:(Uj a.tmps (.cell x t)).run C.P w=.ok ((rI i ((cs.drop off).take i.size)).bH β) w:=by
        unfold Uj;rw[xr (hC t i hi) hlen mQ];simp only[e1,asAddr,Sem.run_bind,Sem.run_pure,Result.andThen_ok,e2]
       have:=Aq hC hr hl;simp only[List.mapM_cons,Sem.run_bind,e3,Result.andThen_ok,this,Sem.run_pure,List.map_cons]
    ·cases h
   ·cases h
variable {vs:List AV}
theorem MI (hC:C.Ok) {a:Act} (hr:Rel C β F H a w) {fn:Func} (h:ve C F H fn.results.toList=some vs):(results fn a.tmps).run C.P w=.ok (nJ (vs.map (AV.bH β))) w:=by
 have h1:=Aq hC hr h;have h2:results fn a.tmps=(do let vs <-fn.results.toList.toArray.mapM (Uj a.tmps);pure (if h:vs.size=1 then vs[0] else .tuple vs):Sem Value):=aa;rw[h2,List.mapM_toArray,Sem.run_bind]
 have h3:(List.toArray <$>fn.results.toList.mapM (Uj a.tmps):Sem (Array Value)).run C.P w=.ok (vs.map (AV.bH β)).toArray w:=by
  rw[<-bind_pure_comp];simp only[Sem.run_bind,h1,Result.andThen_ok,Sem.run_pure]
 rw[h3,Result.andThen_ok,Sem.run_pure]
 congr 1
 cases vs with
 | nil=>rfl
 | cons v r=>cases r <;> simp[nJ]
structure Ends (C:Cx) (β:Nat->Nat) (H:Hp) (w:World):Prop where
 own:∀ i t cs,H i=some (t,cs)->nX C β w i t cs
 apart:∀ i j,H i≠none->H j≠none->β i=β j->i=j
variable {R:Ending->World->Prop}
theorem EF (hC:C.Ok) {fn:Func} (h:ve C F H fn.results.toList=some vs) (hR:∀ w' β,bg C.K w w'->C.Old w'->Ends C β H w'->R (.returned (nJ (vs.map (AV.bH β)))) w'):∀ β a w',Rel C β F H a w'->bg C.K w w'->bodyPost C.P fn R .ret a w':=
 λβ a w' hr hk=>⟨hr.defers,_,MI hC hr h,hR w' β hk hr.old ⟨hr.own,hr.apart⟩⟩
variable {us:List Value}
theorem fin_ret (hC:C.Ok) {fn:Func} (h:ve C F H fn.results.toList=some vs) (hv:jl vs=some us) (hR:∀ w',bg C.K w w'->C.Old w'->R (.returned (nJ us)) w'):∀ β a w',Rel C β F H a w'->bg C.K w w'->bodyPost C.P fn R .ret a w':=
 EF hC h λw' β h1 h2 _=>by
  rw[ng hv,iV];exact hR w' h1 h2
theorem rN {P:Program}:∀ {stk:List It} {a:Act} {w:World},Q .ret a w->post P Q stk .ret a w
 | [],_,_,h=>h
 | .code _::s,_,_,h=>rN (stk:=s) h
 | .sm _::s,_,_,h=>rN (stk:=s) h
 | .back _::s,_,_,h=>rN (stk:=s) h
 | .scope::s,_,_,h=>rN (stk:=s) h
theorem VS.ret (hC:C.Ok) {fn:Func} (h:ve C F H fn.results.toList=some vs) (hv:jl vs=some us) (hR:∀ w',bg C.K w w'->C.Old w'->R (.returned (nJ us)) w'):VS C (bodyPost C.P fn R) (.code .ret::k) F H w:=
 λβ a w' hr hk=>wp_ret (rN (fin_ret hC h hv hR β a w' hr hk))
theorem VS.lJ (hC:C.Ok) {fn:Func} (h:ve C F H fn.results.toList=some vs) (hR:∀ w' β,bg C.K w w'->C.Old w'->Ends C β H w'->R (.returned (nJ (vs.map (AV.bH β)))) w'):VS C (bodyPost C.P fn R) (.code .ret::k) F H w:=
 λβ a w' hr hk=>wp_ret (rN (EF hC h hR β a w' hr hk))
def Fr.args:Nat->List Value->Fr
 | _,[]=>λ_=>none
 | k,v::r=>λn=>bif Nat.beq n k then some (.val v) else Fr.args (k+1) r n
theorem Fr.args_at:∀ (l:List Value) (k n:Nat) (v:AV),Fr.args k l n=some v->∃ u,v=.val u/\k<=n/\l[n-k]? =some u
 | [],k,n,v,h=>by cases h
 | x::r,k,n,v,h=>by
   unfold Fr.args at h;cases hb:Nat.beq n k with
   | true=>
     rw[hb] at h;cases h;have e:=oD hb;exact⟨x,aa,ae,by rw[e];simp⟩
   | false=>
     rw[hb] at h;obtain⟨u,h1,h2,h3⟩:=Fr.args_at r (k+1) n v h;refine⟨u,h1,ae,?_⟩;rw[show n-k=(n-(k+1))+1 by omega];simpa using h3
theorem ai {f:FuncId} {fn:Func} {c:Code} {args:List Value} (hf:C.P.funcs[f]? =some fn) (hb:fn.body=some c) (hN:fn.ntmps=C.N) (ha:args.length<=C.N)
  (h:VS C (bodyPost C.P fn R) [.code c] (Fr.args 0 args) (λ_=>none) C.w0):Calls C.P f args.toArray C.w0 R:=by
 refine calls_of_wp hf hb ?_;refine h (λ_=>0) _ C.w0 ⟨aa,?_,λd v hd=> ?_,λi t cs hi=>(by cases hi),λi j hi=>absurd aa hi,λd v hd i hi=> ?_,λd v hd=> ?_,⟨λi t cs hi=>(by cases hi),λi t cs hi=>(by cases hi),λi hi=>aa⟩,C.vJ⟩ (bg.refl _ _)
 ·simp[hN];omega
 ·obtain⟨u,rfl,_,h2⟩:=Fr.args_at args 0 d v hd;rw[Nat.sub_zero] at h2;show (args.toArray++_).getD d undef=u;have hlt:=(cM.1 h2).1;rw[lX,Array.getElem?_append_left (by simpa using hlt)];simp[h2]
 ·obtain⟨u,rfl,_⟩:=Fr.args_at args 0 d _ hd;cases hi
 ·obtain⟨u,rfl,_,h2⟩:=Fr.args_at args 0 d _ hd;rw[Nat.sub_zero] at h2;have:=(cM.1 h2).1;omega
variable {m:Option (List FuncId)} {full:Array Oper} {K:Fr->Hp->World->Prop} {o:Oper} {r:List Oper}
theorem VO.nil (h:K F H w):aB C m full [] K F H w:=h
def jJ (C:Cx) (full:Array Oper):Nat->List Oper->Fr->Hp->List Oper×Fr×Hp
 | 0,l,F,H=>(l,F,H)
 | _+1,[],F,H=>([],F,H)
 | n+1,o::r,F,H=>match o.guard with
   | some _=>(o::r,F,H)
   | none=>match stepOf C full F H o with
     | .gM v u=>jJ C full n r (F.dw o.dst v) (H.upd u)
     | _=>(o::r,F,H)
theorem EG:∀ (n:Nat) {l:List Oper} {F:Fr} {H:Hp},aB C m full (jJ C full n l F H).1 K (jJ C full n l F H).2.1 (jJ C full n l F H).2.2 w->aB C m full l K F H w
 | 0,_,_,_,h=>h
 | _+1,[],_,_,h=>h
 | n+1,o::r,F,H,h=>by
   unfold jJ at h;show one C m full o (aB C m full r K) F H w;cases hg:o.guard with
   | some g=>rw[hg] at h;exact h
   | none=>
     rw[hg] at h;cases hs:stepOf C full F H o with
     | gM v u=>rw[hs] at h;unfold one;rw[hs];exact EG n h
     | bad=>rw[hs] at h;exact h
     | read i a=>rw[hs] at h;exact h
     | mv i cs off=>rw[hs] at h;exact h
     | cond φ v u=>rw[hs] at h;exact h
     | call d=>rw[hs] at h;exact h
variable {l:List Oper}
theorem VO.run (n:Nat) {l':List Oper} {F':Fr} {H':Hp} (e:jJ C full n l F H=(l',F',H')) (h:aB C m full l' K F' H' w):aB C m full l K F H w:=
 EG n (by rw[e];exact h)
theorem VA.cons {p:Nat->Prop} {l r:List Nat} {i:Nat} (e:l=i::r) (h1:p i) (h2:MF r p):MF l p:=by rw[e];exact⟨h1,h2⟩
theorem VA.nil {p:Nat->Prop} {l:List Nat} (e:l=[]):MF l p:=by rw[e];exact aj
variable {ml:List FuncId} {done:List Nat}
theorem VA.go {f:Nat} {i:Nat} {l:List Nat} (e:rdy full done=i::l) (h:MF (i::l) λi=>match full[i]? with|some o=>one C (some ml) full o (vc C ml full f (i::done) K) F H w|none=>False):vc C ml full (f+1) done K F H w:=by
 unfold vc;rw[e];exact h
theorem VA.fin {f:Nat} (e:rdy full done=[]) (h:K F H w):vc C ml full f done K F H w:=by
 cases f with
 | zero=>exact h
 | succ f=>unfold vc;rw[e];exact h
variable {v:AV} {u:Option (Nat×(TypeId×List AV))}
theorem VO.op1 (e:stepOf C full F H o=.gM v u) (h:aB C m full r K (F.dw o.dst v) (H.upd u) w):aB C m full (o::r) K F H w:=by
 show one C m full o (aB C m full r K) F H w;unfold one;rw[e];exact h
variable {v':AV}
theorem VO.fix (d:Nat) (hF:F d=some v) (e:v=v') (h:aB C m full l K (F.put d v') H w):aB C m full l K F H w:=by
 have:F.put d v'=F:=by
  funext n
  rw[Fr.eT];by_cases hn:n=d
  ·rw[if_pos hn,hn,hF,e]
  ·rw[if_neg hn]
 rw[this] at h;exact h
theorem VS.fix (d:Nat) (hF:F d=some v) (e:v=v') (h:VS C Q k (F.put d v') H w):VS C Q k F H w:=by
 have:F.put d v'=F:=by
  funext n
  rw[Fr.eT];by_cases hn:n=d
  ·rw[if_pos hn,hn,hF,e]
  ·rw[if_neg hn]
 rw[this] at h;exact h
variable {cs:List AV} {t:TypeId}
theorem VO.Co (i:Nat) {jU:List AV} (hH:H i=some (t,cs)) (e:cs=jU) (h:aB C m full l K F (H.put i (t,jU)) w):aB C m full l K F H w:=by
 have:H.put i (t,jU)=H:=by
  funext n
  rw[Hp.eT];by_cases hn:n=i
  ·rw[if_pos hn,hn,hH,e]
  ·rw[if_neg hn]
 rw[this] at h;exact h
theorem GH.none {ids:List Nat} {w1 w2:World} (h:aD w1 w2):GH C β β H ids none [] w1 w2:=
 ⟨h.os,h.tape,h.output,h.size,λb hb _ _ _=>tZ h b hb,λ_ _=>rfl,λi hi=>(by cases hi),λi hi=>(by cases hi),λx hx=>(by cases hx),λx hx=>(by cases hx),List.nodup_nil,λx hx=>(by cases hx),λx hx=>(by cases hx)⟩
variable {d:rH}
theorem VO.IG (e:stepOf C full F H o=.call d)
  (h:∀ w1 β,bg C.K w w1->C.Old w1->nd C β H d.ids w1->Ae C.P d β w1 λe w2=>∃ v,e=.returned v/\aD w1 w2/\(bg C.K w w2->bg C.K w1 w2->C.Old w2->aB C m full r K (F.dw o.dst (.val v)) H w2)):aB C m full (o::r) K F H w:=by
 show one C m full o (aB C m full r K) F H w;unfold one;rw[e];refine λw1 β h1 h2 h3=>(h w1 β h1 h2 h3).mono ?_;rintro e w2 ⟨v,rfl,hb,hv⟩;exact⟨β,.val v,none,[],aa,λi hi=>(by cases hi),.inr aa,.inr aa,GH.none hb,λa b c _ _=>hv a b c⟩
variable {g:FuncId}
theorem VO.call {args:List AV} {vs:List Value} (e:stepOf C full F H o=.call (.fn g args)) (hv:jl args=some vs) (hf:nL C.P g)
  (h:∀ w1,bg C.K w w1->C.Old w1->Calls C.P g vs.toArray w1 λe w2=>∃ v,e=.returned v/\aD w1 w2/\(bg C.K w w2->bg C.K w1 w2->C.Old w2->aB C m full r K (F.dw o.dst (.val v)) H w2)):aB C m full (o::r) K F H w:=by
 refine VO.IG e λw1 β h1 h2 _=>⟨hf,?_⟩;rw[ng hv,iV];exact h w1 h1 h2
theorem VO.eX {args:List AV} (e:stepOf C full F H o=.call (.fn g args)) (hf:nL C.P g)
  (h:∀ w1 β,bg C.K w w1->C.Old w1->nd C β H (gl args) w1->Calls C.P g (args.map (AV.bH β)).toArray w1 λe w2=>∃ v,e=.returned v/\aD w1 w2/\(bg C.K w w2->bg C.K w1 w2->C.Old w2->aB C m full r K (F.dw o.dst (.val v)) H w2)):aB C m full (o::r) K F H w:=
 VO.IG e λw1 β h1 h2 h3=>⟨hf,h w1 β h1 h2 h3⟩
theorem VO.IH {args:List AV} (e:stepOf C full F H o=.call (.fn g args)) (hf:nL C.P g)
  (h:∀ w1 β,bg C.K w w1->C.Old w1->nd C β H (gl args) w1->Calls C.P g (args.map (AV.bH β)).toArray w1 λe w2=>∃ v:AV,e=.returned (v.bH β)/\(∀ i∈v.ids,i∈gl args/\H i≠none)/\aD w1 w2/\(bg C.K w w2->bg C.K w1 w2->C.Old w2->aB C m full r K (F.dw o.dst v) H w2)):aB C m full (o::r) K F H w:=by
 show one C m full o (aB C m full r K) F H w;unfold one;rw[e];refine λw1 β h1 h2 h3=>⟨hf,(h w1 β h1 h2 h3).mono ?_⟩;rintro e w2 ⟨v,rfl,hi,hb,hv⟩;exact⟨β,v,none,[],aa,λi xu=>.inr ⟨.base (hi i xu).1,(hi i xu).2,cZ⟩,.inr aa,.inr aa,GH.none hb,λa b c _ _=>hv a b c⟩
def Yn (C:Cx) (t:TypeId) (sz B:Nat) (w:World) (v:Value) (n:Nat) (xs:List Value):Prop:=
 (v=.slice none 0 0/\n=0/\xs=[])\/∃ b c spare,v=.slice (some ⟨b,0,none⟩) n c/\B<=b/\cN w b t (xs++spare).toArray/\xs.all cJ=true/\spare.all cJ=true/\n<=c/\c<=9223372036854775807/\(xs++spare).length=c*sz
theorem VO.callN {dst n sz:Nat} {xs:List Value} (e:stepOf C full F H o=.call d) (hd:o.dst=some dst) (h0:H dst=none) (hN:dst<C.N) (hl:1<=lvl C.SU m o) (ht:C.K.fz t=false)
  (h:∀ w1 β,bg C.K w w1->C.Old w1->nd C β H d.ids w1->Ae C.P d β w1 λe w2=>∃ v,e=.returned v/\aD w1 w2/\Yn C t sz w1.heap.size w2 v n xs/\
   (bg C.K w w2->bg C.K w1 w2->C.Old w2->v=.slice none 0 0->aB C m full r K (F.dw o.dst (.val (.slice none 0 0))) H w2)/\
   (∀ c spare,bg C.K w w2->bg C.K w1 w2->C.Old w2->(∃ b,v=.slice (some ⟨b,0,none⟩) n c)->spare.all cJ=true->n<=c->c<=9223372036854775807->(xs++spare).length=c*sz->aB C m full r K (F.dw o.dst (.row dst 0 n c)) (H.put dst (t,(xs++spare).map .val)) w2)):aB C m full (o::r) K F H w:=by
 show one C m full o (aB C m full r K) F H w;unfold one;rw[e];refine λw1 β h1 h2 h3=>(h w1 β h1 h2 h3).mono ?_;rintro e w2 ⟨v,rfl,hb,hn,k1,k2⟩;rcases hn with ⟨rfl,rfl,rfl⟩|⟨b,c,spare,rfl,q1,q2,q3,q4,q5,q6,q7⟩
 ·exact⟨β,.val (.slice none 0 0),none,[],aa,λi hi=>(by cases hi),.inr aa,.inr aa,GH.none hb,λa b c _ _=>k1 a b c aa⟩
 ·let dQ:Nat->Nat:=λi=>if i=dst then b else β i
  have yM:dQ dst=b:=if_pos aa;have mQ:((xs++spare).map AV.val).all bO=true:=dx (by rw[kW,q3,q4];rfl);refine⟨dQ,.row dst 0 n c,none,[(dst,(t,(xs++spare).map .val))],?_,λi hi=>.inl (by simpa [AV.ids] using hi),.inl hl,.inr aa,?_,λa1 a2 a3 _ _=>k2 c spare a1 a2 a3 ⟨b,aa⟩ q4 q5 q6 q7⟩
  ·show Ending.returned _=.returned (Value.slice (some ⟨dQ dst,0,none⟩) n c);rw[yM]
  ·refine⟨hb.os,hb.tape,hb.output,hb.size,λk hk _ _ _=>tZ hb k hk,λi hi=>if_neg (by simpa using hi),λi hi=>(by cases hi),λi hi=>(by cases hi),λx hx=> ?_,λx hx=> ?_,cZ,λx hx y hy _=> ?_,λx hx j hj=> ?_⟩
   ·cases ay.1 hx;refine⟨by rw[yM];exact C.BB _ _ ae (by have:=C.ll _ h2;omega),ht,?_,mQ⟩;rw[yM,aV];exact q2
   ·cases ay.1 hx;exact .inr ⟨.inl h0,ae,.inl (by rw[yM];exact q1)⟩
   ·cases ay.1 hx;cases ay.1 hy;rfl
   ·cases ay.1 hx;rw[ah] at hj;cases hj
variable {a:Addr} {i:TI}
theorem VO.read (e:stepOf C full F H o=.read i a) (cs:List Value) (hl:cs.length=i.size)
  (hc:∀ j u,cs[j]? =some u->C.w0.cell? (a.add j)=some u) (h:aB C m full r K (F.dw o.dst (.val (qT i cs))) H w) (hn:∀ i g,C.Cl i g->C.w0.heap.size<=g:=by exact λ_ _ h=>h):aB C m full (o::r) K F H w:=by
 show one C m full o (aB C m full r K) F H w;unfold one;rw[e];exact⟨cs,hl,.inl λj u hj w1 De=>C.RZ w1 _ u De (λi hi=>absurd (Hf C.w0 _ (hc j u hj)) (Nat.not_lt.2 (hn _ _ hi))) (hc j u hj),h⟩
theorem VO.Yo (e:stepOf C full F H o=.read i a) (cs:List Value) (hl:cs.length=i.size)
  (hc:∀ j u,cs[j]? =some u->C.At (a.add j) u) (h:aB C m full r K (F.dw o.dst (.val (qT i cs))) H w):aB C m full (o::r) K F H w:=by
 show one C m full o (aB C m full r K) F H w;unfold one;rw[e];exact⟨cs,hl,.inl hc,h⟩
theorem VO.mv {off:Nat} (e:stepOf C full F H o=.mv i cs off) (vs:List AV) (hl:vs.length=i.size)
  (hc:∀ j u,vs[j]? =some u->cs[off+j]? =some u) (h:aB C m full r K (F.dw o.dst (rI i vs)) H w):aB C m full (o::r) K F H w:=by
 show one C m full o (aB C m full r K) F H w;unfold one;rw[e];exact⟨vs,hl,hc,h⟩
theorem VO.cond {φ:Prop} (e:stepOf C full F H o=.cond φ v u) (Pu:φ) (h:aB C m full r K (F.dw o.dst v) (H.upd u) w):aB C m full (o::r) K F H w:=by
 show one C m full o (aB C m full r K) F H w;unfold one;rw[e];exact⟨Pu,h⟩
end
theorem Ar (z:Value) (n:Nat):∃ vs:List Value,Builtin.zeroCells z.cells n=vs.toArray/\vs.length=n*z.cells.size/\(z.cells.toList.all cJ=true->vs.all cJ=true):=by
 refine⟨(Builtin.zeroCells z.cells n).toList,cZ,by simp[Builtin.zeroCells],λh=> ?_⟩;unfold Builtin.zeroCells;rw[rz,Array.toList_range];refine eg.2 λx hx=> ?_;obtain⟨i,hi,rfl⟩:=eG.1 hx
 have hp:0<z.cells.size:=by
  rcases oH z.cells.size with e|e
  ·rw[e,pY] at hi;simp at hi
  ·exact e
 have hlt:=fY i hp;have:z.cells[i%z.cells.size]! =z.cells[i%z.cells.size]:=by simp[hlt]
 rw[this];exact eg.1 h _ cZ
section
variable {C:Cx} {F:Fr} {H:Hp} {w:World} {m:Option (List FuncId)} {full:Array Oper} {K:Fr->Hp->World->Prop} {o:Oper} {r:List Oper}
variable {base src:AV} {known spare news:List AV} {c mm dst:Nat} {x y:Operand} {del:Option Nat} {it ie:TI} {t:TypeId}
theorem VO.appG (hC:C.Ok) {e:TypeId} {sz n:Nat}
  (e0:stepOf C full F H o=.call (.op o [base,src])) (ho:o.op=.call { callee:=.builtin .append,args:=#[x,y],argTypes:=#[t,t] })
  (yW:C.ti t=some it) (iq:it.elem=some (e,sz)) (Dm:C.ti e=some ie) (hU:C.K.fz e=false) (hzo:ie.zero.cells.toList.all cJ=true)
  (hd:o.dst=some dst) (hN:dst<C.N) (hl:lvl C.SU m o=2)
  (ud:((base=.val (.slice none 0 0)/\n=0/\c=0/\known=[]/\spare=[]/\del=none/\0<mm)\/∃ i,base=.row i 0 n c/\H i=some (e,known++spare)/\del=some i)\/∃ (b off:Nat) (ks:List Value),base=.val (.slice (some ⟨b,off,none⟩) n c)/\c=n/\known=ks.map .val/\spare=[]/\del=none/\0<mm/\∀ w1,bg C.K w w1->C.Old w1->∀ j u,ks[j]? =some u->w1.cell? ⟨b,off+j,none⟩=some u)
  (jV:H dst=none\/del=some dst) (hk:known.length=n*sz) (hsp:(known++spare).length=c*sz) (eS:n<=c) (gv:c<=9223372036854775807)
  (jK:bM known=[]/\bM spare=[]/\bM news=[]) (mQ:known.all bO=true/\spare.all bO=true/\news.all bO=true) (nY:news.length=mm*sz) (lh:(n+mm)*(24*sz)<=140737488355328)
  (Yp:∀ w1 β,bg C.K w w1->C.Old w1->nd C β H (gl [base,src]) w1->∃ p cc,src.bH β=.slice p mm cc/\(mm=0\/∃ b off,p=some ⟨b,off,none⟩/\∀ j u,(news.map (AV.leaf β))[j]? =some u->w1.cell? ⟨b,off+j,none⟩=some u))
  (hK:∀ w2 cap bP ρ,bg C.K w w2->C.Old w2->(∀ x,cJ (ρ x)=true)->n+mm<=cap->cap<=9223372036854775807->((known++news)++bP).length=cap*sz->bP.all bO=true->bM bP=[]->
   aB C m full r K ((F.forget del ρ).dw o.dst (.row dst 0 (n+mm) cap)) ((H.forget del ρ).put dst (e,(known++news)++bP)) w2):aB C m full (o::r) K F H w:=by
 show one C m full o (aB C m full r K) F H w;unfold one;rw[e0];intro w1 β h1 h2 h3;obtain⟨hu,hsz⟩:=(hC t it yW).isSlice e sz iq;have Uk:=hC e ie Dm;cases Cm:C.P.info? e with
 | none=>have:=Uk.size;rw[Cm] at this;simp at this
 | some ti=>
   have Cp:ti.size=ie.size:=by have:=Uk.size;rw[Cm] at this;simpa using this
   have sH:ti.zero=some ie.zero:=by have:=Uk.Mc;rw[Cm] at this;simpa using this
   have aU:ti.bytes<=24*ie.size:=bF (by have:=Uk.bytes;rw[Cm] at this;simpa using this)
   have Yq:sz=ti.size:=by
    have:=hsz w1;simp[sizeOf,typeInfo,Cm] at this;exact this.symm
   have JD:0<sz:=by rw[Yq,Cp];exact Uk.pos
   have WG:ie.zero.cells.size=sz:=by rw[Uk.Ep,Yq,Cp]
   have hcap:n+mm<=140737488355328:=by
    have:(n+mm)*24<=(n+mm)*(24*sz):=lZ _ ae;omega
   have Tv:(n+mm)*ti.bytes<=140737488355328:=bG (lZ _ (by rw[Yq,Cp];exact aU)) lh;obtain⟨p,cc,hsc,hsp2⟩:=Yp w1 β h1 h2 h3
   have hS:Src C.P ti.size t (.slice p mm cc) mm (news.map (AV.leaf β)) w1:=by
    have PD:∀ u∈news.map (AV.leaf β),u.oneCell'=true:=λu hu=>Er (eg.1 (gw (β:=β) mQ.2.2) u hu);rcases hsp2 with rfl|⟨b,off,rfl,hc⟩
    ·have:news=[]:=rp (by simpa using nY);subst this;cases p with
     | none=>exact Src.ofNil w1 hu cc
     | some a=>exact Src.ofSlice w1 hu a 0 cc [] cZ (λj u hj=>by simp at hj) PD
    ·refine Src.ofSlice w1 hu ⟨b,off,none⟩ mm cc _ (by rw[bJ,nY,Yq]) (λj u hj=> ?_) PD;rw[Addr.add_mid];exact hc j u hj
   have heval:∀ ρ:Operand->Value,o.op.operands.toList.map ρ=[base,src].map (AV.bH β)->ρ x=base.bH β/\ρ y=.slice p mm cc:=λρ h=>by
    rw[ho] at h;simp[Op.operands,Call.operands] at h;exact⟨h.1,h.2.trans hsc⟩
   have hrun:∀ {v:Value} {w2:World},(Builtin.append_ #[t,t] o.type #[base.bH β,.slice p mm cc]).run C.P w1=.ok v w2->∀ ρ:Operand->Value,o.op.operands.toList.map ρ=[base,src].map (AV.bH β)->(execOp ρ o).run C.P w1=.ok (.value v) w2:=λ{v w2} hv ρ gH=>by
    obtain⟨q1,q2⟩:=heval ρ gH;unfold execOp;simp only[ho,resolve,invoke,builtin,Sem.run_bind,Sem.run_pure,Result.andThen_ok,List.map_toArray,List.map_cons,List.map_nil,q1,q2,hv]
   have hg:∀ i,del=some i->Reach H (gl [base,src]) i/\H i≠none:=λi hi=>by
    rcases ud with (⟨_,_,_,_,_,e,_⟩|⟨i',rfl,hH,e⟩)|⟨_,_,_,_,_,_,_,e,_⟩
    ·rw[e] at hi;cases hi
    ·rw[e] at hi;cases hi;exact⟨.base (by simp[gl,AV.ids]),by rw[hH];simp⟩
    ·rw[e] at hi;cases hi
   have fin:∀ (w2:World) (b cap:Nat) (bP:List AV),(∀ ρ:Operand->Value,o.op.operands.toList.map ρ=[base,src].map (AV.bH β)->(execOp ρ o).run C.P w1=.ok (.value (.slice (some ⟨b,0,none⟩) (n+mm) cap)) w2)->
     w2.os=w1.os->w2.tape=w1.tape->w2.output=w1.output->w1.heap.size<=w2.heap.size->(∀ q,q<w1.heap.size->q≠b->w2.heap[q]? =w1.heap[q]?)->(w1.heap.size<=b\/∃ i,del=some i/\b=β i)->
     n+mm<=cap->cap<=9223372036854775807->((known++news)++bP).length=cap*sz->bP.all bO=true->bM bP=[]->cN w2 b e (((known++news)++bP).map (AV.leaf β)).toArray->
     Ae C.P (.op o [base,src]) β w1 λe w2=>∃ dQ r' del ups,e=.returned (r'.bH dQ)/\(∀ i∈r'.ids,i∈ups.map (·.1)\/(Reach H (rH.op o [base,src]).ids i/\H i≠none/\del≠some i))/\(1<=lvl C.SU m o\/ups=[])/\(2<=lvl C.SU m o\/del=none)/\
      GH C β dQ H (rH.op o [base,src]).ids del ups w1 w2/\(bg C.K w w2->bg C.K w1 w2->C.Old w2->∀ ρ,(∀ x,cJ (ρ x)=true)->aB C m full r K ((F.forget del ρ).dw o.dst r') ((H.forget del ρ).jk ups) w2):=by
    intro w2 b cap bP hrun q1 q2 q3 q4 q5 q6 q7 q8 q9 EH Ka PF
    let dQ:Nat->Nat:=λi=>if i=dst then b else β i
    have yM:dQ dst=b:=if_pos aa;have sL:((known++news)++bP).all bO=true:=by simp only[List.all_append,mQ.1,mQ.2.2,EH];rfl
    have hlids:bM ((known++news)++bP)=[]:=by rw[iW,iW,jK.1,jK.2.2,Ka];rfl
    have rO:C.Cl dst b:=by
     rcases q6 with e|⟨i,hi,e⟩
     ·exact C.BB _ _ ae (by have:=C.ll _ h2;omega)
     ·obtain⟨g1,g2⟩:=hg i hi;cases hh:H i with
      | none=>exact absurd hh g2
      | some c'=>rw[e];exact C.newMv i dst _ (h3.own i g1 c'.1 c'.2 hh).new ae
    have Ih:∀ i,del=some i->w2.heap[β i]? =w1.heap[β i]?\/∃ x∈[(dst,(e,(known++news)++bP))],dQ x.1=β i:=λi hi=>by
     by_cases e':β i=b
     ·exact .inr ⟨_,ay.2 aa,yM.trans e'.symm⟩
     ·obtain⟨g1,g2⟩:=hg i hi;cases hh:H i with
      | none=>exact absurd hh g2
      | some c'=>exact .inl (q5 _ (h3.own i g1 c'.1 c'.2 hh).cls.lt e')
    refine⟨_,w2,λρ gH=>.inl (hrun ρ gH),dQ,.row dst 0 (n+mm) cap,del,[(dst,(e,(known++news)++bP))],?_,λi hi=>.inl (by simpa [AV.ids] using hi),.inl ae,.inl ae,?_,λa1 a2 a3 ρ gH=>hK w2 cap bP ρ a1 a3 gH q7 q8 q9 EH Ka⟩
    ·show Ending.returned _=.returned (Value.slice (some ⟨dQ dst,0,none⟩) (n+mm) cap);rw[yM]
    ·refine⟨q1,q2,q3,q4,λk hk hx Ck _=>q5 k hk (by have:=hx _ (ay.2 aa);simpa [yM] using this),λi hi=>if_neg (by simpa using hi),hg,λi hi=>(Ih i hi).imp .inl id,λx hx=> ?_,λx hx=> ?_,cZ,λx hx y hy _=> ?_,λx hx j hj=> ?_⟩
     ·cases ay.1 hx;refine⟨by rw[yM];exact rO,hU,?_,sL⟩;rw[yM,nc (β:=β) (λi hi=>by rw[hlids] at hi;cases hi)];exact PF
     ·cases ay.1 hx;refine .inr ⟨jV,ae,?_⟩;rcases q6 with e|⟨i,hi,e⟩
      ·exact .inl (by rw[yM];exact e)
      ·exact .inr ⟨i,hi,by rw[yM];exact e⟩
     ·cases ay.1 hx;cases ay.1 hy;rfl
     ·cases ay.1 hx;rw[hlids] at hj;cases hj
   have grow:c<n+mm->(∃ bp,base.bH β=.slice bp n c/\(Builtin.firstCells ti.size n (.slice bp n c)).run C.P w1.drew=.ok (known.map (AV.leaf β)).toArray w1.drew)->Ae C.P (.op o [base,src]) β w1 λe w2=>∃ dQ r' del ups,e=.returned (r'.bH dQ)/\(∀ i∈r'.ids,i∈ups.map (·.1)\/(Reach H (rH.op o [base,src]).ids i/\H i≠none/\del≠some i))/\(1<=lvl C.SU m o\/ups=[])/\(2<=lvl C.SU m o\/del=none)/\
      GH C β dQ H (rH.op o [base,src]).ids del ups w1 w2/\(bg C.K w w2->bg C.K w1 w2->C.Old w2->∀ ρ,(∀ x,cJ (ρ x)=true)->aB C m full r K ((F.forget del ρ).dw o.dst r') ((H.forget del ρ).jk ups) w2):=by
    rintro Ym ⟨bp,hbp,hfc⟩;have hr:=run_append_grow_src (P:=C.P) w1 t t o.type e ti ie.zero hu Cm sH bp n c (known.map (AV.leaf β)) hfc (.slice p mm cc) mm (news.map (AV.leaf β)) hS Ym ae (growslice_fits Ym Tv);obtain⟨zs,uN,hz3,hz4⟩:=Ar ie.zero (grownCap w1 (n+mm) c e-(n+mm));have PG:=grownCap_ge w1 (n+mm) c e;have hle:=grownCap_le_maxLen w1 (n+mm) c e (by simp only[maxLen];omega);rw[uN] at hr;have Yr:aD w1 (w1.drew.alloc (.cells ((known.map (AV.leaf β)++news.map (AV.leaf β)).toArray++zs.toArray) e)):=(aD.refl w1).drew.alloc _;refine fin _ w1.heap.size (grownCap w1 (n+mm) c e) (zs.map .val) (hrun (by rw[hbp];exact hr)) Yr.os Yr.tape Yr.output Yr.size (λq hq _=>tZ Yr q hq) (.inl (bl _)) PG (by simpa [maxLen] using hle) ?_ (dx (hz4 hzo)) (ah zs) ?_
    ·rw[fH,fH,bJ,hk,nY,hz3,WG,<-ff,<-ff]
     congr 1
     omega
    ·have:(((known++news)++zs.map AV.val).map (AV.leaf β)).toArray=(known.map (AV.leaf β)++news.map (AV.leaf β)).toArray++zs.toArray:=by
      rw[aQ,aQ,aV];apply Array.ext';rw[Array.toList_append]
     rw[this];exact cN.newAt (w:=w1.drew) aa _ _
   rcases ud with (⟨rfl,rfl,rfl,rfl,rfl,rfl,Ik⟩|⟨i,rfl,hH,rfl⟩)|⟨b,off,ks,rfl,rfl,rfl,rfl,rfl,Ik,hcell⟩
   ·refine grow ae ⟨none,aa,?_⟩;exact run_firstCells_none w1.drew ti.size 0 0 0
   ·obtain⟨g1,g2,g3,g4⟩:=h3.own i (.base (uC _ (ay.2 aa))) e _ hH;by_cases hroom:n+mm<=c
    ·have hfit:n*sz+news.length<=(known++spare).length:=by rw[hsp,nY,<-ff];exact kC _ hroom
     have hr:=run_append_room_src (P:=C.P) w1 t t o.type e ti hu Cm (β i) 0 n c (.slice p mm cc) mm (news.map (AV.leaf β)) hS hroom (λj hj=>by
       rw[bJ] at hj;obtain⟨z,hz⟩:∃ z,((known++spare).map (AV.leaf β))[0+n*ti.size+j]? =some z:=⟨_,bj (by rw[bJ,<-Yq];omega)⟩;rw[g3.cell (u:=z) (by simpa using hz)];rfl)
      (λj _=>g3.frozen _)
     rw[jR,<-Yq] at hr;obtain⟨k1,k2,k3,k4⟩:=sS (K:=C.K) (news.map (AV.leaf β)) (n*sz) w1 ((known++spare).map (AV.leaf β)) g3 g2 (gw g4) (gw mQ.2.2);obtain⟨s1,s2,s3,_⟩:=qV (b:=β i) (news.map (AV.leaf β)) (n*sz) w1;refine fin _ (β i) c (spare.drop (mm*sz)) (hrun hr) s1 s2 s3 k1.size (λq _ hq=>oP _ _ _ q hq) (.inr ⟨i,aa,aa⟩) hroom gv ?_ ?_ ?_ ?_
     ·simp only[List.length_append,List.length_drop] at hsp hfit ⊢;omega
     ·exact eg.2 λx hx=>eg.1 mQ.2.1 x (uB hx)
     ·rw[Ru];intro j hj;obtain⟨v,hv,hj'⟩:=dh.1 hj;have:j∈bM spare:=dh.2 ⟨v,uB hv,hj'⟩;rw[jK.2.1] at this;cases this
     ·rw[vK _ _ _ (by simp only[List.length_map];omega)] at k2
      have:((known++spare).map (AV.leaf β)).take (n*sz)++(news.map (AV.leaf β)++((known++spare).map (AV.leaf β)).drop (n*sz+(news.map (AV.leaf β)).length))=(((known++news)++spare.drop (mm*sz)).map (AV.leaf β)):=by
       rw[bJ,nY,<-Lw,<-List.map_drop,<-hk,List.take_left',List.drop_append,aQ,aQ]
       ·rw[pU ae];simp[List.map_append,hk]
       ·rfl
      rw[this] at k2;exact k2
    ·refine grow ae ⟨some ⟨β i,0,none⟩,aa,?_⟩;refine run_firstCells_some w1.drew ti.size n ⟨β i,0,none⟩ n c (known.map (AV.leaf β)) (by rw[bJ,hk,Yq]) (λj u hj=> ?_);rw[Addr.add_mid];have hlt:=(cM.1 hj).1
     have:w1.cell? ⟨β i,0+j,none⟩=some u:=g3.cell (by
      rw[aQ];simp only[Nat.zero_add];simpa [List.getElem?_append_left hlt] using hj)
     exact this
   ·refine grow ae ⟨some ⟨b,off,none⟩,aa,?_⟩;refine run_firstCells_some w1.drew ti.size _ ⟨b,off,none⟩ _ _ ((ks.map AV.val).map (AV.leaf β)) (by rw[bJ,hk,Yq]) (λj u hj=> ?_);rw[Addr.add_mid];rw[aV] at hj;exact hcell w1 h1 h2 j u hj
theorem VO.app (hC:C.Ok) {e:TypeId} {sz n:Nat}
  (e0:stepOf C full F H o=.call (.op o [base,src])) (ho:o.op=.call { callee:=.builtin .append,args:=#[x,y],argTypes:=#[t,t] })
  (yW:C.ti t=some it) (iq:it.elem=some (e,sz)) (Dm:C.ti e=some ie) (hU:C.K.fz e=false) (hzo:ie.zero.cells.toList.all cJ=true)
  (hd:o.dst=some dst) (hN:dst<C.N) (hl:lvl C.SU m o=2)
  (ud:(base=.val (.slice none 0 0)/\n=0/\c=0/\known=[]/\spare=[]/\del=none/\0<mm)\/∃ i,base=.row i 0 n c/\H i=some (e,known++spare)/\del=some i)
  (jV:H dst=none\/del=some dst) (hk:known.length=n*sz) (hsp:(known++spare).length=c*sz) (eS:n<=c) (gv:c<=9223372036854775807)
  (jK:bM known=[]/\bM spare=[]/\bM news=[]) (mQ:known.all bO=true/\spare.all bO=true/\news.all bO=true) (nY:news.length=mm*sz) (lh:(n+mm)*(24*sz)<=140737488355328)
  (Yp:∀ w1 β,bg C.K w w1->C.Old w1->nd C β H (gl [base,src]) w1->∃ p cc,src.bH β=.slice p mm cc/\(mm=0\/∃ b off,p=some ⟨b,off,none⟩/\∀ j u,(news.map (AV.leaf β))[j]? =some u->w1.cell? ⟨b,off+j,none⟩=some u))
  (hK:∀ w2 cap bP ρ,bg C.K w w2->C.Old w2->(∀ x,cJ (ρ x)=true)->n+mm<=cap->cap<=9223372036854775807->((known++news)++bP).length=cap*sz->bP.all bO=true->bM bP=[]->
   aB C m full r K ((F.forget del ρ).dw o.dst (.row dst 0 (n+mm) cap)) ((H.forget del ρ).put dst (e,(known++news)++bP)) w2):aB C m full (o::r) K F H w:=
 VO.appG hC e0 ho yW iq Dm hU hzo hd hN hl (.inl ud) jV hk hsp eS gv jK mQ nY lh Yp hK
theorem VO.lit (hC:C.Ok) {e:TypeId} {n:Nat} {ps:Array (Nat×Operand)} {args:List AV} (vs:List Value)
  (e0:stepOf C full F H o=.call (.op o args)) (ha:args=vs.map .val) (ho:o.op=.buildSlice t n ps) (yW:C.ti t=some it) (iq:it.elem=some (e,1)) (Dm:C.ti e=some ie)
  (fx:JS 1 0 ((ps.toList.map (·.1)).zip (vs.map .val))=some (vs.map .val)) (hps:ps.size=n) (Ud:vs.length=n) (hn:n<=16777216)
  (hK:∀ w2 b,bg C.K w w2->C.Old w2->w2.ownsRow C.w0.heap.size e 1 (.slice (some ⟨b,0,none⟩) n n) n vs->aB C m full r K (F.dw o.dst (.val (.slice (some ⟨b,0,none⟩) n n))) H w2):aB C m full (o::r) K F H w:=by
 refine VO.IG e0 λw1 β h1 h2 _=> ?_;obtain⟨hu,hsz⟩:=(hC t it yW).isSlice e 1 iq;have nW:=(hC e ie Dm).zero;have hb:aD w1 (w1.alloc (.cells vs.toArray e)):=(aD.refl w1).alloc _;refine⟨.slice (some ⟨w1.heap.size,0,none⟩) n n,w1.alloc (.cells vs.toArray e),λρ gH=>.inl ?_,_,aa,hb,λa1 a2 a3=>hK _ w1.heap.size a1 a3 ?_⟩
 ·rw[ho,ha,iV] at gH
  have hl:(ps.map λx=>(x.1,ρ x.2)).toList=((ps.toList.map (·.1)).zip (vs.map AV.val)).map λp=>(p.1,p.2.bH (λ_=>0)):=by
   have h3:ps.toList.map (λx=>ρ x.2)=vs:=by
    rw[<-gH];simp[Op.operands]
   rw[rz,<-h3];generalize ps.toList=l
   induction l with
   | nil=>rfl
   | cons q r ih=>simp only[List.map_cons,List.zip_cons_cons];rw[ih];rfl
  have BG:∀ A:Array Value,A.size=n*1->Instr.fill (λi=>some (i*1,1)) A (((ps.toList.map (·.1)).zip (vs.map AV.val)).map λp=>(p.1,p.2.bH (λ_=>0)))=some vs.toArray:=λA hA=>by
   have:=vM (β:=λ_=>0) (sz:=1) _ 0 [] A.toList fx cZ (by rw[DL,hA];simp[hps,Ud]);rw[aV] at this;simpa using this
  simp only[execOp,ho,Instr.buildSlice,Sem.run_bind,run_underlying hu,Result.andThen_ok,hsz];rw[if_neg ae];by_cases h0:n*1=0
  ·simp only[if_pos h0,Sem.run_bind,Sem.run_pure,Result.andThen_ok];rw[hl,BG _ cZ];simp[newRow]
  ·simp only[if_neg h0,Sem.run_bind,Sem.run_pure,Result.andThen_ok,nW];rw[hl,BG _ cZ];simp[newRow]
 ·refine⟨by rw[Ud,rB],.inr ⟨w1.heap.size,n,vs.toArray,rfl,C.ll _ h2,World.alloc_heap_new w1 _,bl _,by simp only[maxLen];omega,by simp[Ud],?_⟩⟩;rw[dM (by simp[Ud])]
theorem VO.appU (hC:C.Ok) {e:TypeId} {src:Value} {n:Nat} {news:List Value}
  (e0:stepOf C full F H o=.call (.op o [.val (.slice none 0 0),.val src])) (ho:o.op=.call { callee:=.builtin .append,args:=#[x,y],argTypes:=#[t,t] })
  (yW:C.ti t=some it) (iq:it.elem=some (e,1)) (Dm:C.ti e=some ie) (h1c:∀ u∈news,u.oneCell'=true) (hn:n*24<=140737488355328)
  (Yp:∀ w1,bg C.K w w1->C.Old w1->Rd w1 1 src n news)
  (hK:∀ w2 p c,bg C.K w w2->C.Old w2->w2.ownsRow C.w0.heap.size e 1 (.slice p n c) n news->aB C m full r K (F.dw o.dst (.val (.slice p n c))) H w2):aB C m full (o::r) K F H w:=by
 refine VO.IG e0 λw1 β h1 h2 _=> ?_;obtain⟨hu,hsz⟩:=(hC t it yW).isSlice e 1 iq;have Uk:=hC e ie Dm;cases Cm:C.P.info? e with
 | none=>have:=Uk.size;rw[Cm] at this;simp at this
 | some ti=>
   have Cp:ti.size=ie.size:=by have:=Uk.size;rw[Cm] at this;simpa using this
   have sH:ti.zero=some ie.zero:=by have:=Uk.Mc;rw[Cm] at this;simpa using this
   have aU:ti.bytes<=24*ie.size:=bF (by have:=Uk.bytes;rw[Cm] at this;simpa using this)
   have Yq:1=ti.size:=by
    have:=hsz w1;simp[sizeOf,typeInfo,Cm] at this;exact this.symm
   have Tv:(0+n)*ti.bytes<=140737488355328:=bG (lZ _ (show ti.bytes<=24 by omega)) ae;obtain⟨v',w',hr,q1,q2⟩:=qP (P:=C.P) w1 C.w0.heap.size t o.type e ti ie.zero ti.size ti.bytes hu Cm sH aa aa (by rw[Uk.Ep,Cp]) (by rw[Cp];exact Uk.pos) (.slice none 0 0) 0 [] (oI w1 _ _ _) src n news (Yq▸Yp w1 h1 h2) h1c (by simp only[maxLen];omega) Tv (C.ll _ h2);rw[jR,pX,<-Yq] at q1;obtain⟨p,c,rfl,_⟩:=Own.form q1;refine⟨_,w',λρ gH=>.inl ?_,_,aa,⟨q2.os,q2.tape,q2.output,q2.size,λk hk=>q2.block k hk (by simp[Value.ownBlock])⟩,λa1 a2 a3=>hK w' p c a1 a3 q1⟩;rw[ho] at gH;simp[Op.operands,Call.operands] at gH;obtain⟨g1,g2⟩:=gH;unfold execOp;simp only[ho,resolve,invoke,builtin,Sem.run_bind,Sem.run_pure,Result.andThen_ok,List.map_toArray,List.map_cons,List.map_nil,g1,g2,AV.bH,hr]
end
end
end Go.Proofs.YtlifeokjcgngjaaGreat
