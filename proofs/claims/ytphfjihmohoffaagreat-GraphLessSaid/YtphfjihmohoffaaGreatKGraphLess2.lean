/-FR of the proof,laid behind one another. -/
import Derived.Test.YtphfjihmohoffaaGreatKGraphLess1
import Derived.RangeFuncBox
import Derived.Deep.RegionHeld3
import Derived.Orders
import Derived.Deep.MidRow
import Derived.Laws.MakeOwn
set_option linter.all false
set_option maxHeartbeats 64000000
namespace Go.Proofs.YtphfjihmohoffaaGreat
open Go.RowKit
def xJ (neg:Bool) (xs:List Nat):Int:=if neg=true then-(ag xs:Int) else (ag xs:Int)
def cQ (neg:Bool) (xs:List Nat):Bool:=match xs.getLast? with|none=> !neg|some x=>decide (x≠0)
def numOf (neg:Bool) (xs:List Nat):Int:=if cQ neg xs=true then xJ neg xs else 0
theorem pW (neg:Bool):cQ neg []= !neg:=rfl
variable {xs:List Nat} {x:Nat}
theorem tP {neg:Bool} (h:xs[xs.length-1]? =some x):cQ neg xs=decide (x≠0):=by
 unfold cQ;rw[FV,h]
theorem GF {neg:Bool} (h:cQ neg xs=true):∀ x,xs.getLast? =some x->x≠0:=by
 intro x hx;unfold cQ at h;rw[hx] at h;simpa using h
theorem rp {neg:Bool} (hl:bR xs) (h:cQ neg xs=true) (hx:xs≠[]):ag xs≠0:=by
 intro h0;have:=pR hl (GF h);rw[h0,bk] at this;exact hx this.symm
theorem canon {neg:Bool} (hl:bR xs) (h:cQ neg xs=true):neg=decide (xJ neg xs<0)/\xs=limbs (xJ neg xs).natAbs:=by
 have h1:=pR hl (GF h);have h2:(xJ neg xs).natAbs=ag xs:=by unfold xJ;split <;> simp
 refine⟨?_,by rw[h2,h1]⟩;by_cases hx:xs=[]
 ·subst hx;rw[pW] at h;cases neg
  ·simp[xJ,dz]
  ·cases h
 ·have:=rp hl h hx;cases neg
  ·simp[xJ]
  ·simp[xJ];omega
theorem me (X:Int):cQ (decide (X<0)) (limbs X.natAbs)=true:=by
 by_cases h:X=0
 ·subst h;simp[bk,cQ]
 ·unfold cQ;cases hl:(limbs X.natAbs).getLast? with
  | none=>rw[List.getLast?_eq_none_iff,kK] at hl;omega
  | some x=>simpa using pS _ _ hl
theorem Er (X:Int):xJ (decide (X<0)) (limbs X.natAbs)=X:=by
 unfold xJ;rw[ah];by_cases h:X<0
 ·rw[if_pos (by simpa using h)];omega
 ·rw[if_neg (by simpa using h)];omega
theorem eN (X:Int):numOf (decide (X<0)) (limbs X.natAbs)=X:=by
 unfold numOf;rw[if_pos (me X),Er]
theorem yC {neg:Bool} (hl:bR xs):(limbs (numOf neg xs).natAbs).length<=xs.length:=by
 unfold numOf
 split
 ·rename_i h;rw[<-(canon hl h).2];exact aM _
 ·rw[show (0:Int).natAbs=0 from aa,bk];exact cD _
def ek (w:World) (v:Value) (neg:Bool) (xs:List Nat):Prop:=∃ p c,v=.agg #[.bool neg,.slice p xs.length c]/\Rd w 1 (.slice p xs.length c) xs.length (ints .u32 xs)/\bR xs
def bP (w:World) (v:Value) (X:Int) (k:Nat):Prop:=∃ neg xs,ek w v neg xs/\X=numOf neg xs/\xs.length<=k
def bK (w:World) (v:Value) (X:Int):Prop:=ek w v (decide (X<0)) (limbs X.natAbs)
def aw (w:World) (B:Nat) (v:Value) (X:Int):Prop:=∃ p c,v=.agg #[.bool (decide (X<0)),.slice p (limbs X.natAbs).length c]/\w.ownsRow B 122 1 (.slice p (limbs X.natAbs).length c) (limbs X.natAbs).length (ints .u32 (limbs X.natAbs))
def ax (w w':World):Prop:=Below w.heap.size w w'
theorem ax.refl (w:World):ax w w:=dJ _ _
variable {w w':World}
theorem ax.alloc (h:ax w w') (o:Obj):ax w (w'.alloc o):=Below.alloc h h.size o
theorem ax.drew (h:ax w w'):ax w w'.drew:=Below.drew h
theorem ax.drewN (h:ax w w') (n:Nat):ax w (w'.drewN n):=Below.drewN h n
variable {a:World}
theorem ax.aB {b c:World} (h:ax a b) (k:ax b c):ax a c:=Below.aB h k
theorem ax.setCell (h:ax w w') {p:Addr} (hp:w.heap.size<=p.block) (v:Value):ax w (w'.setCell p v):=Below.setCell h hp v
variable {u:Value}
theorem ax.cell (h:ax w w') {a:Addr} (hc:w.cell? a=some u):w'.cell? a=some u:=Below.keeps h _ _ hc
theorem ax.size (h:ax w w'):w.heap.size<=w'.heap.size:=Below.size h
variable {v:Value}
theorem ek.aD {neg:Bool} (h:ek w v neg xs) (hb:ax w w'):ek w' v neg xs:=by
 obtain⟨p,c,hv,hr,hl⟩:=h;exact⟨p,c,hv,hr.below hb,hl⟩
variable {X:Int} {k:Nat}
theorem bP.aD (h:bP w v X k) (hb:ax w w'):bP w' v X k:=by
 obtain⟨neg,xs,hn,hx,hk⟩:=h;exact⟨neg,xs,hn.aD hb,hx,hk⟩
theorem bK.aD (h:bK w v X) (hb:ax w w'):bK w' v X:=ek.aD h hb
variable {B:Nat}
theorem aw.rd (h:aw w B v X):bK w v X:=by
 obtain⟨p,c,hv,ho⟩:=h;exact⟨p,c,hv,Rd.own ho,ak _⟩
theorem aw.mono {B':Nat} (h:aw w B v X) (hB:B'<=B):aw w B' v X:=by
 obtain⟨p,c,hv,ho⟩:=h;exact⟨p,c,hv,Own.mono ho hB⟩
theorem bK.to (h:bK w v X) (hk:(limbs X.natAbs).length<=k):bP w v X k:=⟨_,_,h,(eN X).symm,hk⟩
theorem bP.len (h:bP w v X k):(limbs X.natAbs).length<=k:=by
 obtain⟨neg,xs,⟨_,_,_,_,hl⟩,rfl,hk⟩:=h;exact bA (yC hl) hk
theorem bK.zero (w:World):bK w (.agg #[.bool false,.slice none 0 0]) 0:=by
 refine⟨none,0,?_,?_,ak _⟩
 ·simp[bk]
 ·simp only[show (0:Int).natAbs=0 from aa,bk];exact Rd.nil w 1
theorem aw.zero (w:World) (B:Nat):aw w B (.agg #[.bool false,.slice none 0 0]) 0:=by
 refine⟨none,0,?_,?_⟩
 ·simp[bk]
 ·simp only[show (0:Int).natAbs=0 from aa,bk];exact jh _ _ _ _
variable {c m:Nat} {p:Option Addr}
theorem aw.of {neg:Bool} {n:Nat} (h:w.ownsRow B 122 1 (.slice p n c) (limbs m).length (ints .u32 (limbs m))) (hn:n=(limbs m).length) (X:Int) (hX:X=if neg=true then-(m:Int) else m):
  aw w B (.agg #[.bool (neg && decide (0<n)),.slice p n c]) X:=by
 subst hn;have h1:X.natAbs=m:=by rw[hX];split <;> simp
 refine⟨p,c,?_,by rw[h1];exact h⟩;rw[h1]
 congr 3
 by_cases hm:m=0
 ·subst hm;have:X=0:=ae;rw[this];simp[bk]
 ·have:=cL hm;cases neg
  ·simp at hX;simp[hX]
  ·simp at hX;simp[hX];omega
theorem bK.of {neg:Bool} {n:Nat} (h:Rd w 1 (.slice p n c) (limbs m).length (ints .u32 (limbs m))) (hn:n=(limbs m).length) (X:Int) (hX:X=if neg=true then-(m:Int) else m):
  bK w (.agg #[.bool (neg && decide (0<n)),.slice p n c]) X:=by
 subst hn;have h1:X.natAbs=m:=by rw[hX];split <;> simp
 refine⟨p,c,?_,by rw[h1];exact h,ak _⟩;rw[h1]
 congr 3
 by_cases hm:m=0
 ·subst hm;have:X=0:=ae;rw[this];simp[bk]
 ·have:=cL hm;cases neg
  ·simp at hX;simp[hX]
  ·simp at hX;simp[hX];omega
def Sz (X:Int) (k:Nat):Prop:=(limbs X.natAbs).length<=k
theorem Sz.lt (h:Sz X k):X.natAbs<4294967296^k:=mN (lW _) (nu ae h)
theorem Sz.of_lt (h:X.natAbs<4294967296^k):Sz X k:=iC k _ h
theorem Sz.mono {l:Nat} (h:Sz X k) (DN:k<=l):Sz X l:=bA h DN
variable {Y:Int}
theorem Sz.le (h:Sz Y k) (Gq:X.natAbs<=Y.natAbs):Sz X k:=bA (bX Gq) h
theorem Sz.neg (h:Sz X k):Sz (-X) k:=Sz.le h (by rw[Int.natAbs_neg];exact aM _)
theorem Sz.add {l:Nat} (hx:Sz X k) (hy:Sz Y l) (hk:k<=m) (hl:l<=m):Sz (X+Y) (m+1):=by
 refine Sz.of_lt ?_;have h1:=mN hx.lt (nu ae hk);have h2:=mN hy.lt (nu ae hl);have h3:(X+Y).natAbs<=X.natAbs+Y.natAbs:=Int.natAbs_add_le X Y;rw[dT];omega
theorem Sz.mul {l:Nat} (hx:Sz X k) (hy:Sz Y l):Sz (X*Y) (k+l):=by
 refine Sz.of_lt ?_;rw[Int.natAbs_mul,mQ];exact Nat.mul_lt_mul'' hx.lt hy.lt
theorem Sz.zero:Sz 0 0:=by show (limbs 0).length<=0;rw[bk];exact aM _
theorem Sz.small (h:X.natAbs<4294967296):Sz X 1:=Sz.of_lt (by simpa using h)
def aI (w:World) (b:Nat) (t:TypeId) (cs:Array Value):Prop:=w.heap[b]? =some (.cells cs t (0,0))
variable {cs:Array Value} {b:Nat} {t:TypeId}
theorem aI.lt (h:aI w b t cs):b<w.heap.size:=(np.1 h).1
theorem aI.new (w:World) (t:TypeId) (cs:Array Value):aI (w.alloc (.cells cs t)) w.heap.size t cs:=World.alloc_heap_new w _
theorem aI.newAt (hb:b=w.heap.size) (t:TypeId) (cs:Array Value):aI (w.alloc (.cells cs t)) b t cs:=hb▸aI.new w t cs
theorem aI.aD (h:aI w b t cs) (hb:ax w w'):aI w' b t cs:=(jk hb b h.lt).trans h
theorem aI.alloc (h:aI w b t cs) (o:Obj):aI (w.alloc o) b t cs:=h.aD ((ax.refl w).alloc o)
theorem aI.drew (h:aI w b t cs):aI w.drew b t cs:=h
theorem aI.drewN (h:aI w b t cs) (n:Nat):aI (w.drewN n) b t cs:=h
variable {j:Nat}
theorem aI.cell (h:aI w b t cs) (hj:cs[j]? =some u):w.cell? ⟨b,j,none⟩=some u:=by
 simp[World.cell?,show w.heap[b]? =_ from h,hj]
theorem aI.frozen (h:aI w b t cs) (j:Nat):w.frozen? ⟨b,j,none⟩=false:=by
 simp[World.frozen?,show w.heap[b]? =_ from h]
theorem aI.set (h:aI w b t cs) (v:Value):aI (w.setCell ⟨b,j,none⟩ v) b t (cs.setIfInBounds j v):=by
 obtain⟨hlt,hk⟩:=np.1 h;show (w.heap.modify b _)[b]? =_;rw[iI (by rw[Array.size_modify];exact hlt),Array.getElem_modify_self,hk];rfl
variable {b':Nat}
theorem aI.other (h:aI w b t cs) (hne:b≠b') (v:Value):aI (w.setCell ⟨b',j,none⟩ v) b t cs:=
 (nw _ _ _ b hne).trans h
theorem aI.two (h:aI w b t #[u,v]):w.cell? ⟨b,0,none⟩=some u/\w.cell? ⟨b,1,none⟩=some v/\w.frozen? ⟨b,0,none⟩=false/\w.frozen? ⟨b,1,none⟩=false:=
 ⟨h.cell rfl,h.cell rfl,h.frozen 0,h.frozen 1⟩
theorem aI.bq (h:aI w b t #[u,v]) (u' v':Value):aI ((w.setCell ⟨b,0,none⟩ u').setCell ⟨b,1,none⟩ v') b t #[u',v']:=(h.set (j:=0) u').set (j:=1) v'
theorem ax.bq (h:ax w w') (hb:w.heap.size<=b) (u v:Value):ax w ((w'.setCell ⟨b,0,none⟩ u).setCell ⟨b,1,none⟩ v):=(h.setCell (p:=⟨b,0,none⟩) hb u).setCell (p:=⟨b,1,none⟩) hb v
theorem mf (w:World) (t t':TypeId) (cs gA:Array Value):aI ((w.alloc (.cells cs t)).alloc (.cells gA t')) w.heap.size t cs/\aI ((w.alloc (.cells cs t)).alloc (.cells gA t')) (w.heap.size+1) t' gA/\ax w ((w.alloc (.cells cs t)).alloc (.cells gA t')):=
 ⟨(aI.new _ _ _).alloc _,aI.newAt bc _ _,((ax.refl w).alloc _).alloc _⟩
theorem mg (w:World) (t t' DR:TypeId) (cs gA oU:Array Value):aI (((w.alloc (.cells cs t)).alloc (.cells gA t')).alloc (.cells oU DR)) w.heap.size t cs/\aI (((w.alloc (.cells cs t)).alloc (.cells gA t')).alloc (.cells oU DR)) (w.heap.size+1) t' gA/\
  aI (((w.alloc (.cells cs t)).alloc (.cells gA t')).alloc (.cells oU DR)) (w.heap.size+2) DR oU/\ax w (((w.alloc (.cells cs t)).alloc (.cells gA t')).alloc (.cells oU DR)):=
 ⟨(mf w t t' cs gA).1.alloc _,(mf w t t' cs gA).2.1.alloc _,aI.newAt bc _ _,(mf w t t' cs gA).2.2.alloc _⟩
def ao (W:World) (r:Nat) (w':World):Prop:=W.heap.size<=w'.heap.size/\∀ b,b<W.heap.size->b≠r->w'.heap[b]? =W.heap[b]?
theorem ao.refl (W:World) (r:Nat):ao W r W:=⟨aM _,λ_ _ _=>rfl⟩
variable {r:Nat} {W:World}
theorem ao.drew (h:ao W r w'):ao W r w'.drew:=h
theorem ao.aB {b:World} (h:ao W r a) (k:ax a b):ao W r b:=
 ⟨bA h.1 k.size,λj hj hr=>(jk k j (mN hj h.1)).trans (h.2 j hj hr)⟩
theorem ao.alloc (h:ao W r a) (o:Obj):ao W r (a.alloc o):=h.aB ((ax.refl a).alloc o)
theorem ao.set (h:ao W r a) (v:Value):ao W r (a.setCell ⟨r,j,none⟩ v):=
 ⟨bA h.1 bc,λb hb hr=>(nw _ _ _ b hr).trans (h.2 b hb hr)⟩
theorem ao.cls (h:ao W r w') (hc:aI W b t cs) (hr:b≠r):aI w' b t cs:=(h.2 b hc.lt hr).trans hc
theorem ao.cells (h:ao W r w') (hc:aI W b t #[u,v]) (hr:b≠r):w'.cell? ⟨b,0,none⟩=some u/\w'.cell? ⟨b,1,none⟩=some v:=
 ⟨(h.cls hc hr).cell rfl,(h.cls hc hr).cell rfl⟩
variable {base e:Nat}
theorem aI.notRow {sz n:Nat} {xs:List Value} (h:aI w b t cs) (hte:t≠e) (hr:w.ownsRow base e sz v n xs):some b≠v.ownBlock:=by
 rcases hr.2 with ⟨rfl,rfl⟩|⟨g,cap,cur,rfl,_,hg,_⟩
 ·simp[Value.ownBlock]
 ·intro e';obtain rfl:b=g:=by simpa [Value.ownBlock] using e'
  have:=(show w.heap[b]? =_ from h).symm.trans hg;simp at this;exact hte this.2
theorem Own.KW {sz n:Nat} {xs:List Value} (hr:w.ownsRow base e sz v n xs) (h:aI w b t cs) (hte:t≠e) (u:Value):(w.setCell ⟨b,j,none⟩ u).ownsRow base e sz v n xs:=by
 refine⟨hr.1,?_⟩;rcases hr.2 with h2|⟨g,cap,cur,hv,hb,hg,r⟩
 ·exact .inl h2
 ·refine .inr ⟨g,cap,cur,hv,hb,?_,r⟩
  have hne:g≠b:=λe'=>by
   have:=h.notRow hte hr;rw[hv] at this;simp[Value.ownBlock,e'] at this
  exact (nw _ _ _ g hne).trans hg
theorem Own.bq {sz n:Nat} {x y:Value} {xs:List Value} (hr:w.ownsRow base e sz v n xs) (h:aI w b t #[x,y]) (hte:t≠e) (u u':Value):((w.setCell ⟨b,0,none⟩ u).setCell ⟨b,1,none⟩ u').ownsRow base e sz v n xs:=
 Own.KW (Own.KW hr h hte u) (h.set (j:=0) u) hte u'
theorem aI.cX (h:aI w b t cs) (hne:b≠b') (u v:Value):aI ((w.setCell ⟨b',0,none⟩ u).setCell ⟨b',1,none⟩ v) b t cs:=(h.other hne u).other hne v
theorem aw.bq {x y:Value} (h:aw w B v X) (hc:aI w b t #[x,y]) (ht:t≠122) (u u':Value):aw ((w.setCell ⟨b,0,none⟩ u).setCell ⟨b,1,none⟩ u') B v X:=by
 obtain⟨p,c,hv,ho⟩:=h;exact⟨p,c,hv,Own.bq ho hc ht u u'⟩
theorem aw.form (h:aw w B v X):∃ s p n c,v=.agg #[.bool s,.slice p n c]:=by
 obtain⟨p,c,hv,_⟩:=h;exact⟨_,_,_,_,hv⟩
theorem bK.gH (h:bK w v X):∃ s p n c,v=.agg #[.bool s,.slice p n c]:=by
 obtain⟨p,c,hv,_⟩:=h;exact⟨_,_,_,_,hv⟩
theorem bP.form (h:bP w v X k):∃ s p n c,v=.agg #[.bool s,.slice p n c]:=by
 obtain⟨neg,xs,⟨p,c,hv,_⟩,_⟩:=h;exact⟨_,_,_,_,hv⟩
theorem ao.nJ (h:ao W r a) (hb:W.heap.size<=b) (v:Value):ao W r (a.setCell ⟨b,j,none⟩ v):=
 ⟨bA h.1 bc,λk hk hr=>(nw _ _ _ k (by show k≠b;omega)).trans (h.2 k hk hr)⟩
variable {s:Bool}
theorem bK.parts {n:Nat} (h:bK w (.agg #[.bool s,.slice p n c]) X):n=(limbs X.natAbs).length/\Rd w 1 (.slice p n c) n (ints .u32 (limbs X.natAbs))/\X=if s=true then-(X.natAbs:Int) else (X.natAbs:Int):=by
 obtain⟨p',c',hv,hr,_⟩:=h;simp only[Value.agg.injEq,Array.mk.injEq,List.cons.injEq,Value.bool.injEq,Value.slice.injEq,and_true] at hv;obtain⟨rfl,rfl,rfl,rfl⟩:=hv;refine⟨aa,hr,?_⟩
 split
 ·rename_i h;have:=cS h;omega
 ·rename_i h;have:¬ X<0:=λh'=>h (aU h');omega
theorem bK.own {p':Option Addr} {n c':Nat} (h:bK w (.agg #[.bool s,.slice p n c]) X) (ho:w'.ownsRow B 122 1 (.slice p' n c') n (ints .u32 (limbs X.natAbs))):
  aw w' B (.agg #[.bool s,.slice p' n c']) X:=by
 obtain⟨p1,c1,hv,hr,_⟩:=h;simp only[Value.agg.injEq,Array.mk.injEq,List.cons.injEq,Value.bool.injEq,Value.slice.injEq,and_true] at hv;obtain⟨rfl,rfl,rfl,rfl⟩:=hv;exact⟨p',c',aa,ho⟩
theorem sign_neg (h:X<0):X.sign= -1:=Int.sign_eq_neg_one_of_neg h
theorem er (h:0<X):X.sign=1:=Int.sign_eq_one_of_pos h
theorem bK.sgn {n:Nat} (h:bK w (.agg #[.bool s,.slice p n c]) X):s=decide (X<0):=by
 obtain⟨p',c',hv,hr,_⟩:=h;simp only[Value.agg.injEq,Array.mk.injEq,List.cons.injEq,Value.bool.injEq,Value.slice.injEq,and_true] at hv;exact hv.1
def aJ (W:World) (r q:Nat) (w':World):Prop:=W.heap.size<=w'.heap.size/\∀ b,b<W.heap.size->b≠r->b≠q->w'.heap[b]? =W.heap[b]?
theorem aJ.refl (W:World) (r q:Nat):aJ W r q W:=⟨aM _,λ_ _ _ _=>rfl⟩
theorem aJ.drew {q:Nat} (h:aJ W r q w'):aJ W r q w'.drew:=h
theorem aJ.aB {b:World} {q:Nat} (h:aJ W r q a) (k:ax a b):aJ W r q b:=
 ⟨bA h.1 k.size,λj hj hr hq=>(jk k j (mN hj h.1)).trans (h.2 j hj hr hq)⟩
theorem aJ.KX {q:Nat} (h:aJ W r q a) (v:Value):aJ W r q (a.setCell ⟨r,j,none⟩ v):=
 ⟨bA h.1 bc,λb hb hr hq=>(nw _ _ _ b hr).trans (h.2 b hb hr hq)⟩
theorem aJ.dX {q:Nat} (h:aJ W r q a) (v:Value):aJ W r q (a.setCell ⟨q,j,none⟩ v):=
 ⟨bA h.1 bc,λb hb hr hq=>(nw _ _ _ b hq).trans (h.2 b hb hr hq)⟩
theorem aJ.cls {q:Nat} (h:aJ W r q w') (hc:aI W b t cs) (hr:b≠r) (hq:b≠q):aI w' b t cs:=(h.2 b hc.lt hr hq).trans hc
theorem aI.apart {a:Nat} {t':TypeId} {gA:Array Value} (h:aI w a t cs) (h':aI w b t' gA) (ht:t≠t'):a≠b:=λe=>by
 subst e;have:=(show w.heap[_]? =_ from h).symm.trans h';simp at this;exact ht this.2
theorem aw.cast (h:aw w B v X) (e:X=Y):aw w B v Y:=e▸h
theorem sum_len {a n:Nat} (hn:n=(limbs a).length) (hm:m=(limbs b).length):(limbs (a+b)).length<=n+m+1:=by
 have:=Sz.add (X:=(a:Int)) (Y:=(b:Int)) (k:=n) (l:=m) (m:=n+m) (by show (limbs _).length<=_;rw[vw];omega) (by show (limbs _).length<=_;rw[vw];omega) ae ae;have e:((a:Int)+(b:Int)).natAbs=a+b:=ae;unfold Sz at this
 rwa [e] at this
theorem uP:(Tryz.prog.info? 3).map (λi=>(i.zero,i.size,i.bytes))=some (some (.int .i64 0),1,8):=by kernel_rfl
def hval (xs:List Nat):Nat:=val 65536 xs
def halves (n:Nat):List Nat:=fW 65536 n
def fe (xs:List Nat):Prop:=dp 65536 xs
theorem bC (n:Nat):fe (halves n):=nC ae n
theorem aP (n:Nat):hval (halves n)=n:=jo ae n
theorem fe.at (h:fe xs) (hk:xs[k]? =some x):x<65536:=dp.at h hk
theorem jZ:halves 0=[]:=de _
theorem Es {n:Nat} (h:halves m=halves n):m=n:=vE ae h
theorem jb (xs:List Nat) (x:Nat):hval (xs++[x])=hval xs+65536^xs.length*x:=ln _ xs x
theorem ru (h:fe xs):hval xs<65536^xs.length:=nD h
theorem cF (h:bR xs):(halves (ag xs)).length<=2*xs.length:=by
 apply dK ae;have:=gU h
 rwa [yo]
theorem Rd.i64 {n:Nat} (h:Rd w 1 v n (ints .i64 xs)):∃ p c,v=.slice p n c/\n<=c/\c<=9223372036854775807/\xs.length=n:=by
 obtain⟨p,c,hv,h1,h2,h3⟩:=h.form;unfold maxLen at h2;exact⟨p,c,hv,h1,ae,by simpa using h3⟩
theorem Rd.BO {n:Nat} {k:IntKind} (h:Rd w 1 (.slice p n c) n (ints k xs)) (hm:m<=n):Rd w 1 (.slice p m c) m (ints k (xs.take m)):=by
 have:=h.take hm
 rwa [eM,oA] at this
theorem Own.BO {n:Nat} {k:IntKind} (h:w.ownsRow B e 1 (.slice p n c) n (ints k xs)) (hm:m<=n):w.ownsRow B e 1 (.slice p m c) m (ints k (xs.take m)):=by
 have:=Own.take h hm
 rwa [eM,oA] at this
set_option maxRecDepth 100000 in
theorem gh (va:Value) (n i:Nat) (xs:List Nat) (w:World) (hr:Rd w 1 va n (ints .i64 xs)):
  Calls Tryz.prog 92 #[va,.int .i64 (i:Int)] w λe w'=>e=.returned (.int .i64 ((xs.getD i 0:Nat):Int))/\w=w':=by
 obtain⟨p,c,rfl,iD,fO,dv⟩:=hr.i64;have HX:=ab dv;clear dv;by_cases hi:i<n
 ·obtain⟨b,off,x,rfl,_,hx,hc⟩:=hr.cellAt hi;have e:Hid (xs.getD i 0=x):=by show _=_;rw[List.getD,hx];rfl
  clear hx;refine aE λR' bh=> ?_;go_enter Tryz.func92,Tryz.ntmps92
  go_wp2
  exact bh.out _ _ ⟨lx (by rw[e.out]),aa⟩
 ·have e:Hid (xs.getD i 0=0):=by show _=_;rw[List.getD,ld (by rw[HX.out];omega)];rfl
  refine aE λR' bh=> ?_;go_enter Tryz.func92,Tryz.ntmps92
  go_wp2
  exact bh.out _ _ ⟨lx (by rw[e.out];rfl),aa⟩
set_option maxRecDepth 100000 in
theorem yD (p:Option Addr) (n c:Nat) (xs:List Nat) (w:World) (hr:Rd w 1 (.slice p n c) n (ints .i64 xs)) (hl:fe xs):
  Calls Tryz.prog 106 #[.slice p n c] w λe w'=>(∃ m,m<=n/\e=.returned (.slice p m c)/\halves (hval xs)=xs.take m)/\w=w':=by
 obtain⟨p',c',hv,iD,fO,dv⟩:=hr.i64;simp only[Value.slice.injEq,true_and] at hv;obtain⟨rfl,rfl⟩:=hv;have HX:Hid (xs.length=n):=dv;clear dv;refine aE λR' bh=> ?_;go_enter Tryz.func106,Tryz.ntmps106
 go_wp2
 go_loop [0] (λv=>∃ m,m<=n/\v=.slice p m c/\hval (xs.take m)=hval xs) (λv=>match v with | .slice _ m _=>m|_=>0)
 case atStart=>exact⟨n,aM _,aa,by rw[du (dI HX.out)]⟩
 case round=>
  obtain⟨m,hm,rfl,hv⟩:=hrel;have HV:Hid (hval (xs.take m)=hval xs):=hv;clear hv;by_cases h0:m=0
  ·subst h0;go_wp2
   exact bh.out _ _ ⟨⟨0,cD _,aa,iY ae hl (cD _) HV.out (.inl aa)⟩,aa⟩
  ·obtain⟨b,off,x,rfl,hb,hx,hc⟩:=hr.cellAt (k:=m-1) ae;have Kv:Hid (xs[m-1]? =some x):=hx;clear hx;have h0':0<m:=ae;obtain⟨j,rfl⟩:∃ j,m=j+1:=⟨m-1,ae⟩;rw[Gi] at hc;by_cases mR:x=0
   ·subst mR;go_wp2
    go_round
    case rel=>exact⟨j,ae,aa,(jW Kv.out).symm.trans HV.out⟩
    case measure=>simp
   ·have hx0':((x:Int) == 0)=false:=by rw[iJ];omega
    go_wp2
    exact bh.out _ _ ⟨⟨j+1,hm,aa,iY ae hl (by rw[HX.out];exact hm) HV.out (.inr ⟨x,Kv.out,mR⟩)⟩,aa⟩
theorem Own.cut {n:Nat} (h:w.ownsRow B e 1 (.slice p n c) n (ints .i64 xs)) (hm:m<=n) (hl:halves (hval xs)=xs.take m):
  w.ownsRow B e 1 (.slice p m c) (halves (hval xs)).length (ints .i64 (halves (hval xs)))/\m=(halves (hval xs)).length:=by
 have hx:xs.length=n:=by have:=h.1;simpa using this
 have e2:(halves (hval xs)).length=m:=by rw[hl,aR];omega
 have:=Own.BO h hm;rw[<-hl] at this;rw[e2];exact⟨this,aa⟩
def GG (w:World) (B:Nat) (xs:List Nat) (ov iv:Value) (wr:World):Prop:=
 ∃ (k:Nat) (hs:List Nat),k<=xs.length/\iv=.int .i64 (k:Int)/\hs.length=2*k/\fe hs/\hval hs=ag (xs.take k)/\
   wr.ownsRow B 3 1 ov (2*k) (ints .i64 hs)/\Below B w wr
theorem GH (h:x<4294967296):IntKind.i64.wrap ((x:Int).tmod 65536)=((x%65536:Nat):Int):=by
 rw[AY ae,bj _ ae];simp
theorem GI (h:x<4294967296):IntKind.i64.wrap (IntKind.u32.wrap ((x:Int)/65536))=((x/65536:Nat):Int):=by
 rw[Gl,Int.emod_eq_of_lt ae ae,bj _ ae];simp
variable {hs:List Nat}
theorem yE (hx:xs[k]? =some x) (ja:x<4294967296) (hl:hs.length=2*k) (hh:fe hs) (hv:hval hs=ag (xs.take k)):
  fe (hs++[x%65536,x/65536])/\hval (hs++[x%65536,x/65536])=ag (xs.take (k+1)):=by
 have hk:k<xs.length:=(bx.1 hx).1;refine⟨dp.append hh (dp.cons (cM _ ae) (dp.cons ae (dp.nil _))),?_⟩;rw[bf hx,df,<-hv,aR,dF ae];show val 65536 _=_;rw[gK,hl];show hval hs+_=_
 congr 1
 rw[yo];show (4294967296:Nat)^k*(x%65536+65536*(x/65536+65536*0))=_
 congr 1
 omega
set_option maxRecDepth 100000 in
theorem dY (va:Value) (n:Nat) (xs:List Nat) (w:World) (hr:Rd w 1 va n (ints .u32 xs)) (hl:bR xs) (hn:n<=1073741824):
  Calls Tryz.prog 91 #[va] w λe w'=>∃ v',e=.returned v'/\w'.ownsRow w.heap.size 3 1 v' (halves (ag xs)).length (ints .i64 (halves (ag xs)))/\Below w.heap.size w w':=by
 obtain⟨p,c,rfl,iD,fO,dv⟩:=hr.u32;obtain⟨i0,hi,jN,kM,mZ⟩:=info_parts uP;obtain⟨B,hB⟩:∃ B,B=w.heap.size:=⟨_,aa⟩;have HB:=ab hB;have Hr:=ab hr;have HL:=ab hl;have HX:=ab dv;rw[<-hB];clear hr hl dv hB;refine aE λR' bh=> ?_;go_enter Tryz.func91,Tryz.ntmps91
 go_wp2
 go_loopw [3,4] (λov iv wr=>GG w B xs ov iv wr) (λ_ iv _=>n-(intOf iv).toNat)
 case atStart=>exact⟨0,[],cD _,aa,aa,dp.nil _,aa,jh _ _ _ _,dJ _ _⟩
 case round=>
  obtain⟨k,hs,hk,rfl,zT,hhh,hhv,ay,hb⟩:=hrel;have HK:=ab hk;have HO:=ab ay;have HHL:=ab zT;have HHH:=ab hhh;have HHV:=ab hhv;have fx:=ab hb;have pV:B<=wr.heap.size:=by have:=hb.size;have:=HB.out;omega
  have Et:k<=n:=by rw[<-HX.out];exact hk
  clear hk ay zT hhh hhv hb;by_cases tJ:k<n
  ·obtain⟨b1,o1,x,rfl,bS,fo,GA⟩:=Hr.out.cellAt tJ;have pU:=(fx.out.cell (p:=⟨b1,o1+k,none⟩) (by rw[HB.out];exact bS)).trans GA;have hne:=Ks HO.out (b:=b1) (by rw[HB.out];exact bS);have uM:=ab fo;have ja:=HL.out.at fo;have HNE:=ab hne;have Gy:(0:Int)<=(k:Int):=ae;have uQ:(k:Int)<(n:Int):=ae;clear fo GA hne;go_wp2_with fail
   go_region_held3 (λw'=>w'.cell? ⟨b1,o1+k,none⟩=some (.int .u32 (x:Int))) (first|exact pU|go_keep|exact yt wh pU HNE.out)
    ((refine nF (by rfl) _ _ 27 (by rfl) B 3 i0 (.int .i64 0) 1 8 yh hi jN kM mZ aa ae _ (2*k) (ints .i64 hs) (by rfl) ((HO.out.alloc _).drew) _ 2 (ints .i64 [x%65536,x/65536]) (by rfl) (Rd.drew (Rd.lit2 (GH ja) (GI ja))) (lp .i64 [x%65536,x/65536]) (by unfold maxLen;omega) ae (by simp;omega) ?_;intro v1 w1 eG wh))
   have qH:=ab eG;have HG1:=ab wh;clear eG wh;go_wp2_with fail
   go_roundw
   case rel=>
    have hst:=yE uM.out ja HHL.out HHH.out HHV.out;exact⟨k+1,hs++[x%65536,x/65536],by rw[HX.out];omega,by go_num,by simp[HHL.out];omega,hst.1,hst.2,by rw[fF];exact qH.out,Below.behind fx.out pV HG1.out HO.out (aM _)⟩
   case measure=>simp[intOf];omega
  ·obtain rfl:k=n:=by omega
   obtain⟨p1,c1,vP,_,_,_⟩:=Own.form HO.out;have HV1:=ab vP;have dN:Hid (hval hs=ag xs):=by show _=_;rw[HHV.out,bb (dI HX.out)]
   subst vP;go_wp2_with fail
   refine (yD p1 (2*k) c1 hs _ (Rd.own HO.out) HHH.out).mono ?_;rintro e w2 ⟨⟨m,hm,rfl,uL⟩,rfl⟩;have HC:=Own.cut HO.out hm uL;rw[dN.out] at HC;have HC1:=ab HC.1;have HC2:=ab HC.2;clear HC uL;go_wp2_with fail
   refine bh.out _ _ ⟨_,aa,?_,fx.out⟩;have:=HC1.out;rw[<-HC2.out] at this ⊢;exact this
def LimbInv (w:World) (B m:Nat) (hs:List Nat) (ov iv:Value) (wr:World):Prop:=
 ∃ (k:Nat) (ds:List Nat),2*k<=m+1/\iv=.int .i64 ((2*k:Nat):Int)/\ds.length=k/\bR ds/\ag ds=hval (hs.take (2*k))/\
   wr.ownsRow B 122 1 ov k (ints .u32 ds)/\Below B w wr
variable {ds:List Nat}
theorem yF {lo hi:Nat} (hl:ds.length=k) (hd:bR ds) (hv:ag ds=hval (hs.take (2*k))) (JW:hs.getD (2*k) 0=lo) (hhi:hs.getD (2*k+1) 0=hi)
  (h1:lo<65536) (h2:hi<65536):bR (ds++[lo+65536*hi])/\ag (ds++[lo+65536*hi])=hval (hs.take (2*(k+1))):=by
 refine⟨hd.append (bR.cons ae bR.nil),?_⟩;rw[df,hl,hv];show _=val 65536 (hs.take (2*k+1+1));rw[bE,bE,JW,hhi,dT,vA];show hval _+_=hval _+_
 congr 1
 rw[show (4294967296:Nat)=65536^2 by rfl,<-yo,bg,db]
theorem BP {h:Nat} (hl:ds.length=k) (hd:bR ds) (hv:ag ds=h) (hm:(halves h).length=m) (hk:2*k<=m+1):limbs h=ds:=by
 subst hv;apply Bp ae hd;show ds.length<=(limbs (ag ds)).length;rcases lg k with h0|h0
 ·omega
 ·have hne:ag ds≠0:=λh=>by rw[h,jZ] at hm;simp at hm;omega
  have h1:65536^((halves (ag ds)).length-1)<=ag ds:=tG ae hne
  have h2:4294967296^(k-1)<=ag ds:=by
   rw[show (4294967296:Nat)=65536^2 by rfl,<-yo];exact bA (nu ae ae) h1
  have:=uB h2;omega
set_option maxRecDepth 100000 in
theorem nK (va:Value) (n:Nat) (ls:List Nat) (w:World) (hr:Rd w 1 va n (ints .i64 ls)) (hl:fe ls) (hn:n<=2147483656):
  Calls Tryz.prog 93 #[va] w λe w'=>∃ v',e=.returned v'/\w'.ownsRow w.heap.size 122 1 v' (limbs (hval ls)).length (ints .u32 (limbs (hval ls)))/\Below w.heap.size w w':=by
 obtain⟨p,c,rfl,iD,fO,dv⟩:=hr.i64;obtain⟨i0,hi,jN,kM,mZ⟩:=info_parts gW;obtain⟨B,hB⟩:∃ B,B=w.heap.size:=⟨_,aa⟩;obtain⟨h,hh⟩:∃ h,h=hval ls:=⟨_,aa⟩;rw[<-hh];have HB:=ab hB;have Hr:=ab hr;have HL:=ab hl;have HX:=ab dv;have HH:=ab hh;rw[<-hB];clear hr hl dv hB hh;refine aE λR' bh=> ?_;go_enter Tryz.func93,Tryz.ntmps93
 go_wp2_with fail
 refine (yD p n c ls _ Hr.out HL.out).mono ?_;rintro e w1 ⟨⟨m,hm,rfl,uL⟩,rfl⟩;have nc:(halves h).length=m:=by rw[HH.out,uL,aR,HX.out];omega
 have sq:=Rd.BO Hr.out hm;rw[<-uL,<-HH.out] at sq;have KH:=ab nc;have HRD:=ab sq;clear nc sq uL;go_wp2_with fail
 go_loopw [3,4] (λov iv wr=>LimbInv w B m (halves h) ov iv wr) (λ_ iv _=>m+2-(intOf iv).toNat)
 case atStart=>exact⟨0,[],ae,aa,aa,bR.nil,aa,jh _ _ _ _,dJ _ _⟩
 case round=>
  obtain⟨k,ds,hk,rfl,pT,hdd,hdv,ay,hb⟩:=hrel;have HO:=ab ay;have Ek:=ab pT;have HDD:=ab hdd;have HDV:=ab hdv;have fx:=ab hb;have pV:B<=wr.heap.size:=by have:=hb.size;have:=HB.out;omega
  clear ay pT hdd hdv hb;by_cases Eb:2*k<m
  ·obtain⟨b1,o1,lo,rfl,bS,fo,pU⟩:=(HRD.out.gL HB.out fx.out).cellAt Eb;have JW:=(bC h).at fo;have HLO:Hid ((halves h).getD (2*k) 0=lo):=by show _=_;rw[List.getD,fo];rfl
   clear fo;by_cases hkm1:2*k+1<m
   ·obtain⟨b2,o2,pI,hp2,bO,nG,DZ⟩:=(HRD.out.gL HB.out fx.out).cellAt hkm1;have hhi:=(bC h).at nG;have HHI:Hid ((halves h).getD (2*k+1) 0=pI):=by show _=_;rw[List.getD,nG];rfl
    simp only[Option.some.injEq,Addr.mk.injEq,and_true] at hp2;obtain⟨rfl,rfl⟩:=hp2;clear nG;have hy:(lo:Int)+65536*(pI:Int)=((lo+65536*pI:Nat):Int):=ae;have HY:=ab hy;clear hy;go_wp2_with (at_builtin;go_loud (refine cN aa _ _ 31 aa B 122 i0 (.int .u32 0) 4 jg hi jN kM mZ aa HO.out aa aa HY.out ae ae pV ?_);intro v1 w1 eG gi)
    have qH:=ab eG;have AM:=ab (gi w fx.out);clear eG gi;go_wp2_with fail
    go_roundw
    case rel=>
     have hst:=yF Ek.out HDD.out HDV.out HLO.out HHI.out JW hhi;exact⟨k+1,ds++[lo+65536*pI],ae,by go_num,by simp[Ek.out],hst.1,hst.2,qH.out,AM.out⟩
    case measure=>simp[intOf];omega
   ·have HHI:Hid ((halves h).getD (2*k+1) 0=0):=by show _=_;rw[List.getD,ld (by rw[KH.out];omega)];rfl
    go_wp2_with (at_builtin;go_loud (refine cN aa _ _ 31 aa B 122 i0 (.int .u32 0) 4 jg hi jN kM mZ aa HO.out aa aa aa ae ae pV ?_);intro v1 w1 eG gi)
    have qH:=ab eG;have AM:=ab (gi w fx.out);clear eG gi;go_wp2_with fail
    go_roundw
    case rel=>
     have hst:=yF Ek.out HDD.out HDV.out HLO.out HHI.out JW ae;rw[jT,ia] at hst;exact⟨k+1,ds++[lo],ae,by go_num,by simp[Ek.out],hst.1,hst.2,qH.out,AM.out⟩
    case measure=>simp[intOf];omega
  ·go_wp2_with fail
   have hval:ag ds=h:=by
    rw[HDV.out];show val 65536 _=_;rw[dW (by rw[KH.out];omega)];exact aP h
   have hcan:=BP Ek.out HDD.out hval KH.out hk;refine bh.out _ _ ⟨_,aa,?_,fx.out⟩;rw[hcan,Ek.out];exact HO.out
set_option maxRecDepth 100000 in
theorem Eu (va:Value) (n:Nat) (xs:List Nat) (w:World) (hr:Rd w 1 va n (ints .u32 xs)) (hl:bR xs) (hn:n<=1073741824):
  Calls Tryz.prog 89 #[va] w λe w'=>∃ v',e=.returned v'/\w'.ownsRow w.heap.size 122 1 v' (limbs (ag xs)).length (ints .u32 (limbs (ag xs)))/\Below w.heap.size w w':=by
 obtain⟨p,c,rfl,iD,fO,dv⟩:=hr.u32;have Hr:=ab hr;have HL:=ab hl;have HX:=ab dv;clear hr hl dv;refine aE λR' bh=> ?_;go_enter Tryz.func89,Tryz.ntmps89
 go_wp2_with fail
 refine (dY _ n xs _ Hr.out HL.out hn).mono ?_;rintro e w1 ⟨v1,rfl,ay,hb⟩;have hlen:=cF HL.out;rw[HX.out] at hlen;have HO:=ab ay;have HB:=ab hb;clear ay hb;go_wp2_with fail
 refine (nK _ _ (halves (ag xs)) _ (Rd.own HO.out) (bC _) ae).mono ?_;rintro e w2 ⟨v2,rfl,ay,hb⟩;rw[aP] at ay;go_wp2_with fail
 exact bh.out _ _ ⟨_,aa,Own.mono ay HB.out.size,HB.out.trans (hb.mono HB.out.size)⟩
def KY (w:World) (B M:Nat) (us ts:List Nat) (ov cv iv:Value) (wr:World):Prop:=
 ∃ (k carry:Nat) (os:List Nat),k<=M+1/\(k=M+1->carry=0)/\iv=.int .i64 (k:Int)/\cv=.int .i64 (carry:Int)/\carry<=1/\os.length=k/\fe os/\
   hval os+65536^k*carry=hval (us.take k)+hval (ts.take k)/\wr.ownsRow B 3 1 ov k (ints .i64 os)/\Below B w wr
variable {us ts:List Nat} {y:Nat}
theorem Ev {carry:Nat} {os:List Nat} (hl:os.length=k) (hh:fe os) (hv:hval os+65536^k*carry=hval (us.take k)+hval (ts.take k)) (hx:us.getD k 0=x) (hy:ts.getD k 0=y):
  fe (os++[(x+y+carry)%65536])/\hval (os++[(x+y+carry)%65536])+65536^(k+1)*((x+y+carry)/65536)=hval (us.take (k+1))+hval (ts.take (k+1)):=by
 refine⟨dp.append hh (dp.cons (cM _ ae) (dp.nil _)),?_⟩;rw[jb,hl,dT];show _=val 65536 _+val 65536 _;rw[bE,bE,hx,hy];exact HT 65536 _ _ x y carry _ _ _ hv aa
theorem fG (h:us.length<=k):us.getD k 0=0:=by rw[List.getD,ld h];rfl
theorem jc (h:fe us) (k:Nat):us.getD k 0<65536:=by
 rw[List.getD];cases hk:us[k]? with
 | none=>simp
 | some x=>exact h.at hk
set_option maxRecDepth 100000 in
theorem IB (va vb:Value) (n m:Nat) (xs ys:List Nat) (w:World) (hr:Rd w 1 va n (ints .u32 xs)) (hs:Rd w 1 vb m (ints .u32 ys)) (hx:bR xs) (hy:bR ys) (hn:n<=1073741824) (hm:m<=1073741824):
  Calls Tryz.prog 72 #[va,vb] w λe w'=>∃ v',e=.returned v'/\w'.ownsRow w.heap.size 122 1 v' (limbs (ag xs+ag ys)).length (ints .u32 (limbs (ag xs+ag ys)))/\Below w.heap.size w w':=by
 obtain⟨p,c,rfl,iD,fO,dv⟩:=hr.u32;obtain⟨q,d,rfl,JX,DJ,ij⟩:=hs.u32;obtain⟨i0,hi,jN,kM,mZ⟩:=info_parts uP;obtain⟨B,hB⟩:∃ B,B=w.heap.size:=⟨_,aa⟩;have HB:=ab hB;have Hr:=ab hr;have Hs:=ab hs;have HL:=ab hx;have HM:=ab hy;have sn:=cF hx;have mY:=cF hy;rw[dv] at sn;rw[ij] at mY;obtain⟨a,ha⟩:∃ a,a=ag xs:=⟨_,aa⟩;obtain⟨b,hb⟩:∃ b,b=ag ys:=⟨_,aa⟩;rw[<-ha] at sn ⊢;rw[<-hb] at mY ⊢;rw[<-hB];have HA:=ab ha;have HBb:=ab hb;clear hr hs hx hy dv ij ha hb hB;refine aE λR' bh=> ?_;go_enter Tryz.func72,Tryz.ntmps72
 go_wp2_with fail
 refine (dY _ n xs _ Hr.out HL.out hn).mono ?_;rintro e w1 ⟨v1,rfl,ay,bS⟩;rw[<-HA.out,<-HB.out] at ay;rw[<-HB.out] at bS;have qH:=ab ay;have AM:=ab bS;clear ay bS;go_wp2_with fail
 refine (dY _ m ys _ (Hs.out.gL HB.out AM.out) HM.out hm).mono ?_;rintro e w2 ⟨v2,rfl,ay,bO⟩;rw[<-HBb.out] at ay;have hB1s:B<=w1.heap.size:=by have:=AM.out.size;have:=HB.out;omega
 have HO1b:=ab (Own.below qH.out bO);have mV:=ab (Own.mono ay hB1s);have tN:=ab (AM.out.trans (bO.mono hB1s));have hB2s:B<=w2.heap.size:=by have:=bO.size;omega
 clear ay bO qH AM;obtain⟨p1,c1,rfl,h11,h12,_⟩:=(Rd.own HO1b.out).i64;obtain⟨p2,c2,rfl,h21,h22,_⟩:=(Rd.own mV.out).i64;generalize Kc:(halves a).length=la at*;generalize DM:(halves b).length=lb at*;have Kb:=ab Kc;have Kd:=ab DM;clear Kc DM;obtain⟨M,hMa,hMb,hMu,hM⟩:∃ M,la<=M/\lb<=M/\M<=2147483648/\(la<lb/\M=lb\/lb<=la/\M=la):=⟨max la lb,ae,ae,ae,ae⟩;obtain⟨B2,KZ⟩:∃ B2,B2=w2.heap.size:=⟨_,aa⟩;have Ew:=ab KZ;have La:B<=B2:=ae;clear KZ;rcases hM with ⟨pA,rfl⟩|⟨pA,rfl⟩
 all_goals
  go_wp2_with fail
  go_loopw [7,8,9] (λov cv iv wr=>KY w2 B2 M (halves a) (halves b) ov cv iv wr) (λ_ cv iv _=>2*(M-(intOf iv).toNat)+(intOf cv).toNat)
  case atStart=>exact⟨0,0,[],ae,λ_=>aa,aa,aa,ae,aa,dp.nil _,aa,jh _ _ _ _,dJ _ _⟩
  case round=>
   obtain⟨k,carry,os,hk,uQ,rfl,rfl,hc,hol,hoh,hov,ay,ni⟩:=hrel;have HO:=ab ay;have HOL:=ab hol;have HOH:=ab hoh;have HOV:=ab hov;have HK1:=ab uQ;have fx:=ab ni;have pV:B2<=wr.heap.size:=by have:=ni.size;have:=Ew.out;omega
   have HRA:=ab ((Rd.own HO1b.out).gL Ew.out ni);have HRB:=ab ((Rd.own mV.out).gL Ew.out ni);have hgx:=jc (bC a) k;have hgy:=jc (bC b) k;have hxy0:M<=k->(halves a).getD k 0=0/\(halves b).getD k 0=0:=λh=>⟨fG (by rw[Kb.out];omega),fG (by rw[Kd.out];omega)⟩;clear ay hol hoh hov uQ ni;generalize hx:(halves a).getD k 0=x at*;generalize hy:(halves b).getD k 0=y at*;have HX:=ab hx;have HY:=ab hy;have HXY0:=ab hxy0;clear hx hy hxy0;have hkk:k=M+1->carry=0:=HK1.out;by_cases hkM:k<M\/0<carry
   ·clear hkk
    have hguard:decide (k<M)=true\/decide (k<M)=false/\0<carry:=by
     by_cases h:k<M
     ·left;simpa using h
     ·right;exact⟨by simpa using h,ae⟩
    have HSUM:Hid (((x:Int)+(y:Int)+(carry:Int)).tmod 65536=(((x+y+carry)%65536:Nat):Int)):=by show _=_;rw[AY ae];omega
    rcases hguard with hg|⟨hg,hg2⟩
    all_goals
     go_wp2_with fail
     refine (gh _ _ k (halves a) _ HRA.out).mono ?_;rintro e w3 ⟨rfl,rfl⟩;rw[HX.out];go_wp2_with fail
     refine (gh _ _ k (halves b) _ HRB.out).mono ?_;rintro e w3 ⟨rfl,rfl⟩;rw[HY.out];go_wp2_with (at_builtin;refine cN aa _ _ 27 aa B2 3 i0 (.int .i64 0) 8 yh hi jN kM mZ aa HO.out aa aa (d:=(x+y+carry)%65536) ae ae ae pV ?_;intro v1 w3 eG gi)
     have Iz:=ab eG;have KR:=ab (gi w2 fx.out);clear eG gi;go_wp2_with fail
     go_roundw
     case rel=>
      have hst:=Ev HOL.out HOH.out HOV.out HX.out HY.out;exact⟨k+1,(x+y+carry)/65536,os++[(x+y+carry)%65536],by have:=HK1.out;have:=HXY0.out;omega,by have:=HK1.out;have:=HXY0.out;omega,by go_num,by go_num,ae,by simp[HOL.out],hst.1,hst.2,Iz.out,KR.out⟩
     case measure=>simp[intOf];have:=HXY0.out;omega
   ·have ry:carry=0:=by omega
    have hkM':M<=k:=ae;have HC0:=ab ry;have hg1:decide (k<M)=false:=by simp;omega
    have hg2:¬ (0<(carry:Int)):=ae;have hks:k<=M+1:=ae;clear hkk;clear ry;go_wp2_with fail
    refine (nK _ _ os _ (Rd.own HO.out) HOH.out ae).mono ?_;rintro e w3 ⟨v3,rfl,ay,dc⟩
    have hval:hval os=a+b:=by
     have:=HOV.out;rw[HC0.out,jT,ia] at this;rw[this];show val 65536 _+val 65536 _=_;rw[dW (by rw[Kb.out];omega),dW (by rw[Kd.out];omega)];show hval _+hval _=_;rw[aP,aP]
    rw[hval] at ay;go_wp2_with fail
    exact bh.out _ _ ⟨_,aa,Own.mono ay ae,(tN.out.trans (fx.out.mono La)).trans (dc.mono ae)⟩
def CmpInv (w:World) (us ts:List Nat) (M:Nat) (iv:Value) (wr:World):Prop:=
 ∃ k:Nat,k<=M/\iv=.int .i64 ((k:Int)-1)/\hval us+hval (ts.take k)=hval ts+hval (us.take k)/\w=wr
theorem gX (us:List Nat):hval (us.take 0)=0:=by simp[hval,val]
theorem BQ (hx:us.getD k 0=x) (hy:ts.getD k 0=x) (h:hval us+hval (ts.take (k+1))=hval ts+hval (us.take (k+1))):hval us+hval (ts.take k)=hval ts+hval (us.take k):=by
 have h1:hval (ts.take (k+1))=hval (ts.take k)+65536^k*x:=by rw[<-hy];exact bE 65536 ts k
 have h2:hval (us.take (k+1))=hval (us.take k)+65536^k*x:=by rw[<-hx];exact bE 65536 us k
 omega
theorem tQ (hu:fe us) (hx:us.getD k 0=x) (hy:ts.getD k 0=y) (Gq:x<y) (h:hval us+hval (ts.take (k+1))=hval ts+hval (us.take (k+1))):hval us<hval ts:=by
 have h1:hval (ts.take (k+1))=hval (ts.take k)+65536^k*y:=by rw[<-hy];exact bE 65536 ts k
 have h2:hval (us.take (k+1))=hval (us.take k)+65536^k*x:=by rw[<-hx];exact bE 65536 us k
 have h3:hval (us.take k)<65536^k:=by
  have h4:=ru (dp.take hu k);have h5:=nu (show 0<65536 by omega) (show (us.take k).length<=k by rw[aR];omega);omega
 have h4:65536^k*x+65536^k<=65536^k*y:=by
  have:=gG (65536^k) (show x+1<=y from Gq)
  rwa [bg,eM] at this
 omega
set_option maxRecDepth 100000 in
theorem sE (va vb:Value) (n m:Nat) (xs ys:List Nat) (w:World) (hr:Rd w 1 va n (ints .u32 xs)) (hs:Rd w 1 vb m (ints .u32 ys)) (hx:bR xs) (hy:bR ys) (hn:n<=1073741824) (hm:m<=1073741824):
  Calls Tryz.prog 94 #[va,vb] w λe w'=>e=.returned (.int .i64 (fb (ag xs) (ag ys)))/\Below w.heap.size w w':=by
 obtain⟨p,c,rfl,iD,fO,dv⟩:=hr.u32;obtain⟨q,d,rfl,JX,DJ,ij⟩:=hs.u32;have Hr:=ab hr;have Hs:=ab hs;have HL:=ab hx;have HM:=ab hy;have sn:=cF hx;have mY:=cF hy;rw[dv] at sn;rw[ij] at mY;obtain⟨a,ha⟩:∃ a,a=ag xs:=⟨_,aa⟩;obtain⟨b,hb⟩:∃ b,b=ag ys:=⟨_,aa⟩;rw[<-ha] at sn ⊢;rw[<-hb] at mY ⊢;have HA:=ab ha;have HBb:=ab hb;clear hr hs hx hy dv ij ha hb;refine aE λR' bh=> ?_;go_enter Tryz.func94,Tryz.ntmps94
 go_wp2_with fail
 refine (dY _ n xs _ Hr.out HL.out hn).mono ?_;rintro e w1 ⟨v1,rfl,ay,bS⟩;rw[<-HA.out] at ay;have qH:=ab (Rd.own ay);have AM:=ab bS;clear ay bS;go_wp2_with fail
 refine (dY _ m ys _ (Hs.out.below AM.out) HM.out hm).mono ?_;rintro e w2 ⟨v2,rfl,ay,bO⟩;rw[<-HBb.out] at ay;have HRA:=ab (qH.out.below bO);have HRB:=ab (Rd.own ay);have tN:=ab (AM.out.trans (bO.mono AM.out.size));clear ay bO qH AM;obtain⟨p1,c1,rfl,h11,h12,_⟩:=HRA.out.i64;obtain⟨p2,c2,rfl,h21,h22,_⟩:=HRB.out.i64;generalize Kc:(halves a).length=la at*;generalize DM:(halves b).length=lb at*;have Kb:=ab Kc;have Kd:=ab DM;clear Kc DM;obtain⟨M,hMa,hMb,hMu,hM⟩:∃ M,la<=M/\lb<=M/\M<=2147483648/\(la<lb/\M=lb\/lb<=la/\M=la):=⟨max la lb,ae,ae,ae,ae⟩;rcases hM with ⟨pA,rfl⟩|⟨pA,rfl⟩
 all_goals
  go_wp2_with fail
  go_loopw [7] (λiv wr=>CmpInv w2 (halves a) (halves b) M iv wr) (λiv _=>(intOf iv+1).toNat)
  case atStart=>exact⟨M,aM _,aa,by
   show val 65536 _+val 65536 _=val 65536 _+val 65536 _;rw[dW (by first|(rw[Kb.out];omega)|(rw[Kd.out];omega)),dW (by first|(rw[Kb.out];omega)|(rw[Kd.out];omega))];omega,rfl⟩
  case round=>
   obtain⟨k,hk,rfl,hv,rfl⟩:=hrel;have HV:=ab hv;clear hv;by_cases h0:k=0
   ·subst h0;go_wp2_with fail
    have e:a=b:=by
     have:=HV.out;rw[gX,gX,aP,aP] at this;omega
    exact bh.out _ _ ⟨lx (by rw[e,qU]),tN.out⟩
   ·obtain⟨j,rfl⟩:∃ j,k=j+1:=⟨k-1,ae⟩;have hjj:((j+1:Nat):Int)-1=(j:Int):=ae;rw[hjj];clear h0 hjj;generalize hx:(halves a).getD j 0=x;generalize hy:(halves b).getD j 0=y;have HX:=ab hx;have HY:=ab hy;clear hx hy;go_wp2_with fail
    refine (gh _ _ j (halves a) _ HRA.out).mono ?_;rintro e w3 ⟨rfl,rfl⟩;rw[HX.out];go_wp2_with fail
    refine (gh _ _ j (halves b) _ HRB.out).mono ?_;rintro e w3 ⟨rfl,rfl⟩;rw[HY.out];rcases yf x y with hlt|heq|Lb
    ·go_wp2_with fail
     have:=tQ (bC a) HX.out HY.out hlt HV.out;rw[aP,aP] at this;exact bh.out _ _ ⟨lx (by rw[jX this]),tN.out⟩
    ·subst heq;go_wp2_with fail
     refine (gh _ _ j (halves a) _ HRA.out).mono ?_;rintro e w3 ⟨rfl,rfl⟩;rw[HX.out];go_wp2_with fail
     refine (gh _ _ j (halves b) _ HRB.out).mono ?_;rintro e w3 ⟨rfl,rfl⟩;rw[HY.out];go_wp2_with fail
     go_roundw
     case rel=>exact⟨j,ae,aa,BQ HX.out HY.out HV.out,aa⟩
     case measure=>simp[intOf]
    ·go_wp2_with fail
     refine (gh _ _ j (halves a) _ HRA.out).mono ?_;rintro e w3 ⟨rfl,rfl⟩;rw[HX.out];go_wp2_with fail
     refine (gh _ _ j (halves b) _ HRB.out).mono ?_;rintro e w3 ⟨rfl,rfl⟩;rw[HY.out];go_wp2_with fail
     have:=tQ (bC b) HY.out HX.out Lb HV.out.symm;rw[aP,aP] at this;exact bh.out _ _ ⟨lx (by rw[jY this]),tN.out⟩
theorem tS {qs:List Nat}:(List.replicate (k+1) 0++qs).set k x=List.replicate k 0++x::qs:=by
 rw[List.replicate_succ',nx,qJ _ _ bc];simp
def Lc (w:World) (B M:Nat) (us ts:List Nat) (ov bv iv:Value) (wr:World):Prop:=
 ∃ (k r:Nat) (ds:List Nat),k<=M/\ds.length=k/\iv=.int .i64 (k:Int)/\bv=.int .i64 (r:Int)/\r<=1/\fe ds/\
   hval ds+hval (ts.take k)=hval (us.take k)+65536^k*r/\wr.ownsRow B 3 1 ov k (ints .i64 ds)/\Below B w wr
theorem wi {d r':Nat} (hl:ds.length=k) (hh:fe ds) (hv:hval ds+hval (ts.take k)=hval (us.take k)+65536^k*r) (hx:us.getD k 0=x) (hy:ts.getD k 0=y)
  (hd:d<65536) (he:x+65536*r'=d+y+r):
  fe (ds++[d])/\hval (ds++[d])+hval (ts.take (k+1))=hval (us.take (k+1))+65536^(k+1)*r':=by
 refine⟨dp.append hh (dp.cons hd (dp.nil _)),?_⟩;have h1:hval (ts.take (k+1))=hval (ts.take k)+65536^k*y:=by rw[<-hy];exact bE 65536 ts k
 have h2:hval (us.take (k+1))=hval (us.take k)+65536^k*x:=by rw[<-hx];exact bE 65536 us k
 rw[jb,hl,h1,h2,dT];exact HW 65536 _ x y r d r' _ _ _ hv he
set_option maxRecDepth 100000 in
theorem yG (va vb:Value) (n m:Nat) (xs ys:List Nat) (w:World) (hr:Rd w 1 va n (ints .u32 xs)) (hs:Rd w 1 vb m (ints .u32 ys)) (hx:bR xs) (hy:bR ys) (hn:n<=1073741824) (hm:m<=1073741824):
  Calls Tryz.prog 73 #[va,vb] w λe w'=>((ag xs<ag ys/\e=.returned (.tuple #[.slice none 0 0,.int .i64 2]))\/
   (ag ys<=ag xs/\∃ v',e=.returned (.tuple #[v',.int .i64 0])/\w'.ownsRow w.heap.size 122 1 v' (limbs (ag xs-ag ys)).length (ints .u32 (limbs (ag xs-ag ys)))))/\Below w.heap.size w w':=by
 obtain⟨p,c,rfl,iD,fO,dv⟩:=hr.u32;obtain⟨q,d,rfl,JX,DJ,ij⟩:=hs.u32;obtain⟨i0,hi,jN,kM,mZ⟩:=info_parts uP;have Hr:=ab hr;have Hs:=ab hs;have HL:=ab hx;have HM:=ab hy;have sn:=cF hx;have mY:=cF hy;rw[dv] at sn;rw[ij] at mY;obtain⟨a,ha⟩:∃ a,a=ag xs:=⟨_,aa⟩;obtain⟨b,hb⟩:∃ b,b=ag ys:=⟨_,aa⟩;rw[<-ha] at sn ⊢;rw[<-hb] at mY ⊢;have HA:=ab ha;have HBb:=ab hb;clear hr hs hx hy dv ij ha hb;refine aE λR' bh=> ?_;go_enter Tryz.func73,Tryz.ntmps73
 go_wp2_with fail
 refine (sE _ _ n m xs ys _ Hr.out Hs.out HL.out HM.out hn hm).mono ?_;rintro e w0 ⟨rfl,ng⟩;rw[<-HA.out,<-HBb.out];have HB0:=ab ng;have hB0s:=ng.size;clear ng;by_cases pA:a<b
 ·have hc:fb a b<0:=ic.2 pA;generalize fb a b=cv at hc ⊢;go_wp2_with fail
  exact bh.out _ _ ⟨.inl ⟨pA,aa⟩,HB0.out⟩
 ·have hc:0<=fb a b:=by have:=mt (@ic a b).1 pA;omega
  generalize fb a b=cv at hc ⊢;have hlen:(halves b).length<=(halves a).length:=cK ae ae;have HAB:=ab pA;clear pA;go_wp2_with fail
  refine (dY _ n xs _ (Hr.out.below HB0.out) HL.out hn).mono ?_;rintro e w1 ⟨v1,rfl,ay,bS⟩;rw[<-HA.out] at ay;have qH:=ab (Rd.own ay);have AM:=ab (HB0.out.trans (bS.mono hB0s));have hB1s:=bS.size;clear ay bS;go_wp2_with fail
  refine (dY _ m ys _ (Hs.out.below AM.out) HM.out hm).mono ?_;rintro e w2 ⟨v2,rfl,ay,bO⟩;rw[<-HBb.out] at ay;have HRA0:=ab (qH.out.below bO);have HRB0:=ab (Rd.own ay);have tN:=ab (AM.out.trans (bO.mono AM.out.size));have hB2s:=bO.size;clear ay bO qH AM;obtain⟨p1,c1,rfl,h11,h12,_⟩:=HRA0.out.i64;obtain⟨p2,c2,rfl,h21,h22,_⟩:=HRB0.out.i64;generalize Kc:(halves a).length=la at*;generalize DM:(halves b).length=lb at*;have Kb:=ab Kc;have Kd:=ab DM;clear Kc DM;obtain⟨B2,KZ⟩:∃ B2,B2=w2.heap.size:=⟨_,aa⟩;have Ew:=ab KZ;have La:w.heap.size<=B2:=ae;clear KZ;go_wp2_with fail
  go_loopw [8,9,10] (λov bv iv wr=>Lc w2 B2 la (halves a) (halves b) ov bv iv wr) (λ_ _ iv _=>la-(intOf iv).toNat)
  case atStart=>exact⟨0,0,[],cD _,aa,aa,aa,ae,dp.nil _,by rw[gX,gX];simp[hval,val],jh _ _ _ _,dJ _ _⟩
  case round=>
   obtain⟨k,r,ds,hk,pT,rfl,rfl,sx,hdh,hdv,ay,ni⟩:=hrel;have HO:=ab ay;have Ek:=ab pT;have HDH:=ab hdh;have HDV:=ab hdv;have fx:=ab ni;have pV:B2<=wr.heap.size:=by have:=ni.size;have:=Ew.out;omega
   have HRB:=ab (HRB0.out.gL Ew.out ni);clear ay pT hdh hdv;by_cases DN:k<la
   ·obtain⟨b1,o1,x,rfl,_,fo,pU⟩:=(HRA0.out.gL Ew.out ni).cellAt DN;have ja:=(bC a).at fo;have HX:Hid ((halves a).getD k 0=x):=by show _=_;rw[List.getD,fo];rfl
    have yv:=jc (bC b) k;clear fo ni;generalize hy:(halves b).getD k 0=y at*;have HY:=ab hy;clear hy;have Gy:(0:Int)<=(k:Int):=ae;have uQ:(k:Int)<(la:Int):=ae;have ss:IntKind.i64.wrap ((x:Int)-(y:Int))=(x:Int)-(y:Int):=bj _ ae;have hw2:IntKind.i64.wrap ((x:Int)-(y:Int)-(r:Int))=(x:Int)-(y:Int)-(r:Int):=bj _ ae
    have rk:∀ j:Nat,Calls Tryz.prog 92 #[.slice p2 lb c2,.int .i64 (k:Int)] (wr.drewN j) λe w'=>e=.returned (.int .i64 (y:Int))/\wr.drewN j=w':=λj=>by
     have:=gh _ _ k (halves b) _ (Rd.drewN HRB.out j)
     rwa [HY.out] at this
    have HAT:=ab rk;clear rk;go_wp2_with fail
    go_quiet ((go_at_call 92;exact vH (HAT.out _) ⟨_,aa⟩))
    clear ss hw2 Gy uQ pU;by_cases hneg:(x:Int)-(y:Int)-(r:Int)<0
    ·go_wp2_with (at_builtin;refine cN (w:=wr.drewN nq) aa _ _ 27 aa B2 3 i0 (.int .i64 0) 8 yh hi jN kM mZ aa (Own.drewN HO.out nq) aa aa (d:=x+65536-y-r) ae ae ae pV ?_;intro v1 w3 eG gi)
     have Iz:=ab eG;have KR:=ab (gi w2 (Below.drewN fx.out nq));clear eG gi;go_wp2_with fail
     go_roundw
     case rel=>
      have hst:=wi (d:=x+65536-y-r) (r':=1) Ek.out HDH.out HDV.out HX.out HY.out ae ae;exact⟨k+1,1,ds++[x+65536-y-r],ae,by simp[Ek.out],by go_num,rfl,ae,hst.1,hst.2,Iz.out,KR.out⟩
     case measure=>simp[intOf];omega
    ·go_wp2_with (at_builtin;refine cN (w:=wr.drewN nq) aa _ _ 27 aa B2 3 i0 (.int .i64 0) 8 yh hi jN kM mZ aa (Own.drewN HO.out nq) aa aa (d:=x-y-r) ae ae ae pV ?_;intro v1 w3 eG gi)
     have Iz:=ab eG;have KR:=ab (gi w2 (Below.drewN fx.out nq));clear eG gi;go_wp2_with fail
     go_roundw
     case rel=>
      have hst:=wi (d:=x-y-r) (r':=0) Ek.out HDH.out HDV.out HX.out HY.out ae ae;exact⟨k+1,0,ds++[x-y-r],ae,by simp[Ek.out],by go_num,rfl,ae,hst.1,hst.2,Iz.out,KR.out⟩
     case measure=>simp[intOf];omega
   ·obtain rfl:k=la:=by omega
    clear ni;go_wp2_with fail
    refine (nK _ k ds _ (Rd.own HO.out) HDH.out ae).mono ?_;rintro e w4 ⟨v4,rfl,ay,fv⟩
    have hval:hval ds=a-b:=by
     have h1:=HDV.out
     have e1:hval ((halves a).take k)=a:=by
      show val 65536 _=_;rw[dW (dI Kb.out)];exact aP a
     have e2:hval ((halves b).take k)=b:=by
      show val 65536 _=_;rw[dW (by rw[Kd.out];exact hlen)];exact aP b
     rw[e1,e2] at h1;have h3:=ru HDH.out;rw[Ek.out] at h3;have hba:=HAB.out
     have:r=0:=by
      rcases lg r with h|h
      ·exact h
      ·have:r=1:=by omega
       subst this;omega
     subst this;omega
    rw[hval] at ay;have HOWN:=ab ay;clear ay;go_wp2_with fail
    refine bh.out _ _ ⟨.inr ⟨by have:=HAB.out;omega,v4,rfl,?_⟩,(tN.out.trans (fx.out.mono La)).trans (fv.mono ae)⟩;exact Own.mono HOWN.out ae
inductive AV where
 | val (v:Value)
 | box (i off:Nat)
 | pJ (i off:Nat)
 | row (i o n c:Nat)
 | fn (g:FuncId) (first:List Value) (cap:List (Nat×Nat))
 | agg (l:List AV)
 | kc (l:List AV)
def AV.leaf (β:Nat->Nat):AV->Value
 | .val v=>v
 | .box i off=>.pointer (some ⟨β i,off,none⟩)
 | .pJ i off=>.pointer (some ⟨β i,off,none⟩)
 | .row i o n c=>.slice (some ⟨β i,o,none⟩) n c
 | .fn g first cap=>.func (.func g) first.toArray (cap.map λp=>Value.pointer (some ⟨β p.1,p.2,none⟩)).toArray
 | .agg _=>undef
 | .kc _=>undef
def AV.iQ (β:Nat->Nat):AV->Value
 | .val v=>v
 | .box i off=>.pointer (some ⟨β i,off,none⟩)
 | .pJ i off=>.pointer (some ⟨β i,off,none⟩)
 | .row i o n c=>.slice (some ⟨β i,o,none⟩) n c
 | .fn g first cap=>.func (.func g) first.toArray (cap.map λp=>Value.pointer (some ⟨β p.1,p.2,none⟩)).toArray
 | .agg l=>.agg (l.map (AV.leaf β)).toArray
 | .kc _=>undef
def AV.aN (β:Nat->Nat):AV->Value
 | .val v=>v
 | .box i off=>.pointer (some ⟨β i,off,none⟩)
 | .pJ i off=>.pointer (some ⟨β i,off,none⟩)
 | .row i o n c=>.slice (some ⟨β i,o,none⟩) n c
 | .fn g first cap=>.func (.func g) first.toArray (cap.map λp=>Value.pointer (some ⟨β p.1,p.2,none⟩)).toArray
 | .agg l=>.agg (l.map (AV.leaf β)).toArray
 | .kc l=>.tuple (l.map (AV.iQ β)).toArray
def AV.dP:AV->List Nat
 | .box i _=>[i]
 | .pJ i _=>[i]
 | .row i _ _ _=>[i]
 | .fn _ _ cap=>cap.map (·.1)
 | _=>[]
def aC:List AV->List Nat
 | []=>[]
 | v::r=>v.dP++aC r
def AV.sF:AV->List Nat
 | .box i _=>[i]
 | .pJ i _=>[i]
 | .row i _ _ _=>[i]
 | .fn _ _ cap=>cap.map (·.1)
 | .agg l=>aC l
 | _=>[]
def zU:List AV->List Nat
 | []=>[]
 | v::r=>v.sF++zU r
def AV.ids:AV->List Nat
 | .box i _=>[i]
 | .pJ i _=>[i]
 | .row i _ _ _=>[i]
 | .fn _ _ cap=>cap.map (·.1)
 | .agg l=>aC l
 | .kc l=>zU l
 | .val _=>[]
def dG:List AV->List Nat
 | []=>[]
 | v::r=>v.ids++dG r
variable {l:List AV} {i:Nat}
theorem bl:i∈aC l↔∃ v∈l,i∈v.dP:=by
 induction l with
 | nil=>exact⟨λh=>(by cases h),λ⟨_,h,_⟩=>(by cases h)⟩
 | cons x r ih=>rw[aC,fU,ih];simp
theorem mh:i∈zU l↔∃ v∈l,i∈v.sF:=by
 induction l with
 | nil=>exact⟨λh=>(by cases h),λ⟨_,h,_⟩=>(by cases h)⟩
 | cons x r ih=>rw[zU,fU,ih];simp
theorem xK:i∈dG l↔∃ v∈l,i∈v.ids:=by
 induction l with
 | nil=>exact⟨λh=>(by cases h),λ⟨_,h,_⟩=>(by cases h)⟩
 | cons x r ih=>rw[dG,fU,ih];simp
variable {β bG:Nat->Nat}
theorem sG {cap:List (Nat×Nat)} (h:∀ i∈cap.map (·.1),bG i=β i):(cap.map λp=>Value.pointer (some ⟨bG p.1,p.2,none⟩))=cap.map λp=>Value.pointer (some ⟨β p.1,p.2,none⟩):=
 vv λp hp=>by rw[h p.1 (cU.2 ⟨p,hp,rfl⟩)]
theorem AV.Ex:∀ {v:AV},(∀ i∈v.dP,bG i=β i)->v.leaf bG=v.leaf β
 | .val _,_=>rfl
 | .box i off,h=>by simp only[AV.leaf,h i (by simp[AV.dP])]
 | .pJ i off,h=>by simp only[AV.leaf,h i (by simp[AV.dP])]
 | .row i o n c,h=>by simp only[AV.leaf,h i (by simp[AV.dP])]
 | .fn g first cap,h=>by simp only[AV.leaf,sG h]
 | .agg _,_=>rfl
 | .kc _,_=>rfl
theorem ik (h:∀ i∈aC l,bG i=β i):l.map (AV.leaf bG)=l.map (AV.leaf β):=
 vv λv hv=>AV.Ex λi hi=>h i (bl.2 ⟨v,hv,hi⟩)
theorem AV.BR:∀ {v:AV},(∀ i∈v.sF,bG i=β i)->v.iQ bG=v.iQ β
 | .val _,_=>rfl
 | .box i off,h=>by simp only[AV.iQ,h i (by simp[AV.sF])]
 | .pJ i off,h=>by simp only[AV.iQ,h i (by simp[AV.sF])]
 | .row i o n c,h=>by simp only[AV.iQ,h i (by simp[AV.sF])]
 | .fn g first cap,h=>by simp only[AV.iQ,sG h]
 | .agg l,h=>by simp only[AV.iQ,ik (l:=l) h]
 | .kc _,_=>rfl
theorem AV.wj:∀ {v:AV},(∀ i∈v.ids,bG i=β i)->v.aN bG=v.aN β
 | .val _,_=>rfl
 | .box i off,h=>by simp only[AV.aN,h i (by simp[AV.ids])]
 | .pJ i off,h=>by simp only[AV.aN,h i (by simp[AV.ids])]
 | .row i o n c,h=>by simp only[AV.aN,h i (by simp[AV.ids])]
 | .fn g first cap,h=>by simp only[AV.aN,sG h]
 | .agg l,h=>by simp only[AV.aN,ik (l:=l) h]
 | .kc l,h=>by
   have:l.map (AV.iQ bG)=l.map (AV.iQ β):=vv λv hv=>AV.BR λi hi=>h i (mh.2 ⟨v,hv,hi⟩);simp only[AV.aN,this]
def Fr:=Nat->Option AV
def Hp:=Nat->Option (TypeId×List AV)
def Fr.put (F:Fr) (d:Nat) (v:AV):Fr:=λn=>bif Nat.beq n d then some v else F n
def Fr.bm (F:Fr):Option Nat->AV->Fr
 | none,_=>F
 | some d,v=>F.put d v
def Hp.put (H:Hp) (d:Nat) (c:TypeId×List AV):Hp:=λn=>bif Nat.beq n d then some c else H n
def Hp.upd (H:Hp):Option (Nat×(TypeId×List AV))->Hp
 | none=>H
 | some x=>H.put x.1 x.2
def Hp.eO (H:Hp):List (Nat×(TypeId×List AV))->Hp
 | []=>H
 | x::r=>(H.put x.1 x.2).eO r
def AV.mi (i:Nat) (ρ:AV->Value) (x:AV):AV:=bif x.dP.any (Nat.beq i) then .val (ρ x) else x
def AV.fg1 (i:Nat) (ρ:AV->Value):AV->AV
 | .agg l=>.agg (l.map (AV.mi i ρ))
 | x=>x.mi i ρ
def AV.fg (i:Nat) (ρ:AV->Value):AV->AV
 | .agg l=>.agg (l.map (AV.mi i ρ))
 | .kc l=>.kc (l.map (AV.fg1 i ρ))
 | x=>x.mi i ρ
def Fr.forget (F:Fr):Option Nat->(AV->Value)->Fr
 | none,_=>F
 | some i,ρ=>λn=>match F n with
   | some v=>some (v.fg i ρ)
   | none=>none
def Hp.forget (H:Hp):Option Nat->(AV->Value)->Hp
 | none,_=>H
 | some i,ρ=>λn=>bif Nat.beq n i then none else match H n with
   | some (t,cs)=>some (t,cs.map (AV.mi i ρ))
   | none=>none
structure TI where
 size:Nat
 agg:Bool
 zero:Value
 places:Array (Nat×Nat)
 BS:Array Bool
 bool:Bool
 elem:Option (TypeId×Nat)
 kind:Option IntKind
 ptr:Bool:=false
 arr:Option Nat:=none
 void:Bool:=false
 bpl:Array (Nat×Nat):=places
def sH:Value->Bool
 | .string _=>true
 | _=>false
structure TI.Ok (P:Program) (t:TypeId) (i:TI):Prop where
 row:∃ d,P.underlying t=some d/\d.isRow=i.agg
 size:(P.info? t).map (·.size)=some i.size
 isBool:i.bool=true->P.underlying t=some .bool
 isSlice:∀ e n,i.elem=some (e,n)->P.underlying t=some (.slice e)/\∀ w,(sizeOf e).run P w=.ok n w
 isInt:∀ k,i.kind=some k->P.underlying t=some (.int k)
 BU:i.ptr=true->P.underlying t=some (.pointer (P.pointee t)):=by exact λh=>by cases h
 isStr:sH i.zero=true->P.underlying t=some .string:=by exact λh=>by cases h
 GJ:∀ n,i.arr=some n->∃ e,P.underlying t=some (.array n e)/\(∀ w,(sizeOf e).run P w=.ok 1 w)/\∀ w,(isAgg e).run P w=.ok false w:=by exact λ_ h=>by cases h
 lone:i.agg=false->i.size=1
 tT:i.zero.cells.size=i.size
 wk:(P.info? t).map (·.zero)=some (some i.zero)
 bytes:(P.info? t).map (λq=>Nat.ble q.bytes (24*i.size))=some true
 pos:i.void=false->0<i.size
 zero:∀ w,(zeroValue t).run P w=.ok i.zero w
 Ey:∀ k p,i.places[k]? =some p->∀ b o w,(Instr.fieldAt t (.pointer (some ⟨b,o,none⟩)) k).run P w=.ok (.pointer (some ⟨b,o+p.1,none⟩)) w
 fld:∀ k p,i.places[k]? =some p->∀ cs w v,(match i.BS[k]? with|some true=>some (Value.agg (cs.extract p.1 (p.1+p.2)))|some false=>cs[p.1]? |none=>none)=some v->(Instr.field t (.agg cs) k).run P w=.ok v w
 bld:i.agg=true->∀ ps w cs,Instr.fill (i.bpl[·]?) i.zero.cells ps.toList=some cs->(Instr.build t ps).run P w=.ok (.agg cs) w
structure KC where
 U:TypeId
 S:Nat->Prop
 T:TypeId->Bool
def KC.fz (K:KC) (t:TypeId):Bool:=Nat.beq t K.U || K.T t
abbrev KU (U:TypeId):KC:=⟨U,λ_=>True,λ_=>false⟩
def aK:Value->Bool
 | .agg _=>false
 | .tuple _=>false
 | .int .u32 _=>false
 | _=>true
def aF:AV->Bool
 | .val v=>aK v
 | .agg _=>false
 | .kc _=>false
 | _=>true
theorem wm (h:aK v=true):v.oneCell'=true:=by
 unfold aK at h
 split at h <;> first|cases h|skip
 unfold Value.oneCell'
 split <;> simp_all
theorem nL:∀ {x:AV},aF x=true->aK (x.leaf β)=true
 | .val _,h=>h
 | .box _ _,_=>rfl
 | .pJ _ _,_=>rfl
 | .row _ _ _ _,_=>rfl
 | .fn _ _ _,_=>rfl
 | .agg _,h=>by cases h
 | .kc _,h=>by cases h
theorem dZ (h:l.all aF=true):(l.map (AV.leaf β)).all aK=true:=
 aW.2 λx hx=>by
  obtain⟨y,hy,rfl⟩:=cU.1 hx;exact nL (aW.1 h y hy)
structure aY (K:KC) (w w':World):Prop where
 size:w.heap.size<=w'.heap.size
 cell:∀ a x,K.S a.block->w.cell? a=some (.int .u32 x)->w'.cell? a=some (.int .u32 x)
 block:∀ (t:TypeId) (g:Nat) (cur:Array Value),K.fz t=true->K.S g->w.heap[g]? =some (Obj.cells cur t (0,0))->w'.heap[g]? =some (Obj.cells cur t (0,0))
 map:∀ (g:Nat) es c,w.heap[g]? =some (Obj.map es c)->w'.heap[g]? =some (Obj.map es c)
abbrev Kp (U:TypeId) (w w':World):Prop:=aY (KU U) w w'
theorem aY.refl (K:KC) (w:World):aY K w w:=⟨aM _,λ_ _ _ h=>h,λ_ _ _ _ _ h=>h,λ_ _ _ h=>h⟩
variable {K:KC}
theorem aY.aB {b c:World} (h:aY K a b) (k:aY K b c):aY K a c:=
 ⟨bA h.size k.size,λ_ _ s h1=>k.cell _ _ s (h.cell _ _ s h1),λ_ _ _ f s h1=>k.block _ _ _ f s (h.block _ _ _ f s h1),λ_ _ _ h1=>k.map _ _ _ (h.map _ _ _ h1)⟩
theorem aY.of (h:ax w w'):aY K w w':=
 ⟨h.size,λ_ _ _ hc=>h.cell hc,λ_ g _ _ _ hg=>(jk h g (np.1 hg).1).trans hg,λg _ _ hg=>(jk h g (np.1 hg).1).trans hg⟩
variable {U:TypeId}
theorem Kp.aB {b c:World} (h:Kp U a b) (k:Kp U b c):Kp U a c:=aY.aB h k
theorem Kp.of (h:ax w w'):Kp U w w':=aY.of h
theorem aY.xL (h:aY K w w'):aY ⟨K.U,K.S,λ_=>false⟩ w w':=
 ⟨h.size,h.cell,λt g cur f s hg=>h.block t g cur (by
   unfold KC.fz at f ⊢;rw[pk] at f ⊢;exact f.imp id (λe=>by cases e)) s hg,h.map⟩
def kX (H:Hp) (β:Nat->Nat) (i:Nat):Obj:=match H i with
 | some (t,cs)=>.cells (cs.map (AV.leaf β)).toArray t
 | none=>.cells #[] 0
def mkW (H:Hp) (β:Nat->Nat):Nat->World->World
 | 0,w=>w
 | n+1,w=>(mkW H β n w).alloc (kX H β n)
theorem BV (H:Hp) (β:Nat->Nat) (w:World):∀ n,(mkW H β n w).heap.size=w.heap.size+n
 | 0=>rfl
 | n+1=>by show ((mkW H β n w).alloc _).heap.size=_;simp[BV H β w n];omega
theorem uR (H:Hp) (β:Nat->Nat) (w:World):∀ n,ax w (mkW H β n w)
 | 0=>ax.refl w
 | n+1=>(uR H β w n).alloc _
theorem Ez (H:Hp) (β:Nat->Nat) (w:World) {i:Nat} {t:TypeId} {cs:List AV} (h:H i=some (t,cs)):∀ n,i<n->aI (mkW H β n w) (w.heap.size+i) t (cs.map (AV.leaf β)).toArray
 | 0,hi=>ae
 | n+1,hi=>by
   by_cases e:i=n
   ·subst e;show aI ((mkW H β i w).alloc (kX H β i)) _ _ _;have hb:kX H β i=.cells (cs.map (AV.leaf β)).toArray t:=by unfold kX;rw[h]
    rw[hb,<-BV H β w i];exact aI.new _ _ _
   ·exact (Ez H β w h n ae).alloc _
structure Stp (K:KC) (xM:Nat->Nat->Prop) (w w':World):Prop where
 os:w'.os=w.os
 tape:w'.tape=w.tape
 output:w'.output=w.output
 size:w.heap.size<=w'.heap.size
 kX:∀ g,g<w.heap.size->w'.heap[g]? =w.heap[g]?\/((∃ i,xM i g)/\∃ t cs,aI w' g t (List.toArray cs)/\K.fz t=false/\cs.all aK=true)\/¬ K.S g
theorem Stp.aD {xM:Nat->Nat->Prop} (h:ax w w'):Stp K xM w w':=⟨h.os,h.tape,h.output,h.size,λg hg=>.inl (jk h g hg)⟩
variable {w0:World}
theorem EA (h:ax w0 w) (keep:∀ b,b<w0.heap.size->K.S b) (s:Stp K (λ_ g=>w0.heap.size<=g) w w'):ax w0 w':=
 Below.trans h ⟨s.os,s.tape,s.output,s.size,λg hg=>by
  rcases s.kX g (mN hg h.size) with e|⟨⟨_,hi⟩,_⟩|e
  ·exact e
  ·exact absurd hi (Nat.not_le.2 hg)
  ·exact absurd (keep g hg) e⟩
theorem IC {w1:World} {top:Nat} (h:ax w0 w1) (H:Hp) (hf:∀ i,top<=i->H i=none):
  ∃ β w2,aY K w1 w2/\ax w0 w2/\(∀ i t cs,H i=some (t,cs)->w0.heap.size<=β i/\aI w2 (β i) t (cs.map (AV.leaf β)).toArray)/\∀ i j,H i≠none->H j≠none->β i=β j->i=j:=by
 let β:Nat->Nat:=λi=>w1.heap.size+i
 refine⟨β,mkW H β top w1,aY.of (uR H β w1 _),h.aB (uR H β w1 _),λi t cs hi=>⟨?_,Ez H β w1 hi _ ?_⟩,λi j _ _ e=> ?_⟩
 ·have:=h.size;show w0.heap.size<=w1.heap.size+i;omega
 ·apply FX;intro e;rw[hf i ae] at hi;cases hi
 ·change w1.heap.size+i=w1.heap.size+j at e;omega
structure Cx where
 P:Program
 w0:World
 N:Nat
 K:KC
 SU:TypeId->Bool
 ti:TypeId->Option TI
 keep:∀ b,b<w0.heap.size->K.S b
 xM:Nat->Nat->Prop:=λ_ g=>w0.heap.size<=g
 Old:World->Prop:=λw=>ax w0 w
 top:Nat:=2*N
 topN:2*N<=top:=by exact aM _
 BW:∀ i g,i<2*N->w0.heap.size<=g->xM i g:=by exact λ_ _ _ h=>h
 newMv:∀ i j g,xM i g->j<2*N->xM j g:=by exact λ_ _ _ h _=>h
 kf:∀ w,Old w->w0.heap.size<=w.heap.size:=by exact λ_ h=>ax.size h
 oD:Old w0:=by exact ax.refl _
 uS:∀ w w',Old w->(∀ b,b<w0.heap.size->K.S b)->aY K w w'->Stp K xM w w'->Old w':=by exact λ_ _ h k _ s=>EA h k s
 GK:∀ w a u,Old w->(∀ i,¬ xM i a.block)->w0.cell? a=some u->w.cell? a=some u:=by exact λ_ _ _ h _ hc=>ax.cell h hc
 lay:∀ w1 (H:Hp),Old w1->(∀ i t cs,H i=some (t,cs)->K.fz t=false/\cs.all aF=true)->(∀ i,top<=i->H i=none)->
  ∃ β w2,aY K w1 w2/\Old w2/\(∀ i t cs,H i=some (t,cs)->xM i (β i)/\aI w2 (β i) t (cs.map (AV.leaf β)).toArray)/\∀ i j,H i≠none->H j≠none->β i=β j->i=j:=by exact λ_ H h _ hf=>IC h H hf
 ds:List Deferred:=[]
def Cx.pd (C:Cx):Program×List Deferred:=(C.P,C.ds)
theorem Cx.aB (C:Cx) (h:C.Old w) (k:ax w w'):C.Old w':=C.uS _ _ h C.keep (aY.of k) (Stp.aD k)
def Cx.At (C:Cx) (a:Addr) (u:Value):Prop:=∀ w,C.Old w->w.cell? a=some u
def Cx.Ok (C:Cx):Prop:=∀ t i,C.ti t=some i->TI.Ok C.P t i
def ev (F:Fr):Operand->Option AV
 | .tmp t=>F t
 | .const v=>some (.val v)
 | .func f=>some (.val (.func (.func f) #[] #[]))
 | .global _=>none
def gz (F:Fr) (x:Operand):Option Value:=match ev F x with|some (.val v)=>some v|_=>none
def evs (F:Fr):List Operand->Option (List Value)
 | []=>some []
 | x::r=>match gz F x,evs F r with|some v,some l=>some (v::l)|_,_=>none
def pX (F:Fr):List Operand->Option (List AV)
 | []=>some []
 | x::r=>match ev F x,pX F r with|some v,some l=>some (v::l)|_,_=>none
def uT:List AV->Option (List (Nat×Nat))
 | []=>some []
 | .box i off::r=>(match uT r with|some l=>some ((i,off)::l)|none=>none)
 | _::_=>none
def GL (F:Fr) (x:Operand):Option (FuncId×List AV×List AV):=match ev F x with
 | some (.val (.func (.func g) first cap))=>some (g,first.toList.map .val,cap.toList.map .val)
 | some (.fn g first cap)=>some (g,first.map .val,cap.map λp=>.box p.1 p.2)
 | _=>none
def zV (F:Fr):List (Nat×Operand)->Option (List (Nat×AV))
 | []=>some []
 | (k,x)::r=>match ev F x,zV F r with|some v,some l=>some ((k,v)::l)|_,_=>none
def evo (F:Fr):Option Operand->Option (Option Int)
 | none=>some none
 | some x=>match gz F x with|some (.int _ k)=>some (some k)|_=>none
def binI (op:BinOp) (k:IntKind) (a b:Int):Option Value:=
 match op with
 | .eql=>some (.bool (a == b))
 | .neq=>some (.bool (a != b))
 | .lss=>some (.bool (decide (a<b)))
 | .leq=>some (.bool (decide (a<=b)))
 | .gtr=>some (.bool (decide (a>b)))
 | .geq=>some (.bool (decide (a>=b)))
 | .add=>some (.int k (k.wrap (a+b)))
 | .sub=>some (.int k (k.wrap (a-b)))
 | .mul=>some (.int k (k.wrap (a*b)))
 | .quo=>bif decide (b=0) then none else some (.int k (k.wrap (a.tdiv b)))
 | .rem=>bif decide (b=0) then none else some (.int k (a.tmod b))
 | .and=>some (.int k (bits .and k a b))
 | .or=>some (.int k (bits .or k a b))
 | .xor=>some (.int k (bits .xor k a b))
 | .andNot=>some (.int k (bits .andNot k a b))
 | _=>none
def shI (op:BinOp) (k:IntKind) (a b:Int):Option Value:=
 match op with
 | .shl=>some (.int k (k.wrap (a*2^min b.toNat k.bits)))
 | .shr=>some (.int k (a.fdiv (2^min b.toNat k.bits)))
 | _=>none
def isSh:BinOp->Bool
 | .shl=>true
 | .shr=>true
 | _=>false
def binS (op:BinOp) (a b:ByteArray):Option Value:=
 match op with
 | .eql=>some (.bool (a.toList == b.toList))
 | .neq=>some (.bool !(a.toList == b.toList))
 | .lss=>some (.bool (_root_.Go.Op.bytesLess a.toList b.toList))
 | .leq=>some (.bool (_root_.Go.Op.bytesLess a.toList b.toList || a.toList == b.toList))
 | .gtr=>some (.bool !(_root_.Go.Op.bytesLess a.toList b.toList || a.toList == b.toList))
 | .geq=>some (.bool !(_root_.Go.Op.bytesLess a.toList b.toList))
 | _=>none
def binB (op:BinOp) (a b:Bool):Option Value:=
 match op with
 | .eql=>some (.bool (a == b))
 | .neq=>some (.bool (!(a == b)))
 | _=>none
def rz (op:BinOp) (a:Bool):Option Value:=
 match op with
 | .eql=>some (.bool a)
 | .neq=>some (.bool (!a))
 | _=>none
def sameKind:IntKind->IntKind->Bool:=λk l=>decide (k=l)
def binA (op:BinOp):Value->Value->Option Value
 | .int k a,.int l b=>bif isSh op then (bif decide (b<0) then none else shI op k a b) else bif sameKind k l then binI op k a b else none
 | .string a,.string b=>binS op a b
 | _,_=>none
inductive jt where
 | fn (g:FuncId) (args:List AV)
 | op (o:Oper) (vs:List AV)
 | inv (o:Oper) (vs:List AV)
def jt.ids:jt->List Nat
 | .fn _ l=>dG l
 | .op _ l=>dG l
 | .inv _ l=>dG l
inductive Step where
 | dw (v:AV) (u:Option (Nat×(TypeId×List AV)))
 | read (i:TI) (a:Addr)
 | dQ (i:TI) (cs:List AV) (off:Nat)
 | cond (φ:Prop) (v:AV) (u:Option (Nat×(TypeId×List AV)))
 | call (d:jt)
 | bad
def xN:Option AV->Step
 | some v=>.dw v none
 | none=>.bad
def rA:Option Value->Step
 | some v=>.dw (.val v) none
 | none=>.bad
def kP (i:TI) (cs:List Value):Value:=bif i.agg then .agg cs.toArray else cs.headD undef
def eE:List AV->Option (List Value)
 | []=>some []
 | .val v::r=>(match eE r with|some l=>some (v::l)|none=>none)
 | _::_=>none
def GM {α:Type}:List AV->(List Value->α)->α->α
 | [],k,_=>k []
 | .val v::r,k,e=>GM r (λl=>k (v::l)) e
 | _::_,_,e=>e
theorem BX {α:Type}:∀ (l:List AV) (k:List Value->α) (e:α),GM l k e=match eE l with|some vs=>k vs|none=>e
 | [],_,_=>rfl
 | .val v::r,k,e=>by
   show GM r (λl=>k (v::l)) e=match (match eE r with|some l=>some (v::l)|none=>none) with|some vs=>k vs|none=>e
   rw[BX r];cases eE r <;> rfl
 | .box _ _::_,_,_=>rfl
 | .pJ _ _::_,_,_=>rfl
 | .row _ _ _ _::_,_,_=>rfl
 | .fn _ _ _::_,_,_=>rfl
 | .agg _::_,_,_=>rfl
 | .kc _::_,_,_=>rfl
def tU (l:List AV):AV:=match eE l with|some vs=>.val (.agg vs.toArray)|none=>.agg l
def ID {α:Type} (l:List AV) (k:AV->α):α:=GM l (λvs=>k (.val (.agg vs.toArray))) (k (.agg l))
theorem kg {α:Type} (l:List AV) (k:AV->α):ID l k=k (tU l):=by
 unfold ID tU;rw[BX];cases eE l <;> rfl
def lz (i:TI) (cs:List AV):AV:=bif i.agg then tU cs else cs.headD (.val undef)
def gj {α:Type} {γ:Type}:List γ->(List γ->α)->α
 | [],k=>k []
 | x::r,k=>gj r λl=>k (x::l)
theorem bU {α γ:Type}:∀ (l:List γ) (k:List γ->α),gj l k=k l
 | [],_=>rfl
 | x::r,k=>bU r λl=>k (x::l)
def IG {γ:Type}:List γ->Nat->Option γ
 | [],_=>none
 | x::_,0=>some x
 | _::r,k+1=>IG r k
theorem uU {γ:Type}:∀ (l:List γ) (k:Nat),IG l k=l[k]?
 | [],_=>rfl
 | _::_,0=>rfl
 | _::r,k+1=>by rw[IG,uU r k];rfl
def eP:AV->Bool
 | .kc _=>false
 | _=>true
def ju:AV->Bool
 | .agg _=>false
 | .kc _=>false
 | _=>true
def cellsOf:AV->List AV
 | .val v=>v.cells.toList.map .val
 | .agg l=>l
 | x=>[x]
def wu (i:TI) (cs:List AV) (off:Nat):Step:=
 bif Nat.ble (off+i.size) cs.length then gj ((cs.drop off).take i.size) (λl=>bif i.agg then ID l (λv=>.dw v none) else (match l with|x::_=>.dw x none|[]=>.bad)) else .bad
def mj (i:TI) (b:Nat) (t:TypeId) (cs:List AV) (off:Nat) (v:AV):Step:=
 bif Nat.ble (off+i.size) cs.length && Nat.beq (cellsOf v).length i.size && (cellsOf v).all aF
 then gj (cs.take off++(cellsOf v++cs.drop (off+i.size))) (λl=>.dw (.val undef) (some (b,(t,l)))) else .bad
def yH (i:TI) (b:Nat) (t:TypeId) (cs:List AV) (off:Nat) (v:AV):Step:=
 bif Nat.beq (cellsOf v).length i.size && (cellsOf v).all aF
 then .cond (off+i.size<=cs.length) (.val undef) (some (b,(t,cs.take off++(cellsOf v++cs.drop (off+i.size))))) else .bad
def nM (K:KC) (d:Nat) (t:TypeId) (cs:List AV):Option (TypeId×List AV)->Step
 | none=>bif !K.fz t && cs.all aF then gj cs (λl=>.dw (.box d 0) (some (d,(t,l)))) else .bad
 | some _=>.bad
def BZ (sz:Nat):Nat->List (Nat×AV)->Option (List AV)
 | _,[]=>some []
 | k,(j,v)::r=>bif Nat.beq j k && Nat.beq (cellsOf v).length sz && eP v then (match BZ sz (k+1) r with|some l=>some (cellsOf v++l)|none=>none) else none
def tW (K:KC) (d:Nat) (e:TypeId) (n:Nat) (cs:List AV):Option (TypeId×List AV)->Step
 | none=>bif !K.fz e && cs.all aF then gj cs (λl=>.dw (.row d 0 n n) (some (d,(e,l)))) else .bad
 | some _=>.bad
def yI (places:Array (Nat×Nat)) (cells:List AV):List (Nat×AV)->Option (List AV)
 | []=>some cells
 | (i,v)::rest=>match places[i]? with
   | none=>none
   | some p=>bif Nat.beq (cellsOf v).length p.2 && Nat.ble (p.1+p.2) cells.length && eP v then yI places (cells.take p.1++(cellsOf v++cells.drop (p.1+p.2))) rest else none
def dE:Nat->List AV->List AV
 | 0,_=>[]
 | n+1,z=>z++dE n z
def na (F:Fr) (o:Oper):Step:=match pX F o.op.operands.toList with|some vs=>.call (.op o vs)|none=>.bad
def EB (F:Fr) (o:Oper):Step:=match pX F o.op.operands.toList with|some vs=>.call (.inv o vs)|none=>.bad
def wv:List Value->Option (IntKind×List Int)
 | []=>none
 | [.int k a]=>some (k,[a])
 | .int k a::r=>(match wv r with|some (l,xs)=>bif sameKind k l then some (k,a::xs) else none|none=>none)
 | _=>none
def rB:Int->List Int->Int
 | x,[]=>x
 | x,y::r=>rB (if y>x then y else x) r
def Ld:Int->List Int->Int
 | x,[]=>x
 | x,y::r=>Ld (if y<x then y else x) r
def kQ (i:TI) (cs:List AV) (k:Nat):Step:=match i.places[k]?,i.BS[k]? with
 | some p,some true=>gj ((cs.drop p.1).take p.2) (λl=>ID l (λv=>.dw v none))
 | some p,some false=>(match IG cs p.1 with|some x=>bif ju x then .dw x none else .bad|none=>.bad)
 | _,_=>.bad
def act (C:Cx) (F:Fr) (H:Hp) (o:Oper):Step:=
 match o.op with
 | .move x=>xN (ev F x)
 | .assign x=>xN (ev F x)
 | .pick c x y=>match gz F c with|some (.bool t)=>xN (bif t then ev F x else ev F y)|_=>.bad
 | .unOp .not _ x=>match gz F x with|some (.bool t)=>.dw (.val (.bool !t)) none|_=>.bad
 | .unOp .neg _ x=>match gz F x with|some (.int k n)=>.dw (.val (.int k (k.wrap (0-n)))) none|_=>.bad
 | .binOp op t x y _=>match gz F x,gz F y with
   | some (.bool a),some (.bool b)=>(match C.ti t with|some i=>rA (bif i.bool then binB op a b else none)|none=>.bad)
   | some (.pointer p),some (.pointer none)=>(match C.ti t with|some i=>rA (bif i.ptr then rz op p.isNone else none)|none=>.bad)
   | some (.slice p _ _),some (.slice none n c)=>(match C.ti t with|some i=>rA (bif i.elem.isSome && (Nat.beq n 0 && Nat.beq c 0) then rz op p.isNone else none)|none=>.bad)
   | some a,some b=>rA (binA op a b)
   | none,some (.pointer none)=>(match ev F x,C.ti t with
     | some (.box _ _),some i=>rA (bif i.ptr then rz op false else none)
     | some (.pJ _ _),some i=>rA (bif i.ptr then rz op false else none)
     | _,_=>.bad)
   | none,some (.slice none n c)=>(match ev F x,C.ti t with
     | some (.row _ _ _ _),some i=>rA (bif i.elem.isSome && (Nat.beq n 0 && Nat.beq c 0) then rz op false else none)
     | _,_=>.bad)
   | _,_=>.bad
 | .convert s t x=>match C.ti s,C.ti t,gz F x with
   | some _,some i,some (.int _ n)=>(match i.kind with|some k=>.dw (.val (.int k (k.wrap n))) none|none=>.bad)
   | _,_,_=>.bad
 | .extract x k=>match ev F x with
   | some (.val (.tuple vs))=>rA (IG vs.toList k)
   | some (.kc l)=>(match IG l k with|some x=>bif eP x then .dw x none else .bad|none=>.bad)
   | _=>.bad
 | .field t x k=>match ev F x,C.ti t with
   | some (.val (.agg cs)),some i=>kQ i (cs.toList.map .val) k
   | some (.agg l),some i=>kQ i l k
   | _,_=>.bad
 | .fieldAddr t x k=>match ev F x,C.ti t with
   | some (.box b off),some i=>match i.places[k]? with|some p=>.dw (.box b (off+p.1)) none|none=>.bad
   | some (.pJ b off),some i=>match i.places[k]? with|some p=>.dw (.pJ b (off+p.1)) none|none=>.bad
   | some (.val (.pointer (some ⟨b,off,none⟩))),some i=>match i.places[k]? with|some p=>.dw (.val (.pointer (some ⟨b,off+p.1,none⟩))) none|none=>.bad
   | _,_=>.bad
 | .nilCheck x=>match ev F x with
   | some (.box b off)=>.dw (.box b off) none
   | some (.pJ b off)=>.dw (.pJ b off) none
   | some (.val (.pointer (some a)))=>.dw (.val (.pointer (some a))) none
   | _=>.bad
 | .build t ps=>match C.ti t,zV F ps.toList with
   | some i,some l=>match (bif i.agg then yI i.bpl (i.zero.cells.toList.map .val) l else none) with|some cs=>gj cs (λl=>ID l (λv=>.dw v none))|none=>.bad
   | _,_=>.bad
 | .alloc t=>match o.dst,C.ti t with
   | some d,some i=>nM C.K d t (i.zero.cells.toList.map .val) (H d)
   | _,_=>.bad
 | .box t x=>match o.dst,ev F x with
   | some d,some v=>nM C.K d t (cellsOf v) (H d)
   | _,_=>.bad
 | .load t x=>match ev F x,C.ti t with
   | some (.box b off),some i=>match H b with|some (_,cs)=>wu i cs off|none=>.bad
   | some (.pJ b off),some i=>match H b with|some (_,cs)=>.dQ i cs off|none=>.bad
   | some (.val (.pointer (some a))),some i=>.read i a
   | _,_=>.bad
 | .store t x y=>match ev F x,ev F y,C.ti t with
   | some (.box b off),some v,some i=>match H b with|some (tb,cs)=>mj i b tb cs off v|none=>.bad
   | some (.pJ b off),some v,some i=>match H b with|some (tb,cs)=>yH i b tb cs off v|none=>.bad
   | _,_,_=>.bad
 | .makeFunc (.func g) first cap=>match evs F first.toList,pX F cap.toList with
   | some l,some []=>.dw (.val (.func (.func g) l.toArray #[])) none
   | some l,some m=>(match uT m with|some bs=>.dw (.fn g l bs) none|none=>.bad)
   | _,_=>.bad
 | .buildSlice t n ps=>bif C.SU t then na F o else match o.dst,C.ti t,zV F ps.toList with
   | some d,some i,some l=>(match i.elem with
     | some (e,sz)=>(match C.ti e,BZ sz 0 l with
       | some _,some cs=>bif Nat.beq ps.size n && Nat.ble (n*sz) 16777216 then tW C.K d e n cs (H d) else .bad
       | _,_=>.bad)
     | none=>.bad)
   | _,_,_=>.bad
 | .indexAddr t x ix=>match ev F x,gz F ix,C.ti t with
   | some (.val (.slice (some ⟨b,off,none⟩) n _)),some (.int _ k),some i=>(match i.elem with
     | some (_,sz)=>.cond ((0:Int)<=k/\k<(n:Int)) (.val (.pointer (some ⟨b,off+k.toNat*sz,none⟩))) none
     | none=>.bad)
   | some (.row b off n _),some (.int _ k),some i=>(match i.elem with
     | some (_,sz)=>.cond ((0:Int)<=k/\k<(n:Int)) (.pJ b (off+k.toNat*sz)) none
     | none=>.bad)
   | some (.val (.pointer (some ⟨b,off,none⟩))),some (.int _ k),some i=>(match i.arr with
     | some n=>.cond ((0:Int)<=k/\k<(n:Int)) (.val (.pointer (some ⟨b,off+k.toNat,none⟩))) none
     | none=>.bad)
   | some (.box b off),some (.int _ k),some i=>(match i.arr with
     | some n=>.cond ((0:Int)<=k/\k<(n:Int)) (.pJ b (off+k.toNat)) none
     | none=>.bad)
   | _,_,_=>.bad
 | .index t x ix=>match ev F x,gz F ix,C.ti t with
   | some (.val (.agg cs)),some (.int _ k),some i=>(match i.arr with
     | some n=>.cond ((0:Int)<=k/\k<(n:Int)/\n<=cs.size) (.val (cs.getD k.toNat undef)) none
     | none=>.bad)
   | _,_,_=>.bad
 | .makeInterface t x=>match gz F x,C.ti t with
   | some v,some i=>bif i.kind.isSome || i.ptr then .dw (.val (.iface t v)) none else .bad
   | _,_=>.bad
 | .typeAssert x _ t false=>match gz F x,C.ti t with
   | some (.iface u v),some i=>bif Nat.beq u t && (i.kind.isSome || i.ptr) then .dw (.val v) none else .bad
   | _,_=>.bad
 | .makeSlice t l c=>match o.dst,C.ti t,gz F l,gz F c with
   | some d,some i,some (.int _ n),some (.int _ m)=>(match i.elem with
     | some (e,sz)=>(match C.ti e,H d with
       | some ie,none=>bif !C.K.fz e && (!ie.void && ie.zero.cells.toList.all aK) then
        .cond (n=m/\0<=n/\n*(24*(ie.size:Int))<=140737488355328) (.row d 0 n.toNat n.toNat) (some (d,(e,dE n.toNat (ie.zero.cells.toList.map .val)))) else .bad
       | _,_=>.bad)
     | none=>.bad)
   | _,_,_,_=>.bad
 | .slice t x lo hi none=>match ev F x,C.ti t,evo F lo,evo F hi with
   | some (.row b off n c),some i,some l,some h=>(match i.elem with
     | some (_,sz)=>.cond (0<=l.getD 0/\l.getD 0<=h.getD (n:Int)/\h.getD (n:Int)<=(c:Int)/\(c:Int)<=9223372036854775807) (.row b (if c=(l.getD 0).toNat then off else off+(l.getD 0).toNat*sz) ((h.getD (n:Int)).toNat-(l.getD 0).toNat) (c-(l.getD 0).toNat)) none
     | none=>.bad)
   | some (.val (.slice p n c)),some i,some l,some h=>(match i.elem with
     | some (_,sz)=>.cond (0<=l.getD 0/\l.getD 0<=h.getD (n:Int)/\h.getD (n:Int)<=(c:Int)/\(c:Int)<=9223372036854775807) (.val (.slice (if c=(l.getD 0).toNat then p else p.map (·.add ((l.getD 0).toNat*sz))) ((h.getD (n:Int)).toNat-(l.getD 0).toNat) (c-(l.getD 0).toNat))) none
     | none=>.bad)
   | _,_,_,_=>.bad
 | .call c=>match c.callee with
   | .builtin .len=>match c.args.toList,c.argTypes.toList with
     | [x],[t]=>(match ev F x,C.ti t with
       | some (.val (.slice _ n _)),some i=>(match i.elem with|some _=>.dw (.val (.int .i64 (n:Int))) none|none=>.bad)
       | some (.row _ _ n _),some i=>(match i.elem with|some _=>.dw (.val (.int .i64 (n:Int))) none|none=>.bad)
       | some (.val (.string s)),some i=>bif sH i.zero then .dw (.val (.int .i64 (s.size:Int))) none else .bad
       | _,_=>.bad)
     | _,_=>.bad
   | .builtin .max=>match (evs F c.args.toList).bind wv with
     | some (k,x::r)=>.dw (.val (.int k (rB x r))) none
     | _=>.bad
   | .builtin .min=>match (evs F c.args.toList).bind wv with
     | some (k,x::r)=>.dw (.val (.int k (Ld x r))) none
     | _=>.bad
   | .value f=>match GL F f,pX F c.args.toList with
     | some (g,first,cap),some l=>gj (first++(l++cap)) (λl=>.call (.fn g l))
     | _,_=>.bad
   | .invoke _ _=>EB F o
   | _=>na F o
 | _=>na F o
def wants (full:Array Oper) (F:Fr) (o:Oper):Option Bool:=
 match o.guard with
 | none=>some true
 | some (g,b)=>match (full[g]?).bind (·.dst) with
   | none=>none
   | some d=>match F d with
     | some (.val (.bool c))=>some (c == b)
     | some (.val (.tuple _))=>some false
     | _=>none
def il (N:Nat):Option Nat->Bool
 | none=>true
 | some d=>Nat.blt d N
def stepOf (C:Cx) (full:Array Oper) (F:Fr) (H:Hp) (o:Oper):Step:=
 bif il C.N o.dst then (match wants full F o with
  | none=>.bad
  | some false=>.dw (.val undef) none
  | some true=>act C F H o) else .bad
def Le (l:List FuncId) (c:Call):Bool:=match c.callee with | .value (.func g)=>l.any (Nat.beq g)|_=>false
def EC (l:List FuncId) (c:Call):Bool:=match c.callee with | .value (.func g)=>l.any (Nat.beq (g+1000000))|_=>false
def au (su:TypeId->Bool) (l:List FuncId) (o:Oper):Nat:=match o.op with
 | .move _=>0
 | .assign _=>0
 | .pick _ _ _=>0
 | .unOp .not _ _=>0
 | .unOp .neg _ _=>0
 | .binOp _ _ _ _ _=>0
 | .convert _ _ _=>0
 | .extract _ _=>0
 | .field _ _ _=>0
 | .fieldAddr _ _ _=>0
 | .nilCheck _=>0
 | .build _ _=>0
 | .makeFunc (.func _) _ _=>0
 | .indexAddr _ _ _=>0
 | .index _ _ _=>0
 | .makeInterface _ _=>0
 | .typeAssert _ _ _ false=>0
 | .slice _ _ _ _ none=>0
 | .load _ _=>1
 | .alloc _=>2
 | .box _ _=>2
 | .makeSlice _ _ _=>2
 | .buildSlice t _ _=>bif su t then 4 else 2
 | .store _ _ _=>3
 | .call c=>(match c.callee with
   | .builtin .len=>0
   | .builtin .max=>0
   | .builtin .min=>0
   | .builtin .copy=>3
   | .value _=>bif EC l c then 5 else bif Le l c then 3 else 4
   | _=>5)
 | .lookup _ _ _ _=>4
 | _=>5
def Lf:Nat->Nat
 | 3=>1
 | 5=>2
 | _=>0
def lvl (su:TypeId->Bool) (m:Option (List FuncId)) (o:Oper):Nat:=match m with
 | none=>2
 | some l=>Lf (au su l o)
def rC (P:Program) (g:FuncId):Prop:=∃ fn,P.funcs[g]? =some fn/\(fn.name == "runtime.NumGoroutine")=false/\fn.body.isNone=false
structure jv (C:Cx) (β:Nat->Nat) (w:World) (i:Nat) (t:TypeId) (cs:List AV):Prop where
 new:C.xM i (β i)
 ty:C.K.fz t=false
 cls:aI w (β i) t (cs.map (AV.leaf β)).toArray
 ok:cs.all aF=true
inductive Reach (H:Hp) (ids:List Nat):Nat->Prop
 | base {i:Nat}:i∈ids->Reach H ids i
 | step {i j:Nat} {t:TypeId} {cs:List AV}:Reach H ids i->H i=some (t,cs)->j∈aC cs->Reach H ids j
structure kh (C:Cx) (β:Nat->Nat) (H:Hp) (ids:List Nat) (w:World):Prop where
 own:∀ i,Reach H ids i->∀ t cs,H i=some (t,cs)->jv C β w i t cs
 apart:∀ i j,Reach H ids i->Reach H ids j->H i≠none->H j≠none->β i=β j->i=j
structure yJ (C:Cx) (β bG:Nat->Nat) (H:Hp) (ids:List Nat) (del:Option Nat) (ups:List (Nat×(TypeId×List AV))) (w w':World):Prop where
 os:w'.os=w.os
 tape:w'.tape=w.tape
 output:w'.output=w.output
 size:w.heap.size<=w'.heap.size
 block:∀ b,b<w.heap.size->(∀ x∈ups,b≠bG x.1)->(∀ i,del=some i->b≠β i)->(C.K.S b\/∀ t cur,C.K.fz t=true->w.heap[b]?≠some (Obj.cells cur t (0,0)))->w'.heap[b]? =w.heap[b]?
 agree:∀ i,i∉ups.map (·.1)->bG i=β i
 gone:∀ i,del=some i->Reach H ids i/\H i≠none
 left:∀ i,del=some i->(w'.heap[β i]? =w.heap[β i]?\/∃ t cs,aI w' (β i) t (List.toArray cs)/\C.K.fz t=false/\cs.all aK=true)\/∃ x∈ups,bG x.1=β i
 own:∀ x∈ups,jv C bG w' x.1 x.2.1 x.2.2
 orig:∀ x∈ups,(H x.1≠none/\del≠some x.1/\Reach H ids x.1/\bG x.1=β x.1)\/((H x.1=none\/del=some x.1)/\x.1<2*C.N/\(w.heap.size<=bG x.1\/∃ i,del=some i/\bG x.1=β i))
 once:(ups.map (·.1)).Nodup
 apart:∀ x∈ups,∀ y∈ups,bG x.1=bG y.1->x.1=y.1
 closed:∀ x∈ups,∀ j∈aC x.2.2,j∈ups.map (·.1)\/(H j≠none/\del≠some j)
def oV (P:Program) (d:jt) (β:Nat->Nat) (w:World) (R:Ending->World->Prop):Prop:=match d with
 | .fn g args=>rC P g/\Calls P g (args.map (AV.aN β)).toArray w R
 | .op o vs=>∃ v w2,(∀ ρ:Operand->Value,o.op.operands.toList.map ρ=vs.map (AV.aN β)->(execOp ρ o).run P w=.ok (.value v) w2\/((execOp ρ o).run P w=.ok .skip w2/\v=undef))/\R (.returned v) w2
 | .inv o vs=>∃ g args,(∀ ρ:Operand->Value,o.op.operands.toList.map ρ=vs.map (AV.aN β)->(execOp ρ o).run P w=.ok (.enter g args) w)/\Calls P g args w R
def bZ (C:Cx) (lv:Nat) (F:Fr) (H:Hp) (d:jt) (w:World) (k:AV->Fr->Hp->World->Prop):Prop:=
 ∀ w1 β,aY C.K w w1->C.Old w1->kh C β H d.ids w1->oV C.P d β w1 λe w2=>∃ bG r del ups,e=.returned (r.aN bG)/\(∀ i∈r.ids,i∈ups.map (·.1)\/(Reach H d.ids i/\H i≠none/\del≠some i))/\(1<=lv\/ups=[])/\(2<=lv\/del=none)/\
   yJ C β bG H d.ids del ups w1 w2/\(aY C.K w w2->aY C.K w1 w2->C.Old w2->∀ ρ,(∀ x,aK (ρ x)=true)->k r (F.forget del ρ) ((H.forget del ρ).eO ups) w2)
def ReadVC (C:Cx) (seq:Bool) (i:TI) (a:Addr) (w:World) (k:Value->Prop):Prop:=
 ∃ cs:List Value,cs.length=i.size/\((∀ j u,cs[j]? =some u->C.At (a.add j) u)\/(seq=true/\∀ w1,aY C.K w w1->C.Old w1->∀ j u,cs[j]? =some u->w1.cell? (a.add j)=some u))/\k (kP i cs)
def seqOf:Option (List FuncId)->Bool
 | none=>true
 | some _=>false
def one (C:Cx) (m:Option (List FuncId)) (full:Array Oper) (o:Oper) (k:Fr->Hp->World->Prop) (F:Fr) (H:Hp) (w:World):Prop:=
 match stepOf C full F H o with
 | .dw v u=>k (F.bm o.dst v) (H.upd u) w
 | .read i a=>ReadVC C (seqOf m) i a w λv=>k (F.bm o.dst (.val v)) H w
 | .dQ i cs off=>∃ vs:List AV,vs.length=i.size/\(∀ j u,vs[j]? =some u->cs[off+j]? =some u)/\k (F.bm o.dst (lz i vs)) H w
 | .cond φ v u=>φ/\k (F.bm o.dst v) (H.upd u) w
 | .call d=>bZ C (lvl C.SU m o) F H d w λr F' H' w2=>k (F'.bm o.dst r) H' w2
 | .bad=>False
def aq (C:Cx) (m:Option (List FuncId)) (full:Array Oper):List Oper->(Fr->Hp->World->Prop)->Fr->Hp->World->Prop
 | [],K,F,H,w=>K F H w
 | o::r,K,F,H,w=>one C m full o (aq C m full r K) F H w
def gl (F:Fr) (H:Hp):Prop:=∀ d v,F d=some v->∀ i∈v.ids,H i≠none
structure zW (C:Cx) (H:Hp):Prop where
 ok:∀ i t cs,H i=some (t,cs)->C.K.fz t=false/\cs.all aF=true
 closed:∀ i t cs,H i=some (t,cs)->∀ j∈aC cs,H j≠none
 GN:∀ i,C.top<=i->H i=none
structure Rel (C:Cx) (β:Nat->Nat) (F:Fr) (H:Hp) (a:Act) (w:World):Prop where
 defers:a.defers=C.ds
 size:a.tmps.size=C.N
 tmp:∀ d v,F d=some v->a.tmps.getD d undef=v.aN β
 own:∀ i t cs,H i=some (t,cs)->jv C β w i t cs
 apart:∀ i j,H i≠none->H j≠none->β i=β j->i=j
 closed:gl F H
 fits:∀ d v,F d=some v->d<C.N
 hp:zW C H
 old:C.Old w
theorem Fr.bL (F:Fr) (d n:Nat) (v:AV):(F.put d v) n=if n=d then some v else F n:=by
 unfold Fr.put;by_cases h:n=d
 ·subst h;simp
 ·have:Nat.beq n d=false:=by rw[<-yj,Nat.beq_eq];exact h
  simp[this,h]
theorem Hp.bL (H:Hp) (d n:Nat) (c:TypeId×List AV):(H.put d c) n=if n=d then some c else H n:=by
 unfold Hp.put;by_cases h:n=d
 ·subst h;simp
 ·have:Nat.beq n d=false:=by rw[<-yj,Nat.beq_eq];exact h
  simp[this,h]
theorem fH:∀ {l:List AV} {vs:List Value},eE l=some vs->l=vs.map .val
 | [],vs,h=>by cases h;rfl
 | .val v::r,vs,h=>by
   unfold eE at h
   split at h
   ·rename_i l hl;cases h;rw[fH hl];rfl
   ·cases h
 | .box _ _::_,_,h=>by cases h
 | .pJ _ _::_,_,h=>by cases h
 | .row _ _ _ _::_,_,h=>by cases h
 | .fn _ _ _::_,_,h=>by cases h
 | .agg _::_,_,h=>by cases h
 | .kc _::_,_,h=>by cases h
theorem aA (β:Nat->Nat) (vs:List Value):(vs.map AV.val).map (AV.leaf β)=vs:=by rw[qQ];exact List.map_id vs
theorem eB (β:Nat->Nat) (vs:List Value):(vs.map AV.val).map (AV.aN β)=vs:=by rw[qQ];exact List.map_id vs
theorem aG (vs:List Value):aC (vs.map AV.val)=[]:=by
 induction vs with
 | nil=>rfl
 | cons v r ih=>rw[fV,aC,ih];rfl
theorem pY (β:Nat->Nat) (l:List AV):(tU l).aN β=.agg (l.map (AV.leaf β)).toArray:=by
 unfold tU;cases h:eE l with
 | none=>rfl
 | some vs=>
   have:=fH h;subst this;rw[aA];rfl
theorem sI (h:i∈(tU l).ids):i∈aC l:=by
 unfold tU at h;cases hv:eE l with
 | none=>rw[hv] at h;exact h
 | some vs=>rw[hv] at h;cases h
theorem gm (β:Nat->Nat):∀ (v:AV),(∀ l,v≠.kc l)->(cellsOf v).map (AV.leaf β)=(v.aN β).cells.toList
 | .val v,_=>by unfold cellsOf;rw[aA];rfl
 | .box _ _,_=>rfl
 | .pJ _ _,_=>rfl
 | .row _ _ _ _,_=>rfl
 | .fn _ _ _,_=>rfl
 | .agg l,_=>by simp[cellsOf,AV.aN,Value.cells]
 | .kc l,h=>absurd rfl (h l)
theorem lB {v:AV} (h:eP v=true):∀ l,v≠.kc l:=λl e=>by subst e;cases h
theorem GO {v:AV} (h:(cellsOf v).all aF=true):∀ l,v≠.kc l:=λl e=>by subst e;simp[cellsOf,aF] at h
theorem im {v:AV} (h:∀ l,v≠.kc l) (hi:i∈aC (cellsOf v)):i∈v.ids:=by
 cases v with
 | val v=>rw[cellsOf,aG] at hi;cases hi
 | kc l=>exact absurd aa (h l)
 | agg l=>exact hi
 | box i off=>simpa [cellsOf,aC,AV.dP,AV.ids] using hi
 | pJ i off=>simpa [cellsOf,aC,AV.dP,AV.ids] using hi
 | row i o n c=>simpa [cellsOf,aC,AV.dP,AV.ids] using hi
 | fn g f c=>simpa [cellsOf,aC,AV.dP,AV.ids] using hi
theorem eC (l r:List AV):aC (l++r)=aC l++aC r:=by
 induction l with
 | nil=>rfl
 | cons v l ih=>rw[pc,aC,aC,ih,nx]
theorem IH:∀ {v:AV},aF v=true->v.leaf β=v.aN β
 | .val _,_=>rfl
 | .box _ _,_=>rfl
 | .pJ _ _,_=>rfl
 | .row _ _ _ _,_=>rfl
 | .fn _ _ _,_=>rfl
 | .agg _,h=>by cases h
 | .kc _,h=>by cases h
theorem nN:∀ {v:AV},ju v=true->v.leaf β=v.aN β
 | .val _,_=>rfl
 | .box _ _,_=>rfl
 | .pJ _ _,_=>rfl
 | .row _ _ _ _,_=>rfl
 | .fn _ _ _,_=>rfl
 | .agg _,h=>by cases h
 | .kc _,h=>by cases h
theorem pZ {v:AV} (h:ju v=true):v.dP=v.ids:=by cases v <;> first|rfl|cases h
theorem nO {v:AV} (h:eP v=true):v.iQ β=v.aN β:=by cases v <;> first|rfl|cases h
theorem qa {v:AV} (h:eP v=true):v.sF=v.ids:=by cases v <;> first|rfl|cases h
theorem Lg {v:AV} (h:aF v=true):v.dP=v.ids:=by
 cases v <;> first|rfl|cases h
section
variable {C:Cx} {β:Nat->Nat} {F:Fr} {H:Hp} {a:Act} {w:World}
variable {v:AV} {x:Operand}
theorem Rel.ev (hr:Rel C β F H a w) (h:Proofs.YtphfjihmohoffaaGreat.ev F x=some v):a.eval x=v.aN β:=by
 cases x with
 | tmp t=>exact hr.tmp t v h
 | const c=>cases h;rfl
 | func f=>cases h;rfl
 | global g=>cases h
theorem evv_ev {v:Value} (h:Proofs.YtphfjihmohoffaaGreat.gz F x=some v):Proofs.YtphfjihmohoffaaGreat.ev F x=some (.val v):=by
 unfold Proofs.YtphfjihmohoffaaGreat.gz at h
 split at h
 ·rename_i u hu;cases h;exact hu
 ·cases h
theorem Rel.gz (hr:Rel C β F H a w) {v:Value} (h:Proofs.YtphfjihmohoffaaGreat.gz F x=some v):a.eval x=v:=hr.ev (evv_ev h)
theorem Rel.evs (hr:Rel C β F H a w):∀ {l:List Operand} {vs:List Value},Proofs.YtphfjihmohoffaaGreat.evs F l=some vs->l.map a.eval=vs
 | [],vs,h=>by cases h;rfl
 | x::r,vs,h=>by
   unfold Proofs.YtphfjihmohoffaaGreat.evs at h
   split at h
   ·rename_i v l hv hl;cases h;rw[fV,hr.gz hv,hr.evs hl]
   ·cases h
theorem Rel.pX (hr:Rel C β F H a w):∀ {l:List Operand} {vs:List AV},Proofs.YtphfjihmohoffaaGreat.pX F l=some vs->l.map a.eval=vs.map (AV.aN β)
 | [],vs,h=>by cases h;rfl
 | x::r,vs,h=>by
   unfold Proofs.YtphfjihmohoffaaGreat.pX at h
   split at h
   ·rename_i v l hv hl;cases h;rw[fV,hr.ev hv,hr.pX hl];rfl
   ·cases h
theorem Rel.zV (hr:Rel C β F H a w):∀ {l:List (Nat×Operand)} {vs:List (Nat×AV)},Proofs.YtphfjihmohoffaaGreat.zV F l=some vs->l.map (λp=>(p.1,a.eval p.2))=vs.map (λp=>(p.1,p.2.aN β))
 | [],vs,h=>by cases h;rfl
 | (k,x)::r,vs,h=>by
   unfold Proofs.YtphfjihmohoffaaGreat.zV at h
   split at h
   ·rename_i v l hv hl;cases h;rw[fV,hr.zV hl];simp[hr.ev hv]
   ·cases h
theorem gl.ev (hc:gl F H) (h:Proofs.YtphfjihmohoffaaGreat.ev F x=some v):∀ i∈v.ids,H i≠none:=by
 cases x with
 | tmp t=>exact hc t v h
 | const c=>cases h;intro i hi;cases hi
 | func f=>cases h;intro i hi;cases hi
 | global g=>cases h
theorem gl.pX (hc:gl F H):∀ {l:List Operand} {vs:List AV},Proofs.YtphfjihmohoffaaGreat.pX F l=some vs->∀ v∈vs,∀ i∈v.ids,H i≠none
 | [],vs,h=>by cases h;intro v hv;cases hv
 | x::r,vs,h=>by
   unfold Proofs.YtphfjihmohoffaaGreat.pX at h
   split at h
   ·rename_i v l hv hl;cases h;intro u hu;rcases fj.1 hu with rfl|hu
    ·exact hc.ev hv
    ·exact hc.pX hl u hu
   ·cases h
theorem gl.zV (hc:gl F H):∀ {l:List (Nat×Operand)} {vs:List (Nat×AV)},Proofs.YtphfjihmohoffaaGreat.zV F l=some vs->∀ v∈vs,∀ i∈v.2.ids,H i≠none
 | [],vs,h=>by cases h;intro v hv;cases hv
 | (k,x)::r,vs,h=>by
   unfold Proofs.YtphfjihmohoffaaGreat.zV at h
   split at h
   ·rename_i v l hv hl;cases h;intro u hu;rcases fj.1 hu with rfl|hu
    ·exact hc.ev hv
    ·exact hc.zV hl u hu
   ·cases h
theorem Rel.cW (hr:Rel C β F H a w) (h:Proofs.YtphfjihmohoffaaGreat.ev F x=some v):∀ i∈v.ids,H i≠none:=hr.closed.ev h
theorem Rel.put (hr:Rel C β F H a w) {dst:Option Nat} (hd:il C.N dst=true) (hc:∀ i∈v.ids,H i≠none):Rel C β (F.bm dst v) H (a.put dst (v.aN β)) w:=by
 cases dst with
 | none=>exact hr
 | some d=>
   have hlt:d<C.N:=by simpa [il,Nat.blt_eq] using hd
   refine⟨hr.defers,by simp[Act.put,hr.size],λn u hn=> ?_,hr.own,hr.apart,λn u hn=> ?_,λn u hn=> ?_,hr.hp,hr.old⟩
   ·change (F.put d v) n=some u at hn;rw[Fr.bL] at hn;show (a.tmps.setIfInBounds d (v.aN β)).getD n undef=_;by_cases h:n=d
    ·subst h;rw[if_pos rfl] at hn;cases hn;simp[Array.getD_eq_getD_getElem?,Array.getElem?_setIfInBounds,hr.size,hlt]
    ·rw[if_neg h] at hn;have:=hr.tmp n u hn;rw[cA] at this ⊢;rw[nk,if_neg (λe=>h e.symm)];exact this
   ·change (F.put d v) n=some u at hn;rw[Fr.bL] at hn;by_cases h:n=d
    ·rw[if_pos h] at hn;cases hn;exact hc
    ·rw[if_neg h] at hn;exact hr.closed n u hn
   ·change (F.put d v) n=some u at hn;rw[Fr.bL] at hn;by_cases h:n=d
    ·rw[h];exact hlt
    ·rw[if_neg h] at hn;exact hr.fits n u hn
variable {P:Program} {i:TI} {t:TypeId}
theorem ew (hi:TI.Ok P t i) (a:Addr) (cs:List Value) (hl:cs.length=i.size) (w:World) (hc:∀ j u,cs[j]? =some u->w.cell? (a.add j)=some u):
  (loadVar t a).run P w=.ok (kP i cs) w:=by
 obtain⟨d,hu,hd⟩:=hi.row;have hz:=hi.size;cases hq:P.info? t with
 | none=>rw[hq] at hz;simp at hz
 | some ti=>
   rw[hq] at hz;simp at hz;unfold loadVar kP;cases hg:i.agg
   ·have h1:=hi.lone hg;rw[hg] at hd;obtain⟨u,rfl⟩:∃ u,cs=[u]:=List.length_eq_one_iff.1 ae;have:=hc 0 u aa;have ha:a.add 0=a:=by unfold Addr.add;split <;> simp_all
    rw[ha] at this;cases d <;> simp_all [isAgg,run_underlying hu,TypeDesc.isRow]
   ·rw[hg] at hd;have hld:=run_loadCells_list (P:=P) w a cs hc;rw[hl,<-hz] at hld;cases d <;> simp_all [isAgg,run_underlying hu,TypeDesc.isRow,sizeOf,typeInfo]
variable {cs:List AV}
theorem qb (hi:TI.Ok P t i) (hl:cs.length=i.size) (hk:cs.all aF=true):(lz i cs).aN β=kP i (cs.map (AV.leaf β)):=by
 unfold lz kP;cases hg:i.agg with
 | true=>exact pY β cs
 | false=>
   have h1:=hi.lone hg;obtain⟨u,rfl⟩:∃ u,cs=[u]:=List.length_eq_one_iff.1 ae;simp at hk;simp[IH hk]
theorem sJ {j:Nat} (hk:cs.all aF=true) (h:j∈(lz i cs).ids):j∈aC cs:=by
 unfold lz at h;cases hg:i.agg with
 | true=>rw[hg] at h;exact sI h
 | false=>
   rw[hg] at h;cases cs with
   | nil=>cases h
   | cons x r=>
     simp only[cond_false,List.headD_cons] at h;simp at hk;rw[aC,Lg hk.1];exact qL _ h
end
def gN:List Value->Nat->List Value->List Value
 | l,_,[]=>l
 | l,o,v::r=>gN (l.set o v) (o+1) r
theorem oG:∀ (vs l:List Value) (o:Nat),o+vs.length<=l.length->gN l o vs=l.take o++(vs++l.drop (o+vs.length))
 | [],l,o,_=>by simp[gN]
 | v::r,l,o,h=>by
   simp only[List.length_cons] at h;have h1:o<l.length:=ae;rw[gN,oG r (l.set o v) (o+1) (by rw[eF];omega),List.take_succ_eq_append_getElem (by rw[eF];omega),List.getElem_set_self,List.take_set_of_le (aM _),List.drop_set_of_lt ae];simp[Nat.add_assoc,Nat.add_comm 1]
theorem sK:∀ (l:List Value) (k off:Nat) (A:Array Value),(l.zipIdx k).foldl (λ(cs:Array Value) (x:Value×Nat)=>cs.setIfInBounds (off+x.2) x.1) A=(gN A.toList (off+k) l).toArray
 | [],_,_,A=>by simp[gN]
 | v::r,k,off,A=>by
   rw[List.zipIdx_cons,List.foldl_cons,sK r (k+1) off,gN];simp[Nat.add_assoc]
theorem wx {β:Nat->Nat} {v:AV} (h:eP v=true):(v.aN β).cells.size=(cellsOf v).length:=by
 rw[<-yc,<-gm β v (lB h),cJ]
theorem cz {n m:Nat} (h:Nat.ble n m=true):n<=m:=Nat.le_of_ble_eq_true h
theorem Ca {β:Nat->Nat} {places:Array (Nat×Nat)}:∀ (l:List (Nat×AV)) (cells:List AV) {cs:List AV},yI places cells l=some cs->
  Instr.fill (places[·]?) (cells.map (AV.leaf β)).toArray (l.map λp=>(p.1,p.2.aN β))=some (cs.map (AV.leaf β)).toArray
 | [],cells,cs,h=>by cases h;rfl
 | (i,v)::rest,cells,cs,h=>by
   unfold yI at h;rw[fV];unfold Instr.fill;cases hp:places[i]? with
   | none=>rw[hp] at h;cases h
   | some p=>
     rw[hp] at h;simp only at h ⊢;cases hb:Nat.beq (cellsOf v).length p.2 && Nat.ble (p.1+p.2) cells.length && eP v with
     | false=>rw[hb] at h;cases h
     | true=>
       rw[hb] at h;simp only[Bool.and_eq_true] at hb;have h1:=fT hb.1.1;have h2:=cz hb.1.2;have h3:=wx (β:=β) hb.2;have h4:=gm β v (lB hb.2);rw[if_neg (by simp[h3,h1];omega)];have:=Ca (β:=β) rest _ h;rw[<-this]
       congr 1
       have e:=sK (v.aN β).cells.toList 0 p.1 (cells.map (AV.leaf β)).toArray;rw[oG _ _ _ (by simp[h3,h1];omega)] at e;simp only[Nat.add_zero,Array.length_toList,h3,h1] at e
       rw[show (cells.take p.1++(cellsOf v++cells.drop (p.1+p.2))).map (AV.leaf β)=(cells.map (AV.leaf β)).take p.1++((v.aN β).cells.toList++(cells.map (AV.leaf β)).drop (p.1+p.2)) by
        rw[cT,cT,h4,List.map_take,List.map_drop]]
       rw[<-e];rw[<-Array.foldl_toList]
       congr 1
       simp
theorem Cb {K:KC} {b o:Nat} {t:TypeId} {w:World} {cs:List Value} {v:Value} (hc:aI w b t cs.toArray) (ht:K.fz t=false) (hk:cs.all aK=true):
  aY K w (w.setCell ⟨b,o,none⟩ v)/\aI (w.setCell ⟨b,o,none⟩ v) b t (cs.set o v).toArray:=by
 refine⟨⟨bc,λa x _ hx=> ?_,λt' g cur hf _ hg=> ?_,λg es c hg=> ?_⟩,?_⟩
 ·by_cases hb:a.block=b
  ·exfalso
   have:cs.toArray[a.off]? =some (.int .u32 x):=by
    simp only[World.cell?,hb,show w.heap[b]? =_ from hc] at hx;simp at hx;simpa using hx.2
   have hm:=dx (show cs[a.off]? =some (.int .u32 x) by simpa using this);have:=aW.1 hk _ hm;cases this
  ·rw[pa (w:=w) (nw w ⟨b,o,none⟩ v a.block hb)];exact hx
 ·rw[nw _ _ _ g (λe=>by
   have e':g=b:=e;subst e';have:=(show w.heap[_]? =_ from hc).symm.trans hg;simp at this;rw[<-this.2,ht] at hf;cases hf)]
  exact hg
 ·rw[nw _ _ _ g (λe=>by
   have e':g=b:=e;subst e';have:=(show w.heap[_]? =_ from hc).symm.trans hg;simp at this)]
  exact hg
 ·have:=hc.set (j:=o) v;simpa using this
theorem mn {K:KC} {b:Nat} {t:TypeId}:∀ (vs:List Value) (o:Nat) (w:World) (cs:List Value),aI w b t cs.toArray->K.fz t=false->cs.all aK=true->vs.all aK=true->
  aY K w (w.setCells b o vs)/\aI (w.setCells b o vs) b t (gN cs o vs).toArray/\(∀ g t' gA,g≠b->aI w g t' gA->aI (w.setCells b o vs) g t' gA)/\∀ w0,ax w0 w->w0.heap.size<=b->ax w0 (w.setCells b o vs)
 | [],o,w,cs,hc,_,_,_=>⟨aY.refl _ _,hc,λ_ _ _ _ h=>h,λ_ h _=>h⟩
 | v::r,o,w,cs,hc,ht,hk,hv=>by
   rw[List.all_cons,dR] at hv;obtain⟨h1,h2⟩:=Cb (o:=o) (v:=v) hc ht hk
   have hk':(cs.set o v).all aK=true:=aW.2 λx hx=>by
    rcases xZ hx with h|rfl
    ·exact aW.1 hk _ h
    ·exact hv.1
   obtain⟨k1,k2,k3,k4⟩:=mn r (o+1) _ _ h2 ht hk' hv.2;exact⟨h1.aB k1,k2,λg t' gA hg h=>k3 g t' gA hg (h.other hg v),λw0 h hb=>k4 w0 (h.setCell (p:=⟨b,o,none⟩) hb v) hb⟩
section
variable {C:Cx} {β:Nat->Nat} {F:Fr} {H:Hp} {a:Act} {w:World}
variable {cs:List AV} {d:Nat} {t:TypeId}
theorem zW.put (jw:zW C H) (hd:d<C.top) (ht:C.K.fz t=false) (hk:cs.all aF=true) (lT:∀ j∈aC cs,H j≠none):zW C (H.put d (t,cs)):=by
 have Cc:∀ j,H j≠none->(H.put d (t,cs)) j≠none:=λj hj=>by
  rw[Hp.bL];split
  ·simp
  ·exact hj
 refine⟨λi t' gA h=> ?_,λi t' gA h j hj=> ?_,λi hi=> ?_⟩
 ·rw[Hp.bL] at h;by_cases e:i=d
  ·rw[if_pos e] at h;cases h;exact⟨ht,hk⟩
  ·rw[if_neg e] at h;exact jw.ok i t' gA h
 ·rw[Hp.bL] at h;by_cases e:i=d
  ·rw[if_pos e] at h;cases h;exact Cc j (lT j hj)
  ·rw[if_neg e] at h;exact Cc j (jw.closed i t' gA h j hj)
 ·rw[Hp.bL,if_neg ae];exact jw.GN i hi
variable {c:TypeId×List AV}
theorem Ce {j:Nat} (hj:H j≠none):(H.put d c) j≠none:=by
 rw[Hp.bL];split
 ·simp
 ·exact hj
theorem Rel.make (hr:Rel C β F H a w) (hd:d<C.N) (h0:H d=none) (ht:C.K.fz t=false) (hk:cs.all aF=true) (lT:∀ j∈aC cs,H j≠none):
  ∃ bG,bG d=w.heap.size/\Rel C bG F (H.put d (t,cs)) a (w.alloc (.cells (cs.map (AV.leaf β)).toArray t)):=by
 let bG:Nat->Nat:=λn=>if n=d then w.heap.size else β n
 have hb:∀ i,i≠d->bG i=β i:=λi hi=>if_neg hi;have uD:bG d=w.heap.size:=if_pos aa;have hco:∀ n v,F n=some v->v.aN bG=v.aN β:=λn v hn=>AV.wj λi hi=>hb i λe=>hr.closed n v hn i hi (e▸h0);have hle:∀ l:List AV,(∀ j∈aC l,H j≠none)->l.map (AV.leaf bG)=l.map (AV.leaf β):=λl hl=>ik λi hi=>hb i λe=>hl i hi (e▸h0)
 have Br:Rel C bG F (H.put d (t,cs)) a (w.alloc (.cells (cs.map (AV.leaf β)).toArray t)):=by
  refine⟨hr.defers,hr.size,λn v hn=>(hr.tmp n v hn).trans (hco n v hn).symm,λi t' gA hi=> ?_,λi j hi hj he=> ?_,λn v hn i hi=> ?_,hr.fits,hr.hp.put (by have:=C.topN;omega) ht hk lT,C.aB hr.old ((ax.refl w).alloc _)⟩
  ·rw[Hp.bL] at hi;by_cases h:i=d
   ·rw[if_pos h] at hi;cases hi;subst h;exact⟨by rw[uD];exact C.BW _ _ ae (C.kf _ hr.old),ht,by rw[uD,hle _ lT];exact aI.new _ _ _,hk⟩
   ·rw[if_neg h] at hi;obtain⟨h1,h2,h3,h4⟩:=hr.own i t' gA hi;exact⟨by rw[hb i h];exact h1,h2,by rw[hb i h,hle _ (hr.hp.closed i t' gA hi)];exact h3.alloc _,h4⟩
  ·rw[Hp.bL] at hi hj
   have lt:∀ i,H i≠none->β i<w.heap.size:=λi hi=>by
    cases hh:H i with
    | none=>exact absurd hh hi
    | some x=>exact (hr.own i x.1 x.2 hh).cls.lt
   by_cases h1:i=d <;> by_cases h2:j=d
   ·rw[h1,h2]
   ·rw[if_neg h2] at hj;rw[h1,uD,hb j h2] at he;have:=lt j hj;omega
   ·rw[if_neg h1] at hi;rw[h2,uD,hb i h1] at he;have:=lt i hi;omega
   ·rw[if_neg h1] at hi;rw[if_neg h2] at hj;rw[hb i h1,hb j h2] at he;exact hr.apart i j hi hj he
  ·exact Ce (hr.closed n v hn i hi)
 exact⟨bG,uD,Br⟩
theorem jx {b:Nat}:∀ (vs:List Value) (o:Nat) (w:World) (k:Nat),k≠b->(w.setCells b o vs).heap[k]? =w.heap[k]?
 | [],_,_,_,_=>rfl
 | v::r,o,w,k,hk=>(jx r (o+1) (w.setCell ⟨b,o,none⟩ v) k hk).trans (nw w ⟨b,o,none⟩ v k hk)
theorem kS {b:Nat}:∀ (vs:List Value) (o:Nat) (w:World),(w.setCells b o vs).os=w.os/\(w.setCells b o vs).tape=w.tape/\(w.setCells b o vs).output=w.output/\w.heap.size<=(w.setCells b o vs).heap.size
 | [],_,w=>⟨rfl,rfl,rfl,aM _⟩
 | v::r,o,w=>by
   obtain⟨h1,h2,h3,h4⟩:=kS (b:=b) r (o+1) (w.setCell ⟨b,o,none⟩ v);exact⟨h1,h2,h3,bA (by simp[World.setCell]) h4⟩
variable {K:KC} {b:Nat}
theorem zX {xM:Nat->Nat->Prop} {o:Nat} {w:World} {vs:List Value} {cs:List Value} (hn:∃ i,xM i b) (ht:K.fz t=false) (hc:aI (w.setCells b o vs) b t cs.toArray) (hk:cs.all aK=true):Stp K xM w (w.setCells b o vs):=by
 obtain⟨h1,h2,h3,h4⟩:=kS (b:=b) vs o w;refine⟨h1,h2,h3,h4,λg _=> ?_⟩;by_cases e:g=b
 ·subst e;exact .inr (.inl ⟨hn,t,cs,hc,ht,hk⟩)
 ·exact .inl (jx vs o w g e)
variable {vs:List AV} {off:Nat}
theorem Rel.stored (hr:Rel C β F H a w) (h:H b=some (t,cs)) (hl:off+vs.length<=cs.length) (hv:vs.all aF=true) (lT:∀ j∈aC vs,H j≠none):
  aY C.K w (w.setCells (β b) off (vs.map (AV.leaf β)))/\Rel C β F (H.put b (t,cs.take off++(vs++cs.drop (off+vs.length)))) a (w.setCells (β b) off (vs.map (AV.leaf β))):=by
 obtain⟨h2,h3,h1,h4⟩:=hr.own b t cs h;obtain⟨k1,k2,k3,k4⟩:=mn (K:=C.K) (vs.map (AV.leaf β)) off w (cs.map (AV.leaf β)) h1 h3 (dZ h4) (dZ hv)
 have bO:b<C.top:=by
  apply FX;intro e;rw[hr.hp.GN b ae] at h;cases h
 have hcs:=hr.hp.closed b t cs h
 have dN:(cs.take off++(vs++cs.drop (off+vs.length))).all aF=true:=by
  simp only[List.all_append,Bool.and_eq_true];exact⟨aW.2 λx hx=>aW.1 h4 x (lf hx),hv,aW.2 λx hx=>aW.1 h4 x (nt hx)⟩
 have hcl':∀ j∈aC (cs.take off++(vs++cs.drop (off+vs.length))),H j≠none:=λj hj=>by
  obtain⟨v,hv',hj'⟩:=bl.1 hj;simp only[List.mem_append] at hv';rcases hv' with e|e|e
  ·exact hcs j (bl.2 ⟨v,lf e,hj'⟩)
  ·exact lT j (bl.2 ⟨v,e,hj'⟩)
  ·exact hcs j (bl.2 ⟨v,nt e,hj'⟩)
 refine⟨k1,hr.defers,hr.size,hr.tmp,λi t' gA hi=> ?_,λi j hi hj he=> ?_,λn v hn i hi=>Ce (hr.closed n v hn i hi),hr.fits,hr.hp.put bO h3 dN hcl',C.uS _ _ hr.old C.keep k1 (zX ⟨b,h2⟩ h3 k2 (by rw[oG _ _ off (by simp only[List.length_map];omega)];simp only[List.all_append,Bool.and_eq_true];exact⟨aW.2 λx hx=>aW.1 (dZ h4) x (lf hx),dZ hv,aW.2 λx hx=>aW.1 (dZ h4) x (nt hx)⟩))⟩
 ·rw[Hp.bL] at hi;by_cases hib:i=b
  ·rw[if_pos hib] at hi;cases hi;subst hib;rw[oG _ _ off (by simp only[List.length_map];omega)] at k2;refine⟨h2,h3,?_,dN⟩;rw[cT,cT,List.map_take,List.map_drop];simpa using k2
  ·rw[if_neg hib] at hi;obtain⟨g2,g3,g1,g4⟩:=hr.own i t' gA hi;exact⟨g2,g3,k3 _ _ _ (λe=>hib (hr.apart i b (by rw[hi];simp) (by rw[h];simp) e)) g1,g4⟩
 ·rw[Hp.bL] at hi hj;refine hr.apart i j ?_ ?_ he
  ·by_cases hib:i=b
   ·rw[hib,h];simp
   ·rw[if_neg hib] at hi;exact hi
  ·by_cases hjb:j=b
   ·rw[hjb,h];simp
   ·rw[if_neg hjb] at hj;exact hj
theorem aY.alloc (w:World) (o:Obj):aY K w (w.alloc o):=aY.of ((ax.refl w).alloc o)
def cY (C:Cx) (F:Fr) (H:Hp) (o:Oper) (a:Act) (w:World) (v:AV) (u:Option (Nat×(TypeId×List AV))):Prop:=
 ∃ bG w',aY C.K w w'/\Rel C bG (F.bm o.dst v) (H.upd u) (a.put o.dst (v.aN bG)) w'/\
   ((execOp a.eval o).run C.P w=.ok (.value (v.aN bG)) w'\/((execOp a.eval o).run C.P w=.ok .skip w'/\v.aN bG=undef))
variable {v:AV} {o:Oper}
theorem cY.pure (hr:Rel C β F H a w) (hd:il C.N o.dst=true) (hc:∀ i∈v.ids,H i≠none) (h:(execOp a.eval o).run C.P w=.ok (.value (v.aN β)) w):cY C F H o a w v none:=
 ⟨β,w,aY.refl _ _,hr.put hd hc,.inl h⟩
theorem cY.val (hr:Rel C β F H a w) (hd:il C.N o.dst=true) {v:Value} (h:(execOp a.eval o).run C.P w=.ok (.value v) w):cY C F H o a w (.val v) none:=
 cY.pure hr hd (λ_ hi=>by cases hi) h
theorem uV (e:v.ids=[d]):∀ i∈v.ids,(H.put d c) i≠none:=by
 rw[e];intro i hi;rw[aH.1 hi,Hp.bL,if_pos rfl];simp
variable {u:Option (Nat×(TypeId×List AV))}
theorem lC {x:Option AV} (h:xN x=.dw v u):x=some v/\u=none:=by
 cases x with
 | none=>cases h
 | some y=>cases h;exact⟨aa,aa⟩
theorem eQ {x:Option Value} (h:rA x=.dw v u):∃ y,x=some y/\v=.val y/\u=none:=by
 cases x with
 | none=>cases h
 | some y=>cases h;exact⟨y,aa,aa,aa⟩
variable {h:Option (TypeId×List AV)}
theorem oH (e:nM K d t cs h=.dw v u):
  h=none/\K.fz t=false/\cs.all aF=true/\v=.box d 0/\u=some (d,(t,cs)):=by
 cases h with
 | some x=>cases e
 | none=>
   unfold nM at e;cases hb: !K.fz t && cs.all aF with
   | false=>rw[hb] at e;cases e
   | true=>
     rw[hb] at e;change gj cs _=_ at e;rw[bU] at e;cases e;rw[dR] at hb;exact⟨aa,by simpa using hb.1,hb.2,rfl,rfl⟩
variable {i:TI}
theorem yK (e:wu i cs off=.dw v u):
  off+i.size<=cs.length/\v=lz i ((cs.drop off).take i.size)/\u=none:=by
 unfold wu at e;cases hb:Nat.ble (off+i.size) cs.length with
 | false=>rw[hb] at e;cases e
 | true=>
   rw[hb] at e;change gj _ _=_ at e;rw[bU] at e;refine⟨cz hb,?_⟩;unfold lz;cases hg:i.agg with
   | true=>
     rw[hg,cond_true,kg] at e;cases e;exact⟨aa,aa⟩
   | false=>
     rw[hg] at e;simp only[cond_false] at e ⊢
     split at e
     ·rename_i x r hx;cases e;rw[hx];exact⟨aa,aa⟩
     ·cases e
theorem ED {x:AV} (e:mj i b t cs off x=.dw v u):
  off+i.size<=cs.length/\(cellsOf x).length=i.size/\(cellsOf x).all aF=true/\v=.val undef/\u=some (b,(t,cs.take off++(cellsOf x++cs.drop (off+i.size)))):=by
 unfold mj at e;cases hb:Nat.ble (off+i.size) cs.length && Nat.beq (cellsOf x).length i.size && (cellsOf x).all aF with
 | false=>rw[hb] at e;cases e
 | true=>
   rw[hb] at e;change gj _ _=_ at e;rw[bU] at e;cases e;simp only[Bool.and_eq_true] at hb;exact⟨cz hb.1.1,fT hb.1.2,hb.2,aa,aa⟩
theorem II {x:AV} {φ:Prop} (e:yH i b t cs off x=.cond φ v u):
  φ=(off+i.size<=cs.length)/\(cellsOf x).length=i.size/\(cellsOf x).all aF=true/\v=.val undef/\u=some (b,(t,cs.take off++(cellsOf x++cs.drop (off+i.size)))):=by
 unfold yH at e;cases hb:Nat.beq (cellsOf x).length i.size && (cellsOf x).all aF with
 | false=>rw[hb] at e;cases e
 | true=>
   rw[hb] at e;cases e;rw[dR] at hb;exact⟨aa,fT hb.1,hb.2,aa,aa⟩
variable {e:TypeId}
theorem yL {n:Nat} (q:tW K d e n cs h=.dw v u):
  h=none/\K.fz e=false/\cs.all aF=true/\v=.row d 0 n n/\u=some (d,(e,cs)):=by
 cases h with
 | some x=>cases q
 | none=>
   unfold tW at q;cases hb: !K.fz e && cs.all aF with
   | false=>rw[hb] at q;cases q
   | true=>
     rw[hb] at q;change gj cs _=_ at q;rw[bU] at q;cases q;rw[dR] at hb;exact⟨aa,by simpa using hb.1,hb.2,rfl,rfl⟩
theorem wy:∀ {m:List AV} {bs:List (Nat×Nat)},uT m=some bs->m=bs.map λp=>AV.box p.1 p.2
 | [],bs,h=>by cases h;rfl
 | .box i off::r,bs,h=>by
   unfold uT at h
   split at h
   ·rename_i l hl;cases h;rw[wy hl];rfl
   ·cases h
 | .val _::_,_,h=>by cases h
 | .pJ _ _::_,_,h=>by cases h
 | .row _ _ _ _::_,_,h=>by cases h
 | .fn _ _ _::_,_,h=>by cases h
 | .agg _::_,_,h=>by cases h
 | .kc _::_,_,h=>by cases h
theorem Cf {sz:Nat}:∀ (l:List (Nat×AV)) (k:Nat) {cs:List AV},BZ sz k l=some cs->∀ j∈aC cs,∃ p∈l,j∈p.2.ids
 | [],k,cs,h,j,hj=>by cases h;cases hj
 | (q,v)::r,k,cs,h,j,hj=>by
   unfold BZ at h;cases hb:Nat.beq q k && Nat.beq (cellsOf v).length sz && eP v with
   | false=>rw[hb] at h;cases h
   | true=>
     rw[hb,cond_true] at h;simp only[Bool.and_eq_true] at hb
     split at h
     ·rename_i l hl;cases h;rw[eC] at hj;rcases fU.1 hj with e|e
      ·exact⟨(q,v),bc,im (lB hb.2) e⟩
      ·obtain⟨p,hp,hpj⟩:=Cf r (k+1) hl j e;exact⟨p,by simp[hp],hpj⟩
     ·cases h
theorem yM {places:Array (Nat×Nat)}:∀ (l:List (Nat×AV)) (cells:List AV) {cs:List AV},yI places cells l=some cs->∀ j∈aC cs,j∈aC cells\/∃ p∈l,j∈p.2.ids
 | [],cells,cs,h,j,hj=>by cases h;exact .inl hj
 | (i,v)::rest,cells,cs,h,j,hj=>by
   unfold yI at h
   split at h
   ·cases h
   ·rename_i p hp;cases hb:Nat.beq (cellsOf v).length p.2 && Nat.ble (p.1+p.2) cells.length && eP v with
    | false=>rw[hb] at h;cases h
    | true=>
      rw[hb] at h;simp only[Bool.and_eq_true] at hb;rcases yM rest _ h j hj with e|⟨q,hq,e⟩
      ·obtain⟨x,hx,hj'⟩:=bl.1 e;simp only[List.mem_append] at hx;rcases hx with g|g|g
       ·exact .inl (bl.2 ⟨x,lf g,hj'⟩)
       ·exact .inr ⟨(i,v),bc,im (lB hb.2) (bl.2 ⟨x,g,hj'⟩)⟩
       ·exact .inl (bl.2 ⟨x,nt g,hj'⟩)
      ·exact .inr ⟨q,by simp[hq],e⟩
theorem sL {sz:Nat}:∀ (l:List (Nat×AV)) (k:Nat) (pre rest:List Value) {cs:List AV},BZ sz k l=some cs->pre.length=k*sz->rest.length=l.length*sz->
  Instr.fill (λi=>some (i*sz,sz)) (pre++rest).toArray (l.map λp=>(p.1,p.2.aN β))=some (pre++cs.map (AV.leaf β)).toArray
 | [],k,pre,rest,cs,h,h1,h2=>by
   cases h;have:rest=[]:=jQ (by simpa using h2);subst this;rfl
 | (j,v)::r,k,pre,rest,cs,h,h1,h2=>by
   unfold BZ at h;cases hb:Nat.beq j k && Nat.beq (cellsOf v).length sz && eP v with
   | false=>rw[hb] at h;cases h
   | true=>
     rw[hb,cond_true] at h;simp only[Bool.and_eq_true] at hb;have e1:=fT hb.1.1;have e2:(v.aN β).cells.size=sz:=(wx hb.2).trans (fT hb.1.2);have e7:=gm β v (lB hb.2);subst e1
     split at h
     ·rename_i l hl;cases h;rw[ji,Nat.succ_mul] at h2;rw[fV];unfold Instr.fill;simp only;rw[if_neg (by simp[e2];omega)];have e:=sK (v.aN β).cells.toList 0 (j*sz) (pre++rest).toArray;rw[oG _ _ _ (by simp[e2];omega)] at e
      have e3:(v.aN β).cells.zipIdx.foldl (λcs (x:Value×Nat)=>cs.setIfInBounds (j*sz+x.2) x.1) (pre++rest).toArray=((pre++(v.aN β).cells.toList)++rest.drop sz).toArray:=by
       rw[<-Array.foldl_toList];have e4:(v.aN β).cells.zipIdx.toList=(v.aN β).cells.toList.zipIdx 0:=bc;rw[e4,e];apply jS.1;have l1:(v.aN β).cells.toList.length=sz:=by simpa using e2
       simp only[Nat.add_zero,l1];rw[<-h1,FU (aM _),Bf,List.drop_append,mL ae];simp
      have:=sL r (j+1) (pre++(v.aN β).cells.toList) (rest.drop sz) hl (by rw[da,h1,Nat.succ_mul];simp[e2]) (by rw[nz];omega);rw[nx] at this;rw[nx] at e3;rw[show (λ(cs:Array Value) (x:Value×Nat)=>match x with|(c,j_1)=>cs.setIfInBounds (j*sz+j_1) c)=(λ(cs:Array Value) (x:Value×Nat)=>cs.setIfInBounds (j*sz+x.2) x.1) from aa,e3,this];simp[e7]
     ·cases h
variable {x y:Operand} {P:Program} {r:Value}
theorem Lh {op:BinOp} {u v:Value} (h:binA op u v=some r) (w:World):
  (do eqGuard op t x y u v;binOp op t u v:Sem Value).run P w=.ok r w:=by
 unfold binA at h
 split at h
 ·rename_i k m l n;cases hsh:isSh op with
  | true=>
    rw[hsh] at h;cases hb:decide (n<0) with
    | true=>rw[hb] at h;cases h
    | false=>
      rw[hb] at h;have hn:¬ n<0:=of_decide_eq_false hb
      cases op <;> first
       | (cases hsh;done)
       | (simp only[shI,cond_true,cond_false,Option.some.injEq] at h
          subst h;simp[eqGuard,binOp,Op.shift,hn])
  | false=>
  rw[hsh] at h;cases hk:sameKind k l with
  | false=>rw[hk] at h;cases h
  | true=>
    rw[hk] at h;have DN:k=l:=cS hk;subst DN;unfold binI at h
    cases op <;> simp only[cond_true,cond_false] at h <;> first
     | (cases h;simp[eqGuard,binOp,Op.intCmp,Op.intArith];done)
     | (cases h;done)
     | (cases h;simp[eqGuard,binOp,Op.intBits,bits];done)
     | (cases hn:decide (n=0) with
        | true=>rw[hn] at h;cases h
        | false=>
          rw[hn] at h;cases h;have hn:n≠0:=of_decide_eq_false hn;simp[eqGuard,binOp,Op.intArith,Op.intDiv,hn])
 ·unfold binS at h
  cases op <;> simp only[Option.some.injEq] at h <;> first
   | (cases h;done)
   | (subst h;simp[eqGuard,binOp,Op.stringOp];done)
 ·cases h
variable {ρ:Operand->Value} {p:Option Addr} {t':TypeId}
theorem qd {op:BinOp} (hop:o.op=.binOp op t x y t') (h1:ρ x=.pointer p) (h2:ρ y=.pointer none) (hu:P.underlying t=some (.pointer (P.pointee t))) (h:rz op p.isNone=some r) (w:World):
  (execOp ρ o).run P w=.ok (.value r) w:=by
 unfold rz at h
 cases op <;> simp only[Option.some.injEq] at h <;> first
  | (cases h;done)
  | (subst h;simp[execOp,hop,h1,h2,eqGuard,binOp,run_equal_pointer_nil w t p hu];done)
theorem yN {op:BinOp} {l c:Nat} (hop:o.op=.binOp op t x y t') (h1:ρ x=.slice p l c) (h2:ρ y=.slice none 0 0) (hu:P.underlying t=some (.slice e)) (h:rz op p.isNone=some r) (w:World):
  (execOp ρ o).run P w=.ok (.value r) w:=by
 unfold rz at h
 cases op <;> simp only[Option.some.injEq] at h <;> first
  | (cases h;done)
  | (subst h;simp[execOp,hop,h1,h2,eqGuard,binOp,run_equal_slice_nil w t e p l c hu];done)
theorem Cg (f:Int->Int->Int) (m2:Value->Value->Sem Value) (hm:∀ k a b (w:World),(m2 (.int k a) (.int k b)).run P w=.ok (.int k (f a b)) w):∀ (l:List Value) (v:Value) {k:IntKind} {xs:List Int},wv (v::l)=some (k,xs)->
  ∃ x r,xs=x::r/\v=.int k x/\∀ (y:Int) (w:World),(l.foldlM m2 (.int k y)).run P w=.ok (.int k (r.foldl f y)) w:=by
 intro l
 induction l with
 | nil=>
   intro v k xs h;cases v <;> first|(cases h;done)|skip
   cases h;exact⟨_,[],aa,aa,λy w=>aa⟩
 | cons u s ih=>
   intro v k xs h;cases v <;> first|(cases h;done)|skip
   rename_i k' a;have h':(match wv (u::s) with|some (l,xs)=>bif sameKind k' l then some (k',a::xs) else none|none=>none)=some (k,xs):=h
   split at h'
   ·rename_i l ys hl;cases hk:sameKind k' l with
    | false=>rw[hk] at h';cases h'
    | true=>
      rw[hk] at h';have DN:k'=l:=cS hk;subst DN;cases h';obtain⟨x,r,rfl,rfl,hr⟩:=ih u hl;refine⟨a,x::r,aa,aa,λy w=> ?_⟩;rw[List.foldlM_cons,Sem.run_bind,hm,Result.andThen_ok,hr];rfl
   ·cases h'
variable {F:Fr}
theorem Ch (h:EB F o=.dw v u):False:=by
 unfold EB at h;split at h <;> cases h
theorem Ci (h:TI.Ok P t i) (hb:(i.kind.isSome || i.ptr)=true):∃ d,P.underlying t=some d/\∀ ms,d≠.interface ms:=by
 rw[pk] at hb;rcases hb with e|e
 ·obtain⟨k,hk⟩:=Km.1 e;exact⟨_,h.isInt k hk,λms e=>by cases e⟩
 ·exact⟨_,h.BU e,λms e=>by cases e⟩
theorem xO (h:TI.Ok P t i) (hb:(i.kind.isSome || i.ptr)=true) (v:Value) (w:World):(Instr.makeInterface t v).run P w=.ok (.iface t v) w:=by
 obtain⟨d,hu,hd⟩:=Ci h hb;unfold Instr.makeInterface;simp only[Sem.run_bind,run_underlying hu,Result.andThen_ok];cases d <;> first|rfl|exact absurd aa (hd _)
theorem wA {x:TypeId} (h:TI.Ok P t i) (hb:(i.kind.isSome || i.ptr)=true) (v:Value) (w:World):(Instr.typeAssert (.iface t v) x t false).run P w=.ok v w:=by
 obtain⟨d,hu,hd⟩:=Ci h hb;unfold Instr.typeAssert;simp only[Sem.run_bind,run_underlying hu,Result.andThen_ok];cases d <;> first|exact absurd aa (hd _)|simp
theorem dC (h:na F o=.dw v u):False:=by
 unfold na at h;split at h <;> cases h
variable {k:Nat}
theorem jy (h:kQ i cs k=.dw v u):
  u=none/\∃ p,i.places[k]? =some p/\((i.BS[k]? =some true/\v=tU ((cs.drop p.1).take p.2))\/(i.BS[k]? =some false/\cs[p.1]? =some v/\ju v=true)):=by
 unfold kQ at h
 split at h
 ·rename_i p hp hg;rw[bU,kg] at h;cases h;exact⟨aa,p,hp,.inl ⟨hg,aa⟩⟩
 ·rename_i p hp hg
  split at h
  ·rename_i x hx;cases hn:ju x with
   | false=>rw[hn] at h;cases h
   | true=>
     rw[hn] at h;cases h;rw[uU] at hx;exact⟨aa,p,hp,.inr ⟨hg,hx,hn⟩⟩
  ·cases h
 ·cases h
theorem yO (hC:C.Ok) (hi:C.ti t=some i) (h:kQ i cs k=.dw v u) (w:World):
  (Instr.field t (.agg (cs.map (AV.leaf β)).toArray) k).run C.P w=.ok (v.aN β) w:=by
 obtain⟨_,p,hp,⟨hg,rfl⟩|⟨hg,hv,hn⟩⟩:=jy h
 ·refine (hC t i hi).fld k p hp _ w _ ?_;rw[hg,pY];simp only
  congr 2
  apply jS.1;simp[Array.toList_extract,List.extract_eq_take_drop,List.map_take,List.map_drop]
 ·refine (hC t i hi).fld k p hp _ w _ ?_;rw[hg,<-nN hn];simp[hv]
theorem rD (h:kQ i cs k=.dw v u):∀ j∈v.ids,j∈aC cs:=by
 intro j hj;obtain⟨_,p,hp,⟨hg,rfl⟩|⟨hg,hv,hn⟩⟩:=jy h
 ·obtain⟨x,hx,hj'⟩:=bl.1 (sI hj);exact bl.2 ⟨x,nt (lf hx),hj'⟩
 ·exact bl.2 ⟨v,dx hv,by rw[pZ hn];exact hj⟩
theorem rE (hC:C.Ok) (hr:Rel C β F H a w) (hi:C.ti t=some i) {tb:TypeId} (hb:H b=some (tb,cs)) {y:AV} (h1:off+i.size<=cs.length) (h2:(cellsOf y).length=i.size) (h3:(cellsOf y).all aF=true):
  (Instr.storeAt t (.pointer (some ⟨β b,off,none⟩)) (y.aN β)).run C.P w=.ok () (w.setCells (β b) off ((cellsOf y).map (AV.leaf β))):=by
 obtain⟨_,_,g1,_⟩:=hr.own b tb cs hb;have ht:=GO h3;have lT:=gm β y ht;have hz:=(hC t i hi).size;cases hq:C.P.info? t with
 | none=>rw[hq] at hz;simp at hz
 | some ti=>
   rw[hq] at hz;simp at hz
   have:=run_storeCells_cells (P:=C.P) (β b) off ((cellsOf y).map (AV.leaf β)) 0 w (λj hj=>by
     rw[cJ] at hj;obtain⟨z,hz⟩:∃ z,(cs.map (AV.leaf β))[off+j]? =some z:=⟨_,aZ (by rw[cJ];omega)⟩;rw[ia,g1.cell (u:=z) (by simpa using hz)];rfl)
    (λj _=>g1.frozen _) (λz hz=>by
     obtain⟨q,hq,rfl⟩:=cU.1 hz;exact wm (nL (aW.1 h3 q hq)))
   have e6:(y.aN β).cells.size=i.size:=by rw[<-yc,<-lT,cJ,h2]
   rw[ia] at this;simp only[Instr.storeAt,Instr.sureAddr,storeVar,sizeOf,typeInfo,Sem.run_bind,Sem.run_pure,Result.andThen_ok];simp[hq,hz,e6,<-lT,this]
theorem sM (hr:Rel C β F H a w) {tb:TypeId} (hb:H b=some (tb,cs)) (hv:∀ j u,vs[j]? =some u->cs[off+j]? =some u):∀ j u,(vs.map (AV.leaf β))[j]? =some u->w.cell? ((⟨β b,off,none⟩:Addr).add j)=some u:=by
 intro j u hj;obtain⟨_,_,g1,_⟩:=hr.own b tb cs hb;rw[Addr.add_mid];rw[iK] at hj;cases hvj:vs[j]? with
 | none=>rw[hvj] at hj;cases hj
 | some x=>
   rw[hvj] at hj;cases hj;refine g1.cell ?_;simp[hv j x hvj]
theorem GP (hC:C.Ok) (h:act C F H o=.dw v u) (hd:il C.N o.dst=true) (hr:Rel C β F H a w):cY C F H o a w v u:=by
 unfold act at h;cases hop:o.op <;> rw[hop] at h <;> simp only at h <;> try (first|cases h;done|exact (dC h).elim)
 case move x=>
  obtain⟨h1,rfl⟩:=lC h;exact cY.pure hr hd (hr.cW h1) (by simp[execOp,hop,hr.ev h1])
 case assign x=>
  obtain⟨h1,rfl⟩:=lC h;exact cY.pure hr hd (hr.cW h1) (by simp[execOp,hop,hr.ev h1])
 case pick c x y=>
  split at h
  ·rename_i t ht;obtain⟨h1,rfl⟩:=lC h;have hc:=hr.gz ht;cases t
   ·exact cY.pure hr hd (hr.cW h1) (by simp[execOp,hop,hc,asBool,hr.ev h1])
   ·exact cY.pure hr hd (hr.cW h1) (by simp[execOp,hop,hc,asBool,hr.ev h1])
  ·cases h
 case alloc t=>
  split at h
  ·rename_i d i fC hi;obtain⟨h1,h2,h3,rfl,rfl⟩:=oH h;rw[fC] at hd;have hlt:d<C.N:=by simpa [il,Nat.blt_eq] using hd
   obtain⟨bG,he,Br⟩:=hr.make hlt h1 h2 h3 (by rw[aG];intro j hj;cases hj);rw[aA] at Br;refine⟨bG,_,aY.alloc _ _,Br.put (by rw[fC];exact hd) (uV aa),.inl ?_⟩;have he':(AV.box d 0).aN bG=.pointer (some ⟨w.heap.size,0,none⟩):=by show Value.pointer (some ⟨bG d,0,none⟩)=_;rw[he]
   rw[he'];simp[execOp,hop,Instr.alloc,(hC t i hi).zero,newVar,newRow]
  ·cases h
 case box t x=>
  split at h
  ·rename_i d y fC hv;obtain⟨h1,h2,h3,rfl,rfl⟩:=oH h;rw[fC] at hd;have hlt:d<C.N:=by simpa [il,Nat.blt_eq] using hd
   have ht:=GO h3;obtain⟨bG,he,Br⟩:=hr.make hlt h1 h2 h3 (λj hj=>hr.cW hv j (im ht hj));rw[gm β y ht] at Br;refine⟨bG,_,aY.alloc _ _,Br.put (by rw[fC];exact hd) (uV aa),.inl ?_⟩;have he':(AV.box d 0).aN bG=.pointer (some ⟨w.heap.size,0,none⟩):=by show Value.pointer (some ⟨bG d,0,none⟩)=_;rw[he]
   rw[he'];simp[execOp,hop,Instr.box,hr.ev hv,newVar,newRow]
  ·cases h
 case build t ps=>
  split at h
  ·rename_i i l hi hl
   split at h
   ·rename_i cs hf;rw[bU,kg] at h;cases h;have Ei:=hr.zV hl
    have hg:i.agg=true:=by
     cases hg:i.agg with
     | true=>rfl
     | false=>rw[hg] at hf;cases hf
    rw[hg] at hf;refine cY.pure hr hd (λj hj=> ?_) ?_
    ·rcases yM _ _ hf j (sI hj) with e|⟨p,hp,e⟩
     ·rw[aG] at e;cases e
     ·exact hr.closed.zV hl p hp j e
    ·have:(Instr.build t (ps.map λx=>(x.1,a.eval x.2))).run C.P w=.ok (.agg (cs.map (AV.leaf β)).toArray) w:=(hC t i hi).bld hg _ w _ (by
      rw[lh,Ei];have:=Ca (β:=β) _ _ hf;rw[aA] at this;exact this)
     rw[pY];simp[execOp,hop,this]
   ·cases h
  ·cases h
 case load t x=>
  split at h
  ·rename_i b off i hx hi
   split at h
   ·rename_i tb cs hb;obtain⟨h1,rfl,rfl⟩:=yK h;have he:a.eval x=.pointer (some ⟨β b,off,none⟩):=hr.ev hx;have hl:((cs.drop off).take i.size).length=i.size:=by rw[aR,nz];omega
    have hk:((cs.drop off).take i.size).all aF=true:=aW.2 λy hy=>aW.1 (hr.own b tb cs hb).ok y (nt (lf hy))
    have hsub:∀ j u,((cs.drop off).take i.size)[j]? =some u->cs[off+j]? =some u:=λj u hj=>by
     rw[nv] at hj
     split at hj
     ·rwa [tB] at hj
     ·cases hj
    refine cY.pure hr hd (λj hj=> ?_) ?_
    ·obtain⟨y,hy,hj'⟩:=bl.1 (sJ hk hj);exact hr.hp.closed b tb cs hb j (bl.2 ⟨y,nt (lf hy),hj'⟩)
    ·have:=ew (hC t i hi) ⟨β b,off,none⟩ (((cs.drop off).take i.size).map (AV.leaf β)) (by rw[cJ,hl]) w (sM hr hb hsub);rw[qb (hC t i hi) hl hk];simp[execOp,hop,he,Instr.loadAt,Instr.sureAddr,this]
   ·cases h
  ·split at h <;> cases h
  ·cases h
  ·cases h
 case store t x y=>
  split at h
  ·rename_i b off y' i hx hv hi
   split at h
   ·rename_i tb cs hb;obtain⟨h1,h2,h3,rfl,rfl⟩:=ED h;have he:a.eval x=.pointer (some ⟨β b,off,none⟩):=hr.ev hx;have hy:=hr.ev hv;obtain⟨k1,k2⟩:=hr.stored hb (by rw[h2];exact h1) h3 (λj hj=>hr.cW hv j (im (GO h3) hj));rw[h2] at k2;refine⟨β,_,k1,k2.put hd (λ_ hi=>by cases hi),.inr ⟨?_,aa⟩⟩;have:=rE hC hr hi hb h1 h2 h3;simp[execOp,hop,he,hy,this]
   ·cases h
  ·split at h
   ·unfold yH at h
    revert h
    generalize (Nat.beq _ _ && _)=q;cases q <;> intro h <;> cases h
   ·cases h
  ·cases h
 case binOp op t x y t'=>
  split at h
  ·rename_i p q hp hq;have e1:=hr.gz hp;have e2:=hr.gz hq
   split at h
   ·rename_i i hi;obtain⟨y',h1,rfl,rfl⟩:=eQ h;cases hb:i.bool with
    | false=>rw[hb] at h1;cases h1
    | true=>
      rw[hb] at h1;change binB op p q=some y' at h1;refine cY.val hr hd ?_;have hu:=(hC t i hi).isBool hb;unfold binB at h1;cases op <;> simp at h1 <;> subst h1 <;> simp[execOp,hop,e1,e2,eqGuard,binOp,run_equal_bool w t _ _ hu]
   ·cases h
  ·rename_i p hp hq;have e1:=hr.gz hp;have e2:=hr.gz hq
   split at h
   ·rename_i i hi;obtain⟨y',h1,rfl,rfl⟩:=eQ h;cases hb:i.ptr with
    | false=>rw[hb] at h1;cases h1
    | true=>
      rw[hb] at h1;change rz op p.isNone=some y' at h1;exact cY.val hr hd (qd hop e1 e2 ((hC t i hi).BU hb) h1 w)
   ·cases h
  ·rename_i p l c n c' hp hq;have e1:=hr.gz hp;have e2:=hr.gz hq
   split at h
   ·rename_i i hi;obtain⟨y',h1,rfl,rfl⟩:=eQ h;cases hb:(i.elem.isSome && (Nat.beq n 0 && Nat.beq c' 0)) with
    | false=>rw[hb] at h1;cases h1
    | true=>
      rw[hb] at h1;change rz op p.isNone=some y' at h1;simp only[Bool.and_eq_true,Nat.beq_eq] at hb;obtain⟨hb,rfl,rfl⟩:=hb;obtain⟨⟨e,sz⟩,he⟩:=Km.1 hb;exact cY.val hr hd (yN hop e1 e2 ((hC t i hi).isSlice e sz he).1 h1 w)
   ·cases h
  ·rename_i p q _ _ _ hp hq;obtain⟨y',h1,rfl,rfl⟩:=eQ h;refine cY.val hr hd ?_;have:=Lh (P:=C.P) (t:=t) (x:=x) (y:=y) h1 w;unfold execOp;rw[hop];show (do pure (Next.value (<-(do eqGuard op t x y (a.eval x) (a.eval y);binOp op t (a.eval x) (a.eval y)))):Sem Next).run C.P w=_;rw[hr.gz hp,hr.gz hq,Sem.run_bind,this];rfl
  ·rename_i hp hq;have e2:=hr.gz hq
   split at h
   ·rename_i b off i hx hi;have e1:a.eval x=.pointer (some ⟨β b,off,none⟩):=hr.ev hx;obtain⟨y',h1,rfl,rfl⟩:=eQ h;cases hb:i.ptr with
    | false=>rw[hb] at h1;cases h1
    | true=>
      rw[hb] at h1;change rz op false=some y' at h1;exact cY.val hr hd (qd hop e1 e2 ((hC t i hi).BU hb) h1 w)
   ·rename_i b off i hx hi;have e1:a.eval x=.pointer (some ⟨β b,off,none⟩):=hr.ev hx;obtain⟨y',h1,rfl,rfl⟩:=eQ h;cases hb:i.ptr with
    | false=>rw[hb] at h1;cases h1
    | true=>
      rw[hb] at h1;change rz op false=some y' at h1;exact cY.val hr hd (qd hop e1 e2 ((hC t i hi).BU hb) h1 w)
   ·cases h
  ·rename_i n c' hp hq;have e2:=hr.gz hq
   split at h
   ·rename_i b off l c i hx hi;have e1:a.eval x=.slice (some ⟨β b,off,none⟩) l c:=hr.ev hx;obtain⟨y',h1,rfl,rfl⟩:=eQ h;cases hb:(i.elem.isSome && (Nat.beq n 0 && Nat.beq c' 0)) with
    | false=>rw[hb] at h1;cases h1
    | true=>
      rw[hb] at h1;change rz op false=some y' at h1;simp only[Bool.and_eq_true,Nat.beq_eq] at hb;obtain⟨hb,rfl,rfl⟩:=hb;obtain⟨⟨e,sz⟩,he⟩:=Km.1 hb;exact cY.val hr hd (yN hop e1 e2 ((hC t i hi).isSlice e sz he).1 h1 w)
   ·cases h
  ·cases h
 case unOp op t x=>
  cases op <;> simp only at h <;> try (exact (dC h).elim)
  ·split at h
   ·rename_i k n hx;cases h;exact cY.val hr hd (by simp[execOp,hop,hr.gz hx,Op.unary,Op.intArith])
   ·cases h
  ·split at h
   ·rename_i t ht;cases h;exact cY.val hr hd (by simp[execOp,hop,hr.gz ht,Op.unary])
   ·cases h
 case convert s t x=>
  split at h
  ·rename_i i' i k n hs hi hx
   split at h
   ·rename_i kd hk;cases h;obtain⟨d,hsd,_⟩:=(hC s i' hs).row;have hu:=(hC t i hi).isInt kd hk;refine cY.val hr hd ?_
    have:(convert s t (.int k n)).run C.P w=.ok (.int kd (kd.wrap n)) w:=by
     cases d <;> simp[convert,run_underlying hsd,run_underlying hu,Conv.intToInt]
    simp[execOp,hop,hr.gz hx,this]
   ·cases h
  ·cases h
 case fieldAddr t x k=>
  split at h
  ·rename_i b off i hx hi
   split at h
   ·rename_i p hp;cases h;have he:a.eval x=.pointer (some ⟨β b,off,none⟩):=hr.ev hx;exact cY.pure hr hd (λi' pI=>hr.cW hx i' (by simpa [AV.ids] using pI)) (by simp[execOp,hop,he,(hC t i hi).Ey k p hp,AV.aN])
   ·cases h
  ·rename_i b off i hx hi
   split at h
   ·rename_i p hp;cases h;have he:a.eval x=.pointer (some ⟨β b,off,none⟩):=hr.ev hx;exact cY.pure hr hd (λi' pI=>hr.cW hx i' (by simpa [AV.ids] using pI)) (by simp[execOp,hop,he,(hC t i hi).Ey k p hp,AV.aN])
   ·cases h
  ·rename_i b off i hx hi
   split at h
   ·rename_i p hp;cases h;have he:a.eval x=.pointer (some ⟨b,off,none⟩):=hr.ev hx;exact cY.val hr hd (by simp[execOp,hop,he,(hC t i hi).Ey k p hp])
   ·cases h
  ·cases h
 case nilCheck x=>
  split at h
  ·rename_i b off hx;cases h;have he:a.eval x=.pointer (some ⟨β b,off,none⟩):=hr.ev hx;exact cY.pure hr hd (λi' pI=>hr.cW hx i' (by simpa [AV.ids] using pI)) (by simp[execOp,hop,he,AV.aN])
  ·rename_i b off hx;cases h;have he:a.eval x=.pointer (some ⟨β b,off,none⟩):=hr.ev hx;exact cY.pure hr hd (λi' pI=>hr.cW hx i' (by simpa [AV.ids] using pI)) (by simp[execOp,hop,he,AV.aN])
  ·rename_i b hx;cases h;have he:a.eval x=.pointer (some b):=hr.ev hx;exact cY.val hr hd (by simp[execOp,hop,he])
  ·cases h
 case field t x k=>
  split at h
  ·rename_i cs i hx hi;obtain⟨rfl,_⟩:=jy h;have he:a.eval x=.agg cs:=hr.ev hx;refine cY.pure hr hd (λj hj=> ?_) ?_
   ·have:=rD h j hj;rw[aG] at this;cases this
   ·have:=yO (β:=β) hC hi h w;rw[aA] at this;simp[execOp,hop,he,this]
  ·rename_i l i hx hi;obtain⟨rfl,_⟩:=jy h;have he:a.eval x=.agg (l.map (AV.leaf β)).toArray:=hr.ev hx;refine cY.pure hr hd (λj hj=>hr.cW hx j (rD h j hj)) ?_;have:=yO (β:=β) hC hi h w;simp[execOp,hop,he,this]
  ·cases h
 case extract x k=>
  split at h
  ·rename_i vs hx;obtain⟨y,h1,rfl,rfl⟩:=eQ h;rw[uU] at h1;have h1:vs[k]? =some y:=by simpa using h1
   have he:a.eval x=.tuple vs:=hr.ev hx;exact cY.val hr hd (by simp[execOp,hop,he,Instr.extract,h1])
  ·rename_i l hx
   split at h
   ·rename_i y hy;cases hn:eP y with
    | false=>rw[hn] at h;cases h
    | true=>
      rw[hn] at h;cases h;rw[uU] at hy;have he:a.eval x=.tuple (l.map (AV.iQ β)).toArray:=hr.ev hx;refine cY.pure hr hd (λj hj=>hr.cW hx j (mh.2 ⟨v,dx hy,by rw[qa hn];exact hj⟩)) ?_;rw[<-nO hn];simp[execOp,hop,he,Instr.extract,hy]
   ·cases h
  ·cases h
 case call c=>
  split at h
  ·rename_i lT
   split at h
   ·rename_i x t hx ht;have e1:c.args=#[x]:=jS.1 hx;have e2:c.argTypes=#[t]:=jS.1 ht
    split at h
    ·rename_i p n k i hv hi
     split at h
     ·rename_i sz hz;cases h;obtain⟨he,_⟩:=(hC t i hi).isSlice sz.1 sz.2 hz;have e3:a.eval x=.slice p n k:=hr.ev hv;exact cY.val hr hd (by simp[execOp,hop,resolve,lT,invoke,builtin,Builtin.len_,e1,e2,e3,run_underlying he,goInt])
     ·cases h
    ·rename_i b o n k i hv hi
     split at h
     ·rename_i sz hz;cases h;obtain⟨he,_⟩:=(hC t i hi).isSlice sz.1 sz.2 hz;have e3:a.eval x=.slice (some ⟨β b,o,none⟩) n k:=hr.ev hv;exact cY.val hr hd (by simp[execOp,hop,resolve,lT,invoke,builtin,Builtin.len_,e1,e2,e3,run_underlying he,goInt])
     ·cases h
    ·rename_i s i hv hi;cases hz:sH i.zero with
     | false=>rw[hz] at h;cases h
     | true=>
       rw[hz] at h;cases h;have he:=(hC t i hi).isStr hz;have e3:a.eval x=.string s:=hr.ev hv;exact cY.val hr hd (by simp[execOp,hop,resolve,lT,invoke,builtin,Builtin.len_,e1,e2,e3,run_underlying he,goInt])
    ·cases h
   ·cases h
  ·rename_i lT
   split at h
   ·rename_i k x r hx;cases h;obtain⟨vs,hvs,yP⟩:=Gb.1 hx;have e1:=hr.evs hvs;cases vs with
    | nil=>cases yP
    | cons y l=>
      obtain⟨x',r',he,rfl,hrun⟩:=Cg (P:=C.P) (λx y=>if y>x then y else x) Builtin.max2 (λk a b w=>aa) l y yP;cases he
      have hm:∀ (r:List Int) (x:Int),rB x r=r.foldl (λx y=>if y>x then y else x) x:=λr=>by
       induction r with
       | nil=>intro x;rfl
       | cons z r ih=>intro x;rw[rB,ih];rfl
      refine cY.val hr hd ?_;have e5:(c.args.map a.eval).toList=.int k x::l:=by rw[lh,e1]
      have e6:(Builtin.max_ c.argTypes o.type (c.args.map a.eval)).run C.P w=.ok (.int k (rB x r)) w:=by
       unfold Builtin.max_;rw[e5];show (l.foldlM Builtin.max2 (.int k x)).run C.P w=_;rw[hrun,hm]
      unfold execOp;rw[hop];simp only[resolve,lT,invoke,builtin,Sem.run_bind,Sem.run_pure,Result.andThen_ok,e6]
   ·cases h
  ·rename_i lT
   split at h
   ·rename_i k x r hx;cases h;obtain⟨vs,hvs,yP⟩:=Gb.1 hx;have e1:=hr.evs hvs;cases vs with
    | nil=>cases yP
    | cons y l=>
      obtain⟨x',r',he,rfl,hrun⟩:=Cg (P:=C.P) (λx y=>if y<x then y else x) Builtin.min2 (λk a b w=>aa) l y yP;cases he
      have hm:∀ (r:List Int) (x:Int),Ld x r=r.foldl (λx y=>if y<x then y else x) x:=λr=>by
       induction r with
       | nil=>intro x;rfl
       | cons z r ih=>intro x;rw[Ld,ih];rfl
      refine cY.val hr hd ?_;have e5:(c.args.map a.eval).toList=.int k x::l:=by rw[lh,e1]
      have e6:(Builtin.min_ c.argTypes o.type (c.args.map a.eval)).run C.P w=.ok (.int k (Ld x r)) w:=by
       unfold Builtin.min_;rw[e5];show (l.foldlM Builtin.min2 (.int k x)).run C.P w=_;rw[hrun,hm]
      unfold execOp;rw[hop];simp only[resolve,lT,invoke,builtin,Sem.run_bind,Sem.run_pure,Result.andThen_ok,e6]
   ·cases h
  ·split at h
   ·rw[bU] at h;cases h
   ·cases h
  ·exact (Ch h).elim
  ·exact (dC h).elim
 case makeFunc fn first cap=>
  cases fn <;> simp only at h <;> try (exact (dC h).elim)
  split at h
  ·rename_i l hl hm;cases h;have e1:=hr.evs hl;have e2:=hr.pX hm;have e3:first.map a.eval=l.toArray:=jS.1 (by rw[lh,e1]);have e4:cap.map a.eval=#[]:=jS.1 (by rw[lh,e2];rfl);exact cY.val hr hd (by simp[execOp,hop,Instr.makeFunc,e3,e4])
  ·rename_i l m hne hl hm
   split at h
   ·rename_i bs pV;cases h;have e1:=hr.evs hl;have e2:=hr.pX hm;have e3:first.map a.eval=l.toArray:=jS.1 (by rw[lh,e1]);have hb:=wy pV;have e4:cap.map a.eval=(bs.map λp=>Value.pointer (some ⟨β p.1,p.2,none⟩)).toArray:=jS.1 (by rw[lh,e2,hb,qQ];rfl)
    exact cY.pure hr hd (λi hi=>by
     obtain⟨p,hp,rfl⟩:=cU.1 (show i∈bs.map (·.1) from hi);exact hr.closed.pX hm (.box p.1 p.2) (by rw[hb];exact cU.2 ⟨p,hp,aa⟩) p.1 (by simp[AV.ids])) (by simp[execOp,hop,Instr.makeFunc,e3,e4,AV.aN])
   ·cases h
  ·cases h
 case buildSlice t n ps=>
  revert h
  cases hsu:C.SU t <;> intro h
  ·rw[cond_false] at h
   split at h
   ·rename_i d i l fC hi hl
    split at h
    ·rename_i e sz hz
     split at h
     ·rename_i ie cs DT hcs;cases hq:Nat.beq ps.size n && Nat.ble (n*sz) 16777216 with
      | false=>rw[hq] at h;cases h
      | true=>
        rw[hq] at h;rw[dR] at hq;have q1:=fT hq.1;have q2:=cz hq.2;obtain⟨h1,h2,h3,rfl,rfl⟩:=yL h;rw[fC] at hd;have hlt:d<C.N:=by simpa [il,Nat.blt_eq] using hd
        obtain⟨bG,he,Br⟩:=hr.make hlt h1 h2 h3 (λj hj=>by
         obtain⟨p,hp,hpj⟩:=Cf _ _ hcs j hj;exact hr.closed.zV hl p hp j hpj)
        refine⟨bG,_,aY.alloc _ _,Br.put (by rw[fC];exact hd) (uV aa),.inl ?_⟩;have he':(AV.row d 0 n n).aN bG=.slice (some ⟨w.heap.size,0,none⟩) n n:=by show Value.slice (some ⟨bG d,0,none⟩) n n=_;rw[he]
        rw[he'];obtain⟨hu,hsz⟩:=(hC t i hi).isSlice e sz hz;have Ei:=hr.zV hl
        have hlen:l.length=n:=by
         have:=ai List.length Ei;simp at this;omega
        have Cj:∀ A:Array Value,A.size=n*sz->Instr.fill (λi=>some (i*sz,sz)) A (l.map λp=>(p.1,p.2.aN β))=some (cs.map (AV.leaf β)).toArray:=λA hA=>by
         have:=sL (β:=β) (sz:=sz) l 0 [] A.toList hcs bc (by rw[yc,hA,hlen]);simpa using this
        have jN:=(hC e ie DT).zero;simp only[execOp,hop,Instr.buildSlice,Sem.run_bind,run_underlying hu,Result.andThen_ok,hsz];rw[if_neg ae];have e5:(ps.map λx=>(x.1,a.eval x.2)).toList=l.map λp=>(p.1,p.2.aN β):=by rw[lh,Ei]
        by_cases hn:n*sz=0
        ·simp only[if_pos hn,Sem.run_bind,Sem.run_pure,Result.andThen_ok];rw[e5,Cj _ bc];simp[newRow]
        ·simp only[if_neg hn,Sem.run_bind,Sem.run_pure,Result.andThen_ok,jN];rw[e5,Cj _ bc];simp[newRow]
     ·cases h
    ·cases h
   ·cases h
  ·exact (dC h).elim
 case indexAddr t x ix=>
  split at h <;> first|(cases h;done)|(split at h <;> cases h)
 case makeSlice t l c=>
  split at h
  ·split at h
   ·split at h
    ·revert h
     generalize (!_ && _)=q;cases q <;> intro h <;> cases h
    ·cases h
   ·cases h
  ·cases h
 case slice t x lo hi mx=>
  cases mx <;> simp only at h <;> try (exact (dC h).elim)
  split at h
  ·split at h <;> cases h
  ·split at h <;> cases h
  ·cases h
 case index t x ix=>
  split at h
  ·split at h <;> cases h
  ·cases h
 case makeInterface t x=>
  split at h
  ·rename_i v i hx hi;cases hb:i.kind.isSome || i.ptr with
   | false=>rw[hb] at h;cases h
   | true=>
     rw[hb] at h;cases h;exact cY.val hr hd (by simp[execOp,hop,hr.gz hx,xO (hC t i hi) hb])
  ·cases h
 case typeAssert x xt t ok=>
  cases ok <;> simp only at h <;> try (exact (dC h).elim)
  split at h
  ·rename_i u v i hx hi;cases hb:Nat.beq u t && (i.kind.isSome || i.ptr) with
   | false=>rw[hb] at h;cases h
   | true=>
     rw[hb] at h;cases h;rw[dR] at hb;have e:=fT hb.1;subst e;exact cY.val hr hd (by simp[execOp,hop,hr.gz hx,wA (hC _ i hi) hb.2])
  ·cases h
end
end Go.Proofs.YtphfjihmohoffaaGreat
