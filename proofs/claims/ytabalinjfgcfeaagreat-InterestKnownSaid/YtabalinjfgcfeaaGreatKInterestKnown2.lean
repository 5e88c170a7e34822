/-Gb of the proof,laid behind one another. -/
import Derived.Test.YtabalinjfgcfeaaGreatKInterestKnown1
set_option linter.all false
set_option maxHeartbeats 64000000
namespace Go.Proofs.YtabalinjfgcfeaaGreat
section
open Go.RowKit
def Jj (neg:Bool) (xs:List Nat):Int:=if neg=true then-(ay xs:Int) else (ay xs:Int)
def fy (neg:Bool) (xs:List Nat):Bool:=match xs.getLast? with|none=> !neg|some x=>decide (x≠0)
def numOf (neg:Bool) (xs:List Nat):Int:=if fy neg xs=true then Jj neg xs else 0
theorem zc (neg:Bool):fy neg []= !neg:=rfl
variable {xs:List Nat}
theorem Dl {neg:Bool} {x:Nat} (h:xs[xs.length-1]? =some x):fy neg xs=decide (x≠0):=by
 unfold fy;rw[TZ,h]
theorem UD {neg:Bool} (h:fy neg xs=true):∀ x,xs.getLast? =some x->x≠0:=by
 intro x hx;unfold fy at h;rw[hx] at h;simpa using h
theorem AE {neg:Bool} (hl:ez xs) (h:fy neg xs=true) (hx:xs≠[]):ay xs≠0:=by
 intro h0;have:=za hl (UD h);rw[h0,dy] at this;exact hx this.symm
theorem canon {neg:Bool} (hl:ez xs) (h:fy neg xs=true):neg=decide (Jj neg xs<0)/\xs=limbs (Jj neg xs).natAbs:=by
 have h1:=za hl (UD h);have h2:(Jj neg xs).natAbs=ay xs:=by unfold Jj;split <;> simp
 refine⟨?_,by rw[h2,h1]⟩;by_cases hx:xs=[]
 ·subst hx;rw[zc] at h;cases neg
  ·simp[Jj,ij]
  ·cases h
 ·have:=AE hl h hx;cases neg
  ·simp[Jj]
  ·simp[Jj];omega
theorem uD (X:Int):fy (decide (X<0)) (limbs X.natAbs)=true:=by
 by_cases h:X=0
 ·subst h;simp[dy,fy]
 ·unfold fy;cases hl:(limbs X.natAbs).getLast? with
  | none=>rw[List.getLast?_eq_none_iff,sK] at hl;omega
  | some x=>simpa using zb _ _ hl
theorem Sh (X:Int):Jj (decide (X<0)) (limbs X.natAbs)=X:=by
 unfold Jj;rw[aB];by_cases h:X<0
 ·rw[if_pos (by simpa using h)];omega
 ·rw[if_neg (by simpa using h)];omega
theorem jV (X:Int):numOf (decide (X<0)) (limbs X.natAbs)=X:=by
 unfold numOf;rw[if_pos (uD X),Sh]
theorem Kk {neg:Bool} (hl:ez xs):(limbs (numOf neg xs).natAbs).length<=xs.length:=by
 unfold numOf
 split
 ·rename_i h;rw[<-(canon hl h).2];exact bL _
 ·rw[show (0:Int).natAbs=0 from aa,dy];exact fH _
def jv (w:World) (v:Value) (neg:Bool) (xs:List Nat):Prop:=∃ p c,v=.agg #[.bool neg,.slice p xs.length c]/\Rd w 1 (.slice p xs.length c) xs.length (ints .u32 xs)/\ez xs
def dL (w:World) (v:Value) (X:Int) (k:Nat):Prop:=∃ neg xs,jv w v neg xs/\X=numOf neg xs/\xs.length<=k
def dX (w:World) (v:Value) (X:Int):Prop:=jv w v (decide (X<0)) (limbs X.natAbs)
def aO (w:World) (B:Nat) (v:Value) (X:Int):Prop:=∃ p c,v=.agg #[.bool (decide (X<0)),.slice p (limbs X.natAbs).length c]/\w.ownsRow B 117 1 (.slice p (limbs X.natAbs).length c) (limbs X.natAbs).length (ints .u32 (limbs X.natAbs))
def aU (w w':World):Prop:=Below w.heap.size w w'
theorem aU.refl (w:World):aU w w:=iP _ _
variable {w w':World}
theorem aU.alloc (h:aU w w') (o:Obj):aU w (w'.alloc o):=Below.alloc h h.size o
theorem aU.drew (h:aU w w'):aU w w'.drew:=Below.drew h
theorem aU.drewN (h:aU w w') (n:Nat):aU w (w'.drewN n):=Below.drewN h n
theorem aU.aR {a b c:World} (h:aU a b) (k:aU b c):aU a c:=Below.aR h k
theorem aU.setCell (h:aU w w') {p:Addr} (hp:w.heap.size<=p.block) (v:Value):aU w (w'.setCell p v):=Below.setCell h hp v
variable {u:Value}
theorem aU.cell (h:aU w w') {a:Addr} (hc:w.cell? a=some u):w'.cell? a=some u:=Below.keeps h _ _ hc
theorem aU.size (h:aU w w'):w.heap.size<=w'.heap.size:=Below.size h
theorem jv.bI {v:Value} {neg:Bool} (h:jv w v neg xs) (hb:aU w w'):jv w' v neg xs:=by
 obtain⟨p,c,hv,hr,hl⟩:=h;exact⟨p,c,hv,hr.below hb,hl⟩
variable {X:Int}
theorem dL.bI {v:Value} {k:Nat} (h:dL w v X k) (hb:aU w w'):dL w' v X k:=by
 obtain⟨neg,xs,hn,hx,hk⟩:=h;exact⟨neg,xs,hn.bI hb,hx,hk⟩
theorem dX.bI {v:Value} (h:dX w v X) (hb:aU w w'):dX w' v X:=jv.bI h hb
variable {B:Nat}
theorem aO.rd {v:Value} (h:aO w B v X):dX w v X:=by
 obtain⟨p,c,hv,ho⟩:=h;exact⟨p,c,hv,Rd.own ho,aK _⟩
theorem aO.mono {B':Nat} {v:Value} (h:aO w B v X) (hB:B'<=B):aO w B' v X:=by
 obtain⟨p,c,hv,ho⟩:=h;exact⟨p,c,hv,Own.mono ho hB⟩
theorem dX.to {v:Value} {k:Nat} (h:dX w v X) (hk:(limbs X.natAbs).length<=k):dL w v X k:=⟨_,_,h,(jV X).symm,hk⟩
theorem dL.len {v:Value} {k:Nat} (h:dL w v X k):(limbs X.natAbs).length<=k:=by
 obtain⟨neg,xs,⟨_,_,_,_,hl⟩,rfl,hk⟩:=h;exact bj (Kk hl) hk
theorem dX.zero (w:World):dX w (.agg #[.bool false,.slice none 0 0]) 0:=by
 refine⟨none,0,?_,?_,aK _⟩
 ·simp[dy]
 ·simp only[show (0:Int).natAbs=0 from aa,dy];exact Rd.nil w 1
theorem aO.zero (w:World) (B:Nat):aO w B (.agg #[.bool false,.slice none 0 0]) 0:=by
 refine⟨none,0,?_,?_⟩
 ·simp[dy]
 ·simp only[show (0:Int).natAbs=0 from aa,dy];exact qF _ _ _ _
variable {c m:Nat} {p:Option Addr}
theorem aO.of {neg:Bool} {n:Nat} (h:w.ownsRow B 117 1 (.slice p n c) (limbs m).length (ints .u32 (limbs m))) (hn:n=(limbs m).length) (X:Int) (hX:X=if neg=true then-(m:Int) else m):
  aO w B (.agg #[.bool (neg && decide (0<n)),.slice p n c]) X:=by
 subst hn;have h1:X.natAbs=m:=by rw[hX];split <;> simp
 refine⟨p,c,?_,by rw[h1];exact h⟩;rw[h1]
 congr 3
 by_cases hm:m=0
 ·subst hm;have:X=0:=ab;rw[this];simp[dy]
 ·have:=fN hm;cases neg
  ·simp at hX;simp[hX]
  ·simp at hX;simp[hX];omega
theorem dX.of {neg:Bool} {n:Nat} (h:Rd w 1 (.slice p n c) (limbs m).length (ints .u32 (limbs m))) (hn:n=(limbs m).length) (X:Int) (hX:X=if neg=true then-(m:Int) else m):
  dX w (.agg #[.bool (neg && decide (0<n)),.slice p n c]) X:=by
 subst hn;have h1:X.natAbs=m:=by rw[hX];split <;> simp
 refine⟨p,c,?_,by rw[h1];exact h,aK _⟩;rw[h1]
 congr 3
 by_cases hm:m=0
 ·subst hm;have:X=0:=ab;rw[this];simp[dy]
 ·have:=fN hm;cases neg
  ·simp at hX;simp[hX]
  ·simp at hX;simp[hX];omega
def Sz (X:Int) (k:Nat):Prop:=(limbs X.natAbs).length<=k
theorem Sz.lt {k:Nat} (h:Sz X k):X.natAbs<4294967296^k:=ox (uz _) (vm ab h)
theorem Sz.of_lt {k:Nat} (h:X.natAbs<4294967296^k):Sz X k:=pC k _ h
theorem Sz.mono {k l:Nat} (h:Sz X k) (OT:k<=l):Sz X l:=bj h OT
variable {Y:Int}
theorem Sz.le {k:Nat} (h:Sz Y k) (Uu:X.natAbs<=Y.natAbs):Sz X k:=bj (eJ Uu) h
theorem Sz.neg {k:Nat} (h:Sz X k):Sz (-X) k:=Sz.le h (by rw[Int.natAbs_neg];exact bL _)
theorem Sz.add {k l:Nat} (hx:Sz X k) (hy:Sz Y l) (hk:k<=m) (hl:l<=m):Sz (X+Y) (m+1):=by
 refine Sz.of_lt ?_;have h1:=ox hx.lt (vm ab hk);have h2:=ox hy.lt (vm ab hl);have h3:(X+Y).natAbs<=X.natAbs+Y.natAbs:=Int.natAbs_add_le X Y;rw[iL];omega
theorem Sz.mul {k l:Nat} (hx:Sz X k) (hy:Sz Y l):Sz (X*Y) (k+l):=by
 refine Sz.of_lt ?_;rw[Int.natAbs_mul,oB];exact Nat.mul_lt_mul'' hx.lt hy.lt
theorem Sz.zero:Sz 0 0:=by show (limbs 0).length<=0;rw[dy];exact bL _
theorem Sz.small (h:X.natAbs<4294967296):Sz X 1:=Sz.of_lt (by simpa using h)
def bO (w:World) (b:Nat) (t:TypeId) (cs:Array Value):Prop:=w.heap[b]? =some (.cells cs t (0,0))
variable {cs:Array Value} {t:TypeId}
theorem bO.lt {b:Nat} (h:bO w b t cs):b<w.heap.size:=(vh.1 h).1
theorem bO.new (w:World) (t:TypeId) (cs:Array Value):bO (w.alloc (.cells cs t)) w.heap.size t cs:=World.alloc_heap_new w _
theorem bO.newAt {b:Nat} (hb:b=w.heap.size) (t:TypeId) (cs:Array Value):bO (w.alloc (.cells cs t)) b t cs:=hb▸bO.new w t cs
theorem bO.bI {b:Nat} (h:bO w b t cs) (hb:aU w w'):bO w' b t cs:=(vC hb b h.lt).trans h
theorem bO.alloc {b:Nat} (h:bO w b t cs) (o:Obj):bO (w.alloc o) b t cs:=h.bI ((aU.refl w).alloc o)
theorem bO.drew {b:Nat} (h:bO w b t cs):bO w.drew b t cs:=h
theorem bO.drewN {b:Nat} (h:bO w b t cs) (n:Nat):bO (w.drewN n) b t cs:=h
variable {j:Nat}
theorem bO.cell {b:Nat} (h:bO w b t cs) (hj:cs[j]? =some u):w.cell? ⟨b,j,none⟩=some u:=by
 simp[World.cell?,show w.heap[b]? =_ from h,hj]
theorem bO.frozen {b:Nat} (h:bO w b t cs) (j:Nat):w.frozen? ⟨b,j,none⟩=false:=by
 simp[World.frozen?,show w.heap[b]? =_ from h]
theorem bO.set {b:Nat} (h:bO w b t cs) (v:Value):bO (w.setCell ⟨b,j,none⟩ v) b t (cs.setIfInBounds j v):=by
 obtain⟨hlt,hk⟩:=vh.1 h;show (w.heap.modify b _)[b]? =_;rw[mH (by rw[Array.size_modify];exact hlt),Array.getElem_modify_self,hk];rfl
variable {b':Nat}
theorem bO.other {b:Nat} (h:bO w b t cs) (hne:b≠b') (v:Value):bO (w.setCell ⟨b',j,none⟩ v) b t cs:=
 (wu _ _ _ b hne).trans h
theorem bO.two {b:Nat} {v:Value} (h:bO w b t #[u,v]):w.cell? ⟨b,0,none⟩=some u/\w.cell? ⟨b,1,none⟩=some v/\w.frozen? ⟨b,0,none⟩=false/\w.frozen? ⟨b,1,none⟩=false:=
 ⟨h.cell rfl,h.cell rfl,h.frozen 0,h.frozen 1⟩
theorem bO.dw {b:Nat} {v:Value} (h:bO w b t #[u,v]) (u' v':Value):bO ((w.setCell ⟨b,0,none⟩ u').setCell ⟨b,1,none⟩ v') b t #[u',v']:=(h.set (j:=0) u').set (j:=1) v'
theorem aU.dw (h:aU w w') {b:Nat} (hb:w.heap.size<=b) (u v:Value):aU w ((w'.setCell ⟨b,0,none⟩ u).setCell ⟨b,1,none⟩ v):=(h.setCell (p:=⟨b,0,none⟩) hb u).setCell (p:=⟨b,1,none⟩) hb v
theorem sO (w:World) (t t':TypeId) (cs gD:Array Value):bO ((w.alloc (.cells cs t)).alloc (.cells gD t')) w.heap.size t cs/\bO ((w.alloc (.cells cs t)).alloc (.cells gD t')) (w.heap.size+1) t' gD/\aU w ((w.alloc (.cells cs t)).alloc (.cells gD t')):=
 ⟨(bO.new _ _ _).alloc _,bO.newAt bN _ _,((aU.refl w).alloc _).alloc _⟩
theorem uE (w:World) (t t' Rq:TypeId) (cs gD yk:Array Value):bO (((w.alloc (.cells cs t)).alloc (.cells gD t')).alloc (.cells yk Rq)) w.heap.size t cs/\bO (((w.alloc (.cells cs t)).alloc (.cells gD t')).alloc (.cells yk Rq)) (w.heap.size+1) t' gD/\
  bO (((w.alloc (.cells cs t)).alloc (.cells gD t')).alloc (.cells yk Rq)) (w.heap.size+2) Rq yk/\aU w (((w.alloc (.cells cs t)).alloc (.cells gD t')).alloc (.cells yk Rq)):=
 ⟨(sO w t t' cs gD).1.alloc _,(sO w t t' cs gD).2.1.alloc _,bO.newAt bN _ _,(sO w t t' cs gD).2.2.alloc _⟩
def aN (W:World) (r:Nat) (w':World):Prop:=W.heap.size<=w'.heap.size/\∀ b,b<W.heap.size->b≠r->w'.heap[b]? =W.heap[b]?
theorem aN.refl (W:World) (r:Nat):aN W r W:=⟨bL _,λ_ _ _=>rfl⟩
variable {r:Nat} {W:World}
theorem aN.drew (h:aN W r w'):aN W r w'.drew:=h
theorem aN.aR {a b:World} (h:aN W r a) (k:aU a b):aN W r b:=
 ⟨bj h.1 k.size,λj hj hr=>(vC k j (ox hj h.1)).trans (h.2 j hj hr)⟩
theorem aN.alloc {a:World} (h:aN W r a) (o:Obj):aN W r (a.alloc o):=h.aR ((aU.refl a).alloc o)
theorem aN.set {a:World} (h:aN W r a) (v:Value):aN W r (a.setCell ⟨r,j,none⟩ v):=
 ⟨bj h.1 bN,λb hb hr=>(wu _ _ _ b hr).trans (h.2 b hb hr)⟩
theorem aN.cls {b:Nat} (h:aN W r w') (hc:bO W b t cs) (hr:b≠r):bO w' b t cs:=(h.2 b hc.lt hr).trans hc
theorem aN.cells {b:Nat} {v:Value} (h:aN W r w') (hc:bO W b t #[u,v]) (hr:b≠r):w'.cell? ⟨b,0,none⟩=some u/\w'.cell? ⟨b,1,none⟩=some v:=
 ⟨(h.cls hc hr).cell rfl,(h.cls hc hr).cell rfl⟩
variable {base e:Nat}
theorem bO.notRow {b sz n:Nat} {v:Value} {xs:List Value} (h:bO w b t cs) (hte:t≠e) (hr:w.ownsRow base e sz v n xs):some b≠v.ownBlock:=by
 rcases hr.2 with ⟨rfl,rfl⟩|⟨g,cap,cur,rfl,_,hg,_⟩
 ·simp[Value.ownBlock]
 ·intro e';obtain rfl:b=g:=by simpa [Value.ownBlock] using e'
  have:=(show w.heap[b]? =_ from h).symm.trans hg;simp at this;exact hte this.2
theorem Own.Zs {b sz n:Nat} {v:Value} {xs:List Value} (hr:w.ownsRow base e sz v n xs) (h:bO w b t cs) (hte:t≠e) (u:Value):(w.setCell ⟨b,j,none⟩ u).ownsRow base e sz v n xs:=by
 refine⟨hr.1,?_⟩;rcases hr.2 with h2|⟨g,cap,cur,hv,hb,hg,r⟩
 ·exact .inl h2
 ·refine .inr ⟨g,cap,cur,hv,hb,?_,r⟩
  have hne:g≠b:=λe'=>by
   have:=h.notRow hte hr;rw[hv] at this;simp[Value.ownBlock,e'] at this
  exact (wu _ _ _ g hne).trans hg
variable {x y:Value}
theorem Own.dw {b sz n:Nat} {v:Value} {xs:List Value} (hr:w.ownsRow base e sz v n xs) (h:bO w b t #[x,y]) (hte:t≠e) (u u':Value):((w.setCell ⟨b,0,none⟩ u).setCell ⟨b,1,none⟩ u').ownsRow base e sz v n xs:=
 Own.Zs (Own.Zs hr h hte u) (h.set (j:=0) u) hte u'
theorem bO.gu {b:Nat} (h:bO w b t cs) (hne:b≠b') (u v:Value):bO ((w.setCell ⟨b',0,none⟩ u).setCell ⟨b',1,none⟩ v) b t cs:=(h.other hne u).other hne v
theorem aO.dw {b:Nat} {v:Value} (h:aO w B v X) (hc:bO w b t #[x,y]) (ht:t≠117) (u u':Value):aO ((w.setCell ⟨b,0,none⟩ u).setCell ⟨b,1,none⟩ u') B v X:=by
 obtain⟨p,c,hv,ho⟩:=h;exact⟨p,c,hv,Own.dw ho hc ht u u'⟩
theorem aO.form {v:Value} (h:aO w B v X):∃ s p n c,v=.agg #[.bool s,.slice p n c]:=by
 obtain⟨p,c,hv,_⟩:=h;exact⟨_,_,_,_,hv⟩
theorem dX.lE {v:Value} (h:dX w v X):∃ s p n c,v=.agg #[.bool s,.slice p n c]:=by
 obtain⟨p,c,hv,_⟩:=h;exact⟨_,_,_,_,hv⟩
theorem dL.form {v:Value} {k:Nat} (h:dL w v X k):∃ s p n c,v=.agg #[.bool s,.slice p n c]:=by
 obtain⟨neg,xs,⟨p,c,hv,_⟩,_⟩:=h;exact⟨_,_,_,_,hv⟩
theorem aN.wF {a:World} {b:Nat} (h:aN W r a) (hb:W.heap.size<=b) (v:Value):aN W r (a.setCell ⟨b,j,none⟩ v):=
 ⟨bj h.1 bN,λk hk hr=>(wu _ _ _ k (by show k≠b;omega)).trans (h.2 k hk hr)⟩
theorem dX.parts {s:Bool} {n:Nat} (h:dX w (.agg #[.bool s,.slice p n c]) X):n=(limbs X.natAbs).length/\Rd w 1 (.slice p n c) n (ints .u32 (limbs X.natAbs))/\X=if s=true then-(X.natAbs:Int) else (X.natAbs:Int):=by
 obtain⟨p',c',hv,hr,_⟩:=h;simp only[Value.agg.injEq,Array.mk.injEq,List.cons.injEq,Value.bool.injEq,Value.slice.injEq,and_true] at hv;obtain⟨rfl,rfl,rfl,rfl⟩:=hv;refine⟨aa,hr,?_⟩
 split
 ·rename_i h;have:=CV h;omega
 ·rename_i h;have:¬ X<0:=λh'=>h (aE h');omega
theorem dX.own {s:Bool} {p':Option Addr} {n c':Nat} (h:dX w (.agg #[.bool s,.slice p n c]) X) (ho:w'.ownsRow B 117 1 (.slice p' n c') n (ints .u32 (limbs X.natAbs))):
  aO w' B (.agg #[.bool s,.slice p' n c']) X:=by
 obtain⟨p1,c1,hv,hr,_⟩:=h;simp only[Value.agg.injEq,Array.mk.injEq,List.cons.injEq,Value.bool.injEq,Value.slice.injEq,and_true] at hv;obtain⟨rfl,rfl,rfl,rfl⟩:=hv;exact⟨p',c',aa,ho⟩
theorem aO.ofNat {n:Nat} (h:w.ownsRow B 117 1 (.slice p n c) n (ints .u32 (limbs m))) (hn:n=(limbs m).length):aO w B (.agg #[.bool false,.slice p n c]) (m:Int):=by
 subst hn;refine⟨p,c,?_,by simpa using h⟩
 congr 3
theorem sign_neg (h:X<0):X.sign= -1:=Int.sign_eq_neg_one_of_neg h
theorem im (h:0<X):X.sign=1:=Int.sign_eq_one_of_pos h
theorem dX.Zt {s:Bool} {n:Nat} (h:dX w (.agg #[.bool s,.slice p n c]) X):s=decide (X<0):=by
 obtain⟨p',c',hv,hr,_⟩:=h;simp only[Value.agg.injEq,Array.mk.injEq,List.cons.injEq,Value.bool.injEq,Value.slice.injEq,and_true] at hv;exact hv.1
def bT (W:World) (r q:Nat) (w':World):Prop:=W.heap.size<=w'.heap.size/\∀ b,b<W.heap.size->b≠r->b≠q->w'.heap[b]? =W.heap[b]?
theorem bT.refl (W:World) (r q:Nat):bT W r q W:=⟨bL _,λ_ _ _ _=>rfl⟩
theorem bT.drew {q:Nat} (h:bT W r q w'):bT W r q w'.drew:=h
theorem bT.aR {a b:World} {q:Nat} (h:bT W r q a) (k:aU a b):bT W r q b:=
 ⟨bj h.1 k.size,λj hj hr hq=>(vC k j (ox hj h.1)).trans (h.2 j hj hr hq)⟩
theorem bT.Zu {a:World} {q:Nat} (h:bT W r q a) (v:Value):bT W r q (a.setCell ⟨r,j,none⟩ v):=
 ⟨bj h.1 bN,λb hb hr hq=>(wu _ _ _ b hr).trans (h.2 b hb hr hq)⟩
theorem bT.yl {a:World} {q:Nat} (h:bT W r q a) (v:Value):bT W r q (a.setCell ⟨q,j,none⟩ v):=
 ⟨bj h.1 bN,λb hb hr hq=>(wu _ _ _ b hq).trans (h.2 b hb hr hq)⟩
theorem bT.cls {q b:Nat} (h:bT W r q w') (hc:bO W b t cs) (hr:b≠r) (hq:b≠q):bO w' b t cs:=(h.2 b hc.lt hr hq).trans hc
theorem bO.apart {a b:Nat} {t':TypeId} {gD:Array Value} (h:bO w a t cs) (h':bO w b t' gD) (ht:t≠t'):a≠b:=λe=>by
 subst e;have:=(show w.heap[_]? =_ from h).symm.trans h';simp at this;exact ht this.2
theorem aO.cast {v:Value} (h:aO w B v X) (e:X=Y):aO w B v Y:=e▸h
theorem sum_len {a b n:Nat} (hn:n=(limbs a).length) (hm:m=(limbs b).length):(limbs (a+b)).length<=n+m+1:=by
 have:=Sz.add (X:=(a:Int)) (Y:=(b:Int)) (k:=n) (l:=m) (m:=n+m) (by show (limbs _).length<=_;rw[CU];omega) (by show (limbs _).length<=_;rw[CU];omega) ab ab;have e:((a:Int)+(b:Int)).natAbs=a+b:=ab;unfold Sz at this
 rwa [e] at this
inductive AV where
 | val (v:Value)
 | box (i off:Nat)
 | rz (i off:Nat)
 | row (i o n c:Nat)
 | fn (g:FuncId) (first:List Value) (cap:List (Nat×Nat))
 | agg (l:List AV)
 | lN (l:List AV)
def AV.leaf (β:Nat->Nat):AV->Value
 | .val v=>v
 | .box i off=>.pointer (some ⟨β i,off,none⟩)
 | .rz i off=>.pointer (some ⟨β i,off,none⟩)
 | .row i o n c=>.slice (some ⟨β i,o,none⟩) n c
 | .fn g first cap=>.func (.func g) first.toArray (cap.map λp=>Value.pointer (some ⟨β p.1,p.2,none⟩)).toArray
 | .agg _=>undef
 | .lN _=>undef
def AV.pT (β:Nat->Nat):AV->Value
 | .val v=>v
 | .box i off=>.pointer (some ⟨β i,off,none⟩)
 | .rz i off=>.pointer (some ⟨β i,off,none⟩)
 | .row i o n c=>.slice (some ⟨β i,o,none⟩) n c
 | .fn g first cap=>.func (.func g) first.toArray (cap.map λp=>Value.pointer (some ⟨β p.1,p.2,none⟩)).toArray
 | .agg l=>.agg (l.map (AV.leaf β)).toArray
 | .lN _=>undef
def AV.bU (β:Nat->Nat):AV->Value
 | .val v=>v
 | .box i off=>.pointer (some ⟨β i,off,none⟩)
 | .rz i off=>.pointer (some ⟨β i,off,none⟩)
 | .row i o n c=>.slice (some ⟨β i,o,none⟩) n c
 | .fn g first cap=>.func (.func g) first.toArray (cap.map λp=>Value.pointer (some ⟨β p.1,p.2,none⟩)).toArray
 | .agg l=>.agg (l.map (AV.leaf β)).toArray
 | .lN l=>.tuple (l.map (AV.pT β)).toArray
def AV.eu:AV->List Nat
 | .box i _=>[i]
 | .rz i _=>[i]
 | .row i _ _ _=>[i]
 | .fn _ _ cap=>cap.map (·.1)
 | _=>[]
def aI:List AV->List Nat
 | []=>[]
 | v::r=>v.eu++aI r
def AV.BW:AV->List Nat
 | .box i _=>[i]
 | .rz i _=>[i]
 | .row i _ _ _=>[i]
 | .fn _ _ cap=>cap.map (·.1)
 | .agg l=>aI l
 | _=>[]
def LI:List AV->List Nat
 | []=>[]
 | v::r=>v.BW++LI r
def AV.ids:AV->List Nat
 | .box i _=>[i]
 | .rz i _=>[i]
 | .row i _ _ _=>[i]
 | .fn _ _ cap=>cap.map (·.1)
 | .agg l=>aI l
 | .lN l=>LI l
 | .val _=>[]
def jN:List AV->List Nat
 | []=>[]
 | v::r=>v.ids++jN r
variable {i:Nat}
theorem bK {l:List AV}:i∈aI l↔∃ v∈l,i∈v.eu:=by
 induction l with
 | nil=>exact⟨λh=>(by cases h),λ⟨_,h,_⟩=>(by cases h)⟩
 | cons x r ih=>rw[aI,gg,ih];simp
theorem uF {l:List AV}:i∈LI l↔∃ v∈l,i∈v.BW:=by
 induction l with
 | nil=>exact⟨λh=>(by cases h),λ⟨_,h,_⟩=>(by cases h)⟩
 | cons x r ih=>rw[LI,gg,ih];simp
theorem Jk {l:List AV}:i∈jN l↔∃ v∈l,i∈v.ids:=by
 induction l with
 | nil=>exact⟨λh=>(by cases h),λ⟨_,h,_⟩=>(by cases h)⟩
 | cons x r ih=>rw[jN,gg,ih];simp
variable {β dA:Nat->Nat}
theorem BX {cap:List (Nat×Nat)} (h:∀ i∈cap.map (·.1),dA i=β i):(cap.map λp=>Value.pointer (some ⟨dA p.1,p.2,none⟩))=cap.map λp=>Value.pointer (some ⟨β p.1,p.2,none⟩):=
 yw λp hp=>by rw[h p.1 (fv.2 ⟨p,hp,rfl⟩)]
theorem AV.uG:∀ {v:AV},(∀ i∈v.eu,dA i=β i)->v.leaf dA=v.leaf β
 | .val _,_=>rfl
 | .box i off,h=>by simp only[AV.leaf,h i (by simp[AV.eu])]
 | .rz i off,h=>by simp only[AV.leaf,h i (by simp[AV.eu])]
 | .row i o n c,h=>by simp only[AV.leaf,h i (by simp[AV.eu])]
 | .fn g first cap,h=>by simp only[AV.leaf,BX h]
 | .agg _,_=>rfl
 | .lN _,_=>rfl
theorem mf {l:List AV} (h:∀ i∈aI l,dA i=β i):l.map (AV.leaf dA)=l.map (AV.leaf β):=
 yw λv hv=>AV.uG λi hi=>h i (bK.2 ⟨v,hv,hi⟩)
theorem AV.Pc:∀ {v:AV},(∀ i∈v.BW,dA i=β i)->v.pT dA=v.pT β
 | .val _,_=>rfl
 | .box i off,h=>by simp only[AV.pT,h i (by simp[AV.BW])]
 | .rz i off,h=>by simp only[AV.pT,h i (by simp[AV.BW])]
 | .row i o n c,h=>by simp only[AV.pT,h i (by simp[AV.BW])]
 | .fn g first cap,h=>by simp only[AV.pT,BX h]
 | .agg l,h=>by simp only[AV.pT,mf (l:=l) h]
 | .lN _,_=>rfl
theorem AV.GM:∀ {v:AV},(∀ i∈v.ids,dA i=β i)->v.bU dA=v.bU β
 | .val _,_=>rfl
 | .box i off,h=>by simp only[AV.bU,h i (by simp[AV.ids])]
 | .rz i off,h=>by simp only[AV.bU,h i (by simp[AV.ids])]
 | .row i o n c,h=>by simp only[AV.bU,h i (by simp[AV.ids])]
 | .fn g first cap,h=>by simp only[AV.bU,BX h]
 | .agg l,h=>by simp only[AV.bU,mf (l:=l) h]
 | .lN l,h=>by
   have:l.map (AV.pT dA)=l.map (AV.pT β):=yw λv hv=>AV.Pc λi hi=>h i (uF.2 ⟨v,hv,hi⟩);simp only[AV.bU,this]
def Fr:=Nat->Option AV
def Hp:=Nat->Option (TypeId×List AV)
def Fr.put (F:Fr) (d:Nat) (v:AV):Fr:=λn=>bif Nat.beq n d then some v else F n
def Fr.cw (F:Fr):Option Nat->AV->Fr
 | none,_=>F
 | some d,v=>F.put d v
def Hp.put (H:Hp) (d:Nat) (c:TypeId×List AV):Hp:=λn=>bif Nat.beq n d then some c else H n
def Hp.upd (H:Hp):Option (Nat×(TypeId×List AV))->Hp
 | none=>H
 | some x=>H.put x.1 x.2
def Hp.jh (H:Hp):List (Nat×(TypeId×List AV))->Hp
 | []=>H
 | x::r=>(H.put x.1 x.2).jh r
def AV.zT (i:Nat) (ρ:AV->Value) (x:AV):AV:=bif x.eu.any (Nat.beq i) then .val (ρ x) else x
def AV.fg1 (i:Nat) (ρ:AV->Value):AV->AV
 | .agg l=>.agg (l.map (AV.zT i ρ))
 | x=>x.zT i ρ
def AV.fg (i:Nat) (ρ:AV->Value):AV->AV
 | .agg l=>.agg (l.map (AV.zT i ρ))
 | .lN l=>.lN (l.map (AV.fg1 i ρ))
 | x=>x.zT i ρ
def Fr.forget (F:Fr):Option Nat->(AV->Value)->Fr
 | none,_=>F
 | some i,ρ=>λn=>match F n with
   | some v=>some (v.fg i ρ)
   | none=>none
def Hp.forget (H:Hp):Option Nat->(AV->Value)->Hp
 | none,_=>H
 | some i,ρ=>λn=>bif Nat.beq n i then none else match H n with
   | some (t,cs)=>some (t,cs.map (AV.zT i ρ))
   | none=>none
structure TI where
 size:Nat
 agg:Bool
 zero:Value
 places:Array (Nat×Nat)
 WH:Array Bool
 bool:Bool
 elem:Option (TypeId×Nat)
 kind:Option IntKind
 ptr:Bool:=false
structure TI.Ok (P:Program) (t:TypeId) (i:TI):Prop where
 row:∃ d,P.underlying t=some d/\d.isRow=i.agg
 size:(P.info? t).map (·.size)=some i.size
 isBool:i.bool=true->P.underlying t=some .bool
 isSlice:∀ e n,i.elem=some (e,n)->P.underlying t=some (.slice e)/\∀ w,(sizeOf e).run P w=.ok n w
 isInt:∀ k,i.kind=some k->P.underlying t=some (.int k)
 UE:i.ptr=true->P.underlying t=some (.pointer (P.pointee t)):=by exact λh=>by cases h
 lone:i.agg=false->i.size=1
 GN:i.zero.cells.size=i.size
 Kl:(P.info? t).map (·.zero)=some (some i.zero)
 bytes:(P.info? t).map (λq=>Nat.ble q.bytes (24*i.size))=some true
 pos:0<i.size
 zero:∀ w,(zeroValue t).run P w=.ok i.zero w
 Zv:∀ k p,i.places[k]? =some p->∀ b o w,(Instr.fieldAt t (.pointer (some ⟨b,o,none⟩)) k).run P w=.ok (.pointer (some ⟨b,o+p.1,none⟩)) w
 Pd:∀ k p,i.places[k]? =some p->∀ cs w v,(match i.WH[k]? with|some true=>some (Value.agg (cs.extract p.1 (p.1+p.2)))|some false=>cs[p.1]? |none=>none)=some v->(Instr.field t (.agg cs) k).run P w=.ok v w
 bld:i.agg=true->∀ ps w cs,Instr.fill (i.places[·]?) i.zero.cells ps.toList=some cs->(Instr.build t ps).run P w=.ok (.agg cs) w
structure KC where
 U:TypeId
 S:Nat->Prop
 T:TypeId->Bool
def KC.fz (K:KC) (t:TypeId):Bool:=Nat.beq t K.U || K.T t
abbrev KU (U:TypeId):KC:=⟨U,λ_=>True,λ_=>false⟩
def bD:Value->Bool
 | .agg _=>false
 | .tuple _=>false
 | .int .u32 _=>false
 | _=>true
def aY:AV->Bool
 | .val v=>bD v
 | .agg _=>false
 | .lN _=>false
 | _=>true
theorem zd {v:Value} (h:bD v=true):v.oneCell'=true:=by
 unfold bD at h
 split at h <;> first|cases h|skip
 unfold Value.oneCell'
 split <;> simp_all
theorem wG:∀ {x:AV},aY x=true->bD (x.leaf β)=true
 | .val _,h=>h
 | .box _ _,_=>rfl
 | .rz _ _,_=>rfl
 | .row _ _ _ _,_=>rfl
 | .fn _ _ _,_=>rfl
 | .agg _,h=>by cases h
 | .lN _,h=>by cases h
theorem eN {l:List AV} (h:l.all aY=true):(l.map (AV.leaf β)).all bD=true:=
 bR.2 λx hx=>by
  obtain⟨y,hy,rfl⟩:=fv.1 hx;exact wG (bR.1 h y hy)
structure bQ (K:KC) (w w':World):Prop where
 size:w.heap.size<=w'.heap.size
 cell:∀ a x,K.S a.block->w.cell? a=some (.int .u32 x)->w'.cell? a=some (.int .u32 x)
 block:∀ (t:TypeId) (g:Nat) (cur:Array Value),K.fz t=true->K.S g->w.heap[g]? =some (Obj.cells cur t (0,0))->w'.heap[g]? =some (Obj.cells cur t (0,0))
 map:∀ (g:Nat) es c,w.heap[g]? =some (Obj.map es c)->w'.heap[g]? =some (Obj.map es c)
abbrev Kp (U:TypeId) (w w':World):Prop:=bQ (KU U) w w'
theorem bQ.refl (K:KC) (w:World):bQ K w w:=⟨bL _,λ_ _ _ h=>h,λ_ _ _ _ _ h=>h,λ_ _ _ h=>h⟩
variable {K:KC}
theorem bQ.aR {a b c:World} (h:bQ K a b) (k:bQ K b c):bQ K a c:=
 ⟨bj h.size k.size,λ_ _ s h1=>k.cell _ _ s (h.cell _ _ s h1),λ_ _ _ f s h1=>k.block _ _ _ f s (h.block _ _ _ f s h1),λ_ _ _ h1=>k.map _ _ _ (h.map _ _ _ h1)⟩
theorem bQ.of (h:aU w w'):bQ K w w':=
 ⟨h.size,λ_ _ _ hc=>h.cell hc,λ_ g _ _ _ hg=>(vC h g (vh.1 hg).1).trans hg,λg _ _ hg=>(vC h g (vh.1 hg).1).trans hg⟩
theorem Kp.refl (U:TypeId) (w:World):Kp U w w:=bQ.refl _ _
variable {U:TypeId}
theorem Kp.aR {a b c:World} (h:Kp U a b) (k:Kp U b c):Kp U a c:=bQ.aR h k
theorem Kp.of (h:aU w w'):Kp U w w':=bQ.of h
theorem bQ.nD (h:bQ K w w'):bQ ⟨K.U,K.S,λ_=>false⟩ w w':=
 ⟨h.size,h.cell,λt g cur f s hg=>h.block t g cur (by
   unfold KC.fz at f ⊢;rw[JR] at f ⊢;exact f.imp id (λe=>by cases e)) s hg,h.map⟩
def pk (H:Hp) (β:Nat->Nat) (i:Nat):Obj:=match H i with
 | some (t,cs)=>.cells (cs.map (AV.leaf β)).toArray t
 | none=>.cells #[] 0
def mkW (H:Hp) (β:Nat->Nat):Nat->World->World
 | 0,w=>w
 | n+1,w=>(mkW H β n w).alloc (pk H β n)
theorem Pe (H:Hp) (β:Nat->Nat) (w:World):∀ n,(mkW H β n w).heap.size=w.heap.size+n
 | 0=>rfl
 | n+1=>by show ((mkW H β n w).alloc _).heap.size=_;simp[Pe H β w n];omega
theorem Fx (H:Hp) (β:Nat->Nat) (w:World):∀ n,aU w (mkW H β n w)
 | 0=>aU.refl w
 | n+1=>(Fx H β w n).alloc _
theorem Si (H:Hp) (β:Nat->Nat) (w:World) {i:Nat} {t:TypeId} {cs:List AV} (h:H i=some (t,cs)):∀ n,i<n->bO (mkW H β n w) (w.heap.size+i) t (cs.map (AV.leaf β)).toArray
 | 0,hi=>ab
 | n+1,hi=>by
   by_cases e:i=n
   ·subst e;show bO ((mkW H β i w).alloc (pk H β i)) _ _ _;have hb:pk H β i=.cells (cs.map (AV.leaf β)).toArray t:=by unfold pk;rw[h]
    rw[hb,<-Pe H β w i];exact bO.new _ _ _
   ·exact (Si H β w h n ab).alloc _
structure Stp (K:KC) (GO:Nat->Nat->Prop) (w w':World):Prop where
 os:w'.os=w.os
 tape:w'.tape=w.tape
 output:w'.output=w.output
 size:w.heap.size<=w'.heap.size
 pk:∀ g,g<w.heap.size->w'.heap[g]? =w.heap[g]?\/((∃ i,GO i g)/\∃ t cs,bO w' g t (List.toArray cs)/\K.fz t=false/\cs.all bD=true)\/¬ K.S g
theorem Stp.bI {GO:Nat->Nat->Prop} (h:aU w w'):Stp K GO w w':=⟨h.os,h.tape,h.output,h.size,λg hg=>.inl (vC h g hg)⟩
variable {w0:World}
theorem Sj (h:aU w0 w) (keep:∀ b,b<w0.heap.size->K.S b) (s:Stp K (λ_ g=>w0.heap.size<=g) w w'):aU w0 w':=
 Below.trans h ⟨s.os,s.tape,s.output,s.size,λg hg=>by
  rcases s.pk g (ox hg h.size) with e|⟨⟨_,hi⟩,_⟩|e
  ·exact e
  ·exact absurd hi (Nat.not_le.2 hg)
  ·exact absurd (keep g hg) e⟩
theorem Km {w1:World} {top:Nat} (h:aU w0 w1) (H:Hp) (hf:∀ i,top<=i->H i=none):
  ∃ β w2,bQ K w1 w2/\aU w0 w2/\(∀ i t cs,H i=some (t,cs)->w0.heap.size<=β i/\bO w2 (β i) t (cs.map (AV.leaf β)).toArray)/\∀ i j,H i≠none->H j≠none->β i=β j->i=j:=by
 let β:Nat->Nat:=λi=>w1.heap.size+i
 refine⟨β,mkW H β top w1,bQ.of (Fx H β w1 _),h.aR (Fx H β w1 _),λi t cs hi=>⟨?_,Si H β w1 hi _ ?_⟩,λi j _ _ e=> ?_⟩
 ·have:=h.size;show w0.heap.size<=w1.heap.size+i;omega
 ·apply YL;intro e;rw[hf i ab] at hi;cases hi
 ·change w1.heap.size+i=w1.heap.size+j at e;omega
structure Cx where
 P:Program
 w0:World
 N:Nat
 K:KC
 SU:TypeId->Bool
 ti:TypeId->Option TI
 keep:∀ b,b<w0.heap.size->K.S b
 GO:Nat->Nat->Prop:=λ_ g=>w0.heap.size<=g
 Old:World->Prop:=λw=>aU w0 w
 top:Nat:=2*N
 topN:2*N<=top:=by exact bL _
 yT:∀ i g,i<2*N->w0.heap.size<=g->GO i g:=by exact λ_ _ _ h=>h
 Kn:∀ i j g,GO i g->j<2*N->GO j g:=by exact λ_ _ _ h _=>h
 iq:∀ w,Old w->w0.heap.size<=w.heap.size:=by exact λ_ h=>aU.size h
 uH:Old w0:=by exact aU.refl _
 AG:∀ w w',Old w->(∀ b,b<w0.heap.size->K.S b)->bQ K w w'->Stp K GO w w'->Old w':=by exact λ_ _ h k _ s=>Sj h k s
 LJ:∀ w a u,Old w->(∀ i,¬ GO i a.block)->w0.cell? a=some u->w.cell? a=some u:=by exact λ_ _ _ h _ hc=>aU.cell h hc
 lay:∀ w1 (H:Hp),Old w1->(∀ i t cs,H i=some (t,cs)->K.fz t=false/\cs.all aY=true)->(∀ i,top<=i->H i=none)->
  ∃ β w2,bQ K w1 w2/\Old w2/\(∀ i t cs,H i=some (t,cs)->GO i (β i)/\bO w2 (β i) t (cs.map (AV.leaf β)).toArray)/\∀ i j,H i≠none->H j≠none->β i=β j->i=j:=by exact λ_ H h _ hf=>Km h H hf
theorem Cx.aR (C:Cx) (h:C.Old w) (k:aU w w'):C.Old w':=C.AG _ _ h C.keep (bQ.of k) (Stp.bI k)
def Cx.At (C:Cx) (a:Addr) (u:Value):Prop:=∀ w,C.Old w->w.cell? a=some u
def Cx.Ok (C:Cx):Prop:=∀ t i,C.ti t=some i->TI.Ok C.P t i
def ev (F:Fr):Operand->Option AV
 | .tmp t=>F t
 | .const v=>some (.val v)
 | .func f=>some (.val (.func (.func f) #[] #[]))
 | .global _=>none
def pw (F:Fr) (x:Operand):Option Value:=match ev F x with|some (.val v)=>some v|_=>none
def evs (F:Fr):List Operand->Option (List Value)
 | []=>some []
 | x::r=>match pw F x,evs F r with|some v,some l=>some (v::l)|_,_=>none
def Dm (F:Fr):List Operand->Option (List AV)
 | []=>some []
 | x::r=>match ev F x,Dm F r with|some v,some l=>some (v::l)|_,_=>none
def Fy:List AV->Option (List (Nat×Nat))
 | []=>some []
 | .box i off::r=>(match Fy r with|some l=>some ((i,off)::l)|none=>none)
 | _::_=>none
def UF (F:Fr) (x:Operand):Option (FuncId×List AV×List AV):=match ev F x with
 | some (.val (.func (.func g) first cap))=>some (g,first.toList.map .val,cap.toList.map .val)
 | some (.fn g first cap)=>some (g,first.map .val,cap.map λp=>.box p.1 p.2)
 | _=>none
def LK (F:Fr):List (Nat×Operand)->Option (List (Nat×AV))
 | []=>some []
 | (k,x)::r=>match ev F x,LK F r with|some v,some l=>some ((k,v)::l)|_,_=>none
def evo (F:Fr):Option Operand->Option (Option Int)
 | none=>some none
 | some x=>match pw F x with|some (.int _ k)=>some (some k)|_=>none
def binI (op:BinOp) (k:IntKind) (a b:Int):Option Value:=
 match op with
 | .eql=>some (.bool (a == b))
 | .neq=>some (.bool (a != b))
 | .lss=>some (.bool (decide (a<b)))
 | .leq=>some (.bool (decide (a<=b)))
 | .gtr=>some (.bool (decide (a>b)))
 | .geq=>some (.bool (decide (a>=b)))
 | .add=>some (.int k (k.wrap (a+b)))
 | .sub=>some (.int k (k.wrap (a-b)))
 | .mul=>some (.int k (k.wrap (a*b)))
 | .quo=>bif decide (b=0) then none else some (.int k (k.wrap (a.tdiv b)))
 | .rem=>bif decide (b=0) then none else some (.int k (a.tmod b))
 | .and=>some (.int k (bits .and k a b))
 | .or=>some (.int k (bits .or k a b))
 | .xor=>some (.int k (bits .xor k a b))
 | .andNot=>some (.int k (bits .andNot k a b))
 | _=>none
def shI (op:BinOp) (k:IntKind) (a b:Int):Option Value:=
 match op with
 | .shl=>some (.int k (k.wrap (a*2^min b.toNat k.bits)))
 | .shr=>some (.int k (a.fdiv (2^min b.toNat k.bits)))
 | _=>none
def isSh:BinOp->Bool
 | .shl=>true
 | .shr=>true
 | _=>false
def binS (op:BinOp) (a b:ByteArray):Option Value:=
 match op with
 | .eql=>some (.bool (a.toList == b.toList))
 | .neq=>some (.bool !(a.toList == b.toList))
 | _=>none
def binB (op:BinOp) (a b:Bool):Option Value:=
 match op with
 | .eql=>some (.bool (a == b))
 | .neq=>some (.bool (!(a == b)))
 | _=>none
def AH (op:BinOp) (a:Bool):Option Value:=
 match op with
 | .eql=>some (.bool a)
 | .neq=>some (.bool (!a))
 | _=>none
def sameKind:IntKind->IntKind->Bool:=λk l=>decide (k=l)
def binA (op:BinOp):Value->Value->Option Value
 | .int k a,.int l b=>bif isSh op then (bif decide (b<0) then none else shI op k a b) else bif sameKind k l then binI op k a b else none
 | .string a,.string b=>binS op a b
 | _,_=>none
inductive kH where
 | fn (g:FuncId) (args:List AV)
 | op (o:Oper) (vs:List AV)
def kH.ids:kH->List Nat
 | .fn _ l=>jN l
 | .op _ l=>jN l
inductive Step where
 | iA (v:AV) (u:Option (Nat×(TypeId×List AV)))
 | read (i:TI) (a:Addr)
 | dY (i:TI) (cs:List AV) (off:Nat)
 | cond (φ:Prop) (v:AV) (u:Option (Nat×(TypeId×List AV)))
 | call (d:kH)
 | bad
def Jl:Option AV->Step
 | some v=>.iA v none
 | none=>.bad
def AJ:Option Value->Step
 | some v=>.iA (.val v) none
 | none=>.bad
def sP (i:TI) (cs:List Value):Value:=bif i.agg then .agg cs.toArray else cs.headD undef
def jW:List AV->Option (List Value)
 | []=>some []
 | .val v::r=>(match jW r with|some l=>some (v::l)|none=>none)
 | _::_=>none
def UG {α:Type}:List AV->(List Value->α)->α->α
 | [],k,_=>k []
 | .val v::r,k,e=>UG r (λl=>k (v::l)) e
 | _::_,_,e=>e
theorem Pf {α:Type}:∀ (l:List AV) (k:List Value->α) (e:α),UG l k e=match jW l with|some vs=>k vs|none=>e
 | [],_,_=>rfl
 | .val v::r,k,e=>by
   show UG r (λl=>k (v::l)) e=match (match jW r with|some l=>some (v::l)|none=>none) with|some vs=>k vs|none=>e
   rw[Pf r];cases jW r <;> rfl
 | .box _ _::_,_,_=>rfl
 | .rz _ _::_,_,_=>rfl
 | .row _ _ _ _::_,_,_=>rfl
 | .fn _ _ _::_,_,_=>rfl
 | .agg _::_,_,_=>rfl
 | .lN _::_,_,_=>rfl
def Dn (l:List AV):AV:=match jW l with|some vs=>.val (.agg vs.toArray)|none=>.agg l
def WI {α:Type} (l:List AV) (k:AV->α):α:=UG l (λvs=>k (.val (.agg vs.toArray))) (k (.agg l))
theorem sa {α:Type} (l:List AV) (k:AV->α):WI l k=k (Dn l):=by
 unfold WI Dn;rw[Pf];cases jW l <;> rfl
def tu (i:TI) (cs:List AV):AV:=bif i.agg then Dn cs else cs.headD (.val undef)
def mR {α:Type} {γ:Type}:List γ->(List γ->α)->α
 | [],k=>k []
 | x::r,k=>mR r λl=>k (x::l)
theorem eD {α γ:Type}:∀ (l:List γ) (k:List γ->α),mR l k=k l
 | [],_=>rfl
 | x::r,k=>eD r λl=>k (x::l)
def WJ {γ:Type}:List γ->Nat->Option γ
 | [],_=>none
 | x::_,0=>some x
 | _::r,k+1=>WJ r k
theorem Fz {γ:Type}:∀ (l:List γ) (k:Nat),WJ l k=l[k]?
 | [],_=>rfl
 | _::_,0=>rfl
 | _::r,k+1=>by rw[WJ,Fz r k];rfl
def jX:AV->Bool
 | .lN _=>false
 | _=>true
def qN:AV->Bool
 | .agg _=>false
 | .lN _=>false
 | _=>true
def cellsOf:AV->List AV
 | .val v=>v.cells.toList.map .val
 | .agg l=>l
 | x=>[x]
def GP (i:TI) (cs:List AV) (off:Nat):Step:=
 bif Nat.ble (off+i.size) cs.length then mR ((cs.drop off).take i.size) (λl=>bif i.agg then WI l (λv=>.iA v none) else (match l with|x::_=>.iA x none|[]=>.bad)) else .bad
def qO (i:TI) (b:Nat) (t:TypeId) (cs:List AV) (off:Nat) (v:AV):Step:=
 bif Nat.ble (off+i.size) cs.length && Nat.beq (cellsOf v).length i.size && (cellsOf v).all aY
 then mR (cs.take off++(cellsOf v++cs.drop (off+i.size))) (λl=>.iA (.val undef) (some (b,(t,l)))) else .bad
def Ko (i:TI) (b:Nat) (t:TypeId) (cs:List AV) (off:Nat) (v:AV):Step:=
 bif Nat.beq (cellsOf v).length i.size && (cellsOf v).all aY
 then .cond (off+i.size<=cs.length) (.val undef) (some (b,(t,cs.take off++(cellsOf v++cs.drop (off+i.size))))) else .bad
def wH (K:KC) (d:Nat) (t:TypeId) (cs:List AV):Option (TypeId×List AV)->Step
 | none=>bif !K.fz t && cs.all aY then mR cs (λl=>.iA (.box d 0) (some (d,(t,l)))) else .bad
 | some _=>.bad
def Pg (sz:Nat):Nat->List (Nat×AV)->Option (List AV)
 | _,[]=>some []
 | k,(j,v)::r=>bif Nat.beq j k && Nat.beq (cellsOf v).length sz && jX v then (match Pg sz (k+1) r with|some l=>some (cellsOf v++l)|none=>none) else none
def Dp (K:KC) (d:Nat) (e:TypeId) (n:Nat) (cs:List AV):Option (TypeId×List AV)->Step
 | none=>bif !K.fz e && cs.all aY then mR cs (λl=>.iA (.row d 0 n n) (some (d,(e,l)))) else .bad
 | some _=>.bad
def Kq (places:Array (Nat×Nat)) (cells:List AV):List (Nat×AV)->Option (List AV)
 | []=>some cells
 | (i,v)::rest=>match places[i]? with
   | none=>none
   | some p=>bif Nat.beq (cellsOf v).length p.2 && Nat.ble (p.1+p.2) cells.length && jX v then Kq places (cells.take p.1++(cellsOf v++cells.drop (p.1+p.2))) rest else none
def pD:Nat->List AV->List AV
 | 0,_=>[]
 | n+1,z=>z++pD n z
def wQ (F:Fr) (o:Oper):Step:=match Dm F o.op.operands.toList with|some vs=>.call (.op o vs)|none=>.bad
def GQ:List Value->Option (IntKind×List Int)
 | []=>none
 | [.int k a]=>some (k,[a])
 | .int k a::r=>(match GQ r with|some (l,xs)=>bif sameKind k l then some (k,a::xs) else none|none=>none)
 | _=>none
def wR:Int->List Int->Int
 | x,[]=>x
 | x,y::r=>wR (if y>x then y else x) r
def Zw:Int->List Int->Int
 | x,[]=>x
 | x,y::r=>Zw (if y<x then y else x) r
def sQ (i:TI) (cs:List AV) (k:Nat):Step:=match i.places[k]?,i.WH[k]? with
 | some p,some true=>mR ((cs.drop p.1).take p.2) (λl=>WI l (λv=>.iA v none))
 | some p,some false=>(match WJ cs p.1 with|some x=>bif qN x then .iA x none else .bad|none=>.bad)
 | _,_=>.bad
def act (C:Cx) (F:Fr) (H:Hp) (o:Oper):Step:=
 match o.op with
 | .move x=>Jl (ev F x)
 | .assign x=>Jl (ev F x)
 | .pick c x y=>match pw F c with|some (.bool t)=>Jl (bif t then ev F x else ev F y)|_=>.bad
 | .unOp .not _ x=>match pw F x with|some (.bool t)=>.iA (.val (.bool !t)) none|_=>.bad
 | .unOp .neg _ x=>match pw F x with|some (.int k n)=>.iA (.val (.int k (k.wrap (0-n)))) none|_=>.bad
 | .binOp op t x y _=>match pw F x,pw F y with
   | some (.bool a),some (.bool b)=>(match C.ti t with|some i=>AJ (bif i.bool then binB op a b else none)|none=>.bad)
   | some (.pointer p),some (.pointer none)=>(match C.ti t with|some i=>AJ (bif i.ptr then AH op p.isNone else none)|none=>.bad)
   | some (.slice p _ _),some (.slice none n c)=>(match C.ti t with|some i=>AJ (bif i.elem.isSome && (Nat.beq n 0 && Nat.beq c 0) then AH op p.isNone else none)|none=>.bad)
   | some a,some b=>AJ (binA op a b)
   | none,some (.pointer none)=>(match ev F x,C.ti t with
     | some (.box _ _),some i=>AJ (bif i.ptr then AH op false else none)
     | some (.rz _ _),some i=>AJ (bif i.ptr then AH op false else none)
     | _,_=>.bad)
   | none,some (.slice none n c)=>(match ev F x,C.ti t with
     | some (.row _ _ _ _),some i=>AJ (bif i.elem.isSome && (Nat.beq n 0 && Nat.beq c 0) then AH op false else none)
     | _,_=>.bad)
   | _,_=>.bad
 | .convert s t x=>match C.ti s,C.ti t,pw F x with
   | some _,some i,some (.int _ n)=>(match i.kind with|some k=>.iA (.val (.int k (k.wrap n))) none|none=>.bad)
   | _,_,_=>.bad
 | .extract x k=>match ev F x with
   | some (.val (.tuple vs))=>AJ (WJ vs.toList k)
   | some (.lN l)=>(match WJ l k with|some x=>bif jX x then .iA x none else .bad|none=>.bad)
   | _=>.bad
 | .field t x k=>match ev F x,C.ti t with
   | some (.val (.agg cs)),some i=>sQ i (cs.toList.map .val) k
   | some (.agg l),some i=>sQ i l k
   | _,_=>.bad
 | .fieldAddr t x k=>match ev F x,C.ti t with
   | some (.box b off),some i=>match i.places[k]? with|some p=>.iA (.box b (off+p.1)) none|none=>.bad
   | some (.rz b off),some i=>match i.places[k]? with|some p=>.iA (.rz b (off+p.1)) none|none=>.bad
   | some (.val (.pointer (some ⟨b,off,none⟩))),some i=>match i.places[k]? with|some p=>.iA (.val (.pointer (some ⟨b,off+p.1,none⟩))) none|none=>.bad
   | _,_=>.bad
 | .nilCheck x=>match ev F x with
   | some (.box b off)=>.iA (.box b off) none
   | some (.rz b off)=>.iA (.rz b off) none
   | some (.val (.pointer (some a)))=>.iA (.val (.pointer (some a))) none
   | _=>.bad
 | .build t ps=>match C.ti t,LK F ps.toList with
   | some i,some l=>match (bif i.agg then Kq i.places (i.zero.cells.toList.map .val) l else none) with|some cs=>mR cs (λl=>WI l (λv=>.iA v none))|none=>.bad
   | _,_=>.bad
 | .alloc t=>match o.dst,C.ti t with
   | some d,some i=>wH C.K d t (i.zero.cells.toList.map .val) (H d)
   | _,_=>.bad
 | .box t x=>match o.dst,ev F x with
   | some d,some v=>wH C.K d t (cellsOf v) (H d)
   | _,_=>.bad
 | .load t x=>match ev F x,C.ti t with
   | some (.box b off),some i=>match H b with|some (_,cs)=>GP i cs off|none=>.bad
   | some (.rz b off),some i=>match H b with|some (_,cs)=>.dY i cs off|none=>.bad
   | some (.val (.pointer (some a))),some i=>.read i a
   | _,_=>.bad
 | .store t x y=>match ev F x,ev F y,C.ti t with
   | some (.box b off),some v,some i=>match H b with|some (tb,cs)=>qO i b tb cs off v|none=>.bad
   | some (.rz b off),some v,some i=>match H b with|some (tb,cs)=>Ko i b tb cs off v|none=>.bad
   | _,_,_=>.bad
 | .makeFunc (.func g) first cap=>match evs F first.toList,Dm F cap.toList with
   | some l,some []=>.iA (.val (.func (.func g) l.toArray #[])) none
   | some l,some m=>(match Fy m with|some bs=>.iA (.fn g l bs) none|none=>.bad)
   | _,_=>.bad
 | .buildSlice t n ps=>bif C.SU t then wQ F o else match o.dst,C.ti t,LK F ps.toList with
   | some d,some i,some l=>(match i.elem with
     | some (e,sz)=>(match C.ti e,Pg sz 0 l with
       | some _,some cs=>bif Nat.beq ps.size n && Nat.ble (n*sz) 16777216 then Dp C.K d e n cs (H d) else .bad
       | _,_=>.bad)
     | none=>.bad)
   | _,_,_=>.bad
 | .indexAddr t x ix=>match ev F x,pw F ix,C.ti t with
   | some (.val (.slice (some ⟨b,off,none⟩) n _)),some (.int _ k),some i=>(match i.elem with
     | some (_,sz)=>.cond ((0:Int)<=k/\k<(n:Int)) (.val (.pointer (some ⟨b,off+k.toNat*sz,none⟩))) none
     | none=>.bad)
   | some (.row b off n _),some (.int _ k),some i=>(match i.elem with
     | some (_,sz)=>.cond ((0:Int)<=k/\k<(n:Int)) (.rz b (off+k.toNat*sz)) none
     | none=>.bad)
   | _,_,_=>.bad
 | .makeSlice t l c=>match o.dst,C.ti t,pw F l,pw F c with
   | some d,some i,some (.int _ n),some (.int _ m)=>(match i.elem with
     | some (e,sz)=>(match C.ti e,H d with
       | some ie,none=>bif !C.K.fz e && ie.zero.cells.toList.all bD then
        .cond (n=m/\0<=n/\n*(24*(ie.size:Int))<=140737488355328) (.row d 0 n.toNat n.toNat) (some (d,(e,pD n.toNat (ie.zero.cells.toList.map .val)))) else .bad
       | _,_=>.bad)
     | none=>.bad)
   | _,_,_,_=>.bad
 | .slice t x lo hi none=>match ev F x,C.ti t,evo F lo,evo F hi with
   | some (.row b off n c),some i,some l,some h=>(match i.elem with
     | some (_,sz)=>.cond (0<=l.getD 0/\l.getD 0<=h.getD (n:Int)/\h.getD (n:Int)<=(c:Int)/\(c:Int)<=9223372036854775807) (.row b (if c=(l.getD 0).toNat then off else off+(l.getD 0).toNat*sz) ((h.getD (n:Int)).toNat-(l.getD 0).toNat) (c-(l.getD 0).toNat)) none
     | none=>.bad)
   | some (.val (.slice p n c)),some i,some l,some h=>(match i.elem with
     | some (_,sz)=>.cond (0<=l.getD 0/\l.getD 0<=h.getD (n:Int)/\h.getD (n:Int)<=(c:Int)/\(c:Int)<=9223372036854775807) (.val (.slice (if c=(l.getD 0).toNat then p else p.map (·.add ((l.getD 0).toNat*sz))) ((h.getD (n:Int)).toNat-(l.getD 0).toNat) (c-(l.getD 0).toNat))) none
     | none=>.bad)
   | _,_,_,_=>.bad
 | .call c=>match c.callee with
   | .builtin .len=>match c.args.toList,c.argTypes.toList with
     | [x],[t]=>(match ev F x,C.ti t with
       | some (.val (.slice _ n _)),some i=>(match i.elem with|some _=>.iA (.val (.int .i64 (n:Int))) none|none=>.bad)
       | some (.row _ _ n _),some i=>(match i.elem with|some _=>.iA (.val (.int .i64 (n:Int))) none|none=>.bad)
       | _,_=>.bad)
     | _,_=>.bad
   | .builtin .max=>match (evs F c.args.toList).bind GQ with
     | some (k,x::r)=>.iA (.val (.int k (wR x r))) none
     | _=>.bad
   | .builtin .min=>match (evs F c.args.toList).bind GQ with
     | some (k,x::r)=>.iA (.val (.int k (Zw x r))) none
     | _=>.bad
   | .value f=>match UF F f,Dm F c.args.toList with
     | some (g,first,cap),some l=>mR (first++(l++cap)) (λl=>.call (.fn g l))
     | _,_=>.bad
   | _=>wQ F o
 | _=>wQ F o
def wants (full:Array Oper) (F:Fr) (o:Oper):Option Bool:=
 match o.guard with
 | none=>some true
 | some (g,b)=>match (full[g]?).bind (·.dst) with
   | none=>none
   | some d=>match F d with
     | some (.val (.bool c))=>some (c == b)
     | some (.val (.tuple _))=>some false
     | _=>none
def oJ (N:Nat):Option Nat->Bool
 | none=>true
 | some d=>Nat.blt d N
def stepOf (C:Cx) (full:Array Oper) (F:Fr) (H:Hp) (o:Oper):Step:=
 bif oJ C.N o.dst then (match wants full F o with
  | none=>.bad
  | some false=>.iA (.val undef) none
  | some true=>act C F H o) else .bad
def UH (l:List FuncId) (c:Call):Bool:=match c.callee with | .value (.func g)=>l.any (Nat.beq g)|_=>false
def LN (l:List FuncId) (c:Call):Bool:=match c.callee with | .value (.func g)=>l.any (Nat.beq (g+1000000))|_=>false
def aC (su:TypeId->Bool) (l:List FuncId) (o:Oper):Nat:=match o.op with
 | .move _=>0
 | .assign _=>0
 | .pick _ _ _=>0
 | .unOp .not _ _=>0
 | .unOp .neg _ _=>0
 | .binOp _ _ _ _ _=>0
 | .convert _ _ _=>0
 | .extract _ _=>0
 | .field _ _ _=>0
 | .fieldAddr _ _ _=>0
 | .nilCheck _=>0
 | .build _ _=>0
 | .makeFunc (.func _) _ _=>0
 | .indexAddr _ _ _=>0
 | .slice _ _ _ _ none=>0
 | .load _ _=>1
 | .alloc _=>2
 | .box _ _=>2
 | .makeSlice _ _ _=>2
 | .buildSlice t _ _=>bif su t then 4 else 2
 | .store _ _ _=>3
 | .call c=>(match c.callee with
   | .builtin .len=>0
   | .builtin .max=>0
   | .builtin .min=>0
   | .builtin .copy=>3
   | .value _=>bif LN l c then 5 else bif UH l c then 3 else 4
   | _=>5)
 | .lookup _ _ _ _=>4
 | _=>5
def GR:Nat->Nat
 | 3=>1
 | 5=>2
 | _=>0
def lvl (su:TypeId->Bool) (m:Option (List FuncId)) (o:Oper):Nat:=match m with
 | none=>2
 | some l=>GR (aC su l o)
def rA (P:Program) (g:FuncId):Prop:=∃ fn,P.funcs[g]? =some fn/\(fn.name == "runtime.NumGoroutine")=false/\fn.body.isNone=false
structure oK (C:Cx) (β:Nat->Nat) (w:World) (i:Nat) (t:TypeId) (cs:List AV):Prop where
 new:C.GO i (β i)
 ty:C.K.fz t=false
 cls:bO w (β i) t (cs.map (AV.leaf β)).toArray
 ok:cs.all aY=true
inductive Reach (H:Hp) (ids:List Nat):Nat->Prop
 | base {i:Nat}:i∈ids->Reach H ids i
 | step {i j:Nat} {t:TypeId} {cs:List AV}:Reach H ids i->H i=some (t,cs)->j∈aI cs->Reach H ids j
structure tv (C:Cx) (β:Nat->Nat) (H:Hp) (ids:List Nat) (w:World):Prop where
 own:∀ i,Reach H ids i->∀ t cs,H i=some (t,cs)->oK C β w i t cs
 apart:∀ i j,Reach H ids i->Reach H ids j->H i≠none->H j≠none->β i=β j->i=j
structure GS (C:Cx) (β dA:Nat->Nat) (H:Hp) (ids:List Nat) (del:Option Nat) (ups:List (Nat×(TypeId×List AV))) (w w':World):Prop where
 os:w'.os=w.os
 tape:w'.tape=w.tape
 output:w'.output=w.output
 size:w.heap.size<=w'.heap.size
 block:∀ b,b<w.heap.size->(∀ x∈ups,b≠dA x.1)->(∀ i,del=some i->b≠β i)->(C.K.S b\/∀ t cur,C.K.fz t=true->w.heap[b]?≠some (Obj.cells cur t (0,0)))->w'.heap[b]? =w.heap[b]?
 tw:∀ i,i∉ups.map (·.1)->dA i=β i
 gone:∀ i,del=some i->Reach H ids i/\H i≠none
 left:∀ i,del=some i->(w'.heap[β i]? =w.heap[β i]?\/∃ t cs,bO w' (β i) t (List.toArray cs)/\C.K.fz t=false/\cs.all bD=true)\/∃ x∈ups,dA x.1=β i
 own:∀ x∈ups,oK C dA w' x.1 x.2.1 x.2.2
 WK:∀ x∈ups,(H x.1≠none/\del≠some x.1/\Reach H ids x.1/\dA x.1=β x.1)\/((H x.1=none\/del=some x.1)/\x.1<2*C.N/\(w.heap.size<=dA x.1\/∃ i,del=some i/\dA x.1=β i))
 once:(ups.map (·.1)).Nodup
 apart:∀ x∈ups,∀ y∈ups,dA x.1=dA y.1->x.1=y.1
 closed:∀ x∈ups,∀ j∈aI x.2.2,j∈ups.map (·.1)\/(H j≠none/\del≠some j)
def BZ (P:Program) (d:kH) (β:Nat->Nat) (w:World) (R:Ending->World->Prop):Prop:=match d with
 | .fn g args=>rA P g/\Calls P g (args.map (AV.bU β)).toArray w R
 | .op o vs=>∃ v w2,(∀ ρ:Operand->Value,o.op.operands.toList.map ρ=vs.map (AV.bU β)->(execOp ρ o).run P w=.ok (.value v) w2\/((execOp ρ o).run P w=.ok .skip w2/\v=undef))/\R (.returned v) w2
def dU (C:Cx) (lv:Nat) (F:Fr) (H:Hp) (d:kH) (w:World) (k:AV->Fr->Hp->World->Prop):Prop:=
 ∀ w1 β,bQ C.K w w1->C.Old w1->tv C β H d.ids w1->BZ C.P d β w1 λe w2=>∃ dA r del ups,e=.returned (r.bU dA)/\(∀ i∈r.ids,i∈ups.map (·.1)\/(Reach H d.ids i/\H i≠none/\del≠some i))/\(1<=lv\/ups=[])/\(2<=lv\/del=none)/\
   GS C β dA H d.ids del ups w1 w2/\(bQ C.K w w2->bQ C.K w1 w2->C.Old w2->∀ ρ,(∀ x,bD (ρ x)=true)->k r (F.forget del ρ) ((H.forget del ρ).jh ups) w2)
def ReadVC (C:Cx) (seq:Bool) (i:TI) (a:Addr) (w:World) (k:Value->Prop):Prop:=
 ∃ cs:List Value,cs.length=i.size/\((∀ j u,cs[j]? =some u->C.At (a.add j) u)\/(seq=true/\∀ w1,bQ C.K w w1->C.Old w1->∀ j u,cs[j]? =some u->w1.cell? (a.add j)=some u))/\k (sP i cs)
def seqOf:Option (List FuncId)->Bool
 | none=>true
 | some _=>false
def one (C:Cx) (m:Option (List FuncId)) (full:Array Oper) (o:Oper) (k:Fr->Hp->World->Prop) (F:Fr) (H:Hp) (w:World):Prop:=
 match stepOf C full F H o with
 | .iA v u=>k (F.cw o.dst v) (H.upd u) w
 | .read i a=>ReadVC C (seqOf m) i a w λv=>k (F.cw o.dst (.val v)) H w
 | .dY i cs off=>∃ vs:List AV,vs.length=i.size/\(∀ j u,vs[j]? =some u->cs[off+j]? =some u)/\k (F.cw o.dst (tu i vs)) H w
 | .cond φ v u=>φ/\k (F.cw o.dst v) (H.upd u) w
 | .call d=>dU C (lvl C.SU m o) F H d w λr F' H' w2=>k (F'.cw o.dst r) H' w2
 | .bad=>False
def aG (C:Cx) (m:Option (List FuncId)) (full:Array Oper):List Oper->(Fr->Hp->World->Prop)->Fr->Hp->World->Prop
 | [],K,F,H,w=>K F H w
 | o::r,K,F,H,w=>one C m full o (aG C m full r K) F H w
def lU (F:Fr) (H:Hp):Prop:=∀ d v,F d=some v->∀ i∈v.ids,H i≠none
structure LO (C:Cx) (H:Hp):Prop where
 ok:∀ i t cs,H i=some (t,cs)->C.K.fz t=false/\cs.all aY=true
 closed:∀ i t cs,H i=some (t,cs)->∀ j∈aI cs,H j≠none
 ld:∀ i,C.top<=i->H i=none
structure Rel (C:Cx) (β:Nat->Nat) (F:Fr) (H:Hp) (a:Act) (w:World):Prop where
 defers:a.defers=[]
 size:a.tmps.size=C.N
 tmp:∀ d v,F d=some v->a.tmps.getD d undef=v.bU β
 own:∀ i t cs,H i=some (t,cs)->oK C β w i t cs
 apart:∀ i j,H i≠none->H j≠none->β i=β j->i=j
 closed:lU F H
 fits:∀ d v,F d=some v->d<C.N
 hp:LO C H
 old:C.Old w
theorem Fr.eE (F:Fr) (d n:Nat) (v:AV):(F.put d v) n=if n=d then some v else F n:=by
 unfold Fr.put;by_cases h:n=d
 ·subst h;simp
 ·have:Nat.beq n d=false:=by rw[<-Bool.not_eq_true,Nat.beq_eq];exact h
  simp[this,h]
theorem Hp.eE (H:Hp) (d n:Nat) (c:TypeId×List AV):(H.put d c) n=if n=d then some c else H n:=by
 unfold Hp.put;by_cases h:n=d
 ·subst h;simp
 ·have:Nat.beq n d=false:=by rw[<-Bool.not_eq_true,Nat.beq_eq];exact h
  simp[this,h]
theorem oL:∀ {l:List AV} {vs:List Value},jW l=some vs->l=vs.map .val
 | [],vs,h=>by cases h;rfl
 | .val v::r,vs,h=>by
   unfold jW at h
   split at h
   ·rename_i l hl;cases h;rw[oL hl];rfl
   ·cases h
 | .box _ _::_,_,h=>by cases h
 | .rz _ _::_,_,h=>by cases h
 | .row _ _ _ _::_,_,h=>by cases h
 | .fn _ _ _::_,_,h=>by cases h
 | .agg _::_,_,h=>by cases h
 | .lN _::_,_,h=>by cases h
theorem ak (β:Nat->Nat) (vs:List Value):(vs.map AV.val).map (AV.leaf β)=vs:=by rw[yC];exact List.map_id vs
theorem mi (β:Nat->Nat) (vs:List Value):(vs.map AV.val).map (AV.bU β)=vs:=by rw[yC];exact List.map_id vs
theorem aw (vs:List Value):aI (vs.map AV.val)=[]:=by
 induction vs with
 | nil=>rfl
 | cons v r ih=>rw[rQ,aI,ih];rfl
theorem ze (β:Nat->Nat) (l:List AV):(Dn l).bU β=.agg (l.map (AV.leaf β)).toArray:=by
 unfold Dn;cases h:jW l with
 | none=>rfl
 | some vs=>
   have:=oL h;subst this;rw[ak];rfl
theorem Ca {l:List AV} (h:i∈(Dn l).ids):i∈aI l:=by
 unfold Dn at h;cases hv:jW l with
 | none=>rw[hv] at h;exact h
 | some vs=>rw[hv] at h;cases h
theorem mU (β:Nat->Nat):∀ (v:AV),(∀ l,v≠.lN l)->(cellsOf v).map (AV.leaf β)=(v.bU β).cells.toList
 | .val v,_=>by unfold cellsOf;rw[ak];rfl
 | .box _ _,_=>rfl
 | .rz _ _,_=>rfl
 | .row _ _ _ _,_=>rfl
 | .fn _ _ _,_=>rfl
 | .agg l,_=>by simp[cellsOf,AV.bU,Value.cells]
 | .lN l,h=>absurd rfl (h l)
theorem tz {v:AV} (h:jX v=true):∀ l,v≠.lN l:=λl e=>by subst e;cases h
theorem UI {v:AV} (h:(cellsOf v).all aY=true):∀ l,v≠.lN l:=λl e=>by subst e;simp[cellsOf,aY] at h
theorem oM {v:AV} (h:∀ l,v≠.lN l) (hi:i∈aI (cellsOf v)):i∈v.ids:=by
 cases v with
 | val v=>rw[cellsOf,aw] at hi;cases hi
 | lN l=>exact absurd aa (h l)
 | agg l=>exact hi
 | box i off=>simpa [cellsOf,aI,AV.eu,AV.ids] using hi
 | rz i off=>simpa [cellsOf,aI,AV.eu,AV.ids] using hi
 | row i o n c=>simpa [cellsOf,aI,AV.eu,AV.ids] using hi
 | fn g f c=>simpa [cellsOf,aI,AV.eu,AV.ids] using hi
theorem ey (l r:List AV):aI (l++r)=aI l++aI r:=by
 induction l with
 | nil=>rfl
 | cons v l ih=>rw[pL,aI,aI,ih,fu]
theorem WL:∀ {v:AV},aY v=true->v.leaf β=v.bU β
 | .val _,_=>rfl
 | .box _ _,_=>rfl
 | .rz _ _,_=>rfl
 | .row _ _ _ _,_=>rfl
 | .fn _ _ _,_=>rfl
 | .agg _,h=>by cases h
 | .lN _,h=>by cases h
theorem wS:∀ {v:AV},qN v=true->v.leaf β=v.bU β
 | .val _,_=>rfl
 | .box _ _,_=>rfl
 | .rz _ _,_=>rfl
 | .row _ _ _ _,_=>rfl
 | .fn _ _ _,_=>rfl
 | .agg _,h=>by cases h
 | .lN _,h=>by cases h
theorem zf {v:AV} (h:qN v=true):v.eu=v.ids:=by cases v <;> first|rfl|cases h
theorem wT {v:AV} (h:jX v=true):v.pT β=v.bU β:=by cases v <;> first|rfl|cases h
theorem zg {v:AV} (h:jX v=true):v.BW=v.ids:=by cases v <;> first|rfl|cases h
theorem Zx {v:AV} (h:aY v=true):v.eu=v.ids:=by
 cases v <;> first|rfl|cases h
section
variable {C:Cx} {β:Nat->Nat} {F:Fr} {H:Hp} {a:Act} {w:World}
variable {x:Operand}
theorem Rel.ev (hr:Rel C β F H a w) {v:AV} (h:Proofs.YtabalinjfgcfeaaGreat.ev F x=some v):a.eval x=v.bU β:=by
 cases x with
 | tmp t=>exact hr.tmp t v h
 | const c=>cases h;rfl
 | func f=>cases h;rfl
 | global g=>cases h
theorem evv_ev {v:Value} (h:Proofs.YtabalinjfgcfeaaGreat.pw F x=some v):Proofs.YtabalinjfgcfeaaGreat.ev F x=some (.val v):=by
 unfold Proofs.YtabalinjfgcfeaaGreat.pw at h
 split at h
 ·rename_i u hu;cases h;exact hu
 ·cases h
theorem Rel.pw (hr:Rel C β F H a w) {v:Value} (h:Proofs.YtabalinjfgcfeaaGreat.pw F x=some v):a.eval x=v:=hr.ev (evv_ev h)
theorem Rel.evs (hr:Rel C β F H a w):∀ {l:List Operand} {vs:List Value},Proofs.YtabalinjfgcfeaaGreat.evs F l=some vs->l.map a.eval=vs
 | [],vs,h=>by cases h;rfl
 | x::r,vs,h=>by
   unfold Proofs.YtabalinjfgcfeaaGreat.evs at h
   split at h
   ·rename_i v l hv hl;cases h;rw[rQ,hr.pw hv,hr.evs hl]
   ·cases h
theorem Rel.Dm (hr:Rel C β F H a w):∀ {l:List Operand} {vs:List AV},Proofs.YtabalinjfgcfeaaGreat.Dm F l=some vs->l.map a.eval=vs.map (AV.bU β)
 | [],vs,h=>by cases h;rfl
 | x::r,vs,h=>by
   unfold Proofs.YtabalinjfgcfeaaGreat.Dm at h
   split at h
   ·rename_i v l hv hl;cases h;rw[rQ,hr.ev hv,hr.Dm hl];rfl
   ·cases h
theorem Rel.LK (hr:Rel C β F H a w):∀ {l:List (Nat×Operand)} {vs:List (Nat×AV)},Proofs.YtabalinjfgcfeaaGreat.LK F l=some vs->l.map (λp=>(p.1,a.eval p.2))=vs.map (λp=>(p.1,p.2.bU β))
 | [],vs,h=>by cases h;rfl
 | (k,x)::r,vs,h=>by
   unfold Proofs.YtabalinjfgcfeaaGreat.LK at h
   split at h
   ·rename_i v l hv hl;cases h;rw[rQ,hr.LK hl];simp[hr.ev hv]
   ·cases h
theorem lU.ev (hc:lU F H) {v:AV} (h:Proofs.YtabalinjfgcfeaaGreat.ev F x=some v):∀ i∈v.ids,H i≠none:=by
 cases x with
 | tmp t=>exact hc t v h
 | const c=>cases h;intro i hi;cases hi
 | func f=>cases h;intro i hi;cases hi
 | global g=>cases h
theorem lU.Dm (hc:lU F H):∀ {l:List Operand} {vs:List AV},Proofs.YtabalinjfgcfeaaGreat.Dm F l=some vs->∀ v∈vs,∀ i∈v.ids,H i≠none
 | [],vs,h=>by cases h;intro v hv;cases hv
 | x::r,vs,h=>by
   unfold Proofs.YtabalinjfgcfeaaGreat.Dm at h
   split at h
   ·rename_i v l hv hl;cases h;intro u hu;rcases dW.1 hu with rfl|hu
    ·exact hc.ev hv
    ·exact hc.Dm hl u hu
   ·cases h
theorem lU.LK (hc:lU F H):∀ {l:List (Nat×Operand)} {vs:List (Nat×AV)},Proofs.YtabalinjfgcfeaaGreat.LK F l=some vs->∀ v∈vs,∀ i∈v.2.ids,H i≠none
 | [],vs,h=>by cases h;intro v hv;cases hv
 | (k,x)::r,vs,h=>by
   unfold Proofs.YtabalinjfgcfeaaGreat.LK at h
   split at h
   ·rename_i v l hv hl;cases h;intro u hu;rcases dW.1 hu with rfl|hu
    ·exact hc.ev hv
    ·exact hc.LK hl u hu
   ·cases h
theorem Rel.gQ (hr:Rel C β F H a w) {v:AV} (h:Proofs.YtabalinjfgcfeaaGreat.ev F x=some v):∀ i∈v.ids,H i≠none:=hr.closed.ev h
theorem Rel.put (hr:Rel C β F H a w) {dst:Option Nat} (hd:oJ C.N dst=true) {v:AV} (hc:∀ i∈v.ids,H i≠none):Rel C β (F.cw dst v) H (a.put dst (v.bU β)) w:=by
 cases dst with
 | none=>exact hr
 | some d=>
   have hlt:d<C.N:=by simpa [oJ,Nat.blt_eq] using hd
   refine⟨hr.defers,by simp[Act.put,hr.size],λn u hn=> ?_,hr.own,hr.apart,λn u hn=> ?_,λn u hn=> ?_,hr.hp,hr.old⟩
   ·change (F.put d v) n=some u at hn;rw[Fr.eE] at hn;show (a.tmps.setIfInBounds d (v.bU β)).getD n undef=_;by_cases h:n=d
    ·subst h;rw[if_pos rfl] at hn;cases hn;simp[Array.getD_eq_getD_getElem?,Array.getElem?_setIfInBounds,hr.size,hlt]
    ·rw[if_neg h] at hn;have:=hr.tmp n u hn;rw[gl] at this ⊢;rw[zY,if_neg (λe=>h e.symm)];exact this
   ·change (F.put d v) n=some u at hn;rw[Fr.eE] at hn;by_cases h:n=d
    ·rw[if_pos h] at hn;cases hn;exact hc
    ·rw[if_neg h] at hn;exact hr.closed n u hn
   ·change (F.put d v) n=some u at hn;rw[Fr.eE] at hn;by_cases h:n=d
    ·rw[h];exact hlt
    ·rw[if_neg h] at hn;exact hr.fits n u hn
variable {P:Program} {i:TI} {t:TypeId}
theorem lO (hi:TI.Ok P t i) (a:Addr) (cs:List Value) (hl:cs.length=i.size) (w:World) (hc:∀ j u,cs[j]? =some u->w.cell? (a.add j)=some u):
  (loadVar t a).run P w=.ok (sP i cs) w:=by
 obtain⟨d,hu,hd⟩:=hi.row;have hz:=hi.size;cases hq:P.info? t with
 | none=>rw[hq] at hz;simp at hz
 | some ti=>
   rw[hq] at hz;simp at hz;unfold loadVar sP;cases hg:i.agg
   ·have h1:=hi.lone hg;rw[hg] at hd;obtain⟨u,rfl⟩:∃ u,cs=[u]:=List.length_eq_one_iff.1 ab;have:=hc 0 u aa;have ha:a.add 0=a:=by unfold Addr.add;split <;> simp_all
    rw[ha] at this;cases d <;> simp_all [isAgg,run_underlying hu,TypeDesc.isRow]
   ·rw[hg] at hd;have hld:=run_loadCells_list (P:=P) w a cs hc;rw[hl,<-hz] at hld;cases d <;> simp_all [isAgg,run_underlying hu,TypeDesc.isRow,sizeOf,typeInfo]
variable {cs:List AV}
theorem zh (hi:TI.Ok P t i) (hl:cs.length=i.size) (hk:cs.all aY=true):(tu i cs).bU β=sP i (cs.map (AV.leaf β)):=by
 unfold tu sP;cases hg:i.agg with
 | true=>exact ze β cs
 | false=>
   have h1:=hi.lone hg;obtain⟨u,rfl⟩:∃ u,cs=[u]:=List.length_eq_one_iff.1 ab;simp at hk;simp[WL hk]
theorem Cb {j:Nat} (hk:cs.all aY=true) (h:j∈(tu i cs).ids):j∈aI cs:=by
 unfold tu at h;cases hg:i.agg with
 | true=>rw[hg] at h;exact Ca h
 | false=>
   rw[hg] at h;cases cs with
   | nil=>cases h
   | cons x r=>
     simp only[cond_false,List.headD_cons] at h;simp at hk;rw[aI,Zx hk.1];exact Aa _ h
end
def Ph:List Value->Nat->List Value->List Value
 | l,_,[]=>l
 | l,o,v::r=>Ph (l.set o v) (o+1) r
theorem uJ:∀ (vs l:List Value) (o:Nat),o+vs.length<=l.length->Ph l o vs=l.take o++(vs++l.drop (o+vs.length))
 | [],l,o,_=>by simp[Ph]
 | v::r,l,o,h=>by
   simp only[List.length_cons] at h;have h1:o<l.length:=ab;rw[Ph,uJ r (l.set o v) (o+1) (by rw[pM];omega),List.take_succ_eq_append_getElem (by rw[pM];omega),List.getElem_set_self,List.take_set_of_le (bL _),List.drop_set_of_lt ab];simp[Nat.add_assoc,Nat.add_comm 1]
theorem Cc:∀ (l:List Value) (k off:Nat) (A:Array Value),(l.zipIdx k).foldl (λ(cs:Array Value) (x:Value×Nat)=>cs.setIfInBounds (off+x.2) x.1) A=(Ph A.toList (off+k) l).toArray
 | [],_,_,A=>by simp[Ph]
 | v::r,k,off,A=>by
   rw[List.zipIdx_cons,List.foldl_cons,Cc r (k+1) off,Ph];simp[Nat.add_assoc]
theorem GU {β:Nat->Nat} {v:AV} (h:jX v=true):(v.bU β).cells.size=(cellsOf v).length:=by
 rw[<-Ge,<-mU β v (tz h),bu]
theorem bM {n m:Nat} (h:Nat.ble n m=true):n<=m:=Nat.le_of_ble_eq_true h
theorem Pj {β:Nat->Nat} {places:Array (Nat×Nat)}:∀ (l:List (Nat×AV)) (cells:List AV) {cs:List AV},Kq places cells l=some cs->
  Instr.fill (places[·]?) (cells.map (AV.leaf β)).toArray (l.map λp=>(p.1,p.2.bU β))=some (cs.map (AV.leaf β)).toArray
 | [],cells,cs,h=>by cases h;rfl
 | (i,v)::rest,cells,cs,h=>by
   unfold Kq at h;rw[rQ];unfold Instr.fill;cases hp:places[i]? with
   | none=>rw[hp] at h;cases h
   | some p=>
     rw[hp] at h;simp only at h ⊢;cases hb:Nat.beq (cellsOf v).length p.2 && Nat.ble (p.1+p.2) cells.length && jX v with
     | false=>rw[hb] at h;cases h
     | true=>
       rw[hb] at h;simp only[Bool.and_eq_true] at hb;have h1:=qC hb.1.1;have h2:=bM hb.1.2;have h3:=GU (β:=β) hb.2;have h4:=mU β v (tz hb.2);rw[if_neg (by simp[h3,h1];omega)];have:=Pj (β:=β) rest _ h;rw[<-this]
       congr 1
       have e:=Cc (v.bU β).cells.toList 0 p.1 (cells.map (AV.leaf β)).toArray;rw[uJ _ _ _ (by simp[h3,h1];omega)] at e;simp only[Nat.add_zero,Array.length_toList,h3,h1] at e
       rw[show (cells.take p.1++(cellsOf v++cells.drop (p.1+p.2))).map (AV.leaf β)=(cells.map (AV.leaf β)).take p.1++((v.bU β).cells.toList++(cells.map (AV.leaf β)).drop (p.1+p.2)) by
        rw[bC,bC,h4,Gi,List.map_drop]]
       rw[<-e];rw[<-Array.foldl_toList]
       congr 1
       simp
theorem Pk {K:KC} {b o:Nat} {t:TypeId} {w:World} {cs:List Value} {v:Value} (hc:bO w b t cs.toArray) (ht:K.fz t=false) (hk:cs.all bD=true):
  bQ K w (w.setCell ⟨b,o,none⟩ v)/\bO (w.setCell ⟨b,o,none⟩ v) b t (cs.set o v).toArray:=by
 refine⟨⟨bN,λa x _ hx=> ?_,λt' g cur hf _ hg=> ?_,λg es c hg=> ?_⟩,?_⟩
 ·by_cases hb:a.block=b
  ·exfalso
   have:cs.toArray[a.off]? =some (.int .u32 x):=by
    simp only[World.cell?,hb,show w.heap[b]? =_ from hc] at hx;simp at hx;simpa using hx.2
   have hm:=cX (show cs[a.off]? =some (.int .u32 x) by simpa using this);have:=bR.1 hk _ hm;cases this
  ·rw[Ab (w:=w) (wu w ⟨b,o,none⟩ v a.block hb)];exact hx
 ·rw[wu _ _ _ g (λe=>by
   have e':g=b:=e;subst e';have:=(show w.heap[_]? =_ from hc).symm.trans hg;simp at this;rw[<-this.2,ht] at hf;cases hf)]
  exact hg
 ·rw[wu _ _ _ g (λe=>by
   have e':g=b:=e;subst e';have:=(show w.heap[_]? =_ from hc).symm.trans hg;simp at this)]
  exact hg
 ·have:=hc.set (j:=o) v;simpa using this
theorem pY {K:KC} {b:Nat} {t:TypeId}:∀ (vs:List Value) (o:Nat) (w:World) (cs:List Value),bO w b t cs.toArray->K.fz t=false->cs.all bD=true->vs.all bD=true->
  bQ K w (w.setCells b o vs)/\bO (w.setCells b o vs) b t (Ph cs o vs).toArray/\(∀ g t' gD,g≠b->bO w g t' gD->bO (w.setCells b o vs) g t' gD)/\∀ w0,aU w0 w->w0.heap.size<=b->aU w0 (w.setCells b o vs)
 | [],o,w,cs,hc,_,_,_=>⟨bQ.refl _ _,hc,λ_ _ _ _ h=>h,λ_ h _=>h⟩
 | v::r,o,w,cs,hc,ht,hk,hv=>by
   rw[lz,gf] at hv;obtain⟨h1,h2⟩:=Pk (o:=o) (v:=v) hc ht hk
   have hk':(cs.set o v).all bD=true:=bR.2 λx hx=>by
    rcases yv hx with h|rfl
    ·exact bR.1 hk _ h
    ·exact hv.1
   obtain⟨k1,k2,k3,k4⟩:=pY r (o+1) _ _ h2 ht hk' hv.2;exact⟨h1.aR k1,k2,λg t' gD hg h=>k3 g t' gD hg (h.other hg v),λw0 h hb=>k4 w0 (h.setCell (p:=⟨b,o,none⟩) hb v) hb⟩
section
variable {C:Cx} {β:Nat->Nat} {F:Fr} {H:Hp} {a:Act} {w:World}
variable {cs:List AV} {d:Nat} {t:TypeId}
theorem LO.put (gv:LO C H) (hd:d<C.top) (ht:C.K.fz t=false) (hk:cs.all aY=true) (jG:∀ j∈aI cs,H j≠none):LO C (H.put d (t,cs)):=by
 have Pl:∀ j,H j≠none->(H.put d (t,cs)) j≠none:=λj hj=>by
  rw[Hp.eE];split
  ·simp
  ·exact hj
 refine⟨λi t' gD h=> ?_,λi t' gD h j hj=> ?_,λi hi=> ?_⟩
 ·rw[Hp.eE] at h;by_cases e:i=d
  ·rw[if_pos e] at h;cases h;exact⟨ht,hk⟩
  ·rw[if_neg e] at h;exact gv.ok i t' gD h
 ·rw[Hp.eE] at h;by_cases e:i=d
  ·rw[if_pos e] at h;cases h;exact Pl j (jG j hj)
  ·rw[if_neg e] at h;exact Pl j (gv.closed i t' gD h j hj)
 ·rw[Hp.eE,if_neg ab];exact gv.ld i hi
variable {c:TypeId×List AV}
theorem Pm {j:Nat} (hj:H j≠none):(H.put d c) j≠none:=by
 rw[Hp.eE];split
 ·simp
 ·exact hj
theorem Rel.make (hr:Rel C β F H a w) (hd:d<C.N) (h0:H d=none) (ht:C.K.fz t=false) (hk:cs.all aY=true) (jG:∀ j∈aI cs,H j≠none):
  ∃ dA,dA d=w.heap.size/\Rel C dA F (H.put d (t,cs)) a (w.alloc (.cells (cs.map (AV.leaf β)).toArray t)):=by
 let dA:Nat->Nat:=λn=>if n=d then w.heap.size else β n
 have hb:∀ i,i≠d->dA i=β i:=λi hi=>if_neg hi;have xK:dA d=w.heap.size:=if_pos aa;have hco:∀ n v,F n=some v->v.bU dA=v.bU β:=λn v hn=>AV.GM λi hi=>hb i λe=>hr.closed n v hn i hi (e▸h0);have hle:∀ l:List AV,(∀ j∈aI l,H j≠none)->l.map (AV.leaf dA)=l.map (AV.leaf β):=λl hl=>mf λi hi=>hb i λe=>hl i hi (e▸h0)
 have ry:Rel C dA F (H.put d (t,cs)) a (w.alloc (.cells (cs.map (AV.leaf β)).toArray t)):=by
  refine⟨hr.defers,hr.size,λn v hn=>(hr.tmp n v hn).trans (hco n v hn).symm,λi t' gD hi=> ?_,λi j hi hj he=> ?_,λn v hn i hi=> ?_,hr.fits,hr.hp.put (by have:=C.topN;omega) ht hk jG,C.aR hr.old ((aU.refl w).alloc _)⟩
  ·rw[Hp.eE] at hi;by_cases h:i=d
   ·rw[if_pos h] at hi;cases hi;subst h;exact⟨by rw[xK];exact C.yT _ _ ab (C.iq _ hr.old),ht,by rw[xK,hle _ jG];exact bO.new _ _ _,hk⟩
   ·rw[if_neg h] at hi;obtain⟨h1,h2,h3,h4⟩:=hr.own i t' gD hi;exact⟨by rw[hb i h];exact h1,h2,by rw[hb i h,hle _ (hr.hp.closed i t' gD hi)];exact h3.alloc _,h4⟩
  ·rw[Hp.eE] at hi hj
   have lt:∀ i,H i≠none->β i<w.heap.size:=λi hi=>by
    cases hh:H i with
    | none=>exact absurd hh hi
    | some x=>exact (hr.own i x.1 x.2 hh).cls.lt
   by_cases h1:i=d <;> by_cases h2:j=d
   ·rw[h1,h2]
   ·rw[if_neg h2] at hj;rw[h1,xK,hb j h2] at he;have:=lt j hj;omega
   ·rw[if_neg h1] at hi;rw[h2,xK,hb i h1] at he;have:=lt i hi;omega
   ·rw[if_neg h1] at hi;rw[if_neg h2] at hj;rw[hb i h1,hb j h2] at he;exact hr.apart i j hi hj he
  ·exact Pm (hr.closed n v hn i hi)
 exact⟨dA,xK,ry⟩
theorem gR {b:Nat}:∀ (vs:List Value) (o:Nat) (w:World) (k:Nat),k≠b->(w.setCells b o vs).heap[k]? =w.heap[k]?
 | [],_,_,_,_=>rfl
 | v::r,o,w,k,hk=>(gR r (o+1) (w.setCell ⟨b,o,none⟩ v) k hk).trans (wu w ⟨b,o,none⟩ v k hk)
theorem lF {b:Nat}:∀ (vs:List Value) (o:Nat) (w:World),(w.setCells b o vs).os=w.os/\(w.setCells b o vs).tape=w.tape/\(w.setCells b o vs).output=w.output/\w.heap.size<=(w.setCells b o vs).heap.size
 | [],_,w=>⟨rfl,rfl,rfl,bL _⟩
 | v::r,o,w=>by
   obtain⟨h1,h2,h3,h4⟩:=lF (b:=b) r (o+1) (w.setCell ⟨b,o,none⟩ v);exact⟨h1,h2,h3,bj (by simp[World.setCell]) h4⟩
variable {K:KC}
theorem LP {GO:Nat->Nat->Prop} {b o:Nat} {w:World} {vs:List Value} {cs:List Value} (hn:∃ i,GO i b) (ht:K.fz t=false) (hc:bO (w.setCells b o vs) b t cs.toArray) (hk:cs.all bD=true):Stp K GO w (w.setCells b o vs):=by
 obtain⟨h1,h2,h3,h4⟩:=lF (b:=b) vs o w;refine⟨h1,h2,h3,h4,λg _=> ?_⟩;by_cases e:g=b
 ·subst e;exact .inr (.inl ⟨hn,t,cs,hc,ht,hk⟩)
 ·exact .inl (gR vs o w g e)
variable {vs:List AV} {off:Nat}
theorem Rel.stored (hr:Rel C β F H a w) {b:Nat} (h:H b=some (t,cs)) (hl:off+vs.length<=cs.length) (hv:vs.all aY=true) (jG:∀ j∈aI vs,H j≠none):
  bQ C.K w (w.setCells (β b) off (vs.map (AV.leaf β)))/\Rel C β F (H.put b (t,cs.take off++(vs++cs.drop (off+vs.length)))) a (w.setCells (β b) off (vs.map (AV.leaf β))):=by
 obtain⟨h2,h3,h1,h4⟩:=hr.own b t cs h;obtain⟨k1,k2,k3,k4⟩:=pY (K:=C.K) (vs.map (AV.leaf β)) off w (cs.map (AV.leaf β)) h1 h3 (eN h4) (eN hv)
 have cC:b<C.top:=by
  apply YL;intro e;rw[hr.hp.ld b ab] at h;cases h
 have hcs:=hr.hp.closed b t cs h
 have gJ:(cs.take off++(vs++cs.drop (off+vs.length))).all aY=true:=by
  simp only[List.all_append,Bool.and_eq_true];exact⟨bR.2 λx hx=>bR.1 h4 x (nI hx),hv,bR.2 λx hx=>bR.1 h4 x (ow hx)⟩
 have hcl':∀ j∈aI (cs.take off++(vs++cs.drop (off+vs.length))),H j≠none:=λj hj=>by
  obtain⟨v,hv',hj'⟩:=bK.1 hj;simp only[List.mem_append] at hv';rcases hv' with e|e|e
  ·exact hcs j (bK.2 ⟨v,nI e,hj'⟩)
  ·exact jG j (bK.2 ⟨v,e,hj'⟩)
  ·exact hcs j (bK.2 ⟨v,ow e,hj'⟩)
 refine⟨k1,hr.defers,hr.size,hr.tmp,λi t' gD hi=> ?_,λi j hi hj he=> ?_,λn v hn i hi=>Pm (hr.closed n v hn i hi),hr.fits,hr.hp.put cC h3 gJ hcl',C.AG _ _ hr.old C.keep k1 (LP ⟨b,h2⟩ h3 k2 (by rw[uJ _ _ off (by simp only[List.length_map];omega)];simp only[List.all_append,Bool.and_eq_true];exact⟨bR.2 λx hx=>bR.1 (eN h4) x (nI hx),eN hv,bR.2 λx hx=>bR.1 (eN h4) x (ow hx)⟩))⟩
 ·rw[Hp.eE] at hi;by_cases hib:i=b
  ·rw[if_pos hib] at hi;cases hi;subst hib;rw[uJ _ _ off (by simp only[List.length_map];omega)] at k2;refine⟨h2,h3,?_,gJ⟩;rw[bC,bC,Gi,List.map_drop];simpa using k2
  ·rw[if_neg hib] at hi;obtain⟨g2,g3,g1,g4⟩:=hr.own i t' gD hi;exact⟨g2,g3,k3 _ _ _ (λe=>hib (hr.apart i b (by rw[hi];simp) (by rw[h];simp) e)) g1,g4⟩
 ·rw[Hp.eE] at hi hj;refine hr.apart i j ?_ ?_ he
  ·by_cases hib:i=b
   ·rw[hib,h];simp
   ·rw[if_neg hib] at hi;exact hi
  ·by_cases hjb:j=b
   ·rw[hjb,h];simp
   ·rw[if_neg hjb] at hj;exact hj
theorem bQ.alloc (w:World) (o:Obj):bQ K w (w.alloc o):=bQ.of ((aU.refl w).alloc o)
def iD (C:Cx) (F:Fr) (H:Hp) (o:Oper) (a:Act) (w:World) (v:AV) (u:Option (Nat×(TypeId×List AV))):Prop:=
 ∃ dA w',bQ C.K w w'/\Rel C dA (F.cw o.dst v) (H.upd u) (a.put o.dst (v.bU dA)) w'/\
   ((execOp a.eval o).run C.P w=.ok (.value (v.bU dA)) w'\/((execOp a.eval o).run C.P w=.ok .skip w'/\v.bU dA=undef))
theorem iD.pure (hr:Rel C β F H a w) {o:Oper} (hd:oJ C.N o.dst=true) {v:AV} (hc:∀ i∈v.ids,H i≠none) (h:(execOp a.eval o).run C.P w=.ok (.value (v.bU β)) w):iD C F H o a w v none:=
 ⟨β,w,bQ.refl _ _,hr.put hd hc,.inl h⟩
theorem iD.val (hr:Rel C β F H a w) {o:Oper} (hd:oJ C.N o.dst=true) {v:Value} (h:(execOp a.eval o).run C.P w=.ok (.value v) w):iD C F H o a w (.val v) none:=
 iD.pure hr hd (λ_ hi=>by cases hi) h
theorem FA {v:AV} (e:v.ids=[d]):∀ i∈v.ids,(H.put d c) i≠none:=by
 rw[e];intro i hi;rw[aJ.1 hi,Hp.eE,if_pos rfl];simp
variable {u:Option (Nat×(TypeId×List AV))}
theorem tB {x:Option AV} {v:AV} (h:Jl x=.iA v u):x=some v/\u=none:=by
 cases x with
 | none=>cases h
 | some y=>cases h;exact⟨aa,aa⟩
theorem jY {x:Option Value} {v:AV} (h:AJ x=.iA v u):∃ y,x=some y/\v=.val y/\u=none:=by
 cases x with
 | none=>cases h
 | some y=>cases h;exact⟨y,aa,aa,aa⟩
variable {h:Option (TypeId×List AV)}
theorem xL {v:AV} (e:wH K d t cs h=.iA v u):
  h=none/\K.fz t=false/\cs.all aY=true/\v=.box d 0/\u=some (d,(t,cs)):=by
 cases h with
 | some x=>cases e
 | none=>
   unfold wH at e;cases hb: !K.fz t && cs.all aY with
   | false=>rw[hb] at e;cases e
   | true=>
     rw[hb] at e;change mR cs _=_ at e;rw[eD] at e;cases e;rw[gf] at hb;exact⟨aa,by simpa using hb.1,hb.2,rfl,rfl⟩
variable {i:TI}
theorem Kr {v:AV} (e:GP i cs off=.iA v u):
  off+i.size<=cs.length/\v=tu i ((cs.drop off).take i.size)/\u=none:=by
 unfold GP at e;cases hb:Nat.ble (off+i.size) cs.length with
 | false=>rw[hb] at e;cases e
 | true=>
   rw[hb] at e;change mR _ _=_ at e;rw[eD] at e;refine⟨bM hb,?_⟩;unfold tu;cases hg:i.agg with
   | true=>
     rw[hg,cond_true,sa] at e;cases e;exact⟨aa,aa⟩
   | false=>
     rw[hg] at e;simp only[cond_false] at e ⊢
     split at e
     ·rename_i x r hx;cases e;rw[hx];exact⟨aa,aa⟩
     ·cases e
theorem GV {b:Nat} {x:AV} {v:AV} (e:qO i b t cs off x=.iA v u):
  off+i.size<=cs.length/\(cellsOf x).length=i.size/\(cellsOf x).all aY=true/\v=.val undef/\u=some (b,(t,cs.take off++(cellsOf x++cs.drop (off+i.size)))):=by
 unfold qO at e;cases hb:Nat.ble (off+i.size) cs.length && Nat.beq (cellsOf x).length i.size && (cellsOf x).all aY with
 | false=>rw[hb] at e;cases e
 | true=>
   rw[hb] at e;change mR _ _=_ at e;rw[eD] at e;cases e;simp only[Bool.and_eq_true] at hb;exact⟨bM hb.1.1,qC hb.1.2,hb.2,aa,aa⟩
theorem WM {b:Nat} {x:AV} {φ:Prop} {v:AV} (e:Ko i b t cs off x=.cond φ v u):
  φ=(off+i.size<=cs.length)/\(cellsOf x).length=i.size/\(cellsOf x).all aY=true/\v=.val undef/\u=some (b,(t,cs.take off++(cellsOf x++cs.drop (off+i.size)))):=by
 unfold Ko at e;cases hb:Nat.beq (cellsOf x).length i.size && (cellsOf x).all aY with
 | false=>rw[hb] at e;cases e
 | true=>
   rw[hb] at e;cases e;rw[gf] at hb;exact⟨aa,qC hb.1,hb.2,aa,aa⟩
variable {e:TypeId}
theorem Ks {n:Nat} {v:AV} (q:Dp K d e n cs h=.iA v u):
  h=none/\K.fz e=false/\cs.all aY=true/\v=.row d 0 n n/\u=some (d,(e,cs)):=by
 cases h with
 | some x=>cases q
 | none=>
   unfold Dp at q;cases hb: !K.fz e && cs.all aY with
   | false=>rw[hb] at q;cases q
   | true=>
     rw[hb] at q;change mR cs _=_ at q;rw[eD] at q;cases q;rw[gf] at hb;exact⟨aa,by simpa using hb.1,hb.2,rfl,rfl⟩
theorem GW:∀ {m:List AV} {bs:List (Nat×Nat)},Fy m=some bs->m=bs.map λp=>AV.box p.1 p.2
 | [],bs,h=>by cases h;rfl
 | .box i off::r,bs,h=>by
   unfold Fy at h
   split at h
   ·rename_i l hl;cases h;rw[GW hl];rfl
   ·cases h
 | .val _::_,_,h=>by cases h
 | .rz _ _::_,_,h=>by cases h
 | .row _ _ _ _::_,_,h=>by cases h
 | .fn _ _ _::_,_,h=>by cases h
 | .agg _::_,_,h=>by cases h
 | .lN _::_,_,h=>by cases h
theorem Pn {sz:Nat}:∀ (l:List (Nat×AV)) (k:Nat) {cs:List AV},Pg sz k l=some cs->∀ j∈aI cs,∃ p∈l,j∈p.2.ids
 | [],k,cs,h,j,hj=>by cases h;cases hj
 | (q,v)::r,k,cs,h,j,hj=>by
   unfold Pg at h;cases hb:Nat.beq q k && Nat.beq (cellsOf v).length sz && jX v with
   | false=>rw[hb] at h;cases h
   | true=>
     rw[hb,cond_true] at h;simp only[Bool.and_eq_true] at hb
     split at h
     ·rename_i l hl;cases h;rw[ey] at hj;rcases gg.1 hj with e|e
      ·exact⟨(q,v),bN,oM (tz hb.2) e⟩
      ·obtain⟨p,hp,hpj⟩:=Pn r (k+1) hl j e;exact⟨p,by simp[hp],hpj⟩
     ·cases h
theorem Kt {places:Array (Nat×Nat)}:∀ (l:List (Nat×AV)) (cells:List AV) {cs:List AV},Kq places cells l=some cs->∀ j∈aI cs,j∈aI cells\/∃ p∈l,j∈p.2.ids
 | [],cells,cs,h,j,hj=>by cases h;exact .inl hj
 | (i,v)::rest,cells,cs,h,j,hj=>by
   unfold Kq at h
   split at h
   ·cases h
   ·rename_i p hp;cases hb:Nat.beq (cellsOf v).length p.2 && Nat.ble (p.1+p.2) cells.length && jX v with
    | false=>rw[hb] at h;cases h
    | true=>
      rw[hb] at h;simp only[Bool.and_eq_true] at hb;rcases Kt rest _ h j hj with e|⟨q,hq,e⟩
      ·obtain⟨x,hx,hj'⟩:=bK.1 e;simp only[List.mem_append] at hx;rcases hx with g|g|g
       ·exact .inl (bK.2 ⟨x,nI g,hj'⟩)
       ·exact .inr ⟨(i,v),bN,oM (tz hb.2) (bK.2 ⟨x,g,hj'⟩)⟩
       ·exact .inl (bK.2 ⟨x,ow g,hj'⟩)
      ·exact .inr ⟨q,by simp[hq],e⟩
theorem Ce {sz:Nat}:∀ (l:List (Nat×AV)) (k:Nat) (pre rest:List Value) {cs:List AV},Pg sz k l=some cs->pre.length=k*sz->rest.length=l.length*sz->
  Instr.fill (λi=>some (i*sz,sz)) (pre++rest).toArray (l.map λp=>(p.1,p.2.bU β))=some (pre++cs.map (AV.leaf β)).toArray
 | [],k,pre,rest,cs,h,h1,h2=>by
   cases h;have:rest=[]:=js (by simpa using h2);subst this;rfl
 | (j,v)::r,k,pre,rest,cs,h,h1,h2=>by
   unfold Pg at h;cases hb:Nat.beq j k && Nat.beq (cellsOf v).length sz && jX v with
   | false=>rw[hb] at h;cases h
   | true=>
     rw[hb,cond_true] at h;simp only[Bool.and_eq_true] at hb;have e1:=qC hb.1.1;have e2:(v.bU β).cells.size=sz:=(GU hb.2).trans (qC hb.1.2);have e7:=mU β v (tz hb.2);subst e1
     split at h
     ·rename_i l hl;cases h;rw[fh,Nat.succ_mul] at h2;rw[rQ];unfold Instr.fill;simp only;rw[if_neg (by simp[e2];omega)];have e:=Cc (v.bU β).cells.toList 0 (j*sz) (pre++rest).toArray;rw[uJ _ _ _ (by simp[e2];omega)] at e
      have e3:(v.bU β).cells.zipIdx.foldl (λcs (x:Value×Nat)=>cs.setIfInBounds (j*sz+x.2) x.1) (pre++rest).toArray=((pre++(v.bU β).cells.toList)++rest.drop sz).toArray:=by
       rw[<-Array.foldl_toList];have e4:(v.bU β).cells.zipIdx.toList=(v.bU β).cells.toList.zipIdx 0:=bN;rw[e4,e];apply vu.1;have l1:(v.bU β).cells.toList.length=sz:=by simpa using e2
       simp only[Nat.add_zero,l1];rw[<-h1,YH (bL _),Oo,List.drop_append,ly ab];simp
      have:=Ce r (j+1) (pre++(v.bU β).cells.toList) (rest.drop sz) hl (by rw[bB,h1,Nat.succ_mul];simp[e2]) (by rw[rM];omega);rw[fu] at this;rw[fu] at e3;rw[show (λ(cs:Array Value) (x:Value×Nat)=>match x with|(c,j_1)=>cs.setIfInBounds (j*sz+j_1) c)=(λ(cs:Array Value) (x:Value×Nat)=>cs.setIfInBounds (j*sz+x.2) x.1) from aa,e3,this];simp[e7]
     ·cases h
variable {x y:Operand} {P:Program} {r:Value}
theorem Zy {op:BinOp} {u v:Value} (h:binA op u v=some r) (w:World):
  (do eqGuard op t x y u v;binOp op t u v:Sem Value).run P w=.ok r w:=by
 unfold binA at h
 split at h
 ·rename_i k m l n;cases hsh:isSh op with
  | true=>
    rw[hsh] at h;cases hb:decide (n<0) with
    | true=>rw[hb] at h;cases h
    | false=>
      rw[hb] at h;have hn:¬ n<0:=of_decide_eq_false hb
      cases op <;> first
       | (cases hsh;done)
       | (simp only[shI,cond_true,cond_false,Option.some.injEq] at h
          subst h;simp[eqGuard,binOp,Op.shift,hn])
  | false=>
  rw[hsh] at h;cases hk:sameKind k l with
  | false=>rw[hk] at h;cases h
  | true=>
    rw[hk] at h;have OT:k=l:=CV hk;subst OT;unfold binI at h
    cases op <;> simp only[cond_true,cond_false] at h <;> first
     | (cases h;simp[eqGuard,binOp,Op.intCmp,Op.intArith];done)
     | (cases h;done)
     | (cases h;simp[eqGuard,binOp,Op.intBits,bits];done)
     | (cases hn:decide (n=0) with
        | true=>rw[hn] at h;cases h
        | false=>
          rw[hn] at h;cases h;have hn:n≠0:=of_decide_eq_false hn;simp[eqGuard,binOp,Op.intArith,Op.intDiv,hn])
 ·unfold binS at h
  cases op <;> simp only[Option.some.injEq] at h <;> first
   | (cases h;done)
   | (subst h;simp[eqGuard,binOp,Op.stringOp];done)
 ·cases h
variable {ρ:Operand->Value} {p:Option Addr} {t':TypeId}
theorem zi {o:Oper} {op:BinOp} (hop:o.op=.binOp op t x y t') (h1:ρ x=.pointer p) (h2:ρ y=.pointer none) (hu:P.underlying t=some (.pointer (P.pointee t))) (h:AH op p.isNone=some r) (w:World):
  (execOp ρ o).run P w=.ok (.value r) w:=by
 unfold AH at h
 cases op <;> simp only[Option.some.injEq] at h <;> first
  | (cases h;done)
  | (subst h;simp[execOp,hop,h1,h2,eqGuard,binOp,run_equal_pointer_nil w t p hu];done)
theorem Ku {o:Oper} {op:BinOp} {l c:Nat} (hop:o.op=.binOp op t x y t') (h1:ρ x=.slice p l c) (h2:ρ y=.slice none 0 0) (hu:P.underlying t=some (.slice e)) (h:AH op p.isNone=some r) (w:World):
  (execOp ρ o).run P w=.ok (.value r) w:=by
 unfold AH at h
 cases op <;> simp only[Option.some.injEq] at h <;> first
  | (cases h;done)
  | (subst h;simp[execOp,hop,h1,h2,eqGuard,binOp,run_equal_slice_nil w t e p l c hu];done)
theorem Po (f:Int->Int->Int) (m2:Value->Value->Sem Value) (hm:∀ k a b (w:World),(m2 (.int k a) (.int k b)).run P w=.ok (.int k (f a b)) w):∀ (l:List Value) (v:Value) {k:IntKind} {xs:List Int},GQ (v::l)=some (k,xs)->
  ∃ x r,xs=x::r/\v=.int k x/\∀ (y:Int) (w:World),(l.foldlM m2 (.int k y)).run P w=.ok (.int k (r.foldl f y)) w:=by
 intro l
 induction l with
 | nil=>
   intro v k xs h;cases v <;> first|(cases h;done)|skip
   cases h;exact⟨_,[],aa,aa,λy w=>aa⟩
 | cons u s ih=>
   intro v k xs h;cases v <;> first|(cases h;done)|skip
   rename_i k' a;have h':(match GQ (u::s) with|some (l,xs)=>bif sameKind k' l then some (k',a::xs) else none|none=>none)=some (k,xs):=h
   split at h'
   ·rename_i l ys hl;cases hk:sameKind k' l with
    | false=>rw[hk] at h';cases h'
    | true=>
      rw[hk] at h';have OT:k'=l:=CV hk;subst OT;cases h';obtain⟨x,r,rfl,rfl,hr⟩:=ih u hl;refine⟨a,x::r,aa,aa,λy w=> ?_⟩;rw[List.foldlM_cons,Sem.run_bind,hm,Result.andThen_ok,hr];rfl
   ·cases h'
theorem jw {F:Fr} {o:Oper} {v:AV} (h:wQ F o=.iA v u):False:=by
 unfold wQ at h;split at h <;> cases h
theorem qP {k:Nat} {v:AV} (h:sQ i cs k=.iA v u):
  u=none/\∃ p,i.places[k]? =some p/\((i.WH[k]? =some true/\v=Dn ((cs.drop p.1).take p.2))\/(i.WH[k]? =some false/\cs[p.1]? =some v/\qN v=true)):=by
 unfold sQ at h
 split at h
 ·rename_i p hp hg;rw[eD,sa] at h;cases h;exact⟨aa,p,hp,.inl ⟨hg,aa⟩⟩
 ·rename_i p hp hg
  split at h
  ·rename_i x hx;cases hn:qN x with
   | false=>rw[hn] at h;cases h
   | true=>
     rw[hn] at h;cases h;rw[Fz] at hx;exact⟨aa,p,hp,.inr ⟨hg,hx,hn⟩⟩
  ·cases h
 ·cases h
theorem Kv (hC:C.Ok) (hi:C.ti t=some i) {k:Nat} {v:AV} (h:sQ i cs k=.iA v u) (w:World):
  (Instr.field t (.agg (cs.map (AV.leaf β)).toArray) k).run C.P w=.ok (v.bU β) w:=by
 obtain⟨_,p,hp,⟨hg,rfl⟩|⟨hg,hv,hn⟩⟩:=qP h
 ·refine (hC t i hi).Pd k p hp _ w _ ?_;rw[hg,ze];simp only
  congr 2
  apply vu.1;simp[Array.toList_extract,List.extract_eq_take_drop,List.map_take,List.map_drop]
 ·refine (hC t i hi).Pd k p hp _ w _ ?_;rw[hg,<-wS hn];simp[hv]
theorem AK {k:Nat} {v:AV} (h:sQ i cs k=.iA v u):∀ j∈v.ids,j∈aI cs:=by
 intro j hj;obtain⟨_,p,hp,⟨hg,rfl⟩|⟨hg,hv,hn⟩⟩:=qP h
 ·obtain⟨x,hx,hj'⟩:=bK.1 (Ca hj);exact bK.2 ⟨x,ow (nI hx),hj'⟩
 ·exact bK.2 ⟨v,cX hv,by rw[zf hn];exact hj⟩
theorem AM (hC:C.Ok) (hr:Rel C β F H a w) (hi:C.ti t=some i) {b:Nat} {tb:TypeId} (hb:H b=some (tb,cs)) {y:AV} (h1:off+i.size<=cs.length) (h2:(cellsOf y).length=i.size) (h3:(cellsOf y).all aY=true):
  (Instr.storeAt t (.pointer (some ⟨β b,off,none⟩)) (y.bU β)).run C.P w=.ok () (w.setCells (β b) off ((cellsOf y).map (AV.leaf β))):=by
 obtain⟨_,_,g1,_⟩:=hr.own b tb cs hb;have ht:=UI h3;have jG:=mU β y ht;have hz:=(hC t i hi).size;cases hq:C.P.info? t with
 | none=>rw[hq] at hz;simp at hz
 | some ti=>
   rw[hq] at hz;simp at hz
   have:=run_storeCells_cells (P:=C.P) (β b) off ((cellsOf y).map (AV.leaf β)) 0 w (λj hj=>by
     rw[bu] at hj;obtain⟨z,hz⟩:∃ z,(cs.map (AV.leaf β))[off+j]? =some z:=⟨_,ba (by rw[bu];omega)⟩;rw[pO,g1.cell (u:=z) (by simpa using hz)];rfl)
    (λj _=>g1.frozen _) (λz hz=>by
     obtain⟨q,hq,rfl⟩:=fv.1 hz;exact zd (wG (bR.1 h3 q hq)))
   have e6:(y.bU β).cells.size=i.size:=by rw[<-Ge,<-jG,bu,h2]
   rw[pO] at this;simp only[Instr.storeAt,Instr.sureAddr,storeVar,sizeOf,typeInfo,Sem.run_bind,Sem.run_pure,Result.andThen_ok];simp[hq,hz,e6,<-jG,this]
theorem Cf (hr:Rel C β F H a w) {b:Nat} {tb:TypeId} (hb:H b=some (tb,cs)) (hv:∀ j u,vs[j]? =some u->cs[off+j]? =some u):∀ j u,(vs.map (AV.leaf β))[j]? =some u->w.cell? ((⟨β b,off,none⟩:Addr).add j)=some u:=by
 intro j u hj;obtain⟨_,_,g1,_⟩:=hr.own b tb cs hb;rw[ju];rw[nJ] at hj;cases hvj:vs[j]? with
 | none=>rw[hvj] at hj;cases hj
 | some x=>
   rw[hvj] at hj;cases hj;refine g1.cell ?_;simp[hv j x hvj]
theorem UJ (hC:C.Ok) {o:Oper} {v:AV} (h:act C F H o=.iA v u) (hd:oJ C.N o.dst=true) (hr:Rel C β F H a w):iD C F H o a w v u:=by
 unfold act at h;cases hop:o.op <;> rw[hop] at h <;> simp only at h <;> try (first|cases h;done|exact (jw h).elim)
 case move x=>
  obtain⟨h1,rfl⟩:=tB h;exact iD.pure hr hd (hr.gQ h1) (by simp[execOp,hop,hr.ev h1])
 case assign x=>
  obtain⟨h1,rfl⟩:=tB h;exact iD.pure hr hd (hr.gQ h1) (by simp[execOp,hop,hr.ev h1])
 case pick c x y=>
  split at h
  ·rename_i t ht;obtain⟨h1,rfl⟩:=tB h;have hc:=hr.pw ht;cases t
   ·exact iD.pure hr hd (hr.gQ h1) (by simp[execOp,hop,hc,asBool,hr.ev h1])
   ·exact iD.pure hr hd (hr.gQ h1) (by simp[execOp,hop,hc,asBool,hr.ev h1])
  ·cases h
 case alloc t=>
  split at h
  ·rename_i d i lV hi;obtain⟨h1,h2,h3,rfl,rfl⟩:=xL h;rw[lV] at hd;have hlt:d<C.N:=by simpa [oJ,Nat.blt_eq] using hd
   obtain⟨dA,he,ry⟩:=hr.make hlt h1 h2 h3 (by rw[aw];intro j hj;cases hj);rw[ak] at ry;refine⟨dA,_,bQ.alloc _ _,ry.put (by rw[lV];exact hd) (FA aa),.inl ?_⟩;have wh:(AV.box d 0).bU dA=.pointer (some ⟨w.heap.size,0,none⟩):=by show Value.pointer (some ⟨dA d,0,none⟩)=_;rw[he]
   rw[wh];simp[execOp,hop,Instr.alloc,(hC t i hi).zero,newVar,newRow]
  ·cases h
 case box t x=>
  split at h
  ·rename_i d y lV hv;obtain⟨h1,h2,h3,rfl,rfl⟩:=xL h;rw[lV] at hd;have hlt:d<C.N:=by simpa [oJ,Nat.blt_eq] using hd
   have ht:=UI h3;obtain⟨dA,he,ry⟩:=hr.make hlt h1 h2 h3 (λj hj=>hr.gQ hv j (oM ht hj));rw[mU β y ht] at ry;refine⟨dA,_,bQ.alloc _ _,ry.put (by rw[lV];exact hd) (FA aa),.inl ?_⟩;have wh:(AV.box d 0).bU dA=.pointer (some ⟨w.heap.size,0,none⟩):=by show Value.pointer (some ⟨dA d,0,none⟩)=_;rw[he]
   rw[wh];simp[execOp,hop,Instr.box,hr.ev hv,newVar,newRow]
  ·cases h
 case build t ps=>
  split at h
  ·rename_i i l hi hl
   split at h
   ·rename_i cs hf;rw[eD,sa] at h;cases h;have Zi:=hr.LK hl
    have hg:i.agg=true:=by
     cases hg:i.agg with
     | true=>rfl
     | false=>rw[hg] at hf;cases hf
    rw[hg] at hf;refine iD.pure hr hd (λj hj=> ?_) ?_
    ·rcases Kt _ _ hf j (Ca hj) with e|⟨p,hp,e⟩
     ·rw[aw] at e;cases e
     ·exact hr.closed.LK hl p hp j e
    ·have:(Instr.build t (ps.map λx=>(x.1,a.eval x.2))).run C.P w=.ok (.agg (cs.map (AV.leaf β)).toArray) w:=(hC t i hi).bld hg _ w _ (by
      rw[vw,Zi];have:=Pj (β:=β) _ _ hf;rw[ak] at this;exact this)
     rw[ze];simp[execOp,hop,this]
   ·cases h
  ·cases h
 case load t x=>
  split at h
  ·rename_i b off i hx hi
   split at h
   ·rename_i tb cs hb;obtain⟨h1,rfl,rfl⟩:=Kr h;have he:a.eval x=.pointer (some ⟨β b,off,none⟩):=hr.ev hx;have hl:((cs.drop off).take i.size).length=i.size:=by rw[cM,rM];omega
    have hk:((cs.drop off).take i.size).all aY=true:=bR.2 λy hy=>bR.1 (hr.own b tb cs hb).ok y (ow (nI hy))
    have hsub:∀ j u,((cs.drop off).take i.size)[j]? =some u->cs[off+j]? =some u:=λj u hj=>by
     rw[wq] at hj
     split at hj
     ·rwa [tf] at hj
     ·cases hj
    refine iD.pure hr hd (λj hj=> ?_) ?_
    ·obtain⟨y,hy,hj'⟩:=bK.1 (Cb hk hj);exact hr.hp.closed b tb cs hb j (bK.2 ⟨y,ow (nI hy),hj'⟩)
    ·have:=lO (hC t i hi) ⟨β b,off,none⟩ (((cs.drop off).take i.size).map (AV.leaf β)) (by rw[bu,hl]) w (Cf hr hb hsub);rw[zh (hC t i hi) hl hk];simp[execOp,hop,he,Instr.loadAt,Instr.sureAddr,this]
   ·cases h
  ·split at h <;> cases h
  ·cases h
  ·cases h
 case store t x y=>
  split at h
  ·rename_i b off y' i hx hv hi
   split at h
   ·rename_i tb cs hb;obtain⟨h1,h2,h3,rfl,rfl⟩:=GV h;have he:a.eval x=.pointer (some ⟨β b,off,none⟩):=hr.ev hx;have hy:=hr.ev hv;obtain⟨k1,k2⟩:=hr.stored hb (by rw[h2];exact h1) h3 (λj hj=>hr.gQ hv j (oM (UI h3) hj));rw[h2] at k2;refine⟨β,_,k1,k2.put hd (λ_ hi=>by cases hi),.inr ⟨?_,aa⟩⟩;have:=AM hC hr hi hb h1 h2 h3;simp[execOp,hop,he,hy,this]
   ·cases h
  ·split at h
   ·unfold Ko at h
    revert h
    generalize (Nat.beq _ _ && _)=q;cases q <;> intro h <;> cases h
   ·cases h
  ·cases h
 case binOp op t x y t'=>
  split at h
  ·rename_i p q hp hq;have e1:=hr.pw hp;have e2:=hr.pw hq
   split at h
   ·rename_i i hi;obtain⟨y',h1,rfl,rfl⟩:=jY h;cases hb:i.bool with
    | false=>rw[hb] at h1;cases h1
    | true=>
      rw[hb] at h1;change binB op p q=some y' at h1;refine iD.val hr hd ?_;have hu:=(hC t i hi).isBool hb;unfold binB at h1;cases op <;> simp at h1 <;> subst h1 <;> simp[execOp,hop,e1,e2,eqGuard,binOp,run_equal_bool w t _ _ hu]
   ·cases h
  ·rename_i p hp hq;have e1:=hr.pw hp;have e2:=hr.pw hq
   split at h
   ·rename_i i hi;obtain⟨y',h1,rfl,rfl⟩:=jY h;cases hb:i.ptr with
    | false=>rw[hb] at h1;cases h1
    | true=>
      rw[hb] at h1;change AH op p.isNone=some y' at h1;exact iD.val hr hd (zi hop e1 e2 ((hC t i hi).UE hb) h1 w)
   ·cases h
  ·rename_i p l c n c' hp hq;have e1:=hr.pw hp;have e2:=hr.pw hq
   split at h
   ·rename_i i hi;obtain⟨y',h1,rfl,rfl⟩:=jY h;cases hb:(i.elem.isSome && (Nat.beq n 0 && Nat.beq c' 0)) with
    | false=>rw[hb] at h1;cases h1
    | true=>
      rw[hb] at h1;change AH op p.isNone=some y' at h1;simp only[Bool.and_eq_true,Nat.beq_eq] at hb;obtain⟨hb,rfl,rfl⟩:=hb;obtain⟨⟨e,sz⟩,he⟩:=Option.isSome_iff_exists.1 hb;exact iD.val hr hd (Ku hop e1 e2 ((hC t i hi).isSlice e sz he).1 h1 w)
   ·cases h
  ·rename_i p q _ _ _ hp hq;obtain⟨y',h1,rfl,rfl⟩:=jY h;refine iD.val hr hd ?_;have:=Zy (P:=C.P) (t:=t) (x:=x) (y:=y) h1 w;unfold execOp;rw[hop];show (do pure (Next.value (<-(do eqGuard op t x y (a.eval x) (a.eval y);binOp op t (a.eval x) (a.eval y)))):Sem Next).run C.P w=_;rw[hr.pw hp,hr.pw hq,Sem.run_bind,this];rfl
  ·rename_i hp hq;have e2:=hr.pw hq
   split at h
   ·rename_i b off i hx hi;have e1:a.eval x=.pointer (some ⟨β b,off,none⟩):=hr.ev hx;obtain⟨y',h1,rfl,rfl⟩:=jY h;cases hb:i.ptr with
    | false=>rw[hb] at h1;cases h1
    | true=>
      rw[hb] at h1;change AH op false=some y' at h1;exact iD.val hr hd (zi hop e1 e2 ((hC t i hi).UE hb) h1 w)
   ·rename_i b off i hx hi;have e1:a.eval x=.pointer (some ⟨β b,off,none⟩):=hr.ev hx;obtain⟨y',h1,rfl,rfl⟩:=jY h;cases hb:i.ptr with
    | false=>rw[hb] at h1;cases h1
    | true=>
      rw[hb] at h1;change AH op false=some y' at h1;exact iD.val hr hd (zi hop e1 e2 ((hC t i hi).UE hb) h1 w)
   ·cases h
  ·rename_i n c' hp hq;have e2:=hr.pw hq
   split at h
   ·rename_i b off l c i hx hi;have e1:a.eval x=.slice (some ⟨β b,off,none⟩) l c:=hr.ev hx;obtain⟨y',h1,rfl,rfl⟩:=jY h;cases hb:(i.elem.isSome && (Nat.beq n 0 && Nat.beq c' 0)) with
    | false=>rw[hb] at h1;cases h1
    | true=>
      rw[hb] at h1;change AH op false=some y' at h1;simp only[Bool.and_eq_true,Nat.beq_eq] at hb;obtain⟨hb,rfl,rfl⟩:=hb;obtain⟨⟨e,sz⟩,he⟩:=Option.isSome_iff_exists.1 hb;exact iD.val hr hd (Ku hop e1 e2 ((hC t i hi).isSlice e sz he).1 h1 w)
   ·cases h
  ·cases h
 case unOp op t x=>
  cases op <;> simp only at h <;> try (exact (jw h).elim)
  ·split at h
   ·rename_i k n hx;cases h;exact iD.val hr hd (by simp[execOp,hop,hr.pw hx,Op.unary,Op.intArith])
   ·cases h
  ·split at h
   ·rename_i t ht;cases h;exact iD.val hr hd (by simp[execOp,hop,hr.pw ht,Op.unary])
   ·cases h
 case convert s t x=>
  split at h
  ·rename_i i' i k n hs hi hx
   split at h
   ·rename_i kd hk;cases h;obtain⟨d,hsd,_⟩:=(hC s i' hs).row;have hu:=(hC t i hi).isInt kd hk;refine iD.val hr hd ?_
    have:(convert s t (.int k n)).run C.P w=.ok (.int kd (kd.wrap n)) w:=by
     cases d <;> simp[convert,run_underlying hsd,run_underlying hu,Conv.intToInt]
    simp[execOp,hop,hr.pw hx,this]
   ·cases h
  ·cases h
 case fieldAddr t x k=>
  split at h
  ·rename_i b off i hx hi
   split at h
   ·rename_i p hp;cases h;have he:a.eval x=.pointer (some ⟨β b,off,none⟩):=hr.ev hx;exact iD.pure hr hd (λi' BO=>hr.gQ hx i' (by simpa [AV.ids] using BO)) (by simp[execOp,hop,he,(hC t i hi).Zv k p hp,AV.bU])
   ·cases h
  ·rename_i b off i hx hi
   split at h
   ·rename_i p hp;cases h;have he:a.eval x=.pointer (some ⟨β b,off,none⟩):=hr.ev hx;exact iD.pure hr hd (λi' BO=>hr.gQ hx i' (by simpa [AV.ids] using BO)) (by simp[execOp,hop,he,(hC t i hi).Zv k p hp,AV.bU])
   ·cases h
  ·rename_i b off i hx hi
   split at h
   ·rename_i p hp;cases h;have he:a.eval x=.pointer (some ⟨b,off,none⟩):=hr.ev hx;exact iD.val hr hd (by simp[execOp,hop,he,(hC t i hi).Zv k p hp])
   ·cases h
  ·cases h
 case nilCheck x=>
  split at h
  ·rename_i b off hx;cases h;have he:a.eval x=.pointer (some ⟨β b,off,none⟩):=hr.ev hx;exact iD.pure hr hd (λi' BO=>hr.gQ hx i' (by simpa [AV.ids] using BO)) (by simp[execOp,hop,he,AV.bU])
  ·rename_i b off hx;cases h;have he:a.eval x=.pointer (some ⟨β b,off,none⟩):=hr.ev hx;exact iD.pure hr hd (λi' BO=>hr.gQ hx i' (by simpa [AV.ids] using BO)) (by simp[execOp,hop,he,AV.bU])
  ·rename_i b hx;cases h;have he:a.eval x=.pointer (some b):=hr.ev hx;exact iD.val hr hd (by simp[execOp,hop,he])
  ·cases h
 case field t x k=>
  split at h
  ·rename_i cs i hx hi;obtain⟨rfl,_⟩:=qP h;have he:a.eval x=.agg cs:=hr.ev hx;refine iD.pure hr hd (λj hj=> ?_) ?_
   ·have:=AK h j hj;rw[aw] at this;cases this
   ·have:=Kv (β:=β) hC hi h w;rw[ak] at this;simp[execOp,hop,he,this]
  ·rename_i l i hx hi;obtain⟨rfl,_⟩:=qP h;have he:a.eval x=.agg (l.map (AV.leaf β)).toArray:=hr.ev hx;refine iD.pure hr hd (λj hj=>hr.gQ hx j (AK h j hj)) ?_;have:=Kv (β:=β) hC hi h w;simp[execOp,hop,he,this]
  ·cases h
 case extract x k=>
  split at h
  ·rename_i vs hx;obtain⟨y,h1,rfl,rfl⟩:=jY h;rw[Fz] at h1;have h1:vs[k]? =some y:=by simpa using h1
   have he:a.eval x=.tuple vs:=hr.ev hx;exact iD.val hr hd (by simp[execOp,hop,he,Instr.extract,h1])
  ·rename_i l hx
   split at h
   ·rename_i y hy;cases hn:jX y with
    | false=>rw[hn] at h;cases h
    | true=>
      rw[hn] at h;cases h;rw[Fz] at hy;have he:a.eval x=.tuple (l.map (AV.pT β)).toArray:=hr.ev hx;refine iD.pure hr hd (λj hj=>hr.gQ hx j (uF.2 ⟨v,cX hy,by rw[zg hn];exact hj⟩)) ?_;rw[<-wT hn];simp[execOp,hop,he,Instr.extract,hy]
   ·cases h
  ·cases h
 case call c=>
  split at h
  ·rename_i jG
   split at h
   ·rename_i x t hx ht;have e1:c.args=#[x]:=vu.1 hx;have e2:c.argTypes=#[t]:=vu.1 ht
    split at h
    ·rename_i p n k i hv hi
     split at h
     ·rename_i sz hz;cases h;obtain⟨he,_⟩:=(hC t i hi).isSlice sz.1 sz.2 hz;have e3:a.eval x=.slice p n k:=hr.ev hv;exact iD.val hr hd (by simp[execOp,hop,resolve,jG,invoke,builtin,Builtin.len_,e1,e2,e3,run_underlying he,goInt])
     ·cases h
    ·rename_i b o n k i hv hi
     split at h
     ·rename_i sz hz;cases h;obtain⟨he,_⟩:=(hC t i hi).isSlice sz.1 sz.2 hz;have e3:a.eval x=.slice (some ⟨β b,o,none⟩) n k:=hr.ev hv;exact iD.val hr hd (by simp[execOp,hop,resolve,jG,invoke,builtin,Builtin.len_,e1,e2,e3,run_underlying he,goInt])
     ·cases h
    ·cases h
   ·cases h
  ·rename_i jG
   split at h
   ·rename_i k x r hx;cases h;obtain⟨vs,hvs,hxs⟩:=Option.bind_eq_some_iff.1 hx;have e1:=hr.evs hvs;cases vs with
    | nil=>cases hxs
    | cons y l=>
      obtain⟨x',r',he,rfl,hrun⟩:=Po (P:=C.P) (λx y=>if y>x then y else x) Builtin.max2 (λk a b w=>aa) l y hxs;cases he
      have hm:∀ (r:List Int) (x:Int),wR x r=r.foldl (λx y=>if y>x then y else x) x:=λr=>by
       induction r with
       | nil=>intro x;rfl
       | cons z r ih=>intro x;rw[wR,ih];rfl
      refine iD.val hr hd ?_;have e5:(c.args.map a.eval).toList=.int k x::l:=by rw[vw,e1]
      have e6:(Builtin.max_ c.argTypes o.type (c.args.map a.eval)).run C.P w=.ok (.int k (wR x r)) w:=by
       unfold Builtin.max_;rw[e5];show (l.foldlM Builtin.max2 (.int k x)).run C.P w=_;rw[hrun,hm]
      unfold execOp;rw[hop];simp only[resolve,jG,invoke,builtin,Sem.run_bind,Sem.run_pure,Result.andThen_ok,e6]
   ·cases h
  ·rename_i jG
   split at h
   ·rename_i k x r hx;cases h;obtain⟨vs,hvs,hxs⟩:=Option.bind_eq_some_iff.1 hx;have e1:=hr.evs hvs;cases vs with
    | nil=>cases hxs
    | cons y l=>
      obtain⟨x',r',he,rfl,hrun⟩:=Po (P:=C.P) (λx y=>if y<x then y else x) Builtin.min2 (λk a b w=>aa) l y hxs;cases he
      have hm:∀ (r:List Int) (x:Int),Zw x r=r.foldl (λx y=>if y<x then y else x) x:=λr=>by
       induction r with
       | nil=>intro x;rfl
       | cons z r ih=>intro x;rw[Zw,ih];rfl
      refine iD.val hr hd ?_;have e5:(c.args.map a.eval).toList=.int k x::l:=by rw[vw,e1]
      have e6:(Builtin.min_ c.argTypes o.type (c.args.map a.eval)).run C.P w=.ok (.int k (Zw x r)) w:=by
       unfold Builtin.min_;rw[e5];show (l.foldlM Builtin.min2 (.int k x)).run C.P w=_;rw[hrun,hm]
      unfold execOp;rw[hop];simp only[resolve,jG,invoke,builtin,Sem.run_bind,Sem.run_pure,Result.andThen_ok,e6]
   ·cases h
  ·split at h
   ·rw[eD] at h;cases h
   ·cases h
  ·exact (jw h).elim
 case makeFunc fn first cap=>
  cases fn <;> simp only at h <;> try (exact (jw h).elim)
  split at h
  ·rename_i l hl hm;cases h;have e1:=hr.evs hl;have e2:=hr.Dm hm;have e3:first.map a.eval=l.toArray:=vu.1 (by rw[vw,e1]);have e4:cap.map a.eval=#[]:=vu.1 (by rw[vw,e2];rfl);exact iD.val hr hd (by simp[execOp,hop,Instr.makeFunc,e3,e4])
  ·rename_i l m hne hl hm
   split at h
   ·rename_i bs Ft;cases h;have e1:=hr.evs hl;have e2:=hr.Dm hm;have e3:first.map a.eval=l.toArray:=vu.1 (by rw[vw,e1]);have hb:=GW Ft;have e4:cap.map a.eval=(bs.map λp=>Value.pointer (some ⟨β p.1,p.2,none⟩)).toArray:=vu.1 (by rw[vw,e2,hb,yC];rfl)
    exact iD.pure hr hd (λi hi=>by
     obtain⟨p,hp,rfl⟩:=fv.1 (show i∈bs.map (·.1) from hi);exact hr.closed.Dm hm (.box p.1 p.2) (by rw[hb];exact fv.2 ⟨p,hp,aa⟩) p.1 (by simp[AV.ids])) (by simp[execOp,hop,Instr.makeFunc,e3,e4,AV.bU])
   ·cases h
  ·cases h
 case buildSlice t n ps=>
  revert h
  cases LQ:C.SU t <;> intro h
  ·rw[cond_false] at h
   split at h
   ·rename_i d i l lV hi hl
    split at h
    ·rename_i e sz hz
     split at h
     ·rename_i ie cs Nw hcs;cases hq:Nat.beq ps.size n && Nat.ble (n*sz) 16777216 with
      | false=>rw[hq] at h;cases h
      | true=>
        rw[hq] at h;rw[gf] at hq;have q1:=qC hq.1;have q2:=bM hq.2;obtain⟨h1,h2,h3,rfl,rfl⟩:=Ks h;rw[lV] at hd;have hlt:d<C.N:=by simpa [oJ,Nat.blt_eq] using hd
        obtain⟨dA,he,ry⟩:=hr.make hlt h1 h2 h3 (λj hj=>by
         obtain⟨p,hp,hpj⟩:=Pn _ _ hcs j hj;exact hr.closed.LK hl p hp j hpj)
        refine⟨dA,_,bQ.alloc _ _,ry.put (by rw[lV];exact hd) (FA aa),.inl ?_⟩;have wh:(AV.row d 0 n n).bU dA=.slice (some ⟨w.heap.size,0,none⟩) n n:=by show Value.slice (some ⟨dA d,0,none⟩) n n=_;rw[he]
        rw[wh];obtain⟨hu,hsz⟩:=(hC t i hi).isSlice e sz hz;have Zi:=hr.LK hl
        have hlen:l.length=n:=by
         have:=au List.length Zi;simp at this;omega
        have Pp:∀ A:Array Value,A.size=n*sz->Instr.fill (λi=>some (i*sz,sz)) A (l.map λp=>(p.1,p.2.bU β))=some (cs.map (AV.leaf β)).toArray:=λA hA=>by
         have:=Ce (β:=β) (sz:=sz) l 0 [] A.toList hcs bN (by rw[Ge,hA,hlen]);simpa using this
        have pX:=(hC e ie Nw).zero;simp only[execOp,hop,Instr.buildSlice,Sem.run_bind,run_underlying hu,Result.andThen_ok,hsz];rw[if_neg ab];have e5:(ps.map λx=>(x.1,a.eval x.2)).toList=l.map λp=>(p.1,p.2.bU β):=by rw[vw,Zi]
        by_cases hn:n*sz=0
        ·simp only[if_pos hn,Sem.run_bind,Sem.run_pure,Result.andThen_ok];rw[e5,Pp _ bN];simp[newRow]
        ·simp only[if_neg hn,Sem.run_bind,Sem.run_pure,Result.andThen_ok,pX];rw[e5,Pp _ bN];simp[newRow]
     ·cases h
    ·cases h
   ·cases h
  ·exact (jw h).elim
 case indexAddr t x ix=>
  split at h
  ·split at h <;> cases h
  ·split at h <;> cases h
  ·cases h
 case makeSlice t l c=>
  split at h
  ·split at h
   ·split at h
    ·revert h
     generalize (!_ && _)=q;cases q <;> intro h <;> cases h
    ·cases h
   ·cases h
  ·cases h
 case slice t x lo hi mx=>
  cases mx <;> simp only at h <;> try (exact (jw h).elim)
  split at h
  ·split at h <;> cases h
  ·split at h <;> cases h
  ·cases h
end
section
variable {C:Cx} {β:Nat->Nat} {F:Fr} {H:Hp} {a:Act} {w w':World} {full:Array Oper} {o:Oper} {Q:Exit->Act->World->Prop}
theorem oN (hr:Rel C β F H a w) {b:Bool} (h:wants full F o=some b):Region.wanted o (yielded full a.tmps)=b:=by
 unfold wants at h;unfold Region.wanted
 split at h
 ·rename_i hg;rw[hg];cases h;rfl
 ·rename_i g want hg;rw[hg]
  split at h
  ·cases h
  ·rename_i d hd
   split at h
   ·rename_i c hc;cases h;have:=hr.tmp d _ hc
    have h2:a.tmps[d]? =some (.bool c):=by
     rw[gl] at this;cases he:a.tmps[d]? with
     | none=>rw[he] at this;simp[undef,AV.bU] at this
     | some z=>rw[he] at this;simpa [AV.bU] using this
    simp only[yielded,hd,Option.bind_some,h2];cases c <;> cases want <;> rfl
   ·rename_i vs hc;cases h;have:=hr.tmp d _ hc;simp only[yielded,hd,Option.bind_some];rw[gl] at this;cases he:a.tmps[d]? with
    | none=>rfl
    | some z=>
      rw[he] at this;simp[AV.bU] at this;subst this;rfl
   ·cases h
def Plain (s:Step):Prop:=s=.bad\/∃ v u,s=.iA v u
theorem Plain.bad:Plain .bad:=.inl rfl
theorem Plain.iA (v:AV) (u:Option (Nat×(TypeId×List AV))):Plain (.iA v u):=.inr ⟨v,u,rfl⟩
theorem Plain.Jl (x:Option AV):Plain (Proofs.YtabalinjfgcfeaaGreat.Jl x):=by cases x <;> first|exact .bad|exact .iA _ _
theorem Plain.AJ (x:Option Value):Plain (Proofs.YtabalinjfgcfeaaGreat.AJ x):=by cases x <;> first|exact .bad|exact .iA _ _
theorem Plain.GP (i:TI) (cs:List AV) (off:Nat):Plain (Proofs.YtabalinjfgcfeaaGreat.GP i cs off):=by
 unfold Proofs.YtabalinjfgcfeaaGreat.GP;rw[eD];cases Nat.ble (off+i.size) cs.length
 ·exact .bad
 ·cases i.agg
  ·show Plain (match (cs.drop off).take i.size with|x::_=>.iA x none|[]=>.bad)
   split <;> first|exact .bad|exact .iA _ _
  ·rw[cond_true,cond_true,sa];exact .iA _ _
theorem Plain.qO (i:TI) (b:Nat) (t:TypeId) (cs:List AV) (off:Nat) (v:AV):Plain (Proofs.YtabalinjfgcfeaaGreat.qO i b t cs off v):=by
 unfold Proofs.YtabalinjfgcfeaaGreat.qO;rw[eD];cases (Nat.ble (off+i.size) cs.length && Nat.beq (cellsOf v).length i.size && (cellsOf v).all aY) <;> first|exact .bad|exact .iA _ _
theorem Plain.wH (K:KC) (d:Nat) (t:TypeId) (cs:List AV) (h:Option (TypeId×List AV)):Plain (Proofs.YtabalinjfgcfeaaGreat.wH K d t cs h):=by
 unfold Proofs.YtabalinjfgcfeaaGreat.wH;cases h with
 | some _=>exact .bad
 | none=>dsimp only;rw[eD];cases (!K.fz t && cs.all aY) <;> first|exact .bad|exact .iA _ _
theorem Plain.Dp (K:KC) (d:Nat) (e:TypeId) (n:Nat) (cs:List AV) (h:Option (TypeId×List AV)):Plain (Proofs.YtabalinjfgcfeaaGreat.Dp K d e n cs h):=by
 unfold Proofs.YtabalinjfgcfeaaGreat.Dp;cases h with
 | some _=>exact .bad
 | none=>dsimp only;rw[eD];cases (!K.fz e && cs.all aY) <;> first|exact .bad|exact .iA _ _
theorem Plain.sQ (i:TI) (cs:List AV) (k:Nat):Plain (Proofs.YtabalinjfgcfeaaGreat.sQ i cs k):=by
 unfold Proofs.YtabalinjfgcfeaaGreat.sQ
 split
 ·rw[eD,sa];exact .iA _ _
 ·split
  ·rename_i x _;cases qN x <;> first|exact .bad|exact .iA _ _
  ·exact .bad
 ·exact .bad
theorem Plain.no_read {s:Step} (h:Plain s) {i:TI} {x:Addr} (e:s=.read i x):False:=by rcases h with h|⟨v,u,h⟩ <;> rw[h] at e <;> cases e
variable {cs:List AV}
theorem Plain.no_peek {s:Step} (h:Plain s) {i:TI} {x:Nat} (e:s=.dY i cs x):False:=by rcases h with h|⟨v,u,h⟩ <;> rw[h] at e <;> cases e
variable {u:Option (Nat×(TypeId×List AV))} {φ:Prop}
theorem Plain.UK {s:Step} (h:Plain s) {v:AV} (e:s=.cond φ v u):False:=by rcases h with h|⟨v,u,h⟩ <;> rw[h] at e <;> cases e
variable {d:kH}
theorem Plain.UL {s:Step} (h:Plain s) (e:s=.call d):False:=by rcases h with h|⟨v,u,h⟩ <;> rw[h] at e <;> cases e
inductive Kind (C:Cx) (F:Fr) (H:Hp) (o:Oper):Step->Prop
 | plain {s:Step}:Plain s->Kind C F H o s
 | read {t:TypeId} {y:Operand} {i:TI} {x:Addr}:o.op=.load t y->C.ti t=some i->ev F y=some (.val (.pointer (some x)))->Kind C F H o (.read i x)
 | dY {t:TypeId} {y:Operand} {i:TI} {b off:Nat} {tb:TypeId} {cs:List AV}:o.op=.load t y->C.ti t=some i->ev F y=some (.rz b off)->H b=some (tb,cs)->Kind C F H o (.dY i cs off)
 | store {t:TypeId} {x y:Operand} {φ:Prop} {v:AV} {u:Option (Nat×(TypeId×List AV))}:o.op=.store t x y->Kind C F H o (.cond φ v u)
 | index {t:TypeId} {x y:Operand} {φ:Prop} {v:AV}:o.op=.indexAddr t x y->Kind C F H o (.cond φ v none)
 | slice {t:TypeId} {x:Operand} {lo hi:Option Operand} {φ:Prop} {v:AV}:o.op=.slice t x lo hi none->Kind C F H o (.cond φ v none)
 | make {t:TypeId} {l c:Operand} {φ:Prop} {v:AV} {d:Nat} {q:TypeId×List AV}:o.op=.makeSlice t l c->o.dst=some d->H d=none->Kind C F H o (.cond φ v (some (d,q)))
 | fn {c:Call} {f:Operand} {g:FuncId} {first l cap:List AV}:o.op=.call c->c.callee=.value f->UF F f=some (g,first,cap)->Dm F c.args.toList=some l->Kind C F H o (.call (.fn g (first++(l++cap))))
 | raw {vs:List AV}:Dm F o.op.operands.toList=some vs->((∃ t n ps,o.op=.buildSlice t n ps/\C.SU t=true)\/∀ su l,3<=aC su l o)->Kind C F H o (.call (.op o vs))
theorem Kind.bad:Kind C F H o .bad:=.plain .bad
theorem Kind.iA (v:AV) (u:Option (Nat×(TypeId×List AV))):Kind C F H o (.iA v u):=.plain (.iA v u)
theorem Kind.wQ (h:(∃ t n ps,o.op=.buildSlice t n ps/\C.SU t=true)\/∀ su l,3<=aC su l o):Kind C F H o (Proofs.YtabalinjfgcfeaaGreat.wQ F o):=by
 unfold Proofs.YtabalinjfgcfeaaGreat.wQ
 split
 ·rename_i vs hv;exact .raw hv h
 ·exact .bad
theorem wW:Kind C F H o (act C F H o):=by
 unfold act;cases hop:o.op
 case load t y=>
  simp only
  split
  ·split
   ·exact .plain (.GP _ _ _)
   ·exact .bad
  ·rename_i b off i hx hi
   split
   ·rename_i tb cs hb;exact .dY hop hi hx hb
   ·exact .bad
  ·rename_i x i hx hi;exact .read hop hi hx
  ·exact .bad
 case indexAddr t x ix=>
  simp only
  split
  ·split
   ·exact .index hop
   ·exact .bad
  ·split
   ·exact .index hop
   ·exact .bad
  ·exact .bad
 case store t x y=>
  simp only
  split
  ·split
   ·exact .plain (.qO _ _ _ _ _ _)
   ·exact .bad
  ·split
   ·rename_i tb cs hb;unfold Ko;generalize (_ && _)=q;cases q
    ·exact .bad
    ·exact .store hop
   ·exact .bad
  ·exact .bad
 case slice t x lo hi mx=>
  cases mx with
  | some m=>exact .wQ (.inr λsu l=>by unfold aC;rw[hop];exact bM aa)
  | none=>
    simp only
    split
    ·split
     ·exact .slice hop
     ·exact .bad
    ·split
     ·exact .slice hop
     ·exact .bad
    ·exact .bad
 case makeSlice t l c=>
  simp only
  split
  ·rename_i d i k n k' m lV hi hl hc
   split
   ·split
    ·rename_i ie Nw h0;generalize (_ && _)=q;cases q
     ·exact .bad
     ·exact .make hop lV h0
    ·exact .bad
   ·exact .bad
  ·exact .bad
 case call c=>
  simp only
  split
  ·split
   ·split
    ·split <;> first|exact .iA _ _|exact .bad
    ·split <;> first|exact .iA _ _|exact .bad
    ·exact .bad
   ·exact .bad
  ·split <;> first|exact .iA _ _|exact .bad
  ·split <;> first|exact .iA _ _|exact .bad
  ·rename_i f jG
   split
   ·rename_i g first cap l hf hl
    rw[eD];exact .fn hop jG hf hl
   ·exact .bad
  ·rename_i h1 h2 h3 h4;refine .wQ (.inr λsu l=> ?_);unfold aC;rw[hop];simp only
   split
   ·rename_i e;exact absurd e h1
   ·rename_i e;exact absurd e h2
   ·rename_i e;exact absurd e h3
   ·exact bL _
   ·rename_i e;exact absurd e (h4 _)
   ·omega
 case move=>exact .plain (.Jl _)
 case assign=>exact .plain (.Jl _)
 case pick=>simp only;split <;> first|exact .plain (.Jl _)|exact .bad
 case unOp op _ _=>
  cases op <;> simp only <;> first
   | exact .wQ (.inr λsu l=>by unfold aC;rw[hop];exact bM aa)
   | (split <;> first|exact .iA _ _|exact .bad)
 case binOp=>simp only;split <;> first|exact .plain (.AJ _)|exact .bad|(split <;> first|exact .plain (.AJ _)|exact .bad)
 case convert=>simp only;split <;> first|exact .bad|(split <;> first|exact .iA _ _|exact .bad)
 case extract=>
  simp only
  split
  ·exact .plain (.AJ _)
  ·split
   ·rename_i x _;cases jX x <;> first|exact .bad|exact .iA _ _
   ·exact .bad
  ·exact .bad
 case field=>simp only;split <;> first|exact .plain (.sQ _ _ _)|exact .bad
 case nilCheck=>simp only;split <;> first|exact .bad|exact .iA _ _
 case fieldAddr=>simp only;split <;> first|exact .bad|(split <;> first|exact .bad|exact .iA _ _)
 case build=>simp only;split <;> first|exact .bad|(split <;> first|exact .bad|(rw[eD,sa];exact .iA _ _))
 case alloc=>simp only;split <;> first|exact .bad|exact .plain (.wH _ _ _ _ _)
 case box=>simp only;split <;> first|exact .bad|exact .plain (.wH _ _ _ _ _)
 case makeFunc fn _ _=>
  cases fn <;> simp only <;> first
   | exact .wQ (.inr λsu l=>by unfold aC;rw[hop];exact bM aa)
   | (split <;> first|exact .iA _ _|exact .bad|(split <;> first|exact .iA _ _|exact .bad))
 case buildSlice t n ps=>
  simp only;cases LQ:C.SU t
  ·rw[cond_false]
   split
   ·split
    ·split
     ·cases (Nat.beq _ _ && Nat.ble _ _)
      ·exact .bad
      ·exact .plain (.Dp _ _ _ _ _ _)
     ·exact .bad
    ·exact .bad
   ·exact .bad
  ·exact .wQ (.inl ⟨t,n,ps,hop,LQ⟩)
 all_goals exact .wQ (.inr λsu l=>by unfold aC;rw[hop];exact bM aa)
theorem Zz {i:TI} {x:Addr} (h:act C F H o=.read i x):∃ t y,o.op=.load t y/\C.ti t=some i/\ev F y=some (.val (.pointer (some x))):=by
 have k:=wW (C:=C) (F:=F) (H:=H) (o:=o);rw[h] at k;cases k with
 | plain p=>exact (p.no_read aa).elim
 | read h1 h2 h3=>exact⟨_,_,h1,h2,h3⟩
theorem Pq {i:TI} {off:Nat} (h:act C F H o=.dY i cs off):∃ t y b tb,o.op=.load t y/\C.ti t=some i/\ev F y=some (.rz b off)/\H b=some (tb,cs):=by
 have k:=wW (C:=C) (F:=F) (H:=H) (o:=o);rw[h] at k;cases k with
 | plain p=>exact (p.no_peek aa).elim
 | dY h1 h2 h3 h4=>exact⟨_,_,_,_,h1,h2,h3,h4⟩
theorem AO (h:act C F H o=.call d):(∃ c f g first l cap,o.op=.call c/\c.callee=.value f/\UF F f=some (g,first,cap)/\Dm F c.args.toList=some l/\d=.fn g (first++(l++cap)))\/
  (∃ vs,Dm F o.op.operands.toList=some vs/\d=.op o vs/\((∃ t n ps,o.op=.buildSlice t n ps/\C.SU t=true)\/∀ su l,3<=aC su l o)):=by
 have k:=wW (C:=C) (F:=F) (H:=H) (o:=o);rw[h] at k;cases k with
 | plain p=>exact (p.UL aa).elim
 | fn h1 h2 h3 h4=>exact .inl ⟨_,_,_,_,_,_,h1,h2,h3,h4,aa⟩
 | raw h1 h2=>exact .inr ⟨_,h1,aa,h2⟩
theorem Dq (β:Nat->Nat) (z:List Value):∀ n,(pD n (z.map .val)).map (AV.leaf β)=(List.range (n*z.length)).map λi=>z.getD (i%z.length) undef
 | 0=>by simp[pD]
 | n+1=>by
   rw[pD,bC,ak,Dq β z n];rw[Nat.succ_mul,Af,List.range_add,bC,yC]
   congr 1
   ·apply List.ext_getElem
    ·simp
    ·intro i h1 h2;simp only[List.getElem_map,List.getElem_range];rw[Ac h1,rJ,ba h1];rfl
   ·apply yw;intro i _;simp
theorem Kw {z:List AV} (h:z.all aY=true):∀ n,(pD n z).all aY=true
 | 0=>rfl
 | n+1=>by rw[pD,ja,h,Kw h n];rfl
theorem GX {z:List AV} (h:aI z=[]):∀ n,aI (pD n z)=[]
 | 0=>rfl
 | n+1=>by rw[pD,ey,h,GX h n];rfl
theorem bP {z:List Value} (h:z.all bD=true):(z.map AV.val).all aY=true:=bR.2 λx hx=>by
 obtain⟨y,hy,rfl⟩:=fv.1 hx;exact bR.1 h y hy
theorem FD (hr:Rel C β F H a w) {x:Option Operand} {k:Option Int} (h:evo F x=some k):(k=none/\x.map a.eval=none)\/∃ kd n,k=some n/\x.map a.eval=some (.int kd n):=by
 cases x with
 | none=>cases h;exact .inl ⟨aa,aa⟩
 | some y=>
   unfold evo at h;simp only at h
   split at h
   ·rename_i kd n hn;cases h;exact .inr ⟨kd,n,aa,by rw[Option.map_some,hr.pw hn]⟩
   ·cases h
variable {P:Program} {t:TypeId}
theorem Ky {e:TypeId} {sz:Nat} (hu:P.underlying t=some (.slice e)) (hsz:∀ w,(sizeOf e).run P w=.ok sz w) {p:Option Addr} {n c:Nat} {lo hi:Option Value} {l h:Option Int}
  (hl:(l=none/\lo=none)\/∃ kd k,l=some k/\lo=some (.int kd k)) (hh:(h=none/\hi=none)\/∃ kd k,h=some k/\hi=some (.int kd k))
  (h0:0<=l.getD 0) (h1:l.getD 0<=h.getD (n:Int)) (h2:h.getD (n:Int)<=(c:Int)) (w:World):
  (Instr.sliceAt t (.slice p n c) lo hi none).run P w=.ok (.slice (if c=(l.getD 0).toNat then p else p.map (·.add ((l.getD 0).toNat*sz))) ((h.getD (n:Int)).toNat-(l.getD 0).toNat) (c-(l.getD 0).toNat)) w:=by
 have hb:(Instr.sliceBounds true n c lo hi none).run P w=.ok ((l.getD 0).toNat,(h.getD (n:Int)).toNat,c) w:=by
  unfold Instr.sliceBounds;rcases hh with ⟨rfl,rfl⟩|⟨kd,k,rfl,rfl⟩ <;> rcases hl with ⟨rfl,rfl⟩|⟨kl,j,rfl,rfl⟩
  ·simp
  ·simp only[Option.getD_some,Option.getD_none] at h0 h1 h2 ⊢;simp[run_sliceBound w kl j n .sliceB h0 h1]
  ·simp only[Option.getD_some,Option.getD_none] at h0 h1 h2 ⊢;simp[run_sliceBound w kd k c .sliceAcap ab h2]
  ·simp only[Option.getD_some] at h0 h1 h2 ⊢;have:(j:Int)<=(k.toNat:Int):=ab;simp[run_sliceBound w kd k c .sliceAcap ab h2,run_sliceBound w kl j k.toNat .sliceB h0 this]
 have h3:(Instr.slice t (.slice p n c) lo hi none).run P w=.ok (.slice (if c=(l.getD 0).toNat then p else p.map (·.add ((l.getD 0).toNat*sz))) ((h.getD (n:Int)).toNat-(l.getD 0).toNat) (c-(l.getD 0).toNat)) w:=by
  unfold Instr.slice;simp only[Sem.run_bind,run_underlying hu,Result.andThen_ok,hb,hsz,Sem.run_pure]
 unfold Instr.sliceAt;simp only[Sem.run_bind,run_underlying hu,Result.andThen_ok];exact h3
theorem Pr (hC:C.Ok) {o:Oper} {v:AV} (h:act C F H o=.cond φ v u) (Sk:φ) (hd:oJ C.N o.dst=true) (hr:Rel C β F H a w):iD C F H o a w v u:=by
 have hkind:(∃ t x y,o.op=.store t x y)\/(∃ t x y,o.op=.indexAddr t x y)\/(∃ t x lo hi,o.op=.slice t x lo hi none)\/∃ t l c,o.op=.makeSlice t l c:=by
  have k:=wW (C:=C) (F:=F) (H:=H) (o:=o);rw[h] at k;cases k with
  | plain p=>exact (p.UK aa).elim
  | store e=>exact .inl ⟨_,_,_,e⟩
  | index e=>exact .inr (.inl ⟨_,_,_,e⟩)
  | slice e=>exact .inr (.inr (.inl ⟨_,_,_,_,e⟩))
  | make e=>exact .inr (.inr (.inr ⟨_,_,_,e⟩))
 unfold act at h;rcases hkind with ⟨t,x,y,hop⟩|⟨t,x,y,hop⟩|⟨t,x,lo,hi,hop⟩|⟨t,l,c,hop⟩ <;> rw[hop] at h <;> simp only at h
 ·
  split at h
  ·split at h
   ·unfold qO at h
    revert h
    generalize (_ && _)=q;cases q <;> intro h
    ·cases h
    ·rw[cond_true,eD] at h;cases h
   ·cases h
  ·rename_i b off y' i hx hv hi
   split at h
   ·rename_i tb cs hb;obtain⟨rfl,h2,h3,rfl,rfl⟩:=WM h;have he:a.eval x=.pointer (some ⟨β b,off,none⟩):=hr.ev hx;have hy:=hr.ev hv;obtain⟨k1,k2⟩:=hr.stored hb (by rw[h2];exact Sk) h3 (λj hj=>hr.gQ hv j (oM (UI h3) hj));rw[h2] at k2;refine⟨β,_,k1,k2.put hd (λ_ hi=>by cases hi),.inr ⟨?_,aa⟩⟩;have:=AM hC hr hi hb Sk h2 h3;simp[execOp,hop,he,hy,this]
   ·cases h
  ·cases h
 ·
  split at h
  ·rename_i b off n c kd k i hx hix hi
   split at h
   ·rename_i e sz hz;cases h;obtain⟨he,hsz⟩:=(hC t i hi).isSlice e sz hz;have hxe:a.eval x=.slice (some ⟨b,off,none⟩) n c:=hr.ev hx;refine iD.val hr hd ?_;simp[execOp,hop,hxe,hr.pw hix,Instr.indexAt,asIntOf,run_underlying he,hsz,Sk,Addr.add_mid]
   ·cases h
  ·rename_i b off n c kd k i hx hix hi
   split at h
   ·rename_i e sz hz;cases h;obtain⟨he,hsz⟩:=(hC t i hi).isSlice e sz hz;have hxe:a.eval x=.slice (some ⟨β b,off,none⟩) n c:=hr.ev hx;refine iD.pure hr hd (λj hj=>hr.gQ hx j (by simpa [AV.ids] using hj)) ?_;simp[execOp,hop,hxe,hr.pw hix,Instr.indexAt,asIntOf,run_underlying he,hsz,Sk,Addr.add_mid,AV.bU]
   ·cases h
  ·cases h
 ·
  split at h
  ·rename_i b off n c i l hh hx hi hl hhh
   split at h
   ·rename_i e sz hz;cases h;obtain⟨he,hsz⟩:=(hC t i hi).isSlice e sz hz;have hxe:a.eval x=.slice (some ⟨β b,off,none⟩) n c:=hr.ev hx;refine iD.pure hr hd (λj hj=>hr.gQ hx j (by simpa [AV.ids] using hj)) ?_;have:=Ky (P:=C.P) he hsz (p:=some ⟨β b,off,none⟩) (FD hr hl) (FD hr hhh) Sk.1 Sk.2.1 Sk.2.2.1 w
    have e4:(if c=(l.getD 0).toNat then some (⟨β b,off,none⟩:Addr) else (some (⟨β b,off,none⟩:Addr)).map (·.add ((l.getD 0).toNat*sz)))=some ⟨β b,if c=(l.getD 0).toNat then off else off+(l.getD 0).toNat*sz,none⟩:=by
     split
     ·rfl
     ·rw[Option.map_some,ju]
    rw[e4] at this;simp[execOp,hop,hxe,this,AV.bU]
   ·cases h
  ·rename_i p n c i l hh hx hi hl hhh
   split at h
   ·rename_i e sz hz;cases h;obtain⟨he,hsz⟩:=(hC t i hi).isSlice e sz hz;have hxe:a.eval x=.slice p n c:=hr.ev hx;have:=Ky (P:=C.P) he hsz (p:=p) (FD hr hl) (FD hr hhh) Sk.1 Sk.2.1 Sk.2.2.1 w;exact iD.val hr hd (by simp[execOp,hop,hxe,this])
   ·cases h
  ·cases h
 ·
  split at h
  ·rename_i d i k n k' m lV hi hl hc
   split at h
   ·rename_i e sz hz
    split at h
    ·rename_i ie Nw h0;cases hq: !C.K.fz e && ie.zero.cells.toList.all bD with
     | false=>rw[hq] at h;cases h
     | true=>
       rw[hq] at h;cases h;rw[gf] at hq;obtain⟨rfl,hn,hb⟩:=Sk;obtain⟨hu,hsz⟩:=(hC t i hi).isSlice e sz hz;rw[lV] at hd;have hlt:d<C.N:=by simpa [oJ,Nat.blt_eq] using hd
       have hne:C.K.fz e=false:=by simpa using hq.1
       have WN:=hC e ie Nw;have ZA:=WN.size;cases zj:C.P.info? e with
       | none=>rw[zj] at ZA;simp at ZA
       | some ti=>
         rw[zj] at ZA;simp only[Option.map_some,Option.some.injEq] at ZA;obtain⟨n',rfl⟩:∃ n':Nat,n=(n':Int):=⟨n.toNat,ab⟩;have WO:ti.bytes<=24*ie.size:=bM (by have:=WN.bytes;rw[zj] at this;simpa using this);have hps:=WN.pos
         have hle:n'<=140737488355328:=by
          have:(n':Int)*24<=n' *(24*(ie.size:Int)):=Int.mul_le_mul_of_nonneg_left ab ab;omega
         have RI:(ti.bytes:Int)*(n':Int)<=281474976710656:=by
          have:(ti.bytes:Int)*(n':Int)<=(24*(ie.size:Int))*n':=Int.mul_le_mul_of_nonneg_right ab ab;rw[Int.mul_comm] at hb;omega
         have hrun:=run_make (P:=C.P) w t e ti ie.zero hu zj (by have:=WN.Kl;rw[zj] at this;simpa using this) k k' (n':Int) (n':Int) ab (Int.le_refl _) RI ab
         have hcs:madeCells ie.zero.cells ((n':Int).toNat*ti.size)=((pD (n':Int).toNat (ie.zero.cells.toList.map .val)).map (AV.leaf β)).toArray:=by
          rw[Dq,ZA,<-WN.GN];have hzp:0<ie.zero.cells.size:=by rw[WN.GN];exact hps
          apply vu.1;show ((Array.range _).map _).toList=(((List.range _).map _).toArray).toList;rw[vw,Array.toList_range];rw[Ge];refine yw λq _=> ?_;have hlt:=gC q hzp;rw[rJ,Array.getElem?_toList,mH hlt];simp[hlt]
         obtain⟨dA,he,ry⟩:=hr.make hlt h0 hne (Kw (bP hq.2) (n':Int).toNat) (by rw[GX (aw _)];intro j hj;cases hj);refine⟨dA,_,bQ.alloc _ _,ry.put (by rw[lV];exact hd) (FA aa),.inl ?_⟩;have wh:(AV.row d 0 (n':Int).toNat (n':Int).toNat).bU dA=.slice (some ⟨w.heap.size,0,none⟩) (n':Int).toNat (n':Int).toNat:=by show Value.slice (some ⟨dA d,0,none⟩) _ _=_;rw[he]
         rw[wh];rw[hcs] at hrun;simp only[execOp,hop,hr.pw hl,hr.pw hc,Sem.run_bind,hrun,Result.andThen_ok,Sem.run_pure]
    ·cases h
   ·cases h
  ·cases h
variable {g:FuncId} {first cap:List AV}
theorem Rel.UF (hr:Rel C β F H a w) {x:Operand} (h:Proofs.YtabalinjfgcfeaaGreat.UF F x=some (g,first,cap)):a.eval x=.func (.func g) (first.map (AV.bU β)).toArray (cap.map (AV.bU β)).toArray:=by
 unfold Proofs.YtabalinjfgcfeaaGreat.UF at h
 split at h
 ·rename_i g' f c hx;cases h;have:=hr.ev hx;rw[mi,mi];exact this
 ·rename_i g' f c hx;cases h;have:=hr.ev hx;rw[mi,yC];exact this
 ·cases h
theorem lU.UF (hc:lU F H) {x:Operand} (h:Proofs.YtabalinjfgcfeaaGreat.UF F x=some (g,first,cap)):(∀ v∈first,∀ i∈v.ids,H i≠none)/\∀ v∈cap,∀ i∈v.ids,H i≠none:=by
 have hm:∀ l:List Value,∀ v∈l.map AV.val,∀ i∈v.ids,H i≠none:=λl v hv i hi=>by
  obtain⟨u,_,rfl⟩:=fv.1 hv;cases hi
 unfold Proofs.YtabalinjfgcfeaaGreat.UF at h
 split at h
 ·cases h;exact⟨hm _,hm _⟩
 ·rename_i g' f c hx;cases h;refine⟨hm _,λv hv i hi=> ?_⟩;obtain⟨p,hp,rfl⟩:=fv.1 hv;have:=hc.ev hx i;refine this ?_;rw[aJ.1 hi];exact fv.2 ⟨p,hp,aa⟩
 ·cases h
theorem Hp.tC:∀ {ups:List (Nat×(TypeId×List AV))} {H:Hp} {i:Nat},(ups.map (·.1)).Nodup->(i∉ups.map (·.1)->(H.jh ups) i=H i)/\∀ c,(i,c)∈ups->(H.jh ups) i=some c
 | [],H,i,_=>⟨λ_=>rfl,λc h=>by cases h⟩
 | x::r,H,i,hn=>by
   rw[rQ,JS] at hn;obtain⟨h1,h2⟩:=Hp.tC (ups:=r) (H:=H.put x.1 x.2) (i:=i) hn.2;refine⟨λhi=> ?_,λc hc=> ?_⟩
   ·rw[rQ,dW,not_or] at hi;show ((H.put x.1 x.2).jh r) i=_;rw[h1 hi.2,Hp.eE,if_neg hi.1]
   ·rcases dW.1 hc with e|e
    ·show ((H.put x.1 x.2).jh r) i=_;rw[<-e] at hn ⊢;rw[(Hp.tC (ups:=r) (H:=H.put i c) (i:=i) hn.2).1 hn.1,Hp.eE,if_pos rfl]
    ·exact h2 c e
variable {ups:List (Nat×(TypeId×List AV))}
theorem Hp.mV (hn:(ups.map (·.1)).Nodup) (i:Nat):(∃ c,(i,c)∈ups/\(H.jh ups) i=some c)\/(i∉ups.map (·.1)/\(H.jh ups) i=H i):=by
 by_cases hm:i∈ups.map (·.1)
 ·obtain⟨x,hx,rfl⟩:=fv.1 hm;exact .inl ⟨x.2,hx,(Hp.tC hn).2 x.2 hx⟩
 ·exact .inr ⟨hm,(Hp.tC hn).1 hm⟩
variable {i:Nat}
theorem zl (h:(ups.map (·.1)).Nodup) (hi:i∈ups.map (·.1)):(H.jh ups) i≠none:=by
 obtain⟨x,hx,rfl⟩:=fv.1 hi;rw[(Hp.tC (H:=H) (i:=x.1) h).2 x.2 hx];simp
theorem oO (h:(ups.map (·.1)).Nodup) (hi:H i≠none):(H.jh ups) i≠none:=by
 rcases Hp.mV (H:=H) h i with ⟨c,_,e⟩|⟨_,e⟩
 ·rw[e];simp
 ·rw[e];exact hi
def Dr (ρ:AV->Value) (β:Nat->Nat):Prop:=∀ x,aY x=true->ρ x=x.leaf β
def ZB (β:Nat->Nat) (x:AV):Value:=if aY x=true then x.leaf β else .bool false
theorem ZC (β:Nat->Nat):Dr (ZB β) β:=λx hx=>if_pos hx
theorem AP (β:Nat->Nat) (x:AV):bD (ZB β x)=true:=by
 unfold ZB
 split
 ·rename_i h;exact wG h
 ·rfl
variable {x:AV}
theorem lids_ok (h:i∈x.eu):aY x=true\/False:=by
 cases x <;> first|exact .inl aa|cases h
theorem Ps:x.eu.any (Nat.beq i)=true↔i∈x.eu:=by
 rw[List.any_eq_true];exact⟨λ⟨y,hy,e⟩=>(qC e)▸hy,λh=>⟨i,h,bN⟩⟩
variable {ρ:AV->Value}
theorem Pt (iI:Dr ρ β) (i:Nat) (x:AV):(x.zT i ρ).leaf β=x.leaf β:=by
 unfold AV.zT;cases hb:x.eu.any (Nat.beq i) with
 | false=>rfl
 | true=>
   have:=(lids_ok (Ps.1 hb)).resolve_right id;exact iI x this
variable {j:Nat}
theorem Pu (h:j∈(x.zT i ρ).eu):j∈x.eu/\i∉x.eu:=by
 unfold AV.zT at h;cases hb:x.eu.any (Nat.beq i) with
 | false=>
   rw[hb] at h;exact⟨h,λe=>by rw[Ps.2 e] at hb;cases hb⟩
 | true=>rw[hb] at h;cases h
theorem fgl_ok (iI:∀ x,bD (ρ x)=true) (h:aY x=true):aY (x.zT i ρ)=true:=by
 unfold AV.zT;cases x.eu.any (Nat.beq i) with
 | false=>exact h
 | true=>exact iI x
theorem Cg (iI:Dr ρ β) (i:Nat) (l:List AV):(l.map (AV.zT i ρ)).map (AV.leaf β)=l.map (AV.leaf β):=by
 rw[yC];exact yw λx _=>Pt iI i x
theorem Ch {l:List AV} (h:j∈aI (l.map (AV.zT i ρ))):j∈aI l/\j≠i:=by
 obtain⟨y,hy,hj⟩:=bK.1 h;obtain⟨x,hx,rfl⟩:=fv.1 hy;obtain⟨h1,h2⟩:=Pu hj;exact⟨bK.2 ⟨x,hx,h1⟩,λe=>h2 (e▸h1)⟩
theorem AQ (hx:qN x=true) (h:j∈(x.zT i ρ).ids):j∈x.ids/\j≠i:=by
 have e:(x.zT i ρ).ids=(x.zT i ρ).eu:=by
  unfold AV.zT;cases x.eu.any (Nat.beq i)
  ·exact (zf hx).symm
  ·rfl
 rw[e] at h;obtain⟨h1,h2⟩:=Pu h;exact⟨zf hx▸h1,λe=>h2 (e▸h1)⟩
theorem wX (iI:Dr ρ β) (i:Nat) (hx:qN x=true):(x.zT i ρ).bU β=x.bU β:=by
 rw[<-wS hx,<-Pt iI i x]
 symm
 refine wS ?_;unfold AV.zT;cases x.eu.any (Nat.beq i) <;> first|exact hx|rfl
theorem Sl (hx:qN x=true):jX (x.zT i ρ)=true:=by
 unfold AV.zT;cases x.eu.any (Nat.beq i) with
 | false=>cases x <;> first|rfl|cases hx
 | true=>rfl
theorem ZD (iI:Dr ρ β) (i:Nat) (x:AV):(x.fg1 i ρ).pT β=x.pT β:=by
 have key:∀ y:AV,qN y=true->(y.zT i ρ).pT β=y.pT β:=λy hy=>by
  rw[wT (Sl hy),wT (by cases y <;> first|rfl|cases hy),wX iI i hy]
 cases x with
 | agg l=>show Value.agg ((l.map _).map _).toArray=_;rw[Cg iI];rfl
 | lN l=>rfl
 | val v=>rfl
 | box j o=>exact key _ aa
 | rz j o=>exact key _ aa
 | row j o n c=>exact key _ aa
 | fn g f c=>exact key _ aa
theorem fg_conc (iI:Dr ρ β) (i:Nat) (x:AV):(x.fg i ρ).bU β=x.bU β:=by
 cases x with
 | agg l=>show Value.agg ((l.map _).map _).toArray=_;rw[Cg iI];rfl
 | lN l=>
   show Value.tuple ((l.map _).map _).toArray=Value.tuple (l.map _).toArray;rw[yC]
   congr 2
   exact yw λy _=>ZD iI i y
 | val v=>rfl
 | box j o=>exact wX iI i aa
 | rz j o=>exact wX iI i aa
 | row j o n c=>exact wX iI i aa
 | fn g f c=>exact wX iI i aa
theorem fg1_ids (h:j∈(x.fg1 i ρ).BW):j∈x.BW/\j≠i:=by
 have key:∀ y:AV,qN y=true->j∈(y.zT i ρ).BW->j∈y.BW/\j≠i:=λy hy h=>by
  have e1:(y.zT i ρ).BW=(y.zT i ρ).ids:=zg (by unfold AV.zT;cases y.eu.any (Nat.beq i) <;> first|rfl|(cases y <;> first|rfl|cases hy));have e2:y.BW=y.ids:=zg (by cases y <;> first|rfl|cases hy);rw[e2];exact AQ hy (e1▸h)
 cases x with
 | agg l=>exact Ch h
 | lN l=>cases h
 | val v=>cases h
 | box j o=>exact key _ aa h
 | rz j o=>exact key _ aa h
 | row j o n c=>exact key _ aa h
 | fn g f c=>exact key _ aa h
theorem fg_ids (h:j∈(x.fg i ρ).ids):j∈x.ids/\j≠i:=by
 cases x with
 | agg l=>exact Ch h
 | lN l=>
   obtain⟨y,hy,hj⟩:=uF.1 h;obtain⟨z,hz,rfl⟩:=fv.1 hy;obtain⟨h1,h2⟩:=fg1_ids hj;exact⟨uF.2 ⟨z,hz,h1⟩,h2⟩
 | val v=>cases h
 | box j o=>exact AQ aa h
 | rz j o=>exact AQ aa h
 | row j o n c=>exact AQ aa h
 | fn g f c=>exact AQ aa h
variable {del:Option Nat}
theorem Hp.ji (h:(H.forget del ρ) i=some (t,cs)):del≠some i/\∃ cs0,H i=some (t,cs0)/\(Dr ρ β->cs.map (AV.leaf β)=cs0.map (AV.leaf β))/\
  ((∀ x,bD (ρ x)=true)->cs0.all aY=true->cs.all aY=true)/\∀ j∈aI cs,j∈aI cs0/\del≠some j:=by
 cases del with
 | none=>exact⟨bN,cs,h,λ_=>aa,λ_ h=>h,λj hj=>⟨hj,bN⟩⟩
 | some d=>
   unfold Hp.forget at h;simp only at h;cases hb:Nat.beq i d with
   | true=>rw[hb] at h;cases h
   | false=>
     rw[hb,cond_false] at h
     split at h
     ·rename_i t' cs0 h0;cases h;refine⟨λe=> ?_,cs0,h0,λiI=>Cg iI d cs0,λhc h1=>bR.2 λx hx=> ?_,λj hj=> ?_⟩
      ·cases e;rw[Nat.beq_refl] at hb;cases hb
      ·obtain⟨y,hy,rfl⟩:=fv.1 hx;exact fgl_ok hc (bR.1 h1 y hy)
      ·obtain⟨h1,h2⟩:=Ch hj;exact⟨h1,λe=>h2 (by cases e;rfl)⟩
     ·cases h
theorem Hp.oP (h:H i≠none) (hd:del≠some i):(H.forget del ρ) i≠none:=by
 cases del with
 | none=>exact h
 | some d=>
   unfold Hp.forget;simp only;have:Nat.beq i d=false:=by rw[<-Bool.not_eq_true,Nat.beq_eq];exact λe=>hd (by rw[e])
   rw[this,cond_false];cases hh:H i with
   | none=>exact absurd hh h
   | some c=>simp
theorem Hp.Pv (h:H i=none):(H.forget del ρ) i=none:=by
 cases del with
 | none=>exact h
 | some d=>
   unfold Hp.forget;simp only;cases Nat.beq i d with
   | true=>rfl
   | false=>rw[cond_false,h]
theorem Fr.ji {d:Nat} {v:AV} (h:(F.forget del ρ) d=some v):∃ u,F d=some u/\(Dr ρ β->v.bU β=u.bU β)/\∀ i∈v.ids,i∈u.ids/\del≠some i:=by
 cases del with
 | none=>exact⟨v,h,λ_=>aa,λi hi=>⟨hi,bN⟩⟩
 | some e=>
   unfold Fr.forget at h;simp only at h
   split at h
   ·rename_i u hu;cases h;refine⟨u,hu,λiI=>fg_conc iI e u,λi hi=> ?_⟩;obtain⟨h1,h2⟩:=fg_ids hi;exact⟨h1,λq=>h2 (by cases q;rfl)⟩
   ·cases h
theorem Rel.Pw (hr:Rel C β F H a w) (ids:List Nat):tv C β H ids w:=
 ⟨λi _ t cs h=>hr.own i t cs h,λi j _ _ h1 h2 e=>hr.apart i j h1 h2 e⟩
variable {C:Cx} {β:Nat->Nat} {w:World}
theorem WQ (h:oK C β w i t cs) {p:Addr} {x:Int} (hp:p.block=β i) (hx:w.cell? p=some (.int .u32 x)):False:=by
 simp only[World.cell?,hp,show w.heap[β i]? =_ from h.cls] at hx;simp at hx;have hm:Value.int .u32 x∈cs.map (AV.leaf β):=cX (i:=p.off) (by simpa using hx.2);have:=bR.1 (eN (β:=β) h.ok) _ hm;cases this
theorem GY (h:oK C β w i t cs) {t':TypeId} {cur:Array Value} (hf:C.K.fz t'=true) (hx:w.heap[β i]? =some (Obj.cells cur t' (0,0))):False:=by
 have:=(show w.heap[_]? =_ from h.cls).symm.trans hx;simp at this;rw[<-this.2,h.ty] at hf;cases hf
variable {dA:Nat->Nat}
theorem GS.was {ids:List Nat} (h:GS C β dA H ids del ups w w') (ho:tv C β H ids w) {b:Nat} (hb:b<w.heap.size) (hx:(∃ x∈ups,b=dA x.1)\/∃ i,del=some i/\b=β i):∃ i t cs,b=β i/\oK C β w i t cs:=by
 have key:∀ i,Reach H ids i->H i≠none->b=β i->∃ i t cs,b=β i/\oK C β w i t cs:=λi hi hn e=>by
  cases hh:H i with
  | none=>exact absurd hh hn
  | some c=>exact⟨i,c.1,c.2,e,ho.own i hi c.1 c.2 hh⟩
 rcases hx with ⟨x,hx,e⟩|⟨i,hi,e⟩
 ·rcases h.WK x hx with ⟨h1,h2,h3,h4⟩|⟨_,_,h3|⟨i,hi,h3⟩⟩
  ·exact key x.1 h3 h1 (e.trans h4)
  ·omega
  ·obtain⟨g1,g2⟩:=h.gone i hi;exact key i g1 g2 (e.trans h3)
 ·obtain⟨g1,g2⟩:=h.gone i hi;exact key i g1 g2 e
theorem GS.kp {ids:List Nat} (h:GS C β dA H ids del ups w w') (ho:tv C β H ids w):bQ C.K w w':=by
 have key:∀ b,b<w.heap.size->C.K.S b->w'.heap[b]? =w.heap[b]?\/∃ i t cs,b=β i/\oK C β w i t cs:=λb hb hs=>by
  by_cases hx:(∃ x∈ups,b=dA x.1)\/∃ i,del=some i/\b=β i
  ·exact .inr (h.was ho hb hx)
  ·exact .inl (h.block b hb (λx Nx e=>hx (.inl ⟨x,Nx,e⟩)) (λi hi e=>hx (.inr ⟨i,hi,e⟩)) (.inl hs))
 refine⟨h.size,λa x hs hx=> ?_,λt' g cur hf hs hg=> ?_,λg es c hg=> ?_⟩
 ·rcases key a.block (JE w a hx) hs with e|⟨i,t,cs,h1,h2⟩
  ·rw[Ab (w:=w) e];exact hx
  ·exact (WQ h2 h1 hx).elim
 ·rcases key g (vh.1 hg).1 hs with e|⟨i,t,cs,h1,h2⟩
  ·rw[e];exact hg
  ·exact (GY h2 hf (h1▸hg)).elim
 ·have hlt:=(vh.1 hg).1
  have no:∀ i t cs,g=β i->oK C β w i t cs->False:=λi t cs e o=>by
   have:=(show w.heap[_]? =_ from o.cls).symm.trans (e▸hg);simp at this
  refine (h.block g hlt (λx hx e=> ?_) (λi hi e=> ?_) (.inr λt cur _ e=>by rw[hg] at e;cases e)).trans hg
  ·obtain⟨i,t,cs,e1,e2⟩:=h.was ho hlt (.inl ⟨x,hx,e⟩);exact no i t cs e1 e2
  ·obtain⟨i,t,cs,e1,e2⟩:=h.was ho hlt (.inr ⟨i,hi,e⟩);exact no i t cs e1 e2
theorem GS.old {ids:List Nat} (h:GS C β dA H ids del ups w w') (ho:tv C β H ids w) (hb:C.Old w):C.Old w':=
 C.AG _ _ hb C.keep (h.kp ho) ⟨h.os,h.tape,h.output,h.size,λg hg=>by
   have up:∀ x∈ups,g=dA x.1->w'.heap[g]? =w.heap[g]?\/((∃ i,C.GO i g)/\∃ t cs,bO w' g t (List.toArray cs)/\C.K.fz t=false/\cs.all bD=true)\/¬ C.K.S g:=λx hx e=>by
    obtain⟨g1,g2,g3,g4⟩:=h.own x hx;exact .inr (.inl ⟨⟨x.1,e▸g1⟩,x.2.1,_,e▸g3,g2,eN g4⟩)
   by_cases h1:∃ x∈ups,g=dA x.1
   ·obtain⟨x,hx,e⟩:=h1;exact up x hx e
   ·by_cases h2:∃ i,del=some i/\g=β i
    ·obtain⟨i,hi,e⟩:=h2;rcases h.left i hi with (e' |⟨t,cs,e1,e2,e3⟩)|⟨x,hx,e'⟩
     ·exact .inl (by rw[e];exact e')
     ·obtain⟨g1,g2⟩:=h.gone i hi;cases hh:H i with
      | none=>exact absurd hh g2
      | some c=>exact .inr (.inl ⟨⟨i,e▸(ho.own i g1 c.1 c.2 hh).new⟩,t,cs,e▸e1,e2,e3⟩)
     ·exact up x hx (e.trans e'.symm)
    ·by_cases h3:C.K.S g
     ·exact .inl (h.block g hg (λx hx e=>h1 ⟨x,hx,e⟩) (λi hi e=>h2 ⟨i,hi,e⟩) (.inl h3))
     ·exact .inr (.inr h3)⟩
theorem GS.same {ids:List Nat} (h:GS C β dA H ids del ups w w') (h1:H j≠none) (h2:del≠some j):dA j=β j:=by
 by_cases hm:j∈ups.map (·.1)
 ·obtain⟨x,hx,rfl⟩:=fv.1 hm;rcases h.WK x hx with ⟨_,_,_,e⟩|⟨e|e,_⟩
  ·exact e
  ·exact absurd e h1
  ·exact absurd e h2
 ·exact h.tw j hm
theorem GS.hp {ids:List Nat} (h:GS C β dA H ids del ups w w') (gv:LO C H) (iI:∀ x,bD (ρ x)=true):LO C ((H.forget del ρ).jh ups):=by
 refine⟨λi t cs hi=> ?_,λi t cs hi j hj=> ?_,λi hi=> ?_⟩
 ·rcases Hp.mV (H:=H.forget del ρ) h.once i with ⟨c,hc,e⟩|⟨_,e⟩
  ·rw[e] at hi;cases hi;have:=h.own _ hc;exact⟨this.ty,this.ok⟩
  ·rw[e] at hi;obtain⟨_,cs0,h0,_,h2,_⟩:=Hp.ji (β:=β) hi;obtain⟨g1,g2⟩:=gv.ok i t cs0 h0;exact⟨g1,h2 iI g2⟩
 ·have key:j∈ups.map (·.1)\/(H j≠none/\del≠some j):=by
   rcases Hp.mV (H:=H.forget del ρ) h.once i with ⟨c,hc,e⟩|⟨_,e⟩
   ·rw[e] at hi;cases hi;exact h.closed _ hc j hj
   ·rw[e] at hi;obtain⟨_,cs0,h0,_,_,h3⟩:=Hp.ji (β:=β) hi;obtain⟨g1,g2⟩:=h3 j hj;exact .inr ⟨gv.closed i t cs0 h0 j g1,g2⟩
  rcases key with e|⟨e1,e2⟩
  ·exact zl h.once e
  ·exact oO h.once (Hp.oP e1 e2)
 ·rcases Hp.mV (H:=H.forget del ρ) h.once i with ⟨c,hc,e⟩|⟨_,e⟩
  ·rcases h.WK _ hc with ⟨h1,_⟩|⟨_,h2,_⟩
   ·exact absurd (gv.ld i hi) h1
   ·simp only at h2;have:=C.topN;omega
  ·rw[e,Hp.Pv (gv.ld i hi)]
theorem Rel.changed (hr:Rel C β F H a w) {ids:List Nat} (h:GS C β dA H ids del ups w w'):Rel C dA (F.forget del (ZB β)) ((H.forget del (ZB β)).jh ups) a w':=by
 have ho:=hr.Pw ids
 have lt:∀ i,H i≠none->β i<w.heap.size:=λi hi=>by
  cases hh:H i with
  | none=>exact absurd hh hi
  | some x=>exact (hr.own i x.1 x.2 hh).cls.lt
 have away:∀ i,H i≠none->del≠some i->i∉ups.map (·.1)->∀ x∈ups,β i≠dA x.1:=λi hi hd hn x hx e=>by
  rcases h.WK x hx with ⟨h1,h2,_,h4⟩|⟨_,_,h3|⟨d,ZE,h3⟩⟩
  ·exact hn (by rw[hr.apart i x.1 hi h1 (e.trans h4)];exact fv.2 ⟨x,hx,aa⟩)
  ·have:=lt i hi;omega
  ·exact hd (by rw[hr.apart i d hi (h.gone d ZE).2 (e.trans h3)];exact ZE)
 have at_:∀ i t cs,((H.forget del (ZB β)).jh ups) i=some (t,cs)->((i,(t,cs))∈ups)\/(i∉ups.map (·.1)/\del≠some i/\∃ cs0,H i=some (t,cs0)/\cs.map (AV.leaf β)=cs0.map (AV.leaf β)/\cs.all aY=true/\∀ j∈aI cs,j∈aI cs0/\del≠some j):=λi t cs hi=>by
  rcases Hp.mV (H:=H.forget del (ZB β)) h.once i with ⟨c,hc,e⟩|⟨hn,e⟩
  ·rw[e] at hi;cases hi;exact .inl hc
  ·rw[e] at hi;obtain⟨h1,cs0,h0,h2,h3,h4⟩:=Hp.ji (β:=β) hi;exact .inr ⟨hn,h1,cs0,h0,h2 (ZC β),h3 (AP β) (hr.own i t cs0 h0).ok,h4⟩
 refine⟨hr.defers,hr.size,λd v hv=> ?_,λi t cs hi=> ?_,λi j hi hj e=> ?_,λd v hv i hi=> ?_,λd v hv=> ?_,h.hp hr.hp (AP β),h.old ho hr.old⟩
 ·obtain⟨u,hu,h1,h2⟩:=Fr.ji (β:=β) hv;rw[hr.tmp d u hu,<-h1 (ZC β)];exact (AV.GM λi hi=>h.same (hr.closed d u hu i (h2 i hi).1) (h2 i hi).2).symm
 ·rcases at_ i t cs hi with e|⟨hn,hd,cs0,h0,h1,h2,h3⟩
  ·exact h.own _ e
  ·have hs:H i≠none:=by rw[h0];simp
   obtain⟨g1,g2,g3,g4⟩:=hr.own i t cs0 h0;refine⟨by rw[h.same hs hd];exact g1,g2,?_,h2⟩;rw[h.same hs hd,mf (l:=cs) (β:=β) (λj hj=>h.same (hr.hp.closed i t cs0 h0 j (h3 j hj).1) (h3 j hj).2),h1];exact (h.block (β i) g3.lt (away i hs hd hn) (λd ZE e=>hd (by rw[hr.apart i d hs (h.gone d ZE).2 e];exact ZE)) (.inr λt' cur hf hc=>GY ⟨g1,g2,g3,g4⟩ hf hc)).trans g3
 ·have ZF:∀ i,((H.forget del (ZB β)).jh ups) i≠none->(∃ c,(i,c)∈ups)\/(i∉ups.map (·.1)/\del≠some i/\H i≠none):=λi hi=>by
   cases hh:((H.forget del (ZB β)).jh ups) i with
   | none=>exact absurd hh hi
   | some c=>
     rcases at_ i c.1 c.2 hh with e|⟨hn,hd,cs0,h0,_⟩
     ·exact .inl ⟨c,e⟩
     ·exact .inr ⟨hn,hd,by rw[h0];simp⟩
  rcases ZF i hi with ⟨c,hc⟩|⟨n1,d1,s1⟩ <;> rcases ZF j hj with ⟨c',hc'⟩|⟨n2,d2,s2⟩
  ·exact h.apart _ hc _ hc' e
  ·rw[h.same s2 d2] at e;exact absurd e.symm (away j s2 d2 n2 _ hc)
  ·rw[h.same s1 d1] at e;exact absurd e (away i s1 d1 n1 _ hc')
  ·rw[h.same s1 d1,h.same s2 d2] at e;exact hr.apart i j s1 s2 e
 ·obtain⟨u,hu,_,h2⟩:=Fr.ji (β:=β) hv;obtain⟨g1,g2⟩:=h2 i hi;exact oO h.once (Hp.oP (hr.closed d u hu i g1) g2)
 ·obtain⟨u,hu,_⟩:=Fr.ji (β:=β) hv;exact hr.fits d u hu
theorem LR (h:rA P g) (args:Array Value) (w:World):(callFunc g args).run P w=.ok (.enter g args) w:=by
 obtain⟨fn,h1,h2,h3⟩:=h;have h2':fn.name≠"runtime.NumGoroutine":=by simpa using h2
 have h3':fn.body≠none:=λe=>by simp[e] at h3
 simp[callFunc,h1,h2',h3']
theorem lW (h:stepOf C full F H o≠.bad):oJ C.N o.dst=true/\((wants full F o=some false/\stepOf C full F H o=.iA (.val undef) none)\/(wants full F o=some true/\stepOf C full F H o=act C F H o)):=by
 unfold stepOf at h ⊢;cases hd:oJ C.N o.dst with
 | false=>rw[hd] at h;exact absurd aa h
 | true=>
   refine⟨aa,?_⟩;rw[hd] at h;cases hw:wants full F o with
   | none=>rw[hw] at h;exact absurd aa h
   | some b=>cases b <;> simp
variable {next:Act->World->Prop}
theorem Oper.wY {v:Value} (h:(execOp a.eval o).run P w=.ok (.value v) w') (hn:next (a.put o.dst v) w'):o.wp P a w next Q:=by
 unfold Oper.wp;rw[h];exact hn
theorem Oper.wp_skip (h:(execOp a.eval o).run P w=.ok .skip w') (hn:next (a.put o.dst undef) w'):o.wp P a w next Q:=by
 unfold Oper.wp;rw[h];exact hn
theorem Oper.ZG {args:Array Value} (h:(execOp a.eval o).run P w=.ok (.enter g args) w) (hn:Calls P g args w λe w2=>∃ v,e=.returned v/\next (a.put o.dst v) w2):o.wp P a w next Q:=by
 unfold Oper.wp;rw[h];refine yK hn ?_;rintro e w2 ⟨v,rfl,hv⟩;exact hv
theorem GZ {l:List AV} (h:∀ v∈l,∀ i∈v.ids,H i≠none):∀ i∈jN l,H i≠none:=λi hi=>by
 obtain⟨v,hv,hi⟩:=Jk.1 hi;exact h v hv i hi
theorem Ds (hc:lU F H) (h:act C F H o=.call d):∀ i∈d.ids,H i≠none:=by
 rcases AO h with ⟨c,f,g,first,l,cap,hop,jG,hf,hl,rfl⟩|⟨vs,hv,rfl,_⟩
 ·refine GZ λv hv=> ?_;obtain⟨f1,f2⟩:=hc.UF hf;rcases gg.1 hv with e|e
  ·exact f1 v e
  ·rcases gg.1 e with e|e
   ·exact hc.Dm hl v e
   ·exact f2 v e
 ·exact GZ λv hv'=>hc.Dm hv v hv'
theorem LS (hr:Rel C β F H a w) (h:act C F H o=.call d) (hd:BZ C.P d β w λe w2=>∃ v,e=.returned v/\next (a.put o.dst v) w2):o.wp C.P a w next Q:=by
 rcases AO h with ⟨c,f,g,first,l,cap,hop,jG,hf,hl,rfl⟩|⟨vs,hv,rfl,_⟩
 ·obtain⟨h1,h2⟩:=hd;have Zi:=hr.Dm hl;refine Oper.ZG (g:=g) (args:=((first++(l++cap)).map (AV.bU β)).toArray) ?_ h2
  have e1:(c.args.map a.eval)=(l.map (AV.bU β)).toArray:=by
   apply vu.1;rw[vw,Zi]
  have e2:(first.map (AV.bU β)).toArray++(l.map (AV.bU β)).toArray++(cap.map (AV.bU β)).toArray=((first++(l++cap)).map (AV.bU β)).toArray:=by
   apply vu.1;simp
  unfold execOp;rw[hop];simp only[resolve,jG,hr.UF hf,e1,Deferred.ofValue,invoke,Sem.run_bind,Sem.run_pure,Result.andThen_ok];rw[e2,LR h1]
 ·obtain⟨v,w2,h1,v',he,h2⟩:=hd;cases he;rcases h1 a.eval (hr.Dm hv) with e|⟨e,rfl⟩
  ·exact Oper.wY e h2
  ·exact Oper.wp_skip e h2
theorem BZ.mono {R R':Ending->World->Prop} (h:BZ P d β w R) (hR:∀ e w2,R e w2->R' e w2):BZ P d β w R':=by
 cases d with
 | fn g args=>exact⟨h.1,yK h.2 hR⟩
 | op o vs=>
   obtain⟨v,w2,h1,h2⟩:=h;exact⟨v,w2,h1,hR _ _ h2⟩
theorem mj (hC:C.Ok) {k:Fr->Hp->World->Prop} {m:Option (List FuncId)} (h:one C m full o k F H w) (hr:Rel C β F H a w') (hk:bQ C.K w w')
  (hn:∀ β F' H' w1 a' xM,k F' H' w1->Rel C β F' H' a' xM->bQ C.K w1 xM->next a' xM):
  if Region.wanted o (yielded full a.tmps)=true then Oper.wp C.P o a w' next Q else next (a.put o.dst undef) w':=by
 have hb:stepOf C full F H o≠.bad:=λe=>by unfold one at h;rw[e] at h;exact h
 obtain⟨hd,⟨hw,hs⟩|⟨hw,hs⟩⟩:=lW hb
 ·rw[oN hr hw,if_neg bN];unfold one at h;rw[hs] at h;exact hn β _ _ w _ w' h (hr.put hd (v:=.val undef) (λ_ hi=>by cases hi)) hk
 ·rw[oN hr hw,if_pos rfl];unfold one at h;rw[hs] at h;cases hst:act C F H o with
  | bad=>rw[hst] at h;exact h.elim
  | iA v u=>
    rw[hst] at h;obtain⟨dA,w2,k2,r2,e⟩:=UJ hC hst hd hr;have:=hn dA _ _ w _ w2 h r2 (hk.aR k2);rcases e with e|⟨e,hu⟩
    ·exact Oper.wY e this
    ·rw[hu] at this;exact Oper.wp_skip e this
  | cond φ v u=>
    rw[hst] at h;obtain⟨dA,w2,k2,r2,e⟩:=Pr hC hst h.1 hd hr;have:=hn dA _ _ w _ w2 h.2 r2 (hk.aR k2);rcases e with e|⟨e,hu⟩
    ·exact Oper.wY e this
    ·rw[hu] at this;exact Oper.wp_skip e this
  | read i x=>
    rw[hst] at h;obtain⟨cs,h1,h2,h3⟩:=h;obtain⟨t,y,hop,hi,hy⟩:=Zz hst
    have e:=lO (hC t i hi) x cs h1 w' (by
     rcases h2 with h2|⟨_,h2⟩
     ·exact λj u hj=>h2 j u hj _ hr.old
     ·exact h2 w' hk hr.old)
    refine Oper.wY (v:=sP i cs) (w':=w') ?_ (hn β _ _ w _ w' h3 (hr.put hd (v:=.val (sP i cs)) (λ_ hi=>by cases hi)) hk);have he:a.eval y=.pointer (some x):=hr.ev hy;simp[execOp,hop,he,Instr.loadAt,Instr.sureAddr,e]
  | dY i cs off=>
    rw[hst] at h;obtain⟨vs,h1,h2,h3⟩:=h;obtain⟨t,y,b,tb,hop,hi,hy,hb⟩:=Pq hst
    have LU:∀ x∈vs,x∈cs:=λx hx=>by
     obtain⟨j,hj⟩:=List.getElem?_of_mem hx;exact cX (h2 j x hj)
    have gv:vs.all aY=true:=bR.2 λx hx=>bR.1 (hr.own b tb cs hb).ok x (LU x hx);have e:=lO (hC t i hi) ⟨β b,off,none⟩ (vs.map (AV.leaf β)) (by rw[bu,h1]) w' (Cf hr hb h2);refine Oper.wY (v:=(tu i vs).bU β) (w':=w') ?_ (hn β _ _ w _ w' h3 (hr.put hd (λj hj=> ?_)) hk)
    ·have he:a.eval y=.pointer (some ⟨β b,off,none⟩):=hr.ev hy;rw[zh (hC t i hi) h1 gv];simp[execOp,hop,he,Instr.loadAt,Instr.sureAddr,e]
    ·obtain⟨x,hx,hj'⟩:=bK.1 (Cb gv hj);exact hr.hp.closed b tb cs hb j (bK.2 ⟨x,LU x hx,hj'⟩)
  | call d=>
    rw[hst] at h;refine LS hr hst ((h w' β hk hr.old (hr.Pw _)).mono ?_);rintro e w2 ⟨dA,r,del,ups,rfl,OS,_,_,hch,hv⟩;have ho:=hr.Pw d.ids;have o2:=hch.old ho hr.old;have k2:=hch.kp ho;have nC:=hr.changed hch;refine⟨_,aa,hn dA _ _ w2 _ w2 (hv (hk.aR k2) k2 o2 (ZB β) (AP β)) (nC.put hd (λi hi=> ?_)) (bQ.refl _ _)⟩;rcases OS i hi with e|⟨_,e1,e2⟩
    ·exact zl hch.once e
    ·exact oO hch.once (Hp.oP e1 e2)
theorem Ha (hC:C.Ok) {m:Option (List FuncId)} {K:Fr->Hp->World->Prop} (hQ:∀ β F H w a w',K F H w->Rel C β F H a w'->bQ C.K w w'->Q .normal a w'):
  ∀ (l:List Oper) (β:Nat->Nat) (F:Fr) (H:Hp) (w:World) (a:Act) (w':World),aG C m full l K F H w->Rel C β F H a w'->bQ C.K w w'->wpList C.P full Q l a w'
 | [],β,F,H,w,a,w',h,hr,hk=>hQ β F H w a w' h hr hk
 | o::r,β,F,H,w,a,w',h,hr,hk=>by
   refine wpList_step λK' hK'=> ?_;exact mj hC (k:=aG C m full r K) h hr hk λβ F' H' w1 a' xM h1 h2 h3=>hK' _ _ (Ha hC hQ r β F' H' w1 a' xM h1 h2 h3)
end
def Dt (p o:Nat):Bool:=bif Nat.beq p 5 || Nat.beq o 5 then false else Nat.beq p 0 || Nat.beq o 0 || (Nat.ble p 2 && Nat.ble o 2) || (Nat.beq p 4 && Nat.ble o 2) || (Nat.ble p 2 && Nat.beq o 4)
def LV (o:Oper):Bool:=match o.op,o.guard with
 | .move (.tmp _),none=>true
 | _,_=>false
def indep (su:TypeId->Bool) (l:List FuncId) (full:Array Oper) (p o:Oper):Bool:=p.apart full o && (Dt (aC su l p) (aC su l o) || LV p)
def eb (full:Array Oper) (j:Nat):List Nat:=match full[j]? with
 | none=>[]
 | some o=>(o.after.toList.filter (Region.binds .any)).map (·.on)
def reach (full:Array Oper):Nat->Nat->Nat->Bool
 | 0,j,i=>(eb full j).contains i
 | f+1,j,i=>(eb full j).contains i || (eb full j).any λd=>Nat.blt i d && reach full f d i
def mW (su:TypeId->Bool) (l:List FuncId) (full:Array Oper) (i j:Nat):Bool:=
 (match full[i]?,full[j]? with|some p,some o=>indep su l full p o|_,_=>true) || reach full full.size j i
def uK (su:TypeId->Bool) (l:List FuncId) (full:Array Oper):Bool:=(List.range full.size).all λj=>(eb full j).all (λd=>Nat.blt d j) && (List.range j).all λi=>mW su l full i j
section
variable {C:Cx} {F:Fr} {H:Hp} {w:World} {full:Array Oper} {p o:Oper} {ml:List FuncId}
variable {y:Operand}
theorem oh {t:Tmp} (hy:y∈o.op.operands.toList) (h:y=.tmp t):t∈o.looksAt full:=by
 unfold Oper.looksAt;refine gg.2 (.inl ?_);exact List.mem_filterMap.2 ⟨y,hy,by rw[h]⟩
variable {F F':Fr}
theorem AR (h:∀ t,y=.tmp t->F' t=F t):ev F' y=ev F y:=by
 cases y with
 | tmp t=>exact h t aa
 | const v=>rfl
 | func f=>rfl
 | global g=>rfl
theorem jE (h:ev F' y=ev F y):pw F' y=pw F y:=by unfold pw;rw[h]
theorem Ci {F F':Fr}:∀ {l:List Operand},(∀ y∈l,ev F' y=ev F y)->evs F' l=evs F l
 | [],_=>rfl
 | x::r,h=>by unfold evs;rw[jE (h x bN),Ci (l:=r) (λy hy=>h y (by simp[hy]))]
theorem xN {F F':Fr}:∀ {l:List Operand},(∀ y∈l,ev F' y=ev F y)->Dm F' l=Dm F l
 | [],_=>rfl
 | x::r,h=>by unfold Dm;rw[h x bN,xN (l:=r) (λy hy=>h y (by simp[hy]))]
theorem WR (h:ev F' y=ev F y):UF F' y=UF F y:=by unfold UF;rw[h]
theorem Cj {F F':Fr}:∀ {l:List (Nat×Operand)},(∀ y∈l,ev F' y.2=ev F y.2)->LK F' l=LK F l
 | [],_=>rfl
 | (k,x)::r,h=>by unfold LK;rw[h (k,x) bN,Cj (l:=r) (λy hy=>h y (by simp[hy]))]
theorem Kz:∀ {x:Option Operand},(∀ y∈x.toArray.toList,ev F' y=ev F y)->evo F' x=evo F x
 | none,_=>rfl
 | some x,h=>by
   show (match pw F' x with|some (.int _ k)=>some (some k)|_=>none)=match pw F x with|some (.int _ k)=>some (some k)|_=>none
   rw[jE (h x bN)]
theorem Sm (h:∀ y∈o.op.operands.toList,ev F' y=ev F y):wQ F' o=wQ F o:=by
 unfold wQ;rw[xN h]
theorem KA (h:∀ y∈o.op.operands.toList,ev F' y=ev F y):act C F' H o=act C F H o:=by
 have qQ:=Sm h;unfold act;cases hop:o.op <;> rw[hop] at h <;> simp only[Op.operands] at h ⊢ <;> try (exact qQ)
 case move x=>rw[h x bN]
 case assign x=>rw[h x bN]
 case pick c a b=>rw[jE (h c bN),h a bN,h b bN]
 case box t x=>rw[h x bN]
 case build t ps=>rw[Cj (λy hy=>h y.2 (by simp;exact⟨y.1,by simpa using hy⟩))]
 case load t x=>rw[h x bN]
 case store t x y=>rw[h x bN,h y bN]
 case binOp op t x y t'=>rw[jE (h x bN),jE (h y bN),h x bN]
 case unOp op t x=>cases op <;> simp only <;> first|exact qQ|rw[jE (h x bN)]
 case convert s t x=>rw[jE (h x bN)]
 case nilCheck x=>rw[h x bN]
 case fieldAddr t x k=>rw[h x bN]
 case field t x k=>rw[h x bN]
 case indexAddr t x ix=>rw[h x bN,jE (h ix bN)]
 case extract x k=>rw[h x bN]
 case makeSlice t l c=>rw[jE (h l bN),jE (h c bN)]
 case slice t x lo hi mx=>
  cases mx with
  | some m=>exact qQ
  | none=>
    simp only;rw[h x bN,Kz (x:=lo) (λy hy=>h y (by simp at hy ⊢;exact .inr (.inl hy))),Kz (x:=hi) (λy hy=>h y (by simp at hy ⊢;exact .inr (.inr hy)))]
 case makeFunc fn first cap=>
  cases fn <;> simp only <;> try (exact qQ)
  rw[Ci (l:=first.toList) (λy hy=>h y (by simp;exact .inl (by simpa using hy))),xN (l:=cap.toList) (λy hy=>h y (by simp;exact .inr (by simpa using hy)))]
 case buildSlice t n ps=>
  rw[qQ,Cj (λy hy=>h y.2 (by simp;exact⟨y.1,by simpa using hy⟩))]
 case call c=>
  simp only[Call.operands] at h;cases hc:c.callee with
  | value f=>
    rw[hc] at h;simp only at h ⊢;rw[WR (h f bN),xN (λy hy=>h y (by simp;exact .inr (by simpa using hy)))]
  | invoke r n=>exact qQ
  | builtin b=>
    rw[hc] at h;have he:evs F' c.args.toList=evs F c.args.toList:=Ci λy hy=>h y (by simpa using hy);cases b <;> simp only <;> first|exact qQ|(rw[he];done)|skip
    split
    ·rename_i x t hx ht
     rw[(h x (by
      have e1:c.args=#[x]:=vu.1 hx;simp[e1]))]
    ·rfl
variable {x:AV} {d:Option Nat}
theorem qR {t:Nat} (h:∀ n,d=some n->t≠n):(F.cw d x) t=F t:=by
 cases d with
 | none=>rfl
 | some n=>show (F.put n x) t=_;rw[Fr.eE,if_neg (h n rfl)]
theorem Px (h:∀ g b d,o.guard=some (g,b)->(full[g]?).bind (·.dst)=some d->F' d=F d):wants full F' o=wants full F o:=by
 unfold wants;cases hg:o.guard with
 | none=>rfl
 | some gb=>
   obtain⟨g,b⟩:=gb;simp only;cases hd:(full[g]?).bind (·.dst) with
   | none=>rfl
   | some d=>simp only;rw[h g b d hg hd]
theorem fO (h:∀ n,d=some n->n∉o.looksAt full):stepOf C full (F.cw d x) H o=stepOf C full F H o:=by
 have h1:act C (F.cw d x) H o=act C F H o:=KA λy hy=>AR λt ht=>qR λn hn e=>h n hn (e▸oh hy ht)
 have h2:wants full (F.cw d x) o=wants full F o:=Px λg b t hg ht=>qR λn hn e=>h n hn (by
  subst e;unfold Oper.looksAt;rw[hg];simp only;exact gg.2 (.inr (by rw[ht];simp)))
 unfold stepOf;rw[h1,h2]
theorem jZ {H H':Hp} (h:aC C.SU ml o=0\/aC C.SU ml o=4):act C F H' o=act C F H o:=by
 unfold aC at h;unfold act;cases hop:o.op <;> rw[hop] at h <;> simp only at h ⊢ <;> try (exfalso;revert h;simp;done)
 case unOp op _ _=>cases op <;> rfl
 case makeFunc fn _ _=>cases fn <;> rfl
 case slice t x lo hi mx=>cases mx <;> rfl
 case buildSlice t n ps=>
  cases hb:C.SU t with
  | true=>rfl
  | false=>rw[hb] at h;simp at h
variable {c:TypeId×List AV}
theorem Sn {d:Nat} (h:aC C.SU ml o=1) (hc:lU F H) (hd:H d=none):act C F (H.put d c) o=act C F H o:=by
 unfold aC at h;unfold act;cases hop:o.op <;> rw[hop] at h <;> simp only at h ⊢ <;> try (exfalso;revert h;simp;done)
 case load t x=>
  split
  ·rename_i b off i hx hi
   have:b≠d:=λe=>by
    subst e;exact hc.ev hx _ (by simp[AV.ids]) hd
   rw[Hp.eE,if_neg this]
  ·rename_i b off i hx hi
   have:b≠d:=λe=>by
    subst e;exact hc.ev hx _ (by simp[AV.ids]) hd
   rw[Hp.eE,if_neg this]
  ·rfl
  ·rfl
 case unOp op _ _=>cases op <;> simp at h
 case makeFunc fn _ _=>cases fn <;> simp at h
 case slice t x lo hi mx=>cases mx <;> simp at h
 case buildSlice t n ps=>cases hb:C.SU t <;> rw[hb] at h <;> simp at h
theorem Hb {d d':Nat} (h:aC C.SU ml o=2) (hd:o.dst=some d) (hne:d≠d'):act C F (H.put d' c) o=act C F H o:=by
 have e:(H.put d' c) d=H d:=by rw[Hp.eE,if_neg hne]
 unfold aC at h;unfold act;cases hop:o.op <;> rw[hop] at h <;> simp only at h ⊢ <;> try (exfalso;revert h;simp;done)
 case alloc t=>
  rw[hd];cases C.ti t with
  | none=>rfl
  | some i=>show wH C.K d t _ ((H.put d' c) d)=_;rw[e]
 case box t x=>
  rw[hd];cases ev F x with
  | none=>rfl
  | some i=>show wH C.K d t _ ((H.put d' c) d)=_;rw[e]
 case makeSlice t l k=>
  rw[hd];cases C.ti t with
  | none=>rfl
  | some i=>
    cases pw F l with
    | none=>rfl
    | some vl=>
      cases vl <;> try rfl
      cases pw F k with
      | none=>rfl
      | some vk=>
        cases vk <;> try rfl
        simp only;cases i.elem with
        | none=>rfl
        | some es=>
          obtain⟨e2,sz⟩:=es;simp only;rw[e]
 case unOp op _ _=>cases op <;> simp at h
 case makeFunc fn _ _=>cases fn <;> simp at h
 case slice t x lo hi mx=>cases mx <;> simp at h
 case buildSlice t n ps=>
  cases hb:C.SU t with
  | true=>rfl
  | false=>
    rw[cond_false,cond_false,hd];cases C.ti t with
    | none=>rfl
    | some i=>
      cases LK F ps.toList with
      | none=>rfl
      | some l=>
        simp only;cases i.elem with
        | none=>rfl
        | some es=>
          obtain⟨e2,sz⟩:=es;simp only;cases C.ti e2 with
          | none=>rfl
          | some ie=>
            cases Pg sz 0 l with
            | none=>rfl
            | some cs=>show (bif _ then Dp C.K d e2 n cs ((H.put d' c) d) else _)=_;rw[e]
theorem Du {c:Nat×(TypeId×List AV)} (h:aC C.SU ml o=2) (hd:o.dst=none):act C F (H.put c.1 c.2) o=act C F H o:=by
 unfold aC at h;unfold act;cases hop:o.op <;> rw[hop] at h <;> simp only at h ⊢ <;> try (exfalso;revert h;simp;done)
 case alloc t=>simp only[hd]
 case box t x=>simp only[hd]
 case makeSlice t l c=>simp only[hd]
 case unOp op _ _=>cases op <;> simp at h
 case makeFunc fn _ _=>cases fn <;> simp at h
 case slice t x lo hi mx=>cases mx <;> simp at h
 case buildSlice t n ps=>
  cases hb:C.SU t with
  | true=>rfl
  | false=>simp only[cond_false,hd]
variable {u:Option (Nat×(TypeId×List AV))}
theorem act_upd {v:AV} (h:act C F H o=.iA v u):u=none\/aC C.SU ml o=3\/(aC C.SU ml o=2/\∃ d c,o.dst=some d/\u=some (d,c)/\H d=none):=by
 unfold act at h;cases hop:o.op <;> rw[hop] at h <;> simp only at h <;> try (first|cases h;done|exact (jw h).elim)
 case store=>exact .inr (.inl (by unfold aC;rw[hop]))
 case alloc t=>
  split at h
  ·rename_i d i lV hi;obtain⟨h1,h2,h3,h4,h5⟩:=xL h;exact .inr (.inr ⟨by unfold aC;rw[hop],d,_,lV,h5,h1⟩)
  ·cases h
 case box t x=>
  split at h
  ·rename_i d i lV hi;obtain⟨h1,h2,h3,h4,h5⟩:=xL h;exact .inr (.inr ⟨by unfold aC;rw[hop],d,_,lV,h5,h1⟩)
  ·cases h
 case move=>exact .inl (tB h).2
 case assign=>exact .inl (tB h).2
 case pick=>split at h <;> first|exact .inl (tB h).2|cases h
 case load=>
  split at h
  ·split at h
   ·exact .inl (Kr h).2.2
   ·cases h
  ·split at h <;> cases h
  ·cases h
  ·cases h
 case build=>split at h <;> first|(cases h;done)|(split at h <;> first|(cases h;done)|(rw[eD,sa] at h;cases h;exact .inl aa))
 case binOp=>split at h <;> first|exact .inl (jY h).choose_spec.2.2|(cases h;done)|(split at h <;> first|exact .inl (jY h).choose_spec.2.2|(cases h;done))
 case unOp op _ _=>cases op <;> simp only at h <;> first|exact (jw h).elim|(split at h <;> first|(cases h;done)|(cases h;exact .inl aa))
 case convert=>split at h <;> first|(cases h;done)|(split at h <;> first|(cases h;done)|(cases h;exact .inl aa))
 case nilCheck=>split at h <;> first|(cases h;done)|(cases h;exact .inl aa)
 case fieldAddr=>split at h <;> first|(cases h;done)|(split at h <;> first|(cases h;done)|(cases h;exact .inl aa))
 case field=>split at h <;> first|(cases h;done)|exact .inl (qP h).1
 case extract=>
  split at h
  ·exact .inl (jY h).choose_spec.2.2
  ·split at h
   ·rename_i x _;cases hn:jX x <;> rw[hn] at h <;> cases h;exact .inl aa
   ·cases h
  ·cases h
 case indexAddr=>split at h <;> first|(cases h;done)|(split at h <;> cases h)
 case slice t x lo hi mx=>
  cases mx <;> simp only at h <;> first|exact (jw h).elim|skip
  split at h <;> first|(cases h;done)|(split at h <;> cases h)
 case makeSlice=>
  split at h
  ·split at h
   ·split at h
    ·revert h
     generalize (!_ && _)=q;cases q <;> intro h <;> cases h
    ·cases h
   ·cases h
  ·cases h
 case makeFunc fn _ _=>
  cases fn <;> simp only at h <;> try (exact (jw h).elim)
  split at h
  ·cases h;exact .inl aa
  ·split at h
   ·cases h;exact .inl aa
   ·cases h
  ·cases h
 case buildSlice t n ps=>
  cases LQ:C.SU t with
  | true=>rw[LQ] at h;exact (jw h).elim
  | false=>
    rw[LQ,cond_false] at h
    split at h
    ·rename_i d i l lV hi hl
     split at h
     ·split at h
      ·revert h
       generalize (Nat.beq _ _ && _)=q;cases q <;> intro h
       ·cases h
       ·obtain⟨h1,h2,h3,h4,h5⟩:=Ks h;exact .inr (.inr ⟨by unfold aC;rw[hop];simp[LQ],d,_,lV,h5,h1⟩)
      ·cases h
     ·cases h
    ·cases h
 case call=>
  split at h
  ·split at h
   ·split at h
    ·split at h
     ·cases h;exact .inl aa
     ·cases h
    ·split at h
     ·cases h;exact .inl aa
     ·cases h
    ·cases h
   ·cases h
  ·split at h <;> first|(cases h;done)|(cases h;exact .inl aa)
  ·split at h <;> first|(cases h;done)|(cases h;exact .inl aa)
  ·split at h
   ·rw[eD] at h;cases h
   ·cases h
  ·exact (jw h).elim
theorem ZH {φ:Prop} {v:AV} (h:act C F H o=.cond φ v u):u=none\/aC C.SU ml o=3\/(aC C.SU ml o=2/\∃ d c,o.dst=some d/\u=some (d,c)/\H d=none):=by
 have k:=wW (C:=C) (F:=F) (H:=H) (o:=o);rw[h] at k;cases k with
 | plain p=>exact (p.UK aa).elim
 | store e=>exact .inr (.inl (by unfold aC;rw[e]))
 | index e=>exact .inl aa
 | slice e=>exact .inl aa
 | make e h1 h2=>exact .inr (.inr ⟨by unfold aC;rw[e],_,_,h1,rfl,h2⟩)
theorem Py {su:TypeId->Bool} {l:List FuncId} {o:Oper}:aC su l o<=5:=by
 unfold aC
 split
 all_goals first
  | exact bM aa
  | (cases su _ <;> exact bM aa)
  | (split <;> first|exact bM aa|(cases LN l _ <;> cases UH l _ <;> exact bM aa))
theorem Sp {d:kH} (h:act C F H o=.call d):aC C.SU ml o=3\/aC C.SU ml o=4\/aC C.SU ml o=5:=by
 rcases AO h with ⟨c,f,g,first,l,cap,hop,jG,_⟩|⟨vs,_,_,⟨t,n,ps,hop,LQ⟩|h5⟩
 ·unfold aC;rw[hop];simp only[jG];cases LN ml c
  ·cases UH ml c
   ·exact .inr (.inl aa)
   ·exact .inl aa
  ·exact .inr (.inr aa)
 ·unfold aC;rw[hop];simp[LQ]
 ·have h6:=h5 C.SU ml;have h7:=Py (su:=C.SU) (l:=ml) (o:=o);omega
end
end
section
open Go.RowKit
structure Live (C:Cx) (F:Fr) (H:Hp) (w:World):Prop where
 hp:LO C H
 closed:lU F H
 fits:∀ d v,F d=some v->d<C.N
 there:∃ w1,bQ C.K w w1/\C.Old w1
section
variable {C:Cx} {F:Fr} {H:Hp} {w:World} {full:Array Oper} {p o:Oper} {k:Fr->Hp->World->Prop} {ml:List FuncId}
theorem Live.rel (h:Live C F H w):∃ β a w1,Rel C β F H a w1/\bQ C.K w w1:=by
 obtain⟨w1,h1,h2⟩:=h.there;obtain⟨β,w2,k1,k2,k3,k4⟩:=C.lay w1 H h2 h.hp.ok h.hp.ld;refine⟨β,⟨(Array.range C.N).map λd=>match F d with|some v=>v.bU β|none=>undef,[]⟩,w2,⟨aa,bN,λd v hv=> ?_,λi t cs hi=>⟨(k3 i t cs hi).1,(h.hp.ok i t cs hi).1,(k3 i t cs hi).2,(h.hp.ok i t cs hi).2⟩,k4,h.closed,h.fits,h.hp,k2⟩,h1.aR k1⟩;have hd:=h.fits d v hv;simp[Array.getD_eq_getD_getElem?,hd,hv]
variable {β:Nat->Nat}
theorem Live.of {a:Act} {w1:World} (h:Rel C β F H a w1) (hk:bQ C.K w w1):Live C F H w:=⟨h.hp,h.closed,h.fits,w1,hk,h.old⟩
def Step.still (C:Cx):Step->Option ((AV->Prop)×Option (Nat×(TypeId×List AV)))
 | .iA v u=>some (λx=>x=v,u)
 | .read i a=>some (λx=>∃ cs:List Value,cs.length=i.size/\(∀ j u,cs[j]? =some u->C.At (a.add j) u)/\x=.val (sP i cs),none)
 | .dY i cs off=>some (λx=>∃ vs:List AV,vs.length=i.size/\(∀ j u,vs[j]? =some u->cs[off+j]? =some u)/\x=tu i vs,none)
 | .cond φ v u=>some (λx=>φ/\x=v,u)
 | .call _=>none
 | .bad=>none
variable {Ψ:AV->Prop} {u:Option (Nat×(TypeId×List AV))}
theorem dH (hs:(stepOf C full F H o).still C=some (Ψ,u)):one C (some ml) full o k F H w↔∃ x,Ψ x/\k (F.cw o.dst x) (H.upd u) w:=by
 unfold one;cases hst:stepOf C full F H o with
 | iA v u'=>
   rw[hst] at hs;cases hs;exact⟨λh=>⟨v,aa,h⟩,λ⟨x,hx,h⟩=>hx▸h⟩
 | read i a=>
   rw[hst] at hs;cases hs;constructor
   ·rintro⟨cs,h1,h2|⟨h2,_⟩,h3⟩
    ·exact⟨_,⟨cs,h1,h2,aa⟩,h3⟩
    ·cases h2
   ·rintro⟨x,⟨cs,h1,h2,rfl⟩,h3⟩;exact⟨cs,h1,.inl h2,h3⟩
 | dY i cs off=>
   rw[hst] at hs;cases hs;exact⟨λ⟨vs,h1,h2,h3⟩=>⟨_,⟨vs,h1,h2,aa⟩,h3⟩,λ⟨x,⟨vs,h1,h2,e⟩,h3⟩=>⟨vs,h1,h2,e▸h3⟩⟩
 | cond φ v u'=>
   rw[hst] at hs;cases hs;exact⟨λh=>⟨v,⟨h.1,aa⟩,h.2⟩,λ⟨x,hx,h⟩=>⟨hx.1,hx.2▸h⟩⟩
 | call d=>rw[hst] at hs;cases hs
 | bad=>rw[hst] at hs;cases hs
theorem KB {α:Type} {n:Nat} {cs ds:List α} {f:Nat->Option α} (h1:cs.length=n) (h2:∀ j u,cs[j]? =some u->f j=some u) (g1:ds.length=n) (g2:∀ j u,ds[j]? =some u->f j=some u):cs=ds:=by
 apply Ul;intro j;by_cases hj:j<n
 ·have a1:=ba (show j<cs.length by omega);have a2:=ba (show j<ds.length by omega);rw[a1,a2,<-h2 j _ a1,<-g2 j _ a2]
 ·rw[vi ab,vi ab]
variable {x y:AV}
theorem Ck {s:Step} (hs:s.still C=some (Ψ,u)) (hx:Ψ x) (hy:Ψ y):x=y:=by
 cases s with
 | iA v u'=>cases hs;exact hx.trans hy.symm
 | read i a=>
   cases hs;obtain⟨cs,h1,h2,rfl⟩:=hx;obtain⟨ds,g1,g2,rfl⟩:=hy;rw[KB (f:=λj=>C.w0.cell? (a.add j)) h1 (λj u hj=>h2 j u hj _ C.uH) g1 (λj u hj=>g2 j u hj _ C.uH)]
 | dY i cs off=>
   cases hs;obtain⟨gD,h1,h2,rfl⟩:=hx;obtain⟨ds,g1,g2,rfl⟩:=hy;rw[KB (f:=λj=>cs[off+j]?) h1 h2 g1 g2]
 | cond φ v u'=>cases hs;exact hx.2.trans hy.2.symm
 | call d=>cases hs
 | bad=>cases hs
theorem iE (s:Step):s=.bad\/(∃ Ψ u,s.still C=some (Ψ,u))\/∃ d,s=.call d:=by
 cases s with
 | iA v u=>exact .inr (.inl ⟨_,_,aa⟩)
 | read i a=>exact .inr (.inl ⟨_,_,aa⟩)
 | dY i cs off=>exact .inr (.inl ⟨_,_,aa⟩)
 | cond φ v u=>exact .inr (.inl ⟨_,_,aa⟩)
 | call d=>exact .inr (.inr ⟨d,aa⟩)
 | bad=>exact .inl aa
variable {H':Hp}
theorem ir (h:act C F H' o=act C F H o):stepOf C full F H' o=stepOf C full F H o:=by unfold stepOf;rw[h]
theorem qS {s:Step} (h:stepOf C full F H o=s):s=.bad\/s=.iA (.val undef) none\/act C F H o=s:=by
 by_cases hb:stepOf C full F H o=.bad
 ·exact .inl (h.symm.trans hb)
 ·obtain⟨_,⟨_,e⟩|⟨_,e⟩⟩:=lW hb
  ·exact .inr (.inl (h.symm.trans e))
  ·exact .inr (.inr (e.symm.trans h))
theorem iG (hs:(stepOf C full F H o).still C=some (Ψ,u)):u=none\/aC C.SU ml o=3\/(aC C.SU ml o=2/\∃ d c,o.dst=some d/\u=some (d,c)/\H d=none):=by
 cases hst:stepOf C full F H o with
 | iA v u'=>
   rw[hst] at hs;cases hs;rcases qS hst with h|h|h
   ·cases h
   ·cases h;exact .inl aa
   ·exact act_upd h
 | read i a=>rw[hst] at hs;cases hs;exact .inl aa
 | dY i cs off=>rw[hst] at hs;cases hs;exact .inl aa
 | cond φ v u'=>
   rw[hst] at hs;cases hs;rcases qS hst with h|h|h
   ·cases h
   ·cases h
   ·exact ZH h
 | call d=>rw[hst] at hs;cases hs
 | bad=>rw[hst] at hs;cases hs
variable {d:kH}
theorem jd (h:stepOf C full F H o=.call d):(aC C.SU ml o=3\/aC C.SU ml o=4\/aC C.SU ml o=5)/\(lU F H->∀ i∈d.ids,H i≠none):=by
 rcases qS h with e|e|e
 ·cases e
 ·cases e
 ·exact⟨Sp e,λhc=>Ds hc e⟩
theorem zm {a b:Nat} (h:Dt a b=true):Dt b a=true:=by
 unfold Dt at h ⊢;rw[Bool.or_comm (Nat.beq b 5)];cases hb:(Nat.beq a 5 || Nat.beq b 5) with
 | true=>rw[hb] at h;cases h
 | false=>
   rw[hb] at h;simp only[cond_false,Bool.or_eq_true,Bool.and_eq_true] at h ⊢;rcases h with (((h|h)|h)|h)|h
   ·exact .inl (.inl (.inl (.inr h)))
   ·exact .inl (.inl (.inl (.inl h)))
   ·exact .inl (.inl (.inr ⟨h.2,h.1⟩))
   ·exact .inr ⟨h.2,h.1⟩
   ·exact .inl (.inr ⟨h.2,h.1⟩)
theorem xO {a b:Nat} (h:Dt a b=true):a≠5/\b≠5/\(a=0\/b=0\/(a<=2/\b<=2)\/(a=4/\b<=2)\/(a<=2/\b=4)):=by
 unfold Dt at h;cases hb:(Nat.beq a 5 || Nat.beq b 5) with
 | true=>rw[hb] at h;cases h
 | false=>
   rw[hb] at h;rw[Bool.or_eq_false_iff] at hb;simp only[cond_false,Bool.or_eq_true,Bool.and_eq_true,Nat.beq_eq,Nat.ble_eq] at h;refine⟨λe=>by rw[e] at hb;simp at hb,λe=>by rw[e] at hb;simp at hb,?_⟩;omega
theorem Cl (hs:(stepOf C full F H p).still C=some (Ψ,u)) (hm:Dt (aC C.SU ml p) (aC C.SU ml o)=true) (hdd:∀ d,p.dst=some d->o.dst≠some d) (hc:lU F H):
  stepOf C full F (H.upd u) o=stepOf C full F H o:=by
 rcases iG (ml:=ml) hs with rfl|h3|⟨h2,d,c,hd,rfl,h0⟩
 ·rfl
 ·rw[h3] at hm;have:=xO hm;exact ir (jZ (ml:=ml) (.inl ab))
 ·rw[h2] at hm;have hmi:=xO hm;show stepOf C full F (H.put d c) o=_;have:aC C.SU ml o=0\/aC C.SU ml o=1\/aC C.SU ml o=2\/aC C.SU ml o=4:=ab;rcases this with e|e|e|e
  ·exact ir (jZ (ml:=ml) (.inl e))
  ·exact ir (Sn (ml:=ml) e hc h0)
  ·cases hod:o.dst with
   | none=>exact ir (Du (ml:=ml) (c:=(d,c)) e hod)
   | some d'=>exact ir (Hb (ml:=ml) e hod (λe'=>hdd d hd (by rw[hod,e'])))
  ·exact ir (jZ (ml:=ml) (.inr e))
variable {F:Fr}
theorem qn {d d':Option Nat} (h:∀ n,d=some n->d'≠some n):(F.cw d x).cw d' y=(F.cw d' y).cw d x:=by
 cases d with
 | none=>rfl
 | some n=>
   cases d' with
   | none=>rfl
   | some n'=>
     have hne:n≠n':=λe=>h n aa (by rw[e])
     funext z
     show ((F.put n x).put n' y) z=((F.put n' y).put n x) z;simp only[Fr.eE];by_cases h1:z=n'
     ·subst h1;rw[if_pos rfl,if_neg (λe=>hne e.symm)];exact (if_pos aa).symm
     ·rw[if_neg h1];by_cases h2:z=n
      ·rw[if_pos h2,if_pos h2]
      ·rw[if_neg h2,if_neg h2,if_neg h1]
theorem ZI {Ψ':AV->Prop} {u':Option (Nat×(TypeId×List AV))} (hp:(stepOf C full F H p).still C=some (Ψ,u)) (ho:(stepOf C full F H o).still C=some (Ψ',u')) (hm:Dt (aC C.SU ml p) (aC C.SU ml o)=true) (hdd:∀ d,p.dst=some d->o.dst≠some d):
  (H.upd u).upd u'=(H.upd u').upd u:=by
 have hmi:=xO hm;rcases iG (ml:=ml) hp with rfl|h3|⟨h2,d,c,hd,rfl,h0⟩
 ·rfl
 ·rcases iG (ml:=ml) ho with rfl|g3|⟨g2,_⟩
  ·rfl
  ·omega
  ·omega
 ·rcases iG (ml:=ml) ho with rfl|g3|⟨g2,d',c',ZE,rfl,h0'⟩
  ·rfl
  ·omega
  ·have hne:d≠d':=λe=>hdd d hd (by rw[ZE,e])
   funext z
   show ((H.put d c).put d' c') z=((H.put d' c').put d c) z;simp only[Hp.eE];by_cases h1:z=d'
   ·subst h1;rw[if_pos rfl,if_neg (λe=>hne e.symm)];exact (if_pos aa).symm
   ·rw[if_neg h1];by_cases h2:z=d
    ·rw[if_pos h2,if_pos h2]
    ·rw[if_neg h2,if_neg h2,if_neg h1]
variable {R:Ending->World->Prop} {P:Program} {w:World}
theorem Calls.some {g:FuncId} {args:Array Value} (h:Calls P g args w R):∃ e w',R e w':=by
 obtain⟨e,w',_,hR,_⟩:=h [];exact⟨e,w',hR⟩
theorem BZ.some (h:BZ P d β w R):∃ e w',R e w':=by
 cases d with
 | fn g args=>exact Calls.some h.2
 | op o vs=>
   obtain⟨v,w2,_,h2⟩:=h;exact⟨_,w2,h2⟩
variable {j:AV->Fr->Hp->World->Prop}
theorem dU.mono {lv:Nat} {j':AV->Fr->Hp->World->Prop} (hL:Live C F H w) (h:dU C lv F H d w j)
  (hj:∀ r F' H' w2,Live C F' H' w2->(∀ i∈r.ids,H' i≠none)->(lv=0->H'=H)->(lv<=1->F'=F)->j r F' H' w2->j' r F' H' w2):dU C lv F H d w j':=by
 intro w1 β h1 h2 h3;refine (h w1 β h1 h2 h3).mono ?_;rintro e w2 ⟨dA,r,del,ups,rfl,OS,Jh,Ny,hch,hv⟩;refine⟨dA,r,del,ups,aa,OS,Jh,Ny,hch,λa b c ρ iI=>hj r _ _ w2 ⟨hch.hp hL.hp iI,λd' v hv' i hi=> ?_,λd' v hv'=> ?_,w2,bQ.refl _ _,c⟩ (λi hi=> ?_) (λha=> ?_) (λha=> ?_) (hv a b c ρ iI)⟩
 ·obtain⟨u,hu,_,g2⟩:=Fr.ji (β:=β) hv';obtain⟨q1,q2⟩:=g2 i hi;exact oO hch.once (Hp.oP (hL.closed d' u hu i q1) q2)
 ·obtain⟨u,hu,_⟩:=Fr.ji (β:=β) hv';exact hL.fits d' u hu
 ·rcases OS i hi with e|⟨_,e1,e2⟩
  ·exact zl hch.once e
  ·exact oO hch.once (Hp.oP e1 e2)
 ·have e1:ups=[]:=Jh.resolve_left ab;have e2:del=none:=Ny.resolve_left ab;rw[e1,e2];rfl
 ·have e2:del=none:=Ny.resolve_left ab;rw[e2];rfl
theorem dU.some {lv:Nat} (hL:Live C F H w) (h:dU C lv F H d w j):∃ r F' H' w2,(lv=0->H'=H)/\(lv<=1->F'=F)/\j r F' H' w2:=by
 obtain⟨β,a,w1,hr,hk⟩:=hL.rel;obtain⟨e,w2,dA,r,del,ups,rfl,OS,Jh,Ny,hch,hv⟩:=(h w1 β hk hr.old (hr.Pw _)).some;have ho:=hr.Pw d.ids;have k2:=hch.kp ho;refine⟨r,_,_,w2,λha=> ?_,λha=> ?_,hv (hk.aR k2) k2 (hch.old ho hr.old) (ZB β) (AP β)⟩
 ·have e1:ups=[]:=Jh.resolve_left ab;have e2:del=none:=Ny.resolve_left ab;rw[e1,e2];rfl
 ·have e2:del=none:=Ny.resolve_left ab;rw[e2];rfl
theorem dU.frame {lv:Nat} {j:AV->Hp->World->Prop} {F1:Fr} (h:dU C lv F H d w λr _ H' w2=>j r H' w2):dU C lv F1 H d w λr _ H' w2=>j r H' w2:=h
variable {i:Nat}
theorem Sq {ids:List Nat} (hh:∀ i,Reach H ids i->H' i=H i) (h:Reach H' ids i):Reach H ids i:=by
 induction h with
 | base hi=>exact .base hi
 | step hi h1 h2 ih=>exact .step ih ((hh _ ih).symm.trans h1) h2
theorem sb {ids:List Nat} (hh:∀ i,Reach H ids i->H' i=H i) (h:Reach H ids i):Reach H' ids i:=by
 induction h with
 | base hi=>exact .base hi
 | step hi h1 h2 ih=>exact .step ih ((hh _ hi).trans h1) h2
theorem dU.heap {j:AV->World->Prop} (hh:∀ i,Reach H d.ids i->H' i=H i) (h:dU C 0 F H d w λr _ _ w2=>j r w2):dU C 0 F H' d w λr _ _ w2=>j r w2:=by
 intro w1 β h1 h2 h3;have h3':tv C β H d.ids w1:=⟨λi hi t cs hx=>h3.own i (sb hh hi) t cs (by rw[hh i hi];exact hx),λi j hi hj ei ej e=>h3.apart i j (sb hh hi) (sb hh hj) (by rw[hh i hi];exact ei) (by rw[hh j hj];exact ej) e⟩;refine (h w1 β h1 h2 h3').mono ?_;rintro e w2 ⟨dA,r,del,ups,rfl,OS,Jh,Ny,hch,hv⟩;have e1:ups=[]:=Jh.resolve_left ab;have e2:del=none:=Ny.resolve_left ab;subst e1;subst e2;refine⟨dA,r,none,[],aa,λi hi=> ?_,.inr aa,.inr aa,⟨hch.os,hch.tape,hch.output,hch.size,hch.block,hch.tw,λi hi=>(by cases hi),λi hi=>(by cases hi),hch.own,λx hx=>(by cases hx),hch.once,hch.apart,λx hx=>(by cases hx)⟩,hv⟩;rcases OS i hi with e|⟨e0,e1,e2⟩
 ·exact .inl e
 ·exact .inr ⟨sb hh e0,hh i e0▸e1,e2⟩
theorem AU (hp:LO C H) {ids:List Nat} (h0:∀ i∈ids,H i≠none) (h:Reach H ids i):H i≠none:=by
 induction h with
 | base hi=>exact h0 _ hi
 | step hi h1 h2 ih=>exact hp.closed _ _ _ h1 _ h2
theorem Hc (h:aC C.SU ml o=3\/aC C.SU ml o=4\/aC C.SU ml o=5) (h5:aC C.SU ml o≠5):(aC C.SU ml o=3/\lvl C.SU (some ml) o=1)\/(aC C.SU ml o=4/\lvl C.SU (some ml) o=0):=by
 rcases h with e|e|e
 ·exact .inl ⟨e,by show GR _=_;rw[e];rfl⟩
 ·exact .inr ⟨e,by show GR _=_;rw[e];rfl⟩
 ·exact absurd e h5
theorem nZ (hC:C.Ok) (hL:Live C F H w) (hs:(stepOf C full F H o).still C=some (Ψ,u)) (hx:Ψ x):Live C (F.cw o.dst x) (H.upd u) w:=by
 obtain⟨β,a,w1,hr,hk⟩:=hL.rel;have hb:stepOf C full F H o≠.bad:=λe=>by rw[e] at hs;cases hs
 obtain⟨hd,⟨_,e⟩|⟨_,e⟩⟩:=lW hb
 ·rw[e] at hs;cases hs;cases hx;exact Live.of (hr.put hd (λ_ hi=>by cases hi)) hk
 ·rw[e] at hs;cases hst:act C F H o with
  | bad=>rw[hst] at hs;cases hs
  | call d=>rw[hst] at hs;cases hs
  | iA v u'=>
    rw[hst] at hs;cases hs;cases hx;obtain⟨dA,w2,k2,r2,_⟩:=UJ hC hst hd hr;exact Live.of r2 (hk.aR k2)
  | cond φ v u'=>
    rw[hst] at hs;cases hs;obtain⟨Sk,rfl⟩:=hx;obtain⟨dA,w2,k2,r2,_⟩:=Pr hC hst Sk hd hr;exact Live.of r2 (hk.aR k2)
  | read i y=>
    rw[hst] at hs;cases hs;obtain⟨cs,_,_,rfl⟩:=hx;exact Live.of (hr.put hd (λ_ hi=>by cases hi)) hk
  | dY i cs off=>
    rw[hst] at hs;cases hs;obtain⟨vs,h1,h2,rfl⟩:=hx;obtain⟨t,y,b,tb,hop,hi,hy,hb⟩:=Pq hst
    have LU:∀ x∈vs,x∈cs:=λx hx=>by
     obtain⟨j,hj⟩:=List.getElem?_of_mem hx;exact cX (h2 j x hj)
    have gv:vs.all aY=true:=bR.2 λx hx=>bR.1 (hr.own b tb cs hb).ok x (LU x hx);refine Live.of (hr.put hd (λj hj=> ?_)) hk;obtain⟨x,hx,hj'⟩:=bK.1 (Cb gv hj);exact hr.hp.closed b tb cs hb j (bK.2 ⟨x,LU x hx,hj'⟩)
theorem Sr (h:LV p=true):∃ t,p.op=.move (.tmp t)/\p.guard=none:=by
 unfold LV at h
 split at h
 ·rename_i t e1 e2;exact⟨t,e1,e2⟩
 ·cases h
theorem Pz {d:Option Nat} {v:AV} {ρ:AV->Value}:(F.cw d v).forget (some i) ρ=(F.forget (some i) ρ).cw d (v.fg i ρ):=by
 cases d with
 | none=>rfl
 | some n=>
   funext z
   show (match (F.put n v) z with|some v=>some (v.fg i ρ)|none=>none)=((F.forget (some i) ρ).put n (v.fg i ρ)) z;rw[Fr.eE,Fr.eE];by_cases hz:z=n
   ·rw[if_pos hz,if_pos hz]
   ·rw[if_neg hz,if_neg hz];rfl
theorem swapM (ha:p.apart full o=true) (hi:LV p=true) (h:one C (some ml) full p (one C (some ml) full o k) F H w):one C (some ml) full o (one C (some ml) full p k) F H w:=by
 obtain⟨a1,a2,a3⟩:=Oper.apart_spec ha;obtain⟨t,hop,hg⟩:=Sr hi
 have hst:∀ (F:Fr) (H:Hp),stepOf C full F H p=bif oJ C.N p.dst then Jl (F t) else .bad:=λF H=>by
  unfold stepOf wants act;rw[hg,hop];rfl
 have hto:o.dst≠some t:=λe=>a3 t e (oh (y:=.tmp t) (by rw[hop];simp[Op.operands]) aa);cases hd:oJ C.N p.dst with
 | false=>unfold one at h;rw[hst,hd] at h;exact h.elim
 | true=>
   cases hF:F t with
   | none=>unfold one at h;rw[hst,hd,hF] at h;exact h.elim
   | some v=>
     have h':one C (some ml) full o k (F.cw p.dst v) H w:=by
      unfold one at h;rw[hst,hd,hF] at h;exact h
     have eo:stepOf C full (F.cw p.dst v) H o=stepOf C full F H o:=fO a1
     have key:∀ (F':Fr) (H':Hp) (w':World) (r v':AV),F' t=some v'->k ((F'.cw p.dst v').cw o.dst r) H' w'->one C (some ml) full p k (F'.cw o.dst r) H' w':=λF' H' w' r v' hF' hk=>by
      have e:(F'.cw o.dst r) t=some v':=(qR λn hn=>λe=>hto (by rw[hn,e])).trans hF';unfold one;rw[hst,hd,e];show k ((F'.cw o.dst r).cw p.dst v') H' w';rw[qn (λn hn e'=>a2 n e' hn)];exact hk
     unfold one at h' ⊢;rw[eo] at h';cases KD:stepOf C full F H o with
     | iA y u=>rw[KD] at h';exact key F _ _ _ _ hF h'
     | read i a=>
       rw[KD] at h';obtain⟨cs,h1,h2,h3⟩:=h';exact⟨cs,h1,h2,key F _ _ _ _ hF h3⟩
     | dY i cs off=>
       rw[KD] at h';obtain⟨vs,h1,h2,h3⟩:=h';exact⟨vs,h1,h2,key F _ _ _ _ hF h3⟩
     | cond φ y u=>rw[KD] at h';exact⟨h'.1,key F _ _ _ _ hF h'.2⟩
     | bad=>rw[KD] at h';exact h'.elim
     | call d=>
       rw[KD] at h';intro w1 β h1 h2 h3;refine (h' w1 β h1 h2 h3).mono ?_;rintro e w2 ⟨dA,r,del,ups,he,OS,Jh,Ny,hch,hv⟩;refine⟨dA,r,del,ups,he,OS,Jh,Ny,hch,λa b c ρ iI=> ?_⟩;have hv':=hv a b c ρ iI;cases del with
       | none=>exact key _ _ _ _ _ hF hv'
       | some i=>
         rw[Pz] at hv';refine key _ _ _ _ _ ?_ hv';show (match F t with|some v=>some (v.fg i ρ)|none=>none)=_;rw[hF]
theorem swap (hC:C.Ok) (hL:Live C F H w) (hi:indep C.SU ml full p o=true) (h:one C (some ml) full p (one C (some ml) full o k) F H w):one C (some ml) full o (one C (some ml) full p k) F H w:=by
 unfold indep at hi;rw[gf] at hi;obtain⟨ha,hm⟩:=hi;rcases JR _ _▸hm with hm|hmv
 case inr=>exact swapM ha hmv h
 obtain⟨a1,a2,a3⟩:=Oper.apart_spec ha;have a2':∀ d,o.dst=some d->p.dst≠some d:=λd hd e=>a2 d e hd;have hmi:=xO hm;have hc:=hL.closed;rcases iE (C:=C) (stepOf C full F H p) with hp|⟨Ψp,up,hp⟩|⟨d,hp⟩
 ·unfold one at h;rw[hp] at h;exact h.elim
 ·obtain⟨x,hx,h⟩:=(dH hp).1 h;have eo:stepOf C full (F.cw p.dst x) (H.upd up) o=stepOf C full F H o:=(fO a1).trans (Cl hp hm a2 hc);rcases iE (C:=C) (stepOf C full F H o) with ho|⟨Ψo,uo,ho⟩|⟨d,ho⟩
  ·unfold one at h;rw[eo,ho] at h;exact h.elim
  ·obtain⟨y,hy,h⟩:=(dH (by rw[eo];exact ho)).1 h;refine (dH ho).2 ⟨y,hy,(dH (Ψ:=Ψp) (u:=up) ?_).2 ⟨x,hx,?_⟩⟩
   ·rw[show stepOf C full (F.cw o.dst y) (H.upd uo) p=stepOf C full F H p from (fO a3).trans (Cl ho (zm hm) a2' hc)];exact hp
   ·rw[qn a2',ZI ho hp (zm hm) a2'];exact h
  ·obtain⟨co,cid⟩:=jd (ml:=ml) ho;unfold one at h ⊢;rw[eo,ho] at h;rw[ho];have hL':=nZ hC hL hp hx;rcases Hc co hmi.2.1 with ⟨c3,al⟩|⟨c4,al⟩
   ·-- a call that may change variables:p has no memory
    have p0:aC C.SU ml p=0:=ab
    have hup:up=none:=by
     rcases iG (ml:=ml) hp with e|e|⟨e,_⟩
     ·exact e
     ·omega
     ·omega
    subst hup
    have h1:dU C (lvl C.SU (some ml) o) (F.cw p.dst x) H d w λr _ H' w2=>k ((F.cw p.dst x).cw o.dst r) H' w2:=dU.mono hL' h λr F' H' w2 _ _ _ hF hv=>by
     rw[hF ab] at hv;exact hv
    refine dU.mono hL (dU.frame (F1:=F) (j:=λr H' w2=>k ((F.cw p.dst x).cw o.dst r) H' w2) h1) λr F' H' w2 _ _ _ hF hv=> ?_;rw[hF ab]
    have:one C (some ml) full p k (F.cw o.dst r) H' w2:=by
     refine (dH (Ψ:=Ψp) (u:=none) ?_).2 ⟨x,hx,?_⟩
     ·rw[show stepOf C full (F.cw o.dst r) H' p=stepOf C full F H p from (fO a3).trans (ir (jZ (ml:=ml) (.inl p0)))];exact hp
     ·rw[qn a2'];exact hv
    exact this
   ·rw[al] at h ⊢
    have h1:dU C 0 (F.cw p.dst x) (H.upd up) d w λr _ _ w2=>k ((F.cw p.dst x).cw o.dst r) (H.upd up) w2:=dU.mono hL' h λr F' H' w2 _ _ hH hF hv=>by
     rw[hF ab,hH rfl] at hv;exact hv
    have ZJ:∀ i,Reach (H.upd up) d.ids i->H i=(H.upd up) i:=by
     rcases iG (ml:=ml) hp with e|e|⟨e,d',c,hd,e2,h0⟩
     ·rw[e];exact λ_ _=>aa
     ·omega
     ·rw[e2]
      have ZK:∀ i,Reach H d.ids i->(H.put d' c) i=H i:=λi hi=>by
       rw[Hp.eE,if_neg];intro e3;exact AU hL.hp (cid hc) hi (e3▸h0)
      exact λi hi=>(ZK i (Sq ZK hi)).symm
    have h2:=dU.frame (F1:=F) (j:=λr _ w2=>k ((F.cw p.dst x).cw o.dst r) (H.upd up) w2) (dU.heap (H':=H) (j:=λr w2=>k ((F.cw p.dst x).cw o.dst r) (H.upd up) w2) ZJ h1);refine dU.mono hL h2 λr F' H' w2 _ _ hH hF hv=> ?_;rw[hH rfl,hF ab]
    have:one C (some ml) full p k (F.cw o.dst r) H w2:=by
     refine (dH (Ψ:=Ψp) (u:=up) ?_).2 ⟨x,hx,?_⟩
     ·rw[show stepOf C full (F.cw o.dst r) H p=stepOf C full F H p from fO a3];exact hp
     ·rw[qn a2'];exact hv
    exact this
 ·obtain⟨cp,cid⟩:=jd (ml:=ml) hp
  have h':dU C (lvl C.SU (some ml) p) F H d w λr F' H' w2=>one C (some ml) full o k (F'.cw p.dst r) H' w2:=by
   unfold one at h;rw[hp] at h;exact h
  rcases Hc cp hmi.1 with ⟨c3,al⟩|⟨c4,al⟩
  ·have o0:aC C.SU ml o=0:=by omega
   have eo:∀ (r:AV) (H':Hp),stepOf C full (F.cw p.dst r) H' o=stepOf C full F H o:=λr H'=>(fO a1).trans (ir (jZ (ml:=ml) (.inl o0)));rcases iE (C:=C) (stepOf C full F H o) with ho|⟨Ψo,uo,ho⟩|⟨d',ho⟩
   ·obtain⟨r,F',H',w2,_,hF,hv⟩:=h'.some hL;rw[hF ab] at hv;unfold one at hv;rw[eo r H',ho] at hv;exact hv.elim
   ·have huo:uo=none:=by
     rcases iG (ml:=ml) ho with e|e|⟨e,_⟩
     ·exact e
     ·omega
     ·omega
    subst huo;obtain⟨r,F',H',w2,_,hF,hv⟩:=h'.some hL;rw[hF ab] at hv;obtain⟨y,hy,_⟩:=(dH (by rw[eo r H'];exact ho)).1 hv;refine (dH ho).2 ⟨y,hy,?_⟩;have ep:stepOf C full (F.cw o.dst y) (H.upd none) p=.call d:=(fO a3).trans hp;unfold one;rw[ep]
    have h1:dU C (lvl C.SU (some ml) p) F H d w λr _ H' w2=>k ((F.cw o.dst y).cw p.dst r) H' w2:=dU.mono hL h' λr F' H' w2 _ _ _ hF hv=>by
     rw[hF ab] at hv;obtain⟨z,hz,hv⟩:=(dH (by rw[eo r H'];exact ho)).1 hv;rw[Ck ho hy hz,qn a2'];exact hv
    exact dU.mono (nZ hC hL ho hy) (dU.frame (F1:=F.cw o.dst y) (j:=λr H' w2=>k ((F.cw o.dst y).cw p.dst r) H' w2) h1) λr F' H' w2 _ _ _ hF hv=>by
     rw[hF ab];exact hv
   ·obtain⟨co,_⟩:=jd (ml:=ml) ho;omega
  ·rw[al] at h';have eo:∀ r:AV,stepOf C full (F.cw p.dst r) H o=stepOf C full F H o:=λr=>fO a1
   have h2:dU C 0 F H d w λr _ _ w2=>one C (some ml) full o k (F.cw p.dst r) H w2:=dU.mono hL h' λr F' H' w2 _ _ hH hF hv=>by
    rw[hH rfl,hF ab] at hv;exact hv
   rcases iE (C:=C) (stepOf C full F H o) with ho|⟨Ψo,uo,ho⟩|⟨d',ho⟩
   ·obtain⟨r,F',H',w2,_,_,hv⟩:=h2.some hL;unfold one at hv;rw[eo r,ho] at hv;exact hv.elim
   ·obtain⟨r,F',H',w2,_,_,hv⟩:=h2.some hL;obtain⟨y,hy,_⟩:=(dH (by rw[eo r];exact ho)).1 hv;refine (dH ho).2 ⟨y,hy,?_⟩;have ep:stepOf C full (F.cw o.dst y) (H.upd uo) p=.call d:=((fO a3).trans (Cl ho (zm hm) a2' hc)).trans hp;unfold one;rw[ep,al]
    have ZJ:∀ i,Reach H d.ids i->(H.upd uo) i=H i:=λi hi=>by
     rcases iG (ml:=ml) ho with e|e|⟨e,d',c,hd,e2,h0⟩
     ·rw[e];rfl
     ·omega
     ·rw[e2];show (H.put d' c) i=H i;rw[Hp.eE,if_neg];intro e3;exact AU hL.hp (cid hc) hi (e3▸h0)
    have h3:=dU.frame (F1:=F.cw o.dst y) (j:=λr H' w2=>one C (some ml) full o k (F.cw p.dst r) H w2) (dU.heap (H':=H.upd uo) (j:=λr w2=>one C (some ml) full o k (F.cw p.dst r) H w2) ZJ h2);refine dU.mono (nZ hC hL ho hy) h3 λr F' H' w2 _ _ hH hF hv=> ?_;obtain⟨z,hz,hv⟩:=(dH (by rw[eo r];exact ho)).1 hv;rw[hH rfl,hF ab,Ck ho hy hz,qn a2'];exact hv
   ·obtain⟨co,_⟩:=jd (ml:=ml) ho;omega
theorem tD (hC:C.Ok) {k':Fr->Hp->World->Prop} (hL:Live C F H w) (h:one C (some ml) full p k F H w) (hk:∀ F' H' w',Live C F' H' w'->k F' H' w'->k' F' H' w'):one C (some ml) full p k' F H w:=by
 rcases iE (C:=C) (stepOf C full F H p) with hp|⟨Ψp,up,hp⟩|⟨d,hp⟩
 ·unfold one at h;rw[hp] at h;exact h.elim
 ·obtain⟨x,hx,h⟩:=(dH hp).1 h;exact (dH hp).2 ⟨x,hx,hk _ _ _ (nZ hC hL hp hx) h⟩
 ·have hb:stepOf C full F H p≠.bad:=λe=>by rw[e] at hp;cases hp
  have hd:=(lW hb).1;unfold one at h ⊢;rw[hp] at h ⊢;refine dU.mono hL h λr F' H' w2 hL2 OS _ _ hv=>hk _ _ _ ?_ hv;obtain⟨β,a,w1,hr,Hd⟩:=hL2.rel;exact Live.of (hr.put hd OS) Hd
theorem Ss (hC:C.Ok) {K:Fr->Hp->World->Prop} {post:List Oper}:∀ (pre:List Oper) (F:Fr) (H:Hp) (w:World),(∀ q∈pre,indep C.SU ml full q o=true)->Live C F H w->aG C (some ml) full (pre++o::post) K F H w->aG C (some ml) full (o::(pre++post)) K F H w
 | [],F,H,w,_,_,h=>h
 | q::r,F,H,w,hi,hL,h=>by
   have h1:one C (some ml) full q (aG C (some ml) full (o::(r++post)) K) F H w:=tD hC hL (show one C (some ml) full q (aG C (some ml) full (r++o::post) K) F H w from h) λF' H' w' hL' hv=>Ss hC r F' H' w' (λq' hq'=>hi q' (by simp[hq'])) hL' hv;exact swap hC hL (hi q bN) h1
end
section
variable {C:Cx} {full:Array Oper} {ml:List FuncId} {Q:Exit->Act->World->Prop}
theorem PA {j d:Nat} {o:Oper} (ho:full[j]? =some o):d∈eb full j↔∃ e∈o.after.toList,Region.binds .any e=true/\e.on=d:=by
 unfold eb;rw[ho];simp only[List.mem_map,List.mem_filter];exact⟨λ⟨e,⟨h1,h2⟩,h3⟩=>⟨e,h1,h2,h3⟩,λ⟨e,h1,h2,h3⟩=>⟨e,⟨h1,h2⟩,h3⟩⟩
variable {listed:Array Bool} {i:Nat}
theorem mem_ready:i∈Region.ready .any full listed↔i<full.size/\listed.getD i true=false/\∀ d∈eb full i,listed.getD d false=true:=by
 unfold Region.ready;rw[rP,qG];constructor
 ·rintro⟨h1,h2⟩;have ho:=mH h1;simp only[Bool.and_eq_true,Bool.not_eq_true',ho,Option.map_some,Option.getD_some,Array.all_eq_true_iff_forall_mem,Bool.or_eq_true] at h2;refine⟨h1,h2.1,λd hd=> ?_⟩;obtain⟨e,he,hb,rfl⟩:=(PA ho).1 hd;rcases h2.2 e (by simpa using he) with h|h
  ·rw[hb] at h;cases h
  ·exact h
 ·rintro⟨h1,h2,h3⟩;refine⟨h1,?_⟩;have ho:=mH h1;simp only[Bool.and_eq_true,Bool.not_eq_true',ho,Option.map_some,Option.getD_some,Array.all_eq_true_iff_forall_mem,Bool.or_eq_true];refine⟨h2,λe he=> ?_⟩;cases hb:Region.binds .any e with
  | false=>exact .inl aa
  | true=>exact .inr (h3 _ ((PA ho).2 ⟨e,by simpa using he,hb,rfl⟩))
theorem kK {listed:Array Bool} (gS:∀ j,j<full.size->∀ d∈eb full j,d<j) (kX:∀ j,j<full.size->listed.getD j true=true->∀ d∈eb full j,listed.getD d false=true) (hsz:listed.size=full.size) {i:Nat}:
  ∀ (f j:Nat),j<full.size->(∀ d∈eb full j,listed.getD d false=true)->reach full f j i=true->listed.getD i false=true
 | 0,j,_,hj,h=>hj i (by unfold reach at h;simpa using h)
 | f+1,j,hjs,hj,h=>by
   unfold reach at h;rcases JR _ _▸h with e|e
   ·exact hj i (by simpa using e)
   ·obtain⟨d,hd,e⟩:=List.any_eq_true.1 e;rw[gf] at e;have hdj:=gS j hjs d hd;have hl:=hj d hd;refine kK gS kX hsz f d ab (kX d ab ?_) e.2;have:d<listed.size:=ab;rw[gl] at hl ⊢;rw[mH this] at hl ⊢;exact hl
variable {K:Fr->Hp->World->Prop}
theorem WS (hC:C.Ok) (oc:uK C.SU ml full=true) (hQ:∀ β F H w a w',K F H w->Rel C β F H a w'->bQ C.K w w'->Q .normal a w'):
  ∀ (fuel:Nat) (listed:Array Bool) (rem:List Nat) (β:Nat->Nat) (F:Fr) (H:Hp) (w:World) (a:Act) (w':World),listed.size=full.size->rem.Pairwise (·< ·)->(∀ x,x∈rem↔x<full.size/\listed.getD x true=false)->rem.length<=fuel->
    (∀ j,j<full.size->listed.getD j true=true->∀ d∈eb full j,listed.getD d false=true)->
    aG C (some ml) full (rem.filterMap (full[·]?)) K F H w->Rel C β F H a w'->bQ C.K w w'->wpAny C.P .any full Q fuel listed a w':=by
 have gS:∀ j,j<full.size->∀ d∈eb full j,d<j:=λj hj d hd=>by
  unfold uK at oc;have:=bR.1 oc j (qG.2 hj);rw[gf] at this;exact bM (bR.1 this.1 d hd)
 have UM:∀ i j,i<j->j<full.size->mW C.SU ml full i j=true:=λi j hij hj=>by
  unfold uK at oc;have:=bR.1 oc j (qG.2 hj);rw[gf] at this;exact bR.1 this.2 i (qG.2 hij)
 intro fuel
 induction fuel with
 | zero=>
   intro listed rem β F H w a w' hsz hpw zn hlen kX h hr hk;have h0:rem=[]:=js ab;subst h0;refine⟨?_,hQ β F H w a w' h hr hk⟩;rw[CS];intro i hi;have:=mem_ready.1 hi;exact absurd ((zn i).2 ⟨this.1,this.2.1⟩) bN
 | succ fuel ih=>
   intro listed rem β F H w a w' hsz hpw zn hlen kX h hr hk;constructor
   ·intro wZ;cases rem with
    | nil=>exact hQ β F H w a w' h hr hk
    | cons i r=>
      exfalso;have hi:=(zn i).1 bN
      have:i∈Region.ready .any full listed:=mem_ready.2 ⟨hi.1,hi.2,λd hd=>by
       have hdi:=gS i hi.1 d hd;cases hl:listed.getD d true with
       | true=>
         rw[gl] at hl ⊢;have:d<listed.size:=ab;rw[mH this] at hl ⊢;exact hl
       | false=>
         have hm:=(zn d).2 ⟨ab,hl⟩;rcases dW.1 hm with e|e
         ·omega
         ·have:=(JM.1 hpw).1 d e;omega⟩
      rw[wZ] at this;cases this
   ·intro i hi;obtain⟨mA,AW,Dv⟩:=mem_ready.1 hi;obtain⟨pre,post,rfl⟩:=Gf ((zn i).2 ⟨mA,AW⟩);have ho:=mH mA;generalize full[i]=o at ho;have gP:=JJ.1 hpw;have hlt:∀ p∈pre,p<i:=λp hp=>gP.2.2 p hp i bN;have WT:∀ p∈post,i<p:=(JM.1 gP.2.1).1
    have hb:aG C (some ml) full (o::(pre.filterMap (full[·]?)++post.filterMap (full[·]?))) K F H w:=by
     refine Ss hC _ F H w (λq hq=> ?_) (Live.of hr hk) (by
      rw[Ue,Ub ho] at h;exact h)
     obtain⟨p,hp,Dw⟩:=List.mem_filterMap.1 hq;have nw:=((zn p).1 (by simp[hp])).2;have KE:=hlt p hp;have:=UM p i KE mA;unfold mW at this;rw[Dw,ho] at this;simp only[Bool.or_eq_true] at this
     have hno:listed.getD p false=false:=by
      have:p<listed.size:=ab;rw[gl] at nw ⊢;rw[mH this] at nw ⊢;exact nw
     rcases this with e|e
     ·exact e
     ·have:=kK gS kX hsz full.size i mA Dv e;rw[hno] at this;cases this
    have vO:one C (some ml) full o (aG C (some ml) full ((pre++post).filterMap (full[·]?)) K) F H w:=by
     rw[Ue];exact hb
    have:=mj (Q:=Q) (next:=wpAny C.P .any full Q fuel (listed.setIfInBounds i true)) hC vO hr hk λdA F' H' w1 a' xM h1 h2 h3=>by
     refine ih (listed.setIfInBounds i true) (pre++post) dA F' H' w1 a' xM (by simp[hsz]) ?_ ?_ ?_ ?_ h1 h2 h3
     ·exact JJ.2 ⟨gP.1,(JM.1 gP.2.1).2,λx hx y hy=>gP.2.2 x hx y (by simp[hy])⟩
     ·intro x;by_cases hx:x=i
      ·subst hx;constructor
       ·intro hm;rcases gg.1 hm with e|e
        ·exact absurd (hlt _ e) ab
        ·exact absurd (WT _ e) ab
       ·rintro⟨_,e⟩;simp[Array.getD_eq_getD_getElem?,Array.getElem?_setIfInBounds,hsz,mA] at e
      ·have e1:(listed.setIfInBounds i true).getD x true=listed.getD x true:=by
        rw[gl,zY,if_neg (λe=>hx e.symm),<-gl]
       rw[e1,<-zn x];simp[hx]
     ·have:(pre++i::post).length=(pre++post).length+1:=by simp;omega
      omega
     ·intro j hj hl d hd
      have mD:listed.getD d false=true->(listed.setIfInBounds i true).getD d false=true:=λe=>by
       by_cases hx:d=i
       ·subst hx;simp[Array.getD_eq_getD_getElem?,Array.getElem?_setIfInBounds,hsz,mA]
       ·rw[gl,zY,if_neg (λe=>hx e.symm),<-gl];exact e
      by_cases hx:j=i
      ·subst hx;exact mD (Dv d hd)
      ·refine mD (kX j hj ?_ d hd)
       rwa [gl,zY,if_neg (λe=>hx e.symm),<-gl] at hl
    unfold wpOp;rw[ho];simp only
    split
    ·rename_i hw;rw[if_pos hw] at this;exact .inl this
    ·rename_i hw;rw[if_neg hw] at this;exact this
theorem KF:∀ (l:List Oper) (k:Nat),(∀ j,l[j]? =full[k+j]?)->(List.range' k l.length).filterMap (full[·]?)=l
 | [],_,_=>rfl
 | o::l,k,h=>by
   rw[fh,List.range'_succ,Ub (b:=o) (by simpa using (h 0).symm),KF l (k+1) (λj=>by
    have:=h (j+1);simpa [Nat.add_assoc,Nat.add_comm 1 j] using this)]
variable {F:Fr} {H:Hp} {β:Nat->Nat} {w:World}
theorem Rel.drew {a:Act} (hr:Rel C β F H a w):Rel C β F H a w.drew:=
 ⟨hr.defers,hr.size,hr.tmp,λi t cs h=>⟨(hr.own i t cs h).new,(hr.own i t cs h).ty,(hr.own i t cs h).cls,(hr.own i t cs h).ok⟩,hr.apart,hr.closed,hr.fits,hr.hp,C.aR hr.old ((aU.refl _).drew)⟩
variable {w':World}
theorem bQ.drew {K:KC} (h:bQ K w w'):bQ K w w'.drew:=⟨h.size,h.cell,h.block,h.map⟩
variable {id:Nat}
theorem LW (hC:C.Ok) (hm:C.P.follows .mixedOrders=true) (oc:uK C.SU ml full=true) (hQ:∀ β F H w a w',K F H w->Rel C β F H a w'->bQ C.K w w'->Q .normal a w')
  {a:Act} (h:aG C (some ml) full full.toList K F H w) (hr:Rel C β F H a w') (hk:bQ C.K w w'):(Code.region id full true).wp C.P Q a w':=by
 refine wp_region_any hm ?_;refine WS hC oc hQ full.size (Array.replicate full.size false) (List.range full.size) β F H w a w'.drew bN List.pairwise_lt_range ?_ bN ?_ ?_ hr.drew hk.drew
 ·intro x;rw[qG];constructor
  ·intro hx;refine⟨hx,?_⟩;simp[Array.getD_eq_getD_getElem?,Array.getElem?_replicate,hx]
  ·exact λh=>h.1
 ·intro j hj hl;simp[Array.getD_eq_getD_getElem?,Array.getElem?_replicate,hj] at hl
 ·have:(List.range full.size).filterMap (full[·]?)=full.toList:=by
   rw[List.range_eq_range',<-Ge];exact KF full.toList 0 (λj=>bN)
  rw[this];exact h
def PB (l:List Nat) (p:Nat->Prop):Prop:=match l with
 | []=>True
 | i::r=>p i/\PB r p
theorem PC {p:Nat->Prop}:∀ {l:List Nat},PB l p->∀ i∈l,p i
 | j::r,h,i,hi=>by
   rcases dW.1 hi with rfl|e
   ·exact h.1
   ·exact PC h.2 i e
def Eg (l:List Nat) (i:Nat):Bool:=l.any (Nat.beq i)
theorem AX {l:List Nat}:Eg l i=true↔i∈l:=by
 unfold Eg;rw[List.any_eq_true];exact⟨λ⟨y,hy,e⟩=>(qC e)▸hy,λh=>⟨i,h,bN⟩⟩
def rdy (full:Array Oper) (done:List Nat):List Nat:=(List.range full.size).filter λi=> !(Eg done i) && (eb full i).all (Eg done)
def Lists (full:Array Oper) (done:List Nat) (listed:Array Bool):Prop:=listed.size=full.size/\(∀ i,i<full.size->(listed.getD i true=true↔i∈done))/\∀ i∈done,i<full.size
theorem Cm {done:List Nat} (h:Lists full done listed):i∈Region.ready .any full listed↔i∈rdy full done:=by
 rw[mem_ready];unfold rdy;rw[rP,qG,gf,bR]
 have hf:∀ d,listed.getD d false=true↔d<full.size/\d∈done:=λd=>by
  by_cases hd:d<full.size
  ·have hl:d<listed.size:=by rw[h.1];exact hd
   have:=h.2.1 d hd;rw[gl] at this ⊢;rw[mH hl] at this ⊢;exact⟨λe=>⟨hd,this.1 e⟩,λe=>this.2 e.2⟩
  ·have hl:¬ d<listed.size:=by rw[h.1];exact hd
   rw[gl,Array.getElem?_eq_none ab];exact⟨λe=>(by cases e),λe=>absurd e.1 hd⟩
 constructor
 ·rintro⟨h1,h2,h3⟩;refine⟨h1,?_,λd hd=>AX.2 ((hf d).1 (h3 d hd)).2⟩;cases hb:Eg done i with
  | false=>rfl
  | true=>
    have:=(h.2.1 i h1).2 (AX.1 hb);rw[h2] at this;cases this
 ·rintro⟨h1,h2,h3⟩;refine⟨h1,?_,λd hd=>(hf d).2 ?_⟩
  ·cases hb:listed.getD i true with
   | false=>rfl
   | true=>
     rw[AX.2 ((h.2.1 i h1).1 hb)] at h2;cases h2
  ·have:=AX.1 (h3 d hd);exact⟨h.2.2 d this,this⟩
def xa (C:Cx) (ml:List FuncId) (full:Array Oper):Nat->List Nat->(Fr->Hp->World->Prop)->Fr->Hp->World->Prop
 | 0,_,K,F,H,w=>K F H w
 | f+1,done,K,F,H,w=>match rdy full done with
   | []=>K F H w
   | l=>PB l λi=>match full[i]? with
     | some o=>one C (some ml) full o (xa C ml full f (i::done) K) F H w
     | none=>False
theorem PD (hC:C.Ok) (hQ:∀ β F H w a w',K F H w->Rel C β F H a w'->bQ C.K w w'->Q .normal a w'):
  ∀ (f:Nat) (done:List Nat) (listed:Array Bool) (β:Nat->Nat) (F:Fr) (H:Hp) (w:World) (a:Act) (w':World),Lists full done listed->((List.range full.size).filter λi=> !Eg done i).length<=f->xa C ml full f done K F H w->Rel C β F H a w'->bQ C.K w w'->wpAny C.P .any full Q f listed a w':=by
 intro f
 induction f with
 | zero=>
   intro done listed β F H w a w' hL hf h hr hk;refine⟨?_,hQ β F H w a w' h hr hk⟩;rw[CS];intro i hi;have BO:=(Cm hL).1 hi;unfold rdy at BO;rw[rP,gf] at BO;have:i∈(List.range full.size).filter λi=> !Eg done i:=rP.2 ⟨BO.1,BO.2.1⟩;rw[js (Nat.le_zero.1 hf)] at this;cases this
 | succ f ih=>
   intro done listed β F H w a w' hL hf h hr hk;unfold xa at h;constructor
   ·intro wZ
    have:rdy full done=[]:=by
     rw[CS];intro i hi;have:=(Cm hL).2 hi;rw[wZ] at this;cases this
    rw[this] at h;exact hQ β F H w a w' h hr hk
   ·intro i hi
    have h':PB (rdy full done) λi=>match full[i]? with
     | some o=>one C (some ml) full o (xa C ml full f (i::done) K) F H w
     | none=>False:=by
     cases hl:rdy full done with
     | nil=>exact ag
     | cons x r=>rw[hl] at h;exact h
    have BO:=(Cm hL).1 hi;have vO:=PC h' i BO;obtain⟨mA,AW,_⟩:=mem_ready.1 hi;unfold rdy at BO;rw[rP,gf] at BO;have ho:=mH mA;generalize full[i]=o at ho;rw[ho] at vO
    have:=mj (Q:=Q) (next:=wpAny C.P .any full Q f (listed.setIfInBounds i true)) hC vO hr hk λdA F' H' w1 a' xM h1 h2 h3=>
     ih (i::done) (listed.setIfInBounds i true) dA F' H' w1 a' xM ⟨by simp[hL.1],λj hj=>by
      by_cases e:j=i
      ·subst e;have hl:j<listed.size:=by rw[hL.1];exact hj
       simp[Array.getD_eq_getD_getElem?,Array.getElem?_setIfInBounds,hl]
      ·rw[gl,zY,if_neg (λe'=>e e'.symm),<-gl,hL.2.1 j hj];simp[e],λj hj=>by
      rcases dW.1 hj with e|e
      ·rw[e];exact mA
      ·exact hL.2.2 j e⟩ (by
      have e1:((List.range full.size).filter λj=> !Eg (i::done) j)=((List.range full.size).filter λj=> !Eg done j).filter λj=> !Nat.beq j i:=by
       rw[List.filter_filter]
       congr 1
       funext j
       show (!(Nat.beq j i || Eg done j))=_;rw[Bool.not_or]
      have hlt:(((List.range full.size).filter λj=> !Eg done j).filter λj=> !Nat.beq j i).length<((List.range full.size).filter λj=> !Eg done j).length:=
       List.length_filter_lt_length_iff_exists.2 ⟨i,rP.2 ⟨BO.1,BO.2.1⟩,bN⟩
      rw[e1];omega) h1 h2 h3
    unfold wpOp;rw[ho];simp only
    split
    ·rename_i hw;rw[if_pos hw] at this;exact .inl this
    ·rename_i hw;rw[if_neg hw] at this;exact this
theorem St (hC:C.Ok) (hm:C.P.follows .mixedOrders=true) (hQ:∀ β F H w a w',K F H w->Rel C β F H a w'->bQ C.K w w'->Q .normal a w')
  {a:Act} (h:xa C ml full full.size [] K F H w) (hr:Rel C β F H a w') (hk:bQ C.K w w'):(Code.region id full true).wp C.P Q a w':=by
 refine wp_region_any hm ?_;refine PD hC hQ full.size [] (Array.replicate full.size false) β F H w a w'.drew ⟨bN,λi hi=> ?_,λi hi=>(by cases hi)⟩ ?_ h hr.drew hk.drew
 ·simp[Array.getD_eq_getD_getElem?,Array.getElem?_replicate,hi]
 ·exact bj (List.length_filter_le _ _) bN
end
inductive It where
 | code (c:Code)
 | pk (id:Nat)
 | back (Φ:Act->World->Prop)
 | scope
def post (P:Program) (Q:Exit->Act->World->Prop):List It->Exit->Act->World->Prop
 | []=>Q
 | .code c::k=>Exit.then (λa w=>c.wp P (post P Q k) a w) (post P Q k)
 | .pk id::k=>Exit.inBlock id (post P Q k)
 | .back Φ::k=>Exit.then Φ (post P Q k)
 | .scope::k=>Exit.noGoto (post P Q k)
def VS (C:Cx) (Q:Exit->Act->World->Prop) (stk:List It) (F:Fr) (H:Hp) (w:World):Prop:=
 ∀ β a w',Rel C β F H a w'->bQ C.K w w'->post C.P Q stk .normal a w'
def pop (id:Nat):List It->Option (List It)
 | []=>none
 | .code _::k=>pop id k
 | .back _::k=>pop id k
 | .scope::k=>pop id k
 | .pk i::k=>bif Nat.beq id i then some k else pop id k
def Fr.of (L:List (Nat×AV)):Fr:=λn=>match L with
 | []=>none
 | (d,v)::r=>bif Nat.beq n d then some v else Fr.of r n
def Hp.of (L:List (Nat×(TypeId×List AV))):Hp:=λn=>match L with
 | []=>none
 | (d,v)::r=>bif Nat.beq n d then some v else Hp.of r n
def He (F:Fr):List (Nat×AV)->Prop
 | []=>True
 | p::r=>F p.1=some p.2/\He F r
def zo (H:Hp):List (Nat×(TypeId×List AV))->Prop
 | []=>True
 | p::r=>H p.1=some p.2/\zo H r
def inM (M:List (Nat×(TypeId×List AV))) (i:Nat):Bool:=M.any λq=>Nat.beq i q.1
def LX (L:List (Nat×AV)) (M:List (Nat×(TypeId×List AV))):Bool:=L.all λp=>p.2.ids.all λi=>inM M i
def jj (M:List (Nat×(TypeId×List AV))) (cs:List AV):Prop:=∀ j∈aI cs,inM M j=true
def uL (M:List (Nat×(TypeId×List AV))):List (Nat×(TypeId×List AV))->Prop
 | []=>True
 | p::r=>jj M p.2.2/\uL M r
variable {M:List (Nat×(TypeId×List AV))} {cs:List AV}
theorem jj.lit (h:(aI cs).all (inM M)=true):jj M cs:=λj hj=>bR.1 h j hj
theorem jj.none (h:aI cs=[]):jj M cs:=λj hj=>by rw[h] at hj;cases hj
theorem jj.vals (vs:List Value):jj M (vs.map .val):=.none (aw vs)
theorem jj.append {ds:List AV} (h:jj M cs) (k:jj M ds):jj M (cs++ds):=λj hj=>by
 rw[ey] at hj;exact (gg.1 hj).elim (h j) (k j)
theorem uL.mem {M:List (Nat×(TypeId×List AV))}:∀ {r:List (Nat×(TypeId×List AV))},uL M r->∀ p∈r,jj M p.2.2
 | [],_,p,hp=>by cases hp
 | q::r,h,p,hp=>by
   rcases dW.1 hp with rfl|e
   ·exact h.1
   ·exact uL.mem h.2 p e
section
variable {C:Cx} {Q:Exit->Act->World->Prop} {k:List It} {F:Fr} {H:Hp} {w:World}
theorem Fr.kc:∀ {L:List (Nat×AV)} {d:Nat} {v:AV},Fr.of L d=some v->(d,v)∈L
 | [],d,v,h=>by unfold Fr.of at h;cases h
 | (e,u)::r,d,v,h=>by
   unfold Fr.of at h;cases hb:Nat.beq d e with
   | true=>
     rw[hb] at h;cases h;rw[qC hb];simp
   | false=>
     rw[hb] at h;exact qE _ (Fr.kc h)
theorem Hp.kc:∀ {L:List (Nat×(TypeId×List AV))} {d:Nat} {v:TypeId×List AV},Hp.of L d=some v->(d,v)∈L
 | [],d,v,h=>by unfold Hp.of at h;cases h
 | (e,u)::r,d,v,h=>by
   unfold Hp.of at h;cases hb:Nat.beq d e with
   | true=>
     rw[hb] at h;cases h;rw[qC hb];simp
   | false=>
     rw[hb] at h;exact qE _ (Hp.kc h)
theorem He.mem:∀ {L:List (Nat×AV)},He F L->∀ d v,(d,v)∈L->F d=some v
 | p::r,h,d,v,hm=>by
   rcases dW.1 hm with e|e
   ·have:=h.1;rw[<-e] at this;exact this
   ·exact He.mem h.2 d v e
theorem zo.mem:∀ {L:List (Nat×(TypeId×List AV))},zo H L->∀ d v,(d,v)∈L->H d=some v
 | p::r,h,d,v,hm=>by
   rcases dW.1 hm with e|e
   ·have:=h.1;rw[<-e] at this;exact this
   ·exact zo.mem h.2 d v e
theorem Hp.LY:∀ {M:List (Nat×(TypeId×List AV))} {i:Nat},inM M i=true->Hp.of M i≠none
 | (e,u)::r,i,h=>by
   unfold Hp.of;cases hb:Nat.beq i e with
   | true=>simp
   | false=>
     unfold inM at h;rw[List.any_cons,hb] at h;exact Hp.LY h
variable {β:Nat->Nat}
theorem Rel.narrow {a:Act} (hr:Rel C β F H a w) {L:List (Nat×AV)} {M:List (Nat×(TypeId×List AV))} (h1:He F L) (h2:zo H M) (h3:LX L M=true) (h4:uL M M):Rel C β (Fr.of L) (Hp.of M) a w:=by
 have key:∀ i,Hp.of M i≠none->H i≠none:=λi hi=>by
  cases hh:Hp.of M i with
  | none=>exact absurd hh hi
  | some c=>rw[h2.mem i c (Hp.kc hh)];simp
 refine⟨hr.defers,hr.size,λd v h=>hr.tmp d v (h1.mem d v (Fr.kc h)),λi t cs h=>hr.own i t cs (h2.mem i _ (Hp.kc h)),λi j hi hj e=>hr.apart i j (key i hi) (key j hj) e,λd v h i hi=> ?_,λd v h=>hr.fits d v (h1.mem d v (Fr.kc h)),
  ⟨λi t cs h=>hr.hp.ok i t cs (h2.mem i _ (Hp.kc h)),λi t cs h j hj=>Hp.LY (h4.mem _ (Hp.kc h) j hj),λi hi=> ?_⟩,hr.old⟩
 ·have:=bR.1 h3 _ (Fr.kc h);exact Hp.LY (bR.1 this i hi)
 ·cases hh:Hp.of M i with
  | none=>rfl
  | some c=>exact absurd (hr.hp.ld i hi) (key i (by rw[hh];simp))
theorem VS.narrow (L:List (Nat×AV)) (M:List (Nat×(TypeId×List AV))) (h1:He F L) (h2:zo H M) (h3:LX L M=true) (h4:uL M M) (h:VS C Q k (Fr.of L) (Hp.of M) w):VS C Q k F H w:=
 λβ a w' hr hk=>h β a w' (hr.narrow h1 h2 h3 h4) hk
theorem VS.now (h:∀ w',bQ C.K w w'->C.Old w'->VS C Q k F H w'):VS C Q k F H w:=λβ a w' hr hk=>h w' hk hr.old β a w' hr (bQ.refl _ _)
theorem VS.skip (h:VS C Q k F H w):VS C Q (.code .skip::k) F H w:=λβ a w' hr hk=>wp_skip (h β a w' hr hk)
variable {x y:Code}
theorem VS.seq (h:VS C Q (.code x::.code y::k) F H w):VS C Q (.code (.seq x y)::k) F H w:=λβ a w' hr hk=>wp_seq (h β a w' hr hk)
variable {id:Nat}
theorem VS.block {c:Code} (h:VS C Q (.code c::.pk id::k) F H w):VS C Q (.code (.block id c)::k) F H w:=λβ a w' hr hk=>wp_block (h β a w' hr hk)
theorem VS.pk (h:VS C Q k F H w):VS C Q (.pk id::k) F H w:=h
variable {c:Operand}
theorem VS.cond {b:Bool} (hc:pw F c=some (.bool b)) (h:VS C Q (.code (bif b then x else y)::k) F H w):VS C Q (.code (.cond c x y)::k) F H w:=λβ a w' hr hk=>
 wp_cond (t:=b) (hr.pw hc) (by cases b <;> exact h β a w' hr hk)
theorem VS.condT (hc:pw F c=some (.bool true)) (h:VS C Q (.code x::k) F H w):VS C Q (.code (.cond c x y)::k) F H w:=VS.cond hc h
theorem VS.condF (hc:pw F c=some (.bool false)) (h:VS C Q (.code y::k) F H w):VS C Q (.code (.cond c x y)::k) F H w:=VS.cond hc h
theorem VS.condB {b:Bool} (b':Bool) (hc:pw F c=some (.bool b)) (hb:b=b') (h:VS C Q (.code (bif b' then x else y)::k) F H w):VS C Q (.code (.cond c x y)::k) F H w:=VS.cond hc (hb▸h)
theorem VS.aV {b:Bool} (hc:pw F c=some (.bool b)) (hb:b=true) (h:VS C Q (.code x::k) F H w):VS C Q (.code (.cond c x y)::k) F H w:=VS.condB true hc hb h
theorem VS.aP {b:Bool} (hc:pw F c=some (.bool b)) (hb:b=false) (h:VS C Q (.code y::k) F H w):VS C Q (.code (.cond c x y)::k) F H w:=VS.condB false hc hb h
theorem xb {P:Program} {id:Nat}:∀ {stk k:List It} {a:Act} {w:World},pop id stk=some k->post P Q k .normal a w->post P Q stk (.exit id) a w
 | .code _::s,k,a,w,h,hp=>xb (stk:=s) h hp
 | .back _::s,k,a,w,h,hp=>xb (stk:=s) h hp
 | .scope::s,k,a,w,h,hp=>xb (stk:=s) h hp
 | .pk i::s,k,a,w,h,hp=>by
   unfold pop at h;show Exit.inBlock i _ (.exit id) a w;unfold Exit.inBlock;cases hb:Nat.beq id i with
   | true=>
     rw[hb] at h;cases h;simp only;rw[if_pos (qC hb)];exact hp
   | false=>
     rw[hb] at h;simp only;rw[if_neg (λe=>by rw[e,Nat.beq_refl] at hb;cases hb)];exact xb (stk:=s) h hp
theorem VS.exit {k':List It} (hp:pop id k=some k') (h:VS C Q k' F H w):VS C Q (.code (.exit id)::k) F H w:=λβ a w' hr hk=>wp_exit (xb hp (h β a w' hr hk))
variable {ops:Array Oper}
theorem VS.region (hC:C.Ok) (h:aG C none ops ops.toList (VS C Q k) F H w):VS C Q (.code (.region id ops false)::k) F H w:=λβ a w' hr hk=>
 wp_region_list (Ha hC (λβ F H w a w' h hr hk=>h β a w' hr hk) ops.toList β F H w a w' h hr hk)
theorem VS.draw (hC:C.Ok) (hm:C.P.follows .mixedOrders=true) (ml:List FuncId) (oc:uK C.SU ml ops=true) (h:aG C (some ml) ops ops.toList (VS C Q k) F H w):VS C Q (.code (.region id ops true)::k) F H w:=λβ a w' hr hk=>
 LW hC hm oc (λβ F H w a w' h hr hk=>h β a w' hr hk) h hr hk
theorem VS.PE (hC:C.Ok) (hm:C.P.follows .mixedOrders=true) (n:Nat) (hn:ops.size=n) (h:xa C [] ops n [] (VS C Q k) F H w):VS C Q (.code (.region id ops true)::k) F H w:=λβ a w' hr hk=>
 St (ml:=[]) (K:=VS C Q k) hC hm (λβ F H w a w' h hr hk=>h β a w' hr hk) (by rw[hn];exact h) hr hk
def Entry (J:Nat->List (Nat×AV)->List (Nat×(TypeId×List AV))->World->Prop) (n:Nat) (F:Fr) (H:Hp) (w:World):Prop:=
 ∃ L M,He F L/\zo H M/\LX L M=true/\uL M M/\J n L M w
def Held (C:Cx) (J:Nat->List (Nat×AV)->List (Nat×(TypeId×List AV))->World->Prop) (n:Nat) (a:Act) (w:World):Prop:=
 ∃ β L M w1,J n L M w1/\Rel C β (Fr.of L) (Hp.of M) a w/\bQ C.K w1 w
variable {J:Nat->List (Nat×AV)->List (Nat×(TypeId×List AV))->World->Prop}
theorem VS.loop {body:Code} (n0:Nat) (h0:Entry J n0 F H w)
  (round:∀ n L M w,J n L M w->VS C Q (.code body::.back (λa w=>∃ m,m<n/\Held C J m a w)::k) (Fr.of L) (Hp.of M) w):VS C Q (.code (.loop body)::k) F H w:=λβ a w' hr hk=>by
 obtain⟨L,M,h1,h2,h3,h4,h5⟩:=h0;refine wp_loop_ghost (Held C J) n0 ⟨β,L,M,w,h5,hr.narrow h1 h2 h3 h4,hk⟩ ?_;rintro n a1 w1 ⟨β1,L1,M1,wl,hJ,nA,Hd⟩;exact round n L1 M1 wl hJ β1 a1 w1 nA Hd
theorem VS.back {n:Nat} (m:Nat) (hm:m<n) (h:Entry J m F H w):VS C Q (.back (λa w=>∃ m,m<n/\Held C J m a w)::k) F H w:=λβ a w' hr hk=>by
 obtain⟨L,M,h1,h2,h3,h4,h5⟩:=h;exact⟨m,hm,β,L,M,w,h5,hr.narrow h1 h2 h3 h4,hk⟩
def vH (C:Cx) (F:Fr) (H:Hp):List ResultVar->Option (List AV)
 | []=>some []
 | .tmp t::r=>match F t,vH C F H r with|some v,some l=>(bif jX v then some (v::l) else none)|_,_=>none
 | .cell x t::r=>match F x,C.ti t,vH C F H r with
   | some (.box b off),some i,some l=>(match H b with
     | some (_,cs)=>bif Nat.ble (off+i.size) cs.length then mR ((cs.drop off).take i.size) (λq=>bif i.agg then WI q (λv=>some (v::l)) else (match q with|x::_=>some (x::l)|[]=>none)) else none
     | none=>none)
   | _,_,_=>none
def lN:List Value->Value
 | [v]=>v
 | l=>.tuple l.toArray
def WU (tmps:Array Value):ResultVar->Sem Value
 | .tmp t=>pure (tmps.getD t undef)
 | .cell x t=>do loadVar t (<-asAddr (tmps.getD x undef))
theorem Cn (hC:C.Ok) {β:Nat->Nat} {a:Act} (hr:Rel C β F H a w):∀ {l:List ResultVar} {vs:List AV},vH C F H l=some vs->
  (l.mapM (WU a.tmps)).run C.P w=.ok (vs.map (AV.bU β)) w
 | [],vs,h=>by cases h;rfl
 | .tmp t::r,vs,h=>by
   unfold vH at h
   split at h
   ·rename_i v l hv hl;cases hn:jX v with
    | false=>rw[hn] at h;cases h
    | true=>
      rw[hn] at h;cases h;have e1:a.tmps.getD t undef=v.bU β:=hr.tmp t v hv;have e2:(WU a.tmps (.tmp t)).run C.P w=.ok (v.bU β) w:=by show (pure (a.tmps.getD t undef):Sem Value).run C.P w=_;rw[e1];rfl
      have:=Cn hC hr hl;simp only[List.mapM_cons,Sem.run_bind,e2,Result.andThen_ok,this,Sem.run_pure,List.map_cons]
   ·cases h
 | .cell x t::r,vs,h=>by
   unfold vH at h
   split at h
   ·rename_i b off i l hx hi hl
    split at h
    ·rename_i tb cs hb;cases hz:Nat.ble (off+i.size) cs.length with
     | false=>rw[hz] at h;cases h
     | true=>
       rw[hz,cond_true,eD] at h;have hle:=bM hz;have hlen:((cs.drop off).take i.size).length=i.size:=by rw[cM,rM];omega
       have gv:((cs.drop off).take i.size).all aY=true:=bR.2 λy hy=>bR.1 (hr.own b tb cs hb).ok y (ow (nI hy))
       have hvs:vs=tu i ((cs.drop off).take i.size)::l:=by
        unfold tu;cases hg:i.agg with
        | true=>rw[hg,cond_true,sa] at h;cases h;rfl
        | false=>
          rw[hg,cond_false] at h
          split at h
          ·rename_i y q hq;cases h;rw[hq];rfl
          ·cases h
       subst hvs;have e1:a.tmps.getD x undef=.pointer (some ⟨β b,off,none⟩):=hr.tmp x _ hx
       have hsub:∀ j u,((cs.drop off).take i.size)[j]? =some u->cs[off+j]? =some u:=λj u hj=>by
        rw[wq] at hj
        split at hj
        ·rwa [tf] at hj
        ·cases hj
       have e2:=lO (hC t i hi) ⟨β b,off,none⟩ (((cs.drop off).take i.size).map (AV.leaf β)) (by rw[bu,hlen]) w (Cf hr hb hsub)
       have e3:(WU a.tmps (.cell x t)).run C.P w=.ok ((tu i ((cs.drop off).take i.size)).bU β) w:=by
        unfold WU;rw[zh (hC t i hi) hlen gv];simp only[e1,asAddr,Sem.run_bind,Sem.run_pure,Result.andThen_ok,e2]
       have:=Cn hC hr hl;simp only[List.mapM_cons,Sem.run_bind,e3,Result.andThen_ok,this,Sem.run_pure,List.map_cons]
    ·cases h
   ·cases h
variable {vs:List AV}
theorem Dx (hC:C.Ok) {a:Act} (hr:Rel C β F H a w) {fn:Func} (h:vH C F H fn.results.toList=some vs):(results fn a.tmps).run C.P w=.ok (lN (vs.map (AV.bU β))) w:=by
 have h1:=Cn hC hr h;have h2:results fn a.tmps=(do let vs <-fn.results.toList.toArray.mapM (WU a.tmps);pure (if h:vs.size=1 then vs[0] else .tuple vs):Sem Value):=aa;rw[h2,List.mapM_toArray,Sem.run_bind]
 have h3:(List.toArray <$>fn.results.toList.mapM (WU a.tmps):Sem (Array Value)).run C.P w=.ok (vs.map (AV.bU β)).toArray w:=by
  rw[<-bind_pure_comp];simp only[Sem.run_bind,h1,Result.andThen_ok,Sem.run_pure]
 rw[h3,Result.andThen_ok,Sem.run_pure]
 congr 1
 cases vs with
 | nil=>rfl
 | cons v r=>cases r <;> simp[lN]
structure Ends (C:Cx) (β:Nat->Nat) (H:Hp) (w:World):Prop where
 own:∀ i t cs,H i=some (t,cs)->oK C β w i t cs
 apart:∀ i j,H i≠none->H j≠none->β i=β j->i=j
variable {R:Ending->World->Prop}
theorem Hf (hC:C.Ok) {fn:Func} (h:vH C F H fn.results.toList=some vs) (hR:∀ w' β,bQ C.K w w'->C.Old w'->Ends C β H w'->R (.returned (lN (vs.map (AV.bU β)))) w'):∀ β a w',Rel C β F H a w'->bQ C.K w w'->bodyPost C.P fn R .ret a w':=
 λβ a w' hr hk=>⟨hr.defers,_,Dx hC hr h,hR w' β hk hr.old ⟨hr.own,hr.apart⟩⟩
variable {us:List Value}
theorem fin_ret (hC:C.Ok) {fn:Func} (h:vH C F H fn.results.toList=some vs) (hv:jW vs=some us) (hR:∀ w',bQ C.K w w'->C.Old w'->R (.returned (lN us)) w'):∀ β a w',Rel C β F H a w'->bQ C.K w w'->bodyPost C.P fn R .ret a w':=
 Hf hC h λw' β h1 h2 _=>by
  rw[oL hv,mi];exact hR w' h1 h2
theorem tG {P:Program}:∀ {stk:List It} {a:Act} {w:World},Q .ret a w->post P Q stk .ret a w
 | [],_,_,h=>h
 | .code _::s,_,_,h=>tG (stk:=s) h
 | .pk _::s,_,_,h=>tG (stk:=s) h
 | .back _::s,_,_,h=>tG (stk:=s) h
 | .scope::s,_,_,h=>tG (stk:=s) h
theorem VS.ret (hC:C.Ok) {fn:Func} (h:vH C F H fn.results.toList=some vs) (hv:jW vs=some us) (hR:∀ w',bQ C.K w w'->C.Old w'->R (.returned (lN us)) w'):VS C (bodyPost C.P fn R) (.code .ret::k) F H w:=
 λβ a w' hr hk=>wp_ret (tG (fin_ret hC h hv hR β a w' hr hk))
theorem VS.pG (hC:C.Ok) {fn:Func} (h:vH C F H fn.results.toList=some vs) (hR:∀ w' β,bQ C.K w w'->C.Old w'->Ends C β H w'->R (.returned (lN (vs.map (AV.bU β)))) w'):VS C (bodyPost C.P fn R) (.code .ret::k) F H w:=
 λβ a w' hr hk=>wp_ret (tG (Hf hC h hR β a w' hr hk))
def Fr.args:Nat->List Value->Fr
 | _,[]=>λ_=>none
 | k,v::r=>λn=>bif Nat.beq n k then some (.val v) else Fr.args (k+1) r n
theorem Fr.args_at:∀ (l:List Value) (k n:Nat) (v:AV),Fr.args k l n=some v->∃ u,v=.val u/\k<=n/\l[n-k]? =some u
 | [],k,n,v,h=>by cases h
 | x::r,k,n,v,h=>by
   unfold Fr.args at h;cases hb:Nat.beq n k with
   | true=>
     rw[hb] at h;cases h;have e:=qC hb;exact⟨x,aa,ab,by rw[e];simp⟩
   | false=>
     rw[hb] at h;obtain⟨u,h1,h2,h3⟩:=Fr.args_at r (k+1) n v h;refine⟨u,h1,ab,?_⟩;rw[show n-k=(n-(k+1))+1 by omega];simpa using h3
theorem ah {f:FuncId} {fn:Func} {c:Code} {args:List Value} (hf:C.P.funcs[f]? =some fn) (hb:fn.body=some c) (hN:fn.ntmps=C.N) (ha:args.length<=C.N)
  (h:VS C (bodyPost C.P fn R) [.code c] (Fr.args 0 args) (λ_=>none) C.w0):Calls C.P f args.toArray C.w0 R:=by
 refine calls_of_wp hf hb ?_;refine h (λ_=>0) _ C.w0 ⟨aa,?_,λd v hd=> ?_,λi t cs hi=>(by cases hi),λi j hi=>absurd aa hi,λd v hd i hi=> ?_,λd v hd=> ?_,⟨λi t cs hi=>(by cases hi),λi t cs hi=>(by cases hi),λi hi=>aa⟩,C.uH⟩ (bQ.refl _ _)
 ·simp[hN];omega
 ·obtain⟨u,rfl,_,h2⟩:=Fr.args_at args 0 d v hd;rw[Nat.sub_zero] at h2;show (args.toArray++_).getD d undef=u;have hlt:=(cQ.1 h2).1;rw[gl,Array.getElem?_append_left (by simpa using hlt)];simp[h2]
 ·obtain⟨u,rfl,_⟩:=Fr.args_at args 0 d _ hd;cases hi
 ·obtain⟨u,rfl,_,h2⟩:=Fr.args_at args 0 d _ hd;rw[Nat.sub_zero] at h2;have:=(cQ.1 h2).1;omega
variable {m:Option (List FuncId)} {full:Array Oper} {K:Fr->Hp->World->Prop} {o:Oper} {r:List Oper}
theorem VO.nil (h:K F H w):aG C m full [] K F H w:=h
def xc (C:Cx) (full:Array Oper):Nat->List Oper->Fr->Hp->List Oper×Fr×Hp
 | 0,l,F,H=>(l,F,H)
 | _+1,[],F,H=>([],F,H)
 | n+1,o::r,F,H=>match o.guard with
   | some _=>(o::r,F,H)
   | none=>match stepOf C full F H o with
     | .iA v u=>xc C full n r (F.cw o.dst v) (H.upd u)
     | _=>(o::r,F,H)
theorem Hg:∀ (n:Nat) {l:List Oper} {F:Fr} {H:Hp},aG C m full (xc C full n l F H).1 K (xc C full n l F H).2.1 (xc C full n l F H).2.2 w->aG C m full l K F H w
 | 0,_,_,_,h=>h
 | _+1,[],_,_,h=>h
 | n+1,o::r,F,H,h=>by
   unfold xc at h;show one C m full o (aG C m full r K) F H w;cases hg:o.guard with
   | some g=>rw[hg] at h;exact h
   | none=>
     rw[hg] at h;cases hs:stepOf C full F H o with
     | iA v u=>rw[hs] at h;unfold one;rw[hs];exact Hg n h
     | bad=>rw[hs] at h;exact h
     | read i a=>rw[hs] at h;exact h
     | dY i cs off=>rw[hs] at h;exact h
     | cond φ v u=>rw[hs] at h;exact h
     | call d=>rw[hs] at h;exact h
theorem VO.run (n:Nat) {l l':List Oper} {F':Fr} {H':Hp} (e:xc C full n l F H=(l',F',H')) (h:aG C m full l' K F' H' w):aG C m full l K F H w:=
 Hg n (by rw[e];exact h)
theorem VA.cons {p:Nat->Prop} {l r:List Nat} {i:Nat} (e:l=i::r) (h1:p i) (h2:PB r p):PB l p:=by rw[e];exact⟨h1,h2⟩
theorem VA.nil {p:Nat->Prop} {l:List Nat} (e:l=[]):PB l p:=by rw[e];exact ag
variable {ml:List FuncId} {done:List Nat} {f:Nat}
theorem VA.go {i:Nat} {l:List Nat} (e:rdy full done=i::l) (h:PB (i::l) λi=>match full[i]? with|some o=>one C (some ml) full o (xa C ml full f (i::done) K) F H w|none=>False):xa C ml full (f+1) done K F H w:=by
 unfold xa;rw[e];exact h
theorem VA.fin (e:rdy full done=[]) (h:K F H w):xa C ml full f done K F H w:=by
 cases f with
 | zero=>exact h
 | succ f=>unfold xa;rw[e];exact h
variable {u:Option (Nat×(TypeId×List AV))}
theorem VO.op1 {v:AV} (e:stepOf C full F H o=.iA v u) (h:aG C m full r K (F.cw o.dst v) (H.upd u) w):aG C m full (o::r) K F H w:=by
 show one C m full o (aG C m full r K) F H w;unfold one;rw[e];exact h
variable {v':AV}
theorem VO.fix {l:List Oper} (d:Nat) {v:AV} (hF:F d=some v) (e:v=v') (h:aG C m full l K (F.put d v') H w):aG C m full l K F H w:=by
 have:F.put d v'=F:=by
  funext n
  rw[Fr.eE];by_cases hn:n=d
  ·rw[if_pos hn,hn,hF,e]
  ·rw[if_neg hn]
 rw[this] at h;exact h
theorem VS.fix (d:Nat) {v:AV} (hF:F d=some v) (e:v=v') (h:VS C Q k (F.put d v') H w):VS C Q k F H w:=by
 have:F.put d v'=F:=by
  funext n
  rw[Fr.eE];by_cases hn:n=d
  ·rw[if_pos hn,hn,hF,e]
  ·rw[if_neg hn]
 rw[this] at h;exact h
variable {cs:List AV} {t:TypeId}
theorem VO.fi {l:List Oper} (i:Nat) {gD:List AV} (hH:H i=some (t,cs)) (e:cs=gD) (h:aG C m full l K F (H.put i (t,gD)) w):aG C m full l K F H w:=by
 have:H.put i (t,gD)=H:=by
  funext n
  rw[Hp.eE];by_cases hn:n=i
  ·rw[if_pos hn,hn,hH,e]
  ·rw[if_neg hn]
 rw[this] at h;exact h
theorem GS.none {ids:List Nat} {w1 w2:World} (h:aU w1 w2):GS C β β H ids none [] w1 w2:=
 ⟨h.os,h.tape,h.output,h.size,λb hb _ _ _=>vC h b hb,λ_ _=>rfl,λi hi=>(by cases hi),λi hi=>(by cases hi),λx hx=>(by cases hx),λx hx=>(by cases hx),List.nodup_nil,λx hx=>(by cases hx),λx hx=>(by cases hx)⟩
variable {d:kH}
theorem VO.UO (e:stepOf C full F H o=.call d)
  (h:∀ w1 β,bQ C.K w w1->C.Old w1->tv C β H d.ids w1->BZ C.P d β w1 λe w2=>∃ v,e=.returned v/\aU w1 w2/\(bQ C.K w w2->bQ C.K w1 w2->C.Old w2->aG C m full r K (F.cw o.dst (.val v)) H w2)):aG C m full (o::r) K F H w:=by
 show one C m full o (aG C m full r K) F H w;unfold one;rw[e];refine λw1 β h1 h2 h3=>(h w1 β h1 h2 h3).mono ?_;rintro e w2 ⟨v,rfl,hb,hv⟩;exact⟨β,.val v,none,[],aa,λi hi=>(by cases hi),.inr aa,.inr aa,GS.none hb,λa b c _ _=>hv a b c⟩
variable {g:FuncId}
theorem VO.call {args:List AV} {vs:List Value} (e:stepOf C full F H o=.call (.fn g args)) (hv:jW args=some vs) (hf:rA C.P g)
  (h:∀ w1,bQ C.K w w1->C.Old w1->Calls C.P g vs.toArray w1 λe w2=>∃ v,e=.returned v/\aU w1 w2/\(bQ C.K w w2->bQ C.K w1 w2->C.Old w2->aG C m full r K (F.cw o.dst (.val v)) H w2)):aG C m full (o::r) K F H w:=by
 refine VO.UO e λw1 β h1 h2 _=>⟨hf,?_⟩;rw[oL hv,mi];exact h w1 h1 h2
theorem VO.eB {args:List AV} (e:stepOf C full F H o=.call (.fn g args)) (hf:rA C.P g)
  (h:∀ w1 β,bQ C.K w w1->C.Old w1->tv C β H (jN args) w1->Calls C.P g (args.map (AV.bU β)).toArray w1 λe w2=>∃ v,e=.returned v/\aU w1 w2/\(bQ C.K w w2->bQ C.K w1 w2->C.Old w2->aG C m full r K (F.cw o.dst (.val v)) H w2)):aG C m full (o::r) K F H w:=
 VO.UO e λw1 β h1 h2 h3=>⟨hf,h w1 β h1 h2 h3⟩
theorem VO.KG {args:List AV} (e:stepOf C full F H o=.call (.fn g args)) (hf:rA C.P g)
  (h:∀ w1 β,bQ C.K w w1->C.Old w1->tv C β H (jN args) w1->Calls C.P g (args.map (AV.bU β)).toArray w1 λe w2=>∃ v:AV,e=.returned (v.bU β)/\(∀ i∈v.ids,i∈jN args/\H i≠none)/\aU w1 w2/\(bQ C.K w w2->bQ C.K w1 w2->C.Old w2->aG C m full r K (F.cw o.dst v) H w2)):aG C m full (o::r) K F H w:=by
 show one C m full o (aG C m full r K) F H w;unfold one;rw[e];refine λw1 β h1 h2 h3=>⟨hf,(h w1 β h1 h2 h3).mono ?_⟩;rintro e w2 ⟨v,rfl,hi,hb,hv⟩;exact⟨β,v,none,[],aa,λi BO=>.inr ⟨.base (hi i BO).1,(hi i BO).2,bN⟩,.inr aa,.inr aa,GS.none hb,λa b c _ _=>hv a b c⟩
def ZL (C:Cx) (t:TypeId) (sz B:Nat) (w:World) (v:Value) (n:Nat) (xs:List Value):Prop:=
 (v=.slice none 0 0/\n=0/\xs=[])\/∃ b c spare,v=.slice (some ⟨b,0,none⟩) n c/\B<=b/\bO w b t (xs++spare).toArray/\xs.all bD=true/\spare.all bD=true/\n<=c/\c<=9223372036854775807/\(xs++spare).length=c*sz
theorem VO.callN {dst n sz:Nat} {xs:List Value} (e:stepOf C full F H o=.call d) (hd:o.dst=some dst) (h0:H dst=none) (hN:dst<C.N) (hl:1<=lvl C.SU m o) (ht:C.K.fz t=false)
  (h:∀ w1 β,bQ C.K w w1->C.Old w1->tv C β H d.ids w1->BZ C.P d β w1 λe w2=>∃ v,e=.returned v/\aU w1 w2/\ZL C t sz w1.heap.size w2 v n xs/\
   (bQ C.K w w2->bQ C.K w1 w2->C.Old w2->v=.slice none 0 0->aG C m full r K (F.cw o.dst (.val (.slice none 0 0))) H w2)/\
   (∀ c spare,bQ C.K w w2->bQ C.K w1 w2->C.Old w2->(∃ b,v=.slice (some ⟨b,0,none⟩) n c)->spare.all bD=true->n<=c->c<=9223372036854775807->(xs++spare).length=c*sz->aG C m full r K (F.cw o.dst (.row dst 0 n c)) (H.put dst (t,(xs++spare).map .val)) w2)):aG C m full (o::r) K F H w:=by
 show one C m full o (aG C m full r K) F H w;unfold one;rw[e];refine λw1 β h1 h2 h3=>(h w1 β h1 h2 h3).mono ?_;rintro e w2 ⟨v,rfl,hb,hn,k1,k2⟩;rcases hn with ⟨rfl,rfl,rfl⟩|⟨b,c,spare,rfl,q1,q2,q3,q4,q5,q6,q7⟩
 ·exact⟨β,.val (.slice none 0 0),none,[],aa,λi hi=>(by cases hi),.inr aa,.inr aa,GS.none hb,λa b c _ _=>k1 a b c aa⟩
 ·let dA:Nat->Nat:=λi=>if i=dst then b else β i
  have xK:dA dst=b:=if_pos aa;have gv:((xs++spare).map AV.val).all aY=true:=bP (by rw[ja,q3,q4];rfl);refine⟨dA,.row dst 0 n c,none,[(dst,(t,(xs++spare).map .val))],?_,λi hi=>.inl (by simpa [AV.ids] using hi),.inl hl,.inr aa,?_,λa1 a2 a3 _ _=>k2 c spare a1 a2 a3 ⟨b,aa⟩ q4 q5 q6 q7⟩
  ·show Ending.returned _=.returned (Value.slice (some ⟨dA dst,0,none⟩) n c);rw[xK]
  ·refine⟨hb.os,hb.tape,hb.output,hb.size,λk hk _ _ _=>vC hb k hk,λi hi=>if_neg (by simpa using hi),λi hi=>(by cases hi),λi hi=>(by cases hi),λx hx=> ?_,λx hx=> ?_,bN,λx hx y hy _=> ?_,λx hx j hj=> ?_⟩
   ·cases aJ.1 hx;refine⟨by rw[xK];exact C.yT _ _ ab (by have:=C.iq _ h2;omega),ht,?_,gv⟩;rw[xK,ak];exact q2
   ·cases aJ.1 hx;exact .inr ⟨.inl h0,ab,.inl (by rw[xK];exact q1)⟩
   ·cases aJ.1 hx;cases aJ.1 hy;rfl
   ·cases aJ.1 hx;rw[aw] at hj;cases hj
variable {i:TI}
theorem VO.read {a:Addr} (e:stepOf C full F H o=.read i a) (cs:List Value) (hl:cs.length=i.size)
  (hc:∀ j u,cs[j]? =some u->C.w0.cell? (a.add j)=some u) (h:aG C m full r K (F.cw o.dst (.val (sP i cs))) H w) (hn:∀ i g,C.GO i g->C.w0.heap.size<=g:=by exact λ_ _ h=>h):aG C m full (o::r) K F H w:=by
 show one C m full o (aG C m full r K) F H w;unfold one;rw[e];exact⟨cs,hl,.inl λj u hj w1 xH=>C.LJ w1 _ u xH (λi hi=>absurd (JE C.w0 _ (hc j u hj)) (Nat.not_lt.2 (hn _ _ hi))) (hc j u hj),h⟩
theorem VO.iR {a:Addr} (e:stepOf C full F H o=.read i a) (cs:List Value) (hl:cs.length=i.size)
  (hc:∀ j u,cs[j]? =some u->C.At (a.add j) u) (h:aG C m full r K (F.cw o.dst (.val (sP i cs))) H w):aG C m full (o::r) K F H w:=by
 show one C m full o (aG C m full r K) F H w;unfold one;rw[e];exact⟨cs,hl,.inl hc,h⟩
theorem VO.dY {off:Nat} (e:stepOf C full F H o=.dY i cs off) (vs:List AV) (hl:vs.length=i.size)
  (hc:∀ j u,vs[j]? =some u->cs[off+j]? =some u) (h:aG C m full r K (F.cw o.dst (tu i vs)) H w):aG C m full (o::r) K F H w:=by
 show one C m full o (aG C m full r K) F H w;unfold one;rw[e];exact⟨vs,hl,hc,h⟩
theorem VO.cond {φ:Prop} {v:AV} (e:stepOf C full F H o=.cond φ v u) (Sk:φ) (h:aG C m full r K (F.cw o.dst v) (H.upd u) w):aG C m full (o::r) K F H w:=by
 show one C m full o (aG C m full r K) F H w;unfold one;rw[e];exact⟨Sk,h⟩
end
theorem tH (z:Value) (n:Nat):∃ vs:List Value,Builtin.zeroCells z.cells n=vs.toArray/\vs.length=n*z.cells.size/\(z.cells.toList.all bD=true->vs.all bD=true):=by
 refine⟨(Builtin.zeroCells z.cells n).toList,bN,by simp[Builtin.zeroCells],λh=> ?_⟩;unfold Builtin.zeroCells;rw[vw,Array.toList_range];refine bR.2 λx hx=> ?_;obtain⟨i,hi,rfl⟩:=fv.1 hx
 have hp:0<z.cells.size:=by
  rcases rK z.cells.size with e|e
  ·rw[e,rS] at hi;simp at hi
  ·exact e
 have hlt:=gC i hp;have:z.cells[i%z.cells.size]! =z.cells[i%z.cells.size]:=by simp[hlt]
 rw[this];exact bR.1 h _ bN
section
variable {C:Cx} {F:Fr} {H:Hp} {w:World} {m:Option (List FuncId)} {full:Array Oper} {K:Fr->Hp->World->Prop} {o:Oper} {r:List Oper}
variable {base src:AV} {known spare news:List AV} {c mm dst:Nat} {x y:Operand} {del:Option Nat} {it ie:TI} {t e:TypeId}
theorem VO.ZM (hC:C.Ok) {sz n:Nat}
  (e0:stepOf C full F H o=.call (.op o [base,src])) (ho:o.op=.call { callee:=.builtin .append,args:=#[x,y],argTypes:=#[t,t] })
  (WV:C.ti t=some it) (Rr:it.elem=some (e,sz)) (Nw:C.ti e=some ie) (hU:C.K.fz e=false) (hzo:ie.zero.cells.toList.all bD=true)
  (hd:o.dst=some dst) (hN:dst<C.N) (hl:lvl C.SU m o=2)
  (oG:((base=.val (.slice none 0 0)/\n=0/\c=0/\known=[]/\spare=[]/\del=none/\0<mm)\/∃ i,base=.row i 0 n c/\H i=some (e,known++spare)/\del=some i)\/∃ (b off:Nat) (ks:List Value),base=.val (.slice (some ⟨b,off,none⟩) n c)/\c=n/\known=ks.map .val/\spare=[]/\del=none/\0<mm/\∀ w1,bQ C.K w w1->C.Old w1->∀ j u,ks[j]? =some u->w1.cell? ⟨b,off+j,none⟩=some u)
  (lV:H dst=none\/del=some dst) (hk:known.length=n*sz) (hsp:(known++spare).length=c*sz) (il:n<=c) (iC:c<=9223372036854775807)
  (jH:aI known=[]/\aI spare=[]/\aI news=[]) (gv:known.all aY=true/\spare.all aY=true/\news.all aY=true) (Co:news.length=mm*sz) (kZ:(n+mm)*(24*sz)<=140737488355328)
  (PF:∀ w1 β,bQ C.K w w1->C.Old w1->tv C β H (jN [base,src]) w1->∃ p cc,src.bU β=.slice p mm cc/\(mm=0\/∃ b off,p=some ⟨b,off,none⟩/\∀ j u,(news.map (AV.leaf β))[j]? =some u->w1.cell? ⟨b,off+j,none⟩=some u))
  (hK:∀ w2 cap ax ρ,bQ C.K w w2->C.Old w2->(∀ x,bD (ρ x)=true)->n+mm<=cap->cap<=9223372036854775807->((known++news)++ax).length=cap*sz->ax.all aY=true->aI ax=[]->
   aG C m full r K ((F.forget del ρ).cw o.dst (.row dst 0 (n+mm) cap)) ((H.forget del ρ).put dst (e,(known++news)++ax)) w2):aG C m full (o::r) K F H w:=by
 show one C m full o (aG C m full r K) F H w;unfold one;rw[e0];intro w1 β h1 h2 h3;obtain⟨hu,hsz⟩:=(hC t it WV).isSlice e sz Rr;have KH:=hC e ie Nw;cases zj:C.P.info? e with
 | none=>have:=KH.size;rw[zj] at this;simp at this
 | some ti=>
   have PG:ti.size=ie.size:=by have:=KH.size;rw[zj] at this;simpa using this
   have lD:ti.zero=some ie.zero:=by have:=KH.Kl;rw[zj] at this;simpa using this
   have bA:ti.bytes<=24*ie.size:=bM (by have:=KH.bytes;rw[zj] at this;simpa using this)
   have LZ:sz=ti.size:=by
    have:=hsz w1;simp[sizeOf,typeInfo,zj] at this;exact this.symm
   have tp:0<sz:=by rw[LZ,PG];exact KH.pos
   have Yj:ie.zero.cells.size=sz:=by rw[KH.GN,LZ,PG]
   have hcap:n+mm<=140737488355328:=by
    have:(n+mm)*24<=(n+mm)*(24*sz):=kS _ ab;omega
   have RI:(n+mm)*ti.bytes<=140737488355328:=bj (kS _ (by rw[LZ,PG];exact bA)) kZ;obtain⟨p,cc,hsc,hsp2⟩:=PF w1 β h1 h2 h3
   have hS:Src C.P ti.size t (.slice p mm cc) mm (news.map (AV.leaf β)) w1:=by
    have vO:∀ u∈news.map (AV.leaf β),u.oneCell'=true:=λu hu=>zd (bR.1 (eN (β:=β) gv.2.2) u hu);rcases hsp2 with rfl|⟨b,off,rfl,hc⟩
    ·have:news=[]:=js (by simpa using Co);subst this;cases p with
     | none=>exact Src.ofNil w1 hu cc
     | some a=>exact Src.ofSlice w1 hu a 0 cc [] bN (λj u hj=>by simp at hj) vO
    ·refine Src.ofSlice w1 hu ⟨b,off,none⟩ mm cc _ (by rw[bu,Co,LZ]) (λj u hj=> ?_) vO;rw[ju];exact hc j u hj
   have ZN:∀ ρ:Operand->Value,o.op.operands.toList.map ρ=[base,src].map (AV.bU β)->ρ x=base.bU β/\ρ y=.slice p mm cc:=λρ h=>by
    rw[ho] at h;simp[Op.operands,Call.operands] at h;exact⟨h.1,h.2.trans hsc⟩
   have hrun:∀ {v:Value} {w2:World},(Builtin.append_ #[t,t] o.type #[base.bU β,.slice p mm cc]).run C.P w1=.ok v w2->∀ ρ:Operand->Value,o.op.operands.toList.map ρ=[base,src].map (AV.bU β)->(execOp ρ o).run C.P w1=.ok (.value v) w2:=λ{v w2} hv ρ iI=>by
    obtain⟨q1,q2⟩:=ZN ρ iI;unfold execOp;simp only[ho,resolve,invoke,builtin,Sem.run_bind,Sem.run_pure,Result.andThen_ok,List.map_toArray,List.map_cons,List.map_nil,q1,q2,hv]
   have hg:∀ i,del=some i->Reach H (jN [base,src]) i/\H i≠none:=λi hi=>by
    rcases oG with (⟨_,_,_,_,_,e,_⟩|⟨i',rfl,hH,e⟩)|⟨_,_,_,_,_,_,_,e,_⟩
    ·rw[e] at hi;cases hi
    ·rw[e] at hi;cases hi;exact⟨.base (by simp[jN,AV.ids]),by rw[hH];simp⟩
    ·rw[e] at hi;cases hi
   have fin:∀ (w2:World) (b cap:Nat) (ax:List AV),(∀ ρ:Operand->Value,o.op.operands.toList.map ρ=[base,src].map (AV.bU β)->(execOp ρ o).run C.P w1=.ok (.value (.slice (some ⟨b,0,none⟩) (n+mm) cap)) w2)->
     w2.os=w1.os->w2.tape=w1.tape->w2.output=w1.output->w1.heap.size<=w2.heap.size->(∀ q,q<w1.heap.size->q≠b->w2.heap[q]? =w1.heap[q]?)->(w1.heap.size<=b\/∃ i,del=some i/\b=β i)->
     n+mm<=cap->cap<=9223372036854775807->((known++news)++ax).length=cap*sz->ax.all aY=true->aI ax=[]->bO w2 b e (((known++news)++ax).map (AV.leaf β)).toArray->
     BZ C.P (.op o [base,src]) β w1 λe w2=>∃ dA r' del ups,e=.returned (r'.bU dA)/\(∀ i∈r'.ids,i∈ups.map (·.1)\/(Reach H (kH.op o [base,src]).ids i/\H i≠none/\del≠some i))/\(1<=lvl C.SU m o\/ups=[])/\(2<=lvl C.SU m o\/del=none)/\
      GS C β dA H (kH.op o [base,src]).ids del ups w1 w2/\(bQ C.K w w2->bQ C.K w1 w2->C.Old w2->∀ ρ,(∀ x,bD (ρ x)=true)->aG C m full r K ((F.forget del ρ).cw o.dst r') ((H.forget del ρ).jh ups) w2):=by
    intro w2 b cap ax hrun q1 q2 q3 q4 q5 q6 q7 q8 q9 q10 q11 q12
    let dA:Nat->Nat:=λi=>if i=dst then b else β i
    have xK:dA dst=b:=if_pos aa;have gJ:((known++news)++ax).all aY=true:=by simp only[List.all_append,gv.1,gv.2.2,q10];rfl
    have lG:aI ((known++news)++ax)=[]:=by rw[ey,ey,jH.1,jH.2.2,q11];rfl
    have PH:C.GO dst b:=by
     rcases q6 with e|⟨i,hi,e⟩
     ·exact C.yT _ _ ab (by have:=C.iq _ h2;omega)
     ·obtain⟨g1,g2⟩:=hg i hi;cases hh:H i with
      | none=>exact absurd hh g2
      | some c'=>rw[e];exact C.Kn i dst _ (h3.own i g1 c'.1 c'.2 hh).new ab
    have Kh:∀ i,del=some i->w2.heap[β i]? =w1.heap[β i]?\/∃ x∈[(dst,(e,(known++news)++ax))],dA x.1=β i:=λi hi=>by
     by_cases e':β i=b
     ·exact .inr ⟨_,aJ.2 aa,xK.trans e'.symm⟩
     ·obtain⟨g1,g2⟩:=hg i hi;cases hh:H i with
      | none=>exact absurd hh g2
      | some c'=>exact .inl (q5 _ (h3.own i g1 c'.1 c'.2 hh).cls.lt e')
    refine⟨_,w2,λρ iI=>.inl (hrun ρ iI),dA,.row dst 0 (n+mm) cap,del,[(dst,(e,(known++news)++ax))],?_,λi hi=>.inl (by simpa [AV.ids] using hi),.inl ab,.inl ab,?_,λa1 a2 a3 ρ iI=>hK w2 cap ax ρ a1 a3 iI q7 q8 q9 q10 q11⟩
    ·show Ending.returned _=.returned (Value.slice (some ⟨dA dst,0,none⟩) (n+mm) cap);rw[xK]
    ·refine⟨q1,q2,q3,q4,λk hk hx mD _=>q5 k hk (by have:=hx _ (aJ.2 aa);simpa [xK] using this),λi hi=>if_neg (by simpa using hi),hg,λi hi=>(Kh i hi).imp .inl id,λx hx=> ?_,λx hx=> ?_,bN,λx hx y hy _=> ?_,λx hx j hj=> ?_⟩
     ·cases aJ.1 hx;refine⟨by rw[xK];exact PH,hU,?_,gJ⟩;rw[xK,mf (β:=β) (λi hi=>by rw[lG] at hi;cases hi)];exact q12
     ·cases aJ.1 hx;refine .inr ⟨lV,ab,?_⟩;rcases q6 with e|⟨i,hi,e⟩
      ·exact .inl (by rw[xK];exact e)
      ·exact .inr ⟨i,hi,by rw[xK];exact e⟩
     ·cases aJ.1 hx;cases aJ.1 hy;rfl
     ·cases aJ.1 hx;rw[lG] at hj;cases hj
   have grow:c<n+mm->(∃ bp,base.bU β=.slice bp n c/\(Builtin.firstCells ti.size n (.slice bp n c)).run C.P w1.drew=.ok (known.map (AV.leaf β)).toArray w1.drew)->BZ C.P (.op o [base,src]) β w1 λe w2=>∃ dA r' del ups,e=.returned (r'.bU dA)/\(∀ i∈r'.ids,i∈ups.map (·.1)\/(Reach H (kH.op o [base,src]).ids i/\H i≠none/\del≠some i))/\(1<=lvl C.SU m o\/ups=[])/\(2<=lvl C.SU m o\/del=none)/\
      GS C β dA H (kH.op o [base,src]).ids del ups w1 w2/\(bQ C.K w w2->bQ C.K w1 w2->C.Old w2->∀ ρ,(∀ x,bD (ρ x)=true)->aG C m full r K ((F.forget del ρ).cw o.dst r') ((H.forget del ρ).jh ups) w2):=by
    rintro WT ⟨bp,hbp,hfc⟩;have hr:=run_append_grow_src (P:=C.P) w1 t t o.type e ti ie.zero hu zj lD bp n c (known.map (AV.leaf β)) hfc (.slice p mm cc) mm (news.map (AV.leaf β)) hS WT ab (growslice_fits WT RI);obtain⟨zs,uw,hz3,hz4⟩:=tH ie.zero (grownCap w1 (n+mm) c e-(n+mm));have hge:=grownCap_ge w1 (n+mm) c e;have hle:=grownCap_le_maxLen w1 (n+mm) c e (by simp only[maxLen];omega);rw[uw] at hr;have Hh:aU w1 (w1.drew.alloc (.cells ((known.map (AV.leaf β)++news.map (AV.leaf β)).toArray++zs.toArray) e)):=(aU.refl w1).drew.alloc _;refine fin _ w1.heap.size (grownCap w1 (n+mm) c e) (zs.map .val) (hrun (by rw[hbp];exact hr)) Hh.os Hh.tape Hh.output Hh.size (λq hq _=>vC Hh q hq) (.inl (bL _)) hge (by simpa [maxLen] using hle) ?_ (bP (hz4 hzo)) (aw zs) ?_
    ·rw[bB,bB,bu,hk,Co,hz3,Yj,<-fG,<-fG]
     congr 1
     omega
    ·have:(((known++news)++zs.map AV.val).map (AV.leaf β)).toArray=(known.map (AV.leaf β)++news.map (AV.leaf β)).toArray++zs.toArray:=by
      rw[bC,bC,ak];apply Array.ext';rw[Array.toList_append]
     rw[this];exact bO.newAt (w:=w1.drew) aa _ _
   rcases oG with (⟨rfl,rfl,rfl,rfl,rfl,rfl,GK⟩|⟨i,rfl,hH,rfl⟩)|⟨b,off,ks,rfl,rfl,rfl,rfl,rfl,GK,hcell⟩
   ·refine grow ab ⟨none,aa,?_⟩;exact run_firstCells_none w1.drew ti.size 0 0 0
   ·obtain⟨g1,g2,g3,g4⟩:=h3.own i (.base (Aa _ (aJ.2 aa))) e _ hH;by_cases hroom:n+mm<=c
    ·have hfit:n*sz+news.length<=(known++spare).length:=by rw[hsp,Co,<-fG];exact pK _ hroom
     have hr:=run_append_room_src (P:=C.P) w1 t t o.type e ti hu zj (β i) 0 n c (.slice p mm cc) mm (news.map (AV.leaf β)) hS hroom (λj hj=>by
       rw[bu] at hj;obtain⟨z,hz⟩:∃ z,((known++spare).map (AV.leaf β))[0+n*ti.size+j]? =some z:=⟨_,ba (by rw[bu,<-LZ];omega)⟩;rw[g3.cell (u:=z) (by simpa using hz)];rfl)
      (λj _=>g3.frozen _)
     rw[jt,<-LZ] at hr;obtain⟨k1,k2,k3,k4⟩:=pY (K:=C.K) (news.map (AV.leaf β)) (n*sz) w1 ((known++spare).map (AV.leaf β)) g3 g2 (eN g4) (eN gv.2.2);obtain⟨s1,s2,s3,_⟩:=lF (b:=β i) (news.map (AV.leaf β)) (n*sz) w1;refine fin _ (β i) c (spare.drop (mm*sz)) (hrun hr) s1 s2 s3 k1.size (λq _ hq=>gR _ _ _ q hq) (.inr ⟨i,aa,aa⟩) hroom iC ?_ ?_ ?_ ?_
     ·simp only[List.length_append,List.length_drop] at hsp hfit ⊢;omega
     ·exact bR.2 λx hx=>bR.1 gv.2.1 x (ow hx)
     ·rw[CS];intro j hj;obtain⟨v,hv,hj'⟩:=bK.1 hj;have:j∈aI spare:=bK.2 ⟨v,ow hv,hj'⟩;rw[jH.2.1] at this;cases this
     ·rw[uJ _ _ _ (by simp only[List.length_map];omega)] at k2
      have:((known++spare).map (AV.leaf β)).take (n*sz)++(news.map (AV.leaf β)++((known++spare).map (AV.leaf β)).drop (n*sz+(news.map (AV.leaf β)).length))=(((known++news)++spare.drop (mm*sz)).map (AV.leaf β)):=by
       rw[bu,Co,<-Gi,<-List.map_drop,<-hk,List.take_left',List.drop_append,bC,bC]
       ·rw[ly ab];simp[List.map_append,hk]
       ·rfl
      rw[this] at k2;exact k2
    ·refine grow ab ⟨some ⟨β i,0,none⟩,aa,?_⟩;refine run_firstCells_some w1.drew ti.size n ⟨β i,0,none⟩ n c (known.map (AV.leaf β)) (by rw[bu,hk,LZ]) (λj u hj=> ?_);rw[ju];have hlt:=(cQ.1 hj).1
     have:w1.cell? ⟨β i,0+j,none⟩=some u:=g3.cell (by
      rw[bC];simp only[Nat.zero_add];simpa [List.getElem?_append_left hlt] using hj)
     exact this
   ·refine grow ab ⟨some ⟨b,off,none⟩,aa,?_⟩;refine run_firstCells_some w1.drew ti.size _ ⟨b,off,none⟩ _ _ ((ks.map AV.val).map (AV.leaf β)) (by rw[bu,hk,LZ]) (λj u hj=> ?_);rw[ju];rw[ak] at hj;exact hcell w1 h1 h2 j u hj
theorem VO.app (hC:C.Ok) {sz n:Nat}
  (e0:stepOf C full F H o=.call (.op o [base,src])) (ho:o.op=.call { callee:=.builtin .append,args:=#[x,y],argTypes:=#[t,t] })
  (WV:C.ti t=some it) (Rr:it.elem=some (e,sz)) (Nw:C.ti e=some ie) (hU:C.K.fz e=false) (hzo:ie.zero.cells.toList.all bD=true)
  (hd:o.dst=some dst) (hN:dst<C.N) (hl:lvl C.SU m o=2)
  (oG:(base=.val (.slice none 0 0)/\n=0/\c=0/\known=[]/\spare=[]/\del=none/\0<mm)\/∃ i,base=.row i 0 n c/\H i=some (e,known++spare)/\del=some i)
  (lV:H dst=none\/del=some dst) (hk:known.length=n*sz) (hsp:(known++spare).length=c*sz) (il:n<=c) (iC:c<=9223372036854775807)
  (jH:aI known=[]/\aI spare=[]/\aI news=[]) (gv:known.all aY=true/\spare.all aY=true/\news.all aY=true) (Co:news.length=mm*sz) (kZ:(n+mm)*(24*sz)<=140737488355328)
  (PF:∀ w1 β,bQ C.K w w1->C.Old w1->tv C β H (jN [base,src]) w1->∃ p cc,src.bU β=.slice p mm cc/\(mm=0\/∃ b off,p=some ⟨b,off,none⟩/\∀ j u,(news.map (AV.leaf β))[j]? =some u->w1.cell? ⟨b,off+j,none⟩=some u))
  (hK:∀ w2 cap ax ρ,bQ C.K w w2->C.Old w2->(∀ x,bD (ρ x)=true)->n+mm<=cap->cap<=9223372036854775807->((known++news)++ax).length=cap*sz->ax.all aY=true->aI ax=[]->
   aG C m full r K ((F.forget del ρ).cw o.dst (.row dst 0 (n+mm) cap)) ((H.forget del ρ).put dst (e,(known++news)++ax)) w2):aG C m full (o::r) K F H w:=
 VO.ZM hC e0 ho WV Rr Nw hU hzo hd hN hl (.inl oG) lV hk hsp il iC jH gv Co kZ PF hK
theorem VO.lit (hC:C.Ok) {n:Nat} {ps:Array (Nat×Operand)} {args:List AV} (vs:List Value)
  (e0:stepOf C full F H o=.call (.op o args)) (ha:args=vs.map .val) (ho:o.op=.buildSlice t n ps) (WV:C.ti t=some it) (Rr:it.elem=some (e,1)) (Nw:C.ti e=some ie)
  (jx:Pg 1 0 ((ps.toList.map (·.1)).zip (vs.map .val))=some (vs.map .val)) (hps:ps.size=n) (hvs:vs.length=n) (hn:n<=16777216)
  (hK:∀ w2 b,bQ C.K w w2->C.Old w2->w2.ownsRow C.w0.heap.size e 1 (.slice (some ⟨b,0,none⟩) n n) n vs->aG C m full r K (F.cw o.dst (.val (.slice (some ⟨b,0,none⟩) n n))) H w2):aG C m full (o::r) K F H w:=by
 refine VO.UO e0 λw1 β h1 h2 _=> ?_;obtain⟨hu,hsz⟩:=(hC t it WV).isSlice e 1 Rr;have pX:=(hC e ie Nw).zero;have hb:aU w1 (w1.alloc (.cells vs.toArray e)):=(aU.refl w1).alloc _;refine⟨.slice (some ⟨w1.heap.size,0,none⟩) n n,w1.alloc (.cells vs.toArray e),λρ iI=>.inl ?_,_,aa,hb,λa1 a2 a3=>hK _ w1.heap.size a1 a3 ?_⟩
 ·rw[ho,ha,mi] at iI
  have hl:(ps.map λx=>(x.1,ρ x.2)).toList=((ps.toList.map (·.1)).zip (vs.map AV.val)).map λp=>(p.1,p.2.bU (λ_=>0)):=by
   have h3:ps.toList.map (λx=>ρ x.2)=vs:=by
    rw[<-iI];simp[Op.operands]
   rw[vw,<-h3];generalize ps.toList=l
   induction l with
   | nil=>rfl
   | cons q r ih=>simp only[List.map_cons,List.zip_cons_cons];rw[ih];rfl
  have Pp:∀ A:Array Value,A.size=n*1->Instr.fill (λi=>some (i*1,1)) A (((ps.toList.map (·.1)).zip (vs.map AV.val)).map λp=>(p.1,p.2.bU (λ_=>0)))=some vs.toArray:=λA hA=>by
   have:=Ce (β:=λ_=>0) (sz:=1) _ 0 [] A.toList jx bN (by rw[Ge,hA];simp[hps,hvs]);rw[ak] at this;simpa using this
  simp only[execOp,ho,Instr.buildSlice,Sem.run_bind,run_underlying hu,Result.andThen_ok,hsz];rw[if_neg ab];by_cases h0:n*1=0
  ·simp only[if_pos h0,Sem.run_bind,Sem.run_pure,Result.andThen_ok];rw[hl,Pp _ bN];simp[newRow]
  ·simp only[if_neg h0,Sem.run_bind,Sem.run_pure,Result.andThen_ok,pX];rw[hl,Pp _ bN];simp[newRow]
 ·refine⟨by rw[hvs,yD],.inr ⟨w1.heap.size,n,vs.toArray,rfl,C.iq _ h2,World.alloc_heap_new w1 _,bL _,by simp only[maxLen];omega,by simp[hvs],?_⟩⟩;rw[dP (by simp[hvs])]
theorem VO.appU (hC:C.Ok) {src:Value} {n:Nat} {news:List Value}
  (e0:stepOf C full F H o=.call (.op o [.val (.slice none 0 0),.val src])) (ho:o.op=.call { callee:=.builtin .append,args:=#[x,y],argTypes:=#[t,t] })
  (WV:C.ti t=some it) (Rr:it.elem=some (e,1)) (Nw:C.ti e=some ie) (h1c:∀ u∈news,u.oneCell'=true) (hn:n*24<=140737488355328)
  (PF:∀ w1,bQ C.K w w1->C.Old w1->Rd w1 1 src n news)
  (hK:∀ w2 p c,bQ C.K w w2->C.Old w2->w2.ownsRow C.w0.heap.size e 1 (.slice p n c) n news->aG C m full r K (F.cw o.dst (.val (.slice p n c))) H w2):aG C m full (o::r) K F H w:=by
 refine VO.UO e0 λw1 β h1 h2 _=> ?_;obtain⟨hu,hsz⟩:=(hC t it WV).isSlice e 1 Rr;have KH:=hC e ie Nw;cases zj:C.P.info? e with
 | none=>have:=KH.size;rw[zj] at this;simp at this
 | some ti=>
   have PG:ti.size=ie.size:=by have:=KH.size;rw[zj] at this;simpa using this
   have lD:ti.zero=some ie.zero:=by have:=KH.Kl;rw[zj] at this;simpa using this
   have bA:ti.bytes<=24*ie.size:=bM (by have:=KH.bytes;rw[zj] at this;simpa using this)
   have LZ:1=ti.size:=by
    have:=hsz w1;simp[sizeOf,typeInfo,zj] at this;exact this.symm
   have RI:(0+n)*ti.bytes<=140737488355328:=bj (kS _ (show ti.bytes<=24 by omega)) ab;obtain⟨v',w',hr,q1,q2⟩:=sL (P:=C.P) w1 C.w0.heap.size t o.type e ti ie.zero ti.size ti.bytes hu zj lD aa aa (by rw[KH.GN,PG]) (by rw[PG];exact KH.pos) (.slice none 0 0) 0 [] (qF w1 _ _ _) src n news (LZ▸PF w1 h1 h2) h1c (by simp only[maxLen];omega) RI (C.iq _ h2);rw[jt,ma,<-LZ] at q1;obtain⟨p,c,rfl,_⟩:=Own.form q1;refine⟨_,w',λρ iI=>.inl ?_,_,aa,⟨q2.os,q2.tape,q2.output,q2.size,λk hk=>q2.block k hk (by simp[Value.ownBlock])⟩,λa1 a2 a3=>hK w' p c a1 a3 q1⟩;rw[ho] at iI;simp[Op.operands,Call.operands] at iI;obtain⟨g1,g2⟩:=iI;unfold execOp;simp only[ho,resolve,invoke,builtin,Sem.run_bind,Sem.run_pure,Result.andThen_ok,List.map_toArray,List.map_cons,List.map_nil,g1,g2,AV.bU,hr]
end
end
section
open Go.RowKit Go.MapKept
structure wi (ad:List Nat) (w w':World):Prop where
 os:w'.os=w.os
 tape:w'.tape=w.tape
 output:w'.output=w.output
 size:w.heap.size<=w'.heap.size
 pk:∀ g,g<w.heap.size->g∉ad->w'.heap[g]? =w.heap[g]?
variable {w w':World}
theorem wi.of {ad:List Nat} (h:aU w w'):wi ad w w':=⟨h.os,h.tape,h.output,h.size,λg hg _=>vC h g hg⟩
theorem wi.aR {ad:List Nat} {a b c:World} (h:wi ad a b) (k:wi ad b c):wi ad a c:=
 ⟨k.os.trans h.os,k.tape.trans h.tape,k.output.trans h.output,bj h.size k.size,λg hg hn=>(k.pk g (ox hg h.size) hn).trans (h.pk g hg hn)⟩
def AY (K:KC) (ad:List Nat) (w:World):Prop:=∀ g∈ad,∃ t cs,bO w g t (List.toArray cs)/\K.fz t=false/\cs.all bD=true
variable {K:KC}
theorem wi.kp {ad:List Nat} (h:wi ad w w') (ha:AY K ad w):bQ K w w':=by
 have no:∀ g,g∈ad->∀ o,w.heap[g]? =some o->∃ t cs,o=Obj.cells (List.toArray cs) t/\K.fz t=false/\cs.all bD=true:=λg hg o ho=>by
  obtain⟨t,cs,h1,h2,h3⟩:=ha g hg;have:=(show w.heap[g]? =_ from h1).symm.trans ho;cases this;exact⟨t,cs,aa,h2,h3⟩
 refine⟨h.size,λa x _ hx=> ?_,λt g cur hf _ hg=> ?_,λg es c hg=> ?_⟩
 ·have hlt:=JE w a hx;by_cases hm:a.block∈ad
  ·obtain⟨t,cs,h1,h2,h3⟩:=ha _ hm;exfalso;have Nx:=hx;simp only[World.cell?,show w.heap[a.block]? =_ from h1] at Nx;simp at Nx;have:=bR.1 h3 _ (cX Nx.2);cases this
  ·rw[Ab (w:=w) (h.pk _ hlt hm)];exact hx
 ·refine (h.pk g (vh.1 hg).1 λhm=> ?_).trans hg;obtain⟨t',cs,e,h2,_⟩:=no g hm _ hg;cases e;rw[h2] at hf;cases hf
 ·refine (h.pk g (vh.1 hg).1 λhm=> ?_).trans hg;obtain⟨t',cs,e,_⟩:=no g hm _ hg;cases e
def eK (N:Nat) (ad:List Nat) (w0:World) (i g:Nat):Prop:=if 2*N<=i then ad[i-2*N]? =some g else (w0.heap.size<=g\/g∈ad)
def Jm (K:KC) (ad:List Nat) (w0 w:World):Prop:=wi ad w0 w/\AY K ad w
variable {g:Nat}
theorem AY.lt {ad:List Nat} (h:AY K ad w) (hg:g∈ad):g<w.heap.size:=by
 obtain⟨t,cs,h1,_⟩:=h g hg;exact h1.lt
variable {N:Nat} {w0:World}
theorem newA_ad {ad:List Nat} (h:g∈ad):∃ i,eK N ad w0 i g:=by
 obtain⟨j,hj⟩:=qD.1 h;exact⟨2*N+j,by unfold eK;rw[if_pos ab,JF];exact hj⟩
variable {i:Nat}
theorem jk {ad:List Nat} (h:eK N ad w0 i g):w0.heap.size<=g\/g∈ad:=by
 unfold eK at h
 split at h
 ·exact .inr (cX h)
 ·exact h
theorem WW {ad:List Nat} (h0:AY K ad w0) (h:Jm K ad w0 w) (keep:∀ b,b<w0.heap.size->K.S b) (s:Stp K (eK N ad w0) w w'):Jm K ad w0 w':=by
 obtain⟨h1,h2⟩:=h;refine⟨⟨s.os.trans h1.os,s.tape.trans h1.tape,s.output.trans h1.output,bj h1.size s.size,λg hg hn=> ?_⟩,λg hg=> ?_⟩
 ·rcases s.pk g (ox hg h1.size) with e|⟨⟨i,hi⟩,_⟩|e
  ·exact e.trans (h1.pk g hg hn)
  ·rcases jk hi with e|e
   ·omega
   ·exact absurd e hn
  ·exact absurd (keep g hg) e
 ·rcases s.pk g (h2.lt hg) with e|⟨_,t,cs,g1,g2,g3⟩|e
  ·obtain⟨t,cs,g1,g2,g3⟩:=h2 g hg;exact⟨t,cs,e.trans g1,g2,g3⟩
  ·exact⟨t,cs,g1,g2,g3⟩
  ·exact absurd (keep g (h0.lt hg)) e
theorem WX {ad:List Nat} {a:Addr} {u:Value} (h:Jm K ad w0 w) (hn:∀ i,¬ eK N ad w0 i a.block) (hc:w0.cell? a=some u):w.cell? a=some u:=by
 rw[Ab (w:=w0) (h.1.pk _ (JE w0 a hc) λhm=>by
  obtain⟨i,hi⟩:=newA_ad (N:=N) (w0:=w0) hm;exact hn i hi)]
 exact hc
theorem UQ {ad:List Nat} (hi:i<2*N) (hg:w0.heap.size<=g):eK N ad w0 i g:=by
 unfold eK;rw[if_neg ab];exact .inl hg
theorem newA_mv {ad:List Nat} {j:Nat} (h:eK N ad w0 i g) (hj:j<2*N):eK N ad w0 j g:=by
 have:=jk h;unfold eK;rw[if_neg ab];exact this
def yl (w:World) (g:Nat) (o:Obj):World:={ w with heap:=w.heap.setIfInBounds g o }
theorem setB_at (o:Obj) (h:g<w.heap.size):(yl w g o).heap[g]? =some o:=by simp[yl,h]
theorem Ma {q:Nat} (o:Obj) (h:q≠g):(yl w g o).heap[q]? =w.heap[q]? :=by
 simp[yl,Ne.symm h]
theorem WY (w:World) (g:Nat) (o:Obj):(yl w g o).heap.size=w.heap.size:=by simp[yl]
theorem ZO {ad:List Nat} (o:Obj) (h:g∈ad):wi ad w (yl w g o):=
 ⟨rfl,rfl,rfl,iM (WY w g o).symm,λq _ hq=>Ma o λe=>hq (e▸h)⟩
def Su (H:Hp) (β:Nat->Nat) (N:Nat):Nat->List Nat->World->World
 | _,[],w=>w
 | k,g::r,w=>Su H β N (k+1) r (match H (2*N+k) with|some (t,cs)=>yl w g (.cells (cs.map (AV.leaf β)).toArray t)|none=>w)
theorem PI {K:KC} {ad:List Nat} {w0:World} {H:Hp} {β:Nat->Nat} {N:Nat} (hH:∀ i t cs,H i=some (t,cs)->K.fz t=false/\cs.all aY=true):∀ (l:List Nat) (k:Nat) (w:World),Jm K ad w0 w->(∀ g∈l,g∈ad)->l.Nodup->
  bQ K w (Su H β N k l w)/\Jm K ad w0 (Su H β N k l w)/\(∀ g,g∉l->(Su H β N k l w).heap[g]? =w.heap[g]?)/\∀ j g t cs,l[j]? =some g->H (2*N+(k+j))=some (t,cs)->bO (Su H β N k l w) g t (cs.map (AV.leaf β)).toArray
 | [],k,w,h,_,_=>⟨bQ.refl _ _,h,λ_ _=>rfl,λj g t cs hj=>by simp at hj⟩
 | g::r,k,w,h,hs,hn=>by
   have hg:g∈ad:=hs g (vo ..);obtain⟨n1,n2⟩:=JS.1 hn
   have step:∃ w1,(match H (2*N+k) with|some (t,cs)=>yl w g (.cells (cs.map (AV.leaf β)).toArray t)|none=>w)=w1/\bQ K w w1/\Jm K ad w0 w1/\(∀ q,q≠g->w1.heap[q]? =w.heap[q]?)/\∀ t cs,H (2*N+k)=some (t,cs)->bO w1 g t (cs.map (AV.leaf β)).toArray:=by
    cases hh:H (2*N+k) with
    | none=>exact⟨w,aa,bQ.refl _ _,h,λ_ _=>aa,λt cs e=>by cases e⟩
    | some c=>
      obtain⟨t,cs⟩:=c;obtain⟨q1,q2⟩:=hH _ t cs hh;have hlt:=h.2.lt hg;have jG:bO (yl w g (.cells (cs.map (AV.leaf β)).toArray t)) g t (cs.map (AV.leaf β)).toArray:=setB_at _ hlt;have hb:=ZO (w:=w) (.cells (cs.map (AV.leaf β)).toArray t) hg;refine⟨_,aa,hb.kp h.2,⟨h.1.aR hb,λq hq=> ?_⟩,λq hq=>Ma _ hq,λt' gD e=>by cases e;exact jG⟩;by_cases e:q=g
      ·subst e;exact⟨t,_,jG,q1,eN q2⟩
      ·obtain⟨t',gD,g1,g2,g3⟩:=h.2 q hq;exact⟨t',gD,(Ma _ e).trans g1,g2,g3⟩
   obtain⟨w1,e1,s1,s2,s3,s4⟩:=step;unfold Su;rw[e1];obtain⟨k1,k2,k3,k4⟩:=PI hH r (k+1) w1 s2 (λq hq=>hs q (qE _ hq)) n2;refine⟨s1.aR k1,k2,λq hq=>(k3 q λe=>hq (qE _ e)).trans (s3 q λe=>hq (by rw[e];exact vo ..)),λj q t cs hj hh=> ?_⟩;cases j with
   | zero=>
     simp at hj;subst hj;exact (k3 g n1).trans (s4 t cs hh)
   | succ j=>
     refine k4 j q t cs (by simpa using hj) ?_;rw[<-hh]
     congr 1
     omega
theorem Sv {ad:List Nat} {w1:World} (hd:ad.Nodup) (h:Jm K ad w0 w1) (H:Hp) (hH:∀ i t cs,H i=some (t,cs)->K.fz t=false/\cs.all aY=true) (hf:∀ i,2*N+ad.length<=i->H i=none):
  ∃ β w2,bQ K w1 w2/\Jm K ad w0 w2/\(∀ i t cs,H i=some (t,cs)->eK N ad w0 i (β i)/\bO w2 (β i) t (cs.map (AV.leaf β)).toArray)/\∀ i j,H i≠none->H j≠none->β i=β j->i=j:=by
 let β:Nat->Nat:=λi=>if 2*N<=i then ad.getD (i-2*N) 0 else w1.heap.size+i
 have ZP:∀ i,i<2*N->β i=w1.heap.size+i:=λi hi=>if_neg ab;have hβ2:∀ i,2*N<=i->β i=ad.getD (i-2*N) 0:=λi hi=>if_pos hi;have mb:=Fx H β w1 (2*N)
 have ha':Jm K ad w0 (mkW H β (2*N) w1):=⟨h.1.aR (wi.of mb),λg hg=>by
  obtain⟨t,cs,g1,g2,g3⟩:=h.2 g hg;exact⟨t,cs,g1.bI mb,g2,g3⟩⟩
 obtain⟨k1,k2,k3,k4⟩:=PI (β:=β) (N:=N) hH ad 0 _ ha' (λ_ h=>h) hd
 have hlt:∀ i,2*N<=i->H i≠none->∃ g,ad[i-2*N]? =some g/\β i=g:=λi hi hn=>by
  have:i-2*N<ad.length:=by
   apply YL;intro e;exact hn (hf i ab)
  refine⟨ad[i-2*N],ba this,?_⟩;rw[hβ2 i hi];simp[List.getD_eq_getElem?_getD,this]
 refine⟨β,Su H β N 0 ad (mkW H β (2*N) w1),(bQ.of mb).aR k1,k2,λi t cs hi=> ?_,λi j hi hj e=> ?_⟩
 ·by_cases c:2*N<=i
  ·obtain⟨g,g1,g2⟩:=hlt i c (by rw[hi];simp);rw[g2];refine⟨by unfold eK;rw[if_pos c];exact g1,k4 (i-2*N) g t cs g1 ?_⟩;rw[<-hi]
   congr 1
   omega
  ·rw[ZP i ab];have hs:=bj h.1.size (Nat.le_add_right w1.heap.size i);refine⟨UQ ab hs,?_⟩;refine (k3 _ λhm=> ?_).trans (Si H β w1 hi _ ab);have:=h.2.lt hm;omega
 ·by_cases c:2*N<=i <;> by_cases d:2*N<=j
  ·obtain⟨g,g1,g2⟩:=hlt i c hi;obtain⟨g',g3,g4⟩:=hlt j d hj;rw[g2,g4] at e;subst e;have:=(Un (cQ.1 g1).1 hd).1 (g1.trans g3.symm);omega
  ·obtain⟨g,g1,g2⟩:=hlt i c hi;rw[g2,ZP j ab] at e;have:=h.2.lt (cX g1);omega
  ·obtain⟨g,g1,g2⟩:=hlt j d hj;rw[g2,ZP i ab] at e;have:=h.2.lt (cX g1);omega
  ·rw[ZP i ab,ZP j ab] at e;omega
abbrev WZ (P:Program) (w:World) (N:Nat) (K:KC) (SU:TypeId->Bool) (ti:TypeId->Option TI) (keep:∀ b,b<w.heap.size->K.S b) (ad:List Nat) (hd:ad.Nodup) (ha:AY K ad w):Cx where
 P:=P
 w0:=w
 N:=N
 K:=K
 SU:=SU
 ti:=ti
 keep:=keep
 GO:=eK N ad w
 Old:=Jm K ad w
 top:=2*N+ad.length
 topN:=Nat.le_add_right _ _
 yT:=λ_ _ h1 h2=>UQ h1 h2
 Kn:=λ_ _ _ h1 h2=>newA_mv h1 h2
 iq:=λ_ h=>h.1.size
 uH:=⟨wi.of (aU.refl _),ha⟩
 AG:=λ_ _ h k _ s=>WW ha h k s
 LJ:=λ_ _ _ h hn hc=>WX h hn hc
 lay:=λ_ H h hH hf=>Sv hd h H hH hf
def Fr.ZQ:Nat->List AV->Fr
 | _,[]=>λ_=>none
 | k,v::r=>λn=>bif Nat.beq n k then some v else Fr.ZQ (k+1) r n
theorem Fr.FE:∀ (l:List AV) (k n:Nat) (v:AV),Fr.ZQ k l n=some v->k<=n/\l[n-k]? =some v
 | [],k,n,v,h=>by cases h
 | x::r,k,n,v,h=>by
   unfold Fr.ZQ at h;cases hb:Nat.beq n k with
   | true=>
     rw[hb] at h;cases h;have e:=qC hb;exact⟨ab,by rw[e];simp⟩
   | false=>
     rw[hb] at h;obtain⟨h2,h3⟩:=Fr.FE r (k+1) n v h;refine⟨ab,?_⟩;rw[show n-k=(n-(k+1))+1 by omega];simpa using h3
section
variable {C:Cx} {F:Fr} {H:Hp} {w:World} {m:Option (List FuncId)} {full:Array Oper} {K:Fr->Hp->World->Prop} {o:Oper} {r:List Oper}
theorem PJ {f:FuncId} {fn:Func} {c:Code} {args:List AV} {R:Ending->World->Prop} {β:Nat->Nat} (hf:C.P.funcs[f]? =some fn) (hb:fn.body=some c) (hN:fn.ntmps=C.N) (ha:args.length<=C.N)
  (aZ:∀ i t cs,H i=some (t,cs)->oK C β C.w0 i t cs) (hap:∀ i j,H i≠none->H j≠none->β i=β j->i=j) (hp:LO C H) (jG:∀ v∈args,∀ i∈v.ids,H i≠none)
  (h:VS C (bodyPost C.P fn R) [.code c] (Fr.ZQ 0 args) H C.w0):Calls C.P f (args.map (AV.bU β)).toArray C.w0 R:=by
 refine calls_of_wp hf hb ?_;refine h β _ C.w0 ⟨aa,?_,λd v hd=> ?_,aZ,hap,λd v hd i hi=> ?_,λd v hd=> ?_,hp,C.uH⟩ (bQ.refl _ _)
 ·simp[hN];omega
 ·obtain⟨_,h2⟩:=Fr.FE args 0 d v hd;rw[Nat.sub_zero] at h2;show ((args.map (AV.bU β)).toArray++_).getD d undef=v.bU β;have hlt:=(cQ.1 h2).1;rw[gl,Array.getElem?_append_left (by simpa using hlt)];simp[h2]
 ·obtain⟨_,h2⟩:=Fr.FE args 0 d v hd;exact jG v (cX h2) i hi
 ·obtain⟨_,h2⟩:=Fr.FE args 0 d _ hd;rw[Nat.sub_zero] at h2;have:=(cQ.1 h2).1;omega
end
theorem VS.fin {C:Cx} {F:Fr} {H:Hp} {w:World} (hC:C.Ok) {fn:Func} {R:Ending->World->Prop} {vs:List AV} (h:vH C F H fn.results.toList=some vs) (hR:∀ w' β,bQ C.K w w'->C.Old w'->Ends C β H w'->R (.returned (lN (vs.map (AV.bU β)))) w'):VS C (bodyPost C.P fn R) [] F H w:=
 λβ a w' hr hk=>Hf hC h hR β a w' hr hk
end
end Go.Proofs.YtabalinjfgcfeaaGreat
