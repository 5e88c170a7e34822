/-BN of the proof,laid behind one another. -/
import Derived.Test.YtlifeokjcgngjaaGreatKChartBooks1
import Derived.RangeFuncBox
import Derived.Orders
import Derived.Deep.MidRow
import Derived.Laws.MakeOwn
import Derived.RegionTactic
import Derived.Laws.Slices
import Derived.Deep.LoopGhost
import Derived.Scope
import Derived.Deep.AppendSrc
import Derived.Laws.AppendOwn
import Derived.MapKept
set_option linter.all false
set_option maxHeartbeats 64000000
namespace Go.Proofs.YtlifeokjcgngjaaGreat
section
open Go.RowKit
def Be (neg:Bool) (xs:List Nat):Int:=if neg=true then-(ar xs:Int) else (ar xs:Int)
def eu (neg:Bool) (xs:List Nat):Bool:=match xs.getLast? with|none=> !neg|some x=>decide (x≠0)
def numOf (neg:Bool) (xs:List Nat):Int:=if eu neg xs=true then Be neg xs else 0
theorem sV (neg:Bool):eu neg []= !neg:=rfl
variable {xs:List Nat}
theorem xq {neg:Bool} {x:Nat} (h:xs[xs.length-1]? =some x):eu neg xs=decide (x≠0):=by
 unfold eu;rw[KG,h]
theorem Li {neg:Bool} (h:eu neg xs=true):∀ x,xs.getLast? =some x->x≠0:=by
 intro x hx;unfold eu at h;rw[hx] at h;simpa using h
theorem uC {neg:Bool} (hl:da xs) (h:eu neg xs=true) (hx:xs≠[]):ar xs≠0:=by
 intro h0;have:=sS hl (Li h);rw[h0,cz] at this;exact hx this.symm
theorem canon {neg:Bool} (hl:da xs) (h:eu neg xs=true):neg=decide (Be neg xs<0)/\xs=limbs (Be neg xs).natAbs:=by
 have h1:=sS hl (Li h);have h2:(Be neg xs).natAbs=ar xs:=by unfold Be;split <;> simp
 refine⟨?_,by rw[h2,h1]⟩;by_cases hx:xs=[]
 ·subst hx;rw[sV] at h;cases neg
  ·simp[Be,ff]
  ·cases h
 ·have:=uC hl h hx;cases neg
  ·simp[Be]
  ·simp[Be];omega
theorem DK (X:Int):eu (decide (X<0)) (limbs X.natAbs)=true:=by
 by_cases h:X=0
 ·subst h;simp[cz,eu]
 ·unfold eu;cases hl:(limbs X.natAbs).getLast? with
  | none=>rw[List.getLast?_eq_none_iff,nQ] at hl;omega
  | some x=>simpa using sU _ _ hl
theorem Jh (X:Int):Be (decide (X<0)) (limbs X.natAbs)=X:=by
 unfold Be;rw[aw];by_cases h:X<0
 ·rw[if_pos (by simpa using h)];omega
 ·rw[if_neg (by simpa using h)];omega
theorem kC (X:Int):numOf (decide (X<0)) (limbs X.natAbs)=X:=by
 unfold numOf;rw[if_pos (DK X),Jh]
theorem Cw {neg:Bool} (hl:da xs):(limbs (numOf neg xs).natAbs).length<=xs.length:=by
 unfold numOf
 split
 ·rename_i h;rw[<-(canon hl h).2];exact aP _
 ·rw[show (0:Int).natAbs=0 from aa,cz];exact fQ _
def gl (w:World) (v:Value) (neg:Bool) (xs:List Nat):Prop:=∃ p c,v=.agg #[.bool neg,.slice p xs.length c]/\Rd w 1 (.slice p xs.length c) xs.length (ints .u32 xs)/\da xs
def cY (w:World) (v:Value) (X:Int) (k:Nat):Prop:=∃ neg xs,gl w v neg xs/\X=numOf neg xs/\xs.length<=k
def cX (w:World) (v:Value) (X:Int):Prop:=gl w v (decide (X<0)) (limbs X.natAbs)
def aJ (w:World) (B:Nat) (v:Value) (X:Int):Prop:=∃ p c,v=.agg #[.bool (decide (X<0)),.slice p (limbs X.natAbs).length c]/\w.ownsRow B 78 1 (.slice p (limbs X.natAbs).length c) (limbs X.natAbs).length (ints .u32 (limbs X.natAbs))
def ax (w w':World):Prop:=Below w.heap.size w w'
theorem ax.refl (w:World):ax w w:=fB _ _
variable {w w':World}
theorem ax.alloc (h:ax w w') (o:Obj):ax w (w'.alloc o):=Below.alloc h h.size o
theorem ax.drew (h:ax w w'):ax w w'.drew:=Below.drew h
theorem ax.drewN (h:ax w w') (n:Nat):ax w (w'.drewN n):=Below.drewN h n
variable {a:World}
theorem ax.aG {b c:World} (h:ax a b) (k:ax b c):ax a c:=Below.aG h k
theorem ax.setCell (h:ax w w') {p:Addr} (hp:w.heap.size<=p.block) (v:Value):ax w (w'.setCell p v):=Below.setCell h hp v
variable {u:Value}
theorem ax.cell (h:ax w w') {a:Addr} (hc:w.cell? a=some u):w'.cell? a=some u:=Below.keeps h _ _ hc
theorem ax.size (h:ax w w'):w.heap.size<=w'.heap.size:=Below.size h
variable {v:Value}
theorem gl.aA {neg:Bool} (h:gl w v neg xs) (hb:ax w w'):gl w' v neg xs:=by
 obtain⟨p,c,hv,hr,hl⟩:=h;exact⟨p,c,hv,hr.below hb,hl⟩
variable {X:Int}
theorem cY.aA {k:Nat} (h:cY w v X k) (hb:ax w w'):cY w' v X k:=by
 obtain⟨neg,xs,hn,hx,hk⟩:=h;exact⟨neg,xs,hn.aA hb,hx,hk⟩
theorem cX.aA (h:cX w v X) (hb:ax w w'):cX w' v X:=gl.aA h hb
variable {B:Nat}
theorem aJ.rd (h:aJ w B v X):cX w v X:=by
 obtain⟨p,c,hv,ho⟩:=h;exact⟨p,c,hv,Rd.own ho,aC _⟩
theorem aJ.mono {B':Nat} (h:aJ w B v X) (hB:B'<=B):aJ w B' v X:=by
 obtain⟨p,c,hv,ho⟩:=h;exact⟨p,c,hv,Own.mono ho hB⟩
theorem cX.to {k:Nat} (h:cX w v X) (hk:(limbs X.natAbs).length<=k):cY w v X k:=⟨_,_,h,(kC X).symm,hk⟩
theorem cY.len {k:Nat} (h:cY w v X k):(limbs X.natAbs).length<=k:=by
 obtain⟨neg,xs,⟨_,_,_,_,hl⟩,rfl,hk⟩:=h;exact aV (Cw hl) hk
theorem cX.zero (w:World):cX w (.agg #[.bool false,.slice none 0 0]) 0:=by
 refine⟨none,0,?_,?_,aC _⟩
 ·simp[cz]
 ·simp only[show (0:Int).natAbs=0 from aa,cz];exact Rd.nil w 1
theorem aJ.zero (w:World) (B:Nat):aJ w B (.agg #[.bool false,.slice none 0 0]) 0:=by
 refine⟨none,0,?_,?_⟩
 ·simp[cz]
 ·simp only[show (0:Int).natAbs=0 from aa,cz];exact mc _ _ _ _
variable {c m:Nat} {p:Option Addr}
theorem aJ.of {neg:Bool} {n:Nat} (h:w.ownsRow B 78 1 (.slice p n c) (limbs m).length (ints .u32 (limbs m))) (hn:n=(limbs m).length) (X:Int) (hX:X=if neg=true then-(m:Int) else m):
  aJ w B (.agg #[.bool (neg && decide (0<n)),.slice p n c]) X:=by
 subst hn;have h1:X.natAbs=m:=by rw[hX];split <;> simp
 refine⟨p,c,?_,by rw[h1];exact h⟩;rw[h1]
 congr 3
 by_cases hm:m=0
 ·subst hm;have:X=0:=ae;rw[this];simp[cz]
 ·have:=dY hm;cases neg
  ·simp at hX;simp[hX]
  ·simp at hX;simp[hX];omega
theorem cX.of {neg:Bool} {n:Nat} (h:Rd w 1 (.slice p n c) (limbs m).length (ints .u32 (limbs m))) (hn:n=(limbs m).length) (X:Int) (hX:X=if neg=true then-(m:Int) else m):
  cX w (.agg #[.bool (neg && decide (0<n)),.slice p n c]) X:=by
 subst hn;have h1:X.natAbs=m:=by rw[hX];split <;> simp
 refine⟨p,c,?_,by rw[h1];exact h,aC _⟩;rw[h1]
 congr 3
 by_cases hm:m=0
 ·subst hm;have:X=0:=ae;rw[this];simp[cz]
 ·have:=dY hm;cases neg
  ·simp at hX;simp[hX]
  ·simp at hX;simp[hX];omega
def Sz (X:Int) (k:Nat):Prop:=(limbs X.natAbs).length<=k
theorem Sz.lt {k:Nat} (h:Sz X k):X.natAbs<4294967296^k:=qj (pH _) (qJ ae h)
theorem Sz.of_lt {k:Nat} (h:X.natAbs<4294967296^k):Sz X k:=kQ k _ h
theorem Sz.mono {k l:Nat} (h:Sz X k) (ET:k<=l):Sz X l:=aV h ET
variable {Y:Int}
theorem Sz.le {k:Nat} (h:Sz Y k) (Dx:X.natAbs<=Y.natAbs):Sz X k:=aV (dt Dx) h
theorem Sz.neg {k:Nat} (h:Sz X k):Sz (-X) k:=Sz.le h (by rw[Int.natAbs_neg];exact aP _)
theorem Sz.add {k l:Nat} (hx:Sz X k) (hy:Sz Y l) (hk:k<=m) (hl:l<=m):Sz (X+Y) (m+1):=by
 refine Sz.of_lt ?_;have h1:=qj hx.lt (qJ ae hk);have h2:=qj hy.lt (qJ ae hl);have h3:(X+Y).natAbs<=X.natAbs+Y.natAbs:=Int.natAbs_add_le X Y;rw[fP];omega
theorem Sz.mul {k l:Nat} (hx:Sz X k) (hy:Sz Y l):Sz (X*Y) (k+l):=by
 refine Sz.of_lt ?_;rw[Int.natAbs_mul,qn];exact Nat.mul_lt_mul'' hx.lt hy.lt
theorem Sz.zero:Sz 0 0:=by show (limbs 0).length<=0;rw[cz];exact aP _
theorem Sz.small (h:X.natAbs<4294967296):Sz X 1:=Sz.of_lt (by simpa using h)
def aQ (w:World) (b:Nat) (t:TypeId) (cs:Array Value):Prop:=w.heap[b]? =some (.cells cs t (0,0))
variable {cs:Array Value} {t:TypeId}
theorem aQ.lt {b:Nat} (h:aQ w b t cs):b<w.heap.size:=(gh.1 h).1
theorem aQ.new (w:World) (t:TypeId) (cs:Array Value):aQ (w.alloc (.cells cs t)) w.heap.size t cs:=World.alloc_heap_new w _
theorem aQ.newAt {b:Nat} (hb:b=w.heap.size) (t:TypeId) (cs:Array Value):aQ (w.alloc (.cells cs t)) b t cs:=hb▸aQ.new w t cs
theorem aQ.aA {b:Nat} (h:aQ w b t cs) (hb:ax w w'):aQ w' b t cs:=(ky hb b h.lt).trans h
theorem aQ.alloc {b:Nat} (h:aQ w b t cs) (o:Obj):aQ (w.alloc o) b t cs:=h.aA ((ax.refl w).alloc o)
theorem aQ.drew {b:Nat} (h:aQ w b t cs):aQ w.drew b t cs:=h
theorem aQ.drewN {b:Nat} (h:aQ w b t cs) (n:Nat):aQ (w.drewN n) b t cs:=h
variable {j:Nat}
theorem aQ.cell {b:Nat} (h:aQ w b t cs) (hj:cs[j]? =some u):w.cell? ⟨b,j,none⟩=some u:=by
 simp[World.cell?,show w.heap[b]? =_ from h,hj]
theorem aQ.frozen {b:Nat} (h:aQ w b t cs) (j:Nat):w.frozen? ⟨b,j,none⟩=false:=by
 simp[World.frozen?,show w.heap[b]? =_ from h]
theorem aQ.set {b:Nat} (h:aQ w b t cs) (v:Value):aQ (w.setCell ⟨b,j,none⟩ v) b t (cs.setIfInBounds j v):=by
 obtain⟨hlt,hk⟩:=gh.1 h;show (w.heap.modify b _)[b]? =_;rw[lV (by rw[Array.size_modify];exact hlt),Array.getElem_modify_self,hk];rfl
variable {b':Nat}
theorem aQ.other {b:Nat} (h:aQ w b t cs) (hne:b≠b') (v:Value):aQ (w.setCell ⟨b',j,none⟩ v) b t cs:=
 (qL _ _ _ b hne).trans h
theorem aQ.two {b:Nat} (h:aQ w b t #[u,v]):w.cell? ⟨b,0,none⟩=some u/\w.cell? ⟨b,1,none⟩=some v/\w.frozen? ⟨b,0,none⟩=false/\w.frozen? ⟨b,1,none⟩=false:=
 ⟨h.cell rfl,h.cell rfl,h.frozen 0,h.frozen 1⟩
theorem aQ.cu {b:Nat} (h:aQ w b t #[u,v]) (u' v':Value):aQ ((w.setCell ⟨b,0,none⟩ u').setCell ⟨b,1,none⟩ v') b t #[u',v']:=(h.set (j:=0) u').set (j:=1) v'
theorem ax.cu (h:ax w w') {b:Nat} (hb:w.heap.size<=b) (u v:Value):ax w ((w'.setCell ⟨b,0,none⟩ u).setCell ⟨b,1,none⟩ v):=(h.setCell (p:=⟨b,0,none⟩) hb u).setCell (p:=⟨b,1,none⟩) hb v
theorem nU (w:World) (t t':TypeId) (cs ew:Array Value):aQ ((w.alloc (.cells cs t)).alloc (.cells ew t')) w.heap.size t cs/\aQ ((w.alloc (.cells cs t)).alloc (.cells ew t')) (w.heap.size+1) t' ew/\ax w ((w.alloc (.cells cs t)).alloc (.cells ew t')):=
 ⟨(aQ.new _ _ _).alloc _,aQ.newAt cf _ _,((ax.refl w).alloc _).alloc _⟩
theorem pO (w:World) (t t' ID:TypeId) (cs ew sq:Array Value):aQ (((w.alloc (.cells cs t)).alloc (.cells ew t')).alloc (.cells sq ID)) w.heap.size t cs/\aQ (((w.alloc (.cells cs t)).alloc (.cells ew t')).alloc (.cells sq ID)) (w.heap.size+1) t' ew/\
  aQ (((w.alloc (.cells cs t)).alloc (.cells ew t')).alloc (.cells sq ID)) (w.heap.size+2) ID sq/\ax w (((w.alloc (.cells cs t)).alloc (.cells ew t')).alloc (.cells sq ID)):=
 ⟨(nU w t t' cs ew).1.alloc _,(nU w t t' cs ew).2.1.alloc _,aQ.newAt cf _ _,(nU w t t' cs ew).2.2.alloc _⟩
def aD (W:World) (r:Nat) (w':World):Prop:=W.heap.size<=w'.heap.size/\∀ b,b<W.heap.size->b≠r->w'.heap[b]? =W.heap[b]?
theorem aD.refl (W:World) (r:Nat):aD W r W:=⟨aP _,λ_ _ _=>rfl⟩
variable {r:Nat} {W:World}
theorem aD.drew (h:aD W r w'):aD W r w'.drew:=h
theorem aD.aG {b:World} (h:aD W r a) (k:ax a b):aD W r b:=
 ⟨aV h.1 k.size,λj hj hr=>(ky k j (qj hj h.1)).trans (h.2 j hj hr)⟩
theorem aD.alloc (h:aD W r a) (o:Obj):aD W r (a.alloc o):=h.aG ((ax.refl a).alloc o)
theorem aD.set (h:aD W r a) (v:Value):aD W r (a.setCell ⟨r,j,none⟩ v):=
 ⟨aV h.1 cf,λb hb hr=>(qL _ _ _ b hr).trans (h.2 b hb hr)⟩
theorem aD.cls {b:Nat} (h:aD W r w') (hc:aQ W b t cs) (hr:b≠r):aQ w' b t cs:=(h.2 b hc.lt hr).trans hc
theorem aD.cells {b:Nat} (h:aD W r w') (hc:aQ W b t #[u,v]) (hr:b≠r):w'.cell? ⟨b,0,none⟩=some u/\w'.cell? ⟨b,1,none⟩=some v:=
 ⟨(h.cls hc hr).cell rfl,(h.cls hc hr).cell rfl⟩
variable {base e:Nat}
theorem aQ.notRow {b sz n:Nat} {xs:List Value} (h:aQ w b t cs) (hte:t≠e) (hr:w.ownsRow base e sz v n xs):some b≠v.ownBlock:=by
 rcases hr.2 with ⟨rfl,rfl⟩|⟨g,cap,cur,rfl,_,hg,_⟩
 ·simp[Value.ownBlock]
 ·intro e';obtain rfl:b=g:=by simpa [Value.ownBlock] using e'
  have:=(show w.heap[b]? =_ from h).symm.trans hg;simp at this;exact hte this.2
theorem Own.Pj {b sz n:Nat} {xs:List Value} (hr:w.ownsRow base e sz v n xs) (h:aQ w b t cs) (hte:t≠e) (u:Value):(w.setCell ⟨b,j,none⟩ u).ownsRow base e sz v n xs:=by
 refine⟨hr.1,?_⟩;rcases hr.2 with h2|⟨g,cap,cur,hv,hb,hg,r⟩
 ·exact .inl h2
 ·refine .inr ⟨g,cap,cur,hv,hb,?_,r⟩
  have hne:g≠b:=λe'=>by
   have:=h.notRow hte hr;rw[hv] at this;simp[Value.ownBlock,e'] at this
  exact (qL _ _ _ g hne).trans hg
variable {x y:Value}
theorem Own.cu {b sz n:Nat} {xs:List Value} (hr:w.ownsRow base e sz v n xs) (h:aQ w b t #[x,y]) (hte:t≠e) (u u':Value):((w.setCell ⟨b,0,none⟩ u).setCell ⟨b,1,none⟩ u').ownsRow base e sz v n xs:=
 Own.Pj (Own.Pj hr h hte u) (h.set (j:=0) u) hte u'
theorem aQ.eF {b:Nat} (h:aQ w b t cs) (hne:b≠b') (u v:Value):aQ ((w.setCell ⟨b',0,none⟩ u).setCell ⟨b',1,none⟩ v) b t cs:=(h.other hne u).other hne v
theorem aJ.cu {b:Nat} (h:aJ w B v X) (hc:aQ w b t #[x,y]) (ht:t≠78) (u u':Value):aJ ((w.setCell ⟨b,0,none⟩ u).setCell ⟨b,1,none⟩ u') B v X:=by
 obtain⟨p,c,hv,ho⟩:=h;exact⟨p,c,hv,Own.cu ho hc ht u u'⟩
theorem aJ.form (h:aJ w B v X):∃ s p n c,v=.agg #[.bool s,.slice p n c]:=by
 obtain⟨p,c,hv,_⟩:=h;exact⟨_,_,_,_,hv⟩
theorem cX.jv (h:cX w v X):∃ s p n c,v=.agg #[.bool s,.slice p n c]:=by
 obtain⟨p,c,hv,_⟩:=h;exact⟨_,_,_,_,hv⟩
theorem cY.form {k:Nat} (h:cY w v X k):∃ s p n c,v=.agg #[.bool s,.slice p n c]:=by
 obtain⟨neg,xs,⟨p,c,hv,_⟩,_⟩:=h;exact⟨_,_,_,_,hv⟩
theorem aD.qW {b:Nat} (h:aD W r a) (hb:W.heap.size<=b) (v:Value):aD W r (a.setCell ⟨b,j,none⟩ v):=
 ⟨aV h.1 cf,λk hk hr=>(qL _ _ _ k (by show k≠b;omega)).trans (h.2 k hk hr)⟩
theorem cX.parts {s:Bool} {n:Nat} (h:cX w (.agg #[.bool s,.slice p n c]) X):n=(limbs X.natAbs).length/\Rd w 1 (.slice p n c) n (ints .u32 (limbs X.natAbs))/\X=if s=true then-(X.natAbs:Int) else (X.natAbs:Int):=by
 obtain⟨p',c',hv,hr,_⟩:=h;simp only[Value.agg.injEq,Array.mk.injEq,List.cons.injEq,Value.bool.injEq,Value.slice.injEq,and_true] at hv;obtain⟨rfl,rfl,rfl,rfl⟩:=hv;refine⟨aa,hr,?_⟩
 split
 ·rename_i h;have:=mY h;omega
 ·rename_i h;have:¬ X<0:=λh'=>h (aU h');omega
theorem cX.own {s:Bool} {p':Option Addr} {n c':Nat} (h:cX w (.agg #[.bool s,.slice p n c]) X) (ho:w'.ownsRow B 78 1 (.slice p' n c') n (ints .u32 (limbs X.natAbs))):
  aJ w' B (.agg #[.bool s,.slice p' n c']) X:=by
 obtain⟨p1,c1,hv,hr,_⟩:=h;simp only[Value.agg.injEq,Array.mk.injEq,List.cons.injEq,Value.bool.injEq,Value.slice.injEq,and_true] at hv;obtain⟨rfl,rfl,rfl,rfl⟩:=hv;exact⟨p',c',aa,ho⟩
theorem aJ.ofNat {n:Nat} (h:w.ownsRow B 78 1 (.slice p n c) n (ints .u32 (limbs m))) (hn:n=(limbs m).length):aJ w B (.agg #[.bool false,.slice p n c]) (m:Int):=by
 subst hn;refine⟨p,c,?_,by simpa using h⟩
 congr 3
theorem sign_neg (h:X<0):X.sign= -1:=Int.sign_eq_neg_one_of_neg h
theorem fD (h:0<X):X.sign=1:=Int.sign_eq_one_of_pos h
theorem cX.sgn {s:Bool} {n:Nat} (h:cX w (.agg #[.bool s,.slice p n c]) X):s=decide (X<0):=by
 obtain⟨p',c',hv,hr,_⟩:=h;simp only[Value.agg.injEq,Array.mk.injEq,List.cons.injEq,Value.bool.injEq,Value.slice.injEq,and_true] at hv;exact hv.1
def bo (W:World) (r q:Nat) (w':World):Prop:=W.heap.size<=w'.heap.size/\∀ b,b<W.heap.size->b≠r->b≠q->w'.heap[b]? =W.heap[b]?
theorem bo.refl (W:World) (r q:Nat):bo W r q W:=⟨aP _,λ_ _ _ _=>rfl⟩
theorem bo.drew {q:Nat} (h:bo W r q w'):bo W r q w'.drew:=h
theorem bo.aG {b:World} {q:Nat} (h:bo W r q a) (k:ax a b):bo W r q b:=
 ⟨aV h.1 k.size,λj hj hr hq=>(ky k j (qj hj h.1)).trans (h.2 j hj hr hq)⟩
theorem bo.Pk {q:Nat} (h:bo W r q a) (v:Value):bo W r q (a.setCell ⟨r,j,none⟩ v):=
 ⟨aV h.1 cf,λb hb hr hq=>(qL _ _ _ b hr).trans (h.2 b hb hr hq)⟩
theorem bo.sw {q:Nat} (h:bo W r q a) (v:Value):bo W r q (a.setCell ⟨q,j,none⟩ v):=
 ⟨aV h.1 cf,λb hb hr hq=>(qL _ _ _ b hq).trans (h.2 b hb hr hq)⟩
theorem bo.cls {q b:Nat} (h:bo W r q w') (hc:aQ W b t cs) (hr:b≠r) (hq:b≠q):aQ w' b t cs:=(h.2 b hc.lt hr hq).trans hc
theorem aQ.apart {a b:Nat} {t':TypeId} {ew:Array Value} (h:aQ w a t cs) (h':aQ w b t' ew) (ht:t≠t'):a≠b:=λe=>by
 subst e;have:=(show w.heap[_]? =_ from h).symm.trans h';simp at this;exact ht this.2
theorem aJ.cast (h:aJ w B v X) (e:X=Y):aJ w B v Y:=e▸h
theorem sum_len {a b n:Nat} (hn:n=(limbs a).length) (hm:m=(limbs b).length):(limbs (a+b)).length<=n+m+1:=by
 have:=Sz.add (X:=(a:Int)) (Y:=(b:Int)) (k:=n) (l:=m) (m:=n+m) (by show (limbs _).length<=_;rw[xd];omega) (by show (limbs _).length<=_;rw[xd];omega) ae ae;have e:((a:Int)+(b:Int)).natAbs=a+b:=ae;unfold Sz at this
 rwa [e] at this
inductive AV where
 | val (v:Value)
 | box (i off:Nat)
 | nV (i off:Nat)
 | row (i o n c:Nat)
 | fn (g:FuncId) (first:List Value) (cap:List (Nat×Nat))
 | agg (l:List AV)
 | mj (l:List AV)
def AV.leaf (β:Nat->Nat):AV->Value
 | .val v=>v
 | .box i off=>.pointer (some ⟨β i,off,none⟩)
 | .nV i off=>.pointer (some ⟨β i,off,none⟩)
 | .row i o n c=>.slice (some ⟨β i,o,none⟩) n c
 | .fn g first cap=>.func (.func g) first.toArray (cap.map λp=>Value.pointer (some ⟨β p.1,p.2,none⟩)).toArray
 | .agg _=>undef
 | .mj _=>undef
def AV.lB (β:Nat->Nat):AV->Value
 | .val v=>v
 | .box i off=>.pointer (some ⟨β i,off,none⟩)
 | .nV i off=>.pointer (some ⟨β i,off,none⟩)
 | .row i o n c=>.slice (some ⟨β i,o,none⟩) n c
 | .fn g first cap=>.func (.func g) first.toArray (cap.map λp=>Value.pointer (some ⟨β p.1,p.2,none⟩)).toArray
 | .agg l=>.agg (l.map (AV.leaf β)).toArray
 | .mj _=>undef
def AV.bu (β:Nat->Nat):AV->Value
 | .val v=>v
 | .box i off=>.pointer (some ⟨β i,off,none⟩)
 | .nV i off=>.pointer (some ⟨β i,off,none⟩)
 | .row i o n c=>.slice (some ⟨β i,o,none⟩) n c
 | .fn g first cap=>.func (.func g) first.toArray (cap.map λp=>Value.pointer (some ⟨β p.1,p.2,none⟩)).toArray
 | .agg l=>.agg (l.map (AV.leaf β)).toArray
 | .mj l=>.tuple (l.map (AV.lB β)).toArray
def AV.gM:AV->List Nat
 | .box i _=>[i]
 | .nV i _=>[i]
 | .row i _ _ _=>[i]
 | .fn _ _ cap=>cap.map (·.1)
 | _=>[]
def bj:List AV->List Nat
 | []=>[]
 | v::r=>v.gM++bj r
def AV.vJ:AV->List Nat
 | .box i _=>[i]
 | .nV i _=>[i]
 | .row i _ _ _=>[i]
 | .fn _ _ cap=>cap.map (·.1)
 | .agg l=>bj l
 | _=>[]
def DL:List AV->List Nat
 | []=>[]
 | v::r=>v.vJ++DL r
def AV.ids:AV->List Nat
 | .box i _=>[i]
 | .nV i _=>[i]
 | .row i _ _ _=>[i]
 | .fn _ _ cap=>cap.map (·.1)
 | .agg l=>bj l
 | .mj l=>DL l
 | .val _=>[]
def oJ:List AV->List Nat
 | []=>[]
 | v::r=>v.ids++oJ r
variable {l:List AV} {i:Nat}
theorem bZ:i∈bj l↔∃ v∈l,i∈v.gM:=by
 induction l with
 | nil=>exact⟨λh=>(by cases h),λ⟨_,h,_⟩=>(by cases h)⟩
 | cons x r ih=>rw[bj,lp,ih];simp
theorem pP:i∈DL l↔∃ v∈l,i∈v.vJ:=by
 induction l with
 | nil=>exact⟨λh=>(by cases h),λ⟨_,h,_⟩=>(by cases h)⟩
 | cons x r ih=>rw[DL,lp,ih];simp
theorem Bf:i∈oJ l↔∃ v∈l,i∈v.ids:=by
 induction l with
 | nil=>exact⟨λh=>(by cases h),λ⟨_,h,_⟩=>(by cases h)⟩
 | cons x r ih=>rw[oJ,lp,ih];simp
variable {β bM:Nat->Nat}
theorem vK {cap:List (Nat×Nat)} (h:∀ i∈cap.map (·.1),bM i=β i):(cap.map λp=>Value.pointer (some ⟨bM p.1,p.2,none⟩))=cap.map λp=>Value.pointer (some ⟨β p.1,p.2,none⟩):=
 mW λp hp=>by rw[h p.1 (ey.2 ⟨p,hp,rfl⟩)]
theorem AV.Ji:∀ {v:AV},(∀ i∈v.gM,bM i=β i)->v.leaf bM=v.leaf β
 | .val _,_=>rfl
 | .box i off,h=>by simp only[AV.leaf,h i (by simp[AV.gM])]
 | .nV i off,h=>by simp only[AV.leaf,h i (by simp[AV.gM])]
 | .row i o n c,h=>by simp only[AV.leaf,h i (by simp[AV.gM])]
 | .fn g first cap,h=>by simp only[AV.leaf,vK h]
 | .agg _,_=>rfl
 | .mj _,_=>rfl
theorem kD (h:∀ i∈bj l,bM i=β i):l.map (AV.leaf bM)=l.map (AV.leaf β):=
 mW λv hv=>AV.Ji λi hi=>h i (bZ.2 ⟨v,hv,hi⟩)
theorem AV.FY:∀ {v:AV},(∀ i∈v.vJ,bM i=β i)->v.lB bM=v.lB β
 | .val _,_=>rfl
 | .box i off,h=>by simp only[AV.lB,h i (by simp[AV.vJ])]
 | .nV i off,h=>by simp only[AV.lB,h i (by simp[AV.vJ])]
 | .row i o n c,h=>by simp only[AV.lB,h i (by simp[AV.vJ])]
 | .fn g first cap,h=>by simp only[AV.lB,vK h]
 | .agg l,h=>by simp only[AV.lB,kD (l:=l) h]
 | .mj _,_=>rfl
theorem AV.zp:∀ {v:AV},(∀ i∈v.ids,bM i=β i)->v.bu bM=v.bu β
 | .val _,_=>rfl
 | .box i off,h=>by simp only[AV.bu,h i (by simp[AV.ids])]
 | .nV i off,h=>by simp only[AV.bu,h i (by simp[AV.ids])]
 | .row i o n c,h=>by simp only[AV.bu,h i (by simp[AV.ids])]
 | .fn g first cap,h=>by simp only[AV.bu,vK h]
 | .agg l,h=>by simp only[AV.bu,kD (l:=l) h]
 | .mj l,h=>by
   have:l.map (AV.lB bM)=l.map (AV.lB β):=mW λv hv=>AV.FY λi hi=>h i (pP.2 ⟨v,hv,hi⟩);simp only[AV.bu,this]
def Fr:=Nat->Option AV
def Hp:=Nat->Option (TypeId×List AV)
def Fr.put (F:Fr) (d:Nat) (v:AV):Fr:=λn=>bif Nat.beq n d then some v else F n
def Fr.bO (F:Fr):Option Nat->AV->Fr
 | none,_=>F
 | some d,v=>F.put d v
def Hp.put (H:Hp) (d:Nat) (c:TypeId×List AV):Hp:=λn=>bif Nat.beq n d then some c else H n
def Hp.upd (H:Hp):Option (Nat×(TypeId×List AV))->Hp
 | none=>H
 | some x=>H.put x.1 x.2
def Hp.gS (H:Hp):List (Nat×(TypeId×List AV))->Hp
 | []=>H
 | x::r=>(H.put x.1 x.2).gS r
def AV.tS (i:Nat) (ρ:AV->Value) (x:AV):AV:=bif x.gM.any (Nat.beq i) then .val (ρ x) else x
def AV.fg1 (i:Nat) (ρ:AV->Value):AV->AV
 | .agg l=>.agg (l.map (AV.tS i ρ))
 | x=>x.tS i ρ
def AV.fg (i:Nat) (ρ:AV->Value):AV->AV
 | .agg l=>.agg (l.map (AV.tS i ρ))
 | .mj l=>.mj (l.map (AV.fg1 i ρ))
 | x=>x.tS i ρ
def Fr.forget (F:Fr):Option Nat->(AV->Value)->Fr
 | none,_=>F
 | some i,ρ=>λn=>match F n with
   | some v=>some (v.fg i ρ)
   | none=>none
def Hp.forget (H:Hp):Option Nat->(AV->Value)->Hp
 | none,_=>H
 | some i,ρ=>λn=>bif Nat.beq n i then none else match H n with
   | some (t,cs)=>some (t,cs.map (AV.tS i ρ))
   | none=>none
structure TI where
 size:Nat
 agg:Bool
 zero:Value
 places:Array (Nat×Nat)
 MG:Array Bool
 bool:Bool
 elem:Option (TypeId×Nat)
 kind:Option IntKind
 ptr:Bool:=false
def vL:Value->Bool
 | .string _=>true
 | _=>false
structure TI.Ok (P:Program) (t:TypeId) (i:TI):Prop where
 row:∃ d,P.underlying t=some d/\d.isRow=i.agg
 size:(P.info? t).map (·.size)=some i.size
 isBool:i.bool=true->P.underlying t=some .bool
 isSlice:∀ e n,i.elem=some (e,n)->P.underlying t=some (.slice e)/\∀ w,(sizeOf e).run P w=.ok n w
 isInt:∀ k,i.kind=some k->P.underlying t=some (.int k)
 Lj:i.ptr=true->P.underlying t=some (.pointer (P.pointee t)):=by exact λh=>by cases h
 isStr:vL i.zero=true->P.underlying t=some .string:=by exact λh=>by cases h
 lone:i.agg=false->i.size=1
 Cy:i.zero.cells.size=i.size
 Ga:(P.info? t).map (·.zero)=some (some i.zero)
 bytes:(P.info? t).map (λq=>Nat.ble q.bytes (24*i.size))=some true
 pos:0<i.size
 zero:∀ w,(zeroValue t).run P w=.ok i.zero w
 Pl:∀ k p,i.places[k]? =some p->∀ b o w,(Instr.fieldAt t (.pointer (some ⟨b,o,none⟩)) k).run P w=.ok (.pointer (some ⟨b,o+p.1,none⟩)) w
 fld:∀ k p,i.places[k]? =some p->∀ cs w v,(match i.MG[k]? with|some true=>some (Value.agg (cs.extract p.1 (p.1+p.2)))|some false=>cs[p.1]? |none=>none)=some v->(Instr.field t (.agg cs) k).run P w=.ok v w
 bld:i.agg=true->∀ ps w cs,Instr.fill (i.places[·]?) i.zero.cells ps.toList=some cs->(Instr.build t ps).run P w=.ok (.agg cs) w
structure KC where
 U:TypeId
 S:Nat->Prop
 T:TypeId->Bool
def KC.fz (K:KC) (t:TypeId):Bool:=Nat.beq t K.U || K.T t
abbrev KU (U:TypeId):KC:=⟨U,λ_=>True,λ_=>false⟩
def aO:Value->Bool
 | .agg _=>false
 | .tuple _=>false
 | .int .u32 _=>false
 | _=>true
def bm:AV->Bool
 | .val v=>aO v
 | .agg _=>false
 | .mj _=>false
 | _=>true
theorem zt (h:aO v=true):v.oneCell'=true:=by
 unfold aO at h
 split at h <;> first|cases h|skip
 unfold Value.oneCell'
 split <;> simp_all
theorem qX:∀ {x:AV},bm x=true->aO (x.leaf β)=true
 | .val _,h=>h
 | .box _ _,_=>rfl
 | .nV _ _,_=>rfl
 | .row _ _ _ _,_=>rfl
 | .fn _ _ _,_=>rfl
 | .agg _,h=>by cases h
 | .mj _,h=>by cases h
theorem fx (h:l.all bm=true):(l.map (AV.leaf β)).all aO=true:=
 bP.2 λx hx=>by
  obtain⟨y,hy,rfl⟩:=ey.1 hx;exact qX (bP.1 h y hy)
structure aK (K:KC) (w w':World):Prop where
 size:w.heap.size<=w'.heap.size
 cell:∀ a x,K.S a.block->w.cell? a=some (.int .u32 x)->w'.cell? a=some (.int .u32 x)
 block:∀ (t:TypeId) (g:Nat) (cur:Array Value),K.fz t=true->K.S g->w.heap[g]? =some (Obj.cells cur t (0,0))->w'.heap[g]? =some (Obj.cells cur t (0,0))
 map:∀ (g:Nat) es c,w.heap[g]? =some (Obj.map es c)->w'.heap[g]? =some (Obj.map es c)
abbrev Kp (U:TypeId) (w w':World):Prop:=aK (KU U) w w'
theorem aK.refl (K:KC) (w:World):aK K w w:=⟨aP _,λ_ _ _ h=>h,λ_ _ _ _ _ h=>h,λ_ _ _ h=>h⟩
variable {K:KC}
theorem aK.aG {b c:World} (h:aK K a b) (k:aK K b c):aK K a c:=
 ⟨aV h.size k.size,λ_ _ s h1=>k.cell _ _ s (h.cell _ _ s h1),λ_ _ _ f s h1=>k.block _ _ _ f s (h.block _ _ _ f s h1),λ_ _ _ h1=>k.map _ _ _ (h.map _ _ _ h1)⟩
theorem aK.of (h:ax w w'):aK K w w':=
 ⟨h.size,λ_ _ _ hc=>h.cell hc,λ_ g _ _ _ hg=>(ky h g (gh.1 hg).1).trans hg,λg _ _ hg=>(ky h g (gh.1 hg).1).trans hg⟩
variable {U:TypeId}
theorem Kp.aG {b c:World} (h:Kp U a b) (k:Kp U b c):Kp U a c:=aK.aG h k
theorem Kp.of (h:ax w w'):Kp U w w':=aK.of h
theorem aK.dN (h:aK K w w'):aK ⟨K.U,K.S,λ_=>false⟩ w w':=
 ⟨h.size,h.cell,λt g cur f s hg=>h.block t g cur (by
   unfold KC.fz at f ⊢;rw[Bool.or_eq_true] at f ⊢;exact f.imp id (λe=>by cases e)) s hg,h.map⟩
def jd (H:Hp) (β:Nat->Nat) (i:Nat):Obj:=match H i with
 | some (t,cs)=>.cells (cs.map (AV.leaf β)).toArray t
 | none=>.cells #[] 0
def mkW (H:Hp) (β:Nat->Nat):Nat->World->World
 | 0,w=>w
 | n+1,w=>(mkW H β n w).alloc (jd H β n)
theorem Gb (H:Hp) (β:Nat->Nat) (w:World):∀ n,(mkW H β n w).heap.size=w.heap.size+n
 | 0=>rfl
 | n+1=>by show ((mkW H β n w).alloc _).heap.size=_;simp[Gb H β w n];omega
theorem ym (H:Hp) (β:Nat->Nat) (w:World):∀ n,ax w (mkW H β n w)
 | 0=>ax.refl w
 | n+1=>(ym H β w n).alloc _
theorem Jj (H:Hp) (β:Nat->Nat) (w:World) {i:Nat} {t:TypeId} {cs:List AV} (h:H i=some (t,cs)):∀ n,i<n->aQ (mkW H β n w) (w.heap.size+i) t (cs.map (AV.leaf β)).toArray
 | 0,hi=>ae
 | n+1,hi=>by
   by_cases e:i=n
   ·subst e;show aQ ((mkW H β i w).alloc (jd H β i)) _ _ _;have hb:jd H β i=.cells (cs.map (AV.leaf β)).toArray t:=by unfold jd;rw[h]
    rw[hb,<-Gb H β w i];exact aQ.new _ _ _
   ·exact (Jj H β w h n ae).alloc _
structure Stp (K:KC) (zu:Nat->Nat->Prop) (w w':World):Prop where
 os:w'.os=w.os
 tape:w'.tape=w.tape
 output:w'.output=w.output
 size:w.heap.size<=w'.heap.size
 jd:∀ g,g<w.heap.size->w'.heap[g]? =w.heap[g]?\/((∃ i,zu i g)/\∃ t cs,aQ w' g t (List.toArray cs)/\K.fz t=false/\cs.all aO=true)\/¬ K.S g
theorem Stp.aA {zu:Nat->Nat->Prop} (h:ax w w'):Stp K zu w w':=⟨h.os,h.tape,h.output,h.size,λg hg=>.inl (ky h g hg)⟩
variable {w0:World}
theorem Jk (h:ax w0 w) (keep:∀ b,b<w0.heap.size->K.S b) (s:Stp K (λ_ g=>w0.heap.size<=g) w w'):ax w0 w':=
 Below.trans h ⟨s.os,s.tape,s.output,s.size,λg hg=>by
  rcases s.jd g (qj hg h.size) with e|⟨⟨_,hi⟩,_⟩|e
  ·exact e
  ·exact absurd hi (Nat.not_le.2 hg)
  ·exact absurd (keep g hg) e⟩
theorem Cz {w1:World} {top:Nat} (h:ax w0 w1) (H:Hp) (hf:∀ i,top<=i->H i=none):
  ∃ β w2,aK K w1 w2/\ax w0 w2/\(∀ i t cs,H i=some (t,cs)->w0.heap.size<=β i/\aQ w2 (β i) t (cs.map (AV.leaf β)).toArray)/\∀ i j,H i≠none->H j≠none->β i=β j->i=j:=by
 let β:Nat->Nat:=λi=>w1.heap.size+i
 refine⟨β,mkW H β top w1,aK.of (ym H β w1 _),h.aG (ym H β w1 _),λi t cs hi=>⟨?_,Jj H β w1 hi _ ?_⟩,λi j _ _ e=> ?_⟩
 ·have:=h.size;show w0.heap.size<=w1.heap.size+i;omega
 ·apply Oy;intro e;rw[hf i ae] at hi;cases hi
 ·change w1.heap.size+i=w1.heap.size+j at e;omega
structure Cx where
 P:Program
 w0:World
 N:Nat
 K:KC
 SU:TypeId->Bool
 ti:TypeId->Option TI
 keep:∀ b,b<w0.heap.size->K.S b
 zu:Nat->Nat->Prop:=λ_ g=>w0.heap.size<=g
 Old:World->Prop:=λw=>ax w0 w
 top:Nat:=2*N
 Pm:2*N<=top:=by exact aP _
 Gc:∀ i g,i<2*N->w0.heap.size<=g->zu i g:=by exact λ_ _ _ h=>h
 Pn:∀ i j g,zu i g->j<2*N->zu j g:=by exact λ_ _ _ h _=>h
 pQ:∀ w,Old w->w0.heap.size<=w.heap.size:=by exact λ_ h=>ax.size h
 pR:Old w0:=by exact ax.refl _
 uD:∀ w w',Old w->(∀ b,b<w0.heap.size->K.S b)->aK K w w'->Stp K zu w w'->Old w':=by exact λ_ _ h k _ s=>Jk h k s
 DM:∀ w a u,Old w->(∀ i,¬ zu i a.block)->w0.cell? a=some u->w.cell? a=some u:=by exact λ_ _ _ h _ hc=>ax.cell h hc
 lay:∀ w1 (H:Hp),Old w1->(∀ i t cs,H i=some (t,cs)->K.fz t=false/\cs.all bm=true)->(∀ i,top<=i->H i=none)->
  ∃ β w2,aK K w1 w2/\Old w2/\(∀ i t cs,H i=some (t,cs)->zu i (β i)/\aQ w2 (β i) t (cs.map (AV.leaf β)).toArray)/\∀ i j,H i≠none->H j≠none->β i=β j->i=j:=by exact λ_ H h _ hf=>Cz h H hf
 ds:List Deferred:=[]
def Cx.pd (C:Cx):Program×List Deferred:=(C.P,C.ds)
theorem Cx.aG (C:Cx) (h:C.Old w) (k:ax w w'):C.Old w':=C.uD _ _ h C.keep (aK.of k) (Stp.aA k)
def Cx.At (C:Cx) (a:Addr) (u:Value):Prop:=∀ w,C.Old w->w.cell? a=some u
def Cx.Ok (C:Cx):Prop:=∀ t i,C.ti t=some i->TI.Ok C.P t i
def ev (F:Fr):Operand->Option AV
 | .tmp t=>F t
 | .const v=>some (.val v)
 | .func f=>some (.val (.func (.func f) #[] #[]))
 | .global _=>none
def jW (F:Fr) (x:Operand):Option Value:=match ev F x with|some (.val v)=>some v|_=>none
def evs (F:Fr):List Operand->Option (List Value)
 | []=>some []
 | x::r=>match jW F x,evs F r with|some v,some l=>some (v::l)|_,_=>none
def xr (F:Fr):List Operand->Option (List AV)
 | []=>some []
 | x::r=>match ev F x,xr F r with|some v,some l=>some (v::l)|_,_=>none
def yo:List AV->Option (List (Nat×Nat))
 | []=>some []
 | .box i off::r=>(match yo r with|some l=>some ((i,off)::l)|none=>none)
 | _::_=>none
def Lk (F:Fr) (x:Operand):Option (FuncId×List AV×List AV):=match ev F x with
 | some (.val (.func (.func g) first cap))=>some (g,first.toList.map .val,cap.toList.map .val)
 | some (.fn g first cap)=>some (g,first.map .val,cap.map λp=>.box p.1 p.2)
 | _=>none
def DN (F:Fr):List (Nat×Operand)->Option (List (Nat×AV))
 | []=>some []
 | (k,x)::r=>match ev F x,DN F r with|some v,some l=>some ((k,v)::l)|_,_=>none
def evo (F:Fr):Option Operand->Option (Option Int)
 | none=>some none
 | some x=>match jW F x with|some (.int _ k)=>some (some k)|_=>none
def binI (op:BinOp) (k:IntKind) (a b:Int):Option Value:=
 match op with
 | .eql=>some (.bool (a == b))
 | .neq=>some (.bool (a != b))
 | .lss=>some (.bool (decide (a<b)))
 | .leq=>some (.bool (decide (a<=b)))
 | .gtr=>some (.bool (decide (a>b)))
 | .geq=>some (.bool (decide (a>=b)))
 | .add=>some (.int k (k.wrap (a+b)))
 | .sub=>some (.int k (k.wrap (a-b)))
 | .mul=>some (.int k (k.wrap (a*b)))
 | .quo=>bif decide (b=0) then none else some (.int k (k.wrap (a.tdiv b)))
 | .rem=>bif decide (b=0) then none else some (.int k (a.tmod b))
 | .and=>some (.int k (bits .and k a b))
 | .or=>some (.int k (bits .or k a b))
 | .xor=>some (.int k (bits .xor k a b))
 | .andNot=>some (.int k (bits .andNot k a b))
 | _=>none
def shI (op:BinOp) (k:IntKind) (a b:Int):Option Value:=
 match op with
 | .shl=>some (.int k (k.wrap (a*2^min b.toNat k.bits)))
 | .shr=>some (.int k (a.fdiv (2^min b.toNat k.bits)))
 | _=>none
def isSh:BinOp->Bool
 | .shl=>true
 | .shr=>true
 | _=>false
def binS (op:BinOp) (a b:ByteArray):Option Value:=
 match op with
 | .eql=>some (.bool (a.toList == b.toList))
 | .neq=>some (.bool !(a.toList == b.toList))
 | .lss=>some (.bool (_root_.Go.Op.bytesLess a.toList b.toList))
 | .leq=>some (.bool (_root_.Go.Op.bytesLess a.toList b.toList || a.toList == b.toList))
 | .gtr=>some (.bool !(_root_.Go.Op.bytesLess a.toList b.toList || a.toList == b.toList))
 | .geq=>some (.bool !(_root_.Go.Op.bytesLess a.toList b.toList))
 | _=>none
def binB (op:BinOp) (a b:Bool):Option Value:=
 match op with
 | .eql=>some (.bool (a == b))
 | .neq=>some (.bool (!(a == b)))
 | _=>none
def uE (op:BinOp) (a:Bool):Option Value:=
 match op with
 | .eql=>some (.bool a)
 | .neq=>some (.bool (!a))
 | _=>none
def sameKind:IntKind->IntKind->Bool:=λk l=>decide (k=l)
def binA (op:BinOp):Value->Value->Option Value
 | .int k a,.int l b=>bif isSh op then (bif decide (b<0) then none else shI op k a b) else bif sameKind k l then binI op k a b else none
 | .string a,.string b=>binS op a b
 | _,_=>none
inductive vM where
 | fn (g:FuncId) (args:List AV)
 | op (o:Oper) (vs:List AV)
def vM.ids:vM->List Nat
 | .fn _ l=>oJ l
 | .op _ l=>oJ l
inductive Step where
 | eZ (v:AV) (u:Option (Nat×(TypeId×List AV)))
 | read (i:TI) (a:Addr)
 | fN (i:TI) (cs:List AV) (off:Nat)
 | cond (φ:Prop) (v:AV) (u:Option (Nat×(TypeId×List AV)))
 | call (d:vM)
 | bad
def Bg:Option AV->Step
 | some v=>.eZ v none
 | none=>.bad
def sW:Option Value->Step
 | some v=>.eZ (.val v) none
 | none=>.bad
def nW (i:TI) (cs:List Value):Value:=bif i.agg then .agg cs.toArray else cs.headD undef
def fE:List AV->Option (List Value)
 | []=>some []
 | .val v::r=>(match fE r with|some l=>some (v::l)|none=>none)
 | _::_=>none
def Ll {α:Type}:List AV->(List Value->α)->α->α
 | [],k,_=>k []
 | .val v::r,k,e=>Ll r (λl=>k (v::l)) e
 | _::_,_,e=>e
theorem Gd {α:Type}:∀ (l:List AV) (k:List Value->α) (e:α),Ll l k e=match fE l with|some vs=>k vs|none=>e
 | [],_,_=>rfl
 | .val v::r,k,e=>by
   show Ll r (λl=>k (v::l)) e=match (match fE r with|some l=>some (v::l)|none=>none) with|some vs=>k vs|none=>e
   rw[Gd r];cases fE r <;> rfl
 | .box _ _::_,_,_=>rfl
 | .nV _ _::_,_,_=>rfl
 | .row _ _ _ _::_,_,_=>rfl
 | .fn _ _ _::_,_,_=>rfl
 | .agg _::_,_,_=>rfl
 | .mj _::_,_,_=>rfl
def xt (l:List AV):AV:=match fE l with|some vs=>.val (.agg vs.toArray)|none=>.agg l
def MH {α:Type} (l:List AV) (k:AV->α):α:=Ll l (λvs=>k (.val (.agg vs.toArray))) (k (.agg l))
theorem nx {α:Type} (l:List AV) (k:AV->α):MH l k=k (xt l):=by
 unfold MH xt;rw[Gd];cases fE l <;> rfl
def oK (i:TI) (cs:List AV):AV:=bif i.agg then xt cs else cs.headD (.val undef)
def jw {α:Type} {γ:Type}:List γ->(List γ->α)->α
 | [],k=>k []
 | x::r,k=>jw r λl=>k (x::l)
theorem de {α γ:Type}:∀ (l:List γ) (k:List γ->α),jw l k=k l
 | [],_=>rfl
 | x::r,k=>de r λl=>k (x::l)
def MI {γ:Type}:List γ->Nat->Option γ
 | [],_=>none
 | x::_,0=>some x
 | _::r,k+1=>MI r k
theorem yp {γ:Type}:∀ (l:List γ) (k:Nat),MI l k=l[k]?
 | [],_=>rfl
 | _::_,0=>rfl
 | _::r,k+1=>by rw[MI,yp r k];rfl
def gT:AV->Bool
 | .mj _=>false
 | _=>true
def mn:AV->Bool
 | .agg _=>false
 | .mj _=>false
 | _=>true
def cellsOf:AV->List AV
 | .val v=>v.cells.toList.map .val
 | .agg l=>l
 | x=>[x]
def qY (i:TI) (cs:List AV) (off:Nat):Step:=
 bif Nat.ble (off+i.size) cs.length then jw ((cs.drop off).take i.size) (λl=>bif i.agg then MH l (λv=>.eZ v none) else (match l with|x::_=>.eZ x none|[]=>.bad)) else .bad
def pS (i:TI) (b:Nat) (t:TypeId) (cs:List AV) (off:Nat) (v:AV):Step:=
 bif Nat.ble (off+i.size) cs.length && Nat.beq (cellsOf v).length i.size && (cellsOf v).all bm
 then jw (cs.take off++(cellsOf v++cs.drop (off+i.size))) (λl=>.eZ (.val undef) (some (b,(t,l)))) else .bad
def CA (i:TI) (b:Nat) (t:TypeId) (cs:List AV) (off:Nat) (v:AV):Step:=
 bif Nat.beq (cellsOf v).length i.size && (cellsOf v).all bm
 then .cond (off+i.size<=cs.length) (.val undef) (some (b,(t,cs.take off++(cellsOf v++cs.drop (off+i.size))))) else .bad
def qZ (K:KC) (d:Nat) (t:TypeId) (cs:List AV):Option (TypeId×List AV)->Step
 | none=>bif !K.fz t && cs.all bm then jw cs (λl=>.eZ (.box d 0) (some (d,(t,l)))) else .bad
 | some _=>.bad
def Ge (sz:Nat):Nat->List (Nat×AV)->Option (List AV)
 | _,[]=>some []
 | k,(j,v)::r=>bif Nat.beq j k && Nat.beq (cellsOf v).length sz && gT v then (match Ge sz (k+1) r with|some l=>some (cellsOf v++l)|none=>none) else none
def xu (K:KC) (d:Nat) (e:TypeId) (n:Nat) (cs:List AV):Option (TypeId×List AV)->Step
 | none=>bif !K.fz e && cs.all bm then jw cs (λl=>.eZ (.row d 0 n n) (some (d,(e,l)))) else .bad
 | some _=>.bad
def CB (places:Array (Nat×Nat)) (cells:List AV):List (Nat×AV)->Option (List AV)
 | []=>some cells
 | (i,v)::rest=>match places[i]? with
   | none=>none
   | some p=>bif Nat.beq (cellsOf v).length p.2 && Nat.ble (p.1+p.2) cells.length && gT v then CB places (cells.take p.1++(cellsOf v++cells.drop (p.1+p.2))) rest else none
def kV:Nat->List AV->List AV
 | 0,_=>[]
 | n+1,z=>z++kV n z
def re (F:Fr) (o:Oper):Step:=match xr F o.op.operands.toList with|some vs=>.call (.op o vs)|none=>.bad
def zv:List Value->Option (IntKind×List Int)
 | []=>none
 | [.int k a]=>some (k,[a])
 | .int k a::r=>(match zv r with|some (l,xs)=>bif sameKind k l then some (k,a::xs) else none|none=>none)
 | _=>none
def qA:Int->List Int->Int
 | x,[]=>x
 | x,y::r=>qA (if y>x then y else x) r
def Po:Int->List Int->Int
 | x,[]=>x
 | x,y::r=>Po (if y<x then y else x) r
def nX (i:TI) (cs:List AV) (k:Nat):Step:=match i.places[k]?,i.MG[k]? with
 | some p,some true=>jw ((cs.drop p.1).take p.2) (λl=>MH l (λv=>.eZ v none))
 | some p,some false=>(match MI cs p.1 with|some x=>bif mn x then .eZ x none else .bad|none=>.bad)
 | _,_=>.bad
def act (C:Cx) (F:Fr) (H:Hp) (o:Oper):Step:=
 match o.op with
 | .move x=>Bg (ev F x)
 | .assign x=>Bg (ev F x)
 | .pick c x y=>match jW F c with|some (.bool t)=>Bg (bif t then ev F x else ev F y)|_=>.bad
 | .unOp .not _ x=>match jW F x with|some (.bool t)=>.eZ (.val (.bool !t)) none|_=>.bad
 | .unOp .neg _ x=>match jW F x with|some (.int k n)=>.eZ (.val (.int k (k.wrap (0-n)))) none|_=>.bad
 | .binOp op t x y _=>match jW F x,jW F y with
   | some (.bool a),some (.bool b)=>(match C.ti t with|some i=>sW (bif i.bool then binB op a b else none)|none=>.bad)
   | some (.pointer p),some (.pointer none)=>(match C.ti t with|some i=>sW (bif i.ptr then uE op p.isNone else none)|none=>.bad)
   | some (.slice p _ _),some (.slice none n c)=>(match C.ti t with|some i=>sW (bif i.elem.isSome && (Nat.beq n 0 && Nat.beq c 0) then uE op p.isNone else none)|none=>.bad)
   | some a,some b=>sW (binA op a b)
   | none,some (.pointer none)=>(match ev F x,C.ti t with
     | some (.box _ _),some i=>sW (bif i.ptr then uE op false else none)
     | some (.nV _ _),some i=>sW (bif i.ptr then uE op false else none)
     | _,_=>.bad)
   | none,some (.slice none n c)=>(match ev F x,C.ti t with
     | some (.row _ _ _ _),some i=>sW (bif i.elem.isSome && (Nat.beq n 0 && Nat.beq c 0) then uE op false else none)
     | _,_=>.bad)
   | _,_=>.bad
 | .convert s t x=>match C.ti s,C.ti t,jW F x with
   | some _,some i,some (.int _ n)=>(match i.kind with|some k=>.eZ (.val (.int k (k.wrap n))) none|none=>.bad)
   | _,_,_=>.bad
 | .extract x k=>match ev F x with
   | some (.val (.tuple vs))=>sW (MI vs.toList k)
   | some (.mj l)=>(match MI l k with|some x=>bif gT x then .eZ x none else .bad|none=>.bad)
   | _=>.bad
 | .field t x k=>match ev F x,C.ti t with
   | some (.val (.agg cs)),some i=>nX i (cs.toList.map .val) k
   | some (.agg l),some i=>nX i l k
   | _,_=>.bad
 | .fieldAddr t x k=>match ev F x,C.ti t with
   | some (.box b off),some i=>match i.places[k]? with|some p=>.eZ (.box b (off+p.1)) none|none=>.bad
   | some (.nV b off),some i=>match i.places[k]? with|some p=>.eZ (.nV b (off+p.1)) none|none=>.bad
   | some (.val (.pointer (some ⟨b,off,none⟩))),some i=>match i.places[k]? with|some p=>.eZ (.val (.pointer (some ⟨b,off+p.1,none⟩))) none|none=>.bad
   | _,_=>.bad
 | .nilCheck x=>match ev F x with
   | some (.box b off)=>.eZ (.box b off) none
   | some (.nV b off)=>.eZ (.nV b off) none
   | some (.val (.pointer (some a)))=>.eZ (.val (.pointer (some a))) none
   | _=>.bad
 | .build t ps=>match C.ti t,DN F ps.toList with
   | some i,some l=>match (bif i.agg then CB i.places (i.zero.cells.toList.map .val) l else none) with|some cs=>jw cs (λl=>MH l (λv=>.eZ v none))|none=>.bad
   | _,_=>.bad
 | .alloc t=>match o.dst,C.ti t with
   | some d,some i=>qZ C.K d t (i.zero.cells.toList.map .val) (H d)
   | _,_=>.bad
 | .box t x=>match o.dst,ev F x with
   | some d,some v=>qZ C.K d t (cellsOf v) (H d)
   | _,_=>.bad
 | .load t x=>match ev F x,C.ti t with
   | some (.box b off),some i=>match H b with|some (_,cs)=>qY i cs off|none=>.bad
   | some (.nV b off),some i=>match H b with|some (_,cs)=>.fN i cs off|none=>.bad
   | some (.val (.pointer (some a))),some i=>.read i a
   | _,_=>.bad
 | .store t x y=>match ev F x,ev F y,C.ti t with
   | some (.box b off),some v,some i=>match H b with|some (tb,cs)=>pS i b tb cs off v|none=>.bad
   | some (.nV b off),some v,some i=>match H b with|some (tb,cs)=>CA i b tb cs off v|none=>.bad
   | _,_,_=>.bad
 | .makeFunc (.func g) first cap=>match evs F first.toList,xr F cap.toList with
   | some l,some []=>.eZ (.val (.func (.func g) l.toArray #[])) none
   | some l,some m=>(match yo m with|some bs=>.eZ (.fn g l bs) none|none=>.bad)
   | _,_=>.bad
 | .buildSlice t n ps=>bif C.SU t then re F o else match o.dst,C.ti t,DN F ps.toList with
   | some d,some i,some l=>(match i.elem with
     | some (e,sz)=>(match C.ti e,Ge sz 0 l with
       | some _,some cs=>bif Nat.beq ps.size n && Nat.ble (n*sz) 16777216 then xu C.K d e n cs (H d) else .bad
       | _,_=>.bad)
     | none=>.bad)
   | _,_,_=>.bad
 | .indexAddr t x ix=>match ev F x,jW F ix,C.ti t with
   | some (.val (.slice (some ⟨b,off,none⟩) n _)),some (.int _ k),some i=>(match i.elem with
     | some (_,sz)=>.cond ((0:Int)<=k/\k<(n:Int)) (.val (.pointer (some ⟨b,off+k.toNat*sz,none⟩))) none
     | none=>.bad)
   | some (.row b off n _),some (.int _ k),some i=>(match i.elem with
     | some (_,sz)=>.cond ((0:Int)<=k/\k<(n:Int)) (.nV b (off+k.toNat*sz)) none
     | none=>.bad)
   | _,_,_=>.bad
 | .makeSlice t l c=>match o.dst,C.ti t,jW F l,jW F c with
   | some d,some i,some (.int _ n),some (.int _ m)=>(match i.elem with
     | some (e,sz)=>(match C.ti e,H d with
       | some ie,none=>bif !C.K.fz e && ie.zero.cells.toList.all aO then
        .cond (n=m/\0<=n/\n*(24*(ie.size:Int))<=140737488355328) (.row d 0 n.toNat n.toNat) (some (d,(e,kV n.toNat (ie.zero.cells.toList.map .val)))) else .bad
       | _,_=>.bad)
     | none=>.bad)
   | _,_,_,_=>.bad
 | .slice t x lo hi none=>match ev F x,C.ti t,evo F lo,evo F hi with
   | some (.row b off n c),some i,some l,some h=>(match i.elem with
     | some (_,sz)=>.cond (0<=l.getD 0/\l.getD 0<=h.getD (n:Int)/\h.getD (n:Int)<=(c:Int)/\(c:Int)<=9223372036854775807) (.row b (if c=(l.getD 0).toNat then off else off+(l.getD 0).toNat*sz) ((h.getD (n:Int)).toNat-(l.getD 0).toNat) (c-(l.getD 0).toNat)) none
     | none=>.bad)
   | some (.val (.slice p n c)),some i,some l,some h=>(match i.elem with
     | some (_,sz)=>.cond (0<=l.getD 0/\l.getD 0<=h.getD (n:Int)/\h.getD (n:Int)<=(c:Int)/\(c:Int)<=9223372036854775807) (.val (.slice (if c=(l.getD 0).toNat then p else p.map (·.add ((l.getD 0).toNat*sz))) ((h.getD (n:Int)).toNat-(l.getD 0).toNat) (c-(l.getD 0).toNat))) none
     | none=>.bad)
   | _,_,_,_=>.bad
 | .call c=>match c.callee with
   | .builtin .len=>match c.args.toList,c.argTypes.toList with
     | [x],[t]=>(match ev F x,C.ti t with
       | some (.val (.slice _ n _)),some i=>(match i.elem with|some _=>.eZ (.val (.int .i64 (n:Int))) none|none=>.bad)
       | some (.row _ _ n _),some i=>(match i.elem with|some _=>.eZ (.val (.int .i64 (n:Int))) none|none=>.bad)
       | some (.val (.string s)),some i=>bif vL i.zero then .eZ (.val (.int .i64 (s.size:Int))) none else .bad
       | _,_=>.bad)
     | _,_=>.bad
   | .builtin .max=>match (evs F c.args.toList).bind zv with
     | some (k,x::r)=>.eZ (.val (.int k (qA x r))) none
     | _=>.bad
   | .builtin .min=>match (evs F c.args.toList).bind zv with
     | some (k,x::r)=>.eZ (.val (.int k (Po x r))) none
     | _=>.bad
   | .value f=>match Lk F f,xr F c.args.toList with
     | some (g,first,cap),some l=>jw (first++(l++cap)) (λl=>.call (.fn g l))
     | _,_=>.bad
   | _=>re F o
 | _=>re F o
def wants (full:Array Oper) (F:Fr) (o:Oper):Option Bool:=
 match o.guard with
 | none=>some true
 | some (g,b)=>match (full[g]?).bind (·.dst) with
   | none=>none
   | some d=>match F d with
     | some (.val (.bool c))=>some (c == b)
     | some (.val (.tuple _))=>some false
     | _=>none
def lC (N:Nat):Option Nat->Bool
 | none=>true
 | some d=>Nat.blt d N
def stepOf (C:Cx) (full:Array Oper) (F:Fr) (H:Hp) (o:Oper):Step:=
 bif lC C.N o.dst then (match wants full F o with
  | none=>.bad
  | some false=>.eZ (.val undef) none
  | some true=>act C F H o) else .bad
def Pp (l:List FuncId) (c:Call):Bool:=match c.callee with | .value (.func g)=>l.any (Nat.beq g)|_=>false
def Jl (l:List FuncId) (c:Call):Bool:=match c.callee with | .value (.func g)=>l.any (Nat.beq (g+1000000))|_=>false
def aI (su:TypeId->Bool) (l:List FuncId) (o:Oper):Nat:=match o.op with
 | .move _=>0
 | .assign _=>0
 | .pick _ _ _=>0
 | .unOp .not _ _=>0
 | .unOp .neg _ _=>0
 | .binOp _ _ _ _ _=>0
 | .convert _ _ _=>0
 | .extract _ _=>0
 | .field _ _ _=>0
 | .fieldAddr _ _ _=>0
 | .nilCheck _=>0
 | .build _ _=>0
 | .makeFunc (.func _) _ _=>0
 | .indexAddr _ _ _=>0
 | .slice _ _ _ _ none=>0
 | .load _ _=>1
 | .alloc _=>2
 | .box _ _=>2
 | .makeSlice _ _ _=>2
 | .buildSlice t _ _=>bif su t then 4 else 2
 | .store _ _ _=>3
 | .call c=>(match c.callee with
   | .builtin .len=>0
   | .builtin .max=>0
   | .builtin .min=>0
   | .builtin .copy=>3
   | .value _=>bif Jl l c then 5 else bif Pp l c then 3 else 4
   | _=>5)
 | .lookup _ _ _ _=>4
 | _=>5
def Gf:Nat->Nat
 | 3=>1
 | 5=>2
 | _=>0
def lvl (su:TypeId->Bool) (m:Option (List FuncId)) (o:Oper):Nat:=match m with
 | none=>2
 | some l=>Gf (aI su l o)
def xQ (P:Program) (g:FuncId):Prop:=∃ fn,P.funcs[g]? =some fn/\(fn.name == "runtime.NumGoroutine")=false/\fn.body.isNone=false
structure oL (C:Cx) (β:Nat->Nat) (w:World) (i:Nat) (t:TypeId) (cs:List AV):Prop where
 new:C.zu i (β i)
 ty:C.K.fz t=false
 cls:aQ w (β i) t (cs.map (AV.leaf β)).toArray
 ok:cs.all bm=true
inductive Reach (H:Hp) (ids:List Nat):Nat->Prop
 | base {i:Nat}:i∈ids->Reach H ids i
 | step {i j:Nat} {t:TypeId} {cs:List AV}:Reach H ids i->H i=some (t,cs)->j∈bj cs->Reach H ids j
structure qx (C:Cx) (β:Nat->Nat) (H:Hp) (ids:List Nat) (w:World):Prop where
 own:∀ i,Reach H ids i->∀ t cs,H i=some (t,cs)->oL C β w i t cs
 apart:∀ i j,Reach H ids i->Reach H ids j->H i≠none->H j≠none->β i=β j->i=j
structure DR (C:Cx) (β bM:Nat->Nat) (H:Hp) (ids:List Nat) (del:Option Nat) (ups:List (Nat×(TypeId×List AV))) (w w':World):Prop where
 os:w'.os=w.os
 tape:w'.tape=w.tape
 output:w'.output=w.output
 size:w.heap.size<=w'.heap.size
 block:∀ b,b<w.heap.size->(∀ x∈ups,b≠bM x.1)->(∀ i,del=some i->b≠β i)->(C.K.S b\/∀ t cur,C.K.fz t=true->w.heap[b]?≠some (Obj.cells cur t (0,0)))->w'.heap[b]? =w.heap[b]?
 agree:∀ i,i∉ups.map (·.1)->bM i=β i
 gone:∀ i,del=some i->Reach H ids i/\H i≠none
 left:∀ i,del=some i->(w'.heap[β i]? =w.heap[β i]?\/∃ t cs,aQ w' (β i) t (List.toArray cs)/\C.K.fz t=false/\cs.all aO=true)\/∃ x∈ups,bM x.1=β i
 own:∀ x∈ups,oL C bM w' x.1 x.2.1 x.2.2
 orig:∀ x∈ups,(H x.1≠none/\del≠some x.1/\Reach H ids x.1/\bM x.1=β x.1)\/((H x.1=none\/del=some x.1)/\x.1<2*C.N/\(w.heap.size<=bM x.1\/∃ i,del=some i/\bM x.1=β i))
 once:(ups.map (·.1)).Nodup
 apart:∀ x∈ups,∀ y∈ups,bM x.1=bM y.1->x.1=y.1
 closed:∀ x∈ups,∀ j∈bj x.2.2,j∈ups.map (·.1)\/(H j≠none/\del≠some j)
def zw (P:Program) (d:vM) (β:Nat->Nat) (w:World) (R:Ending->World->Prop):Prop:=match d with
 | .fn g args=>xQ P g/\Calls P g (args.map (AV.bu β)).toArray w R
 | .op o vs=>∃ v w2,(∀ ρ:Operand->Value,o.op.operands.toList.map ρ=vs.map (AV.bu β)->(execOp ρ o).run P w=.ok (.value v) w2\/((execOp ρ o).run P w=.ok .skip w2/\v=undef))/\R (.returned v) w2
def df (C:Cx) (lv:Nat) (F:Fr) (H:Hp) (d:vM) (w:World) (k:AV->Fr->Hp->World->Prop):Prop:=
 ∀ w1 β,aK C.K w w1->C.Old w1->qx C β H d.ids w1->zw C.P d β w1 λe w2=>∃ bM r del ups,e=.returned (r.bu bM)/\(∀ i∈r.ids,i∈ups.map (·.1)\/(Reach H d.ids i/\H i≠none/\del≠some i))/\(1<=lv\/ups=[])/\(2<=lv\/del=none)/\
   DR C β bM H d.ids del ups w1 w2/\(aK C.K w w2->aK C.K w1 w2->C.Old w2->∀ ρ,(∀ x,aO (ρ x)=true)->k r (F.forget del ρ) ((H.forget del ρ).gS ups) w2)
def ReadVC (C:Cx) (seq:Bool) (i:TI) (a:Addr) (w:World) (k:Value->Prop):Prop:=
 ∃ cs:List Value,cs.length=i.size/\((∀ j u,cs[j]? =some u->C.At (a.add j) u)\/(seq=true/\∀ w1,aK C.K w w1->C.Old w1->∀ j u,cs[j]? =some u->w1.cell? (a.add j)=some u))/\k (nW i cs)
def seqOf:Option (List FuncId)->Bool
 | none=>true
 | some _=>false
def one (C:Cx) (m:Option (List FuncId)) (full:Array Oper) (o:Oper) (k:Fr->Hp->World->Prop) (F:Fr) (H:Hp) (w:World):Prop:=
 match stepOf C full F H o with
 | .eZ v u=>k (F.bO o.dst v) (H.upd u) w
 | .read i a=>ReadVC C (seqOf m) i a w λv=>k (F.bO o.dst (.val v)) H w
 | .fN i cs off=>∃ vs:List AV,vs.length=i.size/\(∀ j u,vs[j]? =some u->cs[off+j]? =some u)/\k (F.bO o.dst (oK i vs)) H w
 | .cond φ v u=>φ/\k (F.bO o.dst v) (H.upd u) w
 | .call d=>df C (lvl C.SU m o) F H d w λr F' H' w2=>k (F'.bO o.dst r) H' w2
 | .bad=>False
def aE (C:Cx) (m:Option (List FuncId)) (full:Array Oper):List Oper->(Fr->Hp->World->Prop)->Fr->Hp->World->Prop
 | [],K,F,H,w=>K F H w
 | o::r,K,F,H,w=>one C m full o (aE C m full r K) F H w
def jx (F:Fr) (H:Hp):Prop:=∀ d v,F d=some v->∀ i∈v.ids,H i≠none
structure Gg (C:Cx) (H:Hp):Prop where
 ok:∀ i t cs,H i=some (t,cs)->C.K.fz t=false/\cs.all bm=true
 closed:∀ i t cs,H i=some (t,cs)->∀ j∈bj cs,H j≠none
 few:∀ i,C.top<=i->H i=none
structure Rel (C:Cx) (β:Nat->Nat) (F:Fr) (H:Hp) (a:Act) (w:World):Prop where
 defers:a.defers=C.ds
 size:a.tmps.size=C.N
 tmp:∀ d v,F d=some v->a.tmps.getD d undef=v.bu β
 own:∀ i t cs,H i=some (t,cs)->oL C β w i t cs
 apart:∀ i j,H i≠none->H j≠none->β i=β j->i=j
 closed:jx F H
 fits:∀ d v,F d=some v->d<C.N
 hp:Gg C H
 old:C.Old w
theorem Fr.du (F:Fr) (d n:Nat) (v:AV):(F.put d v) n=if n=d then some v else F n:=by
 unfold Fr.put;by_cases h:n=d
 ·subst h;simp
 ·have:Nat.beq n d=false:=by rw[<-Fl,Nat.beq_eq];exact h
  simp[this,h]
theorem Hp.du (H:Hp) (d n:Nat) (c:TypeId×List AV):(H.put d c) n=if n=d then some c else H n:=by
 unfold Hp.put;by_cases h:n=d
 ·subst h;simp
 ·have:Nat.beq n d=false:=by rw[<-Fl,Nat.beq_eq];exact h
  simp[this,h]
theorem gU:∀ {l:List AV} {vs:List Value},fE l=some vs->l=vs.map .val
 | [],vs,h=>by cases h;rfl
 | .val v::r,vs,h=>by
   unfold fE at h
   split at h
   ·rename_i l hl;cases h;rw[gU hl];rfl
   ·cases h
 | .box _ _::_,_,h=>by cases h
 | .nV _ _::_,_,h=>by cases h
 | .row _ _ _ _::_,_,h=>by cases h
 | .fn _ _ _::_,_,h=>by cases h
 | .agg _::_,_,h=>by cases h
 | .mj _::_,_,h=>by cases h
theorem az (β:Nat->Nat) (vs:List Value):(vs.map AV.val).map (AV.leaf β)=vs:=by rw[oz];exact List.map_id vs
theorem iu (β:Nat->Nat) (vs:List Value):(vs.map AV.val).map (AV.bu β)=vs:=by rw[oz];exact List.map_id vs
theorem ah (vs:List Value):bj (vs.map AV.val)=[]:=by
 induction vs with
 | nil=>rfl
 | cons v r ih=>rw[mf,bj,ih];rfl
theorem sX (β:Nat->Nat) (l:List AV):(xt l).bu β=.agg (l.map (AV.leaf β)).toArray:=by
 unfold xt;cases h:fE l with
 | none=>rfl
 | some vs=>
   have:=gU h;subst this;rw[az];rfl
theorem vN (h:i∈(xt l).ids):i∈bj l:=by
 unfold xt at h;cases hv:fE l with
 | none=>rw[hv] at h;exact h
 | some vs=>rw[hv] at h;cases h
theorem jy (β:Nat->Nat):∀ (v:AV),(∀ l,v≠.mj l)->(cellsOf v).map (AV.leaf β)=(v.bu β).cells.toList
 | .val v,_=>by unfold cellsOf;rw[az];rfl
 | .box _ _,_=>rfl
 | .nV _ _,_=>rfl
 | .row _ _ _ _,_=>rfl
 | .fn _ _ _,_=>rfl
 | .agg l,_=>by simp[cellsOf,AV.bu,Value.cells]
 | .mj l,h=>absurd rfl (h l)
theorem oM {v:AV} (h:gT v=true):∀ l,v≠.mj l:=λl e=>by subst e;cases h
theorem Lm {v:AV} (h:(cellsOf v).all bm=true):∀ l,v≠.mj l:=λl e=>by subst e;simp[cellsOf,bm] at h
theorem kE {v:AV} (h:∀ l,v≠.mj l) (hi:i∈bj (cellsOf v)):i∈v.ids:=by
 cases v with
 | val v=>rw[cellsOf,ah] at hi;cases hi
 | mj l=>exact absurd aa (h l)
 | agg l=>exact hi
 | box i off=>simpa [cellsOf,bj,AV.gM,AV.ids] using hi
 | nV i off=>simpa [cellsOf,bj,AV.gM,AV.ids] using hi
 | row i o n c=>simpa [cellsOf,bj,AV.gM,AV.ids] using hi
 | fn g f c=>simpa [cellsOf,bj,AV.gM,AV.ids] using hi
theorem iT (l r:List AV):bj (l++r)=bj l++bj r:=by
 induction l with
 | nil=>rfl
 | cons v l ih=>rw[Fk,bj,bj,ih,gQ]
theorem MJ:∀ {v:AV},bm v=true->v.leaf β=v.bu β
 | .val _,_=>rfl
 | .box _ _,_=>rfl
 | .nV _ _,_=>rfl
 | .row _ _ _ _,_=>rfl
 | .fn _ _ _,_=>rfl
 | .agg _,h=>by cases h
 | .mj _,h=>by cases h
theorem rf:∀ {v:AV},mn v=true->v.leaf β=v.bu β
 | .val _,_=>rfl
 | .box _ _,_=>rfl
 | .nV _ _,_=>rfl
 | .row _ _ _ _,_=>rfl
 | .fn _ _ _,_=>rfl
 | .agg _,h=>by cases h
 | .mj _,h=>by cases h
theorem sY {v:AV} (h:mn v=true):v.gM=v.ids:=by cases v <;> first|rfl|cases h
theorem rh {v:AV} (h:gT v=true):v.lB β=v.bu β:=by cases v <;> first|rfl|cases h
theorem sZ {v:AV} (h:gT v=true):v.vJ=v.ids:=by cases v <;> first|rfl|cases h
theorem Pq {v:AV} (h:bm v=true):v.gM=v.ids:=by
 cases v <;> first|rfl|cases h
section
variable {C:Cx} {β:Nat->Nat} {F:Fr} {H:Hp} {a:Act} {w:World}
variable {v:AV} {x:Operand}
theorem Rel.ev (hr:Rel C β F H a w) (h:Proofs.YtlifeokjcgngjaaGreat.ev F x=some v):a.eval x=v.bu β:=by
 cases x with
 | tmp t=>exact hr.tmp t v h
 | const c=>cases h;rfl
 | func f=>cases h;rfl
 | global g=>cases h
theorem evv_ev {v:Value} (h:Proofs.YtlifeokjcgngjaaGreat.jW F x=some v):Proofs.YtlifeokjcgngjaaGreat.ev F x=some (.val v):=by
 unfold Proofs.YtlifeokjcgngjaaGreat.jW at h
 split at h
 ·rename_i u hu;cases h;exact hu
 ·cases h
theorem Rel.jW (hr:Rel C β F H a w) {v:Value} (h:Proofs.YtlifeokjcgngjaaGreat.jW F x=some v):a.eval x=v:=hr.ev (evv_ev h)
theorem Rel.evs (hr:Rel C β F H a w):∀ {l:List Operand} {vs:List Value},Proofs.YtlifeokjcgngjaaGreat.evs F l=some vs->l.map a.eval=vs
 | [],vs,h=>by cases h;rfl
 | x::r,vs,h=>by
   unfold Proofs.YtlifeokjcgngjaaGreat.evs at h
   split at h
   ·rename_i v l hv hl;cases h;rw[mf,hr.jW hv,hr.evs hl]
   ·cases h
theorem Rel.xr (hr:Rel C β F H a w):∀ {l:List Operand} {vs:List AV},Proofs.YtlifeokjcgngjaaGreat.xr F l=some vs->l.map a.eval=vs.map (AV.bu β)
 | [],vs,h=>by cases h;rfl
 | x::r,vs,h=>by
   unfold Proofs.YtlifeokjcgngjaaGreat.xr at h
   split at h
   ·rename_i v l hv hl;cases h;rw[mf,hr.ev hv,hr.xr hl];rfl
   ·cases h
theorem Rel.DN (hr:Rel C β F H a w):∀ {l:List (Nat×Operand)} {vs:List (Nat×AV)},Proofs.YtlifeokjcgngjaaGreat.DN F l=some vs->l.map (λp=>(p.1,a.eval p.2))=vs.map (λp=>(p.1,p.2.bu β))
 | [],vs,h=>by cases h;rfl
 | (k,x)::r,vs,h=>by
   unfold Proofs.YtlifeokjcgngjaaGreat.DN at h
   split at h
   ·rename_i v l hv hl;cases h;rw[mf,hr.DN hl];simp[hr.ev hv]
   ·cases h
theorem jx.ev (hc:jx F H) (h:Proofs.YtlifeokjcgngjaaGreat.ev F x=some v):∀ i∈v.ids,H i≠none:=by
 cases x with
 | tmp t=>exact hc t v h
 | const c=>cases h;intro i hi;cases hi
 | func f=>cases h;intro i hi;cases hi
 | global g=>cases h
theorem jx.xr (hc:jx F H):∀ {l:List Operand} {vs:List AV},Proofs.YtlifeokjcgngjaaGreat.xr F l=some vs->∀ v∈vs,∀ i∈v.ids,H i≠none
 | [],vs,h=>by cases h;intro v hv;cases hv
 | x::r,vs,h=>by
   unfold Proofs.YtlifeokjcgngjaaGreat.xr at h
   split at h
   ·rename_i v l hv hl;cases h;intro u hu;rcases dG.1 hu with rfl|hu
    ·exact hc.ev hv
    ·exact hc.xr hl u hu
   ·cases h
theorem jx.DN (hc:jx F H):∀ {l:List (Nat×Operand)} {vs:List (Nat×AV)},Proofs.YtlifeokjcgngjaaGreat.DN F l=some vs->∀ v∈vs,∀ i∈v.2.ids,H i≠none
 | [],vs,h=>by cases h;intro v hv;cases hv
 | (k,x)::r,vs,h=>by
   unfold Proofs.YtlifeokjcgngjaaGreat.DN at h
   split at h
   ·rename_i v l hv hl;cases h;intro u hu;rcases dG.1 hu with rfl|hu
    ·exact hc.ev hv
    ·exact hc.DN hl u hu
   ·cases h
theorem Rel.eS (hr:Rel C β F H a w) (h:Proofs.YtlifeokjcgngjaaGreat.ev F x=some v):∀ i∈v.ids,H i≠none:=hr.closed.ev h
theorem Rel.put (hr:Rel C β F H a w) {dst:Option Nat} (hd:lC C.N dst=true) (hc:∀ i∈v.ids,H i≠none):Rel C β (F.bO dst v) H (a.put dst (v.bu β)) w:=by
 cases dst with
 | none=>exact hr
 | some d=>
   have hlt:d<C.N:=by simpa [lC,Nat.blt_eq] using hd
   refine⟨hr.defers,by simp[Act.put,hr.size],λn u hn=> ?_,hr.own,hr.apart,λn u hn=> ?_,λn u hn=> ?_,hr.hp,hr.old⟩
   ·change (F.put d v) n=some u at hn;rw[Fr.du] at hn;show (a.tmps.setIfInBounds d (v.bu β)).getD n undef=_;by_cases h:n=d
    ·subst h;rw[if_pos rfl] at hn;cases hn;simp[Array.getD_eq_getD_getElem?,Array.getElem?_setIfInBounds,hr.size,hlt]
    ·rw[if_neg h] at hn;have:=hr.tmp n u hn;rw[fy] at this ⊢;rw[xc,if_neg (λe=>h e.symm)];exact this
   ·change (F.put d v) n=some u at hn;rw[Fr.du] at hn;by_cases h:n=d
    ·rw[if_pos h] at hn;cases hn;exact hc
    ·rw[if_neg h] at hn;exact hr.closed n u hn
   ·change (F.put d v) n=some u at hn;rw[Fr.du] at hn;by_cases h:n=d
    ·rw[h];exact hlt
    ·rw[if_neg h] at hn;exact hr.fits n u hn
variable {P:Program} {i:TI} {t:TypeId}
theorem iW (hi:TI.Ok P t i) (a:Addr) (cs:List Value) (hl:cs.length=i.size) (w:World) (hc:∀ j u,cs[j]? =some u->w.cell? (a.add j)=some u):
  (loadVar t a).run P w=.ok (nW i cs) w:=by
 obtain⟨d,hu,hd⟩:=hi.row;have hz:=hi.size;cases hq:P.info? t with
 | none=>rw[hq] at hz;simp at hz
 | some ti=>
   rw[hq] at hz;simp at hz;unfold loadVar nW;cases hg:i.agg
   ·have h1:=hi.lone hg;rw[hg] at hd;obtain⟨u,rfl⟩:∃ u,cs=[u]:=List.length_eq_one_iff.1 ae;have:=hc 0 u aa;have ha:a.add 0=a:=by unfold Addr.add;split <;> simp_all
    rw[ha] at this;cases d <;> simp_all [isAgg,run_underlying hu,TypeDesc.isRow]
   ·rw[hg] at hd;have hld:=run_loadCells_list (P:=P) w a cs hc;rw[hl,<-hz] at hld;cases d <;> simp_all [isAgg,run_underlying hu,TypeDesc.isRow,sizeOf,typeInfo]
variable {cs:List AV}
theorem ta (hi:TI.Ok P t i) (hl:cs.length=i.size) (hk:cs.all bm=true):(oK i cs).bu β=nW i (cs.map (AV.leaf β)):=by
 unfold oK nW;cases hg:i.agg with
 | true=>exact sX β cs
 | false=>
   have h1:=hi.lone hg;obtain⟨u,rfl⟩:∃ u,cs=[u]:=List.length_eq_one_iff.1 ae;simp at hk;simp[MJ hk]
theorem vO {j:Nat} (hk:cs.all bm=true) (h:j∈(oK i cs).ids):j∈bj cs:=by
 unfold oK at h;cases hg:i.agg with
 | true=>rw[hg] at h;exact vN h
 | false=>
   rw[hg] at h;cases cs with
   | nil=>cases h
   | cons x r=>
     simp only[cond_false,List.headD_cons] at h;simp at hk;rw[bj,Pq hk.1];exact yJ _ h
end
def Gh:List Value->Nat->List Value->List Value
 | l,_,[]=>l
 | l,o,v::r=>Gh (l.set o v) (o+1) r
theorem rT:∀ (vs l:List Value) (o:Nat),o+vs.length<=l.length->Gh l o vs=l.take o++(vs++l.drop (o+vs.length))
 | [],l,o,_=>by simp[Gh]
 | v::r,l,o,h=>by
   simp only[List.length_cons] at h;have h1:o<l.length:=ae;rw[Gh,rT r (l.set o v) (o+1) (by rw[dV];omega),List.take_succ_eq_append_getElem (by rw[dV];omega),List.getElem_set_self,List.take_set_of_le (aP _),List.drop_set_of_lt ae];simp[Nat.add_assoc,Nat.add_comm 1]
theorem vP:∀ (l:List Value) (k off:Nat) (A:Array Value),(l.zipIdx k).foldl (λ(cs:Array Value) (x:Value×Nat)=>cs.setIfInBounds (off+x.2) x.1) A=(Gh A.toList (off+k) l).toArray
 | [],_,_,A=>by simp[Gh]
 | v::r,k,off,A=>by
   rw[List.zipIdx_cons,yM,vP r (k+1) off,Gh];simp[Nat.add_assoc]
theorem zx {β:Nat->Nat} {v:AV} (h:gT v=true):(v.bu β).cells.size=(cellsOf v).length:=by
 rw[<-yK,<-jy β v (oM h),aM]
theorem cG {n m:Nat} (h:Nat.ble n m=true):n<=m:=Nat.le_of_ble_eq_true h
theorem Gi {β:Nat->Nat} {places:Array (Nat×Nat)}:∀ (l:List (Nat×AV)) (cells:List AV) {cs:List AV},CB places cells l=some cs->
  Instr.fill (places[·]?) (cells.map (AV.leaf β)).toArray (l.map λp=>(p.1,p.2.bu β))=some (cs.map (AV.leaf β)).toArray
 | [],cells,cs,h=>by cases h;rfl
 | (i,v)::rest,cells,cs,h=>by
   unfold CB at h;rw[mf];unfold Instr.fill;cases hp:places[i]? with
   | none=>rw[hp] at h;cases h
   | some p=>
     rw[hp] at h;simp only at h ⊢;cases hb:Nat.beq (cellsOf v).length p.2 && Nat.ble (p.1+p.2) cells.length && gT v with
     | false=>rw[hb] at h;cases h
     | true=>
       rw[hb] at h;simp only[Bool.and_eq_true] at hb;have h1:=lW hb.1.1;have h2:=cG hb.1.2;have h3:=zx (β:=β) hb.2;have h4:=jy β v (oM hb.2);rw[if_neg (by simp[h3,h1];omega)];have:=Gi (β:=β) rest _ h;rw[<-this]
       congr 1
       have e:=vP (v.bu β).cells.toList 0 p.1 (cells.map (AV.leaf β)).toArray;rw[rT _ _ _ (by simp[h3,h1];omega)] at e;simp only[Nat.add_zero,Array.length_toList,h3,h1] at e
       rw[show (cells.take p.1++(cellsOf v++cells.drop (p.1+p.2))).map (AV.leaf β)=(cells.map (AV.leaf β)).take p.1++((v.bu β).cells.toList++(cells.map (AV.leaf β)).drop (p.1+p.2)) by
        rw[aF,aF,h4,List.map_take,List.map_drop]]
       rw[<-e];rw[<-Array.foldl_toList]
       congr 1
       simp
theorem Gj {K:KC} {b o:Nat} {t:TypeId} {w:World} {cs:List Value} {v:Value} (hc:aQ w b t cs.toArray) (ht:K.fz t=false) (hk:cs.all aO=true):
  aK K w (w.setCell ⟨b,o,none⟩ v)/\aQ (w.setCell ⟨b,o,none⟩ v) b t (cs.set o v).toArray:=by
 refine⟨⟨cf,λa x _ hx=> ?_,λt' g cur hf _ hg=> ?_,λg es c hg=> ?_⟩,?_⟩
 ·by_cases hb:a.block=b
  ·exfalso
   have:cs.toArray[a.off]? =some (.int .u32 x):=by
    simp only[World.cell?,hb,show w.heap[b]? =_ from hc] at hx;simp at hx;simpa using hx.2
   have hm:=dc (show cs[a.off]? =some (.int .u32 x) by simpa using this);have:=bP.1 hk _ hm;cases this
  ·rw[BP (w:=w) (qL w ⟨b,o,none⟩ v a.block hb)];exact hx
 ·rw[qL _ _ _ g (λe=>by
   have e':g=b:=e;subst e';have:=(show w.heap[_]? =_ from hc).symm.trans hg;simp at this;rw[<-this.2,ht] at hf;cases hf)]
  exact hg
 ·rw[qL _ _ _ g (λe=>by
   have e':g=b:=e;subst e';have:=(show w.heap[_]? =_ from hc).symm.trans hg;simp at this)]
  exact hg
 ·have:=hc.set (j:=o) v;simpa using this
theorem pV {K:KC} {b:Nat} {t:TypeId}:∀ (vs:List Value) (o:Nat) (w:World) (cs:List Value),aQ w b t cs.toArray->K.fz t=false->cs.all aO=true->vs.all aO=true->
  aK K w (w.setCells b o vs)/\aQ (w.setCells b o vs) b t (Gh cs o vs).toArray/\(∀ g t' ew,g≠b->aQ w g t' ew->aQ (w.setCells b o vs) g t' ew)/\∀ w0,ax w0 w->w0.heap.size<=b->ax w0 (w.setCells b o vs)
 | [],o,w,cs,hc,_,_,_=>⟨aK.refl _ _,hc,λ_ _ _ _ h=>h,λ_ h _=>h⟩
 | v::r,o,w,cs,hc,ht,hk,hv=>by
   rw[List.all_cons,gF] at hv;obtain⟨h1,h2⟩:=Gj (o:=o) (v:=v) hc ht hk
   have ML:(cs.set o v).all aO=true:=bP.2 λx hx=>by
    rcases mU hx with h|rfl
    ·exact bP.1 hk _ h
    ·exact hv.1
   obtain⟨k1,k2,k3,k4⟩:=pV r (o+1) _ _ h2 ht ML hv.2;exact⟨h1.aG k1,k2,λg t' ew hg h=>k3 g t' ew hg (h.other hg v),λw0 h hb=>k4 w0 (h.setCell (p:=⟨b,o,none⟩) hb v) hb⟩
section
variable {C:Cx} {β:Nat->Nat} {F:Fr} {H:Hp} {a:Act} {w:World}
variable {cs:List AV} {d:Nat} {t:TypeId}
theorem Gg.put (mO:Gg C H) (hd:d<C.top) (ht:C.K.fz t=false) (hk:cs.all bm=true) (cZ:∀ j∈bj cs,H j≠none):Gg C (H.put d (t,cs)):=by
 have Gk:∀ j,H j≠none->(H.put d (t,cs)) j≠none:=λj hj=>by
  rw[Hp.du];split
  ·simp
  ·exact hj
 refine⟨λi t' ew h=> ?_,λi t' ew h j hj=> ?_,λi hi=> ?_⟩
 ·rw[Hp.du] at h;by_cases e:i=d
  ·rw[if_pos e] at h;cases h;exact⟨ht,hk⟩
  ·rw[if_neg e] at h;exact mO.ok i t' ew h
 ·rw[Hp.du] at h;by_cases e:i=d
  ·rw[if_pos e] at h;cases h;exact Gk j (cZ j hj)
  ·rw[if_neg e] at h;exact Gk j (mO.closed i t' ew h j hj)
 ·rw[Hp.du,if_neg ae];exact mO.few i hi
variable {c:TypeId×List AV}
theorem Gl {j:Nat} (hj:H j≠none):(H.put d c) j≠none:=by
 rw[Hp.du];split
 ·simp
 ·exact hj
theorem Rel.make (hr:Rel C β F H a w) (hd:d<C.N) (h0:H d=none) (ht:C.K.fz t=false) (hk:cs.all bm=true) (cZ:∀ j∈bj cs,H j≠none):
  ∃ bM,bM d=w.heap.size/\Rel C bM F (H.put d (t,cs)) a (w.alloc (.cells (cs.map (AV.leaf β)).toArray t)):=by
 let bM:Nat->Nat:=λn=>if n=d then w.heap.size else β n
 have hb:∀ i,i≠d->bM i=β i:=λi hi=>if_neg hi;have DT:bM d=w.heap.size:=if_pos aa;have hco:∀ n v,F n=some v->v.bu bM=v.bu β:=λn v hn=>AV.zp λi hi=>hb i λe=>hr.closed n v hn i hi (e▸h0);have hle:∀ l:List AV,(∀ j∈bj l,H j≠none)->l.map (AV.leaf bM)=l.map (AV.leaf β):=λl hl=>kD λi hi=>hb i λe=>hl i hi (e▸h0)
 have Bc:Rel C bM F (H.put d (t,cs)) a (w.alloc (.cells (cs.map (AV.leaf β)).toArray t)):=by
  refine⟨hr.defers,hr.size,λn v hn=>(hr.tmp n v hn).trans (hco n v hn).symm,λi t' ew hi=> ?_,λi j hi hj he=> ?_,λn v hn i hi=> ?_,hr.fits,hr.hp.put (by have:=C.Pm;omega) ht hk cZ,C.aG hr.old ((ax.refl w).alloc _)⟩
  ·rw[Hp.du] at hi;by_cases h:i=d
   ·rw[if_pos h] at hi;cases hi;subst h;exact⟨by rw[DT];exact C.Gc _ _ ae (C.pQ _ hr.old),ht,by rw[DT,hle _ cZ];exact aQ.new _ _ _,hk⟩
   ·rw[if_neg h] at hi;obtain⟨h1,h2,h3,h4⟩:=hr.own i t' ew hi;exact⟨by rw[hb i h];exact h1,h2,by rw[hb i h,hle _ (hr.hp.closed i t' ew hi)];exact h3.alloc _,h4⟩
  ·rw[Hp.du] at hi hj
   have lt:∀ i,H i≠none->β i<w.heap.size:=λi hi=>by
    cases hh:H i with
    | none=>exact absurd hh hi
    | some x=>exact (hr.own i x.1 x.2 hh).cls.lt
   by_cases h1:i=d <;> by_cases h2:j=d
   ·rw[h1,h2]
   ·rw[if_neg h2] at hj;rw[h1,DT,hb j h2] at he;have:=lt j hj;omega
   ·rw[if_neg h1] at hi;rw[h2,DT,hb i h1] at he;have:=lt i hi;omega
   ·rw[if_neg h1] at hi;rw[if_neg h2] at hj;rw[hb i h1,hb j h2] at he;exact hr.apart i j hi hj he
  ·exact Gl (hr.closed n v hn i hi)
 exact⟨bM,DT,Bc⟩
theorem mo {b:Nat}:∀ (vs:List Value) (o:Nat) (w:World) (k:Nat),k≠b->(w.setCells b o vs).heap[k]? =w.heap[k]?
 | [],_,_,_,_=>rfl
 | v::r,o,w,k,hk=>(mo r (o+1) (w.setCell ⟨b,o,none⟩ v) k hk).trans (qL w ⟨b,o,none⟩ v k hk)
theorem nY {b:Nat}:∀ (vs:List Value) (o:Nat) (w:World),(w.setCells b o vs).os=w.os/\(w.setCells b o vs).tape=w.tape/\(w.setCells b o vs).output=w.output/\w.heap.size<=(w.setCells b o vs).heap.size
 | [],_,w=>⟨rfl,rfl,rfl,aP _⟩
 | v::r,o,w=>by
   obtain⟨h1,h2,h3,h4⟩:=nY (b:=b) r (o+1) (w.setCell ⟨b,o,none⟩ v);exact⟨h1,h2,h3,aV (by simp[World.setCell]) h4⟩
variable {K:KC}
theorem DU {zu:Nat->Nat->Prop} {b o:Nat} {w:World} {vs:List Value} {cs:List Value} (hn:∃ i,zu i b) (ht:K.fz t=false) (hc:aQ (w.setCells b o vs) b t cs.toArray) (hk:cs.all aO=true):Stp K zu w (w.setCells b o vs):=by
 obtain⟨h1,h2,h3,h4⟩:=nY (b:=b) vs o w;refine⟨h1,h2,h3,h4,λg _=> ?_⟩;by_cases e:g=b
 ·subst e;exact .inr (.inl ⟨hn,t,cs,hc,ht,hk⟩)
 ·exact .inl (mo vs o w g e)
variable {vs:List AV} {off:Nat}
theorem Rel.stored (hr:Rel C β F H a w) {b:Nat} (h:H b=some (t,cs)) (hl:off+vs.length<=cs.length) (hv:vs.all bm=true) (cZ:∀ j∈bj vs,H j≠none):
  aK C.K w (w.setCells (β b) off (vs.map (AV.leaf β)))/\Rel C β F (H.put b (t,cs.take off++(vs++cs.drop (off+vs.length)))) a (w.setCells (β b) off (vs.map (AV.leaf β))):=by
 obtain⟨h2,h3,h1,h4⟩:=hr.own b t cs h;obtain⟨k1,k2,k3,k4⟩:=pV (K:=C.K) (vs.map (AV.leaf β)) off w (cs.map (AV.leaf β)) h1 h3 (fx h4) (fx hv)
 have cJ:b<C.top:=by
  apply Oy;intro e;rw[hr.hp.few b ae] at h;cases h
 have hcs:=hr.hp.closed b t cs h
 have vI:(cs.take off++(vs++cs.drop (off+vs.length))).all bm=true:=by
  simp only[List.all_append,Bool.and_eq_true];exact⟨bP.2 λx hx=>bP.1 h4 x (lX hx),hv,bP.2 λx hx=>bP.1 h4 x (qI hx)⟩
 have hcl':∀ j∈bj (cs.take off++(vs++cs.drop (off+vs.length))),H j≠none:=λj hj=>by
  obtain⟨v,hv',hj'⟩:=bZ.1 hj;simp only[List.mem_append] at hv';rcases hv' with e|e|e
  ·exact hcs j (bZ.2 ⟨v,lX e,hj'⟩)
  ·exact cZ j (bZ.2 ⟨v,e,hj'⟩)
  ·exact hcs j (bZ.2 ⟨v,qI e,hj'⟩)
 refine⟨k1,hr.defers,hr.size,hr.tmp,λi t' ew hi=> ?_,λi j hi hj he=> ?_,λn v hn i hi=>Gl (hr.closed n v hn i hi),hr.fits,hr.hp.put cJ h3 vI hcl',C.uD _ _ hr.old C.keep k1 (DU ⟨b,h2⟩ h3 k2 (by rw[rT _ _ off (by simp only[List.length_map];omega)];simp only[List.all_append,Bool.and_eq_true];exact⟨bP.2 λx hx=>bP.1 (fx h4) x (lX hx),fx hv,bP.2 λx hx=>bP.1 (fx h4) x (qI hx)⟩))⟩
 ·rw[Hp.du] at hi;by_cases hib:i=b
  ·rw[if_pos hib] at hi;cases hi;subst hib;rw[rT _ _ off (by simp only[List.length_map];omega)] at k2;refine⟨h2,h3,?_,vI⟩;rw[aF,aF,List.map_take,List.map_drop];simpa using k2
  ·rw[if_neg hib] at hi;obtain⟨g2,g3,g1,g4⟩:=hr.own i t' ew hi;exact⟨g2,g3,k3 _ _ _ (λe=>hib (hr.apart i b (by rw[hi];simp) (by rw[h];simp) e)) g1,g4⟩
 ·rw[Hp.du] at hi hj;refine hr.apart i j ?_ ?_ he
  ·by_cases hib:i=b
   ·rw[hib,h];simp
   ·rw[if_neg hib] at hi;exact hi
  ·by_cases hjb:j=b
   ·rw[hjb,h];simp
   ·rw[if_neg hjb] at hj;exact hj
theorem aK.alloc (w:World) (o:Obj):aK K w (w.alloc o):=aK.of ((ax.refl w).alloc o)
def fi (C:Cx) (F:Fr) (H:Hp) (o:Oper) (a:Act) (w:World) (v:AV) (u:Option (Nat×(TypeId×List AV))):Prop:=
 ∃ bM w',aK C.K w w'/\Rel C bM (F.bO o.dst v) (H.upd u) (a.put o.dst (v.bu bM)) w'/\
   ((execOp a.eval o).run C.P w=.ok (.value (v.bu bM)) w'\/((execOp a.eval o).run C.P w=.ok .skip w'/\v.bu bM=undef))
variable {v:AV}
theorem fi.pure (hr:Rel C β F H a w) {o:Oper} (hd:lC C.N o.dst=true) (hc:∀ i∈v.ids,H i≠none) (h:(execOp a.eval o).run C.P w=.ok (.value (v.bu β)) w):fi C F H o a w v none:=
 ⟨β,w,aK.refl _ _,hr.put hd hc,.inl h⟩
theorem fi.val (hr:Rel C β F H a w) {o:Oper} (hd:lC C.N o.dst=true) {v:Value} (h:(execOp a.eval o).run C.P w=.ok (.value v) w):fi C F H o a w (.val v) none:=
 fi.pure hr hd (λ_ hi=>by cases hi) h
theorem yr (e:v.ids=[d]):∀ i∈v.ids,(H.put d c) i≠none:=by
 rw[e];intro i hi;rw[ak.1 hi,Hp.du,if_pos rfl];simp
variable {u:Option (Nat×(TypeId×List AV))}
theorem oN {x:Option AV} (h:Bg x=.eZ v u):x=some v/\u=none:=by
 cases x with
 | none=>cases h
 | some y=>cases h;exact⟨aa,aa⟩
theorem gV {x:Option Value} (h:sW x=.eZ v u):∃ y,x=some y/\v=.val y/\u=none:=by
 cases x with
 | none=>cases h
 | some y=>cases h;exact⟨y,aa,aa,aa⟩
variable {h:Option (TypeId×List AV)}
theorem rU (e:qZ K d t cs h=.eZ v u):
  h=none/\K.fz t=false/\cs.all bm=true/\v=.box d 0/\u=some (d,(t,cs)):=by
 cases h with
 | some x=>cases e
 | none=>
   unfold qZ at e;cases hb: !K.fz t && cs.all bm with
   | false=>rw[hb] at e;cases e
   | true=>
     rw[hb] at e;change jw cs _=_ at e;rw[de] at e;cases e;rw[gF] at hb;exact⟨aa,by simpa using hb.1,hb.2,rfl,rfl⟩
variable {i:TI}
theorem CC (e:qY i cs off=.eZ v u):
  off+i.size<=cs.length/\v=oK i ((cs.drop off).take i.size)/\u=none:=by
 unfold qY at e;cases hb:Nat.ble (off+i.size) cs.length with
 | false=>rw[hb] at e;cases e
 | true=>
   rw[hb] at e;change jw _ _=_ at e;rw[de] at e;refine⟨cG hb,?_⟩;unfold oK;cases hg:i.agg with
   | true=>
     rw[hg,cond_true,nx] at e;cases e;exact⟨aa,aa⟩
   | false=>
     rw[hg] at e;simp only[cond_false] at e ⊢
     split at e
     ·rename_i x r hx;cases e;rw[hx];exact⟨aa,aa⟩
     ·cases e
theorem zy {b:Nat} {x:AV} (e:pS i b t cs off x=.eZ v u):
  off+i.size<=cs.length/\(cellsOf x).length=i.size/\(cellsOf x).all bm=true/\v=.val undef/\u=some (b,(t,cs.take off++(cellsOf x++cs.drop (off+i.size)))):=by
 unfold pS at e;cases hb:Nat.ble (off+i.size) cs.length && Nat.beq (cellsOf x).length i.size && (cellsOf x).all bm with
 | false=>rw[hb] at e;cases e
 | true=>
   rw[hb] at e;change jw _ _=_ at e;rw[de] at e;cases e;simp only[Bool.and_eq_true] at hb;exact⟨cG hb.1.1,lW hb.1.2,hb.2,aa,aa⟩
theorem MM {b:Nat} {x:AV} {φ:Prop} (e:CA i b t cs off x=.cond φ v u):
  φ=(off+i.size<=cs.length)/\(cellsOf x).length=i.size/\(cellsOf x).all bm=true/\v=.val undef/\u=some (b,(t,cs.take off++(cellsOf x++cs.drop (off+i.size)))):=by
 unfold CA at e;cases hb:Nat.beq (cellsOf x).length i.size && (cellsOf x).all bm with
 | false=>rw[hb] at e;cases e
 | true=>
   rw[hb] at e;cases e;rw[gF] at hb;exact⟨aa,lW hb.1,hb.2,aa,aa⟩
variable {e:TypeId}
theorem CD {n:Nat} (q:xu K d e n cs h=.eZ v u):
  h=none/\K.fz e=false/\cs.all bm=true/\v=.row d 0 n n/\u=some (d,(e,cs)):=by
 cases h with
 | some x=>cases q
 | none=>
   unfold xu at q;cases hb: !K.fz e && cs.all bm with
   | false=>rw[hb] at q;cases q
   | true=>
     rw[hb] at q;change jw cs _=_ at q;rw[de] at q;cases q;rw[gF] at hb;exact⟨aa,by simpa using hb.1,hb.2,rfl,rfl⟩
theorem zz:∀ {m:List AV} {bs:List (Nat×Nat)},yo m=some bs->m=bs.map λp=>AV.box p.1 p.2
 | [],bs,h=>by cases h;rfl
 | .box i off::r,bs,h=>by
   unfold yo at h
   split at h
   ·rename_i l hl;cases h;rw[zz hl];rfl
   ·cases h
 | .val _::_,_,h=>by cases h
 | .nV _ _::_,_,h=>by cases h
 | .row _ _ _ _::_,_,h=>by cases h
 | .fn _ _ _::_,_,h=>by cases h
 | .agg _::_,_,h=>by cases h
 | .mj _::_,_,h=>by cases h
theorem Gm {sz:Nat}:∀ (l:List (Nat×AV)) (k:Nat) {cs:List AV},Ge sz k l=some cs->∀ j∈bj cs,∃ p∈l,j∈p.2.ids
 | [],k,cs,h,j,hj=>by cases h;cases hj
 | (q,v)::r,k,cs,h,j,hj=>by
   unfold Ge at h;cases hb:Nat.beq q k && Nat.beq (cellsOf v).length sz && gT v with
   | false=>rw[hb] at h;cases h
   | true=>
     rw[hb,cond_true] at h;simp only[Bool.and_eq_true] at hb
     split at h
     ·rename_i l hl;cases h;rw[iT] at hj;rcases lp.1 hj with e|e
      ·exact⟨(q,v),cf,kE (oM hb.2) e⟩
      ·obtain⟨p,hp,hpj⟩:=Gm r (k+1) hl j e;exact⟨p,by simp[hp],hpj⟩
     ·cases h
theorem CF {places:Array (Nat×Nat)}:∀ (l:List (Nat×AV)) (cells:List AV) {cs:List AV},CB places cells l=some cs->∀ j∈bj cs,j∈bj cells\/∃ p∈l,j∈p.2.ids
 | [],cells,cs,h,j,hj=>by cases h;exact .inl hj
 | (i,v)::rest,cells,cs,h,j,hj=>by
   unfold CB at h
   split at h
   ·cases h
   ·rename_i p hp;cases hb:Nat.beq (cellsOf v).length p.2 && Nat.ble (p.1+p.2) cells.length && gT v with
    | false=>rw[hb] at h;cases h
    | true=>
      rw[hb] at h;simp only[Bool.and_eq_true] at hb;rcases CF rest _ h j hj with e|⟨q,hq,e⟩
      ·obtain⟨x,hx,hj'⟩:=bZ.1 e;simp only[List.mem_append] at hx;rcases hx with g|g|g
       ·exact .inl (bZ.2 ⟨x,lX g,hj'⟩)
       ·exact .inr ⟨(i,v),cf,kE (oM hb.2) (bZ.2 ⟨x,g,hj'⟩)⟩
       ·exact .inl (bZ.2 ⟨x,qI g,hj'⟩)
      ·exact .inr ⟨q,by simp[hq],e⟩
theorem vQ {sz:Nat}:∀ (l:List (Nat×AV)) (k:Nat) (pre rest:List Value) {cs:List AV},Ge sz k l=some cs->pre.length=k*sz->rest.length=l.length*sz->
  Instr.fill (λi=>some (i*sz,sz)) (pre++rest).toArray (l.map λp=>(p.1,p.2.bu β))=some (pre++cs.map (AV.leaf β)).toArray
 | [],k,pre,rest,cs,h,h1,h2=>by
   cases h;have:rest=[]:=mR (by simpa using h2);subst this;rfl
 | (j,v)::r,k,pre,rest,cs,h,h1,h2=>by
   unfold Ge at h;cases hb:Nat.beq j k && Nat.beq (cellsOf v).length sz && gT v with
   | false=>rw[hb] at h;cases h
   | true=>
     rw[hb,cond_true] at h;simp only[Bool.and_eq_true] at hb;have e1:=lW hb.1.1;have e2:(v.bu β).cells.size=sz:=(zx hb.2).trans (lW hb.1.2);have e7:=jy β v (oM hb.2);subst e1
     split at h
     ·rename_i l hl;cases h;rw[tX,jO] at h2;rw[mf];unfold Instr.fill;simp only;rw[if_neg (by simp[e2];omega)];have e:=vP (v.bu β).cells.toList 0 (j*sz) (pre++rest).toArray;rw[rT _ _ _ (by simp[e2];omega)] at e
      have e3:(v.bu β).cells.zipIdx.foldl (λcs (x:Value×Nat)=>cs.setIfInBounds (j*sz+x.2) x.1) (pre++rest).toArray=((pre++(v.bu β).cells.toList)++rest.drop sz).toArray:=by
       rw[<-Array.foldl_toList];have e4:(v.bu β).cells.zipIdx.toList=(v.bu β).cells.toList.zipIdx 0:=cf;rw[e4,e];apply ot.1;have l1:(v.bu β).cells.toList.length=sz:=by simpa using e2
       simp only[Nat.add_zero,l1];rw[<-h1,Ov (aP _),BX,List.drop_append,mV ae];simp
      have:=vQ r (j+1) (pre++(v.bu β).cells.toList) (rest.drop sz) hl (by rw[bg,h1,jO];simp[e2]) (by rw[jN];omega);rw[gQ] at this;rw[gQ] at e3;rw[show (λ(cs:Array Value) (x:Value×Nat)=>match x with|(c,j_1)=>cs.setIfInBounds (j*sz+j_1) c)=(λ(cs:Array Value) (x:Value×Nat)=>cs.setIfInBounds (j*sz+x.2) x.1) from aa,e3,this];simp[e7]
     ·cases h
variable {x y:Operand} {P:Program} {r:Value}
theorem Ps {op:BinOp} {u v:Value} (h:binA op u v=some r) (w:World):
  (do eqGuard op t x y u v;binOp op t u v:Sem Value).run P w=.ok r w:=by
 unfold binA at h
 split at h
 ·rename_i k m l n;cases hsh:isSh op with
  | true=>
    rw[hsh] at h;cases hb:decide (n<0) with
    | true=>rw[hb] at h;cases h
    | false=>
      rw[hb] at h;have hn:¬ n<0:=of_decide_eq_false hb
      cases op <;> first
       | (cases hsh;done)
       | (simp only[shI,cond_true,cond_false,Option.some.injEq] at h
          subst h;simp[eqGuard,binOp,Op.shift,hn])
  | false=>
  rw[hsh] at h;cases hk:sameKind k l with
  | false=>rw[hk] at h;cases h
  | true=>
    rw[hk] at h;have ET:k=l:=mY hk;subst ET;unfold binI at h
    cases op <;> simp only[cond_true,cond_false] at h <;> first
     | (cases h;simp[eqGuard,binOp,Op.intCmp,Op.intArith];done)
     | (cases h;done)
     | (cases h;simp[eqGuard,binOp,Op.intBits,bits];done)
     | (cases hn:decide (n=0) with
        | true=>rw[hn] at h;cases h
        | false=>
          rw[hn] at h;cases h;have hn:n≠0:=of_decide_eq_false hn;simp[eqGuard,binOp,Op.intArith,Op.intDiv,hn])
 ·unfold binS at h
  cases op <;> simp only[Option.some.injEq] at h <;> first
   | (cases h;done)
   | (subst h;simp[eqGuard,binOp,Op.stringOp];done)
 ·cases h
variable {ρ:Operand->Value} {p:Option Addr} {t':TypeId}
theorem td {o:Oper} {op:BinOp} (hop:o.op=.binOp op t x y t') (h1:ρ x=.pointer p) (h2:ρ y=.pointer none) (hu:P.underlying t=some (.pointer (P.pointee t))) (h:uE op p.isNone=some r) (w:World):
  (execOp ρ o).run P w=.ok (.value r) w:=by
 unfold uE at h
 cases op <;> simp only[Option.some.injEq] at h <;> first
  | (cases h;done)
  | (subst h;simp[execOp,hop,h1,h2,eqGuard,binOp,run_equal_pointer_nil w t p hu];done)
theorem CG {o:Oper} {op:BinOp} {l c:Nat} (hop:o.op=.binOp op t x y t') (h1:ρ x=.slice p l c) (h2:ρ y=.slice none 0 0) (hu:P.underlying t=some (.slice e)) (h:uE op p.isNone=some r) (w:World):
  (execOp ρ o).run P w=.ok (.value r) w:=by
 unfold uE at h
 cases op <;> simp only[Option.some.injEq] at h <;> first
  | (cases h;done)
  | (subst h;simp[execOp,hop,h1,h2,eqGuard,binOp,run_equal_slice_nil w t e p l c hu];done)
theorem Gn (f:Int->Int->Int) (m2:Value->Value->Sem Value) (hm:∀ k a b (w:World),(m2 (.int k a) (.int k b)).run P w=.ok (.int k (f a b)) w):∀ (l:List Value) (v:Value) {k:IntKind} {xs:List Int},zv (v::l)=some (k,xs)->
  ∃ x r,xs=x::r/\v=.int k x/\∀ (y:Int) (w:World),(l.foldlM m2 (.int k y)).run P w=.ok (.int k (r.foldl f y)) w:=by
 intro l
 induction l with
 | nil=>
   intro v k xs h;cases v <;> first|(cases h;done)|skip
   cases h;exact⟨_,[],aa,aa,λy w=>aa⟩
 | cons u s ih=>
   intro v k xs h;cases v <;> first|(cases h;done)|skip
   rename_i k' a;have h':(match zv (u::s) with|some (l,xs)=>bif sameKind k' l then some (k',a::xs) else none|none=>none)=some (k,xs):=h
   split at h'
   ·rename_i l ys hl;cases hk:sameKind k' l with
    | false=>rw[hk] at h';cases h'
    | true=>
      rw[hk] at h';have ET:k'=l:=mY hk;subst ET;cases h';obtain⟨x,r,rfl,rfl,hr⟩:=ih u hl;refine⟨a,x::r,aa,aa,λy w=> ?_⟩;rw[List.foldlM_cons,Sem.run_bind,hm,Result.andThen_ok,hr];rfl
   ·cases h'
theorem gm {F:Fr} {o:Oper} (h:re F o=.eZ v u):False:=by
 unfold re at h;split at h <;> cases h
theorem mr {k:Nat} (h:nX i cs k=.eZ v u):
  u=none/\∃ p,i.places[k]? =some p/\((i.MG[k]? =some true/\v=xt ((cs.drop p.1).take p.2))\/(i.MG[k]? =some false/\cs[p.1]? =some v/\mn v=true)):=by
 unfold nX at h
 split at h
 ·rename_i p hp hg;rw[de,nx] at h;cases h;exact⟨aa,p,hp,.inl ⟨hg,aa⟩⟩
 ·rename_i p hp hg
  split at h
  ·rename_i x hx;cases hn:mn x with
   | false=>rw[hn] at h;cases h
   | true=>
     rw[hn] at h;cases h;rw[yp] at hx;exact⟨aa,p,hp,.inr ⟨hg,hx,hn⟩⟩
  ·cases h
 ·cases h
theorem CH (hC:C.Ok) (hi:C.ti t=some i) {k:Nat} (h:nX i cs k=.eZ v u) (w:World):
  (Instr.field t (.agg (cs.map (AV.leaf β)).toArray) k).run C.P w=.ok (v.bu β) w:=by
 obtain⟨_,p,hp,⟨hg,rfl⟩|⟨hg,hv,hn⟩⟩:=mr h
 ·refine (hC t i hi).fld k p hp _ w _ ?_;rw[hg,sX];simp only
  congr 2
  apply ot.1;simp[Array.toList_extract,List.extract_eq_take_drop,List.map_take,List.map_drop]
 ·refine (hC t i hi).fld k p hp _ w _ ?_;rw[hg,<-rf hn];simp[hv]
theorem uF {k:Nat} (h:nX i cs k=.eZ v u):∀ j∈v.ids,j∈bj cs:=by
 intro j hj;obtain⟨_,p,hp,⟨hg,rfl⟩|⟨hg,hv,hn⟩⟩:=mr h
 ·obtain⟨x,hx,hj'⟩:=bZ.1 (vN hj);exact bZ.2 ⟨x,qI (lX hx),hj'⟩
 ·exact bZ.2 ⟨v,dc hv,by rw[sY hn];exact hj⟩
theorem uG (hC:C.Ok) (hr:Rel C β F H a w) (hi:C.ti t=some i) {b:Nat} {tb:TypeId} (hb:H b=some (tb,cs)) {y:AV} (h1:off+i.size<=cs.length) (h2:(cellsOf y).length=i.size) (h3:(cellsOf y).all bm=true):
  (Instr.storeAt t (.pointer (some ⟨β b,off,none⟩)) (y.bu β)).run C.P w=.ok () (w.setCells (β b) off ((cellsOf y).map (AV.leaf β))):=by
 obtain⟨_,_,g1,_⟩:=hr.own b tb cs hb;have ht:=Lm h3;have cZ:=jy β y ht;have hz:=(hC t i hi).size;cases hq:C.P.info? t with
 | none=>rw[hq] at hz;simp at hz
 | some ti=>
   rw[hq] at hz;simp at hz
   have:=run_storeCells_cells (P:=C.P) (β b) off ((cellsOf y).map (AV.leaf β)) 0 w (λj hj=>by
     rw[aM] at hj;obtain⟨z,hz⟩:∃ z,(cs.map (AV.leaf β))[off+j]? =some z:=⟨_,aH (by rw[aM];omega)⟩;rw[lz,g1.cell (u:=z) (by simpa using hz)];rfl)
    (λj _=>g1.frozen _) (λz hz=>by
     obtain⟨q,hq,rfl⟩:=ey.1 hz;exact zt (qX (bP.1 h3 q hq)))
   have e6:(y.bu β).cells.size=i.size:=by rw[<-yK,<-cZ,aM,h2]
   rw[lz] at this;simp only[Instr.storeAt,Instr.sureAddr,storeVar,sizeOf,typeInfo,Sem.run_bind,Sem.run_pure,Result.andThen_ok];simp[hq,hz,e6,<-cZ,this]
theorem vR (hr:Rel C β F H a w) {b:Nat} {tb:TypeId} (hb:H b=some (tb,cs)) (hv:∀ j u,vs[j]? =some u->cs[off+j]? =some u):∀ j u,(vs.map (AV.leaf β))[j]? =some u->w.cell? ((⟨β b,off,none⟩:Addr).add j)=some u:=by
 intro j u hj;obtain⟨_,_,g1,_⟩:=hr.own b tb cs hb;rw[Addr.add_mid];rw[jq] at hj;cases hvj:vs[j]? with
 | none=>rw[hvj] at hj;cases hj
 | some x=>
   rw[hvj] at hj;cases hj;refine g1.cell ?_;simp[hv j x hvj]
theorem Ln (hC:C.Ok) {o:Oper} (h:act C F H o=.eZ v u) (hd:lC C.N o.dst=true) (hr:Rel C β F H a w):fi C F H o a w v u:=by
 unfold act at h;cases hop:o.op <;> rw[hop] at h <;> simp only at h <;> try (first|cases h;done|exact (gm h).elim)
 case move x=>
  obtain⟨h1,rfl⟩:=oN h;exact fi.pure hr hd (hr.eS h1) (by simp[execOp,hop,hr.ev h1])
 case assign x=>
  obtain⟨h1,rfl⟩:=oN h;exact fi.pure hr hd (hr.eS h1) (by simp[execOp,hop,hr.ev h1])
 case pick c x y=>
  split at h
  ·rename_i t ht;obtain⟨h1,rfl⟩:=oN h;have hc:=hr.jW ht;cases t
   ·exact fi.pure hr hd (hr.eS h1) (by simp[execOp,hop,hc,asBool,hr.ev h1])
   ·exact fi.pure hr hd (hr.eS h1) (by simp[execOp,hop,hc,asBool,hr.ev h1])
  ·cases h
 case alloc t=>
  split at h
  ·rename_i d i iw hi;obtain⟨h1,h2,h3,rfl,rfl⟩:=rU h;rw[iw] at hd;have hlt:d<C.N:=by simpa [lC,Nat.blt_eq] using hd
   obtain⟨bM,he,Bc⟩:=hr.make hlt h1 h2 h3 (by rw[ah];intro j hj;cases hj);rw[az] at Bc;refine⟨bM,_,aK.alloc _ _,Bc.put (by rw[iw];exact hd) (yr aa),.inl ?_⟩;have he':(AV.box d 0).bu bM=.pointer (some ⟨w.heap.size,0,none⟩):=by show Value.pointer (some ⟨bM d,0,none⟩)=_;rw[he]
   rw[he'];simp[execOp,hop,Instr.alloc,(hC t i hi).zero,newVar,newRow]
  ·cases h
 case box t x=>
  split at h
  ·rename_i d y iw hv;obtain⟨h1,h2,h3,rfl,rfl⟩:=rU h;rw[iw] at hd;have hlt:d<C.N:=by simpa [lC,Nat.blt_eq] using hd
   have ht:=Lm h3;obtain⟨bM,he,Bc⟩:=hr.make hlt h1 h2 h3 (λj hj=>hr.eS hv j (kE ht hj));rw[jy β y ht] at Bc;refine⟨bM,_,aK.alloc _ _,Bc.put (by rw[iw];exact hd) (yr aa),.inl ?_⟩;have he':(AV.box d 0).bu bM=.pointer (some ⟨w.heap.size,0,none⟩):=by show Value.pointer (some ⟨bM d,0,none⟩)=_;rw[he]
   rw[he'];simp[execOp,hop,Instr.box,hr.ev hv,newVar,newRow]
  ·cases h
 case build t ps=>
  split at h
  ·rename_i i l hi hl
   split at h
   ·rename_i cs hf;rw[de,nx] at h;cases h;have IW:=hr.DN hl
    have hg:i.agg=true:=by
     cases hg:i.agg with
     | true=>rfl
     | false=>rw[hg] at hf;cases hf
    rw[hg] at hf;refine fi.pure hr hd (λj hj=> ?_) ?_
    ·rcases CF _ _ hf j (vN hj) with e|⟨p,hp,e⟩
     ·rw[ah] at e;cases e
     ·exact hr.closed.DN hl p hp j e
    ·have:(Instr.build t (ps.map λx=>(x.1,a.eval x.2))).run C.P w=.ok (.agg (cs.map (AV.leaf β)).toArray) w:=(hC t i hi).bld hg _ w _ (by
      rw[ou,IW];have:=Gi (β:=β) _ _ hf;rw[az] at this;exact this)
     rw[sX];simp[execOp,hop,this]
   ·cases h
  ·cases h
 case load t x=>
  split at h
  ·rename_i b off i hx hi
   split at h
   ·rename_i tb cs hb;obtain⟨h1,rfl,rfl⟩:=CC h;have he:a.eval x=.pointer (some ⟨β b,off,none⟩):=hr.ev hx;have hl:((cs.drop off).take i.size).length=i.size:=by rw[cE,jN];omega
    have hk:((cs.drop off).take i.size).all bm=true:=bP.2 λy hy=>bP.1 (hr.own b tb cs hb).ok y (qI (lX hy))
    have MN:∀ j u,((cs.drop off).take i.size)[j]? =some u->cs[off+j]? =some u:=λj u hj=>by
     rw[qK] at hj
     split at hj
     ·rwa [oo] at hj
     ·cases hj
    refine fi.pure hr hd (λj hj=> ?_) ?_
    ·obtain⟨y,hy,hj'⟩:=bZ.1 (vO hk hj);exact hr.hp.closed b tb cs hb j (bZ.2 ⟨y,qI (lX hy),hj'⟩)
    ·have:=iW (hC t i hi) ⟨β b,off,none⟩ (((cs.drop off).take i.size).map (AV.leaf β)) (by rw[aM,hl]) w (vR hr hb MN);rw[ta (hC t i hi) hl hk];simp[execOp,hop,he,Instr.loadAt,Instr.sureAddr,this]
   ·cases h
  ·split at h <;> cases h
  ·cases h
  ·cases h
 case store t x y=>
  split at h
  ·rename_i b off y' i hx hv hi
   split at h
   ·rename_i tb cs hb;obtain⟨h1,h2,h3,rfl,rfl⟩:=zy h;have he:a.eval x=.pointer (some ⟨β b,off,none⟩):=hr.ev hx;have hy:=hr.ev hv;obtain⟨k1,k2⟩:=hr.stored hb (by rw[h2];exact h1) h3 (λj hj=>hr.eS hv j (kE (Lm h3) hj));rw[h2] at k2;refine⟨β,_,k1,k2.put hd (λ_ hi=>by cases hi),.inr ⟨?_,aa⟩⟩;have:=uG hC hr hi hb h1 h2 h3;simp[execOp,hop,he,hy,this]
   ·cases h
  ·split at h
   ·unfold CA at h
    revert h
    generalize (Nat.beq _ _ && _)=q;cases q <;> intro h <;> cases h
   ·cases h
  ·cases h
 case binOp op t x y t'=>
  split at h
  ·rename_i p q hp hq;have e1:=hr.jW hp;have e2:=hr.jW hq
   split at h
   ·rename_i i hi;obtain⟨y',h1,rfl,rfl⟩:=gV h;cases hb:i.bool with
    | false=>rw[hb] at h1;cases h1
    | true=>
      rw[hb] at h1;change binB op p q=some y' at h1;refine fi.val hr hd ?_;have hu:=(hC t i hi).isBool hb;unfold binB at h1;cases op <;> simp at h1 <;> subst h1 <;> simp[execOp,hop,e1,e2,eqGuard,binOp,run_equal_bool w t _ _ hu]
   ·cases h
  ·rename_i p hp hq;have e1:=hr.jW hp;have e2:=hr.jW hq
   split at h
   ·rename_i i hi;obtain⟨y',h1,rfl,rfl⟩:=gV h;cases hb:i.ptr with
    | false=>rw[hb] at h1;cases h1
    | true=>
      rw[hb] at h1;change uE op p.isNone=some y' at h1;exact fi.val hr hd (td hop e1 e2 ((hC t i hi).Lj hb) h1 w)
   ·cases h
  ·rename_i p l c n c' hp hq;have e1:=hr.jW hp;have e2:=hr.jW hq
   split at h
   ·rename_i i hi;obtain⟨y',h1,rfl,rfl⟩:=gV h;cases hb:(i.elem.isSome && (Nat.beq n 0 && Nat.beq c' 0)) with
    | false=>rw[hb] at h1;cases h1
    | true=>
      rw[hb] at h1;change uE op p.isNone=some y' at h1;simp only[Bool.and_eq_true,Nat.beq_eq] at hb;obtain⟨hb,rfl,rfl⟩:=hb;obtain⟨⟨e,sz⟩,he⟩:=Option.isSome_iff_exists.1 hb;exact fi.val hr hd (CG hop e1 e2 ((hC t i hi).isSlice e sz he).1 h1 w)
   ·cases h
  ·rename_i p q _ _ _ hp hq;obtain⟨y',h1,rfl,rfl⟩:=gV h;refine fi.val hr hd ?_;have:=Ps (P:=C.P) (t:=t) (x:=x) (y:=y) h1 w;unfold execOp;rw[hop];show (do pure (Next.value (<-(do eqGuard op t x y (a.eval x) (a.eval y);binOp op t (a.eval x) (a.eval y)))):Sem Next).run C.P w=_;rw[hr.jW hp,hr.jW hq,Sem.run_bind,this];rfl
  ·rename_i hp hq;have e2:=hr.jW hq
   split at h
   ·rename_i b off i hx hi;have e1:a.eval x=.pointer (some ⟨β b,off,none⟩):=hr.ev hx;obtain⟨y',h1,rfl,rfl⟩:=gV h;cases hb:i.ptr with
    | false=>rw[hb] at h1;cases h1
    | true=>
      rw[hb] at h1;change uE op false=some y' at h1;exact fi.val hr hd (td hop e1 e2 ((hC t i hi).Lj hb) h1 w)
   ·rename_i b off i hx hi;have e1:a.eval x=.pointer (some ⟨β b,off,none⟩):=hr.ev hx;obtain⟨y',h1,rfl,rfl⟩:=gV h;cases hb:i.ptr with
    | false=>rw[hb] at h1;cases h1
    | true=>
      rw[hb] at h1;change uE op false=some y' at h1;exact fi.val hr hd (td hop e1 e2 ((hC t i hi).Lj hb) h1 w)
   ·cases h
  ·rename_i n c' hp hq;have e2:=hr.jW hq
   split at h
   ·rename_i b off l c i hx hi;have e1:a.eval x=.slice (some ⟨β b,off,none⟩) l c:=hr.ev hx;obtain⟨y',h1,rfl,rfl⟩:=gV h;cases hb:(i.elem.isSome && (Nat.beq n 0 && Nat.beq c' 0)) with
    | false=>rw[hb] at h1;cases h1
    | true=>
      rw[hb] at h1;change uE op false=some y' at h1;simp only[Bool.and_eq_true,Nat.beq_eq] at hb;obtain⟨hb,rfl,rfl⟩:=hb;obtain⟨⟨e,sz⟩,he⟩:=Option.isSome_iff_exists.1 hb;exact fi.val hr hd (CG hop e1 e2 ((hC t i hi).isSlice e sz he).1 h1 w)
   ·cases h
  ·cases h
 case unOp op t x=>
  cases op <;> simp only at h <;> try (exact (gm h).elim)
  ·split at h
   ·rename_i k n hx;cases h;exact fi.val hr hd (by simp[execOp,hop,hr.jW hx,Op.unary,Op.intArith])
   ·cases h
  ·split at h
   ·rename_i t ht;cases h;exact fi.val hr hd (by simp[execOp,hop,hr.jW ht,Op.unary])
   ·cases h
 case convert s t x=>
  split at h
  ·rename_i i' i k n hs hi hx
   split at h
   ·rename_i kd hk;cases h;obtain⟨d,hsd,_⟩:=(hC s i' hs).row;have hu:=(hC t i hi).isInt kd hk;refine fi.val hr hd ?_
    have:(convert s t (.int k n)).run C.P w=.ok (.int kd (kd.wrap n)) w:=by
     cases d <;> simp[convert,run_underlying hsd,run_underlying hu,Conv.intToInt]
    simp[execOp,hop,hr.jW hx,this]
   ·cases h
  ·cases h
 case fieldAddr t x k=>
  split at h
  ·rename_i b off i hx hi
   split at h
   ·rename_i p hp;cases h;have he:a.eval x=.pointer (some ⟨β b,off,none⟩):=hr.ev hx;exact fi.pure hr hd (λi' vS=>hr.eS hx i' (by simpa [AV.ids] using vS)) (by simp[execOp,hop,he,(hC t i hi).Pl k p hp,AV.bu])
   ·cases h
  ·rename_i b off i hx hi
   split at h
   ·rename_i p hp;cases h;have he:a.eval x=.pointer (some ⟨β b,off,none⟩):=hr.ev hx;exact fi.pure hr hd (λi' vS=>hr.eS hx i' (by simpa [AV.ids] using vS)) (by simp[execOp,hop,he,(hC t i hi).Pl k p hp,AV.bu])
   ·cases h
  ·rename_i b off i hx hi
   split at h
   ·rename_i p hp;cases h;have he:a.eval x=.pointer (some ⟨b,off,none⟩):=hr.ev hx;exact fi.val hr hd (by simp[execOp,hop,he,(hC t i hi).Pl k p hp])
   ·cases h
  ·cases h
 case nilCheck x=>
  split at h
  ·rename_i b off hx;cases h;have he:a.eval x=.pointer (some ⟨β b,off,none⟩):=hr.ev hx;exact fi.pure hr hd (λi' vS=>hr.eS hx i' (by simpa [AV.ids] using vS)) (by simp[execOp,hop,he,AV.bu])
  ·rename_i b off hx;cases h;have he:a.eval x=.pointer (some ⟨β b,off,none⟩):=hr.ev hx;exact fi.pure hr hd (λi' vS=>hr.eS hx i' (by simpa [AV.ids] using vS)) (by simp[execOp,hop,he,AV.bu])
  ·rename_i b hx;cases h;have he:a.eval x=.pointer (some b):=hr.ev hx;exact fi.val hr hd (by simp[execOp,hop,he])
  ·cases h
 case field t x k=>
  split at h
  ·rename_i cs i hx hi;obtain⟨rfl,_⟩:=mr h;have he:a.eval x=.agg cs:=hr.ev hx;refine fi.pure hr hd (λj hj=> ?_) ?_
   ·have:=uF h j hj;rw[ah] at this;cases this
   ·have:=CH (β:=β) hC hi h w;rw[az] at this;simp[execOp,hop,he,this]
  ·rename_i l i hx hi;obtain⟨rfl,_⟩:=mr h;have he:a.eval x=.agg (l.map (AV.leaf β)).toArray:=hr.ev hx;refine fi.pure hr hd (λj hj=>hr.eS hx j (uF h j hj)) ?_;have:=CH (β:=β) hC hi h w;simp[execOp,hop,he,this]
  ·cases h
 case extract x k=>
  split at h
  ·rename_i vs hx;obtain⟨y,h1,rfl,rfl⟩:=gV h;rw[yp] at h1;have h1:vs[k]? =some y:=by simpa using h1
   have he:a.eval x=.tuple vs:=hr.ev hx;exact fi.val hr hd (by simp[execOp,hop,he,Instr.extract,h1])
  ·rename_i l hx
   split at h
   ·rename_i y hy;cases hn:gT y with
    | false=>rw[hn] at h;cases h
    | true=>
      rw[hn] at h;cases h;rw[yp] at hy;have he:a.eval x=.tuple (l.map (AV.lB β)).toArray:=hr.ev hx;refine fi.pure hr hd (λj hj=>hr.eS hx j (pP.2 ⟨v,dc hy,by rw[sZ hn];exact hj⟩)) ?_;rw[<-rh hn];simp[execOp,hop,he,Instr.extract,hy]
   ·cases h
  ·cases h
 case call c=>
  split at h
  ·rename_i cZ
   split at h
   ·rename_i x t hx ht;have e1:c.args=#[x]:=ot.1 hx;have e2:c.argTypes=#[t]:=ot.1 ht
    split at h
    ·rename_i p n k i hv hi
     split at h
     ·rename_i sz hz;cases h;obtain⟨he,_⟩:=(hC t i hi).isSlice sz.1 sz.2 hz;have e3:a.eval x=.slice p n k:=hr.ev hv;exact fi.val hr hd (by simp[execOp,hop,resolve,cZ,invoke,builtin,Builtin.len_,e1,e2,e3,run_underlying he,goInt])
     ·cases h
    ·rename_i b o n k i hv hi
     split at h
     ·rename_i sz hz;cases h;obtain⟨he,_⟩:=(hC t i hi).isSlice sz.1 sz.2 hz;have e3:a.eval x=.slice (some ⟨β b,o,none⟩) n k:=hr.ev hv;exact fi.val hr hd (by simp[execOp,hop,resolve,cZ,invoke,builtin,Builtin.len_,e1,e2,e3,run_underlying he,goInt])
     ·cases h
    ·rename_i s i hv hi;cases hz:vL i.zero with
     | false=>rw[hz] at h;cases h
     | true=>
       rw[hz] at h;cases h;have he:=(hC t i hi).isStr hz;have e3:a.eval x=.string s:=hr.ev hv;exact fi.val hr hd (by simp[execOp,hop,resolve,cZ,invoke,builtin,Builtin.len_,e1,e2,e3,run_underlying he,goInt])
    ·cases h
   ·cases h
  ·rename_i cZ
   split at h
   ·rename_i k x r hx;cases h;obtain⟨vs,Oe,Lp⟩:=KL.1 hx;have e1:=hr.evs Oe;cases vs with
    | nil=>cases Lp
    | cons y l=>
      obtain⟨x',r',he,rfl,hrun⟩:=Gn (P:=C.P) (λx y=>if y>x then y else x) Builtin.max2 (λk a b w=>aa) l y Lp;cases he
      have hm:∀ (r:List Int) (x:Int),qA x r=r.foldl (λx y=>if y>x then y else x) x:=λr=>by
       induction r with
       | nil=>intro x;rfl
       | cons z r ih=>intro x;rw[qA,ih];rfl
      refine fi.val hr hd ?_;have e5:(c.args.map a.eval).toList=.int k x::l:=by rw[ou,e1]
      have e6:(Builtin.max_ c.argTypes o.type (c.args.map a.eval)).run C.P w=.ok (.int k (qA x r)) w:=by
       unfold Builtin.max_;rw[e5];show (l.foldlM Builtin.max2 (.int k x)).run C.P w=_;rw[hrun,hm]
      unfold execOp;rw[hop];simp only[resolve,cZ,invoke,builtin,Sem.run_bind,Sem.run_pure,Result.andThen_ok,e6]
   ·cases h
  ·rename_i cZ
   split at h
   ·rename_i k x r hx;cases h;obtain⟨vs,Oe,Lp⟩:=KL.1 hx;have e1:=hr.evs Oe;cases vs with
    | nil=>cases Lp
    | cons y l=>
      obtain⟨x',r',he,rfl,hrun⟩:=Gn (P:=C.P) (λx y=>if y<x then y else x) Builtin.min2 (λk a b w=>aa) l y Lp;cases he
      have hm:∀ (r:List Int) (x:Int),Po x r=r.foldl (λx y=>if y<x then y else x) x:=λr=>by
       induction r with
       | nil=>intro x;rfl
       | cons z r ih=>intro x;rw[Po,ih];rfl
      refine fi.val hr hd ?_;have e5:(c.args.map a.eval).toList=.int k x::l:=by rw[ou,e1]
      have e6:(Builtin.min_ c.argTypes o.type (c.args.map a.eval)).run C.P w=.ok (.int k (Po x r)) w:=by
       unfold Builtin.min_;rw[e5];show (l.foldlM Builtin.min2 (.int k x)).run C.P w=_;rw[hrun,hm]
      unfold execOp;rw[hop];simp only[resolve,cZ,invoke,builtin,Sem.run_bind,Sem.run_pure,Result.andThen_ok,e6]
   ·cases h
  ·split at h
   ·rw[de] at h;cases h
   ·cases h
  ·exact (gm h).elim
 case makeFunc fn first cap=>
  cases fn <;> simp only at h <;> try (exact (gm h).elim)
  split at h
  ·rename_i l hl hm;cases h;have e1:=hr.evs hl;have e2:=hr.xr hm;have e3:first.map a.eval=l.toArray:=ot.1 (by rw[ou,e1]);have e4:cap.map a.eval=#[]:=ot.1 (by rw[ou,e2];rfl);exact fi.val hr hd (by simp[execOp,hop,Instr.makeFunc,e3,e4])
  ·rename_i l m hne hl hm
   split at h
   ·rename_i bs yg;cases h;have e1:=hr.evs hl;have e2:=hr.xr hm;have e3:first.map a.eval=l.toArray:=ot.1 (by rw[ou,e1]);have hb:=zz yg;have e4:cap.map a.eval=(bs.map λp=>Value.pointer (some ⟨β p.1,p.2,none⟩)).toArray:=ot.1 (by rw[ou,e2,hb,oz];rfl)
    exact fi.pure hr hd (λi hi=>by
     obtain⟨p,hp,rfl⟩:=ey.1 (show i∈bs.map (·.1) from hi);exact hr.closed.xr hm (.box p.1 p.2) (by rw[hb];exact ey.2 ⟨p,hp,aa⟩) p.1 (by simp[AV.ids])) (by simp[execOp,hop,Instr.makeFunc,e3,e4,AV.bu])
   ·cases h
  ·cases h
 case buildSlice t n ps=>
  revert h
  cases hsu:C.SU t <;> intro h
  ·rw[cond_false] at h
   split at h
   ·rename_i d i l iw hi hl
    split at h
    ·rename_i e sz hz
     split at h
     ·rename_i ie cs vB hcs;cases hq:Nat.beq ps.size n && Nat.ble (n*sz) 16777216 with
      | false=>rw[hq] at h;cases h
      | true=>
        rw[hq] at h;rw[gF] at hq;have q1:=lW hq.1;have q2:=cG hq.2;obtain⟨h1,h2,h3,rfl,rfl⟩:=CD h;rw[iw] at hd;have hlt:d<C.N:=by simpa [lC,Nat.blt_eq] using hd
        obtain⟨bM,he,Bc⟩:=hr.make hlt h1 h2 h3 (λj hj=>by
         obtain⟨p,hp,hpj⟩:=Gm _ _ hcs j hj;exact hr.closed.DN hl p hp j hpj)
        refine⟨bM,_,aK.alloc _ _,Bc.put (by rw[iw];exact hd) (yr aa),.inl ?_⟩;have he':(AV.row d 0 n n).bu bM=.slice (some ⟨w.heap.size,0,none⟩) n n:=by show Value.slice (some ⟨bM d,0,none⟩) n n=_;rw[he]
        rw[he'];obtain⟨hu,hsz⟩:=(hC t i hi).isSlice e sz hz;have IW:=hr.DN hl
        have hlen:l.length=n:=by
         have:=au List.length IW;simp at this;omega
        have Gp:∀ A:Array Value,A.size=n*sz->Instr.fill (λi=>some (i*sz,sz)) A (l.map λp=>(p.1,p.2.bu β))=some (cs.map (AV.leaf β)).toArray:=λA hA=>by
         have:=vQ (β:=β) (sz:=sz) l 0 [] A.toList hcs cf (by rw[yK,hA,hlen]);simpa using this
        have jI:=(hC e ie vB).zero;simp only[execOp,hop,Instr.buildSlice,Sem.run_bind,run_underlying hu,Result.andThen_ok,hsz];rw[if_neg ae];have e5:(ps.map λx=>(x.1,a.eval x.2)).toList=l.map λp=>(p.1,p.2.bu β):=by rw[ou,IW]
        by_cases hn:n*sz=0
        ·simp only[if_pos hn,Sem.run_bind,Sem.run_pure,Result.andThen_ok];rw[e5,Gp _ cf];simp[newRow]
        ·simp only[if_neg hn,Sem.run_bind,Sem.run_pure,Result.andThen_ok,jI];rw[e5,Gp _ cf];simp[newRow]
     ·cases h
    ·cases h
   ·cases h
  ·exact (gm h).elim
 case indexAddr t x ix=>
  split at h
  ·split at h <;> cases h
  ·split at h <;> cases h
  ·cases h
 case makeSlice t l c=>
  split at h
  ·split at h
   ·split at h
    ·revert h
     generalize (!_ && _)=q;cases q <;> intro h <;> cases h
    ·cases h
   ·cases h
  ·cases h
 case slice t x lo hi mx=>
  cases mx <;> simp only at h <;> try (exact (gm h).elim)
  split at h
  ·split at h <;> cases h
  ·split at h <;> cases h
  ·cases h
end
section
variable {C:Cx} {β:Nat->Nat} {F:Fr} {H:Hp} {a:Act} {w w':World} {full:Array Oper} {o:Oper} {Q:Exit->Act->World->Prop}
theorem ny (hr:Rel C β F H a w) {b:Bool} (h:wants full F o=some b):Region.wanted o (yielded full a.tmps)=b:=by
 unfold wants at h;unfold Region.wanted
 split at h
 ·rename_i hg;rw[hg];cases h;rfl
 ·rename_i g want hg;rw[hg]
  split at h
  ·cases h
  ·rename_i d hd
   split at h
   ·rename_i c hc;cases h;have:=hr.tmp d _ hc
    have h2:a.tmps[d]? =some (.bool c):=by
     rw[fy] at this;cases he:a.tmps[d]? with
     | none=>rw[he] at this;simp[undef,AV.bu] at this
     | some z=>rw[he] at this;simpa [AV.bu] using this
    simp only[yielded,hd,Option.bind_some,h2];cases c <;> cases want <;> rfl
   ·rename_i vs hc;cases h;have:=hr.tmp d _ hc;simp only[yielded,hd,Option.bind_some];rw[fy] at this;cases he:a.tmps[d]? with
    | none=>rfl
    | some z=>
      rw[he] at this;simp[AV.bu] at this;subst this;rfl
   ·cases h
def Plain (s:Step):Prop:=s=.bad\/∃ v u,s=.eZ v u
theorem Plain.bad:Plain .bad:=.inl rfl
theorem Plain.eZ (v:AV) (u:Option (Nat×(TypeId×List AV))):Plain (.eZ v u):=.inr ⟨v,u,rfl⟩
theorem Plain.Bg (x:Option AV):Plain (Proofs.YtlifeokjcgngjaaGreat.Bg x):=by cases x <;> first|exact .bad|exact .eZ _ _
theorem Plain.sW (x:Option Value):Plain (Proofs.YtlifeokjcgngjaaGreat.sW x):=by cases x <;> first|exact .bad|exact .eZ _ _
theorem Plain.qY (i:TI) (cs:List AV) (off:Nat):Plain (Proofs.YtlifeokjcgngjaaGreat.qY i cs off):=by
 unfold Proofs.YtlifeokjcgngjaaGreat.qY;rw[de];cases Nat.ble (off+i.size) cs.length
 ·exact .bad
 ·cases i.agg
  ·show Plain (match (cs.drop off).take i.size with|x::_=>.eZ x none|[]=>.bad)
   split <;> first|exact .bad|exact .eZ _ _
  ·rw[cond_true,cond_true,nx];exact .eZ _ _
theorem Plain.pS (i:TI) (b:Nat) (t:TypeId) (cs:List AV) (off:Nat) (v:AV):Plain (Proofs.YtlifeokjcgngjaaGreat.pS i b t cs off v):=by
 unfold Proofs.YtlifeokjcgngjaaGreat.pS;rw[de];cases (Nat.ble (off+i.size) cs.length && Nat.beq (cellsOf v).length i.size && (cellsOf v).all bm) <;> first|exact .bad|exact .eZ _ _
theorem Plain.qZ (K:KC) (d:Nat) (t:TypeId) (cs:List AV) (h:Option (TypeId×List AV)):Plain (Proofs.YtlifeokjcgngjaaGreat.qZ K d t cs h):=by
 unfold Proofs.YtlifeokjcgngjaaGreat.qZ;cases h with
 | some _=>exact .bad
 | none=>dsimp only;rw[de];cases (!K.fz t && cs.all bm) <;> first|exact .bad|exact .eZ _ _
theorem Plain.xu (K:KC) (d:Nat) (e:TypeId) (n:Nat) (cs:List AV) (h:Option (TypeId×List AV)):Plain (Proofs.YtlifeokjcgngjaaGreat.xu K d e n cs h):=by
 unfold Proofs.YtlifeokjcgngjaaGreat.xu;cases h with
 | some _=>exact .bad
 | none=>dsimp only;rw[de];cases (!K.fz e && cs.all bm) <;> first|exact .bad|exact .eZ _ _
theorem Plain.nX (i:TI) (cs:List AV) (k:Nat):Plain (Proofs.YtlifeokjcgngjaaGreat.nX i cs k):=by
 unfold Proofs.YtlifeokjcgngjaaGreat.nX
 split
 ·rw[de,nx];exact .eZ _ _
 ·split
  ·rename_i x _;cases mn x <;> first|exact .bad|exact .eZ _ _
  ·exact .bad
 ·exact .bad
theorem Plain.no_read {s:Step} (h:Plain s) {i:TI} {x:Addr} (e:s=.read i x):False:=by rcases h with h|⟨v,u,h⟩ <;> rw[h] at e <;> cases e
variable {cs:List AV}
theorem Plain.no_peek {s:Step} (h:Plain s) {i:TI} {x:Nat} (e:s=.fN i cs x):False:=by rcases h with h|⟨v,u,h⟩ <;> rw[h] at e <;> cases e
variable {v:AV} {u:Option (Nat×(TypeId×List AV))} {φ:Prop}
theorem Plain.Lq {s:Step} (h:Plain s) (e:s=.cond φ v u):False:=by rcases h with h|⟨v,u,h⟩ <;> rw[h] at e <;> cases e
variable {d:vM}
theorem Plain.no_call {s:Step} (h:Plain s) (e:s=.call d):False:=by rcases h with h|⟨v,u,h⟩ <;> rw[h] at e <;> cases e
inductive Kind (C:Cx) (F:Fr) (H:Hp) (o:Oper):Step->Prop
 | plain {s:Step}:Plain s->Kind C F H o s
 | read {t:TypeId} {y:Operand} {i:TI} {x:Addr}:o.op=.load t y->C.ti t=some i->ev F y=some (.val (.pointer (some x)))->Kind C F H o (.read i x)
 | fN {t:TypeId} {y:Operand} {i:TI} {b off:Nat} {tb:TypeId} {cs:List AV}:o.op=.load t y->C.ti t=some i->ev F y=some (.nV b off)->H b=some (tb,cs)->Kind C F H o (.fN i cs off)
 | store {t:TypeId} {x y:Operand} {φ:Prop} {v:AV} {u:Option (Nat×(TypeId×List AV))}:o.op=.store t x y->Kind C F H o (.cond φ v u)
 | index {t:TypeId} {x y:Operand} {φ:Prop} {v:AV}:o.op=.indexAddr t x y->Kind C F H o (.cond φ v none)
 | slice {t:TypeId} {x:Operand} {lo hi:Option Operand} {φ:Prop} {v:AV}:o.op=.slice t x lo hi none->Kind C F H o (.cond φ v none)
 | make {t:TypeId} {l c:Operand} {φ:Prop} {v:AV} {d:Nat} {q:TypeId×List AV}:o.op=.makeSlice t l c->o.dst=some d->H d=none->Kind C F H o (.cond φ v (some (d,q)))
 | fn {c:Call} {f:Operand} {g:FuncId} {first l cap:List AV}:o.op=.call c->c.callee=.value f->Lk F f=some (g,first,cap)->xr F c.args.toList=some l->Kind C F H o (.call (.fn g (first++(l++cap))))
 | raw {vs:List AV}:xr F o.op.operands.toList=some vs->((∃ t n ps,o.op=.buildSlice t n ps/\C.SU t=true)\/∀ su l,3<=aI su l o)->Kind C F H o (.call (.op o vs))
theorem Kind.bad:Kind C F H o .bad:=.plain .bad
theorem Kind.eZ (v:AV) (u:Option (Nat×(TypeId×List AV))):Kind C F H o (.eZ v u):=.plain (.eZ v u)
theorem Kind.re (h:(∃ t n ps,o.op=.buildSlice t n ps/\C.SU t=true)\/∀ su l,3<=aI su l o):Kind C F H o (Proofs.YtlifeokjcgngjaaGreat.re F o):=by
 unfold Proofs.YtlifeokjcgngjaaGreat.re
 split
 ·rename_i vs hv;exact .raw hv h
 ·exact .bad
theorem rj:Kind C F H o (act C F H o):=by
 unfold act;cases hop:o.op
 case load t y=>
  simp only
  split
  ·split
   ·exact .plain (.qY _ _ _)
   ·exact .bad
  ·rename_i b off i hx hi
   split
   ·rename_i tb cs hb;exact .fN hop hi hx hb
   ·exact .bad
  ·rename_i x i hx hi;exact .read hop hi hx
  ·exact .bad
 case indexAddr t x ix=>
  simp only
  split
  ·split
   ·exact .index hop
   ·exact .bad
  ·split
   ·exact .index hop
   ·exact .bad
  ·exact .bad
 case store t x y=>
  simp only
  split
  ·split
   ·exact .plain (.pS _ _ _ _ _ _)
   ·exact .bad
  ·split
   ·rename_i tb cs hb;unfold CA;generalize (_ && _)=q;cases q
    ·exact .bad
    ·exact .store hop
   ·exact .bad
  ·exact .bad
 case slice t x lo hi mx=>
  cases mx with
  | some m=>exact .re (.inr λsu l=>by unfold aI;rw[hop];exact cG aa)
  | none=>
    simp only
    split
    ·split
     ·exact .slice hop
     ·exact .bad
    ·split
     ·exact .slice hop
     ·exact .bad
    ·exact .bad
 case makeSlice t l c=>
  simp only
  split
  ·rename_i d i k n k' m iw hi hl hc
   split
   ·split
    ·rename_i ie vB h0;generalize (_ && _)=q;cases q
     ·exact .bad
     ·exact .make hop iw h0
    ·exact .bad
   ·exact .bad
  ·exact .bad
 case call c=>
  simp only
  split
  ·split
   ·split
    ·split <;> first|exact .eZ _ _|exact .bad
    ·split <;> first|exact .eZ _ _|exact .bad
    ·rename_i s i _ _;cases vL i.zero
     ·exact .bad
     ·exact .eZ _ _
    ·exact .bad
   ·exact .bad
  ·split <;> first|exact .eZ _ _|exact .bad
  ·split <;> first|exact .eZ _ _|exact .bad
  ·rename_i f cZ
   split
   ·rename_i g first cap l hf hl
    rw[de];exact .fn hop cZ hf hl
   ·exact .bad
  ·rename_i h1 h2 h3 h4;refine .re (.inr λsu l=> ?_);unfold aI;rw[hop];simp only
   split
   ·rename_i e;exact absurd e h1
   ·rename_i e;exact absurd e h2
   ·rename_i e;exact absurd e h3
   ·exact aP _
   ·rename_i e;exact absurd e (h4 _)
   ·omega
 case move=>exact .plain (.Bg _)
 case assign=>exact .plain (.Bg _)
 case pick=>simp only;split <;> first|exact .plain (.Bg _)|exact .bad
 case unOp op _ _=>
  cases op <;> simp only <;> first
   | exact .re (.inr λsu l=>by unfold aI;rw[hop];exact cG aa)
   | (split <;> first|exact .eZ _ _|exact .bad)
 case binOp=>simp only;split <;> first|exact .plain (.sW _)|exact .bad|(split <;> first|exact .plain (.sW _)|exact .bad)
 case convert=>simp only;split <;> first|exact .bad|(split <;> first|exact .eZ _ _|exact .bad)
 case extract=>
  simp only
  split
  ·exact .plain (.sW _)
  ·split
   ·rename_i x _;cases gT x <;> first|exact .bad|exact .eZ _ _
   ·exact .bad
  ·exact .bad
 case field=>simp only;split <;> first|exact .plain (.nX _ _ _)|exact .bad
 case nilCheck=>simp only;split <;> first|exact .bad|exact .eZ _ _
 case fieldAddr=>simp only;split <;> first|exact .bad|(split <;> first|exact .bad|exact .eZ _ _)
 case build=>simp only;split <;> first|exact .bad|(split <;> first|exact .bad|(rw[de,nx];exact .eZ _ _))
 case alloc=>simp only;split <;> first|exact .bad|exact .plain (.qZ _ _ _ _ _)
 case box=>simp only;split <;> first|exact .bad|exact .plain (.qZ _ _ _ _ _)
 case makeFunc fn _ _=>
  cases fn <;> simp only <;> first
   | exact .re (.inr λsu l=>by unfold aI;rw[hop];exact cG aa)
   | (split <;> first|exact .eZ _ _|exact .bad|(split <;> first|exact .eZ _ _|exact .bad))
 case buildSlice t n ps=>
  simp only;cases hsu:C.SU t
  ·rw[cond_false]
   split
   ·split
    ·split
     ·cases (Nat.beq _ _ && Nat.ble _ _)
      ·exact .bad
      ·exact .plain (.xu _ _ _ _ _ _)
     ·exact .bad
    ·exact .bad
   ·exact .bad
  ·exact .re (.inl ⟨t,n,ps,hop,hsu⟩)
 all_goals exact .re (.inr λsu l=>by unfold aI;rw[hop];exact cG aa)
theorem Pt {i:TI} {x:Addr} (h:act C F H o=.read i x):∃ t y,o.op=.load t y/\C.ti t=some i/\ev F y=some (.val (.pointer (some x))):=by
 have k:=rj (C:=C) (F:=F) (H:=H) (o:=o);rw[h] at k;cases k with
 | plain p=>exact (p.no_read aa).elim
 | read h1 h2 h3=>exact⟨_,_,h1,h2,h3⟩
theorem Gq {i:TI} {off:Nat} (h:act C F H o=.fN i cs off):∃ t y b tb,o.op=.load t y/\C.ti t=some i/\ev F y=some (.nV b off)/\H b=some (tb,cs):=by
 have k:=rj (C:=C) (F:=F) (H:=H) (o:=o);rw[h] at k;cases k with
 | plain p=>exact (p.no_peek aa).elim
 | fN h1 h2 h3 h4=>exact⟨_,_,_,_,h1,h2,h3,h4⟩
theorem zA (h:act C F H o=.call d):(∃ c f g first l cap,o.op=.call c/\c.callee=.value f/\Lk F f=some (g,first,cap)/\xr F c.args.toList=some l/\d=.fn g (first++(l++cap)))\/
  (∃ vs,xr F o.op.operands.toList=some vs/\d=.op o vs/\((∃ t n ps,o.op=.buildSlice t n ps/\C.SU t=true)\/∀ su l,3<=aI su l o)):=by
 have k:=rj (C:=C) (F:=F) (H:=H) (o:=o);rw[h] at k;cases k with
 | plain p=>exact (p.no_call aa).elim
 | fn h1 h2 h3 h4=>exact .inl ⟨_,_,_,_,_,_,h1,h2,h3,h4,aa⟩
 | raw h1 h2=>exact .inr ⟨_,h1,aa,h2⟩
theorem xw (β:Nat->Nat) (z:List Value):∀ n,(kV n (z.map .val)).map (AV.leaf β)=(List.range (n*z.length)).map λi=>z.getD (i%z.length) undef
 | 0=>by simp[kV]
 | n+1=>by
   rw[kV,aF,az,xw β z n];rw[jO,ud,List.range_add,aF,oz]
   congr 1
   ·apply List.ext_getElem
    ·simp
    ·intro i h1 h2;simp only[List.getElem_map,List.getElem_range];rw[tY h1,lU,aH h1];rfl
   ·apply mW;intro i _;simp
theorem CI {z:List AV} (h:z.all bm=true):∀ n,(kV n z).all bm=true
 | 0=>rfl
 | n+1=>by rw[kV,dK,h,CI h n];rfl
theorem zB {z:List AV} (h:bj z=[]):∀ n,bj (kV n z)=[]
 | 0=>rfl
 | n+1=>by rw[kV,iT,h,zB h n];rfl
theorem aL {z:List Value} (h:z.all aO=true):(z.map AV.val).all bm=true:=bP.2 λx hx=>by
 obtain⟨y,hy,rfl⟩:=ey.1 hx;exact bP.1 h y hy
theorem yt (hr:Rel C β F H a w) {x:Option Operand} {k:Option Int} (h:evo F x=some k):(k=none/\x.map a.eval=none)\/∃ kd n,k=some n/\x.map a.eval=some (.int kd n):=by
 cases x with
 | none=>cases h;exact .inl ⟨aa,aa⟩
 | some y=>
   unfold evo at h;simp only at h
   split at h
   ·rename_i kd n hn;cases h;exact .inr ⟨kd,n,aa,by rw[Option.map_some,hr.jW hn]⟩
   ·cases h
variable {P:Program} {t:TypeId}
theorem CJ {e:TypeId} {sz:Nat} (hu:P.underlying t=some (.slice e)) (hsz:∀ w,(sizeOf e).run P w=.ok sz w) {p:Option Addr} {n c:Nat} {lo hi:Option Value} {l h:Option Int}
  (hl:(l=none/\lo=none)\/∃ kd k,l=some k/\lo=some (.int kd k)) (hh:(h=none/\hi=none)\/∃ kd k,h=some k/\hi=some (.int kd k))
  (h0:0<=l.getD 0) (h1:l.getD 0<=h.getD (n:Int)) (h2:h.getD (n:Int)<=(c:Int)) (w:World):
  (Instr.sliceAt t (.slice p n c) lo hi none).run P w=.ok (.slice (if c=(l.getD 0).toNat then p else p.map (·.add ((l.getD 0).toNat*sz))) ((h.getD (n:Int)).toNat-(l.getD 0).toNat) (c-(l.getD 0).toNat)) w:=by
 have hb:(Instr.sliceBounds true n c lo hi none).run P w=.ok ((l.getD 0).toNat,(h.getD (n:Int)).toNat,c) w:=by
  unfold Instr.sliceBounds;rcases hh with ⟨rfl,rfl⟩|⟨kd,k,rfl,rfl⟩ <;> rcases hl with ⟨rfl,rfl⟩|⟨kl,j,rfl,rfl⟩
  ·simp
  ·simp only[Option.getD_some,Option.getD_none] at h0 h1 h2 ⊢;simp[run_sliceBound w kl j n .sliceB h0 h1]
  ·simp only[Option.getD_some,Option.getD_none] at h0 h1 h2 ⊢;simp[run_sliceBound w kd k c .sliceAcap ae h2]
  ·simp only[Option.getD_some] at h0 h1 h2 ⊢;have:(j:Int)<=(k.toNat:Int):=ae;simp[run_sliceBound w kd k c .sliceAcap ae h2,run_sliceBound w kl j k.toNat .sliceB h0 this]
 have h3:(Instr.slice t (.slice p n c) lo hi none).run P w=.ok (.slice (if c=(l.getD 0).toNat then p else p.map (·.add ((l.getD 0).toNat*sz))) ((h.getD (n:Int)).toNat-(l.getD 0).toNat) (c-(l.getD 0).toNat)) w:=by
  unfold Instr.slice;simp only[Sem.run_bind,run_underlying hu,Result.andThen_ok,hb,hsz,Sem.run_pure]
 unfold Instr.sliceAt;simp only[Sem.run_bind,run_underlying hu,Result.andThen_ok];exact h3
theorem Gr (hC:C.Ok) {o:Oper} (h:act C F H o=.cond φ v u) (Jm:φ) (hd:lC C.N o.dst=true) (hr:Rel C β F H a w):fi C F H o a w v u:=by
 have hkind:(∃ t x y,o.op=.store t x y)\/(∃ t x y,o.op=.indexAddr t x y)\/(∃ t x lo hi,o.op=.slice t x lo hi none)\/∃ t l c,o.op=.makeSlice t l c:=by
  have k:=rj (C:=C) (F:=F) (H:=H) (o:=o);rw[h] at k;cases k with
  | plain p=>exact (p.Lq aa).elim
  | store e=>exact .inl ⟨_,_,_,e⟩
  | index e=>exact .inr (.inl ⟨_,_,_,e⟩)
  | slice e=>exact .inr (.inr (.inl ⟨_,_,_,_,e⟩))
  | make e=>exact .inr (.inr (.inr ⟨_,_,_,e⟩))
 unfold act at h;rcases hkind with ⟨t,x,y,hop⟩|⟨t,x,y,hop⟩|⟨t,x,lo,hi,hop⟩|⟨t,l,c,hop⟩ <;> rw[hop] at h <;> simp only at h
 ·
  split at h
  ·split at h
   ·unfold pS at h
    revert h
    generalize (_ && _)=q;cases q <;> intro h
    ·cases h
    ·rw[cond_true,de] at h;cases h
   ·cases h
  ·rename_i b off y' i hx hv hi
   split at h
   ·rename_i tb cs hb;obtain⟨rfl,h2,h3,rfl,rfl⟩:=MM h;have he:a.eval x=.pointer (some ⟨β b,off,none⟩):=hr.ev hx;have hy:=hr.ev hv;obtain⟨k1,k2⟩:=hr.stored hb (by rw[h2];exact Jm) h3 (λj hj=>hr.eS hv j (kE (Lm h3) hj));rw[h2] at k2;refine⟨β,_,k1,k2.put hd (λ_ hi=>by cases hi),.inr ⟨?_,aa⟩⟩;have:=uG hC hr hi hb Jm h2 h3;simp[execOp,hop,he,hy,this]
   ·cases h
  ·cases h
 ·
  split at h
  ·rename_i b off n c kd k i hx hix hi
   split at h
   ·rename_i e sz hz;cases h;obtain⟨he,hsz⟩:=(hC t i hi).isSlice e sz hz;have hxe:a.eval x=.slice (some ⟨b,off,none⟩) n c:=hr.ev hx;refine fi.val hr hd ?_;simp[execOp,hop,hxe,hr.jW hix,Instr.indexAt,asIntOf,run_underlying he,hsz,Jm,Addr.add_mid]
   ·cases h
  ·rename_i b off n c kd k i hx hix hi
   split at h
   ·rename_i e sz hz;cases h;obtain⟨he,hsz⟩:=(hC t i hi).isSlice e sz hz;have hxe:a.eval x=.slice (some ⟨β b,off,none⟩) n c:=hr.ev hx;refine fi.pure hr hd (λj hj=>hr.eS hx j (by simpa [AV.ids] using hj)) ?_;simp[execOp,hop,hxe,hr.jW hix,Instr.indexAt,asIntOf,run_underlying he,hsz,Jm,Addr.add_mid,AV.bu]
   ·cases h
  ·cases h
 ·
  split at h
  ·rename_i b off n c i l hh hx hi hl hhh
   split at h
   ·rename_i e sz hz;cases h;obtain⟨he,hsz⟩:=(hC t i hi).isSlice e sz hz;have hxe:a.eval x=.slice (some ⟨β b,off,none⟩) n c:=hr.ev hx;refine fi.pure hr hd (λj hj=>hr.eS hx j (by simpa [AV.ids] using hj)) ?_;have:=CJ (P:=C.P) he hsz (p:=some ⟨β b,off,none⟩) (yt hr hl) (yt hr hhh) Jm.1 Jm.2.1 Jm.2.2.1 w
    have e4:(if c=(l.getD 0).toNat then some (⟨β b,off,none⟩:Addr) else (some (⟨β b,off,none⟩:Addr)).map (·.add ((l.getD 0).toNat*sz)))=some ⟨β b,if c=(l.getD 0).toNat then off else off+(l.getD 0).toNat*sz,none⟩:=by
     split
     ·rfl
     ·rw[Option.map_some,Addr.add_mid]
    rw[e4] at this;simp[execOp,hop,hxe,this,AV.bu]
   ·cases h
  ·rename_i p n c i l hh hx hi hl hhh
   split at h
   ·rename_i e sz hz;cases h;obtain⟨he,hsz⟩:=(hC t i hi).isSlice e sz hz;have hxe:a.eval x=.slice p n c:=hr.ev hx;have:=CJ (P:=C.P) he hsz (p:=p) (yt hr hl) (yt hr hhh) Jm.1 Jm.2.1 Jm.2.2.1 w;exact fi.val hr hd (by simp[execOp,hop,hxe,this])
   ·cases h
  ·cases h
 ·
  split at h
  ·rename_i d i k n k' m iw hi hl hc
   split at h
   ·rename_i e sz hz
    split at h
    ·rename_i ie vB h0;cases hq: !C.K.fz e && ie.zero.cells.toList.all aO with
     | false=>rw[hq] at h;cases h
     | true=>
       rw[hq] at h;cases h;rw[gF] at hq;obtain⟨rfl,hn,hb⟩:=Jm;obtain⟨hu,hsz⟩:=(hC t i hi).isSlice e sz hz;rw[iw] at hd;have hlt:d<C.N:=by simpa [lC,Nat.blt_eq] using hd
       have hne:C.K.fz e=false:=by simpa using hq.1
       have MO:=hC e ie vB;have Pu:=MO.size;cases Bh:C.P.info? e with
       | none=>rw[Bh] at Pu;simp at Pu
       | some ti=>
         rw[Bh] at Pu;simp only[Option.map_some,Option.some.injEq] at Pu;obtain⟨n',rfl⟩:∃ n':Nat,n=(n':Int):=⟨n.toNat,ae⟩;have hbt:ti.bytes<=24*ie.size:=cG (by have:=MO.bytes;rw[Bh] at this;simpa using this);have hps:=MO.pos
         have hle:n'<=140737488355328:=by
          have:(n':Int)*24<=n' *(24*(ie.size:Int)):=Int.mul_le_mul_of_nonneg_left ae ae;omega
         have Mn:(ti.bytes:Int)*(n':Int)<=281474976710656:=by
          have:(ti.bytes:Int)*(n':Int)<=(24*(ie.size:Int))*n':=Int.mul_le_mul_of_nonneg_right ae ae;rw[Int.mul_comm] at hb;omega
         have hrun:=run_make (P:=C.P) w t e ti ie.zero hu Bh (by have:=MO.Ga;rw[Bh] at this;simpa using this) k k' (n':Int) (n':Int) ae (Int.le_refl _) Mn ae
         have hcs:madeCells ie.zero.cells ((n':Int).toNat*ti.size)=((kV (n':Int).toNat (ie.zero.cells.toList.map .val)).map (AV.leaf β)).toArray:=by
          rw[xw,Pu,<-MO.Cy];have hzp:0<ie.zero.cells.size:=by rw[MO.Cy];exact hps
          apply ot.1;show ((Array.range _).map _).toList=(((List.range _).map _).toArray).toList;rw[ou,Array.toList_range];rw[yK];refine mW λq _=> ?_;have hlt:=eR q hzp;rw[lU,Array.getElem?_toList,lV hlt];simp[hlt]
         obtain⟨bM,he,Bc⟩:=hr.make hlt h0 hne (CI (aL hq.2) (n':Int).toNat) (by rw[zB (ah _)];intro j hj;cases hj);refine⟨bM,_,aK.alloc _ _,Bc.put (by rw[iw];exact hd) (yr aa),.inl ?_⟩;have he':(AV.row d 0 (n':Int).toNat (n':Int).toNat).bu bM=.slice (some ⟨w.heap.size,0,none⟩) (n':Int).toNat (n':Int).toNat:=by show Value.slice (some ⟨bM d,0,none⟩) _ _=_;rw[he]
         rw[he'];rw[hcs] at hrun;simp only[execOp,hop,hr.jW hl,hr.jW hc,Sem.run_bind,hrun,Result.andThen_ok,Sem.run_pure]
    ·cases h
   ·cases h
  ·cases h
variable {g:FuncId} {first cap:List AV}
theorem Rel.Lk (hr:Rel C β F H a w) {x:Operand} (h:Proofs.YtlifeokjcgngjaaGreat.Lk F x=some (g,first,cap)):a.eval x=.func (.func g) (first.map (AV.bu β)).toArray (cap.map (AV.bu β)).toArray:=by
 unfold Proofs.YtlifeokjcgngjaaGreat.Lk at h
 split at h
 ·rename_i g' f c hx;cases h;have:=hr.ev hx;rw[iu,iu];exact this
 ·rename_i g' f c hx;cases h;have:=hr.ev hx;rw[iu,oz];exact this
 ·cases h
theorem jx.Lk (hc:jx F H) {x:Operand} (h:Proofs.YtlifeokjcgngjaaGreat.Lk F x=some (g,first,cap)):(∀ v∈first,∀ i∈v.ids,H i≠none)/\∀ v∈cap,∀ i∈v.ids,H i≠none:=by
 have hm:∀ l:List Value,∀ v∈l.map AV.val,∀ i∈v.ids,H i≠none:=λl v hv i hi=>by
  obtain⟨u,_,rfl⟩:=ey.1 hv;cases hi
 unfold Proofs.YtlifeokjcgngjaaGreat.Lk at h
 split at h
 ·cases h;exact⟨hm _,hm _⟩
 ·rename_i g' f c hx;cases h;refine⟨hm _,λv hv i hi=> ?_⟩;obtain⟨p,hp,rfl⟩:=ey.1 hv;have:=hc.ev hx i;refine this ?_;rw[ak.1 hi];exact ey.2 ⟨p,hp,aa⟩
 ·cases h
theorem Hp.oO:∀ {ups:List (Nat×(TypeId×List AV))} {H:Hp} {i:Nat},(ups.map (·.1)).Nodup->(i∉ups.map (·.1)->(H.gS ups) i=H i)/\∀ c,(i,c)∈ups->(H.gS ups) i=some c
 | [],H,i,_=>⟨λ_=>rfl,λc h=>by cases h⟩
 | x::r,H,i,hn=>by
   rw[mf,List.nodup_cons] at hn;obtain⟨h1,h2⟩:=Hp.oO (ups:=r) (H:=H.put x.1 x.2) (i:=i) hn.2;refine⟨λhi=> ?_,λc hc=> ?_⟩
   ·rw[mf,dG,not_or] at hi;show ((H.put x.1 x.2).gS r) i=_;rw[h1 hi.2,Hp.du,if_neg hi.1]
   ·rcases dG.1 hc with e|e
    ·show ((H.put x.1 x.2).gS r) i=_;rw[<-e] at hn ⊢;rw[(Hp.oO (ups:=r) (H:=H.put i c) (i:=i) hn.2).1 hn.1,Hp.du,if_pos rfl]
    ·exact h2 c e
variable {ups:List (Nat×(TypeId×List AV))}
theorem Hp.jz (hn:(ups.map (·.1)).Nodup) (i:Nat):(∃ c,(i,c)∈ups/\(H.gS ups) i=some c)\/(i∉ups.map (·.1)/\(H.gS ups) i=H i):=by
 by_cases hm:i∈ups.map (·.1)
 ·obtain⟨x,hx,rfl⟩:=ey.1 hm;exact .inl ⟨x.2,hx,(Hp.oO hn).2 x.2 hx⟩
 ·exact .inr ⟨hm,(Hp.oO hn).1 hm⟩
variable {i:Nat}
theorem tf (h:(ups.map (·.1)).Nodup) (hi:i∈ups.map (·.1)):(H.gS ups) i≠none:=by
 obtain⟨x,hx,rfl⟩:=ey.1 hi;rw[(Hp.oO (H:=H) (i:=x.1) h).2 x.2 hx];simp
theorem kF (h:(ups.map (·.1)).Nodup) (hi:H i≠none):(H.gS ups) i≠none:=by
 rcases Hp.jz (H:=H) h i with ⟨c,_,e⟩|⟨_,e⟩
 ·rw[e];simp
 ·rw[e];exact hi
def xx (ρ:AV->Value) (β:Nat->Nat):Prop:=∀ x,bm x=true->ρ x=x.leaf β
def Pv (β:Nat->Nat) (x:AV):Value:=if bm x=true then x.leaf β else .bool false
theorem Pw (β:Nat->Nat):xx (Pv β) β:=λx hx=>if_pos hx
theorem uH (β:Nat->Nat) (x:AV):aO (Pv β x)=true:=by
 unfold Pv
 split
 ·rename_i h;exact qX h
 ·rfl
variable {x:AV}
theorem lids_ok (h:i∈x.gM):bm x=true\/False:=by
 cases x <;> first|exact .inl aa|cases h
theorem Gs:x.gM.any (Nat.beq i)=true↔i∈x.gM:=by
 rw[List.any_eq_true];exact⟨λ⟨y,hy,e⟩=>(lW e)▸hy,λh=>⟨i,h,cf⟩⟩
variable {ρ:AV->Value}
theorem Gt (fo:xx ρ β) (i:Nat) (x:AV):(x.tS i ρ).leaf β=x.leaf β:=by
 unfold AV.tS;cases hb:x.gM.any (Nat.beq i) with
 | false=>rfl
 | true=>
   have:=(lids_ok (Gs.1 hb)).resolve_right id;exact fo x this
variable {j:Nat}
theorem Gu (h:j∈(x.tS i ρ).gM):j∈x.gM/\i∉x.gM:=by
 unfold AV.tS at h;cases hb:x.gM.any (Nat.beq i) with
 | false=>
   rw[hb] at h;exact⟨h,λe=>by rw[Gs.2 e] at hb;cases hb⟩
 | true=>rw[hb] at h;cases h
theorem fgl_ok (fo:∀ x,aO (ρ x)=true) (h:bm x=true):bm (x.tS i ρ)=true:=by
 unfold AV.tS;cases x.gM.any (Nat.beq i) with
 | false=>exact h
 | true=>exact fo x
theorem vT (fo:xx ρ β) (i:Nat) (l:List AV):(l.map (AV.tS i ρ)).map (AV.leaf β)=l.map (AV.leaf β):=by
 rw[oz];exact mW λx _=>Gt fo i x
variable {l:List AV}
theorem vU (h:j∈bj (l.map (AV.tS i ρ))):j∈bj l/\j≠i:=by
 obtain⟨y,hy,hj⟩:=bZ.1 h;obtain⟨x,hx,rfl⟩:=ey.1 hy;obtain⟨h1,h2⟩:=Gu hj;exact⟨bZ.2 ⟨x,hx,h1⟩,λe=>h2 (e▸h1)⟩
theorem uI (hx:mn x=true) (h:j∈(x.tS i ρ).ids):j∈x.ids/\j≠i:=by
 have e:(x.tS i ρ).ids=(x.tS i ρ).gM:=by
  unfold AV.tS;cases x.gM.any (Nat.beq i)
  ·exact (sY hx).symm
  ·rfl
 rw[e] at h;obtain⟨h1,h2⟩:=Gu h;exact⟨sY hx▸h1,λe=>h2 (e▸h1)⟩
theorem rk (fo:xx ρ β) (i:Nat) (hx:mn x=true):(x.tS i ρ).bu β=x.bu β:=by
 rw[<-rf hx,<-Gt fo i x]
 symm
 refine rf ?_;unfold AV.tS;cases x.gM.any (Nat.beq i) <;> first|exact hx|rfl
theorem Jn (hx:mn x=true):gT (x.tS i ρ)=true:=by
 unfold AV.tS;cases x.gM.any (Nat.beq i) with
 | false=>cases x <;> first|rfl|cases hx
 | true=>rfl
theorem Px (fo:xx ρ β) (i:Nat) (x:AV):(x.fg1 i ρ).lB β=x.lB β:=by
 have key:∀ y:AV,mn y=true->(y.tS i ρ).lB β=y.lB β:=λy hy=>by
  rw[rh (Jn hy),rh (by cases y <;> first|rfl|cases hy),rk fo i hy]
 cases x with
 | agg l=>show Value.agg ((l.map _).map _).toArray=_;rw[vT fo];rfl
 | mj l=>rfl
 | val v=>rfl
 | box j o=>exact key _ aa
 | nV j o=>exact key _ aa
 | row j o n c=>exact key _ aa
 | fn g f c=>exact key _ aa
theorem fg_conc (fo:xx ρ β) (i:Nat) (x:AV):(x.fg i ρ).bu β=x.bu β:=by
 cases x with
 | agg l=>show Value.agg ((l.map _).map _).toArray=_;rw[vT fo];rfl
 | mj l=>
   show Value.tuple ((l.map _).map _).toArray=Value.tuple (l.map _).toArray;rw[oz]
   congr 2
   exact mW λy _=>Px fo i y
 | val v=>rfl
 | box j o=>exact rk fo i aa
 | nV j o=>exact rk fo i aa
 | row j o n c=>exact rk fo i aa
 | fn g f c=>exact rk fo i aa
theorem fg1_ids (h:j∈(x.fg1 i ρ).vJ):j∈x.vJ/\j≠i:=by
 have key:∀ y:AV,mn y=true->j∈(y.tS i ρ).vJ->j∈y.vJ/\j≠i:=λy hy h=>by
  have e1:(y.tS i ρ).vJ=(y.tS i ρ).ids:=sZ (by unfold AV.tS;cases y.gM.any (Nat.beq i) <;> first|rfl|(cases y <;> first|rfl|cases hy));have e2:y.vJ=y.ids:=sZ (by cases y <;> first|rfl|cases hy);rw[e2];exact uI hy (e1▸h)
 cases x with
 | agg l=>exact vU h
 | mj l=>cases h
 | val v=>cases h
 | box j o=>exact key _ aa h
 | nV j o=>exact key _ aa h
 | row j o n c=>exact key _ aa h
 | fn g f c=>exact key _ aa h
theorem fg_ids (h:j∈(x.fg i ρ).ids):j∈x.ids/\j≠i:=by
 cases x with
 | agg l=>exact vU h
 | mj l=>
   obtain⟨y,hy,hj⟩:=pP.1 h;obtain⟨z,hz,rfl⟩:=ey.1 hy;obtain⟨h1,h2⟩:=fg1_ids hj;exact⟨pP.2 ⟨z,hz,h1⟩,h2⟩
 | val v=>cases h
 | box j o=>exact uI aa h
 | nV j o=>exact uI aa h
 | row j o n c=>exact uI aa h
 | fn g f c=>exact uI aa h
variable {del:Option Nat}
theorem Hp.fW (h:(H.forget del ρ) i=some (t,cs)):del≠some i/\∃ cs0,H i=some (t,cs0)/\(xx ρ β->cs.map (AV.leaf β)=cs0.map (AV.leaf β))/\
  ((∀ x,aO (ρ x)=true)->cs0.all bm=true->cs.all bm=true)/\∀ j∈bj cs,j∈bj cs0/\del≠some j:=by
 cases del with
 | none=>exact⟨cf,cs,h,λ_=>aa,λ_ h=>h,λj hj=>⟨hj,cf⟩⟩
 | some d=>
   unfold Hp.forget at h;simp only at h;cases hb:Nat.beq i d with
   | true=>rw[hb] at h;cases h
   | false=>
     rw[hb,cond_false] at h
     split at h
     ·rename_i t' cs0 h0;cases h;refine⟨λe=> ?_,cs0,h0,λfo=>vT fo d cs0,λhc h1=>bP.2 λx hx=> ?_,λj hj=> ?_⟩
      ·cases e;rw[Nat.beq_refl] at hb;cases hb
      ·obtain⟨y,hy,rfl⟩:=ey.1 hx;exact fgl_ok hc (bP.1 h1 y hy)
      ·obtain⟨h1,h2⟩:=vU hj;exact⟨h1,λe=>h2 (by cases e;rfl)⟩
     ·cases h
theorem Hp.kG (h:H i≠none) (hd:del≠some i):(H.forget del ρ) i≠none:=by
 cases del with
 | none=>exact h
 | some d=>
   unfold Hp.forget;simp only;have:Nat.beq i d=false:=by rw[<-Fl,Nat.beq_eq];exact λe=>hd (by rw[e])
   rw[this,cond_false];cases hh:H i with
   | none=>exact absurd hh h
   | some c=>simp
theorem Hp.Gv (h:H i=none):(H.forget del ρ) i=none:=by
 cases del with
 | none=>exact h
 | some d=>
   unfold Hp.forget;simp only;cases Nat.beq i d with
   | true=>rfl
   | false=>rw[cond_false,h]
theorem Fr.fW {d:Nat} (h:(F.forget del ρ) d=some v):∃ u,F d=some u/\(xx ρ β->v.bu β=u.bu β)/\∀ i∈v.ids,i∈u.ids/\del≠some i:=by
 cases del with
 | none=>exact⟨v,h,λ_=>aa,λi hi=>⟨hi,cf⟩⟩
 | some e=>
   unfold Fr.forget at h;simp only at h
   split at h
   ·rename_i u hu;cases h;refine⟨u,hu,λfo=>fg_conc fo e u,λi hi=> ?_⟩;obtain⟨h1,h2⟩:=fg_ids hi;exact⟨h1,λq=>h2 (by cases q;rfl)⟩
   ·cases h
theorem Rel.Gw (hr:Rel C β F H a w) (ids:List Nat):qx C β H ids w:=
 ⟨λi _ t cs h=>hr.own i t cs h,λi j _ _ h1 h2 e=>hr.apart i j h1 h2 e⟩
variable {C:Cx} {β:Nat->Nat} {w:World}
theorem MP (h:oL C β w i t cs) {p:Addr} {x:Int} (hp:p.block=β i) (hx:w.cell? p=some (.int .u32 x)):False:=by
 simp only[World.cell?,hp,show w.heap[β i]? =_ from h.cls] at hx;simp at hx;have hm:Value.int .u32 x∈cs.map (AV.leaf β):=dc (i:=p.off) (by simpa using hx.2);have:=bP.1 (fx (β:=β) h.ok) _ hm;cases this
theorem zC (h:oL C β w i t cs) {t':TypeId} {cur:Array Value} (hf:C.K.fz t'=true) (hx:w.heap[β i]? =some (Obj.cells cur t' (0,0))):False:=by
 have:=(show w.heap[_]? =_ from h.cls).symm.trans hx;simp at this;rw[<-this.2,h.ty] at hf;cases hf
variable {bM:Nat->Nat}
theorem DR.was {ids:List Nat} (h:DR C β bM H ids del ups w w') (ho:qx C β H ids w) {b:Nat} (hb:b<w.heap.size) (hx:(∃ x∈ups,b=bM x.1)\/∃ i,del=some i/\b=β i):∃ i t cs,b=β i/\oL C β w i t cs:=by
 have key:∀ i,Reach H ids i->H i≠none->b=β i->∃ i t cs,b=β i/\oL C β w i t cs:=λi hi hn e=>by
  cases hh:H i with
  | none=>exact absurd hh hn
  | some c=>exact⟨i,c.1,c.2,e,ho.own i hi c.1 c.2 hh⟩
 rcases hx with ⟨x,hx,e⟩|⟨i,hi,e⟩
 ·rcases h.orig x hx with ⟨h1,h2,h3,h4⟩|⟨_,_,h3|⟨i,hi,h3⟩⟩
  ·exact key x.1 h3 h1 (e.trans h4)
  ·omega
  ·obtain⟨g1,g2⟩:=h.gone i hi;exact key i g1 g2 (e.trans h3)
 ·obtain⟨g1,g2⟩:=h.gone i hi;exact key i g1 g2 e
theorem DR.kp {ids:List Nat} (h:DR C β bM H ids del ups w w') (ho:qx C β H ids w):aK C.K w w':=by
 have key:∀ b,b<w.heap.size->C.K.S b->w'.heap[b]? =w.heap[b]?\/∃ i t cs,b=β i/\oL C β w i t cs:=λb hb hs=>by
  by_cases hx:(∃ x∈ups,b=bM x.1)\/∃ i,del=some i/\b=β i
  ·exact .inr (h.was ho hb hx)
  ·exact .inl (h.block b hb (λx yu e=>hx (.inl ⟨x,yu,e⟩)) (λi hi e=>hx (.inr ⟨i,hi,e⟩)) (.inl hs))
 refine⟨h.size,λa x hs hx=> ?_,λt' g cur hf hs hg=> ?_,λg es c hg=> ?_⟩
 ·rcases key a.block (gP w a hx) hs with e|⟨i,t,cs,h1,h2⟩
  ·rw[BP (w:=w) e];exact hx
  ·exact (MP h2 h1 hx).elim
 ·rcases key g (gh.1 hg).1 hs with e|⟨i,t,cs,h1,h2⟩
  ·rw[e];exact hg
  ·exact (zC h2 hf (h1▸hg)).elim
 ·have hlt:=(gh.1 hg).1
  have no:∀ i t cs,g=β i->oL C β w i t cs->False:=λi t cs e o=>by
   have:=(show w.heap[_]? =_ from o.cls).symm.trans (e▸hg);simp at this
  refine (h.block g hlt (λx hx e=> ?_) (λi hi e=> ?_) (.inr λt cur _ e=>by rw[hg] at e;cases e)).trans hg
  ·obtain⟨i,t,cs,e1,e2⟩:=h.was ho hlt (.inl ⟨x,hx,e⟩);exact no i t cs e1 e2
  ·obtain⟨i,t,cs,e1,e2⟩:=h.was ho hlt (.inr ⟨i,hi,e⟩);exact no i t cs e1 e2
theorem DR.old {ids:List Nat} (h:DR C β bM H ids del ups w w') (ho:qx C β H ids w) (hb:C.Old w):C.Old w':=
 C.uD _ _ hb C.keep (h.kp ho) ⟨h.os,h.tape,h.output,h.size,λg hg=>by
   have up:∀ x∈ups,g=bM x.1->w'.heap[g]? =w.heap[g]?\/((∃ i,C.zu i g)/\∃ t cs,aQ w' g t (List.toArray cs)/\C.K.fz t=false/\cs.all aO=true)\/¬ C.K.S g:=λx hx e=>by
    obtain⟨g1,g2,g3,g4⟩:=h.own x hx;exact .inr (.inl ⟨⟨x.1,e▸g1⟩,x.2.1,_,e▸g3,g2,fx g4⟩)
   by_cases h1:∃ x∈ups,g=bM x.1
   ·obtain⟨x,hx,e⟩:=h1;exact up x hx e
   ·by_cases h2:∃ i,del=some i/\g=β i
    ·obtain⟨i,hi,e⟩:=h2;rcases h.left i hi with (e' |⟨t,cs,e1,e2,e3⟩)|⟨x,hx,e'⟩
     ·exact .inl (by rw[e];exact e')
     ·obtain⟨g1,g2⟩:=h.gone i hi;cases hh:H i with
      | none=>exact absurd hh g2
      | some c=>exact .inr (.inl ⟨⟨i,e▸(ho.own i g1 c.1 c.2 hh).new⟩,t,cs,e▸e1,e2,e3⟩)
     ·exact up x hx (e.trans e'.symm)
    ·by_cases h3:C.K.S g
     ·exact .inl (h.block g hg (λx hx e=>h1 ⟨x,hx,e⟩) (λi hi e=>h2 ⟨i,hi,e⟩) (.inl h3))
     ·exact .inr (.inr h3)⟩
theorem DR.same {ids:List Nat} (h:DR C β bM H ids del ups w w') (h1:H j≠none) (h2:del≠some j):bM j=β j:=by
 by_cases hm:j∈ups.map (·.1)
 ·obtain⟨x,hx,rfl⟩:=ey.1 hm;rcases h.orig x hx with ⟨_,_,_,e⟩|⟨e|e,_⟩
  ·exact e
  ·exact absurd e h1
  ·exact absurd e h2
 ·exact h.agree j hm
theorem DR.hp {ids:List Nat} (h:DR C β bM H ids del ups w w') (mO:Gg C H) (fo:∀ x,aO (ρ x)=true):Gg C ((H.forget del ρ).gS ups):=by
 refine⟨λi t cs hi=> ?_,λi t cs hi j hj=> ?_,λi hi=> ?_⟩
 ·rcases Hp.jz (H:=H.forget del ρ) h.once i with ⟨c,hc,e⟩|⟨_,e⟩
  ·rw[e] at hi;cases hi;have:=h.own _ hc;exact⟨this.ty,this.ok⟩
  ·rw[e] at hi;obtain⟨_,cs0,h0,_,h2,_⟩:=Hp.fW (β:=β) hi;obtain⟨g1,g2⟩:=mO.ok i t cs0 h0;exact⟨g1,h2 fo g2⟩
 ·have key:j∈ups.map (·.1)\/(H j≠none/\del≠some j):=by
   rcases Hp.jz (H:=H.forget del ρ) h.once i with ⟨c,hc,e⟩|⟨_,e⟩
   ·rw[e] at hi;cases hi;exact h.closed _ hc j hj
   ·rw[e] at hi;obtain⟨_,cs0,h0,_,_,h3⟩:=Hp.fW (β:=β) hi;obtain⟨g1,g2⟩:=h3 j hj;exact .inr ⟨mO.closed i t cs0 h0 j g1,g2⟩
  rcases key with e|⟨e1,e2⟩
  ·exact tf h.once e
  ·exact kF h.once (Hp.kG e1 e2)
 ·rcases Hp.jz (H:=H.forget del ρ) h.once i with ⟨c,hc,e⟩|⟨_,e⟩
  ·rcases h.orig _ hc with ⟨h1,_⟩|⟨_,h2,_⟩
   ·exact absurd (mO.few i hi) h1
   ·simp only at h2;have:=C.Pm;omega
  ·rw[e,Hp.Gv (mO.few i hi)]
theorem Rel.changed (hr:Rel C β F H a w) {ids:List Nat} (h:DR C β bM H ids del ups w w'):Rel C bM (F.forget del (Pv β)) ((H.forget del (Pv β)).gS ups) a w':=by
 have ho:=hr.Gw ids
 have lt:∀ i,H i≠none->β i<w.heap.size:=λi hi=>by
  cases hh:H i with
  | none=>exact absurd hh hi
  | some x=>exact (hr.own i x.1 x.2 hh).cls.lt
 have away:∀ i,H i≠none->del≠some i->i∉ups.map (·.1)->∀ x∈ups,β i≠bM x.1:=λi hi hd hn x hx e=>by
  rcases h.orig x hx with ⟨h1,h2,_,h4⟩|⟨_,_,h3|⟨d,Og,h3⟩⟩
  ·exact hn (by rw[hr.apart i x.1 hi h1 (e.trans h4)];exact ey.2 ⟨x,hx,aa⟩)
  ·have:=lt i hi;omega
  ·exact hd (by rw[hr.apart i d hi (h.gone d Og).2 (e.trans h3)];exact Og)
 have at_:∀ i t cs,((H.forget del (Pv β)).gS ups) i=some (t,cs)->((i,(t,cs))∈ups)\/(i∉ups.map (·.1)/\del≠some i/\∃ cs0,H i=some (t,cs0)/\cs.map (AV.leaf β)=cs0.map (AV.leaf β)/\cs.all bm=true/\∀ j∈bj cs,j∈bj cs0/\del≠some j):=λi t cs hi=>by
  rcases Hp.jz (H:=H.forget del (Pv β)) h.once i with ⟨c,hc,e⟩|⟨hn,e⟩
  ·rw[e] at hi;cases hi;exact .inl hc
  ·rw[e] at hi;obtain⟨h1,cs0,h0,h2,h3,h4⟩:=Hp.fW (β:=β) hi;exact .inr ⟨hn,h1,cs0,h0,h2 (Pw β),h3 (uH β) (hr.own i t cs0 h0).ok,h4⟩
 refine⟨hr.defers,hr.size,λd v hv=> ?_,λi t cs hi=> ?_,λi j hi hj e=> ?_,λd v hv i hi=> ?_,λd v hv=> ?_,h.hp hr.hp (uH β),h.old ho hr.old⟩
 ·obtain⟨u,hu,h1,h2⟩:=Fr.fW (β:=β) hv;rw[hr.tmp d u hu,<-h1 (Pw β)];exact (AV.zp λi hi=>h.same (hr.closed d u hu i (h2 i hi).1) (h2 i hi).2).symm
 ·rcases at_ i t cs hi with e|⟨hn,hd,cs0,h0,h1,h2,h3⟩
  ·exact h.own _ e
  ·have hs:H i≠none:=by rw[h0];simp
   obtain⟨g1,g2,g3,g4⟩:=hr.own i t cs0 h0;refine⟨by rw[h.same hs hd];exact g1,g2,?_,h2⟩;rw[h.same hs hd,kD (l:=cs) (β:=β) (λj hj=>h.same (hr.hp.closed i t cs0 h0 j (h3 j hj).1) (h3 j hj).2),h1];exact (h.block (β i) g3.lt (away i hs hd hn) (λd Og e=>hd (by rw[hr.apart i d hs (h.gone d Og).2 e];exact Og)) (.inr λt' cur hf hc=>zC ⟨g1,g2,g3,g4⟩ hf hc)).trans g3
 ·have Py:∀ i,((H.forget del (Pv β)).gS ups) i≠none->(∃ c,(i,c)∈ups)\/(i∉ups.map (·.1)/\del≠some i/\H i≠none):=λi hi=>by
   cases hh:((H.forget del (Pv β)).gS ups) i with
   | none=>exact absurd hh hi
   | some c=>
     rcases at_ i c.1 c.2 hh with e|⟨hn,hd,cs0,h0,_⟩
     ·exact .inl ⟨c,e⟩
     ·exact .inr ⟨hn,hd,by rw[h0];simp⟩
  rcases Py i hi with ⟨c,hc⟩|⟨n1,d1,s1⟩ <;> rcases Py j hj with ⟨c',hc'⟩|⟨n2,d2,s2⟩
  ·exact h.apart _ hc _ hc' e
  ·rw[h.same s2 d2] at e;exact absurd e.symm (away j s2 d2 n2 _ hc)
  ·rw[h.same s1 d1] at e;exact absurd e (away i s1 d1 n1 _ hc')
  ·rw[h.same s1 d1,h.same s2 d2] at e;exact hr.apart i j s1 s2 e
 ·obtain⟨u,hu,_,h2⟩:=Fr.fW (β:=β) hv;obtain⟨g1,g2⟩:=h2 i hi;exact kF h.once (Hp.kG (hr.closed d u hu i g1) g2)
 ·obtain⟨u,hu,_⟩:=Fr.fW (β:=β) hv;exact hr.fits d u hu
theorem DV (h:xQ P g) (args:Array Value) (w:World):(callFunc g args).run P w=.ok (.enter g args) w:=by
 obtain⟨fn,h1,h2,h3⟩:=h;have h2':fn.name≠"runtime.NumGoroutine":=by simpa using h2
 have h3':fn.body≠none:=λe=>by simp[e] at h3
 simp[callFunc,h1,h2',h3']
theorem gW (h:stepOf C full F H o≠.bad):lC C.N o.dst=true/\((wants full F o=some false/\stepOf C full F H o=.eZ (.val undef) none)\/(wants full F o=some true/\stepOf C full F H o=act C F H o)):=by
 unfold stepOf at h ⊢;cases hd:lC C.N o.dst with
 | false=>rw[hd] at h;exact absurd aa h
 | true=>
   refine⟨aa,?_⟩;rw[hd] at h;cases hw:wants full F o with
   | none=>rw[hw] at h;exact absurd aa h
   | some b=>cases b <;> simp
variable {next:Act->World->Prop}
theorem Oper.rn {v:Value} (h:(execOp a.eval o).run P w=.ok (.value v) w') (hn:next (a.put o.dst v) w'):o.wp P a w next Q:=by
 unfold Oper.wp;rw[h];exact hn
theorem Oper.wp_skip (h:(execOp a.eval o).run P w=.ok .skip w') (hn:next (a.put o.dst undef) w'):o.wp P a w next Q:=by
 unfold Oper.wp;rw[h];exact hn
theorem Oper.Pz {args:Array Value} (h:(execOp a.eval o).run P w=.ok (.enter g args) w) (hn:Calls P g args w λe w2=>∃ v,e=.returned v/\next (a.put o.dst v) w2):o.wp P a w next Q:=by
 unfold Oper.wp;rw[h];refine Calls.mono hn ?_;rintro e w2 ⟨v,rfl,hv⟩;exact hv
theorem zD (h:∀ v∈l,∀ i∈v.ids,H i≠none):∀ i∈oJ l,H i≠none:=λi hi=>by
 obtain⟨v,hv,hi⟩:=Bf.1 hi;exact h v hv i hi
theorem Gx (hc:jx F H) (h:act C F H o=.call d):∀ i∈d.ids,H i≠none:=by
 rcases zA h with ⟨c,f,g,first,l,cap,hop,cZ,hf,hl,rfl⟩|⟨vs,hv,rfl,_⟩
 ·refine zD λv hv=> ?_;obtain⟨f1,f2⟩:=hc.Lk hf;rcases lp.1 hv with e|e
  ·exact f1 v e
  ·rcases lp.1 e with e|e
   ·exact hc.xr hl v e
   ·exact f2 v e
 ·exact zD λv hv'=>hc.xr hv v hv'
theorem DW (hr:Rel C β F H a w) (h:act C F H o=.call d) (hd:zw C.P d β w λe w2=>∃ v,e=.returned v/\next (a.put o.dst v) w2):o.wp C.P a w next Q:=by
 rcases zA h with ⟨c,f,g,first,l,cap,hop,cZ,hf,hl,rfl⟩|⟨vs,hv,rfl,_⟩
 ·obtain⟨h1,h2⟩:=hd;have IW:=hr.xr hl;refine Oper.Pz (g:=g) (args:=((first++(l++cap)).map (AV.bu β)).toArray) ?_ h2
  have e1:(c.args.map a.eval)=(l.map (AV.bu β)).toArray:=by
   apply ot.1;rw[ou,IW]
  have e2:(first.map (AV.bu β)).toArray++(l.map (AV.bu β)).toArray++(cap.map (AV.bu β)).toArray=((first++(l++cap)).map (AV.bu β)).toArray:=by
   apply ot.1;simp
  unfold execOp;rw[hop];simp only[resolve,cZ,hr.Lk hf,e1,Deferred.ofValue,invoke,Sem.run_bind,Sem.run_pure,Result.andThen_ok];rw[e2,DV h1]
 ·obtain⟨v,w2,h1,v',he,h2⟩:=hd;cases he;rcases h1 a.eval (hr.xr hv) with e|⟨e,rfl⟩
  ·exact Oper.rn e h2
  ·exact Oper.wp_skip e h2
theorem zw.mono {R R':Ending->World->Prop} (h:zw P d β w R) (hR:∀ e w2,R e w2->R' e w2):zw P d β w R':=by
 cases d with
 | fn g args=>exact⟨h.1,Calls.mono h.2 hR⟩
 | op o vs=>
   obtain⟨v,w2,h1,h2⟩:=h;exact⟨v,w2,h1,hR _ _ h2⟩
theorem oP (hC:C.Ok) {k:Fr->Hp->World->Prop} {m:Option (List FuncId)} (h:one C m full o k F H w) (hr:Rel C β F H a w') (hk:aK C.K w w')
  (hn:∀ β F' H' w1 a' bI,k F' H' w1->Rel C β F' H' a' bI->aK C.K w1 bI->next a' bI):
  if Region.wanted o (yielded full a.tmps)=true then Oper.wp C.P o a w' next Q else next (a.put o.dst undef) w':=by
 have hb:stepOf C full F H o≠.bad:=λe=>by unfold one at h;rw[e] at h;exact h
 obtain⟨hd,⟨hw,hs⟩|⟨hw,hs⟩⟩:=gW hb
 ·rw[ny hr hw,if_neg cf];unfold one at h;rw[hs] at h;exact hn β _ _ w _ w' h (hr.put hd (v:=.val undef) (λ_ hi=>by cases hi)) hk
 ·rw[ny hr hw,if_pos rfl];unfold one at h;rw[hs] at h;cases hst:act C F H o with
  | bad=>rw[hst] at h;exact h.elim
  | eZ v u=>
    rw[hst] at h;obtain⟨bM,w2,k2,r2,e⟩:=Ln hC hst hd hr;have:=hn bM _ _ w _ w2 h r2 (hk.aG k2);rcases e with e|⟨e,hu⟩
    ·exact Oper.rn e this
    ·rw[hu] at this;exact Oper.wp_skip e this
  | cond φ v u=>
    rw[hst] at h;obtain⟨bM,w2,k2,r2,e⟩:=Gr hC hst h.1 hd hr;have:=hn bM _ _ w _ w2 h.2 r2 (hk.aG k2);rcases e with e|⟨e,hu⟩
    ·exact Oper.rn e this
    ·rw[hu] at this;exact Oper.wp_skip e this
  | read i x=>
    rw[hst] at h;obtain⟨cs,h1,h2,h3⟩:=h;obtain⟨t,y,hop,hi,hy⟩:=Pt hst
    have e:=iW (hC t i hi) x cs h1 w' (by
     rcases h2 with h2|⟨_,h2⟩
     ·exact λj u hj=>h2 j u hj _ hr.old
     ·exact h2 w' hk hr.old)
    refine Oper.rn (v:=nW i cs) (w':=w') ?_ (hn β _ _ w _ w' h3 (hr.put hd (v:=.val (nW i cs)) (λ_ hi=>by cases hi)) hk);have he:a.eval y=.pointer (some x):=hr.ev hy;simp[execOp,hop,he,Instr.loadAt,Instr.sureAddr,e]
  | fN i cs off=>
    rw[hst] at h;obtain⟨vs,h1,h2,h3⟩:=h;obtain⟨t,y,b,tb,hop,hi,hy,hb⟩:=Gq hst
    have PA:∀ x∈vs,x∈cs:=λx hx=>by
     obtain⟨j,hj⟩:=sE hx;exact dc (h2 j x hj)
    have mO:vs.all bm=true:=bP.2 λx hx=>bP.1 (hr.own b tb cs hb).ok x (PA x hx);have e:=iW (hC t i hi) ⟨β b,off,none⟩ (vs.map (AV.leaf β)) (by rw[aM,h1]) w' (vR hr hb h2);refine Oper.rn (v:=(oK i vs).bu β) (w':=w') ?_ (hn β _ _ w _ w' h3 (hr.put hd (λj hj=> ?_)) hk)
    ·have he:a.eval y=.pointer (some ⟨β b,off,none⟩):=hr.ev hy;rw[ta (hC t i hi) h1 mO];simp[execOp,hop,he,Instr.loadAt,Instr.sureAddr,e]
    ·obtain⟨x,hx,hj'⟩:=bZ.1 (vO mO hj);exact hr.hp.closed b tb cs hb j (bZ.2 ⟨x,PA x hx,hj'⟩)
  | call d=>
    rw[hst] at h;refine DW hr hst ((h w' β hk hr.old (hr.Gw _)).mono ?_);rintro e w2 ⟨bM,r,del,ups,rfl,FP,_,_,hch,hv⟩;have ho:=hr.Gw d.ids;have o2:=hch.old ho hr.old;have k2:=hch.kp ho;have sn:=hr.changed hch;refine⟨_,aa,hn bM _ _ w2 _ w2 (hv (hk.aG k2) k2 o2 (Pv β) (uH β)) (sn.put hd (λi hi=> ?_)) (aK.refl _ _)⟩;rcases FP i hi with e|⟨_,e1,e2⟩
    ·exact tf hch.once e
    ·exact kF hch.once (Hp.kG e1 e2)
theorem zE (hC:C.Ok) {m:Option (List FuncId)} {K:Fr->Hp->World->Prop} (hQ:∀ β F H w a w',K F H w->Rel C β F H a w'->aK C.K w w'->Q .normal a w'):
  ∀ (l:List Oper) (β:Nat->Nat) (F:Fr) (H:Hp) (w:World) (a:Act) (w':World),aE C m full l K F H w->Rel C β F H a w'->aK C.K w w'->wpList C.P full Q l a w'
 | [],β,F,H,w,a,w',h,hr,hk=>hQ β F H w a w' h hr hk
 | o::r,β,F,H,w,a,w',h,hr,hk=>by
   refine wpList_step λK' hK'=> ?_;exact oP hC (k:=aE C m full r K) h hr hk λβ F' H' w1 a' bI h1 h2 h3=>hK' _ _ (zE hC hQ r β F' H' w1 a' bI h1 h2 h3)
end
def xy (p o:Nat):Bool:=bif Nat.beq p 5 || Nat.beq o 5 then false else Nat.beq p 0 || Nat.beq o 0 || (Nat.ble p 2 && Nat.ble o 2) || (Nat.beq p 4 && Nat.ble o 2) || (Nat.ble p 2 && Nat.beq o 4)
def DX (o:Oper):Bool:=match o.op,o.guard with
 | .move (.tmp _),none=>true
 | _,_=>false
def indep (su:TypeId->Bool) (l:List FuncId) (full:Array Oper) (p o:Oper):Bool:=p.apart full o && (xy (aI su l p) (aI su l o) || DX p)
def ez (full:Array Oper) (j:Nat):List Nat:=match full[j]? with
 | none=>[]
 | some o=>(o.after.toList.filter (Region.binds .any)).map (·.on)
def reach (full:Array Oper):Nat->Nat->Nat->Bool
 | 0,j,i=>(ez full j).contains i
 | f+1,j,i=>(ez full j).contains i || (ez full j).any λd=>Nat.blt i d && reach full f d i
def oQ (su:TypeId->Bool) (l:List FuncId) (full:Array Oper) (i j:Nat):Bool:=
 (match full[i]?,full[j]? with|some p,some o=>indep su l full p o|_,_=>true) || reach full full.size j i
def mv (su:TypeId->Bool) (l:List FuncId) (full:Array Oper):Bool:=(List.range full.size).all λj=>(ez full j).all (λd=>Nat.blt d j) && (List.range j).all λi=>oQ su l full i j
section
variable {C:Cx} {F:Fr} {H:Hp} {w:World} {full:Array Oper} {p o:Oper} {ml:List FuncId}
variable {y:Operand}
theorem ko {t:Tmp} (hy:y∈o.op.operands.toList) (h:y=.tmp t):t∈o.looksAt full:=by
 unfold Oper.looksAt;refine lp.2 (.inl ?_);exact List.mem_filterMap.2 ⟨y,hy,by rw[h]⟩
variable {F F':Fr}
theorem zF (h:∀ t,y=.tmp t->F' t=F t):ev F' y=ev F y:=by
 cases y with
 | tmp t=>exact h t aa
 | const v=>rfl
 | func f=>rfl
 | global g=>rfl
theorem gv (h:ev F' y=ev F y):jW F' y=jW F y:=by unfold jW;rw[h]
theorem vV {F F':Fr}:∀ {l:List Operand},(∀ y∈l,ev F' y=ev F y)->evs F' l=evs F l
 | [],_=>rfl
 | x::r,h=>by unfold evs;rw[gv (h x cf),vV (l:=r) (λy hy=>h y (by simp[hy]))]
theorem rV {F F':Fr}:∀ {l:List Operand},(∀ y∈l,ev F' y=ev F y)->xr F' l=xr F l
 | [],_=>rfl
 | x::r,h=>by unfold xr;rw[h x cf,rV (l:=r) (λy hy=>h y (by simp[hy]))]
theorem MQ (h:ev F' y=ev F y):Lk F' y=Lk F y:=by unfold Lk;rw[h]
theorem vW {F F':Fr}:∀ {l:List (Nat×Operand)},(∀ y∈l,ev F' y.2=ev F y.2)->DN F' l=DN F l
 | [],_=>rfl
 | (k,x)::r,h=>by unfold DN;rw[h (k,x) cf,vW (l:=r) (λy hy=>h y (by simp[hy]))]
theorem CL:∀ {x:Option Operand},(∀ y∈x.toArray.toList,ev F' y=ev F y)->evo F' x=evo F x
 | none,_=>rfl
 | some x,h=>by
   show (match jW F' x with|some (.int _ k)=>some (some k)|_=>none)=match jW F x with|some (.int _ k)=>some (some k)|_=>none
   rw[gv (h x cf)]
theorem Jo (h:∀ y∈o.op.operands.toList,ev F' y=ev F y):re F' o=re F o:=by
 unfold re;rw[rV h]
theorem MR (h:∀ y∈o.op.operands.toList,ev F' y=ev F y):act C F' H o=act C F H o:=by
 have sx:=Jo h;unfold act;cases hop:o.op <;> rw[hop] at h <;> simp only[Op.operands] at h ⊢ <;> try (exact sx)
 case move x=>rw[h x cf]
 case assign x=>rw[h x cf]
 case pick c a b=>rw[gv (h c cf),h a cf,h b cf]
 case box t x=>rw[h x cf]
 case build t ps=>rw[vW (λy hy=>h y.2 (by simp;exact⟨y.1,by simpa using hy⟩))]
 case load t x=>rw[h x cf]
 case store t x y=>rw[h x cf,h y cf]
 case binOp op t x y t'=>rw[gv (h x cf),gv (h y cf),h x cf]
 case unOp op t x=>cases op <;> simp only <;> first|exact sx|rw[gv (h x cf)]
 case convert s t x=>rw[gv (h x cf)]
 case nilCheck x=>rw[h x cf]
 case fieldAddr t x k=>rw[h x cf]
 case field t x k=>rw[h x cf]
 case indexAddr t x ix=>rw[h x cf,gv (h ix cf)]
 case extract x k=>rw[h x cf]
 case makeSlice t l c=>rw[gv (h l cf),gv (h c cf)]
 case slice t x lo hi mx=>
  cases mx with
  | some m=>exact sx
  | none=>
    simp only;rw[h x cf,CL (x:=lo) (λy hy=>h y (by simp at hy ⊢;exact .inr (.inl hy))),CL (x:=hi) (λy hy=>h y (by simp at hy ⊢;exact .inr (.inr hy)))]
 case makeFunc fn first cap=>
  cases fn <;> simp only <;> try (exact sx)
  rw[vV (l:=first.toList) (λy hy=>h y (by simp;exact .inl (by simpa using hy))),rV (l:=cap.toList) (λy hy=>h y (by simp;exact .inr (by simpa using hy)))]
 case buildSlice t n ps=>
  rw[sx,vW (λy hy=>h y.2 (by simp;exact⟨y.1,by simpa using hy⟩))]
 case call c=>
  simp only[Call.operands] at h;cases hc:c.callee with
  | value f=>
    rw[hc] at h;simp only at h ⊢;rw[MQ (h f cf),rV (λy hy=>h y (by simp;exact .inr (by simpa using hy)))]
  | invoke r n=>exact sx
  | builtin b=>
    rw[hc] at h;have he:evs F' c.args.toList=evs F c.args.toList:=vV λy hy=>h y (by simpa using hy);cases b <;> simp only <;> first|exact sx|(rw[he];done)|skip
    split
    ·rename_i x t hx ht
     rw[(h x (by
      have e1:c.args=#[x]:=ot.1 hx;simp[e1]))]
    ·rfl
variable {x:AV} {d:Option Nat}
theorem mw {t:Nat} (h:∀ n,d=some n->t≠n):(F.bO d x) t=F t:=by
 cases d with
 | none=>rfl
 | some n=>show (F.put n x) t=_;rw[Fr.du,if_neg (h n rfl)]
theorem Gy (h:∀ g b d,o.guard=some (g,b)->(full[g]?).bind (·.dst)=some d->F' d=F d):wants full F' o=wants full F o:=by
 unfold wants;cases hg:o.guard with
 | none=>rfl
 | some gb=>
   obtain⟨g,b⟩:=gb;simp only;cases hd:(full[g]?).bind (·.dst) with
   | none=>rfl
   | some d=>simp only;rw[h g b d hg hd]
theorem ea (h:∀ n,d=some n->n∉o.looksAt full):stepOf C full (F.bO d x) H o=stepOf C full F H o:=by
 have h1:act C (F.bO d x) H o=act C F H o:=MR λy hy=>zF λt ht=>mw λn hn e=>h n hn (e▸ko hy ht)
 have h2:wants full (F.bO d x) o=wants full F o:=Gy λg b t hg ht=>mw λn hn e=>h n hn (by
  subst e;unfold Oper.looksAt;rw[hg];simp only;exact lp.2 (.inr (by rw[ht];simp)))
 unfold stepOf;rw[h1,h2]
theorem my {H H':Hp} (h:aI C.SU ml o=0\/aI C.SU ml o=4):act C F H' o=act C F H o:=by
 unfold aI at h;unfold act;cases hop:o.op <;> rw[hop] at h <;> simp only at h ⊢ <;> try (exfalso;revert h;simp;done)
 case unOp op _ _=>cases op <;> rfl
 case makeFunc fn _ _=>cases fn <;> rfl
 case slice t x lo hi mx=>cases mx <;> rfl
 case buildSlice t n ps=>
  cases hb:C.SU t with
  | true=>rfl
  | false=>rw[hb] at h;simp at h
variable {c:TypeId×List AV}
theorem Jp {d:Nat} (h:aI C.SU ml o=1) (hc:jx F H) (hd:H d=none):act C F (H.put d c) o=act C F H o:=by
 unfold aI at h;unfold act;cases hop:o.op <;> rw[hop] at h <;> simp only at h ⊢ <;> try (exfalso;revert h;simp;done)
 case load t x=>
  split
  ·rename_i b off i hx hi
   have:b≠d:=λe=>by
    subst e;exact hc.ev hx _ (by simp[AV.ids]) hd
   rw[Hp.du,if_neg this]
  ·rename_i b off i hx hi
   have:b≠d:=λe=>by
    subst e;exact hc.ev hx _ (by simp[AV.ids]) hd
   rw[Hp.du,if_neg this]
  ·rfl
  ·rfl
 case unOp op _ _=>cases op <;> simp at h
 case makeFunc fn _ _=>cases fn <;> simp at h
 case slice t x lo hi mx=>cases mx <;> simp at h
 case buildSlice t n ps=>cases hb:C.SU t <;> rw[hb] at h <;> simp at h
theorem Jq {d d':Nat} (h:aI C.SU ml o=2) (hd:o.dst=some d) (hne:d≠d'):act C F (H.put d' c) o=act C F H o:=by
 have e:(H.put d' c) d=H d:=by rw[Hp.du,if_neg hne]
 unfold aI at h;unfold act;cases hop:o.op <;> rw[hop] at h <;> simp only at h ⊢ <;> try (exfalso;revert h;simp;done)
 case alloc t=>
  rw[hd];cases C.ti t with
  | none=>rfl
  | some i=>show qZ C.K d t _ ((H.put d' c) d)=_;rw[e]
 case box t x=>
  rw[hd];cases ev F x with
  | none=>rfl
  | some i=>show qZ C.K d t _ ((H.put d' c) d)=_;rw[e]
 case makeSlice t l k=>
  rw[hd];cases C.ti t with
  | none=>rfl
  | some i=>
    cases jW F l with
    | none=>rfl
    | some vl=>
      cases vl <;> try rfl
      cases jW F k with
      | none=>rfl
      | some vk=>
        cases vk <;> try rfl
        simp only;cases i.elem with
        | none=>rfl
        | some es=>
          obtain⟨e2,sz⟩:=es;simp only;rw[e]
 case unOp op _ _=>cases op <;> simp at h
 case makeFunc fn _ _=>cases fn <;> simp at h
 case slice t x lo hi mx=>cases mx <;> simp at h
 case buildSlice t n ps=>
  cases hb:C.SU t with
  | true=>rfl
  | false=>
    rw[cond_false,cond_false,hd];cases C.ti t with
    | none=>rfl
    | some i=>
      cases DN F ps.toList with
      | none=>rfl
      | some l=>
        simp only;cases i.elem with
        | none=>rfl
        | some es=>
          obtain⟨e2,sz⟩:=es;simp only;cases C.ti e2 with
          | none=>rfl
          | some ie=>
            cases Ge sz 0 l with
            | none=>rfl
            | some cs=>show (bif _ then xu C.K d e2 n cs ((H.put d' c) d) else _)=_;rw[e]
theorem Gz {c:Nat×(TypeId×List AV)} (h:aI C.SU ml o=2) (hd:o.dst=none):act C F (H.put c.1 c.2) o=act C F H o:=by
 unfold aI at h;unfold act;cases hop:o.op <;> rw[hop] at h <;> simp only at h ⊢ <;> try (exfalso;revert h;simp;done)
 case alloc t=>simp only[hd]
 case box t x=>simp only[hd]
 case makeSlice t l c=>simp only[hd]
 case unOp op _ _=>cases op <;> simp at h
 case makeFunc fn _ _=>cases fn <;> simp at h
 case slice t x lo hi mx=>cases mx <;> simp at h
 case buildSlice t n ps=>
  cases hb:C.SU t with
  | true=>rfl
  | false=>simp only[cond_false,hd]
variable {v:AV} {u:Option (Nat×(TypeId×List AV))}
theorem act_upd (h:act C F H o=.eZ v u):u=none\/aI C.SU ml o=3\/(aI C.SU ml o=2/\∃ d c,o.dst=some d/\u=some (d,c)/\H d=none):=by
 unfold act at h;cases hop:o.op <;> rw[hop] at h <;> simp only at h <;> try (first|cases h;done|exact (gm h).elim)
 case store=>exact .inr (.inl (by unfold aI;rw[hop]))
 case alloc t=>
  split at h
  ·rename_i d i iw hi;obtain⟨h1,h2,h3,h4,h5⟩:=rU h;exact .inr (.inr ⟨by unfold aI;rw[hop],d,_,iw,h5,h1⟩)
  ·cases h
 case box t x=>
  split at h
  ·rename_i d i iw hi;obtain⟨h1,h2,h3,h4,h5⟩:=rU h;exact .inr (.inr ⟨by unfold aI;rw[hop],d,_,iw,h5,h1⟩)
  ·cases h
 case move=>exact .inl (oN h).2
 case assign=>exact .inl (oN h).2
 case pick=>split at h <;> first|exact .inl (oN h).2|cases h
 case load=>
  split at h
  ·split at h
   ·exact .inl (CC h).2.2
   ·cases h
  ·split at h <;> cases h
  ·cases h
  ·cases h
 case build=>split at h <;> first|(cases h;done)|(split at h <;> first|(cases h;done)|(rw[de,nx] at h;cases h;exact .inl aa))
 case binOp=>split at h <;> first|exact .inl (gV h).choose_spec.2.2|(cases h;done)|(split at h <;> first|exact .inl (gV h).choose_spec.2.2|(cases h;done))
 case unOp op _ _=>cases op <;> simp only at h <;> first|exact (gm h).elim|(split at h <;> first|(cases h;done)|(cases h;exact .inl aa))
 case convert=>split at h <;> first|(cases h;done)|(split at h <;> first|(cases h;done)|(cases h;exact .inl aa))
 case nilCheck=>split at h <;> first|(cases h;done)|(cases h;exact .inl aa)
 case fieldAddr=>split at h <;> first|(cases h;done)|(split at h <;> first|(cases h;done)|(cases h;exact .inl aa))
 case field=>split at h <;> first|(cases h;done)|exact .inl (mr h).1
 case extract=>
  split at h
  ·exact .inl (gV h).choose_spec.2.2
  ·split at h
   ·rename_i x _;cases hn:gT x <;> rw[hn] at h <;> cases h;exact .inl aa
   ·cases h
  ·cases h
 case indexAddr=>split at h <;> first|(cases h;done)|(split at h <;> cases h)
 case slice t x lo hi mx=>
  cases mx <;> simp only at h <;> first|exact (gm h).elim|skip
  split at h <;> first|(cases h;done)|(split at h <;> cases h)
 case makeSlice=>
  split at h
  ·split at h
   ·split at h
    ·revert h
     generalize (!_ && _)=q;cases q <;> intro h <;> cases h
    ·cases h
   ·cases h
  ·cases h
 case makeFunc fn _ _=>
  cases fn <;> simp only at h <;> try (exact (gm h).elim)
  split at h
  ·cases h;exact .inl aa
  ·split at h
   ·cases h;exact .inl aa
   ·cases h
  ·cases h
 case buildSlice t n ps=>
  cases hsu:C.SU t with
  | true=>rw[hsu] at h;exact (gm h).elim
  | false=>
    rw[hsu,cond_false] at h
    split at h
    ·rename_i d i l iw hi hl
     split at h
     ·split at h
      ·revert h
       generalize (Nat.beq _ _ && _)=q;cases q <;> intro h
       ·cases h
       ·obtain⟨h1,h2,h3,h4,h5⟩:=CD h;exact .inr (.inr ⟨by unfold aI;rw[hop];simp[hsu],d,_,iw,h5,h1⟩)
      ·cases h
     ·cases h
    ·cases h
 case call=>
  split at h
  ·split at h
   ·split at h
    ·split at h
     ·cases h;exact .inl aa
     ·cases h
    ·split at h
     ·cases h;exact .inl aa
     ·cases h
    ·rename_i s i _ _
     revert h
     cases vL i.zero <;> intro h
     ·cases h
     ·cases h;exact .inl aa
    ·cases h
   ·cases h
  ·split at h <;> first|(cases h;done)|(cases h;exact .inl aa)
  ·split at h <;> first|(cases h;done)|(cases h;exact .inl aa)
  ·split at h
   ·rw[de] at h;cases h
   ·cases h
  ·exact (gm h).elim
theorem PB {φ:Prop} (h:act C F H o=.cond φ v u):u=none\/aI C.SU ml o=3\/(aI C.SU ml o=2/\∃ d c,o.dst=some d/\u=some (d,c)/\H d=none):=by
 have k:=rj (C:=C) (F:=F) (H:=H) (o:=o);rw[h] at k;cases k with
 | plain p=>exact (p.Lq aa).elim
 | store e=>exact .inr (.inl (by unfold aI;rw[e]))
 | index e=>exact .inl aa
 | slice e=>exact .inl aa
 | make e h1 h2=>exact .inr (.inr ⟨by unfold aI;rw[e],_,_,h1,rfl,h2⟩)
theorem GA {su:TypeId->Bool} {l:List FuncId} {o:Oper}:aI su l o<=5:=by
 unfold aI
 split
 all_goals first
  | exact cG aa
  | (cases su _ <;> exact cG aa)
  | (split <;> first|exact cG aa|(cases Jl l _ <;> cases Pp l _ <;> exact cG aa))
theorem Jr {d:vM} (h:act C F H o=.call d):aI C.SU ml o=3\/aI C.SU ml o=4\/aI C.SU ml o=5:=by
 rcases zA h with ⟨c,f,g,first,l,cap,hop,cZ,_⟩|⟨vs,_,_,⟨t,n,ps,hop,hsu⟩|h5⟩
 ·unfold aI;rw[hop];simp only[cZ];cases Jl ml c
  ·cases Pp ml c
   ·exact .inr (.inl aa)
   ·exact .inl aa
  ·exact .inr (.inr aa)
 ·unfold aI;rw[hop];simp[hsu]
 ·have h6:=h5 C.SU ml;have h7:=GA (su:=C.SU) (l:=ml) (o:=o);omega
end
end
section
open Go.RowKit
structure Live (C:Cx) (F:Fr) (H:Hp) (w:World):Prop where
 hp:Gg C H
 closed:jx F H
 fits:∀ d v,F d=some v->d<C.N
 there:∃ w1,aK C.K w w1/\C.Old w1
section
variable {C:Cx} {F:Fr} {H:Hp} {w:World} {full:Array Oper} {p o:Oper} {k:Fr->Hp->World->Prop} {ml:List FuncId}
theorem Live.rel (h:Live C F H w):∃ β a w1,Rel C β F H a w1/\aK C.K w w1:=by
 obtain⟨w1,h1,h2⟩:=h.there;obtain⟨β,w2,k1,k2,k3,k4⟩:=C.lay w1 H h2 h.hp.ok h.hp.few;refine⟨β,⟨(Array.range C.N).map λd=>match F d with|some v=>v.bu β|none=>undef,C.ds⟩,w2,⟨aa,cf,λd v hv=> ?_,λi t cs hi=>⟨(k3 i t cs hi).1,(h.hp.ok i t cs hi).1,(k3 i t cs hi).2,(h.hp.ok i t cs hi).2⟩,k4,h.closed,h.fits,h.hp,k2⟩,h1.aG k1⟩;have hd:=h.fits d v hv;simp[Array.getD_eq_getD_getElem?,hd,hv]
variable {β:Nat->Nat}
theorem Live.of {a:Act} {w1:World} (h:Rel C β F H a w1) (hk:aK C.K w w1):Live C F H w:=⟨h.hp,h.closed,h.fits,w1,hk,h.old⟩
def Step.still (C:Cx):Step->Option ((AV->Prop)×Option (Nat×(TypeId×List AV)))
 | .eZ v u=>some (λx=>x=v,u)
 | .read i a=>some (λx=>∃ cs:List Value,cs.length=i.size/\(∀ j u,cs[j]? =some u->C.At (a.add j) u)/\x=.val (nW i cs),none)
 | .fN i cs off=>some (λx=>∃ vs:List AV,vs.length=i.size/\(∀ j u,vs[j]? =some u->cs[off+j]? =some u)/\x=oK i vs,none)
 | .cond φ v u=>some (λx=>φ/\x=v,u)
 | .call _=>none
 | .bad=>none
variable {Ψ:AV->Prop} {u:Option (Nat×(TypeId×List AV))}
theorem cQ (hs:(stepOf C full F H o).still C=some (Ψ,u)):one C (some ml) full o k F H w↔∃ x,Ψ x/\k (F.bO o.dst x) (H.upd u) w:=by
 unfold one;cases hst:stepOf C full F H o with
 | eZ v u'=>
   rw[hst] at hs;cases hs;exact⟨λh=>⟨v,aa,h⟩,λ⟨x,hx,h⟩=>hx▸h⟩
 | read i a=>
   rw[hst] at hs;cases hs;constructor
   ·rintro⟨cs,h1,h2|⟨h2,_⟩,h3⟩
    ·exact⟨_,⟨cs,h1,h2,aa⟩,h3⟩
    ·cases h2
   ·rintro⟨x,⟨cs,h1,h2,rfl⟩,h3⟩;exact⟨cs,h1,.inl h2,h3⟩
 | fN i cs off=>
   rw[hst] at hs;cases hs;exact⟨λ⟨vs,h1,h2,h3⟩=>⟨_,⟨vs,h1,h2,aa⟩,h3⟩,λ⟨x,⟨vs,h1,h2,e⟩,h3⟩=>⟨vs,h1,h2,e▸h3⟩⟩
 | cond φ v u'=>
   rw[hst] at hs;cases hs;exact⟨λh=>⟨v,⟨h.1,aa⟩,h.2⟩,λ⟨x,hx,h⟩=>⟨hx.1,hx.2▸h⟩⟩
 | call d=>rw[hst] at hs;cases hs
 | bad=>rw[hst] at hs;cases hs
theorem CM {α:Type} {n:Nat} {cs ds:List α} {f:Nat->Option α} (h1:cs.length=n) (h2:∀ j u,cs[j]? =some u->f j=some u) (g1:ds.length=n) (g2:∀ j u,ds[j]? =some u->f j=some u):cs=ds:=by
 apply qk;intro j;by_cases hj:j<n
 ·have a1:=aH (show j<cs.length by omega);have a2:=aH (show j<ds.length by omega);rw[a1,a2,<-h2 j _ a1,<-g2 j _ a2]
 ·rw[gD ae,gD ae]
variable {x y:AV}
theorem CN {s:Step} (hs:s.still C=some (Ψ,u)) (hx:Ψ x) (hy:Ψ y):x=y:=by
 cases s with
 | eZ v u'=>cases hs;exact hx.trans hy.symm
 | read i a=>
   cases hs;obtain⟨cs,h1,h2,rfl⟩:=hx;obtain⟨ds,g1,g2,rfl⟩:=hy;rw[CM (f:=λj=>C.w0.cell? (a.add j)) h1 (λj u hj=>h2 j u hj _ C.pR) g1 (λj u hj=>g2 j u hj _ C.pR)]
 | fN i cs off=>
   cases hs;obtain⟨ew,h1,h2,rfl⟩:=hx;obtain⟨ds,g1,g2,rfl⟩:=hy;rw[CM (f:=λj=>cs[off+j]?) h1 h2 g1 g2]
 | cond φ v u'=>cases hs;exact hx.2.trans hy.2.symm
 | call d=>cases hs
 | bad=>cases hs
theorem gX (s:Step):s=.bad\/(∃ Ψ u,s.still C=some (Ψ,u))\/∃ d,s=.call d:=by
 cases s with
 | eZ v u=>exact .inr (.inl ⟨_,_,aa⟩)
 | read i a=>exact .inr (.inl ⟨_,_,aa⟩)
 | fN i cs off=>exact .inr (.inl ⟨_,_,aa⟩)
 | cond φ v u=>exact .inr (.inl ⟨_,_,aa⟩)
 | call d=>exact .inr (.inr ⟨d,aa⟩)
 | bad=>exact .inl aa
variable {H':Hp}
theorem fR (h:act C F H' o=act C F H o):stepOf C full F H' o=stepOf C full F H o:=by unfold stepOf;rw[h]
theorem tg {s:Step} (h:stepOf C full F H o=s):s=.bad\/s=.eZ (.val undef) none\/act C F H o=s:=by
 by_cases hb:stepOf C full F H o=.bad
 ·exact .inl (h.symm.trans hb)
 ·obtain⟨_,⟨_,e⟩|⟨_,e⟩⟩:=gW hb
  ·exact .inr (.inl (h.symm.trans e))
  ·exact .inr (.inr (e.symm.trans h))
theorem fX (hs:(stepOf C full F H o).still C=some (Ψ,u)):u=none\/aI C.SU ml o=3\/(aI C.SU ml o=2/\∃ d c,o.dst=some d/\u=some (d,c)/\H d=none):=by
 cases hst:stepOf C full F H o with
 | eZ v u'=>
   rw[hst] at hs;cases hs;rcases tg hst with h|h|h
   ·cases h
   ·cases h;exact .inl aa
   ·exact act_upd h
 | read i a=>rw[hst] at hs;cases hs;exact .inl aa
 | fN i cs off=>rw[hst] at hs;cases hs;exact .inl aa
 | cond φ v u'=>
   rw[hst] at hs;cases hs;rcases tg hst with h|h|h
   ·cases h
   ·cases h
   ·exact PB h
 | call d=>rw[hst] at hs;cases hs
 | bad=>rw[hst] at hs;cases hs
variable {d:vM}
theorem jh (h:stepOf C full F H o=.call d):(aI C.SU ml o=3\/aI C.SU ml o=4\/aI C.SU ml o=5)/\(jx F H->∀ i∈d.ids,H i≠none):=by
 rcases tg h with e|e|e
 ·cases e
 ·cases e
 ·exact⟨Jr e,λhc=>Gx hc e⟩
variable {a:Nat}
theorem th {b:Nat} (h:xy a b=true):xy b a=true:=by
 unfold xy at h ⊢;rw[Bool.or_comm (Nat.beq b 5)];cases hb:(Nat.beq a 5 || Nat.beq b 5) with
 | true=>rw[hb] at h;cases h
 | false=>
   rw[hb] at h;simp only[cond_false,Bool.or_eq_true,Bool.and_eq_true] at h ⊢;rcases h with (((h|h)|h)|h)|h
   ·exact .inl (.inl (.inl (.inr h)))
   ·exact .inl (.inl (.inl (.inl h)))
   ·exact .inl (.inl (.inr ⟨h.2,h.1⟩))
   ·exact .inr ⟨h.2,h.1⟩
   ·exact .inl (.inr ⟨h.2,h.1⟩)
theorem rW {b:Nat} (h:xy a b=true):a≠5/\b≠5/\(a=0\/b=0\/(a<=2/\b<=2)\/(a=4/\b<=2)\/(a<=2/\b=4)):=by
 unfold xy at h;cases hb:(Nat.beq a 5 || Nat.beq b 5) with
 | true=>rw[hb] at h;cases h
 | false=>
   rw[hb] at h;rw[Bool.or_eq_false_iff] at hb;simp only[cond_false,Bool.or_eq_true,Bool.and_eq_true,Nat.beq_eq,Nat.ble_eq] at h;refine⟨λe=>by rw[e] at hb;simp at hb,λe=>by rw[e] at hb;simp at hb,?_⟩;omega
theorem vX (hs:(stepOf C full F H p).still C=some (Ψ,u)) (hm:xy (aI C.SU ml p) (aI C.SU ml o)=true) (hdd:∀ d,p.dst=some d->o.dst≠some d) (hc:jx F H):
  stepOf C full F (H.upd u) o=stepOf C full F H o:=by
 rcases fX (ml:=ml) hs with rfl|h3|⟨h2,d,c,hd,rfl,h0⟩
 ·rfl
 ·rw[h3] at hm;have:=rW hm;exact fR (my (ml:=ml) (.inl ae))
 ·rw[h2] at hm;have hmi:=rW hm;show stepOf C full F (H.put d c) o=_;have:aI C.SU ml o=0\/aI C.SU ml o=1\/aI C.SU ml o=2\/aI C.SU ml o=4:=ae;rcases this with e|e|e|e
  ·exact fR (my (ml:=ml) (.inl e))
  ·exact fR (Jp (ml:=ml) e hc h0)
  ·cases hod:o.dst with
   | none=>exact fR (Gz (ml:=ml) (c:=(d,c)) e hod)
   | some d'=>exact fR (Jq (ml:=ml) e hod (λe'=>hdd d hd (by rw[hod,e'])))
  ·exact fR (my (ml:=ml) (.inr e))
variable {F:Fr}
theorem lN {d d':Option Nat} (h:∀ n,d=some n->d'≠some n):(F.bO d x).bO d' y=(F.bO d' y).bO d x:=by
 cases d with
 | none=>rfl
 | some n=>
   cases d' with
   | none=>rfl
   | some n'=>
     have hne:n≠n':=λe=>h n aa (by rw[e])
     funext z
     show ((F.put n x).put n' y) z=((F.put n' y).put n x) z;simp only[Fr.du];by_cases h1:z=n'
     ·subst h1;rw[if_pos rfl,if_neg (λe=>hne e.symm)];exact (if_pos aa).symm
     ·rw[if_neg h1];by_cases h2:z=n
      ·rw[if_pos h2,if_pos h2]
      ·rw[if_neg h2,if_neg h2,if_neg h1]
theorem PC {Ψ':AV->Prop} {u':Option (Nat×(TypeId×List AV))} (hp:(stepOf C full F H p).still C=some (Ψ,u)) (ho:(stepOf C full F H o).still C=some (Ψ',u')) (hm:xy (aI C.SU ml p) (aI C.SU ml o)=true) (hdd:∀ d,p.dst=some d->o.dst≠some d):
  (H.upd u).upd u'=(H.upd u').upd u:=by
 have hmi:=rW hm;rcases fX (ml:=ml) hp with rfl|h3|⟨h2,d,c,hd,rfl,h0⟩
 ·rfl
 ·rcases fX (ml:=ml) ho with rfl|g3|⟨g2,_⟩
  ·rfl
  ·omega
  ·omega
 ·rcases fX (ml:=ml) ho with rfl|g3|⟨g2,d',c',Og,rfl,h0'⟩
  ·rfl
  ·omega
  ·have hne:d≠d':=λe=>hdd d hd (by rw[Og,e])
   funext z
   show ((H.put d c).put d' c') z=((H.put d' c').put d c) z;simp only[Hp.du];by_cases h1:z=d'
   ·subst h1;rw[if_pos rfl,if_neg (λe=>hne e.symm)];exact (if_pos aa).symm
   ·rw[if_neg h1];by_cases h2:z=d
    ·rw[if_pos h2,if_pos h2]
    ·rw[if_neg h2,if_neg h2,if_neg h1]
variable {R:Ending->World->Prop} {P:Program} {w:World}
theorem Calls.some {g:FuncId} {args:Array Value} (h:Calls P g args w R):∃ e w',R e w':=by
 obtain⟨e,w',_,hR,_⟩:=h [];exact⟨e,w',hR⟩
theorem zw.some (h:zw P d β w R):∃ e w',R e w':=by
 cases d with
 | fn g args=>exact Calls.some h.2
 | op o vs=>
   obtain⟨v,w2,_,h2⟩:=h;exact⟨_,w2,h2⟩
variable {j:AV->Fr->Hp->World->Prop}
theorem df.mono {lv:Nat} {j':AV->Fr->Hp->World->Prop} (hL:Live C F H w) (h:df C lv F H d w j)
  (hj:∀ r F' H' w2,Live C F' H' w2->(∀ i∈r.ids,H' i≠none)->(lv=0->H'=H)->(lv<=1->F'=F)->j r F' H' w2->j' r F' H' w2):df C lv F H d w j':=by
 intro w1 β h1 h2 h3;refine (h w1 β h1 h2 h3).mono ?_;rintro e w2 ⟨bM,r,del,ups,rfl,FP,yk,tj,hch,hv⟩;refine⟨bM,r,del,ups,aa,FP,yk,tj,hch,λa b c ρ fo=>hj r _ _ w2 ⟨hch.hp hL.hp fo,λd' v hv' i hi=> ?_,λd' v hv'=> ?_,w2,aK.refl _ _,c⟩ (λi hi=> ?_) (λha=> ?_) (λha=> ?_) (hv a b c ρ fo)⟩
 ·obtain⟨u,hu,_,g2⟩:=Fr.fW (β:=β) hv';obtain⟨q1,q2⟩:=g2 i hi;exact kF hch.once (Hp.kG (hL.closed d' u hu i q1) q2)
 ·obtain⟨u,hu,_⟩:=Fr.fW (β:=β) hv';exact hL.fits d' u hu
 ·rcases FP i hi with e|⟨_,e1,e2⟩
  ·exact tf hch.once e
  ·exact kF hch.once (Hp.kG e1 e2)
 ·have e1:ups=[]:=yk.resolve_left ae;have e2:del=none:=tj.resolve_left ae;rw[e1,e2];rfl
 ·have e2:del=none:=tj.resolve_left ae;rw[e2];rfl
theorem df.some {lv:Nat} (hL:Live C F H w) (h:df C lv F H d w j):∃ r F' H' w2,(lv=0->H'=H)/\(lv<=1->F'=F)/\j r F' H' w2:=by
 obtain⟨β,a,w1,hr,hk⟩:=hL.rel;obtain⟨e,w2,bM,r,del,ups,rfl,FP,yk,tj,hch,hv⟩:=(h w1 β hk hr.old (hr.Gw _)).some;have ho:=hr.Gw d.ids;have k2:=hch.kp ho;refine⟨r,_,_,w2,λha=> ?_,λha=> ?_,hv (hk.aG k2) k2 (hch.old ho hr.old) (Pv β) (uH β)⟩
 ·have e1:ups=[]:=yk.resolve_left ae;have e2:del=none:=tj.resolve_left ae;rw[e1,e2];rfl
 ·have e2:del=none:=tj.resolve_left ae;rw[e2];rfl
theorem df.frame {lv:Nat} {j:AV->Hp->World->Prop} {F1:Fr} (h:df C lv F H d w λr _ H' w2=>j r H' w2):df C lv F1 H d w λr _ H' w2=>j r H' w2:=h
variable {i:Nat}
theorem Js {ids:List Nat} (hh:∀ i,Reach H ids i->H' i=H i) (h:Reach H' ids i):Reach H ids i:=by
 induction h with
 | base hi=>exact .base hi
 | step hi h1 h2 ih=>exact .step ih ((hh _ ih).symm.trans h1) h2
theorem nz {ids:List Nat} (hh:∀ i,Reach H ids i->H' i=H i) (h:Reach H ids i):Reach H' ids i:=by
 induction h with
 | base hi=>exact .base hi
 | step hi h1 h2 ih=>exact .step ih ((hh _ hi).trans h1) h2
theorem df.heap {j:AV->World->Prop} (hh:∀ i,Reach H d.ids i->H' i=H i) (h:df C 0 F H d w λr _ _ w2=>j r w2):df C 0 F H' d w λr _ _ w2=>j r w2:=by
 intro w1 β h1 h2 h3;have h3':qx C β H d.ids w1:=⟨λi hi t cs hx=>h3.own i (nz hh hi) t cs (by rw[hh i hi];exact hx),λi j hi hj ei ej e=>h3.apart i j (nz hh hi) (nz hh hj) (by rw[hh i hi];exact ei) (by rw[hh j hj];exact ej) e⟩;refine (h w1 β h1 h2 h3').mono ?_;rintro e w2 ⟨bM,r,del,ups,rfl,FP,yk,tj,hch,hv⟩;have e1:ups=[]:=yk.resolve_left ae;have e2:del=none:=tj.resolve_left ae;subst e1;subst e2;refine⟨bM,r,none,[],aa,λi hi=> ?_,.inr aa,.inr aa,⟨hch.os,hch.tape,hch.output,hch.size,hch.block,hch.agree,λi hi=>(by cases hi),λi hi=>(by cases hi),hch.own,λx hx=>(by cases hx),hch.once,hch.apart,λx hx=>(by cases hx)⟩,hv⟩;rcases FP i hi with e|⟨e0,e1,e2⟩
 ·exact .inl e
 ·exact .inr ⟨nz hh e0,hh i e0▸e1,e2⟩
theorem uJ (hp:Gg C H) {ids:List Nat} (h0:∀ i∈ids,H i≠none) (h:Reach H ids i):H i≠none:=by
 induction h with
 | base hi=>exact h0 _ hi
 | step hi h1 h2 ih=>exact hp.closed _ _ _ h1 _ h2
theorem zG (h:aI C.SU ml o=3\/aI C.SU ml o=4\/aI C.SU ml o=5) (h5:aI C.SU ml o≠5):(aI C.SU ml o=3/\lvl C.SU (some ml) o=1)\/(aI C.SU ml o=4/\lvl C.SU (some ml) o=0):=by
 rcases h with e|e|e
 ·exact .inl ⟨e,by show Gf _=_;rw[e];rfl⟩
 ·exact .inr ⟨e,by show Gf _=_;rw[e];rfl⟩
 ·exact absurd e h5
theorem mz (hC:C.Ok) (hL:Live C F H w) (hs:(stepOf C full F H o).still C=some (Ψ,u)) (hx:Ψ x):Live C (F.bO o.dst x) (H.upd u) w:=by
 obtain⟨β,a,w1,hr,hk⟩:=hL.rel;have hb:stepOf C full F H o≠.bad:=λe=>by rw[e] at hs;cases hs
 obtain⟨hd,⟨_,e⟩|⟨_,e⟩⟩:=gW hb
 ·rw[e] at hs;cases hs;cases hx;exact Live.of (hr.put hd (λ_ hi=>by cases hi)) hk
 ·rw[e] at hs;cases hst:act C F H o with
  | bad=>rw[hst] at hs;cases hs
  | call d=>rw[hst] at hs;cases hs
  | eZ v u'=>
    rw[hst] at hs;cases hs;cases hx;obtain⟨bM,w2,k2,r2,_⟩:=Ln hC hst hd hr;exact Live.of r2 (hk.aG k2)
  | cond φ v u'=>
    rw[hst] at hs;cases hs;obtain⟨Jm,rfl⟩:=hx;obtain⟨bM,w2,k2,r2,_⟩:=Gr hC hst Jm hd hr;exact Live.of r2 (hk.aG k2)
  | read i y=>
    rw[hst] at hs;cases hs;obtain⟨cs,_,_,rfl⟩:=hx;exact Live.of (hr.put hd (λ_ hi=>by cases hi)) hk
  | fN i cs off=>
    rw[hst] at hs;cases hs;obtain⟨vs,h1,h2,rfl⟩:=hx;obtain⟨t,y,b,tb,hop,hi,hy,hb⟩:=Gq hst
    have PA:∀ x∈vs,x∈cs:=λx hx=>by
     obtain⟨j,hj⟩:=sE hx;exact dc (h2 j x hj)
    have mO:vs.all bm=true:=bP.2 λx hx=>bP.1 (hr.own b tb cs hb).ok x (PA x hx);refine Live.of (hr.put hd (λj hj=> ?_)) hk;obtain⟨x,hx,hj'⟩:=bZ.1 (vO mO hj);exact hr.hp.closed b tb cs hb j (bZ.2 ⟨x,PA x hx,hj'⟩)
theorem Jt (h:DX p=true):∃ t,p.op=.move (.tmp t)/\p.guard=none:=by
 unfold DX at h
 split at h
 ·rename_i t e1 e2;exact⟨t,e1,e2⟩
 ·cases h
theorem GB {d:Option Nat} {v:AV} {ρ:AV->Value}:(F.bO d v).forget (some i) ρ=(F.forget (some i) ρ).bO d (v.fg i ρ):=by
 cases d with
 | none=>rfl
 | some n=>
   funext z
   show (match (F.put n v) z with|some v=>some (v.fg i ρ)|none=>none)=((F.forget (some i) ρ).put n (v.fg i ρ)) z;rw[Fr.du,Fr.du];by_cases hz:z=n
   ·rw[if_pos hz,if_pos hz]
   ·rw[if_neg hz,if_neg hz];rfl
theorem swapM (ha:p.apart full o=true) (hi:DX p=true) (h:one C (some ml) full p (one C (some ml) full o k) F H w):one C (some ml) full o (one C (some ml) full p k) F H w:=by
 obtain⟨a1,a2,a3⟩:=Oper.apart_spec ha;obtain⟨t,hop,hg⟩:=Jt hi
 have hst:∀ (F:Fr) (H:Hp),stepOf C full F H p=bif lC C.N p.dst then Bg (F t) else .bad:=λF H=>by
  unfold stepOf wants act;rw[hg,hop];rfl
 have hto:o.dst≠some t:=λe=>a3 t e (ko (y:=.tmp t) (by rw[hop];simp[Op.operands]) aa);cases hd:lC C.N p.dst with
 | false=>unfold one at h;rw[hst,hd] at h;exact h.elim
 | true=>
   cases hF:F t with
   | none=>unfold one at h;rw[hst,hd,hF] at h;exact h.elim
   | some v=>
     have h':one C (some ml) full o k (F.bO p.dst v) H w:=by
      unfold one at h;rw[hst,hd,hF] at h;exact h
     have eo:stepOf C full (F.bO p.dst v) H o=stepOf C full F H o:=ea a1
     have key:∀ (F':Fr) (H':Hp) (w':World) (r v':AV),F' t=some v'->k ((F'.bO p.dst v').bO o.dst r) H' w'->one C (some ml) full p k (F'.bO o.dst r) H' w':=λF' H' w' r v' hF' hk=>by
      have e:(F'.bO o.dst r) t=some v':=(mw λn hn=>λe=>hto (by rw[hn,e])).trans hF';unfold one;rw[hst,hd,e];show k ((F'.bO o.dst r).bO p.dst v') H' w';rw[lN (λn hn e'=>a2 n e' hn)];exact hk
     unfold one at h' ⊢;rw[eo] at h';cases eO:stepOf C full F H o with
     | eZ y u=>rw[eO] at h';exact key F _ _ _ _ hF h'
     | read i a=>
       rw[eO] at h';obtain⟨cs,h1,h2,h3⟩:=h';exact⟨cs,h1,h2,key F _ _ _ _ hF h3⟩
     | fN i cs off=>
       rw[eO] at h';obtain⟨vs,h1,h2,h3⟩:=h';exact⟨vs,h1,h2,key F _ _ _ _ hF h3⟩
     | cond φ y u=>rw[eO] at h';exact⟨h'.1,key F _ _ _ _ hF h'.2⟩
     | bad=>rw[eO] at h';exact h'.elim
     | call d=>
       rw[eO] at h';intro w1 β h1 h2 h3;refine (h' w1 β h1 h2 h3).mono ?_;rintro e w2 ⟨bM,r,del,ups,he,FP,yk,tj,hch,hv⟩;refine⟨bM,r,del,ups,he,FP,yk,tj,hch,λa b c ρ fo=> ?_⟩;have hv':=hv a b c ρ fo;cases del with
       | none=>exact key _ _ _ _ _ hF hv'
       | some i=>
         rw[GB] at hv';refine key _ _ _ _ _ ?_ hv';show (match F t with|some v=>some (v.fg i ρ)|none=>none)=_;rw[hF]
theorem swap (hC:C.Ok) (hL:Live C F H w) (hi:indep C.SU ml full p o=true) (h:one C (some ml) full p (one C (some ml) full o k) F H w):one C (some ml) full o (one C (some ml) full p k) F H w:=by
 unfold indep at hi;rw[gF] at hi;obtain⟨ha,hm⟩:=hi;rcases Bool.or_eq_true _ _▸hm with hm|hmv
 case inr=>exact swapM ha hmv h
 obtain⟨a1,a2,a3⟩:=Oper.apart_spec ha;have a2':∀ d,o.dst=some d->p.dst≠some d:=λd hd e=>a2 d e hd;have hmi:=rW hm;have hc:=hL.closed;rcases gX (C:=C) (stepOf C full F H p) with hp|⟨Ψp,up,hp⟩|⟨d,hp⟩
 ·unfold one at h;rw[hp] at h;exact h.elim
 ·obtain⟨x,hx,h⟩:=(cQ hp).1 h;have eo:stepOf C full (F.bO p.dst x) (H.upd up) o=stepOf C full F H o:=(ea a1).trans (vX hp hm a2 hc);rcases gX (C:=C) (stepOf C full F H o) with ho|⟨Ψo,uo,ho⟩|⟨d,ho⟩
  ·unfold one at h;rw[eo,ho] at h;exact h.elim
  ·obtain⟨y,hy,h⟩:=(cQ (by rw[eo];exact ho)).1 h;refine (cQ ho).2 ⟨y,hy,(cQ (Ψ:=Ψp) (u:=up) ?_).2 ⟨x,hx,?_⟩⟩
   ·rw[show stepOf C full (F.bO o.dst y) (H.upd uo) p=stepOf C full F H p from (ea a3).trans (vX ho (th hm) a2' hc)];exact hp
   ·rw[lN a2',PC ho hp (th hm) a2'];exact h
  ·obtain⟨co,cid⟩:=jh (ml:=ml) ho;unfold one at h ⊢;rw[eo,ho] at h;rw[ho];have hL':=mz hC hL hp hx;rcases zG co hmi.2.1 with ⟨c3,al⟩|⟨c4,al⟩
   ·-- a call that may change variables:p has no memory
    have p0:aI C.SU ml p=0:=ae
    have hup:up=none:=by
     rcases fX (ml:=ml) hp with e|e|⟨e,_⟩
     ·exact e
     ·omega
     ·omega
    subst hup
    have h1:df C (lvl C.SU (some ml) o) (F.bO p.dst x) H d w λr _ H' w2=>k ((F.bO p.dst x).bO o.dst r) H' w2:=df.mono hL' h λr F' H' w2 _ _ _ hF hv=>by
     rw[hF ae] at hv;exact hv
    refine df.mono hL (df.frame (F1:=F) (j:=λr H' w2=>k ((F.bO p.dst x).bO o.dst r) H' w2) h1) λr F' H' w2 _ _ _ hF hv=> ?_;rw[hF ae]
    have:one C (some ml) full p k (F.bO o.dst r) H' w2:=by
     refine (cQ (Ψ:=Ψp) (u:=none) ?_).2 ⟨x,hx,?_⟩
     ·rw[show stepOf C full (F.bO o.dst r) H' p=stepOf C full F H p from (ea a3).trans (fR (my (ml:=ml) (.inl p0)))];exact hp
     ·rw[lN a2'];exact hv
    exact this
   ·rw[al] at h ⊢
    have h1:df C 0 (F.bO p.dst x) (H.upd up) d w λr _ _ w2=>k ((F.bO p.dst x).bO o.dst r) (H.upd up) w2:=df.mono hL' h λr F' H' w2 _ _ hH hF hv=>by
     rw[hF ae,hH rfl] at hv;exact hv
    have hids:∀ i,Reach (H.upd up) d.ids i->H i=(H.upd up) i:=by
     rcases fX (ml:=ml) hp with e|e|⟨e,d',c,hd,e2,h0⟩
     ·rw[e];exact λ_ _=>aa
     ·omega
     ·rw[e2]
      have PD:∀ i,Reach H d.ids i->(H.put d' c) i=H i:=λi hi=>by
       rw[Hp.du,if_neg];intro e3;exact uJ hL.hp (cid hc) hi (e3▸h0)
      exact λi hi=>(PD i (Js PD hi)).symm
    have h2:=df.frame (F1:=F) (j:=λr _ w2=>k ((F.bO p.dst x).bO o.dst r) (H.upd up) w2) (df.heap (H':=H) (j:=λr w2=>k ((F.bO p.dst x).bO o.dst r) (H.upd up) w2) hids h1);refine df.mono hL h2 λr F' H' w2 _ _ hH hF hv=> ?_;rw[hH rfl,hF ae]
    have:one C (some ml) full p k (F.bO o.dst r) H w2:=by
     refine (cQ (Ψ:=Ψp) (u:=up) ?_).2 ⟨x,hx,?_⟩
     ·rw[show stepOf C full (F.bO o.dst r) H p=stepOf C full F H p from ea a3];exact hp
     ·rw[lN a2'];exact hv
    exact this
 ·obtain⟨cp,cid⟩:=jh (ml:=ml) hp
  have h':df C (lvl C.SU (some ml) p) F H d w λr F' H' w2=>one C (some ml) full o k (F'.bO p.dst r) H' w2:=by
   unfold one at h;rw[hp] at h;exact h
  rcases zG cp hmi.1 with ⟨c3,al⟩|⟨c4,al⟩
  ·have o0:aI C.SU ml o=0:=by omega
   have eo:∀ (r:AV) (H':Hp),stepOf C full (F.bO p.dst r) H' o=stepOf C full F H o:=λr H'=>(ea a1).trans (fR (my (ml:=ml) (.inl o0)));rcases gX (C:=C) (stepOf C full F H o) with ho|⟨Ψo,uo,ho⟩|⟨d',ho⟩
   ·obtain⟨r,F',H',w2,_,hF,hv⟩:=h'.some hL;rw[hF ae] at hv;unfold one at hv;rw[eo r H',ho] at hv;exact hv.elim
   ·have huo:uo=none:=by
     rcases fX (ml:=ml) ho with e|e|⟨e,_⟩
     ·exact e
     ·omega
     ·omega
    subst huo;obtain⟨r,F',H',w2,_,hF,hv⟩:=h'.some hL;rw[hF ae] at hv;obtain⟨y,hy,_⟩:=(cQ (by rw[eo r H'];exact ho)).1 hv;refine (cQ ho).2 ⟨y,hy,?_⟩;have ep:stepOf C full (F.bO o.dst y) (H.upd none) p=.call d:=(ea a3).trans hp;unfold one;rw[ep]
    have h1:df C (lvl C.SU (some ml) p) F H d w λr _ H' w2=>k ((F.bO o.dst y).bO p.dst r) H' w2:=df.mono hL h' λr F' H' w2 _ _ _ hF hv=>by
     rw[hF ae] at hv;obtain⟨z,hz,hv⟩:=(cQ (by rw[eo r H'];exact ho)).1 hv;rw[CN ho hy hz,lN a2'];exact hv
    exact df.mono (mz hC hL ho hy) (df.frame (F1:=F.bO o.dst y) (j:=λr H' w2=>k ((F.bO o.dst y).bO p.dst r) H' w2) h1) λr F' H' w2 _ _ _ hF hv=>by
     rw[hF ae];exact hv
   ·obtain⟨co,_⟩:=jh (ml:=ml) ho;omega
  ·rw[al] at h';have eo:∀ r:AV,stepOf C full (F.bO p.dst r) H o=stepOf C full F H o:=λr=>ea a1
   have h2:df C 0 F H d w λr _ _ w2=>one C (some ml) full o k (F.bO p.dst r) H w2:=df.mono hL h' λr F' H' w2 _ _ hH hF hv=>by
    rw[hH rfl,hF ae] at hv;exact hv
   rcases gX (C:=C) (stepOf C full F H o) with ho|⟨Ψo,uo,ho⟩|⟨d',ho⟩
   ·obtain⟨r,F',H',w2,_,_,hv⟩:=h2.some hL;unfold one at hv;rw[eo r,ho] at hv;exact hv.elim
   ·obtain⟨r,F',H',w2,_,_,hv⟩:=h2.some hL;obtain⟨y,hy,_⟩:=(cQ (by rw[eo r];exact ho)).1 hv;refine (cQ ho).2 ⟨y,hy,?_⟩;have ep:stepOf C full (F.bO o.dst y) (H.upd uo) p=.call d:=((ea a3).trans (vX ho (th hm) a2' hc)).trans hp;unfold one;rw[ep,al]
    have hids:∀ i,Reach H d.ids i->(H.upd uo) i=H i:=λi hi=>by
     rcases fX (ml:=ml) ho with e|e|⟨e,d',c,hd,e2,h0⟩
     ·rw[e];rfl
     ·omega
     ·rw[e2];show (H.put d' c) i=H i;rw[Hp.du,if_neg];intro e3;exact uJ hL.hp (cid hc) hi (e3▸h0)
    have h3:=df.frame (F1:=F.bO o.dst y) (j:=λr H' w2=>one C (some ml) full o k (F.bO p.dst r) H w2) (df.heap (H':=H.upd uo) (j:=λr w2=>one C (some ml) full o k (F.bO p.dst r) H w2) hids h2);refine df.mono (mz hC hL ho hy) h3 λr F' H' w2 _ _ hH hF hv=> ?_;obtain⟨z,hz,hv⟩:=(cQ (by rw[eo r];exact ho)).1 hv;rw[hH rfl,hF ae,CN ho hy hz,lN a2'];exact hv
   ·obtain⟨co,_⟩:=jh (ml:=ml) ho;omega
theorem zH (hC:C.Ok) {k':Fr->Hp->World->Prop} (hL:Live C F H w) (h:one C (some ml) full p k F H w) (hk:∀ F' H' w',Live C F' H' w'->k F' H' w'->k' F' H' w'):one C (some ml) full p k' F H w:=by
 rcases gX (C:=C) (stepOf C full F H p) with hp|⟨Ψp,up,hp⟩|⟨d,hp⟩
 ·unfold one at h;rw[hp] at h;exact h.elim
 ·obtain⟨x,hx,h⟩:=(cQ hp).1 h;exact (cQ hp).2 ⟨x,hx,hk _ _ _ (mz hC hL hp hx) h⟩
 ·have hb:stepOf C full F H p≠.bad:=λe=>by rw[e] at hp;cases hp
  have hd:=(gW hb).1;unfold one at h ⊢;rw[hp] at h ⊢;refine df.mono hL h λr F' H' w2 hL2 FP _ _ hv=>hk _ _ _ ?_ hv;obtain⟨β,a,w1,hr,yv⟩:=hL2.rel;exact Live.of (hr.put hd FP) yv
theorem PE (hC:C.Ok) {K:Fr->Hp->World->Prop} {post:List Oper}:∀ (pre:List Oper) (F:Fr) (H:Hp) (w:World),(∀ q∈pre,indep C.SU ml full q o=true)->Live C F H w->aE C (some ml) full (pre++o::post) K F H w->aE C (some ml) full (o::(pre++post)) K F H w
 | [],F,H,w,_,_,h=>h
 | q::r,F,H,w,hi,hL,h=>by
   have h1:one C (some ml) full q (aE C (some ml) full (o::(r++post)) K) F H w:=zH hC hL (show one C (some ml) full q (aE C (some ml) full (r++o::post) K) F H w from h) λF' H' w' hL' hv=>PE hC r F' H' w' (λq' hq'=>hi q' (by simp[hq'])) hL' hv;exact swap hC hL (hi q cf) h1
end
section
variable {C:Cx} {full:Array Oper} {ml:List FuncId} {Q:Exit->Act->World->Prop}
theorem GC {j d:Nat} {o:Oper} (ho:full[j]? =some o):d∈ez full j↔∃ e∈o.after.toList,Region.binds .any e=true/\e.on=d:=by
 unfold ez;rw[ho];simp only[List.mem_map,List.mem_filter];exact⟨λ⟨e,⟨h1,h2⟩,h3⟩=>⟨e,h1,h2,h3⟩,λ⟨e,h1,h2,h3⟩=>⟨e,⟨h1,h2⟩,h3⟩⟩
variable {listed:Array Bool} {i:Nat}
theorem mem_ready:i∈Region.ready .any full listed↔i<full.size/\listed.getD i true=false/\∀ d∈ez full i,listed.getD d false=true:=by
 unfold Region.ready;rw[Ca,me];constructor
 ·rintro⟨h1,h2⟩;have ho:=lV h1;simp only[Bool.and_eq_true,Bool.not_eq_true',ho,Option.map_some,Option.getD_some,Array.all_eq_true_iff_forall_mem,Bool.or_eq_true] at h2;refine⟨h1,h2.1,λd hd=> ?_⟩;obtain⟨e,he,hb,rfl⟩:=(GC ho).1 hd;rcases h2.2 e (by simpa using he) with h|h
  ·rw[hb] at h;cases h
  ·exact h
 ·rintro⟨h1,h2,h3⟩;refine⟨h1,?_⟩;have ho:=lV h1;simp only[Bool.and_eq_true,Bool.not_eq_true',ho,Option.map_some,Option.getD_some,Array.all_eq_true_iff_forall_mem,Bool.or_eq_true];refine⟨h2,λe he=> ?_⟩;cases hb:Region.binds .any e with
  | false=>exact .inl aa
  | true=>exact .inr (h3 _ ((GC ho).2 ⟨e,by simpa using he,hb,rfl⟩))
theorem lF {listed:Array Bool} (uK:∀ j,j<full.size->∀ d∈ez full j,d<j) (rp:∀ j,j<full.size->listed.getD j true=true->∀ d∈ez full j,listed.getD d false=true) (hsz:listed.size=full.size) {i:Nat}:
  ∀ (f j:Nat),j<full.size->(∀ d∈ez full j,listed.getD d false=true)->reach full f j i=true->listed.getD i false=true
 | 0,j,_,hj,h=>hj i (by unfold reach at h;simpa using h)
 | f+1,j,hjs,hj,h=>by
   unfold reach at h;rcases Bool.or_eq_true _ _▸h with e|e
   ·exact hj i (by simpa using e)
   ·obtain⟨d,hd,e⟩:=List.any_eq_true.1 e;rw[gF] at e;have hdj:=uK j hjs d hd;have hl:=hj d hd;refine lF uK rp hsz f d ae (rp d ae ?_) e.2;have:d<listed.size:=ae;rw[fy] at hl ⊢;rw[lV this] at hl ⊢;exact hl
variable {K:Fr->Hp->World->Prop}
theorem CO (hC:C.Ok) (kH:mv C.SU ml full=true) (hQ:∀ β F H w a w',K F H w->Rel C β F H a w'->aK C.K w w'->Q .normal a w'):
  ∀ (fuel:Nat) (listed:Array Bool) (rem:List Nat) (β:Nat->Nat) (F:Fr) (H:Hp) (w:World) (a:Act) (w':World),listed.size=full.size->rem.Pairwise (·< ·)->(∀ x,x∈rem↔x<full.size/\listed.getD x true=false)->rem.length<=fuel->
    (∀ j,j<full.size->listed.getD j true=true->∀ d∈ez full j,listed.getD d false=true)->
    aE C (some ml) full (rem.filterMap (full[·]?)) K F H w->Rel C β F H a w'->aK C.K w w'->wpAny C.P .any full Q fuel listed a w':=by
 have uK:∀ j,j<full.size->∀ d∈ez full j,d<j:=λj hj d hd=>by
  unfold mv at kH;have:=bP.1 kH j (me.2 hj);rw[gF] at this;exact cG (bP.1 this.1 d hd)
 have Lr:∀ i j,i<j->j<full.size->oQ C.SU ml full i j=true:=λi j hij hj=>by
  unfold mv at kH;have:=bP.1 kH j (me.2 hj);rw[gF] at this;exact bP.1 this.2 i (me.2 hij)
 intro fuel
 induction fuel with
 | zero=>
   intro listed rem β F H w a w' hsz hpw tk hlen rp h hr hk;have h0:rem=[]:=mR ae;subst h0;refine⟨?_,hQ β F H w a w' h hr hk⟩;rw[Fb];intro i hi;have:=mem_ready.1 hi;exact absurd ((tk i).2 ⟨this.1,this.2.1⟩) cf
 | succ fuel ih=>
   intro listed rem β F H w a w' hsz hpw tk hlen rp h hr hk;constructor
   ·intro GD;cases rem with
    | nil=>exact hQ β F H w a w' h hr hk
    | cons i r=>
      exfalso;have hi:=(tk i).1 cf
      have:i∈Region.ready .any full listed:=mem_ready.2 ⟨hi.1,hi.2,λd hd=>by
       have hdi:=uK i hi.1 d hd;cases hl:listed.getD d true with
       | true=>
         rw[fy] at hl ⊢;have:d<listed.size:=ae;rw[lV this] at hl ⊢;exact hl
       | false=>
         have hm:=(tk d).2 ⟨ae,hl⟩;rcases dG.1 hm with e|e
         ·omega
         ·have:=(BU.1 hpw).1 d e;omega⟩
      rw[GD] at this;cases this
   ·intro i hi;obtain⟨tU,hi2,hi3⟩:=mem_ready.1 hi;obtain⟨pre,post,rfl⟩:=List.append_of_mem ((tk i).2 ⟨tU,hi2⟩);have ho:=lV tU;generalize full[i]=o at ho;have Iz:=KN.1 hpw;have hlt:∀ p∈pre,p<i:=λp hp=>Iz.2.2 p hp i cf;have hgt:∀ p∈post,i<p:=(BU.1 Iz.2.1).1
    have hb:aE C (some ml) full (o::(pre.filterMap (full[·]?)++post.filterMap (full[·]?))) K F H w:=by
     refine PE hC _ F H w (λq hq=> ?_) (Live.of hr hk) (by
      rw[List.filterMap_append,Oz ho] at h;exact h)
     obtain⟨p,hp,hpq⟩:=List.mem_filterMap.1 hq;have Oa:=((tk p).1 (by simp[hp])).2;have hpi:=hlt p hp;have:=Lr p i hpi tU;unfold oQ at this;rw[hpq,ho] at this;simp only[Bool.or_eq_true] at this
     have hno:listed.getD p false=false:=by
      have:p<listed.size:=ae;rw[fy] at Oa ⊢;rw[lV this] at Oa ⊢;exact Oa
     rcases this with e|e
     ·exact e
     ·have:=lF uK rp hsz full.size i tU hi3 e;rw[hno] at this;cases this
    have DY:one C (some ml) full o (aE C (some ml) full ((pre++post).filterMap (full[·]?)) K) F H w:=by
     rw[List.filterMap_append];exact hb
    have:=oP (Q:=Q) (next:=wpAny C.P .any full Q fuel (listed.setIfInBounds i true)) hC DY hr hk λbM F' H' w1 a' bI h1 h2 h3=>by
     refine ih (listed.setIfInBounds i true) (pre++post) bM F' H' w1 a' bI (by simp[hsz]) ?_ ?_ ?_ ?_ h1 h2 h3
     ·exact KN.2 ⟨Iz.1,(BU.1 Iz.2.1).2,λx hx y hy=>Iz.2.2 x hx y (by simp[hy])⟩
     ·intro x;by_cases hx:x=i
      ·subst hx;constructor
       ·intro hm;rcases lp.1 hm with e|e
        ·exact absurd (hlt _ e) ae
        ·exact absurd (hgt _ e) ae
       ·rintro⟨_,e⟩;simp[Array.getD_eq_getD_getElem?,Array.getElem?_setIfInBounds,hsz,tU] at e
      ·have e1:(listed.setIfInBounds i true).getD x true=listed.getD x true:=by
        rw[fy,xc,if_neg (λe=>hx e.symm),<-fy]
       rw[e1,<-tk x];simp[hx]
     ·have:(pre++i::post).length=(pre++post).length+1:=by simp;omega
      omega
     ·intro j hj hl d hd
      have vx:listed.getD d false=true->(listed.setIfInBounds i true).getD d false=true:=λe=>by
       by_cases hx:d=i
       ·subst hx;simp[Array.getD_eq_getD_getElem?,Array.getElem?_setIfInBounds,hsz,tU]
       ·rw[fy,xc,if_neg (λe=>hx e.symm),<-fy];exact e
      by_cases hx:j=i
      ·subst hx;exact vx (hi3 d hd)
      ·refine vx (rp j hj ?_ d hd)
       rwa [fy,xc,if_neg (λe=>hx e.symm),<-fy] at hl
    unfold wpOp;rw[ho];simp only
    split
    ·rename_i hw;rw[if_pos hw] at this;exact .inl this
    ·rename_i hw;rw[if_neg hw] at this;exact this
theorem vY:∀ (l:List Oper) (k:Nat),(∀ j,l[j]? =full[k+j]?)->(List.range' k l.length).filterMap (full[·]?)=l
 | [],_,_=>rfl
 | o::l,k,h=>by
   rw[tX,List.range'_succ,Oz (b:=o) (by simpa using (h 0).symm),vY l (k+1) (λj=>by
    have:=h (j+1);simpa [Nat.add_assoc,Nat.add_comm 1 j] using this)]
variable {a:Act} {F:Fr} {H:Hp} {β:Nat->Nat} {w:World}
theorem Rel.drew (hr:Rel C β F H a w):Rel C β F H a w.drew:=
 ⟨hr.defers,hr.size,hr.tmp,λi t cs h=>⟨(hr.own i t cs h).new,(hr.own i t cs h).ty,(hr.own i t cs h).cls,(hr.own i t cs h).ok⟩,hr.apart,hr.closed,hr.fits,hr.hp,C.aG hr.old ((ax.refl _).drew)⟩
variable {w':World}
theorem aK.drew {K:KC} (h:aK K w w'):aK K w w'.drew:=⟨h.size,h.cell,h.block,h.map⟩
variable {id:Nat}
theorem DZ (hC:C.Ok) (hm:C.P.follows .mixedOrders=true) (kH:mv C.SU ml full=true) (hQ:∀ β F H w a w',K F H w->Rel C β F H a w'->aK C.K w w'->Q .normal a w')
  (h:aE C (some ml) full full.toList K F H w) (hr:Rel C β F H a w') (hk:aK C.K w w'):(Code.region id full true).wp C.P Q a w':=by
 refine wp_region_any hm ?_;refine CO hC kH hQ full.size (Array.replicate full.size false) (List.range full.size) β F H w a w'.drew cf List.pairwise_lt_range ?_ cf ?_ ?_ hr.drew hk.drew
 ·intro x;rw[me];constructor
  ·intro hx;refine⟨hx,?_⟩;simp[Array.getD_eq_getD_getElem?,Array.getElem?_replicate,hx]
  ·exact λh=>h.1
 ·intro j hj hl;simp[Array.getD_eq_getD_getElem?,Array.getElem?_replicate,hj] at hl
 ·have:(List.range full.size).filterMap (full[·]?)=full.toList:=by
   rw[List.range_eq_range',<-yK];exact vY full.toList 0 (λj=>cf)
  rw[this];exact h
def GF (l:List Nat) (p:Nat->Prop):Prop:=match l with
 | []=>True
 | i::r=>p i/\GF r p
theorem GG {p:Nat->Prop}:∀ {l:List Nat},GF l p->∀ i∈l,p i
 | j::r,h,i,hi=>by
   rcases dG.1 hi with rfl|e
   ·exact h.1
   ·exact GG h.2 i e
def xR (l:List Nat) (i:Nat):Bool:=l.any (Nat.beq i)
theorem uL {l:List Nat}:xR l i=true↔i∈l:=by
 unfold xR;rw[List.any_eq_true];exact⟨λ⟨y,hy,e⟩=>(lW e)▸hy,λh=>⟨i,h,cf⟩⟩
def rdy (full:Array Oper) (done:List Nat):List Nat:=(List.range full.size).filter λi=> !(xR done i) && (ez full i).all (xR done)
def Lists (full:Array Oper) (done:List Nat) (listed:Array Bool):Prop:=listed.size=full.size/\(∀ i,i<full.size->(listed.getD i true=true↔i∈done))/\∀ i∈done,i<full.size
theorem vZ {done:List Nat} (h:Lists full done listed):i∈Region.ready .any full listed↔i∈rdy full done:=by
 rw[mem_ready];unfold rdy;rw[Ca,me,gF,bP]
 have hf:∀ d,listed.getD d false=true↔d<full.size/\d∈done:=λd=>by
  by_cases hd:d<full.size
  ·have hl:d<listed.size:=by rw[h.1];exact hd
   have:=h.2.1 d hd;rw[fy] at this ⊢;rw[lV hl] at this ⊢;exact⟨λe=>⟨hd,this.1 e⟩,λe=>this.2 e.2⟩
  ·have hl:¬ d<listed.size:=by rw[h.1];exact hd
   rw[fy,Array.getElem?_eq_none ae];exact⟨λe=>(by cases e),λe=>absurd e.1 hd⟩
 constructor
 ·rintro⟨h1,h2,h3⟩;refine⟨h1,?_,λd hd=>uL.2 ((hf d).1 (h3 d hd)).2⟩;cases hb:xR done i with
  | false=>rfl
  | true=>
    have:=(h.2.1 i h1).2 (uL.1 hb);rw[h2] at this;cases this
 ·rintro⟨h1,h2,h3⟩;refine⟨h1,?_,λd hd=>(hf d).2 ?_⟩
  ·cases hb:listed.getD i true with
   | false=>rfl
   | true=>
     rw[uL.2 ((h.2.1 i h1).1 hb)] at h2;cases h2
  ·have:=uL.1 (h3 d hd);exact⟨h.2.2 d this,this⟩
def ry (C:Cx) (ml:List FuncId) (full:Array Oper):Nat->List Nat->(Fr->Hp->World->Prop)->Fr->Hp->World->Prop
 | 0,_,K,F,H,w=>K F H w
 | f+1,done,K,F,H,w=>match rdy full done with
   | []=>K F H w
   | l=>GF l λi=>match full[i]? with
     | some o=>one C (some ml) full o (ry C ml full f (i::done) K) F H w
     | none=>False
theorem GH (hC:C.Ok) (hQ:∀ β F H w a w',K F H w->Rel C β F H a w'->aK C.K w w'->Q .normal a w'):
  ∀ (f:Nat) (done:List Nat) (listed:Array Bool) (β:Nat->Nat) (F:Fr) (H:Hp) (w:World) (a:Act) (w':World),Lists full done listed->((List.range full.size).filter λi=> !xR done i).length<=f->ry C ml full f done K F H w->Rel C β F H a w'->aK C.K w w'->wpAny C.P .any full Q f listed a w':=by
 intro f
 induction f with
 | zero=>
   intro done listed β F H w a w' hL hf h hr hk;refine⟨?_,hQ β F H w a w' h hr hk⟩;rw[Fb];intro i hi;have vS:=(vZ hL).1 hi;unfold rdy at vS;rw[Ca,gF] at vS;have:i∈(List.range full.size).filter λi=> !xR done i:=Ca.2 ⟨vS.1,vS.2.1⟩;rw[mR (Nat.le_zero.1 hf)] at this;cases this
 | succ f ih=>
   intro done listed β F H w a w' hL hf h hr hk;unfold ry at h;constructor
   ·intro GD
    have:rdy full done=[]:=by
     rw[Fb];intro i hi;have:=(vZ hL).2 hi;rw[GD] at this;cases this
    rw[this] at h;exact hQ β F H w a w' h hr hk
   ·intro i hi
    have h':GF (rdy full done) λi=>match full[i]? with
     | some o=>one C (some ml) full o (ry C ml full f (i::done) K) F H w
     | none=>False:=by
     cases hl:rdy full done with
     | nil=>exact aj
     | cons x r=>rw[hl] at h;exact h
    have vS:=(vZ hL).1 hi;have DY:=GG h' i vS;obtain⟨tU,hi2,_⟩:=mem_ready.1 hi;unfold rdy at vS;rw[Ca,gF] at vS;have ho:=lV tU;generalize full[i]=o at ho;rw[ho] at DY
    have:=oP (Q:=Q) (next:=wpAny C.P .any full Q f (listed.setIfInBounds i true)) hC DY hr hk λbM F' H' w1 a' bI h1 h2 h3=>
     ih (i::done) (listed.setIfInBounds i true) bM F' H' w1 a' bI ⟨by simp[hL.1],λj hj=>by
      by_cases e:j=i
      ·subst e;have hl:j<listed.size:=by rw[hL.1];exact hj
       simp[Array.getD_eq_getD_getElem?,Array.getElem?_setIfInBounds,hl]
      ·rw[fy,xc,if_neg (λe'=>e e'.symm),<-fy,hL.2.1 j hj];simp[e],λj hj=>by
      rcases dG.1 hj with e|e
      ·rw[e];exact tU
      ·exact hL.2.2 j e⟩ (by
      have e1:((List.range full.size).filter λj=> !xR (i::done) j)=((List.range full.size).filter λj=> !xR done j).filter λj=> !Nat.beq j i:=by
       rw[List.filter_filter]
       congr 1
       funext j
       show (!(Nat.beq j i || xR done j))=_;rw[Bool.not_or]
      have hlt:(((List.range full.size).filter λj=> !xR done j).filter λj=> !Nat.beq j i).length<((List.range full.size).filter λj=> !xR done j).length:=
       List.length_filter_lt_length_iff_exists.2 ⟨i,Ca.2 ⟨vS.1,vS.2.1⟩,cf⟩
      rw[e1];omega) h1 h2 h3
    unfold wpOp;rw[ho];simp only
    split
    ·rename_i hw;rw[if_pos hw] at this;exact .inl this
    ·rename_i hw;rw[if_neg hw] at this;exact this
theorem Ju (hC:C.Ok) (hm:C.P.follows .mixedOrders=true) (hQ:∀ β F H w a w',K F H w->Rel C β F H a w'->aK C.K w w'->Q .normal a w')
  (h:ry C ml full full.size [] K F H w) (hr:Rel C β F H a w') (hk:aK C.K w w'):(Code.region id full true).wp C.P Q a w':=by
 refine wp_region_any hm ?_;refine GH hC hQ full.size [] (Array.replicate full.size false) β F H w a w'.drew ⟨cf,λi hi=> ?_,λi hi=>(by cases hi)⟩ ?_ h hr.drew hk.drew
 ·simp[Array.getD_eq_getD_getElem?,Array.getElem?_replicate,hi]
 ·exact aV (List.length_filter_le _ _) cf
end
inductive It where
 | code (c:Code)
 | jd (id:Nat)
 | back (Φ:Act->World->Prop)
 | scope
def post (P:Program) (Q:Exit->Act->World->Prop):List It->Exit->Act->World->Prop
 | []=>Q
 | .code c::k=>Exit.then (λa w=>c.wp P (post P Q k) a w) (post P Q k)
 | .jd id::k=>Exit.inBlock id (post P Q k)
 | .back Φ::k=>Exit.then Φ (post P Q k)
 | .scope::k=>Exit.noGoto (post P Q k)
def VS (C:Cx) (Q:Exit->Act->World->Prop) (stk:List It) (F:Fr) (H:Hp) (w:World):Prop:=
 ∀ β a w',Rel C β F H a w'->aK C.K w w'->post C.P Q stk .normal a w'
def pop (id:Nat):List It->Option (List It)
 | []=>none
 | .code _::k=>pop id k
 | .back _::k=>pop id k
 | .scope::k=>pop id k
 | .jd i::k=>bif Nat.beq id i then some k else pop id k
def Fr.of (L:List (Nat×AV)):Fr:=λn=>match L with
 | []=>none
 | (d,v)::r=>bif Nat.beq n d then some v else Fr.of r n
def Hp.of (L:List (Nat×(TypeId×List AV))):Hp:=λn=>match L with
 | []=>none
 | (d,v)::r=>bif Nat.beq n d then some v else Hp.of r n
def zI (F:Fr):List (Nat×AV)->Prop
 | []=>True
 | p::r=>F p.1=some p.2/\zI F r
def tn (H:Hp):List (Nat×(TypeId×List AV))->Prop
 | []=>True
 | p::r=>H p.1=some p.2/\tn H r
def inM (M:List (Nat×(TypeId×List AV))) (i:Nat):Bool:=M.any λq=>Nat.beq i q.1
def Ea (L:List (Nat×AV)) (M:List (Nat×(TypeId×List AV))):Bool:=L.all λp=>p.2.ids.all λi=>inM M i
def dh (M:List (Nat×(TypeId×List AV))) (cs:List AV):Prop:=∀ j∈bj cs,inM M j=true
def pW (M:List (Nat×(TypeId×List AV))):List (Nat×(TypeId×List AV))->Prop
 | []=>True
 | p::r=>dh M p.2.2/\pW M r
variable {M:List (Nat×(TypeId×List AV))} {cs:List AV}
theorem dh.lit (h:(bj cs).all (inM M)=true):dh M cs:=λj hj=>bP.1 h j hj
theorem dh.none (h:bj cs=[]):dh M cs:=λj hj=>by rw[h] at hj;cases hj
theorem dh.vals (vs:List Value):dh M (vs.map .val):=.none (ah vs)
theorem dh.append {ds:List AV} (h:dh M cs) (k:dh M ds):dh M (cs++ds):=λj hj=>by
 rw[iT] at hj;exact (lp.1 hj).elim (h j) (k j)
theorem pW.mem {M:List (Nat×(TypeId×List AV))}:∀ {r:List (Nat×(TypeId×List AV))},pW M r->∀ p∈r,dh M p.2.2
 | [],_,p,hp=>by cases hp
 | q::r,h,p,hp=>by
   rcases dG.1 hp with rfl|e
   ·exact h.1
   ·exact pW.mem h.2 p e
section
variable {C:Cx} {Q:Exit->Act->World->Prop} {k:List It} {F:Fr} {H:Hp} {w:World}
theorem Fr.gZ:∀ {L:List (Nat×AV)} {d:Nat} {v:AV},Fr.of L d=some v->(d,v)∈L
 | [],d,v,h=>by unfold Fr.of at h;cases h
 | (e,u)::r,d,v,h=>by
   unfold Fr.of at h;cases hb:Nat.beq d e with
   | true=>
     rw[hb] at h;cases h;rw[lW hb];simp
   | false=>
     rw[hb] at h;exact qH _ (Fr.gZ h)
theorem Hp.gZ:∀ {L:List (Nat×(TypeId×List AV))} {d:Nat} {v:TypeId×List AV},Hp.of L d=some v->(d,v)∈L
 | [],d,v,h=>by unfold Hp.of at h;cases h
 | (e,u)::r,d,v,h=>by
   unfold Hp.of at h;cases hb:Nat.beq d e with
   | true=>
     rw[hb] at h;cases h;rw[lW hb];simp
   | false=>
     rw[hb] at h;exact qH _ (Hp.gZ h)
theorem zI.mem:∀ {L:List (Nat×AV)},zI F L->∀ d v,(d,v)∈L->F d=some v
 | p::r,h,d,v,hm=>by
   rcases dG.1 hm with e|e
   ·have:=h.1;rw[<-e] at this;exact this
   ·exact zI.mem h.2 d v e
theorem tn.mem:∀ {L:List (Nat×(TypeId×List AV))},tn H L->∀ d v,(d,v)∈L->H d=some v
 | p::r,h,d,v,hm=>by
   rcases dG.1 hm with e|e
   ·have:=h.1;rw[<-e] at this;exact this
   ·exact tn.mem h.2 d v e
theorem Hp.Eb:∀ {M:List (Nat×(TypeId×List AV))} {i:Nat},inM M i=true->Hp.of M i≠none
 | (e,u)::r,i,h=>by
   unfold Hp.of;cases hb:Nat.beq i e with
   | true=>simp
   | false=>
     unfold inM at h;rw[List.any_cons,hb] at h;exact Hp.Eb h
variable {β:Nat->Nat}
theorem Rel.narrow {a:Act} (hr:Rel C β F H a w) {L:List (Nat×AV)} {M:List (Nat×(TypeId×List AV))} (h1:zI F L) (h2:tn H M) (h3:Ea L M=true) (h4:pW M M):Rel C β (Fr.of L) (Hp.of M) a w:=by
 have key:∀ i,Hp.of M i≠none->H i≠none:=λi hi=>by
  cases hh:Hp.of M i with
  | none=>exact absurd hh hi
  | some c=>rw[h2.mem i c (Hp.gZ hh)];simp
 refine⟨hr.defers,hr.size,λd v h=>hr.tmp d v (h1.mem d v (Fr.gZ h)),λi t cs h=>hr.own i t cs (h2.mem i _ (Hp.gZ h)),λi j hi hj e=>hr.apart i j (key i hi) (key j hj) e,λd v h i hi=> ?_,λd v h=>hr.fits d v (h1.mem d v (Fr.gZ h)),
  ⟨λi t cs h=>hr.hp.ok i t cs (h2.mem i _ (Hp.gZ h)),λi t cs h j hj=>Hp.Eb (h4.mem _ (Hp.gZ h) j hj),λi hi=> ?_⟩,hr.old⟩
 ·have:=bP.1 h3 _ (Fr.gZ h);exact Hp.Eb (bP.1 this i hi)
 ·cases hh:Hp.of M i with
  | none=>rfl
  | some c=>exact absurd (hr.hp.few i hi) (key i (by rw[hh];simp))
theorem VS.narrow (L:List (Nat×AV)) (M:List (Nat×(TypeId×List AV))) (h1:zI F L) (h2:tn H M) (h3:Ea L M=true) (h4:pW M M) (h:VS C Q k (Fr.of L) (Hp.of M) w):VS C Q k F H w:=
 λβ a w' hr hk=>h β a w' (hr.narrow h1 h2 h3 h4) hk
theorem VS.now (h:∀ w',aK C.K w w'->C.Old w'->VS C Q k F H w'):VS C Q k F H w:=λβ a w' hr hk=>h w' hk hr.old β a w' hr (aK.refl _ _)
theorem VS.skip (h:VS C Q k F H w):VS C Q (.code .skip::k) F H w:=λβ a w' hr hk=>wp_skip (h β a w' hr hk)
variable {x y:Code}
theorem VS.seq (h:VS C Q (.code x::.code y::k) F H w):VS C Q (.code (.seq x y)::k) F H w:=λβ a w' hr hk=>wp_seq (h β a w' hr hk)
variable {id:Nat}
theorem VS.block {c:Code} (h:VS C Q (.code c::.jd id::k) F H w):VS C Q (.code (.block id c)::k) F H w:=λβ a w' hr hk=>wp_block (h β a w' hr hk)
theorem VS.jd (h:VS C Q k F H w):VS C Q (.jd id::k) F H w:=h
variable {c:Operand}
theorem VS.cond {b:Bool} (hc:jW F c=some (.bool b)) (h:VS C Q (.code (bif b then x else y)::k) F H w):VS C Q (.code (.cond c x y)::k) F H w:=λβ a w' hr hk=>
 wp_cond (t:=b) (hr.jW hc) (by cases b <;> exact h β a w' hr hk)
theorem VS.condT (hc:jW F c=some (.bool true)) (h:VS C Q (.code x::k) F H w):VS C Q (.code (.cond c x y)::k) F H w:=VS.cond hc h
theorem VS.condF (hc:jW F c=some (.bool false)) (h:VS C Q (.code y::k) F H w):VS C Q (.code (.cond c x y)::k) F H w:=VS.cond hc h
theorem VS.GI {b:Bool} (b':Bool) (hc:jW F c=some (.bool b)) (hb:b=b') (h:VS C Q (.code (bif b' then x else y)::k) F H w):VS C Q (.code (.cond c x y)::k) F H w:=VS.cond hc (hb▸h)
theorem VS.bB {b:Bool} (hc:jW F c=some (.bool b)) (hb:b=true) (h:VS C Q (.code x::k) F H w):VS C Q (.code (.cond c x y)::k) F H w:=VS.GI true hc hb h
theorem VS.bC {b:Bool} (hc:jW F c=some (.bool b)) (hb:b=false) (h:VS C Q (.code y::k) F H w):VS C Q (.code (.cond c x y)::k) F H w:=VS.GI false hc hb h
theorem rz {P:Program} {id:Nat}:∀ {stk k:List It} {a:Act} {w:World},pop id stk=some k->post P Q k .normal a w->post P Q stk (.exit id) a w
 | .code _::s,k,a,w,h,hp=>rz (stk:=s) h hp
 | .back _::s,k,a,w,h,hp=>rz (stk:=s) h hp
 | .scope::s,k,a,w,h,hp=>rz (stk:=s) h hp
 | .jd i::s,k,a,w,h,hp=>by
   unfold pop at h;show Exit.inBlock i _ (.exit id) a w;unfold Exit.inBlock;cases hb:Nat.beq id i with
   | true=>
     rw[hb] at h;cases h;simp only;rw[if_pos (lW hb)];exact hp
   | false=>
     rw[hb] at h;simp only;rw[if_neg (λe=>by rw[e,Nat.beq_refl] at hb;cases hb)];exact rz (stk:=s) h hp
theorem VS.exit {k':List It} (hp:pop id k=some k') (h:VS C Q k' F H w):VS C Q (.code (.exit id)::k) F H w:=λβ a w' hr hk=>wp_exit (rz hp (h β a w' hr hk))
variable {ops:Array Oper}
theorem VS.region (hC:C.Ok) (h:aE C none ops ops.toList (VS C Q k) F H w):VS C Q (.code (.region id ops false)::k) F H w:=λβ a w' hr hk=>
 wp_region_list (zE hC (λβ F H w a w' h hr hk=>h β a w' hr hk) ops.toList β F H w a w' h hr hk)
theorem VS.draw (hC:C.Ok) (hm:C.P.follows .mixedOrders=true) (ml:List FuncId) (kH:mv C.SU ml ops=true) (h:aE C (some ml) ops ops.toList (VS C Q k) F H w):VS C Q (.code (.region id ops true)::k) F H w:=λβ a w' hr hk=>
 DZ hC hm kH (λβ F H w a w' h hr hk=>h β a w' hr hk) h hr hk
theorem VS.GJ (hC:C.Ok) (hm:C.P.follows .mixedOrders=true) (n:Nat) (hn:ops.size=n) (h:ry C [] ops n [] (VS C Q k) F H w):VS C Q (.code (.region id ops true)::k) F H w:=λβ a w' hr hk=>
 Ju (ml:=[]) (K:=VS C Q k) hC hm (λβ F H w a w' h hr hk=>h β a w' hr hk) (by rw[hn];exact h) hr hk
def Entry (J:Nat->List (Nat×AV)->List (Nat×(TypeId×List AV))->World->Prop) (n:Nat) (F:Fr) (H:Hp) (w:World):Prop:=
 ∃ L M,zI F L/\tn H M/\Ea L M=true/\pW M M/\J n L M w
def Held (C:Cx) (J:Nat->List (Nat×AV)->List (Nat×(TypeId×List AV))->World->Prop) (n:Nat) (a:Act) (w:World):Prop:=
 ∃ β L M w1,J n L M w1/\Rel C β (Fr.of L) (Hp.of M) a w/\aK C.K w1 w
variable {J:Nat->List (Nat×AV)->List (Nat×(TypeId×List AV))->World->Prop}
theorem VS.loop {body:Code} (n0:Nat) (h0:Entry J n0 F H w)
  (round:∀ n L M w,J n L M w->VS C Q (.code body::.back (λa w=>∃ m,m<n/\Held C J m a w)::k) (Fr.of L) (Hp.of M) w):VS C Q (.code (.loop body)::k) F H w:=λβ a w' hr hk=>by
 obtain⟨L,M,h1,h2,h3,h4,h5⟩:=h0;refine wp_loop_ghost (Held C J) n0 ⟨β,L,M,w,h5,hr.narrow h1 h2 h3 h4,hk⟩ ?_;rintro n a1 w1 ⟨nA,L1,M1,wl,hJ,yV,yv⟩;exact round n L1 M1 wl hJ nA a1 w1 yV yv
theorem VS.back {n:Nat} (m:Nat) (hm:m<n) (h:Entry J m F H w):VS C Q (.back (λa w=>∃ m,m<n/\Held C J m a w)::k) F H w:=λβ a w' hr hk=>by
 obtain⟨L,M,h1,h2,h3,h4,h5⟩:=h;exact⟨m,hm,β,L,M,w,h5,hr.narrow h1 h2 h3 h4,hk⟩
def jQ (C:Cx) (F:Fr) (H:Hp):List ResultVar->Option (List AV)
 | []=>some []
 | .tmp t::r=>match F t,jQ C F H r with|some v,some l=>(bif gT v then some (v::l) else none)|_,_=>none
 | .cell x t::r=>match F x,C.ti t,jQ C F H r with
   | some (.box b off),some i,some l=>(match H b with
     | some (_,cs)=>bif Nat.ble (off+i.size) cs.length then jw ((cs.drop off).take i.size) (λq=>bif i.agg then MH q (λv=>some (v::l)) else (match q with|x::_=>some (x::l)|[]=>none)) else none
     | none=>none)
   | _,_,_=>none
def mj:List Value->Value
 | [v]=>v
 | l=>.tuple l.toArray
def MS (tmps:Array Value):ResultVar->Sem Value
 | .tmp t=>pure (tmps.getD t undef)
 | .cell x t=>do loadVar t (<-asAddr (tmps.getD x undef))
theorem wh (hC:C.Ok) {β:Nat->Nat} {a:Act} (hr:Rel C β F H a w):∀ {l:List ResultVar} {vs:List AV},jQ C F H l=some vs->
  (l.mapM (MS a.tmps)).run C.P w=.ok (vs.map (AV.bu β)) w
 | [],vs,h=>by cases h;rfl
 | .tmp t::r,vs,h=>by
   unfold jQ at h
   split at h
   ·rename_i v l hv hl;cases hn:gT v with
    | false=>rw[hn] at h;cases h
    | true=>
      rw[hn] at h;cases h;have e1:a.tmps.getD t undef=v.bu β:=hr.tmp t v hv;have e2:(MS a.tmps (.tmp t)).run C.P w=.ok (v.bu β) w:=by show (pure (a.tmps.getD t undef):Sem Value).run C.P w=_;rw[e1];rfl
      have:=wh hC hr hl;simp only[List.mapM_cons,Sem.run_bind,e2,Result.andThen_ok,this,Sem.run_pure,List.map_cons]
   ·cases h
 | .cell x t::r,vs,h=>by
   unfold jQ at h
   split at h
   ·rename_i b off i l hx hi hl
    split at h
    ·rename_i tb cs hb;cases hz:Nat.ble (off+i.size) cs.length with
     | false=>rw[hz] at h;cases h
     | true=>
       rw[hz,cond_true,de] at h;have hle:=cG hz;have hlen:((cs.drop off).take i.size).length=i.size:=by rw[cE,jN];omega
       have mO:((cs.drop off).take i.size).all bm=true:=bP.2 λy hy=>bP.1 (hr.own b tb cs hb).ok y (qI (lX hy))
       have Oe:vs=oK i ((cs.drop off).take i.size)::l:=by
        unfold oK;cases hg:i.agg with
        | true=>rw[hg,cond_true,nx] at h;cases h;rfl
        | false=>
          rw[hg,cond_false] at h
          split at h
          ·rename_i y q hq;cases h;rw[hq];rfl
          ·cases h
       subst Oe;have e1:a.tmps.getD x undef=.pointer (some ⟨β b,off,none⟩):=hr.tmp x _ hx
       have MN:∀ j u,((cs.drop off).take i.size)[j]? =some u->cs[off+j]? =some u:=λj u hj=>by
        rw[qK] at hj
        split at hj
        ·rwa [oo] at hj
        ·cases hj
       have e2:=iW (hC t i hi) ⟨β b,off,none⟩ (((cs.drop off).take i.size).map (AV.leaf β)) (by rw[aM,hlen]) w (vR hr hb MN)
       have e3:(MS a.tmps (.cell x t)).run C.P w=.ok ((oK i ((cs.drop off).take i.size)).bu β) w:=by
        unfold MS;rw[ta (hC t i hi) hlen mO];simp only[e1,asAddr,Sem.run_bind,Sem.run_pure,Result.andThen_ok,e2]
       have:=wh hC hr hl;simp only[List.mapM_cons,Sem.run_bind,e3,Result.andThen_ok,this,Sem.run_pure,List.map_cons]
    ·cases h
   ·cases h
variable {vs:List AV}
theorem rA (hC:C.Ok) {a:Act} (hr:Rel C β F H a w) {fn:Func} (h:jQ C F H fn.results.toList=some vs):(results fn a.tmps).run C.P w=.ok (mj (vs.map (AV.bu β))) w:=by
 have h1:=wh hC hr h;have h2:results fn a.tmps=(do let vs <-fn.results.toList.toArray.mapM (MS a.tmps);pure (if h:vs.size=1 then vs[0] else .tuple vs):Sem Value):=aa;rw[h2,List.mapM_toArray,Sem.run_bind]
 have h3:(List.toArray <$>fn.results.toList.mapM (MS a.tmps):Sem (Array Value)).run C.P w=.ok (vs.map (AV.bu β)).toArray w:=by
  rw[<-bind_pure_comp];simp only[Sem.run_bind,h1,Result.andThen_ok,Sem.run_pure]
 rw[h3,Result.andThen_ok,Sem.run_pure]
 congr 1
 cases vs with
 | nil=>rfl
 | cons v r=>cases r <;> simp[mj]
structure Ends (C:Cx) (β:Nat->Nat) (H:Hp) (w:World):Prop where
 own:∀ i t cs,H i=some (t,cs)->oL C β w i t cs
 apart:∀ i j,H i≠none->H j≠none->β i=β j->i=j
variable {R:Ending->World->Prop}
theorem zJ (hC:C.Ok) {fn:Func} (h:jQ C F H fn.results.toList=some vs) (hR:∀ w' β,aK C.K w w'->C.Old w'->Ends C β H w'->R (.returned (mj (vs.map (AV.bu β)))) w') (oI:C.ds=[]:=by rfl):∀ β a w',Rel C β F H a w'->aK C.K w w'->bodyPost C.P fn R .ret a w':=
 λβ a w' hr hk=>⟨hr.defers.trans oI,_,rA hC hr h,hR w' β hk hr.old ⟨hr.own,hr.apart⟩⟩
variable {us:List Value}
theorem Ls (hC:C.Ok) {fn:Func} (h:jQ C F H fn.results.toList=some vs) (hv:fE vs=some us) (hR:∀ w',aK C.K w w'->C.Old w'->R (.returned (mj us)) w') (oI:C.ds=[]:=by rfl):∀ β a w',Rel C β F H a w'->aK C.K w w'->bodyPost C.P fn R .ret a w':=
 zJ hC h (λw' β h1 h2 _=>by
  rw[gU hv,iu];exact hR w' h1 h2) oI
theorem kI {P:Program}:∀ {stk:List It} {a:Act} {w:World},Q .ret a w->post P Q stk .ret a w
 | [],_,_,h=>h
 | .code _::s,_,_,h=>kI (stk:=s) h
 | .jd _::s,_,_,h=>kI (stk:=s) h
 | .back _::s,_,_,h=>kI (stk:=s) h
 | .scope::s,_,_,h=>kI (stk:=s) h
theorem VS.ret (hC:C.Ok) {fn:Func} (h:jQ C F H fn.results.toList=some vs) (hv:fE vs=some us) (hR:∀ w',aK C.K w w'->C.Old w'->R (.returned (mj us)) w') (oI:C.ds=[]:=by rfl):VS C (bodyPost C.P fn R) (.code .ret::k) F H w:=
 λβ a w' hr hk=>wp_ret (kI (Ls hC h hv hR oI β a w' hr hk))
theorem VS.oU (hC:C.Ok) {fn:Func} (h:jQ C F H fn.results.toList=some vs) (hR:∀ w' β,aK C.K w w'->C.Old w'->Ends C β H w'->R (.returned (mj (vs.map (AV.bu β)))) w') (oI:C.ds=[]:=by rfl):VS C (bodyPost C.P fn R) (.code .ret::k) F H w:=
 λβ a w' hr hk=>wp_ret (kI (zJ hC h hR oI β a w' hr hk))
def Fr.args:Nat->List Value->Fr
 | _,[]=>λ_=>none
 | k,v::r=>λn=>bif Nat.beq n k then some (.val v) else Fr.args (k+1) r n
theorem Fr.args_at:∀ (l:List Value) (k n:Nat) (v:AV),Fr.args k l n=some v->∃ u,v=.val u/\k<=n/\l[n-k]? =some u
 | [],k,n,v,h=>by cases h
 | x::r,k,n,v,h=>by
   unfold Fr.args at h;cases hb:Nat.beq n k with
   | true=>
     rw[hb] at h;cases h;have e:=lW hb;exact⟨x,aa,ae,by rw[e];simp⟩
   | false=>
     rw[hb] at h;obtain⟨u,h1,h2,h3⟩:=Fr.args_at r (k+1) n v h;refine⟨u,h1,ae,?_⟩;rw[show n-k=(n-(k+1))+1 by omega];simpa using h3
theorem ai {f:FuncId} {fn:Func} {c:Code} {args:List Value} (hf:C.P.funcs[f]? =some fn) (hb:fn.body=some c) (hN:fn.ntmps=C.N) (ha:args.length<=C.N)
  (h:VS C (bodyPost C.P fn R) [.code c] (Fr.args 0 args) (λ_=>none) C.w0) (oI:C.ds=[]:=by rfl):Calls C.P f args.toArray C.w0 R:=by
 refine calls_of_wp hf hb ?_;refine h (λ_=>0) _ C.w0 ⟨oI.symm,?_,λd v hd=> ?_,λi t cs hi=>(by cases hi),λi j hi=>absurd aa hi,λd v hd i hi=> ?_,λd v hd=> ?_,⟨λi t cs hi=>(by cases hi),λi t cs hi=>(by cases hi),λi hi=>aa⟩,C.pR⟩ (aK.refl _ _)
 ·simp[hN];omega
 ·obtain⟨u,rfl,_,h2⟩:=Fr.args_at args 0 d v hd;rw[Nat.sub_zero] at h2;show (args.toArray++_).getD d undef=u;have hlt:=(bd.1 h2).1;rw[fy,Array.getElem?_append_left (by simpa using hlt)];simp[h2]
 ·obtain⟨u,rfl,_⟩:=Fr.args_at args 0 d _ hd;cases hi
 ·obtain⟨u,rfl,_,h2⟩:=Fr.args_at args 0 d _ hd;rw[Nat.sub_zero] at h2;have:=(bd.1 h2).1;omega
variable {m:Option (List FuncId)} {full:Array Oper} {K:Fr->Hp->World->Prop} {o:Oper} {r:List Oper}
theorem VO.nil (h:K F H w):aE C m full [] K F H w:=h
def kW (C:Cx) (full:Array Oper):Nat->List Oper->Fr->Hp->List Oper×Fr×Hp
 | 0,l,F,H=>(l,F,H)
 | _+1,[],F,H=>([],F,H)
 | n+1,o::r,F,H=>match o.guard with
   | some _=>(o::r,F,H)
   | none=>match stepOf C full F H o with
     | .eZ v u=>kW C full n r (F.bO o.dst v) (H.upd u)
     | _=>(o::r,F,H)
theorem zK:∀ (n:Nat) {l:List Oper} {F:Fr} {H:Hp},aE C m full (kW C full n l F H).1 K (kW C full n l F H).2.1 (kW C full n l F H).2.2 w->aE C m full l K F H w
 | 0,_,_,_,h=>h
 | _+1,[],_,_,h=>h
 | n+1,o::r,F,H,h=>by
   unfold kW at h;show one C m full o (aE C m full r K) F H w;cases hg:o.guard with
   | some g=>rw[hg] at h;exact h
   | none=>
     rw[hg] at h;cases hs:stepOf C full F H o with
     | eZ v u=>rw[hs] at h;unfold one;rw[hs];exact zK n h
     | bad=>rw[hs] at h;exact h
     | read i a=>rw[hs] at h;exact h
     | fN i cs off=>rw[hs] at h;exact h
     | cond φ v u=>rw[hs] at h;exact h
     | call d=>rw[hs] at h;exact h
variable {l:List Oper}
theorem VO.run (n:Nat) {l':List Oper} {F':Fr} {H':Hp} (e:kW C full n l F H=(l',F',H')) (h:aE C m full l' K F' H' w):aE C m full l K F H w:=
 zK n (by rw[e];exact h)
theorem VA.cons {p:Nat->Prop} {l r:List Nat} {i:Nat} (e:l=i::r) (h1:p i) (h2:GF r p):GF l p:=by rw[e];exact⟨h1,h2⟩
theorem VA.nil {p:Nat->Prop} {l:List Nat} (e:l=[]):GF l p:=by rw[e];exact aj
variable {ml:List FuncId}
theorem VA.go {f:Nat} {done:List Nat} {i:Nat} {l:List Nat} (e:rdy full done=i::l) (h:GF (i::l) λi=>match full[i]? with|some o=>one C (some ml) full o (ry C ml full f (i::done) K) F H w|none=>False):ry C ml full (f+1) done K F H w:=by
 unfold ry;rw[e];exact h
theorem VA.fin {f:Nat} {done:List Nat} (e:rdy full done=[]) (h:K F H w):ry C ml full f done K F H w:=by
 cases f with
 | zero=>exact h
 | succ f=>unfold ry;rw[e];exact h
variable {v:AV} {u:Option (Nat×(TypeId×List AV))}
theorem VO.op1 (e:stepOf C full F H o=.eZ v u) (h:aE C m full r K (F.bO o.dst v) (H.upd u) w):aE C m full (o::r) K F H w:=by
 show one C m full o (aE C m full r K) F H w;unfold one;rw[e];exact h
variable {v':AV}
theorem VO.fix (d:Nat) (hF:F d=some v) (e:v=v') (h:aE C m full l K (F.put d v') H w):aE C m full l K F H w:=by
 have:F.put d v'=F:=by
  funext n
  rw[Fr.du];by_cases hn:n=d
  ·rw[if_pos hn,hn,hF,e]
  ·rw[if_neg hn]
 rw[this] at h;exact h
theorem VS.fix (d:Nat) (hF:F d=some v) (e:v=v') (h:VS C Q k (F.put d v') H w):VS C Q k F H w:=by
 have:F.put d v'=F:=by
  funext n
  rw[Fr.du];by_cases hn:n=d
  ·rw[if_pos hn,hn,hF,e]
  ·rw[if_neg hn]
 rw[this] at h;exact h
variable {cs:List AV} {t:TypeId}
theorem VO.jX (i:Nat) {ew:List AV} (hH:H i=some (t,cs)) (e:cs=ew) (h:aE C m full l K F (H.put i (t,ew)) w):aE C m full l K F H w:=by
 have:H.put i (t,ew)=H:=by
  funext n
  rw[Hp.du];by_cases hn:n=i
  ·rw[if_pos hn,hn,hH,e]
  ·rw[if_neg hn]
 rw[this] at h;exact h
theorem DR.none {ids:List Nat} {w1 w2:World} (h:ax w1 w2):DR C β β H ids none [] w1 w2:=
 ⟨h.os,h.tape,h.output,h.size,λb hb _ _ _=>ky h b hb,λ_ _=>rfl,λi hi=>(by cases hi),λi hi=>(by cases hi),λx hx=>(by cases hx),λx hx=>(by cases hx),List.nodup_nil,λx hx=>(by cases hx),λx hx=>(by cases hx)⟩
variable {d:vM}
theorem VO.Lt (e:stepOf C full F H o=.call d)
  (h:∀ w1 β,aK C.K w w1->C.Old w1->qx C β H d.ids w1->zw C.P d β w1 λe w2=>∃ v,e=.returned v/\ax w1 w2/\(aK C.K w w2->aK C.K w1 w2->C.Old w2->aE C m full r K (F.bO o.dst (.val v)) H w2)):aE C m full (o::r) K F H w:=by
 show one C m full o (aE C m full r K) F H w;unfold one;rw[e];refine λw1 β h1 h2 h3=>(h w1 β h1 h2 h3).mono ?_;rintro e w2 ⟨v,rfl,hb,hv⟩;exact⟨β,.val v,none,[],aa,λi hi=>(by cases hi),.inr aa,.inr aa,DR.none hb,λa b c _ _=>hv a b c⟩
variable {g:FuncId}
theorem VO.call {args:List AV} {vs:List Value} (e:stepOf C full F H o=.call (.fn g args)) (hv:fE args=some vs) (hf:xQ C.P g)
  (h:∀ w1,aK C.K w w1->C.Old w1->Calls C.P g vs.toArray w1 λe w2=>∃ v,e=.returned v/\ax w1 w2/\(aK C.K w w2->aK C.K w1 w2->C.Old w2->aE C m full r K (F.bO o.dst (.val v)) H w2)):aE C m full (o::r) K F H w:=by
 refine VO.Lt e λw1 β h1 h2 _=>⟨hf,?_⟩;rw[gU hv,iu];exact h w1 h1 h2
theorem VO.GK {args:List AV} (e:stepOf C full F H o=.call (.fn g args)) (hf:xQ C.P g)
  (h:∀ w1 β,aK C.K w w1->C.Old w1->qx C β H (oJ args) w1->Calls C.P g (args.map (AV.bu β)).toArray w1 λe w2=>∃ v,e=.returned v/\ax w1 w2/\(aK C.K w w2->aK C.K w1 w2->C.Old w2->aE C m full r K (F.bO o.dst (.val v)) H w2)):aE C m full (o::r) K F H w:=
 VO.Lt e λw1 β h1 h2 h3=>⟨hf,h w1 β h1 h2 h3⟩
theorem VO.CP {args:List AV} (e:stepOf C full F H o=.call (.fn g args)) (hf:xQ C.P g)
  (h:∀ w1 β,aK C.K w w1->C.Old w1->qx C β H (oJ args) w1->Calls C.P g (args.map (AV.bu β)).toArray w1 λe w2=>∃ v:AV,e=.returned (v.bu β)/\(∀ i∈v.ids,i∈oJ args/\H i≠none)/\ax w1 w2/\(aK C.K w w2->aK C.K w1 w2->C.Old w2->aE C m full r K (F.bO o.dst v) H w2)):aE C m full (o::r) K F H w:=by
 show one C m full o (aE C m full r K) F H w;unfold one;rw[e];refine λw1 β h1 h2 h3=>⟨hf,(h w1 β h1 h2 h3).mono ?_⟩;rintro e w2 ⟨v,rfl,hi,hb,hv⟩;exact⟨β,v,none,[],aa,λi vS=>.inr ⟨.base (hi i vS).1,(hi i vS).2,cf⟩,.inr aa,.inr aa,DR.none hb,λa b c _ _=>hv a b c⟩
def PF (C:Cx) (t:TypeId) (sz B:Nat) (w:World) (v:Value) (n:Nat) (xs:List Value):Prop:=
 (v=.slice none 0 0/\n=0/\xs=[])\/∃ b c spare,v=.slice (some ⟨b,0,none⟩) n c/\B<=b/\aQ w b t (xs++spare).toArray/\xs.all aO=true/\spare.all aO=true/\n<=c/\c<=9223372036854775807/\(xs++spare).length=c*sz
theorem VO.callN {dst n sz:Nat} {xs:List Value} (e:stepOf C full F H o=.call d) (hd:o.dst=some dst) (h0:H dst=none) (hN:dst<C.N) (hl:1<=lvl C.SU m o) (ht:C.K.fz t=false)
  (h:∀ w1 β,aK C.K w w1->C.Old w1->qx C β H d.ids w1->zw C.P d β w1 λe w2=>∃ v,e=.returned v/\ax w1 w2/\PF C t sz w1.heap.size w2 v n xs/\
   (aK C.K w w2->aK C.K w1 w2->C.Old w2->v=.slice none 0 0->aE C m full r K (F.bO o.dst (.val (.slice none 0 0))) H w2)/\
   (∀ c spare,aK C.K w w2->aK C.K w1 w2->C.Old w2->(∃ b,v=.slice (some ⟨b,0,none⟩) n c)->spare.all aO=true->n<=c->c<=9223372036854775807->(xs++spare).length=c*sz->aE C m full r K (F.bO o.dst (.row dst 0 n c)) (H.put dst (t,(xs++spare).map .val)) w2)):aE C m full (o::r) K F H w:=by
 show one C m full o (aE C m full r K) F H w;unfold one;rw[e];refine λw1 β h1 h2 h3=>(h w1 β h1 h2 h3).mono ?_;rintro e w2 ⟨v,rfl,hb,hn,k1,k2⟩;rcases hn with ⟨rfl,rfl,rfl⟩|⟨b,c,spare,rfl,q1,q2,q3,q4,q5,q6,q7⟩
 ·exact⟨β,.val (.slice none 0 0),none,[],aa,λi hi=>(by cases hi),.inr aa,.inr aa,DR.none hb,λa b c _ _=>k1 a b c aa⟩
 ·let bM:Nat->Nat:=λi=>if i=dst then b else β i
  have DT:bM dst=b:=if_pos aa;have mO:((xs++spare).map AV.val).all bm=true:=aL (by rw[dK,q3,q4];rfl);refine⟨bM,.row dst 0 n c,none,[(dst,(t,(xs++spare).map .val))],?_,λi hi=>.inl (by simpa [AV.ids] using hi),.inl hl,.inr aa,?_,λa1 a2 a3 _ _=>k2 c spare a1 a2 a3 ⟨b,aa⟩ q4 q5 q6 q7⟩
  ·show Ending.returned _=.returned (Value.slice (some ⟨bM dst,0,none⟩) n c);rw[DT]
  ·refine⟨hb.os,hb.tape,hb.output,hb.size,λk hk _ _ _=>ky hb k hk,λi hi=>if_neg (by simpa using hi),λi hi=>(by cases hi),λi hi=>(by cases hi),λx hx=> ?_,λx hx=> ?_,cf,λx hx y hy _=> ?_,λx hx j hj=> ?_⟩
   ·cases ak.1 hx;refine⟨by rw[DT];exact C.Gc _ _ ae (by have:=C.pQ _ h2;omega),ht,?_,mO⟩;rw[DT,az];exact q2
   ·cases ak.1 hx;exact .inr ⟨.inl h0,ae,.inl (by rw[DT];exact q1)⟩
   ·cases ak.1 hx;cases ak.1 hy;rfl
   ·cases ak.1 hx;rw[ah] at hj;cases hj
variable {a:Addr} {i:TI}
theorem VO.read (e:stepOf C full F H o=.read i a) (cs:List Value) (hl:cs.length=i.size)
  (hc:∀ j u,cs[j]? =some u->C.w0.cell? (a.add j)=some u) (h:aE C m full r K (F.bO o.dst (.val (nW i cs))) H w) (hn:∀ i g,C.zu i g->C.w0.heap.size<=g:=by exact λ_ _ h=>h):aE C m full (o::r) K F H w:=by
 show one C m full o (aE C m full r K) F H w;unfold one;rw[e];exact⟨cs,hl,.inl λj u hj w1 yj=>C.DM w1 _ u yj (λi hi=>absurd (gP C.w0 _ (hc j u hj)) (Nat.not_lt.2 (hn _ _ hi))) (hc j u hj),h⟩
theorem VO.bJ (e:stepOf C full F H o=.read i a) (cs:List Value) (hl:cs.length=i.size)
  (hc:∀ j u,cs[j]? =some u->C.At (a.add j) u) (h:aE C m full r K (F.bO o.dst (.val (nW i cs))) H w):aE C m full (o::r) K F H w:=by
 show one C m full o (aE C m full r K) F H w;unfold one;rw[e];exact⟨cs,hl,.inl hc,h⟩
theorem VO.fN {off:Nat} (e:stepOf C full F H o=.fN i cs off) (vs:List AV) (hl:vs.length=i.size)
  (hc:∀ j u,vs[j]? =some u->cs[off+j]? =some u) (h:aE C m full r K (F.bO o.dst (oK i vs)) H w):aE C m full (o::r) K F H w:=by
 show one C m full o (aE C m full r K) F H w;unfold one;rw[e];exact⟨vs,hl,hc,h⟩
theorem VO.cond {φ:Prop} (e:stepOf C full F H o=.cond φ v u) (Jm:φ) (h:aE C m full r K (F.bO o.dst v) (H.upd u) w):aE C m full (o::r) K F H w:=by
 show one C m full o (aE C m full r K) F H w;unfold one;rw[e];exact⟨Jm,h⟩
end
theorem wi (z:Value) (n:Nat):∃ vs:List Value,Builtin.zeroCells z.cells n=vs.toArray/\vs.length=n*z.cells.size/\(z.cells.toList.all aO=true->vs.all aO=true):=by
 refine⟨(Builtin.zeroCells z.cells n).toList,cf,by simp[Builtin.zeroCells],λh=> ?_⟩;unfold Builtin.zeroCells;rw[ou,Array.toList_range];refine bP.2 λx hx=> ?_;obtain⟨i,hi,rfl⟩:=ey.1 hx
 have hp:0<z.cells.size:=by
  rcases mX z.cells.size with e|e
  ·rw[e,ni] at hi;simp at hi
  ·exact e
 have hlt:=eR i hp;have:z.cells[i%z.cells.size]! =z.cells[i%z.cells.size]:=by simp[hlt]
 rw[this];exact bP.1 h _ cf
section
variable {C:Cx} {F:Fr} {H:Hp} {w:World} {m:Option (List FuncId)} {full:Array Oper} {K:Fr->Hp->World->Prop} {o:Oper} {r:List Oper}
variable {base:AV} {known spare news:List AV} {c mm dst:Nat} {x y:Operand} {del:Option Nat} {it ie:TI} {t e:TypeId}
theorem VO.appG (hC:C.Ok) {sz n:Nat} {src:AV}
  (e0:stepOf C full F H o=.call (.op o [base,src])) (ho:o.op=.call { callee:=.builtin .append,args:=#[x,y],argTypes:=#[t,t] })
  (Jv:C.ti t=some it) (ik:it.elem=some (e,sz)) (vB:C.ti e=some ie) (hU:C.K.fz e=false) (PG:ie.zero.cells.toList.all aO=true)
  (hd:o.dst=some dst) (hN:dst<C.N) (hl:lvl C.SU m o=2)
  (qu:((base=.val (.slice none 0 0)/\n=0/\c=0/\known=[]/\spare=[]/\del=none/\0<mm)\/∃ i,base=.row i 0 n c/\H i=some (e,known++spare)/\del=some i)\/∃ (b off:Nat) (ks:List Value),base=.val (.slice (some ⟨b,off,none⟩) n c)/\c=n/\known=ks.map .val/\spare=[]/\del=none/\0<mm/\∀ w1,aK C.K w w1->C.Old w1->∀ j u,ks[j]? =some u->w1.cell? ⟨b,off+j,none⟩=some u)
  (iw:H dst=none\/del=some dst) (hk:known.length=n*sz) (hsp:(known++spare).length=c*sz) (fV:n<=c) (gj:c<=9223372036854775807)
  (iJ:bj known=[]/\bj spare=[]/\bj news=[]) (mO:known.all bm=true/\spare.all bm=true/\news.all bm=true) (PH:news.length=mm*sz) (gz:(n+mm)*(24*sz)<=140737488355328)
  (Jw:∀ w1 β,aK C.K w w1->C.Old w1->qx C β H (oJ [base,src]) w1->∃ p cc,src.bu β=.slice p mm cc/\(mm=0\/∃ b off,p=some ⟨b,off,none⟩/\∀ j u,(news.map (AV.leaf β))[j]? =some u->w1.cell? ⟨b,off+j,none⟩=some u))
  (hK:∀ w2 cap bt ρ,aK C.K w w2->C.Old w2->(∀ x,aO (ρ x)=true)->n+mm<=cap->cap<=9223372036854775807->((known++news)++bt).length=cap*sz->bt.all bm=true->bj bt=[]->
   aE C m full r K ((F.forget del ρ).bO o.dst (.row dst 0 (n+mm) cap)) ((H.forget del ρ).put dst (e,(known++news)++bt)) w2):aE C m full (o::r) K F H w:=by
 show one C m full o (aE C m full r K) F H w;unfold one;rw[e0];intro w1 β h1 h2 h3;obtain⟨hu,hsz⟩:=(hC t it Jv).isSlice e sz ik;have MT:=hC e ie vB;cases Bh:C.P.info? e with
 | none=>have:=MT.size;rw[Bh] at this;simp at this
 | some ti=>
   have Oh:ti.size=ie.size:=by have:=MT.size;rw[Bh] at this;simpa using this
   have gu:ti.zero=some ie.zero:=by have:=MT.Ga;rw[Bh] at this;simpa using this
   have bF:ti.bytes<=24*ie.size:=cG (by have:=MT.bytes;rw[Bh] at this;simpa using this)
   have PI:sz=ti.size:=by
    have:=hsz w1;simp[sizeOf,typeInfo,Bh] at this;exact this.symm
   have yS:0<sz:=by rw[PI,Oh];exact MT.pos
   have hzs:ie.zero.cells.size=sz:=by rw[MT.Cy,PI,Oh]
   have Jg:n+mm<=140737488355328:=by
    have:(n+mm)*24<=(n+mm)*(24*sz):=jM _ ae;omega
   have Mn:(n+mm)*ti.bytes<=140737488355328:=aV (jM _ (by rw[PI,Oh];exact bF)) gz;obtain⟨p,cc,hsc,hsp2⟩:=Jw w1 β h1 h2 h3
   have hS:Src C.P ti.size t (.slice p mm cc) mm (news.map (AV.leaf β)) w1:=by
    have DY:∀ u∈news.map (AV.leaf β),u.oneCell'=true:=λu hu=>zt (bP.1 (fx (β:=β) mO.2.2) u hu);rcases hsp2 with rfl|⟨b,off,rfl,hc⟩
    ·have:news=[]:=mR (by simpa using PH);subst this;cases p with
     | none=>exact Src.ofNil w1 hu cc
     | some a=>exact Src.ofSlice w1 hu a 0 cc [] cf (λj u hj=>by simp at hj) DY
    ·refine Src.ofSlice w1 hu ⟨b,off,none⟩ mm cc _ (by rw[aM,PH,PI]) (λj u hj=> ?_) DY;rw[Addr.add_mid];exact hc j u hj
   have heval:∀ ρ:Operand->Value,o.op.operands.toList.map ρ=[base,src].map (AV.bu β)->ρ x=base.bu β/\ρ y=.slice p mm cc:=λρ h=>by
    rw[ho] at h;simp[Op.operands,Call.operands] at h;exact⟨h.1,h.2.trans hsc⟩
   have hrun:∀ {v:Value} {w2:World},(Builtin.append_ #[t,t] o.type #[base.bu β,.slice p mm cc]).run C.P w1=.ok v w2->∀ ρ:Operand->Value,o.op.operands.toList.map ρ=[base,src].map (AV.bu β)->(execOp ρ o).run C.P w1=.ok (.value v) w2:=λ{v w2} hv ρ fo=>by
    obtain⟨q1,q2⟩:=heval ρ fo;unfold execOp;simp only[ho,resolve,invoke,builtin,Sem.run_bind,Sem.run_pure,Result.andThen_ok,List.map_toArray,List.map_cons,List.map_nil,q1,q2,hv]
   have hg:∀ i,del=some i->Reach H (oJ [base,src]) i/\H i≠none:=λi hi=>by
    rcases qu with (⟨_,_,_,_,_,e,_⟩|⟨i',rfl,hH,e⟩)|⟨_,_,_,_,_,_,_,e,_⟩
    ·rw[e] at hi;cases hi
    ·rw[e] at hi;cases hi;exact⟨.base (by simp[oJ,AV.ids]),by rw[hH];simp⟩
    ·rw[e] at hi;cases hi
   have fin:∀ (w2:World) (b cap:Nat) (bt:List AV),(∀ ρ:Operand->Value,o.op.operands.toList.map ρ=[base,src].map (AV.bu β)->(execOp ρ o).run C.P w1=.ok (.value (.slice (some ⟨b,0,none⟩) (n+mm) cap)) w2)->
     w2.os=w1.os->w2.tape=w1.tape->w2.output=w1.output->w1.heap.size<=w2.heap.size->(∀ q,q<w1.heap.size->q≠b->w2.heap[q]? =w1.heap[q]?)->(w1.heap.size<=b\/∃ i,del=some i/\b=β i)->
     n+mm<=cap->cap<=9223372036854775807->((known++news)++bt).length=cap*sz->bt.all bm=true->bj bt=[]->aQ w2 b e (((known++news)++bt).map (AV.leaf β)).toArray->
     zw C.P (.op o [base,src]) β w1 λe w2=>∃ bM r' del ups,e=.returned (r'.bu bM)/\(∀ i∈r'.ids,i∈ups.map (·.1)\/(Reach H (vM.op o [base,src]).ids i/\H i≠none/\del≠some i))/\(1<=lvl C.SU m o\/ups=[])/\(2<=lvl C.SU m o\/del=none)/\
      DR C β bM H (vM.op o [base,src]).ids del ups w1 w2/\(aK C.K w w2->aK C.K w1 w2->C.Old w2->∀ ρ,(∀ x,aO (ρ x)=true)->aE C m full r K ((F.forget del ρ).bO o.dst r') ((H.forget del ρ).gS ups) w2):=by
    intro w2 b cap bt hrun q1 q2 q3 q4 q5 q6 q7 q8 q9 q10 q11 q12
    let bM:Nat->Nat:=λi=>if i=dst then b else β i
    have DT:bM dst=b:=if_pos aa;have vI:((known++news)++bt).all bm=true:=by simp only[List.all_append,mO.1,mO.2.2,q10];rfl
    have hlids:bj ((known++news)++bt)=[]:=by rw[iT,iT,iJ.1,iJ.2.2,q11];rfl
    have eW:C.zu dst b:=by
     rcases q6 with e|⟨i,hi,e⟩
     ·exact C.Gc _ _ ae (by have:=C.pQ _ h2;omega)
     ·obtain⟨g1,g2⟩:=hg i hi;cases hh:H i with
      | none=>exact absurd hh g2
      | some c'=>rw[e];exact C.Pn i dst _ (h3.own i g1 c'.1 c'.2 hh).new ae
    have Ld:∀ i,del=some i->w2.heap[β i]? =w1.heap[β i]?\/∃ x∈[(dst,(e,(known++news)++bt))],bM x.1=β i:=λi hi=>by
     by_cases e':β i=b
     ·exact .inr ⟨_,ak.2 aa,DT.trans e'.symm⟩
     ·obtain⟨g1,g2⟩:=hg i hi;cases hh:H i with
      | none=>exact absurd hh g2
      | some c'=>exact .inl (q5 _ (h3.own i g1 c'.1 c'.2 hh).cls.lt e')
    refine⟨_,w2,λρ fo=>.inl (hrun ρ fo),bM,.row dst 0 (n+mm) cap,del,[(dst,(e,(known++news)++bt))],?_,λi hi=>.inl (by simpa [AV.ids] using hi),.inl ae,.inl ae,?_,λa1 a2 a3 ρ fo=>hK w2 cap bt ρ a1 a3 fo q7 q8 q9 q10 q11⟩
    ·show Ending.returned _=.returned (Value.slice (some ⟨bM dst,0,none⟩) (n+mm) cap);rw[DT]
    ·refine⟨q1,q2,q3,q4,λk hk hx vx _=>q5 k hk (by have:=hx _ (ak.2 aa);simpa [DT] using this),λi hi=>if_neg (by simpa using hi),hg,λi hi=>(Ld i hi).imp .inl id,λx hx=> ?_,λx hx=> ?_,cf,λx hx y hy _=> ?_,λx hx j hj=> ?_⟩
     ·cases ak.1 hx;refine⟨by rw[DT];exact eW,hU,?_,vI⟩;rw[DT,kD (β:=β) (λi hi=>by rw[hlids] at hi;cases hi)];exact q12
     ·cases ak.1 hx;refine .inr ⟨iw,ae,?_⟩;rcases q6 with e|⟨i,hi,e⟩
      ·exact .inl (by rw[DT];exact e)
      ·exact .inr ⟨i,hi,by rw[DT];exact e⟩
     ·cases ak.1 hx;cases ak.1 hy;rfl
     ·cases ak.1 hx;rw[hlids] at hj;cases hj
   have grow:c<n+mm->(∃ bp,base.bu β=.slice bp n c/\(Builtin.firstCells ti.size n (.slice bp n c)).run C.P w1.drew=.ok (known.map (AV.leaf β)).toArray w1.drew)->zw C.P (.op o [base,src]) β w1 λe w2=>∃ bM r' del ups,e=.returned (r'.bu bM)/\(∀ i∈r'.ids,i∈ups.map (·.1)\/(Reach H (vM.op o [base,src]).ids i/\H i≠none/\del≠some i))/\(1<=lvl C.SU m o\/ups=[])/\(2<=lvl C.SU m o\/del=none)/\
      DR C β bM H (vM.op o [base,src]).ids del ups w1 w2/\(aK C.K w w2->aK C.K w1 w2->C.Old w2->∀ ρ,(∀ x,aO (ρ x)=true)->aE C m full r K ((F.forget del ρ).bO o.dst r') ((H.forget del ρ).gS ups) w2):=by
    rintro hgt ⟨bp,hbp,hfc⟩;have hr:=run_append_grow_src (P:=C.P) w1 t t o.type e ti ie.zero hu Bh gu bp n c (known.map (AV.leaf β)) hfc (.slice p mm cc) mm (news.map (AV.leaf β)) hS hgt ae (growslice_fits hgt Mn);obtain⟨zs,jP,hz3,hz4⟩:=wi ie.zero (grownCap w1 (n+mm) c e-(n+mm));have hge:=grownCap_ge w1 (n+mm) c e;have hle:=grownCap_le_maxLen w1 (n+mm) c e (by simp only[maxLen];omega);rw[jP] at hr;have hbeh:ax w1 (w1.drew.alloc (.cells ((known.map (AV.leaf β)++news.map (AV.leaf β)).toArray++zs.toArray) e)):=(ax.refl w1).drew.alloc _;refine fin _ w1.heap.size (grownCap w1 (n+mm) c e) (zs.map .val) (hrun (by rw[hbp];exact hr)) hbeh.os hbeh.tape hbeh.output hbeh.size (λq hq _=>ky hbeh q hq) (.inl (aP _)) hge (by simpa [maxLen] using hle) ?_ (aL (hz4 PG)) (ah zs) ?_
    ·rw[bg,bg,aM,hk,PH,hz3,hzs,<-ek,<-ek]
     congr 1
     omega
    ·have:(((known++news)++zs.map AV.val).map (AV.leaf β)).toArray=(known.map (AV.leaf β)++news.map (AV.leaf β)).toArray++zs.toArray:=by
      rw[aF,aF,az];apply Array.ext';rw[Array.toList_append]
     rw[this];exact aQ.newAt (w:=w1.drew) aa _ _
   rcases qu with (⟨rfl,rfl,rfl,rfl,rfl,rfl,Cu⟩|⟨i,rfl,hH,rfl⟩)|⟨b,off,ks,rfl,rfl,rfl,rfl,rfl,Cu,hcell⟩
   ·refine grow ae ⟨none,aa,?_⟩;exact run_firstCells_none w1.drew ti.size 0 0 0
   ·obtain⟨g1,g2,g3,g4⟩:=h3.own i (.base (yJ _ (ak.2 aa))) e _ hH;by_cases hroom:n+mm<=c
    ·have hfit:n*sz+news.length<=(known++spare).length:=by rw[hsp,PH,<-ek];exact eQ _ hroom
     have hr:=run_append_room_src (P:=C.P) w1 t t o.type e ti hu Bh (β i) 0 n c (.slice p mm cc) mm (news.map (AV.leaf β)) hS hroom (λj hj=>by
       rw[aM] at hj;obtain⟨z,hz⟩:∃ z,((known++spare).map (AV.leaf β))[0+n*ti.size+j]? =some z:=⟨_,aH (by rw[aM,<-PI];omega)⟩;rw[g3.cell (u:=z) (by simpa using hz)];rfl)
      (λj _=>g3.frozen _)
     rw[fe,<-PI] at hr;obtain⟨k1,k2,k3,k4⟩:=pV (K:=C.K) (news.map (AV.leaf β)) (n*sz) w1 ((known++spare).map (AV.leaf β)) g3 g2 (fx g4) (fx mO.2.2);obtain⟨s1,s2,s3,_⟩:=nY (b:=β i) (news.map (AV.leaf β)) (n*sz) w1;refine fin _ (β i) c (spare.drop (mm*sz)) (hrun hr) s1 s2 s3 k1.size (λq _ hq=>mo _ _ _ q hq) (.inr ⟨i,aa,aa⟩) hroom gj ?_ ?_ ?_ ?_
     ·simp only[List.length_append,List.length_drop] at hsp hfit ⊢;omega
     ·exact bP.2 λx hx=>bP.1 mO.2.1 x (qI hx)
     ·rw[Fb];intro j hj;obtain⟨v,hv,hj'⟩:=bZ.1 hj;have:j∈bj spare:=bZ.2 ⟨v,qI hv,hj'⟩;rw[iJ.2.1] at this;cases this
     ·rw[rT _ _ _ (by simp only[List.length_map];omega)] at k2
      have:((known++spare).map (AV.leaf β)).take (n*sz)++(news.map (AV.leaf β)++((known++spare).map (AV.leaf β)).drop (n*sz+(news.map (AV.leaf β)).length))=(((known++news)++spare.drop (mm*sz)).map (AV.leaf β)):=by
       rw[aM,PH,<-List.map_take,<-List.map_drop,<-hk,List.take_left',List.drop_append,aF,aF]
       ·rw[mV ae];simp[List.map_append,hk]
       ·rfl
      rw[this] at k2;exact k2
    ·refine grow ae ⟨some ⟨β i,0,none⟩,aa,?_⟩;refine run_firstCells_some w1.drew ti.size n ⟨β i,0,none⟩ n c (known.map (AV.leaf β)) (by rw[aM,hk,PI]) (λj u hj=> ?_);rw[Addr.add_mid];have hlt:=(bd.1 hj).1
     have:w1.cell? ⟨β i,0+j,none⟩=some u:=g3.cell (by
      rw[aF];simp only[Nat.zero_add];simpa [List.getElem?_append_left hlt] using hj)
     exact this
   ·refine grow ae ⟨some ⟨b,off,none⟩,aa,?_⟩;refine run_firstCells_some w1.drew ti.size _ ⟨b,off,none⟩ _ _ ((ks.map AV.val).map (AV.leaf β)) (by rw[aM,hk,PI]) (λj u hj=> ?_);rw[Addr.add_mid];rw[az] at hj;exact hcell w1 h1 h2 j u hj
theorem VO.app (hC:C.Ok) {sz n:Nat} {src:AV}
  (e0:stepOf C full F H o=.call (.op o [base,src])) (ho:o.op=.call { callee:=.builtin .append,args:=#[x,y],argTypes:=#[t,t] })
  (Jv:C.ti t=some it) (ik:it.elem=some (e,sz)) (vB:C.ti e=some ie) (hU:C.K.fz e=false) (PG:ie.zero.cells.toList.all aO=true)
  (hd:o.dst=some dst) (hN:dst<C.N) (hl:lvl C.SU m o=2)
  (qu:(base=.val (.slice none 0 0)/\n=0/\c=0/\known=[]/\spare=[]/\del=none/\0<mm)\/∃ i,base=.row i 0 n c/\H i=some (e,known++spare)/\del=some i)
  (iw:H dst=none\/del=some dst) (hk:known.length=n*sz) (hsp:(known++spare).length=c*sz) (fV:n<=c) (gj:c<=9223372036854775807)
  (iJ:bj known=[]/\bj spare=[]/\bj news=[]) (mO:known.all bm=true/\spare.all bm=true/\news.all bm=true) (PH:news.length=mm*sz) (gz:(n+mm)*(24*sz)<=140737488355328)
  (Jw:∀ w1 β,aK C.K w w1->C.Old w1->qx C β H (oJ [base,src]) w1->∃ p cc,src.bu β=.slice p mm cc/\(mm=0\/∃ b off,p=some ⟨b,off,none⟩/\∀ j u,(news.map (AV.leaf β))[j]? =some u->w1.cell? ⟨b,off+j,none⟩=some u))
  (hK:∀ w2 cap bt ρ,aK C.K w w2->C.Old w2->(∀ x,aO (ρ x)=true)->n+mm<=cap->cap<=9223372036854775807->((known++news)++bt).length=cap*sz->bt.all bm=true->bj bt=[]->
   aE C m full r K ((F.forget del ρ).bO o.dst (.row dst 0 (n+mm) cap)) ((H.forget del ρ).put dst (e,(known++news)++bt)) w2):aE C m full (o::r) K F H w:=
 VO.appG hC e0 ho Jv ik vB hU PG hd hN hl (.inl qu) iw hk hsp fV gj iJ mO PH gz Jw hK
theorem VO.lit (hC:C.Ok) {n:Nat} {ps:Array (Nat×Operand)} {args:List AV} (vs:List Value)
  (e0:stepOf C full F H o=.call (.op o args)) (ha:args=vs.map .val) (ho:o.op=.buildSlice t n ps) (Jv:C.ti t=some it) (ik:it.elem=some (e,1)) (vB:C.ti e=some ie)
  (bD:Ge 1 0 ((ps.toList.map (·.1)).zip (vs.map .val))=some (vs.map .val)) (hps:ps.size=n) (Oe:vs.length=n) (hn:n<=16777216)
  (hK:∀ w2 b,aK C.K w w2->C.Old w2->w2.ownsRow C.w0.heap.size e 1 (.slice (some ⟨b,0,none⟩) n n) n vs->aE C m full r K (F.bO o.dst (.val (.slice (some ⟨b,0,none⟩) n n))) H w2):aE C m full (o::r) K F H w:=by
 refine VO.Lt e0 λw1 β h1 h2 _=> ?_;obtain⟨hu,hsz⟩:=(hC t it Jv).isSlice e 1 ik;have jI:=(hC e ie vB).zero;have hb:ax w1 (w1.alloc (.cells vs.toArray e)):=(ax.refl w1).alloc _;refine⟨.slice (some ⟨w1.heap.size,0,none⟩) n n,w1.alloc (.cells vs.toArray e),λρ fo=>.inl ?_,_,aa,hb,λa1 a2 a3=>hK _ w1.heap.size a1 a3 ?_⟩
 ·rw[ho,ha,iu] at fo
  have hl:(ps.map λx=>(x.1,ρ x.2)).toList=((ps.toList.map (·.1)).zip (vs.map AV.val)).map λp=>(p.1,p.2.bu (λ_=>0)):=by
   have h3:ps.toList.map (λx=>ρ x.2)=vs:=by
    rw[<-fo];simp[Op.operands]
   rw[ou,<-h3];generalize ps.toList=l
   induction l with
   | nil=>rfl
   | cons q r ih=>simp only[List.map_cons,List.zip_cons_cons];rw[ih];rfl
  have Gp:∀ A:Array Value,A.size=n*1->Instr.fill (λi=>some (i*1,1)) A (((ps.toList.map (·.1)).zip (vs.map AV.val)).map λp=>(p.1,p.2.bu (λ_=>0)))=some vs.toArray:=λA hA=>by
   have:=vQ (β:=λ_=>0) (sz:=1) _ 0 [] A.toList bD cf (by rw[yK,hA];simp[hps,Oe]);rw[az] at this;simpa using this
  simp only[execOp,ho,Instr.buildSlice,Sem.run_bind,run_underlying hu,Result.andThen_ok,hsz];rw[if_neg ae];by_cases h0:n*1=0
  ·simp only[if_pos h0,Sem.run_bind,Sem.run_pure,Result.andThen_ok];rw[hl,Gp _ cf];simp[newRow]
  ·simp only[if_neg h0,Sem.run_bind,Sem.run_pure,Result.andThen_ok,jI];rw[hl,Gp _ cf];simp[newRow]
 ·refine⟨by rw[Oe,np],.inr ⟨w1.heap.size,n,vs.toArray,rfl,C.pQ _ h2,World.alloc_heap_new w1 _,aP _,by simp only[maxLen];omega,by simp[Oe],?_⟩⟩;rw[cO (by simp[Oe])]
theorem VO.appU (hC:C.Ok) {src:Value} {n:Nat} {news:List Value}
  (e0:stepOf C full F H o=.call (.op o [.val (.slice none 0 0),.val src])) (ho:o.op=.call { callee:=.builtin .append,args:=#[x,y],argTypes:=#[t,t] })
  (Jv:C.ti t=some it) (ik:it.elem=some (e,1)) (vB:C.ti e=some ie) (h1c:∀ u∈news,u.oneCell'=true) (hn:n*24<=140737488355328)
  (Jw:∀ w1,aK C.K w w1->C.Old w1->Rd w1 1 src n news)
  (hK:∀ w2 p c,aK C.K w w2->C.Old w2->w2.ownsRow C.w0.heap.size e 1 (.slice p n c) n news->aE C m full r K (F.bO o.dst (.val (.slice p n c))) H w2):aE C m full (o::r) K F H w:=by
 refine VO.Lt e0 λw1 β h1 h2 _=> ?_;obtain⟨hu,hsz⟩:=(hC t it Jv).isSlice e 1 ik;have MT:=hC e ie vB;cases Bh:C.P.info? e with
 | none=>have:=MT.size;rw[Bh] at this;simp at this
 | some ti=>
   have Oh:ti.size=ie.size:=by have:=MT.size;rw[Bh] at this;simpa using this
   have gu:ti.zero=some ie.zero:=by have:=MT.Ga;rw[Bh] at this;simpa using this
   have bF:ti.bytes<=24*ie.size:=cG (by have:=MT.bytes;rw[Bh] at this;simpa using this)
   have PI:1=ti.size:=by
    have:=hsz w1;simp[sizeOf,typeInfo,Bh] at this;exact this.symm
   have Mn:(0+n)*ti.bytes<=140737488355328:=aV (jM _ (show ti.bytes<=24 by omega)) ae;obtain⟨v',w',hr,q1,q2⟩:=nR (P:=C.P) w1 C.w0.heap.size t o.type e ti ie.zero ti.size ti.bytes hu Bh gu aa aa (by rw[MT.Cy,Oh]) (by rw[Oh];exact MT.pos) (.slice none 0 0) 0 [] (mc w1 _ _ _) src n news (PI▸Jw w1 h1 h2) h1c (by simp only[maxLen];omega) Mn (C.pQ _ h2);rw[fe,ng,<-PI] at q1;obtain⟨p,c,rfl,_⟩:=Own.form q1;refine⟨_,w',λρ fo=>.inl ?_,_,aa,⟨q2.os,q2.tape,q2.output,q2.size,λk hk=>q2.block k hk (by simp[Value.ownBlock])⟩,λa1 a2 a3=>hK w' p c a1 a3 q1⟩;rw[ho] at fo;simp[Op.operands,Call.operands] at fo;obtain⟨g1,g2⟩:=fo;unfold execOp;simp only[ho,resolve,invoke,builtin,Sem.run_bind,Sem.run_pure,Result.andThen_ok,List.map_toArray,List.map_cons,List.map_nil,g1,g2,AV.bu,hr]
end
end
section
open Go.RowKit Go.MapKept
structure dP (ad:List Nat) (w w':World):Prop where
 os:w'.os=w.os
 tape:w'.tape=w.tape
 output:w'.output=w.output
 size:w.heap.size<=w'.heap.size
 jd:∀ g,g<w.heap.size->g∉ad->w'.heap[g]? =w.heap[g]?
variable {w w':World}
theorem dP.of {ad:List Nat} (h:ax w w'):dP ad w w':=⟨h.os,h.tape,h.output,h.size,λg hg _=>ky h g hg⟩
theorem dP.aG {ad:List Nat} {a b c:World} (h:dP ad a b) (k:dP ad b c):dP ad a c:=
 ⟨k.os.trans h.os,k.tape.trans h.tape,k.output.trans h.output,aV h.size k.size,λg hg hn=>(k.jd g (qj hg h.size) hn).trans (h.jd g hg hn)⟩
def jA (K:KC) (ad:List Nat) (w:World):Prop:=∀ g∈ad,∃ t cs,aQ w g t (List.toArray cs)/\K.fz t=false/\cs.all aO=true
variable {K:KC}
theorem dP.kp {ad:List Nat} (h:dP ad w w') (ha:jA K ad w):aK K w w':=by
 have no:∀ g,g∈ad->∀ o,w.heap[g]? =some o->∃ t cs,o=Obj.cells (List.toArray cs) t/\K.fz t=false/\cs.all aO=true:=λg hg o ho=>by
  obtain⟨t,cs,h1,h2,h3⟩:=ha g hg;have:=(show w.heap[g]? =_ from h1).symm.trans ho;cases this;exact⟨t,cs,aa,h2,h3⟩
 refine⟨h.size,λa x _ hx=> ?_,λt g cur hf _ hg=> ?_,λg es c hg=> ?_⟩
 ·have hlt:=gP w a hx;by_cases hm:a.block∈ad
  ·obtain⟨t,cs,h1,h2,h3⟩:=ha _ hm;exfalso;have yu:=hx;simp only[World.cell?,show w.heap[a.block]? =_ from h1] at yu;simp at yu;have:=bP.1 h3 _ (dc yu.2);cases this
  ·rw[BP (w:=w) (h.jd _ hlt hm)];exact hx
 ·refine (h.jd g (gh.1 hg).1 λhm=> ?_).trans hg;obtain⟨t',cs,e,h2,_⟩:=no g hm _ hg;cases e;rw[h2] at hf;cases hf
 ·refine (h.jd g (gh.1 hg).1 λhm=> ?_).trans hg;obtain⟨t',cs,e,_⟩:=no g hm _ hg;cases e
def fF (N:Nat) (ad:List Nat) (w0:World) (i g:Nat):Prop:=if 2*N<=i then ad[i-2*N]? =some g else (w0.heap.size<=g\/g∈ad)
def Bi (K:KC) (ad:List Nat) (w0 w:World):Prop:=dP ad w0 w/\jA K ad w
variable {g:Nat}
theorem jA.lt {ad:List Nat} (h:jA K ad w) (hg:g∈ad):g<w.heap.size:=by
 obtain⟨t,cs,h1,_⟩:=h g hg;exact h1.lt
variable {N:Nat} {w0:World}
theorem newA_ad {ad:List Nat} (h:g∈ad):∃ i,fF N ad w0 i g:=by
 obtain⟨j,hj⟩:=List.mem_iff_getElem?.1 h;exact⟨2*N+j,by unfold fF;rw[if_pos ae,KH];exact hj⟩
variable {i:Nat}
theorem cH {ad:List Nat} (h:fF N ad w0 i g):w0.heap.size<=g\/g∈ad:=by
 unfold fF at h
 split at h
 ·exact .inr (dc h)
 ·exact h
theorem MU {ad:List Nat} (h0:jA K ad w0) (h:Bi K ad w0 w) (keep:∀ b,b<w0.heap.size->K.S b) (s:Stp K (fF N ad w0) w w'):Bi K ad w0 w':=by
 obtain⟨h1,h2⟩:=h;refine⟨⟨s.os.trans h1.os,s.tape.trans h1.tape,s.output.trans h1.output,aV h1.size s.size,λg hg hn=> ?_⟩,λg hg=> ?_⟩
 ·rcases s.jd g (qj hg h1.size) with e|⟨⟨i,hi⟩,_⟩|e
  ·exact e.trans (h1.jd g hg hn)
  ·rcases cH hi with e|e
   ·omega
   ·exact absurd e hn
  ·exact absurd (keep g hg) e
 ·rcases s.jd g (h2.lt hg) with e|⟨_,t,cs,g1,g2,g3⟩|e
  ·obtain⟨t,cs,g1,g2,g3⟩:=h2 g hg;exact⟨t,cs,e.trans g1,g2,g3⟩
  ·exact⟨t,cs,g1,g2,g3⟩
  ·exact absurd (keep g (h0.lt hg)) e
theorem MV {ad:List Nat} {a:Addr} {u:Value} (h:Bi K ad w0 w) (hn:∀ i,¬ fF N ad w0 i a.block) (hc:w0.cell? a=some u):w.cell? a=some u:=by
 rw[BP (w:=w0) (h.1.jd _ (gP w0 a hc) λhm=>by
  obtain⟨i,hi⟩:=newA_ad (N:=N) (w0:=w0) hm;exact hn i hi)]
 exact hc
theorem Lu {ad:List Nat} (hi:i<2*N) (hg:w0.heap.size<=g):fF N ad w0 i g:=by
 unfold fF;rw[if_neg ae];exact .inl hg
theorem newA_mv {ad:List Nat} {j:Nat} (h:fF N ad w0 i g) (hj:j<2*N):fF N ad w0 j g:=by
 have:=cH h;unfold fF;rw[if_neg ae];exact this
def sw (w:World) (g:Nat) (o:Obj):World:={ w with heap:=w.heap.setIfInBounds g o }
theorem setB_at (o:Obj) (h:g<w.heap.size):(sw w g o).heap[g]? =some o:=by simp[sw,h]
theorem Ec {q:Nat} (o:Obj) (h:q≠g):(sw w g o).heap[q]? =w.heap[q]? :=by
 simp[sw,Ne.symm h]
theorem MW (w:World) (g:Nat) (o:Obj):(sw w g o).heap.size=w.heap.size:=by simp[sw]
theorem PJ {ad:List Nat} (o:Obj) (h:g∈ad):dP ad w (sw w g o):=
 ⟨rfl,rfl,rfl,fA (MW w g o).symm,λq _ hq=>Ec o λe=>hq (e▸h)⟩
def Jx (H:Hp) (β:Nat->Nat) (N:Nat):Nat->List Nat->World->World
 | _,[],w=>w
 | k,g::r,w=>Jx H β N (k+1) r (match H (2*N+k) with|some (t,cs)=>sw w g (.cells (cs.map (AV.leaf β)).toArray t)|none=>w)
theorem GL {K:KC} {ad:List Nat} {w0:World} {H:Hp} {β:Nat->Nat} {N:Nat} (hH:∀ i t cs,H i=some (t,cs)->K.fz t=false/\cs.all bm=true):∀ (l:List Nat) (k:Nat) (w:World),Bi K ad w0 w->(∀ g∈l,g∈ad)->l.Nodup->
  aK K w (Jx H β N k l w)/\Bi K ad w0 (Jx H β N k l w)/\(∀ g,g∉l->(Jx H β N k l w).heap[g]? =w.heap[g]?)/\∀ j g t cs,l[j]? =some g->H (2*N+(k+j))=some (t,cs)->aQ (Jx H β N k l w) g t (cs.map (AV.leaf β)).toArray
 | [],k,w,h,_,_=>⟨aK.refl _ _,h,λ_ _=>rfl,λj g t cs hj=>by simp at hj⟩
 | g::r,k,w,h,hs,hn=>by
   have hg:g∈ad:=hs g (tW ..);obtain⟨n1,n2⟩:=List.nodup_cons.1 hn
   have step:∃ w1,(match H (2*N+k) with|some (t,cs)=>sw w g (.cells (cs.map (AV.leaf β)).toArray t)|none=>w)=w1/\aK K w w1/\Bi K ad w0 w1/\(∀ q,q≠g->w1.heap[q]? =w.heap[q]?)/\∀ t cs,H (2*N+k)=some (t,cs)->aQ w1 g t (cs.map (AV.leaf β)).toArray:=by
    cases hh:H (2*N+k) with
    | none=>exact⟨w,aa,aK.refl _ _,h,λ_ _=>aa,λt cs e=>by cases e⟩
    | some c=>
      obtain⟨t,cs⟩:=c;obtain⟨q1,q2⟩:=hH _ t cs hh;have hlt:=h.2.lt hg;have cZ:aQ (sw w g (.cells (cs.map (AV.leaf β)).toArray t)) g t (cs.map (AV.leaf β)).toArray:=setB_at _ hlt;have hb:=PJ (w:=w) (.cells (cs.map (AV.leaf β)).toArray t) hg;refine⟨_,aa,hb.kp h.2,⟨h.1.aG hb,λq hq=> ?_⟩,λq hq=>Ec _ hq,λt' ew e=>by cases e;exact cZ⟩;by_cases e:q=g
      ·subst e;exact⟨t,_,cZ,q1,fx q2⟩
      ·obtain⟨t',ew,g1,g2,g3⟩:=h.2 q hq;exact⟨t',ew,(Ec _ e).trans g1,g2,g3⟩
   obtain⟨w1,e1,s1,s2,s3,s4⟩:=step;unfold Jx;rw[e1];obtain⟨k1,k2,k3,k4⟩:=GL hH r (k+1) w1 s2 (λq hq=>hs q (qH _ hq)) n2;refine⟨s1.aG k1,k2,λq hq=>(k3 q λe=>hq (qH _ e)).trans (s3 q λe=>hq (by rw[e];exact tW ..)),λj q t cs hj hh=> ?_⟩;cases j with
   | zero=>
     simp at hj;subst hj;exact (k3 g n1).trans (s4 t cs hh)
   | succ j=>
     refine k4 j q t cs (by simpa using hj) ?_;rw[<-hh]
     congr 1
     omega
theorem Jy {ad:List Nat} {w1:World} (hd:ad.Nodup) (h:Bi K ad w0 w1) (H:Hp) (hH:∀ i t cs,H i=some (t,cs)->K.fz t=false/\cs.all bm=true) (hf:∀ i,2*N+ad.length<=i->H i=none):
  ∃ β w2,aK K w1 w2/\Bi K ad w0 w2/\(∀ i t cs,H i=some (t,cs)->fF N ad w0 i (β i)/\aQ w2 (β i) t (cs.map (AV.leaf β)).toArray)/\∀ i j,H i≠none->H j≠none->β i=β j->i=j:=by
 let β:Nat->Nat:=λi=>if 2*N<=i then ad.getD (i-2*N) 0 else w1.heap.size+i
 have PK:∀ i,i<2*N->β i=w1.heap.size+i:=λi hi=>if_neg ae;have hβ2:∀ i,2*N<=i->β i=ad.getD (i-2*N) 0:=λi hi=>if_pos hi;have mb:=ym H β w1 (2*N)
 have ha':Bi K ad w0 (mkW H β (2*N) w1):=⟨h.1.aG (dP.of mb),λg hg=>by
  obtain⟨t,cs,g1,g2,g3⟩:=h.2 g hg;exact⟨t,cs,g1.aA mb,g2,g3⟩⟩
 obtain⟨k1,k2,k3,k4⟩:=GL (β:=β) (N:=N) hH ad 0 _ ha' (λ_ h=>h) hd
 have hlt:∀ i,2*N<=i->H i≠none->∃ g,ad[i-2*N]? =some g/\β i=g:=λi hi hn=>by
  have:i-2*N<ad.length:=by
   apply Oy;intro e;exact hn (hf i ae)
  refine⟨ad[i-2*N],aH this,?_⟩;rw[hβ2 i hi];simp[List.getD_eq_getElem?_getD,this]
 refine⟨β,Jx H β N 0 ad (mkW H β (2*N) w1),(aK.of mb).aG k1,k2,λi t cs hi=> ?_,λi j hi hj e=> ?_⟩
 ·by_cases c:2*N<=i
  ·obtain⟨g,g1,g2⟩:=hlt i c (by rw[hi];simp);rw[g2];refine⟨by unfold fF;rw[if_pos c];exact g1,k4 (i-2*N) g t cs g1 ?_⟩;rw[<-hi]
   congr 1
   omega
  ·rw[PK i ae];have hs:=aV h.1.size (Nat.le_add_right w1.heap.size i);refine⟨Lu ae hs,?_⟩;refine (k3 _ λhm=> ?_).trans (Jj H β w1 hi _ ae);have:=h.2.lt hm;omega
 ·by_cases c:2*N<=i <;> by_cases d:2*N<=j
  ·obtain⟨g,g1,g2⟩:=hlt i c hi;obtain⟨g',g3,g4⟩:=hlt j d hj;rw[g2,g4] at e;subst e;have:=(List.getElem?_inj (bd.1 g1).1 hd).1 (g1.trans g3.symm);omega
  ·obtain⟨g,g1,g2⟩:=hlt i c hi;rw[g2,PK j ae] at e;have:=h.2.lt (dc g1);omega
  ·obtain⟨g,g1,g2⟩:=hlt j d hj;rw[g2,PK i ae] at e;have:=h.2.lt (dc g1);omega
  ·rw[PK i ae,PK j ae] at e;omega
abbrev uM (P:Program) (w:World) (N:Nat) (K:KC) (SU:TypeId->Bool) (ti:TypeId->Option TI) (keep:∀ b,b<w.heap.size->K.S b) (ad:List Nat) (hd:ad.Nodup) (ha:jA K ad w):Cx where
 P:=P
 w0:=w
 N:=N
 K:=K
 SU:=SU
 ti:=ti
 keep:=keep
 zu:=fF N ad w
 Old:=Bi K ad w
 top:=2*N+ad.length
 Pm:=Nat.le_add_right _ _
 Gc:=λ_ _ h1 h2=>Lu h1 h2
 Pn:=λ_ _ _ h1 h2=>newA_mv h1 h2
 pQ:=λ_ h=>h.1.size
 pR:=⟨dP.of (ax.refl _),ha⟩
 uD:=λ_ _ h k _ s=>MU ha h k s
 DM:=λ_ _ _ h hn hc=>MV h hn hc
 lay:=λ_ H h hH hf=>Jy hd h H hH hf
section
variable {C:Cx} {F:Fr} {H:Hp} {w:World} {m:Option (List FuncId)} {full:Array Oper} {K:Fr->Hp->World->Prop} {o:Oper} {r:List Oper}
end
def Hp.one (i:Nat) (t:TypeId) (cs:List Value):Hp:=λn=>bif Nat.beq n i then some (t,cs.map .val) else none
theorem Hp.Ed (i n:Nat) (t:TypeId) (cs:List Value):Hp.one i t cs n=if n=i then some (t,cs.map .val) else none:=by
 unfold Hp.one;by_cases h:n=i
 ·subst h;simp
 ·have:Nat.beq n i=false:=by rw[<-Fl,Nat.beq_eq];exact h
  simp[this,h]
variable {K:KC} {g:Nat} {t:TypeId} {w:World}
theorem ad1 {cs:List Value} (hc:aQ w g t cs.toArray) (ht:K.fz t=false) (hk:cs.all aO=true):jA K [g] w:=λq hq=>by
 cases ak.1 hq;exact⟨t,cs,hc,ht,hk⟩
theorem jY (g:Nat):[g].Nodup:=cf
theorem own1 {P:Program} {w':World} {N:Nat} {SU:TypeId->Bool} {ti:TypeId->Option TI} {keep:∀ b,b<w.heap.size->K.S b} {ha:jA K [g] w} {β:Nat->Nat} {i:Nat} {cs:List AV} (h:oL (uM P w N K SU ti keep [g] (jY g) ha) β w' i t cs) (hi:i=2*N):aQ w' g t (cs.map (AV.leaf β)).toArray:=by
 have h1:fF N [g] w i (β i):=h.new;unfold fF at h1;rw[if_pos ae,hi,oy] at h1;have h2:g=β (2*N):=by simpa using h1
 have h3:=h.cls;rw[hi,<-h2] at h3;exact h3
theorem VS.fin {C:Cx} {F:Fr} {H:Hp} (hC:C.Ok) {fn:Func} {R:Ending->World->Prop} {vs:List AV} (h:jQ C F H fn.results.toList=some vs) (hR:∀ w' β,aK C.K w w'->C.Old w'->Ends C β H w'->R (.returned (mj (vs.map (AV.bu β)))) w') (oI:C.ds=[]:=by rfl):VS C (bodyPost C.P fn R) [] F H w:=
 λβ a w' hr hk=>zJ hC h hR oI β a w' hr hk
end
end Go.Proofs.YtlifeokjcgngjaaGreat
