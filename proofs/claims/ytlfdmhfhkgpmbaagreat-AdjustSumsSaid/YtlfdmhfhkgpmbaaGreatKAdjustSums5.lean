/-Dz of the proof,laid behind one another. -/
import Derived.Test.YtlfdmhfhkgpmbaaGreatKAdjustSums4
set_option linter.all false
set_option maxHeartbeats 64000000
set_option maxRecDepth 4000
namespace Go.Proofs.YtlfdmhfhkgpmbaaGreat
section
open Go.RowKit
abbrev Exp:=Int×Int×Bool×Rat
def cL (e:Exp):Bool:=decide (e.1<0) || (decide (e.1>9999) || (decide (e.2.1<1) || (decide (e.2.1>40) || !e.2.2.1)))
theorem iM {e:Exp} (h:cL e=false):0<=e.1/\e.1<=9999/\1<=e.2.1/\e.2.1<=40/\e.2.2.1=true:=by
 unfold cL at h
 simp only[Bool.or_eq_false_iff,decide_eq_false_iff_not,Bool.not_eq_false'] at h
 obtain⟨a,b,c,d,f⟩:=h
 exact⟨by omega,by omega,by omega,by omega,f⟩
def lS (e:Exp) (y:Int):Rat:=if cL e=true\/y<=e.1\/y>e.1+e.2.1 then 0 else e.2.2.2*Rat.divInt 1 e.2.1
def oO (e:Exp) (y:Int):Int:=if y<=e.1 then 0 else if y>=e.1+e.2.1 then e.2.1 else y-e.1
def vn (e:Exp) (y:Int):Rat:=if e.1>y then 0 else e.2.2.2*Rat.divInt (e.2.1-oO e y) e.2.1
theorem rG (x:Rat) (l:List Rat):eg (x::l)=x+eg l:=by
 have key:∀ (l:List Rat) (a:Rat),l.foldl (·+ ·) a=a+l.foldl (·+ ·) 0:=by
  intro l
  induction l with
  | nil=>intro a;show a=a+0;grind
  | cons y r ih=>intro a;rw[List.foldl_cons,List.foldl_cons,ih (a+y),ih (0+y)];grind
 show List.foldl (·+ ·) (0+x) l=_
 rw[key]
 show 0+x+eg l=x+eg l
 grind
end
section
open Go.RowKit
attribute [local irreducible] ao VS
abbrev bU:=Int×Int×Bool×List Nat×Bool×List Nat
def bU.exp (e:bU):Exp:=(e.1,e.2.1,nW e.2.2.1 e.2.2.2.1 e.2.2.2.2.1 e.2.2.2.2.2,rq e.2.2.1 e.2.2.2.1 e.2.2.2.2.1 e.2.2.2.2.2)
def nL (x:Int):Prop:= -9223372036854775808<=x/\x<=9223372036854775807
def na (kk:Nat) (w:World) (cs:List Value) (e:bU):Prop:=
 ∃ p c r d,cs=[.int .i64 e.1,.int .i64 e.2.1,.bool e.2.2.1,.slice p e.2.2.2.1.length c,.bool e.2.2.2.2.1,.slice r e.2.2.2.2.2.length d]/\nL e.1/\nL e.2.1/\
   bP w (.agg #[.bool e.2.2.1,.slice p e.2.2.2.1.length c,.bool e.2.2.2.2.1,.slice r e.2.2.2.2.2.length d]) e.2.2.1 e.2.2.2.1 e.2.2.2.2.1 e.2.2.2.2.2/\e.2.2.2.1.length<=kk/\e.2.2.2.2.2.length<=kk
def rH (kk:Nat) (w:World) (v:Value) (e:bU):Prop:=∃ cs:List Value,v=.agg cs.toArray/\na kk w cs e
theorem na.kp {kk:Nat} {T:TypeId->Bool} {w w':World} {cs:List Value} {e:bU} (h:na kk w cs e) (k:aY ⟨UU,λ_=>True,T⟩ w w'):na kk w' cs e:=by
 obtain⟨p,c,r,d,h1,h2,h3,h4,h5⟩:=h
 exact⟨p,c,r,d,h1,h2,h3,h4.kp k,h5⟩
theorem rH.kp {kk:Nat} {T:TypeId->Bool} {w w':World} {v:Value} {e:bU} (h:rH kk w v e) (k:aY ⟨UU,λ_=>True,T⟩ w w'):rH kk w' v e:=by
 obtain⟨cs,h1,h2⟩:=h
 exact⟨cs,h1,h2.kp k⟩
theorem rH.k {kk:Nat} {T:TypeId->Bool} {w w':World} {v:Value} {e:bU} (h:rH kk w v e) (k:aY ⟨UU,λ_=>True,T⟩ w w':=by exact bG):rH kk w' v e:=h.kp k
theorem il (kk:Nat):fJ (na kk) 6 where
 kp:=λh k=>h.kp k
 len:=λh=>by obtain⟨p,c,r,d,rfl,_⟩:=h;rfl
 ok:=λh=>by obtain⟨p,c,r,d,rfl,_⟩:=h;rfl
theorem bP.k {T:TypeId->Bool} {w w':World} {v:Value} {s t:Bool} {xs ys:List Nat} (h:bP w v s xs t ys) (k:aY ⟨UU,λ_=>True,T⟩ w w':=by exact bG):bP w' v s xs t ys:=h.kp k
theorem eK (v:Value) (e:bU) (kk:Nat) (w:World) (hv:rH kk w v e) (hk:kk<=134217728) (c:Int) (hc:(if cL e.exp=true then 2 else 0)=c):
  Calls Tryz.prog 81 #[v] w λo w'=>o=.returned (.int .i64 c)/\ax w w':=by
 obtain⟨cs,rfl,p,cp,r,d,rfl,hy,hn,hq,h1,h2⟩:=hv
 obtain⟨y,n,s,xs,t,ys⟩:=e
 have hew:cL (bU.exp (y,n,s,xs,t,ys))=(decide (y<0) || (decide (y>9999) || (decide (n<1) || (decide (n>40) || !nW s xs t ys)))):=rfl
 rw[hew] at hc
 replace hq:bP w (.agg #[.bool s,.slice p xs.length cp,.bool t,.slice r ys.length d]) s xs t ys:=hq
 replace h1:xs.length<=kk:=h1
 replace h2:ys.length<=kk:=h2
 refine ae (C:=aR Tryz.prog w _) (args:=[_]) Tryz.func81 rfl Tryz.ntmps81 (bt rfl) ?_
 refine ab ?_
 by_cases a1:y<0
 ·refine VO.fix 6 rfl (congrArg (λb=>AV.val (.bool b)) (decide_eq_true a1)) ?_
  refine ab ?_
  refine az ?_;intro wz kz bz
  exact⟨by rw[<-hc,decide_eq_true a1];rfl,bz⟩
 refine VO.fix 6 rfl (congrArg (λb=>AV.val (.bool b)) (decide_eq_false a1)) ?_
 refine ab ?_
 by_cases a2:y>9999
 ·refine VO.fix 11 rfl (congrArg (λb=>AV.val (.bool b)) (decide_eq_true a2)) ?_
  refine ab ?_
  refine az ?_;intro wz kz bz
  exact⟨by rw[<-hc,decide_eq_true a2,Bool.true_or,Bool.or_true];rfl,bz⟩
 refine VO.fix 11 rfl (congrArg (λb=>AV.val (.bool b)) (decide_eq_false a2)) ?_
 refine ab ?_
 by_cases a3:n<1
 ·refine VO.fix 16 rfl (congrArg (λb=>AV.val (.bool b)) (decide_eq_true a3)) ?_
  refine ab ?_
  refine az ?_;intro wz kz bz
  exact⟨by rw[<-hc,decide_eq_true a3];simp[iu],bz⟩
 refine VO.fix 16 rfl (congrArg (λb=>AV.val (.bool b)) (decide_eq_false a3)) ?_
 refine ab ?_
 by_cases a4:n>40
 ·refine VO.fix 21 rfl (congrArg (λb=>AV.val (.bool b)) (decide_eq_true a4)) ?_
  refine ab ?_
  refine az ?_;intro wz kz bz
  exact⟨by rw[<-hc,decide_eq_true a4];simp[iu],bz⟩
 refine VO.fix 21 rfl (congrArg (λb=>AV.val (.bool b)) (decide_eq_false a4)) ?_
 refine ab ?_
 refine VO.call rfl rfl (fk Tryz.func97) (λaK bn aU=>(iA s t xs ys _ aK (hq.k) aa aa).mono ?_)
 rintro e w1 ⟨rfl,aC⟩
 rw[decide_eq_false a1,decide_eq_false a2,decide_eq_false a3,decide_eq_false a4] at hc
 cases hr:nW s xs t ys with
 | true=>
   rw[hr] at hc
   refine aB aC ?_
   intro bL _ bb1
   refine az ?_;intro wz kz bz
   exact⟨by rw[<-hc];rfl,bz⟩
 | false=>
   rw[hr] at hc
   refine aB aC ?_
   intro bL _ bb1
   refine az ?_;intro wz kz bz
   exact⟨by rw[<-hc];rfl,bz⟩
theorem nv {e:bU} (h:cL e.exp=false):0<=e.1/\e.1<=9999/\1<=e.2.1/\e.2.1<=40:=by
 obtain⟨a,b,c,d,_⟩:=iM h
 exact⟨a,b,c,d⟩
theorem Dk (v:Value) (e:bU) (kk:Nat) (z:Int) (w:World) (hv:rH kk w v e) (hw:cL e.exp=false) (hz:nL z):
  Calls Tryz.prog 91 #[v,.int .i64 z] w λo w'=>o=.returned (.int .i64 (oO e.exp z))/\ax w w':=by
 obtain⟨g1,g2,g3,g4⟩:=nv hw
 obtain⟨cs,rfl,p,cp,r,d,rfl,hy,hn,hq,h1,h2⟩:=hv
 obtain⟨y,n,s,xs,t,ys⟩:=e
 replace g1:0<=y:=g1
 replace g2:y<=9999:=g2
 replace g3:1<=n:=g3
 replace g4:n<=40:=g4
 obtain⟨z1,z2⟩:=hz
 have hec:oO (bU.exp (y,n,s,xs,t,ys)) z=if z<=y then 0 else if z>=y+n then n else z-y:=rfl
 rw[hec]
 refine ae (C:=aR Tryz.prog w _) (args:=[_,_]) Tryz.func91 rfl Tryz.ntmps91 (bt rfl) ?_
 refine ab ?_
 by_cases a1:z<=y
 ·refine VS.bo rfl (decide_eq_true a1) ?_
  refine ab ?_
  refine az ?_;intro wz kz bz
  exact⟨by rw[if_pos a1];rfl,bz⟩
 refine VS.bB rfl (decide_eq_false a1) ?_
 refine ab ?_
 have e1:IntKind.i64.wrap (y+n)=y+n:=IntWalk.i64_in _ aa
 by_cases a2:z>=y+n
 ·refine VS.bo rfl (decide_eq_true (by rw[e1];exact a2)) ?_
  refine ab ?_
  refine az ?_;intro wz kz bz
  exact⟨by rw[if_neg a1,if_pos a2];rfl,bz⟩
 ·refine VS.bB rfl (decide_eq_false (by rw[e1];exact a2)) ?_
  refine ab ?_
  refine az ?_;intro wz kz bz
  exact⟨by rw[if_neg a1,if_neg a2,IntWalk.i64_in (z-y) aa];rfl,bz⟩
theorem Ey (v:Value) (e:bU) (kk:Nat) (k:Int) (w:World) (hv:rH kk w v e) (hw:cL e.exp=false) (hk:kk<=1048576) (k0:0<=k) (k1:k<=40):
  Calls Tryz.prog 90 #[v,.int .i64 k] w λo w'=>∃ x,o=.returned x/\aH w' w.heap.size x (e.exp.2.2.2*Rat.divInt k e.2.1)/\ax w w':=by
 obtain⟨g1,g2,g3,g4⟩:=nv hw
 obtain⟨cs,rfl,p,cp,r,d,rfl,hy,hn,hq,h1,h2⟩:=hv
 obtain⟨y,n,s,xs,t,ys⟩:=e
 replace g3:1<=n:=g3
 replace g4:n<=40:=g4
 replace hq:bP w (.agg #[.bool s,.slice p xs.length cp,.bool t,.slice r ys.length d]) s xs t ys:=hq
 replace h1:xs.length<=kk:=h1
 replace h2:ys.length<=kk:=h2
 have jg:=hq.in h1 h2
 refine ae (C:=aR Tryz.prog w _) (args:=[_,_]) Tryz.func90 rfl Tryz.ntmps90 (bt rfl) ?_
 refine ab ?_
 refine VO.call rfl rfl (fk Tryz.func143) (λaK bn aU=>(JX k n aK aa aa aa aa 0 (JY aa)).mono ?_)
 rintro e w1 ⟨r1,rfl,q1,aC⟩
 obtain⟨s1,p1,n1,c1,t1,y1,m1,d1,rfl⟩:=q1.form
 refine aB aC ?_
 intro bL _ bb1
 refine VO.cR rfl rfl (fk Tryz.func106) (λaZ bI bu=>uW _ _ (rq s xs t ys) (Rat.divInt k n) kk 1 aZ (jg.k) (q1.ki (bS.of aa aa)) aa aa) (λaZ bI bu w2 s2 p2 n2 c2 t2 y2 m2 d2 q2 aQ cH _ bb2=>wV rfl ?_)
 refine ab ?_
 refine az ?_;intro wz kz bz
 exact⟨_,rfl,(q2.kp kz).mono bu.size,bz⟩
theorem GU (v:Value) (e:bU) (kk:Nat) (z:Int) (w:World) (hv:rH kk w v e) (hk:kk<=1048576) (hz:nL z):
  Calls Tryz.prog 88 #[v,.int .i64 z] w λo w'=>∃ x,o=.returned x/\aH w' w.heap.size x (lS e.exp z)/\ax w w':=by
 have EZ:=hv
 obtain⟨cs,rfl,p,cp,r,d,rfl,hy,hn,hq,h1,h2⟩:=hv
 obtain⟨z1,z2⟩:=hz
 obtain⟨C,hC⟩:∃ C,C=lS e.exp z:=⟨_,rfl⟩
 rw[<-hC]
 unfold lS at hC
 refine ae (C:=aR Tryz.prog w _) (args:=[_,_]) Tryz.func88 rfl Tryz.ntmps88 (bt rfl) ?_
 refine ab ?_
 cases hw:cL e.exp with
 | true=>
   rw[hw,if_pos (.inl rfl)] at hC
   subst hC
   refine VO.cB rfl rfl (fk Tryz.func81) (λaK bn aU=>eK _ e kk aK (EZ.k) aa 2 (by rw[hw];rfl)) (λaK bn aU w1 aC bL _ bb1=>wV rfl ?_)
   refine ab ?_
   refine VO.cR rfl rfl (fk Tryz.func11) (λaZ bI bu=>bK 0 aZ aa aa) (λaZ bI bu w2 s2 p2 n2 c2 t2 y2 m2 d2 q2 aQ cH _ bb2=>wV rfl ?_)
   refine ab ?_
   refine az ?_;intro wz kz bz
   exact⟨_,rfl,(q2.kp kz).mono bu.size,bz⟩
 | false=>
   obtain⟨g1,g2,g3,g4⟩:=nv hw
   have e1:IntKind.i64.wrap (e.1+e.2.1)=e.1+e.2.1:=IntWalk.i64_in _ aa
   rw[hw] at hC
   refine VO.cB rfl rfl (fk Tryz.func81) (λaK bn aU=>eK _ e kk aK (EZ.k) aa 0 (by rw[hw];rfl)) (λaK bn aU w1 aC bL _ bb1=>wV rfl ?_)
   refine ab ?_
   by_cases a1:z<=e.1
   ·rw[if_pos (.inr (.inl a1))] at hC
    subst hC
    refine VO.fix 14 rfl (congrArg (λb=>AV.val (.bool b)) (decide_eq_true a1)) ?_
    refine ab ?_
    refine VO.cR rfl rfl (fk Tryz.func11) (λaZ bI bu=>bK 0 aZ aa aa) (λaZ bI bu w2 s2 p2 n2 c2 t2 y2 m2 d2 q2 aQ cH _ bb2=>wV rfl ?_)
    refine ab ?_
    refine az ?_;intro wz kz bz
    exact⟨_,rfl,(q2.kp kz).mono bu.size,bz⟩
   refine VO.fix 14 rfl (congrArg (λb=>AV.val (.bool b)) (decide_eq_false a1)) ?_
   refine ab ?_
   by_cases a2:z>e.1+e.2.1
   ·rw[if_pos (.inr (.inr a2))] at hC
    subst hC
    refine VS.bo rfl (decide_eq_true (show z>IntKind.i64.wrap (e.1+e.2.1) by rw[e1];exact a2)) ?_
    refine ab ?_
    refine VO.cR rfl rfl (fk Tryz.func11) (λaZ bI bu=>bK 0 aZ aa aa) (λaZ bI bu w2 s2 p2 n2 c2 t2 y2 m2 d2 q2 aQ cH _ bb2=>wV rfl ?_)
    refine ab ?_
    refine az ?_;intro wz kz bz
    exact⟨_,rfl,(q2.kp kz).mono bu.size,bz⟩
   ·rw[if_neg (by rintro (h|h|h);exact Bool.noConfusion h;exact a1 h;exact a2 h)] at hC
    subst hC
    refine VS.bB rfl (decide_eq_false (show ¬ z>IntKind.i64.wrap (e.1+e.2.1) by rw[e1];exact a2)) ?_
    refine ab ?_
    refine VO.cR rfl rfl (fk Tryz.func90) (λaZ bI bu=>Ey _ e kk 1 aZ (EZ.k) hw hk aa aa) (λaZ bI bu w2 s2 p2 n2 c2 t2 y2 m2 d2 q2 aQ cH _ bb2=>wV rfl ?_)
    refine ab ?_
    refine az ?_;intro wz kz bz
    exact⟨_,rfl,(q2.kp kz).mono bu.size,bz⟩
end
section
open Go.RowKit
theorem Bp {s t:Bool} {xs ys:List Nat} (h:nW s xs t ys=true) (lx:bH xs) (ly:bH ys):
  decide ((rq s xs t ys).num<0)=s/\limbs (rq s xs t ys).num.natAbs=xs/\decide (((rq s xs t ys).den:Int)<0)=t/\limbs ((rq s xs t ys).den:Int).natAbs=ys:=by
 obtain⟨h1,h2,h3,h4⟩:=Ep h
 obtain⟨e1,e2⟩:=ld ⟨h3,h4⟩
 unfold rq
 rw[e1,e2]
 unfold numOf
 rw[if_pos h1,if_pos h2]
 obtain⟨c1,c2⟩:=canon lx h1
 obtain⟨c3,c4⟩:=canon ly h2
 exact⟨c1.symm,c2.symm,c3.symm,c4.symm⟩
section
variable {α:Type} {E:World->List Value->α->Prop} {sz:Nat} {w w':World} {es:List α} {vs:List (List Value)}
end
end
section
open Go.RowKit
attribute [local irreducible] ao VS
theorem eS {w:World} {b o:Nat} {u:Value} (h:w.cell? ⟨b,o,none⟩=some u):∀ j x,[u][j]? =some x->w.cell? ((⟨b,o,none⟩:Addr).add j)=some x:=by
 intro j x hj
 cases j with
 | zero=>cases hj;rw[Addr.add_mid,Nat.add_zero];exact h
 | succ j=>simp at hj
theorem GV (v:Value) (b:Nat) (e:bU) (kk:Nat) (z:Int) (w:World) (hv:rH kk w v e) (hc:w.cell? ⟨b,0,none⟩=some (.int .i64 z)) (hk:kk<=1048576) (hz:nL z):
  Calls Tryz.prog 87 #[v,.pointer (some ⟨b,0,none⟩)] w λo w'=>∃ x,o=.returned x/\aH w' w.heap.size x (lS e.exp z)/\ax w w':=by
 have EZ:=hv
 obtain⟨cs,rfl,p,cp,r,d,rfl,hy,hn,hq,h1,h2⟩:=hv
 refine ae (C:=aR Tryz.prog w _) (args:=[_,_]) Tryz.func87 rfl Tryz.ntmps87 (bt rfl) ?_
 refine ab ?_
 refine VO.read rfl [.int .i64 z] rfl (eS hc) (wV rfl ?_)
 refine VO.cR rfl rfl (fk Tryz.func88) (λaK bn aU=>GU _ e kk z aK (EZ.k) hk hz) (λaK bn aU w1 s1 p1 n1 c1 t1 y1 m1 d1 q1 aC bL _ bb1=>wV rfl ?_)
 refine ab ?_
 refine az ?_;intro wz kz bz
 exact⟨_,rfl,(q1.kp kz).mono aU.size,bz⟩
theorem xA {e:Exp} (h:cL e=false) (z:Int):0<=oO e z/\oO e z<=e.2.1:=by
 obtain⟨h0,h1,h2,h3,_⟩:=iM h
 unfold oO
 split
 ·omega
 ·split <;> omega
theorem GW (v:Value) (b:Nat) (e:bU) (kk:Nat) (z:Int) (w:World) (hv:rH kk w v e) (hw:cL e.exp=false) (hc:w.cell? ⟨b,0,none⟩=some (.int .i64 z)) (hk:kk<=1048576) (hz:nL z):
  Calls Tryz.prog 89 #[v,.pointer (some ⟨b,0,none⟩)] w λo w'=>∃ x,o=.returned x/\aH w' w.heap.size x (vn e.exp z)/\ax w w':=by
 have EZ:=hv
 obtain⟨g1,g2,g3,g4⟩:=nv hw
 obtain⟨k1,k2⟩:=xA hw z
 obtain⟨N,hN⟩:∃ N,N=oO e.exp z:=⟨_,rfl⟩
 have hN2:N<=e.2.1:=by rw[hN];exact k2
 have e1:IntKind.i64.wrap (e.2.1-N)=e.2.1-N:=IntWalk.i64_in _ aa
 have hb:vn e.exp z=if e.1>z then 0 else e.exp.2.2.2*Rat.divInt (e.2.1-N) e.2.1:=by rw[hN];rfl
 obtain⟨Q,hQ⟩:∃ Q,Q=vn e.exp z:=⟨_,rfl⟩
 rw[<-hQ] at hb ⊢
 obtain⟨cs,rfl,p,cp,r,d,rfl,hy,hn,hq,h1,h2⟩:=hv
 refine ae (C:=aR Tryz.prog w _) (args:=[_,_]) Tryz.func89 rfl Tryz.ntmps89 (bt rfl) ?_
 refine ab ?_
 refine VO.read rfl [.int .i64 z] rfl (eS hc) (wV rfl ?_)
 refine ab ?_
 by_cases a1:e.1>z
 ·rw[if_pos a1] at hb
  subst hb
  refine VS.bo rfl (decide_eq_true a1) ?_
  refine ab ?_
  refine VO.cR rfl rfl (fk Tryz.func11) (λaK bn aU=>bK 0 aK aa aa) (λaK bn aU w1 s1 p1 n1 c1 t1 y1 m1 d1 q1 aC bL _ bb1=>wV rfl ?_)
  refine ab ?_
  refine az ?_;intro wz kz bz
  exact⟨_,rfl,(q1.kp kz).mono aU.size,bz⟩
 ·rw[if_neg a1] at hb
  subst hb
  refine VS.bB rfl (decide_eq_false a1) ?_
  refine ab ?_
  refine VO.read rfl [.int .i64 z] rfl (eS hc) (wV rfl ?_)
  refine VO.cB rfl rfl (fk Tryz.func91) (λaK bn aU=>Dk _ e kk z aK (EZ.k) hw hz) (λaK bn aU w1 aC bL _ bb1=>wV rfl ?_)
  refine ab ?_
  rw[<-hN,e1]
  refine VO.cR rfl rfl (fk Tryz.func90) (λaZ bI bu=>Ey _ e kk (e.2.1-N) aZ (EZ.k) hw hk aa aa) (λaZ bI bu w2 s2 p2 n2 c2 t2 y2 m2 d2 q2 aQ cH _ bb2=>wV rfl ?_)
  refine ab ?_
  refine az ?_;intro wz kz bz
  exact⟨_,rfl,(q2.kp kz).mono bu.size,bz⟩
def vo (kk:Nat) (w:World) (g:Nat) (l:List bU):Prop:=∃ u,w.cell? ⟨g,0,none⟩=some u/\cf (na kk) 6 w u l
theorem vo.bq {kk:Nat} {w w':World} {g:Nat} {l:List bU} (h:vo kk w g l) (hb:ax w w'):vo kk w' g l:=by
 obtain⟨u,h1,h2⟩:=h
 exact⟨u,hb.cell h1,h2.bq (il kk) hb⟩
def EachOk (kk K:Nat) (w:World) (fid:FuncId) (cap:Value) (f:bU->Rat) (l:List bU):Prop:=
 iU Tryz.prog fid/\(∀ e∈l,bS (f e) K)/\∀ (w1:World) (u:Value) (e:bU),ax w w1->e∈l->rH kk w1 u e->Calls Tryz.prog fid #[u,cap] w1 λo w2=>∃ x,o=.returned x/\aH w2 w1.heap.size x (f e)/\ax w1 w2
theorem Bq (g:Nat) (fid:FuncId) (cap:Value) (f:bU->Rat) (l:List bU) (kk K:Nat) (w:World) (hl:vo kk w g l) (hf:EachOk kk K w fid cap f l) (hK:ba K l.length<=1048576):
  Calls Tryz.prog 86 #[.pointer (some ⟨g,0,none⟩),.func (.func fid) #[] #[cap]] w λo w'=>∃ x,o=.returned x/\aH w' w.heap.size x (eg (l.map f))/\bS (eg (l.map f)) (ba K l.length)/\ax w w':=by
 obtain⟨hfn,Ht,hfc⟩:=hf
 obtain⟨u,hu,hsl⟩:=hl
 obtain⟨p,c,rfl,dk,dY⟩:=hsl.form
 obtain⟨N,hN⟩:∃ N,N=l.length:=⟨_,rfl⟩
 rw[<-hN] at hsl hK dk ⊢
 rw[<-hN] at hu
 have hNm:N<9223372036854775807:=by unfold ba at hK;have:=Nat.le_mul_of_pos_right N (show 0<bF K+1 by omega);omega
 refine ae (C:=aR Tryz.prog w _) (args:=[_,_]) Tryz.func86 rfl Tryz.ntmps86 (bt rfl) ?_
 refine ab ?_
 refine VO.cR rfl rfl (fk Tryz.func11) (λaK bn aU=>bK 0 aK aa aa) (λaK bn aU w1 s1 p1 n1 c1 t1 y1 m1 d1 q1 aC bL _ bb1=>wV rfl ?_)
 refine ab ?_
 refine VO.read rfl [.slice p N c] rfl (eS hu) (wV rfl ?_)
 refine ab ?_
 refine VS.loop (J:=λn L M w'=>∃ i s p' n' c' t r m d,i<=N/\n=N-i/\L=[(1,.val (.func (.func fid) #[] #[cap])),(12,.val (.slice p N c)),(13,.val (.int .i64 (N:Int))),(14,.val (.int .i64 (i:Int))),(5,.box 5 0),(4,.box 4 0)]/\
  M=[(4,(34,([.bool false,.slice none 0 0,.bool false,.slice none 0 0]:List Value).map .val)),(5,(34,([.bool s,.slice p' n' c',.bool t,.slice r m d]:List Value).map .val))]/\aH w' w.heap.size (.agg #[.bool s,.slice p' n' c',.bool t,.slice r m d]) (eg ((l.map f).take i))/\bS (eg ((l.map f).take i)) (ba K i)) N
  ⟨_,_,?_,?_,?_,?_,⟨0,_,_,_,_,_,_,_,_,by omega,rfl,rfl,rfl,q1.k.mono aU.size,bS.zero.mono (by unfold ba;omega)⟩⟩ ?_
 ·exact dX
 ·exact dX
 ·rfl
 ·exact ll
 rintro n L M w' ⟨i,s,p',n',c',t,r,m,d,hi,rfl,rfl,rfl,ho,hz⟩
 refine ab ?_
 by_cases hlt:i<N
 ·obtain⟨e,he⟩:∃ e,l[i]? =some e:=⟨_,List.getElem?_eq_getElem aa⟩
  have hfe:(l.map f)[i]? =some (f e):=by rw[List.getElem?_map,he];rfl
  obtain⟨b,off,cs,rfl,hc,hE⟩:=hsl.at he
  have hE0:=hE
  obtain⟨ep,ec,er,ed,rfl,-⟩:=hE
  refine VS.bo rfl (decide_eq_true (Int.ofNat_lt.2 hlt)) ?_
  refine ab ?_
  refine VO.cond rfl fw (wV rfl ?_)
  refine VO.read rfl [.int .i64 e.1,.int .i64 e.2.1,.bool e.2.2.1,.slice ep e.2.2.2.1.length ec,.bool e.2.2.2.2.1,.slice er e.2.2.2.2.2.length ed] rfl (λj u hj=>by rw[Addr.add_mid,Int.toNat_natCast];exact hc j u hj) (wV rfl ?_)
  refine ab ?_
  refine VO.call rfl rfl hfn (λaZ bI bu=>(hfc aZ _ e bu (List.mem_of_getElem? he) ⟨_,rfl,hE0.kp (Kp.of (U:=UU) bu)⟩).mono ?_)
  rintro o w2 ⟨r2,rfl,q2,aQ⟩
  obtain⟨s2,p2,n2,c2,t2,y2,m2,d2,rfl⟩:=q2.form
  refine aB aQ ?_
  intro cH _ bb2
  have hfz:=Ht e (List.mem_of_getElem? he)
  refine VO.cR rfl rfl (fk Tryz.func13) (λck cJ da=>df _ _ (eg ((l.map f).take i)) (f e) (ba K i) (bF K) ck (ho.ki hz) (q2.ki (hfz.mono (by unfold bF;omega))) (by have:=km (k:=K) hi;omega) (by unfold ba at hK;have:=Nat.le_mul_of_pos_left (bF K+1) (show 0<N by omega);omega)) (λck cJ da w3 s3 p3 n3 c3 t3 y3 m3 d3 q3 bM dP _ bb3=>wV rfl ?_)
  refine ab ?_
  refine VS.back (N-(i+1)) aa ⟨_,_,?_,?_,?_,?_,⟨i+1,_,_,_,_,_,_,_,_,by omega,rfl,rfl,rfl,((q3.k).mono da.size).cast (iL hfe).symm,by rw[iL hfe,mU];exact hz.add (hfz.mono (by unfold bF;omega))⟩⟩
  ·refine⟨rfl,rfl,rfl,?_,rfl,rfl,trivial⟩
   rw[<-bD (i:=i) aa];rfl
  ·exact dX
  ·rfl
  ·exact ll
 ·refine VS.bB rfl (decide_eq_false (λe=>hlt (Int.ofNat_lt.1 e))) ?_
  refine ab ?_
  refine az ?_;intro wz kz bz
  obtain rfl:i=N:=by omega
  rw[List.take_of_length_le (by rw[List.length_map];omega)] at ho hz
  exact⟨_,rfl,ho.kp kz,hz,bz⟩
end
section
open Go.RowKit
attribute [local irreducible] ao VS
theorem na.sz {kk:Nat} {w:World} {cs:List Value} {e:bU} (h:na kk w cs e):bS e.exp.2.2.2 (bF kk):=by
 obtain⟨p,c,r,d,-,-,-,h4,h5,h6⟩:=h
 exact (h4.in h5 h6).oZ
theorem Kq {e:Exp} {k:Nat} (h:bS e.2.2.2 k) (z:Int):bS (lS e z) (k+1):=by
 unfold lS
 split
 ·exact bS.zero.mono aa
 ·rename_i hn
  cases hw:cL e with
  | true=>exact absurd (.inl hw) hn
  | false=>
    obtain⟨a,b,c,d,_⟩:=iM hw
    exact h.mul (bS.of aa aa)
theorem ebal_sz {e:Exp} {k:Nat} (h:bS e.2.2.2 k) (hw:cL e=false) (z:Int):bS (vn e z) (k+1):=by
 obtain⟨a,b,c,d,_⟩:=iM hw
 obtain⟨k1,k2⟩:=xA hw z
 unfold vn
 split
 ·exact bS.zero.mono aa
 ·exact h.mul (bS.of aa aa)
theorem cf.mem {α:Type} {E:World->List Value->α->Prop} {sz:Nat} {w:World} {v:Value} {l:List α} {a:α} (h:cf E sz w v l) (ha:a∈l):∃ cs,E w cs a:=by
 obtain⟨i,hi⟩:=List.getElem?_of_mem ha
 obtain⟨p,c,rfl,_⟩:=h.form
 obtain⟨b,off,cs,_,_,he⟩:=h.at hi
 exact⟨cs,he⟩
theorem ko {w:World} {b:Nat} {t:TypeId} {u:Value} (h:aW w b t #[u]):w.cell? ⟨b,0,none⟩=some u:=h.cell (by rfl)
def jw (l:List bU) (z:Int):Rat:=eg (l.map λe=>lS e.exp z)
def lT (l:List bU) (z:Int):Rat:=eg (l.map λe=>vn e.exp z)
theorem Kr (g:Nat) (l:List bU) (kk:Nat) (z:Int) (w:World) (hl:vo kk w g l) (hk:kk<=1024) (hz:nL z) (hn:l.length<=128):
  Calls Tryz.prog 38 #[.pointer (some ⟨g,0,none⟩),.int .i64 z] w λo w'=>∃ x,o=.returned x/\aH w' w.heap.size x (jw l z)/\bS (jw l z) (ba (bF kk+1) l.length)/\ax w w':=by
 have Ht:∀ e∈l,bS (lS e.exp z) (bF kk+1):=λe he=>by
  obtain⟨u,_,h⟩:=hl
  obtain⟨cs,h⟩:=h.mem he
  exact Kq h.sz z
 have hK:ba (bF kk+1) l.length<=1048576:=by
  have:=km (k:=bF kk+1) hn
  have:bF (bF kk+1)<=2000:=by unfold bF;omega
  have h2:ba (bF kk+1) 128<=1048576:=by unfold ba;omega
  omega
 refine ae (C:=aR Tryz.prog w _) (args:=[_,_]) Tryz.func38 rfl Tryz.ntmps38 (bt rfl) ?_
 refine ab ?_
 refine VO.fh rfl (fk Tryz.func86) (λaK β bn aU ho=>(Bq g _ (.pointer (some ⟨β 3,0,none⟩)) (λe=>lS e.exp z) l kk (bF kk+1) aK (hl.bq aU)
  ⟨fk Tryz.func87,Ht,λw1 u e hb he hv=>GV u (β 3) e kk z w1 hv (hb.cell (ko (ho.own 3 (.base (List.mem_singleton.2 rfl)) _ _ rfl).cls)) aa hz⟩ hK).mono ?_)
 rintro o w1 ⟨r1,rfl,q1,vI,aC⟩
 obtain⟨s1,p1,n1,c1,t1,y1,m1,d1,rfl⟩:=q1.form
 refine aB aC ?_
 intro bL _ bb1
 refine az ?_;intro wz kz bz
 exact⟨_,rfl,(q1.kp kz).mono aU.size,vI,bz⟩
theorem yw (g:Nat) (l:List bU) (kk:Nat) (z:Int) (w:World) (hl:vo kk w g l) (hw:∀ e∈l,cL e.exp=false) (hk:kk<=1024) (hz:nL z) (hn:l.length<=128):
  Calls Tryz.prog 39 #[.pointer (some ⟨g,0,none⟩),.int .i64 z] w λo w'=>∃ x,o=.returned x/\aH w' w.heap.size x (lT l z)/\bS (lT l z) (ba (bF kk+1) l.length)/\ax w w':=by
 have Ht:∀ e∈l,bS (vn e.exp z) (bF kk+1):=λe he=>by
  obtain⟨u,_,h⟩:=hl
  obtain⟨cs,h⟩:=h.mem he
  exact ebal_sz h.sz (hw e he) z
 have hK:ba (bF kk+1) l.length<=1048576:=by
  have:=km (k:=bF kk+1) hn
  have:bF (bF kk+1)<=2000:=by unfold bF;omega
  have h2:ba (bF kk+1) 128<=1048576:=by unfold ba;omega
  omega
 refine ae (C:=aR Tryz.prog w _) (args:=[_,_]) Tryz.func39 rfl Tryz.ntmps39 (bt rfl) ?_
 refine ab ?_
 refine VO.fh rfl (fk Tryz.func86) (λaK β bn aU ho=>(Bq g _ (.pointer (some ⟨β 3,0,none⟩)) (λe=>vn e.exp z) l kk (bF kk+1) aK (hl.bq aU)
  ⟨fk Tryz.func89,Ht,λw1 u e hb he hv=>GW u (β 3) e kk z w1 hv (hw e he) (hb.cell (ko (ho.own 3 (.base (List.mem_singleton.2 rfl)) _ _ rfl).cls)) aa hz⟩ hK).mono ?_)
 rintro o w1 ⟨r1,rfl,q1,vI,aC⟩
 obtain⟨s1,p1,n1,c1,t1,y1,m1,d1,rfl⟩:=q1.form
 refine aB aC ?_
 intro bL _ bb1
 refine az ?_;intro wz kz bz
 exact⟨_,rfl,(q1.kp kz).mono aU.size,vI,bz⟩
end
section
open Go.RowKit
attribute [local irreducible] ao VS
theorem bP.lims {w:World} {v:Value} {s t:Bool} {xs ys:List Nat} (h:bP w v s xs t ys):bH xs/\bH ys:=by
 obtain⟨_,_,_,_,_,h1,h2⟩:=h
 exact⟨h1.lim,h2.lim⟩
theorem qn (q:Rat):eg [q]=q:=by show 0+q=q;grind
end
set_option maxRecDepth 4000
section
open Go.RowKit
attribute [local irreducible] ao VS
end
section
open Go.RowKit
attribute [local irreducible] ao VS
theorem eh {w:World} {b off i sz:Nat} {cs:List Value} (hc:∀ (j:Nat) (u:Value),cs[j]? =some u->w.cell? ⟨b,off+i*sz+j,none⟩=some u) (k:Nat) (ds:List Value) (hd:ds <+:cs.drop k):∀ (j:Nat) (u:Value),ds[j]? =some u->w.cell? ((⟨b,off+((i:Nat):Int).toNat*sz+k,none⟩:Addr).add j)=some u:=by
 intro j u hj
 obtain⟨t,ht⟩:=hd
 rw[Addr.add_mid,Int.toNat_natCast,Nat.add_assoc]
 refine hc (k+j) u ?_
 rw[<-List.getElem?_drop,<-ht,List.getElem?_append_left (List.getElem?_eq_some_iff.1 hj).1]
 exact hj
end
section
open Go.RowKit
attribute [local irreducible] ao VS
def enz (e:bU):Bool:=decide (e.exp.2.2.2≠0)
def dy (l:List bU):List bU:=l.filter enz
end
section
open Go.RowKit
attribute [local irreducible] ao VS
end
section
open Go.RowKit
attribute [local irreducible] ao VS
end
section
open Go.RowKit
def Hp.ads:Nat->List (TypeId×List AV)->Hp
 | _,[]=>λ_=>none
 | i,c::r=>λn=>bif Nat.beq n i then some c else Hp.ads (i+1) r n
theorem Hp.vp:∀ (l:List (TypeId×List AV)) (i n:Nat),Hp.ads i l n=if i<=n then l[n-i]? else none
 | [],i,n=>by unfold Hp.ads;simp
 | c::r,i,n=>by
   unfold Hp.ads
   rw[Hp.vp r (i+1) n]
   by_cases h:n=i
   ·subst h;simp
   ·have hb:Nat.beq n i=false:=by rw[<-Bool.not_eq_true,Nat.beq_eq];exact h
    rw[hb,cond_false]
    by_cases h1:i<=n
    ·rw[if_pos h1,if_pos aa,show n-i=(n-(i+1))+1 by omega];rfl
    ·rw[if_neg h1,if_neg aa]
def adB (N:Nat) (ad:List Nat):Nat->Nat:=λi=>ad.getD (i-2*N) 0
structure Br (K:KC) (N:Nat) (ad:List Nat) (l:List (TypeId×List AV)) (w:World):Prop where
 len:ad.length=l.length
 nodup:ad.Nodup
 cls:∀ (j:Nat) (g:Nat) (c:TypeId×List AV),ad[j]? =some g->l[j]? =some c->aW w g c.1 (c.2.map (AV.leaf (adB N ad))).toArray
 ok:∀ c∈l,K.fz c.1=false/\c.2.all aE=true
 ids:∀ c∈l,∀ k∈aI c.2,2*N<=k/\k<2*N+l.length
theorem Br.ad {K:KC} {N:Nat} {ad:List Nat} {l:List (TypeId×List AV)} {w:World} (h:Br K N ad l w):jZ K ad w:=λg hg=>by
 obtain⟨j,hj⟩:=List.mem_iff_getElem?.1 hg
 have hlt:=(List.getElem?_eq_some_iff.1 hj).1
 obtain⟨c,hc⟩:∃ c,l[j]? =some c:=⟨_,List.getElem?_eq_getElem (by rw[<-h.len];exact hlt)⟩
 obtain⟨h1,h2⟩:=h.ok c (List.mem_of_getElem? hc)
 exact⟨c.1,_,h.cls j g c hj hc,h1,dH h2⟩
theorem sx (P:Program) (w:World) (N:Nat) (K:KC) (SU:TypeId->Bool) (ti:TypeId->Option TI) (keep:∀ b,b<w.heap.size->K.S b) {ad:List Nat} {l:List (TypeId×List AV)} {us:List Value} {f:FuncId} {fn:Func} {c:Code} {R:Ending->World->Prop} (hf:P.funcs[f]? =some fn) (hb:fn.body=some c) (hN:fn.ntmps=N) (ha:us.length+1<=N)
  (hl:Br K N ad l w) (h0:0<l.length)
  (h:VS (Ap P w N K SU ti keep ad hl.nodup hl.ad) (bodyPost P fn R) [.code c] (Fr.FE 0 (.box (2*N) 0::us.map .val)) (Hp.ads (2*N) l) w):Calls P f (Value.pointer (some ⟨ad.getD 0 0,0,none⟩)::us).toArray w R:=by
 have zp:∀ i c,Hp.ads (2*N) l i=some c->2*N<=i/\l[i-2*N]? =some c:=λi c hi=>by
  rw[Hp.vp] at hi
  split at hi
  ·exact⟨by assumption,hi⟩
  ·cases hi
 have hsome:∀ i,Hp.ads (2*N) l i≠none->2*N<=i/\i-2*N<l.length:=λi hi=>by
  cases hh:Hp.ads (2*N) l i with
  | none=>exact absurd hh hi
  | some c=>
    obtain⟨h1,h2⟩:=zp i c hh
    exact⟨h1,(List.getElem?_eq_some_iff.1 h2).1⟩
 have hval:∀ k,k<ad.length->ad[k]? =some (ad.getD k 0):=λk hk=>by simp[List.getD_eq_getElem?_getD,hk]
 have:=sc (C:=Ap P w N K SU ti keep ad hl.nodup hl.ad) (R:=R) (args:=.box (2*N) 0::us.map .val) (β:=adB N ad) (H:=Hp.ads (2*N) l) hf hb hN (by simpa using ha) (λi t cs hi=> ?_) (λi j hi hj e=> ?_) ⟨λi t cs hi=> ?_,λi t cs hi=> ?_,λi hi=> ?_⟩ (λv hv i hi=> ?_) h
 ·have e:(AV.box (2*N) 0::us.map AV.val).map (AV.aP (adB N ad))=Value.pointer (some ⟨ad.getD 0 0,0,none⟩)::us:=by
   rw[List.map_cons,fA]
   show Value.pointer (some ⟨ad.getD (2*N-2*N) 0,0,none⟩)::us=_
   rw[Nat.sub_self]
  rw[e] at this
  exact this
 ·obtain⟨h1,h2⟩:=zp i _ hi
  have hlt:=(List.getElem?_eq_some_iff.1 h2).1
  obtain⟨g1,g2⟩:=hl.ok _ (List.mem_of_getElem? h2)
  have hv:=hval (i-2*N) (by rw[hl.len];exact hlt)
  refine⟨?_,g1,hl.cls _ _ _ hv h2,g2⟩
  show iy N ad w i (adB N ad i)
  unfold iy
  rw[if_pos h1]
  exact hv
 ·obtain⟨h1,h2⟩:=hsome i hi
  obtain⟨h3,h4⟩:=hsome j hj
  have e1:=hval (i-2*N) (by rw[hl.len];exact h2)
  have e2:=hval (j-2*N) (by rw[hl.len];exact h4)
  have e':ad.getD (i-2*N) 0=ad.getD (j-2*N) 0:=e
  rw[<-e'] at e2
  have:=(List.getElem?_inj (by rw[hl.len];exact h2) hl.nodup).1 (e1.trans e2.symm)
  omega
 ·obtain⟨h1,h2⟩:=zp i _ hi
  exact hl.ok _ (List.mem_of_getElem? h2)
 ·obtain⟨h1,h2⟩:=zp i _ hi
  intro j hj
  obtain⟨h3,h4⟩:=hl.ids _ (List.mem_of_getElem? h2) j hj
  rw[Hp.vp,if_pos h3,List.getElem?_eq_getElem aa]
  simp
 ·have qY:2*N+ad.length<=i:=hi
  rw[Hp.vp]
  split
  ·exact List.getElem?_eq_none (by rw[<-hl.len];omega)
  ·rfl
 ·rcases List.mem_cons.1 hv with rfl|hv
  ·have:i=2*N:=by simpa [AV.ids] using hi
   rw[this,Hp.vp,if_pos (Nat.le_refl _),Nat.sub_self,List.getElem?_eq_getElem h0];simp
  ·obtain⟨u,_,rfl⟩:=List.mem_map.1 hv
   cases hi
theorem Bs {P:Program} {w w':World} {N:Nat} {K:KC} {SU:TypeId->Bool} {ti:TypeId->Option TI} {keep:∀ b,b<w.heap.size->K.S b} {ad:List Nat} {hd:ad.Nodup} {ha:jZ K ad w} {β:Nat->Nat} {i:Nat} {t:TypeId} {cs:List AV} (h:iV (Ap P w N K SU ti keep ad hd ha) β w' i t cs) (j g:Nat) (hi:i=2*N+j) (hj:ad[j]? =some g):β i=g/\aW w' g t (cs.map (AV.leaf β)).toArray:=by
 have h1:iy N ad w i (β i):=h.new
 unfold iy at h1
 rw[if_pos aa,hi,Nat.add_sub_cancel_left,hj] at h1
 have h2:g=β i:=by rw[hi];simpa using h1
 exact⟨h2.symm,h2▸h.cls⟩
end
set_option maxRecDepth 4000
section
open Go.RowKit
attribute [local irreducible] ao VS
abbrev KP:KC:=⟨UU,λ_=>True,λt=> !(Nat.beq t 175 || (Nat.beq t 177 || Nat.beq t 34))⟩
abbrev Ks (P:Program) (w:World) (N:Nat) (ad:List Nat) (hd:ad.Nodup) (ha:jZ KP ad w):Cx:=Ap P w N KP (λt=>Nat.beq t 30) table (λ_ _=>trivial) ad hd ha
theorem jH (w:World) (N:Nat) {ad:List Nat} {hd:ad.Nodup} {ha:jZ KP ad w}:(Ks Tryz.prog w N ad hd ha).Ok:=mN
theorem GX (w:World) (N:Nat) {ad:List Nat} {hd:ad.Nodup} {ha:jZ KP ad w}:(Ks Tryz.prog w N ad hd ha).P.follows .mixedOrders=true:=by show Tryz.prog.follows .mixedOrders=true;kernel_rfl
section
variable {C:Cx} {m:Option (List FuncId)} {full:Array Oper} {K:Fr->Hp->World->Prop} {F F':Fr} {H H':Hp} {w w1:World} {N:Nat} {o:Oper} {r l l':List Oper} {Q:Exit->Act->World->Prop} {k k':List It} {v:AV} {u:Option (Nat×(TypeId×List AV))} {id:Nat} {ops:Array Oper}
theorem cxP_r {ad:List Nat} {hd:ad.Nodup} {ha:jZ KP ad w1} (e:lW (Ks Tryz.prog w1 N ad hd ha) ops 80 ops.toList F H=(l',F',H')) (h:ao (Ks Tryz.prog w1 N ad hd ha) none ops l' (VS (Ks Tryz.prog w1 N ad hd ha) Q k) F' H' w):VS (Ks Tryz.prog w1 N ad hd ha) Q (.code (.region id ops false)::k) F H w:=VS.region (jH _ _) (VO.run 80 e h)
theorem cxP_d {ad:List Nat} {hd:ad.Nodup} {ha:jZ KP ad w1} (e:lW (Ks Tryz.prog w1 N ad hd ha) ops 80 ops.toList F H=(l',F',H')) (h:ao (Ks Tryz.prog w1 N ad hd ha) (some []) ops l' (VS (Ks Tryz.prog w1 N ad hd ha) Q k) F' H' w) (lV:jE (Ks Tryz.prog w1 N ad hd ha).SU [] ops=true:=by kernel_rfl):VS (Ks Tryz.prog w1 N ad hd ha) Q (.code (.region id ops true)::k) F H w:=VS.draw (jH _ _) (GX _ _) [] lV (VO.run 80 e h)
end
structure LedR (kk:Nat) (w:World) (g r n c:Nat) (vs:List (List Value)) (spare:List Value) (l:List bU):Prop where
 len:n=l.length
 ne:g≠r
 led:aW w g 175 #[.slice (some ⟨r,0,none⟩) n c]
 row:aW w r 177 (vs.flatten++spare).toArray
 el:fK (na kk) w l vs
 ok:spare.all aN=true
 le:n<=c
 cm:c<=9223372036854775807
 fl:(vs.flatten++spare).length=c*6
def LedAt (kk:Nat) (w:World) (B g:Nat) (l:List bU):Prop:=
 (l=[]/\aW w g 175 #[.slice none 0 0])\/∃ r n c vs spare,B<=r/\LedR kk w g r n c vs spare l
theorem Kt (w:World):Calls Tryz.prog 34 #[] w λo w'=>∃ g,o=.returned (.pointer (some ⟨g,0,none⟩))/\w.heap.size<=g/\aW w' g 175 #[.slice none 0 0]/\ax w w':=by
 refine ae (C:=aR Tryz.prog w _) (args:=[]) Tryz.func34 rfl Tryz.ntmps34 (bt rfl) ?_
 refine ab ?_
 refine VS.oy (bQ _ _) rfl (λwz β kz bz en=> ?_)
 exact⟨_,rfl,(en.own 2 _ _ rfl).new,(en.own 2 _ _ rfl).cls,bz⟩
end
section
open Go.RowKit
attribute [local irreducible] ao VS
def gg (l:List bU) (e:bU):List bU:=if cL e.exp=true then l else if e.exp.2.2.2=0 then l else l++[e]
def Left (w:World) (r:Nat):Prop:=∃ (t:TypeId) (cs:List Value),aW w r t cs.toArray/\KP.fz t=false/\cs.all aN=true
theorem gl {P Q:Prop} (h:Q) (i:Q->P:=by intro h;(repeat first|refine wN ?_|refine wP rfl ?_|refine cxP_r rfl ?_|refine cxP_d rfl ?_|refine wO rfl rfl ?_);exact h):P:=i h
theorem cTcxP {P Q X:Prop} (hb:X) (h:Q) (i:X->Q->P:=by intro hb h;refine⟨_,rfl,hb,λa b c=>wV rfl ?_⟩;refine gl ?_;revert a b c;exact h):P:=i hb h
set_option maxRecDepth 4000 in
theorem Ku (g r n c:Nat) (vs:List (List Value)) (spare:List Value) (l:List bU) (v:Value) (y m:Int) (s:Bool) (xs:List Nat) (t:Bool) (ys:List Nat) (kk:Nat) (w:World)
  (hL:LedR kk w g r n c vs spare l) (hv:bP w v s xs t ys) (hy:nL y) (hm:nL m) (vW:xs.length<=kk) (vY:ys.length<=kk) (hk:kk<=1024) (hn64:n<=1000):
  Calls Tryz.prog 36 #[.pointer (some ⟨g,0,none⟩),.int .i64 y,.int .i64 m,v] w λo w'=>o=.returned (.int .i64 (if cL (bU.exp (y,m,s,xs,t,ys))=true then 2 else 0))/\yI [g,r] w w'/\Left w' r/\
   ∃ r' n' c' FY aG,(w.heap.size<=r'\/r'=r)/\LedR kk w' g r' n' c' FY aG (gg l (y,m,s,xs,t,ys)):=by
 obtain⟨oX,yS,hg,hr,lX,hsp,dk,dY,hlen⟩:=hL
 obtain⟨e,Kv⟩:∃ e:bU,e=(y,m,s,xs,t,ys):=⟨_,rfl⟩
 rw[<-Kv]
 have jg:=hv.in vW vY
 have eW:=hv
 obtain⟨p,cp,q,cq,rfl,-⟩:=hv.xq
 have hE0:na kk w [.int .i64 y,.int .i64 m,.bool s,.slice p xs.length cp,.bool t,.slice q ys.length cq] e:=by rw[Kv];exact⟨_,_,_,_,rfl,hy,hm,eW,vW,vY⟩
 have hq:e.exp.2.2.2=rq s xs t ys:=by rw[Kv];rfl
 obtain⟨hok1,hln1⟩:=lX.ok (il kk)
 have CR:(vs.flatten.map AV.val++spare.map AV.val).all aE=true:=by rw[<-List.map_append];exact cQ (by rw[List.all_append,hok1,hsp];rfl)
 have hsl:Br KP 51 [g,r] [(175,[.row 103 0 n c]),(177,vs.flatten.map .val++spare.map .val)] w:=by
  refine⟨rfl,by simp[yS],λj g' c' hj hc=> ?_,λc' hc=> ?_,λc' hc k hk=> ?_⟩
  ·match j,hj,hc with
   | 0,hj,hc=>cases hj;cases hc;exact hg
   | 1,hj,hc=>cases hj;cases hc;rw[<-List.map_append,aO];exact hr
   | j+2,hj,_=>simp at hj
  ·rcases List.mem_cons.1 hc with rfl|hc
   ·exact⟨rfl,rfl⟩
   ·cases List.mem_singleton.1 hc
    exact⟨rfl,CR⟩
  ·rcases List.mem_cons.1 hc with rfl|hc
   ·have:k=103:=by simpa [aI,AV.cX] using hk
    subst this;exact⟨by omega,by show 103<2*51+2;omega⟩
   ·cases List.mem_singleton.1 hc
    rw[<-List.map_append,af] at hk;cases hk
 refine sx Tryz.prog w _ KP (λt=>Nat.beq t 30) table (λ_ _=>trivial) (ad:=[g,r]) (us:=[_,_,_]) Tryz.func36 rfl Tryz.ntmps36 (bt rfl) hsl (bt rfl) ?_
 refine gl ?_
 cases hw:cL e.exp with
 | true=>
   have hp:gg l e=l:=if_pos hw
   refine VO.cB rfl rfl (fk Tryz.func81) (λaK bn aU=>eK _ e kk aK ⟨_,rfl,hE0.kp bn⟩ aa 2 (by rw[hw];rfl)) (λaK bn aU w1 aC bL _ bb1=>wV rfl ?_)
   refine gl ?_
   refine VO.cB rfl rfl (fk Tryz.func81) (λaZ bI bu=>eK _ e kk aZ ⟨_,rfl,hE0.kp (bL.aA bI)⟩ aa 2 (by rw[hw];rfl)) (λaZ bI bu w2 aQ cH _ bb2=>wV rfl ?_)
   refine gl ?_
   refine VS.oy (jH _ _) rfl (λwz β kz oz en=> ?_)
   rw[hp]
   obtain⟨o1,o2⟩:=Bs (en.own 102 _ _ rfl) 0 g rfl rfl
   obtain⟨o3,o4⟩:=Bs (en.own 103 _ _ rfl) 1 r rfl rfl
   rw[List.map_append,aO,aO] at o4
   refine⟨rfl,oz.1,oz.2 r cU,r,n,c,vs,spare,.inr rfl,oX,yS,?_,o4,lX.kp (il kk) (Kp.of (U:=UU) (ax.refl _) |>.aA ?_),hsp,dk,dY,hlen⟩
   ·have:β 103=r:=o3
    rw[<-this];exact o2
   ·exact ((bL.aA cH).aA kz).qQ
 | false=>
   have hn65:((n:Int) == 65536)=false:=by rw[beq_eq_false_iff_ne];omega
   refine VO.cB rfl rfl (fk Tryz.func81) (λaK bn aU=>eK _ e kk aK ⟨_,rfl,hE0.kp bn⟩ aa 0 (by rw[hw];rfl)) (λaK bn aU w1 aC bL _ bb1=>wV rfl ?_)
   refine gl ?_
   refine VS.bB rfl hn65 ?_
   refine gl ?_
   by_cases yx:rq s xs t ys=0
   ·have hp:gg l e=l:=by unfold gg;rw[hw,if_neg cU,if_pos (hq.trans yx)]
    refine VO.cB rfl rfl (fk Tryz.func82) (λaZ bI bu=>lz _ (rq s xs t ys) kk aZ (jg.kp (bL.aA bI)) aa 0 (uY yx)) (λaZ bI bu w2 aQ cH _ bb2=>wV rfl ?_)
    refine gl ?_
    refine VS.oy (jH _ _) rfl (λwz β kz oz en=> ?_)
    rw[hp]
    obtain⟨o1,o2⟩:=Bs (en.own 102 _ _ rfl) 0 g rfl rfl
    obtain⟨o3,o4⟩:=Bs (en.own 103 _ _ rfl) 1 r rfl rfl
    rw[List.map_append,aO,aO] at o4
    refine⟨rfl,oz.1,oz.2 r cU,r,n,c,vs,spare,.inr rfl,oX,yS,?_,o4,lX.kp (il kk) ((bL.aA cH).aA kz).qQ,hsp,dk,dY,hlen⟩
    have:β 103=r:=o3
    rw[<-this];exact o2
   ·have hp:gg l e=l++[e]:=by unfold gg;rw[hw,if_neg cU,if_neg (λh=>yx (hq.symm.trans h))]
    obtain⟨sg,tp⟩:∃ sg,jh (rq s xs t ys) 0=sg:=⟨_,rfl⟩
    have hsg0:sg≠0:=by rw[<-tp];exact Eu yx
    refine VO.cB rfl rfl (fk Tryz.func82) (λaZ bI bu=>lz _ (rq s xs t ys) kk aZ (jg.kp (bL.aA bI)) aa sg tp) (λaZ bI bu w2 aQ cH _ bb2=>wV rfl ?_)
    refine gl ?_
    refine VS.bo rfl (by simp[hsg0]) ?_
    refine gl ?_
    refine VO.fh rfl (fk Tryz.func43) (λck β cJ da ho=>(lp _ [rq s xs t ys] kk ck (kn (ho.own 36 (.base (List.mem_singleton.2 rfl)) _ _ rfl) [] (vs:=[[.bool s,.slice p xs.length cp,.bool t,.slice q ys.length cq]]) (by rfl) rfl (ey.cons (jg.kp ((bL.aA cH).aA cJ)) ey.nil) (bt rfl) ff) (by unfold ba bF;simp;omega)).mono ?_)
    rintro o w3 ⟨r3,rfl,q3,hs3,bM⟩
    rw[qn] at q3
    have vt:=q3.rd.raw
    have hrt:nW s xs t ys=true:=by have:=(iM hw).2.2.2.2;rw[Kv] at this;exact this
    obtain⟨jK,kG,hr3,hr4⟩:=Bp hrt eW.lims.1 eW.lims.2
    rw[jK,kG,hr3,hr4] at vt
    obtain⟨p4,c4,y4,d4,rfl,-⟩:=vt.xq
    refine cTcxP bM ?_
    intro dP _ bb3
    have hE3:na kk w3 [.int .i64 y,.int .i64 m,.bool s,.slice p4 xs.length c4,.bool t,.slice y4 ys.length d4] e:=by rw[Kv];exact⟨_,_,_,_,rfl,hy,hm,vt,vW,vY⟩
    refine VO.app (jH _ _) (t:=171) (e:=177) (sz:=6) (n:=n) (c:=c) (mm:=1) (known:=vs.flatten.map .val) (spare:=spare.map .val) (del:=some 103) (news:=([.int .i64 y,.int .i64 m,.bool s,.slice p4 xs.length c4,.bool t,.slice y4 ys.length d4]:List Value).map .val) (dst:=47) rfl rfl rfl rfl rfl rfl rfl rfl (bt rfl) rfl (.inr ⟨103,rfl,rfl,rfl⟩) (.inl rfl) (by rw[List.length_map,hln1,oX]) (by rw[<-List.map_append,List.length_map];exact hlen) dk dY ⟨af _,af _,rfl⟩ ⟨cQ hok1,cQ hsp,rfl⟩ rfl aa
     (λw1 β k1 b1 ho=>⟨_,_,rfl,.inr ⟨β 46,0,rfl,eQ (rest:=[]) (ho.own 46 (.base (List.mem_append_right _ (List.mem_singleton.2 rfl))) _ _ rfl) rfl⟩⟩)
     (λw13 cap' aG ρ k13 b13 eH nw oJ Kw hok' hlid'=>wV rfl ?_)
    refine gl ?_
    refine VS.oy (jH _ _) rfl (λwz β kz oz en=> ?_)
    rw[hp]
    obtain⟨o1,o2⟩:=Bs (en.own 102 _ _ rfl) 0 g rfl rfl
    have o3:=en.own 47 _ _ rfl
    have o5:β 47≠g:=λe=>absurd (en.apart 102 47 (by intro h;cases h) (by intro h;cases h) (o1.trans e.symm)) ff
    have o6:w.heap.size<=β 47\/β 47=r:=by
     have:=kX (show iy 51 [g,r] w 47 (β 47) from o3.new)
     simpa [o5] using this
    have o7:=o3.cls
    rw[List.map_append,List.map_append,aO,aO] at o7
    refine⟨rfl,oz.1,oz.2 r cU,β 47,n+1,cap',vs++[[.int .i64 y,.int .i64 m,.bool s,.slice p4 xs.length c4,.bool t,.slice y4 ys.length d4]],aG.map (AV.leaf β),o6,by simp[oX],λe=>o5 e.symm,o2,?_,?_,dH hok',nw,oJ,?_⟩
    ·rw[List.flatten_append];exact o7
    ·exact (lX.kp (il kk) ((bL.aA cH).aA (dP.aA (k13.aA kz))).qQ).snoc (hE3.kp (k13.aA kz).qQ)
    ·have:=Kw
     simp only[List.length_append,List.length_map,List.length_cons,List.length_nil,List.flatten_append,List.flatten_cons,List.flatten_nil,List.append_nil] at this ⊢
     omega
end
section
open Go.RowKit
attribute [local irreducible] ao VS
set_option maxRecDepth 4000 in
theorem Ky (g:Nat) (v:Value) (y m:Int) (s:Bool) (xs:List Nat) (t:Bool) (ys:List Nat) (kk:Nat) (w:World)
  (hg:aW w g 175 #[.slice none 0 0]) (hv:bP w v s xs t ys) (hy:nL y) (hm:nL m) (vW:xs.length<=kk) (vY:ys.length<=kk) (hk:kk<=1024):
  Calls Tryz.prog 36 #[.pointer (some ⟨g,0,none⟩),.int .i64 y,.int .i64 m,v] w λo w'=>o=.returned (.int .i64 (if cL (bU.exp (y,m,s,xs,t,ys))=true then 2 else 0))/\yI [g] w w'/\LedAt kk w' w.heap.size g (gg [] (y,m,s,xs,t,ys))/\(gg [] (y,m,s,xs,t,ys)=[]->aW w' g 175 #[.slice none 0 0]):=by
 obtain⟨e,Kv⟩:∃ e:bU,e=(y,m,s,xs,t,ys):=⟨_,rfl⟩
 rw[<-Kv]
 have jg:=hv.in vW vY
 have eW:=hv
 obtain⟨p,cp,q,cq,rfl,-⟩:=hv.xq
 have hE0:na kk w [.int .i64 y,.int .i64 m,.bool s,.slice p xs.length cp,.bool t,.slice q ys.length cq] e:=by rw[Kv];exact⟨_,_,_,_,rfl,hy,hm,eW,vW,vY⟩
 have hq:e.exp.2.2.2=rq s xs t ys:=by rw[Kv];rfl
 have hsl:Br KP 51 [g] [(175,[.val (.slice none 0 0)])] w:=by
  refine⟨rfl,by simp,λj g' c' hj hc=> ?_,λc' hc=> ?_,λc' hc k hk=> ?_⟩
  ·match j,hj,hc with
   | 0,hj,hc=>cases hj;cases hc;exact hg
   | j+1,hj,_=>simp at hj
  ·cases List.mem_singleton.1 hc;exact⟨rfl,rfl⟩
  ·cases List.mem_singleton.1 hc;cases hk
 refine sx Tryz.prog w _ KP (λt=>Nat.beq t 30) table (λ_ _=>trivial) (ad:=[g]) (us:=[_,_,_]) Tryz.func36 rfl Tryz.ntmps36 (bt rfl) hsl (bt rfl) ?_
 refine gl ?_
 cases hw:cL e.exp with
 | true=>
   have hp:gg [] e=[]:=if_pos hw
   refine VO.cB rfl rfl (fk Tryz.func81) (λaK bn aU=>eK _ e kk aK ⟨_,rfl,hE0.kp bn⟩ aa 2 (by rw[hw];rfl)) (λaK bn aU w1 aC bL _ bb1=>wV rfl ?_)
   refine gl ?_
   refine VO.cB rfl rfl (fk Tryz.func81) (λaZ bI bu=>eK _ e kk aZ ⟨_,rfl,hE0.kp (bL.aA bI)⟩ aa 2 (by rw[hw];rfl)) (λaZ bI bu w2 aQ cH _ bb2=>wV rfl ?_)
   refine gl ?_
   refine VS.oy (jH _ _) rfl (λwz β kz oz en=> ?_)
   rw[hp]
   obtain⟨o1,o2⟩:=Bs (en.own 102 _ _ rfl) 0 g rfl rfl
   exact⟨rfl,oz.1,.inl ⟨rfl,o2⟩,λ_=>o2⟩
 | false=>
   refine VO.cB rfl rfl (fk Tryz.func81) (λaK bn aU=>eK _ e kk aK ⟨_,rfl,hE0.kp bn⟩ aa 0 (by rw[hw];rfl)) (λaK bn aU w1 aC bL _ bb1=>wV rfl ?_)
   refine gl ?_
   by_cases yx:rq s xs t ys=0
   ·have hp:gg [] e=[]:=by unfold gg;rw[hw,if_neg cU,if_pos (hq.trans yx)]
    refine VO.cB rfl rfl (fk Tryz.func82) (λaZ bI bu=>lz _ (rq s xs t ys) kk aZ (jg.kp (bL.aA bI)) aa 0 (uY yx)) (λaZ bI bu w2 aQ cH _ bb2=>wV rfl ?_)
    refine gl ?_
    refine VS.oy (jH _ _) rfl (λwz β kz oz en=> ?_)
    rw[hp]
    obtain⟨o1,o2⟩:=Bs (en.own 102 _ _ rfl) 0 g rfl rfl
    exact⟨rfl,oz.1,.inl ⟨rfl,o2⟩,λ_=>o2⟩
   ·have hp:gg [] e=[e]:=by unfold gg;rw[hw,if_neg cU,if_neg (λh=>yx (hq.symm.trans h))];rfl
    obtain⟨sg,tp⟩:∃ sg,jh (rq s xs t ys) 0=sg:=⟨_,rfl⟩
    have hsg0:sg≠0:=by rw[<-tp];exact Eu yx
    refine VO.cB rfl rfl (fk Tryz.func82) (λaZ bI bu=>lz _ (rq s xs t ys) kk aZ (jg.kp (bL.aA bI)) aa sg tp) (λaZ bI bu w2 aQ cH _ bb2=>wV rfl ?_)
    refine gl ?_
    refine VS.bo rfl (by simp[hsg0]) ?_
    refine gl ?_
    refine VO.fh rfl (fk Tryz.func43) (λck β cJ da ho=>(lp _ [rq s xs t ys] kk ck (kn (ho.own 36 (.base (List.mem_singleton.2 rfl)) _ _ rfl) [] (vs:=[[.bool s,.slice p xs.length cp,.bool t,.slice q ys.length cq]]) (by rfl) rfl (ey.cons (jg.kp ((bL.aA cH).aA cJ)) ey.nil) (bt rfl) ff) (by unfold ba bF;simp;omega)).mono ?_)
    rintro o w3 ⟨r3,rfl,q3,hs3,bM⟩
    rw[qn] at q3
    have vt:=q3.rd.raw
    have hrt:nW s xs t ys=true:=by have:=(iM hw).2.2.2.2;rw[Kv] at this;exact this
    obtain⟨jK,kG,hr3,hr4⟩:=Bp hrt eW.lims.1 eW.lims.2
    rw[jK,kG,hr3,hr4] at vt
    obtain⟨p4,c4,y4,d4,rfl,-⟩:=vt.xq
    refine cTcxP bM ?_
    intro dP _ bb3
    have hE3:na kk w3 [.int .i64 y,.int .i64 m,.bool s,.slice p4 xs.length c4,.bool t,.slice y4 ys.length d4] e:=by rw[Kv];exact⟨_,_,_,_,rfl,hy,hm,vt,vW,vY⟩
    refine VO.app (jH _ _) (t:=171) (e:=177) (sz:=6) (n:=0) (c:=0) (mm:=1) (known:=[]) (spare:=[]) (del:=none) (news:=([.int .i64 y,.int .i64 m,.bool s,.slice p4 xs.length c4,.bool t,.slice y4 ys.length d4]:List Value).map .val) (dst:=47) rfl rfl rfl rfl rfl rfl rfl rfl (bt rfl) rfl (.inl ⟨rfl,rfl,rfl,rfl,rfl,rfl,by omega⟩) (.inl rfl) rfl rfl (Nat.le_refl _) aa ⟨rfl,rfl,rfl⟩ ⟨rfl,rfl,rfl⟩ rfl aa
     (λw1 β k1 b1 ho=>⟨_,_,rfl,.inr ⟨β 46,0,rfl,eQ (rest:=[]) (ho.own 46 (.base (List.mem_append_right _ (List.mem_singleton.2 rfl))) _ _ rfl) rfl⟩⟩)
     (λw13 cap' aG ρ k13 b13 eH nw oJ Kw hok' hlid'=>wV rfl ?_)
    refine gl ?_
    refine VS.oy (jH _ _) rfl (λwz β kz oz en=> ?_)
    rw[hp]
    obtain⟨o1,o2⟩:=Bs (en.own 102 _ _ rfl) 0 g rfl rfl
    have o3:=en.own 47 _ _ rfl
    have o5:β 47≠g:=λe=>absurd (en.apart 102 47 (by intro h;cases h) (by intro h;cases h) (o1.trans e.symm)) ff
    have o6:w.heap.size<=β 47:=by
     have:=kX (show iy 51 [g] w 47 (β 47) from o3.new)
     simpa [o5] using this
    have o7:=o3.cls
    rw[List.map_append,List.map_append,aO] at o7
    refine⟨rfl,oz.1,.inr ⟨β 47,1,cap',[[.int .i64 y,.int .i64 m,.bool s,.slice p4 xs.length c4,.bool t,.slice y4 ys.length d4]],aG.map (AV.leaf β),o6,rfl,λe=>o5 e.symm,o2,?_,?_,dH hok',by omega,oJ,?_⟩,λh=>by cases h⟩
    ·exact o7
    ·exact .cons (hE3.kp (k13.aA kz).qQ) .nil
    ·have:=Kw
     simp only[List.length_append,List.length_map,List.length_cons,List.length_nil,List.flatten_cons,List.flatten_nil,List.append_nil] at this ⊢
     omega
end
section
open Go.RowKit
section
variable {C:Cx} {F:Fr} {H:Hp} {w:World} {m:Option (List FuncId)} {full:Array Oper} {K:Fr->Hp->World->Prop} {o:Oper} {r:List Oper}
theorem VO.callB {d:fI} {dst:Nat} {t:TypeId} {cs:List Value} (e:stepOf C full F H o=.call d) (hd:o.dst=some dst) (h0:H dst=none) (hN:dst<C.N) (hl:1<=lvl C.SU m o) (ht:C.K.fz t=false) (hc:cs.all aN=true)
  (h:∀ w1 β,aY C.K w w1->C.Old w1->gY C β H d.ids w1->qS C.P d β w1 λe w2=>∃ g,e=.returned (.pointer (some ⟨g,0,none⟩))/\ax w1 w2/\w1.heap.size<=g/\aW w2 g t cs.toArray/\
   (aY C.K w w2->aY C.K w1 w2->C.Old w2->ao C m full r K (F.bm o.dst (.box dst 0)) (H.put dst (t,cs.map .val)) w2)):ao C m full (o::r) K F H w:=by
 show one C m full o (ao C m full r K) F H w
 unfold one
 rw[e]
 refine λw1 β h1 h2 h3=>(h w1 β h1 h2 h3).mono ?_
 rintro e w2 ⟨g,rfl,hb,q1,q2,k2⟩
 let bZ:Nat->Nat:=λi=>if i=dst then g else β i
 have pQ:bZ dst=g:=if_pos rfl
 refine⟨bZ,.box dst 0,none,[(dst,(t,cs.map AV.val))],?_,λi hi=>.inl (by simpa [AV.ids] using hi),.inl hl,.inr rfl,?_,λa1 a2 a3 _ _=>k2 a1 a2 a3⟩
 ·show Ending.returned _=.returned (Value.pointer (some ⟨bZ dst,0,none⟩));rw[pQ]
 ·refine⟨hb.os,hb.tape,hb.output,hb.size,λk hk _ _ _=>Below.block hb k hk,λi hi=>if_neg (by simpa using hi),λi hi=>(by cases hi),λi hi=>(by cases hi),λx hx=> ?_,λx hx=> ?_,by simp,λx hx y hy _=> ?_,λx hx j hj=> ?_⟩
  ·cases List.mem_singleton.1 hx
   refine⟨by rw[pQ];exact C.rU _ _ aa (by have:=C.gR _ h2;omega),ht,?_,cQ hc⟩
   rw[pQ,aO];exact q2
  ·cases List.mem_singleton.1 hx
   exact .inr ⟨.inl h0,by omega,.inl (by rw[pQ];exact q1)⟩
  ·cases List.mem_singleton.1 hx;cases List.mem_singleton.1 hy;rfl
  ·cases List.mem_singleton.1 hx
   rw[af] at hj;cases hj
theorem qo (i o n c:Nat):aI [AV.row i o n c]=[i]:=rfl
theorem VO.Kz {d1 d2:Nat} {v:Value} {y z:Int} {s:Bool} {xs:List Nat} {t:Bool} {ys:List Nat} (kk:Nat) {code:Int} {l':List bU} (xB:(if cL (bU.exp (y,z,s,xs,t,ys))=true then (2:Int) else 0)=code) (BZ:gg [] (y,z,s,xs,t,ys)=l') (hP:C.P=Tryz.prog) (e:stepOf C full F H o=.call (.fn 36 [.box d1 0,.val (.int .i64 y),.val (.int .i64 z),.val v])) (hf:iU C.P 36)
  (h1:H d1=some (175,[.val (.slice none 0 0)])) (h2:H d2=none) (hne:d1≠d2) (hd2:d2<2*C.N) (hl:1<=lvl C.SU m o) (ht2:C.K.fz 177=false)
  (hv:∀ w1,aY C.K w w1->C.Old w1->bP w1 v s xs t ys) (hy:nL y) (hz:nL z) (vW:xs.length<=kk) (vY:ys.length<=kk) (hk:kk<=1024)
  (k1:∀ w2,aY C.K w w2->C.Old w2->l'=[]->ao C m full r K (F.bm o.dst (.val (.int .i64 code))) (H.put d1 (175,[.val (.slice none 0 0)])) w2)
  (k2:∀ w2 n c vs spare,aY C.K w w2->C.Old w2->l'≠[]->n=l'.length->fK (na kk) w2 l' vs->spare.all aN=true->n<=c->c<=9223372036854775807->(vs.flatten++spare).length=c*6->
   ao C m full r K (F.bm o.dst (.val (.int .i64 code))) ((H.put d1 (175,[.row d2 0 n c])).put d2 (177,vs.flatten.map .val++spare.map .val)) w2):ao C m full (o::r) K F H w:=by
 subst xB BZ
 show one C m full o (ao C m full r K) F H w
 unfold one
 rw[e]
 intro w1 β a1 a2 a3
 have jK:Reach H (fI.fn 36 [.box d1 0,.val (.int .i64 y),.val (.int .i64 z),.val v]).ids d1:=.base (by simp[fI.ids,eB,AV.ids])
 have o1:=a3.own d1 jK _ _ h1
 refine⟨hf,(Calls.mono (show Calls C.P 36 #[.pointer (some ⟨β d1,0,none⟩),.int .i64 y,.int .i64 z,v] w1 _ from hP▸Ky (β d1) v y z s xs t ys kk w1 o1.cls (hv w1 a1 a2) hy hz vW vY hk) ?_)⟩
 rintro e w2 ⟨rfl,hb,KA,hcn⟩
 by_cases dZ:gg [] (y,z,s,xs,t,ys)=[]
 ·have hc:=hcn dZ
  refine⟨β,.val _,none,[(d1,(175,[.val (.slice none 0 0)]))],rfl,λi hi=>(by cases hi),.inl hl,.inr rfl,?_,λa b c _ _=>k1 w2 a c dZ⟩
  refine⟨hb.os,hb.tape,hb.output,hb.size,λk hk hx _ _=>hb.nS k hk (by simpa using hx),λ_ _=>rfl,λi hi=>(by cases hi),λi hi=>(by cases hi),λx hx=> ?_,λx hx=> ?_,by simp,λx hx y hy _=> ?_,λx hx j hj=> ?_⟩
  ·cases List.mem_singleton.1 hx
   exact⟨o1.new,o1.ty,hc,rfl⟩
  ·cases List.mem_singleton.1 hx
   exact .inl ⟨by rw[h1];simp,by simp,jK,rfl⟩
  ·cases List.mem_singleton.1 hx;cases List.mem_singleton.1 hy;rfl
  ·cases List.mem_singleton.1 hx
   cases hj
 ·obtain⟨r',n,c,vs,spare,hB,hL⟩:=KA.resolve_left (λh=>dZ h.1)
  let bZ:Nat->Nat:=λi=>if i=d2 then r' else β i
  have aQ:bZ d2=r':=if_pos rfl
  have aC:bZ d1=β d1:=if_neg hne
  have nJ:vs.flatten.map AV.val++spare.map AV.val=(vs.flatten++spare).map AV.val:=by rw[List.map_append]
  have ig:(vs.flatten.map AV.val++spare.map AV.val).all aE=true:=by rw[nJ];exact cQ (by rw[List.all_append,(hL.el.ok (il kk)).1,hL.ok];rfl)
  refine⟨bZ,.val _,none,[(d1,(175,[.row d2 0 n c])),(d2,(177,vs.flatten.map AV.val++spare.map AV.val))],rfl,λi hi=>(by cases hi),.inl hl,.inr rfl,?_,λa _ b _ _=>k2 w2 n c vs spare a b dZ hL.len hL.el hL.ok hL.le hL.cm hL.fl⟩
  refine⟨hb.os,hb.tape,hb.output,hb.size,λk hk hx _ _=>hb.nS k hk ?_,λi hi=>if_neg ?_,λi hi=>(by cases hi),λi hi=>(by cases hi),λx hx=> ?_,λx hx=> ?_,by simpa using hne,λx hx y hy he=> ?_,λx hx j hj=> ?_⟩
  ·have:=hx (d1,(175,[.row d2 0 n c])) cU
   simpa [aC] using this
  ·intro h;exact hi (by simp[h])
  ·rcases List.mem_cons.1 hx with rfl|hx
   ·refine⟨?_,o1.ty,?_,rfl⟩
    ·show C.uh d1 (bZ d1);rw[aC];exact o1.new
    ·show aW w2 (bZ d1) _ (#[.slice (some ⟨bZ d2,0,none⟩) n c])
     rw[aC,aQ];exact hL.led
   ·cases List.mem_singleton.1 hx
    refine⟨by rw[aQ];exact C.rU _ _ hd2 (by have:=C.gR _ a2;omega),ht2,?_,ig⟩
    rw[aQ,nJ,aO];exact hL.row
  ·rcases List.mem_cons.1 hx with rfl|hx
   ·exact .inl ⟨by rw[h1];simp,by simp,jK,aC⟩
   ·cases List.mem_singleton.1 hx
    exact .inr ⟨.inl h2,hd2,.inl (by rw[aQ];exact hB)⟩
  ·have ER:=hL.ne
   rcases List.mem_cons.1 hx with rfl|hx <;> rcases List.mem_cons.1 hy with rfl|hy
   ·rfl
   ·cases List.mem_singleton.1 hy
    exact absurd (aC.symm.trans (he.trans aQ)) ER
   ·cases List.mem_singleton.1 hx
    exact absurd (aC.symm.trans (he.symm.trans aQ)) ER
   ·cases List.mem_singleton.1 hx;cases List.mem_singleton.1 hy;rfl
  ·rcases List.mem_cons.1 hx with rfl|hx
   ·rw[qo] at hj
    cases List.mem_singleton.1 hj
    exact .inl cU
   ·cases List.mem_singleton.1 hx
    rw[nJ,af] at hj;cases hj
theorem VO.KB {d1 d2 n c:Nat} {vs:List (List Value)} {spare:List Value} {l:List bU} {v:Value} {y z:Int} {s:Bool} {xs:List Nat} {t:Bool} {ys:List Nat} (kk:Nat) {code:Int} {l':List bU} (xB:(if cL (bU.exp (y,z,s,xs,t,ys))=true then (2:Int) else 0)=code) (BZ:gg l (y,z,s,xs,t,ys)=l') (hP:C.P=Tryz.prog) (e:stepOf C full F H o=.call (.fn 36 [.box d1 0,.val (.int .i64 y),.val (.int .i64 z),.val v])) (hf:iU C.P 36)
  (h1:H d1=some (175,[.row d2 0 n c])) (h2:H d2=some (177,vs.flatten.map .val++spare.map .val)) (hne:d1≠d2) (hd2:d2<2*C.N) (hl:2<=lvl C.SU m o)
  (hn:n=l.length) (lX:fK (na kk) w l vs) (hsp:spare.all aN=true) (dk:n<=c) (dY:c<=9223372036854775807) (yy:(vs.flatten++spare).length=c*6)
  (hU:∀ w1,aY C.K w w1->Kp UU w w1) (hT:∀ t,KP.fz t=false->C.K.fz t=false)
  (hv:∀ w1,aY C.K w w1->C.Old w1->bP w1 v s xs t ys) (hy:nL y) (hz:nL z) (vW:xs.length<=kk) (vY:ys.length<=kk) (hk:kk<=1024) (hn64:n<=1000)
  (k2:∀ w2 n' c' FY aG ρ,aY C.K w w2->C.Old w2->(∀ x,aN (ρ x)=true)->n'=l'.length->fK (na kk) w2 l' FY->aG.all aN=true->n'<=c'->c'<=9223372036854775807->(FY.flatten++aG).length=c' *6->
   ao C m full r K ((F.forget (some d2) ρ).bm o.dst (.val (.int .i64 code))) (((H.forget (some d2) ρ).put d1 (175,[.row d2 0 n' c'])).put d2 (177,FY.flatten.map .val++aG.map .val)) w2):ao C m full (o::r) K F H w:=by
 subst xB BZ
 show one C m full o (ao C m full r K) F H w
 unfold one
 rw[e]
 intro w1 β a1 a2 a3
 have jK:Reach H (fI.fn 36 [.box d1 0,.val (.int .i64 y),.val (.int .i64 z),.val v]).ids d1:=.base (by simp[fI.ids,eB,AV.ids])
 have kG:Reach H (fI.fn 36 [.box d1 0,.val (.int .i64 y),.val (.int .i64 z),.val v]).ids d2:=.step jK h1 (by rw[qo];simp)
 have o1:=a3.own d1 jK _ _ h1
 have o2:=a3.own d2 kG _ _ h2
 have hmap0:∀ (vs:List (List Value)) (spare:List Value),vs.flatten.map AV.val++spare.map AV.val=(vs.flatten++spare).map AV.val:=λvs spare=>by rw[List.map_append]
 have hapart:β d1≠β d2:=λhe=>hne (a3.apart d1 d2 jK kG (by rw[h1];simp) (by rw[h2];simp) he)
 have hL0:LedR kk w1 (β d1) (β d2) n c vs spare l:=⟨hn,hapart,o1.cls,by have:=o2.cls;rw[hmap0,aO] at this;exact this,lX.kp (il kk) (hU w1 a1),hsp,dk,dY,yy⟩
 refine⟨hf,(Calls.mono (show Calls C.P 36 #[.pointer (some ⟨β d1,0,none⟩),.int .i64 y,.int .i64 z,v] w1 _ from hP▸Ku (β d1) (β d2) n c vs spare l v y z s xs t ys kk w1 hL0 (hv w1 a1 a2) hy hz vW vY hk hn64) ?_)⟩
 rintro e w2 ⟨rfl,hb,wF,r',n',c',FY,aG,hB,hL⟩
 let bZ:Nat->Nat:=λi=>if i=d2 then r' else β i
 have aQ:bZ d2=r':=if_pos rfl
 have aC:bZ d1=β d1:=if_neg hne
 have nJ:=hmap0 FY aG
 have ig:(FY.flatten.map AV.val++aG.map AV.val).all aE=true:=by rw[nJ];exact cQ (by rw[List.all_append,(hL.el.ok (il kk)).1,hL.ok];rfl)
 refine⟨bZ,.val _,some d2,[(d1,(175,[.row d2 0 n' c'])),(d2,(177,FY.flatten.map AV.val++aG.map AV.val))],rfl,λi hi=>(by cases hi),.inl aa,.inl hl,?_,λa _ b ρ eH=>k2 w2 n' c' FY aG ρ a b eH hL.len hL.el hL.ok hL.le hL.cm hL.fl⟩
 refine⟨hb.os,hb.tape,hb.output,hb.size,λk hk hx vY _=>hb.nS k hk ?_,λi hi=>if_neg ?_,λi hi=> ?_,λi hi=> ?_,λx hx=> ?_,λx hx=> ?_,by simpa using hne,λx hx y hy he=> ?_,λx hx j hj=> ?_⟩
 ·have e1:=hx (d1,(175,[.row d2 0 n' c'])) cU
  have e2:=vY d2 rfl
  rw[aC] at e1
  simp[e1,e2]
 ·intro h;exact hi (by simp[h])
 ·cases hi;exact⟨kG,by rw[h2];simp⟩
 ·cases hi
  obtain⟨t,cs,q1,q2,q3⟩:=wF
  exact .inl (.inr ⟨t,cs,q1,hT t q2,q3⟩)
 ·rcases List.mem_cons.1 hx with rfl|hx
  ·refine⟨?_,o1.ty,?_,rfl⟩
   ·show C.uh d1 (bZ d1);rw[aC];exact o1.new
   ·show aW w2 (bZ d1) _ (#[.slice (some ⟨bZ d2,0,none⟩) n' c'])
    rw[aC,aQ];exact hL.led
  ·cases List.mem_singleton.1 hx
   refine⟨?_,o2.ty,?_,ig⟩
   ·rw[aQ]
    rcases hB with hB|hB
    ·exact C.rU _ _ hd2 (by have:=C.gR _ a2;omega)
    ·rw[hB];exact o2.new
   ·rw[aQ,nJ,aO];exact hL.row
 ·rcases List.mem_cons.1 hx with rfl|hx
  ·exact .inl ⟨by rw[h1];simp,by simp[hne.symm],jK,aC⟩
  ·cases List.mem_singleton.1 hx
   refine .inr ⟨.inr rfl,hd2,?_⟩
   rcases hB with hB|hB
   ·exact .inl (by rw[aQ];exact hB)
   ·exact .inr ⟨d2,rfl,by rw[aQ];exact hB⟩
 ·have ER:=hL.ne
  rcases List.mem_cons.1 hx with rfl|hx <;> rcases List.mem_cons.1 hy with rfl|hy
  ·rfl
  ·cases List.mem_singleton.1 hy
   exact absurd (aC.symm.trans (he.trans aQ)) ER
  ·cases List.mem_singleton.1 hx
   exact absurd (aC.symm.trans (he.symm.trans aQ)) ER
  ·cases List.mem_singleton.1 hx;cases List.mem_singleton.1 hy;rfl
 ·rcases List.mem_cons.1 hx with rfl|hx
  ·rw[qo] at hj
   cases List.mem_singleton.1 hj
   exact .inl cU
  ·cases List.mem_singleton.1 hx
   rw[nJ,af] at hj;cases hj
end
end
section
open Go.RowKit
attribute [local irreducible] ao VS
theorem kp_fz {t:TypeId} (h:KP.fz t=false):(KU UU).fz t=false:=by
 have h':(Nat.beq t UU || _)=false:=h
 rw[Bool.or_eq_false_iff] at h'
 show (Nat.beq t UU || false)=false
 rw[h'.1];rfl
end
section
open Go.RowKit
section
variable {C:Cx} {F:Fr} {H:Hp} {w:World} {m:Option (List FuncId)} {full:Array Oper} {K:Fr->Hp->World->Prop} {o:Oper} {r:List Oper} {Q:Exit->Act->World->Prop} {k:List It}
def vu (F:Fr) (β:Nat->Nat):List (Nat×AV)->Prop
 | []=>True
 | p::r=>(∃ u x,F p.1=some u/\u.aP β=x/\p.2=.val x)/\vu F β r
theorem vu.mem {β:Nat->Nat}:∀ {L:List (Nat×AV)} {d:Nat} {v:AV},vu F β L->(d,v)∈L->∃ u x,F d=some u/\u.aP β=x/\v=.val x
 | p::r,d,v,h,hm=>by
   rcases List.mem_cons.1 hm with rfl|hm
   ·exact h.1
   ·exact vu.mem h.2 hm
theorem VS.rebase (D:World->Cx) (hP:∀ w,(D w).P=C.P) (hN:∀ w,(D w).N=C.N) (hO:∀ w,(D w).Old w)
  (h:∀ w' β,aY C.K w w'->C.Old w'->Ends C β H w'->∃ L:List (Nat×AV),vu F β L/\VS (D w') Q k (Fr.of L) (λ_=>none) w'):VS C Q k F H w:=λβ a w' hr hk=>by
 obtain⟨L,hL,hv⟩:=h w' β hk hr.old ⟨hr.own,hr.apart⟩
 have:=hv β a w' ⟨hr.defers,by rw[hN];exact hr.size,λd v hd=> ?_,λi t cs hi=>(by cases hi),λi j hi=>absurd rfl hi,λd v hd i hi=> ?_,λd v hd=> ?_,⟨λi t cs hi=>(by cases hi),λi t cs hi=>(by cases hi),λi hi=>rfl⟩,hO w'⟩ (aY.refl _ _)
 ·rw[hP] at this
  exact this
 ·obtain⟨u,x,h1,rfl,rfl⟩:=hL.mem (Fr.gu hd)
  exact hr.tmp d u h1
 ·obtain⟨u,x,h1,rfl,rfl⟩:=hL.mem (Fr.gu hd)
  cases hi
 ·obtain⟨u,x,h1,rfl,rfl⟩:=hL.mem (Fr.gu hd)
  rw[hN];exact hr.fits d u h1
end
end
section
open Go.RowKit
attribute [local irreducible] ao VS
section
variable {F F':Fr} {H H':Hp} {w w1:World} {N:Nat} {l':List Oper} {Q:Exit->Act->World->Prop} {k:List It} {id:Nat} {ops:Array Oper}
end
def cexp (y n:Int) (q:Rat):bU:=(y,n,decide (q.num<0),limbs q.num.natAbs,decide ((q.den:Int)<0),limbs (q.den:Int).natAbs)
theorem KD (q:Rat):nW (decide (q.num<0)) (limbs q.num.natAbs) (decide ((q.den:Int)<0)) (limbs (q.den:Int).natAbs)=true:=by
 unfold nW
 rw[kJ q.num,kJ (q.den:Int),eC,eC]
 have h3:(0:Int)<q.den:=by have:=q.den_nz;omega
 have h4:Int.gcd q.num q.den=1:=by have:=q.reduced;simpa [Int.gcd,Nat.Coprime] using this
 rw[decide_eq_true h3,decide_eq_true h4];rfl
theorem KE (q:Rat):rq (decide (q.num<0)) (limbs q.num.natAbs) (decide ((q.den:Int)<0)) (limbs (q.den:Int).natAbs)=q:=by
 unfold rq;rw[eC,eC,xo]
theorem Bt (y n:Int) (q:Rat):(cexp y n q).exp=(y,n,true,q):=by
 show (y,n,nW (decide (q.num<0)) (limbs q.num.natAbs) (decide ((q.den:Int)<0)) (limbs (q.den:Int).natAbs),rq (decide (q.num<0)) (limbs q.num.natAbs) (decide ((q.den:Int)<0)) (limbs (q.den:Int).natAbs))=_
 rw[KD,KE]
end
section
open Go.RowKit
abbrev jI:=Nat×Rat
def ji (q:Rat):Nat:=if q.den=1/\1<=q.num/\q.num<=40 then q.num.toNat else 0
theorem Ez (q:Rat):ji q<=40:=by
 unfold ji;split
 ·omega
 ·omega
def aitem (p:jI×Rat):Kh:=(p.1.1,p.1.2,p.2)
def cb (cs:List jI) (xs:List Rat):List Kh:=(cs.zip xs).map aitem
def wv (p:jI×Rat):Bool:=p.1.1 == 6
def qq (y:Nat) (p:jI×Rat):bU:=cexp y (ji p.1.2) p.2
def ku (y:Nat) (l:List (jI×Rat)):List bU:=(l.filter wv).map (qq y)
def eL (cs:List jI) (dh:List (List Rat)):Nat->List bU
 | 0=>[]
 | n+1=>eL cs dh n++ku n (cs.zip (dh.getD n []))
structure eZ where
 p:Pt
 due:Rat
 sS:Rat
 own:Rat
def GY (P:Pt) (due sS:Rat):eZ:=⟨⟨P.b,P.s-due,P.d,P.i⟩,due,sS,P.s-due-P.i⟩
def vv (cs:List jI) (dh:List (List Rat)) (y:Nat):eZ:=
 GY (cz (cb cs (dh.getD y []))) (jw (eL cs dh (y+1)) y) (lT (eL cs dh (y+1)) y)
def kx (cs:List jI) (dh:List (List Rat)):List eZ:=(List.range dh.length).map (vv cs dh)
def jJ (e:Int) (n:Nat) (t:List (List Rat)):Bool:=decide (e>=t.length) || ((t.getD e.toNat []).length != n)
def vw (k:jI):Bool:=k.1 == 6 && ji k.2 == 0
def rI (cs:List jI) (e:Int) (ts:List (List (List Rat))):Int:=
 if ts.length>40 then 3 else if e<0 then 2 else if ts.any (jJ e cs.length) then 2 else if cs.any vw then 2 else 0
theorem amay_ok {cs:List jI} {e:Int} {ts:List (List (List Rat))} (h:rI cs e ts=0):ts.length<=40/\0<=e/\(∀ t∈ts,e.toNat<t.length/\(t.getD e.toNat []).length=cs.length)/\(∀ k∈cs,k.1=6->1<=ji k.2):=by
 unfold rI at h
 by_cases h1:ts.length>40
 ·rw[if_pos h1] at h;cases h
 rw[if_neg h1] at h
 by_cases h2:e<0
 ·rw[if_pos h2] at h;cases h
 rw[if_neg h2] at h
 by_cases h3:ts.any (jJ e cs.length)=true
 ·rw[if_pos h3] at h;cases h
 rw[if_neg h3] at h
 by_cases h4:cs.any vw=true
 ·rw[if_pos h4] at h;cases h
 refine⟨by omega,by omega,λt ht=> ?_,λk hk h6=> ?_⟩
 ·have:jJ e cs.length t=false:=by
   cases hx:jJ e cs.length t with
   | false=>rfl
   | true=>exact absurd (List.any_eq_true.2 ⟨t,ht,hx⟩) h3
  unfold jJ at this
  simp only[Bool.or_eq_false_iff,decide_eq_false_iff_not,bne_eq_false_iff_eq] at this
  exact⟨by omega,this.2⟩
 ·have:vw k=false:=by
   cases hx:vw k with
   | false=>rfl
   | true=>exact absurd (List.any_eq_true.2 ⟨k,hk,hx⟩) h4
  unfold vw at this
  rw[h6] at this
  simp at this
  omega
def tH (cs:List jI) (e:Int) (ts:List (List (List Rat))):List eZ:=if rI cs e ts=0 then kx cs (ts.map λt=>t.getD e.toNat []) else []
def eZ.zero:eZ:=⟨Pt.zero,0,0,0⟩
def eZ.add (x y:eZ):eZ:=⟨x.p.add y.p,x.due+y.due,x.sS+y.sS,x.own+y.own⟩
def oP (l:List eZ):eZ:=l.foldl eZ.add eZ.zero
theorem GZ (l:List eZ) (x:eZ):oP (l++[x])=(oP l).add x:=by unfold oP;rw[List.foldl_append];rfl
theorem Ha {l:List eZ} {i:Nat} {x:eZ} (h:l[i]? =some x):oP (l.take (i+1))=(oP (l.take i)).add x:=by rw[aF h,GZ]
theorem Dl (l:List eZ):oP l=⟨jG (l.map (·.p)),eg (l.map (·.due)),eg (l.map (·.sS)),eg (l.map (·.own))⟩:=by
 suffices h:∀ (l:List eZ) (x:eZ),l.foldl eZ.add x=⟨(l.map (·.p)).foldl Pt.add x.p,(l.map (·.due)).foldl (·+ ·) x.due,(l.map (·.sS)).foldl (·+ ·) x.sS,(l.map (·.own)).foldl (·+ ·) x.own⟩ from h l eZ.zero
 intro l
 induction l with
 | nil=>intro x;rfl
 | cons y r ih=>intro x;rw[List.foldl_cons,ih];rfl
theorem Bu (cs:List jI) (dh:List (List Rat)):∀ n,(eL cs dh n).length<=n*cs.length
 | 0=>by simp[eL]
 | n+1=>by
   have:=Bu cs dh n
   have h2:(ku n (cs.zip (dh.getD n []))).length<=cs.length:=by
    unfold ku;rw[List.length_map]
    exact Nat.le_trans (List.length_filter_le _ _) (by rw[List.length_zip];omega)
   show (eL cs dh n++_).length<=_
   rw[List.length_append,Nat.add_mul,Nat.one_mul];omega
theorem rJ {y:Nat} {p:jI×Rat} (hy:y<=9999) (h:1<=ji p.1.2):cL (qq y p).exp=false:=by
 have:=Ez p.1.2
 rw[qq,Bt]
 unfold cL
 simp only[Bool.or_eq_false_iff,decide_eq_false_iff_not,Bool.not_true,and_true]
 omega
theorem Dm {y:Nat} {l:List (jI×Rat)} {i:Nat} {p:jI×Rat} (h:l[i]? =some p):ku y (l.take (i+1))=ku y (l.take i)++(if wv p=true then [qq y p] else []):=by
 unfold ku;rw[aF h,List.filter_append,List.map_append]
 by_cases hd:wv p=true
 ·rw[if_pos hd,List.filter_cons_of_pos hd];rfl
 ·rw[if_neg hd,List.filter_cons_of_neg hd];rfl
set_option maxRecDepth 4000
def ElB {α:Type} (E:World->List Value->α->Prop):Prop:=∀ {w w':World} {cs:List Value} {a:α},E w cs a->ax w w'->E w' cs a
theorem fJ.b {α:Type} {E:World->List Value->α->Prop} {sz:Nat} (h:fJ E sz):ElB E:=λhE hb=>h.kp hE (Kp.of hb)
theorem cf.Dn {α:Type} {E:World->List Value->α->Prop} {sz:Nat} {w w':World} {v:Value} {es:List α} (hE:ElB E) (h:cf E sz w v es) (hb:ax w w'):cf E sz w' v es:=by
 obtain⟨p,c,hv,h1,h2,h3⟩:=h
 refine⟨p,c,hv,h1,h2,λi q hq=> ?_⟩
 obtain⟨b,off,cs,hp,hc,hr⟩:=h3 i q hq
 exact⟨b,off,cs,hp,λj u hj=>hb.cell (hc j u hj),hE hr hb⟩
def oQ (kk:Nat) (w:World) (cs:List Value) (x:jI):Prop:=∃ nm s p n c t y m d,cs=[.string nm,.int .u8 (x.1:Int),.bool s,.slice p n c,.bool t,.slice y m d]/\x.1<256/\ay w (.agg #[.bool s,.slice p n c,.bool t,.slice y m d]) x.2 kk
theorem lJ (kk:Nat):fJ (oQ kk) 6 where
 kp:=λh k=>by
  obtain⟨nm,s,p,n,c,t,y,m,d,hv,h1,h2⟩:=h
  exact⟨_,_,_,_,_,_,_,_,_,hv,h1,h2.kp k⟩
 len:=λh=>by
  obtain⟨nm,s,p,n,c,t,y,m,d,rfl,_⟩:=h
  rfl
 ok:=λh=>by
  obtain⟨nm,s,p,n,c,t,y,m,d,rfl,_⟩:=h
  rfl
def je (kk:Nat) (w:World) (cs:List Value) (q:Rat):Prop:=∃ s p n c t y m d,cs=[.bool s,.slice p n c,.bool t,.slice y m d]/\ay w (.agg #[.bool s,.slice p n c,.bool t,.slice y m d]) q kk
theorem bA (kk:Nat):fJ (je kk) 4 where
 kp:=λh k=>by
  obtain⟨s,p,n,c,t,y,m,d,hv,h2⟩:=h
  exact⟨_,_,_,_,_,_,_,_,hv,h2.kp k⟩
 len:=λh=>by
  obtain⟨s,p,n,c,t,y,m,d,rfl,_⟩:=h
  rfl
 ok:=λh=>by
  obtain⟨s,p,n,c,t,y,m,d,rfl,_⟩:=h
  rfl
def vx (kk:Nat) (w:World) (cs:List Value) (r:List Rat):Prop:=∃ v,cs=[v]/\cf (je kk) 4 w v r
def wx (kk:Nat) (w:World) (cs:List Value) (t:List (List Rat)):Prop:=∃ v,cs=[v]/\cf (vx kk) 1 w v t
theorem KF (kk:Nat):ElB (vx kk):=λh hb=>by
 obtain⟨v,hv,h1⟩:=h
 exact⟨v,hv,h1.Dn (bA kk).b hb⟩
theorem EA (kk:Nat):ElB (wx kk):=λh hb=>by
 obtain⟨v,hv,h1⟩:=h
 exact⟨v,hv,h1.Dn (KF kk) hb⟩
theorem cf.sl {α:Type} {E:World->List Value->α->Prop} {sz:Nat} {w:World} {v:Value} {es:List α} (h:cf E sz w v es):∃ p c,v=.slice p es.length c:=by
 obtain⟨p,c,hv,_⟩:=h
 exact⟨p,c,hv⟩
theorem ay.raw {w:World} {v:Value} {q:Rat} {k:Nat} (h:ay w v q k):∃ (a:Bool×Rat) (s:Bool) (p:Option Addr) (c:Nat) (t:Bool) (r:Option Addr) (d:Nat) (xs ys:List Nat),v=.agg #[.bool s,.slice p xs.length c,.bool t,.slice r ys.length d]/\Bc k w [.bool s,.slice p xs.length c,.bool t,.slice r ys.length d] a/\a.2=q/\(a.1=false->q=0):=by
 obtain⟨s,xs,t,ys,hr,rfl,hx,hy⟩:=h
 obtain⟨p,c,r,d,rfl,-⟩:=hr.xq
 exact⟨(nW s xs t ys,rq s xs t ys),s,p,c,t,r,d,xs,ys,rfl,⟨s,p,c,t,r,d,xs,ys,rfl,hr,rfl,hx,hy⟩,rfl,λe=>qg e⟩
theorem Bv {q:Rat} (h:q.den=1):q.floor=q.num:=by
 rw[Rat.floor_def,h];simp
attribute [local irreducible] ao VS
theorem Hb (v:Value) (X:Int) (k:Nat) (w:World) (hv:bk w v X k):
  Calls Tryz.prog 84 #[v] w λe w'=>∃ n b,e=.returned (.tuple #[.int .i64 n,.bool b])/\(b=true->n=X)/\(b=false->4294967296<=X.natAbs)/\ax w w':=by
 by_cases h:X.natAbs<4294967296
 ·refine (Dd v X k w hv h).mono ?_
  rintro e w' ⟨rfl,hb⟩
  exact⟨_,_,rfl,λ_=>rfl,λh=>(by cases h),hb⟩
 ·refine (De v X k w hv).mono ?_
  rintro e w' ⟨n,b,rfl,h1,hb⟩
  exact⟨_,_,rfl,h1,λ_=>by omega,hb⟩
theorem Hc {a:Bool×Rat} {q:Rat} (h2:a.2=q) (h1:a.1=false->q=0) (h:jd a=false):ji q=0:=by
 unfold jd at h
 unfold ji
 rw[h2] at h
 cases ha:a.1 with
 | false=>rw[h1 ha];rfl
 | true=>
   rw[ha,Bool.true_and,decide_eq_false_iff_not] at h
   rw[if_neg (λe=>h e.1)]
theorem Dp {a:Bool×Rat} {q:Rat} (h2:a.2=q) (h:jd a=true):q.den=1:=by
 unfold jd at h
 rw[h2,Bool.and_eq_true,decide_eq_true_iff] at h
 exact h.2
theorem vz {q:Rat} (h:q.num<1\/40<q.num):ji q=0:=by unfold ji;rw[if_neg aa]
theorem ayrs_in {q:Rat} (hd:q.den=1) (h1:1<=q.num) (h2:q.num<=40):(ji q:Int)=q.num:=by unfold ji;rw[if_pos ⟨hd,h1,h2⟩];omega
theorem vA (cs:List Value) (x:jI) (kk:Nat) (w:World) (hv:oQ kk w cs x) (hk:kk<=1000000):
  Calls Tryz.prog 37 #[.agg cs.toArray] w λe w'=>e=.returned (.int .i64 (ji x.2:Int))/\ax w w':=by
 obtain⟨nm,s0,p0,n0,c0,t0,y0,m0,d0,rfl,Dq,jg⟩:=hv
 obtain⟨a,s,p,c,t,r,d,xs,ys,he,eW,ha2,ha1⟩:=jg.raw
 injection he with he
 have yz:=congrArg Array.toList he
 simp only[List.cons.injEq,Value.bool.injEq,Value.slice.injEq,and_true] at yz
 obtain⟨rfl,⟨rfl,rfl,rfl⟩,rfl,rfl,rfl,rfl⟩:=yz
 refine ae (C:=aR Tryz.prog w _) (args:=[_]) Tryz.func37 rfl Tryz.ntmps37 (bt rfl) ?_
 refine ab ?_
 refine VO.fh rfl (fk Tryz.func83) (λaK β bn aU ho=>(wu _ [a] kk aK (qj (qk kk) (ho.own 7 (.base (List.mem_singleton.2 rfl)) _ _ rfl) [] (vs:=[[.bool s0,.slice p0 xs.length c0,.bool t0,.slice y0 ys.length d0]]) (by rfl) (.cons ((qk kk).kp eW (Kp.of (U:=UU) aU)) .nil) rfl (Nat.le_refl _) (show (1:Nat)<=9223372036854775807 by omega)) aa).mono ?_)
 rintro e w1 ⟨rfl,aC⟩
 cases hw:jd a with
 | false=>
   rw[show [a].all jd=false by simp[hw]]
   refine aB aC ?_
   intro bL _ bb1
   refine az ?_;intro wz kz bz
   exact⟨by rw[Hc ha2 ha1 hw];rfl,bz⟩
 | true=>
   rw[show [a].all jd=true by simp[hw]]
   have hd:=Dp ha2 hw
   have yy:=Bv hd
   refine aB aC ?_
   intro bL _ bb1
   refine VO.cI rfl rfl (fk Tryz.func85) (λaZ bI bu=>Bb _ x.2 kk aZ jg.k aa) (λaZ bI bu w2 s2 p2 n2 c2 q2 aQ cH _ bb2=>wV rfl ?_)
   refine ab ?_
   rw[yy] at q2
   refine VO.call rfl rfl (fk Tryz.func84) (λck cJ da=>(Hb _ x.2.num (bF kk) ck (q2.ki (jg.oZ.1))).mono ?_)
   rintro e w3 ⟨n,b,rfl,hn,ET,bM⟩
   cases b with
   | false=>
     refine aB bM ?_
     intro dP _ bb3
     refine az ?_;intro wz kz bz
     exact⟨by rw[vz (by have:=ET rfl;omega)];rfl,bz⟩
   | true=>
     obtain rfl:=hn rfl
     obtain⟨Y,hY⟩:∃ Y,Y=x.2.num:=⟨_,rfl⟩
     rw[<-hY]
     by_cases h1:Y<1
     ·refine aB bM ?_
      intro dP _ bb3
      refine VO.fix 23 rfl (congrArg (λb=>AV.val (.bool b)) (decide_eq_true h1)) ?_
      refine ab ?_
      refine az ?_;intro wz kz bz
      exact⟨by rw[vz aa];rfl,bz⟩
     ·by_cases h2:Y>40
      ·refine aB bM ?_
       intro dP _ bb3
       refine VO.fix 23 rfl (congrArg (λb=>AV.val (.bool b)) (decide_eq_false h1)) ?_
       refine ab ?_
       refine VS.bo rfl (decide_eq_true h2) ?_
       refine ab ?_
       refine az ?_;intro wz kz bz
       exact⟨by rw[vz aa];rfl,bz⟩
      ·refine aB bM ?_
       intro dP _ bb3
       refine VO.fix 23 rfl (congrArg (λb=>AV.val (.bool b)) (decide_eq_false h1)) ?_
       refine ab ?_
       refine VS.bB rfl (decide_eq_false h2) ?_
       refine ab ?_
       refine az ?_;intro wz kz bz
       exact⟨by rw[ayrs_in hd aa aa,hY];rfl,bz⟩
theorem Hd (v:Value) (p:Option Addr) (N c b1 b2 kk:Nat) (e:Int) (t:List (List Rat)) (w:World) (hv:cf (vx kk) 1 w v t) (h1:w.cell? ⟨b1,0,none⟩=some (.int .i64 e)) (h2:w.cell? ⟨b2,0,none⟩=some (.slice p N c)) (he:0<=e):
  Calls Tryz.prog 77 #[.agg #[v],.pointer (some ⟨b1,0,none⟩),.pointer (some ⟨b2,0,none⟩)] w λo w'=>o=.returned (.bool (jJ e N t))/\ax w w':=by
 obtain⟨pr,cr,rfl⟩:=hv.sl
 obtain⟨L,hL⟩:∃ L,L=t.length:=⟨_,rfl⟩
 rw[<-hL] at hv ⊢
 refine ae (C:=aR Tryz.prog w _) (args:=[_,_,_]) Tryz.func77 rfl Tryz.ntmps77 (bt rfl) ?_
 refine ab ?_
 refine VO.read rfl [.int .i64 e] rfl (eS h1) (wV rfl ?_)
 refine ab ?_
 by_cases hge:e>=(L:Int)
 ·refine VO.fix 10 rfl (congrArg (λb=>AV.val (.bool b)) (decide_eq_true hge)) ?_
  refine ab ?_
  refine az ?_;intro wz kz bz
  exact⟨by unfold jJ;rw[<-hL,decide_eq_true hge];rfl,bz⟩
 ·refine VO.fix 10 rfl (congrArg (λb=>AV.val (.bool b)) (decide_eq_false hge)) ?_
  refine ab ?_
  obtain⟨xs,hx⟩:∃ xs,t[e.toNat]? =some xs:=⟨_,List.getElem?_eq_getElem aa⟩
  obtain⟨b,off,fM,rfl,hc,⟨u1,rfl,vI⟩⟩:=hv.at hx
  obtain⟨p3,c3,rfl⟩:=vI.sl
  refine VO.read rfl [.int .i64 e] rfl (eS h1) (wV rfl ?_)
  refine ab ?_
  refine VO.cond rfl fw (wV rfl ?_)
  refine VO.read rfl [.slice p3 xs.length c3] rfl (λj u hj=>by rw[Addr.add_mid];have:=hc j u hj;rwa [Nat.mul_comm] at this ⊢) (wV rfl ?_)
  refine ab ?_
  refine VO.read rfl [.slice p N c] rfl (eS h2) (wV rfl ?_)
  refine ab ?_
  refine az ?_;intro wz kz bz
  refine⟨congrArg (λb=>Ending.returned (.bool b)) ?_,bz⟩
  unfold jJ
  rw[<-hL,decide_eq_false hge,Bool.false_or,List.getD_eq_getElem?_getD,hx]
  show ((xs.length:Int) != (N:Int))=(xs.length != N)
  by_cases hh:xs.length=N
  ·rw[hh];simp
  ·rw[bne_iff_ne.2 hh,bne_iff_ne.2 aa]
end
set_option maxRecDepth 4000
section
open Go.RowKit
attribute [local irreducible] ao VS
theorem Dr (g:FuncId) (c1 c2:Value) (P:List (List Rat)->Bool) (kk:Nat) (kg:iU Tryz.prog g) (v:Value) (es:List (List (List Rat))) (w:World) (hv:cf (wx kk) 1 w v es) (hg:∀ (cs:List Value) (a:List (List Rat)) (w1:World),ax w w1->wx kk w1 cs a->Calls Tryz.prog g #[.agg cs.toArray,c1,c2] w1 λe w'=>e=.returned (.bool (P a))/\ax w1 w'):
  Calls Tryz.prog 137 #[v,.func (.func g) #[] #[c1,c2]] w λe w'=>∃ r,e=.returned (.int .i64 r)/\decide (r>=0)=es.any P/\ax w w':=by
 obtain⟨p,c,rfl,dk,dY⟩:=hv.form
 obtain⟨N,hN⟩:∃ N,N=es.length:=⟨_,rfl⟩
 rw[<-hN] at hv dk ⊢
 refine ae (C:=aR Tryz.prog w _) (args:=[_,_]) Tryz.func137 rfl Tryz.ntmps137 (bt rfl) ?_
 refine ab ?_
 refine VS.loop (J:=λmm L M w'=>∃ z:Nat,z<=N/\mm=N-z/\L=[(0,.val (.slice p N c)),(1,.val (.func (.func g) #[] #[c1,c2])),(7,.val (.int .i64 (N:Int))),(8,.val (.int .i64 (z:Int)))]/\M=[]/\(es.take z).any P=false) N ⟨_,_,?_,?_,?_,?_,⟨0,by omega,rfl,rfl,rfl,rfl⟩⟩ ?_
 ·exact dX
 ·exact dX
 ·rfl
 ·exact ll
 rintro mm L M wJ ⟨z,hz,rfl,rfl,rfl,hno⟩
 refine ab ?_
 by_cases hlt:z<N
 ·obtain⟨a,hx⟩:∃ x,es[z]? =some x:=⟨_,List.getElem?_eq_getElem aa⟩
  obtain⟨b,off,cs,rfl,hc,he⟩:=hv.at hx
  have yz:=he
  obtain⟨u,rfl,-⟩:=yz
  refine VS.bo rfl (decide_eq_true (Int.ofNat_lt.2 hlt)) ?_
  refine ab ?_
  refine VO.cond rfl fw ?_
  refine wV rfl ?_
  refine ab ?_
  refine VO.read rfl [u] rfl (λj u hj=>by rw[Addr.add_mid,Int.toNat_natCast];exact hc j u hj) (wV rfl ?_)
  refine VO.call rfl rfl kg (λaK bn aU=>(hg _ a aK aU (EA kk he aU)).mono ?_)
  rintro e w1 ⟨rfl,aC⟩
  cases hP:P a with
  | true=>
    refine aB aC ?_
    intro bL _ bb1
    refine az ?_;intro wz kz bz
    refine⟨_,rfl,?_,bz⟩
    rw[List.any_eq_true.2 ⟨a,List.mem_of_getElem? hx,hP⟩,decide_eq_true aa]
  | false=>
    refine aB aC ?_
    intro bL _ bb1
    refine VS.back (N-(z+1)) aa ⟨_,_,?_,?_,?_,?_,⟨z+1,by omega,rfl,rfl,rfl,?_⟩⟩
    ·refine⟨rfl,rfl,rfl,?_,trivial⟩
     rw[<-bD aa];rfl
    ·exact dX
    ·rfl
    ·exact ll
    ·rw[aF hx,List.any_append,hno];simp[hP]
 ·refine VS.bB rfl (decide_eq_false (λe=>hlt (Int.ofNat_lt.1 e))) ?_
  obtain rfl:z=N:=by omega
  refine ab ?_
  refine az ?_;intro wz kz bz
  rw[List.take_of_length_le aa] at hno
  exact⟨_,rfl,by rw[hno];rfl,bz⟩
theorem Ds (g:FuncId) (c1 c2:Value) (P:List (List Rat)->Bool) (kk:Nat) (kg:iU Tryz.prog g) (v:Value) (es:List (List (List Rat))) (w:World) (hv:cf (wx kk) 1 w v es) (hg:∀ (cs:List Value) (a:List (List Rat)) (w1:World),ax w w1->wx kk w1 cs a->Calls Tryz.prog g #[.agg cs.toArray,c1,c2] w1 λe w'=>e=.returned (.bool (P a))/\ax w1 w'):
  Calls Tryz.prog 79 #[v,.func (.func g) #[] #[c1,c2]] w λe w'=>e=.returned (.bool (es.any P))/\ax w w':=by
 obtain⟨p,c,rfl,dk,dY⟩:=hv.form
 refine ae (C:=aR Tryz.prog w _) (args:=[_,_]) Tryz.func79 rfl Tryz.ntmps79 (bt rfl) ?_
 refine ab ?_
 refine VO.call rfl rfl (fk Tryz.func137) (λaK bn aU=>(Dr g c1 c2 P kk kg _ es aK (hv.Dn (EA kk) aU) (λcs a w1 h1 h2=>hg cs a w1 (aU.aA h1) h2)).mono ?_)
 rintro e w1 ⟨r1,rfl,h1,aC⟩
 refine aB aC ?_
 intro bL _ bb1
 refine az ?_;intro wz kz bz
 exact⟨congrArg (λb=>Ending.returned (.bool b)) h1,bz⟩
theorem Dt (g:FuncId) (P:jI->Bool) (kk:Nat) (kg:iU Tryz.prog g) (v:Value) (es:List (jI)) (w:World) (hv:cf (oQ kk) 6 w v es) (hg:∀ (cs:List Value) (a:jI) (w1:World),ax w w1->oQ kk w1 cs a->Calls Tryz.prog g #[.agg cs.toArray] w1 λe w'=>e=.returned (.bool (P a))/\ax w1 w'):
  Calls Tryz.prog 133 #[v,.func (.func g) #[] #[]] w λe w'=>∃ r,e=.returned (.int .i64 r)/\decide (r>=0)=es.any P/\ax w w':=by
 obtain⟨p,c,rfl,dk,dY⟩:=hv.form
 obtain⟨N,hN⟩:∃ N,N=es.length:=⟨_,rfl⟩
 rw[<-hN] at hv dk ⊢
 refine ae (C:=aR Tryz.prog w _) (args:=[_,_]) Tryz.func133 rfl Tryz.ntmps133 (bt rfl) ?_
 refine ab ?_
 refine VS.loop (J:=λmm L M w'=>∃ z:Nat,z<=N/\mm=N-z/\L=[(0,.val (.slice p N c)),(1,.val (.func (.func g) #[] #[])),(7,.val (.int .i64 (N:Int))),(8,.val (.int .i64 (z:Int)))]/\M=[]/\(es.take z).any P=false) N ⟨_,_,?_,?_,?_,?_,⟨0,by omega,rfl,rfl,rfl,rfl⟩⟩ ?_
 ·exact dX
 ·exact dX
 ·rfl
 ·exact ll
 rintro mm L M wJ ⟨z,hz,rfl,rfl,rfl,hno⟩
 refine ab ?_
 by_cases hlt:z<N
 ·obtain⟨a,hx⟩:∃ x,es[z]? =some x:=⟨_,List.getElem?_eq_getElem aa⟩
  obtain⟨b,off,cs,rfl,hc,he⟩:=hv.at hx
  have yz:=he
  obtain⟨nm,s0,p0,n0,c0,t0,y0,m0,d0,rfl,-⟩:=yz
  refine VS.bo rfl (decide_eq_true (Int.ofNat_lt.2 hlt)) ?_
  refine ab ?_
  refine VO.cond rfl fw ?_
  refine wV rfl ?_
  refine ab ?_
  refine VO.read rfl [.string nm,.int .u8 (a.1:Int),.bool s0,.slice p0 n0 c0,.bool t0,.slice y0 m0 d0] rfl (λj u hj=>by rw[Addr.add_mid,Int.toNat_natCast];exact hc j u hj) (wV rfl ?_)
  refine VO.call rfl rfl kg (λaK bn aU=>(hg _ a aK aU ((lJ kk).b he aU)).mono ?_)
  rintro e w1 ⟨rfl,aC⟩
  cases hP:P a with
  | true=>
    refine aB aC ?_
    intro bL _ bb1
    refine az ?_;intro wz kz bz
    refine⟨_,rfl,?_,bz⟩
    rw[List.any_eq_true.2 ⟨a,List.mem_of_getElem? hx,hP⟩,decide_eq_true aa]
  | false=>
    refine aB aC ?_
    intro bL _ bb1
    refine VS.back (N-(z+1)) aa ⟨_,_,?_,?_,?_,?_,⟨z+1,by omega,rfl,rfl,rfl,?_⟩⟩
    ·refine⟨rfl,rfl,rfl,?_,trivial⟩
     rw[<-bD aa];rfl
    ·exact dX
    ·rfl
    ·exact ll
    ·rw[aF hx,List.any_append,hno];simp[hP]
 ·refine VS.bB rfl (decide_eq_false (λe=>hlt (Int.ofNat_lt.1 e))) ?_
  obtain rfl:z=N:=by omega
  refine ab ?_
  refine az ?_;intro wz kz bz
  rw[List.take_of_length_le aa] at hno
  exact⟨_,rfl,by rw[hno];rfl,bz⟩
theorem Du (g:FuncId) (P:jI->Bool) (kk:Nat) (kg:iU Tryz.prog g) (v:Value) (es:List (jI)) (w:World) (hv:cf (oQ kk) 6 w v es) (hg:∀ (cs:List Value) (a:jI) (w1:World),ax w w1->oQ kk w1 cs a->Calls Tryz.prog g #[.agg cs.toArray] w1 λe w'=>e=.returned (.bool (P a))/\ax w1 w'):
  Calls Tryz.prog 80 #[v,.func (.func g) #[] #[]] w λe w'=>e=.returned (.bool (es.any P))/\ax w w':=by
 obtain⟨p,c,rfl,dk,dY⟩:=hv.form
 refine ae (C:=aR Tryz.prog w _) (args:=[_,_]) Tryz.func80 rfl Tryz.ntmps80 (bt rfl) ?_
 refine ab ?_
 refine VO.call rfl rfl (fk Tryz.func133) (λaK bn aU=>(Dt g P kk kg _ es aK (hv.Dn ((lJ kk).b) aU) (λcs a w1 h1 h2=>hg cs a w1 (aU.aA h1) h2)).mono ?_)
 rintro e w1 ⟨r1,rfl,h1,aC⟩
 refine aB aC ?_
 intro bL _ bb1
 refine az ?_;intro wz kz bz
 exact⟨congrArg (λb=>Ending.returned (.bool b)) h1,bz⟩
theorem KG (cs:List Value) (x:jI) (kk:Nat) (w:World) (hv:oQ kk w cs x) (hk:kk<=1000000):
  Calls Tryz.prog 78 #[.agg cs.toArray] w λe w'=>e=.returned (.bool (vw x))/\ax w w':=by
 have EZ:=hv
 obtain⟨nm,s0,p0,n0,c0,t0,y0,m0,d0,rfl,Dq,jg⟩:=hv
 obtain⟨k,q⟩:=x
 replace Dq:k<256:=Dq
 refine ae (C:=aR Tryz.prog w _) (args:=[_]) Tryz.func78 rfl Tryz.ntmps78 (bt rfl) ?_
 refine ab ?_
 by_cases h6:k=6
 ·refine VO.fix 6 rfl (congrArg (λb=>AV.val (.bool b)) (beq_y (show (k:Int)=6 by omega))) ?_
  refine ab ?_
  refine VO.cB rfl rfl (fk Tryz.func37) (λaK bn aU=>vA _ (k,q) kk aK ((lJ kk).b EZ aU) hk) (λaK bn aU w1 aC bL _ bb1=>wV rfl ?_)
  refine ab ?_
  refine az ?_;intro wz kz bz
  refine⟨congrArg (λb=>Ending.returned (.bool b)) ?_,bz⟩
  show (((ji q:Nat):Int) == 0)=vw (k,q)
  unfold vw
  rw[show ((k,q):jI).1=6 from h6]
  show _=(true && (ji q == 0))
  rw[Bool.true_and]
  by_cases hz:ji q=0
  ·rw[hz];rfl
  ·rw[JZ aa,beq_eq_false_iff_ne.2 hz]
 ·refine VO.fix 6 rfl (congrArg (λb=>AV.val (.bool b)) (JZ (show (k:Int)≠6 by omega))) ?_
  refine ab ?_
  refine az ?_;intro wz kz bz
  exact⟨by unfold vw;rw[show (((k,q):jI).1 == 6)=false from beq_eq_false_iff_ne.2 h6];rfl,bz⟩
theorem KH (v u:Value) (e:Int) (cs:List jI) (ts:List (List (List Rat))) (kk:Nat) (w:World) (hv:cf (oQ kk) 6 w v cs) (hu:cf (wx kk) 1 w u ts) (hk:kk<=1000000):
  Calls Tryz.prog 33 #[v,.int .i64 e,u] w λo w'=>o=.returned (.int .i64 (rI cs e ts))/\ax w w':=by
 obtain⟨p,c,rfl⟩:=hv.sl
 obtain⟨p2,c2,rfl⟩:=hu.sl
 refine ae (C:=aR Tryz.prog w _) (args:=[_,_,_]) Tryz.func33 rfl Tryz.ntmps33 (bt rfl) ?_
 refine ab ?_
 by_cases hlong:(ts.length:Int)>40
 ·refine VS.bo rfl (decide_eq_true hlong) ?_
  refine ab ?_
  refine az ?_;intro wz kz bz
  exact⟨by unfold rI;rw[if_pos aa];rfl,bz⟩
 refine VS.bB rfl (decide_eq_false hlong) ?_
 refine ab ?_
 by_cases yV:e<0
 ·refine VO.fix 17 rfl (congrArg (λb=>AV.val (.bool b)) (decide_eq_true yV)) ?_
  refine ab ?_
  refine az ?_;intro wz kz bz
  exact⟨by unfold rI;rw[if_neg aa,if_pos yV];rfl,bz⟩
 refine VO.fix 17 rfl (congrArg (λb=>AV.val (.bool b)) (decide_eq_false yV)) ?_
 refine ab ?_
 refine VO.fh rfl (fk Tryz.func79) (λaK β bn aU ho=>(Ds 77 (.pointer (some ⟨β 4,0,none⟩)) (.pointer (some ⟨β 3,0,none⟩)) (jJ e cs.length) kk (fk Tryz.func77) _ ts aK (hu.Dn (EA kk) aU) (λl a w1 hb hs=>by
  obtain⟨u1,rfl,hs⟩:=hs
  exact Hd u1 p cs.length c (β 4) (β 3) kk e a w1 hs (hb.cell (ko (ho.own 4 (.base (by simp[eB,AV.ids])) _ _ rfl).cls)) (hb.cell (ko (ho.own 3 (.base (by simp[eB,AV.ids])) _ _ rfl).cls)) aa)).mono ?_)
 rintro o w1 ⟨rfl,aC⟩
 cases hA:ts.any (jJ e cs.length) with
 | true=>
   refine aB aC ?_
   intro bL _ bb1
   refine az ?_;intro wz kz bz
   exact⟨by unfold rI;rw[if_neg aa,if_neg yV,if_pos hA];rfl,bz⟩
 | false=>
   refine aB aC ?_
   intro bL _ bb1
   refine VO.call rfl rfl (fk Tryz.func80) (λaZ bI bu=>(Du 78 vw kk (fk Tryz.func78) _ cs aZ (hv.bq (lJ kk) bu) (λl a w1 hb hs=>KG l a kk w1 hs hk)).mono ?_)
   rintro o w2 ⟨rfl,aQ⟩
   cases hB:cs.any vw with
   | true=>
     refine aB aQ ?_
     intro cH _ bb2
     refine az ?_;intro wz kz bz
     exact⟨by unfold rI;rw[if_neg aa,if_neg yV,hA,if_neg cU,if_pos hB];rfl,bz⟩
   | false=>
     refine aB aQ ?_
     intro cH _ bb2
     refine az ?_;intro wz kz bz
     exact⟨by unfold rI;rw[if_neg aa,if_neg yV,hA,if_neg cU,hB,if_neg cU];rfl,bz⟩
set_option maxRecDepth 4000
def fG {α:Type} (E:World->List Value->α->Prop) (sz:Nat) (t:TypeId) (i:Nat) (X:AV) (M:List (Nat×(TypeId×List AV))) (w:World) (es:List α):Prop:=
 (es=[]/\X=.val (.slice none 0 0)/\M=[])\/∃ n c vs sp,X=.row i 0 n c/\M=[(i,(t,vs.flatten.map .val++sp))]/\cg E sz w n c vs sp es
theorem fG.kp {α:Type} {E:World->List Value->α->Prop} {sz:Nat} {t:TypeId} {i:Nat} {X:AV} {M:List (Nat×(TypeId×List AV))} {w w':World} {es:List α} (hE:fJ E sz) (h:fG E sz t i X M w es) (k:Kp UU w w'):fG E sz t i X M w' es:=by
 rcases h with h|⟨n,c,vs,sp,h1,h2,h3⟩
 ·exact .inl h
 ·exact .inr ⟨n,c,vs,sp,h1,h2,h3.kp hE k⟩
def Hp.mask (l:List Nat) (H:Hp):Hp:=λi=>bif l.any (Nat.beq i) then none else H i
def xC (H:Hp):List Nat->Prop
 | []=>True
 | i::r=>H i=none/\xC H r
theorem xC.eq {H:Hp}:∀ {l:List Nat},xC H l->∀ i,l.any (Nat.beq i)=true->H i=none
 | [],_,i,h=>by cases h
 | j::r,hn,i,h=>by
   rw[List.any_cons,Bool.or_eq_true] at h
   rcases h with h|h
   ·rw[Nat.eq_of_beq_eq_true h];exact hn.1
   ·exact xC.eq hn.2 i h
theorem Hp.mask_eq {H:Hp} {l:List Nat} (h:xC H l):Hp.mask l H=H:=by
 funext i
 unfold Hp.mask
 cases hb:l.any (Nat.beq i) with
 | true=>exact (h.eq i hb).symm
 | false=>rfl
theorem VS.mask {C:Cx} {Q:Exit->Act->World->Prop} {F:Fr} {H:Hp} {w:World} {stk:List It} (l:List Nat) (h:xC H l) (k:VS C Q stk F (Hp.mask l H) w):VS C Q stk F H w:=by rw[Hp.mask_eq h] at k;exact k
theorem xD {cs:List jI} {xs:List Rat} {z:Nat} {k:jI} {x:Rat} (h1:cs[z]? =some k) (h2:xs[z]? =some x):(cb cs xs)[z]? =some (k.1,k.2,x):=by
 unfold cb
 rw[List.getElem?_map,show (cs.zip xs)[z]? =some (k,x) from List.getElem?_zip_eq_some.2 ⟨h1,h2⟩];rfl
set_option maxRecDepth 4000 in
theorem Dv (v u:Value) (cs:List jI) (xs:List Rat) (t:List (List Rat)) (e:Int) (kk:Nat) (w:World) (hu:cf (oQ kk) 6 w u cs) (hv:cf (vx kk) 1 w v t) (he:0<=e) (hx:t[e.toNat]? =some xs) (hlen:xs.length=cs.length) (hk:kk<=1000) (hn:cs.length<=1000):
  Calls Tryz.prog 35 #[.agg #[v],u,.int .i64 e] w λo w'=>∃ r,o=.returned r/\gI (qm (bF kk)) 9 101 w.heap.size w' r (cb cs xs)/\ax w w':=by
 obtain⟨p,c,rfl,dk,dY⟩:=hu.form
 obtain⟨p2,c2,rfl⟩:=hv.sl
 obtain⟨N,hN⟩:∃ N,N=cs.length:=⟨_,rfl⟩
 rw[<-hN] at hu dk hlen hn ⊢
 have ny:e.toNat<t.length:=(List.getElem?_eq_some_iff.1 hx).1
 obtain⟨pb,po,pc,rfl,hpc,⟨pv,rfl,DX⟩⟩:=hv.at hx
 obtain⟨p3,c3,rfl⟩:=DX.sl
 have hE:((e.toNat:Nat):Int)=e:=by omega
 obtain⟨M0,hM0⟩:∃ M0,M0=t.length:=⟨_,rfl⟩
 rw[<-hM0] at hv ny
 rw[<-hM0]
 refine ae (C:=aR Tryz.prog w _) (args:=[_,_,_]) Tryz.func35 rfl Tryz.ntmps35 (bt rfl) ?_
 refine ab ?_
 refine VO.fix 12 rfl (congrArg (λb=>AV.val (.bool b)) (decide_eq_false (show ¬ e<0 by omega))) ?_
 refine ab ?_
 refine VO.fix 19 rfl (congrArg (λb=>AV.val (.bool b)) (decide_eq_false (show ¬ e>=(M0:Int) by omega))) ?_
 refine ab ?_
 refine VO.cond rfl fw (wV rfl ?_)
 refine VO.read rfl [.slice p3 xs.length c3] rfl (λj u hj=>by rw[Addr.add_mid];exact hpc j u hj) (wV rfl ?_)
 refine ab ?_
 refine VS.bB rfl (bne_n aa) ?_
 refine ab ?_
 refine VS.loop (J:=λm L M w'=>∃ (z:Nat) (X:AV) (Mi:List (Nat×(TypeId×List AV))),z<=N/\m=N-z/\L=[(1,.val (.slice p N c)),(2,.val (.int .i64 e)),(3,.box 3 0),(7,X),(30,.val (.slice p N c)),(31,.val (.int .i64 (N:Int))),(32,.val (.int .i64 (z:Int)))]/\
  M=(3,(41,[.val (.slice (some ⟨pb,po,none⟩) M0 c2)]))::Mi/\fG (qm (bF kk)) 9 101 56 X Mi w' ((cb cs xs).take z)) N ⟨_,_,?_,?_,?_,?_,⟨0,_,[],by omega,rfl,rfl,rfl,.inl ⟨rfl,rfl,rfl⟩⟩⟩ ?_
 ·exact dX
 ·exact dX
 ·rfl
 ·exact ll
 rintro m L M wJ ⟨z,X,Mi,hz,rfl,rfl,rfl,hst⟩
 refine VS.mask [9,42,52,55] (by rcases hst with ⟨_,_,rfl⟩|⟨_,_,_,_,_,rfl,_⟩ <;> (repeat first|exact trivial|refine⟨rfl,?_⟩)) ?_
 refine ab ?_
 by_cases hlt:z<N
 ·obtain⟨k,jF⟩:∃ k,cs[z]? =some k:=⟨_,List.getElem?_eq_getElem aa⟩
  obtain⟨x,hk2⟩:∃ x,xs[z]? =some x:=⟨_,List.getElem?_eq_getElem aa⟩
  obtain⟨b,off,fM,rfl,hc,⟨nm,s0,p0,n0,c0,t0,y0,m0,d0,rfl,Dq,jg⟩⟩:=hu.at jF
  obtain⟨b2,off2,cs2,rfl,oJ,⟨s1,p1,n1,c1,t1,y1,m1,d1,rfl,hin2⟩⟩:=DX.at hk2
  refine VS.bo rfl (decide_eq_true (Int.ofNat_lt.2 hlt)) ?_
  refine ab ?_
  refine VO.cond rfl fw ?_
  refine wV rfl ?_
  refine ab ?_
  refine VO.read rfl [.string nm,.int .u8 (k.1:Int),.bool s0,.slice p0 n0 c0,.bool t0,.slice y0 m0 d0] rfl (eh hc 0 _ ⟨[],rfl⟩) (wV rfl ?_)
  refine ab ?_
  refine VO.fh rfl (fk Tryz.func43) (λaK β bn aU ho=>(lp _ [k.2] kk aK (kn (ho.own 42 (.base (List.mem_singleton.2 rfl)) _ _ rfl) [] (vs:=[[.bool s0,.slice p0 n0 c0,.bool t0,.slice y0 m0 d0]]) (by rfl) rfl (ey.cons (jg.kp (Kp.of (U:=UU) aU)) ey.nil) (bt rfl) ff) (by unfold ba bF;simp;omega)).mono ?_)
  rintro o w1 ⟨r1,rfl,q1,-,aC⟩
  rw[qn] at q1
  obtain⟨s2,p4,n2,c4,t2,y2,m2,d2,rfl⟩:=q1.form
  refine aB aC ?_
  intro bL _ bb1
  refine VO.cond rfl fw (wV rfl ?_)
  refine VO.read rfl [.slice (some ⟨b2,off2,none⟩) xs.length c3] rfl (λj u hj=>by rw[Addr.add_mid];exact hpc j u hj) (wV rfl ?_)
  refine ab ?_
  refine VO.cond rfl fw (wV rfl ?_)
  refine VO.read rfl [.bool s1,.slice p1 n1 c1,.bool t1,.slice y1 m1 d1] rfl (eh oJ 0 _ ⟨[],rfl⟩) (wV rfl ?_)
  refine ab ?_
  refine VO.fh rfl (fk Tryz.func43) (λaZ β bI bu ho=>(lp _ [x] kk aZ (kn (ho.own 52 (.base (List.mem_singleton.2 rfl)) _ _ rfl) [] (vs:=[[.bool s1,.slice p1 n1 c1,.bool t1,.slice y1 m1 d1]]) (by rfl) rfl (ey.cons (hin2.kp (Kp.of (U:=UU) bu)) ey.nil) (bt rfl) ff) (by unfold ba bF;simp;omega)).mono ?_)
  rintro o w2 ⟨r2,rfl,q2,-,aQ⟩
  rw[qn] at q2
  obtain⟨s3,p5,n3,c5,t3,y3,m3,d3,rfl⟩:=q2.form
  refine aB aQ ?_
  intro cH _ bb2
  have yH:=xD jF hk2
  have KJ:qm (bF kk) w2 [.int .u8 (k.1:Int),.bool s2,.slice p4 n2 c4,.bool t2,.slice y2 m2 d2,.bool s3,.slice p5 n3 c5,.bool t3,.slice y3 m3 d3] (k.1,k.2,x):=⟨_,_,_,_,_,_,_,_,_,_,_,_,_,_,_,_,rfl,Dq,q1.ki jg.oZ,q2.in hin2.oZ⟩
  rcases hst with ⟨dZ,rfl,rfl⟩|⟨n',c',vs,sp,rfl,rfl,qu⟩
  ·refine VO.sn (bQ _ _) (dV (bF kk)) (t:=99) (e:=101) (s:=55) (a:=(k.1,k.2,x)) (cs:=[.int .u8 (k.1:Int),.bool s2,.slice p4 n2 c4,.bool t2,.slice y2 m2 d2,.bool s3,.slice p5 n3 c5,.bool t3,.slice y3 m3 d3]) rfl rfl rfl rfl rfl rfl rfl rfl (bt rfl) rfl rfl rfl KJ aa (λw8 cap sp k8 b8 nM=>wV rfl ?_)
   refine ab ?_
   refine VS.back (N-(z+1)) aa ⟨_,_,?_,?_,?_,?_,⟨z+1,_,_,by omega,rfl,rfl,rfl,.inr ⟨1,cap,_,sp,rfl,rfl,by rw[aF yH,dZ];exact nM⟩⟩⟩
   ·refine⟨rfl,rfl,rfl,rfl,rfl,rfl,?_,trivial⟩
    rw[<-bD (i:=z) aa];rfl
   ·exact dX
   ·rfl
   ·exact⟨.lit rfl,nM.vd,trivial⟩
  ·have oX:=qu.len
   rw[List.length_take] at oX
   refine VO.sq (bQ _ _) (dV (bF kk)) (t:=99) (e:=101) (s:=55) (i:=56) (n:=n') (c:=c') (vs:=vs) (sp:=sp) (es:=(cb cs xs).take z) (a:=(k.1,k.2,x)) (cs:=[.int .u8 (k.1:Int),.bool s2,.slice p4 n2 c4,.bool t2,.slice y2 m2 d2,.bool s3,.slice p5 n3 c5,.bool t3,.slice y3 m3 d3]) rfl rfl rfl rfl rfl rfl rfl rfl (bt rfl) rfl (.inr rfl) rfl (qu.kp (dV (bF kk)) bG) rfl KJ aa (λw8 oT xt ρ k8 b8 eH nM=>wV rfl ?_)
   refine ab ?_
   refine VS.back (N-(z+1)) aa ⟨_,_,?_,?_,?_,?_,⟨z+1,_,_,by omega,rfl,rfl,rfl,.inr ⟨n' +1,oT,_,xt,rfl,rfl,by rw[aF yH];exact nM⟩⟩⟩
   ·refine⟨rfl,rfl,rfl,rfl,rfl,rfl,?_,trivial⟩
    rw[<-bD (i:=z) aa];rfl
   ·exact dX
   ·rfl
   ·exact⟨.lit rfl,nM.vd,trivial⟩
 ·refine VS.bB rfl (decide_eq_false (λe=>hlt (Int.ofNat_lt.1 e))) ?_
  obtain rfl:z=N:=by omega
  have IE:(cb cs xs).take z=cb cs xs:=List.take_of_length_le (by unfold cb;rw[List.length_map,List.length_zip];omega)
  rw[IE] at hst
  rcases hst with ⟨dZ,rfl,rfl⟩|⟨n',c',vs,sp,rfl,rfl,qu⟩
  ·refine ab ?_
   refine az ?_;intro wz kz bz
   exact⟨_,rfl,.inl ⟨rfl,dZ⟩,bz⟩
  ·refine ab ?_
   refine VS.oy (bQ _ _) rfl (λwz β kz bz en=> ?_)
   exact⟨_,rfl,qu.new (dV (bF kk)) (en.own 56 _ _ rfl) kz,bz⟩
theorem vB (f:bU->Rat) (h:∀ e:bU,e.exp.2.2.2=0->f e=0) (l:List bU):eg ((dy l).map f)=eg (l.map f):=by
 induction l with
 | nil=>rfl
 | cons e r ih=>
   unfold dy at ih ⊢
   by_cases h0:e.exp.2.2.2=0
   ·have hz:enz e=false:=by unfold enz;simp[h0]
    rw[List.filter_cons_of_neg (by simp[hz]),ih,List.map_cons,rG,h e h0]
    grind
   ·have hz:enz e=true:=by unfold enz;simp[h0]
    rw[List.filter_cons_of_pos hz,List.map_cons,List.map_cons,rG,rG,ih]
theorem He (l:List bU) (z:Int):jw (dy l) z=jw l z:=vB _ (λe h=>by
 unfold lS
 split
 ·rfl
 ·rw[h,Rat.zero_mul]) l
theorem Hf (l:List bU) (z:Int):lT (dy l) z=lT l z:=vB _ (λe h=>by
 unfold vn
 split
 ·rfl
 ·rw[h,Rat.zero_mul]) l
def vC (kk:Nat) (i:Nat) (X:AV) (M:List (Nat×(TypeId×List AV))) (w:World) (es:List bU):Prop:=
 (es=[]/\X=.val (.slice none 0 0)/\M=[])\/∃ n c vs spare,X=.row i 0 n c/\M=[(i,(177,vs.flatten.map .val++spare.map .val))]/\n=es.length/\fK (na kk) w es vs/\spare.all aN=true/\n<=c/\c<=9223372036854775807/\(vs.flatten++spare).length=c*6
theorem vC.kp {kk i:Nat} {X:AV} {M:List (Nat×(TypeId×List AV))} {w w':World} {es:List bU} (h:vC kk i X M w es) (k:Kp UU w w'):vC kk i X M w' es:=by
 rcases h with h|⟨n,c,vs,sp,h0,h1,h2,h3,h4⟩
 ·exact .inl h
 ·exact .inr ⟨n,c,vs,sp,h0,h1,h2,h3.kp (il kk) k,h4⟩
section
variable {C:Cx} {β:Nat->Nat} {H:Hp} {w w1:World} {ids:List Nat} {X:AV} {M:List (Nat×(TypeId×List AV))}
theorem vC.in {kk i g:Nat} {es:List bU} (h:vC kk i X M w es) (o:gY C β H ids w1) (hg:g∈ids) (hG:H g=some (175,[X])) (hM:∀ x∈M,H x.1=some x.2) (k:Kp UU w w1):vo kk w1 (β g) es:=by
 have o1:=o.own g (.base hg) _ _ hG
 rcases h with ⟨rfl,rfl,rfl⟩|⟨n,c,vs,sp,rfl,rfl,h2,h3,h4,h5,h6,h7⟩
 ·exact⟨_,ko o1.cls,cf.nil _ _ _⟩
 ·have o2:=o.own i (.step (.base hg) hG (by rw[qo];simp)) _ _ (hM _ (List.mem_singleton.2 rfl))
  exact⟨_,ko o1.cls,qj (il kk) o2 (sp.map .val) rfl (h3.kp (il kk) k) h2 h5 h6⟩
theorem fG.Hg {α:Type} {E:World->List Value->α->Prop} {sz i:Nat} {t:TypeId} {es:List α} (h:fG E sz t i X M w es) (hE:fJ E sz) (o:gY C β H (eB [X]) w1) (hM:∀ x∈M,H x.1=some x.2) (k:Kp UU w w1):cf E sz w1 (X.aP β) es:=by
 rcases h with ⟨rfl,rfl,rfl⟩|⟨n,c,vs,sp,rfl,rfl,h3⟩
 ·exact cf.nil _ _ _
 ·exact h3.sl' hE (o.own i (.base (by simp[eB,AV.ids])) _ _ (hM _ (List.mem_singleton.2 rfl))) k
end
def RtQ (kk:Nat) (w:World) (cs:List Value) (q:Rat):Prop:=∃ s p n c t y m d,cs=[.bool s,.slice p n c,.bool t,.slice y m d]/\aX w (.agg #[.bool s,.slice p n c,.bool t,.slice y m d]) q/\bS q kk
theorem dz (kk:Nat):fJ (RtQ kk) 4 where
 kp:=λh k=>by
  obtain⟨s,p,n,c,t,y,m,d,hv,h1,h2⟩:=h
  exact⟨_,_,_,_,_,_,_,_,hv,h1.kp k,h2⟩
 len:=λh=>by
  obtain⟨s,p,n,c,t,y,m,d,rfl,_⟩:=h
  rfl
 ok:=λh=>by
  obtain⟨s,p,n,c,t,y,m,d,rfl,_⟩:=h
  rfl
def sH (kk:Nat) (w:World) (cs:List Value) (r:eZ):Prop:=∃ a b c d e f g,cs=a++(b++(c++(d++(e++(f++g)))))/\RtQ kk w a r.p.b/\RtQ kk w b r.p.s/\RtQ kk w c r.p.d/\RtQ kk w d r.p.i/\RtQ kk w e r.due/\RtQ kk w f r.sS/\RtQ kk w g r.own
theorem fo (kk:Nat):fJ (sH kk) 28 where
 kp:=λh k=>by
  obtain⟨a,b,c,d,e,f,g,hv,h1,h2,h3,h4,h5,h6,h7⟩:=h
  exact⟨a,b,c,d,e,f,g,hv,(dz kk).kp h1 k,(dz kk).kp h2 k,(dz kk).kp h3 k,(dz kk).kp h4 k,(dz kk).kp h5 k,(dz kk).kp h6 k,(dz kk).kp h7 k⟩
 len:=λh=>by
  obtain⟨a,b,c,d,e,f,g,rfl,h1,h2,h3,h4,h5,h6,h7⟩:=h
  simp only[List.length_append]
  rw[(dz kk).len h1,(dz kk).len h2,(dz kk).len h3,(dz kk).len h4,(dz kk).len h5,(dz kk).len h6,(dz kk).len h7]
 ok:=λh=>by
  obtain⟨a,b,c,d,e,f,g,rfl,h1,h2,h3,h4,h5,h6,h7⟩:=h
  simp only[List.all_append]
  rw[(dz kk).ok h1,(dz kk).ok h2,(dz kk).ok h3,(dz kk).ok h4,(dz kk).ok h5,(dz kk).ok h6,(dz kk).ok h7];rfl
def AK:Nat:=40000
theorem RtQ.mk {kk:Nat} {w:World} {s t:Bool} {p y:Option Addr} {n c m d:Nat} {q:Rat} (h:aX w (.agg #[.bool s,.slice p n c,.bool t,.slice y m d]) q) (hs:bS q kk):RtQ kk w [.bool s,.slice p n c,.bool t,.slice y m d] q:=⟨_,_,_,_,_,_,_,_,rfl,h,hs⟩
theorem qw {cs:List jI} {dh:List (List Rat)} {y:Nat} (h:y<dh.length):(kx cs dh)[y]? =some (vv cs dh y):=by
 unfold kx
 rw[List.getElem?_map,List.getElem?_range h];rfl
theorem Hh {l:List bU} {y:Nat} {p:jI×Rat} (hy:y<=9999) (h:1<=ji p.1.2):gg (dy l) (qq y p)=dy (l++[qq y p]):=by
 unfold gg
 rw[if_neg (by rw[rJ hy h];simp)]
 unfold dy
 rw[List.filter_append]
 by_cases hz:(qq y p).exp.2.2.2=0
 ·rw[if_pos hz,List.filter_cons_of_neg (by unfold enz;simp[hz]),List.filter_nil,List.append_nil]
 ·rw[if_neg hz,List.filter_cons_of_pos (by unfold enz;simp[hz]),List.filter_nil]
theorem sI (l:List bU):(dy l).length<=l.length:=List.length_filter_le _ _
theorem xE {cs:List jI} {dh:List (List Rat)} (h:∀ k∈cs,k.1=6->1<=ji k.2):∀ n,n<=9999->∀ e∈eL cs dh n,cL e.exp=false
 | 0,_,e,he=>by simp[eL] at he
 | n+1,hn,e,he=>by
   rw[show eL cs dh (n+1)=eL cs dh n++ku n (cs.zip (dh.getD n [])) from rfl] at he
   rcases List.mem_append.1 he with he|he
   ·exact xE h n aa e he
   ·unfold ku at he
    obtain⟨p,hp,rfl⟩:=List.mem_map.1 he
    obtain⟨hp1,hp2⟩:=List.mem_filter.1 hp
    refine rJ aa (h p.1 (List.of_mem_zip (show (p.1,p.2)∈_ from hp1)).1 ?_)
    unfold wv at hp2
    exact eq_of_beq hp2
set_option maxRecDepth 4000
theorem VO.via {C:Cx} {m:Option (List FuncId)} {full:Array Oper} {l:List Oper} {Q:Exit->Act->World->Prop} {F:Fr} {H:Hp} {w:World} {P:Fr->Hp->World->Prop} {stk0 stk1:List It} (h1:(∀ F' H' w',P F' H' w'->VS C Q stk1 F' H' w')->ao C m full l (VS C Q stk0) F H w) (h2:∀ F' H' w',P F' H' w'->VS C Q stk1 F' H' w'):ao C m full l (VS C Q stk0) F H w:=h1 h2
theorem VO.join {C:Cx} {m:Option (List FuncId)} {full:Array Oper} {l:List Oper} {Q:Exit->Act->World->Prop} {F:Fr} {H:Hp} {w:World} {P:Fr->Hp->World->Prop} {stk:List It} (h1:(∀ F' H' w',P F' H' w'->VS C Q stk F' H' w')->ao C m full l (VS C Q stk) F H w) (h2:∀ F' H' w',P F' H' w'->VS C Q stk F' H' w'):ao C m full l (VS C Q stk) F H w:=h1 h2
def lK (cs:List jI) (dh:List (List Rat)) (y z:Nat):List bU:=eL cs dh y++ku y ((cs.zip (dh.getD y [])).take z)
theorem Bw {cs:List jI} {dh:List (List Rat)} {T y z:Nat} (hy:y<T) (h:T*cs.length<=128):(lK cs dh y z).length<=128:=by
 have h1:=Bu cs dh y
 have h2:(ku y ((cs.zip (dh.getD y [])).take z)).length<=cs.length:=by
  unfold ku;rw[List.length_map]
  exact Nat.le_trans (List.length_filter_le _ _) (by rw[List.length_take,List.length_zip];omega)
 unfold lK
 rw[List.length_append]
 have h3:(y+1)*cs.length<=T*cs.length:=Nat.mul_le_mul_right _ hy
 rw[Nat.add_mul,Nat.one_mul] at h3
 omega
theorem xF {cs:List jI} {dh:List (List Rat)} {y z:Nat} {k:jI} {x:Rat} (h1:cs[z]? =some k) (h2:(dh.getD y [])[z]? =some x):lK cs dh y (z+1)=lK cs dh y z++(if wv (k,x)=true then [qq y (k,x)] else []):=by
 unfold lK
 rw[Dm (p:=(k,x)) (List.getElem?_zip_eq_some.2 ⟨h1,h2⟩),List.append_assoc]
set_option maxRecDepth 4000 in
theorem aOf_any (v u:Value) (e:Int) (cs:List jI) (ts:List (List (List Rat))) (kk:Nat) (w:World) (hv:cf (oQ kk) 6 w v cs) (hu:cf (wx kk) 1 w u ts) (hk:kk<=64) (hn:cs.length<=64) (hd:ts.length*cs.length<=128\/40<ts.length):
  Calls Tryz.prog 10 #[v,.int .i64 e,u] w λo w'=>∃ r,o=.returned (.tuple #[r,.int .i64 (rI cs e ts)])/\gI (sH AK) 28 49 w.heap.size w' r (tH cs e ts)/\ax w w':=by
 obtain⟨p,c,rfl,dk,dY⟩:=hv.form
 obtain⟨p2,c2,rfl,hnc2,hcm2⟩:=hu.form
 obtain⟨N,hN⟩:∃ N,N=cs.length:=⟨_,rfl⟩
 obtain⟨T,hT⟩:∃ T,T=ts.length:=⟨_,rfl⟩
 rw[<-hN] at hv dk hn hd
 rw[<-hT] at hu hnc2 hd
 rw[<-hN,<-hT]
 refine ae (C:=aR Tryz.prog w _) (args:=[_,_,_]) Tryz.func10 rfl Tryz.ntmps10 (bt rfl) ?_
 refine ab ?_
 refine VO.call rfl rfl (fk Tryz.func33) (λaK bn aU=>(KH _ _ e cs ts kk aK (hv.bq (lJ kk) aU) (hu.Dn (EA kk) aU) aa).mono ?_)
 rintro o w1 ⟨rfl,aC⟩
 by_cases hm:rI cs e ts≠0
 ·refine aB aC ?_
  intro bL _ bb1
  refine VS.bo rfl (bne_y hm) ?_
  refine ab ?_
  refine az ?_;intro wz kz bz
  exact⟨_,rfl,.inl ⟨rfl,by unfold tH;rw[if_neg hm]⟩,bz⟩
 replace hm:rI cs e ts=0:=Decidable.byContradiction hm
 have harr:tH cs e ts=kx cs (ts.map λt=>t.getD e.toNat []):=if_pos hm
 obtain⟨hT40,he0,lX,hyr⟩:=amay_ok hm
 rw[hm,harr]
 rw[<-hN] at lX
 rw[<-hT] at hT40
 have hTN:T*N<=128:=hd.resolve_right aa
 obtain⟨dh,hxss⟩:∃ dh:List (List Rat),dh=ts.map (λt=>t.getD e.toNat []):=⟨_,rfl⟩
 rw[<-hxss]
 have dK:dh.length=T:=by rw[hxss,List.length_map,hT]
 have hxa:∀ y t,ts[y]? =some t->dh.getD y []=t.getD e.toNat []:=λy t h=>by rw[hxss,List.getD_eq_getElem?_getD,List.getElem?_map,h];rfl
 refine aB aC ?_
 intro bL _ bb1
 refine VO.callB (t:=175) (cs:=[.slice none 0 0]) rfl rfl rfl (bt rfl) (bt rfl) rfl rfl (λaZ β bI bu ho=>⟨fk Tryz.func34,(Kt aZ).mono ?_⟩)
 rintro o w2 ⟨g2,rfl,hg2,oJ,aQ⟩
 refine⟨g2,rfl,aQ,hg2,oJ,λcH _ bb2=>wV rfl ?_⟩
 refine ab ?_
 refine VS.loop (J:=λm L M w'=>∃ (y:Nat) (Xo Xl:AV) (Mo Ml:List (Nat×(TypeId×List AV))),y<=T/\m=T-y/\L=[(0,.val (.slice p N c)),(1,.val (.int .i64 e)),(9,Xo),(10,.box 24 0),(25,.val (.slice p2 T c2)),(26,.val (.int .i64 (T:Int))),(27,.val (.int .i64 (y:Int)))]/\
  M=(24,(175,[Xl]))::(Ml++Mo)/\fG (sH AK) 28 49 96 Xo Mo w' ((kx cs dh).take y)/\vC (bF kk) 120 Xl Ml w' (dy (eL cs dh y))) T ⟨_,_,?_,?_,?_,?_,⟨0,_,_,[],[],by omega,rfl,rfl,rfl,.inl ⟨rfl,rfl,rfl⟩,.inl ⟨rfl,rfl,rfl⟩⟩⟩ ?_
 ·exact dX
 ·exact dX
 ·rfl
 ·exact ll
 rintro m L M wJ ⟨y,Xo,Xl,Mo,Ml,hy,rfl,rfl,rfl,hO,hL⟩
 refine VS.mask [12,16,35,51,95] (by rcases hO with ⟨_,_,rfl⟩|⟨_,_,_,_,_,rfl,_⟩ <;> rcases hL with ⟨_,_,rfl⟩|⟨_,_,_,_,_,rfl,_⟩ <;> (repeat first|exact trivial|refine⟨rfl,?_⟩)) ?_
 refine ab ?_
 by_cases hlt:y<T
 ·obtain⟨t,ht⟩:∃ t,ts[y]? =some t:=⟨_,List.getElem?_eq_getElem aa⟩
  obtain⟨b,off,fM,rfl,hc,⟨tv,rfl,htv⟩⟩:=hu.at ht
  obtain⟨pt,ct,rfl⟩:=htv.sl
  obtain⟨jK,kG⟩:=lX t (List.mem_of_getElem? ht)
  have BD:=hxa y t ht
  obtain⟨xs,DX⟩:∃ xs,t[e.toNat]? =some xs:=⟨_,List.getElem?_eq_getElem jK⟩
  have hxy':dh.getD y []=xs:=by rw[BD,List.getD_eq_getElem?_getD,DX];rfl
  have hxn:xs.length=N:=by rw[<-kG,List.getD_eq_getElem?_getD,DX];rfl
  refine VS.bo rfl (decide_eq_true (Int.ofNat_lt.2 hlt)) ?_
  refine ab ?_
  refine VO.cond rfl fw ?_
  refine wV rfl ?_
  refine ab ?_
  refine VO.read rfl [.slice pt t.length ct] rfl (λj u hj=>by rw[Addr.add_mid,Int.toNat_natCast];exact hc j u hj) (wV rfl ?_)
  refine ab ?_
  apply VO.via (P:=Entry (λm L M w'=>∃ (z:Nat) (Xi Xl Xt:AV) (Mi Ml Mt:List (Nat×(TypeId×List AV))),z<=N/\m=N-z/\L=[(0,.val (.slice p N c)),(1,.val (.int .i64 e)),(9,Xo),(10,.box 24 0),(11,.val (.int .i64 (y:Int))),(13,Xi),(25,.val (.slice (some ⟨b,off,none⟩) T c2)),(26,.val (.int .i64 (T:Int))),(27,.val (.int .i64 (y:Int))),(35,Xt),(36,.val (.int .i64 (N:Int))),(37,.val (.int .i64 (z:Int)))]/\
   M=(24,(175,[Xl]))::(Mt++(Mi++(Ml++Mo)))/\fG (qm (bF kk)) 9 101 35 Xt Mt w' (cb cs xs)/\fG (qm (bF kk)) 9 44 51 Xi Mi w' ((cb cs xs).take z)/\fG (sH AK) 28 49 96 Xo Mo w' ((kx cs dh).take y)/\vC (bF kk) 120 Xl Ml w' (dy (lK cs dh y z))) N)
  ·intro cont
   have IE:(cb cs xs).length=N:=by unfold cb;rw[List.length_map,List.length_zip];omega
   refine VO.callX (dV (bF kk)) (dst:=35) (t:=101) (es:=cb cs xs) rfl rfl rfl (bt rfl) (bt rfl) rfl (λck β cJ da ho=>⟨fk Tryz.func35,(Dv _ _ cs xs t e kk ck (hN▸hv.bq (lJ kk) da) (htv.Dn (KF kk) da) he0 DX aa aa aa).mono ?_⟩)
   rintro o w3 ⟨r3,rfl,q3,bM⟩
   refine⟨_,rfl,bM,q3,λk3 k3' b3 dZ=>wV rfl ?_,λcap3 vs3 sp3 k3 k3' b3 el3 ok3 le3 cm3 fl3=> ?_⟩
   ·have hN0:N=0:=by rw[<-IE,dZ];rfl
    refine ab ?_
    refine cont _ _ _ ⟨_,_,?_,?_,?_,?_,⟨0,_,Xl,_,[],Ml,[],by omega,rfl,rfl,rfl,.inl ⟨dZ,rfl,rfl⟩,.inl ⟨rfl,rfl,rfl⟩,hO.kp (fo AK) bG,?_⟩⟩
    ·refine⟨rfl,rfl,rfl,rfl,rfl,rfl,rfl,rfl,rfl,rfl,?_,rfl,trivial⟩
     rw[hN0];rfl
    ·rcases hO with ⟨_,rfl,rfl⟩|⟨_,_,_,_,rfl,rfl,_⟩ <;> rcases hL with ⟨_,rfl,rfl⟩|⟨_,_,_,_,rfl,rfl,_⟩ <;> (repeat first|exact trivial|refine⟨rfl,?_⟩|refine⟨congrArg (λl=>some (_,l)) (bT (by first|exact cg.cX (by assumption)|exact af _|(rw[<-List.map_append];exact af _)) _ _),?_⟩)
    ·rcases hO with ⟨_,rfl,rfl⟩|⟨_,_,_,_,rfl,rfl,_⟩ <;> rcases hL with ⟨_,rfl,rfl⟩|⟨_,_,_,_,rfl,rfl,_⟩ <;> rfl
    ·rcases hO with ⟨_,rfl,rfl⟩|⟨_,_,_,_,rfl,rfl,_⟩ <;> rcases hL with ⟨_,rfl,rfl⟩|⟨_,_,_,_,rfl,rfl,_⟩ <;> (repeat first|exact trivial|refine⟨aq.lit rfl,?_⟩|refine⟨cg.vd (by assumption),?_⟩|refine⟨aq.append (.vals _) (.vals _),?_⟩|refine⟨aq.vals _,?_⟩)
    ·rw[show lK cs dh y 0=eL cs dh y from List.append_nil _];exact hL.kp bG
   ·rw[IE] at le3 ⊢
    refine wV rfl ?_
    refine ab ?_
    have hNt:cg (qm (bF kk)) 9 w3 N cap3 vs3 (sp3.map .val) (cb cs xs):=⟨IE.symm,el3,cQ ok3,af _,le3,cm3,by rw[<-List.map_append,List.length_map];exact fl3⟩
    refine cont _ _ _ ⟨_,_,?_,?_,?_,?_,⟨0,_,Xl,_,[],Ml,_,by omega,rfl,rfl,rfl,.inr ⟨N,cap3,vs3,sp3.map .val,rfl,rfl,hNt⟩,.inl ⟨rfl,rfl,rfl⟩,hO.kp (fo AK) bG,?_⟩⟩
    ·exact dX
    ·rcases hO with ⟨_,rfl,rfl⟩|⟨_,_,_,_,rfl,rfl,_⟩ <;> rcases hL with ⟨_,rfl,rfl⟩|⟨_,_,_,_,rfl,rfl,_⟩ <;> (repeat first|exact trivial|refine⟨rfl,?_⟩|refine⟨congrArg (λl=>some (_,l)) (bT (by first|exact cg.cX (by assumption)|exact af _|(rw[<-List.map_append];exact af _)) _ _),?_⟩)
    ·rcases hO with ⟨_,rfl,rfl⟩|⟨_,_,_,_,rfl,rfl,_⟩ <;> rcases hL with ⟨_,rfl,rfl⟩|⟨_,_,_,_,rfl,rfl,_⟩ <;> rfl
    ·rcases hO with ⟨_,rfl,rfl⟩|⟨_,_,_,_,rfl,rfl,_⟩ <;> rcases hL with ⟨_,rfl,rfl⟩|⟨_,_,_,_,rfl,rfl,_⟩ <;> (repeat first|exact trivial|refine⟨aq.lit rfl,?_⟩|refine⟨cg.vd (by assumption),?_⟩|refine⟨aq.append (.vals _) (.vals _),?_⟩|refine⟨aq.vals _,?_⟩)
    ·rw[show lK cs dh y 0=eL cs dh y from List.append_nil _];exact hL.kp bG
  ·clear hO hL
   intro F0 H0 w0' hent
   refine VS.loop N hent ?_
   rintro m L M wK ⟨z,Xi,Xl,Xt,Mi,Ml,Mt,hz,rfl,rfl,rfl,Dw,hI,hO,hL⟩
   refine VS.mask [15,16,50,95] (by rcases Dw with ⟨_,rfl,rfl⟩|⟨_,_,_,_,rfl,rfl,_⟩ <;> rcases hI with ⟨_,rfl,rfl⟩|⟨_,_,_,_,rfl,rfl,_⟩ <;> rcases hO with ⟨_,rfl,rfl⟩|⟨_,_,_,_,rfl,rfl,_⟩ <;> rcases hL with ⟨_,rfl,rfl⟩|⟨_,_,_,_,rfl,rfl,_⟩ <;> (repeat first|exact trivial|refine⟨rfl,?_⟩)) ?_
   have IE:(cb cs xs).length=N:=by unfold cb;rw[List.length_map,List.length_zip];omega
   refine ab ?_
   by_cases hzt:z<N
   ·obtain⟨k,jF⟩:∃ k,cs[z]? =some k:=⟨_,List.getElem?_eq_getElem aa⟩
    obtain⟨x,hk2⟩:∃ x,xs[z]? =some x:=⟨_,List.getElem?_eq_getElem aa⟩
    have yH:=xD jF hk2
    rcases Dw with ⟨dZ,rfl,rfl⟩|⟨nt,ct2,vst,spt,rfl,rfl,hNt⟩
    ·rw[dZ] at IE;exact absurd IE.symm (by simp;omega)
    have hntl:=hNt.len
    rw[IE] at hntl
    obtain⟨csI,hcs1,⟨s1,p1,n1,c1,t1,y1,m1,d1,s5,p5,n5,c5,t5,y5,m5,d5,rfl,Dq,hiA,hiX⟩,hcs3,hcell⟩:=hNt.cell (dV (bF kk)) yH
    refine VS.bo rfl (decide_eq_true (Int.ofNat_lt.2 hzt)) ?_
    refine ab ?_
    refine VO.cond rfl fw ?_
    refine wV rfl ?_
    refine ab ?_
    refine VO.iw rfl (([.int .u8 (k.1:Int),.bool s1,.slice p1 n1 c1,.bool t1,.slice y1 m1 d1,.bool s5,.slice p5 n5 c5,.bool t5,.slice y5 m5 d5]:List Value).map .val) rfl (hcell 0 _ ⟨[],rfl⟩) (wV rfl ?_)
    refine ab ?_
    apply VO.join (P:=Entry (λ_ L M w'=>∃ (Xi:AV) (Mi:List (Nat×(TypeId×List AV))),L=[(0,.val (.slice p N c)),(1,.val (.int .i64 e)),(9,Xo),(10,.box 24 0),(11,.val (.int .i64 (y:Int))),(13,Xi),(14,.val (.int .i64 (z:Int))),(15,.box 15 0),(25,.val (.slice (some ⟨b,off,none⟩) T c2)),(26,.val (.int .i64 (T:Int))),(27,.val (.int .i64 (y:Int))),(35,.row 35 0 nt ct2),(36,.val (.int .i64 (N:Int))),(37,.val (.int .i64 (z:Int)))]/\
     M=(24,(175,[Xl]))::(15,(101,([.int .u8 (k.1:Int),.bool s1,.slice p1 n1 c1,.bool t1,.slice y1 m1 d1,.bool s5,.slice p5 n5 c5,.bool t5,.slice y5 m5 d5]:List Value).map .val))::(35,(101,vst.flatten.map .val++spt))::(Mi++(Ml++Mo))/\fG (qm (bF kk)) 9 44 51 Xi Mi w' ((cb cs xs).take (z+1))/\Kp UU wK w') 0)
    ·intro cont
     have KJ:qm (bF kk) wK [.int .u8 (k.1:Int),.bool s1,.slice p1 n1 c1,.bool t1,.slice y1 m1 d1,.bool s5,.slice p5 n5 c5,.bool t5,.slice y5 m5 d5] (k.1,k.2,x):=⟨_,_,_,_,_,_,_,_,_,_,_,_,_,_,_,_,rfl,Dq,hiA,hiX⟩
     rcases hI with ⟨dZ,rfl,rfl⟩|⟨n',c',vs,sp,rfl,rfl,qu⟩
     ·refine VO.sn (bQ _ _) (dV (bF kk)) (t:=36) (e:=44) (s:=50) (a:=(k.1,k.2,x)) (cs:=[.int .u8 (k.1:Int),.bool s1,.slice p1 n1 c1,.bool t1,.slice y1 m1 d1,.bool s5,.slice p5 n5 c5,.bool t5,.slice y5 m5 d5]) rfl rfl rfl rfl rfl rfl rfl rfl (bt rfl) rfl (by rcases hO with ⟨_,rfl,rfl⟩|⟨_,_,_,_,rfl,rfl,_⟩ <;> rcases hL with ⟨_,rfl,rfl⟩|⟨_,_,_,_,rfl,rfl,_⟩ <;> rfl) rfl KJ aa (λw8 cap sp k8 b8 nM=>wV rfl (wN ?_))
      refine cont _ _ _ ⟨_,_,?_,?_,?_,?_,⟨_,_,rfl,rfl,.inr ⟨1,cap,_,sp,rfl,rfl,by rw[aF yH,dZ];exact nM⟩,bG⟩⟩
      ·rcases hO with ⟨_,rfl,rfl⟩|⟨_,_,_,_,rfl,rfl,_⟩ <;> rcases hL with ⟨_,rfl,rfl⟩|⟨_,_,_,_,rfl,rfl,_⟩ <;> (repeat first|exact trivial|refine⟨rfl,?_⟩)
      ·rcases hO with ⟨_,rfl,rfl⟩|⟨_,_,_,_,rfl,rfl,_⟩ <;> rcases hL with ⟨_,rfl,rfl⟩|⟨_,_,_,_,rfl,rfl,_⟩ <;> (repeat first|exact trivial|refine⟨rfl,?_⟩|refine⟨congrArg (λl=>some (_,l)) (bT (by first|exact cg.cX (by assumption)|exact af _|(rw[<-List.map_append];exact af _)) _ _),?_⟩)
      ·rcases hO with ⟨_,rfl,rfl⟩|⟨_,_,_,_,rfl,rfl,_⟩ <;> rcases hL with ⟨_,rfl,rfl⟩|⟨_,_,_,_,rfl,rfl,_⟩ <;> rfl
      ·rcases hO with ⟨_,rfl,rfl⟩|⟨_,_,_,_,rfl,rfl,_⟩ <;> rcases hL with ⟨_,rfl,rfl⟩|⟨_,_,_,_,rfl,rfl,_⟩ <;> (repeat first|exact trivial|refine⟨aq.lit rfl,?_⟩|refine⟨cg.vd (by assumption),?_⟩|refine⟨aq.append (.vals _) (.vals _),?_⟩|refine⟨aq.vals _,?_⟩)
     ·have oX:=qu.len
      rw[List.length_take] at oX
      refine VO.sq (bQ _ _) (dV (bF kk)) (t:=36) (e:=44) (s:=50) (i:=51) (n:=n') (c:=c') (vs:=vs) (sp:=sp) (es:=(cb cs xs).take z) (a:=(k.1,k.2,x)) (cs:=[.int .u8 (k.1:Int),.bool s1,.slice p1 n1 c1,.bool t1,.slice y1 m1 d1,.bool s5,.slice p5 n5 c5,.bool t5,.slice y5 m5 d5]) rfl rfl rfl rfl rfl rfl rfl rfl (bt rfl) rfl (.inr rfl) rfl (qu.kp (dV (bF kk)) bG) rfl KJ aa (λw8 oT xt ρ k8 b8 eH nM=>wV rfl (wN ?_))
      refine cont _ _ _ ⟨_,_,?_,?_,?_,?_,⟨_,_,rfl,rfl,.inr ⟨n' +1,oT,_,xt,rfl,rfl,by rw[aF yH];exact nM⟩,bG⟩⟩
      ·rcases hO with ⟨_,rfl,rfl⟩|⟨_,_,_,_,rfl,rfl,_⟩ <;> rcases hL with ⟨_,rfl,rfl⟩|⟨_,_,_,_,rfl,rfl,_⟩ <;> (repeat first|exact trivial|refine⟨rfl,?_⟩)
      ·rcases hO with ⟨_,rfl,rfl⟩|⟨_,_,_,_,rfl,rfl,_⟩ <;> rcases hL with ⟨_,rfl,rfl⟩|⟨_,_,_,_,rfl,rfl,_⟩ <;> (repeat first|exact trivial|refine⟨rfl,?_⟩|refine⟨congrArg (λl=>some (_,l)) (bT (by first|exact cg.cX (by assumption)|exact af _|(rw[<-List.map_append];exact af _)) _ _),?_⟩)
      ·rcases hO with ⟨_,rfl,rfl⟩|⟨_,_,_,_,rfl,rfl,_⟩ <;> rcases hL with ⟨_,rfl,rfl⟩|⟨_,_,_,_,rfl,rfl,_⟩ <;> rfl
      ·rcases hO with ⟨_,rfl,rfl⟩|⟨_,_,_,_,rfl,rfl,_⟩ <;> rcases hL with ⟨_,rfl,rfl⟩|⟨_,_,_,_,rfl,rfl,_⟩ <;> (repeat first|exact trivial|refine⟨aq.lit rfl,?_⟩|refine⟨cg.vd (by assumption),?_⟩|refine⟨aq.append (.vals _) (.vals _),?_⟩|refine⟨aq.vals _,?_⟩)
    ·clear hI
     rintro F1 H1 w1' ⟨_,_,h1,h2,h3,h4,Xi',Mi',rfl,rfl,hI,hkp⟩
     refine VS.narrow _ _ h1 h2 h3 h4 ?_
     clear h1 h2 h3 h4 F1 H1
     refine ab ?_
     by_cases h6:k.1=6
     ·have hdef:wv (k,x)=true:=by unfold wv;rw[show (k,x).1.1=6 from h6];rfl
      have hyrs:1<=ji k.2:=hyr k (List.mem_of_getElem? jF) h6
      have hwell:cL (qq y (k,x)).exp=false:=rJ aa hyrs
      have KA:lK cs dh y (z+1)=lK cs dh y z++[qq y (k,x)]:=by rw[xF jF (by rw[hxy'];exact hk2),if_pos hdef]
      have hput:gg (dy (lK cs dh y z)) (qq y (k,x))=dy (lK cs dh y (z+1)):=by rw[KA];exact Hh aa hyrs
      have xB:(if cL (bU.exp (qq y (k,x)))=true then (2:Int) else 0)=0:=if_neg (by rw[hwell];simp)
      have EB:(dy (lK cs dh y z)).length<=128:=Nat.le_trans (sI _) (Bw hlt (hN▸hTN))
      have hayl:=Ez k.2
      obtain⟨bC,oC,csC,rfl,hcC,hEC⟩:=hv.at jF
      have hEC':=hEC
      obtain⟨nm,sC,pC,nC,cC,tC,yC,mC,dC,rfl,-,-⟩:=hEC'
      refine VS.bo rfl (beq_y (show (k.1:Int)=6 by omega)) ?_
      (repeat (first|refine wN ?_|refine wP rfl ?_|refine FH rfl ?_|refine wO rfl rfl ?_))
      refine VS.draw (bQ _ _) (mO _ _) [36+1000000] (by kernel_rfl) ?_
      refine wV rfl ?_
      refine VO.cond rfl fw ?_
      refine wV rfl ?_
      refine ab ?_
      refine VO.read rfl [.string nm,.int .u8 (k.1:Int),.bool sC,.slice pC nC cC,.bool tC,.slice yC mC dC] rfl (eh hcC 0 _ ⟨[],rfl⟩) (wV rfl ?_)
      refine ab ?_
      refine VO.cB rfl rfl (fk Tryz.func37) (λdW eT fD=>vA _ k kk dW ((lJ kk).b hEC fD) aa) (λdW eT fD w4 fb iK _ oY=>wV rfl ?_)
      refine ab ?_
      refine VO.cR rfl rfl (fk Tryz.func11) (λfv gh gv=>bK 0 fv aa aa) (λfv gh gv w5 s5 p5 n5 c5 t5 y5 m5 d5 q5 gW ky _ tt=>wV rfl ?_)
      refine ab ?_
      refine VO.cR rfl rfl (fk Tryz.func13) (λlR lZ qJ=>df _ _ x ((0:Int):Rat) (bF kk) 1 lR (hiX.kp bG) (q5.ki bS.zero) (by unfold bF;omega) aa) (λlR lZ qJ w6 s6 p6 n6 c6 t6 y6 m6 d6 q6 oG qK _ yL=>wV rfl ?_)
      refine ab ?_
      have q6':aX w6 (.agg #[.bool s6,.slice p6 n6 c6,.bool t6,.slice y6 m6 d6]) x:=q6.rd.cast (by rw[show ((0:Int):Rat)=0 from rfl,Rat.add_zero])
      have eW:=q6'.raw
      have hxz:=hiX.oZ
      have hxz':bS x (bF kk):=hxz.mono (by unfold bF;omega)
      rcases hL with ⟨dZ,rfl,rfl⟩|⟨nl,cl,vl,spl,rfl,rfl,vN,vH,hl3,hl4,hl5,hl6⟩
      ·rw[dZ] at hput
       refine VO.Kz (d1:=24) (d2:=120) (y:=(y:Int)) (z:=(ji k.2:Int)) (s:=decide (x.num<0)) (xs:=limbs x.num.natAbs) (t:=decide ((x.den:Int)<0)) (ys:=limbs (x.den:Int).natAbs) (bF kk) (code:=0) (l':=dy (lK cs dh y (z+1))) xB hput rfl rfl (fk Tryz.func36) rfl (by rcases hI with ⟨_,rfl,rfl⟩|⟨_,_,_,_,rfl,rfl,_⟩ <;> rcases hO with ⟨_,rfl,rfl⟩|⟨_,_,_,_,rfl,rfl,_⟩ <;> rfl) ff (bt rfl) (bt rfl) rfl (λw1 k1 b1=>eW.k) ⟨by omega,by omega⟩ ⟨by omega,by omega⟩ hxz'.1 hxz'.2 (by unfold bF;omega) (λw7 k7 b7 hnil7=>wV rfl ?_) (λw7 n7 c7 vs7 sp7 k7 b7 h0 h1 h2 h3 h4 h5 h6=>wV rfl ?_)
       ·refine ab ?_
        refine VS.back (N-(z+1)) aa ⟨_,_,?_,?_,?_,?_,⟨z+1,Xi',.val (.slice none 0 0),.row 35 0 nt ct2,Mi',[],[(35,_)],by omega,rfl,rfl,rfl,.inr ⟨nt,ct2,vst,spt,rfl,rfl,hNt.kp (dV (bF kk)) bG⟩,hI.kp (dV (bF kk)) bG,hO.kp (fo AK) bG,.inl ⟨hnil7,rfl,rfl⟩⟩⟩
        ·rcases hI with ⟨_,rfl,rfl⟩|⟨_,_,_,_,rfl,rfl,_⟩ <;> rcases hO with ⟨_,rfl,rfl⟩|⟨_,_,_,_,rfl,rfl,_⟩ <;> (refine⟨rfl,rfl,rfl,rfl,rfl,rfl,rfl,rfl,rfl,rfl,rfl,?_,trivial⟩;rw[<-bD (i:=z) aa];rfl)
        ·rcases hI with ⟨_,rfl,rfl⟩|⟨_,_,_,_,rfl,rfl,_⟩ <;> rcases hO with ⟨_,rfl,rfl⟩|⟨_,_,_,_,rfl,rfl,_⟩ <;> (repeat first|exact trivial|refine⟨rfl,?_⟩|refine⟨congrArg (λl=>some (_,l)) (bT (by first|exact cg.cX (by assumption)|exact af _|(rw[<-List.map_append];exact af _)) _ _),?_⟩)
        ·rcases hI with ⟨_,rfl,rfl⟩|⟨_,_,_,_,rfl,rfl,_⟩ <;> rcases hO with ⟨_,rfl,rfl⟩|⟨_,_,_,_,rfl,rfl,_⟩ <;> rfl
        ·rcases hI with ⟨_,rfl,rfl⟩|⟨_,_,_,_,rfl,rfl,_⟩ <;> rcases hO with ⟨_,rfl,rfl⟩|⟨_,_,_,_,rfl,rfl,_⟩ <;> (repeat first|exact trivial|refine⟨aq.lit rfl,?_⟩|refine⟨cg.vd (by assumption),?_⟩|refine⟨aq.append (.vals _) (.vals _),?_⟩|refine⟨aq.vals _,?_⟩)
       ·refine ab ?_
        refine VS.back (N-(z+1)) aa ⟨_,_,?_,?_,?_,?_,⟨z+1,Xi',.row 120 0 n7 c7,.row 35 0 nt ct2,Mi',[(120,_)],[(35,_)],by omega,rfl,rfl,rfl,.inr ⟨nt,ct2,vst,spt,rfl,rfl,hNt.kp (dV (bF kk)) bG⟩,hI.kp (dV (bF kk)) bG,hO.kp (fo AK) bG,.inr ⟨n7,c7,vs7,sp7,rfl,rfl,h1,h2,h3,h4,h5,h6⟩⟩⟩
        ·rcases hI with ⟨_,rfl,rfl⟩|⟨_,_,_,_,rfl,rfl,_⟩ <;> rcases hO with ⟨_,rfl,rfl⟩|⟨_,_,_,_,rfl,rfl,_⟩ <;> (refine⟨rfl,rfl,rfl,rfl,rfl,rfl,rfl,rfl,rfl,rfl,rfl,?_,trivial⟩;rw[<-bD (i:=z) aa];rfl)
        ·rcases hI with ⟨_,rfl,rfl⟩|⟨_,_,_,_,rfl,rfl,_⟩ <;> rcases hO with ⟨_,rfl,rfl⟩|⟨_,_,_,_,rfl,rfl,_⟩ <;> (repeat first|exact trivial|refine⟨rfl,?_⟩|refine⟨congrArg (λl=>some (_,l)) (bT (by first|exact cg.cX (by assumption)|exact af _|(rw[<-List.map_append];exact af _)) _ _),?_⟩)
        ·rcases hI with ⟨_,rfl,rfl⟩|⟨_,_,_,_,rfl,rfl,_⟩ <;> rcases hO with ⟨_,rfl,rfl⟩|⟨_,_,_,_,rfl,rfl,_⟩ <;> rfl
        ·rcases hI with ⟨_,rfl,rfl⟩|⟨_,_,_,_,rfl,rfl,_⟩ <;> rcases hO with ⟨_,rfl,rfl⟩|⟨_,_,_,_,rfl,rfl,_⟩ <;> (repeat first|exact trivial|refine⟨aq.lit rfl,?_⟩|refine⟨cg.vd (by assumption),?_⟩|refine⟨aq.append (.vals _) (.vals _),?_⟩|refine⟨aq.vals _,?_⟩)
      ·refine VO.KB (d1:=24) (d2:=120) (y:=(y:Int)) (z:=(ji k.2:Int)) (s:=decide (x.num<0)) (xs:=limbs x.num.natAbs) (t:=decide ((x.den:Int)<0)) (ys:=limbs (x.den:Int).natAbs) (bF kk) (code:=0) (l':=dy (lK cs dh y (z+1))) xB hput rfl rfl (fk Tryz.func36) rfl (by rcases hI with ⟨_,rfl,rfl⟩|⟨_,_,_,_,rfl,rfl,_⟩ <;> rcases hO with ⟨_,rfl,rfl⟩|⟨_,_,_,_,rfl,rfl,_⟩ <;> rfl) ff (bt rfl) (bt rfl) vN (vH.kp (il (bF kk)) bG) hl3 hl4 hl5 hl6 (λ_ h=>h) (λt ht=>kp_fz ht) (λw1 k1 b1=>eW.k) ⟨by omega,by omega⟩ ⟨by omega,by omega⟩ hxz'.1 hxz'.2 (by unfold bF;omega) aa (λw7 n7 c7 vs7 sp7 ρ k7 b7 eH h1 h2 h3 h4 h5 h6=>wV rfl ?_)
       refine ab ?_
       refine VS.back (N-(z+1)) aa ⟨_,_,?_,?_,?_,?_,⟨z+1,Xi',.row 120 0 n7 c7,.row 35 0 nt ct2,Mi',[(120,_)],[(35,_)],by omega,rfl,rfl,rfl,.inr ⟨nt,ct2,vst,spt,rfl,rfl,hNt.kp (dV (bF kk)) bG⟩,hI.kp (dV (bF kk)) bG,hO.kp (fo AK) bG,.inr ⟨n7,c7,vs7,sp7,rfl,rfl,h1,h2,h3,h4,h5,h6⟩⟩⟩
       ·rcases hI with ⟨_,rfl,rfl⟩|⟨_,_,_,_,rfl,rfl,_⟩ <;> rcases hO with ⟨_,rfl,rfl⟩|⟨_,_,_,_,rfl,rfl,_⟩ <;> (refine⟨rfl,rfl,rfl,rfl,rfl,rfl,rfl,rfl,rfl,rfl,rfl,?_,trivial⟩;rw[<-bD (i:=z) aa];rfl)
       ·rcases hI with ⟨_,rfl,rfl⟩|⟨_,_,_,_,rfl,rfl,_⟩ <;> rcases hO with ⟨_,rfl,rfl⟩|⟨_,_,_,_,rfl,rfl,_⟩ <;> (repeat first|exact trivial|refine⟨rfl,?_⟩|refine⟨congrArg (λl=>some (_,l)) (bT (by first|exact cg.cX (by assumption)|exact af _|(rw[<-List.map_append];exact af _)) _ _),?_⟩)
       ·rcases hI with ⟨_,rfl,rfl⟩|⟨_,_,_,_,rfl,rfl,_⟩ <;> rcases hO with ⟨_,rfl,rfl⟩|⟨_,_,_,_,rfl,rfl,_⟩ <;> rfl
       ·rcases hI with ⟨_,rfl,rfl⟩|⟨_,_,_,_,rfl,rfl,_⟩ <;> rcases hO with ⟨_,rfl,rfl⟩|⟨_,_,_,_,rfl,rfl,_⟩ <;> (repeat first|exact trivial|refine⟨aq.lit rfl,?_⟩|refine⟨cg.vd (by assumption),?_⟩|refine⟨aq.append (.vals _) (.vals _),?_⟩|refine⟨aq.vals _,?_⟩)
     ·have hdef:¬ wv (k,x)=true:=by unfold wv;intro h;exact h6 (eq_of_beq h)
      have KA:lK cs dh y (z+1)=lK cs dh y z:=by rw[xF jF (by rw[hxy'];exact hk2),if_neg hdef,List.append_nil]
      refine VS.bB rfl (JZ (show (k.1:Int)≠6 by omega)) ?_
      refine ab ?_
      refine VS.back (N-(z+1)) aa ⟨_,_,?_,?_,?_,?_,⟨z+1,Xi',Xl,.row 35 0 nt ct2,Mi',Ml,[(35,_)],by omega,rfl,rfl,rfl,.inr ⟨nt,ct2,vst,spt,rfl,rfl,hNt.kp (dV (bF kk)) bG⟩,hI.kp (dV (bF kk)) bG,hO.kp (fo AK) bG,by rw[KA];exact hL.kp bG⟩⟩
      ·rcases hI with ⟨_,rfl,rfl⟩|⟨_,_,_,_,rfl,rfl,_⟩ <;> rcases hO with ⟨_,rfl,rfl⟩|⟨_,_,_,_,rfl,rfl,_⟩ <;> rcases hL with ⟨_,rfl,rfl⟩|⟨_,_,_,_,rfl,rfl,_⟩ <;> (refine⟨rfl,rfl,rfl,rfl,rfl,rfl,rfl,rfl,rfl,rfl,rfl,?_,trivial⟩;rw[<-bD (i:=z) aa];rfl)
      ·rcases hI with ⟨_,rfl,rfl⟩|⟨_,_,_,_,rfl,rfl,_⟩ <;> rcases hO with ⟨_,rfl,rfl⟩|⟨_,_,_,_,rfl,rfl,_⟩ <;> rcases hL with ⟨_,rfl,rfl⟩|⟨_,_,_,_,rfl,rfl,_⟩ <;> (repeat first|exact trivial|refine⟨rfl,?_⟩|refine⟨congrArg (λl=>some (_,l)) (bT (by first|exact cg.cX (by assumption)|exact af _|(rw[<-List.map_append];exact af _)) _ _),?_⟩)
      ·rcases hI with ⟨_,rfl,rfl⟩|⟨_,_,_,_,rfl,rfl,_⟩ <;> rcases hO with ⟨_,rfl,rfl⟩|⟨_,_,_,_,rfl,rfl,_⟩ <;> rcases hL with ⟨_,rfl,rfl⟩|⟨_,_,_,_,rfl,rfl,_⟩ <;> rfl
      ·rcases hI with ⟨_,rfl,rfl⟩|⟨_,_,_,_,rfl,rfl,_⟩ <;> rcases hO with ⟨_,rfl,rfl⟩|⟨_,_,_,_,rfl,rfl,_⟩ <;> rcases hL with ⟨_,rfl,rfl⟩|⟨_,_,_,_,rfl,rfl,_⟩ <;> (repeat first|exact trivial|refine⟨aq.lit rfl,?_⟩|refine⟨cg.vd (by assumption),?_⟩|refine⟨aq.append (.vals _) (.vals _),?_⟩|refine⟨aq.vals _,?_⟩)
   ·refine VS.bB rfl (decide_eq_false (λe=>hzt (Int.ofNat_lt.1 e))) ?_
    obtain rfl:z=N:=by omega
    rw[List.take_of_length_le aa] at hI
    have hlN:lK cs dh y z=eL cs dh (y+1):=by
     unfold lK
     rw[List.take_of_length_le (by rw[List.length_zip,hxy'];omega)];rfl
    have EB:(dy (eL cs dh (y+1))).length<=128:=hlN▸Nat.le_trans (sI _) (Bw hlt (hN▸hTN))
    rw[hlN] at hL
    have hlw:∀ e∈dy (eL cs dh (y+1)),cL e.exp=false:=λe he=>xE hyr (y+1) aa e (List.mem_filter.1 he).1
    have yg:bF kk<=64:=by unfold bF;omega
    have hu0:1<=bF kk:=by unfold bF;omega
    have hrs:gL (bF kk) (cb cs xs).length<=13000:=by
     rw[IE]
     have:z*(3*bF kk+2)<=64*(3*64+2):=Nat.mul_le_mul aa aa
     unfold gL;omega
    have yU:ba (bF (bF kk)+1) (dy (eL cs dh (y+1))).length<=9000:=by
     have h1:bF (bF (bF kk)+1)+1<=66:=by unfold bF at*;omega
     have:(dy (eL cs dh (y+1))).length*(bF (bF (bF kk)+1)+1)<=128*66:=Nat.mul_le_mul EB h1
     unfold ba;omega
    refine ab ?_
    refine VO.fh rfl (fk Tryz.func15) (λHI β ka8 HQ ho=>(GR _ (cb cs xs) (bF kk) HI (hI.Hg (dV (bF kk)) ho (by intro q hq;rcases Dw with ⟨_,rfl,rfl⟩|⟨_,_,_,_,rfl,rfl,_⟩ <;> rcases hI with ⟨_,rfl,rfl⟩|⟨_,_,_,_,rfl,rfl,_⟩ <;> first|(cases hq;done)|(cases List.mem_singleton.1 hq;rfl)) bG) hu0 aa aa).mono ?_)
    rintro o w8 ⟨r8,rfl,q8,Ci⟩
    have hPs:sR (cz (cb cs xs)) 13000:=by
     have nY:∀ x∈cb cs xs,bS x.2.1 (bF kk)/\bS x.2.2 (bF kk):=by
      rcases hI with ⟨dZ,_,_⟩|⟨n',c',vs,sp,_,_,qu⟩
      ·rw[dZ];intro x hx;cases hx
      ·intro x hx
       obtain⟨i,hi⟩:=List.getElem?_of_mem hx
       obtain⟨cs0,_,h2,_⟩:=qu.cell (dV (bF kk)) hi
       exact qm.sz h2 hu0
     exact (vg hu0 _ nY).mono hrs
    obtain⟨s8a,p8a,n8a,c8a,t8a,y8a,m8a,d8a,s8b,p8b,n8b,c8b,t8b,y8b,m8b,d8b,s8c,p8c,n8c,c8c,t8c,y8c,m8c,d8c,s8d,p8d,n8d,c8d,t8d,y8d,m8d,d8d,rfl,g1,g2,g3,g4⟩:=q8
    refine aB Ci ?_
    intro BM _ bb8
    refine VO.fh rfl (fk Tryz.func38) (λJQ β ka9 JR ho=>(Kr (β 24) (dy (eL cs dh (y+1))) (bF kk) (y:Int) JQ (hL.in ho (by simp[eB,AV.ids]) rfl (by intro q hq;rcases Dw with ⟨_,rfl,rfl⟩|⟨_,_,_,_,rfl,rfl,_⟩ <;> rcases hI with ⟨_,rfl,rfl⟩|⟨_,_,_,_,rfl,rfl,_⟩ <;> rcases hL with ⟨_,rfl,rfl⟩|⟨_,_,_,_,rfl,rfl,_⟩ <;> first|(cases hq;done)|(cases List.mem_singleton.1 hq;rfl)) bG) aa ⟨by omega,by omega⟩ EB).mono ?_)
    rintro o w9 ⟨r9,rfl,q9,z9,hb9⟩
    obtain⟨s9,p9,n9,c9,t9,y9,m9,d9,rfl⟩:=q9.form
    refine aB hb9 ?_
    intro CS _ bb9
    refine VO.fh rfl (fk Tryz.func39) (λma β oK uS ho=>(yw (β 24) (dy (eL cs dh (y+1))) (bF kk) (y:Int) ma (hL.in ho (by simp[eB,AV.ids]) rfl (by intro q hq;rcases Dw with ⟨_,rfl,rfl⟩|⟨_,_,_,_,rfl,rfl,_⟩ <;> rcases hI with ⟨_,rfl,rfl⟩|⟨_,_,_,_,rfl,rfl,_⟩ <;> rcases hL with ⟨_,rfl,rfl⟩|⟨_,_,_,_,rfl,rfl,_⟩ <;> first|(cases hq;done)|(cases List.mem_singleton.1 hq;rfl)) bG) hlw aa ⟨by omega,by omega⟩ EB).mono ?_)
    rintro o w10 ⟨r10,rfl,q10,z10,sQ⟩
    obtain⟨s10,p10,n10,c10,t10,y10,m10,d10,rfl⟩:=q10.form
    refine aB sQ ?_
    intro gw _ CT
    rw[He] at q9 z9
    rw[Hf] at q10 z10
    have zd:bS (jw (eL cs dh (y+1)) (y:Int)) 9000:=z9.mono yU
    have zb:bS (lT (eL cs dh (y+1)) (y:Int)) 9000:=z10.mono yU
    refine VO.cR rfl rfl (fk Tryz.func14) (λnz rC wi=>oL _ _ (cz (cb cs xs)).s (jw (eL cs dh (y+1)) (y:Int)) 13000 9000 nz (g2.ki hPs.s) (q9.ki zd) aa aa) (λnz rC wi w11 s11 p11 n11 c11 t11 y11 m11 d11 q11 wj kf _ FQ=>wV rfl ?_)
    refine ab ?_
    have zs:=hPs.s.sub zd
    refine VO.cR rfl rfl (fk Tryz.func14) (λnH rD wk=>oL _ _ ((cz (cb cs xs)).s-jw (eL cs dh (y+1)) (y:Int)) (cz (cb cs xs)).i 22001 13000 nH (q11.ki zs) (g4.ki hPs.i) aa aa) (λnH rD wk w12 s12 p12 n12 c12 t12 y12 m12 d12 q12 wm nI _ FR=>wV rfl ?_)
    refine ab ?_
    have zo:=zs.sub hPs.i
    have hya:(kx cs dh)[y]? =some (GY (cz (cb cs xs)) (jw (eL cs dh (y+1)) y) (lT (eL cs dh (y+1)) y)):=by
     rw[qw aa];unfold vv;rw[hxy']
    have ny:sH AK w12 [.bool s8a,.slice p8a n8a c8a,.bool t8a,.slice y8a m8a d8a,.bool s11,.slice p11 n11 c11,.bool t11,.slice y11 m11 d11,.bool s8c,.slice p8c n8c c8c,.bool t8c,.slice y8c m8c d8c,.bool s8d,.slice p8d n8d c8d,.bool t8d,.slice y8d m8d d8d,.bool s9,.slice p9 n9 c9,.bool t9,.slice y9 m9 d9,.bool s10,.slice p10 n10 c10,.bool t10,.slice y10 m10 d10,.bool s12,.slice p12 n12 c12,.bool t12,.slice y12 m12 d12] (GY (cz (cb cs xs)) (jw (eL cs dh (y+1)) y) (lT (eL cs dh (y+1)) y)):=
     ⟨_,_,_,_,_,_,_,rfl,.mk g1.k (hPs.b.mono (by unfold AK;omega)),.mk q11.kr (zs.mono (by unfold AK;omega)),.mk g3.k (hPs.d.mono (by unfold AK;omega)),.mk g4.k (hPs.i.mono (by unfold AK;omega)),.mk q9.kr (zd.mono (by unfold AK;omega)),.mk q10.kr (zb.mono (by unfold AK;omega)),.mk q12.rd (zo.mono (by unfold AK;omega))⟩
    rcases hO with ⟨dZ,rfl,rfl⟩|⟨n',c',vs,sp,rfl,rfl,qu⟩
    ·refine VO.sn (bQ _ _) (fo AK) (t:=26) (e:=49) (s:=95) (a:=(GY (cz (cb cs xs)) (jw (eL cs dh (y+1)) y) (lT (eL cs dh (y+1)) y))) (cs:=[.bool s8a,.slice p8a n8a c8a,.bool t8a,.slice y8a m8a d8a,.bool s11,.slice p11 n11 c11,.bool t11,.slice y11 m11 d11,.bool s8c,.slice p8c n8c c8c,.bool t8c,.slice y8c m8c d8c,.bool s8d,.slice p8d n8d c8d,.bool t8d,.slice y8d m8d d8d,.bool s9,.slice p9 n9 c9,.bool t9,.slice y9 m9 d9,.bool s10,.slice p10 n10 c10,.bool t10,.slice y10 m10 d10,.bool s12,.slice p12 n12 c12,.bool t12,.slice y12 m12 d12]) rfl rfl rfl rfl rfl rfl rfl rfl (bt rfl) rfl (by rcases Dw with ⟨_,rfl,rfl⟩|⟨_,_,_,_,rfl,rfl,_⟩ <;> rcases hI with ⟨_,rfl,rfl⟩|⟨_,_,_,_,rfl,rfl,_⟩ <;> rcases hL with ⟨_,rfl,rfl⟩|⟨_,_,_,_,rfl,rfl,_⟩ <;> rfl) rfl ny aa (λw13 cap sp k13 b13 nM=>wV rfl ?_)
     refine ab ?_
     refine VS.back (T-(y+1)) aa ⟨_,_,?_,?_,?_,?_,⟨y+1,_,Xl,[(96,_)],Ml,by omega,rfl,rfl,rfl,.inr ⟨1,cap,_,sp,rfl,rfl,by rw[aF hya,dZ];exact nM⟩,hL.kp bG⟩⟩
     ·rcases Dw with ⟨_,rfl,rfl⟩|⟨_,_,_,_,rfl,rfl,_⟩ <;> rcases hI with ⟨_,rfl,rfl⟩|⟨_,_,_,_,rfl,rfl,_⟩ <;> rcases hL with ⟨_,rfl,rfl⟩|⟨_,_,_,_,rfl,rfl,_⟩ <;> (refine⟨rfl,rfl,rfl,rfl,rfl,rfl,?_,trivial⟩;rw[<-bD (i:=y) aa];rfl)
     ·rcases Dw with ⟨_,rfl,rfl⟩|⟨_,_,_,_,rfl,rfl,_⟩ <;> rcases hI with ⟨_,rfl,rfl⟩|⟨_,_,_,_,rfl,rfl,_⟩ <;> rcases hL with ⟨_,rfl,rfl⟩|⟨_,_,_,_,rfl,rfl,_⟩ <;> (repeat first|exact trivial|refine⟨rfl,?_⟩|refine⟨congrArg (λl=>some (_,l)) (bT (by first|exact cg.cX (by assumption)|exact af _|(rw[<-List.map_append];exact af _)) _ _),?_⟩)
     ·rcases Dw with ⟨_,rfl,rfl⟩|⟨_,_,_,_,rfl,rfl,_⟩ <;> rcases hI with ⟨_,rfl,rfl⟩|⟨_,_,_,_,rfl,rfl,_⟩ <;> rcases hL with ⟨_,rfl,rfl⟩|⟨_,_,_,_,rfl,rfl,_⟩ <;> rfl
     ·rcases Dw with ⟨_,rfl,rfl⟩|⟨_,_,_,_,rfl,rfl,_⟩ <;> rcases hI with ⟨_,rfl,rfl⟩|⟨_,_,_,_,rfl,rfl,_⟩ <;> rcases hL with ⟨_,rfl,rfl⟩|⟨_,_,_,_,rfl,rfl,_⟩ <;> (repeat first|exact trivial|refine⟨aq.lit rfl,?_⟩|refine⟨cg.vd (by assumption),?_⟩|refine⟨aq.append (.vals _) (.vals _),?_⟩|refine⟨aq.vals _,?_⟩)
    ·have oX:=qu.len
     rw[List.length_take] at oX
     refine VO.sq (bQ _ _) (fo AK) (t:=26) (e:=49) (s:=95) (i:=96) (n:=n') (c:=c') (vs:=vs) (sp:=sp) (es:=(kx cs dh).take y) (a:=(GY (cz (cb cs xs)) (jw (eL cs dh (y+1)) y) (lT (eL cs dh (y+1)) y))) (cs:=[.bool s8a,.slice p8a n8a c8a,.bool t8a,.slice y8a m8a d8a,.bool s11,.slice p11 n11 c11,.bool t11,.slice y11 m11 d11,.bool s8c,.slice p8c n8c c8c,.bool t8c,.slice y8c m8c d8c,.bool s8d,.slice p8d n8d c8d,.bool t8d,.slice y8d m8d d8d,.bool s9,.slice p9 n9 c9,.bool t9,.slice y9 m9 d9,.bool s10,.slice p10 n10 c10,.bool t10,.slice y10 m10 d10,.bool s12,.slice p12 n12 c12,.bool t12,.slice y12 m12 d12]) rfl rfl rfl rfl rfl rfl rfl rfl (bt rfl) rfl (.inr rfl) (by rcases Dw with ⟨_,rfl,rfl⟩|⟨_,_,_,_,rfl,rfl,_⟩ <;> rcases hI with ⟨_,rfl,rfl⟩|⟨_,_,_,_,rfl,rfl,_⟩ <;> rcases hL with ⟨_,rfl,rfl⟩|⟨_,_,_,_,rfl,rfl,_⟩ <;> rfl) (qu.kp (fo AK) bG) rfl ny aa (λw13 oT xt ρ k13 b13 eH nM=>wV rfl ?_)
     refine ab ?_
     refine VS.back (T-(y+1)) aa ⟨_,_,?_,?_,?_,?_,⟨y+1,_,Xl,[(96,_)],Ml,by omega,rfl,rfl,rfl,.inr ⟨n' +1,oT,_,xt,rfl,rfl,by rw[aF hya];exact nM⟩,hL.kp bG⟩⟩
     ·rcases Dw with ⟨_,rfl,rfl⟩|⟨_,_,_,_,rfl,rfl,_⟩ <;> rcases hI with ⟨_,rfl,rfl⟩|⟨_,_,_,_,rfl,rfl,_⟩ <;> rcases hL with ⟨_,rfl,rfl⟩|⟨_,_,_,_,rfl,rfl,_⟩ <;> (refine⟨rfl,rfl,rfl,rfl,rfl,rfl,?_,trivial⟩;rw[<-bD (i:=y) aa];rfl)
     ·rcases Dw with ⟨_,rfl,rfl⟩|⟨_,_,_,_,rfl,rfl,_⟩ <;> rcases hI with ⟨_,rfl,rfl⟩|⟨_,_,_,_,rfl,rfl,_⟩ <;> rcases hL with ⟨_,rfl,rfl⟩|⟨_,_,_,_,rfl,rfl,_⟩ <;> (repeat first|exact trivial|refine⟨rfl,?_⟩|refine⟨congrArg (λl=>some (_,l)) (bT (by first|exact cg.cX (by assumption)|exact af _|(rw[<-List.map_append];exact af _)) _ _),?_⟩)
     ·rcases Dw with ⟨_,rfl,rfl⟩|⟨_,_,_,_,rfl,rfl,_⟩ <;> rcases hI with ⟨_,rfl,rfl⟩|⟨_,_,_,_,rfl,rfl,_⟩ <;> rcases hL with ⟨_,rfl,rfl⟩|⟨_,_,_,_,rfl,rfl,_⟩ <;> rfl
     ·rcases Dw with ⟨_,rfl,rfl⟩|⟨_,_,_,_,rfl,rfl,_⟩ <;> rcases hI with ⟨_,rfl,rfl⟩|⟨_,_,_,_,rfl,rfl,_⟩ <;> rcases hL with ⟨_,rfl,rfl⟩|⟨_,_,_,_,rfl,rfl,_⟩ <;> (repeat first|exact trivial|refine⟨aq.lit rfl,?_⟩|refine⟨cg.vd (by assumption),?_⟩|refine⟨aq.append (.vals _) (.vals _),?_⟩|refine⟨aq.vals _,?_⟩)
 ·refine VS.bB rfl (decide_eq_false (λe=>hlt (Int.ofNat_lt.1 e))) ?_
  obtain rfl:y=T:=by omega
  rw[List.take_of_length_le (by unfold kx;rw[List.length_map,List.length_range];omega)] at hO
  rcases hO with ⟨dZ,rfl,rfl⟩|⟨n',c',vs,sp,rfl,rfl,qu⟩
  ·refine ab ?_
   refine az ?_;intro wz kz bz
   exact⟨_,rfl,.inl ⟨rfl,dZ⟩,bz⟩
  ·refine ab ?_
   refine VS.oy (bQ _ _) rfl (λwz β kz bz en=> ?_)
   exact⟨_,rfl,qu.new (fo AK) (en.own 96 _ _ (by rcases hL with ⟨_,rfl,rfl⟩|⟨_,_,_,_,rfl,rfl,_⟩ <;> rfl)) kz,bz⟩
set_option maxRecDepth 4000
abbrev EC (P:Program) (w:World) (N:Nat):Cx:={ P:=P,w0:=w,N:=N,K:=⟨UU,λ_=>True,λt=>(Nat.beq t 34 || (Nat.beq t 81 || (Nat.beq t 38 || (Nat.beq t 49 || Nat.beq t 59))))⟩,SU:=λt=>Nat.beq t 30,ti:=table,keep:=λ_ _=>trivial }
theorem Dx (w:World) (N:Nat):(EC Tryz.prog w N).Ok:=mN
theorem Hi (w:World) (N:Nat):(EC Tryz.prog w N).P.follows .mixedOrders=true:=by show Tryz.prog.follows .mixedOrders=true;kernel_rfl
section
variable {F F':Fr} {H H':Hp} {w w1:World} {N:Nat} {l':List Oper} {Q:Exit->Act->World->Prop} {k:List It} {id:Nat} {ops:Array Oper}
theorem cxJ_r (e:lW (EC Tryz.prog w1 N) ops 80 ops.toList F H=(l',F',H')) (h:ao (EC Tryz.prog w1 N) none ops l' (VS (EC Tryz.prog w1 N) Q k) F' H' w):VS (EC Tryz.prog w1 N) Q (.code (.region id ops false)::k) F H w:=VS.region (Dx _ _) (VO.run 80 e h)
theorem cxJ_d (e:lW (EC Tryz.prog w1 N) ops 80 ops.toList F H=(l',F',H')) (h:ao (EC Tryz.prog w1 N) (some []) ops l' (VS (EC Tryz.prog w1 N) Q k) F' H' w) (lV:jE (EC Tryz.prog w1 N).SU [] ops=true:=by kernel_rfl):VS (EC Tryz.prog w1 N) Q (.code (.region id ops true)::k) F H w:=VS.draw (Dx _ _) (Hi _ _) [] lV (VO.run 80 e h)
end
theorem Hj (l:List bU) (z:Int):jw l z=eg ((l.map bU.exp).map λe=>lS e z):=by unfold jw;rw[List.map_map];rfl
theorem Hk (l:List bU) (z:Int):lT l z=eg ((l.map bU.exp).map λe=>vn e z):=by unfold lT;rw[List.map_map];rfl
def Bx (cs:List jI) (dh:List (List Rat)):Nat->List Exp
 | 0=>[]
 | n+1=>Bx cs dh n++((cs.zip (dh.getD n [])).filter wv).map λp=>((n:Int),(ji p.1.2:Int),true,p.2)
theorem Bz (cs:List jI) (dh:List (List Rat)):∀ n,(eL cs dh n).map bU.exp=Bx cs dh n
 | 0=>rfl
 | n+1=>by
   show (eL cs dh n++ku n _).map bU.exp=_
   rw[List.map_append,Bz cs dh n]
   show _=Bx cs dh n++_
   congr 1
   unfold ku
   rw[List.map_map]
   refine List.map_congr_left λp _=> ?_
   show (qq n p).exp=_
   rw[qq,Bt]
theorem rK (cs:List jI) (dh:List (List Rat)) (y:Nat):vv cs dh y=GY (cz (cb cs (dh.getD y []))) (eg ((Bx cs dh (y+1)).map λe=>lS e y)) (eg ((Bx cs dh (y+1)).map λe=>vn e y)):=by
 unfold vv;rw[Hj,Hk,Bz]
def wcs:List jI:=[(1,Rat.divInt 0 1),(6,Rat.divInt 2 1)]
def wts:List (List (List Rat)):=[[[Rat.divInt 100 1,Rat.divInt 10 1]],[[Rat.divInt 50 1,Rat.divInt 0 1]],[[Rat.divInt 0 1,Rat.divInt 6 1]]]
def wxs:List (List Rat):=[[Rat.divInt 100 1,Rat.divInt 10 1],[Rat.divInt 50 1,Rat.divInt 0 1],[Rat.divInt 0 1,Rat.divInt 6 1]]
theorem wmay:rI wcs 0 wts=0:=by decide+kernel
theorem wrows:tH wcs 0 wts=kx wcs wxs:=if_pos wmay
theorem wlen:(kx wcs wxs).length=3:=by unfold kx;rw[List.length_map,List.length_range];rfl
theorem wnum (z:Nat) (hz:z<3):∃ (a b d:Int),([[100,0,10],[45,5,5],[-5,5,6]]:List (List Int))[z]? =some [a,b,d]/\(∃ r,(kx wcs wxs)[z]? =some r/\r.p.s=Rat.divInt a 1/\r.due=Rat.divInt b 1/\r.sS=Rat.divInt d 1)/\-100<=a/\a<=100/\-100<=b/\b<=100/\-100<=d/\d<=100:=by
 obtain rfl|rfl|rfl:z=0\/z=1\/z=2:=by omega
 ·refine⟨100,0,10,rfl,⟨_,qw ff,?_⟩,by decide⟩
  rw[rK];decide+kernel
 ·refine⟨45,5,5,rfl,⟨_,qw ff,?_⟩,by decide⟩
  rw[rK];decide+kernel
 ·refine⟨-5,5,6,rfl,⟨_,qw ff,?_⟩,by decide⟩
  rw[rK];decide+kernel
theorem oQ.mk {kk k:Nat} {w:World} {nm:ByteArray} {s t:Bool} {p y:Option Addr} {n c m d:Nat} {q:Rat} (h0:k<256) (h:ay w (.agg #[.bool s,.slice p n c,.bool t,.slice y m d]) q kk):oQ kk w [.string nm,.int .u8 (k:Int),.bool s,.slice p n c,.bool t,.slice y m d] (k,q):=⟨_,_,_,_,_,_,_,_,_,rfl,h0,h⟩
theorem je.mk {kk:Nat} {w:World} {s t:Bool} {p y:Option Addr} {n c m d:Nat} {q:Rat} (h:ay w (.agg #[.bool s,.slice p n c,.bool t,.slice y m d]) q kk):je kk w [.bool s,.slice p n c,.bool t,.slice y m d] q:=⟨_,_,_,_,_,_,_,_,rfl,h⟩
theorem KL (w:World):Calls Tryz.prog 30 #[] w λe w'=>∃ r,e=.returned r/\gI (oQ 2) 6 38 w.heap.size w' r wcs/\ax w w':=by
 refine ae (C:=aR Tryz.prog w _) (args:=[]) Tryz.func30 rfl Tryz.ntmps30 (bt rfl) ?_
 refine ab ?_
 refine VO.cR rfl rfl (fk Tryz.func31) (λaK bn aU=>gJ 0 1 aK aa aa aa aa) (λaK bn aU w1 s1 p1 n1 c1 t1 y1 m1 d1 q1 aC bL _ bb1=>wV rfl ?_)
 refine ab ?_
 refine VO.cR rfl rfl (fk Tryz.func31) (λaZ bI bu=>gJ 2 1 aZ aa aa aa aa) (λaZ bI bu w2 s2 p2 n2 c2 t2 y2 m2 d2 q2 aQ cH _ bb2=>wV rfl ?_)
 refine ab ?_
 refine VS.oy (bQ _ _) rfl (λwz β kz bz en=> ?_)
 exact⟨_,rfl,uZ (vs:=[[.string ⟨#[115,97,108,101,115]⟩,.int .u8 1,.bool s1,.slice p1 n1 c1,.bool t1,.slice y1 m1 d1],[.string ⟨#[97,100,115]⟩,.int .u8 6,.bool s2,.slice p2 n2 c2,.bool t2,.slice y2 m2 d2]]) (spare:=[]) (en.own 5 _ _ rfl) (.cons (oQ.mk (k:=1) aa (q1.ki (lH aa aa aa aa))) (.cons (oQ.mk (k:=6) aa (q2.ki (lH aa aa aa aa))) .nil)) rfl (Nat.le_refl _) ff rfl (λ_ _ h=>h),bz⟩
theorem KM {kk:Nat} {w:World}:fJ (λ_:World=>vx kk w) 1 where
 kp:=λh _=>h
 len:=λh=>by
  obtain⟨v,rfl,_⟩:=h
  rfl
 ok:=λh=>by
  obtain⟨v,rfl,h⟩:=h
  obtain⟨p,c,rfl⟩:=h.sl
  rfl
theorem tab_len {kk:Nat} {w:World}:fJ (λ_:World=>wx kk w) 1 where
 kp:=λh _=>h
 len:=λh=>by
  obtain⟨v,rfl,_⟩:=h
  rfl
 ok:=λh=>by
  obtain⟨v,rfl,h⟩:=h
  obtain⟨p,c,rfl⟩:=h.sl
  rfl
def BA (w:World) (v:Value) (B:Nat) (q r:Rat):Prop:=∃ g b s1 p1 n1 c1 t1 y1 m1 d1 s2 p2 n2 c2 t2 y2 m2 d2,v=.slice (some ⟨g,0,none⟩) 1 1/\B<=g/\B<=b/\aW w g 81 #[.slice (some ⟨b,0,none⟩) 2 2]/\aW w b 34 #[.bool s1,.slice p1 n1 c1,.bool t1,.slice y1 m1 d1,.bool s2,.slice p2 n2 c2,.bool t2,.slice y2 m2 d2]/\
 ay w (.agg #[.bool s1,.slice p1 n1 c1,.bool t1,.slice y1 m1 d1]) q 2/\ay w (.agg #[.bool s2,.slice p2 n2 c2,.bool t2,.slice y2 m2 d2]) r 2
theorem BA.kp {T:TypeId->Bool} {w w':World} {v:Value} {B:Nat} {q r:Rat} (h:BA w v B q r) (k:aY ⟨UU,λ_=>True,T⟩ w w') (h1:T 81=true) (h2:T 34=true):BA w' v B q r:=by
 have f:∀ t,T t=true->(KC.fz ⟨UU,λ_=>True,T⟩ t)=true:=λt ht=>by show (Nat.beq t UU || T t)=true;rw[ht];simp
 obtain⟨g,b,s1,p1,n1,c1,t1,y1,m1,d1,s2,p2,n2,c2,t2,y2,m2,d2,rfl,e1,e2,e3,e4,e5,e6⟩:=h
 exact⟨g,b,_,_,_,_,_,_,_,_,_,_,_,_,_,_,_,_,rfl,e1,e2,k.block _ g _ (f _ h1) trivial e3,k.block _ b _ (f _ h2) trivial e4,e5.kp k,e6.kp k⟩
theorem BA.tab {w:World} {v:Value} {B:Nat} {q r:Rat} (h:BA w v B q r):wx 2 w [v] [[q,r]]:=by
 obtain⟨g,b,s1,p1,n1,c1,t1,y1,m1,d1,s2,p2,n2,c2,t2,y2,m2,d2,rfl,e1,e2,e3,e4,e5,e6⟩:=h
 have hr:cf (je 2) 4 w (.slice (some ⟨b,0,none⟩) 2 2) [q,r]:=np (bA 2) (vs:=[[.bool s1,.slice p1 n1 c1,.bool t1,.slice y1 m1 d1],[.bool s2,.slice p2 n2 c2,.bool t2,.slice y2 m2 d2]]) (spare:=[]) e4 (.cons (.mk e5) (.cons (.mk e6) .nil)) rfl (Nat.le_refl _) (show (2:Nat)<=9223372036854775807 by omega)
 have h1:vx 2 w [.slice (some ⟨b,0,none⟩) 2 2] [q,r]:=⟨_,rfl,hr⟩
 exact⟨_,rfl,(np (E:=λ_=>vx 2 w) KM (vs:=[[.slice (some ⟨b,0,none⟩) 2 2]]) (spare:=[]) e3 (.cons h1 .nil) rfl (Nat.le_refl _) (show (1:Nat)<=9223372036854775807 by omega)).mono (λ_ _ _ _ h=>h)⟩
theorem BA.form {w:World} {v:Value} {B:Nat} {q r:Rat} (h:BA w v B q r):∃ g,v=.slice (some ⟨g,0,none⟩) 1 1:=by
 obtain⟨g,b,s1,p1,n1,c1,t1,y1,m1,d1,s2,p2,n2,c2,t2,y2,m2,d2,rfl,_⟩:=h
 exact⟨g,rfl⟩
theorem rL (a b:Int) (w:World) (a0: -1000<=a) (a1:a<=1000) (b0: -1000<=b) (b1:b<=1000):Calls Tryz.prog 32 #[.int .i64 a,.int .i64 b] w λe w'=>∃ v,e=.returned (.agg #[v])/\BA w' v w.heap.size (Rat.divInt a 1) (Rat.divInt b 1)/\ax w w':=by
 refine ae (C:=aR Tryz.prog w _) (args:=[_,_]) Tryz.func32 rfl Tryz.ntmps32 (bt rfl) ?_
 refine ab ?_
 refine VO.cR rfl rfl (fk Tryz.func31) (λaK bn aU=>gJ a 1 aK aa aa aa aa) (λaK bn aU w1 s1 p1 n1 c1 t1 y1 m1 d1 q1 aC bL _ bb1=>wV rfl ?_)
 refine ab ?_
 refine VO.cR rfl rfl (fk Tryz.func31) (λaZ bI bu=>gJ b 1 aZ aa aa aa aa) (λaZ bI bu w2 s2 p2 n2 c2 t2 y2 m2 d2 q2 aQ cH _ bb2=>wV rfl ?_)
 refine ab ?_
 refine VS.oy (bQ _ _) rfl (λwz β kz bz en=> ?_)
 have o1:=en.own 9 _ _ rfl
 have o2:=en.own 10 _ _ rfl
 exact⟨_,rfl,⟨β 10,β 9,_,_,_,_,_,_,_,_,_,_,_,_,_,_,_,_,rfl,o2.new,o1.new,o2.cls,o1.cls,q1.ki (lH aa aa aa aa),q2.ki (lH aa aa aa aa)⟩,bz⟩
theorem dv {P Q:Prop} (h:Q) (i:Q->P:=by intro h;(repeat first|refine wN ?_|refine wP rfl ?_|refine cxJ_r rfl ?_|refine cxJ_d rfl ?_|refine wO rfl rfl ?_);exact h):P:=i h
theorem BB {P Q X:Prop} (hb:X) (h:Q) (i:X->Q->P:=by intro hb h;refine⟨_,rfl,hb,λa b c=>wV rfl ?_⟩;refine dv ?_;revert a b c;exact h):P:=i hb h
set_option maxRecDepth 4000 in
theorem dw (w:World):Calls Tryz.prog 9 #[] w λo w'=>o=.returned (.bool true)/\ax w w':=by
 refine ae (C:=EC Tryz.prog w _) (args:=[]) Tryz.func9 rfl Tryz.ntmps9 (bt rfl) ?_
 refine dv ?_
 refine VO.call rfl rfl (fk Tryz.func30) (λaK bn aU=>(KL aK).mono ?_)
 rintro e w1 ⟨r1,rfl,q1,aC⟩
 obtain⟨pp,cp,rfl⟩:=q1.form
 refine BB aC ?_
 intro bL _ bb1
 refine VO.call rfl rfl (fk Tryz.func32) (λaZ bI bu=>(rL 100 10 aZ aa aa aa aa).mono ?_)
 rintro e w2 ⟨r2,rfl,q2,aQ⟩
 obtain⟨g2,rfl⟩:=q2.form
 refine BB aQ ?_
 intro cH _ bb2
 refine VO.call rfl rfl (fk Tryz.func32) (λck cJ da=>(rL 50 0 ck aa aa aa aa).mono ?_)
 rintro e w3 ⟨r3,rfl,q3,bM⟩
 obtain⟨g3,rfl⟩:=q3.form
 refine BB bM ?_
 intro dP _ bb3
 refine VO.call rfl rfl (fk Tryz.func32) (λdW eT fD=>(rL 0 6 dW aa aa aa aa).mono ?_)
 rintro e w4 ⟨r4,rfl,q4,fb⟩
 obtain⟨g4,rfl⟩:=q4.form
 refine BB fb ?_
 intro iK _ oY
 refine VO.fh rfl (fk Tryz.func10) (λfv β gh gv ho=>((aOf_any _ _ 0 wcs wts 2 fv ((q1.kp (lJ 2) bG rfl).sl (lJ 2)) ((qj (E:=λ_=>wx 2 fv) tab_len (ho.own 10 (.base (by simp[eB,AV.ids])) _ _ rfl) [] (vs:=[[.slice (some ⟨g2,0,none⟩) 1 1],[.slice (some ⟨g3,0,none⟩) 1 1],[.slice (some ⟨g4,0,none⟩) 1 1]]) (by rfl) (.cons (q2.kp bG rfl rfl).tab (.cons (q3.kp bG rfl rfl).tab (.cons (q4.kp bG rfl rfl).tab .nil))) rfl (Nat.le_refl _) (show (3:Nat)<=9223372036854775807 by omega)).mono (λ_ _ _ _ h=>h)) aa ff (.inl ff)).mono (λo w2 h=>And.intro h gv.size)).mono ?_)
 rintro o w5 ⟨⟨r5,rfl,q5,gW⟩,hsz5⟩
 rw[wrows] at q5
 rw[wmay]
 obtain⟨p5,c5,rfl⟩:=q5.form
 rw[wlen] at q5 ⊢
 refine BB gW ?_
 intro ky _ tt
 refine VS.rebase (λw=>EC Tryz.prog w 76) (λ_=>rfl) (λ_=>rfl) (λ_=>ax.refl _) (λw9 β k9 b9 en=> ?_)
 have q5':=(q5.kp (fo AK) (show aY (EC Tryz.prog w 76).K w5 w9 from bG) rfl).sl (fo AK)
 have jS:ax w w9:=b9
 have o24:=(en.own 24 _ _ rfl).cls
 have o21:=(en.own 21 _ _ rfl).cls
 have o22:=(en.own 22 _ _ rfl).cls
 have o23:=(en.own 23 _ _ rfl).cls
 refine⟨[(1,.val (.slice p5 3 c5)),(3,.val (.slice (some ⟨β 24,0,none⟩) 3 3)),(4,.val (.int .i64 0))],⟨⟨_,_,rfl,rfl,rfl⟩,⟨_,_,rfl,rfl,rfl⟩,⟨_,_,rfl,rfl,rfl⟩,trivial⟩,?_⟩
 have hwant:∀ z,z<3->∀ a b d,([[100,0,10],[45,5,5],[-5,5,6]]:List (List Int))[z]? =some [a,b,d]->∃ gz,w9.cell? ⟨β 24,0+((z:Nat):Int).toNat*1,none⟩=some (.slice (some ⟨gz,0,none⟩) 3 3)/\w9.cell? ⟨gz,0,none⟩=some (.int .i64 a)/\w9.cell? ⟨gz,1,none⟩=some (.int .i64 b)/\w9.cell? ⟨gz,2,none⟩=some (.int .i64 d):=by
  intro z hz a b d h
  obtain rfl|rfl|rfl:z=0\/z=1\/z=2:=by omega
  ·simp only[List.getElem?_cons_zero,Option.some.injEq,List.cons.injEq,and_true] at h
   obtain⟨rfl,rfl,rfl⟩:=h
   exact⟨β 21,o24.cell (by rfl),o21.cell (by rfl),o21.cell (by rfl),o21.cell (by rfl)⟩
  ·simp only[List.getElem?_cons_succ,List.getElem?_cons_zero,Option.some.injEq,List.cons.injEq,and_true] at h
   obtain⟨rfl,rfl,rfl⟩:=h
   exact⟨β 22,o24.cell (by rfl),o22.cell (by rfl),o22.cell (by rfl),o22.cell (by rfl)⟩
  ·simp only[List.getElem?_cons_succ,List.getElem?_cons_zero,Option.some.injEq,List.cons.injEq,and_true] at h
   obtain⟨rfl,rfl,rfl⟩:=h
   exact⟨β 23,o24.cell (by rfl),o23.cell (by rfl),o23.cell (by rfl),o23.cell (by rfl)⟩
 refine VS.loop (J:=λm L M w'=>∃ z:Nat,z<=3/\m=3-z/\L=[(1,.val (.slice p5 3 c5)),(3,.val (.slice (some ⟨β 24,0,none⟩) 3 3)),(4,.val (.int .i64 (z:Int)))]/\M=[]) 3 ⟨_,_,?_,?_,?_,?_,⟨0,by omega,rfl,rfl,rfl⟩⟩ ?_
 ·exact dX
 ·exact dX
 ·rfl
 ·exact ll
 rintro m L M wK ⟨z,hz,rfl,rfl,rfl⟩
 refine dv ?_
 by_cases hlt:z<3
 ·obtain⟨a,b,d,hw,⟨r,hr,e0,e1,e2⟩,a1,a2,b1,b2,d1,d2⟩:=wnum z hlt
  obtain⟨gz,hgz,hc0,nw,oJ⟩:=hwant z hlt a b d hw
  obtain⟨bR,oR,csR,rfl,hcR,⟨_,_,_,_,_,_,_,rfl,⟨sA,pA,nA,cA,tA,yA,mA,dA,rfl,hA,zA⟩,⟨sB,pB,nB,cB,tB,yB,mB,dB,rfl,hB,zB⟩,⟨sC,pC,nC,cC,tC,yC,mC,dC,rfl,hC,zC⟩,⟨sD,pD,nD,cD,tD,yD,mD,dD,rfl,hD,zD⟩,⟨sE,pE,nE,cE,tE,yE,mE,dE,rfl,hE,zE⟩,⟨sF,pF,nF,cF,tF,yF,mF,dF,rfl,hF,zF⟩,⟨sG,pG,nG,cG,tG,yG,mG,dG,rfl,hG,zG⟩⟩⟩:=q5'.at hr
  refine VS.bo rfl (decide_eq_true (show (z:Int)<3 by omega)) ?_
  refine dv ?_
  refine VO.cond rfl fw (wV rfl ?_)
  refine dv ?_
  refine VO.read rfl [.bool sB,.slice pB nB cB,.bool tB,.slice yB mB dB] rfl (eh hcR 4 _ ⟨_,rfl⟩) (wV rfl ?_)
  refine dv ?_
  refine VO.cond rfl fw (wV rfl ?_)
  refine dv ?_
  refine VO.read rfl [.slice (some ⟨gz,0,none⟩) 3 3] rfl (eS hgz) (wV rfl ?_)
  refine dv ?_
  refine VO.cond rfl fw (wV rfl ?_)
  refine dv ?_
  refine VO.read rfl [.int .i64 a] rfl (eS hc0) (wV rfl ?_)
  refine dv ?_
  refine VO.cR rfl rfl (fk Tryz.func31) (λma oK uS=>gJ a 1 ma aa aa aa aa) (λma oK uS w10 s10 p10 n10 c10 t10 y10 m10 d10 q10 sQ gw _ CT=>wV rfl ?_)
  refine dv ?_
  refine VO.cB rfl rfl (fk Tryz.func16) (λnz rC wi=>oN _ _ _ (Rat.divInt a 1) AK 2 nz (hB.ki zB) (q10.ki (lH aa aa aa aa)) (by unfold AK;omega) aa true (decide_eq_true e0)) (λnz rC wi w11 wj kf _ FQ=>wV rfl ?_)
  refine dv ?_
  refine VO.cond rfl fw (wV rfl ?_)
  refine dv ?_
  refine VO.read rfl [.bool sE,.slice pE nE cE,.bool tE,.slice yE mE dE] rfl (eh hcR 16 _ ⟨_,rfl⟩) (wV rfl ?_)
  refine dv ?_
  refine VO.cond rfl fw (wV rfl ?_)
  refine dv ?_
  refine VO.read rfl [.slice (some ⟨gz,0,none⟩) 3 3] rfl (eS hgz) (wV rfl ?_)
  refine dv ?_
  refine VO.cond rfl fw (wV rfl ?_)
  refine dv ?_
  refine VO.read rfl [.int .i64 b] rfl (eS nw) (wV rfl ?_)
  refine dv ?_
  refine VO.cR rfl rfl (fk Tryz.func31) (λnH rD wk=>gJ b 1 nH aa aa aa aa) (λnH rD wk w12 s12 p12 n12 c12 t12 y12 m12 d12 q12 wm nI _ FR=>wV rfl ?_)
  refine dv ?_
  refine VO.cB rfl rfl (fk Tryz.func16) (λAL JS JT=>oN _ _ _ (Rat.divInt b 1) AK 2 AL (hE.ki zE) (q12.ki (lH aa aa aa aa)) (by unfold AK;omega) aa true (decide_eq_true e1)) (λAL JS JT w13 hb13 AM _ bb13=>wV rfl ?_)
  refine dv ?_
  refine VO.cond rfl fw (wV rfl ?_)
  refine dv ?_
  refine VO.read rfl [.bool sF,.slice pF nF cF,.bool tF,.slice yF mF dF] rfl (eh hcR 20 _ ⟨_,rfl⟩) (wV rfl ?_)
  refine dv ?_
  refine VO.cond rfl fw (wV rfl ?_)
  refine dv ?_
  refine VO.read rfl [.slice (some ⟨gz,0,none⟩) 3 3] rfl (eS hgz) (wV rfl ?_)
  refine dv ?_
  refine VO.cond rfl fw (wV rfl ?_)
  refine dv ?_
  refine VO.read rfl [.int .i64 d] rfl (eS oJ) (wV rfl ?_)
  refine dv ?_
  refine VO.cR rfl rfl (fk Tryz.func31) (λuT uU wq=>gJ d 1 uT aa aa aa aa) (λuT uU wq w14 s14 p14 n14 c14 t14 y14 m14 d14 q14 hb14 CU _ bb14=>wV rfl ?_)
  refine dv ?_
  refine VO.cB rfl rfl (fk Tryz.func16) (λAO ym CV=>oN _ _ _ (Rat.divInt d 1) AK 2 AO (hF.ki zF) (q14.ki (lH aa aa aa aa)) (by unfold AK;omega) aa true (decide_eq_true e2)) (λAO ym CV w15 hb15 kb15 _ bb15=>wV rfl ?_)
  refine dv ?_
  refine VS.back (3-(z+1)) aa ⟨_,_,?_,?_,?_,?_,⟨z+1,by omega,rfl,rfl,rfl⟩⟩
  ·refine⟨rfl,rfl,?_,trivial⟩
   rw[<-bD (i:=z) aa];rfl
  ·exact dX
  ·rfl
  ·exact ll
 ·refine VS.bB rfl (decide_eq_false (show ¬ (z:Int)<3 by omega)) ?_
  refine dv ?_
  refine VS.ret (Dx _ _) rfl rfl (λwz kz bz=> ?_)
  exact⟨rfl,jS.aA bz⟩
set_option maxRecDepth 4000
def qx (kk:Nat) (w:World) (cs:List Value) (r:eZ):Prop:=∃ a b c d e f g,cs=a++(b++(c++(d++(e++(f++g)))))/\je kk w a r.p.b/\je kk w b r.p.s/\je kk w c r.p.d/\je kk w d r.p.i/\je kk w e r.due/\je kk w f r.sS/\je kk w g r.own
theorem rM (kk:Nat):fJ (qx kk) 28 where
 kp:=λh k=>by
  obtain⟨a,b,c,d,e,f,g,hv,h1,h2,h3,h4,h5,h6,h7⟩:=h
  exact⟨a,b,c,d,e,f,g,hv,(bA kk).kp h1 k,(bA kk).kp h2 k,(bA kk).kp h3 k,(bA kk).kp h4 k,(bA kk).kp h5 k,(bA kk).kp h6 k,(bA kk).kp h7 k⟩
 len:=λh=>by
  obtain⟨a,b,c,d,e,f,g,rfl,h1,h2,h3,h4,h5,h6,h7⟩:=h
  simp only[List.length_append]
  rw[(bA kk).len h1,(bA kk).len h2,(bA kk).len h3,(bA kk).len h4,(bA kk).len h5,(bA kk).len h6,(bA kk).len h7]
 ok:=λh=>by
  obtain⟨a,b,c,d,e,f,g,rfl,h1,h2,h3,h4,h5,h6,h7⟩:=h
  simp only[List.all_append]
  rw[(bA kk).ok h1,(bA kk).ok h2,(bA kk).ok h3,(bA kk).ok h4,(bA kk).ok h5,(bA kk).ok h6,(bA kk).ok h7];rfl
def AVal (w:World) (v:Value) (r:eZ) (k:Nat):Prop:=∃ cs:List Value,v=.agg cs.toArray/\sH k w cs r
set_option maxRecDepth 4000 in
theorem KN (v:Value) (l:List eZ) (kk:Nat) (w:World) (hv:cf (qx kk) 28 w v l) (hk:kk<=100000) (jF:1<=kk) (hn:l.length<=8):
  Calls Tryz.prog 26 #[v] w λo w'=>∃ r,o=.returned r/\AVal w' r (oP l) (bX kk l.length)/\ax w w':=by
 obtain⟨p,c,rfl,dk,dY⟩:=hv.form
 obtain⟨N,hN⟩:∃ N,N=l.length:=⟨_,rfl⟩
 rw[<-hN] at hv dk hn
 rw[<-hN]
 have hS:∀ z,z<=N->bX kk z<=900000:=λz hz=>by
  have:z*(kk+1)<=8*100001:=Nat.mul_le_mul aa aa
  unfold bX;omega
 refine ae (C:=aR Tryz.prog w _) (args:=[_]) Tryz.func26 rfl Tryz.ntmps26 (bt rfl) ?_
 refine ab ?_
 refine VO.call rfl rfl (fk Tryz.func60) (λaK bn aU=>(vm _ [] 1 aK (cf.nil _ _ _) aa aa ff).mono ?_)
 rintro e w1 ⟨r1,rfl,q1,aC⟩
 obtain⟨sA,pA,nA,cA,tA,yA,mA,dA,sB,pB,nB,cB,tB,yB,mB,dB,sC,pC,nC,cC,tC,yC,mC,dC,sD,pD,nD,cD,tD,yD,mD,dD,rfl,gA,gB,gC,gD⟩:=q1
 refine aB aC ?_
 intro bL _ bb1
 refine VO.cR rfl rfl (fk Tryz.func11) (λaZ bI bu=>bK 0 aZ aa aa) (λaZ bI bu w2 s2 p2 n2 c2 t2 y2 m2 d2 q2 aQ cH _ bb2=>wV rfl ?_)
 refine ab ?_
 refine VO.cR rfl rfl (fk Tryz.func11) (λck cJ da=>bK 0 ck aa aa) (λck cJ da w3 s3 p3 n3 c3 t3 y3 m3 d3 q3 bM dP _ bb3=>wV rfl ?_)
 refine ab ?_
 refine VO.cR rfl rfl (fk Tryz.func11) (λdW eT fD=>bK 0 dW aa aa) (λdW eT fD w4 s4 p4 n4 c4 t4 y4 m4 d4 q4 fb iK _ oY=>wV rfl ?_)
 refine ab ?_
 have h00:((0:Int):Rat)=0:=rfl
 rw[h00] at q2 q3 q4
 have z1:∀ k,1<=k->bS (0:Rat) k:=λk hk=>bS.zero.mono hk
 refine VS.loop (J:=λm L M w'=>∃ (z:Nat) (cs:List Value),z<=N/\m=N-z/\L=[(2,.box 2 0),(3,.box 3 0),(11,.val (.slice p N c)),(12,.val (.int .i64 (N:Int))),(13,.val (.int .i64 (z:Int)))]/\
  M=[(2,(49,([.bool false,.slice none 0 0,.bool false,.slice none 0 0,.bool false,.slice none 0 0,.bool false,.slice none 0 0,.bool false,.slice none 0 0,.bool false,.slice none 0 0,.bool false,.slice none 0 0,.bool false,.slice none 0 0,.bool false,.slice none 0 0,.bool false,.slice none 0 0,.bool false,.slice none 0 0,.bool false,.slice none 0 0,.bool false,.slice none 0 0,.bool false,.slice none 0 0]:List Value).map .val)),(3,(49,cs.map .val))]/\sH (bX kk z) w' cs (oP (l.take z))) N
  ⟨_,_,?_,?_,?_,?_,⟨0,[.bool sA,.slice pA nA cA,.bool tA,.slice yA mA dA,.bool sB,.slice pB nB cB,.bool tB,.slice yB mB dB,.bool sC,.slice pC nC cC,.bool tC,.slice yC mC dC,.bool sD,.slice pD nD cD,.bool tD,.slice yD mD dD,.bool s2,.slice p2 n2 c2,.bool t2,.slice y2 m2 d2,.bool s3,.slice p3 n3 c3,.bool t3,.slice y3 m3 d3,.bool s4,.slice p4 n4 c4,.bool t4,.slice y4 m4 d4],by omega,rfl,rfl,rfl,⟨_,_,_,_,_,_,_,rfl,.mk gA.k (z1 _ (by unfold bX;omega)),.mk gB.k (z1 _ (by unfold bX;omega)),.mk gC.k (z1 _ (by unfold bX;omega)),.mk gD.k (z1 _ (by unfold bX;omega)),.mk q2.kr (z1 _ (by unfold bX;omega)),.mk q3.kr (z1 _ (by unfold bX;omega)),.mk q4.rd (z1 _ (by unfold bX;omega))⟩⟩⟩ ?_
 ·exact dX
 ·exact dX
 ·rfl
 ·exact ll
 rintro m L M wJ ⟨z,cs,hz,rfl,rfl,rfl,hcs⟩
 obtain⟨_,_,_,_,_,_,_,rfl,⟨s1,p1,n1,c1,t1,y1,m1,d1,rfl,g1⟩,⟨s2,p2,n2,c2,t2,y2,m2,d2,rfl,g2⟩,⟨s3,p3,n3,c3,t3,y3,m3,d3,rfl,g3⟩,⟨s4,p4,n4,c4,t4,y4,m4,d4,rfl,g4⟩,⟨s5,p5,n5,c5,t5,y5,m5,d5,rfl,g5⟩,⟨s6,p6,n6,c6,t6,y6,m6,d6,rfl,g6⟩,⟨s7,p7,n7,c7,t7,y7,m7,d7,rfl,g7⟩⟩:=hcs
 obtain⟨g1,z1⟩:=g1
 obtain⟨g2,z2⟩:=g2
 obtain⟨g3,z3⟩:=g3
 obtain⟨g4,z4⟩:=g4
 obtain⟨g5,z5⟩:=g5
 obtain⟨g6,z6⟩:=g6
 obtain⟨g7,z7⟩:=g7
 refine ab ?_
 by_cases hlt:z<N
 ·obtain⟨x,hx⟩:∃ x,l[z]? =some x:=⟨_,List.getElem?_eq_getElem aa⟩
  obtain⟨b,off,fM,rfl,hc,⟨_,_,_,_,_,_,_,rfl,⟨sA,pA,nA,cA,tA,yA,mA,dA,rfl,hA⟩,⟨sB,pB,nB,cB,tB,yB,mB,dB,rfl,hB⟩,⟨sC,pC,nC,cC,tC,yC,mC,dC,rfl,hC⟩,⟨sD,pD,nD,cD,tD,yD,mD,dD,rfl,hD⟩,⟨sE,pE,nE,cE,tE,yE,mE,dE,rfl,hE⟩,⟨sF,pF,nF,cF,tF,yF,mF,dF,rfl,hF⟩,⟨sG,pG,nG,cG,tG,yG,mG,dG,rfl,hG⟩⟩⟩:=hv.at hx
  have hsz:=hS (z+1) hlt
  have hsz0:=hS z aa
  have hst:bX kk (z+1)=bX kk z+kk+1:=vf _ _
  refine VS.bo rfl (decide_eq_true (Int.ofNat_lt.2 hlt)) ?_
  refine ab ?_
  refine VO.cond rfl fw ?_
  refine wV rfl ?_
  refine ab ?_
  refine VO.read rfl [.bool sA,.slice pA nA cA,.bool tA,.slice yA mA dA,.bool sB,.slice pB nB cB,.bool tB,.slice yB mB dB,.bool sC,.slice pC nC cC,.bool tC,.slice yC mC dC,.bool sD,.slice pD nD cD,.bool tD,.slice yD mD dD,.bool sE,.slice pE nE cE,.bool tE,.slice yE mE dE,.bool sF,.slice pF nF cF,.bool tF,.slice yF mF dF,.bool sG,.slice pG nG cG,.bool tG,.slice yG mG dG] rfl (eh hc 0 _ ⟨[],rfl⟩) (wV rfl ?_)
  refine ab ?_
  have hkS:kk<=bX kk (z+1):=by rw[hst];omega
  have hzS:bX kk z<=bX kk (z+1):=by rw[hst];omega
  refine VO.fh rfl (fk Tryz.func60) (λHI β ka8 HQ ho=>(vm _ [(oP (l.take z)).p,x.p] (bX kk (z+1)) HI (qj (ss (bX kk (z+1))) (ho.own 21 (.base (List.mem_singleton.2 rfl)) _ _ rfl) [] (vs:=[[.bool s1,.slice p1 n1 c1,.bool t1,.slice y1 m1 d1,.bool s2,.slice p2 n2 c2,.bool t2,.slice y2 m2 d2,.bool s3,.slice p3 n3 c3,.bool t3,.slice y3 m3 d3,.bool s4,.slice p4 n4 c4,.bool t4,.slice y4 m4 d4],[.bool sA,.slice pA nA cA,.bool tA,.slice yA mA dA,.bool sB,.slice pB nB cB,.bool tB,.slice yB mB dB,.bool sC,.slice pC nC cC,.bool tC,.slice yC mC dC,.bool sD,.slice pD nD cD,.bool tD,.slice yD mD dD]]) (by rfl) (.cons (nK.mk (g1.ki (z1.mono hzS)) (g2.ki (z2.mono hzS)) (g3.ki (z3.mono hzS)) (g4.ki (z4.mono hzS))) (.cons (nK.mk ((hA.kp (Kp.of (U:=UU) HQ)).Es hkS) ((hB.kp (Kp.of (U:=UU) HQ)).Es hkS) ((hC.kp (Kp.of (U:=UU) HQ)).Es hkS) ((hD.kp (Kp.of (U:=UU) HQ)).Es hkS)) .nil)) rfl (Nat.le_refl _) (show (2:Nat)<=9223372036854775807 by omega)) (by rw[hst];omega) aa (by unfold bX at*;simp only[List.length_cons,List.length_nil];omega)).mono ?_)
  rintro o w8 ⟨r8,rfl,q8,Ci⟩
  rw[Bg] at q8
  obtain⟨s8a,p8a,n8a,c8a,t8a,y8a,m8a,d8a,s8b,p8b,n8b,c8b,t8b,y8b,m8b,d8b,s8c,p8c,n8c,c8c,t8c,y8c,m8c,d8c,s8d,p8d,n8d,c8d,t8d,y8d,m8d,d8d,rfl,i1,i2,i3,i4⟩:=q8
  refine aB Ci ?_
  intro BM _ bb8
  refine VO.cR rfl rfl (fk Tryz.func13) (λJQ ka9 JR=>df _ _ (oP (l.take z)).due x.due (bX kk z) kk JQ (g5.ki z5) (hE.kp (Kp.of (U:=UU) JR)) aa aa) (λJQ ka9 JR w9 s9 p9 n9 c9 t9 y9 m9 d9 q9 hb9 CS _ bb9=>wV rfl ?_)
  refine ab ?_
  refine VO.cR rfl rfl (fk Tryz.func13) (λma oK uS=>df _ _ (oP (l.take z)).sS x.sS (bX kk z) kk ma (g6.ki z6) (hF.kp (Kp.of (U:=UU) uS)) aa aa) (λma oK uS w10 s10 p10 n10 c10 t10 y10 m10 d10 q10 sQ gw _ CT=>wV rfl ?_)
  refine ab ?_
  refine VO.cR rfl rfl (fk Tryz.func13) (λnz rC wi=>df _ _ (oP (l.take z)).own x.own (bX kk z) kk nz (g7.ki z7) (hG.kp (Kp.of (U:=UU) wi)) aa aa) (λnz rC wi w11 s11 p11 n11 c11 t11 y11 m11 d11 q11 wj kf _ FQ=>wV rfl ?_)
  refine ab ?_
  have lX:sH (bX kk (z+1)) w11 [.bool s8a,.slice p8a n8a c8a,.bool t8a,.slice y8a m8a d8a,.bool s8b,.slice p8b n8b c8b,.bool t8b,.slice y8b m8b d8b,.bool s8c,.slice p8c n8c c8c,.bool t8c,.slice y8c m8c d8c,.bool s8d,.slice p8d n8d c8d,.bool t8d,.slice y8d m8d d8d,.bool s9,.slice p9 n9 c9,.bool t9,.slice y9 m9 d9,.bool s10,.slice p10 n10 c10,.bool t10,.slice y10 m10 d10,.bool s11,.slice p11 n11 c11,.bool t11,.slice y11 m11 d11] (oP (l.take (z+1))):=by
   rw[Ha hx,hst]
   exact⟨_,_,_,_,_,_,_,rfl,.mk i1.k (z1.add (hA.sz jF)),.mk i2.k (z2.add (hB.sz jF)),.mk i3.k (z3.add (hC.sz jF)),.mk i4.k (z4.add (hD.sz jF)),.mk q9.kr (z5.add (hE.sz jF)),.mk q10.kr (z6.add (hF.sz jF)),.mk q11.rd (z7.add (hG.sz jF))⟩
  refine VS.back (N-(z+1)) aa ⟨_,_,?_,?_,?_,?_,⟨z+1,_,by omega,rfl,rfl,rfl,lX⟩⟩
  ·refine⟨rfl,rfl,rfl,rfl,?_,trivial⟩
   rw[<-bD (i:=z) aa];rfl
  ·exact dX
  ·rfl
  ·exact ll
 ·refine VS.bB rfl (decide_eq_false (λe=>hlt (Int.ofNat_lt.1 e))) ?_
  obtain rfl:z=N:=by omega
  refine ab ?_
  refine az ?_;intro wz kz bz
  rw[List.take_of_length_le aa] at g1 g2 g3 g4 g5 g6 g7 z1 z2 z3 z4 z5 z6 z7
  exact⟨_,rfl,⟨[.bool s1,.slice p1 n1 c1,.bool t1,.slice y1 m1 d1,.bool s2,.slice p2 n2 c2,.bool t2,.slice y2 m2 d2,.bool s3,.slice p3 n3 c3,.bool t3,.slice y3 m3 d3,.bool s4,.slice p4 n4 c4,.bool t4,.slice y4 m4 d4,.bool s5,.slice p5 n5 c5,.bool t5,.slice y5 m5 d5,.bool s6,.slice p6 n6 c6,.bool t6,.slice y6 m6 d6,.bool s7,.slice p7 n7 c7,.bool t7,.slice y7 m7 d7],rfl,⟨_,_,_,_,_,_,_,rfl,.mk g1.k z1,.mk g2.k z2,.mk g3.k z3,.mk g4.k z4,.mk g5.k z5,.mk g6.k z6,.mk g7.k z7⟩⟩,bz⟩
set_option maxRecDepth 4000
theorem cf.rtot {w:World} {v:Value} {qs:List Rat} {k:Nat} (h:cf (je k) 4 w v qs):gH w v qs k:=by
 obtain⟨p,c,hv,h1,h2,h3⟩:=h
 refine⟨p,c,hv,h1,h2,λi q hq=> ?_⟩
 obtain⟨b,off,cs,hp,hc,⟨s,p',n,c',t,r,m,d,rfl,hr⟩⟩:=h3 i q hq
 exact⟨b,off,s,p',n,c',t,r,m,d,hp,hc,hr⟩
set_option maxRecDepth 4000 in
theorem Hl (v:Value) (l:List eZ) (kk:Nat) (w:World) (hv:cf (qx kk) 28 w v l) (hk:kk<=100000) (jF:1<=kk) (hn:l.length<=8):
  Calls Tryz.prog 27 #[v] w λo w'=>∃ r,o=.returned r/\AVal w' r (oP l) (ba kk l.length)/\ax w w':=by
 obtain⟨p,c,rfl,dk,dY⟩:=hv.form
 obtain⟨N,hN⟩:∃ N,N=l.length:=⟨_,rfl⟩
 rw[<-hN] at hv dk hn
 rw[<-hN]
 have hst:ba kk N<=1000000:=by
  have:N*(bF kk+1)<=8*100001:=Nat.mul_le_mul aa (by unfold bF;omega)
  unfold ba;omega
 have hst2:bX kk N=ba kk N:=by unfold bX ba bF;rw[Nat.max_eq_left jF]
 refine ae (C:=aR Tryz.prog w _) (args:=[_]) Tryz.func27 rfl Tryz.ntmps27 (bt rfl) ?_
 refine ab ?_
 refine VS.loop (J:=(λm L M w'=>∃ (z:Nat) (X0 X1 X2 X3:AV) (M0 M1 M2 M3:List (Nat×(TypeId×List AV))),z<=N/\m=N-z/\L=[(0,.val (.slice p N c)),(2,.box 2 0),(3,X0),(4,X1),(5,X2),(6,X3),(7,.val (.int .i64 (z:Int)))]/\M=(2,(59,([.bool false,.slice none 0 0,.bool false,.slice none 0 0,.bool false,.slice none 0 0,.bool false,.slice none 0 0,.bool false,.slice none 0 0,.bool false,.slice none 0 0,.bool false,.slice none 0 0,.bool false,.slice none 0 0,.bool false,.slice none 0 0,.bool false,.slice none 0 0,.bool false,.slice none 0 0,.bool false,.slice none 0 0,.bool false,.slice none 0 0,.bool false,.slice none 0 0]:List Value).map .val))::(M0++(M1++(M2++M3)))/\fG (PtE kk) 16 57 21 X0 M0 w' ((l.map (·.p)).take z)/\fG (je kk) 4 55 29 X1 M1 w' ((l.map (·.due)).take z)/\fG (je kk) 4 55 37 X2 M2 w' ((l.map (·.sS)).take z)/\fG (je kk) 4 55 45 X3 M3 w' ((l.map (·.own)).take z))) N ⟨_,_,?_,?_,?_,?_,⟨0,_,_,_,_,[],[],[],[],by omega,rfl,rfl,rfl,.inl ⟨rfl,rfl,rfl⟩,.inl ⟨rfl,rfl,rfl⟩,.inl ⟨rfl,rfl,rfl⟩,.inl ⟨rfl,rfl,rfl⟩⟩⟩ ?_
 ·exact dX
 ·exact dX
 ·rfl
 ·exact ll
 rintro m L M wI ⟨z,X0,X1,X2,X3,M0,M1,M2,M3,hz,rfl,rfl,rfl,R0,R1,R2,R3⟩
 refine VS.now (λwJ kN bN=> ?_)
 replace R0:=R0.kp (ss kk) kN
 replace R1:=R1.kp (bA kk) kN
 replace R2:=R2.kp (bA kk) kN
 replace R3:=R3.kp (bA kk) kN
 refine VS.mask [20,28,36,44] (by rcases R0 with ⟨_,rfl,rfl⟩|⟨_,_,_,_,rfl,rfl,_⟩ <;> rcases R1 with ⟨_,rfl,rfl⟩|⟨_,_,_,_,rfl,rfl,_⟩ <;> rcases R2 with ⟨_,rfl,rfl⟩|⟨_,_,_,_,rfl,rfl,_⟩ <;> rcases R3 with ⟨_,rfl,rfl⟩|⟨_,_,_,_,rfl,rfl,_⟩ <;> (repeat first|exact trivial|refine⟨rfl,?_⟩)) ?_
 refine ab ?_
 by_cases hlt:z<N
 ·obtain⟨x,hx⟩:∃ x,l[z]? =some x:=⟨_,List.getElem?_eq_getElem aa⟩
  have lL:(l.map (·.p))[z]? =some x.p:=by rw[List.getElem?_map,hx];rfl
  have vW:(l.map (·.due))[z]? =some x.due:=by rw[List.getElem?_map,hx];rfl
  have vY:(l.map (·.sS))[z]? =some x.sS:=by rw[List.getElem?_map,hx];rfl
  have hx3:(l.map (·.own))[z]? =some x.own:=by rw[List.getElem?_map,hx];rfl
  obtain⟨b,off,fM,rfl,hc,⟨_,_,_,_,_,_,_,rfl,⟨sA,pA,nA,cA,tA,yA,mA,dA,rfl,hA⟩,⟨sB,pB,nB,cB,tB,yB,mB,dB,rfl,hB⟩,⟨sC,pC,nC,cC,tC,yC,mC,dC,rfl,hC⟩,⟨sD,pD,nD,cD,tD,yD,mD,dD,rfl,hD⟩,⟨sE,pE,nE,cE,tE,yE,mE,dE,rfl,hE⟩,⟨sF,pF,nF,cF,tF,yF,mF,dF,rfl,hF⟩,⟨sG,pG,nG,cG,tG,yG,mG,dG,rfl,hG⟩⟩⟩:=hv.at hx
  refine VS.bo rfl (decide_eq_true (Int.ofNat_lt.2 hlt)) ?_
  refine ab ?_
  refine VO.cond rfl fw ?_
  refine wV rfl ?_
  refine ab ?_
  refine VO.read rfl [.bool sA,.slice pA nA cA,.bool tA,.slice yA mA dA,.bool sB,.slice pB nB cB,.bool tB,.slice yB mB dB,.bool sC,.slice pC nC cC,.bool tC,.slice yC mC dC,.bool sD,.slice pD nD cD,.bool tD,.slice yD mD dD] rfl (eh hc 0 _ ⟨_,rfl⟩) (wV rfl ?_)
  refine ab ?_
  apply VO.join (P:=Entry (λ_ L M w'=>∃ (Y:AV) (O:List (Nat×(TypeId×List AV))),L=[(0,.val (.slice (some ⟨b,off,none⟩) N c)),(2,.box 2 0),(3,Y),(4,X1),(5,X2),(6,X3),(7,.val (.int .i64 (z:Int)))]/\
   M=(2,(59,([.bool false,.slice none 0 0,.bool false,.slice none 0 0,.bool false,.slice none 0 0,.bool false,.slice none 0 0,.bool false,.slice none 0 0,.bool false,.slice none 0 0,.bool false,.slice none 0 0,.bool false,.slice none 0 0,.bool false,.slice none 0 0,.bool false,.slice none 0 0,.bool false,.slice none 0 0,.bool false,.slice none 0 0,.bool false,.slice none 0 0,.bool false,.slice none 0 0]:List Value).map .val))::(O++(M1++(M2++M3)))/\fG (PtE kk) 16 57 21 Y O w' ((l.map (·.p)).take (z+1))/\Kp UU wJ w') 0)
  ·intro cont
   have ny:(PtE kk) wJ [.bool sA,.slice pA nA cA,.bool tA,.slice yA mA dA,.bool sB,.slice pB nB cB,.bool tB,.slice yB mB dB,.bool sC,.slice pC nC cC,.bool tC,.slice yC mC dC,.bool sD,.slice pD nD cD,.bool tD,.slice yD mD dD] x.p:=nK.mk (hA.kp (Kp.of (U:=UU) bN)) (hB.kp (Kp.of (U:=UU) bN)) (hC.kp (Kp.of (U:=UU) bN)) (hD.kp (Kp.of (U:=UU) bN))
   rcases R0 with ⟨dZ,rfl,rfl⟩|⟨n',c',vs,sp,rfl,rfl,qu⟩
   ·refine VO.sn (bQ _ _) (ss kk) (t:=144) (e:=57) (s:=20) (a:=x.p) (cs:=[.bool sA,.slice pA nA cA,.bool tA,.slice yA mA dA,.bool sB,.slice pB nB cB,.bool tB,.slice yB mB dB,.bool sC,.slice pC nC cC,.bool tC,.slice yC mC dC,.bool sD,.slice pD nD cD,.bool tD,.slice yD mD dD]) rfl rfl rfl rfl rfl rfl rfl rfl (bt rfl) rfl (by rcases R1 with ⟨_,rfl,rfl⟩|⟨_,_,_,_,rfl,rfl,_⟩ <;> rcases R2 with ⟨_,rfl,rfl⟩|⟨_,_,_,_,rfl,rfl,_⟩ <;> rcases R3 with ⟨_,rfl,rfl⟩|⟨_,_,_,_,rfl,rfl,_⟩ <;> rfl) rfl ny aa (λw8 cap sp k8 b8 nM=>wV rfl (wN ?_))
    refine cont _ _ _ ⟨_,_,?_,?_,?_,?_,⟨_,_,rfl,rfl,.inr ⟨1,cap,_,sp,rfl,rfl,by rw[aF lL,dZ];exact nM⟩,bG⟩⟩
    ·rcases R1 with ⟨_,rfl,rfl⟩|⟨_,_,_,_,rfl,rfl,_⟩ <;> rcases R2 with ⟨_,rfl,rfl⟩|⟨_,_,_,_,rfl,rfl,_⟩ <;> rcases R3 with ⟨_,rfl,rfl⟩|⟨_,_,_,_,rfl,rfl,_⟩ <;> (repeat first|exact trivial|refine⟨rfl,?_⟩)
    ·rcases R1 with ⟨_,rfl,rfl⟩|⟨_,_,_,_,rfl,rfl,_⟩ <;> rcases R2 with ⟨_,rfl,rfl⟩|⟨_,_,_,_,rfl,rfl,_⟩ <;> rcases R3 with ⟨_,rfl,rfl⟩|⟨_,_,_,_,rfl,rfl,_⟩ <;> (repeat first|exact trivial|refine⟨rfl,?_⟩|refine⟨congrArg (λl=>some (_,l)) (bT (by first|exact cg.cX (by assumption)|exact af _|(rw[<-List.map_append];exact af _)) _ _),?_⟩)
    ·rcases R1 with ⟨_,rfl,rfl⟩|⟨_,_,_,_,rfl,rfl,_⟩ <;> rcases R2 with ⟨_,rfl,rfl⟩|⟨_,_,_,_,rfl,rfl,_⟩ <;> rcases R3 with ⟨_,rfl,rfl⟩|⟨_,_,_,_,rfl,rfl,_⟩ <;> rfl
    ·rcases R1 with ⟨_,rfl,rfl⟩|⟨_,_,_,_,rfl,rfl,_⟩ <;> rcases R2 with ⟨_,rfl,rfl⟩|⟨_,_,_,_,rfl,rfl,_⟩ <;> rcases R3 with ⟨_,rfl,rfl⟩|⟨_,_,_,_,rfl,rfl,_⟩ <;> (repeat first|exact trivial|refine⟨aq.lit rfl,?_⟩|refine⟨cg.vd (by assumption),?_⟩|refine⟨aq.append (.vals _) (.vals _),?_⟩|refine⟨aq.vals _,?_⟩)
   ·have oX:=qu.len
    rw[List.length_take] at oX
    refine VO.sq (bQ _ _) (ss kk) (t:=144) (e:=57) (s:=20) (i:=21) (n:=n') (c:=c') (vs:=vs) (sp:=sp) (es:=(l.map (·.p)).take z) (a:=x.p) (cs:=[.bool sA,.slice pA nA cA,.bool tA,.slice yA mA dA,.bool sB,.slice pB nB cB,.bool tB,.slice yB mB dB,.bool sC,.slice pC nC cC,.bool tC,.slice yC mC dC,.bool sD,.slice pD nD cD,.bool tD,.slice yD mD dD]) rfl rfl rfl rfl rfl rfl rfl rfl (bt rfl) rfl (.inr rfl) (by rcases R1 with ⟨_,rfl,rfl⟩|⟨_,_,_,_,rfl,rfl,_⟩ <;> rcases R2 with ⟨_,rfl,rfl⟩|⟨_,_,_,_,rfl,rfl,_⟩ <;> rcases R3 with ⟨_,rfl,rfl⟩|⟨_,_,_,_,rfl,rfl,_⟩ <;> rfl) (qu.kp (ss kk) bG) rfl ny aa (λw8 oT xt ρ k8 b8 eH nM=>wV rfl (wN ?_))
    refine cont _ _ _ ⟨_,_,?_,?_,?_,?_,⟨_,_,rfl,rfl,.inr ⟨n' +1,oT,_,xt,rfl,rfl,by rw[aF lL];exact nM⟩,bG⟩⟩
    ·rcases R1 with ⟨_,rfl,rfl⟩|⟨_,_,_,_,rfl,rfl,_⟩ <;> rcases R2 with ⟨_,rfl,rfl⟩|⟨_,_,_,_,rfl,rfl,_⟩ <;> rcases R3 with ⟨_,rfl,rfl⟩|⟨_,_,_,_,rfl,rfl,_⟩ <;> (repeat first|exact trivial|refine⟨rfl,?_⟩)
    ·rcases R1 with ⟨_,rfl,rfl⟩|⟨_,_,_,_,rfl,rfl,_⟩ <;> rcases R2 with ⟨_,rfl,rfl⟩|⟨_,_,_,_,rfl,rfl,_⟩ <;> rcases R3 with ⟨_,rfl,rfl⟩|⟨_,_,_,_,rfl,rfl,_⟩ <;> (repeat first|exact trivial|refine⟨rfl,?_⟩|refine⟨congrArg (λl=>some (_,l)) (bT (by first|exact cg.cX (by assumption)|exact af _|(rw[<-List.map_append];exact af _)) _ _),?_⟩)
    ·rcases R1 with ⟨_,rfl,rfl⟩|⟨_,_,_,_,rfl,rfl,_⟩ <;> rcases R2 with ⟨_,rfl,rfl⟩|⟨_,_,_,_,rfl,rfl,_⟩ <;> rcases R3 with ⟨_,rfl,rfl⟩|⟨_,_,_,_,rfl,rfl,_⟩ <;> rfl
    ·rcases R1 with ⟨_,rfl,rfl⟩|⟨_,_,_,_,rfl,rfl,_⟩ <;> rcases R2 with ⟨_,rfl,rfl⟩|⟨_,_,_,_,rfl,rfl,_⟩ <;> rcases R3 with ⟨_,rfl,rfl⟩|⟨_,_,_,_,rfl,rfl,_⟩ <;> (repeat first|exact trivial|refine⟨aq.lit rfl,?_⟩|refine⟨cg.vd (by assumption),?_⟩|refine⟨aq.append (.vals _) (.vals _),?_⟩|refine⟨aq.vals _,?_⟩)
  clear R0
  rintro F0 H0 v0 ⟨_,_,e1,e2,e3,e4,X0,M0,rfl,rfl,R0,kv0⟩
  refine VS.narrow _ _ e1 e2 e3 e4 ?_
  clear e1 e2 e3 e4 F0 H0
  refine VS.mask [20,28,36,44] (by rcases R0 with ⟨_,rfl,rfl⟩|⟨_,_,_,_,rfl,rfl,_⟩ <;> rcases R1 with ⟨_,rfl,rfl⟩|⟨_,_,_,_,rfl,rfl,_⟩ <;> rcases R2 with ⟨_,rfl,rfl⟩|⟨_,_,_,_,rfl,rfl,_⟩ <;> rcases R3 with ⟨_,rfl,rfl⟩|⟨_,_,_,_,rfl,rfl,_⟩ <;> (repeat first|exact trivial|refine⟨rfl,?_⟩)) ?_
  refine ab ?_
  refine VO.cond rfl fw ?_
  refine wV rfl ?_
  refine ab ?_
  refine VO.read rfl [.bool sE,.slice pE nE cE,.bool tE,.slice yE mE dE] rfl (eh hc 16 _ ⟨_,rfl⟩) (wV rfl ?_)
  refine ab ?_
  apply VO.join (P:=Entry (λ_ L M w'=>∃ (Y:AV) (O:List (Nat×(TypeId×List AV))),L=[(0,.val (.slice (some ⟨b,off,none⟩) N c)),(2,.box 2 0),(3,X0),(4,Y),(5,X2),(6,X3),(7,.val (.int .i64 (z:Int)))]/\
   M=(2,(59,([.bool false,.slice none 0 0,.bool false,.slice none 0 0,.bool false,.slice none 0 0,.bool false,.slice none 0 0,.bool false,.slice none 0 0,.bool false,.slice none 0 0,.bool false,.slice none 0 0,.bool false,.slice none 0 0,.bool false,.slice none 0 0,.bool false,.slice none 0 0,.bool false,.slice none 0 0,.bool false,.slice none 0 0,.bool false,.slice none 0 0,.bool false,.slice none 0 0]:List Value).map .val))::(M0++(O++(M2++M3)))/\fG (je kk) 4 55 29 Y O w' ((l.map (·.due)).take (z+1))/\Kp UU v0 w') 0)
  ·intro cont
   have ny:(je kk) v0 [.bool sE,.slice pE nE cE,.bool tE,.slice yE mE dE] x.due:=.mk ((hE.kp (Kp.of (U:=UU) bN)).k)
   rcases R1 with ⟨dZ,rfl,rfl⟩|⟨n',c',vs,sp,rfl,rfl,qu⟩
   ·refine VO.sn (bQ _ _) (bA kk) (t:=131) (e:=55) (s:=28) (a:=x.due) (cs:=[.bool sE,.slice pE nE cE,.bool tE,.slice yE mE dE]) rfl rfl rfl rfl rfl rfl rfl rfl (bt rfl) rfl (by rcases R0 with ⟨_,rfl,rfl⟩|⟨_,_,_,_,rfl,rfl,_⟩ <;> rcases R2 with ⟨_,rfl,rfl⟩|⟨_,_,_,_,rfl,rfl,_⟩ <;> rcases R3 with ⟨_,rfl,rfl⟩|⟨_,_,_,_,rfl,rfl,_⟩ <;> rfl) rfl ny aa (λw8 cap sp k8 b8 nM=>wV rfl (wN ?_))
    refine cont _ _ _ ⟨_,_,?_,?_,?_,?_,⟨_,_,rfl,rfl,.inr ⟨1,cap,_,sp,rfl,rfl,by rw[aF vW,dZ];exact nM⟩,bG⟩⟩
    ·rcases R0 with ⟨_,rfl,rfl⟩|⟨_,_,_,_,rfl,rfl,_⟩ <;> rcases R2 with ⟨_,rfl,rfl⟩|⟨_,_,_,_,rfl,rfl,_⟩ <;> rcases R3 with ⟨_,rfl,rfl⟩|⟨_,_,_,_,rfl,rfl,_⟩ <;> (repeat first|exact trivial|refine⟨rfl,?_⟩)
    ·rcases R0 with ⟨_,rfl,rfl⟩|⟨_,_,_,_,rfl,rfl,_⟩ <;> rcases R2 with ⟨_,rfl,rfl⟩|⟨_,_,_,_,rfl,rfl,_⟩ <;> rcases R3 with ⟨_,rfl,rfl⟩|⟨_,_,_,_,rfl,rfl,_⟩ <;> (repeat first|exact trivial|refine⟨rfl,?_⟩|refine⟨congrArg (λl=>some (_,l)) (bT (by first|exact cg.cX (by assumption)|exact af _|(rw[<-List.map_append];exact af _)) _ _),?_⟩)
    ·rcases R0 with ⟨_,rfl,rfl⟩|⟨_,_,_,_,rfl,rfl,_⟩ <;> rcases R2 with ⟨_,rfl,rfl⟩|⟨_,_,_,_,rfl,rfl,_⟩ <;> rcases R3 with ⟨_,rfl,rfl⟩|⟨_,_,_,_,rfl,rfl,_⟩ <;> rfl
    ·rcases R0 with ⟨_,rfl,rfl⟩|⟨_,_,_,_,rfl,rfl,_⟩ <;> rcases R2 with ⟨_,rfl,rfl⟩|⟨_,_,_,_,rfl,rfl,_⟩ <;> rcases R3 with ⟨_,rfl,rfl⟩|⟨_,_,_,_,rfl,rfl,_⟩ <;> (repeat first|exact trivial|refine⟨aq.lit rfl,?_⟩|refine⟨cg.vd (by assumption),?_⟩|refine⟨aq.append (.vals _) (.vals _),?_⟩|refine⟨aq.vals _,?_⟩)
   ·have oX:=qu.len
    rw[List.length_take] at oX
    refine VO.sq (bQ _ _) (bA kk) (t:=131) (e:=55) (s:=28) (i:=29) (n:=n') (c:=c') (vs:=vs) (sp:=sp) (es:=(l.map (·.due)).take z) (a:=x.due) (cs:=[.bool sE,.slice pE nE cE,.bool tE,.slice yE mE dE]) rfl rfl rfl rfl rfl rfl rfl rfl (bt rfl) rfl (.inr rfl) (by rcases R0 with ⟨_,rfl,rfl⟩|⟨_,_,_,_,rfl,rfl,_⟩ <;> rcases R2 with ⟨_,rfl,rfl⟩|⟨_,_,_,_,rfl,rfl,_⟩ <;> rcases R3 with ⟨_,rfl,rfl⟩|⟨_,_,_,_,rfl,rfl,_⟩ <;> rfl) (qu.kp (bA kk) bG) rfl ny aa (λw8 oT xt ρ k8 b8 eH nM=>wV rfl (wN ?_))
    refine cont _ _ _ ⟨_,_,?_,?_,?_,?_,⟨_,_,rfl,rfl,.inr ⟨n' +1,oT,_,xt,rfl,rfl,by rw[aF vW];exact nM⟩,bG⟩⟩
    ·rcases R0 with ⟨_,rfl,rfl⟩|⟨_,_,_,_,rfl,rfl,_⟩ <;> rcases R2 with ⟨_,rfl,rfl⟩|⟨_,_,_,_,rfl,rfl,_⟩ <;> rcases R3 with ⟨_,rfl,rfl⟩|⟨_,_,_,_,rfl,rfl,_⟩ <;> (repeat first|exact trivial|refine⟨rfl,?_⟩)
    ·rcases R0 with ⟨_,rfl,rfl⟩|⟨_,_,_,_,rfl,rfl,_⟩ <;> rcases R2 with ⟨_,rfl,rfl⟩|⟨_,_,_,_,rfl,rfl,_⟩ <;> rcases R3 with ⟨_,rfl,rfl⟩|⟨_,_,_,_,rfl,rfl,_⟩ <;> (repeat first|exact trivial|refine⟨rfl,?_⟩|refine⟨congrArg (λl=>some (_,l)) (bT (by first|exact cg.cX (by assumption)|exact af _|(rw[<-List.map_append];exact af _)) _ _),?_⟩)
    ·rcases R0 with ⟨_,rfl,rfl⟩|⟨_,_,_,_,rfl,rfl,_⟩ <;> rcases R2 with ⟨_,rfl,rfl⟩|⟨_,_,_,_,rfl,rfl,_⟩ <;> rcases R3 with ⟨_,rfl,rfl⟩|⟨_,_,_,_,rfl,rfl,_⟩ <;> rfl
    ·rcases R0 with ⟨_,rfl,rfl⟩|⟨_,_,_,_,rfl,rfl,_⟩ <;> rcases R2 with ⟨_,rfl,rfl⟩|⟨_,_,_,_,rfl,rfl,_⟩ <;> rcases R3 with ⟨_,rfl,rfl⟩|⟨_,_,_,_,rfl,rfl,_⟩ <;> (repeat first|exact trivial|refine⟨aq.lit rfl,?_⟩|refine⟨cg.vd (by assumption),?_⟩|refine⟨aq.append (.vals _) (.vals _),?_⟩|refine⟨aq.vals _,?_⟩)
  clear R1
  rintro F1 H1 v1 ⟨_,_,e1,e2,e3,e4,X1,M1,rfl,rfl,R1,kv1⟩
  refine VS.narrow _ _ e1 e2 e3 e4 ?_
  clear e1 e2 e3 e4 F1 H1
  refine VS.mask [20,28,36,44] (by rcases R0 with ⟨_,rfl,rfl⟩|⟨_,_,_,_,rfl,rfl,_⟩ <;> rcases R1 with ⟨_,rfl,rfl⟩|⟨_,_,_,_,rfl,rfl,_⟩ <;> rcases R2 with ⟨_,rfl,rfl⟩|⟨_,_,_,_,rfl,rfl,_⟩ <;> rcases R3 with ⟨_,rfl,rfl⟩|⟨_,_,_,_,rfl,rfl,_⟩ <;> (repeat first|exact trivial|refine⟨rfl,?_⟩)) ?_
  refine ab ?_
  refine VO.cond rfl fw ?_
  refine wV rfl ?_
  refine ab ?_
  refine VO.read rfl [.bool sF,.slice pF nF cF,.bool tF,.slice yF mF dF] rfl (eh hc 20 _ ⟨_,rfl⟩) (wV rfl ?_)
  refine ab ?_
  apply VO.join (P:=Entry (λ_ L M w'=>∃ (Y:AV) (O:List (Nat×(TypeId×List AV))),L=[(0,.val (.slice (some ⟨b,off,none⟩) N c)),(2,.box 2 0),(3,X0),(4,X1),(5,Y),(6,X3),(7,.val (.int .i64 (z:Int)))]/\
   M=(2,(59,([.bool false,.slice none 0 0,.bool false,.slice none 0 0,.bool false,.slice none 0 0,.bool false,.slice none 0 0,.bool false,.slice none 0 0,.bool false,.slice none 0 0,.bool false,.slice none 0 0,.bool false,.slice none 0 0,.bool false,.slice none 0 0,.bool false,.slice none 0 0,.bool false,.slice none 0 0,.bool false,.slice none 0 0,.bool false,.slice none 0 0,.bool false,.slice none 0 0]:List Value).map .val))::(M0++(M1++(O++M3)))/\fG (je kk) 4 55 37 Y O w' ((l.map (·.sS)).take (z+1))/\Kp UU v1 w') 0)
  ·intro cont
   have ny:(je kk) v1 [.bool sF,.slice pF nF cF,.bool tF,.slice yF mF dF] x.sS:=.mk ((hF.kp (Kp.of (U:=UU) bN)).k)
   rcases R2 with ⟨dZ,rfl,rfl⟩|⟨n',c',vs,sp,rfl,rfl,qu⟩
   ·refine VO.sn (bQ _ _) (bA kk) (t:=131) (e:=55) (s:=36) (a:=x.sS) (cs:=[.bool sF,.slice pF nF cF,.bool tF,.slice yF mF dF]) rfl rfl rfl rfl rfl rfl rfl rfl (bt rfl) rfl (by rcases R0 with ⟨_,rfl,rfl⟩|⟨_,_,_,_,rfl,rfl,_⟩ <;> rcases R1 with ⟨_,rfl,rfl⟩|⟨_,_,_,_,rfl,rfl,_⟩ <;> rcases R3 with ⟨_,rfl,rfl⟩|⟨_,_,_,_,rfl,rfl,_⟩ <;> rfl) rfl ny aa (λw8 cap sp k8 b8 nM=>wV rfl (wN ?_))
    refine cont _ _ _ ⟨_,_,?_,?_,?_,?_,⟨_,_,rfl,rfl,.inr ⟨1,cap,_,sp,rfl,rfl,by rw[aF vY,dZ];exact nM⟩,bG⟩⟩
    ·rcases R0 with ⟨_,rfl,rfl⟩|⟨_,_,_,_,rfl,rfl,_⟩ <;> rcases R1 with ⟨_,rfl,rfl⟩|⟨_,_,_,_,rfl,rfl,_⟩ <;> rcases R3 with ⟨_,rfl,rfl⟩|⟨_,_,_,_,rfl,rfl,_⟩ <;> (repeat first|exact trivial|refine⟨rfl,?_⟩)
    ·rcases R0 with ⟨_,rfl,rfl⟩|⟨_,_,_,_,rfl,rfl,_⟩ <;> rcases R1 with ⟨_,rfl,rfl⟩|⟨_,_,_,_,rfl,rfl,_⟩ <;> rcases R3 with ⟨_,rfl,rfl⟩|⟨_,_,_,_,rfl,rfl,_⟩ <;> (repeat first|exact trivial|refine⟨rfl,?_⟩|refine⟨congrArg (λl=>some (_,l)) (bT (by first|exact cg.cX (by assumption)|exact af _|(rw[<-List.map_append];exact af _)) _ _),?_⟩)
    ·rcases R0 with ⟨_,rfl,rfl⟩|⟨_,_,_,_,rfl,rfl,_⟩ <;> rcases R1 with ⟨_,rfl,rfl⟩|⟨_,_,_,_,rfl,rfl,_⟩ <;> rcases R3 with ⟨_,rfl,rfl⟩|⟨_,_,_,_,rfl,rfl,_⟩ <;> rfl
    ·rcases R0 with ⟨_,rfl,rfl⟩|⟨_,_,_,_,rfl,rfl,_⟩ <;> rcases R1 with ⟨_,rfl,rfl⟩|⟨_,_,_,_,rfl,rfl,_⟩ <;> rcases R3 with ⟨_,rfl,rfl⟩|⟨_,_,_,_,rfl,rfl,_⟩ <;> (repeat first|exact trivial|refine⟨aq.lit rfl,?_⟩|refine⟨cg.vd (by assumption),?_⟩|refine⟨aq.append (.vals _) (.vals _),?_⟩|refine⟨aq.vals _,?_⟩)
   ·have oX:=qu.len
    rw[List.length_take] at oX
    refine VO.sq (bQ _ _) (bA kk) (t:=131) (e:=55) (s:=36) (i:=37) (n:=n') (c:=c') (vs:=vs) (sp:=sp) (es:=(l.map (·.sS)).take z) (a:=x.sS) (cs:=[.bool sF,.slice pF nF cF,.bool tF,.slice yF mF dF]) rfl rfl rfl rfl rfl rfl rfl rfl (bt rfl) rfl (.inr rfl) (by rcases R0 with ⟨_,rfl,rfl⟩|⟨_,_,_,_,rfl,rfl,_⟩ <;> rcases R1 with ⟨_,rfl,rfl⟩|⟨_,_,_,_,rfl,rfl,_⟩ <;> rcases R3 with ⟨_,rfl,rfl⟩|⟨_,_,_,_,rfl,rfl,_⟩ <;> rfl) (qu.kp (bA kk) bG) rfl ny aa (λw8 oT xt ρ k8 b8 eH nM=>wV rfl (wN ?_))
    refine cont _ _ _ ⟨_,_,?_,?_,?_,?_,⟨_,_,rfl,rfl,.inr ⟨n' +1,oT,_,xt,rfl,rfl,by rw[aF vY];exact nM⟩,bG⟩⟩
    ·rcases R0 with ⟨_,rfl,rfl⟩|⟨_,_,_,_,rfl,rfl,_⟩ <;> rcases R1 with ⟨_,rfl,rfl⟩|⟨_,_,_,_,rfl,rfl,_⟩ <;> rcases R3 with ⟨_,rfl,rfl⟩|⟨_,_,_,_,rfl,rfl,_⟩ <;> (repeat first|exact trivial|refine⟨rfl,?_⟩)
    ·rcases R0 with ⟨_,rfl,rfl⟩|⟨_,_,_,_,rfl,rfl,_⟩ <;> rcases R1 with ⟨_,rfl,rfl⟩|⟨_,_,_,_,rfl,rfl,_⟩ <;> rcases R3 with ⟨_,rfl,rfl⟩|⟨_,_,_,_,rfl,rfl,_⟩ <;> (repeat first|exact trivial|refine⟨rfl,?_⟩|refine⟨congrArg (λl=>some (_,l)) (bT (by first|exact cg.cX (by assumption)|exact af _|(rw[<-List.map_append];exact af _)) _ _),?_⟩)
    ·rcases R0 with ⟨_,rfl,rfl⟩|⟨_,_,_,_,rfl,rfl,_⟩ <;> rcases R1 with ⟨_,rfl,rfl⟩|⟨_,_,_,_,rfl,rfl,_⟩ <;> rcases R3 with ⟨_,rfl,rfl⟩|⟨_,_,_,_,rfl,rfl,_⟩ <;> rfl
    ·rcases R0 with ⟨_,rfl,rfl⟩|⟨_,_,_,_,rfl,rfl,_⟩ <;> rcases R1 with ⟨_,rfl,rfl⟩|⟨_,_,_,_,rfl,rfl,_⟩ <;> rcases R3 with ⟨_,rfl,rfl⟩|⟨_,_,_,_,rfl,rfl,_⟩ <;> (repeat first|exact trivial|refine⟨aq.lit rfl,?_⟩|refine⟨cg.vd (by assumption),?_⟩|refine⟨aq.append (.vals _) (.vals _),?_⟩|refine⟨aq.vals _,?_⟩)
  clear R2
  rintro F2 H2 v2 ⟨_,_,e1,e2,e3,e4,X2,M2,rfl,rfl,R2,kv2⟩
  refine VS.narrow _ _ e1 e2 e3 e4 ?_
  clear e1 e2 e3 e4 F2 H2
  refine VS.mask [20,28,36,44] (by rcases R0 with ⟨_,rfl,rfl⟩|⟨_,_,_,_,rfl,rfl,_⟩ <;> rcases R1 with ⟨_,rfl,rfl⟩|⟨_,_,_,_,rfl,rfl,_⟩ <;> rcases R2 with ⟨_,rfl,rfl⟩|⟨_,_,_,_,rfl,rfl,_⟩ <;> rcases R3 with ⟨_,rfl,rfl⟩|⟨_,_,_,_,rfl,rfl,_⟩ <;> (repeat first|exact trivial|refine⟨rfl,?_⟩)) ?_
  refine ab ?_
  refine VO.cond rfl fw ?_
  refine wV rfl ?_
  refine ab ?_
  refine VO.read rfl [.bool sG,.slice pG nG cG,.bool tG,.slice yG mG dG] rfl (eh hc 24 _ ⟨_,rfl⟩) (wV rfl ?_)
  refine ab ?_
  apply VO.join (P:=Entry (λ_ L M w'=>∃ (Y:AV) (O:List (Nat×(TypeId×List AV))),L=[(0,.val (.slice (some ⟨b,off,none⟩) N c)),(2,.box 2 0),(3,X0),(4,X1),(5,X2),(6,Y),(7,.val (.int .i64 (z:Int)))]/\
   M=(2,(59,([.bool false,.slice none 0 0,.bool false,.slice none 0 0,.bool false,.slice none 0 0,.bool false,.slice none 0 0,.bool false,.slice none 0 0,.bool false,.slice none 0 0,.bool false,.slice none 0 0,.bool false,.slice none 0 0,.bool false,.slice none 0 0,.bool false,.slice none 0 0,.bool false,.slice none 0 0,.bool false,.slice none 0 0,.bool false,.slice none 0 0,.bool false,.slice none 0 0]:List Value).map .val))::(M0++(M1++(M2++O)))/\fG (je kk) 4 55 45 Y O w' ((l.map (·.own)).take (z+1))/\Kp UU v2 w') 0)
  ·intro cont
   have ny:(je kk) v2 [.bool sG,.slice pG nG cG,.bool tG,.slice yG mG dG] x.own:=.mk ((hG.kp (Kp.of (U:=UU) bN)).k)
   rcases R3 with ⟨dZ,rfl,rfl⟩|⟨n',c',vs,sp,rfl,rfl,qu⟩
   ·refine VO.sn (bQ _ _) (bA kk) (t:=131) (e:=55) (s:=44) (a:=x.own) (cs:=[.bool sG,.slice pG nG cG,.bool tG,.slice yG mG dG]) rfl rfl rfl rfl rfl rfl rfl rfl (bt rfl) rfl (by rcases R0 with ⟨_,rfl,rfl⟩|⟨_,_,_,_,rfl,rfl,_⟩ <;> rcases R1 with ⟨_,rfl,rfl⟩|⟨_,_,_,_,rfl,rfl,_⟩ <;> rcases R2 with ⟨_,rfl,rfl⟩|⟨_,_,_,_,rfl,rfl,_⟩ <;> rfl) rfl ny aa (λw8 cap sp k8 b8 nM=>wV rfl (wN ?_))
    refine cont _ _ _ ⟨_,_,?_,?_,?_,?_,⟨_,_,rfl,rfl,.inr ⟨1,cap,_,sp,rfl,rfl,by rw[aF hx3,dZ];exact nM⟩,bG⟩⟩
    ·rcases R0 with ⟨_,rfl,rfl⟩|⟨_,_,_,_,rfl,rfl,_⟩ <;> rcases R1 with ⟨_,rfl,rfl⟩|⟨_,_,_,_,rfl,rfl,_⟩ <;> rcases R2 with ⟨_,rfl,rfl⟩|⟨_,_,_,_,rfl,rfl,_⟩ <;> (repeat first|exact trivial|refine⟨rfl,?_⟩)
    ·rcases R0 with ⟨_,rfl,rfl⟩|⟨_,_,_,_,rfl,rfl,_⟩ <;> rcases R1 with ⟨_,rfl,rfl⟩|⟨_,_,_,_,rfl,rfl,_⟩ <;> rcases R2 with ⟨_,rfl,rfl⟩|⟨_,_,_,_,rfl,rfl,_⟩ <;> (repeat first|exact trivial|refine⟨rfl,?_⟩|refine⟨congrArg (λl=>some (_,l)) (bT (by first|exact cg.cX (by assumption)|exact af _|(rw[<-List.map_append];exact af _)) _ _),?_⟩)
    ·rcases R0 with ⟨_,rfl,rfl⟩|⟨_,_,_,_,rfl,rfl,_⟩ <;> rcases R1 with ⟨_,rfl,rfl⟩|⟨_,_,_,_,rfl,rfl,_⟩ <;> rcases R2 with ⟨_,rfl,rfl⟩|⟨_,_,_,_,rfl,rfl,_⟩ <;> rfl
    ·rcases R0 with ⟨_,rfl,rfl⟩|⟨_,_,_,_,rfl,rfl,_⟩ <;> rcases R1 with ⟨_,rfl,rfl⟩|⟨_,_,_,_,rfl,rfl,_⟩ <;> rcases R2 with ⟨_,rfl,rfl⟩|⟨_,_,_,_,rfl,rfl,_⟩ <;> (repeat first|exact trivial|refine⟨aq.lit rfl,?_⟩|refine⟨cg.vd (by assumption),?_⟩|refine⟨aq.append (.vals _) (.vals _),?_⟩|refine⟨aq.vals _,?_⟩)
   ·have oX:=qu.len
    rw[List.length_take] at oX
    refine VO.sq (bQ _ _) (bA kk) (t:=131) (e:=55) (s:=44) (i:=45) (n:=n') (c:=c') (vs:=vs) (sp:=sp) (es:=(l.map (·.own)).take z) (a:=x.own) (cs:=[.bool sG,.slice pG nG cG,.bool tG,.slice yG mG dG]) rfl rfl rfl rfl rfl rfl rfl rfl (bt rfl) rfl (.inr rfl) (by rcases R0 with ⟨_,rfl,rfl⟩|⟨_,_,_,_,rfl,rfl,_⟩ <;> rcases R1 with ⟨_,rfl,rfl⟩|⟨_,_,_,_,rfl,rfl,_⟩ <;> rcases R2 with ⟨_,rfl,rfl⟩|⟨_,_,_,_,rfl,rfl,_⟩ <;> rfl) (qu.kp (bA kk) bG) rfl ny aa (λw8 oT xt ρ k8 b8 eH nM=>wV rfl (wN ?_))
    refine cont _ _ _ ⟨_,_,?_,?_,?_,?_,⟨_,_,rfl,rfl,.inr ⟨n' +1,oT,_,xt,rfl,rfl,by rw[aF hx3];exact nM⟩,bG⟩⟩
    ·rcases R0 with ⟨_,rfl,rfl⟩|⟨_,_,_,_,rfl,rfl,_⟩ <;> rcases R1 with ⟨_,rfl,rfl⟩|⟨_,_,_,_,rfl,rfl,_⟩ <;> rcases R2 with ⟨_,rfl,rfl⟩|⟨_,_,_,_,rfl,rfl,_⟩ <;> (repeat first|exact trivial|refine⟨rfl,?_⟩)
    ·rcases R0 with ⟨_,rfl,rfl⟩|⟨_,_,_,_,rfl,rfl,_⟩ <;> rcases R1 with ⟨_,rfl,rfl⟩|⟨_,_,_,_,rfl,rfl,_⟩ <;> rcases R2 with ⟨_,rfl,rfl⟩|⟨_,_,_,_,rfl,rfl,_⟩ <;> (repeat first|exact trivial|refine⟨rfl,?_⟩|refine⟨congrArg (λl=>some (_,l)) (bT (by first|exact cg.cX (by assumption)|exact af _|(rw[<-List.map_append];exact af _)) _ _),?_⟩)
    ·rcases R0 with ⟨_,rfl,rfl⟩|⟨_,_,_,_,rfl,rfl,_⟩ <;> rcases R1 with ⟨_,rfl,rfl⟩|⟨_,_,_,_,rfl,rfl,_⟩ <;> rcases R2 with ⟨_,rfl,rfl⟩|⟨_,_,_,_,rfl,rfl,_⟩ <;> rfl
    ·rcases R0 with ⟨_,rfl,rfl⟩|⟨_,_,_,_,rfl,rfl,_⟩ <;> rcases R1 with ⟨_,rfl,rfl⟩|⟨_,_,_,_,rfl,rfl,_⟩ <;> rcases R2 with ⟨_,rfl,rfl⟩|⟨_,_,_,_,rfl,rfl,_⟩ <;> (repeat first|exact trivial|refine⟨aq.lit rfl,?_⟩|refine⟨cg.vd (by assumption),?_⟩|refine⟨aq.append (.vals _) (.vals _),?_⟩|refine⟨aq.vals _,?_⟩)
  clear R3
  rintro F3 H3 v3 ⟨_,_,e1,e2,e3,e4,X3,M3,rfl,rfl,R3,kv3⟩
  refine VS.narrow _ _ e1 e2 e3 e4 ?_
  clear e1 e2 e3 e4 F3 H3
  refine VS.mask [20,28,36,44] (by rcases R0 with ⟨_,rfl,rfl⟩|⟨_,_,_,_,rfl,rfl,_⟩ <;> rcases R1 with ⟨_,rfl,rfl⟩|⟨_,_,_,_,rfl,rfl,_⟩ <;> rcases R2 with ⟨_,rfl,rfl⟩|⟨_,_,_,_,rfl,rfl,_⟩ <;> rcases R3 with ⟨_,rfl,rfl⟩|⟨_,_,_,_,rfl,rfl,_⟩ <;> (repeat first|exact trivial|refine⟨rfl,?_⟩)) ?_
  refine ab ?_
  refine VS.back (N-(z+1)) aa ⟨_,_,?_,?_,?_,?_,⟨z+1,X0,X1,X2,X3,M0,M1,M2,M3,by omega,rfl,rfl,rfl,R0.kp (ss kk) bG,R1.kp (bA kk) bG,R2.kp (bA kk) bG,R3⟩⟩
  ·rcases R0 with ⟨_,rfl,rfl⟩|⟨_,_,_,_,rfl,rfl,_⟩ <;> rcases R1 with ⟨_,rfl,rfl⟩|⟨_,_,_,_,rfl,rfl,_⟩ <;> rcases R2 with ⟨_,rfl,rfl⟩|⟨_,_,_,_,rfl,rfl,_⟩ <;> rcases R3 with ⟨_,rfl,rfl⟩|⟨_,_,_,_,rfl,rfl,_⟩ <;> (refine⟨rfl,rfl,rfl,rfl,rfl,rfl,?_,trivial⟩;rw[<-bD (i:=z) aa];rfl)
  ·rcases R0 with ⟨_,rfl,rfl⟩|⟨_,_,_,_,rfl,rfl,_⟩ <;> rcases R1 with ⟨_,rfl,rfl⟩|⟨_,_,_,_,rfl,rfl,_⟩ <;> rcases R2 with ⟨_,rfl,rfl⟩|⟨_,_,_,_,rfl,rfl,_⟩ <;> rcases R3 with ⟨_,rfl,rfl⟩|⟨_,_,_,_,rfl,rfl,_⟩ <;> (repeat first|exact trivial|refine⟨rfl,?_⟩|refine⟨congrArg (λl=>some (_,l)) (bT (by first|exact cg.cX (by assumption)|exact af _|(rw[<-List.map_append];exact af _)) _ _),?_⟩)
  ·rcases R0 with ⟨_,rfl,rfl⟩|⟨_,_,_,_,rfl,rfl,_⟩ <;> rcases R1 with ⟨_,rfl,rfl⟩|⟨_,_,_,_,rfl,rfl,_⟩ <;> rcases R2 with ⟨_,rfl,rfl⟩|⟨_,_,_,_,rfl,rfl,_⟩ <;> rcases R3 with ⟨_,rfl,rfl⟩|⟨_,_,_,_,rfl,rfl,_⟩ <;> rfl
  ·rcases R0 with ⟨_,rfl,rfl⟩|⟨_,_,_,_,rfl,rfl,_⟩ <;> rcases R1 with ⟨_,rfl,rfl⟩|⟨_,_,_,_,rfl,rfl,_⟩ <;> rcases R2 with ⟨_,rfl,rfl⟩|⟨_,_,_,_,rfl,rfl,_⟩ <;> rcases R3 with ⟨_,rfl,rfl⟩|⟨_,_,_,_,rfl,rfl,_⟩ <;> (repeat first|exact trivial|refine⟨aq.lit rfl,?_⟩|refine⟨cg.vd (by assumption),?_⟩|refine⟨aq.append (.vals _) (.vals _),?_⟩|refine⟨aq.vals _,?_⟩)
 ·refine VS.bB rfl (decide_eq_false (λe=>hlt (Int.ofNat_lt.1 e))) ?_
  obtain rfl:z=N:=by omega
  rw[List.take_of_length_le (by rw[List.length_map];omega)] at R0
  rw[List.take_of_length_le (by rw[List.length_map];omega)] at R1
  rw[List.take_of_length_le (by rw[List.length_map];omega)] at R2
  rw[List.take_of_length_le (by rw[List.length_map];omega)] at R3
  refine ab ?_
  refine VO.fh rfl (fk Tryz.func61) (λwb0 β kb0 bb0 ho=>(Dj _ (l.map (·.p)) kk wb0 (R0.Hg (ss kk) ho (by intro q hq;rcases R0 with ⟨_,rfl,rfl⟩|⟨_,_,_,_,rfl,rfl,_⟩ <;> first|(cases hq;done)|(cases List.mem_singleton.1 hq;rfl)) bG) jF aa (by rw[List.length_map,<-hN,hst2];omega)).mono ?_)
  rintro o wc0 ⟨r0,rfl,q0,jR⟩
  obtain⟨s0a,p0a,n0a,c0a,t0a,y0a,m0a,d0a,s0b,p0b,n0b,c0b,t0b,y0b,m0b,d0b,s0c,p0c,n0c,c0c,t0c,y0c,m0c,d0c,s0d,p0d,n0d,c0d,t0d,y0d,m0d,d0d,rfl,i1,i2,i3,i4⟩:=q0
  refine aB jR ?_
  intro kc0 _ bc0
  refine VO.fh rfl (fk Tryz.func62) (λwb1 β bL bb1 ho=>(oM _ (l.map (·.due)) kk wb1 ((R1.Hg (bA kk) ho (by intro q hq;rcases R0 with ⟨_,rfl,rfl⟩|⟨_,_,_,_,rfl,rfl,_⟩ <;> rcases R1 with ⟨_,rfl,rfl⟩|⟨_,_,_,_,rfl,rfl,_⟩ <;> first|(cases hq;done)|(cases List.mem_singleton.1 hq;rfl)) bG).rtot) (by rw[List.length_map,<-hN];omega)).mono ?_)
  rintro o wc1 ⟨r1,rfl,q1,zq1,aC⟩
  obtain⟨s1,p1,n1,c1,t1,y1,m1,d1,rfl⟩:=q1.form
  refine aB aC ?_
  intro kc1 _ bc1
  refine VO.fh rfl (fk Tryz.func62) (λwb2 β cH bb2 ho=>(oM _ (l.map (·.sS)) kk wb2 ((R2.Hg (bA kk) ho (by intro q hq;rcases R0 with ⟨_,rfl,rfl⟩|⟨_,_,_,_,rfl,rfl,_⟩ <;> rcases R1 with ⟨_,rfl,rfl⟩|⟨_,_,_,_,rfl,rfl,_⟩ <;> rcases R2 with ⟨_,rfl,rfl⟩|⟨_,_,_,_,rfl,rfl,_⟩ <;> first|(cases hq;done)|(cases List.mem_singleton.1 hq;rfl)) bG).rtot) (by rw[List.length_map,<-hN];omega)).mono ?_)
  rintro o wc2 ⟨r2,rfl,q2,zq2,aQ⟩
  obtain⟨s2,p2,n2,c2,t2,y2,m2,d2,rfl⟩:=q2.form
  refine aB aQ ?_
  intro kc2 _ bc2
  refine VO.fh rfl (fk Tryz.func62) (λwb3 β dP bb3 ho=>(oM _ (l.map (·.own)) kk wb3 ((R3.Hg (bA kk) ho (by intro q hq;rcases R0 with ⟨_,rfl,rfl⟩|⟨_,_,_,_,rfl,rfl,_⟩ <;> rcases R1 with ⟨_,rfl,rfl⟩|⟨_,_,_,_,rfl,rfl,_⟩ <;> rcases R2 with ⟨_,rfl,rfl⟩|⟨_,_,_,_,rfl,rfl,_⟩ <;> rcases R3 with ⟨_,rfl,rfl⟩|⟨_,_,_,_,rfl,rfl,_⟩ <;> first|(cases hq;done)|(cases List.mem_singleton.1 hq;rfl)) bG).rtot) (by rw[List.length_map,<-hN];omega)).mono ?_)
  rintro o wc3 ⟨r3,rfl,q3,zq3,bM⟩
  obtain⟨s3,p3,n3,c3,t3,y3,m3,d3,rfl⟩:=q3.form
  refine aB bM ?_
  intro kc3 _ bc3
  have hps:sR (jG (l.map (·.p))) (ba kk z):=by
   rw[<-hst2]
   have:=yu (j:=kk) (l.map (·.p)) (λx hx=>by
    obtain⟨y,hy,rfl⟩:=List.mem_map.1 hx
    obtain⟨cs,⟨_,_,_,_,_,_,_,rfl,⟨sA,pA,nA,cA,tA,yA,mA,dA,rfl,hA⟩,⟨sB,pB,nB,cB,tB,yB,mB,dB,rfl,hB⟩,⟨sC,pC,nC,cC,tC,yC,mC,dC,rfl,hC⟩,⟨sD,pD,nD,cD,tD,yD,mD,dD,rfl,hD⟩,⟨sE,pE,nE,cE,tE,yE,mE,dE,rfl,hE⟩,⟨sF,pF,nF,cF,tF,yF,mF,dF,rfl,hF⟩,⟨sG,pG,nG,cG,tG,yG,mG,dG,rfl,hG⟩⟩⟩:=hv.mem hy
    exact⟨hA.sz jF,hB.sz jF,hC.sz jF,hD.sz jF⟩)
   rw[List.length_map,<-hN] at this;exact this
  rw[List.length_map,<-hN] at zq1 zq2 zq3
  refine az ?_;intro wz kz bz
  rw[Dl]
  exact⟨_,rfl,⟨[.bool s0a,.slice p0a n0a c0a,.bool t0a,.slice y0a m0a d0a,.bool s0b,.slice p0b n0b c0b,.bool t0b,.slice y0b m0b d0b,.bool s0c,.slice p0c n0c c0c,.bool t0c,.slice y0c m0c d0c,.bool s0d,.slice p0d n0d c0d,.bool t0d,.slice y0d m0d d0d,.bool s1,.slice p1 n1 c1,.bool t1,.slice y1 m1 d1,.bool s2,.slice p2 n2 c2,.bool t2,.slice y2 m2 d2,.bool s3,.slice p3 n3 c3,.bool t3,.slice y3 m3 d3],rfl,⟨_,_,_,_,_,_,_,rfl,.mk i1.k hps.b,.mk i2.k hps.s,.mk i3.k hps.d,.mk i4.k hps.i,.mk q1.kr zq1,.mk q2.kr zq2,.mk q3.kr zq3⟩⟩,bz⟩
def qy (v:Value) (j:Nat):Prop:=∃ s p n c t r m d,v=.agg #[.bool s,.slice p n c,.bool t,.slice r m d]/\n<=j/\m<=j
theorem ay.le {w:World} {v:Value} {q:Rat} {k j:Nat} (h:ay w v q k) (hl:qy v j):ay w v q j:=by
 obtain⟨s,xs,t,ys,hr,hq,_,_⟩:=h.inv
 obtain⟨s',p',n',c',t',r',m',d',e',h1,h2⟩:=hl
 have sY:=hr
 obtain⟨p,c,r,d,e,_⟩:=hr
 rw[e] at e'
 simp only[Value.agg.injEq,Array.mk.injEq,List.cons.injEq,Value.slice.injEq,and_true] at e'
 exact⟨s,xs,t,ys,sY,hq,by omega,by omega⟩
theorem fx (v:Value) (q:Rat) (k:Nat) (w:World) (hv:ay w v q k) (hk:k<=1073741824):
  Calls Tryz.prog 53 #[v] w λe w'=>∃ r,e=.returned r/\ay w' r q k/\ax w w':=by
 obtain⟨s,xs,t,ys,hr,hq,h1,h2⟩:=hv.inv
 refine (Da s t xs ys v w hr aa aa).mono ?_
 rintro e w' ⟨r,rfl,hn,hb⟩
 exact⟨r,rfl,⟨s,xs,t,ys,hn.raw,hq,h1,h2⟩,hb⟩
set_option maxRecDepth 4000
theorem eM (v:Value) (q:Rat) (k:Nat) (w:World) (hv:ay w v q k):
  Calls Tryz.prog 25 #[v] w λe w'=>∃ b,e=.returned (.bool b)/\(b=true->qy v 4)/\ax w w':=by
 obtain⟨s,xs,t,ys,hr,hq,h1,h2⟩:=hv.inv
 have sY:=hr
 obtain⟨p,c,r,d,rfl,_,_⟩:=hr
 refine ae (C:=aR Tryz.prog w _) (args:=[_]) Tryz.func25 rfl Tryz.ntmps25 (bt rfl) ?_
 refine ab ?_
 by_cases hx:xs.length<=4
 ·refine VO.fix 8 rfl (congrArg (λb=>AV.val (.bool b)) (decide_eq_true (show (xs.length:Int)<=4 by omega))) ?_
  refine ab ?_
  refine az ?_;intro wz kz bz
  refine⟨_,rfl,λhb=>⟨_,_,_,_,_,_,_,_,rfl,hx,?_⟩,bz⟩
  have:=of_decide_eq_true hb
  omega
 ·refine VO.fix 8 rfl (congrArg (λb=>AV.val (.bool b)) (decide_eq_false (show ¬ (xs.length:Int)<=4 by omega))) ?_
  refine ab ?_
  refine az ?_;intro wz kz bz
  exact⟨_,rfl,λhb=>(by cases hb),bz⟩
set_option maxRecDepth 4000 in
theorem Hm (cs:List Value) (x:eZ) (kk:Nat) (w:World) (hv:qx kk w cs x) (hk:kk<=1000000):
  Calls Tryz.prog 18 #[.agg cs.toArray] w λe w'=>∃ ds:List Value,e=.returned (.agg ds.toArray)/\qx kk w' ds x/\ax w w':=by
 obtain⟨_,_,_,_,_,_,_,rfl,⟨sA,pA,nA,cA,tA,yA,mA,dA,rfl,hA⟩,⟨sB,pB,nB,cB,tB,yB,mB,dB,rfl,hB⟩,⟨sC,pC,nC,cC,tC,yC,mC,dC,rfl,hC⟩,⟨sD,pD,nD,cD,tD,yD,mD,dD,rfl,hD⟩,⟨sE,pE,nE,cE,tE,yE,mE,dE,rfl,hE⟩,⟨sF,pF,nF,cF,tF,yF,mF,dF,rfl,hF⟩,⟨sG,pG,nG,cG,tG,yG,mG,dG,rfl,hG⟩⟩:=hv
 refine ae (C:=aR Tryz.prog w _) (args:=[_]) Tryz.func18 rfl Tryz.ntmps18 (bt rfl) ?_
 refine ab ?_
 refine VO.cR rfl rfl (fk Tryz.func53) (λwa0 ka0 ba0=>fx _ x.p.b kk wa0 hA.k aa) (λwa0 ka0 ba0 w0 srA prA nrA crA trA yrA mrA drA qA jR kb0 _ bb0=>wV rfl ?_)
 refine ab ?_
 refine VO.cR rfl rfl (fk Tryz.func53) (λaK bn aU=>fx _ x.p.s kk aK hB.k aa) (λaK bn aU w1 srB prB nrB crB trB yrB mrB drB qB aC bL _ bb1=>wV rfl ?_)
 refine ab ?_
 refine VO.cR rfl rfl (fk Tryz.func53) (λaZ bI bu=>fx _ x.p.d kk aZ hC.k aa) (λaZ bI bu w2 srC prC nrC crC trC yrC mrC drC qC aQ cH _ bb2=>wV rfl ?_)
 refine ab ?_
 refine VO.cR rfl rfl (fk Tryz.func53) (λck cJ da=>fx _ x.p.i kk ck hD.k aa) (λck cJ da w3 srD prD nrD crD trD yrD mrD drD qD bM dP _ bb3=>wV rfl ?_)
 refine ab ?_
 refine VO.cR rfl rfl (fk Tryz.func53) (λdW eT fD=>fx _ x.due kk dW hE.k aa) (λdW eT fD w4 srE prE nrE crE trE yrE mrE drE qE fb iK _ oY=>wV rfl ?_)
 refine ab ?_
 refine VO.cR rfl rfl (fk Tryz.func53) (λfv gh gv=>fx _ x.sS kk fv hF.k aa) (λfv gh gv w5 srF prF nrF crF trF yrF mrF drF qF gW ky _ tt=>wV rfl ?_)
 refine ab ?_
 refine VO.cR rfl rfl (fk Tryz.func53) (λlR lZ qJ=>fx _ x.own kk lR hG.k aa) (λlR lZ qJ w6 srG prG nrG crG trG yrG mrG drG qG oG qK _ yL=>wV rfl ?_)
 refine ab ?_
 refine az ?_;intro wz kz bz
 exact⟨[.bool srA,.slice prA nrA crA,.bool trA,.slice yrA mrA drA,.bool srB,.slice prB nrB crB,.bool trB,.slice yrB mrB drB,.bool srC,.slice prC nrC crC,.bool trC,.slice yrC mrC drC,.bool srD,.slice prD nrD crD,.bool trD,.slice yrD mrD drD,.bool srE,.slice prE nrE crE,.bool trE,.slice yrE mrE drE,.bool srF,.slice prF nrF crF,.bool trF,.slice yrF mrF drF,.bool srG,.slice prG nrG crG,.bool trG,.slice yrG mrG drG],rfl,⟨_,_,_,_,_,_,_,rfl,.mk qA.k,.mk qB.k,.mk qC.k,.mk qD.k,.mk qE.k,.mk qF.k,.mk qG.k⟩,bz⟩
set_option maxRecDepth 4000 in
theorem KO (v u:Value) (x:eZ) (j k:Nat) (w:World) (hv:AVal w v x j) (hu:AVal w u x k):
  Calls Tryz.prog 17 #[v,u] w λe w'=>e=.returned (.bool true)/\ax w w':=by
 obtain⟨_,rfl,⟨_,_,_,_,_,_,_,rfl,⟨sA,pA,nA,cA,tA,yA,mA,dA,rfl,hA⟩,⟨sB,pB,nB,cB,tB,yB,mB,dB,rfl,hB⟩,⟨sC,pC,nC,cC,tC,yC,mC,dC,rfl,hC⟩,⟨sD,pD,nD,cD,tD,yD,mD,dD,rfl,hD⟩,⟨sE,pE,nE,cE,tE,yE,mE,dE,rfl,hE⟩,⟨sF,pF,nF,cF,tF,yF,mF,dF,rfl,hF⟩,⟨sG,pG,nG,cG,tG,yG,mG,dG,rfl,hG⟩⟩⟩:=hv
 obtain⟨_,rfl,⟨_,_,_,_,_,_,_,rfl,⟨srA,prA,nrA,crA,trA,yrA,mrA,drA,rfl,hrA⟩,⟨srB,prB,nrB,crB,trB,yrB,mrB,drB,rfl,hrB⟩,⟨srC,prC,nrC,crC,trC,yrC,mrC,drC,rfl,hrC⟩,⟨srD,prD,nrD,crD,trD,yrD,mrD,drD,rfl,hrD⟩,⟨srE,prE,nrE,crE,trE,yrE,mrE,drE,rfl,hrE⟩,⟨srF,prF,nrF,crF,trF,yrF,mrF,drF,rfl,hrF⟩,⟨srG,prG,nrG,crG,trG,yrG,mrG,drG,rfl,hrG⟩⟩⟩:=hu
 obtain⟨gA,-⟩:=hA
 obtain⟨grA,-⟩:=hrA
 obtain⟨gB,-⟩:=hB
 obtain⟨grB,-⟩:=hrB
 obtain⟨gC,-⟩:=hC
 obtain⟨grC,-⟩:=hrC
 obtain⟨gD,-⟩:=hD
 obtain⟨grD,-⟩:=hrD
 obtain⟨gE,-⟩:=hE
 obtain⟨grE,-⟩:=hrE
 obtain⟨gF,-⟩:=hF
 obtain⟨grF,-⟩:=hrF
 obtain⟨gG,-⟩:=hG
 obtain⟨grG,-⟩:=hrG
 refine ae (C:=aR Tryz.prog w _) (args:=[_,_]) Tryz.func17 rfl Tryz.ntmps17 (bt rfl) ?_
 refine ab ?_
 refine VO.cB rfl rfl (fk Tryz.func52) (λwa0 ka0 ba0=>gK x.p.b _ _ wa0 gA.k grA.k) (λwa0 ka0 ba0 w0 jR kb0 _ bb0=>wV rfl ?_)
 refine ab ?_
 refine VO.cB rfl rfl (fk Tryz.func52) (λaK bn aU=>gK x.p.s _ _ aK gB.k grB.k) (λaK bn aU w1 aC bL _ bb1=>wV rfl ?_)
 refine ab ?_
 refine VO.cB rfl rfl (fk Tryz.func52) (λaZ bI bu=>gK x.p.d _ _ aZ gC.k grC.k) (λaZ bI bu w2 aQ cH _ bb2=>wV rfl ?_)
 refine ab ?_
 refine VO.cB rfl rfl (fk Tryz.func52) (λck cJ da=>gK x.p.i _ _ ck gD.k grD.k) (λck cJ da w3 bM dP _ bb3=>wV rfl ?_)
 refine ab ?_
 refine VO.cB rfl rfl (fk Tryz.func52) (λdW eT fD=>gK x.due _ _ dW gE.k grE.k) (λdW eT fD w4 fb iK _ oY=>wV rfl ?_)
 refine ab ?_
 refine VO.cB rfl rfl (fk Tryz.func52) (λfv gh gv=>gK x.sS _ _ fv gF.k grF.k) (λfv gh gv w5 gW ky _ tt=>wV rfl ?_)
 refine ab ?_
 refine VO.cB rfl rfl (fk Tryz.func52) (λlR lZ qJ=>gK x.own _ _ lR gG.k grG.k) (λlR lZ qJ w6 oG qK _ yL=>wV rfl ?_)
 refine ab ?_
 refine az ?_;intro wz kz bz
 exact⟨rfl,bz⟩
theorem ain_le {kk:Nat} {w:World} {x:eZ} {sA pA nA cA tA yA mA dA:_} {sB pB nB cB tB yB mB dB:_} {sC pC nC cC tC yC mC dC:_} {sD pD nD cD tD yD mD dD:_} {sE pE nE cE tE yE mE dE:_} {sF pF nF cF tF yF mF dF:_} {sG pG nG cG tG yG mG dG:_} (hA:ay w (.agg #[.bool sA,.slice pA nA cA,.bool tA,.slice yA mA dA]) x.p.b kk) (lA:qy (.agg #[.bool sA,.slice pA nA cA,.bool tA,.slice yA mA dA]) 4) (hB:ay w (.agg #[.bool sB,.slice pB nB cB,.bool tB,.slice yB mB dB]) x.p.s kk) (lB:qy (.agg #[.bool sB,.slice pB nB cB,.bool tB,.slice yB mB dB]) 4) (hC:ay w (.agg #[.bool sC,.slice pC nC cC,.bool tC,.slice yC mC dC]) x.p.d kk) (lC:qy (.agg #[.bool sC,.slice pC nC cC,.bool tC,.slice yC mC dC]) 4) (hD:ay w (.agg #[.bool sD,.slice pD nD cD,.bool tD,.slice yD mD dD]) x.p.i kk) (lD:qy (.agg #[.bool sD,.slice pD nD cD,.bool tD,.slice yD mD dD]) 4) (hE:ay w (.agg #[.bool sE,.slice pE nE cE,.bool tE,.slice yE mE dE]) x.due kk) (lE:qy (.agg #[.bool sE,.slice pE nE cE,.bool tE,.slice yE mE dE]) 4) (hF:ay w (.agg #[.bool sF,.slice pF nF cF,.bool tF,.slice yF mF dF]) x.sS kk) (lF:qy (.agg #[.bool sF,.slice pF nF cF,.bool tF,.slice yF mF dF]) 4) (hG:ay w (.agg #[.bool sG,.slice pG nG cG,.bool tG,.slice yG mG dG]) x.own kk) (lG:qy (.agg #[.bool sG,.slice pG nG cG,.bool tG,.slice yG mG dG]) 4):qx 4 w [.bool sA,.slice pA nA cA,.bool tA,.slice yA mA dA,.bool sB,.slice pB nB cB,.bool tB,.slice yB mB dB,.bool sC,.slice pC nC cC,.bool tC,.slice yC mC dC,.bool sD,.slice pD nD cD,.bool tD,.slice yD mD dD,.bool sE,.slice pE nE cE,.bool tE,.slice yE mE dE,.bool sF,.slice pF nF cF,.bool tF,.slice yF mF dF,.bool sG,.slice pG nG cG,.bool tG,.slice yG mG dG] x:=
 ⟨_,_,_,_,_,_,_,rfl,.mk (hA.le lA),.mk (hB.le lB),.mk (hC.le lC),.mk (hD.le lD),.mk (hE.le lE),.mk (hF.le lF),.mk (hG.le lG)⟩
set_option maxRecDepth 4000 in
theorem vD (v:Value) (l:List eZ) (kk:Nat) (w:World) (hv:cf (qx kk) 28 w v l):
  Calls Tryz.prog 5 #[v] w λe w'=>e=.returned (.bool true)/\ax w w':=by
 obtain⟨p,c,rfl,dk,dY⟩:=hv.form
 obtain⟨N,hN⟩:∃ N,N=l.length:=⟨_,rfl⟩
 rw[<-hN] at hv dk
 rw[<-hN]
 refine ae (C:=aR Tryz.prog w _) (args:=[_]) Tryz.func5 rfl Tryz.ntmps5 (bt rfl) ?_
 refine ab ?_
 refine VS.loop (J:=λm L M w'=>∃ (z:Nat) (X:AV) (Mi:List (Nat×(TypeId×List AV))),z<=N/\z<=6/\m=N-z/\L=[(0,.val (.slice p N c)),(3,X),(4,.val (.int .i64 (z:Int)))]/\M=Mi/\fG (qx 4) 28 59 69 X Mi w' (l.take z)/\yq (qx 4) 28 w p l z) N ⟨_,_,?_,?_,?_,?_,⟨0,_,[],by omega,by omega,rfl,rfl,rfl,.inl ⟨rfl,rfl,rfl⟩,yq.zero⟩⟩ ?_
 ·exact dX
 ·exact dX
 ·rfl
 ·exact ll
 rintro m L M wJ ⟨z,X,Mi,hz,hz6,rfl,rfl,rfl,hR,hup⟩
 refine VS.mask [5,68] (by rcases hR with ⟨_,rfl,rfl⟩|⟨_,_,_,_,rfl,rfl,_⟩ <;> (repeat first|exact trivial|refine⟨rfl,?_⟩)) ?_
 refine ab ?_
 by_cases hlt:z<N
 ·obtain⟨x,hx⟩:∃ x,l[z]? =some x:=⟨_,List.getElem?_eq_getElem aa⟩
  obtain⟨b,off,fM,rfl,hc,⟨_,_,_,_,_,_,_,rfl,⟨sA,pA,nA,cA,tA,yA,mA,dA,rfl,hA⟩,⟨sB,pB,nB,cB,tB,yB,mB,dB,rfl,hB⟩,⟨sC,pC,nC,cC,tC,yC,mC,dC,rfl,hC⟩,⟨sD,pD,nD,cD,tD,yD,mD,dD,rfl,hD⟩,⟨sE,pE,nE,cE,tE,yE,mE,dE,rfl,hE⟩,⟨sF,pF,nF,cF,tF,yF,mF,dF,rfl,hF⟩,⟨sG,pG,nG,cG,tG,yG,mG,dG,rfl,hG⟩⟩⟩:=hv.at hx
  refine VS.bo rfl (decide_eq_true (Int.ofNat_lt.2 hlt)) ?_
  refine ab ?_
  refine VO.cond rfl fw ?_
  refine wV rfl ?_
  refine ab ?_
  refine VO.read rfl [.bool sA,.slice pA nA cA,.bool tA,.slice yA mA dA,.bool sB,.slice pB nB cB,.bool tB,.slice yB mB dB,.bool sC,.slice pC nC cC,.bool tC,.slice yC mC dC,.bool sD,.slice pD nD cD,.bool tD,.slice yD mD dD,.bool sE,.slice pE nE cE,.bool tE,.slice yE mE dE,.bool sF,.slice pF nF cF,.bool tF,.slice yF mF dF,.bool sG,.slice pG nG cG,.bool tG,.slice yG mG dG] rfl (eh hc 0 _ ⟨[],rfl⟩) (wV rfl ?_)
  refine ab ?_
  by_cases h5:(z:Int)>5
  ·refine VO.fix 18 rfl (congrArg (λb=>AV.val (.bool b)) (decide_eq_true h5)) ?_
   refine ab ?_
   refine VO.cB rfl rfl (fk Tryz.func9) (λwa30 ka30 ba30=>dw wa30) (λwa30 ka30 ba30 w30 hb30 kb30 _ bb30=>wV rfl ?_)
   refine ab ?_
   refine az ?_;intro wz kz bz
   exact⟨rfl,bz⟩
  refine VO.fix 18 rfl (congrArg (λb=>AV.val (.bool b)) (decide_eq_false h5)) ?_
  refine ab ?_
  refine VO.call rfl rfl (fk Tryz.func25) (λwa0 ka0 ba0=>(eM _ x.p.b kk wa0 (hA.kp (Kp.of (U:=UU) ba0))).mono ?_)
  rintro e w0 ⟨b0,rfl,lA,jR⟩
  cases b0 with
  | false=>
    refine aB jR ?_
    intro kb0 _ bb0
    refine VO.cB rfl rfl (fk Tryz.func9) (λwa20 ka20 ba20=>dw wa20) (λwa20 ka20 ba20 w20 hb20 kb20 _ bb20=>wV rfl ?_)
    refine ab ?_
    refine az ?_;intro wz kz bz
    exact⟨rfl,bz⟩
  | true=>
    refine aB jR ?_
    intro kb0 _ bb0
    replace lA:=lA rfl
    refine VO.call rfl rfl (fk Tryz.func25) (λaK bn aU=>(eM _ x.p.s kk aK (hB.kp (Kp.of (U:=UU) aU))).mono ?_)
    rintro e w1 ⟨b1,rfl,lB,aC⟩
    cases b1 with
    | false=>
      refine aB aC ?_
      intro bL _ bb1
      refine VO.cB rfl rfl (fk Tryz.func9) (λwa21 ka21 ba21=>dw wa21) (λwa21 ka21 ba21 w21 hb21 kb21 _ bb21=>wV rfl ?_)
      refine ab ?_
      refine az ?_;intro wz kz bz
      exact⟨rfl,bz⟩
    | true=>
      refine aB aC ?_
      intro bL _ bb1
      replace lB:=lB rfl
      refine VO.call rfl rfl (fk Tryz.func25) (λaZ bI bu=>(eM _ x.p.d kk aZ (hC.kp (Kp.of (U:=UU) bu))).mono ?_)
      rintro e w2 ⟨b2,rfl,lC,aQ⟩
      cases b2 with
      | false=>
        refine aB aQ ?_
        intro cH _ bb2
        refine VO.cB rfl rfl (fk Tryz.func9) (λwa22 ka22 ba22=>dw wa22) (λwa22 ka22 ba22 w22 hb22 kb22 _ bb22=>wV rfl ?_)
        refine ab ?_
        refine az ?_;intro wz kz bz
        exact⟨rfl,bz⟩
      | true=>
        refine aB aQ ?_
        intro cH _ bb2
        replace lC:=lC rfl
        refine VO.call rfl rfl (fk Tryz.func25) (λck cJ da=>(eM _ x.p.i kk ck (hD.kp (Kp.of (U:=UU) da))).mono ?_)
        rintro e w3 ⟨b3,rfl,lD,bM⟩
        cases b3 with
        | false=>
          refine aB bM ?_
          intro dP _ bb3
          refine VO.cB rfl rfl (fk Tryz.func9) (λwa23 ka23 ba23=>dw wa23) (λwa23 ka23 ba23 w23 hb23 kb23 _ bb23=>wV rfl ?_)
          refine ab ?_
          refine az ?_;intro wz kz bz
          exact⟨rfl,bz⟩
        | true=>
          refine aB bM ?_
          intro dP _ bb3
          replace lD:=lD rfl
          refine VO.call rfl rfl (fk Tryz.func25) (λdW eT fD=>(eM _ x.due kk dW (hE.kp (Kp.of (U:=UU) fD))).mono ?_)
          rintro e w4 ⟨b4,rfl,lE,fb⟩
          cases b4 with
          | false=>
            refine aB fb ?_
            intro iK _ oY
            refine VO.cB rfl rfl (fk Tryz.func9) (λwa24 ka24 ba24=>dw wa24) (λwa24 ka24 ba24 w24 hb24 kb24 _ bb24=>wV rfl ?_)
            refine ab ?_
            refine az ?_;intro wz kz bz
            exact⟨rfl,bz⟩
          | true=>
            refine aB fb ?_
            intro iK _ oY
            replace lE:=lE rfl
            refine VO.call rfl rfl (fk Tryz.func25) (λfv gh gv=>(eM _ x.sS kk fv (hF.kp (Kp.of (U:=UU) gv))).mono ?_)
            rintro e w5 ⟨b5,rfl,lF,gW⟩
            cases b5 with
            | false=>
              refine aB gW ?_
              intro ky _ tt
              refine VO.cB rfl rfl (fk Tryz.func9) (λwa25 ka25 ba25=>dw wa25) (λwa25 ka25 ba25 w25 hb25 kb25 _ bb25=>wV rfl ?_)
              refine ab ?_
              refine az ?_;intro wz kz bz
              exact⟨rfl,bz⟩
            | true=>
              refine aB gW ?_
              intro ky _ tt
              replace lF:=lF rfl
              refine VO.call rfl rfl (fk Tryz.func25) (λlR lZ qJ=>(eM _ x.own kk lR (hG.kp (Kp.of (U:=UU) qJ))).mono ?_)
              rintro e w6 ⟨b6,rfl,lG,oG⟩
              cases b6 with
              | false=>
                refine aB oG ?_
                intro qK _ yL
                refine VO.cB rfl rfl (fk Tryz.func9) (λwa26 ka26 ba26=>dw wa26) (λwa26 ka26 ba26 w26 hb26 kb26 _ bb26=>wV rfl ?_)
                refine ab ?_
                refine az ?_;intro wz kz bz
                exact⟨rfl,bz⟩
              | true=>
                refine aB oG ?_
                intro qK _ yL
                replace lG:=lG rfl
                have jg:qx 4 w [.bool sA,.slice pA nA cA,.bool tA,.slice yA mA dA,.bool sB,.slice pB nB cB,.bool tB,.slice yB mB dB,.bool sC,.slice pC nC cC,.bool tC,.slice yC mC dC,.bool sD,.slice pD nD cD,.bool tD,.slice yD mD dD,.bool sE,.slice pE nE cE,.bool tE,.slice yE mE dE,.bool sF,.slice pF nF cF,.bool tF,.slice yF mF dF,.bool sG,.slice pG nG cG,.bool tG,.slice yG mG dG] x:=ain_le hA lA hB lB hC lC hD lD hE lE hF lF hG lG
                refine VO.call rfl rfl (fk Tryz.func18) (λHI ka8 HQ=>(Hm [.bool sA,.slice pA nA cA,.bool tA,.slice yA mA dA,.bool sB,.slice pB nB cB,.bool tB,.slice yB mB dB,.bool sC,.slice pC nC cC,.bool tC,.slice yC mC dC,.bool sD,.slice pD nD cD,.bool tD,.slice yD mD dD,.bool sE,.slice pE nE cE,.bool tE,.slice yE mE dE,.bool sF,.slice pF nF cF,.bool tF,.slice yF mF dF,.bool sG,.slice pG nG cG,.bool tG,.slice yG mG dG] x 4 HI ((rM 4).b jg HQ) aa).mono ?_)
                rintro e w8 ⟨ds,rfl,q8,Ci⟩
                obtain⟨_,_,_,_,_,_,_,rfl,⟨srA,prA,nrA,crA,trA,yrA,mrA,drA,rfl,grA⟩,⟨srB,prB,nrB,crB,trB,yrB,mrB,drB,rfl,grB⟩,⟨srC,prC,nrC,crC,trC,yrC,mrC,drC,rfl,grC⟩,⟨srD,prD,nrD,crD,trD,yrD,mrD,drD,rfl,grD⟩,⟨srE,prE,nrE,crE,trE,yrE,mrE,drE,rfl,grE⟩,⟨srF,prF,nrF,crF,trF,yrF,mrF,drF,rfl,grF⟩,⟨srG,prG,nrG,crG,trG,yrG,mrG,drG,rfl,grG⟩⟩:=q8
                refine aB Ci ?_
                intro BM _ bb8
                have ny:qx 4 w8 [.bool srA,.slice prA nrA crA,.bool trA,.slice yrA mrA drA,.bool srB,.slice prB nrB crB,.bool trB,.slice yrB mrB drB,.bool srC,.slice prC nrC crC,.bool trC,.slice yrC mrC drC,.bool srD,.slice prD nrD crD,.bool trD,.slice yrD mrD drD,.bool srE,.slice prE nrE crE,.bool trE,.slice yrE mrE drE,.bool srF,.slice prF nrF crF,.bool trF,.slice yrF mrF drF,.bool srG,.slice prG nrG crG,.bool trG,.slice yrG mrG drG] x:=⟨_,_,_,_,_,_,_,rfl,.mk grA,.mk grB,.mk grC,.mk grD,.mk grE,.mk grF,.mk grG⟩
                have hup':=hup.snoc hx hc jg
                rcases hR with ⟨dZ,rfl,rfl⟩|⟨n',c',vs,sp,rfl,rfl,qu⟩
                ·refine VO.sn (bQ _ _) (rM 4) (t:=66) (e:=59) (s:=68) (a:=x) (cs:=[.bool srA,.slice prA nrA crA,.bool trA,.slice yrA mrA drA,.bool srB,.slice prB nrB crB,.bool trB,.slice yrB mrB drB,.bool srC,.slice prC nrC crC,.bool trC,.slice yrC mrC drC,.bool srD,.slice prD nrD crD,.bool trD,.slice yrD mrD drD,.bool srE,.slice prE nrE crE,.bool trE,.slice yrE mrE drE,.bool srF,.slice prF nrF crF,.bool trF,.slice yrF mrF drF,.bool srG,.slice prG nrG crG,.bool trG,.slice yrG mrG drG]) rfl rfl rfl rfl rfl rfl rfl rfl (bt rfl) rfl rfl rfl ny aa (λw9 cap sp k9 b9 nM=>wV rfl ?_)
                 refine ab ?_
                 refine VS.back (N-(z+1)) aa ⟨_,_,?_,?_,?_,?_,⟨z+1,_,_,by omega,by omega,rfl,rfl,rfl,.inr ⟨1,cap,_,sp,rfl,rfl,by rw[aF hx,dZ];exact nM⟩,hup'⟩⟩
                 ·refine⟨rfl,rfl,?_,trivial⟩
                  rw[<-bD (i:=z) aa];rfl
                 ·(repeat first|exact trivial|refine⟨rfl,?_⟩|refine⟨congrArg (λl=>some (_,l)) (bT (by first|exact cg.cX (by assumption)|exact af _|(rw[<-List.map_append];exact af _)) _ _),?_⟩)
                 ·rfl
                 ·(repeat first|exact trivial|refine⟨aq.lit rfl,?_⟩|refine⟨cg.vd (by assumption),?_⟩|refine⟨aq.append (.vals _) (.vals _),?_⟩|refine⟨aq.vals _,?_⟩)
                ·have oX:=qu.len
                 rw[List.length_take] at oX
                 refine VO.sq (bQ _ _) (rM 4) (t:=66) (e:=59) (s:=68) (i:=69) (n:=n') (c:=c') (vs:=vs) (sp:=sp) (es:=l.take z) (a:=x) (cs:=[.bool srA,.slice prA nrA crA,.bool trA,.slice yrA mrA drA,.bool srB,.slice prB nrB crB,.bool trB,.slice yrB mrB drB,.bool srC,.slice prC nrC crC,.bool trC,.slice yrC mrC drC,.bool srD,.slice prD nrD crD,.bool trD,.slice yrD mrD drD,.bool srE,.slice prE nrE crE,.bool trE,.slice yrE mrE drE,.bool srF,.slice prF nrF crF,.bool trF,.slice yrF mrF drF,.bool srG,.slice prG nrG crG,.bool trG,.slice yrG mrG drG]) rfl rfl rfl rfl rfl rfl rfl rfl (bt rfl) rfl (.inr rfl) rfl (qu.kp (rM 4) bG) rfl ny aa (λw9 oT xt ρ k9 b9 eH nM=>wV rfl ?_)
                 refine ab ?_
                 refine VS.back (N-(z+1)) aa ⟨_,_,?_,?_,?_,?_,⟨z+1,_,_,by omega,by omega,rfl,rfl,rfl,.inr ⟨n' +1,oT,_,xt,rfl,rfl,by rw[aF hx];exact nM⟩,hup'⟩⟩
                 ·refine⟨rfl,rfl,?_,trivial⟩
                  rw[<-bD (i:=z) aa];rfl
                 ·(repeat first|exact trivial|refine⟨rfl,?_⟩|refine⟨congrArg (λl=>some (_,l)) (bT (by first|exact cg.cX (by assumption)|exact af _|(rw[<-List.map_append];exact af _)) _ _),?_⟩)
                 ·rfl
                 ·(repeat first|exact trivial|refine⟨aq.lit rfl,?_⟩|refine⟨cg.vd (by assumption),?_⟩|refine⟨aq.append (.vals _) (.vals _),?_⟩|refine⟨aq.vals _,?_⟩)
 ·refine VS.bB rfl (decide_eq_false (λe=>hlt (Int.ofNat_lt.1 e))) ?_
  obtain rfl:z=N:=by omega
  rw[List.take_of_length_le aa] at hR
  have nY:cf (qx 4) 28 w (.slice p z c) l:=hup.all hv
  refine ab ?_
  refine VO.call rfl rfl (fk Tryz.func26) (λaK bn aU=>(KN _ l 4 aK (nY.bq (rM 4) aU) aa aa aa).mono ?_)
  rintro e w1 ⟨r1,rfl,q1,aC⟩
  obtain⟨_,rfl,⟨_,_,_,_,_,_,_,rfl,⟨sA,pA,nA,cA,tA,yA,mA,dA,rfl,gA⟩,⟨sB,pB,nB,cB,tB,yB,mB,dB,rfl,gB⟩,⟨sC,pC,nC,cC,tC,yC,mC,dC,rfl,gC⟩,⟨sD,pD,nD,cD,tD,yD,mD,dD,rfl,gD⟩,⟨sE,pE,nE,cE,tE,yE,mE,dE,rfl,gE⟩,⟨sF,pF,nF,cF,tF,yF,mF,dF,rfl,gF⟩,⟨sG,pG,nG,cG,tG,yG,mG,dG,rfl,gG⟩⟩⟩:=q1
  refine aB aC ?_
  intro bL _ bb1
  refine VO.fh rfl (fk Tryz.func27) (λaZ β bI bu ho=>(Hl _ l 4 aZ (hR.Hg (rM 4) ho (by intro q hq;rcases hR with ⟨_,rfl,rfl⟩|⟨_,_,_,_,rfl,rfl,_⟩ <;> first|(cases hq;done)|(cases List.mem_singleton.1 hq;rfl)) bG) aa aa aa).mono ?_)
  rintro o w2 ⟨r2,rfl,q2,aQ⟩
  obtain⟨_,rfl,⟨_,_,_,_,_,_,_,rfl,⟨srA,prA,nrA,crA,trA,yrA,mrA,drA,rfl,grA⟩,⟨srB,prB,nrB,crB,trB,yrB,mrB,drB,rfl,grB⟩,⟨srC,prC,nrC,crC,trC,yrC,mrC,drC,rfl,grC⟩,⟨srD,prD,nrD,crD,trD,yrD,mrD,drD,rfl,grD⟩,⟨srE,prE,nrE,crE,trE,yrE,mrE,drE,rfl,grE⟩,⟨srF,prF,nrF,crF,trF,yrF,mrF,drF,rfl,grF⟩,⟨srG,prG,nrG,crG,trG,yrG,mrG,drG,rfl,grG⟩⟩⟩:=q2
  refine aB aQ ?_
  intro cH _ bb2
  refine VO.cB rfl rfl (fk Tryz.func17) (λck cJ da=>KO _ _ (oP l) (bX 4 l.length) (ba 4 l.length) ck ⟨_,rfl,⟨_,_,_,_,_,_,_,rfl,.mk gA.1.k gA.2,.mk gB.1.k gB.2,.mk gC.1.k gC.2,.mk gD.1.k gD.2,.mk gE.1.k gE.2,.mk gF.1.k gF.2,.mk gG.1.k gG.2⟩⟩ ⟨_,rfl,⟨_,_,_,_,_,_,_,rfl,.mk grA.1.k grA.2,.mk grB.1.k grB.2,.mk grC.1.k grC.2,.mk grD.1.k grD.2,.mk grE.1.k grE.2,.mk grF.1.k grF.2,.mk grG.1.k grG.2⟩⟩) (λck cJ da w3 bM dP _ bb3=>wV rfl ?_)
  refine ab ?_
  refine VO.cB rfl rfl (fk Tryz.func9) (λdW eT fD=>dw dW) (λdW eT fD w4 fb iK _ oY=>wV rfl ?_)
  refine ab ?_
  refine az ?_;intro wz kz bz
  exact⟨rfl,bz⟩
end
section
open Go.RowKit
abbrev ED:Nat:=9223372036854775807
section
variable {H:Type} {enc:TypeId×Value->H} {w:World} {held:Bool}
theorem gN (cs:List Value) (o n m:Nat) (h:m=o+n):cs.drop o=(cs.drop o).take n++cs.drop m:=by
 subst h
 have:=(List.take_append_drop n (cs.drop o)).symm
 rw[List.drop_drop] at this
 exact this
set_option maxRecDepth 100000 in
theorem Dy {fuel:Nat} {cs:List Value} {x:DataW H×List MemPlace} (h:DataW.trod enc Tryz.prog w 0 (λ_=>true) held fuel 47 cs=some x):∃ a:Pt,PtE ED w cs a:=by
 obtain⟨zs,n,rfl,rfl,hl,iD,hf⟩:=DataW.trod_struct Tryz.underlying47 h
 have vH:cs.length=16:=by
  have c:Tryz.prog.cellsOf 47=16:=by kernel_rfl
  rw[c] at hl;exact hl
 have hy2:zs.length=4:=iD
 obtain⟨z0,jz⟩:∃ z,zs[0]? =some z:=⟨_,List.getElem?_eq_getElem aa⟩
 obtain⟨z1,jQ⟩:∃ z,zs[1]? =some z:=⟨_,List.getElem?_eq_getElem aa⟩
 obtain⟨z2,kD⟩:∃ z,zs[2]? =some z:=⟨_,List.getElem?_eq_getElem aa⟩
 obtain⟨z3,hz3⟩:∃ z,zs[3]? =some z:=⟨_,List.getElem?_eq_getElem aa⟩
 have c1:Tryz.prog.cellsOf 34=4:=by kernel_rfl
 have h0:=hf 0 _ rfl
 have h1:=hf 1 _ rfl
 have h2:=hf 2 _ rfl
 have h3:=hf 3 _ rfl
 rw[jz] at h0
 rw[jQ] at h1
 rw[kD] at h2
 rw[hz3] at h3
 change DataW.trod enc Tryz.prog w 0 (λ_=>true) held n 34 ((cs.drop 0).take (Tryz.prog.cellsOf 34))=some z0 at h0
 change DataW.trod enc Tryz.prog w 0 (λ_=>true) held n 34 ((cs.drop 4).take (Tryz.prog.cellsOf 34))=some z1 at h1
 change DataW.trod enc Tryz.prog w 0 (λ_=>true) held n 34 ((cs.drop 8).take (Tryz.prog.cellsOf 34))=some z2 at h2
 change DataW.trod enc Tryz.prog w 0 (λ_=>true) held n 34 ((cs.drop 12).take (Tryz.prog.cellsOf 34))=some z3 at h3
 rw[c1] at h0 h1 h2 h3
 obtain⟨s0,p0,m0,k0,t0,r0,l0,d0,xs0,ys0,e0,n0⟩:=mW h0
 obtain⟨s1,p1,m1,k1,t1,r1,l1,d1,xs1,ys1,e1,n1⟩:=mW h1
 obtain⟨s2,p2,m2,k2,t2,r2,l2,d2,xs2,ys2,e2,n2⟩:=mW h2
 obtain⟨s3,p3,m3,k3,t3,r3,l3,d3,xs3,ys3,e3,n3⟩:=mW h3
 have ecs:cs=[.bool s0,.slice p0 m0 k0,.bool t0,.slice r0 l0 d0]++([.bool s1,.slice p1 m1 k1,.bool t1,.slice r1 l1 d1]++([.bool s2,.slice p2 m2 k2,.bool t2,.slice r2 l2 d2]++[.bool s3,.slice p3 m3 k3,.bool t3,.slice r3 l3 d3])):=by
  have a1:cs=(cs.drop 0).take 4++cs.drop 4:=gN cs 0 4 4 rfl
  have a2:cs.drop 4=(cs.drop 4).take 4++cs.drop 8:=gN cs 4 4 8 rfl
  have a3:cs.drop 8=(cs.drop 8).take 4++cs.drop 12:=gN cs 8 4 12 rfl
  have a4:cs.drop 12=(cs.drop 12).take 4:=by rw[List.take_of_length_le];rw[List.length_drop];omega
  rw[a1,a2,a3,a4,e0,e1,e2,e3]
 refine⟨⟨rq s0 xs0 t0 ys0,rq s1 xs1 t1 ys1,rq s2 xs2 t2 ys2,rq s3 xs3 t3 ys3⟩,?_⟩
 rw[ecs]
 exact nK.mk n0.wide n1.wide n2.wide n3.wide
end
section
variable {H:Type} {enc:TypeId×Value->H} {w:World} {held:Bool}
theorem vE {fuel:Nat} {cs:List Value} {x:DataW H×List MemPlace} (h:DataW.trod enc Tryz.prog w 0 (λ_=>true) held fuel 34 cs=some x):∃ q:Rat,je ED w cs q:=by
 obtain⟨s,p,n,c,t,r,m,d,xs,ys,rfl,h0⟩:=mW h
 exact⟨rq s xs t ys,_,_,_,_,_,_,_,_,rfl,h0.wide⟩
set_option maxRecDepth 100000 in
theorem Hn {fuel:Nat} {cs:List Value} {x:DataW H×List MemPlace} (h:DataW.trod enc Tryz.prog w 0 (λ_=>true) held fuel 49 cs=some x):∃ e:eZ,qx ED w cs e:=by
 obtain⟨zs,n,rfl,rfl,hl,iD,hf⟩:=DataW.trod_struct Tryz.underlying49 h
 have vH:cs.length=28:=by
  have c:Tryz.prog.cellsOf 49=28:=by kernel_rfl
  rw[c] at hl;exact hl
 have hy2:zs.length=4:=iD
 obtain⟨z0,jz⟩:∃ z,zs[0]? =some z:=⟨_,List.getElem?_eq_getElem aa⟩
 obtain⟨z1,jQ⟩:∃ z,zs[1]? =some z:=⟨_,List.getElem?_eq_getElem aa⟩
 obtain⟨z2,kD⟩:∃ z,zs[2]? =some z:=⟨_,List.getElem?_eq_getElem aa⟩
 obtain⟨z3,hz3⟩:∃ z,zs[3]? =some z:=⟨_,List.getElem?_eq_getElem aa⟩
 have cc0:Tryz.prog.cellsOf 47=16:=by kernel_rfl
 have h0:=hf 0 _ rfl
 rw[jz] at h0
 change DataW.trod enc Tryz.prog w 0 (λ_=>true) held n 47 ((cs.drop 0).take (Tryz.prog.cellsOf 47))=some z0 at h0
 rw[cc0] at h0
 have cc1:Tryz.prog.cellsOf 34=4:=by kernel_rfl
 have h1:=hf 1 _ rfl
 rw[jQ] at h1
 change DataW.trod enc Tryz.prog w 0 (λ_=>true) held n 34 ((cs.drop 16).take (Tryz.prog.cellsOf 34))=some z1 at h1
 rw[cc1] at h1
 have cc2:Tryz.prog.cellsOf 34=4:=by kernel_rfl
 have h2:=hf 2 _ rfl
 rw[kD] at h2
 change DataW.trod enc Tryz.prog w 0 (λ_=>true) held n 34 ((cs.drop 20).take (Tryz.prog.cellsOf 34))=some z2 at h2
 rw[cc2] at h2
 have cc3:Tryz.prog.cellsOf 34=4:=by kernel_rfl
 have h3:=hf 3 _ rfl
 rw[hz3] at h3
 change DataW.trod enc Tryz.prog w 0 (λ_=>true) held n 34 ((cs.drop 24).take (Tryz.prog.cellsOf 34))=some z3 at h3
 rw[cc3] at h3
 obtain⟨x0,lL⟩:=Dy h0
 obtain⟨x1,vW⟩:=vE h1
 obtain⟨x2,vY⟩:=vE h2
 obtain⟨x3,hx3⟩:=vE h3
 have a0:cs.drop 0=(cs.drop 0).take 16++cs.drop 16:=gN cs 0 16 16 rfl
 have a1:cs.drop 16=(cs.drop 16).take 4++cs.drop 20:=gN cs 16 4 20 rfl
 have a2:cs.drop 20=(cs.drop 20).take 4++cs.drop 24:=gN cs 20 4 24 rfl
 have a3:cs.drop 24=(cs.drop 24).take 4:=by rw[List.take_of_length_le];rw[List.length_drop];omega
 have ecs:cs=(cs.drop 0).take 16++((cs.drop 16).take 4++((cs.drop 20).take 4++((cs.drop 24).take 4))):=by
  have a:cs=cs.drop 0:=rfl
  rw[a0] at a
  rw[a1] at a
  rw[a2] at a
  rw[a3] at a
  exact a
 obtain⟨Gg,Gh,Gi,Gj,Gk,Gl,Gm,Gn,Gp,Gq,Gr,Gs,Gt,Gu,Gv,Gw,Gx,Gy,Gz,GA,GB,GC,GD,GF,GG,GH,GI,GJ,GK,GL,GM,GN,he,g1,g2,g3,g4⟩:=lL.form
 rw[ecs,he]
 exact⟨⟨x0,x1,x2,x3⟩,[.bool Gg,.slice Gh Gi Gj,.bool Gk,.slice Gl Gm Gn],[.bool Gp,.slice Gq Gr Gs,.bool Gt,.slice Gu Gv Gw],[.bool Gx,.slice Gy Gz GA,.bool GB,.slice GC GD GF],[.bool GG,.slice GH GI GJ,.bool GK,.slice GL GM GN],_,_,_,rfl,.mk g1,.mk g2,.mk g3,.mk g4,vW,vY,hx3⟩
set_option maxRecDepth 100000 in
theorem vF {v:Value} {d:DataW H} {ps:List MemPlace} {r:_root_.Go.Reach} {b0:Nat} (hv:Value.okWide Tryz.prog w r b0 26 v) (h:DataW.Trod enc Tryz.prog w 0 (λ_=>true) held 26 v d ps):∃ es:List eZ,cf (qx ED) 28 w v es:=
 open_sl Tryz.underlying26 (by kernel_rfl) aa (λh=>Hn h) hv h
end
end
end Go.Proofs.YtlfdmhfhkgpmbaaGreat
