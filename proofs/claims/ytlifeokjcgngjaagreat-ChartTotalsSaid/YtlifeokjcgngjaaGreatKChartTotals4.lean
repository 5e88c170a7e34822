/-yV of the proof,laid behind one another. -/
import Derived.Test.YtlifeokjcgngjaaGreatKChartTotals3
import Derived.OpenShut
import Derived.WideShapes
import Derived.ChangeArms
import Derived.ChangeSlices
import Derived.Lib.VarintBits
import Derived.RangeFuncNested
import Derived.RangeFuncLeaves
import Derived.OrdersIn
import Derived.TacticsIn
set_option linter.all false
set_option maxHeartbeats 64000000
set_option maxRecDepth 4000
namespace Go.Proofs.YtlifeokjcgngjaaGreat
section
open Go.RowKit
attribute [local irreducible] aB VS
theorem qS (w:World):Calls Tryz.prog 87 #[] w λe w'=>∃ r,e=.returned r/\aF w' w.heap.size r 1/\ax w w':=by
 refine ai (C:=bj Tryz.prog w _) (args:=[]) Tryz.func87 rfl Tryz.ntmps87 (cr rfl) ?_
 refine ae ?_
 refine VO.cI rfl rfl (fk Tryz.func88) (λbL dw bX=>Ie 1 bL aa aa) (λbL dw bX w1 s1 p1 n1 c1 h1 bl eM _ bb1=>wV rfl ?_)
 refine ae ?_
 refine bV ?_;intro wz kz bz
 exact⟨_,rfl,(h1.kp kz).mono bX.size,bz⟩
def AW (s:Bool) (xs:List Nat) (t:Bool) (ys:List Nat):Bool:=dH s xs && (dH t ys && (decide (0<numOf t ys) && decide (Int.gcd (numOf s xs) (numOf t ys)=1)))
theorem Ed {s t:Bool} {xs ys:List Nat} (h:AW s xs t ys=false):rq s xs t ys=0:=by
 unfold rq FO
 split
 ·rename_i hc
  cases h1:dH s xs with
  | false=>unfold numOf;rw[if_neg (by simp[h1])];simp
  | true=>
    cases h2:dH t ys with
    | false=>
      have:numOf t ys=0:=by unfold numOf;rw[if_neg (by simp[h2])]
      omega
    | true=>
      unfold AW at h
      rw[h1,h2,decide_eq_true hc.1,decide_eq_true hc.2] at h
      cases h
 ·rfl
theorem rtB_inv {s t:Bool} {xs ys:List Nat} (h:AW s xs t ys=true):dH s xs=true/\dH t ys=true/\0<numOf t ys/\Int.gcd (numOf s xs) (numOf t ys)=1:=by
 unfold AW at h
 simp only[Bool.and_eq_true,decide_eq_true_eq] at h
 exact h
theorem fi.lim {w:World} {v:Value} {s:Bool} {xs:List Nat} (h:fi w v s xs):cL xs:=by
 obtain⟨_,_,_,_,l⟩:=h
 exact l
theorem Ee {w:World} {v:Value} {s t:Bool} {xs ys:List Nat} (hv:dZ w v s xs t ys) (h:AW s xs t ys=true):fm w v (rq s xs t ys):=by
 obtain⟨h1,h2,h3,h4⟩:=rtB_inv h
 obtain⟨p,c,r,d,rfl,a1,a2⟩:=hv
 obtain⟨e1,e2⟩:=qR ⟨h3,h4⟩
 refine⟨s,p,_,c,t,r,_,d,rfl,?_,?_⟩
 ·unfold rq;rw[e1]
  have l:=a1.lim
  unfold numOf
  rw[if_pos h1]
  obtain⟨c1,c2⟩:=canon l h1
  show fi _ _ _ _
  rw[<-c1,<-c2]
  assumption
 ·unfold rq;rw[e2]
  have l:=a2.lim
  unfold numOf
  rw[if_pos h2]
  obtain⟨c1,c2⟩:=canon l h2
  show fi _ _ _ _
  rw[<-c1,<-c2]
  assumption
theorem fi.in {w:World} {v:Value} {s:Bool} {xs:List Nat} {k:Nat} (h:fi w v s xs) (hk:xs.length<=k):cz w v (numOf s xs) k:=⟨s,xs,h,rfl,hk⟩
theorem AX (s t:Bool) (xs ys:List Nat) (v:Value) (w:World) (h:dZ w v s xs t ys) (hx:xs.length<=536870912) (hy:ys.length<=536870912):
  Calls Tryz.prog 36 #[v] w λe w'=>e=.returned (.bool (AW s xs t ys))/\ax w w':=by
 obtain⟨p,c,r,d,rfl,h1,h2⟩:=h
 refine ai (C:=bj Tryz.prog w _) (args:=[_]) Tryz.func36 rfl Tryz.ntmps36 (cr rfl) ?_
 refine ae ?_
 refine VO.call rfl rfl (fk Tryz.func83) (λbL dw bX=>(qN s xs _ bL (h1.az bX)).mono ?_)
 rintro e w1 ⟨rfl,bl⟩
 cases q1:dH s xs
 ·refine cP bl ?_
  intro eM _ bb1
  refine bV ?_;intro wz kz bz
  exact⟨by simp[AW,q1,kE],bz⟩
 refine cP bl ?_
 intro eM _ bb1
 refine VO.call rfl rfl (fk Tryz.func83) (λdh eU dQ=>(qN t ys _ dh (h2.az dQ)).mono ?_)
 rintro e w2 ⟨rfl,bM⟩
 cases q2:dH t ys
 ·refine cP bM ?_
  intro gr _ bb2
  refine bV ?_;intro wz kz bz
  exact⟨by simp[AW,q1,q2,kE],bz⟩
 refine cP bM ?_
 intro gr _ bb2
 refine VO.call rfl rfl (fk Tryz.func84) (λgz gJ iL=>(pO _ (numOf t ys) _ gz ((h2.in (Nat.le_refl _)).az iL)).mono ?_)
 rintro e w3 ⟨rfl,dU⟩
 by_cases q3:0<numOf t ys
 ·rw[fj q3]
  refine cP dU ?_
  intro lN _ bb3
  refine VO.cI rfl rfl (fk Tryz.func86) (λjw kX kY=>DD _ _ (numOf s xs) (numOf t ys) _ _ jw ((h1.in (Nat.le_refl _)).az kY) ((h2.in (Nat.le_refl _)).az kY) hx hy) (λjw kX kY w4 s4 p4 n4 c4 h4 iX oK _ zJ=>wV rfl ?_)
  refine ae ?_
  refine VO.cI rfl rfl (fk Tryz.func87) (λjU kZ lO=>qS jU) (λjU kZ lO w5 s5 p5 n5 c5 h5 kj pQ _ AM=>wV rfl ?_)
  refine ae ?_
  have hg:Sz (Int.gcd (numOf s xs) (numOf t ys):Int) ys.length:=by
   obtain⟨_,_,_,_,l2⟩:=h2
   refine Sz.le (Y:=numOf t ys) (rW l2 (Nat.le_refl _)) ?_
   rw[Int.natAbs_natCast,<-Int.natAbs_natCast (Int.gcd (numOf s xs) (numOf t ys))]
   have:=Int.gcd_dvd_right (numOf s xs) (numOf t ys)
   have:=Int.natAbs_dvd_natAbs.2 this
   exact Nat.le_of_dvd aa this
  refine VO.call rfl rfl (fk Tryz.func85) (λuV sc BA=>(xo _ _ (Int.gcd (numOf s xs) (numOf t ys):Int) 1 _ 1 uV ((h4.kp (kZ.aH ((Kp.of kj).aH sc))).in hg) ((h5.kp sc).in (Sz.small cH)) aa aa).mono ?_)
  rintro e w6 ⟨rfl,uT⟩
  by_cases q4:Int.gcd (numOf s xs) (numOf t ys)=1
  ·rw[show ((Int.gcd (numOf s xs) (numOf t ys):Int)-1).sign=0 by rw[q4];rfl]
   refine cP uT ?_
   intro yp _ Le
   refine bV ?_;intro wz kz bz
   exact⟨by simp[AW,q1,q2,q3,q4,kE],bz⟩
  ·have hne:(((Int.gcd (numOf s xs) (numOf t ys):Int)-1).sign == 0)=false:=by
    rw[beq_eq_false_iff_ne]
    intro e
    have:=Int.sign_eq_zero_iff_zero.1 e
    omega
   refine cP uT ?_
   intro yp _ Le
   refine bV ?_;intro wz kz bz
   exact⟨by simp only[AW,q1,q2,q3,q4,kE,Bool.true_and,decide_true,decide_false,hne],bz⟩
 ·have q4:(numOf t ys).sign=0\/(numOf t ys).sign= -1:=by
   rcases Int.lt_trichotomy (numOf t ys) 0 with e|e|e
   ·exact .inr (sign_neg e)
   ·rw[e];exact .inl rfl
   ·exact absurd e q3
  rcases q4 with q4|q4
  all_goals
   rw[q4]
   refine cP dU ?_
   intro lN _ bb3
   refine bV ?_;intro wz kz bz
   exact⟨by simp[AW,q1,q2,q3,kE],bz⟩
theorem fm.zero {w:World} {p:Option Addr} {n c:Nat} {s:Bool} (h:cG w (.agg #[.bool s,.slice p n c]) 1):fm w (.agg #[.bool false,.slice none 0 0,.bool s,.slice p n c]) 0:=⟨_,_,_,_,_,_,_,_,rfl,cG.zero _,h⟩
theorem gn (v:Value) (q:Rat) (k:Nat) (w:World) (h:df w v q k) (hk:k<=536870912):
  Calls Tryz.prog 90 #[v] w λe w'=>∃ r,e=.returned r/\fm w' r q/\ax w w':=by
 obtain⟨s,xs,t,ys,oz,rfl,hx,hy⟩:=h
 have Ef:=oz
 obtain⟨p,c,r,d,rfl,_,_⟩:=oz
 refine ai (C:=bj Tryz.prog w _) (args:=[_]) Tryz.func90 rfl Tryz.ntmps90 (cr rfl) ?_
 refine ae ?_
 refine VO.call rfl rfl (fk Tryz.func36) (λbL dw bX=>(AX s t xs ys _ bL (Ef.kp dw) aa aa).mono ?_)
 rintro e w1 ⟨rfl,bl⟩
 cases hq:AW s xs t ys
 ·refine cP bl ?_
  intro eM _ bb1
  refine VO.cI rfl rfl (fk Tryz.func87) (λdh eU dQ=>qS dh) (λdh eU dQ w2 s2 p2 n2 c2 h2 bM gr _ bb2=>wV rfl ?_)
  refine ae ?_
  refine bV ?_;intro wz kz bz
  exact⟨_,rfl,by rw[Ed hq];exact fm.zero (h2.kp kz).rd,bz⟩
 ·refine cP bl ?_
  intro eM _ bb1
  refine bV ?_;intro wz kz bz
  exact⟨_,rfl,(Ee Ef hq).kp (eM.aH kz),bz⟩
theorem AY {X Y:Int} {k:Nat} (hY:Sz Y k) (h:Y≠0):Sz (Int.gcd X Y:Int) k:=by
 refine Sz.le (Y:=Y) hY ?_
 rw[Int.natAbs_natCast,<-Int.natAbs_natCast (Int.gcd X Y)]
 exact Nat.le_of_dvd aa (Int.natAbs_dvd_natAbs.2 (Int.gcd_dvd_right X Y))
theorem fv {w w':World} {X Y:Int} {e:Ending} (h:xp w w' X Y e) (hY:Y≠0):∃ v u,e=.returned (.tuple #[v,u,.int .i64 0])/\aF w' w.heap.size v (X.fdiv Y)/\aF w' w.heap.size u (X.fmod Y):=by
 rcases h with ⟨h0,_⟩|⟨_,h⟩
 ·exact absurd h0 hY
 ·exact h
theorem uF (v u:Value) (X Y:Int) (j k:Nat) (w:World) (hv:cz w v X j) (hu:cz w u Y k) (hj:j<=268435456) (hk:k<=268435456) (hY:Y≠0):
  Calls Tryz.prog 149 #[v,u] w λe w'=>∃ r,e=.returned r/\bQ w' w.heap.size r (Rat.divInt X Y)/\ax w w':=by
 obtain⟨s,p,n,c,rfl⟩:=hv.form
 obtain⟨t,r,m,d,rfl⟩:=hu.form
 refine ai (C:=bj Tryz.prog w _) (args:=[_,_]) Tryz.func149 rfl Tryz.ntmps149 (cr rfl) ?_
 refine ae ?_
 refine VO.cI rfl rfl (fk Tryz.func86) (λbL dw bX=>DD _ _ X Y j k bL (hv.kp dw) (hu.kp dw) aa aa) (λbL dw bX w1 s1 p1 n1 c1 h1 bl eM _ bb1=>wV rfl ?_)
 refine ae ?_
 refine VO.call rfl rfl (fk Tryz.func84) (λdh eU dQ=>(pO _ Y k dh (hu.az dQ)).mono ?_)
 rintro e w2 ⟨rfl,bM⟩
 have MV:Sz (Int.gcd X Y:Int) k:=AY hu.len hY
 have My:(Int.gcd X Y:Int)≠0:=by
  intro e
  have:=(Int.gcd_eq_zero_iff.1 (show Int.gcd X Y=0 by omega)).2
  exact hY this
 rcases Int.lt_or_lt_of_ne hY with q|q
 ·rw[sign_neg q]
  obtain⟨l1,l2⟩:=low_neg (X:=X) q
  refine cP bM ?_
  intro gr _ bb2
  refine VO.cI rfl rfl (fk Tryz.func165) (λgz gJ iL=>Mv _ (Int.gcd X Y:Int) k gz ((h1.kp (gr.aH gJ)).in MV) aa) (λgz gJ iL w3 s3 p3 n3 c3 h3 dU lN _ bb3=>wV rfl ?_)
  refine ae ?_
  refine VO.call rfl rfl (fk Tryz.func208) (λjw kX kY=>(ly _ _ X (-(Int.gcd X Y:Int)) j k jw (hv.az kY) ((h3.kp kX).in MV.neg) aa aa).mono ?_)
  rintro e w4 ⟨hd4,iX⟩
  obtain⟨v4,u4,rfl,h4,h4'⟩:=fv hd4 aa
  obtain⟨s4,p4,n4,c4,rfl⟩:=h4.form
  obtain⟨t4,r4,m4,d4,rfl⟩:=h4'.form
  refine cP iX ?_
  intro oK _ zJ
  refine VO.call rfl rfl (fk Tryz.func208) (λjU kZ lO=>(ly _ _ Y (-(Int.gcd X Y:Int)) k k jU (hu.az lO) ((h3.kp (oK.aH kZ)).in MV.neg) aa aa).mono ?_)
  rintro e w5 ⟨hd5,kj⟩
  obtain⟨v5,u5,rfl,h5,h5'⟩:=fv hd5 aa
  obtain⟨s5,p5,n5,c5,rfl⟩:=h5.form
  obtain⟨t5,r5,m5,d5,rfl⟩:=h5'.form
  refine cP kj ?_
  intro pQ _ AM
  refine bV ?_;intro wz kz bz
  exact⟨_,rfl,⟨_,_,_,_,_,_,_,_,rfl,aF.cast ((h4.kp (pQ.aH kz)).mono kY.size) l1,aF.cast ((h5.kp kz).mono lO.size) l2⟩,bz⟩
 ·rw[fj q]
  obtain⟨l1,l2⟩:=vF (X:=X) q
  refine cP bM ?_
  intro gr _ bb2
  refine VO.call rfl rfl (fk Tryz.func208) (λjw kX kY=>(ly _ _ X (Int.gcd X Y:Int) j k jw (hv.az kY) ((h1.kp (gr.aH kX)).in MV) aa aa).mono ?_)
  rintro e w4 ⟨hd4,iX⟩
  obtain⟨v4,u4,rfl,h4,h4'⟩:=fv hd4 aa
  obtain⟨s4,p4,n4,c4,rfl⟩:=h4.form
  obtain⟨t4,r4,m4,d4,rfl⟩:=h4'.form
  refine cP iX ?_
  intro oK _ zJ
  refine VO.call rfl rfl (fk Tryz.func208) (λjU kZ lO=>(ly _ _ Y (Int.gcd X Y:Int) k k jU (hu.az lO) ((h1.kp (gr.aH (oK.aH kZ))).in MV) aa aa).mono ?_)
  rintro e w5 ⟨hd5,kj⟩
  obtain⟨v5,u5,rfl,h5,h5'⟩:=fv hd5 aa
  obtain⟨s5,p5,n5,c5,rfl⟩:=h5.form
  obtain⟨t5,r5,m5,d5,rfl⟩:=h5'.form
  refine cP kj ?_
  intro pQ _ AM
  refine bV ?_;intro wz kz bz
  exact⟨_,rfl,⟨_,_,_,_,_,_,_,_,rfl,aF.cast ((h4.kp (pQ.aH kz)).mono kY.size) l1,aF.cast ((h5.kp kz).mono lO.size) l2⟩,bz⟩
end
section
open Go.RowKit
attribute [local irreducible] aB VS
theorem vI (q r:Rat):q+r=Rat.divInt (q.num*r.den+r.num*q.den) ((q.den:Int)*r.den):=by
 rw[Rat.add_def',<-Rat.divInt_ofNat];simp
theorem add_same {q r:Rat} (h:(q.den:Int)=r.den):q+r=Rat.divInt (q.num+r.num) q.den:=by
 rw[vI,<-h]
 have hd:(q.den:Int)≠0:=by have:=q.den_nz;omega
 rw[<-Int.add_mul,Rat.divInt_mul_right hd]
theorem tJ {X Y:Int} {k l:Nat} (hX:Sz X k) (hY:Sz Y l) (h:Y≠0):Sz (Rat.divInt X Y).num k/\Sz ((Rat.divInt X Y).den:Int) l:=by
 constructor
 ·refine Sz.le hX ?_
  rw[Rat.num_divInt]
  have h1:(Y.sign*X/(Y.gcd X:Int)).natAbs<=(Y.sign*X).natAbs:=Int.natAbs_ediv_le_natAbs _ _
  rw[Int.natAbs_mul] at h1
  have h2:Y.sign.natAbs=1:=by
   rcases Int.lt_or_lt_of_ne h with e|e
   ·rw[sign_neg e];rfl
   ·rw[fj e];rfl
  rw[h2,Nat.one_mul] at h1
  exact h1
 ·refine Sz.le hY ?_
  rw[Rat.den_divInt,if_neg h,Int.natAbs_natCast]
  exact Nat.div_le_self _ _
theorem lM.add {q r:Rat} {k l:Nat} (hq:lM q k) (hr:lM r l):lM (q+r) (k+l+1):=by
 rw[vI]
 have hd:(q.den:Int)*r.den≠0:=Int.mul_ne_zero (by have:=q.den_nz;omega) (by have:=r.den_nz;omega)
 obtain⟨h1,h2⟩:=tJ (Sz.add (hq.1.mul hr.2) (hr.1.mul hq.2) (m:=k+l) aa aa) (hq.2.mul hr.2) hd
 exact⟨h1,h2.mono aa⟩
def Ga (q r:Rat):Int:=if q<r then-1 else if q=r then 0 else 1
theorem Eg (q r:Rat):(q.num*r.den-r.num*q.den).sign=Ga q r:=by
 unfold Ga
 by_cases h1:q<r
 ·rw[if_pos h1];exact sign_neg (by have:=(Rat.lt_iff q r).1 h1;omega)
 ·rw[if_neg h1]
  by_cases h2:q=r
  ·subst h2;rw[if_pos rfl,Int.sub_self];rfl
  ·rw[if_neg h2]
   refine fj ?_
   have a:=mt (Rat.lt_iff q r).2 h1
   have b:=mt Rat.eq_iff_mul_eq_mul.2 h2
   omega
theorem JZ (q:Rat):q.num.sign=Ga q 0:=by
 have:=Eg q 0
 simpa using this
def Eh (Y:Int):Int:=if Y=0 then 20 else 0
theorem nk (n:Int) (w:World) (h0: -9223372036854775808<=n) (h1:n<=9223372036854775807):
  Calls Tryz.prog 37 #[.int .i64 n] w λe w'=>∃ r,e=.returned r/\bQ w' w.heap.size r (n:Rat)/\ax w w':=by
 refine ai (C:=bj Tryz.prog w _) (args:=[_]) Tryz.func37 rfl Tryz.ntmps37 (cr rfl) ?_
 refine ae ?_
 refine VO.cI rfl rfl (fk Tryz.func88) (λbL dw bX=>Ie n bL h0 h1) (λbL dw bX w1 s1 p1 n1 c1 q1 bl eM _ bb1=>wV rfl ?_)
 refine ae ?_
 refine VO.cI rfl rfl (fk Tryz.func87) (λdh eU dQ=>qS dh) (λdh eU dQ w2 s2 p2 n2 c2 q2 bM gr _ bb2=>wV rfl ?_)
 refine ae ?_
 refine bV ?_;intro wz kz bz
 exact⟨_,rfl,⟨_,_,_,_,_,_,_,_,rfl,(q1.kp (gr.aH kz)).mono bX.size,(q2.kp kz).mono dQ.size⟩,bz⟩
theorem zK (v u:Value) (q r:Rat) (k l:Nat) (w:World) (hv:fm w v q) (hu:fm w u r) (hq:lM q k) (hr:lM r l) (hk:k<=67108864) (hl:l<=67108864):
  Calls Tryz.prog 89 #[v,u] w λe w'=>∃ x,e=.returned x/\bQ w' w.heap.size x (q+r)/\ax w w':=by
 obtain⟨s,p,n,c,t,y,m,d,rfl⟩:=hv.form
 obtain⟨s',p',n',c',t',y',m',d',rfl⟩:=hu.form
 obtain⟨v1,v2⟩:=hv.parts
 obtain⟨u1,u2⟩:=hu.parts
 have dq:(q.den:Int)≠0:=by have:=q.den_nz;omega
 have dr:(r.den:Int)≠0:=by have:=r.den_nz;omega
 refine ai (C:=bj Tryz.prog w _) (args:=[_,_]) Tryz.func89 rfl Tryz.ntmps89 (cr rfl) ?_
 refine ae ?_
 refine VO.call rfl rfl (fk Tryz.func85) (λbL dw bX=>(xo _ _ (q.den:Int) r.den k l bL ((v2.az bX).to hq.2) ((u2.az bX).to hr.2) aa aa).mono ?_)
 rintro e w1 ⟨rfl,bl⟩
 by_cases hd:(q.den:Int)=r.den
 ·rw[show ((q.den:Int)-r.den).sign=0 by rw[hd,Int.sub_self];rfl]
  refine cP bl ?_
  intro eM _ bb1
  refine VO.cI rfl rfl (fk Tryz.func150) (λdh eU dQ=>Dx _ _ q.num r.num k l dh ((v1.az dQ).to hq.1) ((u1.az dQ).to hr.1) aa aa) (λdh eU dQ w2 s2 p2 n2 c2 q2 bM gr _ bb2=>wV rfl ?_)
  refine ae ?_
  refine VO.cR rfl rfl (fk Tryz.func149) (λgz gJ iL=>uF _ _ (q.num+r.num) q.den (k+l+1) k gz ((q2.kp gJ).in (Sz.add hq.1 hr.1 aa aa)) ((v2.az iL).to hq.2) aa aa dq) (λgz gJ iL w3 s3 p3 n3 c3 t3 y3 m3 d3 q3 dU lN _ bb3=>wV rfl ?_)
  refine ae ?_
  refine bV ?_;intro wz kz bz
  exact⟨_,rfl,bQ.cast ((q3.kp kz).mono iL.size) (add_same hd).symm,bz⟩
 ·have hs:((((q.den:Int)-r.den).sign == 0))=false:=by
   rw[beq_eq_false_iff_ne]
   intro e
   have:=Int.sign_eq_zero_iff_zero.1 e
   omega
  rcases Int.lt_or_lt_of_ne (show (q.den:Int)-r.den≠0 by omega) with e|e
  all_goals
   first|rw[sign_neg e]|rw[fj e]
   refine cP bl ?_
   intro eM _ bb1
   refine VO.cI rfl rfl (fk Tryz.func100) (λdh eU dQ=>oI _ _ q.num r.den k l dh ((v1.az dQ).to hq.1) ((u2.az dQ).to hr.2) aa aa) (λdh eU dQ w2 s2 p2 n2 c2 q2 bM gr _ bb2=>wV rfl ?_)
   refine ae ?_
   refine VO.cI rfl rfl (fk Tryz.func100) (λgz gJ iL=>oI _ _ r.num q.den l k gz ((u1.az iL).to hr.1) ((v2.az iL).to hq.2) aa aa) (λgz gJ iL w3 s3 p3 n3 c3 q3 dU lN _ bb3=>wV rfl ?_)
   refine ae ?_
   refine VO.cI rfl rfl (fk Tryz.func150) (λjw kX kY=>Dx _ _ (q.num*r.den) (r.num*q.den) (k+l) (l+k) jw ((q2.kp (lN.aH kX)).in (hq.1.mul hr.2)) ((q3.kp kX).in (hr.1.mul hq.2)) aa aa) (λjw kX kY w4 s4 p4 n4 c4 q4 iX oK _ zJ=>wV rfl ?_)
   refine ae ?_
   refine VO.cI rfl rfl (fk Tryz.func100) (λjU kZ lO=>oI _ _ q.den r.den k l jU ((v2.az lO).to hq.2) ((u2.az lO).to hr.2) aa aa) (λjU kZ lO w5 s5 p5 n5 c5 q5 kj pQ _ AM=>wV rfl ?_)
   refine ae ?_
   refine VO.cR rfl rfl (fk Tryz.func149) (λuV sc BA=>uF _ _ (q.num*r.den+r.num*q.den) ((q.den:Int)*r.den) (k+l+1) (k+l) uV ((q4.kp (pQ.aH sc)).in (Sz.add (hq.1.mul hr.2) (hr.1.mul hq.2) aa aa)) ((q5.kp sc).in (hq.2.mul hr.2)) aa aa (Int.mul_ne_zero dq dr)) (λuV sc BA w6 s6 p6 n6 c6 t6 y6 m6 d6 q6 uT yp _ Le=>wV rfl ?_)
   refine ae ?_
   refine bV ?_;intro wz kz bz
   exact⟨_,rfl,bQ.cast ((q6.kp kz).mono BA.size) (vI q r).symm,bz⟩
end
section
open Go.RowKit
attribute [local irreducible] aB VS
def oM (k:Nat):Nat:=max k 1
theorem df.sz1 {w:World} {v:Value} {q:Rat} {k:Nat} (h:df w v q k):lM q (oM k):=by
 obtain⟨s,xs,t,ys,h1,h2,h3,h4⟩:=h
 exact df.sz (k:=oM k) ⟨s,xs,t,ys,h1,h2,by unfold oM;omega,by unfold oM;omega⟩ (by unfold oM;omega)
theorem Gb (v u:Value) (q r:Rat) (k l:Nat) (w:World) (hv:df w v q k) (hu:df w u r l) (hk:k<=67108864) (hl:l<=67108864):
  Calls Tryz.prog 38 #[v,u] w λe w'=>∃ x,e=.returned x/\bQ w' w.heap.size x (q+r)/\ax w w':=by
 obtain⟨s,p,n,c,t,y,m,d,rfl⟩:=hv.form
 obtain⟨s',p',n',c',t',y',m',d',rfl⟩:=hu.form
 refine ai (C:=bj Tryz.prog w _) (args:=[_,_]) Tryz.func38 rfl Tryz.ntmps38 (cr rfl) ?_
 refine ae ?_
 refine VO.cR rfl rfl (fk Tryz.func90) (λbL dw bX=>gn _ q k bL (hv.kp dw) aa) (λbL dw bX w1 s1 p1 n1 c1 t1 y1 m1 d1 q1 bl eM _ bb1=>wV rfl ?_)
 refine ae ?_
 refine VO.cR rfl rfl (fk Tryz.func90) (λdh eU dQ=>gn _ r l dh (hu.kp (eM.aH eU)) aa) (λdh eU dQ w2 s2 p2 n2 c2 t2 y2 m2 d2 q2 bM gr _ bb2=>wV rfl ?_)
 refine ae ?_
 refine VO.cR rfl rfl (fk Tryz.func89) (λgz gJ iL=>zK _ _ q r _ _ gz (q1.kp (gr.aH gJ)) (q2.kp gJ) hv.sz1 hu.sz1 (by unfold oM;omega) (by unfold oM;omega)) (λgz gJ iL w3 s3 p3 n3 c3 t3 y3 m3 d3 q3 dU lN _ bb3=>wV rfl ?_)
 refine ae ?_
 refine bV ?_;intro wz kz bz
 exact⟨_,rfl,(q3.kp kz).mono iL.size,bz⟩
theorem Ei (v:Value) (q:Rat) (k:Nat) (w:World) (hv:df w v q k) (hk:k<=536870912):
  Calls Tryz.prog 57 #[v] w λe w'=>e=.returned (.int .i64 (Ga q 0))/\ax w w':=by
 obtain⟨s,p,n,c,t,y,m,d,rfl⟩:=hv.form
 refine ai (C:=bj Tryz.prog w _) (args:=[_]) Tryz.func57 rfl Tryz.ntmps57 (cr rfl) ?_
 refine ae ?_
 refine VO.cR rfl rfl (fk Tryz.func90) (λbL dw bX=>gn _ q k bL (hv.kp dw) hk) (λbL dw bX w1 s1 p1 n1 c1 t1 y1 m1 d1 q1 bl eM _ bb1=>wV rfl ?_)
 refine ae ?_
 refine VO.call rfl rfl (fk Tryz.func84) (λdh eU dQ=>(pO _ q.num _ dh ((q1.parts.1.kp eU).to hv.sz1.1)).mono ?_)
 rintro e w2 ⟨rfl,bM⟩
 rw[JZ]
 refine cP bM ?_
 intro gr _ bb2
 refine bV ?_;intro wz kz bz
 exact⟨rfl,bz⟩
theorem Gc (v u:Value) (q r:Rat) (k l:Nat) (w:World) (hv:df w v q k) (hu:df w u r l) (hk:k<=67108864) (hl:l<=67108864):
  Calls Tryz.prog 43 #[v,u] w λe w'=>e=.returned (.int .i64 (Ga q r))/\ax w w':=by
 obtain⟨s,p,n,c,t,y,m,d,rfl⟩:=hv.form
 obtain⟨s',p',n',c',t',y',m',d',rfl⟩:=hu.form
 have zq:=hv.sz1
 have zr:=hu.sz1
 have uk:oM k<=67108864:=by unfold oM;omega
 have ul:oM l<=67108864:=by unfold oM;omega
 refine ai (C:=bj Tryz.prog w _) (args:=[_,_]) Tryz.func43 rfl Tryz.ntmps43 (cr rfl) ?_
 refine ae ?_
 refine VO.cR rfl rfl (fk Tryz.func90) (λbL dw bX=>gn _ q k bL (hv.kp dw) aa) (λbL dw bX w1 s1 p1 n1 c1 t1 y1 m1 d1 q1 bl eM _ bb1=>wV rfl ?_)
 refine ae ?_
 refine VO.cR rfl rfl (fk Tryz.func90) (λdh eU dQ=>gn _ r l dh (hu.kp (eM.aH eU)) aa) (λdh eU dQ w2 s2 p2 n2 c2 t2 y2 m2 d2 q2 bM gr _ bb2=>wV rfl ?_)
 refine ae ?_
 obtain⟨a1,a2⟩:=q1.parts
 obtain⟨b1,b2⟩:=q2.parts
 refine VO.cI rfl rfl (fk Tryz.func100) (λgz gJ iL=>oI _ _ q.num r.den _ _ gz ((a1.kp (gr.aH gJ)).to zq.1) ((b2.kp gJ).to zr.2) aa aa) (λgz gJ iL w3 s3 p3 n3 c3 q3 dU lN _ bb3=>wV rfl ?_)
 refine ae ?_
 refine VO.cI rfl rfl (fk Tryz.func100) (λjw kX kY=>oI _ _ r.num q.den _ _ jw ((b1.kp (lN.aH kX)).to zr.1) ((a2.kp (gr.aH (lN.aH kX))).to zq.2) aa aa) (λjw kX kY w4 s4 p4 n4 c4 q4 iX oK _ zJ=>wV rfl ?_)
 refine ae ?_
 refine VO.call rfl rfl (fk Tryz.func85) (λjU kZ lO=>(xo _ _ (q.num*r.den) (r.num*q.den) _ _ jU ((q3.kp (oK.aH kZ)).in (zq.1.mul zr.2)) ((q4.kp kZ).in (zr.1.mul zq.2)) aa aa).mono ?_)
 rintro e w5 ⟨rfl,kj⟩
 rw[Eg]
 refine cP kj ?_
 intro pQ _ AM
 refine bV ?_;intro wz kz bz
 exact⟨rfl,bz⟩
end
section
open Go.RowKit
attribute [local irreducible] aB VS
def tK (w:World) (v:Value) (qs:List Rat) (k:Nat):Prop:=
 ∃ p c,v=.slice p qs.length c/\qs.length<=c/\c<=maxLen/\∀ i q,qs[i]? =some q->∃ b off s p' n c' t r m d,p=some ⟨b,off,none⟩/\
   (∀ j u,[Value.bool s,.slice p' n c',.bool t,.slice r m d][j]? =some u->w.cell? ⟨b,off+i*4+j,none⟩=some u)/\df w (.agg #[.bool s,.slice p' n c',.bool t,.slice r m d]) q k
theorem tK.form {w:World} {v:Value} {qs:List Rat} {k:Nat} (h:tK w v qs k):∃ p c,v=.slice p qs.length c/\qs.length<=c/\c<=maxLen:=by
 obtain⟨p,c,hv,h1,h2,_⟩:=h
 exact⟨p,c,hv,h1,h2⟩
theorem tK.at {w:World} {p:Option Addr} {n c:Nat} {qs:List Rat} {k i:Nat} {q:Rat} (h:tK w (.slice p n c) qs k) (hq:qs[i]? =some q):∃ b off s p' n' c' t r m d,p=some ⟨b,off,none⟩/\
  (∀ j u,[Value.bool s,.slice p' n' c',.bool t,.slice r m d][j]? =some u->w.cell? ⟨b,off+i*4+j,none⟩=some u)/\df w (.agg #[.bool s,.slice p' n' c',.bool t,.slice r m d]) q k:=by
 obtain⟨p',c',hv,h1,h2,h3⟩:=h
 cases hv
 exact h3 i q hq
theorem ay {i:Nat} (h:i<9223372036854775807):IntKind.i64.wrap ((i:Int)+1)=((i+1:Nat):Int):=by
 rw[IntWalk.i64_in _ aa];omega
def xD (qs:List Rat):Rat:=qs.foldl (·+ ·) 0
theorem aR {α:Type} {l:List α} {i:Nat} {x:α} (h:l[i]? =some x):l.take (i+1)=l.take i++[x]:=by
 obtain⟨hi,rfl⟩:=List.getElem?_eq_some_iff.1 h
 exact List.take_succ_eq_append_getElem hi
theorem zL {qs:List Rat} {i:Nat} {q:Rat} (h:qs[i]? =some q):xD (qs.take (i+1))=xD (qs.take i)+q:=by
 rw[aR h];simp[xD,List.foldl_append]
def gU (k i:Nat):Nat:=1+i*(oM k+1)
theorem Ej (k i:Nat):gU k (i+1)=gU k i+oM k+1:=by unfold gU;rw[Nat.add_mul,Nat.one_mul];omega
theorem Ka {k i n:Nat} (h:i<=n):gU k i<=gU k n:=by unfold gU;have:=Nat.mul_le_mul_right (oM k+1) h;omega
theorem xE (v:Value) (qs:List Rat) (k:Nat) (w:World) (hv:tK w v qs k) (hk:gU k qs.length<=67108864):
  Calls Tryz.prog 39 #[v] w λe w'=>∃ x,e=.returned x/\bQ w' w.heap.size x (xD qs)/\lM (xD qs) (gU k qs.length)/\ax w w':=by
 obtain⟨p,c,rfl,gg,gF⟩:=hv.form
 obtain⟨N,hN⟩:∃ N,N=qs.length:=⟨_,rfl⟩
 rw[<-hN] at hv hk gg ⊢
 have hNm:N<9223372036854775807:=by unfold gU at hk;have:=Nat.le_mul_of_pos_right N (show 0<oM k+1 by omega);omega
 have huk:oM k<=67108864\/N=0:=by
  rcases Nat.eq_zero_or_pos N with e|e
  ·exact .inr e
  ·left;unfold gU at hk;have:=Nat.le_mul_of_pos_left (oM k+1) e;omega
 refine ai (C:=bj Tryz.prog w _) (args:=[_]) Tryz.func39 rfl Tryz.ntmps39 (cr rfl) ?_
 refine ae ?_
 refine VO.cR rfl rfl (fk Tryz.func37) (λbL dw bX=>nk 0 bL aa aa) (λbL dw bX w1 s1 p1 n1 c1 t1 y1 m1 d1 q1 bl eM _ bb1=>wV rfl ?_)
 refine ae ?_
 refine VS.loop (J:=λn L M w'=>∃ i s p' n' c' t r m d,i<=N/\n=N-i/\L=[(7,.val (.slice p N c)),(8,.val (.int .i64 (N:Int))),(9,.val (.int .i64 (i:Int))),(3,.box 3 0),(2,.box 2 0)]/\
  M=[(2,(27,([.bool false,.slice none 0 0,.bool false,.slice none 0 0]:List Value).map .val)),(3,(27,([.bool s,.slice p' n' c',.bool t,.slice r m d]:List Value).map .val))]/\bQ w' w.heap.size (.agg #[.bool s,.slice p' n' c',.bool t,.slice r m d]) (xD (qs.take i))/\lM (xD (qs.take i)) (gU k i)) N ⟨_,_,?_,?_,?_,?_,⟨0,s1,p1,n1,c1,t1,y1,m1,d1,by omega,by omega,rfl,rfl,(q1.mono bX.size).cast (by simp[xD]),by simp only[List.take_zero,xD,List.foldl_nil,gU,Nat.zero_mul,Nat.add_zero];exact lM.zero⟩⟩ ?_
 ·exact du
 ·exact du
 ·rfl
 ·exact iq
 rintro n L M w' ⟨i,s,p',n',c',t,r,m,d,hi,rfl,rfl,rfl,ho,hz⟩
 refine ae ?_
 by_cases hlt:i<N
 ·obtain⟨q,hq⟩:∃ q,qs[i]? =some q:=⟨_,List.getElem?_eq_getElem aa⟩
  obtain⟨b,off,s2,p2,n2,c2,t2,r2,m2,d2,rfl,hc,vo⟩:=hv.at hq
  refine VS.aU rfl (decide_eq_true (Int.ofNat_lt.2 hlt)) ?_
  refine ae ?_
  refine VO.cond rfl cW (wV rfl ?_)
  refine VO.read rfl [.bool s2,.slice p2 n2 c2,.bool t2,.slice r2 m2 d2] rfl (λj u hj=>by rw[Addr.add_mid,Int.toNat_natCast];exact hc j u hj) (wV rfl ?_)
  refine ae ?_
  refine VO.call rfl rfl (fk Tryz.func90) (λdh eU dQ=>(gn _ q k dh ((vo.kp (Kp.of (U:=UU) dQ))) (by have:=hk;unfold oM at*;omega)).mono ?_)
  rintro e w2 ⟨r2',rfl,q2,bM⟩
  obtain⟨s3,p3,n3,c3,t3,y3,m3,d3,rfl⟩:=q2.form
  refine cP bM ?_
  intro gr _ bb2
  refine VO.call rfl rfl (fk Tryz.func89) (λgz gJ iL=>(zK _ _ (xD (qs.take i)) q (gU k i) (oM k) gz ((ho.kp (gr.aH gJ)).rd) (q2.kp gJ) hz vo.sz1 (by have:=Ka (k:=k) hi;omega) aa).mono ?_)
  rintro e w3 ⟨r3',rfl,q3,dU⟩
  obtain⟨s4,p4,n4,c4,t4,y4,m4,d4,rfl⟩:=q3.form
  refine cP dU ?_
  intro lN _ bb3
  refine VS.back (N-(i+1)) aa ⟨_,_,?_,?_,?_,?_,⟨i+1,s4,p4,n4,c4,t4,y4,m4,d4,by omega,rfl,rfl,rfl,(q3.mono iL.size).cast (zL hq).symm,by rw[zL hq,Ej];exact hz.add vo.sz1⟩⟩
  ·refine⟨rfl,rfl,?_,rfl,rfl,trivial⟩
   rw[<-ay aa];rfl
  ·exact du
  ·rfl
  ·exact iq
 ·refine VS.aN rfl (decide_eq_false (λe=>hlt (Int.ofNat_lt.1 e))) ?_
  refine ae ?_
  refine bV ?_;intro wz kz bz
  obtain rfl:i=N:=by omega
  rw[List.take_of_length_le aa] at ho hz
  exact⟨_,rfl,ho.kp kz,hz,bz⟩
end
set_option maxRecDepth 4000
section
open Go.RowKit
attribute [local irreducible] aB VS
theorem Ek (v u:Value) (X Y:Int) (j k:Nat) (w:World) (hv:cz w v X j) (hu:cz w u Y k) (hj:j<=1073741824) (hk:k<=1073741824):
  Calls Tryz.prog 192 #[v,u] w λe w'=>e=.returned (.bool (decide (X=Y)))/\ax w w':=by
 obtain⟨s,p,n,c,rfl⟩:=hv.form
 obtain⟨t,q,m,d,rfl⟩:=hu.form
 refine ai (C:=bj Tryz.prog w _) (args:=[_,_]) Tryz.func192 rfl Tryz.ntmps192 (cr rfl) ?_
 refine ae ?_
 refine VO.cB rfl rfl (fk Tryz.func259) (λbL dw bX=>DL _ _ X Y j k bL (hv.kp dw) (hu.kp dw) hj hk) (λbL dw bX w1 bl eM _ bb1=>wV rfl ?_)
 refine ae ?_
 refine bV ?_;intro wz kz bz
 refine⟨?_,bz⟩
 show Ending.returned (.bool (xu X Y == 0))=_
 unfold xu
 by_cases h:X=Y
 ·rw[h,decide_eq_true rfl,Int.sub_self];rfl
 ·rw[decide_eq_false h]
  have:((X-Y).sign == 0)=false:=by
   rw[beq_eq_false_iff_ne]
   intro e
   have:=Int.sign_eq_zero_iff_zero.1 e
   omega
  rw[this]
theorem AZ (s t:Bool) (xs ys:List Nat) (v:Value) (w:World) (h:dZ w v s xs t ys) (hx:xs.length<=134217728) (hy:ys.length<=134217728):
  Calls Tryz.prog 133 #[v] w λe w'=>e=.returned (.bool (AW s xs t ys))/\ax w w':=by
 obtain⟨p,c,r,d,rfl,h1,h2⟩:=h
 refine ai (C:=bj Tryz.prog w _) (args:=[_]) Tryz.func133 rfl Tryz.ntmps133 (cr rfl) ?_
 refine ae ?_
 refine VO.call rfl rfl (fk Tryz.func190) (λbL dw bX=>(qP s xs _ bL (h1.az bX)).mono ?_)
 rintro e w1 ⟨rfl,bl⟩
 cases q1:dH s xs
 ·refine cP bl ?_
  intro eM _ bb1
  refine bV ?_;intro wz kz bz
  exact⟨by simp[AW,q1,kE],bz⟩
 refine cP bl ?_
 intro eM _ bb1
 refine VO.call rfl rfl (fk Tryz.func190) (λdh eU dQ=>(qP t ys _ dh (h2.az dQ)).mono ?_)
 rintro e w2 ⟨rfl,bM⟩
 cases q2:dH t ys
 ·refine cP bM ?_
  intro gr _ bb2
  refine bV ?_;intro wz kz bz
  exact⟨by simp[AW,q1,q2,kE],bz⟩
 refine cP bM ?_
 intro gr _ bb2
 refine VO.call rfl rfl (fk Tryz.func191) (λgz gJ iL=>(de _ (numOf t ys) _ gz ((h2.in (Nat.le_refl _)).az iL) aa).mono ?_)
 rintro e w3 ⟨rfl,dU⟩
 by_cases q3:0<numOf t ys
 ·rw[fj q3]
  refine cP dU ?_
  intro lN _ bb3
  refine VO.cI rfl rfl (fk Tryz.func193) (λjw kX kY=>xC _ _ (numOf s xs) (numOf t ys) _ _ jw ((h1.in (Nat.le_refl _)).az kY) ((h2.in (Nat.le_refl _)).az kY) aa aa) (λjw kX kY w4 s4 p4 n4 c4 h4 iX oK _ zJ=>wV rfl ?_)
  refine ae ?_
  refine VO.cI rfl rfl (fk Tryz.func142) (λjU kZ lO=>ng 1 jU aa aa) (λjU kZ lO w5 s5 p5 n5 c5 h5 kj pQ _ AM=>wV rfl ?_)
  refine ae ?_
  have hg:Sz (Int.gcd (numOf s xs) (numOf t ys):Int) ys.length:=AY (rW h2.lim (Nat.le_refl _)) aa
  refine VO.call rfl rfl (fk Tryz.func192) (λuV sc BA=>(Ek _ _ (Int.gcd (numOf s xs) (numOf t ys):Int) 1 _ 1 uV ((h4.kp (pQ.aH sc)).in hg) ((h5.kp sc).in (Sz.small cH)) aa aa).mono ?_)
  rintro e w6 ⟨rfl,uT⟩
  by_cases q4:Int.gcd (numOf s xs) (numOf t ys)=1
  ·rw[show decide ((Int.gcd (numOf s xs) (numOf t ys):Int)=1)=true from decide_eq_true aa]
   refine cP uT ?_
   intro yp _ Le
   refine bV ?_;intro wz kz bz
   exact⟨by simp[AW,q1,q2,q3,q4,kE],bz⟩
  ·rw[show decide ((Int.gcd (numOf s xs) (numOf t ys):Int)=1)=false from decide_eq_false aa]
   refine cP uT ?_
   intro yp _ Le
   refine bV ?_;intro wz kz bz
   exact⟨by simp[AW,q1,q2,q3,q4,kE],bz⟩
 ·have q4:(numOf t ys).sign=0\/(numOf t ys).sign= -1:=by
   rcases Int.lt_trichotomy (numOf t ys) 0 with e|e|e
   ·exact .inr (sign_neg e)
   ·rw[e];exact .inl rfl
   ·exact absurd e q3
  rcases q4 with q4|q4
  all_goals
   rw[q4]
   refine cP dU ?_
   intro lN _ bb3
   refine bV ?_;intro wz kz bz
   exact⟨by simp[AW,q1,q2,q3,kE],bz⟩
theorem oN (w:World):Calls Tryz.prog 80 #[] w λe w'=>∃ r,e=.returned r/\bQ w' w.heap.size r 0/\ax w w':=by
 refine ai (C:=bj Tryz.prog w _) (args:=[]) Tryz.func80 rfl Tryz.ntmps80 (cr rfl) ?_
 refine ae ?_
 refine VO.cI rfl rfl (fk Tryz.func142) (λbL dw bX=>ng 0 bL aa aa) (λbL dw bX w1 s1 p1 n1 c1 q1 bl eM _ bb1=>wV rfl ?_)
 refine ae ?_
 refine VO.cI rfl rfl (fk Tryz.func142) (λdh eU dQ=>ng 1 dh aa aa) (λdh eU dQ w2 s2 p2 n2 c2 q2 bM gr _ bb2=>wV rfl ?_)
 refine ae ?_
 refine bV ?_;intro wz kz bz
 exact⟨_,rfl,⟨_,_,_,_,_,_,_,_,rfl,(q1.kp (gr.aH kz)).mono bX.size,(q2.kp kz).mono dQ.size⟩,bz⟩
theorem np (v:Value) (q:Rat) (k:Nat) (w:World) (h:df w v q k) (hk:k<=134217728):
  Calls Tryz.prog 70 #[v] w λe w'=>∃ r,e=.returned r/\fm w' r q/\ax w w':=by
 obtain⟨s,xs,t,ys,oz,rfl,hx,hy⟩:=h
 have Ef:=oz
 obtain⟨p,c,r,d,rfl,_,_⟩:=oz
 refine ai (C:=bj Tryz.prog w _) (args:=[_]) Tryz.func70 rfl Tryz.ntmps70 (cr rfl) ?_
 refine ae ?_
 refine VO.call rfl rfl (fk Tryz.func133) (λbL dw bX=>(AZ s t xs ys _ bL (Ef.kp dw) aa aa).mono ?_)
 rintro e w1 ⟨rfl,bl⟩
 cases hq:AW s xs t ys
 ·refine cP bl ?_
  intro eM _ bb1
  refine VO.cR rfl rfl (fk Tryz.func80) (λdh eU dQ=>oN dh) (λdh eU dQ w2 s2 p2 n2 c2 t2 y2 m2 d2 h2 bM gr _ bb2=>wV rfl ?_)
  refine ae ?_
  refine bV ?_;intro wz kz bz
  exact⟨_,rfl,by rw[Ed hq];exact (h2.kp kz).rd,bz⟩
 ·refine cP bl ?_
  intro eM _ bb1
  refine bV ?_;intro wz kz bz
  exact⟨_,rfl,(Ee Ef hq).kp (eM.aH kz),bz⟩
theorem MW {X Y:Int}:Rat.divInt X Y=Rat.divInt (-X) (-Y):=(Rat.neg_divInt_neg X Y).symm
theorem xF (v u:Value) (X Y:Int) (j k:Nat) (w:World) (hv:cz w v X j) (hu:cz w u Y k) (hj:j<=134217728) (hk:k<=134217728):
  Calls Tryz.prog 139 #[v,u] w λe w'=>∃ r,e=.returned (.tuple #[r,.int .i64 (Eh Y)])/\bQ w' w.heap.size r (Rat.divInt X Y)/\ax w w':=by
 obtain⟨s,p,n,c,rfl⟩:=hv.form
 obtain⟨t,r,m,d,rfl⟩:=hu.form
 refine ai (C:=bj Tryz.prog w _) (args:=[_,_]) Tryz.func139 rfl Tryz.ntmps139 (cr rfl) ?_
 refine ae ?_
 refine VO.call rfl rfl (fk Tryz.func191) (λbL dw bX=>(de _ Y k bL (hu.az bX) aa).mono ?_)
 rintro e w1 ⟨rfl,bl⟩
 by_cases hY:Y=0
 ·rw[show Y.sign=0 by rw[hY];rfl]
  refine cP bl ?_
  intro eM _ bb1
  refine VO.cR rfl rfl (fk Tryz.func80) (λdh eU dQ=>oN dh) (λdh eU dQ w2 s2 p2 n2 c2 t2 y2 m2 d2 h2 bM gr _ bb2=>wV rfl ?_)
  refine ae ?_
  refine bV ?_;intro wz kz bz
  refine⟨_,by rw[Eh,if_pos hY];rfl,?_,bz⟩
  rw[hY,Rat.divInt_zero]
  exact (h2.kp kz).mono dQ.size
 ·rcases Int.lt_or_lt_of_ne hY with q|q
  ·rw[sign_neg q]
   refine cP bl ?_
   intro eM _ bb1
   refine VO.call rfl rfl (fk Tryz.func191) (λdh eU dQ=>(de _ Y k dh (hu.az dQ) aa).mono ?_)
   rintro e w2 ⟨rfl,bM⟩
   rw[sign_neg q]
   refine cP bM ?_
   intro gr _ bb2
   refine VO.cI rfl rfl (fk Tryz.func194) (λgz gJ iL=>xw _ X j gz (hv.az iL) aa) (λgz gJ iL w3 s3 p3 n3 c3 h3 dU lN _ bb3=>wV rfl ?_)
   refine ae ?_
   refine VO.cI rfl rfl (fk Tryz.func194) (λjw kX kY=>xw _ Y k jw (hu.az kY) aa) (λjw kX kY w4 s4 p4 n4 c4 h4 iX oK _ zJ=>wV rfl ?_)
   refine ae ?_
   have z3:Sz (-X) j:=Sz.neg hv.len
   have z4:Sz (-Y) k:=Sz.neg hu.len
   obtain⟨l1,l2⟩:=vF (X:= -X) (Y:= -Y) aa
   have MV:Sz (Int.gcd (-X) (-Y):Int) k:=AY z4 aa
   have My:(Int.gcd (-X) (-Y):Int)≠0:=by
    intro e
    have:=(Int.gcd_eq_zero_iff.1 (show Int.gcd (-X) (-Y)=0 by omega)).2
    omega
   refine VO.cI rfl rfl (fk Tryz.func193) (λjU kZ lO=>xC _ _ (-X) (-Y) j k jU ((h3.kp (oK.aH kZ)).in z3) ((h4.kp kZ).in z4) aa aa) (λjU kZ lO w5 s5 p5 n5 c5 h5 kj pQ _ AM=>wV rfl ?_)
   refine ae ?_
   refine VO.call rfl rfl (fk Tryz.func195) (λuV sc BA=>(lC _ _ (-X) (Int.gcd (-X) (-Y):Int) j k uV ((h3.kp (oK.aH (pQ.aH sc))).in z3) ((h5.kp sc).in MV) aa aa).mono ?_)
   rintro e w6 ⟨hd6,uT⟩
   obtain⟨v6,u6,rfl,h6,h6'⟩:=fv hd6 My
   obtain⟨s6,p6,n6,c6,rfl⟩:=h6.form
   obtain⟨t6,r6,m6,d6,rfl⟩:=h6'.form
   refine cP uT ?_
   intro yp _ Le
   refine VO.call rfl rfl (fk Tryz.func195) (λDV BB yG=>(lC _ _ (-Y) (Int.gcd (-X) (-Y):Int) k k DV ((h4.kp (pQ.aH (yp.aH BB))).in z4) ((h5.kp (yp.aH BB)).in MV) aa aa).mono ?_)
   rintro e w7 ⟨hd7,Ig⟩
   obtain⟨v7,u7,rfl,h7,h7'⟩:=fv hd7 My
   obtain⟨s7,p7,n7,c7,rfl⟩:=h7.form
   obtain⟨t7,r7,m7,d7,rfl⟩:=h7'.form
   refine cP Ig ?_
   intro FV _ bb7
   refine bV ?_;intro wz kz bz
   rw[MW]
   exact⟨_,by rw[Eh,if_neg hY];rfl,⟨_,_,_,_,_,_,_,_,rfl,aF.cast ((h6.kp (FV.aH kz)).mono BA.size) l1,aF.cast ((h7.kp kz).mono yG.size) l2⟩,bz⟩
  ·rw[fj q]
   refine cP bl ?_
   intro eM _ bb1
   refine VO.call rfl rfl (fk Tryz.func191) (λdh eU dQ=>(de _ Y k dh (hu.az dQ) aa).mono ?_)
   rintro e w2 ⟨rfl,bM⟩
   rw[fj q]
   refine cP bM ?_
   intro gr _ bb2
   obtain⟨l1,l2⟩:=vF (X:=X) (Y:=Y) q
   have MV:Sz (Int.gcd X Y:Int) k:=AY hu.len hY
   have My:(Int.gcd X Y:Int)≠0:=by
    intro e
    have:=(Int.gcd_eq_zero_iff.1 (show Int.gcd X Y=0 by omega)).2
    omega
   refine VO.cI rfl rfl (fk Tryz.func193) (λjU kZ lO=>xC _ _ X Y j k jU (hv.az lO) (hu.az lO) aa aa) (λjU kZ lO w5 s5 p5 n5 c5 h5 kj pQ _ AM=>wV rfl ?_)
   refine ae ?_
   refine VO.call rfl rfl (fk Tryz.func195) (λuV sc BA=>(lC _ _ X (Int.gcd X Y:Int) j k uV (hv.az BA) ((h5.kp sc).in MV) aa aa).mono ?_)
   rintro e w6 ⟨hd6,uT⟩
   obtain⟨v6,u6,rfl,h6,h6'⟩:=fv hd6 My
   obtain⟨s6,p6,n6,c6,rfl⟩:=h6.form
   obtain⟨t6,r6,m6,d6,rfl⟩:=h6'.form
   refine cP uT ?_
   intro yp _ Le
   refine VO.call rfl rfl (fk Tryz.func195) (λDV BB yG=>(lC _ _ Y (Int.gcd X Y:Int) k k DV (hu.az yG) ((h5.kp (yp.aH BB)).in MV) aa aa).mono ?_)
   rintro e w7 ⟨hd7,Ig⟩
   obtain⟨v7,u7,rfl,h7,h7'⟩:=fv hd7 My
   obtain⟨s7,p7,n7,c7,rfl⟩:=h7.form
   obtain⟨t7,r7,m7,d7,rfl⟩:=h7'.form
   refine cP Ig ?_
   intro FV _ bb7
   refine bV ?_;intro wz kz bz
   exact⟨_,by rw[Eh,if_neg hY];rfl,⟨_,_,_,_,_,_,_,_,rfl,aF.cast ((h6.kp (FV.aH kz)).mono BA.size) l1,aF.cast ((h7.kp kz).mono yG.size) l2⟩,bz⟩
theorem Kb (n d:Int) (w:World) (h0: -9223372036854775808<=n) (h1:n<=9223372036854775807) (g0: -9223372036854775808<=d) (g1:d<=9223372036854775807):
  Calls Tryz.prog 104 #[.int .i64 n,.int .i64 d] w λe w'=>∃ r,e=.returned (.tuple #[r,.int .i64 (Eh d)])/\bQ w' w.heap.size r (Rat.divInt n d)/\ax w w':=by
 refine ai (C:=bj Tryz.prog w _) (args:=[_,_]) Tryz.func104 rfl Tryz.ntmps104 (cr rfl) ?_
 refine ae ?_
 refine VO.cI rfl rfl (fk Tryz.func142) (λbL dw bX=>ng n bL h0 h1) (λbL dw bX w1 s1 p1 n1 c1 q1 bl eM _ bb1=>wV rfl ?_)
 refine ae ?_
 refine VO.cI rfl rfl (fk Tryz.func142) (λdh eU dQ=>ng d dh g0 g1) (λdh eU dQ w2 s2 p2 n2 c2 q2 bM gr _ bb2=>wV rfl ?_)
 refine ae ?_
 refine VO.call rfl rfl (fk Tryz.func139) (λgz gJ iL=>(xF _ _ n d 2 2 gz ((q1.kp (gr.aH gJ)).in (Sz.of_lt aa)) ((q2.kp gJ).in (Sz.of_lt aa)) aa aa).mono ?_)
 rintro e w3 ⟨r3,rfl,q3,dU⟩
 obtain⟨s3,p3,n3,c3,t3,x3,m3,d3,rfl⟩:=q3.form
 refine cP dU ?_
 intro lN _ bb3
 refine bV ?_;intro wz kz bz
 exact⟨_,rfl,(q3.kp kz).mono iL.size,bz⟩
theorem Gd (v u:Value) (q r:Rat) (k l:Nat) (w:World) (hv:df w v q k) (hu:df w u r l) (hk:k<=33554432) (hl:l<=33554432):
  Calls Tryz.prog 79 #[v,u] w λe w'=>∃ x,e=.returned x/\bQ w' w.heap.size x (q+r)/\ax w w':=by
 obtain⟨s,p,n,c,t,y,m,d,rfl⟩:=hv.form
 obtain⟨s',p',n',c',t',y',m',d',rfl⟩:=hu.form
 have zq:=hv.sz1
 have zr:=hu.sz1
 have uk:oM k<=33554432:=by unfold oM;omega
 have ul:oM l<=33554432:=by unfold oM;omega
 refine ai (C:=bj Tryz.prog w _) (args:=[_,_]) Tryz.func79 rfl Tryz.ntmps79 (cr rfl) ?_
 refine ae ?_
 refine VO.cR rfl rfl (fk Tryz.func70) (λbL dw bX=>np _ q k bL (hv.kp dw) aa) (λbL dw bX w1 s1 p1 n1 c1 t1 y1 m1 d1 q1 bl eM _ bb1=>wV rfl ?_)
 refine ae ?_
 refine VO.cR rfl rfl (fk Tryz.func70) (λdh eU dQ=>np _ r l dh (hu.kp (eM.aH eU)) aa) (λdh eU dQ w2 s2 p2 n2 c2 t2 y2 m2 d2 q2 bM gr _ bb2=>wV rfl ?_)
 refine ae ?_
 obtain⟨a1,a2⟩:=q1.parts
 obtain⟨b1,b2⟩:=q2.parts
 refine VO.cI rfl rfl (fk Tryz.func141) (λgz gJ iL=>xB _ _ q.num r.den _ _ gz ((a1.kp (gr.aH gJ)).to zq.1) ((b2.kp gJ).to zr.2) aa aa) (λgz gJ iL w3 s3 p3 n3 c3 q3 dU lN _ bb3=>wV rfl ?_)
 refine ae ?_
 refine VO.cI rfl rfl (fk Tryz.func141) (λjw kX kY=>xB _ _ r.num q.den _ _ jw ((b1.kp (lN.aH kX)).to zr.1) ((a2.kp (gr.aH (lN.aH kX))).to zq.2) aa aa) (λjw kX kY w4 s4 p4 n4 c4 q4 iX oK _ zJ=>wV rfl ?_)
 refine ae ?_
 refine VO.cI rfl rfl (fk Tryz.func140) (λjU kZ lO=>rX _ _ (q.num*r.den) (r.num*q.den) (oM k+oM l) (oM l+oM k) jU ((q3.kp (oK.aH kZ)).in (zq.1.mul zr.2)) ((q4.kp kZ).in (zr.1.mul zq.2)) aa aa) (λjU kZ lO w5 s5 p5 n5 c5 q5 kj pQ _ AM=>wV rfl ?_)
 refine ae ?_
 refine VO.cI rfl rfl (fk Tryz.func141) (λuV sc BA=>xB _ _ q.den r.den _ _ uV ((a2.kp (gr.aH (lN.aH (oK.aH (pQ.aH sc))))).to zq.2) ((b2.kp (lN.aH (oK.aH (pQ.aH sc)))).to zr.2) aa aa) (λuV sc BA w6 s6 p6 n6 c6 q6 uT yp _ Le=>wV rfl ?_)
 refine ae ?_
 refine VO.call rfl rfl (fk Tryz.func139) (λDV BB yG=>(xF _ _ (q.num*r.den+r.num*q.den) ((q.den:Int)*r.den) (oM k+oM l+1) (oM k+oM l) DV ((q5.kp (yp.aH BB)).in (Sz.add (zq.1.mul zr.2) (zr.1.mul zq.2) (m:=oM k+oM l) aa aa)) ((q6.kp BB).in (zq.2.mul zr.2)) aa aa).mono ?_)
 rintro e w7 ⟨r7,rfl,q7,Ig⟩
 obtain⟨s7,p7,n7,c7,t7,y7,m7,d7,rfl⟩:=q7.form
 refine cP Ig ?_
 intro FV _ bb7
 refine bV ?_;intro wz kz bz
 exact⟨_,rfl,bQ.cast ((q7.kp kz).mono yG.size) (vI q r).symm,bz⟩
theorem tL (v u:Value) (q r:Rat) (k l:Nat) (w:World) (hv:df w v q k) (hu:df w u r l) (hk:k<=67108864) (hl:l<=67108864) (c:Int) (hc:Ga q r=c):
 Calls Tryz.prog 43 #[v,u] w λe w'=>e=.returned (.int .i64 c)/\ax w w':=hc▸Gc v u q r k l w hv hu hk hl
inductive jP (w:World) (k:Nat):List Rat->List (List Value)->Prop
 | nil:jP w k [] []
 | cons {s:Bool} {p:Option Addr} {n c:Nat} {t:Bool} {r:Option Addr} {m d:Nat} {q:Rat} {qs:List Rat} {vs:List (List Value)}:df w (.agg #[.bool s,.slice p n c,.bool t,.slice r m d]) q k->jP w k qs vs->jP w k (q::qs) ([.bool s,.slice p n c,.bool t,.slice r m d]::vs)
theorem jP.four {w:World} {k:Nat} {qs:List Rat} {vs:List (List Value)} (h:jP w k qs vs):∀ v∈vs,v.length=4:=by
 induction h with
 | nil=>intro v hv;cases hv
 | cons _ _ ih=>
   intro v hv
   rcases List.mem_cons.1 hv with rfl|e
   ·rfl
   ·exact ih v e
theorem jP.at {w:World} {k:Nat} {qs:List Rat} {vs:List (List Value)} (h:jP w k qs vs):∀ (j:Nat) (q:Rat),qs[j]? =some q->∃ s p' n' c' t r m d,vs[j]? =some [Value.bool s,.slice p' n' c',.bool t,.slice r m d]/\df w (.agg #[.bool s,.slice p' n' c',.bool t,.slice r m d]) q k:=by
 induction h with
 | nil=>intro j q hq;simp at hq
 | cons h1 _ ih=>
   intro j q hq
   cases j with
   | zero=>cases hq;exact⟨_,_,_,_,_,_,_,_,rfl,h1⟩
   | succ j=>exact ih j q (by simpa using hq)
theorem flat_at:∀ (vs:List (List Value)) (j:Nat) (v:List Value),(∀ v∈vs,v.length=4)->vs[j]? =some v->∀ (o:Nat) (u:Value),v[o]? =some u->vs.flatten[j*4+o]? =some u:=by
 intro vs
 induction vs with
 | nil=>intro j v _ h;simp at h
 | cons x r ih=>
   intro j v hl h o u hu
   have hx:x.length=4:=hl x ew
   cases j with
   | zero=>
     simp at h
     subst h
     have ho:o<4:=by have:=(List.getElem?_eq_some_iff.1 hu).1;omega
     rw[List.flatten_cons,List.getElem?_append_left aa]
     simpa using hu
   | succ j=>
     have h':r[j]? =some v:=by simpa using h
     rw[List.flatten_cons,List.getElem?_append_right aa,hx,show (j+1)*4+o-4=j*4+o by omega]
     exact ih j v (λv hv=>hl v (by simp[hv])) h' o u hu
theorem zM {C:Cx} {β:Nat->Nat} {w:World} {i:Nat} {t:TypeId} {cs:List AV} {qs:List Rat} {k:Nat} {vs:List (List Value)} {n c:Nat} (h:mV C β w i t cs) (spare:List AV) (hcs:cs=vs.flatten.map .val++spare) (hn:n=qs.length) (hq:jP w k qs vs) (hc:n<=c) (gF:c<=maxLen):
  tK w (.slice (some ⟨β i,0,none⟩) n c) qs k:=by
 subst hn
 refine⟨_,_,rfl,hc,gF,λj q hj=> ?_⟩
 obtain⟨s,p',n',c',t',r,m,d,hvj,vo⟩:=hq.at j q hj
 refine⟨β i,0,s,p',n',c',t',r,m,d,rfl,λo u hu=> ?_,vo⟩
 refine h.cls.cell ?_
 have:=flat_at vs j _ hq.four hvj o u hu
 rw[hcs,List.map_append,aP,List.getElem?_toArray,Nat.zero_add,List.getElem?_append_left (List.getElem?_eq_some_iff.1 this).1]
 exact this
theorem xG (v:Value) (q:Rat) (k:Nat) (w:World) (hv:df w v q k) (hk:k<=536870912) (c:Int) (hc:Ga q 0=c):
 Calls Tryz.prog 57 #[v] w λe w'=>e=.returned (.int .i64 c)/\ax w w':=hc▸Ei v q k w hv hk
theorem dZ.in {w:World} {v:Value} {s t:Bool} {xs ys:List Nat} {k:Nat} (h:dZ w v s xs t ys) (hx:xs.length<=k) (hy:ys.length<=k):df w v (rq s xs t ys) k:=⟨s,xs,t,ys,h,rfl,hx,hy⟩
theorem dZ.lD {w:World} {v:Value} {s t:Bool} {xs ys:List Nat} (h:dZ w v s xs t ys):∃ p c r d,v=.agg #[.bool s,.slice p xs.length c,.bool t,.slice r ys.length d]/\True:=by
 obtain⟨p,c,r,d,rfl,_⟩:=h
 exact⟨_,_,_,_,rfl,trivial⟩
end
section
open Go.RowKit
abbrev jH (T:TypeId->Bool) (w w':World):Prop:=aK ⟨UU,λ_=>True,T⟩ w w'
structure fD {α:Type} (E:World->List Value->α->Prop) (sz:Nat):Prop where
 kp:∀ {w w':World} {cs:List Value} {a:α},E w cs a->Kp UU w w'->E w' cs a
 len:∀ {w:World} {cs:List Value} {a:α},E w cs a->cs.length=sz
 ok:∀ {w:World} {cs:List Value} {a:α},E w cs a->cs.all bf=true
theorem jH.plain {T:TypeId->Bool} {w w':World} (h:jH T w w'):Kp UU w w':=h.dN
inductive cJ {α:Type} (E:World->List Value->α->Prop) (w:World):List α->List (List Value)->Prop
 | nil:cJ E w [] []
 | cons {a:α} {es:List α} {cs:List Value} {vs:List (List Value)}:E w cs a->cJ E w es vs->cJ E w (a::es) (cs::vs)
section
variable {α:Type} {E:World->List Value->α->Prop} {sz:Nat} {w w':World} {es:List α} {vs:List (List Value)}
theorem cJ.len (h:cJ E w es vs):vs.length=es.length:=by
 induction h with
 | nil=>rfl
 | cons _ _ ih=>simp[ih]
theorem cJ.kp (hE:fD E sz) (h:cJ E w es vs) (k:Kp UU w w'):cJ E w' es vs:=by
 induction h with
 | nil=>exact .nil
 | cons h1 _ ih=>exact .cons (hE.kp h1 k) ih
theorem cJ.at (h:cJ E w es vs):∀ (j:Nat) (a:α),es[j]? =some a->∃ cs,vs[j]? =some cs/\E w cs a:=by
 induction h with
 | nil=>intro j q hq;simp at hq
 | cons h1 _ ih=>
   intro j q hq
   cases j with
   | zero=>cases hq;exact⟨_,rfl,h1⟩
   | succ j=>exact ih j q (by simpa using hq)
theorem cJ.append {es':List α} {vs':List (List Value)} (h:cJ E w es vs) (h':cJ E w es' vs'):cJ E w (es++es') (vs++vs'):=by
 induction h with
 | nil=>exact h'
 | cons h1 _ ih=>exact .cons h1 ih
theorem cJ.snoc {a:α} {cs:List Value} (h:cJ E w es vs) (h':E w cs a):cJ E w (es++[a]) (vs++[cs]):=h.append (.cons h' .nil)
theorem cJ.ok (hE:fD E sz) (h:cJ E w es vs):vs.flatten.all bf=true/\vs.flatten.length=es.length*sz:=by
 induction h with
 | nil=>exact⟨rfl,by simp⟩
 | cons h1 _ ih=>
   refine⟨?_,?_⟩
   ·rw[List.flatten_cons,List.all_append,ih.1,hE.ok h1];rfl
   ·rw[List.flatten_cons,List.length_append,ih.2,hE.len h1,List.length_cons,Nat.add_mul,Nat.one_mul,Nat.add_comm]
theorem cJ.cell (hE:fD E sz) (h:cJ E w es vs):∀ (j:Nat) (cs:List Value),vs[j]? =some cs->∀ (o:Nat) (u:Value),cs[o]? =some u->vs.flatten[j*sz+o]? =some u:=by
 induction h with
 | nil=>intro j v h;simp at h
 | @cons a es cs vs h1 _ ih=>
   intro j v h o u hu
   have hx:=hE.len h1
   cases j with
   | zero=>
     simp at h
     subst h
     have ho:o<sz:=by have:=(List.getElem?_eq_some_iff.1 hu).1;omega
     rw[List.flatten_cons,Nat.zero_mul,Nat.zero_add,List.getElem?_append_left aa]
     exact hu
   | succ j=>
     rw[List.flatten_cons,List.getElem?_append_right (by rw[Nat.add_mul];omega)]
     have:=ih j v (by simpa using h) o u hu
     rw[<-this]
     congr 1
     rw[Nat.add_mul]
     omega
def cj (E:World->List Value->α->Prop) (sz:Nat) (w:World) (v:Value) (es:List α):Prop:=
 ∃ p c,v=.slice p es.length c/\es.length<=c/\c<=maxLen/\∀ (i:Nat) (a:α),es[i]? =some a->∃ b off cs,p=some ⟨b,off,none⟩/\(∀ (j:Nat) (u:Value),cs[j]? =some u->w.cell? ⟨b,off+i*sz+j,none⟩=some u)/\E w cs a
theorem cj.form {v:Value} (h:cj E sz w v es):∃ p c,v=.slice p es.length c/\es.length<=c/\c<=9223372036854775807:=by
 obtain⟨p,c,hv,h1,h2,_⟩:=h
 exact⟨p,c,hv,h1,by simpa [maxLen] using h2⟩
theorem cj.at {p:Option Addr} {n c i:Nat} {a:α} (h:cj E sz w (.slice p n c) es) (hq:es[i]? =some a):∃ b off cs,p=some ⟨b,off,none⟩/\(∀ (j:Nat) (u:Value),cs[j]? =some u->w.cell? ⟨b,off+i*sz+j,none⟩=some u)/\E w cs a:=by
 obtain⟨p',c',hv,h1,h2,h3⟩:=h
 cases hv
 exact h3 i a hq
theorem cj.az (hE:fD E sz) {v:Value} (h:cj E sz w v es) (hb:ax w w'):cj E sz w' v es:=by
 obtain⟨p,c,hv,h1,h2,h3⟩:=h
 refine⟨p,c,hv,h1,h2,λi q hq=> ?_⟩
 obtain⟨b,off,cs,hp,hc,hr⟩:=h3 i q hq
 exact⟨b,off,cs,hp,λj u hj=>hb.cell (hc j u hj),hE.kp hr (Kp.of hb)⟩
theorem cj.mono {E':World->List Value->α->Prop} {v:Value} (h:cj E sz w v es) (hm:∀ (i:Nat) (a:α) (cs:List Value),es[i]? =some a->E w cs a->E' w cs a):cj E' sz w v es:=by
 obtain⟨p,c,hv,h1,h2,h3⟩:=h
 refine⟨p,c,hv,h1,h2,λi q hq=> ?_⟩
 obtain⟨b,off,cs,hp,hc,hr⟩:=h3 i q hq
 exact⟨b,off,cs,hp,hc,hm i q cs hq hr⟩
theorem cj.nil (w:World) (E:World->List Value->α->Prop) (sz:Nat):cj E sz w (.slice none 0 0) []:=⟨none,0,rfl,Nat.le_refl _,by decide,λi q hq=>by simp at hq⟩
theorem cJ.lens (hE:fD E sz) (h:cJ E w es vs):∀ v∈vs,v.length=sz:=by
 induction h with
 | nil=>intro v hv;cases hv
 | cons h1 _ ih=>
   intro v hv
   rcases List.mem_cons.1 hv with rfl|e
   ·exact hE.len h1
   ·exact ih v e
theorem mn (hE:fD E sz) {b n c:Nat} {t:TypeId} {spare:List Value} (h:aL w b t (vs.flatten++spare).toArray) (hr:cJ E w es vs) (hn:n=es.length) (hc:n<=c) (hm:c<=9223372036854775807):cj E sz w (.slice (some ⟨b,0,none⟩) n c) es:=by
 subst hn
 refine⟨_,_,rfl,hc,by simpa [maxLen] using hm,λi a ha=> ?_⟩
 obtain⟨cs,h1,h2⟩:=hr.at i a ha
 refine⟨b,0,cs,rfl,λj u hj=> ?_,h2⟩
 have:=hr.cell hE i cs h1 j u hj
 refine h.cell ?_
 rw[List.getElem?_toArray,Nat.zero_add,List.getElem?_append_left (List.getElem?_eq_some_iff.1 this).1]
 exact this
def aE (E:World->List Value->α->Prop) (sz:Nat) (t:TypeId) (B:Nat) (w:World) (v:Value) (es:List α):Prop:=
 (v=.slice none 0 0/\es=[])\/∃ b c vs spare,v=.slice (some ⟨b,0,none⟩) es.length c/\B<=b/\aL w b t (vs.flatten++spare).toArray/\cJ E w es vs/\spare.all bf=true/\es.length<=c/\c<=9223372036854775807/\(vs.flatten++spare).length=c*sz
theorem aE.sl (hE:fD E sz) {t:TypeId} {B:Nat} {v:Value} (h:aE E sz t B w v es):cj E sz w v es:=by
 rcases h with ⟨rfl,rfl⟩|⟨b,c,vs,spare,rfl,_,h1,h2,_,h3,h4,_⟩
 ·exact cj.nil _ _ _
 ·exact mn hE h1 h2 rfl h3 h4
theorem aE.form {t:TypeId} {B:Nat} {v:Value} (h:aE E sz t B w v es):∃ p c,v=.slice p es.length c:=by
 rcases h with ⟨rfl,rfl⟩|⟨b,c,vs,spare,rfl,_⟩
 ·exact⟨_,_,rfl⟩
 ·exact⟨_,_,rfl⟩
theorem aE.kp (hE:fD E sz) {t:TypeId} {B:Nat} {v:Value} {T:TypeId->Bool} (h:aE E sz t B w v es) (k:jH T w w') (ht:T t=true):aE E sz t B w' v es:=by
 rcases h with ⟨rfl,rfl⟩|⟨b,c,vs,spare,rfl,h0,h1,h2,h3⟩
 ·exact .inl ⟨rfl,rfl⟩
 ·refine .inr ⟨b,c,vs,spare,rfl,h0,k.block t b _ ?_ trivial h1,h2.kp hE k.plain,h3⟩
  show (Nat.beq t UU || T t)=true
  rw[ht]
  simp
theorem aE.mono {t:TypeId} {B B':Nat} {v:Value} (h:aE E sz t B w v es) (hB:B'<=B):aE E sz t B' w v es:=by
 rcases h with h|⟨b,c,vs,spare,hv,h0,h1⟩
 ·exact .inl h
 ·exact .inr ⟨b,c,vs,spare,hv,Nat.le_trans hB h0,h1⟩
end
section
variable {C:Cx} {F:Fr} {H:Hp} {w:World} {m:Option (List FuncId)} {full:Array Oper} {K:Fr->Hp->World->Prop} {o:Oper} {r:List Oper}
end
theorem kK {α:Type} {E:World->List Value->α->Prop} {sz:Nat} {C:Cx} {β:Nat->Nat} {w:World} {i n c:Nat} {t:TypeId} {es:List α} {vs:List (List Value)} {spare:List AV} (h:mV C β w i t (vs.flatten.map .val++spare)) (hr:cJ E w es vs) (hn:n=es.length) (hc:n<=c) (hm:c<=9223372036854775807) (hl:(vs.flatten.map AV.val++spare).length=c*sz)
  (hnw:∀ i g,C.vu i g->C.w0.heap.size<=g:=by exact λ_ _ h=>h):aE E sz t C.w0.heap.size w (.slice (some ⟨β i,0,none⟩) n c) es:=by
 subst hn
 have hk:=h.ok
 rw[List.all_append,Bool.and_eq_true] at hk
 refine .inr ⟨β i,c,vs,spare.map (AV.leaf β),rfl,hnw _ _ h.new,?_,hr,fe hk.2,hc,hm,by rw[<-hl];simp only[List.length_append,List.length_map]⟩
 have:=h.cls
 rw[List.map_append,aP] at this
 exact this
theorem eH {n d:Int} (h0: -9223372036854775808<=n) (h1:n<=9223372036854775807) (g0: -9223372036854775808<=d) (g1:d<=9223372036854775807):lM (Rat.divInt n d) 2:=by
 by_cases hd:d=0
 ·rw[hd,Rat.divInt_zero];exact lM.zero.mono aa
 ·exact tJ (Sz.of_lt aa) (Sz.of_lt aa) hd
end
set_option maxRecDepth 4000
section
open Go.RowKit
attribute [local irreducible] aB VS
theorem jY (xs:List Nat) (v:Value) (n:Nat) (w:World) (hr:Rd w 1 v n (ints .u32 xs)) (hn:n<=1073741824):
  Calls Tryz.prog 69 #[v] w λe w'=>∃ p c,e=.returned (.slice p n c)/\w'.ownsRow w.heap.size UU 1 (.slice p n c) n (ints .u32 xs)/\ax w w':=by
 obtain⟨p,c,rfl,qe⟩:∃ p c,v=.slice p n c/\True:=by
  obtain⟨p,c,hv,_⟩:=hr
  exact⟨p,c,hv,trivial⟩
 refine ai (C:=bj Tryz.prog w _) (args:=[_]) Tryz.func69 rfl Tryz.ntmps69 (cr rfl) ?_
 refine ae ?_
 refine VO.appU (cV _ _) (t:=23) (e:=78) (n:=n) (news:=ints .u32 xs) rfl rfl rfl rfl rfl (lU .u32 xs) aa (λw1 k1 b1=>hr.below b1) (λw2 p2 c2 k2 b2 ho=>wV rfl ?_)
 refine ae ?_
 refine bV ?_;intro wz kz bz
 exact⟨_,_,rfl,Own.kp ho kz,bz⟩
theorem fi.Iv {w:World} {s:Bool} {p:Option Addr} {xs:List Nat} {c:Nat} (h:fi w (.agg #[.bool s,.slice p xs.length c]) s xs):Rd w 1 (.slice p xs.length c) xs.length (ints .u32 xs)/\cL xs:=by
 obtain⟨p',c',hv,hr,hl⟩:=h
 simp only[Value.agg.injEq,Array.mk.injEq,List.cons.injEq,and_true,true_and,Value.slice.injEq] at hv
 obtain⟨rfl,rfl⟩:=hv
 exact⟨hr,hl⟩
def nr (w:World) (B:Nat) (v:Value) (s:Bool) (xs:List Nat) (t:Bool) (ys:List Nat):Prop:=
 ∃ p c r d,v=.agg #[.bool s,.slice p xs.length c,.bool t,.slice r ys.length d]/\w.ownsRow B UU 1 (.slice p xs.length c) xs.length (ints .u32 xs)/\w.ownsRow B UU 1 (.slice r ys.length d) ys.length (ints .u32 ys)/\cL xs/\cL ys
theorem nr.raw {w:World} {B:Nat} {v:Value} {s:Bool} {xs:List Nat} {t:Bool} {ys:List Nat} (h:nr w B v s xs t ys):dZ w v s xs t ys:=by
 obtain⟨p,c,r,d,hv,h1,h2,h3,h4⟩:=h
 exact⟨p,c,r,d,hv,⟨_,_,rfl,Rd.own h1,h3⟩,⟨_,_,rfl,Rd.own h2,h4⟩⟩
theorem nr.kp {T:TypeId->Bool} {w w':World} {B:Nat} {v:Value} {s:Bool} {xs:List Nat} {t:Bool} {ys:List Nat} (h:nr w B v s xs t ys) (k:aK ⟨UU,λ_=>True,T⟩ w w'):nr w' B v s xs t ys:=by
 obtain⟨p,c,r,d,hv,h1,h2,h3,h4⟩:=h
 exact⟨p,c,r,d,hv,Own.kp h1 k,Own.kp h2 k,h3,h4⟩
theorem nr.own {w:World} {B:Nat} {v:Value} {q:Rat} (h:nr w B v (decide (q.num<0)) (limbs q.num.natAbs) (decide ((q.den:Int)<0)) (limbs (q.den:Int).natAbs)):bQ w B v q:=by
 obtain⟨p,c,r,d,rfl,h1,h2,h3,h4⟩:=h
 exact⟨_,p,_,c,_,r,_,d,rfl,⟨_,_,rfl,h1⟩,⟨_,_,rfl,h2⟩⟩
theorem dJ (s t:Bool) (xs ys:List Nat) (v:Value) (w:World) (h:dZ w v s xs t ys) (hx:xs.length<=1073741824) (hy:ys.length<=1073741824):
  Calls Tryz.prog 21 #[v] w λe w'=>∃ r,e=.returned r/\nr w' w.heap.size r s xs t ys/\ax w w':=by
 obtain⟨p,c,r,d,rfl,h1,h2⟩:=h
 refine ai (C:=bj Tryz.prog w _) (args:=[_]) Tryz.func21 rfl Tryz.ntmps21 (cr rfl) ?_
 refine ae ?_
 refine VO.call rfl rfl (fk Tryz.func69) (λbL dw bX=>(jY xs _ _ bL (h1.az bX).Iv.1 hx).mono ?_)
 rintro e w1 ⟨p1,c1,rfl,q1,bl⟩
 skip
 refine cP bl ?_
 intro eM _ bb1
 refine VO.call rfl rfl (fk Tryz.func69) (λdh eU dQ=>(jY ys _ _ dh (h2.az dQ).Iv.1 hy).mono ?_)
 rintro e w2 ⟨p2,c2,rfl,q2,bM⟩
 skip
 refine cP bM ?_
 intro gr _ bb2
 refine bV ?_;intro wz kz bz
 exact⟨_,rfl,⟨_,_,_,_,rfl,Own.kp (Own.mono q1 bX.size) (gr.aH kz),Own.kp (Own.mono q2 dQ.size) kz,h1.Iv.2,h2.Iv.2⟩,bz⟩
theorem Kd (s t:Bool) (xs ys:List Nat) (v:Value) (w:World) (h:dZ w v s xs t ys) (hx:xs.length<=1073741824) (hy:ys.length<=1073741824):
  Calls Tryz.prog 105 #[v] w λe w'=>∃ r,e=.returned r/\nr w' w.heap.size r s xs t ys/\ax w w':=by
 obtain⟨p,c,r,d,rfl,h1,h2⟩:=h
 refine ai (C:=bj Tryz.prog w _) (args:=[_]) Tryz.func105 rfl Tryz.ntmps105 (cr rfl) ?_
 refine ae ?_
 refine VO.call rfl rfl (fk Tryz.func69) (λbL dw bX=>(jY xs _ _ bL (h1.az bX).Iv.1 hx).mono ?_)
 rintro e w1 ⟨p1,c1,rfl,q1,bl⟩
 skip
 refine cP bl ?_
 intro eM _ bb1
 refine VO.call rfl rfl (fk Tryz.func69) (λdh eU dQ=>(jY ys _ _ dh (h2.az dQ).Iv.1 hy).mono ?_)
 rintro e w2 ⟨p2,c2,rfl,q2,bM⟩
 skip
 refine cP bM ?_
 intro gr _ bb2
 refine bV ?_;intro wz kz bz
 exact⟨_,rfl,⟨_,_,_,_,rfl,Own.kp (Own.mono q1 bX.size) (gr.aH kz),Own.kp (Own.mono q2 dQ.size) kz,h1.Iv.2,h2.Iv.2⟩,bz⟩
theorem dz {K:KC} {w w':World} (h:aK K w w':=by (with_reducible (repeat (first|assumption|exact kU _|exact kR _|exact Kp.of (U:=UU) (by assumption)|exact aK.of (by assumption)|refine kT ?_ (by assumption))))):aK K w w':=h
theorem fp (n d:Int) (w:World) (h0: -9223372036854775808<=n) (h1:n<=9223372036854775807) (g0: -9223372036854775808<=d) (g1:d<=9223372036854775807):
  Calls Tryz.prog 45 #[.int .i64 n,.int .i64 d] w λe w'=>∃ r,e=.returned r/\bQ w' w.heap.size r (Rat.divInt n d)/\ax w w':=by
 refine ai (C:=bj Tryz.prog w _) (args:=[_,_]) Tryz.func45 rfl Tryz.ntmps45 (cr rfl) ?_
 refine ae ?_
 refine VO.call rfl rfl (fk Tryz.func104) (λbL dw bX=>(Kb n d bL h0 h1 g0 g1).mono ?_)
 rintro e w1 ⟨r1,rfl,q1,bl⟩
 obtain⟨s1,p1,n1,c1,t1,y1,m1,d1,rfl⟩:=q1.form
 refine cP bl ?_
 intro eM _ bb1
 have hsz:(limbs (Rat.divInt n d).num.natAbs).length<=4/\(limbs ((Rat.divInt n d).den:Int).natAbs).length<=4:=by
  by_cases hd:d=0
  ·rw[hd,Rat.divInt_zero];exact⟨lM.zero.1.mono aa,lM.zero.2.mono aa⟩
  ·have h:=tJ (X:=n) (Y:=d) (k:=2) (l:=2) (Sz.of_lt aa) (Sz.of_lt aa) hd
   exact⟨h.1.mono aa,h.2.mono aa⟩
 refine VO.call rfl rfl (fk Tryz.func105) (λdh eU dQ=>(Kd _ _ _ _ _ dh (q1.kp dz).rd.raw aa aa).mono ?_)
 rintro e w2 ⟨r2,rfl,q2,bM⟩
 obtain⟨p2,c2,y2,d2,rfl,_⟩:=q2.raw.lD
 refine cP bM ?_
 intro gr _ bb2
 refine bV ?_;intro wz kz bz
 exact⟨_,rfl,((q2.kp kz).own).mono dQ.size,bz⟩
theorem xH (xs:List Nat) (v u:Value) (n:Nat) (w:World) (hr:Rd w 1 v n (ints .u32 xs)) (hs:Rd w 1 u n (ints .u32 xs)) (nW:n=xs.length):
  Calls Tryz.prog 71 #[v,u] w λe w'=>e=.returned (.bool true)/\ax w w':=by
 subst nW
 obtain⟨n,hn⟩:∃ n,n=xs.length:=⟨_,rfl⟩
 rw[<-hn] at hr hs
 obtain⟨p,c,rfl,gg,gF,fc⟩:=hr.u32
 obtain⟨q,d,rfl,Hc,Cg,_⟩:=hs.u32
 refine ai (C:=bj Tryz.prog w _) (args:=[_,_]) Tryz.func71 rfl Tryz.ntmps71 (cr rfl) ?_
 refine ae ?_
 refine VS.aN rfl ew ?_
 refine ae ?_
 refine VS.loop (J:=λms L M w'=>∃ (k:Nat),k<=n/\ms=n-k/\L=[(0,.val (.slice p n c)),(1,.val (.slice q n d)),(5,.val (.int .i64 (k:Int)))]/\M=[]) n ⟨_,_,?_,?_,?_,?_,⟨0,by omega,rfl,rfl,rfl⟩⟩ ?_
 ·exact du
 ·exact du
 ·rfl
 ·exact iq
 rintro ms L M w' ⟨k,hk,hms,rfl,rfl⟩
 refine ae ?_
 by_cases nO:k<n
 ·refine VS.aU rfl (decide_eq_true (Int.ofNat_lt.2 nO)) ?_
  refine ae ?_
  obtain⟨b1,o1,x,rfl,bl,fP,nN⟩:=hr.cellAt nO
  obtain⟨b2,o2,y,rfl,bM,lX,qA⟩:=hs.cellAt nO
  obtain rfl:x=y:=by rw[fP] at lX;exact Option.some.inj lX
  refine VO.cond rfl cW (wV rfl ?_)
  refine VO.read rfl [.int .u32 (x:Int)] rfl (ja rfl nN) (wV rfl ?_)
  refine VO.cond rfl cW (wV rfl ?_)
  refine VO.read rfl [.int .u32 (x:Int)] rfl (ja rfl qA) (wV rfl ?_)
  refine ae ?_
  refine VS.aN rfl ew ?_
  refine ae ?_
  refine VS.back (n-(k+1)) aa ⟨_,_,?_,?_,?_,?_,⟨k+1,by omega,rfl,rfl,rfl⟩⟩
  ·refine⟨rfl,rfl,?_,trivial⟩
   rw[<-ay aa];rfl
  ·exact du
  ·rfl
  ·exact iq
 ·refine VS.aN rfl (decide_eq_false (λe=>nO (Int.ofNat_lt.1 e))) ?_
  refine ae ?_
  refine bV ?_;intro wz kz bz
  exact⟨rfl,bz⟩
theorem Ke (s t:Bool) (xs ys:List Nat) (v u:Value) (w:World) (hv:dZ w v s xs t ys) (hu:dZ w u s xs t ys):
  Calls Tryz.prog 25 #[v,u] w λe w'=>e=.returned (.bool true)/\ax w w':=by
 obtain⟨p,c,r,d,rfl,v1,v2⟩:=hv
 obtain⟨p',c',r',d',rfl,u1,u2⟩:=hu
 refine ai (C:=bj Tryz.prog w _) (args:=[_,_]) Tryz.func25 rfl Tryz.ntmps25 (cr rfl) ?_
 refine ae ?_
 refine VO.fix 12 rfl (congrArg (λb=>AV.val (.bool b)) (show (s == s)=true by simp)) ?_
 refine ae ?_
 refine VO.fix 21 rfl (congrArg (λb=>AV.val (.bool b)) (show (t == t)=true by simp)) ?_
 refine ae ?_
 refine VO.cB rfl rfl (fk Tryz.func71) (λbL dw bX=>xH xs _ _ _ bL (v1.az bX).Iv.1 (u1.az bX).Iv.1 rfl) (λbL dw bX w1 bl eM _ bb1=>wV rfl ?_)
 refine ae ?_
 refine VO.cB rfl rfl (fk Tryz.func71) (λdh eU dQ=>xH ys _ _ _ dh (v2.az dQ).Iv.1 (u2.az dQ).Iv.1 rfl) (λdh eU dQ w2 bM gr _ bb2=>wV rfl ?_)
 refine ae ?_
 refine bV ?_;intro wz kz bz
 exact⟨rfl,bz⟩
end
section
open Go.RowKit
section
variable {T:TypeId->Bool} {w w':World} {v:Value} {q:Rat} {X:Int} {B n:Nat}
theorem bQ.k (h:bQ w B v q) (k:aK ⟨UU,λ_=>True,T⟩ w w':=by exact dz):bQ w' B v q:=h.kp k
theorem bQ.kr (h:bQ w B v q) (k:aK ⟨UU,λ_=>True,T⟩ w w':=by exact dz):fm w' v q:=(h.kp k).rd
theorem bQ.ki (h:bQ w B v q) (hs:lM q n) (k:aK ⟨UU,λ_=>True,T⟩ w w':=by exact dz):df w' v q n:=(h.kp k).in hs
end
end
section
open Go.RowKit
attribute [local irreducible] aB VS
theorem ig {a b:Int} (h:a=b):(a != b)=false:=by simpa using h
theorem MX {a b:Int} (h:a=b):(a == b)=true:=by simpa using h
theorem beq_n {a b:Int} (h:a≠b):(a == b)=false:=by simpa using h
structure bO {α:Type} (E:World->List Value->α->Prop) (sz:Nat) (w:World) (n c:Nat) (vs:List (List Value)) (sp:List AV) (es:List α):Prop where
 len:n=es.length
 el:cJ E w es vs
 so:sp.all aZ=true
 sl:aW sp=[]
 le:n<=c
 cm:c<=9223372036854775807
 fl:(vs.flatten.map AV.val++sp).length=c*sz
section
variable {α:Type} {E:World->List Value->α->Prop} {sz n c:Nat} {w w':World} {vs:List (List Value)} {sp:List AV} {es:List α}
theorem bO.kp (hE:fD E sz) (h:bO E sz w n c vs sp es) (k:Kp UU w w'):bO E sz w' n c vs sp es:=⟨h.len,h.el.kp hE k,h.so,h.sl,h.le,h.cm,h.fl⟩
theorem bO.oO {M:List (Nat×(TypeId×List AV))} (h:bO E sz w n c vs sp es):aw M (vs.flatten.map AV.val++sp):=.append (.vals _) (.none h.sl)
theorem bO.new {C:Cx} {β:Nat->Nat} {i:Nat} {t:TypeId} (hE:fD E sz) (h:bO E sz w n c vs sp es) (o:mV C β w' i t (vs.flatten.map .val++sp)) (k:Kp UU w w') (hnw:∀ i g,C.vu i g->C.w0.heap.size<=g:=by exact λ_ _ h=>h):
 aE E sz t C.w0.heap.size w' (.slice (some ⟨β i,0,none⟩) n c) es:=kK o (h.el.kp hE k) h.len h.le h.cm h.fl hnw
end
section
variable {C:Cx} {F:Fr} {H:Hp} {w:World} {m:Option (List FuncId)} {full:Array Oper} {K:Fr->Hp->World->Prop} {o:Oper} {r:List Oper}
theorem VO.iM (hC:C.Ok) {α:Type} {E:World->List Value->α->Prop} {sz:Nat} (hE:fD E sz) {t e te:TypeId} {it ie:TI} {x y:Operand} {s:Nat} {cs:List Value} {a:α} {dst:Nat}
  (e0:stepOf C full F H o=.call (.op o [.val (.slice none 0 0),.row s 0 1 1])) (ho:o.op=.call { callee:=.builtin .append,args:=#[x,y],argTypes:=#[t,t] })
  (AJ:C.ti t=some it) (dE:it.elem=some (e,sz)) (qI:C.ti e=some ie) (hU:C.K.fz e=false) (JG:ie.zero.cells.toList.all bf=true)
  (hd:o.dst=some dst) (hN:dst<C.N) (hl:lvl C.SU m o=2) (gj:H dst=none) (hs:H s=some (te,cs.map .val)) (hcs:E w cs a) (fh:24*sz<=140737488355328)
  (hK:∀ w2 cap sp,aK C.K w w2->C.Old w2->bO E sz w2 1 cap [cs] sp [a]->aB C m full r K (F.bo o.dst (.row dst 0 1 cap)) (H.put dst (e,[cs].flatten.map AV.val++sp)) w2)
  (Lh:∀ w w',aK C.K w w'->Kp UU w w':=by first|exact λ_ _ h=>h|exact λ_ _ h=>h.dN):aB C m full (o::r) K F H w:=by
 have hlen:=hE.len hcs
 refine VO.app hC e0 ho AJ dE qI hU JG hd hN hl (known:=[]) (spare:=[]) (del:=none) (n:=0) (c:=0) (mm:=1) (news:=cs.map .val) (.inl ⟨rfl,rfl,rfl,rfl,rfl,rfl,by omega⟩) (.inl gj) ew ew aa aa ⟨rfl,rfl,af _⟩ ⟨rfl,rfl,bc (hE.ok hcs)⟩ (by rw[List.length_map,hlen];omega) aa
  (λw1 β k1 b1 ho=>⟨_,_,rfl,.inr ⟨β s,0,rfl,gP (rest:=[]) (ho.own s (.base (List.mem_append_right _ (List.mem_singleton.2 rfl))) _ _ hs) (by rw[List.append_nil])⟩⟩) (λw2 cap sp ρ k2 b2 dY h1 h2 h3 h4 h5=> ?_)
 have:=hK w2 cap sp k2 b2 ⟨rfl,.cons (hE.kp hcs (Lh _ _ k2)) .nil,h4,h5,by omega,h2,by simpa using h3⟩
 have e':([cs].flatten.map AV.val++sp)=([]++cs.map .val)++sp:=by simp
 rw[e'] at this
 exact this
theorem VO.iP (hC:C.Ok) {α:Type} {E:World->List Value->α->Prop} {sz:Nat} (hE:fD E sz) {t e te:TypeId} {it ie:TI} {x y:Operand} {s i n c:Nat} {cs:List Value} {a:α} {vs:List (List Value)} {sp:List AV} {es:List α} {dst:Nat}
  (e0:stepOf C full F H o=.call (.op o [.row i 0 n c,.row s 0 1 1])) (ho:o.op=.call { callee:=.builtin .append,args:=#[x,y],argTypes:=#[t,t] })
  (AJ:C.ti t=some it) (dE:it.elem=some (e,sz)) (qI:C.ti e=some ie) (hU:C.K.fz e=false) (JG:ie.zero.cells.toList.all bf=true)
  (hd:o.dst=some dst) (hN:dst<C.N) (hl:lvl C.SU m o=2) (gj:H dst=none\/some i=some dst) (hi:H i=some (e,vs.flatten.map .val++sp)) (hr:bO E sz w n c vs sp es) (hs:H s=some (te,cs.map .val)) (hcs:E w cs a) (fh:(n+1)*(24*sz)<=140737488355328)
  (hK:∀ w2 cap fx ρ,aK C.K w w2->C.Old w2->(∀ x,bf (ρ x)=true)->bO E sz w2 (n+1) cap (vs++[cs]) fx (es++[a])->aB C m full r K ((F.forget (some i) ρ).bo o.dst (.row dst 0 (n+1) cap)) ((H.forget (some i) ρ).put dst (e,(vs++[cs]).flatten.map AV.val++fx)) w2)
  (Lh:∀ w w',aK C.K w w'->Kp UU w w':=by first|exact λ_ _ h=>h|exact λ_ _ h=>h.dN):aB C m full (o::r) K F H w:=by
 have hlen:=hE.len hcs
 obtain⟨k1,k2⟩:=hr.el.ok hE
 have Fh:=hr.len
 refine VO.app hC e0 ho AJ dE qI hU JG hd hN hl (known:=vs.flatten.map .val) (spare:=sp) (del:=some i) (n:=n) (c:=c) (mm:=1) (news:=cs.map .val) (.inr ⟨i,rfl,hi,rfl⟩) gj (by rw[List.length_map,k2,Fh]) hr.fl hr.le hr.cm ⟨af _,hr.sl,af _⟩ ⟨bc k1,hr.so,bc (hE.ok hcs)⟩ (by rw[List.length_map,hlen];omega) fh
  (λw1 β k1 b1 ho=>⟨_,_,rfl,.inr ⟨β s,0,rfl,gP (rest:=[]) (ho.own s (.base (List.mem_append_right _ (List.mem_singleton.2 rfl))) _ _ hs) (by rw[List.append_nil])⟩⟩) (λw2 cap fx ρ k2 b2 dY h1 h2 h3 h4 h5=> ?_)
 have e:(vs.flatten.map AV.val++cs.map .val)=(vs++[cs]).flatten.map AV.val:=by simp
 have:=hK w2 cap fx ρ k2 b2 dY ⟨by rw[List.length_append,hr.len];rfl,(hr.el.kp hE (Lh _ _ k2)).snoc (hE.kp hcs (Lh _ _ k2)),h4,h5,by omega,h2,by rw[<-e];exact h3⟩
 rw[<-e] at this
 exact this
end
end
section
open Go.RowKit
theorem Kf {w:World} {a:Option Addr} {len cap:Nat} {zs:List Int}
  (h:(a=none/\len=0/\cap=0/\zs=[])\/∃ x,a=some x/\len<=cap/\cap<=maxLen/\zs.length=cap/\(∀ i,i<zs.length->w.cell? (x.add i)=some (.int .u32 (zs.getD i 0)))/\∀ n∈zs,(Lit.int .u32 n).wf=true):
  ∃ xs:List Nat,cL xs/\Rd w 1 (.slice a len cap) len (ints .u32 xs):=by
 rcases h with ⟨rfl,rfl,rfl,rfl⟩|⟨x,rfl,h1,h2,h3,h4,h5⟩
 ·exact⟨[],cL.nil,Rd.nil w 1⟩
 ·have hb:∀ n∈zs,0<=n/\n<4294967296:=λn hn=>by
   have:=h5 n hn
   simp[Lit.wf,IntKind.min,IntKind.max,IntKind.signed,IntKind.bits] at this
   omega
  refine⟨(zs.take len).map Int.toNat,?_,?_⟩
  ·intro y hy
   obtain⟨z,hz,rfl⟩:=List.mem_map.1 hy
   have:=hb z (List.mem_of_mem_take hz)
   omega
  ·refine⟨_,cap,rfl,h1,h2,by simp;omega,λhn=> ?_⟩
   have iW:0<zs.length:=by omega
   have h0:=h4 0 iW
   have hsp:x.spot=none:=by
    have:x.add 0=x:=by simp[Addr.add]
    rw[this] at h0
    unfold World.cell? at h0
    split at h0
    ·split at h0
     ·cases h0
     ·rename_i hs;simpa using hs
    ·cases h0
   obtain⟨b,off,sp⟩:=x
   simp only at hsp
   subst hsp
   refine⟨b,off,rfl,λj u hj=> ?_⟩
   simp only[ints,List.map_map,List.getElem?_map,List.getElem?_take] at hj
   split at hj
   ·rename_i hjl
    have hjz:j<zs.length:=by omega
    rw[List.getElem?_eq_getElem hjz] at hj
    simp at hj
    subst hj
    have h6:=h4 j hjz
    have h7:=hb _ (List.getElem_mem hjz)
    rw[show (⟨b,off,none⟩:Addr).add j=⟨b,off+j,none⟩ by unfold Addr.add;split <;> simp_all] at h6
    rw[h6]
    simp[List.getD,hjz]
    omega
   ·cases hj
theorem Ba {α:Type} {l:List α} (h:l.length=2):∃ a b,l=[a,b]:=by
 match l,h with
 | [a,b],_=>exact⟨a,b,rfl⟩
theorem MY {α:Type} {l:List α} (h:l.length=4):∃ a b c d,l=[a,b,c,d]:=by
 match l,h with
 | [a,b,c,d],_=>exact⟨a,b,c,d,rfl⟩
section
variable {H:Type} {enc:TypeId×Value->H} {w:World} {held:Bool}
theorem Ge {fuel:Nat} {cs:List Value} {x:DataW H×List MemPlace} (h:DataW.trod enc Tryz.prog w 0 (λ_=>true) held fuel 23 cs=some x):∃ p n c xs,cs=[.slice p n c]/\Rd w 1 (.slice p n c) n (ints .u32 xs)/\cL xs:=by
 rcases ChangeShapes.open_ints Tryz.underlying23 Tryz.underlying78 (by kernel_rfl) h with ⟨rfl,_⟩|⟨a,len,cap,zs,rfl,_,hl,hc,hz,_,hcell,hwf⟩
 ·exact⟨none,0,0,[],rfl,Rd.nil w 1,cL.nil⟩
 ·rw[if_pos rfl] at hz
  obtain⟨xs,CY,sK⟩:=Kf (w:=w) (.inr ⟨a,rfl,hl,hc,hz,hcell,hwf⟩)
  exact⟨some a,len,cap,xs,rfl,sK,CY⟩
theorem El {fuel:Nat} {cs:List Value} {x:DataW H×List MemPlace} (h:DataW.trod enc Tryz.prog w 0 (λ_=>true) held fuel 25 cs=some x):∃ s p c xs,cs=[.bool s,.slice p xs.length c]/\fi w (.agg #[.bool s,.slice p xs.length c]) s xs:=by
 obtain⟨ys,n,rfl,rfl,hl,gX,hf⟩:=DataW.trod_struct Tryz.underlying25 h
 have rQ:cs.length=2:=by
  have c:Tryz.prog.cellsOf 25=2:=by kernel_rfl
  rw[c] at hl;exact hl
 have xI:ys.length=2:=gX
 obtain⟨a,b,rfl⟩:∃ a b,cs=[a,b]:=by
  exact Ba rQ
 obtain⟨y0,y1,rfl⟩:∃ a b,ys=[a,b]:=by
  exact Ba xI
 have c0:Tryz.prog.cellsOf 4=1:=by kernel_rfl
 have c1:Tryz.prog.cellsOf 23=1:=by kernel_rfl
 have h0:=hf 0 _ rfl
 have h1:=hf 1 _ rfl
 change DataW.trod enc Tryz.prog w 0 (λ_=>true) held n 4 (([a,b].drop 0).take (Tryz.prog.cellsOf 4))=some y0 at h0
 change DataW.trod enc Tryz.prog w 0 (λ_=>true) held n 23 (([a,b].drop 1).take (Tryz.prog.cellsOf 23))=some y1 at h1
 rw[c0] at h0
 rw[c1] at h1
 obtain⟨s,hs,_⟩:=DataW.trod_bool Tryz.underlying4 h0
 obtain⟨p,m,c,xs,hp,hr,hx⟩:=Ge h1
 simp only[List.drop_zero,List.take_succ_cons,List.take_zero,List.cons.injEq,and_true] at hs
 simp only[List.drop_succ_cons,List.drop_zero,List.take_succ_cons,List.take_zero,List.cons.injEq,and_true] at hp
 subst hs hp
 obtain⟨_,_,hv,_,_,fc⟩:=hr.u32
 subst fc
 exact⟨s,p,c,xs,rfl,p,c,rfl,hr,hx⟩
theorem MZ {fuel:Nat} {cs:List Value} {x:DataW H×List MemPlace} (h:DataW.trod enc Tryz.prog w 0 (λ_=>true) held fuel 27 cs=some x):∃ s p n c t r m d xs ys,cs=[.bool s,.slice p n c,.bool t,.slice r m d]/\dZ w (.agg #[.bool s,.slice p n c,.bool t,.slice r m d]) s xs t ys:=by
 obtain⟨zs,n,rfl,rfl,hl,gX,hf⟩:=DataW.trod_struct Tryz.underlying27 h
 have rQ:cs.length=4:=by
  have c:Tryz.prog.cellsOf 27=4:=by kernel_rfl
  rw[c] at hl;exact hl
 have xI:zs.length=2:=gX
 obtain⟨a,b,a',b',rfl⟩:∃ a b a' b',cs=[a,b,a',b']:=by
  exact MY rQ
 obtain⟨y0,y1,rfl⟩:∃ a b,zs=[a,b]:=by
  exact Ba xI
 have c0:Tryz.prog.cellsOf 25=2:=by kernel_rfl
 have h0:=hf 0 _ rfl
 have h1:=hf 1 _ rfl
 change DataW.trod enc Tryz.prog w 0 (λ_=>true) held n 25 (([a,b,a',b'].drop 0).take (Tryz.prog.cellsOf 25))=some y0 at h0
 change DataW.trod enc Tryz.prog w 0 (λ_=>true) held n 25 (([a,b,a',b'].drop 2).take (Tryz.prog.cellsOf 25))=some y1 at h1
 rw[c0] at h0 h1
 obtain⟨s,p,c,xs,e0,n0⟩:=El h0
 obtain⟨t,r,d,ys,e1,n1⟩:=El h1
 simp only[List.drop_zero,List.take_succ_cons,List.take_zero,List.cons.injEq,and_true] at e0
 simp only[List.drop_succ_cons,List.drop_zero,List.take_succ_cons,List.take_zero,List.cons.injEq,and_true] at e1
 obtain⟨rfl,rfl⟩:=e0
 obtain⟨rfl,rfl⟩:=e1
 exact⟨_,_,_,_,_,_,_,_,xs,ys,rfl,_,_,_,_,rfl,n0,n1⟩
theorem Na {α:Type} {p:Nat->α->Prop}:∀ (n:Nat),(∀ i,i<n->∃ q,p i q)->∃ qs:List α,qs.length=n/\∀ (i:Nat) (q:α),qs[i]? =some q->p i q
 | 0,_=>⟨[],rfl,λi q h=>by simp at h⟩
 | n+1,h=>by
   obtain⟨qs,hl,hq⟩:=Na n (λi hi=>h i aa)
   obtain⟨q,hqn⟩:=h n aa
   refine⟨qs++[q],by simp[hl],λi x hx=> ?_⟩
   by_cases hi:i<n
   ·rw[List.getElem?_append_left aa] at hx
    exact hq i x hx
   ·rw[List.getElem?_append_right aa,hl] at hx
    have:i=n:=by
     have:=(List.getElem?_eq_some_iff.1 hx).1
     simp at this
     omega
    subst this
    simp at hx
    subst hx
    exact hqn
end
section
variable {C:Cx} {β:Nat->Nat} {F:Fr} {H:Hp} {a:Act} {w:World} {Q:Exit->Act->World->Prop} {k:List It}
end
theorem oP {b:Nat} {ty:TypeId}:∀ (vs:List Value) (o:Nat) (w:World) (cur:Array Value),w.heap[b]? =some (Obj.cells cur ty (0,0))->∃ sf,(w.setCells b o vs).heap[b]? =some (Obj.cells sf ty (0,0))/\sf.size=cur.size
 | [],_,_,cur,h=>⟨cur,h,rfl⟩
 | v::r,o,w,cur,h=>by
   obtain⟨c,h1,h2⟩:=oP r (o+1) (w.setCell ⟨b,o,none⟩ v) (cur.setIfInBounds o v) (aL.set (b:=b) (t:=ty) (cs:=cur) h v)
   exact⟨c,h1,by rw[h2];simp⟩
end
set_option maxRecDepth 4000
section
open Go.RowKit
attribute [local irreducible] aB VS
theorem fm.in {w:World} {v:Value} {q:Rat} {k:Nat} (h:fm w v q) (hs:lM q k):df w v q k:=h.to hs
end
set_option maxRecDepth 4000
section
open Go.RowKit
end
section
open Go.RowKit
attribute [local irreducible] aB VS
end
section
open Go.RowKit
theorem Em {α:Type} {vs:List α} {i:Nat} {x:α} (h:vs[i]? =some x):vs=vs.take i++x::vs.drop (i+1)/\(vs.take i).length=i:=by
 obtain⟨hi,rfl⟩:=List.getElem?_eq_some_iff.1 h
 refine⟨?_,by rw[List.length_take];omega⟩
 rw[<-List.drop_eq_getElem_cons hi,List.take_append_drop]
theorem oQ {α:Type}:∀ (vs:List (List α)) (sz:Nat),(∀ v∈vs,v.length=sz)->vs.flatten.length=vs.length*sz
 | [],_,_=>by simp
 | x::r,sz,h=>by
   rw[List.flatten_cons,List.length_append,oQ r sz (λv hv=>h v (by simp[hv])),h x ew,List.length_cons,Nat.add_mul];omega
theorem Nf {α:Type} (A C B N:List α) (o off:Nat) (ho:o+N.length<=C.length) (e:off=A.length+o):
  (A++(C++B)).take off++(N++(A++(C++B)).drop (off+N.length))=A++((C.take o++(N++C.drop (o+N.length)))++B):=by
 subst e
 rw[List.take_append,List.drop_append,List.take_of_length_le aa,List.drop_of_length_le aa,List.nil_append,show A.length+o-A.length=o by omega,show A.length+o+N.length-A.length=o+N.length by omega,
  List.take_append_of_le_length aa,List.drop_append_of_le_length aa]
 simp only[List.append_assoc]
theorem Kg {vs:List (List Value)} {sz:Nat} (hl:∀ v∈vs,v.length=sz) {i:Nat} {cs:List Value} (hv:vs[i]? =some cs) (o:Nat) (new:List Value) (ho:o+new.length<=sz) (spare:List AV) (off:Nat) (e:off=i*sz+o) (m:Nat) (hm:m=new.length):
  (vs.flatten.map AV.val++spare).take off++(new.map AV.val++(vs.flatten.map AV.val++spare).drop (off+m))=(vs.set i (cs.take o++(new++cs.drop (o+new.length)))).flatten.map AV.val++spare:=by
 subst hm
 obtain⟨h1,h2⟩:=Em hv
 have hc:=hl cs (List.mem_of_getElem? hv)
 have hA:((vs.take i).flatten.map AV.val).length=i*sz:=by
  rw[List.length_map,oQ _ sz (λv hv=>hl v (List.mem_of_mem_take hv)),h2]
 have hset:vs.set i (cs.take o++(new++cs.drop (o+new.length)))=vs.take i++(cs.take o++(new++cs.drop (o+new.length)))::vs.drop (i+1):=by
  rw[List.set_eq_take_append_cons_drop,if_pos (List.getElem?_eq_some_iff.1 hv).1]
 have key:=Nf ((vs.take i).flatten.map AV.val) (cs.map AV.val) ((vs.drop (i+1)).flatten.map AV.val++spare) (new.map AV.val) o off (by simpa [hc] using ho) (by rw[hA];exact e)
 have jM:vs.flatten.map AV.val++spare=(vs.take i).flatten.map AV.val++(cs.map AV.val++((vs.drop (i+1)).flatten.map AV.val++spare)):=by
  conv=>lhs;rw[h1]
  simp only[List.flatten_append,List.flatten_cons,List.map_append,List.append_assoc]
 rw[jM,hset]
 rw[List.length_map] at key
 rw[key]
 simp only[List.flatten_append,List.flatten_cons,List.map_append,List.append_assoc,List.map_take,List.map_drop]
section
variable {α:Type} {E:World->List Value->α->Prop} {sz:Nat} {w w':World} {es:List α} {vs:List (List Value)}
theorem Gf (hl:∀ v∈vs,v.length=sz) (spare:List AV) {i:Nat} {cs:List Value} (hv:vs[i]? =some cs) (o:Nat) (ds:List Value) (hd:ds <+:cs.drop o) (off:Nat) (e:off=i*sz+o):∀ (j:Nat) (u:AV),(ds.map AV.val)[j]? =some u->(vs.flatten.map AV.val++spare)[off+j]? =some u:=by
 intro j u hj
 obtain⟨h1,h2⟩:=Em hv
 obtain⟨t,ht⟩:=hd
 have hA:(vs.take i).flatten.length=i*sz:=by rw[oQ _ sz (λv hv=>hl v (List.mem_of_mem_take hv)),h2]
 rw[List.getElem?_map] at hj
 obtain⟨x,hx,rfl⟩:=Option.map_eq_some_iff.1 hj
 have hx':cs[o+j]? =some x:=by
  rw[<-List.getElem?_drop,<-ht,List.getElem?_append_left (List.getElem?_eq_some_iff.1 hx).1];exact hx
 have hlt:=(List.getElem?_eq_some_iff.1 hx').1
 have jM:vs.flatten[off+j]? =some x:=by
  conv=>lhs;rw[h1]
  rw[List.flatten_append,List.flatten_cons,List.getElem?_append_right aa,hA,List.getElem?_append_left aa,show off+j-i*sz=o+j by omega]
  exact hx'
 rw[List.getElem?_append_left (by rw[List.length_map];exact (List.getElem?_eq_some_iff.1 jM).1),List.getElem?_map,jM]
 rfl
theorem cJ.mono {E':World->List Value->α->Prop} (h:cJ E w es vs) (hm:∀ cs a,E w cs a->E' w cs a):cJ E' w es vs:=by
 induction h with
 | nil=>exact .nil
 | cons h1 _ ih=>exact .cons (hm _ _ h1) ih
end
end
section
open Go.RowKit
attribute [local irreducible] aB VS
theorem aG {w:World} {b o:Nat} {u:Value} (h:w.cell? ⟨b,o,none⟩=some u):∀ j x,[u][j]? =some x->w.cell? ((⟨b,o,none⟩:Addr).add j)=some x:=by
 intro j x hj
 cases j with
 | zero=>cases hj;rw[Addr.add_mid,Nat.add_zero];exact h
 | succ j=>simp at hj
end
section
open Go.RowKit
attribute [local irreducible] aB VS
end
section
open Go.RowKit
attribute [local irreducible] aB VS
theorem En (q:Rat):xD [q]=q:=by show 0+q=q;grind
end
set_option maxRecDepth 4000
section
open Go.RowKit
attribute [local irreducible] aB VS
end
section
open Go.RowKit
attribute [local irreducible] aB VS
theorem aC {w:World} {b off i sz:Nat} {cs:List Value} (hc:∀ (j:Nat) (u:Value),cs[j]? =some u->w.cell? ⟨b,off+i*sz+j,none⟩=some u) (k:Nat) (ds:List Value) (hd:ds <+:cs.drop k):∀ (j:Nat) (u:Value),ds[j]? =some u->w.cell? ((⟨b,off+((i:Nat):Int).toNat*sz+k,none⟩:Addr).add j)=some u:=by
 intro j u hj
 obtain⟨t,ht⟩:=hd
 rw[Addr.add_mid,Int.toNat_natCast,Nat.add_assoc]
 refine hc (k+j) u ?_
 rw[<-List.getElem?_drop,<-ht,List.getElem?_append_left (List.getElem?_eq_some_iff.1 hj).1]
 exact hj
end
section
open Go.RowKit
attribute [local irreducible] aB VS
end
section
open Go.RowKit
attribute [local irreducible] aB VS
end
section
open Go.RowKit
attribute [local irreducible] aB VS
end
section
open Go.RowKit
def Hp.ads:Nat->List (TypeId×List AV)->Hp
 | _,[]=>λ_=>none
 | i,c::r=>λn=>bif Nat.beq n i then some c else Hp.ads (i+1) r n
theorem Hp.xJ:∀ (l:List (TypeId×List AV)) (i n:Nat),Hp.ads i l n=if i<=n then l[n-i]? else none
 | [],i,n=>by unfold Hp.ads;simp
 | c::r,i,n=>by
   unfold Hp.ads
   rw[Hp.xJ r (i+1) n]
   by_cases h:n=i
   ·subst h;simp
   ·have hb:Nat.beq n i=false:=by rw[<-Bool.not_eq_true,Nat.beq_eq];exact h
    rw[hb,cond_false]
    by_cases h1:i<=n
    ·rw[if_pos h1,if_pos aa,show n-i=(n-(i+1))+1 by omega];rfl
    ·rw[if_neg h1,if_neg aa]
def adB (N:Nat) (ad:List Nat):Nat->Nat:=λi=>ad.getD (i-2*N) 0
structure cM (K:KC) (N:Nat) (ad:List Nat) (l:List (TypeId×List AV)) (w:World):Prop where
 len:ad.length=l.length
 nodup:ad.Nodup
 cls:∀ (j:Nat) (g:Nat) (c:TypeId×List AV),ad[j]? =some g->l[j]? =some c->aL w g c.1 (c.2.map (AV.leaf (adB N ad))).toArray
 ok:∀ c∈l,K.fz c.1=false/\c.2.all aZ=true
 ids:∀ c∈l,∀ k∈aW c.2,2*N<=k/\k<2*N+l.length
theorem cM.ad {K:KC} {N:Nat} {ad:List Nat} {l:List (TypeId×List AV)} {w:World} (h:cM K N ad l w):iH K ad w:=λg hg=>by
 obtain⟨j,hj⟩:=List.mem_iff_getElem?.1 hg
 have hlt:=(List.getElem?_eq_some_iff.1 hj).1
 obtain⟨c,hc⟩:∃ c,l[j]? =some c:=⟨_,List.getElem?_eq_getElem (by rw[<-h.len];exact hlt)⟩
 obtain⟨h1,h2⟩:=h.ok c (List.mem_of_getElem? hc)
 exact⟨c.1,_,h.cls j g c hj hc,h1,fe h2⟩
theorem lP {P:Program} {w w':World} {N:Nat} {K:KC} {SU:TypeId->Bool} {ti:TypeId->Option TI} {keep:∀ b,b<w.heap.size->K.S b} {ad:List Nat} {hd:ad.Nodup} {ha:iH K ad w} {β:Nat->Nat} {i:Nat} {t:TypeId} {cs:List AV} (h:mV (yD P w N K SU ti keep ad hd ha) β w' i t cs) (j g:Nat) (hi:i=2*N+j) (hj:ad[j]? =some g):β i=g/\aL w' g t (cs.map (AV.leaf β)).toArray:=by
 have h1:ez N ad w i (β i):=h.new
 unfold ez at h1
 rw[if_pos aa,hi,Nat.add_sub_cancel_left,hj] at h1
 have h2:g=β i:=by rw[hi];simpa using h1
 exact⟨h2.symm,h2▸h.cls⟩
section
variable {C:Cx} {F:Fr} {H:Hp} {w:World} {m:Option (List FuncId)} {full:Array Oper} {K:Fr->Hp->World->Prop} {o:Oper} {r:List Oper} {Q:Exit->Act->World->Prop} {k:List It}
def tM (F:Fr) (β:Nat->Nat):List (Nat×AV)->Prop
 | []=>True
 | p::r=>(∃ u x,F p.1=some u/\u.aM β=x/\p.2=.val x)/\tM F β r
theorem tM.mem {β:Nat->Nat}:∀ {L:List (Nat×AV)} {d:Nat} {v:AV},tM F β L->(d,v)∈L->∃ u x,F d=some u/\u.aM β=x/\v=.val x
 | p::r,d,v,h,hm=>by
   rcases List.mem_cons.1 hm with rfl|hm
   ·exact h.1
   ·exact tM.mem h.2 hm
theorem VS.eV (D:World->Cx) (hP:∀ w,(D w).pd=C.pd) (hN:∀ w,(D w).N=C.N) (hO:∀ w,(D w).Old w)
  (h:∀ w' β,aK C.K w w'->C.Old w'->Ends C β H w'->∃ L:List (Nat×AV),tM F β L/\VS (D w') Q k (Fr.of L) (λ_=>none) w'):VS C Q k F H w:=λβ a w' hr hk=>by
 obtain⟨L,hL,hv⟩:=h w' β hk hr.old ⟨hr.own,hr.apart⟩
 have:=hv β a w' ⟨hr.defers.trans (congrArg Prod.snd (hP w')).symm,by rw[hN];exact hr.size,λd v hd=> ?_,λi t cs hi=>(by cases hi),λi j hi=>absurd rfl hi,λd v hd i hi=> ?_,λd v hd=> ?_,⟨λi t cs hi=>(by cases hi),λi t cs hi=>(by cases hi),λi hi=>rfl⟩,hO w'⟩ (aK.refl _ _)
 ·rw[show (D w').P=C.P from congrArg Prod.fst (hP w')] at this
  exact this
 ·obtain⟨u,x,h1,rfl,rfl⟩:=hL.mem (Fr.fV hd)
  exact hr.tmp d u h1
 ·obtain⟨u,x,h1,rfl,rfl⟩:=hL.mem (Fr.fV hd)
  cases hi
 ·obtain⟨u,x,h1,rfl,rfl⟩:=hL.mem (Fr.fV hd)
  rw[hN];exact hr.fits d u h1
end
abbrev Kls:=Nat×Rat
set_option maxRecDepth 4000
def ElB {α:Type} (E:World->List Value->α->Prop):Prop:=∀ {w w':World} {cs:List Value} {a:α},E w cs a->ax w w'->E w' cs a
theorem fD.b {α:Type} {E:World->List Value->α->Prop} {sz:Nat} (h:fD E sz):ElB E:=λhE hb=>h.kp hE (Kp.of hb)
theorem cj.oU {α:Type} {E:World->List Value->α->Prop} {sz:Nat} {w w':World} {v:Value} {es:List α} (hE:ElB E) (h:cj E sz w v es) (hb:ax w w'):cj E sz w' v es:=by
 obtain⟨p,c,hv,h1,h2,h3⟩:=h
 refine⟨p,c,hv,h1,h2,λi q hq=> ?_⟩
 obtain⟨b,off,cs,hp,hc,hr⟩:=h3 i q hq
 exact⟨b,off,cs,hp,λj u hj=>hb.cell (hc j u hj),hE hr hb⟩
def Gg (kk:Nat) (w:World) (cs:List Value) (q:Rat):Prop:=∃ s p n c t y m d,cs=[.bool s,.slice p n c,.bool t,.slice y m d]/\df w (.agg #[.bool s,.slice p n c,.bool t,.slice y m d]) q kk
theorem Ng (kk:Nat):fD (Gg kk) 4 where
 kp:=λh k=>by
  obtain⟨s,p,n,c,t,y,m,d,hv,h2⟩:=h
  exact⟨_,_,_,_,_,_,_,_,hv,h2.kp k⟩
 len:=λh=>by
  obtain⟨s,p,n,c,t,y,m,d,rfl,_⟩:=h
  rfl
 ok:=λh=>by
  obtain⟨s,p,n,c,t,y,m,d,rfl,_⟩:=h
  rfl
def lE (kk:Nat) (w:World) (cs:List Value) (r:List Rat):Prop:=∃ v,cs=[v]/\cj (Gg kk) 4 w v r
theorem jQ (kk:Nat):ElB (lE kk):=λh hb=>by
 obtain⟨v,hv,h1⟩:=h
 exact⟨v,hv,h1.oU (Ng kk).b hb⟩
theorem cj.sl {α:Type} {E:World->List Value->α->Prop} {sz:Nat} {w:World} {v:Value} {es:List α} (h:cj E sz w v es):∃ p c,v=.slice p es.length c:=by
 obtain⟨p,c,hv,_⟩:=h
 exact⟨p,c,hv⟩
attribute [local irreducible] aB VS
end
set_option maxRecDepth 4000
section
open Go.RowKit
attribute [local irreducible] aB VS
def dD {α:Type} (E:World->List Value->α->Prop) (sz:Nat) (t:TypeId) (i:Nat) (X:AV) (M:List (Nat×(TypeId×List AV))) (w:World) (es:List α):Prop:=
 (es=[]/\X=.val (.slice none 0 0)/\M=[])\/∃ n c vs sp,X=.row i 0 n c/\M=[(i,(t,vs.flatten.map .val++sp))]/\bO E sz w n c vs sp es
theorem dD.kp {α:Type} {E:World->List Value->α->Prop} {sz:Nat} {t:TypeId} {i:Nat} {X:AV} {M:List (Nat×(TypeId×List AV))} {w w':World} {es:List α} (hE:fD E sz) (h:dD E sz t i X M w es) (k:Kp UU w w'):dD E sz t i X M w' es:=by
 rcases h with h|⟨n,c,vs,sp,h1,h2,h3⟩
 ·exact .inl h
 ·exact .inr ⟨n,c,vs,sp,h1,h2,h3.kp hE k⟩
def Hp.mask (l:List Nat) (H:Hp):Hp:=λi=>bif l.any (Nat.beq i) then none else H i
def zN (H:Hp):List Nat->Prop
 | []=>True
 | i::r=>H i=none/\zN H r
theorem zN.eq {H:Hp}:∀ {l:List Nat},zN H l->∀ i,l.any (Nat.beq i)=true->H i=none
 | [],_,i,h=>by cases h
 | j::r,hn,i,h=>by
   rw[List.any_cons,Bool.or_eq_true] at h
   rcases h with h|h
   ·rw[Nat.eq_of_beq_eq_true h];exact hn.1
   ·exact zN.eq hn.2 i h
theorem Hp.mask_eq {H:Hp} {l:List Nat} (h:zN H l):Hp.mask l H=H:=by
 funext i
 unfold Hp.mask
 cases hb:l.any (Nat.beq i) with
 | true=>exact (h.eq i hb).symm
 | false=>rfl
theorem VS.mask {C:Cx} {Q:Exit->Act->World->Prop} {F:Fr} {H:Hp} {w:World} {stk:List It} (l:List Nat) (h:zN H l) (k:VS C Q stk F (Hp.mask l H) w):VS C Q stk F H w:=by rw[Hp.mask_eq h] at k;exact k
section
variable {C:Cx} {β:Nat->Nat} {H:Hp} {w w1:World} {ids:List Nat} {X:AV} {M:List (Nat×(TypeId×List AV))}
end
def qT (kk:Nat) (w:World) (cs:List Value) (q:Rat):Prop:=∃ s p n c t y m d,cs=[.bool s,.slice p n c,.bool t,.slice y m d]/\fm w (.agg #[.bool s,.slice p n c,.bool t,.slice y m d]) q/\lM q kk
theorem cE (kk:Nat):fD (qT kk) 4 where
 kp:=λh k=>by
  obtain⟨s,p,n,c,t,y,m,d,hv,h1,h2⟩:=h
  exact⟨_,_,_,_,_,_,_,_,hv,h1.kp k,h2⟩
 len:=λh=>by
  obtain⟨s,p,n,c,t,y,m,d,rfl,_⟩:=h
  rfl
 ok:=λh=>by
  obtain⟨s,p,n,c,t,y,m,d,rfl,_⟩:=h
  rfl
theorem qT.mk {kk:Nat} {w:World} {s t:Bool} {p y:Option Addr} {n c m d:Nat} {q:Rat} (h:fm w (.agg #[.bool s,.slice p n c,.bool t,.slice y m d]) q) (hs:lM q kk):qT kk w [.bool s,.slice p n c,.bool t,.slice y m d] q:=⟨_,_,_,_,_,_,_,_,rfl,h,hs⟩
set_option maxRecDepth 4000
section
variable {F F':Fr} {H H':Hp} {w w1:World} {N:Nat} {l':List Oper} {Q:Exit->Act->World->Prop} {k:List It} {id:Nat} {ops:Array Oper}
end
theorem Gg.mk {kk:Nat} {w:World} {s t:Bool} {p y:Option Addr} {n c m d:Nat} {q:Rat} (h:df w (.agg #[.bool s,.slice p n c,.bool t,.slice y m d]) q kk):Gg kk w [.bool s,.slice p n c,.bool t,.slice y m d] q:=⟨_,_,_,_,_,_,_,_,rfl,h⟩
set_option maxRecDepth 4000
theorem qT.yN {kk:Nat} {w:World} {cs:List Value} {q:Rat} (h:qT kk w cs q):Gg kk w cs q:=by
 obtain⟨s,p,n,c,t,y,m,d,rfl,h1,h2⟩:=h
 exact .mk (h1.to h2)
end
section
open Go.RowKit
abbrev fX:Nat:=9223372036854775807
section
variable {H:Type} {enc:TypeId×Value->H} {w:World} {held:Bool}
theorem u8_wf {n:Int} (h:(Lit.int .u8 n).wf=true):0<=n/\n<256:=by
 simp[Lit.wf,IntKind.min,IntKind.max,IntKind.signed,IntKind.bits] at h
 omega
theorem aX (cs:List Value) (o n m:Nat) (h:m=o+n):cs.drop o=(cs.drop o).take n++cs.drop m:=by
 subst h
 have:=(List.take_append_drop n (cs.drop o)).symm
 rw[List.drop_drop] at this
 exact this
end
section
variable {H:Type} {enc:TypeId×Value->H} {w:World} {held:Bool}
set_option maxRecDepth 100000 in
theorem iQ {α:Type} {E:World->List Value->α->Prop} {sz:Nat} {t e:TypeId} (hu:Tryz.prog.underlying t=some (.slice e)) (hc:Tryz.prog.cellsOf e=sz) (vR:0<sz)
  (dE:∀ {fuel:Nat} {cs:List Value} {x:DataW H×List MemPlace},DataW.trod enc Tryz.prog w 0 (λ_=>true) held fuel e cs=some x->∃ a,E w cs a)
  {fuel:Nat} {cs:List Value} {x:DataW H×List MemPlace} (hf:DataW.trod enc Tryz.prog w 0 (λ_=>true) held fuel t cs=some x):∃ (p:Option Addr) (n c:Nat) (es:List α),cs=[.slice p n c]/\cj E sz w (.slice p n c) es:=by
 rcases DataW.trod_slice hu hf with ⟨e,_⟩|⟨a,len',cap',elems,rest,n,_,e,_,_,hl,hm,hle,CD,_⟩
 ·exact⟨none,0,0,[],e,cj.nil _ _ _⟩
 ·refine⟨some a,len',cap',?_⟩
  rw[hc] at CD
  have each:∀ i,i<len'->∃ q,∃ b off cs,some a=some ⟨b,off,none⟩/\(∀ (j:Nat) (u:Value),cs[j]? =some u->w.cell? ⟨b,off+i*sz+j,none⟩=some u)/\E w cs q:=by
   intro i hi
   obtain⟨y,hy⟩:∃ y,elems[i]? =some y:=⟨_,List.getElem?_eq_getElem aa⟩
   have hb:=CD i hi
   rw[hy,Option.bind_eq_some_iff] at hb
   obtain⟨cs,hcs,ht⟩:=hb
   obtain⟨q,hq⟩:=dE ht
   obtain⟨_,hlen,hcell⟩:=World.cells?_some hcs
   obtain⟨b,off,spot⟩:=a
   have hspot:spot=none:=by
    obtain⟨y0,yl⟩:∃ y,elems[0]? =some y:=⟨_,List.getElem?_eq_getElem aa⟩
    have pH:=CD 0 aa
    rw[yl,Option.bind_eq_some_iff] at pH
    obtain⟨cs0,hcs0,ht0⟩:=pH
    obtain⟨_,hlen0,hcell0⟩:=World.cells?_some hcs0
    have h00:=hcell0 0 vR
    rw[List.getElem?_eq_getElem aa] at h00
    have g0:=World.cell?_spot h00
    simpa [Addr.add] using g0
   subst hspot
   refine⟨q,b,off,cs,rfl,λj u hj=> ?_,hq⟩
   have hjl:j<sz:=by have:=(List.getElem?_eq_some_iff.1 hj).1;omega
   have:=hcell j hjl
   rw[WideShapes.add_plain,WideShapes.add_plain] at this
   rw[this]
   exact hj
  obtain⟨qs,hql,hqs⟩:=Na len' each
  subst hql
  exact⟨qs,e,_,_,rfl,hl,hm,λi q hq=>hqs i q hq⟩
end
end
set_option maxRecDepth 4000
section
open Go.RowKit
attribute [local irreducible] aB VS
theorem VS.hop {C:Cx} {Q:Exit->Act->World->Prop} {F:Fr} {H:Hp} {w:World} {P:Fr->Hp->World->Prop} {Ni Nj:List It} (h1:(∀ F' H' w',P F' H' w'->VS C Q Nj F' H' w')->VS C Q Ni F H w) (h2:∀ F' H' w',P F' H' w'->VS C Q Nj F' H' w'):VS C Q Ni F H w:=h1 h2
theorem cN {w:World} {b off z:Nat} {v:Value} (hc:∀ (j:Nat) (u:Value),[v][j]? =some u->w.cell? ⟨b,off+z*1+j,none⟩=some u):∀ (j:Nat) (u:Value),[v][j]? =some u->w.cell? ((⟨b,off+((z:Nat):Int).toNat*1,none⟩:Addr).add j)=some u:=λj u hj=>by rw[Addr.add_mid,Int.toNat_natCast];exact hc j u hj
set_option maxRecDepth 4000
theorem has_any (v:Value) (t:List (List Rat)) (xs:List Rat) (e c:Nat) (kk:Nat) (w:World) (hv:cj (lE kk) 1 w v t) (hx:t[e]? =some xs) (hc:c<xs.length):
  Calls Tryz.prog 63 #[.agg #[v],.agg #[.int .i64 (e:Int),.int .i64 (c:Int)]] w λo w'=>o=.returned (.bool true)/\ax w w':=by
 obtain⟨p,cp,rfl⟩:=hv.sl
 have dE:e<t.length:=(List.getElem?_eq_some_iff.1 hx).1
 obtain⟨b,off,uG,rfl,hcc,⟨xv,rfl,CY⟩⟩:=hv.at hx
 obtain⟨p3,c3,rfl⟩:=CY.sl
 refine ai (C:=bj Tryz.prog w _) (args:=[_,_]) Tryz.func63 rfl Tryz.ntmps63 (cr rfl) ?_
 refine ae ?_
 refine VO.fix 8 rfl (congrArg (λb=>AV.val (.bool b)) (decide_eq_true (show (e:Int)>=0 by omega))) ?_
 refine ae ?_
 refine VO.fix 16 rfl (congrArg (λb=>AV.val (.bool b)) (decide_eq_true (show (e:Int)<(t.length:Int) by omega))) ?_
 refine ae ?_
 refine VO.fix 21 rfl (congrArg (λb=>AV.val (.bool b)) (decide_eq_true (show (c:Int)>=0 by omega))) ?_
 refine ae ?_
 refine VO.cond rfl cW (wV rfl ?_)
 refine ae ?_
 refine VO.read rfl [.slice p3 xs.length c3] rfl (cN hcc) (wV rfl ?_)
 refine ae ?_
 refine bV ?_;intro wz kz bz
 exact⟨congrArg (λb=>Ending.returned (.bool b)) (decide_eq_true (show (c:Int)<(xs.length:Int) by omega)),bz⟩
theorem at_any (v:Value) (t:List (List Rat)) (xs:List Rat) (x:Rat) (e c:Nat) (kk:Nat) (w:World) (hv:cj (lE kk) 1 w v t) (hx:t[e]? =some xs) (hc:xs[c]? =some x) (hk:kk<=1000):
  Calls Tryz.prog 30 #[.agg #[v],.int .i64 (e:Int),.int .i64 (c:Int)] w λo w'=>∃ r,o=.returned r/\bQ w' w.heap.size r x/\ax w w':=by
 obtain⟨p,cp,rfl⟩:=hv.sl
 have dE:e<t.length:=(List.getElem?_eq_some_iff.1 hx).1
 have da:c<xs.length:=(List.getElem?_eq_some_iff.1 hc).1
 refine ai (C:=bj Tryz.prog w _) (args:=[_,_,_]) Tryz.func30 rfl Tryz.ntmps30 (cr rfl) ?_
 refine ae ?_
 refine VO.cB rfl rfl (fk Tryz.func63) (λbL dw bX=>has_any _ t xs e c kk bL (hv.oU (jQ kk) bX) hx da) (λbL dw bX w1 bl eM _ bb1=>wV rfl ?_)
 refine ae ?_
 obtain⟨b,off,uG,rfl,hcc,⟨xv,rfl,CY⟩⟩:=hv.at hx
 obtain⟨b2,xK,csx2,hp3,jl,⟨s,pp,n,cx,tt,y,mm,d,rfl,hrt⟩⟩:∃ b off cs,xv=.slice (some ⟨b,off,none⟩) xs.length (match xv with | .slice _ _ c=>c|_=>0)/\(∀ (j:Nat) (u:Value),cs[j]? =some u->w.cell? ⟨b,off+c*4+j,none⟩=some u)/\Gg kk w cs x:=by
  obtain⟨p3,c3,rfl⟩:=CY.sl
  obtain⟨b2,xK,Iw,rfl,h1,h2⟩:=CY.at hc
  exact⟨b2,xK,Iw,rfl,h1,h2⟩
 rw[hp3] at hcc
 generalize (match xv with | .slice _ _ c=>c|_=>0)=c3 at hcc hp3
 refine VO.cond rfl cW (wV rfl ?_)
 refine VO.read rfl [.slice (some ⟨b2,xK,none⟩) xs.length c3] rfl (cN hcc) (wV rfl ?_)
 refine ae ?_
 refine VO.cond rfl cW (wV rfl ?_)
 refine VO.read rfl [.bool s,.slice pp n cx,.bool tt,.slice y mm d] rfl (aC jl 0 _ ⟨[],rfl⟩) (wV rfl ?_)
 refine ae ?_
 refine VO.Du rfl (fk Tryz.func39) (λdh β eU dQ ho=>((xE _ [x] kk dh (zM (ho.own 22 (.base (List.mem_singleton.2 rfl)) _ _ rfl) [] (vs:=[[.bool s,.slice pp n cx,.bool tt,.slice y mm d]]) (by rfl) rfl (jP.cons (hrt.kp (Kp.of (U:=UU) dQ)) jP.nil) (cr rfl) cH) (by unfold gU oM;simp;omega)).mono (λo w2 h=>And.intro h dQ.size)).mono ?_)
 rintro o w2 ⟨⟨r2,rfl,q2,-,bM⟩,hsz2⟩
 rw[En] at q2
 obtain⟨s2,p2,n2,c2,t2,y2,m2,d2,rfl⟩:=q2.form
 refine cP bM ?_
 intro gr _ bb2
 refine bV ?_;intro wz kz bz
 exact⟨_,rfl,(q2.kp kz).mono hsz2,bz⟩
end
section
open Go.RowKit
def mo (o:Oper):Bool:=match o.op with | .defer _=>false|_=>true
def iR (F:Fence):Prop:=F=Fence.wide\/∃ l,F=Fence.wide.inRound l
theorem iR.wide:iR Fence.wide:=.inl rfl
section
variable {Fe:Fence} {n:Nat} {P:Program} {o:Oper} {a:Act} {w:World} {K:Act->World->Prop} {Q:Exit->Act->World->Prop}
theorem iR.fn (h:iR Fe) (f:FuncId):Fe.fn f:=by rcases h with rfl|⟨l,rfl⟩ <;> trivial
theorem iR.depth (h:iR Fe):Fe.depth=none:=by rcases h with rfl|⟨l,rfl⟩ <;> rfl
theorem iR.calls (h:iR Fe) {f:FuncId} {args:Array Value} {R:Ending->World->Prop} (hc:Calls P f args w R):CallsIn Fe n P f args w R:=by
 have:=(callsIn_wide (n:=n)).2 hc
 rcases h with rfl|⟨l,rfl⟩
 ·exact this
 ·exact this
theorem iR.rows (h:iR Fe) {r:String} {args:Array Value} {R:Value->World->Prop} (hc:Rows P r args w R):RowsIn Fe n P r args w R:=by
 have:RowsIn Fence.wide n P r args w R:=λc cs _=>let ⟨v,w',r,s⟩:=hc c cs;⟨v,w',r,stepsIn_wide.2 s⟩
 rcases h with rfl|⟨l,rfl⟩
 ·exact this
 ·exact this
theorem iR.upon (h:iR Fe) {r:Result Next} (hu:o.upon P a K Q r):o.uponIn Fe n P a K Q r:=by
 have hd:Fe.depth.isSome=true->1<=n:=λe=>by rw[h.depth] at e;cases e
 cases r with
 | ok x w'=>
   cases x with
   | value v=>exact hu
   | skip=>exact hu
   | defer d=>exact hu
   | enter f args=>exact⟨hd,h.calls hu⟩
   | row r args=>exact⟨hd,h.rows hu⟩
   | round l f tmps assign body=>exact hu.elim
   | _=>exact hu.elim
 | halt x w'=>
   cases x with
   | panic v=>exact hu
   | _=>exact hu.elim
theorem iR.sem (h:iR Fe) (hd:mo o=true):o.semAt Fe.round a.eval=execOp a.eval o:=by
 rcases h with rfl|⟨l,rfl⟩
 ·rfl
 ·exact Oper.semAt_some l _ _ λc e=>by unfold mo at hd;rw[e] at hd;cases hd
theorem iR.op (h:iR Fe) (hd:mo o=true) (hw:o.wp P a w K Q):o.wpIn Fe n P a w K Q:=by
 refine⟨λf _=>h.fn f,?_⟩
 rw[h.sem hd]
 exact h.upon hw
end
section
variable {Fe:Fence} {n:Nat} {C:Cx} {Q:Exit->Act->World->Prop} {ml:List FuncId} {full:Array Oper}
theorem uH (hB:iR Fe) (hC:C.Ok) {m:Option (List FuncId)} {K:Fr->Hp->World->Prop} {tl:List Oper} (hQ:∀ β F H w a w',K F H w->Rel C β F H a w'->aK C.K w w'->wpListIn Fe n C.P full Q tl a w'):
  ∀ (l:List Oper),l.all mo=true->∀ (β:Nat->Nat) (F:Fr) (H:Hp) (w:World) (a:Act) (w':World),aB C m full l K F H w->Rel C β F H a w'->aK C.K w w'->wpListIn Fe n C.P full Q (l++tl) a w'
 | [],_,β,F,H,w,a,w',h,hr,hk=>hQ β F H w a w' h hr hk
 | o::r,hd,β,F,H,w,a,w',h,hr,hk=>by
   rw[List.all_cons,Bool.and_eq_true] at hd
   show wpListIn Fe n C.P full Q (o::(r++tl)) a w'
   refine wpListIn_step λK' hK'=> ?_
   have:=km hC (next:=K') (Q:=Q) (k:=aB C m full r K) h hr hk λbn F' H' w1 a' bm h1 h2 h3=>hK' _ _ (uH hB hC hQ r hd.2 bn F' H' w1 a' bm h1 h2 h3)
   split at this
   ·rename_i hw;rw[if_pos hw];exact hB.op hd.1 this
   ·rename_i hw;rw[if_neg hw];exact⟨λf _=>hB.fn f,this⟩
end
section
variable {Fe:Fence} {C:Cx} {Q:Exit->Act->World->Prop} {k:List It} {F F':Fr} {H H':Hp} {w:World} {id:Nat} {ops:Array Oper} {l':List Oper}
end
def Fr.vals (L:List (Nat×Value)):Fr:=Fr.of (L.map λp=>(p.1,.val p.2))
def Kh (F:Fr):List (Nat×Value)->Prop
 | []=>True
 | p::r=>F p.1=some (.val p.2)/\Kh F r
theorem Kh.mem {F:Fr}:∀ {L:List (Nat×Value)} {p:Nat×Value},Kh F L->p∈L->F p.1=some (.val p.2)
 | q::r,p,h,hm=>by
   rcases List.mem_cons.1 hm with rfl|hm
   ·exact h.1
   ·exact Kh.mem h.2 hm
theorem xL {L:List (Nat×Value)} {d:Nat} {v:AV} (h:Fr.vals L d=some v):∃ u,v=.val u/\(d,u)∈L:=by
 have:=Fr.fV h
 obtain⟨p,hp,e⟩:=List.mem_map.1 this
 cases e
 exact⟨p.2,rfl,hp⟩
structure Knows (N:Nat) (L:List (Nat×Value)) (a:Act) (ds:List Deferred:=[]):Prop where
 defers:a.defers=ds
 size:a.tmps.size=N
 tmp:∀ p∈L,p.1<N/\a.tmps.getD p.1 undef=p.2
theorem Knows.rel {C:Cx} {L:List (Nat×Value)} {a:Act} {w:World} (h:Knows C.N L a C.ds) (ho:C.Old w):Rel C (λ_=>0) (Fr.vals L) (λ_=>none) a w:=
 ⟨h.defers,h.size,λd v hd=>by obtain⟨u,rfl,hm⟩:=xL hd;exact (h.tmp _ hm).2,λi t cs hi=>(by cases hi),λi j hi=>absurd rfl hi,λd v hd i hi=>(by obtain⟨u,rfl,hm⟩:=xL hd;cases hi),λd v hd=>(by obtain⟨u,rfl,hm⟩:=xL hd;exact (h.tmp _ hm).1),⟨λi t cs hi=>(by cases hi),λi t cs hi=>(by cases hi),λi hi=>rfl⟩,ho⟩
theorem Rel.knows {C:Cx} {β:Nat->Nat} {F:Fr} {H:Hp} {a:Act} {w:World} {L:List (Nat×Value)} (hr:Rel C β F H a w) (hL:Kh F L):Knows C.N L a C.ds:=
 ⟨hr.defers,hr.size,λp hp=>⟨hr.fits _ _ (hL.mem hp),hr.tmp _ _ (hL.mem hp)⟩⟩
def Nk (N:Nat) (J:Nat->List (Nat×Value)->World->Prop) (n:Nat) (a:Act) (w:World) (ds:List Deferred:=[]):Prop:=∃ L,J n L w/\Knows N L a ds
section
variable {C:Cx} {Q:Exit->Act->World->Prop} {k:List It} {F:Fr} {H:Hp} {w:World} {J:Nat->List (Nat×Value)->World->Prop}
end
section
variable {C:Cx} {F:Fr} {H:Hp} {w:World} {Q:Exit->Act->World->Prop} {k:List It}
end
theorem eJ.az {w w1 W:World} {ad:List Nat} (h:ax w w1) (k:eJ ad w1 W) (hg:∀ g∈ad,w.heap.size<=g):ax w W:=
 Below.trans h ⟨k.os,k.tape,k.output,k.size,λg Bu=>k.gv g (Nat.lt_of_lt_of_le Bu h.size) λhm=>by have:=hg g hm;omega⟩
theorem aY {P:Program} {w:World} {N:Nat} {K:KC} {SU:TypeId->Bool} {ti:TypeId->Option TI} {keep:∀ b,b<w.heap.size->K.S b} {g:Nat} {ha:iH K [g] w} {x:Addr} {u:Value} (hb:x.block≠g) (h:w.cell? x=some u):Cx.At (yD P w N K SU ti keep [g] (zA g) ha) x u:=λw1 sO=>by
 have h1:eJ [g] w w1:=sO.1
 have hlt:=World.block_lt_of_cell? w x h
 rw[World.cell?_of_block (w:=w) (h1.gv _ hlt (λhm=>hb (List.mem_singleton.1 hm)))]
 exact h
section
variable {C:Cx} {F:Fr} {H:Hp} {w:World} {m:Option (List FuncId)} {full:Array Oper} {K:Fr->Hp->World->Prop} {o:Oper} {r:List Oper} {Q:Exit->Act->World->Prop} {k:List It}
def si (F:Fr) (β bn:Nat->Nat) (lo hi:Nat):List (Nat×AV)->Prop
 | []=>True
 | p::r=>(∃ u,F p.1=some u/\p.2.aM bn=u.aM β/\∀ i∈p.2.ids,lo<=i/\i<hi)/\si F β bn lo hi r
theorem si.mem {β bn:Nat->Nat} {lo hi:Nat}:∀ {L:List (Nat×AV)} {d:Nat} {v:AV},si F β bn lo hi L->(d,v)∈L->∃ u,F d=some u/\v.aM bn=u.aM β/\∀ i∈v.ids,lo<=i/\i<hi
 | p::r,d,v,h,hm=>by
   rcases List.mem_cons.1 hm with rfl|hm
   ·exact h.1
   ·exact si.mem h.2 hm
theorem VS.bI (K:KC) (SU:TypeId->Bool) (ti:TypeId->Option TI) (keep:∀ (w':World) b,b<w'.heap.size->K.S b)
  (h:∀ w' β,aK C.K w w'->C.Old w'->Ends C β H w'->∃ (ad:List Nat) (l:List (TypeId×List AV)) (hl:cM K C.N ad l w') (L:List (Nat×AV)),si F β (adB C.N ad) (2*C.N) (2*C.N+l.length) L/\
   VS (yD C.P w' C.N K SU ti (keep w') ad hl.nodup hl.ad) Q k (Fr.of L) (Hp.ads (2*C.N) l) w') (rb:C.ds=[]:=by rfl):VS C Q k F H w:=λβ a w' hr hk=>by
 obtain⟨ad,l,hl,L,hL,hv⟩:=h w' β hk hr.old ⟨hr.own,hr.apart⟩
 have CD:∀ i c,Hp.ads (2*C.N) l i=some c->2*C.N<=i/\l[i-2*C.N]? =some c:=λi c hi=>by
  rw[Hp.xJ] at hi
  split at hi
  ·exact⟨by assumption,hi⟩
  ·cases hi
 have hsome:∀ i,Hp.ads (2*C.N) l i≠none->2*C.N<=i/\i-2*C.N<l.length:=λi hi=>by
  cases hh:Hp.ads (2*C.N) l i with
  | none=>exact absurd hh hi
  | some c=>
    obtain⟨h1,h2⟩:=CD i c hh
    exact⟨h1,(List.getElem?_eq_some_iff.1 h2).1⟩
 have hval:∀ k,k<ad.length->ad[k]? =some (ad.getD k 0):=λk hk=>by simp[List.getD_eq_getElem?_getD,hk]
 refine hv (adB C.N ad) a w' ⟨hr.defers.trans rb,hr.size,λd v hd=> ?_,λi t cs hi=> ?_,λi j hi hj e=> ?_,λd v hd i hi=> ?_,λd v hd=> ?_,⟨λi t cs hi=> ?_,λi t cs hi=> ?_,λi hi=> ?_⟩,(yD C.P w' C.N K SU ti (keep w') ad hl.nodup hl.ad).mU⟩ (aK.refl _ _)
 ·obtain⟨u,h1,h2,_⟩:=hL.mem (Fr.fV hd)
  rw[h2]
  exact hr.tmp d u h1
 ·obtain⟨h1,h2⟩:=CD i _ hi
  have hlt:=(List.getElem?_eq_some_iff.1 h2).1
  obtain⟨g1,g2⟩:=hl.ok _ (List.mem_of_getElem? h2)
  have hv:=hval (i-2*C.N) (by rw[hl.len];exact hlt)
  refine⟨?_,g1,hl.cls _ _ _ hv h2,g2⟩
  show ez C.N ad w' i (adB C.N ad i)
  unfold ez
  rw[if_pos h1]
  exact hv
 ·obtain⟨h1,h2⟩:=hsome i hi
  obtain⟨h3,h4⟩:=hsome j hj
  have e1:=hval (i-2*C.N) (by rw[hl.len];exact h2)
  have e2:=hval (j-2*C.N) (by rw[hl.len];exact h4)
  have e':ad.getD (i-2*C.N) 0=ad.getD (j-2*C.N) 0:=e
  rw[<-e'] at e2
  have:=(List.getElem?_inj (by rw[hl.len];exact h2) hl.nodup).1 (e1.trans e2.symm)
  omega
 ·obtain⟨u,h1,h2,h3⟩:=hL.mem (Fr.fV hd)
  obtain⟨h4,h5⟩:=h3 i hi
  rw[Hp.xJ,if_pos h4,List.getElem?_eq_getElem aa]
  simp
 ·obtain⟨u,h1,h2,h3⟩:=hL.mem (Fr.fV hd)
  exact hr.fits d u h1
 ·obtain⟨h1,h2⟩:=CD i _ hi
  exact hl.ok _ (List.mem_of_getElem? h2)
 ·obtain⟨h1,h2⟩:=CD i _ hi
  intro j hj
  obtain⟨h3,h4⟩:=hl.ids _ (List.mem_of_getElem? h2) j hj
  rw[Hp.xJ,if_pos h3,List.getElem?_eq_getElem aa]
  simp
 ·have tk:2*C.N+ad.length<=i:=hi
  rw[Hp.xJ]
  split
  ·exact List.getElem?_eq_none (by rw[<-hl.len];omega)
  ·rfl
def MK (C:Cx) (Q:Exit->Act->World->Prop) (k:List It) (full:Array Oper) (o:Oper) (F:Fr) (H:Hp) (w:World):Prop:=
 ∃ (g:FuncId) (args:List AV) (vs:List Value) (D:World->Cx),stepOf C full F H o=.call (.fn g args)/\fR args=some vs/\wR C.P g/\(∀ w,(D w).pd=C.pd)/\(∀ w,(D w).N=C.N)/\(∀ w,Cx.Old (D w) w)/\
   ∀ w1,aK C.K w w1->C.Old w1->Calls C.P g vs.toArray w1 λe w2=>∃ v L,e=.returned v/\Kh F L/\(∀ p∈L,o.dst≠some p.1)/\VS (D w2) Q k (Fr.vals L) (λ_=>none) w2
theorem VS.vJ (hC:C.Ok) {id:Nat} {ops:Array Oper} (j:Nat) {o:Oper} (hj:ops.toList.drop j=[o]) (hd:ops.toList.all mo=true) (ho:mo o=true)
  (h:aB C none ops (ops.toList.take j) (MK C Q k ops o) F H w):VS C Q (.code (.region id ops false)::k) F H w:=λβ a w' hr hk=>by
 refine (wpIn_wide (n:=0)).1 (wpIn_region_list ?_)
 rw[<-List.take_append_drop j ops.toList,hj]
 refine uH iR.wide hC (tl:=[o]) (λβ F H w a w' h hr hk=> ?_) (ops.toList.take j) (List.all_eq_true.2 λo ho=>List.all_eq_true.1 hd o (List.mem_of_mem_take ho)) β F H w a w' h hr hk
 obtain⟨g,args,vs,D,e,hv,hf,hP,hN,hO,da⟩:=h
 refine wpListIn_step λK hK=> ?_
 have hb:stepOf C ops F H o≠.bad:=λe'=>by rw[e] at e';cases e'
 obtain⟨gj,⟨hw,hs⟩|⟨hw,hs⟩⟩:=ji hb
 ·rw[hs] at e;cases e
 ·rw[lp hr hw,if_pos rfl]
  refine iR.wide.op ho (HQ hr (hs.symm.trans e) ?_)
  refine⟨hf,?_⟩
  rw[jD hv,jh]
  refine (da w' hk hr.old).mono ?_
  rintro e w2 ⟨v,L,rfl,hL,hLd,hcont⟩
  refine⟨v,rfl,hK _ _ ?_⟩
  show post C.P Q k .normal _ w2
  have zc:=hr.knows hL
  have nO:Knows (D w2).N L (a.put o.dst v) (D w2).ds:=by
   rw[hN,show (D w2).ds=C.ds from congrArg Prod.snd (hP w2)]
   cases hod:o.dst with
   | none=>exact zc
   | some d=>
     refine⟨zc.defers,by simp[Act.put];exact zc.size,λp hp=>⟨(zc.tmp p hp).1,?_⟩⟩
     have hne:d≠p.1:=λe=>hLd p hp (by rw[hod,e])
     have:=(zc.tmp p hp).2
     simp[Act.put,Array.getD_eq_getD_getElem?,Array.getElem?_setIfInBounds,hne] at this ⊢
     exact this
  have:=hcont _ _ w2 (nO.rel (hO w2)) (aK.refl _ _)
  rw[show (D w2).P=C.P from congrArg Prod.fst (hP w2)] at this
  exact this
end
section
variable {C:Cx} {Q:Exit->Act->World->Prop} {k:List It} {F:Fr} {H:Hp} {w:World} {J:Nat->List (Nat×Value)->World->Prop}
def Nl (F:Fr) (β:Nat->Nat) (L:List (Nat×Value)):Prop:=tM F β (L.map λp=>(p.1,AV.val p.2))
theorem Rel.Nn {β:Nat->Nat} {a:Act} {L:List (Nat×Value)} (hr:Rel C β F H a w) (hL:Nl F β L):Knows C.N L a C.ds:=
 ⟨hr.defers,hr.size,λp hp=>by
  obtain⟨u,x,h1,h2,h3⟩:=hL.mem (List.mem_map.2 ⟨p,hp,rfl⟩)
  cases h3
  exact⟨hr.fits _ u h1,by rw[hr.tmp _ u h1,h2]⟩⟩
theorem VS.fY (D:World->Cx) (hP:∀ w,(D w).pd=C.pd) (hN:∀ w,(D w).N=C.N) (hO:∀ w,(D w).Old w) (n0:Nat) {body:Code} (h0:∀ w' β,aK C.K w w'->C.Old w'->Ends C β H w'->∃ L,Nl F β L/\J n0 L w')
  (round:∀ n L W,J n L W->VS (D W) Q (.code body::.back (λa w=>∃ m,m<n/\Nk C.N J m a w C.ds)::k) (Fr.vals L) (λ_=>none) W):VS C Q (.code (.loop body)::k) F H w:=λβ a w' hr hk=>by
 obtain⟨L,h1,h2⟩:=h0 w' β hk hr.old ⟨hr.own,hr.apart⟩
 refine wp_loop_ghost (λn a w=>Nk C.N J n a w C.ds) n0 ⟨L,h2,hr.Nn h1⟩ ?_
 rintro n a1 w1 ⟨L1,hJ,nO⟩
 have hkn':Knows (D w1).N L1 a1 (D w1).ds:=by rw[hN,show (D w1).ds=C.ds from congrArg Prod.snd (hP w1)];exact nO
 have:=round n L1 w1 hJ _ a1 w1 (hkn'.rel (hO w1)) (aK.refl _ _)
 rw[show (D w1).P=C.P from congrArg Prod.fst (hP w1)] at this
 exact this
theorem VS.fq {ds:List Deferred} {n N:Nat} (hN:C.N=N) (m:Nat) (hm:m<n) (h:∀ w' β,aK C.K w w'->C.Old w'->Ends C β H w'->∃ L,Nl F β L/\J m L w') (rb:C.ds=ds:=by rfl):VS C Q (.back (λa w=>∃ m,m<n/\Nk N J m a w ds)::k) F H w:=λβ a w' hr hk=>by
 subst hN
 subst rb
 obtain⟨L,h1,h2⟩:=h w' β hk hr.old ⟨hr.own,hr.apart⟩
 exact⟨m,hm,L,h2,hr.Nn h1⟩
end
end
section
open Go.RowKit
attribute [local irreducible] aB VS
section
variable {F F':Fr} {H H':Hp} {w w1:World} {N:Nat} {l':List Oper} {Q:Exit->Act->World->Prop} {k:List It} {id:Nat} {ops:Array Oper}
end
theorem dD.told {α:Type} {E:World->List Value->α->Prop} {sz i:Nat} {t:TypeId} {es:List α} {C:Cx} {β:Nat->Nat} {H:Hp} {w w1:World} {X:AV} {M:List (Nat×(TypeId×List AV))} (h:dD E sz t i X M w es) (hE:fD E sz) (en:Ends C β H w1) (hM:∀ x∈M,H x.1=some x.2) (k:Kp UU w w1) (B:Nat) (hB:C.vu i (β i)->B<=β i):aE E sz t B w1 (X.aM β) es:=by
 rcases h with ⟨rfl,rfl,rfl⟩|⟨n,c,vs,sp,rfl,rfl,h3⟩
 ·exact .inl ⟨rfl,rfl⟩
 ·have o:=en.own i _ _ (hM _ (List.mem_singleton.2 rfl))
  have hk:=o.ok
  rw[List.all_append,Bool.and_eq_true] at hk
  have hn:=h3.len
  subst hn
  refine .inr ⟨β i,c,vs,sp.map (AV.leaf β),rfl,hB o.new,?_,h3.el.kp hE k,fe hk.2,h3.le,h3.cm,by rw[<-h3.fl];simp only[List.length_append,List.length_map]⟩
  have:=o.cls
  rw[List.map_append,aP] at this
  exact this
set_option maxRecDepth 4000
set_option maxRecDepth 4000 in
theorem Ki (v:Value) (t:List (List Rat)) (xs:List Rat) (x:Rat) (e c:Nat) (kk:Nat) (w:World) (hv:cj (lE kk) 1 w v t) (hx:t[e]? =some xs) (hc:xs[c]? =some x) (hk:kk<=1000):
  Calls Tryz.prog 31 #[.agg #[v],.int .i64 (e:Int),.int .i64 (c:Int)] w λo w'=>∃ r,o=.returned r/\fm w' r x/\ax w w':=by
 obtain⟨p,cp,rfl⟩:=hv.sl
 have dE:e<t.length:=(List.getElem?_eq_some_iff.1 hx).1
 have da:c<xs.length:=(List.getElem?_eq_some_iff.1 hc).1
 obtain⟨b,off,uG,rfl,hcc,⟨xv,rfl,CY⟩⟩:=hv.at hx
 obtain⟨b2,xK,csx2,hp3,jl,⟨s,pp,n,cx,tt,y,mm,d,rfl,hrt⟩⟩:∃ b off cs,xv=.slice (some ⟨b,off,none⟩) xs.length (match xv with | .slice _ _ c=>c|_=>0)/\(∀ (j:Nat) (u:Value),cs[j]? =some u->w.cell? ⟨b,off+c*4+j,none⟩=some u)/\Gg kk w cs x:=by
  obtain⟨p3,c3,rfl⟩:=CY.sl
  obtain⟨b2,xK,Iw,rfl,h1,h2⟩:=CY.at hc
  exact⟨b2,xK,Iw,rfl,h1,h2⟩
 rw[hp3] at hcc
 generalize (match xv with | .slice _ _ c=>c|_=>0)=c3 at hcc hp3
 refine ai (C:=bj Tryz.prog w _) (args:=[_,_,_]) Tryz.func31 rfl Tryz.ntmps31 (cr rfl) ?_
 refine ae ?_
 refine VO.fix 9 rfl (congrArg (λb=>AV.val (.bool b)) (decide_eq_false (show ¬ (e:Int)<0 by omega))) ?_
 refine ae ?_
 refine VO.fix 16 rfl (congrArg (λb=>AV.val (.bool b)) (decide_eq_false (show ¬ (e:Int)>=(t.length:Int) by omega))) ?_
 refine ae ?_
 refine VO.fix 20 rfl (congrArg (λb=>AV.val (.bool b)) (decide_eq_false (show ¬ (c:Int)<0 by omega))) ?_
 refine ae ?_
 refine VO.cond rfl cW (wV rfl ?_)
 refine VO.read rfl [.slice (some ⟨b2,xK,none⟩) xs.length c3] rfl (cN hcc) (wV rfl ?_)
 refine ae ?_
 refine VS.aN rfl (decide_eq_false (show ¬ (c:Int)>=(xs.length:Int) by omega)) ?_
 refine ae ?_
 refine VO.cond rfl cW (wV rfl ?_)
 refine VO.read rfl [.slice (some ⟨b2,xK,none⟩) xs.length c3] rfl (cN hcc) (wV rfl ?_)
 refine ae ?_
 refine VO.cond rfl cW (wV rfl ?_)
 refine VO.read rfl [.bool s,.slice pp n cx,.bool tt,.slice y mm d] rfl (aC jl 0 _ ⟨[],rfl⟩) (wV rfl ?_)
 refine ae ?_
 refine VO.call rfl rfl (fk Tryz.func70) (λdh eU dQ=>(np _ x kk dh (hrt.kp (Kp.of (U:=UU) dQ)) aa).mono ?_)
 rintro o w2 ⟨r2,rfl,q2,bM⟩
 obtain⟨s2,p2,n2,c2,t2,y2,m2,d2,rfl⟩:=q2.form
 refine cP bM ?_
 intro gr _ bb2
 refine bV ?_;intro wz kz bz
 exact⟨_,rfl,q2.kp kz,bz⟩
set_option maxRecDepth 4000
def VE (_:World) (cs:List Value) (v:Value):Prop:=cs=[v]/\∃ p n c,v=.slice p n c
theorem db:fD VE 1 where
 kp:=λh _=>h
 len:=λh=>by rw[h.1];rfl
 ok:=λh=>by
  obtain⟨rfl,p,n,c,rfl⟩:=h
  rfl
theorem aE.nil' {α:Type} {E:World->List Value->α->Prop} {sz B:Nat} {t:TypeId} {w:World}:aE E sz t B w (.slice none 0 0) []:=.inl ⟨rfl,rfl⟩
set_option maxRecDepth 4000
abbrev zO:KC:=⟨UU,λ_=>True,λt=>Nat.beq t 38⟩
abbrev cxU (P:Program) (w:World) (N:Nat) (ad:List Nat) (hd:ad.Nodup) (ha:iH zO ad w):Cx:=yD P w N zO (λt=>Nat.beq t 23) table (λ_ _=>trivial) ad hd ha
theorem xM (w:World) (N:Nat) {ad:List Nat} {hd:ad.Nodup} {ha:iH zO ad w}:(cxU Tryz.prog w N ad hd ha).Ok:=eD
section
variable {F F':Fr} {H H':Hp} {w w1:World} {N:Nat} {l':List Oper} {Q:Exit->Act->World->Prop} {k:List It} {id:Nat} {ops:Array Oper}
theorem cxU_r {ad:List Nat} {hd:ad.Nodup} {ha:iH zO ad w1} (e:im (cxU Tryz.prog w1 N ad hd ha) ops 80 ops.toList F H=(l',F',H')) (h:aB (cxU Tryz.prog w1 N ad hd ha) none ops l' (VS (cxU Tryz.prog w1 N ad hd ha) Q k) F' H' w):VS (cxU Tryz.prog w1 N ad hd ha) Q (.code (.region id ops false)::k) F H w:=VS.region (xM _ _) (VO.run 80 e h)
end
section
variable {F F':Fr} {H H':Hp} {w w1:World} {N:Nat} {l':List Oper} {Q:Exit->Act->World->Prop} {k:List It} {id:Nat} {ops:Array Oper}
end
theorem bt {w:World} {g:Nat} {t t':TypeId} {a b:Array Value} (h:aL w g t a) (k:aL w g t' b):t=t':=by
 have:=(show w.heap[g]? =_ from h).symm.trans (show w.heap[g]? =_ from k)
 injection this with this
 injection this
theorem Bb {α:Type} {E:World->List Value->α->Prop} {w:World} {v:Value} {vs:List Value} {es:List α} (h:cj VE 1 w v vs) (hl:vs.length=es.length) (hg:∀ (i:Nat) (u:Value) (a:α),vs[i]? =some u->es[i]? =some a->E w [u] a):cj E 1 w v es:=by
 obtain⟨p,c,rfl,h1,h2,h3⟩:=h
 refine⟨p,c,by rw[hl],by rw[<-hl];exact h1,h2,λi a ha=> ?_⟩
 obtain⟨u,hu⟩:∃ u,vs[i]? =some u:=⟨_,List.getElem?_eq_getElem (by rw[hl];exact (List.getElem?_eq_some_iff.1 ha).1)⟩
 obtain⟨b,off,cs,hp,hc,hE⟩:=h3 i u hu
 obtain⟨rfl,-⟩:=hE
 exact⟨b,off,_,hp,hc,hg i u a hu ha⟩
theorem aE.az {α:Type} {E:World->List Value->α->Prop} {sz B:Nat} {t:TypeId} {w w':World} {v:Value} {es:List α} (hE:fD E sz) (h:aE E sz t B w v es) (hb:ax w w'):aE E sz t B w' v es:=h.kp hE (T:=λ_=>true) (aK.of hb) rfl
theorem pS {α:Type} {vs:List Value} {l:List α} {P:Value->α->Prop} {u:Value} {a:α} (h:∀ (i:Nat) (v:Value) (x:α),vs[i]? =some v->l[i]? =some x->P v x) (ha:l[vs.length]? =some a) (hu:P u a):∀ (i:Nat) (v:Value) (x:α),(vs++[u])[i]? =some v->l[i]? =some x->P v x:=λi v x hi hx=>by
 by_cases hil:i<vs.length
 ·rw[List.getElem?_append_left hil] at hi;exact h i v x hi hx
 ·rw[List.getElem?_append_right aa] at hi
  have:=(List.getElem?_eq_some_iff.1 hi).1
  rw[List.length_singleton] at this
  obtain rfl:i=vs.length:=by omega
  rw[Nat.sub_self] at hi
  cases hi
  rw[ha] at hx
  cases hx;exact hu
end
section
open Go.RowKit
section
variable {C:Cx} {F:Fr} {H:Hp} {w:World} {Q:Exit->Act->World->Prop} {k:List It}
end
structure Cb (w w':World):Prop where
 size:w.heap.size<=w'.heap.size
 gv:∀ (g:Nat) (o:Obj),w.heap[g]? =some o->(∀ cs t x,o≠Obj.cells cs t x)->w'.heap[g]? =some o
theorem Cb.but {w w':World} {ad:List Nat} (h:eJ ad w w') (hc:∀ g∈ad,∃ t cs,aL w g t cs):Cb w w':=⟨h.size,λg o hg hn=>(h.gv g (Array.getElem?_eq_some_iff.1 hg).1 (λq=>by
 obtain⟨t,cs,da⟩:=hc g q
 have:=da.symm.trans hg
 injection this with this
 exact hn _ _ _ this.symm)).trans hg⟩
section
variable {Fe:Fence} {C:Cx} {Q:Exit->Act->World->Prop} {k:List It} {F:Fr} {H:Hp} {w:World}
end
end
end Go.Proofs.YtlifeokjcgngjaaGreat
