/-BN of the proof,laid behind one another. -/
import Derived.Test.YtlifeokjcgngjaaGreatKChartBooks3
import Derived.OpenShut
import Derived.WideShapes
import Derived.ChangeArms
import Derived.ChangeSlices
import Derived.Lib.VarintBits
import Derived.RangeFuncNested
import Derived.RangeFuncLeaves
import Derived.OrdersIn
import Derived.TacticsIn
set_option linter.all false
set_option maxHeartbeats 64000000
set_option maxRecDepth 4000
namespace Go.Proofs.YtlifeokjcgngjaaGreat
section
open Go.RowKit
attribute [local irreducible] aE VS
theorem tB (w:World):Calls Tryz.prog 87 #[] w λe w'=>∃ r,e=.returned r/\aJ w' w.heap.size r 1/\ax w w':=by
 refine ai (C:=aY Tryz.prog w _) (args:=[]) Tryz.func87 aa Tryz.ntmps87 (cG aa) ?_;refine ag ?_;refine VO.cI aa aa (fk Tryz.func88) (λcV eG db=>Ly 1 cV ae ae) (λcV eG db w1 s1 p1 n1 c1 h1 bF fM _ bb1=>wV aa ?_);refine ag ?_;refine ck ?_;intro wz kz bz;exact⟨_,aa,(h1.kp kz).mono db.size,bz⟩
def Nl (s:Bool) (xs:List Nat) (t:Bool) (ys:List Nat):Bool:=eu s xs && (eu t ys && (decide (0<numOf t ys) && decide (Int.gcd (numOf s xs) (numOf t ys)=1)))
variable {t:Bool} {xs ys:List Nat}
theorem Qr {s:Bool} (h:Nl s xs t ys=false):rq s xs t ys=0:=by
 unfold rq JH
 split
 ·rename_i hc;cases h1:eu s xs with
  | false=>unfold numOf;rw[if_neg (by simp[h1])];simp
  | true=>
    cases h2:eu t ys with
    | false=>
      have:numOf t ys=0:=by unfold numOf;rw[if_neg (by simp[h2])]
      omega
    | true=>
      unfold Nl at h;rw[h1,h2,aU hc.1,aU hc.2] at h;cases h
 ·rfl
theorem rtB_inv {s:Bool} (h:Nl s xs t ys=true):eu s xs=true/\eu t ys=true/\0<numOf t ys/\Int.gcd (numOf s xs) (numOf t ys)=1:=by
 unfold Nl at h;simp only[Bool.and_eq_true,decide_eq_true_eq] at h;exact h
variable {v:Value} {w:World}
theorem gl.lim {s:Bool} (h:gl w v s xs):da xs:=by
 obtain⟨_,_,_,_,l⟩:=h;exact l
theorem Qs {s:Bool} (hv:fZ w v s xs t ys) (h:Nl s xs t ys=true):iE w v (rq s xs t ys):=by
 obtain⟨h1,h2,h3,h4⟩:=rtB_inv h;obtain⟨p,c,r,d,rfl,a1,a2⟩:=hv;obtain⟨e1,e2⟩:=tu ⟨h3,h4⟩;refine⟨s,p,_,c,t,r,_,d,aa,?_,?_⟩
 ·unfold rq;rw[e1];have l:=a1.lim;unfold numOf;rw[if_pos h1];obtain⟨c1,c2⟩:=canon l h1;show gl _ _ _ _;rw[<-c1,<-c2]
  assumption
 ·unfold rq;rw[e2];have l:=a2.lim;unfold numOf;rw[if_pos h2];obtain⟨c1,c2⟩:=canon l h2;show gl _ _ _ _;rw[<-c1,<-c2]
  assumption
theorem gl.in {s:Bool} {k:Nat} (h:gl w v s xs) (hk:xs.length<=k):cY w v (numOf s xs) k:=⟨s,xs,h,rfl,hk⟩
theorem uS (s t:Bool) (xs ys:List Nat) (v:Value) (w:World) (h:fZ w v s xs t ys) (hx:xs.length<=536870912) (hy:ys.length<=536870912):
  Calls Tryz.prog 36 #[v] w λe w'=>e=.returned (.bool (Nl s xs t ys))/\ax w w':=by
 obtain⟨p,c,r,d,rfl,h1,h2⟩:=h;refine ai (C:=aY Tryz.prog w _) (args:=[_]) Tryz.func36 aa Tryz.ntmps36 (cG aa) ?_;refine ag ?_;refine VO.call aa aa (fk Tryz.func83) (λcV eG db=>(tp s xs _ cV (h1.aA db)).mono ?_);rintro e w1 ⟨rfl,bF⟩;cases q1:eu s xs
 ·refine dB bF ?_;intro fM _ bb1;refine ck ?_;intro wz kz bz;exact⟨by simp[Nl,q1,mj],bz⟩
 refine dB bF ?_;intro fM _ bb1;refine VO.call aa aa (fk Tryz.func83) (λeD gO fG=>(tp t ys _ eD (h2.aA fG)).mono ?_);rintro e w2 ⟨rfl,cJ⟩;cases q2:eu t ys
 ·refine dB cJ ?_;intro jH _ bb2;refine ck ?_;intro wz kz bz;exact⟨by simp[Nl,q1,q2,mj],bz⟩
 refine dB cJ ?_;intro jH _ bb2;refine VO.call aa aa (fk Tryz.func84) (λiG iK jm=>(rX _ (numOf t ys) _ iG ((h2.in (aP _)).aA jm)).mono ?_);rintro e w3 ⟨rfl,ee⟩;by_cases q3:0<numOf t ys
 ·rw[fD q3];refine dB ee ?_;intro nH _ bb3;refine VO.cI aa aa (fk Tryz.func86) (λmB pE pG=>GQ _ _ (numOf s xs) (numOf t ys) _ _ mB ((h1.in (aP _)).aA pG) ((h2.in (aP _)).aA pG) hx hy) (λmB pE pG w4 s4 p4 n4 c4 h4 jJ sO _ Ej=>wV aa ?_);refine ag ?_;refine VO.cI aa aa (fk Tryz.func87) (λmP oV og=>tB mP) (λmP oV og w5 s5 p5 n5 c5 h5 lL tw _ Ek=>wV aa ?_);refine ag ?_
  have hg:Sz (Int.gcd (numOf s xs) (numOf t ys):Int) ys.length:=by
   obtain⟨_,_,_,_,l2⟩:=h2;refine Sz.le (Y:=numOf t ys) (zQ l2 (aP _)) ?_;rw[xd,<-xd (Int.gcd (numOf s xs) (numOf t ys))];have:=Int.gcd_dvd_right (numOf s xs) (numOf t ys);have:=Int.natAbs_dvd_natAbs.2 this;exact Nat.le_of_dvd ae this
  refine VO.call aa aa (fk Ch) (λzX zY Em=>(rC _ _ (Int.gcd (numOf s xs) (numOf t ys):Int) 1 _ 1 zX ((h4.kp (oV.aG ((Kp.of lL).aG zY))).in hg) ((h5.kp zY).in (Sz.small cW)) ae ae).mono ?_);rintro e w6 ⟨rfl,CR⟩;by_cases q4:Int.gcd (numOf s xs) (numOf t ys)=1
  ·rw[show ((Int.gcd (numOf s xs) (numOf t ys):Int)-1).sign=0 by rw[q4];rfl];refine dB CR ?_;intro En _ bb6;refine ck ?_;intro wz kz bz;exact⟨by simp[Nl,q1,q2,q3,q4,mj],bz⟩
  ·have hne:(((Int.gcd (numOf s xs) (numOf t ys):Int)-1).sign == 0)=false:=by
    rw[lZ];intro e;have:=Int.sign_eq_zero_iff_zero.1 e;omega
   refine dB CR ?_;intro En _ bb6;refine ck ?_;intro wz kz bz;exact⟨by simp only[Nl,q1,q2,q3,q4,mj,Bool.true_and,decide_true,decide_false,hne],bz⟩
 ·have q4:(numOf t ys).sign=0\/(numOf t ys).sign= -1:=by
   rcases Int.lt_trichotomy (numOf t ys) 0 with e|e|e
   ·exact .inr (sign_neg e)
   ·rw[e];exact .inl aa
   ·exact absurd e q3
  rcases q4 with q4|q4
  all_goals
   rw[q4];refine dB ee ?_;intro nH _ bb3;refine ck ?_;intro wz kz bz;exact⟨by simp[Nl,q1,q2,q3,mj],bz⟩
theorem iE.zero {p:Option Addr} {n c:Nat} {s:Bool} (h:cX w (.agg #[.bool s,.slice p n c]) 1):iE w (.agg #[.bool false,.slice none 0 0,.bool s,.slice p n c]) 0:=⟨_,_,_,_,_,_,_,_,rfl,cX.zero _,h⟩
theorem eb (v:Value) (q:Rat) (k:Nat) (w:World) (h:dk w v q k) (hk:k<=536870912):
  Calls Tryz.prog 90 #[v] w λe w'=>∃ r,e=.returned r/\iE w' r q/\ax w w':=by
 obtain⟨s,xs,t,ys,sx,rfl,hx,hy⟩:=h;have hraw':=sx;obtain⟨p,c,r,d,rfl,_,_⟩:=sx;refine ai (C:=aY Tryz.prog w _) (args:=[_]) qO aa Tryz.ntmps90 (cG aa) ?_;refine ag ?_;refine VO.call aa aa (fk Tryz.func36) (λcV eG db=>(uS s t xs ys _ cV (hraw'.kp eG) ae ae).mono ?_);rintro e w1 ⟨rfl,bF⟩;cases hq:Nl s xs t ys
 ·refine dB bF ?_;intro fM _ bb1;refine VO.cI aa aa (fk Tryz.func87) (λeD gO fG=>tB eD) (λeD gO fG w2 s2 p2 n2 c2 h2 cJ jH _ bb2=>wV aa ?_);refine ag ?_;refine ck ?_;intro wz kz bz;exact⟨_,aa,by rw[Qr hq];exact iE.zero (h2.kp kz).rd,bz⟩
 ·refine dB bF ?_;intro fM _ bb1;refine ck ?_;intro wz kz bz;exact⟨_,aa,(Qs hraw' hq).kp (fM.aG kz),bz⟩
variable {X Y:Int}
theorem JQ {k:Nat} (hY:Sz Y k) (h:Y≠0):Sz (Int.gcd X Y:Int) k:=by
 refine Sz.le (Y:=Y) hY ?_;rw[xd,<-xd (Int.gcd X Y)];exact Nat.le_of_dvd ae (Int.natAbs_dvd_natAbs.2 (Int.gcd_dvd_right X Y))
theorem fS {w':World} {e:Ending} (h:zM w w' X Y e) (hY:Y≠0):∃ v u,e=.returned (.tuple #[v,u,.int .i64 0])/\aJ w' w.heap.size v (X.fdiv Y)/\aJ w' w.heap.size u (X.fmod Y):=by
 rcases h with ⟨h0,_⟩|⟨_,h⟩
 ·exact absurd h0 hY
 ·exact h
theorem xE (v u:Value) (X Y:Int) (j k:Nat) (w:World) (hv:cY w v X j) (hu:cY w u Y k) (hj:j<=268435456) (hk:k<=268435456) (hY:Y≠0):
  Calls Tryz.prog 149 #[v,u] w λe w'=>∃ r,e=.returned r/\cA w' w.heap.size r (Rat.divInt X Y)/\ax w w':=by
 obtain⟨s,p,n,c,rfl⟩:=hv.form;obtain⟨t,r,m,d,rfl⟩:=hu.form;refine ai (C:=aY Tryz.prog w _) (args:=[_,_]) Tryz.func149 aa Tryz.ntmps149 (cG aa) ?_;refine ag ?_;refine VO.cI aa aa (fk Tryz.func86) (λcV eG db=>GQ _ _ X Y j k cV (hv.kp eG) (hu.kp eG) ae ae) (λcV eG db w1 s1 p1 n1 c1 h1 bF fM _ bb1=>wV aa ?_);refine ag ?_;refine VO.call aa aa (fk Tryz.func84) (λeD gO fG=>(rX _ Y k eD (hu.aA fG)).mono ?_);rintro e w2 ⟨rfl,cJ⟩;have Qt:Sz (Int.gcd X Y:Int) k:=JQ hu.len hY
 have PQ:(Int.gcd X Y:Int)≠0:=by
  intro e;have:=(KQ.1 (show Int.gcd X Y=0 by omega)).2;exact hY this
 rcases KT hY with q|q
 ·rw[sign_neg q];obtain⟨l1,l2⟩:=low_neg (X:=X) q;refine dB cJ ?_;intro jH _ bb2;refine VO.cI aa aa (fk Tryz.func165) (λiG iK jm=>GP _ (Int.gcd X Y:Int) k iG ((h1.kp (jH.aG iK)).in Qt) ae) (λiG iK jm w3 s3 p3 n3 c3 h3 ee nH _ bb3=>wV aa ?_);refine ag ?_;refine VO.call aa aa (fk Tryz.func208) (λmB pE pG=>(nD _ _ X (-(Int.gcd X Y:Int)) j k mB (hv.aA pG) ((h3.kp pE).in Qt.neg) ae ae).mono ?_);rintro e w4 ⟨hd4,jJ⟩;obtain⟨v4,u4,rfl,h4,h4'⟩:=fS hd4 ae;obtain⟨s4,p4,n4,c4,rfl⟩:=h4.form;obtain⟨t4,r4,m4,d4,rfl⟩:=h4'.form;refine dB jJ ?_;intro sO _ Ej;refine VO.call aa aa (fk Tryz.func208) (λmP oV og=>(nD _ _ Y (-(Int.gcd X Y:Int)) k k mP (hu.aA og) ((h3.kp (sO.aG oV)).in Qt.neg) ae ae).mono ?_);rintro e w5 ⟨hd5,lL⟩;obtain⟨v5,u5,rfl,h5,h5'⟩:=fS hd5 ae;obtain⟨s5,p5,n5,c5,rfl⟩:=h5.form;obtain⟨t5,r5,m5,d5,rfl⟩:=h5'.form;refine dB lL ?_;intro tw _ Ek;refine ck ?_;intro wz kz bz;exact⟨_,aa,⟨_,_,_,_,_,_,_,_,aa,aJ.cast ((h4.kp (tw.aG kz)).mono pG.size) l1,aJ.cast ((h5.kp kz).mono og.size) l2⟩,bz⟩
 ·rw[fD q];obtain⟨l1,l2⟩:=yz (X:=X) q;refine dB cJ ?_;intro jH _ bb2;refine VO.call aa aa (fk Tryz.func208) (λmB pE pG=>(nD _ _ X (Int.gcd X Y:Int) j k mB (hv.aA pG) ((h1.kp (jH.aG pE)).in Qt) ae ae).mono ?_);rintro e w4 ⟨hd4,jJ⟩;obtain⟨v4,u4,rfl,h4,h4'⟩:=fS hd4 ae;obtain⟨s4,p4,n4,c4,rfl⟩:=h4.form;obtain⟨t4,r4,m4,d4,rfl⟩:=h4'.form;refine dB jJ ?_;intro sO _ Ej;refine VO.call aa aa (fk Tryz.func208) (λmP oV og=>(nD _ _ Y (Int.gcd X Y:Int) k k mP (hu.aA og) ((h1.kp (jH.aG (sO.aG oV))).in Qt) ae ae).mono ?_);rintro e w5 ⟨hd5,lL⟩;obtain⟨v5,u5,rfl,h5,h5'⟩:=fS hd5 ae;obtain⟨s5,p5,n5,c5,rfl⟩:=h5.form;obtain⟨t5,r5,m5,d5,rfl⟩:=h5'.form;refine dB lL ?_;intro tw _ Ek;refine ck ?_;intro wz kz bz;exact⟨_,aa,⟨_,_,_,_,_,_,_,_,aa,aJ.cast ((h4.kp (tw.aG kz)).mono pG.size) l1,aJ.cast ((h5.kp kz).mono og.size) l2⟩,bz⟩
end
section
open Go.RowKit
attribute [local irreducible] aE VS
theorem Eu (q r:Rat):q+r=Rat.divInt (q.num*r.den+r.num*q.den) ((q.den:Int)*r.den):=by
 rw[Rat.add_def',<-Rat.divInt_ofNat];simp
theorem add_same {q r:Rat} (h:(q.den:Int)=r.den):q+r=Rat.divInt (q.num+r.num) q.den:=by
 rw[Eu,<-h];have hd:(q.den:Int)≠0:=by have:=q.den_nz;omega
 rw[<-Int.add_mul,Rat.divInt_mul_right hd]
theorem wv {X Y:Int} {k l:Nat} (hX:Sz X k) (hY:Sz Y l) (h:Y≠0):Sz (Rat.divInt X Y).num k/\Sz ((Rat.divInt X Y).den:Int) l:=by
 constructor
 ·refine Sz.le hX ?_;rw[Rat.num_divInt];have h1:(Y.sign*X/(Y.gcd X:Int)).natAbs<=(Y.sign*X).natAbs:=Int.natAbs_ediv_le_natAbs _ _;rw[Int.natAbs_mul] at h1
  have h2:Y.sign.natAbs=1:=by
   rcases KT h with e|e
   ·rw[sign_neg e];rfl
   ·rw[fD e];rfl
  rw[h2,xj] at h1;exact h1
 ·refine Sz.le hY ?_;rw[Rat.den_divInt,if_neg h,xd];exact Fm _ _
theorem lR.add {q r:Rat} {k l:Nat} (hq:lR q k) (hr:lR r l):lR (q+r) (k+l+1):=by
 rw[Eu];have hd:(q.den:Int)*r.den≠0:=Int.mul_ne_zero (by have:=q.den_nz;omega) (by have:=r.den_nz;omega);obtain⟨h1,h2⟩:=wv (Sz.add (hq.1.mul hr.2) (hr.1.mul hq.2) (m:=k+l) ae ae) (hq.2.mul hr.2) hd;exact⟨h1,h2.mono ae⟩
theorem lR.neg {q:Rat} {k:Nat} (hq:lR q k):lR (-q) k:=⟨by rw[Rat.neg_num];exact hq.1.neg,by rw[Rat.neg_den];exact hq.2⟩
theorem lR.sub {q r:Rat} {k l:Nat} (hq:lR q k) (hr:lR r l):lR (q-r) (k+l+1):=by rw[Rat.sub_eq_add_neg];exact hq.add hr.neg
def Ev (q r:Rat):Int:=if q<r then-1 else if q=r then 0 else 1
theorem Hk (q r:Rat):(q.num*r.den-r.num*q.den).sign=Ev q r:=by
 unfold Ev;by_cases h1:q<r
 ·rw[if_pos h1];exact sign_neg (by have:=(Rat.lt_iff q r).1 h1;omega)
 ·rw[if_neg h1];by_cases h2:q=r
  ·subst h2;rw[if_pos rfl,Int.sub_self];rfl
  ·rw[if_neg h2];refine fD ?_;have a:=mt (Rat.lt_iff q r).2 h1;have b:=mt Rat.eq_iff_mul_eq_mul.2 h2;omega
theorem Nn (q:Rat):q.num.sign=Ev q 0:=by
 have:=Hk q 0;simpa using this
def Hl (Y:Int):Int:=if Y=0 then 20 else 0
theorem jD (n:Int) (w:World) (h0: -9223372036854775808<=n) (h1:n<=9223372036854775807):
  Calls Tryz.prog 37 #[.int .i64 n] w λe w'=>∃ r,e=.returned r/\cA w' w.heap.size r (n:Rat)/\ax w w':=by
 refine ai (C:=aY Tryz.prog w _) (args:=[_]) Ci aa Tryz.ntmps37 (cG aa) ?_;refine ag ?_;refine VO.cI aa aa (fk Tryz.func88) (λcV eG db=>Ly n cV h0 h1) (λcV eG db w1 s1 p1 n1 c1 q1 bF fM _ bb1=>wV aa ?_);refine ag ?_;refine VO.cI aa aa (fk Tryz.func87) (λeD gO fG=>tB eD) (λeD gO fG w2 s2 p2 n2 c2 q2 cJ jH _ bb2=>wV aa ?_);refine ag ?_;refine ck ?_;intro wz kz bz;exact⟨_,aa,⟨_,_,_,_,_,_,_,_,aa,(q1.kp (jH.aG kz)).mono db.size,(q2.kp kz).mono fG.size⟩,bz⟩
theorem wx (v u:Value) (q r:Rat) (k l:Nat) (w:World) (hv:iE w v q) (hu:iE w u r) (hq:lR q k) (hr:lR r l) (hk:k<=67108864) (hl:l<=67108864):
  Calls Tryz.prog 89 #[v,u] w λe w'=>∃ x,e=.returned x/\cA w' w.heap.size x (q+r)/\ax w w':=by
 obtain⟨s,p,n,c,t,y,m,d,rfl⟩:=hv.form;obtain⟨s',p',n',c',t',y',m',d',rfl⟩:=hu.form;obtain⟨v1,v2⟩:=hv.parts;obtain⟨u1,u2⟩:=hu.parts;have dq:(q.den:Int)≠0:=by have:=q.den_nz;omega
 have dr:(r.den:Int)≠0:=by have:=r.den_nz;omega
 refine ai (C:=aY Tryz.prog w _) (args:=[_,_]) Tryz.func89 aa Tryz.ntmps89 (cG aa) ?_;refine ag ?_;refine VO.call aa aa (fk Ch) (λcV eG db=>(rC _ _ (q.den:Int) r.den k l cV ((v2.aA db).to hq.2) ((u2.aA db).to hr.2) ae ae).mono ?_);rintro e w1 ⟨rfl,bF⟩;by_cases hd:(q.den:Int)=r.den
 ·rw[show ((q.den:Int)-r.den).sign=0 by rw[hd,Int.sub_self];rfl];refine dB bF ?_;intro fM _ bb1;refine VO.cI aa aa (fk Tryz.func150) (λeD gO fG=>GO _ _ q.num r.num k l eD ((v1.aA fG).to hq.1) ((u1.aA fG).to hr.1) ae ae) (λeD gO fG w2 s2 p2 n2 c2 q2 cJ jH _ bb2=>wV aa ?_);refine ag ?_;refine VO.cR aa aa (fk Tryz.func149) (λiG iK jm=>xE _ _ (q.num+r.num) q.den (k+l+1) k iG ((q2.kp iK).in (Sz.add hq.1 hr.1 ae ae)) ((v2.aA jm).to hq.2) ae ae dq) (λiG iK jm w3 s3 p3 n3 c3 t3 y3 m3 d3 q3 ee nH _ bb3=>wV aa ?_);refine ag ?_;refine ck ?_;intro wz kz bz;exact⟨_,aa,cA.cast ((q3.kp kz).mono jm.size) (add_same hd).symm,bz⟩
 ·have hs:((((q.den:Int)-r.den).sign == 0))=false:=by
   rw[lZ];intro e;have:=Int.sign_eq_zero_iff_zero.1 e;omega
  rcases KT (show (q.den:Int)-r.den≠0 by omega) with e|e
  all_goals
   first|rw[sign_neg e]|rw[fD e]
   refine dB bF ?_;intro fM _ bb1;refine VO.cI aa aa (fk Ce) (λeD gO fG=>rB _ _ q.num r.den k l eD ((v1.aA fG).to hq.1) ((u2.aA fG).to hr.2) ae ae) (λeD gO fG w2 s2 p2 n2 c2 q2 cJ jH _ bb2=>wV aa ?_);refine ag ?_;refine VO.cI aa aa (fk Ce) (λiG iK jm=>rB _ _ r.num q.den l k iG ((u1.aA jm).to hr.1) ((v2.aA jm).to hq.2) ae ae) (λiG iK jm w3 s3 p3 n3 c3 q3 ee nH _ bb3=>wV aa ?_);refine ag ?_;refine VO.cI aa aa (fk Tryz.func150) (λmB pE pG=>GO _ _ (q.num*r.den) (r.num*q.den) (k+l) (l+k) mB ((q2.kp (nH.aG pE)).in (hq.1.mul hr.2)) ((q3.kp pE).in (hr.1.mul hq.2)) ae ae) (λmB pE pG w4 s4 p4 n4 c4 q4 jJ sO _ Ej=>wV aa ?_);refine ag ?_;refine VO.cI aa aa (fk Ce) (λmP oV og=>rB _ _ q.den r.den k l mP ((v2.aA og).to hq.2) ((u2.aA og).to hr.2) ae ae) (λmP oV og w5 s5 p5 n5 c5 q5 lL tw _ Ek=>wV aa ?_);refine ag ?_;refine VO.cR aa aa (fk Tryz.func149) (λzX zY Em=>xE _ _ (q.num*r.den+r.num*q.den) ((q.den:Int)*r.den) (k+l+1) (k+l) zX ((q4.kp (tw.aG zY)).in (Sz.add (hq.1.mul hr.2) (hr.1.mul hq.2) ae ae)) ((q5.kp zY).in (hq.2.mul hr.2)) ae ae (Int.mul_ne_zero dq dr)) (λzX zY Em w6 s6 p6 n6 c6 t6 y6 m6 d6 q6 CR En _ bb6=>wV aa ?_);refine ag ?_;refine ck ?_;intro wz kz bz;exact⟨_,aa,cA.cast ((q6.kp kz).mono Em.size) (Eu q r).symm,bz⟩
end
section
open Go.RowKit
attribute [local irreducible] aE VS
def uT (k:Nat):Nat:=max k 1
theorem dk.Np {w:World} {v:Value} {q:Rat} {k:Nat} (h:dk w v q k):lR q (uT k):=by
 obtain⟨s,xs,t,ys,h1,h2,h3,h4⟩:=h;exact dk.sz (k:=uT k) ⟨s,xs,t,ys,h1,h2,by unfold uT;omega,by unfold uT;omega⟩ (by unfold uT;omega)
theorem tD (v u:Value) (q r:Rat) (k l:Nat) (w:World) (hv:dk w v q k) (hu:dk w u r l) (hk:k<=67108864) (hl:l<=67108864):
  Calls Tryz.prog 38 #[v,u] w λe w'=>∃ x,e=.returned x/\cA w' w.heap.size x (q+r)/\ax w w':=by
 obtain⟨s,p,n,c,t,y,m,d,rfl⟩:=hv.form;obtain⟨s',p',n',c',t',y',m',d',rfl⟩:=hu.form;refine ai (C:=aY Tryz.prog w _) (args:=[_,_]) Tryz.func38 aa Tryz.ntmps38 (cG aa) ?_;refine ag ?_;refine VO.cR aa aa (fk qO) (λcV eG db=>eb _ q k cV (hv.kp eG) ae) (λcV eG db w1 s1 p1 n1 c1 t1 y1 m1 d1 q1 bF fM _ bb1=>wV aa ?_);refine ag ?_;refine VO.cR aa aa (fk qO) (λeD gO fG=>eb _ r l eD (hu.kp (fM.aG gO)) ae) (λeD gO fG w2 s2 p2 n2 c2 t2 y2 m2 d2 q2 cJ jH _ bb2=>wV aa ?_);refine ag ?_;refine VO.cR aa aa (fk Tryz.func89) (λiG iK jm=>wx _ _ q r _ _ iG (q1.kp (jH.aG iK)) (q2.kp iK) hv.Np hu.Np (by unfold uT;omega) (by unfold uT;omega)) (λiG iK jm w3 s3 p3 n3 c3 t3 y3 m3 d3 q3 ee nH _ bb3=>wV aa ?_);refine ag ?_;refine ck ?_;intro wz kz bz;exact⟨_,aa,(q3.kp kz).mono jm.size,bz⟩
theorem JR (v:Value) (q:Rat) (k:Nat) (w:World) (hv:dk w v q k) (hk:k<=536870912):
  Calls Tryz.prog 99 #[v] w λe w'=>∃ x,e=.returned x/\cA w' w.heap.size x (-q)/\ax w w':=by
 obtain⟨s,p,n,c,t,y,m,d,rfl⟩:=hv.form;refine ai (C:=aY Tryz.prog w _) (args:=[_]) Tryz.func99 aa Tryz.ntmps99 (cG aa) ?_;refine ag ?_;refine VO.cR aa aa (fk qO) (λcV eG db=>eb _ q k cV (hv.kp eG) hk) (λcV eG db w1 s1 p1 n1 c1 t1 y1 m1 d1 q1 bF fM _ bb1=>wV aa ?_);refine ag ?_;obtain⟨a1,a2⟩:=q1.parts;refine VO.cI aa aa (fk Tryz.func165) (λeD gO fG=>GP _ q.num _ eD ((a1.kp gO).to hv.Np.1) (by unfold uT;omega)) (λeD gO fG w2 s2 p2 n2 c2 q2 cJ jH _ bb2=>wV aa ?_);refine ag ?_;refine VO.cI aa aa (fk Tryz.func166) (λiG iK jm=>PM _ q.den _ iG ((a2.kp (jH.aG iK)).to hv.Np.2) (by unfold uT;omega)) (λiG iK jm w3 s3 p3 n3 c3 q3 ee nH _ bb3=>wV aa ?_);refine ag ?_;refine ck ?_;intro wz kz bz;exact⟨_,aa,⟨_,_,_,_,_,_,_,_,aa,aJ.cast ((q2.kp (nH.aG kz)).mono fG.size) (Rat.neg_num q).symm,aJ.cast ((q3.kp kz).mono jm.size) (by rw[Rat.neg_den,xd])⟩,bz⟩
theorem Ae (v u:Value) (q r:Rat) (k l:Nat) (w:World) (hv:dk w v q k) (hu:dk w u r l) (hk:k<=67108864) (hl:l<=67108864):
  Calls Tryz.prog 42 #[v,u] w λe w'=>∃ x,e=.returned x/\cA w' w.heap.size x (q-r)/\ax w w':=by
 obtain⟨s,p,n,c,t,y,m,d,rfl⟩:=hv.form;obtain⟨s',p',n',c',t',y',m',d',rfl⟩:=hu.form;refine ai (C:=aY Tryz.prog w _) (args:=[_,_]) Tryz.func42 aa Tryz.ntmps42 (cG aa) ?_;refine ag ?_;refine VO.cR aa aa (fk qO) (λcV eG db=>eb _ q k cV (hv.kp eG) ae) (λcV eG db w1 s1 p1 n1 c1 t1 y1 m1 d1 q1 bF fM _ bb1=>wV aa ?_);refine ag ?_;refine VO.cR aa aa (fk Tryz.func99) (λeD gO fG=>JR _ r l eD (hu.kp (fM.aG gO)) ae) (λeD gO fG w2 s2 p2 n2 c2 t2 y2 m2 d2 q2 cJ jH _ bb2=>wV aa ?_);refine ag ?_;refine VO.cR aa aa (fk Tryz.func89) (λiG iK jm=>wx _ _ q (-r) _ _ iG (q1.kp (jH.aG iK)) (q2.kp iK).rd hv.Np hu.Np.neg (by unfold uT;omega) (by unfold uT;omega)) (λiG iK jm w3 s3 p3 n3 c3 t3 y3 m3 d3 q3 ee nH _ bb3=>wV aa ?_);refine ag ?_;refine ck ?_;intro wz kz bz;exact⟨_,aa,cA.cast ((q3.kp kz).mono jm.size) (Rat.sub_eq_add_neg q r).symm,bz⟩
theorem Hm (v:Value) (q:Rat) (k:Nat) (w:World) (hv:dk w v q k) (hk:k<=536870912):
  Calls Tryz.prog 57 #[v] w λe w'=>e=.returned (.int .i64 (Ev q 0))/\ax w w':=by
 obtain⟨s,p,n,c,t,y,m,d,rfl⟩:=hv.form;refine ai (C:=aY Tryz.prog w _) (args:=[_]) Tryz.func57 aa Tryz.ntmps57 (cG aa) ?_;refine ag ?_;refine VO.cR aa aa (fk qO) (λcV eG db=>eb _ q k cV (hv.kp eG) hk) (λcV eG db w1 s1 p1 n1 c1 t1 y1 m1 d1 q1 bF fM _ bb1=>wV aa ?_);refine ag ?_;refine VO.call aa aa (fk Tryz.func84) (λeD gO fG=>(rX _ q.num _ eD ((q1.parts.1.kp gO).to hv.Np.1)).mono ?_);rintro e w2 ⟨rfl,cJ⟩;rw[Nn];refine dB cJ ?_;intro jH _ bb2;refine ck ?_;intro wz kz bz;exact⟨aa,bz⟩
theorem Af (v u:Value) (q r:Rat) (k l:Nat) (w:World) (hv:dk w v q k) (hu:dk w u r l) (hk:k<=67108864) (hl:l<=67108864):
  Calls Tryz.prog 43 #[v,u] w λe w'=>e=.returned (.int .i64 (Ev q r))/\ax w w':=by
 obtain⟨s,p,n,c,t,y,m,d,rfl⟩:=hv.form;obtain⟨s',p',n',c',t',y',m',d',rfl⟩:=hu.form;have zq:=hv.Np;have zr:=hu.Np;have uk:uT k<=67108864:=by unfold uT;omega
 have ul:uT l<=67108864:=by unfold uT;omega
 refine ai (C:=aY Tryz.prog w _) (args:=[_,_]) Tryz.func43 aa Tryz.ntmps43 (cG aa) ?_;refine ag ?_;refine VO.cR aa aa (fk qO) (λcV eG db=>eb _ q k cV (hv.kp eG) ae) (λcV eG db w1 s1 p1 n1 c1 t1 y1 m1 d1 q1 bF fM _ bb1=>wV aa ?_);refine ag ?_;refine VO.cR aa aa (fk qO) (λeD gO fG=>eb _ r l eD (hu.kp (fM.aG gO)) ae) (λeD gO fG w2 s2 p2 n2 c2 t2 y2 m2 d2 q2 cJ jH _ bb2=>wV aa ?_);refine ag ?_;obtain⟨a1,a2⟩:=q1.parts;obtain⟨b1,b2⟩:=q2.parts;refine VO.cI aa aa (fk Ce) (λiG iK jm=>rB _ _ q.num r.den _ _ iG ((a1.kp (jH.aG iK)).to zq.1) ((b2.kp iK).to zr.2) ae ae) (λiG iK jm w3 s3 p3 n3 c3 q3 ee nH _ bb3=>wV aa ?_);refine ag ?_;refine VO.cI aa aa (fk Ce) (λmB pE pG=>rB _ _ r.num q.den _ _ mB ((b1.kp (nH.aG pE)).to zr.1) ((a2.kp (jH.aG (nH.aG pE))).to zq.2) ae ae) (λmB pE pG w4 s4 p4 n4 c4 q4 jJ sO _ Ej=>wV aa ?_);refine ag ?_;refine VO.call aa aa (fk Ch) (λmP oV og=>(rC _ _ (q.num*r.den) (r.num*q.den) _ _ mP ((q3.kp (sO.aG oV)).in (zq.1.mul zr.2)) ((q4.kp oV).in (zr.1.mul zq.2)) ae ae).mono ?_);rintro e w5 ⟨rfl,lL⟩;rw[Hk];refine dB lL ?_;intro tw _ Ek;refine ck ?_;intro wz kz bz;exact⟨aa,bz⟩
theorem rG (a b:Int):(a=b/\(a-b).sign=0)\/(a≠b/\((a-b).sign=1\/(a-b).sign= -1)):=by
 rcases Int.lt_trichotomy a b with e|e|e
 ·exact .inr ⟨ae,.inr (sign_neg ae)⟩
 ·exact .inl ⟨e,by rw[e,Int.sub_self];rfl⟩
 ·exact .inr ⟨ae,.inl (fD ae)⟩
theorem Hn (v u:Value) (q r:Rat) (k l:Nat) (w:World) (hv:dk w v q k) (hu:dk w u r l) (hk:k<=67108864) (hl:l<=67108864):
  Calls Tryz.prog 81 #[v,u] w λe w'=>e=.returned (.bool (decide (q=r)))/\ax w w':=by
 obtain⟨s,p,n,c,t,y,m,d,rfl⟩:=hv.form;obtain⟨s',p',n',c',t',y',m',d',rfl⟩:=hu.form;have zq:=hv.Np;have zr:=hu.Np;have uk:uT k<=67108864:=by unfold uT;omega
 have ul:uT l<=67108864:=by unfold uT;omega
 refine ai (C:=aY Tryz.prog w _) (args:=[_,_]) Tryz.func81 aa Tryz.ntmps81 (cG aa) ?_;refine ag ?_;refine VO.cR aa aa (fk qO) (λcV eG db=>eb _ q k cV (hv.kp eG) ae) (λcV eG db w1 s1 p1 n1 c1 t1 y1 m1 d1 q1 bF fM _ bb1=>wV aa ?_);refine ag ?_;refine VO.cR aa aa (fk qO) (λeD gO fG=>eb _ r l eD (hu.kp (fM.aG gO)) ae) (λeD gO fG w2 s2 p2 n2 c2 t2 y2 m2 d2 q2 cJ jH _ bb2=>wV aa ?_);refine ag ?_;obtain⟨a1,a2⟩:=q1.parts;obtain⟨b1,b2⟩:=q2.parts;refine VO.call aa aa (fk Ch) (λiG iK jm=>(rC _ _ q.num r.num _ _ iG ((a1.kp (jH.aG iK)).to zq.1) ((b1.kp iK).to zr.1) ae ae).mono ?_);rintro e w3 ⟨rfl,ee⟩;rcases rG q.num r.num with ⟨hn,e⟩|⟨hn,e|e⟩
 ·rw[e];refine dB ee ?_;intro nH _ bb3;refine VO.call aa aa (fk Ch) (λmB pE pG=>(rC _ _ (q.den:Int) r.den _ _ mB ((a2.kp (jH.aG (nH.aG pE))).to zq.2) ((b2.kp (nH.aG pE)).to zr.2) ae ae).mono ?_);rintro e w4 ⟨rfl,jJ⟩;rcases rG (q.den:Int) r.den with ⟨hd,e⟩|⟨hd,e|e⟩
  all_goals
   rw[e];refine dB jJ ?_;intro sO _ Ej;refine ck ?_;intro wz kz bz
  ·exact⟨by rw[aU (Rat.ext hn ae)];rfl,bz⟩
  ·exact⟨by rw[aR (λe=>hd (by rw[e]))];rfl,bz⟩
  ·exact⟨by rw[aR (λe=>hd (by rw[e]))];rfl,bz⟩
 ·rw[e];refine dB ee ?_;intro nH _ bb3;refine ck ?_;intro wz kz bz;exact⟨by rw[aR (λe=>hn (by rw[e]))];rfl,bz⟩
 ·rw[e];refine dB ee ?_;intro nH _ bb3;refine ck ?_;intro wz kz bz;exact⟨by rw[aR (λe=>hn (by rw[e]))];rfl,bz⟩
end
section
open Go.RowKit
attribute [local irreducible] aE VS
def tE (w:World) (v:Value) (qs:List Rat) (k:Nat):Prop:=
 ∃ p c,v=.slice p qs.length c/\qs.length<=c/\c<=maxLen/\∀ i q,qs[i]? =some q->∃ b off s p' n c' t r m d,p=some ⟨b,off,none⟩/\
   (∀ j u,[Value.bool s,.slice p' n c',.bool t,.slice r m d][j]? =some u->w.cell? ⟨b,off+i*4+j,none⟩=some u)/\dk w (.agg #[.bool s,.slice p' n c',.bool t,.slice r m d]) q k
variable {qs:List Rat} {w:World}
theorem tE.form {v:Value} {k:Nat} (h:tE w v qs k):∃ p c,v=.slice p qs.length c/\qs.length<=c/\c<=maxLen:=by
 obtain⟨p,c,hv,h1,h2,_⟩:=h;exact⟨p,c,hv,h1,h2⟩
variable {i:Nat}
theorem tE.at {p:Option Addr} {n c:Nat} {k:Nat} {q:Rat} (h:tE w (.slice p n c) qs k) (hq:qs[i]? =some q):∃ b off s p' n' c' t r m d,p=some ⟨b,off,none⟩/\
  (∀ j u,[Value.bool s,.slice p' n' c',.bool t,.slice r m d][j]? =some u->w.cell? ⟨b,off+i*4+j,none⟩=some u)/\dk w (.agg #[.bool s,.slice p' n' c',.bool t,.slice r m d]) q k:=by
 obtain⟨p',c',hv,h1,h2,h3⟩:=h;cases hv;exact h3 i q hq
theorem bl (h:i<9223372036854775807):IntKind.i64.wrap ((i:Int)+1)=((i+1:Nat):Int):=by
 rw[bQ _ ae];omega
def eH (qs:List Rat):Rat:=qs.foldl (·+ ·) 0
theorem fj {α:Type} {l:List α} {x:α} (h:l[i]? =some x):l.take (i+1)=l.take i++[x]:=by
 obtain⟨hi,rfl⟩:=bd.1 h;exact List.take_succ_eq_append_getElem hi
theorem CZ {q:Rat} (h:qs[i]? =some q):eH (qs.take (i+1))=eH (qs.take i)+q:=by
 rw[fj h];simp[eH,List.foldl_append]
def iL (k i:Nat):Nat:=1+i*(uT k+1)
theorem Ho (k i:Nat):iL k (i+1)=iL k i+uT k+1:=by unfold iL;rw[ek,xj];omega
theorem Da {k n:Nat} (h:i<=n):iL k i<=iL k n:=by unfold iL;have:=eQ (uT k+1) h;omega
theorem tG (v:Value) (qs:List Rat) (k:Nat) (w:World) (hv:tE w v qs k) (hk:iL k qs.length<=67108864):
  Calls Tryz.prog 39 #[v] w λe w'=>∃ x,e=.returned x/\cA w' w.heap.size x (eH qs)/\lR (eH qs) (iL k qs.length)/\ax w w':=by
 obtain⟨p,c,rfl,fV,gj⟩:=hv.form;obtain⟨N,hN⟩:∃ N,N=qs.length:=⟨_,aa⟩;rw[<-hN] at hv hk fV ⊢;have hNm:N<9223372036854775807:=by unfold iL at hk;have:=KJ N (show 0<uT k+1 by omega);omega
 have huk:uT k<=67108864\/N=0:=by
  rcases mX N with e|e
  ·exact .inr e
  ·left;unfold iL at hk;have:=Nat.le_mul_of_pos_left (uT k+1) e;omega
 refine ai (C:=aY Tryz.prog w _) (args:=[_]) Tryz.func39 aa Tryz.ntmps39 (cG aa) ?_;refine ag ?_;refine VO.cR aa aa (fk Ci) (λcV eG db=>jD 0 cV ae ae) (λcV eG db w1 s1 p1 n1 c1 t1 y1 m1 d1 q1 bF fM _ bb1=>wV aa ?_);refine ag ?_
 refine VS.loop (J:=λn L M w'=>∃ i s p' n' c' t r m d,i<=N/\n=N-i/\L=[(7,.val (.slice p N c)),(8,.val (.int .i64 (N:Int))),(9,.val (.int .i64 (i:Int))),(3,.box 3 0),(2,.box 2 0)]/\
  M=[(2,(27,([.bool false,.slice none 0 0,.bool false,.slice none 0 0]:List Value).map .val)),(3,(27,([.bool s,.slice p' n' c',.bool t,.slice r m d]:List Value).map .val))]/\cA w' w.heap.size (.agg #[.bool s,.slice p' n' c',.bool t,.slice r m d]) (eH (qs.take i))/\lR (eH (qs.take i)) (iL k i)) N ⟨_,_,?_,?_,?_,?_,⟨0,s1,p1,n1,c1,t1,y1,m1,d1,ae,ae,rfl,rfl,(q1.mono db.size).cast (by simp[eH]),by simp only[List.take_zero,eH,List.foldl_nil,iL,Nat.zero_mul,Nat.add_zero];exact lR.zero⟩⟩ ?_
 ·exact lD
 ·exact lD
 ·rfl
 ·exact AZ
 rintro n L M w' ⟨i,s,p',n',c',t,r,m,d,hi,rfl,rfl,rfl,ho,hz⟩;refine ag ?_;by_cases hlt:i<N
 ·obtain⟨q,hq⟩:∃ q,qs[i]? =some q:=⟨_,aH ae⟩;obtain⟨b,off,s2,p2,n2,c2,t2,r2,m2,d2,rfl,hc,xP⟩:=hv.at hq;refine VS.bB aa (aU (aW.2 hlt)) ?_;refine ag ?_;refine VO.cond aa fb (wV aa ?_);refine VO.read aa [.bool s2,.slice p2 n2 c2,.bool t2,.slice r2 m2 d2] aa (λj u hj=>by rw[Addr.add_mid,bh];exact hc j u hj) (wV aa ?_);refine ag ?_;refine VO.call aa aa (fk qO) (λeD gO fG=>(eb _ q k eD ((xP.kp (Kp.of (U:=UU) fG))) (by have:=hk;unfold uT at*;omega)).mono ?_);rintro e w2 ⟨r2',rfl,q2,cJ⟩;obtain⟨s3,p3,n3,c3,t3,y3,m3,d3,rfl⟩:=q2.form;refine dB cJ ?_;intro jH _ bb2;refine VO.call aa aa (fk Tryz.func89) (λiG iK jm=>(wx _ _ (eH (qs.take i)) q (iL k i) (uT k) iG ((ho.kp (jH.aG iK)).rd) (q2.kp iK) hz xP.Np (by have:=Da (k:=k) hi;omega) ae).mono ?_);rintro e w3 ⟨r3',rfl,q3,ee⟩;obtain⟨s4,p4,n4,c4,t4,y4,m4,d4,rfl⟩:=q3.form;refine dB ee ?_;intro nH _ bb3;refine VS.back (N-(i+1)) ae ⟨_,_,?_,?_,?_,?_,⟨i+1,s4,p4,n4,c4,t4,y4,m4,d4,ae,aa,aa,aa,(q3.mono jm.size).cast (CZ hq).symm,by rw[CZ hq,Ho];exact hz.add xP.Np⟩⟩
  ·refine⟨aa,aa,?_,aa,aa,aj⟩;rw[<-bl ae];rfl
  ·exact lD
  ·rfl
  ·exact AZ
 ·refine VS.bC aa (aR (λe=>hlt (aW.1 e))) ?_;refine ag ?_;refine ck ?_;intro wz kz bz;obtain rfl:i=N:=ae;rw[cO ae] at ho hz;exact⟨_,aa,ho.kp kz,hz,bz⟩
end
set_option maxRecDepth 4000
section
open Go.RowKit
attribute [local irreducible] aE VS
theorem Hq (w:World):Calls Tryz.prog 80 #[] w λe w'=>∃ r,e=.returned r/\cA w' w.heap.size r 0/\ax w w':=by
 refine ai (C:=aY Tryz.prog w _) (args:=[]) Tryz.func80 aa Tryz.ntmps80 (cG aa) ?_;refine ag ?_;refine VO.cI aa aa (fk yN) (λcV eG db=>rZ 0 cV ae ae) (λcV eG db w1 s1 p1 n1 c1 q1 bF fM _ bb1=>wV aa ?_);refine ag ?_;refine VO.cI aa aa (fk yN) (λeD gO fG=>rZ 1 eD ae ae) (λeD gO fG w2 s2 p2 n2 c2 q2 cJ jH _ bb2=>wV aa ?_);refine ag ?_;refine ck ?_;intro wz kz bz;exact⟨_,aa,⟨_,_,_,_,_,_,_,_,aa,(q1.kp (jH.aG kz)).mono db.size,(q2.kp kz).mono fG.size⟩,bz⟩
theorem Qu {X Y:Int}:Rat.divInt X Y=Rat.divInt (-X) (-Y):=(Rat.neg_divInt_neg X Y).symm
theorem JS (v u:Value) (X Y:Int) (j k:Nat) (w:World) (hv:cY w v X j) (hu:cY w u Y k) (hj:j<=134217728) (hk:k<=134217728):
  Calls Tryz.prog 139 #[v,u] w λe w'=>∃ r,e=.returned (.tuple #[r,.int .i64 (Hl Y)])/\cA w' w.heap.size r (Rat.divInt X Y)/\ax w w':=by
 obtain⟨s,p,n,c,rfl⟩:=hv.form;obtain⟨t,r,m,d,rfl⟩:=hu.form;refine ai (C:=aY Tryz.prog w _) (args:=[_,_]) Tryz.func139 aa Tryz.ntmps139 (cG aa) ?_;refine ag ?_;refine VO.call aa aa (fk ku) (λcV eG db=>(dH _ Y k cV (hu.aA db) ae).mono ?_);rintro e w1 ⟨rfl,bF⟩;by_cases hY:Y=0
 ·rw[show Y.sign=0 by rw[hY];rfl];refine dB bF ?_;intro fM _ bb1;refine VO.cR aa aa (fk Tryz.func80) (λeD gO fG=>Hq eD) (λeD gO fG w2 s2 p2 n2 c2 t2 y2 m2 d2 h2 cJ jH _ bb2=>wV aa ?_);refine ag ?_;refine ck ?_;intro wz kz bz;refine⟨_,by rw[Hl,if_pos hY];rfl,?_,bz⟩;rw[hY,Rat.divInt_zero];exact (h2.kp kz).mono fG.size
 ·rcases KT hY with q|q
  ·rw[sign_neg q];refine dB bF ?_;intro fM _ bb1;refine VO.call aa aa (fk ku) (λeD gO fG=>(dH _ Y k eD (hu.aA fG) ae).mono ?_);rintro e w2 ⟨rfl,cJ⟩;rw[sign_neg q];refine dB cJ ?_;intro jH _ bb2;refine VO.cI aa aa (fk Tryz.func194) (λiG iK jm=>zR _ X j iG (hv.aA jm) ae) (λiG iK jm w3 s3 p3 n3 c3 h3 ee nH _ bb3=>wV aa ?_);refine ag ?_;refine VO.cI aa aa (fk Tryz.func194) (λmB pE pG=>zR _ Y k mB (hu.aA pG) ae) (λmB pE pG w4 s4 p4 n4 c4 h4 jJ sO _ Ej=>wV aa ?_);refine ag ?_;have z3:Sz (-X) j:=Sz.neg hv.len;have z4:Sz (-Y) k:=Sz.neg hu.len;obtain⟨l1,l2⟩:=yz (X:= -X) (Y:= -Y) ae;have Qt:Sz (Int.gcd (-X) (-Y):Int) k:=JQ z4 ae
   have PQ:(Int.gcd (-X) (-Y):Int)≠0:=by
    intro e;have:=(KQ.1 (show Int.gcd (-X) (-Y)=0 by omega)).2;omega
   refine VO.cI aa aa (fk Tryz.func193) (λmP oV og=>Hj _ _ (-X) (-Y) j k mP ((h3.kp (sO.aG oV)).in z3) ((h4.kp oV).in z4) ae ae) (λmP oV og w5 s5 p5 n5 c5 h5 lL tw _ Ek=>wV aa ?_);refine ag ?_;refine VO.call aa aa (fk Tryz.func195) (λzX zY Em=>(nN _ _ (-X) (Int.gcd (-X) (-Y):Int) j k zX ((h3.kp (sO.aG (tw.aG zY))).in z3) ((h5.kp zY).in Qt) ae ae).mono ?_);rintro e w6 ⟨hd6,CR⟩;obtain⟨v6,u6,rfl,h6,h6'⟩:=fS hd6 PQ;obtain⟨s6,p6,n6,c6,rfl⟩:=h6.form;obtain⟨t6,r6,m6,d6,rfl⟩:=h6'.form;refine dB CR ?_;intro En _ bb6;refine VO.call aa aa (fk Tryz.func195) (λHe JM Bn=>(nN _ _ (-Y) (Int.gcd (-X) (-Y):Int) k k He ((h4.kp (tw.aG (En.aG JM))).in z4) ((h5.kp (En.aG JM)).in Qt) ae ae).mono ?_);rintro e w7 ⟨hd7,Lz⟩;obtain⟨v7,u7,rfl,h7,h7'⟩:=fS hd7 PQ;obtain⟨s7,p7,n7,c7,rfl⟩:=h7.form;obtain⟨t7,r7,m7,d7,rfl⟩:=h7'.form;refine dB Lz ?_;intro JN _ bb7;refine ck ?_;intro wz kz bz;rw[Qu];exact⟨_,by rw[Hl,if_neg hY];rfl,⟨_,_,_,_,_,_,_,_,rfl,aJ.cast ((h6.kp (JN.aG kz)).mono Em.size) l1,aJ.cast ((h7.kp kz).mono Bn.size) l2⟩,bz⟩
  ·rw[fD q];refine dB bF ?_;intro fM _ bb1;refine VO.call aa aa (fk ku) (λeD gO fG=>(dH _ Y k eD (hu.aA fG) ae).mono ?_);rintro e w2 ⟨rfl,cJ⟩;rw[fD q];refine dB cJ ?_;intro jH _ bb2;obtain⟨l1,l2⟩:=yz (X:=X) (Y:=Y) q;have Qt:Sz (Int.gcd X Y:Int) k:=JQ hu.len hY
   have PQ:(Int.gcd X Y:Int)≠0:=by
    intro e;have:=(KQ.1 (show Int.gcd X Y=0 by omega)).2;omega
   refine VO.cI aa aa (fk Tryz.func193) (λmP oV og=>Hj _ _ X Y j k mP (hv.aA og) (hu.aA og) ae ae) (λmP oV og w5 s5 p5 n5 c5 h5 lL tw _ Ek=>wV aa ?_);refine ag ?_;refine VO.call aa aa (fk Tryz.func195) (λzX zY Em=>(nN _ _ X (Int.gcd X Y:Int) j k zX (hv.aA Em) ((h5.kp zY).in Qt) ae ae).mono ?_);rintro e w6 ⟨hd6,CR⟩;obtain⟨v6,u6,rfl,h6,h6'⟩:=fS hd6 PQ;obtain⟨s6,p6,n6,c6,rfl⟩:=h6.form;obtain⟨t6,r6,m6,d6,rfl⟩:=h6'.form;refine dB CR ?_;intro En _ bb6;refine VO.call aa aa (fk Tryz.func195) (λHe JM Bn=>(nN _ _ Y (Int.gcd X Y:Int) k k He (hu.aA Bn) ((h5.kp (En.aG JM)).in Qt) ae ae).mono ?_);rintro e w7 ⟨hd7,Lz⟩;obtain⟨v7,u7,rfl,h7,h7'⟩:=fS hd7 PQ;obtain⟨s7,p7,n7,c7,rfl⟩:=h7.form;obtain⟨t7,r7,m7,d7,rfl⟩:=h7'.form;refine dB Lz ?_;intro JN _ bb7;refine ck ?_;intro wz kz bz;exact⟨_,by rw[Hl,if_neg hY];rfl,⟨_,_,_,_,_,_,_,_,rfl,aJ.cast ((h6.kp (JN.aG kz)).mono Em.size) l1,aJ.cast ((h7.kp kz).mono Bn.size) l2⟩,bz⟩
theorem Nq (n d:Int) (w:World) (h0: -9223372036854775808<=n) (h1:n<=9223372036854775807) (g0: -9223372036854775808<=d) (g1:d<=9223372036854775807):
  Calls Tryz.prog 104 #[.int .i64 n,.int .i64 d] w λe w'=>∃ r,e=.returned (.tuple #[r,.int .i64 (Hl d)])/\cA w' w.heap.size r (Rat.divInt n d)/\ax w w':=by
 refine ai (C:=aY Tryz.prog w _) (args:=[_,_]) Tryz.func104 aa Tryz.ntmps104 (cG aa) ?_;refine ag ?_;refine VO.cI aa aa (fk yN) (λcV eG db=>rZ n cV h0 h1) (λcV eG db w1 s1 p1 n1 c1 q1 bF fM _ bb1=>wV aa ?_);refine ag ?_;refine VO.cI aa aa (fk yN) (λeD gO fG=>rZ d eD g0 g1) (λeD gO fG w2 s2 p2 n2 c2 q2 cJ jH _ bb2=>wV aa ?_);refine ag ?_;refine VO.call aa aa (fk Tryz.func139) (λiG iK jm=>(JS _ _ n d 2 2 iG ((q1.kp (jH.aG iK)).in (Sz.of_lt ae)) ((q2.kp iK).in (Sz.of_lt ae)) ae ae).mono ?_);rintro e w3 ⟨r3,rfl,q3,ee⟩;obtain⟨s3,p3,n3,c3,t3,x3,m3,d3,rfl⟩:=q3.form;refine dB ee ?_;intro nH _ bb3;refine ck ?_;intro wz kz bz;exact⟨_,aa,(q3.kp kz).mono jm.size,bz⟩
theorem wy (v u:Value) (q r:Rat) (k l:Nat) (w:World) (hv:dk w v q k) (hu:dk w u r l) (hk:k<=67108864) (hl:l<=67108864) (c:Int) (hc:Ev q r=c):
 Calls Tryz.prog 43 #[v,u] w λe w'=>e=.returned (.int .i64 c)/\ax w w':=hc▸Af v u q r k l w hv hu hk hl
inductive kZ (w:World) (k:Nat):List Rat->List (List Value)->Prop
 | nil:kZ w k [] []
 | cons {s:Bool} {p:Option Addr} {n c:Nat} {t:Bool} {r:Option Addr} {m d:Nat} {q:Rat} {qs:List Rat} {vs:List (List Value)}:dk w (.agg #[.bool s,.slice p n c,.bool t,.slice r m d]) q k->kZ w k qs vs->kZ w k (q::qs) ([.bool s,.slice p n c,.bool t,.slice r m d]::vs)
variable {vs:List (List Value)} {qs:List Rat} {w:World}
theorem kZ.four {k:Nat} (h:kZ w k qs vs):∀ v∈vs,v.length=4:=by
 induction h with
 | nil=>intro v hv;cases hv
 | cons _ _ ih=>
   intro v hv;rcases dG.1 hv with rfl|e
   ·rfl
   ·exact ih v e
theorem kZ.at {k:Nat} (h:kZ w k qs vs):∀ (j:Nat) (q:Rat),qs[j]? =some q->∃ s p' n' c' t r m d,vs[j]? =some [Value.bool s,.slice p' n' c',.bool t,.slice r m d]/\dk w (.agg #[.bool s,.slice p' n' c',.bool t,.slice r m d]) q k:=by
 induction h with
 | nil=>intro j q hq;simp at hq
 | cons h1 _ ih=>
   intro j q hq;cases j with
   | zero=>cases hq;exact⟨_,_,_,_,_,_,_,_,aa,h1⟩
   | succ j=>exact ih j q (by simpa using hq)
theorem flat_at:∀ (vs:List (List Value)) (j:Nat) (v:List Value),(∀ v∈vs,v.length=4)->vs[j]? =some v->∀ (o:Nat) (u:Value),v[o]? =some u->vs.flatten[j*4+o]? =some u:=by
 intro vs
 induction vs with
 | nil=>intro j v _ h;simp at h
 | cons x r ih=>
   intro j v hl h o u hu;have hx:x.length=4:=hl x cf;cases j with
   | zero=>
     simp at h;subst h;have ho:o<4:=by have:=(bd.1 hu).1;omega
     rw[ql,jo ae];simpa using hu
   | succ j=>
     have h':r[j]? =some v:=by simpa using h
     rw[ql,mS ae,hx,show (j+1)*4+o-4=j*4+o by omega];exact ih j v (λv hv=>hl v (by simp[hv])) h' o u hu
theorem Db {C:Cx} {β:Nat->Nat} {i:Nat} {t:TypeId} {cs:List AV} {k:Nat} {n c:Nat} (h:oL C β w i t cs) (spare:List AV) (hcs:cs=vs.flatten.map .val++spare) (hn:n=qs.length) (hq:kZ w k qs vs) (hc:n<=c) (gj:c<=maxLen):
  tE w (.slice (some ⟨β i,0,none⟩) n c) qs k:=by
 subst hn;refine⟨_,_,aa,hc,gj,λj q hj=> ?_⟩;obtain⟨s,p',n',c',t',r,m,d,hvj,xP⟩:=hq.at j q hj;refine⟨β i,0,s,p',n',c',t',r,m,d,aa,λo u hu=> ?_,xP⟩;refine h.cls.cell ?_;have:=flat_at vs j _ hq.four hvj o u hu;rw[hcs,aF,az,List.getElem?_toArray,fe,jo (bd.1 this).1];exact this
theorem Ag (v:Value) (q:Rat) (k:Nat) (w:World) (hv:dk w v q k) (hk:k<=536870912) (c:Int) (hc:Ev q 0=c):
 Calls Tryz.prog 57 #[v] w λe w'=>e=.returned (.int .i64 c)/\ax w w':=hc▸Hm v q k w hv hk
variable {t:Bool} {xs ys:List Nat} {v:Value}
theorem fZ.in {s:Bool} {k:Nat} (h:fZ w v s xs t ys) (hx:xs.length<=k) (hy:ys.length<=k):dk w v (rq s xs t ys) k:=⟨s,xs,t,ys,h,rfl,hx,hy⟩
theorem fZ.mD {s:Bool} (h:fZ w v s xs t ys):∃ p c r d,v=.agg #[.bool s,.slice p xs.length c,.bool t,.slice r ys.length d]/\True:=by
 obtain⟨p,c,r,d,rfl,_⟩:=h;exact⟨_,_,_,_,aa,aj⟩
theorem rcmp_eq {a b:Rat} (h:a=b):Ev a b=0:=by subst h;unfold Ev;rw[if_neg (by exact Rat.lt_irrefl),if_pos rfl]
end
section
open Go.RowKit
abbrev lT (T:TypeId->Bool) (w w':World):Prop:=aK ⟨UU,λ_=>True,T⟩ w w'
structure gp {α:Type} (E:World->List Value->α->Prop) (sz:Nat):Prop where
 kp:∀ {w w':World} {cs:List Value} {a:α},E w cs a->Kp UU w w'->E w' cs a
 len:∀ {w:World} {cs:List Value} {a:α},E w cs a->cs.length=sz
 ok:∀ {w:World} {cs:List Value} {a:α},E w cs a->cs.all aO=true
theorem lT.plain {T:TypeId->Bool} {w w':World} (h:lT T w w'):Kp UU w w':=h.dN
inductive cw {α:Type} (E:World->List Value->α->Prop) (w:World):List α->List (List Value)->Prop
 | nil:cw E w [] []
 | cons {a:α} {es:List α} {cs:List Value} {vs:List (List Value)}:E w cs a->cw E w es vs->cw E w (a::es) (cs::vs)
section
variable {α:Type} {E:World->List Value->α->Prop} {sz:Nat} {w w':World} {es:List α} {vs:List (List Value)}
theorem cw.len (h:cw E w es vs):vs.length=es.length:=by
 induction h with
 | nil=>rfl
 | cons _ _ ih=>simp[ih]
theorem cw.kp (hE:gp E sz) (h:cw E w es vs) (k:Kp UU w w'):cw E w' es vs:=by
 induction h with
 | nil=>exact .nil
 | cons h1 _ ih=>exact .cons (hE.kp h1 k) ih
theorem cw.at (h:cw E w es vs):∀ (j:Nat) (a:α),es[j]? =some a->∃ cs,vs[j]? =some cs/\E w cs a:=by
 induction h with
 | nil=>intro j q hq;simp at hq
 | cons h1 _ ih=>
   intro j q hq;cases j with
   | zero=>cases hq;exact⟨_,aa,h1⟩
   | succ j=>exact ih j q (by simpa using hq)
theorem cw.append {es':List α} {vs':List (List Value)} (h:cw E w es vs) (h':cw E w es' vs'):cw E w (es++es') (vs++vs'):=by
 induction h with
 | nil=>exact h'
 | cons h1 _ ih=>exact .cons h1 ih
variable {a:α}
theorem cw.snoc {cs:List Value} (h:cw E w es vs) (h':E w cs a):cw E w (es++[a]) (vs++[cs]):=h.append (.cons h' .nil)
theorem cw.ok (hE:gp E sz) (h:cw E w es vs):vs.flatten.all aO=true/\vs.flatten.length=es.length*sz:=by
 induction h with
 | nil=>exact⟨aa,cf⟩
 | cons h1 _ ih=>
   refine⟨?_,?_⟩
   ·rw[ql,dK,ih.1,hE.ok h1];rfl
   ·rw[ql,bg,ih.2,hE.len h1,tX,ek,xj,ud]
theorem cw.cell (hE:gp E sz) (h:cw E w es vs):∀ (j:Nat) (cs:List Value),vs[j]? =some cs->∀ (o:Nat) (u:Value),cs[o]? =some u->vs.flatten[j*sz+o]? =some u:=by
 induction h with
 | nil=>intro j v h;simp at h
 | @cons a es cs vs h1 _ ih=>
   intro j v h o u hu;have hx:=hE.len h1;cases j with
   | zero=>
     simp at h;subst h;have ho:o<sz:=by have:=(bd.1 hu).1;omega
     rw[ql,uf,fe,jo ae];exact hu
   | succ j=>
     rw[ql,mS (by rw[ek];omega)];have:=ih j v (by simpa using h) o u hu;rw[<-this]
     congr 1
     rw[ek];omega
def bK (E:World->List Value->α->Prop) (sz:Nat) (w:World) (v:Value) (es:List α):Prop:=
 ∃ p c,v=.slice p es.length c/\es.length<=c/\c<=maxLen/\∀ (i:Nat) (a:α),es[i]? =some a->∃ b off cs,p=some ⟨b,off,none⟩/\(∀ (j:Nat) (u:Value),cs[j]? =some u->w.cell? ⟨b,off+i*sz+j,none⟩=some u)/\E w cs a
variable {v:Value}
theorem bK.form (h:bK E sz w v es):∃ p c,v=.slice p es.length c/\es.length<=c/\c<=9223372036854775807:=by
 obtain⟨p,c,hv,h1,h2,_⟩:=h;exact⟨p,c,hv,h1,by simpa [maxLen] using h2⟩
variable {c:Nat} {p:Option Addr}
theorem bK.at {n i:Nat} (h:bK E sz w (.slice p n c) es) (hq:es[i]? =some a):∃ b off cs,p=some ⟨b,off,none⟩/\(∀ (j:Nat) (u:Value),cs[j]? =some u->w.cell? ⟨b,off+i*sz+j,none⟩=some u)/\E w cs a:=by
 obtain⟨p',c',hv,h1,h2,h3⟩:=h;cases hv;exact h3 i a hq
theorem bK.aA (hE:gp E sz) (h:bK E sz w v es) (hb:ax w w'):bK E sz w' v es:=by
 obtain⟨p,c,hv,h1,h2,h3⟩:=h;refine⟨p,c,hv,h1,h2,λi q hq=> ?_⟩;obtain⟨b,off,cs,hp,hc,hr⟩:=h3 i q hq;exact⟨b,off,cs,hp,λj u hj=>hb.cell (hc j u hj),hE.kp hr (Kp.of hb)⟩
theorem bK.mono {E':World->List Value->α->Prop} (h:bK E sz w v es) (hm:∀ (i:Nat) (a:α) (cs:List Value),es[i]? =some a->E w cs a->E' w cs a):bK E' sz w v es:=by
 obtain⟨p,c,hv,h1,h2,h3⟩:=h;refine⟨p,c,hv,h1,h2,λi q hq=> ?_⟩;obtain⟨b,off,cs,hp,hc,hr⟩:=h3 i q hq;exact⟨b,off,cs,hp,hc,hm i q cs hq hr⟩
theorem bK.nil (w:World) (E:World->List Value->α->Prop) (sz:Nat):bK E sz w (.slice none 0 0) []:=⟨none,0,rfl,aP _,cW,λi q hq=>by simp at hq⟩
theorem bK.row {n:Nat} (h:bK E sz w (.slice p n c) es):∃ vs,cw E w es vs/\(n=0\/∃ b off,p=some ⟨b,off,none⟩/\∀ (i:Nat) cs,vs[i]? =some cs->∀ (j:Nat) (u:Value),cs[j]? =some u->w.cell? ⟨b,off+i*sz+j,none⟩=some u):=by
 obtain⟨p',c',hv,h1,h2,h3⟩:=h;cases hv
 have key:∀ (l:List α) (k:Nat),(∀ (i:Nat) (a:α),l[i]? =some a->∃ b off cs,p=some ⟨b,off,none⟩/\(∀ (j:Nat) (u:Value),cs[j]? =some u->w.cell? ⟨b,off+(k+i)*sz+j,none⟩=some u)/\E w cs a)->
   ∃ vs,cw E w l vs/\(l=[]\/∃ b off,p=some ⟨b,off,none⟩/\∀ (i:Nat) cs,vs[i]? =some cs->∀ (j:Nat) (u:Value),cs[j]? =some u->w.cell? ⟨b,off+(k+i)*sz+j,none⟩=some u):=by
  intro l
  induction l with
  | nil=>intro k _;exact⟨[],.nil,.inl aa⟩
  | cons a r ih=>
    intro k hk;obtain⟨b,off,cs,hp,hc,he⟩:=hk 0 a aa
    obtain⟨vs,hr,hx⟩:=ih (k+1) λi a' ha=>by
     obtain⟨b',off',ew,q1,q2,q3⟩:=hk (i+1) a' (by simpa using ha);exact⟨b',off',ew,q1,λj u hj=>by rw[show k+1+i=k+(i+1) by omega];exact q2 j u hj,q3⟩
    refine⟨cs::vs,.cons he hr,.inr ⟨b,off,hp,λi ew hi j u hj=> ?_⟩⟩;cases i with
    | zero=>simp at hi;subst hi;exact hc j u hj
    | succ i=>
      simp at hi;rcases hx with rfl|⟨b',off',hp',hx⟩
      ·cases hr;simp at hi
      ·rw[hp] at hp';cases hp';rw[show k+(i+1)=k+1+i by omega];exact hx i ew hi j u hj
 obtain⟨vs,hr,hx⟩:=key es 0 λi a ha=>by rw[fe];exact h3 i a ha
 refine⟨vs,hr,?_⟩;rcases hx with rfl|⟨b,off,hp,hx⟩
 ·exact .inl aa
 ·exact .inr ⟨b,off,hp,λi cs hi=>by have:=hx i cs hi;rw[fe] at this;exact this⟩
theorem Ht:∀ (vs:List (List Value)) (sz:Nat),(∀ v∈vs,v.length=sz)->∀ (k:Nat) (u:Value),vs.flatten[k]? =some u->∃ i cs j,vs[i]? =some cs/\cs[j]? =some u/\k=i*sz+j
 | [],_,_,k,u,h=>by simp at h
 | x::r,sz,hl,k,u,h=>by
   have hx:x.length=sz:=hl x cf;by_cases hk:k<sz
   ·rw[ql,jo ae] at h;exact⟨0,x,k,aa,h,ae⟩
   ·rw[ql,mS ae] at h;obtain⟨i,cs,j,h1,h2,h3⟩:=Ht r sz (λv hv=>hl v (by simp[hv])) _ u h;exact⟨i+1,cs,j,by simpa using h1,h2,by rw[ek];omega⟩
theorem cw.lens (hE:gp E sz) (h:cw E w es vs):∀ v∈vs,v.length=sz:=by
 induction h with
 | nil=>intro v hv;cases hv
 | cons h1 _ ih=>
   intro v hv;rcases dG.1 hv with rfl|e
   ·exact hE.len h1
   ·exact ih v e
theorem bK.src (hE:gp E sz) {n:Nat} (h:bK E sz w (.slice p n c) es):∃ vs,cw E w es vs/\n=es.length/\((n=0)\/∃ b off,p=some ⟨b,off,none⟩/\∀ (j:Nat) (u:Value),vs.flatten[j]? =some u->w.cell? ⟨b,off+j,none⟩=some u):=by
 obtain⟨vs,hr,hx⟩:=h.row;obtain⟨p',c',hv,_⟩:=h;refine⟨vs,hr,by cases hv;rfl,?_⟩;rcases hx with hx|⟨b,off,hp,hx⟩
 ·exact .inl hx
 ·refine .inr ⟨b,off,hp,λj u hj=> ?_⟩;obtain⟨i,cs,o,h1,h2,h3⟩:=Ht vs sz (hr.lens hE) j u hj;rw[h3,<-xg];exact hx i cs h1 o u h2
variable {t:TypeId}
theorem oZ (hE:gp E sz) {b n:Nat} {spare:List Value} (h:aQ w b t (vs.flatten++spare).toArray) (hr:cw E w es vs) (hn:n=es.length) (hc:n<=c) (hm:c<=9223372036854775807):bK E sz w (.slice (some ⟨b,0,none⟩) n c) es:=by
 subst hn;refine⟨_,_,aa,hc,by simpa [maxLen] using hm,λi a ha=> ?_⟩;obtain⟨cs,h1,h2⟩:=hr.at i a ha;refine⟨b,0,cs,aa,λj u hj=> ?_,h2⟩;have:=hr.cell hE i cs h1 j u hj;refine h.cell ?_;rw[List.getElem?_toArray,fe,jo (bd.1 this).1];exact this
def ay (E:World->List Value->α->Prop) (sz:Nat) (t:TypeId) (B:Nat) (w:World) (v:Value) (es:List α):Prop:=
 (v=.slice none 0 0/\es=[])\/∃ b c vs spare,v=.slice (some ⟨b,0,none⟩) es.length c/\B<=b/\aQ w b t (vs.flatten++spare).toArray/\cw E w es vs/\spare.all aO=true/\es.length<=c/\c<=9223372036854775807/\(vs.flatten++spare).length=c*sz
variable {B:Nat}
theorem ay.sl (hE:gp E sz) (h:ay E sz t B w v es):bK E sz w v es:=by
 rcases h with ⟨rfl,rfl⟩|⟨b,c,vs,spare,rfl,_,h1,h2,_,h3,h4,_⟩
 ·exact bK.nil _ _ _
 ·exact oZ hE h1 h2 aa h3 h4
theorem ay.form (h:ay E sz t B w v es):∃ p c,v=.slice p es.length c:=by
 rcases h with ⟨rfl,rfl⟩|⟨b,c,vs,spare,rfl,_⟩
 ·exact⟨_,_,aa⟩
 ·exact⟨_,_,aa⟩
theorem ay.kp (hE:gp E sz) {T:TypeId->Bool} (h:ay E sz t B w v es) (k:lT T w w') (ht:T t=true):ay E sz t B w' v es:=by
 rcases h with ⟨rfl,rfl⟩|⟨b,c,vs,spare,rfl,h0,h1,h2,h3⟩
 ·exact .inl ⟨aa,aa⟩
 ·refine .inr ⟨b,c,vs,spare,aa,h0,k.block t b _ ?_ aj h1,h2.kp hE k.plain,h3⟩;show (Nat.beq t UU || T t)=true;rw[ht];simp
theorem ay.mono {B':Nat} (h:ay E sz t B w v es) (hB:B'<=B):ay E sz t B' w v es:=by
 rcases h with h|⟨b,c,vs,spare,hv,h0,h1⟩
 ·exact .inl h
 ·exact .inr ⟨b,c,vs,spare,hv,aV hB h0,h1⟩
end
section
variable {C:Cx} {F:Fr} {H:Hp} {w:World} {m:Option (List FuncId)} {full:Array Oper} {K:Fr->Hp->World->Prop} {o:Oper} {r:List Oper}
end
theorem dQ {α:Type} {E:World->List Value->α->Prop} {sz:Nat} {C:Cx} {β:Nat->Nat} {w:World} {i n c:Nat} {t:TypeId} {es:List α} {vs:List (List Value)} {spare:List AV} (h:oL C β w i t (vs.flatten.map .val++spare)) (hr:cw E w es vs) (hn:n=es.length) (hc:n<=c) (hm:c<=9223372036854775807) (hl:(vs.flatten.map AV.val++spare).length=c*sz)
  (hnw:∀ i g,C.zu i g->C.w0.heap.size<=g:=by exact λ_ _ h=>h):ay E sz t C.w0.heap.size w (.slice (some ⟨β i,0,none⟩) n c) es:=by
 subst hn;have hk:=h.ok;rw[dK,gF] at hk;refine .inr ⟨β i,c,vs,spare.map (AV.leaf β),aa,hnw _ _ h.new,?_,hr,fx hk.2,hc,hm,by rw[<-hl];simp only[List.length_append,List.length_map]⟩;have:=h.cls;rw[aF,az] at this;exact this
theorem eV {n d:Int} (h0: -9223372036854775808<=n) (h1:n<=9223372036854775807) (g0: -9223372036854775808<=d) (g1:d<=9223372036854775807):lR (Rat.divInt n d) 2:=by
 by_cases hd:d=0
 ·rw[hd,Rat.divInt_zero];exact lR.zero.mono ae
 ·exact wv (Sz.of_lt ae) (Sz.of_lt ae) hd
end
set_option maxRecDepth 4000
section
open Go.RowKit
attribute [local irreducible] aE VS
theorem uU (xs:List Nat) (v:Value) (n:Nat) (w:World) (hr:Rd w 1 v n (ints .u32 xs)) (hn:n<=1073741824):
  Calls Tryz.prog 69 #[v] w λe w'=>∃ p c,e=.returned (.slice p n c)/\w'.ownsRow w.heap.size UU 1 (.slice p n c) n (ints .u32 xs)/\ax w w':=by
 obtain⟨p,c,rfl,sn⟩:∃ p c,v=.slice p n c/\True:=by
  obtain⟨p,c,hv,_⟩:=hr;exact⟨p,c,hv,aj⟩
 refine ai (C:=aY Tryz.prog w _) (args:=[_]) Tryz.func69 aa Tryz.ntmps69 (cG aa) ?_;refine ag ?_;refine VO.appU (bU _ _) (t:=23) (e:=78) (n:=n) (news:=ints .u32 xs) aa aa aa aa aa (oD .u32 xs) ae (λw1 k1 b1=>hr.below b1) (λw2 p2 c2 k2 b2 ho=>wV aa ?_);refine ag ?_;refine ck ?_;intro wz kz bz;exact⟨_,_,aa,Own.kp ho kz,bz⟩
variable {xs:List Nat} {w:World}
theorem gl.Om {s:Bool} {p:Option Addr} {c:Nat} (h:gl w (.agg #[.bool s,.slice p xs.length c]) s xs):Rd w 1 (.slice p xs.length c) xs.length (ints .u32 xs)/\da xs:=by
 obtain⟨p',c',hv,hr,hl⟩:=h;simp only[Value.agg.injEq,Array.mk.injEq,List.cons.injEq,and_true,true_and,Value.slice.injEq] at hv;obtain⟨rfl,rfl⟩:=hv;exact⟨hr,hl⟩
def qa (w:World) (B:Nat) (v:Value) (s:Bool) (xs:List Nat) (t:Bool) (ys:List Nat):Prop:=
 ∃ p c r d,v=.agg #[.bool s,.slice p xs.length c,.bool t,.slice r ys.length d]/\w.ownsRow B UU 1 (.slice p xs.length c) xs.length (ints .u32 xs)/\w.ownsRow B UU 1 (.slice r ys.length d) ys.length (ints .u32 ys)/\da xs/\da ys
variable {t:Bool} {ys:List Nat} {B:Nat} {v:Value}
theorem qa.raw {s:Bool} (h:qa w B v s xs t ys):fZ w v s xs t ys:=by
 obtain⟨p,c,r,d,hv,h1,h2,h3,h4⟩:=h;exact⟨p,c,r,d,hv,⟨_,_,aa,Rd.own h1,h3⟩,⟨_,_,aa,Rd.own h2,h4⟩⟩
variable {w':World}
theorem qa.kp {T:TypeId->Bool} {s:Bool} (h:qa w B v s xs t ys) (k:aK ⟨UU,λ_=>True,T⟩ w w'):qa w' B v s xs t ys:=by
 obtain⟨p,c,r,d,hv,h1,h2,h3,h4⟩:=h;exact⟨p,c,r,d,hv,Own.kp h1 k,Own.kp h2 k,h3,h4⟩
theorem qa.own {q:Rat} (h:qa w B v (decide (q.num<0)) (limbs q.num.natAbs) (decide ((q.den:Int)<0)) (limbs (q.den:Int).natAbs)):cA w B v q:=by
 obtain⟨p,c,r,d,rfl,h1,h2,h3,h4⟩:=h;exact⟨_,p,_,c,_,r,_,d,aa,⟨_,_,aa,h1⟩,⟨_,_,aa,h2⟩⟩
theorem Nr (s t:Bool) (xs ys:List Nat) (v:Value) (w:World) (h:fZ w v s xs t ys) (hx:xs.length<=1073741824) (hy:ys.length<=1073741824):
  Calls Tryz.prog 105 #[v] w λe w'=>∃ r,e=.returned r/\qa w' w.heap.size r s xs t ys/\ax w w':=by
 obtain⟨p,c,r,d,rfl,h1,h2⟩:=h;refine ai (C:=aY Tryz.prog w _) (args:=[_]) Tryz.func105 aa Tryz.ntmps105 (cG aa) ?_;refine ag ?_;refine VO.call aa aa (fk Tryz.func69) (λcV eG db=>(uU xs _ _ cV (h1.aA db).Om.1 hx).mono ?_);rintro e w1 ⟨p1,c1,rfl,q1,bF⟩
 skip
 refine dB bF ?_;intro fM _ bb1;refine VO.call aa aa (fk Tryz.func69) (λeD gO fG=>(uU ys _ _ eD (h2.aA fG).Om.1 hy).mono ?_);rintro e w2 ⟨p2,c2,rfl,q2,cJ⟩
 skip
 refine dB cJ ?_;intro jH _ bb2;refine ck ?_;intro wz kz bz;exact⟨_,aa,⟨_,_,_,_,aa,Own.kp (Own.mono q1 db.size) (jH.aG kz),Own.kp (Own.mono q2 fG.size) kz,h1.Om.2,h2.Om.2⟩,bz⟩
theorem dA {K:KC} (h:aK K w w':=by (with_reducible (repeat (first|assumption|exact kU _|exact kR _|exact Kp.of (U:=UU) (by assumption)|exact aK.of (by assumption)|refine kT ?_ (by assumption))))):aK K w w':=h
theorem fJ (n d:Int) (w:World) (h0: -9223372036854775808<=n) (h1:n<=9223372036854775807) (g0: -9223372036854775808<=d) (g1:d<=9223372036854775807):
  Calls Tryz.prog 45 #[.int .i64 n,.int .i64 d] w λe w'=>∃ r,e=.returned r/\cA w' w.heap.size r (Rat.divInt n d)/\ax w w':=by
 refine ai (C:=aY Tryz.prog w _) (args:=[_,_]) qo aa Tryz.ntmps45 (cG aa) ?_;refine ag ?_;refine VO.call aa aa (fk Tryz.func104) (λcV eG db=>(Nq n d cV h0 h1 g0 g1).mono ?_);rintro e w1 ⟨r1,rfl,q1,bF⟩;obtain⟨s1,p1,n1,c1,t1,y1,m1,d1,rfl⟩:=q1.form;refine dB bF ?_;intro fM _ bb1
 have hsz:(limbs (Rat.divInt n d).num.natAbs).length<=4/\(limbs ((Rat.divInt n d).den:Int).natAbs).length<=4:=by
  by_cases hd:d=0
  ·rw[hd,Rat.divInt_zero];exact⟨lR.zero.1.mono ae,lR.zero.2.mono ae⟩
  ·have h:=wv (X:=n) (Y:=d) (k:=2) (l:=2) (Sz.of_lt ae) (Sz.of_lt ae) hd;exact⟨h.1.mono ae,h.2.mono ae⟩
 refine VO.call aa aa (fk Tryz.func105) (λeD gO fG=>(Nr _ _ _ _ _ eD (q1.kp dA).rd.raw ae ae).mono ?_);rintro e w2 ⟨r2,rfl,q2,cJ⟩;obtain⟨p2,c2,y2,d2,rfl,_⟩:=q2.raw.mD;refine dB cJ ?_;intro jH _ bb2;refine ck ?_;intro wz kz bz;exact⟨_,aa,((q2.kp kz).own).mono fG.size,bz⟩
end
section
open Go.RowKit
section
variable {T:TypeId->Bool} {w w':World} {v:Value} {q:Rat} {X:Int} {B n:Nat}
theorem cA.k (h:cA w B v q) (k:aK ⟨UU,λ_=>True,T⟩ w w':=by exact dA):cA w' B v q:=h.kp k
theorem cA.kr (h:cA w B v q) (k:aK ⟨UU,λ_=>True,T⟩ w w':=by exact dA):iE w' v q:=(h.kp k).rd
theorem cA.ki (h:cA w B v q) (hs:lR q n) (k:aK ⟨UU,λ_=>True,T⟩ w w':=by exact dA):dk w' v q n:=(h.kp k).in hs
end
end
section
open Go.RowKit
attribute [local irreducible] aE VS
theorem bne_y {a b:Int} (h:a≠b):(a != b)=true:=by simpa using h
theorem bne_n {a b:Int} (h:a=b):(a != b)=false:=by simpa using h
theorem LM {a b:Int} (h:a=b):(a == b)=true:=by simpa using h
theorem beq_n {a b:Int} (h:a≠b):(a == b)=false:=by simpa using h
structure fO {α:Type} (E:World->List Value->α->Prop) (sz:Nat) (w:World) (n c:Nat) (vs:List (List Value)) (sp:List AV) (es:List α):Prop where
 len:n=es.length
 el:cw E w es vs
 so:sp.all bm=true
 sl:bj sp=[]
 le:n<=c
 cm:c<=9223372036854775807
 fl:(vs.flatten.map AV.val++sp).length=c*sz
section
variable {α:Type} {E:World->List Value->α->Prop} {sz n c:Nat} {w w':World} {vs:List (List Value)} {sp:List AV} {es:List α}
theorem fO.kp (hE:gp E sz) (h:fO E sz w n c vs sp es) (k:Kp UU w w'):fO E sz w' n c vs sp es:=⟨h.len,h.el.kp hE k,h.so,h.sl,h.le,h.cm,h.fl⟩
theorem fO.clo {M:List (Nat×(TypeId×List AV))} (h:fO E sz w n c vs sp es):dh M (vs.flatten.map AV.val++sp):=.append (.vals _) (.none h.sl)
theorem fO.new {C:Cx} {β:Nat->Nat} {i:Nat} {t:TypeId} (hE:gp E sz) (h:fO E sz w n c vs sp es) (o:oL C β w' i t (vs.flatten.map .val++sp)) (k:Kp UU w w') (hnw:∀ i g,C.zu i g->C.w0.heap.size<=g:=by exact λ_ _ h=>h):
 ay E sz t C.w0.heap.size w' (.slice (some ⟨β i,0,none⟩) n c) es:=dQ o (h.el.kp hE k) h.len h.le h.cm h.fl hnw
end
section
variable {C:Cx} {F:Fr} {H:Hp} {w:World} {m:Option (List FuncId)} {full:Array Oper} {K:Fr->Hp->World->Prop} {o:Oper} {r:List Oper}
variable {cs:List Value} {dst:Nat} {x y:Operand} {it ie:TI} {α:Type} {t e te:TypeId} {E:World->List Value->α->Prop} {a:α}
theorem VO.Dc (hC:C.Ok) {sz:Nat} (hE:gp E sz) {s:Nat}
  (e0:stepOf C full F H o=.call (.op o [.val (.slice none 0 0),.row s 0 1 1])) (ho:o.op=.call { callee:=.builtin .append,args:=#[x,y],argTypes:=#[t,t] })
  (Jv:C.ti t=some it) (ik:it.elem=some (e,sz)) (vB:C.ti e=some ie) (hU:C.K.fz e=false) (PG:ie.zero.cells.toList.all aO=true)
  (hd:o.dst=some dst) (hN:dst<C.N) (hl:lvl C.SU m o=2) (iw:H dst=none) (hs:H s=some (te,cs.map .val)) (hcs:E w cs a) (gz:24*sz<=140737488355328)
  (hK:∀ w2 cap sp,aK C.K w w2->C.Old w2->fO E sz w2 1 cap [cs] sp [a]->aE C m full r K (F.bO o.dst (.row dst 0 1 cap)) (H.put dst (e,[cs].flatten.map AV.val++sp)) w2)
  (hkp:∀ w w',aK C.K w w'->Kp UU w w':=by first|exact λ_ _ h=>h|exact λ_ _ h=>h.dN):aE C m full (o::r) K F H w:=by
 have hlen:=hE.len hcs
 refine VO.app hC e0 ho Jv ik vB hU PG hd hN hl (known:=[]) (spare:=[]) (del:=none) (n:=0) (c:=0) (mm:=1) (news:=cs.map .val) (.inl ⟨aa,aa,aa,aa,aa,aa,ae⟩) (.inl iw) cf cf ae ae ⟨aa,aa,ah _⟩ ⟨aa,aa,aL (hE.ok hcs)⟩ (by rw[aM,hlen];omega) ae
  (λw1 β k1 b1 ho=>⟨_,_,rfl,.inr ⟨β s,0,rfl,iX (rest:=[]) (ho.own s (.base (om _ (ak.2 rfl))) _ _ hs) (by rw[eX])⟩⟩) (λw2 cap sp ρ k2 b2 fo h1 h2 h3 h4 h5=> ?_)
 have:=hK w2 cap sp k2 b2 ⟨aa,.cons (hE.kp hcs (hkp _ _ k2)) .nil,h4,h5,ae,h2,by simpa using h3⟩;have e':([cs].flatten.map AV.val++sp)=([]++cs.map .val)++sp:=cf;rw[e'] at this;exact this
theorem VO.xF (hC:C.Ok) {sz:Nat} (hE:gp E sz) {s i n c:Nat} {vs:List (List Value)} {sp:List AV} {es:List α}
  (e0:stepOf C full F H o=.call (.op o [.row i 0 n c,.row s 0 1 1])) (ho:o.op=.call { callee:=.builtin .append,args:=#[x,y],argTypes:=#[t,t] })
  (Jv:C.ti t=some it) (ik:it.elem=some (e,sz)) (vB:C.ti e=some ie) (hU:C.K.fz e=false) (PG:ie.zero.cells.toList.all aO=true)
  (hd:o.dst=some dst) (hN:dst<C.N) (hl:lvl C.SU m o=2) (iw:H dst=none\/some i=some dst) (hi:H i=some (e,vs.flatten.map .val++sp)) (hr:fO E sz w n c vs sp es) (hs:H s=some (te,cs.map .val)) (hcs:E w cs a) (gz:(n+1)*(24*sz)<=140737488355328)
  (hK:∀ w2 cap mQ ρ,aK C.K w w2->C.Old w2->(∀ x,aO (ρ x)=true)->fO E sz w2 (n+1) cap (vs++[cs]) mQ (es++[a])->aE C m full r K ((F.forget (some i) ρ).bO o.dst (.row dst 0 (n+1) cap)) ((H.forget (some i) ρ).put dst (e,(vs++[cs]).flatten.map AV.val++mQ)) w2)
  (hkp:∀ w w',aK C.K w w'->Kp UU w w':=by first|exact λ_ _ h=>h|exact λ_ _ h=>h.dN):aE C m full (o::r) K F H w:=by
 have hlen:=hE.len hcs;obtain⟨k1,k2⟩:=hr.el.ok hE;have IW:=hr.len
 refine VO.app hC e0 ho Jv ik vB hU PG hd hN hl (known:=vs.flatten.map .val) (spare:=sp) (del:=some i) (n:=n) (c:=c) (mm:=1) (news:=cs.map .val) (.inr ⟨i,aa,hi,aa⟩) iw (by rw[aM,k2,IW]) hr.fl hr.le hr.cm ⟨ah _,hr.sl,ah _⟩ ⟨aL k1,hr.so,aL (hE.ok hcs)⟩ (by rw[aM,hlen];omega) gz
  (λw1 β k1 b1 ho=>⟨_,_,rfl,.inr ⟨β s,0,rfl,iX (rest:=[]) (ho.own s (.base (om _ (ak.2 rfl))) _ _ hs) (by rw[eX])⟩⟩) (λw2 cap mQ ρ k2 b2 fo h1 h2 h3 h4 h5=> ?_)
 have e:(vs.flatten.map AV.val++cs.map .val)=(vs++[cs]).flatten.map AV.val:=cf;have:=hK w2 cap mQ ρ k2 b2 fo ⟨by rw[bg,hr.len];rfl,(hr.el.kp hE (hkp _ _ k2)).snoc (hE.kp hcs (hkp _ _ k2)),h4,h5,ae,h2,by rw[<-e];exact h3⟩;rw[<-e] at this;exact this
end
end
section
open Go.RowKit
theorem Ns {w:World} {a:Option Addr} {len cap:Nat} {zs:List Int}
  (h:(a=none/\len=0/\cap=0/\zs=[])\/∃ x,a=some x/\len<=cap/\cap<=maxLen/\zs.length=cap/\(∀ i,i<zs.length->w.cell? (x.add i)=some (.int .u32 (zs.getD i 0)))/\∀ n∈zs,(Lit.int .u32 n).wf=true):
  ∃ xs:List Nat,da xs/\Rd w 1 (.slice a len cap) len (ints .u32 xs):=by
 rcases h with ⟨rfl,rfl,rfl,rfl⟩|⟨x,rfl,h1,h2,h3,h4,h5⟩
 ·exact⟨[],da.nil,Rd.nil w 1⟩
 ·have hb:∀ n∈zs,0<=n/\n<4294967296:=λn hn=>by
   have:=h5 n hn;simp[Lit.wf,IntKind.min,IntKind.max,IntKind.signed,IntKind.bits] at this;omega
  refine⟨(zs.take len).map Int.toNat,?_,?_⟩
  ·intro y hy;obtain⟨z,hz,rfl⟩:=ey.1 hy;have:=hb z (lX hz);omega
  ·refine⟨_,cap,aa,h1,h2,by simp;omega,λhn=> ?_⟩;have jI:0<zs.length:=ae;have h0:=h4 0 jI
   have hsp:x.spot=none:=by
    have:x.add 0=x:=by simp[Addr.add]
    rw[this] at h0;unfold World.cell? at h0
    split at h0
    ·split at h0
     ·cases h0
     ·rename_i hs;simpa using hs
    ·cases h0
   obtain⟨b,off,sp⟩:=x;simp only at hsp;subst hsp;refine⟨b,off,aa,λj u hj=> ?_⟩;simp only[ints,List.map_map,List.getElem?_map,List.getElem?_take] at hj
   split at hj
   ·rename_i hjl;have hjz:j<zs.length:=ae;rw[aH hjz] at hj;simp at hj;subst hj;have h6:=h4 j hjz;have h7:=hb _ (List.getElem_mem hjz);rw[show (⟨b,off,none⟩:Addr).add j=⟨b,off+j,none⟩ by unfold Addr.add;split <;> simp_all] at h6;rw[h6];simp[List.getD,hjz];omega
   ·cases hj
theorem Ew {α:Type} {l:List α} (h:l.length=2):∃ a b,l=[a,b]:=by
 match l,h with
 | [a,b],_=>exact⟨a,b,aa⟩
theorem Qv {α:Type} {l:List α} (h:l.length=4):∃ a b c d,l=[a,b,c,d]:=by
 match l,h with
 | [a,b,c,d],_=>exact⟨a,b,c,d,aa⟩
section
variable {H:Type} {enc:TypeId×Value->H} {w:World} {held:Bool}
variable {x:DataW H×List MemPlace} {cs:List Value} {fuel:Nat}
theorem JT (h:DataW.trod enc Tryz.prog w 0 (λ_=>true) held fuel 23 cs=some x):∃ p n c xs,cs=[.slice p n c]/\Rd w 1 (.slice p n c) n (ints .u32 xs)/\da xs:=by
 rcases ChangeShapes.open_ints ma Tryz.underlying78 (by kernel_rfl) h with ⟨rfl,_⟩|⟨a,len,cap,zs,rfl,_,hl,hc,hz,_,hcell,hwf⟩
 ·exact⟨none,0,0,[],aa,Rd.nil w 1,da.nil⟩
 ·rw[if_pos rfl] at hz;obtain⟨xs,Lp,vw⟩:=Ns (w:=w) (.inr ⟨a,aa,hl,hc,hz,hcell,hwf⟩);exact⟨some a,len,cap,xs,aa,vw,Lp⟩
theorem Hu (h:DataW.trod enc Tryz.prog w 0 (λ_=>true) held fuel 25 cs=some x):∃ s p c xs,cs=[.bool s,.slice p xs.length c]/\gl w (.agg #[.bool s,.slice p xs.length c]) s xs:=by
 obtain⟨ys,n,rfl,rfl,hl,iU,hf⟩:=qM Tryz.underlying25 h
 have tj:cs.length=2:=by
  have c:Tryz.prog.cellsOf 25=2:=by kernel_rfl
  rw[c] at hl;exact hl
 have uV:ys.length=2:=iU
 obtain⟨a,b,rfl⟩:∃ a b,cs=[a,b]:=by
  exact Ew tj
 obtain⟨y0,y1,rfl⟩:∃ a b,ys=[a,b]:=by
  exact Ew uV
 have c0:Tryz.prog.cellsOf 4=1:=by kernel_rfl
 have c1:Tryz.prog.cellsOf 23=1:=by kernel_rfl
 have h0:=hf 0 _ aa;have h1:=hf 1 _ aa;change DataW.trod enc Tryz.prog w 0 (λ_=>true) held n 4 (([a,b].drop 0).take (Tryz.prog.cellsOf 4))=some y0 at h0;change DataW.trod enc Tryz.prog w 0 (λ_=>true) held n 23 (([a,b].drop 1).take (Tryz.prog.cellsOf 23))=some y1 at h1;rw[c0] at h0;rw[c1] at h1;obtain⟨s,hs,_⟩:=DataW.trod_bool Tryz.underlying4 h0;obtain⟨p,m,c,xs,hp,hr,hx⟩:=JT h1;simp only[List.drop_zero,List.take_succ_cons,List.take_zero,List.cons.injEq,and_true] at hs;simp only[List.drop_succ_cons,List.drop_zero,List.take_succ_cons,List.take_zero,List.cons.injEq,and_true] at hp;subst hs hp;obtain⟨_,_,hv,_,_,fv⟩:=hr.u32;subst fv;exact⟨s,p,c,xs,aa,p,c,aa,hr,hx⟩
theorem Qw (h:DataW.trod enc Tryz.prog w 0 (λ_=>true) held fuel 27 cs=some x):∃ s p n c t r m d xs ys,cs=[.bool s,.slice p n c,.bool t,.slice r m d]/\fZ w (.agg #[.bool s,.slice p n c,.bool t,.slice r m d]) s xs t ys:=by
 obtain⟨zs,n,rfl,rfl,hl,iU,hf⟩:=qM Tryz.underlying27 h
 have tj:cs.length=4:=by
  have c:Tryz.prog.cellsOf 27=4:=by kernel_rfl
  rw[c] at hl;exact hl
 have uV:zs.length=2:=iU
 obtain⟨a,b,a',b',rfl⟩:∃ a b a' b',cs=[a,b,a',b']:=by
  exact Qv tj
 obtain⟨y0,y1,rfl⟩:∃ a b,zs=[a,b]:=by
  exact Ew uV
 have c0:Tryz.prog.cellsOf 25=2:=by kernel_rfl
 have h0:=hf 0 _ aa;have h1:=hf 1 _ aa;change DataW.trod enc Tryz.prog w 0 (λ_=>true) held n 25 (([a,b,a',b'].drop 0).take (Tryz.prog.cellsOf 25))=some y0 at h0;change DataW.trod enc Tryz.prog w 0 (λ_=>true) held n 25 (([a,b,a',b'].drop 2).take (Tryz.prog.cellsOf 25))=some y1 at h1;rw[c0] at h0 h1;obtain⟨s,p,c,xs,e0,n0⟩:=Hu h0;obtain⟨t,r,d,ys,e1,n1⟩:=Hu h1;simp only[List.drop_zero,List.take_succ_cons,List.take_zero,List.cons.injEq,and_true] at e0;simp only[List.drop_succ_cons,List.drop_zero,List.take_succ_cons,List.take_zero,List.cons.injEq,and_true] at e1;obtain⟨rfl,rfl⟩:=e0;obtain⟨rfl,rfl⟩:=e1;exact⟨_,_,_,_,_,_,_,_,xs,ys,aa,_,_,_,_,aa,n0,n1⟩
theorem Qx {α:Type} {p:Nat->α->Prop}:∀ (n:Nat),(∀ i,i<n->∃ q,p i q)->∃ qs:List α,qs.length=n/\∀ (i:Nat) (q:α),qs[i]? =some q->p i q
 | 0,_=>⟨[],rfl,λi q h=>by simp at h⟩
 | n+1,h=>by
   obtain⟨qs,hl,hq⟩:=Qx n (λi hi=>h i ae);obtain⟨q,hqn⟩:=h n ae;refine⟨qs++[q],by simp[hl],λi x hx=> ?_⟩;by_cases hi:i<n
   ·rw[jo ae] at hx;exact hq i x hx
   ·rw[mS ae,hl] at hx
    have:i=n:=by
     have:=(bd.1 hx).1;simp at this;omega
    subst this;simp at hx;subst hx;exact hqn
end
end
set_option maxRecDepth 4000
section
open Go.RowKit
theorem et (x:Rat) (l:List Rat):eH (x::l)=x+eH l:=by
 have key:∀ (l:List Rat) (a:Rat),l.foldl (·+ ·) a=a+l.foldl (·+ ·) 0:=by
  intro l
  induction l with
  | nil=>intro a;show a=a+0;grind
  | cons y r ih=>intro a;rw[yM,yM,ih (a+y),ih (0+y)];grind
 show List.foldl (·+ ·) (0+x) l=_;rw[key];show 0+x+eH l=x+eH l;grind
theorem Qy:eH []=0:=rfl
theorem rH (l m:List Rat):eH (l++m)=eH l+eH m:=by
 induction l with
 | nil=>rw[ng,Qy];grind
 | cons x r ih=>rw[Fk,et,et,ih];grind
end
section
open Go.RowKit
attribute [local irreducible] aE VS
end
section
open Go.RowKit
theorem Hv {α:Type} {vs:List α} {i:Nat} {x:α} (h:vs[i]? =some x):vs=vs.take i++x::vs.drop (i+1)/\(vs.take i).length=i:=by
 obtain⟨hi,rfl⟩:=bd.1 h;refine⟨?_,by rw[cE];omega⟩;rw[<-oh hi,oi]
theorem bE {α:Type}:∀ (vs:List (List α)) (sz:Nat),(∀ v∈vs,v.length=sz)->vs.flatten.length=vs.length*sz
 | [],_,_=>cf
 | x::r,sz,h=>by
   rw[ql,bg,bE r sz (λv hv=>h v (by simp[hv])),h x cf,tX,ek];omega
theorem Qz {α:Type} (A C B N:List α) (o off:Nat) (ho:o+N.length<=C.length) (e:off=A.length+o):
  (A++(C++B)).take off++(N++(A++(C++B)).drop (off+N.length))=A++((C.take o++(N++C.drop (o+N.length)))++B):=by
 subst e
 rw[List.take_append,List.drop_append,cO ae,mV ae,ng,show A.length+o-A.length=o by omega,show A.length+o+N.length-A.length=o+N.length by omega,
  Ov ae,Ou ae]
 simp only[List.append_assoc]
theorem dJ {vs:List (List Value)} {sz:Nat} (hl:∀ v∈vs,v.length=sz) {i:Nat} {cs:List Value} (hv:vs[i]? =some cs) (o:Nat) (new:List Value) (ho:o+new.length<=sz) (spare:List AV) (off:Nat) (e:off=i*sz+o) (m:Nat) (hm:m=new.length):
  (vs.flatten.map AV.val++spare).take off++(new.map AV.val++(vs.flatten.map AV.val++spare).drop (off+m))=(vs.set i (cs.take o++(new++cs.drop (o+new.length)))).flatten.map AV.val++spare:=by
 subst hm;obtain⟨h1,h2⟩:=Hv hv;have hc:=hl cs (dc hv)
 have hA:((vs.take i).flatten.map AV.val).length=i*sz:=by
  rw[aM,bE _ sz (λv hv=>hl v (lX hv)),h2]
 have hset:vs.set i (cs.take o++(new++cs.drop (o+new.length)))=vs.take i++(cs.take o++(new++cs.drop (o+new.length)))::vs.drop (i+1):=by
  rw[List.set_eq_take_append_cons_drop,if_pos (bd.1 hv).1]
 have key:=Qz ((vs.take i).flatten.map AV.val) (cs.map AV.val) ((vs.drop (i+1)).flatten.map AV.val++spare) (new.map AV.val) o off (by simpa [hc] using ho) (by rw[hA];exact e)
 have gR:vs.flatten.map AV.val++spare=(vs.take i).flatten.map AV.val++(cs.map AV.val++((vs.drop (i+1)).flatten.map AV.val++spare)):=by
  conv=>lhs;rw[h1]
  simp only[List.flatten_append,List.flatten_cons,List.map_append,List.append_assoc]
 rw[gR,hset];rw[aM] at key;rw[key];simp only[List.flatten_append,List.flatten_cons,List.map_append,List.append_assoc,List.map_take,List.map_drop]
section
variable {α:Type} {E:World->List Value->α->Prop} {sz:Nat} {w w':World} {es:List α} {vs:List (List Value)}
theorem dw (hl:∀ v∈vs,v.length=sz) (spare:List AV) {i:Nat} {cs:List Value} (hv:vs[i]? =some cs) (o:Nat) (ds:List Value) (hd:ds <+:cs.drop o) (off:Nat) (e:off=i*sz+o):∀ (j:Nat) (u:AV),(ds.map AV.val)[j]? =some u->(vs.flatten.map AV.val++spare)[off+j]? =some u:=by
 intro j u hj;obtain⟨h1,h2⟩:=Hv hv;obtain⟨t,ht⟩:=hd;have hA:(vs.take i).flatten.length=i*sz:=by rw[bE _ sz (λv hv=>hl v (lX hv)),h2]
 rw[jq] at hj;obtain⟨x,hx,rfl⟩:=Ff.1 hj
 have yu:cs[o+j]? =some x:=by
  rw[<-oo,<-ht,jo (bd.1 hx).1];exact hx
 have hlt:=(bd.1 yu).1
 have gR:vs.flatten[off+j]? =some x:=by
  conv=>lhs;rw[h1]
  rw[List.flatten_append,ql,mS ae,hA,jo ae,show off+j-i*sz=o+j by omega];exact yu
 rw[jo (by rw[aM];exact (bd.1 gR).1),jq,gR];rfl
theorem cw.mono {E':World->List Value->α->Prop} (h:cw E w es vs) (hm:∀ cs a,E w cs a->E' w cs a):cw E' w es vs:=by
 induction h with
 | nil=>exact .nil
 | cons h1 _ ih=>exact .cons (hm _ _ h1) ih
theorem cw.set (h:cw E w es vs):∀ {i:Nat} {a:α} {cs:List Value},es[i]? =some a->E w cs a->cw E w es (vs.set i cs):=by
 induction h with
 | nil=>intro i a cs hi _;simp at hi
 | cons h1 h2 ih=>
   intro i a cs hi he;cases i with
   | zero=>cases hi;exact .cons he h2
   | succ i=>exact .cons h1 (ih (by simpa using hi) he)
end
end
section
open Go.RowKit
attribute [local irreducible] aE VS
theorem aX {w:World} {b o:Nat} {u:Value} (h:w.cell? ⟨b,o,none⟩=some u):∀ j x,[u][j]? =some x->w.cell? ((⟨b,o,none⟩:Addr).add j)=some x:=by
 intro j x hj;cases j with
 | zero=>cases hj;rw[Addr.add_mid,lz];exact h
 | succ j=>simp at hj
end
section
open Go.RowKit
attribute [local irreducible] aE VS
end
section
open Go.RowKit
attribute [local irreducible] aE VS
theorem Hw (q:Rat):eH [q]=q:=by show 0+q=q;grind
end
set_option maxRecDepth 4000
section
open Go.RowKit
attribute [local irreducible] aE VS
end
section
open Go.RowKit
attribute [local irreducible] aE VS
theorem bf {w:World} {b off i sz:Nat} {cs:List Value} (hc:∀ (j:Nat) (u:Value),cs[j]? =some u->w.cell? ⟨b,off+i*sz+j,none⟩=some u) (k:Nat) (ds:List Value) (hd:ds <+:cs.drop k):∀ (j:Nat) (u:Value),ds[j]? =some u->w.cell? ((⟨b,off+((i:Nat):Int).toNat*sz+k,none⟩:Addr).add j)=some u:=by
 intro j u hj;obtain⟨t,ht⟩:=hd;rw[Addr.add_mid,bh,xg];refine hc (k+j) u ?_;rw[<-oo,<-ht,jo (bd.1 hj).1];exact hj
end
section
open Go.RowKit
attribute [local irreducible] aE VS
end
section
open Go.RowKit
attribute [local irreducible] aE VS
end
section
open Go.RowKit
attribute [local irreducible] aE VS
end
section
open Go.RowKit
def Hp.ads:Nat->List (TypeId×List AV)->Hp
 | _,[]=>λ_=>none
 | i,c::r=>λn=>bif Nat.beq n i then some c else Hp.ads (i+1) r n
theorem Hp.Ah:∀ (l:List (TypeId×List AV)) (i n:Nat),Hp.ads i l n=if i<=n then l[n-i]? else none
 | [],i,n=>by unfold Hp.ads;simp
 | c::r,i,n=>by
   unfold Hp.ads;rw[Hp.Ah r (i+1) n];by_cases h:n=i
   ·subst h;simp
   ·have hb:Nat.beq n i=false:=by rw[<-Fl,Nat.beq_eq];exact h
    rw[hb,cond_false];by_cases h1:i<=n
    ·rw[if_pos h1,if_pos ae,show n-i=(n-(i+1))+1 by omega];rfl
    ·rw[if_neg h1,if_neg ae]
def adB (N:Nat) (ad:List Nat):Nat->Nat:=λi=>ad.getD (i-2*N) 0
structure dv (K:KC) (N:Nat) (ad:List Nat) (l:List (TypeId×List AV)) (w:World):Prop where
 len:ad.length=l.length
 nodup:ad.Nodup
 cls:∀ (j:Nat) (g:Nat) (c:TypeId×List AV),ad[j]? =some g->l[j]? =some c->aQ w g c.1 (c.2.map (AV.leaf (adB N ad))).toArray
 ok:∀ c∈l,K.fz c.1=false/\c.2.all bm=true
 ids:∀ c∈l,∀ k∈bj c.2,2*N<=k/\k<2*N+l.length
theorem dv.ad {K:KC} {N:Nat} {ad:List Nat} {l:List (TypeId×List AV)} {w:World} (h:dv K N ad l w):jA K ad w:=λg hg=>by
 obtain⟨j,hj⟩:=List.mem_iff_getElem?.1 hg;have hlt:=(bd.1 hj).1;obtain⟨c,hc⟩:∃ c,l[j]? =some c:=⟨_,aH (by rw[<-h.len];exact hlt)⟩;obtain⟨h1,h2⟩:=h.ok c (dc hc);exact⟨c.1,_,h.cls j g c hj hc,h1,fx h2⟩
theorem qb {P:Program} {w w':World} {N:Nat} {K:KC} {SU:TypeId->Bool} {ti:TypeId->Option TI} {keep:∀ b,b<w.heap.size->K.S b} {ad:List Nat} {hd:ad.Nodup} {ha:jA K ad w} {β:Nat->Nat} {i:Nat} {t:TypeId} {cs:List AV} (h:oL (uM P w N K SU ti keep ad hd ha) β w' i t cs) (j g:Nat) (hi:i=2*N+j) (hj:ad[j]? =some g):β i=g/\aQ w' g t (cs.map (AV.leaf β)).toArray:=by
 have h1:fF N ad w i (β i):=h.new;unfold fF at h1;rw[if_pos ae,hi,KH,hj] at h1;have h2:g=β i:=by rw[hi];simpa using h1
 exact⟨h2.symm,h2▸h.cls⟩
section
variable {C:Cx} {F:Fr} {H:Hp} {w:World} {m:Option (List FuncId)} {full:Array Oper} {K:Fr->Hp->World->Prop} {o:Oper} {r:List Oper} {Q:Exit->Act->World->Prop} {k:List It}
def wB (F:Fr) (β:Nat->Nat):List (Nat×AV)->Prop
 | []=>True
 | p::r=>(∃ u x,F p.1=some u/\u.bu β=x/\p.2=.val x)/\wB F β r
theorem wB.mem {β:Nat->Nat}:∀ {L:List (Nat×AV)} {d:Nat} {v:AV},wB F β L->(d,v)∈L->∃ u x,F d=some u/\u.bu β=x/\v=.val x
 | p::r,d,v,h,hm=>by
   rcases dG.1 hm with rfl|hm
   ·exact h.1
   ·exact wB.mem h.2 hm
theorem VS.jZ (D:World->Cx) (hP:∀ w,(D w).pd=C.pd) (hN:∀ w,(D w).N=C.N) (hO:∀ w,(D w).Old w)
  (h:∀ w' β,aK C.K w w'->C.Old w'->Ends C β H w'->∃ L:List (Nat×AV),wB F β L/\VS (D w') Q k (Fr.of L) (λ_=>none) w'):VS C Q k F H w:=λβ a w' hr hk=>by
 obtain⟨L,hL,hv⟩:=h w' β hk hr.old ⟨hr.own,hr.apart⟩;have:=hv β a w' ⟨hr.defers.trans (au Prod.snd (hP w')).symm,by rw[hN];exact hr.size,λd v hd=> ?_,λi t cs hi=>(by cases hi),λi j hi=>absurd aa hi,λd v hd i hi=> ?_,λd v hd=> ?_,⟨λi t cs hi=>(by cases hi),λi t cs hi=>(by cases hi),λi hi=>aa⟩,hO w'⟩ (aK.refl _ _)
 ·rw[show (D w').P=C.P from au Prod.fst (hP w')] at this;exact this
 ·obtain⟨u,x,h1,rfl,rfl⟩:=hL.mem (Fr.gZ hd);exact hr.tmp d u h1
 ·obtain⟨u,x,h1,rfl,rfl⟩:=hL.mem (Fr.gZ hd);cases hi
 ·obtain⟨u,x,h1,rfl,rfl⟩:=hL.mem (Fr.gZ hd);rw[hN];exact hr.fits d u h1
end
end
section
open Go.RowKit
attribute [local irreducible] aE VS
section
variable {F F':Fr} {H H':Hp} {w w1:World} {N:Nat} {l':List Oper} {Q:Exit->Act->World->Prop} {k:List It} {id:Nat} {ops:Array Oper}
end
theorem QA (q:Rat):rq (decide (q.num<0)) (limbs q.num.natAbs) (decide ((q.den:Int)<0)) (limbs (q.den:Int).natAbs)=q:=by
 unfold rq;rw[kC,kC,CY]
end
section
open Go.RowKit
abbrev Kls:=Nat×Rat
set_option maxRecDepth 4000
def ElB {α:Type} (E:World->List Value->α->Prop):Prop:=∀ {w w':World} {cs:List Value} {a:α},E w cs a->ax w w'->E w' cs a
variable {α:Type} {E:World->List Value->α->Prop}
theorem gp.b {sz:Nat} (h:gp E sz):ElB E:=λhE hb=>h.kp hE (Kp.of hb)
variable {es:List α} {v:Value} {w:World}
theorem bK.qB {sz:Nat} {w':World} (hE:ElB E) (h:bK E sz w v es) (hb:ax w w'):bK E sz w' v es:=by
 obtain⟨p,c,hv,h1,h2,h3⟩:=h;refine⟨p,c,hv,h1,h2,λi q hq=> ?_⟩;obtain⟨b,off,cs,hp,hc,hr⟩:=h3 i q hq;exact⟨b,off,cs,hp,λj u hj=>hb.cell (hc j u hj),hE hr hb⟩
def Br (kk:Nat) (w:World) (cs:List Value) (q:Rat):Prop:=∃ s p n c t y m d,cs=[.bool s,.slice p n c,.bool t,.slice y m d]/\dk w (.agg #[.bool s,.slice p n c,.bool t,.slice y m d]) q kk
theorem Ai (kk:Nat):gp (Br kk) 4 where
 kp:=λh k=>by
  obtain⟨s,p,n,c,t,y,m,d,hv,h2⟩:=h;exact⟨_,_,_,_,_,_,_,_,hv,h2.kp k⟩
 len:=λh=>by
  obtain⟨s,p,n,c,t,y,m,d,rfl,_⟩:=h;rfl
 ok:=λh=>by
  obtain⟨s,p,n,c,t,y,m,d,rfl,_⟩:=h;rfl
def jR (kk:Nat) (w:World) (cs:List Value) (r:List Rat):Prop:=∃ v,cs=[v]/\bK (Br kk) 4 w v r
theorem jE (kk:Nat):ElB (jR kk):=λh hb=>by
 obtain⟨v,hv,h1⟩:=h;exact⟨v,hv,h1.qB (Ai kk).b hb⟩
theorem bK.sl {sz:Nat} (h:bK E sz w v es):∃ p c,v=.slice p es.length c:=by
 obtain⟨p,c,hv,_⟩:=h;exact⟨p,c,hv⟩
attribute [local irreducible] aE VS
end
set_option maxRecDepth 4000
section
open Go.RowKit
attribute [local irreducible] aE VS
def fp {α:Type} (E:World->List Value->α->Prop) (sz:Nat) (t:TypeId) (i:Nat) (X:AV) (M:List (Nat×(TypeId×List AV))) (w:World) (es:List α):Prop:=
 (es=[]/\X=.val (.slice none 0 0)/\M=[])\/∃ n c vs sp,X=.row i 0 n c/\M=[(i,(t,vs.flatten.map .val++sp))]/\fO E sz w n c vs sp es
theorem fp.kp {α:Type} {E:World->List Value->α->Prop} {sz:Nat} {t:TypeId} {i:Nat} {X:AV} {M:List (Nat×(TypeId×List AV))} {w w':World} {es:List α} (hE:gp E sz) (h:fp E sz t i X M w es) (k:Kp UU w w'):fp E sz t i X M w' es:=by
 rcases h with h|⟨n,c,vs,sp,h1,h2,h3⟩
 ·exact .inl h
 ·exact .inr ⟨n,c,vs,sp,h1,h2,h3.kp hE k⟩
def Hp.mask (l:List Nat) (H:Hp):Hp:=λi=>bif l.any (Nat.beq i) then none else H i
def Dd (H:Hp):List Nat->Prop
 | []=>True
 | i::r=>H i=none/\Dd H r
theorem Dd.eq {H:Hp}:∀ {l:List Nat},Dd H l->∀ i,l.any (Nat.beq i)=true->H i=none
 | [],_,i,h=>by cases h
 | j::r,hn,i,h=>by
   rw[List.any_cons,Bool.or_eq_true] at h;rcases h with h|h
   ·rw[lW h];exact hn.1
   ·exact Dd.eq hn.2 i h
theorem Hp.mask_eq {H:Hp} {l:List Nat} (h:Dd H l):Hp.mask l H=H:=by
 funext i
 unfold Hp.mask;cases hb:l.any (Nat.beq i) with
 | true=>exact (h.eq i hb).symm
 | false=>rfl
theorem VS.mask {C:Cx} {Q:Exit->Act->World->Prop} {F:Fr} {H:Hp} {w:World} {stk:List It} (l:List Nat) (h:Dd H l) (k:VS C Q stk F (Hp.mask l H) w):VS C Q stk F H w:=by rw[Hp.mask_eq h] at k;exact k
section
variable {C:Cx} {β:Nat->Nat} {H:Hp} {w w1:World} {ids:List Nat} {X:AV} {M:List (Nat×(TypeId×List AV))}
end
def RtQ (kk:Nat) (w:World) (cs:List Value) (q:Rat):Prop:=∃ s p n c t y m d,cs=[.bool s,.slice p n c,.bool t,.slice y m d]/\iE w (.agg #[.bool s,.slice p n c,.bool t,.slice y m d]) q/\lR q kk
set_option maxRecDepth 4000
section
variable {F F':Fr} {H H':Hp} {w w1:World} {N:Nat} {l':List Oper} {Q:Exit->Act->World->Prop} {k:List It} {id:Nat} {ops:Array Oper}
end
variable {kk:Nat} {w:World}
theorem Br.mk {s t:Bool} {p y:Option Addr} {n c m d:Nat} {q:Rat} (h:dk w (.agg #[.bool s,.slice p n c,.bool t,.slice y m d]) q kk):Br kk w [.bool s,.slice p n c,.bool t,.slice y m d] q:=⟨_,_,_,_,_,_,_,_,rfl,h⟩
set_option maxRecDepth 4000
theorem RtQ.tot {cs:List Value} {q:Rat} (h:RtQ kk w cs q):Br kk w cs q:=by
 obtain⟨s,p,n,c,t,y,m,d,rfl,h1,h2⟩:=h;exact .mk (h1.to h2)
set_option maxRecDepth 4000
theorem bK.rtot {v:Value} {qs:List Rat} {k:Nat} (h:bK (Br k) 4 w v qs):tE w v qs k:=by
 obtain⟨p,c,hv,h1,h2,h3⟩:=h;refine⟨p,c,hv,h1,h2,λi q hq=> ?_⟩;obtain⟨b,off,cs,hp,hc,⟨s,p',n,c',t,r,m,d,rfl,hr⟩⟩:=h3 i q hq;exact⟨b,off,s,p',n,c',t,r,m,d,hp,hc,hr⟩
end
section
open Go.RowKit
abbrev gK:Nat:=9223372036854775807
section
variable {H:Type} {enc:TypeId×Value->H} {w:World} {held:Bool}
theorem u8_wf {n:Int} (h:(Lit.int .u8 n).wf=true):0<=n/\n<256:=by
 simp[Lit.wf,IntKind.min,IntKind.max,IntKind.signed,IntKind.bits] at h;omega
theorem bc (cs:List Value) (o n m:Nat) (h:m=o+n):cs.drop o=(cs.drop o).take n++cs.drop m:=by
 subst h;have:=(oi n (cs.drop o)).symm;rw[List.drop_drop] at this;exact this
end
section
variable {H:Type} {enc:TypeId×Value->H} {w:World} {held:Bool}
set_option maxRecDepth 100000 in
theorem jF {α:Type} {E:World->List Value->α->Prop} {sz:Nat} {t e:TypeId} (hu:Tryz.prog.underlying t=some (.slice e)) (hc:Tryz.prog.cellsOf e=sz) (yS:0<sz)
  (ik:∀ {fuel:Nat} {cs:List Value} {x:DataW H×List MemPlace},DataW.trod enc Tryz.prog w 0 (λ_=>true) held fuel e cs=some x->∃ a,E w cs a)
  {fuel:Nat} {cs:List Value} {x:DataW H×List MemPlace} (hf:DataW.trod enc Tryz.prog w 0 (λ_=>true) held fuel t cs=some x):∃ (p:Option Addr) (n c:Nat) (es:List α),cs=[.slice p n c]/\bK E sz w (.slice p n c) es:=by
 rcases DataW.trod_slice hu hf with ⟨e,_⟩|⟨a,len',cap',elems,rest,n,_,e,_,_,hl,hm,hle,Ct,_⟩
 ·exact⟨none,0,0,[],e,bK.nil _ _ _⟩
 ·refine⟨some a,len',cap',?_⟩;rw[hc] at Ct
  have each:∀ i,i<len'->∃ q,∃ b off cs,some a=some ⟨b,off,none⟩/\(∀ (j:Nat) (u:Value),cs[j]? =some u->w.cell? ⟨b,off+i*sz+j,none⟩=some u)/\E w cs q:=by
   intro i hi;obtain⟨y,hy⟩:∃ y,elems[i]? =some y:=⟨_,aH ae⟩;have hb:=Ct i hi;rw[hy,KL] at hb;obtain⟨cs,hcs,ht⟩:=hb;obtain⟨q,hq⟩:=ik ht;obtain⟨_,hlen,hcell⟩:=World.cells?_some hcs;obtain⟨b,off,spot⟩:=a
   have hspot:spot=none:=by
    obtain⟨y0,Du⟩:∃ y,elems[0]? =some y:=⟨_,aH ae⟩;have rS:=Ct 0 ae;rw[Du,KL] at rS;obtain⟨cs0,hcs0,ht0⟩:=rS;obtain⟨_,hlen0,hcell0⟩:=World.cells?_some hcs0;have h00:=hcell0 0 yS;rw[aH ae] at h00;have g0:=World.cell?_spot h00;simpa [Addr.add] using g0
   subst hspot;refine⟨q,b,off,cs,aa,λj u hj=> ?_,hq⟩;have hjl:j<sz:=by have:=(bd.1 hj).1;omega
   have:=hcell j hjl;rw[WideShapes.add_plain,WideShapes.add_plain] at this;rw[this];exact hj
  obtain⟨qs,hql,La⟩:=Qx len' each;subst hql;exact⟨qs,e,_,_,aa,hl,hm,λi q hq=>La i q hq⟩
end
end
set_option maxRecDepth 4000
section
open Go.RowKit
attribute [local irreducible] aE VS
theorem fK {w:World} {b off z:Nat} {v:Value} (hc:∀ (j:Nat) (u:Value),[v][j]? =some u->w.cell? ⟨b,off+z*1+j,none⟩=some u):∀ (j:Nat) (u:Value),[v][j]? =some u->w.cell? ((⟨b,off+((z:Nat):Int).toNat*1,none⟩:Addr).add j)=some u:=λj u hj=>by rw[Addr.add_mid,bh];exact hc j u hj
set_option maxRecDepth 4000
theorem has_any (v:Value) (t:List (List Rat)) (xs:List Rat) (e c:Nat) (kk:Nat) (w:World) (hv:bK (jR kk) 1 w v t) (hx:t[e]? =some xs) (hc:c<xs.length):
  Calls Tryz.prog 63 #[.agg #[v],.agg #[.int .i64 (e:Int),.int .i64 (c:Int)]] w λo w'=>o=.returned (.bool true)/\ax w w':=by
 obtain⟨p,cp,rfl⟩:=hv.sl;have ik:e<t.length:=(bd.1 hx).1;obtain⟨b,off,Bs,rfl,hcc,⟨xv,rfl,Lp⟩⟩:=hv.at hx;obtain⟨p3,c3,rfl⟩:=Lp.sl;refine ai (C:=aY Tryz.prog w _) (args:=[_,_]) Cj aa Tryz.ntmps63 (cG aa) ?_;refine ag ?_;refine VO.fix 8 aa (au (λb=>AV.val (.bool b)) (aU (show (e:Int)>=0 by omega))) ?_;refine ag ?_;refine VO.fix 16 aa (au (λb=>AV.val (.bool b)) (aU (show (e:Int)<(t.length:Int) by omega))) ?_;refine ag ?_;refine VO.fix 21 aa (au (λb=>AV.val (.bool b)) (aU (show (c:Int)>=0 by omega))) ?_;refine ag ?_;refine VO.cond aa fb (wV aa ?_);refine ag ?_;refine VO.read aa [.slice p3 xs.length c3] aa (fK hcc) (wV aa ?_);refine ag ?_;refine ck ?_;intro wz kz bz;exact⟨au (λb=>Ending.returned (.bool b)) (aU (show (c:Int)<(xs.length:Int) by omega)),bz⟩
theorem at_any (v:Value) (t:List (List Rat)) (xs:List Rat) (x:Rat) (e c:Nat) (kk:Nat) (w:World) (hv:bK (jR kk) 1 w v t) (hx:t[e]? =some xs) (hc:xs[c]? =some x) (hk:kk<=1000):
  Calls Tryz.prog 30 #[.agg #[v],.int .i64 (e:Int),.int .i64 (c:Int)] w λo w'=>∃ r,o=.returned r/\cA w' w.heap.size r x/\ax w w':=by
 obtain⟨p,cp,rfl⟩:=hv.sl;have ik:e<t.length:=(bd.1 hx).1;have cZ:c<xs.length:=(bd.1 hc).1;refine ai (C:=aY Tryz.prog w _) (args:=[_,_,_]) yO aa Tryz.ntmps30 (cG aa) ?_;refine ag ?_;refine VO.cB aa aa (fk Cj) (λcV eG db=>has_any _ t xs e c kk cV (hv.qB (jE kk) db) hx cZ) (λcV eG db w1 bF fM _ bb1=>wV aa ?_);refine ag ?_;obtain⟨b,off,Bs,rfl,hcc,⟨xv,rfl,Lp⟩⟩:=hv.at hx
 obtain⟨b2,QB,csx2,hp3,lS,⟨s,pp,n,cx,tt,y,mm,d,rfl,hrt⟩⟩:∃ b off cs,xv=.slice (some ⟨b,off,none⟩) xs.length (match xv with | .slice _ _ c=>c|_=>0)/\(∀ (j:Nat) (u:Value),cs[j]? =some u->w.cell? ⟨b,off+c*4+j,none⟩=some u)/\Br kk w cs x:=by
  obtain⟨p3,c3,rfl⟩:=Lp.sl;obtain⟨b2,QB,cs2,rfl,h1,h2⟩:=Lp.at hc;exact⟨b2,QB,cs2,aa,h1,h2⟩
 rw[hp3] at hcc;generalize (match xv with | .slice _ _ c=>c|_=>0)=c3 at hcc hp3;refine VO.cond aa fb (wV aa ?_);refine VO.read aa [.slice (some ⟨b2,QB,none⟩) xs.length c3] aa (fK hcc) (wV aa ?_);refine ag ?_;refine VO.cond aa fb (wV aa ?_);refine VO.read aa [.bool s,.slice pp n cx,.bool tt,.slice y mm d] aa (bf lS 0 _ ⟨[],aa⟩) (wV aa ?_);refine ag ?_;refine VO.GK aa (fk Tryz.func39) (λeD β gO fG ho=>((tG _ [x] kk eD (Db (ho.own 22 (.base (ak.2 aa)) _ _ aa) [] (vs:=[[.bool s,.slice pp n cx,.bool tt,.slice y mm d]]) (by rfl) aa (kZ.cons (hrt.kp (Kp.of (U:=UU) fG)) kZ.nil) (cG aa) cW) (by unfold iL uT;simp;omega)).mono (λo w2 h=>And.intro h fG.size)).mono ?_);rintro o w2 ⟨⟨r2,rfl,q2,-,cJ⟩,hsz2⟩;rw[Hw] at q2;obtain⟨s2,p2,n2,c2,t2,y2,m2,d2,rfl⟩:=q2.form;refine dB cJ ?_;intro jH _ bb2;refine ck ?_;intro wz kz bz;exact⟨_,aa,(q2.kp kz).mono hsz2,bz⟩
end
section
open Go.RowKit
def eT (o:Oper):Bool:=match o.op with | .defer _=>false|_=>true
def dW (F:Fence):Prop:=F=Fence.wide\/∃ l,F=Fence.wide.inRound l
theorem dW.wide:dW Fence.wide:=.inl rfl
theorem dW.round (l:Nat):dW (Fence.wide.inRound l):=.inr ⟨l,rfl⟩
section
variable {Fe:Fence} {n:Nat} {P:Program} {o:Oper} {a:Act} {w:World} {K:Act->World->Prop} {Q:Exit->Act->World->Prop}
theorem dW.fn (h:dW Fe) (f:FuncId):Fe.fn f:=by rcases h with rfl|⟨l,rfl⟩ <;> trivial
theorem dW.depth (h:dW Fe):Fe.depth=none:=by rcases h with rfl|⟨l,rfl⟩ <;> rfl
theorem dW.calls (h:dW Fe) {f:FuncId} {args:Array Value} {R:Ending->World->Prop} (hc:Calls P f args w R):CallsIn Fe n P f args w R:=by
 have:=(callsIn_wide (n:=n)).2 hc;rcases h with rfl|⟨l,rfl⟩
 ·exact this
 ·exact this
theorem dW.rows (h:dW Fe) {r:String} {args:Array Value} {R:Value->World->Prop} (hc:Rows P r args w R):RowsIn Fe n P r args w R:=by
 have:RowsIn Fence.wide n P r args w R:=λc cs _=>let ⟨v,w',r,s⟩:=hc c cs;⟨v,w',r,stepsIn_wide.2 s⟩;rcases h with rfl|⟨l,rfl⟩
 ·exact this
 ·exact this
theorem dW.upon (h:dW Fe) {r:Result Next} (hu:o.upon P a K Q r):o.uponIn Fe n P a K Q r:=by
 have hd:Fe.depth.isSome=true->1<=n:=λe=>by rw[h.depth] at e;cases e
 cases r with
 | ok x w'=>
   cases x with
   | value v=>exact hu
   | skip=>exact hu
   | defer d=>exact hu
   | enter f args=>exact⟨hd,h.calls hu⟩
   | row r args=>exact⟨hd,h.rows hu⟩
   | round l f tmps assign body=>exact hu.elim
   | _=>exact hu.elim
 | halt x w'=>
   cases x with
   | panic v=>exact hu
   | _=>exact hu.elim
theorem dW.sem (h:dW Fe) (hd:eT o=true):o.semAt Fe.round a.eval=execOp a.eval o:=by
 rcases h with rfl|⟨l,rfl⟩
 ·rfl
 ·exact Oper.semAt_some l _ _ λc e=>by unfold eT at hd;rw[e] at hd;cases hd
theorem dW.op (h:dW Fe) (hd:eT o=true) (hw:o.wp P a w K Q):o.wpIn Fe n P a w K Q:=by
 refine⟨λf _=>h.fn f,?_⟩;rw[h.sem hd];exact h.upon hw
theorem dW.opAt (h:dW Fe) {ops:Array Oper} (Hx:¬ LetsOut Q) (hd:ops.toList.all eT=true) {i:Nat} (hw:wpOp P ops Q i K a w):wpOpIn Fe n P ops Q i K a w:=by
 unfold wpOp at hw;unfold wpOpIn;cases ho:ops[i]? with
 | none=>rw[ho] at hw;exact hw
 | some o=>
   rw[ho] at hw;simp only at hw ⊢;have Og:eT o=true:=bP.1 hd o (by rw[<-Array.getElem?_toList] at ho;exact dc ho)
   split at hw
   ·rename_i h1;rw[if_pos h1];exact h.op Og (hw.resolve_right λe=>Hx e.2)
   ·rename_i h1;rw[if_neg h1];exact⟨λf _=>h.fn f,hw⟩
theorem dW.any (h:dW Fe) {md:Region.Mode} {ops:Array Oper} (Hx:¬ LetsOut Q) (hd:ops.toList.all eT=true):∀ (fuel:Nat) (listed:Array Bool) (a:Act) (w:World),wpAny P md ops Q fuel listed a w->wpAnyIn Fe n P md ops Q fuel listed a w
 | 0,_,_,_,hw=>hw
 | fuel+1,listed,a,w,hw=>⟨hw.1,λi hi=>wpOpIn_mono (λa w hh=>dW.any h Hx hd fuel _ a w hh) (h.opAt Hx hd (hw.2 i hi))⟩
end
section
variable {Fe:Fence} {n:Nat} {C:Cx} {Q:Exit->Act->World->Prop} {ml:List FuncId} {full:Array Oper}
theorem kK (hB:dW Fe) (hC:C.Ok) {m:Option (List FuncId)} {K:Fr->Hp->World->Prop} {tl:List Oper} (hQ:∀ β F H w a w',K F H w->Rel C β F H a w'->aK C.K w w'->wpListIn Fe n C.P full Q tl a w'):
  ∀ (l:List Oper),l.all eT=true->∀ (β:Nat->Nat) (F:Fr) (H:Hp) (w:World) (a:Act) (w':World),aE C m full l K F H w->Rel C β F H a w'->aK C.K w w'->wpListIn Fe n C.P full Q (l++tl) a w'
 | [],_,β,F,H,w,a,w',h,hr,hk=>hQ β F H w a w' h hr hk
 | o::r,hd,β,F,H,w,a,w',h,hr,hk=>by
   rw[List.all_cons,gF] at hd;show wpListIn Fe n C.P full Q (o::(r++tl)) a w';refine wpListIn_step λK' hK'=> ?_;have:=oP hC (next:=K') (Q:=Q) (k:=aE C m full r K) h hr hk λbM F' H' w1 a' bI h1 h2 h3=>hK' _ _ (kK hB hC hQ r hd.2 bM F' H' w1 a' bI h1 h2 h3)
   split at this
   ·rename_i hw;rw[if_pos hw];exact hB.op hd.1 this
   ·rename_i hw;rw[if_neg hw];exact⟨λf _=>hB.fn f,this⟩
theorem QC (hB:dW Fe) (Hx:¬ LetsOut Q) (hC:C.Ok) (hm:C.P.follows .mixedOrders=true) (kH:mv C.SU ml full=true) (hd:full.toList.all eT=true) {K:Fr->Hp->World->Prop} (hQ:∀ β F H w a w',K F H w->Rel C β F H a w'->aK C.K w w'->Q .normal a w')
  {id:Nat} {β:Nat->Nat} {F:Fr} {H:Hp} {w:World} {a:Act} {w':World} (h:aE C (some ml) full full.toList K F H w) (hr:Rel C β F H a w') (hk:aK C.K w w'):(Code.region id full true).wpIn Fe n C.P Q a w':=by
 refine wpIn_region_any hm (hB.any Hx hd _ _ _ _ ?_);refine CO hC kH hQ full.size (Array.replicate full.size false) (List.range full.size) β F H w a w'.drew cf List.pairwise_lt_range ?_ cf ?_ ?_ hr.drew hk.drew
 ·intro x;rw[me];constructor
  ·intro hx;refine⟨hx,?_⟩;simp[Array.getD_eq_getD_getElem?,Array.getElem?_replicate,hx]
  ·exact λh=>h.1
 ·intro j hj hl;simp[Array.getD_eq_getD_getElem?,Array.getElem?_replicate,hj] at hl
 ·have:(List.range full.size).filterMap (full[·]?)=full.toList:=by
   rw[List.range_eq_range',<-yK];exact vY full.toList 0 (λj=>cf)
  rw[this];exact h
end
def xG (Fe:Fence) (P:Program) (Q:Exit->Act->World->Prop):List It->Exit->Act->World->Prop
 | []=>Q
 | .code c::k=>Exit.then (λa w=>c.wpIn Fe 0 P (xG Fe P Q k) a w) (xG Fe P Q k)
 | .jd id::k=>Exit.inBlock id (xG Fe P Q k)
 | .back _::k=>xG Fe P Q k
 | .scope::k=>xG Fe P Q k
def jS (Fe:Fence) (C:Cx) (Q:Exit->Act->World->Prop) (stk:List It) (F:Fr) (H:Hp) (w:World):Prop:=
 ∀ β a w',Rel C β F H a w'->aK C.K w w'->xG Fe C.P Q stk .normal a w'
section
variable {Fe:Fence} {C:Cx} {Q:Exit->Act->World->Prop} {k:List It} {F F':Fr} {H H':Hp} {w:World} {id:Nat} {ops:Array Oper} {l':List Oper}
theorem jS.seq {x y:Code} (h:jS Fe C Q (.code x::.code y::k) F H w):jS Fe C Q (.code (.seq x y)::k) F H w:=λβ a w' hr hk=>wpIn_seq (h β a w' hr hk)
theorem jS.block {c:Code} (h:jS Fe C Q (.code c::.jd id::k) F H w):jS Fe C Q (.code (.block id c)::k) F H w:=λβ a w' hr hk=>wpIn_block (h β a w' hr hk)
theorem jS.jd (h:jS Fe C Q k F H w):jS Fe C Q (.jd id::k) F H w:=λβ a w' hr hk=>h β a w' hr hk
theorem jS.region (hB:dW Fe) (hC:C.Ok) (hd:ops.toList.all eT=true) (e:kW C ops 80 ops.toList F H=(l',F',H')) (h:aE C none ops l' (jS Fe C Q k) F' H' w):jS Fe C Q (.code (.region id ops false)::k) F H w:=λβ a w' hr hk=>by
 refine wpIn_region_list ?_;rw[<-eX ops.toList];exact kK hB hC (tl:=[]) (λβ F H w a w' h hr hk=>h β a w' hr hk) ops.toList hd β F H w a w' (VO.run 80 e h) hr hk
theorem jS.draw (hB:dW Fe) (Hx:¬ LetsOut (xG Fe C.P Q k)) (hC:C.Ok) (hm:C.P.follows .mixedOrders=true) (hd:ops.toList.all eT=true) (e:kW C ops 80 ops.toList F H=(l',F',H')) (h:aE C (some []) ops l' (jS Fe C Q k) F' H' w) (kH:mv C.SU [] ops=true:=by kernel_rfl):jS Fe C Q (.code (.region id ops true)::k) F H w:=λβ a w' hr hk=>
 QC hB Hx hC hm kH hd (λβ F H w a w' h hr hk=>h β a w' hr hk) (VO.run 80 e h) hr hk
theorem jS.start {β:Nat->Nat} {a:Act} {w':World} {c:Code} (h:jS Fe C Q [.code c] F H w) (hr:Rel C β F H a w') (hk:aK C.K w w'):c.wpIn Fe 0 C.P Q a w':=h β a w' hr hk
theorem jS.done (h:∀ β a w',Rel C β F H a w'->aK C.K w w'->Q .normal a w'):jS Fe C Q [] F H w:=h
end
def Fr.vals (L:List (Nat×Value)):Fr:=Fr.of (L.map λp=>(p.1,.val p.2))
def Ex (F:Fr):List (Nat×Value)->Prop
 | []=>True
 | p::r=>F p.1=some (.val p.2)/\Ex F r
theorem Ex.mem {F:Fr}:∀ {L:List (Nat×Value)} {p:Nat×Value},Ex F L->p∈L->F p.1=some (.val p.2)
 | q::r,p,h,hm=>by
   rcases dG.1 hm with rfl|hm
   ·exact h.1
   ·exact Ex.mem h.2 hm
variable {L:List (Nat×Value)}
theorem uW {d:Nat} {v:AV} (h:Fr.vals L d=some v):∃ u,v=.val u/\(d,u)∈L:=by
 have:=Fr.gZ h;obtain⟨p,hp,e⟩:=ey.1 this;cases e;exact⟨p.2,aa,hp⟩
structure Knows (N:Nat) (L:List (Nat×Value)) (a:Act) (ds:List Deferred:=[]):Prop where
 defers:a.defers=ds
 size:a.tmps.size=N
 tmp:∀ p∈L,p.1<N/\a.tmps.getD p.1 undef=p.2
variable {a:Act} {C:Cx} {w:World}
theorem Knows.rel (h:Knows C.N L a C.ds) (ho:C.Old w):Rel C (λ_=>0) (Fr.vals L) (λ_=>none) a w:=
 ⟨h.defers,h.size,λd v hd=>by obtain⟨u,rfl,hm⟩:=uW hd;exact (h.tmp _ hm).2,λi t cs hi=>(by cases hi),λi j hi=>absurd aa hi,λd v hd i hi=>(by obtain⟨u,rfl,hm⟩:=uW hd;cases hi),λd v hd=>(by obtain⟨u,rfl,hm⟩:=uW hd;exact (h.tmp _ hm).1),⟨λi t cs hi=>(by cases hi),λi t cs hi=>(by cases hi),λi hi=>aa⟩,ho⟩
theorem Rel.knows {β:Nat->Nat} {F:Fr} {H:Hp} (hr:Rel C β F H a w) (hL:Ex F L):Knows C.N L a C.ds:=
 ⟨hr.defers,hr.size,λp hp=>⟨hr.fits _ _ (hL.mem hp),hr.tmp _ _ (hL.mem hp)⟩⟩
def De (N:Nat) (J:Nat->List (Nat×Value)->World->Prop) (n:Nat) (a:Act) (w:World) (ds:List Deferred:=[]):Prop:=∃ L,J n L w/\Knows N L a ds
section
variable {C:Cx} {Q:Exit->Act->World->Prop} {k:List It} {F:Fr} {H:Hp} {w:World} {J:Nat->List (Nat×Value)->World->Prop}
theorem VS.loopR (D:World->Cx) (hP:∀ w,(D w).pd=C.pd) (hN:∀ w,(D w).N=C.N) (hO:∀ w,(D w).Old w) (n0:Nat) {body:Code} (h0:∀ w',aK C.K w w'->C.Old w'->∃ L,Ex F L/\J n0 L w')
  (round:∀ n L W,J n L W->VS (D W) Q (.code body::.back (λa w=>∃ m,m<n/\De C.N J m a w C.ds)::k) (Fr.vals L) (λ_=>none) W):VS C Q (.code (.loop body)::k) F H w:=λβ a w' hr hk=>by
 obtain⟨L,h1,h2⟩:=h0 w' hk hr.old;refine wp_loop_ghost (λn a w=>De C.N J n a w C.ds) n0 ⟨L,h2,hr.knows h1⟩ ?_;rintro n a1 w1 ⟨L1,hJ,hkn⟩;have PW:Knows (D w1).N L1 a1 (D w1).ds:=by rw[hN,show (D w1).ds=C.ds from au Prod.snd (hP w1)];exact hkn
 have:=round n L1 w1 hJ _ a1 w1 (PW.rel (hO w1)) (aK.refl _ _);rw[show (D w1).P=C.P from au Prod.fst (hP w1)] at this;exact this
theorem VS.backR {ds:List Deferred} {n N:Nat} (hN:C.N=N) (m:Nat) (hm:m<n) (L:List (Nat×Value)) (hL:Ex F L) (h:∀ w',aK C.K w w'->C.Old w'->J m L w') (oI:C.ds=ds:=by rfl):VS C Q (.back (λa w=>∃ m,m<n/\De N J m a w ds)::k) F H w:=λβ a w' hr hk=>by
 subst hN;subst oI;exact⟨m,hm,L,h w' hk hr.old,hr.knows hL⟩
theorem VS.Ey (hC:C.Ok) {fn:Func} {R:Ending->World->Prop} {vs:List AV} (h:jQ C F H fn.results.toList=some vs) (hR:∀ w' β,aK C.K w w'->C.Old w'->Ends C β H w'->R (.returned (mj (vs.map (AV.bu β)))) w') (oI:C.ds=[]:=by rfl):VS C (bodyPost C.P fn R) [] F H w:=
 λβ a w' hr hk=>⟨hr.defers.trans oI,_,rA hC hr h,hR w' β hk hr.old ⟨hr.own,hr.apart⟩⟩
end
variable {r:Loop} {l:Nat} {W:World}
theorem aK.put {K:KC} {r':Loop} (h:W.heap[l]? =some (.loop r)):aK K W (W.putObj l (.loop r')):=by
 have hg:=grownBy_putObj' W l (.loop r')
 have hne:∀ g o,W.heap[g]? =some o->(∀ q,o≠Obj.loop q)->(W.putObj l (.loop r')).heap[g]? =some o:=λg o ho hq=>by
  refine (hg.block g (gh.1 ho).1 λe=> ?_).trans ho;cases e;rw[h] at ho;cases ho;exact hq _ aa
 refine⟨hg.size,λa x _ hx=> ?_,λt g cur _ _ hc=>hne g _ hc λq e=>(by cases e),λg es c hc=>hne g _ hc λq e=>(by cases e)⟩;have hlt:=gP W a hx;obtain⟨o,ho⟩:∃ o,W.heap[a.block]? =some o:=⟨_,lV hlt⟩;rw[BP (w:=W) ((hne _ o ho λq e=> ?_).trans ho.symm)]
 ·exact hx
 ·subst e;simp only[World.cell?,ho] at hx;cases hx
theorem dP.put {ad:List Nat} {w:World} (h:dP ad w W) (hl:w.heap.size<=l) (o:Obj):dP ad w (W.putObj l o):=by
 have hg:=grownBy_putObj' W l o;refine⟨hg.os.trans h.os,hg.tape.trans h.tape,hg.output.trans h.output,aV h.size hg.size,λg AX hn=>(hg.block g (qj AX h.size) λe=> ?_).trans (h.jd g AX hn)⟩;cases e;omega
theorem aQ.put {b:Nat} {t:TypeId} {cs:Array Value} (h:aQ W b t cs) (hl:W.heap[l]? =some (.loop r)) (o:Obj):aQ (W.putObj l o) b t cs:=by
 have hg:=grownBy_putObj' W l o;refine (hg.block b h.lt λe=> ?_).trans h;cases e;have:=hl.symm.trans h;cases this
section
variable {C:Cx} {F:Fr} {H:Hp} {w:World} {Q:Exit->Act->World->Prop} {k:List It}
variable {R:Ending->World->Prop}
theorem Hy {f:FuncId} {fn:Func} {c:Code} {args:List Value} (hf:C.P.funcs[f]? =some fn) (hb:fn.body=some c) (hN:fn.ntmps=C.N) (ha:args.length<=C.N)
  (h:VS C (bodyPostM Fence.wide 0 C.P fn R) [.code c] (Fr.args 0 args) (λ_=>none) C.w0) (oI:C.ds=[]:=by rfl):Calls C.P f args.toArray C.w0 R:=by
 refine (callsIn_wide (n:=0)).1 (callsIn_of_wp_marks hf hb aj ((wpIn_wide (n:=0)).2 ?_));refine h (λ_=>0) _ C.w0 ⟨oI.symm,?_,λd v hd=> ?_,λi t cs hi=>(by cases hi),λi j hi=>absurd aa hi,λd v hd i hi=> ?_,λd v hd=> ?_,⟨λi t cs hi=>(by cases hi),λi t cs hi=>(by cases hi),λi hi=>aa⟩,C.pR⟩ (aK.refl _ _)
 ·simp[hN];omega
 ·obtain⟨u,rfl,_,h2⟩:=Fr.args_at args 0 d v hd;rw[Nat.sub_zero] at h2;show (args.toArray++_).getD d undef=u;have hlt:=(bd.1 h2).1;rw[fy,Array.getElem?_append_left (by simpa using hlt)];simp[h2]
 ·obtain⟨u,rfl,_⟩:=Fr.args_at args 0 d _ hd;cases hi
 ·obtain⟨u,rfl,_,h2⟩:=Fr.args_at args 0 d _ hd;rw[Nat.sub_zero] at h2;have:=(bd.1 h2).1;omega
theorem VS.retM (hC:C.Ok) {fn:Func} {vs:List AV} {us:List Value} (h:jQ C F H fn.results.toList=some vs) (hv:fE vs=some us) (hR:∀ w',aK C.K w w'->C.Old w'->R (.returned (mj us)) w') (oI:C.ds=[]:=by rfl):VS C (bodyPostM Fence.wide 0 C.P fn R) (.code .ret::k) F H w:=
 λβ a w' hr hk=>wp_ret (kI (by
  obtain⟨_,v,h1,h2⟩:=Ls hC h hv hR oI β a w' hr hk;show LeavesInM Fence.wide 0 C.P fn a.tmps R a.defers .returning w';rw[hr.defers.trans oI];exact⟨v,h1,h2⟩))
end
variable {a:Act} {C:Cx} {F:Fr} {H:Hp} {w:World}
theorem Rel.aA {β:Nat->Nat} {w':World} (hr:Rel C β F H a w) (hb:ax w w'):Rel C β F H a w':=
 ⟨hr.defers,hr.size,hr.tmp,λi t cs h=>⟨(hr.own i t cs h).new,(hr.own i t cs h).ty,(hr.own i t cs h).cls.aA hb,(hr.own i t cs h).ok⟩,hr.apart,hr.closed,hr.fits,hr.hp,C.aG hr.old hb⟩
def CK (C:Cx) (Q:Exit->Act->World->Prop) (k:List It) (full:Array Oper) (o:Oper) (F:Fr) (H:Hp) (w:World):Prop:=
 ∃ g args vs,stepOf C full F H o=.call (.fn g args)/\fE args=some vs/\xQ C.P g/\
   ∀ w1,aK C.K w w1->C.Old w1->Calls C.P g vs.toArray w1 λe w2=>∃ v,e=.returned v/\ax w1 w2/\∀ β a a',Rel C β F H a w1->Rel C β (F.bO o.dst (.val v)) H a' w2->aK C.K w w2->post C.P Q k .normal a' w2
theorem VS.regionC {Q:Exit->Act->World->Prop} {k:List It} (hC:C.Ok) {id:Nat} {ops:Array Oper} (j:Nat) {o:Oper} (hj:ops.toList.drop j=[o]) (hd:ops.toList.all eT=true) (ho:eT o=true)
  (h:aE C none ops (ops.toList.take j) (CK C Q k ops o) F H w):VS C Q (.code (.region id ops false)::k) F H w:=λβ a w' hr hk=>by
 refine (wpIn_wide (n:=0)).1 (wpIn_region_list ?_);rw[<-oi j ops.toList,hj];refine kK dW.wide hC (tl:=[o]) (λβ F H w a w' h hr hk=> ?_) (ops.toList.take j) (bP.2 λo ho=>bP.1 hd o (lX ho)) β F H w a w' h hr hk;obtain⟨g,args,vs,e,hv,hf,cZ⟩:=h;refine wpListIn_step λK hK=> ?_;have hb:stepOf C ops F H o≠.bad:=λe'=>by rw[e] at e';cases e'
 obtain⟨iw,⟨hw,hs⟩|⟨hw,hs⟩⟩:=gW hb
 ·rw[hs] at e;cases e
 ·rw[ny hr hw,if_pos rfl];refine dW.wide.op ho (DW hr (hs.symm.trans e) ?_);refine⟨hf,?_⟩;rw[gU hv,iu];refine (cZ w' hk hr.old).mono ?_;rintro e w2 ⟨v,rfl,cJ,QD⟩;refine⟨v,aa,hK _ _ ?_⟩;show post C.P Q k .normal _ w2;exact QD β a _ hr ((hr.aA cJ).put iw (v:=.val v) (λ_ hi=>by cases hi)) (hk.aG (aK.of cJ))
theorem dP.aA {w1 W:World} {ad:List Nat} (h:ax w w1) (k:dP ad w1 W) (hg:∀ g∈ad,w.heap.size<=g):ax w W:=
 Below.trans h ⟨k.os,k.tape,k.output,k.size,λg AX=>k.jd g (qj AX h.size) λhm=>by have:=hg g hm;omega⟩
variable {K:KC} {N g:Nat} {P:Program} {SU:TypeId->Bool} {ti:TypeId->Option TI} {ha:jA K [g] w}
theorem LN {keep:∀ b,b<w.heap.size->K.S b} {t:TypeId} {cs:List Value} (L:List (Nat×Value)) (d:Nat)
  (hkn:Knows N ((d,.pointer (some ⟨g,0,none⟩))::L) a) (hc:aQ w g t cs.toArray) (ht:K.fz t=false) (hk:cs.all aO=true):
  Rel (uM P w N K SU ti keep [g] (jY g) ha) (λ_=>g) (Fr.put (Fr.vals L) d (.box (2*N) 0)) (Hp.one (2*N) t cs) a w:=by
 have hF:∀ q v,Fr.put (Fr.vals L) d (.box (2*N) 0) q=some v->(q=d/\v=.box (2*N) 0)\/∃ u,v=.val u/\(q,u)∈L:=λq v hq=>by
  rw[Fr.du] at hq
  split at hq
  ·rename_i e;cases hq;exact .inl ⟨e,aa⟩
  ·exact .inr (uW hq)
 have hH:∀ i t' ew,Hp.one (2*N) t cs i=some (t',ew)->i=2*N/\t'=t/\ew=cs.map .val:=λi t' ew hi=>by
  rw[Hp.Ed] at hi
  split at hi
  ·rename_i e;cases hi;exact⟨e,aa,aa⟩
  ·cases hi
 refine⟨hkn.defers,hkn.size,λq v hq=> ?_,λi t' ew hi=> ?_,λi j hi hj _=> ?_,λq v hq i hi=> ?_,λq v hq=> ?_,⟨λi t' ew hi=> ?_,λi t' ew hi=> ?_,λi hi=> ?_⟩,?_⟩
 ·rcases hF q v hq with ⟨rfl,rfl⟩|⟨u,rfl,hm⟩
  ·exact (hkn.tmp _ (tW ..)).2
  ·exact (hkn.tmp _ (qH _ hm)).2
 ·obtain⟨rfl,rfl,rfl⟩:=hH i t' ew hi;refine⟨?_,ht,by rw[az];exact hc,aL hk⟩;show fF N [g] w (2*N) g;unfold fF;rw[if_pos ae,oy];rfl
 ·rw[Hp.Ed] at hi hj
  split at hi
  ·split at hj
   ·omega
   ·exact absurd aa hj
  ·exact absurd aa hi
 ·rcases hF q v hq with ⟨rfl,rfl⟩|⟨u,rfl,hm⟩
  ·have:i=2*N:=by simpa [AV.ids] using hi
   rw[Hp.Ed,if_pos this];simp
  ·cases hi
 ·rcases hF q v hq with ⟨rfl,rfl⟩|⟨u,rfl,hm⟩
  ·exact (hkn.tmp _ (tW ..)).1
  ·exact (hkn.tmp _ (qH _ hm)).1
 ·obtain⟨rfl,rfl,rfl⟩:=hH i t' ew hi;exact⟨ht,aL hk⟩
 ·obtain⟨rfl,rfl,rfl⟩:=hH i t' ew hi;intro j hj;rw[ah] at hj;cases hj
 ·rw[Hp.Ed,if_neg];intro e;have:(2*N+[g].length)<=i:=hi;simp at this;omega
 ·exact⟨⟨aa,aa,aa,aP _,λ_ _ _=>aa⟩,ha⟩
theorem cD {keep:∀ b,b<w.heap.size->K.S b} {x:Addr} {u:Value} (hb:x.block≠g) (h:w.cell? x=some u):Cx.At (uM P w N K SU ti keep [g] (jY g) ha) x u:=λw1 yj=>by
 have h1:dP [g] w w1:=yj.1;have hlt:=gP w x h;rw[BP (w:=w) (h1.jd _ hlt (λhm=>hb (ak.1 hm)))];exact h
section
variable {C:Cx} {F:Fr} {H:Hp} {w:World} {m:Option (List FuncId)} {full:Array Oper} {K:Fr->Hp->World->Prop} {o:Oper} {r:List Oper} {Q:Exit->Act->World->Prop} {k:List It}
def uX (F:Fr) (β bM:Nat->Nat) (lo hi:Nat):List (Nat×AV)->Prop
 | []=>True
 | p::r=>(∃ u,F p.1=some u/\p.2.bu bM=u.bu β/\∀ i∈p.2.ids,lo<=i/\i<hi)/\uX F β bM lo hi r
theorem uX.mem {β bM:Nat->Nat} {lo hi:Nat}:∀ {L:List (Nat×AV)} {d:Nat} {v:AV},uX F β bM lo hi L->(d,v)∈L->∃ u,F d=some u/\v.bu bM=u.bu β/\∀ i∈v.ids,lo<=i/\i<hi
 | p::r,d,v,h,hm=>by
   rcases dG.1 hm with rfl|hm
   ·exact h.1
   ·exact uX.mem h.2 hm
theorem VS.cK (K:KC) (SU:TypeId->Bool) (ti:TypeId->Option TI) (keep:∀ (w':World) b,b<w'.heap.size->K.S b)
  (h:∀ w' β,aK C.K w w'->C.Old w'->Ends C β H w'->∃ (ad:List Nat) (l:List (TypeId×List AV)) (hl:dv K C.N ad l w') (L:List (Nat×AV)),uX F β (adB C.N ad) (2*C.N) (2*C.N+l.length) L/\
   VS (uM C.P w' C.N K SU ti (keep w') ad hl.nodup hl.ad) Q k (Fr.of L) (Hp.ads (2*C.N) l) w') (oI:C.ds=[]:=by rfl):VS C Q k F H w:=λβ a w' hr hk=>by
 obtain⟨ad,l,hl,L,hL,hv⟩:=h w' β hk hr.old ⟨hr.own,hr.apart⟩
 have Ct:∀ i c,Hp.ads (2*C.N) l i=some c->2*C.N<=i/\l[i-2*C.N]? =some c:=λi c hi=>by
  rw[Hp.Ah] at hi
  split at hi
  ·exact⟨by assumption,hi⟩
  ·cases hi
 have hsome:∀ i,Hp.ads (2*C.N) l i≠none->2*C.N<=i/\i-2*C.N<l.length:=λi hi=>by
  cases hh:Hp.ads (2*C.N) l i with
  | none=>exact absurd hh hi
  | some c=>
    obtain⟨h1,h2⟩:=Ct i c hh;exact⟨h1,(bd.1 h2).1⟩
 have hval:∀ k,k<ad.length->ad[k]? =some (ad.getD k 0):=λk hk=>by simp[List.getD_eq_getElem?_getD,hk]
 refine hv (adB C.N ad) a w' ⟨hr.defers.trans oI,hr.size,λd v hd=> ?_,λi t cs hi=> ?_,λi j hi hj e=> ?_,λd v hd i hi=> ?_,λd v hd=> ?_,⟨λi t cs hi=> ?_,λi t cs hi=> ?_,λi hi=> ?_⟩,(uM C.P w' C.N K SU ti (keep w') ad hl.nodup hl.ad).pR⟩ (aK.refl _ _)
 ·obtain⟨u,h1,h2,_⟩:=hL.mem (Fr.gZ hd);rw[h2];exact hr.tmp d u h1
 ·obtain⟨h1,h2⟩:=Ct i _ hi;have hlt:=(bd.1 h2).1;obtain⟨g1,g2⟩:=hl.ok _ (dc h2);have hv:=hval (i-2*C.N) (by rw[hl.len];exact hlt);refine⟨?_,g1,hl.cls _ _ _ hv h2,g2⟩;show fF C.N ad w' i (adB C.N ad i);unfold fF;rw[if_pos h1];exact hv
 ·obtain⟨h1,h2⟩:=hsome i hi;obtain⟨h3,h4⟩:=hsome j hj;have e1:=hval (i-2*C.N) (by rw[hl.len];exact h2);have e2:=hval (j-2*C.N) (by rw[hl.len];exact h4);have e':ad.getD (i-2*C.N) 0=ad.getD (j-2*C.N) 0:=e;rw[<-e'] at e2;have:=(List.getElem?_inj (by rw[hl.len];exact h2) hl.nodup).1 (e1.trans e2.symm);omega
 ·obtain⟨u,h1,h2,h3⟩:=hL.mem (Fr.gZ hd);obtain⟨h4,h5⟩:=h3 i hi;rw[Hp.Ah,if_pos h4,aH ae];simp
 ·obtain⟨u,h1,h2,h3⟩:=hL.mem (Fr.gZ hd);exact hr.fits d u h1
 ·obtain⟨h1,h2⟩:=Ct i _ hi;exact hl.ok _ (dc h2)
 ·obtain⟨h1,h2⟩:=Ct i _ hi;intro j hj;obtain⟨h3,h4⟩:=hl.ids _ (dc h2) j hj;rw[Hp.Ah,if_pos h3,aH ae];simp
 ·have vS:2*C.N+ad.length<=i:=hi;rw[Hp.Ah]
  split
  ·exact gD (by rw[<-hl.len];omega)
  ·rfl
def MK (C:Cx) (Q:Exit->Act->World->Prop) (k:List It) (full:Array Oper) (o:Oper) (F:Fr) (H:Hp) (w:World):Prop:=
 ∃ (g:FuncId) (args:List AV) (vs:List Value) (D:World->Cx),stepOf C full F H o=.call (.fn g args)/\fE args=some vs/\xQ C.P g/\(∀ w,(D w).pd=C.pd)/\(∀ w,(D w).N=C.N)/\(∀ w,Cx.Old (D w) w)/\
   ∀ w1,aK C.K w w1->C.Old w1->Calls C.P g vs.toArray w1 λe w2=>∃ v L,e=.returned v/\Ex F L/\(∀ p∈L,o.dst≠some p.1)/\VS (D w2) Q k (Fr.vals L) (λ_=>none) w2
theorem VS.jG (hC:C.Ok) {id:Nat} {ops:Array Oper} (j:Nat) {o:Oper} (hj:ops.toList.drop j=[o]) (hd:ops.toList.all eT=true) (ho:eT o=true)
  (h:aE C none ops (ops.toList.take j) (MK C Q k ops o) F H w):VS C Q (.code (.region id ops false)::k) F H w:=λβ a w' hr hk=>by
 refine (wpIn_wide (n:=0)).1 (wpIn_region_list ?_);rw[<-oi j ops.toList,hj];refine kK dW.wide hC (tl:=[o]) (λβ F H w a w' h hr hk=> ?_) (ops.toList.take j) (bP.2 λo ho=>bP.1 hd o (lX ho)) β F H w a w' h hr hk;obtain⟨g,args,vs,D,e,hv,hf,hP,hN,hO,cZ⟩:=h;refine wpListIn_step λK hK=> ?_;have hb:stepOf C ops F H o≠.bad:=λe'=>by rw[e] at e';cases e'
 obtain⟨iw,⟨hw,hs⟩|⟨hw,hs⟩⟩:=gW hb
 ·rw[hs] at e;cases e
 ·rw[ny hr hw,if_pos rfl];refine dW.wide.op ho (DW hr (hs.symm.trans e) ?_);refine⟨hf,?_⟩;rw[gU hv,iu];refine (cZ w' hk hr.old).mono ?_;rintro e w2 ⟨v,L,rfl,hL,hLd,QD⟩;refine⟨v,aa,hK _ _ ?_⟩;show post C.P Q k .normal _ w2;have Cq:=hr.knows hL
  have hkn:Knows (D w2).N L (a.put o.dst v) (D w2).ds:=by
   rw[hN,show (D w2).ds=C.ds from au Prod.snd (hP w2)];cases hod:o.dst with
   | none=>exact Cq
   | some d=>
     refine⟨Cq.defers,by simp[Act.put];exact Cq.size,λp hp=>⟨(Cq.tmp p hp).1,?_⟩⟩;have hne:d≠p.1:=λe=>hLd p hp (by rw[hod,e]);have:=(Cq.tmp p hp).2;simp[Act.put,Array.getD_eq_getD_getElem?,Array.getElem?_setIfInBounds,hne] at this ⊢;exact this
  have:=QD _ _ w2 (hkn.rel (hO w2)) (aK.refl _ _);rw[show (D w2).P=C.P from au Prod.fst (hP w2)] at this;exact this
end
section
variable {C:Cx} {Q:Exit->Act->World->Prop} {k:List It} {F:Fr} {H:Hp} {w:World} {J:Nat->List (Nat×Value)->World->Prop}
def Hz (F:Fr) (β:Nat->Nat) (L:List (Nat×Value)):Prop:=wB F β (L.map λp=>(p.1,AV.val p.2))
theorem Rel.JU {β:Nat->Nat} {a:Act} {L:List (Nat×Value)} (hr:Rel C β F H a w) (hL:Hz F β L):Knows C.N L a C.ds:=
 ⟨hr.defers,hr.size,λp hp=>by
  obtain⟨u,x,h1,h2,h3⟩:=hL.mem (ey.2 ⟨p,hp,aa⟩);cases h3;exact⟨hr.fits _ u h1,by rw[hr.tmp _ u h1,h2]⟩⟩
theorem VS.fL (D:World->Cx) (hP:∀ w,(D w).pd=C.pd) (hN:∀ w,(D w).N=C.N) (hO:∀ w,(D w).Old w) (n0:Nat) {body:Code} (h0:∀ w' β,aK C.K w w'->C.Old w'->Ends C β H w'->∃ L,Hz F β L/\J n0 L w')
  (round:∀ n L W,J n L W->VS (D W) Q (.code body::.back (λa w=>∃ m,m<n/\De C.N J m a w C.ds)::k) (Fr.vals L) (λ_=>none) W):VS C Q (.code (.loop body)::k) F H w:=λβ a w' hr hk=>by
 obtain⟨L,h1,h2⟩:=h0 w' β hk hr.old ⟨hr.own,hr.apart⟩;refine wp_loop_ghost (λn a w=>De C.N J n a w C.ds) n0 ⟨L,h2,hr.JU h1⟩ ?_;rintro n a1 w1 ⟨L1,hJ,hkn⟩;have PW:Knows (D w1).N L1 a1 (D w1).ds:=by rw[hN,show (D w1).ds=C.ds from au Prod.snd (hP w1)];exact hkn
 have:=round n L1 w1 hJ _ a1 w1 (PW.rel (hO w1)) (aK.refl _ _);rw[show (D w1).P=C.P from au Prod.fst (hP w1)] at this;exact this
theorem VS.eK {ds:List Deferred} {n N:Nat} (hN:C.N=N) (m:Nat) (hm:m<n) (h:∀ w' β,aK C.K w w'->C.Old w'->Ends C β H w'->∃ L,Hz F β L/\J m L w') (oI:C.ds=ds:=by rfl):VS C Q (.back (λa w=>∃ m,m<n/\De N J m a w ds)::k) F H w:=λβ a w' hr hk=>by
 subst hN;subst oI;obtain⟨L,h1,h2⟩:=h w' β hk hr.old ⟨hr.own,hr.apart⟩;exact⟨m,hm,L,h2,hr.JU h1⟩
end
end
section
open Go.RowKit
attribute [local irreducible] aE VS
section
variable {F F':Fr} {H H':Hp} {w w1:World} {N:Nat} {l':List Oper} {Q:Exit->Act->World->Prop} {k:List It} {id:Nat} {ops:Array Oper}
end
variable {α:Type} {t:TypeId} {w:World} {E:World->List Value->α->Prop}
theorem fp.told {sz i:Nat} {es:List α} {C:Cx} {β:Nat->Nat} {H:Hp} {w1:World} {X:AV} {M:List (Nat×(TypeId×List AV))} (h:fp E sz t i X M w es) (hE:gp E sz) (en:Ends C β H w1) (hM:∀ x∈M,H x.1=some x.2) (k:Kp UU w w1) (B:Nat) (hB:C.zu i (β i)->B<=β i):ay E sz t B w1 (X.bu β) es:=by
 rcases h with ⟨rfl,rfl,rfl⟩|⟨n,c,vs,sp,rfl,rfl,h3⟩
 ·exact .inl ⟨aa,aa⟩
 ·have o:=en.own i _ _ (hM _ (ak.2 aa));have hk:=o.ok;rw[dK,gF] at hk;have hn:=h3.len;subst hn;refine .inr ⟨β i,c,vs,sp.map (AV.leaf β),aa,hB o.new,?_,h3.el.kp hE k,fx hk.2,h3.le,h3.cm,by rw[<-h3.fl];simp only[List.length_append,List.length_map]⟩;have:=o.cls;rw[aF,az] at this;exact this
set_option maxRecDepth 4000
def VE (_:World) (cs:List Value) (v:Value):Prop:=cs=[v]/\∃ p n c,v=.slice p n c
theorem jk:gp VE 1 where
 kp:=λh _=>h
 len:=λh=>by rw[h.1];rfl
 ok:=λh=>by
  obtain⟨rfl,p,n,c,rfl⟩:=h;rfl
theorem ay.nil' {sz B:Nat}:ay E sz t B w (.slice none 0 0) []:=.inl ⟨rfl,rfl⟩
set_option maxRecDepth 4000
section
variable {F F':Fr} {H H':Hp} {w w1:World} {N:Nat} {l':List Oper} {Q:Exit->Act->World->Prop} {k:List It} {id:Nat} {ops:Array Oper}
end
section
variable {F F':Fr} {H H':Hp} {w w1:World} {N:Nat} {l':List Oper} {Q:Exit->Act->World->Prop} {k:List It} {id:Nat} {ops:Array Oper}
end
variable {t:TypeId} {w:World}
theorem bL {g:Nat} {t':TypeId} {a b:Array Value} (h:aQ w g t a) (k:aQ w g t' b):t=t':=by
 have:=(show w.heap[g]? =_ from h).symm.trans (show w.heap[g]? =_ from k);injection this with this
 injection this
variable {vs:List Value} {α:Type} {es:List α} {v:Value} {E:World->List Value->α->Prop}
theorem slin_of (h:bK VE 1 w v vs) (hl:vs.length=es.length) (hg:∀ (i:Nat) (u:Value) (a:α),vs[i]? =some u->es[i]? =some a->E w [u] a):bK E 1 w v es:=by
 obtain⟨p,c,rfl,h1,h2,h3⟩:=h;refine⟨p,c,by rw[hl],by rw[<-hl];exact h1,h2,λi a ha=> ?_⟩;obtain⟨u,hu⟩:∃ u,vs[i]? =some u:=⟨_,aH (by rw[hl];exact (bd.1 ha).1)⟩;obtain⟨b,off,cs,hp,hc,hE⟩:=h3 i u hu;obtain⟨rfl,-⟩:=hE;exact⟨b,off,_,hp,hc,hg i u a hu ha⟩
theorem ay.aA {sz B:Nat} {w':World} (hE:gp E sz) (h:ay E sz t B w v es) (hb:ax w w'):ay E sz t B w' v es:=h.kp hE (T:=λ_=>true) (aK.of hb) rfl
theorem LO {l:List α} {P:Value->α->Prop} {u:Value} {a:α} (h:∀ (i:Nat) (v:Value) (x:α),vs[i]? =some v->l[i]? =some x->P v x) (ha:l[vs.length]? =some a) (hu:P u a):∀ (i:Nat) (v:Value) (x:α),(vs++[u])[i]? =some v->l[i]? =some x->P v x:=λi v x hi hx=>by
 by_cases tH:i<vs.length
 ·rw[jo tH] at hi;exact h i v x hi hx
 ·rw[mS ae] at hi;have:=(bd.1 hi).1;rw[List.length_singleton] at this;obtain rfl:i=vs.length:=ae;rw[oy] at hi;cases hi;rw[ha] at hx;cases hx;exact hu
end
section
open Go.RowKit
def mrk (D:Nat):Deferred:={ target:=.collected D,args:=#[] }
def marks (Ds:List Nat):List Deferred:=Ds.map mrk
abbrev dsCx (C:Cx) (l:List Deferred):Cx:={ C with ds:=l }
structure Opn (Ds:List Nat) (w:World):Prop where
 nodup:Ds.Nodup
 at_:∀ D∈Ds,w.heap[D]? =some (.deferred (some []))
structure Shut (Ds:List Nat) (w w':World):Prop where
 os:w'.os=w.os
 tape:w'.tape=w.tape
 output:w'.output=w.output
 size:w.heap.size=w'.heap.size
 jd:∀ g,g∉Ds->w'.heap[g]? =w.heap[g]?
theorem Shut.refl (Ds:List Nat) (w:World):Shut Ds w w:=⟨rfl,rfl,rfl,rfl,λ_ _=>rfl⟩
theorem Shut.aG {Ds:List Nat} {a b c:World} (h:Shut Ds a b) (k:Shut Ds b c):Shut Ds a c:=⟨k.os.trans h.os,k.tape.trans h.tape,k.output.trans h.output,h.size.trans k.size,λg hg=>(k.jd g hg).trans (h.jd g hg)⟩
theorem Shut.mono {Ds Es:List Nat} {a b:World} (h:Shut Ds a b) (hs:∀ d∈Ds,d∈Es):Shut Es a b:=⟨h.os,h.tape,h.output,h.size,λg hg=>h.jd g (λq=>hg (hs g q))⟩
theorem QE {w:World} {D:Nat} (h:D<w.heap.size):Shut [D] w (w.putObj D (.deferred none)):=by
 have hg:=grownBy_putObj' w D (.deferred none);refine⟨hg.os,hg.tape,hg.output,?_,λg hn=> ?_⟩
 ·simp[World.putObj]
 ·exact World.putObj_heap_other (λe=>hn (by simp[e]))
theorem Shut.aA {Ds:List Nat} {w0 w w':World} (h:Shut Ds w w') (hb:ax w0 w) (hD:∀ D∈Ds,w0.heap.size<=D):ax w0 w':=
 Below.trans hb ⟨h.os,h.tape,h.output,by rw[h.size];exact aP _,λg hg=>h.jd g (λq=>by have:=hD g q;omega)⟩
theorem Shut.cls {Ds:List Nat} {w w':World} {b:Nat} {t:TypeId} {cs:Array Value} (h:Shut Ds w w') (ho:∀ D∈Ds,w.heap[D]? =some (.deferred (some []))) (hc:aQ w b t cs):aQ w' b t cs:=
 (h.jd b (λq=>by
   have:=(ho b q).symm.trans hc;cases this)).trans hc
theorem uY {P:Program} {fn:Func} {tmps:Array Value} {R:Ending->World->Prop}:∀ (Ds:List Nat) (w:World),Opn Ds w->(∀ w',Shut Ds w w'->LeavesInM Fence.wide 0 P fn tmps R [] .returning w')->LeavesInM Fence.wide 0 P fn tmps R (marks Ds) .returning w
 | [],w,_,h=>h w (Shut.refl _ _)
 | D::r,w,ho,h=>by
   have hD:=ho.at_ D (tW ..);have hlt:=(gh.1 hD).1;refine⟨cf,.inl ⟨D,w.putObj D (.deferred none),aa,run_takeDeferred hD,?_⟩⟩;have s1:=QE hlt;refine uY r _ ⟨(List.nodup_cons.1 ho.nodup).2,λE hE=>(s1.jd E (λq=>(List.nodup_cons.1 ho.nodup).1 (by rw[ak.1 q] at hE;exact hE))).trans (ho.at_ E (qH _ hE))⟩ (λw' hs=>h w' ((s1.mono (λd hd=>by rw[ak.1 hd];exact tW ..)).aG (hs.mono (λd hd=>qH _ hd))))
abbrev JV (C:Cx) (w:World) (hS:∀ b,C.K.S b):Cx where
 P:=C.P
 w0:=w
 N:=C.N
 K:=C.K
 SU:=C.SU
 ti:=C.ti
 keep:=λb _=>hS b
 zu:=λ_ _=>True
 Old:=λw1=>w.heap.size<=w1.heap.size
 top:=C.top
 Pm:=C.Pm
 Gc:=λ_ _ _ _=>trivial
 Pn:=λ_ _ _ _ _=>trivial
 pQ:=λ_ h=>h
 pR:=aP _
 uD:=λ_ _ h _ k _=>aV h k.size
 DM:=λ_ _ _ _ hn _=>absurd aj (hn 0)
 lay:=λw1 H h hH hf=>by
  obtain⟨β,w2,k,o,r,s⟩:=Cz (K:=C.K) (ax.refl w1) H hf;exact⟨β,w2,k,aV h o.size,λi t cs hi=>⟨aj,(r i t cs hi).2⟩,s⟩
 ds:=C.ds
theorem Aj {C D:Cx} {F:Fr} {H:Hp} (h:D.ti=C.ti):∀ (l:List ResultVar),jQ D F H l=jQ C F H l
 | []=>rfl
 | .tmp t::r=>by unfold jQ;rw[Aj h r]
 | .cell x t::r=>by unfold jQ;rw[Aj h r,h]
section
variable {C:Cx} {F:Fr} {H:Hp} {w:World} {Q:Exit->Act->World->Prop} {k:List It}
theorem VS.retD (Ds:List Nat) (hC:C.Ok) {fn:Func} {R:Ending->World->Prop} {vs:List AV} {us:List Value} (oI:C.ds=marks Ds) (h:jQ C F H fn.results.toList=some vs) (hv:fE vs=some us) (ho:∀ w',C.Old w'->Opn Ds w') (hS:∀ b,C.K.S b)
 (hR:∀ w' w'',aK C.K w w'->C.Old w'->Shut Ds w' w''->R (.returned (mj us)) w''):VS C (bodyPostM Fence.wide 0 C.P fn R) (.code .ret::k) F H w:=λβ a w' hr hk=>wp_ret (kI (by
 show LeavesInM Fence.wide 0 C.P fn a.tmps R a.defers .returning w';have hO:=ho w' hr.old;rw[hr.defers,oI];refine uY Ds w' hO (λw'' hs=> ?_);have sn:Rel (JV C w'' hS) β F H a w'':=⟨hr.defers,hr.size,hr.tmp,λi t cs hi=>⟨aj,(hr.own i t cs hi).ty,hs.cls hO.at_ (hr.own i t cs hi).cls,(hr.own i t cs hi).ok⟩,hr.apart,hr.closed,hr.fits,⟨hr.hp.ok,hr.hp.closed,hr.hp.few⟩,aP _⟩;refine⟨_,rA (C:=JV C w'' hS) hC sn ((Aj (C:=C) (D:=JV C w'' hS) aa _).trans h),?_⟩;rw[gU hv,iu];exact hR w' w'' hk hr.old hs))
variable {a:Act} {β:Nat->Nat}
theorem Rel.withDs (h:Rel C β F H a w) (l:List Deferred):Rel (dsCx C l) β F H { a with defers:=l } w:=
 ⟨rfl,h.size,h.tmp,λi t cs e=>⟨(h.own i t cs e).new,(h.own i t cs e).ty,(h.own i t cs e).cls,(h.own i t cs e).ok⟩,h.apart,h.closed,h.fits,⟨h.hp.ok,h.hp.closed,h.hp.few⟩,h.old⟩
variable {K:KC} {L:List (Nat×Value)} {cs:List Value} {d g:Nat} {t:TypeId} {SU:TypeId->Bool} {ti:TypeId->Option TI} {W w':World}
theorem VS.goA {keep:∀ b,b<W.heap.size->K.S b} (q:Nat) (hr:Rel C β F H a w') (hL:Hz F β ((q,.pointer (some ⟨g,0,none⟩))::L)) (hc:aQ W g t cs.toArray) (ht:K.fz t=false) (hk:cs.all aO=true)
  (h:VS (dsCx (uM C.P W C.N K SU ti keep [g] (jY g) (ad1 hc ht hk)) (mrk d::C.ds)) Q k (Fr.put (Fr.vals L) q (.box (2*C.N) 0)) (Hp.one (2*C.N) t cs) W):post C.P Q k .normal { a with defers:=mrk d::a.defers } W:=by
 have ML:=hr.JU hL;have hkn:Knows C.N ((q,.pointer (some ⟨g,0,none⟩))::L) { a with defers:=[] }:=⟨aa,ML.size,ML.tmp⟩;have h1:=(LN (P:=C.P) (SU:=SU) (ti:=ti) (keep:=keep) (ha:=ad1 hc ht hk) L q hkn hc ht hk).withDs (mrk d::C.ds);have:=h _ _ W h1 (aK.refl _ _);rw[show mrk d::a.defers=mrk d::C.ds by rw[ML.defers]];exact this
theorem VS.goAJ {keep:∀ b,b<W.heap.size->K.S b} {c:Code} (q:Nat) (hr:Rel C β F H a w') (hL:Hz F β ((q,.pointer (some ⟨g,0,none⟩))::L)) (hc:aQ W g t cs.toArray) (ht:K.fz t=false) (hk:cs.all aO=true)
  (h:VS (dsCx (uM C.P W C.N K SU ti keep [g] (jY g) (ad1 hc ht hk)) (mrk d::C.ds)) Q (.code c::k) (Fr.put (Fr.vals L) q (.box (2*C.N) 0)) (Hp.one (2*C.N) t cs) W):c.wpIn Fence.wide 0 C.P (post C.P Q k) { a with defers:=mrk d::a.defers } W:=
 (wpIn_wide (n:=0)).2 (VS.goA (k:=.code c::k) q hr hL hc ht hk h)
end
structure Cb (w w':World):Prop where
 size:w.heap.size<=w'.heap.size
 jd:∀ (g:Nat) (o:Obj),w.heap[g]? =some o->(∀ cs t x,o≠Obj.cells cs t x)->w'.heap[g]? =some o
variable {w:World}
theorem Cb.but {w':World} {ad:List Nat} (h:dP ad w w') (hc:∀ g∈ad,∃ t cs,aQ w g t cs):Cb w w':=⟨h.size,λg o hg hn=>(h.jd g (gh.1 hg).1 (λq=>by
 obtain⟨t,cs,cZ⟩:=hc g q;have:=cZ.symm.trans hg;injection this with this
 exact hn _ _ _ this.symm)).trans hg⟩
variable {Q:Exit->Act->World->Prop}
theorem HF {P:Program} {g:Operand} {ps:Array Tmp} {assign body:Code} {a:Act} {gf:Nat} {lb:Array Value} (jc:Code) (je:Exit) (hje:(jc=.ret/\je=.ret)\/∃ id,jc=.exit id/\je=.exit id)
  (hg:a.eval g=.func (.func gf) #[] lb) (eg:∀ args w,(callFunc gf args).run P w=.ok (.enter gf args) w) {ι:Type} (i0:ι) (Mv:ι->ι->Prop) (J:ι->World->Prop) (JX:World->Prop) (Pr:ι->ι->Array Value->World->Prop) (Fin:ι->Prop)
  (hput:∀ i W l r r',J i W->w.heap.size<=l->W.heap[l]? =some (.loop r)->J i (W.putObj l (.loop r'))) (hputX:∀ W l r r',JX W->w.heap.size<=l->W.heap[l]? =some (.loop r)->JX (W.putObj l (.loop r'))) (hmv:∀ i i' W,Mv i i'->J i W->J i' W) (hbeh:∀ i W W',J i W->ax W W'->J i W') (hbehX:∀ W W',JX W->ax W W'->JX W') (h0:J i0 w) (hps:∀ i i' vs W,Pr i i' vs W->vs.size=ps.size)
  (hseq:∀ (l:Nat) (J':ι->World->Prop) (IE:World->Prop) (W:World),ax w W->(∀ i i' W,Mv i i'->J' i W->J' i' W)->(∀ i W W',J' i W->ax W W'->J' i W')->(∀ W W',IE W->ax W W'->IE W')->(∀ i W,J' i W->J i W)->
   (∀ i i' vs W1,J' i W1->Pr i i' vs W1->YieldAt Fence.wide 0 P l vs W1 λe W'=>(e=.returned (.bool true)/\J' i' W')\/(e=.returned (.bool false)/\IE W'))->J' i0 W->
   CallsIn Fence.wide 0 P gf (#[.func (.yield l) #[] #[]]++lb) W λe W'=>(∃ v,e=.returned v)/\((∃ i,Fin i/\J' i W')\/IE W'))
  (hround:∀ l i i' vs W,w.heap.size<=l->J i W->Pr i i' vs W->(∃ r,W.heap[l]? =some (.loop r))->
   assign.wpIn (Fence.wide.inRound l) 0 P (Exit.then (λa' W1=>ax W W1/\∀ r',body.wpIn (Fence.wide.inRound l) 0 P (λe _ W3=>Cb (W1.putObj l (.loop r')) W3/\((e=.normal/\J i' W3)\/(e=je/\JX W3))) a' (W1.putObj l (.loop r'))) (λ_ _ _=>False))
    { tmps:=(ps.zip vs).foldl (λt (p,v)=>t.setIfInBounds p v) a.tmps,defers:=[] } W)
  (hdone:∀ D i W,w.heap.size<=D->Fin i->J i W->W.heap[D]? =some (.deferred (some []))->Q .normal { a with defers:=mrk D::a.defers } W)
  (hleave:∀ D W,w.heap.size<=D->JX W->W.heap[D]? =some (.deferred (some []))->jc.wpIn Fence.wide 0 P Q { a with defers:=mrk D::a.defers } W):
  (Code.rangeFunc g ps assign body).wpIn Fence.wide 0 P Q a w:=by
 refine wpIn_rangeFunc λfn hfn=> ?_;obtain⟨rec,Bt⟩:∃ rec:LoopState->Option Code->Loop,rec=λst pe=>{ state:=st,pending:=pe,fn,tmps:=a.tmps,params:=ps,assign,body,defers:=w.heap.size }:=⟨_,aa⟩;obtain⟨W1,hW1⟩:∃ W1,(w.alloc (.deferred (some []))).alloc (.loop (rec .ready none))=W1:=⟨_,aa⟩
 have hL1:W1.heap[w.heap.size+1]? =some (.loop (rec .ready none)):=by
  rw[<-hW1];have:=World.alloc_heap_new (w.alloc (.deferred (some []))) (.loop (rec .ready none));rwa [World.size_alloc] at this
 have hK1:W1.heap[w.heap.size]? =some (.deferred (some [])):=by
  rw[<-hW1];exact (Below.heap_alloc _ _ _ cf).trans (World.alloc_heap_new w _)
 have bF:ax w W1:=by rw[<-hW1];exact ((ax.refl w).alloc _).alloc _
 obtain⟨J',hJ'⟩:∃ J':ι->World->Prop,J'=λi W=>J i W/\W.heap[w.heap.size+1]? =some (.loop (rec .ready none))/\W.heap[w.heap.size]? =some (.deferred (some [])):=⟨_,aa⟩;obtain⟨IE,QF⟩:∃ IE:World->Prop,IE=λW=>JX W/\W.heap[w.heap.size+1]? =some (.loop (rec .done (some jc)))/\W.heap[w.heap.size]? =some (.deferred (some [])):=⟨_,aa⟩
 have hY:∀ i i' vs W,J' i W->Pr i i' vs W->YieldAt Fence.wide 0 P (w.heap.size+1) vs W λe W'=>(e=.returned (.bool true)/\J' i' W')\/(e=.returned (.bool false)/\IE W'):=by
  intro i i' vs W h hp;rw[hJ'] at h ⊢;rw[QF];obtain⟨hi,hl,hk⟩:=h;have hy:=run_yield (P:=P) (args:=vs) hl (by rw[Bt,hps i i' vs W hp]);rw[Bt] at hy;refine⟨fn,_,assign,body,hy,roundIn_of_wpIn hfn (wpIn_mono (hround _ i i' vs W ae hi hp ⟨_,hl⟩) ?_)⟩;rintro e a' Wa he;cases e with
  | normal=>
    obtain⟨Qb,hbody⟩:=he;have Jd:Wa.heap[w.heap.size+1]? =some (.loop (rec .ready none)):=(ky Qb _ (gh.1 hl).1).trans hl;have hka:Wa.heap[w.heap.size]? =some (.deferred (some [])):=(ky Qb _ (gh.1 hk).1).trans hk;have hlt:=(gh.1 Jd).1;refine⟨_,run_beginRound Jd (by rw[Bt]),wpIn_mono (hbody _) ?_⟩;have tj:(Wa.putObj (w.heap.size+1) (.loop { rec .ready none with state:=.busy })).heap[w.heap.size+1]? =some (.loop { rec .ready none with state:=.busy }):=World.putObj_heap_same hlt;have hk2:(Wa.putObj (w.heap.size+1) (.loop { rec .ready none with state:=.busy })).heap[w.heap.size]? =some (.deferred (some [])):=(World.putObj_heap_other ae).trans hka;rintro e a3 W3 ⟨Bu,hJ3⟩;have hl3:=Bu.jd _ _ tj (by intro _ _ _ e;cases e);have hk3:=Bu.jd _ _ hk2 (by intro _ _ _ e;cases e);rcases hJ3 with ⟨rfl,hJ3⟩|⟨rfl,hJ3⟩
    ·have hr:=run_endRound (P:=P) none hl3;refine⟨_,_,hr,.inl ⟨aa,hput _ _ _ _ _ hJ3 ae hl3,?_,(World.putObj_heap_other ae).trans hk3⟩⟩;rw[World.putObj_heap_same (gh.1 hl3).1,Bt];rfl
    ·have hr:=run_endRound (P:=P) (some jc) hl3
     have Pa:∃ v w',(Instr.endRound (w.heap.size+1) (some jc)).run P W3=.ok v w'/\((Ending.returned v=.returned (.bool true)/\J i' w'/\w'.heap[w.heap.size+1]? =some (.loop (rec .ready none))/\w'.heap[w.heap.size]? =some (.deferred (some [])))\/(Ending.returned v=.returned (.bool false)/\JX w'/\w'.heap[w.heap.size+1]? =some (.loop (rec .done (some jc)))/\w'.heap[w.heap.size]? =some (.deferred (some [])))):=by
      refine⟨_,_,hr,.inr ⟨aa,hputX _ _ _ _ hJ3 ae hl3,?_,(World.putObj_heap_other ae).trans hk3⟩⟩;rw[World.putObj_heap_same (gh.1 hl3).1,Bt];rfl
     rcases hje with ⟨rfl,rfl⟩|⟨id,rfl,rfl⟩
     ·exact Pa
     ·exact Pa
  | _=>exact he.elim
 have key:=hseq (w.heap.size+1) J' IE W1 bF (by rw[hJ'];exact λi i' W hm h=>⟨hmv i i' W hm h.1,h.2⟩) (by
   rw[hJ'];exact λi W W' h k=>⟨hbeh i W W' h.1 k,(ky k _ (gh.1 h.2.1).1).trans h.2.1,(ky k _ (gh.1 h.2.2).1).trans h.2.2⟩)
  (by
   rw[QF];exact λW W' h k=>⟨hbehX W W' h.1 k,(ky k _ (gh.1 h.2.1).1).trans h.2.1,(ky k _ (gh.1 h.2.2).1).trans h.2.2⟩)
  (by rw[hJ'];exact λi W h=>h.1) hY (by rw[hJ'];exact⟨hbeh i0 w W1 h0 bF,hL1,hK1⟩)
 refine⟨w.heap.size+1,[{ target:=.collected w.heap.size,args:=#[] }],W1,{ target:=.fn (.func gf) lb,args:=#[.func (.yield (w.heap.size+1)) #[] #[]] },W1,gf,
  #[.func (.yield (w.heap.size+1)) #[] #[]]++lb,W1,?_,?_,?_,?_,?_,?_⟩
 ·rw[<-hW1,Bt];exact run_enterLoop_outer _ _ _ _ _
 ·simp only[resolve,hg];simp[go_sem]
 ·intro f' _;trivial
 ·simp[invoke,go_sem,eg]
 ·intro e;cases e
 ·refine key.mono ?_;rintro e W2 ⟨⟨v,rfl⟩,⟨i,hF,hJi⟩|hJx⟩
  ·rw[hJ'] at hJi;obtain⟨hi,hl,hk⟩:=hJi;have hr:=run_endLoop (P:=P) hl (by rw[Bt];simp);refine⟨none,_,by rw[hr,Bt],hdone _ i _ (aP _) hF (hput i _ _ _ _ hi ae hl) ((World.putObj_heap_other ae).trans hk)⟩
  ·rw[QF] at hJx;obtain⟨hi,hl,hk⟩:=hJx;have hr:=run_endLoop (P:=P) hl (by rw[Bt];simp);refine⟨some jc,_,by rw[hr,Bt],hleave _ _ (aP _) (hputX _ _ _ _ hi ae hl) ((World.putObj_heap_other ae).trans hk)⟩
def YKX (C:Cx) (Q:Exit->Act->World->Prop) (k:List It) (x:Operand) (ys:Array Operand) (d1 d2:Nat) (F:Fr) (H:Hp) (w:World):Prop:=
 ∃ (l:Nat) (us:List Value) (D:World->Cx),ev F x=some (.val (.func (.yield l) #[] #[]))/\evs F ys.toList=some us/\(∀ w,(D w).pd=C.pd)/\(∀ w,(D w).N=C.N)/\(∀ w,Cx.Old (D w) w)/\d1<C.N/\d2<C.N/\
   ∀ w1,aK C.K w w1->C.Old w1->YieldAt Fence.wide 0 C.P l us.toArray w1 λe w2=>∃ b:Bool,e=.returned (.bool b)/\∃ L,Ex F L/\(L.all λp=> !Nat.beq p.1 d1 && !Nat.beq p.1 d2)=true/\VS (D w2) Q k (Fr.vals ((d2,.bool (!b))::L)) (λ_=>none) w2
theorem VS.QG {C:Cx} {F:Fr} {H:Hp} {k:List It} (hC:C.Ok) {id:Nat} {ops:Array Oper} (j:Nat) {o1 o2:Oper} {x:Operand} {ys:Array Operand} {ts:Array TypeId} {t:TypeId} {d1 d2:Nat} (hj:ops.toList.drop j=[o1,o2]) (hd:ops.toList.all eT=true)
  (h1:o1.op=.call { callee:=.value x,args:=ys,argTypes:=ts }) (g1:o1.guard=none) (e1:o1.dst=some d1) (h2:o2.op=.unOp .not t (.tmp d1)) (g2:o2.guard=none) (e2:o2.dst=some d2)
  (h:aE C none ops (ops.toList.take j) (YKX C Q k x ys d1 d2) F H w):VS C Q (.code (.region id ops false)::k) F H w:=λβ a w' hr hk=>by
 refine (wpIn_wide (n:=0)).1 (wpIn_region_list ?_);rw[<-oi j ops.toList,hj];refine kK dW.wide hC (tl:=[o1,o2]) (λβ F H w a w' h hr hk=> ?_) (ops.toList.take j) (bP.2 λo ho=>bP.1 hd o (lX ho)) β F H w a w' h hr hk;obtain⟨l,us,D,hx,hy,hP,hN,hO,hd1,hd2,hY⟩:=h;obtain⟨fn,tmps,assign,body,iU,hR⟩:=hY w' hk hr.old;have yu:a.eval x=.func (.yield l) #[] #[]:=hr.ev hx
 have hy':ys.map a.eval=us.toArray:=by
  have:=hr.evs hy;rw[<-ot,ou];exact this
 refine wpListIn_plain g1 λK hK=>⟨λf _=>trivial,?_⟩
 have hs:(o1.semAt Fence.wide.round a.eval).run C.P w'=.ok (.round l fn tmps assign body) w':=by
  show (execOp a.eval o1).run C.P w'=_;unfold execOp;rw[h1];simp only[resolve,yu,hy',Sem.run_bind,Sem.run_pure,Result.andThen_ok];show Sem.run C.P (Instr.yield l (#[]++us.toArray)) w'=_;rw[Array.empty_append];exact iU
 rw[hs,Oper.uponIn_round];refine⟨λe=>(by cases e),hR.mono ?_⟩;rintro e w2 ⟨b,rfl,L,hL,hLd,hv⟩;refine hK _ _ ?_;refine wpListIn_plain g2 λK hK=>⟨λf _=>trivial,?_⟩;have hsz:a.tmps.size=C.N:=hr.size
 have ht:(a.put o1.dst (.bool b)).eval (.tmp d1)=.bool b:=by
  rw[e1];simp[Act.put,Act.eval,hsz,hd1]
 have hs2:(o2.semAt Fence.wide.round (a.put o1.dst (.bool b)).eval).run C.P w2=.ok (.value (.bool (!b))) w2:=by
  show (execOp _ o2).run C.P w2=_;unfold execOp;rw[h2];simp only[ht];cases b <;> rfl
 rw[hs2,Oper.uponIn_value];refine hK _ _ ?_;show post C.P Q k .normal _ w2
 have hkn:Knows (D w2).N ((d2,.bool (!b))::L) ((a.put o1.dst (.bool b)).put o2.dst (.bool (!b))) (D w2).ds:=by
  rw[hN,show (D w2).ds=C.ds from au Prod.snd (hP w2)];refine⟨by rw[e1,e2];exact hr.defers,by rw[e1,e2];simp[Act.put,hsz],λp hp=> ?_⟩;rw[e1,e2];rcases dG.1 hp with rfl|hp
  ·exact⟨hd2,by simp[Act.put,hsz,hd2]⟩
  ·have hm:=bP.1 hLd p hp;rw[gF,Bool.not_eq_true',Bool.not_eq_true'] at hm;have n1:d1≠p.1:=λe=>by rw[e,Nat.beq_refl] at hm;cases hm.1
   have n2:d2≠p.1:=λe=>by rw[e,Nat.beq_refl] at hm;cases hm.2
   refine⟨hr.fits _ _ (hL.mem hp),?_⟩;have:=hr.tmp _ _ (hL.mem hp);simp[Act.put,Array.getD_eq_getD_getElem?,Array.getElem?_setIfInBounds,n1,n2] at this ⊢;exact this
 have:=hv _ _ w2 (hkn.rel (hO w2)) (aK.refl _ _);rw[show (D w2).P=C.P from au Prod.fst (hP w2)] at this;exact this
theorem pg {Fe:Fence} {P:Program} {Q:Exit->Act->World->Prop}:∀ {stk:List It} {a:Act} {w:World},Q .ret a w->xG Fe P Q stk .ret a w
 | [],_,_,h=>h
 | .code _::s,_,_,h=>pg (stk:=s) h
 | .jd _::s,_,_,h=>pg (stk:=s) h
 | .back _::s,_,_,h=>pg (stk:=s) h
 | .scope::s,_,_,h=>pg (stk:=s) h
section
variable {Fe:Fence} {C:Cx} {Q:Exit->Act->World->Prop} {k:List It} {F:Fr} {H:Hp} {w:World}
variable {x y:Code} {c:Operand}
theorem jS.cond {b:Bool} (hc:jW F c=some (.bool b)) (h:jS Fe C Q (.code (bif b then x else y)::k) F H w):jS Fe C Q (.code (.cond c x y)::k) F H w:=λβ a w' hr hk=>
 wpIn_cond (t:=b) (hr.jW hc) (by cases b <;> exact h β a w' hr hk)
theorem jS.GI {b:Bool} (b':Bool) (hc:jW F c=some (.bool b)) (hb:b=b') (h:jS Fe C Q (.code (bif b' then x else y)::k) F H w):jS Fe C Q (.code (.cond c x y)::k) F H w:=jS.cond hc (hb▸h)
theorem jS.bB {b:Bool} (hc:jW F c=some (.bool b)) (hb:b=true) (h:jS Fe C Q (.code x::k) F H w):jS Fe C Q (.code (.cond c x y)::k) F H w:=jS.GI true hc hb h
theorem jS.bC {b:Bool} (hc:jW F c=some (.bool b)) (hb:b=false) (h:jS Fe C Q (.code y::k) F H w):jS Fe C Q (.code (.cond c x y)::k) F H w:=jS.GI false hc hb h
theorem jS.skip (h:jS Fe C Q k F H w):jS Fe C Q (.code .skip::k) F H w:=λβ a w' hr hk=>wpIn_skip (h β a w' hr hk)
theorem jS.ret (h:∀ β a w',Rel C β F H a w'->aK C.K w w'->Q .ret a w'):jS Fe C Q (.code .ret::k) F H w:=λβ a w' hr hk=>wpIn_ret (pg (h β a w' hr hk))
end
theorem VS.goB {P:Program} {Q:Exit->Act->World->Prop} {k:List It} {a:Act} {w:World} {id:Nat} {c:Code} (h:c.wpIn Fence.wide 0 P (post P Q (.jd id::k)) a w):post P Q (.code (.block id c)::k) .normal a w:=wp_block ((wpIn_wide (n:=0)).1 h)
end
end Go.Proofs.YtlifeokjcgngjaaGreat
