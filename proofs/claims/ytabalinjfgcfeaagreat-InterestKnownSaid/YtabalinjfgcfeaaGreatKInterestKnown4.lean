/-Gb of the proof,laid behind one another. -/
import Derived.Test.YtabalinjfgcfeaaGreatKInterestKnown3
set_option linter.all false
set_option maxHeartbeats 64000000
set_option maxRecDepth 4000
namespace Go.Proofs.YtabalinjfgcfeaaGreat
section
open Go.RowKit
attribute [local irreducible] aG VS
theorem zz (w:World):Calls Tryz.prog 77 #[] w λe w'=>∃ r,e=.returned r/\aO w' w.heap.size r 1/\aU w w':=by
 refine ah (C:=cH Tryz.prog w _) (args:=[]) Tryz.func77 aa Tryz.ntmps77 (bM aa) ?_;refine ae ?_;refine VO.cI aa aa (fk Tryz.func82) (λbn cG bo=>UX 1 bn ab ab) (λbn cG bo w1 s1 p1 n1 c1 h1 bA eF _ bb1=>wV aa ?_);refine ae ?_;refine bl ?_;intro wz kz bz;exact⟨_,aa,(h1.kp kz).mono bo.size,bz⟩
def Jd (s:Bool) (xs:List Nat) (t:Bool) (ys:List Nat):Bool:=fy s xs && (fy t ys && (decide (0<numOf t ys) && decide (Int.gcd (numOf s xs) (numOf t ys)=1)))
variable {t:Bool} {xs ys:List Nat}
theorem Qe {s:Bool} (h:Jd s xs t ys=false):rq s xs t ys=0:=by
 unfold rq SH
 split
 ·rename_i hc;cases h1:fy s xs with
  | false=>unfold numOf;rw[if_neg (by simp[h1])];simp
  | true=>
    cases h2:fy t ys with
    | false=>
      have:numOf t ys=0:=by unfold numOf;rw[if_neg (by simp[h2])]
      omega
    | true=>
      unfold Jd at h;rw[h1,h2,aE hc.1,aE hc.2] at h;cases h
 ·rfl
theorem rtB_inv {s:Bool} (h:Jd s xs t ys=true):fy s xs=true/\fy t ys=true/\0<numOf t ys/\Int.gcd (numOf s xs) (numOf t ys)=1:=by
 unfold Jd at h;simp only[Bool.and_eq_true,decide_eq_true_eq] at h;exact h
variable {w:World}
theorem jv.lim {v:Value} {s:Bool} (h:jv w v s xs):ez xs:=by
 obtain⟨_,_,_,_,l⟩:=h;exact l
theorem Qf {v:Value} {s:Bool} (hv:gT w v s xs t ys) (h:Jd s xs t ys=true):cJ w v (rq s xs t ys):=by
 obtain⟨h1,h2,h3,h4⟩:=rtB_inv h;obtain⟨p,c,r,d,rfl,a1,a2⟩:=hv;obtain⟨e1,e2⟩:=zw ⟨h3,h4⟩;refine⟨s,p,_,c,t,r,_,d,aa,?_,?_⟩
 ·unfold rq;rw[e1];have l:=a1.lim;unfold numOf;rw[if_pos h1];obtain⟨c1,c2⟩:=canon l h1;show jv _ _ _ _;rw[<-c1,<-c2]
  assumption
 ·unfold rq;rw[e2];have l:=a2.lim;unfold numOf;rw[if_pos h2];obtain⟨c1,c2⟩:=canon l h2;show jv _ _ _ _;rw[<-c1,<-c2]
  assumption
theorem jv.in {v:Value} {s:Bool} {k:Nat} (h:jv w v s xs) (hk:xs.length<=k):dL w v (numOf s xs) k:=⟨s,xs,h,rfl,hk⟩
theorem Bh (s t:Bool) (xs ys:List Nat) (v:Value) (w:World) (h:gT w v s xs t ys) (hx:xs.length<=536870912) (hy:ys.length<=536870912):
  Calls Tryz.prog 68 #[v] w λe w'=>e=.returned (.bool (Jd s xs t ys))/\aU w w':=by
 obtain⟨p,c,r,d,rfl,h1,h2⟩:=h;refine ah (C:=cH Tryz.prog w _) (args:=[_]) Ag aa Tryz.ntmps68 (bM aa) ?_;refine ae ?_;refine VO.call aa aa (fk Tryz.func102) (λbn cG bo=>(zp s xs _ bn (h1.bI bo)).mono ?_);rintro e w1 ⟨rfl,bA⟩;cases q1:fy s xs
 ·refine bZ bA ?_;intro eF _ bb1;refine bl ?_;intro wz kz bz;exact⟨by simp[Jd,q1,lN],bz⟩
 refine bZ bA ?_;intro eF _ bb1;refine VO.call aa aa (fk Tryz.func102) (λcz dB cT=>(zp t ys _ cz (h2.bI cT)).mono ?_);rintro e w2 ⟨rfl,cC⟩;cases q2:fy t ys
 ·refine bZ cC ?_;intro fe _ bb2;refine bl ?_;intro wz kz bz;exact⟨by simp[Jd,q1,q2,lN],bz⟩
 refine bZ cC ?_;intro fe _ bb2;refine VO.call aa aa (fk Tryz.func43) (λeP fA ft=>(xP _ (numOf t ys) _ eP ((h2.in (bL _)).bI ft)).mono ?_);rintro e w3 ⟨rfl,dZ⟩;by_cases q3:0<numOf t ys
 ·rw[im q3];refine bZ dZ ?_;intro jm _ bb3;refine VO.cI aa aa (fk Tryz.func103) (λfW iJ iB=>PN _ _ (numOf s xs) (numOf t ys) _ _ fW ((h1.in (bL _)).bI iB) ((h2.in (bL _)).bI iB) hx hy) (λfW iJ iB w4 s4 p4 n4 c4 h4 ic mB _ tI=>wV aa ?_);refine ae ?_;refine VO.cI aa aa (fk Tryz.func77) (λfQ iH fV=>zz fQ) (λfQ iH fV w5 s5 p5 n5 c5 h5 iz lg _ sR=>wV aa ?_);refine ae ?_
  have hg:Sz (Int.gcd (numOf s xs) (numOf t ys):Int) ys.length:=by
   obtain⟨_,_,_,_,l2⟩:=h2;refine Sz.le (Y:=numOf t ys) (Bb l2 (bL _)) ?_;rw[CU,<-CU (Int.gcd (numOf s xs) (numOf t ys))];have:=Int.gcd_dvd_right (numOf s xs) (numOf t ys);have:=Int.natAbs_dvd_natAbs.2 this;exact Nat.le_of_dvd ab this
  refine VO.call aa aa (fk JW) (λfJ iK gE=>(xf _ _ (Int.gcd (numOf s xs) (numOf t ys):Int) 1 _ 1 fJ ((h4.kp (iH.aR ((Kp.of iz).aR iK))).in hg) ((h5.kp iK).in (Sz.small bq)) ab ab).mono ?_);rintro e w6 ⟨rfl,ln⟩;by_cases q4:Int.gcd (numOf s xs) (numOf t ys)=1
  ·rw[show ((Int.gcd (numOf s xs) (numOf t ys):Int)-1).sign=0 by rw[q4];rfl];refine bZ ln ?_;intro lH _ sj;refine bl ?_;intro wz kz bz;exact⟨by simp[Jd,q1,q2,q3,q4,lN],bz⟩
  ·have hne:(((Int.gcd (numOf s xs) (numOf t ys):Int)-1).sign == 0)=false:=by
    rw[iZ];intro e;have:=YM.1 e;omega
   refine bZ ln ?_;intro lH _ sj;refine bl ?_;intro wz kz bz;exact⟨by simp only[Jd,q1,q2,q3,q4,lN,Bool.true_and,decide_true,decide_false,hne],bz⟩
 ·have q4:(numOf t ys).sign=0\/(numOf t ys).sign= -1:=by
   rcases Int.lt_trichotomy (numOf t ys) 0 with e|e|e
   ·exact .inr (sign_neg e)
   ·rw[e];exact .inl aa
   ·exact absurd e q3
  rcases q4 with q4|q4
  all_goals
   rw[q4];refine bZ dZ ?_;intro jm _ bb3;refine bl ?_;intro wz kz bz;exact⟨by simp[Jd,q1,q2,q3,lN],bz⟩
theorem cJ.zero {p:Option Addr} {n c:Nat} {s:Bool} (h:dX w (.agg #[.bool s,.slice p n c]) 1):cJ w (.agg #[.bool false,.slice none 0 0,.bool s,.slice p n c]) 0:=⟨_,_,_,_,_,_,_,_,rfl,dX.zero _,h⟩
theorem eg (v:Value) (q:Rat) (k:Nat) (w:World) (h:ck w v q k) (hk:k<=536870912):
  Calls Tryz.prog 40 #[v] w λe w'=>∃ r,e=.returned r/\cJ w' r q/\aU w w':=by
 obtain⟨s,xs,t,ys,qQ,rfl,hx,hy⟩:=h;have Qg:=qQ;obtain⟨p,c,r,d,rfl,_,_⟩:=qQ;refine ah (C:=cH Tryz.prog w _) (args:=[_]) qH aa Tryz.ntmps40 (bM aa) ?_;refine ae ?_;refine VO.call aa aa (fk Ag) (λbn cG bo=>(Bh s t xs ys _ bn (Qg.kp cG) ab ab).mono ?_);rintro e w1 ⟨rfl,bA⟩;cases hq:Jd s xs t ys
 ·refine bZ bA ?_;intro eF _ bb1;refine VO.cI aa aa (fk Tryz.func77) (λcz dB cT=>zz cz) (λcz dB cT w2 s2 p2 n2 c2 h2 cC fe _ bb2=>wV aa ?_);refine ae ?_;refine bl ?_;intro wz kz bz;exact⟨_,aa,by rw[Qe hq];exact cJ.zero (h2.kp kz).rd,bz⟩
 ·refine bZ bA ?_;intro eF _ bb1;refine bl ?_;intro wz kz bz;exact⟨_,aa,(Qf Qg hq).kp (eF.aR kz),bz⟩
variable {X Y:Int}
theorem Mi {k:Nat} (hY:Sz Y k) (h:Y≠0):Sz (Int.gcd X Y:Int) k:=by
 refine Sz.le (Y:=Y) hY ?_;rw[CU,<-CU (Int.gcd X Y)];exact Nat.le_of_dvd ab (Int.natAbs_dvd_natAbs.2 (Int.gcd_dvd_right X Y))
theorem je {w':World} {e:Ending} (h:Hj w w' X Y e) (hY:Y≠0):∃ v u,e=.returned (.tuple #[v,u,.int .i64 0])/\aO w' w.heap.size v (X.fdiv Y)/\aO w' w.heap.size u (X.fmod Y):=by
 rcases h with ⟨h0,_⟩|⟨_,h⟩
 ·exact absurd h0 hY
 ·exact h
theorem xp (v u:Value) (X Y:Int) (j k:Nat) (w:World) (hv:dL w v X j) (hu:dL w u Y k) (hj:j<=268435456) (hk:k<=268435456) (hY:Y≠0):
  Calls Tryz.prog 83 #[v,u] w λe w'=>∃ r,e=.returned r/\aW w' w.heap.size r (Rat.divInt X Y)/\aU w w':=by
 obtain⟨s,p,n,c,rfl⟩:=hv.form;obtain⟨t,r,m,d,rfl⟩:=hu.form;refine ah (C:=cH Tryz.prog w _) (args:=[_,_]) Tryz.func83 aa Tryz.ntmps83 (bM aa) ?_;refine ae ?_;refine VO.cI aa aa (fk Tryz.func103) (λbn cG bo=>PN _ _ X Y j k bn (hv.kp cG) (hu.kp cG) ab ab) (λbn cG bo w1 s1 p1 n1 c1 h1 bA eF _ bb1=>wV aa ?_);refine ae ?_;refine VO.call aa aa (fk Tryz.func43) (λcz dB cT=>(xP _ Y k cz (hu.bI cT)).mono ?_);rintro e w2 ⟨rfl,cC⟩;have hgs:Sz (Int.gcd X Y:Int) k:=Mi hu.len hY
 have ZY:(Int.gcd X Y:Int)≠0:=by
  intro e;have:=(Uh.1 (show Int.gcd X Y=0 by omega)).2;exact hY this
 rcases Uk hY with q|q
 ·rw[sign_neg q];obtain⟨l1,l2⟩:=low_neg (X:=X) q;refine bZ cC ?_;intro fe _ bb2;refine VO.cI aa aa (fk Tryz.func113) (λeP fA ft=>PM _ (Int.gcd X Y:Int) k eP ((h1.kp (fe.aR fA)).in hgs) ab) (λeP fA ft w3 s3 p3 n3 c3 h3 dZ jm _ bb3=>wV aa ?_);refine ae ?_;refine VO.call aa aa (fk Tryz.func114) (λfW iJ iB=>(se _ _ X (-(Int.gcd X Y:Int)) j k fW (hv.bI iB) ((h3.kp iJ).in hgs.neg) ab ab).mono ?_);rintro e w4 ⟨hd4,ic⟩;obtain⟨v4,u4,rfl,h4,h4'⟩:=je hd4 ab;obtain⟨s4,p4,n4,c4,rfl⟩:=h4.form;obtain⟨t4,r4,m4,d4,rfl⟩:=h4'.form;refine bZ ic ?_;intro mB _ tI;refine VO.call aa aa (fk Tryz.func114) (λfQ iH fV=>(se _ _ Y (-(Int.gcd X Y:Int)) k k fQ (hu.bI fV) ((h3.kp (mB.aR iH)).in hgs.neg) ab ab).mono ?_);rintro e w5 ⟨hd5,iz⟩;obtain⟨v5,u5,rfl,h5,h5'⟩:=je hd5 ab;obtain⟨s5,p5,n5,c5,rfl⟩:=h5.form;obtain⟨t5,r5,m5,d5,rfl⟩:=h5'.form;refine bZ iz ?_;intro lg _ sR;refine bl ?_;intro wz kz bz;exact⟨_,aa,⟨_,_,_,_,_,_,_,_,aa,aO.cast ((h4.kp (lg.aR kz)).mono iB.size) l1,aO.cast ((h5.kp kz).mono fV.size) l2⟩,bz⟩
 ·rw[im q];obtain⟨l1,l2⟩:=FK (X:=X) q;refine bZ cC ?_;intro fe _ bb2;refine VO.call aa aa (fk Tryz.func114) (λfW iJ iB=>(se _ _ X (Int.gcd X Y:Int) j k fW (hv.bI iB) ((h1.kp (fe.aR iJ)).in hgs) ab ab).mono ?_);rintro e w4 ⟨hd4,ic⟩;obtain⟨v4,u4,rfl,h4,h4'⟩:=je hd4 ab;obtain⟨s4,p4,n4,c4,rfl⟩:=h4.form;obtain⟨t4,r4,m4,d4,rfl⟩:=h4'.form;refine bZ ic ?_;intro mB _ tI;refine VO.call aa aa (fk Tryz.func114) (λfQ iH fV=>(se _ _ Y (Int.gcd X Y:Int) k k fQ (hu.bI fV) ((h1.kp (fe.aR (mB.aR iH))).in hgs) ab ab).mono ?_);rintro e w5 ⟨hd5,iz⟩;obtain⟨v5,u5,rfl,h5,h5'⟩:=je hd5 ab;obtain⟨s5,p5,n5,c5,rfl⟩:=h5.form;obtain⟨t5,r5,m5,d5,rfl⟩:=h5'.form;refine bZ iz ?_;intro lg _ sR;refine bl ?_;intro wz kz bz;exact⟨_,aa,⟨_,_,_,_,_,_,_,_,aa,aO.cast ((h4.kp (lg.aR kz)).mono iB.size) l1,aO.cast ((h5.kp kz).mono fV.size) l2⟩,bz⟩
end
section
open Go.RowKit
attribute [local irreducible] aG VS
theorem FN (q r:Rat):q+r=Rat.divInt (q.num*r.den+r.num*q.den) ((q.den:Int)*r.den):=by
 rw[Rat.add_def',<-Rat.divInt_ofNat];simp
theorem add_same {q r:Rat} (h:(q.den:Int)=r.den):q+r=Rat.divInt (q.num+r.num) q.den:=by
 rw[FN,<-h];have hd:(q.den:Int)≠0:=by have:=q.den_nz;omega
 rw[<-Int.add_mul,Rat.divInt_mul_right hd]
theorem Mj (q r:Rat):q*r=Rat.divInt (q.num*r.num) ((q.den:Int)*r.den):=by
 rw[Rat.mul_def',<-Rat.divInt_ofNat];simp
theorem tM {X Y:Int} {k l:Nat} (hX:Sz X k) (hY:Sz Y l) (h:Y≠0):Sz (Rat.divInt X Y).num k/\Sz ((Rat.divInt X Y).den:Int) l:=by
 constructor
 ·refine Sz.le hX ?_;rw[Rat.num_divInt];have h1:(Y.sign*X/(Y.gcd X:Int)).natAbs<=(Y.sign*X).natAbs:=Int.natAbs_ediv_le_natAbs _ _;rw[Int.natAbs_mul] at h1
  have h2:Y.sign.natAbs=1:=by
   rcases Uk h with e|e
   ·rw[sign_neg e];rfl
   ·rw[im e];rfl
  rw[h2,Da] at h1;exact h1
 ·refine Sz.le hY ?_;rw[Rat.den_divInt,if_neg h,CU];exact Oq _ _
theorem fI.add {q r:Rat} {k l:Nat} (hq:fI q k) (hr:fI r l):fI (q+r) (k+l+1):=by
 rw[FN];have hd:(q.den:Int)*r.den≠0:=Int.mul_ne_zero (by have:=q.den_nz;omega) (by have:=r.den_nz;omega);obtain⟨h1,h2⟩:=tM (Sz.add (hq.1.mul hr.2) (hr.1.mul hq.2) (m:=k+l) ab ab) (hq.2.mul hr.2) hd;exact⟨h1,h2.mono ab⟩
theorem fI.mul {q r:Rat} {k l:Nat} (hq:fI q k) (hr:fI r l):fI (q*r) (k+l):=by
 rw[Mj];have hd:(q.den:Int)*r.den≠0:=Int.mul_ne_zero (by have:=q.den_nz;omega) (by have:=r.den_nz;omega);exact tM (hq.1.mul hr.1) (hq.2.mul hr.2) hd
theorem fI.neg {q:Rat} {k:Nat} (hq:fI q k):fI (-q) k:=⟨by rw[Rat.neg_num];exact hq.1.neg,by rw[Rat.neg_den];exact hq.2⟩
theorem fI.sub {q r:Rat} {k l:Nat} (hq:fI q k) (hr:fI r l):fI (q-r) (k+l+1):=by rw[Rat.sub_eq_add_neg];exact hq.add hr.neg
def eQ (q r:Rat):Int:=if q<r then-1 else if q=r then 0 else 1
theorem Qh (q r:Rat):(q.num*r.den-r.num*q.den).sign=eQ q r:=by
 unfold eQ;by_cases h1:q<r
 ·rw[if_pos h1];exact sign_neg (by have:=(Rat.lt_iff q r).1 h1;omega)
 ·rw[if_neg h1];by_cases h2:q=r
  ·subst h2;rw[if_pos rfl,Int.sub_self];rfl
  ·rw[if_neg h2];refine im ?_;have a:=mt (Rat.lt_iff q r).2 h1;have b:=mt Rat.eq_iff_mul_eq_mul.2 h2;omega
theorem KX (q:Rat):q.num.sign=eQ q 0:=by
 have:=Qh q 0;simpa using this
theorem rcmp_sub (q r:Rat):eQ (q-r) 0=eQ q r:=by
 unfold eQ;have h1:q-r<0↔q<r:=by grind
 have h2:q-r=0↔q=r:=by grind
 simp only[h1,h2]
def Qi (Y:Int):Int:=if Y=0 then 20 else 0
theorem dz (n:Int) (w:World) (h0: -9223372036854775808<=n) (h1:n<=9223372036854775807):
  Calls Tryz.prog 44 #[.int .i64 n] w λe w'=>∃ r,e=.returned r/\aW w' w.heap.size r (n:Rat)/\aU w w':=by
 refine ah (C:=cH Tryz.prog w _) (args:=[_]) nK aa Tryz.ntmps44 (bM aa) ?_;refine ae ?_;refine VO.cI aa aa (fk Tryz.func82) (λbn cG bo=>UX n bn h0 h1) (λbn cG bo w1 s1 p1 n1 c1 q1 bA eF _ bb1=>wV aa ?_);refine ae ?_;refine VO.cI aa aa (fk Tryz.func77) (λcz dB cT=>zz cz) (λcz dB cT w2 s2 p2 n2 c2 q2 cC fe _ bb2=>wV aa ?_);refine ae ?_;refine bl ?_;intro wz kz bz;exact⟨_,aa,⟨_,_,_,_,_,_,_,_,aa,(q1.kp (fe.aR kz)).mono bo.size,(q2.kp kz).mono cT.size⟩,bz⟩
theorem tP (v u:Value) (q r:Rat) (k l:Nat) (w:World) (hv:cJ w v q) (hu:cJ w u r) (hq:fI q k) (hr:fI r l) (hk:k<=67108864) (hl:l<=67108864):
  Calls Tryz.prog 45 #[v,u] w λe w'=>∃ x,e=.returned x/\aW w' w.heap.size x (q+r)/\aU w w':=by
 obtain⟨s,p,n,c,t,y,m,d,rfl⟩:=hv.form;obtain⟨s',p',n',c',t',y',m',d',rfl⟩:=hu.form;obtain⟨v1,v2⟩:=hv.parts;obtain⟨u1,u2⟩:=hu.parts;have dq:(q.den:Int)≠0:=by have:=q.den_nz;omega
 have dr:(r.den:Int)≠0:=by have:=r.den_nz;omega
 refine ah (C:=cH Tryz.prog w _) (args:=[_,_]) JY aa Tryz.ntmps45 (bM aa) ?_;refine ae ?_;refine VO.call aa aa (fk JW) (λbn cG bo=>(xf _ _ (q.den:Int) r.den k l bn ((v2.bI bo).to hq.2) ((u2.bI bo).to hr.2) ab ab).mono ?_);rintro e w1 ⟨rfl,bA⟩;by_cases hd:(q.den:Int)=r.den
 ·rw[show ((q.den:Int)-r.den).sign=0 by rw[hd,Int.sub_self];rfl];refine bZ bA ?_;intro eF _ bb1;refine VO.cI aa aa (fk Tryz.func84) (λcz dB cT=>PL _ _ q.num r.num k l cz ((v1.bI cT).to hq.1) ((u1.bI cT).to hr.1) ab ab) (λcz dB cT w2 s2 p2 n2 c2 q2 cC fe _ bb2=>wV aa ?_);refine ae ?_;refine VO.cR aa aa (fk Tryz.func83) (λeP fA ft=>xp _ _ (q.num+r.num) q.den (k+l+1) k eP ((q2.kp fA).in (Sz.add hq.1 hr.1 ab ab)) ((v2.bI ft).to hq.2) ab ab dq) (λeP fA ft w3 s3 p3 n3 c3 t3 y3 m3 d3 q3 dZ jm _ bb3=>wV aa ?_);refine ae ?_;refine bl ?_;intro wz kz bz;exact⟨_,aa,aW.cast ((q3.kp kz).mono ft.size) (add_same hd).symm,bz⟩
 ·have hs:((((q.den:Int)-r.den).sign == 0))=false:=by
   rw[iZ];intro e;have:=YM.1 e;omega
  rcases Uk (show (q.den:Int)-r.den≠0 by omega) with e|e
  all_goals
   first|rw[sign_neg e]|rw[im e]
   refine bZ bA ?_;intro eF _ bb1;refine VO.cI aa aa (fk Db) (λcz dB cT=>qU _ _ q.num r.den k l cz ((v1.bI cT).to hq.1) ((u2.bI cT).to hr.2) ab ab) (λcz dB cT w2 s2 p2 n2 c2 q2 cC fe _ bb2=>wV aa ?_);refine ae ?_;refine VO.cI aa aa (fk Db) (λeP fA ft=>qU _ _ r.num q.den l k eP ((u1.bI ft).to hr.1) ((v2.bI ft).to hq.2) ab ab) (λeP fA ft w3 s3 p3 n3 c3 q3 dZ jm _ bb3=>wV aa ?_);refine ae ?_;refine VO.cI aa aa (fk Tryz.func84) (λfW iJ iB=>PL _ _ (q.num*r.den) (r.num*q.den) (k+l) (l+k) fW ((q2.kp (jm.aR iJ)).in (hq.1.mul hr.2)) ((q3.kp iJ).in (hr.1.mul hq.2)) ab ab) (λfW iJ iB w4 s4 p4 n4 c4 q4 ic mB _ tI=>wV aa ?_);refine ae ?_;refine VO.cI aa aa (fk Db) (λfQ iH fV=>qU _ _ q.den r.den k l fQ ((v2.bI fV).to hq.2) ((u2.bI fV).to hr.2) ab ab) (λfQ iH fV w5 s5 p5 n5 c5 q5 iz lg _ sR=>wV aa ?_);refine ae ?_;refine VO.cR aa aa (fk Tryz.func83) (λfJ iK gE=>xp _ _ (q.num*r.den+r.num*q.den) ((q.den:Int)*r.den) (k+l+1) (k+l) fJ ((q4.kp (lg.aR iK)).in (Sz.add (hq.1.mul hr.2) (hr.1.mul hq.2) ab ab)) ((q5.kp iK).in (hq.2.mul hr.2)) ab ab (Int.mul_ne_zero dq dr)) (λfJ iK gE w6 s6 p6 n6 c6 t6 y6 m6 d6 q6 ln lH _ sj=>wV aa ?_);refine ae ?_;refine bl ?_;intro wz kz bz;exact⟨_,aa,aW.cast ((q6.kp kz).mono gE.size) (FN q r).symm,bz⟩
end
section
open Go.RowKit
attribute [local irreducible] aG VS
def gU (k:Nat):Nat:=max k 1
theorem ck.xS {w:World} {v:Value} {q:Rat} {k:Nat} (h:ck w v q k):fI q (gU k):=by
 obtain⟨s,xs,t,ys,h1,h2,h3,h4⟩:=h;exact ck.sz (k:=gU k) ⟨s,xs,t,ys,h1,h2,by unfold gU;omega,by unfold gU;omega⟩ (by unfold gU;omega)
theorem gi (v u:Value) (q r:Rat) (k l:Nat) (w:World) (hv:ck w v q k) (hu:ck w u r l) (hk:k<=67108864) (hl:l<=67108864):
  Calls Tryz.prog 16 #[v,u] w λe w'=>∃ x,e=.returned x/\aW w' w.heap.size x (q+r)/\aU w w':=by
 obtain⟨s,p,n,c,t,y,m,d,rfl⟩:=hv.form;obtain⟨s',p',n',c',t',y',m',d',rfl⟩:=hu.form;refine ah (C:=cH Tryz.prog w _) (args:=[_,_]) tk aa Tryz.ntmps16 (bM aa) ?_;refine ae ?_;refine VO.cR aa aa (fk qH) (λbn cG bo=>eg _ q k bn (hv.kp cG) ab) (λbn cG bo w1 s1 p1 n1 c1 t1 y1 m1 d1 q1 bA eF _ bb1=>wV aa ?_);refine ae ?_;refine VO.cR aa aa (fk qH) (λcz dB cT=>eg _ r l cz (hu.kp (eF.aR dB)) ab) (λcz dB cT w2 s2 p2 n2 c2 t2 y2 m2 d2 q2 cC fe _ bb2=>wV aa ?_);refine ae ?_;refine VO.cR aa aa (fk JY) (λeP fA ft=>tP _ _ q r _ _ eP (q1.kp (fe.aR fA)) (q2.kp fA) hv.xS hu.xS (by unfold gU;omega) (by unfold gU;omega)) (λeP fA ft w3 s3 p3 n3 c3 t3 y3 m3 d3 q3 dZ jm _ bb3=>wV aa ?_);refine ae ?_;refine bl ?_;intro wz kz bz;exact⟨_,aa,(q3.kp kz).mono ft.size,bz⟩
theorem SN (v:Value) (q:Rat) (k:Nat) (w:World) (hv:ck w v q k) (hk:k<=536870912):
  Calls Tryz.prog 109 #[v] w λe w'=>∃ x,e=.returned x/\aW w' w.heap.size x (-q)/\aU w w':=by
 obtain⟨s,p,n,c,t,y,m,d,rfl⟩:=hv.form;refine ah (C:=cH Tryz.prog w _) (args:=[_]) Tryz.func109 aa Tryz.ntmps109 (bM aa) ?_;refine ae ?_;refine VO.cR aa aa (fk qH) (λbn cG bo=>eg _ q k bn (hv.kp cG) hk) (λbn cG bo w1 s1 p1 n1 c1 t1 y1 m1 d1 q1 bA eF _ bb1=>wV aa ?_);refine ae ?_;obtain⟨a1,a2⟩:=q1.parts;refine VO.cI aa aa (fk Tryz.func113) (λcz dB cT=>PM _ q.num _ cz ((a1.kp dB).to hv.xS.1) (by unfold gU;omega)) (λcz dB cT w2 s2 p2 n2 c2 q2 cC fe _ bb2=>wV aa ?_);refine ae ?_;refine VO.cI aa aa (fk Tryz.func129) (λeP fA ft=>ZT _ q.den _ eP ((a2.kp (fe.aR fA)).to hv.xS.2) (by unfold gU;omega)) (λeP fA ft w3 s3 p3 n3 c3 q3 dZ jm _ bb3=>wV aa ?_);refine ae ?_;refine bl ?_;intro wz kz bz;exact⟨_,aa,⟨_,_,_,_,_,_,_,_,aa,aO.cast ((q2.kp (jm.aR kz)).mono cT.size) (Rat.neg_num q).symm,aO.cast ((q3.kp kz).mono ft.size) (by rw[Rat.neg_den,CU])⟩,bz⟩
theorem ew (v u:Value) (q r:Rat) (k l:Nat) (w:World) (hv:ck w v q k) (hu:ck w u r l) (hk:k<=67108864) (hl:l<=67108864):
  Calls Tryz.prog 72 #[v,u] w λe w'=>∃ x,e=.returned x/\aW w' w.heap.size x (q-r)/\aU w w':=by
 obtain⟨s,p,n,c,t,y,m,d,rfl⟩:=hv.form;obtain⟨s',p',n',c',t',y',m',d',rfl⟩:=hu.form;refine ah (C:=cH Tryz.prog w _) (args:=[_,_]) nL aa Tryz.ntmps72 (bM aa) ?_;refine ae ?_;refine VO.cR aa aa (fk qH) (λbn cG bo=>eg _ q k bn (hv.kp cG) ab) (λbn cG bo w1 s1 p1 n1 c1 t1 y1 m1 d1 q1 bA eF _ bb1=>wV aa ?_);refine ae ?_;refine VO.cR aa aa (fk Tryz.func109) (λcz dB cT=>SN _ r l cz (hu.kp (eF.aR dB)) ab) (λcz dB cT w2 s2 p2 n2 c2 t2 y2 m2 d2 q2 cC fe _ bb2=>wV aa ?_);refine ae ?_;refine VO.cR aa aa (fk JY) (λeP fA ft=>tP _ _ q (-r) _ _ eP (q1.kp (fe.aR fA)) (q2.kp fA).rd hv.xS hu.xS.neg (by unfold gU;omega) (by unfold gU;omega)) (λeP fA ft w3 s3 p3 n3 c3 t3 y3 m3 d3 q3 dZ jm _ bb3=>wV aa ?_);refine ae ?_;refine bl ?_;intro wz kz bz;exact⟨_,aa,aW.cast ((q3.kp kz).mono ft.size) (Rat.sub_eq_add_neg q r).symm,bz⟩
theorem SP (v u:Value) (q r:Rat) (k l:Nat) (w:World) (hv:ck w v q k) (hu:ck w u r l) (hk:k<=67108864) (hl:l<=67108864):
  Calls Tryz.prog 105 #[v,u] w λe w'=>∃ x,e=.returned x/\aW w' w.heap.size x (q*r)/\aU w w':=by
 obtain⟨s,p,n,c,t,y,m,d,rfl⟩:=hv.form;obtain⟨s',p',n',c',t',y',m',d',rfl⟩:=hu.form;have dq:(q.den:Int)*r.den≠0:=Int.mul_ne_zero (by have:=q.den_nz;omega) (by have:=r.den_nz;omega);have zq:=hv.xS;have zr:=hu.xS;have uk:gU k<=67108864:=by unfold gU;omega
 have ul:gU l<=67108864:=by unfold gU;omega
 refine ah (C:=cH Tryz.prog w _) (args:=[_,_]) Tryz.func105 aa Tryz.ntmps105 (bM aa) ?_;refine ae ?_;refine VO.cR aa aa (fk qH) (λbn cG bo=>eg _ q k bn (hv.kp cG) ab) (λbn cG bo w1 s1 p1 n1 c1 t1 y1 m1 d1 q1 bA eF _ bb1=>wV aa ?_);refine ae ?_;refine VO.cR aa aa (fk qH) (λcz dB cT=>eg _ r l cz (hu.kp (eF.aR dB)) ab) (λcz dB cT w2 s2 p2 n2 c2 t2 y2 m2 d2 q2 cC fe _ bb2=>wV aa ?_);refine ae ?_;obtain⟨a1,a2⟩:=q1.parts;obtain⟨b1,b2⟩:=q2.parts;refine VO.cI aa aa (fk Db) (λeP fA ft=>qU _ _ q.num r.num _ _ eP ((a1.kp (fe.aR fA)).to zq.1) ((b1.kp fA).to zr.1) ab ab) (λeP fA ft w3 s3 p3 n3 c3 q3 dZ jm _ bb3=>wV aa ?_);refine ae ?_;refine VO.cI aa aa (fk Db) (λfW iJ iB=>qU _ _ q.den r.den _ _ fW ((a2.kp (fe.aR (jm.aR iJ))).to zq.2) ((b2.kp (jm.aR iJ)).to zr.2) ab ab) (λfW iJ iB w4 s4 p4 n4 c4 q4 ic mB _ tI=>wV aa ?_);refine ae ?_;refine VO.cR aa aa (fk Tryz.func83) (λfQ iH fV=>xp _ _ (q.num*r.num) ((q.den:Int)*r.den) _ _ fQ ((q3.kp (mB.aR iH)).in (zq.1.mul zr.1)) ((q4.kp iH).in (zq.2.mul zr.2)) ab ab dq) (λfQ iH fV w5 s5 p5 n5 c5 t5 y5 m5 d5 q5 iz lg _ sR=>wV aa ?_);refine ae ?_;refine bl ?_;intro wz kz bz;exact⟨_,aa,aW.cast ((q5.kp kz).mono fV.size) (Mj q r).symm,bz⟩
theorem Qj (v:Value) (q:Rat) (k:Nat) (w:World) (hv:ck w v q k) (hk:k<=536870912):
  Calls Tryz.prog 13 #[v] w λe w'=>e=.returned (.int .i64 (eQ q 0))/\aU w w':=by
 obtain⟨s,p,n,c,t,y,m,d,rfl⟩:=hv.form;refine ah (C:=cH Tryz.prog w _) (args:=[_]) mJ aa Tryz.ntmps13 (bM aa) ?_;refine ae ?_;refine VO.cR aa aa (fk qH) (λbn cG bo=>eg _ q k bn (hv.kp cG) hk) (λbn cG bo w1 s1 p1 n1 c1 t1 y1 m1 d1 q1 bA eF _ bb1=>wV aa ?_);refine ae ?_;refine VO.call aa aa (fk Tryz.func43) (λcz dB cT=>(xP _ q.num _ cz ((q1.parts.1.kp dB).to hv.xS.1)).mono ?_);rintro e w2 ⟨rfl,cC⟩;rw[KX];refine bZ cC ?_;intro fe _ bb2;refine bl ?_;intro wz kz bz;exact⟨aa,bz⟩
theorem zA (v u:Value) (q r:Rat) (k l:Nat) (w:World) (hv:ck w v q k) (hu:ck w u r l) (hk:k<=67108864) (hl:l<=67108864):
  Calls Tryz.prog 12 #[v,u] w λe w'=>e=.returned (.int .i64 (eQ q r))/\aU w w':=by
 obtain⟨s,p,n,c,t,y,m,d,rfl⟩:=hv.form;obtain⟨s',p',n',c',t',y',m',d',rfl⟩:=hu.form;have zq:=hv.xS;have zr:=hu.xS;have uk:gU k<=67108864:=by unfold gU;omega
 have ul:gU l<=67108864:=by unfold gU;omega
 refine ah (C:=cH Tryz.prog w _) (args:=[_,_]) jU aa Tryz.ntmps12 (bM aa) ?_;refine ae ?_;refine VO.cR aa aa (fk qH) (λbn cG bo=>eg _ q k bn (hv.kp cG) ab) (λbn cG bo w1 s1 p1 n1 c1 t1 y1 m1 d1 q1 bA eF _ bb1=>wV aa ?_);refine ae ?_;refine VO.cR aa aa (fk qH) (λcz dB cT=>eg _ r l cz (hu.kp (eF.aR dB)) ab) (λcz dB cT w2 s2 p2 n2 c2 t2 y2 m2 d2 q2 cC fe _ bb2=>wV aa ?_);refine ae ?_;obtain⟨a1,a2⟩:=q1.parts;obtain⟨b1,b2⟩:=q2.parts;refine VO.cI aa aa (fk Db) (λeP fA ft=>qU _ _ q.num r.den _ _ eP ((a1.kp (fe.aR fA)).to zq.1) ((b2.kp fA).to zr.2) ab ab) (λeP fA ft w3 s3 p3 n3 c3 q3 dZ jm _ bb3=>wV aa ?_);refine ae ?_;refine VO.cI aa aa (fk Db) (λfW iJ iB=>qU _ _ r.num q.den _ _ fW ((b1.kp (jm.aR iJ)).to zr.1) ((a2.kp (fe.aR (jm.aR iJ))).to zq.2) ab ab) (λfW iJ iB w4 s4 p4 n4 c4 q4 ic mB _ tI=>wV aa ?_);refine ae ?_;refine VO.call aa aa (fk JW) (λfQ iH fV=>(xf _ _ (q.num*r.den) (r.num*q.den) _ _ fQ ((q3.kp (mB.aR iH)).in (zq.1.mul zr.2)) ((q4.kp iH).in (zr.1.mul zq.2)) ab ab).mono ?_);rintro e w5 ⟨rfl,iz⟩;rw[Qh];refine bZ iz ?_;intro lg _ sR;refine bl ?_;intro wz kz bz;exact⟨aa,bz⟩
theorem xq (a b:Int):(a=b/\(a-b).sign=0)\/(a≠b/\((a-b).sign=1\/(a-b).sign= -1)):=by
 rcases Int.lt_trichotomy a b with e|e|e
 ·exact .inr ⟨ab,.inr (sign_neg ab)⟩
 ·exact .inl ⟨e,by rw[e,Int.sub_self];rfl⟩
 ·exact .inr ⟨ab,.inl (im ab)⟩
theorem DD (v u:Value) (q r:Rat) (k l:Nat) (w:World) (hv:ck w v q k) (hu:ck w u r l) (hk:k<=67108864) (hl:l<=67108864):
  Calls Tryz.prog 91 #[v,u] w λe w'=>e=.returned (.bool (decide (q=r)))/\aU w w':=by
 obtain⟨s,p,n,c,t,y,m,d,rfl⟩:=hv.form;obtain⟨s',p',n',c',t',y',m',d',rfl⟩:=hu.form;have zq:=hv.xS;have zr:=hu.xS;have uk:gU k<=67108864:=by unfold gU;omega
 have ul:gU l<=67108864:=by unfold gU;omega
 refine ah (C:=cH Tryz.prog w _) (args:=[_,_]) Tryz.func91 aa Tryz.ntmps91 (bM aa) ?_;refine ae ?_;refine VO.cR aa aa (fk qH) (λbn cG bo=>eg _ q k bn (hv.kp cG) ab) (λbn cG bo w1 s1 p1 n1 c1 t1 y1 m1 d1 q1 bA eF _ bb1=>wV aa ?_);refine ae ?_;refine VO.cR aa aa (fk qH) (λcz dB cT=>eg _ r l cz (hu.kp (eF.aR dB)) ab) (λcz dB cT w2 s2 p2 n2 c2 t2 y2 m2 d2 q2 cC fe _ bb2=>wV aa ?_);refine ae ?_;obtain⟨a1,a2⟩:=q1.parts;obtain⟨b1,b2⟩:=q2.parts;refine VO.call aa aa (fk JW) (λeP fA ft=>(xf _ _ q.num r.num _ _ eP ((a1.kp (fe.aR fA)).to zq.1) ((b1.kp fA).to zr.1) ab ab).mono ?_);rintro e w3 ⟨rfl,dZ⟩;rcases xq q.num r.num with ⟨hn,e⟩|⟨hn,e|e⟩
 ·rw[e];refine bZ dZ ?_;intro jm _ bb3;refine VO.call aa aa (fk JW) (λfW iJ iB=>(xf _ _ (q.den:Int) r.den _ _ fW ((a2.kp (fe.aR (jm.aR iJ))).to zq.2) ((b2.kp (jm.aR iJ)).to zr.2) ab ab).mono ?_);rintro e w4 ⟨rfl,ic⟩;rcases xq (q.den:Int) r.den with ⟨hd,e⟩|⟨hd,e|e⟩
  all_goals
   rw[e];refine bZ ic ?_;intro mB _ tI;refine bl ?_;intro wz kz bz
  ·exact⟨by rw[aE (Rat.ext hn ab)];rfl,bz⟩
  ·exact⟨by rw[aA (λe=>hd (by rw[e]))];rfl,bz⟩
  ·exact⟨by rw[aA (λe=>hd (by rw[e]))];rfl,bz⟩
 ·rw[e];refine bZ dZ ?_;intro jm _ bb3;refine bl ?_;intro wz kz bz;exact⟨by rw[aA (λe=>hn (by rw[e]))];rfl,bz⟩
 ·rw[e];refine bZ dZ ?_;intro jm _ bb3;refine bl ?_;intro wz kz bz;exact⟨by rw[aA (λe=>hn (by rw[e]))];rfl,bz⟩
end
section
open Go.RowKit
attribute [local irreducible] aG VS
def nc (w:World) (v:Value) (qs:List Rat) (k:Nat):Prop:=
 ∃ p c,v=.slice p qs.length c/\qs.length<=c/\c<=maxLen/\∀ i q,qs[i]? =some q->∃ b off s p' n c' t r m d,p=some ⟨b,off,none⟩/\
   (∀ j u,[Value.bool s,.slice p' n c',.bool t,.slice r m d][j]? =some u->w.cell? ⟨b,off+i*4+j,none⟩=some u)/\ck w (.agg #[.bool s,.slice p' n c',.bool t,.slice r m d]) q k
variable {qs:List Rat} {w:World}
theorem nc.form {v:Value} {k:Nat} (h:nc w v qs k):∃ p c,v=.slice p qs.length c/\qs.length<=c/\c<=maxLen:=by
 obtain⟨p,c,hv,h1,h2,_⟩:=h;exact⟨p,c,hv,h1,h2⟩
variable {i:Nat}
theorem nc.at {p:Option Addr} {n c:Nat} {k:Nat} {q:Rat} (h:nc w (.slice p n c) qs k) (hq:qs[i]? =some q):∃ b off s p' n' c' t r m d,p=some ⟨b,off,none⟩/\
  (∀ j u,[Value.bool s,.slice p' n' c',.bool t,.slice r m d][j]? =some u->w.cell? ⟨b,off+i*4+j,none⟩=some u)/\ck w (.agg #[.bool s,.slice p' n' c',.bool t,.slice r m d]) q k:=by
 obtain⟨p',c',hv,h1,h2,h3⟩:=h;cases hv;exact h3 i q hq
theorem nc.bI {w':World} {v:Value} {k:Nat} (h:nc w v qs k) (hb:aU w w'):nc w' v qs k:=by
 obtain⟨p,c,hv,h1,h2,h3⟩:=h;refine⟨p,c,hv,h1,h2,λi q hq=> ?_⟩;obtain⟨b,off,s,p',n,c',t,r,m,d,hp,hc,hr⟩:=h3 i q hq;exact⟨b,off,s,p',n,c',t,r,m,d,hp,λj u hj=>hb.cell (hc j u hj),hr.kp (Kp.of (U:=UU) hb)⟩
theorem aD (h:i<9223372036854775807):IntKind.i64.wrap ((i:Int)+1)=((i+1:Nat):Int):=by
 rw[cV _ ab];omega
def lh (qs:List Rat):Rat:=qs.foldl (·+ ·) 0
theorem dt {α:Type} {l:List α} {x:α} (h:l[i]? =some x):l.take (i+1)=l.take i++[x]:=by
 obtain⟨hi,rfl⟩:=cQ.1 h;exact List.take_succ_eq_append_getElem hi
theorem Cy {q:Rat} (h:qs[i]? =some q):lh (qs.take (i+1))=lh (qs.take i)+q:=by
 rw[dt h];simp[lh,List.foldl_append]
def eR (k i:Nat):Nat:=1+i*(gU k+1)
theorem xr (k i:Nat):eR k (i+1)=eR k i+gU k+1:=by unfold eR;rw[fG,Da];omega
theorem tQ {k n:Nat} (h:i<=n):eR k i<=eR k n:=by unfold eR;have:=pK (gU k+1) h;omega
theorem zB (v:Value) (qs:List Rat) (k:Nat) (w:World) (hv:nc w v qs k) (hk:eR k qs.length<=67108864):
  Calls Tryz.prog 14 #[v] w λe w'=>∃ x,e=.returned x/\aW w' w.heap.size x (lh qs)/\fI (lh qs) (eR k qs.length)/\aU w w':=by
 obtain⟨p,c,rfl,il,iC⟩:=hv.form;obtain⟨N,hN⟩:∃ N,N=qs.length:=⟨_,aa⟩;rw[<-hN] at hv hk il ⊢;have hNm:N<9223372036854775807:=by unfold eR at hk;have:=Uc N (show 0<gU k+1 by omega);omega
 have huk:gU k<=67108864\/N=0:=by
  rcases rK N with e|e
  ·exact .inr e
  ·left;unfold eR at hk;have:=Nat.le_mul_of_pos_left (gU k+1) e;omega
 refine ah (C:=cH Tryz.prog w _) (args:=[_]) Tryz.func14 aa Tryz.ntmps14 (bM aa) ?_;refine ae ?_;refine VO.cR aa aa (fk nK) (λbn cG bo=>dz 0 bn ab ab) (λbn cG bo w1 s1 p1 n1 c1 t1 y1 m1 d1 q1 bA eF _ bb1=>wV aa ?_);refine ae ?_
 refine VS.loop (J:=λn L M w'=>∃ i s p' n' c' t r m d,i<=N/\n=N-i/\L=[(7,.val (.slice p N c)),(8,.val (.int .i64 (N:Int))),(9,.val (.int .i64 (i:Int))),(3,.box 3 0),(2,.box 2 0)]/\
  M=[(2,(26,([.bool false,.slice none 0 0,.bool false,.slice none 0 0]:List Value).map .val)),(3,(26,([.bool s,.slice p' n' c',.bool t,.slice r m d]:List Value).map .val))]/\aW w' w.heap.size (.agg #[.bool s,.slice p' n' c',.bool t,.slice r m d]) (lh (qs.take i))/\fI (lh (qs.take i)) (eR k i)) N ⟨_,_,?_,?_,?_,?_,⟨0,s1,p1,n1,c1,t1,y1,m1,d1,ab,ab,rfl,rfl,(q1.mono bo.size).cast (by simp[lh]),by simp only[List.take_zero,lh,List.foldl_nil,eR,Nat.zero_mul,Nat.add_zero];exact fI.zero⟩⟩ ?_
 ·exact cA
 ·exact cA
 ·rfl
 ·exact gn
 rintro n L M w' ⟨i,s,p',n',c',t,r,m,d,hi,rfl,rfl,rfl,ho,hz⟩;refine ae ?_;by_cases hlt:i<N
 ·obtain⟨q,hq⟩:∃ q,qs[i]? =some q:=⟨_,ba ab⟩;obtain⟨b,off,s2,p2,n2,c2,t2,r2,m2,d2,rfl,hc,xJ⟩:=hv.at hq;refine VS.aV aa (aE (aQ.2 hlt)) ?_;refine ae ?_;refine VO.cond aa dQ (wV aa ?_);refine VO.read aa [.bool s2,.slice p2 n2 c2,.bool t2,.slice r2 m2 d2] aa (λj u hj=>by rw[ju,dC];exact hc j u hj) (wV aa ?_);refine ae ?_;refine VO.call aa aa (fk qH) (λcz dB cT=>(eg _ q k cz ((xJ.kp (Kp.of (U:=UU) cT))) (by have:=hk;unfold gU at*;omega)).mono ?_);rintro e w2 ⟨r2',rfl,q2,cC⟩;obtain⟨s3,p3,n3,c3,t3,y3,m3,d3,rfl⟩:=q2.form;refine bZ cC ?_;intro fe _ bb2;refine VO.call aa aa (fk JY) (λeP fA ft=>(tP _ _ (lh (qs.take i)) q (eR k i) (gU k) eP ((ho.kp (fe.aR fA)).rd) (q2.kp fA) hz xJ.xS (by have:=tQ (k:=k) hi;omega) ab).mono ?_);rintro e w3 ⟨r3',rfl,q3,dZ⟩;obtain⟨s4,p4,n4,c4,t4,y4,m4,d4,rfl⟩:=q3.form;refine bZ dZ ?_;intro jm _ bb3;refine VS.back (N-(i+1)) ab ⟨_,_,?_,?_,?_,?_,⟨i+1,s4,p4,n4,c4,t4,y4,m4,d4,ab,aa,aa,aa,(q3.mono ft.size).cast (Cy hq).symm,by rw[Cy hq,xr];exact hz.add xJ.xS⟩⟩
  ·refine⟨aa,aa,?_,aa,aa,ag⟩;rw[<-aD ab];rfl
  ·exact cA
  ·rfl
  ·exact gn
 ·refine VS.aP aa (aA (λe=>hlt (aQ.1 e))) ?_;refine ae ?_;refine bl ?_;intro wz kz bz;obtain rfl:i=N:=ab;rw[dP ab] at ho hz;exact⟨_,aa,ho.kp kz,hz,bz⟩
def lI (y x:Rat):Bool:=decide (eQ y x<0)
def jO (y x:Rat):Bool:=decide (eQ y x>0)
theorem Qk (v u:Value) (x y:Rat) (k l:Nat) (w:World) (hv:ck w v x k) (hu:ck w u y l) (hk:k<=67108864) (hl:l<=67108864):
  Calls Tryz.prog 108 #[v,u] w λe w'=>e=.returned (.bool (lI y x))/\aU w w':=by
 obtain⟨s,p,n,c,t,z,m,d,rfl⟩:=hv.form;obtain⟨s',p',n',c',t',z',m',d',rfl⟩:=hu.form;refine ah (C:=cH Tryz.prog w _) (args:=[_,_]) Tryz.func108 aa Tryz.ntmps108 (bM aa) ?_;refine ae ?_;refine VO.cB aa aa (fk jU) (λbn cG bo=>zA _ _ y x l k bn (hu.kp cG) (hv.kp cG) hl hk) (λbn cG bo w1 bA eF _ bb1=>wV aa ?_);refine ae ?_;refine bl ?_;intro wz kz bz;exact⟨aa,bz⟩
theorem Ql (v u:Value) (x y:Rat) (k l:Nat) (w:World) (hv:ck w v x k) (hu:ck w u y l) (hk:k<=67108864) (hl:l<=67108864):
  Calls Tryz.prog 128 #[v,u] w λe w'=>e=.returned (.bool (jO y x))/\aU w w':=by
 obtain⟨s,p,n,c,t,z,m,d,rfl⟩:=hv.form;obtain⟨s',p',n',c',t',z',m',d',rfl⟩:=hu.form;refine ah (C:=cH Tryz.prog w _) (args:=[_,_]) Tryz.func128 aa Tryz.ntmps128 (bM aa) ?_;refine ae ?_;refine VO.cB aa aa (fk jU) (λbn cG bo=>zA _ _ y x l k bn (hu.kp cG) (hv.kp cG) hl hk) (λbn cG bo w1 bA eF _ bb1=>wV aa ?_);refine ae ?_;refine bl ?_;intro wz kz bz;exact⟨aa,bz⟩
theorem Qm (s:Bool) (p:Option Addr) (n c:Nat) (t:Bool) (r:Option Addr) (m d:Nat) (w:World):
  Calls Tryz.prog 107 #[.agg #[.bool s,.slice p n c,.bool t,.slice r m d]] w λe w'=>e=.returned (.func (.func 108) #[.agg #[.bool s,.slice p n c,.bool t,.slice r m d]] #[])/\aU w w':=by
 refine ah (C:=cH Tryz.prog w _) (args:=[_]) Tryz.func107 aa Tryz.ntmps107 (bM aa) ?_;refine ae ?_;refine bl ?_;intro wz kz bz;exact⟨aa,bz⟩
theorem Qn (s:Bool) (p:Option Addr) (n c:Nat) (t:Bool) (r:Option Addr) (m d:Nat) (w:World):
  Calls Tryz.prog 127 #[.agg #[.bool s,.slice p n c,.bool t,.slice r m d]] w λe w'=>e=.returned (.func (.func 128) #[.agg #[.bool s,.slice p n c,.bool t,.slice r m d]] #[])/\aU w w':=by
 refine ah (C:=cH Tryz.prog w _) (args:=[_]) Tryz.func127 aa Tryz.ntmps127 (bM aa) ?_;refine ae ?_;refine bl ?_;intro wz kz bz;exact⟨aa,bz⟩
def gp (better:Rat->Rat->Bool) (q:Rat) (qs:List Rat):Rat:=qs.foldl (λo y=>if better y o=true then y else o) q
theorem zC {better:Rat->Rat->Bool} {x:Rat} {q:Rat} (h:qs[i]? =some q):gp better x (qs.take (i+1))=if better q (gp better x (qs.take i))=true then q else gp better x (qs.take i):=by
 rw[dt h];unfold gp;rw[Up];rfl
theorem DF (fB fL:FuncId) (better:Rat->Rat->Bool) (kB:rA Tryz.prog fB) (kL:rA Tryz.prog fL)
  (hB:∀ (s:Bool) (p:Option Addr) (n c:Nat) (t:Bool) (r:Option Addr) (m d:Nat) (w:World),Calls Tryz.prog fB #[.agg #[.bool s,.slice p n c,.bool t,.slice r m d]] w λe w'=>e=.returned (.func (.func fL) #[.agg #[.bool s,.slice p n c,.bool t,.slice r m d]] #[])/\aU w w')
  (hL:∀ (v u:Value) (x y:Rat) (k l:Nat) (w:World),ck w v x k->ck w u y l->k<=67108864->l<=67108864->Calls Tryz.prog fL #[v,u] w λe w'=>e=.returned (.bool (better y x))/\aU w w')
  (u v:Value) (q0:Rat) (qs:List Rat) (k:Nat) (w:World) (hu:ck w u q0 k) (hv:nc w v qs k) (hk:k<=67108863) (hlen:qs.length<9223372036854775807):
  Calls Tryz.prog 106 #[u,v,.func (.func fB) #[] #[]] w λe w'=>∃ x,e=.returned x/\aW w' w.heap.size x (gp better q0 qs)/\fI (gp better q0 qs) (gU k)/\aU w w':=by
 obtain⟨s,p,n,c,t,y,m,d,rfl⟩:=hu.form;obtain⟨P,cc,rfl,il,iC⟩:=hv.form;obtain⟨N,hN⟩:∃ N,N=qs.length:=⟨_,aa⟩;rw[<-hN] at hv hlen il ⊢;have zk:gU k<=67108864:=by unfold gU;omega
 refine ah (C:=cH Tryz.prog w _) (args:=[_,_,_]) Tryz.func106 aa Tryz.ntmps106 (bM aa) ?_;refine ae ?_;refine VO.cR aa aa (fk qH) (λbn cG bo=>eg _ q0 k bn (hu.kp cG) ab) (λbn cG bo w1 s1 p1 n1 c1 t1 y1 m1 d1 q1 bA eF _ bb1=>wV aa ?_);refine ae ?_;refine VO.cR aa aa (fk nK) (λcz dB cT=>dz 0 cz ab ab) (λcz dB cT w2 s2 p2 n2 c2 t2 y2 m2 d2 q2 cC fe _ bb2=>wV aa ?_);refine ae ?_;refine VO.cR aa aa (fk JY) (λeP fA ft=>tP _ _ q0 ((0:Int):Rat) (gU k) 1 eP (q1.kp (fe.aR fA)) (q2.kp fA).rd hu.xS fI.zero zk ab) (λeP fA ft w3 s3 p3 n3 c3 t3 y3 m3 d3 q3 dZ jm _ bb3=>wV aa ?_);refine ae ?_
 refine VS.loop (J:=λn' L M w'=>∃ i s p' n c' t r m d,i<=N/\n'=N-i/\L=[(14,.val (.slice P N cc)),(15,.val (.int .i64 (N:Int))),(16,.val (.int .i64 (i:Int))),(2,.val (.func (.func fB) #[] #[])),(7,.box 7 0),(6,.box 6 0)]/\
  M=[(6,(26,([.bool false,.slice none 0 0,.bool false,.slice none 0 0]:List Value).map .val)),(7,(26,([.bool s,.slice p' n c',.bool t,.slice r m d]:List Value).map .val))]/\aW w' w.heap.size (.agg #[.bool s,.slice p' n c',.bool t,.slice r m d]) (gp better q0 (qs.take i))/\fI (gp better q0 (qs.take i)) (gU k)) N ⟨_,_,?_,?_,?_,?_,⟨0,s3,p3,n3,c3,t3,y3,m3,d3,ab,ab,rfl,rfl,(q3.mono ft.size).cast (Gk _),hu.xS⟩⟩ ?_
 ·exact cA
 ·exact cA
 ·rfl
 ·exact gn
 rintro n' L M w' ⟨i,s,p',n,c',t,r,m,d,hi,rfl,rfl,rfl,ho,hz⟩;refine ae ?_;by_cases hlt:i<N
 ·obtain⟨q,hq⟩:∃ q,qs[i]? =some q:=⟨_,ba ab⟩;obtain⟨b,off,s2,p2,n2,c2,t2,r2,m2,d2,rfl,hc,xJ⟩:=hv.at hq;refine VS.aV aa (aE (aQ.2 hlt)) ?_;refine ae ?_;refine VO.cond aa dQ (wV aa ?_);refine VO.read aa [.bool s2,.slice p2 n2 c2,.bool t2,.slice r2 m2 d2] aa (λj u hj=>by rw[ju,dC];exact hc j u hj) (wV aa ?_);refine ae ?_;refine VO.call aa aa kB (λfW iJ iB=>(hB s p' n c' t r m d fW).mono ?_);rintro e w4 ⟨rfl,ic⟩;refine bZ ic ?_;intro mB _ tI;refine VO.call aa aa kL (λfQ iH fV=>(hL _ _ (gp better q0 (qs.take i)) q _ k fQ ((ho.kp (mB.aR iH)).in hz) (xJ.kp (Kp.of (U:=UU) fV)) zk ab).mono ?_);rintro e w5 ⟨rfl,iz⟩;refine bZ iz ?_;intro lg _ sR;have yr:=zC (better:=better) (x:=q0) hq;cases WO:better q (gp better q0 (qs.take i))
  ·rw[WO] at yr;refine VS.aP aa aa ?_;refine ae ?_;refine VS.back (N-(i+1)) ab ⟨_,_,?_,?_,?_,?_,⟨i+1,s,p',n,c',t,r,m,d,ab,aa,aa,aa,(ho.kp (mB.aR lg)).cast yr.symm,by rw[yr];exact hz⟩⟩
   ·refine⟨aa,aa,?_,aa,aa,aa,ag⟩;rw[<-aD ab];rfl
   ·exact cA
   ·rfl
   ·exact gn
  ·rw[WO] at yr;refine VS.aV aa aa ?_;refine ae ?_;refine VO.cR aa aa (fk qH) (λfJ iK gE=>eg _ q k fJ (xJ.kp (Kp.of (U:=UU) gE)) ab) (λfJ iK gE w6 s6 p6 n6 c6 t6 y6 m6 d6 q6 ln lH _ sj=>wV aa ?_);refine ae ?_;refine VO.cR aa aa (fk nK) (λjS na jI=>dz 0 jS ab ab) (λjS na jI w7 s7 p7 n7 c7 t7 y7 m7 d7 q7 ta rB _ Ct=>wV aa ?_);refine ae ?_;refine VO.cR aa aa (fk JY) (λpV yn ru=>tP _ _ q ((0:Int):Rat) (gU k) 1 pV (q6.kp (rB.aR yn)) (q7.kp yn).rd xJ.xS fI.zero zk ab) (λpV yn ru w8 s8 p8 n8 c8 t8 y8 m8 d8 q8 vG vP _ KW=>wV aa ?_);refine ae ?_;refine VS.back (N-(i+1)) ab ⟨_,_,?_,?_,?_,?_,⟨i+1,s8,p8,n8,c8,t8,y8,m8,d8,ab,aa,aa,aa,(q8.mono ru.size).cast ((Gk _).trans yr.symm),by rw[yr];exact xJ.xS⟩⟩
   ·refine⟨aa,aa,?_,aa,aa,aa,ag⟩;rw[<-aD ab];rfl
   ·exact cA
   ·rfl
   ·exact gn
 ·refine VS.aP aa (aA (λe=>hlt (aQ.1 e))) ?_;refine ae ?_;refine bl ?_;intro wz kz bz;obtain rfl:i=N:=ab;rw[dP ab] at ho hz;exact⟨_,aa,ho.kp kz,hz,bz⟩
theorem kg (u v:Value) (q0:Rat) (qs:List Rat) (k:Nat) (w:World) (hu:ck w u q0 k) (hv:nc w v qs k) (hk:k<=67108863) (hlen:qs.length<9223372036854775807):
  Calls Tryz.prog 71 #[u,v] w λe w'=>∃ x,e=.returned x/\aW w' w.heap.size x (gp lI q0 qs)/\fI (gp lI q0 qs) (gU k)/\aU w w':=by
 obtain⟨s,p,n,c,t,y,m,d,rfl⟩:=hu.form;obtain⟨P,cc,rfl,il,iC⟩:=hv.form;refine ah (C:=cH Tryz.prog w _) (args:=[_,_]) Ah aa Tryz.ntmps71 (bM aa) ?_;refine ae ?_;refine VO.call aa aa (fk Tryz.func106) (λbn cG bo=>(DF 107 108 lI (fk Tryz.func107) (fk Tryz.func108) Qm Qk _ _ q0 qs k bn (hu.kp cG) (hv.bI bo) hk hlen).mono ?_);rintro e w1 ⟨r1,rfl,q1,z1,bA⟩;obtain⟨s1,p1,n1,c1,t1,y1,m1,d1,rfl⟩:=q1.form;refine bZ bA ?_;intro eF _ bb1;refine bl ?_;intro wz kz bz;exact⟨_,aa,(q1.kp kz).mono bo.size,z1,bz⟩
theorem SQ (u v:Value) (q0:Rat) (qs:List Rat) (k:Nat) (w:World) (hu:ck w u q0 k) (hv:nc w v qs k) (hk:k<=67108863) (hlen:qs.length<9223372036854775807):
  Calls Tryz.prog 104 #[u,v] w λe w'=>∃ x,e=.returned x/\aW w' w.heap.size x (gp jO q0 qs)/\fI (gp jO q0 qs) (gU k)/\aU w w':=by
 obtain⟨s,p,n,c,t,y,m,d,rfl⟩:=hu.form;obtain⟨P,cc,rfl,il,iC⟩:=hv.form;refine ah (C:=cH Tryz.prog w _) (args:=[_,_]) Tryz.func104 aa Tryz.ntmps104 (bM aa) ?_;refine ae ?_;refine VO.call aa aa (fk Tryz.func106) (λbn cG bo=>(DF 127 128 jO (fk Tryz.func127) (fk Tryz.func128) Qn Ql _ _ q0 qs k bn (hu.kp cG) (hv.bI bo) hk hlen).mono ?_);rintro e w1 ⟨r1,rfl,q1,z1,bA⟩;obtain⟨s1,p1,n1,c1,t1,y1,m1,d1,rfl⟩:=q1.form;refine bZ bA ?_;intro eF _ bb1;refine bl ?_;intro wz kz bz;exact⟨_,aa,(q1.kp kz).mono bo.size,z1,bz⟩
end
set_option maxRecDepth 4000
section
open Go.RowKit
attribute [local irreducible] aG VS
theorem Qo (v u:Value) (X Y:Int) (j k:Nat) (w:World) (hv:dL w v X j) (hu:dL w u Y k) (hj:j<=1073741824) (hk:k<=1073741824):
  Calls Tryz.prog 116 #[v,u] w λe w'=>e=.returned (.bool (decide (X=Y)))/\aU w w':=by
 obtain⟨s,p,n,c,rfl⟩:=hv.form;obtain⟨t,q,m,d,rfl⟩:=hu.form;refine ah (C:=cH Tryz.prog w _) (args:=[_,_]) Tryz.func116 aa Tryz.ntmps116 (bM aa) ?_;refine ae ?_;refine VO.cB aa aa (fk Tryz.func117) (λbn cG bo=>PV _ _ X Y j k bn (hv.kp cG) (hu.kp cG) hj hk) (λbn cG bo w1 bA eF _ bb1=>wV aa ?_);refine ae ?_;refine bl ?_;intro wz kz bz;refine⟨?_,bz⟩;show Ending.returned (.bool (Hn X Y == 0))=_;unfold Hn;by_cases h:X=Y
 ·rw[h,aE rfl,Int.sub_self];rfl
 ·rw[aA h]
  have:((X-Y).sign == 0)=false:=by
   rw[iZ];intro e;have:=YM.1 e;omega
  rw[this]
theorem Bi (s t:Bool) (xs ys:List Nat) (v:Value) (w:World) (h:gT w v s xs t ys) (hx:xs.length<=134217728) (hy:ys.length<=134217728):
  Calls Tryz.prog 85 #[v] w λe w'=>e=.returned (.bool (Jd s xs t ys))/\aU w w':=by
 obtain⟨p,c,r,d,rfl,h1,h2⟩:=h;refine ah (C:=cH Tryz.prog w _) (args:=[_]) jL aa Tryz.ntmps85 (bM aa) ?_;refine ae ?_;refine VO.call aa aa (fk Tryz.func115) (λbn cG bo=>(zu s xs _ bn (h1.bI bo)).mono ?_);rintro e w1 ⟨rfl,bA⟩;cases q1:fy s xs
 ·refine bZ bA ?_;intro eF _ bb1;refine bl ?_;intro wz kz bz;exact⟨by simp[Jd,q1,lN],bz⟩
 refine bZ bA ?_;intro eF _ bb1;refine VO.call aa aa (fk Tryz.func115) (λcz dB cT=>(zu t ys _ cz (h2.bI cT)).mono ?_);rintro e w2 ⟨rfl,cC⟩;cases q2:fy t ys
 ·refine bZ cC ?_;intro fe _ bb2;refine bl ?_;intro wz kz bz;exact⟨by simp[Jd,q1,q2,lN],bz⟩
 refine bZ cC ?_;intro fe _ bb2;refine VO.call aa aa (fk mI) (λeP fA ft=>(eI _ (numOf t ys) _ eP ((h2.in (bL _)).bI ft) ab).mono ?_);rintro e w3 ⟨rfl,dZ⟩;by_cases q3:0<numOf t ys
 ·rw[im q3];refine bZ dZ ?_;intro jm _ bb3;refine VO.cI aa aa (fk Tryz.func94) (λfW iJ iB=>HF _ _ (numOf s xs) (numOf t ys) _ _ fW ((h1.in (bL _)).bI iB) ((h2.in (bL _)).bI iB) ab ab) (λfW iJ iB w4 s4 p4 n4 c4 h4 ic mB _ tI=>wV aa ?_);refine ae ?_;refine VO.cI aa aa (fk yH) (λfQ iH fV=>qd 1 fQ ab ab) (λfQ iH fV w5 s5 p5 n5 c5 h5 iz lg _ sR=>wV aa ?_);refine ae ?_;have hg:Sz (Int.gcd (numOf s xs) (numOf t ys):Int) ys.length:=Mi (Bb h2.lim (bL _)) ab;refine VO.call aa aa (fk Tryz.func116) (λfJ iK gE=>(Qo _ _ (Int.gcd (numOf s xs) (numOf t ys):Int) 1 _ 1 fJ ((h4.kp (lg.aR iK)).in hg) ((h5.kp iK).in (Sz.small bq)) ab ab).mono ?_);rintro e w6 ⟨rfl,ln⟩;by_cases q4:Int.gcd (numOf s xs) (numOf t ys)=1
  ·rw[show decide ((Int.gcd (numOf s xs) (numOf t ys):Int)=1)=true from aE ab];refine bZ ln ?_;intro lH _ sj;refine bl ?_;intro wz kz bz;exact⟨by simp[Jd,q1,q2,q3,q4,lN],bz⟩
  ·rw[show decide ((Int.gcd (numOf s xs) (numOf t ys):Int)=1)=false from aA ab];refine bZ ln ?_;intro lH _ sj;refine bl ?_;intro wz kz bz;exact⟨by simp[Jd,q1,q2,q3,q4,lN],bz⟩
 ·have q4:(numOf t ys).sign=0\/(numOf t ys).sign= -1:=by
   rcases Int.lt_trichotomy (numOf t ys) 0 with e|e|e
   ·exact .inr (sign_neg e)
   ·rw[e];exact .inl aa
   ·exact absurd e q3
  rcases q4 with q4|q4
  all_goals
   rw[q4];refine bZ dZ ?_;intro jm _ bb3;refine bl ?_;intro wz kz bz;exact⟨by simp[Jd,q1,q2,q3,lN],bz⟩
theorem Mk (n:Int) (w:World) (h0: -9223372036854775808<=n) (h1:n<=9223372036854775807):
  Calls Tryz.prog 87 #[.int .i64 n] w λe w'=>∃ r,e=.returned r/\aW w' w.heap.size r (n:Rat)/\aU w w':=by
 refine ah (C:=cH Tryz.prog w _) (args:=[_]) Tryz.func87 aa Tryz.ntmps87 (bM aa) ?_;refine ae ?_;refine VO.cI aa aa (fk yH) (λbn cG bo=>qd n bn h0 h1) (λbn cG bo w1 s1 p1 n1 c1 q1 bA eF _ bb1=>wV aa ?_);refine ae ?_;refine VO.cI aa aa (fk yH) (λcz dB cT=>qd 1 cz ab ab) (λcz dB cT w2 s2 p2 n2 c2 q2 cC fe _ bb2=>wV aa ?_);refine ae ?_;refine bl ?_;intro wz kz bz;exact⟨_,aa,⟨_,_,_,_,_,_,_,_,aa,(q1.kp (fe.aR kz)).mono bo.size,(q2.kp kz).mono cT.size⟩,bz⟩
theorem sn (w:World):Calls Tryz.prog 25 #[] w λe w'=>∃ r,e=.returned r/\aW w' w.heap.size r 0/\aU w w':=by
 refine ah (C:=cH Tryz.prog w _) (args:=[]) Tryz.func25 aa Tryz.ntmps25 (bM aa) ?_;refine ae ?_;refine VO.cI aa aa (fk yH) (λbn cG bo=>qd 0 bn ab ab) (λbn cG bo w1 s1 p1 n1 c1 q1 bA eF _ bb1=>wV aa ?_);refine ae ?_;refine VO.cI aa aa (fk yH) (λcz dB cT=>qd 1 cz ab ab) (λcz dB cT w2 s2 p2 n2 c2 q2 cC fe _ bb2=>wV aa ?_);refine ae ?_;refine bl ?_;intro wz kz bz;exact⟨_,aa,⟨_,_,_,_,_,_,_,_,aa,(q1.kp (fe.aR kz)).mono bo.size,(q2.kp kz).mono cT.size⟩,bz⟩
theorem fP (v:Value) (q:Rat) (k:Nat) (w:World) (h:ck w v q k) (hk:k<=134217728):
  Calls Tryz.prog 60 #[v] w λe w'=>∃ r,e=.returned r/\cJ w' r q/\aU w w':=by
 obtain⟨s,xs,t,ys,qQ,rfl,hx,hy⟩:=h;have Qg:=qQ;obtain⟨p,c,r,d,rfl,_,_⟩:=qQ;refine ah (C:=cH Tryz.prog w _) (args:=[_]) wx aa Tryz.ntmps60 (bM aa) ?_;refine ae ?_;refine VO.call aa aa (fk jL) (λbn cG bo=>(Bi s t xs ys _ bn (Qg.kp cG) ab ab).mono ?_);rintro e w1 ⟨rfl,bA⟩;cases hq:Jd s xs t ys
 ·refine bZ bA ?_;intro eF _ bb1;refine VO.cR aa aa (fk Tryz.func25) (λcz dB cT=>sn cz) (λcz dB cT w2 s2 p2 n2 c2 t2 y2 m2 d2 h2 cC fe _ bb2=>wV aa ?_);refine ae ?_;refine bl ?_;intro wz kz bz;exact⟨_,aa,by rw[Qe hq];exact (h2.kp kz).rd,bz⟩
 ·refine bZ bA ?_;intro eF _ bb1;refine bl ?_;intro wz kz bz;exact⟨_,aa,(Qf Qg hq).kp (eF.aR kz),bz⟩
theorem low_same {X Y:Int}:Rat.divInt X Y=Rat.divInt (-X) (-Y):=(Rat.neg_divInt_neg X Y).symm
theorem zD (v u:Value) (X Y:Int) (j k:Nat) (w:World) (hv:dL w v X j) (hu:dL w u Y k) (hj:j<=134217728) (hk:k<=134217728):
  Calls Tryz.prog 61 #[v,u] w λe w'=>∃ r,e=.returned (.tuple #[r,.int .i64 (Qi Y)])/\aW w' w.heap.size r (Rat.divInt X Y)/\aU w w':=by
 obtain⟨s,p,n,c,rfl⟩:=hv.form;obtain⟨t,r,m,d,rfl⟩:=hu.form;refine ah (C:=cH Tryz.prog w _) (args:=[_,_]) Tryz.func61 aa Tryz.ntmps61 (bM aa) ?_;refine ae ?_;refine VO.call aa aa (fk mI) (λbn cG bo=>(eI _ Y k bn (hu.bI bo) ab).mono ?_);rintro e w1 ⟨rfl,bA⟩;by_cases hY:Y=0
 ·rw[show Y.sign=0 by rw[hY];rfl];refine bZ bA ?_;intro eF _ bb1;refine VO.cR aa aa (fk Tryz.func25) (λcz dB cT=>sn cz) (λcz dB cT w2 s2 p2 n2 c2 t2 y2 m2 d2 h2 cC fe _ bb2=>wV aa ?_);refine ae ?_;refine bl ?_;intro wz kz bz;refine⟨_,by rw[Qi,if_pos hY];rfl,?_,bz⟩;rw[hY,Rat.divInt_zero];exact (h2.kp kz).mono cT.size
 ·rcases Uk hY with q|q
  ·rw[sign_neg q];refine bZ bA ?_;intro eF _ bb1;refine VO.call aa aa (fk mI) (λcz dB cT=>(eI _ Y k cz (hu.bI cT) ab).mono ?_);rintro e w2 ⟨rfl,cC⟩;rw[sign_neg q];refine bZ cC ?_;intro fe _ bb2;refine VO.cI aa aa (fk Tryz.func93) (λeP fA ft=>Bc _ X j eP (hv.bI ft) ab) (λeP fA ft w3 s3 p3 n3 c3 h3 dZ jm _ bb3=>wV aa ?_);refine ae ?_;refine VO.cI aa aa (fk Tryz.func93) (λfW iJ iB=>Bc _ Y k fW (hu.bI iB) ab) (λfW iJ iB w4 s4 p4 n4 c4 h4 ic mB _ tI=>wV aa ?_);refine ae ?_;have z3:Sz (-X) j:=Sz.neg hv.len;have z4:Sz (-Y) k:=Sz.neg hu.len;obtain⟨l1,l2⟩:=FK (X:= -X) (Y:= -Y) ab;have hgs:Sz (Int.gcd (-X) (-Y):Int) k:=Mi z4 ab
   have ZY:(Int.gcd (-X) (-Y):Int)≠0:=by
    intro e;have:=(Uh.1 (show Int.gcd (-X) (-Y)=0 by omega)).2;omega
   refine VO.cI aa aa (fk Tryz.func94) (λfQ iH fV=>HF _ _ (-X) (-Y) j k fQ ((h3.kp (mB.aR iH)).in z3) ((h4.kp iH).in z4) ab ab) (λfQ iH fV w5 s5 p5 n5 c5 h5 iz lg _ sR=>wV aa ?_);refine ae ?_;refine VO.call aa aa (fk Tryz.func95) (λfJ iK gE=>(sk _ _ (-X) (Int.gcd (-X) (-Y):Int) j k fJ ((h3.kp (mB.aR (lg.aR iK))).in z3) ((h5.kp iK).in hgs) ab ab).mono ?_);rintro e w6 ⟨hd6,ln⟩;obtain⟨v6,u6,rfl,h6,h6'⟩:=je hd6 ZY;obtain⟨s6,p6,n6,c6,rfl⟩:=h6.form;obtain⟨t6,r6,m6,d6,rfl⟩:=h6'.form;refine bZ ln ?_;intro lH _ sj;refine VO.call aa aa (fk Tryz.func95) (λjS na jI=>(sk _ _ (-Y) (Int.gcd (-X) (-Y):Int) k k jS ((h4.kp (lg.aR (lH.aR na))).in z4) ((h5.kp (lH.aR na)).in hgs) ab ab).mono ?_);rintro e w7 ⟨hd7,ta⟩;obtain⟨v7,u7,rfl,h7,h7'⟩:=je hd7 ZY;obtain⟨s7,p7,n7,c7,rfl⟩:=h7.form;obtain⟨t7,r7,m7,d7,rfl⟩:=h7'.form;refine bZ ta ?_;intro rB _ Ct;refine bl ?_;intro wz kz bz;rw[low_same];exact⟨_,by rw[Qi,if_neg hY];rfl,⟨_,_,_,_,_,_,_,_,rfl,aO.cast ((h6.kp (rB.aR kz)).mono gE.size) l1,aO.cast ((h7.kp kz).mono jI.size) l2⟩,bz⟩
  ·rw[im q];refine bZ bA ?_;intro eF _ bb1;refine VO.call aa aa (fk mI) (λcz dB cT=>(eI _ Y k cz (hu.bI cT) ab).mono ?_);rintro e w2 ⟨rfl,cC⟩;rw[im q];refine bZ cC ?_;intro fe _ bb2;obtain⟨l1,l2⟩:=FK (X:=X) (Y:=Y) q;have hgs:Sz (Int.gcd X Y:Int) k:=Mi hu.len hY
   have ZY:(Int.gcd X Y:Int)≠0:=by
    intro e;have:=(Uh.1 (show Int.gcd X Y=0 by omega)).2;omega
   refine VO.cI aa aa (fk Tryz.func94) (λfQ iH fV=>HF _ _ X Y j k fQ (hv.bI fV) (hu.bI fV) ab ab) (λfQ iH fV w5 s5 p5 n5 c5 h5 iz lg _ sR=>wV aa ?_);refine ae ?_;refine VO.call aa aa (fk Tryz.func95) (λfJ iK gE=>(sk _ _ X (Int.gcd X Y:Int) j k fJ (hv.bI gE) ((h5.kp iK).in hgs) ab ab).mono ?_);rintro e w6 ⟨hd6,ln⟩;obtain⟨v6,u6,rfl,h6,h6'⟩:=je hd6 ZY;obtain⟨s6,p6,n6,c6,rfl⟩:=h6.form;obtain⟨t6,r6,m6,d6,rfl⟩:=h6'.form;refine bZ ln ?_;intro lH _ sj;refine VO.call aa aa (fk Tryz.func95) (λjS na jI=>(sk _ _ Y (Int.gcd X Y:Int) k k jS (hu.bI jI) ((h5.kp (lH.aR na)).in hgs) ab ab).mono ?_);rintro e w7 ⟨hd7,ta⟩;obtain⟨v7,u7,rfl,h7,h7'⟩:=je hd7 ZY;obtain⟨s7,p7,n7,c7,rfl⟩:=h7.form;obtain⟨t7,r7,m7,d7,rfl⟩:=h7'.form;refine bZ ta ?_;intro rB _ Ct;refine bl ?_;intro wz kz bz;exact⟨_,by rw[Qi,if_neg hY];rfl,⟨_,_,_,_,_,_,_,_,rfl,aO.cast ((h6.kp (rB.aR kz)).mono gE.size) l1,aO.cast ((h7.kp kz).mono jI.size) l2⟩,bz⟩
theorem Xk (n d:Int) (w:World) (h0: -9223372036854775808<=n) (h1:n<=9223372036854775807) (g0: -9223372036854775808<=d) (g1:d<=9223372036854775807):
  Calls Tryz.prog 66 #[.int .i64 n,.int .i64 d] w λe w'=>∃ r,e=.returned (.tuple #[r,.int .i64 (Qi d)])/\aW w' w.heap.size r (Rat.divInt n d)/\aU w w':=by
 refine ah (C:=cH Tryz.prog w _) (args:=[_,_]) Tryz.func66 aa Tryz.ntmps66 (bM aa) ?_;refine ae ?_;refine VO.cI aa aa (fk yH) (λbn cG bo=>qd n bn h0 h1) (λbn cG bo w1 s1 p1 n1 c1 q1 bA eF _ bb1=>wV aa ?_);refine ae ?_;refine VO.cI aa aa (fk yH) (λcz dB cT=>qd d cz g0 g1) (λcz dB cT w2 s2 p2 n2 c2 q2 cC fe _ bb2=>wV aa ?_);refine ae ?_;refine VO.call aa aa (fk Tryz.func61) (λeP fA ft=>(zD _ _ n d 2 2 eP ((q1.kp (fe.aR fA)).in (Sz.of_lt ab)) ((q2.kp fA).in (Sz.of_lt ab)) ab ab).mono ?_);rintro e w3 ⟨r3,rfl,q3,dZ⟩;obtain⟨s3,p3,n3,c3,t3,x3,m3,d3,rfl⟩:=q3.form;refine bZ dZ ?_;intro jm _ bb3;refine bl ?_;intro wz kz bz;exact⟨_,aa,(q3.kp kz).mono ft.size,bz⟩
theorem jn (v u:Value) (q r:Rat) (k l:Nat) (w:World) (hv:ck w v q k) (hu:ck w u r l) (hk:k<=33554432) (hl:l<=33554432):
  Calls Tryz.prog 27 #[v,u] w λe w'=>∃ x,e=.returned x/\aW w' w.heap.size x (q+r)/\aU w w':=by
 obtain⟨s,p,n,c,t,y,m,d,rfl⟩:=hv.form;obtain⟨s',p',n',c',t',y',m',d',rfl⟩:=hu.form;have zq:=hv.xS;have zr:=hu.xS;have uk:gU k<=33554432:=by unfold gU;omega
 have ul:gU l<=33554432:=by unfold gU;omega
 refine ah (C:=cH Tryz.prog w _) (args:=[_,_]) yI aa Tryz.ntmps27 (bM aa) ?_;refine ae ?_;refine VO.cR aa aa (fk wx) (λbn cG bo=>fP _ q k bn (hv.kp cG) ab) (λbn cG bo w1 s1 p1 n1 c1 t1 y1 m1 d1 q1 bA eF _ bb1=>wV aa ?_);refine ae ?_;refine VO.cR aa aa (fk wx) (λcz dB cT=>fP _ r l cz (hu.kp (eF.aR dB)) ab) (λcz dB cT w2 s2 p2 n2 c2 t2 y2 m2 d2 q2 cC fe _ bb2=>wV aa ?_);refine ae ?_;obtain⟨a1,a2⟩:=q1.parts;obtain⟨b1,b2⟩:=q2.parts;refine VO.cI aa aa (fk JX) (λeP fA ft=>xj _ _ q.num r.den _ _ eP ((a1.kp (fe.aR fA)).to zq.1) ((b2.kp fA).to zr.2) ab ab) (λeP fA ft w3 s3 p3 n3 c3 q3 dZ jm _ bb3=>wV aa ?_);refine ae ?_;refine VO.cI aa aa (fk JX) (λfW iJ iB=>xj _ _ r.num q.den _ _ fW ((b1.kp (jm.aR iJ)).to zr.1) ((a2.kp (fe.aR (jm.aR iJ))).to zq.2) ab ab) (λfW iJ iB w4 s4 p4 n4 c4 q4 ic mB _ tI=>wV aa ?_);refine ae ?_;refine VO.cI aa aa (fk Tryz.func62) (λfQ iH fV=>Bd _ _ (q.num*r.den) (r.num*q.den) (gU k+gU l) (gU l+gU k) fQ ((q3.kp (mB.aR iH)).in (zq.1.mul zr.2)) ((q4.kp iH).in (zr.1.mul zq.2)) ab ab) (λfQ iH fV w5 s5 p5 n5 c5 q5 iz lg _ sR=>wV aa ?_);refine ae ?_;refine VO.cI aa aa (fk JX) (λfJ iK gE=>xj _ _ q.den r.den _ _ fJ ((a2.kp (fe.aR (jm.aR (mB.aR (lg.aR iK))))).to zq.2) ((b2.kp (jm.aR (mB.aR (lg.aR iK)))).to zr.2) ab ab) (λfJ iK gE w6 s6 p6 n6 c6 q6 ln lH _ sj=>wV aa ?_);refine ae ?_;refine VO.call aa aa (fk Tryz.func61) (λjS na jI=>(zD _ _ (q.num*r.den+r.num*q.den) ((q.den:Int)*r.den) (gU k+gU l+1) (gU k+gU l) jS ((q5.kp (lH.aR na)).in (Sz.add (zq.1.mul zr.2) (zr.1.mul zq.2) (m:=gU k+gU l) ab ab)) ((q6.kp na).in (zq.2.mul zr.2)) ab ab).mono ?_);rintro e w7 ⟨r7,rfl,q7,ta⟩;obtain⟨s7,p7,n7,c7,t7,y7,m7,d7,rfl⟩:=q7.form;refine bZ ta ?_;intro rB _ Ct;refine bl ?_;intro wz kz bz;exact⟨_,aa,aW.cast ((q7.kp kz).mono jI.size) (FN q r).symm,bz⟩
theorem SR (v:Value) (q:Rat) (k:Nat) (w:World) (hv:ck w v q k) (hk:k<=134217728):
  Calls Tryz.prog 88 #[v] w λe w'=>∃ x,e=.returned x/\cJ w' x (-q)/\aU w w':=by
 obtain⟨s,p,n,c,t,y,m,d,rfl⟩:=hv.form;refine ah (C:=cH Tryz.prog w _) (args:=[_]) Tryz.func88 aa Tryz.ntmps88 (bM aa) ?_;refine ae ?_;refine VO.cR aa aa (fk wx) (λbn cG bo=>fP _ q k bn (hv.kp cG) hk) (λbn cG bo w1 s1 p1 n1 c1 t1 y1 m1 d1 q1 bA eF _ bb1=>wV aa ?_);refine ae ?_;obtain⟨a1,a2⟩:=q1.parts;refine VO.cI aa aa (fk Tryz.func93) (λcz dB cT=>Bc _ q.num _ cz ((a1.kp dB).to hv.xS.1) (by unfold gU;omega)) (λcz dB cT w2 s2 p2 n2 c2 q2 cC fe _ bb2=>wV aa ?_);refine ae ?_;refine bl ?_;intro wz kz bz;refine⟨_,aa,⟨_,_,_,_,_,_,_,_,aa,?_,?_⟩,bz⟩
 ·rw[Rat.neg_num];exact (q2.kp kz).rd
 ·rw[Rat.neg_den];exact a2.kp (fe.aR kz)
theorem eT (v u:Value) (q r:Rat) (k l:Nat) (w:World) (hv:ck w v q k) (hu:ck w u r l) (hk:k<=33554432) (hl:l<=33554431):
  Calls Tryz.prog 51 #[v,u] w λe w'=>∃ x,e=.returned x/\aW w' w.heap.size x (q-r)/\aU w w':=by
 obtain⟨s,p,n,c,t,y,m,d,rfl⟩:=hv.form;obtain⟨s',p',n',c',t',y',m',d',rfl⟩:=hu.form;refine ah (C:=cH Tryz.prog w _) (args:=[_,_]) pP aa Tryz.ntmps51 (bM aa) ?_;refine ae ?_;refine VO.cR aa aa (fk Tryz.func88) (λbn cG bo=>SR _ r l bn (hu.kp cG) ab) (λbn cG bo w1 s1 p1 n1 c1 t1 y1 m1 d1 q1 bA eF _ bb1=>wV aa ?_);refine ae ?_;refine VO.cR aa aa (fk yI) (λcz dB cT=>jn _ _ q (-r) k (gU l) cz (hv.kp (eF.aR dB)) ((q1.kp dB).to hu.xS.neg) hk (by unfold gU;omega)) (λcz dB cT w2 s2 p2 n2 c2 t2 y2 m2 d2 q2 cC fe _ bb2=>wV aa ?_);refine ae ?_;refine bl ?_;intro wz kz bz;exact⟨_,aa,aW.cast ((q2.kp kz).mono cT.size) (Rat.sub_eq_add_neg q r).symm,bz⟩
theorem zE (v u:Value) (q r:Rat) (k l:Nat) (w:World) (hv:ck w v q k) (hu:ck w u r l) (hk:k<=33554432) (hl:l<=33554432):
  Calls Tryz.prog 49 #[v,u] w λe w'=>∃ x,e=.returned x/\aW w' w.heap.size x (q*r)/\aU w w':=by
 obtain⟨s,p,n,c,t,y,m,d,rfl⟩:=hv.form;obtain⟨s',p',n',c',t',y',m',d',rfl⟩:=hu.form;have zq:=hv.xS;have zr:=hu.xS;have uk:gU k<=33554432:=by unfold gU;omega
 have ul:gU l<=33554432:=by unfold gU;omega
 refine ah (C:=cH Tryz.prog w _) (args:=[_,_]) Tryz.func49 aa Tryz.ntmps49 (bM aa) ?_;refine ae ?_;refine VO.cR aa aa (fk wx) (λbn cG bo=>fP _ q k bn (hv.kp cG) ab) (λbn cG bo w1 s1 p1 n1 c1 t1 y1 m1 d1 q1 bA eF _ bb1=>wV aa ?_);refine ae ?_;refine VO.cR aa aa (fk wx) (λcz dB cT=>fP _ r l cz (hu.kp (eF.aR dB)) ab) (λcz dB cT w2 s2 p2 n2 c2 t2 y2 m2 d2 q2 cC fe _ bb2=>wV aa ?_);refine ae ?_;obtain⟨a1,a2⟩:=q1.parts;obtain⟨b1,b2⟩:=q2.parts;refine VO.cI aa aa (fk JX) (λeP fA ft=>xj _ _ q.num r.num _ _ eP ((a1.kp (fe.aR fA)).to zq.1) ((b1.kp fA).to zr.1) ab ab) (λeP fA ft w3 s3 p3 n3 c3 q3 dZ jm _ bb3=>wV aa ?_);refine ae ?_;refine VO.cI aa aa (fk JX) (λfW iJ iB=>xj _ _ q.den r.den _ _ fW ((a2.kp (fe.aR (jm.aR iJ))).to zq.2) ((b2.kp (jm.aR iJ)).to zr.2) ab ab) (λfW iJ iB w4 s4 p4 n4 c4 q4 ic mB _ tI=>wV aa ?_);refine ae ?_;refine VO.call aa aa (fk Tryz.func61) (λfQ iH fV=>(zD _ _ (q.num*r.num) ((q.den:Int)*r.den) (gU k+gU l) (gU k+gU l) fQ ((q3.kp (mB.aR iH)).in (zq.1.mul zr.1)) ((q4.kp iH).in (zq.2.mul zr.2)) ab ab).mono ?_);rintro e w5 ⟨r5,rfl,q5,iz⟩;obtain⟨s5,p5,n5,c5,t5,y5,m5,d5,rfl⟩:=q5.form;refine bZ iz ?_;intro lg _ sR;refine bl ?_;intro wz kz bz;exact⟨_,aa,aW.cast ((q5.kp kz).mono fV.size) (Mj q r).symm,bz⟩
theorem DG (v:Value) (q:Rat) (k:Nat) (w:World) (hv:ck w v q k) (hk:k<=134217728):
  Calls Tryz.prog 52 #[v] w λe w'=>e=.returned (.int .i64 (eQ q 0))/\aU w w':=by
 obtain⟨s,p,n,c,t,y,m,d,rfl⟩:=hv.form;refine ah (C:=cH Tryz.prog w _) (args:=[_]) Tryz.func52 aa Tryz.ntmps52 (bM aa) ?_;refine ae ?_;refine VO.cR aa aa (fk wx) (λbn cG bo=>fP _ q k bn (hv.kp cG) hk) (λbn cG bo w1 s1 p1 n1 c1 t1 y1 m1 d1 q1 bA eF _ bb1=>wV aa ?_);refine ae ?_;refine VO.call aa aa (fk mI) (λcz dB cT=>(eI _ q.num _ cz ((q1.parts.1.kp dB).to hv.xS.1) (by unfold gU;omega)).mono ?_);rintro e w2 ⟨rfl,cC⟩;rw[KX];refine bZ cC ?_;intro fe _ bb2;refine bl ?_;intro wz kz bz;exact⟨aa,bz⟩
theorem uQ (v u:Value) (q r:Rat) (k l:Nat) (w:World) (hv:ck w v q k) (hu:ck w u r l) (hk:k<=33554431) (hl:l<=33554431):
  Calls Tryz.prog 86 #[v,u] w λe w'=>e=.returned (.int .i64 (eQ q r))/\aU w w':=by
 obtain⟨s,p,n,c,t,y,m,d,rfl⟩:=hv.form;obtain⟨s',p',n',c',t',y',m',d',rfl⟩:=hu.form;have uk:gU k<=33554431:=by unfold gU;omega
 have ul:gU l<=33554431:=by unfold gU;omega
 refine ah (C:=cH Tryz.prog w _) (args:=[_,_]) Tryz.func86 aa Tryz.ntmps86 (bM aa) ?_;refine ae ?_;refine VO.cR aa aa (fk pP) (λbn cG bo=>eT _ _ q r k l bn (hv.kp cG) (hu.kp cG) ab hl) (λbn cG bo w1 s1 p1 n1 c1 t1 y1 m1 d1 q1 bA eF _ bb1=>wV aa ?_);refine ae ?_;refine VO.call aa aa (fk Tryz.func52) (λcz dB cT=>(DG _ (q-r) (gU k+gU l+1) cz ((q1.kp dB).in (hv.xS.sub hu.xS)) ab).mono ?_);rintro e w2 ⟨rfl,cC⟩;rw[rcmp_sub];refine bZ cC ?_;intro fe _ bb2;refine bl ?_;intro wz kz bz;exact⟨aa,bz⟩
theorem Xl {q r:Rat}:(eQ q r == 0)=decide (q=r):=by
 unfold eQ;by_cases h1:q<r
 ·rw[if_pos h1,aA (λe=>by rw[e] at h1;exact absurd h1 Rat.lt_irrefl)];rfl
 ·rw[if_neg h1];by_cases h2:q=r
  ·rw[if_pos h2,aE h2];rfl
  ·rw[if_neg h2,aA h2];rfl
theorem Qp (v u:Value) (q r:Rat) (k l:Nat) (w:World) (hv:ck w v q k) (hu:ck w u r l) (hk:k<=33554431) (hl:l<=33554431):
  Calls Tryz.prog 54 #[v,u] w λe w'=>e=.returned (.bool (decide (q=r)))/\aU w w':=by
 obtain⟨s,p,n,c,t,y,m,d,rfl⟩:=hv.form;obtain⟨s',p',n',c',t',y',m',d',rfl⟩:=hu.form;refine ah (C:=cH Tryz.prog w _) (args:=[_,_]) oC aa Tryz.ntmps54 (bM aa) ?_;refine ae ?_;refine VO.cB aa aa (fk Tryz.func86) (λbn cG bo=>uQ _ _ q r k l bn (hv.kp cG) (hu.kp cG) hk hl) (λbn cG bo w1 bA eF _ bb1=>wV aa ?_);refine ae ?_;refine bl ?_;intro wz kz bz;exact⟨by rw[<-Xl];rfl,bz⟩
set_option maxRecDepth 4000
theorem qW (v:Value) (q0:Rat) (qs:List Rat) (k:Nat) (w:World) (hv:nc w v (q0::qs) k) (hk:k<=33554431) (hlen:qs.length<9223372036854775806):
  Calls Tryz.prog 50 #[v] w λe w'=>∃ x,e=.returned x/\cJ w' x (gp lI q0 qs)/\fI (gp lI q0 qs) (gU k)/\aU w w':=by
 obtain⟨p,c,rfl,il,iC⟩:=hv.form;obtain⟨N,hN⟩:∃ N,N=qs.length:=⟨_,aa⟩;rw[fh] at il;rw[<-hN] at hlen il;have hv':=hv;rw[show (q0::qs).length=N+1 by rw[fh,hN]] at hv ⊢;obtain⟨b,off,s0,p0,n0,c0,t0,r0,m0,d0,rfl,Vb,hin0⟩:=hv.at (i:=0) (q:=q0) aa;have zk:gU k<=33554431:=by unfold gU;omega
 refine ah (C:=cH Tryz.prog w _) (args:=[_]) JZ aa Tryz.ntmps50 (bM aa) ?_;refine ae ?_;refine VO.cond aa dQ (wV aa ?_);refine VO.read aa [.bool s0,.slice p0 n0 c0,.bool t0,.slice r0 m0 d0] aa (λj u hj=>by rw[ju];exact Vb j u hj) (wV aa ?_);refine ae ?_;refine VO.cR aa aa (fk wx) (λbn cG bo=>fP _ q0 k bn (hin0.kp (Kp.of (U:=UU) bo)) ab) (λbn cG bo w1 s1 p1 n1 c1 t1 y1 m1 d1 q1 bA eF _ bb1=>wV aa ?_);refine ae ?_
 refine VS.loop (J:=λn' L M w'=>∃ i s p' n c' t r m d,i<=N/\n'=N-i/\L=[(0,.val (.slice (some ⟨b,off,none⟩) (N+1) c)),(4,.val (.int .i64 ((i+1:Nat):Int))),(3,.box 3 0),(2,.box 2 0)]/\
  M=[(2,(55,([.bool false,.slice none 0 0,.bool false,.slice none 0 0]:List Value).map .val)),(3,(55,([.bool s,.slice p' n c',.bool t,.slice r m d]:List Value).map .val))]/\cJ w' (.agg #[.bool s,.slice p' n c',.bool t,.slice r m d]) (gp lI q0 (qs.take i))/\fI (gp lI q0 (qs.take i)) (gU k)) N ⟨_,_,?_,?_,?_,?_,⟨0,s1,p1,n1,c1,t1,y1,m1,d1,ab,ab,rfl,rfl,q1,hin0.xS⟩⟩ ?_
 ·exact cA
 ·exact cA
 ·rfl
 ·exact gn
 rintro n' L M w' ⟨i,s,p',n,c',t,r,m,d,hi,rfl,rfl,rfl,ho,hz⟩;have hwi:IntKind.i64.wrap (((i+1:Nat):Int)+1)=((i+1+1:Nat):Int):=aD ab;refine ae ?_;by_cases hlt:i<N
 ·obtain⟨q,hq⟩:∃ q,qs[i]? =some q:=⟨_,ba ab⟩;obtain⟨b',bE,s2,p2,n2,c2,t2,r2,m2,d2,hbo,hc,xJ⟩:=hv.at (i:=i+1) (q:=q) (by simpa using hq);cases hbo;refine VS.aV aa (aE ab) ?_;refine ae ?_;refine VO.cond aa dQ (wV aa ?_);refine VO.read aa [.bool s2,.slice p2 n2 c2,.bool t2,.slice r2 m2 d2] aa (λj u hj=>by rw[ju,dC];exact hc j u hj) (wV aa ?_);refine ae ?_;refine VO.cB aa aa (fk Tryz.func86) (λfQ iH fV=>uQ _ _ q (gp lI q0 (qs.take i)) k (gU k) fQ (xJ.kp (Kp.of (U:=UU) fV)) ((ho.kp iH).to hz) hk zk) (λfQ iH fV w5 iz lg _ sR=>wV aa ?_);refine ae ?_;have yr:=zC (better:=lI) (x:=q0) hq;cases WO:lI q (gp lI q0 (qs.take i))
  ·rw[WO] at yr;refine VS.aP aa WO ?_;refine ae ?_;refine VS.back (N-(i+1)) ab ⟨_,_,?_,?_,?_,?_,⟨i+1,s,p',n,c',t,r,m,d,ab,aa,aa,aa,by rw[yr];exact ho.kp lg,by rw[yr];exact hz⟩⟩
   ·exact⟨aa,au (λz=>some (AV.val (.int .i64 z))) hwi,aa,aa,ag⟩
   ·exact cA
   ·rfl
   ·exact gn
  ·rw[WO] at yr;refine VS.aV aa WO ?_;refine ae ?_;refine VO.cond aa dQ (wV aa ?_);refine VO.read aa [.bool s2,.slice p2 n2 c2,.bool t2,.slice r2 m2 d2] aa (λj u hj=>by rw[ju,dC];exact hc j u hj) (wV aa ?_);refine ae ?_;refine VO.cR aa aa (fk wx) (λfJ iK gE=>fP _ q k fJ (xJ.kp (Kp.of (U:=UU) gE)) ab) (λfJ iK gE w6 s6 p6 n6 c6 t6 y6 m6 d6 q6 ln lH _ sj=>wV aa ?_);refine ae ?_;refine VS.back (N-(i+1)) ab ⟨_,_,?_,?_,?_,?_,⟨i+1,s6,p6,n6,c6,t6,y6,m6,d6,ab,aa,aa,aa,by rw[yr];exact q6,by rw[yr];exact xJ.xS⟩⟩
   ·exact⟨aa,au (λz=>some (AV.val (.int .i64 z))) hwi,aa,aa,ag⟩
   ·exact cA
   ·rfl
   ·exact gn
 ·refine VS.aP aa (aA ab) ?_;refine ae ?_;refine bl ?_;intro wz kz bz;obtain rfl:i=N:=ab;rw[dP ab] at ho hz;exact⟨_,aa,ho.kp kz,hz,bz⟩
theorem zF (v:Value) (q0:Rat) (qs:List Rat) (k:Nat) (w:World) (hv:nc w v (q0::qs) k) (hk:k<=33554431) (hlen:qs.length<9223372036854775806):
  Calls Tryz.prog 48 #[v] w λe w'=>∃ x,e=.returned x/\cJ w' x (gp jO q0 qs)/\fI (gp jO q0 qs) (gU k)/\aU w w':=by
 obtain⟨p,c,rfl,il,iC⟩:=hv.form;obtain⟨N,hN⟩:∃ N,N=qs.length:=⟨_,aa⟩;rw[fh] at il;rw[<-hN] at hlen il;have hv':=hv;rw[show (q0::qs).length=N+1 by rw[fh,hN]] at hv ⊢;obtain⟨b,off,s0,p0,n0,c0,t0,r0,m0,d0,rfl,Vb,hin0⟩:=hv.at (i:=0) (q:=q0) aa;have zk:gU k<=33554431:=by unfold gU;omega
 refine ah (C:=cH Tryz.prog w _) (args:=[_]) Tryz.func48 aa Tryz.ntmps48 (bM aa) ?_;refine ae ?_;refine VO.cond aa dQ (wV aa ?_);refine VO.read aa [.bool s0,.slice p0 n0 c0,.bool t0,.slice r0 m0 d0] aa (λj u hj=>by rw[ju];exact Vb j u hj) (wV aa ?_);refine ae ?_;refine VO.cR aa aa (fk wx) (λbn cG bo=>fP _ q0 k bn (hin0.kp (Kp.of (U:=UU) bo)) ab) (λbn cG bo w1 s1 p1 n1 c1 t1 y1 m1 d1 q1 bA eF _ bb1=>wV aa ?_);refine ae ?_
 refine VS.loop (J:=λn' L M w'=>∃ i s p' n c' t r m d,i<=N/\n'=N-i/\L=[(0,.val (.slice (some ⟨b,off,none⟩) (N+1) c)),(4,.val (.int .i64 ((i+1:Nat):Int))),(3,.box 3 0),(2,.box 2 0)]/\
  M=[(2,(55,([.bool false,.slice none 0 0,.bool false,.slice none 0 0]:List Value).map .val)),(3,(55,([.bool s,.slice p' n c',.bool t,.slice r m d]:List Value).map .val))]/\cJ w' (.agg #[.bool s,.slice p' n c',.bool t,.slice r m d]) (gp jO q0 (qs.take i))/\fI (gp jO q0 (qs.take i)) (gU k)) N ⟨_,_,?_,?_,?_,?_,⟨0,s1,p1,n1,c1,t1,y1,m1,d1,ab,ab,rfl,rfl,q1,hin0.xS⟩⟩ ?_
 ·exact cA
 ·exact cA
 ·rfl
 ·exact gn
 rintro n' L M w' ⟨i,s,p',n,c',t,r,m,d,hi,rfl,rfl,rfl,ho,hz⟩;have hwi:IntKind.i64.wrap (((i+1:Nat):Int)+1)=((i+1+1:Nat):Int):=aD ab;refine ae ?_;by_cases hlt:i<N
 ·obtain⟨q,hq⟩:∃ q,qs[i]? =some q:=⟨_,ba ab⟩;obtain⟨b',bE,s2,p2,n2,c2,t2,r2,m2,d2,hbo,hc,xJ⟩:=hv.at (i:=i+1) (q:=q) (by simpa using hq);cases hbo;refine VS.aV aa (aE ab) ?_;refine ae ?_;refine VO.cond aa dQ (wV aa ?_);refine VO.read aa [.bool s2,.slice p2 n2 c2,.bool t2,.slice r2 m2 d2] aa (λj u hj=>by rw[ju,dC];exact hc j u hj) (wV aa ?_);refine ae ?_;refine VO.cB aa aa (fk Tryz.func86) (λfQ iH fV=>uQ _ _ q (gp jO q0 (qs.take i)) k (gU k) fQ (xJ.kp (Kp.of (U:=UU) fV)) ((ho.kp iH).to hz) hk zk) (λfQ iH fV w5 iz lg _ sR=>wV aa ?_);refine ae ?_;have yr:=zC (better:=jO) (x:=q0) hq;cases WO:jO q (gp jO q0 (qs.take i))
  ·rw[WO] at yr;refine VS.aP aa WO ?_;refine ae ?_;refine VS.back (N-(i+1)) ab ⟨_,_,?_,?_,?_,?_,⟨i+1,s,p',n,c',t,r,m,d,ab,aa,aa,aa,by rw[yr];exact ho.kp lg,by rw[yr];exact hz⟩⟩
   ·exact⟨aa,au (λz=>some (AV.val (.int .i64 z))) hwi,aa,aa,ag⟩
   ·exact cA
   ·rfl
   ·exact gn
  ·rw[WO] at yr;refine VS.aV aa WO ?_;refine ae ?_;refine VO.cond aa dQ (wV aa ?_);refine VO.read aa [.bool s2,.slice p2 n2 c2,.bool t2,.slice r2 m2 d2] aa (λj u hj=>by rw[ju,dC];exact hc j u hj) (wV aa ?_);refine ae ?_;refine VO.cR aa aa (fk wx) (λfJ iK gE=>fP _ q k fJ (xJ.kp (Kp.of (U:=UU) gE)) ab) (λfJ iK gE w6 s6 p6 n6 c6 t6 y6 m6 d6 q6 ln lH _ sj=>wV aa ?_);refine ae ?_;refine VS.back (N-(i+1)) ab ⟨_,_,?_,?_,?_,?_,⟨i+1,s6,p6,n6,c6,t6,y6,m6,d6,ab,aa,aa,aa,by rw[yr];exact q6,by rw[yr];exact xJ.xS⟩⟩
   ·exact⟨aa,au (λz=>some (AV.val (.int .i64 z))) hwi,aa,aa,ag⟩
   ·exact cA
   ·rfl
   ·exact gn
 ·refine VS.aP aa (aA ab) ?_;refine ae ?_;refine bl ?_;intro wz kz bz;obtain rfl:i=N:=ab;rw[dP ab] at ho hz;exact⟨_,aa,ho.kp kz,hz,bz⟩
theorem ek (v u:Value) (q r:Rat) (k l:Nat) (w:World) (hv:ck w v q k) (hu:ck w u r l) (hk:k<=67108864) (hl:l<=67108864) (c:Int) (hc:eQ q r=c):
 Calls Tryz.prog 12 #[v,u] w λe w'=>e=.returned (.int .i64 c)/\aU w w':=hc▸zA v u q r k l w hv hu hk hl
inductive bV (w:World) (k:Nat):List Rat->List (List Value)->Prop
 | nil:bV w k [] []
 | cons {s:Bool} {p:Option Addr} {n c:Nat} {t:Bool} {r:Option Addr} {m d:Nat} {q:Rat} {qs:List Rat} {vs:List (List Value)}:ck w (.agg #[.bool s,.slice p n c,.bool t,.slice r m d]) q k->bV w k qs vs->bV w k (q::qs) ([.bool s,.slice p n c,.bool t,.slice r m d]::vs)
variable {vs:List (List Value)} {qs:List Rat} {w:World}
theorem bV.four {k:Nat} (h:bV w k qs vs):∀ v∈vs,v.length=4:=by
 induction h with
 | nil=>intro v hv;cases hv
 | cons _ _ ih=>
   intro v hv;rcases dW.1 hv with rfl|e
   ·rfl
   ·exact ih v e
theorem bV.at {k:Nat} (h:bV w k qs vs):∀ (j:Nat) (q:Rat),qs[j]? =some q->∃ s p' n' c' t r m d,vs[j]? =some [Value.bool s,.slice p' n' c',.bool t,.slice r m d]/\ck w (.agg #[.bool s,.slice p' n' c',.bool t,.slice r m d]) q k:=by
 induction h with
 | nil=>intro j q hq;simp at hq
 | cons h1 _ ih=>
   intro j q hq;cases j with
   | zero=>cases hq;exact⟨_,_,_,_,_,_,_,_,aa,h1⟩
   | succ j=>exact ih j q (by simpa using hq)
theorem flat_at:∀ (vs:List (List Value)) (j:Nat) (v:List Value),(∀ v∈vs,v.length=4)->vs[j]? =some v->∀ (o:Nat) (u:Value),v[o]? =some u->vs.flatten[j*4+o]? =some u:=by
 intro vs
 induction vs with
 | nil=>intro j v _ h;simp at h
 | cons x r ih=>
   intro j v hl h o u hu;have hx:x.length=4:=hl x bN;cases j with
   | zero=>
     simp at h;subst h;have ho:o<4:=by have:=(cQ.1 hu).1;omega
     rw[oA,gm ab];simpa using hu
   | succ j=>
     have h':r[j]? =some v:=by simpa using h
     rw[oA,jT ab,hx,show (j+1)*4+o-4=j*4+o by omega];exact ih j v (λv hv=>hl v (by simp[hv])) h' o u hu
theorem et {C:Cx} {β:Nat->Nat} {i:Nat} {t:TypeId} {cs:List AV} {k:Nat} {n c:Nat} (h:oK C β w i t cs) (spare:List AV) (hcs:cs=vs.flatten.map .val++spare) (hn:n=qs.length) (hq:bV w k qs vs) (hc:n<=c) (iC:c<=maxLen):
  nc w (.slice (some ⟨β i,0,none⟩) n c) qs k:=by
 subst hn;refine⟨_,_,aa,hc,iC,λj q hj=> ?_⟩;obtain⟨s,p',n',c',t',r,m,d,hvj,xJ⟩:=hq.at j q hj;refine⟨β i,0,s,p',n',c',t',r,m,d,aa,λo u hu=> ?_,xJ⟩;refine h.cls.cell ?_;have:=flat_at vs j _ hq.four hvj o u hu;rw[hcs,bC,ak,CT,jt,gm (cQ.1 this).1];exact this
theorem ea (v:Value) (q:Rat) (k:Nat) (w:World) (hv:ck w v q k) (hk:k<=536870912) (c:Int) (hc:eQ q 0=c):
 Calls Tryz.prog 13 #[v] w λe w'=>e=.returned (.int .i64 c)/\aU w w':=hc▸Qj v q k w hv hk
theorem HI (v u:Value) (q r:Rat) (k l:Nat) (w:World) (hv:ck w v q k) (hu:ck w u r l) (hk:k<=67108864) (hl:l<=67108864) (b:Bool) (hb:decide (q=r)=b):
 Calls Tryz.prog 91 #[v,u] w λe w'=>e=.returned (.bool b)/\aU w w':=hb▸DD v u q r k l w hv hu hk hl
theorem gT.jf {v:Value} {s t:Bool} {xs ys:List Nat} (h:gT w v s xs t ys):∃ p c r d,v=.agg #[.bool s,.slice p xs.length c,.bool t,.slice r ys.length d]/\True:=by
 obtain⟨p,c,r,d,rfl,_⟩:=h;exact⟨_,_,_,_,aa,ag⟩
theorem qf {a b:Rat}:eQ a b<=0↔a<=b:=by
 unfold eQ
 split
 ·rename_i h;exact⟨λ_=>Rat.le_of_lt h,λ_=>ab⟩
 ·split
  ·rename_i h;exact⟨λ_=>by rw[h];exact mK,λ_=>ab⟩
  ·rename_i h1 h2;exact⟨λh=>ab,λh=>absurd (Ak.1 h1) (λh3=>h2 (Rat.le_antisymm h h3))⟩
theorem Bj {a b:Rat}:eQ a b>=0↔b<=a:=by
 unfold eQ
 split
 ·rename_i h;exact⟨λ_=>ab,λh'=>absurd h (Ak.2 h')⟩
 ·rename_i h
  split
  ·exact⟨λ_=>Ak.1 h,λ_=>ab⟩
  ·exact⟨λ_=>Ak.1 h,λ_=>ab⟩
theorem gW {a b:Rat} (h:a=b):eQ a b=0:=by subst h;unfold eQ;rw[if_neg (by exact Rat.lt_irrefl),if_pos rfl]
variable {y x:Rat}
theorem KY:lI y x=true↔y<x:=by
 unfold lI eQ;by_cases h:y<x
 ·simp[h]
 ·simp only[h,if_false,iff_false];split <;> simp
theorem Xm:jO y x=true↔x<y:=by
 unfold jO;rw[yz];constructor
 ·intro h;exact Rat.not_le.1 (λe=>by have:=qf.2 e;omega)
 ·intro h;have:=mt qf.1 (Rat.not_le.2 h);omega
end
section
open Go.RowKit
abbrev KpT (T:TypeId->Bool) (w w':World):Prop:=bQ ⟨UU,λ_=>True,T⟩ w w'
structure jo {α:Type} (E:World->List Value->α->Prop) (sz:Nat):Prop where
 kp:∀ {w w':World} {cs:List Value} {a:α},E w cs a->Kp UU w w'->E w' cs a
 len:∀ {w:World} {cs:List Value} {a:α},E w cs a->cs.length=sz
 ok:∀ {w:World} {cs:List Value} {a:α},E w cs a->cs.all bD=true
theorem KpT.plain {T:TypeId->Bool} {w w':World} (h:KpT T w w'):Kp UU w w':=h.nD
inductive cd {α:Type} (E:World->List Value->α->Prop) (w:World):List α->List (List Value)->Prop
 | nil:cd E w [] []
 | cons {a:α} {es:List α} {cs:List Value} {vs:List (List Value)}:E w cs a->cd E w es vs->cd E w (a::es) (cs::vs)
section
variable {α:Type} {E:World->List Value->α->Prop} {sz:Nat} {w w':World} {es:List α} {vs:List (List Value)}
theorem cd.len (h:cd E w es vs):vs.length=es.length:=by
 induction h with
 | nil=>rfl
 | cons _ _ ih=>simp[ih]
theorem cd.kp (hE:jo E sz) (h:cd E w es vs) (k:Kp UU w w'):cd E w' es vs:=by
 induction h with
 | nil=>exact .nil
 | cons h1 _ ih=>exact .cons (hE.kp h1 k) ih
theorem cd.at (h:cd E w es vs):∀ (j:Nat) (a:α),es[j]? =some a->∃ cs,vs[j]? =some cs/\E w cs a:=by
 induction h with
 | nil=>intro j q hq;simp at hq
 | cons h1 _ ih=>
   intro j q hq;cases j with
   | zero=>cases hq;exact⟨_,aa,h1⟩
   | succ j=>exact ih j q (by simpa using hq)
theorem cd.append {es':List α} {kO:List (List Value)} (h:cd E w es vs) (h':cd E w es' kO):cd E w (es++es') (vs++kO):=by
 induction h with
 | nil=>exact h'
 | cons h1 _ ih=>exact .cons h1 ih
theorem cd.snoc {a:α} {cs:List Value} (h:cd E w es vs) (h':E w cs a):cd E w (es++[a]) (vs++[cs]):=h.append (.cons h' .nil)
theorem cd.ok (hE:jo E sz) (h:cd E w es vs):vs.flatten.all bD=true/\vs.flatten.length=es.length*sz:=by
 induction h with
 | nil=>exact⟨aa,bN⟩
 | cons h1 _ ih=>
   refine⟨?_,?_⟩
   ·rw[oA,ja,ih.1,hE.ok h1];rfl
   ·rw[oA,bB,ih.2,hE.len h1,fh,fG,Da,Af]
theorem cd.cell (hE:jo E sz) (h:cd E w es vs):∀ (j:Nat) (cs:List Value),vs[j]? =some cs->∀ (o:Nat) (u:Value),cs[o]? =some u->vs.flatten[j*sz+o]? =some u:=by
 induction h with
 | nil=>intro j v h;simp at h
 | @cons a es cs vs h1 _ ih=>
   intro j v h o u hu;have hx:=hE.len h1;cases j with
   | zero=>
     simp at h;subst h;have ho:o<sz:=by have:=(cQ.1 hu).1;omega
     rw[oA,JU,jt,gm ab];exact hu
   | succ j=>
     rw[oA,jT (by rw[fG];omega)];have:=ih j v (by simpa using h) o u hu;rw[<-this]
     congr 1
     rw[fG];omega
def dm (E:World->List Value->α->Prop) (sz:Nat) (w:World) (v:Value) (es:List α):Prop:=
 ∃ p c,v=.slice p es.length c/\es.length<=c/\c<=maxLen/\∀ (i:Nat) (a:α),es[i]? =some a->∃ b off cs,p=some ⟨b,off,none⟩/\(∀ (j:Nat) (u:Value),cs[j]? =some u->w.cell? ⟨b,off+i*sz+j,none⟩=some u)/\E w cs a
theorem dm.form {v:Value} (h:dm E sz w v es):∃ p c,v=.slice p es.length c/\es.length<=c/\c<=9223372036854775807:=by
 obtain⟨p,c,hv,h1,h2,_⟩:=h;exact⟨p,c,hv,h1,by simpa [maxLen] using h2⟩
variable {c i:Nat}
theorem dm.at {p:Option Addr} {n:Nat} {a:α} (h:dm E sz w (.slice p n c) es) (hq:es[i]? =some a):∃ b off cs,p=some ⟨b,off,none⟩/\(∀ (j:Nat) (u:Value),cs[j]? =some u->w.cell? ⟨b,off+i*sz+j,none⟩=some u)/\E w cs a:=by
 obtain⟨p',c',hv,h1,h2,h3⟩:=h;cases hv;exact h3 i a hq
theorem dm.bI (hE:jo E sz) {v:Value} (h:dm E sz w v es) (hb:aU w w'):dm E sz w' v es:=by
 obtain⟨p,c,hv,h1,h2,h3⟩:=h;refine⟨p,c,hv,h1,h2,λi q hq=> ?_⟩;obtain⟨b,off,cs,hp,hc,hr⟩:=h3 i q hq;exact⟨b,off,cs,hp,λj u hj=>hb.cell (hc j u hj),hE.kp hr (Kp.of hb)⟩
theorem dm.mono {E':World->List Value->α->Prop} {v:Value} (h:dm E sz w v es) (hm:∀ (i:Nat) (a:α) (cs:List Value),es[i]? =some a->E w cs a->E' w cs a):dm E' sz w v es:=by
 obtain⟨p,c,hv,h1,h2,h3⟩:=h;refine⟨p,c,hv,h1,h2,λi q hq=> ?_⟩;obtain⟨b,off,cs,hp,hc,hr⟩:=h3 i q hq;exact⟨b,off,cs,hp,hc,hm i q cs hq hr⟩
theorem dm.nil (w:World) (E:World->List Value->α->Prop) (sz:Nat):dm E sz w (.slice none 0 0) []:=⟨none,0,rfl,bL _,bq,λi q hq=>by simp at hq⟩
theorem cd.lens (hE:jo E sz) (h:cd E w es vs):∀ v∈vs,v.length=sz:=by
 induction h with
 | nil=>intro v hv;cases hv
 | cons h1 _ ih=>
   intro v hv;rcases dW.1 hv with rfl|e
   ·exact hE.len h1
   ·exact ih v e
variable {t:TypeId}
theorem KZ (hE:jo E sz) {b n:Nat} {spare:List Value} (h:bO w b t (vs.flatten++spare).toArray) (hr:cd E w es vs) (hn:n=es.length) (hc:n<=c) (hm:c<=9223372036854775807):dm E sz w (.slice (some ⟨b,0,none⟩) n c) es:=by
 subst hn;refine⟨_,_,aa,hc,by simpa [maxLen] using hm,λi a ha=> ?_⟩;obtain⟨cs,h1,h2⟩:=hr.at i a ha;refine⟨b,0,cs,aa,λj u hj=> ?_,h2⟩;have:=hr.cell hE i cs h1 j u hj;refine h.cell ?_;rw[CT,jt,gm (cQ.1 this).1];exact this
theorem gw (hE:jo E sz) {C:Cx} {β:Nat->Nat} {n:Nat} {cs:List AV} (h:oK C β w i t cs) (spare:List AV) (hcs:cs=vs.flatten.map .val++spare) (hr:cd E w es vs) (hn:n=es.length) (hc:n<=c) (hm:c<=9223372036854775807):
  dm E sz w (.slice (some ⟨β i,0,none⟩) n c) es:=by
 refine KZ hE (spare:=spare.map (AV.leaf β)) (t:=t) ?_ hr hn hc hm;have:=h.cls;rw[hcs,bC,ak] at this;exact this
def lj (E:World->List Value->α->Prop) (sz:Nat) (t:TypeId) (B:Nat) (w:World) (v:Value) (es:List α):Prop:=
 (v=.slice none 0 0/\es=[])\/∃ b c vs spare,v=.slice (some ⟨b,0,none⟩) es.length c/\B<=b/\bO w b t (vs.flatten++spare).toArray/\cd E w es vs/\spare.all bD=true/\es.length<=c/\c<=9223372036854775807/\(vs.flatten++spare).length=c*sz
variable {B:Nat}
theorem lj.sl (hE:jo E sz) {v:Value} (h:lj E sz t B w v es):dm E sz w v es:=by
 rcases h with ⟨rfl,rfl⟩|⟨b,c,vs,spare,rfl,_,h1,h2,_,h3,h4,_⟩
 ·exact dm.nil _ _ _
 ·exact KZ hE h1 h2 aa h3 h4
theorem lj.form {v:Value} (h:lj E sz t B w v es):∃ p c,v=.slice p es.length c:=by
 rcases h with ⟨rfl,rfl⟩|⟨b,c,vs,spare,rfl,_⟩
 ·exact⟨_,_,aa⟩
 ·exact⟨_,_,aa⟩
theorem lj.kp (hE:jo E sz) {v:Value} {T:TypeId->Bool} (h:lj E sz t B w v es) (k:KpT T w w') (ht:T t=true):lj E sz t B w' v es:=by
 rcases h with ⟨rfl,rfl⟩|⟨b,c,vs,spare,rfl,h0,h1,h2,h3⟩
 ·exact .inl ⟨aa,aa⟩
 ·refine .inr ⟨b,c,vs,spare,aa,h0,k.block t b _ ?_ ag h1,h2.kp hE k.plain,h3⟩;show (Nat.beq t UU || T t)=true;rw[ht];simp
end
section
variable {C:Cx} {F:Fr} {H:Hp} {w:World} {m:Option (List FuncId)} {full:Array Oper} {K:Fr->Hp->World->Prop} {o:Oper} {r:List Oper}
end
theorem SS {α:Type} {E:World->List Value->α->Prop} {sz:Nat} {C:Cx} {β:Nat->Nat} {w:World} {i n c:Nat} {t:TypeId} {es:List α} {vs:List (List Value)} {spare:List AV} (h:oK C β w i t (vs.flatten.map .val++spare)) (hr:cd E w es vs) (hn:n=es.length) (hc:n<=c) (hm:c<=9223372036854775807) (hl:(vs.flatten.map AV.val++spare).length=c*sz)
  (hnw:∀ i g,C.GO i g->C.w0.heap.size<=g:=by exact λ_ _ h=>h):lj E sz t C.w0.heap.size w (.slice (some ⟨β i,0,none⟩) n c) es:=by
 subst hn;have hk:=h.ok;rw[ja,gf] at hk;refine .inr ⟨β i,c,vs,spare.map (AV.leaf β),aa,hnw _ _ h.new,?_,hr,eN hk.2,hc,hm,by rw[<-hl];simp only[List.length_append,List.length_map]⟩;have:=h.cls;rw[bC,ak] at this;exact this
theorem sq {n d:Int} (h0: -9223372036854775808<=n) (h1:n<=9223372036854775807) (g0: -9223372036854775808<=d) (g1:d<=9223372036854775807):fI (Rat.divInt n d) 2:=by
 by_cases hd:d=0
 ·rw[hd,Rat.divInt_zero];exact fI.zero.mono ab
 ·exact tM (Sz.of_lt ab) (Sz.of_lt ab) hd
end
set_option maxRecDepth 4000
section
open Go.RowKit
attribute [local irreducible] aG VS
theorem qi (xs:List Nat) (v:Value) (n:Nat) (w:World) (hr:Rd w 1 v n (ints .u32 xs)) (hn:n<=1073741824):
  Calls Tryz.prog 64 #[v] w λe w'=>∃ p c,e=.returned (.slice p n c)/\w'.ownsRow w.heap.size UU 1 (.slice p n c) n (ints .u32 xs)/\aU w w':=by
 obtain⟨p,c,rfl,nC⟩:∃ p c,v=.slice p n c/\True:=by
  obtain⟨p,c,hv,_⟩:=hr;exact⟨p,c,hv,ag⟩
 refine ah (C:=cH Tryz.prog w _) (args:=[_]) Tryz.func64 aa Tryz.ntmps64 (bM aa) ?_;refine ae ?_;refine VO.appU (dD _ _) (t:=22) (e:=117) (n:=n) (news:=ints .u32 xs) aa aa aa aa aa (tq .u32 xs) ab (λw1 k1 b1=>hr.below b1) (λw2 p2 c2 k2 b2 ho=>wV aa ?_);refine ae ?_;refine bl ?_;intro wz kz bz;exact⟨_,_,aa,Own.kp ho kz,bz⟩
variable {xs:List Nat} {w:World}
theorem jv.Yw {s:Bool} {p:Option Addr} {c:Nat} (h:jv w (.agg #[.bool s,.slice p xs.length c]) s xs):Rd w 1 (.slice p xs.length c) xs.length (ints .u32 xs)/\ez xs:=by
 obtain⟨p',c',hv,hr,hl⟩:=h;simp only[Value.agg.injEq,Array.mk.injEq,List.cons.injEq,and_true,true_and,Value.slice.injEq] at hv;obtain⟨rfl,rfl⟩:=hv;exact⟨hr,hl⟩
def uR (w:World) (B:Nat) (v:Value) (s:Bool) (xs:List Nat) (t:Bool) (ys:List Nat):Prop:=
 ∃ p c r d,v=.agg #[.bool s,.slice p xs.length c,.bool t,.slice r ys.length d]/\w.ownsRow B UU 1 (.slice p xs.length c) xs.length (ints .u32 xs)/\w.ownsRow B UU 1 (.slice r ys.length d) ys.length (ints .u32 ys)/\ez xs/\ez ys
variable {t:Bool} {ys:List Nat} {B:Nat}
theorem uR.raw {v:Value} {s:Bool} (h:uR w B v s xs t ys):gT w v s xs t ys:=by
 obtain⟨p,c,r,d,hv,h1,h2,h3,h4⟩:=h;exact⟨p,c,r,d,hv,⟨_,_,aa,Rd.own h1,h3⟩,⟨_,_,aa,Rd.own h2,h4⟩⟩
variable {w':World}
theorem uR.kp {T:TypeId->Bool} {v:Value} {s:Bool} (h:uR w B v s xs t ys) (k:bQ ⟨UU,λ_=>True,T⟩ w w'):uR w' B v s xs t ys:=by
 obtain⟨p,c,r,d,hv,h1,h2,h3,h4⟩:=h;exact⟨p,c,r,d,hv,Own.kp h1 k,Own.kp h2 k,h3,h4⟩
theorem uR.own {v:Value} {q:Rat} (h:uR w B v (decide (q.num<0)) (limbs q.num.natAbs) (decide ((q.den:Int)<0)) (limbs (q.den:Int).natAbs)):aW w B v q:=by
 obtain⟨p,c,r,d,rfl,h1,h2,h3,h4⟩:=h;exact⟨_,p,_,c,_,r,_,d,aa,⟨_,_,aa,h1⟩,⟨_,_,aa,h2⟩⟩
theorem cU (s t:Bool) (xs ys:List Nat) (v:Value) (w:World) (h:gT w v s xs t ys) (hx:xs.length<=1073741824) (hy:ys.length<=1073741824):
  Calls Tryz.prog 28 #[v] w λe w'=>∃ r,e=.returned r/\uR w' w.heap.size r s xs t ys/\aU w w':=by
 obtain⟨p,c,r,d,rfl,h1,h2⟩:=h;refine ah (C:=cH Tryz.prog w _) (args:=[_]) jc aa Tryz.ntmps28 (bM aa) ?_;refine ae ?_;refine VO.call aa aa (fk Tryz.func64) (λbn cG bo=>(qi xs _ _ bn (h1.bI bo).Yw.1 hx).mono ?_);rintro e w1 ⟨p1,c1,rfl,q1,bA⟩
 skip
 refine bZ bA ?_;intro eF _ bb1;refine VO.call aa aa (fk Tryz.func64) (λcz dB cT=>(qi ys _ _ cz (h2.bI cT).Yw.1 hy).mono ?_);rintro e w2 ⟨p2,c2,rfl,q2,cC⟩
 skip
 refine bZ cC ?_;intro fe _ bb2;refine bl ?_;intro wz kz bz;exact⟨_,aa,⟨_,_,_,_,aa,Own.kp (Own.mono q1 bo.size) (fe.aR kz),Own.kp (Own.mono q2 cT.size) kz,h1.Yw.2,h2.Yw.2⟩,bz⟩
theorem Xn (s t:Bool) (xs ys:List Nat) (v:Value) (w:World) (h:gT w v s xs t ys) (hx:xs.length<=1073741824) (hy:ys.length<=1073741824):
  Calls Tryz.prog 67 #[v] w λe w'=>∃ r,e=.returned r/\uR w' w.heap.size r s xs t ys/\aU w w':=by
 obtain⟨p,c,r,d,rfl,h1,h2⟩:=h;refine ah (C:=cH Tryz.prog w _) (args:=[_]) Tryz.func67 aa Tryz.ntmps67 (bM aa) ?_;refine ae ?_;refine VO.call aa aa (fk Tryz.func64) (λbn cG bo=>(qi xs _ _ bn (h1.bI bo).Yw.1 hx).mono ?_);rintro e w1 ⟨p1,c1,rfl,q1,bA⟩
 skip
 refine bZ bA ?_;intro eF _ bb1;refine VO.call aa aa (fk Tryz.func64) (λcz dB cT=>(qi ys _ _ cz (h2.bI cT).Yw.1 hy).mono ?_);rintro e w2 ⟨p2,c2,rfl,q2,cC⟩
 skip
 refine bZ cC ?_;intro fe _ bb2;refine bl ?_;intro wz kz bz;exact⟨_,aa,⟨_,_,_,_,aa,Own.kp (Own.mono q1 bo.size) (fe.aR kz),Own.kp (Own.mono q2 cT.size) kz,h1.Yw.2,h2.Yw.2⟩,bz⟩
theorem bm {K:KC} (h:bQ K w w':=by (with_reducible (repeat (first|assumption|exact kU _|exact kR _|exact Kp.of (U:=UU) (by assumption)|exact bQ.of (by assumption)|refine kT ?_ (by assumption))))):bQ K w w':=h
theorem fC (n d:Int) (w:World) (h0: -9223372036854775808<=n) (h1:n<=9223372036854775807) (g0: -9223372036854775808<=d) (g1:d<=9223372036854775807):
  Calls Tryz.prog 31 #[.int .i64 n,.int .i64 d] w λe w'=>∃ r,e=.returned r/\aW w' w.heap.size r (Rat.divInt n d)/\aU w w':=by
 refine ah (C:=cH Tryz.prog w _) (args:=[_,_]) pQ aa Tryz.ntmps31 (bM aa) ?_;refine ae ?_;refine VO.call aa aa (fk Tryz.func66) (λbn cG bo=>(Xk n d bn h0 h1 g0 g1).mono ?_);rintro e w1 ⟨r1,rfl,q1,bA⟩;obtain⟨s1,p1,n1,c1,t1,y1,m1,d1,rfl⟩:=q1.form;refine bZ bA ?_;intro eF _ bb1
 have hsz:(limbs (Rat.divInt n d).num.natAbs).length<=4/\(limbs ((Rat.divInt n d).den:Int).natAbs).length<=4:=by
  by_cases hd:d=0
  ·rw[hd,Rat.divInt_zero];exact⟨fI.zero.1.mono ab,fI.zero.2.mono ab⟩
  ·have h:=tM (X:=n) (Y:=d) (k:=2) (l:=2) (Sz.of_lt ab) (Sz.of_lt ab) hd;exact⟨h.1.mono ab,h.2.mono ab⟩
 refine VO.call aa aa (fk Tryz.func67) (λcz dB cT=>(Xn _ _ _ _ _ cz (q1.kp bm).rd.raw ab ab).mono ?_);rintro e w2 ⟨r2,rfl,q2,cC⟩;obtain⟨p2,c2,y2,d2,rfl,_⟩:=q2.raw.jf;refine bZ cC ?_;intro fe _ bb2;refine bl ?_;intro wz kz bz;exact⟨_,aa,((q2.kp kz).own).mono cT.size,bz⟩
theorem HQ (xs:List Nat) (v u:Value) (n:Nat) (w:World) (hr:Rd w 1 v n (ints .u32 xs)) (hs:Rd w 1 u n (ints .u32 xs)) (Co:n=xs.length):
  Calls Tryz.prog 65 #[v,u] w λe w'=>e=.returned (.bool true)/\aU w w':=by
 subst Co;obtain⟨n,hn⟩:∃ n,n=xs.length:=⟨_,aa⟩;rw[<-hn] at hr hs;obtain⟨p,c,rfl,il,iC,ib⟩:=hr.u32;obtain⟨q,d,rfl,Wp,Rl,_⟩:=hs.u32;refine ah (C:=cH Tryz.prog w _) (args:=[_,_]) Tryz.func65 aa Tryz.ntmps65 (bM aa) ?_;refine ae ?_;refine VS.aP aa bN ?_;refine ae ?_;refine VS.loop (J:=λms L M w'=>∃ (k:Nat),k<=n/\ms=n-k/\L=[(0,.val (.slice p n c)),(1,.val (.slice q n d)),(5,.val (.int .i64 (k:Int)))]/\M=[]) n ⟨_,_,?_,?_,?_,?_,⟨0,ab,aa,aa,aa⟩⟩ ?_
 ·exact cA
 ·exact cA
 ·rfl
 ·exact gn
 rintro ms L M w' ⟨k,hk,hms,rfl,rfl⟩;refine ae ?_;by_cases ux:k<n
 ·refine VS.aV aa (aE (aQ.2 ux)) ?_;refine ae ?_;obtain⟨b1,o1,x,rfl,bA,kF,yi⟩:=hr.cellAt ux;obtain⟨b2,o2,y,rfl,cC,vE,OA⟩:=hs.cellAt ux;obtain rfl:x=y:=by rw[kF] at vE;exact Ae vE
  refine VO.cond aa dQ (wV aa ?_);refine VO.read aa [.int .u32 (x:Int)] aa (pU aa yi) (wV aa ?_);refine VO.cond aa dQ (wV aa ?_);refine VO.read aa [.int .u32 (x:Int)] aa (pU aa OA) (wV aa ?_);refine ae ?_;refine VS.aP aa bN ?_;refine ae ?_;refine VS.back (n-(k+1)) ab ⟨_,_,?_,?_,?_,?_,⟨k+1,ab,aa,aa,aa⟩⟩
  ·refine⟨aa,aa,?_,ag⟩;rw[<-aD ab];rfl
  ·exact cA
  ·rfl
  ·exact gn
 ·refine VS.aP aa (aA (λe=>ux (aQ.1 e))) ?_;refine ae ?_;refine bl ?_;intro wz kz bz;exact⟨aa,bz⟩
theorem Xo (s t:Bool) (xs ys:List Nat) (v u:Value) (w:World) (hv:gT w v s xs t ys) (hu:gT w u s xs t ys):
  Calls Tryz.prog 30 #[v,u] w λe w'=>e=.returned (.bool true)/\aU w w':=by
 obtain⟨p,c,r,d,rfl,v1,v2⟩:=hv;obtain⟨p',c',r',d',rfl,u1,u2⟩:=hu;refine ah (C:=cH Tryz.prog w _) (args:=[_,_]) Tryz.func30 aa Tryz.ntmps30 (bM aa) ?_;refine ae ?_;refine VO.fix 12 aa (au (λb=>AV.val (.bool b)) (show (s == s)=true by simp)) ?_;refine ae ?_;refine VO.fix 21 aa (au (λb=>AV.val (.bool b)) (show (t == t)=true by simp)) ?_;refine ae ?_;refine VO.cB aa aa (fk Tryz.func65) (λbn cG bo=>HQ xs _ _ _ bn (v1.bI bo).Yw.1 (u1.bI bo).Yw.1 aa) (λbn cG bo w1 bA eF _ bb1=>wV aa ?_);refine ae ?_;refine VO.cB aa aa (fk Tryz.func65) (λcz dB cT=>HQ ys _ _ _ cz (v2.bI cT).Yw.1 (u2.bI cT).Yw.1 aa) (λcz dB cT w2 cC fe _ bb2=>wV aa ?_);refine ae ?_;refine bl ?_;intro wz kz bz;exact⟨aa,bz⟩
theorem Xp (q:Rat) (v u:Value) (w:World) (hv:cJ w v q) (hu:cJ w u q):
 Calls Tryz.prog 30 #[v,u] w λe w'=>e=.returned (.bool true)/\aU w w':=Xo _ _ _ _ v u w hv.raw hu.raw
end
section
open Go.RowKit
section
variable {T:TypeId->Bool} {w w':World} {v:Value} {q:Rat} {X:Int} {B n:Nat}
theorem ck.k (h:ck w v q n) (k:bQ ⟨UU,λ_=>True,T⟩ w w':=by exact bm):ck w' v q n:=h.kp k
theorem cJ.k (h:cJ w v q) (k:bQ ⟨UU,λ_=>True,T⟩ w w':=by exact bm):cJ w' v q:=h.kp k
theorem aW.k (h:aW w B v q) (k:bQ ⟨UU,λ_=>True,T⟩ w w':=by exact bm):aW w' B v q:=h.kp k
theorem aW.kr (h:aW w B v q) (k:bQ ⟨UU,λ_=>True,T⟩ w w':=by exact bm):cJ w' v q:=(h.kp k).rd
theorem aW.ki (h:aW w B v q) (hs:fI q n) (k:bQ ⟨UU,λ_=>True,T⟩ w w':=by exact bm):ck w' v q n:=(h.kp k).in hs
theorem cJ.ki (h:cJ w v q) (hs:fI q n) (k:bQ ⟨UU,λ_=>True,T⟩ w w':=by exact bm):ck w' v q n:=(h.kp k).to hs
end
end
section
open Go.RowKit
attribute [local irreducible] aG VS
theorem Bk {a b:Int} (h:a≠b):(a != b)=true:=by simpa using h
theorem vJ {a b:Int} (h:a=b):(a != b)=false:=by simpa using h
theorem Vj {a b:Int} (h:a=b):(a == b)=true:=by simpa using h
theorem HT {a b:Int} (h:a≠b):(a == b)=false:=by simpa using h
structure jq {α:Type} (E:World->List Value->α->Prop) (sz:Nat) (w:World) (n c:Nat) (vs:List (List Value)) (sp:List AV) (es:List α):Prop where
 len:n=es.length
 el:cd E w es vs
 so:sp.all aY=true
 sl:aI sp=[]
 le:n<=c
 cm:c<=9223372036854775807
 fl:(vs.flatten.map AV.val++sp).length=c*sz
section
variable {α:Type} {E:World->List Value->α->Prop} {sz n c:Nat} {w w':World} {vs:List (List Value)} {sp:List AV} {es:List α}
theorem jq.kp (hE:jo E sz) (h:jq E sz w n c vs sp es) (k:Kp UU w w'):jq E sz w' n c vs sp es:=⟨h.len,h.el.kp hE k,h.so,h.sl,h.le,h.cm,h.fl⟩
theorem jq.lp {M:List (Nat×(TypeId×List AV))} (h:jq E sz w n c vs sp es):jj M (vs.flatten.map AV.val++sp):=.append (.vals _) (.none h.sl)
theorem jq.eu (h:jq E sz w n c vs sp es):aI (vs.flatten.map AV.val++sp)=[]:=by rw[ey,aw,h.sl];rfl
variable {C:Cx} {i:Nat} {β:Nat->Nat} {t:TypeId}
theorem jq.new (hE:jo E sz) (h:jq E sz w n c vs sp es) (o:oK C β w' i t (vs.flatten.map .val++sp)) (k:Kp UU w w') (hnw:∀ i g,C.GO i g->C.w0.heap.size<=g:=by exact λ_ _ h=>h):
 lj E sz t C.w0.heap.size w' (.slice (some ⟨β i,0,none⟩) n c) es:=SS o (h.el.kp hE k) h.len h.le h.cm h.fl hnw
theorem jq.sl' (hE:jo E sz) (h:jq E sz w n c vs sp es) (o:oK C β w' i t (vs.flatten.map .val++sp)) (k:Kp UU w w'):
 dm E sz w' (.slice (some ⟨β i,0,none⟩) n c) es:=gw hE o sp aa (h.el.kp hE k) h.len h.le h.cm
theorem jq.cell (hE:jo E sz) (h:jq E sz w n c vs sp es) {a:α} (ha:es[i]? =some a):∃ cs,vs[i]? =some cs/\E w cs a/\cs.length=sz/\∀ (k:Nat) (ds:List Value),ds <+:cs.drop k->∀ (j:Nat) (u:AV),(ds.map AV.val)[j]? =some u->(vs.flatten.map AV.val++sp)[0+((i:Nat):Int).toNat*sz+k+j]? =some u:=by
 obtain⟨cs,h1,h2⟩:=h.el.at i a ha;refine⟨cs,h1,h2,hE.len h2,λk ds hd j u hj=> ?_⟩;obtain⟨t,ht⟩:=hd;rw[nJ] at hj;obtain⟨x,hx,rfl⟩:=ou.1 hj
 have Nx:cs[k+j]? =some x:=by
  rw[<-tf,<-ht,gm (cQ.1 hx).1];exact hx
 have:=h.el.cell hE i cs h1 (k+j) x Nx;rw[dC,jt,yB,gm (by rw[bu];exact (cQ.1 this).1),nJ,this];rfl
end
section
variable {C:Cx} {F:Fr} {H:Hp} {w:World} {m:Option (List FuncId)} {full:Array Oper} {K:Fr->Hp->World->Prop} {o:Oper} {r:List Oper}
variable {cs:List Value} {dst:Nat} {x y:Operand} {it ie:TI} {α:Type} {t e te:TypeId} {E:World->List Value->α->Prop}
theorem VO.DI (hC:C.Ok) {sz:Nat} (hE:jo E sz) {s:Nat} {a:α}
  (e0:stepOf C full F H o=.call (.op o [.val (.slice none 0 0),.row s 0 1 1])) (ho:o.op=.call { callee:=.builtin .append,args:=#[x,y],argTypes:=#[t,t] })
  (WV:C.ti t=some it) (Rr:it.elem=some (e,sz)) (Nw:C.ti e=some ie) (hU:C.K.fz e=false) (hzo:ie.zero.cells.toList.all bD=true)
  (hd:o.dst=some dst) (hN:dst<C.N) (hl:lvl C.SU m o=2) (lV:H dst=none) (hs:H s=some (te,cs.map .val)) (hcs:E w cs a) (kZ:24*sz<=140737488355328)
  (hK:∀ w2 cap sp,bQ C.K w w2->C.Old w2->jq E sz w2 1 cap [cs] sp [a]->aG C m full r K (F.cw o.dst (.row dst 0 1 cap)) (H.put dst (e,[cs].flatten.map AV.val++sp)) w2)
  (hkp:∀ w w',bQ C.K w w'->Kp UU w w':=by first|exact λ_ _ h=>h|exact λ_ _ h=>h.nD):aG C m full (o::r) K F H w:=by
 have hlen:=hE.len hcs
 refine VO.app hC e0 ho WV Rr Nw hU hzo hd hN hl (known:=[]) (spare:=[]) (del:=none) (n:=0) (c:=0) (mm:=1) (news:=cs.map .val) (.inl ⟨aa,aa,aa,aa,aa,aa,ab⟩) (.inl lV) bN bN ab ab ⟨aa,aa,aw _⟩ ⟨aa,aa,bP (hE.ok hcs)⟩ (by rw[bu,hlen];omega) ab
  (λw1 β k1 b1 ho=>⟨_,_,rfl,.inr ⟨β s,0,rfl,eH (rest:=[]) (ho.own s (.base (iY _ (aJ.2 rfl))) _ _ hs) (by rw[gA])⟩⟩) (λw2 cap sp ρ k2 b2 iI h1 h2 h3 h4 h5=> ?_)
 have:=hK w2 cap sp k2 b2 ⟨aa,.cons (hE.kp hcs (hkp _ _ k2)) .nil,h4,h5,ab,h2,by simpa using h3⟩;have e':([cs].flatten.map AV.val++sp)=([]++cs.map .val)++sp:=bN;rw[e'] at this;exact this
theorem VO.ss (hC:C.Ok) {sz:Nat} (hE:jo E sz) {s i n c:Nat} {a:α} {vs:List (List Value)} {sp:List AV} {es:List α}
  (e0:stepOf C full F H o=.call (.op o [.row i 0 n c,.row s 0 1 1])) (ho:o.op=.call { callee:=.builtin .append,args:=#[x,y],argTypes:=#[t,t] })
  (WV:C.ti t=some it) (Rr:it.elem=some (e,sz)) (Nw:C.ti e=some ie) (hU:C.K.fz e=false) (hzo:ie.zero.cells.toList.all bD=true)
  (hd:o.dst=some dst) (hN:dst<C.N) (hl:lvl C.SU m o=2) (lV:H dst=none\/some i=some dst) (hi:H i=some (e,vs.flatten.map .val++sp)) (hr:jq E sz w n c vs sp es) (hs:H s=some (te,cs.map .val)) (hcs:E w cs a) (kZ:(n+1)*(24*sz)<=140737488355328)
  (hK:∀ w2 cap qy ρ,bQ C.K w w2->C.Old w2->(∀ x,bD (ρ x)=true)->jq E sz w2 (n+1) cap (vs++[cs]) qy (es++[a])->aG C m full r K ((F.forget (some i) ρ).cw o.dst (.row dst 0 (n+1) cap)) ((H.forget (some i) ρ).put dst (e,(vs++[cs]).flatten.map AV.val++qy)) w2)
  (hkp:∀ w w',bQ C.K w w'->Kp UU w w':=by first|exact λ_ _ h=>h|exact λ_ _ h=>h.nD):aG C m full (o::r) K F H w:=by
 have hlen:=hE.len hcs;obtain⟨k1,k2⟩:=hr.el.ok hE;have Zi:=hr.len
 refine VO.app hC e0 ho WV Rr Nw hU hzo hd hN hl (known:=vs.flatten.map .val) (spare:=sp) (del:=some i) (n:=n) (c:=c) (mm:=1) (news:=cs.map .val) (.inr ⟨i,aa,hi,aa⟩) lV (by rw[bu,k2,Zi]) hr.fl hr.le hr.cm ⟨aw _,hr.sl,aw _⟩ ⟨bP k1,hr.so,bP (hE.ok hcs)⟩ (by rw[bu,hlen];omega) kZ
  (λw1 β k1 b1 ho=>⟨_,_,rfl,.inr ⟨β s,0,rfl,eH (rest:=[]) (ho.own s (.base (iY _ (aJ.2 rfl))) _ _ hs) (by rw[gA])⟩⟩) (λw2 cap qy ρ k2 b2 iI h1 h2 h3 h4 h5=> ?_)
 have e:(vs.flatten.map AV.val++cs.map .val)=(vs++[cs]).flatten.map AV.val:=bN;have:=hK w2 cap qy ρ k2 b2 iI ⟨by rw[bB,hr.len];rfl,(hr.el.kp hE (hkp _ _ k2)).snoc (hE.kp hcs (hkp _ _ k2)),h4,h5,ab,h2,by rw[<-e];exact h3⟩;rw[<-e] at this;exact this
end
end
section
open Go.RowKit
def Hp.Xq:Nat->List (TypeId×List AV)->Hp
 | _,[]=>λ_=>none
 | i,c::r=>λn=>bif Nat.beq n i then some c else Hp.Xq (i+1) r n
theorem Hp.uS:∀ (l:List (TypeId×List AV)) (i n:Nat),Hp.Xq i l n=if i<=n then l[n-i]? else none
 | [],i,n=>by unfold Hp.Xq;simp
 | c::r,i,n=>by
   unfold Hp.Xq;rw[Hp.uS r (i+1) n];by_cases h:n=i
   ·subst h;simp
   ·have hb:Nat.beq n i=false:=by rw[<-Bool.not_eq_true,Nat.beq_eq];exact h
    rw[hb,cond_false];by_cases h1:i<=n
    ·rw[if_pos h1,if_pos ab,show n-i=(n-(i+1))+1 by omega];rfl
    ·rw[if_neg h1,if_neg ab]
def adB (N:Nat) (ad:List Nat):Nat->Nat:=λi=>ad.getD (i-2*N) 0
structure nd (K:KC) (N:Nat) (ad:List Nat) (l:List (TypeId×List AV)) (w:World):Prop where
 len:ad.length=l.length
 nodup:ad.Nodup
 cls:∀ (j:Nat) (g:Nat) (c:TypeId×List AV),ad[j]? =some g->l[j]? =some c->bO w g c.1 (c.2.map (AV.leaf (adB N ad))).toArray
 ok:∀ c∈l,K.fz c.1=false/\c.2.all aY=true
 ids:∀ c∈l,∀ k∈aI c.2,2*N<=k/\k<2*N+l.length
theorem nd.ad {K:KC} {N:Nat} {ad:List Nat} {l:List (TypeId×List AV)} {w:World} (h:nd K N ad l w):AY K ad w:=λg hg=>by
 obtain⟨j,hj⟩:=qD.1 hg;have hlt:=(cQ.1 hj).1;obtain⟨c,hc⟩:∃ c,l[j]? =some c:=⟨_,ba (by rw[<-h.len];exact hlt)⟩;obtain⟨h1,h2⟩:=h.ok c (cX hc);exact⟨c.1,_,h.cls j g c hj hc,h1,eN h2⟩
theorem iw (P:Program) (w:World) (N:Nat) (K:KC) (SU:TypeId->Bool) (ti:TypeId->Option TI) (keep:∀ b,b<w.heap.size->K.S b) {ad:List Nat} {l:List (TypeId×List AV)} {us:List Value} {f:FuncId} {fn:Func} {c:Code} {R:Ending->World->Prop} (hf:P.funcs[f]? =some fn) (hb:fn.body=some c) (hN:fn.ntmps=N) (ha:us.length+1<=N)
  (hl:nd K N ad l w) (h0:0<l.length)
  (h:VS (WZ P w N K SU ti keep ad hl.nodup hl.ad) (bodyPost P fn R) [.code c] (Fr.ZQ 0 (.box (2*N) 0::us.map .val)) (Hp.Xq (2*N) l) w):Calls P f (Value.pointer (some ⟨ad.getD 0 0,0,none⟩)::us).toArray w R:=by
 have Nv:∀ i c,Hp.Xq (2*N) l i=some c->2*N<=i/\l[i-2*N]? =some c:=λi c hi=>by
  rw[Hp.uS] at hi
  split at hi
  ·exact⟨by assumption,hi⟩
  ·cases hi
 have hsome:∀ i,Hp.Xq (2*N) l i≠none->2*N<=i/\i-2*N<l.length:=λi hi=>by
  cases hh:Hp.Xq (2*N) l i with
  | none=>exact absurd hh hi
  | some c=>
    obtain⟨h1,h2⟩:=Nv i c hh;exact⟨h1,(cQ.1 h2).1⟩
 have hval:∀ k,k<ad.length->ad[k]? =some (ad.getD k 0):=λk hk=>by simp[List.getD_eq_getElem?_getD,hk]
 have:=PJ (C:=WZ P w N K SU ti keep ad hl.nodup hl.ad) (R:=R) (args:=.box (2*N) 0::us.map .val) (β:=adB N ad) (H:=Hp.Xq (2*N) l) hf hb hN (by simpa using ha) (λi t cs hi=> ?_) (λi j hi hj e=> ?_) ⟨λi t cs hi=> ?_,λi t cs hi=> ?_,λi hi=> ?_⟩ (λv hv i hi=> ?_) h
 ·have e:(AV.box (2*N) 0::us.map AV.val).map (AV.bU (adB N ad))=Value.pointer (some ⟨ad.getD 0 0,0,none⟩)::us:=by
   rw[rQ,mi];show Value.pointer (some ⟨ad.getD (2*N-2*N) 0,0,none⟩)::us=_;rw[rR]
  rw[e] at this;exact this
 ·obtain⟨h1,h2⟩:=Nv i _ hi;have hlt:=(cQ.1 h2).1;obtain⟨g1,g2⟩:=hl.ok _ (cX h2);have hv:=hval (i-2*N) (by rw[hl.len];exact hlt);refine⟨?_,g1,hl.cls _ _ _ hv h2,g2⟩;show eK N ad w i (adB N ad i);unfold eK;rw[if_pos h1];exact hv
 ·obtain⟨h1,h2⟩:=hsome i hi;obtain⟨h3,h4⟩:=hsome j hj;have e1:=hval (i-2*N) (by rw[hl.len];exact h2);have e2:=hval (j-2*N) (by rw[hl.len];exact h4);have e':ad.getD (i-2*N) 0=ad.getD (j-2*N) 0:=e;rw[<-e'] at e2;have:=(Un (by rw[hl.len];exact h2) hl.nodup).1 (e1.trans e2.symm);omega
 ·obtain⟨h1,h2⟩:=Nv i _ hi;exact hl.ok _ (cX h2)
 ·obtain⟨h1,h2⟩:=Nv i _ hi;intro j hj;obtain⟨h3,h4⟩:=hl.ids _ (cX h2) j hj;rw[Hp.uS,if_pos h3,ba ab];simp
 ·have BO:2*N+ad.length<=i:=hi;rw[Hp.uS]
  split
  ·exact vi (by rw[<-hl.len];omega)
  ·rfl
 ·rcases dW.1 hv with rfl|hv
  ·have:i=2*N:=by simpa [AV.ids] using hi
   rw[this,Hp.uS,if_pos (bL _),rR,ba h0];simp
  ·obtain⟨u,_,rfl⟩:=fv.1 hv;cases hi
theorem iy {P:Program} {w w':World} {N:Nat} {K:KC} {SU:TypeId->Bool} {ti:TypeId->Option TI} {keep:∀ b,b<w.heap.size->K.S b} {ad:List Nat} {hd:ad.Nodup} {ha:AY K ad w} {β:Nat->Nat} {i:Nat} {t:TypeId} {cs:List AV} (h:oK (WZ P w N K SU ti keep ad hd ha) β w' i t cs) (j g:Nat) (hi:i=2*N+j) (hj:ad[j]? =some g):β i=g/\bO w' g t (cs.map (AV.leaf β)).toArray:=by
 have h1:eK N ad w i (β i):=h.new;unfold eK at h1;rw[if_pos ab,hi,JF,hj] at h1;have h2:g=β i:=by rw[hi];simpa using h1
 exact⟨h2.symm,h2▸h.cls⟩
section
variable {C:Cx} {F:Fr} {H:Hp} {w:World} {m:Option (List FuncId)} {full:Array Oper} {K:Fr->Hp->World->Prop} {o:Oper} {r:List Oper} {Q:Exit->Act->World->Prop} {k:List It}
def HW (F:Fr) (β:Nat->Nat):List (Nat×AV)->Prop
 | []=>True
 | p::r=>(∃ u x,F p.1=some u/\u.bU β=x/\p.2=.val x)/\HW F β r
theorem HW.mem {β:Nat->Nat}:∀ {L:List (Nat×AV)} {d:Nat} {v:AV},HW F β L->(d,v)∈L->∃ u x,F d=some u/\u.bU β=x/\v=.val x
 | p::r,d,v,h,hm=>by
   rcases dW.1 hm with rfl|hm
   ·exact h.1
   ·exact HW.mem h.2 hm
theorem VS.Ia (D:World->Cx) (hP:∀ w,(D w).P=C.P) (hN:∀ w,(D w).N=C.N) (hO:∀ w,(D w).Old w)
  (h:∀ w' β,bQ C.K w w'->C.Old w'->Ends C β H w'->∃ L:List (Nat×AV),HW F β L/\VS (D w') Q k (Fr.of L) (λ_=>none) w'):VS C Q k F H w:=λβ a w' hr hk=>by
 obtain⟨L,hL,hv⟩:=h w' β hk hr.old ⟨hr.own,hr.apart⟩;have:=hv β a w' ⟨hr.defers,by rw[hN];exact hr.size,λd v hd=> ?_,λi t cs hi=>(by cases hi),λi j hi=>absurd aa hi,λd v hd i hi=> ?_,λd v hd=> ?_,⟨λi t cs hi=>(by cases hi),λi t cs hi=>(by cases hi),λi hi=>aa⟩,hO w'⟩ (bQ.refl _ _)
 ·rw[hP] at this;exact this
 ·obtain⟨u,x,h1,rfl,rfl⟩:=hL.mem (Fr.kc hd);exact hr.tmp d u h1
 ·obtain⟨u,x,h1,rfl,rfl⟩:=hL.mem (Fr.kc hd);cases hi
 ·obtain⟨u,x,h1,rfl,rfl⟩:=hL.mem (Fr.kc hd);rw[hN];exact hr.fits d u h1
end
section
variable {C:Cx} {F:Fr} {H:Hp} {w:World} {m:Option (List FuncId)} {full:Array Oper} {K:Fr->Hp->World->Prop} {o:Oper} {r:List Oper}
theorem VO.appO (hC:C.Ok) {t e:TypeId} {it ie:TI} {sz n c mm off i:Nat} {x y:Operand} {src:AV} {pre known spare news:List AV} {dst:Nat}
  (e0:stepOf C full F H o=.call (.op o [.row i off n c,src])) (ho:o.op=.call { callee:=.builtin .append,args:=#[x,y],argTypes:=#[t,t] })
  (WV:C.ti t=some it) (Rr:it.elem=some (e,sz)) (Nw:C.ti e=some ie) (hU:C.K.fz e=false) (hzo:ie.zero.cells.toList.all bD=true)
  (hd:o.dst=some dst) (hN:dst<C.N) (hl:lvl C.SU m o=2)
  (hH:H i=some (e,pre++(known++spare))) (hpre0:pre.length=off\/(c=0/\0<mm))
  (lV:H dst=none\/some i=some dst) (hk:known.length=n*sz) (hsp:(known++spare).length=c*sz) (il:n<=c) (iC:c<=9223372036854775807)
  (jH:aI known=[]/\aI spare=[]/\aI news=[]) (hlidp:aI pre=[]) (gv:known.all aY=true/\spare.all aY=true/\news.all aY=true) (hokp:pre.all aY=true) (Co:news.length=mm*sz) (kZ:(n+mm)*(24*sz)<=140737488355328)
  (PF:∀ w1 β,bQ C.K w w1->C.Old w1->tv C β H (jN [.row i off n c,src]) w1->∃ p cc,src.bU β=.slice p mm cc/\(mm=0\/∃ b off,p=some ⟨b,off,none⟩/\∀ j u,(news.map (AV.leaf β))[j]? =some u->w1.cell? ⟨b,off+j,none⟩=some u))
  (hK:∀ w2 bE dI cap ax ρ,bQ C.K w w2->C.Old w2->(∀ x,bD (ρ x)=true)->dI.length=bE->dI.all aY=true->aI dI=[]->n+mm<=cap->cap<=9223372036854775807->((known++news)++ax).length=cap*sz->ax.all aY=true->aI ax=[]->
   aG C m full r K ((F.forget (some i) ρ).cw o.dst (.row dst bE (n+mm) cap)) ((H.forget (some i) ρ).put dst (e,dI++((known++news)++ax))) w2):aG C m full (o::r) K F H w:=by
 obtain⟨base,oG⟩:∃ base,base=AV.row i off n c:=⟨_,aa⟩;obtain⟨del,hdel⟩:∃ del,del=some i:=⟨_,aa⟩;rw[<-oG] at e0 PF;rw[<-hdel] at lV hK;show one C m full o (aG C m full r K) F H w;unfold one;rw[e0];intro w1 β h1 h2 h3;obtain⟨hu,hsz⟩:=(hC t it WV).isSlice e sz Rr;have KH:=hC e ie Nw;cases zj:C.P.info? e with
 | none=>have:=KH.size;rw[zj] at this;simp at this
 | some ti=>
   have PG:ti.size=ie.size:=by have:=KH.size;rw[zj] at this;simpa using this
   have lD:ti.zero=some ie.zero:=by have:=KH.Kl;rw[zj] at this;simpa using this
   have bA:ti.bytes<=24*ie.size:=bM (by have:=KH.bytes;rw[zj] at this;simpa using this)
   have LZ:sz=ti.size:=by
    have:=hsz w1;simp[sizeOf,typeInfo,zj] at this;exact this.symm
   have tp:0<sz:=by rw[LZ,PG];exact KH.pos
   have Yj:ie.zero.cells.size=sz:=by rw[KH.GN,LZ,PG]
   have hcap:n+mm<=140737488355328:=by
    have:(n+mm)*24<=(n+mm)*(24*sz):=kS _ ab;omega
   have RI:(n+mm)*ti.bytes<=140737488355328:=bj (kS _ (by rw[LZ,PG];exact bA)) kZ;obtain⟨p,cc,hsc,hsp2⟩:=PF w1 β h1 h2 h3
   have hS:Src C.P ti.size t (.slice p mm cc) mm (news.map (AV.leaf β)) w1:=by
    have vO:∀ u∈news.map (AV.leaf β),u.oneCell'=true:=λu hu=>zd (bR.1 (eN (β:=β) gv.2.2) u hu);rcases hsp2 with rfl|⟨b,off,rfl,hc⟩
    ·have:news=[]:=js (by simpa using Co);subst this;cases p with
     | none=>exact Src.ofNil w1 hu cc
     | some a=>exact Src.ofSlice w1 hu a 0 cc [] bN (λj u hj=>by simp at hj) vO
    ·refine Src.ofSlice w1 hu ⟨b,off,none⟩ mm cc _ (by rw[bu,Co,LZ]) (λj u hj=> ?_) vO;rw[ju];exact hc j u hj
   have ZN:∀ ρ:Operand->Value,o.op.operands.toList.map ρ=[base,src].map (AV.bU β)->ρ x=base.bU β/\ρ y=.slice p mm cc:=λρ h=>by
    rw[ho] at h;simp[Op.operands,Call.operands] at h;exact⟨h.1,h.2.trans hsc⟩
   have hrun:∀ {v:Value} {w2:World},(Builtin.append_ #[t,t] o.type #[base.bU β,.slice p mm cc]).run C.P w1=.ok v w2->∀ ρ:Operand->Value,o.op.operands.toList.map ρ=[base,src].map (AV.bU β)->(execOp ρ o).run C.P w1=.ok (.value v) w2:=λ{v w2} hv ρ iI=>by
    obtain⟨q1,q2⟩:=ZN ρ iI;unfold execOp;simp only[ho,resolve,invoke,builtin,Sem.run_bind,Sem.run_pure,Result.andThen_ok,List.map_toArray,List.map_cons,List.map_nil,q1,q2,hv]
   have hg:∀ i,del=some i->Reach H (jN [base,src]) i/\H i≠none:=λi' hi=>by
    rw[hdel] at hi;cases hi;exact⟨.base (by rw[oG];simp[jN,AV.ids]),by rw[hH];simp⟩
   have fin:∀ (w2:World) (b bE cap:Nat) (dI ax:List AV),dI.length=bE->dI.all aY=true->aI dI=[]->(∀ ρ:Operand->Value,o.op.operands.toList.map ρ=[base,src].map (AV.bU β)->(execOp ρ o).run C.P w1=.ok (.value (.slice (some ⟨b,bE,none⟩) (n+mm) cap)) w2)->
     w2.os=w1.os->w2.tape=w1.tape->w2.output=w1.output->w1.heap.size<=w2.heap.size->(∀ q,q<w1.heap.size->q≠b->w2.heap[q]? =w1.heap[q]?)->(w1.heap.size<=b\/∃ i,del=some i/\b=β i)->
     n+mm<=cap->cap<=9223372036854775807->((known++news)++ax).length=cap*sz->ax.all aY=true->aI ax=[]->bO w2 b e ((dI++((known++news)++ax)).map (AV.leaf β)).toArray->
     BZ C.P (.op o [base,src]) β w1 λe w2=>∃ dA r' del ups,e=.returned (r'.bU dA)/\(∀ i∈r'.ids,i∈ups.map (·.1)\/(Reach H (kH.op o [base,src]).ids i/\H i≠none/\del≠some i))/\(1<=lvl C.SU m o\/ups=[])/\(2<=lvl C.SU m o\/del=none)/\
      GS C β dA H (kH.op o [base,src]).ids del ups w1 w2/\(bQ C.K w w2->bQ C.K w1 w2->C.Old w2->∀ ρ,(∀ x,bD (ρ x)=true)->aG C m full r K ((F.forget del ρ).cw o.dst r') ((H.forget del ρ).jh ups) w2):=by
    intro w2 b bE cap dI ax p1 p2 p3 hrun q1 q2 q3 q4 q5 q6 q7 q8 q9 q10 q11 q12
    let dA:Nat->Nat:=λi=>if i=dst then b else β i
    have xK:dA dst=b:=if_pos aa;have gJ:(dI++((known++news)++ax)).all aY=true:=by simp only[List.all_append,gv.1,gv.2.2,q10,p2];rfl
    have lG:aI (dI++((known++news)++ax))=[]:=by rw[ey,ey,ey,jH.1,jH.2.2,q11,p3];rfl
    have PH:C.GO dst b:=by
     rcases q6 with e|⟨i,hi,e⟩
     ·exact C.yT _ _ ab (by have:=C.iq _ h2;omega)
     ·obtain⟨g1,g2⟩:=hg i hi;cases hh:H i with
      | none=>exact absurd hh g2
      | some c'=>rw[e];exact C.Kn i dst _ (h3.own i g1 c'.1 c'.2 hh).new ab
    have Kh:∀ i,del=some i->w2.heap[β i]? =w1.heap[β i]?\/∃ x∈[(dst,(e,dI++((known++news)++ax)))],dA x.1=β i:=λi hi=>by
     by_cases e':β i=b
     ·exact .inr ⟨_,aJ.2 aa,xK.trans e'.symm⟩
     ·obtain⟨g1,g2⟩:=hg i hi;cases hh:H i with
      | none=>exact absurd hh g2
      | some c'=>exact .inl (q5 _ (h3.own i g1 c'.1 c'.2 hh).cls.lt e')
    refine⟨_,w2,λρ iI=>.inl (hrun ρ iI),dA,.row dst bE (n+mm) cap,del,[(dst,(e,dI++((known++news)++ax)))],?_,λi hi=>.inl (by simpa [AV.ids] using hi),.inl ab,.inl ab,?_,λa1 a2 a3 ρ iI=>hK w2 bE dI cap ax ρ a1 a3 iI p1 p2 p3 q7 q8 q9 q10 q11⟩
    ·show Ending.returned _=.returned (Value.slice (some ⟨dA dst,bE,none⟩) (n+mm) cap);rw[xK]
    ·refine⟨q1,q2,q3,q4,λk hk hx mD _=>q5 k hk (by have:=hx _ (aJ.2 aa);simpa [xK] using this),λi hi=>if_neg (by simpa using hi),hg,λi hi=>(Kh i hi).imp .inl id,λx hx=> ?_,λx hx=> ?_,bN,λx hx y hy _=> ?_,λx hx j hj=> ?_⟩
     ·cases aJ.1 hx;refine⟨by rw[xK];exact PH,hU,?_,gJ⟩;rw[xK,mf (β:=β) (λi hi=>by rw[lG] at hi;cases hi)];exact q12
     ·cases aJ.1 hx;refine .inr ⟨lV,ab,?_⟩;rcases q6 with e|⟨i,hi,e⟩
      ·exact .inl (by rw[xK];exact e)
      ·exact .inr ⟨i,hi,by rw[xK];exact e⟩
     ·cases aJ.1 hx;cases aJ.1 hy;rfl
     ·cases aJ.1 hx;rw[lG] at hj;cases hj
   have grow:c<n+mm->(∃ bp,base.bU β=.slice bp n c/\(Builtin.firstCells ti.size n (.slice bp n c)).run C.P w1.drew=.ok (known.map (AV.leaf β)).toArray w1.drew)->BZ C.P (.op o [base,src]) β w1 λe w2=>∃ dA r' del ups,e=.returned (r'.bU dA)/\(∀ i∈r'.ids,i∈ups.map (·.1)\/(Reach H (kH.op o [base,src]).ids i/\H i≠none/\del≠some i))/\(1<=lvl C.SU m o\/ups=[])/\(2<=lvl C.SU m o\/del=none)/\
      GS C β dA H (kH.op o [base,src]).ids del ups w1 w2/\(bQ C.K w w2->bQ C.K w1 w2->C.Old w2->∀ ρ,(∀ x,bD (ρ x)=true)->aG C m full r K ((F.forget del ρ).cw o.dst r') ((H.forget del ρ).jh ups) w2):=by
    rintro WT ⟨bp,hbp,hfc⟩;have hr:=run_append_grow_src (P:=C.P) w1 t t o.type e ti ie.zero hu zj lD bp n c (known.map (AV.leaf β)) hfc (.slice p mm cc) mm (news.map (AV.leaf β)) hS WT ab (growslice_fits WT RI);obtain⟨zs,uw,hz3,hz4⟩:=tH ie.zero (grownCap w1 (n+mm) c e-(n+mm));have hge:=grownCap_ge w1 (n+mm) c e;have hle:=grownCap_le_maxLen w1 (n+mm) c e (by simp only[maxLen];omega);rw[uw] at hr;have Hh:aU w1 (w1.drew.alloc (.cells ((known.map (AV.leaf β)++news.map (AV.leaf β)).toArray++zs.toArray) e)):=(aU.refl w1).drew.alloc _;refine fin _ w1.heap.size 0 (grownCap w1 (n+mm) c e) [] (zs.map .val) aa aa aa (hrun (by rw[hbp];exact hr)) Hh.os Hh.tape Hh.output Hh.size (λq hq _=>vC Hh q hq) (.inl (bL _)) hge (by simpa [maxLen] using hle) ?_ (bP (hz4 hzo)) (aw zs) ?_
    ·rw[bB,bB,bu,hk,Co,hz3,Yj,<-fG,<-fG]
     congr 1
     omega
    ·have:(((known++news)++zs.map AV.val).map (AV.leaf β)).toArray=(known.map (AV.leaf β)++news.map (AV.leaf β)).toArray++zs.toArray:=by
      rw[bC,bC,ak];apply Array.ext';rw[Array.toList_append]
     rw[ma,this];exact bO.newAt (w:=w1.drew) aa _ _
   have hki:pre++(known++spare)=(pre++known)++spare:=(fu _ _ _).symm;have La:base.bU β=.slice (some ⟨β i,off,none⟩) n c:=by rw[oG];rfl
   obtain⟨g1,g2,g3,g4⟩:=h3.own i (.base (Aa _ (by rw[oG];exact aJ.2 aa))) e _ hH;by_cases hroom:n+mm<=c
   ·have qM:pre.length=off:=hpre0.resolve_right (λh=>ab);have OT:(pre++known).length=off+n*sz:=by rw[bB,qM,hk]
    have Jq:known.length+spare.length=c*sz:=by rw[<-bB];exact hsp
    have hmul:n*sz+mm*sz<=c*sz:=by rw[<-fG];exact pK _ hroom
    have hfit:off+n*sz+news.length<=(pre++(known++spare)).length:=by rw[bB,hsp,Co,qM];omega
    have hr:=run_append_room_src (P:=C.P) w1 t t o.type e ti hu zj (β i) off n c (.slice p mm cc) mm (news.map (AV.leaf β)) hS hroom (λj hj=>by
      rw[bu] at hj;obtain⟨z,hz⟩:∃ z,((pre++(known++spare)).map (AV.leaf β))[off+n*ti.size+j]? =some z:=⟨_,ba (by rw[bu,<-LZ];omega)⟩;rw[g3.cell (u:=z) (by simpa using hz)];rfl)
     (λj _=>g3.frozen _)
    rw[<-LZ] at hr;obtain⟨k1,k2,k3,k4⟩:=pY (K:=C.K) (news.map (AV.leaf β)) (off+n*sz) w1 ((pre++(known++spare)).map (AV.leaf β)) g3 g2 (eN g4) (eN gv.2.2);obtain⟨s1,s2,s3,_⟩:=lF (b:=β i) (news.map (AV.leaf β)) (off+n*sz) w1;refine fin _ (β i) off c pre (spare.drop (mm*sz)) qM hokp hlidp (hrun (by rw[La];exact hr)) s1 s2 s3 k1.size (λq _ hq=>gR _ _ _ q hq) (.inr ⟨i,hdel,aa⟩) hroom iC ?_ ?_ ?_ ?_
    ·simp only[List.length_append,List.length_drop] at hsp hfit ⊢;omega
    ·exact bR.2 λx hx=>bR.1 gv.2.1 x (ow hx)
    ·rw[CS];intro j hj;obtain⟨v,hv,hj'⟩:=bK.1 hj;have:j∈aI spare:=bK.2 ⟨v,ow hv,hj'⟩;rw[jH.2.1] at this;cases this
    ·rw[uJ _ _ _ (by simp only[List.length_map];omega)] at k2
     have:((pre++(known++spare)).map (AV.leaf β)).take (off+n*sz)++(news.map (AV.leaf β)++((pre++(known++spare)).map (AV.leaf β)).drop (off+n*sz+(news.map (AV.leaf β)).length))=((pre++((known++news)++spare.drop (mm*sz))).map (AV.leaf β)):=by
      rw[hki,bu,Co,<-Gi,<-List.map_drop,<-OT,List.take_left',List.drop_append]
      ·rw[ly ab];simp[List.map_append]
      ·rfl
     rw[this] at k2;exact k2
   ·refine grow ab ⟨some ⟨β i,off,none⟩,La,?_⟩;refine run_firstCells_some w1.drew ti.size n ⟨β i,off,none⟩ n c (known.map (AV.leaf β)) (by rw[bu,hk,LZ]) (λj u hj=> ?_);rw[ju];have hlt:=(cQ.1 hj).1
    have qM:pre.length=off:=hpre0.resolve_right (λh=>by
     rw[bu,hk] at hlt;have:n=0:=ab;rw[this] at hlt;omega)
    have:w1.cell? ⟨β i,off+j,none⟩=some u:=g3.cell (by
     rw[bC,bC];rw[CT,jT (by rw[bu];omega),bu,qM,JF,gm hlt];exact hj)
    exact this
end
def uT (o:Oper):Bool:=match o.op,o.guard,o.dst with | .store _ _ _,none,none=>true|_,_,_=>false
def Bl (su:TypeId->Bool) (ml:List FuncId) (full:Array Oper) (B S:List Nat) (i j:Nat):Bool:=
 mW su ml full i j || (B.contains i && (S.contains j && (match full[i]?,full[j]? with|some p,some o=>p.apart full o|_,_=>true)))
def SV (su:TypeId->Bool) (ml:List FuncId) (full:Array Oper) (B S:List Nat):Bool:=
 ((List.range full.size).all λj=>(eb full j).all (λd=>Nat.blt d j) && (List.range j).all λi=>Bl su ml full B S i j) &&
   ((full.toList.all λo=> !Nat.beq (aC su ml o) 5) && ((B.all λj=>match full[j]? with|some o=>Nat.ble (aC su ml o) 2 || Nat.beq (aC su ml o) 4|none=>true) && (S.all λj=>match full[j]? with|some o=>uT o|none=>true)))
section
variable {C:Cx} {full:Array Oper} {ml:List FuncId} {Q:Exit->Act->World->Prop} {F:Fr} {H:Hp} {w:World} {k:Fr->Hp->World->Prop} {p o q:Oper}
def Ej (su:TypeId->Bool) (ml:List FuncId) (J:List Nat) (F:Fr) (o:Oper):Prop:=
 (∀ x∈o.op.operands.toList,∀ v,ev F x=some v->(∀ i∈v.ids,i∉J)/\(aC su ml o=4->v.ids=[]))/\∀ d,o.dst=some d->d∉J
def Toward (J:List Nat) (F:Fr) (o:Oper):Prop:=∃ t x y j off,o.op=.store t x y/\ev F x=some (.box j off)/\j∈J
variable {c:TypeId×List AV}
theorem act_load {t:TypeId} {x:Operand} {d:Nat} (hop:o.op=.load t x) (h:∀ v,ev F x=some v->d∉v.ids):act C F (H.put d c) o=act C F H o:=by
 unfold act;rw[hop]
 dsimp only
 split
 ·rename_i b off i hx hi;have:b≠d:=λe=>h _ hx (by simp[AV.ids,e]);rw[Hp.eE,if_neg this]
 ·rename_i b off i hx hi;have:b≠d:=λe=>h _ hx (by simp[AV.ids,e]);rw[Hp.eE,if_neg this]
 ·rfl
 ·rfl
theorem Qq (h:aC C.SU ml o=1):∃ t x,o.op=.load t x:=by
 unfold aC at h;cases hop:o.op <;> rw[hop] at h <;> simp only at h <;> try (exfalso;revert h;simp;done)
 case load t x=>exact⟨t,x,aa⟩
 case unOp op _ _=>cases op <;> simp at h
 case makeFunc fn _ _=>cases fn <;> simp at h
 case slice t x lo hi mx=>cases mx <;> simp at h
 case buildSlice t n ps=>exfalso;cases hs:C.SU t <;> rw[hs] at h <;> simp at h
 case call c=>
  exfalso;cases hc:c.callee with
  | builtin b=>rw[hc] at h;cases b <;> simp at h
  | value f=>rw[hc] at h;cases hk:LN ml c <;> cases hm:UH ml c <;> simp[hm,hk] at h
  | _=>rw[hc] at h;simp at h
variable {J:List Nat}
theorem away_act {d:Nat} (ha:Ej C.SU ml J F o) (hd:d∈J) (hm:aC C.SU ml o<=2\/aC C.SU ml o=4):stepOf C full F (H.put d c) o=stepOf C full F H o:=by
 refine ir ?_;rcases (by omega:aC C.SU ml o=0\/aC C.SU ml o=1\/aC C.SU ml o=2\/aC C.SU ml o=4) with e|e|e|e
 ·exact jZ (ml:=ml) (.inl e)
 ·obtain⟨t,x,hop⟩:=Qq e;refine act_load hop λv hv hi=> ?_;exact (ha.1 x (by rw[hop];simp[Op.operands]) v hv).1 d hi hd
 ·cases ho:o.dst with
  | none=>exact Du (ml:=ml) (c:=(d,c)) e ho
  | some d'=>exact Hb (ml:=ml) e ho (λe'=>ha.2 d' ho (e'▸hd))
 ·exact jZ (ml:=ml) (.inr e)
theorem DJ (ht:Toward J F o) (hs:uT o=true):stepOf C full F H o=.bad\/∃ j c,j∈J/\stepOf C full F H o=.iA (.val undef) (some (j,c))/\∀ H':Hp,H' j=H j->stepOf C full F H' o=stepOf C full F H o:=by
 obtain⟨t,x,y,j,off,hop,hx,hj⟩:=ht
 have hg:o.guard=none/\o.dst=none:=by
  unfold uT at hs;rw[hop] at hs
  revert hs
  cases o.guard <;> cases o.dst <;> simp
 have hst:∀ H:Hp,stepOf C full F H o=act C F H o:=λH=>by
  unfold stepOf wants oJ;rw[hg.1,hg.2];rfl
 have hac:∀ H:Hp,act C F H o=match ev F y,C.ti t with
  | some v,some i=>(match H j with|some (tb,cs)=>qO i j tb cs off v|none=>.bad)
  | _,_=>.bad:=λH=>by
  unfold act;rw[hop]
  dsimp only
  rw[hx];cases ev F y with
  | none=>rfl
  | some v=>cases C.ti t <;> rfl
 rw[hst,hac];cases hy:ev F y with
 | none=>exact .inl aa
 | some v=>
   cases ht':C.ti t with
   | none=>exact .inl aa
   | some i=>
     dsimp only
     cases hh:H j with
     | none=>exact .inl aa
     | some u=>
       obtain⟨tb,cs⟩:=u
       dsimp only
       rcases Plain.qO i j tb cs off v with e|⟨v',u',e⟩
       ·exact .inl e
       ·obtain⟨_,_,_,rfl,rfl⟩:=GV e;refine .inr ⟨j,_,hj,e,λH' hH=> ?_⟩;rw[hst,hac,hy,ht',hH,hh]
theorem swapL (hC:C.Ok) (hL:Live C F H w) (ha:q.apart full o=true) (hq:Ej C.SU ml J F q) (hqm:aC C.SU ml q<=2\/aC C.SU ml q=4) (ho:Toward J F o) (hs:uT o=true) (h:one C (some ml) full q (one C (some ml) full o k) F H w):one C (some ml) full o (one C (some ml) full q k) F H w:=by
 obtain⟨a1,a2,a3⟩:=Oper.apart_spec ha
 have hod:o.dst=none:=by
  unfold uT at hs
  revert hs
  cases o.op <;> cases o.guard <;> cases o.dst <;> simp
 have hstep:∀ (x:AV) (H':Hp),stepOf C full (F.cw q.dst x) H' o=stepOf C full F H' o:=λx H'=>fO a1;rcases DJ (C:=C) (full:=full) (H:=H) ho hs with hb|⟨j,c,hj,hst,Vk⟩
 ·exfalso;rcases iE (C:=C) (stepOf C full F H q) with hp|⟨Ψp,up,hp⟩|⟨d,hp⟩
  ·unfold one at h;rw[hp] at h;exact h.elim
  ·obtain⟨x,hx,h⟩:=(dH hp).1 h;unfold one at h
   have hu:stepOf C full (F.cw q.dst x) (H.upd up) o=.bad:=by
    rw[hstep];rcases DJ (C:=C) (full:=full) (H:=H.upd up) ho hs with e|⟨j,c,hj,e,hsm⟩
    ·exact e
    ·have:(H.upd up) j=H j:=by
      rcases iG (ml:=ml) hp with e' |e' |⟨e',d,c',hd,e2,h0⟩
      ·rw[e'];rfl
      ·omega
      ·rw[e2];show (H.put d c') j=H j;rw[Hp.eE,if_neg];intro e3;exact hq.2 d hd (e3▸hj)
     rw[<-hsm H this.symm,hb]
   rw[hu] at h;exact h
  ·unfold one at h;rw[hp] at h
   have hl:lvl C.SU (some ml) q=0:=by
    obtain⟨co,_⟩:=jd (ml:=ml) hp;show GR _=0;rcases co with e|e|e <;> first|(rw[e];rfl)|omega
   obtain⟨r,F',H',w2,hH,hF,hv⟩:=dU.some hL h;rw[hH hl,hF ab] at hv;have hv:one C (some ml) full o k (F.cw q.dst r) H w2:=hv;unfold one at hv;rw[hstep,hb] at hv;exact hv
 ·have vO:∀ (k':Fr->Hp->World->Prop) (w':World),one C (some ml) full o k' F H w'↔k' F (H.put j c) w':=λk' w'=>by
   unfold one;rw[hst,hod];rfl
  have hone':∀ (x:AV) (H':Hp) (w':World),H' j=H j->one C (some ml) full o k (F.cw q.dst x) H' w'->k (F.cw q.dst x) (H'.put j c) w':=λx H' w' hH hv=>by
   unfold one at hv;rw[hstep,Vk H' hH,hst,hod] at hv;exact hv
  rw[vO];have hqs:stepOf C full F (H.put j c) q=stepOf C full F H q:=away_act hq hj hqm;rcases iE (C:=C) (stepOf C full F H q) with hp|⟨Ψp,up,hp⟩|⟨d,hp⟩
  ·unfold one at h;rw[hp] at h;exact h.elim
  ·obtain⟨x,hx,h⟩:=(dH hp).1 h;refine (dH (by rw[hqs];exact hp)).2 ⟨x,hx,?_⟩;rcases iG (ml:=ml) hp with e' |e' |⟨e',d,c',hd,e2,h0⟩
   ·subst e';exact hone' x H w aa h
   ·omega
   ·subst e2;have hdj:d≠j:=λe3=>hq.2 d hd (e3▸hj)
    have hHj:(H.upd (some (d,c'))) j=H j:=by
     show (H.put d c') j=H j;rw[Hp.eE,if_neg (λe=>hdj e.symm)]
    have:=hone' x (H.upd (some (d,c'))) w hHj h
    have hcomm:(H.upd (some (d,c'))).put j c=(H.put j c).upd (some (d,c')):=by
     funext z
     show ((H.put d c').put j c) z=((H.put j c).put d c') z;simp only[Hp.eE];by_cases h1:z=j
     ·subst h1;rw[if_pos rfl,if_neg (λe=>hdj e.symm)];exact (if_pos aa).symm
     ·rw[if_neg h1];by_cases h2:z=d
      ·rw[if_pos h2,if_pos h2]
      ·rw[if_neg h2,if_neg h2,if_neg h1]
    rw[hcomm] at this;exact this
  ·have hm4:aC C.SU ml q=4:=by
    obtain⟨co,_⟩:=jd (ml:=ml) hp;omega
   have hl:lvl C.SU (some ml) q=0:=by show GR _=0;rw[hm4];rfl
   have ZJ:d.ids=[]:=by
    rcases qS hp with e|e|e
    ·cases e
    ·cases e
    ·classical
     obtain⟨H0,hH0⟩:∃ H0:Hp,H0=λ_=>none:=⟨_,aa⟩;obtain⟨F',hF'⟩:∃ F':Fr,F'=λt=>if Operand.tmp t∈q.op.operands.toList then F t else none:=⟨_,aa⟩
     have e2:act C F' H0 q=act C F H0 q:=KA (λy hy=>AR λt ht=>by rw[hF'];exact if_pos (ht▸hy));have e1:act C F' H0 q=.call d:=e2.trans ((jZ (ml:=ml) (H:=H) (.inr hm4)).trans e)
     have jG:lU F' H0:=λt v hv i hi=>by
      rw[hF'] at hv
      dsimp only at hv
      split at hv
      ·rename_i hm;rw[(hq.1 _ hm v hv).2 hm4] at hi;cases hi
      ·cases hv
     rw[CS];intro i hi;exact Ds jG e1 i hi (by rw[hH0])
   unfold one at h ⊢;rw[hqs,hp];rw[hp] at h;rw[hl] at h ⊢
   have h1:dU C 0 F H d w λr _ _ w2=>k (F.cw q.dst r) (H.put j c) w2:=dU.mono hL h λr F' H' w2 _ _ hH hF hv=>by
    rw[hH rfl,hF ab] at hv;exact hone' r H w2 aa hv
   have h2:=dU.heap (H':=H.put j c) (F:=F) (j:=λr w2=>k (F.cw q.dst r) (H.put j c) w2) (λi hi=>by
    exfalso
    have:∀ {i:Nat},¬ Reach H [] i:=λ{i} hr=>by
     induction hr with
     | base hi=>cases hi
     | step _ _ _ ih=>exact ih
    rw[ZJ] at hi;exact this hi) h1
   have hL2:Live C F (H.put j c) w:=by
    have:=nZ hC hL (Ψ:=λx=>x=.val undef) (u:=some (j,c)) (by rw[hst];rfl) (x:=.val undef) aa;rw[hod] at this;exact this
   refine dU.mono hL2 h2 λr F' H' w2 _ _ hH hF hv=> ?_;rw[hH rfl,hF ab];exact hv
variable {k':Fr->Hp->World->Prop}
theorem Xr (hC:C.Ok) (hL:Live C F H w) (h5:aC C.SU ml p≠5) (h:one C (some ml) full p k F H w) (hk:∀ x H' w',Live C (F.cw p.dst x) H' w'->k (F.cw p.dst x) H' w'->k' (F.cw p.dst x) H' w'):one C (some ml) full p k' F H w:=by
 rcases iE (C:=C) (stepOf C full F H p) with hp|⟨Ψp,up,hp⟩|⟨d,hp⟩
 ·unfold one at h;rw[hp] at h;exact h.elim
 ·obtain⟨x,hx,h⟩:=(dH hp).1 h;exact (dH hp).2 ⟨x,hx,hk _ _ _ (nZ hC hL hp hx) h⟩
 ·have hb:stepOf C full F H p≠.bad:=λe=>by rw[e] at hp;cases hp
  have hd:=(lW hb).1
  have hl:lvl C.SU (some ml) p<=1:=by
   obtain⟨co,_⟩:=jd (ml:=ml) hp;show GR _<=1;rcases co with e|e|e
   ·rw[e];decide
   ·rw[e];decide
   ·exact absurd e h5
  unfold one at h ⊢;rw[hp] at h ⊢;refine dU.mono hL h λr F' H' w2 hL2 OS _ hF hv=> ?_;have e:=hF hl;subst e;refine hk _ _ _ ?_ hv;obtain⟨β,a,w1,hr,Hd⟩:=hL2.rel;exact Live.of (hr.put hd OS) Hd
theorem Xs (hC:C.Ok) (hL:Live C F H w) (h5:aC C.SU ml p≠5) (h:one C (some ml) full p k F H w):∃ x H' w',k (F.cw p.dst x) H' w':=by
 rcases iE (C:=C) (stepOf C full F H p) with hp|⟨Ψp,up,hp⟩|⟨d,hp⟩
 ·unfold one at h;rw[hp] at h;exact h.elim
 ·obtain⟨x,hx,h⟩:=(dH hp).1 h;exact⟨_,_,_,h⟩
 ·have hl:lvl C.SU (some ml) p<=1:=by
   obtain⟨co,_⟩:=jd (ml:=ml) hp;show GR _<=1;rcases co with e|e|e
   ·rw[e];decide
   ·rw[e];decide
   ·exact absurd e h5
  unfold one at h;rw[hp] at h;obtain⟨r,F',H',w2,_,hF,hv⟩:=dU.some hL h;have e:=hF hl;subst e;exact⟨_,_,_,hv⟩
def yW (C:Cx) (ml:List FuncId) (B S J:List Nat) (j:Nat) (o:Oper) (F:Fr):Prop:=(B.contains j=true->Ej C.SU ml J F o)/\(S.contains j=true->Toward J F o)
variable {x:AV} {d:Option Nat}
theorem Ej.tw (h:∀ n,d=some n->n∉o.looksAt full) (ha:Ej C.SU ml J (F.cw d x) o\/Ej C.SU ml J F o):Ej C.SU ml J F o/\Ej C.SU ml J (F.cw d x) o:=by
 have key:∀ y∈o.op.operands.toList,ev (F.cw d x) y=ev F y:=λy hy=>AR λt ht=>qR λn hn e=>h n hn (e▸oh hy ht);rcases ha with ha|ha
 ·exact⟨⟨λy hy v hv=>ha.1 y hy v ((key y hy).trans hv),ha.2⟩,ha⟩
 ·exact⟨ha,⟨λy hy v hv=>ha.1 y hy v ((key y hy).symm.trans hv),ha.2⟩⟩
theorem Toward.tw (h:∀ n,d=some n->n∉o.looksAt full) (ha:Toward J (F.cw d x) o\/Toward J F o):Toward J F o/\Toward J (F.cw d x) o:=by
 have key:∀ y∈o.op.operands.toList,ev (F.cw d x) y=ev F y:=λy hy=>AR λt ht=>qR λn hn e=>h n hn (e▸oh hy ht);rcases ha with ⟨t,x',y,j,off,hop,hx,hj⟩|⟨t,x',y,j,off,hop,hx,hj⟩
 ·exact⟨⟨t,x',y,j,off,hop,(key x' (by rw[hop];simp[Op.operands])).symm.trans hx,hj⟩,⟨t,x',y,j,off,hop,hx,hj⟩⟩
 ·exact⟨⟨t,x',y,j,off,hop,hx,hj⟩,⟨t,x',y,j,off,hop,(key x' (by rw[hop];simp[Op.operands])).trans hx,hj⟩⟩
variable {B S:List Nat} {j:Nat}
theorem yW.tw (h:∀ n,d=some n->n∉o.looksAt full):yW C ml B S J j o (F.cw d x)↔yW C ml B S J j o F:=
 ⟨λg=>⟨λe=>(Ej.tw h (.inl (g.1 e))).1,λe=>(Toward.tw h (.inl (g.2 e))).1⟩,λg=>⟨λe=>(Ej.tw h (.inr (g.1 e))).2,λe=>(Toward.tw h (.inr (g.2 e))).2⟩⟩
def oo (C:Cx) (ml:List FuncId) (full:Array Oper) (B S J:List Nat):List Nat->(Fr->Hp->World->Prop)->Fr->Hp->World->Prop
 | [],K,F,H,w=>K F H w
 | j::r,K,F,H,w=>match full[j]? with
   | some o=>yW C ml B S J j o F/\one C (some ml) full o (oo C ml full B S J r K) F H w
   | none=>False
variable {K:Fr->Hp->World->Prop} {r:List Nat}
theorem qX (ho:full[j]? =some o):oo C ml full B S J (j::r) K F H w↔yW C ml B S J j o F/\one C (some ml) full o (oo C ml full B S J r K) F H w:=by
 conv=>lhs;unfold oo
 rw[ho]
structure Fits (su:TypeId->Bool) (ml:List FuncId) (full:Array Oper) (B S:List Nat) (i j:Nat) (p o:Oper):Prop where
 ap:p.apart full o=true
 ok:indep su ml full p o=true\/(B.contains i=true/\S.contains j=true)
 p5:aC su ml p≠5
 o5:aC su ml o≠5
 pB:B.contains i=true->aC su ml p<=2\/aC su ml p=4
 oS:S.contains j=true->uT o=true
theorem Vl (hC:C.Ok) {B S J:List Nat} {K:Fr->Hp->World->Prop} {i:Nat} {post:List Nat} (ho:full[i]? =some o):∀ (pre:List Nat) (F:Fr) (H:Hp) (w:World),(∀ j∈pre,∃ q,full[j]? =some q/\Fits C.SU ml full B S j i q o)->Live C F H w->oo C ml full B S J (pre++i::post) K F H w->oo C ml full B S J (i::(pre++post)) K F H w
 | [],F,H,w,_,_,h=>h
 | j::r,F,H,w,hi,hL,h=>by
   obtain⟨q,hq,hf⟩:=hi j bN;obtain⟨a1,a2,a3⟩:=Oper.apart_spec hf.ap;obtain⟨hs,h⟩:=(qX (r:=r++i::post) hq).1 h
   have h1:one C (some ml) full q (λF' H' w'=>yW C ml B S J i o F'/\one C (some ml) full o (oo C ml full B S J (r++post) K) F' H' w') F H w:=
    tD hC hL h λF' H' w' hL' hv=>(qX ho).1 (Vl hC ho r F' H' w' (λq' hq'=>hi q' (by simp[hq'])) hL' hv)
   obtain⟨x,H',w',hx,_⟩:=Xs hC hL hf.p5 h1;have ho':yW C ml B S J i o F:=(yW.tw a1).1 hx;have h2:one C (some ml) full q (one C (some ml) full o (oo C ml full B S J (r++post) K)) F H w:=tD hC hL h1 λF' H' w' _ hv=>hv.2;refine (qX ho).2 ⟨ho',?_⟩
   have h3:one C (some ml) full o (one C (some ml) full q (oo C ml full B S J (r++post) K)) F H w:=by
    rcases hf.ok with e|⟨e1,e2⟩
    ·exact swap hC hL e h2
    ·exact swapL hC hL hf.ap (hs.1 e1) (hf.pB e1) (ho'.2 e2) (hf.oS e2) h2
   exact Xr hC hL hf.o5 h3 λx H' w' _ hv=>(qX (r:=r++post) hq).2 ⟨(yW.tw a3).2 hs,hv⟩
theorem SW (hC:C.Ok) (oc:SV C.SU ml full B S=true) (hQ:∀ β F H w a w',K F H w->Rel C β F H a w'->bQ C.K w w'->Q .normal a w'):
  ∀ (fuel:Nat) (listed:Array Bool) (rem:List Nat) (β:Nat->Nat) (F:Fr) (H:Hp) (w:World) (a:Act) (w':World),listed.size=full.size->rem.Pairwise (·< ·)->(∀ x,x∈rem↔x<full.size/\listed.getD x true=false)->rem.length<=fuel->
    (∀ j,j<full.size->listed.getD j true=true->∀ d∈eb full j,listed.getD d false=true)->
    oo C ml full B S J rem K F H w->Rel C β F H a w'->bQ C.K w w'->wpAny C.P .any full Q fuel listed a w':=by
 unfold SV at oc;simp only[Bool.and_eq_true] at oc;obtain⟨hp0,h5,hB,hS⟩:=oc
 have gS:∀ j,j<full.size->∀ d∈eb full j,d<j:=λj hj d hd=>by
  have:=bR.1 hp0 j (qG.2 hj);rw[gf] at this;exact bM (bR.1 this.1 d hd)
 have UM:∀ i j,i<j->j<full.size->Bl C.SU ml full B S i j=true:=λi j hij hj=>by
  have:=bR.1 hp0 j (qG.2 hj);rw[gf] at this;exact bR.1 this.2 i (qG.2 hij)
 have hne5:∀ {i:Nat} {o:Oper},full[i]? =some o->aC C.SU ml o≠5:=λ{i o} ho e=>by
  have:=bR.1 h5 o (cX (by simpa using ho));rw[e] at this;exact absurd this bq
 have hBm:∀ {i:Nat} {o:Oper},full[i]? =some o->B.contains i=true->aC C.SU ml o<=2\/aC C.SU ml o=4:=λ{i o} ho hb=>by
  have:=bR.1 hB i (by simpa using hb);rw[ho] at this
  dsimp only at this
  rw[JR] at this;exact this.imp bM qC
 have hSm:∀ {i:Nat} {o:Oper},full[i]? =some o->S.contains i=true->uT o=true:=λ{i o} ho hb=>by
  have:=bR.1 hS i (by simpa using hb);rw[ho] at this;exact this
 intro fuel
 induction fuel with
 | zero=>
   intro listed rem β F H w a w' hsz hpw zn hlen kX h hr hk;have h0:rem=[]:=js ab;subst h0;refine⟨?_,hQ β F H w a w' h hr hk⟩;rw[CS];intro i hi;have:=mem_ready.1 hi;exact absurd ((zn i).2 ⟨this.1,this.2.1⟩) bN
 | succ fuel ih=>
   intro listed rem β F H w a w' hsz hpw zn hlen kX h hr hk;constructor
   ·intro wZ;cases rem with
    | nil=>exact hQ β F H w a w' h hr hk
    | cons i r=>
      exfalso;have hi:=(zn i).1 bN
      have:i∈Region.ready .any full listed:=mem_ready.2 ⟨hi.1,hi.2,λd hd=>by
       have hdi:=gS i hi.1 d hd;cases hl:listed.getD d true with
       | true=>
         rw[gl] at hl ⊢;have:d<listed.size:=ab;rw[mH this] at hl ⊢;exact hl
       | false=>
         have hm:=(zn d).2 ⟨ab,hl⟩;rcases dW.1 hm with e|e
         ·omega
         ·have:=(JM.1 hpw).1 d e;omega⟩
      rw[wZ] at this;cases this
   ·intro i hi;obtain⟨mA,AW,Dv⟩:=mem_ready.1 hi;obtain⟨pre,post,rfl⟩:=Gf ((zn i).2 ⟨mA,AW⟩);have ho:=mH mA;generalize full[i]=o at ho;have gP:=JJ.1 hpw;have hlt:∀ p∈pre,p<i:=λp hp=>gP.2.2 p hp i bN;have WT:∀ p∈post,i<p:=(JM.1 gP.2.1).1
    have hb:oo C ml full B S J (i::(pre++post)) K F H w:=by
     refine Vl hC ho _ F H w (λp hp=> ?_) (Live.of hr hk) h;have nw:=(zn p).1 (by simp[hp]);have KE:=hlt p hp;have Dw:=mH nw.1;generalize full[p]=q at Dw
     have hno:listed.getD p false=false:=by
      have h1:=nw.2;have:p<listed.size:=ab;rw[gl] at h1 ⊢;rw[mH this] at h1 ⊢;exact h1
     refine⟨q,Dw,?_,?_,hne5 Dw,hne5 ho,hBm Dw,hSm ho⟩
     ·have:=UM p i KE mA;unfold Bl mW at this;rw[Dw,ho] at this;simp only[Bool.or_eq_true,Bool.and_eq_true] at this;rcases this with (e|e)|e
      ·unfold indep at e;rw[gf] at e;exact e.1
      ·have:=kK gS kX hsz full.size i mA Dv e;rw[hno] at this;cases this
      ·exact e.2.2
     ·have:=UM p i KE mA;unfold Bl mW at this;rw[Dw,ho] at this;simp only[Bool.or_eq_true,Bool.and_eq_true] at this;rcases this with (e|e)|e
      ·exact .inl e
      ·have:=kK gS kX hsz full.size i mA Dv e;rw[hno] at this;cases this
      ·exact .inr ⟨e.1,e.2.1⟩
    have vO:one C (some ml) full o (oo C ml full B S J (pre++post) K) F H w:=((qX ho).1 hb).2
    have:=mj (Q:=Q) (next:=wpAny C.P .any full Q fuel (listed.setIfInBounds i true)) hC vO hr hk λdA F' H' w1 a' xM h1 h2 h3=>by
     refine ih (listed.setIfInBounds i true) (pre++post) dA F' H' w1 a' xM (by simp[hsz]) ?_ ?_ ?_ ?_ h1 h2 h3
     ·exact JJ.2 ⟨gP.1,(JM.1 gP.2.1).2,λx hx y hy=>gP.2.2 x hx y (by simp[hy])⟩
     ·intro x;by_cases hx:x=i
      ·subst hx;constructor
       ·intro hm;rcases gg.1 hm with e|e
        ·exact absurd (hlt _ e) ab
        ·exact absurd (WT _ e) ab
       ·rintro⟨_,e⟩;simp[Array.getD_eq_getD_getElem?,Array.getElem?_setIfInBounds,hsz,mA] at e
      ·have e1:(listed.setIfInBounds i true).getD x true=listed.getD x true:=by
        rw[gl,zY,if_neg (λe=>hx e.symm),<-gl]
       rw[e1,<-zn x];simp[hx]
     ·have:(pre++i::post).length=(pre++post).length+1:=by simp;omega
      omega
     ·intro j hj hl d hd
      have mD:listed.getD d false=true->(listed.setIfInBounds i true).getD d false=true:=λe=>by
       by_cases hx:d=i
       ·subst hx;simp[Array.getD_eq_getD_getElem?,Array.getElem?_setIfInBounds,hsz,mA]
       ·rw[gl,zY,if_neg (λe=>hx e.symm),<-gl];exact e
      by_cases hx:j=i
      ·subst hx;exact mD (Dv d hd)
      ·refine mD (kX j hj ?_ d hd)
       rwa [gl,zY,if_neg (λe=>hx e.symm),<-gl] at hl
    unfold wpOp;rw[ho];simp only
    split
    ·rename_i hw;rw[if_pos hw] at this;exact .inl this
    ·rename_i hw;rw[if_neg hw] at this;exact this
theorem one_imp (h:one C (some ml) full o k F H w) (hk:∀ F' H' w',k F' H' w'->k' F' H' w'):one C (some ml) full o k' F H w:=by
 unfold one at h ⊢
 split
 ·rename_i e;rw[e] at h;exact hk _ _ _ h
 ·rename_i e;rw[e] at h;obtain⟨cs,h1,h2,h3⟩:=h;exact⟨cs,h1,h2,hk _ _ _ h3⟩
 ·rename_i e;rw[e] at h;obtain⟨vs,h1,h2,h3⟩:=h;exact⟨vs,h1,h2,hk _ _ _ h3⟩
 ·rename_i e;rw[e] at h;exact⟨h.1,hk _ _ _ h.2⟩
 ·rename_i e;rw[e] at h;intro w1 β h1 h2 h3;refine (h w1 β h1 h2 h3).mono ?_;rintro e w2 ⟨dA,r,del,ups,he,OS,Jh,Ny,hch,hv⟩;exact⟨dA,r,del,ups,he,OS,Jh,Ny,hch,λa b c ρ iI=>hk _ _ _ (hv a b c ρ iI)⟩
 ·rename_i e;rw[e] at h;exact h
theorem oo.chunk {B S J:List Nat} {K:Fr->Hp->World->Prop} {l2:List Nat}:∀ (l1:List Nat) {F:Fr} {H:Hp} {w:World},(l1.all λj=>(!B.contains j && !S.contains j) && (full[j]?).isSome)=true->aG C (some ml) full (l1.filterMap (full[·]?)) (oo C ml full B S J l2 K) F H w->oo C ml full B S J (l1++l2) K F H w
 | [],F,H,w,_,h=>h
 | j::r,F,H,w,h0,h=>by
   rw[lz,gf,gf,gf,Bool.not_eq_true',Bool.not_eq_true'] at h0;cases ho:full[j]? with
   | none=>rw[ho] at h0;exact absurd h0.1.2 bN
   | some o=>
     rw[Ub ho] at h;exact (qX (r:=r++l2) ho).2 ⟨⟨λe=>(by rw[h0.1.1.1] at e;cases e),λe=>(by rw[h0.1.1.2] at e;cases e)⟩,one_imp h λF' H' w' hv=>oo.chunk r h0.2 hv⟩
theorem oo.one (ho:full[j]? =some o) (hs:yW C ml B S J j o F) (h:aG C (some ml) full [o] (oo C ml full B S J r K) F H w):oo C ml full B S J (j::r) K F H w:=(qX ho).2 ⟨hs,h⟩
theorem VS.drawL {k:List It} (hC:C.Ok) (hm:C.P.follows .mixedOrders=true) {id:Nat} {ops:Array Oper} (ml:List FuncId) (B S J:List Nat) (oc:SV C.SU ml ops B S=true) (h:oo C ml ops B S J (List.range ops.size) (VS C Q k) F H w):VS C Q (.code (.region id ops true)::k) F H w:=λβ a w' hr hk=>by
 refine wp_region_any hm ?_;refine SW (K:=VS C Q k) hC oc (λβ F H w a w' h hr hk=>h β a w' hr hk) ops.size (Array.replicate ops.size false) (List.range ops.size) β F H w a w'.drew bN List.pairwise_lt_range ?_ bN ?_ h hr.drew hk.drew
 ·intro x;rw[qG];constructor
  ·intro hx;refine⟨hx,?_⟩;simp[Array.getD_eq_getD_getElem?,Array.getElem?_replicate,hx]
  ·exact λh=>h.1
 ·intro j hj hl;simp[Array.getD_eq_getD_getElem?,Array.getElem?_replicate,hj] at hl
end
variable {F:Fr} {ml:List FuncId} {J:List Nat} {su:TypeId->Bool}
theorem away_of {o:Oper} (h:(o.op.operands.toList.all λx=>match ev F x with|some v=>v.ids.isEmpty|none=>true)=true) (hd:(match o.dst with|some d=> !J.contains d|none=>true)=true):Ej su ml J F o:=by
 refine⟨λx hx v hv=> ?_,λd ZE=> ?_⟩
 ·have:=bR.1 h x hx;rw[hv] at this;have he:v.ids=[]:=List.isEmpty_iff.1 this;exact⟨λi hi=>by (rw[he] at hi;cases hi),λ_=>he⟩
 ·rw[ZE] at hd;intro hm
  dsimp only at hd
  rw[show J.contains d=true from YN hm] at hd;cases hd
theorem away_of' {o:Oper} (h:(o.op.operands.toList.all λx=>match ev F x with|some v=>v.ids.all λi=> !J.contains i|none=>true)=true) (h4:Nat.beq (aC su ml o) 4=false) (hd:(match o.dst with|some d=> !J.contains d|none=>true)=true):Ej su ml J F o:=by
 refine⟨λx hx v hv=> ?_,λd ZE=> ?_⟩
 ·have:=bR.1 h x hx;rw[hv] at this;refine⟨λi hi hm=> ?_,λe=>by (rw[e] at h4;cases h4)⟩;have h2:=bR.1 this i hi;rw[show J.contains i=true from YN hm] at h2;cases h2
 ·rw[ZE] at hd;intro hm
  dsimp only at hd
  rw[show J.contains d=true from YN hm] at hd;cases hd
section
variable {C:Cx} {ml:List FuncId} {full:Array Oper} {B S J:List Nat} {K:Fr->Hp->World->Prop} {F:Fr} {H:Hp} {w:World} {j:Nat} {r:List Nat} {o:Oper}
theorem oo.b (ho:full[j]? =some o) (h1:(o.op.operands.toList.all λx=>match ev F x with|some v=>v.ids.isEmpty|none=>true)=true) (h2:(match o.dst with|some d=> !J.contains d|none=>true)=true) (h3:S.contains j=false) (h:aG C (some ml) full [o] (oo C ml full B S J r K) F H w):oo C ml full B S J (j::r) K F H w:=
 oo.one ho ⟨λ_=>away_of h1 h2,λe=>by (rw[h3] at e;cases e)⟩ h
theorem oo.l (ho:full[j]? =some o) (h1:(o.op.operands.toList.all λx=>match ev F x with|some v=>v.ids.all λi=> !J.contains i|none=>true)=true) (h4:Nat.beq (aC C.SU ml o) 4=false) (h2:(match o.dst with|some d=> !J.contains d|none=>true)=true) (h3:S.contains j=false) (h:aG C (some ml) full [o] (oo C ml full B S J r K) F H w):oo C ml full B S J (j::r) K F H w:=
 oo.one ho ⟨λ_=>away_of' h1 h4 h2,λe=>by (rw[h3] at e;cases e)⟩ h
theorem oo.s (ho:full[j]? =some o) (h1:Toward J F o) (h3:B.contains j=false) (h:aG C (some ml) full [o] (oo C ml full B S J r K) F H w):oo C ml full B S J (j::r) K F H w:=
 oo.one ho ⟨λe=>by (rw[h3] at e;cases e),λ_=>h1⟩ h
end
def tR (o:Oper):Bool:=match o.op with | .defer _=>false|_=>true
def ni (F:Fence):Prop:=F=Fence.wide\/∃ l,F=Fence.wide.inRound l
theorem ni.wide:ni Fence.wide:=.inl rfl
section
variable {Fe:Fence} {n:Nat} {P:Program} {o:Oper} {a:Act} {w:World} {K:Act->World->Prop} {Q:Exit->Act->World->Prop}
theorem ni.fn (h:ni Fe) (f:FuncId):Fe.fn f:=by rcases h with rfl|⟨l,rfl⟩ <;> trivial
theorem ni.depth (h:ni Fe):Fe.depth=none:=by rcases h with rfl|⟨l,rfl⟩ <;> rfl
theorem ni.calls (h:ni Fe) {f:FuncId} {args:Array Value} {R:Ending->World->Prop} (hc:Calls P f args w R):CallsIn Fe n P f args w R:=by
 have:=(callsIn_wide (n:=n)).2 hc;rcases h with rfl|⟨l,rfl⟩
 ·exact this
 ·exact this
theorem ni.rows (h:ni Fe) {r:String} {args:Array Value} {R:Value->World->Prop} (hc:Rows P r args w R):RowsIn Fe n P r args w R:=by
 have:RowsIn Fence.wide n P r args w R:=λc cs _=>let ⟨v,w',r,s⟩:=hc c cs;⟨v,w',r,stepsIn_wide.2 s⟩;rcases h with rfl|⟨l,rfl⟩
 ·exact this
 ·exact this
theorem ni.upon (h:ni Fe) {r:Result Next} (hu:o.upon P a K Q r):o.uponIn Fe n P a K Q r:=by
 have hd:Fe.depth.isSome=true->1<=n:=λe=>by rw[h.depth] at e;cases e
 cases r with
 | ok x w'=>
   cases x with
   | value v=>exact hu
   | skip=>exact hu
   | defer d=>exact hu
   | enter f args=>exact⟨hd,h.calls hu⟩
   | row r args=>exact⟨hd,h.rows hu⟩
   | round l f tmps assign body=>exact hu.elim
   | _=>exact hu.elim
 | halt x w'=>
   cases x with
   | panic v=>exact hu
   | _=>exact hu.elim
theorem ni.sem (h:ni Fe) (hd:tR o=true):o.semAt Fe.round a.eval=execOp a.eval o:=by
 rcases h with rfl|⟨l,rfl⟩
 ·rfl
 ·exact Oper.semAt_some l _ _ λc e=>by unfold tR at hd;rw[e] at hd;cases hd
theorem ni.op (h:ni Fe) (hd:tR o=true) (hw:o.wp P a w K Q):o.wpIn Fe n P a w K Q:=by
 refine⟨λf _=>h.fn f,?_⟩;rw[h.sem hd];exact h.upon hw
end
section
variable {Fe:Fence} {n:Nat} {C:Cx} {Q:Exit->Act->World->Prop} {ml:List FuncId} {full:Array Oper}
theorem DK (hB:ni Fe) (hC:C.Ok) {m:Option (List FuncId)} {K:Fr->Hp->World->Prop} {tl:List Oper} (hQ:∀ β F H w a w',K F H w->Rel C β F H a w'->bQ C.K w w'->wpListIn Fe n C.P full Q tl a w'):
  ∀ (l:List Oper),l.all tR=true->∀ (β:Nat->Nat) (F:Fr) (H:Hp) (w:World) (a:Act) (w':World),aG C m full l K F H w->Rel C β F H a w'->bQ C.K w w'->wpListIn Fe n C.P full Q (l++tl) a w'
 | [],_,β,F,H,w,a,w',h,hr,hk=>hQ β F H w a w' h hr hk
 | o::r,hd,β,F,H,w,a,w',h,hr,hk=>by
   rw[lz,gf] at hd;show wpListIn Fe n C.P full Q (o::(r++tl)) a w';refine wpListIn_step λK' hK'=> ?_;have:=mj hC (next:=K') (Q:=Q) (k:=aG C m full r K) h hr hk λdA F' H' w1 a' xM h1 h2 h3=>hK' _ _ (DK hB hC hQ r hd.2 dA F' H' w1 a' xM h1 h2 h3)
   split at this
   ·rename_i hw;rw[if_pos hw];exact hB.op hd.1 this
   ·rename_i hw;rw[if_neg hw];exact⟨λf _=>hB.fn f,this⟩
end
section
variable {Fe:Fence} {C:Cx} {Q:Exit->Act->World->Prop} {k:List It} {F F':Fr} {H H':Hp} {w:World} {id:Nat} {ops:Array Oper} {l':List Oper}
end
def Fr.vals (L:List (Nat×Value)):Fr:=Fr.of (L.map λp=>(p.1,.val p.2))
def Qr (F:Fr):List (Nat×Value)->Prop
 | []=>True
 | p::r=>F p.1=some (.val p.2)/\Qr F r
theorem Qr.mem {F:Fr}:∀ {L:List (Nat×Value)} {p:Nat×Value},Qr F L->p∈L->F p.1=some (.val p.2)
 | q::r,p,h,hm=>by
   rcases dW.1 hm with rfl|hm
   ·exact h.1
   ·exact Qr.mem h.2 hm
variable {L:List (Nat×Value)}
theorem Ib {d:Nat} {v:AV} (h:Fr.vals L d=some v):∃ u,v=.val u/\(d,u)∈L:=by
 have:=Fr.kc h;obtain⟨p,hp,e⟩:=fv.1 this;cases e;exact⟨p.2,aa,hp⟩
structure Knows (N:Nat) (L:List (Nat×Value)) (a:Act):Prop where
 defers:a.defers=[]
 size:a.tmps.size=N
 tmp:∀ p∈L,p.1<N/\a.tmps.getD p.1 undef=p.2
variable {C:Cx} {w:World}
theorem Knows.rel {a:Act} (h:Knows C.N L a) (ho:C.Old w):Rel C (λ_=>0) (Fr.vals L) (λ_=>none) a w:=
 ⟨h.defers,h.size,λd v hd=>by obtain⟨u,rfl,hm⟩:=Ib hd;exact (h.tmp _ hm).2,λi t cs hi=>(by cases hi),λi j hi=>absurd aa hi,λd v hd i hi=>(by obtain⟨u,rfl,hm⟩:=Ib hd;cases hi),λd v hd=>(by obtain⟨u,rfl,hm⟩:=Ib hd;exact (h.tmp _ hm).1),⟨λi t cs hi=>(by cases hi),λi t cs hi=>(by cases hi),λi hi=>aa⟩,ho⟩
theorem Rel.knows {β:Nat->Nat} {F:Fr} {H:Hp} {a:Act} (hr:Rel C β F H a w) (hL:Qr F L):Knows C.N L a:=
 ⟨hr.defers,hr.size,λp hp=>⟨hr.fits _ _ (hL.mem hp),hr.tmp _ _ (hL.mem hp)⟩⟩
def HeldR (N:Nat) (J:Nat->List (Nat×Value)->World->Prop) (n:Nat) (a:Act) (w:World):Prop:=∃ L,J n L w/\Knows N L a
section
variable {C:Cx} {Q:Exit->Act->World->Prop} {k:List It} {F:Fr} {H:Hp} {w:World} {J:Nat->List (Nat×Value)->World->Prop}
theorem VS.loopR (D:World->Cx) (hP:∀ w,(D w).P=C.P) (hN:∀ w,(D w).N=C.N) (hO:∀ w,(D w).Old w) (n0:Nat) {body:Code} (h0:∀ w',bQ C.K w w'->C.Old w'->∃ L,Qr F L/\J n0 L w')
  (round:∀ n L W,J n L W->VS (D W) Q (.code body::.back (λa w=>∃ m,m<n/\HeldR C.N J m a w)::k) (Fr.vals L) (λ_=>none) W):VS C Q (.code (.loop body)::k) F H w:=λβ a w' hr hk=>by
 obtain⟨L,h1,h2⟩:=h0 w' hk hr.old;refine wp_loop_ghost (HeldR C.N J) n0 ⟨L,h2,hr.knows h1⟩ ?_;rintro n a1 w1 ⟨L1,hJ,ux⟩;have hkn':Knows (D w1).N L1 a1:=by rw[hN];exact ux
 have:=round n L1 w1 hJ _ a1 w1 (hkn'.rel (hO w1)) (bQ.refl _ _);rw[hP] at this;exact this
theorem VS.Vm {n N:Nat} (hN:C.N=N) (m:Nat) (hm:m<n) (L:List (Nat×Value)) (hL:Qr F L) (h:∀ w',bQ C.K w w'->C.Old w'->J m L w'):VS C Q (.back (λa w=>∃ m,m<n/\HeldR N J m a w)::k) F H w:=λβ a w' hr hk=>by
 subst hN;exact⟨m,hm,L,h w' hk hr.old,hr.knows hL⟩
theorem VS.rE (hC:C.Ok) {fn:Func} {R:Ending->World->Prop} {vs:List AV} (h:vH C F H fn.results.toList=some vs) (hR:∀ w' β,bQ C.K w w'->C.Old w'->Ends C β H w'->R (.returned (lN (vs.map (AV.bU β)))) w'):VS C (bodyPost C.P fn R) [] F H w:=
 λβ a w' hr hk=>⟨hr.defers,_,Dx hC hr h,hR w' β hk hr.old ⟨hr.own,hr.apart⟩⟩
end
section
variable {C:Cx} {F:Fr} {H:Hp} {w:World} {Q:Exit->Act->World->Prop} {k:List It}
end
theorem wi.bI {w w1 W:World} {ad:List Nat} (h:aU w w1) (k:wi ad w1 W) (hg:∀ g∈ad,w.heap.size<=g):aU w W:=
 Below.trans h ⟨k.os,k.tape,k.output,k.size,λg Ws=>k.pk g (ox Ws h.size) λhm=>by have:=hg g hm;omega⟩
abbrev Vq:=Nat×Rat
abbrev Uq:=Nat×Nat×Rat
def ai (a b:Rat):Rat:=if b<a then b else a
theorem gK (a b:Rat):gp lI a [b]=ai a b:=by
 show (if lI b a=true then b else a)=_;unfold ai;by_cases h:b<a
 ·rw[if_pos (KY.2 h),if_pos h]
 ·rw[if_neg (λe=>h (KY.1 e)),if_neg h]
theorem eh (a b:Rat):ai a b<=a:=by unfold ai;split <;> grind
theorem dM (a b:Rat):ai a b<=b:=by unfold ai;split <;> grind
theorem dJ (a b:Rat):(ai a b=a/\a<=b)\/(ai a b=b/\b<a):=by unfold ai;split <;> grind
structure bh where
 aX:Rat
 allowed:Rat
 az:Rat
 used:Rat
 ao:Rat
 aq:Rat
 closing:Rat
deriving DecidableEq
def wj (y:Nat):List Vq->Rat->List Uq
 | [],_=>[]
 | p::q,m=>if 0<m then (p.1,y,ai p.2 m)::(if p.2-ai p.2 m=0 then wj y q (m-ai p.2 m) else []) else []
def sw:List Vq->Rat->List Vq
 | [],_=>[]
 | p::q,m=>if 0<m then (if p.2-ai p.2 m=0 then sw q (m-ai p.2 m) else (p.1,p.2-ai p.2 m)::q) else p::q
def zV:List Vq->Rat->Rat
 | [],_=>0
 | p::q,m=>if 0<m then ai p.2 m+(if p.2-ai p.2 m=0 then zV q (m-ai p.2 m) else 0) else 0
variable {m:Rat}
theorem lJ (y:Nat) (q:List Vq) (h:¬ 0<m):wj y q m=[]:=by cases q with|nil=>rfl|cons p q=>unfold wj;rw[if_neg h]
theorem kh (q:List Vq) (h:¬ 0<m):sw q m=q:=by cases q with|nil=>rfl|cons p q=>unfold sw;rw[if_neg h]
theorem lK (q:List Vq) (h:¬ 0<m):zV q m=0:=by cases q with|nil=>rfl|cons p q=>unfold zV;rw[if_neg h]
theorem cY {P:Prop} (h:P:=by grind):P:=h
variable {y:Nat} {p:Vq}
theorem km {q:List Vq} (hm:0<m) (h:p.2-ai p.2 m≠0):¬ 0<m-ai p.2 m/\wj y (p::q) m=[(p.1,y,ai p.2 m)]/\sw (p::q) m=(p.1,p.2-ai p.2 m)::q/\zV (p::q) m=ai p.2 m:=by
 refine⟨?_,?_,?_,?_⟩
 ·rcases dJ p.2 m with ⟨e,_⟩|⟨e,_⟩
  ·rw[e] at h;exact absurd cY h
  ·rw[e];grind
 ·unfold wj;rw[if_pos hm,if_neg h]
 ·unfold sw;rw[if_pos hm,if_neg h]
 ·unfold zV;rw[if_pos hm,if_neg h];grind
theorem ko {q:List Vq} (hm:0<m) (h:p.2-ai p.2 m=0):wj y (p::q) m=(p.1,y,ai p.2 m)::wj y q (m-ai p.2 m)/\sw (p::q) m=sw q (m-ai p.2 m)/\zV (p::q) m=ai p.2 m+zV q (m-ai p.2 m):=by
 refine⟨?_,?_,?_⟩
 ·conv=>lhs;unfold wj
  rw[if_pos hm,if_pos h]
 ·conv=>lhs;unfold sw
  rw[if_pos hm,if_pos h]
 ·conv=>lhs;unfold zV
  rw[if_pos hm,if_pos h]
structure Qs where
 q:List Vq
 rows:List bh
 uses:List Uq
def aH (S F e:Rat):Rat:=gp jO F [S*e,0]
def gz (S F:Rat) (q:List Vq) (y:Rat×Rat):bh:=
 ⟨aH S F y.2,ai y.1 (aH S F y.2),y.1-ai y.1 (aH S F y.2),zV q (aH S F y.2-ai y.1 (aH S F y.2)),ai y.1 (aH S F y.2)+zV q (aH S F y.2-ai y.1 (aH S F y.2)),0,0⟩
def rF (pz:Nat) (d:Rat) (q:List Vq):List Vq:=if 0<d then q++[(pz,d)] else q
def Bm (keep pz:Nat) (s:Qs):Qs:=match s.q with
 | p::q=>if p.1+keep=pz then ⟨q,s.rows.modify p.1 (λr=>{ r with aq:=p.2 }),s.uses⟩ else s
 | []=>s
def fR (S F:Rat) (keep pz:Nat) (s:Qs) (y:Rat×Rat):Qs:=
 Bm keep pz ⟨rF pz (gz S F s.q y).az (sw s.q (aH S F y.2-ai y.1 (aH S F y.2))),s.rows++[gz S F s.q y],s.uses++wj pz s.q (aH S F y.2-ai y.1 (aH S F y.2))⟩
def kt (S F:Rat) (keep:Nat) (l:List (Rat×Rat)):Qs:=l.foldl (λs y=>fR S F keep s.rows.length s y) ⟨[],[],[]⟩
def fj:List Vq->List bh->List bh
 | [],r=>r
 | p::q,r=>fj q (r.modify p.1 (λx=>{ x with closing:=p.2 }))
def pH (S F:Rat) (keep:Nat) (l:List (Rat×Rat)):List bh×List Uq:=(fj (kt S F keep l).q (kt S F keep l).rows,(kt S F keep l).uses)
def vS (y:Nat):List Vq->Rat->List Uq
 | [],_=>[]
 | p::t,m=>(if 0<ai p.2 m then [(p.1,y,ai p.2 m)] else [])++vS y t (m-ai p.2 m)
def vT:List Vq->Rat->List Vq
 | [],_=>[]
 | p::t,m=>(p.1,p.2-ai p.2 m)::vT t (m-ai p.2 m)
def Cz:List Vq->Rat->Rat
 | [],_=>0
 | p::t,m=>ai p.2 m+Cz t (m-ai p.2 m)
theorem xt (y:Nat) (p:Vq) (t:List Vq) (m:Rat):vS y (p::t) m=(if 0<ai p.2 m then [(p.1,y,ai p.2 m)] else [])++vS y t (m-ai p.2 m):=rfl
theorem xu (p:Vq) (t:List Vq) (m:Rat):vT (p::t) m=(p.1,p.2-ai p.2 m)::vT t (m-ai p.2 m):=rfl
theorem tT (p:Vq) (t:List Vq) (m:Rat):Cz (p::t) m=ai p.2 m+Cz t (m-ai p.2 m):=rfl
def pos (p:Vq):Bool:=decide (0<p.2)
theorem FO (y:Nat):∀ {t:List Vq},(∀ p∈t,0<=p.2)->vS y t 0=[]/\vT t 0=t/\Cz t 0=0
 | [],_=>⟨rfl,rfl,rfl⟩
 | p::t,h=>by
   have hp:=h p bN;have e:ai p.2 0=0:=by unfold ai;split <;> grind
   obtain⟨h1,h2,h3⟩:=FO y (t:=t) λx hx=>h x (by simp[hx]);rw[xt,xu,tT,e,show (0:Rat)-0=0 by grind,h1,h2,h3,show p.2-0=p.2 by grind];refine⟨bN,aa,cY⟩
theorem Ic (y:Nat):∀ {t:List Vq} {m:Rat},(∀ p∈t,0<=p.2)->0<=m->wj y (t.filter pos) m=vS y t m/\sw (t.filter pos) m=(vT t m).filter pos/\zV (t.filter pos) m=Cz t m
 | [],_,_,_=>⟨rfl,rfl,rfl⟩
 | p::t,m,h,hm=>by
   have hp:=h p bN;have ht:∀ x∈t,0<=x.2:=λx hx=>h x (by simp[hx]);by_cases h0:0<p.2
   ·rw[Oi (by simpa [pos] using h0)];by_cases Ie:0<m
    ·have hn:0<ai p.2 m:=by rcases dJ p.2 m with ⟨e,_⟩|⟨e,_⟩ <;> rw[e] <;> assumption
     by_cases hd:p.2-ai p.2 m=0
     ·obtain⟨i1,i2,i3⟩:=Ic y (t:=t) (m:=m-ai p.2 m) ht (by have:=dM p.2 m;grind);obtain⟨r1,r2,r3⟩:=ko (y:=y) (p:=p) (q:=t.filter pos) Ie hd;rw[r1,r2,r3,i1,i2,i3];rw[xt,xu,tT,if_pos hn,JG (by show ¬ decide (0<p.2-ai p.2 m)=true;rw[hd];simp)];exact⟨aa,aa,aa⟩
     ·obtain⟨r0,r1,r2,r3⟩:=km (y:=y) (p:=p) (q:=t.filter pos) Ie hd
      have hz:m-ai p.2 m=0:=by
       rcases dJ p.2 m with ⟨e,_⟩|⟨e,_⟩
       ·rw[e] at hd;exact absurd cY hd
       ·rw[e];grind
      have WT:0<p.2-ai p.2 m:=by have:=eh p.2 m;grind
      obtain⟨z1,z2,z3⟩:=FO y ht;rw[r1,r2,r3];rw[xt,xu,tT,hz,z1,z2,z3,if_pos hn,Oi (by simpa [pos] using WT)];exact⟨aa,aa,cY⟩
    ·have hz:m=0:=by grind
     subst hz;rw[lJ y _ Ie,kh _ Ie,lK _ Ie];obtain⟨z1,z2,z3⟩:=FO y h;rw[z1,z2,z3,Oi (by simpa [pos] using h0)];exact⟨aa,aa,aa⟩
   ·have hz:p.2=0:=by grind
    have e:ai p.2 m=0:=by rw[hz];unfold ai;split <;> grind
    obtain⟨i1,i2,i3⟩:=Ic y (t:=t) ht hm;rw[JG (by simpa [pos] using h0),i1,i2,i3];rw[xt,xu,tT,e,show m-0=m by grind,show p.2-0=p.2 by grind,if_neg cY,JG (by simpa [pos] using h0)];exact⟨aa,aa,cY⟩
theorem FP:∀ (t:List Vq) (m:Rat),(vT t m).length=t.length
 | [],_=>rfl
 | p::t,m=>by unfold vT;rw[fh,fh,FP t]
theorem Ml:∀ {t:List Vq} {m:Rat},∀ p∈vT t m,0<=p.2
 | [],_,p,h=>by cases h
 | x::t,m,p,h=>by
   unfold vT at h;rcases dW.1 h with rfl|h
   ·have:=eh x.2 m;show 0<=x.2-ai x.2 m;grind
   ·exact Ml p h
def cO:Nat->List Rat->List Vq
 | _,[]=>[]
 | k,x::l=>(k,x)::cO (k+1) l
theorem Bn:∀ (k:Nat) (l:List Rat),(cO k l).length=l.length
 | _,[]=>rfl
 | k,x::l=>by show (cO (k+1) l).length+1=_;rw[Bn];rfl
theorem mv:∀ (k:Nat) (l l':List Rat),cO k (l++l')=cO k l++cO (k+l.length) l'
 | k,[],l'=>rfl
 | k,x::l,l'=>by show (k,x)::cO (k+1) (l++l')=_;rw[mv,show k+1+l.length=k+(x::l).length by rw[fh];omega];rfl
theorem xT:∀ (k:Nat) (l:List Rat) (i:Nat),(cO k l)[i]? =(l[i]?).map λx=>(k+i,x)
 | _,[],_=>rfl
 | k,x::l,0=>rfl
 | k,x::l,i+1=>by show (cO (k+1) l)[i]? =(l[i]?).map _;rw[xT,show k+1+i=k+(i+1) by omega]
theorem oQ {k:Nat} {l:List Rat} (h:p∈cO k l):k<=p.1/\p.1<k+l.length/\p.2∈l:=by
 obtain⟨i,hi⟩:=qD.1 h;rw[xT] at hi;cases hx:l[i]? with
 | none=>rw[hx] at hi;cases hi
 | some x=>
   rw[hx] at hi;cases hi;have:=(cQ.1 hx).1;exact⟨Nat.le_add_right _ _,by show k+i<_;omega,cX hx⟩
theorem Vn:∀ (k:Nat) (l:List Rat) (m:Rat),vT (cO k l) m=cO k ((vT (cO k l) m).map (·.2))
 | _,[],_=>rfl
 | k,x::l,m=>by
   exact au (List.cons (k,x-ai x m)) (Vn (k+1) l (m-ai x m))
theorem sA {k:Nat} {l:List Rat} (h:∀ x∈l,x=0):(cO k l).filter pos=[]:=by
 rw[List.filter_eq_nil_iff];intro p hp;have:=h _ (oQ hp).2.2;unfold pos;rw[this];simp
structure Ek where
 left:List Rat
 rows:List bh
 uses:List Uq
def tU (keep pz:Nat) (s:Ek):Ek:=if keep<=pz then ⟨s.left.set (pz -keep) 0,s.rows.modify (pz -keep) (λr=>{ r with aq:=s.left.getD (pz -keep) 0 }),s.uses⟩ else s
def CA (S F:Rat) (t:List Vq) (y:Rat×Rat):bh:=
 ⟨aH S F y.2,ai y.1 (aH S F y.2),y.1-ai y.1 (aH S F y.2),Cz t (aH S F y.2-ai y.1 (aH S F y.2)),ai y.1 (aH S F y.2)+Cz t (aH S F y.2-ai y.1 (aH S F y.2)),0,0⟩
def nj (S F:Rat) (keep pz:Nat) (s:Ek) (y:Rat×Rat):Ek:=
 tU keep pz ⟨(s.left.take (pz -keep)++(vT (cO (pz -keep) (s.left.drop (pz -keep))) (aH S F y.2-ai y.1 (aH S F y.2))).map (·.2))++[y.1-ai y.1 (aH S F y.2)],
  s.rows++[CA S F (cO (pz -keep) (s.left.drop (pz -keep))) y],s.uses++vS pz (cO (pz -keep) (s.left.drop (pz -keep))) (aH S F y.2-ai y.1 (aH S F y.2))⟩
def runT (S F:Rat) (keep:Nat) (l:List (Rat×Rat)):Ek:=l.foldl (λs y=>nj S F keep s.rows.length s y) ⟨[],[],[]⟩
def Mn (S F:Rat) (keep:Nat) (l:List (Rat×Rat)):List bh×List Uq:=(fj (cO 0 (runT S F keep l).left) (runT S F keep l).rows,(runT S F keep l).uses)
structure Both (keep:Nat) (a:Qs) (b:Ek):Prop where
 len:b.left.length=b.rows.length
 rows:a.rows=b.rows
 uses:a.uses=b.uses
 queue:a.q=(cO 0 b.left).filter pos
 nn:∀ x∈b.left,0<=x
 old:∀ (v:Nat) (x:Rat),v+keep<b.rows.length->b.left[v]? =some x->x=0
 exp:∀ (i:Nat) (r:bh),b.rows.length<=i+keep->b.rows[i]? =some r->r.aq=0
 lp:∀ r∈b.rows,r.closing=0
theorem oq (S F e:Rat):0<=aH S F e:=by
 show 0<=(if jO 0 (if jO (S*e) F=true then S*e else F)=true then 0 else (if jO (S*e) F=true then S*e else F));generalize (if jO (S*e) F=true then S*e else F)=o;by_cases h:jO 0 o=true
 ·rw[if_pos h];exact mK
 ·rw[if_neg h];rw[Xm] at h;exact Ak.1 h
variable {i j:Nat} {f:bh->bh}
theorem DL {l:List bh} (h:i=j):(l.modify i f)[j]? =(l[j]?).map f:=by
 subst h;rw[List.getElem?_modify];simp
theorem yX {l:List bh} (h:i≠j):(l.modify i f)[j]? =l[j]? :=by
 rw[List.getElem?_modify];simp[h]
theorem Qt {l:List bh} (h:∀ r,l[i]? =some r->f r=r):l.modify i f=l:=by
 apply Ul;intro j;rw[List.getElem?_modify];by_cases e:i=j
 ·subst e;cases hr:l[i]? with
  | none=>rfl
  | some r=>simp[h r hr]
 ·simp[e]
theorem Xt {S F:Rat} {keep:Nat} {a:Qs} {b:Ek} (h:Both keep a b) (y:Rat×Rat):Both keep (fR S F keep a.rows.length a y) (nj S F keep b.rows.length b y):=by
 obtain⟨h1,h2,h3,h4,h5,h6,h7,h8⟩:=h;obtain⟨n,hn⟩:∃ n,n=b.rows.length:=⟨_,aa⟩;rw[h2,<-hn];unfold fR nj;obtain⟨lo,Lu⟩:∃ lo,lo=n-keep:=⟨_,aa⟩;obtain⟨L,hL⟩:∃ L,L=aH S F y.2:=⟨_,aa⟩;obtain⟨m,hm⟩:∃ m,m=L-ai y.1 L:=⟨_,aa⟩;have Ie:0<=m:=by have:=dM y.1 L;grind
 obtain⟨t,ht⟩:∃ t,t=cO lo (b.left.drop lo):=⟨_,aa⟩;have htn:∀ p∈t,0<=p.2:=λp hp=>by rw[ht] at hp;exact h5 _ (ow (oQ hp).2.2)
 have hz:∀ x∈b.left.take lo,x=0:=λx hx=>by
  obtain⟨v,hv⟩:=qD.1 hx;rw[wq] at hv
  split at hv
  ·exact h6 v x ab hv
  ·cases hv
 have hq:a.q=t.filter pos:=by
  rw[h4,<-qB lo b.left,mv,Gg,sA hz,ma,cM,ht];rcases Nat.le_total lo b.left.length with e|e
  ·rw[ig e,jt]
  ·rw[ly e];rfl
 obtain⟨i1,i2,i3⟩:=Ic n htn Ie;obtain⟨d,hd⟩:∃ d,d=y.1-ai y.1 L:=⟨_,aa⟩;have Rj:0<=d:=by have:=eh y.1 L;grind
 have e1:gz S F a.q y=CA S F t y:=by unfold gz CA;rw[<-hL,<-hm,hq,i3]
 have e2:(CA S F t y).az=d:=by show y.1-ai y.1 (aH S F y.2)=d;rw[<-hL,hd]
 rw[e1,e2,<-Lu,<-hL,<-hm,<-ht,<-hd,hq,i1,i2,h3,h2];obtain⟨lf,hlf⟩:∃ lf,lf=(b.left.take lo++(vT t m).map (·.2))++[d]:=⟨_,aa⟩;have hlen1:(b.left.take lo).length=lo:=by rw[cM];omega
 have hlen:lf.length=n+1:=by
  rw[hlf,bB,bB,hlen1,bu,FP,ht,Bn,rM,wm];omega
 have hlq:rF n d ((vT t m).filter pos)=(cO 0 lf).filter pos:=by
  have:(cO 0 lf).filter pos=(vT t m).filter pos++(if 0<d then [(n,d)] else []):=by
   rw[hlf,mv,Gg,mv,Gg,sA hz,ma,hlen1,jt];rw[show cO lo ((vT t m).map (·.2))=vT t m by rw[ht];exact (Vn lo _ m).symm]
   congr 1
   have Ny:0+(b.left.take lo++(vT t m).map (·.2)).length=n:=by
    have:=hlen;rw[hlf,bB,wm] at this;omega
   rw[Ny];show List.filter pos [(n,d)]=_;by_cases e:0<d
   ·rw[if_pos e];simp[pos,e]
   ·rw[if_neg e];simp[pos,e]
  rw[this];unfold rF
  split
  ·rfl
  ·rw[gA]
 have SA:∀ x∈lf,0<=x:=λx hx=>by
  rw[hlf] at hx;rcases gg.1 hx with hx|hx
  ·rcases gg.1 hx with hx|hx
   ·rw[hz x hx];exact mK
   ·obtain⟨p,hp,rfl⟩:=fv.1 hx;exact Ml p hp
  ·rw[aJ.1 hx];exact Rj
 have hold:∀ (v:Nat) (x:Rat),v+keep<n->lf[v]? =some x->x=0:=λv x hv hx=>by
  rw[hlf,fu,gm (by rw[hlen1];omega)] at hx;exact hz x (cX hx)
 obtain⟨rw',hrw⟩:∃ rw',rw'=b.rows++[CA S F t y]:=⟨_,aa⟩;have uy:rw'.length=n+1:=by rw[hrw,bB,<-hn];rfl
 have hre:∀ (i:Nat) (r:bh),n<=i+keep->rw'[i]? =some r->r.aq=0:=λi r hi hr=>by
  rw[hrw] at hr;by_cases e:i<b.rows.length
  ·rw[gm e] at hr;exact h7 i r ab hr
  ·rw[jT ab] at hr;have:=cX hr;rw[aJ.1 this];rfl
 have SX:∀ r∈rw',r.closing=0:=λr hr=>by
  rw[hrw] at hr;rcases gg.1 hr with hr|hr
  ·exact h8 r hr
  ·rw[aJ.1 hr];rfl
 rw[hlq,<-hrw,<-hlf];unfold tU;by_cases hk:keep<=n
 ·rw[if_pos hk,<-Lu];have hlt:lo<lf.length:=ab;obtain⟨x,hx⟩:∃ x,lf[lo]? =some x:=⟨_,ba hlt⟩;have YQ:lf.getD lo 0=x:=by rw[rJ,hx];rfl
  have my:=SA x (cX hx)
  have Jq:lf=lf.take lo++x::lf.drop (lo+1):=by
   have e:=(cQ.1 hx).2;rw[<-e,<-mG hlt,qB]
  have hzt:∀ z∈lf.take lo,z=0:=λz Ro=>by
   obtain⟨v,hv⟩:=qD.1 Ro;rw[wq] at hv
   split at hv
   ·exact hold v z ab hv
   ·cases hv
  have SY:(lf.take lo).length=lo:=by rw[cM];omega
  have SZ:lf.set lo 0=lf.take lo++0::lf.drop (lo+1):=by rw[YE,if_pos hlt]
  have hf:(cO 0 lf).filter pos=(if 0<x then [(lo,x)] else [])++(cO (lo+1) (lf.drop (lo+1))).filter pos:=by
   conv=>lhs;rw[Jq]
   rw[mv,Gg,sA hzt,ma,SY,jt];show List.filter pos ((lo,x)::cO (lo+1) _)=_;by_cases e:0<x
   ·rw[if_pos e,Oi (by simpa [pos] using e)];rfl
   ·rw[if_neg e,JG (by simpa [pos] using e)];rfl
  have hfs:(cO 0 (lf.set lo 0)).filter pos=(cO (lo+1) (lf.drop (lo+1))).filter pos:=by
   rw[SZ,mv,Gg,sA hzt,ma,SY,jt];show List.filter pos ((lo,(0:Rat))::cO (lo+1) _)=_;rw[JG (by simp[pos])]
  have yO:(rw'.modify lo (λr=>{ r with aq:=x })).length=n+1:=by rw[oy,uy]
  have hres:Bm keep n ⟨(cO 0 lf).filter pos,rw',b.uses++vS n t m⟩=⟨(cO (lo+1) (lf.drop (lo+1))).filter pos,rw'.modify lo (λr=>{ r with aq:=x }),b.uses++vS n t m⟩:=by
   rw[hf];by_cases e:0<x
   ·rw[if_pos e];show (if lo+keep=n then _ else _)=_;rw[if_pos ab];rfl
   ·have hx00:x=0:=by grind
    rw[if_neg e,ma,Qt (λr hr=>by
     have:=hre lo r ab hr;rw[hx00];cases r;simp only at this;subst this;rfl)]
    unfold Bm
    dsimp only
    cases hc:(cO (lo+1) (lf.drop (lo+1))).filter pos with
    | nil=>rfl
    | cons p q=>
      have hp:p∈cO (lo+1) (lf.drop (lo+1)):=(rP.1 (hc▸vo)).1;have:=(oQ hp).1
      dsimp only
      rw[if_neg ab]
  rw[hres,YQ];refine⟨by rw[pM,hlen,yO],rfl,rfl,hfs.symm,λz Ro=> ?_,λv z hv Ro=> ?_,λi r hi hr=> ?_,λr hr=> ?_⟩
  ·rcases yv Ro with e|e
   ·exact SA z e
   ·rw[e];exact mK
  ·rw[yO] at hv;rw[Ur] at Ro;by_cases e:lo=v
   ·rw[if_pos e,if_pos hlt] at Ro;cases Ro;rfl
   ·rw[if_neg e] at Ro;exact hold v z ab Ro
  ·rw[yO] at hi;rw[yX ab] at hr;exact hre i r ab hr
  ·obtain⟨i,hi⟩:=qD.1 hr;by_cases e:lo=i
   ·rw[DL e] at hi;cases hq':rw'[i]? with
    | none=>rw[hq'] at hi;cases hi
    | some r'=>
      rw[hq'] at hi;cases hi;exact SX r' (cX hq')
   ·rw[yX e] at hi;exact SX r (cX hi)
 ·rw[if_neg hk]
  have hres:Bm keep n ⟨(cO 0 lf).filter pos,rw',b.uses++vS n t m⟩=⟨(cO 0 lf).filter pos,rw',b.uses++vS n t m⟩:=by
   unfold Bm
   dsimp only
   cases (cO 0 lf).filter pos with
   | nil=>rfl
   | cons p q=>dsimp only;rw[if_neg ab]
  rw[hres];refine⟨by rw[hlen,uy],rfl,rfl,rfl,SA,λv x hv hx=> ?_,λi r hi hr=>hre i r ab hr,SX⟩;rw[uy] at hv;omega
theorem run_both (S F:Rat) (keep:Nat) (l:List (Rat×Rat)):Both keep (kt S F keep l) (runT S F keep l):=by
 unfold kt runT;have h0:Both keep (⟨[],[],[]⟩:Qs) (⟨[],[],[]⟩:Ek):=⟨aa,aa,aa,aa,λx hx=>(by cases hx),λv x _ hx=>(by cases hx),λi r _ hr=>(by cases hr),λr hr=>(by cases hr)⟩;generalize (⟨[],[],[]⟩:Qs)=a at h0 ⊢;generalize (⟨[],[],[]⟩:Ek)=b at h0 ⊢
 induction l generalizing a b with
 | nil=>exact h0
 | cons y l ih=>exact ih _ _ (Xt h0 y)
theorem xU:∀ (q:List Vq) (r:List bh),(q.map (·.1)).Nodup->∀ i,(fj q r)[i]? =match q.find? (λp=>p.1 == i) with
  | some p=>(r[i]?).map (λx=>{ x with closing:=p.2 })
  | none=>r[i]?
 | [],r,_,i=>rfl
 | p::q,r,hn,i=>by
   rw[rQ,JS] at hn;show (fj q (r.modify p.1 _))[i]? =_;rw[xU q _ hn.2 i,List.find?_cons];by_cases e:p.1=i
   ·have wZ:q.find? (λp=>p.1 == i)=none:=by
     rw[Om];intro x hx e';exact hn.1 (fv.2 ⟨x,hx,by rw[e];simpa using e'⟩)
    rw[wZ,beq_iff_eq.2 e]
    dsimp only
    rw[DL e]
   ·rw[show (p.1 == i)=false by simpa using e]
    dsimp only
    rw[yX e]
theorem Ig (k:Nat) (l:List Rat):((cO k l).map (·.1)).Nodup:=by
 induction l generalizing k with
 | nil=>exact List.nodup_nil
 | cons x l ih=>
   show (k::(cO (k+1) l).map (·.1)).Nodup;rw[JS];refine⟨λh=> ?_,ih _⟩;obtain⟨p,hp,e⟩:=fv.1 h;have:=(oQ hp).1;omega
theorem zG (S F:Rat) (keep:Nat) (l:List (Rat×Rat)):pH S F keep l=Mn S F keep l:=by
 obtain⟨h1,h2,h3,h4,h5,h6,h7,h8⟩:=run_both S F keep l;unfold pH Mn;rw[h3,h2,h4]
 congr 1
 apply Ul;intro i;have hn:=Ig 0 (runT S F keep l).left;rw[xU _ _ hn,xU _ _ (hn.sublist (List.filter_sublist.map _))];cases hf:((cO 0 (runT S F keep l).left).filter pos).find? (λp=>p.1 == i) with
 | some p=>
   have hm:=Ua hf;have hp:=List.find?_some hf
   have:(cO 0 (runT S F keep l).left).find? (λp=>p.1 == i)=some p:=by
    cases hg:(cO 0 (runT S F keep l).left).find? (λp=>p.1 == i) with
    | none=>exact absurd hp (Om.1 hg p (rP.1 hm).1)
    | some p'=>
      have YW:=Ua hg;have hp':=List.find?_some hg;obtain⟨j,hj⟩:=qD.1 YW;obtain⟨j',hj'⟩:=qD.1 (rP.1 hm).1;rw[xT] at hj hj';have a1:p'.1=j:=by cases hq:(runT S F keep l).left[j]? <;> rw[hq] at hj <;> cases hj;simp
      have a2:p.1=j':=by cases hq:(runT S F keep l).left[j']? <;> rw[hq] at hj' <;> cases hj';simp
      have a3:j=j':=by have b1:=beq_iff_eq.1 hp;have b2:=beq_iff_eq.1 hp';omega
      rw[a3,hj'] at hj;exact hj.symm
   rw[this]
 | none=>
   dsimp only
   cases hg:(cO 0 (runT S F keep l).left).find? (λp=>p.1 == i) with
   | none=>rfl
   | some p=>
     dsimp only
     have hm:=Ua hg;have hp:=List.find?_some hg
     have hz:p.2=0:=by
      have h0:=h5 _ (oQ hm).2.2;by_cases e:0<p.2
      ·exact absurd hp (Om.1 hf p (rP.2 ⟨hm,by simpa [pos] using e⟩))
      ·grind
     cases hr:(runT S F keep l).rows[i]? with
     | none=>rfl
     | some r=>
       have:=h8 r (cX hr);cases r;simp only at this;subst this;simp[hz]
end
set_option maxRecDepth 4000
section
open Go.RowKit
attribute [local irreducible] aG VS
def R4 (B:Nat) (w:World) (cs:List Value) (q:Rat):Prop:=∃ s p n c t r m d,cs=[.bool s,.slice p n c,.bool t,.slice r m d]/\aW w B (.agg #[.bool s,.slice p n c,.bool t,.slice r m d]) q
variable {w w':World}
theorem R4.kp {B:Nat} {T:TypeId->Bool} {cs:List Value} {q:Rat} (h:R4 B w cs q) (k:bQ ⟨UU,λ_=>True,T⟩ w w'):R4 B w' cs q:=by
 obtain⟨s,p,n,c,t,r,m,d,h1,h2⟩:=h;exact⟨s,p,n,c,t,r,m,d,h1,h2.kp k⟩
def eV (B:Nat) (w:World) (cs:List Value) (e:Vq):Prop:=∃ s p n c t r m d,cs=[.int .i64 (e.1:Int),.bool s,.slice p n c,.bool t,.slice r m d]/\aW w B (.agg #[.bool s,.slice p n c,.bool t,.slice r m d]) e.2
theorem bt (B:Nat):jo (eV B) 5 where
 kp:=λh k=>by
  obtain⟨s,p,n,c,t,r,m,d,h1,h2⟩:=h;exact⟨s,p,n,c,t,r,m,d,h1,h2.kp k⟩
 len:=λh=>by obtain⟨s,p,n,c,t,r,m,d,rfl,_⟩:=h;rfl
 ok:=λh=>by obtain⟨s,p,n,c,t,r,m,d,rfl,_⟩:=h;rfl
def vU (B:Nat) (w:World) (cs:List Value) (e:Uq):Prop:=∃ s p n c t r m d,cs=[.int .i64 (e.1:Int),.int .i64 (e.2.1:Int),.bool s,.slice p n c,.bool t,.slice r m d]/\aW w B (.agg #[.bool s,.slice p n c,.bool t,.slice r m d]) e.2.2
theorem fD (B:Nat):jo (vU B) 6 where
 kp:=λh k=>by
  obtain⟨s,p,n,c,t,r,m,d,h1,h2⟩:=h;exact⟨s,p,n,c,t,r,m,d,h1,h2.kp k⟩
 len:=λh=>by obtain⟨s,p,n,c,t,r,m,d,rfl,_⟩:=h;rfl
 ok:=λh=>by obtain⟨s,p,n,c,t,r,m,d,rfl,_⟩:=h;rfl
structure fm {α:Type} (E:World->List Value->α->Prop) (sz:Nat) (w:World) (n off c:Nat) (pre:List Value) (vs:List (List Value)) (spare:List Value) (es:List α):Prop where
 len:n=es.length
 pl:pre.length=off\/c=0
 po:pre.all bD=true
 el:cd E w es vs
 so:spare.all bD=true
 le:n<=c
 cm:c<=9223372036854775807
 fl:(vs.flatten++spare).length=c*sz
abbrev Runner:TypeId:=89
abbrev ff:TypeId:=92
abbrev fX:TypeId:=41
abbrev gL:TypeId:=44
theorem Mo {a:AV} {r u:Value} (h:aY a=true) (hr:bD r=true) (hu:bD u=true):[a,.val r,.val u].all aY=true:=by
 rw[lz,lz,lz,h];show (true && (bD r && (bD u && true)))=true;rw[hr,hu];rfl
theorem cK {b:Nat} {t t':TypeId} {cs gD:Array Value} (h:bO w b t cs) (h':bO w b t' gD):t=t':=by
 have:=h.symm.trans h';simp only[Option.some.injEq,Obj.cells.injEq] at this;exact this.2.1
theorem DM (g c:Nat) (p:Option Addr) (r u:Value) (w:World) (hg:bO w g Runner #[.slice p 0 c,r,u]):
  Calls Tryz.prog 75 #[.pointer (some ⟨g,0,none⟩)] w λo w'=>o=.returned (.pointer none)/\aU w w':=by
 refine ah (C:=cH Tryz.prog w _) (args:=[_]) gO aa Tryz.ntmps75 (bM aa) ?_;refine ae ?_;refine VO.read aa [.slice p 0 c] aa (λj v hj=> ?_) (wV aa ?_)
 ·match j,hj with
  | 0,hj=>cases hj;exact hg.cell aa
  | j+1,hj=>cases hj
 refine ae ?_;refine bl ?_;intro wz kz bz;exact⟨aa,bz⟩
theorem Qu (g b off n c:Nat) (r u:Value) (w:World) (hn:n≠0) (hg:bO w g Runner #[.slice (some ⟨b,off,none⟩) n c,r,u]):
  Calls Tryz.prog 75 #[.pointer (some ⟨g,0,none⟩)] w λo w'=>o=.returned (.pointer (some ⟨b,off,none⟩))/\aU w w':=by
 have hcell:∀ (j:Nat) (v:Value),([.slice (some ⟨b,off,none⟩) n c]:List Value)[j]? =some v->w.cell? ((⟨g,0+0,none⟩:Addr).add j)=some v:=λj v hj=>by
  match j,hj with
  | 0,hj=>cases hj;exact hg.cell aa
  | j+1,hj=>cases hj
 refine ah (C:=cH Tryz.prog w _) (args:=[_]) gO aa Tryz.ntmps75 (bM aa) ?_;refine ae ?_;refine VO.read aa [.slice (some ⟨b,off,none⟩) n c] aa hcell (wV aa ?_);refine ae ?_;refine VS.aP aa (by rw[iZ];omega) ?_;refine ae ?_;refine VO.read aa [.slice (some ⟨b,off,none⟩) n c] aa hcell (wV aa ?_);refine ae ?_;refine VO.cond aa dQ ?_;refine wV aa ?_;refine ae ?_;refine bl ?_;intro wz kz bz;exact⟨aa,bz⟩
variable {off c:Nat}
theorem sl_one {b n:Nat}:Value.slice (if c=((some (1:Int)).getD 0).toNat then some (⟨b,off,none⟩:Addr) else (some (⟨b,off,none⟩:Addr)).map (·.add (((some (1:Int)).getD 0).toNat*5))) (((none:Option Int).getD (n:Int)).toNat-((some (1:Int)).getD 0).toNat) (c-((some (1:Int)).getD 0).toNat)=.slice (some ⟨b,if c=1 then off else off+5,none⟩) (n-1) (c-1):=by
 by_cases h:c=1
 ·simp[h]
 ·simp[h,Addr.add_mid]
variable {P Q:Prop}
theorem aj (h:Q) (i:Q->P:=by intro h;(repeat first|refine wN ?_|refine wP rfl ?_|refine KL rfl ?_|refine cxA_d rfl ?_|refine wO rfl rfl ?_);exact h):P:=i h
theorem Xu (g b off n c:Nat) (r u:Value) (w:World) (hg:bO w g Runner #[.slice (some ⟨b,off,none⟩) n c,r,u]) (hr:bD r=true) (hu:bD u=true) (hn:1<=n) (il:n<=c) (iC:c<=9223372036854775807):
  Calls Tryz.prog 76 #[.pointer (some ⟨g,0,none⟩)] w λo w'=>o=.returned (lN [])/\wi [g] w w'/\bO w' g Runner #[.slice (some ⟨b,if c=1 then off else off+5,none⟩) (n-1) (c-1),r,u]:=by
 have xw:nd (KU UU) 10 [g] [(Runner,[.val (.slice (some ⟨b,off,none⟩) n c),.val r,.val u])] w:=by
  refine⟨aa,bN,λj g' c' hj hc=> ?_,λc' hc=> ?_,λc' hc k hk=> ?_⟩
  ·match j,hj,hc with
   | 0,hj,hc=>cases hj;cases hc;exact hg
   | j+1,hj,_=>simp at hj
  ·cases aJ.1 hc;exact⟨aa,Mo aa hr hu⟩
  ·cases aJ.1 hc;cases hk
 refine iw Tryz.prog w _ (KU UU) (λt=>Nat.beq t 22) table (λ_ _=>trivial) (ad:=[g]) (us:=[]) yJ aa Tryz.ntmps76 (bM aa) xw (bM aa) ?_;refine aj ?_;refine VO.cond aa ⟨show (0:Int)<=1 by decide,show (1:Int)<=(n:Int) by omega,show (n:Int)<=(c:Int) by omega,show (c:Int)<=9223372036854775807 by omega⟩ ?_;refine VO.fix 7 aa (au AV.val (sl_one (b:=b) (off:=off) (n:=n) (c:=c))) ?_;refine wV aa ?_;refine aj ?_;refine VS.rE (cP _ _) aa (λwz β kz oz en=> ?_);obtain⟨o1,o2⟩:=iy (en.own 20 _ _ aa) 0 g aa aa;exact⟨aa,oz.1,o2⟩
def LeftA (w:World) (b:Nat):Prop:=∃ (t:TypeId) (cs:List Value),bO w b t cs.toArray/\(KU UU).fz t=false/\cs.all bD=true
variable {vs:List (List Value)} {pre spare:List Value} {α:Type} {es:List α} {E:World->List Value->α->Prop}
theorem fm.all {sz:Nat} {n:Nat} (hE:jo E sz) (h:fm E sz w n off c pre vs spare es):(pre++(vs.flatten++spare)).all bD=true:=by
 rw[ja,ja,h.po,(h.el.ok hE).1,h.so];rfl
theorem fm.kp {sz:Nat} {n:Nat} (hE:jo E sz) (h:fm E sz w n off c pre vs spare es) (k:Kp UU w w'):fm E sz w' n off c pre vs spare es:=
 ⟨h.len,h.pl,h.po,h.el.kp hE k,h.so,h.le,h.cm,h.fl⟩
theorem jy {d:Rat}:eQ d 0>0↔0<d:=by
 constructor
 ·intro h;refine Rat.not_le.1 λe=> ?_;have:=qf.2 e;omega
 ·intro h;have:¬ eQ d 0<=0:=λe=>absurd (qf.1 e) (Rat.not_le.2 h);omega
theorem nk {X:Prop} (hb:X) (h:Q) (i:X->Q->P:=by intro hb h;refine⟨_,rfl,hb,λa b c=>wV rfl ?_⟩;refine aj ?_;revert a b c;exact h):P:=i hb h
set_option maxRecDepth 4000 in
theorem iPut_row (B g b off n c pz:Nat) (pre:List Value) (vs:List (List Value)) (spare:List Value) (q:List Vq) (r u v:Value) (d:Rat) (kk:Nat) (w:World)
  (hg:bO w g Runner #[.slice (some ⟨b,off,none⟩) n c,r,u]) (hb:bO w b ff (pre++(vs.flatten++spare)).toArray) (hO:fm (eV B) 5 w n off c pre vs spare q) (hr:bD r=true) (hu:bD u=true) (hv:cJ w v d) (hs:fI d kk) (hk:kk<=100000) (hn:n<=1000) (hB:B<=w.heap.size):
  Calls Tryz.prog 74 #[.pointer (some ⟨g,0,none⟩),.int .i64 (pz:Int),v] w λo w'=>o=.returned (lN [])/\wi [g,b] w w'/\LeftA w' b/\
   ∃ b' bE n' c' dI kO ax,(w.heap.size<=b'\/b'=b)/\bO w' g Runner #[.slice (some ⟨b',bE,none⟩) n' c',r,u]/\bO w' b' ff (dI++(kO.flatten++ax)).toArray/\fm (eV B) 5 w' n' bE c' dI kO ax (rF pz d q):=by
 have hgb:g≠b:=λe=>by
  subst e;exact absurd (cK hg hb) bq
 obtain⟨Oz,nw,Xv,jx,KD,il,iC,BN⟩:=id hO;obtain⟨Mp,Ih⟩:=jx.ok (bt B);obtain⟨s0,p0,n0,c0,t0,y0,m0,d0,rfl⟩:=hv.form
 have xw:nd (KU UU) 23 [g,b] [(Runner,[.row 47 off n c,.val r,.val u]),(ff,pre.map .val++(vs.flatten.map .val++spare.map .val))] w:=by
  refine⟨aa,by simp[hgb],λj g' c' hj hc=> ?_,λc' hc=> ?_,λc' hc k hk=> ?_⟩
  ·match j,hj,hc with
   | 0,hj,hc=>cases hj;cases hc;exact hg
   | 1,hj,hc=>cases hj;cases hc;rw[<-bC,<-bC,ak];exact hb
   | j+2,hj,_=>simp at hj
  ·rcases dW.1 hc with rfl|hc
   ·exact⟨aa,Mo aa hr hu⟩
   ·cases aJ.1 hc;exact⟨aa,by rw[<-bC,<-bC];exact bP (hO.all (bt B))⟩
  ·rcases dW.1 hc with rfl|hc
   ·have:k=47:=by simpa [aI,AV.eu] using hk
    subst this;exact⟨ab,by show 47<2*23+2;omega⟩
   ·cases aJ.1 hc;rw[<-bC,<-bC,aw] at hk;cases hk
 refine iw Tryz.prog w _ (KU UU) (λt=>Nat.beq t 22) table (λ_ _=>trivial) (ad:=[g,b]) (us:=[_,_]) Gl aa Tryz.ntmps74 (bM aa) xw (bM aa) ?_;refine aj ?_;obtain⟨sg,ny⟩:∃ sg,eQ d 0=sg:=⟨_,aa⟩;refine VO.cB aa aa (fk mJ) (λbn cG bo=>ea _ d kk bn (hv.ki hs) ab sg ny) (λbn cG bo w1 bA eF _ bb1=>wV aa ?_);refine aj ?_;by_cases hd:0<d
 ·have hp:rF pz d q=q++[(pz,d)]:=if_pos hd;have oT:sg>0:=by rw[<-ny];exact jy.2 hd
  refine VS.aV aa (aE oT) ?_;refine aj ?_;refine VO.eB aa (fk Tryz.func14) (λeP β fA ft ho=>(zB _ [d] kk eP (et (ho.own 16 (.base (aJ.2 aa)) _ _ aa) [] (vs:=[[.bool s0,.slice p0 n0 c0,.bool t0,.slice y0 m0 d0]]) (by rfl) aa (bV.cons (hv.ki hs bm) bV.nil) (bM aa) bq) (by unfold eR gU;simp;omega)).mono ?_);rintro o w3 ⟨r3,rfl,q3,hs3,dZ⟩
  have q3':aW w3 eP.heap.size r3 d:=by
   have e:lh [d]=d:=by show 0+d=d;grind
   rw[e] at q3;exact q3
  obtain⟨s3,p3,n3,c3,t3,y3,m3,d3,rfl⟩:=q3'.form;refine nk dZ ?_;intro jm _ bb3
  refine VO.appO (cP _ _) (t:=85) (e:=ff) (sz:=5) (n:=n) (c:=c) (off:=off) (i:=47) (mm:=1) (pre:=pre.map .val) (known:=vs.flatten.map .val) (spare:=spare.map .val) (news:=([.int .i64 (pz:Int),.bool s3,.slice p3 n3 c3,.bool t3,.slice y3 m3 d3]:List Value).map .val) (dst:=20) aa aa aa aa aa aa aa aa (bM aa) aa aa (by rw[bu];exact nw.imp id λh=>⟨h,bq⟩) (.inl aa) (by rw[bu,Ih,Oz]) (by rw[<-bC,bu];exact BN) il iC ⟨aw _,aw _,aa⟩ (aw _) ⟨bP Mp,bP KD,aa⟩ (bP Xv) aa ab
   (λw1 β k1 b1 ho=>⟨_,_,rfl,.inr ⟨β 19,0,rfl,eH (rest:=[]) (ho.own 19 (.base (iY _ (aJ.2 rfl))) _ _ rfl) rfl⟩⟩)
   (λvI bE dI cap' ax ρ Vo Vp iI hp1 hp2 hp3 ll kC fT uU gr=>wV rfl ?_)
  refine aj ?_;refine VS.rE (cP _ _) aa (λwz β kz oz en=> ?_);rw[hp];obtain⟨o1,o2⟩:=iy (en.own 46 _ _ aa) 0 g aa aa;have o3:=en.own 20 _ _ aa;have o5:β 20≠g:=λe=>absurd (en.apart 46 20 (by intro h;cases h) (by intro h;cases h) (o1.trans e.symm)) bq
  have o6:w.heap.size<=β 20\/β 20=b:=by
   have:=jk (show eK 23 [g,b] w 20 (β 20) from o3.new);simpa [o5] using this
  have o7:=o3.cls;rw[bC,bC,bC,ak,ak] at o7;have hE:eV B wz [.int .i64 (pz:Int),.bool s3,.slice p3 n3 c3,.bool t3,.slice y3 m3 d3] (pz,d):=⟨s3,p3,n3,c3,t3,y3,m3,d3,aa,(q3'.mono (bj hB ft.1.size)).kp bm⟩;refine⟨aa,oz.1,oz.2 b bN,β 20,bE,n+1,cap',dI.map (AV.leaf β),vs++[[.int .i64 (pz:Int),.bool s3,.slice p3 n3 c3,.bool t3,.slice y3 m3 d3]],ax.map (AV.leaf β),o6,o2,?_,⟨by simp[Oz],.inl (by rw[bu];exact hp1),eN hp2,?_,eN uU,ll,kC,?_⟩⟩
  ·rw[Ui];exact o7
  ·exact (jx.kp (bt B) bm).snoc hE
  ·have:=fT;simp only[List.length_append,List.length_map,List.length_cons,List.length_nil,List.flatten_append,List.flatten_cons,List.flatten_nil,List.append_nil] at this ⊢;omega
 ·have hp:rF pz d q=q:=if_neg hd;have oT:¬ sg>0:=by rw[<-ny];exact λh=>hd (jy.1 h)
  refine VS.aP aa (aA oT) ?_;refine aj ?_;refine VS.rE (cP _ _) aa (λwz β kz oz en=> ?_);rw[hp];obtain⟨o1,o2⟩:=iy (en.own 46 _ _ aa) 0 g aa aa;obtain⟨o3,o4⟩:=iy (en.own 47 _ _ aa) 1 b aa aa;rw[<-bC,<-bC,ak] at o4;refine⟨aa,oz.1,oz.2 b bN,b,off,n,c,pre,vs,spare,.inr aa,?_,o4,hO.kp (bt B) bm⟩;have:β 47=b:=o3;rw[<-this];exact o2
set_option maxRecDepth 4000 in
theorem iPut_nil (B g pz:Nat) (r u v:Value) (d:Rat) (kk:Nat) (w:World)
  (hg:bO w g Runner #[.slice none 0 0,r,u]) (hr:bD r=true) (hu:bD u=true) (hv:cJ w v d) (hs:fI d kk) (hk:kk<=100000) (hB:B<=w.heap.size):
  Calls Tryz.prog 74 #[.pointer (some ⟨g,0,none⟩),.int .i64 (pz:Int),v] w λo w'=>o=.returned (lN [])/\wi [g] w w'/\
   ((¬ 0<d/\bO w' g Runner #[.slice none 0 0,r,u])\/(0<d/\∃ b' c' kO ax,w.heap.size<=b'/\bO w' g Runner #[.slice (some ⟨b',0,none⟩) 1 c',r,u]/\bO w' b' ff ([]++(kO.flatten++ax)).toArray/\fm (eV B) 5 w' 1 0 c' [] kO ax [(pz,d)])):=by
 obtain⟨s0,p0,n0,c0,t0,y0,m0,d0,rfl⟩:=hv.form
 have xw:nd (KU UU) 23 [g] [(Runner,[.val (.slice none 0 0),.val r,.val u])] w:=by
  refine⟨aa,bN,λj g' c' hj hc=> ?_,λc' hc=> ?_,λc' hc k hk=> ?_⟩
  ·match j,hj,hc with
   | 0,hj,hc=>cases hj;cases hc;exact hg
   | j+1,hj,_=>simp at hj
  ·cases aJ.1 hc;exact⟨aa,Mo aa hr hu⟩
  ·cases aJ.1 hc;cases hk
 refine iw Tryz.prog w _ (KU UU) (λt=>Nat.beq t 22) table (λ_ _=>trivial) (ad:=[g]) (us:=[_,_]) Gl aa Tryz.ntmps74 (bM aa) xw (bM aa) ?_;refine aj ?_;obtain⟨sg,ny⟩:∃ sg,eQ d 0=sg:=⟨_,aa⟩;refine VO.cB aa aa (fk mJ) (λbn cG bo=>ea _ d kk bn (hv.ki hs) ab sg ny) (λbn cG bo w1 bA eF _ bb1=>wV aa ?_);refine aj ?_;by_cases hd:0<d
 ·have oT:sg>0:=by rw[<-ny];exact jy.2 hd
  refine VS.aV aa (aE oT) ?_;refine aj ?_;refine VO.eB aa (fk Tryz.func14) (λeP β fA ft ho=>(zB _ [d] kk eP (et (ho.own 16 (.base (aJ.2 aa)) _ _ aa) [] (vs:=[[.bool s0,.slice p0 n0 c0,.bool t0,.slice y0 m0 d0]]) (by rfl) aa (bV.cons (hv.ki hs bm) bV.nil) (bM aa) bq) (by unfold eR gU;simp;omega)).mono ?_);rintro o w3 ⟨r3,rfl,q3,hs3,dZ⟩
  have q3':aW w3 eP.heap.size r3 d:=by
   have e:lh [d]=d:=by show 0+d=d;grind
   rw[e] at q3;exact q3
  obtain⟨s3,p3,n3,c3,t3,y3,m3,d3,rfl⟩:=q3'.form;refine nk dZ ?_;intro jm _ bb3
  refine VO.app (cP _ _) (t:=85) (e:=ff) (sz:=5) (n:=0) (c:=0) (mm:=1) (known:=[]) (spare:=[]) (del:=none) (news:=([.int .i64 (pz:Int),.bool s3,.slice p3 n3 c3,.bool t3,.slice y3 m3 d3]:List Value).map .val) (dst:=20) aa aa aa aa aa aa aa aa (bM aa) aa (.inl ⟨aa,aa,aa,aa,aa,aa,ab⟩) (.inl aa) aa aa (bL _) ab ⟨aa,aa,aa⟩ ⟨aa,aa,aa⟩ aa ab
   (λw1 β k1 b1 ho=>⟨_,_,rfl,.inr ⟨β 19,0,rfl,eH (rest:=[]) (ho.own 19 (.base (iY _ (aJ.2 rfl))) _ _ rfl) rfl⟩⟩)
   (λvI cap' ax ρ Vo Vp iI ll kC fT uU gr=>wV rfl ?_)
  refine aj ?_;refine VS.rE (cP _ _) aa (λwz β kz oz en=> ?_);obtain⟨o1,o2⟩:=iy (en.own 46 _ _ aa) 0 g aa aa;have o3:=en.own 20 _ _ aa;have o5:β 20≠g:=λe=>absurd (en.apart 46 20 (by intro h;cases h) (by intro h;cases h) (o1.trans e.symm)) bq
  have o6:w.heap.size<=β 20:=by
   have:=jk (show eK 23 [g] w 20 (β 20) from o3.new);simpa [o5] using this
  have o7:=o3.cls;rw[bC,bC,ak] at o7;have hE:eV B wz [.int .i64 (pz:Int),.bool s3,.slice p3 n3 c3,.bool t3,.slice y3 m3 d3] (pz,d):=⟨s3,p3,n3,c3,t3,y3,m3,d3,aa,(q3'.mono (bj hB ft.1.size)).kp bm⟩;refine⟨aa,oz.1,.inr ⟨hd,β 20,cap',[[.int .i64 (pz:Int),.bool s3,.slice p3 n3 c3,.bool t3,.slice y3 m3 d3]],ax.map (AV.leaf β),o6,o2,?_,⟨aa,.inl aa,aa,.cons hE .nil,eN uU,ab,kC,?_⟩⟩⟩
  ·exact o7
  ·have:=fT;simp only[List.length_append,List.length_map,List.length_cons,List.length_nil,List.flatten_cons,List.flatten_nil,List.append_nil] at this ⊢;omega
 ·have oT:¬ sg>0:=by rw[<-ny];exact λh=>hd (jy.1 h)
  refine VS.aP aa (aA oT) ?_;refine aj ?_;refine VS.rE (cP _ _) aa (λwz β kz oz en=> ?_);obtain⟨o1,o2⟩:=iy (en.own 46 _ _ aa) 0 g aa aa;exact⟨aa,oz.1,.inl ⟨hd,o2⟩⟩
end
section
open Go.RowKit
section
variable {C:Cx} {F:Fr} {H:Hp} {w:World} {m:Option (List FuncId)} {full:Array Oper} {K:Fr->Hp->World->Prop} {o:Oper} {r:List Oper}
theorem VO.fE {i c:Nat} {x a y:AV} {p:Nat->Option Addr} (hP:C.P=Tryz.prog) (hx:∀ β:Nat->Nat,x.leaf β=.slice (p (β 0)) 0 c\/∃ q,x.leaf β=.slice q 0 c) (e:stepOf C full F H o=.call (.fn 75 [.box i 0])) (hf:rA C.P 75) (h1:H i=some (Runner,[x,a,y]))
  (k:∀ w2,bQ C.K w w2->C.Old w2->aG C m full r K (F.cw o.dst (.val (.pointer none))) H w2):aG C m full (o::r) K F H w:=by
 refine VO.eB e hf λw1 β a1 a2 a3=> ?_;have o1:=a3.own i (.base (by simp[jN,AV.ids])) _ _ h1
 obtain⟨q,hq⟩:∃ q,x.leaf β=.slice q 0 c:=by
  rcases hx β with e|e
  ·exact⟨_,e⟩
  ·exact e
 have hc:bO w1 (β i) Runner #[.slice q 0 c,a.leaf β,y.leaf β]:=by have:=o1.cls;rw[rQ,hq] at this;exact this
 refine yK (show Calls C.P _ #[.pointer (some ⟨β i,0,none⟩)] w1 _ from hP▸DM (β i) c q _ _ w1 hc) ?_;rintro e w2 ⟨rfl,hb⟩;exact⟨_,aa,hb,λb1 b2 b3=>k w2 b1 b3⟩
theorem VO.eW {i v off n c:Nat} {a y:AV} (hP:C.P=Tryz.prog) (e:stepOf C full F H o=.call (.fn 75 [.box i 0])) (hf:rA C.P 75) (h1:H i=some (Runner,[.row v off n c,a,y])) (hn:n≠0) (hv:H v≠none)
  (k:∀ w2,bQ C.K w w2->C.Old w2->aG C m full r K (F.cw o.dst (.rz v off)) H w2):aG C m full (o::r) K F H w:=by
 show one C m full o (aG C m full r K) F H w;unfold one;rw[e];intro w1 β a1 a2 a3;have nA:Reach H (kH.fn 75 [.box i 0]).ids i:=.base (by simp[kH.ids,jN,AV.ids]);have o1:=a3.own i nA _ _ h1;refine⟨hf,yK (show Calls C.P _ #[.pointer (some ⟨β i,0,none⟩)] w1 _ from hP▸Qu (β i) (β v) off n c _ _ w1 hn o1.cls) ?_⟩;rintro e w2 ⟨rfl,hb⟩
 exact⟨β,.rz v off,none,[],aa,λj hj=>.inr ⟨.step nA h1 (by have:j=v:=by simpa [AV.ids] using hj
                                                           rw[this];simp[aI,AV.eu]),by have:j=v:=by simpa [AV.ids] using hj
                                                                                       rw[this];exact hv,bN⟩,.inr aa,.inr aa,GS.none hb,λa b c _ _=>k w2 a c⟩
theorem VO.np {i v off n c:Nat} {a y:AV} (hP:C.P=Tryz.prog) (e:stepOf C full F H o=.call (.fn 76 [.box i 0])) (hf:rA C.P 76) (h1:H i=some (Runner,[.row v off n c,a,y])) (hn:1<=n) (il:n<=c) (iC:c<=9223372036854775807) (hv:∀ j∈aI [.row v off n c,a,y],H j≠none) (hl:1<=lvl C.SU m o)
  (k:∀ w2,bQ C.K w w2->C.Old w2->aG C m full r K (F.cw o.dst (.val (lN []))) (H.put i (Runner,[.row v (if c=1 then off else off+5) (n-1) (c-1),a,y])) w2):aG C m full (o::r) K F H w:=by
 show one C m full o (aG C m full r K) F H w;unfold one;rw[e];intro w1 β a1 a2 a3;have nA:Reach H (kH.fn 76 [.box i 0]).ids i:=.base (by simp[kH.ids,jN,AV.ids]);have o1:=a3.own i nA _ _ h1;have gv:=bR.1 o1.ok;have sT:=eN (β:=β) o1.ok;refine⟨hf,yK (show Calls C.P _ #[.pointer (some ⟨β i,0,none⟩)] w1 _ from hP▸Xu (β i) (β v) off n c (a.leaf β) (y.leaf β) w1 o1.cls (bR.1 sT _ bN) (bR.1 sT _ bN) hn il iC) ?_⟩;rintro e w2 ⟨rfl,hb,hc⟩;refine⟨β,.val (lN []),none,[(i,(Runner,[.row v (if c=1 then off else off+5) (n-1) (c-1),a,y]))],aa,λi hi=>(by cases hi),.inl hl,.inr aa,?_,λa b c _ _=>k w2 a c⟩;refine⟨hb.os,hb.tape,hb.output,hb.size,λk hk hx _ _=>hb.pk k hk (by simpa using hx),λ_ _=>aa,λi hi=>(by cases hi),λi hi=>(by cases hi),λx hx=> ?_,λx hx=> ?_,bN,λx hx y hy _=> ?_,λx hx j hj=> ?_⟩
 ·cases aJ.1 hx;refine⟨o1.new,o1.ty,hc,?_⟩;rw[lz,lz,gv a bN,lz,gv y bN];rfl
 ·cases aJ.1 hx;exact .inl ⟨by rw[h1];simp,bN,nA,rfl⟩
 ·cases aJ.1 hx;cases aJ.1 hy;rfl
 ·cases aJ.1 hx;exact .inr ⟨hv j (by simpa [aI,AV.eu] using hj),bN⟩
theorem sB {β dA:Nat->Nat} {cs:List AV} {a:AV} (ha:a∈cs) (h:∀ i∈aI cs,dA i=β i):a.leaf dA=a.leaf β:=
 AV.uG λi hi=>h i (bK.2 ⟨a,ha,hi⟩)
theorem VO.Ii {B i v d2 off n c pz:Nat} {a y:AV} {pre spare:List Value} {vs:List (List Value)} {q:List Vq} {val:Value} {d:Rat} (kk:Nat) (hP:C.P=Tryz.prog) (hK:C.K=KU UU)
  (e:stepOf C full F H o=.call (.fn 74 [.box i 0,.val (.int .i64 (pz:Int)),.val val])) (hf:rA C.P 74) (h1:H i=some (Runner,[.row v off n c,a,y])) (h2:H v=some (ff,(pre++(vs.flatten++spare)).map .val)) (h3:H d2=none) (hd2:d2<2*C.N) (hiv:i≠v)
  (lG:∀ j∈aI [a,y],H j≠none/\j≠v) (hl:lvl C.SU m o=2) (hO:∀ w1,bQ C.K w w1->C.Old w1->fm (eV B) 5 w1 n off c pre vs spare q) (hv:∀ w1,bQ C.K w w1->C.Old w1->cJ w1 val d) (hs:fI d kk) (hk:kk<=100000) (hn:n<=1000) (hB:B<=C.w0.heap.size)
  (k:∀ w2 bE n' c' dI kO ax ρ,bQ C.K w w2->C.Old w2->fm (eV B) 5 w2 n' bE c' dI kO ax (rF pz d q)->
   aG C m full r K ((F.forget (some v) ρ).cw o.dst (.val (lN []))) (((H.forget (some v) ρ).put i (Runner,[.row d2 bE n' c',a,y])).put d2 (ff,(dI++(kO.flatten++ax)).map .val)) w2):aG C m full (o::r) K F H w:=by
 show one C m full o (aG C m full r K) F H w;unfold one;rw[e];intro w1 β a1 a2 a3;have nA:Reach H (kH.fn 74 [.box i 0,.val (.int .i64 (pz:Int)),.val val]).ids i:=.base (by simp[kH.ids,jN,AV.ids]);have nC:Reach H (kH.fn 74 [.box i 0,.val (.int .i64 (pz:Int)),.val val]).ids v:=.step nA h1 (by simp[aI,AV.eu]);have o1:=a3.own i nA _ _ h1;have o2:=a3.own v nC _ _ h2;have gv:=bR.1 o1.ok;have sT:=eN (β:=β) o1.ok;have kC:bO w1 (β v) ff (pre++(vs.flatten++spare)).toArray:=by have:=o2.cls;rw[ak] at this;exact this
 refine⟨hf,yK (show Calls C.P _ #[.pointer (some ⟨β i,0,none⟩),.int .i64 (pz:Int),val] w1 _ from hP▸iPut_row B (β i) (β v) off n c pz pre vs spare q (a.leaf β) (y.leaf β) val d kk w1 o1.cls kC (hO w1 a1 a2) (bR.1 sT _ bN) (bR.1 sT _ bN) (hv w1 a1 a2) hs hk hn (bj hB (C.iq _ a2))) ?_⟩;rintro e w2 ⟨rfl,hb,⟨tl,cl,l1,l2,l3⟩,b',bE,n',c',dI,kO,ax,Ja,Yx,hc',lZ⟩;have hne:∀ j,H j≠none->j≠d2:=λj hj e=>hj (e▸h3);have hid:i≠d2:=hne i (by rw[h1];simp);have Vr:v≠d2:=hne v (by rw[h2];simp)
 let dA:Nat->Nat:=λj=>if j=d2 then b' else β j
 have e2:dA d2=b':=if_pos aa;have e1:∀ j,j≠d2->dA j=β j:=λj hj=>if_neg hj;have hag:∀ j∈aI [a,y],dA j=β j:=λj hj=>e1 j (hne j (lG j hj).1);have hokv:((dI++(kO.flatten++ax)).map AV.val).all aY=true:=bP (lZ.all (bt B));refine⟨dA,.val (lN []),some v,[(i,(Runner,[.row d2 bE n' c',a,y])),(d2,(ff,(dI++(kO.flatten++ax)).map .val))],aa,λi hi=>(by cases hi),.inl ab,.inl ab,?_,λp1 _ p3 ρ _=>k w2 bE n' c' dI kO ax ρ p1 p3 lZ⟩;refine⟨hb.os,hb.tape,hb.output,hb.size,λk hk hx mD _=>hb.pk k hk ?_,λj hj=>e1 j (λh=>hj (by simp[h])),λj hj=> ?_,λj hj=> ?_,λx hx=> ?_,λx hx=> ?_,by simpa using hid,λx hx z hz he=> ?_,λx hx j hj=> ?_⟩
 ·have g1:=hx (i,(Runner,[.row d2 bE n' c',a,y])) bN;have g2:=mD v aa;rw[e1 i hid] at g1;simpa using ⟨g1,g2⟩
 ·cases hj;exact⟨nC,by rw[h2];simp⟩
 ·cases hj;exact .inl (.inr ⟨tl,cl,l1,by rw[hK];exact l2,l3⟩)
 ·rcases dW.1 hx with rfl|hx
  ·refine⟨by rw[e1 i hid];exact o1.new,o1.ty,?_,?_⟩
   ·rw[e1 i hid];show bO w2 (β i) Runner #[.slice (some ⟨dA d2,bE,none⟩) n' c',a.leaf dA,y.leaf dA];rw[e2,sB (cs:=[a,y]) bN hag,sB (cs:=[a,y]) bN hag];exact Yx
   ·rw[lz,lz,gv a bN,lz,gv y bN];rfl
  ·cases aJ.1 hx;refine⟨?_,o2.ty,?_,hokv⟩
   ·rw[e2];rcases Ja with h|h
    ·exact C.yT _ _ ab (by have:=C.iq _ a2;omega)
    ·rw[h];exact C.Kn v d2 _ o2.new ab
   ·rw[e2,ak];exact hc'
 ·rcases dW.1 hx with rfl|hx
  ·exact .inl ⟨by rw[h1];simp,by simpa using λh=>hiv h.symm,nA,e1 i hid⟩
  ·cases aJ.1 hx;refine .inr ⟨.inl h3,hd2,?_⟩;rw[e2];exact Ja.imp id λh=>⟨v,aa,h⟩
 ·have jG:∀ (x:Nat×(TypeId×List AV)),x∈[(i,(Runner,[.row d2 bE n' c',a,y])),(d2,(ff,(dI++(kO.flatten++ax)).map AV.val))]->(x.1=i/\dA x.1=β i)\/(x.1=d2/\dA x.1=b'):=λx hx=>by
   rcases dW.1 hx with rfl|hx
   ·exact .inl ⟨aa,e1 i hid⟩
   ·cases aJ.1 hx;exact .inr ⟨aa,e2⟩
  have hno:β i≠b':=λh=>absurd (cK Yx (h▸hc')) bq;rcases jG x hx with ⟨g1,g2⟩|⟨g1,g2⟩ <;> rcases jG z hz with ⟨g3,g4⟩|⟨g3,g4⟩
  ·rw[g1,g3]
  ·exact absurd (g2.symm.trans (he.trans g4)) hno
  ·exact absurd (g4.symm.trans (he.symm.trans g2)) hno
  ·rw[g1,g3]
 ·rcases dW.1 hx with rfl|hx
  ·have hj':j=d2\/j∈aI [a,y]:=by
    obtain⟨z,hz,hj2⟩:=bK.1 hj;rcases dW.1 hz with rfl|hz
    ·exact .inl (by simpa [AV.eu] using hj2)
    ·exact .inr (bK.2 ⟨z,hz,hj2⟩)
   rcases hj' with h|h
   ·exact .inl (by simp[h])
   ·exact .inr ⟨(lG j h).1,by simpa using λh'=>(lG j h).2 h'.symm⟩
  ·cases aJ.1 hx;rw[aw] at hj;cases hj
theorem VO.Qv {B i d2 pz:Nat} {a y:AV} {val:Value} {d:Rat} (kk:Nat) (hP:C.P=Tryz.prog) (hK:C.K=KU UU)
  (e:stepOf C full F H o=.call (.fn 74 [.box i 0,.val (.int .i64 (pz:Int)),.val val])) (hf:rA C.P 74) (h1:H i=some (Runner,[.val (.slice none 0 0),a,y])) (h3:H d2=none) (hd2:d2<2*C.N)
  (lG:∀ j∈aI [a,y],H j≠none) (hl:1<=lvl C.SU m o) (hv:∀ w1,bQ C.K w w1->C.Old w1->cJ w1 val d) (hs:fI d kk) (hk:kk<=100000) (hB:B<=C.w0.heap.size)
  (k1:∀ w2,bQ C.K w w2->C.Old w2->¬ 0<d->aG C m full r K (F.cw o.dst (.val (lN []))) (H.put i (Runner,[.val (.slice none 0 0),a,y])) w2)
  (k2:∀ w2 c' kO ax,bQ C.K w w2->C.Old w2->0<d->fm (eV B) 5 w2 1 0 c' [] kO ax [(pz,d)]->
   aG C m full r K (F.cw o.dst (.val (lN []))) ((H.put i (Runner,[.row d2 0 1 c',a,y])).put d2 (ff,(([]++(kO.flatten++ax):List Value)).map AV.val)) w2):aG C m full (o::r) K F H w:=by
 show one C m full o (aG C m full r K) F H w;unfold one;rw[e];intro w1 β a1 a2 a3;have nA:Reach H (kH.fn 74 [.box i 0,.val (.int .i64 (pz:Int)),.val val]).ids i:=.base (by simp[kH.ids,jN,AV.ids]);have o1:=a3.own i nA _ _ h1;have gv:=bR.1 o1.ok;have sT:=eN (β:=β) o1.ok;refine⟨hf,yK (show Calls C.P _ #[.pointer (some ⟨β i,0,none⟩),.int .i64 (pz:Int),val] w1 _ from hP▸iPut_nil B (β i) pz (a.leaf β) (y.leaf β) val d kk w1 o1.cls (bR.1 sT _ bN) (bR.1 sT _ bN) (hv w1 a1 a2) hs hk (bj hB (C.iq _ a2))) ?_⟩;rintro e w2 ⟨rfl,hb,⟨hd,Yx⟩|⟨hd,b',c',kO,ax,Ja,Yx,hc',lZ⟩⟩
 ·refine⟨β,.val (lN []),none,[(i,(Runner,[.val (.slice none 0 0),a,y]))],aa,λi hi=>(by cases hi),.inl hl,.inr aa,?_,λp1 _ p3 _ _=>k1 w2 p1 p3 hd⟩;refine⟨hb.os,hb.tape,hb.output,hb.size,λk hk hx _ _=>hb.pk k hk (by simpa using hx),λ_ _=>aa,λi hi=>(by cases hi),λi hi=>(by cases hi),λx hx=> ?_,λx hx=> ?_,bN,λx hx y hy _=> ?_,λx hx j hj=> ?_⟩
  ·cases aJ.1 hx;exact⟨o1.new,o1.ty,Yx,o1.ok⟩
  ·cases aJ.1 hx;exact .inl ⟨by rw[h1];simp,bN,nA,rfl⟩
  ·cases aJ.1 hx;cases aJ.1 hy;rfl
  ·cases aJ.1 hx;exact .inr ⟨lG j (by simpa [aI,AV.eu] using hj),bN⟩
 ·have hne:∀ j,H j≠none->j≠d2:=λj hj e=>hj (e▸h3);have hid:i≠d2:=hne i (by rw[h1];simp)
  let dA:Nat->Nat:=λj=>if j=d2 then b' else β j
  have e2:dA d2=b':=if_pos aa;have e1:∀ j,j≠d2->dA j=β j:=λj hj=>if_neg hj;have hag:∀ j∈aI [a,y],dA j=β j:=λj hj=>e1 j (hne j (lG j hj));have hokv:(([]++(kO.flatten++ax)).map AV.val).all aY=true:=bP (lZ.all (bt B));refine⟨dA,.val (lN []),none,[(i,(Runner,[.row d2 0 1 c',a,y])),(d2,(ff,(([]++(kO.flatten++ax):List Value)).map AV.val))],aa,λi hi=>(by cases hi),.inl hl,.inr aa,?_,λp1 _ p3 _ _=>k2 w2 c' kO ax p1 p3 hd lZ⟩;refine⟨hb.os,hb.tape,hb.output,hb.size,λk hk hx _ _=>hb.pk k hk ?_,λj hj=>e1 j (λh=>hj (by simp[h])),λi hi=>(by cases hi),λi hi=>(by cases hi),λx hx=> ?_,λx hx=> ?_,by simpa using hid,λx hx z hz he=> ?_,λx hx j hj=> ?_⟩
  ·have g1:=hx (i,(Runner,[.row d2 0 1 c',a,y])) bN;rw[e1 i hid] at g1;simpa using g1
  ·rcases dW.1 hx with rfl|hx
   ·refine⟨by rw[e1 i hid];exact o1.new,o1.ty,?_,?_⟩
    ·rw[e1 i hid];show bO w2 (β i) Runner #[.slice (some ⟨dA d2,0,none⟩) 1 c',a.leaf dA,y.leaf dA];rw[e2,sB (cs:=[a,y]) bN hag,sB (cs:=[a,y]) bN hag];exact Yx
    ·rw[lz,lz,gv a bN,lz,gv y bN];rfl
   ·cases aJ.1 hx;refine⟨by rw[e2];exact C.yT _ _ ab (by have:=C.iq _ a2;omega),by rw[hK];rfl,?_,hokv⟩;rw[e2,ak];exact hc'
  ·rcases dW.1 hx with rfl|hx
   ·exact .inl ⟨by rw[h1];simp,bN,nA,e1 i hid⟩
   ·cases aJ.1 hx;refine .inr ⟨.inl h3,hd2,.inl ?_⟩;rw[e2];exact Ja
  ·have jG:∀ (x:Nat×(TypeId×List AV)),x∈[(i,(Runner,[.row d2 0 1 c',a,y])),(d2,(ff,([]++(kO.flatten++ax)).map AV.val))]->(x.1=i/\dA x.1=β i)\/(x.1=d2/\dA x.1=b'):=λx hx=>by
    rcases dW.1 hx with rfl|hx
    ·exact .inl ⟨aa,e1 i hid⟩
    ·cases aJ.1 hx;exact .inr ⟨aa,e2⟩
   have hno:β i≠b':=λh=>absurd (cK Yx (h▸hc')) bq;rcases jG x hx with ⟨g1,g2⟩|⟨g1,g2⟩ <;> rcases jG z hz with ⟨g3,g4⟩|⟨g3,g4⟩
   ·rw[g1,g3]
   ·exact absurd (g2.symm.trans (he.trans g4)) hno
   ·exact absurd (g4.symm.trans (he.symm.trans g2)) hno
   ·rw[g1,g3]
  ·rcases dW.1 hx with rfl|hx
   ·have hj':j=d2\/j∈aI [a,y]:=by
     obtain⟨z,hz,hj2⟩:=bK.1 hj;rcases dW.1 hz with rfl|hz
     ·exact .inl (by simpa [AV.eu] using hj2)
     ·exact .inr (bK.2 ⟨z,hz,hj2⟩)
    rcases hj' with h|h
    ·exact .inl (by simp[h])
    ·exact .inr ⟨lG j h,bN⟩
   ·cases aJ.1 hx;rw[aw] at hj;cases hj
end
end
end Go.Proofs.YtabalinjfgcfeaaGreat
