/- Di of the proof,laid behind one another. -/
import Derived.Test.YtabalinjfgcfeaaGreatKInterestRuns3
set_option linter.all false
set_option maxHeartbeats 64000000
set_option maxRecDepth 4000
namespace Go.Proofs.YtabalinjfgcfeaaGreat
section
open Go.RowKit
attribute [local irreducible] aB VS
theorem tM (w:World):Calls Tryz.prog 77 #[] w fun e w'=>∃ r,e=.returned r/\aD w' w.heap.size r 1/\aM w w':=by
 refine ah (C:=bS Tryz.prog w _) (args:=[]) Tryz.func77 rfl Tryz.ntmps77 (bB rfl) ?_
 refine ab ?_
 refine VO.call rfl rfl (fk Tryz.func82) (fun bF cU bJ=>(MS 1 bF aa aa).mono ?_)
 rintro e w1 ⟨r1,rfl,h1,aK⟩
 obtain ⟨s1,p1,n1,c1,rfl⟩:=h1.form
 refine ⟨_,rfl,aK,fun dC _ bb1=>wV rfl ?_⟩
 refine ab ?_
 refine aY ?_;intro wz kz bz
 exact ⟨_,rfl,(h1.kp kz).mono bJ.size,bz⟩
def Cz (s:Bool) (xs:List Nat) (t:Bool) (ys:List Nat):Bool:=dQ s xs && (dQ t ys && (decide (0 < numOf t ys) && decide (Int.gcd (numOf s xs) (numOf t ys)=1)))
theorem Jg {s t:Bool} {xs ys:List Nat} (h:Cz s xs t ys=false):rq s xs t ys=0:=by
 unfold rq Li
 split
 ·rename_i hc
  cases h1:dQ s xs with
  | false=>unfold numOf;rw [if_neg (by simp [h1])];simp
  | true=>
    cases h2:dQ t ys with
    | false=>
      have:numOf t ys=0:=by unfold numOf;rw [if_neg (by simp [h2])]
      omega
    | true=>
      unfold Cz at h
      rw [h1,h2,decide_eq_true hc.1,decide_eq_true hc.2] at h
      cases h
 ·rfl
theorem rtB_inv {s t:Bool} {xs ys:List Nat} (h:Cz s xs t ys=true):dQ s xs=true/\dQ t ys=true/\0 < numOf t ys/\Int.gcd (numOf s xs) (numOf t ys)=1:=by
 unfold Cz at h
 simp only [Bool.and_eq_true,decide_eq_true_eq] at h
 exact h
theorem gh.lim {w:World} {v:Value} {s:Bool} {xs:List Nat} (h:gh w v s xs):cP xs:=by
 obtain ⟨_,_,_,_,l⟩:=h
 exact l
theorem Jh {w:World} {v:Value} {s t:Bool} {xs ys:List Nat} (hv:eR w v s xs t ys) (h:Cz s xs t ys=true):bI w v (rq s xs t ys):=by
 obtain ⟨h1,h2,h3,h4⟩:=rtB_inv h
 obtain ⟨p,c,r,d,rfl,a1,a2⟩:=hv
 obtain ⟨e1,e2⟩:=tI ⟨h3,h4⟩
 refine ⟨s,p,_,c,t,r,_,d,rfl,?_,?_⟩
 ·unfold rq;rw [e1]
  have l:=a1.lim
  unfold numOf
  rw [if_pos h1]
  obtain ⟨c1,c2⟩:=canon l h1
  show gh _ _ _ _
  rw [<-c1,<-c2]
  assumption
 ·unfold rq;rw [e2]
  have l:=a2.lim
  unfold numOf
  rw [if_pos h2]
  obtain ⟨c1,c2⟩:=canon l h2
  show gh _ _ _ _
  rw [<-c1,<-c2]
  assumption
theorem gh.in {w:World} {v:Value} {s:Bool} {xs:List Nat} {k:Nat} (h:gh w v s xs) (hk:xs.length≤k):cw w v (numOf s xs) k:=⟨s,xs,h,rfl,hk⟩
theorem vt (s t:Bool) (xs ys:List Nat) (v:Value) (w:World) (h:eR w v s xs t ys) (hx:xs.length≤536870912) (hy:ys.length≤536870912):
  Calls Tryz.prog 68 #[v] w fun e w'=>e=.returned (.bool (Cz s xs t ys))/\aM w w':=by
 obtain ⟨p,c,r,d,rfl,h1,h2⟩:=h
 refine ah (C:=bS Tryz.prog w _) (args:=[_]) Tryz.func68 rfl Tryz.ntmps68 (bB rfl) ?_
 refine ab ?_
 refine VO.call rfl rfl (fk Tryz.func102) (fun bF cU bJ=>(tC s xs _ bF (h1.bC bJ)).mono ?_)
 rintro e w1 ⟨rfl,aK⟩
 cases q1:dQ s xs
 ·refine ⟨_,rfl,aK,fun dC _ bb1=>wV rfl ?_⟩
  refine ab ?_
  refine aY ?_;intro wz kz bz
  exact ⟨by simp [Cz,q1,iX],bz⟩
 refine ⟨_,rfl,aK,fun dC _ bb1=>wV rfl ?_⟩
 refine ab ?_
 refine VO.call rfl rfl (fk Tryz.func102) (fun cK eg di=>(tC t ys _ cK (h2.bC di)).mono ?_)
 rintro e w2 ⟨rfl,ba⟩
 cases q2:dQ t ys
 ·refine ⟨_,rfl,ba,fun ed _ bb2=>wV rfl ?_⟩
  refine ab ?_
  refine aY ?_;intro wz kz bz
  exact ⟨by simp [Cz,q1,q2,iX],bz⟩
 refine ⟨_,rfl,ba,fun ed _ bb2=>wV rfl ?_⟩
 refine ab ?_
 refine VO.call rfl rfl (fk Tryz.func43) (fun fh fE fG=>(rZ _ (numOf t ys) _ fh ((h2.in (Nat.le_refl _)).bC fG)).mono ?_)
 rintro e w3 ⟨rfl,cG⟩
 by_cases q3:0 < numOf t ys
 ·rw [fb q3]
  refine ⟨_,rfl,cG,fun gT _ bb3=>wV rfl ?_⟩
  refine ab ?_
  refine VO.call rfl rfl (fk Tryz.func103) (fun iP jT jX=>(IL _ _ (numOf s xs) (numOf t ys) _ _ iP ((h1.in (Nat.le_refl _)).bC jX) ((h2.in (Nat.le_refl _)).bC jX) hx hy).mono ?_)
  rintro e w4 ⟨r4,rfl,h4,eV⟩
  obtain ⟨s4,p4,n4,c4,rfl⟩:=h4.form
  refine ⟨_,rfl,eV,fun lh _ sT=>wV rfl ?_⟩
  refine ab ?_
  refine VO.call rfl rfl (fk Tryz.func77) (fun gf jl gD=>(tM gf).mono ?_)
  rintro e w5 ⟨r5,rfl,h5,eE⟩
  obtain ⟨s5,p5,n5,c5,rfl⟩:=h5.form
  refine ⟨_,rfl,eE,fun jy _ qi=>wV rfl ?_⟩
  refine ab ?_
  have hg:Sz (Int.gcd (numOf s xs) (numOf t ys):Int) ys.length:=by
   obtain ⟨_,_,_,_,l2⟩:=h2
   refine Sz.le (Y:=numOf t ys) (ve l2 (Nat.le_refl _)) ?_
   rw [Int.natAbs_natCast,<-Int.natAbs_natCast (Int.gcd (numOf s xs) (numOf t ys))]
   have:=Int.gcd_dvd_right (numOf s xs) (numOf t ys)
   have:=Int.natAbs_dvd_natAbs.2 this
   exact Nat.le_of_dvd aa this
  refine VO.call rfl rfl (fk Tryz.func41) (fun gj kx iz=>(ru _ _ (Int.gcd (numOf s xs) (numOf t ys):Int) 1 _ 1 gj ((h4.kp (jl.aF ((Kp.of eE).aF kx))).in hg) ((h5.kp kx).in (Sz.small bV)) aa aa).mono ?_)
  rintro e w6 ⟨rfl,fx⟩
  by_cases q4:Int.gcd (numOf s xs) (numOf t ys)=1
  ·rw [show ((Int.gcd (numOf s xs) (numOf t ys):Int) - 1).sign=0 by rw [q4];rfl]
   refine ⟨_,rfl,fx,fun jz _ oX=>wV rfl ?_⟩
   refine ab ?_
   refine aY ?_;intro wz kz bz
   exact ⟨by simp [Cz,q1,q2,q3,q4,iX],bz⟩
  ·have hne:(((Int.gcd (numOf s xs) (numOf t ys):Int) - 1).sign == 0)=false:=by
    rw [beq_eq_false_iff_ne]
    intro e
    have:=Int.sign_eq_zero_iff_zero.1 e
    omega
   refine ⟨_,rfl,fx,fun jz _ oX=>wV rfl ?_⟩
   refine ab ?_
   refine aY ?_;intro wz kz bz
   exact ⟨by simp only [Cz,q1,q2,q3,q4,iX,Bool.true_and,decide_true,decide_false,hne],bz⟩
 ·have q4:(numOf t ys).sign=0\/(numOf t ys).sign= -1:=by
   rcases Int.lt_trichotomy (numOf t ys) 0 with e | e | e
   ·exact .inr (sign_neg e)
   ·rw [e];exact .inl rfl
   ·exact absurd e q3
  rcases q4 with q4 | q4
  all_goals
   rw [q4]
   refine ⟨_,rfl,cG,fun gT _ bb3=>wV rfl ?_⟩
   refine ab ?_
   refine aY ?_;intro wz kz bz
   exact ⟨by simp [Cz,q1,q2,q3,iX],bz⟩
theorem bI.zero {w:World} {p:Option Addr} {n c:Nat} {s:Bool} (h:cH w (.agg #[.bool s,.slice p n c]) 1):bI w (.agg #[.bool false,.slice none 0 0,.bool s,.slice p n c]) 0:=⟨_,_,_,_,_,_,_,_,rfl,cH.zero _,h⟩
theorem cM (v:Value) (q:Rat) (k:Nat) (w:World) (h:bA w v q k) (hk:k≤536870912):
  Calls Tryz.prog 40 #[v] w fun e w'=>∃ r,e=.returned r/\bI w' r q/\aM w w':=by
 obtain ⟨s,xs,t,ys,wU,rfl,hx,hy⟩:=h
 have Ji:=wU
 obtain ⟨p,c,r,d,rfl,_,_⟩:=wU
 refine ah (C:=bS Tryz.prog w _) (args:=[_]) Tryz.func40 rfl Tryz.ntmps40 (bB rfl) ?_
 refine ab ?_
 refine VO.call rfl rfl (fk Tryz.func68) (fun bF cU bJ=>(vt s t xs ys _ bF (Ji.kp cU) aa aa).mono ?_)
 rintro e w1 ⟨rfl,aK⟩
 cases hq:Cz s xs t ys
 ·refine ⟨_,rfl,aK,fun dC _ bb1=>wV rfl ?_⟩
  refine ab ?_
  refine VO.call rfl rfl (fk Tryz.func77) (fun cK eg di=>(tM cK).mono ?_)
  rintro e w2 ⟨r2,rfl,h2,ba⟩
  obtain ⟨s2,p2,n2,c2,rfl⟩:=h2.form
  refine ⟨_,rfl,ba,fun ed _ bb2=>wV rfl ?_⟩
  refine ab ?_
  refine aY ?_;intro wz kz bz
  exact ⟨_,rfl,by rw [Jg hq];exact bI.zero (h2.kp kz).rd,bz⟩
 ·refine ⟨_,rfl,aK,fun dC _ bb1=>wV rfl ?_⟩
  refine ab ?_
  refine aY ?_;intro wz kz bz
  exact ⟨_,rfl,(Jh Ji hq).kp (dC.aF kz),bz⟩
theorem Fv {X Y:Int} {k:Nat} (hY:Sz Y k) (h:Y≠0):Sz (Int.gcd X Y:Int) k:=by
 refine Sz.le (Y:=Y) hY ?_
 rw [Int.natAbs_natCast,<-Int.natAbs_natCast (Int.gcd X Y)]
 exact Nat.le_of_dvd aa (Int.natAbs_dvd_natAbs.2 (Int.gcd_dvd_right X Y))
theorem fP {w w':World} {X Y:Int} {e:Ending} (h:Bp w w' X Y e) (hY:Y≠0):∃ v u,e=.returned (.tuple #[v,u,.int .i64 0])/\aD w' w.heap.size v (X.fdiv Y)/\aD w' w.heap.size u (X.fmod Y):=by
 rcases h with ⟨h0,_⟩ | ⟨_,h⟩
 ·exact absurd h0 hY
 ·exact h
theorem rC (v u:Value) (X Y:Int) (j k:Nat) (w:World) (hv:cw w v X j) (hu:cw w u Y k) (hj:j≤268435456) (hk:k≤268435456) (hY:Y≠0):
  Calls Tryz.prog 83 #[v,u] w fun e w'=>∃ r,e=.returned r/\aH w' w.heap.size r (Rat.divInt X Y)/\aM w w':=by
 obtain ⟨s,p,n,c,rfl⟩:=hv.form
 obtain ⟨t,r,m,d,rfl⟩:=hu.form
 refine ah (C:=bS Tryz.prog w _) (args:=[_,_]) Tryz.func83 rfl Tryz.ntmps83 (bB rfl) ?_
 refine ab ?_
 refine VO.call rfl rfl (fk Tryz.func103) (fun bF cU bJ=>(IL _ _ X Y j k bF (hv.kp cU) (hu.kp cU) aa aa).mono ?_)
 rintro e w1 ⟨r1,rfl,h1,aK⟩
 obtain ⟨s1,p1,n1,c1,rfl⟩:=h1.form
 refine ⟨_,rfl,aK,fun dC _ bb1=>wV rfl ?_⟩
 refine ab ?_
 refine VO.call rfl rfl (fk Tryz.func43) (fun cK eg di=>(rZ _ Y k cK (hu.bC di)).mono ?_)
 rintro e w2 ⟨rfl,ba⟩
 have Sj:Sz (Int.gcd X Y:Int) k:=Fv hu.len hY
 have RG:(Int.gcd X Y:Int)≠0:=by
  intro e
  have:=(Int.gcd_eq_zero_iff.1 (show Int.gcd X Y=0 by omega)).2
  exact hY this
 rcases Int.lt_or_lt_of_ne hY with q | q
 ·rw [sign_neg q]
  obtain ⟨l1,l2⟩:=low_neg (X:=X) q
  refine ⟨_,rfl,ba,fun ed _ bb2=>wV rfl ?_⟩
  refine ab ?_
  refine VO.call rfl rfl (fk Tryz.func113) (fun fh fE fG=>(IK _ (Int.gcd X Y:Int) k fh ((h1.kp (ed.aF fE)).in Sj) aa).mono ?_)
  rintro e w3 ⟨r3,rfl,h3,cG⟩
  obtain ⟨s3,p3,n3,c3,rfl⟩:=h3.form
  refine ⟨_,rfl,cG,fun gT _ bb3=>wV rfl ?_⟩
  refine ab ?_
  refine VO.call rfl rfl (fk Tryz.func114) (fun iP jT jX=>(mY _ _ X (-(Int.gcd X Y:Int)) j k iP (hv.bC jX) ((h3.kp jT).in Sj.neg) aa aa).mono ?_)
  rintro e w4 ⟨hd4,eV⟩
  obtain ⟨v4,u4,rfl,h4,h4'⟩:=fP hd4 aa
  obtain ⟨s4,p4,n4,c4,rfl⟩:=h4.form
  obtain ⟨t4,r4,m4,d4,rfl⟩:=h4'.form
  refine ⟨_,rfl,eV,fun lh _ sT=>wV rfl ?_⟩
  refine ab ?_
  refine VO.call rfl rfl (fk Tryz.func114) (fun gf jl gD=>(mY _ _ Y (-(Int.gcd X Y:Int)) k k gf (hu.bC gD) ((h3.kp (lh.aF jl)).in Sj.neg) aa aa).mono ?_)
  rintro e w5 ⟨hd5,eE⟩
  obtain ⟨v5,u5,rfl,h5,h5'⟩:=fP hd5 aa
  obtain ⟨s5,p5,n5,c5,rfl⟩:=h5.form
  obtain ⟨t5,r5,m5,d5,rfl⟩:=h5'.form
  refine ⟨_,rfl,eE,fun jy _ qi=>wV rfl ?_⟩
  refine ab ?_
  refine aY ?_;intro wz kz bz
  exact ⟨_,rfl,⟨_,_,_,_,_,_,_,_,rfl,aD.cast ((h4.kp (jy.aF kz)).mono jX.size) l1,aD.cast ((h5.kp kz).mono gD.size) l2⟩,bz⟩
 ·rw [fb q]
  obtain ⟨l1,l2⟩:=zW (X:=X) q
  refine ⟨_,rfl,ba,fun ed _ bb2=>wV rfl ?_⟩
  refine ab ?_
  refine VO.call rfl rfl (fk Tryz.func114) (fun iP jT jX=>(mY _ _ X (Int.gcd X Y:Int) j k iP (hv.bC jX) ((h1.kp (ed.aF jT)).in Sj) aa aa).mono ?_)
  rintro e w4 ⟨hd4,eV⟩
  obtain ⟨v4,u4,rfl,h4,h4'⟩:=fP hd4 aa
  obtain ⟨s4,p4,n4,c4,rfl⟩:=h4.form
  obtain ⟨t4,r4,m4,d4,rfl⟩:=h4'.form
  refine ⟨_,rfl,eV,fun lh _ sT=>wV rfl ?_⟩
  refine ab ?_
  refine VO.call rfl rfl (fk Tryz.func114) (fun gf jl gD=>(mY _ _ Y (Int.gcd X Y:Int) k k gf (hu.bC gD) ((h1.kp (ed.aF (lh.aF jl))).in Sj) aa aa).mono ?_)
  rintro e w5 ⟨hd5,eE⟩
  obtain ⟨v5,u5,rfl,h5,h5'⟩:=fP hd5 aa
  obtain ⟨s5,p5,n5,c5,rfl⟩:=h5.form
  obtain ⟨t5,r5,m5,d5,rfl⟩:=h5'.form
  refine ⟨_,rfl,eE,fun jy _ qi=>wV rfl ?_⟩
  refine ab ?_
  refine aY ?_;intro wz kz bz
  exact ⟨_,rfl,⟨_,_,_,_,_,_,_,_,rfl,aD.cast ((h4.kp (jy.aF kz)).mono jX.size) l1,aD.cast ((h5.kp kz).mono gD.size) l2⟩,bz⟩
end
section
open Go.RowKit
attribute [local irreducible] aB VS
theorem Aa (q r:Rat):q + r=Rat.divInt (q.num * r.den + r.num * q.den) ((q.den:Int) * r.den):=by
 rw [Rat.add_def',<-Rat.divInt_ofNat];simp
theorem add_same {q r:Rat} (h:(q.den:Int)=r.den):q + r=Rat.divInt (q.num + r.num) q.den:=by
 rw [Aa,<-h]
 have hd:(q.den:Int)≠0:=by have:=q.den_nz;omega
 rw [<-Int.add_mul,Rat.divInt_mul_right hd]
theorem Fw (q r:Rat):q * r=Rat.divInt (q.num * r.num) ((q.den:Int) * r.den):=by
 rw [Rat.mul_def',<-Rat.divInt_ofNat];simp
theorem oG {X Y:Int} {k l:Nat} (hX:Sz X k) (hY:Sz Y l) (h:Y≠0):Sz (Rat.divInt X Y).num k/\Sz ((Rat.divInt X Y).den:Int) l:=by
 constructor
 ·refine Sz.le hX ?_
  rw [Rat.num_divInt]
  have h1:(Y.sign * X / (Y.gcd X:Int)).natAbs≤(Y.sign * X).natAbs:=Int.natAbs_ediv_le_natAbs _ _
  rw [Int.natAbs_mul] at h1
  have h2:Y.sign.natAbs=1:=by
   rcases Int.lt_or_lt_of_ne h with e | e
   ·rw [sign_neg e];rfl
   ·rw [fb e];rfl
  rw [h2,Nat.one_mul] at h1
  exact h1
 ·refine Sz.le hY ?_
  rw [Rat.den_divInt,if_neg h,Int.natAbs_natCast]
  exact Nat.div_le_self _ _
theorem eM.add {q r:Rat} {k l:Nat} (hq:eM q k) (hr:eM r l):eM (q + r) (k + l + 1):=by
 rw [Aa]
 have hd:(q.den:Int) * r.den≠0:=Int.mul_ne_zero (by have:=q.den_nz;omega) (by have:=r.den_nz;omega)
 obtain ⟨h1,h2⟩:=oG (Sz.add (hq.1.mul hr.2) (hr.1.mul hq.2) (m:=k + l) aa aa) (hq.2.mul hr.2) hd
 exact ⟨h1,h2.mono aa⟩
theorem eM.mul {q r:Rat} {k l:Nat} (hq:eM q k) (hr:eM r l):eM (q * r) (k + l):=by
 rw [Fw]
 have hd:(q.den:Int) * r.den≠0:=Int.mul_ne_zero (by have:=q.den_nz;omega) (by have:=r.den_nz;omega)
 exact oG (hq.1.mul hr.1) (hq.2.mul hr.2) hd
theorem eM.neg {q:Rat} {k:Nat} (hq:eM q k):eM (-q) k:=⟨by rw [Rat.neg_num];exact hq.1.neg,by rw [Rat.neg_den];exact hq.2⟩
theorem eM.sub {q r:Rat} {k l:Nat} (hq:eM q k) (hr:eM r l):eM (q - r) (k + l + 1):=by rw [Rat.sub_eq_add_neg];exact hq.add hr.neg
def ea (q r:Rat):Int:=if q < r then -1 else if q=r then 0 else 1
theorem Jj (q r:Rat):(q.num * r.den - r.num * q.den).sign=ea q r:=by
 unfold ea
 by_cases h1:q < r
 ·rw [if_pos h1];exact sign_neg (by have:=(Rat.lt_iff q r).1 h1;omega)
 ·rw [if_neg h1]
  by_cases h2:q=r
  ·subst h2;rw [if_pos rfl,Int.sub_self];rfl
  ·rw [if_neg h2]
   refine fb ?_
   have a:=mt (Rat.lt_iff q r).2 h1
   have b:=mt Rat.eq_iff_mul_eq_mul.2 h2
   omega
theorem Ei (q:Rat):q.num.sign=ea q 0:=by
 have:=Jj q 0
 simpa using this
theorem Sk (q r:Rat):ea (q - r) 0=ea q r:=by
 unfold ea
 have h1:q - r < 0↔q < r:=by grind
 have h2:q - r=0↔q=r:=by grind
 simp only [h1,h2]
def Jk (Y:Int):Int:=if Y=0 then 20 else 0
theorem cd (n:Int) (w:World) (h0: -9223372036854775808≤n) (h1:n≤9223372036854775807):
  Calls Tryz.prog 44 #[.int .i64 n] w fun e w'=>∃ r,e=.returned r/\aH w' w.heap.size r (n:Rat)/\aM w w':=by
 refine ah (C:=bS Tryz.prog w _) (args:=[_]) Tryz.func44 rfl Tryz.ntmps44 (bB rfl) ?_
 refine ab ?_
 refine VO.call rfl rfl (fk Tryz.func82) (fun bF cU bJ=>(MS n bF h0 h1).mono ?_)
 rintro e w1 ⟨r1,rfl,q1,aK⟩
 obtain ⟨s1,p1,n1,c1,rfl⟩:=q1.form
 refine ⟨_,rfl,aK,fun dC _ bb1=>wV rfl ?_⟩
 refine ab ?_
 refine VO.call rfl rfl (fk Tryz.func77) (fun cK eg di=>(tM cK).mono ?_)
 rintro e w2 ⟨r2,rfl,q2,ba⟩
 obtain ⟨s2,p2,n2,c2,rfl⟩:=q2.form
 refine ⟨_,rfl,ba,fun ed _ bb2=>wV rfl ?_⟩
 refine ab ?_
 refine aY ?_;intro wz kz bz
 exact ⟨_,rfl,⟨_,_,_,_,_,_,_,_,rfl,(q1.kp (ed.aF kz)).mono bJ.size,(q2.kp kz).mono di.size⟩,bz⟩
theorem oH (v u:Value) (q r:Rat) (k l:Nat) (w:World) (hv:bI w v q) (hu:bI w u r) (hq:eM q k) (hr:eM r l) (hk:k≤67108864) (hl:l≤67108864):
  Calls Tryz.prog 45 #[v,u] w fun e w'=>∃ x,e=.returned x/\aH w' w.heap.size x (q + r)/\aM w w':=by
 obtain ⟨s,p,n,c,t,y,m,d,rfl⟩:=hv.form
 obtain ⟨s',p',n',c',t',y',m',d',rfl⟩:=hu.form
 obtain ⟨v1,v2⟩:=hv.parts
 obtain ⟨u1,u2⟩:=hu.parts
 have dq:(q.den:Int)≠0:=by have:=q.den_nz;omega
 have dr:(r.den:Int)≠0:=by have:=r.den_nz;omega
 refine ah (C:=bS Tryz.prog w _) (args:=[_,_]) Tryz.func45 rfl Tryz.ntmps45 (bB rfl) ?_
 refine ab ?_
 refine VO.call rfl rfl (fk Tryz.func41) (fun bF cU bJ=>(ru _ _ (q.den:Int) r.den k l bF ((v2.bC bJ).to hq.2) ((u2.bC bJ).to hr.2) aa aa).mono ?_)
 rintro e w1 ⟨rfl,aK⟩
 by_cases hd:(q.den:Int)=r.den
 ·rw [show ((q.den:Int) - r.den).sign=0 by rw [hd,Int.sub_self];rfl]
  refine ⟨_,rfl,aK,fun dC _ bb1=>wV rfl ?_⟩
  refine ab ?_
  refine VO.call rfl rfl (fk Tryz.func84) (fun cK eg di=>(IJ _ _ q.num r.num k l cK ((v1.bC di).to hq.1) ((u1.bC di).to hr.1) aa aa).mono ?_)
  rintro e w2 ⟨r2,rfl,q2,ba⟩
  obtain ⟨s2,p2,n2,c2,rfl⟩:=q2.form
  refine ⟨_,rfl,ba,fun ed _ bb2=>wV rfl ?_⟩
  refine ab ?_
  refine VO.call rfl rfl (fk Tryz.func83) (fun fh fE fG=>(rC _ _ (q.num + r.num) q.den (k + l + 1) k fh ((q2.kp fE).in (Sz.add hq.1 hr.1 aa aa)) ((v2.bC fG).to hq.2) aa aa dq).mono ?_)
  rintro e w3 ⟨r3,rfl,q3,cG⟩
  obtain ⟨s3,p3,n3,c3,t3,y3,m3,d3,rfl⟩:=q3.form
  refine ⟨_,rfl,cG,fun gT _ bb3=>wV rfl ?_⟩
  refine ab ?_
  refine aY ?_;intro wz kz bz
  exact ⟨_,rfl,aH.cast ((q3.kp kz).mono fG.size) (add_same hd).symm,bz⟩
 ·have hs:((((q.den:Int) - r.den).sign == 0))=false:=by
   rw [beq_eq_false_iff_ne]
   intro e
   have:=Int.sign_eq_zero_iff_zero.1 e
   omega
  rcases Int.lt_or_lt_of_ne (show (q.den:Int) - r.den≠0 by omega) with e | e
  all_goals
   first | rw [sign_neg e] | rw [fb e]
   refine ⟨_,rfl,aK,fun dC _ bb1=>wV rfl ?_⟩
   refine ab ?_
   refine VO.call rfl rfl (fk Tryz.func42) (fun cK eg di=>(mw _ _ q.num r.den k l cK ((v1.bC di).to hq.1) ((u2.bC di).to hr.2) aa aa).mono ?_)
   rintro e w2 ⟨r2,rfl,q2,ba⟩
   obtain ⟨s2,p2,n2,c2,rfl⟩:=q2.form
   refine ⟨_,rfl,ba,fun ed _ bb2=>wV rfl ?_⟩
   refine ab ?_
   refine VO.call rfl rfl (fk Tryz.func42) (fun fh fE fG=>(mw _ _ r.num q.den l k fh ((u1.bC fG).to hr.1) ((v2.bC fG).to hq.2) aa aa).mono ?_)
   rintro e w3 ⟨r3,rfl,q3,cG⟩
   obtain ⟨s3,p3,n3,c3,rfl⟩:=q3.form
   refine ⟨_,rfl,cG,fun gT _ bb3=>wV rfl ?_⟩
   refine ab ?_
   refine VO.call rfl rfl (fk Tryz.func84) (fun iP jT jX=>(IJ _ _ (q.num * r.den) (r.num * q.den) (k + l) (l + k) iP ((q2.kp (gT.aF jT)).in (hq.1.mul hr.2)) ((q3.kp jT).in (hr.1.mul hq.2)) aa aa).mono ?_)
   rintro e w4 ⟨r4,rfl,q4,eV⟩
   obtain ⟨s4,p4,n4,c4,rfl⟩:=q4.form
   refine ⟨_,rfl,eV,fun lh _ sT=>wV rfl ?_⟩
   refine ab ?_
   refine VO.call rfl rfl (fk Tryz.func42) (fun gf jl gD=>(mw _ _ q.den r.den k l gf ((v2.bC gD).to hq.2) ((u2.bC gD).to hr.2) aa aa).mono ?_)
   rintro e w5 ⟨r5,rfl,q5,eE⟩
   obtain ⟨s5,p5,n5,c5,rfl⟩:=q5.form
   refine ⟨_,rfl,eE,fun jy _ qi=>wV rfl ?_⟩
   refine ab ?_
   refine VO.call rfl rfl (fk Tryz.func83) (fun gj kx iz=>(rC _ _ (q.num * r.den + r.num * q.den) ((q.den:Int) * r.den) (k + l + 1) (k + l) gj ((q4.kp (jy.aF kx)).in (Sz.add (hq.1.mul hr.2) (hr.1.mul hq.2) aa aa)) ((q5.kp kx).in (hq.2.mul hr.2)) aa aa (Int.mul_ne_zero dq dr)).mono ?_)
   rintro e w6 ⟨r6,rfl,q6,fx⟩
   obtain ⟨s6,p6,n6,c6,t6,y6,m6,d6,rfl⟩:=q6.form
   refine ⟨_,rfl,fx,fun jz _ oX=>wV rfl ?_⟩
   refine ab ?_
   refine aY ?_;intro wz kz bz
   exact ⟨_,rfl,aH.cast ((q6.kp kz).mono iz.size) (Aa q r).symm,bz⟩
end
section
open Go.RowKit
attribute [local irreducible] aB VS
def fA (k:Nat):Nat:=max k 1
theorem bA.sW {w:World} {v:Value} {q:Rat} {k:Nat} (h:bA w v q k):eM q (fA k):=by
 obtain ⟨s,xs,t,ys,h1,h2,h3,h4⟩:=h
 exact bA.sz (k:=fA k) ⟨s,xs,t,ys,h1,h2,by unfold fA;omega,by unfold fA;omega⟩ (by unfold fA;omega)
theorem fZ (v u:Value) (q r:Rat) (k l:Nat) (w:World) (hv:bA w v q k) (hu:bA w u r l) (hk:k≤67108864) (hl:l≤67108864):
  Calls Tryz.prog 16 #[v,u] w fun e w'=>∃ x,e=.returned x/\aH w' w.heap.size x (q + r)/\aM w w':=by
 obtain ⟨s,p,n,c,t,y,m,d,rfl⟩:=hv.form
 obtain ⟨s',p',n',c',t',y',m',d',rfl⟩:=hu.form
 refine ah (C:=bS Tryz.prog w _) (args:=[_,_]) Tryz.func16 rfl Tryz.ntmps16 (bB rfl) ?_
 refine ab ?_
 refine VO.call rfl rfl (fk Tryz.func40) (fun bF cU bJ=>(cM _ q k bF (hv.kp cU) aa).mono ?_)
 rintro e w1 ⟨r1,rfl,q1,aK⟩
 obtain ⟨s1,p1,n1,c1,t1,y1,m1,d1,rfl⟩:=q1.form
 refine ⟨_,rfl,aK,fun dC _ bb1=>wV rfl ?_⟩
 refine ab ?_
 refine VO.call rfl rfl (fk Tryz.func40) (fun cK eg di=>(cM _ r l cK (hu.kp (dC.aF eg)) aa).mono ?_)
 rintro e w2 ⟨r2,rfl,q2,ba⟩
 obtain ⟨s2,p2,n2,c2,t2,y2,m2,d2,rfl⟩:=q2.form
 refine ⟨_,rfl,ba,fun ed _ bb2=>wV rfl ?_⟩
 refine ab ?_
 refine VO.call rfl rfl (fk Tryz.func45) (fun fh fE fG=>(oH _ _ q r _ _ fh (q1.kp (ed.aF fE)) (q2.kp fE) hv.sW hu.sW (by unfold fA;omega) (by unfold fA;omega)).mono ?_)
 rintro e w3 ⟨r3,rfl,q3,cG⟩
 obtain ⟨s3,p3,n3,c3,t3,y3,m3,d3,rfl⟩:=q3.form
 refine ⟨_,rfl,cG,fun gT _ bb3=>wV rfl ?_⟩
 refine ab ?_
 refine aY ?_;intro wz kz bz
 exact ⟨_,rfl,(q3.kp kz).mono fG.size,bz⟩
theorem Lr (v:Value) (q:Rat) (k:Nat) (w:World) (hv:bA w v q k) (hk:k≤536870912):
  Calls Tryz.prog 109 #[v] w fun e w'=>∃ x,e=.returned x/\aH w' w.heap.size x (-q)/\aM w w':=by
 obtain ⟨s,p,n,c,t,y,m,d,rfl⟩:=hv.form
 refine ah (C:=bS Tryz.prog w _) (args:=[_]) Tryz.func109 rfl Tryz.ntmps109 (bB rfl) ?_
 refine ab ?_
 refine VO.call rfl rfl (fk Tryz.func40) (fun bF cU bJ=>(cM _ q k bF (hv.kp cU) hk).mono ?_)
 rintro e w1 ⟨r1,rfl,q1,aK⟩
 obtain ⟨s1,p1,n1,c1,t1,y1,m1,d1,rfl⟩:=q1.form
 refine ⟨_,rfl,aK,fun dC _ bb1=>wV rfl ?_⟩
 refine ab ?_
 obtain ⟨a1,a2⟩:=q1.parts
 refine VO.call rfl rfl (fk Tryz.func113) (fun cK eg di=>(IK _ q.num _ cK ((a1.kp eg).to hv.sW.1) (by unfold fA;omega)).mono ?_)
 rintro e w2 ⟨r2,rfl,q2,ba⟩
 obtain ⟨s2,p2,n2,c2,rfl⟩:=q2.form
 refine ⟨_,rfl,ba,fun ed _ bb2=>wV rfl ?_⟩
 refine ab ?_
 refine VO.call rfl rfl (fk Tryz.func129) (fun fh fE fG=>(RA _ q.den _ fh ((a2.kp (ed.aF fE)).to hv.sW.2) (by unfold fA;omega)).mono ?_)
 rintro e w3 ⟨r3,rfl,q3,cG⟩
 obtain ⟨s3,p3,n3,c3,rfl⟩:=q3.form
 refine ⟨_,rfl,cG,fun gT _ bb3=>wV rfl ?_⟩
 refine ab ?_
 refine aY ?_;intro wz kz bz
 exact ⟨_,rfl,⟨_,_,_,_,_,_,_,_,rfl,aD.cast ((q2.kp (gT.aF kz)).mono di.size) (Rat.neg_num q).symm,aD.cast ((q3.kp kz).mono fG.size) (by rw [Rat.neg_den,Int.natAbs_natCast])⟩,bz⟩
theorem cZ (v u:Value) (q r:Rat) (k l:Nat) (w:World) (hv:bA w v q k) (hu:bA w u r l) (hk:k≤67108864) (hl:l≤67108864):
  Calls Tryz.prog 72 #[v,u] w fun e w'=>∃ x,e=.returned x/\aH w' w.heap.size x (q - r)/\aM w w':=by
 obtain ⟨s,p,n,c,t,y,m,d,rfl⟩:=hv.form
 obtain ⟨s',p',n',c',t',y',m',d',rfl⟩:=hu.form
 refine ah (C:=bS Tryz.prog w _) (args:=[_,_]) Tryz.func72 rfl Tryz.ntmps72 (bB rfl) ?_
 refine ab ?_
 refine VO.call rfl rfl (fk Tryz.func40) (fun bF cU bJ=>(cM _ q k bF (hv.kp cU) aa).mono ?_)
 rintro e w1 ⟨r1,rfl,q1,aK⟩
 obtain ⟨s1,p1,n1,c1,t1,y1,m1,d1,rfl⟩:=q1.form
 refine ⟨_,rfl,aK,fun dC _ bb1=>wV rfl ?_⟩
 refine ab ?_
 refine VO.call rfl rfl (fk Tryz.func109) (fun cK eg di=>(Lr _ r l cK (hu.kp (dC.aF eg)) aa).mono ?_)
 rintro e w2 ⟨r2,rfl,q2,ba⟩
 obtain ⟨s2,p2,n2,c2,t2,y2,m2,d2,rfl⟩:=q2.form
 refine ⟨_,rfl,ba,fun ed _ bb2=>wV rfl ?_⟩
 refine ab ?_
 refine VO.call rfl rfl (fk Tryz.func45) (fun fh fE fG=>(oH _ _ q (-r) _ _ fh (q1.kp (ed.aF fE)) (q2.kp fE).rd hv.sW hu.sW.neg (by unfold fA;omega) (by unfold fA;omega)).mono ?_)
 rintro e w3 ⟨r3,rfl,q3,cG⟩
 obtain ⟨s3,p3,n3,c3,t3,y3,m3,d3,rfl⟩:=q3.form
 refine ⟨_,rfl,cG,fun gT _ bb3=>wV rfl ?_⟩
 refine ab ?_
 refine aY ?_;intro wz kz bz
 exact ⟨_,rfl,aH.cast ((q3.kp kz).mono fG.size) (Rat.sub_eq_add_neg q r).symm,bz⟩
theorem Ls (v u:Value) (q r:Rat) (k l:Nat) (w:World) (hv:bA w v q k) (hu:bA w u r l) (hk:k≤67108864) (hl:l≤67108864):
  Calls Tryz.prog 105 #[v,u] w fun e w'=>∃ x,e=.returned x/\aH w' w.heap.size x (q * r)/\aM w w':=by
 obtain ⟨s,p,n,c,t,y,m,d,rfl⟩:=hv.form
 obtain ⟨s',p',n',c',t',y',m',d',rfl⟩:=hu.form
 have dq:(q.den:Int) * r.den≠0:=Int.mul_ne_zero (by have:=q.den_nz;omega) (by have:=r.den_nz;omega)
 have zq:=hv.sW
 have zr:=hu.sW
 have uk:fA k≤67108864:=by unfold fA;omega
 have ul:fA l≤67108864:=by unfold fA;omega
 refine ah (C:=bS Tryz.prog w _) (args:=[_,_]) Tryz.func105 rfl Tryz.ntmps105 (bB rfl) ?_
 refine ab ?_
 refine VO.call rfl rfl (fk Tryz.func40) (fun bF cU bJ=>(cM _ q k bF (hv.kp cU) aa).mono ?_)
 rintro e w1 ⟨r1,rfl,q1,aK⟩
 obtain ⟨s1,p1,n1,c1,t1,y1,m1,d1,rfl⟩:=q1.form
 refine ⟨_,rfl,aK,fun dC _ bb1=>wV rfl ?_⟩
 refine ab ?_
 refine VO.call rfl rfl (fk Tryz.func40) (fun cK eg di=>(cM _ r l cK (hu.kp (dC.aF eg)) aa).mono ?_)
 rintro e w2 ⟨r2,rfl,q2,ba⟩
 obtain ⟨s2,p2,n2,c2,t2,y2,m2,d2,rfl⟩:=q2.form
 refine ⟨_,rfl,ba,fun ed _ bb2=>wV rfl ?_⟩
 refine ab ?_
 obtain ⟨a1,a2⟩:=q1.parts
 obtain ⟨b1,b2⟩:=q2.parts
 refine VO.call rfl rfl (fk Tryz.func42) (fun fh fE fG=>(mw _ _ q.num r.num _ _ fh ((a1.kp (ed.aF fE)).to zq.1) ((b1.kp fE).to zr.1) aa aa).mono ?_)
 rintro e w3 ⟨r3,rfl,q3,cG⟩
 obtain ⟨s3,p3,n3,c3,rfl⟩:=q3.form
 refine ⟨_,rfl,cG,fun gT _ bb3=>wV rfl ?_⟩
 refine ab ?_
 refine VO.call rfl rfl (fk Tryz.func42) (fun iP jT jX=>(mw _ _ q.den r.den _ _ iP ((a2.kp (ed.aF (gT.aF jT))).to zq.2) ((b2.kp (gT.aF jT)).to zr.2) aa aa).mono ?_)
 rintro e w4 ⟨r4,rfl,q4,eV⟩
 obtain ⟨s4,p4,n4,c4,rfl⟩:=q4.form
 refine ⟨_,rfl,eV,fun lh _ sT=>wV rfl ?_⟩
 refine ab ?_
 refine VO.call rfl rfl (fk Tryz.func83) (fun gf jl gD=>(rC _ _ (q.num * r.num) ((q.den:Int) * r.den) _ _ gf ((q3.kp (lh.aF jl)).in (zq.1.mul zr.1)) ((q4.kp jl).in (zq.2.mul zr.2)) aa aa dq).mono ?_)
 rintro e w5 ⟨r5,rfl,q5,eE⟩
 obtain ⟨s5,p5,n5,c5,t5,y5,m5,d5,rfl⟩:=q5.form
 refine ⟨_,rfl,eE,fun jy _ qi=>wV rfl ?_⟩
 refine ab ?_
 refine aY ?_;intro wz kz bz
 exact ⟨_,rfl,aH.cast ((q5.kp kz).mono gD.size) (Fw q r).symm,bz⟩
theorem Jl (v:Value) (q:Rat) (k:Nat) (w:World) (hv:bA w v q k) (hk:k≤536870912):
  Calls Tryz.prog 13 #[v] w fun e w'=>e=.returned (.int .i64 (ea q 0))/\aM w w':=by
 obtain ⟨s,p,n,c,t,y,m,d,rfl⟩:=hv.form
 refine ah (C:=bS Tryz.prog w _) (args:=[_]) Tryz.func13 rfl Tryz.ntmps13 (bB rfl) ?_
 refine ab ?_
 refine VO.call rfl rfl (fk Tryz.func40) (fun bF cU bJ=>(cM _ q k bF (hv.kp cU) hk).mono ?_)
 rintro e w1 ⟨r1,rfl,q1,aK⟩
 obtain ⟨s1,p1,n1,c1,t1,y1,m1,d1,rfl⟩:=q1.form
 refine ⟨_,rfl,aK,fun dC _ bb1=>wV rfl ?_⟩
 refine ab ?_
 refine VO.call rfl rfl (fk Tryz.func43) (fun cK eg di=>(rZ _ q.num _ cK ((q1.parts.1.kp eg).to hv.sW.1)).mono ?_)
 rintro e w2 ⟨rfl,ba⟩
 rw [Ei]
 refine ⟨_,rfl,ba,fun ed _ bb2=>wV rfl ?_⟩
 refine ab ?_
 refine aY ?_;intro wz kz bz
 exact ⟨rfl,bz⟩
theorem tP (v u:Value) (q r:Rat) (k l:Nat) (w:World) (hv:bA w v q k) (hu:bA w u r l) (hk:k≤67108864) (hl:l≤67108864):
  Calls Tryz.prog 12 #[v,u] w fun e w'=>e=.returned (.int .i64 (ea q r))/\aM w w':=by
 obtain ⟨s,p,n,c,t,y,m,d,rfl⟩:=hv.form
 obtain ⟨s',p',n',c',t',y',m',d',rfl⟩:=hu.form
 have zq:=hv.sW
 have zr:=hu.sW
 have uk:fA k≤67108864:=by unfold fA;omega
 have ul:fA l≤67108864:=by unfold fA;omega
 refine ah (C:=bS Tryz.prog w _) (args:=[_,_]) Tryz.func12 rfl Tryz.ntmps12 (bB rfl) ?_
 refine ab ?_
 refine VO.call rfl rfl (fk Tryz.func40) (fun bF cU bJ=>(cM _ q k bF (hv.kp cU) aa).mono ?_)
 rintro e w1 ⟨r1,rfl,q1,aK⟩
 obtain ⟨s1,p1,n1,c1,t1,y1,m1,d1,rfl⟩:=q1.form
 refine ⟨_,rfl,aK,fun dC _ bb1=>wV rfl ?_⟩
 refine ab ?_
 refine VO.call rfl rfl (fk Tryz.func40) (fun cK eg di=>(cM _ r l cK (hu.kp (dC.aF eg)) aa).mono ?_)
 rintro e w2 ⟨r2,rfl,q2,ba⟩
 obtain ⟨s2,p2,n2,c2,t2,y2,m2,d2,rfl⟩:=q2.form
 refine ⟨_,rfl,ba,fun ed _ bb2=>wV rfl ?_⟩
 refine ab ?_
 obtain ⟨a1,a2⟩:=q1.parts
 obtain ⟨b1,b2⟩:=q2.parts
 refine VO.call rfl rfl (fk Tryz.func42) (fun fh fE fG=>(mw _ _ q.num r.den _ _ fh ((a1.kp (ed.aF fE)).to zq.1) ((b2.kp fE).to zr.2) aa aa).mono ?_)
 rintro e w3 ⟨r3,rfl,q3,cG⟩
 obtain ⟨s3,p3,n3,c3,rfl⟩:=q3.form
 refine ⟨_,rfl,cG,fun gT _ bb3=>wV rfl ?_⟩
 refine ab ?_
 refine VO.call rfl rfl (fk Tryz.func42) (fun iP jT jX=>(mw _ _ r.num q.den _ _ iP ((b1.kp (gT.aF jT)).to zr.1) ((a2.kp (ed.aF (gT.aF jT))).to zq.2) aa aa).mono ?_)
 rintro e w4 ⟨r4,rfl,q4,eV⟩
 obtain ⟨s4,p4,n4,c4,rfl⟩:=q4.form
 refine ⟨_,rfl,eV,fun lh _ sT=>wV rfl ?_⟩
 refine ab ?_
 refine VO.call rfl rfl (fk Tryz.func41) (fun gf jl gD=>(ru _ _ (q.num * r.den) (r.num * q.den) _ _ gf ((q3.kp (lh.aF jl)).in (zq.1.mul zr.2)) ((q4.kp jl).in (zr.1.mul zq.2)) aa aa).mono ?_)
 rintro e w5 ⟨rfl,eE⟩
 rw [Jj]
 refine ⟨_,rfl,eE,fun jy _ qi=>wV rfl ?_⟩
 refine ab ?_
 refine aY ?_;intro wz kz bz
 exact ⟨rfl,bz⟩
theorem rD (a b:Int):(a=b/\(a - b).sign=0)\/(a≠b/\((a - b).sign=1\/(a - b).sign= -1)):=by
 rcases Int.lt_trichotomy a b with e | e | e
 ·exact .inr ⟨by omega,.inr (sign_neg aa)⟩
 ·exact .inl ⟨e,by rw [e,Int.sub_self];rfl⟩
 ·exact .inr ⟨by omega,.inl (fb aa)⟩
theorem xP (v u:Value) (q r:Rat) (k l:Nat) (w:World) (hv:bA w v q k) (hu:bA w u r l) (hk:k≤67108864) (hl:l≤67108864):
  Calls Tryz.prog 91 #[v,u] w fun e w'=>e=.returned (.bool (decide (q=r)))/\aM w w':=by
 obtain ⟨s,p,n,c,t,y,m,d,rfl⟩:=hv.form
 obtain ⟨s',p',n',c',t',y',m',d',rfl⟩:=hu.form
 have zq:=hv.sW
 have zr:=hu.sW
 have uk:fA k≤67108864:=by unfold fA;omega
 have ul:fA l≤67108864:=by unfold fA;omega
 refine ah (C:=bS Tryz.prog w _) (args:=[_,_]) Tryz.func91 rfl Tryz.ntmps91 (bB rfl) ?_
 refine ab ?_
 refine VO.call rfl rfl (fk Tryz.func40) (fun bF cU bJ=>(cM _ q k bF (hv.kp cU) aa).mono ?_)
 rintro e w1 ⟨r1,rfl,q1,aK⟩
 obtain ⟨s1,p1,n1,c1,t1,y1,m1,d1,rfl⟩:=q1.form
 refine ⟨_,rfl,aK,fun dC _ bb1=>wV rfl ?_⟩
 refine ab ?_
 refine VO.call rfl rfl (fk Tryz.func40) (fun cK eg di=>(cM _ r l cK (hu.kp (dC.aF eg)) aa).mono ?_)
 rintro e w2 ⟨r2,rfl,q2,ba⟩
 obtain ⟨s2,p2,n2,c2,t2,y2,m2,d2,rfl⟩:=q2.form
 refine ⟨_,rfl,ba,fun ed _ bb2=>wV rfl ?_⟩
 refine ab ?_
 obtain ⟨a1,a2⟩:=q1.parts
 obtain ⟨b1,b2⟩:=q2.parts
 refine VO.call rfl rfl (fk Tryz.func41) (fun fh fE fG=>(ru _ _ q.num r.num _ _ fh ((a1.kp (ed.aF fE)).to zq.1) ((b1.kp fE).to zr.1) aa aa).mono ?_)
 rintro e w3 ⟨rfl,cG⟩
 rcases rD q.num r.num with ⟨hn,e⟩ | ⟨hn,e | e⟩
 ·rw [e]
  refine ⟨_,rfl,cG,fun gT _ bb3=>wV rfl ?_⟩
  refine ab ?_
  refine VO.call rfl rfl (fk Tryz.func41) (fun iP jT jX=>(ru _ _ (q.den:Int) r.den _ _ iP ((a2.kp (ed.aF (gT.aF jT))).to zq.2) ((b2.kp (gT.aF jT)).to zr.2) aa aa).mono ?_)
  rintro e w4 ⟨rfl,eV⟩
  rcases rD (q.den:Int) r.den with ⟨hd,e⟩ | ⟨hd,e | e⟩
  all_goals
   rw [e]
   refine ⟨_,rfl,eV,fun lh _ sT=>wV rfl ?_⟩
   refine ab ?_
   refine aY ?_;intro wz kz bz
  ·exact ⟨by rw [decide_eq_true (Rat.ext hn aa)];rfl,bz⟩
  ·exact ⟨by rw [decide_eq_false (fun e=>hd (by rw [e]))];rfl,bz⟩
  ·exact ⟨by rw [decide_eq_false (fun e=>hd (by rw [e]))];rfl,bz⟩
 ·rw [e]
  refine ⟨_,rfl,cG,fun gT _ bb3=>wV rfl ?_⟩
  refine ab ?_
  refine aY ?_;intro wz kz bz
  exact ⟨by rw [decide_eq_false (fun e=>hn (by rw [e]))];rfl,bz⟩
 ·rw [e]
  refine ⟨_,rfl,cG,fun gT _ bb3=>wV rfl ?_⟩
  refine ab ?_
  refine aY ?_;intro wz kz bz
  exact ⟨by rw [decide_eq_false (fun e=>hn (by rw [e]))];rfl,bz⟩
end
section
open Go.RowKit
attribute [local irreducible] aB VS
def jO (w:World) (v:Value) (qs:List Rat) (k:Nat):Prop:=
 ∃ p c,v=.slice p qs.length c/\qs.length≤c/\c≤maxLen/\∀ i q,qs[i]? =some q->∃ b off s p' n c' t r m d,p=some ⟨b,off,none⟩/\
   (∀ j u,[Value.bool s,.slice p' n c',.bool t,.slice r m d][j]? =some u->w.cell? ⟨b,off + i * 4 + j,none⟩=some u)/\bA w (.agg #[.bool s,.slice p' n c',.bool t,.slice r m d]) q k
theorem jO.form {w:World} {v:Value} {qs:List Rat} {k:Nat} (h:jO w v qs k):∃ p c,v=.slice p qs.length c/\qs.length≤c/\c≤maxLen:=by
 obtain ⟨p,c,hv,h1,h2,_⟩:=h
 exact ⟨p,c,hv,h1,h2⟩
theorem jO.at {w:World} {p:Option Addr} {n c:Nat} {qs:List Rat} {k i:Nat} {q:Rat} (h:jO w (.slice p n c) qs k) (hq:qs[i]? =some q):∃ b off s p' n' c' t r m d,p=some ⟨b,off,none⟩/\
  (∀ j u,[Value.bool s,.slice p' n' c',.bool t,.slice r m d][j]? =some u->w.cell? ⟨b,off + i * 4 + j,none⟩=some u)/\bA w (.agg #[.bool s,.slice p' n' c',.bool t,.slice r m d]) q k:=by
 obtain ⟨p',c',hv,h1,h2,h3⟩:=h
 cases hv
 exact h3 i q hq
theorem jO.bC {w w':World} {v:Value} {qs:List Rat} {k:Nat} (h:jO w v qs k) (hb:aM w w'):jO w' v qs k:=by
 obtain ⟨p,c,hv,h1,h2,h3⟩:=h
 refine ⟨p,c,hv,h1,h2,fun i q hq=> ?_⟩
 obtain ⟨b,off,s,p',n,c',t,r,m,d,hp,hc,hr⟩:=h3 i q hq
 exact ⟨b,off,s,p',n,c',t,r,m,d,hp,fun j u hj=>hb.cell (hc j u hj),hr.kp (Kp.of (U:=UU) hb)⟩
theorem aE {i:Nat} (h:i < 9223372036854775807):IntKind.i64.wrap ((i:Int) + 1)=((i + 1:Nat):Int):=by
 rw [IntWalk.i64_in _ aa];omega
def nO (qs:List Rat):Rat:=qs.foldl (·+ ·) 0
theorem cD {α:Type} {l:List α} {i:Nat} {x:α} (h:l[i]? =some x):l.take (i + 1)=l.take i++[x]:=by
 obtain ⟨hi,rfl⟩:=List.getElem?_eq_some_iff.1 h
 exact List.take_succ_eq_append_getElem hi
theorem Ej {qs:List Rat} {i:Nat} {q:Rat} (h:qs[i]? =some q):nO (qs.take (i + 1))=nO (qs.take i) + q:=by
 rw [cD h];simp [nO,List.foldl_append]
def jm (k i:Nat):Nat:=1 + i * (fA k + 1)
theorem Jm (k i:Nat):jm k (i + 1)=jm k i + fA k + 1:=by unfold jm;rw [Nat.add_mul,Nat.one_mul];omega
theorem Pb {k i n:Nat} (h:i≤n):jm k i≤jm k n:=by unfold jm;have:=Nat.mul_le_mul_right (fA k + 1) h;omega
theorem BA (v:Value) (qs:List Rat) (k:Nat) (w:World) (hv:jO w v qs k) (hk:jm k qs.length≤67108864):
  Calls Tryz.prog 14 #[v] w fun e w'=>∃ x,e=.returned x/\aH w' w.heap.size x (nO qs)/\eM (nO qs) (jm k qs.length)/\aM w w':=by
 obtain ⟨p,c,rfl,fM,gg⟩:=hv.form
 obtain ⟨N,hN⟩:∃ N,N=qs.length:=⟨_,rfl⟩
 rw [<-hN] at hv hk fM ⊢
 have hNm:N < 9223372036854775807:=by unfold jm at hk;have:=Nat.le_mul_of_pos_right N (show 0 < fA k + 1 by omega);omega
 have huk:fA k≤67108864\/N=0:=by
  rcases Nat.eq_zero_or_pos N with e | e
  ·exact .inr e
  ·left;unfold jm at hk;have:=Nat.le_mul_of_pos_left (fA k + 1) e;omega
 refine ah (C:=bS Tryz.prog w _) (args:=[_]) Tryz.func14 rfl Tryz.ntmps14 (bB rfl) ?_
 refine ab ?_
 refine VO.call rfl rfl (fk Tryz.func44) (fun bF cU bJ=>(cd 0 bF aa aa).mono ?_)
 rintro e w1 ⟨r1,rfl,q1,aK⟩
 obtain ⟨s1,p1,n1,c1,t1,y1,m1,d1,rfl⟩:=q1.form
 refine ⟨_,rfl,aK,fun dC _ bb1=>wV rfl ?_⟩
 refine ab ?_
 refine VS.loop (J:=fun n L M w'=>∃ i s p' n' c' t r m d,i≤N/\n=N - i/\L=[(7,.val (.slice p N c)),(8,.val (.int .i64 (N:Int))),(9,.val (.int .i64 (i:Int))),(3,.box 3 0),(2,.box 2 0)]/\
  M=[(2,(26,([.bool false,.slice none 0 0,.bool false,.slice none 0 0]:List Value).map .val)),(3,(26,([.bool s,.slice p' n' c',.bool t,.slice r m d]:List Value).map .val))]/\aH w' w.heap.size (.agg #[.bool s,.slice p' n' c',.bool t,.slice r m d]) (nO (qs.take i))/\eM (nO (qs.take i)) (jm k i)) N ⟨_,_,?_,?_,?_,?_,⟨0,s1,p1,n1,c1,t1,y1,m1,d1,by omega,by omega,rfl,rfl,(q1.mono bJ.size).cast (by simp [nO]),by simp only [List.take_zero,nO,List.foldl_nil,jm,Nat.zero_mul,Nat.add_zero];exact eM.zero⟩⟩ ?_
 ·exact bT
 ·exact bT
 ·rfl
 ·exact ic
 rintro n L M w' ⟨i,s,p',n',c',t,r,m,d,hi,rfl,rfl,rfl,ho,hz⟩
 refine ab ?_
 by_cases hlt:i < N
 ·obtain ⟨q,hq⟩:∃ q,qs[i]? =some q:=⟨_,List.getElem?_eq_getElem aa⟩
  obtain ⟨b,off,s2,p2,n2,c2,t2,r2,m2,d2,rfl,hc,rU⟩:=hv.at hq
  refine VS.aP rfl (decide_eq_true (Int.ofNat_lt.2 hlt)) ?_
  refine ab ?_
  refine VO.cond rfl du (wV rfl ?_)
  refine VO.read rfl [.bool s2,.slice p2 n2 c2,.bool t2,.slice r2 m2 d2] rfl (fun j u hj=>by rw [Addr.add_mid,Int.toNat_natCast];exact hc j u hj) (wV rfl ?_)
  refine ab ?_
  refine VO.call rfl rfl (fk Tryz.func40) (fun cK eg di=>(cM _ q k cK ((rU.kp (Kp.of (U:=UU) di))) (by have:=hk;unfold fA at *;omega)).mono ?_)
  rintro e w2 ⟨r2',rfl,q2,ba⟩
  obtain ⟨s3,p3,n3,c3,t3,y3,m3,d3,rfl⟩:=q2.form
  refine ⟨_,rfl,ba,fun ed _ bb2=>wV rfl ?_⟩
  refine ab ?_
  refine VO.call rfl rfl (fk Tryz.func45) (fun fh fE fG=>(oH _ _ (nO (qs.take i)) q (jm k i) (fA k) fh ((ho.kp (ed.aF fE)).rd) (q2.kp fE) hz rU.sW (by have:=Pb (k:=k) hi;omega) aa).mono ?_)
  rintro e w3 ⟨r3',rfl,q3,cG⟩
  obtain ⟨s4,p4,n4,c4,t4,y4,m4,d4,rfl⟩:=q3.form
  refine ⟨_,rfl,cG,fun gT _ bb3=>wV rfl ?_⟩
  refine ab ?_
  refine VS.back (N - (i + 1)) aa ⟨_,_,?_,?_,?_,?_,⟨i + 1,s4,p4,n4,c4,t4,y4,m4,d4,by omega,rfl,rfl,rfl,(q3.mono fG.size).cast (Ej hq).symm,by rw [Ej hq,Jm];exact hz.add rU.sW⟩⟩
  ·refine ⟨rfl,rfl,?_,rfl,rfl,trivial⟩
   rw [<-aE aa];rfl
  ·exact bT
  ·rfl
  ·exact ic
 ·refine VS.aQ rfl (decide_eq_false (fun e=>hlt (Int.ofNat_lt.1 e))) ?_
  refine ab ?_
  refine aY ?_;intro wz kz bz
  obtain rfl:i=N:=by omega
  rw [List.take_of_length_le aa] at ho hz
  exact ⟨_,rfl,ho.kp kz,hz,bz⟩
def iR (y x:Rat):Bool:=decide (ea y x < 0)
def gK (y x:Rat):Bool:=decide (ea y x > 0)
theorem Jn (v u:Value) (x y:Rat) (k l:Nat) (w:World) (hv:bA w v x k) (hu:bA w u y l) (hk:k≤67108864) (hl:l≤67108864):
  Calls Tryz.prog 108 #[v,u] w fun e w'=>e=.returned (.bool (iR y x))/\aM w w':=by
 obtain ⟨s,p,n,c,t,z,m,d,rfl⟩:=hv.form
 obtain ⟨s',p',n',c',t',z',m',d',rfl⟩:=hu.form
 refine ah (C:=bS Tryz.prog w _) (args:=[_,_]) Tryz.func108 rfl Tryz.ntmps108 (bB rfl) ?_
 refine ab ?_
 refine VO.call rfl rfl (fk Tryz.func12) (fun bF cU bJ=>(tP _ _ y x l k bF (hu.kp cU) (hv.kp cU) hl hk).mono ?_)
 rintro e w1 ⟨rfl,aK⟩
 skip
 refine ⟨_,rfl,aK,fun dC _ bb1=>wV rfl ?_⟩
 refine ab ?_
 refine aY ?_;intro wz kz bz
 exact ⟨rfl,bz⟩
theorem Jo (v u:Value) (x y:Rat) (k l:Nat) (w:World) (hv:bA w v x k) (hu:bA w u y l) (hk:k≤67108864) (hl:l≤67108864):
  Calls Tryz.prog 128 #[v,u] w fun e w'=>e=.returned (.bool (gK y x))/\aM w w':=by
 obtain ⟨s,p,n,c,t,z,m,d,rfl⟩:=hv.form
 obtain ⟨s',p',n',c',t',z',m',d',rfl⟩:=hu.form
 refine ah (C:=bS Tryz.prog w _) (args:=[_,_]) Tryz.func128 rfl Tryz.ntmps128 (bB rfl) ?_
 refine ab ?_
 refine VO.call rfl rfl (fk Tryz.func12) (fun bF cU bJ=>(tP _ _ y x l k bF (hu.kp cU) (hv.kp cU) hl hk).mono ?_)
 rintro e w1 ⟨rfl,aK⟩
 skip
 refine ⟨_,rfl,aK,fun dC _ bb1=>wV rfl ?_⟩
 refine ab ?_
 refine aY ?_;intro wz kz bz
 exact ⟨rfl,bz⟩
theorem Jp (s:Bool) (p:Option Addr) (n c:Nat) (t:Bool) (r:Option Addr) (m d:Nat) (w:World):
  Calls Tryz.prog 107 #[.agg #[.bool s,.slice p n c,.bool t,.slice r m d]] w fun e w'=>e=.returned (.func (.func 108) #[.agg #[.bool s,.slice p n c,.bool t,.slice r m d]] #[])/\aM w w':=by
 refine ah (C:=bS Tryz.prog w _) (args:=[_]) Tryz.func107 rfl Tryz.ntmps107 (bB rfl) ?_
 refine ab ?_
 refine aY ?_;intro wz kz bz
 exact ⟨rfl,bz⟩
theorem Jq (s:Bool) (p:Option Addr) (n c:Nat) (t:Bool) (r:Option Addr) (m d:Nat) (w:World):
  Calls Tryz.prog 127 #[.agg #[.bool s,.slice p n c,.bool t,.slice r m d]] w fun e w'=>e=.returned (.func (.func 128) #[.agg #[.bool s,.slice p n c,.bool t,.slice r m d]] #[])/\aM w w':=by
 refine ah (C:=bS Tryz.prog w _) (args:=[_]) Tryz.func127 rfl Tryz.ntmps127 (bB rfl) ?_
 refine ab ?_
 refine aY ?_;intro wz kz bz
 exact ⟨rfl,bz⟩
def et (better:Rat->Rat->Bool) (q:Rat) (qs:List Rat):Rat:=qs.foldl (fun o y=>if better y o=true then y else o) q
theorem tQ {better:Rat->Rat->Bool} {x:Rat} {qs:List Rat} {i:Nat} {q:Rat} (h:qs[i]? =some q):et better x (qs.take (i + 1))=if better q (et better x (qs.take i))=true then q else et better x (qs.take i):=by
 rw [cD h];unfold et;rw [List.foldl_append];rfl
theorem xQ (fB fL:FuncId) (better:Rat->Rat->Bool) (kB:pA Tryz.prog fB) (kL:pA Tryz.prog fL)
  (hB:∀ (s:Bool) (p:Option Addr) (n c:Nat) (t:Bool) (r:Option Addr) (m d:Nat) (w:World),Calls Tryz.prog fB #[.agg #[.bool s,.slice p n c,.bool t,.slice r m d]] w fun e w'=>e=.returned (.func (.func fL) #[.agg #[.bool s,.slice p n c,.bool t,.slice r m d]] #[])/\aM w w')
  (hL:∀ (v u:Value) (x y:Rat) (k l:Nat) (w:World),bA w v x k->bA w u y l->k≤67108864->l≤67108864->Calls Tryz.prog fL #[v,u] w fun e w'=>e=.returned (.bool (better y x))/\aM w w')
  (u v:Value) (q0:Rat) (qs:List Rat) (k:Nat) (w:World) (hu:bA w u q0 k) (hv:jO w v qs k) (hk:k≤67108863) (hlen:qs.length < 9223372036854775807):
  Calls Tryz.prog 106 #[u,v,.func (.func fB) #[] #[]] w fun e w'=>∃ x,e=.returned x/\aH w' w.heap.size x (et better q0 qs)/\eM (et better q0 qs) (fA k)/\aM w w':=by
 obtain ⟨s,p,n,c,t,y,m,d,rfl⟩:=hu.form
 obtain ⟨P,cc,rfl,fM,gg⟩:=hv.form
 obtain ⟨N,hN⟩:∃ N,N=qs.length:=⟨_,rfl⟩
 rw [<-hN] at hv hlen fM ⊢
 have zk:fA k≤67108864:=by unfold fA;omega
 refine ah (C:=bS Tryz.prog w _) (args:=[_,_,_]) Tryz.func106 rfl Tryz.ntmps106 (bB rfl) ?_
 refine ab ?_
 refine VO.call rfl rfl (fk Tryz.func40) (fun bF cU bJ=>(cM _ q0 k bF (hu.kp cU) aa).mono ?_)
 rintro e w1 ⟨r1,rfl,q1,aK⟩
 obtain ⟨s1,p1,n1,c1,t1,y1,m1,d1,rfl⟩:=q1.form
 refine ⟨_,rfl,aK,fun dC _ bb1=>wV rfl ?_⟩
 refine ab ?_
 refine VO.call rfl rfl (fk Tryz.func44) (fun cK eg di=>(cd 0 cK aa aa).mono ?_)
 rintro e w2 ⟨r2,rfl,q2,ba⟩
 obtain ⟨s2,p2,n2,c2,t2,y2,m2,d2,rfl⟩:=q2.form
 refine ⟨_,rfl,ba,fun ed _ bb2=>wV rfl ?_⟩
 refine ab ?_
 refine VO.call rfl rfl (fk Tryz.func45) (fun fh fE fG=>(oH _ _ q0 ((0:Int):Rat) (fA k) 1 fh (q1.kp (ed.aF fE)) (q2.kp fE).rd hu.sW eM.zero zk aa).mono ?_)
 rintro e w3 ⟨r3,rfl,q3,cG⟩
 obtain ⟨s3,p3,n3,c3,t3,y3,m3,d3,rfl⟩:=q3.form
 refine ⟨_,rfl,cG,fun gT _ bb3=>wV rfl ?_⟩
 refine ab ?_
 refine VS.loop (J:=fun n' L M w'=>∃ i s p' n c' t r m d,i≤N/\n'=N - i/\L=[(14,.val (.slice P N cc)),(15,.val (.int .i64 (N:Int))),(16,.val (.int .i64 (i:Int))),(2,.val (.func (.func fB) #[] #[])),(7,.box 7 0),(6,.box 6 0)]/\
  M=[(6,(26,([.bool false,.slice none 0 0,.bool false,.slice none 0 0]:List Value).map .val)),(7,(26,([.bool s,.slice p' n c',.bool t,.slice r m d]:List Value).map .val))]/\aH w' w.heap.size (.agg #[.bool s,.slice p' n c',.bool t,.slice r m d]) (et better q0 (qs.take i))/\eM (et better q0 (qs.take i)) (fA k)) N ⟨_,_,?_,?_,?_,?_,⟨0,s3,p3,n3,c3,t3,y3,m3,d3,by omega,by omega,rfl,rfl,(q3.mono fG.size).cast (Rat.add_zero _),hu.sW⟩⟩ ?_
 ·exact bT
 ·exact bT
 ·rfl
 ·exact ic
 rintro n' L M w' ⟨i,s,p',n,c',t,r,m,d,hi,rfl,rfl,rfl,ho,hz⟩
 refine ab ?_
 by_cases hlt:i < N
 ·obtain ⟨q,hq⟩:∃ q,qs[i]? =some q:=⟨_,List.getElem?_eq_getElem aa⟩
  obtain ⟨b,off,s2,p2,n2,c2,t2,r2,m2,d2,rfl,hc,rU⟩:=hv.at hq
  refine VS.aP rfl (decide_eq_true (Int.ofNat_lt.2 hlt)) ?_
  refine ab ?_
  refine VO.cond rfl du (wV rfl ?_)
  refine VO.read rfl [.bool s2,.slice p2 n2 c2,.bool t2,.slice r2 m2 d2] rfl (fun j u hj=>by rw [Addr.add_mid,Int.toNat_natCast];exact hc j u hj) (wV rfl ?_)
  refine ab ?_
  refine VO.call rfl rfl kB (fun iP jT jX=>(hB s p' n c' t r m d iP).mono ?_)
  rintro e w4 ⟨rfl,eV⟩
  refine ⟨_,rfl,eV,fun lh _ sT=>wV rfl ?_⟩
  refine ab ?_
  refine VO.call rfl rfl kL (fun gf jl gD=>(hL _ _ (et better q0 (qs.take i)) q _ k gf ((ho.kp (lh.aF jl)).in hz) (rU.kp (Kp.of (U:=UU) gD)) zk aa).mono ?_)
  rintro e w5 ⟨rfl,eE⟩
  refine ⟨_,rfl,eE,fun jy _ qi=>wV rfl ?_⟩
  refine ab ?_
  have Ek:=tQ (better:=better) (x:=q0) hq
  cases OD:better q (et better q0 (qs.take i))
  ·rw [OD] at Ek
   refine VS.aQ rfl rfl ?_
   refine ab ?_
   refine VS.back (N - (i + 1)) aa ⟨_,_,?_,?_,?_,?_,⟨i + 1,s,p',n,c',t,r,m,d,by omega,rfl,rfl,rfl,(ho.kp (lh.aF jy)).cast Ek.symm,by rw [Ek];exact hz⟩⟩
   ·refine ⟨rfl,rfl,?_,rfl,rfl,rfl,trivial⟩
    rw [<-aE aa];rfl
   ·exact bT
   ·rfl
   ·exact ic
  ·rw [OD] at Ek
   refine VS.aP rfl rfl ?_
   refine ab ?_
   refine VO.call rfl rfl (fk Tryz.func40) (fun gj kx iz=>(cM _ q k gj (rU.kp (Kp.of (U:=UU) iz)) aa).mono ?_)
   rintro e w6 ⟨r6,rfl,q6,fx⟩
   obtain ⟨s6,p6,n6,c6,t6,y6,m6,d6,rfl⟩:=q6.form
   refine ⟨_,rfl,fx,fun jz _ oX=>wV rfl ?_⟩
   refine ab ?_
   refine VO.call rfl rfl (fk Tryz.func44) (fun mz qj lZ=>(cd 0 mz aa aa).mono ?_)
   rintro e w7 ⟨r7,rfl,q7,lC⟩
   obtain ⟨s7,p7,n7,c7,t7,y7,m7,d7,rfl⟩:=q7.form
   refine ⟨_,rfl,lC,fun oC _ Bx=>wV rfl ?_⟩
   refine ab ?_
   refine VO.call rfl rfl (fk Tryz.func45) (fun sB CP vo=>(oH _ _ q ((0:Int):Rat) (fA k) 1 sB (q6.kp (oC.aF CP)) (q7.kp CP).rd rU.sW eM.zero zk aa).mono ?_)
   rintro e w8 ⟨r8,rfl,q8,qe⟩
   obtain ⟨s8,p8,n8,c8,t8,y8,m8,d8,rfl⟩:=q8.form
   refine ⟨_,rfl,qe,fun sC _ Kk=>wV rfl ?_⟩
   refine ab ?_
   refine VS.back (N - (i + 1)) aa ⟨_,_,?_,?_,?_,?_,⟨i + 1,s8,p8,n8,c8,t8,y8,m8,d8,by omega,rfl,rfl,rfl,(q8.mono vo.size).cast ((Rat.add_zero _).trans Ek.symm),by rw [Ek];exact rU.sW⟩⟩
   ·refine ⟨rfl,rfl,?_,rfl,rfl,rfl,trivial⟩
    rw [<-aE aa];rfl
   ·exact bT
   ·rfl
   ·exact ic
 ·refine VS.aQ rfl (decide_eq_false (fun e=>hlt (Int.ofNat_lt.1 e))) ?_
  refine ab ?_
  refine aY ?_;intro wz kz bz
  obtain rfl:i=N:=by omega
  rw [List.take_of_length_le aa] at ho hz
  exact ⟨_,rfl,ho.kp kz,hz,bz⟩
theorem gV (u v:Value) (q0:Rat) (qs:List Rat) (k:Nat) (w:World) (hu:bA w u q0 k) (hv:jO w v qs k) (hk:k≤67108863) (hlen:qs.length < 9223372036854775807):
  Calls Tryz.prog 71 #[u,v] w fun e w'=>∃ x,e=.returned x/\aH w' w.heap.size x (et iR q0 qs)/\eM (et iR q0 qs) (fA k)/\aM w w':=by
 obtain ⟨s,p,n,c,t,y,m,d,rfl⟩:=hu.form
 obtain ⟨P,cc,rfl,fM,gg⟩:=hv.form
 refine ah (C:=bS Tryz.prog w _) (args:=[_,_]) Tryz.func71 rfl Tryz.ntmps71 (bB rfl) ?_
 refine ab ?_
 refine VO.call rfl rfl (fk Tryz.func106) (fun bF cU bJ=>(xQ 107 108 iR (fk Tryz.func107) (fk Tryz.func108) Jp Jn _ _ q0 qs k bF (hu.kp cU) (hv.bC bJ) hk hlen).mono ?_)
 rintro e w1 ⟨r1,rfl,q1,z1,aK⟩
 obtain ⟨s1,p1,n1,c1,t1,y1,m1,d1,rfl⟩:=q1.form
 refine ⟨_,rfl,aK,fun dC _ bb1=>wV rfl ?_⟩
 refine ab ?_
 refine aY ?_;intro wz kz bz
 exact ⟨_,rfl,(q1.kp kz).mono bJ.size,z1,bz⟩
theorem Lt (u v:Value) (q0:Rat) (qs:List Rat) (k:Nat) (w:World) (hu:bA w u q0 k) (hv:jO w v qs k) (hk:k≤67108863) (hlen:qs.length < 9223372036854775807):
  Calls Tryz.prog 104 #[u,v] w fun e w'=>∃ x,e=.returned x/\aH w' w.heap.size x (et gK q0 qs)/\eM (et gK q0 qs) (fA k)/\aM w w':=by
 obtain ⟨s,p,n,c,t,y,m,d,rfl⟩:=hu.form
 obtain ⟨P,cc,rfl,fM,gg⟩:=hv.form
 refine ah (C:=bS Tryz.prog w _) (args:=[_,_]) Tryz.func104 rfl Tryz.ntmps104 (bB rfl) ?_
 refine ab ?_
 refine VO.call rfl rfl (fk Tryz.func106) (fun bF cU bJ=>(xQ 127 128 gK (fk Tryz.func127) (fk Tryz.func128) Jq Jo _ _ q0 qs k bF (hu.kp cU) (hv.bC bJ) hk hlen).mono ?_)
 rintro e w1 ⟨r1,rfl,q1,z1,aK⟩
 obtain ⟨s1,p1,n1,c1,t1,y1,m1,d1,rfl⟩:=q1.form
 refine ⟨_,rfl,aK,fun dC _ bb1=>wV rfl ?_⟩
 refine ab ?_
 refine aY ?_;intro wz kz bz
 exact ⟨_,rfl,(q1.kp kz).mono bJ.size,z1,bz⟩
end
set_option maxRecDepth 4000
section
open Go.RowKit
attribute [local irreducible] aB VS
theorem Jr (v u:Value) (X Y:Int) (j k:Nat) (w:World) (hv:cw w v X j) (hu:cw w u Y k) (hj:j≤1073741824) (hk:k≤1073741824):
  Calls Tryz.prog 116 #[v,u] w fun e w'=>e=.returned (.bool (decide (X=Y)))/\aM w w':=by
 obtain ⟨s,p,n,c,rfl⟩:=hv.form
 obtain ⟨t,q,m,d,rfl⟩:=hu.form
 refine ah (C:=bS Tryz.prog w _) (args:=[_,_]) Tryz.func116 rfl Tryz.ntmps116 (bB rfl) ?_
 refine ab ?_
 refine VO.call rfl rfl (fk Tryz.func117) (fun bF cU bJ=>(IW _ _ X Y j k bF (hv.kp cU) (hu.kp cU) hj hk).mono ?_)
 rintro e w1 ⟨rfl,aK⟩
 skip
 refine ⟨_,rfl,aK,fun dC _ bb1=>wV rfl ?_⟩
 refine ab ?_
 refine aY ?_;intro wz kz bz
 refine ⟨?_,bz⟩
 show Ending.returned (.bool (Bs X Y == 0))=_
 unfold Bs
 by_cases h:X=Y
 ·rw [h,decide_eq_true rfl,Int.sub_self];rfl
 ·rw [decide_eq_false h]
  have:((X - Y).sign == 0)=false:=by
   rw [beq_eq_false_iff_ne]
   intro e
   have:=Int.sign_eq_zero_iff_zero.1 e
   omega
  rw [this]
theorem vu (s t:Bool) (xs ys:List Nat) (v:Value) (w:World) (h:eR w v s xs t ys) (hx:xs.length≤134217728) (hy:ys.length≤134217728):
  Calls Tryz.prog 85 #[v] w fun e w'=>e=.returned (.bool (Cz s xs t ys))/\aM w w':=by
 obtain ⟨p,c,r,d,rfl,h1,h2⟩:=h
 refine ah (C:=bS Tryz.prog w _) (args:=[_]) Tryz.func85 rfl Tryz.ntmps85 (bB rfl) ?_
 refine ab ?_
 refine VO.call rfl rfl (fk Tryz.func115) (fun bF cU bJ=>(tG s xs _ bF (h1.bC bJ)).mono ?_)
 rintro e w1 ⟨rfl,aK⟩
 cases q1:dQ s xs
 ·refine ⟨_,rfl,aK,fun dC _ bb1=>wV rfl ?_⟩
  refine ab ?_
  refine aY ?_;intro wz kz bz
  exact ⟨by simp [Cz,q1,iX],bz⟩
 refine ⟨_,rfl,aK,fun dC _ bb1=>wV rfl ?_⟩
 refine ab ?_
 refine VO.call rfl rfl (fk Tryz.func115) (fun cK eg di=>(tG t ys _ cK (h2.bC di)).mono ?_)
 rintro e w2 ⟨rfl,ba⟩
 cases q2:dQ t ys
 ·refine ⟨_,rfl,ba,fun ed _ bb2=>wV rfl ?_⟩
  refine ab ?_
  refine aY ?_;intro wz kz bz
  exact ⟨by simp [Cz,q1,q2,iX],bz⟩
 refine ⟨_,rfl,ba,fun ed _ bb2=>wV rfl ?_⟩
 refine ab ?_
 refine VO.call rfl rfl (fk Tryz.func89) (fun fh fE fG=>(df _ (numOf t ys) _ fh ((h2.in (Nat.le_refl _)).bC fG) aa).mono ?_)
 rintro e w3 ⟨rfl,cG⟩
 by_cases q3:0 < numOf t ys
 ·rw [fb q3]
  refine ⟨_,rfl,cG,fun gT _ bb3=>wV rfl ?_⟩
  refine ab ?_
  refine VO.call rfl rfl (fk Tryz.func94) (fun iP jT jX=>(Bz _ _ (numOf s xs) (numOf t ys) _ _ iP ((h1.in (Nat.le_refl _)).bC jX) ((h2.in (Nat.le_refl _)).bC jX) aa aa).mono ?_)
  rintro e w4 ⟨r4,rfl,h4,eV⟩
  obtain ⟨s4,p4,n4,c4,rfl⟩:=h4.form
  refine ⟨_,rfl,eV,fun lh _ sT=>wV rfl ?_⟩
  refine ab ?_
  refine VO.call rfl rfl (fk Tryz.func59) (fun gf jl gD=>(lI 1 gf aa aa).mono ?_)
  rintro e w5 ⟨r5,rfl,h5,eE⟩
  obtain ⟨s5,p5,n5,c5,rfl⟩:=h5.form
  refine ⟨_,rfl,eE,fun jy _ qi=>wV rfl ?_⟩
  refine ab ?_
  have hg:Sz (Int.gcd (numOf s xs) (numOf t ys):Int) ys.length:=Fv (ve h2.lim (Nat.le_refl _)) aa
  refine VO.call rfl rfl (fk Tryz.func116) (fun gj kx iz=>(Jr _ _ (Int.gcd (numOf s xs) (numOf t ys):Int) 1 _ 1 gj ((h4.kp (jy.aF kx)).in hg) ((h5.kp kx).in (Sz.small bV)) aa aa).mono ?_)
  rintro e w6 ⟨rfl,fx⟩
  by_cases q4:Int.gcd (numOf s xs) (numOf t ys)=1
  ·rw [show decide ((Int.gcd (numOf s xs) (numOf t ys):Int)=1)=true from decide_eq_true aa]
   refine ⟨_,rfl,fx,fun jz _ oX=>wV rfl ?_⟩
   refine ab ?_
   refine aY ?_;intro wz kz bz
   exact ⟨by simp [Cz,q1,q2,q3,q4,iX],bz⟩
  ·rw [show decide ((Int.gcd (numOf s xs) (numOf t ys):Int)=1)=false from decide_eq_false aa]
   refine ⟨_,rfl,fx,fun jz _ oX=>wV rfl ?_⟩
   refine ab ?_
   refine aY ?_;intro wz kz bz
   exact ⟨by simp [Cz,q1,q2,q3,q4,iX],bz⟩
 ·have q4:(numOf t ys).sign=0\/(numOf t ys).sign= -1:=by
   rcases Int.lt_trichotomy (numOf t ys) 0 with e | e | e
   ·exact .inr (sign_neg e)
   ·rw [e];exact .inl rfl
   ·exact absurd e q3
  rcases q4 with q4 | q4
  all_goals
   rw [q4]
   refine ⟨_,rfl,cG,fun gT _ bb3=>wV rfl ?_⟩
   refine ab ?_
   refine aY ?_;intro wz kz bz
   exact ⟨by simp [Cz,q1,q2,q3,iX],bz⟩
theorem Fx (n:Int) (w:World) (h0: -9223372036854775808≤n) (h1:n≤9223372036854775807):
  Calls Tryz.prog 87 #[.int .i64 n] w fun e w'=>∃ r,e=.returned r/\aH w' w.heap.size r (n:Rat)/\aM w w':=by
 refine ah (C:=bS Tryz.prog w _) (args:=[_]) Tryz.func87 rfl Tryz.ntmps87 (bB rfl) ?_
 refine ab ?_
 refine VO.call rfl rfl (fk Tryz.func59) (fun bF cU bJ=>(lI n bF h0 h1).mono ?_)
 rintro e w1 ⟨r1,rfl,q1,aK⟩
 obtain ⟨s1,p1,n1,c1,rfl⟩:=q1.form
 refine ⟨_,rfl,aK,fun dC _ bb1=>wV rfl ?_⟩
 refine ab ?_
 refine VO.call rfl rfl (fk Tryz.func59) (fun cK eg di=>(lI 1 cK aa aa).mono ?_)
 rintro e w2 ⟨r2,rfl,q2,ba⟩
 obtain ⟨s2,p2,n2,c2,rfl⟩:=q2.form
 refine ⟨_,rfl,ba,fun ed _ bb2=>wV rfl ?_⟩
 refine ab ?_
 refine aY ?_;intro wz kz bz
 exact ⟨_,rfl,⟨_,_,_,_,_,_,_,_,rfl,(q1.kp (ed.aF kz)).mono bJ.size,(q2.kp kz).mono di.size⟩,bz⟩
theorem rE (w:World):Calls Tryz.prog 25 #[] w fun e w'=>∃ r,e=.returned r/\aH w' w.heap.size r 0/\aM w w':=by
 refine ah (C:=bS Tryz.prog w _) (args:=[]) Tryz.func25 rfl Tryz.ntmps25 (bB rfl) ?_
 refine ab ?_
 refine VO.call rfl rfl (fk Tryz.func59) (fun bF cU bJ=>(lI 0 bF aa aa).mono ?_)
 rintro e w1 ⟨r1,rfl,q1,aK⟩
 obtain ⟨s1,p1,n1,c1,rfl⟩:=q1.form
 refine ⟨_,rfl,aK,fun dC _ bb1=>wV rfl ?_⟩
 refine ab ?_
 refine VO.call rfl rfl (fk Tryz.func59) (fun cK eg di=>(lI 1 cK aa aa).mono ?_)
 rintro e w2 ⟨r2,rfl,q2,ba⟩
 obtain ⟨s2,p2,n2,c2,rfl⟩:=q2.form
 refine ⟨_,rfl,ba,fun ed _ bb2=>wV rfl ?_⟩
 refine ab ?_
 refine aY ?_;intro wz kz bz
 exact ⟨_,rfl,⟨_,_,_,_,_,_,_,_,rfl,(q1.kp (ed.aF kz)).mono bJ.size,(q2.kp kz).mono di.size⟩,bz⟩
theorem dZ (v:Value) (q:Rat) (k:Nat) (w:World) (h:bA w v q k) (hk:k≤134217728):
  Calls Tryz.prog 60 #[v] w fun e w'=>∃ r,e=.returned r/\bI w' r q/\aM w w':=by
 obtain ⟨s,xs,t,ys,wU,rfl,hx,hy⟩:=h
 have Ji:=wU
 obtain ⟨p,c,r,d,rfl,_,_⟩:=wU
 refine ah (C:=bS Tryz.prog w _) (args:=[_]) Tryz.func60 rfl Tryz.ntmps60 (bB rfl) ?_
 refine ab ?_
 refine VO.call rfl rfl (fk Tryz.func85) (fun bF cU bJ=>(vu s t xs ys _ bF (Ji.kp cU) aa aa).mono ?_)
 rintro e w1 ⟨rfl,aK⟩
 cases hq:Cz s xs t ys
 ·refine ⟨_,rfl,aK,fun dC _ bb1=>wV rfl ?_⟩
  refine ab ?_
  refine VO.call rfl rfl (fk Tryz.func25) (fun cK eg di=>(rE cK).mono ?_)
  rintro e w2 ⟨r2,rfl,h2,ba⟩
  obtain ⟨s2,p2,n2,c2,t2,y2,m2,d2,rfl⟩:=h2.form
  refine ⟨_,rfl,ba,fun ed _ bb2=>wV rfl ?_⟩
  refine ab ?_
  refine aY ?_;intro wz kz bz
  exact ⟨_,rfl,by rw [Jg hq];exact (h2.kp kz).rd,bz⟩
 ·refine ⟨_,rfl,aK,fun dC _ bb1=>wV rfl ?_⟩
  refine ab ?_
  refine aY ?_;intro wz kz bz
  exact ⟨_,rfl,(Jh Ji hq).kp (dC.aF kz),bz⟩
theorem Sl {X Y:Int}:Rat.divInt X Y=Rat.divInt (-X) (-Y):=(Rat.neg_divInt_neg X Y).symm
theorem tR (v u:Value) (X Y:Int) (j k:Nat) (w:World) (hv:cw w v X j) (hu:cw w u Y k) (hj:j≤134217728) (hk:k≤134217728):
  Calls Tryz.prog 61 #[v,u] w fun e w'=>∃ r,e=.returned (.tuple #[r,.int .i64 (Jk Y)])/\aH w' w.heap.size r (Rat.divInt X Y)/\aM w w':=by
 obtain ⟨s,p,n,c,rfl⟩:=hv.form
 obtain ⟨t,r,m,d,rfl⟩:=hu.form
 refine ah (C:=bS Tryz.prog w _) (args:=[_,_]) Tryz.func61 rfl Tryz.ntmps61 (bB rfl) ?_
 refine ab ?_
 refine VO.call rfl rfl (fk Tryz.func89) (fun bF cU bJ=>(df _ Y k bF (hu.bC bJ) aa).mono ?_)
 rintro e w1 ⟨rfl,aK⟩
 by_cases hY:Y=0
 ·rw [show Y.sign=0 by rw [hY];rfl]
  refine ⟨_,rfl,aK,fun dC _ bb1=>wV rfl ?_⟩
  refine ab ?_
  refine VO.call rfl rfl (fk Tryz.func25) (fun cK eg di=>(rE cK).mono ?_)
  rintro e w2 ⟨r2,rfl,h2,ba⟩
  obtain ⟨s2,p2,n2,c2,t2,y2,m2,d2,rfl⟩:=h2.form
  refine ⟨_,rfl,ba,fun ed _ bb2=>wV rfl ?_⟩
  refine ab ?_
  refine aY ?_;intro wz kz bz
  refine ⟨_,by rw [Jk,if_pos hY];rfl,?_,bz⟩
  rw [hY,Rat.divInt_zero]
  exact (h2.kp kz).mono di.size
 ·rcases Int.lt_or_lt_of_ne hY with q | q
  ·rw [sign_neg q]
   refine ⟨_,rfl,aK,fun dC _ bb1=>wV rfl ?_⟩
   refine ab ?_
   refine VO.call rfl rfl (fk Tryz.func89) (fun cK eg di=>(df _ Y k cK (hu.bC di) aa).mono ?_)
   rintro e w2 ⟨rfl,ba⟩
   rw [sign_neg q]
   refine ⟨_,rfl,ba,fun ed _ bb2=>wV rfl ?_⟩
   refine ab ?_
   refine VO.call rfl rfl (fk Tryz.func93) (fun fh fE fG=>(vf _ X j fh (hv.bC fG) aa).mono ?_)
   rintro e w3 ⟨r3,rfl,h3,cG⟩
   obtain ⟨s3,p3,n3,c3,rfl⟩:=h3.form
   refine ⟨_,rfl,cG,fun gT _ bb3=>wV rfl ?_⟩
   refine ab ?_
   refine VO.call rfl rfl (fk Tryz.func93) (fun iP jT jX=>(vf _ Y k iP (hu.bC jX) aa).mono ?_)
   rintro e w4 ⟨r4,rfl,h4,eV⟩
   obtain ⟨s4,p4,n4,c4,rfl⟩:=h4.form
   refine ⟨_,rfl,eV,fun lh _ sT=>wV rfl ?_⟩
   refine ab ?_
   have z3:Sz (-X) j:=Sz.neg hv.len
   have z4:Sz (-Y) k:=Sz.neg hu.len
   obtain ⟨l1,l2⟩:=zW (X:= -X) (Y:= -Y) aa
   have Sj:Sz (Int.gcd (-X) (-Y):Int) k:=Fv z4 aa
   have RG:(Int.gcd (-X) (-Y):Int)≠0:=by
    intro e
    have:=(Int.gcd_eq_zero_iff.1 (show Int.gcd (-X) (-Y)=0 by omega)).2
    omega
   refine VO.call rfl rfl (fk Tryz.func94) (fun gf jl gD=>(Bz _ _ (-X) (-Y) j k gf ((h3.kp (lh.aF jl)).in z3) ((h4.kp jl).in z4) aa aa).mono ?_)
   rintro e w5 ⟨r5,rfl,h5,eE⟩
   obtain ⟨s5,p5,n5,c5,rfl⟩:=h5.form
   refine ⟨_,rfl,eE,fun jy _ qi=>wV rfl ?_⟩
   refine ab ?_
   refine VO.call rfl rfl (fk Tryz.func95) (fun gj kx iz=>(nc _ _ (-X) (Int.gcd (-X) (-Y):Int) j k gj ((h3.kp (lh.aF (jy.aF kx))).in z3) ((h5.kp kx).in Sj) aa aa).mono ?_)
   rintro e w6 ⟨hd6,fx⟩
   obtain ⟨v6,u6,rfl,h6,h6'⟩:=fP hd6 RG
   obtain ⟨s6,p6,n6,c6,rfl⟩:=h6.form
   obtain ⟨t6,r6,m6,d6,rfl⟩:=h6'.form
   refine ⟨_,rfl,fx,fun jz _ oX=>wV rfl ?_⟩
   refine ab ?_
   refine VO.call rfl rfl (fk Tryz.func95) (fun mz qj lZ=>(nc _ _ (-Y) (Int.gcd (-X) (-Y):Int) k k mz ((h4.kp (jy.aF (jz.aF qj))).in z4) ((h5.kp (jz.aF qj)).in Sj) aa aa).mono ?_)
   rintro e w7 ⟨hd7,lC⟩
   obtain ⟨v7,u7,rfl,h7,h7'⟩:=fP hd7 RG
   obtain ⟨s7,p7,n7,c7,rfl⟩:=h7.form
   obtain ⟨t7,r7,m7,d7,rfl⟩:=h7'.form
   refine ⟨_,rfl,lC,fun oC _ Bx=>wV rfl ?_⟩
   refine ab ?_
   refine aY ?_;intro wz kz bz
   rw [Sl]
   exact ⟨_,by rw [Jk,if_neg hY];rfl,⟨_,_,_,_,_,_,_,_,rfl,aD.cast ((h6.kp (oC.aF kz)).mono iz.size) l1,aD.cast ((h7.kp kz).mono lZ.size) l2⟩,bz⟩
  ·rw [fb q]
   refine ⟨_,rfl,aK,fun dC _ bb1=>wV rfl ?_⟩
   refine ab ?_
   refine VO.call rfl rfl (fk Tryz.func89) (fun cK eg di=>(df _ Y k cK (hu.bC di) aa).mono ?_)
   rintro e w2 ⟨rfl,ba⟩
   rw [fb q]
   refine ⟨_,rfl,ba,fun ed _ bb2=>wV rfl ?_⟩
   refine ab ?_
   obtain ⟨l1,l2⟩:=zW (X:=X) (Y:=Y) q
   have Sj:Sz (Int.gcd X Y:Int) k:=Fv hu.len hY
   have RG:(Int.gcd X Y:Int)≠0:=by
    intro e
    have:=(Int.gcd_eq_zero_iff.1 (show Int.gcd X Y=0 by omega)).2
    omega
   refine VO.call rfl rfl (fk Tryz.func94) (fun gf jl gD=>(Bz _ _ X Y j k gf (hv.bC gD) (hu.bC gD) aa aa).mono ?_)
   rintro e w5 ⟨r5,rfl,h5,eE⟩
   obtain ⟨s5,p5,n5,c5,rfl⟩:=h5.form
   refine ⟨_,rfl,eE,fun jy _ qi=>wV rfl ?_⟩
   refine ab ?_
   refine VO.call rfl rfl (fk Tryz.func95) (fun gj kx iz=>(nc _ _ X (Int.gcd X Y:Int) j k gj (hv.bC iz) ((h5.kp kx).in Sj) aa aa).mono ?_)
   rintro e w6 ⟨hd6,fx⟩
   obtain ⟨v6,u6,rfl,h6,h6'⟩:=fP hd6 RG
   obtain ⟨s6,p6,n6,c6,rfl⟩:=h6.form
   obtain ⟨t6,r6,m6,d6,rfl⟩:=h6'.form
   refine ⟨_,rfl,fx,fun jz _ oX=>wV rfl ?_⟩
   refine ab ?_
   refine VO.call rfl rfl (fk Tryz.func95) (fun mz qj lZ=>(nc _ _ Y (Int.gcd X Y:Int) k k mz (hu.bC lZ) ((h5.kp (jz.aF qj)).in Sj) aa aa).mono ?_)
   rintro e w7 ⟨hd7,lC⟩
   obtain ⟨v7,u7,rfl,h7,h7'⟩:=fP hd7 RG
   obtain ⟨s7,p7,n7,c7,rfl⟩:=h7.form
   obtain ⟨t7,r7,m7,d7,rfl⟩:=h7'.form
   refine ⟨_,rfl,lC,fun oC _ Bx=>wV rfl ?_⟩
   refine ab ?_
   refine aY ?_;intro wz kz bz
   exact ⟨_,by rw [Jk,if_neg hY];rfl,⟨_,_,_,_,_,_,_,_,rfl,aD.cast ((h6.kp (oC.aF kz)).mono iz.size) l1,aD.cast ((h7.kp kz).mono lZ.size) l2⟩,bz⟩
theorem Pc (n d:Int) (w:World) (h0: -9223372036854775808≤n) (h1:n≤9223372036854775807) (g0: -9223372036854775808≤d) (g1:d≤9223372036854775807):
  Calls Tryz.prog 66 #[.int .i64 n,.int .i64 d] w fun e w'=>∃ r,e=.returned (.tuple #[r,.int .i64 (Jk d)])/\aH w' w.heap.size r (Rat.divInt n d)/\aM w w':=by
 refine ah (C:=bS Tryz.prog w _) (args:=[_,_]) Tryz.func66 rfl Tryz.ntmps66 (bB rfl) ?_
 refine ab ?_
 refine VO.call rfl rfl (fk Tryz.func59) (fun bF cU bJ=>(lI n bF h0 h1).mono ?_)
 rintro e w1 ⟨r1,rfl,q1,aK⟩
 obtain ⟨s1,p1,n1,c1,rfl⟩:=q1.form
 refine ⟨_,rfl,aK,fun dC _ bb1=>wV rfl ?_⟩
 refine ab ?_
 refine VO.call rfl rfl (fk Tryz.func59) (fun cK eg di=>(lI d cK g0 g1).mono ?_)
 rintro e w2 ⟨r2,rfl,q2,ba⟩
 obtain ⟨s2,p2,n2,c2,rfl⟩:=q2.form
 refine ⟨_,rfl,ba,fun ed _ bb2=>wV rfl ?_⟩
 refine ab ?_
 refine VO.call rfl rfl (fk Tryz.func61) (fun fh fE fG=>(tR _ _ n d 2 2 fh ((q1.kp (ed.aF fE)).in (Sz.of_lt aa)) ((q2.kp fE).in (Sz.of_lt aa)) aa aa).mono ?_)
 rintro e w3 ⟨r3,rfl,q3,cG⟩
 obtain ⟨s3,p3,n3,c3,t3,x3,m3,d3,rfl⟩:=q3.form
 refine ⟨_,rfl,cG,fun gT _ bb3=>wV rfl ?_⟩
 refine ab ?_
 refine aY ?_;intro wz kz bz
 exact ⟨_,rfl,(q3.kp kz).mono fG.size,bz⟩
theorem gW (v u:Value) (q r:Rat) (k l:Nat) (w:World) (hv:bA w v q k) (hu:bA w u r l) (hk:k≤33554432) (hl:l≤33554432):
  Calls Tryz.prog 27 #[v,u] w fun e w'=>∃ x,e=.returned x/\aH w' w.heap.size x (q + r)/\aM w w':=by
 obtain ⟨s,p,n,c,t,y,m,d,rfl⟩:=hv.form
 obtain ⟨s',p',n',c',t',y',m',d',rfl⟩:=hu.form
 have zq:=hv.sW
 have zr:=hu.sW
 have uk:fA k≤33554432:=by unfold fA;omega
 have ul:fA l≤33554432:=by unfold fA;omega
 refine ah (C:=bS Tryz.prog w _) (args:=[_,_]) Tryz.func27 rfl Tryz.ntmps27 (bB rfl) ?_
 refine ab ?_
 refine VO.call rfl rfl (fk Tryz.func60) (fun bF cU bJ=>(dZ _ q k bF (hv.kp cU) aa).mono ?_)
 rintro e w1 ⟨r1,rfl,q1,aK⟩
 obtain ⟨s1,p1,n1,c1,t1,y1,m1,d1,rfl⟩:=q1.form
 refine ⟨_,rfl,aK,fun dC _ bb1=>wV rfl ?_⟩
 refine ab ?_
 refine VO.call rfl rfl (fk Tryz.func60) (fun cK eg di=>(dZ _ r l cK (hu.kp (dC.aF eg)) aa).mono ?_)
 rintro e w2 ⟨r2,rfl,q2,ba⟩
 obtain ⟨s2,p2,n2,c2,t2,y2,m2,d2,rfl⟩:=q2.form
 refine ⟨_,rfl,ba,fun ed _ bb2=>wV rfl ?_⟩
 refine ab ?_
 obtain ⟨a1,a2⟩:=q1.parts
 obtain ⟨b1,b2⟩:=q2.parts
 refine VO.call rfl rfl (fk Tryz.func63) (fun fh fE fG=>(rA _ _ q.num r.den _ _ fh ((a1.kp (ed.aF fE)).to zq.1) ((b2.kp fE).to zr.2) aa aa).mono ?_)
 rintro e w3 ⟨r3,rfl,q3,cG⟩
 obtain ⟨s3,p3,n3,c3,rfl⟩:=q3.form
 refine ⟨_,rfl,cG,fun gT _ bb3=>wV rfl ?_⟩
 refine ab ?_
 refine VO.call rfl rfl (fk Tryz.func63) (fun iP jT jX=>(rA _ _ r.num q.den _ _ iP ((b1.kp (gT.aF jT)).to zr.1) ((a2.kp (ed.aF (gT.aF jT))).to zq.2) aa aa).mono ?_)
 rintro e w4 ⟨r4,rfl,q4,eV⟩
 obtain ⟨s4,p4,n4,c4,rfl⟩:=q4.form
 refine ⟨_,rfl,eV,fun lh _ sT=>wV rfl ?_⟩
 refine ab ?_
 refine VO.call rfl rfl (fk Tryz.func62) (fun gf jl gD=>(vg _ _ (q.num * r.den) (r.num * q.den) (fA k + fA l) (fA l + fA k) gf ((q3.kp (lh.aF jl)).in (zq.1.mul zr.2)) ((q4.kp jl).in (zr.1.mul zq.2)) aa aa).mono ?_)
 rintro e w5 ⟨r5,rfl,q5,eE⟩
 obtain ⟨s5,p5,n5,c5,rfl⟩:=q5.form
 refine ⟨_,rfl,eE,fun jy _ qi=>wV rfl ?_⟩
 refine ab ?_
 refine VO.call rfl rfl (fk Tryz.func63) (fun gj kx iz=>(rA _ _ q.den r.den _ _ gj ((a2.kp (ed.aF (gT.aF (lh.aF (jy.aF kx))))).to zq.2) ((b2.kp (gT.aF (lh.aF (jy.aF kx)))).to zr.2) aa aa).mono ?_)
 rintro e w6 ⟨r6,rfl,q6,fx⟩
 obtain ⟨s6,p6,n6,c6,rfl⟩:=q6.form
 refine ⟨_,rfl,fx,fun jz _ oX=>wV rfl ?_⟩
 refine ab ?_
 refine VO.call rfl rfl (fk Tryz.func61) (fun mz qj lZ=>(tR _ _ (q.num * r.den + r.num * q.den) ((q.den:Int) * r.den) (fA k + fA l + 1) (fA k + fA l) mz ((q5.kp (jz.aF qj)).in (Sz.add (zq.1.mul zr.2) (zr.1.mul zq.2) (m:=fA k + fA l) aa aa)) ((q6.kp qj).in (zq.2.mul zr.2)) aa aa).mono ?_)
 rintro e w7 ⟨r7,rfl,q7,lC⟩
 obtain ⟨s7,p7,n7,c7,t7,y7,m7,d7,rfl⟩:=q7.form
 refine ⟨_,rfl,lC,fun oC _ Bx=>wV rfl ?_⟩
 refine ab ?_
 refine aY ?_;intro wz kz bz
 exact ⟨_,rfl,aH.cast ((q7.kp kz).mono lZ.size) (Aa q r).symm,bz⟩
theorem Lu (v:Value) (q:Rat) (k:Nat) (w:World) (hv:bA w v q k) (hk:k≤134217728):
  Calls Tryz.prog 88 #[v] w fun e w'=>∃ x,e=.returned x/\bI w' x (-q)/\aM w w':=by
 obtain ⟨s,p,n,c,t,y,m,d,rfl⟩:=hv.form
 refine ah (C:=bS Tryz.prog w _) (args:=[_]) Tryz.func88 rfl Tryz.ntmps88 (bB rfl) ?_
 refine ab ?_
 refine VO.call rfl rfl (fk Tryz.func60) (fun bF cU bJ=>(dZ _ q k bF (hv.kp cU) hk).mono ?_)
 rintro e w1 ⟨r1,rfl,q1,aK⟩
 obtain ⟨s1,p1,n1,c1,t1,y1,m1,d1,rfl⟩:=q1.form
 refine ⟨_,rfl,aK,fun dC _ bb1=>wV rfl ?_⟩
 refine ab ?_
 obtain ⟨a1,a2⟩:=q1.parts
 refine VO.call rfl rfl (fk Tryz.func93) (fun cK eg di=>(vf _ q.num _ cK ((a1.kp eg).to hv.sW.1) (by unfold fA;omega)).mono ?_)
 rintro e w2 ⟨r2,rfl,q2,ba⟩
 obtain ⟨s2,p2,n2,c2,rfl⟩:=q2.form
 refine ⟨_,rfl,ba,fun ed _ bb2=>wV rfl ?_⟩
 refine ab ?_
 refine aY ?_;intro wz kz bz
 refine ⟨_,rfl,⟨_,_,_,_,_,_,_,_,rfl,?_,?_⟩,bz⟩
 ·rw [Rat.neg_num];exact (q2.kp kz).rd
 ·rw [Rat.neg_den];exact a2.kp (ed.aF kz)
theorem dy (v u:Value) (q r:Rat) (k l:Nat) (w:World) (hv:bA w v q k) (hu:bA w u r l) (hk:k≤33554432) (hl:l≤33554431):
  Calls Tryz.prog 51 #[v,u] w fun e w'=>∃ x,e=.returned x/\aH w' w.heap.size x (q - r)/\aM w w':=by
 obtain ⟨s,p,n,c,t,y,m,d,rfl⟩:=hv.form
 obtain ⟨s',p',n',c',t',y',m',d',rfl⟩:=hu.form
 refine ah (C:=bS Tryz.prog w _) (args:=[_,_]) Tryz.func51 rfl Tryz.ntmps51 (bB rfl) ?_
 refine ab ?_
 refine VO.call rfl rfl (fk Tryz.func88) (fun bF cU bJ=>(Lu _ r l bF (hu.kp cU) aa).mono ?_)
 rintro e w1 ⟨r1,rfl,q1,aK⟩
 obtain ⟨s1,p1,n1,c1,t1,y1,m1,d1,rfl⟩:=q1.form
 refine ⟨_,rfl,aK,fun dC _ bb1=>wV rfl ?_⟩
 refine ab ?_
 refine VO.call rfl rfl (fk Tryz.func27) (fun cK eg di=>(gW _ _ q (-r) k (fA l) cK (hv.kp (dC.aF eg)) ((q1.kp eg).to hu.sW.neg) hk (by unfold fA;omega)).mono ?_)
 rintro e w2 ⟨r2,rfl,q2,ba⟩
 obtain ⟨s2,p2,n2,c2,t2,y2,m2,d2,rfl⟩:=q2.form
 refine ⟨_,rfl,ba,fun ed _ bb2=>wV rfl ?_⟩
 refine ab ?_
 refine aY ?_;intro wz kz bz
 exact ⟨_,rfl,aH.cast ((q2.kp kz).mono di.size) (Rat.sub_eq_add_neg q r).symm,bz⟩
theorem tT (v u:Value) (q r:Rat) (k l:Nat) (w:World) (hv:bA w v q k) (hu:bA w u r l) (hk:k≤33554432) (hl:l≤33554432):
  Calls Tryz.prog 49 #[v,u] w fun e w'=>∃ x,e=.returned x/\aH w' w.heap.size x (q * r)/\aM w w':=by
 obtain ⟨s,p,n,c,t,y,m,d,rfl⟩:=hv.form
 obtain ⟨s',p',n',c',t',y',m',d',rfl⟩:=hu.form
 have zq:=hv.sW
 have zr:=hu.sW
 have uk:fA k≤33554432:=by unfold fA;omega
 have ul:fA l≤33554432:=by unfold fA;omega
 refine ah (C:=bS Tryz.prog w _) (args:=[_,_]) Tryz.func49 rfl Tryz.ntmps49 (bB rfl) ?_
 refine ab ?_
 refine VO.call rfl rfl (fk Tryz.func60) (fun bF cU bJ=>(dZ _ q k bF (hv.kp cU) aa).mono ?_)
 rintro e w1 ⟨r1,rfl,q1,aK⟩
 obtain ⟨s1,p1,n1,c1,t1,y1,m1,d1,rfl⟩:=q1.form
 refine ⟨_,rfl,aK,fun dC _ bb1=>wV rfl ?_⟩
 refine ab ?_
 refine VO.call rfl rfl (fk Tryz.func60) (fun cK eg di=>(dZ _ r l cK (hu.kp (dC.aF eg)) aa).mono ?_)
 rintro e w2 ⟨r2,rfl,q2,ba⟩
 obtain ⟨s2,p2,n2,c2,t2,y2,m2,d2,rfl⟩:=q2.form
 refine ⟨_,rfl,ba,fun ed _ bb2=>wV rfl ?_⟩
 refine ab ?_
 obtain ⟨a1,a2⟩:=q1.parts
 obtain ⟨b1,b2⟩:=q2.parts
 refine VO.call rfl rfl (fk Tryz.func63) (fun fh fE fG=>(rA _ _ q.num r.num _ _ fh ((a1.kp (ed.aF fE)).to zq.1) ((b1.kp fE).to zr.1) aa aa).mono ?_)
 rintro e w3 ⟨r3,rfl,q3,cG⟩
 obtain ⟨s3,p3,n3,c3,rfl⟩:=q3.form
 refine ⟨_,rfl,cG,fun gT _ bb3=>wV rfl ?_⟩
 refine ab ?_
 refine VO.call rfl rfl (fk Tryz.func63) (fun iP jT jX=>(rA _ _ q.den r.den _ _ iP ((a2.kp (ed.aF (gT.aF jT))).to zq.2) ((b2.kp (gT.aF jT)).to zr.2) aa aa).mono ?_)
 rintro e w4 ⟨r4,rfl,q4,eV⟩
 obtain ⟨s4,p4,n4,c4,rfl⟩:=q4.form
 refine ⟨_,rfl,eV,fun lh _ sT=>wV rfl ?_⟩
 refine ab ?_
 refine VO.call rfl rfl (fk Tryz.func61) (fun gf jl gD=>(tR _ _ (q.num * r.num) ((q.den:Int) * r.den) (fA k + fA l) (fA k + fA l) gf ((q3.kp (lh.aF jl)).in (zq.1.mul zr.1)) ((q4.kp jl).in (zq.2.mul zr.2)) aa aa).mono ?_)
 rintro e w5 ⟨r5,rfl,q5,eE⟩
 obtain ⟨s5,p5,n5,c5,t5,y5,m5,d5,rfl⟩:=q5.form
 refine ⟨_,rfl,eE,fun jy _ qi=>wV rfl ?_⟩
 refine ab ?_
 refine aY ?_;intro wz kz bz
 exact ⟨_,rfl,aH.cast ((q5.kp kz).mono gD.size) (Fw q r).symm,bz⟩
theorem xR (v:Value) (q:Rat) (k:Nat) (w:World) (hv:bA w v q k) (hk:k≤134217728):
  Calls Tryz.prog 52 #[v] w fun e w'=>e=.returned (.int .i64 (ea q 0))/\aM w w':=by
 obtain ⟨s,p,n,c,t,y,m,d,rfl⟩:=hv.form
 refine ah (C:=bS Tryz.prog w _) (args:=[_]) Tryz.func52 rfl Tryz.ntmps52 (bB rfl) ?_
 refine ab ?_
 refine VO.call rfl rfl (fk Tryz.func60) (fun bF cU bJ=>(dZ _ q k bF (hv.kp cU) hk).mono ?_)
 rintro e w1 ⟨r1,rfl,q1,aK⟩
 obtain ⟨s1,p1,n1,c1,t1,y1,m1,d1,rfl⟩:=q1.form
 refine ⟨_,rfl,aK,fun dC _ bb1=>wV rfl ?_⟩
 refine ab ?_
 refine VO.call rfl rfl (fk Tryz.func89) (fun cK eg di=>(df _ q.num _ cK ((q1.parts.1.kp eg).to hv.sW.1) (by unfold fA;omega)).mono ?_)
 rintro e w2 ⟨rfl,ba⟩
 rw [Ei]
 refine ⟨_,rfl,ba,fun ed _ bb2=>wV rfl ?_⟩
 refine ab ?_
 refine aY ?_;intro wz kz bz
 exact ⟨rfl,bz⟩
theorem pM (v u:Value) (q r:Rat) (k l:Nat) (w:World) (hv:bA w v q k) (hu:bA w u r l) (hk:k≤33554431) (hl:l≤33554431):
  Calls Tryz.prog 86 #[v,u] w fun e w'=>e=.returned (.int .i64 (ea q r))/\aM w w':=by
 obtain ⟨s,p,n,c,t,y,m,d,rfl⟩:=hv.form
 obtain ⟨s',p',n',c',t',y',m',d',rfl⟩:=hu.form
 have uk:fA k≤33554431:=by unfold fA;omega
 have ul:fA l≤33554431:=by unfold fA;omega
 refine ah (C:=bS Tryz.prog w _) (args:=[_,_]) Tryz.func86 rfl Tryz.ntmps86 (bB rfl) ?_
 refine ab ?_
 refine VO.call rfl rfl (fk Tryz.func51) (fun bF cU bJ=>(dy _ _ q r k l bF (hv.kp cU) (hu.kp cU) aa hl).mono ?_)
 rintro e w1 ⟨r1,rfl,q1,aK⟩
 obtain ⟨s1,p1,n1,c1,t1,y1,m1,d1,rfl⟩:=q1.form
 refine ⟨_,rfl,aK,fun dC _ bb1=>wV rfl ?_⟩
 refine ab ?_
 refine VO.call rfl rfl (fk Tryz.func52) (fun cK eg di=>(xR _ (q - r) (fA k + fA l + 1) cK ((q1.kp eg).in (hv.sW.sub hu.sW)) aa).mono ?_)
 rintro e w2 ⟨rfl,ba⟩
 rw [Sk]
 refine ⟨_,rfl,ba,fun ed _ bb2=>wV rfl ?_⟩
 refine ab ?_
 refine aY ?_;intro wz kz bz
 exact ⟨rfl,bz⟩
theorem Pd {q r:Rat}:(ea q r == 0)=decide (q=r):=by
 unfold ea
 by_cases h1:q < r
 ·rw [if_pos h1,decide_eq_false (fun e=>by rw [e] at h1;exact absurd h1 Rat.lt_irrefl)];rfl
 ·rw [if_neg h1]
  by_cases h2:q=r
  ·rw [if_pos h2,decide_eq_true h2];rfl
  ·rw [if_neg h2,decide_eq_false h2];rfl
theorem Js (v u:Value) (q r:Rat) (k l:Nat) (w:World) (hv:bA w v q k) (hu:bA w u r l) (hk:k≤33554431) (hl:l≤33554431):
  Calls Tryz.prog 54 #[v,u] w fun e w'=>e=.returned (.bool (decide (q=r)))/\aM w w':=by
 obtain ⟨s,p,n,c,t,y,m,d,rfl⟩:=hv.form
 obtain ⟨s',p',n',c',t',y',m',d',rfl⟩:=hu.form
 refine ah (C:=bS Tryz.prog w _) (args:=[_,_]) Tryz.func54 rfl Tryz.ntmps54 (bB rfl) ?_
 refine ab ?_
 refine VO.call rfl rfl (fk Tryz.func86) (fun bF cU bJ=>(pM _ _ q r k l bF (hv.kp cU) (hu.kp cU) hk hl).mono ?_)
 rintro e w1 ⟨rfl,aK⟩
 skip
 refine ⟨_,rfl,aK,fun dC _ bb1=>wV rfl ?_⟩
 refine ab ?_
 refine aY ?_;intro wz kz bz
 exact ⟨by rw [<-Pd];rfl,bz⟩
set_option maxRecDepth 4000
theorem mA (v:Value) (q0:Rat) (qs:List Rat) (k:Nat) (w:World) (hv:jO w v (q0::qs) k) (hk:k≤33554431) (hlen:qs.length < 9223372036854775806):
  Calls Tryz.prog 50 #[v] w fun e w'=>∃ x,e=.returned x/\bI w' x (et iR q0 qs)/\eM (et iR q0 qs) (fA k)/\aM w w':=by
 obtain ⟨p,c,rfl,fM,gg⟩:=hv.form
 obtain ⟨N,hN⟩:∃ N,N=qs.length:=⟨_,rfl⟩
 rw [List.length_cons] at fM
 rw [<-hN] at hlen fM
 have hv':=hv
 rw [show (q0::qs).length=N + 1 by rw [List.length_cons,hN]] at hv ⊢
 obtain ⟨b,off,s0,p0,n0,c0,t0,r0,m0,d0,rfl,hc0,Sm⟩:=hv.at (i:=0) (q:=q0) rfl
 have zk:fA k≤33554431:=by unfold fA;omega
 refine ah (C:=bS Tryz.prog w _) (args:=[_]) Tryz.func50 rfl Tryz.ntmps50 (bB rfl) ?_
 refine ab ?_
 refine VO.cond rfl du (wV rfl ?_)
 refine VO.read rfl [.bool s0,.slice p0 n0 c0,.bool t0,.slice r0 m0 d0] rfl (fun j u hj=>by rw [Addr.add_mid];exact hc0 j u hj) (wV rfl ?_)
 refine ab ?_
 refine VO.call rfl rfl (fk Tryz.func60) (fun bF cU bJ=>(dZ _ q0 k bF (Sm.kp (Kp.of (U:=UU) bJ)) aa).mono ?_)
 rintro e w1 ⟨r1,rfl,q1,aK⟩
 obtain ⟨s1,p1,n1,c1,t1,y1,m1,d1,rfl⟩:=q1.form
 refine ⟨_,rfl,aK,fun dC _ bb1=>wV rfl ?_⟩
 refine ab ?_
 refine VS.loop (J:=fun n' L M w'=>∃ i s p' n c' t r m d,i≤N/\n'=N - i/\L=[(0,.val (.slice (some ⟨b,off,none⟩) (N + 1) c)),(4,.val (.int .i64 ((i + 1:Nat):Int))),(3,.box 3 0),(2,.box 2 0)]/\
  M=[(2,(55,([.bool false,.slice none 0 0,.bool false,.slice none 0 0]:List Value).map .val)),(3,(55,([.bool s,.slice p' n c',.bool t,.slice r m d]:List Value).map .val))]/\bI w' (.agg #[.bool s,.slice p' n c',.bool t,.slice r m d]) (et iR q0 (qs.take i))/\eM (et iR q0 (qs.take i)) (fA k)) N ⟨_,_,?_,?_,?_,?_,⟨0,s1,p1,n1,c1,t1,y1,m1,d1,by omega,by omega,rfl,rfl,q1,Sm.sW⟩⟩ ?_
 ·exact bT
 ·exact bT
 ·rfl
 ·exact ic
 rintro n' L M w' ⟨i,s,p',n,c',t,r,m,d,hi,rfl,rfl,rfl,ho,hz⟩
 have hwi:IntKind.i64.wrap (((i + 1:Nat):Int) + 1)=((i + 1 + 1:Nat):Int):=aE aa
 refine ab ?_
 by_cases hlt:i < N
 ·obtain ⟨q,hq⟩:∃ q,qs[i]? =some q:=⟨_,List.getElem?_eq_getElem aa⟩
  obtain ⟨b',aV,s2,p2,n2,c2,t2,r2,m2,d2,hbo,hc,rU⟩:=hv.at (i:=i + 1) (q:=q) (by simpa using hq)
  cases hbo
  refine VS.aP rfl (decide_eq_true aa) ?_
  refine ab ?_
  refine VO.cond rfl du (wV rfl ?_)
  refine VO.read rfl [.bool s2,.slice p2 n2 c2,.bool t2,.slice r2 m2 d2] rfl (fun j u hj=>by rw [Addr.add_mid,Int.toNat_natCast];exact hc j u hj) (wV rfl ?_)
  refine ab ?_
  refine VO.call rfl rfl (fk Tryz.func86) (fun gf jl gD=>(pM _ _ q (et iR q0 (qs.take i)) k (fA k) gf (rU.kp (Kp.of (U:=UU) gD)) ((ho.kp jl).to hz) hk zk).mono ?_)
  rintro e w5 ⟨rfl,eE⟩
  skip
  refine ⟨_,rfl,eE,fun jy _ qi=>wV rfl ?_⟩
  refine ab ?_
  have Ek:=tQ (better:=iR) (x:=q0) hq
  cases OD:iR q (et iR q0 (qs.take i))
  ·rw [OD] at Ek
   refine VS.aQ rfl OD ?_
   refine ab ?_
   refine VS.back (N - (i + 1)) aa ⟨_,_,?_,?_,?_,?_,⟨i + 1,s,p',n,c',t,r,m,d,by omega,rfl,rfl,rfl,by rw [Ek];exact ho.kp jy,by rw [Ek];exact hz⟩⟩
   ·exact ⟨rfl,congrArg (fun z=>some (AV.val (.int .i64 z))) hwi,rfl,rfl,trivial⟩
   ·exact bT
   ·rfl
   ·exact ic
  ·rw [OD] at Ek
   refine VS.aP rfl OD ?_
   refine ab ?_
   refine VO.cond rfl du (wV rfl ?_)
   refine VO.read rfl [.bool s2,.slice p2 n2 c2,.bool t2,.slice r2 m2 d2] rfl (fun j u hj=>by rw [Addr.add_mid,Int.toNat_natCast];exact hc j u hj) (wV rfl ?_)
   refine ab ?_
   refine VO.call rfl rfl (fk Tryz.func60) (fun gj kx iz=>(dZ _ q k gj (rU.kp (Kp.of (U:=UU) iz)) aa).mono ?_)
   rintro e w6 ⟨r6,rfl,q6,fx⟩
   obtain ⟨s6,p6,n6,c6,t6,y6,m6,d6,rfl⟩:=q6.form
   refine ⟨_,rfl,fx,fun jz _ oX=>wV rfl ?_⟩
   refine ab ?_
   refine VS.back (N - (i + 1)) aa ⟨_,_,?_,?_,?_,?_,⟨i + 1,s6,p6,n6,c6,t6,y6,m6,d6,by omega,rfl,rfl,rfl,by rw [Ek];exact q6,by rw [Ek];exact rU.sW⟩⟩
   ·exact ⟨rfl,congrArg (fun z=>some (AV.val (.int .i64 z))) hwi,rfl,rfl,trivial⟩
   ·exact bT
   ·rfl
   ·exact ic
 ·refine VS.aQ rfl (decide_eq_false aa) ?_
  refine ab ?_
  refine aY ?_;intro wz kz bz
  obtain rfl:i=N:=by omega
  rw [List.take_of_length_le aa] at ho hz
  exact ⟨_,rfl,ho.kp kz,hz,bz⟩
theorem tU (v:Value) (q0:Rat) (qs:List Rat) (k:Nat) (w:World) (hv:jO w v (q0::qs) k) (hk:k≤33554431) (hlen:qs.length < 9223372036854775806):
  Calls Tryz.prog 48 #[v] w fun e w'=>∃ x,e=.returned x/\bI w' x (et gK q0 qs)/\eM (et gK q0 qs) (fA k)/\aM w w':=by
 obtain ⟨p,c,rfl,fM,gg⟩:=hv.form
 obtain ⟨N,hN⟩:∃ N,N=qs.length:=⟨_,rfl⟩
 rw [List.length_cons] at fM
 rw [<-hN] at hlen fM
 have hv':=hv
 rw [show (q0::qs).length=N + 1 by rw [List.length_cons,hN]] at hv ⊢
 obtain ⟨b,off,s0,p0,n0,c0,t0,r0,m0,d0,rfl,hc0,Sm⟩:=hv.at (i:=0) (q:=q0) rfl
 have zk:fA k≤33554431:=by unfold fA;omega
 refine ah (C:=bS Tryz.prog w _) (args:=[_]) Tryz.func48 rfl Tryz.ntmps48 (bB rfl) ?_
 refine ab ?_
 refine VO.cond rfl du (wV rfl ?_)
 refine VO.read rfl [.bool s0,.slice p0 n0 c0,.bool t0,.slice r0 m0 d0] rfl (fun j u hj=>by rw [Addr.add_mid];exact hc0 j u hj) (wV rfl ?_)
 refine ab ?_
 refine VO.call rfl rfl (fk Tryz.func60) (fun bF cU bJ=>(dZ _ q0 k bF (Sm.kp (Kp.of (U:=UU) bJ)) aa).mono ?_)
 rintro e w1 ⟨r1,rfl,q1,aK⟩
 obtain ⟨s1,p1,n1,c1,t1,y1,m1,d1,rfl⟩:=q1.form
 refine ⟨_,rfl,aK,fun dC _ bb1=>wV rfl ?_⟩
 refine ab ?_
 refine VS.loop (J:=fun n' L M w'=>∃ i s p' n c' t r m d,i≤N/\n'=N - i/\L=[(0,.val (.slice (some ⟨b,off,none⟩) (N + 1) c)),(4,.val (.int .i64 ((i + 1:Nat):Int))),(3,.box 3 0),(2,.box 2 0)]/\
  M=[(2,(55,([.bool false,.slice none 0 0,.bool false,.slice none 0 0]:List Value).map .val)),(3,(55,([.bool s,.slice p' n c',.bool t,.slice r m d]:List Value).map .val))]/\bI w' (.agg #[.bool s,.slice p' n c',.bool t,.slice r m d]) (et gK q0 (qs.take i))/\eM (et gK q0 (qs.take i)) (fA k)) N ⟨_,_,?_,?_,?_,?_,⟨0,s1,p1,n1,c1,t1,y1,m1,d1,by omega,by omega,rfl,rfl,q1,Sm.sW⟩⟩ ?_
 ·exact bT
 ·exact bT
 ·rfl
 ·exact ic
 rintro n' L M w' ⟨i,s,p',n,c',t,r,m,d,hi,rfl,rfl,rfl,ho,hz⟩
 have hwi:IntKind.i64.wrap (((i + 1:Nat):Int) + 1)=((i + 1 + 1:Nat):Int):=aE aa
 refine ab ?_
 by_cases hlt:i < N
 ·obtain ⟨q,hq⟩:∃ q,qs[i]? =some q:=⟨_,List.getElem?_eq_getElem aa⟩
  obtain ⟨b',aV,s2,p2,n2,c2,t2,r2,m2,d2,hbo,hc,rU⟩:=hv.at (i:=i + 1) (q:=q) (by simpa using hq)
  cases hbo
  refine VS.aP rfl (decide_eq_true aa) ?_
  refine ab ?_
  refine VO.cond rfl du (wV rfl ?_)
  refine VO.read rfl [.bool s2,.slice p2 n2 c2,.bool t2,.slice r2 m2 d2] rfl (fun j u hj=>by rw [Addr.add_mid,Int.toNat_natCast];exact hc j u hj) (wV rfl ?_)
  refine ab ?_
  refine VO.call rfl rfl (fk Tryz.func86) (fun gf jl gD=>(pM _ _ q (et gK q0 (qs.take i)) k (fA k) gf (rU.kp (Kp.of (U:=UU) gD)) ((ho.kp jl).to hz) hk zk).mono ?_)
  rintro e w5 ⟨rfl,eE⟩
  skip
  refine ⟨_,rfl,eE,fun jy _ qi=>wV rfl ?_⟩
  refine ab ?_
  have Ek:=tQ (better:=gK) (x:=q0) hq
  cases OD:gK q (et gK q0 (qs.take i))
  ·rw [OD] at Ek
   refine VS.aQ rfl OD ?_
   refine ab ?_
   refine VS.back (N - (i + 1)) aa ⟨_,_,?_,?_,?_,?_,⟨i + 1,s,p',n,c',t,r,m,d,by omega,rfl,rfl,rfl,by rw [Ek];exact ho.kp jy,by rw [Ek];exact hz⟩⟩
   ·exact ⟨rfl,congrArg (fun z=>some (AV.val (.int .i64 z))) hwi,rfl,rfl,trivial⟩
   ·exact bT
   ·rfl
   ·exact ic
  ·rw [OD] at Ek
   refine VS.aP rfl OD ?_
   refine ab ?_
   refine VO.cond rfl du (wV rfl ?_)
   refine VO.read rfl [.bool s2,.slice p2 n2 c2,.bool t2,.slice r2 m2 d2] rfl (fun j u hj=>by rw [Addr.add_mid,Int.toNat_natCast];exact hc j u hj) (wV rfl ?_)
   refine ab ?_
   refine VO.call rfl rfl (fk Tryz.func60) (fun gj kx iz=>(dZ _ q k gj (rU.kp (Kp.of (U:=UU) iz)) aa).mono ?_)
   rintro e w6 ⟨r6,rfl,q6,fx⟩
   obtain ⟨s6,p6,n6,c6,t6,y6,m6,d6,rfl⟩:=q6.form
   refine ⟨_,rfl,fx,fun jz _ oX=>wV rfl ?_⟩
   refine ab ?_
   refine VS.back (N - (i + 1)) aa ⟨_,_,?_,?_,?_,?_,⟨i + 1,s6,p6,n6,c6,t6,y6,m6,d6,by omega,rfl,rfl,rfl,by rw [Ek];exact q6,by rw [Ek];exact rU.sW⟩⟩
   ·exact ⟨rfl,congrArg (fun z=>some (AV.val (.int .i64 z))) hwi,rfl,rfl,trivial⟩
   ·exact bT
   ·rfl
   ·exact ic
 ·refine VS.aQ rfl (decide_eq_false aa) ?_
  refine ab ?_
  refine aY ?_;intro wz kz bz
  obtain rfl:i=N:=by omega
  rw [List.take_of_length_le aa] at ho hz
  exact ⟨_,rfl,ho.kp kz,hz,bz⟩
theorem iq (v u:Value) (q r:Rat) (k l:Nat) (w:World) (hv:bA w v q k) (hu:bA w u r l) (hk:k≤67108864) (hl:l≤67108864) (c:Int) (hc:ea q r=c):
 Calls Tryz.prog 12 #[v,u] w fun e w'=>e=.returned (.int .i64 c)/\aM w w':=hc▸tP v u q r k l w hv hu hk hl
inductive bq (w:World) (k:Nat):List Rat->List (List Value)->Prop
 | nil:bq w k [] []
 | cons {s:Bool} {p:Option Addr} {n c:Nat} {t:Bool} {r:Option Addr} {m d:Nat} {q:Rat} {qs:List Rat} {vs:List (List Value)}:bA w (.agg #[.bool s,.slice p n c,.bool t,.slice r m d]) q k->bq w k qs vs->bq w k (q::qs) ([.bool s,.slice p n c,.bool t,.slice r m d]::vs)
theorem bq.four {w:World} {k:Nat} {qs:List Rat} {vs:List (List Value)} (h:bq w k qs vs):∀ v∈vs,v.length=4:=by
 induction h with
 | nil=>intro v hv;cases hv
 | cons _ _ ih=>
   intro v hv
   rcases List.mem_cons.1 hv with rfl | e
   ·rfl
   ·exact ih v e
theorem bq.at {w:World} {k:Nat} {qs:List Rat} {vs:List (List Value)} (h:bq w k qs vs):∀ (j:Nat) (q:Rat),qs[j]? =some q->∃ s p' n' c' t r m d,vs[j]? =some [Value.bool s,.slice p' n' c',.bool t,.slice r m d]/\bA w (.agg #[.bool s,.slice p' n' c',.bool t,.slice r m d]) q k:=by
 induction h with
 | nil=>intro j q hq;simp at hq
 | cons h1 _ ih=>
   intro j q hq
   cases j with
   | zero=>cases hq;exact ⟨_,_,_,_,_,_,_,_,rfl,h1⟩
   | succ j=>exact ih j q (by simpa using hq)
theorem flat_at:∀ (vs:List (List Value)) (j:Nat) (v:List Value),(∀ v∈vs,v.length=4)->vs[j]? =some v->∀ (o:Nat) (u:Value),v[o]? =some u->vs.flatten[j * 4 + o]? =some u:=by
 intro vs
 induction vs with
 | nil=>intro j v _ h;simp at h
 | cons x r ih=>
   intro j v hl h o u hu
   have hx:x.length=4:=hl x cA
   cases j with
   | zero=>
     simp at h
     subst h
     have ho:o < 4:=by have:=(List.getElem?_eq_some_iff.1 hu).1;omega
     rw [List.flatten_cons,List.getElem?_append_left aa]
     simpa using hu
   | succ j=>
     have h':r[j]? =some v:=by simpa using h
     rw [List.flatten_cons,List.getElem?_append_right aa,hx,show (j + 1) * 4 + o - 4=j * 4 + o by omega]
     exact ih j v (fun v hv=>hl v (by simp [hv])) h' o u hu
theorem cX {C:Cx} {β:Nat->Nat} {w:World} {i:Nat} {t:TypeId} {cs:List AV} {qs:List Rat} {k:Nat} {vs:List (List Value)} {n c:Nat} (h:ly C β w i t cs) (spare:List AV) (hcs:cs=vs.flatten.map .val++spare) (hn:n=qs.length) (hq:bq w k qs vs) (hc:n≤c) (gg:c≤maxLen):
  jO w (.slice (some ⟨β i,0,none⟩) n c) qs k:=by
 subst hn
 refine ⟨_,_,rfl,hc,gg,fun j q hj=> ?_⟩
 obtain ⟨s,p',n',c',t',r,m,d,hvj,rU⟩:=hq.at j q hj
 refine ⟨β i,0,s,p',n',c',t',r,m,d,rfl,fun o u hu=> ?_,rU⟩
 refine h.cls.cell ?_
 have:=flat_at vs j _ hq.four hvj o u hu
 rw [hcs,List.map_append,ag,List.getElem?_toArray,Nat.zero_add,List.getElem?_append_left (List.getElem?_eq_some_iff.1 this).1]
 exact this
theorem eN (v:Value) (q:Rat) (k:Nat) (w:World) (hv:bA w v q k) (hk:k≤536870912) (c:Int) (hc:ea q 0=c):
 Calls Tryz.prog 13 #[v] w fun e w'=>e=.returned (.int .i64 c)/\aM w w':=hc▸Jl v q k w hv hk
theorem BB (v u:Value) (q r:Rat) (k l:Nat) (w:World) (hv:bA w v q k) (hu:bA w u r l) (hk:k≤67108864) (hl:l≤67108864) (b:Bool) (hb:decide (q=r)=b):
 Calls Tryz.prog 91 #[v,u] w fun e w'=>e=.returned (.bool b)/\aM w w':=hb▸xP v u q r k l w hv hu hk hl
theorem eR.gl {w:World} {v:Value} {s t:Bool} {xs ys:List Nat} (h:eR w v s xs t ys):∃ p c r d,v=.agg #[.bool s,.slice p xs.length c,.bool t,.slice r ys.length d]/\True:=by
 obtain ⟨p,c,r,d,rfl,_⟩:=h
 exact ⟨_,_,_,_,rfl,trivial⟩
theorem lJ {a b:Rat}:ea a b≤0↔a≤b:=by
 unfold ea
 split
 ·rename_i h;exact ⟨fun _=>Rat.le_of_lt h,fun _=>by omega⟩
 ·split
  ·rename_i h;exact ⟨fun _=>by rw [h];exact Rat.le_refl,fun _=>by omega⟩
  ·rename_i h1 h2;exact ⟨fun h=>by omega,fun h=>absurd (Rat.not_lt.1 h1) (fun h3=>h2 (Rat.le_antisymm h h3))⟩
theorem vw {a b:Rat}:ea a b≥0↔b≤a:=by
 unfold ea
 split
 ·rename_i h;exact ⟨fun _=>by omega,fun h'=>absurd h (Rat.not_lt.2 h')⟩
 ·rename_i h
  split
  ·exact ⟨fun _=>Rat.not_lt.1 h,fun _=>by omega⟩
  ·exact ⟨fun _=>Rat.not_lt.1 h,fun _=>by omega⟩
theorem lK {a b:Rat} (h:a=b):ea a b=0:=by subst h;unfold ea;rw [if_neg (by exact Rat.lt_irrefl),if_pos rfl]
theorem El {y x:Rat}:iR y x=true↔y < x:=by
 unfold iR ea
 by_cases h:y < x
 ·simp [h]
 ·simp only [h,if_false,iff_false];split <;> simp
theorem Pe {y x:Rat}:gK y x=true↔x < y:=by
 unfold gK
 rw [decide_eq_true_iff]
 constructor
 ·intro h
  exact Rat.not_le.1 (fun e=>by have:=lJ.2 e;omega)
 ·intro h
  have:=mt lJ.1 (Rat.not_le.2 h)
  omega
end
section
open Go.RowKit
abbrev KpT (T:TypeId->Bool) (w w':World):Prop:=bt ⟨UU,fun _=>True,T⟩ w w'
structure gE {α:Type} (E:World->List Value->α->Prop) (sz:Nat):Prop where
 kp:∀ {w w':World} {cs:List Value} {a:α},E w cs a->Kp UU w w'->E w' cs a
 len:∀ {w:World} {cs:List Value} {a:α},E w cs a->cs.length=sz
 ok:∀ {w:World} {cs:List Value} {a:α},E w cs a->cs.all aU=true
theorem KpT.plain {T:TypeId->Bool} {w w':World} (h:KpT T w w'):Kp UU w w':=h.nH
inductive ck {α:Type} (E:World->List Value->α->Prop) (w:World):List α->List (List Value)->Prop
 | nil:ck E w [] []
 | cons {a:α} {es:List α} {cs:List Value} {vs:List (List Value)}:E w cs a->ck E w es vs->ck E w (a::es) (cs::vs)
section
variable {α:Type} {E:World->List Value->α->Prop} {sz:Nat} {w w':World} {es:List α} {vs:List (List Value)}
theorem ck.len (h:ck E w es vs):vs.length=es.length:=by
 induction h with
 | nil=>rfl
 | cons _ _ ih=>simp [ih]
theorem ck.kp (hE:gE E sz) (h:ck E w es vs) (k:Kp UU w w'):ck E w' es vs:=by
 induction h with
 | nil=>exact .nil
 | cons h1 _ ih=>exact .cons (hE.kp h1 k) ih
theorem ck.at (h:ck E w es vs):∀ (j:Nat) (a:α),es[j]? =some a->∃ cs,vs[j]? =some cs/\E w cs a:=by
 induction h with
 | nil=>intro j q hq;simp at hq
 | cons h1 _ ih=>
   intro j q hq
   cases j with
   | zero=>cases hq;exact ⟨_,rfl,h1⟩
   | succ j=>exact ih j q (by simpa using hq)
theorem ck.append {es':List α} {iZ:List (List Value)} (h:ck E w es vs) (h':ck E w es' iZ):ck E w (es++es') (vs++iZ):=by
 induction h with
 | nil=>exact h'
 | cons h1 _ ih=>exact .cons h1 ih
theorem ck.snoc {a:α} {cs:List Value} (h:ck E w es vs) (h':E w cs a):ck E w (es++[a]) (vs++[cs]):=h.append (.cons h' .nil)
theorem ck.ok (hE:gE E sz) (h:ck E w es vs):vs.flatten.all aU=true/\vs.flatten.length=es.length * sz:=by
 induction h with
 | nil=>exact ⟨rfl,by simp⟩
 | cons h1 _ ih=>
   refine ⟨?_,?_⟩
   ·rw [List.flatten_cons,List.all_append,ih.1,hE.ok h1];rfl
   ·rw [List.flatten_cons,List.length_append,ih.2,hE.len h1,List.length_cons,Nat.add_mul,Nat.one_mul,Nat.add_comm]
theorem ck.cell (hE:gE E sz) (h:ck E w es vs):∀ (j:Nat) (cs:List Value),vs[j]? =some cs->∀ (o:Nat) (u:Value),cs[o]? =some u->vs.flatten[j * sz + o]? =some u:=by
 induction h with
 | nil=>intro j v h;simp at h
 | @cons a es cs vs h1 _ ih=>
   intro j v h o u hu
   have hx:=hE.len h1
   cases j with
   | zero=>
     simp at h
     subst h
     have ho:o < sz:=by have:=(List.getElem?_eq_some_iff.1 hu).1;omega
     rw [List.flatten_cons,Nat.zero_mul,Nat.zero_add,List.getElem?_append_left aa]
     exact hu
   | succ j=>
     rw [List.flatten_cons,List.getElem?_append_right (by rw [Nat.add_mul];omega)]
     have:=ih j v (by simpa using h) o u hu
     rw [<-this]
     congr 1
     rw [Nat.add_mul]
     omega
def dp (E:World->List Value->α->Prop) (sz:Nat) (w:World) (v:Value) (es:List α):Prop:=
 ∃ p c,v=.slice p es.length c/\es.length≤c/\c≤maxLen/\∀ (i:Nat) (a:α),es[i]? =some a->∃ b off cs,p=some ⟨b,off,none⟩/\(∀ (j:Nat) (u:Value),cs[j]? =some u->w.cell? ⟨b,off + i * sz + j,none⟩=some u)/\E w cs a
theorem dp.form {v:Value} (h:dp E sz w v es):∃ p c,v=.slice p es.length c/\es.length≤c/\c≤9223372036854775807:=by
 obtain ⟨p,c,hv,h1,h2,_⟩:=h
 exact ⟨p,c,hv,h1,by simpa [maxLen] using h2⟩
theorem dp.at {p:Option Addr} {n c i:Nat} {a:α} (h:dp E sz w (.slice p n c) es) (hq:es[i]? =some a):∃ b off cs,p=some ⟨b,off,none⟩/\(∀ (j:Nat) (u:Value),cs[j]? =some u->w.cell? ⟨b,off + i * sz + j,none⟩=some u)/\E w cs a:=by
 obtain ⟨p',c',hv,h1,h2,h3⟩:=h
 cases hv
 exact h3 i a hq
theorem dp.bC (hE:gE E sz) {v:Value} (h:dp E sz w v es) (hb:aM w w'):dp E sz w' v es:=by
 obtain ⟨p,c,hv,h1,h2,h3⟩:=h
 refine ⟨p,c,hv,h1,h2,fun i q hq=> ?_⟩
 obtain ⟨b,off,cs,hp,hc,hr⟩:=h3 i q hq
 exact ⟨b,off,cs,hp,fun j u hj=>hb.cell (hc j u hj),hE.kp hr (Kp.of hb)⟩
theorem dp.mono {E':World->List Value->α->Prop} {v:Value} (h:dp E sz w v es) (hm:∀ (i:Nat) (a:α) (cs:List Value),es[i]? =some a->E w cs a->E' w cs a):dp E' sz w v es:=by
 obtain ⟨p,c,hv,h1,h2,h3⟩:=h
 refine ⟨p,c,hv,h1,h2,fun i q hq=> ?_⟩
 obtain ⟨b,off,cs,hp,hc,hr⟩:=h3 i q hq
 exact ⟨b,off,cs,hp,hc,hm i q cs hq hr⟩
theorem dp.nil (w:World) (E:World->List Value->α->Prop) (sz:Nat):dp E sz w (.slice none 0 0) []:=⟨none,0,rfl,Nat.le_refl _,by decide,fun i q hq=>by simp at hq⟩
theorem ck.lens (hE:gE E sz) (h:ck E w es vs):∀ v∈vs,v.length=sz:=by
 induction h with
 | nil=>intro v hv;cases hv
 | cons h1 _ ih=>
   intro v hv
   rcases List.mem_cons.1 hv with rfl | e
   ·exact hE.len h1
   ·exact ih v e
theorem Em (hE:gE E sz) {b n c:Nat} {t:TypeId} {spare:List Value} (h:aZ w b t (vs.flatten++spare).toArray) (hr:ck E w es vs) (hn:n=es.length) (hc:n≤c) (hm:c≤9223372036854775807):dp E sz w (.slice (some ⟨b,0,none⟩) n c) es:=by
 subst hn
 refine ⟨_,_,rfl,hc,by simpa [maxLen] using hm,fun i a ha=> ?_⟩
 obtain ⟨cs,h1,h2⟩:=hr.at i a ha
 refine ⟨b,0,cs,rfl,fun j u hj=> ?_,h2⟩
 have:=hr.cell hE i cs h1 j u hj
 refine h.cell ?_
 rw [List.getElem?_toArray,Nat.zero_add,List.getElem?_append_left (List.getElem?_eq_some_iff.1 this).1]
 exact this
theorem lL (hE:gE E sz) {C:Cx} {β:Nat->Nat} {i n c:Nat} {t:TypeId} {cs:List AV} (h:ly C β w i t cs) (spare:List AV) (hcs:cs=vs.flatten.map .val++spare) (hr:ck E w es vs) (hn:n=es.length) (hc:n≤c) (hm:c≤9223372036854775807):
  dp E sz w (.slice (some ⟨β i,0,none⟩) n c) es:=by
 refine Em hE (spare:=spare.map (AV.leaf β)) (t:=t) ?_ hr hn hc hm
 have:=h.cls
 rw [hcs,List.map_append,ag] at this
 exact this
def iA (E:World->List Value->α->Prop) (sz:Nat) (t:TypeId) (B:Nat) (w:World) (v:Value) (es:List α):Prop:=
 (v=.slice none 0 0/\es=[])\/∃ b c vs spare,v=.slice (some ⟨b,0,none⟩) es.length c/\B≤b/\aZ w b t (vs.flatten++spare).toArray/\ck E w es vs/\spare.all aU=true/\es.length≤c/\c≤9223372036854775807/\(vs.flatten++spare).length=c * sz
theorem iA.sl (hE:gE E sz) {t:TypeId} {B:Nat} {v:Value} (h:iA E sz t B w v es):dp E sz w v es:=by
 rcases h with ⟨rfl,rfl⟩ | ⟨b,c,vs,spare,rfl,_,h1,h2,_,h3,h4,_⟩
 ·exact dp.nil _ _ _
 ·exact Em hE h1 h2 rfl h3 h4
theorem iA.form {t:TypeId} {B:Nat} {v:Value} (h:iA E sz t B w v es):∃ p c,v=.slice p es.length c:=by
 rcases h with ⟨rfl,rfl⟩ | ⟨b,c,vs,spare,rfl,_⟩
 ·exact ⟨_,_,rfl⟩
 ·exact ⟨_,_,rfl⟩
theorem iA.kp (hE:gE E sz) {t:TypeId} {B:Nat} {v:Value} {T:TypeId->Bool} (h:iA E sz t B w v es) (k:KpT T w w') (ht:T t=true):iA E sz t B w' v es:=by
 rcases h with ⟨rfl,rfl⟩ | ⟨b,c,vs,spare,rfl,h0,h1,h2,h3⟩
 ·exact .inl ⟨rfl,rfl⟩
 ·refine .inr ⟨b,c,vs,spare,rfl,h0,k.block t b _ ?_ trivial h1,h2.kp hE k.plain,h3⟩
  show (Nat.beq t UU || T t)=true
  rw [ht]
  simp
end
section
variable {C:Cx} {F:Fr} {H:Hp} {w:World} {m:Option (List FuncId)} {full:Array Oper} {K:Fr->Hp->World->Prop} {o:Oper} {r:List Oper}
end
theorem Lv {α:Type} {E:World->List Value->α->Prop} {sz:Nat} {C:Cx} {β:Nat->Nat} {w:World} {i n c:Nat} {t:TypeId} {es:List α} {vs:List (List Value)} {spare:List AV} (h:ly C β w i t (vs.flatten.map .val++spare)) (hr:ck E w es vs) (hn:n=es.length) (hc:n≤c) (hm:c≤9223372036854775807) (hl:(vs.flatten.map AV.val++spare).length=c * sz)
  (hnw:∀ i g,C.AQ i g->C.w0.heap.size≤g:=by exact fun _ _ h=>h):iA E sz t C.w0.heap.size w (.slice (some ⟨β i,0,none⟩) n c) es:=by
 subst hn
 have hk:=h.ok
 rw [List.all_append,Bool.and_eq_true] at hk
 refine .inr ⟨β i,c,vs,spare.map (AV.leaf β),rfl,hnw _ _ h.new,?_,hr,dv hk.2,hc,hm,by rw [<-hl];simp only [List.length_append,List.length_map]⟩
 have:=h.cls
 rw [List.map_append,ag] at this
 exact this
theorem Fy {n d:Int} (h0: -9223372036854775808≤n) (h1:n≤9223372036854775807) (g0: -9223372036854775808≤d) (g1:d≤9223372036854775807):eM (Rat.divInt n d) 2:=by
 by_cases hd:d=0
 ·rw [hd,Rat.divInt_zero];exact eM.zero.mono aa
 ·exact oG (Sz.of_lt aa) (Sz.of_lt aa) hd
end
set_option maxRecDepth 4000
section
open Go.RowKit
attribute [local irreducible] aB VS
theorem lM (xs:List Nat) (v:Value) (n:Nat) (w:World) (hr:Rd w 1 v n (ints .u32 xs)) (hn:n≤1073741824):
  Calls Tryz.prog 64 #[v] w fun e w'=>∃ p c,e=.returned (.slice p n c)/\w'.ownsRow w.heap.size UU 1 (.slice p n c) n (ints .u32 xs)/\aM w w':=by
 obtain ⟨p,c,rfl,jW⟩:∃ p c,v=.slice p n c/\True:=by
  obtain ⟨p,c,hv,_⟩:=hr
  exact ⟨p,c,hv,trivial⟩
 refine ah (C:=bS Tryz.prog w _) (args:=[_]) Tryz.func64 rfl Tryz.ntmps64 (bB rfl) ?_
 refine ab ?_
 refine VO.appU (cJ _ _) (t:=22) (e:=117) (n:=n) (news:=ints .u32 xs) rfl rfl rfl rfl rfl (oe .u32 xs) aa (fun w1 k1 b1=>hr.below b1) (fun w2 p2 c2 k2 b2 ho=>wV rfl ?_)
 refine ab ?_
 refine aY ?_;intro wz kz bz
 exact ⟨_,_,rfl,Own.kp ho kz,bz⟩
theorem gh.fil {w:World} {s:Bool} {p:Option Addr} {xs:List Nat} {c:Nat} (h:gh w (.agg #[.bool s,.slice p xs.length c]) s xs):Rd w 1 (.slice p xs.length c) xs.length (ints .u32 xs)/\cP xs:=by
 obtain ⟨p',c',hv,hr,hl⟩:=h
 simp only [Value.agg.injEq,Array.mk.injEq,List.cons.injEq,and_true,true_and,Value.slice.injEq] at hv
 obtain ⟨rfl,rfl⟩:=hv
 exact ⟨hr,hl⟩
def pO (w:World) (B:Nat) (v:Value) (s:Bool) (xs:List Nat) (t:Bool) (ys:List Nat):Prop:=
 ∃ p c r d,v=.agg #[.bool s,.slice p xs.length c,.bool t,.slice r ys.length d]/\w.ownsRow B UU 1 (.slice p xs.length c) xs.length (ints .u32 xs)/\w.ownsRow B UU 1 (.slice r ys.length d) ys.length (ints .u32 ys)/\cP xs/\cP ys
theorem pO.raw {w:World} {B:Nat} {v:Value} {s:Bool} {xs:List Nat} {t:Bool} {ys:List Nat} (h:pO w B v s xs t ys):eR w v s xs t ys:=by
 obtain ⟨p,c,r,d,hv,h1,h2,h3,h4⟩:=h
 exact ⟨p,c,r,d,hv,⟨_,_,rfl,Rd.own h1,h3⟩,⟨_,_,rfl,Rd.own h2,h4⟩⟩
theorem pO.kp {T:TypeId->Bool} {w w':World} {B:Nat} {v:Value} {s:Bool} {xs:List Nat} {t:Bool} {ys:List Nat} (h:pO w B v s xs t ys) (k:bt ⟨UU,fun _=>True,T⟩ w w'):pO w' B v s xs t ys:=by
 obtain ⟨p,c,r,d,hv,h1,h2,h3,h4⟩:=h
 exact ⟨p,c,r,d,hv,Own.kp h1 k,Own.kp h2 k,h3,h4⟩
theorem pO.own {w:World} {B:Nat} {v:Value} {q:Rat} (h:pO w B v (decide (q.num < 0)) (limbs q.num.natAbs) (decide ((q.den:Int) < 0)) (limbs (q.den:Int).natAbs)):aH w B v q:=by
 obtain ⟨p,c,r,d,rfl,h1,h2,h3,h4⟩:=h
 exact ⟨_,p,_,c,_,r,_,d,rfl,⟨_,_,rfl,h1⟩,⟨_,_,rfl,h2⟩⟩
theorem bK (s t:Bool) (xs ys:List Nat) (v:Value) (w:World) (h:eR w v s xs t ys) (hx:xs.length≤1073741824) (hy:ys.length≤1073741824):
  Calls Tryz.prog 28 #[v] w fun e w'=>∃ r,e=.returned r/\pO w' w.heap.size r s xs t ys/\aM w w':=by
 obtain ⟨p,c,r,d,rfl,h1,h2⟩:=h
 refine ah (C:=bS Tryz.prog w _) (args:=[_]) Tryz.func28 rfl Tryz.ntmps28 (bB rfl) ?_
 refine ab ?_
 refine VO.call rfl rfl (fk Tryz.func64) (fun bF cU bJ=>(lM xs _ _ bF (h1.bC bJ).fil.1 hx).mono ?_)
 rintro e w1 ⟨p1,c1,rfl,q1,aK⟩
 skip
 refine ⟨_,rfl,aK,fun dC _ bb1=>wV rfl ?_⟩
 refine ab ?_
 refine VO.call rfl rfl (fk Tryz.func64) (fun cK eg di=>(lM ys _ _ cK (h2.bC di).fil.1 hy).mono ?_)
 rintro e w2 ⟨p2,c2,rfl,q2,ba⟩
 skip
 refine ⟨_,rfl,ba,fun ed _ bb2=>wV rfl ?_⟩
 refine ab ?_
 refine aY ?_;intro wz kz bz
 exact ⟨_,rfl,⟨_,_,_,_,rfl,Own.kp (Own.mono q1 bJ.size) (ed.aF kz),Own.kp (Own.mono q2 di.size) kz,h1.fil.2,h2.fil.2⟩,bz⟩
theorem Pf (s t:Bool) (xs ys:List Nat) (v:Value) (w:World) (h:eR w v s xs t ys) (hx:xs.length≤1073741824) (hy:ys.length≤1073741824):
  Calls Tryz.prog 67 #[v] w fun e w'=>∃ r,e=.returned r/\pO w' w.heap.size r s xs t ys/\aM w w':=by
 obtain ⟨p,c,r,d,rfl,h1,h2⟩:=h
 refine ah (C:=bS Tryz.prog w _) (args:=[_]) Tryz.func67 rfl Tryz.ntmps67 (bB rfl) ?_
 refine ab ?_
 refine VO.call rfl rfl (fk Tryz.func64) (fun bF cU bJ=>(lM xs _ _ bF (h1.bC bJ).fil.1 hx).mono ?_)
 rintro e w1 ⟨p1,c1,rfl,q1,aK⟩
 skip
 refine ⟨_,rfl,aK,fun dC _ bb1=>wV rfl ?_⟩
 refine ab ?_
 refine VO.call rfl rfl (fk Tryz.func64) (fun cK eg di=>(lM ys _ _ cK (h2.bC di).fil.1 hy).mono ?_)
 rintro e w2 ⟨p2,c2,rfl,q2,ba⟩
 skip
 refine ⟨_,rfl,ba,fun ed _ bb2=>wV rfl ?_⟩
 refine ab ?_
 refine aY ?_;intro wz kz bz
 exact ⟨_,rfl,⟨_,_,_,_,rfl,Own.kp (Own.mono q1 bJ.size) (ed.aF kz),Own.kp (Own.mono q2 di.size) kz,h1.fil.2,h2.fil.2⟩,bz⟩
theorem aR {K:KC} {w w':World} (h:bt K w w':=by (with_reducible (repeat (first | assumption | exact kU _ | exact kR _ | exact Kp.of (U:=UU) (by assumption) | exact bt.of (by assumption) | refine kT ?_ (by assumption))))):bt K w w':=h
theorem eW (n d:Int) (w:World) (h0: -9223372036854775808≤n) (h1:n≤9223372036854775807) (g0: -9223372036854775808≤d) (g1:d≤9223372036854775807):
  Calls Tryz.prog 31 #[.int .i64 n,.int .i64 d] w fun e w'=>∃ r,e=.returned r/\aH w' w.heap.size r (Rat.divInt n d)/\aM w w':=by
 refine ah (C:=bS Tryz.prog w _) (args:=[_,_]) Tryz.func31 rfl Tryz.ntmps31 (bB rfl) ?_
 refine ab ?_
 refine VO.call rfl rfl (fk Tryz.func66) (fun bF cU bJ=>(Pc n d bF h0 h1 g0 g1).mono ?_)
 rintro e w1 ⟨r1,rfl,q1,aK⟩
 obtain ⟨s1,p1,n1,c1,t1,y1,m1,d1,rfl⟩:=q1.form
 refine ⟨_,rfl,aK,fun dC _ bb1=>wV rfl ?_⟩
 refine ab ?_
 have hsz:(limbs (Rat.divInt n d).num.natAbs).length≤4/\(limbs ((Rat.divInt n d).den:Int).natAbs).length≤4:=by
  by_cases hd:d=0
  ·rw [hd,Rat.divInt_zero];exact ⟨eM.zero.1.mono aa,eM.zero.2.mono aa⟩
  ·have h:=oG (X:=n) (Y:=d) (k:=2) (l:=2) (Sz.of_lt aa) (Sz.of_lt aa) hd
   exact ⟨h.1.mono aa,h.2.mono aa⟩
 refine VO.call rfl rfl (fk Tryz.func67) (fun cK eg di=>(Pf _ _ _ _ _ cK (q1.kp aR).rd.raw aa aa).mono ?_)
 rintro e w2 ⟨r2,rfl,q2,ba⟩
 obtain ⟨p2,c2,y2,d2,rfl,_⟩:=q2.raw.gl
 refine ⟨_,rfl,ba,fun ed _ bb2=>wV rfl ?_⟩
 refine ab ?_
 refine aY ?_;intro wz kz bz
 exact ⟨_,rfl,((q2.kp kz).own).mono di.size,bz⟩
end
section
open Go.RowKit
section
variable {T:TypeId->Bool} {w w':World} {v:Value} {q:Rat} {X:Int} {B n:Nat}
theorem bA.k (h:bA w v q n) (k:bt ⟨UU,fun _=>True,T⟩ w w':=by exact aR):bA w' v q n:=h.kp k
theorem bI.k (h:bI w v q) (k:bt ⟨UU,fun _=>True,T⟩ w w':=by exact aR):bI w' v q:=h.kp k
theorem aH.k (h:aH w B v q) (k:bt ⟨UU,fun _=>True,T⟩ w w':=by exact aR):aH w' B v q:=h.kp k
theorem aH.kr (h:aH w B v q) (k:bt ⟨UU,fun _=>True,T⟩ w w':=by exact aR):bI w' v q:=(h.kp k).rd
theorem aH.ki (h:aH w B v q) (hs:eM q n) (k:bt ⟨UU,fun _=>True,T⟩ w w':=by exact aR):bA w' v q n:=(h.kp k).in hs
theorem bI.ki (h:bI w v q) (hs:eM q n) (k:bt ⟨UU,fun _=>True,T⟩ w w':=by exact aR):bA w' v q n:=(h.kp k).to hs
end
end
section
open Go.RowKit
attribute [local irreducible] aB VS
theorem BC {a b:Int} (h:a≠b):(a != b)=true:=by simpa using h
theorem xS {a b:Int} (h:a=b):(a != b)=false:=by simpa using h
theorem beq_y {a b:Int} (h:a=b):(a == b)=true:=by simpa using h
theorem Nd {a b:Int} (h:a≠b):(a == b)=false:=by simpa using h
structure iB {α:Type} (E:World->List Value->α->Prop) (sz:Nat) (w:World) (n c:Nat) (vs:List (List Value)) (sp:List AV) (es:List α):Prop where
 len:n=es.length
 el:ck E w es vs
 so:sp.all aG=true
 sl:ax sp=[]
 le:n≤c
 cm:c≤9223372036854775807
 fl:(vs.flatten.map AV.val++sp).length=c * sz
section
variable {α:Type} {E:World->List Value->α->Prop} {sz n c:Nat} {w w':World} {vs:List (List Value)} {sp:List AV} {es:List α}
theorem iB.kp (hE:gE E sz) (h:iB E sz w n c vs sp es) (k:Kp UU w w'):iB E sz w' n c vs sp es:=⟨h.len,h.el.kp hE k,h.so,h.sl,h.le,h.cm,h.fl⟩
theorem iB.ja {M:List (Nat×(TypeId×List AV))} (h:iB E sz w n c vs sp es):fW M (vs.flatten.map AV.val++sp):=.append (.vals _) (.none h.sl)
theorem iB.cQ (h:iB E sz w n c vs sp es):ax (vs.flatten.map AV.val++sp)=[]:=by rw [cR,ai,h.sl];rfl
theorem iB.new {C:Cx} {β:Nat->Nat} {i:Nat} {t:TypeId} (hE:gE E sz) (h:iB E sz w n c vs sp es) (o:ly C β w' i t (vs.flatten.map .val++sp)) (k:Kp UU w w') (hnw:∀ i g,C.AQ i g->C.w0.heap.size≤g:=by exact fun _ _ h=>h):
 iA E sz t C.w0.heap.size w' (.slice (some ⟨β i,0,none⟩) n c) es:=Lv o (h.el.kp hE k) h.len h.le h.cm h.fl hnw
theorem iB.cell (hE:gE E sz) (h:iB E sz w n c vs sp es) {i:Nat} {a:α} (ha:es[i]? =some a):∃ cs,vs[i]? =some cs/\E w cs a/\cs.length=sz/\∀ (k:Nat) (ds:List Value),ds <+:cs.drop k->∀ (j:Nat) (u:AV),(ds.map AV.val)[j]? =some u->(vs.flatten.map AV.val++sp)[0 + ((i:Nat):Int).toNat * sz + k + j]? =some u:=by
 obtain ⟨cs,h1,h2⟩:=h.el.at i a ha
 refine ⟨cs,h1,h2,hE.len h2,fun k ds hd j u hj=> ?_⟩
 obtain ⟨t,ht⟩:=hd
 rw [List.getElem?_map] at hj
 obtain ⟨x,hx,rfl⟩:=Option.map_eq_some_iff.1 hj
 have Rj:cs[k + j]? =some x:=by
  rw [<-List.getElem?_drop,<-ht,List.getElem?_append_left (List.getElem?_eq_some_iff.1 hx).1];exact hx
 have:=h.el.cell hE i cs h1 (k + j) x Rj
 rw [Int.toNat_natCast,Nat.zero_add,Nat.add_assoc,List.getElem?_append_left (by rw [List.length_map];exact (List.getElem?_eq_some_iff.1 this).1),List.getElem?_map,this]
 rfl
end
section
variable {C:Cx} {F:Fr} {H:Hp} {w:World} {m:Option (List FuncId)} {full:Array Oper} {K:Fr->Hp->World->Prop} {o:Oper} {r:List Oper}
theorem VO.BD (hC:C.Ok) {α:Type} {E:World->List Value->α->Prop} {sz:Nat} (hE:gE E sz) {t e te:TypeId} {it ie:TI} {x y:Operand} {s:Nat} {cs:List Value} {a:α} {dst:Nat}
  (e0:stepOf C full F H o=.call (.op o [.val (.slice none 0 0),.row s 0 1 1])) (ho:o.op=.call { callee:=.builtin .append,args:=#[x,y],argTypes:=#[t,t] })
  (OK:C.ti t=some it) (GG:it.elem=some (e,sz)) (GD:C.ti e=some ie) (hU:C.K.fz e=false) (hzo:ie.zero.cells.toList.all aU=true)
  (hd:o.dst=some dst) (hN:dst < C.N) (hl:lvl C.SU m o=2) (ji:H dst=none) (hs:H s=some (te,cs.map .val)) (hcs:E w cs a) (iw:24 * sz≤140737488355328)
  (hK:∀ w2 cap sp,bt C.K w w2->C.Old w2->iB E sz w2 1 cap [cs] sp [a]->aB C m full r K (F.bu o.dst (.row dst 0 1 cap)) (H.put dst (e,[cs].flatten.map AV.val++sp)) w2)
  (hkp:∀ w w',bt C.K w w'->Kp UU w w':=by first | exact fun _ _ h=>h | exact fun _ _ h=>h.nH):aB C m full (o::r) K F H w:=by
 have hlen:=hE.len hcs
 refine VO.app hC e0 ho OK GG GD hU hzo hd hN hl (known:=[]) (spare:=[]) (del:=none) (n:=0) (c:=0) (mm:=1) (news:=cs.map .val) (.inl ⟨rfl,rfl,rfl,rfl,rfl,rfl,by omega⟩) (.inl ji) cA cA aa aa ⟨rfl,rfl,ai _⟩ ⟨rfl,rfl,bg (hE.ok hcs)⟩ (by rw [List.length_map,hlen];omega) aa
  (fun w1 β k1 b1 ho=>⟨_,_,rfl,.inr ⟨β s,0,rfl,de (rest:=[]) (ho.own s (.base (List.mem_append_right _ (List.mem_singleton.2 rfl))) _ _ hs) (by rw [List.append_nil])⟩⟩) (fun w2 cap sp ρ k2 b2 fF h1 h2 h3 h4 h5=> ?_)
 have:=hK w2 cap sp k2 b2 ⟨rfl,.cons (hE.kp hcs (hkp _ _ k2)) .nil,h4,h5,by omega,h2,by simpa using h3⟩
 have e':([cs].flatten.map AV.val++sp)=([]++cs.map .val)++sp:=by simp
 rw [e'] at this
 exact this
theorem VO.vx (hC:C.Ok) {α:Type} {E:World->List Value->α->Prop} {sz:Nat} (hE:gE E sz) {t e te:TypeId} {it ie:TI} {x y:Operand} {s i n c:Nat} {cs:List Value} {a:α} {vs:List (List Value)} {sp:List AV} {es:List α} {dst:Nat}
  (e0:stepOf C full F H o=.call (.op o [.row i 0 n c,.row s 0 1 1])) (ho:o.op=.call { callee:=.builtin .append,args:=#[x,y],argTypes:=#[t,t] })
  (OK:C.ti t=some it) (GG:it.elem=some (e,sz)) (GD:C.ti e=some ie) (hU:C.K.fz e=false) (hzo:ie.zero.cells.toList.all aU=true)
  (hd:o.dst=some dst) (hN:dst < C.N) (hl:lvl C.SU m o=2) (ji:H dst=none\/some i=some dst) (hi:H i=some (e,vs.flatten.map .val++sp)) (hr:iB E sz w n c vs sp es) (hs:H s=some (te,cs.map .val)) (hcs:E w cs a) (iw:(n + 1) * (24 * sz)≤140737488355328)
  (hK:∀ w2 cap oc ρ,bt C.K w w2->C.Old w2->(∀ x,aU (ρ x)=true)->iB E sz w2 (n + 1) cap (vs++[cs]) oc (es++[a])->aB C m full r K ((F.forget (some i) ρ).bu o.dst (.row dst 0 (n + 1) cap)) ((H.forget (some i) ρ).put dst (e,(vs++[cs]).flatten.map AV.val++oc)) w2)
  (hkp:∀ w w',bt C.K w w'->Kp UU w w':=by first | exact fun _ _ h=>h | exact fun _ _ h=>h.nH):aB C m full (o::r) K F H w:=by
 have hlen:=hE.len hcs
 obtain ⟨k1,k2⟩:=hr.el.ok hE
 have QM:=hr.len
 refine VO.app hC e0 ho OK GG GD hU hzo hd hN hl (known:=vs.flatten.map .val) (spare:=sp) (del:=some i) (n:=n) (c:=c) (mm:=1) (news:=cs.map .val) (.inr ⟨i,rfl,hi,rfl⟩) ji (by rw [List.length_map,k2,QM]) hr.fl hr.le hr.cm ⟨ai _,hr.sl,ai _⟩ ⟨bg k1,hr.so,bg (hE.ok hcs)⟩ (by rw [List.length_map,hlen];omega) iw
  (fun w1 β k1 b1 ho=>⟨_,_,rfl,.inr ⟨β s,0,rfl,de (rest:=[]) (ho.own s (.base (List.mem_append_right _ (List.mem_singleton.2 rfl))) _ _ hs) (by rw [List.append_nil])⟩⟩) (fun w2 cap oc ρ k2 b2 fF h1 h2 h3 h4 h5=> ?_)
 have e:(vs.flatten.map AV.val++cs.map .val)=(vs++[cs]).flatten.map AV.val:=by simp
 have:=hK w2 cap oc ρ k2 b2 fF ⟨by rw [List.length_append,hr.len];rfl,(hr.el.kp hE (hkp _ _ k2)).snoc (hE.kp hcs (hkp _ _ k2)),h4,h5,by omega,h2,by rw [<-e];exact h3⟩
 rw [<-e] at this
 exact this
end
end
section
open Go.RowKit
theorem Pg {w:World} {a:Option Addr} {len cap:Nat} {zs:List Int}
  (h:(a=none/\len=0/\cap=0/\zs=[])\/∃ x,a=some x/\len≤cap/\cap≤maxLen/\zs.length=cap/\(∀ i,i < zs.length->w.cell? (x.add i)=some (.int .u32 (zs.getD i 0)))/\∀ n∈zs,(Lit.int .u32 n).wf=true):
  ∃ xs:List Nat,cP xs/\Rd w 1 (.slice a len cap) len (ints .u32 xs):=by
 rcases h with ⟨rfl,rfl,rfl,rfl⟩ | ⟨x,rfl,h1,h2,h3,h4,h5⟩
 ·exact ⟨[],cP.nil,Rd.nil w 1⟩
 ·have hb:∀ n∈zs,0≤n/\n < 4294967296:=fun n hn=>by
   have:=h5 n hn
   simp [Lit.wf,IntKind.min,IntKind.max,IntKind.signed,IntKind.bits] at this
   omega
  refine ⟨(zs.take len).map Int.toNat,?_,?_⟩
  ·intro y hy
   obtain ⟨z,hz,rfl⟩:=List.mem_map.1 hy
   have:=hb z (List.mem_of_mem_take hz)
   omega
  ·refine ⟨_,cap,rfl,h1,h2,by simp;omega,fun hn=> ?_⟩
   have kN:0 < zs.length:=by omega
   have h0:=h4 0 kN
   have hsp:x.spot=none:=by
    have:x.add 0=x:=by simp [Addr.add]
    rw [this] at h0
    unfold World.cell? at h0
    split at h0
    ·split at h0
     ·cases h0
     ·rename_i hs;simpa using hs
    ·cases h0
   obtain ⟨b,off,sp⟩:=x
   simp only at hsp
   subst hsp
   refine ⟨b,off,rfl,fun j u hj=> ?_⟩
   simp only [ints,List.map_map,List.getElem?_map,List.getElem?_take] at hj
   split at hj
   ·rename_i hjl
    have hjz:j < zs.length:=by omega
    rw [List.getElem?_eq_getElem hjz] at hj
    simp at hj
    subst hj
    have h6:=h4 j hjz
    have h7:=hb _ (List.getElem_mem hjz)
    rw [show (⟨b,off,none⟩:Addr).add j=⟨b,off + j,none⟩ by unfold Addr.add;split <;> simp_all] at h6
    rw [h6]
    simp [List.getD,hjz]
    omega
   ·cases hj
theorem Fz {α:Type} {l:List α} (h:l.length=2):∃ a b,l=[a,b]:=by
 match l,h with
 | [a,b],_=>exact ⟨a,b,rfl⟩
theorem Sn {α:Type} {l:List α} (h:l.length=4):∃ a b c d,l=[a,b,c,d]:=by
 match l,h with
 | [a,b,c,d],_=>exact ⟨a,b,c,d,rfl⟩
section
variable {H:Type} {enc:TypeId×Value->H} {w:World} {held:Bool}
theorem Lw {fuel:Nat} {cs:List Value} {x:DataW H×List MemPlace} (h:DataW.trod enc Tryz.prog w 0 (fun _=>true) held fuel 22 cs=some x):∃ p n c xs,cs=[.slice p n c]/\Rd w 1 (.slice p n c) n (ints .u32 xs)/\cP xs:=by
 rcases ChangeShapes.open_ints Tryz.underlying22 Tryz.underlying117 (by kernel_rfl) h with ⟨rfl,_⟩ | ⟨a,len,cap,zs,rfl,_,hl,hc,hz,_,hcell,hwf⟩
 ·exact ⟨none,0,0,[],rfl,Rd.nil w 1,cP.nil⟩
 ·rw [if_pos rfl] at hz
  obtain ⟨xs,hxs,wi⟩:=Pg (w:=w) (.inr ⟨a,rfl,hl,hc,hz,hcell,hwf⟩)
  exact ⟨some a,len,cap,xs,rfl,wi,hxs⟩
theorem Jt {fuel:Nat} {cs:List Value} {x:DataW H×List MemPlace} (h:DataW.trod enc Tryz.prog w 0 (fun _=>true) held fuel 24 cs=some x):∃ s p c xs,cs=[.bool s,.slice p xs.length c]/\gh w (.agg #[.bool s,.slice p xs.length c]) s xs:=by
 obtain ⟨ys,n,rfl,rfl,hl,lR,hf⟩:=DataW.trod_struct Tryz.underlying24 h
 have zM:cs.length=2:=by
  have c:Tryz.prog.cellsOf 24=2:=by kernel_rfl
  rw [c] at hl;exact hl
 have hy2:ys.length=2:=lR
 obtain ⟨a,b,rfl⟩:∃ a b,cs=[a,b]:=by
  exact Fz zM
 obtain ⟨y0,y1,rfl⟩:∃ a b,ys=[a,b]:=by
  exact Fz hy2
 have c0:Tryz.prog.cellsOf 4=1:=by kernel_rfl
 have c1:Tryz.prog.cellsOf 22=1:=by kernel_rfl
 have h0:=hf 0 _ rfl
 have h1:=hf 1 _ rfl
 change DataW.trod enc Tryz.prog w 0 (fun _=>true) held n 4 (([a,b].drop 0).take (Tryz.prog.cellsOf 4))=some y0 at h0
 change DataW.trod enc Tryz.prog w 0 (fun _=>true) held n 22 (([a,b].drop 1).take (Tryz.prog.cellsOf 22))=some y1 at h1
 rw [c0] at h0
 rw [c1] at h1
 obtain ⟨s,hs,_⟩:=DataW.trod_bool Tryz.underlying4 h0
 obtain ⟨p,m,c,xs,hp,hr,hx⟩:=Lw h1
 simp only [List.drop_zero,List.take_succ_cons,List.take_zero,List.cons.injEq,and_true] at hs
 simp only [List.drop_succ_cons,List.drop_zero,List.take_succ_cons,List.take_zero,List.cons.injEq,and_true] at hp
 subst hs hp
 obtain ⟨_,_,hv,_,_,fw⟩:=hr.u32
 subst fw
 exact ⟨s,p,c,xs,rfl,p,c,rfl,hr,hx⟩
theorem Sp {fuel:Nat} {cs:List Value} {x:DataW H×List MemPlace} (h:DataW.trod enc Tryz.prog w 0 (fun _=>true) held fuel 26 cs=some x):∃ s p n c t r m d xs ys,cs=[.bool s,.slice p n c,.bool t,.slice r m d]/\eR w (.agg #[.bool s,.slice p n c,.bool t,.slice r m d]) s xs t ys:=by
 obtain ⟨zs,n,rfl,rfl,hl,lR,hf⟩:=DataW.trod_struct Tryz.underlying26 h
 have zM:cs.length=4:=by
  have c:Tryz.prog.cellsOf 26=4:=by kernel_rfl
  rw [c] at hl;exact hl
 have hy2:zs.length=2:=lR
 obtain ⟨a,b,a',b',rfl⟩:∃ a b a' b',cs=[a,b,a',b']:=by
  exact Sn zM
 obtain ⟨y0,y1,rfl⟩:∃ a b,zs=[a,b]:=by
  exact Fz hy2
 have c0:Tryz.prog.cellsOf 24=2:=by kernel_rfl
 have h0:=hf 0 _ rfl
 have h1:=hf 1 _ rfl
 change DataW.trod enc Tryz.prog w 0 (fun _=>true) held n 24 (([a,b,a',b'].drop 0).take (Tryz.prog.cellsOf 24))=some y0 at h0
 change DataW.trod enc Tryz.prog w 0 (fun _=>true) held n 24 (([a,b,a',b'].drop 2).take (Tryz.prog.cellsOf 24))=some y1 at h1
 rw [c0] at h0 h1
 obtain ⟨s,p,c,xs,e0,n0⟩:=Jt h0
 obtain ⟨t,r,d,ys,e1,n1⟩:=Jt h1
 simp only [List.drop_zero,List.take_succ_cons,List.take_zero,List.cons.injEq,and_true] at e0
 simp only [List.drop_succ_cons,List.drop_zero,List.take_succ_cons,List.take_zero,List.cons.injEq,and_true] at e1
 obtain ⟨rfl,rfl⟩:=e0
 obtain ⟨rfl,rfl⟩:=e1
 exact ⟨_,_,_,_,_,_,_,_,xs,ys,rfl,_,_,_,_,rfl,n0,n1⟩
theorem Sq {α:Type} {p:Nat->α->Prop}:∀ (n:Nat),(∀ i,i < n->∃ q,p i q)->∃ qs:List α,qs.length=n/\∀ (i:Nat) (q:α),qs[i]? =some q->p i q
 | 0,_=>⟨[],rfl,fun i q h=>by simp at h⟩
 | n + 1,h=>by
   obtain ⟨qs,hl,hq⟩:=Sq n (fun i hi=>h i aa)
   obtain ⟨q,hqn⟩:=h n aa
   refine ⟨qs++[q],by simp [hl],fun i x hx=> ?_⟩
   by_cases hi:i < n
   ·rw [List.getElem?_append_left aa] at hx
    exact hq i x hx
   ·rw [List.getElem?_append_right aa,hl] at hx
    have:i=n:=by
     have:=(List.getElem?_eq_some_iff.1 hx).1
     simp at this
     omega
    subst this
    simp at hx
    subst hx
    exact hqn
end
section
variable {H:Type} {enc:TypeId×Value->H} {w:World} {held:Bool}
set_option maxRecDepth 100000 in
theorem open_sl {α:Type} {E:World->List Value->α->Prop} {sz:Nat} {t e:TypeId} (hu:Tryz.prog.underlying t=some (.slice e)) (hc:Tryz.prog.cellsOf e=sz) (mK:0 < sz)
  (GG:∀ {fuel:Nat} {cs:List Value} {x:DataW H×List MemPlace},DataW.trod enc Tryz.prog w 0 (fun _=>true) held fuel e cs=some x->∃ a,E w cs a)
  {v:Value} {d:DataW H} {ps:List MemPlace} {r:_root_.Go.Reach} {b0:Nat} (hv:Value.okWide Tryz.prog w r b0 t v) (h:DataW.Trod enc Tryz.prog w 0 (fun _=>true) held t v d ps):∃ es:List α,dp E sz w v es:=by
 obtain ⟨p,len,cap,rfl⟩:=WideShapes.okWide_slice hu hv
 obtain ⟨fuel,hf⟩:=h
 rcases DataW.trod_slice hu hf with ⟨e,_⟩ | ⟨a,len',cap',elems,rest,n,_,e,_,_,hl,hm,hle,Cv,_⟩
 ·simp [Value.cells] at e
  obtain ⟨rfl,rfl,rfl⟩:=e
  exact ⟨[],dp.nil _ _ _⟩
 ·simp [Value.cells] at e
  obtain ⟨rfl,rfl,rfl⟩:=e
  rw [hc] at Cv
  have each:∀ i,i < len->∃ q,∃ b off cs,some a=some ⟨b,off,none⟩/\(∀ (j:Nat) (u:Value),cs[j]? =some u->w.cell? ⟨b,off + i * sz + j,none⟩=some u)/\E w cs q:=by
   intro i hi
   obtain ⟨y,hy⟩:∃ y,elems[i]? =some y:=⟨_,List.getElem?_eq_getElem aa⟩
   have hb:=Cv i hi
   rw [hy,Option.bind_eq_some_iff] at hb
   obtain ⟨cs,hcs,ht⟩:=hb
   obtain ⟨q,hq⟩:=GG ht
   obtain ⟨_,hlen,hcell⟩:=World.cells?_some hcs
   obtain ⟨b,off,spot⟩:=a
   have hspot:spot=none:=by
    obtain ⟨y0,Qr⟩:∃ y,elems[0]? =some y:=⟨_,List.getElem?_eq_getElem aa⟩
    have qE:=Cv 0 aa
    rw [Qr,Option.bind_eq_some_iff] at qE
    obtain ⟨cs0,hcs0,ht0⟩:=qE
    obtain ⟨_,hlen0,hcell0⟩:=World.cells?_some hcs0
    have Sr:=hcell0 0 mK
    rw [List.getElem?_eq_getElem aa] at Sr
    have g0:=World.cell?_spot Sr
    simpa [Addr.add] using g0
   subst hspot
   refine ⟨q,b,off,cs,rfl,fun j u hj=> ?_,hq⟩
   have hjl:j < sz:=by have:=(List.getElem?_eq_some_iff.1 hj).1;omega
   have:=hcell j hjl
   rw [WideShapes.add_plain,WideShapes.add_plain] at this
   rw [this]
   exact hj
  obtain ⟨qs,EN,hqs⟩:=Sq len each
  subst EN
  exact ⟨qs,_,_,rfl,hl,hm,fun i q hq=>hqs i q hq⟩
end
def Hp.Ph:Nat->List (TypeId×List AV)->Hp
 | _,[]=>fun _=>none
 | i,c::r=>fun n=>bif Nat.beq n i then some c else Hp.Ph (i + 1) r n
theorem Hp.pP:∀ (l:List (TypeId×List AV)) (i n:Nat),Hp.Ph i l n=if i≤n then l[n - i]? else none
 | [],i,n=>by unfold Hp.Ph;simp
 | c::r,i,n=>by
   unfold Hp.Ph
   rw [Hp.pP r (i + 1) n]
   by_cases h:n=i
   ·subst h;simp
   ·have hb:Nat.beq n i=false:=by rw [<-Bool.not_eq_true,Nat.beq_eq];exact h
    rw [hb,cond_false]
    by_cases h1:i≤n
    ·rw [if_pos h1,if_pos aa,show n - i=(n - (i + 1)) + 1 by omega];rfl
    ·rw [if_neg h1,if_neg aa]
def adB (N:Nat) (ad:List Nat):Nat->Nat:=fun i=>ad.getD (i - 2 * N) 0
structure jZ (K:KC) (N:Nat) (ad:List Nat) (l:List (TypeId×List AV)) (w:World):Prop where
 len:ad.length=l.length
 nodup:ad.Nodup
 cls:∀ (j:Nat) (g:Nat) (c:TypeId×List AV),ad[j]? =some g->l[j]? =some c->aZ w g c.1 (c.2.map (AV.leaf (adB N ad))).toArray
 ok:∀ c∈l,K.fz c.1=false/\c.2.all aG=true
 ids:∀ c∈l,∀ k∈ax c.2,2 * N≤k/\k < 2 * N + l.length
theorem jZ.ad {K:KC} {N:Nat} {ad:List Nat} {l:List (TypeId×List AV)} {w:World} (h:jZ K N ad l w):uX K ad w:=fun g hg=>by
 obtain ⟨j,hj⟩:=List.mem_iff_getElem?.1 hg
 have hlt:=(List.getElem?_eq_some_iff.1 hj).1
 obtain ⟨c,hc⟩:∃ c,l[j]? =some c:=⟨_,List.getElem?_eq_getElem (by rw [<-h.len];exact hlt)⟩
 obtain ⟨h1,h2⟩:=h.ok c (List.mem_of_getElem? hc)
 exact ⟨c.1,_,h.cls j g c hj hc,h1,dv h2⟩
theorem fi (P:Program) (w:World) (N:Nat) (K:KC) (SU:TypeId->Bool) (ti:TypeId->Option TI) (keep:∀ b,b < w.heap.size->K.S b) {ad:List Nat} {l:List (TypeId×List AV)} {us:List Value} {f:FuncId} {fn:Func} {c:Code} {R:Ending->World->Prop} (hf:P.funcs[f]? =some fn) (hb:fn.body=some c) (hN:fn.ntmps=N) (ha:us.length + 1≤N)
  (hl:jZ K N ad l w) (h0:0 < l.length)
  (h:VS (OQ P w N K SU ti keep ad hl.nodup hl.ad) (bodyPost P fn R) [.code c] (Fr.Ry 0 (.box (2 * N) 0::us.map .val)) (Hp.Ph (2 * N) l) w):Calls P f (Value.pointer (some ⟨ad.getD 0 0,0,none⟩)::us).toArray w R:=by
 have Cv:∀ i c,Hp.Ph (2 * N) l i=some c->2 * N≤i/\l[i - 2 * N]? =some c:=fun i c hi=>by
  rw [Hp.pP] at hi
  split at hi
  ·exact ⟨by assumption,hi⟩
  ·cases hi
 have hsome:∀ i,Hp.Ph (2 * N) l i≠none->2 * N≤i/\i - 2 * N < l.length:=fun i hi=>by
  cases hh:Hp.Ph (2 * N) l i with
  | none=>exact absurd hh hi
  | some c=>
    obtain ⟨h1,h2⟩:=Cv i c hh
    exact ⟨h1,(List.getElem?_eq_some_iff.1 h2).1⟩
 have hval:∀ k,k < ad.length->ad[k]? =some (ad.getD k 0):=fun k hk=>by simp [List.getD_eq_getElem?_getD,hk]
 have:=IG (C:=OQ P w N K SU ti keep ad hl.nodup hl.ad) (R:=R) (args:=.box (2 * N) 0::us.map .val) (β:=adB N ad) (H:=Hp.Ph (2 * N) l) hf hb hN (by simpa using ha) (fun i t cs hi=> ?_) (fun i j hi hj e=> ?_) ⟨fun i t cs hi=> ?_,fun i t cs hi=> ?_,fun i hi=> ?_⟩ (fun v hv i hi=> ?_) h
 ·have e:(AV.box (2 * N) 0::us.map AV.val).map (AV.bj (adB N ad))=Value.pointer (some ⟨ad.getD 0 0,0,none⟩)::us:=by
   rw [List.map_cons,js]
   show Value.pointer (some ⟨ad.getD (2 * N - 2 * N) 0,0,none⟩)::us=_
   rw [Nat.sub_self]
  rw [e] at this
  exact this
 ·obtain ⟨h1,h2⟩:=Cv i _ hi
  have hlt:=(List.getElem?_eq_some_iff.1 h2).1
  obtain ⟨g1,g2⟩:=hl.ok _ (List.mem_of_getElem? h2)
  have hv:=hval (i - 2 * N) (by rw [hl.len];exact hlt)
  refine ⟨?_,g1,hl.cls _ _ _ hv h2,g2⟩
  show dm N ad w i (adB N ad i)
  unfold dm
  rw [if_pos h1]
  exact hv
 ·obtain ⟨h1,h2⟩:=hsome i hi
  obtain ⟨h3,h4⟩:=hsome j hj
  have e1:=hval (i - 2 * N) (by rw [hl.len];exact h2)
  have e2:=hval (j - 2 * N) (by rw [hl.len];exact h4)
  have e':ad.getD (i - 2 * N) 0=ad.getD (j - 2 * N) 0:=e
  rw [<-e'] at e2
  have:=(List.getElem?_inj (by rw [hl.len];exact h2) hl.nodup).1 (e1.trans e2.symm)
  omega
 ·obtain ⟨h1,h2⟩:=Cv i _ hi
  exact hl.ok _ (List.mem_of_getElem? h2)
 ·obtain ⟨h1,h2⟩:=Cv i _ hi
  intro j hj
  obtain ⟨h3,h4⟩:=hl.ids _ (List.mem_of_getElem? h2) j hj
  rw [Hp.pP,if_pos h3,List.getElem?_eq_getElem aa]
  simp
 ·have wk:2 * N + ad.length≤i:=hi
  rw [Hp.pP]
  split
  ·exact List.getElem?_eq_none (by rw [<-hl.len];omega)
  ·rfl
 ·rcases List.mem_cons.1 hv with rfl | hv
  ·have:i=2 * N:=by simpa [AV.ids] using hi
   rw [this,Hp.pP,if_pos (Nat.le_refl _),Nat.sub_self,List.getElem?_eq_getElem h0];simp
  ·obtain ⟨u,_,rfl⟩:=List.mem_map.1 hv
   cases hi
theorem fj {P:Program} {w w':World} {N:Nat} {K:KC} {SU:TypeId->Bool} {ti:TypeId->Option TI} {keep:∀ b,b < w.heap.size->K.S b} {ad:List Nat} {hd:ad.Nodup} {ha:uX K ad w} {β:Nat->Nat} {i:Nat} {t:TypeId} {cs:List AV} (h:ly (OQ P w N K SU ti keep ad hd ha) β w' i t cs) (j g:Nat) (hi:i=2 * N + j) (hj:ad[j]? =some g):β i=g/\aZ w' g t (cs.map (AV.leaf β)).toArray:=by
 have h1:dm N ad w i (β i):=h.new
 unfold dm at h1
 rw [if_pos aa,hi,Nat.add_sub_cancel_left,hj] at h1
 have h2:g=β i:=by rw [hi];simpa using h1
 exact ⟨h2.symm,h2▸h.cls⟩
section
variable {C:Cx} {F:Fr} {H:Hp} {w:World} {m:Option (List FuncId)} {full:Array Oper} {K:Fr->Hp->World->Prop} {o:Oper} {r:List Oper} {Q:Exit->Act->World->Prop} {k:List It}
def BF (F:Fr) (β:Nat->Nat):List (Nat×AV)->Prop
 | []=>True
 | p::r=>(∃ u x,F p.1=some u/\u.bj β=x/\p.2=.val x)/\BF F β r
theorem BF.mem {β:Nat->Nat}:∀ {L:List (Nat×AV)} {d:Nat} {v:AV},BF F β L->(d,v)∈L->∃ u x,F d=some u/\u.bj β=x/\v=.val x
 | p::r,d,v,h,hm=>by
   rcases List.mem_cons.1 hm with rfl | hm
   ·exact h.1
   ·exact BF.mem h.2 hm
theorem VS.rebase (D:World->Cx) (hP:∀ w,(D w).P=C.P) (hN:∀ w,(D w).N=C.N) (hO:∀ w,(D w).Old w)
  (h:∀ w' β,bt C.K w w'->C.Old w'->Ends C β H w'->∃ L:List (Nat×AV),BF F β L/\VS (D w') Q k (Fr.of L) (fun _=>none) w'):VS C Q k F H w:=fun β a w' hr hk=>by
 obtain ⟨L,hL,hv⟩:=h w' β hk hr.old ⟨hr.own,hr.apart⟩
 have:=hv β a w' ⟨hr.defers,by rw [hN];exact hr.size,fun d v hd=> ?_,fun i t cs hi=>(by cases hi),fun i j hi=>absurd rfl hi,fun d v hd i hi=> ?_,fun d v hd=> ?_,⟨fun i t cs hi=>(by cases hi),fun i t cs hi=>(by cases hi),fun i hi=>rfl⟩,hO w'⟩ (bt.refl _ _)
 ·rw [hP] at this
  exact this
 ·obtain ⟨u,x,h1,rfl,rfl⟩:=hL.mem (Fr.gS hd)
  exact hr.tmp d u h1
 ·obtain ⟨u,x,h1,rfl,rfl⟩:=hL.mem (Fr.gS hd)
  cases hi
 ·obtain ⟨u,x,h1,rfl,rfl⟩:=hL.mem (Fr.gS hd)
  rw [hN];exact hr.fits d u h1
end
section
variable {C:Cx} {F:Fr} {H:Hp} {w:World} {m:Option (List FuncId)} {full:Array Oper} {K:Fr->Hp->World->Prop} {o:Oper} {r:List Oper}
theorem VO.appO (hC:C.Ok) {t e:TypeId} {it ie:TI} {sz n c mm off i:Nat} {x y:Operand} {src:AV} {pre known spare news:List AV} {dst:Nat}
  (e0:stepOf C full F H o=.call (.op o [.row i off n c,src])) (ho:o.op=.call { callee:=.builtin .append,args:=#[x,y],argTypes:=#[t,t] })
  (OK:C.ti t=some it) (GG:it.elem=some (e,sz)) (GD:C.ti e=some ie) (hU:C.K.fz e=false) (hzo:ie.zero.cells.toList.all aU=true)
  (hd:o.dst=some dst) (hN:dst < C.N) (hl:lvl C.SU m o=2)
  (hH:H i=some (e,pre++(known++spare))) (hpre0:pre.length=off\/(c=0/\0 < mm))
  (ji:H dst=none\/some i=some dst) (hk:known.length=n * sz) (hsp:(known++spare).length=c * sz) (fM:n≤c) (gg:c≤9223372036854775807)
  (gC:ax known=[]/\ax spare=[]/\ax news=[]) (hlidp:ax pre=[]) (fD:known.all aG=true/\spare.all aG=true/\news.all aG=true) (hokp:pre.all aG=true) (CL:news.length=mm * sz) (iw:(n + mm) * (24 * sz)≤140737488355328)
  (IC:∀ w1 β,bt C.K w w1->C.Old w1->oo C β H (gI [.row i off n c,src]) w1->∃ p cc,src.bj β=.slice p mm cc/\(mm=0\/∃ b off,p=some ⟨b,off,none⟩/\∀ j u,(news.map (AV.leaf β))[j]? =some u->w1.cell? ⟨b,off + j,none⟩=some u))
  (hK:∀ w2 aV cf cap aj ρ,bt C.K w w2->C.Old w2->(∀ x,aU (ρ x)=true)->cf.length=aV->cf.all aG=true->ax cf=[]->n + mm≤cap->cap≤9223372036854775807->((known++news)++aj).length=cap * sz->aj.all aG=true->ax aj=[]->
   aB C m full r K ((F.forget (some i) ρ).bu o.dst (.row dst aV (n + mm) cap)) ((H.forget (some i) ρ).put dst (e,cf++((known++news)++aj))) w2):aB C m full (o::r) K F H w:=by
 obtain ⟨base,kM⟩:∃ base,base=AV.row i off n c:=⟨_,rfl⟩
 obtain ⟨del,hdel⟩:∃ del,del=some i:=⟨_,rfl⟩
 rw [<-kM] at e0 IC
 rw [<-hdel] at ji hK
 show one C m full o (aB C m full r K) F H w
 unfold one
 rw [e0]
 intro w1 β h1 h2 h3
 obtain ⟨hu,hsz⟩:=(hC t it OK).isSlice e sz GG
 have DW:=hC e ie GD
 cases tt:C.P.info? e with
 | none=>have:=DW.size;rw [tt] at this;simp at this
 | some ti=>
   have ID:ti.size=ie.size:=by have:=DW.size;rw [tt] at this;simpa using this
   have ik:ti.zero=some ie.zero:=by have:=DW.Dv;rw [tt] at this;simpa using this
   have aK:ti.bytes≤24 * ie.size:=bB (by have:=DW.bytes;rw [tt] at this;simpa using this)
   have Fg:sz=ti.size:=by
    have:=hsz w1
    simp [sizeOf,typeInfo,tt] at this
    exact this.symm
   have mK:0 < sz:=by rw [Fg,ID];exact DW.pos
   have PZ:ie.zero.cells.size=sz:=by rw [DW.AP,Fg,ID]
   have hcap:n + mm≤140737488355328:=by
    have:(n + mm) * 24≤(n + mm) * (24 * sz):=Nat.mul_le_mul_left _ aa
    omega
   have Kn:(n + mm) * ti.bytes≤140737488355328:=Nat.le_trans (Nat.mul_le_mul_left _ (by rw [Fg,ID];exact aK)) iw
   obtain ⟨p,cc,hsc,hsp2⟩:=IC w1 β h1 h2 h3
   have hS:Src C.P ti.size t (.slice p mm cc) mm (news.map (AV.leaf β)) w1:=by
    have sA:∀ u∈news.map (AV.leaf β),u.oneCell'=true:=fun u hu=>tj (List.all_eq_true.1 (dv (β:=β) fD.2.2) u hu)
    rcases hsp2 with rfl | ⟨b,off,rfl,hc⟩
    ·have:news=[]:=List.eq_nil_of_length_eq_zero (by simpa using CL)
     subst this
     cases p with
     | none=>exact Src.ofNil w1 hu cc
     | some a=>exact Src.ofSlice w1 hu a 0 cc [] cA (fun j u hj=>by simp at hj) sA
    ·refine Src.ofSlice w1 hu ⟨b,off,none⟩ mm cc _ (by rw [List.length_map,CL,Fg]) (fun j u hj=> ?_) sA
     rw [Addr.add_mid]
     exact hc j u hj
   have Ru:∀ ρ:Operand->Value,o.op.operands.toList.map ρ=[base,src].map (AV.bj β)->ρ x=base.bj β/\ρ y=.slice p mm cc:=fun ρ h=>by
    rw [ho] at h
    simp [Op.operands,Call.operands] at h
    exact ⟨h.1,h.2.trans hsc⟩
   have hrun:∀ {v:Value} {w2:World},(Builtin.append_ #[t,t] o.type #[base.bj β,.slice p mm cc]).run C.P w1=.ok v w2->∀ ρ:Operand->Value,o.op.operands.toList.map ρ=[base,src].map (AV.bj β)->(execOp ρ o).run C.P w1=.ok (.value v) w2:=fun {v w2} hv ρ fF=>by
    obtain ⟨q1,q2⟩:=Ru ρ fF
    unfold execOp
    simp only [ho,resolve,invoke,builtin,Sem.run_bind,Sem.run_pure,Result.andThen_ok,List.map_toArray,List.map_cons,List.map_nil,q1,q2,hv]
   have hg:∀ i,del=some i->Reach H (gI [base,src]) i/\H i≠none:=fun i' hi=>by
    rw [hdel] at hi;cases hi
    exact ⟨.base (by rw [kM];simp [gI,AV.ids]),by rw [hH];simp⟩
   have fin:∀ (w2:World) (b aV cap:Nat) (cf aj:List AV),cf.length=aV->cf.all aG=true->ax cf=[]->(∀ ρ:Operand->Value,o.op.operands.toList.map ρ=[base,src].map (AV.bj β)->(execOp ρ o).run C.P w1=.ok (.value (.slice (some ⟨b,aV,none⟩) (n + mm) cap)) w2)->
     w2.os=w1.os->w2.tape=w1.tape->w2.output=w1.output->w1.heap.size≤w2.heap.size->(∀ q,q < w1.heap.size->q≠b->w2.heap[q]? =w1.heap[q]?)->(w1.heap.size≤b\/∃ i,del=some i/\b=β i)->
     n + mm≤cap->cap≤9223372036854775807->((known++news)++aj).length=cap * sz->aj.all aG=true->ax aj=[]->aZ w2 b e ((cf++((known++news)++aj)).map (AV.leaf β)).toArray->
     wC C.P (.op o [base,src]) β w1 fun e w2=>∃ bW r' del ups,e=.returned (r'.bj bW)/\(∀ i∈r'.ids,i∈ups.map (·.1)\/(Reach H (fq.op o [base,src]).ids i/\H i≠none/\del≠some i))/\(1≤lvl C.SU m o\/ups=[])/\(2≤lvl C.SU m o\/del=none)/\
      AX C β bW H (fq.op o [base,src]).ids del ups w1 w2/\(bt C.K w w2->bt C.K w1 w2->C.Old w2->∀ ρ,(∀ x,aU (ρ x)=true)->aB C m full r K ((F.forget del ρ).bu o.dst r') ((H.forget del ρ).fR ups) w2):=by
    intro w2 b aV cap cf aj p1 p2 p3 hrun q1 q2 q3 q4 q5 q6 q7 q8 q9 q10 q11 q12
    let bW:Nat->Nat:=fun i=>if i=dst then b else β i
    have rV:bW dst=b:=if_pos rfl
    have gN:(cf++((known++news)++aj)).all aG=true:=by simp only [List.all_append,fD.1,fD.2.2,q10,p2];rfl
    have iM:ax (cf++((known++news)++aj))=[]:=by rw [cR,cR,cR,gC.1,gC.2.2,q11,p3];rfl
    have OL:C.AQ dst b:=by
     rcases q6 with e | ⟨i,hi,e⟩
     ·exact C.sQ _ _ aa (by have:=C.fe _ h2;omega)
     ·obtain ⟨g1,g2⟩:=hg i hi
      cases hh:H i with
      | none=>exact absurd hh g2
      | some c'=>rw [e];exact C.Dx i dst _ (h3.own i g1 c'.1 c'.2 hh).new aa
    have Dq:∀ i,del=some i->w2.heap[β i]? =w1.heap[β i]?\/∃ x∈[(dst,(e,cf++((known++news)++aj)))],bW x.1=β i:=fun i hi=>by
     by_cases e':β i=b
     ·exact .inr ⟨_,List.mem_singleton.2 rfl,rV.trans e'.symm⟩
     ·obtain ⟨g1,g2⟩:=hg i hi
      cases hh:H i with
      | none=>exact absurd hh g2
      | some c'=>exact .inl (q5 _ (h3.own i g1 c'.1 c'.2 hh).cls.lt e')
    refine ⟨_,w2,fun ρ fF=>.inl (hrun ρ fF),bW,.row dst aV (n + mm) cap,del,[(dst,(e,cf++((known++news)++aj)))],?_,fun i hi=>.inl (by simpa [AV.ids] using hi),.inl aa,.inl aa,?_,fun a1 a2 a3 ρ fF=>hK w2 aV cf cap aj ρ a1 a3 fF p1 p2 p3 q7 q8 q9 q10 q11⟩
    ·show Ending.returned _=.returned (Value.slice (some ⟨bW dst,aV,none⟩) (n + mm) cap);rw [rV]
    ·refine ⟨q1,q2,q3,q4,fun k hk hx jU _=>q5 k hk (by have:=hx _ (List.mem_singleton.2 rfl);simpa [rV] using this),fun i hi=>if_neg (by simpa using hi),hg,fun i hi=>(Dq i hi).imp .inl id,fun x hx=> ?_,fun x hx=> ?_,by simp,fun x hx y hy _=> ?_,fun x hx j hj=> ?_⟩
     ·cases List.mem_singleton.1 hx
      refine ⟨by rw [rV];exact OL,hU,?_,gN⟩
      rw [rV,jr (β:=β) (fun i hi=>by rw [iM] at hi;cases hi)]
      exact q12
     ·cases List.mem_singleton.1 hx
      refine .inr ⟨ji,by omega,?_⟩
      rcases q6 with e | ⟨i,hi,e⟩
      ·exact .inl (by rw [rV];exact e)
      ·exact .inr ⟨i,hi,by rw [rV];exact e⟩
     ·cases List.mem_singleton.1 hx;cases List.mem_singleton.1 hy;rfl
     ·cases List.mem_singleton.1 hx
      rw [iM] at hj;cases hj
   have grow:c < n + mm->(∃ bp,base.bj β=.slice bp n c/\(Builtin.firstCells ti.size n (.slice bp n c)).run C.P w1.drew=.ok (known.map (AV.leaf β)).toArray w1.drew)->wC C.P (.op o [base,src]) β w1 fun e w2=>∃ bW r' del ups,e=.returned (r'.bj bW)/\(∀ i∈r'.ids,i∈ups.map (·.1)\/(Reach H (fq.op o [base,src]).ids i/\H i≠none/\del≠some i))/\(1≤lvl C.SU m o\/ups=[])/\(2≤lvl C.SU m o\/del=none)/\
      AX C β bW H (fq.op o [base,src]).ids del ups w1 w2/\(bt C.K w w2->bt C.K w1 w2->C.Old w2->∀ ρ,(∀ x,aU (ρ x)=true)->aB C m full r K ((F.forget del ρ).bu o.dst r') ((H.forget del ρ).fR ups) w2):=by
    rintro OI ⟨bp,hbp,hfc⟩
    have hr:=run_append_grow_src (P:=C.P) w1 t t o.type e ti ie.zero hu tt ik bp n c (known.map (AV.leaf β)) hfc (.slice p mm cc) mm (news.map (AV.leaf β)) hS OI aa (growslice_fits OI Kn)
    obtain ⟨zs,oi,hz3,hz4⟩:=oA ie.zero (grownCap w1 (n + mm) c e - (n + mm))
    have hge:=grownCap_ge w1 (n + mm) c e
    have hle:=grownCap_le_maxLen w1 (n + mm) c e (by simp only [maxLen];omega)
    rw [oi] at hr
    have Bn:aM w1 (w1.drew.alloc (.cells ((known.map (AV.leaf β)++news.map (AV.leaf β)).toArray++zs.toArray) e)):=(aM.refl w1).drew.alloc _
    refine fin _ w1.heap.size 0 (grownCap w1 (n + mm) c e) [] (zs.map .val) rfl rfl rfl (hrun (by rw [hbp];exact hr)) Bn.os Bn.tape Bn.output Bn.size (fun q hq _=>Below.block Bn q hq) (.inl (Nat.le_refl _)) hge (by simpa [maxLen] using hle) ?_ (bg (hz4 hzo)) (ai zs) ?_
    ·rw [List.length_append,List.length_append,List.length_map,hk,CL,hz3,PZ,<-Nat.add_mul,<-Nat.add_mul]
     congr 1
     omega
    ·have:(((known++news)++zs.map AV.val).map (AV.leaf β)).toArray=(known.map (AV.leaf β)++news.map (AV.leaf β)).toArray++zs.toArray:=by
      rw [List.map_append,List.map_append,ag]
      apply Array.ext'
      rw [Array.toList_append]
     rw [List.nil_append,this]
     exact aZ.newAt (w:=w1.drew) rfl _ _
   have hki:pre++(known++spare)=(pre++known)++spare:=(List.append_assoc _ _ _).symm
   have Nf:base.bj β=.slice (some ⟨β i,off,none⟩) n c:=by rw [kM];rfl
   obtain ⟨g1,g2,g3,g4⟩:=h3.own i (.base (List.mem_append_left _ (by rw [kM];exact List.mem_singleton.2 rfl))) e _ hH
   by_cases hroom:n + mm≤c
   ·have uJ:pre.length=off:=hpre0.resolve_right (fun h=>by omega)
    have Hn:(pre++known).length=off + n * sz:=by rw [List.length_append,uJ,hk]
    have CR:known.length + spare.length=c * sz:=by rw [<-List.length_append];exact hsp
    have hmul:n * sz + mm * sz≤c * sz:=by rw [<-Nat.add_mul];exact Nat.mul_le_mul_right _ hroom
    have hfit:off + n * sz + news.length≤(pre++(known++spare)).length:=by rw [List.length_append,hsp,CL,uJ];omega
    have hr:=run_append_room_src (P:=C.P) w1 t t o.type e ti hu tt (β i) off n c (.slice p mm cc) mm (news.map (AV.leaf β)) hS hroom (fun j hj=>by
      rw [List.length_map] at hj
      obtain ⟨z,hz⟩:∃ z,((pre++(known++spare)).map (AV.leaf β))[off + n * ti.size + j]? =some z:=⟨_,List.getElem?_eq_getElem (by rw [List.length_map,<-Fg];omega)⟩
      rw [g3.cell (u:=z) (by simpa using hz)];rfl)
     (fun j _=>g3.frozen _)
    rw [<-Fg] at hr
    obtain ⟨k1,k2,k3,k4⟩:=lG (K:=C.K) (news.map (AV.leaf β)) (off + n * sz) w1 ((pre++(known++spare)).map (AV.leaf β)) g3 g2 (dv g4) (dv fD.2.2)
    obtain ⟨s1,s2,s3,_⟩:=iK (b:=β i) (news.map (AV.leaf β)) (off + n * sz) w1
    refine fin _ (β i) off c pre (spare.drop (mm * sz)) uJ hokp hlidp (hrun (by rw [Nf];exact hr)) s1 s2 s3 k1.size (fun q _ hq=>eJ _ _ _ q hq) (.inr ⟨i,hdel,rfl⟩) hroom gg ?_ ?_ ?_ ?_
    ·simp only [List.length_append,List.length_drop] at hsp hfit ⊢
     omega
    ·exact List.all_eq_true.2 fun x hx=>List.all_eq_true.1 fD.2.1 x (List.mem_of_mem_drop hx)
    ·rw [List.eq_nil_iff_forall_not_mem]
     intro j hj
     obtain ⟨v,hv,hj'⟩:=aX.1 hj
     have:j∈ax spare:=aX.2 ⟨v,List.mem_of_mem_drop hv,hj'⟩
     rw [gC.2.1] at this;cases this
    ·rw [pC _ _ _ (by simp only [List.length_map];omega)] at k2
     have:((pre++(known++spare)).map (AV.leaf β)).take (off + n * sz)++(news.map (AV.leaf β)++((pre++(known++spare)).map (AV.leaf β)).drop (off + n * sz + (news.map (AV.leaf β)).length))=((pre++((known++news)++spare.drop (mm * sz))).map (AV.leaf β)):=by
      rw [hki,List.length_map,CL,<-List.map_take,<-List.map_drop,<-Hn,List.take_left',List.drop_append]
      ·rw [List.drop_of_length_le aa]
       simp [List.map_append]
      ·rfl
     rw [this] at k2
     exact k2
   ·refine grow aa ⟨some ⟨β i,off,none⟩,Nf,?_⟩
    refine run_firstCells_some w1.drew ti.size n ⟨β i,off,none⟩ n c (known.map (AV.leaf β)) (by rw [List.length_map,hk,Fg]) (fun j u hj=> ?_)
    rw [Addr.add_mid]
    have hlt:=(List.getElem?_eq_some_iff.1 hj).1
    have uJ:pre.length=off:=hpre0.resolve_right (fun h=>by
     rw [List.length_map,hk] at hlt
     have:n=0:=by omega
     rw [this] at hlt;omega)
    have:w1.cell? ⟨β i,off + j,none⟩=some u:=g3.cell (by
     rw [List.map_append,List.map_append]
     rw [List.getElem?_toArray,List.getElem?_append_right (by rw [List.length_map];omega),List.length_map,uJ,Nat.add_sub_cancel_left,List.getElem?_append_left hlt]
     exact hj)
    exact this
end
def pQ (o:Oper):Bool:=match o.op,o.guard,o.dst with | .store _ _ _,none,none=>true | _,_,_=>false
def vA (su:TypeId->Bool) (ml:List FuncId) (full:Array Oper) (B S:List Nat) (i j:Nat):Bool:=
 ox su ml full i j || (B.contains i && (S.contains j && (match full[i]?,full[j]? with | some p,some o=>p.apart full o | _,_=>true)))
def Lx (su:TypeId->Bool) (ml:List FuncId) (full:Array Oper) (B S:List Nat):Bool:=
 ((List.range full.size).all fun j=>(er full j).all (fun d=>Nat.blt d j) && (List.range j).all fun i=>vA su ml full B S i j) &&
   ((full.toList.all fun o=> !Nat.beq (au su ml o) 5) && ((B.all fun j=>match full[j]? with | some o=>Nat.ble (au su ml o) 2 || Nat.beq (au su ml o) 4 | none=>true) && (S.all fun j=>match full[j]? with | some o=>pQ o | none=>true)))
section
variable {C:Cx} {full:Array Oper} {ml:List FuncId} {Q:Exit->Act->World->Prop} {F:Fr} {H:Hp} {w:World} {k:Fr->Hp->World->Prop} {p o q:Oper}
def yt (su:TypeId->Bool) (ml:List FuncId) (J:List Nat) (F:Fr) (o:Oper):Prop:=
 (∀ x∈o.op.operands.toList,∀ v,ev F x=some v->(∀ i∈v.ids,i∉J)/\(au su ml o=4->v.ids=[]))/\∀ d,o.dst=some d->d∉J
def Toward (J:List Nat) (F:Fr) (o:Oper):Prop:=∃ t x y j off,o.op=.store t x y/\ev F x=some (.box j off)/\j∈J
theorem Ss {t:TypeId} {x:Operand} {d:Nat} {c:TypeId×List AV} (hop:o.op=.load t x) (h:∀ v,ev F x=some v->d∉v.ids):act C F (H.put d c) o=act C F H o:=by
 unfold act
 rw [hop]
 dsimp only
 split
 ·rename_i b off i hx hi
  have:b≠d:=fun e=>h _ hx (by simp [AV.ids,e])
  rw [Hp.cW,if_neg this]
 ·rename_i b off i hx hi
  have:b≠d:=fun e=>h _ hx (by simp [AV.ids,e])
  rw [Hp.cW,if_neg this]
 ·rfl
 ·rfl
theorem Ju (h:au C.SU ml o=1):∃ t x,o.op=.load t x:=by
 unfold au at h
 cases hop:o.op <;> rw [hop] at h <;> simp only at h <;> try (exfalso;revert h;simp;done)
 case load t x=>exact ⟨t,x,rfl⟩
 case unOp op _ _=>cases op <;> simp at h
 case makeFunc fn _ _=>cases fn <;> simp at h
 case slice t x lo hi mx=>cases mx <;> simp at h
 case buildSlice t n ps=>exfalso;cases hs:C.SU t <;> rw [hs] at h <;> simp at h
 case call c=>
  exfalso
  cases hc:c.callee with
  | builtin b=>rw [hc] at h;cases b <;> simp at h
  | value f=>rw [hc] at h;cases hk:ET ml c <;> cases hm:MI ml c <;> simp [hm,hk] at h
  | _=>rw [hc] at h;simp at h
theorem St {J:List Nat} {d:Nat} {c:TypeId×List AV} (ha:yt C.SU ml J F o) (hd:d∈J) (hm:au C.SU ml o≤2\/au C.SU ml o=4):stepOf C full F (H.put d c) o=stepOf C full F H o:=by
 refine ff ?_
 rcases (by omega:au C.SU ml o=0\/au C.SU ml o=1\/au C.SU ml o=2\/au C.SU ml o=4) with e | e | e | e
 ·exact gR (ml:=ml) (.inl e)
 ·obtain ⟨t,x,hop⟩:=Ju e
  refine Ss hop fun v hv hi=> ?_
  exact (ha.1 x (by rw [hop];simp [Op.operands]) v hv).1 d hi hd
 ·cases ho:o.dst with
  | none=>exact xH (ml:=ml) (c:=(d,c)) e ho
  | some d'=>exact Bg (ml:=ml) e ho (fun e'=>ha.2 d' ho (e'▸hd))
 ·exact gR (ml:=ml) (.inr e)
theorem xT {J:List Nat} (ht:Toward J F o) (hs:pQ o=true):stepOf C full F H o=.bad\/∃ j c,j∈J/\stepOf C full F H o=.fo (.val undef) (some (j,c))/\∀ H':Hp,H' j=H j->stepOf C full F H' o=stepOf C full F H o:=by
 obtain ⟨t,x,y,j,off,hop,hx,hj⟩:=ht
 have hg:o.guard=none/\o.dst=none:=by
  unfold pQ at hs
  rw [hop] at hs
  revert hs
  cases o.guard <;> cases o.dst <;> simp
 have hst:∀ H:Hp,stepOf C full F H o=act C F H o:=fun H=>by
  unfold stepOf wants kP
  rw [hg.1,hg.2]
  rfl
 have hac:∀ H:Hp,act C F H o=match ev F y,C.ti t with
  | some v,some i=>(match H j with | some (tb,cs)=>nJ i j tb cs off v | none=>.bad)
  | _,_=>.bad:=fun H=>by
  unfold act
  rw [hop]
  dsimp only
  rw [hx]
  cases ev F y with
  | none=>rfl
  | some v=>cases C.ti t <;> rfl
 rw [hst,hac]
 cases hy:ev F y with
 | none=>exact .inl rfl
 | some v=>
   cases ht':C.ti t with
   | none=>exact .inl rfl
   | some i=>
     dsimp only
     cases hh:H j with
     | none=>exact .inl rfl
     | some u=>
       obtain ⟨tb,cs⟩:=u
       dsimp only
       rcases Plain.nJ i j tb cs off v with e | ⟨v',u',e⟩
       ·exact .inl e
       ·obtain ⟨_,_,_,rfl,rfl⟩:=AZ e
        refine .inr ⟨j,_,hj,e,fun H' hH=> ?_⟩
        rw [hst,hac,hy,ht',hH,hh]
theorem swapL (hC:C.Ok) {J:List Nat} (hL:Live C F H w) (ha:q.apart full o=true) (hq:yt C.SU ml J F q) (hqm:au C.SU ml q≤2\/au C.SU ml q=4) (ho:Toward J F o) (hs:pQ o=true) (h:one C (some ml) full q (one C (some ml) full o k) F H w):one C (some ml) full o (one C (some ml) full q k) F H w:=by
 obtain ⟨a1,a2,a3⟩:=Oper.apart_spec ha
 have hod:o.dst=none:=by
  unfold pQ at hs
  revert hs
  cases o.op <;> cases o.guard <;> cases o.dst <;> simp
 have hstep:∀ (x:AV) (H':Hp),stepOf C full (F.bu q.dst x) H' o=stepOf C full F H' o:=fun x H'=>dY a1
 rcases xT (C:=C) (full:=full) (H:=H) ho hs with hb | ⟨j,c,hj,hst,hsame⟩
 ·exfalso
  rcases fV (C:=C) (stepOf C full F H q) with hp | ⟨Ψp,up,hp⟩ | ⟨d,hp⟩
  ·unfold one at h;rw [hp] at h;exact h.elim
  ·obtain ⟨x,hx,h⟩:=(cO hp).1 h
   unfold one at h
   have hu:stepOf C full (F.bu q.dst x) (H.upd up) o=.bad:=by
    rw [hstep]
    rcases xT (C:=C) (full:=full) (H:=H.upd up) ho hs with e | ⟨j,c,hj,e,hsm⟩
    ·exact e
    ·have:(H.upd up) j=H j:=by
      rcases fu (ml:=ml) hp with e' | e' | ⟨e',d,c',hd,e2,h0⟩
      ·rw [e'];rfl
      ·omega
      ·rw [e2];show (H.put d c') j=H j
       rw [Hp.cW,if_neg]
       intro e3
       exact hq.2 d hd (e3▸hj)
     rw [<-hsm H this.symm,hb]
   rw [hu] at h
   exact h
  ·unfold one at h
   rw [hp] at h
   have hl:lvl C.SU (some ml) q=0:=by
    obtain ⟨co,_⟩:=fO (ml:=ml) hp
    show AW _=0
    rcases co with e | e | e <;> first | (rw [e];rfl) | omega
   obtain ⟨r,F',H',w2,hH,hF,hv⟩:=cC.some hL h
   rw [hH hl,hF aa] at hv
   have hv:one C (some ml) full o k (F.bu q.dst r) H w2:=hv
   unfold one at hv
   rw [hstep,hb] at hv
   exact hv
 ·have sA:∀ (k':Fr->Hp->World->Prop) (w':World),one C (some ml) full o k' F H w'↔k' F (H.put j c) w':=fun k' w'=>by
   unfold one
   rw [hst,hod]
   rfl
  have Su:∀ (x:AV) (H':Hp) (w':World),H' j=H j->one C (some ml) full o k (F.bu q.dst x) H' w'->k (F.bu q.dst x) (H'.put j c) w':=fun x H' w' hH hv=>by
   unfold one at hv
   rw [hstep,hsame H' hH,hst,hod] at hv
   exact hv
  rw [sA]
  have hqs:stepOf C full F (H.put j c) q=stepOf C full F H q:=St hq hj hqm
  rcases fV (C:=C) (stepOf C full F H q) with hp | ⟨Ψp,up,hp⟩ | ⟨d,hp⟩
  ·unfold one at h;rw [hp] at h;exact h.elim
  ·obtain ⟨x,hx,h⟩:=(cO hp).1 h
   refine (cO (by rw [hqs];exact hp)).2 ⟨x,hx,?_⟩
   rcases fu (ml:=ml) hp with e' | e' | ⟨e',d,c',hd,e2,h0⟩
   ·subst e'
    exact Su x H w rfl h
   ·omega
   ·subst e2
    have hdj:d≠j:=fun e3=>hq.2 d hd (e3▸hj)
    have hHj:(H.upd (some (d,c'))) j=H j:=by
     show (H.put d c') j=H j
     rw [Hp.cW,if_neg (fun e=>hdj e.symm)]
    have:=Su x (H.upd (some (d,c'))) w hHj h
    have hcomm:(H.upd (some (d,c'))).put j c=(H.put j c).upd (some (d,c')):=by
     funext z
     show ((H.put d c').put j c) z=((H.put j c).put d c') z
     simp only [Hp.cW]
     by_cases h1:z=j
     ·subst h1;rw [if_pos rfl,if_neg (fun e=>hdj e.symm)];exact (if_pos rfl).symm
     ·rw [if_neg h1]
      by_cases h2:z=d
      ·rw [if_pos h2,if_pos h2]
      ·rw [if_neg h2,if_neg h2,if_neg h1]
    rw [hcomm] at this
    exact this
  ·have hm4:au C.SU ml q=4:=by
    obtain ⟨co,_⟩:=fO (ml:=ml) hp
    omega
   have hl:lvl C.SU (some ml) q=0:=by show AW _=0;rw [hm4];rfl
   have Rp:d.ids=[]:=by
    rcases pG hp with e | e | e
    ·cases e
    ·cases e
    ·classical
     obtain ⟨H0,hH0⟩:∃ H0:Hp,H0=fun _=>none:=⟨_,rfl⟩
     obtain ⟨F',hF'⟩:∃ F':Fr,F'=fun t=>if Operand.tmp t∈q.op.operands.toList then F t else none:=⟨_,rfl⟩
     have e2:act C F' H0 q=act C F H0 q:=DJ (fun y hy=>uU fun t ht=>by rw [hF'];exact if_pos (ht▸hy))
     have e1:act C F' H0 q=.call d:=e2.trans ((gR (ml:=ml) (H:=H) (.inr hm4)).trans e)
     have gJ:jh F' H0:=fun t v hv i hi=>by
      rw [hF'] at hv
      dsimp only at hv
      split at hv
      ·rename_i hm
       rw [(hq.1 _ hm v hv).2 hm4] at hi;cases hi
      ·cases hv
     rw [List.eq_nil_iff_forall_not_mem]
     intro i hi
     exact xF gJ e1 i hi (by rw [hH0])
   unfold one at h ⊢
   rw [hqs,hp]
   rw [hp] at h
   rw [hl] at h ⊢
   have h1:cC C 0 F H d w fun r _ _ w2=>k (F.bu q.dst r) (H.put j c) w2:=cC.mono hL h fun r F' H' w2 _ _ hH hF hv=>by
    rw [hH rfl,hF aa] at hv
    exact Su r H w2 rfl hv
   have h2:=cC.heap (H':=H.put j c) (F:=F) (j:=fun r w2=>k (F.bu q.dst r) (H.put j c) w2) (fun i hi=>by
    exfalso
    have:∀ {i:Nat},¬ Reach H [] i:=fun {i} hr=>by
     induction hr with
     | base hi=>cases hi
     | step _ _ _ ih=>exact ih
    rw [Rp] at hi
    exact this hi) h1
   have hL2:Live C F (H.put j c) w:=by
    have:=ko hC hL (Ψ:=fun x=>x=.val undef) (u:=some (j,c)) (by rw [hst];rfl) (x:=.val undef) rfl
    rw [hod] at this
    exact this
   refine cC.mono hL2 h2 fun r F' H' w2 _ _ hH hF hv=> ?_
   rw [hH rfl,hF aa]
   exact hv
theorem Pj (hC:C.Ok) {k':Fr->Hp->World->Prop} (hL:Live C F H w) (h5:au C.SU ml p≠5) (h:one C (some ml) full p k F H w) (hk:∀ x H' w',Live C (F.bu p.dst x) H' w'->k (F.bu p.dst x) H' w'->k' (F.bu p.dst x) H' w'):one C (some ml) full p k' F H w:=by
 rcases fV (C:=C) (stepOf C full F H p) with hp | ⟨Ψp,up,hp⟩ | ⟨d,hp⟩
 ·unfold one at h;rw [hp] at h;exact h.elim
 ·obtain ⟨x,hx,h⟩:=(cO hp).1 h
  exact (cO hp).2 ⟨x,hx,hk _ _ _ (ko hC hL hp hx) h⟩
 ·have hb:stepOf C full F H p≠.bad:=fun e=>by rw [e] at hp;cases hp
  have hd:=(jj hb).1
  have hl:lvl C.SU (some ml) p≤1:=by
   obtain ⟨co,_⟩:=fO (ml:=ml) hp
   show AW _≤1
   rcases co with e | e | e
   ·rw [e];decide
   ·rw [e];decide
   ·exact absurd e h5
  unfold one at h ⊢
  rw [hp] at h ⊢
  refine cC.mono hL h fun r F' H' w2 hL2 Hm _ hF hv=> ?_
  have e:=hF hl
  subst e
  refine hk _ _ _ ?_ hv
  obtain ⟨β,a,w1,hr,DR⟩:=hL2.rel
  exact Live.of (hr.put hd Hm) DR
theorem Pk (hC:C.Ok) (hL:Live C F H w) (h5:au C.SU ml p≠5) (h:one C (some ml) full p k F H w):∃ x H' w',k (F.bu p.dst x) H' w':=by
 rcases fV (C:=C) (stepOf C full F H p) with hp | ⟨Ψp,up,hp⟩ | ⟨d,hp⟩
 ·unfold one at h;rw [hp] at h;exact h.elim
 ·obtain ⟨x,hx,h⟩:=(cO hp).1 h
  exact ⟨_,_,_,h⟩
 ·have hl:lvl C.SU (some ml) p≤1:=by
   obtain ⟨co,_⟩:=fO (ml:=ml) hp
   show AW _≤1
   rcases co with e | e | e
   ·rw [e];decide
   ·rw [e];decide
   ·exact absurd e h5
  unfold one at h
  rw [hp] at h
  obtain ⟨r,F',H',w2,_,hF,hv⟩:=cC.some hL h
  have e:=hF hl
  subst e
  exact ⟨_,_,_,hv⟩
def sX (C:Cx) (ml:List FuncId) (B S J:List Nat) (j:Nat) (o:Oper) (F:Fr):Prop:=(B.contains j=true->yt C.SU ml J F o)/\(S.contains j=true->Toward J F o)
theorem yt.oq {J:List Nat} {d:Option Nat} {x:AV} (h:∀ n,d=some n->n∉o.looksAt full) (ha:yt C.SU ml J (F.bu d x) o\/yt C.SU ml J F o):yt C.SU ml J F o/\yt C.SU ml J (F.bu d x) o:=by
 have key:∀ y∈o.op.operands.toList,ev (F.bu d x) y=ev F y:=fun y hy=>uU fun t ht=>mr fun n hn e=>h n hn (e▸kD hy ht)
 rcases ha with ha | ha
 ·exact ⟨⟨fun y hy v hv=>ha.1 y hy v ((key y hy).trans hv),ha.2⟩,ha⟩
 ·exact ⟨ha,⟨fun y hy v hv=>ha.1 y hy v ((key y hy).symm.trans hv),ha.2⟩⟩
theorem Toward.oq {J:List Nat} {d:Option Nat} {x:AV} (h:∀ n,d=some n->n∉o.looksAt full) (ha:Toward J (F.bu d x) o\/Toward J F o):Toward J F o/\Toward J (F.bu d x) o:=by
 have key:∀ y∈o.op.operands.toList,ev (F.bu d x) y=ev F y:=fun y hy=>uU fun t ht=>mr fun n hn e=>h n hn (e▸kD hy ht)
 rcases ha with ⟨t,x',y,j,off,hop,hx,hj⟩ | ⟨t,x',y,j,off,hop,hx,hj⟩
 ·exact ⟨⟨t,x',y,j,off,hop,(key x' (by rw [hop];simp [Op.operands])).symm.trans hx,hj⟩,⟨t,x',y,j,off,hop,hx,hj⟩⟩
 ·exact ⟨⟨t,x',y,j,off,hop,hx,hj⟩,⟨t,x',y,j,off,hop,(key x' (by rw [hop];simp [Op.operands])).trans hx,hj⟩⟩
theorem sX.oq {B S J:List Nat} {j:Nat} {d:Option Nat} {x:AV} (h:∀ n,d=some n->n∉o.looksAt full):sX C ml B S J j o (F.bu d x)↔sX C ml B S J j o F:=
 ⟨fun g=>⟨fun e=>(yt.oq h (.inl (g.1 e))).1,fun e=>(Toward.oq h (.inl (g.2 e))).1⟩,fun g=>⟨fun e=>(yt.oq h (.inr (g.1 e))).2,fun e=>(Toward.oq h (.inr (g.2 e))).2⟩⟩
def nP (C:Cx) (ml:List FuncId) (full:Array Oper) (B S J:List Nat):List Nat->(Fr->Hp->World->Prop)->Fr->Hp->World->Prop
 | [],K,F,H,w=>K F H w
 | j::r,K,F,H,w=>match full[j]? with
   | some o=>sX C ml B S J j o F/\one C (some ml) full o (nP C ml full B S J r K) F H w
   | none=>False
theorem mB {B S J:List Nat} {j:Nat} {r:List Nat} {K:Fr->Hp->World->Prop} (ho:full[j]? =some o):nP C ml full B S J (j::r) K F H w↔sX C ml B S J j o F/\one C (some ml) full o (nP C ml full B S J r K) F H w:=by
 conv=>lhs;unfold nP
 rw [ho]
structure Fits (su:TypeId->Bool) (ml:List FuncId) (full:Array Oper) (B S:List Nat) (i j:Nat) (p o:Oper):Prop where
 ap:p.apart full o=true
 ok:indep su ml full p o=true\/(B.contains i=true/\S.contains j=true)
 p5:au su ml p≠5
 o5:au su ml o≠5
 pB:B.contains i=true->au su ml p≤2\/au su ml p=4
 oS:S.contains j=true->pQ o=true
theorem Ng (hC:C.Ok) {B S J:List Nat} {K:Fr->Hp->World->Prop} {i:Nat} {post:List Nat} (ho:full[i]? =some o):∀ (pre:List Nat) (F:Fr) (H:Hp) (w:World),(∀ j∈pre,∃ q,full[j]? =some q/\Fits C.SU ml full B S j i q o)->Live C F H w->nP C ml full B S J (pre++i::post) K F H w->nP C ml full B S J (i::(pre++post)) K F H w
 | [],F,H,w,_,_,h=>h
 | j::r,F,H,w,hi,hL,h=>by
   obtain ⟨q,hq,hf⟩:=hi j cA
   obtain ⟨a1,a2,a3⟩:=Oper.apart_spec hf.ap
   obtain ⟨hs,h⟩:=(mB (r:=r++i::post) hq).1 h
   have h1:one C (some ml) full q (fun F' H' w'=>sX C ml B S J i o F'/\one C (some ml) full o (nP C ml full B S J (r++post) K) F' H' w') F H w:=
    Bi hC hL h fun F' H' w' hL' hv=>(mB ho).1 (Ng hC ho r F' H' w' (fun q' hq'=>hi q' (by simp [hq'])) hL' hv)
   obtain ⟨x,H',w',hx,_⟩:=Pk hC hL hf.p5 h1
   have ho':sX C ml B S J i o F:=(sX.oq a1).1 hx
   have h2:one C (some ml) full q (one C (some ml) full o (nP C ml full B S J (r++post) K)) F H w:=Bi hC hL h1 fun F' H' w' _ hv=>hv.2
   refine (mB ho).2 ⟨ho',?_⟩
   have h3:one C (some ml) full o (one C (some ml) full q (nP C ml full B S J (r++post) K)) F H w:=by
    rcases hf.ok with e | ⟨e1,e2⟩
    ·exact swap hC hL e h2
    ·exact swapL hC hL hf.ap (hs.1 e1) (hf.pB e1) (ho'.2 e2) (hf.oS e2) h2
   exact Pj hC hL hf.o5 h3 fun x H' w' _ hv=>(mB (r:=r++post) hq).2 ⟨(sX.oq a3).2 hs,hv⟩
theorem Ly (hC:C.Ok) {B S J:List Nat} (mM:Lx C.SU ml full B S=true) {K:Fr->Hp->World->Prop} (hQ:∀ β F H w a w',K F H w->Rel C β F H a w'->bt C.K w w'->Q .normal a w'):
  ∀ (fuel:Nat) (listed:Array Bool) (rem:List Nat) (β:Nat->Nat) (F:Fr) (H:Hp) (w:World) (a:Act) (w':World),listed.size=full.size->rem.Pairwise (·< ·)->(∀ x,x∈rem↔x < full.size/\listed.getD x true=false)->rem.length≤fuel->
    (∀ j,j < full.size->listed.getD j true=true->∀ d∈er full j,listed.getD d false=true)->
    nP C ml full B S J rem K F H w->Rel C β F H a w'->bt C.K w w'->wpAny C.P .any full Q fuel listed a w':=by
 unfold Lx at mM
 simp only [Bool.and_eq_true] at mM
 obtain ⟨hp0,h5,hB,hS⟩:=mM
 have iL:∀ j,j < full.size->∀ d∈er full j,d < j:=fun j hj d hd=>by
  have:=List.all_eq_true.1 hp0 j (List.mem_range.2 hj)
  rw [Bool.and_eq_true] at this
  exact bB (List.all_eq_true.1 this.1 d hd)
 have MN:∀ i j,i < j->j < full.size->vA C.SU ml full B S i j=true:=fun i j hij hj=>by
  have:=List.all_eq_true.1 hp0 j (List.mem_range.2 hj)
  rw [Bool.and_eq_true] at this
  exact List.all_eq_true.1 this.2 i (List.mem_range.2 hij)
 have hne5:∀ {i:Nat} {o:Oper},full[i]? =some o->au C.SU ml o≠5:=fun {i o} ho e=>by
  have:=List.all_eq_true.1 h5 o (List.mem_of_getElem? (by simpa using ho))
  rw [e] at this;exact absurd this bV
 have hBm:∀ {i:Nat} {o:Oper},full[i]? =some o->B.contains i=true->au C.SU ml o≤2\/au C.SU ml o=4:=fun {i o} ho hb=>by
  have:=List.all_eq_true.1 hB i (by simpa using hb)
  rw [ho] at this
  dsimp only at this
  rw [Bool.or_eq_true] at this
  exact this.imp bB Nat.eq_of_beq_eq_true
 have hSm:∀ {i:Nat} {o:Oper},full[i]? =some o->S.contains i=true->pQ o=true:=fun {i o} ho hb=>by
  have:=List.all_eq_true.1 hS i (by simpa using hb)
  rw [ho] at this
  exact this
 intro fuel
 induction fuel with
 | zero=>
   intro listed rem β F H w a w' hsz hpw tw hlen rf h hr hk
   have h0:rem=[]:=List.eq_nil_of_length_eq_zero aa
   subst h0
   refine ⟨?_,hQ β F H w a w' h hr hk⟩
   rw [List.eq_nil_iff_forall_not_mem]
   intro i hi
   have:=mem_ready.1 hi
   exact absurd ((tw i).2 ⟨this.1,this.2.1⟩) cA
 | succ fuel ih=>
   intro listed rem β F H w a w' hsz hpw tw hlen rf h hr hk
   constructor
   ·intro Bj
    cases rem with
    | nil=>exact hQ β F H w a w' h hr hk
    | cons i r=>
      exfalso
      have hi:=(tw i).1 cA
      have:i∈Region.ready .any full listed:=mem_ready.2 ⟨hi.1,hi.2,fun d hd=>by
       have hdi:=iL i hi.1 d hd
       cases hl:listed.getD d true with
       | true=>
         rw [Array.getD_eq_getD_getElem?] at hl ⊢
         have:d < listed.size:=by omega
         rw [Array.getElem?_eq_getElem this] at hl ⊢
         exact hl
       | false=>
         have hm:=(tw d).2 ⟨by omega,hl⟩
         rcases List.mem_cons.1 hm with e | e
         ·omega
         ·have:=(List.pairwise_cons.1 hpw).1 d e;omega⟩
      rw [Bj] at this
      cases this
   ·intro i hi
    obtain ⟨mJ,CK,GF⟩:=mem_ready.1 hi
    obtain ⟨pre,post,rfl⟩:=List.append_of_mem ((tw i).2 ⟨mJ,CK⟩)
    have ho:=Array.getElem?_eq_getElem mJ
    generalize full[i]=o at ho
    have fN:=List.pairwise_append.1 hpw
    have hlt:∀ p∈pre,p < i:=fun p hp=>fN.2.2 p hp i cA
    have OI:∀ p∈post,i < p:=(List.pairwise_cons.1 fN.2.1).1
    have hb:nP C ml full B S J (i::(pre++post)) K F H w:=by
     refine Ng hC ho _ F H w (fun p hp=> ?_) (Live.of hr hk) h
     have jS:=(tw p).1 (by simp [hp])
     have DT:=hlt p hp
     have zO:=Array.getElem?_eq_getElem jS.1
     generalize full[p]=q at zO
     have hno:listed.getD p false=false:=by
      have h1:=jS.2
      have:p < listed.size:=by omega
      rw [Array.getD_eq_getD_getElem?] at h1 ⊢
      rw [Array.getElem?_eq_getElem this] at h1 ⊢
      exact h1
     refine ⟨q,zO,?_,?_,hne5 zO,hne5 ho,hBm zO,hSm ho⟩
     ·have:=MN p i DT mJ
      unfold vA ox at this
      rw [zO,ho] at this
      simp only [Bool.or_eq_true,Bool.and_eq_true] at this
      rcases this with (e | e) | e
      ·unfold indep at e
       rw [Bool.and_eq_true] at e
       exact e.1
      ·have:=lH iL rf hsz full.size i mJ GF e
       rw [hno] at this;cases this
      ·exact e.2.2
     ·have:=MN p i DT mJ
      unfold vA ox at this
      rw [zO,ho] at this
      simp only [Bool.or_eq_true,Bool.and_eq_true] at this
      rcases this with (e | e) | e
      ·exact .inl e
      ·have:=lH iL rf hsz full.size i mJ GF e
       rw [hno] at this;cases this
      ·exact .inr ⟨e.1,e.2.1⟩
    have sA:one C (some ml) full o (nP C ml full B S J (pre++post) K) F H w:=((mB ho).1 hb).2
    have:=km (Q:=Q) (next:=wpAny C.P .any full Q fuel (listed.setIfInBounds i true)) hC sA hr hk fun bW F' H' w1 a' sR h1 h2 h3=>by
     refine ih (listed.setIfInBounds i true) (pre++post) bW F' H' w1 a' sR (by simp [hsz]) ?_ ?_ ?_ ?_ h1 h2 h3
     ·exact List.pairwise_append.2 ⟨fN.1,(List.pairwise_cons.1 fN.2.1).2,fun x hx y hy=>fN.2.2 x hx y (by simp [hy])⟩
     ·intro x
      by_cases hx:x=i
      ·subst hx
       constructor
       ·intro hm
        rcases List.mem_append.1 hm with e | e
        ·exact absurd (hlt _ e) aa
        ·exact absurd (OI _ e) aa
       ·rintro ⟨_,e⟩
        simp [Array.getD_eq_getD_getElem?,Array.getElem?_setIfInBounds,hsz,mJ] at e
      ·have e1:(listed.setIfInBounds i true).getD x true=listed.getD x true:=by
        rw [Array.getD_eq_getD_getElem?,Array.getElem?_setIfInBounds,if_neg (fun e=>hx e.symm),<-Array.getD_eq_getD_getElem?]
       rw [e1,<-tw x]
       simp [hx]
     ·have:(pre++i::post).length=(pre++post).length + 1:=by simp;omega
      omega
     ·intro j hj hl d hd
      have jU:listed.getD d false=true->(listed.setIfInBounds i true).getD d false=true:=fun e=>by
       by_cases hx:d=i
       ·subst hx
        simp [Array.getD_eq_getD_getElem?,Array.getElem?_setIfInBounds,hsz,mJ]
       ·rw [Array.getD_eq_getD_getElem?,Array.getElem?_setIfInBounds,if_neg (fun e=>hx e.symm),<-Array.getD_eq_getD_getElem?];exact e
      by_cases hx:j=i
      ·subst hx;exact jU (GF d hd)
      ·refine jU (rf j hj ?_ d hd)
       rwa [Array.getD_eq_getD_getElem?,Array.getElem?_setIfInBounds,if_neg (fun e=>hx e.symm),<-Array.getD_eq_getD_getElem?] at hl
    unfold wpOp
    rw [ho]
    simp only
    split
    ·rename_i hw;rw [if_pos hw] at this;exact .inl this
    ·rename_i hw;rw [if_neg hw] at this;exact this
theorem one_imp {k':Fr->Hp->World->Prop} (h:one C (some ml) full o k F H w) (hk:∀ F' H' w',k F' H' w'->k' F' H' w'):one C (some ml) full o k' F H w:=by
 unfold one at h ⊢
 split
 ·rename_i e;rw [e] at h;exact hk _ _ _ h
 ·rename_i e;rw [e] at h
  obtain ⟨cs,h1,h2,h3⟩:=h
  exact ⟨cs,h1,h2,hk _ _ _ h3⟩
 ·rename_i e;rw [e] at h
  obtain ⟨vs,h1,h2,h3⟩:=h
  exact ⟨vs,h1,h2,hk _ _ _ h3⟩
 ·rename_i e;rw [e] at h;exact ⟨h.1,hk _ _ _ h.2⟩
 ·rename_i e;rw [e] at h
  intro w1 β h1 h2 h3
  refine (h w1 β h1 h2 h3).mono ?_
  rintro e w2 ⟨bW,r,del,ups,he,Hm,CF,zM,hch,hv⟩
  exact ⟨bW,r,del,ups,he,Hm,CF,zM,hch,fun a b c ρ fF=>hk _ _ _ (hv a b c ρ fF)⟩
 ·rename_i e;rw [e] at h;exact h
theorem nP.chunk {B S J:List Nat} {K:Fr->Hp->World->Prop} {l2:List Nat}:∀ (l1:List Nat) {F:Fr} {H:Hp} {w:World},(l1.all fun j=>(!B.contains j && !S.contains j) && (full[j]?).isSome)=true->aB C (some ml) full (l1.filterMap (full[·]?)) (nP C ml full B S J l2 K) F H w->nP C ml full B S J (l1++l2) K F H w
 | [],F,H,w,_,h=>h
 | j::r,F,H,w,h0,h=>by
   rw [List.all_cons,Bool.and_eq_true,Bool.and_eq_true,Bool.and_eq_true,Bool.not_eq_true',Bool.not_eq_true'] at h0
   cases ho:full[j]? with
   | none=>rw [ho] at h0;exact absurd h0.1.2 cA
   | some o=>
     rw [List.filterMap_cons_some ho] at h
     exact (mB (r:=r++l2) ho).2 ⟨⟨fun e=>(by rw [h0.1.1.1] at e;cases e),fun e=>(by rw [h0.1.1.2] at e;cases e)⟩,one_imp h fun F' H' w' hv=>nP.chunk r h0.2 hv⟩
theorem nP.one {B S J:List Nat} {K:Fr->Hp->World->Prop} {j:Nat} {r:List Nat} (ho:full[j]? =some o) (hs:sX C ml B S J j o F) (h:aB C (some ml) full [o] (nP C ml full B S J r K) F H w):nP C ml full B S J (j::r) K F H w:=(mB ho).2 ⟨hs,h⟩
theorem VS.drawL {k:List It} (hC:C.Ok) (hm:C.P.follows .mixedOrders=true) {id:Nat} {ops:Array Oper} (ml:List FuncId) (B S J:List Nat) (mM:Lx C.SU ml ops B S=true) (h:nP C ml ops B S J (List.range ops.size) (VS C Q k) F H w):VS C Q (.code (.region id ops true)::k) F H w:=fun β a w' hr hk=>by
 refine wp_region_any hm ?_
 refine Ly (K:=VS C Q k) hC mM (fun β F H w a w' h hr hk=>h β a w' hr hk) ops.size (Array.replicate ops.size false) (List.range ops.size) β F H w a w'.drew cA List.pairwise_lt_range ?_ cA ?_ h hr.drew hk.drew
 ·intro x
  rw [List.mem_range]
  constructor
  ·intro hx
   refine ⟨hx,?_⟩
   simp [Array.getD_eq_getD_getElem?,Array.getElem?_replicate,hx]
  ·exact fun h=>h.1
 ·intro j hj hl
  simp [Array.getD_eq_getD_getElem?,Array.getElem?_replicate,hj] at hl
end
theorem away_of {su:TypeId->Bool} {ml:List FuncId} {J:List Nat} {F:Fr} {o:Oper} (h:(o.op.operands.toList.all fun x=>match ev F x with | some v=>v.ids.isEmpty | none=>true)=true) (hd:(match o.dst with | some d=> !J.contains d | none=>true)=true):yt su ml J F o:=by
 refine ⟨fun x hx v hv=> ?_,fun d Rk=> ?_⟩
 ·have:=List.all_eq_true.1 h x hx
  rw [hv] at this
  have he:v.ids=[]:=List.isEmpty_iff.1 this
  exact ⟨fun i hi=>by (rw [he] at hi;cases hi),fun _=>he⟩
 ·rw [Rk] at hd
  intro hm
  dsimp only at hd
  rw [show J.contains d=true from List.elem_eq_true_of_mem hm] at hd
  cases hd
theorem Sv {su:TypeId->Bool} {ml:List FuncId} {J:List Nat} {F:Fr} {o:Oper} (h:(o.op.operands.toList.all fun x=>match ev F x with | some v=>v.ids.all fun i=> !J.contains i | none=>true)=true) (h4:Nat.beq (au su ml o) 4=false) (hd:(match o.dst with | some d=> !J.contains d | none=>true)=true):yt su ml J F o:=by
 refine ⟨fun x hx v hv=> ?_,fun d Rk=> ?_⟩
 ·have:=List.all_eq_true.1 h x hx
  rw [hv] at this
  refine ⟨fun i hi hm=> ?_,fun e=>by (rw [e] at h4;cases h4)⟩
  have h2:=List.all_eq_true.1 this i hi
  rw [show J.contains i=true from List.elem_eq_true_of_mem hm] at h2
  cases h2
 ·rw [Rk] at hd
  intro hm
  dsimp only at hd
  rw [show J.contains d=true from List.elem_eq_true_of_mem hm] at hd
  cases hd
section
variable {C:Cx} {ml:List FuncId} {full:Array Oper} {B S J:List Nat} {K:Fr->Hp->World->Prop} {F:Fr} {H:Hp} {w:World} {j:Nat} {r:List Nat} {o:Oper}
theorem nP.b (ho:full[j]? =some o) (h1:(o.op.operands.toList.all fun x=>match ev F x with | some v=>v.ids.isEmpty | none=>true)=true) (h2:(match o.dst with | some d=> !J.contains d | none=>true)=true) (h3:S.contains j=false) (h:aB C (some ml) full [o] (nP C ml full B S J r K) F H w):nP C ml full B S J (j::r) K F H w:=
 nP.one ho ⟨fun _=>away_of h1 h2,fun e=>by (rw [h3] at e;cases e)⟩ h
theorem nP.l (ho:full[j]? =some o) (h1:(o.op.operands.toList.all fun x=>match ev F x with | some v=>v.ids.all fun i=> !J.contains i | none=>true)=true) (h4:Nat.beq (au C.SU ml o) 4=false) (h2:(match o.dst with | some d=> !J.contains d | none=>true)=true) (h3:S.contains j=false) (h:aB C (some ml) full [o] (nP C ml full B S J r K) F H w):nP C ml full B S J (j::r) K F H w:=
 nP.one ho ⟨fun _=>Sv h1 h4 h2,fun e=>by (rw [h3] at e;cases e)⟩ h
theorem nP.s (ho:full[j]? =some o) (h1:Toward J F o) (h3:B.contains j=false) (h:aB C (some ml) full [o] (nP C ml full B S J r K) F H w):nP C ml full B S J (j::r) K F H w:=
 nP.one ho ⟨fun e=>by (rw [h3] at e;cases e),fun _=>h1⟩ h
end
def oJ (o:Oper):Bool:=match o.op with | .defer _=>false | _=>true
def jP (F:Fence):Prop:=F=Fence.wide\/∃ l,F=Fence.wide.inRound l
theorem jP.wide:jP Fence.wide:=.inl rfl
section
variable {Fe:Fence} {n:Nat} {P:Program} {o:Oper} {a:Act} {w:World} {K:Act->World->Prop} {Q:Exit->Act->World->Prop}
theorem jP.fn (h:jP Fe) (f:FuncId):Fe.fn f:=by rcases h with rfl | ⟨l,rfl⟩ <;> trivial
theorem jP.depth (h:jP Fe):Fe.depth=none:=by rcases h with rfl | ⟨l,rfl⟩ <;> rfl
theorem jP.calls (h:jP Fe) {f:FuncId} {args:Array Value} {R:Ending->World->Prop} (hc:Calls P f args w R):CallsIn Fe n P f args w R:=by
 have:=(callsIn_wide (n:=n)).2 hc
 rcases h with rfl | ⟨l,rfl⟩
 ·exact this
 ·exact this
theorem jP.rows (h:jP Fe) {r:String} {args:Array Value} {R:Value->World->Prop} (hc:Rows P r args w R):RowsIn Fe n P r args w R:=by
 have:RowsIn Fence.wide n P r args w R:=fun c cs _=>let ⟨v,w',r,s⟩:=hc c cs;⟨v,w',r,stepsIn_wide.2 s⟩
 rcases h with rfl | ⟨l,rfl⟩
 ·exact this
 ·exact this
theorem jP.upon (h:jP Fe) {r:Result Next} (hu:o.upon P a K Q r):o.uponIn Fe n P a K Q r:=by
 have hd:Fe.depth.isSome=true->1≤n:=fun e=>by rw [h.depth] at e;cases e
 cases r with
 | ok x w'=>
   cases x with
   | value v=>exact hu
   | skip=>exact hu
   | defer d=>exact hu
   | enter f args=>exact ⟨hd,h.calls hu⟩
   | row r args=>exact ⟨hd,h.rows hu⟩
   | round l f tmps assign body=>exact hu.elim
   | _=>exact hu.elim
 | halt x w'=>
   cases x with
   | panic v=>exact hu
   | _=>exact hu.elim
theorem jP.sem (h:jP Fe) (hd:oJ o=true):o.semAt Fe.round a.eval=execOp a.eval o:=by
 rcases h with rfl | ⟨l,rfl⟩
 ·rfl
 ·exact Oper.semAt_some l _ _ fun c e=>by unfold oJ at hd;rw [e] at hd;cases hd
theorem jP.op (h:jP Fe) (hd:oJ o=true) (hw:o.wp P a w K Q):o.wpIn Fe n P a w K Q:=by
 refine ⟨fun f _=>h.fn f,?_⟩
 rw [h.sem hd]
 exact h.upon hw
end
section
variable {Fe:Fence} {n:Nat} {C:Cx} {Q:Exit->Act->World->Prop} {ml:List FuncId} {full:Array Oper}
theorem xU (hB:jP Fe) (hC:C.Ok) {m:Option (List FuncId)} {K:Fr->Hp->World->Prop} {tl:List Oper} (hQ:∀ β F H w a w',K F H w->Rel C β F H a w'->bt C.K w w'->wpListIn Fe n C.P full Q tl a w'):
  ∀ (l:List Oper),l.all oJ=true->∀ (β:Nat->Nat) (F:Fr) (H:Hp) (w:World) (a:Act) (w':World),aB C m full l K F H w->Rel C β F H a w'->bt C.K w w'->wpListIn Fe n C.P full Q (l++tl) a w'
 | [],_,β,F,H,w,a,w',h,hr,hk=>hQ β F H w a w' h hr hk
 | o::r,hd,β,F,H,w,a,w',h,hr,hk=>by
   rw [List.all_cons,Bool.and_eq_true] at hd
   show wpListIn Fe n C.P full Q (o::(r++tl)) a w'
   refine wpListIn_step fun K' hK'=> ?_
   have:=km hC (next:=K') (Q:=Q) (k:=aB C m full r K) h hr hk fun bW F' H' w1 a' sR h1 h2 h3=>hK' _ _ (xU hB hC hQ r hd.2 bW F' H' w1 a' sR h1 h2 h3)
   split at this
   ·rename_i hw;rw [if_pos hw];exact hB.op hd.1 this
   ·rename_i hw;rw [if_neg hw];exact ⟨fun f _=>hB.fn f,this⟩
end
section
variable {Fe:Fence} {C:Cx} {Q:Exit->Act->World->Prop} {k:List It} {F F':Fr} {H H':Hp} {w:World} {id:Nat} {ops:Array Oper} {l':List Oper}
end
def Fr.vals (L:List (Nat×Value)):Fr:=Fr.of (L.map fun p=>(p.1,.val p.2))
def Jv (F:Fr):List (Nat×Value)->Prop
 | []=>True
 | p::r=>F p.1=some (.val p.2)/\Jv F r
theorem Jv.mem {F:Fr}:∀ {L:List (Nat×Value)} {p:Nat×Value},Jv F L->p∈L->F p.1=some (.val p.2)
 | q::r,p,h,hm=>by
   rcases List.mem_cons.1 hm with rfl | hm
   ·exact h.1
   ·exact Jv.mem h.2 hm
theorem BG {L:List (Nat×Value)} {d:Nat} {v:AV} (h:Fr.vals L d=some v):∃ u,v=.val u/\(d,u)∈L:=by
 have:=Fr.gS h
 obtain ⟨p,hp,e⟩:=List.mem_map.1 this
 cases e
 exact ⟨p.2,rfl,hp⟩
structure Knows (N:Nat) (L:List (Nat×Value)) (a:Act):Prop where
 defers:a.defers=[]
 size:a.tmps.size=N
 tmp:∀ p∈L,p.1 < N/\a.tmps.getD p.1 undef=p.2
theorem Knows.rel {C:Cx} {L:List (Nat×Value)} {a:Act} {w:World} (h:Knows C.N L a) (ho:C.Old w):Rel C (fun _=>0) (Fr.vals L) (fun _=>none) a w:=
 ⟨h.defers,h.size,fun d v hd=>by obtain ⟨u,rfl,hm⟩:=BG hd;exact (h.tmp _ hm).2,fun i t cs hi=>(by cases hi),fun i j hi=>absurd rfl hi,fun d v hd i hi=>(by obtain ⟨u,rfl,hm⟩:=BG hd;cases hi),fun d v hd=>(by obtain ⟨u,rfl,hm⟩:=BG hd;exact (h.tmp _ hm).1),⟨fun i t cs hi=>(by cases hi),fun i t cs hi=>(by cases hi),fun i hi=>rfl⟩,ho⟩
theorem Rel.knows {C:Cx} {β:Nat->Nat} {F:Fr} {H:Hp} {a:Act} {w:World} {L:List (Nat×Value)} (hr:Rel C β F H a w) (hL:Jv F L):Knows C.N L a:=
 ⟨hr.defers,hr.size,fun p hp=>⟨hr.fits _ _ (hL.mem hp),hr.tmp _ _ (hL.mem hp)⟩⟩
def Sw (N:Nat) (J:Nat->List (Nat×Value)->World->Prop) (n:Nat) (a:Act) (w:World):Prop:=∃ L,J n L w/\Knows N L a
section
variable {C:Cx} {Q:Exit->Act->World->Prop} {k:List It} {F:Fr} {H:Hp} {w:World} {J:Nat->List (Nat×Value)->World->Prop}
theorem VS.loopR (D:World->Cx) (hP:∀ w,(D w).P=C.P) (hN:∀ w,(D w).N=C.N) (hO:∀ w,(D w).Old w) (n0:Nat) {body:Code} (h0:∀ w',bt C.K w w'->C.Old w'->∃ L,Jv F L/\J n0 L w')
  (round:∀ n L W,J n L W->VS (D W) Q (.code body::.back (fun a w=>∃ m,m < n/\Sw C.N J m a w)::k) (Fr.vals L) (fun _=>none) W):VS C Q (.code (.loop body)::k) F H w:=fun β a w' hr hk=>by
 obtain ⟨L,h1,h2⟩:=h0 w' hk hr.old
 refine wp_loop_ghost (Sw C.N J) n0 ⟨L,h2,hr.knows h1⟩ ?_
 rintro n a1 w1 ⟨L1,hJ,rR⟩
 have hkn':Knows (D w1).N L1 a1:=by rw [hN];exact rR
 have:=round n L1 w1 hJ _ a1 w1 (hkn'.rel (hO w1)) (bt.refl _ _)
 rw [hP] at this
 exact this
theorem VS.backR {n N:Nat} (hN:C.N=N) (m:Nat) (hm:m < n) (L:List (Nat×Value)) (hL:Jv F L) (h:∀ w',bt C.K w w'->C.Old w'->J m L w'):VS C Q (.back (fun a w=>∃ m,m < n/\Sw N J m a w)::k) F H w:=fun β a w' hr hk=>by
 subst hN
 exact ⟨m,hm,L,h w' hk hr.old,hr.knows hL⟩
theorem VS.mO (hC:C.Ok) {fn:Func} {R:Ending->World->Prop} {vs:List AV} (h:qf C F H fn.results.toList=some vs) (hR:∀ w' β,bt C.K w w'->C.Old w'->Ends C β H w'->R (.returned (iX (vs.map (AV.bj β)))) w'):VS C (bodyPost C.P fn R) [] F H w:=
 fun β a w' hr hk=>⟨hr.defers,_,xI hC hr h,hR w' β hk hr.old ⟨hr.own,hr.apart⟩⟩
end
section
variable {C:Cx} {F:Fr} {H:Hp} {w:World} {Q:Exit->Act->World->Prop} {k:List It}
end
theorem tB.bC {w w1 W:World} {ad:List Nat} (h:aM w w1) (k:tB ad w1 W) (hg:∀ g∈ad,w.heap.size≤g):aM w W:=
 Below.trans h ⟨k.os,k.tape,k.output,k.size,fun g Od=>k.ln g (Nat.lt_of_lt_of_le Od h.size) fun hm=>by have:=hg g hm;omega⟩
abbrev Vq:=Nat×Rat
abbrev Uq:=Nat×Nat×Rat
def ae (a b:Rat):Rat:=if b < a then b else a
theorem eF (a b:Rat):et iR a [b]=ae a b:=by
 show (if iR b a=true then b else a)=_
 unfold ae
 by_cases h:b < a
 ·rw [if_pos (El.2 h),if_pos h]
 ·rw [if_neg (fun e=>h (El.1 e)),if_neg h]
theorem dw (a b:Rat):ae a b≤a:=by unfold ae;split <;> grind
theorem cI (a b:Rat):ae a b≤b:=by unfold ae;split <;> grind
theorem cj (a b:Rat):(ae a b=a/\a≤b)\/(ae a b=b/\b < a):=by unfold ae;split <;> grind
structure aL where
 bn:Rat
 allowed:Rat
 aI:Rat
 used:Rat
 ay:Rat
 aq:Rat
 closing:Rat
deriving DecidableEq
def qI (y:Nat):List Vq->Rat->List Uq
 | [],_=>[]
 | p::q,m=>if 0 < m then (p.1,y,ae p.2 m)::(if p.2 - ae p.2 m=0 then qI y q (m - ae p.2 m) else []) else []
def nd:List Vq->Rat->List Vq
 | [],_=>[]
 | p::q,m=>if 0 < m then (if p.2 - ae p.2 m=0 then nd q (m - ae p.2 m) else (p.1,p.2 - ae p.2 m)::q) else p::q
def ur:List Vq->Rat->Rat
 | [],_=>0
 | p::q,m=>if 0 < m then ae p.2 m + (if p.2 - ae p.2 m=0 then ur q (m - ae p.2 m) else 0) else 0
theorem iT (y:Nat) (q:List Vq) {m:Rat} (h:¬ 0 < m):qI y q m=[]:=by cases q with | nil=>rfl | cons p q=>unfold qI;rw [if_neg h]
theorem gX (q:List Vq) {m:Rat} (h:¬ 0 < m):nd q m=q:=by cases q with | nil=>rfl | cons p q=>unfold nd;rw [if_neg h]
theorem iU (q:List Vq) {m:Rat} (h:¬ 0 < m):ur q m=0:=by cases q with | nil=>rfl | cons p q=>unfold ur;rw [if_neg h]
theorem dt {P:Prop} (h:P:=by grind):P:=h
theorem gY {y:Nat} {p:Vq} {q:List Vq} {m:Rat} (hm:0 < m) (h:p.2 - ae p.2 m≠0):¬ 0 < m - ae p.2 m/\qI y (p::q) m=[(p.1,y,ae p.2 m)]/\nd (p::q) m=(p.1,p.2 - ae p.2 m)::q/\ur (p::q) m=ae p.2 m:=by
 refine ⟨?_,?_,?_,?_⟩
 ·rcases cj p.2 m with ⟨e,_⟩ | ⟨e,_⟩
  ·rw [e] at h;exact absurd dt h
  ·rw [e];grind
 ·unfold qI;rw [if_pos hm,if_neg h]
 ·unfold nd;rw [if_pos hm,if_neg h]
 ·unfold ur;rw [if_pos hm,if_neg h];grind
theorem gZ {y:Nat} {p:Vq} {q:List Vq} {m:Rat} (hm:0 < m) (h:p.2 - ae p.2 m=0):qI y (p::q) m=(p.1,y,ae p.2 m)::qI y q (m - ae p.2 m)/\nd (p::q) m=nd q (m - ae p.2 m)/\ur (p::q) m=ae p.2 m + ur q (m - ae p.2 m):=by
 refine ⟨?_,?_,?_⟩
 ·conv=>lhs;unfold qI
  rw [if_pos hm,if_pos h]
 ·conv=>lhs;unfold nd
  rw [if_pos hm,if_pos h]
 ·conv=>lhs;unfold ur
  rw [if_pos hm,if_pos h]
structure Jw where
 q:List Vq
 rows:List aL
 uses:List Uq
def aw (S F e:Rat):Rat:=et gK F [S * e,0]
def ey (S F:Rat) (q:List Vq) (y:Rat×Rat):aL:=
 ⟨aw S F y.2,ae y.1 (aw S F y.2),y.1 - ae y.1 (aw S F y.2),ur q (aw S F y.2 - ae y.1 (aw S F y.2)),ae y.1 (aw S F y.2) + ur q (aw S F y.2 - ae y.1 (aw S F y.2)),0,0⟩
def mP (lj:Nat) (d:Rat) (q:List Vq):List Vq:=if 0 < d then q++[(lj,d)] else q
def vB (keep lj:Nat) (s:Jw):Jw:=match s.q with
 | p::q=>if p.1 + keep=lj then ⟨q,s.rows.modify p.1 (fun r=>{ r with aq:=p.2 }),s.uses⟩ else s
 | []=>s
def eb (S F:Rat) (keep lj:Nat) (s:Jw) (y:Rat×Rat):Jw:=
 vB keep lj ⟨mP lj (ey S F s.q y).aI (nd s.q (aw S F y.2 - ae y.1 (aw S F y.2))),s.rows++[ey S F s.q y],s.uses++qI lj s.q (aw S F y.2 - ae y.1 (aw S F y.2))⟩
def iC (S F:Rat) (keep:Nat) (l:List (Rat×Rat)):Jw:=l.foldl (fun s y=>eb S F keep s.rows.length s y) ⟨[],[],[]⟩
def dJ:List Vq->List aL->List aL
 | [],r=>r
 | p::q,r=>dJ q (r.modify p.1 (fun x=>{ x with closing:=p.2 }))
def qq (S F:Rat) (keep:Nat) (l:List (Rat×Rat)):List aL×List Uq:=(dJ (iC S F keep l).q (iC S F keep l).rows,(iC S F keep l).uses)
def rF (y:Nat):List Vq->Rat->List Uq
 | [],_=>[]
 | p::t,m=>(if 0 < ae p.2 m then [(p.1,y,ae p.2 m)] else [])++rF y t (m - ae p.2 m)
def qJ:List Vq->Rat->List Vq
 | [],_=>[]
 | p::t,m=>(p.1,p.2 - ae p.2 m)::qJ t (m - ae p.2 m)
def xd:List Vq->Rat->Rat
 | [],_=>0
 | p::t,m=>ae p.2 m + xd t (m - ae p.2 m)
theorem rG (y:Nat) (p:Vq) (t:List Vq) (m:Rat):rF y (p::t) m=(if 0 < ae p.2 m then [(p.1,y,ae p.2 m)] else [])++rF y t (m - ae p.2 m):=rfl
theorem rH (p:Vq) (t:List Vq) (m:Rat):qJ (p::t) m=(p.1,p.2 - ae p.2 m)::qJ t (m - ae p.2 m):=rfl
theorem oK (p:Vq) (t:List Vq) (m:Rat):xd (p::t) m=ae p.2 m + xd t (m - ae p.2 m):=rfl
def pos (p:Vq):Bool:=decide (0 < p.2)
theorem Ab (y:Nat):∀ {t:List Vq},(∀ p∈t,0≤p.2)->rF y t 0=[]/\qJ t 0=t/\xd t 0=0
 | [],_=>⟨rfl,rfl,rfl⟩
 | p::t,h=>by
   have hp:=h p cA
   have e:ae p.2 0=0:=by unfold ae;split <;> grind
   obtain ⟨h1,h2,h3⟩:=Ab y (t:=t) fun x hx=>h x (by simp [hx])
   rw [rG,rH,oK,e,show (0:Rat) - 0=0 by grind,h1,h2,h3,show p.2 - 0=p.2 by grind]
   refine ⟨by simp,rfl,by grind⟩
theorem BH (y:Nat):∀ {t:List Vq} {m:Rat},(∀ p∈t,0≤p.2)->0≤m->qI y (t.filter pos) m=rF y t m/\nd (t.filter pos) m=(qJ t m).filter pos/\ur (t.filter pos) m=xd t m
 | [],_,_,_=>⟨rfl,rfl,rfl⟩
 | p::t,m,h,hm=>by
   have hp:=h p cA
   have ht:∀ x∈t,0≤x.2:=fun x hx=>h x (by simp [hx])
   by_cases h0:0 < p.2
   ·rw [List.filter_cons_of_pos (by simpa [pos] using h0)]
    by_cases CS:0 < m
    ·have hn:0 < ae p.2 m:=by rcases cj p.2 m with ⟨e,_⟩ | ⟨e,_⟩ <;> rw [e] <;> assumption
     by_cases hd:p.2 - ae p.2 m=0
     ·obtain ⟨i1,i2,i3⟩:=BH y (t:=t) (m:=m - ae p.2 m) ht (by have:=cI p.2 m;grind)
      obtain ⟨r1,r2,r3⟩:=gZ (y:=y) (p:=p) (q:=t.filter pos) CS hd
      rw [r1,r2,r3,i1,i2,i3]
      rw [rG,rH,oK,if_pos hn,List.filter_cons_of_neg (by show ¬ decide (0 < p.2 - ae p.2 m)=true;rw [hd];simp)]
      exact ⟨rfl,rfl,rfl⟩
     ·obtain ⟨r0,r1,r2,r3⟩:=gY (y:=y) (p:=p) (q:=t.filter pos) CS hd
      have hz:m - ae p.2 m=0:=by
       rcases cj p.2 m with ⟨e,_⟩ | ⟨e,_⟩
       ·rw [e] at hd;exact absurd dt hd
       ·rw [e];grind
      have OI:0 < p.2 - ae p.2 m:=by have:=dw p.2 m;grind
      obtain ⟨z1,z2,z3⟩:=Ab y ht
      rw [r1,r2,r3]
      rw [rG,rH,oK,hz,z1,z2,z3,if_pos hn,List.filter_cons_of_pos (by simpa [pos] using OI)]
      exact ⟨rfl,rfl,by grind⟩
    ·have hz:m=0:=by grind
     subst hz
     rw [iT y _ CS,gX _ CS,iU _ CS]
     obtain ⟨z1,z2,z3⟩:=Ab y h
     rw [z1,z2,z3,List.filter_cons_of_pos (by simpa [pos] using h0)]
     exact ⟨rfl,rfl,rfl⟩
   ·have hz:p.2=0:=by grind
    have e:ae p.2 m=0:=by rw [hz];unfold ae;split <;> grind
    obtain ⟨i1,i2,i3⟩:=BH y (t:=t) ht hm
    rw [List.filter_cons_of_neg (by simpa [pos] using h0),i1,i2,i3]
    rw [rG,rH,oK,e,show m - 0=m by grind,show p.2 - 0=p.2 by grind,if_neg dt,List.filter_cons_of_neg (by simpa [pos] using h0)]
    exact ⟨rfl,rfl,by grind⟩
theorem FA:∀ (t:List Vq) (m:Rat),(qJ t m).length=t.length
 | [],_=>rfl
 | p::t,m=>by unfold qJ;rw [List.length_cons,List.length_cons,FA t]
theorem Lz:∀ {t:List Vq} {m:Rat},∀ p∈qJ t m,0≤p.2
 | [],_,p,h=>by cases h
 | x::t,m,p,h=>by
   unfold qJ at h
   rcases List.mem_cons.1 h with rfl | h
   ·have:=dw x.2 m
    show 0≤x.2 - ae x.2 m
    grind
   ·exact Lz p h
def bG:Nat->List Rat->List Vq
 | _,[]=>[]
 | k,x::l=>(k,x)::bG (k + 1) l
theorem BI:∀ (k:Nat) (l:List Rat),(bG k l).length=l.length
 | _,[]=>rfl
 | k,x::l=>by show (bG (k + 1) l).length + 1=_;rw [BI];rfl
theorem jw:∀ (k:Nat) (l l':List Rat),bG k (l++l')=bG k l++bG (k + l.length) l'
 | k,[],l'=>rfl
 | k,x::l,l'=>by show (k,x)::bG (k + 1) (l++l')=_;rw [jw,show k + 1 + l.length=k + (x::l).length by rw [List.length_cons];omega];rfl
theorem se:∀ (k:Nat) (l:List Rat) (i:Nat),(bG k l)[i]? =(l[i]?).map fun x=>(k + i,x)
 | _,[],_=>rfl
 | k,x::l,0=>rfl
 | k,x::l,i + 1=>by show (bG (k + 1) l)[i]? =(l[i]?).map _;rw [se,show k + 1 + i=k + (i + 1) by omega]
theorem ld {k:Nat} {l:List Rat} {p:Vq} (h:p∈bG k l):k≤p.1/\p.1 < k + l.length/\p.2∈l:=by
 obtain ⟨i,hi⟩:=List.mem_iff_getElem?.1 h
 rw [se] at hi
 cases hx:l[i]? with
 | none=>rw [hx] at hi;cases hi
 | some x=>
   rw [hx] at hi
   cases hi
   have:=(List.getElem?_eq_some_iff.1 hx).1
   exact ⟨Nat.le_add_right _ _,by show k + i < _;omega,List.mem_of_getElem? hx⟩
theorem Nh:∀ (k:Nat) (l:List Rat) (m:Rat),qJ (bG k l) m=bG k ((qJ (bG k l) m).map (·.2))
 | _,[],_=>rfl
 | k,x::l,m=>by
   exact congrArg (List.cons (k,x - ae x m)) (Nh (k + 1) l (m - ae x m))
theorem ni {k:Nat} {l:List Rat} (h:∀ x∈l,x=0):(bG k l).filter pos=[]:=by
 rw [List.filter_eq_nil_iff]
 intro p hp
 have:=h _ (ld hp).2.2
 unfold pos
 rw [this];simp
structure CT where
 left:List Rat
 rows:List aL
 uses:List Uq
def qu (keep lj:Nat) (s:CT):CT:=if keep≤lj then ⟨s.left.set (lj - keep) 0,s.rows.modify (lj - keep) (fun r=>{ r with aq:=s.left.getD (lj - keep) 0 }),s.uses⟩ else s
def xe (S F:Rat) (t:List Vq) (y:Rat×Rat):aL:=
 ⟨aw S F y.2,ae y.1 (aw S F y.2),y.1 - ae y.1 (aw S F y.2),xd t (aw S F y.2 - ae y.1 (aw S F y.2)),ae y.1 (aw S F y.2) + xd t (aw S F y.2 - ae y.1 (aw S F y.2)),0,0⟩
def mC (S F:Rat) (keep lj:Nat) (s:CT) (y:Rat×Rat):CT:=
 qu keep lj ⟨(s.left.take (lj - keep)++(qJ (bG (lj - keep) (s.left.drop (lj - keep))) (aw S F y.2 - ae y.1 (aw S F y.2))).map (·.2))++[y.1 - ae y.1 (aw S F y.2)],
  s.rows++[xe S F (bG (lj - keep) (s.left.drop (lj - keep))) y],s.uses++rF lj (bG (lj - keep) (s.left.drop (lj - keep))) (aw S F y.2 - ae y.1 (aw S F y.2))⟩
def runT (S F:Rat) (keep:Nat) (l:List (Rat×Rat)):CT:=l.foldl (fun s y=>mC S F keep s.rows.length s y) ⟨[],[],[]⟩
def FD (S F:Rat) (keep:Nat) (l:List (Rat×Rat)):List aL×List Uq:=(dJ (bG 0 (runT S F keep l).left) (runT S F keep l).rows,(runT S F keep l).uses)
structure Both (keep:Nat) (a:Jw) (b:CT):Prop where
 len:b.left.length=b.rows.length
 rows:a.rows=b.rows
 uses:a.uses=b.uses
 queue:a.q=(bG 0 b.left).filter pos
 nn:∀ x∈b.left,0≤x
 old:∀ (v:Nat) (x:Rat),v + keep < b.rows.length->b.left[v]? =some x->x=0
 exp:∀ (i:Nat) (r:aL),b.rows.length≤i + keep->b.rows[i]? =some r->r.aq=0
 ja:∀ r∈b.rows,r.closing=0
theorem lN (S F e:Rat):0≤aw S F e:=by
 show 0≤(if gK 0 (if gK (S * e) F=true then S * e else F)=true then 0 else (if gK (S * e) F=true then S * e else F))
 generalize (if gK (S * e) F=true then S * e else F)=o
 by_cases h:gK 0 o=true
 ·rw [if_pos h];exact Rat.le_refl
 ·rw [if_neg h]
  rw [Pe] at h
  exact Rat.not_lt.1 h
theorem BJ {l:List aL} {i j:Nat} {f:aL->aL} (h:i=j):(l.modify i f)[j]? =(l[j]?).map f:=by
 subst h;rw [List.getElem?_modify];simp
theorem vC {l:List aL} {i j:Nat} {f:aL->aL} (h:i≠j):(l.modify i f)[j]? =l[j]? :=by
 rw [List.getElem?_modify];simp [h]
theorem Jx {l:List aL} {i:Nat} {f:aL->aL} (h:∀ r,l[i]? =some r->f r=r):l.modify i f=l:=by
 apply List.ext_getElem?
 intro j
 rw [List.getElem?_modify]
 by_cases e:i=j
 ·subst e
  cases hr:l[i]? with
  | none=>rfl
  | some r=>simp [h r hr]
 ·simp [e]
theorem Pl {S F:Rat} {keep:Nat} {a:Jw} {b:CT} (h:Both keep a b) (y:Rat×Rat):Both keep (eb S F keep a.rows.length a y) (mC S F keep b.rows.length b y):=by
 obtain ⟨h1,h2,h3,h4,h5,h6,h7,h8⟩:=h
 obtain ⟨n,hn⟩:∃ n,n=b.rows.length:=⟨_,rfl⟩
 rw [h2,<-hn]
 unfold eb mC
 obtain ⟨lo,GU⟩:∃ lo,lo=n - keep:=⟨_,rfl⟩
 obtain ⟨L,hL⟩:∃ L,L=aw S F y.2:=⟨_,rfl⟩
 obtain ⟨m,hm⟩:∃ m,m=L - ae y.1 L:=⟨_,rfl⟩
 have CS:0≤m:=by have:=cI y.1 L;grind
 obtain ⟨t,ht⟩:∃ t,t=bG lo (b.left.drop lo):=⟨_,rfl⟩
 have htn:∀ p∈t,0≤p.2:=fun p hp=>by rw [ht] at hp;exact h5 _ (List.mem_of_mem_drop (ld hp).2.2)
 have hz:∀ x∈b.left.take lo,x=0:=fun x hx=>by
  obtain ⟨v,hv⟩:=List.mem_iff_getElem?.1 hx
  rw [List.getElem?_take] at hv
  split at hv
  ·exact h6 v x aa hv
  ·cases hv
 have hq:a.q=t.filter pos:=by
  rw [h4,<-List.take_append_drop lo b.left,jw,List.filter_append,ni hz,List.nil_append,List.length_take,ht]
  rcases Nat.le_total lo b.left.length with e | e
  ·rw [Nat.min_eq_left e,Nat.zero_add]
  ·rw [List.drop_of_length_le e];rfl
 obtain ⟨i1,i2,i3⟩:=BH n htn CS
 obtain ⟨d,hd⟩:∃ d,d=y.1 - ae y.1 L:=⟨_,rfl⟩
 have Ms:0≤d:=by have:=dw y.1 L;grind
 have e1:ey S F a.q y=xe S F t y:=by unfold ey xe;rw [<-hL,<-hm,hq,i3]
 have e2:(xe S F t y).aI=d:=by show y.1 - ae y.1 (aw S F y.2)=d;rw [<-hL,hd]
 rw [e1,e2,<-GU,<-hL,<-hm,<-ht,<-hd,hq,i1,i2,h3,h2]
 obtain ⟨lf,hlf⟩:∃ lf,lf=(b.left.take lo++(qJ t m).map (·.2))++[d]:=⟨_,rfl⟩
 have Sx:(b.left.take lo).length=lo:=by rw [List.length_take];omega
 have hlen:lf.length=n + 1:=by
  rw [hlf,List.length_append,List.length_append,Sx,List.length_map,FA,ht,BI,List.length_drop,List.length_singleton];omega
 have hlq:mP n d ((qJ t m).filter pos)=(bG 0 lf).filter pos:=by
  have:(bG 0 lf).filter pos=(qJ t m).filter pos++(if 0 < d then [(n,d)] else []):=by
   rw [hlf,jw,List.filter_append,jw,List.filter_append,ni hz,List.nil_append,Sx,Nat.zero_add]
   rw [show bG lo ((qJ t m).map (·.2))=qJ t m by rw [ht];exact (Nh lo _ m).symm]
   congr 1
   have zM:0 + (b.left.take lo++(qJ t m).map (·.2)).length=n:=by
    have:=hlen;rw [hlf,List.length_append,List.length_singleton] at this;omega
   rw [zM]
   show List.filter pos [(n,d)]=_
   by_cases e:0 < d
   ·rw [if_pos e];simp [pos,e]
   ·rw [if_neg e];simp [pos,e]
  rw [this]
  unfold mP
  split
  ·rfl
  ·rw [List.append_nil]
 have hnn:∀ x∈lf,0≤x:=fun x hx=>by
  rw [hlf] at hx
  rcases List.mem_append.1 hx with hx | hx
  ·rcases List.mem_append.1 hx with hx | hx
   ·rw [hz x hx];exact Rat.le_refl
   ·obtain ⟨p,hp,rfl⟩:=List.mem_map.1 hx
    exact Lz p hp
  ·rw [List.mem_singleton.1 hx];exact Ms
 have hold:∀ (v:Nat) (x:Rat),v + keep < n->lf[v]? =some x->x=0:=fun v x hv hx=>by
  rw [hlf,List.append_assoc,List.getElem?_append_left (by rw [Sx];omega)] at hx
  exact hz x (List.mem_of_getElem? hx)
 obtain ⟨Sy,hrw⟩:∃ Sy,Sy=b.rows++[xe S F t y]:=⟨_,rfl⟩
 have pc:Sy.length=n + 1:=by rw [hrw,List.length_append,<-hn];rfl
 have hre:∀ (i:Nat) (r:aL),n≤i + keep->Sy[i]? =some r->r.aq=0:=fun i r hi hr=>by
  rw [hrw] at hr
  by_cases e:i < b.rows.length
  ·rw [List.getElem?_append_left e] at hr
   exact h7 i r aa hr
  ·rw [List.getElem?_append_right aa] at hr
   have:=List.mem_of_getElem? hr
   rw [List.mem_singleton.1 this];rfl
 have hrc:∀ r∈Sy,r.closing=0:=fun r hr=>by
  rw [hrw] at hr
  rcases List.mem_append.1 hr with hr | hr
  ·exact h8 r hr
  ·rw [List.mem_singleton.1 hr];rfl
 rw [hlq,<-hrw,<-hlf]
 unfold qu
 by_cases hk:keep≤n
 ·rw [if_pos hk,<-GU]
  have hlt:lo < lf.length:=by omega
  obtain ⟨x,hx⟩:∃ x,lf[lo]? =some x:=⟨_,List.getElem?_eq_getElem hlt⟩
  have Qu:lf.getD lo 0=x:=by rw [List.getD_eq_getElem?_getD,hx];rfl
  have iV:=hnn x (List.mem_of_getElem? hx)
  have CR:lf=lf.take lo++x::lf.drop (lo + 1):=by
   have e:=(List.getElem?_eq_some_iff.1 hx).2
   rw [<-e,<-List.drop_eq_getElem_cons hlt,List.take_append_drop]
  have hzt:∀ z∈lf.take lo,z=0:=fun z Kh=>by
   obtain ⟨v,hv⟩:=List.mem_iff_getElem?.1 Kh
   rw [List.getElem?_take] at hv
   split at hv
   ·exact hold v z aa hv
   ·cases hv
  have Ql:(lf.take lo).length=lo:=by rw [List.length_take];omega
  have hset:lf.set lo 0=lf.take lo++0::lf.drop (lo + 1):=by rw [List.set_eq_take_append_cons_drop,if_pos hlt]
  have hf:(bG 0 lf).filter pos=(if 0 < x then [(lo,x)] else [])++(bG (lo + 1) (lf.drop (lo + 1))).filter pos:=by
   conv=>lhs;rw [CR]
   rw [jw,List.filter_append,ni hzt,List.nil_append,Ql,Nat.zero_add]
   show List.filter pos ((lo,x)::bG (lo + 1) _)=_
   by_cases e:0 < x
   ·rw [if_pos e,List.filter_cons_of_pos (by simpa [pos] using e)];rfl
   ·rw [if_neg e,List.filter_cons_of_neg (by simpa [pos] using e)];rfl
  have hfs:(bG 0 (lf.set lo 0)).filter pos=(bG (lo + 1) (lf.drop (lo + 1))).filter pos:=by
   rw [hset,jw,List.filter_append,ni hzt,List.nil_append,Ql,Nat.zero_add]
   show List.filter pos ((lo,(0:Rat))::bG (lo + 1) _)=_
   rw [List.filter_cons_of_neg (by simp [pos])]
  have sL:(Sy.modify lo (fun r=>{ r with aq:=x })).length=n + 1:=by rw [List.length_modify,pc]
  have hres:vB keep n ⟨(bG 0 lf).filter pos,Sy,b.uses++rF n t m⟩=⟨(bG (lo + 1) (lf.drop (lo + 1))).filter pos,Sy.modify lo (fun r=>{ r with aq:=x }),b.uses++rF n t m⟩:=by
   rw [hf]
   by_cases e:0 < x
   ·rw [if_pos e]
    show (if lo + keep=n then _ else _)=_
    rw [if_pos aa];rfl
   ·have hx00:x=0:=by grind
    rw [if_neg e,List.nil_append,Jx (fun r hr=>by
     have:=hre lo r aa hr
     rw [hx00]
     cases r
     simp only at this
     subst this;rfl)]
    unfold vB
    dsimp only
    cases hc:(bG (lo + 1) (lf.drop (lo + 1))).filter pos with
    | nil=>rfl
    | cons p q=>
      have hp:p∈bG (lo + 1) (lf.drop (lo + 1)):=(List.mem_filter.1 (hc▸List.mem_cons_self)).1
      have:=(ld hp).1
      dsimp only
      rw [if_neg aa]
  rw [hres,Qu]
  refine ⟨by rw [List.length_set,hlen,sL],rfl,rfl,hfs.symm,fun z Kh=> ?_,fun v z hv Kh=> ?_,fun i r hi hr=> ?_,fun r hr=> ?_⟩
  ·rcases List.mem_or_eq_of_mem_set Kh with e | e
   ·exact hnn z e
   ·rw [e];exact Rat.le_refl
  ·rw [sL] at hv
   rw [List.getElem?_set] at Kh
   by_cases e:lo=v
   ·rw [if_pos e,if_pos hlt] at Kh;cases Kh;rfl
   ·rw [if_neg e] at Kh
    exact hold v z aa Kh
  ·rw [sL] at hi
   rw [vC aa] at hr
   exact hre i r aa hr
  ·obtain ⟨i,hi⟩:=List.mem_iff_getElem?.1 hr
   by_cases e:lo=i
   ·rw [BJ e] at hi
    cases hq':Sy[i]? with
    | none=>rw [hq'] at hi;cases hi
    | some r'=>
      rw [hq'] at hi
      cases hi
      exact hrc r' (List.mem_of_getElem? hq')
   ·rw [vC e] at hi
    exact hrc r (List.mem_of_getElem? hi)
 ·rw [if_neg hk]
  have hres:vB keep n ⟨(bG 0 lf).filter pos,Sy,b.uses++rF n t m⟩=⟨(bG 0 lf).filter pos,Sy,b.uses++rF n t m⟩:=by
   unfold vB
   dsimp only
   cases (bG 0 lf).filter pos with
   | nil=>rfl
   | cons p q=>dsimp only;rw [if_neg aa]
  rw [hres]
  refine ⟨by rw [hlen,pc],rfl,rfl,rfl,hnn,fun v x hv hx=> ?_,fun i r hi hr=>hre i r aa hr,hrc⟩
  rw [pc] at hv;omega
theorem SA (S F:Rat) (keep:Nat) (l:List (Rat×Rat)):Both keep (iC S F keep l) (runT S F keep l):=by
 unfold iC runT
 have h0:Both keep (⟨[],[],[]⟩:Jw) (⟨[],[],[]⟩:CT):=⟨rfl,rfl,rfl,rfl,fun x hx=>(by cases hx),fun v x _ hx=>(by cases hx),fun i r _ hr=>(by cases hr),fun r hr=>(by cases hr)⟩
 generalize (⟨[],[],[]⟩:Jw)=a at h0 ⊢
 generalize (⟨[],[],[]⟩:CT)=b at h0 ⊢
 induction l generalizing a b with
 | nil=>exact h0
 | cons y l ih=>exact ih _ _ (Pl h0 y)
theorem sf:∀ (q:List Vq) (r:List aL),(q.map (·.1)).Nodup->∀ i,(dJ q r)[i]? =match q.find? (fun p=>p.1 == i) with
  | some p=>(r[i]?).map (fun x=>{ x with closing:=p.2 })
  | none=>r[i]?
 | [],r,_,i=>rfl
 | p::q,r,hn,i=>by
   rw [List.map_cons,List.nodup_cons] at hn
   show (dJ q (r.modify p.1 _))[i]? =_
   rw [sf q _ hn.2 i,List.find?_cons]
   by_cases e:p.1=i
   ·have Bj:q.find? (fun p=>p.1 == i)=none:=by
     rw [List.find?_eq_none]
     intro x hx e'
     exact hn.1 (List.mem_map.2 ⟨x,hx,by rw [e];simpa using e'⟩)
    rw [Bj,beq_iff_eq.2 e]
    dsimp only
    rw [BJ e]
   ·rw [show (p.1 == i)=false by simpa using e]
    dsimp only
    rw [vC e]
theorem BK (k:Nat) (l:List Rat):((bG k l).map (·.1)).Nodup:=by
 induction l generalizing k with
 | nil=>exact List.nodup_nil
 | cons x l ih=>
   show (k::(bG (k + 1) l).map (·.1)).Nodup
   rw [List.nodup_cons]
   refine ⟨fun h=> ?_,ih _⟩
   obtain ⟨p,hp,e⟩:=List.mem_map.1 h
   have:=(ld hp).1
   omega
theorem FE (S F:Rat) (keep:Nat) (l:List (Rat×Rat)):qq S F keep l=FD S F keep l:=by
 obtain ⟨h1,h2,h3,h4,h5,h6,h7,h8⟩:=SA S F keep l
 unfold qq FD
 rw [h3,h2,h4]
 congr 1
 apply List.ext_getElem?
 intro i
 have hn:=BK 0 (runT S F keep l).left
 rw [sf _ _ hn,sf _ _ (hn.sublist (List.filter_sublist.map _))]
 cases hf:((bG 0 (runT S F keep l).left).filter pos).find? (fun p=>p.1 == i) with
 | some p=>
   have hm:=List.mem_of_find?_eq_some hf
   have hp:=List.find?_some hf
   have:(bG 0 (runT S F keep l).left).find? (fun p=>p.1 == i)=some p:=by
    cases hg:(bG 0 (runT S F keep l).left).find? (fun p=>p.1 == i) with
    | none=>exact absurd hp (List.find?_eq_none.1 hg p (List.mem_filter.1 hm).1)
    | some p'=>
      have QA:=List.mem_of_find?_eq_some hg
      have hp':=List.find?_some hg
      obtain ⟨j,hj⟩:=List.mem_iff_getElem?.1 QA
      obtain ⟨j',hj'⟩:=List.mem_iff_getElem?.1 (List.mem_filter.1 hm).1
      rw [se] at hj hj'
      have a1:p'.1=j:=by cases hq:(runT S F keep l).left[j]? <;> rw [hq] at hj <;> cases hj;simp
      have a2:p.1=j':=by cases hq:(runT S F keep l).left[j']? <;> rw [hq] at hj' <;> cases hj';simp
      have a3:j=j':=by have b1:=beq_iff_eq.1 hp;have b2:=beq_iff_eq.1 hp';omega
      rw [a3,hj'] at hj
      exact hj.symm
   rw [this]
 | none=>
   dsimp only
   cases hg:(bG 0 (runT S F keep l).left).find? (fun p=>p.1 == i) with
   | none=>rfl
   | some p=>
     dsimp only
     have hm:=List.mem_of_find?_eq_some hg
     have hp:=List.find?_some hg
     have hz:p.2=0:=by
      have h0:=h5 _ (ld hm).2.2
      by_cases e:0 < p.2
      ·exact absurd hp (List.find?_eq_none.1 hf p (List.mem_filter.2 ⟨hm,by simpa [pos] using e⟩))
      ·grind
     cases hr:(runT S F keep l).rows[i]? with
     | none=>rfl
     | some r=>
       have:=h8 r (List.mem_of_getElem? hr)
       cases r
       simp only at this
       subst this
       simp [hz]
end
set_option maxRecDepth 4000
section
open Go.RowKit
attribute [local irreducible] aB VS
def R4 (B:Nat) (w:World) (cs:List Value) (q:Rat):Prop:=∃ s p n c t r m d,cs=[.bool s,.slice p n c,.bool t,.slice r m d]/\aH w B (.agg #[.bool s,.slice p n c,.bool t,.slice r m d]) q
theorem R4.kp {B:Nat} {T:TypeId->Bool} {w w':World} {cs:List Value} {q:Rat} (h:R4 B w cs q) (k:bt ⟨UU,fun _=>True,T⟩ w w'):R4 B w' cs q:=by
 obtain ⟨s,p,n,c,t,r,m,d,h1,h2⟩:=h
 exact ⟨s,p,n,c,t,r,m,d,h1,h2.kp k⟩
def dz (B:Nat) (w:World) (cs:List Value) (e:Vq):Prop:=∃ s p n c t r m d,cs=[.int .i64 (e.1:Int),.bool s,.slice p n c,.bool t,.slice r m d]/\aH w B (.agg #[.bool s,.slice p n c,.bool t,.slice r m d]) e.2
theorem aO (B:Nat):gE (dz B) 5 where
 kp:=fun h k=>by
  obtain ⟨s,p,n,c,t,r,m,d,h1,h2⟩:=h
  exact ⟨s,p,n,c,t,r,m,d,h1,h2.kp k⟩
 len:=fun h=>by obtain ⟨s,p,n,c,t,r,m,d,rfl,_⟩:=h;rfl
 ok:=fun h=>by obtain ⟨s,p,n,c,t,r,m,d,rfl,_⟩:=h;rfl
def qw (B:Nat) (w:World) (cs:List Value) (e:Uq):Prop:=∃ s p n c t r m d,cs=[.int .i64 (e.1:Int),.int .i64 (e.2.1:Int),.bool s,.slice p n c,.bool t,.slice r m d]/\aH w B (.agg #[.bool s,.slice p n c,.bool t,.slice r m d]) e.2.2
theorem dR (B:Nat):gE (qw B) 6 where
 kp:=fun h k=>by
  obtain ⟨s,p,n,c,t,r,m,d,h1,h2⟩:=h
  exact ⟨s,p,n,c,t,r,m,d,h1,h2.kp k⟩
 len:=fun h=>by obtain ⟨s,p,n,c,t,r,m,d,rfl,_⟩:=h;rfl
 ok:=fun h=>by obtain ⟨s,p,n,c,t,r,m,d,rfl,_⟩:=h;rfl
structure dL {α:Type} (E:World->List Value->α->Prop) (sz:Nat) (w:World) (n off c:Nat) (pre:List Value) (vs:List (List Value)) (spare:List Value) (es:List α):Prop where
 len:n=es.length
 pl:pre.length=off\/c=0
 po:pre.all aU=true
 el:ck E w es vs
 so:spare.all aU=true
 le:n≤c
 cm:c≤9223372036854775807
 fl:(vs.flatten++spare).length=c * sz
abbrev Runner:TypeId:=89
abbrev dD:TypeId:=92
abbrev eh:TypeId:=41
abbrev fm:TypeId:=44
theorem FF {a:AV} {r u:Value} (h:aG a=true) (hr:aU r=true) (hu:aU u=true):[a,.val r,.val u].all aG=true:=by
 rw [List.all_cons,List.all_cons,List.all_cons,h]
 show (true && (aU r && (aU u && true)))=true
 rw [hr,hu];rfl
theorem bM {w:World} {b:Nat} {t t':TypeId} {cs eQ:Array Value} (h:aZ w b t cs) (h':aZ w b t' eQ):t=t':=by
 have:=h.symm.trans h'
 simp only [Option.some.injEq,Obj.cells.injEq] at this
 exact this.2.1
theorem xV (g c:Nat) (p:Option Addr) (r u:Value) (w:World) (hg:aZ w g Runner #[.slice p 0 c,r,u]):
  Calls Tryz.prog 75 #[.pointer (some ⟨g,0,none⟩)] w fun o w'=>o=.returned (.pointer none)/\aM w w':=by
 refine ah (C:=bS Tryz.prog w _) (args:=[_]) Tryz.func75 rfl Tryz.ntmps75 (bB rfl) ?_
 refine ab ?_
 refine VO.read rfl [.slice p 0 c] rfl (fun j v hj=> ?_) (wV rfl ?_)
 ·match j,hj with
  | 0,hj=>cases hj;exact hg.cell rfl
  | j + 1,hj=>cases hj
 refine ab ?_
 refine aY ?_;intro wz kz bz
 exact ⟨rfl,bz⟩
theorem Jy (g b off n c:Nat) (r u:Value) (w:World) (hn:n≠0) (hg:aZ w g Runner #[.slice (some ⟨b,off,none⟩) n c,r,u]):
  Calls Tryz.prog 75 #[.pointer (some ⟨g,0,none⟩)] w fun o w'=>o=.returned (.pointer (some ⟨b,off,none⟩))/\aM w w':=by
 have hcell:∀ (j:Nat) (v:Value),([.slice (some ⟨b,off,none⟩) n c]:List Value)[j]? =some v->w.cell? ((⟨g,0 + 0,none⟩:Addr).add j)=some v:=fun j v hj=>by
  match j,hj with
  | 0,hj=>cases hj;exact hg.cell rfl
  | j + 1,hj=>cases hj
 refine ah (C:=bS Tryz.prog w _) (args:=[_]) Tryz.func75 rfl Tryz.ntmps75 (bB rfl) ?_
 refine ab ?_
 refine VO.read rfl [.slice (some ⟨b,off,none⟩) n c] rfl hcell (wV rfl ?_)
 refine ab ?_
 refine VS.aQ rfl (by rw [beq_eq_false_iff_ne];omega) ?_
 refine ab ?_
 refine VO.read rfl [.slice (some ⟨b,off,none⟩) n c] rfl hcell (wV rfl ?_)
 refine ab ?_
 refine VO.cond rfl du ?_
 refine wV rfl ?_
 refine ab ?_
 refine aY ?_;intro wz kz bz
 exact ⟨rfl,bz⟩
theorem sl_one {b off n c:Nat}:Value.slice (if c=((some (1:Int)).getD 0).toNat then some (⟨b,off,none⟩:Addr) else (some (⟨b,off,none⟩:Addr)).map (·.add (((some (1:Int)).getD 0).toNat * 5))) (((none:Option Int).getD (n:Int)).toNat - ((some (1:Int)).getD 0).toNat) (c - ((some (1:Int)).getD 0).toNat)=.slice (some ⟨b,if c=1 then off else off + 5,none⟩) (n - 1) (c - 1):=by
 by_cases h:c=1
 ·simp [h]
 ·simp [h,Addr.add_mid]
theorem af {P Q:Prop} (h:Q) (i:Q->P:=by intro h;(repeat first|refine wN ?_|refine wP rfl ?_|refine DY rfl ?_|refine cxA_d rfl ?_|refine wO rfl rfl ?_);exact h):P:=i h
theorem Pm (g b off n c:Nat) (r u:Value) (w:World) (hg:aZ w g Runner #[.slice (some ⟨b,off,none⟩) n c,r,u]) (hr:aU r=true) (hu:aU u=true) (hn:1≤n) (fM:n≤c) (gg:c≤9223372036854775807):
  Calls Tryz.prog 76 #[.pointer (some ⟨g,0,none⟩)] w fun o w'=>o=.returned (iX [])/\tB [g] w w'/\aZ w' g Runner #[.slice (some ⟨b,if c=1 then off else off + 5,none⟩) (n - 1) (c - 1),r,u]:=by
 have sG:jZ (KU UU) 10 [g] [(Runner,[.val (.slice (some ⟨b,off,none⟩) n c),.val r,.val u])] w:=by
  refine ⟨rfl,by simp,fun j g' c' hj hc=> ?_,fun c' hc=> ?_,fun c' hc k hk=> ?_⟩
  ·match j,hj,hc with
   | 0,hj,hc=>cases hj;cases hc;exact hg
   | j + 1,hj,_=>simp at hj
  ·cases List.mem_singleton.1 hc
   exact ⟨rfl,FF rfl hr hu⟩
  ·cases List.mem_singleton.1 hc;cases hk
 refine fi Tryz.prog w _ (KU UU) (fun t=>Nat.beq t 22) table (fun _ _=>trivial) (ad:=[g]) (us:=[]) Tryz.func76 rfl Tryz.ntmps76 (bB rfl) sG (bB rfl) ?_
 refine af ?_
 refine VO.cond rfl ⟨show (0:Int)≤1 by decide,show (1:Int)≤(n:Int) by omega,show (n:Int)≤(c:Int) by omega,show (c:Int)≤9223372036854775807 by omega⟩ ?_
 refine VO.fix 7 rfl (congrArg AV.val (sl_one (b:=b) (off:=off) (n:=n) (c:=c))) ?_
 refine wV rfl ?_
 refine af ?_
 refine VS.mO (bE _ _) rfl (fun wz β kz oz en=> ?_)
 obtain ⟨o1,o2⟩:=fj (en.own 20 _ _ rfl) 0 g rfl rfl
 exact ⟨rfl,oz.1,o2⟩
def LeftA (w:World) (b:Nat):Prop:=∃ (t:TypeId) (cs:List Value),aZ w b t cs.toArray/\(KU UU).fz t=false/\cs.all aU=true
theorem dL.all {α:Type} {E:World->List Value->α->Prop} {sz:Nat} {w:World} {n off c:Nat} {pre:List Value} {vs:List (List Value)} {spare:List Value} {es:List α} (hE:gE E sz) (h:dL E sz w n off c pre vs spare es):(pre++(vs.flatten++spare)).all aU=true:=by
 rw [List.all_append,List.all_append,h.po,(h.el.ok hE).1,h.so];rfl
theorem dL.kp {α:Type} {E:World->List Value->α->Prop} {sz:Nat} {w w':World} {n off c:Nat} {pre:List Value} {vs:List (List Value)} {spare:List Value} {es:List α} (hE:gE E sz) (h:dL E sz w n off c pre vs spare es) (k:Kp UU w w'):dL E sz w' n off c pre vs spare es:=
 ⟨h.len,h.pl,h.po,h.el.kp hE k,h.so,h.le,h.cm,h.fl⟩
theorem gm {d:Rat}:ea d 0 > 0↔0 < d:=by
 constructor
 ·intro h
  refine Rat.not_le.1 fun e=> ?_
  have:=lJ.2 e;omega
 ·intro h
  have:¬ ea d 0≤0:=fun e=>absurd (lJ.1 e) (Rat.not_le.2 h)
  omega
set_option maxRecDepth 4000 in
theorem SB (B g b off n c lj:Nat) (pre:List Value) (vs:List (List Value)) (spare:List Value) (q:List Vq) (r u v:Value) (d:Rat) (kk:Nat) (w:World)
  (hg:aZ w g Runner #[.slice (some ⟨b,off,none⟩) n c,r,u]) (hb:aZ w b dD (pre++(vs.flatten++spare)).toArray) (hO:dL (dz B) 5 w n off c pre vs spare q) (hr:aU r=true) (hu:aU u=true) (hv:bI w v d) (hs:eM d kk) (hk:kk≤100000) (hn:n≤1000) (hB:B≤w.heap.size):
  Calls Tryz.prog 74 #[.pointer (some ⟨g,0,none⟩),.int .i64 (lj:Int),v] w fun o w'=>o=.returned (iX [])/\tB [g,b] w w'/\LeftA w' b/\
   ∃ b' aV n' c' cf iZ aj,(w.heap.size≤b'\/b'=b)/\aZ w' g Runner #[.slice (some ⟨b',aV,none⟩) n' c',r,u]/\aZ w' b' dD (cf++(iZ.flatten++aj)).toArray/\dL (dz B) 5 w' n' aV c' cf iZ aj (mP lj d q):=by
 have hgb:g≠b:=fun e=>by
  subst e
  exact absurd (bM hg hb) bV
 obtain ⟨Ks,jS,Pn,kt,DM,fM,gg,wj⟩:=id hO
 obtain ⟨FG,BL⟩:=kt.ok (aO B)
 obtain ⟨s0,p0,n0,c0,t0,y0,m0,d0,rfl⟩:=hv.form
 have sG:jZ (KU UU) 23 [g,b] [(Runner,[.row 47 off n c,.val r,.val u]),(dD,pre.map .val++(vs.flatten.map .val++spare.map .val))] w:=by
  refine ⟨rfl,by simp [hgb],fun j g' c' hj hc=> ?_,fun c' hc=> ?_,fun c' hc k hk=> ?_⟩
  ·match j,hj,hc with
   | 0,hj,hc=>cases hj;cases hc;exact hg
   | 1,hj,hc=>cases hj;cases hc;rw [<-List.map_append,<-List.map_append,ag];exact hb
   | j + 2,hj,_=>simp at hj
  ·rcases List.mem_cons.1 hc with rfl | hc
   ·exact ⟨rfl,FF rfl hr hu⟩
   ·cases List.mem_singleton.1 hc
    exact ⟨rfl,by rw [<-List.map_append,<-List.map_append];exact bg (hO.all (aO B))⟩
  ·rcases List.mem_cons.1 hc with rfl | hc
   ·have:k=47:=by simpa [ax,AV.cQ] using hk
    subst this;exact ⟨by omega,by show 47 < 2 * 23 + 2;omega⟩
   ·cases List.mem_singleton.1 hc
    rw [<-List.map_append,<-List.map_append,ai] at hk;cases hk
 refine fi Tryz.prog w _ (KU UU) (fun t=>Nat.beq t 22) table (fun _ _=>trivial) (ad:=[g,b]) (us:=[_,_]) Tryz.func74 rfl Tryz.ntmps74 (bB rfl) sG (bB rfl) ?_
 refine af ?_
 obtain ⟨sg,lB⟩:∃ sg,ea d 0=sg:=⟨_,rfl⟩
 refine VO.call rfl rfl (fk Tryz.func13) (fun bF cU bJ=>(eN _ d kk bF (hv.ki hs) aa sg lB).mono ?_)
 rintro e w1 ⟨rfl,aK⟩
 skip
 refine ⟨_,rfl,aK,fun dC _ bb1=>wV rfl ?_⟩
 refine af ?_
 by_cases hd:0 < d
 ·have hp:mP lj d q=q++[(lj,d)]:=if_pos hd
  have mD:sg > 0:=by rw [<-lB];exact gm.2 hd
  refine VS.aP rfl (decide_eq_true mD) ?_
  refine af ?_
  refine VO.eK rfl (fk Tryz.func14) (fun fh β fE fG ho=>(BA _ [d] kk fh (cX (ho.own 16 (.base (List.mem_singleton.2 rfl)) _ _ rfl) [] (vs:=[[.bool s0,.slice p0 n0 c0,.bool t0,.slice y0 m0 d0]]) (by rfl) rfl (bq.cons (hv.ki hs aR) bq.nil) (bB rfl) bV) (by unfold jm fA;simp;omega)).mono ?_)
  rintro o w3 ⟨r3,rfl,q3,hs3,cG⟩
  have q3':aH w3 fh.heap.size r3 d:=by
   have e:nO [d]=d:=by show 0 + d=d;grind
   rw [e] at q3;exact q3
  obtain ⟨s3,p3,n3,c3,t3,y3,m3,d3,rfl⟩:=q3'.form
  refine ⟨_,rfl,cG,fun gT _ bb3=>wV rfl ?_⟩
  refine af ?_
  refine VO.appO (bE _ _) (t:=85) (e:=dD) (sz:=5) (n:=n) (c:=c) (off:=off) (i:=47) (mm:=1) (pre:=pre.map .val) (known:=vs.flatten.map .val) (spare:=spare.map .val) (news:=([.int .i64 (lj:Int),.bool s3,.slice p3 n3 c3,.bool t3,.slice y3 m3 d3]:List Value).map .val) (dst:=20) rfl rfl rfl rfl rfl rfl rfl rfl (bB rfl) rfl rfl (by rw [List.length_map];exact jS.imp id fun h=>⟨h,by decide⟩) (.inl rfl) (by rw [List.length_map,BL,Ks]) (by rw [<-List.map_append,List.length_map];exact wj) fM gg ⟨ai _,ai _,rfl⟩ (ai _) ⟨bg FG,bg DM,rfl⟩ (bg Pn) rfl aa
   (fun w1 β k1 b1 ho=>⟨_,_,rfl,.inr ⟨β 19,0,rfl,de (rest:=[]) (ho.own 19 (.base (List.mem_append_right _ (List.mem_singleton.2 rfl))) _ _ rfl) rfl⟩⟩)
   (fun rB aV cf cap' aj ρ Ni Nj fF hp1 hp2 hp3 iI iQ ez pR eu=>wV rfl ?_)
  refine af ?_
  refine VS.mO (bE _ _) rfl (fun wz β kz oz en=> ?_)
  rw [hp]
  obtain ⟨o1,o2⟩:=fj (en.own 46 _ _ rfl) 0 g rfl rfl
  have o3:=en.own 20 _ _ rfl
  have o5:β 20≠g:=fun e=>absurd (en.apart 46 20 (by intro h;cases h) (by intro h;cases h) (o1.trans e.symm)) bV
  have o6:w.heap.size≤β 20\/β 20=b:=by
   have:=fX (show dm 23 [g,b] w 20 (β 20) from o3.new)
   simpa [o5] using this
  have o7:=o3.cls
  rw [List.map_append,List.map_append,List.map_append,ag,ag] at o7
  have hE:dz B wz [.int .i64 (lj:Int),.bool s3,.slice p3 n3 c3,.bool t3,.slice y3 m3 d3] (lj,d):=⟨s3,p3,n3,c3,t3,y3,m3,d3,rfl,(q3'.mono (Nat.le_trans hB fG.1.size)).kp aR⟩
  refine ⟨rfl,oz.1,oz.2 b cA,β 20,aV,n + 1,cap',cf.map (AV.leaf β),vs++[[.int .i64 (lj:Int),.bool s3,.slice p3 n3 c3,.bool t3,.slice y3 m3 d3]],aj.map (AV.leaf β),o6,o2,?_,⟨by simp [Ks],.inl (by rw [List.length_map];exact hp1),dv hp2,?_,dv pR,iI,iQ,?_⟩⟩
  ·rw [List.flatten_append];exact o7
  ·exact (kt.kp (aO B) aR).snoc hE
  ·have:=ez
   simp only [List.length_append,List.length_map,List.length_cons,List.length_nil,List.flatten_append,List.flatten_cons,List.flatten_nil,List.append_nil] at this ⊢
   omega
 ·have hp:mP lj d q=q:=if_neg hd
  have mD:¬ sg > 0:=by rw [<-lB];exact fun h=>hd (gm.1 h)
  refine VS.aQ rfl (decide_eq_false mD) ?_
  refine af ?_
  refine VS.mO (bE _ _) rfl (fun wz β kz oz en=> ?_)
  rw [hp]
  obtain ⟨o1,o2⟩:=fj (en.own 46 _ _ rfl) 0 g rfl rfl
  obtain ⟨o3,o4⟩:=fj (en.own 47 _ _ rfl) 1 b rfl rfl
  rw [<-List.map_append,<-List.map_append,ag] at o4
  refine ⟨rfl,oz.1,oz.2 b cA,b,off,n,c,pre,vs,spare,.inr rfl,?_,o4,hO.kp (aO B) aR⟩
  have:β 47=b:=o3
  rw [<-this];exact o2
set_option maxRecDepth 4000 in
theorem SC (B g lj:Nat) (r u v:Value) (d:Rat) (kk:Nat) (w:World)
  (hg:aZ w g Runner #[.slice none 0 0,r,u]) (hr:aU r=true) (hu:aU u=true) (hv:bI w v d) (hs:eM d kk) (hk:kk≤100000) (hB:B≤w.heap.size):
  Calls Tryz.prog 74 #[.pointer (some ⟨g,0,none⟩),.int .i64 (lj:Int),v] w fun o w'=>o=.returned (iX [])/\tB [g] w w'/\
   ((¬ 0 < d/\aZ w' g Runner #[.slice none 0 0,r,u])\/(0 < d/\∃ b' c' iZ aj,w.heap.size≤b'/\aZ w' g Runner #[.slice (some ⟨b',0,none⟩) 1 c',r,u]/\aZ w' b' dD ([]++(iZ.flatten++aj)).toArray/\dL (dz B) 5 w' 1 0 c' [] iZ aj [(lj,d)])):=by
 obtain ⟨s0,p0,n0,c0,t0,y0,m0,d0,rfl⟩:=hv.form
 have sG:jZ (KU UU) 23 [g] [(Runner,[.val (.slice none 0 0),.val r,.val u])] w:=by
  refine ⟨rfl,by simp,fun j g' c' hj hc=> ?_,fun c' hc=> ?_,fun c' hc k hk=> ?_⟩
  ·match j,hj,hc with
   | 0,hj,hc=>cases hj;cases hc;exact hg
   | j + 1,hj,_=>simp at hj
  ·cases List.mem_singleton.1 hc
   exact ⟨rfl,FF rfl hr hu⟩
  ·cases List.mem_singleton.1 hc;cases hk
 refine fi Tryz.prog w _ (KU UU) (fun t=>Nat.beq t 22) table (fun _ _=>trivial) (ad:=[g]) (us:=[_,_]) Tryz.func74 rfl Tryz.ntmps74 (bB rfl) sG (bB rfl) ?_
 refine af ?_
 obtain ⟨sg,lB⟩:∃ sg,ea d 0=sg:=⟨_,rfl⟩
 refine VO.call rfl rfl (fk Tryz.func13) (fun bF cU bJ=>(eN _ d kk bF (hv.ki hs) aa sg lB).mono ?_)
 rintro e w1 ⟨rfl,aK⟩
 skip
 refine ⟨_,rfl,aK,fun dC _ bb1=>wV rfl ?_⟩
 refine af ?_
 by_cases hd:0 < d
 ·have mD:sg > 0:=by rw [<-lB];exact gm.2 hd
  refine VS.aP rfl (decide_eq_true mD) ?_
  refine af ?_
  refine VO.eK rfl (fk Tryz.func14) (fun fh β fE fG ho=>(BA _ [d] kk fh (cX (ho.own 16 (.base (List.mem_singleton.2 rfl)) _ _ rfl) [] (vs:=[[.bool s0,.slice p0 n0 c0,.bool t0,.slice y0 m0 d0]]) (by rfl) rfl (bq.cons (hv.ki hs aR) bq.nil) (bB rfl) bV) (by unfold jm fA;simp;omega)).mono ?_)
  rintro o w3 ⟨r3,rfl,q3,hs3,cG⟩
  have q3':aH w3 fh.heap.size r3 d:=by
   have e:nO [d]=d:=by show 0 + d=d;grind
   rw [e] at q3;exact q3
  obtain ⟨s3,p3,n3,c3,t3,y3,m3,d3,rfl⟩:=q3'.form
  refine ⟨_,rfl,cG,fun gT _ bb3=>wV rfl ?_⟩
  refine af ?_
  refine VO.app (bE _ _) (t:=85) (e:=dD) (sz:=5) (n:=0) (c:=0) (mm:=1) (known:=[]) (spare:=[]) (del:=none) (news:=([.int .i64 (lj:Int),.bool s3,.slice p3 n3 c3,.bool t3,.slice y3 m3 d3]:List Value).map .val) (dst:=20) rfl rfl rfl rfl rfl rfl rfl rfl (bB rfl) rfl (.inl ⟨rfl,rfl,rfl,rfl,rfl,rfl,by omega⟩) (.inl rfl) rfl rfl (Nat.le_refl _) aa ⟨rfl,rfl,rfl⟩ ⟨rfl,rfl,rfl⟩ rfl aa
   (fun w1 β k1 b1 ho=>⟨_,_,rfl,.inr ⟨β 19,0,rfl,de (rest:=[]) (ho.own 19 (.base (List.mem_append_right _ (List.mem_singleton.2 rfl))) _ _ rfl) rfl⟩⟩)
   (fun rB cap' aj ρ Ni Nj fF iI iQ ez pR eu=>wV rfl ?_)
  refine af ?_
  refine VS.mO (bE _ _) rfl (fun wz β kz oz en=> ?_)
  obtain ⟨o1,o2⟩:=fj (en.own 46 _ _ rfl) 0 g rfl rfl
  have o3:=en.own 20 _ _ rfl
  have o5:β 20≠g:=fun e=>absurd (en.apart 46 20 (by intro h;cases h) (by intro h;cases h) (o1.trans e.symm)) bV
  have o6:w.heap.size≤β 20:=by
   have:=fX (show dm 23 [g] w 20 (β 20) from o3.new)
   simpa [o5] using this
  have o7:=o3.cls
  rw [List.map_append,List.map_append,ag] at o7
  have hE:dz B wz [.int .i64 (lj:Int),.bool s3,.slice p3 n3 c3,.bool t3,.slice y3 m3 d3] (lj,d):=⟨s3,p3,n3,c3,t3,y3,m3,d3,rfl,(q3'.mono (Nat.le_trans hB fG.1.size)).kp aR⟩
  refine ⟨rfl,oz.1,.inr ⟨hd,β 20,cap',[[.int .i64 (lj:Int),.bool s3,.slice p3 n3 c3,.bool t3,.slice y3 m3 d3]],aj.map (AV.leaf β),o6,o2,?_,⟨rfl,.inl rfl,rfl,.cons hE .nil,dv pR,by omega,iQ,?_⟩⟩⟩
  ·exact o7
  ·have:=ez
   simp only [List.length_append,List.length_map,List.length_cons,List.length_nil,List.flatten_cons,List.flatten_nil,List.append_nil] at this ⊢
   omega
 ·have mD:¬ sg > 0:=by rw [<-lB];exact fun h=>hd (gm.1 h)
  refine VS.aQ rfl (decide_eq_false mD) ?_
  refine af ?_
  refine VS.mO (bE _ _) rfl (fun wz β kz oz en=> ?_)
  obtain ⟨o1,o2⟩:=fj (en.own 46 _ _ rfl) 0 g rfl rfl
  exact ⟨rfl,oz.1,.inl ⟨hd,o2⟩⟩
end
section
open Go.RowKit
section
variable {C:Cx} {F:Fr} {H:Hp} {w:World} {m:Option (List FuncId)} {full:Array Oper} {K:Fr->Hp->World->Prop} {o:Oper} {r:List Oper}
theorem VO.dT {i c:Nat} {x a y:AV} {p:Nat->Option Addr} (hP:C.P=Tryz.prog) (hx:∀ β:Nat->Nat,x.leaf β=.slice (p (β 0)) 0 c\/∃ q,x.leaf β=.slice q 0 c) (e:stepOf C full F H o=.call (.fn 75 [.box i 0])) (hf:pA C.P 75) (h1:H i=some (Runner,[x,a,y]))
  (k:∀ w2,bt C.K w w2->C.Old w2->aB C m full r K (F.bu o.dst (.val (.pointer none))) H w2):aB C m full (o::r) K F H w:=by
 refine VO.eK e hf fun w1 β a1 a2 a3=> ?_
 have o1:=a3.own i (.base (by simp [gI,AV.ids])) _ _ h1
 obtain ⟨q,hq⟩:∃ q,x.leaf β=.slice q 0 c:=by
  rcases hx β with e | e
  ·exact ⟨_,e⟩
  ·exact e
 have hc:aZ w1 (β i) Runner #[.slice q 0 c,a.leaf β,y.leaf β]:=by have:=o1.cls;rw [List.map_cons,hq] at this;exact this
 refine Calls.mono (show Calls C.P _ #[.pointer (some ⟨β i,0,none⟩)] w1 _ from hP▸xV (β i) c q _ _ w1 hc) ?_
 rintro e w2 ⟨rfl,hb⟩
 exact ⟨_,rfl,hb,fun b1 b2 b3=>k w2 b1 b3⟩
theorem VO.dA {i v off n c:Nat} {a y:AV} (hP:C.P=Tryz.prog) (e:stepOf C full F H o=.call (.fn 75 [.box i 0])) (hf:pA C.P 75) (h1:H i=some (Runner,[.row v off n c,a,y])) (hn:n≠0) (hv:H v≠none)
  (k:∀ w2,bt C.K w w2->C.Old w2->aB C m full r K (F.bu o.dst (.mL v off)) H w2):aB C m full (o::r) K F H w:=by
 show one C m full o (aB C m full r K) F H w
 unfold one
 rw [e]
 intro w1 β a1 a2 a3
 have jE:Reach H (fq.fn 75 [.box i 0]).ids i:=.base (by simp [fq.ids,gI,AV.ids])
 have o1:=a3.own i jE _ _ h1
 refine ⟨hf,Calls.mono (show Calls C.P _ #[.pointer (some ⟨β i,0,none⟩)] w1 _ from hP▸Jy (β i) (β v) off n c _ _ w1 hn o1.cls) ?_⟩
 rintro e w2 ⟨rfl,hb⟩
 exact ⟨β,.mL v off,none,[],rfl,fun j hj=>.inr ⟨.step jE h1 (by have:j=v:=by simpa [AV.ids] using hj
                                                                rw [this];simp [ax,AV.cQ]),by have:j=v:=by simpa [AV.ids] using hj
                                                                                              rw [this];exact hv,by simp⟩,.inr rfl,.inr rfl,AX.none hb,fun a b c _ _=>k w2 a c⟩
theorem VO.jQ {i v off n c:Nat} {a y:AV} (hP:C.P=Tryz.prog) (e:stepOf C full F H o=.call (.fn 76 [.box i 0])) (hf:pA C.P 76) (h1:H i=some (Runner,[.row v off n c,a,y])) (hn:1≤n) (fM:n≤c) (gg:c≤9223372036854775807) (hv:∀ j∈ax [.row v off n c,a,y],H j≠none) (hl:1≤lvl C.SU m o)
  (k:∀ w2,bt C.K w w2->C.Old w2->aB C m full r K (F.bu o.dst (.val (iX []))) (H.put i (Runner,[.row v (if c=1 then off else off + 5) (n - 1) (c - 1),a,y])) w2):aB C m full (o::r) K F H w:=by
 show one C m full o (aB C m full r K) F H w
 unfold one
 rw [e]
 intro w1 β a1 a2 a3
 have jE:Reach H (fq.fn 76 [.box i 0]).ids i:=.base (by simp [fq.ids,gI,AV.ids])
 have o1:=a3.own i jE _ _ h1
 have fD:=List.all_eq_true.1 o1.ok
 have nM:=dv (β:=β) o1.ok
 refine ⟨hf,Calls.mono (show Calls C.P _ #[.pointer (some ⟨β i,0,none⟩)] w1 _ from hP▸Pm (β i) (β v) off n c (a.leaf β) (y.leaf β) w1 o1.cls (List.all_eq_true.1 nM _ cA) (List.all_eq_true.1 nM _ cA) hn fM gg) ?_⟩
 rintro e w2 ⟨rfl,hb,hc⟩
 refine ⟨β,.val (iX []),none,[(i,(Runner,[.row v (if c=1 then off else off + 5) (n - 1) (c - 1),a,y]))],rfl,fun i hi=>(by cases hi),.inl hl,.inr rfl,?_,fun a b c _ _=>k w2 a c⟩
 refine ⟨hb.os,hb.tape,hb.output,hb.size,fun k hk hx _ _=>hb.ln k hk (by simpa using hx),fun _ _=>rfl,fun i hi=>(by cases hi),fun i hi=>(by cases hi),fun x hx=> ?_,fun x hx=> ?_,by simp,fun x hx y hy _=> ?_,fun x hx j hj=> ?_⟩
 ·cases List.mem_singleton.1 hx
  refine ⟨o1.new,o1.ty,hc,?_⟩
  rw [List.all_cons,List.all_cons,fD a cA,List.all_cons,fD y cA];rfl
 ·cases List.mem_singleton.1 hx
  exact .inl ⟨by rw [h1];simp,by simp,jE,rfl⟩
 ·cases List.mem_singleton.1 hx;cases List.mem_singleton.1 hy;rfl
 ·cases List.mem_singleton.1 hx
  exact .inr ⟨hv j (by simpa [ax,AV.cQ] using hj),by simp⟩
theorem nj {β bW:Nat->Nat} {cs:List AV} {a:AV} (ha:a∈cs) (h:∀ i∈ax cs,bW i=β i):a.leaf bW=a.leaf β:=
 AV.pw fun i hi=>h i (aX.2 ⟨a,ha,hi⟩)
theorem VO.BM {B i v d2 off n c lj:Nat} {a y:AV} {pre spare:List Value} {vs:List (List Value)} {q:List Vq} {val:Value} {d:Rat} (kk:Nat) (hP:C.P=Tryz.prog) (hK:C.K=KU UU)
  (e:stepOf C full F H o=.call (.fn 74 [.box i 0,.val (.int .i64 (lj:Int)),.val val])) (hf:pA C.P 74) (h1:H i=some (Runner,[.row v off n c,a,y])) (h2:H v=some (dD,(pre++(vs.flatten++spare)).map .val)) (h3:H d2=none) (hd2:d2 < 2 * C.N) (hiv:i≠v)
  (iM:∀ j∈ax [a,y],H j≠none/\j≠v) (hl:lvl C.SU m o=2) (hO:∀ w1,bt C.K w w1->C.Old w1->dL (dz B) 5 w1 n off c pre vs spare q) (hv:∀ w1,bt C.K w w1->C.Old w1->bI w1 val d) (hs:eM d kk) (hk:kk≤100000) (hn:n≤1000) (hB:B≤C.w0.heap.size)
  (k:∀ w2 aV n' c' cf iZ aj ρ,bt C.K w w2->C.Old w2->dL (dz B) 5 w2 n' aV c' cf iZ aj (mP lj d q)->
   aB C m full r K ((F.forget (some v) ρ).bu o.dst (.val (iX []))) (((H.forget (some v) ρ).put i (Runner,[.row d2 aV n' c',a,y])).put d2 (dD,(cf++(iZ.flatten++aj)).map .val)) w2):aB C m full (o::r) K F H w:=by
 show one C m full o (aB C m full r K) F H w
 unfold one
 rw [e]
 intro w1 β a1 a2 a3
 have jE:Reach H (fq.fn 74 [.box i 0,.val (.int .i64 (lj:Int)),.val val]).ids i:=.base (by simp [fq.ids,gI,AV.ids])
 have jW:Reach H (fq.fn 74 [.box i 0,.val (.int .i64 (lj:Int)),.val val]).ids v:=.step jE h1 (by simp [ax,AV.cQ])
 have o1:=a3.own i jE _ _ h1
 have o2:=a3.own v jW _ _ h2
 have fD:=List.all_eq_true.1 o1.ok
 have nM:=dv (β:=β) o1.ok
 have iQ:aZ w1 (β v) dD (pre++(vs.flatten++spare)).toArray:=by have:=o2.cls;rw [ag] at this;exact this
 refine ⟨hf,Calls.mono (show Calls C.P _ #[.pointer (some ⟨β i,0,none⟩),.int .i64 (lj:Int),val] w1 _ from hP▸SB B (β i) (β v) off n c lj pre vs spare q (a.leaf β) (y.leaf β) val d kk w1 o1.cls iQ (hO w1 a1 a2) (List.all_eq_true.1 nM _ cA) (List.all_eq_true.1 nM _ cA) (hv w1 a1 a2) hs hk hn (Nat.le_trans hB (C.fe _ a2))) ?_⟩
 rintro e w2 ⟨rfl,hb,⟨tl,cl,l1,l2,l3⟩,b',aV,n',c',cf,iZ,aj,Ct,Qm,hc',jn⟩
 have hne:∀ j,H j≠none->j≠d2:=fun j hj e=>hj (e▸h3)
 have hid:i≠d2:=hne i (by rw [h1];simp)
 have Nk:v≠d2:=hne v (by rw [h2];simp)
 let bW:Nat->Nat:=fun j=>if j=d2 then b' else β j
 have e2:bW d2=b':=if_pos rfl
 have e1:∀ j,j≠d2->bW j=β j:=fun j hj=>if_neg hj
 have hag:∀ j∈ax [a,y],bW j=β j:=fun j hj=>e1 j (hne j (iM j hj).1)
 have hokv:((cf++(iZ.flatten++aj)).map AV.val).all aG=true:=bg (jn.all (aO B))
 refine ⟨bW,.val (iX []),some v,[(i,(Runner,[.row d2 aV n' c',a,y])),(d2,(dD,(cf++(iZ.flatten++aj)).map .val))],rfl,fun i hi=>(by cases hi),.inl aa,.inl aa,?_,fun p1 _ p3 ρ _=>k w2 aV n' c' cf iZ aj ρ p1 p3 jn⟩
 refine ⟨hb.os,hb.tape,hb.output,hb.size,fun k hk hx jU _=>hb.ln k hk ?_,fun j hj=>e1 j (fun h=>hj (by simp [h])),fun j hj=> ?_,fun j hj=> ?_,fun x hx=> ?_,fun x hx=> ?_,by simpa using hid,fun x hx z hz he=> ?_,fun x hx j hj=> ?_⟩
 ·have g1:=hx (i,(Runner,[.row d2 aV n' c',a,y])) cA
  have g2:=jU v rfl
  rw [e1 i hid] at g1
  simpa using ⟨g1,g2⟩
 ·cases hj
  exact ⟨jW,by rw [h2];simp⟩
 ·cases hj
  exact .inl (.inr ⟨tl,cl,l1,by rw [hK];exact l2,l3⟩)
 ·rcases List.mem_cons.1 hx with rfl | hx
  ·refine ⟨by rw [e1 i hid];exact o1.new,o1.ty,?_,?_⟩
   ·rw [e1 i hid]
    show aZ w2 (β i) Runner #[.slice (some ⟨bW d2,aV,none⟩) n' c',a.leaf bW,y.leaf bW]
    rw [e2,nj (cs:=[a,y]) cA hag,nj (cs:=[a,y]) cA hag]
    exact Qm
   ·rw [List.all_cons,List.all_cons,fD a cA,List.all_cons,fD y cA];rfl
  ·cases List.mem_singleton.1 hx
   refine ⟨?_,o2.ty,?_,hokv⟩
   ·rw [e2]
    rcases Ct with h | h
    ·exact C.sQ _ _ aa (by have:=C.fe _ a2;omega)
    ·rw [h];exact C.Dx v d2 _ o2.new aa
   ·rw [e2,ag];exact hc'
 ·rcases List.mem_cons.1 hx with rfl | hx
  ·exact .inl ⟨by rw [h1];simp,by simpa using fun h=>hiv h.symm,jE,e1 i hid⟩
  ·cases List.mem_singleton.1 hx
   refine .inr ⟨.inl h3,hd2,?_⟩
   rw [e2]
   exact Ct.imp id fun h=>⟨v,rfl,h⟩
 ·have gJ:∀ (x:Nat×(TypeId×List AV)),x∈[(i,(Runner,[.row d2 aV n' c',a,y])),(d2,(dD,(cf++(iZ.flatten++aj)).map AV.val))]->(x.1=i/\bW x.1=β i)\/(x.1=d2/\bW x.1=b'):=fun x hx=>by
   rcases List.mem_cons.1 hx with rfl | hx
   ·exact .inl ⟨rfl,e1 i hid⟩
   ·cases List.mem_singleton.1 hx;exact .inr ⟨rfl,e2⟩
  have hno:β i≠b':=fun h=>absurd (bM Qm (h▸hc')) bV
  rcases gJ x hx with ⟨g1,g2⟩ | ⟨g1,g2⟩ <;> rcases gJ z hz with ⟨g3,g4⟩ | ⟨g3,g4⟩
  ·rw [g1,g3]
  ·exact absurd (g2.symm.trans (he.trans g4)) hno
  ·exact absurd (g4.symm.trans (he.symm.trans g2)) hno
  ·rw [g1,g3]
 ·rcases List.mem_cons.1 hx with rfl | hx
  ·have hj':j=d2\/j∈ax [a,y]:=by
    obtain ⟨z,hz,hj2⟩:=aX.1 hj
    rcases List.mem_cons.1 hz with rfl | hz
    ·exact .inl (by simpa [AV.cQ] using hj2)
    ·exact .inr (aX.2 ⟨z,hz,hj2⟩)
   rcases hj' with h | h
   ·exact .inl (by simp [h])
   ·exact .inr ⟨(iM j h).1,by simpa using fun h'=>(iM j h).2 h'.symm⟩
  ·cases List.mem_singleton.1 hx
   rw [ai] at hj;cases hj
theorem VO.Jz {B i d2 lj:Nat} {a y:AV} {val:Value} {d:Rat} (kk:Nat) (hP:C.P=Tryz.prog) (hK:C.K=KU UU)
  (e:stepOf C full F H o=.call (.fn 74 [.box i 0,.val (.int .i64 (lj:Int)),.val val])) (hf:pA C.P 74) (h1:H i=some (Runner,[.val (.slice none 0 0),a,y])) (h3:H d2=none) (hd2:d2 < 2 * C.N)
  (iM:∀ j∈ax [a,y],H j≠none) (hl:1≤lvl C.SU m o) (hv:∀ w1,bt C.K w w1->C.Old w1->bI w1 val d) (hs:eM d kk) (hk:kk≤100000) (hB:B≤C.w0.heap.size)
  (k1:∀ w2,bt C.K w w2->C.Old w2->¬ 0 < d->aB C m full r K (F.bu o.dst (.val (iX []))) (H.put i (Runner,[.val (.slice none 0 0),a,y])) w2)
  (k2:∀ w2 c' iZ aj,bt C.K w w2->C.Old w2->0 < d->dL (dz B) 5 w2 1 0 c' [] iZ aj [(lj,d)]->
   aB C m full r K (F.bu o.dst (.val (iX []))) ((H.put i (Runner,[.row d2 0 1 c',a,y])).put d2 (dD,(([]++(iZ.flatten++aj):List Value)).map AV.val)) w2):aB C m full (o::r) K F H w:=by
 show one C m full o (aB C m full r K) F H w
 unfold one
 rw [e]
 intro w1 β a1 a2 a3
 have jE:Reach H (fq.fn 74 [.box i 0,.val (.int .i64 (lj:Int)),.val val]).ids i:=.base (by simp [fq.ids,gI,AV.ids])
 have o1:=a3.own i jE _ _ h1
 have fD:=List.all_eq_true.1 o1.ok
 have nM:=dv (β:=β) o1.ok
 refine ⟨hf,Calls.mono (show Calls C.P _ #[.pointer (some ⟨β i,0,none⟩),.int .i64 (lj:Int),val] w1 _ from hP▸SC B (β i) lj (a.leaf β) (y.leaf β) val d kk w1 o1.cls (List.all_eq_true.1 nM _ cA) (List.all_eq_true.1 nM _ cA) (hv w1 a1 a2) hs hk (Nat.le_trans hB (C.fe _ a2))) ?_⟩
 rintro e w2 ⟨rfl,hb,⟨hd,Qm⟩ | ⟨hd,b',c',iZ,aj,Ct,Qm,hc',jn⟩⟩
 ·refine ⟨β,.val (iX []),none,[(i,(Runner,[.val (.slice none 0 0),a,y]))],rfl,fun i hi=>(by cases hi),.inl hl,.inr rfl,?_,fun p1 _ p3 _ _=>k1 w2 p1 p3 hd⟩
  refine ⟨hb.os,hb.tape,hb.output,hb.size,fun k hk hx _ _=>hb.ln k hk (by simpa using hx),fun _ _=>rfl,fun i hi=>(by cases hi),fun i hi=>(by cases hi),fun x hx=> ?_,fun x hx=> ?_,by simp,fun x hx y hy _=> ?_,fun x hx j hj=> ?_⟩
  ·cases List.mem_singleton.1 hx
   exact ⟨o1.new,o1.ty,Qm,o1.ok⟩
  ·cases List.mem_singleton.1 hx
   exact .inl ⟨by rw [h1];simp,by simp,jE,rfl⟩
  ·cases List.mem_singleton.1 hx;cases List.mem_singleton.1 hy;rfl
  ·cases List.mem_singleton.1 hx
   exact .inr ⟨iM j (by simpa [ax,AV.cQ] using hj),by simp⟩
 ·have hne:∀ j,H j≠none->j≠d2:=fun j hj e=>hj (e▸h3)
  have hid:i≠d2:=hne i (by rw [h1];simp)
  let bW:Nat->Nat:=fun j=>if j=d2 then b' else β j
  have e2:bW d2=b':=if_pos rfl
  have e1:∀ j,j≠d2->bW j=β j:=fun j hj=>if_neg hj
  have hag:∀ j∈ax [a,y],bW j=β j:=fun j hj=>e1 j (hne j (iM j hj))
  have hokv:(([]++(iZ.flatten++aj)).map AV.val).all aG=true:=bg (jn.all (aO B))
  refine ⟨bW,.val (iX []),none,[(i,(Runner,[.row d2 0 1 c',a,y])),(d2,(dD,(([]++(iZ.flatten++aj):List Value)).map AV.val))],rfl,fun i hi=>(by cases hi),.inl hl,.inr rfl,?_,fun p1 _ p3 _ _=>k2 w2 c' iZ aj p1 p3 hd jn⟩
  refine ⟨hb.os,hb.tape,hb.output,hb.size,fun k hk hx _ _=>hb.ln k hk ?_,fun j hj=>e1 j (fun h=>hj (by simp [h])),fun i hi=>(by cases hi),fun i hi=>(by cases hi),fun x hx=> ?_,fun x hx=> ?_,by simpa using hid,fun x hx z hz he=> ?_,fun x hx j hj=> ?_⟩
  ·have g1:=hx (i,(Runner,[.row d2 0 1 c',a,y])) cA
   rw [e1 i hid] at g1
   simpa using g1
  ·rcases List.mem_cons.1 hx with rfl | hx
   ·refine ⟨by rw [e1 i hid];exact o1.new,o1.ty,?_,?_⟩
    ·rw [e1 i hid]
     show aZ w2 (β i) Runner #[.slice (some ⟨bW d2,0,none⟩) 1 c',a.leaf bW,y.leaf bW]
     rw [e2,nj (cs:=[a,y]) cA hag,nj (cs:=[a,y]) cA hag]
     exact Qm
    ·rw [List.all_cons,List.all_cons,fD a cA,List.all_cons,fD y cA];rfl
   ·cases List.mem_singleton.1 hx
    refine ⟨by rw [e2];exact C.sQ _ _ aa (by have:=C.fe _ a2;omega),by rw [hK];rfl,?_,hokv⟩
    rw [e2,ag];exact hc'
  ·rcases List.mem_cons.1 hx with rfl | hx
   ·exact .inl ⟨by rw [h1];simp,by simp,jE,e1 i hid⟩
   ·cases List.mem_singleton.1 hx
    refine .inr ⟨.inl h3,hd2,.inl ?_⟩
    rw [e2];exact Ct
  ·have gJ:∀ (x:Nat×(TypeId×List AV)),x∈[(i,(Runner,[.row d2 0 1 c',a,y])),(d2,(dD,([]++(iZ.flatten++aj)).map AV.val))]->(x.1=i/\bW x.1=β i)\/(x.1=d2/\bW x.1=b'):=fun x hx=>by
    rcases List.mem_cons.1 hx with rfl | hx
    ·exact .inl ⟨rfl,e1 i hid⟩
    ·cases List.mem_singleton.1 hx;exact .inr ⟨rfl,e2⟩
   have hno:β i≠b':=fun h=>absurd (bM Qm (h▸hc')) bV
   rcases gJ x hx with ⟨g1,g2⟩ | ⟨g1,g2⟩ <;> rcases gJ z hz with ⟨g3,g4⟩ | ⟨g3,g4⟩
   ·rw [g1,g3]
   ·exact absurd (g2.symm.trans (he.trans g4)) hno
   ·exact absurd (g4.symm.trans (he.symm.trans g2)) hno
   ·rw [g1,g3]
  ·rcases List.mem_cons.1 hx with rfl | hx
   ·have hj':j=d2\/j∈ax [a,y]:=by
     obtain ⟨z,hz,hj2⟩:=aX.1 hj
     rcases List.mem_cons.1 hz with rfl | hz
     ·exact .inl (by simpa [AV.cQ] using hj2)
     ·exact .inr (aX.2 ⟨z,hz,hj2⟩)
    rcases hj' with h | h
    ·exact .inl (by simp [h])
    ·exact .inr ⟨iM j h,by simp⟩
   ·cases List.mem_singleton.1 hx
    rw [ai] at hj;cases hj
end
end
end Go.Proofs.YtabalinjfgcfeaaGreat
