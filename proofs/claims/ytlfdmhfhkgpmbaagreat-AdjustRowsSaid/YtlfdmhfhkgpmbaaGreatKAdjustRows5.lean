/-AP of the proof,laid behind one another. -/
import Derived.Test.YtlfdmhfhkgpmbaaGreatKAdjustRows4
set_option linter.all false
set_option maxHeartbeats 64000000
set_option maxRecDepth 4000
namespace Go.Proofs.YtlfdmhfhkgpmbaaGreat
section
open Go.RowKit
attribute [local irreducible] ao VS
theorem fM (w:World):Calls Tryz.prog 50 #[] w λe w'=>∃ r,e=.returned r/\aE w' w.heap.size r 0/\aw w w':=by
 refine ae (C:=aM Tryz.prog w _) (args:=[]) Tryz.func50 rfl Tryz.ntmps50 (bl rfl) ?_
 refine aa ?_
 refine VO.cR rfl rfl (fk Tryz.func11) (λaC aY aH=>cZ 0 aC ab ab) (λaC aY aH w1 s1 p1 n1 c1 t1 y1 m1 d1 q1 aD bQ _ bb1=>wV rfl ?_)
 refine aa ?_
 refine au ?_;intro wz kz bz
 exact⟨_,rfl,((q1.kp kz).mono aH.size).cast rfl,bz⟩
theorem yP (w:World):Calls Tryz.prog 47 #[] w λe w'=>∃ r,e=.returned r/\dS w' r Pt.zero/\aw w w':=by
 refine ae (C:=aM Tryz.prog w _) (args:=[]) Tryz.func47 rfl Tryz.ntmps47 (bl rfl) ?_
 refine aa ?_
 refine VO.cR rfl rfl (fk Tryz.func50) (λaC aY aH=>fM aC) (λaC aY aH w1 s1 p1 n1 c1 t1 y1 m1 d1 q1 aD bQ _ bb1=>wV rfl ?_)
 refine aa ?_
 refine VO.cR rfl rfl (fk Tryz.func50) (λaN bD bf=>fM aN) (λaN bD bf w2 s2 p2 n2 c2 t2 y2 m2 d2 q2 aQ cL _ bb2=>wV rfl ?_)
 refine aa ?_
 refine VO.cR rfl rfl (fk Tryz.func50) (λcu cM cX=>fM cu) (λcu cM cX w3 s3 p3 n3 c3 t3 y3 m3 d3 q3 ck dR _ bb3=>wV rfl ?_)
 refine aa ?_
 refine VO.cR rfl rfl (fk Tryz.func50) (λdJ eu eO=>fM dJ) (λdJ eu eO w4 s4 p4 n4 c4 t4 y4 m4 d4 q4 fe ir _ nu=>wV rfl ?_)
 refine aa ?_
 refine au ?_;intro wz kz bz
 exact⟨_,rfl,dS.mk (q1.kp bg).rd (q2.kp bg).rd (q3.kp bg).rd (q4.kp bg).rd,bz⟩
theorem iH (v u:Value) (T A:Rat) (w:World) (hv:aG w v T) (hu:aG w u A):
  Calls Tryz.prog 104 #[v,u] w λe w'=>∃ r,e=.returned r/\dS w' r ⟨T,A,0,0⟩/\aw w w':=by
 obtain⟨s8,p8,n8,c8,t8,y8,m8,d8,rfl⟩:=hv.form
 obtain⟨s9,p9,n9,c9,t9,y9,m9,d9,rfl⟩:=hu.form
 refine ae (C:=aM Tryz.prog w _) (args:=[_,_]) Tryz.func104 rfl Tryz.ntmps104 (bl rfl) ?_
 refine aa ?_
 refine VO.call rfl rfl (fk Tryz.func47) (λaC aY aH=>(yP aC).mono ?_)
 rintro e w1 ⟨r1,rfl,q1,aD⟩
 obtain⟨s1a,p1a,n1a,c1a,t1a,y1a,m1a,d1a,s1b,p1b,n1b,c1b,t1b,y1b,m1b,d1b,s1c,p1c,n1c,c1c,t1c,y1c,m1c,d1c,s1d,p1d,n1d,c1d,t1d,y1d,m1d,d1d,rfl,q1A,q1B,q1C,q1D⟩:=q1
 refine⟨_,rfl,aD,λbQ _ bb1=>wV rfl ?_⟩
 (repeat (first|refine wN ?_|refine wP rfl ?_|refine IE rfl ?_|refine wO rfl rfl ?_))
 refine VS.vC (cH _ _) (nX _ _) 6 rfl ?_
 (repeat' (first|refine VA.go rfl ?_|refine VA.fin rfl ?_|refine VA.dY _ rfl rfl ?_|refine VA.cons rfl ?_ ?_|exact VA.nil rfl))
 all_goals
  refine aa ?_
  refine au ?_;intro wz kz bz
  exact⟨_,rfl,dS.mk (hv.kp (Kp.of (U:=UU) bz)) (hu.kp (Kp.of (U:=UU) bz)) (q1C.kp bg) (q1D.kp bg),bz⟩
theorem tH (v u:Value) (T A:Rat) (j:Nat) (w:World) (hv:aG w v T) (hu:aG w u A) (hs:bW T j) (ha:bW A j) (hj:j<=1000000):
  Calls Tryz.prog 100 #[v,u] w λe w'=>∃ r,e=.returned r/\dS w' r ⟨T,T,0,0⟩/\aw w w':=by
 obtain⟨s8,p8,n8,c8,t8,y8,m8,d8,rfl⟩:=hv.form
 obtain⟨s9,p9,n9,c9,t9,y9,m9,d9,rfl⟩:=hu.form
 have hT:ax w (.agg #[.bool s8,.slice p8 n8 c8,.bool t8,.slice y8 m8 d8]) T j:=hv.to hs
 have hA:ax w (.agg #[.bool s9,.slice p9 n9 c9,.bool t9,.slice y9 m9 d9]) A j:=hu.to ha
 refine ae (C:=aM Tryz.prog w _) (args:=[_,_]) Tryz.func100 rfl Tryz.ntmps100 (bl rfl) ?_
 refine aa ?_
 refine VO.call rfl rfl (fk Tryz.func104) (λaC aY aH=>(iH _ _ _ _ aC (hv.kp (Kp.of (U:=UU) aH)) (hv.kp (Kp.of (U:=UU) aH))).mono ?_)
 rintro e w1 ⟨r1,rfl,q1,aD⟩
 obtain⟨s1a,p1a,n1a,c1a,t1a,y1a,m1a,d1a,s1b,p1b,n1b,c1b,t1b,y1b,m1b,d1b,s1c,p1c,n1c,c1c,t1c,y1c,m1c,d1c,s1d,p1d,n1d,c1d,t1d,y1d,m1d,d1d,rfl,q1A,q1B,q1C,q1D⟩:=q1
 refine aF aD ?_
 intro bQ _ bb1
 refine au ?_;intro wz kz bz
 exact⟨_,rfl,dS.mk (q1A.kp bg) (q1B.kp bg) (q1C.kp bg) (q1D.kp bg),bz⟩
theorem wy (v u:Value) (T A:Rat) (j:Nat) (w:World) (hv:aG w v T) (hu:aG w u A) (hs:bW T j) (ha:bW A j) (hj:j<=1000000):
  Calls Tryz.prog 101 #[v,u] w λe w'=>∃ r,e=.returned r/\dS w' r ⟨-T,-T,0,0⟩/\aw w w':=by
 obtain⟨s8,p8,n8,c8,t8,y8,m8,d8,rfl⟩:=hv.form
 obtain⟨s9,p9,n9,c9,t9,y9,m9,d9,rfl⟩:=hu.form
 have hT:ax w (.agg #[.bool s8,.slice p8 n8 c8,.bool t8,.slice y8 m8 d8]) T j:=hv.to hs
 have hA:ax w (.agg #[.bool s9,.slice p9 n9 c9,.bool t9,.slice y9 m9 d9]) A j:=hu.to ha
 refine ae (C:=aM Tryz.prog w _) (args:=[_,_]) Tryz.func101 rfl Tryz.ntmps101 (bl rfl) ?_
 refine aa ?_
 refine VO.cR rfl rfl (fk Tryz.func46) (λaC aY aH=>eP _ _ _ aC (hT.kp (Kp.of (U:=UU) aH)) ab) (λaC aY aH w1 s1 p1 n1 c1 t1 y1 m1 d1 q1 aD bQ _ bb1=>wV rfl ?_)
 refine aa ?_
 refine VO.cR rfl rfl (fk Tryz.func46) (λaN bD bf=>eP _ _ _ aN (hT.kp (Kp.of (U:=UU) bf)) ab) (λaN bD bf w2 s2 p2 n2 c2 t2 y2 m2 d2 q2 aQ cL _ bb2=>wV rfl ?_)
 refine aa ?_
 refine VO.call rfl rfl (fk Tryz.func104) (λcu cM cX=>(iH _ _ _ _ cu ((q1.kp bg).rd) ((q2.kp bg).rd)).mono ?_)
 rintro e w3 ⟨r3,rfl,q3,ck⟩
 obtain⟨s3a,p3a,n3a,c3a,t3a,y3a,m3a,d3a,s3b,p3b,n3b,c3b,t3b,y3b,m3b,d3b,s3c,p3c,n3c,c3c,t3c,y3c,m3c,d3c,s3d,p3d,n3d,c3d,t3d,y3d,m3d,d3d,rfl,q3A,q3B,q3C,q3D⟩:=q3
 refine aF ck ?_
 intro dR _ bb3
 refine au ?_;intro wz kz bz
 exact⟨_,rfl,dS.mk (q3A.kp bg) (q3B.kp bg) (q3C.kp bg) (q3D.kp bg),bz⟩
theorem oi (v u:Value) (T A:Rat) (j:Nat) (w:World) (hv:aG w v T) (hu:aG w u A) (hs:bW T j) (ha:bW A j) (hj:j<=1000000):
  Calls Tryz.prog 102 #[v,u] w λe w'=>∃ r,e=.returned r/\dS w' r ⟨-T,0,0,0⟩/\aw w w':=by
 obtain⟨s8,p8,n8,c8,t8,y8,m8,d8,rfl⟩:=hv.form
 obtain⟨s9,p9,n9,c9,t9,y9,m9,d9,rfl⟩:=hu.form
 have hT:ax w (.agg #[.bool s8,.slice p8 n8 c8,.bool t8,.slice y8 m8 d8]) T j:=hv.to hs
 have hA:ax w (.agg #[.bool s9,.slice p9 n9 c9,.bool t9,.slice y9 m9 d9]) A j:=hu.to ha
 refine ae (C:=aM Tryz.prog w _) (args:=[_,_]) Tryz.func102 rfl Tryz.ntmps102 (bl rfl) ?_
 refine aa ?_
 refine VO.cR rfl rfl (fk Tryz.func46) (λaC aY aH=>eP _ _ _ aC (hT.kp (Kp.of (U:=UU) aH)) ab) (λaC aY aH w1 s1 p1 n1 c1 t1 y1 m1 d1 q1 aD bQ _ bb1=>wV rfl ?_)
 refine aa ?_
 refine VO.cR rfl rfl (fk Tryz.func50) (λaN bD bf=>fM aN) (λaN bD bf w2 s2 p2 n2 c2 t2 y2 m2 d2 q2 aQ cL _ bb2=>wV rfl ?_)
 refine aa ?_
 refine VO.call rfl rfl (fk Tryz.func104) (λcu cM cX=>(iH _ _ _ _ cu ((q1.kp bg).rd) ((q2.kp bg).rd)).mono ?_)
 rintro e w3 ⟨r3,rfl,q3,ck⟩
 obtain⟨s3a,p3a,n3a,c3a,t3a,y3a,m3a,d3a,s3b,p3b,n3b,c3b,t3b,y3b,m3b,d3b,s3c,p3c,n3c,c3c,t3c,y3c,m3c,d3c,s3d,p3d,n3d,c3d,t3d,y3d,m3d,d3d,rfl,q3A,q3B,q3C,q3D⟩:=q3
 refine aF ck ?_
 intro dR _ bb3
 refine au ?_;intro wz kz bz
 exact⟨_,rfl,dS.mk (q3A.kp bg) (q3B.kp bg) (q3C.kp bg) (q3D.kp bg),bz⟩
theorem CY (v u:Value) (T A:Rat) (j:Nat) (w:World) (hv:aG w v T) (hu:aG w u A) (hs:bW T j) (ha:bW A j) (hj:j<=1000000):
  Calls Tryz.prog 103 #[v,u] w λe w'=>∃ r,e=.returned r/\dS w' r ⟨T,0,0,0⟩/\aw w w':=by
 obtain⟨s8,p8,n8,c8,t8,y8,m8,d8,rfl⟩:=hv.form
 obtain⟨s9,p9,n9,c9,t9,y9,m9,d9,rfl⟩:=hu.form
 have hT:ax w (.agg #[.bool s8,.slice p8 n8 c8,.bool t8,.slice y8 m8 d8]) T j:=hv.to hs
 have hA:ax w (.agg #[.bool s9,.slice p9 n9 c9,.bool t9,.slice y9 m9 d9]) A j:=hu.to ha
 refine ae (C:=aM Tryz.prog w _) (args:=[_,_]) Tryz.func103 rfl Tryz.ntmps103 (bl rfl) ?_
 refine aa ?_
 refine VO.cR rfl rfl (fk Tryz.func50) (λaC aY aH=>fM aC) (λaC aY aH w1 s1 p1 n1 c1 t1 y1 m1 d1 q1 aD bQ _ bb1=>wV rfl ?_)
 refine aa ?_
 refine VO.call rfl rfl (fk Tryz.func104) (λaN bD bf=>(iH _ _ _ _ aN (hv.kp (Kp.of (U:=UU) bf)) ((q1.kp bg).rd)).mono ?_)
 rintro e w2 ⟨r2,rfl,q2,aQ⟩
 obtain⟨s2a,p2a,n2a,c2a,t2a,y2a,m2a,d2a,s2b,p2b,n2b,c2b,t2b,y2b,m2b,d2b,s2c,p2c,n2c,c2c,t2c,y2c,m2c,d2c,s2d,p2d,n2d,c2d,t2d,y2d,m2d,d2d,rfl,q2A,q2B,q2C,q2D⟩:=q2
 refine aF aQ ?_
 intro cL _ bb2
 refine au ?_;intro wz kz bz
 exact⟨_,rfl,dS.mk (q2A.kp bg) (q2B.kp bg) (q2C.kp bg) (q2D.kp bg),bz⟩
theorem CZ (v u:Value) (T A:Rat) (j:Nat) (w:World) (hv:aG w v T) (hu:aG w u A) (hs:bW T j) (ha:bW A j) (hj:j<=1000000):
  Calls Tryz.prog 105 #[v,u] w λe w'=>∃ r,e=.returned r/\dS w' r ⟨-T,-(T*(1-A)),0,0⟩/\aw w w':=by
 obtain⟨s8,p8,n8,c8,t8,y8,m8,d8,rfl⟩:=hv.form
 obtain⟨s9,p9,n9,c9,t9,y9,m9,d9,rfl⟩:=hu.form
 have hT:ax w (.agg #[.bool s8,.slice p8 n8 c8,.bool t8,.slice y8 m8 d8]) T j:=hv.to hs
 have hA:ax w (.agg #[.bool s9,.slice p9 n9 c9,.bool t9,.slice y9 m9 d9]) A j:=hu.to ha
 refine ae (C:=aM Tryz.prog w _) (args:=[_,_]) Tryz.func105 rfl Tryz.ntmps105 (bl rfl) ?_
 refine aa ?_
 refine VO.cR rfl rfl (fk Tryz.func46) (λaC aY aH=>eP _ _ _ aC (hT.kp (Kp.of (U:=UU) aH)) ab) (λaC aY aH w1 s1 p1 n1 c1 t1 y1 m1 d1 q1 aD bQ _ bb1=>wV rfl ?_)
 refine aa ?_
 refine VO.cR rfl rfl (fk Tryz.func11) (λaN bD bf=>cZ 1 aN ab ab) (λaN bD bf w2 s2 p2 n2 c2 t2 y2 m2 d2 q2 aQ cL _ bb2=>wV rfl ?_)
 refine aa ?_
 have z2:bW ((1:Int):Rat) 1:=bW.one
 refine VO.cR rfl rfl (fk Tryz.func14) (λcu cM cX=>ql _ _ _ _ 1 j cu ((q2.kp bg).in z2) (hA.kp (Kp.of (U:=UU) cX)) ab ab) (λcu cM cX w3 s3 p3 n3 c3 t3 y3 m3 d3 q3 ck dR _ bb3=>wV rfl ?_)
 refine aa ?_
 have z3:bW (((1:Int):Rat)-A) (1+j+1):=z2.sub ha
 refine VO.cR rfl rfl (fk Tryz.func106) (λdJ eu eO=>wh _ _ _ _ j (1+j+1) dJ (hT.kp (Kp.of (U:=UU) eO)) ((q3.kp bg).in z3) ab ab) (λdJ eu eO w4 s4 p4 n4 c4 t4 y4 m4 d4 q4 fe ir _ nu=>wV rfl ?_)
 refine aa ?_
 have z4:bW (T*(((1:Int):Rat)-A)) (j+(1+j+1)):=hs.mul z3
 refine VO.cR rfl rfl (fk Tryz.func46) (λfI fY im=>eP _ _ (j+(1+j+1)) fI ((q4.kp bg).in z4) ab) (λfI fY im w5 s5 p5 n5 c5 t5 y5 m5 d5 q5 il lG _ tW=>wV rfl ?_)
 refine aa ?_
 refine VO.call rfl rfl (fk Tryz.func104) (λni nv rI=>(iH _ _ _ _ ni ((q1.kp bg).rd) ((q5.kp bg).rd)).mono ?_)
 rintro e w6 ⟨r6,rfl,q6,pw⟩
 obtain⟨s6a,p6a,n6a,c6a,t6a,y6a,m6a,d6a,s6b,p6b,n6b,c6b,t6b,y6b,m6b,d6b,s6c,p6c,n6c,c6c,t6c,y6c,m6c,d6c,s6d,p6d,n6d,c6d,t6d,y6d,m6d,d6d,rfl,q6A,q6B,q6C,q6D⟩:=q6
 refine aF pw ?_
 intro rJ _ AO
 refine au ?_;intro wz kz bz
 exact⟨_,rfl,dS.cast (dS.mk (q6A.kp bg) (q6B.kp bg) (q6C.kp bg) (q6D.kp bg)) rfl,bz⟩
theorem Da (v u:Value) (T A:Rat) (j:Nat) (w:World) (hv:aG w v T) (hu:aG w u A) (hs:bW T j) (ha:bW A j) (hj:j<=1000000):
  Calls Tryz.prog 107 #[v,u] w λe w'=>∃ r,e=.returned r/\dS w' r ⟨-T,-(iw kD T [A]),0,0⟩/\aw w w':=by
 obtain⟨s8,p8,n8,c8,t8,y8,m8,d8,rfl⟩:=hv.form
 obtain⟨s9,p9,n9,c9,t9,y9,m9,d9,rfl⟩:=hu.form
 have hT:ax w (.agg #[.bool s8,.slice p8 n8 c8,.bool t8,.slice y8 m8 d8]) T j:=hv.to hs
 have hA:ax w (.agg #[.bool s9,.slice p9 n9 c9,.bool t9,.slice y9 m9 d9]) A j:=hu.to ha
 refine ae (C:=aM Tryz.prog w _) (args:=[_,_]) Tryz.func107 rfl Tryz.ntmps107 (bl rfl) ?_
 refine aa ?_
 refine VO.cR rfl rfl (fk Tryz.func46) (λaC aY aH=>eP _ _ _ aC (hT.kp (Kp.of (U:=UU) aH)) ab) (λaC aY aH w1 s1 p1 n1 c1 t1 y1 m1 d1 q1 aD bQ _ bb1=>wV rfl ?_)
 refine aa ?_
 refine VO.fq rfl (fk Tryz.func108) (λaN β bD bf ho=>(EW _ _ T [A] j aN (hT.kp (Kp.of (U:=UU) bf)) (lN (ho.own 9 (.base (List.mem_singleton.2 rfl)) _ _ rfl) [] (vs:=[[.bool s9,.slice p9 n9 c9,.bool t9,.slice y9 m9 d9]]) (by rfl) rfl (eW.cons (hA.kp (Kp.of (U:=UU) bf)) eW.nil) (bl rfl) fc) ab (bl rfl)).mono ?_)
 rintro e w2 ⟨r2,rfl,q2,z2,aQ⟩
 obtain⟨s2,p2,n2,c2,t2,y2,m2,d2,rfl⟩:=q2.form
 refine aF aQ ?_
 intro cL _ bb2
 have z2':bW (iw kD T [A]) j:=by
  have e:iw kD T [A]=if kD A T=true then A else T:=rfl
  rw[e];split <;> assumption
 refine VO.cR rfl rfl (fk Tryz.func46) (λcu cM cX=>eP _ _ j cu ((q2.kp bg).in z2') ab) (λcu cM cX w3 s3 p3 n3 c3 t3 y3 m3 d3 q3 ck dR _ bb3=>wV rfl ?_)
 refine aa ?_
 refine VO.call rfl rfl (fk Tryz.func104) (λdJ eu eO=>(iH _ _ _ _ dJ ((q1.kp bg).rd) ((q3.kp bg).rd)).mono ?_)
 rintro e w4 ⟨r4,rfl,q4,fe⟩
 obtain⟨s4a,p4a,n4a,c4a,t4a,y4a,m4a,d4a,s4b,p4b,n4b,c4b,t4b,y4b,m4b,d4b,s4c,p4c,n4c,c4c,t4c,y4c,m4c,d4c,s4d,p4d,n4d,c4d,t4d,y4d,m4d,d4d,rfl,q4A,q4B,q4C,q4D⟩:=q4
 refine aF fe ?_
 intro ir _ nu
 refine au ?_;intro wz kz bz
 exact⟨_,rfl,dS.mk (q4A.kp bg) (q4B.kp bg) (q4C.kp bg) (q4D.kp bg),bz⟩
theorem Mg (v u:Value) (T A:Rat) (j:Nat) (w:World) (hv:aG w v T) (hu:aG w u A) (hs:bW T j) (ha:bW A j) (hj:j<=1000000):
  Calls Tryz.prog 109 #[v,u] w λe w'=>∃ r,e=.returned r/\dS w' r ⟨-T,-T,T,0⟩/\aw w w':=by
 obtain⟨s8,p8,n8,c8,t8,y8,m8,d8,rfl⟩:=hv.form
 obtain⟨s9,p9,n9,c9,t9,y9,m9,d9,rfl⟩:=hu.form
 have hT:ax w (.agg #[.bool s8,.slice p8 n8 c8,.bool t8,.slice y8 m8 d8]) T j:=hv.to hs
 have hA:ax w (.agg #[.bool s9,.slice p9 n9 c9,.bool t9,.slice y9 m9 d9]) A j:=hu.to ha
 refine ae (C:=aM Tryz.prog w _) (args:=[_,_]) Tryz.func109 rfl Tryz.ntmps109 (bl rfl) ?_
 refine aa ?_
 refine VO.call rfl rfl (fk Tryz.func101) (λaC aY aH=>(wy _ _ _ _ j aC (hv.kp (Kp.of (U:=UU) aH)) (hu.kp (Kp.of (U:=UU) aH)) hs ha hj).mono ?_)
 rintro e w1 ⟨r1,rfl,q1,aD⟩
 obtain⟨s1a,p1a,n1a,c1a,t1a,y1a,m1a,d1a,s1b,p1b,n1b,c1b,t1b,y1b,m1b,d1b,s1c,p1c,n1c,c1c,t1c,y1c,m1c,d1c,s1d,p1d,n1d,c1d,t1d,y1d,m1d,d1d,rfl,q1A,q1B,q1C,q1D⟩:=q1
 refine aF aD ?_
 intro bQ _ bb1
 refine au ?_;intro wz kz bz
 exact⟨_,rfl,dS.mk (q1A.kp bg) (q1B.kp bg) (hv.kp (Kp.of (U:=UU) bz)) (q1D.kp bg),bz⟩
theorem Fl (v u:Value) (T A:Rat) (j:Nat) (w:World) (hv:aG w v T) (hu:aG w u A) (hs:bW T j) (ha:bW A j) (hj:j<=1000000):
  Calls Tryz.prog 110 #[v,u] w λe w'=>∃ r,e=.returned r/\dS w' r ⟨T,0,0,-T⟩/\aw w w':=by
 obtain⟨s8,p8,n8,c8,t8,y8,m8,d8,rfl⟩:=hv.form
 obtain⟨s9,p9,n9,c9,t9,y9,m9,d9,rfl⟩:=hu.form
 have hT:ax w (.agg #[.bool s8,.slice p8 n8 c8,.bool t8,.slice y8 m8 d8]) T j:=hv.to hs
 have hA:ax w (.agg #[.bool s9,.slice p9 n9 c9,.bool t9,.slice y9 m9 d9]) A j:=hu.to ha
 refine ae (C:=aM Tryz.prog w _) (args:=[_,_]) Tryz.func110 rfl Tryz.ntmps110 (bl rfl) ?_
 refine aa ?_
 refine VO.cR rfl rfl (fk Tryz.func50) (λaC aY aH=>fM aC) (λaC aY aH w1 s1 p1 n1 c1 t1 y1 m1 d1 q1 aD bQ _ bb1=>wV rfl ?_)
 refine aa ?_
 refine VO.call rfl rfl (fk Tryz.func104) (λaN bD bf=>(iH _ _ _ _ aN (hv.kp (Kp.of (U:=UU) bf)) ((q1.kp bg).rd)).mono ?_)
 rintro e w2 ⟨r2,rfl,q2,aQ⟩
 obtain⟨s2a,p2a,n2a,c2a,t2a,y2a,m2a,d2a,s2b,p2b,n2b,c2b,t2b,y2b,m2b,d2b,s2c,p2c,n2c,c2c,t2c,y2c,m2c,d2c,s2d,p2d,n2d,c2d,t2d,y2d,m2d,d2d,rfl,q2A,q2B,q2C,q2D⟩:=q2
 refine aF aQ ?_
 intro cL _ bb2
 refine VO.cR rfl rfl (fk Tryz.func46) (λcu cM cX=>eP _ _ _ cu (hT.kp (Kp.of (U:=UU) cX)) ab) (λcu cM cX w3 s3 p3 n3 c3 t3 y3 m3 d3 q3 ck dR _ bb3=>wV rfl ?_)
 refine aa ?_
 refine au ?_;intro wz kz bz
 exact⟨_,rfl,dS.mk (q2A.kp bg) (q2B.kp bg) (q2C.kp bg) (q3.kp bg).rd,bz⟩
theorem Db (v u:Value) (T A:Rat) (j:Nat) (w:World) (hv:aG w v T) (hu:aG w u A) (hs:bW T j) (ha:bW A j) (hj:j<=1000000):
  Calls Tryz.prog 111 #[v,u] w λe w'=>∃ r,e=.returned r/\dS w' r ⟨-T,0,0,T⟩/\aw w w':=by
 obtain⟨s8,p8,n8,c8,t8,y8,m8,d8,rfl⟩:=hv.form
 obtain⟨s9,p9,n9,c9,t9,y9,m9,d9,rfl⟩:=hu.form
 have hT:ax w (.agg #[.bool s8,.slice p8 n8 c8,.bool t8,.slice y8 m8 d8]) T j:=hv.to hs
 have hA:ax w (.agg #[.bool s9,.slice p9 n9 c9,.bool t9,.slice y9 m9 d9]) A j:=hu.to ha
 refine ae (C:=aM Tryz.prog w _) (args:=[_,_]) Tryz.func111 rfl Tryz.ntmps111 (bl rfl) ?_
 refine aa ?_
 refine VO.call rfl rfl (fk Tryz.func102) (λaC aY aH=>(oi _ _ _ _ j aC (hv.kp (Kp.of (U:=UU) aH)) (hu.kp (Kp.of (U:=UU) aH)) hs ha hj).mono ?_)
 rintro e w1 ⟨r1,rfl,q1,aD⟩
 obtain⟨s1a,p1a,n1a,c1a,t1a,y1a,m1a,d1a,s1b,p1b,n1b,c1b,t1b,y1b,m1b,d1b,s1c,p1c,n1c,c1c,t1c,y1c,m1c,d1c,s1d,p1d,n1d,c1d,t1d,y1d,m1d,d1d,rfl,q1A,q1B,q1C,q1D⟩:=q1
 refine aF aD ?_
 intro bQ _ bb1
 refine au ?_;intro wz kz bz
 exact⟨_,rfl,dS.mk (q1A.kp bg) (q1B.kp bg) (q1C.kp bg) (hv.kp (Kp.of (U:=UU) bz)),bz⟩
set_option maxRecDepth 4000
def Az:List (Value×FuncId):=[(.int .u8 1,100),(.int .u8 10,100),(.int .u8 2,101),(.int .u8 6,102),(.int .u8 11,102),(.int .u8 3,103),(.int .u8 4,105),(.int .u8 5,107),(.int .u8 7,109),(.int .u8 8,110),(.int .u8 9,111)]
abbrev om:List MapEntry:=nW 0 Az
theorem Fm (w:World):Calls Tryz.prog 48 #[] w λe w'=>∃ b,e=.returned (.map (some b))/\w'.heap[b]? =some (.map om.toArray 11)/\aw w w':=by
 refine ae (C:=aM Tryz.prog w _) (args:=[]) Tryz.func48 rfl Tryz.ntmps48 (bl rfl) ?_
 refine wQ ?_
 refine IE rfl ?_
 refine wN ?_
 refine wQ ?_
 refine VS.mapLitN (cH _ _) (t:=116) (kt:=5) (d:=.int .u8) 11 Az (by rfl) (by rfl) (by rfl) (by rfl) (by exact bl rfl) Tryz.underlying116 Tryz.underlying5 ?_ ?_ (λw1 b k1 b1 h1=>wV rfl ?_)
 ·repeat' (first|exact trivial|refine⟨rfl,rfl,rfl,?_⟩)
 ·repeat' (first|exact trivial|refine⟨rfl,rfl,?_⟩)
 refine aa ?_
 refine au ?_;intro wz kz bz
 exact⟨b,rfl,kz.map b _ _ h1,bz⟩
def ib (g:FuncId) (k:Nat):Prop:=∀ (v u:Value) (T A:Rat) (j:Nat) (w:World),aG w v T->aG w u A->bW T j->bW A j->j<=1000000->
    Calls Tryz.prog g #[v,u] w λe w'=>∃ r,e=.returned r/\dS w' r (yM k T A)/\aw w w'
theorem ib.of {g:FuncId} {k:Nat} (P:Rat->Rat->Pt) (e:∀ T A,P T A=yM k T A) (h:∀ (v u:Value) (T A:Rat) (j:Nat) (w:World),aG w v T->aG w u A->bW T j->bW A j->j<=1000000->
 Calls Tryz.prog g #[v,u] w λe w'=>∃ r,e=.returned r/\dS w' r (P T A)/\aw w w'):ib g k:=λv u T A j w h1 h2 h3 h4 h5=>by rw[<-e];exact h v u T A j w h1 h2 h3 h4 h5
theorem Jj (T A:Rat): -(T*(1-A))=T*A-T:=by grind
theorem Jk (T A:Rat): -(iw kD T [A])=if fK T A>0 then-A else-T:=by
 have e:iw kD T [A]=if kD A T=true then A else T:=rfl
 rw[e]
 by_cases h:A<T
 ·have h2:fK T A>0:=oH.1 (show LV T A=true from oH.2 h) |> λ_=>of_decide_eq_true (oH.2 h)
  rw[if_pos (yJ.2 h),if_pos h2]
 ·have h2:¬ fK T A>0:=λe=>h (oH.1 (decide_eq_true e))
  rw[if_neg (λe=>h (yJ.1 e)),if_neg h2]
theorem Jl (k:Nat):(∃ idx g,Instr.findNow (.int .u8) (.int .u8 (k:Int)) om.toArray.toList 0=some (some (idx,.func (.func g) #[] #[]))/\jK Tryz.prog g/\ib g k)\/(Instr.findNow (.int .u8) (.int .u8 (k:Int)) om.toArray.toList 0=some none/\∀ t a,yM k t a=Pt.zero):=by
 have h:k=1\/k=10\/k=2\/k=6\/k=11\/k=3\/k=4\/k=5\/k=7\/k=8\/k=9\/¬ (k=1\/k=10\/k=2\/k=6\/k=11\/k=3\/k=4\/k=5\/k=7\/k=8\/k=9):=by omega
 rcases h with rfl|rfl|rfl|rfl|rfl|rfl|rfl|rfl|rfl|rfl|rfl|h
 ·exact .inl ⟨_,_,rfl,(fk Tryz.func100),ib.of (λT A=>⟨T,T,0,0⟩) (λT A=>rfl) tH⟩
 ·exact .inl ⟨_,_,rfl,(fk Tryz.func100),ib.of (λT A=>⟨T,T,0,0⟩) (λT A=>rfl) tH⟩
 ·exact .inl ⟨_,_,rfl,(fk Tryz.func101),ib.of (λT A=>⟨-T,-T,0,0⟩) (λT A=>rfl) wy⟩
 ·exact .inl ⟨_,_,rfl,(fk Tryz.func102),ib.of (λT A=>⟨-T,0,0,0⟩) (λT A=>rfl) oi⟩
 ·exact .inl ⟨_,_,rfl,(fk Tryz.func102),ib.of (λT A=>⟨-T,0,0,0⟩) (λT A=>rfl) oi⟩
 ·exact .inl ⟨_,_,rfl,(fk Tryz.func103),ib.of (λT A=>⟨T,0,0,0⟩) (λT A=>rfl) CY⟩
 ·exact .inl ⟨_,_,rfl,(fk Tryz.func105),ib.of (λT A=>⟨-T,-(T*(1-A)),0,0⟩) (λT A=>Pt.ext' rfl (Jj T A) rfl rfl) CZ⟩
 ·exact .inl ⟨_,_,rfl,(fk Tryz.func107),ib.of (λT A=>⟨-T,-(iw kD T [A]),0,0⟩) (λT A=>Pt.ext' rfl (Jk T A) rfl rfl) Da⟩
 ·exact .inl ⟨_,_,rfl,(fk Tryz.func109),ib.of (λT A=>⟨-T,-T,T,0⟩) (λT A=>rfl) Mg⟩
 ·exact .inl ⟨_,_,rfl,(fk Tryz.func110),ib.of (λT A=>⟨T,0,0,-T⟩) (λT A=>rfl) Fl⟩
 ·exact .inl ⟨_,_,rfl,(fk Tryz.func111),ib.of (λT A=>⟨-T,0,0,T⟩) (λT A=>rfl) Db⟩
 ·refine .inr ⟨?_,λt a=> ?_⟩
  ·have n1:((k:Int) == 1)=false:=by rw[beq_eq_false_iff_ne];omega
   have n2:((k:Int) == 2)=false:=by rw[beq_eq_false_iff_ne];omega
   have n3:((k:Int) == 3)=false:=by rw[beq_eq_false_iff_ne];omega
   have n4:((k:Int) == 4)=false:=by rw[beq_eq_false_iff_ne];omega
   have n5:((k:Int) == 5)=false:=by rw[beq_eq_false_iff_ne];omega
   have n6:((k:Int) == 6)=false:=by rw[beq_eq_false_iff_ne];omega
   have n7:((k:Int) == 7)=false:=by rw[beq_eq_false_iff_ne];omega
   have n8:((k:Int) == 8)=false:=by rw[beq_eq_false_iff_ne];omega
   have n9:((k:Int) == 9)=false:=by rw[beq_eq_false_iff_ne];omega
   have n10:((k:Int) == 10)=false:=by rw[beq_eq_false_iff_ne];omega
   have n11:((k:Int) == 11)=false:=by rw[beq_eq_false_iff_ne];omega
   simp only[om,Az,nW,List.toList_toArray,Instr.findNow,Instr.sameNow,if_true,n1,n2,n3,n4,n5,n6,n7,n8,n9,n10,n11]
  ·refine Pt.ext' ?_ ?_ ?_ ?_
   ·show pI k t=0;unfold pI;rw[if_neg ab,if_neg ab]
   ·show tz k t a=0;unfold tz;rw[if_neg ab,if_neg ab,if_neg ab,if_neg ab,if_neg ab,if_neg ab]
   ·show Je k t=0;unfold Je;rw[if_neg ab]
   ·show Jf k t=0;unfold Jf;rw[if_neg ab,if_neg ab]
theorem wA {cs l:List Value} (h:Value.agg cs.toArray=.agg l.toArray):cs=l:=by
 injection h with h
 simpa using congrArg Array.toList h
theorem Dc {P Q:Prop} (h:Q) (i:Q->P:=by intro h;(repeat first|refine wN ?_|refine wP rfl ?_|refine cxA_r rfl ?_|refine cxA_d rfl ?_|refine wO rfl rfl ?_);exact h):P:=i h
set_option maxRecDepth 4000 in
theorem Fo (g:Nat) (cs:List Value) (v:Value) (A P:Pt) (k l:Nat) (w:World) (hc:bj w g 115 cs.toArray) (hA:dS w (.agg cs.toArray) A) (hP:PtIn w v P l) (hs:Ax A k) (hk:k<=67108864) (hl:l<=67108864):
  Calls Tryz.prog 49 #[.pointer (some ⟨g,0,none⟩),v] w λe w'=>∃ ds:List Value,e=.returned (.tuple #[])/\uA [g] w w'/\bj w' g 115 ds.toArray/\ds.all bc=true/\dS w' (.agg ds.toArray) (A.add P):=by
 obtain⟨s8a,p8a,n8a,c8a,t8a,y8a,m8a,d8a,s8b,p8b,n8b,c8b,t8b,y8b,m8b,d8b,s8c,p8c,n8c,c8c,t8c,y8c,m8c,d8c,s8d,p8d,n8d,c8d,t8d,y8d,m8d,d8d,hcs,q8A,q8B,q8C,q8D⟩:=hA
 obtain rfl:=wA hcs
 obtain⟨yQ,yR,yS,yT,yU,yV,yW,yX,yY,yZ,za,zc,ze,zf,zg,zh,s9c,p9c,n9c,c9c,t9c,y9c,m9c,d9c,s9d,p9d,n9d,c9d,t9d,y9d,m9d,d9d,rfl,q9A,q9B,q9C,q9D⟩:=hP
 refine Cj Tryz.prog w _ (KU UU) (λt=>Nat.beq t 30) table (λ_ _=>trivial) (us:=[_]) Tryz.func49 rfl Tryz.ntmps49 (bl rfl) hc rfl rfl ?_
 refine Dc ?_
 refine VO.cR rfl rfl (fk Tryz.func13) (λaC aY aH=>fv _ _ A.b P.b k l aC ((q8A.kp bg).to hs.b) (q9A.kp bg) hk hl) (λaC aY aH w1 s1 p1 n1 c1 t1 y1 m1 d1 q1 aD bQ _ bb1=>wV rfl ?_)
 refine Dc ?_
 refine VO.cR rfl rfl (fk Tryz.func13) (λaN bD bf=>fv _ _ A.s P.s k l aN ((q8B.kp bg).to hs.s) (q9B.kp bg) hk hl) (λaN bD bf w2 s2 p2 n2 c2 t2 y2 m2 d2 q2 aQ cL _ bb2=>wV rfl ?_)
 refine Dc ?_
 refine VO.cR rfl rfl (fk Tryz.func13) (λcu cM cX=>fv _ _ A.d P.d k l cu ((q8C.kp bg).to hs.d) (q9C.kp bg) hk hl) (λcu cM cX w3 s3 p3 n3 c3 t3 y3 m3 d3 q3 ck dR _ bb3=>wV rfl ?_)
 refine Dc ?_
 refine VO.cR rfl rfl (fk Tryz.func13) (λdJ eu eO=>fv _ _ A.i P.i k l dJ ((q8D.kp bg).to hs.i) (q9D.kp bg) hk hl) (λdJ eu eO w4 s4 p4 n4 c4 t4 y4 m4 d4 q4 fe ir _ nu=>wV rfl ?_)
 refine Dc ?_
 refine VS.fin (EA _ _) rfl (λwz β kz oz en=> ?_)
 exact⟨_,rfl,oz.1,own1 (en.own 104 _ _ rfl) rfl,rfl,dS.mk (q1.kp bg).rd (q2.kp bg).rd (q3.kp bg).rd (q4.kp bg).rd⟩
set_option maxRecDepth 4000
set_option maxRecDepth 4000 in
theorem Jm (v:Value) (l:List CW) (kk:Nat) (w:World) (hv:bM (mP kk) 9 w v l) (jo:1<=kk) (qY:kk<=1000000) (hsz:eg kk l.length<=60000000):
  Calls Tryz.prog 15 #[v] w λe w'=>∃ r,e=.returned r/\dS w' r (bS l)/\aw w w':=by
 obtain⟨p,c,rfl,dL,eH⟩:=hv.form
 have Mh:=GL hv jo
 obtain⟨N,hN⟩:∃ N,N=l.length:=⟨_,rfl⟩
 rw[<-hN] at hv dL hsz ⊢
 refine ae (C:=aM Tryz.prog w _) (args:=[_]) Tryz.func15 rfl Tryz.ntmps15 (bl rfl) ?_
 refine aa ?_
 refine VO.call rfl rfl (fk Tryz.func47) (λaC aY aH=>(yP aC).mono ?_)
 rintro e w1 ⟨r1,rfl,q1,aD⟩
 obtain⟨s1a,p1a,n1a,c1a,t1a,y1a,m1a,d1a,s1b,p1b,n1b,c1b,t1b,y1b,m1b,d1b,s1c,p1c,n1c,c1c,t1c,y1c,m1c,d1c,s1d,p1d,n1d,c1d,t1d,y1d,m1d,d1d,rfl,q1r⟩:=q1;have q1:=dS.mk q1r.1 q1r.2.1 q1r.2.2.1 q1r.2.2.2
 refine aF aD ?_
 intro bQ _ bb1
 refine VO.call rfl rfl (fk Tryz.func48) (λaN bD bf=>(Fm aN).mono ?_)
 rintro e w2 ⟨b2,rfl,m2,aQ⟩
 skip
 refine aF aQ ?_
 intro cL _ bb2
 refine VS.loop (J:=λm L M w'=>∃ (z:Nat) (cs:List Value),z<=N/\m=N-z/\L=[(2,.box 2 0),(3,.box 11 0),(4,.val (.map (some b2))),(13,.val (.slice p N c)),(14,.val (.int .i64 (N:Int))),(15,.val (.int .i64 (z:Int)))]/\
  M=[(2,(47,([.bool false,.slice none 0 0,.bool false,.slice none 0 0,.bool false,.slice none 0 0,.bool false,.slice none 0 0,.bool false,.slice none 0 0,.bool false,.slice none 0 0,.bool false,.slice none 0 0,.bool false,.slice none 0 0]:List Value).map .val)),(11,(115,cs.map .val))]/\cs.all bc=true/\dS w' (.agg cs.toArray) (bS (l.take z))/\w'.heap[b2]? =some (.map om.toArray 11)) N
  ⟨_,_,?_,?_,?_,?_,⟨0,[.bool s1a,.slice p1a n1a c1a,.bool t1a,.slice y1a m1a d1a,.bool s1b,.slice p1b n1b c1b,.bool t1b,.slice y1b m1b d1b,.bool s1c,.slice p1c n1c c1c,.bool t1c,.slice y1c m1c d1c,.bool s1d,.slice p1d n1d c1d,.bool t1d,.slice y1d m1d d1d],by omega,rfl,rfl,rfl,rfl,q1.kp bg,m2⟩⟩ ?_
 ·exact cW
 ·exact cW
 ·rfl
 ·exact fR
 rintro m L M wJ ⟨z,cs,hz,rfl,rfl,rfl,ji,hpt,oT⟩
 refine aa ?_
 by_cases hlt:z<N
 ·obtain⟨x,hx⟩:∃ x,l[z]? =some x:=⟨_,List.getElem?_eq_getElem ab⟩
  obtain⟨b,off,gM,rfl,hc,he⟩:=hv.at hx
  obtain⟨yQ,yR,yS,yT,yU,yV,yW,yX,yY,yZ,za,zc,ze,zf,zg,zh,rfl,hkd,zi,uK⟩:=he
  obtain⟨kd,ar,tx⟩:=x
  replace zi:ax w (.agg #[.bool yQ,.slice yR yS yT,.bool yU,.slice yV yW yX]) ar kk:=zi
  replace uK:ax w (.agg #[.bool yY,.slice yZ za zc,.bool ze,.slice zf zg zh]) tx kk:=uK
  obtain⟨Dd,hst⟩:=Mh _ (List.mem_of_getElem? hx)
  have hst:bW tx kk:=hst
  have Dd:bW ar kk:=Dd
  have Jn:Ax (bS (l.take z)) (eg kk N):=(mO jo (l.take z) (λy hy=>Mh y (List.mem_of_mem_take hy))).mono (yO (by rw[List.length_take];omega))
  refine VS.aJ rfl (decide_eq_true (Int.ofNat_lt.2 hlt)) ?_
  refine aa ?_
  refine VO.cond rfl dz (wV rfl ?_)
  refine VO.read rfl [.int .u8 (kd:Int),.bool yQ,.slice yR yS yT,.bool yU,.slice yV yW yX,.bool yY,.slice yZ za zc,.bool ze,.slice zf zg zh] rfl (λj u hj=>by rw[Addr.add_mid,Int.toNat_natCast];exact hc j u hj) (wV rfl ?_)
  refine aa ?_
  have hd0:MapKept.IsKey (.int .u8) (.int .u8 (kd:Int)):=rfl
  rcases Jl kd with ⟨idx,g,Mj,hg,hrule⟩|⟨Mj,hzero⟩
  ·refine VO.look (t:=116) (kt:=5) (d:=.int .u8) (z:=.nilFunc) rfl rfl Tryz.underlying116 Tryz.underlying5 hd0 (λw=>by kernel_rfl) (λw1 k1 _=>k1.map _ _ _ oT) Mj (λw3 dR bb3=>wV rfl ?_)
   (repeat (first|refine wN ?_|refine wP rfl ?_|refine IE rfl ?_|refine wO rfl rfl ?_))
   refine VS.draw (cH _ _) (nX _ _) [49] (by kernel_rfl) ?_
   refine wV rfl ?_
   refine VO.cR rfl rfl (fk Tryz.func50) (λdJ eu eO=>fM dJ) (λdJ eu eO w4 s4 p4 n4 c4 t4 y4 m4 d4 q4 fe ir _ nu=>wV rfl ?_)
   refine aa ?_
   refine VO.cR rfl rfl (fk Tryz.func13) (λfI fY im=>fv _ _ tx 0 kk 1 fI (uK.kp (Kp.of (U:=UU) im)) ((q4.kp bg).in bW.zero) ab ab) (λfI fY im w5 s5 p5 n5 c5 t5 y5 m5 d5 q5 il lG _ tW=>wV rfl ?_)
   refine aa ?_
   refine VO.cR rfl rfl (fk Tryz.func50) (λni nv rI=>fM ni) (λni nv rI w6 s6 p6 n6 c6 t6 y6 m6 d6 q6 pw rJ _ AO=>wV rfl ?_)
   refine aa ?_
   refine VO.cR rfl rfl (fk Tryz.func13) (λuH xq vS=>fv _ _ ar 0 kk 1 uH (zi.kp (Kp.of (U:=UU) vS)) ((q6.kp bg).in bW.zero) ab ab) (λuH xq vS w7 s7 p7 n7 c7 t7 y7 m7 d7 q7 DB CA _ bb7=>wV rfl ?_)
   refine aa ?_
   have q5':=aG.cast q5.rd (Rat.add_zero tx).symm
   have q7':=aG.cast q7.rd (Rat.add_zero ar).symm
   refine VO.call rfl rfl hg (λEN ka8 ba8=>(hrule _ _ tx ar kk EN (q5'.kp bg) (q7'.kp bg) hst Dd qY).mono ?_)
   rintro e w8 ⟨r8,rfl,q8,Gd⟩
   have q8':=q8
   obtain⟨s8a,p8a,n8a,c8a,t8a,y8a,m8a,d8a,s8b,p8b,n8b,c8b,t8b,y8b,m8b,d8b,s8c,p8c,n8c,c8c,t8c,y8c,m8c,d8c,s8d,p8d,n8d,c8d,t8d,y8d,m8d,d8d,rfl,_⟩:=q8'
   refine aF Gd ?_
   intro DC _ bb8
   refine VO.callM (i:=11) rfl rfl (List.mem_append_left _ (List.mem_singleton.2 rfl)) (fk Tryz.func49) (bl rfl) (λwa9 β ka9 ba9 ho=>(Fo (β 11) cs _ (bS (l.take z)) (yM kd tx ar) (eg kk N) (3*kk+1) wa9 ?_ (hpt.kp bg) ((q8.kp bg).to (Ay hst Dd jo)) Jn ab ab).mono ?_)
   ·have:=(ho.own 11 (.base (List.mem_append_left _ (List.mem_singleton.2 rfl))) _ _ rfl).cls
    rw[aW] at this
    exact this
   rintro e w9 ⟨ds,rfl,hbut,hcls,hokd,hptd⟩
   refine⟨_,ds,rfl,hbut,hcls,hokd,λGC kc9 bb9=>wV rfl ?_⟩
   refine aa ?_
   have hpt':dS w9 (.agg ds.toArray) (bS (l.take (z+1))):=hptd.cast (mN hx).symm
   refine VS.back (N-(z+1)) ab ⟨_,_,?_,?_,?_,?_,⟨z+1,ds,by omega,rfl,rfl,rfl,hokd,hpt',aV.map (K:=KU UU) (w:=wJ) bg _ _ _ oT⟩⟩
   ·refine⟨rfl,rfl,rfl,rfl,rfl,?_,trivial⟩
    rw[<-aB ab];rfl
   ·exact cW
   ·rfl
   ·exact fR
  ·refine VO.look (t:=116) (kt:=5) (d:=.int .u8) (z:=.nilFunc) rfl rfl Tryz.underlying116 Tryz.underlying5 hd0 (λw=>by kernel_rfl) (λw1 k1 _=>k1.map _ _ _ oT) Mj (λw3 dR bb3=>wV rfl ?_)
   refine aa ?_
   have hpt':dS w3 (.agg cs.toArray) (bS (l.take (z+1))):=(hpt.kp dR).cast (by rw[mN hx,show Mf (kd,ar,tx)=Pt.zero from hzero _ _,add_zero'])
   refine VS.back (N-(z+1)) ab ⟨_,_,?_,?_,?_,?_,⟨z+1,cs,by omega,rfl,rfl,rfl,ji,hpt',dR.map _ _ _ oT⟩⟩
   ·refine⟨rfl,rfl,rfl,rfl,rfl,?_,trivial⟩
    rw[<-aB ab];rfl
   ·exact cW
   ·rfl
   ·exact fR
 ·refine VS.aK rfl (decide_eq_false (λe=>hlt (Int.ofNat_lt.1 e))) ?_
  obtain rfl:z=N:=by omega
  have hpt0:=hpt
  obtain⟨s3a,p3a,n3a,c3a,t3a,y3a,m3a,d3a,s3b,p3b,n3b,c3b,t3b,y3b,m3b,d3b,s3c,p3c,n3c,c3c,t3c,y3c,m3c,d3c,s3d,p3d,n3d,c3d,t3d,y3d,m3d,d3d,hcs,_⟩:=hpt0
  obtain rfl:=wA hcs
  refine aa ?_
  refine au ?_;intro wz kz bz
  exact⟨_,rfl,(hpt.kp kz).cast (by rw[List.take_of_length_le ab]),bz⟩
set_option maxRecDepth 4000
theorem aG.rd {w:World} {v:Value} {q:Rat} (h:aG w v q):aG w v q:=h
theorem aG.in {w:World} {v:Value} {q:Rat} {k:Nat} (h:aG w v q) (hs:bW q k):ax w v q k:=h.to hs
def U8E (_:World) (cs:List Value) (x:Nat):Prop:=cs=[.int .u8 (x:Int)]
theorem GM:fU U8E 1 where
 kp:=λh _=>h
 len:=λh=>by rw[show _=_ from h];rfl
 ok:=λh=>by rw[show _=_ from h];rfl
theorem gH (w:World):Calls Tryz.prog 121 #[] w λe w'=>∃ r,e=.returned r/\aE w' w.heap.size r 0/\aw w w':=by
 refine ae (C:=aM Tryz.prog w _) (args:=[]) Tryz.func121 rfl Tryz.ntmps121 (bl rfl) ?_
 refine aa ?_
 refine VO.cR rfl rfl (fk Tryz.func118) (λaC aY aH=>mH 0 aC ab ab) (λaC aY aH w1 s1 p1 n1 c1 t1 y1 m1 d1 q1 aD bQ _ bb1=>wV rfl ?_)
 refine aa ?_
 refine au ?_;intro wz kz bz
 exact⟨_,rfl,((q1.kp kz).mono aH.size).cast rfl,bz⟩
theorem oJ (k:Nat) (ks:List Nat) (v:Value) (w:World) (hv:bM U8E 1 w v ks) (b:Bool) (hb:decide (k∈ks)=b):
  Calls Tryz.prog 161 #[.int .u8 (k:Int),v] w λe w'=>e=.returned (.bool b)/\aw w w':=by
 obtain⟨p,c,rfl,dL,eH⟩:=hv.form
 obtain⟨N,hN⟩:∃ N,N=ks.length:=⟨_,rfl⟩
 rw[<-hN] at hv dL ⊢
 refine ae (C:=aM Tryz.prog w _) (args:=[_,_]) Tryz.func161 rfl Tryz.ntmps161 (bl rfl) ?_
 refine aa ?_
 refine VS.loop (J:=λm L M w'=>∃ z:Nat,z<=N/\m=N-z/\L=[(0,.val (.int .u8 (k:Int))),(1,.val (.slice p N c)),(5,.val (.int .i64 (z:Int)))]/\M=[]/\∀ j x,j<z->ks[j]? =some x->x≠k) N ⟨_,_,?_,?_,?_,?_,⟨0,by omega,rfl,rfl,rfl,λj x hj=>absurd hj ab⟩⟩ ?_
 ·exact cW
 ·exact cW
 ·rfl
 ·exact fR
 rintro m L M wJ ⟨z,hz,rfl,rfl,rfl,hno⟩
 refine aa ?_
 by_cases hlt:z<N
 ·obtain⟨x,hx⟩:∃ x,ks[z]? =some x:=⟨_,List.getElem?_eq_getElem ab⟩
  obtain⟨bb,off,cs,rfl,hc,he⟩:=hv.at hx
  cases (show cs=_ from he)
  refine VS.aJ rfl (decide_eq_true (Int.ofNat_lt.2 hlt)) ?_
  refine aa ?_
  refine VO.cond rfl dz (wV rfl ?_)
  refine VO.read rfl [.int .u8 (x:Int)] rfl (λj u hj=>by rw[Addr.add_mid,Int.toNat_natCast];exact hc j u hj) (wV rfl ?_)
  refine aa ?_
  by_cases eI:x=k
  ·refine VS.aJ rfl (by rw[eI];simp) ?_
   refine aa ?_
   refine au ?_;intro wz kz bz
   exact⟨by rw[<-hb,decide_eq_true (eI▸List.mem_of_getElem? hx)];rfl,bz⟩
  ·refine VS.aK rfl (by rw[beq_eq_false_iff_ne];omega) ?_
   refine aa ?_
   refine VS.back (N-(z+1)) ab ⟨_,_,?_,?_,?_,?_,⟨z+1,by omega,rfl,rfl,rfl,λj y hj hy=> ?_⟩⟩
   ·refine⟨rfl,rfl,?_,trivial⟩
    rw[<-aB ab];rfl
   ·exact cW
   ·rfl
   ·exact fR
   ·rcases Nat.lt_succ_iff_lt_or_eq.1 hj with h|h
    ·exact hno j y h hy
    ·subst h;rw[hx] at hy;cases hy;exact eI
 ·refine VS.aK rfl (decide_eq_false (λe=>hlt (Int.ofNat_lt.1 e))) ?_
  obtain rfl:z=N:=by omega
  refine aa ?_
  refine au ?_;intro wz kz bz
  refine⟨?_,bz⟩
  rw[<-hb,decide_eq_false (λhm=> ?_)]
  ·rfl
  ·obtain⟨j,hj⟩:=List.getElem?_of_mem hm
   exact hno j k (by have:=(List.getElem?_eq_some_iff.1 hj).1;omega) hj rfl
def ItmV (kk:Nat) (w:World) (v:Value) (x:CW):Prop:=∃ cs:List Value,v=.agg cs.toArray/\mP kk w cs x
theorem Jo (v:Value) (x:CW) (kk:Nat) (w:World) (hv:ItmV kk w v x) (jo:1<=kk) (qY:kk<=1000000):
  Calls Tryz.prog 123 #[v] w λe w'=>∃ r,e=.returned r/\aG w' r (pI x.1 x.2.2)/\aw w w':=by
 obtain⟨cs,rfl,yQ,yR,yS,yT,yU,yV,yW,yX,yY,yZ,za,zc,ze,zf,zg,zh,rfl,hkd,zi,uK⟩:=hv
 obtain⟨kd,ar,tx⟩:=x
 replace zi:ax w (.agg #[.bool yQ,.slice yR yS yT,.bool yU,.slice yV yW yX]) ar kk:=zi
 replace uK:ax w (.agg #[.bool yY,.slice yZ za zc,.bool ze,.slice zf zg zh]) tx kk:=uK
 have hst:=uK.sz jo
 have Dd:=zi.sz jo
 refine ae (C:=aM Tryz.prog w _) (args:=[.agg #[.int .u8 (kd:Int),.bool yQ,.slice yR yS yT,.bool yU,.slice yV yW yX,.bool yY,.slice yZ za zc,.bool ze,.slice zf zg zh]]) Tryz.func123 rfl Tryz.ntmps123 (bl rfl) ?_
 refine aa ?_
 refine VO.cR rfl rfl (fk Tryz.func120) (λaC aY aH=>cd _ tx kk aC (uK.kp (Kp.of (U:=UU) aH)) ab) (λaC aY aH w1 s1 p1 n1 c1 t1 y1 m1 d1 q1 aD bQ _ bb1=>wV rfl ?_)
 refine aa ?_
 by_cases hA:kd∈[1,3,8,10]
 ·have e:pI kd tx=tx:=if_pos (by simpa using hA)
  refine VO.fq rfl (fk Tryz.func161) (λaN β bD bf ho=>(oJ kd [1,3,8,10] _ aN (js GM (ho.own 9 (.base (List.mem_singleton.2 rfl)) _ _ rfl) [] (vs:=[[.int .u8 1],[.int .u8 3],[.int .u8 8],[.int .u8 10]]) (by rfl) (de.cons rfl (de.cons rfl (de.cons rfl (de.cons rfl (de.nil))))) rfl (bl rfl) fc) true (decide_eq_true hA)).mono ?_)
  rintro e w2 ⟨rfl,aQ⟩
  refine aF aQ ?_
  intro cL _ bb2
  refine au ?_;intro wz kz bz
  exact⟨_,rfl,aG.cast (q1.kp bg).rd (e),bz⟩
 ·have e1:pI kd tx=if kd=2\/kd=4\/kd=5\/kd=6\/kd=7\/kd=9\/kd=11 then-tx else 0:=if_neg (by simpa using hA)
  refine VO.fq rfl (fk Tryz.func161) (λaN β bD bf ho=>(oJ kd [1,3,8,10] _ aN (js GM (ho.own 9 (.base (List.mem_singleton.2 rfl)) _ _ rfl) [] (vs:=[[.int .u8 1],[.int .u8 3],[.int .u8 8],[.int .u8 10]]) (by rfl) (de.cons rfl (de.cons rfl (de.cons rfl (de.cons rfl (de.nil))))) rfl (bl rfl) fc) false (decide_eq_false hA)).mono ?_)
  rintro e w2 ⟨rfl,aQ⟩
  refine aF aQ ?_
  intro cL _ bb2
  by_cases hB:kd∈[2,4,5,6,7,9,11]
  ·have e:pI kd tx= -tx:=e1.trans (if_pos (by simpa using hB))
   refine VO.fq rfl (fk Tryz.func161) (λcu β cM cX ho=>(oJ kd [2,4,5,6,7,9,11] _ cu (js GM (ho.own 14 (.base (List.mem_singleton.2 rfl)) _ _ rfl) [] (vs:=[[.int .u8 2],[.int .u8 4],[.int .u8 5],[.int .u8 6],[.int .u8 7],[.int .u8 9],[.int .u8 11]]) (by rfl) (de.cons rfl (de.cons rfl (de.cons rfl (de.cons rfl (de.cons rfl (de.cons rfl (de.cons rfl (de.nil)))))))) rfl (bl rfl) fc) true (decide_eq_true hB)).mono ?_)
   rintro e w3 ⟨rfl,ck⟩
   refine aF ck ?_
   intro dR _ bb3
   refine VO.cR rfl rfl (fk Tryz.func128) (λdJ eu eO=>gi _ _ kk dJ ((q1.kp bg).in hst) ab) (λdJ eu eO w4 s4 p4 n4 c4 t4 y4 m4 d4 q4 fe ir _ nu=>wV rfl ?_)
   refine aa ?_
   refine au ?_;intro wz kz bz
   exact⟨_,rfl,aG.cast (q4.kp bg).rd (e),bz⟩
  ·have e:pI kd tx=0:=e1.trans (if_neg (by simpa using hB))
   refine VO.fq rfl (fk Tryz.func161) (λcu β cM cX ho=>(oJ kd [2,4,5,6,7,9,11] _ cu (js GM (ho.own 14 (.base (List.mem_singleton.2 rfl)) _ _ rfl) [] (vs:=[[.int .u8 2],[.int .u8 4],[.int .u8 5],[.int .u8 6],[.int .u8 7],[.int .u8 9],[.int .u8 11]]) (by rfl) (de.cons rfl (de.cons rfl (de.cons rfl (de.cons rfl (de.cons rfl (de.cons rfl (de.cons rfl (de.nil)))))))) rfl (bl rfl) fc) false (decide_eq_false hB)).mono ?_)
   rintro e w3 ⟨rfl,ck⟩
   refine aF ck ?_
   intro dR _ bb3
   refine VO.cR rfl rfl (fk Tryz.func121) (λdJ eu eO=>gH dJ) (λdJ eu eO w4 s4 p4 n4 c4 t4 y4 m4 d4 q4 fe ir _ nu=>wV rfl ?_)
   refine aa ?_
   refine au ?_;intro wz kz bz
   exact⟨_,rfl,aG.cast (q4.kp bg).rd (e),bz⟩
theorem Jp (v:Value) (x:CW) (kk:Nat) (w:World) (hv:ItmV kk w v x) (jo:1<=kk) (qY:kk<=1000000):
  Calls Tryz.prog 124 #[v] w λe w'=>∃ r,e=.returned r/\aG w' r (tz x.1 x.2.2 x.2.1)/\aw w w':=by
 obtain⟨cs,rfl,yQ,yR,yS,yT,yU,yV,yW,yX,yY,yZ,za,zc,ze,zf,zg,zh,rfl,hkd,zi,uK⟩:=hv
 obtain⟨kd,ar,tx⟩:=x
 replace zi:ax w (.agg #[.bool yQ,.slice yR yS yT,.bool yU,.slice yV yW yX]) ar kk:=zi
 replace uK:ax w (.agg #[.bool yY,.slice yZ za zc,.bool ze,.slice zf zg zh]) tx kk:=uK
 have hst:=uK.sz jo
 have Dd:=zi.sz jo
 refine ae (C:=aM Tryz.prog w _) (args:=[.agg #[.int .u8 (kd:Int),.bool yQ,.slice yR yS yT,.bool yU,.slice yV yW yX,.bool yY,.slice yZ za zc,.bool ze,.slice zf zg zh]]) Tryz.func124 rfl Tryz.ntmps124 (bl rfl) ?_
 refine aa ?_
 refine VO.cR rfl rfl (fk Tryz.func120) (λaC aY aH=>cd _ tx kk aC (uK.kp (Kp.of (U:=UU) aH)) ab) (λaC aY aH w1 s1 p1 n1 c1 t1 y1 m1 d1 q1 aD bQ _ bb1=>wV rfl ?_)
 refine aa ?_
 refine VO.cR rfl rfl (fk Tryz.func120) (λaN bD bf=>cd _ ar kk aN (zi.kp (Kp.of (U:=UU) bf)) ab) (λaN bD bf w2 s2 p2 n2 c2 t2 y2 m2 d2 q2 aQ cL _ bb2=>wV rfl ?_)
 refine aa ?_
 have hcase:kd=1\/kd=10\/kd=2\/kd=7\/kd=4\/kd=5\/¬ (kd=1\/kd=10\/kd=2\/kd=7\/kd=4\/kd=5):=by omega
 rcases hcase with rfl|rfl|rfl|rfl|rfl|rfl|hno
 ·refine aa ?_
  refine au ?_;intro wz kz bz
  exact⟨_,rfl,aG.cast (q1.kp bg).rd (rfl),bz⟩
 ·refine aa ?_
  refine au ?_;intro wz kz bz
  exact⟨_,rfl,aG.cast (q1.kp bg).rd (rfl),bz⟩
 ·refine aa ?_
  refine VO.cR rfl rfl (fk Tryz.func128) (λcu cM cX=>gi _ _ kk cu ((q1.kp bg).in hst) ab) (λcu cM cX w3 s3 p3 n3 c3 t3 y3 m3 d3 q3 ck dR _ bb3=>wV rfl ?_)
  refine aa ?_
  refine au ?_;intro wz kz bz
  exact⟨_,rfl,aG.cast (q3.kp bg).rd (rfl),bz⟩
 ·refine aa ?_
  refine VO.cR rfl rfl (fk Tryz.func128) (λcu cM cX=>gi _ _ kk cu ((q1.kp bg).in hst) ab) (λcu cM cX w3 s3 p3 n3 c3 t3 y3 m3 d3 q3 ck dR _ bb3=>wV rfl ?_)
  refine aa ?_
  refine au ?_;intro wz kz bz
  exact⟨_,rfl,aG.cast (q3.kp bg).rd (rfl),bz⟩
 ·refine aa ?_
  refine VO.cR rfl rfl (fk Tryz.func162) (λcu cM cX=>EX _ _ tx ar kk kk cu ((q1.kp bg).in hst) ((q2.kp bg).in Dd) ab ab) (λcu cM cX w3 s3 p3 n3 c3 t3 y3 m3 d3 q3 ck dR _ bb3=>wV rfl ?_)
  refine aa ?_
  refine VO.cR rfl rfl (fk Tryz.func58) (λdJ eu eO=>gj _ _ (tx*ar) tx (kk+kk) kk dJ ((q3.kp bg).in (hst.mul Dd)) ((q1.kp bg).in hst) ab ab) (λdJ eu eO w4 s4 p4 n4 c4 t4 y4 m4 d4 q4 fe ir _ nu=>wV rfl ?_)
  refine aa ?_
  refine au ?_;intro wz kz bz
  exact⟨_,rfl,aG.cast (q4.kp bg).rd (rfl),bz⟩
 ·refine aa ?_
  by_cases Lj:fK tx ar>0
  ·refine VO.cB rfl rfl (fk Tryz.func156) (λcu cM cX=>mI _ _ tx ar kk kk cu ((q1.kp bg).in hst) ((q2.kp bg).in Dd) ab ab) (λcu cM cX w3 ck dR _ bb3=>wV rfl ?_)
   refine aa ?_
   refine VS.aJ rfl (decide_eq_true Lj) ?_
   refine aa ?_
   refine VO.cR rfl rfl (fk Tryz.func128) (λdJ eu eO=>gi _ _ kk dJ ((q2.kp bg).in Dd) ab) (λdJ eu eO w4 s4 p4 n4 c4 t4 y4 m4 d4 q4 fe ir _ nu=>wV rfl ?_)
   refine aa ?_
   refine au ?_;intro wz kz bz
   exact⟨_,rfl,aG.cast (q4.kp bg).rd (show (if fK tx ar>0 then-ar else-tx)= -ar from if_pos Lj),bz⟩
  ·refine VO.cB rfl rfl (fk Tryz.func156) (λcu cM cX=>mI _ _ tx ar kk kk cu ((q1.kp bg).in hst) ((q2.kp bg).in Dd) ab ab) (λcu cM cX w3 ck dR _ bb3=>wV rfl ?_)
   refine aa ?_
   refine VS.aK rfl (decide_eq_false Lj) ?_
   refine aa ?_
   refine VO.cR rfl rfl (fk Tryz.func128) (λdJ eu eO=>gi _ _ kk dJ ((q1.kp bg).in hst) ab) (λdJ eu eO w4 s4 p4 n4 c4 t4 y4 m4 d4 q4 fe ir _ nu=>wV rfl ?_)
   refine aa ?_
   refine au ?_;intro wz kz bz
   exact⟨_,rfl,aG.cast (q4.kp bg).rd (show (if fK tx ar>0 then-ar else-tx)= -tx from if_neg Lj),bz⟩
 ·refine aa ?_
  refine VS.fix 13 rfl (congrArg (λb=>AV.val (.bool b)) (show ((kd:Int) == 1)=false by rw[beq_eq_false_iff_ne];omega)) ?_
  refine aa ?_
  refine VS.fix 13 rfl (congrArg (λb=>AV.val (.bool b)) (show ((kd:Int) == 10)=false by rw[beq_eq_false_iff_ne];omega)) ?_
  refine aa ?_
  refine VS.fix 17 rfl (congrArg (λb=>AV.val (.bool b)) (show ((kd:Int) == 2)=false by rw[beq_eq_false_iff_ne];omega)) ?_
  refine aa ?_
  refine VS.fix 17 rfl (congrArg (λb=>AV.val (.bool b)) (show ((kd:Int) == 7)=false by rw[beq_eq_false_iff_ne];omega)) ?_
  refine aa ?_
  refine VS.fix 22 rfl (congrArg (λb=>AV.val (.bool b)) (show ((kd:Int) == 4)=false by rw[beq_eq_false_iff_ne];omega)) ?_
  refine aa ?_
  refine VS.fix 29 rfl (congrArg (λb=>AV.val (.bool b)) (show ((kd:Int) == 5)=false by rw[beq_eq_false_iff_ne];omega)) ?_
  refine aa ?_
  refine VO.cR rfl rfl (fk Tryz.func121) (λcu cM cX=>gH cu) (λcu cM cX w3 s3 p3 n3 c3 t3 y3 m3 d3 q3 ck dR _ bb3=>wV rfl ?_)
  refine aa ?_
  have e:tz kd tx ar=0:=by unfold tz;rw[if_neg ab,if_neg ab,if_neg ab,if_neg ab,if_neg ab,if_neg ab]
  refine au ?_;intro wz kz bz
  exact⟨_,rfl,aG.cast (q3.kp bg).rd (e),bz⟩
theorem Mk (v:Value) (x:CW) (kk:Nat) (w:World) (hv:ItmV kk w v x) (jo:1<=kk) (qY:kk<=1000000):
  Calls Tryz.prog 125 #[v] w λe w'=>∃ r,e=.returned r/\aG w' r (Je x.1 x.2.2)/\aw w w':=by
 obtain⟨cs,rfl,yQ,yR,yS,yT,yU,yV,yW,yX,yY,yZ,za,zc,ze,zf,zg,zh,rfl,hkd,zi,uK⟩:=hv
 obtain⟨kd,ar,tx⟩:=x
 replace zi:ax w (.agg #[.bool yQ,.slice yR yS yT,.bool yU,.slice yV yW yX]) ar kk:=zi
 replace uK:ax w (.agg #[.bool yY,.slice yZ za zc,.bool ze,.slice zf zg zh]) tx kk:=uK
 have hst:=uK.sz jo
 have Dd:=zi.sz jo
 refine ae (C:=aM Tryz.prog w _) (args:=[.agg #[.int .u8 (kd:Int),.bool yQ,.slice yR yS yT,.bool yU,.slice yV yW yX,.bool yY,.slice yZ za zc,.bool ze,.slice zf zg zh]]) Tryz.func125 rfl Tryz.ntmps125 (bl rfl) ?_
 refine aa ?_
 by_cases h7:kd=7
 ·subst h7
  refine aa ?_
  refine VO.cR rfl rfl (fk Tryz.func120) (λaC aY aH=>cd _ tx kk aC (uK.kp (Kp.of (U:=UU) aH)) ab) (λaC aY aH w1 s1 p1 n1 c1 t1 y1 m1 d1 q1 aD bQ _ bb1=>wV rfl ?_)
  refine aa ?_
  refine au ?_;intro wz kz bz
  exact⟨_,rfl,aG.cast (q1.kp bg).rd (rfl),bz⟩
 ·refine VS.aK rfl (show ((kd:Int) == 7)=false by rw[beq_eq_false_iff_ne];omega) ?_
  refine aa ?_
  refine VO.cR rfl rfl (fk Tryz.func121) (λaC aY aH=>gH aC) (λaC aY aH w1 s1 p1 n1 c1 t1 y1 m1 d1 q1 aD bQ _ bb1=>wV rfl ?_)
  refine aa ?_
  refine au ?_;intro wz kz bz
  exact⟨_,rfl,aG.cast (q1.kp bg).rd (if_neg h7),bz⟩
theorem Mm (v:Value) (x:CW) (kk:Nat) (w:World) (hv:ItmV kk w v x) (jo:1<=kk) (qY:kk<=1000000):
  Calls Tryz.prog 126 #[v] w λe w'=>∃ r,e=.returned r/\aG w' r (Jf x.1 x.2.2)/\aw w w':=by
 obtain⟨cs,rfl,yQ,yR,yS,yT,yU,yV,yW,yX,yY,yZ,za,zc,ze,zf,zg,zh,rfl,hkd,zi,uK⟩:=hv
 obtain⟨kd,ar,tx⟩:=x
 replace zi:ax w (.agg #[.bool yQ,.slice yR yS yT,.bool yU,.slice yV yW yX]) ar kk:=zi
 replace uK:ax w (.agg #[.bool yY,.slice yZ za zc,.bool ze,.slice zf zg zh]) tx kk:=uK
 have hst:=uK.sz jo
 have Dd:=zi.sz jo
 refine ae (C:=aM Tryz.prog w _) (args:=[.agg #[.int .u8 (kd:Int),.bool yQ,.slice yR yS yT,.bool yU,.slice yV yW yX,.bool yY,.slice yZ za zc,.bool ze,.slice zf zg zh]]) Tryz.func126 rfl Tryz.ntmps126 (bl rfl) ?_
 refine aa ?_
 by_cases h8:kd=8
 ·subst h8
  refine aa ?_
  refine VO.cR rfl rfl (fk Tryz.func120) (λaC aY aH=>cd _ tx kk aC (uK.kp (Kp.of (U:=UU) aH)) ab) (λaC aY aH w1 s1 p1 n1 c1 t1 y1 m1 d1 q1 aD bQ _ bb1=>wV rfl ?_)
  refine aa ?_
  refine VO.cR rfl rfl (fk Tryz.func128) (λaN bD bf=>gi _ _ kk aN ((q1.kp bg).in hst) ab) (λaN bD bf w2 s2 p2 n2 c2 t2 y2 m2 d2 q2 aQ cL _ bb2=>wV rfl ?_)
  refine aa ?_
  refine au ?_;intro wz kz bz
  exact⟨_,rfl,aG.cast (q2.kp bg).rd (rfl),bz⟩
 ·refine VS.fix 5 rfl (congrArg (λb=>AV.val (.bool b)) (show ((kd:Int) == 8)=false by rw[beq_eq_false_iff_ne];omega)) ?_
  refine aa ?_
  by_cases h9:kd=9
  ·subst h9
   refine aa ?_
   refine VO.cR rfl rfl (fk Tryz.func120) (λaC aY aH=>cd _ tx kk aC (uK.kp (Kp.of (U:=UU) aH)) ab) (λaC aY aH w1 s1 p1 n1 c1 t1 y1 m1 d1 q1 aD bQ _ bb1=>wV rfl ?_)
   refine aa ?_
   refine au ?_;intro wz kz bz
   exact⟨_,rfl,aG.cast (q1.kp bg).rd (rfl),bz⟩
  ·refine VS.fix 11 rfl (congrArg (λb=>AV.val (.bool b)) (show ((kd:Int) == 9)=false by rw[beq_eq_false_iff_ne];omega)) ?_
   refine aa ?_
   refine VO.cR rfl rfl (fk Tryz.func121) (λaC aY aH=>gH aC) (λaC aY aH w1 s1 p1 n1 c1 t1 y1 m1 d1 q1 aD bQ _ bb1=>wV rfl ?_)
   refine aa ?_
   refine au ?_;intro wz kz bz
   exact⟨_,rfl,aG.cast (q1.kp bg).rd ((if_neg h8).trans (if_neg h9)),bz⟩
set_option maxRecDepth 4000 in
theorem Jq (v:Value) (l:List CW) (kk:Nat) (w:World) (hv:bM (mP kk) 9 w v l) (jo:1<=kk) (qY:kk<=1000000) (hsz:eg kk l.length<=30000000):
  Calls Tryz.prog 56 #[v] w λe w'=>∃ r,e=.returned r/\dS w' r (bS l)/\aw w w':=by
 obtain⟨p,c,rfl,dL,eH⟩:=hv.form
 have Mh:=GL hv jo
 obtain⟨N,hN⟩:∃ N,N=l.length:=⟨_,rfl⟩
 rw[<-hN] at hv dL hsz ⊢
 refine ae (C:=aM Tryz.prog w _) (args:=[_]) Tryz.func56 rfl Tryz.ntmps56 (bl rfl) ?_
 refine aa ?_
 refine VO.cR rfl rfl (fk Tryz.func121) (λaC aY aH=>gH aC) (λaC aY aH w1 s1 p1 n1 c1 t1 y1 m1 d1 q1 aD bQ _ bb1=>wV rfl ?_)
 refine aa ?_
 refine VO.cR rfl rfl (fk Tryz.func121) (λaN bD bf=>gH aN) (λaN bD bf w2 s2 p2 n2 c2 t2 y2 m2 d2 q2 aQ cL _ bb2=>wV rfl ?_)
 refine aa ?_
 refine VO.cR rfl rfl (fk Tryz.func121) (λcu cM cX=>gH cu) (λcu cM cX w3 s3 p3 n3 c3 t3 y3 m3 d3 q3 ck dR _ bb3=>wV rfl ?_)
 refine aa ?_
 refine VO.cR rfl rfl (fk Tryz.func121) (λdJ eu eO=>gH dJ) (λdJ eu eO w4 s4 p4 n4 c4 t4 y4 m4 d4 q4 fe ir _ nu=>wV rfl ?_)
 refine aa ?_
 refine VS.loop (J:=λm L M w'=>∃ (z:Nat) (cs:List Value),z<=N/\m=N-z/\L=[(0,.val (.slice p N c)),(2,.box 2 0),(3,.box 3 0),(4,.val (.int .i64 (z:Int)))]/\
  M=[(2,(57,([.bool false,.slice none 0 0,.bool false,.slice none 0 0,.bool false,.slice none 0 0,.bool false,.slice none 0 0,.bool false,.slice none 0 0,.bool false,.slice none 0 0,.bool false,.slice none 0 0,.bool false,.slice none 0 0]:List Value).map .val)),(3,(57,cs.map .val))]/\dS w' (.agg cs.toArray) (bS (l.take z))) N
  ⟨_,_,?_,?_,?_,?_,⟨0,[.bool s1,.slice p1 n1 c1,.bool t1,.slice y1 m1 d1,.bool s2,.slice p2 n2 c2,.bool t2,.slice y2 m2 d2,.bool s3,.slice p3 n3 c3,.bool t3,.slice y3 m3 d3,.bool s4,.slice p4 n4 c4,.bool t4,.slice y4 m4 d4],by omega,rfl,rfl,rfl,dS.mk (q1.kp bg).rd (q2.kp bg).rd (q3.kp bg).rd q4.rd⟩⟩ ?_
 ·exact cW
 ·exact cW
 ·rfl
 ·exact fR
 rintro m L M wJ ⟨z,cs,hz,rfl,rfl,rfl,hpt⟩
 have hpt0:=hpt
 obtain⟨s8a,p8a,n8a,c8a,t8a,y8a,m8a,d8a,s8b,p8b,n8b,c8b,t8b,y8b,m8b,d8b,s8c,p8c,n8c,c8c,t8c,y8c,m8c,d8c,s8d,p8d,n8d,c8d,t8d,y8d,m8d,d8d,hcs,q8A,q8B,q8C,q8D⟩:=hpt0
 obtain rfl:=wA hcs
 refine aa ?_
 by_cases hlt:z<N
 ·obtain⟨x,hx⟩:∃ x,l[z]? =some x:=⟨_,List.getElem?_eq_getElem ab⟩
  obtain⟨b,off,gM,rfl,hc,he⟩:=hv.at hx
  have hitm:=he
  obtain⟨yQ,yR,yS,yT,yU,yV,yW,yX,yY,yZ,za,zc,ze,zf,zg,zh,rfl,_⟩:=he
  obtain⟨kd,ar,tx⟩:=x
  obtain⟨Dd,hst⟩:=Mh _ (List.mem_of_getElem? hx)
  have hst:bW tx kk:=hst
  have Dd:bW ar kk:=Dd
  have hrs:=Ay (k:=kd) hst Dd jo
  have Jn:Ax (bS (l.take z)) (eg kk N):=(mO jo (l.take z) (λy hy=>Mh y (List.mem_of_mem_take hy))).mono (yO (by rw[List.length_take];omega))
  refine VS.aJ rfl (decide_eq_true (Int.ofNat_lt.2 hlt)) ?_
  refine aa ?_
  refine VO.cond rfl dz (wV rfl ?_)
  refine VO.read rfl [.int .u8 (kd:Int),.bool yQ,.slice yR yS yT,.bool yU,.slice yV yW yX,.bool yY,.slice yZ za zc,.bool ze,.slice zf zg zh] rfl (λj u hj=>by rw[Addr.add_mid,Int.toNat_natCast];exact hc j u hj) (wV rfl ?_)
  refine VO.cR rfl rfl (fk Tryz.func123) (λjZ oc rk=>Jo _ (kd,ar,tx) kk jZ ⟨_,rfl,(dc kk).kp hitm (Kp.of (U:=UU) rk)⟩ jo qY) (λjZ oc rk w11 s11 p11 n11 c11 t11 y11 m11 d11 q11 tY kc _ CC=>wV rfl ?_)
  refine aa ?_
  refine VO.cR rfl rfl (fk Tryz.func122) (λmw qk vT=>fx _ _ _ _ (eg kk N) (3*kk+1) mw ((q8A.kp bg).to Jn.b) ((q11.kp bg).to hrs.b) ab ab) (λmw qk vT w12 s12 p12 n12 c12 t12 y12 m12 d12 q12 sI od _ EO=>wV rfl ?_)
  refine aa ?_
  refine VO.cond rfl dz (wV rfl ?_)
  refine VO.read rfl [.int .u8 (kd:Int),.bool yQ,.slice yR yS yT,.bool yU,.slice yV yW yX,.bool yY,.slice yZ za zc,.bool ze,.slice zf zg zh] rfl (λj u hj=>by rw[Addr.add_mid,Int.toNat_natCast];exact hc j u hj) (wV rfl ?_)
  refine VO.cR rfl rfl (fk Tryz.func124) (λvU EP CD=>Jp _ (kd,ar,tx) kk vU ⟨_,rfl,(dc kk).kp hitm (Kp.of (U:=UU) CD)⟩ jo qY) (λvU EP CD Al s13 p13 n13 c13 t13 y13 m13 d13 q13 hb13 Am _ bb13=>wV rfl ?_)
  refine aa ?_
  refine VO.cR rfl rfl (fk Tryz.func122) (λvV vW Ao=>fx _ _ _ _ (eg kk N) (3*kk+1) vV ((q8B.kp bg).to Jn.s) ((q13.kp bg).to hrs.s) ab ab) (λvV vW Ao w14 s14 p14 n14 c14 t14 y14 m14 d14 q14 hb14 ER _ bb14=>wV rfl ?_)
  refine aa ?_
  refine VO.cond rfl dz (wV rfl ?_)
  refine VO.read rfl [.int .u8 (kd:Int),.bool yQ,.slice yR yS yT,.bool yU,.slice yV yW yX,.bool yY,.slice yZ za zc,.bool ze,.slice zf zg zh] rfl (λj u hj=>by rw[Addr.add_mid,Int.toNat_natCast];exact hc j u hj) (wV rfl ?_)
  refine VO.cR rfl rfl (fk Tryz.func125) (λvX vY xH=>Mk _ (kd,ar,tx) kk vX ⟨_,rfl,(dc kk).kp hitm (Kp.of (U:=UU) xH)⟩ jo qY) (λvX vY xH w15 s15 p15 n15 c15 t15 y15 m15 d15 q15 hb15 LR _ bb15=>wV rfl ?_)
  refine aa ?_
  refine VO.cR rfl rfl (fk Tryz.func122) (λwa16 ka16 ba16=>fx _ _ _ _ (eg kk N) (3*kk+1) wa16 ((q8C.kp bg).to Jn.d) ((q15.kp bg).to hrs.d) ab ab) (λwa16 ka16 ba16 w16 s16 p16 n16 c16 t16 y16 m16 d16 q16 hb16 kb16 _ bb16=>wV rfl ?_)
  refine aa ?_
  refine VO.cond rfl dz (wV rfl ?_)
  refine VO.read rfl [.int .u8 (kd:Int),.bool yQ,.slice yR yS yT,.bool yU,.slice yV yW yX,.bool yY,.slice yZ za zc,.bool ze,.slice zf zg zh] rfl (λj u hj=>by rw[Addr.add_mid,Int.toNat_natCast];exact hc j u hj) (wV rfl ?_)
  refine VO.cR rfl rfl (fk Tryz.func126) (λwa17 ka17 ba17=>Mm _ (kd,ar,tx) kk wa17 ⟨_,rfl,(dc kk).kp hitm (Kp.of (U:=UU) ba17)⟩ jo qY) (λwa17 ka17 ba17 w17 s17 p17 n17 c17 t17 y17 m17 d17 q17 hb17 kb17 _ bb17=>wV rfl ?_)
  refine aa ?_
  refine VO.cR rfl rfl (fk Tryz.func122) (λwa18 ka18 ba18=>fx _ _ _ _ (eg kk N) (3*kk+1) wa18 ((q8D.kp bg).to Jn.i) ((q17.kp bg).to hrs.i) ab ab) (λwa18 ka18 ba18 w18 s18 p18 n18 c18 t18 y18 m18 d18 q18 hb18 kb18 _ bb18=>wV rfl ?_)
  refine aa ?_
  refine VS.back (N-(z+1)) ab ⟨_,_,?_,?_,?_,?_,⟨z+1,[.bool s12,.slice p12 n12 c12,.bool t12,.slice y12 m12 d12,.bool s14,.slice p14 n14 c14,.bool t14,.slice y14 m14 d14,.bool s16,.slice p16 n16 c16,.bool t16,.slice y16 m16 d16,.bool s18,.slice p18 n18 c18,.bool t18,.slice y18 m18 d18],by omega,rfl,rfl,rfl,(dS.mk (q12.kp bg).rd (q14.kp bg).rd (q16.kp bg).rd (q18.kp bg).rd).cast (mN hx).symm⟩⟩
  ·refine⟨rfl,rfl,rfl,?_,trivial⟩
   rw[<-aB ab];rfl
  ·exact cW
  ·rfl
  ·exact fR
 ·refine VS.aK rfl (decide_eq_false (λe=>hlt (Int.ofNat_lt.1 e))) ?_
  obtain rfl:z=N:=by omega
  refine aa ?_
  refine au ?_;intro wz kz bz
  exact⟨_,rfl,(hpt.kp kz).cast (by rw[List.take_of_length_le ab]),bz⟩
end
set_option maxRecDepth 4000
section
open Go.RowKit
abbrev Mn:=Int×Int×Bool×Rat
def cN (e:Mn):Bool:=decide (e.1<0) || (decide (e.1>9999) || (decide (e.2.1<1) || (decide (e.2.1>40) || !e.2.2.1)))
theorem iI {e:Mn} (h:cN e=false):0<=e.1/\e.1<=9999/\1<=e.2.1/\e.2.1<=40/\e.2.2.1=true:=by
 unfold cN at h
 simp only[Bool.or_eq_false_iff,decide_eq_false_iff_not,Bool.not_eq_false'] at h
 obtain⟨a,b,c,d,f⟩:=h
 exact⟨by omega,by omega,by omega,by omega,f⟩
def ic (e:Mn) (y:Int):Rat:=if cN e=true\/y<=e.1\/y>e.1+e.2.1 then 0 else e.2.2.2*Rat.divInt 1 e.2.1
def kP (e:Mn) (y:Int):Int:=if y<=e.1 then 0 else if y>=e.1+e.2.1 then e.2.1 else y-e.1
def rp (e:Mn) (y:Int):Rat:=if e.1>y then 0 else e.2.2.2*Rat.divInt (e.2.1-kP e y) e.2.1
theorem Jr {n:Int} (h:n≠0):Rat.divInt n n=1:=by rw[Rat.divInt_self' h]
theorem div_sub {a b n:Int}:Rat.divInt (a-b) n=Rat.divInt a n-Rat.divInt b n:=by
 rw[Rat.divInt_eq_div,Rat.divInt_eq_div,Rat.divInt_eq_div,Rat.intCast_sub,Rat.div_def,Rat.div_def,Rat.div_def];grind
theorem Fp (q:Rat) (n:Int):q/(n:Rat)=q*Rat.divInt 1 n:=by
 rw[Rat.divInt_eq_div,Rat.div_def,Rat.div_def]
 show q*_=q*(1*_)
 rw[Rat.one_mul]
theorem jE (x:Rat) (l:List Rat):eb (x::l)=x+eb l:=by
 have key:∀ (l:List Rat) (a:Rat),l.foldl (·+ ·) a=a+l.foldl (·+ ·) 0:=by
  intro l
  induction l with
  | nil=>intro a;show a=a+0;grind
  | cons y r ih=>intro a;rw[List.foldl_cons,List.foldl_cons,ih (a+y),ih (0+y)];grind
 show List.foldl (·+ ·) (0+x) l=_
 rw[key]
 show 0+x+eb l=x+eb l
 grind
theorem Mp:eb []=0:=rfl
theorem tI (l m:List Rat):eb (l++m)=eb l+eb m:=by
 induction l with
 | nil=>rw[List.nil_append,Mp];grind
 | cons x r ih=>rw[List.cons_append,jE,jE,ih];grind
end
section
open Go.RowKit
attribute [local irreducible] ao VS
abbrev cj:=Int×Int×Bool×List Nat×Bool×List Nat
def cj.exp (e:cj):Mn:=(e.1,e.2.1,nj e.2.2.1 e.2.2.2.1 e.2.2.2.2.1 e.2.2.2.2.2,rq e.2.2.1 e.2.2.2.1 e.2.2.2.2.1 e.2.2.2.2.2)
def mQ (x:Int):Prop:= -9223372036854775808<=x/\x<=9223372036854775807
def ju (kk:Nat) (w:World) (cs:List Value) (e:cj):Prop:=
 ∃ p c r d,cs=[.int .i64 e.1,.int .i64 e.2.1,.bool e.2.2.1,.slice p e.2.2.2.1.length c,.bool e.2.2.2.2.1,.slice r e.2.2.2.2.2.length d]/\mQ e.1/\mQ e.2.1/\
   cJ w (.agg #[.bool e.2.2.1,.slice p e.2.2.2.1.length c,.bool e.2.2.2.2.1,.slice r e.2.2.2.2.2.length d]) e.2.2.1 e.2.2.2.1 e.2.2.2.2.1 e.2.2.2.2.2/\e.2.2.2.1.length<=kk/\e.2.2.2.2.2.length<=kk
def qo (kk:Nat) (w:World) (v:Value) (e:cj):Prop:=∃ cs:List Value,v=.agg cs.toArray/\ju kk w cs e
theorem ju.kp {kk:Nat} {T:TypeId->Bool} {w w':World} {cs:List Value} {e:cj} (h:ju kk w cs e) (k:aV ⟨UU,λ_=>True,T⟩ w w'):ju kk w' cs e:=by
 obtain⟨p,c,r,d,h1,h2,h3,h4,h5⟩:=h
 exact⟨p,c,r,d,h1,h2,h3,h4.kp k,h5⟩
theorem qo.kp {kk:Nat} {T:TypeId->Bool} {w w':World} {v:Value} {e:cj} (h:qo kk w v e) (k:aV ⟨UU,λ_=>True,T⟩ w w'):qo kk w' v e:=by
 obtain⟨cs,h1,h2⟩:=h
 exact⟨cs,h1,h2.kp k⟩
theorem qo.k {kk:Nat} {T:TypeId->Bool} {w w':World} {v:Value} {e:cj} (h:qo kk w v e) (k:aV ⟨UU,λ_=>True,T⟩ w w':=by exact bg):qo kk w' v e:=h.kp k
theorem dm (kk:Nat):fU (ju kk) 6 where
 kp:=λh k=>h.kp k
 len:=λh=>by obtain⟨p,c,r,d,rfl,_⟩:=h;rfl
 ok:=λh=>by obtain⟨p,c,r,d,rfl,_⟩:=h;rfl
theorem cJ.k {T:TypeId->Bool} {w w':World} {v:Value} {s t:Bool} {xs ys:List Nat} (h:cJ w v s xs t ys) (k:aV ⟨UU,λ_=>True,T⟩ w w':=by exact bg):cJ w' v s xs t ys:=h.kp k
theorem fy (v:Value) (e:cj) (kk:Nat) (w:World) (hv:qo kk w v e) (hk:kk<=134217728) (c:Int) (hc:(if cN e.exp=true then 2 else 0)=c):
  Calls Tryz.prog 81 #[v] w λo w'=>o=.returned (.int .i64 c)/\aw w w':=by
 obtain⟨cs,rfl,p,cp,r,d,rfl,hy,hn,hq,h1,h2⟩:=hv
 obtain⟨y,n,s,xs,t,ys⟩:=e
 have hew:cN (cj.exp (y,n,s,xs,t,ys))=(decide (y<0) || (decide (y>9999) || (decide (n<1) || (decide (n>40) || !nj s xs t ys)))):=rfl
 rw[hew] at hc
 replace hq:cJ w (.agg #[.bool s,.slice p xs.length cp,.bool t,.slice r ys.length d]) s xs t ys:=hq
 replace h1:xs.length<=kk:=h1
 replace h2:ys.length<=kk:=h2
 refine ae (C:=aM Tryz.prog w _) (args:=[_]) Tryz.func81 rfl Tryz.ntmps81 (bl rfl) ?_
 refine aa ?_
 by_cases a1:y<0
 ·refine VO.fix 6 rfl (congrArg (λb=>AV.val (.bool b)) (decide_eq_true a1)) ?_
  refine aa ?_
  refine au ?_;intro wz kz bz
  exact⟨by rw[<-hc,decide_eq_true a1];rfl,bz⟩
 refine VO.fix 6 rfl (congrArg (λb=>AV.val (.bool b)) (decide_eq_false a1)) ?_
 refine aa ?_
 by_cases a2:y>9999
 ·refine VO.fix 11 rfl (congrArg (λb=>AV.val (.bool b)) (decide_eq_true a2)) ?_
  refine aa ?_
  refine au ?_;intro wz kz bz
  exact⟨by rw[<-hc,decide_eq_true a2,Bool.true_or,Bool.or_true];rfl,bz⟩
 refine VO.fix 11 rfl (congrArg (λb=>AV.val (.bool b)) (decide_eq_false a2)) ?_
 refine aa ?_
 by_cases a3:n<1
 ·refine VO.fix 16 rfl (congrArg (λb=>AV.val (.bool b)) (decide_eq_true a3)) ?_
  refine aa ?_
  refine au ?_;intro wz kz bz
  exact⟨by rw[<-hc,decide_eq_true a3];simp[jg],bz⟩
 refine VO.fix 16 rfl (congrArg (λb=>AV.val (.bool b)) (decide_eq_false a3)) ?_
 refine aa ?_
 by_cases a4:n>40
 ·refine VO.fix 21 rfl (congrArg (λb=>AV.val (.bool b)) (decide_eq_true a4)) ?_
  refine aa ?_
  refine au ?_;intro wz kz bz
  exact⟨by rw[<-hc,decide_eq_true a4];simp[jg],bz⟩
 refine VO.fix 21 rfl (congrArg (λb=>AV.val (.bool b)) (decide_eq_false a4)) ?_
 refine aa ?_
 refine VO.call rfl rfl (fk Tryz.func97) (λaC aY aH=>(jq s t xs ys _ aC (hq.k) ab ab).mono ?_)
 rintro e w1 ⟨rfl,aD⟩
 rw[decide_eq_false a1,decide_eq_false a2,decide_eq_false a3,decide_eq_false a4] at hc
 cases hr:nj s xs t ys with
 | true=>
   rw[hr] at hc
   refine aF aD ?_
   intro bQ _ bb1
   refine au ?_;intro wz kz bz
   exact⟨by rw[<-hc];rfl,bz⟩
 | false=>
   rw[hr] at hc
   refine aF aD ?_
   intro bQ _ bb1
   refine au ?_;intro wz kz bz
   exact⟨by rw[<-hc];rfl,bz⟩
theorem jF {e:cj} (h:cN e.exp=false):0<=e.1/\e.1<=9999/\1<=e.2.1/\e.2.1<=40:=by
 obtain⟨a,b,c,d,_⟩:=iI h
 exact⟨a,b,c,d⟩
theorem Fq (v:Value) (e:cj) (kk:Nat) (z:Int) (w:World) (hv:qo kk w v e) (hw:cN e.exp=false) (hz:mQ z):
  Calls Tryz.prog 91 #[v,.int .i64 z] w λo w'=>o=.returned (.int .i64 (kP e.exp z))/\aw w w':=by
 obtain⟨g1,g2,g3,g4⟩:=jF hw
 obtain⟨cs,rfl,p,cp,r,d,rfl,hy,hn,hq,h1,h2⟩:=hv
 obtain⟨y,n,s,xs,t,ys⟩:=e
 replace g1:0<=y:=g1
 replace g2:y<=9999:=g2
 replace g3:1<=n:=g3
 replace g4:n<=40:=g4
 obtain⟨z1,z2⟩:=hz
 have hec:kP (cj.exp (y,n,s,xs,t,ys)) z=if z<=y then 0 else if z>=y+n then n else z-y:=rfl
 rw[hec]
 refine ae (C:=aM Tryz.prog w _) (args:=[_,_]) Tryz.func91 rfl Tryz.ntmps91 (bl rfl) ?_
 refine aa ?_
 by_cases a1:z<=y
 ·refine VS.aJ rfl (decide_eq_true a1) ?_
  refine aa ?_
  refine au ?_;intro wz kz bz
  exact⟨by rw[if_pos a1];rfl,bz⟩
 refine VS.aK rfl (decide_eq_false a1) ?_
 refine aa ?_
 have e1:IntKind.i64.wrap (y+n)=y+n:=IntWalk.i64_in _ ab
 by_cases a2:z>=y+n
 ·refine VS.aJ rfl (decide_eq_true (by rw[e1];exact a2)) ?_
  refine aa ?_
  refine au ?_;intro wz kz bz
  exact⟨by rw[if_neg a1,if_pos a2];rfl,bz⟩
 ·refine VS.aK rfl (decide_eq_false (by rw[e1];exact a2)) ?_
  refine aa ?_
  refine au ?_;intro wz kz bz
  exact⟨by rw[if_neg a1,if_neg a2,IntWalk.i64_in (z-y) ab];rfl,bz⟩
theorem GN (v:Value) (e:cj) (kk:Nat) (k:Int) (w:World) (hv:qo kk w v e) (hw:cN e.exp=false) (hk:kk<=1048576) (k0:0<=k) (k1:k<=40):
  Calls Tryz.prog 90 #[v,.int .i64 k] w λo w'=>∃ x,o=.returned x/\aE w' w.heap.size x (e.exp.2.2.2*Rat.divInt k e.2.1)/\aw w w':=by
 obtain⟨g1,g2,g3,g4⟩:=jF hw
 obtain⟨cs,rfl,p,cp,r,d,rfl,hy,hn,hq,h1,h2⟩:=hv
 obtain⟨y,n,s,xs,t,ys⟩:=e
 replace g3:1<=n:=g3
 replace g4:n<=40:=g4
 replace hq:cJ w (.agg #[.bool s,.slice p xs.length cp,.bool t,.slice r ys.length d]) s xs t ys:=hq
 replace h1:xs.length<=kk:=h1
 replace h2:ys.length<=kk:=h2
 have jf:=hq.in h1 h2
 refine ae (C:=aM Tryz.prog w _) (args:=[_,_]) Tryz.func90 rfl Tryz.ntmps90 (bl rfl) ?_
 refine aa ?_
 refine VO.call rfl rfl (fk Tryz.func143) (λaC aY aH=>(LX k n aC ab ab ab ab 0 (LY ab)).mono ?_)
 rintro e w1 ⟨r1,rfl,q1,aD⟩
 obtain⟨s1,p1,n1,c1,t1,y1,m1,d1,rfl⟩:=q1.form
 refine aF aD ?_
 intro bQ _ bb1
 refine VO.cR rfl rfl (fk Tryz.func106) (λaN bD bf=>wh _ _ (rq s xs t ys) (Rat.divInt k n) kk 1 aN (jf.k) (q1.ki (bW.of ab ab)) ab ab) (λaN bD bf w2 s2 p2 n2 c2 t2 y2 m2 d2 q2 aQ cL _ bb2=>wV rfl ?_)
 refine aa ?_
 refine au ?_;intro wz kz bz
 exact⟨_,rfl,(q2.kp kz).mono bf.size,bz⟩
theorem Js (v:Value) (e:cj) (kk:Nat) (z:Int) (w:World) (hv:qo kk w v e) (hk:kk<=1048576) (hz:mQ z):
  Calls Tryz.prog 88 #[v,.int .i64 z] w λo w'=>∃ x,o=.returned x/\aE w' w.heap.size x (ic e.exp z)/\aw w w':=by
 have Dx:=hv
 obtain⟨cs,rfl,p,cp,r,d,rfl,hy,hn,hq,h1,h2⟩:=hv
 obtain⟨z1,z2⟩:=hz
 obtain⟨C,hC⟩:∃ C,C=ic e.exp z:=⟨_,rfl⟩
 rw[<-hC]
 unfold ic at hC
 refine ae (C:=aM Tryz.prog w _) (args:=[_,_]) Tryz.func88 rfl Tryz.ntmps88 (bl rfl) ?_
 refine aa ?_
 cases hw:cN e.exp with
 | true=>
   rw[hw,if_pos (.inl rfl)] at hC
   subst hC
   refine VO.cB rfl rfl (fk Tryz.func81) (λaC aY aH=>fy _ e kk aC (Dx.k) ab 2 (by rw[hw];rfl)) (λaC aY aH w1 aD bQ _ bb1=>wV rfl ?_)
   refine aa ?_
   refine VO.cR rfl rfl (fk Tryz.func11) (λaN bD bf=>cZ 0 aN ab ab) (λaN bD bf w2 s2 p2 n2 c2 t2 y2 m2 d2 q2 aQ cL _ bb2=>wV rfl ?_)
   refine aa ?_
   refine au ?_;intro wz kz bz
   exact⟨_,rfl,(q2.kp kz).mono bf.size,bz⟩
 | false=>
   obtain⟨g1,g2,g3,g4⟩:=jF hw
   have e1:IntKind.i64.wrap (e.1+e.2.1)=e.1+e.2.1:=IntWalk.i64_in _ ab
   rw[hw] at hC
   refine VO.cB rfl rfl (fk Tryz.func81) (λaC aY aH=>fy _ e kk aC (Dx.k) ab 0 (by rw[hw];rfl)) (λaC aY aH w1 aD bQ _ bb1=>wV rfl ?_)
   refine aa ?_
   by_cases a1:z<=e.1
   ·rw[if_pos (.inr (.inl a1))] at hC
    subst hC
    refine VO.fix 14 rfl (congrArg (λb=>AV.val (.bool b)) (decide_eq_true a1)) ?_
    refine aa ?_
    refine VO.cR rfl rfl (fk Tryz.func11) (λaN bD bf=>cZ 0 aN ab ab) (λaN bD bf w2 s2 p2 n2 c2 t2 y2 m2 d2 q2 aQ cL _ bb2=>wV rfl ?_)
    refine aa ?_
    refine au ?_;intro wz kz bz
    exact⟨_,rfl,(q2.kp kz).mono bf.size,bz⟩
   refine VO.fix 14 rfl (congrArg (λb=>AV.val (.bool b)) (decide_eq_false a1)) ?_
   refine aa ?_
   by_cases a2:z>e.1+e.2.1
   ·rw[if_pos (.inr (.inr a2))] at hC
    subst hC
    refine VS.aJ rfl (decide_eq_true (show z>IntKind.i64.wrap (e.1+e.2.1) by rw[e1];exact a2)) ?_
    refine aa ?_
    refine VO.cR rfl rfl (fk Tryz.func11) (λaN bD bf=>cZ 0 aN ab ab) (λaN bD bf w2 s2 p2 n2 c2 t2 y2 m2 d2 q2 aQ cL _ bb2=>wV rfl ?_)
    refine aa ?_
    refine au ?_;intro wz kz bz
    exact⟨_,rfl,(q2.kp kz).mono bf.size,bz⟩
   ·rw[if_neg (by rintro (h|h|h);exact Bool.noConfusion h;exact a1 h;exact a2 h)] at hC
    subst hC
    refine VS.aK rfl (decide_eq_false (show ¬ z>IntKind.i64.wrap (e.1+e.2.1) by rw[e1];exact a2)) ?_
    refine aa ?_
    refine VO.cR rfl rfl (fk Tryz.func90) (λaN bD bf=>GN _ e kk 1 aN (Dx.k) hw hk ab ab) (λaN bD bf w2 s2 p2 n2 c2 t2 y2 m2 d2 q2 aQ cL _ bb2=>wV rfl ?_)
    refine aa ?_
    refine au ?_;intro wz kz bz
    exact⟨_,rfl,(q2.kp kz).mono bf.size,bz⟩
end
section
open Go.RowKit
theorem De {s t:Bool} {xs ys:List Nat} (h:nj s xs t ys=true) (lx:cw xs) (ly:cw ys):
  decide ((rq s xs t ys).num<0)=s/\limbs (rq s xs t ys).num.natAbs=xs/\decide (((rq s xs t ys).den:Int)<0)=t/\limbs ((rq s xs t ys).den:Int).natAbs=ys:=by
 obtain⟨h1,h2,h3,h4⟩:=GD h
 obtain⟨e1,e2⟩:=mn ⟨h3,h4⟩
 unfold rq
 rw[e1,e2]
 unfold numOf
 rw[if_pos h1,if_pos h2]
 obtain⟨c1,c2⟩:=canon lx h1
 obtain⟨c3,c4⟩:=canon ly h2
 exact⟨c1.symm,c2.symm,c3.symm,c4.symm⟩
section
variable {α:Type} {E:World->List Value->α->Prop} {sz:Nat} {w w':World} {es:List α} {vs:List (List Value)}
end
end
section
open Go.RowKit
attribute [local irreducible] ao VS
theorem fN {w:World} {b o:Nat} {u:Value} (h:w.cell? ⟨b,o,none⟩=some u):∀ j x,[u][j]? =some x->w.cell? ((⟨b,o,none⟩:Addr).add j)=some x:=by
 intro j x hj
 cases j with
 | zero=>cases hj;rw[Addr.add_mid,Nat.add_zero];exact h
 | succ j=>simp at hj
theorem Jt (v:Value) (b:Nat) (e:cj) (kk:Nat) (z:Int) (w:World) (hv:qo kk w v e) (hc:w.cell? ⟨b,0,none⟩=some (.int .i64 z)) (hk:kk<=1048576) (hz:mQ z):
  Calls Tryz.prog 87 #[v,.pointer (some ⟨b,0,none⟩)] w λo w'=>∃ x,o=.returned x/\aE w' w.heap.size x (ic e.exp z)/\aw w w':=by
 have Dx:=hv
 obtain⟨cs,rfl,p,cp,r,d,rfl,hy,hn,hq,h1,h2⟩:=hv
 refine ae (C:=aM Tryz.prog w _) (args:=[_,_]) Tryz.func87 rfl Tryz.ntmps87 (bl rfl) ?_
 refine aa ?_
 refine VO.read rfl [.int .i64 z] rfl (fN hc) (wV rfl ?_)
 refine VO.cR rfl rfl (fk Tryz.func88) (λaC aY aH=>Js _ e kk z aC (Dx.k) hk hz) (λaC aY aH w1 s1 p1 n1 c1 t1 y1 m1 d1 q1 aD bQ _ bb1=>wV rfl ?_)
 refine aa ?_
 refine au ?_;intro wz kz bz
 exact⟨_,rfl,(q1.kp kz).mono aH.size,bz⟩
theorem sJ {e:Mn} (h:cN e=false) (z:Int):0<=kP e z/\kP e z<=e.2.1:=by
 obtain⟨h0,h1,h2,h3,_⟩:=iI h
 unfold kP
 split
 ·omega
 ·split <;> omega
theorem Ju (v:Value) (b:Nat) (e:cj) (kk:Nat) (z:Int) (w:World) (hv:qo kk w v e) (hw:cN e.exp=false) (hc:w.cell? ⟨b,0,none⟩=some (.int .i64 z)) (hk:kk<=1048576) (hz:mQ z):
  Calls Tryz.prog 89 #[v,.pointer (some ⟨b,0,none⟩)] w λo w'=>∃ x,o=.returned x/\aE w' w.heap.size x (rp e.exp z)/\aw w w':=by
 have Dx:=hv
 obtain⟨g1,g2,g3,g4⟩:=jF hw
 obtain⟨k1,k2⟩:=sJ hw z
 obtain⟨N,hN⟩:∃ N,N=kP e.exp z:=⟨_,rfl⟩
 have hN2:N<=e.2.1:=by rw[hN];exact k2
 have e1:IntKind.i64.wrap (e.2.1-N)=e.2.1-N:=IntWalk.i64_in _ ab
 have hb:rp e.exp z=if e.1>z then 0 else e.exp.2.2.2*Rat.divInt (e.2.1-N) e.2.1:=by rw[hN];rfl
 obtain⟨Q,hQ⟩:∃ Q,Q=rp e.exp z:=⟨_,rfl⟩
 rw[<-hQ] at hb ⊢
 obtain⟨cs,rfl,p,cp,r,d,rfl,hy,hn,hq,h1,h2⟩:=hv
 refine ae (C:=aM Tryz.prog w _) (args:=[_,_]) Tryz.func89 rfl Tryz.ntmps89 (bl rfl) ?_
 refine aa ?_
 refine VO.read rfl [.int .i64 z] rfl (fN hc) (wV rfl ?_)
 refine aa ?_
 by_cases a1:e.1>z
 ·rw[if_pos a1] at hb
  subst hb
  refine VS.aJ rfl (decide_eq_true a1) ?_
  refine aa ?_
  refine VO.cR rfl rfl (fk Tryz.func11) (λaC aY aH=>cZ 0 aC ab ab) (λaC aY aH w1 s1 p1 n1 c1 t1 y1 m1 d1 q1 aD bQ _ bb1=>wV rfl ?_)
  refine aa ?_
  refine au ?_;intro wz kz bz
  exact⟨_,rfl,(q1.kp kz).mono aH.size,bz⟩
 ·rw[if_neg a1] at hb
  subst hb
  refine VS.aK rfl (decide_eq_false a1) ?_
  refine aa ?_
  refine VO.read rfl [.int .i64 z] rfl (fN hc) (wV rfl ?_)
  refine VO.cB rfl rfl (fk Tryz.func91) (λaC aY aH=>Fq _ e kk z aC (Dx.k) hw hz) (λaC aY aH w1 aD bQ _ bb1=>wV rfl ?_)
  refine aa ?_
  rw[<-hN,e1]
  refine VO.cR rfl rfl (fk Tryz.func90) (λaN bD bf=>GN _ e kk (e.2.1-N) aN (Dx.k) hw hk ab ab) (λaN bD bf w2 s2 p2 n2 c2 t2 y2 m2 d2 q2 aQ cL _ bb2=>wV rfl ?_)
  refine aa ?_
  refine au ?_;intro wz kz bz
  exact⟨_,rfl,(q2.kp kz).mono bf.size,bz⟩
def wB (kk:Nat) (w:World) (g:Nat) (l:List cj):Prop:=∃ u,w.cell? ⟨g,0,none⟩=some u/\bM (ju kk) 6 w u l
theorem wB.bq {kk:Nat} {w w':World} {g:Nat} {l:List cj} (h:wB kk w g l) (hb:aw w w'):wB kk w' g l:=by
 obtain⟨u,h1,h2⟩:=h
 exact⟨u,hb.cell h1,h2.bq (dm kk) hb⟩
def EachOk (kk K:Nat) (w:World) (fid:FuncId) (cap:Value) (f:cj->Rat) (l:List cj):Prop:=
 jK Tryz.prog fid/\(∀ e∈l,bW (f e) K)/\∀ (w1:World) (u:Value) (e:cj),aw w w1->e∈l->qo kk w1 u e->Calls Tryz.prog fid #[u,cap] w1 λo w2=>∃ x,o=.returned x/\aE w2 w1.heap.size x (f e)/\aw w1 w2
theorem Df (g:Nat) (fid:FuncId) (cap:Value) (f:cj->Rat) (l:List cj) (kk K:Nat) (w:World) (hl:wB kk w g l) (hf:EachOk kk K w fid cap f l) (hK:bo K l.length<=1048576):
  Calls Tryz.prog 86 #[.pointer (some ⟨g,0,none⟩),.func (.func fid) #[] #[cap]] w λo w'=>∃ x,o=.returned x/\aE w' w.heap.size x (eb (l.map f))/\bW (eb (l.map f)) (bo K l.length)/\aw w w':=by
 obtain⟨hfn,AJ,hfc⟩:=hf
 obtain⟨u,hu,Fs⟩:=hl
 obtain⟨p,c,rfl,dL,eH⟩:=Fs.form
 obtain⟨N,hN⟩:∃ N,N=l.length:=⟨_,rfl⟩
 rw[<-hN] at Fs hK dL ⊢
 rw[<-hN] at hu
 have hNm:N<9223372036854775807:=by unfold bo at hK;have:=Nat.le_mul_of_pos_right N (show 0<bd K+1 by omega);omega
 refine ae (C:=aM Tryz.prog w _) (args:=[_,_]) Tryz.func86 rfl Tryz.ntmps86 (bl rfl) ?_
 refine aa ?_
 refine VO.cR rfl rfl (fk Tryz.func11) (λaC aY aH=>cZ 0 aC ab ab) (λaC aY aH w1 s1 p1 n1 c1 t1 y1 m1 d1 q1 aD bQ _ bb1=>wV rfl ?_)
 refine aa ?_
 refine VO.read rfl [.slice p N c] rfl (fN hu) (wV rfl ?_)
 refine aa ?_
 refine VS.loop (J:=λn L M w'=>∃ i s p' n' c' t r m d,i<=N/\n=N-i/\L=[(1,.val (.func (.func fid) #[] #[cap])),(12,.val (.slice p N c)),(13,.val (.int .i64 (N:Int))),(14,.val (.int .i64 (i:Int))),(5,.box 5 0),(4,.box 4 0)]/\
  M=[(4,(34,([.bool false,.slice none 0 0,.bool false,.slice none 0 0]:List Value).map .val)),(5,(34,([.bool s,.slice p' n' c',.bool t,.slice r m d]:List Value).map .val))]/\aE w' w.heap.size (.agg #[.bool s,.slice p' n' c',.bool t,.slice r m d]) (eb ((l.map f).take i))/\bW (eb ((l.map f).take i)) (bo K i)) N
  ⟨_,_,?_,?_,?_,?_,⟨0,_,_,_,_,_,_,_,_,by omega,rfl,rfl,rfl,q1.k.mono aH.size,bW.zero.mono (by unfold bo;omega)⟩⟩ ?_
 ·exact cW
 ·exact cW
 ·rfl
 ·exact fR
 rintro n L M w' ⟨i,s,p',n',c',t,r,m,d,hi,rfl,rfl,rfl,ho,hz⟩
 refine aa ?_
 by_cases hlt:i<N
 ·obtain⟨e,he⟩:∃ e,l[i]? =some e:=⟨_,List.getElem?_eq_getElem ab⟩
  have JZ:(l.map f)[i]? =some (f e):=by rw[List.getElem?_map,he];rfl
  obtain⟨b,off,cs,rfl,hc,hE⟩:=Fs.at he
  have GO:=hE
  obtain⟨ep,ec,er,ed,rfl,-⟩:=hE
  refine VS.aJ rfl (decide_eq_true (Int.ofNat_lt.2 hlt)) ?_
  refine aa ?_
  refine VO.cond rfl dz (wV rfl ?_)
  refine VO.read rfl [.int .i64 e.1,.int .i64 e.2.1,.bool e.2.2.1,.slice ep e.2.2.2.1.length ec,.bool e.2.2.2.2.1,.slice er e.2.2.2.2.2.length ed] rfl (λj u hj=>by rw[Addr.add_mid,Int.toNat_natCast];exact hc j u hj) (wV rfl ?_)
  refine aa ?_
  refine VO.call rfl rfl hfn (λaN bD bf=>(hfc aN _ e bf (List.mem_of_getElem? he) ⟨_,rfl,GO.kp (Kp.of (U:=UU) bf)⟩).mono ?_)
  rintro o w2 ⟨r2,rfl,q2,aQ⟩
  obtain⟨s2,p2,n2,c2,t2,y2,m2,d2,rfl⟩:=q2.form
  refine aF aQ ?_
  intro cL _ bb2
  have GP:=AJ e (List.mem_of_getElem? he)
  refine VO.cR rfl rfl (fk Tryz.func13) (λcu cM cX=>fv _ _ (eb ((l.map f).take i)) (f e) (bo K i) (bd K) cu (ho.ki hz) (q2.ki (GP.mono (by unfold bd;omega))) (by have:=gw (k:=K) hi;omega) (by unfold bo at hK;have:=Nat.le_mul_of_pos_left (bd K+1) (show 0<N by omega);omega)) (λcu cM cX w3 s3 p3 n3 c3 t3 y3 m3 d3 q3 ck dR _ bb3=>wV rfl ?_)
  refine aa ?_
  refine VS.back (N-(i+1)) ab ⟨_,_,?_,?_,?_,?_,⟨i+1,_,_,_,_,_,_,_,_,by omega,rfl,rfl,rfl,((q3.k).mono cX.size).cast (dV JZ).symm,by rw[dV JZ,gv];exact hz.add (GP.mono (by unfold bd;omega))⟩⟩
  ·refine⟨rfl,rfl,rfl,?_,rfl,rfl,trivial⟩
   rw[<-aB (i:=i) ab];rfl
  ·exact cW
  ·rfl
  ·exact fR
 ·refine VS.aK rfl (decide_eq_false (λe=>hlt (Int.ofNat_lt.1 e))) ?_
  refine aa ?_
  refine au ?_;intro wz kz bz
  obtain rfl:i=N:=by omega
  rw[List.take_of_length_le (by rw[List.length_map];omega)] at ho hz
  exact⟨_,rfl,ho.kp kz,hz,bz⟩
end
section
open Go.RowKit
attribute [local irreducible] ao VS
theorem ju.sz {kk:Nat} {w:World} {cs:List Value} {e:cj} (h:ju kk w cs e):bW e.exp.2.2.2 (bd kk):=by
 obtain⟨p,c,r,d,-,-,-,h4,h5,h6⟩:=h
 exact (h4.in h5 h6).lM
theorem Dg {e:Mn} {k:Nat} (h:bW e.2.2.2 k) (z:Int):bW (ic e z) (k+1):=by
 unfold ic
 split
 ·exact bW.zero.mono ab
 ·rename_i hn
  cases hw:cN e with
  | true=>exact absurd (.inl hw) hn
  | false=>
    obtain⟨a,b,c,d,_⟩:=iI hw
    exact h.mul (bW.of ab ab)
theorem GQ {e:Mn} {k:Nat} (h:bW e.2.2.2 k) (hw:cN e=false) (z:Int):bW (rp e z) (k+1):=by
 obtain⟨a,b,c,d,_⟩:=iI hw
 obtain⟨k1,k2⟩:=sJ hw z
 unfold rp
 split
 ·exact bW.zero.mono ab
 ·exact h.mul (bW.of ab ab)
theorem bM.mem {α:Type} {E:World->List Value->α->Prop} {sz:Nat} {w:World} {v:Value} {l:List α} {a:α} (h:bM E sz w v l) (ha:a∈l):∃ cs,E w cs a:=by
 obtain⟨i,hi⟩:=List.getElem?_of_mem ha
 obtain⟨p,c,rfl,_⟩:=h.form
 obtain⟨b,off,cs,_,_,he⟩:=h.at hi
 exact⟨cs,he⟩
theorem lO {w:World} {b:Nat} {t:TypeId} {u:Value} (h:bj w b t #[u]):w.cell? ⟨b,0,none⟩=some u:=h.cell (by rfl)
def eE (l:List cj) (z:Int):Rat:=eb (l.map λe=>ic e.exp z)
def fA (l:List cj) (z:Int):Rat:=eb (l.map λe=>rp e.exp z)
theorem Mq (g:Nat) (l:List cj) (kk:Nat) (z:Int) (w:World) (hl:wB kk w g l) (hk:kk<=1024) (hz:mQ z) (hn:l.length<=128):
  Calls Tryz.prog 38 #[.pointer (some ⟨g,0,none⟩),.int .i64 z] w λo w'=>∃ x,o=.returned x/\aE w' w.heap.size x (eE l z)/\bW (eE l z) (bo (bd kk+1) l.length)/\aw w w':=by
 have AJ:∀ e∈l,bW (ic e.exp z) (bd kk+1):=λe he=>by
  obtain⟨u,_,h⟩:=hl
  obtain⟨cs,h⟩:=h.mem he
  exact Dg h.sz z
 have hK:bo (bd kk+1) l.length<=1048576:=by
  have:=gw (k:=bd kk+1) hn
  have:bd (bd kk+1)<=2000:=by unfold bd;omega
  have h2:bo (bd kk+1) 128<=1048576:=by unfold bo;omega
  omega
 refine ae (C:=aM Tryz.prog w _) (args:=[_,_]) Tryz.func38 rfl Tryz.ntmps38 (bl rfl) ?_
 refine aa ?_
 refine VO.fq rfl (fk Tryz.func86) (λaC β aY aH ho=>(Df g _ (.pointer (some ⟨β 3,0,none⟩)) (λe=>ic e.exp z) l kk (bd kk+1) aC (hl.bq aH)
  ⟨fk Tryz.func87,AJ,λw1 u e hb he hv=>Jt u (β 3) e kk z w1 hv (hb.cell (lO (ho.own 3 (.base (List.mem_singleton.2 rfl)) _ _ rfl).cls)) ab hz⟩ hK).mono ?_)
 rintro o w1 ⟨r1,rfl,q1,xo,aD⟩
 obtain⟨s1,p1,n1,c1,t1,y1,m1,d1,rfl⟩:=q1.form
 refine aF aD ?_
 intro bQ _ bb1
 refine au ?_;intro wz kz bz
 exact⟨_,rfl,(q1.kp kz).mono aH.size,xo,bz⟩
theorem AA (g:Nat) (l:List cj) (kk:Nat) (z:Int) (w:World) (hl:wB kk w g l) (hw:∀ e∈l,cN e.exp=false) (hk:kk<=1024) (hz:mQ z) (hn:l.length<=128):
  Calls Tryz.prog 39 #[.pointer (some ⟨g,0,none⟩),.int .i64 z] w λo w'=>∃ x,o=.returned x/\aE w' w.heap.size x (fA l z)/\bW (fA l z) (bo (bd kk+1) l.length)/\aw w w':=by
 have AJ:∀ e∈l,bW (rp e.exp z) (bd kk+1):=λe he=>by
  obtain⟨u,_,h⟩:=hl
  obtain⟨cs,h⟩:=h.mem he
  exact GQ h.sz (hw e he) z
 have hK:bo (bd kk+1) l.length<=1048576:=by
  have:=gw (k:=bd kk+1) hn
  have:bd (bd kk+1)<=2000:=by unfold bd;omega
  have h2:bo (bd kk+1) 128<=1048576:=by unfold bo;omega
  omega
 refine ae (C:=aM Tryz.prog w _) (args:=[_,_]) Tryz.func39 rfl Tryz.ntmps39 (bl rfl) ?_
 refine aa ?_
 refine VO.fq rfl (fk Tryz.func86) (λaC β aY aH ho=>(Df g _ (.pointer (some ⟨β 3,0,none⟩)) (λe=>rp e.exp z) l kk (bd kk+1) aC (hl.bq aH)
  ⟨fk Tryz.func89,AJ,λw1 u e hb he hv=>Ju u (β 3) e kk z w1 hv (hw e he) (hb.cell (lO (ho.own 3 (.base (List.mem_singleton.2 rfl)) _ _ rfl).cls)) ab hz⟩ hK).mono ?_)
 rintro o w1 ⟨r1,rfl,q1,xo,aD⟩
 obtain⟨s1,p1,n1,c1,t1,y1,m1,d1,rfl⟩:=q1.form
 refine aF aD ?_
 intro bQ _ bb1
 refine au ?_;intro wz kz bz
 exact⟨_,rfl,(q1.kp kz).mono aH.size,xo,bz⟩
end
section
open Go.RowKit
attribute [local irreducible] ao VS
theorem cJ.lims {w:World} {v:Value} {s t:Bool} {xs ys:List Nat} (h:cJ w v s xs t ys):cw xs/\cw ys:=by
 obtain⟨_,_,_,_,_,h1,h2⟩:=h
 exact⟨h1.lim,h2.lim⟩
theorem ru (q:Rat):eb [q]=q:=by show 0+q=q;grind
end
set_option maxRecDepth 4000
section
open Go.RowKit
attribute [local irreducible] ao VS
theorem zj {n:Int} (h:0<=n) (h1:n<=1000000):bW (n:Rat) 1:=by
 have:((n:Int):Rat)=Rat.divInt n 1:=by rw[Rat.divInt_eq_div];grind
 rw[this]
 exact bW.of ab ab
theorem Jv {n:Int} (h:1<=n):yI (n:Rat)=0:=by
 unfold yI
 rw[if_neg]
 intro e
 have:=Rat.intCast_inj.1 (show ((n:Int):Rat)=((0:Int):Rat) from e)
 omega
theorem ry (v:Value) (e:cj) (kk:Nat) (w:World) (hv:qo kk w v e) (hk:kk<=134217728) (c:Int) (hc:(if cN e.exp=true then 2 else 0)=c):
  Calls Tryz.prog 163 #[v] w λo w'=>o=.returned (.int .i64 c)/\aw w w':=by
 obtain⟨cs,rfl,p,cp,r,d,rfl,hy,hn,hq,h1,h2⟩:=hv
 obtain⟨y,n,s,xs,t,ys⟩:=e
 have hew:cN (cj.exp (y,n,s,xs,t,ys))=(decide (y<0) || (decide (y>9999) || (decide (n<1) || (decide (n>40) || !nj s xs t ys)))):=rfl
 rw[hew] at hc
 replace hq:cJ w (.agg #[.bool s,.slice p xs.length cp,.bool t,.slice r ys.length d]) s xs t ys:=hq
 replace h1:xs.length<=kk:=h1
 replace h2:ys.length<=kk:=h2
 refine ae (C:=aM Tryz.prog w _) (args:=[_]) Tryz.func163 rfl Tryz.ntmps163 (bl rfl) ?_
 refine aa ?_
 by_cases a1:y<0
 ·refine VO.fix 6 rfl (congrArg (λb=>AV.val (.bool b)) (decide_eq_true a1)) ?_
  refine aa ?_
  refine au ?_;intro wz kz bz
  exact⟨by rw[<-hc,decide_eq_true a1];rfl,bz⟩
 refine VO.fix 6 rfl (congrArg (λb=>AV.val (.bool b)) (decide_eq_false a1)) ?_
 refine aa ?_
 by_cases a2:y>9999
 ·refine VO.fix 11 rfl (congrArg (λb=>AV.val (.bool b)) (decide_eq_true a2)) ?_
  refine aa ?_
  refine au ?_;intro wz kz bz
  exact⟨by rw[<-hc,decide_eq_true a2,Bool.true_or,Bool.or_true];rfl,bz⟩
 refine VO.fix 11 rfl (congrArg (λb=>AV.val (.bool b)) (decide_eq_false a2)) ?_
 refine aa ?_
 by_cases a3:n<1
 ·refine VO.fix 16 rfl (congrArg (λb=>AV.val (.bool b)) (decide_eq_true a3)) ?_
  refine aa ?_
  refine au ?_;intro wz kz bz
  exact⟨by rw[<-hc,decide_eq_true a3];simp[jg],bz⟩
 refine VO.fix 16 rfl (congrArg (λb=>AV.val (.bool b)) (decide_eq_false a3)) ?_
 refine aa ?_
 by_cases a4:n>40
 ·refine VO.fix 21 rfl (congrArg (λb=>AV.val (.bool b)) (decide_eq_true a4)) ?_
  refine aa ?_
  refine au ?_;intro wz kz bz
  exact⟨by rw[<-hc,decide_eq_true a4];simp[jg],bz⟩
 refine VO.fix 21 rfl (congrArg (λb=>AV.val (.bool b)) (decide_eq_false a4)) ?_
 refine aa ?_
 refine VO.call rfl rfl (fk Tryz.func155) (λaC aY aH=>(jr s t xs ys _ aC (hq.k) ab ab).mono ?_)
 rintro e w1 ⟨rfl,aD⟩
 rw[decide_eq_false a1,decide_eq_false a2,decide_eq_false a3,decide_eq_false a4] at hc
 cases hr:nj s xs t ys with
 | true=>
   rw[hr] at hc
   refine aF aD ?_
   intro bQ _ bb1
   refine au ?_;intro wz kz bz
   exact⟨by rw[<-hc];rfl,bz⟩
 | false=>
   rw[hr] at hc
   refine aF aD ?_
   intro bQ _ bb1
   refine au ?_;intro wz kz bz
   exact⟨by rw[<-hc];rfl,bz⟩
theorem tJ (v:Value) (e:cj) (kk:Nat) (z:Int) (w:World) (hv:qo kk w v e) (hk:kk<=1048576) (hz:mQ z):
  Calls Tryz.prog 127 #[v,.int .i64 z] w λo w'=>∃ x,o=.returned x/\aE w' w.heap.size x (ic e.exp z)/\aw w w':=by
 have Dx:=hv
 obtain⟨cs,rfl,p,cp,r,d,rfl,hy,hn,hq,h1,h2⟩:=hv
 obtain⟨z1,z2⟩:=hz
 obtain⟨C,hC⟩:∃ C,C=ic e.exp z:=⟨_,rfl⟩
 rw[<-hC]
 unfold ic at hC
 refine ae (C:=aM Tryz.prog w _) (args:=[_,_]) Tryz.func127 rfl Tryz.ntmps127 (bl rfl) ?_
 refine aa ?_
 cases hw:cN e.exp with
 | true=>
   rw[hw,if_pos (.inl rfl)] at hC
   subst hC
   refine VO.cB rfl rfl (fk Tryz.func163) (λaC aY aH=>ry _ e kk aC (Dx.k) ab 2 (by rw[hw];rfl)) (λaC aY aH w1 aD bQ _ bb1=>wV rfl ?_)
   refine aa ?_
   refine VO.cR rfl rfl (fk Tryz.func119) (λaN bD bf=>fw aN) (λaN bD bf w2 s2 p2 n2 c2 t2 y2 m2 d2 q2 aQ cL _ bb2=>wV rfl ?_)
   refine aa ?_
   refine au ?_;intro wz kz bz
   exact⟨_,rfl,(q2.kp kz).mono bf.size,bz⟩
 | false=>
   obtain⟨g1,g2,g3,g4⟩:=jF hw
   rw[hw] at hC
   refine VO.cB rfl rfl (fk Tryz.func163) (λaC aY aH=>ry _ e kk aC (Dx.k) ab 0 (by rw[hw];rfl)) (λaC aY aH w1 aD bQ _ bb1=>wV rfl ?_)
   refine aa ?_
   by_cases a1:z<=e.1
   ·rw[if_pos (.inr (.inl a1))] at hC
    subst hC
    refine VO.fix 16 rfl (congrArg (λb=>AV.val (.bool b)) (decide_eq_true a1)) ?_
    refine aa ?_
    refine VO.cR rfl rfl (fk Tryz.func119) (λaN bD bf=>fw aN) (λaN bD bf w2 s2 p2 n2 c2 t2 y2 m2 d2 q2 aQ cL _ bb2=>wV rfl ?_)
    refine aa ?_
    refine au ?_;intro wz kz bz
    exact⟨_,rfl,(q2.kp kz).mono bf.size,bz⟩
   have e1:IntKind.i64.wrap (z-e.1)=z-e.1:=IntWalk.i64_in _ ab
   refine VO.fix 16 rfl (congrArg (λb=>AV.val (.bool b)) (decide_eq_false a1)) ?_
   refine aa ?_
   by_cases a2:z>e.1+e.2.1
   ·rw[if_pos (.inr (.inr a2))] at hC
    subst hC
    refine VS.aJ rfl (decide_eq_true (show IntKind.i64.wrap (z-e.1)>e.2.1 by rw[e1];omega)) ?_
    refine aa ?_
    refine VO.cR rfl rfl (fk Tryz.func119) (λaN bD bf=>fw aN) (λaN bD bf w2 s2 p2 n2 c2 t2 y2 m2 d2 q2 aQ cL _ bb2=>wV rfl ?_)
    refine aa ?_
    refine au ?_;intro wz kz bz
    exact⟨_,rfl,(q2.kp kz).mono bf.size,bz⟩
   ·rw[if_neg (by rintro (h|h|h);exact Bool.noConfusion h;exact a1 h;exact a2 h)] at hC
    subst hC
    refine VS.aK rfl (decide_eq_false (show ¬ IntKind.i64.wrap (z-e.1)>e.2.1 by rw[e1];omega)) ?_
    refine aa ?_
    refine VO.cR rfl rfl (fk Tryz.func118) (λaN bD bf=>mH e.2.1 aN ab ab) (λaN bD bf w2 s2 p2 n2 c2 t2 y2 m2 d2 q2 aQ cL _ bb2=>wV rfl ?_)
    refine aa ?_
    refine VO.call rfl rfl (fk Tryz.func164) (λcu cM cX=>(IX _ _ e.exp.2.2.2 (e.2.1:Rat) kk 1 cu ((hq.in h1 h2).k) (q2.ki (zj ab ab)) ab ab 0 (Jv g3)).mono ?_)
    rintro e w3 ⟨r3,rfl,q3,ck⟩
    obtain⟨s3,p3,n3,c3,t3,y3,m3,d3,rfl⟩:=q3.form
    refine aF ck ?_
    intro dR _ bb3
    refine au ?_;intro wz kz bz
    exact⟨_,rfl,(((q3.kp kz).mono cX.size).cast (Fp _ _)),bz⟩
end
section
open Go.RowKit
attribute [local irreducible] ao VS
theorem bX {w:World} {b off i sz:Nat} {cs:List Value} (hc:∀ (j:Nat) (u:Value),cs[j]? =some u->w.cell? ⟨b,off+i*sz+j,none⟩=some u) (k:Nat) (ds:List Value) (hd:ds <+:cs.drop k):∀ (j:Nat) (u:Value),ds[j]? =some u->w.cell? ((⟨b,off+((i:Nat):Int).toNat*sz+k,none⟩:Addr).add j)=some u:=by
 intro j u hj
 obtain⟨t,ht⟩:=hd
 rw[Addr.add_mid,Int.toNat_natCast,Nat.add_assoc]
 refine hc (k+j) u ?_
 rw[<-List.getElem?_drop,<-ht,List.getElem?_append_left (List.getElem?_eq_some_iff.1 hj).1]
 exact hj
theorem stepK {kk n:Nat} (hk:kk<=1024) (hn:n<=128):bo (bd kk+1) n<=1048576:=by
 have:=gw (k:=bd kk+1) hn
 have:bd (bd kk+1)<=2000:=by unfold bd;omega
 have h2:bo (bd kk+1) 128<=1048576:=by unfold bo;omega
 omega
theorem Ft (v:Value) (l:List cj) (kk:Nat) (z:Int) (w:World) (hv:bM (ju kk) 6 w v l) (hk:kk<=1024) (hz:mQ z) (hn:l.length<=128):
  Calls Tryz.prog 57 #[v,.int .i64 z] w λo w'=>∃ x,o=.returned x/\aE w' w.heap.size x (eE l z)/\bW (eE l z) (bo (bd kk+1) l.length)/\aw w w':=by
 have AJ:∀ e∈l,bW (ic e.exp z) (bd kk+1):=λe he=>by
  obtain⟨cs,h⟩:=hv.mem he
  exact Dg h.sz z
 obtain⟨K,hKd⟩:∃ K,K=bd kk+1:=⟨_,rfl⟩
 have hK:bo K l.length<=1048576:=by rw[hKd];exact stepK hk hn
 have hK2:bd K<=2000:=by rw[hKd];unfold bd;omega
 rw[<-hKd] at AJ ⊢
 obtain⟨p,c,rfl,dL,eH⟩:=hv.form
 obtain⟨N,hN⟩:∃ N,N=l.length:=⟨_,rfl⟩
 rw[<-hN] at hv dL hn hK ⊢
 obtain⟨f,hf⟩:∃ f:cj->Rat,f=λe=>ic e.exp z:=⟨_,rfl⟩
 have hed:eE l z=eb (l.map f):=by rw[hf];rfl
 rw[hed]
 refine ae (C:=aM Tryz.prog w _) (args:=[_,_]) Tryz.func57 rfl Tryz.ntmps57 (bl rfl) ?_
 refine aa ?_
 refine VO.cR rfl rfl (fk Tryz.func119) (λaC aY aH=>fw aC) (λaC aY aH w1 s1 p1 n1 c1 t1 y1 m1 d1 q1 aD bQ _ bb1=>wV rfl ?_)
 refine aa ?_
 refine VS.loop (J:=λn L M w'=>∃ i s p' n' c' t r m d,i<=N/\n=N-i/\L=[(0,.val (.slice p N c)),(1,.val (.int .i64 z)),(6,.val (.int .i64 (i:Int))),(5,.box 5 0),(4,.box 4 0)]/\
  M=[(4,(55,([.bool false,.slice none 0 0,.bool false,.slice none 0 0]:List Value).map .val)),(5,(55,([.bool s,.slice p' n' c',.bool t,.slice r m d]:List Value).map .val))]/\aE w' w.heap.size (.agg #[.bool s,.slice p' n' c',.bool t,.slice r m d]) (eb ((l.map f).take i))/\bW (eb ((l.map f).take i)) (bo K i)) N
  ⟨_,_,?_,?_,?_,?_,⟨0,_,_,_,_,_,_,_,_,by omega,rfl,rfl,rfl,q1.k.mono aH.size,bW.zero.mono (by unfold bo;omega)⟩⟩ ?_
 ·exact cW
 ·exact cW
 ·rfl
 ·exact fR
 rintro n L M w' ⟨i,s,p',n',c',t,r,m,d,hi,rfl,rfl,rfl,ho,DW⟩
 refine aa ?_
 by_cases hlt:i<N
 ·obtain⟨e,he⟩:∃ e,l[i]? =some e:=⟨_,List.getElem?_eq_getElem ab⟩
  have JZ:(l.map f)[i]? =some (f e):=by rw[List.getElem?_map,he];rfl
  obtain⟨b,off,cs,rfl,hc,hE⟩:=hv.at he
  have GO:=hE
  obtain⟨ep,ec,er,ed,rfl,-⟩:=hE
  refine VS.aJ rfl (decide_eq_true (Int.ofNat_lt.2 hlt)) ?_
  refine aa ?_
  refine VO.cond rfl dz (wV rfl ?_)
  refine VO.read rfl [.int .i64 e.1,.int .i64 e.2.1,.bool e.2.2.1,.slice ep e.2.2.2.1.length ec,.bool e.2.2.2.2.1,.slice er e.2.2.2.2.2.length ed] rfl (λj u hj=>by rw[Addr.add_mid,Int.toNat_natCast];exact hc j u hj) (wV rfl ?_)
  have GP:=AJ e (List.mem_of_getElem? he)
  refine VO.cR rfl rfl (fk Tryz.func127) (λaN bD bf=>tJ _ e kk z aN ⟨_,rfl,GO.kp (Kp.of (U:=UU) bf)⟩ ab hz) (λaN bD bf w2 s2 p2 n2 c2 t2 y2 m2 d2 q2 aQ cL _ bb2=>wV rfl ?_)
  refine aa ?_
  replace q2:aE w2 aN.heap.size (.agg #[.bool s2,.slice p2 n2 c2,.bool t2,.slice y2 m2 d2]) (f e):=by rw[hf];exact q2
  replace GP:bW (f e) K:=by rw[hf];exact GP
  refine VO.cR rfl rfl (fk Tryz.func122) (λcu cM cX=>fx _ _ (eb ((l.map f).take i)) (f e) (bo K i) (bd K) cu (ho.ki DW) (q2.ki (GP.mono (by unfold bd;omega))) (by have:=gw (k:=K) hi;omega) ab) (λcu cM cX w3 s3 p3 n3 c3 t3 y3 m3 d3 q3 ck dR _ bb3=>wV rfl ?_)
  refine aa ?_
  refine VS.back (N-(i+1)) ab ⟨_,_,?_,?_,?_,?_,⟨i+1,_,_,_,_,_,_,_,_,by omega,rfl,rfl,rfl,((q3.k).mono cX.size).cast (dV JZ).symm,by rw[dV JZ,gv];exact DW.add (GP.mono (by unfold bd;omega))⟩⟩
  ·refine⟨rfl,rfl,?_,rfl,rfl,trivial⟩
   rw[<-aB (i:=i) ab];rfl
  ·exact cW
  ·rfl
  ·exact fR
 ·refine VS.aK rfl (decide_eq_false (λe=>hlt (Int.ofNat_lt.1 e))) ?_
  refine aa ?_
  refine au ?_;intro wz kz bz
  obtain rfl:i=N:=by omega
  rw[List.take_of_length_le (by rw[List.length_map];omega)] at ho DW
  exact⟨_,rfl,ho.kp kz,DW,bz⟩
theorem Mr {e:Mn} (h:cN e=false) {y:Int} (h1:e.1<y) (h2:y<=e.1+e.2.1):ic e y=e.2.2.2*Rat.divInt 1 e.2.1:=by
 unfold ic
 rw[h,if_neg (by simp;omega)]
theorem Jw (q:Rat) (n j:Int):q*Rat.divInt (n-j) n-q*Rat.divInt 1 n=q*Rat.divInt (n-(j+1)) n:=by
 rw[show n-(j+1)=(n-j)-1 by omega,div_sub (a:=n-j)];grind
theorem Fu (q:Rat) (n:Int) (j:Nat):q*Rat.divInt (n-((j+1:Nat):Int)) n=q*Rat.divInt (n-(j:Int)) n-q*Rat.divInt 1 n:=by
 rw[Jw,show ((j+1:Nat):Int)=(j:Int)+1 by omega]
set_option maxRecDepth 4000 in
theorem wC (v:Value) (l:List cj) (kk:Nat) (z:Int) (w:World) (hv:bM (ju kk) 6 w v l) (hw:∀ e∈l,cN e.exp=false) (hk:kk<=1024) (hz:mQ z) (hn:l.length<=128):
  Calls Tryz.prog 59 #[v,.int .i64 z] w λo w'=>∃ x,o=.returned x/\aE w' w.heap.size x (fA l z)/\bW (fA l z) (bo (bd kk+1) l.length)/\aw w w':=by
 have AJ:∀ e∈l,bW (rp e.exp z) (bd kk+1):=λe he=>by
  obtain⟨cs,h⟩:=hv.mem he
  exact GQ h.sz (hw e he) z
 obtain⟨K,hKd⟩:∃ K,K=bd kk+1:=⟨_,rfl⟩
 have hK:bo K l.length<=1048576:=by rw[hKd];exact stepK hk hn
 have hK2:bd K<=2000:=by rw[hKd];unfold bd;omega
 have hK3:K<=2000:=by rw[hKd];unfold bd;omega
 have hK4:bd kk+1=K:=hKd.symm
 rw[<-hKd] at AJ ⊢
 obtain⟨p,c,rfl,dL,eH⟩:=hv.form
 obtain⟨N,hN⟩:∃ N,N=l.length:=⟨_,rfl⟩
 rw[<-hN] at hv dL hn hK ⊢
 obtain⟨f,hf⟩:∃ f:cj->Rat,f=λe=>rp e.exp z:=⟨_,rfl⟩
 have hed:fA l z=eb (l.map f):=by rw[hf];rfl
 have hfe':∀ e,f e=rp e.exp z:=λe=>by rw[hf]
 rw[hed]
 obtain⟨z1,z2⟩:=hz
 refine ae (C:=aM Tryz.prog w _) (args:=[_,_]) Tryz.func59 rfl Tryz.ntmps59 (bl rfl) ?_
 refine aa ?_
 refine VO.cR rfl rfl (fk Tryz.func119) (λaC aY aH=>fw aC) (λaC aY aH w1 s1 p1 n1 c1 t1 y1 m1 d1 q1 aD bQ _ bb1=>wV rfl ?_)
 refine aa ?_
 refine VS.loop (J:=λn L M w'=>∃ i s p' n' c' t r m d,i<=N/\n=N-i/\L=[(0,.val (.slice p N c)),(1,.val (.int .i64 z)),(6,.val (.int .i64 (i:Int))),(5,.box 5 0),(4,.box 4 0)]/\
  M=[(4,(55,([.bool false,.slice none 0 0,.bool false,.slice none 0 0]:List Value).map .val)),(5,(55,([.bool s,.slice p' n' c',.bool t,.slice r m d]:List Value).map .val))]/\aE w' w.heap.size (.agg #[.bool s,.slice p' n' c',.bool t,.slice r m d]) (eb ((l.map f).take i))/\bW (eb ((l.map f).take i)) (bo K i)/\Kp UU w w') N
  ⟨_,_,?_,?_,?_,?_,⟨0,_,_,_,_,_,_,_,_,by omega,rfl,rfl,rfl,q1.k.mono aH.size,bW.zero.mono (by unfold bo;omega),bg⟩⟩ ?_
 ·exact cW
 ·exact cW
 ·rfl
 ·exact fR
 rintro n L M w' ⟨i,s,p',n',c',t,r,m,d,hi,rfl,rfl,rfl,ho,DW,hkw⟩
 refine aa ?_
 by_cases hlt:i<N
 ·obtain⟨e,he⟩:∃ e,l[i]? =some e:=⟨_,List.getElem?_eq_getElem ab⟩
  have JZ:(l.map f)[i]? =some (f e):=by rw[List.getElem?_map,he];rfl
  have hwe:=hw e (List.mem_of_getElem? he)
  have hrt:=(iI hwe).2.2.2.2
  obtain⟨g1,g2,g3,g4⟩:=jF hwe
  obtain⟨b,off,cs,rfl,hc,hE⟩:=hv.at he
  have GO:=hE
  obtain⟨ep,ec,er,ed,rfl,xn,hi2,dZ,yr,Aj⟩:=hE
  have hqz:=GO.sz
  have GP:=AJ e (List.mem_of_getElem? he)
  rw[<-hfe'] at GP
  refine VS.aJ rfl (decide_eq_true (Int.ofNat_lt.2 hlt)) ?_
  refine aa ?_
  refine VO.cond rfl dz (wV rfl ?_)
  refine VO.read rfl [.int .i64 e.1] rfl (bX hc 0 _ ⟨_,rfl⟩) (wV rfl ?_)
  refine aa ?_
  by_cases a1:e.1>z
  ·have hf0:f e=0:=by rw[hfe'];exact if_pos a1
   refine VS.aJ rfl (decide_eq_true a1) ?_
   refine aa ?_
   refine VS.back (N-(i+1)) ab ⟨_,_,?_,?_,?_,?_,⟨i+1,_,_,_,_,_,_,_,_,by omega,rfl,rfl,rfl,ho.cast (by rw[dV JZ,hf0,Rat.add_zero]),by rw[dV JZ,hf0,Rat.add_zero,gv];exact DW.mono ab,hkw⟩⟩
   ·refine⟨rfl,rfl,?_,rfl,rfl,trivial⟩
    rw[<-aB (i:=i) ab];rfl
   ·exact cW
   ·rfl
   ·exact fR
  ·obtain⟨k1,k2⟩:=sJ hwe z
   obtain⟨T,hT⟩:∃ T:Nat,(T:Int)=kP e.exp z:=⟨(kP e.exp z).toNat,by omega⟩
   have hT2:(T:Int)<=e.2.1:=by rw[hT];exact k2
   have hT3:(T:Int)=if z<=e.1 then 0 else if z>=e.1+e.2.1 then e.2.1 else z-e.1:=hT
   have hfv:f e=e.exp.2.2.2*Rat.divInt (e.2.1-(T:Int)) e.2.1:=by rw[hfe'];show (if e.1>z then (0:Rat) else e.exp.2.2.2*Rat.divInt (e.2.1-kP e.exp z) e.2.1)=_;rw[if_neg a1,<-hT]
   have e0:IntKind.i64.wrap (e.1+1)=e.1+1+((0:Nat):Int):=by rw[IntWalk.i64_in _ ab];omega
   have hlz:∀ j:Nat,(j:Int)<=e.2.1->bW (e.exp.2.2.2*Rat.divInt (e.2.1-(j:Int)) e.2.1) K:=λj hj=>by rw[<-hK4];exact hqz.mul (bW.of ab ab)
   refine VS.aK rfl (decide_eq_false a1) ?_
   refine aa ?_
   refine VO.cond rfl dz (wV rfl ?_)
   refine VO.read rfl [.bool e.2.2.1,.slice ep e.2.2.2.1.length ec,.bool e.2.2.2.2.1,.slice er e.2.2.2.2.2.length ed] rfl (bX hc 2 _ ⟨_,rfl⟩) (wV rfl ?_)
   refine aa ?_
   refine VO.cond rfl dz (wV rfl ?_)
   refine VO.read rfl [.int .i64 e.1] rfl (bX hc 0 _ ⟨_,rfl⟩) (wV rfl ?_)
   refine aa ?_
   rw[e0]
   refine VS.loop (J:=λmm L M w2=>∃ (j:Nat) (s4:Bool) (p4:Option Addr) (n4 c4:Nat) (t4:Bool) (r4:Option Addr) (m4 d4:Nat),j<=T/\mm=T-j/\L=[(0,.val (.slice (some ⟨b,off,none⟩) N c)),(1,.val (.int .i64 z)),(6,.val (.int .i64 (i:Int))),(8,.val (.int .i64 (e.1+1+(j:Int)))),(7,.box 7 0),(5,.box 5 0),(4,.box 4 0)]/\
    M=[(4,(55,([.bool false,.slice none 0 0,.bool false,.slice none 0 0]:List Value).map .val)),(5,(55,([.bool s,.slice p' n' c',.bool t,.slice r m d]:List Value).map .val)),(7,(55,([.bool s4,.slice p4 n4 c4,.bool t4,.slice r4 m4 d4]:List Value).map .val))]/\
    Kp UU w' w2/\aG w2 (.agg #[.bool s4,.slice p4 n4 c4,.bool t4,.slice r4 m4 d4]) (e.exp.2.2.2*Rat.divInt (e.2.1-(j:Int)) e.2.1)) T
    ⟨_,_,?_,?_,?_,?_,⟨0,e.2.2.1,ep,e.2.2.2.1.length,ec,e.2.2.2.2.1,er,e.2.2.2.2.2.length,ed,by omega,rfl,rfl,rfl,?_,?_⟩⟩ ?_
   ·exact cW
   ·exact cW
   ·rfl
   ·exact fR
   ·exact bg
   ·rw[show e.2.1-((0:Nat):Int)=e.2.1 by omega,Jr ab,Rat.mul_one]
    exact (lJ dZ hrt).kp hkw
   rintro mm L M w2 ⟨j,s4,p4,n4,c4,t4,r4,m4,d4,hj,rfl,rfl,rfl,Cv,hq4⟩
   refine aa ?_
   have e2:IntKind.i64.wrap (e.1+e.2.1)=e.1+e.2.1:=IntWalk.i64_in _ ab
   by_cases a2:e.1+1+(j:Int)<=z
   ·refine VO.fix 37 rfl (congrArg (λb=>AV.val (.bool b)) (decide_eq_true a2)) ?_
    refine aa ?_
    refine VO.cond rfl dz ?_
    refine wV rfl ?_
    refine aa ?_
    refine VO.read rfl [.int .i64 e.1] rfl (bX hc 0 _ ⟨_,rfl⟩) (wV rfl ?_)
    refine aa ?_
    refine VO.cond rfl dz ?_
    refine wV rfl ?_
    refine aa ?_
    refine VO.read rfl [.int .i64 e.2.1] rfl (bX hc 1 _ ⟨_,rfl⟩) (wV rfl ?_)
    refine aa ?_
    by_cases a3:e.1+1+(j:Int)<=e.1+e.2.1
    ·have hjT:j<T:=by split at hT3 <;> (try split at hT3) <;> omega
     refine VS.aJ rfl (decide_eq_true (by rw[e2];exact a3)) ?_
     refine aa ?_
     refine VO.cond rfl dz (wV rfl ?_)
     refine VO.read rfl [.int .i64 e.1,.int .i64 e.2.1,.bool e.2.2.1,.slice ep e.2.2.2.1.length ec,.bool e.2.2.2.2.1,.slice er e.2.2.2.2.2.length ed] rfl (λj u hj=>by rw[Addr.add_mid,Int.toNat_natCast];exact hc j u hj) (wV rfl ?_)
     refine VO.cR rfl rfl (fk Tryz.func127) (λaN bD bf=>tJ _ e kk (e.1+1+(j:Int)) aN ⟨_,rfl,GO.kp (Kp.of (U:=UU) bf)⟩ ab ⟨by omega,by omega⟩) (λaN bD bf w2 s2 p2 n2 c2 t2 y2 m2 d2 q2 aQ cL _ bb2=>wV rfl ?_)
     refine aa ?_
     replace q2:=q2.cast (Mr hwe (show e.1<e.1+1+(j:Int) by omega) a3)
     refine VO.cR rfl rfl (fk Tryz.func58) (λcu cM cX=>gj _ _ (e.exp.2.2.2*Rat.divInt (e.2.1-(j:Int)) e.2.1) (e.exp.2.2.2*Rat.divInt 1 e.2.1) K K cu (hq4.ki (hlz j ab)) (q2.ki (by rw[<-hK4];exact hqz.mul (bW.of ab (show e.2.1.natAbs<4294967296 by omega)))) ab ab) (λcu cM cX w3 s3 p3 n3 c3 t3 y3 m3 d3 q3 ck dR _ bb3=>wV rfl ?_)
     refine aa ?_
     refine VS.back (T-(j+1)) ab ⟨_,_,?_,?_,?_,?_,⟨j+1,_,_,_,_,_,_,_,_,by omega,rfl,rfl,rfl,bg,(q3.kr).cast (Fu _ _ _)⟩⟩
     ·refine⟨rfl,rfl,rfl,?_,rfl,rfl,rfl,trivial⟩
      show some (AV.val (.int .i64 (IntKind.i64.wrap (e.1+1+(j:Int)+1))))=_
      rw[IntWalk.i64_in _ ab,show e.1+1+(j:Int)+1=e.1+1+((j+1:Nat):Int) by omega]
     ·exact cW
     ·rfl
     ·exact fR
    ·refine VS.aK rfl (decide_eq_false (by rw[e2];exact a3)) ?_
     obtain rfl:j=T:=by split at hT3 <;> (try split at hT3) <;> omega
     refine aa ?_
     refine VO.cR rfl rfl (fk Tryz.func122) (λdJ eu eO=>fx _ _ (eb ((l.map f).take i)) (f e) (bo K i) (bd K) dJ (ho.ki DW) ((hq4.cast hfv).ki (GP.mono (by unfold bd;omega))) (by have:=gw (k:=K) hi;omega) ab) (λdJ eu eO w4 s6 p6 n6 c6 t6 y6 m6 d6 q6 fe ir _ nu=>wV rfl ?_)
     refine aa ?_
     refine VS.back (N-(i+1)) ab ⟨_,_,?_,?_,?_,?_,⟨i+1,_,_,_,_,_,_,_,_,by omega,rfl,rfl,rfl,((q6.k).mono eO.size).cast (dV JZ).symm,by rw[dV JZ,gv];exact DW.add (GP.mono (by unfold bd;omega)),bg⟩⟩
     ·refine⟨rfl,rfl,?_,rfl,rfl,trivial⟩
      rw[<-aB (i:=i) ab];rfl
     ·exact cW
     ·rfl
     ·exact fR
   ·refine VO.fix 37 rfl (congrArg (λb=>AV.val (.bool b)) (decide_eq_false a2)) ?_
    obtain rfl:j=T:=by split at hT3 <;> (try split at hT3) <;> omega
    refine aa ?_
    refine VO.cR rfl rfl (fk Tryz.func122) (λdJ eu eO=>fx _ _ (eb ((l.map f).take i)) (f e) (bo K i) (bd K) dJ (ho.ki DW) ((hq4.cast hfv).ki (GP.mono (by unfold bd;omega))) (by have:=gw (k:=K) hi;omega) ab) (λdJ eu eO w4 s6 p6 n6 c6 t6 y6 m6 d6 q6 fe ir _ nu=>wV rfl ?_)
    refine aa ?_
    refine VS.back (N-(i+1)) ab ⟨_,_,?_,?_,?_,?_,⟨i+1,_,_,_,_,_,_,_,_,by omega,rfl,rfl,rfl,((q6.k).mono eO.size).cast (dV JZ).symm,by rw[dV JZ,gv];exact DW.add (GP.mono (by unfold bd;omega)),bg⟩⟩
    ·refine⟨rfl,rfl,?_,rfl,rfl,trivial⟩
     rw[<-aB (i:=i) ab];rfl
    ·exact cW
    ·rfl
    ·exact fR
 ·refine VS.aK rfl (decide_eq_false (λe=>hlt (Int.ofNat_lt.1 e))) ?_
  refine aa ?_
  refine au ?_;intro wz kz bz
  obtain rfl:i=N:=by omega
  rw[List.take_of_length_le (by rw[List.length_map];omega)] at ho DW
  exact⟨_,rfl,ho.kp kz,DW,bz⟩
end
section
open Go.RowKit
attribute [local irreducible] ao VS
def enz (e:cj):Bool:=decide (e.exp.2.2.2≠0)
def eh (l:List cj):List cj:=l.filter enz
end
section
open Go.RowKit
attribute [local irreducible] ao VS
end
section
open Go.RowKit
attribute [local irreducible] ao VS
end
section
open Go.RowKit
def Hp.Jx:Nat->List (TypeId×List AV)->Hp
 | _,[]=>λ_=>none
 | i,c::r=>λn=>bif Nat.beq n i then some c else Hp.Jx (i+1) r n
theorem Hp.mR:∀ (l:List (TypeId×List AV)) (i n:Nat),Hp.Jx i l n=if i<=n then l[n-i]? else none
 | [],i,n=>by unfold Hp.Jx;simp
 | c::r,i,n=>by
   unfold Hp.Jx
   rw[Hp.mR r (i+1) n]
   by_cases h:n=i
   ·subst h;simp
   ·have hb:Nat.beq n i=false:=by rw[<-Bool.not_eq_true,Nat.beq_eq];exact h
    rw[hb,cond_false]
    by_cases h1:i<=n
    ·rw[if_pos h1,if_pos ab,show n-i=(n-(i+1))+1 by omega];rfl
    ·rw[if_neg h1,if_neg ab]
def adB (N:Nat) (ad:List Nat):Nat->Nat:=λi=>ad.getD (i-2*N) 0
structure pJ (K:KC) (N:Nat) (ad:List Nat) (l:List (TypeId×List AV)) (w:World):Prop where
 len:ad.length=l.length
 nodup:ad.Nodup
 cls:∀ (j:Nat) (g:Nat) (c:TypeId×List AV),ad[j]? =some g->l[j]? =some c->bj w g c.1 (c.2.map (AV.leaf (adB N ad))).toArray
 ok:∀ c∈l,K.fz c.1=false/\c.2.all aL=true
 ids:∀ c∈l,∀ k∈aO c.2,2*N<=k/\k<2*N+l.length
theorem pJ.ad {K:KC} {N:Nat} {ad:List Nat} {l:List (TypeId×List AV)} {w:World} (h:pJ K N ad l w):ja K ad w:=λg hg=>by
 obtain⟨j,hj⟩:=List.mem_iff_getElem?.1 hg
 have hlt:=(List.getElem?_eq_some_iff.1 hj).1
 obtain⟨c,hc⟩:∃ c,l[j]? =some c:=⟨_,List.getElem?_eq_getElem (by rw[<-h.len];exact hlt)⟩
 obtain⟨h1,h2⟩:=h.ok c (List.mem_of_getElem? hc)
 exact⟨c.1,_,h.cls j g c hj hc,h1,dX h2⟩
theorem tK (P:Program) (w:World) (N:Nat) (K:KC) (SU:TypeId->Bool) (ti:TypeId->Option TI) (keep:∀ b,b<w.heap.size->K.S b) {ad:List Nat} {l:List (TypeId×List AV)} {us:List Value} {f:FuncId} {fn:Func} {c:Code} {R:Ending->World->Prop} (hf:P.funcs[f]? =some fn) (hb:fn.body=some c) (hN:fn.ntmps=N) (ha:us.length+1<=N)
  (hl:pJ K N ad l w) (h0:0<l.length)
  (h:VS (tV P w N K SU ti keep ad hl.nodup hl.ad) (bodyPost P fn R) [.code c] (Fr.IB 0 (.box (2*N) 0::us.map .val)) (Hp.Jx (2*N) l) w):Calls P f (Value.pointer (some ⟨ad.getD 0 0,0,none⟩)::us).toArray w R:=by
 have sW:∀ i c,Hp.Jx (2*N) l i=some c->2*N<=i/\l[i-2*N]? =some c:=λi c hi=>by
  rw[Hp.mR] at hi
  split at hi
  ·exact⟨by assumption,hi⟩
  ·cases hi
 have hsome:∀ i,Hp.Jx (2*N) l i≠none->2*N<=i/\i-2*N<l.length:=λi hi=>by
  cases hh:Hp.Jx (2*N) l i with
  | none=>exact absurd hh hi
  | some c=>
    obtain⟨h1,h2⟩:=sW i c hh
    exact⟨h1,(List.getElem?_eq_some_iff.1 h2).1⟩
 have hval:∀ k,k<ad.length->ad[k]? =some (ad.getD k 0):=λk hk=>by simp[List.getD_eq_getElem?_getD,hk]
 have:=tn (C:=tV P w N K SU ti keep ad hl.nodup hl.ad) (R:=R) (args:=.box (2*N) 0::us.map .val) (β:=adB N ad) (H:=Hp.Jx (2*N) l) hf hb hN (by simpa using ha) (λi t cs hi=> ?_) (λi j hi hj e=> ?_) ⟨λi t cs hi=> ?_,λi t cs hi=> ?_,λi hi=> ?_⟩ (λv hv i hi=> ?_) h
 ·have e:(AV.box (2*N) 0::us.map AV.val).map (AV.aU (adB N ad))=Value.pointer (some ⟨ad.getD 0 0,0,none⟩)::us:=by
   rw[List.map_cons,gn]
   show Value.pointer (some ⟨ad.getD (2*N-2*N) 0,0,none⟩)::us=_
   rw[Nat.sub_self]
  rw[e] at this
  exact this
 ·obtain⟨h1,h2⟩:=sW i _ hi
  have hlt:=(List.getElem?_eq_some_iff.1 h2).1
  obtain⟨g1,g2⟩:=hl.ok _ (List.mem_of_getElem? h2)
  have hv:=hval (i-2*N) (by rw[hl.len];exact hlt)
  refine⟨?_,g1,hl.cls _ _ _ hv h2,g2⟩
  show gK N ad w i (adB N ad i)
  unfold gK
  rw[if_pos h1]
  exact hv
 ·obtain⟨h1,h2⟩:=hsome i hi
  obtain⟨h3,h4⟩:=hsome j hj
  have e1:=hval (i-2*N) (by rw[hl.len];exact h2)
  have e2:=hval (j-2*N) (by rw[hl.len];exact h4)
  have e':ad.getD (i-2*N) 0=ad.getD (j-2*N) 0:=e
  rw[<-e'] at e2
  have:=(List.getElem?_inj (by rw[hl.len];exact h2) hl.nodup).1 (e1.trans e2.symm)
  omega
 ·obtain⟨h1,h2⟩:=sW i _ hi
  exact hl.ok _ (List.mem_of_getElem? h2)
 ·obtain⟨h1,h2⟩:=sW i _ hi
  intro j hj
  obtain⟨h3,h4⟩:=hl.ids _ (List.mem_of_getElem? h2) j hj
  rw[Hp.mR,if_pos h3,List.getElem?_eq_getElem ab]
  simp
 ·have rH:2*N+ad.length<=i:=hi
  rw[Hp.mR]
  split
  ·exact List.getElem?_eq_none (by rw[<-hl.len];omega)
  ·rfl
 ·rcases List.mem_cons.1 hv with rfl|hv
  ·have:i=2*N:=by simpa [AV.ids] using hi
   rw[this,Hp.mR,if_pos (Nat.le_refl _),Nat.sub_self,List.getElem?_eq_getElem h0];simp
  ·obtain⟨u,_,rfl⟩:=List.mem_map.1 hv
   cases hi
theorem xJ {P:Program} {w w':World} {N:Nat} {K:KC} {SU:TypeId->Bool} {ti:TypeId->Option TI} {keep:∀ b,b<w.heap.size->K.S b} {ad:List Nat} {hd:ad.Nodup} {ha:ja K ad w} {β:Nat->Nat} {i:Nat} {t:TypeId} {cs:List AV} (h:jL (tV P w N K SU ti keep ad hd ha) β w' i t cs) (j g:Nat) (hi:i=2*N+j) (hj:ad[j]? =some g):β i=g/\bj w' g t (cs.map (AV.leaf β)).toArray:=by
 have h1:gK N ad w i (β i):=h.new
 unfold gK at h1
 rw[if_pos ab,hi,Nat.add_sub_cancel_left,hj] at h1
 have h2:g=β i:=by rw[hi];simpa using h1
 exact⟨h2.symm,h2▸h.cls⟩
end
set_option maxRecDepth 4000
section
open Go.RowKit
attribute [local irreducible] ao VS
abbrev KP:KC:=⟨UU,λ_=>True,λt=> !(Nat.beq t 175 || (Nat.beq t 177 || Nat.beq t 34))⟩
abbrev Ms (P:Program) (w:World) (N:Nat) (ad:List Nat) (hd:ad.Nodup) (ha:ja KP ad w):Cx:=tV P w N KP (λt=>Nat.beq t 30) table (λ_ _=>trivial) ad hd ha
theorem kQ (w:World) (N:Nat) {ad:List Nat} {hd:ad.Nodup} {ha:ja KP ad w}:(Ms Tryz.prog w N ad hd ha).Ok:=jb
theorem Jy (w:World) (N:Nat) {ad:List Nat} {hd:ad.Nodup} {ha:ja KP ad w}:(Ms Tryz.prog w N ad hd ha).P.follows .mixedOrders=true:=by show Tryz.prog.follows .mixedOrders=true;kernel_rfl
section
variable {C:Cx} {m:Option (List FuncId)} {full:Array Oper} {K:Fr->Hp->World->Prop} {F F':Fr} {H H':Hp} {w w1:World} {N:Nat} {o:Oper} {r l l':List Oper} {Q:Exit->Act->World->Prop} {k k':List It} {v:AV} {u:Option (Nat×(TypeId×List AV))} {id:Nat} {ops:Array Oper}
theorem cxP_r {ad:List Nat} {hd:ad.Nodup} {ha:ja KP ad w1} (e:kO (Ms Tryz.prog w1 N ad hd ha) ops 80 ops.toList F H=(l',F',H')) (h:ao (Ms Tryz.prog w1 N ad hd ha) none ops l' (VS (Ms Tryz.prog w1 N ad hd ha) Q k) F' H' w):VS (Ms Tryz.prog w1 N ad hd ha) Q (.code (.region id ops false)::k) F H w:=VS.region (kQ _ _) (VO.run 80 e h)
theorem cxP_d {ad:List Nat} {hd:ad.Nodup} {ha:ja KP ad w1} (e:kO (Ms Tryz.prog w1 N ad hd ha) ops 80 ops.toList F H=(l',F',H')) (h:ao (Ms Tryz.prog w1 N ad hd ha) (some []) ops l' (VS (Ms Tryz.prog w1 N ad hd ha) Q k) F' H' w) (nh:kM (Ms Tryz.prog w1 N ad hd ha).SU [] ops=true:=by kernel_rfl):VS (Ms Tryz.prog w1 N ad hd ha) Q (.code (.region id ops true)::k) F H w:=VS.draw (kQ _ _) (Jy _ _) [] nh (VO.run 80 e h)
end
structure LedR (kk:Nat) (w:World) (g r n c:Nat) (vs:List (List Value)) (spare:List Value) (l:List cj):Prop where
 len:n=l.length
 ne:g≠r
 led:bj w g 175 #[.slice (some ⟨r,0,none⟩) n c]
 row:bj w r 177 (vs.flatten++spare).toArray
 el:de (ju kk) w l vs
 ok:spare.all bc=true
 le:n<=c
 cm:c<=9223372036854775807
 fl:(vs.flatten++spare).length=c*6
def LedAt (kk:Nat) (w:World) (B g:Nat) (l:List cj):Prop:=
 (l=[]/\bj w g 175 #[.slice none 0 0])\/∃ r n c vs spare,B<=r/\LedR kk w g r n c vs spare l
theorem Mu (w:World):Calls Tryz.prog 34 #[] w λo w'=>∃ g,o=.returned (.pointer (some ⟨g,0,none⟩))/\w.heap.size<=g/\bj w' g 175 #[.slice none 0 0]/\aw w w':=by
 refine ae (C:=aM Tryz.prog w _) (args:=[]) Tryz.func34 rfl Tryz.ntmps34 (bl rfl) ?_
 refine aa ?_
 refine VS.mh (cH _ _) rfl (λwz β kz bz en=> ?_)
 exact⟨_,rfl,(en.own 2 _ _ rfl).new,(en.own 2 _ _ rfl).cls,bz⟩
end
section
open Go.RowKit
attribute [local irreducible] ao VS
def ig (l:List cj) (e:cj):List cj:=if cN e.exp=true then l else if e.exp.2.2.2=0 then l else l++[e]
def Left (w:World) (r:Nat):Prop:=∃ (t:TypeId) (cs:List Value),bj w r t cs.toArray/\KP.fz t=false/\cs.all bc=true
theorem iy {P Q:Prop} (h:Q) (i:Q->P:=by intro h;(repeat first|refine wN ?_|refine wP rfl ?_|refine cxP_r rfl ?_|refine cxP_d rfl ?_|refine wO rfl rfl ?_);exact h):P:=i h
theorem cTcxP {P Q X:Prop} (hb:X) (h:Q) (i:X->Q->P:=by intro hb h;refine⟨_,rfl,hb,λa b c=>wV rfl ?_⟩;refine iy ?_;revert a b c;exact h):P:=i hb h
set_option maxRecDepth 4000 in
theorem Mv (g r n c:Nat) (vs:List (List Value)) (spare:List Value) (l:List cj) (v:Value) (y m:Int) (s:Bool) (xs:List Nat) (t:Bool) (ys:List Nat) (kk:Nat) (w:World)
  (hL:LedR kk w g r n c vs spare l) (hv:cJ w v s xs t ys) (hy:mQ y) (hm:mQ m) (yr:xs.length<=kk) (Aj:ys.length<=kk) (hk:kk<=1024) (hn64:n<=1000):
  Calls Tryz.prog 36 #[.pointer (some ⟨g,0,none⟩),.int .i64 y,.int .i64 m,v] w λo w'=>o=.returned (.int .i64 (if cN (cj.exp (y,m,s,xs,t,ys))=true then 2 else 0))/\uA [g,r] w w'/\Left w' r/\
   ∃ r' n' c' IY aP,(w.heap.size<=r'\/r'=r)/\LedR kk w' g r' n' c' IY aP (ig l (y,m,s,xs,t,ys)):=by
 obtain⟨qe,AZ,hg,hr,jQ,hsp,dL,eH,hlen⟩:=hL
 obtain⟨e,Mw⟩:∃ e:cj,e=(y,m,s,xs,t,ys):=⟨_,rfl⟩
 rw[<-Mw]
 have jf:=hv.in yr Aj
 have dZ:=hv
 obtain⟨p,cp,q,cq,rfl,-⟩:=hv.wi
 have GO:ju kk w [.int .i64 y,.int .i64 m,.bool s,.slice p xs.length cp,.bool t,.slice q ys.length cq] e:=by rw[Mw];exact⟨_,_,_,_,rfl,hy,hm,dZ,yr,Aj⟩
 have hq:e.exp.2.2.2=rq s xs t ys:=by rw[Mw];rfl
 obtain⟨hok1,hln1⟩:=jQ.ok (dm kk)
 have EM:(vs.flatten.map AV.val++spare.map AV.val).all aL=true:=by rw[<-List.map_append];exact cU (by rw[List.all_append,hok1,hsp];rfl)
 have Fs:pJ KP 51 [g,r] [(175,[.row 103 0 n c]),(177,vs.flatten.map .val++spare.map .val)] w:=by
  refine⟨rfl,by simp[AZ],λj g' c' hj hc=> ?_,λc' hc=> ?_,λc' hc k hk=> ?_⟩
  ·match j,hj,hc with
   | 0,hj,hc=>cases hj;cases hc;exact hg
   | 1,hj,hc=>cases hj;cases hc;rw[<-List.map_append,aW];exact hr
   | j+2,hj,_=>simp at hj
  ·rcases List.mem_cons.1 hc with rfl|hc
   ·exact⟨rfl,rfl⟩
   ·cases List.mem_singleton.1 hc
    exact⟨rfl,EM⟩
  ·rcases List.mem_cons.1 hc with rfl|hc
   ·have:k=103:=by simpa [aO,AV.cV] using hk
    subst this;exact⟨by omega,by show 103<2*51+2;omega⟩
   ·cases List.mem_singleton.1 hc
    rw[<-List.map_append,af] at hk;cases hk
 refine tK Tryz.prog w _ KP (λt=>Nat.beq t 30) table (λ_ _=>trivial) (ad:=[g,r]) (us:=[_,_,_]) Tryz.func36 rfl Tryz.ntmps36 (bl rfl) Fs (bl rfl) ?_
 refine iy ?_
 cases hw:cN e.exp with
 | true=>
   have hp:ig l e=l:=if_pos hw
   refine VO.cB rfl rfl (fk Tryz.func81) (λaC aY aH=>fy _ e kk aC ⟨_,rfl,GO.kp aY⟩ ab 2 (by rw[hw];rfl)) (λaC aY aH w1 aD bQ _ bb1=>wV rfl ?_)
   refine iy ?_
   refine VO.cB rfl rfl (fk Tryz.func81) (λaN bD bf=>fy _ e kk aN ⟨_,rfl,GO.kp (bQ.aA bD)⟩ ab 2 (by rw[hw];rfl)) (λaN bD bf w2 aQ cL _ bb2=>wV rfl ?_)
   refine iy ?_
   refine VS.mh (kQ _ _) rfl (λwz β kz oz en=> ?_)
   rw[hp]
   obtain⟨o1,o2⟩:=xJ (en.own 102 _ _ rfl) 0 g rfl rfl
   obtain⟨o3,o4⟩:=xJ (en.own 103 _ _ rfl) 1 r rfl rfl
   rw[List.map_append,aW,aW] at o4
   refine⟨rfl,oz.1,oz.2 r dw,r,n,c,vs,spare,.inr rfl,qe,AZ,?_,o4,jQ.kp (dm kk) (Kp.of (U:=UU) (aw.refl _) |>.aA ?_),hsp,dL,eH,hlen⟩
   ·have:β 103=r:=o3
    rw[<-this];exact o2
   ·exact ((bQ.aA cL).aA kz).iD
 | false=>
   have hn65:((n:Int) == 65536)=false:=by rw[beq_eq_false_iff_ne];omega
   refine VO.cB rfl rfl (fk Tryz.func81) (λaC aY aH=>fy _ e kk aC ⟨_,rfl,GO.kp aY⟩ ab 0 (by rw[hw];rfl)) (λaC aY aH w1 aD bQ _ bb1=>wV rfl ?_)
   refine iy ?_
   refine VS.aK rfl hn65 ?_
   refine iy ?_
   by_cases AG:rq s xs t ys=0
   ·have hp:ig l e=l:=by unfold ig;rw[hw,if_neg dw,if_pos (hq.trans AG)]
    refine VO.cB rfl rfl (fk Tryz.func82) (λaN bD bf=>mJ _ (rq s xs t ys) kk aN (jf.kp (bQ.aA bD)) ab 0 (qn AG)) (λaN bD bf w2 aQ cL _ bb2=>wV rfl ?_)
    refine iy ?_
    refine VS.mh (kQ _ _) rfl (λwz β kz oz en=> ?_)
    rw[hp]
    obtain⟨o1,o2⟩:=xJ (en.own 102 _ _ rfl) 0 g rfl rfl
    obtain⟨o3,o4⟩:=xJ (en.own 103 _ _ rfl) 1 r rfl rfl
    rw[List.map_append,aW,aW] at o4
    refine⟨rfl,oz.1,oz.2 r dw,r,n,c,vs,spare,.inr rfl,qe,AZ,?_,o4,jQ.kp (dm kk) ((bQ.aA cL).aA kz).iD,hsp,dL,eH,hlen⟩
    have:β 103=r:=o3
    rw[<-this];exact o2
   ·have hp:ig l e=l++[e]:=by unfold ig;rw[hw,if_neg dw,if_neg (λh=>AG (hq.symm.trans h))]
    obtain⟨sg,uC⟩:∃ sg,fK (rq s xs t ys) 0=sg:=⟨_,rfl⟩
    have hsg0:sg≠0:=by rw[<-uC];exact GG AG
    refine VO.cB rfl rfl (fk Tryz.func82) (λaN bD bf=>mJ _ (rq s xs t ys) kk aN (jf.kp (bQ.aA bD)) ab sg uC) (λaN bD bf w2 aQ cL _ bb2=>wV rfl ?_)
    refine iy ?_
    refine VS.aJ rfl (by simp[hsg0]) ?_
    refine iy ?_
    refine VO.fq rfl (fk Tryz.func43) (λcu β cM cX ho=>(mz _ [rq s xs t ys] kk cu (lN (ho.own 36 (.base (List.mem_singleton.2 rfl)) _ _ rfl) [] (vs:=[[.bool s,.slice p xs.length cp,.bool t,.slice q ys.length cq]]) (by rfl) rfl (eW.cons (jf.kp ((bQ.aA cL).aA cM)) eW.nil) (bl rfl) fc) (by unfold bo bd;simp;omega)).mono ?_)
    rintro o w3 ⟨r3,rfl,q3,hs3,ck⟩
    rw[ru] at q3
    have wD:=q3.rd.raw
    have hrt:nj s xs t ys=true:=by have:=(iI hw).2.2.2.2;rw[Mw] at this;exact this
    obtain⟨kW,ll,hr3,hr4⟩:=De hrt dZ.lims.1 dZ.lims.2
    rw[kW,ll,hr3,hr4] at wD
    obtain⟨p4,c4,y4,d4,rfl,-⟩:=wD.wi
    refine cTcxP ck ?_
    intro dR _ bb3
    have hE3:ju kk w3 [.int .i64 y,.int .i64 m,.bool s,.slice p4 xs.length c4,.bool t,.slice y4 ys.length d4] e:=by rw[Mw];exact⟨_,_,_,_,rfl,hy,hm,wD,yr,Aj⟩
    refine VO.app (kQ _ _) (t:=171) (e:=177) (sz:=6) (n:=n) (c:=c) (mm:=1) (known:=vs.flatten.map .val) (spare:=spare.map .val) (del:=some 103) (news:=([.int .i64 y,.int .i64 m,.bool s,.slice p4 xs.length c4,.bool t,.slice y4 ys.length d4]:List Value).map .val) (dst:=47) rfl rfl rfl rfl rfl rfl rfl rfl (bl rfl) rfl (.inr ⟨103,rfl,rfl,rfl⟩) (.inl rfl) (by rw[List.length_map,hln1,qe]) (by rw[<-List.map_append,List.length_map];exact hlen) dL eH ⟨af _,af _,rfl⟩ ⟨cU hok1,cU hsp,rfl⟩ rfl ab
     (λw1 β k1 b1 ho=>⟨_,_,rfl,.inr ⟨β 46,0,rfl,fJ (rest:=[]) (ho.own 46 (.base (List.mem_append_right _ (List.mem_singleton.2 rfl))) _ _ rfl) rfl⟩⟩)
     (λAl cap' aP ρ k13 b13 eV nH oP Mx hok' hlid'=>wV rfl ?_)
    refine iy ?_
    refine VS.mh (kQ _ _) rfl (λwz β kz oz en=> ?_)
    rw[hp]
    obtain⟨o1,o2⟩:=xJ (en.own 102 _ _ rfl) 0 g rfl rfl
    have o3:=en.own 47 _ _ rfl
    have o5:β 47≠g:=λe=>absurd (en.apart 102 47 (by intro h;cases h) (by intro h;cases h) (o1.trans e.symm)) fc
    have o6:w.heap.size<=β 47\/β 47=r:=by
     have:=ft (show gK 51 [g,r] w 47 (β 47) from o3.new)
     simpa [o5] using this
    have o7:=o3.cls
    rw[List.map_append,List.map_append,aW,aW] at o7
    refine⟨rfl,oz.1,oz.2 r dw,β 47,n+1,cap',vs++[[.int .i64 y,.int .i64 m,.bool s,.slice p4 xs.length c4,.bool t,.slice y4 ys.length d4]],aP.map (AV.leaf β),o6,by simp[qe],λe=>o5 e.symm,o2,?_,?_,dX hok',nH,oP,?_⟩
    ·rw[List.flatten_append];exact o7
    ·exact (jQ.kp (dm kk) ((bQ.aA cL).aA (dR.aA (k13.aA kz))).iD).snoc (hE3.kp (k13.aA kz).iD)
    ·have:=Mx
     simp only[List.length_append,List.length_map,List.length_cons,List.length_nil,List.flatten_append,List.flatten_cons,List.flatten_nil,List.append_nil] at this ⊢
     omega
end
section
open Go.RowKit
attribute [local irreducible] ao VS
set_option maxRecDepth 4000 in
theorem My (g:Nat) (v:Value) (y m:Int) (s:Bool) (xs:List Nat) (t:Bool) (ys:List Nat) (kk:Nat) (w:World)
  (hg:bj w g 175 #[.slice none 0 0]) (hv:cJ w v s xs t ys) (hy:mQ y) (hm:mQ m) (yr:xs.length<=kk) (Aj:ys.length<=kk) (hk:kk<=1024):
  Calls Tryz.prog 36 #[.pointer (some ⟨g,0,none⟩),.int .i64 y,.int .i64 m,v] w λo w'=>o=.returned (.int .i64 (if cN (cj.exp (y,m,s,xs,t,ys))=true then 2 else 0))/\uA [g] w w'/\LedAt kk w' w.heap.size g (ig [] (y,m,s,xs,t,ys))/\(ig [] (y,m,s,xs,t,ys)=[]->bj w' g 175 #[.slice none 0 0]):=by
 obtain⟨e,Mw⟩:∃ e:cj,e=(y,m,s,xs,t,ys):=⟨_,rfl⟩
 rw[<-Mw]
 have jf:=hv.in yr Aj
 have dZ:=hv
 obtain⟨p,cp,q,cq,rfl,-⟩:=hv.wi
 have GO:ju kk w [.int .i64 y,.int .i64 m,.bool s,.slice p xs.length cp,.bool t,.slice q ys.length cq] e:=by rw[Mw];exact⟨_,_,_,_,rfl,hy,hm,dZ,yr,Aj⟩
 have hq:e.exp.2.2.2=rq s xs t ys:=by rw[Mw];rfl
 have Fs:pJ KP 51 [g] [(175,[.val (.slice none 0 0)])] w:=by
  refine⟨rfl,by simp,λj g' c' hj hc=> ?_,λc' hc=> ?_,λc' hc k hk=> ?_⟩
  ·match j,hj,hc with
   | 0,hj,hc=>cases hj;cases hc;exact hg
   | j+1,hj,_=>simp at hj
  ·cases List.mem_singleton.1 hc;exact⟨rfl,rfl⟩
  ·cases List.mem_singleton.1 hc;cases hk
 refine tK Tryz.prog w _ KP (λt=>Nat.beq t 30) table (λ_ _=>trivial) (ad:=[g]) (us:=[_,_,_]) Tryz.func36 rfl Tryz.ntmps36 (bl rfl) Fs (bl rfl) ?_
 refine iy ?_
 cases hw:cN e.exp with
 | true=>
   have hp:ig [] e=[]:=if_pos hw
   refine VO.cB rfl rfl (fk Tryz.func81) (λaC aY aH=>fy _ e kk aC ⟨_,rfl,GO.kp aY⟩ ab 2 (by rw[hw];rfl)) (λaC aY aH w1 aD bQ _ bb1=>wV rfl ?_)
   refine iy ?_
   refine VO.cB rfl rfl (fk Tryz.func81) (λaN bD bf=>fy _ e kk aN ⟨_,rfl,GO.kp (bQ.aA bD)⟩ ab 2 (by rw[hw];rfl)) (λaN bD bf w2 aQ cL _ bb2=>wV rfl ?_)
   refine iy ?_
   refine VS.mh (kQ _ _) rfl (λwz β kz oz en=> ?_)
   rw[hp]
   obtain⟨o1,o2⟩:=xJ (en.own 102 _ _ rfl) 0 g rfl rfl
   exact⟨rfl,oz.1,.inl ⟨rfl,o2⟩,λ_=>o2⟩
 | false=>
   refine VO.cB rfl rfl (fk Tryz.func81) (λaC aY aH=>fy _ e kk aC ⟨_,rfl,GO.kp aY⟩ ab 0 (by rw[hw];rfl)) (λaC aY aH w1 aD bQ _ bb1=>wV rfl ?_)
   refine iy ?_
   by_cases AG:rq s xs t ys=0
   ·have hp:ig [] e=[]:=by unfold ig;rw[hw,if_neg dw,if_pos (hq.trans AG)]
    refine VO.cB rfl rfl (fk Tryz.func82) (λaN bD bf=>mJ _ (rq s xs t ys) kk aN (jf.kp (bQ.aA bD)) ab 0 (qn AG)) (λaN bD bf w2 aQ cL _ bb2=>wV rfl ?_)
    refine iy ?_
    refine VS.mh (kQ _ _) rfl (λwz β kz oz en=> ?_)
    rw[hp]
    obtain⟨o1,o2⟩:=xJ (en.own 102 _ _ rfl) 0 g rfl rfl
    exact⟨rfl,oz.1,.inl ⟨rfl,o2⟩,λ_=>o2⟩
   ·have hp:ig [] e=[e]:=by unfold ig;rw[hw,if_neg dw,if_neg (λh=>AG (hq.symm.trans h))];rfl
    obtain⟨sg,uC⟩:∃ sg,fK (rq s xs t ys) 0=sg:=⟨_,rfl⟩
    have hsg0:sg≠0:=by rw[<-uC];exact GG AG
    refine VO.cB rfl rfl (fk Tryz.func82) (λaN bD bf=>mJ _ (rq s xs t ys) kk aN (jf.kp (bQ.aA bD)) ab sg uC) (λaN bD bf w2 aQ cL _ bb2=>wV rfl ?_)
    refine iy ?_
    refine VS.aJ rfl (by simp[hsg0]) ?_
    refine iy ?_
    refine VO.fq rfl (fk Tryz.func43) (λcu β cM cX ho=>(mz _ [rq s xs t ys] kk cu (lN (ho.own 36 (.base (List.mem_singleton.2 rfl)) _ _ rfl) [] (vs:=[[.bool s,.slice p xs.length cp,.bool t,.slice q ys.length cq]]) (by rfl) rfl (eW.cons (jf.kp ((bQ.aA cL).aA cM)) eW.nil) (bl rfl) fc) (by unfold bo bd;simp;omega)).mono ?_)
    rintro o w3 ⟨r3,rfl,q3,hs3,ck⟩
    rw[ru] at q3
    have wD:=q3.rd.raw
    have hrt:nj s xs t ys=true:=by have:=(iI hw).2.2.2.2;rw[Mw] at this;exact this
    obtain⟨kW,ll,hr3,hr4⟩:=De hrt dZ.lims.1 dZ.lims.2
    rw[kW,ll,hr3,hr4] at wD
    obtain⟨p4,c4,y4,d4,rfl,-⟩:=wD.wi
    refine cTcxP ck ?_
    intro dR _ bb3
    have hE3:ju kk w3 [.int .i64 y,.int .i64 m,.bool s,.slice p4 xs.length c4,.bool t,.slice y4 ys.length d4] e:=by rw[Mw];exact⟨_,_,_,_,rfl,hy,hm,wD,yr,Aj⟩
    refine VO.app (kQ _ _) (t:=171) (e:=177) (sz:=6) (n:=0) (c:=0) (mm:=1) (known:=[]) (spare:=[]) (del:=none) (news:=([.int .i64 y,.int .i64 m,.bool s,.slice p4 xs.length c4,.bool t,.slice y4 ys.length d4]:List Value).map .val) (dst:=47) rfl rfl rfl rfl rfl rfl rfl rfl (bl rfl) rfl (.inl ⟨rfl,rfl,rfl,rfl,rfl,rfl,by omega⟩) (.inl rfl) rfl rfl (Nat.le_refl _) ab ⟨rfl,rfl,rfl⟩ ⟨rfl,rfl,rfl⟩ rfl ab
     (λw1 β k1 b1 ho=>⟨_,_,rfl,.inr ⟨β 46,0,rfl,fJ (rest:=[]) (ho.own 46 (.base (List.mem_append_right _ (List.mem_singleton.2 rfl))) _ _ rfl) rfl⟩⟩)
     (λAl cap' aP ρ k13 b13 eV nH oP Mx hok' hlid'=>wV rfl ?_)
    refine iy ?_
    refine VS.mh (kQ _ _) rfl (λwz β kz oz en=> ?_)
    rw[hp]
    obtain⟨o1,o2⟩:=xJ (en.own 102 _ _ rfl) 0 g rfl rfl
    have o3:=en.own 47 _ _ rfl
    have o5:β 47≠g:=λe=>absurd (en.apart 102 47 (by intro h;cases h) (by intro h;cases h) (o1.trans e.symm)) fc
    have o6:w.heap.size<=β 47:=by
     have:=ft (show gK 51 [g] w 47 (β 47) from o3.new)
     simpa [o5] using this
    have o7:=o3.cls
    rw[List.map_append,List.map_append,aW] at o7
    refine⟨rfl,oz.1,.inr ⟨β 47,1,cap',[[.int .i64 y,.int .i64 m,.bool s,.slice p4 xs.length c4,.bool t,.slice y4 ys.length d4]],aP.map (AV.leaf β),o6,rfl,λe=>o5 e.symm,o2,?_,?_,dX hok',by omega,oP,?_⟩,λh=>by cases h⟩
    ·exact o7
    ·exact .cons (hE3.kp (k13.aA kz).iD) .nil
    ·have:=Mx
     simp only[List.length_append,List.length_map,List.length_cons,List.length_nil,List.flatten_cons,List.flatten_nil,List.append_nil] at this ⊢
     omega
end
section
open Go.RowKit
section
variable {C:Cx} {F:Fr} {H:Hp} {w:World} {m:Option (List FuncId)} {full:Array Oper} {K:Fr->Hp->World->Prop} {o:Oper} {r:List Oper}
theorem VO.callB {d:gJ} {dst:Nat} {t:TypeId} {cs:List Value} (e:stepOf C full F H o=.call d) (hd:o.dst=some dst) (h0:H dst=none) (hN:dst<C.N) (hl:1<=lvl C.SU m o) (ht:C.K.fz t=false) (hc:cs.all bc=true)
  (h:∀ w1 β,aV C.K w w1->C.Old w1->iW C β H d.ids w1->rS C.P d β w1 λe w2=>∃ g,e=.returned (.pointer (some ⟨g,0,none⟩))/\aw w1 w2/\w1.heap.size<=g/\bj w2 g t cs.toArray/\
   (aV C.K w w2->aV C.K w1 w2->C.Old w2->ao C m full r K (F.bP o.dst (.box dst 0)) (H.put dst (t,cs.map .val)) w2)):ao C m full (o::r) K F H w:=by
 show one C m full o (ao C m full r K) F H w
 unfold one
 rw[e]
 refine λw1 β h1 h2 h3=>(h w1 β h1 h2 h3).mono ?_
 rintro e w2 ⟨g,rfl,hb,q1,q2,k2⟩
 let cf:Nat->Nat:=λi=>if i=dst then g else β i
 have qO:cf dst=g:=if_pos rfl
 refine⟨cf,.box dst 0,none,[(dst,(t,cs.map AV.val))],?_,λi hi=>.inl (by simpa [AV.ids] using hi),.inl hl,.inr rfl,?_,λa1 a2 a3 _ _=>k2 a1 a2 a3⟩
 ·show Ending.returned _=.returned (Value.pointer (some ⟨cf dst,0,none⟩));rw[qO]
 ·refine⟨hb.os,hb.tape,hb.output,hb.size,λk hk _ _ _=>Below.block hb k hk,λi hi=>if_neg (by simpa using hi),λi hi=>(by cases hi),λi hi=>(by cases hi),λx hx=> ?_,λx hx=> ?_,by simp,λx hx y hy _=> ?_,λx hx j hj=> ?_⟩
  ·cases List.mem_singleton.1 hx
   refine⟨by rw[qO];exact C.ta _ _ ab (by have:=C.iM _ h2;omega),ht,?_,cU hc⟩
   rw[qO,aW];exact q2
  ·cases List.mem_singleton.1 hx
   exact .inr ⟨.inl h0,by omega,.inl (by rw[qO];exact q1)⟩
  ·cases List.mem_singleton.1 hx;cases List.mem_singleton.1 hy;rfl
  ·cases List.mem_singleton.1 hx
   rw[af] at hj;cases hj
theorem rz (i o n c:Nat):aO [AV.row i o n c]=[i]:=rfl
theorem VO.Mz {d1 d2:Nat} {v:Value} {y z:Int} {s:Bool} {xs:List Nat} {t:Bool} {ys:List Nat} (kk:Nat) {code:Int} {l':List cj} (zl:(if cN (cj.exp (y,z,s,xs,t,ys))=true then (2:Int) else 0)=code) (DV:ig [] (y,z,s,xs,t,ys)=l') (hP:C.P=Tryz.prog) (e:stepOf C full F H o=.call (.fn 36 [.box d1 0,.val (.int .i64 y),.val (.int .i64 z),.val v])) (hf:jK C.P 36)
  (h1:H d1=some (175,[.val (.slice none 0 0)])) (h2:H d2=none) (hne:d1≠d2) (Mb:d2<2*C.N) (hl:1<=lvl C.SU m o) (ht2:C.K.fz 177=false)
  (hv:∀ w1,aV C.K w w1->C.Old w1->cJ w1 v s xs t ys) (hy:mQ y) (hz:mQ z) (yr:xs.length<=kk) (Aj:ys.length<=kk) (hk:kk<=1024)
  (k1:∀ w2,aV C.K w w2->C.Old w2->l'=[]->ao C m full r K (F.bP o.dst (.val (.int .i64 code))) (H.put d1 (175,[.val (.slice none 0 0)])) w2)
  (k2:∀ w2 n c vs spare,aV C.K w w2->C.Old w2->l'≠[]->n=l'.length->de (ju kk) w2 l' vs->spare.all bc=true->n<=c->c<=9223372036854775807->(vs.flatten++spare).length=c*6->
   ao C m full r K (F.bP o.dst (.val (.int .i64 code))) ((H.put d1 (175,[.row d2 0 n c])).put d2 (177,vs.flatten.map .val++spare.map .val)) w2):ao C m full (o::r) K F H w:=by
 subst zl DV
 show one C m full o (ao C m full r K) F H w
 unfold one
 rw[e]
 intro w1 β a1 a2 a3
 have kW:Reach H (gJ.fn 36 [.box d1 0,.val (.int .i64 y),.val (.int .i64 z),.val v]).ids d1:=.base (by simp[gJ.ids,eZ,AV.ids])
 have o1:=a3.own d1 kW _ _ h1
 refine⟨hf,(Calls.mono (show Calls C.P 36 #[.pointer (some ⟨β d1,0,none⟩),.int .i64 y,.int .i64 z,v] w1 _ from hP▸My (β d1) v y z s xs t ys kk w1 o1.cls (hv w1 a1 a2) hy hz yr Aj hk) ?_)⟩
 rintro e w2 ⟨rfl,hb,xK,hcn⟩
 by_cases dk:ig [] (y,z,s,xs,t,ys)=[]
 ·have hc:=hcn dk
  refine⟨β,.val _,none,[(d1,(175,[.val (.slice none 0 0)]))],rfl,λi hi=>(by cases hi),.inl hl,.inr rfl,?_,λa b c _ _=>k1 w2 a c dk⟩
  refine⟨hb.os,hb.tape,hb.output,hb.size,λk hk hx _ _=>hb.oO k hk (by simpa using hx),λ_ _=>rfl,λi hi=>(by cases hi),λi hi=>(by cases hi),λx hx=> ?_,λx hx=> ?_,by simp,λx hx y hy _=> ?_,λx hx j hj=> ?_⟩
  ·cases List.mem_singleton.1 hx
   exact⟨o1.new,o1.ty,hc,rfl⟩
  ·cases List.mem_singleton.1 hx
   exact .inl ⟨by rw[h1];simp,by simp,kW,rfl⟩
  ·cases List.mem_singleton.1 hx;cases List.mem_singleton.1 hy;rfl
  ·cases List.mem_singleton.1 hx
   cases hj
 ·obtain⟨r',n,c,vs,spare,hB,hL⟩:=xK.resolve_left (λh=>dk h.1)
  let cf:Nat->Nat:=λi=>if i=d2 then r' else β i
  have aQ:cf d2=r':=if_pos rfl
  have aD:cf d1=β d1:=if_neg hne
  have oT:vs.flatten.map AV.val++spare.map AV.val=(vs.flatten++spare).map AV.val:=by rw[List.map_append]
  have ji:(vs.flatten.map AV.val++spare.map AV.val).all aL=true:=by rw[oT];exact cU (by rw[List.all_append,(hL.el.ok (dm kk)).1,hL.ok];rfl)
  refine⟨cf,.val _,none,[(d1,(175,[.row d2 0 n c])),(d2,(177,vs.flatten.map AV.val++spare.map AV.val))],rfl,λi hi=>(by cases hi),.inl hl,.inr rfl,?_,λa _ b _ _=>k2 w2 n c vs spare a b dk hL.len hL.el hL.ok hL.le hL.cm hL.fl⟩
  refine⟨hb.os,hb.tape,hb.output,hb.size,λk hk hx _ _=>hb.oO k hk ?_,λi hi=>if_neg ?_,λi hi=>(by cases hi),λi hi=>(by cases hi),λx hx=> ?_,λx hx=> ?_,by simpa using hne,λx hx y hy he=> ?_,λx hx j hj=> ?_⟩
  ·have:=hx (d1,(175,[.row d2 0 n c])) dw
   simpa [aD] using this
  ·intro h;exact hi (by simp[h])
  ·rcases List.mem_cons.1 hx with rfl|hx
   ·refine⟨?_,o1.ty,?_,rfl⟩
    ·show C.uu d1 (cf d1);rw[aD];exact o1.new
    ·show bj w2 (cf d1) _ (#[.slice (some ⟨cf d2,0,none⟩) n c])
     rw[aD,aQ];exact hL.led
   ·cases List.mem_singleton.1 hx
    refine⟨by rw[aQ];exact C.ta _ _ Mb (by have:=C.iM _ a2;omega),ht2,?_,ji⟩
    rw[aQ,oT,aW];exact hL.row
  ·rcases List.mem_cons.1 hx with rfl|hx
   ·exact .inl ⟨by rw[h1];simp,by simp,kW,aD⟩
   ·cases List.mem_singleton.1 hx
    exact .inr ⟨.inl h2,Mb,.inl (by rw[aQ];exact hB)⟩
  ·have Hq:=hL.ne
   rcases List.mem_cons.1 hx with rfl|hx <;> rcases List.mem_cons.1 hy with rfl|hy
   ·rfl
   ·cases List.mem_singleton.1 hy
    exact absurd (aD.symm.trans (he.trans aQ)) Hq
   ·cases List.mem_singleton.1 hx
    exact absurd (aD.symm.trans (he.symm.trans aQ)) Hq
   ·cases List.mem_singleton.1 hx;cases List.mem_singleton.1 hy;rfl
  ·rcases List.mem_cons.1 hx with rfl|hx
   ·rw[rz] at hj
    cases List.mem_singleton.1 hj
    exact .inl dw
   ·cases List.mem_singleton.1 hx
    rw[oT,af] at hj;cases hj
theorem VO.MA {d1 d2 n c:Nat} {vs:List (List Value)} {spare:List Value} {l:List cj} {v:Value} {y z:Int} {s:Bool} {xs:List Nat} {t:Bool} {ys:List Nat} (kk:Nat) {code:Int} {l':List cj} (zl:(if cN (cj.exp (y,z,s,xs,t,ys))=true then (2:Int) else 0)=code) (DV:ig l (y,z,s,xs,t,ys)=l') (hP:C.P=Tryz.prog) (e:stepOf C full F H o=.call (.fn 36 [.box d1 0,.val (.int .i64 y),.val (.int .i64 z),.val v])) (hf:jK C.P 36)
  (h1:H d1=some (175,[.row d2 0 n c])) (h2:H d2=some (177,vs.flatten.map .val++spare.map .val)) (hne:d1≠d2) (Mb:d2<2*C.N) (hl:2<=lvl C.SU m o)
  (hn:n=l.length) (jQ:de (ju kk) w l vs) (hsp:spare.all bc=true) (dL:n<=c) (eH:c<=9223372036854775807) (AH:(vs.flatten++spare).length=c*6)
  (hU:∀ w1,aV C.K w w1->Kp UU w w1) (hT:∀ t,KP.fz t=false->C.K.fz t=false)
  (hv:∀ w1,aV C.K w w1->C.Old w1->cJ w1 v s xs t ys) (hy:mQ y) (hz:mQ z) (yr:xs.length<=kk) (Aj:ys.length<=kk) (hk:kk<=1024) (hn64:n<=1000)
  (k2:∀ w2 n' c' IY aP ρ,aV C.K w w2->C.Old w2->(∀ x,bc (ρ x)=true)->n'=l'.length->de (ju kk) w2 l' IY->aP.all bc=true->n'<=c'->c'<=9223372036854775807->(IY.flatten++aP).length=c' *6->
   ao C m full r K ((F.forget (some d2) ρ).bP o.dst (.val (.int .i64 code))) (((H.forget (some d2) ρ).put d1 (175,[.row d2 0 n' c'])).put d2 (177,IY.flatten.map .val++aP.map .val)) w2):ao C m full (o::r) K F H w:=by
 subst zl DV
 show one C m full o (ao C m full r K) F H w
 unfold one
 rw[e]
 intro w1 β a1 a2 a3
 have kW:Reach H (gJ.fn 36 [.box d1 0,.val (.int .i64 y),.val (.int .i64 z),.val v]).ids d1:=.base (by simp[gJ.ids,eZ,AV.ids])
 have ll:Reach H (gJ.fn 36 [.box d1 0,.val (.int .i64 y),.val (.int .i64 z),.val v]).ids d2:=.step kW h1 (by rw[rz];simp)
 have o1:=a3.own d1 kW _ _ h1
 have o2:=a3.own d2 ll _ _ h2
 have hmap0:∀ (vs:List (List Value)) (spare:List Value),vs.flatten.map AV.val++spare.map AV.val=(vs.flatten++spare).map AV.val:=λvs spare=>by rw[List.map_append]
 have hapart:β d1≠β d2:=λhe=>hne (a3.apart d1 d2 kW ll (by rw[h1];simp) (by rw[h2];simp) he)
 have hL0:LedR kk w1 (β d1) (β d2) n c vs spare l:=⟨hn,hapart,o1.cls,by have:=o2.cls;rw[hmap0,aW] at this;exact this,jQ.kp (dm kk) (hU w1 a1),hsp,dL,eH,AH⟩
 refine⟨hf,(Calls.mono (show Calls C.P 36 #[.pointer (some ⟨β d1,0,none⟩),.int .i64 y,.int .i64 z,v] w1 _ from hP▸Mv (β d1) (β d2) n c vs spare l v y z s xs t ys kk w1 hL0 (hv w1 a1 a2) hy hz yr Aj hk hn64) ?_)⟩
 rintro e w2 ⟨rfl,hb,xW,r',n',c',IY,aP,hB,hL⟩
 let cf:Nat->Nat:=λi=>if i=d2 then r' else β i
 have aQ:cf d2=r':=if_pos rfl
 have aD:cf d1=β d1:=if_neg hne
 have oT:=hmap0 IY aP
 have ji:(IY.flatten.map AV.val++aP.map AV.val).all aL=true:=by rw[oT];exact cU (by rw[List.all_append,(hL.el.ok (dm kk)).1,hL.ok];rfl)
 refine⟨cf,.val _,some d2,[(d1,(175,[.row d2 0 n' c'])),(d2,(177,IY.flatten.map AV.val++aP.map AV.val))],rfl,λi hi=>(by cases hi),.inl ab,.inl hl,?_,λa _ b ρ eV=>k2 w2 n' c' IY aP ρ a b eV hL.len hL.el hL.ok hL.le hL.cm hL.fl⟩
 refine⟨hb.os,hb.tape,hb.output,hb.size,λk hk hx Aj _=>hb.oO k hk ?_,λi hi=>if_neg ?_,λi hi=> ?_,λi hi=> ?_,λx hx=> ?_,λx hx=> ?_,by simpa using hne,λx hx y hy he=> ?_,λx hx j hj=> ?_⟩
 ·have e1:=hx (d1,(175,[.row d2 0 n' c'])) dw
  have e2:=Aj d2 rfl
  rw[aD] at e1
  simp[e1,e2]
 ·intro h;exact hi (by simp[h])
 ·cases hi;exact⟨ll,by rw[h2];simp⟩
 ·cases hi
  obtain⟨t,cs,q1,q2,q3⟩:=xW
  exact .inl (.inr ⟨t,cs,q1,hT t q2,q3⟩)
 ·rcases List.mem_cons.1 hx with rfl|hx
  ·refine⟨?_,o1.ty,?_,rfl⟩
   ·show C.uu d1 (cf d1);rw[aD];exact o1.new
   ·show bj w2 (cf d1) _ (#[.slice (some ⟨cf d2,0,none⟩) n' c'])
    rw[aD,aQ];exact hL.led
  ·cases List.mem_singleton.1 hx
   refine⟨?_,o2.ty,?_,ji⟩
   ·rw[aQ]
    rcases hB with hB|hB
    ·exact C.ta _ _ Mb (by have:=C.iM _ a2;omega)
    ·rw[hB];exact o2.new
   ·rw[aQ,oT,aW];exact hL.row
 ·rcases List.mem_cons.1 hx with rfl|hx
  ·exact .inl ⟨by rw[h1];simp,by simp[hne.symm],kW,aD⟩
  ·cases List.mem_singleton.1 hx
   refine .inr ⟨.inr rfl,Mb,?_⟩
   rcases hB with hB|hB
   ·exact .inl (by rw[aQ];exact hB)
   ·exact .inr ⟨d2,rfl,by rw[aQ];exact hB⟩
 ·have Hq:=hL.ne
  rcases List.mem_cons.1 hx with rfl|hx <;> rcases List.mem_cons.1 hy with rfl|hy
  ·rfl
  ·cases List.mem_singleton.1 hy
   exact absurd (aD.symm.trans (he.trans aQ)) Hq
  ·cases List.mem_singleton.1 hx
   exact absurd (aD.symm.trans (he.symm.trans aQ)) Hq
  ·cases List.mem_singleton.1 hx;cases List.mem_singleton.1 hy;rfl
 ·rcases List.mem_cons.1 hx with rfl|hx
  ·rw[rz] at hj
   cases List.mem_singleton.1 hj
   exact .inl dw
  ·cases List.mem_singleton.1 hx
   rw[oT,af] at hj;cases hj
end
end
section
open Go.RowKit
attribute [local irreducible] ao VS
theorem kp_fz {t:TypeId} (h:KP.fz t=false):(KU UU).fz t=false:=by
 have h':(Nat.beq t UU || _)=false:=h
 rw[Bool.or_eq_false_iff] at h'
 show (Nat.beq t UU || false)=false
 rw[h'.1];rfl
end
section
open Go.RowKit
section
variable {C:Cx} {F:Fr} {H:Hp} {w:World} {m:Option (List FuncId)} {full:Array Oper} {K:Fr->Hp->World->Prop} {o:Oper} {r:List Oper} {Q:Exit->Act->World->Prop} {k:List It}
def sK (F:Fr) (β:Nat->Nat):List (Nat×AV)->Prop
 | []=>True
 | p::r=>(∃ u x,F p.1=some u/\u.aU β=x/\p.2=.val x)/\sK F β r
theorem sK.mem {β:Nat->Nat}:∀ {L:List (Nat×AV)} {d:Nat} {v:AV},sK F β L->(d,v)∈L->∃ u x,F d=some u/\u.aU β=x/\v=.val x
 | p::r,d,v,h,hm=>by
   rcases List.mem_cons.1 hm with rfl|hm
   ·exact h.1
   ·exact sK.mem h.2 hm
theorem VS.MB (D:World->Cx) (hP:∀ w,(D w).P=C.P) (hN:∀ w,(D w).N=C.N) (hO:∀ w,(D w).Old w)
  (h:∀ w' β,aV C.K w w'->C.Old w'->Ends C β H w'->∃ L:List (Nat×AV),sK F β L/\VS (D w') Q k (Fr.of L) (λ_=>none) w'):VS C Q k F H w:=λβ a w' hr hk=>by
 obtain⟨L,hL,hv⟩:=h w' β hk hr.old ⟨hr.own,hr.apart⟩
 have:=hv β a w' ⟨hr.defers,by rw[hN];exact hr.size,λd v hd=> ?_,λi t cs hi=>(by cases hi),λi j hi=>absurd rfl hi,λd v hd i hi=> ?_,λd v hd=> ?_,⟨λi t cs hi=>(by cases hi),λi t cs hi=>(by cases hi),λi hi=>rfl⟩,hO w'⟩ (aV.refl _ _)
 ·rw[hP] at this
  exact this
 ·obtain⟨u,x,h1,rfl,rfl⟩:=hL.mem (Fr.fp hd)
  exact hr.tmp d u h1
 ·obtain⟨u,x,h1,rfl,rfl⟩:=hL.mem (Fr.fp hd)
  cases hi
 ·obtain⟨u,x,h1,rfl,rfl⟩:=hL.mem (Fr.fp hd)
  rw[hN];exact hr.fits d u h1
end
end
section
open Go.RowKit
attribute [local irreducible] ao VS
section
variable {F F':Fr} {H H':Hp} {w w1:World} {N:Nat} {l':List Oper} {Q:Exit->Act->World->Prop} {k:List It} {id:Nat} {ops:Array Oper}
end
def cexp (y n:Int) (q:Rat):cj:=(y,n,decide (q.num<0),limbs q.num.natAbs,decide ((q.den:Int)<0),limbs (q.den:Int).natAbs)
theorem MC (q:Rat):nj (decide (q.num<0)) (limbs q.num.natAbs) (decide ((q.den:Int)<0)) (limbs (q.den:Int).natAbs)=true:=by
 unfold nj
 rw[lV q.num,lV (q.den:Int),ff,ff]
 have h3:(0:Int)<q.den:=by have:=q.den_nz;omega
 have h4:Int.gcd q.num q.den=1:=by have:=q.reduced;simpa [Int.gcd,Nat.Coprime] using this
 rw[decide_eq_true h3,decide_eq_true h4];rfl
theorem MD (q:Rat):rq (decide (q.num<0)) (limbs q.num.natAbs) (decide ((q.den:Int)<0)) (limbs (q.den:Int).natAbs)=q:=by
 unfold rq;rw[ff,ff,yz]
theorem wE (y n:Int) (q:Rat):(cexp y n q).exp=(y,n,true,q):=by
 show (y,n,nj (decide (q.num<0)) (limbs q.num.natAbs) (decide ((q.den:Int)<0)) (limbs (q.den:Int).natAbs),rq (decide (q.num<0)) (limbs q.num.natAbs) (decide ((q.den:Int)<0)) (limbs (q.den:Int).natAbs))=_
 rw[MC,MD]
end
section
open Go.RowKit
abbrev fE:=Nat×Rat
def fb (q:Rat):Nat:=if q.den=1/\1<=q.num/\q.num<=40 then q.num.toNat else 0
theorem AB (q:Rat):fb q<=40:=by
 unfold fb;split
 ·omega
 ·omega
def aitem (p:fE×Rat):CW:=(p.1.1,p.1.2,p.2)
def bL (cs:List fE) (xs:List Rat):List CW:=(cs.zip xs).map aitem
def rA (p:fE×Rat):Bool:=p.1.1 == 6
def mS (y:Nat) (p:fE×Rat):cj:=cexp y (fb p.1.2) p.2
def jm (y:Nat) (l:List (fE×Rat)):List cj:=(l.filter rA).map (mS y)
def cT (cs:List fE) (xss:List (List Rat)):Nat->List cj
 | 0=>[]
 | n+1=>cT cs xss n++jm n (cs.zip (xss.getD n []))
structure Dh where
 p:Pt
 due:Rat
 bal:Rat
 own:Rat
def xL (P:Pt) (due bal:Rat):Dh:=⟨⟨P.b,P.s-due,P.d,P.i⟩,due,bal,P.s-due-P.i⟩
def sL (cs:List fE) (xss:List (List Rat)) (y:Nat):Dh:=
 xL (bS (bL cs (xss.getD y []))) (eE (cT cs xss (y+1)) y) (fA (cT cs xss (y+1)) y)
def ij (cs:List fE) (xss:List (List Rat)):List Dh:=(List.range xss.length).map (sL cs xss)
def eF (e:Int) (n:Nat) (t:List (List Rat)):Bool:=decide (e>=t.length) || ((t.getD e.toNat []).length != n)
def ke (k:fE):Bool:=k.1 == 6 && fb k.2 == 0
def gL (cs:List fE) (e:Int) (ts:List (List (List Rat))):Int:=
 if ts.length>40 then 3 else if e<0 then 2 else if ts.any (eF e cs.length) then 2 else if cs.any ke then 2 else 0
theorem amay_ok {cs:List fE} {e:Int} {ts:List (List (List Rat))} (h:gL cs e ts=0):ts.length<=40/\0<=e/\(∀ t∈ts,e.toNat<t.length/\(t.getD e.toNat []).length=cs.length)/\(∀ k∈cs,k.1=6->1<=fb k.2):=by
 unfold gL at h
 by_cases h1:ts.length>40
 ·rw[if_pos h1] at h;cases h
 rw[if_neg h1] at h
 by_cases h2:e<0
 ·rw[if_pos h2] at h;cases h
 rw[if_neg h2] at h
 by_cases h3:ts.any (eF e cs.length)=true
 ·rw[if_pos h3] at h;cases h
 rw[if_neg h3] at h
 by_cases h4:cs.any ke=true
 ·rw[if_pos h4] at h;cases h
 refine⟨by omega,by omega,λt ht=> ?_,λk hk h6=> ?_⟩
 ·have:eF e cs.length t=false:=by
   cases hx:eF e cs.length t with
   | false=>rfl
   | true=>exact absurd (List.any_eq_true.2 ⟨t,ht,hx⟩) h3
  unfold eF at this
  simp only[Bool.or_eq_false_iff,decide_eq_false_iff_not,bne_eq_false_iff_eq] at this
  exact⟨by omega,this.2⟩
 ·have:ke k=false:=by
   cases hx:ke k with
   | false=>rfl
   | true=>exact absurd (List.any_eq_true.2 ⟨k,hk,hx⟩) h4
  unfold ke at this
  rw[h6] at this
  simp at this
  omega
def bn (cs:List fE) (e:Int) (ts:List (List (List Rat))):List Dh:=if gL cs e ts=0 then ij cs (ts.map λt=>t.getD e.toNat []) else []
theorem wF (cs:List fE) (xss:List (List Rat)):∀ n,(cT cs xss n).length<=n*cs.length
 | 0=>by simp[cT]
 | n+1=>by
   have:=wF cs xss n
   have h2:(jm n (cs.zip (xss.getD n []))).length<=cs.length:=by
    unfold jm;rw[List.length_map]
    exact Nat.le_trans (List.length_filter_le _ _) (by rw[List.length_zip];omega)
   show (cT cs xss n++_).length<=_
   rw[List.length_append,Nat.add_mul,Nat.one_mul];omega
theorem sM {y:Nat} {p:fE×Rat} (hy:y<=9999) (h:1<=fb p.1.2):cN (mS y p).exp=false:=by
 have:=AB p.1.2
 rw[mS,wE]
 unfold cN
 simp only[Bool.or_eq_false_iff,decide_eq_false_iff_not,Bool.not_true,and_true]
 omega
theorem Fv {y:Nat} {l:List (fE×Rat)} {i:Nat} {p:fE×Rat} (h:l[i]? =some p):jm y (l.take (i+1))=jm y (l.take i)++(if rA p=true then [mS y p] else []):=by
 unfold jm;rw[ba h,List.filter_append,List.map_append]
 by_cases hd:rA p=true
 ·rw[if_pos hd,List.filter_cons_of_pos hd];rfl
 ·rw[if_neg hd,List.filter_cons_of_neg hd];rfl
set_option maxRecDepth 4000
def ElB {α:Type} (E:World->List Value->α->Prop):Prop:=∀ {w w':World} {cs:List Value} {a:α},E w cs a->aw w w'->E w' cs a
theorem fU.b {α:Type} {E:World->List Value->α->Prop} {sz:Nat} (h:fU E sz):ElB E:=λhE hb=>h.kp hE (Kp.of hb)
theorem bM.oV {α:Type} {E:World->List Value->α->Prop} {sz:Nat} {w w':World} {v:Value} {es:List α} (hE:ElB E) (h:bM E sz w v es) (hb:aw w w'):bM E sz w' v es:=by
 obtain⟨p,c,hv,h1,h2,h3⟩:=h
 refine⟨p,c,hv,h1,h2,λi q hq=> ?_⟩
 obtain⟨b,off,cs,hp,hc,hr⟩:=h3 i q hq
 exact⟨b,off,cs,hp,λj u hj=>hb.cell (hc j u hj),hE hr hb⟩
def fC (kk:Nat) (w:World) (cs:List Value) (x:fE):Prop:=∃ nm s p n c t y m d,cs=[.string nm,.int .u8 (x.1:Int),.bool s,.slice p n c,.bool t,.slice y m d]/\x.1<256/\ax w (.agg #[.bool s,.slice p n c,.bool t,.slice y m d]) x.2 kk
theorem dU (kk:Nat):fU (fC kk) 6 where
 kp:=λh k=>by
  obtain⟨nm,s,p,n,c,t,y,m,d,hv,h1,h2⟩:=h
  exact⟨_,_,_,_,_,_,_,_,_,hv,h1,h2.kp k⟩
 len:=λh=>by
  obtain⟨nm,s,p,n,c,t,y,m,d,rfl,_⟩:=h
  rfl
 ok:=λh=>by
  obtain⟨nm,s,p,n,c,t,y,m,d,rfl,_⟩:=h
  rfl
def oW (kk:Nat) (w:World) (cs:List Value) (q:Rat):Prop:=∃ s p n c t y m d,cs=[.bool s,.slice p n c,.bool t,.slice y m d]/\ax w (.agg #[.bool s,.slice p n c,.bool t,.slice y m d]) q kk
theorem fD (kk:Nat):fU (oW kk) 4 where
 kp:=λh k=>by
  obtain⟨s,p,n,c,t,y,m,d,hv,h2⟩:=h
  exact⟨_,_,_,_,_,_,_,_,hv,h2.kp k⟩
 len:=λh=>by
  obtain⟨s,p,n,c,t,y,m,d,rfl,_⟩:=h
  rfl
 ok:=λh=>by
  obtain⟨s,p,n,c,t,y,m,d,rfl,_⟩:=h
  rfl
def nc (kk:Nat) (w:World) (cs:List Value) (r:List Rat):Prop:=∃ v,cs=[v]/\bM (oW kk) 4 w v r
def jW (kk:Nat) (w:World) (cs:List Value) (t:List (List Rat)):Prop:=∃ v,cs=[v]/\bM (nc kk) 1 w v t
theorem wH (kk:Nat):ElB (nc kk):=λh hb=>by
 obtain⟨v,hv,h1⟩:=h
 exact⟨v,hv,h1.oV (fD kk).b hb⟩
theorem pK (kk:Nat):ElB (jW kk):=λh hb=>by
 obtain⟨v,hv,h1⟩:=h
 exact⟨v,hv,h1.oV (wH kk) hb⟩
theorem bM.sl {α:Type} {E:World->List Value->α->Prop} {sz:Nat} {w:World} {v:Value} {es:List α} (h:bM E sz w v es):∃ p c,v=.slice p es.length c:=by
 obtain⟨p,c,hv,_⟩:=h
 exact⟨p,c,hv⟩
theorem ax.raw {w:World} {v:Value} {q:Rat} {k:Nat} (h:ax w v q k):∃ (a:Bool×Rat) (s:Bool) (p:Option Addr) (c:Nat) (t:Bool) (r:Option Addr) (d:Nat) (xs ys:List Nat),v=.agg #[.bool s,.slice p xs.length c,.bool t,.slice r ys.length d]/\Aw k w [.bool s,.slice p xs.length c,.bool t,.slice r ys.length d] a/\a.2=q/\(a.1=false->q=0):=by
 obtain⟨s,xs,t,ys,hr,rfl,hx,hy⟩:=h
 obtain⟨p,c,r,d,rfl,-⟩:=hr.wi
 exact⟨(nj s xs t ys,rq s xs t ys),s,p,c,t,r,d,xs,ys,rfl,⟨s,p,c,t,r,d,xs,ys,rfl,hr,rfl,hx,hy⟩,rfl,λe=>oe e⟩
theorem Di {q:Rat} (h:q.den=1):q.floor=q.num:=by
 rw[Rat.floor_def,h];simp
attribute [local irreducible] ao VS
theorem Jz (v:Value) (X:Int) (k:Nat) (w:World) (hv:bt w v X k):
  Calls Tryz.prog 84 #[v] w λe w'=>∃ n b,e=.returned (.tuple #[.int .i64 n,.bool b])/\(b=true->n=X)/\(b=false->4294967296<=X.natAbs)/\aw w w':=by
 by_cases h:X.natAbs<4294967296
 ·refine (Fg v X k w hv h).mono ?_
  rintro e w' ⟨rfl,hb⟩
  exact⟨_,_,rfl,λ_=>rfl,λh=>(by cases h),hb⟩
 ·refine (Fh v X k w hv).mono ?_
  rintro e w' ⟨n,b,rfl,h1,hb⟩
  exact⟨_,_,rfl,h1,λ_=>by omega,hb⟩
theorem zm {a:Bool×Rat} {q:Rat} (h2:a.2=q) (h1:a.1=false->q=0) (h:dK a=false):fb q=0:=by
 unfold dK at h
 unfold fb
 rw[h2] at h
 cases ha:a.1 with
 | false=>rw[h1 ha];rfl
 | true=>
   rw[ha,Bool.true_and,decide_eq_false_iff_not] at h
   rw[if_neg (λe=>h e.1)]
theorem Fw {a:Bool×Rat} {q:Rat} (h2:a.2=q) (h:dK a=true):q.den=1:=by
 unfold dK at h
 rw[h2,Bool.and_eq_true,decide_eq_true_iff] at h
 exact h.2
theorem wR {q:Rat} (h:q.num<1\/40<q.num):fb q=0:=by unfold fb;rw[if_neg ab]
theorem ayrs_in {q:Rat} (hd:q.den=1) (h1:1<=q.num) (h2:q.num<=40):(fb q:Int)=q.num:=by unfold fb;rw[if_pos ⟨hd,h1,h2⟩];omega
theorem wS (cs:List Value) (x:fE) (kk:Nat) (w:World) (hv:fC kk w cs x) (hk:kk<=1000000):
  Calls Tryz.prog 37 #[.agg cs.toArray] w λe w'=>e=.returned (.int .i64 (fb x.2:Int))/\aw w w':=by
 obtain⟨nm,s0,p0,n0,c0,t0,y0,m0,d0,rfl,oX,jf⟩:=hv
 obtain⟨a,s,p,c,t,r,d,xs,ys,he,dZ,ha2,ha1⟩:=jf.raw
 injection he with he
 have zV:=congrArg Array.toList he
 simp only[List.cons.injEq,Value.bool.injEq,Value.slice.injEq,and_true] at zV
 obtain⟨rfl,⟨rfl,rfl,rfl⟩,rfl,rfl,rfl,rfl⟩:=zV
 refine ae (C:=aM Tryz.prog w _) (args:=[_]) Tryz.func37 rfl Tryz.ntmps37 (bl rfl) ?_
 refine aa ?_
 refine VO.fq rfl (fk Tryz.func83) (λaC β aY aH ho=>(xI _ [a] kk aC (js (mM kk) (ho.own 7 (.base (List.mem_singleton.2 rfl)) _ _ rfl) [] (vs:=[[.bool s0,.slice p0 xs.length c0,.bool t0,.slice y0 ys.length d0]]) (by rfl) (.cons ((mM kk).kp dZ (Kp.of (U:=UU) aH)) .nil) rfl (Nat.le_refl _) (show (1:Nat)<=9223372036854775807 by omega)) ab).mono ?_)
 rintro e w1 ⟨rfl,aD⟩
 cases hw:dK a with
 | false=>
   rw[show [a].all dK=false by simp[hw]]
   refine aF aD ?_
   intro bQ _ bb1
   refine au ?_;intro wz kz bz
   exact⟨by rw[zm ha2 ha1 hw];rfl,bz⟩
 | true=>
   rw[show [a].all dK=true by simp[hw]]
   have hd:=Fw ha2 hw
   have AH:=Di hd
   refine aF aD ?_
   intro bQ _ bb1
   refine VO.cI rfl rfl (fk Tryz.func85) (λaN bD bf=>CT _ x.2 kk aN jf.k ab) (λaN bD bf w2 s2 p2 n2 c2 q2 aQ cL _ bb2=>wV rfl ?_)
   refine aa ?_
   rw[AH] at q2
   refine VO.call rfl rfl (fk Tryz.func84) (λcu cM cX=>(Jz _ x.2.num (bd kk) cu (q2.ki (jf.lM.1))).mono ?_)
   rintro e w3 ⟨n,b,rfl,hn,Hw,ck⟩
   cases b with
   | false=>
     refine aF ck ?_
     intro dR _ bb3
     refine au ?_;intro wz kz bz
     exact⟨by rw[wR (by have:=Hw rfl;omega)];rfl,bz⟩
   | true=>
     obtain rfl:=hn rfl
     obtain⟨Y,hY⟩:∃ Y,Y=x.2.num:=⟨_,rfl⟩
     rw[<-hY]
     by_cases h1:Y<1
     ·refine aF ck ?_
      intro dR _ bb3
      refine VO.fix 23 rfl (congrArg (λb=>AV.val (.bool b)) (decide_eq_true h1)) ?_
      refine aa ?_
      refine au ?_;intro wz kz bz
      exact⟨by rw[wR ab];rfl,bz⟩
     ·by_cases h2:Y>40
      ·refine aF ck ?_
       intro dR _ bb3
       refine VO.fix 23 rfl (congrArg (λb=>AV.val (.bool b)) (decide_eq_false h1)) ?_
       refine aa ?_
       refine VS.aJ rfl (decide_eq_true h2) ?_
       refine aa ?_
       refine au ?_;intro wz kz bz
       exact⟨by rw[wR ab];rfl,bz⟩
      ·refine aF ck ?_
       intro dR _ bb3
       refine VO.fix 23 rfl (congrArg (λb=>AV.val (.bool b)) (decide_eq_false h1)) ?_
       refine aa ?_
       refine VS.aK rfl (decide_eq_false h2) ?_
       refine aa ?_
       refine au ?_;intro wz kz bz
       exact⟨by rw[ayrs_in hd ab ab,hY];rfl,bz⟩
theorem JA (v:Value) (p:Option Addr) (N c b1 b2 kk:Nat) (e:Int) (t:List (List Rat)) (w:World) (hv:bM (nc kk) 1 w v t) (h1:w.cell? ⟨b1,0,none⟩=some (.int .i64 e)) (h2:w.cell? ⟨b2,0,none⟩=some (.slice p N c)) (he:0<=e):
  Calls Tryz.prog 77 #[.agg #[v],.pointer (some ⟨b1,0,none⟩),.pointer (some ⟨b2,0,none⟩)] w λo w'=>o=.returned (.bool (eF e N t))/\aw w w':=by
 obtain⟨pr,cr,rfl⟩:=hv.sl
 obtain⟨L,hL⟩:∃ L,L=t.length:=⟨_,rfl⟩
 rw[<-hL] at hv ⊢
 refine ae (C:=aM Tryz.prog w _) (args:=[_,_,_]) Tryz.func77 rfl Tryz.ntmps77 (bl rfl) ?_
 refine aa ?_
 refine VO.read rfl [.int .i64 e] rfl (fN h1) (wV rfl ?_)
 refine aa ?_
 by_cases Ln:e>=(L:Int)
 ·refine VO.fix 10 rfl (congrArg (λb=>AV.val (.bool b)) (decide_eq_true Ln)) ?_
  refine aa ?_
  refine au ?_;intro wz kz bz
  exact⟨by unfold eF;rw[<-hL,decide_eq_true Ln];rfl,bz⟩
 ·refine VO.fix 10 rfl (congrArg (λb=>AV.val (.bool b)) (decide_eq_false Ln)) ?_
  refine aa ?_
  obtain⟨xs,hx⟩:∃ xs,t[e.toNat]? =some xs:=⟨_,List.getElem?_eq_getElem ab⟩
  obtain⟨b,off,gM,rfl,hc,⟨u1,rfl,xo⟩⟩:=hv.at hx
  obtain⟨p3,c3,rfl⟩:=xo.sl
  refine VO.read rfl [.int .i64 e] rfl (fN h1) (wV rfl ?_)
  refine aa ?_
  refine VO.cond rfl dz (wV rfl ?_)
  refine VO.read rfl [.slice p3 xs.length c3] rfl (λj u hj=>by rw[Addr.add_mid];have:=hc j u hj;rwa [Nat.mul_comm] at this ⊢) (wV rfl ?_)
  refine aa ?_
  refine VO.read rfl [.slice p N c] rfl (fN h2) (wV rfl ?_)
  refine aa ?_
  refine au ?_;intro wz kz bz
  refine⟨congrArg (λb=>Ending.returned (.bool b)) ?_,bz⟩
  unfold eF
  rw[<-hL,decide_eq_false Ln,Bool.false_or,List.getD_eq_getElem?_getD,hx]
  show ((xs.length:Int) != (N:Int))=(xs.length != N)
  by_cases hh:xs.length=N
  ·rw[hh];simp
  ·rw[bne_iff_ne.2 hh,bne_iff_ne.2 ab]
end
set_option maxRecDepth 4000
section
open Go.RowKit
attribute [local irreducible] ao VS
theorem Fx (g:FuncId) (c1 c2:Value) (P:List (List Rat)->Bool) (kk:Nat) (kg:jK Tryz.prog g) (v:Value) (es:List (List (List Rat))) (w:World) (hv:bM (jW kk) 1 w v es) (hg:∀ (cs:List Value) (a:List (List Rat)) (w1:World),aw w w1->jW kk w1 cs a->Calls Tryz.prog g #[.agg cs.toArray,c1,c2] w1 λe w'=>e=.returned (.bool (P a))/\aw w1 w'):
  Calls Tryz.prog 137 #[v,.func (.func g) #[] #[c1,c2]] w λe w'=>∃ r,e=.returned (.int .i64 r)/\decide (r>=0)=es.any P/\aw w w':=by
 obtain⟨p,c,rfl,dL,eH⟩:=hv.form
 obtain⟨N,hN⟩:∃ N,N=es.length:=⟨_,rfl⟩
 rw[<-hN] at hv dL ⊢
 refine ae (C:=aM Tryz.prog w _) (args:=[_,_]) Tryz.func137 rfl Tryz.ntmps137 (bl rfl) ?_
 refine aa ?_
 refine VS.loop (J:=λmm L M w'=>∃ z:Nat,z<=N/\mm=N-z/\L=[(0,.val (.slice p N c)),(1,.val (.func (.func g) #[] #[c1,c2])),(7,.val (.int .i64 (N:Int))),(8,.val (.int .i64 (z:Int)))]/\M=[]/\(es.take z).any P=false) N ⟨_,_,?_,?_,?_,?_,⟨0,by omega,rfl,rfl,rfl,rfl⟩⟩ ?_
 ·exact cW
 ·exact cW
 ·rfl
 ·exact fR
 rintro mm L M wJ ⟨z,hz,rfl,rfl,rfl,hno⟩
 refine aa ?_
 by_cases hlt:z<N
 ·obtain⟨a,hx⟩:∃ x,es[z]? =some x:=⟨_,List.getElem?_eq_getElem ab⟩
  obtain⟨b,off,cs,rfl,hc,he⟩:=hv.at hx
  have zV:=he
  obtain⟨u,rfl,-⟩:=zV
  refine VS.aJ rfl (decide_eq_true (Int.ofNat_lt.2 hlt)) ?_
  refine aa ?_
  refine VO.cond rfl dz ?_
  refine wV rfl ?_
  refine aa ?_
  refine VO.read rfl [u] rfl (λj u hj=>by rw[Addr.add_mid,Int.toNat_natCast];exact hc j u hj) (wV rfl ?_)
  refine VO.call rfl rfl kg (λaC aY aH=>(hg _ a aC aH (pK kk he aH)).mono ?_)
  rintro e w1 ⟨rfl,aD⟩
  cases hP:P a with
  | true=>
    refine aF aD ?_
    intro bQ _ bb1
    refine au ?_;intro wz kz bz
    refine⟨_,rfl,?_,bz⟩
    rw[List.any_eq_true.2 ⟨a,List.mem_of_getElem? hx,hP⟩,decide_eq_true ab]
  | false=>
    refine aF aD ?_
    intro bQ _ bb1
    refine VS.back (N-(z+1)) ab ⟨_,_,?_,?_,?_,?_,⟨z+1,by omega,rfl,rfl,rfl,?_⟩⟩
    ·refine⟨rfl,rfl,rfl,?_,trivial⟩
     rw[<-aB ab];rfl
    ·exact cW
    ·rfl
    ·exact fR
    ·rw[ba hx,List.any_append,hno];simp[hP]
 ·refine VS.aK rfl (decide_eq_false (λe=>hlt (Int.ofNat_lt.1 e))) ?_
  obtain rfl:z=N:=by omega
  refine aa ?_
  refine au ?_;intro wz kz bz
  rw[List.take_of_length_le ab] at hno
  exact⟨_,rfl,by rw[hno];rfl,bz⟩
theorem Fy (g:FuncId) (c1 c2:Value) (P:List (List Rat)->Bool) (kk:Nat) (kg:jK Tryz.prog g) (v:Value) (es:List (List (List Rat))) (w:World) (hv:bM (jW kk) 1 w v es) (hg:∀ (cs:List Value) (a:List (List Rat)) (w1:World),aw w w1->jW kk w1 cs a->Calls Tryz.prog g #[.agg cs.toArray,c1,c2] w1 λe w'=>e=.returned (.bool (P a))/\aw w1 w'):
  Calls Tryz.prog 79 #[v,.func (.func g) #[] #[c1,c2]] w λe w'=>e=.returned (.bool (es.any P))/\aw w w':=by
 obtain⟨p,c,rfl,dL,eH⟩:=hv.form
 refine ae (C:=aM Tryz.prog w _) (args:=[_,_]) Tryz.func79 rfl Tryz.ntmps79 (bl rfl) ?_
 refine aa ?_
 refine VO.call rfl rfl (fk Tryz.func137) (λaC aY aH=>(Fx g c1 c2 P kk kg _ es aC (hv.oV (pK kk) aH) (λcs a w1 h1 h2=>hg cs a w1 (aH.aA h1) h2)).mono ?_)
 rintro e w1 ⟨r1,rfl,h1,aD⟩
 refine aF aD ?_
 intro bQ _ bb1
 refine au ?_;intro wz kz bz
 exact⟨congrArg (λb=>Ending.returned (.bool b)) h1,bz⟩
theorem Fz (g:FuncId) (P:fE->Bool) (kk:Nat) (kg:jK Tryz.prog g) (v:Value) (es:List (fE)) (w:World) (hv:bM (fC kk) 6 w v es) (hg:∀ (cs:List Value) (a:fE) (w1:World),aw w w1->fC kk w1 cs a->Calls Tryz.prog g #[.agg cs.toArray] w1 λe w'=>e=.returned (.bool (P a))/\aw w1 w'):
  Calls Tryz.prog 133 #[v,.func (.func g) #[] #[]] w λe w'=>∃ r,e=.returned (.int .i64 r)/\decide (r>=0)=es.any P/\aw w w':=by
 obtain⟨p,c,rfl,dL,eH⟩:=hv.form
 obtain⟨N,hN⟩:∃ N,N=es.length:=⟨_,rfl⟩
 rw[<-hN] at hv dL ⊢
 refine ae (C:=aM Tryz.prog w _) (args:=[_,_]) Tryz.func133 rfl Tryz.ntmps133 (bl rfl) ?_
 refine aa ?_
 refine VS.loop (J:=λmm L M w'=>∃ z:Nat,z<=N/\mm=N-z/\L=[(0,.val (.slice p N c)),(1,.val (.func (.func g) #[] #[])),(7,.val (.int .i64 (N:Int))),(8,.val (.int .i64 (z:Int)))]/\M=[]/\(es.take z).any P=false) N ⟨_,_,?_,?_,?_,?_,⟨0,by omega,rfl,rfl,rfl,rfl⟩⟩ ?_
 ·exact cW
 ·exact cW
 ·rfl
 ·exact fR
 rintro mm L M wJ ⟨z,hz,rfl,rfl,rfl,hno⟩
 refine aa ?_
 by_cases hlt:z<N
 ·obtain⟨a,hx⟩:∃ x,es[z]? =some x:=⟨_,List.getElem?_eq_getElem ab⟩
  obtain⟨b,off,cs,rfl,hc,he⟩:=hv.at hx
  have zV:=he
  obtain⟨nm,s0,p0,n0,c0,t0,y0,m0,d0,rfl,-⟩:=zV
  refine VS.aJ rfl (decide_eq_true (Int.ofNat_lt.2 hlt)) ?_
  refine aa ?_
  refine VO.cond rfl dz ?_
  refine wV rfl ?_
  refine aa ?_
  refine VO.read rfl [.string nm,.int .u8 (a.1:Int),.bool s0,.slice p0 n0 c0,.bool t0,.slice y0 m0 d0] rfl (λj u hj=>by rw[Addr.add_mid,Int.toNat_natCast];exact hc j u hj) (wV rfl ?_)
  refine VO.call rfl rfl kg (λaC aY aH=>(hg _ a aC aH ((dU kk).b he aH)).mono ?_)
  rintro e w1 ⟨rfl,aD⟩
  cases hP:P a with
  | true=>
    refine aF aD ?_
    intro bQ _ bb1
    refine au ?_;intro wz kz bz
    refine⟨_,rfl,?_,bz⟩
    rw[List.any_eq_true.2 ⟨a,List.mem_of_getElem? hx,hP⟩,decide_eq_true ab]
  | false=>
    refine aF aD ?_
    intro bQ _ bb1
    refine VS.back (N-(z+1)) ab ⟨_,_,?_,?_,?_,?_,⟨z+1,by omega,rfl,rfl,rfl,?_⟩⟩
    ·refine⟨rfl,rfl,rfl,?_,trivial⟩
     rw[<-aB ab];rfl
    ·exact cW
    ·rfl
    ·exact fR
    ·rw[ba hx,List.any_append,hno];simp[hP]
 ·refine VS.aK rfl (decide_eq_false (λe=>hlt (Int.ofNat_lt.1 e))) ?_
  obtain rfl:z=N:=by omega
  refine aa ?_
  refine au ?_;intro wz kz bz
  rw[List.take_of_length_le ab] at hno
  exact⟨_,rfl,by rw[hno];rfl,bz⟩
theorem FA (g:FuncId) (P:fE->Bool) (kk:Nat) (kg:jK Tryz.prog g) (v:Value) (es:List (fE)) (w:World) (hv:bM (fC kk) 6 w v es) (hg:∀ (cs:List Value) (a:fE) (w1:World),aw w w1->fC kk w1 cs a->Calls Tryz.prog g #[.agg cs.toArray] w1 λe w'=>e=.returned (.bool (P a))/\aw w1 w'):
  Calls Tryz.prog 80 #[v,.func (.func g) #[] #[]] w λe w'=>e=.returned (.bool (es.any P))/\aw w w':=by
 obtain⟨p,c,rfl,dL,eH⟩:=hv.form
 refine ae (C:=aM Tryz.prog w _) (args:=[_,_]) Tryz.func80 rfl Tryz.ntmps80 (bl rfl) ?_
 refine aa ?_
 refine VO.call rfl rfl (fk Tryz.func133) (λaC aY aH=>(Fz g P kk kg _ es aC (hv.oV ((dU kk).b) aH) (λcs a w1 h1 h2=>hg cs a w1 (aH.aA h1) h2)).mono ?_)
 rintro e w1 ⟨r1,rfl,h1,aD⟩
 refine aF aD ?_
 intro bQ _ bb1
 refine au ?_;intro wz kz bz
 exact⟨congrArg (λb=>Ending.returned (.bool b)) h1,bz⟩
theorem ME (cs:List Value) (x:fE) (kk:Nat) (w:World) (hv:fC kk w cs x) (hk:kk<=1000000):
  Calls Tryz.prog 78 #[.agg cs.toArray] w λe w'=>e=.returned (.bool (ke x))/\aw w w':=by
 have Dx:=hv
 obtain⟨nm,s0,p0,n0,c0,t0,y0,m0,d0,rfl,oX,jf⟩:=hv
 obtain⟨k,q⟩:=x
 replace oX:k<256:=oX
 refine ae (C:=aM Tryz.prog w _) (args:=[_]) Tryz.func78 rfl Tryz.ntmps78 (bl rfl) ?_
 refine aa ?_
 by_cases h6:k=6
 ·refine VO.fix 6 rfl (congrArg (λb=>AV.val (.bool b)) (CN (show (k:Int)=6 by omega))) ?_
  refine aa ?_
  refine VO.cB rfl rfl (fk Tryz.func37) (λaC aY aH=>wS _ (k,q) kk aC ((dU kk).b Dx aH) hk) (λaC aY aH w1 aD bQ _ bb1=>wV rfl ?_)
  refine aa ?_
  refine au ?_;intro wz kz bz
  refine⟨congrArg (λb=>Ending.returned (.bool b)) ?_,bz⟩
  show (((fb q:Nat):Int) == 0)=ke (k,q)
  unfold ke
  rw[show ((k,q):fE).1=6 from h6]
  show _=(true && (fb q == 0))
  rw[Bool.true_and]
  by_cases hz:fb q=0
  ·rw[hz];rfl
  ·rw[yK ab,beq_eq_false_iff_ne.2 hz]
 ·refine VO.fix 6 rfl (congrArg (λb=>AV.val (.bool b)) (yK (show (k:Int)≠6 by omega))) ?_
  refine aa ?_
  refine au ?_;intro wz kz bz
  exact⟨by unfold ke;rw[show (((k,q):fE).1 == 6)=false from beq_eq_false_iff_ne.2 h6];rfl,bz⟩
theorem MF (v u:Value) (e:Int) (cs:List fE) (ts:List (List (List Rat))) (kk:Nat) (w:World) (hv:bM (fC kk) 6 w v cs) (hu:bM (jW kk) 1 w u ts) (hk:kk<=1000000):
  Calls Tryz.prog 33 #[v,.int .i64 e,u] w λo w'=>o=.returned (.int .i64 (gL cs e ts))/\aw w w':=by
 obtain⟨p,c,rfl⟩:=hv.sl
 obtain⟨p2,c2,rfl⟩:=hu.sl
 refine ae (C:=aM Tryz.prog w _) (args:=[_,_,_]) Tryz.func33 rfl Tryz.ntmps33 (bl rfl) ?_
 refine aa ?_
 by_cases hlong:(ts.length:Int)>40
 ·refine VS.aJ rfl (decide_eq_true hlong) ?_
  refine aa ?_
  refine au ?_;intro wz kz bz
  exact⟨by unfold gL;rw[if_pos ab];rfl,bz⟩
 refine VS.aK rfl (decide_eq_false hlong) ?_
 refine aa ?_
 by_cases oM:e<0
 ·refine VO.fix 17 rfl (congrArg (λb=>AV.val (.bool b)) (decide_eq_true oM)) ?_
  refine aa ?_
  refine au ?_;intro wz kz bz
  exact⟨by unfold gL;rw[if_neg ab,if_pos oM];rfl,bz⟩
 refine VO.fix 17 rfl (congrArg (λb=>AV.val (.bool b)) (decide_eq_false oM)) ?_
 refine aa ?_
 refine VO.fq rfl (fk Tryz.func79) (λaC β aY aH ho=>(Fy 77 (.pointer (some ⟨β 4,0,none⟩)) (.pointer (some ⟨β 3,0,none⟩)) (eF e cs.length) kk (fk Tryz.func77) _ ts aC (hu.oV (pK kk) aH) (λl a w1 hb hs=>by
  obtain⟨u1,rfl,hs⟩:=hs
  exact JA u1 p cs.length c (β 4) (β 3) kk e a w1 hs (hb.cell (lO (ho.own 4 (.base (by simp[eZ,AV.ids])) _ _ rfl).cls)) (hb.cell (lO (ho.own 3 (.base (by simp[eZ,AV.ids])) _ _ rfl).cls)) ab)).mono ?_)
 rintro o w1 ⟨rfl,aD⟩
 cases hA:ts.any (eF e cs.length) with
 | true=>
   refine aF aD ?_
   intro bQ _ bb1
   refine au ?_;intro wz kz bz
   exact⟨by unfold gL;rw[if_neg ab,if_neg oM,if_pos hA];rfl,bz⟩
 | false=>
   refine aF aD ?_
   intro bQ _ bb1
   refine VO.call rfl rfl (fk Tryz.func80) (λaN bD bf=>(FA 78 ke kk (fk Tryz.func78) _ cs aN (hv.bq (dU kk) bf) (λl a w1 hb hs=>ME l a kk w1 hs hk)).mono ?_)
   rintro o w2 ⟨rfl,aQ⟩
   cases hB:cs.any ke with
   | true=>
     refine aF aQ ?_
     intro cL _ bb2
     refine au ?_;intro wz kz bz
     exact⟨by unfold gL;rw[if_neg ab,if_neg oM,hA,if_neg dw,if_pos hB];rfl,bz⟩
   | false=>
     refine aF aQ ?_
     intro cL _ bb2
     refine au ?_;intro wz kz bz
     exact⟨by unfold gL;rw[if_neg ab,if_neg oM,hA,if_neg dw,hB,if_neg dw];rfl,bz⟩
set_option maxRecDepth 4000
def ew {α:Type} (E:World->List Value->α->Prop) (sz:Nat) (t:TypeId) (i:Nat) (X:AV) (M:List (Nat×(TypeId×List AV))) (w:World) (es:List α):Prop:=
 (es=[]/\X=.val (.slice none 0 0)/\M=[])\/∃ n c vs sp,X=.row i 0 n c/\M=[(i,(t,vs.flatten.map .val++sp))]/\bU E sz w n c vs sp es
theorem ew.kp {α:Type} {E:World->List Value->α->Prop} {sz:Nat} {t:TypeId} {i:Nat} {X:AV} {M:List (Nat×(TypeId×List AV))} {w w':World} {es:List α} (hE:fU E sz) (h:ew E sz t i X M w es) (k:Kp UU w w'):ew E sz t i X M w' es:=by
 rcases h with h|⟨n,c,vs,sp,h1,h2,h3⟩
 ·exact .inl h
 ·exact .inr ⟨n,c,vs,sp,h1,h2,h3.kp hE k⟩
def Hp.mask (l:List Nat) (H:Hp):Hp:=λi=>bif l.any (Nat.beq i) then none else H i
def zn (H:Hp):List Nat->Prop
 | []=>True
 | i::r=>H i=none/\zn H r
theorem zn.eq {H:Hp}:∀ {l:List Nat},zn H l->∀ i,l.any (Nat.beq i)=true->H i=none
 | [],_,i,h=>by cases h
 | j::r,hn,i,h=>by
   rw[List.any_cons,Bool.or_eq_true] at h
   rcases h with h|h
   ·rw[Nat.eq_of_beq_eq_true h];exact hn.1
   ·exact zn.eq hn.2 i h
theorem Hp.mask_eq {H:Hp} {l:List Nat} (h:zn H l):Hp.mask l H=H:=by
 funext i
 unfold Hp.mask
 cases hb:l.any (Nat.beq i) with
 | true=>exact (h.eq i hb).symm
 | false=>rfl
theorem VS.mask {C:Cx} {Q:Exit->Act->World->Prop} {F:Fr} {H:Hp} {w:World} {stk:List It} (l:List Nat) (h:zn H l) (k:VS C Q stk F (Hp.mask l H) w):VS C Q stk F H w:=by rw[Hp.mask_eq h] at k;exact k
theorem sN {cs:List fE} {xs:List Rat} {z:Nat} {k:fE} {x:Rat} (h1:cs[z]? =some k) (h2:xs[z]? =some x):(bL cs xs)[z]? =some (k.1,k.2,x):=by
 unfold bL
 rw[List.getElem?_map,show (cs.zip xs)[z]? =some (k,x) from List.getElem?_zip_eq_some.2 ⟨h1,h2⟩];rfl
set_option maxRecDepth 4000 in
theorem FD (v u:Value) (cs:List fE) (xs:List Rat) (t:List (List Rat)) (e:Int) (kk:Nat) (w:World) (hu:bM (fC kk) 6 w u cs) (hv:bM (nc kk) 1 w v t) (he:0<=e) (hx:t[e.toNat]? =some xs) (hlen:xs.length=cs.length) (hk:kk<=1000) (hn:cs.length<=1000):
  Calls Tryz.prog 35 #[.agg #[v],u,.int .i64 e] w λo w'=>∃ r,o=.returned r/\bk (mP (bd kk)) 9 101 w.heap.size w' r (bL cs xs)/\aw w w':=by
 obtain⟨p,c,rfl,dL,eH⟩:=hu.form
 obtain⟨p2,c2,rfl⟩:=hv.sl
 obtain⟨N,hN⟩:∃ N,N=cs.length:=⟨_,rfl⟩
 rw[<-hN] at hu dL hlen hn ⊢
 have kX:e.toNat<t.length:=(List.getElem?_eq_some_iff.1 hx).1
 obtain⟨pb,po,pc,rfl,hpc,⟨pv,rfl,rY⟩⟩:=hv.at hx
 obtain⟨p3,c3,rfl⟩:=rY.sl
 have hE:((e.toNat:Nat):Int)=e:=by omega
 obtain⟨M0,hM0⟩:∃ M0,M0=t.length:=⟨_,rfl⟩
 rw[<-hM0] at hv kX
 rw[<-hM0]
 refine ae (C:=aM Tryz.prog w _) (args:=[_,_,_]) Tryz.func35 rfl Tryz.ntmps35 (bl rfl) ?_
 refine aa ?_
 refine VO.fix 12 rfl (congrArg (λb=>AV.val (.bool b)) (decide_eq_false (show ¬ e<0 by omega))) ?_
 refine aa ?_
 refine VO.fix 19 rfl (congrArg (λb=>AV.val (.bool b)) (decide_eq_false (show ¬ e>=(M0:Int) by omega))) ?_
 refine aa ?_
 refine VO.cond rfl dz (wV rfl ?_)
 refine VO.read rfl [.slice p3 xs.length c3] rfl (λj u hj=>by rw[Addr.add_mid];exact hpc j u hj) (wV rfl ?_)
 refine aa ?_
 refine VS.aK rfl (wm ab) ?_
 refine aa ?_
 refine VS.loop (J:=λm L M w'=>∃ (z:Nat) (X:AV) (Mi:List (Nat×(TypeId×List AV))),z<=N/\m=N-z/\L=[(1,.val (.slice p N c)),(2,.val (.int .i64 e)),(3,.box 3 0),(7,X),(30,.val (.slice p N c)),(31,.val (.int .i64 (N:Int))),(32,.val (.int .i64 (z:Int)))]/\
  M=(3,(41,[.val (.slice (some ⟨pb,po,none⟩) M0 c2)]))::Mi/\ew (mP (bd kk)) 9 101 56 X Mi w' ((bL cs xs).take z)) N ⟨_,_,?_,?_,?_,?_,⟨0,_,[],by omega,rfl,rfl,rfl,.inl ⟨rfl,rfl,rfl⟩⟩⟩ ?_
 ·exact cW
 ·exact cW
 ·rfl
 ·exact fR
 rintro m L M wJ ⟨z,X,Mi,hz,rfl,rfl,rfl,hst⟩
 refine VS.mask [9,42,52,55] (by rcases hst with ⟨_,_,rfl⟩|⟨_,_,_,_,_,rfl,_⟩ <;> (repeat first|exact trivial|refine⟨rfl,?_⟩)) ?_
 refine aa ?_
 by_cases hlt:z<N
 ·obtain⟨k,jo⟩:∃ k,cs[z]? =some k:=⟨_,List.getElem?_eq_getElem ab⟩
  obtain⟨x,Cv⟩:∃ x,xs[z]? =some x:=⟨_,List.getElem?_eq_getElem ab⟩
  obtain⟨b,off,gM,rfl,hc,⟨nm,s0,p0,n0,c0,t0,y0,m0,d0,rfl,oX,jf⟩⟩:=hu.at jo
  obtain⟨b2,JB,cs2,rfl,oP,⟨s1,p1,n1,c1,t1,y1,m1,d1,rfl,hin2⟩⟩:=rY.at Cv
  refine VS.aJ rfl (decide_eq_true (Int.ofNat_lt.2 hlt)) ?_
  refine aa ?_
  refine VO.cond rfl dz ?_
  refine wV rfl ?_
  refine aa ?_
  refine VO.read rfl [.string nm,.int .u8 (k.1:Int),.bool s0,.slice p0 n0 c0,.bool t0,.slice y0 m0 d0] rfl (bX hc 0 _ ⟨[],rfl⟩) (wV rfl ?_)
  refine aa ?_
  refine VO.fq rfl (fk Tryz.func43) (λaC β aY aH ho=>(mz _ [k.2] kk aC (lN (ho.own 42 (.base (List.mem_singleton.2 rfl)) _ _ rfl) [] (vs:=[[.bool s0,.slice p0 n0 c0,.bool t0,.slice y0 m0 d0]]) (by rfl) rfl (eW.cons (jf.kp (Kp.of (U:=UU) aH)) eW.nil) (bl rfl) fc) (by unfold bo bd;simp;omega)).mono ?_)
  rintro o w1 ⟨r1,rfl,q1,-,aD⟩
  rw[ru] at q1
  obtain⟨s2,p4,n2,c4,t2,y2,m2,d2,rfl⟩:=q1.form
  refine aF aD ?_
  intro bQ _ bb1
  refine VO.cond rfl dz (wV rfl ?_)
  refine VO.read rfl [.slice (some ⟨b2,JB,none⟩) xs.length c3] rfl (λj u hj=>by rw[Addr.add_mid];exact hpc j u hj) (wV rfl ?_)
  refine aa ?_
  refine VO.cond rfl dz (wV rfl ?_)
  refine VO.read rfl [.bool s1,.slice p1 n1 c1,.bool t1,.slice y1 m1 d1] rfl (bX oP 0 _ ⟨[],rfl⟩) (wV rfl ?_)
  refine aa ?_
  refine VO.fq rfl (fk Tryz.func43) (λaN β bD bf ho=>(mz _ [x] kk aN (lN (ho.own 52 (.base (List.mem_singleton.2 rfl)) _ _ rfl) [] (vs:=[[.bool s1,.slice p1 n1 c1,.bool t1,.slice y1 m1 d1]]) (by rfl) rfl (eW.cons (hin2.kp (Kp.of (U:=UU) bf)) eW.nil) (bl rfl) fc) (by unfold bo bd;simp;omega)).mono ?_)
  rintro o w2 ⟨r2,rfl,q2,-,aQ⟩
  rw[ru] at q2
  obtain⟨s3,p5,n3,c5,t3,y3,m3,d3,rfl⟩:=q2.form
  refine aF aQ ?_
  intro cL _ bb2
  have xD:=sN jo Cv
  have MG:mP (bd kk) w2 [.int .u8 (k.1:Int),.bool s2,.slice p4 n2 c4,.bool t2,.slice y2 m2 d2,.bool s3,.slice p5 n3 c5,.bool t3,.slice y3 m3 d3] (k.1,k.2,x):=⟨_,_,_,_,_,_,_,_,_,_,_,_,_,_,_,_,rfl,oX,q1.ki jf.lM,q2.in hin2.lM⟩
  rcases hst with ⟨dk,rfl,rfl⟩|⟨n',c',vs,sp,rfl,rfl,kf⟩
  ·refine VO.na (cH _ _) (dc (bd kk)) (t:=99) (e:=101) (s:=55) (a:=(k.1,k.2,x)) (cs:=[.int .u8 (k.1:Int),.bool s2,.slice p4 n2 c4,.bool t2,.slice y2 m2 d2,.bool s3,.slice p5 n3 c5,.bool t3,.slice y3 m3 d3]) rfl rfl rfl rfl rfl rfl rfl rfl (bl rfl) rfl rfl rfl MG ab (λw8 cap sp k8 b8 jv=>wV rfl ?_)
   refine aa ?_
   refine VS.back (N-(z+1)) ab ⟨_,_,?_,?_,?_,?_,⟨z+1,_,_,by omega,rfl,rfl,rfl,.inr ⟨1,cap,_,sp,rfl,rfl,by rw[ba xD,dk];exact jv⟩⟩⟩
   ·refine⟨rfl,rfl,rfl,rfl,rfl,rfl,?_,trivial⟩
    rw[<-aB (i:=z) ab];rfl
   ·exact cW
   ·rfl
   ·exact⟨.lit rfl,jv.oU,trivial⟩
  ·have qe:=kf.len
   rw[List.length_take] at qe
   refine VO.nb (cH _ _) (dc (bd kk)) (t:=99) (e:=101) (s:=55) (i:=56) (n:=n') (c:=c') (vs:=vs) (sp:=sp) (es:=(bL cs xs).take z) (a:=(k.1,k.2,x)) (cs:=[.int .u8 (k.1:Int),.bool s2,.slice p4 n2 c4,.bool t2,.slice y2 m2 d2,.bool s3,.slice p5 n3 c5,.bool t3,.slice y3 m3 d3]) rfl rfl rfl rfl rfl rfl rfl rfl (bl rfl) rfl (.inr rfl) rfl (kf.kp (dc (bd kk)) bg) rfl MG ab (λw8 kS uJ ρ k8 b8 eV jv=>wV rfl ?_)
   refine aa ?_
   refine VS.back (N-(z+1)) ab ⟨_,_,?_,?_,?_,?_,⟨z+1,_,_,by omega,rfl,rfl,rfl,.inr ⟨n' +1,kS,_,uJ,rfl,rfl,by rw[ba xD];exact jv⟩⟩⟩
   ·refine⟨rfl,rfl,rfl,rfl,rfl,rfl,?_,trivial⟩
    rw[<-aB (i:=z) ab];rfl
   ·exact cW
   ·rfl
   ·exact⟨.lit rfl,jv.oU,trivial⟩
 ·refine VS.aK rfl (decide_eq_false (λe=>hlt (Int.ofNat_lt.1 e))) ?_
  obtain rfl:z=N:=by omega
  have AL:(bL cs xs).take z=bL cs xs:=List.take_of_length_le (by unfold bL;rw[List.length_map,List.length_zip];omega)
  rw[AL] at hst
  rcases hst with ⟨dk,rfl,rfl⟩|⟨n',c',vs,sp,rfl,rfl,kf⟩
  ·refine aa ?_
   refine au ?_;intro wz kz bz
   exact⟨_,rfl,.inl ⟨rfl,dk⟩,bz⟩
  ·refine aa ?_
   refine VS.mh (cH _ _) rfl (λwz β kz bz en=> ?_)
   exact⟨_,rfl,kf.new (dc (bd kk)) (en.own 56 _ _ rfl) kz,bz⟩
theorem wT (f:cj->Rat) (h:∀ e:cj,e.exp.2.2.2=0->f e=0) (l:List cj):eb ((eh l).map f)=eb (l.map f):=by
 induction l with
 | nil=>rfl
 | cons e r ih=>
   unfold eh at ih ⊢
   by_cases h0:e.exp.2.2.2=0
   ·have hz:enz e=false:=by unfold enz;simp[h0]
    rw[List.filter_cons_of_neg (by simp[hz]),ih,List.map_cons,jE,h e h0]
    grind
   ·have hz:enz e=true:=by unfold enz;simp[h0]
    rw[List.filter_cons_of_pos hz,List.map_cons,List.map_cons,jE,jE,ih]
theorem JC (l:List cj) (z:Int):eE (eh l) z=eE l z:=wT _ (λe h=>by
 unfold ic
 split
 ·rfl
 ·rw[h,Rat.zero_mul]) l
theorem JD (l:List cj) (z:Int):fA (eh l) z=fA l z:=wT _ (λe h=>by
 unfold rp
 split
 ·rfl
 ·rw[h,Rat.zero_mul]) l
def wU (kk:Nat) (i:Nat) (X:AV) (M:List (Nat×(TypeId×List AV))) (w:World) (es:List cj):Prop:=
 (es=[]/\X=.val (.slice none 0 0)/\M=[])\/∃ n c vs spare,X=.row i 0 n c/\M=[(i,(177,vs.flatten.map .val++spare.map .val))]/\n=es.length/\de (ju kk) w es vs/\spare.all bc=true/\n<=c/\c<=9223372036854775807/\(vs.flatten++spare).length=c*6
theorem wU.kp {kk i:Nat} {X:AV} {M:List (Nat×(TypeId×List AV))} {w w':World} {es:List cj} (h:wU kk i X M w es) (k:Kp UU w w'):wU kk i X M w' es:=by
 rcases h with h|⟨n,c,vs,sp,h0,h1,h2,h3,h4⟩
 ·exact .inl h
 ·exact .inr ⟨n,c,vs,sp,h0,h1,h2,h3.kp (dm kk) k,h4⟩
section
variable {C:Cx} {β:Nat->Nat} {H:Hp} {w w1:World} {ids:List Nat} {X:AV} {M:List (Nat×(TypeId×List AV))}
theorem wU.in {kk i g:Nat} {es:List cj} (h:wU kk i X M w es) (o:iW C β H ids w1) (hg:g∈ids) (hG:H g=some (175,[X])) (hM:∀ x∈M,H x.1=some x.2) (k:Kp UU w w1):wB kk w1 (β g) es:=by
 have o1:=o.own g (.base hg) _ _ hG
 rcases h with ⟨rfl,rfl,rfl⟩|⟨n,c,vs,sp,rfl,rfl,h2,h3,h4,h5,h6,h7⟩
 ·exact⟨_,lO o1.cls,bM.nil _ _ _⟩
 ·have o2:=o.own i (.step (.base hg) hG (by rw[rz];simp)) _ _ (hM _ (List.mem_singleton.2 rfl))
  exact⟨_,lO o1.cls,js (dm kk) o2 (sp.map .val) rfl (h3.kp (dm kk) k) h2 h5 h6⟩
theorem ew.slin {α:Type} {E:World->List Value->α->Prop} {sz i:Nat} {t:TypeId} {es:List α} (h:ew E sz t i X M w es) (hE:fU E sz) (o:iW C β H (eZ [X]) w1) (hM:∀ x∈M,H x.1=some x.2) (k:Kp UU w w1):bM E sz w1 (X.aU β) es:=by
 rcases h with ⟨rfl,rfl,rfl⟩|⟨n,c,vs,sp,rfl,rfl,h3⟩
 ·exact bM.nil _ _ _
 ·exact h3.sl' hE (o.own i (.base (by simp[eZ,AV.ids])) _ _ (hM _ (List.mem_singleton.2 rfl))) k
end
def RtQ (kk:Nat) (w:World) (cs:List Value) (q:Rat):Prop:=∃ s p n c t y m d,cs=[.bool s,.slice p n c,.bool t,.slice y m d]/\aG w (.agg #[.bool s,.slice p n c,.bool t,.slice y m d]) q/\bW q kk
theorem ek (kk:Nat):fU (RtQ kk) 4 where
 kp:=λh k=>by
  obtain⟨s,p,n,c,t,y,m,d,hv,h1,h2⟩:=h
  exact⟨_,_,_,_,_,_,_,_,hv,h1.kp k,h2⟩
 len:=λh=>by
  obtain⟨s,p,n,c,t,y,m,d,rfl,_⟩:=h
  rfl
 ok:=λh=>by
  obtain⟨s,p,n,c,t,y,m,d,rfl,_⟩:=h
  rfl
def eG (kk:Nat) (w:World) (cs:List Value) (r:Dh):Prop:=∃ a b c d e f g,cs=a++(b++(c++(d++(e++(f++g)))))/\RtQ kk w a r.p.b/\RtQ kk w b r.p.s/\RtQ kk w c r.p.d/\RtQ kk w d r.p.i/\RtQ kk w e r.due/\RtQ kk w f r.bal/\RtQ kk w g r.own
theorem bh (kk:Nat):fU (eG kk) 28 where
 kp:=λh k=>by
  obtain⟨a,b,c,d,e,f,g,hv,h1,h2,h3,h4,h5,h6,h7⟩:=h
  exact⟨a,b,c,d,e,f,g,hv,(ek kk).kp h1 k,(ek kk).kp h2 k,(ek kk).kp h3 k,(ek kk).kp h4 k,(ek kk).kp h5 k,(ek kk).kp h6 k,(ek kk).kp h7 k⟩
 len:=λh=>by
  obtain⟨a,b,c,d,e,f,g,rfl,h1,h2,h3,h4,h5,h6,h7⟩:=h
  simp only[List.length_append]
  rw[(ek kk).len h1,(ek kk).len h2,(ek kk).len h3,(ek kk).len h4,(ek kk).len h5,(ek kk).len h6,(ek kk).len h7]
 ok:=λh=>by
  obtain⟨a,b,c,d,e,f,g,rfl,h1,h2,h3,h4,h5,h6,h7⟩:=h
  simp only[List.all_append]
  rw[(ek kk).ok h1,(ek kk).ok h2,(ek kk).ok h3,(ek kk).ok h4,(ek kk).ok h5,(ek kk).ok h6,(ek kk).ok h7];rfl
def AK:Nat:=40000
theorem RtQ.mk {kk:Nat} {w:World} {s t:Bool} {p y:Option Addr} {n c m d:Nat} {q:Rat} (h:aG w (.agg #[.bool s,.slice p n c,.bool t,.slice y m d]) q) (hs:bW q kk):RtQ kk w [.bool s,.slice p n c,.bool t,.slice y m d] q:=⟨_,_,_,_,_,_,_,_,rfl,h,hs⟩
theorem oo {cs:List fE} {xss:List (List Rat)} {y:Nat} (h:y<xss.length):(ij cs xss)[y]? =some (sL cs xss y):=by
 unfold ij
 rw[List.getElem?_map,List.getElem?_range h];rfl
theorem JE {l:List cj} {y:Nat} {p:fE×Rat} (hy:y<=9999) (h:1<=fb p.1.2):ig (eh l) (mS y p)=eh (l++[mS y p]):=by
 unfold ig
 rw[if_neg (by rw[sM hy h];simp)]
 unfold eh
 rw[List.filter_append]
 by_cases hz:(mS y p).exp.2.2.2=0
 ·rw[if_pos hz,List.filter_cons_of_neg (by unfold enz;simp[hz]),List.filter_nil,List.append_nil]
 ·rw[if_neg hz,List.filter_cons_of_pos (by unfold enz;simp[hz]),List.filter_nil]
theorem tL (l:List cj):(eh l).length<=l.length:=List.length_filter_le _ _
theorem sO {cs:List fE} {xss:List (List Rat)} (h:∀ k∈cs,k.1=6->1<=fb k.2):∀ n,n<=9999->∀ e∈cT cs xss n,cN e.exp=false
 | 0,_,e,he=>by simp[cT] at he
 | n+1,hn,e,he=>by
   rw[show cT cs xss (n+1)=cT cs xss n++jm n (cs.zip (xss.getD n [])) from rfl] at he
   rcases List.mem_append.1 he with he|he
   ·exact sO h n ab e he
   ·unfold jm at he
    obtain⟨p,hp,rfl⟩:=List.mem_map.1 he
    obtain⟨hp1,hp2⟩:=List.mem_filter.1 hp
    refine sM ab (h p.1 (List.of_mem_zip (show (p.1,p.2)∈_ from hp1)).1 ?_)
    unfold rA at hp2
    exact eq_of_beq hp2
set_option maxRecDepth 4000
theorem VO.via {C:Cx} {m:Option (List FuncId)} {full:Array Oper} {l:List Oper} {Q:Exit->Act->World->Prop} {F:Fr} {H:Hp} {w:World} {P:Fr->Hp->World->Prop} {MH MI:List It} (h1:(∀ F' H' w',P F' H' w'->VS C Q MI F' H' w')->ao C m full l (VS C Q MH) F H w) (h2:∀ F' H' w',P F' H' w'->VS C Q MI F' H' w'):ao C m full l (VS C Q MH) F H w:=h1 h2
theorem VO.join {C:Cx} {m:Option (List FuncId)} {full:Array Oper} {l:List Oper} {Q:Exit->Act->World->Prop} {F:Fr} {H:Hp} {w:World} {P:Fr->Hp->World->Prop} {stk:List It} (h1:(∀ F' H' w',P F' H' w'->VS C Q stk F' H' w')->ao C m full l (VS C Q stk) F H w) (h2:∀ F' H' w',P F' H' w'->VS C Q stk F' H' w'):ao C m full l (VS C Q stk) F H w:=h1 h2
def ik (cs:List fE) (xss:List (List Rat)) (y z:Nat):List cj:=cT cs xss y++jm y ((cs.zip (xss.getD y [])).take z)
theorem wW {cs:List fE} {xss:List (List Rat)} {T y z:Nat} (hy:y<T) (h:T*cs.length<=128):(ik cs xss y z).length<=128:=by
 have h1:=wF cs xss y
 have h2:(jm y ((cs.zip (xss.getD y [])).take z)).length<=cs.length:=by
  unfold jm;rw[List.length_map]
  exact Nat.le_trans (List.length_filter_le _ _) (by rw[List.length_take,List.length_zip];omega)
 unfold ik
 rw[List.length_append]
 have h3:(y+1)*cs.length<=T*cs.length:=Nat.mul_le_mul_right _ hy
 rw[Nat.add_mul,Nat.one_mul] at h3
 omega
theorem oK {cs:List fE} {xss:List (List Rat)} {y z:Nat} {k:fE} {x:Rat} (h1:cs[z]? =some k) (h2:(xss.getD y [])[z]? =some x):ik cs xss y (z+1)=ik cs xss y z++(if rA (k,x)=true then [mS y (k,x)] else []):=by
 unfold ik
 rw[Fv (p:=(k,x)) (List.getElem?_zip_eq_some.2 ⟨h1,h2⟩),List.append_assoc]
set_option maxRecDepth 4000 in
theorem AD (v u:Value) (e:Int) (cs:List fE) (ts:List (List (List Rat))) (kk:Nat) (w:World) (hv:bM (fC kk) 6 w v cs) (hu:bM (jW kk) 1 w u ts) (hk:kk<=64) (hn:cs.length<=64) (hd:ts.length*cs.length<=128\/40<ts.length):
  Calls Tryz.prog 10 #[v,.int .i64 e,u] w λo w'=>∃ r,o=.returned (.tuple #[r,.int .i64 (gL cs e ts)])/\bk (eG AK) 28 49 w.heap.size w' r (bn cs e ts)/\aw w w':=by
 obtain⟨p,c,rfl,dL,eH⟩:=hv.form
 obtain⟨p2,c2,rfl,JF,hcm2⟩:=hu.form
 obtain⟨N,hN⟩:∃ N,N=cs.length:=⟨_,rfl⟩
 obtain⟨T,hT⟩:∃ T,T=ts.length:=⟨_,rfl⟩
 rw[<-hN] at hv dL hn hd
 rw[<-hT] at hu JF hd
 rw[<-hN,<-hT]
 refine ae (C:=aM Tryz.prog w _) (args:=[_,_,_]) Tryz.func10 rfl Tryz.ntmps10 (bl rfl) ?_
 refine aa ?_
 refine VO.call rfl rfl (fk Tryz.func33) (λaC aY aH=>(MF _ _ e cs ts kk aC (hv.bq (dU kk) aH) (hu.oV (pK kk) aH) ab).mono ?_)
 rintro o w1 ⟨rfl,aD⟩
 by_cases hm:gL cs e ts≠0
 ·refine aF aD ?_
  intro bQ _ bb1
  refine VS.aJ rfl (GH hm) ?_
  refine aa ?_
  refine au ?_;intro wz kz bz
  exact⟨_,rfl,.inl ⟨rfl,by unfold bn;rw[if_neg hm]⟩,bz⟩
 replace hm:gL cs e ts=0:=Decidable.byContradiction hm
 have harr:bn cs e ts=ij cs (ts.map λt=>t.getD e.toNat []):=if_pos hm
 obtain⟨hT40,he0,jQ,hyr⟩:=amay_ok hm
 rw[hm,harr]
 rw[<-hN] at jQ
 rw[<-hT] at hT40
 have hTN:T*N<=128:=hd.resolve_right ab
 obtain⟨xss,FE⟩:∃ xss:List (List Rat),xss=ts.map (λt=>t.getD e.toNat []):=⟨_,rfl⟩
 rw[<-FE]
 have ey:xss.length=T:=by rw[FE,List.length_map,hT]
 have hxa:∀ y t,ts[y]? =some t->xss.getD y []=t.getD e.toNat []:=λy t h=>by rw[FE,List.getD_eq_getElem?_getD,List.getElem?_map,h];rfl
 refine aF aD ?_
 intro bQ _ bb1
 refine VO.callB (t:=175) (cs:=[.slice none 0 0]) rfl rfl rfl (bl rfl) (bl rfl) rfl rfl (λaN β bD bf ho=>⟨fk Tryz.func34,(Mu aN).mono ?_⟩)
 rintro o w2 ⟨g2,rfl,hg2,oP,aQ⟩
 refine⟨g2,rfl,aQ,hg2,oP,λcL _ bb2=>wV rfl ?_⟩
 refine aa ?_
 refine VS.loop (J:=λm L M w'=>∃ (y:Nat) (Xo Xl:AV) (Mo Ml:List (Nat×(TypeId×List AV))),y<=T/\m=T-y/\L=[(0,.val (.slice p N c)),(1,.val (.int .i64 e)),(9,Xo),(10,.box 24 0),(25,.val (.slice p2 T c2)),(26,.val (.int .i64 (T:Int))),(27,.val (.int .i64 (y:Int)))]/\
  M=(24,(175,[Xl]))::(Ml++Mo)/\ew (eG AK) 28 49 96 Xo Mo w' ((ij cs xss).take y)/\wU (bd kk) 120 Xl Ml w' (eh (cT cs xss y))) T ⟨_,_,?_,?_,?_,?_,⟨0,_,_,[],[],by omega,rfl,rfl,rfl,.inl ⟨rfl,rfl,rfl⟩,.inl ⟨rfl,rfl,rfl⟩⟩⟩ ?_
 ·exact cW
 ·exact cW
 ·rfl
 ·exact fR
 rintro m L M wJ ⟨y,Xo,Xl,Mo,Ml,hy,rfl,rfl,rfl,hO,hL⟩
 refine VS.mask [12,16,35,51,95] (by rcases hO with ⟨_,_,rfl⟩|⟨_,_,_,_,_,rfl,_⟩ <;> rcases hL with ⟨_,_,rfl⟩|⟨_,_,_,_,_,rfl,_⟩ <;> (repeat first|exact trivial|refine⟨rfl,?_⟩)) ?_
 refine aa ?_
 by_cases hlt:y<T
 ·obtain⟨t,ht⟩:∃ t,ts[y]? =some t:=⟨_,List.getElem?_eq_getElem ab⟩
  obtain⟨b,off,gM,rfl,hc,⟨tv,rfl,DD⟩⟩:=hu.at ht
  obtain⟨pt,ct,rfl⟩:=DD.sl
  obtain⟨kW,ll⟩:=jQ t (List.mem_of_getElem? ht)
  have xt:=hxa y t ht
  obtain⟨xs,rY⟩:∃ xs,t[e.toNat]? =some xs:=⟨_,List.getElem?_eq_getElem kW⟩
  have wY:xss.getD y []=xs:=by rw[xt,List.getD_eq_getElem?_getD,rY];rfl
  have hxn:xs.length=N:=by rw[<-ll,List.getD_eq_getElem?_getD,rY];rfl
  refine VS.aJ rfl (decide_eq_true (Int.ofNat_lt.2 hlt)) ?_
  refine aa ?_
  refine VO.cond rfl dz ?_
  refine wV rfl ?_
  refine aa ?_
  refine VO.read rfl [.slice pt t.length ct] rfl (λj u hj=>by rw[Addr.add_mid,Int.toNat_natCast];exact hc j u hj) (wV rfl ?_)
  refine aa ?_
  apply VO.via (P:=Entry (λm L M w'=>∃ (z:Nat) (Xi Xl Xt:AV) (Mi Ml Mt:List (Nat×(TypeId×List AV))),z<=N/\m=N-z/\L=[(0,.val (.slice p N c)),(1,.val (.int .i64 e)),(9,Xo),(10,.box 24 0),(11,.val (.int .i64 (y:Int))),(13,Xi),(25,.val (.slice (some ⟨b,off,none⟩) T c2)),(26,.val (.int .i64 (T:Int))),(27,.val (.int .i64 (y:Int))),(35,Xt),(36,.val (.int .i64 (N:Int))),(37,.val (.int .i64 (z:Int)))]/\
   M=(24,(175,[Xl]))::(Mt++(Mi++(Ml++Mo)))/\ew (mP (bd kk)) 9 101 35 Xt Mt w' (bL cs xs)/\ew (mP (bd kk)) 9 44 51 Xi Mi w' ((bL cs xs).take z)/\ew (eG AK) 28 49 96 Xo Mo w' ((ij cs xss).take y)/\wU (bd kk) 120 Xl Ml w' (eh (ik cs xss y z))) N)
  ·intro cont
   have AL:(bL cs xs).length=N:=by unfold bL;rw[List.length_map,List.length_zip];omega
   refine VO.callX (dc (bd kk)) (dst:=35) (t:=101) (es:=bL cs xs) rfl rfl rfl (bl rfl) (bl rfl) rfl (λcu β cM cX ho=>⟨fk Tryz.func35,(FD _ _ cs xs t e kk cu (hN▸hv.bq (dU kk) cX) (DD.oV (wH kk) cX) he0 rY ab ab ab).mono ?_⟩)
   rintro o w3 ⟨r3,rfl,q3,ck⟩
   refine⟨_,rfl,ck,q3,λk3 k3' b3 dk=>wV rfl ?_,λcap3 vs3 sp3 k3 k3' b3 el3 ok3 le3 cm3 fl3=> ?_⟩
   ·have hN0:N=0:=by rw[<-AL,dk];rfl
    refine aa ?_
    refine cont _ _ _ ⟨_,_,?_,?_,?_,?_,⟨0,_,Xl,_,[],Ml,[],by omega,rfl,rfl,rfl,.inl ⟨dk,rfl,rfl⟩,.inl ⟨rfl,rfl,rfl⟩,hO.kp (bh AK) bg,?_⟩⟩
    ·refine⟨rfl,rfl,rfl,rfl,rfl,rfl,rfl,rfl,rfl,rfl,?_,rfl,trivial⟩
     rw[hN0];rfl
    ·rcases hO with ⟨_,rfl,rfl⟩|⟨_,_,_,_,rfl,rfl,_⟩ <;> rcases hL with ⟨_,rfl,rfl⟩|⟨_,_,_,_,rfl,rfl,_⟩ <;> (repeat first|exact trivial|refine⟨rfl,?_⟩|refine⟨congrArg (λl=>some (_,l)) (bu (by first|exact bU.cV (by assumption)|exact af _|(rw[<-List.map_append];exact af _)) _ _),?_⟩)
    ·rcases hO with ⟨_,rfl,rfl⟩|⟨_,_,_,_,rfl,rfl,_⟩ <;> rcases hL with ⟨_,rfl,rfl⟩|⟨_,_,_,_,rfl,rfl,_⟩ <;> rfl
    ·rcases hO with ⟨_,rfl,rfl⟩|⟨_,_,_,_,rfl,rfl,_⟩ <;> rcases hL with ⟨_,rfl,rfl⟩|⟨_,_,_,_,rfl,rfl,_⟩ <;> (repeat first|exact trivial|refine⟨ai.lit rfl,?_⟩|refine⟨bU.oU (by assumption),?_⟩|refine⟨ai.append (.vals _) (.vals _),?_⟩|refine⟨ai.vals _,?_⟩)
    ·rw[show ik cs xss y 0=cT cs xss y from List.append_nil _];exact hL.kp bg
   ·rw[AL] at le3 ⊢
    refine wV rfl ?_
    refine aa ?_
    have hNt:bU (mP (bd kk)) 9 w3 N cap3 vs3 (sp3.map .val) (bL cs xs):=⟨AL.symm,el3,cU ok3,af _,le3,cm3,by rw[<-List.map_append,List.length_map];exact fl3⟩
    refine cont _ _ _ ⟨_,_,?_,?_,?_,?_,⟨0,_,Xl,_,[],Ml,_,by omega,rfl,rfl,rfl,.inr ⟨N,cap3,vs3,sp3.map .val,rfl,rfl,hNt⟩,.inl ⟨rfl,rfl,rfl⟩,hO.kp (bh AK) bg,?_⟩⟩
    ·exact cW
    ·rcases hO with ⟨_,rfl,rfl⟩|⟨_,_,_,_,rfl,rfl,_⟩ <;> rcases hL with ⟨_,rfl,rfl⟩|⟨_,_,_,_,rfl,rfl,_⟩ <;> (repeat first|exact trivial|refine⟨rfl,?_⟩|refine⟨congrArg (λl=>some (_,l)) (bu (by first|exact bU.cV (by assumption)|exact af _|(rw[<-List.map_append];exact af _)) _ _),?_⟩)
    ·rcases hO with ⟨_,rfl,rfl⟩|⟨_,_,_,_,rfl,rfl,_⟩ <;> rcases hL with ⟨_,rfl,rfl⟩|⟨_,_,_,_,rfl,rfl,_⟩ <;> rfl
    ·rcases hO with ⟨_,rfl,rfl⟩|⟨_,_,_,_,rfl,rfl,_⟩ <;> rcases hL with ⟨_,rfl,rfl⟩|⟨_,_,_,_,rfl,rfl,_⟩ <;> (repeat first|exact trivial|refine⟨ai.lit rfl,?_⟩|refine⟨bU.oU (by assumption),?_⟩|refine⟨ai.append (.vals _) (.vals _),?_⟩|refine⟨ai.vals _,?_⟩)
    ·rw[show ik cs xss y 0=cT cs xss y from List.append_nil _];exact hL.kp bg
  ·clear hO hL
   intro F0 H0 w0' hent
   refine VS.loop N hent ?_
   rintro m L M wK ⟨z,Xi,Xl,Xt,Mi,Ml,Mt,hz,rfl,rfl,rfl,FF,hI,hO,hL⟩
   refine VS.mask [15,16,50,95] (by rcases FF with ⟨_,rfl,rfl⟩|⟨_,_,_,_,rfl,rfl,_⟩ <;> rcases hI with ⟨_,rfl,rfl⟩|⟨_,_,_,_,rfl,rfl,_⟩ <;> rcases hO with ⟨_,rfl,rfl⟩|⟨_,_,_,_,rfl,rfl,_⟩ <;> rcases hL with ⟨_,rfl,rfl⟩|⟨_,_,_,_,rfl,rfl,_⟩ <;> (repeat first|exact trivial|refine⟨rfl,?_⟩)) ?_
   have AL:(bL cs xs).length=N:=by unfold bL;rw[List.length_map,List.length_zip];omega
   refine aa ?_
   by_cases hzt:z<N
   ·obtain⟨k,jo⟩:∃ k,cs[z]? =some k:=⟨_,List.getElem?_eq_getElem ab⟩
    obtain⟨x,Cv⟩:∃ x,xs[z]? =some x:=⟨_,List.getElem?_eq_getElem ab⟩
    have xD:=sN jo Cv
    rcases FF with ⟨dk,rfl,rfl⟩|⟨nt,ct2,vst,spt,rfl,rfl,hNt⟩
    ·rw[dk] at AL;exact absurd AL.symm (by simp;omega)
    have hntl:=hNt.len
    rw[AL] at hntl
    obtain⟨csI,hcs1,⟨s1,p1,n1,c1,t1,y1,m1,d1,s5,p5,n5,c5,t5,y5,m5,d5,rfl,oX,hiA,hiX⟩,hcs3,hcell⟩:=hNt.cell (dc (bd kk)) xD
    refine VS.aJ rfl (decide_eq_true (Int.ofNat_lt.2 hzt)) ?_
    refine aa ?_
    refine VO.cond rfl dz ?_
    refine wV rfl ?_
    refine aa ?_
    refine VO.jn rfl (([.int .u8 (k.1:Int),.bool s1,.slice p1 n1 c1,.bool t1,.slice y1 m1 d1,.bool s5,.slice p5 n5 c5,.bool t5,.slice y5 m5 d5]:List Value).map .val) rfl (hcell 0 _ ⟨[],rfl⟩) (wV rfl ?_)
    refine aa ?_
    apply VO.join (P:=Entry (λ_ L M w'=>∃ (Xi:AV) (Mi:List (Nat×(TypeId×List AV))),L=[(0,.val (.slice p N c)),(1,.val (.int .i64 e)),(9,Xo),(10,.box 24 0),(11,.val (.int .i64 (y:Int))),(13,Xi),(14,.val (.int .i64 (z:Int))),(15,.box 15 0),(25,.val (.slice (some ⟨b,off,none⟩) T c2)),(26,.val (.int .i64 (T:Int))),(27,.val (.int .i64 (y:Int))),(35,.row 35 0 nt ct2),(36,.val (.int .i64 (N:Int))),(37,.val (.int .i64 (z:Int)))]/\
     M=(24,(175,[Xl]))::(15,(101,([.int .u8 (k.1:Int),.bool s1,.slice p1 n1 c1,.bool t1,.slice y1 m1 d1,.bool s5,.slice p5 n5 c5,.bool t5,.slice y5 m5 d5]:List Value).map .val))::(35,(101,vst.flatten.map .val++spt))::(Mi++(Ml++Mo))/\ew (mP (bd kk)) 9 44 51 Xi Mi w' ((bL cs xs).take (z+1))/\Kp UU wK w') 0)
    ·intro cont
     have MG:mP (bd kk) wK [.int .u8 (k.1:Int),.bool s1,.slice p1 n1 c1,.bool t1,.slice y1 m1 d1,.bool s5,.slice p5 n5 c5,.bool t5,.slice y5 m5 d5] (k.1,k.2,x):=⟨_,_,_,_,_,_,_,_,_,_,_,_,_,_,_,_,rfl,oX,hiA,hiX⟩
     rcases hI with ⟨dk,rfl,rfl⟩|⟨n',c',vs,sp,rfl,rfl,kf⟩
     ·refine VO.na (cH _ _) (dc (bd kk)) (t:=36) (e:=44) (s:=50) (a:=(k.1,k.2,x)) (cs:=[.int .u8 (k.1:Int),.bool s1,.slice p1 n1 c1,.bool t1,.slice y1 m1 d1,.bool s5,.slice p5 n5 c5,.bool t5,.slice y5 m5 d5]) rfl rfl rfl rfl rfl rfl rfl rfl (bl rfl) rfl (by rcases hO with ⟨_,rfl,rfl⟩|⟨_,_,_,_,rfl,rfl,_⟩ <;> rcases hL with ⟨_,rfl,rfl⟩|⟨_,_,_,_,rfl,rfl,_⟩ <;> rfl) rfl MG ab (λw8 cap sp k8 b8 jv=>wV rfl (wN ?_))
      refine cont _ _ _ ⟨_,_,?_,?_,?_,?_,⟨_,_,rfl,rfl,.inr ⟨1,cap,_,sp,rfl,rfl,by rw[ba xD,dk];exact jv⟩,bg⟩⟩
      ·rcases hO with ⟨_,rfl,rfl⟩|⟨_,_,_,_,rfl,rfl,_⟩ <;> rcases hL with ⟨_,rfl,rfl⟩|⟨_,_,_,_,rfl,rfl,_⟩ <;> (repeat first|exact trivial|refine⟨rfl,?_⟩)
      ·rcases hO with ⟨_,rfl,rfl⟩|⟨_,_,_,_,rfl,rfl,_⟩ <;> rcases hL with ⟨_,rfl,rfl⟩|⟨_,_,_,_,rfl,rfl,_⟩ <;> (repeat first|exact trivial|refine⟨rfl,?_⟩|refine⟨congrArg (λl=>some (_,l)) (bu (by first|exact bU.cV (by assumption)|exact af _|(rw[<-List.map_append];exact af _)) _ _),?_⟩)
      ·rcases hO with ⟨_,rfl,rfl⟩|⟨_,_,_,_,rfl,rfl,_⟩ <;> rcases hL with ⟨_,rfl,rfl⟩|⟨_,_,_,_,rfl,rfl,_⟩ <;> rfl
      ·rcases hO with ⟨_,rfl,rfl⟩|⟨_,_,_,_,rfl,rfl,_⟩ <;> rcases hL with ⟨_,rfl,rfl⟩|⟨_,_,_,_,rfl,rfl,_⟩ <;> (repeat first|exact trivial|refine⟨ai.lit rfl,?_⟩|refine⟨bU.oU (by assumption),?_⟩|refine⟨ai.append (.vals _) (.vals _),?_⟩|refine⟨ai.vals _,?_⟩)
     ·have qe:=kf.len
      rw[List.length_take] at qe
      refine VO.nb (cH _ _) (dc (bd kk)) (t:=36) (e:=44) (s:=50) (i:=51) (n:=n') (c:=c') (vs:=vs) (sp:=sp) (es:=(bL cs xs).take z) (a:=(k.1,k.2,x)) (cs:=[.int .u8 (k.1:Int),.bool s1,.slice p1 n1 c1,.bool t1,.slice y1 m1 d1,.bool s5,.slice p5 n5 c5,.bool t5,.slice y5 m5 d5]) rfl rfl rfl rfl rfl rfl rfl rfl (bl rfl) rfl (.inr rfl) rfl (kf.kp (dc (bd kk)) bg) rfl MG ab (λw8 kS uJ ρ k8 b8 eV jv=>wV rfl (wN ?_))
      refine cont _ _ _ ⟨_,_,?_,?_,?_,?_,⟨_,_,rfl,rfl,.inr ⟨n' +1,kS,_,uJ,rfl,rfl,by rw[ba xD];exact jv⟩,bg⟩⟩
      ·rcases hO with ⟨_,rfl,rfl⟩|⟨_,_,_,_,rfl,rfl,_⟩ <;> rcases hL with ⟨_,rfl,rfl⟩|⟨_,_,_,_,rfl,rfl,_⟩ <;> (repeat first|exact trivial|refine⟨rfl,?_⟩)
      ·rcases hO with ⟨_,rfl,rfl⟩|⟨_,_,_,_,rfl,rfl,_⟩ <;> rcases hL with ⟨_,rfl,rfl⟩|⟨_,_,_,_,rfl,rfl,_⟩ <;> (repeat first|exact trivial|refine⟨rfl,?_⟩|refine⟨congrArg (λl=>some (_,l)) (bu (by first|exact bU.cV (by assumption)|exact af _|(rw[<-List.map_append];exact af _)) _ _),?_⟩)
      ·rcases hO with ⟨_,rfl,rfl⟩|⟨_,_,_,_,rfl,rfl,_⟩ <;> rcases hL with ⟨_,rfl,rfl⟩|⟨_,_,_,_,rfl,rfl,_⟩ <;> rfl
      ·rcases hO with ⟨_,rfl,rfl⟩|⟨_,_,_,_,rfl,rfl,_⟩ <;> rcases hL with ⟨_,rfl,rfl⟩|⟨_,_,_,_,rfl,rfl,_⟩ <;> (repeat first|exact trivial|refine⟨ai.lit rfl,?_⟩|refine⟨bU.oU (by assumption),?_⟩|refine⟨ai.append (.vals _) (.vals _),?_⟩|refine⟨ai.vals _,?_⟩)
    ·clear hI
     rintro F1 H1 oy ⟨_,_,h1,h2,h3,h4,Xi',Mi',rfl,rfl,hI,hkp⟩
     refine VS.narrow _ _ h1 h2 h3 h4 ?_
     clear h1 h2 h3 h4 F1 H1
     refine aa ?_
     by_cases h6:k.1=6
     ·have FG:rA (k,x)=true:=by unfold rA;rw[show (k,x).1.1=6 from h6];rfl
      have hyrs:1<=fb k.2:=hyr k (List.mem_of_getElem? jo) h6
      have hwell:cN (mS y (k,x)).exp=false:=sM ab hyrs
      have xK:ik cs xss y (z+1)=ik cs xss y z++[mS y (k,x)]:=by rw[oK jo (by rw[wY];exact Cv),if_pos FG]
      have hput:ig (eh (ik cs xss y z)) (mS y (k,x))=eh (ik cs xss y (z+1)):=by rw[xK];exact JE ab hyrs
      have zl:(if cN (cj.exp (mS y (k,x)))=true then (2:Int) else 0)=0:=if_neg (by rw[hwell];simp)
      have rB:(eh (ik cs xss y z)).length<=128:=Nat.le_trans (tL _) (wW hlt (hN▸hTN))
      have hayl:=AB k.2
      obtain⟨bC,oC,csC,rfl,hcC,hEC⟩:=hv.at jo
      have hEC':=hEC
      obtain⟨nm,sC,pC,nC,cC,tC,yC,mC,dC,rfl,-,-⟩:=hEC'
      refine VS.aJ rfl (CN (show (k.1:Int)=6 by omega)) ?_
      (repeat (first|refine wN ?_|refine wP rfl ?_|refine IE rfl ?_|refine wO rfl rfl ?_))
      refine VS.draw (cH _ _) (nX _ _) [36+1000000] (by kernel_rfl) ?_
      refine wV rfl ?_
      refine VO.cond rfl dz ?_
      refine wV rfl ?_
      refine aa ?_
      refine VO.read rfl [.string nm,.int .u8 (k.1:Int),.bool sC,.slice pC nC cC,.bool tC,.slice yC mC dC] rfl (bX hcC 0 _ ⟨[],rfl⟩) (wV rfl ?_)
      refine aa ?_
      refine VO.cB rfl rfl (fk Tryz.func37) (λdJ eu eO=>wS _ k kk dJ ((dU kk).b hEC eO) ab) (λdJ eu eO w4 fe ir _ nu=>wV rfl ?_)
      refine aa ?_
      refine VO.cR rfl rfl (fk Tryz.func11) (λfI fY im=>cZ 0 fI ab ab) (λfI fY im w5 s5 p5 n5 c5 t5 y5 m5 d5 q5 il lG _ tW=>wV rfl ?_)
      refine aa ?_
      refine VO.cR rfl rfl (fk Tryz.func13) (λni nv rI=>fv _ _ x ((0:Int):Rat) (bd kk) 1 ni (hiX.kp bg) (q5.ki bW.zero) (by unfold bd;omega) ab) (λni nv rI w6 s6 p6 n6 c6 t6 y6 m6 d6 q6 pw rJ _ AO=>wV rfl ?_)
      refine aa ?_
      have q6':aG w6 (.agg #[.bool s6,.slice p6 n6 c6,.bool t6,.slice y6 m6 d6]) x:=q6.rd.cast (by rw[show ((0:Int):Rat)=0 from rfl,Rat.add_zero])
      have dZ:=q6'.raw
      have hxz:=hiX.lM
      have hxz':bW x (bd kk):=hxz.mono (by unfold bd;omega)
      rcases hL with ⟨dk,rfl,rfl⟩|⟨nl,cl,vl,spl,rfl,rfl,xw,xm,hl3,hl4,hl5,LQ⟩
      ·rw[dk] at hput
       refine VO.Mz (d1:=24) (d2:=120) (y:=(y:Int)) (z:=(fb k.2:Int)) (s:=decide (x.num<0)) (xs:=limbs x.num.natAbs) (t:=decide ((x.den:Int)<0)) (ys:=limbs (x.den:Int).natAbs) (bd kk) (code:=0) (l':=eh (ik cs xss y (z+1))) zl hput rfl rfl (fk Tryz.func36) rfl (by rcases hI with ⟨_,rfl,rfl⟩|⟨_,_,_,_,rfl,rfl,_⟩ <;> rcases hO with ⟨_,rfl,rfl⟩|⟨_,_,_,_,rfl,rfl,_⟩ <;> rfl) fc (bl rfl) (bl rfl) rfl (λw1 k1 b1=>dZ.k) ⟨by omega,by omega⟩ ⟨by omega,by omega⟩ hxz'.1 hxz'.2 (by unfold bd;omega) (λw7 k7 b7 hnil7=>wV rfl ?_) (λw7 n7 c7 vs7 sp7 k7 b7 h0 h1 h2 h3 h4 h5 h6=>wV rfl ?_)
       ·refine aa ?_
        refine VS.back (N-(z+1)) ab ⟨_,_,?_,?_,?_,?_,⟨z+1,Xi',.val (.slice none 0 0),.row 35 0 nt ct2,Mi',[],[(35,_)],by omega,rfl,rfl,rfl,.inr ⟨nt,ct2,vst,spt,rfl,rfl,hNt.kp (dc (bd kk)) bg⟩,hI.kp (dc (bd kk)) bg,hO.kp (bh AK) bg,.inl ⟨hnil7,rfl,rfl⟩⟩⟩
        ·rcases hI with ⟨_,rfl,rfl⟩|⟨_,_,_,_,rfl,rfl,_⟩ <;> rcases hO with ⟨_,rfl,rfl⟩|⟨_,_,_,_,rfl,rfl,_⟩ <;> (refine⟨rfl,rfl,rfl,rfl,rfl,rfl,rfl,rfl,rfl,rfl,rfl,?_,trivial⟩;rw[<-aB (i:=z) ab];rfl)
        ·rcases hI with ⟨_,rfl,rfl⟩|⟨_,_,_,_,rfl,rfl,_⟩ <;> rcases hO with ⟨_,rfl,rfl⟩|⟨_,_,_,_,rfl,rfl,_⟩ <;> (repeat first|exact trivial|refine⟨rfl,?_⟩|refine⟨congrArg (λl=>some (_,l)) (bu (by first|exact bU.cV (by assumption)|exact af _|(rw[<-List.map_append];exact af _)) _ _),?_⟩)
        ·rcases hI with ⟨_,rfl,rfl⟩|⟨_,_,_,_,rfl,rfl,_⟩ <;> rcases hO with ⟨_,rfl,rfl⟩|⟨_,_,_,_,rfl,rfl,_⟩ <;> rfl
        ·rcases hI with ⟨_,rfl,rfl⟩|⟨_,_,_,_,rfl,rfl,_⟩ <;> rcases hO with ⟨_,rfl,rfl⟩|⟨_,_,_,_,rfl,rfl,_⟩ <;> (repeat first|exact trivial|refine⟨ai.lit rfl,?_⟩|refine⟨bU.oU (by assumption),?_⟩|refine⟨ai.append (.vals _) (.vals _),?_⟩|refine⟨ai.vals _,?_⟩)
       ·refine aa ?_
        refine VS.back (N-(z+1)) ab ⟨_,_,?_,?_,?_,?_,⟨z+1,Xi',.row 120 0 n7 c7,.row 35 0 nt ct2,Mi',[(120,_)],[(35,_)],by omega,rfl,rfl,rfl,.inr ⟨nt,ct2,vst,spt,rfl,rfl,hNt.kp (dc (bd kk)) bg⟩,hI.kp (dc (bd kk)) bg,hO.kp (bh AK) bg,.inr ⟨n7,c7,vs7,sp7,rfl,rfl,h1,h2,h3,h4,h5,h6⟩⟩⟩
        ·rcases hI with ⟨_,rfl,rfl⟩|⟨_,_,_,_,rfl,rfl,_⟩ <;> rcases hO with ⟨_,rfl,rfl⟩|⟨_,_,_,_,rfl,rfl,_⟩ <;> (refine⟨rfl,rfl,rfl,rfl,rfl,rfl,rfl,rfl,rfl,rfl,rfl,?_,trivial⟩;rw[<-aB (i:=z) ab];rfl)
        ·rcases hI with ⟨_,rfl,rfl⟩|⟨_,_,_,_,rfl,rfl,_⟩ <;> rcases hO with ⟨_,rfl,rfl⟩|⟨_,_,_,_,rfl,rfl,_⟩ <;> (repeat first|exact trivial|refine⟨rfl,?_⟩|refine⟨congrArg (λl=>some (_,l)) (bu (by first|exact bU.cV (by assumption)|exact af _|(rw[<-List.map_append];exact af _)) _ _),?_⟩)
        ·rcases hI with ⟨_,rfl,rfl⟩|⟨_,_,_,_,rfl,rfl,_⟩ <;> rcases hO with ⟨_,rfl,rfl⟩|⟨_,_,_,_,rfl,rfl,_⟩ <;> rfl
        ·rcases hI with ⟨_,rfl,rfl⟩|⟨_,_,_,_,rfl,rfl,_⟩ <;> rcases hO with ⟨_,rfl,rfl⟩|⟨_,_,_,_,rfl,rfl,_⟩ <;> (repeat first|exact trivial|refine⟨ai.lit rfl,?_⟩|refine⟨bU.oU (by assumption),?_⟩|refine⟨ai.append (.vals _) (.vals _),?_⟩|refine⟨ai.vals _,?_⟩)
      ·refine VO.MA (d1:=24) (d2:=120) (y:=(y:Int)) (z:=(fb k.2:Int)) (s:=decide (x.num<0)) (xs:=limbs x.num.natAbs) (t:=decide ((x.den:Int)<0)) (ys:=limbs (x.den:Int).natAbs) (bd kk) (code:=0) (l':=eh (ik cs xss y (z+1))) zl hput rfl rfl (fk Tryz.func36) rfl (by rcases hI with ⟨_,rfl,rfl⟩|⟨_,_,_,_,rfl,rfl,_⟩ <;> rcases hO with ⟨_,rfl,rfl⟩|⟨_,_,_,_,rfl,rfl,_⟩ <;> rfl) fc (bl rfl) (bl rfl) xw (xm.kp (dm (bd kk)) bg) hl3 hl4 hl5 LQ (λ_ h=>h) (λt ht=>kp_fz ht) (λw1 k1 b1=>dZ.k) ⟨by omega,by omega⟩ ⟨by omega,by omega⟩ hxz'.1 hxz'.2 (by unfold bd;omega) ab (λw7 n7 c7 vs7 sp7 ρ k7 b7 eV h1 h2 h3 h4 h5 h6=>wV rfl ?_)
       refine aa ?_
       refine VS.back (N-(z+1)) ab ⟨_,_,?_,?_,?_,?_,⟨z+1,Xi',.row 120 0 n7 c7,.row 35 0 nt ct2,Mi',[(120,_)],[(35,_)],by omega,rfl,rfl,rfl,.inr ⟨nt,ct2,vst,spt,rfl,rfl,hNt.kp (dc (bd kk)) bg⟩,hI.kp (dc (bd kk)) bg,hO.kp (bh AK) bg,.inr ⟨n7,c7,vs7,sp7,rfl,rfl,h1,h2,h3,h4,h5,h6⟩⟩⟩
       ·rcases hI with ⟨_,rfl,rfl⟩|⟨_,_,_,_,rfl,rfl,_⟩ <;> rcases hO with ⟨_,rfl,rfl⟩|⟨_,_,_,_,rfl,rfl,_⟩ <;> (refine⟨rfl,rfl,rfl,rfl,rfl,rfl,rfl,rfl,rfl,rfl,rfl,?_,trivial⟩;rw[<-aB (i:=z) ab];rfl)
       ·rcases hI with ⟨_,rfl,rfl⟩|⟨_,_,_,_,rfl,rfl,_⟩ <;> rcases hO with ⟨_,rfl,rfl⟩|⟨_,_,_,_,rfl,rfl,_⟩ <;> (repeat first|exact trivial|refine⟨rfl,?_⟩|refine⟨congrArg (λl=>some (_,l)) (bu (by first|exact bU.cV (by assumption)|exact af _|(rw[<-List.map_append];exact af _)) _ _),?_⟩)
       ·rcases hI with ⟨_,rfl,rfl⟩|⟨_,_,_,_,rfl,rfl,_⟩ <;> rcases hO with ⟨_,rfl,rfl⟩|⟨_,_,_,_,rfl,rfl,_⟩ <;> rfl
       ·rcases hI with ⟨_,rfl,rfl⟩|⟨_,_,_,_,rfl,rfl,_⟩ <;> rcases hO with ⟨_,rfl,rfl⟩|⟨_,_,_,_,rfl,rfl,_⟩ <;> (repeat first|exact trivial|refine⟨ai.lit rfl,?_⟩|refine⟨bU.oU (by assumption),?_⟩|refine⟨ai.append (.vals _) (.vals _),?_⟩|refine⟨ai.vals _,?_⟩)
     ·have FG:¬ rA (k,x)=true:=by unfold rA;intro h;exact h6 (eq_of_beq h)
      have xK:ik cs xss y (z+1)=ik cs xss y z:=by rw[oK jo (by rw[wY];exact Cv),if_neg FG,List.append_nil]
      refine VS.aK rfl (yK (show (k.1:Int)≠6 by omega)) ?_
      refine aa ?_
      refine VS.back (N-(z+1)) ab ⟨_,_,?_,?_,?_,?_,⟨z+1,Xi',Xl,.row 35 0 nt ct2,Mi',Ml,[(35,_)],by omega,rfl,rfl,rfl,.inr ⟨nt,ct2,vst,spt,rfl,rfl,hNt.kp (dc (bd kk)) bg⟩,hI.kp (dc (bd kk)) bg,hO.kp (bh AK) bg,by rw[xK];exact hL.kp bg⟩⟩
      ·rcases hI with ⟨_,rfl,rfl⟩|⟨_,_,_,_,rfl,rfl,_⟩ <;> rcases hO with ⟨_,rfl,rfl⟩|⟨_,_,_,_,rfl,rfl,_⟩ <;> rcases hL with ⟨_,rfl,rfl⟩|⟨_,_,_,_,rfl,rfl,_⟩ <;> (refine⟨rfl,rfl,rfl,rfl,rfl,rfl,rfl,rfl,rfl,rfl,rfl,?_,trivial⟩;rw[<-aB (i:=z) ab];rfl)
      ·rcases hI with ⟨_,rfl,rfl⟩|⟨_,_,_,_,rfl,rfl,_⟩ <;> rcases hO with ⟨_,rfl,rfl⟩|⟨_,_,_,_,rfl,rfl,_⟩ <;> rcases hL with ⟨_,rfl,rfl⟩|⟨_,_,_,_,rfl,rfl,_⟩ <;> (repeat first|exact trivial|refine⟨rfl,?_⟩|refine⟨congrArg (λl=>some (_,l)) (bu (by first|exact bU.cV (by assumption)|exact af _|(rw[<-List.map_append];exact af _)) _ _),?_⟩)
      ·rcases hI with ⟨_,rfl,rfl⟩|⟨_,_,_,_,rfl,rfl,_⟩ <;> rcases hO with ⟨_,rfl,rfl⟩|⟨_,_,_,_,rfl,rfl,_⟩ <;> rcases hL with ⟨_,rfl,rfl⟩|⟨_,_,_,_,rfl,rfl,_⟩ <;> rfl
      ·rcases hI with ⟨_,rfl,rfl⟩|⟨_,_,_,_,rfl,rfl,_⟩ <;> rcases hO with ⟨_,rfl,rfl⟩|⟨_,_,_,_,rfl,rfl,_⟩ <;> rcases hL with ⟨_,rfl,rfl⟩|⟨_,_,_,_,rfl,rfl,_⟩ <;> (repeat first|exact trivial|refine⟨ai.lit rfl,?_⟩|refine⟨bU.oU (by assumption),?_⟩|refine⟨ai.append (.vals _) (.vals _),?_⟩|refine⟨ai.vals _,?_⟩)
   ·refine VS.aK rfl (decide_eq_false (λe=>hzt (Int.ofNat_lt.1 e))) ?_
    obtain rfl:z=N:=by omega
    rw[List.take_of_length_le ab] at hI
    have hlN:ik cs xss y z=cT cs xss (y+1):=by
     unfold ik
     rw[List.take_of_length_le (by rw[List.length_zip,wY];omega)];rfl
    have rB:(eh (cT cs xss (y+1))).length<=128:=hlN▸Nat.le_trans (tL _) (wW hlt (hN▸hTN))
    rw[hlN] at hL
    have hlw:∀ e∈eh (cT cs xss (y+1)),cN e.exp=false:=λe he=>sO hyr (y+1) ab e (List.mem_filter.1 he).1
    have Ae:bd kk<=64:=by unfold bd;omega
    have hu0:1<=bd kk:=by unfold bd;omega
    have hrs:eg (bd kk) (bL cs xs).length<=13000:=by
     rw[AL]
     have:z*(3*bd kk+2)<=64*(3*64+2):=Nat.mul_le_mul ab ab
     unfold eg;omega
    have xR:bo (bd (bd kk)+1) (eh (cT cs xss (y+1))).length<=9000:=by
     have h1:bd (bd (bd kk)+1)+1<=66:=by unfold bd at*;omega
     have:(eh (cT cs xss (y+1))).length*(bd (bd (bd kk)+1)+1)<=128*66:=Nat.mul_le_mul rB h1
     unfold bo;omega
    refine aa ?_
    refine VO.fq rfl (fk Tryz.func15) (λEN β ka8 ba8 ho=>(Jm _ (bL cs xs) (bd kk) EN (hI.slin (dc (bd kk)) ho (by intro q hq;rcases FF with ⟨_,rfl,rfl⟩|⟨_,_,_,_,rfl,rfl,_⟩ <;> rcases hI with ⟨_,rfl,rfl⟩|⟨_,_,_,_,rfl,rfl,_⟩ <;> first|(cases hq;done)|(cases List.mem_singleton.1 hq;rfl)) bg) hu0 ab ab).mono ?_)
    rintro o w8 ⟨r8,rfl,q8,Gd⟩
    have FH:Ax (bS (bL cs xs)) 13000:=by
     have pN:∀ x∈bL cs xs,bW x.2.1 (bd kk)/\bW x.2.2 (bd kk):=by
      rcases hI with ⟨dk,_,_⟩|⟨n',c',vs,sp,_,_,kf⟩
      ·rw[dk];intro x hx;cases hx
      ·intro x hx
       obtain⟨i,hi⟩:=List.getElem?_of_mem hx
       obtain⟨cs0,_,h2,_⟩:=kf.cell (dc (bd kk)) hi
       exact mP.sz h2 hu0
     exact (mO hu0 _ pN).mono hrs
    obtain⟨s8a,p8a,n8a,c8a,t8a,y8a,m8a,d8a,s8b,p8b,n8b,c8b,t8b,y8b,m8b,d8b,s8c,p8c,n8c,c8c,t8c,y8c,m8c,d8c,s8d,p8d,n8d,c8d,t8d,y8d,m8d,d8d,rfl,g1,g2,g3,g4⟩:=q8
    refine aF Gd ?_
    intro DC _ bb8
    refine VO.fq rfl (fk Tryz.func38) (λwa9 β ka9 ba9 ho=>(Mq (β 24) (eh (cT cs xss (y+1))) (bd kk) (y:Int) wa9 (hL.in ho (by simp[eZ,AV.ids]) rfl (by intro q hq;rcases FF with ⟨_,rfl,rfl⟩|⟨_,_,_,_,rfl,rfl,_⟩ <;> rcases hI with ⟨_,rfl,rfl⟩|⟨_,_,_,_,rfl,rfl,_⟩ <;> rcases hL with ⟨_,rfl,rfl⟩|⟨_,_,_,_,rfl,rfl,_⟩ <;> first|(cases hq;done)|(cases List.mem_singleton.1 hq;rfl)) bg) ab ⟨by omega,by omega⟩ rB).mono ?_)
    rintro o w9 ⟨r9,rfl,q9,z9,hb9⟩
    obtain⟨s9,p9,n9,c9,t9,y9,m9,d9,rfl⟩:=q9.form
    refine aF hb9 ?_
    intro GC _ bb9
    refine VO.fq rfl (fk Tryz.func39) (λlI β oQ sH ho=>(AA (β 24) (eh (cT cs xss (y+1))) (bd kk) (y:Int) lI (hL.in ho (by simp[eZ,AV.ids]) rfl (by intro q hq;rcases FF with ⟨_,rfl,rfl⟩|⟨_,_,_,_,rfl,rfl,_⟩ <;> rcases hI with ⟨_,rfl,rfl⟩|⟨_,_,_,_,rfl,rfl,_⟩ <;> rcases hL with ⟨_,rfl,rfl⟩|⟨_,_,_,_,rfl,rfl,_⟩ <;> first|(cases hq;done)|(cases List.mem_singleton.1 hq;rfl)) bg) hlw ab ⟨by omega,by omega⟩ rB).mono ?_)
    rintro o w10 ⟨r10,rfl,JW,z10,rj⟩
    obtain⟨s10,p10,n10,c10,t10,y10,m10,d10,rfl⟩:=JW.form
    refine aF rj ?_
    intro iq _ CB
    rw[JC] at q9 z9
    rw[JD] at JW z10
    have zd:bW (eE (cT cs xss (y+1)) (y:Int)) 9000:=z9.mono xR
    have zb:bW (fA (cT cs xss (y+1)) (y:Int)) 9000:=z10.mono xR
    refine VO.cR rfl rfl (fk Tryz.func14) (λjZ oc rk=>ql _ _ (bS (bL cs xs)).s (eE (cT cs xss (y+1)) (y:Int)) 13000 9000 jZ (g2.ki FH.s) (q9.ki zd) ab ab) (λjZ oc rk w11 s11 p11 n11 c11 t11 y11 m11 d11 q11 tY kc _ CC=>wV rfl ?_)
    refine aa ?_
    have zs:=FH.s.sub zd
    refine VO.cR rfl rfl (fk Tryz.func14) (λmw qk vT=>ql _ _ ((bS (bL cs xs)).s-eE (cT cs xss (y+1)) (y:Int)) (bS (bL cs xs)).i 22001 13000 mw (q11.ki zs) (g4.ki FH.i) ab ab) (λmw qk vT w12 s12 p12 n12 c12 t12 y12 m12 d12 q12 sI od _ EO=>wV rfl ?_)
    refine aa ?_
    have zo:=zs.sub FH.i
    have hya:(ij cs xss)[y]? =some (xL (bS (bL cs xs)) (eE (cT cs xss (y+1)) y) (fA (cT cs xss (y+1)) y)):=by
     rw[oo ab];unfold sL;rw[wY]
    have kX:eG AK w12 [.bool s8a,.slice p8a n8a c8a,.bool t8a,.slice y8a m8a d8a,.bool s11,.slice p11 n11 c11,.bool t11,.slice y11 m11 d11,.bool s8c,.slice p8c n8c c8c,.bool t8c,.slice y8c m8c d8c,.bool s8d,.slice p8d n8d c8d,.bool t8d,.slice y8d m8d d8d,.bool s9,.slice p9 n9 c9,.bool t9,.slice y9 m9 d9,.bool s10,.slice p10 n10 c10,.bool t10,.slice y10 m10 d10,.bool s12,.slice p12 n12 c12,.bool t12,.slice y12 m12 d12] (xL (bS (bL cs xs)) (eE (cT cs xss (y+1)) y) (fA (cT cs xss (y+1)) y)):=
     ⟨_,_,_,_,_,_,_,rfl,.mk g1.k (FH.b.mono (by unfold AK;omega)),.mk q11.kr (zs.mono (by unfold AK;omega)),.mk g3.k (FH.d.mono (by unfold AK;omega)),.mk g4.k (FH.i.mono (by unfold AK;omega)),.mk q9.kr (zd.mono (by unfold AK;omega)),.mk JW.kr (zb.mono (by unfold AK;omega)),.mk q12.rd (zo.mono (by unfold AK;omega))⟩
    rcases hO with ⟨dk,rfl,rfl⟩|⟨n',c',vs,sp,rfl,rfl,kf⟩
    ·refine VO.na (cH _ _) (bh AK) (t:=26) (e:=49) (s:=95) (a:=(xL (bS (bL cs xs)) (eE (cT cs xss (y+1)) y) (fA (cT cs xss (y+1)) y))) (cs:=[.bool s8a,.slice p8a n8a c8a,.bool t8a,.slice y8a m8a d8a,.bool s11,.slice p11 n11 c11,.bool t11,.slice y11 m11 d11,.bool s8c,.slice p8c n8c c8c,.bool t8c,.slice y8c m8c d8c,.bool s8d,.slice p8d n8d c8d,.bool t8d,.slice y8d m8d d8d,.bool s9,.slice p9 n9 c9,.bool t9,.slice y9 m9 d9,.bool s10,.slice p10 n10 c10,.bool t10,.slice y10 m10 d10,.bool s12,.slice p12 n12 c12,.bool t12,.slice y12 m12 d12]) rfl rfl rfl rfl rfl rfl rfl rfl (bl rfl) rfl (by rcases FF with ⟨_,rfl,rfl⟩|⟨_,_,_,_,rfl,rfl,_⟩ <;> rcases hI with ⟨_,rfl,rfl⟩|⟨_,_,_,_,rfl,rfl,_⟩ <;> rcases hL with ⟨_,rfl,rfl⟩|⟨_,_,_,_,rfl,rfl,_⟩ <;> rfl) rfl kX ab (λAl cap sp k13 b13 jv=>wV rfl ?_)
     refine aa ?_
     refine VS.back (T-(y+1)) ab ⟨_,_,?_,?_,?_,?_,⟨y+1,_,Xl,[(96,_)],Ml,by omega,rfl,rfl,rfl,.inr ⟨1,cap,_,sp,rfl,rfl,by rw[ba hya,dk];exact jv⟩,hL.kp bg⟩⟩
     ·rcases FF with ⟨_,rfl,rfl⟩|⟨_,_,_,_,rfl,rfl,_⟩ <;> rcases hI with ⟨_,rfl,rfl⟩|⟨_,_,_,_,rfl,rfl,_⟩ <;> rcases hL with ⟨_,rfl,rfl⟩|⟨_,_,_,_,rfl,rfl,_⟩ <;> (refine⟨rfl,rfl,rfl,rfl,rfl,rfl,?_,trivial⟩;rw[<-aB (i:=y) ab];rfl)
     ·rcases FF with ⟨_,rfl,rfl⟩|⟨_,_,_,_,rfl,rfl,_⟩ <;> rcases hI with ⟨_,rfl,rfl⟩|⟨_,_,_,_,rfl,rfl,_⟩ <;> rcases hL with ⟨_,rfl,rfl⟩|⟨_,_,_,_,rfl,rfl,_⟩ <;> (repeat first|exact trivial|refine⟨rfl,?_⟩|refine⟨congrArg (λl=>some (_,l)) (bu (by first|exact bU.cV (by assumption)|exact af _|(rw[<-List.map_append];exact af _)) _ _),?_⟩)
     ·rcases FF with ⟨_,rfl,rfl⟩|⟨_,_,_,_,rfl,rfl,_⟩ <;> rcases hI with ⟨_,rfl,rfl⟩|⟨_,_,_,_,rfl,rfl,_⟩ <;> rcases hL with ⟨_,rfl,rfl⟩|⟨_,_,_,_,rfl,rfl,_⟩ <;> rfl
     ·rcases FF with ⟨_,rfl,rfl⟩|⟨_,_,_,_,rfl,rfl,_⟩ <;> rcases hI with ⟨_,rfl,rfl⟩|⟨_,_,_,_,rfl,rfl,_⟩ <;> rcases hL with ⟨_,rfl,rfl⟩|⟨_,_,_,_,rfl,rfl,_⟩ <;> (repeat first|exact trivial|refine⟨ai.lit rfl,?_⟩|refine⟨bU.oU (by assumption),?_⟩|refine⟨ai.append (.vals _) (.vals _),?_⟩|refine⟨ai.vals _,?_⟩)
    ·have qe:=kf.len
     rw[List.length_take] at qe
     refine VO.nb (cH _ _) (bh AK) (t:=26) (e:=49) (s:=95) (i:=96) (n:=n') (c:=c') (vs:=vs) (sp:=sp) (es:=(ij cs xss).take y) (a:=(xL (bS (bL cs xs)) (eE (cT cs xss (y+1)) y) (fA (cT cs xss (y+1)) y))) (cs:=[.bool s8a,.slice p8a n8a c8a,.bool t8a,.slice y8a m8a d8a,.bool s11,.slice p11 n11 c11,.bool t11,.slice y11 m11 d11,.bool s8c,.slice p8c n8c c8c,.bool t8c,.slice y8c m8c d8c,.bool s8d,.slice p8d n8d c8d,.bool t8d,.slice y8d m8d d8d,.bool s9,.slice p9 n9 c9,.bool t9,.slice y9 m9 d9,.bool s10,.slice p10 n10 c10,.bool t10,.slice y10 m10 d10,.bool s12,.slice p12 n12 c12,.bool t12,.slice y12 m12 d12]) rfl rfl rfl rfl rfl rfl rfl rfl (bl rfl) rfl (.inr rfl) (by rcases FF with ⟨_,rfl,rfl⟩|⟨_,_,_,_,rfl,rfl,_⟩ <;> rcases hI with ⟨_,rfl,rfl⟩|⟨_,_,_,_,rfl,rfl,_⟩ <;> rcases hL with ⟨_,rfl,rfl⟩|⟨_,_,_,_,rfl,rfl,_⟩ <;> rfl) (kf.kp (bh AK) bg) rfl kX ab (λAl kS uJ ρ k13 b13 eV jv=>wV rfl ?_)
     refine aa ?_
     refine VS.back (T-(y+1)) ab ⟨_,_,?_,?_,?_,?_,⟨y+1,_,Xl,[(96,_)],Ml,by omega,rfl,rfl,rfl,.inr ⟨n' +1,kS,_,uJ,rfl,rfl,by rw[ba hya];exact jv⟩,hL.kp bg⟩⟩
     ·rcases FF with ⟨_,rfl,rfl⟩|⟨_,_,_,_,rfl,rfl,_⟩ <;> rcases hI with ⟨_,rfl,rfl⟩|⟨_,_,_,_,rfl,rfl,_⟩ <;> rcases hL with ⟨_,rfl,rfl⟩|⟨_,_,_,_,rfl,rfl,_⟩ <;> (refine⟨rfl,rfl,rfl,rfl,rfl,rfl,?_,trivial⟩;rw[<-aB (i:=y) ab];rfl)
     ·rcases FF with ⟨_,rfl,rfl⟩|⟨_,_,_,_,rfl,rfl,_⟩ <;> rcases hI with ⟨_,rfl,rfl⟩|⟨_,_,_,_,rfl,rfl,_⟩ <;> rcases hL with ⟨_,rfl,rfl⟩|⟨_,_,_,_,rfl,rfl,_⟩ <;> (repeat first|exact trivial|refine⟨rfl,?_⟩|refine⟨congrArg (λl=>some (_,l)) (bu (by first|exact bU.cV (by assumption)|exact af _|(rw[<-List.map_append];exact af _)) _ _),?_⟩)
     ·rcases FF with ⟨_,rfl,rfl⟩|⟨_,_,_,_,rfl,rfl,_⟩ <;> rcases hI with ⟨_,rfl,rfl⟩|⟨_,_,_,_,rfl,rfl,_⟩ <;> rcases hL with ⟨_,rfl,rfl⟩|⟨_,_,_,_,rfl,rfl,_⟩ <;> rfl
     ·rcases FF with ⟨_,rfl,rfl⟩|⟨_,_,_,_,rfl,rfl,_⟩ <;> rcases hI with ⟨_,rfl,rfl⟩|⟨_,_,_,_,rfl,rfl,_⟩ <;> rcases hL with ⟨_,rfl,rfl⟩|⟨_,_,_,_,rfl,rfl,_⟩ <;> (repeat first|exact trivial|refine⟨ai.lit rfl,?_⟩|refine⟨bU.oU (by assumption),?_⟩|refine⟨ai.append (.vals _) (.vals _),?_⟩|refine⟨ai.vals _,?_⟩)
 ·refine VS.aK rfl (decide_eq_false (λe=>hlt (Int.ofNat_lt.1 e))) ?_
  obtain rfl:y=T:=by omega
  rw[List.take_of_length_le (by unfold ij;rw[List.length_map,List.length_range];omega)] at hO
  rcases hO with ⟨dk,rfl,rfl⟩|⟨n',c',vs,sp,rfl,rfl,kf⟩
  ·refine aa ?_
   refine au ?_;intro wz kz bz
   exact⟨_,rfl,.inl ⟨rfl,dk⟩,bz⟩
  ·refine aa ?_
   refine VS.mh (cH _ _) rfl (λwz β kz bz en=> ?_)
   exact⟨_,rfl,kf.new (bh AK) (en.own 96 _ _ (by rcases hL with ⟨_,rfl,rfl⟩|⟨_,_,_,_,rfl,rfl,_⟩ <;> rfl)) kz,bz⟩
set_option maxRecDepth 4000
abbrev tM (P:Program) (w:World) (N:Nat):Cx:={ P:=P,w0:=w,N:=N,K:=⟨UU,λ_=>True,λt=>(Nat.beq t 34 || (Nat.beq t 81 || (Nat.beq t 38 || (Nat.beq t 49 || Nat.beq t 59))))⟩,SU:=λt=>Nat.beq t 30,ti:=table,keep:=λ_ _=>trivial }
theorem gl (w:World) (N:Nat):(tM Tryz.prog w N).Ok:=jb
theorem JG (w:World) (N:Nat):(tM Tryz.prog w N).P.follows .mixedOrders=true:=by show Tryz.prog.follows .mixedOrders=true;kernel_rfl
section
variable {F F':Fr} {H H':Hp} {w w1:World} {N:Nat} {l':List Oper} {Q:Exit->Act->World->Prop} {k:List It} {id:Nat} {ops:Array Oper}
theorem cxJ_r (e:kO (tM Tryz.prog w1 N) ops 80 ops.toList F H=(l',F',H')) (h:ao (tM Tryz.prog w1 N) none ops l' (VS (tM Tryz.prog w1 N) Q k) F' H' w):VS (tM Tryz.prog w1 N) Q (.code (.region id ops false)::k) F H w:=VS.region (gl _ _) (VO.run 80 e h)
theorem cxJ_d (e:kO (tM Tryz.prog w1 N) ops 80 ops.toList F H=(l',F',H')) (h:ao (tM Tryz.prog w1 N) (some []) ops l' (VS (tM Tryz.prog w1 N) Q k) F' H' w) (nh:kM (tM Tryz.prog w1 N).SU [] ops=true:=by kernel_rfl):VS (tM Tryz.prog w1 N) Q (.code (.region id ops true)::k) F H w:=VS.draw (gl _ _) (JG _ _) [] nh (VO.run 80 e h)
end
theorem JH (l:List cj) (z:Int):eE l z=eb ((l.map cj.exp).map λe=>ic e z):=by unfold eE;rw[List.map_map];rfl
theorem JI (l:List cj) (z:Int):fA l z=eb ((l.map cj.exp).map λe=>rp e z):=by unfold fA;rw[List.map_map];rfl
def Dj (cs:List fE) (xss:List (List Rat)):Nat->List Mn
 | 0=>[]
 | n+1=>Dj cs xss n++((cs.zip (xss.getD n [])).filter rA).map λp=>((n:Int),(fb p.1.2:Int),true,p.2)
theorem Dk (cs:List fE) (xss:List (List Rat)):∀ n,(cT cs xss n).map cj.exp=Dj cs xss n
 | 0=>rfl
 | n+1=>by
   show (cT cs xss n++jm n _).map cj.exp=_
   rw[List.map_append,Dk cs xss n]
   show _=Dj cs xss n++_
   congr 1
   unfold jm
   rw[List.map_map]
   refine List.map_congr_left λp _=> ?_
   show (mS n p).exp=_
   rw[mS,wE]
theorem sP (cs:List fE) (xss:List (List Rat)) (y:Nat):sL cs xss y=xL (bS (bL cs (xss.getD y []))) (eb ((Dj cs xss (y+1)).map λe=>ic e y)) (eb ((Dj cs xss (y+1)).map λe=>rp e y)):=by
 unfold sL;rw[JH,JI,Dk]
def wcs:List fE:=[(1,Rat.divInt 0 1),(6,Rat.divInt 2 1)]
def wts:List (List (List Rat)):=[[[Rat.divInt 100 1,Rat.divInt 10 1]],[[Rat.divInt 50 1,Rat.divInt 0 1]],[[Rat.divInt 0 1,Rat.divInt 6 1]]]
def wxs:List (List Rat):=[[Rat.divInt 100 1,Rat.divInt 10 1],[Rat.divInt 50 1,Rat.divInt 0 1],[Rat.divInt 0 1,Rat.divInt 6 1]]
theorem wmay:gL wcs 0 wts=0:=by decide+kernel
theorem wrows:bn wcs 0 wts=ij wcs wxs:=if_pos wmay
theorem wlen:(ij wcs wxs).length=3:=by unfold ij;rw[List.length_map,List.length_range];rfl
theorem wnum (z:Nat) (hz:z<3):∃ (a b d:Int),([[100,0,10],[45,5,5],[-5,5,6]]:List (List Int))[z]? =some [a,b,d]/\(∃ r,(ij wcs wxs)[z]? =some r/\r.p.s=Rat.divInt a 1/\r.due=Rat.divInt b 1/\r.bal=Rat.divInt d 1)/\-100<=a/\a<=100/\-100<=b/\b<=100/\-100<=d/\d<=100:=by
 obtain rfl|rfl|rfl:z=0\/z=1\/z=2:=by omega
 ·refine⟨100,0,10,rfl,⟨_,oo fc,?_⟩,by decide⟩
  rw[sP];decide+kernel
 ·refine⟨45,5,5,rfl,⟨_,oo fc,?_⟩,by decide⟩
  rw[sP];decide+kernel
 ·refine⟨-5,5,6,rfl,⟨_,oo fc,?_⟩,by decide⟩
  rw[sP];decide+kernel
theorem fC.mk {kk k:Nat} {w:World} {nm:ByteArray} {s t:Bool} {p y:Option Addr} {n c m d:Nat} {q:Rat} (h0:k<256) (h:ax w (.agg #[.bool s,.slice p n c,.bool t,.slice y m d]) q kk):fC kk w [.string nm,.int .u8 (k:Int),.bool s,.slice p n c,.bool t,.slice y m d] (k,q):=⟨_,_,_,_,_,_,_,_,_,rfl,h0,h⟩
theorem oW.mk {kk:Nat} {w:World} {s t:Bool} {p y:Option Addr} {n c m d:Nat} {q:Rat} (h:ax w (.agg #[.bool s,.slice p n c,.bool t,.slice y m d]) q kk):oW kk w [.bool s,.slice p n c,.bool t,.slice y m d] q:=⟨_,_,_,_,_,_,_,_,rfl,h⟩
theorem MJ (w:World):Calls Tryz.prog 30 #[] w λe w'=>∃ r,e=.returned r/\bk (fC 2) 6 38 w.heap.size w' r wcs/\aw w w':=by
 refine ae (C:=aM Tryz.prog w _) (args:=[]) Tryz.func30 rfl Tryz.ntmps30 (bl rfl) ?_
 refine aa ?_
 refine VO.cR rfl rfl (fk Tryz.func31) (λaC aY aH=>iE 0 1 aC ab ab ab ab) (λaC aY aH w1 s1 p1 n1 c1 t1 y1 m1 d1 q1 aD bQ _ bb1=>wV rfl ?_)
 refine aa ?_
 refine VO.cR rfl rfl (fk Tryz.func31) (λaN bD bf=>iE 2 1 aN ab ab ab ab) (λaN bD bf w2 s2 p2 n2 c2 t2 y2 m2 d2 q2 aQ cL _ bb2=>wV rfl ?_)
 refine aa ?_
 refine VS.mh (cH _ _) rfl (λwz β kz bz en=> ?_)
 exact⟨_,rfl,wj (vs:=[[.string ⟨#[115,97,108,101,115]⟩,.int .u8 1,.bool s1,.slice p1 n1 c1,.bool t1,.slice y1 m1 d1],[.string ⟨#[97,100,115]⟩,.int .u8 6,.bool s2,.slice p2 n2 c2,.bool t2,.slice y2 m2 d2]]) (spare:=[]) (en.own 5 _ _ rfl) (.cons (fC.mk (k:=1) ab (q1.ki (mK ab ab ab ab))) (.cons (fC.mk (k:=6) ab (q2.ki (mK ab ab ab ab))) .nil)) rfl (Nat.le_refl _) fc rfl (λ_ _ h=>h),bz⟩
theorem MK {kk:Nat} {w:World}:fU (λ_:World=>nc kk w) 1 where
 kp:=λh _=>h
 len:=λh=>by
  obtain⟨v,rfl,_⟩:=h
  rfl
 ok:=λh=>by
  obtain⟨v,rfl,h⟩:=h
  obtain⟨p,c,rfl⟩:=h.sl
  rfl
theorem tab_len {kk:Nat} {w:World}:fU (λ_:World=>jW kk w) 1 where
 kp:=λh _=>h
 len:=λh=>by
  obtain⟨v,rfl,_⟩:=h
  rfl
 ok:=λh=>by
  obtain⟨v,rfl,h⟩:=h
  obtain⟨p,c,rfl⟩:=h.sl
  rfl
def Dl (w:World) (v:Value) (B:Nat) (q r:Rat):Prop:=∃ g b s1 p1 n1 c1 t1 y1 m1 d1 s2 p2 n2 c2 t2 y2 m2 d2,v=.slice (some ⟨g,0,none⟩) 1 1/\B<=g/\B<=b/\bj w g 81 #[.slice (some ⟨b,0,none⟩) 2 2]/\bj w b 34 #[.bool s1,.slice p1 n1 c1,.bool t1,.slice y1 m1 d1,.bool s2,.slice p2 n2 c2,.bool t2,.slice y2 m2 d2]/\
 ax w (.agg #[.bool s1,.slice p1 n1 c1,.bool t1,.slice y1 m1 d1]) q 2/\ax w (.agg #[.bool s2,.slice p2 n2 c2,.bool t2,.slice y2 m2 d2]) r 2
theorem Dl.kp {T:TypeId->Bool} {w w':World} {v:Value} {B:Nat} {q r:Rat} (h:Dl w v B q r) (k:aV ⟨UU,λ_=>True,T⟩ w w') (h1:T 81=true) (h2:T 34=true):Dl w' v B q r:=by
 have f:∀ t,T t=true->(KC.fz ⟨UU,λ_=>True,T⟩ t)=true:=λt ht=>by show (Nat.beq t UU || T t)=true;rw[ht];simp
 obtain⟨g,b,s1,p1,n1,c1,t1,y1,m1,d1,s2,p2,n2,c2,t2,y2,m2,d2,rfl,e1,e2,e3,e4,e5,e6⟩:=h
 exact⟨g,b,_,_,_,_,_,_,_,_,_,_,_,_,_,_,_,_,rfl,e1,e2,k.block _ g _ (f _ h1) trivial e3,k.block _ b _ (f _ h2) trivial e4,e5.kp k,e6.kp k⟩
theorem Dl.tab {w:World} {v:Value} {B:Nat} {q r:Rat} (h:Dl w v B q r):jW 2 w [v] [[q,r]]:=by
 obtain⟨g,b,s1,p1,n1,c1,t1,y1,m1,d1,s2,p2,n2,c2,t2,y2,m2,d2,rfl,e1,e2,e3,e4,e5,e6⟩:=h
 have hr:bM (oW 2) 4 w (.slice (some ⟨b,0,none⟩) 2 2) [q,r]:=oI (fD 2) (vs:=[[.bool s1,.slice p1 n1 c1,.bool t1,.slice y1 m1 d1],[.bool s2,.slice p2 n2 c2,.bool t2,.slice y2 m2 d2]]) (spare:=[]) e4 (.cons (.mk e5) (.cons (.mk e6) .nil)) rfl (Nat.le_refl _) (show (2:Nat)<=9223372036854775807 by omega)
 have h1:nc 2 w [.slice (some ⟨b,0,none⟩) 2 2] [q,r]:=⟨_,rfl,hr⟩
 exact⟨_,rfl,(oI (E:=λ_=>nc 2 w) MK (vs:=[[.slice (some ⟨b,0,none⟩) 2 2]]) (spare:=[]) e3 (.cons h1 .nil) rfl (Nat.le_refl _) (show (1:Nat)<=9223372036854775807 by omega)).mono (λ_ _ _ _ h=>h)⟩
theorem Dl.form {w:World} {v:Value} {B:Nat} {q r:Rat} (h:Dl w v B q r):∃ g,v=.slice (some ⟨g,0,none⟩) 1 1:=by
 obtain⟨g,b,s1,p1,n1,c1,t1,y1,m1,d1,s2,p2,n2,c2,t2,y2,m2,d2,rfl,_⟩:=h
 exact⟨g,rfl⟩
theorem sQ (a b:Int) (w:World) (a0: -1000<=a) (a1:a<=1000) (b0: -1000<=b) (b1:b<=1000):Calls Tryz.prog 32 #[.int .i64 a,.int .i64 b] w λe w'=>∃ v,e=.returned (.agg #[v])/\Dl w' v w.heap.size (Rat.divInt a 1) (Rat.divInt b 1)/\aw w w':=by
 refine ae (C:=aM Tryz.prog w _) (args:=[_,_]) Tryz.func32 rfl Tryz.ntmps32 (bl rfl) ?_
 refine aa ?_
 refine VO.cR rfl rfl (fk Tryz.func31) (λaC aY aH=>iE a 1 aC ab ab ab ab) (λaC aY aH w1 s1 p1 n1 c1 t1 y1 m1 d1 q1 aD bQ _ bb1=>wV rfl ?_)
 refine aa ?_
 refine VO.cR rfl rfl (fk Tryz.func31) (λaN bD bf=>iE b 1 aN ab ab ab ab) (λaN bD bf w2 s2 p2 n2 c2 t2 y2 m2 d2 q2 aQ cL _ bb2=>wV rfl ?_)
 refine aa ?_
 refine VS.mh (cH _ _) rfl (λwz β kz bz en=> ?_)
 have o1:=en.own 9 _ _ rfl
 have o2:=en.own 10 _ _ rfl
 exact⟨_,rfl,⟨β 10,β 9,_,_,_,_,_,_,_,_,_,_,_,_,_,_,_,_,rfl,o2.new,o1.new,o2.cls,o1.cls,q1.ki (mK ab ab ab ab),q2.ki (mK ab ab ab ab)⟩,bz⟩
theorem cg {P Q:Prop} (h:Q) (i:Q->P:=by intro h;(repeat first|refine wN ?_|refine wP rfl ?_|refine cxJ_r rfl ?_|refine cxJ_d rfl ?_|refine wO rfl rfl ?_);exact h):P:=i h
theorem wZ {P Q X:Prop} (hb:X) (h:Q) (i:X->Q->P:=by intro hb h;refine⟨_,rfl,hb,λa b c=>wV rfl ?_⟩;refine cg ?_;revert a b c;exact h):P:=i hb h
set_option maxRecDepth 4000 in
theorem oq (w:World):Calls Tryz.prog 9 #[] w λo w'=>o=.returned (.bool true)/\aw w w':=by
 refine ae (C:=tM Tryz.prog w _) (args:=[]) Tryz.func9 rfl Tryz.ntmps9 (bl rfl) ?_
 refine cg ?_
 refine VO.call rfl rfl (fk Tryz.func30) (λaC aY aH=>(MJ aC).mono ?_)
 rintro e w1 ⟨r1,rfl,q1,aD⟩
 obtain⟨pp,cp,rfl⟩:=q1.form
 refine wZ aD ?_
 intro bQ _ bb1
 refine VO.call rfl rfl (fk Tryz.func32) (λaN bD bf=>(sQ 100 10 aN ab ab ab ab).mono ?_)
 rintro e w2 ⟨r2,rfl,q2,aQ⟩
 obtain⟨g2,rfl⟩:=q2.form
 refine wZ aQ ?_
 intro cL _ bb2
 refine VO.call rfl rfl (fk Tryz.func32) (λcu cM cX=>(sQ 50 0 cu ab ab ab ab).mono ?_)
 rintro e w3 ⟨r3,rfl,q3,ck⟩
 obtain⟨g3,rfl⟩:=q3.form
 refine wZ ck ?_
 intro dR _ bb3
 refine VO.call rfl rfl (fk Tryz.func32) (λdJ eu eO=>(sQ 0 6 dJ ab ab ab ab).mono ?_)
 rintro e w4 ⟨r4,rfl,q4,fe⟩
 obtain⟨g4,rfl⟩:=q4.form
 refine wZ fe ?_
 intro ir _ nu
 refine VO.fq rfl (fk Tryz.func10) (λfI β fY im ho=>((AD _ _ 0 wcs wts 2 fI ((q1.kp (dU 2) bg rfl).sl (dU 2)) ((js (E:=λ_=>jW 2 fI) tab_len (ho.own 10 (.base (by simp[eZ,AV.ids])) _ _ rfl) [] (vs:=[[.slice (some ⟨g2,0,none⟩) 1 1],[.slice (some ⟨g3,0,none⟩) 1 1],[.slice (some ⟨g4,0,none⟩) 1 1]]) (by rfl) (.cons (q2.kp bg rfl rfl).tab (.cons (q3.kp bg rfl rfl).tab (.cons (q4.kp bg rfl rfl).tab .nil))) rfl (Nat.le_refl _) (show (3:Nat)<=9223372036854775807 by omega)).mono (λ_ _ _ _ h=>h)) ab fc (.inl fc)).mono (λo w2 h=>And.intro h im.size)).mono ?_)
 rintro o w5 ⟨⟨r5,rfl,q5,il⟩,hsz5⟩
 rw[wrows] at q5
 rw[wmay]
 obtain⟨p5,c5,rfl⟩:=q5.form
 rw[wlen] at q5 ⊢
 refine wZ il ?_
 intro lG _ tW
 refine VS.MB (λw=>tM Tryz.prog w 76) (λ_=>rfl) (λ_=>rfl) (λ_=>aw.refl _) (λw9 β k9 b9 en=> ?_)
 have q5':=(q5.kp (bh AK) (show aV (tM Tryz.prog w 76).K w5 w9 from bg) rfl).sl (bh AK)
 have ln:aw w w9:=b9
 have o24:=(en.own 24 _ _ rfl).cls
 have o21:=(en.own 21 _ _ rfl).cls
 have o22:=(en.own 22 _ _ rfl).cls
 have o23:=(en.own 23 _ _ rfl).cls
 refine⟨[(1,.val (.slice p5 3 c5)),(3,.val (.slice (some ⟨β 24,0,none⟩) 3 3)),(4,.val (.int .i64 0))],⟨⟨_,_,rfl,rfl,rfl⟩,⟨_,_,rfl,rfl,rfl⟩,⟨_,_,rfl,rfl,rfl⟩,trivial⟩,?_⟩
 have hwant:∀ z,z<3->∀ a b d,([[100,0,10],[45,5,5],[-5,5,6]]:List (List Int))[z]? =some [a,b,d]->∃ gz,w9.cell? ⟨β 24,0+((z:Nat):Int).toNat*1,none⟩=some (.slice (some ⟨gz,0,none⟩) 3 3)/\w9.cell? ⟨gz,0,none⟩=some (.int .i64 a)/\w9.cell? ⟨gz,1,none⟩=some (.int .i64 b)/\w9.cell? ⟨gz,2,none⟩=some (.int .i64 d):=by
  intro z hz a b d h
  obtain rfl|rfl|rfl:z=0\/z=1\/z=2:=by omega
  ·simp only[List.getElem?_cons_zero,Option.some.injEq,List.cons.injEq,and_true] at h
   obtain⟨rfl,rfl,rfl⟩:=h
   exact⟨β 21,o24.cell (by rfl),o21.cell (by rfl),o21.cell (by rfl),o21.cell (by rfl)⟩
  ·simp only[List.getElem?_cons_succ,List.getElem?_cons_zero,Option.some.injEq,List.cons.injEq,and_true] at h
   obtain⟨rfl,rfl,rfl⟩:=h
   exact⟨β 22,o24.cell (by rfl),o22.cell (by rfl),o22.cell (by rfl),o22.cell (by rfl)⟩
  ·simp only[List.getElem?_cons_succ,List.getElem?_cons_zero,Option.some.injEq,List.cons.injEq,and_true] at h
   obtain⟨rfl,rfl,rfl⟩:=h
   exact⟨β 23,o24.cell (by rfl),o23.cell (by rfl),o23.cell (by rfl),o23.cell (by rfl)⟩
 refine VS.loop (J:=λm L M w'=>∃ z:Nat,z<=3/\m=3-z/\L=[(1,.val (.slice p5 3 c5)),(3,.val (.slice (some ⟨β 24,0,none⟩) 3 3)),(4,.val (.int .i64 (z:Int)))]/\M=[]) 3 ⟨_,_,?_,?_,?_,?_,⟨0,by omega,rfl,rfl,rfl⟩⟩ ?_
 ·exact cW
 ·exact cW
 ·rfl
 ·exact fR
 rintro m L M wK ⟨z,hz,rfl,rfl,rfl⟩
 refine cg ?_
 by_cases hlt:z<3
 ·obtain⟨a,b,d,hw,⟨r,hr,e0,e1,e2⟩,a1,a2,b1,b2,d1,d2⟩:=wnum z hlt
  obtain⟨gz,hgz,hc0,nH,oP⟩:=hwant z hlt a b d hw
  obtain⟨bR,oR,csR,rfl,hcR,⟨_,_,_,_,_,_,_,rfl,⟨sA,pA,nA,cA,tA,yA,mA,dA,rfl,hA,zA⟩,⟨sB,pB,nB,cB,tB,yB,mB,dB,rfl,hB,zB⟩,⟨sC,pC,nC,cC,tC,yC,mC,dC,rfl,hC,zC⟩,⟨sD,pD,nD,cD,tD,yD,mD,dD,rfl,hD,zD⟩,⟨sE,pE,nE,cE,tE,yE,mE,dE,rfl,hE,zE⟩,⟨sF,pF,nF,cF,tF,yF,mF,dF,rfl,hF,zF⟩,⟨sG,pG,nG,cG,tG,yG,mG,dG,rfl,hG,zG⟩⟩⟩:=q5'.at hr
  refine VS.aJ rfl (decide_eq_true (show (z:Int)<3 by omega)) ?_
  refine cg ?_
  refine VO.cond rfl dz (wV rfl ?_)
  refine cg ?_
  refine VO.read rfl [.bool sB,.slice pB nB cB,.bool tB,.slice yB mB dB] rfl (bX hcR 4 _ ⟨_,rfl⟩) (wV rfl ?_)
  refine cg ?_
  refine VO.cond rfl dz (wV rfl ?_)
  refine cg ?_
  refine VO.read rfl [.slice (some ⟨gz,0,none⟩) 3 3] rfl (fN hgz) (wV rfl ?_)
  refine cg ?_
  refine VO.cond rfl dz (wV rfl ?_)
  refine cg ?_
  refine VO.read rfl [.int .i64 a] rfl (fN hc0) (wV rfl ?_)
  refine cg ?_
  refine VO.cR rfl rfl (fk Tryz.func31) (λlI oQ sH=>iE a 1 lI ab ab ab ab) (λlI oQ sH w10 s10 p10 n10 c10 t10 y10 m10 d10 JW rj iq _ CB=>wV rfl ?_)
  refine cg ?_
  refine VO.cB rfl rfl (fk Tryz.func16) (λjZ oc rk=>qm _ _ _ (Rat.divInt a 1) AK 2 jZ (hB.ki zB) (JW.ki (mK ab ab ab ab)) (by unfold AK;omega) ab true (decide_eq_true e0)) (λjZ oc rk w11 tY kc _ CC=>wV rfl ?_)
  refine cg ?_
  refine VO.cond rfl dz (wV rfl ?_)
  refine cg ?_
  refine VO.read rfl [.bool sE,.slice pE nE cE,.bool tE,.slice yE mE dE] rfl (bX hcR 16 _ ⟨_,rfl⟩) (wV rfl ?_)
  refine cg ?_
  refine VO.cond rfl dz (wV rfl ?_)
  refine cg ?_
  refine VO.read rfl [.slice (some ⟨gz,0,none⟩) 3 3] rfl (fN hgz) (wV rfl ?_)
  refine cg ?_
  refine VO.cond rfl dz (wV rfl ?_)
  refine cg ?_
  refine VO.read rfl [.int .i64 b] rfl (fN nH) (wV rfl ?_)
  refine cg ?_
  refine VO.cR rfl rfl (fk Tryz.func31) (λmw qk vT=>iE b 1 mw ab ab ab ab) (λmw qk vT w12 s12 p12 n12 c12 t12 y12 m12 d12 q12 sI od _ EO=>wV rfl ?_)
  refine cg ?_
  refine VO.cB rfl rfl (fk Tryz.func16) (λvU EP CD=>qm _ _ _ (Rat.divInt b 1) AK 2 vU (hE.ki zE) (q12.ki (mK ab ab ab ab)) (by unfold AK;omega) ab true (decide_eq_true e1)) (λvU EP CD Al hb13 Am _ bb13=>wV rfl ?_)
  refine cg ?_
  refine VO.cond rfl dz (wV rfl ?_)
  refine cg ?_
  refine VO.read rfl [.bool sF,.slice pF nF cF,.bool tF,.slice yF mF dF] rfl (bX hcR 20 _ ⟨_,rfl⟩) (wV rfl ?_)
  refine cg ?_
  refine VO.cond rfl dz (wV rfl ?_)
  refine cg ?_
  refine VO.read rfl [.slice (some ⟨gz,0,none⟩) 3 3] rfl (fN hgz) (wV rfl ?_)
  refine cg ?_
  refine VO.cond rfl dz (wV rfl ?_)
  refine cg ?_
  refine VO.read rfl [.int .i64 d] rfl (fN oP) (wV rfl ?_)
  refine cg ?_
  refine VO.cR rfl rfl (fk Tryz.func31) (λvV vW Ao=>iE d 1 vV ab ab ab ab) (λvV vW Ao w14 s14 p14 n14 c14 t14 y14 m14 d14 q14 hb14 ER _ bb14=>wV rfl ?_)
  refine cg ?_
  refine VO.cB rfl rfl (fk Tryz.func16) (λvX vY xH=>qm _ _ _ (Rat.divInt d 1) AK 2 vX (hF.ki zF) (q14.ki (mK ab ab ab ab)) (by unfold AK;omega) ab true (decide_eq_true e2)) (λvX vY xH w15 hb15 LR _ bb15=>wV rfl ?_)
  refine cg ?_
  refine VS.back (3-(z+1)) ab ⟨_,_,?_,?_,?_,?_,⟨z+1,by omega,rfl,rfl,rfl⟩⟩
  ·refine⟨rfl,rfl,?_,trivial⟩
   rw[<-aB (i:=z) ab];rfl
  ·exact cW
  ·rfl
  ·exact fR
 ·refine VS.aK rfl (decide_eq_false (show ¬ (z:Int)<3 by omega)) ?_
  refine cg ?_
  refine VS.ret (gl _ _) rfl rfl (λwz kz bz=> ?_)
  exact⟨rfl,ln.aA bz⟩
set_option maxRecDepth 4000
def AVal (w:World) (v:Value) (r:Dh) (k:Nat):Prop:=∃ cs:List Value,v=.agg cs.toArray/\eG k w cs r
def ML (v:Value) (j:Nat):Prop:=∃ s p n c t r m d,v=.agg #[.bool s,.slice p n c,.bool t,.slice r m d]/\n<=j/\m<=j
theorem ax.le {w:World} {v:Value} {q:Rat} {k j:Nat} (h:ax w v q k) (hl:ML v j):ax w v q j:=by
 obtain⟨s,xs,t,ys,hr,hq,_,_⟩:=h.inv
 obtain⟨s',p',n',c',t',r',m',d',e',h1,h2⟩:=hl
 have ui:=hr
 obtain⟨p,c,r,d,e,_⟩:=hr
 rw[e] at e'
 simp only[Value.agg.injEq,Array.mk.injEq,List.cons.injEq,Value.slice.injEq,and_true] at e'
 exact⟨s,xs,t,ys,ui,hq,by omega,by omega⟩
theorem xa (v:Value) (q:Rat) (k:Nat) (w:World) (hv:ax w v q k) (hk:k<=1073741824):
  Calls Tryz.prog 53 #[v] w λe w'=>∃ r,e=.returned r/\ax w' r q k/\aw w w':=by
 obtain⟨s,xs,t,ys,hr,hq,h1,h2⟩:=hv.inv
 refine (EZ s t xs ys v w hr ab ab).mono ?_
 rintro e w' ⟨r,rfl,hn,hb⟩
 exact⟨r,rfl,⟨s,xs,t,ys,hn.raw,hq,h1,h2⟩,hb⟩
set_option maxRecDepth 4000
theorem tN (v:Value) (q:Rat) (k:Nat) (w:World) (hv:ax w v q k):
  Calls Tryz.prog 25 #[v] w λe w'=>∃ b,e=.returned (.bool b)/\(b=true->ML v 4)/\aw w w':=by
 obtain⟨s,xs,t,ys,hr,hq,h1,h2⟩:=hv.inv
 have ui:=hr
 obtain⟨p,c,r,d,rfl,_,_⟩:=hr
 refine ae (C:=aM Tryz.prog w _) (args:=[_]) Tryz.func25 rfl Tryz.ntmps25 (bl rfl) ?_
 refine aa ?_
 by_cases hx:xs.length<=4
 ·refine VO.fix 8 rfl (congrArg (λb=>AV.val (.bool b)) (decide_eq_true (show (xs.length:Int)<=4 by omega))) ?_
  refine aa ?_
  refine au ?_;intro wz kz bz
  refine⟨_,rfl,λhb=>⟨_,_,_,_,_,_,_,_,rfl,hx,?_⟩,bz⟩
  have:=of_decide_eq_true hb
  omega
 ·refine VO.fix 8 rfl (congrArg (λb=>AV.val (.bool b)) (decide_eq_false (show ¬ (xs.length:Int)<=4 by omega))) ?_
  refine aa ?_
  refine au ?_;intro wz kz bz
  exact⟨_,rfl,λhb=>(by cases hb),bz⟩
set_option maxRecDepth 4000 in
theorem MM (v u:Value) (x:Dh) (j k:Nat) (w:World) (hv:AVal w v x j) (hu:AVal w u x k):
  Calls Tryz.prog 17 #[v,u] w λe w'=>e=.returned (.bool true)/\aw w w':=by
 obtain⟨_,rfl,⟨_,_,_,_,_,_,_,rfl,⟨sA,pA,nA,cA,tA,yA,mA,dA,rfl,hA⟩,⟨sB,pB,nB,cB,tB,yB,mB,dB,rfl,hB⟩,⟨sC,pC,nC,cC,tC,yC,mC,dC,rfl,hC⟩,⟨sD,pD,nD,cD,tD,yD,mD,dD,rfl,hD⟩,⟨sE,pE,nE,cE,tE,yE,mE,dE,rfl,hE⟩,⟨sF,pF,nF,cF,tF,yF,mF,dF,rfl,hF⟩,⟨sG,pG,nG,cG,tG,yG,mG,dG,rfl,hG⟩⟩⟩:=hv
 obtain⟨_,rfl,⟨_,_,_,_,_,_,_,rfl,⟨srA,prA,nrA,crA,trA,yrA,mrA,drA,rfl,hrA⟩,⟨srB,prB,nrB,crB,trB,yrB,mrB,drB,rfl,hrB⟩,⟨srC,prC,nrC,crC,trC,yrC,mrC,drC,rfl,hrC⟩,⟨srD,prD,nrD,crD,trD,yrD,mrD,drD,rfl,hrD⟩,⟨srE,prE,nrE,crE,trE,yrE,mrE,drE,rfl,hrE⟩,⟨srF,prF,nrF,crF,trF,yrF,mrF,drF,rfl,hrF⟩,⟨srG,prG,nrG,crG,trG,yrG,mrG,drG,rfl,hrG⟩⟩⟩:=hu
 obtain⟨gA,-⟩:=hA
 obtain⟨grA,-⟩:=hrA
 obtain⟨gB,-⟩:=hB
 obtain⟨grB,-⟩:=hrB
 obtain⟨gC,-⟩:=hC
 obtain⟨grC,-⟩:=hrC
 obtain⟨gD,-⟩:=hD
 obtain⟨grD,-⟩:=hrD
 obtain⟨gE,-⟩:=hE
 obtain⟨grE,-⟩:=hrE
 obtain⟨gF,-⟩:=hF
 obtain⟨grF,-⟩:=hrF
 obtain⟨gG,-⟩:=hG
 obtain⟨grG,-⟩:=hrG
 refine ae (C:=aM Tryz.prog w _) (args:=[_,_]) Tryz.func17 rfl Tryz.ntmps17 (bl rfl) ?_
 refine aa ?_
 refine VO.cB rfl rfl (fk Tryz.func52) (λwa0 ka0 ba0=>iG x.p.b _ _ wa0 gA.k grA.k) (λwa0 ka0 ba0 w0 mX kb0 _ bb0=>wV rfl ?_)
 refine aa ?_
 refine VO.cB rfl rfl (fk Tryz.func52) (λaC aY aH=>iG x.p.s _ _ aC gB.k grB.k) (λaC aY aH w1 aD bQ _ bb1=>wV rfl ?_)
 refine aa ?_
 refine VO.cB rfl rfl (fk Tryz.func52) (λaN bD bf=>iG x.p.d _ _ aN gC.k grC.k) (λaN bD bf w2 aQ cL _ bb2=>wV rfl ?_)
 refine aa ?_
 refine VO.cB rfl rfl (fk Tryz.func52) (λcu cM cX=>iG x.p.i _ _ cu gD.k grD.k) (λcu cM cX w3 ck dR _ bb3=>wV rfl ?_)
 refine aa ?_
 refine VO.cB rfl rfl (fk Tryz.func52) (λdJ eu eO=>iG x.due _ _ dJ gE.k grE.k) (λdJ eu eO w4 fe ir _ nu=>wV rfl ?_)
 refine aa ?_
 refine VO.cB rfl rfl (fk Tryz.func52) (λfI fY im=>iG x.bal _ _ fI gF.k grF.k) (λfI fY im w5 il lG _ tW=>wV rfl ?_)
 refine aa ?_
 refine VO.cB rfl rfl (fk Tryz.func52) (λni nv rI=>iG x.own _ _ ni gG.k grG.k) (λni nv rI w6 pw rJ _ AO=>wV rfl ?_)
 refine aa ?_
 refine au ?_;intro wz kz bz
 exact⟨rfl,bz⟩
end
section
open Go.RowKit
abbrev tP:Nat:=9223372036854775807
section
variable {H:Type} {enc:TypeId×Value->H} {w:World} {held:Bool}
theorem u8_wf {n:Int} (h:(Lit.int .u8 n).wf=true):0<=n/\n<256:=by
 simp[Lit.wf,IntKind.min,IntKind.max,IntKind.signed,IntKind.bits] at h
 omega
theorem xb (cs:List Value) (o n m:Nat) (h:m=o+n):cs.drop o=(cs.drop o).take n++cs.drop m:=by
 subst h
 have:=(List.take_append_drop n (cs.drop o)).symm
 rw[List.drop_drop] at this
 exact this
end
section
variable {H:Type} {enc:TypeId×Value->H} {w:World} {held:Bool}
theorem Dm {fuel:Nat} {cs:List Value} {x:DataW H×List MemPlace} (h:DataW.trod enc Tryz.prog w 0 (λ_=>true) held fuel 34 cs=some x):∃ q:Rat,oW tP w cs q:=by
 obtain⟨s,p,n,c,t,r,m,d,xs,ys,rfl,h0⟩:=Ma h
 exact⟨rq s xs t ys,_,_,_,_,_,_,_,_,rfl,h0.wide⟩
set_option maxRecDepth 100000 in
theorem Dn {α:Type} {E:World->List Value->α->Prop} {sz:Nat} {t e:TypeId} (hu:Tryz.prog.underlying t=some (.slice e)) (hc:Tryz.prog.cellsOf e=sz) (rK:0<sz)
  (kX:∀ {fuel:Nat} {cs:List Value} {x:DataW H×List MemPlace},DataW.trod enc Tryz.prog w 0 (λ_=>true) held fuel e cs=some x->∃ a,E w cs a)
  {fuel:Nat} {cs:List Value} {x:DataW H×List MemPlace} (hf:DataW.trod enc Tryz.prog w 0 (λ_=>true) held fuel t cs=some x):∃ (p:Option Addr) (n c:Nat) (es:List α),cs=[.slice p n c]/\bM E sz w (.slice p n c) es:=by
 rcases DataW.trod_slice hu hf with ⟨e,_⟩|⟨a,len',cap',elems,rest,n,_,e,_,_,hl,hm,hle,sW,_⟩
 ·exact⟨none,0,0,[],e,bM.nil _ _ _⟩
 ·refine⟨some a,len',cap',?_⟩
  rw[hc] at sW
  have each:∀ i,i<len'->∃ q,∃ b off cs,some a=some ⟨b,off,none⟩/\(∀ (j:Nat) (u:Value),cs[j]? =some u->w.cell? ⟨b,off+i*sz+j,none⟩=some u)/\E w cs q:=by
   intro i hi
   obtain⟨y,hy⟩:∃ y,elems[i]? =some y:=⟨_,List.getElem?_eq_getElem ab⟩
   have hb:=sW i hi
   rw[hy,Option.bind_eq_some_iff] at hb
   obtain⟨cs,hcs,ht⟩:=hb
   obtain⟨q,hq⟩:=kX ht
   obtain⟨_,hlen,hcell⟩:=World.cells?_some hcs
   obtain⟨b,off,spot⟩:=a
   have hspot:spot=none:=by
    obtain⟨y0,Hd⟩:∃ y,elems[0]? =some y:=⟨_,List.getElem?_eq_getElem ab⟩
    have mX:=sW 0 ab
    rw[Hd,Option.bind_eq_some_iff] at mX
    obtain⟨cs0,hcs0,ht0⟩:=mX
    obtain⟨_,hlen0,Fc⟩:=World.cells?_some hcs0
    have h00:=Fc 0 rK
    rw[List.getElem?_eq_getElem ab] at h00
    have g0:=World.cell?_spot h00
    simpa [Addr.add] using g0
   subst hspot
   refine⟨q,b,off,cs,rfl,λj u hj=> ?_,hq⟩
   have hjl:j<sz:=by have:=(List.getElem?_eq_some_iff.1 hj).1;omega
   have:=hcell j hjl
   rw[WideShapes.add_plain,WideShapes.add_plain] at this
   rw[this]
   exact hj
  obtain⟨qs,hql,hqs⟩:=Fb len' each
  subst hql
  exact⟨qs,e,_,_,rfl,hl,hm,λi q hq=>hqs i q hq⟩
set_option maxRecDepth 100000 in
theorem MN {fuel:Nat} {cs:List Value} {x:DataW H×List MemPlace} (h:DataW.trod enc Tryz.prog w 0 (λ_=>true) held fuel 38 cs=some x):∃ e:fE,fC tP w cs e:=by
 obtain⟨zs,n,rfl,rfl,hl,jx,hf⟩:=DataW.trod_struct Tryz.underlying38 h
 have xm:cs.length=6:=by
  have c:Tryz.prog.cellsOf 38=6:=by kernel_rfl
  rw[c] at hl;exact hl
 have hy2:zs.length=3:=jx
 obtain⟨z0,iT⟩:∃ z,zs[0]? =some z:=⟨_,List.getElem?_eq_getElem ab⟩
 obtain⟨z1,lj⟩:∃ z,zs[1]? =some z:=⟨_,List.getElem?_eq_getElem ab⟩
 obtain⟨z2,ng⟩:∃ z,zs[2]? =some z:=⟨_,List.getElem?_eq_getElem ab⟩
 have cc0:Tryz.prog.cellsOf 9=1:=by kernel_rfl
 have h0:=hf 0 _ rfl
 rw[iT] at h0
 change DataW.trod enc Tryz.prog w 0 (λ_=>true) held n 9 ((cs.drop 0).take (Tryz.prog.cellsOf 9))=some z0 at h0
 rw[cc0] at h0
 have cc1:Tryz.prog.cellsOf 5=1:=by kernel_rfl
 have h1:=hf 1 _ rfl
 rw[lj] at h1
 change DataW.trod enc Tryz.prog w 0 (λ_=>true) held n 5 ((cs.drop 1).take (Tryz.prog.cellsOf 5))=some z1 at h1
 rw[cc1] at h1
 have cc2:Tryz.prog.cellsOf 34=4:=by kernel_rfl
 have h2:=hf 2 _ rfl
 rw[ng] at h2
 change DataW.trod enc Tryz.prog w 0 (λ_=>true) held n 34 ((cs.drop 2).take (Tryz.prog.cellsOf 34))=some z2 at h2
 rw[cc2] at h2
 obtain⟨nm0,e0,_,_⟩:=DataW.trod_string Tryz.underlying9 h0
 obtain⟨k1,e1,_,jo⟩:=DataW.trod_int Tryz.underlying5 h1
 obtain⟨x2,Aj⟩:=Dm h2
 have a0:cs.drop 0=(cs.drop 0).take 1++cs.drop 1:=xb cs 0 1 1 rfl
 have a1:cs.drop 1=(cs.drop 1).take 1++cs.drop 2:=xb cs 1 1 2 rfl
 have a2:cs.drop 2=(cs.drop 2).take 4:=by rw[List.take_of_length_le];rw[List.length_drop];omega
 have ecs:cs=(cs.drop 0).take 1++((cs.drop 1).take 1++((cs.drop 2).take 4)):=by
  have a:cs=cs.drop 0:=rfl
  rw[a0] at a
  rw[a1] at a
  rw[a2] at a
  exact a
 have hk':=u8_wf jo
 obtain⟨k,rfl⟩:=Int.eq_ofNat_of_zero_le hk'.1
 obtain⟨s,p,n,c,t,y,m,d,e2,h⟩:=Aj
 rw[ecs,e0,e1,e2]
 exact⟨(k,x2),_,_,_,_,_,_,_,_,_,rfl,by omega,h⟩
set_option maxRecDepth 100000 in
theorem AE {v:Value} {d:DataW H} {ps:List MemPlace} {r:_root_.Go.Reach} {b0:Nat} (hv:Value.okWide Tryz.prog w r b0 22 v) (h:DataW.Trod enc Tryz.prog w 0 (λ_=>true) held 22 v d ps):∃ es:List fE,bM (fC tP) 6 w v es:=
 GI Tryz.underlying22 (by kernel_rfl) ab (λh=>MN h) hv h
set_option maxRecDepth 100000 in
theorem JJ {fuel:Nat} {cs:List Value} {x:DataW H×List MemPlace} (h:DataW.trod enc Tryz.prog w 0 (λ_=>true) held fuel 81 cs=some x):∃ r:List Rat,nc tP w cs r:=by
 obtain⟨p,n,c,es,rfl,hs⟩:=Dn (E:=oW tP) (sz:=4) Tryz.underlying81 (by kernel_rfl) ab (λh=>Dm h) h
 exact⟨es,_,rfl,hs⟩
set_option maxRecDepth 100000 in
theorem MO {fuel:Nat} {cs:List Value} {x:DataW H×List MemPlace} (h:DataW.trod enc Tryz.prog w 0 (λ_=>true) held fuel 41 cs=some x):∃ e:List (List Rat),jW tP w cs e:=by
 obtain⟨zs,n,rfl,rfl,hl,jx,hf⟩:=DataW.trod_struct Tryz.underlying41 h
 have xm:cs.length=1:=by
  have c:Tryz.prog.cellsOf 41=1:=by kernel_rfl
  rw[c] at hl;exact hl
 have hy2:zs.length=1:=jx
 obtain⟨z0,iT⟩:∃ z,zs[0]? =some z:=⟨_,List.getElem?_eq_getElem ab⟩
 have cc0:Tryz.prog.cellsOf 39=1:=by kernel_rfl
 have h0:=hf 0 _ rfl
 rw[iT] at h0
 change DataW.trod enc Tryz.prog w 0 (λ_=>true) held n 39 ((cs.drop 0).take (Tryz.prog.cellsOf 39))=some z0 at h0
 rw[cc0] at h0
 obtain⟨p0,n0,d0,es0,e0,g0⟩:=Dn (E:=nc tP) (sz:=1) Tryz.underlying39 (by kernel_rfl) ab (λh=>JJ h) h0
 have a0:cs.drop 0=(cs.drop 0).take 1:=by rw[List.take_of_length_le];rw[List.length_drop];omega
 have ecs:cs=(cs.drop 0).take 1:=by
  have a:cs=cs.drop 0:=rfl
  rw[a0] at a
  exact a
 rw[ecs,e0]
 exact⟨es0,_,rfl,g0⟩
set_option maxRecDepth 100000 in
theorem xM {v:Value} {d:DataW H} {ps:List MemPlace} {r:_root_.Go.Reach} {b0:Nat} (hv:Value.okWide Tryz.prog w r b0 23 v) (h:DataW.Trod enc Tryz.prog w 0 (λ_=>true) held 23 v d ps):∃ es:List (List (List Rat)),bM (jW tP) 1 w v es:=
 GI Tryz.underlying23 (by kernel_rfl) ab (λh=>MO h) hv h
end
end
set_option maxRecDepth 4000
section
open Go.RowKit
attribute [local irreducible] ao VS
theorem fC.le {kk:Nat} {w:World} {nm:ByteArray} {k:Nat} {s t:Bool} {p y:Option Addr} {n c m d:Nat} {q:Rat} (h0:k<256) (h:ax w (.agg #[.bool s,.slice p n c,.bool t,.slice y m d]) q kk) (l:ML (.agg #[.bool s,.slice p n c,.bool t,.slice y m d]) 4):fC 4 w [.string nm,.int .u8 (k:Int),.bool s,.slice p n c,.bool t,.slice y m d] (k,q):=.mk h0 (h.le l)
theorem VS.hop {C:Cx} {Q:Exit->Act->World->Prop} {F:Fr} {H:Hp} {w:World} {P:Fr->Hp->World->Prop} {MH MI:List It} (h1:(∀ F' H' w',P F' H' w'->VS C Q MI F' H' w')->VS C Q MH F H w) (h2:∀ F' H' w',P F' H' w'->VS C Q MI F' H' w'):VS C Q MH F H w:=h1 h2
theorem cS {w:World} {b off z:Nat} {v:Value} (hc:∀ (j:Nat) (u:Value),[v][j]? =some u->w.cell? ⟨b,off+z*1+j,none⟩=some u):∀ (j:Nat) (u:Value),[v][j]? =some u->w.cell? ((⟨b,off+((z:Nat):Int).toNat*1,none⟩:Addr).add j)=some u:=λj u hj=>by rw[Addr.add_mid,Int.toNat_natCast];exact hc j u hj
end
section
open Go.RowKit
section
variable {Fe:Fence} {n:Nat} {P:Program} {o:Oper} {a:Act} {w:World} {K:Act->World->Prop} {Q:Exit->Act->World->Prop}
end
section
variable {Fe:Fence} {n:Nat} {C:Cx} {Q:Exit->Act->World->Prop} {ml:List FuncId} {full:Array Oper}
end
section
variable {Fe:Fence} {C:Cx} {Q:Exit->Act->World->Prop} {k:List It} {F F':Fr} {H H':Hp} {w:World} {id:Nat} {ops:Array Oper} {l':List Oper}
end
def Fr.vals (L:List (Nat×Value)):Fr:=Fr.of (L.map λp=>(p.1,.val p.2))
theorem xc {L:List (Nat×Value)} {d:Nat} {v:AV} (h:Fr.vals L d=some v):∃ u,v=.val u/\(d,u)∈L:=by
 have:=Fr.fp h
 obtain⟨p,hp,e⟩:=List.mem_map.1 this
 cases e
 exact⟨p.2,rfl,hp⟩
structure Knows (N:Nat) (L:List (Nat×Value)) (a:Act):Prop where
 defers:a.defers=[]
 size:a.tmps.size=N
 tmp:∀ p∈L,p.1<N/\a.tmps.getD p.1 undef=p.2
theorem Knows.rel {C:Cx} {L:List (Nat×Value)} {a:Act} {w:World} (h:Knows C.N L a) (ho:C.Old w):Rel C (λ_=>0) (Fr.vals L) (λ_=>none) a w:=
 ⟨h.defers,h.size,λd v hd=>by obtain⟨u,rfl,hm⟩:=xc hd;exact (h.tmp _ hm).2,λi t cs hi=>(by cases hi),λi j hi=>absurd rfl hi,λd v hd i hi=>(by obtain⟨u,rfl,hm⟩:=xc hd;cases hi),λd v hd=>(by obtain⟨u,rfl,hm⟩:=xc hd;exact (h.tmp _ hm).1),⟨λi t cs hi=>(by cases hi),λi t cs hi=>(by cases hi),λi hi=>rfl⟩,ho⟩
def MP (N:Nat) (J:Nat->List (Nat×Value)->World->Prop) (n:Nat) (a:Act) (w:World):Prop:=∃ L,J n L w/\Knows N L a
section
variable {C:Cx} {Q:Exit->Act->World->Prop} {k:List It} {F:Fr} {H:Hp} {w:World} {J:Nat->List (Nat×Value)->World->Prop}
end
section
variable {C:Cx} {F:Fr} {H:Hp} {w:World} {Q:Exit->Act->World->Prop} {k:List It}
end
theorem uA.bq {w w1 W:World} {ad:List Nat} (h:aw w w1) (k:uA ad w1 W) (hg:∀ g∈ad,w.heap.size<=g):aw w W:=
 Below.trans h ⟨k.os,k.tape,k.output,k.size,λg Ht=>k.oO g (Nat.lt_of_lt_of_le Ht h.size) λhm=>by have:=hg g hm;omega⟩
section
variable {C:Cx} {F:Fr} {H:Hp} {w:World} {m:Option (List FuncId)} {full:Array Oper} {K:Fr->Hp->World->Prop} {o:Oper} {r:List Oper} {Q:Exit->Act->World->Prop} {k:List It}
def rC (F:Fr) (β cf:Nat->Nat) (lo hi:Nat):List (Nat×AV)->Prop
 | []=>True
 | p::r=>(∃ u,F p.1=some u/\p.2.aU cf=u.aU β/\∀ i∈p.2.ids,lo<=i/\i<hi)/\rC F β cf lo hi r
theorem rC.mem {β cf:Nat->Nat} {lo hi:Nat}:∀ {L:List (Nat×AV)} {d:Nat} {v:AV},rC F β cf lo hi L->(d,v)∈L->∃ u,F d=some u/\v.aU cf=u.aU β/\∀ i∈v.ids,lo<=i/\i<hi
 | p::r,d,v,h,hm=>by
   rcases List.mem_cons.1 hm with rfl|hm
   ·exact h.1
   ·exact rC.mem h.2 hm
theorem VS.GR (K:KC) (SU:TypeId->Bool) (ti:TypeId->Option TI) (keep:∀ (w':World) b,b<w'.heap.size->K.S b)
  (h:∀ w' β,aV C.K w w'->C.Old w'->Ends C β H w'->∃ (ad:List Nat) (l:List (TypeId×List AV)) (hl:pJ K C.N ad l w') (L:List (Nat×AV)),rC F β (adB C.N ad) (2*C.N) (2*C.N+l.length) L/\
   VS (tV C.P w' C.N K SU ti (keep w') ad hl.nodup hl.ad) Q k (Fr.of L) (Hp.Jx (2*C.N) l) w'):VS C Q k F H w:=λβ a w' hr hk=>by
 obtain⟨ad,l,hl,L,hL,hv⟩:=h w' β hk hr.old ⟨hr.own,hr.apart⟩
 have sW:∀ i c,Hp.Jx (2*C.N) l i=some c->2*C.N<=i/\l[i-2*C.N]? =some c:=λi c hi=>by
  rw[Hp.mR] at hi
  split at hi
  ·exact⟨by assumption,hi⟩
  ·cases hi
 have hsome:∀ i,Hp.Jx (2*C.N) l i≠none->2*C.N<=i/\i-2*C.N<l.length:=λi hi=>by
  cases hh:Hp.Jx (2*C.N) l i with
  | none=>exact absurd hh hi
  | some c=>
    obtain⟨h1,h2⟩:=sW i c hh
    exact⟨h1,(List.getElem?_eq_some_iff.1 h2).1⟩
 have hval:∀ k,k<ad.length->ad[k]? =some (ad.getD k 0):=λk hk=>by simp[List.getD_eq_getElem?_getD,hk]
 refine hv (adB C.N ad) a w' ⟨hr.defers,hr.size,λd v hd=> ?_,λi t cs hi=> ?_,λi j hi hj e=> ?_,λd v hd i hi=> ?_,λd v hd=> ?_,⟨λi t cs hi=> ?_,λi t cs hi=> ?_,λi hi=> ?_⟩,(tV C.P w' C.N K SU ti (keep w') ad hl.nodup hl.ad).ou⟩ (aV.refl _ _)
 ·obtain⟨u,h1,h2,_⟩:=hL.mem (Fr.fp hd)
  rw[h2]
  exact hr.tmp d u h1
 ·obtain⟨h1,h2⟩:=sW i _ hi
  have hlt:=(List.getElem?_eq_some_iff.1 h2).1
  obtain⟨g1,g2⟩:=hl.ok _ (List.mem_of_getElem? h2)
  have hv:=hval (i-2*C.N) (by rw[hl.len];exact hlt)
  refine⟨?_,g1,hl.cls _ _ _ hv h2,g2⟩
  show gK C.N ad w' i (adB C.N ad i)
  unfold gK
  rw[if_pos h1]
  exact hv
 ·obtain⟨h1,h2⟩:=hsome i hi
  obtain⟨h3,h4⟩:=hsome j hj
  have e1:=hval (i-2*C.N) (by rw[hl.len];exact h2)
  have e2:=hval (j-2*C.N) (by rw[hl.len];exact h4)
  have e':ad.getD (i-2*C.N) 0=ad.getD (j-2*C.N) 0:=e
  rw[<-e'] at e2
  have:=(List.getElem?_inj (by rw[hl.len];exact h2) hl.nodup).1 (e1.trans e2.symm)
  omega
 ·obtain⟨u,h1,h2,h3⟩:=hL.mem (Fr.fp hd)
  obtain⟨h4,h5⟩:=h3 i hi
  rw[Hp.mR,if_pos h4,List.getElem?_eq_getElem ab]
  simp
 ·obtain⟨u,h1,h2,h3⟩:=hL.mem (Fr.fp hd)
  exact hr.fits d u h1
 ·obtain⟨h1,h2⟩:=sW i _ hi
  exact hl.ok _ (List.mem_of_getElem? h2)
 ·obtain⟨h1,h2⟩:=sW i _ hi
  intro j hj
  obtain⟨h3,h4⟩:=hl.ids _ (List.mem_of_getElem? h2) j hj
  rw[Hp.mR,if_pos h3,List.getElem?_eq_getElem ab]
  simp
 ·have rH:2*C.N+ad.length<=i:=hi
  rw[Hp.mR]
  split
  ·exact List.getElem?_eq_none (by rw[<-hl.len];omega)
  ·rfl
end
section
variable {C:Cx} {Q:Exit->Act->World->Prop} {k:List It} {F:Fr} {H:Hp} {w:World} {J:Nat->List (Nat×Value)->World->Prop}
def MQ (F:Fr) (β:Nat->Nat) (L:List (Nat×Value)):Prop:=sK F β (L.map λp=>(p.1,AV.val p.2))
theorem Rel.MR {β:Nat->Nat} {a:Act} {L:List (Nat×Value)} (hr:Rel C β F H a w) (hL:MQ F β L):Knows C.N L a:=
 ⟨hr.defers,hr.size,λp hp=>by
  obtain⟨u,x,h1,h2,h3⟩:=hL.mem (List.mem_map.2 ⟨p,hp,rfl⟩)
  cases h3
  exact⟨hr.fits _ u h1,by rw[hr.tmp _ u h1,h2]⟩⟩
theorem VS.loopE (D:World->Cx) (hP:∀ w,(D w).P=C.P) (hN:∀ w,(D w).N=C.N) (hO:∀ w,(D w).Old w) (n0:Nat) {body:Code} (h0:∀ w' β,aV C.K w w'->C.Old w'->Ends C β H w'->∃ L,MQ F β L/\J n0 L w')
  (round:∀ n L W,J n L W->VS (D W) Q (.code body::.back (λa w=>∃ m,m<n/\MP C.N J m a w)::k) (Fr.vals L) (λ_=>none) W):VS C Q (.code (.loop body)::k) F H w:=λβ a w' hr hk=>by
 obtain⟨L,h1,h2⟩:=h0 w' β hk hr.old ⟨hr.own,hr.apart⟩
 refine wp_loop_ghost (MP C.N J) n0 ⟨L,h2,hr.MR h1⟩ ?_
 rintro n a1 w1 ⟨L1,hJ,rL⟩
 have hkn':Knows (D w1).N L1 a1:=by rw[hN];exact rL
 have:=round n L1 w1 hJ _ a1 w1 (hkn'.rel (hO w1)) (aV.refl _ _)
 rw[hP] at this
 exact this
theorem VS.GS {n N:Nat} (hN:C.N=N) (m:Nat) (hm:m<n) (h:∀ w' β,aV C.K w w'->C.Old w'->Ends C β H w'->∃ L,MQ F β L/\J m L w'):VS C Q (.back (λa w=>∃ m,m<n/\MP N J m a w)::k) F H w:=λβ a w' hr hk=>by
 subst hN
 obtain⟨L,h1,h2⟩:=h w' β hk hr.old ⟨hr.own,hr.apart⟩
 exact⟨m,hm,L,h2,hr.MR h1⟩
end
end
end Go.Proofs.YtlfdmhfhkgpmbaaGreat
