/-DD of the proof,laid behind one another. -/
import Derived.Test.YtlifeokjcgngjaaGreatKAdjustKnown4
set_option linter.all false
set_option maxHeartbeats 64000000
set_option maxRecDepth 4000
namespace Go.Proofs.YtlifeokjcgngjaaGreat
section
open Go.RowKit
attribute [local irreducible] aB VS
theorem jF (w:World):Calls Tryz.prog 184 #[] w λe w'=>∃ r,e=.returned r/\aZ w' w.heap.size r 0/\aD w w':=by
 refine ai (C:=bd Tryz.prog w _) (args:=[]) wS aa Tryz.ntmps184 (bF aa) ?_;refine af ?_;refine VO.cR aa aa (fk mc) (λaK bE aX=>dK 0 aK ae ae) (λaK bE aX w1 s1 p1 n1 c1 t1 y1 m1 d1 q1 aU cQ _ bb1=>wV aa ?_);refine af ?_;refine aC ?_;intro wz kz bz;exact⟨_,aa,((q1.kp kz).mono aX.size).cast aa,bz⟩
theorem AG (w:World):Calls Tryz.prog 181 #[] w λe w'=>∃ r,e=.returned r/\fm w' r Pt.zero/\aD w w':=by
 refine ai (C:=bd Tryz.prog w _) (args:=[]) Tryz.func181 aa Tryz.ntmps181 (bF aa) ?_;refine af ?_;refine VO.cR aa aa (fk wS) (λaK bE aX=>jF aK) (λaK bE aX w1 s1 p1 n1 c1 t1 y1 m1 d1 q1 aU cQ _ bb1=>wV aa ?_);refine af ?_;refine VO.cR aa aa (fk wS) (λbf cK bK=>jF bf) (λbf cK bK w2 s2 p2 n2 c2 t2 y2 m2 d2 q2 bu dW _ bb2=>wV aa ?_);refine af ?_;refine VO.cR aa aa (fk wS) (λcV dS ea=>jF cV) (λcV dS ea w3 s3 p3 n3 c3 t3 y3 m3 d3 q3 dH eV _ bb3=>wV aa ?_);refine af ?_;refine VO.cR aa aa (fk wS) (λey eU fc=>jF ey) (λey eU fc w4 s4 p4 n4 c4 t4 y4 m4 d4 q4 gj jc _ mw=>wV aa ?_);refine af ?_;refine aC ?_;intro wz kz bz;exact⟨_,aa,fm.mk (q1.kp bm).rd (q2.kp bm).rd (q3.kp bm).rd (q4.kp bm).rd,bz⟩
theorem mJ (v u:Value) (T A:Rat) (w:World) (hv:bq w v T) (hu:bq w u A):
  Calls Tryz.prog 240 #[v,u] w λe w'=>∃ r,e=.returned r/\fm w' r ⟨T,A,0,0⟩/\aD w w':=by
 obtain⟨s8,p8,n8,c8,t8,y8,m8,d8,rfl⟩:=hv.form;obtain⟨s9,p9,n9,c9,t9,y9,m9,d9,rfl⟩:=hu.form;refine ai (C:=bd Tryz.prog w _) (args:=[_,_]) Bn aa Tryz.ntmps240 (bF aa) ?_;refine af ?_;refine VO.call aa aa (fk Tryz.func181) (λaK bE aX=>(AG aK).mono ?_);rintro e w1 ⟨r1,rfl,q1,aU⟩;obtain⟨Zh,Zi,Zj,Zk,Zl,Zm,Zn,Zo,Zp,Zq,Zr,Zs,Zt,Zu,Zv,Zw,Zx,Zy,Zz,ZA,ZB,ZC,ZD,ZE,ZF,ZG,ZH,ZI,ZJ,ZK,ZL,ZM,rfl,q1A,q1B,q1C,q1D⟩:=q1;refine⟨_,aa,aU,λcQ _ bb1=>wV aa ?_⟩
 (repeat (first|refine wN ?_|refine wP aa ?_|refine Ur aa ?_|refine wO aa aa ?_))
 refine VS.EE (cS _ _) (vh _ _) 6 aa ?_
 (repeat' (first|refine VA.go aa ?_|refine VA.fin aa ?_|refine VA.gM _ aa aa ?_|refine VA.cons aa ?_ ?_|exact VA.nil aa))
 all_goals
  refine af ?_;refine aC ?_;intro wz kz bz;exact⟨_,aa,fm.mk (hv.kp (Kp.of (U:=UU) bz)) (hu.kp (Kp.of (U:=UU) bz)) (q1C.kp bm) (q1D.kp bm),bz⟩
theorem BU (v u:Value) (T A:Rat) (j:Nat) (w:World) (hv:bq w v T) (hu:bq w u A) (hs:dy T j) (ha:dy A j) (hj:j<=1000000):
  Calls Tryz.prog 236 #[v,u] w λe w'=>∃ r,e=.returned r/\fm w' r ⟨T,T,0,0⟩/\aD w w':=by
 obtain⟨s8,p8,n8,c8,t8,y8,m8,d8,rfl⟩:=hv.form;obtain⟨s9,p9,n9,c9,t9,y9,m9,d9,rfl⟩:=hu.form;have hT:aG w (.agg #[.bool s8,.slice p8 n8 c8,.bool t8,.slice y8 m8 d8]) T j:=hv.to hs;have hA:aG w (.agg #[.bool s9,.slice p9 n9 c9,.bool t9,.slice y9 m9 d9]) A j:=hu.to ha;refine ai (C:=bd Tryz.prog w _) (args:=[_,_]) Tryz.func236 aa Tryz.ntmps236 (bF aa) ?_;refine af ?_;refine VO.call aa aa (fk Bn) (λaK bE aX=>(mJ _ _ _ _ aK (hv.kp (Kp.of (U:=UU) aX)) (hv.kp (Kp.of (U:=UU) aX))).mono ?_);rintro e w1 ⟨r1,rfl,q1,aU⟩;obtain⟨Zh,Zi,Zj,Zk,Zl,Zm,Zn,Zo,Zp,Zq,Zr,Zs,Zt,Zu,Zv,Zw,Zx,Zy,Zz,ZA,ZB,ZC,ZD,ZE,ZF,ZG,ZH,ZI,ZJ,ZK,ZL,ZM,rfl,q1A,q1B,q1C,q1D⟩:=q1;refine aL aU ?_;intro cQ _ bb1;refine aC ?_;intro wz kz bz;exact⟨_,aa,fm.mk (q1A.kp bm) (q1B.kp bm) (q1C.kp bm) (q1D.kp bm),bz⟩
theorem Fs (v u:Value) (T A:Rat) (j:Nat) (w:World) (hv:bq w v T) (hu:bq w u A) (hs:dy T j) (ha:dy A j) (hj:j<=1000000):
  Calls Tryz.prog 237 #[v,u] w λe w'=>∃ r,e=.returned r/\fm w' r ⟨-T,-T,0,0⟩/\aD w w':=by
 obtain⟨s8,p8,n8,c8,t8,y8,m8,d8,rfl⟩:=hv.form;obtain⟨s9,p9,n9,c9,t9,y9,m9,d9,rfl⟩:=hu.form;have hT:aG w (.agg #[.bool s8,.slice p8 n8 c8,.bool t8,.slice y8 m8 d8]) T j:=hv.to hs;have hA:aG w (.agg #[.bool s9,.slice p9 n9 c9,.bool t9,.slice y9 m9 d9]) A j:=hu.to ha;refine ai (C:=bd Tryz.prog w _) (args:=[_,_]) Tryz.func237 aa Tryz.ntmps237 (bF aa) ?_;refine af ?_;refine VO.cR aa aa (fk wT) (λaK bE aX=>iH _ _ _ aK (hT.kp (Kp.of (U:=UU) aX)) ae) (λaK bE aX w1 s1 p1 n1 c1 t1 y1 m1 d1 q1 aU cQ _ bb1=>wV aa ?_);refine af ?_;refine VO.cR aa aa (fk wT) (λbf cK bK=>iH _ _ _ bf (hT.kp (Kp.of (U:=UU) bK)) ae) (λbf cK bK w2 s2 p2 n2 c2 t2 y2 m2 d2 q2 bu dW _ bb2=>wV aa ?_);refine af ?_;refine VO.call aa aa (fk Bn) (λcV dS ea=>(mJ _ _ _ _ cV ((q1.kp bm).rd) ((q2.kp bm).rd)).mono ?_);rintro e w3 ⟨r3,rfl,q3,dH⟩;obtain⟨s3a,p3a,n3a,c3a,t3a,y3a,m3a,d3a,s3b,p3b,n3b,c3b,t3b,y3b,m3b,d3b,s3c,p3c,n3c,c3c,t3c,y3c,m3c,d3c,s3d,p3d,n3d,c3d,t3d,y3d,m3d,d3d,rfl,q3A,q3B,q3C,q3D⟩:=q3;refine aL dH ?_;intro eV _ bb3;refine aC ?_;intro wz kz bz;exact⟨_,aa,fm.mk (q3A.kp bm) (q3B.kp bm) (q3C.kp bm) (q3D.kp bm),bz⟩
theorem vw (v u:Value) (T A:Rat) (j:Nat) (w:World) (hv:bq w v T) (hu:bq w u A) (hs:dy T j) (ha:dy A j) (hj:j<=1000000):
  Calls Tryz.prog 238 #[v,u] w λe w'=>∃ r,e=.returned r/\fm w' r ⟨-T,0,0,0⟩/\aD w w':=by
 obtain⟨s8,p8,n8,c8,t8,y8,m8,d8,rfl⟩:=hv.form;obtain⟨s9,p9,n9,c9,t9,y9,m9,d9,rfl⟩:=hu.form;have hT:aG w (.agg #[.bool s8,.slice p8 n8 c8,.bool t8,.slice y8 m8 d8]) T j:=hv.to hs;have hA:aG w (.agg #[.bool s9,.slice p9 n9 c9,.bool t9,.slice y9 m9 d9]) A j:=hu.to ha;refine ai (C:=bd Tryz.prog w _) (args:=[_,_]) Tryz.func238 aa Tryz.ntmps238 (bF aa) ?_;refine af ?_;refine VO.cR aa aa (fk wT) (λaK bE aX=>iH _ _ _ aK (hT.kp (Kp.of (U:=UU) aX)) ae) (λaK bE aX w1 s1 p1 n1 c1 t1 y1 m1 d1 q1 aU cQ _ bb1=>wV aa ?_);refine af ?_;refine VO.cR aa aa (fk wS) (λbf cK bK=>jF bf) (λbf cK bK w2 s2 p2 n2 c2 t2 y2 m2 d2 q2 bu dW _ bb2=>wV aa ?_);refine af ?_;refine VO.call aa aa (fk Bn) (λcV dS ea=>(mJ _ _ _ _ cV ((q1.kp bm).rd) ((q2.kp bm).rd)).mono ?_);rintro e w3 ⟨r3,rfl,q3,dH⟩;obtain⟨s3a,p3a,n3a,c3a,t3a,y3a,m3a,d3a,s3b,p3b,n3b,c3b,t3b,y3b,m3b,d3b,s3c,p3c,n3c,c3c,t3c,y3c,m3c,d3c,s3d,p3d,n3d,c3d,t3d,y3d,m3d,d3d,rfl,q3A,q3B,q3C,q3D⟩:=q3;refine aL dH ?_;intro eV _ bb3;refine aC ?_;intro wz kz bz;exact⟨_,aa,fm.mk (q3A.kp bm) (q3B.kp bm) (q3C.kp bm) (q3D.kp bm),bz⟩
theorem ND (v u:Value) (T A:Rat) (j:Nat) (w:World) (hv:bq w v T) (hu:bq w u A) (hs:dy T j) (ha:dy A j) (hj:j<=1000000):
  Calls Tryz.prog 239 #[v,u] w λe w'=>∃ r,e=.returned r/\fm w' r ⟨T,0,0,0⟩/\aD w w':=by
 obtain⟨s8,p8,n8,c8,t8,y8,m8,d8,rfl⟩:=hv.form;obtain⟨s9,p9,n9,c9,t9,y9,m9,d9,rfl⟩:=hu.form;have hT:aG w (.agg #[.bool s8,.slice p8 n8 c8,.bool t8,.slice y8 m8 d8]) T j:=hv.to hs;have hA:aG w (.agg #[.bool s9,.slice p9 n9 c9,.bool t9,.slice y9 m9 d9]) A j:=hu.to ha;refine ai (C:=bd Tryz.prog w _) (args:=[_,_]) Tryz.func239 aa Tryz.ntmps239 (bF aa) ?_;refine af ?_;refine VO.cR aa aa (fk wS) (λaK bE aX=>jF aK) (λaK bE aX w1 s1 p1 n1 c1 t1 y1 m1 d1 q1 aU cQ _ bb1=>wV aa ?_);refine af ?_;refine VO.call aa aa (fk Bn) (λbf cK bK=>(mJ _ _ _ _ bf (hv.kp (Kp.of (U:=UU) bK)) ((q1.kp bm).rd)).mono ?_);rintro e w2 ⟨r2,rfl,q2,bu⟩;obtain⟨s2a,p2a,n2a,c2a,t2a,y2a,m2a,d2a,s2b,p2b,n2b,c2b,t2b,y2b,m2b,d2b,s2c,p2c,n2c,c2c,t2c,y2c,m2c,d2c,s2d,p2d,n2d,c2d,t2d,y2d,m2d,d2d,rfl,q2A,q2B,q2C,q2D⟩:=q2;refine aL bu ?_;intro dW _ bb2;refine aC ?_;intro wz kz bz;exact⟨_,aa,fm.mk (q2A.kp bm) (q2B.kp bm) (q2C.kp bm) (q2D.kp bm),bz⟩
theorem NF (v u:Value) (T A:Rat) (j:Nat) (w:World) (hv:bq w v T) (hu:bq w u A) (hs:dy T j) (ha:dy A j) (hj:j<=1000000):
  Calls Tryz.prog 241 #[v,u] w λe w'=>∃ r,e=.returned r/\fm w' r ⟨-T,-(T*(1-A)),0,0⟩/\aD w w':=by
 obtain⟨s8,p8,n8,c8,t8,y8,m8,d8,rfl⟩:=hv.form;obtain⟨s9,p9,n9,c9,t9,y9,m9,d9,rfl⟩:=hu.form;have hT:aG w (.agg #[.bool s8,.slice p8 n8 c8,.bool t8,.slice y8 m8 d8]) T j:=hv.to hs;have hA:aG w (.agg #[.bool s9,.slice p9 n9 c9,.bool t9,.slice y9 m9 d9]) A j:=hu.to ha;refine ai (C:=bd Tryz.prog w _) (args:=[_,_]) Tryz.func241 aa Tryz.ntmps241 (bF aa) ?_;refine af ?_;refine VO.cR aa aa (fk wT) (λaK bE aX=>iH _ _ _ aK (hT.kp (Kp.of (U:=UU) aX)) ae) (λaK bE aX w1 s1 p1 n1 c1 t1 y1 m1 d1 q1 aU cQ _ bb1=>wV aa ?_);refine af ?_;refine VO.cR aa aa (fk mc) (λbf cK bK=>dK 1 bf ae ae) (λbf cK bK w2 s2 p2 n2 c2 t2 y2 m2 d2 q2 bu dW _ bb2=>wV aa ?_);refine af ?_;have z2:dy ((1:Int):Rat) 1:=dy.one;refine VO.cR aa aa (fk HF) (λcV dS ea=>pg _ _ _ _ 1 j cV ((q2.kp bm).in z2) (hA.kp (Kp.of (U:=UU) ea)) ae ae) (λcV dS ea w3 s3 p3 n3 c3 t3 y3 m3 d3 q3 dH eV _ bb3=>wV aa ?_);refine af ?_;have z3:dy (((1:Int):Rat)-A) (1+j+1):=z2.sub ha;refine VO.cR aa aa (fk Tryz.func242) (λey eU fc=>Fg _ _ _ _ j (1+j+1) ey (hT.kp (Kp.of (U:=UU) fc)) ((q3.kp bm).in z3) ae ae) (λey eU fc w4 s4 p4 n4 c4 t4 y4 m4 d4 q4 gj jc _ mw=>wV aa ?_);refine af ?_;have z4:dy (T*(((1:Int):Rat)-A)) (j+(1+j+1)):=hs.mul z3;refine VO.cR aa aa (fk wT) (λgn iz iZ=>iH _ _ (j+(1+j+1)) gn ((q4.kp bm).in z4) ae) (λgn iz iZ w5 s5 p5 n5 c5 t5 y5 m5 d5 q5 je nw _ um=>wV aa ?_);refine af ?_;refine VO.call aa aa (fk Bn) (λjL my nV=>(mJ _ _ _ _ jL ((q1.kp bm).rd) ((q5.kp bm).rd)).mono ?_);rintro e w6 ⟨r6,rfl,q6,oY⟩;obtain⟨s6a,p6a,n6a,c6a,t6a,y6a,m6a,d6a,s6b,p6b,n6b,c6b,t6b,y6b,m6b,d6b,s6c,p6c,n6c,c6c,t6c,y6c,m6c,d6c,s6d,p6d,n6d,c6d,t6d,y6d,m6d,d6d,rfl,q6A,q6B,q6C,q6D⟩:=q6;refine aL oY ?_;intro sq _ xT;refine aC ?_;intro wz kz bz;exact⟨_,aa,fm.cast (fm.mk (q6A.kp bm) (q6B.kp bm) (q6C.kp bm) (q6D.kp bm)) aa,bz⟩
theorem NG (v u:Value) (T A:Rat) (j:Nat) (w:World) (hv:bq w v T) (hu:bq w u A) (hs:dy T j) (ha:dy A j) (hj:j<=1000000):
  Calls Tryz.prog 243 #[v,u] w λe w'=>∃ r,e=.returned r/\fm w' r ⟨-T,-(mf qx T [A]),0,0⟩/\aD w w':=by
 obtain⟨s8,p8,n8,c8,t8,y8,m8,d8,rfl⟩:=hv.form;obtain⟨s9,p9,n9,c9,t9,y9,m9,d9,rfl⟩:=hu.form;have hT:aG w (.agg #[.bool s8,.slice p8 n8 c8,.bool t8,.slice y8 m8 d8]) T j:=hv.to hs;have hA:aG w (.agg #[.bool s9,.slice p9 n9 c9,.bool t9,.slice y9 m9 d9]) A j:=hu.to ha;refine ai (C:=bd Tryz.prog w _) (args:=[_,_]) Tryz.func243 aa Tryz.ntmps243 (bF aa) ?_;refine af ?_;refine VO.cR aa aa (fk wT) (λaK bE aX=>iH _ _ _ aK (hT.kp (Kp.of (U:=UU) aX)) ae) (λaK bE aX w1 s1 p1 n1 c1 t1 y1 m1 d1 q1 aU cQ _ bb1=>wV aa ?_);refine af ?_;refine VO.eX aa (fk Tryz.func244) (λbf β cK bK ho=>(Qg _ _ T [A] j bf (hT.kp (Kp.of (U:=UU) bK)) (ox (ho.own 9 (.base (ay.2 aa)) _ _ aa) [] (vs:=[[.bool s9,.slice p9 n9 c9,.bool t9,.slice y9 m9 d9]]) (by rfl) aa (ig.cons (hA.kp (Kp.of (U:=UU) bK)) ig.nil) (bF aa) eL) ae (bF aa)).mono ?_);rintro e w2 ⟨r2,rfl,q2,z2,bu⟩;obtain⟨s2,p2,n2,c2,t2,y2,m2,d2,rfl⟩:=q2.form;refine aL bu ?_;intro dW _ bb2
 have z2':dy (mf qx T [A]) j:=by
  have e:mf qx T [A]=if qx A T=true then A else T:=aa
  rw[e];split <;> assumption
 refine VO.cR aa aa (fk wT) (λcV dS ea=>iH _ _ j cV ((q2.kp bm).in z2') ae) (λcV dS ea w3 s3 p3 n3 c3 t3 y3 m3 d3 q3 dH eV _ bb3=>wV aa ?_);refine af ?_;refine VO.call aa aa (fk Bn) (λey eU fc=>(mJ _ _ _ _ ey ((q1.kp bm).rd) ((q3.kp bm).rd)).mono ?_);rintro e w4 ⟨r4,rfl,q4,gj⟩;obtain⟨s4a,p4a,n4a,c4a,t4a,y4a,m4a,d4a,s4b,p4b,n4b,c4b,t4b,y4b,m4b,d4b,s4c,p4c,n4c,c4c,t4c,y4c,m4c,d4c,s4d,p4d,n4d,c4d,t4d,y4d,m4d,d4d,rfl,q4A,q4B,q4C,q4D⟩:=q4;refine aL gj ?_;intro jc _ mw;refine aC ?_;intro wz kz bz;exact⟨_,aa,fm.mk (q4A.kp bm) (q4B.kp bm) (q4C.kp bm) (q4D.kp bm),bz⟩
theorem ZN (v u:Value) (T A:Rat) (j:Nat) (w:World) (hv:bq w v T) (hu:bq w u A) (hs:dy T j) (ha:dy A j) (hj:j<=1000000):
  Calls Tryz.prog 245 #[v,u] w λe w'=>∃ r,e=.returned r/\fm w' r ⟨-T,-T,T,0⟩/\aD w w':=by
 obtain⟨s8,p8,n8,c8,t8,y8,m8,d8,rfl⟩:=hv.form;obtain⟨s9,p9,n9,c9,t9,y9,m9,d9,rfl⟩:=hu.form;have hT:aG w (.agg #[.bool s8,.slice p8 n8 c8,.bool t8,.slice y8 m8 d8]) T j:=hv.to hs;have hA:aG w (.agg #[.bool s9,.slice p9 n9 c9,.bool t9,.slice y9 m9 d9]) A j:=hu.to ha;refine ai (C:=bd Tryz.prog w _) (args:=[_,_]) Tryz.func245 aa Tryz.ntmps245 (bF aa) ?_;refine af ?_;refine VO.call aa aa (fk Tryz.func237) (λaK bE aX=>(Fs _ _ _ _ j aK (hv.kp (Kp.of (U:=UU) aX)) (hu.kp (Kp.of (U:=UU) aX)) hs ha hj).mono ?_);rintro e w1 ⟨r1,rfl,q1,aU⟩;obtain⟨Zh,Zi,Zj,Zk,Zl,Zm,Zn,Zo,Zp,Zq,Zr,Zs,Zt,Zu,Zv,Zw,Zx,Zy,Zz,ZA,ZB,ZC,ZD,ZE,ZF,ZG,ZH,ZI,ZJ,ZK,ZL,ZM,rfl,q1A,q1B,q1C,q1D⟩:=q1;refine aL aU ?_;intro cQ _ bb1;refine aC ?_;intro wz kz bz;exact⟨_,aa,fm.mk (q1A.kp bm) (q1B.kp bm) (hv.kp (Kp.of (U:=UU) bz)) (q1D.kp bm),bz⟩
theorem Qo (v u:Value) (T A:Rat) (j:Nat) (w:World) (hv:bq w v T) (hu:bq w u A) (hs:dy T j) (ha:dy A j) (hj:j<=1000000):
  Calls Tryz.prog 246 #[v,u] w λe w'=>∃ r,e=.returned r/\fm w' r ⟨T,0,0,-T⟩/\aD w w':=by
 obtain⟨s8,p8,n8,c8,t8,y8,m8,d8,rfl⟩:=hv.form;obtain⟨s9,p9,n9,c9,t9,y9,m9,d9,rfl⟩:=hu.form;have hT:aG w (.agg #[.bool s8,.slice p8 n8 c8,.bool t8,.slice y8 m8 d8]) T j:=hv.to hs;have hA:aG w (.agg #[.bool s9,.slice p9 n9 c9,.bool t9,.slice y9 m9 d9]) A j:=hu.to ha;refine ai (C:=bd Tryz.prog w _) (args:=[_,_]) Tryz.func246 aa Tryz.ntmps246 (bF aa) ?_;refine af ?_;refine VO.cR aa aa (fk wS) (λaK bE aX=>jF aK) (λaK bE aX w1 s1 p1 n1 c1 t1 y1 m1 d1 q1 aU cQ _ bb1=>wV aa ?_);refine af ?_;refine VO.call aa aa (fk Bn) (λbf cK bK=>(mJ _ _ _ _ bf (hv.kp (Kp.of (U:=UU) bK)) ((q1.kp bm).rd)).mono ?_);rintro e w2 ⟨r2,rfl,q2,bu⟩;obtain⟨s2a,p2a,n2a,c2a,t2a,y2a,m2a,d2a,s2b,p2b,n2b,c2b,t2b,y2b,m2b,d2b,s2c,p2c,n2c,c2c,t2c,y2c,m2c,d2c,s2d,p2d,n2d,c2d,t2d,y2d,m2d,d2d,rfl,q2A,q2B,q2C,q2D⟩:=q2;refine aL bu ?_;intro dW _ bb2;refine VO.cR aa aa (fk wT) (λcV dS ea=>iH _ _ _ cV (hT.kp (Kp.of (U:=UU) ea)) ae) (λcV dS ea w3 s3 p3 n3 c3 t3 y3 m3 d3 q3 dH eV _ bb3=>wV aa ?_);refine af ?_;refine aC ?_;intro wz kz bz;exact⟨_,aa,fm.mk (q2A.kp bm) (q2B.kp bm) (q2C.kp bm) (q3.kp bm).rd,bz⟩
theorem NH (v u:Value) (T A:Rat) (j:Nat) (w:World) (hv:bq w v T) (hu:bq w u A) (hs:dy T j) (ha:dy A j) (hj:j<=1000000):
  Calls Tryz.prog 247 #[v,u] w λe w'=>∃ r,e=.returned r/\fm w' r ⟨-T,0,0,T⟩/\aD w w':=by
 obtain⟨s8,p8,n8,c8,t8,y8,m8,d8,rfl⟩:=hv.form;obtain⟨s9,p9,n9,c9,t9,y9,m9,d9,rfl⟩:=hu.form;have hT:aG w (.agg #[.bool s8,.slice p8 n8 c8,.bool t8,.slice y8 m8 d8]) T j:=hv.to hs;have hA:aG w (.agg #[.bool s9,.slice p9 n9 c9,.bool t9,.slice y9 m9 d9]) A j:=hu.to ha;refine ai (C:=bd Tryz.prog w _) (args:=[_,_]) Tryz.func247 aa Tryz.ntmps247 (bF aa) ?_;refine af ?_;refine VO.call aa aa (fk Tryz.func238) (λaK bE aX=>(vw _ _ _ _ j aK (hv.kp (Kp.of (U:=UU) aX)) (hu.kp (Kp.of (U:=UU) aX)) hs ha hj).mono ?_);rintro e w1 ⟨r1,rfl,q1,aU⟩;obtain⟨Zh,Zi,Zj,Zk,Zl,Zm,Zn,Zo,Zp,Zq,Zr,Zs,Zt,Zu,Zv,Zw,Zx,Zy,Zz,ZA,ZB,ZC,ZD,ZE,ZF,ZG,ZH,ZI,ZJ,ZK,ZL,ZM,rfl,q1A,q1B,q1C,q1D⟩:=q1;refine aL aU ?_;intro cQ _ bb1;refine aC ?_;intro wz kz bz;exact⟨_,aa,fm.mk (q1A.kp bm) (q1B.kp bm) (q1C.kp bm) (hv.kp (Kp.of (U:=UU) bz)),bz⟩
set_option maxRecDepth 4000
def Ku:List (Value×FuncId):=[(.int .u8 1,236),(.int .u8 10,236),(.int .u8 2,237),(.int .u8 6,238),(.int .u8 11,238),(.int .u8 3,239),(.int .u8 4,241),(.int .u8 5,243),(.int .u8 7,245),(.int .u8 8,246),(.int .u8 9,247)]
abbrev vx:List MapEntry:=vf 0 Ku
theorem Qp (w:World):Calls Tryz.prog 182 #[] w λe w'=>∃ b,e=.returned (.map (some b))/\w'.heap[b]? =some (.map vx.toArray 11)/\aD w w':=by
 refine ai (C:=bd Tryz.prog w _) (args:=[]) Tryz.func182 aa Tryz.ntmps182 (bF aa) ?_;refine wQ ?_;refine Ur aa ?_;refine wN ?_;refine wQ ?_;refine VS.mapLitN (cS _ _) (t:=293) (kt:=5) (d:=.int .u8) 11 Ku (by rfl) (by rfl) (by rfl) (by rfl) (by exact bF aa) RG Ls ?_ ?_ (λw1 b k1 b1 h1=>wV aa ?_)
 ·repeat' (first|exact aj|refine⟨aa,aa,aa,?_⟩)
 ·repeat' (first|exact aj|refine⟨aa,aa,?_⟩)
 refine af ?_;refine aC ?_;intro wz kz bz;exact⟨b,aa,kz.map b _ _ h1,bz⟩
def lP (g:FuncId) (k:Nat):Prop:=∀ (v u:Value) (T A:Rat) (j:Nat) (w:World),bq w v T->bq w u A->dy T j->dy A j->j<=1000000->
    Calls Tryz.prog g #[v,u] w λe w'=>∃ r,e=.returned r/\fm w' r (zm k T A)/\aD w w'
theorem lP.of {g:FuncId} {k:Nat} (P:Rat->Rat->Pt) (e:∀ T A,P T A=zm k T A) (h:∀ (v u:Value) (T A:Rat) (j:Nat) (w:World),bq w v T->bq w u A->dy T j->dy A j->j<=1000000->
 Calls Tryz.prog g #[v,u] w λe w'=>∃ r,e=.returned r/\fm w' r (P T A)/\aD w w'):lP g k:=λv u T A j w h1 h2 h3 h4 h5=>by rw[<-e];exact h v u T A j w h1 h2 h3 h4 h5
theorem UM (T A:Rat): -(T*(1-A))=T*A-T:=gRn
theorem UN (T A:Rat): -(mf qx T [A])=if jD T A>0 then-A else-T:=by
 have e:mf qx T [A]=if qx A T=true then A else T:=aa
 rw[e];by_cases h:A<T
 ·have h2:jD T A>0:=vT.1 (show YZ T A=true from vT.2 h) |> λ_=>nO (vT.2 h)
  rw[if_pos (IY.2 h),if_pos h2]
 ·have h2:¬ jD T A>0:=λe=>h (vT.1 (aw e));rw[if_neg (λe=>h (IY.1 e)),if_neg h2]
theorem UO (k:Nat):(∃ idx g,Instr.findNow (.int .u8) (.int .u8 (k:Int)) vx.toArray.toList 0=some (some (idx,.func (.func g) #[] #[]))/\nL Tryz.prog g/\lP g k)\/(Instr.findNow (.int .u8) (.int .u8 (k:Int)) vx.toArray.toList 0=some none/\∀ t a,zm k t a=Pt.zero):=by
 have h:k=1\/k=10\/k=2\/k=6\/k=11\/k=3\/k=4\/k=5\/k=7\/k=8\/k=9\/¬ (k=1\/k=10\/k=2\/k=6\/k=11\/k=3\/k=4\/k=5\/k=7\/k=8\/k=9):=ae;rcases h with rfl|rfl|rfl|rfl|rfl|rfl|rfl|rfl|rfl|rfl|rfl|h
 ·exact .inl ⟨_,_,aa,(fk Tryz.func236),lP.of (λT A=>⟨T,T,0,0⟩) (λT A=>aa) BU⟩
 ·exact .inl ⟨_,_,aa,(fk Tryz.func236),lP.of (λT A=>⟨T,T,0,0⟩) (λT A=>aa) BU⟩
 ·exact .inl ⟨_,_,aa,(fk Tryz.func237),lP.of (λT A=>⟨-T,-T,0,0⟩) (λT A=>aa) Fs⟩
 ·exact .inl ⟨_,_,aa,(fk Tryz.func238),lP.of (λT A=>⟨-T,0,0,0⟩) (λT A=>aa) vw⟩
 ·exact .inl ⟨_,_,aa,(fk Tryz.func238),lP.of (λT A=>⟨-T,0,0,0⟩) (λT A=>aa) vw⟩
 ·exact .inl ⟨_,_,aa,(fk Tryz.func239),lP.of (λT A=>⟨T,0,0,0⟩) (λT A=>aa) ND⟩
 ·exact .inl ⟨_,_,aa,(fk Tryz.func241),lP.of (λT A=>⟨-T,-(T*(1-A)),0,0⟩) (λT A=>Pt.ext' aa (UM T A) aa aa) NF⟩
 ·exact .inl ⟨_,_,aa,(fk Tryz.func243),lP.of (λT A=>⟨-T,-(mf qx T [A]),0,0⟩) (λT A=>Pt.ext' aa (UN T A) aa aa) NG⟩
 ·exact .inl ⟨_,_,aa,(fk Tryz.func245),lP.of (λT A=>⟨-T,-T,T,0⟩) (λT A=>aa) ZN⟩
 ·exact .inl ⟨_,_,aa,(fk Tryz.func246),lP.of (λT A=>⟨T,0,0,-T⟩) (λT A=>aa) Qo⟩
 ·exact .inl ⟨_,_,aa,(fk Tryz.func247),lP.of (λT A=>⟨-T,0,0,T⟩) (λT A=>aa) NH⟩
 ·refine .inr ⟨?_,λt a=> ?_⟩
  ·have n1:((k:Int) == 1)=false:=by rw[eQ];omega
   have n2:((k:Int) == 2)=false:=by rw[eQ];omega
   have n3:((k:Int) == 3)=false:=by rw[eQ];omega
   have n4:((k:Int) == 4)=false:=by rw[eQ];omega
   have n5:((k:Int) == 5)=false:=by rw[eQ];omega
   have n6:((k:Int) == 6)=false:=by rw[eQ];omega
   have n7:((k:Int) == 7)=false:=by rw[eQ];omega
   have n8:((k:Int) == 8)=false:=by rw[eQ];omega
   have n9:((k:Int) == 9)=false:=by rw[eQ];omega
   have Lb:((k:Int) == 10)=false:=by rw[eQ];omega
   have OE:((k:Int) == 11)=false:=by rw[eQ];omega
   simp only[vx,Ku,vf,List.toList_toArray,Instr.findNow,Instr.sameNow,if_true,n1,n2,n3,n4,n5,n6,n7,n8,n9,Lb,OE]
  ·refine Pt.ext' ?_ ?_ ?_ ?_
   ·show qI k t=0;unfold qI;rw[if_neg ae,if_neg ae]
   ·show uh k t a=0;unfold uh;rw[if_neg ae,if_neg ae,if_neg ae,if_neg ae,if_neg ae,if_neg ae]
   ·show GO k t=0;unfold GO;rw[if_neg ae]
   ·show GP k t=0;unfold GP;rw[if_neg ae,if_neg ae]
variable {cs:List Value}
theorem rX {l:List Value} (h:Value.agg cs.toArray=.agg l.toArray):cs=l:=by
 injection h with h
 simpa using ak Array.toList h
theorem NI {P Q:Prop} (h:Q) (i:Q->P:=by intro h;(repeat first|refine wN ?_|refine wP rfl ?_|refine cxA_r rfl ?_|refine cxA_d rfl ?_|refine wO rfl rfl ?_);exact h):P:=i h
set_option maxRecDepth 4000 in
theorem Ft (g:Nat) (cs:List Value) (v:Value) (A P:Pt) (k l:Nat) (w:World) (hc:cN w g 292 cs.toArray) (hA:fm w (.agg cs.toArray) A) (hP:xK w v P l) (hs:zV A k) (hk:k<=67108864) (hl:l<=67108864):
  Calls Tryz.prog 183 #[.pointer (some ⟨g,0,none⟩),v] w λe w'=>∃ ds:List Value,e=.returned (.tuple #[])/\rj [g] w w'/\cN w' g 292 ds.toArray/\ds.all cJ=true/\fm w' (.agg ds.toArray) (A.add P):=by
 obtain⟨UQ,UR,UT,UW,UX,UY,UZ,Va,s8b,p8b,n8b,c8b,t8b,y8b,m8b,d8b,Vb,Vc,Vd,Ve,Vf,Vg,Vh,Vi,Vj,Vk,Vl,Vm,Vn,Vo,Vp,Vq,hcs,q8A,q8B,q8C,q8D⟩:=hA;obtain rfl:=rX hcs;obtain⟨Cw,Cy,Cz,CA,CB,CC,CD,CF,CG,CH,CI,CJ,CK,CL,CM,CN,s9c,p9c,n9c,c9c,t9c,y9c,m9c,d9c,s9d,p9d,n9d,c9d,t9d,y9d,m9d,d9d,rfl,q9A,q9B,q9C,q9D⟩:=hP;refine MM Tryz.prog w _ (KU UU) (λt=>Nat.beq t 23) table (λ_ _=>trivial) (us:=[_]) Tryz.func183 aa Tryz.ntmps183 (bF aa) hc aa aa ?_;refine NI ?_;refine VO.cR aa aa (fk mX) (λaK bE aX=>eJ _ _ A.b P.b k l aK ((q8A.kp bm).to hs.b) (q9A.kp bm) hk hl) (λaK bE aX w1 s1 p1 n1 c1 t1 y1 m1 d1 q1 aU cQ _ bb1=>wV aa ?_);refine NI ?_;refine VO.cR aa aa (fk mX) (λbf cK bK=>eJ _ _ A.s P.s k l bf ((q8B.kp bm).to hs.s) (q9B.kp bm) hk hl) (λbf cK bK w2 s2 p2 n2 c2 t2 y2 m2 d2 q2 bu dW _ bb2=>wV aa ?_);refine NI ?_;refine VO.cR aa aa (fk mX) (λcV dS ea=>eJ _ _ A.d P.d k l cV ((q8C.kp bm).to hs.d) (q9C.kp bm) hk hl) (λcV dS ea w3 s3 p3 n3 c3 t3 y3 m3 d3 q3 dH eV _ bb3=>wV aa ?_);refine NI ?_;refine VO.cR aa aa (fk mX) (λey eU fc=>eJ _ _ A.i P.i k l ey ((q8D.kp bm).to hs.i) (q9D.kp bm) hk hl) (λey eU fc w4 s4 p4 n4 c4 t4 y4 m4 d4 q4 gj jc _ mw=>wV aa ?_);refine NI ?_;refine VS.fin (PL _ _) aa (λwz β kz oz en=> ?_);exact⟨_,aa,oz.1,own1 (en.own 104 _ _ aa) aa,aa,fm.mk (q1.kp bm).rd (q2.kp bm).rd (q3.kp bm).rd (q4.kp bm).rd⟩
set_option maxRecDepth 4000
variable {w:World}
theorem PtE.form {kk:Nat} {P:Pt} (h:PtE kk w cs P):∃ Zh Zi Zj Zk Zl Zm Zn Zo Zp Zq Zr Zs Zt Zu Zv Zw Zx Zy Zz ZA ZB ZC ZD ZE ZF ZG ZH ZI ZJ ZK ZL ZM,cs=[.bool Zh,.slice Zi Zj Zk,.bool Zl,.slice Zm Zn Zo,.bool Zp,.slice Zq Zr Zs,.bool Zt,.slice Zu Zv Zw,.bool Zx,.slice Zy Zz ZA,.bool ZB,.slice ZC ZD ZE,.bool ZF,.slice ZG ZH ZI,.bool ZJ,.slice ZK ZL ZM]/\
 aG w (.agg #[.bool Zh,.slice Zi Zj Zk,.bool Zl,.slice Zm Zn Zo]) P.b kk/\aG w (.agg #[.bool Zp,.slice Zq Zr Zs,.bool Zt,.slice Zu Zv Zw]) P.s kk/\aG w (.agg #[.bool Zx,.slice Zy Zz ZA,.bool ZB,.slice ZC ZD ZE]) P.d kk/\aG w (.agg #[.bool ZF,.slice ZG ZH ZI,.bool ZJ,.slice ZK ZL ZM]) P.i kk:=by
 obtain⟨Zh,Zi,Zj,Zk,Zl,Zm,Zn,Zo,Zp,Zq,Zr,Zs,Zt,Zu,Zv,Zw,Zx,Zy,Zz,ZA,ZB,ZC,ZD,ZE,ZF,ZG,ZH,ZI,ZJ,ZK,ZL,ZM,hv,h1,h2,h3,h4⟩:=h;exact⟨_,_,_,_,_,_,_,_,_,_,_,_,_,_,_,_,_,_,_,_,_,_,_,_,_,_,_,_,_,_,_,_,rX hv,h1,h2,h3,h4⟩
set_option maxRecDepth 4000 in
theorem Jd (v:Value) (l:List La) (kk:Nat) (w:World) (hv:bh (pJ kk) 9 w v l) (iy:1<=kk) (qq:kk<=1000000) (hsz:gr kk l.length<=60000000):
  Calls Tryz.prog 120 #[v] w λe w'=>∃ r,e=.returned r/\fm w' r (bn l)/\aD w w':=by
 obtain⟨p,c,rfl,eS,gv⟩:=hv.form;have Kv:=SE hv iy;obtain⟨N,hN⟩:∃ N,N=l.length:=⟨_,aa⟩;rw[<-hN] at hv eS hsz ⊢;refine ai (C:=bd Tryz.prog w _) (args:=[_]) Tryz.func120 aa Tryz.ntmps120 (bF aa) ?_;refine af ?_;refine VO.call aa aa (fk Tryz.func181) (λaK bE aX=>(AG aK).mono ?_);rintro e w1 ⟨r1,rfl,q1,aU⟩;obtain⟨Zh,Zi,Zj,Zk,Zl,Zm,Zn,Zo,Zp,Zq,Zr,Zs,Zt,Zu,Zv,Zw,Zx,Zy,Zz,ZA,ZB,ZC,ZD,ZE,ZF,ZG,ZH,ZI,ZJ,ZK,ZL,ZM,rfl,q1r⟩:=q1;have q1:=fm.mk q1r.1 q1r.2.1 q1r.2.2.1 q1r.2.2.2;refine aL aU ?_;intro cQ _ bb1;refine VO.call aa aa (fk Tryz.func182) (λbf cK bK=>(Qp bf).mono ?_);rintro e w2 ⟨b2,rfl,m2,bu⟩
 skip
 refine aL bu ?_;intro dW _ bb2
 refine VS.loop (J:=λm L M w'=>∃ (z:Nat) (cs:List Value),z<=N/\m=N-z/\L=[(2,.box 2 0),(3,.box 11 0),(4,.val (.map (some b2))),(13,.val (.slice p N c)),(14,.val (.int .i64 (N:Int))),(15,.val (.int .i64 (z:Int)))]/\
  M=[(2,(121,([.bool false,.slice none 0 0,.bool false,.slice none 0 0,.bool false,.slice none 0 0,.bool false,.slice none 0 0,.bool false,.slice none 0 0,.bool false,.slice none 0 0,.bool false,.slice none 0 0,.bool false,.slice none 0 0]:List Value).map .val)),(11,(292,cs.map .val))]/\cs.all cJ=true/\fm w' (.agg cs.toArray) (bn (l.take z))/\w'.heap[b2]? =some (.map vx.toArray 11)) N
  ⟨_,_,?_,?_,?_,?_,⟨0,[.bool Zh,.slice Zi Zj Zk,.bool Zl,.slice Zm Zn Zo,.bool Zp,.slice Zq Zr Zs,.bool Zt,.slice Zu Zv Zw,.bool Zx,.slice Zy Zz ZA,.bool ZB,.slice ZC ZD ZE,.bool ZF,.slice ZG ZH ZI,.bool ZJ,.slice ZK ZL ZM],ae,rfl,rfl,rfl,rfl,q1.kp bm,m2⟩⟩ ?_
 ·exact di
 ·exact di
 ·rfl
 ·exact fv
 rintro m L M wJ ⟨z,cs,hz,rfl,rfl,rfl,mQ,SG,wv⟩;refine af ?_;by_cases hlt:z<N
 ·obtain⟨x,hx⟩:∃ x,l[z]? =some x:=⟨_,bj ae⟩;obtain⟨b,off,jU,rfl,hc,he⟩:=hv.at hx;obtain⟨Cw,Cy,Cz,CA,CB,CC,CD,CF,CG,CH,CI,CJ,CK,CL,CM,CN,rfl,hkd,Je,Dy⟩:=he;obtain⟨kd,ar,tx⟩:=x;replace Je:aG w (.agg #[.bool Cw,.slice Cy Cz CA,.bool CB,.slice CC CD CF]) ar kk:=Je;replace Dy:aG w (.agg #[.bool CG,.slice CH CI CJ,.bool CK,.slice CL CM CN]) tx kk:=Dy;obtain⟨NJ,hst⟩:=Kv _ (dz hx);have hst:dy tx kk:=hst;have NJ:dy ar kk:=NJ;have AH:zV (bn (l.take z)) (gr kk N):=(pH iy (l.take z) (λy hy=>Kv y (mU hy))).mono (Jc (by rw[cw];omega));refine VS.aR aa (aw (aJ.2 hlt)) ?_;refine af ?_;refine VO.cond aa eh (wV aa ?_);refine VO.read aa [.int .u8 (kd:Int),.bool Cw,.slice Cy Cz CA,.bool CB,.slice CC CD CF,.bool CG,.slice CH CI CJ,.bool CK,.slice CL CM CN] aa (λj u hj=>by rw[Addr.add_mid,dV];exact hc j u hj) (wV aa ?_);refine af ?_;have hd0:MapKept.IsKey (.int .u8) (.int .u8 (kd:Int)):=aa;rcases UO kd with ⟨idx,g,ZO,hg,hrule⟩|⟨ZO,hzero⟩
  ·refine VO.look (t:=293) (kt:=5) (d:=.int .u8) (z:=.nilFunc) aa aa RG Ls hd0 (λw=>by kernel_rfl) (λw1 k1 _=>k1.map _ _ _ wv) ZO (λw3 eV bb3=>wV aa ?_)
   (repeat (first|refine wN ?_|refine wP aa ?_|refine Ur aa ?_|refine wO aa aa ?_))
   refine VS.draw (cS _ _) (vh _ _) [183] (by kernel_rfl) ?_;refine wV aa ?_;refine VO.cR aa aa (fk wS) (λey eU fc=>jF ey) (λey eU fc w4 s4 p4 n4 c4 t4 y4 m4 d4 q4 gj jc _ mw=>wV aa ?_);refine af ?_;refine VO.cR aa aa (fk mX) (λgn iz iZ=>eJ _ _ tx 0 kk 1 gn (Dy.kp (Kp.of (U:=UU) iZ)) ((q4.kp bm).in dy.zero) ae ae) (λgn iz iZ w5 s5 p5 n5 c5 t5 y5 m5 d5 q5 je nw _ um=>wV aa ?_);refine af ?_;refine VO.cR aa aa (fk wS) (λjL my nV=>jF jL) (λjL my nV w6 s6 p6 n6 c6 t6 y6 m6 d6 q6 oY sq _ xT=>wV aa ?_);refine af ?_;refine VO.cR aa aa (fk mX) (λpS uy rR=>eJ _ _ ar 0 kk 1 pS (Je.kp (Kp.of (U:=UU) rR)) ((q6.kp bm).in dy.zero) ae ae) (λpS uy rR w7 s7 p7 n7 c7 t7 y7 m7 d7 q7 ER Dv _ Qa=>wV aa ?_);refine af ?_;have q5':=bq.cast q5.rd (mW tx).symm;have q7':=bq.cast q7.rd (mW ar).symm;refine VO.call aa aa hg (λtd Cr xG=>(hrule _ _ tx ar kk td (q5'.kp bm) (q7'.kp bm) hst NJ qq).mono ?_);rintro e w8 ⟨r8,rfl,q8,Bz⟩;have q8':=q8;obtain⟨UQ,UR,UT,UW,UX,UY,UZ,Va,s8b,p8b,n8b,c8b,t8b,y8b,m8b,d8b,Vb,Vc,Vd,Ve,Vf,Vg,Vh,Vi,Vj,Vk,Vl,Vm,Vn,Vo,Vp,Vq,rfl,_⟩:=q8';refine aL Bz ?_;intro Cs _ Sw;refine VO.callM (i:=11) aa aa (uC _ (ay.2 aa)) (fk Tryz.func183) (bF aa) (λAA β Nd Dw ho=>(Ft (β 11) cs _ (bn (l.take z)) (zm kd tx ar) (gr kk N) (3*kk+1) AA ?_ (SG.kp bm) ((q8.kp bm).to (Ks hst NJ iy)) AH ae ae).mono ?_)
   ·have:=(ho.own 11 (.base (uC _ (ay.2 aa))) _ _ aa).cls;rw[aV] at this;exact this
   rintro e w9 ⟨ds,rfl,ZP,Fu,Qq,hptd⟩;refine⟨_,ds,aa,ZP,Fu,Qq,λGK kc9 bb9=>wV aa ?_⟩;refine af ?_;have ZQ:fm w9 (.agg ds.toArray) (bn (l.take (z+1))):=hptd.cast (tr hx).symm;refine VS.back (N-(z+1)) ae ⟨_,_,?_,?_,?_,?_,⟨z+1,ds,ae,aa,aa,aa,Qq,ZQ,bg.map (K:=KU UU) (w:=wJ) bm _ _ _ wv⟩⟩
   ·refine⟨aa,aa,aa,aa,aa,?_,aj⟩;rw[<-aA ae];rfl
   ·exact di
   ·rfl
   ·exact fv
  ·refine VO.look (t:=293) (kt:=5) (d:=.int .u8) (z:=.nilFunc) aa aa RG Ls hd0 (λw=>by kernel_rfl) (λw1 k1 _=>k1.map _ _ _ wv) ZO (λw3 eV bb3=>wV aa ?_);refine af ?_;have ZQ:fm w3 (.agg cs.toArray) (bn (l.take (z+1))):=(SG.kp eV).cast (by rw[tr hx,show Kr (kd,ar,tx)=Pt.zero from hzero _ _,add_zero']);refine VS.back (N-(z+1)) ae ⟨_,_,?_,?_,?_,?_,⟨z+1,cs,ae,aa,aa,aa,mQ,ZQ,eV.map _ _ _ wv⟩⟩
   ·refine⟨aa,aa,aa,aa,aa,?_,aj⟩;rw[<-aA ae];rfl
   ·exact di
   ·rfl
   ·exact fv
 ·refine VS.aO aa (az (λe=>hlt (aJ.1 e))) ?_;obtain rfl:z=N:=ae;have Qr:=SG;obtain⟨s3a,p3a,n3a,c3a,t3a,y3a,m3a,d3a,s3b,p3b,n3b,c3b,t3b,y3b,m3b,d3b,s3c,p3c,n3c,c3c,t3c,y3c,m3c,d3c,s3d,p3d,n3d,c3d,t3d,y3d,m3d,d3d,hcs,_⟩:=Qr;obtain rfl:=rX hcs;refine af ?_;refine aC ?_;intro wz kz bz;exact⟨_,aa,(SG.kp kz).cast (by rw[dM ae]),bz⟩
set_option maxRecDepth 4000 in
theorem Fv (v:Value) (l:List Pt) (kk:Nat) (w:World) (hv:bh (PtE kk) 16 w v l) (iy:1<=kk) (qq:kk<=1000000) (hsz:eP kk l.length<=60000000):
  Calls Tryz.prog 185 #[v] w λe w'=>∃ r,e=.returned r/\fm w' r (qY l)/\aD w w':=by
 obtain⟨p,c,rfl,eS,gv⟩:=hv.form;have Kv:=SF hv iy;obtain⟨N,hN⟩:∃ N,N=l.length:=⟨_,aa⟩;rw[<-hN] at hv eS hsz ⊢;refine ai (C:=bd Tryz.prog w _) (args:=[_]) Tryz.func185 aa Tryz.ntmps185 (bF aa) ?_;refine af ?_;refine VO.call aa aa (fk Tryz.func181) (λaK bE aX=>(AG aK).mono ?_);rintro e w1 ⟨r1,rfl,q1,aU⟩;obtain⟨Zh,Zi,Zj,Zk,Zl,Zm,Zn,Zo,Zp,Zq,Zr,Zs,Zt,Zu,Zv,Zw,Zx,Zy,Zz,ZA,ZB,ZC,ZD,ZE,ZF,ZG,ZH,ZI,ZJ,ZK,ZL,ZM,rfl,q1r⟩:=q1;have q1:=fm.mk q1r.1 q1r.2.1 q1r.2.2.1 q1r.2.2.2;refine aL aU ?_;intro cQ _ bb1
 refine VS.loop (J:=λm L M w'=>∃ (z:Nat) (cs:List Value),z<=N/\m=N-z/\L=[(2,.box 2 0),(3,.box 8 0),(9,.val (.slice p N c)),(10,.val (.int .i64 (N:Int))),(11,.val (.int .i64 (z:Int)))]/\
  M=[(2,(121,([.bool false,.slice none 0 0,.bool false,.slice none 0 0,.bool false,.slice none 0 0,.bool false,.slice none 0 0,.bool false,.slice none 0 0,.bool false,.slice none 0 0,.bool false,.slice none 0 0,.bool false,.slice none 0 0]:List Value).map .val)),(8,(292,cs.map .val))]/\cs.all cJ=true/\fm w' (.agg cs.toArray) (qY (l.take z))) N
  ⟨_,_,?_,?_,?_,?_,⟨0,[.bool Zh,.slice Zi Zj Zk,.bool Zl,.slice Zm Zn Zo,.bool Zp,.slice Zq Zr Zs,.bool Zt,.slice Zu Zv Zw,.bool Zx,.slice Zy Zz ZA,.bool ZB,.slice ZC ZD ZE,.bool ZF,.slice ZG ZH ZI,.bool ZJ,.slice ZK ZL ZM],ae,rfl,rfl,rfl,rfl,q1⟩⟩ ?_
 ·exact di
 ·exact di
 ·rfl
 ·exact fv
 rintro m L M wJ ⟨z,cs,hz,rfl,rfl,rfl,mQ,SG⟩;refine af ?_;by_cases hlt:z<N
 ·obtain⟨x,hx⟩:∃ x,l[z]? =some x:=⟨_,bj ae⟩;obtain⟨b,off,jU,rfl,hc,he⟩:=hv.at hx;have Ew:=he;obtain⟨Cw,Cy,Cz,CA,CB,CC,CD,CF,CG,CH,CI,CJ,CK,CL,CM,CN,s9c,p9c,n9c,c9c,t9c,y9c,m9c,d9c,s9d,p9d,n9d,c9d,t9d,y9d,m9d,d9d,rfl,q9A,q9B,q9C,q9D⟩:=Ew.form;have AH:zV (qY (l.take z)) (eP kk N):=(Kt (l.take z) (λy hy=>Kv y (mU hy))).mono (NC (by rw[cw];omega));refine VS.aR aa (aw (aJ.2 hlt)) ?_;refine af ?_;refine VO.cond aa eh (wV aa ?_);refine VO.read aa [.bool Cw,.slice Cy Cz CA,.bool CB,.slice CC CD CF,.bool CG,.slice CH CI CJ,.bool CK,.slice CL CM CN,.bool s9c,.slice p9c n9c c9c,.bool t9c,.slice y9c m9c d9c,.bool s9d,.slice p9d n9d c9d,.bool t9d,.slice y9d m9d d9d] aa (λj u hj=>by rw[Addr.add_mid,dV];exact hc j u hj) (wV aa ?_);refine af ?_;refine VO.callM (i:=8) aa aa (uC _ (ay.2 aa)) (fk Tryz.func183) (bF aa) (λAA β Nd Dw ho=>(Ft (β 8) cs _ (qY (l.take z)) x (eP kk N) kk AA ?_ (SG.kp bm) ((BS kk).kp he (Kp.of (U:=UU) Dw)) AH ae ae).mono ?_)
  ·have:=(ho.own 8 (.base (uC _ (ay.2 aa))) _ _ aa).cls;rw[aV] at this;exact this
  rintro e w9 ⟨ds,rfl,ZP,Fu,Qq,hptd⟩;refine⟨_,ds,aa,ZP,Fu,Qq,λGK kc9 bb9=>wV aa ?_⟩;refine af ?_;have ZQ:fm w9 (.agg ds.toArray) (qY (l.take (z+1))):=hptd.cast (Jb hx).symm;refine VS.back (N-(z+1)) ae ⟨_,_,?_,?_,?_,?_,⟨z+1,ds,ae,aa,aa,aa,Qq,ZQ⟩⟩
  ·refine⟨aa,aa,aa,aa,?_,aj⟩;rw[<-aA ae];rfl
  ·exact di
  ·rfl
  ·exact fv
 ·refine VS.aO aa (az (λe=>hlt (aJ.1 e))) ?_;obtain rfl:z=N:=ae;have Qr:=SG;obtain⟨s3a,p3a,n3a,c3a,t3a,y3a,m3a,d3a,s3b,p3b,n3b,c3b,t3b,y3b,m3b,d3b,s3c,p3c,n3c,c3c,t3c,y3c,m3c,d3c,s3d,p3d,n3d,c3d,t3d,y3d,m3d,d3d,hcs,_⟩:=Qr;obtain rfl:=rX hcs;refine af ?_;refine aC ?_;intro wz kz bz;exact⟨_,aa,(SG.kp kz).cast (by rw[dM ae]),bz⟩
set_option maxRecDepth 4000
variable {v:Value}
theorem bq.rd {q:Rat} (h:bq w v q):bq w v q:=h
theorem bq.in {q:Rat} {k:Nat} (h:bq w v q) (hs:dy q k):aG w v q k:=h.to hs
theorem vU {b o:Nat} (hc:∀ (j:Nat) (u:Value),cs[j]? =some u->w.cell? ⟨b,o+j,none⟩=some u) (k:Nat) (ds:List Value) (hd:ds <+:cs.drop k):∀ (j:Nat) (u:Value),ds[j]? =some u->w.cell? ((⟨b,o+k,none⟩:Addr).add j)=some u:=λj u hj=>by
 obtain⟨t,ht⟩:=hd;rw[Addr.add_mid,xY];refine hc (k+j) u ?_;rw[<-uD,<-ht,jG (cM.1 hj).1];exact hj
def U8E (_:World) (cs:List Value) (x:Nat):Prop:=cs=[.int .u8 (x:Int)]
theorem SH:gp U8E 1 where
 kp:=λh _=>h
 len:=λh=>by rw[show _=_ from h];rfl
 ok:=λh=>by rw[show _=_ from h];rfl
theorem gK (w:World):Calls Tryz.prog 229 #[] w λe w'=>∃ r,e=.returned r/\aZ w' w.heap.size r 0/\aD w w':=by
 refine ai (C:=bd Tryz.prog w _) (args:=[]) rA aa Tryz.ntmps229 (bF aa) ?_;refine af ?_;refine VO.cR aa aa (fk Tryz.func228) (λaK bE aX=>th 0 aK ae ae) (λaK bE aX w1 s1 p1 n1 c1 t1 y1 m1 d1 q1 aU cQ _ bb1=>wV aa ?_);refine af ?_;refine aC ?_;intro wz kz bz;exact⟨_,aa,((q1.kp kz).mono aX.size).cast aa,bz⟩
theorem vV (k:Nat) (ks:List Nat) (v:Value) (w:World) (hv:bh U8E 1 w v ks) (b:Bool) (hb:decide (k∈ks)=b):
  Calls Tryz.prog 283 #[.int .u8 (k:Int),v] w λe w'=>e=.returned (.bool b)/\aD w w':=by
 obtain⟨p,c,rfl,eS,gv⟩:=hv.form;obtain⟨N,hN⟩:∃ N,N=ks.length:=⟨_,aa⟩;rw[<-hN] at hv eS ⊢;refine ai (C:=bd Tryz.prog w _) (args:=[_,_]) Tryz.func283 aa Tryz.ntmps283 (bF aa) ?_;refine af ?_;refine VS.loop (J:=λm L M w'=>∃ z:Nat,z<=N/\m=N-z/\L=[(0,.val (.int .u8 (k:Int))),(1,.val (.slice p N c)),(5,.val (.int .i64 (z:Int)))]/\M=[]/\∀ j x,j<z->ks[j]? =some x->x≠k) N ⟨_,_,?_,?_,?_,?_,⟨0,ae,aa,aa,aa,λj x hj=>absurd hj ae⟩⟩ ?_
 ·exact di
 ·exact di
 ·rfl
 ·exact fv
 rintro m L M wJ ⟨z,hz,rfl,rfl,rfl,hno⟩;refine af ?_;by_cases hlt:z<N
 ·obtain⟨x,hx⟩:∃ x,ks[z]? =some x:=⟨_,bj ae⟩;obtain⟨bb,off,cs,rfl,hc,he⟩:=hv.at hx;cases (show cs=_ from he);refine VS.aR aa (aw (aJ.2 hlt)) ?_;refine af ?_;refine VO.cond aa eh (wV aa ?_);refine VO.read aa [.int .u8 (x:Int)] aa (λj u hj=>by rw[Addr.add_mid,dV];exact hc j u hj) (wV aa ?_);refine af ?_;by_cases im:x=k
  ·refine VS.aR aa (by rw[im];simp) ?_;refine af ?_;refine aC ?_;intro wz kz bz;exact⟨by rw[<-hb,aw (im▸dz hx)];rfl,bz⟩
  ·refine VS.aO aa (by rw[eQ];omega) ?_;refine af ?_;refine VS.back (N-(z+1)) ae ⟨_,_,?_,?_,?_,?_,⟨z+1,ae,aa,aa,aa,λj y hj hy=> ?_⟩⟩
   ·refine⟨aa,aa,?_,aj⟩;rw[<-aA ae];rfl
   ·exact di
   ·rfl
   ·exact fv
   ·rcases Nat.lt_succ_iff_lt_or_eq.1 hj with h|h
    ·exact hno j y h hy
    ·subst h;rw[hx] at hy;cases hy;exact im
 ·refine VS.aO aa (az (λe=>hlt (aJ.1 e))) ?_;obtain rfl:z=N:=ae;refine af ?_;refine aC ?_;intro wz kz bz;refine⟨?_,bz⟩;rw[<-hb,az (λhm=> ?_)]
  ·rfl
  ·obtain⟨j,hj⟩:=oG hm;exact hno j k (by have:=(cM.1 hj).1;omega) hj aa
def ItmV (kk:Nat) (w:World) (v:Value) (x:La):Prop:=∃ cs:List Value,v=.agg cs.toArray/\pJ kk w cs x
theorem Vr (v:Value) (x:La) (kk:Nat) (w:World) (hv:ItmV kk w v x) (iy:1<=kk) (qq:kk<=1000000):
  Calls Tryz.prog 230 #[v] w λe w'=>∃ r,e=.returned r/\bq w' r (qI x.1 x.2.2)/\aD w w':=by
 obtain⟨cs,rfl,Cw,Cy,Cz,CA,CB,CC,CD,CF,CG,CH,CI,CJ,CK,CL,CM,CN,rfl,hkd,Je,Dy⟩:=hv;obtain⟨kd,ar,tx⟩:=x;replace Je:aG w (.agg #[.bool Cw,.slice Cy Cz CA,.bool CB,.slice CC CD CF]) ar kk:=Je;replace Dy:aG w (.agg #[.bool CG,.slice CH CI CJ,.bool CK,.slice CL CM CN]) tx kk:=Dy;have hst:=Dy.sz iy;have NJ:=Je.sz iy;refine ai (C:=bd Tryz.prog w _) (args:=[.agg #[.int .u8 (kd:Int),.bool Cw,.slice Cy Cz CA,.bool CB,.slice CC CD CF,.bool CG,.slice CH CI CJ,.bool CK,.slice CL CM CN]]) Tryz.func230 aa Tryz.ntmps230 (bF aa) ?_;refine af ?_;refine VO.cR aa aa (fk nQ) (λaK bE aX=>ee _ tx kk aK (Dy.kp (Kp.of (U:=UU) aX)) ae) (λaK bE aX w1 s1 p1 n1 c1 t1 y1 m1 d1 q1 aU cQ _ bb1=>wV aa ?_);refine af ?_;by_cases hA:kd∈[1,3,8,10]
 ·have e:qI kd tx=tx:=if_pos (by simpa using hA);refine VO.eX aa (fk Tryz.func283) (λbf β cK bK ho=>(vV kd [1,3,8,10] _ bf (fU SH (ho.own 9 (.base (ay.2 aa)) _ _ aa) [] (vs:=[[.int .u8 1],[.int .u8 3],[.int .u8 8],[.int .u8 10]]) (by rfl) (eC.cons aa (eC.cons aa (eC.cons aa (eC.cons aa (eC.nil))))) aa (bF aa) eL) true (aw hA)).mono ?_);rintro e w2 ⟨rfl,bu⟩;refine aL bu ?_;intro dW _ bb2;refine aC ?_;intro wz kz bz;exact⟨_,aa,bq.cast (q1.kp bm).rd (e),bz⟩
 ·have e1:qI kd tx=if kd=2\/kd=4\/kd=5\/kd=6\/kd=7\/kd=9\/kd=11 then-tx else 0:=if_neg (by simpa using hA)
  refine VO.eX aa (fk Tryz.func283) (λbf β cK bK ho=>(vV kd [1,3,8,10] _ bf (fU SH (ho.own 9 (.base (ay.2 aa)) _ _ aa) [] (vs:=[[.int .u8 1],[.int .u8 3],[.int .u8 8],[.int .u8 10]]) (by rfl) (eC.cons aa (eC.cons aa (eC.cons aa (eC.cons aa (eC.nil))))) aa (bF aa) eL) false (az hA)).mono ?_);rintro e w2 ⟨rfl,bu⟩;refine aL bu ?_;intro dW _ bb2;by_cases hB:kd∈[2,4,5,6,7,9,11]
  ·have e:qI kd tx= -tx:=e1.trans (if_pos (by simpa using hB));refine VO.eX aa (fk Tryz.func283) (λcV β dS ea ho=>(vV kd [2,4,5,6,7,9,11] _ cV (fU SH (ho.own 14 (.base (ay.2 aa)) _ _ aa) [] (vs:=[[.int .u8 2],[.int .u8 4],[.int .u8 5],[.int .u8 6],[.int .u8 7],[.int .u8 9],[.int .u8 11]]) (by rfl) (eC.cons aa (eC.cons aa (eC.cons aa (eC.cons aa (eC.cons aa (eC.cons aa (eC.cons aa (eC.nil)))))))) aa (bF aa) eL) true (aw hB)).mono ?_);rintro e w3 ⟨rfl,dH⟩;refine aL dH ?_;intro eV _ bb3;refine VO.cR aa aa (fk Bk) (λey eU fc=>kn _ _ kk ey ((q1.kp bm).in hst) ae) (λey eU fc w4 s4 p4 n4 c4 t4 y4 m4 d4 q4 gj jc _ mw=>wV aa ?_);refine af ?_;refine aC ?_;intro wz kz bz;exact⟨_,aa,bq.cast (q4.kp bm).rd (e),bz⟩
  ·have e:qI kd tx=0:=e1.trans (if_neg (by simpa using hB));refine VO.eX aa (fk Tryz.func283) (λcV β dS ea ho=>(vV kd [2,4,5,6,7,9,11] _ cV (fU SH (ho.own 14 (.base (ay.2 aa)) _ _ aa) [] (vs:=[[.int .u8 2],[.int .u8 4],[.int .u8 5],[.int .u8 6],[.int .u8 7],[.int .u8 9],[.int .u8 11]]) (by rfl) (eC.cons aa (eC.cons aa (eC.cons aa (eC.cons aa (eC.cons aa (eC.cons aa (eC.cons aa (eC.nil)))))))) aa (bF aa) eL) false (az hB)).mono ?_);rintro e w3 ⟨rfl,dH⟩;refine aL dH ?_;intro eV _ bb3;refine VO.cR aa aa (fk rA) (λey eU fc=>gK ey) (λey eU fc w4 s4 p4 n4 c4 t4 y4 m4 d4 q4 gj jc _ mw=>wV aa ?_);refine af ?_;refine aC ?_;intro wz kz bz;exact⟨_,aa,bq.cast (q4.kp bm).rd (e),bz⟩
theorem Vs (v:Value) (x:La) (kk:Nat) (w:World) (hv:ItmV kk w v x) (iy:1<=kk) (qq:kk<=1000000):
  Calls Tryz.prog 231 #[v] w λe w'=>∃ r,e=.returned r/\bq w' r (uh x.1 x.2.2 x.2.1)/\aD w w':=by
 obtain⟨cs,rfl,Cw,Cy,Cz,CA,CB,CC,CD,CF,CG,CH,CI,CJ,CK,CL,CM,CN,rfl,hkd,Je,Dy⟩:=hv;obtain⟨kd,ar,tx⟩:=x;replace Je:aG w (.agg #[.bool Cw,.slice Cy Cz CA,.bool CB,.slice CC CD CF]) ar kk:=Je;replace Dy:aG w (.agg #[.bool CG,.slice CH CI CJ,.bool CK,.slice CL CM CN]) tx kk:=Dy;have hst:=Dy.sz iy;have NJ:=Je.sz iy;refine ai (C:=bd Tryz.prog w _) (args:=[.agg #[.int .u8 (kd:Int),.bool Cw,.slice Cy Cz CA,.bool CB,.slice CC CD CF,.bool CG,.slice CH CI CJ,.bool CK,.slice CL CM CN]]) Tryz.func231 aa Tryz.ntmps231 (bF aa) ?_;refine af ?_;refine VO.cR aa aa (fk nQ) (λaK bE aX=>ee _ tx kk aK (Dy.kp (Kp.of (U:=UU) aX)) ae) (λaK bE aX w1 s1 p1 n1 c1 t1 y1 m1 d1 q1 aU cQ _ bb1=>wV aa ?_);refine af ?_;refine VO.cR aa aa (fk nQ) (λbf cK bK=>ee _ ar kk bf (Je.kp (Kp.of (U:=UU) bK)) ae) (λbf cK bK w2 s2 p2 n2 c2 t2 y2 m2 d2 q2 bu dW _ bb2=>wV aa ?_);refine af ?_;have hcase:kd=1\/kd=10\/kd=2\/kd=7\/kd=4\/kd=5\/¬ (kd=1\/kd=10\/kd=2\/kd=7\/kd=4\/kd=5):=ae;rcases hcase with rfl|rfl|rfl|rfl|rfl|rfl|hno
 ·refine af ?_;refine aC ?_;intro wz kz bz;exact⟨_,aa,bq.cast (q1.kp bm).rd (aa),bz⟩
 ·refine af ?_;refine aC ?_;intro wz kz bz;exact⟨_,aa,bq.cast (q1.kp bm).rd (aa),bz⟩
 ·refine af ?_;refine VO.cR aa aa (fk Bk) (λcV dS ea=>kn _ _ kk cV ((q1.kp bm).in hst) ae) (λcV dS ea w3 s3 p3 n3 c3 t3 y3 m3 d3 q3 dH eV _ bb3=>wV aa ?_);refine af ?_;refine aC ?_;intro wz kz bz;exact⟨_,aa,bq.cast (q3.kp bm).rd (aa),bz⟩
 ·refine af ?_;refine VO.cR aa aa (fk Bk) (λcV dS ea=>kn _ _ kk cV ((q1.kp bm).in hst) ae) (λcV dS ea w3 s3 p3 n3 c3 t3 y3 m3 d3 q3 dH eV _ bb3=>wV aa ?_);refine af ?_;refine aC ?_;intro wz kz bz;exact⟨_,aa,bq.cast (q3.kp bm).rd (aa),bz⟩
 ·refine af ?_;refine VO.cR aa aa (fk Tryz.func284) (λcV dS ea=>Qh _ _ tx ar kk kk cV ((q1.kp bm).in hst) ((q2.kp bm).in NJ) ae ae) (λcV dS ea w3 s3 p3 n3 c3 t3 y3 m3 d3 q3 dH eV _ bb3=>wV aa ?_);refine af ?_;refine VO.cR aa aa (fk Bl) (λey eU fc=>ko _ _ (tx*ar) tx (kk+kk) kk ey ((q3.kp bm).in (hst.mul NJ)) ((q1.kp bm).in hst) ae ae) (λey eU fc w4 s4 p4 n4 c4 t4 y4 m4 d4 q4 gj jc _ mw=>wV aa ?_);refine af ?_;refine aC ?_;intro wz kz bz;exact⟨_,aa,bq.cast (q4.kp bm).rd (aa),bz⟩
 ·refine af ?_;by_cases Ym:jD tx ar>0
  ·refine VO.cB aa aa (fk Tryz.func143) (λcV dS ea=>tj _ _ tx ar kk kk cV ((q1.kp bm).in hst) ((q2.kp bm).in NJ) ae ae) (λcV dS ea w3 dH eV _ bb3=>wV aa ?_);refine af ?_;refine VS.aR aa (aw Ym) ?_;refine af ?_;refine VO.cR aa aa (fk Bk) (λey eU fc=>kn _ _ kk ey ((q2.kp bm).in NJ) ae) (λey eU fc w4 s4 p4 n4 c4 t4 y4 m4 d4 q4 gj jc _ mw=>wV aa ?_);refine af ?_;refine aC ?_;intro wz kz bz;exact⟨_,aa,bq.cast (q4.kp bm).rd (show (if jD tx ar>0 then-ar else-tx)= -ar from if_pos Ym),bz⟩
  ·refine VO.cB aa aa (fk Tryz.func143) (λcV dS ea=>tj _ _ tx ar kk kk cV ((q1.kp bm).in hst) ((q2.kp bm).in NJ) ae ae) (λcV dS ea w3 dH eV _ bb3=>wV aa ?_);refine af ?_;refine VS.aO aa (az Ym) ?_;refine af ?_;refine VO.cR aa aa (fk Bk) (λey eU fc=>kn _ _ kk ey ((q1.kp bm).in hst) ae) (λey eU fc w4 s4 p4 n4 c4 t4 y4 m4 d4 q4 gj jc _ mw=>wV aa ?_);refine af ?_;refine aC ?_;intro wz kz bz;exact⟨_,aa,bq.cast (q4.kp bm).rd (show (if jD tx ar>0 then-ar else-tx)= -tx from if_neg Ym),bz⟩
 ·refine af ?_;refine VS.fix 13 aa (ak (λb=>AV.val (.bool b)) (show ((kd:Int) == 1)=false by rw[eQ];omega)) ?_;refine af ?_;refine VS.fix 13 aa (ak (λb=>AV.val (.bool b)) (show ((kd:Int) == 10)=false by rw[eQ];omega)) ?_;refine af ?_;refine VS.fix 17 aa (ak (λb=>AV.val (.bool b)) (show ((kd:Int) == 2)=false by rw[eQ];omega)) ?_;refine af ?_;refine VS.fix 17 aa (ak (λb=>AV.val (.bool b)) (show ((kd:Int) == 7)=false by rw[eQ];omega)) ?_;refine af ?_;refine VS.fix 22 aa (ak (λb=>AV.val (.bool b)) (show ((kd:Int) == 4)=false by rw[eQ];omega)) ?_;refine af ?_;refine VS.fix 29 aa (ak (λb=>AV.val (.bool b)) (show ((kd:Int) == 5)=false by rw[eQ];omega)) ?_;refine af ?_;refine VO.cR aa aa (fk rA) (λcV dS ea=>gK cV) (λcV dS ea w3 s3 p3 n3 c3 t3 y3 m3 d3 q3 dH eV _ bb3=>wV aa ?_);refine af ?_;have e:uh kd tx ar=0:=by unfold uh;rw[if_neg ae,if_neg ae,if_neg ae,if_neg ae,if_neg ae,if_neg ae]
  refine aC ?_;intro wz kz bz;exact⟨_,aa,bq.cast (q3.kp bm).rd (e),bz⟩
theorem ZR (v:Value) (x:La) (kk:Nat) (w:World) (hv:ItmV kk w v x) (iy:1<=kk) (qq:kk<=1000000):
  Calls Tryz.prog 232 #[v] w λe w'=>∃ r,e=.returned r/\bq w' r (GO x.1 x.2.2)/\aD w w':=by
 obtain⟨cs,rfl,Cw,Cy,Cz,CA,CB,CC,CD,CF,CG,CH,CI,CJ,CK,CL,CM,CN,rfl,hkd,Je,Dy⟩:=hv;obtain⟨kd,ar,tx⟩:=x;replace Je:aG w (.agg #[.bool Cw,.slice Cy Cz CA,.bool CB,.slice CC CD CF]) ar kk:=Je;replace Dy:aG w (.agg #[.bool CG,.slice CH CI CJ,.bool CK,.slice CL CM CN]) tx kk:=Dy;have hst:=Dy.sz iy;have NJ:=Je.sz iy;refine ai (C:=bd Tryz.prog w _) (args:=[.agg #[.int .u8 (kd:Int),.bool Cw,.slice Cy Cz CA,.bool CB,.slice CC CD CF,.bool CG,.slice CH CI CJ,.bool CK,.slice CL CM CN]]) Tryz.func232 aa Tryz.ntmps232 (bF aa) ?_;refine af ?_;by_cases h7:kd=7
 ·subst h7;refine af ?_;refine VO.cR aa aa (fk nQ) (λaK bE aX=>ee _ tx kk aK (Dy.kp (Kp.of (U:=UU) aX)) ae) (λaK bE aX w1 s1 p1 n1 c1 t1 y1 m1 d1 q1 aU cQ _ bb1=>wV aa ?_);refine af ?_;refine aC ?_;intro wz kz bz;exact⟨_,aa,bq.cast (q1.kp bm).rd (aa),bz⟩
 ·refine VS.aO aa (show ((kd:Int) == 7)=false by rw[eQ];omega) ?_;refine af ?_;refine VO.cR aa aa (fk rA) (λaK bE aX=>gK aK) (λaK bE aX w1 s1 p1 n1 c1 t1 y1 m1 d1 q1 aU cQ _ bb1=>wV aa ?_);refine af ?_;refine aC ?_;intro wz kz bz;exact⟨_,aa,bq.cast (q1.kp bm).rd (if_neg h7),bz⟩
theorem ZT (v:Value) (x:La) (kk:Nat) (w:World) (hv:ItmV kk w v x) (iy:1<=kk) (qq:kk<=1000000):
  Calls Tryz.prog 233 #[v] w λe w'=>∃ r,e=.returned r/\bq w' r (GP x.1 x.2.2)/\aD w w':=by
 obtain⟨cs,rfl,Cw,Cy,Cz,CA,CB,CC,CD,CF,CG,CH,CI,CJ,CK,CL,CM,CN,rfl,hkd,Je,Dy⟩:=hv;obtain⟨kd,ar,tx⟩:=x;replace Je:aG w (.agg #[.bool Cw,.slice Cy Cz CA,.bool CB,.slice CC CD CF]) ar kk:=Je;replace Dy:aG w (.agg #[.bool CG,.slice CH CI CJ,.bool CK,.slice CL CM CN]) tx kk:=Dy;have hst:=Dy.sz iy;have NJ:=Je.sz iy;refine ai (C:=bd Tryz.prog w _) (args:=[.agg #[.int .u8 (kd:Int),.bool Cw,.slice Cy Cz CA,.bool CB,.slice CC CD CF,.bool CG,.slice CH CI CJ,.bool CK,.slice CL CM CN]]) Tryz.func233 aa Tryz.ntmps233 (bF aa) ?_;refine af ?_;by_cases h8:kd=8
 ·subst h8;refine af ?_;refine VO.cR aa aa (fk nQ) (λaK bE aX=>ee _ tx kk aK (Dy.kp (Kp.of (U:=UU) aX)) ae) (λaK bE aX w1 s1 p1 n1 c1 t1 y1 m1 d1 q1 aU cQ _ bb1=>wV aa ?_);refine af ?_;refine VO.cR aa aa (fk Bk) (λbf cK bK=>kn _ _ kk bf ((q1.kp bm).in hst) ae) (λbf cK bK w2 s2 p2 n2 c2 t2 y2 m2 d2 q2 bu dW _ bb2=>wV aa ?_);refine af ?_;refine aC ?_;intro wz kz bz;exact⟨_,aa,bq.cast (q2.kp bm).rd (aa),bz⟩
 ·refine VS.fix 5 aa (ak (λb=>AV.val (.bool b)) (show ((kd:Int) == 8)=false by rw[eQ];omega)) ?_;refine af ?_;by_cases h9:kd=9
  ·subst h9;refine af ?_;refine VO.cR aa aa (fk nQ) (λaK bE aX=>ee _ tx kk aK (Dy.kp (Kp.of (U:=UU) aX)) ae) (λaK bE aX w1 s1 p1 n1 c1 t1 y1 m1 d1 q1 aU cQ _ bb1=>wV aa ?_);refine af ?_;refine aC ?_;intro wz kz bz;exact⟨_,aa,bq.cast (q1.kp bm).rd (aa),bz⟩
  ·refine VS.fix 11 aa (ak (λb=>AV.val (.bool b)) (show ((kd:Int) == 9)=false by rw[eQ];omega)) ?_;refine af ?_;refine VO.cR aa aa (fk rA) (λaK bE aX=>gK aK) (λaK bE aX w1 s1 p1 n1 c1 t1 y1 m1 d1 q1 aU cQ _ bb1=>wV aa ?_);refine af ?_;refine aC ?_;intro wz kz bz;exact⟨_,aa,bq.cast (q1.kp bm).rd ((if_neg h8).trans (if_neg h9)),bz⟩
set_option maxRecDepth 4000 in
theorem Vt (v:Value) (l:List La) (kk:Nat) (w:World) (hv:bh (pJ kk) 9 w v l) (iy:1<=kk) (qq:kk<=1000000) (hsz:gr kk l.length<=30000000):
  Calls Tryz.prog 177 #[v] w λe w'=>∃ r,e=.returned r/\fm w' r (bn l)/\aD w w':=by
 obtain⟨p,c,rfl,eS,gv⟩:=hv.form;have Kv:=SE hv iy;obtain⟨N,hN⟩:∃ N,N=l.length:=⟨_,aa⟩;rw[<-hN] at hv eS hsz ⊢;refine ai (C:=bd Tryz.prog w _) (args:=[_]) Tryz.func177 aa Tryz.ntmps177 (bF aa) ?_;refine af ?_;refine VO.cR aa aa (fk rA) (λaK bE aX=>gK aK) (λaK bE aX w1 s1 p1 n1 c1 t1 y1 m1 d1 q1 aU cQ _ bb1=>wV aa ?_);refine af ?_;refine VO.cR aa aa (fk rA) (λbf cK bK=>gK bf) (λbf cK bK w2 s2 p2 n2 c2 t2 y2 m2 d2 q2 bu dW _ bb2=>wV aa ?_);refine af ?_;refine VO.cR aa aa (fk rA) (λcV dS ea=>gK cV) (λcV dS ea w3 s3 p3 n3 c3 t3 y3 m3 d3 q3 dH eV _ bb3=>wV aa ?_);refine af ?_;refine VO.cR aa aa (fk rA) (λey eU fc=>gK ey) (λey eU fc w4 s4 p4 n4 c4 t4 y4 m4 d4 q4 gj jc _ mw=>wV aa ?_);refine af ?_
 refine VS.loop (J:=λm L M w'=>∃ (z:Nat) (cs:List Value),z<=N/\m=N-z/\L=[(0,.val (.slice p N c)),(2,.box 2 0),(3,.box 3 0),(4,.val (.int .i64 (z:Int)))]/\
  M=[(2,(207,([.bool false,.slice none 0 0,.bool false,.slice none 0 0,.bool false,.slice none 0 0,.bool false,.slice none 0 0,.bool false,.slice none 0 0,.bool false,.slice none 0 0,.bool false,.slice none 0 0,.bool false,.slice none 0 0]:List Value).map .val)),(3,(207,cs.map .val))]/\fm w' (.agg cs.toArray) (bn (l.take z))) N
  ⟨_,_,?_,?_,?_,?_,⟨0,[.bool s1,.slice p1 n1 c1,.bool t1,.slice y1 m1 d1,.bool s2,.slice p2 n2 c2,.bool t2,.slice y2 m2 d2,.bool s3,.slice p3 n3 c3,.bool t3,.slice y3 m3 d3,.bool s4,.slice p4 n4 c4,.bool t4,.slice y4 m4 d4],ae,rfl,rfl,rfl,fm.mk (q1.kp bm).rd (q2.kp bm).rd (q3.kp bm).rd q4.rd⟩⟩ ?_
 ·exact di
 ·exact di
 ·rfl
 ·exact fv
 rintro m L M wJ ⟨z,cs,hz,rfl,rfl,rfl,SG⟩;have Qr:=SG;obtain⟨UQ,UR,UT,UW,UX,UY,UZ,Va,s8b,p8b,n8b,c8b,t8b,y8b,m8b,d8b,Vb,Vc,Vd,Ve,Vf,Vg,Vh,Vi,Vj,Vk,Vl,Vm,Vn,Vo,Vp,Vq,hcs,q8A,q8B,q8C,q8D⟩:=Qr;obtain rfl:=rX hcs;refine af ?_;by_cases hlt:z<N
 ·obtain⟨x,hx⟩:∃ x,l[z]? =some x:=⟨_,bj ae⟩;obtain⟨b,off,jU,rfl,hc,he⟩:=hv.at hx;have hitm:=he;obtain⟨Cw,Cy,Cz,CA,CB,CC,CD,CF,CG,CH,CI,CJ,CK,CL,CM,CN,rfl,_⟩:=he;obtain⟨kd,ar,tx⟩:=x;obtain⟨NJ,hst⟩:=Kv _ (dz hx);have hst:dy tx kk:=hst;have NJ:dy ar kk:=NJ;have hrs:=Ks (k:=kd) hst NJ iy;have AH:zV (bn (l.take z)) (gr kk N):=(pH iy (l.take z) (λy hy=>Kv y (mU hy))).mono (Jc (by rw[cw];omega));refine VS.aR aa (aw (aJ.2 hlt)) ?_;refine af ?_;refine VO.cond aa eh (wV aa ?_);refine VO.read aa [.int .u8 (kd:Int),.bool Cw,.slice Cy Cz CA,.bool CB,.slice CC CD CF,.bool CG,.slice CH CI CJ,.bool CK,.slice CL CM CN] aa (λj u hj=>by rw[Addr.add_mid,dV];exact hc j u hj) (wV aa ?_);refine VO.cR aa aa (fk Tryz.func230) (λjN oc pd=>Vr _ (kd,ar,tx) kk jN ⟨_,aa,(eE kk).kp hitm (Kp.of (U:=UU) pd)⟩ iy qq) (λjN oc pd Sx SI SJ OE SK t11 SL SM d11 Ka vn ny _ Ct=>wV aa ?_);refine af ?_;refine VO.cR aa aa (fk qe) (λlW qX uq=>fj _ _ _ _ (gr kk N) (3*kk+1) lW ((q8A.kp bm).to AH.b) ((Ka.kp bm).to hrs.b) ae ae) (λlW qX uq Fa s12 OG OH OI t12 OJ OK d12 PF wm rS _ GL=>wV aa ?_);refine af ?_;refine VO.cond aa eh (wV aa ?_);refine VO.read aa [.int .u8 (kd:Int),.bool Cw,.slice Cy Cz CA,.bool CB,.slice CC CD CF,.bool CG,.slice CH CI CJ,.bool CK,.slice CL CM CN] aa (λj u hj=>by rw[Addr.add_mid,dV];exact hc j u hj) (wV aa ?_);refine VO.cR aa aa (fk Tryz.func231) (λvo Fb Cu=>Vs _ (kd,ar,tx) kk vo ⟨_,aa,(eE kk).kp hitm (Kp.of (U:=UU) Cu)⟩ iy qq) (λvo Fb Cu uz s13 p13 n13 c13 t13 y13 m13 d13 q13 YU Fc _ YV=>wV aa ?_);refine af ?_;refine VO.cR aa aa (fk qe) (λtf wq xH=>fj _ _ _ _ (gr kk N) (3*kk+1) tf ((q8B.kp bm).to AH.s) ((q13.kp bm).to hrs.s) ae ae) (λtf wq xH w14 s14 p14 n14 c14 t14 y14 m14 d14 q14 Qb GM _ UA=>wV aa ?_);refine af ?_;refine VO.cond aa eh (wV aa ?_);refine VO.read aa [.int .u8 (kd:Int),.bool Cw,.slice Cy Cz CA,.bool CB,.slice CC CD CF,.bool CG,.slice CH CI CJ,.bool CK,.slice CL CM CN] aa (λj u hj=>by rw[Addr.add_mid,dV];exact hc j u hj) (wV aa ?_);refine VO.cR aa aa (fk Tryz.func232) (λwu zi AD=>ZR _ (kd,ar,tx) kk wu ⟨_,aa,(eE kk).kp hitm (Kp.of (U:=UU) AD)⟩ iy qq) (λwu zi AD w15 s15 p15 n15 c15 t15 y15 m15 d15 q15 UB Qc _ YW=>wV aa ?_);refine af ?_;refine VO.cR aa aa (fk qe) (λFw Qs NK=>fj _ _ _ _ (gr kk N) (3*kk+1) Fw ((q8C.kp bm).to AH.d) ((q15.kp bm).to hrs.d) ae ae) (λFw Qs NK w16 s16 p16 n16 c16 t16 y16 m16 d16 q16 hb16 kb16 _ bb16=>wV aa ?_);refine af ?_;refine VO.cond aa eh (wV aa ?_);refine VO.read aa [.int .u8 (kd:Int),.bool Cw,.slice Cy Cz CA,.bool CB,.slice CC CD CF,.bool CG,.slice CH CI CJ,.bool CK,.slice CL CM CN] aa (λj u hj=>by rw[Addr.add_mid,dV];exact hc j u hj) (wV aa ?_);refine VO.cR aa aa (fk Tryz.func233) (λZU ka17 ba17=>ZT _ (kd,ar,tx) kk ZU ⟨_,aa,(eE kk).kp hitm (Kp.of (U:=UU) ba17)⟩ iy qq) (λZU ka17 ba17 w17 s17 p17 n17 c17 t17 y17 m17 d17 q17 hb17 kb17 _ bb17=>wV aa ?_);refine af ?_;refine VO.cR aa aa (fk qe) (λNL ZV Vu=>fj _ _ _ _ (gr kk N) (3*kk+1) NL ((q8D.kp bm).to AH.i) ((q17.kp bm).to hrs.i) ae ae) (λNL ZV Vu w18 s18 p18 n18 c18 t18 y18 m18 d18 q18 hb18 kb18 _ bb18=>wV aa ?_);refine af ?_;refine VS.back (N-(z+1)) ae ⟨_,_,?_,?_,?_,?_,⟨z+1,[.bool s12,.slice OG OH OI,.bool t12,.slice OJ OK d12,.bool s14,.slice p14 n14 c14,.bool t14,.slice y14 m14 d14,.bool s16,.slice p16 n16 c16,.bool t16,.slice y16 m16 d16,.bool s18,.slice p18 n18 c18,.bool t18,.slice y18 m18 d18],ae,aa,aa,aa,(fm.mk (PF.kp bm).rd (q14.kp bm).rd (q16.kp bm).rd (q18.kp bm).rd).cast (tr hx).symm⟩⟩
  ·refine⟨aa,aa,aa,?_,aj⟩;rw[<-aA ae];rfl
  ·exact di
  ·rfl
  ·exact fv
 ·refine VS.aO aa (az (λe=>hlt (aJ.1 e))) ?_;obtain rfl:z=N:=ae;refine af ?_;refine aC ?_;intro wz kz bz;exact⟨_,aa,(SG.kp kz).cast (by rw[dM ae]),bz⟩
set_option maxRecDepth 4000 in
theorem Qt (v:Value) (l:List Pt) (kk:Nat) (w:World) (hv:bh (PtE kk) 16 w v l) (iy:1<=kk) (qq:kk<=1000000) (hsz:eP kk l.length<=30000000):
  Calls Tryz.prog 186 #[v] w λe w'=>∃ r,e=.returned r/\fm w' r (qY l)/\aD w w':=by
 obtain⟨p,c,rfl,eS,gv⟩:=hv.form;have Kv:=SF hv iy;obtain⟨N,hN⟩:∃ N,N=l.length:=⟨_,aa⟩;rw[<-hN] at hv eS hsz ⊢;refine ai (C:=bd Tryz.prog w _) (args:=[_]) Tryz.func186 aa Tryz.ntmps186 (bF aa) ?_;refine af ?_;refine VO.cR aa aa (fk rA) (λaK bE aX=>gK aK) (λaK bE aX w1 s1 p1 n1 c1 t1 y1 m1 d1 q1 aU cQ _ bb1=>wV aa ?_);refine af ?_;refine VO.cR aa aa (fk rA) (λbf cK bK=>gK bf) (λbf cK bK w2 s2 p2 n2 c2 t2 y2 m2 d2 q2 bu dW _ bb2=>wV aa ?_);refine af ?_;refine VO.cR aa aa (fk rA) (λcV dS ea=>gK cV) (λcV dS ea w3 s3 p3 n3 c3 t3 y3 m3 d3 q3 dH eV _ bb3=>wV aa ?_);refine af ?_;refine VO.cR aa aa (fk rA) (λey eU fc=>gK ey) (λey eU fc w4 s4 p4 n4 c4 t4 y4 m4 d4 q4 gj jc _ mw=>wV aa ?_);refine af ?_
 refine VS.loop (J:=λm L M w'=>∃ (z:Nat) (cs:List Value),z<=N/\m=N-z/\L=[(0,.val (.slice p N c)),(2,.box 2 0),(3,.box 3 0),(4,.val (.int .i64 (z:Int)))]/\
  M=[(2,(207,([.bool false,.slice none 0 0,.bool false,.slice none 0 0,.bool false,.slice none 0 0,.bool false,.slice none 0 0,.bool false,.slice none 0 0,.bool false,.slice none 0 0,.bool false,.slice none 0 0,.bool false,.slice none 0 0]:List Value).map .val)),(3,(207,cs.map .val))]/\fm w' (.agg cs.toArray) (qY (l.take z))) N
  ⟨_,_,?_,?_,?_,?_,⟨0,[.bool s1,.slice p1 n1 c1,.bool t1,.slice y1 m1 d1,.bool s2,.slice p2 n2 c2,.bool t2,.slice y2 m2 d2,.bool s3,.slice p3 n3 c3,.bool t3,.slice y3 m3 d3,.bool s4,.slice p4 n4 c4,.bool t4,.slice y4 m4 d4],ae,rfl,rfl,rfl,fm.mk (q1.kp bm).rd (q2.kp bm).rd (q3.kp bm).rd q4.rd⟩⟩ ?_
 ·exact di
 ·exact di
 ·rfl
 ·exact fv
 rintro m L M wJ ⟨z,cs,hz,rfl,rfl,rfl,SG⟩;have Qr:=SG;obtain⟨UQ,UR,UT,UW,UX,UY,UZ,Va,s8b,p8b,n8b,c8b,t8b,y8b,m8b,d8b,Vb,Vc,Vd,Ve,Vf,Vg,Vh,Vi,Vj,Vk,Vl,Vm,Vn,Vo,Vp,Vq,hcs,q8A,q8B,q8C,q8D⟩:=Qr;obtain rfl:=rX hcs;refine af ?_;by_cases hlt:z<N
 ·obtain⟨x,hx⟩:∃ x,l[z]? =some x:=⟨_,bj ae⟩;obtain⟨b,off,jU,rfl,hc,he⟩:=hv.at hx;obtain⟨Cw,Cy,Cz,CA,CB,CC,CD,CF,CG,CH,CI,CJ,CK,CL,CM,CN,s9c,p9c,n9c,c9c,t9c,y9c,m9c,d9c,s9d,p9d,n9d,c9d,t9d,y9d,m9d,d9d,rfl,q9A,q9B,q9C,q9D⟩:=he.form;have AH:zV (qY (l.take z)) (eP kk N):=(Kt (l.take z) (λy hy=>Kv y (mU hy))).mono (NC (by rw[cw];omega));refine VS.aR aa (aw (aJ.2 hlt)) ?_;refine af ?_;refine VO.cond aa eh (wV aa ?_);refine VO.read aa [.bool Cw,.slice Cy Cz CA,.bool CB,.slice CC CD CF] aa (vU (o:=off+z*16) hc 0 _ ⟨_,aa⟩) (wV aa ?_);refine VO.cR aa aa (fk qe) (λlW qX uq=>fj _ _ _ _ (eP kk N) kk lW ((q8A.kp bm).to AH.b) (q9A.kp (Kp.of (U:=UU) uq)) ae ae) (λlW qX uq Fa s12 OG OH OI t12 OJ OK d12 PF wm rS _ GL=>wV aa ?_);refine af ?_;refine VO.cond aa eh (wV aa ?_);refine VO.read aa [.bool CG,.slice CH CI CJ,.bool CK,.slice CL CM CN] aa (vU (o:=off+z*16) hc 4 _ ⟨_,aa⟩) (wV aa ?_);refine VO.cR aa aa (fk qe) (λtf wq xH=>fj _ _ _ _ (eP kk N) kk tf ((q8B.kp bm).to AH.s) (q9B.kp (Kp.of (U:=UU) xH)) ae ae) (λtf wq xH w14 s14 p14 n14 c14 t14 y14 m14 d14 q14 Qb GM _ UA=>wV aa ?_);refine af ?_;refine VO.cond aa eh (wV aa ?_);refine VO.read aa [.bool s9c,.slice p9c n9c c9c,.bool t9c,.slice y9c m9c d9c] aa (vU (o:=off+z*16) hc 8 _ ⟨_,aa⟩) (wV aa ?_);refine VO.cR aa aa (fk qe) (λFw Qs NK=>fj _ _ _ _ (eP kk N) kk Fw ((q8C.kp bm).to AH.d) (q9C.kp (Kp.of (U:=UU) NK)) ae ae) (λFw Qs NK w16 s16 p16 n16 c16 t16 y16 m16 d16 q16 hb16 kb16 _ bb16=>wV aa ?_);refine af ?_;refine VO.cond aa eh (wV aa ?_);refine VO.read aa [.bool s9d,.slice p9d n9d c9d,.bool t9d,.slice y9d m9d d9d] aa (vU (o:=off+z*16) hc 12 _ ⟨_,aa⟩) (wV aa ?_);refine VO.cR aa aa (fk qe) (λNL ZV Vu=>fj _ _ _ _ (eP kk N) kk NL ((q8D.kp bm).to AH.i) (q9D.kp (Kp.of (U:=UU) Vu)) ae ae) (λNL ZV Vu w18 s18 p18 n18 c18 t18 y18 m18 d18 q18 hb18 kb18 _ bb18=>wV aa ?_);refine af ?_;refine VS.back (N-(z+1)) ae ⟨_,_,?_,?_,?_,?_,⟨z+1,[.bool s12,.slice OG OH OI,.bool t12,.slice OJ OK d12,.bool s14,.slice p14 n14 c14,.bool t14,.slice y14 m14 d14,.bool s16,.slice p16 n16 c16,.bool t16,.slice y16 m16 d16,.bool s18,.slice p18 n18 c18,.bool t18,.slice y18 m18 d18],ae,aa,aa,aa,(fm.mk (PF.kp bm).rd (q14.kp bm).rd (q16.kp bm).rd (q18.kp bm).rd).cast (Jb hx).symm⟩⟩
  ·refine⟨aa,aa,aa,?_,aj⟩;rw[<-aA ae];rfl
  ·exact di
  ·rfl
  ·exact fv
 ·refine VS.aO aa (az (λe=>hlt (aJ.1 e))) ?_;obtain rfl:z=N:=ae;refine af ?_;refine aC ?_;intro wz kz bz;exact⟨_,aa,(SG.kp kz).cast (by rw[dM ae]),bz⟩
end
set_option maxRecDepth 4000
section
open Go.RowKit
abbrev Fx:=Int×Int×Bool×Rat
def ek (e:Fx):Bool:=decide (e.1<0) || (decide (e.1>9999) || (decide (e.2.1<1) || (decide (e.2.1>40) || !e.2.2.1)))
theorem kJ {e:Fx} (h:ek e=false):0<=e.1/\e.1<=9999/\1<=e.2.1/\e.2.1<=40/\e.2.2.1=true:=by
 unfold ek at h;simp only[Bool.or_eq_false_iff,decide_eq_false_iff_not,Bool.not_eq_false'] at h;obtain⟨a,b,c,d,f⟩:=h;exact⟨ae,ae,ae,ae,f⟩
def ij (e:Fx) (y:Int):Rat:=if ek e=true\/y<=e.1\/y>e.1+e.2.1 then 0 else e.2.2.2*Rat.divInt 1 e.2.1
def mK (e:Fx) (y:Int):Int:=if y<=e.1 then 0 else if y>=e.1+e.2.1 then e.2.1 else y-e.1
def mL (e:Fx) (y:Int):Rat:=if e.1>y then 0 else e.2.2.2*Rat.divInt (e.2.1-mK e y) e.2.1
def edue (l:List Fx) (y:Int):Rat:=dY (l.map λe=>ij e y)
def rY (l:List Fx) (y:Int):Rat:=dY (l.map λe=>mL e y)
theorem Jf {n:Int} (h:n≠0):Rat.divInt n n=1:=by rw[Rat.divInt_self' h]
theorem SN {a b n:Int}:Rat.divInt (a-b) n=Rat.divInt a n-Rat.divInt b n:=by
 rw[Ba,Ba,Ba,Rat.intCast_sub,ye,ye,ye];grind
theorem Qu (q:Rat) (n:Int):q/(n:Rat)=q*Rat.divInt 1 n:=by
 rw[Ba,ye,ye];show q*_=q*(1*_);rw[Rat.one_mul]
theorem Vv {e:Fx} (h:ek e=false) (y:Int):mL e y=mL e (y-1)+(if e.1=y then e.2.2.2 else 0)-ij e y:=by
 obtain⟨h0,h1,h2,h3,_⟩:=kJ h;have hn:e.2.1≠0:=ae;have hs:=Jf hn;unfold mL ij mK;rw[h];by_cases a:e.1>y
 ·rw[if_pos a,if_pos (show e.1>y-1 by omega),if_neg (show ¬ e.1=y by omega),if_pos (.inr (.inl ae))];grind
 ·rw[if_neg a];by_cases b:e.1=y
  ·rw[if_pos (show e.1>y-1 by omega),if_pos b,if_pos (show y<=e.1 by omega),if_pos (.inr (.inl ae)),Int.sub_zero,hs];grind
  ·rw[if_neg (show ¬ e.1>y-1 by omega),if_neg b,if_neg (show ¬ y<=e.1 by omega)];by_cases c:y>e.1+e.2.1
   ·rw[if_pos (show y>=e.1+e.2.1 by omega),if_neg (show ¬ y-1<=e.1 by omega),if_pos (show y-1>=e.1+e.2.1 by omega),if_pos (.inr (.inr c))];grind
   ·rw[if_neg (show ¬ (false=true\/y<=e.1\/y>e.1+e.2.1) by simp;omega)]
    have key:∀ k:Int,e.2.2.2*Rat.divInt (e.2.1-(k+1)) e.2.1=e.2.2.2*Rat.divInt (e.2.1-k) e.2.1-e.2.2.2*Rat.divInt 1 e.2.1:=λk=>by
     rw[show e.2.1-(k+1)=(e.2.1-k)-1 by omega,SN];grind
    have rh:(if y>=e.1+e.2.1 then e.2.1 else y-e.1)=y-e.1:=by split <;> omega
    have pR:(if y-1<=e.1 then 0 else if y-1>=e.1+e.2.1 then e.2.1 else y-1-e.1)=y-1-e.1:=by split <;> (try split) <;> omega
    rw[rh,pR];have:=key (y-1-e.1);rw[show y-1-e.1+1=y-e.1 by omega] at this;rw[this];grind
theorem NM {e:Fx} {y:Int} (h:y<e.1):mL e y=0:=if_pos ae
theorem ja (x:Rat) (l:List Rat):dY (x::l)=x+dY l:=by
 have key:∀ (l:List Rat) (a:Rat),l.foldl (·+ ·) a=a+l.foldl (·+ ·) 0:=by
  intro l
  induction l with
  | nil=>intro a;show a=a+0;grind
  | cons y r ih=>intro a;rw[Lu,Lu,ih (a+y),ih (0+y)];grind
 show List.foldl (·+ ·) (0+x) l=_;rw[key];show 0+x+dY l=x+dY l;grind
theorem zn:dY []=0:=rfl
theorem kK (l m:List Rat):dY (l++m)=dY l+dY m:=by
 induction l with
 | nil=>rw[pX,zn];grind
 | cons x r ih=>rw[Lr,ja,ja,ih];grind
def GQ (l:List Fx) (y:Int):Rat:=dY (l.map λe=>if e.1=y then e.2.2.2 else 0)
theorem GR {l:List Fx} (h:∀ e∈l,ek e=false) (y:Int):rY l y=rY l (y-1)+GQ l y-edue l y:=by
 induction l with
 | nil=>show dY []=dY []+dY []-dY [];rw[zn];grind
 | cons e r ih=>
   have h1:=Vv (h e cZ) y;have h2:=ih (λx hx=>h x (by simp[hx]));unfold rY GQ edue at*;simp only[List.map_cons,ja];grind
theorem CO {l:List Fx} {y:Int} (h:∀ e∈l,y<e.1):rY l y=0:=by
 induction l with
 | nil=>rfl
 | cons e r ih=>
   have:=ih (λx hx=>h x (by simp[hx]));unfold rY at*;rw[kX,ja,NM (h e cZ),this];grind
end
section
open Go.RowKit
attribute [local irreducible] aB VS
abbrev ew:=Int×Int×Bool×List Nat×Bool×List Nat
def ew.exp (e:ew):Fx:=(e.1,e.2.1,ur e.2.2.1 e.2.2.2.1 e.2.2.2.2.1 e.2.2.2.2.2,rq e.2.2.1 e.2.2.2.1 e.2.2.2.2.1 e.2.2.2.2.2)
def tw (x:Int):Prop:= -9223372036854775808<=x/\x<=9223372036854775807
def oh (kk:Nat) (w:World) (cs:List Value) (e:ew):Prop:=
 ∃ p c r d,cs=[.int .i64 e.1,.int .i64 e.2.1,.bool e.2.2.1,.slice p e.2.2.2.1.length c,.bool e.2.2.2.2.1,.slice r e.2.2.2.2.2.length d]/\tw e.1/\tw e.2.1/\
   eI w (.agg #[.bool e.2.2.1,.slice p e.2.2.2.1.length c,.bool e.2.2.2.2.1,.slice r e.2.2.2.2.2.length d]) e.2.2.1 e.2.2.2.1 e.2.2.2.2.1 e.2.2.2.2.2/\e.2.2.2.1.length<=kk/\e.2.2.2.2.2.length<=kk
def xL (kk:Nat) (w:World) (v:Value) (e:ew):Prop:=∃ cs:List Value,v=.agg cs.toArray/\oh kk w cs e
variable {kk:Nat} {T:TypeId->Bool} {w w':World}
theorem oh.kp {cs:List Value} {e:ew} (h:oh kk w cs e) (k:bg ⟨UU,λ_=>True,T⟩ w w'):oh kk w' cs e:=by
 obtain⟨p,c,r,d,h1,h2,h3,h4,h5⟩:=h;exact⟨p,c,r,d,h1,h2,h3,h4.kp k,h5⟩
variable {v:Value}
theorem xL.kp {e:ew} (h:xL kk w v e) (k:bg ⟨UU,λ_=>True,T⟩ w w'):xL kk w' v e:=by
 obtain⟨cs,h1,h2⟩:=h;exact⟨cs,h1,h2.kp k⟩
theorem xL.k {e:ew} (h:xL kk w v e) (k:bg ⟨UU,λ_=>True,T⟩ w w':=by exact bm):xL kk w' v e:=h.kp k
theorem fA (kk:Nat):gp (oh kk) 6 where
 kp:=λh k=>h.kp k
 len:=λh=>by obtain⟨p,c,r,d,rfl,_⟩:=h;rfl
 ok:=λh=>by obtain⟨p,c,r,d,rfl,_⟩:=h;rfl
theorem eI.k {s t:Bool} {xs ys:List Nat} (h:eI w v s xs t ys) (k:bg ⟨UU,λ_=>True,T⟩ w w':=by exact bm):eI w' v s xs t ys:=h.kp k
theorem ju (v:Value) (e:ew) (kk:Nat) (w:World) (hv:xL kk w v e) (hk:kk<=134217728) (c:Int) (hc:(if ek e.exp=true then 2 else 0)=c):
  Calls Tryz.prog 217 #[v] w λo w'=>o=.returned (.int .i64 c)/\aD w w':=by
 obtain⟨cs,rfl,p,cp,r,d,rfl,hy,hn,hq,h1,h2⟩:=hv;obtain⟨y,n,s,xs,t,ys⟩:=e;have hew:ek (ew.exp (y,n,s,xs,t,ys))=(decide (y<0) || (decide (y>9999) || (decide (n<1) || (decide (n>40) || !ur s xs t ys)))):=aa;rw[hew] at hc;replace hq:eI w (.agg #[.bool s,.slice p xs.length cp,.bool t,.slice r ys.length d]) s xs t ys:=hq;replace h1:xs.length<=kk:=h1;replace h2:ys.length<=kk:=h2;refine ai (C:=bd Tryz.prog w _) (args:=[_]) ya aa Tryz.ntmps217 (bF aa) ?_;refine af ?_;by_cases a1:y<0
 ·refine VO.fix 6 aa (ak (λb=>AV.val (.bool b)) (aw a1)) ?_;refine af ?_;refine aC ?_;intro wz kz bz;exact⟨by rw[<-hc,aw a1];rfl,bz⟩
 refine VO.fix 6 aa (ak (λb=>AV.val (.bool b)) (az a1)) ?_;refine af ?_;by_cases a2:y>9999
 ·refine VO.fix 11 aa (ak (λb=>AV.val (.bool b)) (aw a2)) ?_;refine af ?_;refine aC ?_;intro wz kz bz;exact⟨by rw[<-hc,aw a2,Bool.true_or,Bool.or_true];rfl,bz⟩
 refine VO.fix 11 aa (ak (λb=>AV.val (.bool b)) (az a2)) ?_;refine af ?_;by_cases a3:n<1
 ·refine VO.fix 16 aa (ak (λb=>AV.val (.bool b)) (aw a3)) ?_;refine af ?_;refine aC ?_;intro wz kz bz;exact⟨by rw[<-hc,aw a3];simp[nJ],bz⟩
 refine VO.fix 16 aa (ak (λb=>AV.val (.bool b)) (az a3)) ?_;refine af ?_;by_cases a4:n>40
 ·refine VO.fix 21 aa (ak (λb=>AV.val (.bool b)) (aw a4)) ?_;refine af ?_;refine aC ?_;intro wz kz bz;exact⟨by rw[<-hc,aw a4];simp[nJ],bz⟩
 refine VO.fix 21 aa (ak (λb=>AV.val (.bool b)) (az a4)) ?_;refine af ?_;refine VO.call aa aa (fk Tryz.func36) (λaK bE aX=>(od s t xs ys _ aK (hq.k) ae ae).mono ?_);rintro e w1 ⟨rfl,aU⟩;rw[az a1,az a2,az a3,az a4] at hc;cases hr:ur s xs t ys with
 | true=>
   rw[hr] at hc;refine aL aU ?_;intro cQ _ bb1;refine aC ?_;intro wz kz bz;exact⟨by rw[<-hc];rfl,bz⟩
 | false=>
   rw[hr] at hc;refine aL aU ?_;intro cQ _ bb1;refine aC ?_;intro wz kz bz;exact⟨by rw[<-hc];rfl,bz⟩
theorem oA {e:ew} (h:ek e.exp=false):0<=e.1/\e.1<=9999/\1<=e.2.1/\e.2.1<=40:=by
 obtain⟨a,b,c,d,_⟩:=kJ h;exact⟨a,b,c,d⟩
theorem Qv (v:Value) (e:ew) (kk:Nat) (z:Int) (w:World) (hv:xL kk w v e) (hw:ek e.exp=false) (hz:tw z):
  Calls Tryz.prog 226 #[v,.int .i64 z] w λo w'=>o=.returned (.int .i64 (mK e.exp z))/\aD w w':=by
 obtain⟨g1,g2,g3,g4⟩:=oA hw;obtain⟨cs,rfl,p,cp,r,d,rfl,hy,hn,hq,h1,h2⟩:=hv;obtain⟨y,n,s,xs,t,ys⟩:=e;replace g1:0<=y:=g1;replace g2:y<=9999:=g2;replace g3:1<=n:=g3;replace g4:n<=40:=g4;obtain⟨z1,z2⟩:=hz;have hec:mK (ew.exp (y,n,s,xs,t,ys)) z=if z<=y then 0 else if z>=y+n then n else z-y:=aa
 rw[hec];refine ai (C:=bd Tryz.prog w _) (args:=[_,_]) Tryz.func226 aa Tryz.ntmps226 (bF aa) ?_;refine af ?_;by_cases a1:z<=y
 ·refine VS.aR aa (aw a1) ?_;refine af ?_;refine aC ?_;intro wz kz bz;exact⟨by rw[if_pos a1];rfl,bz⟩
 refine VS.aO aa (az a1) ?_;refine af ?_;have e1:IntKind.i64.wrap (y+n)=y+n:=cO _ ae;by_cases a2:z>=y+n
 ·refine VS.aR aa (aw (by rw[e1];exact a2)) ?_;refine af ?_;refine aC ?_;intro wz kz bz;exact⟨by rw[if_neg a1,if_pos a2];rfl,bz⟩
 ·refine VS.aO aa (az (by rw[e1];exact a2)) ?_;refine af ?_;refine aC ?_;intro wz kz bz;exact⟨by rw[if_neg a1,if_neg a2,cO (z-y) ae];rfl,bz⟩
theorem SP (v:Value) (e:ew) (kk:Nat) (k:Int) (w:World) (hv:xL kk w v e) (hw:ek e.exp=false) (hk:kk<=1048576) (k0:0<=k) (k1:k<=40):
  Calls Tryz.prog 225 #[v,.int .i64 k] w λo w'=>∃ x,o=.returned x/\aZ w' w.heap.size x (e.exp.2.2.2*Rat.divInt k e.2.1)/\aD w w':=by
 obtain⟨g1,g2,g3,g4⟩:=oA hw;obtain⟨cs,rfl,p,cp,r,d,rfl,hy,hn,hq,h1,h2⟩:=hv;obtain⟨y,n,s,xs,t,ys⟩:=e;replace g3:1<=n:=g3;replace g4:n<=40:=g4;replace hq:eI w (.agg #[.bool s,.slice p xs.length cp,.bool t,.slice r ys.length d]) s xs t ys:=hq;replace h1:xs.length<=kk:=h1;replace h2:ys.length<=kk:=h2;have lV:=hq.in h1 h2;refine ai (C:=bd Tryz.prog w _) (args:=[_,_]) Tryz.func225 aa Tryz.ntmps225 (bF aa) ?_;refine af ?_;refine VO.call aa aa (fk Tryz.func280) (λaK bE aX=>(Zb k n aK ae ae ae ae 0 (Zc ae)).mono ?_);rintro e w1 ⟨r1,rfl,q1,aU⟩;obtain⟨s1,p1,n1,c1,t1,y1,m1,d1,rfl⟩:=q1.form;refine aL aU ?_;intro cQ _ bb1;refine VO.cR aa aa (fk Tryz.func242) (λbf cK bK=>Fg _ _ (rq s xs t ys) (Rat.divInt k n) kk 1 bf (lV.k) (q1.ki (dy.of ae ae)) ae ae) (λbf cK bK w2 s2 p2 n2 c2 t2 y2 m2 d2 q2 bu dW _ bb2=>wV aa ?_);refine af ?_;refine aC ?_;intro wz kz bz;exact⟨_,aa,(q2.kp kz).mono bK.size,bz⟩
theorem Vw (v:Value) (e:ew) (kk:Nat) (z:Int) (w:World) (hv:xL kk w v e) (hk:kk<=1048576) (hz:tw z):
  Calls Tryz.prog 223 #[v,.int .i64 z] w λo w'=>∃ x,o=.returned x/\aZ w' w.heap.size x (ij e.exp z)/\aD w w':=by
 have RR:=hv;obtain⟨cs,rfl,p,cp,r,d,rfl,hy,hn,hq,h1,h2⟩:=hv;obtain⟨z1,z2⟩:=hz;obtain⟨C,hC⟩:∃ C,C=ij e.exp z:=⟨_,aa⟩;rw[<-hC];unfold ij at hC;refine ai (C:=bd Tryz.prog w _) (args:=[_,_]) Tryz.func223 aa Tryz.ntmps223 (bF aa) ?_;refine af ?_;cases hw:ek e.exp with
 | true=>
   rw[hw,if_pos (.inl rfl)] at hC;subst hC;refine VO.cB aa aa (fk ya) (λaK bE aX=>ju _ e kk aK (RR.k) ae 2 (by rw[hw];rfl)) (λaK bE aX w1 aU cQ _ bb1=>wV aa ?_);refine af ?_;refine VO.cR aa aa (fk mc) (λbf cK bK=>dK 0 bf ae ae) (λbf cK bK w2 s2 p2 n2 c2 t2 y2 m2 d2 q2 bu dW _ bb2=>wV aa ?_);refine af ?_;refine aC ?_;intro wz kz bz;exact⟨_,aa,(q2.kp kz).mono bK.size,bz⟩
 | false=>
   obtain⟨g1,g2,g3,g4⟩:=oA hw;have e1:IntKind.i64.wrap (e.1+e.2.1)=e.1+e.2.1:=cO _ ae;rw[hw] at hC;refine VO.cB aa aa (fk ya) (λaK bE aX=>ju _ e kk aK (RR.k) ae 0 (by rw[hw];rfl)) (λaK bE aX w1 aU cQ _ bb1=>wV aa ?_);refine af ?_;by_cases a1:z<=e.1
   ·rw[if_pos (.inr (.inl a1))] at hC;subst hC;refine VO.fix 14 aa (ak (λb=>AV.val (.bool b)) (aw a1)) ?_;refine af ?_;refine VO.cR aa aa (fk mc) (λbf cK bK=>dK 0 bf ae ae) (λbf cK bK w2 s2 p2 n2 c2 t2 y2 m2 d2 q2 bu dW _ bb2=>wV aa ?_);refine af ?_;refine aC ?_;intro wz kz bz;exact⟨_,aa,(q2.kp kz).mono bK.size,bz⟩
   refine VO.fix 14 aa (ak (λb=>AV.val (.bool b)) (az a1)) ?_;refine af ?_;by_cases a2:z>e.1+e.2.1
   ·rw[if_pos (.inr (.inr a2))] at hC;subst hC;refine VS.aR aa (aw (show z>IntKind.i64.wrap (e.1+e.2.1) by rw[e1];exact a2)) ?_;refine af ?_;refine VO.cR aa aa (fk mc) (λbf cK bK=>dK 0 bf ae ae) (λbf cK bK w2 s2 p2 n2 c2 t2 y2 m2 d2 q2 bu dW _ bb2=>wV aa ?_);refine af ?_;refine aC ?_;intro wz kz bz;exact⟨_,aa,(q2.kp kz).mono bK.size,bz⟩
   ·rw[if_neg (by rintro (h|h|h);exact Bool.noConfusion h;exact a1 h;exact a2 h)] at hC;subst hC;refine VS.aO aa (az (show ¬ z>IntKind.i64.wrap (e.1+e.2.1) by rw[e1];exact a2)) ?_;refine af ?_;refine VO.cR aa aa (fk Tryz.func225) (λbf cK bK=>SP _ e kk 1 bf (RR.k) hw hk ae ae) (λbf cK bK w2 s2 p2 n2 c2 t2 y2 m2 d2 q2 bu dW _ bb2=>wV aa ?_);refine af ?_;refine aC ?_;intro wz kz bz;exact⟨_,aa,(q2.kp kz).mono bK.size,bz⟩
end
section
open Go.RowKit
theorem NN {s t:Bool} {xs ys:List Nat} (h:ur s xs t ys=true) (lx:eB xs) (ly:eB ys):
  decide ((rq s xs t ys).num<0)=s/\limbs (rq s xs t ys).num.natAbs=xs/\decide (((rq s xs t ys).den:Int)<0)=t/\limbs ((rq s xs t ys).den:Int).natAbs=ys:=by
 obtain⟨h1,h2,h3,h4⟩:=Sy h;obtain⟨e1,e2⟩:=sY ⟨h3,h4⟩;unfold rq;rw[e1,e2];unfold numOf;rw[if_pos h1,if_pos h2];obtain⟨c1,c2⟩:=canon lx h1;obtain⟨c3,c4⟩:=canon ly h2;exact⟨c1.symm,c2.symm,c3.symm,c4.symm⟩
theorem NP {α:Type} {vs:List α} {i:Nat} {x:α} (h:vs[i]? =some x):vs=vs.take i++x::vs.drop (i+1)/\(vs.take i).length=i:=by
 obtain⟨hi,rfl⟩:=cM.1 h;refine⟨?_,by rw[cw];omega⟩;rw[<-tN hi,wB]
theorem vz {α:Type}:∀ (vs:List (List α)) (sz:Nat),(∀ v∈vs,v.length=sz)->vs.flatten.length=vs.length*sz
 | [],_,_=>cZ
 | x::r,sz,h=>by
   rw[wC,fH,vz r sz (λv hv=>h v (by simp[hv])),h x cZ,wD,ff];omega
theorem ZW {α:Type} (A C B N:List α) (o off:Nat) (ho:o+N.length<=C.length) (e:off=A.length+o):
  (A++(C++B)).take off++(N++(A++(C++B)).drop (off+N.length))=A++((C.take o++(N++C.drop (o+N.length)))++B):=by
 subst e
 rw[List.take_append,List.drop_append,dM ae,pU ae,pX,show A.length+o-A.length=o by omega,show A.length+o+N.length-A.length=o+N.length by omega,
  Xc ae,Xb ae]
 simp only[List.append_assoc]
theorem Vx {vs:List (List Value)} {sz:Nat} (hl:∀ v∈vs,v.length=sz) {i:Nat} {cs:List Value} (hv:vs[i]? =some cs) (o:Nat) (new:List Value) (ho:o+new.length<=sz) (spare:List AV) (off:Nat) (e:off=i*sz+o) (m:Nat) (hm:m=new.length):
  (vs.flatten.map AV.val++spare).take off++(new.map AV.val++(vs.flatten.map AV.val++spare).drop (off+m))=(vs.set i (cs.take o++(new++cs.drop (o+new.length)))).flatten.map AV.val++spare:=by
 subst hm;obtain⟨h1,h2⟩:=NP hv;have hc:=hl cs (dz hv)
 have hA:((vs.take i).flatten.map AV.val).length=i*sz:=by
  rw[bJ,vz _ sz (λv hv=>hl v (mU hv)),h2]
 have hset:vs.set i (cs.take o++(new++cs.drop (o+new.length)))=vs.take i++(cs.take o++(new++cs.drop (o+new.length)))::vs.drop (i+1):=by
  rw[List.set_eq_take_append_cons_drop,if_pos (cM.1 hv).1]
 have key:=ZW ((vs.take i).flatten.map AV.val) (cs.map AV.val) ((vs.drop (i+1)).flatten.map AV.val++spare) (new.map AV.val) o off (by simpa [hc] using ho) (by rw[hA];exact e)
 have zZ:vs.flatten.map AV.val++spare=(vs.take i).flatten.map AV.val++(cs.map AV.val++((vs.drop (i+1)).flatten.map AV.val++spare)):=by
  conv=>lhs;rw[h1]
  simp only[List.flatten_append,List.flatten_cons,List.map_append,List.append_assoc]
 rw[zZ,hset];rw[bJ] at key;rw[key];simp only[List.flatten_append,List.flatten_cons,List.map_append,List.append_assoc,List.map_take,List.map_drop]
section
variable {α:Type} {E:World->List Value->α->Prop} {sz:Nat} {w w':World} {es:List α} {vs:List (List Value)}
theorem Qw (hl:∀ v∈vs,v.length=sz) (spare:List AV) {i:Nat} {cs:List Value} (hv:vs[i]? =some cs) (o:Nat) (ds:List Value) (hd:ds <+:cs.drop o) (off:Nat) (e:off=i*sz+o):∀ (j:Nat) (u:AV),(ds.map AV.val)[j]? =some u->(vs.flatten.map AV.val++spare)[off+j]? =some u:=by
 intro j u hj;obtain⟨h1,h2⟩:=NP hv;obtain⟨t,ht⟩:=hd;have hA:(vs.take i).flatten.length=i*sz:=by rw[vz _ sz (λv hv=>hl v (mU hv)),h2]
 rw[gT] at hj;obtain⟨x,hx,rfl⟩:=Hh.1 hj
 have hx':cs[o+j]? =some x:=by
  rw[<-uD,<-ht,jG (cM.1 hx).1];exact hx
 have hlt:=(cM.1 hx').1
 have zZ:vs.flatten[off+j]? =some x:=by
  conv=>lhs;rw[h1]
  rw[List.flatten_append,wC,tM ae,hA,jG ae,show off+j-i*sz=o+j by omega];exact hx'
 rw[jG (by rw[bJ];exact (cM.1 zZ).1),gT,zZ];rfl
theorem eC.mono {E':World->List Value->α->Prop} (h:eC E w es vs) (hm:∀ cs a,E w cs a->E' w cs a):eC E' w es vs:=by
 induction h with
 | nil=>exact .nil
 | cons h1 _ ih=>exact .cons (hm _ _ h1) ih
end
end
section
open Go.RowKit
attribute [local irreducible] aB VS
theorem ft {w:World} {b o:Nat} {u:Value} (h:w.cell? ⟨b,o,none⟩=some u):∀ j x,[u][j]? =some x->w.cell? ((⟨b,o,none⟩:Addr).add j)=some x:=by
 intro j x hj;cases j with
 | zero=>cases hj;rw[Addr.add_mid,nP];exact h
 | succ j=>simp at hj
theorem Vy (v:Value) (b:Nat) (e:ew) (kk:Nat) (z:Int) (w:World) (hv:xL kk w v e) (hc:w.cell? ⟨b,0,none⟩=some (.int .i64 z)) (hk:kk<=1048576) (hz:tw z):
  Calls Tryz.prog 222 #[v,.pointer (some ⟨b,0,none⟩)] w λo w'=>∃ x,o=.returned x/\aZ w' w.heap.size x (ij e.exp z)/\aD w w':=by
 have RR:=hv;obtain⟨cs,rfl,p,cp,r,d,rfl,hy,hn,hq,h1,h2⟩:=hv;refine ai (C:=bd Tryz.prog w _) (args:=[_,_]) Tryz.func222 aa Tryz.ntmps222 (bF aa) ?_;refine af ?_;refine VO.read aa [.int .i64 z] aa (ft hc) (wV aa ?_);refine VO.cR aa aa (fk Tryz.func223) (λaK bE aX=>Vw _ e kk z aK (RR.k) hk hz) (λaK bE aX w1 s1 p1 n1 c1 t1 y1 m1 d1 q1 aU cQ _ bb1=>wV aa ?_);refine af ?_;refine aC ?_;intro wz kz bz;exact⟨_,aa,(q1.kp kz).mono aX.size,bz⟩
theorem AJ {e:Fx} (h:ek e=false) (z:Int):0<=mK e z/\mK e z<=e.2.1:=by
 obtain⟨h0,h1,h2,h3,_⟩:=kJ h;unfold mK
 split
 ·omega
 ·split <;> omega
theorem Vz (v:Value) (b:Nat) (e:ew) (kk:Nat) (z:Int) (w:World) (hv:xL kk w v e) (hw:ek e.exp=false) (hc:w.cell? ⟨b,0,none⟩=some (.int .i64 z)) (hk:kk<=1048576) (hz:tw z):
  Calls Tryz.prog 224 #[v,.pointer (some ⟨b,0,none⟩)] w λo w'=>∃ x,o=.returned x/\aZ w' w.heap.size x (mL e.exp z)/\aD w w':=by
 have RR:=hv;obtain⟨g1,g2,g3,g4⟩:=oA hw;obtain⟨k1,k2⟩:=AJ hw z;obtain⟨N,hN⟩:∃ N,N=mK e.exp z:=⟨_,aa⟩;have hN2:N<=e.2.1:=by rw[hN];exact k2
 have e1:IntKind.i64.wrap (e.2.1-N)=e.2.1-N:=cO _ ae;have hb:mL e.exp z=if e.1>z then 0 else e.exp.2.2.2*Rat.divInt (e.2.1-N) e.2.1:=by rw[hN];rfl
 obtain⟨Q,hQ⟩:∃ Q,Q=mL e.exp z:=⟨_,aa⟩;rw[<-hQ] at hb ⊢;obtain⟨cs,rfl,p,cp,r,d,rfl,hy,hn,hq,h1,h2⟩:=hv;refine ai (C:=bd Tryz.prog w _) (args:=[_,_]) Tryz.func224 aa Tryz.ntmps224 (bF aa) ?_;refine af ?_;refine VO.read aa [.int .i64 z] aa (ft hc) (wV aa ?_);refine af ?_;by_cases a1:e.1>z
 ·rw[if_pos a1] at hb;subst hb;refine VS.aR aa (aw a1) ?_;refine af ?_;refine VO.cR aa aa (fk mc) (λaK bE aX=>dK 0 aK ae ae) (λaK bE aX w1 s1 p1 n1 c1 t1 y1 m1 d1 q1 aU cQ _ bb1=>wV aa ?_);refine af ?_;refine aC ?_;intro wz kz bz;exact⟨_,aa,(q1.kp kz).mono aX.size,bz⟩
 ·rw[if_neg a1] at hb;subst hb;refine VS.aO aa (az a1) ?_;refine af ?_;refine VO.read aa [.int .i64 z] aa (ft hc) (wV aa ?_);refine VO.cB aa aa (fk Tryz.func226) (λaK bE aX=>Qv _ e kk z aK (RR.k) hw hz) (λaK bE aX w1 aU cQ _ bb1=>wV aa ?_);refine af ?_;rw[<-hN,e1];refine VO.cR aa aa (fk Tryz.func225) (λbf cK bK=>SP _ e kk (e.2.1-N) bf (RR.k) hw hk ae ae) (λbf cK bK w2 s2 p2 n2 c2 t2 y2 m2 d2 q2 bu dW _ bb2=>wV aa ?_);refine af ?_;refine aC ?_;intro wz kz bz;exact⟨_,aa,(q2.kp kz).mono bK.size,bz⟩
def Fy (kk:Nat) (w:World) (g:Nat) (l:List ew):Prop:=∃ u,w.cell? ⟨g,0,none⟩=some u/\bh (oh kk) 6 w u l
theorem Fy.bS {kk:Nat} {w w':World} {g:Nat} {l:List ew} (h:Fy kk w g l) (hb:aD w w'):Fy kk w' g l:=by
 obtain⟨u,h1,h2⟩:=h;exact⟨u,hb.cell h1,h2.bS (fA kk) hb⟩
def EachOk (kk K:Nat) (w:World) (fid:FuncId) (cap:Value) (f:ew->Rat) (l:List ew):Prop:=
 nL Tryz.prog fid/\(∀ e∈l,dy (f e) K)/\∀ (w1:World) (u:Value) (e:ew),aD w w1->e∈l->xL kk w1 u e->Calls Tryz.prog fid #[u,cap] w1 λo w2=>∃ x,o=.returned x/\aZ w2 w1.heap.size x (f e)/\aD w1 w2
theorem NQ (g:Nat) (fid:FuncId) (cap:Value) (f:ew->Rat) (l:List ew) (kk K:Nat) (w:World) (hl:Fy kk w g l) (hf:EachOk kk K w fid cap f l) (hK:bU K l.length<=1048576):
  Calls Tryz.prog 221 #[.pointer (some ⟨g,0,none⟩),.func (.func fid) #[] #[cap]] w λo w'=>∃ x,o=.returned x/\aZ w' w.heap.size x (dY (l.map f))/\dy (dY (l.map f)) (bU K l.length)/\aD w w':=by
 obtain⟨hfn,KV,hfc⟩:=hf;obtain⟨u,hu,xM⟩:=hl;obtain⟨p,c,rfl,eS,gv⟩:=xM.form;obtain⟨N,hN⟩:∃ N,N=l.length:=⟨_,aa⟩;rw[<-hN] at xM hK eS ⊢;rw[<-hN] at hu;have hNm:N<9223372036854775807:=by unfold bU at hK;have:=Hg N (show 0<cL K+1 by omega);omega
 refine ai (C:=bd Tryz.prog w _) (args:=[_,_]) Tryz.func221 aa Tryz.ntmps221 (bF aa) ?_;refine af ?_;refine VO.cR aa aa (fk mc) (λaK bE aX=>dK 0 aK ae ae) (λaK bE aX w1 s1 p1 n1 c1 t1 y1 m1 d1 q1 aU cQ _ bb1=>wV aa ?_);refine af ?_;refine VO.read aa [.slice p N c] aa (ft hu) (wV aa ?_);refine af ?_
 refine VS.loop (J:=λn L M w'=>∃ i s p' n' c' t r m d,i<=N/\n=N-i/\L=[(1,.val (.func (.func fid) #[] #[cap])),(12,.val (.slice p N c)),(13,.val (.int .i64 (N:Int))),(14,.val (.int .i64 (i:Int))),(5,.box 5 0),(4,.box 4 0)]/\
  M=[(4,(27,([.bool false,.slice none 0 0,.bool false,.slice none 0 0]:List Value).map .val)),(5,(27,([.bool s,.slice p' n' c',.bool t,.slice r m d]:List Value).map .val))]/\aZ w' w.heap.size (.agg #[.bool s,.slice p' n' c',.bool t,.slice r m d]) (dY ((l.map f).take i))/\dy (dY ((l.map f).take i)) (bU K i)) N
  ⟨_,_,?_,?_,?_,?_,⟨0,_,_,_,_,_,_,_,_,ae,rfl,rfl,rfl,q1.k.mono aX.size,dy.zero.mono (by unfold bU;omega)⟩⟩ ?_
 ·exact di
 ·exact di
 ·rfl
 ·exact fv
 rintro n L M w' ⟨i,s,p',n',c',t,r,m,d,hi,rfl,rfl,rfl,ho,hz⟩;refine af ?_;by_cases hlt:i<N
 ·obtain⟨e,he⟩:∃ e,l[i]? =some e:=⟨_,bj ae⟩;have WR:(l.map f)[i]? =some (f e):=by rw[gT,he];rfl
  obtain⟨b,off,cs,rfl,hc,hE⟩:=xM.at he;have SQ:=hE;obtain⟨ep,ec,er,ed,rfl,-⟩:=hE;refine VS.aR aa (aw (aJ.2 hlt)) ?_;refine af ?_;refine VO.cond aa eh (wV aa ?_);refine VO.read aa [.int .i64 e.1,.int .i64 e.2.1,.bool e.2.2.1,.slice ep e.2.2.2.1.length ec,.bool e.2.2.2.2.1,.slice er e.2.2.2.2.2.length ed] aa (λj u hj=>by rw[Addr.add_mid,dV];exact hc j u hj) (wV aa ?_);refine af ?_;refine VO.call aa aa hfn (λbf cK bK=>(hfc bf _ e bK (dz he) ⟨_,aa,SQ.kp (Kp.of (U:=UU) bK)⟩).mono ?_);rintro o w2 ⟨r2,rfl,q2,bu⟩;obtain⟨s2,p2,n2,c2,t2,y2,m2,d2,rfl⟩:=q2.form;refine aL bu ?_;intro dW _ bb2;have SR:=KV e (dz he);refine VO.cR aa aa (fk mX) (λcV dS ea=>eJ _ _ (dY ((l.map f).take i)) (f e) (bU K i) (cL K) cV (ho.ki hz) (q2.ki (SR.mono (by unfold cL;omega))) (by have:=jE (k:=K) hi;omega) (by unfold bU at hK;have:=RA (cL K+1) (show 0<N by omega);omega)) (λcV dS ea w3 s3 p3 n3 c3 t3 y3 m3 d3 q3 dH eV _ bb3=>wV aa ?_);refine af ?_;refine VS.back (N-(i+1)) ae ⟨_,_,?_,?_,?_,?_,⟨i+1,_,_,_,_,_,_,_,_,ae,aa,aa,aa,((q3.k).mono ea.size).cast (fM WR).symm,by rw[fM WR,js];exact hz.add (SR.mono (by unfold cL;omega))⟩⟩
  ·refine⟨aa,aa,aa,?_,aa,aa,aj⟩;rw[<-aA (i:=i) ae];rfl
  ·exact di
  ·rfl
  ·exact fv
 ·refine VS.aO aa (az (λe=>hlt (aJ.1 e))) ?_;refine af ?_;refine aC ?_;intro wz kz bz;obtain rfl:i=N:=ae;rw[dM (by rw[bJ];omega)] at ho hz;exact⟨_,aa,ho.kp kz,hz,bz⟩
end
section
open Go.RowKit
attribute [local irreducible] aB VS
theorem oh.sz {kk:Nat} {w:World} {cs:List Value} {e:ew} (h:oh kk w cs e):dy e.exp.2.2.2 (cL kk):=by
 obtain⟨p,c,r,d,-,-,-,h4,h5,h6⟩:=h;exact (h4.in h5 h6).rn
theorem NR {e:Fx} {k:Nat} (h:dy e.2.2.2 k) (z:Int):dy (ij e z) (k+1):=by
 unfold ij
 split
 ·exact dy.zero.mono ae
 ·rename_i hn;cases hw:ek e with
  | true=>exact absurd (.inl hw) hn
  | false=>
    obtain⟨a,b,c,d,_⟩:=kJ hw;exact h.mul (dy.of ae ae)
theorem SS {e:Fx} {k:Nat} (h:dy e.2.2.2 k) (hw:ek e=false) (z:Int):dy (mL e z) (k+1):=by
 obtain⟨a,b,c,d,_⟩:=kJ hw;obtain⟨k1,k2⟩:=AJ hw z;unfold mL
 split
 ·exact dy.zero.mono ae
 ·exact h.mul (dy.of ae ae)
theorem bh.mem {α:Type} {E:World->List Value->α->Prop} {sz:Nat} {w:World} {v:Value} {l:List α} {a:α} (h:bh E sz w v l) (ha:a∈l):∃ cs,E w cs a:=by
 obtain⟨i,hi⟩:=oG ha;obtain⟨p,c,rfl,_⟩:=h.form;obtain⟨b,off,cs,_,_,he⟩:=h.at hi;exact⟨cs,he⟩
theorem rZ {w:World} {b:Nat} {t:TypeId} {u:Value} (h:cN w b t #[u]):w.cell? ⟨b,0,none⟩=some u:=h.cell (by rfl)
def fh (l:List ew) (z:Int):Rat:=dY (l.map λe=>ij e.exp z)
def fN (l:List ew) (z:Int):Rat:=dY (l.map λe=>mL e.exp z)
theorem ZX (g:Nat) (l:List ew) (kk:Nat) (z:Int) (w:World) (hl:Fy kk w g l) (hk:kk<=1024) (hz:tw z) (hn:l.length<=128):
  Calls Tryz.prog 174 #[.pointer (some ⟨g,0,none⟩),.int .i64 z] w λo w'=>∃ x,o=.returned x/\aZ w' w.heap.size x (fh l z)/\dy (fh l z) (bU (cL kk+1) l.length)/\aD w w':=by
 have KV:∀ e∈l,dy (ij e.exp z) (cL kk+1):=λe he=>by
  obtain⟨u,_,h⟩:=hl;obtain⟨cs,h⟩:=h.mem he;exact NR h.sz z
 have hK:bU (cL kk+1) l.length<=1048576:=by
  have:=jE (k:=cL kk+1) hn;have:cL (cL kk+1)<=2000:=by unfold cL;omega
  have h2:bU (cL kk+1) 128<=1048576:=by unfold bU;omega
  omega
 refine ai (C:=bd Tryz.prog w _) (args:=[_,_]) Tryz.func174 aa Tryz.ntmps174 (bF aa) ?_;refine af ?_
 refine VO.eX aa (fk Tryz.func221) (λaK β bE aX ho=>(NQ g _ (.pointer (some ⟨β 3,0,none⟩)) (λe=>ij e.exp z) l kk (cL kk+1) aK (hl.bS aX)
  ⟨fk Tryz.func222,KV,λw1 u e hb he hv=>Vy u (β 3) e kk z w1 hv (hb.cell (rZ (ho.own 3 (.base (ay.2 rfl)) _ _ rfl).cls)) ae hz⟩ hK).mono ?_)
 rintro o w1 ⟨r1,rfl,q1,Cp,aU⟩;obtain⟨s1,p1,n1,c1,t1,y1,m1,d1,rfl⟩:=q1.form;refine aL aU ?_;intro cQ _ bb1;refine aC ?_;intro wz kz bz;exact⟨_,aa,(q1.kp kz).mono aX.size,Cp,bz⟩
theorem Kw (g:Nat) (l:List ew) (kk:Nat) (z:Int) (w:World) (hl:Fy kk w g l) (hw:∀ e∈l,ek e.exp=false) (hk:kk<=1024) (hz:tw z) (hn:l.length<=128):
  Calls Tryz.prog 175 #[.pointer (some ⟨g,0,none⟩),.int .i64 z] w λo w'=>∃ x,o=.returned x/\aZ w' w.heap.size x (fN l z)/\dy (fN l z) (bU (cL kk+1) l.length)/\aD w w':=by
 have KV:∀ e∈l,dy (mL e.exp z) (cL kk+1):=λe he=>by
  obtain⟨u,_,h⟩:=hl;obtain⟨cs,h⟩:=h.mem he;exact SS h.sz (hw e he) z
 have hK:bU (cL kk+1) l.length<=1048576:=by
  have:=jE (k:=cL kk+1) hn;have:cL (cL kk+1)<=2000:=by unfold cL;omega
  have h2:bU (cL kk+1) 128<=1048576:=by unfold bU;omega
  omega
 refine ai (C:=bd Tryz.prog w _) (args:=[_,_]) Tryz.func175 aa Tryz.ntmps175 (bF aa) ?_;refine af ?_
 refine VO.eX aa (fk Tryz.func221) (λaK β bE aX ho=>(NQ g _ (.pointer (some ⟨β 3,0,none⟩)) (λe=>mL e.exp z) l kk (cL kk+1) aK (hl.bS aX)
  ⟨fk Tryz.func224,KV,λw1 u e hb he hv=>Vz u (β 3) e kk z w1 hv (hw e he) (hb.cell (rZ (ho.own 3 (.base (ay.2 rfl)) _ _ rfl).cls)) ae hz⟩ hK).mono ?_)
 rintro o w1 ⟨r1,rfl,q1,Cp,aU⟩;obtain⟨s1,p1,n1,c1,t1,y1,m1,d1,rfl⟩:=q1.form;refine aL aU ?_;intro cQ _ bb1;refine aC ?_;intro wz kz bz;exact⟨_,aa,(q1.kp kz).mono aX.size,Cp,bz⟩
end
section
open Go.RowKit
attribute [local irreducible] aB VS
theorem eI.lims {w:World} {v:Value} {s t:Bool} {xs ys:List Nat} (h:eI w v s xs t ys):eB xs/\eB ys:=by
 obtain⟨_,_,_,_,_,h1,h2⟩:=h;exact⟨h1.lim,h2.lim⟩
theorem sa (q:Rat):dY [q]=q:=by show 0+q=q;grind
end
set_option maxRecDepth 4000
section
open Go.RowKit
attribute [local irreducible] aB VS
theorem Jg {n:Int} (h:0<=n) (h1:n<=1000000):dy (n:Rat) 1:=by
 have:((n:Int):Rat)=Rat.divInt n 1:=by rw[Ba];grind
 rw[this];exact dy.of ae ae
theorem VB {n:Int} (h:1<=n):IX (n:Rat)=0:=by
 unfold IX;rw[if_neg];intro e;have:=Rat.intCast_inj.1 (show ((n:Int):Rat)=((0:Int):Rat) from e);omega
theorem zp (v:Value) (e:ew) (kk:Nat) (w:World) (hv:xL kk w v e) (hk:kk<=134217728) (c:Int) (hc:(if ek e.exp=true then 2 else 0)=c):
  Calls Tryz.prog 285 #[v] w λo w'=>o=.returned (.int .i64 c)/\aD w w':=by
 obtain⟨cs,rfl,p,cp,r,d,rfl,hy,hn,hq,h1,h2⟩:=hv;obtain⟨y,n,s,xs,t,ys⟩:=e;have hew:ek (ew.exp (y,n,s,xs,t,ys))=(decide (y<0) || (decide (y>9999) || (decide (n<1) || (decide (n>40) || !ur s xs t ys)))):=aa;rw[hew] at hc;replace hq:eI w (.agg #[.bool s,.slice p xs.length cp,.bool t,.slice r ys.length d]) s xs t ys:=hq;replace h1:xs.length<=kk:=h1;replace h2:ys.length<=kk:=h2;refine ai (C:=bd Tryz.prog w _) (args:=[_]) Tryz.func285 aa Tryz.ntmps285 (bF aa) ?_;refine af ?_;by_cases a1:y<0
 ·refine VO.fix 6 aa (ak (λb=>AV.val (.bool b)) (aw a1)) ?_;refine af ?_;refine aC ?_;intro wz kz bz;exact⟨by rw[<-hc,aw a1];rfl,bz⟩
 refine VO.fix 6 aa (ak (λb=>AV.val (.bool b)) (az a1)) ?_;refine af ?_;by_cases a2:y>9999
 ·refine VO.fix 11 aa (ak (λb=>AV.val (.bool b)) (aw a2)) ?_;refine af ?_;refine aC ?_;intro wz kz bz;exact⟨by rw[<-hc,aw a2,Bool.true_or,Bool.or_true];rfl,bz⟩
 refine VO.fix 11 aa (ak (λb=>AV.val (.bool b)) (az a2)) ?_;refine af ?_;by_cases a3:n<1
 ·refine VO.fix 16 aa (ak (λb=>AV.val (.bool b)) (aw a3)) ?_;refine af ?_;refine aC ?_;intro wz kz bz;exact⟨by rw[<-hc,aw a3];simp[nJ],bz⟩
 refine VO.fix 16 aa (ak (λb=>AV.val (.bool b)) (az a3)) ?_;refine af ?_;by_cases a4:n>40
 ·refine VO.fix 21 aa (ak (λb=>AV.val (.bool b)) (aw a4)) ?_;refine af ?_;refine aC ?_;intro wz kz bz;exact⟨by rw[<-hc,aw a4];simp[nJ],bz⟩
 refine VO.fix 21 aa (ak (λb=>AV.val (.bool b)) (az a4)) ?_;refine af ?_;refine VO.call aa aa (fk Tryz.func133) (λaK bE aX=>(oe s t xs ys _ aK (hq.k) ae ae).mono ?_);rintro e w1 ⟨rfl,aU⟩;rw[az a1,az a2,az a3,az a4] at hc;cases hr:ur s xs t ys with
 | true=>
   rw[hr] at hc;refine aL aU ?_;intro cQ _ bb1;refine aC ?_;intro wz kz bz;exact⟨by rw[<-hc];rfl,bz⟩
 | false=>
   rw[hr] at hc;refine aL aU ?_;intro cQ _ bb1;refine aC ?_;intro wz kz bz;exact⟨by rw[<-hc];rfl,bz⟩
theorem BV (v:Value) (e:ew) (kk:Nat) (z:Int) (w:World) (hv:xL kk w v e) (hk:kk<=1048576) (hz:tw z):
  Calls Tryz.prog 234 #[v,.int .i64 z] w λo w'=>∃ x,o=.returned x/\aZ w' w.heap.size x (ij e.exp z)/\aD w w':=by
 have RR:=hv;obtain⟨cs,rfl,p,cp,r,d,rfl,hy,hn,hq,h1,h2⟩:=hv;obtain⟨z1,z2⟩:=hz;obtain⟨C,hC⟩:∃ C,C=ij e.exp z:=⟨_,aa⟩;rw[<-hC];unfold ij at hC;refine ai (C:=bd Tryz.prog w _) (args:=[_,_]) Tryz.func234 aa Tryz.ntmps234 (bF aa) ?_;refine af ?_;cases hw:ek e.exp with
 | true=>
   rw[hw,if_pos (.inl rfl)] at hC;subst hC;refine VO.cB aa aa (fk Tryz.func285) (λaK bE aX=>zp _ e kk aK (RR.k) ae 2 (by rw[hw];rfl)) (λaK bE aX w1 aU cQ _ bb1=>wV aa ?_);refine af ?_;refine VO.cR aa aa (fk yf) (λbf cK bK=>iA bf) (λbf cK bK w2 s2 p2 n2 c2 t2 y2 m2 d2 q2 bu dW _ bb2=>wV aa ?_);refine af ?_;refine aC ?_;intro wz kz bz;exact⟨_,aa,(q2.kp kz).mono bK.size,bz⟩
 | false=>
   obtain⟨g1,g2,g3,g4⟩:=oA hw;rw[hw] at hC;refine VO.cB aa aa (fk Tryz.func285) (λaK bE aX=>zp _ e kk aK (RR.k) ae 0 (by rw[hw];rfl)) (λaK bE aX w1 aU cQ _ bb1=>wV aa ?_);refine af ?_;by_cases a1:z<=e.1
   ·rw[if_pos (.inr (.inl a1))] at hC;subst hC;refine VO.fix 16 aa (ak (λb=>AV.val (.bool b)) (aw a1)) ?_;refine af ?_;refine VO.cR aa aa (fk yf) (λbf cK bK=>iA bf) (λbf cK bK w2 s2 p2 n2 c2 t2 y2 m2 d2 q2 bu dW _ bb2=>wV aa ?_);refine af ?_;refine aC ?_;intro wz kz bz;exact⟨_,aa,(q2.kp kz).mono bK.size,bz⟩
   have e1:IntKind.i64.wrap (z-e.1)=z-e.1:=cO _ ae;refine VO.fix 16 aa (ak (λb=>AV.val (.bool b)) (az a1)) ?_;refine af ?_;by_cases a2:z>e.1+e.2.1
   ·rw[if_pos (.inr (.inr a2))] at hC;subst hC;refine VS.aR aa (aw (show IntKind.i64.wrap (z-e.1)>e.2.1 by rw[e1];omega)) ?_;refine af ?_;refine VO.cR aa aa (fk yf) (λbf cK bK=>iA bf) (λbf cK bK w2 s2 p2 n2 c2 t2 y2 m2 d2 q2 bu dW _ bb2=>wV aa ?_);refine af ?_;refine aC ?_;intro wz kz bz;exact⟨_,aa,(q2.kp kz).mono bK.size,bz⟩
   ·rw[if_neg (by rintro (h|h|h);exact Bool.noConfusion h;exact a1 h;exact a2 h)] at hC;subst hC;refine VS.aO aa (az (show ¬ IntKind.i64.wrap (z-e.1)>e.2.1 by rw[e1];omega)) ?_;refine af ?_;refine VO.cR aa aa (fk Tryz.func228) (λbf cK bK=>th e.2.1 bf ae ae) (λbf cK bK w2 s2 p2 n2 c2 t2 y2 m2 d2 q2 bu dW _ bb2=>wV aa ?_);refine af ?_;refine VO.call aa aa (fk Tryz.func286) (λcV dS ea=>(UG _ _ e.exp.2.2.2 (e.2.1:Rat) kk 1 cV ((hq.in h1 h2).k) (q2.ki (Jg ae ae)) ae ae 0 (VB g3)).mono ?_);rintro e w3 ⟨r3,rfl,q3,dH⟩;obtain⟨s3,p3,n3,c3,t3,y3,m3,d3,rfl⟩:=q3.form;refine aL dH ?_;intro eV _ bb3;refine aC ?_;intro wz kz bz;exact⟨_,aa,(((q3.kp kz).mono ea.size).cast (Qu _ _)),bz⟩
end
section
open Go.RowKit
attribute [local irreducible] aB VS
theorem bc {w:World} {b off i sz:Nat} {cs:List Value} (hc:∀ (j:Nat) (u:Value),cs[j]? =some u->w.cell? ⟨b,off+i*sz+j,none⟩=some u) (k:Nat) (ds:List Value) (hd:ds <+:cs.drop k):∀ (j:Nat) (u:Value),ds[j]? =some u->w.cell? ((⟨b,off+((i:Nat):Int).toNat*sz+k,none⟩:Addr).add j)=some u:=by
 intro j u hj;obtain⟨t,ht⟩:=hd;rw[Addr.add_mid,dV,xY];refine hc (k+j) u ?_;rw[<-uD,<-ht,jG (cM.1 hj).1];exact hj
theorem stepK {kk n:Nat} (hk:kk<=1024) (hn:n<=128):bU (cL kk+1) n<=1048576:=by
 have:=jE (k:=cL kk+1) hn;have:cL (cL kk+1)<=2000:=by unfold cL;omega
 have h2:bU (cL kk+1) 128<=1048576:=by unfold bU;omega
 omega
theorem Qx (v:Value) (l:List ew) (kk:Nat) (z:Int) (w:World) (hv:bh (oh kk) 6 w v l) (hk:kk<=1024) (hz:tw z) (hn:l.length<=128):
  Calls Tryz.prog 178 #[v,.int .i64 z] w λo w'=>∃ x,o=.returned x/\aZ w' w.heap.size x (fh l z)/\dy (fh l z) (bU (cL kk+1) l.length)/\aD w w':=by
 have KV:∀ e∈l,dy (ij e.exp z) (cL kk+1):=λe he=>by
  obtain⟨cs,h⟩:=hv.mem he;exact NR h.sz z
 obtain⟨K,hKd⟩:∃ K,K=cL kk+1:=⟨_,aa⟩;have hK:bU K l.length<=1048576:=by rw[hKd];exact stepK hk hn
 have hK2:cL K<=2000:=by rw[hKd];unfold cL;omega
 rw[<-hKd] at KV ⊢;obtain⟨p,c,rfl,eS,gv⟩:=hv.form;obtain⟨N,hN⟩:∃ N,N=l.length:=⟨_,aa⟩;rw[<-hN] at hv eS hn hK ⊢;obtain⟨f,hf⟩:∃ f:ew->Rat,f=λe=>ij e.exp z:=⟨_,aa⟩;have hed:fh l z=dY (l.map f):=by rw[hf];rfl
 rw[hed];refine ai (C:=bd Tryz.prog w _) (args:=[_,_]) Tryz.func178 aa Tryz.ntmps178 (bF aa) ?_;refine af ?_;refine VO.cR aa aa (fk yf) (λaK bE aX=>iA aK) (λaK bE aX w1 s1 p1 n1 c1 t1 y1 m1 d1 q1 aU cQ _ bb1=>wV aa ?_);refine af ?_
 refine VS.loop (J:=λn L M w'=>∃ i s p' n' c' t r m d,i<=N/\n=N-i/\L=[(0,.val (.slice p N c)),(1,.val (.int .i64 z)),(6,.val (.int .i64 (i:Int))),(5,.box 5 0),(4,.box 4 0)]/\
  M=[(4,(38,([.bool false,.slice none 0 0,.bool false,.slice none 0 0]:List Value).map .val)),(5,(38,([.bool s,.slice p' n' c',.bool t,.slice r m d]:List Value).map .val))]/\aZ w' w.heap.size (.agg #[.bool s,.slice p' n' c',.bool t,.slice r m d]) (dY ((l.map f).take i))/\dy (dY ((l.map f).take i)) (bU K i)) N
  ⟨_,_,?_,?_,?_,?_,⟨0,_,_,_,_,_,_,_,_,ae,rfl,rfl,rfl,q1.k.mono aX.size,dy.zero.mono (by unfold bU;omega)⟩⟩ ?_
 ·exact di
 ·exact di
 ·rfl
 ·exact fv
 rintro n L M w' ⟨i,s,p',n',c',t,r,m,d,hi,rfl,rfl,rfl,ho,Pe⟩;refine af ?_;by_cases hlt:i<N
 ·obtain⟨e,he⟩:∃ e,l[i]? =some e:=⟨_,bj ae⟩;have WR:(l.map f)[i]? =some (f e):=by rw[gT,he];rfl
  obtain⟨b,off,cs,rfl,hc,hE⟩:=hv.at he;have SQ:=hE;obtain⟨ep,ec,er,ed,rfl,-⟩:=hE;refine VS.aR aa (aw (aJ.2 hlt)) ?_;refine af ?_;refine VO.cond aa eh (wV aa ?_);refine VO.read aa [.int .i64 e.1,.int .i64 e.2.1,.bool e.2.2.1,.slice ep e.2.2.2.1.length ec,.bool e.2.2.2.2.1,.slice er e.2.2.2.2.2.length ed] aa (λj u hj=>by rw[Addr.add_mid,dV];exact hc j u hj) (wV aa ?_);have SR:=KV e (dz he);refine VO.cR aa aa (fk Tryz.func234) (λbf cK bK=>BV _ e kk z bf ⟨_,aa,SQ.kp (Kp.of (U:=UU) bK)⟩ ae hz) (λbf cK bK w2 s2 p2 n2 c2 t2 y2 m2 d2 q2 bu dW _ bb2=>wV aa ?_);refine af ?_;replace q2:aZ w2 bf.heap.size (.agg #[.bool s2,.slice p2 n2 c2,.bool t2,.slice y2 m2 d2]) (f e):=by rw[hf];exact q2
  replace SR:dy (f e) K:=by rw[hf];exact SR
  refine VO.cR aa aa (fk qe) (λcV dS ea=>fj _ _ (dY ((l.map f).take i)) (f e) (bU K i) (cL K) cV (ho.ki Pe) (q2.ki (SR.mono (by unfold cL;omega))) (by have:=jE (k:=K) hi;omega) ae) (λcV dS ea w3 s3 p3 n3 c3 t3 y3 m3 d3 q3 dH eV _ bb3=>wV aa ?_);refine af ?_;refine VS.back (N-(i+1)) ae ⟨_,_,?_,?_,?_,?_,⟨i+1,_,_,_,_,_,_,_,_,ae,aa,aa,aa,((q3.k).mono ea.size).cast (fM WR).symm,by rw[fM WR,js];exact Pe.add (SR.mono (by unfold cL;omega))⟩⟩
  ·refine⟨aa,aa,?_,aa,aa,aj⟩;rw[<-aA (i:=i) ae];rfl
  ·exact di
  ·rfl
  ·exact fv
 ·refine VS.aO aa (az (λe=>hlt (aJ.1 e))) ?_;refine af ?_;refine aC ?_;intro wz kz bz;obtain rfl:i=N:=ae;rw[dM (by rw[bJ];omega)] at ho Pe;exact⟨_,aa,ho.kp kz,Pe,bz⟩
theorem ZY {e:Fx} (h:ek e=false) {y:Int} (h1:e.1<y) (h2:y<=e.1+e.2.1):ij e y=e.2.2.2*Rat.divInt 1 e.2.1:=by
 unfold ij;rw[h,if_neg (by simp;omega)]
theorem VC (q:Rat) (n j:Int):q*Rat.divInt (n-j) n-q*Rat.divInt 1 n=q*Rat.divInt (n-(j+1)) n:=by
 rw[show n-(j+1)=(n-j)-1 by omega,SN (a:=n-j)];grind
theorem Qy (q:Rat) (n:Int) (j:Nat):q*Rat.divInt (n-((j+1:Nat):Int)) n=q*Rat.divInt (n-(j:Int)) n-q*Rat.divInt 1 n:=by
 rw[VC,show ((j+1:Nat):Int)=(j:Int)+1 by omega]
set_option maxRecDepth 4000 in
theorem Fz (v:Value) (l:List ew) (kk:Nat) (z:Int) (w:World) (hv:bh (oh kk) 6 w v l) (hw:∀ e∈l,ek e.exp=false) (hk:kk<=1024) (hz:tw z) (hn:l.length<=128):
  Calls Tryz.prog 180 #[v,.int .i64 z] w λo w'=>∃ x,o=.returned x/\aZ w' w.heap.size x (fN l z)/\dy (fN l z) (bU (cL kk+1) l.length)/\aD w w':=by
 have KV:∀ e∈l,dy (mL e.exp z) (cL kk+1):=λe he=>by
  obtain⟨cs,h⟩:=hv.mem he;exact SS h.sz (hw e he) z
 obtain⟨K,hKd⟩:∃ K,K=cL kk+1:=⟨_,aa⟩;have hK:bU K l.length<=1048576:=by rw[hKd];exact stepK hk hn
 have hK2:cL K<=2000:=by rw[hKd];unfold cL;omega
 have hK3:K<=2000:=by rw[hKd];unfold cL;omega
 have hK4:cL kk+1=K:=hKd.symm;rw[<-hKd] at KV ⊢;obtain⟨p,c,rfl,eS,gv⟩:=hv.form;obtain⟨N,hN⟩:∃ N,N=l.length:=⟨_,aa⟩;rw[<-hN] at hv eS hn hK ⊢;obtain⟨f,hf⟩:∃ f:ew->Rat,f=λe=>mL e.exp z:=⟨_,aa⟩;have hed:fN l z=dY (l.map f):=by rw[hf];rfl
 have hfe':∀ e,f e=mL e.exp z:=λe=>by rw[hf]
 rw[hed];obtain⟨z1,z2⟩:=hz;refine ai (C:=bd Tryz.prog w _) (args:=[_,_]) Tryz.func180 aa Tryz.ntmps180 (bF aa) ?_;refine af ?_;refine VO.cR aa aa (fk yf) (λaK bE aX=>iA aK) (λaK bE aX w1 s1 p1 n1 c1 t1 y1 m1 d1 q1 aU cQ _ bb1=>wV aa ?_);refine af ?_
 refine VS.loop (J:=λn L M w'=>∃ i s p' n' c' t r m d,i<=N/\n=N-i/\L=[(0,.val (.slice p N c)),(1,.val (.int .i64 z)),(6,.val (.int .i64 (i:Int))),(5,.box 5 0),(4,.box 4 0)]/\
  M=[(4,(38,([.bool false,.slice none 0 0,.bool false,.slice none 0 0]:List Value).map .val)),(5,(38,([.bool s,.slice p' n' c',.bool t,.slice r m d]:List Value).map .val))]/\aZ w' w.heap.size (.agg #[.bool s,.slice p' n' c',.bool t,.slice r m d]) (dY ((l.map f).take i))/\dy (dY ((l.map f).take i)) (bU K i)/\Kp UU w w') N
  ⟨_,_,?_,?_,?_,?_,⟨0,_,_,_,_,_,_,_,_,ae,rfl,rfl,rfl,q1.k.mono aX.size,dy.zero.mono (by unfold bU;omega),bm⟩⟩ ?_
 ·exact di
 ·exact di
 ·rfl
 ·exact fv
 rintro n L M w' ⟨i,s,p',n',c',t,r,m,d,hi,rfl,rfl,rfl,ho,Pe,hkw⟩;refine af ?_;by_cases hlt:i<N
 ·obtain⟨e,he⟩:∃ e,l[i]? =some e:=⟨_,bj ae⟩;have WR:(l.map f)[i]? =some (f e):=by rw[gT,he];rfl
  have hwe:=hw e (dz he);have hrt:=(kJ hwe).2.2.2.2;obtain⟨g1,g2,g3,g4⟩:=oA hwe;obtain⟨b,off,cs,rfl,hc,hE⟩:=hv.at he;have SQ:=hE;obtain⟨ep,ec,er,ed,rfl,Gs,hi2,gN,EK,IU⟩:=hE;have hqz:=SQ.sz;have SR:=KV e (dz he);rw[<-hfe'] at SR;refine VS.aR aa (aw (aJ.2 hlt)) ?_;refine af ?_;refine VO.cond aa eh (wV aa ?_);refine VO.read aa [.int .i64 e.1] aa (bc hc 0 _ ⟨_,aa⟩) (wV aa ?_);refine af ?_;by_cases a1:e.1>z
  ·have hf0:f e=0:=by rw[hfe'];exact if_pos a1
   refine VS.aR aa (aw a1) ?_;refine af ?_;refine VS.back (N-(i+1)) ae ⟨_,_,?_,?_,?_,?_,⟨i+1,_,_,_,_,_,_,_,_,ae,aa,aa,aa,ho.cast (by rw[fM WR,hf0,mW]),by rw[fM WR,hf0,mW,js];exact Pe.mono ae,hkw⟩⟩
   ·refine⟨aa,aa,?_,aa,aa,aj⟩;rw[<-aA (i:=i) ae];rfl
   ·exact di
   ·rfl
   ·exact fv
  ·obtain⟨k1,k2⟩:=AJ hwe z;obtain⟨T,hT⟩:∃ T:Nat,(T:Int)=mK e.exp z:=⟨(mK e.exp z).toNat,ae⟩;have hT2:(T:Int)<=e.2.1:=by rw[hT];exact k2
   have hT3:(T:Int)=if z<=e.1 then 0 else if z>=e.1+e.2.1 then e.2.1 else z-e.1:=hT
   have hfv:f e=e.exp.2.2.2*Rat.divInt (e.2.1-(T:Int)) e.2.1:=by rw[hfe'];show (if e.1>z then (0:Rat) else e.exp.2.2.2*Rat.divInt (e.2.1-mK e.exp z) e.2.1)=_;rw[if_neg a1,<-hT]
   have e0:IntKind.i64.wrap (e.1+1)=e.1+1+((0:Nat):Int):=by rw[cO _ ae];omega
   have hlz:∀ j:Nat,(j:Int)<=e.2.1->dy (e.exp.2.2.2*Rat.divInt (e.2.1-(j:Int)) e.2.1) K:=λj hj=>by rw[<-hK4];exact hqz.mul (dy.of ae ae)
   refine VS.aO aa (az a1) ?_;refine af ?_;refine VO.cond aa eh (wV aa ?_);refine VO.read aa [.bool e.2.2.1,.slice ep e.2.2.2.1.length ec,.bool e.2.2.2.2.1,.slice er e.2.2.2.2.2.length ed] aa (bc hc 2 _ ⟨_,aa⟩) (wV aa ?_);refine af ?_;refine VO.cond aa eh (wV aa ?_);refine VO.read aa [.int .i64 e.1] aa (bc hc 0 _ ⟨_,aa⟩) (wV aa ?_);refine af ?_;rw[e0]
   refine VS.loop (J:=λmm L M w2=>∃ (j:Nat) (s4:Bool) (p4:Option Addr) (n4 c4:Nat) (t4:Bool) (r4:Option Addr) (m4 d4:Nat),j<=T/\mm=T-j/\L=[(0,.val (.slice (some ⟨b,off,none⟩) N c)),(1,.val (.int .i64 z)),(6,.val (.int .i64 (i:Int))),(8,.val (.int .i64 (e.1+1+(j:Int)))),(7,.box 7 0),(5,.box 5 0),(4,.box 4 0)]/\
    M=[(4,(38,([.bool false,.slice none 0 0,.bool false,.slice none 0 0]:List Value).map .val)),(5,(38,([.bool s,.slice p' n' c',.bool t,.slice r m d]:List Value).map .val)),(7,(38,([.bool s4,.slice p4 n4 c4,.bool t4,.slice r4 m4 d4]:List Value).map .val))]/\
    Kp UU w' w2/\bq w2 (.agg #[.bool s4,.slice p4 n4 c4,.bool t4,.slice r4 m4 d4]) (e.exp.2.2.2*Rat.divInt (e.2.1-(j:Int)) e.2.1)) T
    ⟨_,_,?_,?_,?_,?_,⟨0,e.2.2.1,ep,e.2.2.2.1.length,ec,e.2.2.2.2.1,er,e.2.2.2.2.2.length,ed,ae,rfl,rfl,rfl,?_,?_⟩⟩ ?_
   ·exact di
   ·exact di
   ·rfl
   ·exact fv
   ·exact bm
   ·rw[show e.2.1-((0:Nat):Int)=e.2.1 by omega,Jf ae,Rat.mul_one];exact (rT gN hrt).kp hkw
   rintro mm L M w2 ⟨j,s4,p4,n4,c4,t4,r4,m4,d4,hj,rfl,rfl,rfl,Az,hq4⟩;refine af ?_;have e2:IntKind.i64.wrap (e.1+e.2.1)=e.1+e.2.1:=cO _ ae;by_cases a2:e.1+1+(j:Int)<=z
   ·refine VO.fix 37 aa (ak (λb=>AV.val (.bool b)) (aw a2)) ?_;refine af ?_;refine VO.cond aa eh ?_;refine wV aa ?_;refine af ?_;refine VO.read aa [.int .i64 e.1] aa (bc hc 0 _ ⟨_,aa⟩) (wV aa ?_);refine af ?_;refine VO.cond aa eh ?_;refine wV aa ?_;refine af ?_;refine VO.read aa [.int .i64 e.2.1] aa (bc hc 1 _ ⟨_,aa⟩) (wV aa ?_);refine af ?_;by_cases a3:e.1+1+(j:Int)<=e.1+e.2.1
    ·have hjT:j<T:=by split at hT3 <;> (try split at hT3) <;> omega
     refine VS.aR aa (aw (by rw[e2];exact a3)) ?_;refine af ?_;refine VO.cond aa eh (wV aa ?_);refine VO.read aa [.int .i64 e.1,.int .i64 e.2.1,.bool e.2.2.1,.slice ep e.2.2.2.1.length ec,.bool e.2.2.2.2.1,.slice er e.2.2.2.2.2.length ed] aa (λj u hj=>by rw[Addr.add_mid,dV];exact hc j u hj) (wV aa ?_);refine VO.cR aa aa (fk Tryz.func234) (λbf cK bK=>BV _ e kk (e.1+1+(j:Int)) bf ⟨_,aa,SQ.kp (Kp.of (U:=UU) bK)⟩ ae ⟨ae,ae⟩) (λbf cK bK w2 s2 p2 n2 c2 t2 y2 m2 d2 q2 bu dW _ bb2=>wV aa ?_);refine af ?_;replace q2:=q2.cast (ZY hwe (show e.1<e.1+1+(j:Int) by omega) a3);refine VO.cR aa aa (fk Bl) (λcV dS ea=>ko _ _ (e.exp.2.2.2*Rat.divInt (e.2.1-(j:Int)) e.2.1) (e.exp.2.2.2*Rat.divInt 1 e.2.1) K K cV (hq4.ki (hlz j ae)) (q2.ki (by rw[<-hK4];exact hqz.mul (dy.of ae (show e.2.1.natAbs<4294967296 by omega)))) ae ae) (λcV dS ea w3 s3 p3 n3 c3 t3 y3 m3 d3 q3 dH eV _ bb3=>wV aa ?_);refine af ?_;refine VS.back (T-(j+1)) ae ⟨_,_,?_,?_,?_,?_,⟨j+1,_,_,_,_,_,_,_,_,ae,aa,aa,aa,bm,(q3.kr).cast (Qy _ _ _)⟩⟩
     ·refine⟨aa,aa,aa,?_,aa,aa,aa,aj⟩;show some (AV.val (.int .i64 (IntKind.i64.wrap (e.1+1+(j:Int)+1))))=_;rw[cO _ ae,show e.1+1+(j:Int)+1=e.1+1+((j+1:Nat):Int) by omega]
     ·exact di
     ·rfl
     ·exact fv
    ·refine VS.aO aa (az (by rw[e2];exact a3)) ?_;obtain rfl:j=T:=by split at hT3 <;> (try split at hT3) <;> omega
     refine af ?_;refine VO.cR aa aa (fk qe) (λey eU fc=>fj _ _ (dY ((l.map f).take i)) (f e) (bU K i) (cL K) ey (ho.ki Pe) ((hq4.cast hfv).ki (SR.mono (by unfold cL;omega))) (by have:=jE (k:=K) hi;omega) ae) (λey eU fc w4 s6 p6 n6 c6 t6 y6 m6 d6 q6 gj jc _ mw=>wV aa ?_);refine af ?_;refine VS.back (N-(i+1)) ae ⟨_,_,?_,?_,?_,?_,⟨i+1,_,_,_,_,_,_,_,_,ae,aa,aa,aa,((q6.k).mono fc.size).cast (fM WR).symm,by rw[fM WR,js];exact Pe.add (SR.mono (by unfold cL;omega)),bm⟩⟩
     ·refine⟨aa,aa,?_,aa,aa,aj⟩;rw[<-aA (i:=i) ae];rfl
     ·exact di
     ·rfl
     ·exact fv
   ·refine VO.fix 37 aa (ak (λb=>AV.val (.bool b)) (az a2)) ?_;obtain rfl:j=T:=by split at hT3 <;> (try split at hT3) <;> omega
    refine af ?_;refine VO.cR aa aa (fk qe) (λey eU fc=>fj _ _ (dY ((l.map f).take i)) (f e) (bU K i) (cL K) ey (ho.ki Pe) ((hq4.cast hfv).ki (SR.mono (by unfold cL;omega))) (by have:=jE (k:=K) hi;omega) ae) (λey eU fc w4 s6 p6 n6 c6 t6 y6 m6 d6 q6 gj jc _ mw=>wV aa ?_);refine af ?_;refine VS.back (N-(i+1)) ae ⟨_,_,?_,?_,?_,?_,⟨i+1,_,_,_,_,_,_,_,_,ae,aa,aa,aa,((q6.k).mono fc.size).cast (fM WR).symm,by rw[fM WR,js];exact Pe.add (SR.mono (by unfold cL;omega)),bm⟩⟩
    ·refine⟨aa,aa,?_,aa,aa,aj⟩;rw[<-aA (i:=i) ae];rfl
    ·exact di
    ·rfl
    ·exact fv
 ·refine VS.aO aa (az (λe=>hlt (aJ.1 e))) ?_;refine af ?_;refine aC ?_;intro wz kz bz;obtain rfl:i=N:=ae;rw[dM (by rw[bJ];omega)] at ho Pe;exact⟨_,aa,ho.kp kz,Pe,bz⟩
end
section
open Go.RowKit
attribute [local irreducible] aB VS
def enz (e:ew):Bool:=decide (e.exp.2.2.2≠0)
def gQ (l:List ew):List ew:=l.filter enz
end
section
open Go.RowKit
attribute [local irreducible] aB VS
end
section
open Go.RowKit
attribute [local irreducible] aB VS
end
section
open Go.RowKit
def Hp.VD:Nat->List (TypeId×List AV)->Hp
 | _,[]=>λ_=>none
 | i,c::r=>λn=>bif Nat.beq n i then some c else Hp.VD (i+1) r n
theorem Hp.tz:∀ (l:List (TypeId×List AV)) (i n:Nat),Hp.VD i l n=if i<=n then l[n-i]? else none
 | [],i,n=>by unfold Hp.VD;simp
 | c::r,i,n=>by
   unfold Hp.VD;rw[Hp.tz r (i+1) n];by_cases h:n=i
   ·subst h;simp
   ·have hb:Nat.beq n i=false:=by rw[<-wE,Nat.beq_eq];exact h
    rw[hb,cond_false];by_cases h1:i<=n
    ·rw[if_pos h1,if_pos ae,show n-i=(n-(i+1))+1 by omega];rfl
    ·rw[if_neg h1,if_neg ae]
def adB (N:Nat) (ad:List Nat):Nat->Nat:=λi=>ad.getD (i-2*N) 0
structure jW (K:KC) (N:Nat) (ad:List Nat) (l:List (TypeId×List AV)) (w:World):Prop where
 len:ad.length=l.length
 nodup:ad.Nodup
 cls:∀ (j:Nat) (g:Nat) (c:TypeId×List AV),ad[j]? =some g->l[j]? =some c->cN w g c.1 (c.2.map (AV.leaf (adB N ad))).toArray
 ok:∀ c∈l,K.fz c.1=false/\c.2.all bO=true
 ids:∀ c∈l,∀ k∈bM c.2,2*N<=k/\k<2*N+l.length
variable {K:KC} {l:List (TypeId×List AV)} {N:Nat} {w:World}
theorem jW.ad {ad:List Nat} (h:jW K N ad l w):iR K ad w:=λg hg=>by
 obtain⟨j,hj⟩:=List.mem_iff_getElem?.1 hg;have hlt:=(cM.1 hj).1;obtain⟨c,hc⟩:∃ c,l[j]? =some c:=⟨_,bj (by rw[<-h.len];exact hlt)⟩;obtain⟨h1,h2⟩:=h.ok c (dz hc);exact⟨c.1,_,h.cls j g c hj hc,h1,gw h2⟩
theorem BW (P:Program) (w:World) (N:Nat) (K:KC) (SU:TypeId->Bool) (ti:TypeId->Option TI) (keep:∀ b,b<w.heap.size->K.S b) {ad:List Nat} {us:List Value} {f:FuncId} {fn:Func} {c:Code} {R:Ending->World->Prop} (hf:P.funcs[f]? =some fn) (hb:fn.body=some c) (hN:fn.ntmps=N) (ha:us.length+1<=N)
  (hl:jW K N ad l w) (h0:0<l.length)
  (h:VS (wk P w N K SU ti keep ad hl.nodup hl.ad) (bodyPost P fn R) [.code c] (Fr.Uo 0 (.box (2*N) 0::us.map .val)) (Hp.VD (2*N) l) w):Calls P f (Value.pointer (some ⟨ad.getD 0 0,0,none⟩)::us).toArray w R:=by
 have KX:∀ i c,Hp.VD (2*N) l i=some c->2*N<=i/\l[i-2*N]? =some c:=λi c hi=>by
  rw[Hp.tz] at hi
  split at hi
  ·exact⟨by assumption,hi⟩
  ·cases hi
 have hsome:∀ i,Hp.VD (2*N) l i≠none->2*N<=i/\i-2*N<l.length:=λi hi=>by
  cases hh:Hp.VD (2*N) l i with
  | none=>exact absurd hh hi
  | some c=>
    obtain⟨h1,h2⟩:=KX i c hh;exact⟨h1,(cM.1 h2).1⟩
 have hval:∀ k,k<ad.length->ad[k]? =some (ad.getD k 0):=λk hk=>by simp[List.getD_eq_getElem?_getD,hk]
 have:=BK (C:=wk P w N K SU ti keep ad hl.nodup hl.ad) (R:=R) (args:=.box (2*N) 0::us.map .val) (β:=adB N ad) (H:=Hp.VD (2*N) l) hf hb hN (by simpa using ha) (λi t cs hi=> ?_) (λi j hi hj e=> ?_) ⟨λi t cs hi=> ?_,λi t cs hi=> ?_,λi hi=> ?_⟩ (λv hv i hi=> ?_) h
 ·have e:(AV.box (2*N) 0::us.map AV.val).map (AV.bH (adB N ad))=Value.pointer (some ⟨ad.getD 0 0,0,none⟩)::us:=by
   rw[kX,iV];show Value.pointer (some ⟨ad.getD (2*N-2*N) 0,0,none⟩)::us=_;rw[oJ]
  rw[e] at this;exact this
 ·obtain⟨h1,h2⟩:=KX i _ hi;have hlt:=(cM.1 h2).1;obtain⟨g1,g2⟩:=hl.ok _ (dz h2);have hv:=hval (i-2*N) (by rw[hl.len];exact hlt);refine⟨?_,g1,hl.cls _ _ _ hv h2,g2⟩;show jz N ad w i (adB N ad i);unfold jz;rw[if_pos h1];exact hv
 ·obtain⟨h1,h2⟩:=hsome i hi;obtain⟨h3,h4⟩:=hsome j hj;have e1:=hval (i-2*N) (by rw[hl.len];exact h2);have e2:=hval (j-2*N) (by rw[hl.len];exact h4);have e':ad.getD (i-2*N) 0=ad.getD (j-2*N) 0:=e;rw[<-e'] at e2;have:=(List.getElem?_inj (by rw[hl.len];exact h2) hl.nodup).1 (e1.trans e2.symm);omega
 ·obtain⟨h1,h2⟩:=KX i _ hi;exact hl.ok _ (dz h2)
 ·obtain⟨h1,h2⟩:=KX i _ hi;intro j hj;obtain⟨h3,h4⟩:=hl.ids _ (dz h2) j hj;rw[Hp.tz,if_pos h3,bj ae];simp
 ·have xu:2*N+ad.length<=i:=hi;rw[Hp.tz]
  split
  ·exact ru (by rw[<-hl.len];omega)
  ·rfl
 ·rcases eD.1 hv with rfl|hv
  ·have:i=2*N:=by simpa [AV.ids] using hi
   rw[this,Hp.tz,if_pos (bl _),oJ,bj h0];simp
  ·obtain⟨u,_,rfl⟩:=eG.1 hv;cases hi
theorem zt {P:Program} {w':World} {SU:TypeId->Bool} {ti:TypeId->Option TI} {keep:∀ b,b<w.heap.size->K.S b} {ad:List Nat} {hd:ad.Nodup} {ha:iR K ad w} {β:Nat->Nat} {i:Nat} {t:TypeId} {cs:List AV} (h:nX (wk P w N K SU ti keep ad hd ha) β w' i t cs) (j g:Nat) (hi:i=2*N+j) (hj:ad[j]? =some g):β i=g/\cN w' g t (cs.map (AV.leaf β)).toArray:=by
 have h1:jz N ad w i (β i):=h.new;unfold jz at h1;rw[if_pos ae,hi,Rz,hj] at h1;have h2:g=β i:=by rw[hi];simpa using h1
 exact⟨h2.symm,h2▸h.cls⟩
end
set_option maxRecDepth 4000
section
open Go.RowKit
attribute [local irreducible] aB VS
abbrev KP:KC:=⟨UU,λ_=>True,λt=> !(Nat.beq t 336 || (Nat.beq t 338 || Nat.beq t 27))⟩
abbrev ZZ (P:Program) (w:World) (N:Nat) (ad:List Nat) (hd:ad.Nodup) (ha:iR KP ad w):Cx:=wk P w N KP (λt=>Nat.beq t 23) table (λ_ _=>trivial) ad hd ha
theorem ra (w:World) (N:Nat) {ad:List Nat} {hd:ad.Nodup} {ha:iR KP ad w}:(ZZ Tryz.prog w N ad hd ha).Ok:=fy
theorem VF (w:World) (N:Nat) {ad:List Nat} {hd:ad.Nodup} {ha:iR KP ad w}:(ZZ Tryz.prog w N ad hd ha).P.follows .mixedOrders=true:=by show Tryz.prog.follows .mixedOrders=true;kernel_rfl
section
variable {C:Cx} {m:Option (List FuncId)} {full:Array Oper} {K:Fr->Hp->World->Prop} {F F':Fr} {H H':Hp} {w w1:World} {N:Nat} {o:Oper} {r l l':List Oper} {Q:Exit->Act->World->Prop} {k k':List It} {v:AV} {u:Option (Nat×(TypeId×List AV))} {id:Nat} {ops:Array Oper}
theorem cxP_r {ad:List Nat} {hd:ad.Nodup} {ha:iR KP ad w1} (e:jJ (ZZ Tryz.prog w1 N ad hd ha) ops 80 ops.toList F H=(l',F',H')) (h:aB (ZZ Tryz.prog w1 N ad hd ha) none ops l' (VS (ZZ Tryz.prog w1 N ad hd ha) Q k) F' H' w):VS (ZZ Tryz.prog w1 N ad hd ha) Q (.code (.region id ops false)::k) F H w:=VS.region (ra _ _) (VO.run 80 e h)
theorem cxP_d {ad:List Nat} {hd:ad.Nodup} {ha:iR KP ad w1} (e:jJ (ZZ Tryz.prog w1 N ad hd ha) ops 80 ops.toList F H=(l',F',H')) (h:aB (ZZ Tryz.prog w1 N ad hd ha) (some []) ops l' (VS (ZZ Tryz.prog w1 N ad hd ha) Q k) F' H' w) (np:lI (ZZ Tryz.prog w1 N ad hd ha).SU [] ops=true:=by kernel_rfl):VS (ZZ Tryz.prog w1 N ad hd ha) Q (.code (.region id ops true)::k) F H w:=VS.draw (ra _ _) (VF _ _) [] np (VO.run 80 e h)
end
structure LedR (kk:Nat) (w:World) (g r n c:Nat) (vs:List (List Value)) (spare:List Value) (l:List ew):Prop where
 len:n=l.length
 ne:g≠r
 led:cN w g 336 #[.slice (some ⟨r,0,none⟩) n c]
 row:cN w r 338 (vs.flatten++spare).toArray
 el:eC (oh kk) w l vs
 ok:spare.all cJ=true
 le:n<=c
 cm:c<=9223372036854775807
 fl:(vs.flatten++spare).length=c*6
def LedAt (kk:Nat) (w:World) (B g:Nat) (l:List ew):Prop:=
 (l=[]/\cN w g 336 #[.slice none 0 0])\/∃ r n c vs spare,B<=r/\LedR kk w g r n c vs spare l
theorem tNew_any (w:World):Calls Tryz.prog 171 #[] w λo w'=>∃ g,o=.returned (.pointer (some ⟨g,0,none⟩))/\w.heap.size<=g/\cN w' g 336 #[.slice none 0 0]/\aD w w':=by
 refine ai (C:=bd Tryz.prog w _) (args:=[]) Tryz.func171 aa Tryz.ntmps171 (bF aa) ?_;refine af ?_;refine VS.lJ (cS _ _) aa (λwz β kz bz en=> ?_);exact⟨_,aa,(en.own 2 _ _ aa).new,(en.own 2 _ _ aa).cls,bz⟩
end
section
open Go.RowKit
attribute [local irreducible] aB VS
def lQ (l:List ew) (e:ew):List ew:=if ek e.exp=true then l else if e.exp.2.2.2=0 then l else l++[e]
def Left (w:World) (r:Nat):Prop:=∃ (t:TypeId) (cs:List Value),cN w r t cs.toArray/\KP.fz t=false/\cs.all cJ=true
theorem mh {P Q:Prop} (h:Q) (i:Q->P:=by intro h;(repeat first|refine wN ?_|refine wP rfl ?_|refine cxP_r rfl ?_|refine cxP_d rfl ?_|refine wO rfl rfl ?_);exact h):P:=i h
theorem cTcxP {P Q X:Prop} (hb:X) (h:Q) (i:X->Q->P:=by intro hb h;refine⟨_,rfl,hb,λa b c=>wV rfl ?_⟩;refine mh ?_;revert a b c;exact h):P:=i hb h
set_option maxRecDepth 4000 in
theorem tPut_row (g r n c:Nat) (vs:List (List Value)) (spare:List Value) (l:List ew) (v:Value) (y m:Int) (s:Bool) (xs:List Nat) (t:Bool) (ys:List Nat) (kk:Nat) (w:World)
  (hL:LedR kk w g r n c vs spare l) (hv:eI w v s xs t ys) (hy:tw y) (hm:tw m) (EK:xs.length<=kk) (IU:ys.length<=kk) (hk:kk<=1024) (hn64:n<=1000):
  Calls Tryz.prog 172 #[.pointer (some ⟨g,0,none⟩),.int .i64 y,.int .i64 m,v] w λo w'=>o=.returned (.int .i64 (if ek (ew.exp (y,m,s,xs,t,ys))=true then 2 else 0))/\rj [g,r] w w'/\Left w' r/\
   ∃ r' n' c' Nr bP,(w.heap.size<=r'\/r'=r)/\LedR kk w' g r' n' c' Nr bP (lQ l (y,m,s,xs,t,ys)):=by
 obtain⟨nY,LF,hg,hr,fx,hsp,eS,gv,hlen⟩:=hL;obtain⟨e,hee⟩:∃ e:ew,e=(y,m,s,xs,t,ys):=⟨_,aa⟩;rw[<-hee];have lV:=hv.in EK IU;have gN:=hv;obtain⟨p,cp,q,cq,rfl,-⟩:=hv.Fh;have SQ:oh kk w [.int .i64 y,.int .i64 m,.bool s,.slice p xs.length cp,.bool t,.slice q ys.length cq] e:=by rw[hee];exact⟨_,_,_,_,aa,hy,hm,gN,EK,IU⟩
 have hq:e.exp.2.2.2=rq s xs t ys:=by rw[hee];rfl
 obtain⟨VG,hln1⟩:=fx.ok (fA kk);have PZ:(vs.flatten.map AV.val++spare.map AV.val).all bO=true:=by rw[<-aQ];exact dx (by rw[kW,VG,hsp];rfl)
 have xM:jW KP 51 [g,r] [(336,[.row 103 0 n c]),(338,vs.flatten.map .val++spare.map .val)] w:=by
  refine⟨aa,by simp[LF],λj g' c' hj hc=> ?_,λc' hc=> ?_,λc' hc k hk=> ?_⟩
  ·match j,hj,hc with
   | 0,hj,hc=>cases hj;cases hc;exact hg
   | 1,hj,hc=>cases hj;cases hc;rw[<-aQ,aV];exact hr
   | j+2,hj,_=>simp at hj
  ·rcases eD.1 hc with rfl|hc
   ·exact⟨aa,aa⟩
   ·cases ay.1 hc;exact⟨aa,PZ⟩
  ·rcases eD.1 hc with rfl|hc
   ·have:k=103:=by simpa [bM,AV.dN] using hk
    subst this;exact⟨ae,by show 103<2*51+2;omega⟩
   ·cases ay.1 hc;rw[<-aQ,ah] at hk;cases hk
 refine BW Tryz.prog w _ KP (λt=>Nat.beq t 23) table (λ_ _=>trivial) (ad:=[g,r]) (us:=[_,_,_]) Tryz.func172 aa Tryz.ntmps172 (bF aa) xM (bF aa) ?_;refine mh ?_;cases hw:ek e.exp with
 | true=>
   have hp:lQ l e=l:=if_pos hw;refine VO.cB aa aa (fk ya) (λaK bE aX=>ju _ e kk aK ⟨_,aa,SQ.kp bE⟩ ae 2 (by rw[hw];rfl)) (λaK bE aX w1 aU cQ _ bb1=>wV aa ?_);refine mh ?_;refine VO.cB aa aa (fk ya) (λbf cK bK=>ju _ e kk bf ⟨_,aa,SQ.kp (cQ.aN cK)⟩ ae 2 (by rw[hw];rfl)) (λbf cK bK w2 bu dW _ bb2=>wV aa ?_);refine mh ?_;refine VS.lJ (ra _ _) aa (λwz β kz oz en=> ?_);rw[hp];obtain⟨o1,o2⟩:=zt (en.own 102 _ _ aa) 0 g aa aa;obtain⟨o3,o4⟩:=zt (en.own 103 _ _ aa) 1 r aa aa;rw[aQ,aV,aV] at o4;refine⟨aa,oz.1,oz.2 r cZ,r,n,c,vs,spare,.inr aa,nY,LF,?_,o4,fx.kp (fA kk) (Kp.of (U:=UU) (aD.refl _) |>.aN ?_),hsp,eS,gv,hlen⟩
   ·have:β 103=r:=o3;rw[<-this];exact o2
   ·exact ((cQ.aN dW).aN kz).fq
 | false=>
   have hn65:((n:Int) == 65536)=false:=by rw[eQ];omega
   refine VO.cB aa aa (fk ya) (λaK bE aX=>ju _ e kk aK ⟨_,aa,SQ.kp bE⟩ ae 0 (by rw[hw];rfl)) (λaK bE aX w1 aU cQ _ bb1=>wV aa ?_);refine mh ?_;refine VS.aO aa hn65 ?_;refine mh ?_;by_cases KT:rq s xs t ys=0
   ·have hp:lQ l e=l:=by unfold lQ;rw[hw,if_neg cZ,if_pos (hq.trans KT)]
    refine VO.cB aa aa (fk Tryz.func57) (λbf cK bK=>tn _ (rq s xs t ys) kk bf (lV.kp (cQ.aN cK)) ae 0 (xJ KT)) (λbf cK bK w2 bu dW _ bb2=>wV aa ?_);refine mh ?_;refine VS.lJ (ra _ _) aa (λwz β kz oz en=> ?_);rw[hp];obtain⟨o1,o2⟩:=zt (en.own 102 _ _ aa) 0 g aa aa;obtain⟨o3,o4⟩:=zt (en.own 103 _ _ aa) 1 r aa aa;rw[aQ,aV,aV] at o4;refine⟨aa,oz.1,oz.2 r cZ,r,n,c,vs,spare,.inr aa,nY,LF,?_,o4,fx.kp (fA kk) ((cQ.aN dW).aN kz).fq,hsp,eS,gv,hlen⟩;have:β 103=r:=o3;rw[<-this];exact o2
   ·have hp:lQ l e=l++[e]:=by unfold lQ;rw[hw,if_neg cZ,if_neg (λh=>KT (hq.symm.trans h))]
    obtain⟨sg,Dq⟩:∃ sg,jD (rq s xs t ys) 0=sg:=⟨_,aa⟩;have hsg0:sg≠0:=by rw[<-Dq];exact SB KT
    refine VO.cB aa aa (fk Tryz.func57) (λbf cK bK=>tn _ (rq s xs t ys) kk bf (lV.kp (cQ.aN cK)) ae sg Dq) (λbf cK bK w2 bu dW _ bb2=>wV aa ?_);refine mh ?_;refine VS.aR aa (by simp[hsg0]) ?_;refine mh ?_;refine VO.eX aa (fk HI) (λcV β dS ea ho=>(pj _ [rq s xs t ys] kk cV (ox (ho.own 36 (.base (ay.2 aa)) _ _ aa) [] (vs:=[[.bool s,.slice p xs.length cp,.bool t,.slice q ys.length cq]]) (by rfl) aa (ig.cons (lV.kp ((cQ.aN dW).aN dS)) ig.nil) (bF aa) eL) (by unfold bU cL;simp;omega)).mono ?_);rintro o w3 ⟨r3,rfl,q3,hs3,dH⟩;rw[sa] at q3;have FA:=q3.rd.raw;have hrt:ur s xs t ys=true:=by have:=(kJ hw).2.2.2.2;rw[hee] at this;exact this
    obtain⟨qj,qk,hr3,hr4⟩:=NN hrt gN.lims.1 gN.lims.2;rw[qj,qk,hr3,hr4] at FA;obtain⟨p4,c4,y4,d4,rfl,-⟩:=FA.Fh;refine cTcxP dH ?_;intro eV _ bb3;have hE3:oh kk w3 [.int .i64 y,.int .i64 m,.bool s,.slice p4 xs.length c4,.bool t,.slice y4 ys.length d4] e:=by rw[hee];exact⟨_,_,_,_,aa,hy,hm,FA,EK,IU⟩
    refine VO.app (ra _ _) (t:=332) (e:=338) (sz:=6) (n:=n) (c:=c) (mm:=1) (known:=vs.flatten.map .val) (spare:=spare.map .val) (del:=some 103) (news:=([.int .i64 y,.int .i64 m,.bool s,.slice p4 xs.length c4,.bool t,.slice y4 ys.length d4]:List Value).map .val) (dst:=47) aa aa aa aa aa aa aa aa (bF aa) aa (.inr ⟨103,aa,aa,aa⟩) (.inl aa) (by rw[bJ,hln1,nY]) (by rw[<-aQ,bJ];exact hlen) eS gv ⟨ah _,ah _,aa⟩ ⟨dx VG,dx hsp,aa⟩ aa ae
     (λw1 β k1 b1 ho=>⟨_,_,rfl,.inr ⟨β 46,0,rfl,jB (rest:=[]) (ho.own 46 (.base (pV _ (ay.2 rfl))) _ _ rfl) rfl⟩⟩)
     (λuz cap' bP ρ NS SV gH rh pR NT hok' hlid'=>wV rfl ?_)
    refine mh ?_;refine VS.lJ (ra _ _) aa (λwz β kz oz en=> ?_);rw[hp];obtain⟨o1,o2⟩:=zt (en.own 102 _ _ aa) 0 g aa aa;have o3:=en.own 47 _ _ aa;have o5:β 47≠g:=λe=>absurd (en.apart 102 47 (by intro h;cases h) (by intro h;cases h) (o1.trans e.symm)) eL
    have o6:w.heap.size<=β 47\/β 47=r:=by
     have:=fO (show jz 51 [g,r] w 47 (β 47) from o3.new);simpa [o5] using this
    have o7:=o3.cls;rw[aQ,aQ,aV,aV] at o7;refine⟨aa,oz.1,oz.2 r cZ,β 47,n+1,cap',vs++[[.int .i64 y,.int .i64 m,.bool s,.slice p4 xs.length c4,.bool t,.slice y4 ys.length d4]],bP.map (AV.leaf β),o6,by simp[nY],λe=>o5 e.symm,o2,?_,?_,gw hok',rh,pR,?_⟩
    ·rw[List.flatten_append];exact o7
    ·exact (fx.kp (fA kk) ((cQ.aN dW).aN (eV.aN (NS.aN kz))).fq).snoc (hE3.kp (NS.aN kz).fq)
    ·have:=NT;simp only[List.length_append,List.length_map,List.length_cons,List.length_nil,List.flatten_append,List.flatten_cons,List.flatten_nil,List.append_nil] at this ⊢;omega
end
section
open Go.RowKit
attribute [local irreducible] aB VS
set_option maxRecDepth 4000 in
theorem tPut_nil (g:Nat) (v:Value) (y m:Int) (s:Bool) (xs:List Nat) (t:Bool) (ys:List Nat) (kk:Nat) (w:World)
  (hg:cN w g 336 #[.slice none 0 0]) (hv:eI w v s xs t ys) (hy:tw y) (hm:tw m) (EK:xs.length<=kk) (IU:ys.length<=kk) (hk:kk<=1024):
  Calls Tryz.prog 172 #[.pointer (some ⟨g,0,none⟩),.int .i64 y,.int .i64 m,v] w λo w'=>o=.returned (.int .i64 (if ek (ew.exp (y,m,s,xs,t,ys))=true then 2 else 0))/\rj [g] w w'/\LedAt kk w' w.heap.size g (lQ [] (y,m,s,xs,t,ys))/\(lQ [] (y,m,s,xs,t,ys)=[]->cN w' g 336 #[.slice none 0 0]):=by
 obtain⟨e,hee⟩:∃ e:ew,e=(y,m,s,xs,t,ys):=⟨_,aa⟩;rw[<-hee];have lV:=hv.in EK IU;have gN:=hv;obtain⟨p,cp,q,cq,rfl,-⟩:=hv.Fh;have SQ:oh kk w [.int .i64 y,.int .i64 m,.bool s,.slice p xs.length cp,.bool t,.slice q ys.length cq] e:=by rw[hee];exact⟨_,_,_,_,aa,hy,hm,gN,EK,IU⟩
 have hq:e.exp.2.2.2=rq s xs t ys:=by rw[hee];rfl
 have xM:jW KP 51 [g] [(336,[.val (.slice none 0 0)])] w:=by
  refine⟨aa,cZ,λj g' c' hj hc=> ?_,λc' hc=> ?_,λc' hc k hk=> ?_⟩
  ·match j,hj,hc with
   | 0,hj,hc=>cases hj;cases hc;exact hg
   | j+1,hj,_=>simp at hj
  ·cases ay.1 hc;exact⟨aa,aa⟩
  ·cases ay.1 hc;cases hk
 refine BW Tryz.prog w _ KP (λt=>Nat.beq t 23) table (λ_ _=>trivial) (ad:=[g]) (us:=[_,_,_]) Tryz.func172 aa Tryz.ntmps172 (bF aa) xM (bF aa) ?_;refine mh ?_;cases hw:ek e.exp with
 | true=>
   have hp:lQ [] e=[]:=if_pos hw;refine VO.cB aa aa (fk ya) (λaK bE aX=>ju _ e kk aK ⟨_,aa,SQ.kp bE⟩ ae 2 (by rw[hw];rfl)) (λaK bE aX w1 aU cQ _ bb1=>wV aa ?_);refine mh ?_;refine VO.cB aa aa (fk ya) (λbf cK bK=>ju _ e kk bf ⟨_,aa,SQ.kp (cQ.aN cK)⟩ ae 2 (by rw[hw];rfl)) (λbf cK bK w2 bu dW _ bb2=>wV aa ?_);refine mh ?_;refine VS.lJ (ra _ _) aa (λwz β kz oz en=> ?_);rw[hp];obtain⟨o1,o2⟩:=zt (en.own 102 _ _ aa) 0 g aa aa;exact⟨aa,oz.1,.inl ⟨aa,o2⟩,λ_=>o2⟩
 | false=>
   refine VO.cB aa aa (fk ya) (λaK bE aX=>ju _ e kk aK ⟨_,aa,SQ.kp bE⟩ ae 0 (by rw[hw];rfl)) (λaK bE aX w1 aU cQ _ bb1=>wV aa ?_);refine mh ?_;by_cases KT:rq s xs t ys=0
   ·have hp:lQ [] e=[]:=by unfold lQ;rw[hw,if_neg cZ,if_pos (hq.trans KT)]
    refine VO.cB aa aa (fk Tryz.func57) (λbf cK bK=>tn _ (rq s xs t ys) kk bf (lV.kp (cQ.aN cK)) ae 0 (xJ KT)) (λbf cK bK w2 bu dW _ bb2=>wV aa ?_);refine mh ?_;refine VS.lJ (ra _ _) aa (λwz β kz oz en=> ?_);rw[hp];obtain⟨o1,o2⟩:=zt (en.own 102 _ _ aa) 0 g aa aa;exact⟨aa,oz.1,.inl ⟨aa,o2⟩,λ_=>o2⟩
   ·have hp:lQ [] e=[e]:=by unfold lQ;rw[hw,if_neg cZ,if_neg (λh=>KT (hq.symm.trans h))];rfl
    obtain⟨sg,Dq⟩:∃ sg,jD (rq s xs t ys) 0=sg:=⟨_,aa⟩;have hsg0:sg≠0:=by rw[<-Dq];exact SB KT
    refine VO.cB aa aa (fk Tryz.func57) (λbf cK bK=>tn _ (rq s xs t ys) kk bf (lV.kp (cQ.aN cK)) ae sg Dq) (λbf cK bK w2 bu dW _ bb2=>wV aa ?_);refine mh ?_;refine VS.aR aa (by simp[hsg0]) ?_;refine mh ?_;refine VO.eX aa (fk HI) (λcV β dS ea ho=>(pj _ [rq s xs t ys] kk cV (ox (ho.own 36 (.base (ay.2 aa)) _ _ aa) [] (vs:=[[.bool s,.slice p xs.length cp,.bool t,.slice q ys.length cq]]) (by rfl) aa (ig.cons (lV.kp ((cQ.aN dW).aN dS)) ig.nil) (bF aa) eL) (by unfold bU cL;simp;omega)).mono ?_);rintro o w3 ⟨r3,rfl,q3,hs3,dH⟩;rw[sa] at q3;have FA:=q3.rd.raw;have hrt:ur s xs t ys=true:=by have:=(kJ hw).2.2.2.2;rw[hee] at this;exact this
    obtain⟨qj,qk,hr3,hr4⟩:=NN hrt gN.lims.1 gN.lims.2;rw[qj,qk,hr3,hr4] at FA;obtain⟨p4,c4,y4,d4,rfl,-⟩:=FA.Fh;refine cTcxP dH ?_;intro eV _ bb3;have hE3:oh kk w3 [.int .i64 y,.int .i64 m,.bool s,.slice p4 xs.length c4,.bool t,.slice y4 ys.length d4] e:=by rw[hee];exact⟨_,_,_,_,aa,hy,hm,FA,EK,IU⟩
    refine VO.app (ra _ _) (t:=332) (e:=338) (sz:=6) (n:=0) (c:=0) (mm:=1) (known:=[]) (spare:=[]) (del:=none) (news:=([.int .i64 y,.int .i64 m,.bool s,.slice p4 xs.length c4,.bool t,.slice y4 ys.length d4]:List Value).map .val) (dst:=47) aa aa aa aa aa aa aa aa (bF aa) aa (.inl ⟨aa,aa,aa,aa,aa,aa,ae⟩) (.inl aa) aa aa (bl _) ae ⟨aa,aa,aa⟩ ⟨aa,aa,aa⟩ aa ae
     (λw1 β k1 b1 ho=>⟨_,_,rfl,.inr ⟨β 46,0,rfl,jB (rest:=[]) (ho.own 46 (.base (pV _ (ay.2 rfl))) _ _ rfl) rfl⟩⟩)
     (λuz cap' bP ρ NS SV gH rh pR NT hok' hlid'=>wV rfl ?_)
    refine mh ?_;refine VS.lJ (ra _ _) aa (λwz β kz oz en=> ?_);rw[hp];obtain⟨o1,o2⟩:=zt (en.own 102 _ _ aa) 0 g aa aa;have o3:=en.own 47 _ _ aa;have o5:β 47≠g:=λe=>absurd (en.apart 102 47 (by intro h;cases h) (by intro h;cases h) (o1.trans e.symm)) eL
    have o6:w.heap.size<=β 47:=by
     have:=fO (show jz 51 [g] w 47 (β 47) from o3.new);simpa [o5] using this
    have o7:=o3.cls;rw[aQ,aQ,aV] at o7;refine⟨aa,oz.1,.inr ⟨β 47,1,cap',[[.int .i64 y,.int .i64 m,.bool s,.slice p4 xs.length c4,.bool t,.slice y4 ys.length d4]],bP.map (AV.leaf β),o6,aa,λe=>o5 e.symm,o2,?_,?_,gw hok',ae,pR,?_⟩,λh=>by cases h⟩
    ·exact o7
    ·exact .cons (hE3.kp (NS.aN kz).fq) .nil
    ·have:=NT;simp only[List.length_append,List.length_map,List.length_cons,List.length_nil,List.flatten_cons,List.flatten_nil,List.append_nil] at this ⊢;omega
end
section
open Go.RowKit
section
variable {C:Cx} {F:Fr} {H:Hp} {w:World} {m:Option (List FuncId)} {full:Array Oper} {K:Fr->Hp->World->Prop} {o:Oper} {r:List Oper}
theorem VO.callB {d:rH} {dst:Nat} {t:TypeId} {cs:List Value} (e:stepOf C full F H o=.call d) (hd:o.dst=some dst) (h0:H dst=none) (hN:dst<C.N) (hl:1<=lvl C.SU m o) (ht:C.K.fz t=false) (hc:cs.all cJ=true)
  (h:∀ w1 β,bg C.K w w1->C.Old w1->nd C β H d.ids w1->Ae C.P d β w1 λe w2=>∃ g,e=.returned (.pointer (some ⟨g,0,none⟩))/\aD w1 w2/\w1.heap.size<=g/\cN w2 g t cs.toArray/\
   (bg C.K w w2->bg C.K w1 w2->C.Old w2->aB C m full r K (F.dw o.dst (.box dst 0)) (H.put dst (t,cs.map .val)) w2)):aB C m full (o::r) K F H w:=by
 show one C m full o (aB C m full r K) F H w;unfold one;rw[e];refine λw1 β h1 h2 h3=>(h w1 β h1 h2 h3).mono ?_;rintro e w2 ⟨g,rfl,hb,q1,q2,k2⟩
 let dQ:Nat->Nat:=λi=>if i=dst then g else β i
 have yM:dQ dst=g:=if_pos aa;refine⟨dQ,.box dst 0,none,[(dst,(t,cs.map AV.val))],?_,λi hi=>.inl (by simpa [AV.ids] using hi),.inl hl,.inr aa,?_,λa1 a2 a3 _ _=>k2 a1 a2 a3⟩
 ·show Ending.returned _=.returned (Value.pointer (some ⟨dQ dst,0,none⟩));rw[yM]
 ·refine⟨hb.os,hb.tape,hb.output,hb.size,λk hk _ _ _=>tZ hb k hk,λi hi=>if_neg (by simpa using hi),λi hi=>(by cases hi),λi hi=>(by cases hi),λx hx=> ?_,λx hx=> ?_,cZ,λx hx y hy _=> ?_,λx hx j hj=> ?_⟩
  ·cases ay.1 hx;refine⟨by rw[yM];exact C.BB _ _ ae (by have:=C.ll _ h2;omega),ht,?_,dx hc⟩;rw[yM,aV];exact q2
  ·cases ay.1 hx;exact .inr ⟨.inl h0,ae,.inl (by rw[yM];exact q1)⟩
  ·cases ay.1 hx;cases ay.1 hy;rfl
  ·cases ay.1 hx;rw[ah] at hj;cases hj
theorem zu (i o n c:Nat):bM [AV.row i o n c]=[i]:=rfl
variable {s t:Bool} {y z code:Int} {xs ys:List Nat} {l':List ew} {d1 d2:Nat} {v:Value}
theorem VO.callPut0 (kk:Nat) (Jh:(if ek (ew.exp (y,z,s,xs,t,ys))=true then (2:Int) else 0)=code) (Pd:lQ [] (y,z,s,xs,t,ys)=l') (hP:C.P=Tryz.prog) (e:stepOf C full F H o=.call (.fn 172 [.box d1 0,.val (.int .i64 y),.val (.int .i64 z),.val v])) (hf:nL C.P 172)
  (h1:H d1=some (336,[.val (.slice none 0 0)])) (h2:H d2=none) (hne:d1≠d2) (Zd:d2<2*C.N) (hl:1<=lvl C.SU m o) (ht2:C.K.fz 338=false)
  (hv:∀ w1,bg C.K w w1->C.Old w1->eI w1 v s xs t ys) (hy:tw y) (hz:tw z) (EK:xs.length<=kk) (IU:ys.length<=kk) (hk:kk<=1024)
  (k1:∀ w2,bg C.K w w2->C.Old w2->l'=[]->aB C m full r K (F.dw o.dst (.val (.int .i64 code))) (H.put d1 (336,[.val (.slice none 0 0)])) w2)
  (k2:∀ w2 n c vs spare,bg C.K w w2->C.Old w2->l'≠[]->n=l'.length->eC (oh kk) w2 l' vs->spare.all cJ=true->n<=c->c<=9223372036854775807->(vs.flatten++spare).length=c*6->
   aB C m full r K (F.dw o.dst (.val (.int .i64 code))) ((H.put d1 (336,[.row d2 0 n c])).put d2 (338,vs.flatten.map .val++spare.map .val)) w2):aB C m full (o::r) K F H w:=by
 subst Jh Pd;show one C m full o (aB C m full r K) F H w;unfold one;rw[e];intro w1 β a1 a2 a3;have qj:Reach H (rH.fn 172 [.box d1 0,.val (.int .i64 y),.val (.int .i64 z),.val v]).ids d1:=.base (by simp[rH.ids,gl,AV.ids]);have o1:=a3.own d1 qj _ _ h1;refine⟨hf,(Calls.mono (show Calls C.P 172 #[.pointer (some ⟨β d1,0,none⟩),.int .i64 y,.int .i64 z,v] w1 _ from hP▸tPut_nil (β d1) v y z s xs t ys kk w1 o1.cls (hv w1 a1 a2) hy hz EK IU hk) ?_)⟩;rintro e w2 ⟨rfl,hb,GS,hcn⟩;by_cases dJ:lQ [] (y,z,s,xs,t,ys)=[]
 ·have hc:=hcn dJ;refine⟨β,.val _,none,[(d1,(336,[.val (.slice none 0 0)]))],aa,λi hi=>(by cases hi),.inl hl,.inr aa,?_,λa b c _ _=>k1 w2 a c dJ⟩;refine⟨hb.os,hb.tape,hb.output,hb.size,λk hk hx _ _=>hb.sm k hk (by simpa using hx),λ_ _=>aa,λi hi=>(by cases hi),λi hi=>(by cases hi),λx hx=> ?_,λx hx=> ?_,cZ,λx hx y hy _=> ?_,λx hx j hj=> ?_⟩
  ·cases ay.1 hx;exact⟨o1.new,o1.ty,hc,aa⟩
  ·cases ay.1 hx;exact .inl ⟨by rw[h1];simp,cZ,qj,rfl⟩
  ·cases ay.1 hx;cases ay.1 hy;rfl
  ·cases ay.1 hx;cases hj
 ·obtain⟨r',n,c,vs,spare,hB,hL⟩:=GS.resolve_left (λh=>dJ h.1)
  let dQ:Nat->Nat:=λi=>if i=d2 then r' else β i
  have bu:dQ d2=r':=if_pos aa;have aU:dQ d1=β d1:=if_neg hne;have wv:vs.flatten.map AV.val++spare.map AV.val=(vs.flatten++spare).map AV.val:=by rw[aQ]
  have mQ:(vs.flatten.map AV.val++spare.map AV.val).all bO=true:=by rw[wv];exact dx (by rw[kW,(hL.el.ok (fA kk)).1,hL.ok];rfl)
  refine⟨dQ,.val _,none,[(d1,(336,[.row d2 0 n c])),(d2,(338,vs.flatten.map AV.val++spare.map AV.val))],aa,λi hi=>(by cases hi),.inl hl,.inr aa,?_,λa _ b _ _=>k2 w2 n c vs spare a b dJ hL.len hL.el hL.ok hL.le hL.cm hL.fl⟩;refine⟨hb.os,hb.tape,hb.output,hb.size,λk hk hx _ _=>hb.sm k hk ?_,λi hi=>if_neg ?_,λi hi=>(by cases hi),λi hi=>(by cases hi),λx hx=> ?_,λx hx=> ?_,by simpa using hne,λx hx y hy he=> ?_,λx hx j hj=> ?_⟩
  ·have:=hx (d1,(336,[.row d2 0 n c])) cZ;simpa [aU] using this
  ·intro h;exact hi (by simp[h])
  ·rcases eD.1 hx with rfl|hx
   ·refine⟨?_,o1.ty,?_,aa⟩
    ·show C.Cl d1 (dQ d1);rw[aU];exact o1.new
    ·show cN w2 (dQ d1) _ (#[.slice (some ⟨dQ d2,0,none⟩) n c]);rw[aU,bu];exact hL.led
   ·cases ay.1 hx;refine⟨by rw[bu];exact C.BB _ _ Zd (by have:=C.ll _ a2;omega),ht2,?_,mQ⟩;rw[bu,wv,aV];exact hL.row
  ·rcases eD.1 hx with rfl|hx
   ·exact .inl ⟨by rw[h1];simp,cZ,qj,aU⟩
   ·cases ay.1 hx;exact .inr ⟨.inl h2,Zd,.inl (by rw[bu];exact hB)⟩
  ·have TC:=hL.ne;rcases eD.1 hx with rfl|hx <;> rcases eD.1 hy with rfl|hy
   ·rfl
   ·cases ay.1 hy;exact absurd (aU.symm.trans (he.trans bu)) TC
   ·cases ay.1 hx;exact absurd (aU.symm.trans (he.symm.trans bu)) TC
   ·cases ay.1 hx;cases ay.1 hy;rfl
  ·rcases eD.1 hx with rfl|hx
   ·rw[zu] at hj;cases ay.1 hj;exact .inl cZ
   ·cases ay.1 hx;rw[wv,ah] at hj;cases hj
theorem VO.callPut1 {n c:Nat} {vs:List (List Value)} {spare:List Value} {l:List ew} (kk:Nat) (Jh:(if ek (ew.exp (y,z,s,xs,t,ys))=true then (2:Int) else 0)=code) (Pd:lQ l (y,z,s,xs,t,ys)=l') (hP:C.P=Tryz.prog) (e:stepOf C full F H o=.call (.fn 172 [.box d1 0,.val (.int .i64 y),.val (.int .i64 z),.val v])) (hf:nL C.P 172)
  (h1:H d1=some (336,[.row d2 0 n c])) (h2:H d2=some (338,vs.flatten.map .val++spare.map .val)) (hne:d1≠d2) (Zd:d2<2*C.N) (hl:2<=lvl C.SU m o)
  (hn:n=l.length) (fx:eC (oh kk) w l vs) (hsp:spare.all cJ=true) (eS:n<=c) (gv:c<=9223372036854775807) (zZ:(vs.flatten++spare).length=c*6)
  (hU:∀ w1,bg C.K w w1->Kp UU w w1) (hT:∀ t,KP.fz t=false->C.K.fz t=false)
  (hv:∀ w1,bg C.K w w1->C.Old w1->eI w1 v s xs t ys) (hy:tw y) (hz:tw z) (EK:xs.length<=kk) (IU:ys.length<=kk) (hk:kk<=1024) (hn64:n<=1000)
  (k2:∀ w2 n' c' Nr bP ρ,bg C.K w w2->C.Old w2->(∀ x,cJ (ρ x)=true)->n'=l'.length->eC (oh kk) w2 l' Nr->bP.all cJ=true->n'<=c'->c'<=9223372036854775807->(Nr.flatten++bP).length=c' *6->
   aB C m full r K ((F.forget (some d2) ρ).dw o.dst (.val (.int .i64 code))) (((H.forget (some d2) ρ).put d1 (336,[.row d2 0 n' c'])).put d2 (338,Nr.flatten.map .val++bP.map .val)) w2):aB C m full (o::r) K F H w:=by
 subst Jh Pd;show one C m full o (aB C m full r K) F H w;unfold one;rw[e];intro w1 β a1 a2 a3;have qj:Reach H (rH.fn 172 [.box d1 0,.val (.int .i64 y),.val (.int .i64 z),.val v]).ids d1:=.base (by simp[rH.ids,gl,AV.ids]);have qk:Reach H (rH.fn 172 [.box d1 0,.val (.int .i64 y),.val (.int .i64 z),.val v]).ids d2:=.step qj h1 (by rw[zu];simp);have o1:=a3.own d1 qj _ _ h1;have o2:=a3.own d2 qk _ _ h2;have hmap0:∀ (vs:List (List Value)) (spare:List Value),vs.flatten.map AV.val++spare.map AV.val=(vs.flatten++spare).map AV.val:=λvs spare=>by rw[aQ]
 have hapart:β d1≠β d2:=λhe=>hne (a3.apart d1 d2 qj qk (by rw[h1];simp) (by rw[h2];simp) he);have hL0:LedR kk w1 (β d1) (β d2) n c vs spare l:=⟨hn,hapart,o1.cls,by have:=o2.cls;rw[hmap0,aV] at this;exact this,fx.kp (fA kk) (hU w1 a1),hsp,eS,gv,zZ⟩;refine⟨hf,(Calls.mono (show Calls C.P 172 #[.pointer (some ⟨β d1,0,none⟩),.int .i64 y,.int .i64 z,v] w1 _ from hP▸tPut_row (β d1) (β d2) n c vs spare l v y z s xs t ys kk w1 hL0 (hv w1 a1 a2) hy hz EK IU hk hn64) ?_)⟩;rintro e w2 ⟨rfl,hb,Ih,r',n',c',Nr,bP,hB,hL⟩
 let dQ:Nat->Nat:=λi=>if i=d2 then r' else β i
 have bu:dQ d2=r':=if_pos aa;have aU:dQ d1=β d1:=if_neg hne;have wv:=hmap0 Nr bP;have mQ:(Nr.flatten.map AV.val++bP.map AV.val).all bO=true:=by rw[wv];exact dx (by rw[kW,(hL.el.ok (fA kk)).1,hL.ok];rfl)
 refine⟨dQ,.val _,some d2,[(d1,(336,[.row d2 0 n' c'])),(d2,(338,Nr.flatten.map AV.val++bP.map AV.val))],aa,λi hi=>(by cases hi),.inl ae,.inl hl,?_,λa _ b ρ gH=>k2 w2 n' c' Nr bP ρ a b gH hL.len hL.el hL.ok hL.le hL.cm hL.fl⟩;refine⟨hb.os,hb.tape,hb.output,hb.size,λk hk hx IU _=>hb.sm k hk ?_,λi hi=>if_neg ?_,λi hi=> ?_,λi hi=> ?_,λx hx=> ?_,λx hx=> ?_,by simpa using hne,λx hx y hy he=> ?_,λx hx j hj=> ?_⟩
 ·have e1:=hx (d1,(336,[.row d2 0 n' c'])) cZ;have e2:=IU d2 aa;rw[aU] at e1;simp[e1,e2]
 ·intro h;exact hi (by simp[h])
 ·cases hi;exact⟨qk,by rw[h2];simp⟩
 ·cases hi;obtain⟨t,cs,q1,q2,q3⟩:=Ih;exact .inl (.inr ⟨t,cs,q1,hT t q2,q3⟩)
 ·rcases eD.1 hx with rfl|hx
  ·refine⟨?_,o1.ty,?_,aa⟩
   ·show C.Cl d1 (dQ d1);rw[aU];exact o1.new
   ·show cN w2 (dQ d1) _ (#[.slice (some ⟨dQ d2,0,none⟩) n' c']);rw[aU,bu];exact hL.led
  ·cases ay.1 hx;refine⟨?_,o2.ty,?_,mQ⟩
   ·rw[bu];rcases hB with hB|hB
    ·exact C.BB _ _ Zd (by have:=C.ll _ a2;omega)
    ·rw[hB];exact o2.new
   ·rw[bu,wv,aV];exact hL.row
 ·rcases eD.1 hx with rfl|hx
  ·exact .inl ⟨by rw[h1];simp,by simp[hne.symm],qj,aU⟩
  ·cases ay.1 hx;refine .inr ⟨.inr aa,Zd,?_⟩;rcases hB with hB|hB
   ·exact .inl (by rw[bu];exact hB)
   ·exact .inr ⟨d2,aa,by rw[bu];exact hB⟩
 ·have TC:=hL.ne;rcases eD.1 hx with rfl|hx <;> rcases eD.1 hy with rfl|hy
  ·rfl
  ·cases ay.1 hy;exact absurd (aU.symm.trans (he.trans bu)) TC
  ·cases ay.1 hx;exact absurd (aU.symm.trans (he.symm.trans bu)) TC
  ·cases ay.1 hx;cases ay.1 hy;rfl
 ·rcases eD.1 hx with rfl|hx
  ·rw[zu] at hj;cases ay.1 hj;exact .inl cZ
  ·cases ay.1 hx;rw[wv,ah] at hj;cases hj
end
end
section
open Go.RowKit
attribute [local irreducible] aB VS
theorem kp_fz {t:TypeId} (h:KP.fz t=false):(KU UU).fz t=false:=by
 have h':(Nat.beq t UU || _)=false:=h;rw[Bool.or_eq_false_iff] at h';show (Nat.beq t UU || false)=false;rw[h'.1];rfl
end
section
open Go.RowKit
section
variable {C:Cx} {F:Fr} {H:Hp} {w:World} {m:Option (List FuncId)} {full:Array Oper} {K:Fr->Hp->World->Prop} {o:Oper} {r:List Oper} {Q:Exit->Act->World->Prop} {k:List It}
def AL (F:Fr) (β:Nat->Nat):List (Nat×AV)->Prop
 | []=>True
 | p::r=>(∃ u x,F p.1=some u/\u.bH β=x/\p.2=.val x)/\AL F β r
theorem AL.mem {β:Nat->Nat}:∀ {L:List (Nat×AV)} {d:Nat} {v:AV},AL F β L->(d,v)∈L->∃ u x,F d=some u/\u.bH β=x/\v=.val x
 | p::r,d,v,h,hm=>by
   rcases eD.1 hm with rfl|hm
   ·exact h.1
   ·exact AL.mem h.2 hm
theorem VS.pK (D:World->Cx) (hP:∀ w,(D w).P=C.P) (hN:∀ w,(D w).N=C.N) (hO:∀ w,(D w).Old w)
  (h:∀ w' β,bg C.K w w'->C.Old w'->Ends C β H w'->∃ L:List (Nat×AV),AL F β L/\VS (D w') Q k (Fr.of L) (λ_=>none) w'):VS C Q k F H w:=λβ a w' hr hk=>by
 obtain⟨L,hL,hv⟩:=h w' β hk hr.old ⟨hr.own,hr.apart⟩;have:=hv β a w' ⟨hr.defers,by rw[hN];exact hr.size,λd v hd=> ?_,λi t cs hi=>(by cases hi),λi j hi=>absurd aa hi,λd v hd i hi=> ?_,λd v hd=> ?_,⟨λi t cs hi=>(by cases hi),λi t cs hi=>(by cases hi),λi hi=>aa⟩,hO w'⟩ (bg.refl _ _)
 ·rw[hP] at this;exact this
 ·obtain⟨u,x,h1,rfl,rfl⟩:=hL.mem (Fr.jq hd);exact hr.tmp d u h1
 ·obtain⟨u,x,h1,rfl,rfl⟩:=hL.mem (Fr.jq hd);cases hi
 ·obtain⟨u,x,h1,rfl,rfl⟩:=hL.mem (Fr.jq hd);rw[hN];exact hr.fits d u h1
theorem VO.litE (hC:C.Ok) {t e:TypeId} {n sz:Nat} {ps:Array (Nat×Operand)} {it ie:TI} {args:List AV} (us vs:List Value)
  (e0:stepOf C full F H o=.call (.op o args)) (ha:args=us.map .val) (ho:o.op=.buildSlice t n ps) (yW:C.ti t=some it) (iq:it.elem=some (e,sz)) (Dm:C.ti e=some ie)
  (fx:JS sz 0 ((ps.toList.map (·.1)).zip (us.map .val))=some (vs.map .val)) (hps:ps.size=n) (WS:us.length=n) (Ud:vs.length=n*sz) (hn:n*sz<=16777216)
  (hK:∀ w2 b,bg C.K w w2->C.Old w2->C.w0.heap.size<=b->cN w2 b e vs.toArray->aB C m full r K (F.dw o.dst (.val (.slice (some ⟨b,0,none⟩) n n))) H w2):aB C m full (o::r) K F H w:=by
 refine VO.IG e0 λw1 β h1 h2 _=> ?_;obtain⟨hu,hsz⟩:=(hC t it yW).isSlice e sz iq;have nW:=(hC e ie Dm).zero;have hb:aD w1 (w1.alloc (.cells vs.toArray e)):=(aD.refl w1).alloc _;refine⟨.slice (some ⟨w1.heap.size,0,none⟩) n n,w1.alloc (.cells vs.toArray e),λρ gH=>.inl ?_,_,aa,hb,λa1 a2 a3=>hK _ w1.heap.size a1 a3 (C.ll _ h2) (cN.new w1 _ _)⟩;rw[ho,ha,iV] at gH
 have hl:(ps.map λx=>(x.1,ρ x.2)).toList=((ps.toList.map (·.1)).zip (us.map AV.val)).map λp=>(p.1,p.2.bH (λ_=>0)):=by
  have h3:ps.toList.map (λx=>ρ x.2)=us:=by
   rw[<-gH];simp[Op.operands]
  rw[rz,<-h3];generalize ps.toList=l
  induction l with
  | nil=>rfl
  | cons q r ih=>simp only[List.map_cons,List.zip_cons_cons];rw[ih];rfl
 have BG:∀ A:Array Value,A.size=n*sz->Instr.fill (λi=>some (i*sz,sz)) A (((ps.toList.map (·.1)).zip (us.map AV.val)).map λp=>(p.1,p.2.bH (λ_=>0)))=some vs.toArray:=λA hA=>by
  have:=vM (β:=λ_=>0) (sz:=sz) _ 0 [] A.toList fx cZ (by rw[DL,hA];simp[hps,WS]);rw[aV] at this;simpa using this
 simp only[execOp,ho,Instr.buildSlice,Sem.run_bind,run_underlying hu,Result.andThen_ok,hsz];rw[if_neg ae];by_cases h0:n*sz=0
 ·simp only[if_pos h0,Sem.run_bind,Sem.run_pure,Result.andThen_ok];rw[hl,BG _ (by simpa using h0.symm)];simp[newRow]
 ·simp only[if_neg h0,Sem.run_bind,Sem.run_pure,Result.andThen_ok,nW]
  have WG:ie.zero.cells.size=sz:=by
   have h6:=(hC e ie Dm).Ep;have h7:=hsz w1;have h8:=(hC e ie Dm).size;cases Cm:C.P.info? e with
   | none=>rw[Cm] at h8;simp at h8
   | some ti=>
     rw[Cm] at h8;simp[sizeOf,typeInfo,Cm] at h7 h8;omega
  rw[hl,BG _ (by simp[Builtin.zeroCells,WG])];simp[newRow]
end
end
section
open Go.RowKit
attribute [local irreducible] aB VS
section
variable {F F':Fr} {H H':Hp} {w w1:World} {N:Nat} {l':List Oper} {Q:Exit->Act->World->Prop} {k:List It} {id:Nat} {ops:Array Oper}
end
def cexp (y n:Int) (q:Rat):ew:=(y,n,decide (q.num<0),limbs q.num.natAbs,decide ((q.den:Int)<0),limbs (q.den:Int).natAbs)
theorem canon_rt (q:Rat):ur (decide (q.num<0)) (limbs q.num.natAbs) (decide ((q.den:Int)<0)) (limbs (q.den:Int).natAbs)=true:=by
 unfold ur;rw[sO q.num,sO (q.den:Int),ji,ji];have h3:(0:Int)<q.den:=by have:=q.den_nz;omega
 have h4:Int.gcd q.num q.den=1:=by have:=q.reduced;simpa [Int.gcd,Nat.Coprime] using this
 rw[aw h3,aw h4];rfl
theorem canon_rq (q:Rat):rq (decide (q.num<0)) (limbs q.num.natAbs) (decide ((q.den:Int)<0)) (limbs (q.den:Int).natAbs)=q:=by
 unfold rq;rw[ji,ji,IV]
theorem FD (y n:Int) (q:Rat):(cexp y n q).exp=(y,n,true,q):=by
 show (y,n,ur (decide (q.num<0)) (limbs q.num.natAbs) (decide ((q.den:Int)<0)) (limbs (q.den:Int).natAbs),rq (decide (q.num<0)) (limbs q.num.natAbs) (decide ((q.den:Int)<0)) (limbs (q.den:Int).natAbs))=_;rw[canon_rt,canon_rq]
end
section
open Go.RowKit
abbrev iT:=Nat×Rat
def gR (q:Rat):Nat:=if q.den=1/\1<=q.num/\q.num<=40 then q.num.toNat else 0
theorem Ky (q:Rat):gR q<=40:=by
 unfold gR;split
 ·omega
 ·omega
def aitem (p:iT×Rat):La:=(p.1.1,p.1.2,p.2)
def bo (cs:List iT) (xs:List Rat):List La:=(cs.zip xs).map aitem
def jO (p:iT×Rat):Bool:=p.1.1 == 6
def tH (y:Nat) (p:iT×Rat):ew:=cexp y (gR p.1.2) p.2
def mi (y:Nat) (l:List (iT×Rat)):List ew:=(l.filter jO).map (tH y)
def dL (cs:List iT) (xss:List (List Rat)):Nat->List ew
 | 0=>[]
 | n+1=>dL cs xss n++mi n (cs.zip (xss.getD n []))
structure ik where
 p:Pt
 due:Rat
 xU:Rat
 own:Rat
variable {x:ik}
theorem ik.ext' {y:ik} (h1:x.p=y.p) (h2:x.due=y.due) (h3:x.xU=y.xU) (h4:x.own=y.own):x=y:=by
 cases x;cases y;simp_all
def FE (P:Pt) (due xU:Rat):ik:=⟨⟨P.b,P.s-due,P.d,P.i⟩,due,xU,P.s-due-P.i⟩
def gu (cs:List iT) (xss:List (List Rat)) (y:Nat):ik:=
 FE (bn (bo cs (xss.getD y []))) (fh (dL cs xss (y+1)) y) (fN (dL cs xss (y+1)) y)
def fb (cs:List iT) (xss:List (List Rat)):List ik:=(List.range xss.length).map (gu cs xss)
def fW (e:Int) (n:Nat) (t:List (List Rat)):Bool:=decide (e>=t.length) || ((t.getD e.toNat []).length != n)
def nz (k:iT):Bool:=k.1 == 6 && gR k.2 == 0
def gV (cs:List iT) (e:Int) (ts:List (List (List Rat))):Int:=
 if ts.length>40 then 3 else if e<0 then 2 else if ts.any (fW e cs.length) then 2 else if cs.any nz then 2 else 0
theorem zv {cs:List iT} {e:Int} {ts:List (List (List Rat))} (h:gV cs e ts=0):ts.length<=40/\0<=e/\(∀ t∈ts,e.toNat<t.length/\(t.getD e.toNat []).length=cs.length)/\(∀ k∈cs,k.1=6->1<=gR k.2):=by
 unfold gV at h;by_cases h1:ts.length>40
 ·rw[if_pos h1] at h;cases h
 rw[if_neg h1] at h;by_cases h2:e<0
 ·rw[if_pos h2] at h;cases h
 rw[if_neg h2] at h;by_cases h3:ts.any (fW e cs.length)=true
 ·rw[if_pos h3] at h;cases h
 rw[if_neg h3] at h;by_cases h4:cs.any nz=true
 ·rw[if_pos h4] at h;cases h
 refine⟨ae,ae,λt ht=> ?_,λk hk h6=> ?_⟩
 ·have:fW e cs.length t=false:=by
   cases hx:fW e cs.length t with
   | false=>rfl
   | true=>exact absurd (kV.2 ⟨t,ht,hx⟩) h3
  unfold fW at this;simp only[Bool.or_eq_false_iff,decide_eq_false_iff_not,bne_eq_false_iff_eq] at this;exact⟨ae,this.2⟩
 ·have:nz k=false:=by
   cases hx:nz k with
   | false=>rfl
   | true=>exact absurd (kV.2 ⟨k,hk,hx⟩) h4
  unfold nz at this;rw[h6] at this;simp at this;omega
def cf (cs:List iT) (e:Int) (ts:List (List (List Rat))):List ik:=if gV cs e ts=0 then fb cs (ts.map λt=>t.getD e.toNat []) else []
def ik.zero:ik:=⟨Pt.zero,0,0,0⟩
def ik.add (x y:ik):ik:=⟨x.p.add y.p,x.due+y.due,x.xU+y.xU,x.own+y.own⟩
def wx (l:List ik):ik:=l.foldl ik.add ik.zero
theorem VH (l:List ik) (x:ik):wx (l++[x])=(wx l).add x:=by unfold wx;rw[Lq];rfl
variable {i:Nat}
theorem VI {l:List ik} (h:l[i]? =some x):wx (l.take (i+1))=(wx (l.take i)).add x:=by rw[aI h,VH]
theorem Qz (l:List ik):wx l=⟨qY (l.map (·.p)),dY (l.map (·.due)),dY (l.map (·.xU)),dY (l.map (·.own))⟩:=by
 suffices h:∀ (l:List ik) (x:ik),l.foldl ik.add x=⟨(l.map (·.p)).foldl Pt.add x.p,(l.map (·.due)).foldl (·+ ·) x.due,(l.map (·.xU)).foldl (·+ ·) x.xU,(l.map (·.own)).foldl (·+ ·) x.own⟩ from h l ik.zero
 intro l
 induction l with
 | nil=>intro x;rfl
 | cons y r ih=>intro x;rw[Lu,ih];rfl
theorem FF (cs:List iT) (xss:List (List Rat)):∀ n,(dL cs xss n).length<=n*cs.length
 | 0=>by simp[dL]
 | n+1=>by
   have:=FF cs xss n
   have h2:(mi n (cs.zip (xss.getD n []))).length<=cs.length:=by
    unfold mi;rw[bJ];exact bG (RB _ _) (by rw[wH];omega)
   show (dL cs xss n++_).length<=_;rw[fH,ff,tY];omega
variable {p:iT×Rat} {y:Nat}
theorem AM (hy:y<=9999) (h:1<=gR p.1.2):ek (tH y p).exp=false:=by
 have:=Ky p.1.2;rw[tH,FD];unfold ek;simp only[Bool.or_eq_false_iff,decide_eq_false_iff_not,Bool.not_true,and_true];omega
theorem QA {l:List (iT×Rat)} (h:l[i]? =some p):mi y (l.take (i+1))=mi y (l.take i)++(if jO p=true then [tH y p] else []):=by
 unfold mi;rw[aI h,List.filter_append,aQ];by_cases hd:jO p=true
 ·rw[if_pos hd,DG hd];rfl
 ·rw[if_neg hd,DI hd];rfl
set_option maxRecDepth 4000
def ElB {α:Type} (E:World->List Value->α->Prop):Prop:=∀ {w w':World} {cs:List Value} {a:α},E w cs a->aD w w'->E w' cs a
variable {α:Type} {E:World->List Value->α->Prop}
theorem gp.b {sz:Nat} (h:gp E sz):ElB E:=λhE hb=>h.kp hE (Kp.of hb)
variable {es:List α} {v:Value} {w:World}
theorem bh.iI {sz:Nat} {w':World} (hE:ElB E) (h:bh E sz w v es) (hb:aD w w'):bh E sz w' v es:=by
 obtain⟨p,c,hv,h1,h2,h3⟩:=h;refine⟨p,c,hv,h1,h2,λi q hq=> ?_⟩;obtain⟨b,off,cs,hp,hc,hr⟩:=h3 i q hq;exact⟨b,off,cs,hp,λj u hj=>hb.cell (hc j u hj),hE hr hb⟩
def fu (kk:Nat) (w:World) (cs:List Value) (x:iT):Prop:=∃ nm s p n c t y m d,cs=[.string nm,.int .u8 (x.1:Int),.bool s,.slice p n c,.bool t,.slice y m d]/\x.1<256/\aG w (.agg #[.bool s,.slice p n c,.bool t,.slice y m d]) x.2 kk
theorem cW (kk:Nat):gp (fu kk) 6 where
 kp:=λh k=>by
  obtain⟨nm,s,p,n,c,t,y,m,d,hv,h1,h2⟩:=h;exact⟨_,_,_,_,_,_,_,_,_,hv,h1,h2.kp k⟩
 len:=λh=>by
  obtain⟨nm,s,p,n,c,t,y,m,d,rfl,_⟩:=h;rfl
 ok:=λh=>by
  obtain⟨nm,s,p,n,c,t,y,m,d,rfl,_⟩:=h;rfl
def iJ (kk:Nat) (w:World) (cs:List Value) (q:Rat):Prop:=∃ s p n c t y m d,cs=[.bool s,.slice p n c,.bool t,.slice y m d]/\aG w (.agg #[.bool s,.slice p n c,.bool t,.slice y m d]) q kk
theorem bV (kk:Nat):gp (iJ kk) 4 where
 kp:=λh k=>by
  obtain⟨s,p,n,c,t,y,m,d,hv,h2⟩:=h;exact⟨_,_,_,_,_,_,_,_,hv,h2.kp k⟩
 len:=λh=>by
  obtain⟨s,p,n,c,t,y,m,d,rfl,_⟩:=h;rfl
 ok:=λh=>by
  obtain⟨s,p,n,c,t,y,m,d,rfl,_⟩:=h;rfl
def lR (kk:Nat) (w:World) (cs:List Value) (r:List Rat):Prop:=∃ v,cs=[v]/\bh (iJ kk) 4 w v r
def gI (kk:Nat) (w:World) (cs:List Value) (t:List (List Rat)):Prop:=∃ v,cs=[v]/\bh (lR kk) 1 w v t
theorem pL (kk:Nat):ElB (lR kk):=λh hb=>by
 obtain⟨v,hv,h1⟩:=h;exact⟨v,hv,h1.iI (bV kk).b hb⟩
theorem iB (kk:Nat):ElB (gI kk):=λh hb=>by
 obtain⟨v,hv,h1⟩:=h;exact⟨v,hv,h1.iI (pL kk) hb⟩
theorem bh.sl {sz:Nat} (h:bh E sz w v es):∃ p c,v=.slice p es.length c:=by
 obtain⟨p,c,hv,_⟩:=h;exact⟨p,c,hv⟩
theorem aG.raw {q:Rat} {k:Nat} (h:aG w v q k):∃ (a:Bool×Rat) (s:Bool) (p:Option Addr) (c:Nat) (t:Bool) (r:Option Addr) (d:Nat) (xs ys:List Nat),v=.agg #[.bool s,.slice p xs.length c,.bool t,.slice r ys.length d]/\Kq k w [.bool s,.slice p xs.length c,.bool t,.slice r ys.length d] a/\a.2=q/\(a.1=false->q=0):=by
 obtain⟨s,xs,t,ys,hr,rfl,hx,hy⟩:=h;obtain⟨p,c,r,d,rfl,-⟩:=hr.Fh;exact⟨(ur s xs t ys,rq s xs t ys),s,p,c,t,r,d,xs,ys,aa,⟨s,p,c,t,r,d,xs,ys,aa,hr,aa,hx,hy⟩,aa,λe=>vp e⟩
theorem NU {q:Rat} (h:q.den=1):q.floor=q.num:=by
 rw[Lx,h];simp
attribute [local irreducible] aB VS
theorem VJ (v:Value) (X:Int) (k:Nat) (w:World) (hv:cX w v X k):
  Calls Tryz.prog 219 #[v] w λe w'=>∃ n b,e=.returned (.tuple #[.int .i64 n,.bool b])/\(b=true->n=X)/\(b=false->4294967296<=X.natAbs)/\aD w w':=by
 by_cases h:X.natAbs<4294967296
 ·refine (Qk v X k w hv h).mono ?_;rintro e w' ⟨rfl,hb⟩;exact⟨_,_,aa,λ_=>aa,λh=>(by cases h),hb⟩
 ·refine (Ql v X k w hv).mono ?_;rintro e w' ⟨n,b,rfl,h1,hb⟩;exact⟨_,_,aa,h1,λ_=>ae,hb⟩
variable {a:Bool×Rat}
theorem Ji {q:Rat} (h2:a.2=q) (h1:a.1=false->q=0) (h:fV a=false):gR q=0:=by
 unfold fV at h;unfold gR;rw[h2] at h;cases ha:a.1 with
 | false=>rw[h1 ha];rfl
 | true=>
   rw[ha,Bool.true_and,decide_eq_false_iff_not] at h;rw[if_neg (λe=>h e.1)]
theorem QB {q:Rat} (h2:a.2=q) (h:fV a=true):q.den=1:=by
 unfold fV at h;rw[h2,jP,RH] at h;exact h.2
theorem FG {q:Rat} (h:q.num<1\/40<q.num):gR q=0:=by unfold gR;rw[if_neg ae]
theorem ayrs_in {q:Rat} (hd:q.den=1) (h1:1<=q.num) (h2:q.num<=40):(gR q:Int)=q.num:=by unfold gR;rw[if_pos ⟨hd,h1,h2⟩];omega
theorem FH (cs:List Value) (x:iT) (kk:Nat) (w:World) (hv:fu kk w cs x) (hk:kk<=1000000):
  Calls Tryz.prog 173 #[.agg cs.toArray] w λe w'=>e=.returned (.int .i64 (gR x.2:Int))/\aD w w':=by
 obtain⟨nm,s0,p0,n0,c0,t0,y0,m0,d0,rfl,rb,lV⟩:=hv;obtain⟨a,s,p,c,t,r,d,xs,ys,he,gN,ha2,ha1⟩:=lV.raw;injection he with he
 have Ew:=ak Array.toList he;simp only[List.cons.injEq,Value.bool.injEq,Value.slice.injEq,and_true] at Ew;obtain⟨rfl,⟨rfl,rfl,rfl⟩,rfl,rfl,rfl,rfl⟩:=Ew;refine ai (C:=bd Tryz.prog w _) (args:=[_]) Tryz.func173 aa Tryz.ntmps173 (bF aa) ?_;refine af ?_;refine VO.eX aa (fk Tryz.func218) (λaK β bE aX ho=>(GN _ [a] kk aK (fU (tq kk) (ho.own 7 (.base (ay.2 aa)) _ _ aa) [] (vs:=[[.bool s0,.slice p0 xs.length c0,.bool t0,.slice y0 ys.length d0]]) (by rfl) (.cons ((tq kk).kp gN (Kp.of (U:=UU) aX)) .nil) aa (bl _) (show (1:Nat)<=9223372036854775807 by omega)) ae).mono ?_);rintro e w1 ⟨rfl,aU⟩;cases hw:fV a with
 | false=>
   rw[show [a].all fV=false by simp[hw]];refine aL aU ?_;intro cQ _ bb1;refine aC ?_;intro wz kz bz;exact⟨by rw[Ji ha2 ha1 hw];rfl,bz⟩
 | true=>
   rw[show [a].all fV=true by simp[hw]];have hd:=QB ha2 hw;have zZ:=NU hd;refine aL aU ?_;intro cQ _ bb1;refine VO.cI aa aa (fk Tryz.func220) (λbf cK bK=>Nw _ x.2 kk bf lV.k ae) (λbf cK bK w2 s2 p2 n2 c2 q2 bu dW _ bb2=>wV aa ?_);refine af ?_;rw[zZ] at q2;refine VO.call aa aa (fk Tryz.func219) (λcV dS ea=>(VJ _ x.2.num (cL kk) cV (q2.ki (lV.rn.1))).mono ?_);rintro e w3 ⟨n,b,rfl,hn,Gz,dH⟩;cases b with
   | false=>
     refine aL dH ?_;intro eV _ bb3;refine aC ?_;intro wz kz bz;exact⟨by rw[FG (by have:=Gz aa;omega)];rfl,bz⟩
   | true=>
     obtain rfl:=hn aa;obtain⟨Y,hY⟩:∃ Y,Y=x.2.num:=⟨_,aa⟩;rw[<-hY];by_cases h1:Y<1
     ·refine aL dH ?_;intro eV _ bb3;refine VO.fix 23 aa (ak (λb=>AV.val (.bool b)) (aw h1)) ?_;refine af ?_;refine aC ?_;intro wz kz bz;exact⟨by rw[FG ae];rfl,bz⟩
     ·by_cases h2:Y>40
      ·refine aL dH ?_;intro eV _ bb3;refine VO.fix 23 aa (ak (λb=>AV.val (.bool b)) (az h1)) ?_;refine af ?_;refine VS.aR aa (aw h2) ?_;refine af ?_;refine aC ?_;intro wz kz bz;exact⟨by rw[FG ae];rfl,bz⟩
      ·refine aL dH ?_;intro eV _ bb3;refine VO.fix 23 aa (ak (λb=>AV.val (.bool b)) (az h1)) ?_;refine af ?_;refine VS.aO aa (az h2) ?_;refine af ?_;refine aC ?_;intro wz kz bz;exact⟨by rw[ayrs_in hd ae ae,hY];rfl,bz⟩
theorem VK (v:Value) (p:Option Addr) (N c b1 b2 kk:Nat) (e:Int) (t:List (List Rat)) (w:World) (hv:bh (lR kk) 1 w v t) (h1:w.cell? ⟨b1,0,none⟩=some (.int .i64 e)) (h2:w.cell? ⟨b2,0,none⟩=some (.slice p N c)) (he:0<=e):
  Calls Tryz.prog 214 #[.agg #[v],.pointer (some ⟨b1,0,none⟩),.pointer (some ⟨b2,0,none⟩)] w λo w'=>o=.returned (.bool (fW e N t))/\aD w w':=by
 obtain⟨pr,cr,rfl⟩:=hv.sl;obtain⟨L,hL⟩:∃ L,L=t.length:=⟨_,aa⟩;rw[<-hL] at hv ⊢;refine ai (C:=bd Tryz.prog w _) (args:=[_,_,_]) Tryz.func214 aa Tryz.ntmps214 (bF aa) ?_;refine af ?_;refine VO.read aa [.int .i64 e] aa (ft h1) (wV aa ?_);refine af ?_;by_cases PG:e>=(L:Int)
 ·refine VO.fix 10 aa (ak (λb=>AV.val (.bool b)) (aw PG)) ?_;refine af ?_;refine aC ?_;intro wz kz bz;exact⟨by unfold fW;rw[<-hL,aw PG];rfl,bz⟩
 ·refine VO.fix 10 aa (ak (λb=>AV.val (.bool b)) (az PG)) ?_;refine af ?_;obtain⟨xs,hx⟩:∃ xs,t[e.toNat]? =some xs:=⟨_,bj ae⟩;obtain⟨b,off,jU,rfl,hc,⟨u1,rfl,Cp⟩⟩:=hv.at hx;obtain⟨p3,c3,rfl⟩:=Cp.sl;refine VO.read aa [.int .i64 e] aa (ft h1) (wV aa ?_);refine af ?_;refine VO.cond aa eh (wV aa ?_);refine VO.read aa [.slice p3 xs.length c3] aa (λj u hj=>by rw[Addr.add_mid];have:=hc j u hj;rwa [iu] at this ⊢) (wV aa ?_);refine af ?_;refine VO.read aa [.slice p N c] aa (ft h2) (wV aa ?_);refine af ?_;refine aC ?_;intro wz kz bz;refine⟨ak (λb=>Ending.returned (.bool b)) ?_,bz⟩;unfold fW;rw[<-hL,az PG,Bool.false_or,fG,hx];show ((xs.length:Int) != (N:Int))=(xs.length != N);by_cases hh:xs.length=N
  ·rw[hh];simp
  ·rw[bne_iff_ne.2 hh,bne_iff_ne.2 ae]
end
end Go.Proofs.YtlifeokjcgngjaaGreat
