/-Gb of the proof,laid behind one another. -/
import Derived.Test.YtabalinjfgcfeaaGreatKInterestKnown6
set_option linter.all false
set_option maxHeartbeats 64000000
set_option maxRecDepth 4000
namespace Go.Proofs.YtabalinjfgcfeaaGreat
section
open Go.RowKit
attribute [local irreducible] aG VS
theorem sJ {α:Type} {l:List α} {a:α} (h:l[0]? =some a):l.take 1=[a]:=by
 have:=dt h;simpa using this
theorem DY (v:Value) (S F:RR) (keep:Int) (k:Nat) (w:World) (h:fY w v S F keep) (hS:S.ld k) (hF:F.ld k) (hk:k<=1000000):
  Calls Tryz.prog 18 #[v] w λo w'=>∃ r,o=.returned r/\fY w' r S F keep/\aU w w':=by
 obtain⟨ap,ac,ar,ad,bp,bc,br,bd,rfl,ha,hb⟩:=h;obtain⟨f1,f2⟩:=hS;obtain⟨f3,f4⟩:=hF;refine ah (C:=cH Tryz.prog w _) (args:=[_]) Tryz.func18 aa Tryz.ntmps18 (bM aa) ?_;refine ae ?_;refine VO.call aa aa (fk jc) (λbn cG bo=>(cU S.1 S.2.2.1 S.2.1 S.2.2.2 _ bn (ha.kp (Kp.of (U:=UU) bo)) ab ab).mono ?_);rintro e w1 ⟨r1,rfl,q1,bA⟩;obtain⟨Ry,Rz,RA,RB,rfl,-⟩:=q1.raw.jf;refine bZ bA ?_;intro eF _ bb1;refine VO.call aa aa (fk jc) (λcz dB cT=>(cU F.1 F.2.2.1 F.2.1 F.2.2.2 _ cz (hb.kp (Kp.of (U:=UU) cT)) ab ab).mono ?_);rintro e w2 ⟨r2,rfl,q2,cC⟩;obtain⟨RD,RE,RF,RG,rfl,-⟩:=q2.raw.jf;refine bZ cC ?_;intro fe _ bb2;refine bl ?_;intro wz kz bz;exact⟨_,aa,⟨_,_,_,_,_,_,_,_,aa,q1.raw.kp bm,q2.raw.kp bm⟩,bz⟩
set_option maxRecDepth 4000 in
theorem DZ (v:Value) (l:List (RR×RR)) (kk:Nat) (w:World) (hv:dm (pW kk) 8 w v l) (hk:kk<=1000000) (hn:l.length<=1000000):
  Calls Tryz.prog 19 #[v] w λo w'=>∃ r,o=.returned r/\lj (pW kk) 8 100 w.heap.size w' r l/\aU w w':=by
 obtain⟨p,c,rfl,il,iC⟩:=hv.form;obtain⟨N,hN⟩:∃ N,N=l.length:=⟨_,aa⟩;rw[<-hN] at hv il hn;rw[<-hN];refine ah (C:=cH Tryz.prog w _) (args:=[_]) Tryz.func19 aa Tryz.ntmps19 (bM aa) ?_;refine ae ?_
 refine VS.loop (J:=λm L M w'=>∃ z:Nat,z<=N/\m=N-z/\
  ((z=0/\L=[(0,.val (.slice p N c)),(3,.val (.slice none 0 0)),(4,.val (.int .i64 (z:Int)))]/\M=[])\/
   (0<z/\∃ vs sp cap,L=[(0,.val (.slice p N c)),(3,.row 26 0 z cap),(4,.val (.int .i64 (z:Int)))]/\M=[(26,(100,vs.flatten.map .val++sp))]/\jq (pW kk) 8 w' z cap vs sp (l.take z)))) N ⟨_,_,?_,?_,?_,?_,⟨0,ab,rfl,.inl ⟨rfl,rfl,rfl⟩⟩⟩ ?_
 ·exact cA
 ·exact cA
 ·rfl
 ·exact gn
 rintro m L M wJ ⟨z,hz,rfl,⟨rfl,rfl,rfl⟩|⟨pX,vs,sp,cap,rfl,rfl,xE⟩⟩
 ·refine ae ?_;by_cases hlt:(0:Nat)<N
  ·obtain⟨e,he⟩:∃ e,l[0]? =some e:=⟨_,ba ab⟩;obtain⟨b,off,gD,rfl,hc,⟨_,_,rfl,⟨ap,ac,ar,ad,rfl,ha⟩,⟨bp,bc,br,bd,rfl,hb⟩,⟨f1,f2⟩,⟨f3,f4⟩⟩⟩:=hv.at he;refine VS.aV aa (aE (aQ.2 hlt)) ?_;refine ae ?_;refine VO.cond aa dQ ?_;refine wV aa ?_;refine ae ?_;refine VO.read aa [.bool e.1.1,.slice ap e.1.2.1.length ac,.bool e.1.2.2.1,.slice ar e.1.2.2.2.length ad] aa (aM hc 0 _ ⟨_,aa⟩) (wV aa ?_);refine ae ?_;refine VO.call aa aa (fk jc) (λbn cG bo=>(cU e.1.1 e.1.2.2.1 e.1.2.1 e.1.2.2.2 _ bn (ha.kp (Kp.of (U:=UU) bo)) ab ab).mono ?_);rintro e w1 ⟨r1,rfl,q1,bA⟩;obtain⟨Ry,Rz,RA,RB,rfl,-⟩:=q1.raw.jf;refine bZ bA ?_;intro eF _ bb1;refine VO.cond aa dQ ?_;refine wV aa ?_;refine ae ?_;refine VO.read aa [.bool e.2.1,.slice bp e.2.2.1.length bc,.bool e.2.2.2.1,.slice br e.2.2.2.2.length bd] aa (aM hc 4 _ ⟨[],aa⟩) (wV aa ?_);refine ae ?_;refine VO.call aa aa (fk jc) (λcz dB cT=>(cU e.2.1 e.2.2.2.1 e.2.2.1 e.2.2.2.2 _ cz (hb.kp (Kp.of (U:=UU) cT)) ab ab).mono ?_);rintro e w2 ⟨r2,rfl,q2,cC⟩;obtain⟨RD,RE,RF,RG,rfl,-⟩:=q2.raw.jf;refine bZ cC ?_;intro fe _ bb2;refine VO.DI (dD _ _) (bg kk) (t:=59) (e:=100) (s:=25) (a:=e) (cs:=[.bool e.1.1,.slice Ry e.1.2.1.length Rz,.bool e.1.2.2.1,.slice RA e.1.2.2.2.length RB,.bool e.2.1,.slice RD e.2.2.1.length RE,.bool e.2.2.2.1,.slice RF e.2.2.2.2.length RG]) aa aa aa aa aa aa aa aa (bM aa) aa aa aa ⟨[.bool e.1.1,.slice Ry e.1.2.1.length Rz,.bool e.1.2.2.1,.slice RA e.1.2.2.2.length RB],[.bool e.2.1,.slice RD e.2.2.1.length RE,.bool e.2.2.2.1,.slice RF e.2.2.2.2.length RG],aa,⟨_,_,_,_,aa,q1.raw.kp bm⟩,⟨_,_,_,_,aa,q2.raw.kp bm⟩,⟨f1,f2⟩,⟨f3,f4⟩⟩ ab (λw8 cap sp k8 b8 Et=>wV aa ?_);refine ae ?_;refine VS.back (N-(0+1)) ab ⟨_,_,?_,?_,?_,?_,⟨1,ab,aa,.inr ⟨ab,_,sp,cap,aa,aa,by rw[sJ he];exact Et⟩⟩⟩
   ·refine⟨aa,aa,?_,ag⟩;rfl
   ·exact⟨aa,ag⟩
   ·rfl
   ·exact⟨Et.lp,ag⟩
  ·refine VS.aP aa (aA (λe=>hlt (aQ.1 e))) ?_;obtain rfl:N=0:=ab;refine ae ?_;refine bl ?_;intro wz kz bz;exact⟨_,aa,.inl ⟨aa,JH.1 hN.symm⟩,bz⟩
 ·refine ae ?_;by_cases hlt:z<N
  ·obtain⟨e,he⟩:∃ e,l[z]? =some e:=⟨_,ba ab⟩;obtain⟨b,off,gD,rfl,hc,⟨_,_,rfl,⟨ap,ac,ar,ad,rfl,ha⟩,⟨bp,bc,br,bd,rfl,hb⟩,⟨f1,f2⟩,⟨f3,f4⟩⟩⟩:=hv.at he;refine VS.aV aa (aE (aQ.2 hlt)) ?_;refine ae ?_;refine VO.cond aa dQ ?_;refine wV aa ?_;refine ae ?_;refine VO.read aa [.bool e.1.1,.slice ap e.1.2.1.length ac,.bool e.1.2.2.1,.slice ar e.1.2.2.2.length ad] aa (aM hc 0 _ ⟨_,aa⟩) (wV aa ?_);refine ae ?_;refine VO.call aa aa (fk jc) (λbn cG bo=>(cU e.1.1 e.1.2.2.1 e.1.2.1 e.1.2.2.2 _ bn (ha.kp (Kp.of (U:=UU) bo)) ab ab).mono ?_);rintro e w1 ⟨r1,rfl,q1,bA⟩;obtain⟨Ry,Rz,RA,RB,rfl,-⟩:=q1.raw.jf;refine bZ bA ?_;intro eF _ bb1;refine VO.cond aa dQ ?_;refine wV aa ?_;refine ae ?_;refine VO.read aa [.bool e.2.1,.slice bp e.2.2.1.length bc,.bool e.2.2.2.1,.slice br e.2.2.2.2.length bd] aa (aM hc 4 _ ⟨[],aa⟩) (wV aa ?_);refine ae ?_;refine VO.call aa aa (fk jc) (λcz dB cT=>(cU e.2.1 e.2.2.2.1 e.2.2.1 e.2.2.2.2 _ cz (hb.kp (Kp.of (U:=UU) cT)) ab ab).mono ?_);rintro e w2 ⟨r2,rfl,q2,cC⟩;obtain⟨RD,RE,RF,RG,rfl,-⟩:=q2.raw.jf;refine bZ cC ?_;intro fe _ bb2;refine VO.ss (dD _ _) (bg kk) (t:=59) (e:=100) (s:=25) (i:=26) (n:=z) (c:=cap) (vs:=vs) (sp:=sp) (es:=l.take z) (a:=e) (cs:=[.bool e.1.1,.slice Ry e.1.2.1.length Rz,.bool e.1.2.2.1,.slice RA e.1.2.2.2.length RB,.bool e.2.1,.slice RD e.2.2.1.length RE,.bool e.2.2.2.1,.slice RF e.2.2.2.2.length RG]) aa aa aa aa aa aa aa aa (bM aa) aa (.inr aa) aa (xE.kp (bg kk) bm) aa ⟨[.bool e.1.1,.slice Ry e.1.2.1.length Rz,.bool e.1.2.2.1,.slice RA e.1.2.2.2.length RB],[.bool e.2.1,.slice RD e.2.2.1.length RE,.bool e.2.2.2.1,.slice RF e.2.2.2.2.length RG],aa,⟨_,_,_,_,aa,q1.raw.kp bm⟩,⟨_,_,_,_,aa,q2.raw.kp bm⟩,⟨f1,f2⟩,⟨f3,f4⟩⟩ ab (λw8 jr qy ρ k8 b8 iI Et=>wV aa ?_);refine ae ?_;refine VS.back (N-(z+1)) ab ⟨_,_,?_,?_,?_,?_,⟨z+1,ab,aa,.inr ⟨ab,_,qy,jr,aa,aa,by rw[dt he];exact Et⟩⟩⟩
   ·refine⟨aa,aa,?_,ag⟩;rw[<-aD (i:=z) ab];rfl
   ·exact⟨aa,ag⟩
   ·rfl
   ·exact⟨Et.lp,ag⟩
  ·refine VS.aP aa (aA (λe=>hlt (aQ.1 e))) ?_;obtain rfl:z=N:=ab;refine ae ?_;refine VS.pG (dD _ _) aa (λwz β kz bz en=> ?_);rw[dP ab] at xE;exact⟨_,aa,xE.new (bg kk) (en.own 26 _ _ aa) kz,bz⟩
set_option maxRecDepth 4000 in
theorem ve (r u:Value) (X:List eO×List eM) (kk:Nat) (w:World) (hL:pd kk w r u X) (hk:kk<=1000000) (UR:X.1.length<=1000000) (hx2:X.2.length<=1000000):
  Calls Tryz.prog 22 #[.agg #[r,u]] w λo w'=>∃ r' u',o=.returned (.agg #[r',u'])/\lj (pc kk) 28 108 w.heap.size w' r' X.1/\lj (pJ kk) 6 106 w.heap.size w' u' X.2/\aU w w':=by
 obtain⟨rp,rc,rfl,SX,hrm⟩:=hL.1.form;obtain⟨up,uc,rfl,MG,hum⟩:=hL.2.form;obtain⟨N,xI⟩:∃ N,N=X.1.length:=⟨_,aa⟩;obtain⟨n,xe⟩:∃ n,n=X.2.length:=⟨_,aa⟩;obtain⟨h1,h2⟩:=hL;rw[<-xI] at h1 SX UR;rw[<-xe] at h2 MG hx2;rw[<-xI,<-xe];refine ah (C:=cH Tryz.prog w _) (args:=[_]) Tryz.func22 aa Tryz.ntmps22 (bM aa) ?_;refine ae ?_
 refine VS.loop (J:=λm L M w'=>∃ z:Nat,z<=N/\m=N-z/\
  ((z=0/\L=[(1,.box 1 0),(2,.box 2 0),(3,.box 3 0),(4,.val (.int .i64 (z:Int)))]/\M=[(1,(36,[.val (.slice rp N rc),.val (.slice up n uc)])),(2,(64,[.val (.slice none 0 0),.val (.slice none 0 0)])),(3,(64,[.val (.slice none 0 0),.val (.slice none 0 0)]))])\/
   (0<z/\∃ vs sp cap,L=[(1,.box 1 0),(2,.box 2 0),(3,.box 3 0),(4,.val (.int .i64 (z:Int)))]/\M=[(1,(36,[.val (.slice rp N rc),.val (.slice up n uc)])),(2,(64,[.val (.slice none 0 0),.val (.slice none 0 0)])),(3,(64,[.row 45 0 z cap,.val (.slice none 0 0)])),(45,(108,vs.flatten.map .val++sp))]/\jq (pc kk) 28 w' z cap vs sp (X.1.take z)))) N ⟨_,_,?_,?_,?_,?_,⟨0,ab,rfl,.inl ⟨rfl,rfl,rfl⟩⟩⟩ ?_
 ·exact cA
 ·exact cA
 ·rfl
 ·exact gn
 rintro m L M wJ ⟨z,hz,rfl,⟨rfl,rfl,rfl⟩|⟨pX,vs,sp,cap,rfl,rfl,xE⟩⟩
 ·refine ae ?_;by_cases hlt:(0:Nat)<N
  ·obtain⟨e,he⟩:∃ e,X.1[0]? =some e:=⟨_,ba ab⟩;obtain⟨b,off,gD,gP,hc,⟨_,_,_,_,_,_,_,rfl,⟨⟨NG,NH,NI,NJ,rfl,g0⟩,⟨f0,j0⟩⟩,⟨⟨NK,NL,NM,NN,rfl,g1⟩,⟨f1,j1⟩⟩,⟨⟨NP,NQ,NR,NS,rfl,g2⟩,⟨f2,j2⟩⟩,⟨⟨NT,NU,NV,NW,rfl,g3⟩,⟨f3,j3⟩⟩,⟨⟨NX,NY,NZ,Oa,rfl,g4⟩,⟨f4,j4⟩⟩,⟨⟨MH,MI,MJ,ML,rfl,g5⟩,⟨f5,j5⟩⟩,⟨⟨MM,MN,MO,MP,rfl,g6⟩,⟨f6,j6⟩⟩⟩⟩:=h1.at he;subst gP;refine VS.aV aa (aE (aQ.2 hlt)) ?_;refine ae ?_;refine VO.cond aa dQ ?_;refine wV aa ?_;refine ae ?_;refine VO.read aa [.bool e.aX.1,.slice NG e.aX.2.1.length NH,.bool e.aX.2.2.1,.slice NI e.aX.2.2.2.length NJ,.bool e.allowed.1,.slice NK e.allowed.2.1.length NL,.bool e.allowed.2.2.1,.slice NM e.allowed.2.2.2.length NN,.bool e.az.1,.slice NP e.az.2.1.length NQ,.bool e.az.2.2.1,.slice NR e.az.2.2.2.length NS,.bool e.used.1,.slice NT e.used.2.1.length NU,.bool e.used.2.2.1,.slice NV e.used.2.2.2.length NW,.bool e.ao.1,.slice NX e.ao.2.1.length NY,.bool e.ao.2.2.1,.slice NZ e.ao.2.2.2.length Oa,.bool e.aq.1,.slice MH e.aq.2.1.length MI,.bool e.aq.2.2.1,.slice MJ e.aq.2.2.2.length ML,.bool e.closing.1,.slice MM e.closing.2.1.length MN,.bool e.closing.2.2.1,.slice MO e.closing.2.2.2.length MP] aa (aM hc 0 _ ⟨[],aa⟩) (wV aa ?_);refine ae ?_;refine VO.call aa aa (fk jc) (λbn cG bo=>(cU e.aX.1 e.aX.2.2.1 e.aX.2.1 e.aX.2.2.2 _ bn (g0.kp (Kp.of (U:=UU) bo)) ab ab).mono ?_);rintro e w1 ⟨r1,rfl,q1,bA⟩;obtain⟨v0p,v0c,v0r,v0d,rfl,-⟩:=q1.raw.jf;refine bZ bA ?_;intro eF _ bb1;refine VO.call aa aa (fk jc) (λcz dB cT=>(cU e.allowed.1 e.allowed.2.2.1 e.allowed.2.1 e.allowed.2.2.2 _ cz (g1.kp (Kp.of (U:=UU) cT)) ab ab).mono ?_);rintro e w2 ⟨r2,rfl,q2,cC⟩;obtain⟨Ry,Rz,RA,RB,rfl,-⟩:=q2.raw.jf;refine bZ cC ?_;intro fe _ bb2;refine VO.call aa aa (fk jc) (λeP fA ft=>(cU e.az.1 e.az.2.2.1 e.az.2.1 e.az.2.2.2 _ eP (g2.kp (Kp.of (U:=UU) ft)) ab ab).mono ?_);rintro e w3 ⟨r3,rfl,q3,dZ⟩;obtain⟨RD,RE,RF,RG,rfl,-⟩:=q3.raw.jf;refine bZ dZ ?_;intro jm _ bb3;refine VO.call aa aa (fk jc) (λfW iJ iB=>(cU e.used.1 e.used.2.2.1 e.used.2.1 e.used.2.2.2 _ fW (g3.kp (Kp.of (U:=UU) iB)) ab ab).mono ?_);rintro e w4 ⟨r4,rfl,q4,ic⟩;obtain⟨v3p,v3c,v3r,v3d,rfl,-⟩:=q4.raw.jf;refine bZ ic ?_;intro mB _ tI;refine VO.call aa aa (fk jc) (λfQ iH fV=>(cU e.ao.1 e.ao.2.2.1 e.ao.2.1 e.ao.2.2.2 _ fQ (g4.kp (Kp.of (U:=UU) fV)) ab ab).mono ?_);rintro e w5 ⟨r5,rfl,q5,iz⟩;obtain⟨v4p,v4c,v4r,v4d,rfl,-⟩:=q5.raw.jf;refine bZ iz ?_;intro lg _ sR;refine VO.call aa aa (fk jc) (λfJ iK gE=>(cU e.aq.1 e.aq.2.2.1 e.aq.2.1 e.aq.2.2.2 _ fJ (g5.kp (Kp.of (U:=UU) gE)) ab ab).mono ?_);rintro e w6 ⟨r6,rfl,q6,ln⟩;obtain⟨v5p,v5c,v5r,v5d,rfl,-⟩:=q6.raw.jf;refine bZ ln ?_;intro lH _ sj;refine VO.call aa aa (fk jc) (λjS na jI=>(cU e.closing.1 e.closing.2.2.1 e.closing.2.1 e.closing.2.2.2 _ jS (g6.kp (Kp.of (U:=UU) jI)) ab ab).mono ?_);rintro e w7 ⟨r7,rfl,q7,ta⟩;obtain⟨v6p,v6c,v6r,v6d,rfl,-⟩:=q7.raw.jf;refine bZ ta ?_;intro rB _ Ct;refine VO.DI (dD _ _) (dV kk) (t:=61) (e:=108) (s:=44) (a:=e) (cs:=[.bool e.aX.1,.slice v0p e.aX.2.1.length v0c,.bool e.aX.2.2.1,.slice v0r e.aX.2.2.2.length v0d,.bool e.allowed.1,.slice Ry e.allowed.2.1.length Rz,.bool e.allowed.2.2.1,.slice RA e.allowed.2.2.2.length RB,.bool e.az.1,.slice RD e.az.2.1.length RE,.bool e.az.2.2.1,.slice RF e.az.2.2.2.length RG,.bool e.used.1,.slice v3p e.used.2.1.length v3c,.bool e.used.2.2.1,.slice v3r e.used.2.2.2.length v3d,.bool e.ao.1,.slice v4p e.ao.2.1.length v4c,.bool e.ao.2.2.1,.slice v4r e.ao.2.2.2.length v4d,.bool e.aq.1,.slice v5p e.aq.2.1.length v5c,.bool e.aq.2.2.1,.slice v5r e.aq.2.2.2.length v5d,.bool e.closing.1,.slice v6p e.closing.2.1.length v6c,.bool e.closing.2.2.1,.slice v6r e.closing.2.2.2.length v6d]) aa aa aa aa aa aa aa aa (bM aa) aa aa aa ⟨[.bool e.aX.1,.slice v0p e.aX.2.1.length v0c,.bool e.aX.2.2.1,.slice v0r e.aX.2.2.2.length v0d],[.bool e.allowed.1,.slice Ry e.allowed.2.1.length Rz,.bool e.allowed.2.2.1,.slice RA e.allowed.2.2.2.length RB],[.bool e.az.1,.slice RD e.az.2.1.length RE,.bool e.az.2.2.1,.slice RF e.az.2.2.2.length RG],[.bool e.used.1,.slice v3p e.used.2.1.length v3c,.bool e.used.2.2.1,.slice v3r e.used.2.2.2.length v3d],[.bool e.ao.1,.slice v4p e.ao.2.1.length v4c,.bool e.ao.2.2.1,.slice v4r e.ao.2.2.2.length v4d],[.bool e.aq.1,.slice v5p e.aq.2.1.length v5c,.bool e.aq.2.2.1,.slice v5r e.aq.2.2.2.length v5d],[.bool e.closing.1,.slice v6p e.closing.2.1.length v6c,.bool e.closing.2.2.1,.slice v6r e.closing.2.2.2.length v6d],aa,⟨⟨_,_,_,_,aa,q1.raw.kp bm⟩,⟨f0,j0⟩⟩,⟨⟨_,_,_,_,aa,q2.raw.kp bm⟩,⟨f1,j1⟩⟩,⟨⟨_,_,_,_,aa,q3.raw.kp bm⟩,⟨f2,j2⟩⟩,⟨⟨_,_,_,_,aa,q4.raw.kp bm⟩,⟨f3,j3⟩⟩,⟨⟨_,_,_,_,aa,q5.raw.kp bm⟩,⟨f4,j4⟩⟩,⟨⟨_,_,_,_,aa,q6.raw.kp bm⟩,⟨f5,j5⟩⟩,⟨⟨_,_,_,_,aa,q7.raw.kp bm⟩,⟨f6,j6⟩⟩⟩ ab (λw8 cap sp k8 b8 Et=>wV aa ?_);refine ae ?_;refine VS.back (N-(0+1)) ab ⟨_,_,?_,?_,?_,?_,⟨1,ab,aa,.inr ⟨ab,_,sp,cap,aa,aa,by rw[sJ he];exact Et⟩⟩⟩
   ·exact cA
   ·exact cA
   ·rfl
   ·exact⟨.lit aa,.lit aa,.lit aa,Et.lp,ag⟩
  ·refine VS.aP aa (aA (λe=>hlt (aQ.1 e))) ?_;have hN0:N=0:=ab;refine ae ?_
   refine VS.loop (J:=λm L M w'=>∃ z:Nat,z<=n/\m=n-z/\
    ((z=0/\L=[(1,.box 1 0),(2,.box 2 0),(3,.box 3 0),(6,.val (.int .i64 (z:Int)))]/\M=[(1,(36,[.val (.slice rp N rc),.val (.slice up n uc)])),(2,(64,[.val (.slice none 0 0),.val (.slice none 0 0)])),(3,(64,[.val (.slice none 0 0),.val (.slice none 0 0)]))])\/
     (0<z/\∃ us tV MU,L=[(1,.box 1 0),(2,.box 2 0),(3,.box 3 0),(6,.val (.int .i64 (z:Int)))]/\M=[(1,(36,[.val (.slice rp N rc),.val (.slice up n uc)])),(2,(64,[.val (.slice none 0 0),.val (.slice none 0 0)])),(3,(64,[.val (.slice none 0 0),.row 70 0 z MU])),(70,(106,us.flatten.map .val++tV))]/\jq (pJ kk) 6 w' z MU us tV (X.2.take z)))) n ⟨_,_,?_,?_,?_,?_,⟨0,ab,rfl,.inl ⟨rfl,rfl,rfl⟩⟩⟩ ?_
   ·exact cA
   ·exact cA
   ·rfl
   ·exact⟨.lit aa,.lit aa,.lit aa,ag⟩
   rintro m2 L2 M2 wL ⟨z,hz,rfl,⟨rfl,rfl,rfl⟩|⟨pX,us,tV,MU,rfl,rfl,hU⟩⟩
   ·refine ae ?_;by_cases hlt:(0:Nat)<n
    ·obtain⟨e,he⟩:∃ e,X.2[0]? =some e:=⟨_,ba ab⟩;obtain⟨b,off,gD,gP,hc,⟨_,rfl,⟨ap,ac,ar,ad,rfl,g0⟩,⟨f0,h0⟩⟩⟩:=h2.at he;subst gP;refine VS.aV aa (aE (aQ.2 hlt)) ?_;refine ae ?_;refine VO.cond aa dQ ?_;refine wV aa ?_;refine ae ?_;refine VO.read aa [.int .i64 e.1,.int .i64 e.2.1,.bool e.2.2.1,.slice ap e.2.2.2.1.length ac,.bool e.2.2.2.2.1,.slice ar e.2.2.2.2.2.length ad] aa (aM hc 0 _ ⟨[],aa⟩) (wV aa ?_);refine ae ?_;refine VO.call aa aa (fk jc) (λpV yn ru=>(cU e.2.2.1 e.2.2.2.2.1 e.2.2.2.1 e.2.2.2.2.2 _ pV (g0.kp (Kp.of (U:=UU) ru)) ab ab).mono ?_);rintro e w8 ⟨r8,rfl,q8,vG⟩;obtain⟨vp,vc,vr,vd,rfl,-⟩:=q8.raw.jf;refine bZ vG ?_;intro vP _ KW;refine VO.DI (dD _ _) (df kk) (t:=62) (e:=106) (s:=69) (a:=e) (cs:=[.int .i64 e.1,.int .i64 e.2.1,.bool e.2.2.1,.slice vp e.2.2.2.1.length vc,.bool e.2.2.2.2.1,.slice vr e.2.2.2.2.2.length vd]) aa aa aa aa aa aa aa aa (bM aa) aa aa aa ⟨[.bool e.2.2.1,.slice vp e.2.2.2.1.length vc,.bool e.2.2.2.2.1,.slice vr e.2.2.2.2.2.length vd],aa,⟨_,_,_,_,aa,q8.raw.kp bm⟩,⟨f0,h0⟩⟩ ab (λw9 jr qy k9 b9 hN9=>wV aa ?_);refine ae ?_;refine VS.back (n-(0+1)) ab ⟨_,_,?_,?_,?_,?_,⟨1,ab,aa,.inr ⟨ab,_,qy,jr,aa,aa,by rw[sJ he];exact hN9⟩⟩⟩
     ·exact cA
     ·exact cA
     ·rfl
     ·exact⟨.lit aa,.lit aa,.lit aa,hN9.lp,ag⟩
    ·refine VS.aP aa (aA (λe=>hlt (aQ.1 e))) ?_;obtain rfl:n=0:=ab;refine ae ?_;refine VS.pG (dD _ _) aa (λwz β kz bz en=> ?_);exact⟨_,_,aa,.inl ⟨aa,JH.1 ab⟩,.inl ⟨aa,JH.1 xe.symm⟩,bz⟩
   ·refine ae ?_;by_cases hlt:z<n
    ·obtain⟨e,he⟩:∃ e,X.2[z]? =some e:=⟨_,ba ab⟩;obtain⟨b,off,gD,gP,hc,⟨_,rfl,⟨ap,ac,ar,ad,rfl,g0⟩,⟨f0,h0⟩⟩⟩:=h2.at he;subst gP;refine VS.aV aa (aE (aQ.2 hlt)) ?_;refine ae ?_;refine VO.cond aa dQ ?_;refine wV aa ?_;refine ae ?_;refine VO.read aa [.int .i64 e.1,.int .i64 e.2.1,.bool e.2.2.1,.slice ap e.2.2.2.1.length ac,.bool e.2.2.2.2.1,.slice ar e.2.2.2.2.2.length ad] aa (aM hc 0 _ ⟨[],aa⟩) (wV aa ?_);refine ae ?_;refine VO.call aa aa (fk jc) (λpV yn ru=>(cU e.2.2.1 e.2.2.2.2.1 e.2.2.2.1 e.2.2.2.2.2 _ pV (g0.kp (Kp.of (U:=UU) ru)) ab ab).mono ?_);rintro e w8 ⟨r8,rfl,q8,vG⟩;obtain⟨vp,vc,vr,vd,rfl,-⟩:=q8.raw.jf;refine bZ vG ?_;intro vP _ KW;refine VO.ss (dD _ _) (df kk) (t:=62) (e:=106) (s:=69) (i:=70) (n:=z) (c:=MU) (vs:=us) (sp:=tV) (es:=X.2.take z) (a:=e) (cs:=[.int .i64 e.1,.int .i64 e.2.1,.bool e.2.2.1,.slice vp e.2.2.2.1.length vc,.bool e.2.2.2.2.1,.slice vr e.2.2.2.2.2.length vd]) aa aa aa aa aa aa aa aa (bM aa) aa (.inr aa) aa (hU.kp (df kk) bm) aa ⟨[.bool e.2.2.1,.slice vp e.2.2.2.1.length vc,.bool e.2.2.2.2.1,.slice vr e.2.2.2.2.2.length vd],aa,⟨_,_,_,_,aa,q8.raw.kp bm⟩,⟨f0,h0⟩⟩ ab (λw9 jr qy ρ k9 b9 iI hN9=>wV aa ?_);refine ae ?_;refine VS.back (n-(z+1)) ab ⟨_,_,?_,?_,?_,?_,⟨z+1,ab,aa,.inr ⟨ab,_,qy,jr,aa,aa,by rw[dt he];exact hN9⟩⟩⟩
     ·refine⟨aa,aa,aa,?_,ag⟩;rw[<-aD (i:=z) ab];rfl
     ·exact cA
     ·rfl
     ·exact⟨.lit aa,.lit aa,.lit aa,hN9.lp,ag⟩
    ·refine VS.aP aa (aA (λe=>hlt (aQ.1 e))) ?_;obtain rfl:z=n:=ab;refine ae ?_;refine VS.pG (dD _ _) aa (λwz β kz bz en=> ?_);rw[dP ab] at hU;exact⟨_,_,aa,.inl ⟨aa,JH.1 ab⟩,hU.new (df kk) (en.own 70 _ _ aa) kz,bz⟩
 ·refine ae ?_;by_cases hlt:z<N
  ·obtain⟨e,he⟩:∃ e,X.1[z]? =some e:=⟨_,ba ab⟩;obtain⟨b,off,gD,gP,hc,⟨_,_,_,_,_,_,_,rfl,⟨⟨NG,NH,NI,NJ,rfl,g0⟩,⟨f0,j0⟩⟩,⟨⟨NK,NL,NM,NN,rfl,g1⟩,⟨f1,j1⟩⟩,⟨⟨NP,NQ,NR,NS,rfl,g2⟩,⟨f2,j2⟩⟩,⟨⟨NT,NU,NV,NW,rfl,g3⟩,⟨f3,j3⟩⟩,⟨⟨NX,NY,NZ,Oa,rfl,g4⟩,⟨f4,j4⟩⟩,⟨⟨MH,MI,MJ,ML,rfl,g5⟩,⟨f5,j5⟩⟩,⟨⟨MM,MN,MO,MP,rfl,g6⟩,⟨f6,j6⟩⟩⟩⟩:=h1.at he;subst gP;refine VS.aV aa (aE (aQ.2 hlt)) ?_;refine ae ?_;refine VO.cond aa dQ ?_;refine wV aa ?_;refine ae ?_;refine VO.read aa [.bool e.aX.1,.slice NG e.aX.2.1.length NH,.bool e.aX.2.2.1,.slice NI e.aX.2.2.2.length NJ,.bool e.allowed.1,.slice NK e.allowed.2.1.length NL,.bool e.allowed.2.2.1,.slice NM e.allowed.2.2.2.length NN,.bool e.az.1,.slice NP e.az.2.1.length NQ,.bool e.az.2.2.1,.slice NR e.az.2.2.2.length NS,.bool e.used.1,.slice NT e.used.2.1.length NU,.bool e.used.2.2.1,.slice NV e.used.2.2.2.length NW,.bool e.ao.1,.slice NX e.ao.2.1.length NY,.bool e.ao.2.2.1,.slice NZ e.ao.2.2.2.length Oa,.bool e.aq.1,.slice MH e.aq.2.1.length MI,.bool e.aq.2.2.1,.slice MJ e.aq.2.2.2.length ML,.bool e.closing.1,.slice MM e.closing.2.1.length MN,.bool e.closing.2.2.1,.slice MO e.closing.2.2.2.length MP] aa (aM hc 0 _ ⟨[],aa⟩) (wV aa ?_);refine ae ?_;refine VO.call aa aa (fk jc) (λbn cG bo=>(cU e.aX.1 e.aX.2.2.1 e.aX.2.1 e.aX.2.2.2 _ bn (g0.kp (Kp.of (U:=UU) bo)) ab ab).mono ?_);rintro e w1 ⟨r1,rfl,q1,bA⟩;obtain⟨v0p,v0c,v0r,v0d,rfl,-⟩:=q1.raw.jf;refine bZ bA ?_;intro eF _ bb1;refine VO.call aa aa (fk jc) (λcz dB cT=>(cU e.allowed.1 e.allowed.2.2.1 e.allowed.2.1 e.allowed.2.2.2 _ cz (g1.kp (Kp.of (U:=UU) cT)) ab ab).mono ?_);rintro e w2 ⟨r2,rfl,q2,cC⟩;obtain⟨Ry,Rz,RA,RB,rfl,-⟩:=q2.raw.jf;refine bZ cC ?_;intro fe _ bb2;refine VO.call aa aa (fk jc) (λeP fA ft=>(cU e.az.1 e.az.2.2.1 e.az.2.1 e.az.2.2.2 _ eP (g2.kp (Kp.of (U:=UU) ft)) ab ab).mono ?_);rintro e w3 ⟨r3,rfl,q3,dZ⟩;obtain⟨RD,RE,RF,RG,rfl,-⟩:=q3.raw.jf;refine bZ dZ ?_;intro jm _ bb3;refine VO.call aa aa (fk jc) (λfW iJ iB=>(cU e.used.1 e.used.2.2.1 e.used.2.1 e.used.2.2.2 _ fW (g3.kp (Kp.of (U:=UU) iB)) ab ab).mono ?_);rintro e w4 ⟨r4,rfl,q4,ic⟩;obtain⟨v3p,v3c,v3r,v3d,rfl,-⟩:=q4.raw.jf;refine bZ ic ?_;intro mB _ tI;refine VO.call aa aa (fk jc) (λfQ iH fV=>(cU e.ao.1 e.ao.2.2.1 e.ao.2.1 e.ao.2.2.2 _ fQ (g4.kp (Kp.of (U:=UU) fV)) ab ab).mono ?_);rintro e w5 ⟨r5,rfl,q5,iz⟩;obtain⟨v4p,v4c,v4r,v4d,rfl,-⟩:=q5.raw.jf;refine bZ iz ?_;intro lg _ sR;refine VO.call aa aa (fk jc) (λfJ iK gE=>(cU e.aq.1 e.aq.2.2.1 e.aq.2.1 e.aq.2.2.2 _ fJ (g5.kp (Kp.of (U:=UU) gE)) ab ab).mono ?_);rintro e w6 ⟨r6,rfl,q6,ln⟩;obtain⟨v5p,v5c,v5r,v5d,rfl,-⟩:=q6.raw.jf;refine bZ ln ?_;intro lH _ sj;refine VO.call aa aa (fk jc) (λjS na jI=>(cU e.closing.1 e.closing.2.2.1 e.closing.2.1 e.closing.2.2.2 _ jS (g6.kp (Kp.of (U:=UU) jI)) ab ab).mono ?_);rintro e w7 ⟨r7,rfl,q7,ta⟩;obtain⟨v6p,v6c,v6r,v6d,rfl,-⟩:=q7.raw.jf;refine bZ ta ?_;intro rB _ Ct;refine VO.ss (dD _ _) (dV kk) (t:=61) (e:=108) (s:=44) (i:=45) (n:=z) (c:=cap) (vs:=vs) (sp:=sp) (es:=X.1.take z) (a:=e) (cs:=[.bool e.aX.1,.slice v0p e.aX.2.1.length v0c,.bool e.aX.2.2.1,.slice v0r e.aX.2.2.2.length v0d,.bool e.allowed.1,.slice Ry e.allowed.2.1.length Rz,.bool e.allowed.2.2.1,.slice RA e.allowed.2.2.2.length RB,.bool e.az.1,.slice RD e.az.2.1.length RE,.bool e.az.2.2.1,.slice RF e.az.2.2.2.length RG,.bool e.used.1,.slice v3p e.used.2.1.length v3c,.bool e.used.2.2.1,.slice v3r e.used.2.2.2.length v3d,.bool e.ao.1,.slice v4p e.ao.2.1.length v4c,.bool e.ao.2.2.1,.slice v4r e.ao.2.2.2.length v4d,.bool e.aq.1,.slice v5p e.aq.2.1.length v5c,.bool e.aq.2.2.1,.slice v5r e.aq.2.2.2.length v5d,.bool e.closing.1,.slice v6p e.closing.2.1.length v6c,.bool e.closing.2.2.1,.slice v6r e.closing.2.2.2.length v6d]) aa aa aa aa aa aa aa aa (bM aa) aa (.inr aa) aa (xE.kp (dV kk) bm) aa ⟨[.bool e.aX.1,.slice v0p e.aX.2.1.length v0c,.bool e.aX.2.2.1,.slice v0r e.aX.2.2.2.length v0d],[.bool e.allowed.1,.slice Ry e.allowed.2.1.length Rz,.bool e.allowed.2.2.1,.slice RA e.allowed.2.2.2.length RB],[.bool e.az.1,.slice RD e.az.2.1.length RE,.bool e.az.2.2.1,.slice RF e.az.2.2.2.length RG],[.bool e.used.1,.slice v3p e.used.2.1.length v3c,.bool e.used.2.2.1,.slice v3r e.used.2.2.2.length v3d],[.bool e.ao.1,.slice v4p e.ao.2.1.length v4c,.bool e.ao.2.2.1,.slice v4r e.ao.2.2.2.length v4d],[.bool e.aq.1,.slice v5p e.aq.2.1.length v5c,.bool e.aq.2.2.1,.slice v5r e.aq.2.2.2.length v5d],[.bool e.closing.1,.slice v6p e.closing.2.1.length v6c,.bool e.closing.2.2.1,.slice v6r e.closing.2.2.2.length v6d],aa,⟨⟨_,_,_,_,aa,q1.raw.kp bm⟩,⟨f0,j0⟩⟩,⟨⟨_,_,_,_,aa,q2.raw.kp bm⟩,⟨f1,j1⟩⟩,⟨⟨_,_,_,_,aa,q3.raw.kp bm⟩,⟨f2,j2⟩⟩,⟨⟨_,_,_,_,aa,q4.raw.kp bm⟩,⟨f3,j3⟩⟩,⟨⟨_,_,_,_,aa,q5.raw.kp bm⟩,⟨f4,j4⟩⟩,⟨⟨_,_,_,_,aa,q6.raw.kp bm⟩,⟨f5,j5⟩⟩,⟨⟨_,_,_,_,aa,q7.raw.kp bm⟩,⟨f6,j6⟩⟩⟩ ab (λw8 jr qy ρ k8 b8 iI Et=>wV aa ?_);refine ae ?_;refine VS.back (N-(z+1)) ab ⟨_,_,?_,?_,?_,?_,⟨z+1,ab,aa,.inr ⟨ab,_,qy,jr,aa,aa,by rw[dt he];exact Et⟩⟩⟩
   ·refine⟨aa,aa,aa,?_,ag⟩;rw[<-aD (i:=z) ab];rfl
   ·exact cA
   ·rfl
   ·exact⟨.lit aa,.lit aa,.lit aa,Et.lp,ag⟩
  ·refine VS.aP aa (aA (λe=>hlt (aQ.1 e))) ?_;have Tl:z=N:=ab;rw[Tl] at xE ⊢;clear Tl hlt hz pX;rw[dP ab] at xE;refine ae ?_
   refine VS.loop (J:=λm L M w'=>∃ z:Nat,z<=n/\m=n-z/\jq (pc kk) 28 w' N cap vs sp X.1/\
    ((z=0/\L=[(1,.box 1 0),(2,.box 2 0),(3,.box 3 0),(6,.val (.int .i64 (z:Int)))]/\M=[(1,(36,[.val (.slice rp N rc),.val (.slice up n uc)])),(2,(64,[.val (.slice none 0 0),.val (.slice none 0 0)])),(3,(64,[.row 45 0 N cap,.val (.slice none 0 0)])),(45,(108,vs.flatten.map .val++sp))])\/
     (0<z/\∃ us tV MU,L=[(1,.box 1 0),(2,.box 2 0),(3,.box 3 0),(6,.val (.int .i64 (z:Int)))]/\M=[(1,(36,[.val (.slice rp N rc),.val (.slice up n uc)])),(2,(64,[.val (.slice none 0 0),.val (.slice none 0 0)])),(3,(64,[.row 45 0 N cap,.row 70 0 z MU])),(45,(108,vs.flatten.map .val++sp)),(70,(106,us.flatten.map .val++tV))]/\jq (pJ kk) 6 w' z MU us tV (X.2.take z)))) n ⟨_,_,?_,?_,?_,?_,⟨0,ab,rfl,xE,.inl ⟨rfl,rfl,rfl⟩⟩⟩ ?_
   ·exact cA
   ·exact cA
   ·rfl
   ·exact⟨.lit aa,.lit aa,.lit aa,xE.lp,ag⟩
   rintro m2 L2 M2 wL ⟨z,hz,rfl,hR,⟨rfl,rfl,rfl⟩|⟨pX,us,tV,MU,rfl,rfl,hU⟩⟩
   ·refine ae ?_;by_cases hlt:(0:Nat)<n
    ·obtain⟨e,he⟩:∃ e,X.2[0]? =some e:=⟨_,ba ab⟩;obtain⟨b,off,gD,gP,hc,⟨_,rfl,⟨ap,ac,ar,ad,rfl,g0⟩,⟨f0,h0⟩⟩⟩:=h2.at he;subst gP;refine VS.aV aa (aE (aQ.2 hlt)) ?_;refine ae ?_;refine VO.cond aa dQ ?_;refine wV aa ?_;refine ae ?_;refine VO.read aa [.int .i64 e.1,.int .i64 e.2.1,.bool e.2.2.1,.slice ap e.2.2.2.1.length ac,.bool e.2.2.2.2.1,.slice ar e.2.2.2.2.2.length ad] aa (aM hc 0 _ ⟨[],aa⟩) (wV aa ?_);refine ae ?_;refine VO.call aa aa (fk jc) (λpV yn ru=>(cU e.2.2.1 e.2.2.2.2.1 e.2.2.2.1 e.2.2.2.2.2 _ pV (g0.kp (Kp.of (U:=UU) ru)) ab ab).mono ?_);rintro e w8 ⟨r8,rfl,q8,vG⟩;obtain⟨vp,vc,vr,vd,rfl,-⟩:=q8.raw.jf;refine bZ vG ?_;intro vP _ KW;refine VO.DI (dD _ _) (df kk) (t:=62) (e:=106) (s:=69) (a:=e) (cs:=[.int .i64 e.1,.int .i64 e.2.1,.bool e.2.2.1,.slice vp e.2.2.2.1.length vc,.bool e.2.2.2.2.1,.slice vr e.2.2.2.2.2.length vd]) aa aa aa aa aa aa aa aa (bM aa) aa aa aa ⟨[.bool e.2.2.1,.slice vp e.2.2.2.1.length vc,.bool e.2.2.2.2.1,.slice vr e.2.2.2.2.2.length vd],aa,⟨_,_,_,_,aa,q8.raw.kp bm⟩,⟨f0,h0⟩⟩ ab (λw9 jr qy k9 b9 hN9=>wV aa ?_);refine ae ?_;refine VS.back (n-(0+1)) ab ⟨_,_,?_,?_,?_,?_,⟨1,ab,aa,hR.kp (dV kk) bm,.inr ⟨ab,_,qy,jr,aa,aa,by rw[sJ he];exact hN9⟩⟩⟩
     ·exact cA
     ·exact cA
     ·rfl
     ·exact⟨.lit aa,.lit aa,.lit aa,hR.lp,hN9.lp,ag⟩
    ·refine VS.aP aa (aA (λe=>hlt (aQ.1 e))) ?_;obtain rfl:n=0:=ab;refine ae ?_;refine VS.pG (dD _ _) aa (λwz β kz bz en=> ?_);exact⟨_,_,aa,hR.new (dV kk) (en.own 45 _ _ aa) kz,.inl ⟨aa,JH.1 xe.symm⟩,bz⟩
   ·refine ae ?_;by_cases hlt:z<n
    ·obtain⟨e,he⟩:∃ e,X.2[z]? =some e:=⟨_,ba ab⟩;obtain⟨b,off,gD,gP,hc,⟨_,rfl,⟨ap,ac,ar,ad,rfl,g0⟩,⟨f0,h0⟩⟩⟩:=h2.at he;subst gP;refine VS.aV aa (aE (aQ.2 hlt)) ?_;refine ae ?_;refine VO.cond aa dQ ?_;refine wV aa ?_;refine ae ?_;refine VO.read aa [.int .i64 e.1,.int .i64 e.2.1,.bool e.2.2.1,.slice ap e.2.2.2.1.length ac,.bool e.2.2.2.2.1,.slice ar e.2.2.2.2.2.length ad] aa (aM hc 0 _ ⟨[],aa⟩) (wV aa ?_);refine ae ?_;refine VO.call aa aa (fk jc) (λpV yn ru=>(cU e.2.2.1 e.2.2.2.2.1 e.2.2.2.1 e.2.2.2.2.2 _ pV (g0.kp (Kp.of (U:=UU) ru)) ab ab).mono ?_);rintro e w8 ⟨r8,rfl,q8,vG⟩;obtain⟨vp,vc,vr,vd,rfl,-⟩:=q8.raw.jf;refine bZ vG ?_;intro vP _ KW;refine VO.ss (dD _ _) (df kk) (t:=62) (e:=106) (s:=69) (i:=70) (n:=z) (c:=MU) (vs:=us) (sp:=tV) (es:=X.2.take z) (a:=e) (cs:=[.int .i64 e.1,.int .i64 e.2.1,.bool e.2.2.1,.slice vp e.2.2.2.1.length vc,.bool e.2.2.2.2.1,.slice vr e.2.2.2.2.2.length vd]) aa aa aa aa aa aa aa aa (bM aa) aa (.inr aa) aa (hU.kp (df kk) bm) aa ⟨[.bool e.2.2.1,.slice vp e.2.2.2.1.length vc,.bool e.2.2.2.2.1,.slice vr e.2.2.2.2.2.length vd],aa,⟨_,_,_,_,aa,q8.raw.kp bm⟩,⟨f0,h0⟩⟩ ab (λw9 jr qy ρ k9 b9 iI hN9=>VO.fi 45 aa (ee hR.eu _ _) (wV aa ?_));refine ae ?_;refine VS.back (n-(z+1)) ab ⟨_,_,?_,?_,?_,?_,⟨z+1,ab,aa,hR.kp (dV kk) bm,.inr ⟨ab,_,qy,jr,aa,aa,by rw[dt he];exact hN9⟩⟩⟩
     ·refine⟨aa,aa,aa,?_,ag⟩;rw[<-aD (i:=z) ab];rfl
     ·exact cA
     ·rfl
     ·exact⟨.lit aa,.lit aa,.lit aa,hR.lp,hN9.lp,ag⟩
    ·refine VS.aP aa (aA (λe=>hlt (aQ.1 e))) ?_;obtain rfl:z=n:=ab;refine ae ?_;refine VS.pG (dD _ _) aa (λwz β kz bz en=> ?_);rw[dP ab] at hU;exact⟨_,_,aa,hR.new (dV kk) (en.own 45 _ _ aa) kz,hU.new (df kk) (en.own 70 _ _ aa) kz,bz⟩
set_option maxRecDepth 4000
def MV {α β:Type} [DecidableEq β] (f:α->β) (xs ys:List α):Bool:=decide (xs.map f=ys.map f)
section
variable {α β:Type} [DecidableEq β] {f:α->β} {xs ys:List α}
theorem BI (h:xs.length≠ys.length):MV f xs ys=false:=aA (λe=>h (by have:=au List.length e;simpa using this))
theorem zP {z:Nat} {a b:α} (ha:xs[z]? =some a) (hb:ys[z]? =some b) (h:f a≠f b):MV f xs ys=false:=aA (λe=>h (by
 have:=au (λl=>l[z]?) e;simpa [List.getElem?_map,ha,hb] using this))
theorem xF {z:Nat} {a b:α} (ha:xs[z]? =some a) (hb:ys[z]? =some b) (h:(xs.take z).map f=(ys.take z).map f) (e:f a=f b):(xs.take (z+1)).map f=(ys.take (z+1)).map f:=by
 rw[dt ha,dt hb,bC,bC,h,List.map_singleton,List.map_singleton,e]
theorem BJ {z:Nat} (h:xs.length=ys.length) (hz:xs.length<=z) (e:(xs.take z).map f=(ys.take z).map f):MV f xs ys=true:=by
 rw[dP hz,dP ab] at e;exact aE e
end
set_option maxRecDepth 4000 in
theorem XV (v u:Value) (xs ys:List RR) (kk:Nat) (w:World) (hx:dm (Rw kk) 4 w v xs) (hy:dm (Rw kk) 4 w u ys) (hk:kk<=1000000):
  Calls Tryz.prog 90 #[v,u,.func (.func 91) #[] #[]] w λo w'=>o=.returned (.bool (MV RR.q xs ys))/\aU w w':=by
 obtain⟨p,c,rfl,hpc,hpm⟩:=hx.form;obtain⟨q,d,rfl,hqd,hqm⟩:=hy.form;obtain⟨N,hN⟩:∃ N,N=xs.length:=⟨_,aa⟩;obtain⟨n,hn⟩:∃ n,n=ys.length:=⟨_,aa⟩;rw[<-hN] at hx hpc;rw[<-hn] at hy hqd;rw[<-hN,<-hn];refine ah (C:=cH Tryz.prog w _) (args:=[_,_,_]) Tryz.func90 aa Tryz.ntmps90 (bM aa) ?_;refine ae ?_;by_cases hNn:N=n
 ·refine VS.aP aa (vJ ab) ?_;refine ae ?_;refine VS.loop (J:=λm L M w'=>∃ z:Nat,z<=N/\m=N-z/\(xs.take z).map RR.q=(ys.take z).map RR.q/\L=[(1,.val (.slice q n d)),(2,.val (.func (.func 91) #[] #[])),(15,.val (.slice p N c)),(16,.val (.int .i64 (N:Int))),(17,.val (.int .i64 (z:Int)))]/\M=[]) N ⟨_,_,?_,?_,?_,?_,⟨0,ab,aa,aa,aa,aa⟩⟩ ?_
  ·exact cA
  ·exact cA
  ·rfl
  ·exact gn
  rintro m L M w1 ⟨z,hz,rfl,gJ,rfl,rfl⟩;refine ae ?_;by_cases hlt:z<N
  ·obtain⟨e,he⟩:∃ e,xs[z]? =some e:=⟨_,ba ab⟩;obtain⟨e',wh⟩:∃ e,ys[z]? =some e:=⟨_,ba ab⟩;obtain⟨b,off,cs,gP,hc,hE⟩:=hx.at he;obtain⟨b',bE,gD,Jv,hc',TB⟩:=hy.at wh;subst gP;subst Jv;have hE0:=hE;have MW:=TB;obtain⟨⟨ap,ac,ar,ad,rfl,ha⟩,hf⟩:=hE;obtain⟨⟨bp,bc,br,bd,rfl,ha'⟩,hf'⟩:=TB;refine VS.aV aa (aE (aQ.2 hlt)) ?_;refine ae ?_;refine VO.cond aa dQ ?_;refine wV aa ?_;refine ae ?_;refine VO.read aa [.bool e.1,.slice ap e.2.1.length ac,.bool e.2.2.1,.slice ar e.2.2.2.length ad] aa (aM hc 0 _ ⟨[],aa⟩) (wV aa ?_);refine ae ?_;refine VO.cond aa dQ ?_;refine wV aa ?_;refine ae ?_;refine VO.read aa [.bool e'.1,.slice bp e'.2.1.length bc,.bool e'.2.2.1,.slice br e'.2.2.2.length bd] aa (aM hc' 0 _ ⟨[],aa⟩) (wV aa ?_);refine ae ?_;by_cases heq:RR.q e=RR.q e'
   ·refine VO.cB aa aa (fk Tryz.func91) (λbn cG bo=>HI _ _ e.q e'.q kk kk bn ((ha.kp (Kp.of (U:=UU) bo)).fZ hf) ((ha'.kp (Kp.of (U:=UU) bo)).fZ hf') ab ab true (aE heq)) (λbn cG bo w1 bA eF _ bb1=>wV aa ?_);refine ae ?_;refine VS.back (N-(z+1)) ab ⟨_,_,?_,?_,?_,?_,⟨z+1,ab,aa,xF he wh gJ heq,aa,aa⟩⟩
    ·refine⟨aa,aa,aa,aa,?_,ag⟩;rw[<-aD (i:=z) ab];rfl
    ·exact cA
    ·rfl
    ·exact gn
   ·refine VO.cB aa aa (fk Tryz.func91) (λbn cG bo=>HI _ _ e.q e'.q kk kk bn ((ha.kp (Kp.of (U:=UU) bo)).fZ hf) ((ha'.kp (Kp.of (U:=UU) bo)).fZ hf') ab ab false (aA heq)) (λbn cG bo w1 bA eF _ bb1=>wV aa ?_);refine ae ?_;refine bl ?_;intro wz kz bz;exact⟨by rw[zP he wh heq];rfl,bz⟩
  ·refine VS.aP aa (aA (λe=>hlt (aQ.1 e))) ?_;refine ae ?_;refine bl ?_;intro wz kz bz;exact⟨by rw[BJ ab ab gJ];rfl,bz⟩
 ·refine VS.aV aa (Bk ab) ?_;refine ae ?_;refine bl ?_;intro wz kz bz;exact⟨by rw[BI ab];rfl,bz⟩
theorem rw_ok (kk:Nat):jo (Rw kk) 4 where
 kp:=λh k=>h.kp k
 len:=λh=>h.1.len
 ok:=λh=>h.1.ok
def eO.l (r:eO):List RR:=[r.aX,r.allowed,r.az,r.used,r.ao,r.aq,r.closing]
theorem rowl_eq (a b:eO):MV RR.q a.l b.l=decide (a.q=b.q):=by
 unfold MV eO.l eO.q;simp only[List.map_cons,List.map_nil,List.cons.injEq,and_true,bh.mk.injEq]
set_option maxRecDepth 4000 in
theorem QQ (v u:Value) (cs gD:List Value) (a b:eO) (kk:Nat) (w:World) (hv:v=.agg cs.toArray) (hu:u=.agg gD.toArray) (ha:pc kk w cs a) (hb:pc kk w gD b) (hk:kk<=1000000):
  Calls Tryz.prog 56 #[v,u] w λo w'=>o=.returned (.bool (decide (a.q=b.q)))/\aU w w':=by
 obtain⟨_,_,_,_,_,_,_,rfl,⟨⟨NG,NH,NI,NJ,rfl,g0⟩,gf0⟩,⟨⟨NK,NL,NM,NN,rfl,g1⟩,gf1⟩,⟨⟨NP,NQ,NR,NS,rfl,g2⟩,gf2⟩,⟨⟨NT,NU,NV,NW,rfl,g3⟩,gf3⟩,⟨⟨NX,NY,NZ,Oa,rfl,g4⟩,gf4⟩,⟨⟨MH,MI,MJ,ML,rfl,g5⟩,gf5⟩,⟨⟨MM,MN,MO,MP,rfl,g6⟩,gf6⟩⟩:=ha;obtain⟨_,_,_,_,_,_,_,rfl,⟨⟨y0p,y0c,y0r,y0d,rfl,h0⟩,hf0⟩,⟨⟨y1p,y1c,y1r,y1d,rfl,h1⟩,ZU⟩,⟨⟨y2p,y2c,y2r,y2d,rfl,h2⟩,ZV⟩,⟨⟨y3p,y3c,y3r,y3d,rfl,h3⟩,hf3⟩,⟨⟨y4p,y4c,y4r,y4d,rfl,h4⟩,hf4⟩,⟨⟨y5p,y5c,y5r,y5d,rfl,h5⟩,hf5⟩,⟨⟨y6p,y6c,y6r,y6d,rfl,h6⟩,hf6⟩⟩:=hb;subst hv;subst hu;refine ah (C:=cH Tryz.prog w _) (args:=[_,_]) Tryz.func56 aa Tryz.ntmps56 (bM aa) ?_;refine ae ?_
 refine VO.eB aa (fk Tryz.func90) (λbn β cG bo ho=>(XV _ _ a.l b.l kk bn
  (gw (rw_ok kk) (ho.own 21 (.base vo) _ _ rfl) [] (vs:=[[.bool a.aX.1,.slice NG a.aX.2.1.length NH,.bool a.aX.2.2.1,.slice NI a.aX.2.2.2.length NJ],[.bool a.allowed.1,.slice NK a.allowed.2.1.length NL,.bool a.allowed.2.2.1,.slice NM a.allowed.2.2.2.length NN],[.bool a.az.1,.slice NP a.az.2.1.length NQ,.bool a.az.2.2.1,.slice NR a.az.2.2.2.length NS],[.bool a.used.1,.slice NT a.used.2.1.length NU,.bool a.used.2.2.1,.slice NV a.used.2.2.2.length NW],[.bool a.ao.1,.slice NX a.ao.2.1.length NY,.bool a.ao.2.2.1,.slice NZ a.ao.2.2.2.length Oa],[.bool a.aq.1,.slice MH a.aq.2.1.length MI,.bool a.aq.2.2.1,.slice MJ a.aq.2.2.2.length ML],[.bool a.closing.1,.slice MM a.closing.2.1.length MN,.bool a.closing.2.2.1,.slice MO a.closing.2.2.2.length MP]]) rfl (cd.cons (cs:=_) ⟨⟨_,_,_,_,rfl,g0.kp (Kp.of (U:=UU) bo)⟩,gf0⟩ (cd.cons (cs:=_) ⟨⟨_,_,_,_,rfl,g1.kp (Kp.of (U:=UU) bo)⟩,gf1⟩ (cd.cons (cs:=_) ⟨⟨_,_,_,_,rfl,g2.kp (Kp.of (U:=UU) bo)⟩,gf2⟩ (cd.cons (cs:=_) ⟨⟨_,_,_,_,rfl,g3.kp (Kp.of (U:=UU) bo)⟩,gf3⟩ (cd.cons (cs:=_) ⟨⟨_,_,_,_,rfl,g4.kp (Kp.of (U:=UU) bo)⟩,gf4⟩ (cd.cons (cs:=_) ⟨⟨_,_,_,_,rfl,g5.kp (Kp.of (U:=UU) bo)⟩,gf5⟩ (cd.cons (cs:=_) ⟨⟨_,_,_,_,rfl,g6.kp (Kp.of (U:=UU) bo)⟩,gf6⟩ (cd.nil)))))))) rfl (bL 7) bq)
  (gw (rw_ok kk) (ho.own 36 (.base (qE _ vo)) _ _ rfl) [] (vs:=[[.bool b.aX.1,.slice y0p b.aX.2.1.length y0c,.bool b.aX.2.2.1,.slice y0r b.aX.2.2.2.length y0d],[.bool b.allowed.1,.slice y1p b.allowed.2.1.length y1c,.bool b.allowed.2.2.1,.slice y1r b.allowed.2.2.2.length y1d],[.bool b.az.1,.slice y2p b.az.2.1.length y2c,.bool b.az.2.2.1,.slice y2r b.az.2.2.2.length y2d],[.bool b.used.1,.slice y3p b.used.2.1.length y3c,.bool b.used.2.2.1,.slice y3r b.used.2.2.2.length y3d],[.bool b.ao.1,.slice y4p b.ao.2.1.length y4c,.bool b.ao.2.2.1,.slice y4r b.ao.2.2.2.length y4d],[.bool b.aq.1,.slice y5p b.aq.2.1.length y5c,.bool b.aq.2.2.1,.slice y5r b.aq.2.2.2.length y5d],[.bool b.closing.1,.slice y6p b.closing.2.1.length y6c,.bool b.closing.2.2.1,.slice y6r b.closing.2.2.2.length y6d]]) rfl (cd.cons (cs:=_) ⟨⟨_,_,_,_,rfl,h0.kp (Kp.of (U:=UU) bo)⟩,hf0⟩ (cd.cons (cs:=_) ⟨⟨_,_,_,_,rfl,h1.kp (Kp.of (U:=UU) bo)⟩,ZU⟩ (cd.cons (cs:=_) ⟨⟨_,_,_,_,rfl,h2.kp (Kp.of (U:=UU) bo)⟩,ZV⟩ (cd.cons (cs:=_) ⟨⟨_,_,_,_,rfl,h3.kp (Kp.of (U:=UU) bo)⟩,hf3⟩ (cd.cons (cs:=_) ⟨⟨_,_,_,_,rfl,h4.kp (Kp.of (U:=UU) bo)⟩,hf4⟩ (cd.cons (cs:=_) ⟨⟨_,_,_,_,rfl,h5.kp (Kp.of (U:=UU) bo)⟩,hf5⟩ (cd.cons (cs:=_) ⟨⟨_,_,_,_,rfl,h6.kp (Kp.of (U:=UU) bo)⟩,hf6⟩ (cd.nil)))))))) rfl (bL 7) bq) hk).mono ?_)
 rintro o w1 ⟨rfl,bA⟩;rw[rowl_eq];refine bZ bA ?_;intro eF _ bb1;refine bl ?_;intro wz kz bz;exact⟨aa,bz⟩
theorem IH (v u:Value) (cs gD:List Value) (a b:eO) (kk:Nat) (w:World) (hv:v=.agg cs.toArray) (hu:u=.agg gD.toArray) (ha:pc kk w cs a) (hb:pc kk w gD b) (hk:kk<=1000000) (x:Bool) (hx:decide (a.q=b.q)=x):
 Calls Tryz.prog 56 #[v,u] w λo w'=>o=.returned (.bool x)/\aU w w':=hx▸QQ v u cs gD a b kk w hv hu ha hb hk
theorem VP {a b:eM} (h:a.1≠b.1\/a.2.1≠b.2.1\/a.2.2.q≠b.2.2.q):decide (a.q=b.q)=false:=by
 refine aA (λe=> ?_);unfold eM.q at e;simp only[Prod.mk.injEq] at e;rcases h with h|h|h
 ·exact h e.1
 ·exact h e.2.1
 ·exact h e.2.2
theorem useq_eq {a b:eM} (h1:a.1=b.1) (h2:a.2.1=b.2.1):decide (a.q=b.q)=decide (a.2.2.q=b.2.2.q):=by
 unfold eM.q;simp only[Prod.mk.injEq,h1,h2,true_and]
set_option maxRecDepth 4000 in
theorem QR (v u:Value) (cs gD:List Value) (a b:eM) (kk:Nat) (w:World) (hv:v=.agg cs.toArray) (hu:u=.agg gD.toArray) (ha:pJ kk w cs a) (hb:pJ kk w gD b) (hk:kk<=1000000):
  Calls Tryz.prog 58 #[v,u] w λo w'=>o=.returned (.bool (decide (a.q=b.q)))/\aU w w':=by
 obtain⟨_,rfl,⟨ap,ac,ar,ad,rfl,ha⟩,hf⟩:=ha;obtain⟨_,rfl,⟨bp,bc,br,bd,rfl,ha'⟩,hf'⟩:=hb;subst hv;subst hu;refine ah (C:=cH Tryz.prog w _) (args:=[_,_]) Tryz.func58 aa Tryz.ntmps58 (bM aa) ?_;refine ae ?_;by_cases h1:a.1=b.1
 ·refine VO.fix 10 aa (au (λb=>AV.val (.bool b)) (Vj h1)) ?_;refine ae ?_;by_cases h2:a.2.1=b.2.1
  ·refine VO.fix 17 aa (au (λb=>AV.val (.bool b)) (Vj h2)) ?_;refine ae ?_;rw[useq_eq h1 h2];refine VO.cB aa aa (fk Tryz.func91) (λbn cG bo=>DD _ _ a.2.2.q b.2.2.q kk kk bn ((ha.kp (Kp.of (U:=UU) bo)).fZ hf) ((ha'.kp (Kp.of (U:=UU) bo)).fZ hf') ab ab) (λbn cG bo w1 bA eF _ bb1=>wV aa ?_);refine ae ?_;refine bl ?_;intro wz kz bz;exact⟨aa,bz⟩
  ·refine VO.fix 17 aa (au (λb=>AV.val (.bool b)) (HT h2)) ?_;refine ae ?_;refine bl ?_;intro wz kz bz;exact⟨by rw[VP (.inr (.inl h2))];rfl,bz⟩
 ·refine VO.fix 10 aa (au (λb=>AV.val (.bool b)) (HT h1)) ?_;refine ae ?_;refine bl ?_;intro wz kz bz;exact⟨by rw[VP (.inl h1)];rfl,bz⟩
theorem II (v u:Value) (cs gD:List Value) (a b:eM) (kk:Nat) (w:World) (hv:v=.agg cs.toArray) (hu:u=.agg gD.toArray) (ha:pJ kk w cs a) (hb:pJ kk w gD b) (hk:kk<=1000000) (x:Bool) (hx:decide (a.q=b.q)=x):
 Calls Tryz.prog 58 #[v,u] w λo w'=>o=.returned (.bool x)/\aU w w':=hx▸QR v u cs gD a b kk w hv hu ha hb hk
set_option maxRecDepth 4000 in
theorem XW (v u:Value) (xs ys:List eO) (kk:Nat) (w:World) (hx:dm (pc kk) 28 w v xs) (hy:dm (pc kk) 28 w u ys) (hk:kk<=1000000):
  Calls Tryz.prog 55 #[v,u,.func (.func 56) #[] #[]] w λo w'=>o=.returned (.bool (MV eO.q xs ys))/\aU w w':=by
 obtain⟨p,c,rfl,hpc,hpm⟩:=hx.form;obtain⟨q,d,rfl,hqd,hqm⟩:=hy.form;obtain⟨N,hN⟩:∃ N,N=xs.length:=⟨_,aa⟩;obtain⟨n,hn⟩:∃ n,n=ys.length:=⟨_,aa⟩;rw[<-hN] at hx hpc;rw[<-hn] at hy hqd;rw[<-hN,<-hn];refine ah (C:=cH Tryz.prog w _) (args:=[_,_,_]) Tryz.func55 aa Tryz.ntmps55 (bM aa) ?_;refine ae ?_;by_cases hNn:N=n
 ·refine VS.aP aa (vJ ab) ?_;refine ae ?_;refine VS.loop (J:=λm L M w'=>∃ z:Nat,z<=N/\m=N-z/\(xs.take z).map eO.q=(ys.take z).map eO.q/\L=[(1,.val (.slice q n d)),(2,.val (.func (.func 56) #[] #[])),(15,.val (.slice p N c)),(16,.val (.int .i64 (N:Int))),(17,.val (.int .i64 (z:Int)))]/\M=[]) N ⟨_,_,?_,?_,?_,?_,⟨0,ab,aa,aa,aa,aa⟩⟩ ?_
  ·exact cA
  ·exact cA
  ·rfl
  ·exact gn
  rintro m L M w1 ⟨z,hz,rfl,gJ,rfl,rfl⟩;refine ae ?_;by_cases hlt:z<N
  ·obtain⟨e,he⟩:∃ e,xs[z]? =some e:=⟨_,ba ab⟩;obtain⟨e',wh⟩:∃ e,ys[z]? =some e:=⟨_,ba ab⟩;obtain⟨b,off,cs,gP,hc,hE⟩:=hx.at he;obtain⟨b',bE,gD,Jv,hc',TB⟩:=hy.at wh;subst gP;subst Jv;have hE0:=hE;have MW:=TB;obtain⟨_,_,_,_,_,_,_,rfl,⟨⟨NG,NH,NI,NJ,rfl,g0⟩,gf0⟩,⟨⟨NK,NL,NM,NN,rfl,g1⟩,gf1⟩,⟨⟨NP,NQ,NR,NS,rfl,g2⟩,gf2⟩,⟨⟨NT,NU,NV,NW,rfl,g3⟩,gf3⟩,⟨⟨NX,NY,NZ,Oa,rfl,g4⟩,gf4⟩,⟨⟨MH,MI,MJ,ML,rfl,g5⟩,gf5⟩,⟨⟨MM,MN,MO,MP,rfl,g6⟩,gf6⟩⟩:=hE;obtain⟨_,_,_,_,_,_,_,rfl,⟨⟨y0p,y0c,y0r,y0d,rfl,h0⟩,hf0⟩,⟨⟨y1p,y1c,y1r,y1d,rfl,h1⟩,ZU⟩,⟨⟨y2p,y2c,y2r,y2d,rfl,h2⟩,ZV⟩,⟨⟨y3p,y3c,y3r,y3d,rfl,h3⟩,hf3⟩,⟨⟨y4p,y4c,y4r,y4d,rfl,h4⟩,hf4⟩,⟨⟨y5p,y5c,y5r,y5d,rfl,h5⟩,hf5⟩,⟨⟨y6p,y6c,y6r,y6d,rfl,h6⟩,hf6⟩⟩:=TB;refine VS.aV aa (aE (aQ.2 hlt)) ?_;refine ae ?_;refine VO.cond aa dQ ?_;refine wV aa ?_;refine ae ?_;refine VO.read aa [.bool e.aX.1,.slice NG e.aX.2.1.length NH,.bool e.aX.2.2.1,.slice NI e.aX.2.2.2.length NJ,.bool e.allowed.1,.slice NK e.allowed.2.1.length NL,.bool e.allowed.2.2.1,.slice NM e.allowed.2.2.2.length NN,.bool e.az.1,.slice NP e.az.2.1.length NQ,.bool e.az.2.2.1,.slice NR e.az.2.2.2.length NS,.bool e.used.1,.slice NT e.used.2.1.length NU,.bool e.used.2.2.1,.slice NV e.used.2.2.2.length NW,.bool e.ao.1,.slice NX e.ao.2.1.length NY,.bool e.ao.2.2.1,.slice NZ e.ao.2.2.2.length Oa,.bool e.aq.1,.slice MH e.aq.2.1.length MI,.bool e.aq.2.2.1,.slice MJ e.aq.2.2.2.length ML,.bool e.closing.1,.slice MM e.closing.2.1.length MN,.bool e.closing.2.2.1,.slice MO e.closing.2.2.2.length MP] aa (aM hc 0 _ ⟨[],aa⟩) (wV aa ?_);refine ae ?_;refine VO.cond aa dQ ?_;refine wV aa ?_;refine ae ?_;refine VO.read aa [.bool e'.aX.1,.slice y0p e'.aX.2.1.length y0c,.bool e'.aX.2.2.1,.slice y0r e'.aX.2.2.2.length y0d,.bool e'.allowed.1,.slice y1p e'.allowed.2.1.length y1c,.bool e'.allowed.2.2.1,.slice y1r e'.allowed.2.2.2.length y1d,.bool e'.az.1,.slice y2p e'.az.2.1.length y2c,.bool e'.az.2.2.1,.slice y2r e'.az.2.2.2.length y2d,.bool e'.used.1,.slice y3p e'.used.2.1.length y3c,.bool e'.used.2.2.1,.slice y3r e'.used.2.2.2.length y3d,.bool e'.ao.1,.slice y4p e'.ao.2.1.length y4c,.bool e'.ao.2.2.1,.slice y4r e'.ao.2.2.2.length y4d,.bool e'.aq.1,.slice y5p e'.aq.2.1.length y5c,.bool e'.aq.2.2.1,.slice y5r e'.aq.2.2.2.length y5d,.bool e'.closing.1,.slice y6p e'.closing.2.1.length y6c,.bool e'.closing.2.2.1,.slice y6r e'.closing.2.2.2.length y6d] aa (aM hc' 0 _ ⟨[],aa⟩) (wV aa ?_);refine ae ?_;by_cases heq:eO.q e=eO.q e'
   ·refine VO.cB aa aa (fk Tryz.func56) (λbn cG bo=>IH _ _ _ _ e e' kk bn aa aa ((dV kk).kp hE0 (Kp.of (U:=UU) bo)) ((dV kk).kp MW (Kp.of (U:=UU) bo)) hk true (aE heq)) (λbn cG bo w1 bA eF _ bb1=>wV aa ?_);refine ae ?_;refine VS.back (N-(z+1)) ab ⟨_,_,?_,?_,?_,?_,⟨z+1,ab,aa,xF he wh gJ heq,aa,aa⟩⟩
    ·refine⟨aa,aa,aa,aa,?_,ag⟩;rw[<-aD (i:=z) ab];rfl
    ·exact cA
    ·rfl
    ·exact gn
   ·refine VO.cB aa aa (fk Tryz.func56) (λbn cG bo=>IH _ _ _ _ e e' kk bn aa aa ((dV kk).kp hE0 (Kp.of (U:=UU) bo)) ((dV kk).kp MW (Kp.of (U:=UU) bo)) hk false (aA heq)) (λbn cG bo w1 bA eF _ bb1=>wV aa ?_);refine ae ?_;refine bl ?_;intro wz kz bz;exact⟨by rw[zP he wh heq];rfl,bz⟩
  ·refine VS.aP aa (aA (λe=>hlt (aQ.1 e))) ?_;refine ae ?_;refine bl ?_;intro wz kz bz;exact⟨by rw[BJ ab ab gJ];rfl,bz⟩
 ·refine VS.aV aa (Bk ab) ?_;refine ae ?_;refine bl ?_;intro wz kz bz;exact⟨by rw[BI ab];rfl,bz⟩
theorem QS (v u:Value) (xs ys:List eO) (kk:Nat) (w:World) (hx:dm (pc kk) 28 w v xs) (hy:dm (pc kk) 28 w u ys) (hk:kk<=1000000) (b:Bool) (hb:MV eO.q xs ys=b):
 Calls Tryz.prog 55 #[v,u,.func (.func 56) #[] #[]] w λo w'=>o=.returned (.bool b)/\aU w w':=hb▸XW v u xs ys kk w hx hy hk
set_option maxRecDepth 4000 in
theorem XX (v u:Value) (xs ys:List eM) (kk:Nat) (w:World) (hx:dm (pJ kk) 6 w v xs) (hy:dm (pJ kk) 6 w u ys) (hk:kk<=1000000):
  Calls Tryz.prog 57 #[v,u,.func (.func 58) #[] #[]] w λo w'=>o=.returned (.bool (MV eM.q xs ys))/\aU w w':=by
 obtain⟨p,c,rfl,hpc,hpm⟩:=hx.form;obtain⟨q,d,rfl,hqd,hqm⟩:=hy.form;obtain⟨N,hN⟩:∃ N,N=xs.length:=⟨_,aa⟩;obtain⟨n,hn⟩:∃ n,n=ys.length:=⟨_,aa⟩;rw[<-hN] at hx hpc;rw[<-hn] at hy hqd;rw[<-hN,<-hn];refine ah (C:=cH Tryz.prog w _) (args:=[_,_,_]) Tryz.func57 aa Tryz.ntmps57 (bM aa) ?_;refine ae ?_;by_cases hNn:N=n
 ·refine VS.aP aa (vJ ab) ?_;refine ae ?_;refine VS.loop (J:=λm L M w'=>∃ z:Nat,z<=N/\m=N-z/\(xs.take z).map eM.q=(ys.take z).map eM.q/\L=[(1,.val (.slice q n d)),(2,.val (.func (.func 58) #[] #[])),(15,.val (.slice p N c)),(16,.val (.int .i64 (N:Int))),(17,.val (.int .i64 (z:Int)))]/\M=[]) N ⟨_,_,?_,?_,?_,?_,⟨0,ab,aa,aa,aa,aa⟩⟩ ?_
  ·exact cA
  ·exact cA
  ·rfl
  ·exact gn
  rintro m L M w1 ⟨z,hz,rfl,gJ,rfl,rfl⟩;refine ae ?_;by_cases hlt:z<N
  ·obtain⟨e,he⟩:∃ e,xs[z]? =some e:=⟨_,ba ab⟩;obtain⟨e',wh⟩:∃ e,ys[z]? =some e:=⟨_,ba ab⟩;obtain⟨b,off,cs,gP,hc,hE⟩:=hx.at he;obtain⟨b',bE,gD,Jv,hc',TB⟩:=hy.at wh;subst gP;subst Jv;have hE0:=hE;have MW:=TB;obtain⟨_,rfl,⟨ap,ac,ar,ad,rfl,ha⟩,hf⟩:=hE;obtain⟨_,rfl,⟨bp,bc,br,bd,rfl,ha'⟩,hf'⟩:=TB;refine VS.aV aa (aE (aQ.2 hlt)) ?_;refine ae ?_;refine VO.cond aa dQ ?_;refine wV aa ?_;refine ae ?_;refine VO.read aa [.int .i64 e.1,.int .i64 e.2.1,.bool e.2.2.1,.slice ap e.2.2.2.1.length ac,.bool e.2.2.2.2.1,.slice ar e.2.2.2.2.2.length ad] aa (aM hc 0 _ ⟨[],aa⟩) (wV aa ?_);refine ae ?_;refine VO.cond aa dQ ?_;refine wV aa ?_;refine ae ?_;refine VO.read aa [.int .i64 e'.1,.int .i64 e'.2.1,.bool e'.2.2.1,.slice bp e'.2.2.2.1.length bc,.bool e'.2.2.2.2.1,.slice br e'.2.2.2.2.2.length bd] aa (aM hc' 0 _ ⟨[],aa⟩) (wV aa ?_);refine ae ?_;by_cases heq:eM.q e=eM.q e'
   ·refine VO.cB aa aa (fk Tryz.func58) (λbn cG bo=>II _ _ _ _ e e' kk bn aa aa ((df kk).kp hE0 (Kp.of (U:=UU) bo)) ((df kk).kp MW (Kp.of (U:=UU) bo)) hk true (aE heq)) (λbn cG bo w1 bA eF _ bb1=>wV aa ?_);refine ae ?_;refine VS.back (N-(z+1)) ab ⟨_,_,?_,?_,?_,?_,⟨z+1,ab,aa,xF he wh gJ heq,aa,aa⟩⟩
    ·refine⟨aa,aa,aa,aa,?_,ag⟩;rw[<-aD (i:=z) ab];rfl
    ·exact cA
    ·rfl
    ·exact gn
   ·refine VO.cB aa aa (fk Tryz.func58) (λbn cG bo=>II _ _ _ _ e e' kk bn aa aa ((df kk).kp hE0 (Kp.of (U:=UU) bo)) ((df kk).kp MW (Kp.of (U:=UU) bo)) hk false (aA heq)) (λbn cG bo w1 bA eF _ bb1=>wV aa ?_);refine ae ?_;refine bl ?_;intro wz kz bz;exact⟨by rw[zP he wh heq];rfl,bz⟩
  ·refine VS.aP aa (aA (λe=>hlt (aQ.1 e))) ?_;refine ae ?_;refine bl ?_;intro wz kz bz;exact⟨by rw[BJ ab ab gJ];rfl,bz⟩
 ·refine VS.aV aa (Bk ab) ?_;refine ae ?_;refine bl ?_;intro wz kz bz;exact⟨by rw[BI ab];rfl,bz⟩
theorem eqUse_ok (v u:Value) (xs ys:List eM) (kk:Nat) (w:World) (hx:dm (pJ kk) 6 w v xs) (hy:dm (pJ kk) 6 w u ys) (hk:kk<=1000000) (b:Bool) (hb:MV eM.q xs ys=b):
 Calls Tryz.prog 57 #[v,u,.func (.func 58) #[] #[]] w λo w'=>o=.returned (.bool b)/\aU w w':=hb▸XX v u xs ys kk w hx hy hk
theorem eG (v u:Value) (q r:Rat) (k l:Nat) (w:World) (hv:ck w v q k) (hu:ck w u r l) (hk:k<=33554431) (hl:l<=33554431) (b:Bool) (hb:decide (q=r)=b):
 Calls Tryz.prog 54 #[v,u] w λe w'=>e=.returned (.bool b)/\aU w w':=hb▸Qp v u q r k l w hv hu hk hl
set_option maxRecDepth 4000 in
theorem QT (v u:Value) (cs gD:List Value) (a b:eO) (kk:Nat) (w:World) (hv:v=.agg cs.toArray) (hu:u=.agg gD.toArray) (ha:pc kk w cs a) (hb:pc kk w gD b) (hk:kk<=1000000):
  Calls Tryz.prog 53 #[v,u] w λo w'=>o=.returned (.bool (decide (a.q=b.q)))/\aU w w':=by
 obtain⟨_,_,_,_,_,_,_,rfl,⟨⟨NG,NH,NI,NJ,rfl,g0⟩,gf0⟩,⟨⟨NK,NL,NM,NN,rfl,g1⟩,gf1⟩,⟨⟨NP,NQ,NR,NS,rfl,g2⟩,gf2⟩,⟨⟨NT,NU,NV,NW,rfl,g3⟩,gf3⟩,⟨⟨NX,NY,NZ,Oa,rfl,g4⟩,gf4⟩,⟨⟨MH,MI,MJ,ML,rfl,g5⟩,gf5⟩,⟨⟨MM,MN,MO,MP,rfl,g6⟩,gf6⟩⟩:=ha;obtain⟨_,_,_,_,_,_,_,rfl,⟨⟨y0p,y0c,y0r,y0d,rfl,h0⟩,hf0⟩,⟨⟨y1p,y1c,y1r,y1d,rfl,h1⟩,ZU⟩,⟨⟨y2p,y2c,y2r,y2d,rfl,h2⟩,ZV⟩,⟨⟨y3p,y3c,y3r,y3d,rfl,h3⟩,hf3⟩,⟨⟨y4p,y4c,y4r,y4d,rfl,h4⟩,hf4⟩,⟨⟨y5p,y5c,y5r,y5d,rfl,h5⟩,hf5⟩,⟨⟨y6p,y6c,y6r,y6d,rfl,h6⟩,hf6⟩⟩:=hb;subst hv;subst hu;refine ah (C:=cH Tryz.prog w _) (args:=[_,_]) Tryz.func53 aa Tryz.ntmps53 (bM aa) ?_;refine ae ?_;by_cases e0:a.aX.q=b.aX.q
 case neg=>
  refine VO.cB aa aa (fk oC) (λbn cG bo=>eG _ _ a.aX.q b.aX.q kk kk bn ((g0.kp (Kp.of (U:=UU) bo)).fZ gf0) ((h0.kp (Kp.of (U:=UU) bo)).fZ hf0) ab ab false (aA e0)) (λbn cG bo w1 bA eF _ bb1=>wV aa ?_);refine ae ?_;refine bl ?_;intro wz kz bz;exact⟨by rw[aA (λe=>e0 (by have:=au bh.aX e;exact this))];rfl,bz⟩
 refine VO.cB aa aa (fk oC) (λbn cG bo=>eG _ _ a.aX.q b.aX.q kk kk bn ((g0.kp (Kp.of (U:=UU) bo)).fZ gf0) ((h0.kp (Kp.of (U:=UU) bo)).fZ hf0) ab ab true (aE e0)) (λbn cG bo w1 bA eF _ bb1=>wV aa ?_);refine ae ?_;by_cases e1:a.allowed.q=b.allowed.q
 case neg=>
  refine VO.cB aa aa (fk oC) (λcz dB cT=>eG _ _ a.allowed.q b.allowed.q kk kk cz ((g1.kp (Kp.of (U:=UU) cT)).fZ gf1) ((h1.kp (Kp.of (U:=UU) cT)).fZ ZU) ab ab false (aA e1)) (λcz dB cT w2 cC fe _ bb2=>wV aa ?_);refine ae ?_;refine bl ?_;intro wz kz bz;exact⟨by rw[aA (λe=>e1 (by have:=au bh.allowed e;exact this))];rfl,bz⟩
 refine VO.cB aa aa (fk oC) (λcz dB cT=>eG _ _ a.allowed.q b.allowed.q kk kk cz ((g1.kp (Kp.of (U:=UU) cT)).fZ gf1) ((h1.kp (Kp.of (U:=UU) cT)).fZ ZU) ab ab true (aE e1)) (λcz dB cT w2 cC fe _ bb2=>wV aa ?_);refine ae ?_;by_cases e2:a.az.q=b.az.q
 case neg=>
  refine VO.cB aa aa (fk oC) (λeP fA ft=>eG _ _ a.az.q b.az.q kk kk eP ((g2.kp (Kp.of (U:=UU) ft)).fZ gf2) ((h2.kp (Kp.of (U:=UU) ft)).fZ ZV) ab ab false (aA e2)) (λeP fA ft w3 dZ jm _ bb3=>wV aa ?_);refine ae ?_;refine bl ?_;intro wz kz bz;exact⟨by rw[aA (λe=>e2 (by have:=au bh.az e;exact this))];rfl,bz⟩
 refine VO.cB aa aa (fk oC) (λeP fA ft=>eG _ _ a.az.q b.az.q kk kk eP ((g2.kp (Kp.of (U:=UU) ft)).fZ gf2) ((h2.kp (Kp.of (U:=UU) ft)).fZ ZV) ab ab true (aE e2)) (λeP fA ft w3 dZ jm _ bb3=>wV aa ?_);refine ae ?_;by_cases e3:a.used.q=b.used.q
 case neg=>
  refine VO.cB aa aa (fk oC) (λfW iJ iB=>eG _ _ a.used.q b.used.q kk kk fW ((g3.kp (Kp.of (U:=UU) iB)).fZ gf3) ((h3.kp (Kp.of (U:=UU) iB)).fZ hf3) ab ab false (aA e3)) (λfW iJ iB w4 ic mB _ tI=>wV aa ?_);refine ae ?_;refine bl ?_;intro wz kz bz;exact⟨by rw[aA (λe=>e3 (by have:=au bh.used e;exact this))];rfl,bz⟩
 refine VO.cB aa aa (fk oC) (λfW iJ iB=>eG _ _ a.used.q b.used.q kk kk fW ((g3.kp (Kp.of (U:=UU) iB)).fZ gf3) ((h3.kp (Kp.of (U:=UU) iB)).fZ hf3) ab ab true (aE e3)) (λfW iJ iB w4 ic mB _ tI=>wV aa ?_);refine ae ?_;by_cases e4:a.ao.q=b.ao.q
 case neg=>
  refine VO.cB aa aa (fk oC) (λfQ iH fV=>eG _ _ a.ao.q b.ao.q kk kk fQ ((g4.kp (Kp.of (U:=UU) fV)).fZ gf4) ((h4.kp (Kp.of (U:=UU) fV)).fZ hf4) ab ab false (aA e4)) (λfQ iH fV w5 iz lg _ sR=>wV aa ?_);refine ae ?_;refine bl ?_;intro wz kz bz;exact⟨by rw[aA (λe=>e4 (by have:=au bh.ao e;exact this))];rfl,bz⟩
 refine VO.cB aa aa (fk oC) (λfQ iH fV=>eG _ _ a.ao.q b.ao.q kk kk fQ ((g4.kp (Kp.of (U:=UU) fV)).fZ gf4) ((h4.kp (Kp.of (U:=UU) fV)).fZ hf4) ab ab true (aE e4)) (λfQ iH fV w5 iz lg _ sR=>wV aa ?_);refine ae ?_;by_cases e5:a.aq.q=b.aq.q
 case neg=>
  refine VO.cB aa aa (fk oC) (λfJ iK gE=>eG _ _ a.aq.q b.aq.q kk kk fJ ((g5.kp (Kp.of (U:=UU) gE)).fZ gf5) ((h5.kp (Kp.of (U:=UU) gE)).fZ hf5) ab ab false (aA e5)) (λfJ iK gE w6 ln lH _ sj=>wV aa ?_);refine ae ?_;refine bl ?_;intro wz kz bz;exact⟨by rw[aA (λe=>e5 (by have:=au bh.aq e;exact this))];rfl,bz⟩
 refine VO.cB aa aa (fk oC) (λfJ iK gE=>eG _ _ a.aq.q b.aq.q kk kk fJ ((g5.kp (Kp.of (U:=UU) gE)).fZ gf5) ((h5.kp (Kp.of (U:=UU) gE)).fZ hf5) ab ab true (aE e5)) (λfJ iK gE w6 ln lH _ sj=>wV aa ?_);refine ae ?_;by_cases e6:a.closing.q=b.closing.q
 case neg=>
  refine VO.cB aa aa (fk oC) (λjS na jI=>eG _ _ a.closing.q b.closing.q kk kk jS ((g6.kp (Kp.of (U:=UU) jI)).fZ gf6) ((h6.kp (Kp.of (U:=UU) jI)).fZ hf6) ab ab false (aA e6)) (λjS na jI w7 ta rB _ Ct=>wV aa ?_);refine ae ?_;refine bl ?_;intro wz kz bz;exact⟨by rw[aA (λe=>e6 (by have:=au bh.closing e;exact this))];rfl,bz⟩
 refine VO.cB aa aa (fk oC) (λjS na jI=>eG _ _ a.closing.q b.closing.q kk kk jS ((g6.kp (Kp.of (U:=UU) jI)).fZ gf6) ((h6.kp (Kp.of (U:=UU) jI)).fZ hf6) ab ab true (aE e6)) (λjS na jI w7 ta rB _ Ct=>wV aa ?_);refine ae ?_;refine bl ?_;intro wz kz bz;exact⟨by rw[aE (show a.q=b.q by unfold eO.q;rw[e0,e1,e2,e3,e4,e5,e6])];rfl,bz⟩
theorem IJ (v u:Value) (cs gD:List Value) (a b:eO) (kk:Nat) (w:World) (hv:v=.agg cs.toArray) (hu:u=.agg gD.toArray) (ha:pc kk w cs a) (hb:pc kk w gD b) (hk:kk<=1000000) (x:Bool) (hx:decide (a.q=b.q)=x):
 Calls Tryz.prog 53 #[v,u] w λo w'=>o=.returned (.bool x)/\aU w w':=hx▸QT v u cs gD a b kk w hv hu ha hb hk
def jP (X Y:List eO×List eM):Bool:=MV eO.q X.1 Y.1 && MV eM.q X.2 Y.2
set_option maxRecDepth 4000 in
theorem TC (r u r' u':Value) (X Y:List eO×List eM) (kk:Nat) (w:World) (hX:pd kk w r u X) (hY:pd kk w r' u' Y) (hk:kk<=1000000):
  Calls Tryz.prog 21 #[.agg #[r,u],.agg #[r',u']] w λo w'=>o=.returned (.bool (jP X Y))/\aU w w':=by
 obtain⟨VQ,RH⟩:=hX;obtain⟨hY1,hY2⟩:=hY;obtain⟨p1,c1,rfl,ll,hm1⟩:=VQ.form;obtain⟨p2,c2,rfl,kC,KN⟩:=RH.form;obtain⟨p3,c3,rfl,hc3,hm3⟩:=hY1.form;obtain⟨p4,c4,rfl,Ax,hm4⟩:=hY2.form;obtain⟨n1,xI⟩:∃ n,n=X.1.length:=⟨_,aa⟩;obtain⟨n2,xe⟩:∃ n,n=X.2.length:=⟨_,aa⟩;obtain⟨n3,XE⟩:∃ n,n=Y.1.length:=⟨_,aa⟩;obtain⟨n4,hn4⟩:∃ n,n=Y.2.length:=⟨_,aa⟩;rw[<-xI] at VQ ll;rw[<-xe] at RH kC;rw[<-XE] at hY1 hc3;rw[<-hn4] at hY2 Ax;rw[<-xI,<-xe,<-XE,<-hn4];refine ah (C:=cH Tryz.prog w _) (args:=[_,_]) Tryz.func21 aa Tryz.ntmps21 (bM aa) ?_;refine ae ?_;by_cases h13:n1=n3
 case neg=>
  refine VO.fix 16 aa (au (λb=>AV.val (.bool b)) (Bk (show (n1:Int)≠(n3:Int) by omega))) ?_;refine ae ?_;refine bl ?_;intro wz kz bz;exact⟨by unfold jP;rw[BI ab];rfl,bz⟩
 refine VO.fix 16 aa (au (λb=>AV.val (.bool b)) (vJ (show (n1:Int)=(n3:Int) by omega))) ?_;refine ae ?_;by_cases h24:n2=n4
 case neg=>
  refine VS.aV aa (Bk (show (n2:Int)≠(n4:Int) by omega)) ?_;refine ae ?_;refine bl ?_;intro wz kz bz;exact⟨by unfold jP;rw[BI (f:=eM.q) ab,Gh];rfl,bz⟩
 refine VS.aP aa (vJ (show (n2:Int)=(n4:Int) by omega)) ?_;refine ae ?_;refine VS.loop (J:=λm L M w'=>∃ z:Nat,z<=n1/\m=n1-z/\(X.1.take z).map eO.q=(Y.1.take z).map eO.q/\L=[(2,.box 2 0),(3,.box 3 0),(5,.val (.int .i64 (z:Int)))]/\M=[(2,(64,[.val (.slice p1 n1 c1),.val (.slice p2 n2 c2)])),(3,(64,[.val (.slice p3 n3 c3),.val (.slice p4 n4 c4)]))]) n1 ⟨_,_,?_,?_,?_,?_,⟨0,ab,aa,aa,aa,aa⟩⟩ ?_
 ·exact cA
 ·exact cA
 ·rfl
 ·exact gn
 rintro m L M w1 ⟨z,hz,rfl,gJ,rfl,rfl⟩;refine ae ?_;by_cases hlt:z<n1
 ·obtain⟨e,he⟩:∃ e,X.1[z]? =some e:=⟨_,ba ab⟩;obtain⟨e',wh⟩:∃ e,Y.1[z]? =some e:=⟨_,ba ab⟩;obtain⟨b,off,cs,gP,hc,hE⟩:=VQ.at he;obtain⟨b',bE,gD,Jv,hc',TB⟩:=hY1.at wh;subst gP;subst Jv;have hE0:=hE;have MW:=TB;obtain⟨_,_,_,_,_,_,_,rfl,⟨⟨NG,NH,NI,NJ,rfl,g0⟩,gf0⟩,⟨⟨NK,NL,NM,NN,rfl,g1⟩,gf1⟩,⟨⟨NP,NQ,NR,NS,rfl,g2⟩,gf2⟩,⟨⟨NT,NU,NV,NW,rfl,g3⟩,gf3⟩,⟨⟨NX,NY,NZ,Oa,rfl,g4⟩,gf4⟩,⟨⟨MH,MI,MJ,ML,rfl,g5⟩,gf5⟩,⟨⟨MM,MN,MO,MP,rfl,g6⟩,gf6⟩⟩:=hE;obtain⟨_,_,_,_,_,_,_,rfl,⟨⟨y0p,y0c,y0r,y0d,rfl,h0⟩,hf0⟩,⟨⟨y1p,y1c,y1r,y1d,rfl,h1⟩,ZU⟩,⟨⟨y2p,y2c,y2r,y2d,rfl,h2⟩,ZV⟩,⟨⟨y3p,y3c,y3r,y3d,rfl,h3⟩,hf3⟩,⟨⟨y4p,y4c,y4r,y4d,rfl,h4⟩,hf4⟩,⟨⟨y5p,y5c,y5r,y5d,rfl,h5⟩,hf5⟩,⟨⟨y6p,y6c,y6r,y6d,rfl,h6⟩,hf6⟩⟩:=TB;refine VS.aV aa (aE (aQ.2 hlt)) ?_;refine ae ?_;refine VO.cond aa dQ ?_;refine wV aa ?_;refine ae ?_;refine VO.read aa [.bool e.aX.1,.slice NG e.aX.2.1.length NH,.bool e.aX.2.2.1,.slice NI e.aX.2.2.2.length NJ,.bool e.allowed.1,.slice NK e.allowed.2.1.length NL,.bool e.allowed.2.2.1,.slice NM e.allowed.2.2.2.length NN,.bool e.az.1,.slice NP e.az.2.1.length NQ,.bool e.az.2.2.1,.slice NR e.az.2.2.2.length NS,.bool e.used.1,.slice NT e.used.2.1.length NU,.bool e.used.2.2.1,.slice NV e.used.2.2.2.length NW,.bool e.ao.1,.slice NX e.ao.2.1.length NY,.bool e.ao.2.2.1,.slice NZ e.ao.2.2.2.length Oa,.bool e.aq.1,.slice MH e.aq.2.1.length MI,.bool e.aq.2.2.1,.slice MJ e.aq.2.2.2.length ML,.bool e.closing.1,.slice MM e.closing.2.1.length MN,.bool e.closing.2.2.1,.slice MO e.closing.2.2.2.length MP] aa (aM hc 0 _ ⟨[],aa⟩) (wV aa ?_);refine ae ?_;refine VO.cond aa dQ ?_;refine wV aa ?_;refine ae ?_;refine VO.read aa [.bool e'.aX.1,.slice y0p e'.aX.2.1.length y0c,.bool e'.aX.2.2.1,.slice y0r e'.aX.2.2.2.length y0d,.bool e'.allowed.1,.slice y1p e'.allowed.2.1.length y1c,.bool e'.allowed.2.2.1,.slice y1r e'.allowed.2.2.2.length y1d,.bool e'.az.1,.slice y2p e'.az.2.1.length y2c,.bool e'.az.2.2.1,.slice y2r e'.az.2.2.2.length y2d,.bool e'.used.1,.slice y3p e'.used.2.1.length y3c,.bool e'.used.2.2.1,.slice y3r e'.used.2.2.2.length y3d,.bool e'.ao.1,.slice y4p e'.ao.2.1.length y4c,.bool e'.ao.2.2.1,.slice y4r e'.ao.2.2.2.length y4d,.bool e'.aq.1,.slice y5p e'.aq.2.1.length y5c,.bool e'.aq.2.2.1,.slice y5r e'.aq.2.2.2.length y5d,.bool e'.closing.1,.slice y6p e'.closing.2.1.length y6c,.bool e'.closing.2.2.1,.slice y6r e'.closing.2.2.2.length y6d] aa (aM hc' 0 _ ⟨[],aa⟩) (wV aa ?_);refine ae ?_;by_cases heq:eO.q e=eO.q e'
  ·refine VO.cB aa aa (fk Tryz.func53) (λbn cG bo=>IJ _ _ _ _ e e' kk bn aa aa ((dV kk).kp hE0 (Kp.of (U:=UU) bo)) ((dV kk).kp MW (Kp.of (U:=UU) bo)) hk true (aE heq)) (λbn cG bo w1 bA eF _ bb1=>wV aa ?_);refine ae ?_;refine VS.back (n1-(z+1)) ab ⟨_,_,?_,?_,?_,?_,⟨z+1,ab,aa,xF he wh gJ heq,aa,aa⟩⟩
   ·refine⟨aa,aa,?_,ag⟩;rw[<-aD (i:=z) ab];rfl
   ·exact cA
   ·rfl
   ·exact gn
  ·refine VO.cB aa aa (fk Tryz.func53) (λbn cG bo=>IJ _ _ _ _ e e' kk bn aa aa ((dV kk).kp hE0 (Kp.of (U:=UU) bo)) ((dV kk).kp MW (Kp.of (U:=UU) bo)) hk false (aA heq)) (λbn cG bo w1 bA eF _ bb1=>wV aa ?_);refine ae ?_;refine bl ?_;intro wz kz bz;exact⟨by unfold jP;rw[zP he wh heq];rfl,bz⟩
 refine VS.aP aa (aA (λe=>hlt (aQ.1 e))) ?_;have lD:z=n1:=ab;have nA:MV eO.q X.1 Y.1=true:=BJ ab (show X.1.length<=z by omega) gJ;clear gJ hlt lD hz;refine ae ?_;refine VS.loop (J:=λm L M w'=>∃ z:Nat,z<=n2/\m=n2-z/\(X.2.take z).map eM.q=(Y.2.take z).map eM.q/\L=[(2,.box 2 0),(3,.box 3 0),(6,.val (.int .i64 (z:Int)))]/\M=[(2,(64,[.val (.slice p1 n1 c1),.val (.slice p2 n2 c2)])),(3,(64,[.val (.slice p3 n3 c3),.val (.slice p4 n4 c4)]))]) n2 ⟨_,_,?_,?_,?_,?_,⟨0,ab,aa,aa,aa,aa⟩⟩ ?_
 ·exact cA
 ·exact cA
 ·rfl
 ·exact gn
 rintro m L M w2 ⟨z,hz,rfl,gJ,rfl,rfl⟩;refine ae ?_;by_cases hlt:z<n2
 ·obtain⟨e,he⟩:∃ e,X.2[z]? =some e:=⟨_,ba ab⟩;obtain⟨e',wh⟩:∃ e,Y.2[z]? =some e:=⟨_,ba ab⟩;obtain⟨b,off,cs,gP,hc,hE⟩:=RH.at he;obtain⟨b',bE,gD,Jv,hc',TB⟩:=hY2.at wh;subst gP;subst Jv;obtain⟨_,rfl,⟨ap,ac,ar,ad,rfl,ha⟩,hf⟩:=hE;obtain⟨_,rfl,⟨bp,bc,br,bd,rfl,ha'⟩,hf'⟩:=TB;refine VS.aV aa (aE (aQ.2 hlt)) ?_
  (repeat (first|refine wN ?_|refine wP aa ?_|refine wO aa aa ?_))
  refine VS.drawL (dD _ _) (AZ _ _) [] [1,4,6,9] [12,13] [7,8] (by kernel_rfl) ?_;refine oo.chunk (l2:=[1,2,3,4,5,6,7,8,9,10,11,12,13]) [0] aa ?_;refine ae ?_;refine oo.l (j:=1) aa aa aa aa aa ?_;refine ae ?_;refine oo.chunk (l2:=[4,5,6,7,8,9,10,11,12,13]) [2,3] aa ?_;refine ae ?_;refine VO.cond aa dQ ?_;refine wV aa ?_;refine ae ?_;refine oo.b (j:=4) aa aa aa aa ?_;refine VO.read aa [.int .i64 e.1,.int .i64 e.2.1,.bool e.2.2.1,.slice ap e.2.2.2.1.length ac,.bool e.2.2.2.2.1,.slice ar e.2.2.2.2.2.length ad] aa (aM hc 0 _ ⟨[],aa⟩) (wV aa ?_);refine ae ?_;refine oo.chunk (l2:=[6,7,8,9,10,11,12,13]) [5] aa ?_;refine ae ?_;refine oo.l (j:=6) aa aa aa aa aa ?_;refine ae ?_;refine oo.chunk (l2:=[9,10,11,12,13]) [7,8] aa ?_;refine ae ?_;refine VO.cond aa dQ ?_;refine wV aa ?_;refine ae ?_;refine oo.b (j:=9) aa aa aa aa ?_;refine VO.read aa [.int .i64 e'.1,.int .i64 e'.2.1,.bool e'.2.2.1,.slice bp e'.2.2.2.1.length bc,.bool e'.2.2.2.2.1,.slice br e'.2.2.2.2.2.length bd] aa (aM hc' 0 _ ⟨[],aa⟩) (wV aa ?_);refine ae ?_;refine oo.chunk (l2:=[12,13]) [10,11] aa ?_;refine ae ?_;refine oo.s (j:=12) aa ⟨_,_,_,7,0,aa,aa,bN⟩ aa ?_;refine ae ?_;refine oo.s (j:=13) aa ⟨_,_,_,8,0,aa,aa,bN⟩ aa ?_;refine ae ?_;by_cases g1:e.1=e'.1
  case neg=>
   refine VO.fix 66 aa (au (λb=>AV.val (.bool b)) (Bk g1)) ?_;refine ae ?_;refine bl ?_;intro wz kz bz;exact⟨by unfold jP;rw[zP he wh (λh=>by have:=au Prod.fst h;exact g1 this),Gh];rfl,bz⟩
  refine VO.fix 66 aa (au (λb=>AV.val (.bool b)) (vJ g1)) ?_;refine ae ?_;by_cases g2:e.2.1=e'.2.1
  case neg=>
   refine VO.fix 73 aa (au (λb=>AV.val (.bool b)) (Bk g2)) ?_;refine ae ?_;refine bl ?_;intro wz kz bz;exact⟨by unfold jP;rw[zP he wh (λh=>by have:=au (λp=>p.2.1) h;exact g2 this),Gh];rfl,bz⟩
  refine VO.fix 73 aa (au (λb=>AV.val (.bool b)) (vJ g2)) ?_;refine ae ?_;by_cases g3:e.2.2.q=e'.2.2.q
  case neg=>
   refine VO.cB aa aa (fk oC) (λcz dB cT=>eG _ _ e.2.2.q e'.2.2.q kk kk cz ((ha.kp (Kp.of (U:=UU) cT)).fZ hf) ((ha'.kp (Kp.of (U:=UU) cT)).fZ hf') ab ab false (aA g3)) (λcz dB cT w2 cC fe _ bb2=>wV aa ?_);refine ae ?_;refine bl ?_;intro wz kz bz;exact⟨by unfold jP;rw[zP he wh (λh=>by have:=au (λp=>p.2.2) h;exact g3 this),Gh];rfl,bz⟩
  refine VO.cB aa aa (fk oC) (λcz dB cT=>eG _ _ e.2.2.q e'.2.2.q kk kk cz ((ha.kp (Kp.of (U:=UU) cT)).fZ hf) ((ha'.kp (Kp.of (U:=UU) cT)).fZ hf') ab ab true (aE g3)) (λcz dB cT w2 cC fe _ bb2=>wV aa ?_);refine ae ?_;have heq:eM.q e=eM.q e':=by unfold eM.q;rw[g1,g2,g3]
  refine VS.back (n2-(z+1)) ab ⟨_,_,?_,?_,?_,?_,⟨z+1,ab,aa,xF he wh gJ heq,aa,aa⟩⟩
  ·refine⟨aa,aa,?_,ag⟩;rw[<-aD (i:=z) ab];rfl
  ·exact cA
  ·rfl
  ·exact gn
 refine VS.aP aa (aA (λe=>hlt (aQ.1 e))) ?_;refine ae ?_;refine bl ?_;intro wz kz bz;have nC:MV eM.q X.2 Y.2=true:=BJ ab (show X.2.length<=z by omega) gJ;exact⟨by unfold jP;rw[nA,nC];rfl,bz⟩
theorem CQ (r u r' u':Value) (X Y:List eO×List eM) (kk:Nat) (w:World) (hX:pd kk w r u X) (hY:pd kk w r' u' Y) (hk:kk<=1000000) (b:Bool) (hb:jP X Y=b):
 Calls Tryz.prog 21 #[.agg #[r,u],.agg #[r',u']] w λo w'=>o=.returned (.bool b)/\aU w w':=hb▸TC r u r' u' X Y kk w hX hY hk
set_option maxRecDepth 4000
theorem fx {R:Bool} {l:List (RR×RR)} {z:Nat} {x:RR×RR} (h:l[z]? =some x):(R && (l.take (z+1)).all iV)=((R && (l.take z).all iV) && iV x):=by
 rw[dt h,ja,Bool.and_assoc];simp
theorem cW (x:RR) (b:Bool) (hb:x.ok=b) (v:Value) (w:World) (h:gT w v x.1 x.2.1 x.2.2.1 x.2.2.2) {k:Nat} (hx:x.ld k) (hk:k<=100000):
 Calls Tryz.prog 85 #[v] w λe w'=>e=.returned (.bool b)/\aU w w':=hb▸Bi _ _ _ _ v w h (bj hx.1 ab) (bj hx.2 ab)
theorem zQ (v:Value) (q:Rat) (k:Nat) (w:World) (hv:ck w v q k) (hk:k<=134217728) (c:Int) (hc:eQ q 0=c):
 Calls Tryz.prog 52 #[v] w λe w'=>e=.returned (.int .i64 c)/\aU w w':=hc▸DG v q k w hv hk
theorem XY (v u:Value) (q r:Rat) (k l:Nat) (w:World) (hv:ck w v q k) (hu:ck w u r l) (hk:k<=33554431) (hl:l<=33554431) (c:Int) (hc:eQ q r=c):
 Calls Tryz.prog 86 #[v,u] w λe w'=>e=.returned (.int .i64 c)/\aU w w':=hc▸uQ v u q r k l w hv hu hk hl
set_option maxRecDepth 4000 in
theorem XZ (v u:Value) (a b:RR) (keep:Int) (l:List (RR×RR)) (k:Nat) (w:World) (h:fY w v a b keep) (ha:a.ld k) (hb:b.ld k) (hl:dm (pW k) 8 w u l) (hk:k<=100000) (hlen:l.length<=100000):
  Calls Tryz.prog 47 #[v,u] w λo w'=>o=.returned (.bool (fw a b keep && l.all iV))/\aU w w':=by
 obtain⟨p,c,r,d,p',c',r',d',rfl,h1,h2⟩:=h;obtain⟨pu,cu,rfl,MG,hum⟩:=hl.form;obtain⟨N,hN⟩:∃ N,N=l.length:=⟨_,aa⟩;rw[<-hN] at hl MG hlen;rw[<-hN];refine ah (C:=cH Tryz.prog w _) (args:=[_,_]) Tryz.func47 aa Tryz.ntmps47 (bM aa) ?_;refine ae ?_;cases e1:a.ok with
 | false=>
   have CG:fw a b keep=false:=by unfold fw;rw[e1];rfl
   refine VO.cB aa aa (fk jL) (λbn cG bo=>cW a false e1 _ bn (h1.kp (Kp.of (U:=UU) bo)) ha hk) (λbn cG bo w1 bA eF _ bb1=>wV aa ?_);refine ae ?_;refine VS.loop (J:=λm L M w'=>∃ (z:Nat) (bb:Bool),z<=N/\m=N-z/\(fw a b keep && (l.take z).all iV)=bb/\L=[(1,.val (.slice pu N cu)),(5,.val (.bool bb)),(6,.val (.int .i64 (z:Int)))]/\M=[]) N ⟨_,_,?_,?_,?_,?_,⟨0,false,ab,aa,by rw[yA,CG];rfl,rfl,rfl⟩⟩ ?_
   ·exact cA
   ·exact cA
   ·rfl
   ·exact gn
   rintro m L M w9 ⟨z,bb,hz,rfl,nB,rfl,rfl⟩;refine ae ?_;by_cases hlt:z<N
   ·refine VS.aV aa (aE (aQ.2 hlt)) ?_;obtain⟨x,hx⟩:∃ x,l[z]? =some x:=⟨_,ba ab⟩;obtain⟨bx,off,cs,gP,hc,⟨_,_,rfl,⟨ap,ac,ar,ad,rfl,g1⟩,⟨bp,bc,br,bd,rfl,g2⟩,f1,f2⟩⟩:=hl.at hx;subst gP;cases bb with
    | false=>
      refine ae ?_;refine VS.back (N-(z+1)) ab ⟨_,_,?_,?_,?_,?_,⟨z+1,false,ab,aa,by rw[fx hx,nB];rfl,rfl,rfl⟩⟩
      ·refine⟨aa,aa,?_,ag⟩;rw[<-aD (i:=z) ab];rfl
      ·exact cA
      ·rfl
      ·exact gn
    | true=>
      refine ae ?_;refine VO.cond aa dQ ?_;refine wV aa ?_;refine ae ?_;refine VO.read aa [.bool x.1.1,.slice ap x.1.2.1.length ac,.bool x.1.2.2.1,.slice ar x.1.2.2.2.length ad] aa (aM hc 0 _ ⟨_,aa⟩) (wV aa ?_);refine ae ?_;cases e1:x.1.ok with
      | false=>
        refine VO.cB aa aa (fk jL) (λfJ iK gE=>cW x.1 false e1 _ fJ (g1.kp (Kp.of (U:=UU) gE)) f1 hk) (λfJ iK gE w6 ln lH _ sj=>wV aa ?_);refine ae ?_;refine VS.back (N-(z+1)) ab ⟨_,_,?_,?_,?_,?_,⟨z+1,false,ab,aa,by rw[fx hx,nB];unfold iV;rw[e1];rfl,rfl,rfl⟩⟩
        ·refine⟨aa,aa,?_,ag⟩;rw[<-aD (i:=z) ab];rfl
        ·exact cA
        ·rfl
        ·exact gn
      | true=>
      refine VO.cB aa aa (fk jL) (λfJ iK gE=>cW x.1 true e1 _ fJ (g1.kp (Kp.of (U:=UU) gE)) f1 hk) (λfJ iK gE w6 ln lH _ sj=>wV aa ?_);refine ae ?_;refine VO.cond aa dQ ?_;refine wV aa ?_;refine ae ?_;refine VO.read aa [.bool x.2.1,.slice bp x.2.2.1.length bc,.bool x.2.2.2.1,.slice br x.2.2.2.2.length bd] aa (aM hc 4 _ ⟨[],aa⟩) (wV aa ?_);refine ae ?_;obtain⟨b2,e2⟩:∃ b2,x.2.ok=b2:=⟨_,aa⟩;refine VO.cB aa aa (fk jL) (λjS na jI=>cW x.2 b2 e2 _ jS (g2.kp (Kp.of (U:=UU) jI)) f2 hk) (λjS na jI w7 ta rB _ Ct=>wV aa ?_);refine ae ?_;refine VS.back (N-(z+1)) ab ⟨_,_,?_,?_,?_,?_,⟨z+1,b2,ab,aa,by rw[fx hx,nB];unfold iV;rw[e1,e2];rfl,rfl,rfl⟩⟩
      ·refine⟨aa,aa,?_,ag⟩;rw[<-aD (i:=z) ab];rfl
      ·exact cA
      ·rfl
      ·exact gn
   ·refine VS.aP aa (aA (λe=>hlt (aQ.1 e))) ?_;refine ae ?_;refine bl ?_;intro wz kz bz;rw[dP ab] at nB;exact⟨by rw[nB];rfl,bz⟩
 | true=>
 refine VO.cB aa aa (fk jL) (λbn cG bo=>cW a true e1 _ bn (h1.kp (Kp.of (U:=UU) bo)) ha hk) (λbn cG bo w1 bA eF _ bb1=>wV aa ?_);refine ae ?_;cases e2:b.ok with
 | false=>
   have CG:fw a b keep=false:=by unfold fw;rw[e1,e2];rfl
   refine VO.cB aa aa (fk jL) (λcz dB cT=>cW b false e2 _ cz (h2.kp (Kp.of (U:=UU) cT)) hb hk) (λcz dB cT w2 cC fe _ bb2=>wV aa ?_);refine ae ?_;refine VS.loop (J:=λm L M w'=>∃ (z:Nat) (bb:Bool),z<=N/\m=N-z/\(fw a b keep && (l.take z).all iV)=bb/\L=[(1,.val (.slice pu N cu)),(5,.val (.bool bb)),(6,.val (.int .i64 (z:Int)))]/\M=[]) N ⟨_,_,?_,?_,?_,?_,⟨0,false,ab,aa,by rw[yA,CG];rfl,rfl,rfl⟩⟩ ?_
   ·exact cA
   ·exact cA
   ·rfl
   ·exact gn
   rintro m L M w9 ⟨z,bb,hz,rfl,nB,rfl,rfl⟩;refine ae ?_;by_cases hlt:z<N
   ·refine VS.aV aa (aE (aQ.2 hlt)) ?_;obtain⟨x,hx⟩:∃ x,l[z]? =some x:=⟨_,ba ab⟩;obtain⟨bx,off,cs,gP,hc,⟨_,_,rfl,⟨ap,ac,ar,ad,rfl,g1⟩,⟨bp,bc,br,bd,rfl,g2⟩,f1,f2⟩⟩:=hl.at hx;subst gP;cases bb with
    | false=>
      refine ae ?_;refine VS.back (N-(z+1)) ab ⟨_,_,?_,?_,?_,?_,⟨z+1,false,ab,aa,by rw[fx hx,nB];rfl,rfl,rfl⟩⟩
      ·refine⟨aa,aa,?_,ag⟩;rw[<-aD (i:=z) ab];rfl
      ·exact cA
      ·rfl
      ·exact gn
    | true=>
      refine ae ?_;refine VO.cond aa dQ ?_;refine wV aa ?_;refine ae ?_;refine VO.read aa [.bool x.1.1,.slice ap x.1.2.1.length ac,.bool x.1.2.2.1,.slice ar x.1.2.2.2.length ad] aa (aM hc 0 _ ⟨_,aa⟩) (wV aa ?_);refine ae ?_;cases e1:x.1.ok with
      | false=>
        refine VO.cB aa aa (fk jL) (λfJ iK gE=>cW x.1 false e1 _ fJ (g1.kp (Kp.of (U:=UU) gE)) f1 hk) (λfJ iK gE w6 ln lH _ sj=>wV aa ?_);refine ae ?_;refine VS.back (N-(z+1)) ab ⟨_,_,?_,?_,?_,?_,⟨z+1,false,ab,aa,by rw[fx hx,nB];unfold iV;rw[e1];rfl,rfl,rfl⟩⟩
        ·refine⟨aa,aa,?_,ag⟩;rw[<-aD (i:=z) ab];rfl
        ·exact cA
        ·rfl
        ·exact gn
      | true=>
      refine VO.cB aa aa (fk jL) (λfJ iK gE=>cW x.1 true e1 _ fJ (g1.kp (Kp.of (U:=UU) gE)) f1 hk) (λfJ iK gE w6 ln lH _ sj=>wV aa ?_);refine ae ?_;refine VO.cond aa dQ ?_;refine wV aa ?_;refine ae ?_;refine VO.read aa [.bool x.2.1,.slice bp x.2.2.1.length bc,.bool x.2.2.2.1,.slice br x.2.2.2.2.length bd] aa (aM hc 4 _ ⟨[],aa⟩) (wV aa ?_);refine ae ?_;obtain⟨b2,e2⟩:∃ b2,x.2.ok=b2:=⟨_,aa⟩;refine VO.cB aa aa (fk jL) (λjS na jI=>cW x.2 b2 e2 _ jS (g2.kp (Kp.of (U:=UU) jI)) f2 hk) (λjS na jI w7 ta rB _ Ct=>wV aa ?_);refine ae ?_;refine VS.back (N-(z+1)) ab ⟨_,_,?_,?_,?_,?_,⟨z+1,b2,ab,aa,by rw[fx hx,nB];unfold iV;rw[e1,e2];rfl,rfl,rfl⟩⟩
      ·refine⟨aa,aa,?_,ag⟩;rw[<-aD (i:=z) ab];rfl
      ·exact cA
      ·rfl
      ·exact gn
   ·refine VS.aP aa (aA (λe=>hlt (aQ.1 e))) ?_;refine ae ?_;refine bl ?_;intro wz kz bz;rw[dP ab] at nB;exact⟨by rw[nB];rfl,bz⟩
 | true=>
 refine VO.cB aa aa (fk jL) (λcz dB cT=>cW b true e2 _ cz (h2.kp (Kp.of (U:=UU) cT)) hb hk) (λcz dB cT w2 cC fe _ bb2=>wV aa ?_);refine ae ?_;obtain⟨sg,ny⟩:∃ sg,eQ a.q 0=sg:=⟨_,aa⟩;have IK:fw a b keep=(decide (sg>=0) && (decide (eQ a.q 1<=0) && (decide (keep>=0) && decide (keep<=40)))):=by unfold fw;rw[e1,e2,ny];rfl
 refine VO.cB aa aa (fk Tryz.func52) (λeP fA ft=>zQ _ a.q k eP ((h1.fZ ha).kp (Kp.of (U:=UU) ft)) ab sg ny) (λeP fA ft w3 dZ jm _ bb3=>wV aa ?_);refine ae ?_;by_cases e3':sg<0
 ·have e3:¬ sg>=0:=by omega
  have CG:fw a b keep=false:=by rw[IK,aA e3];rfl
  refine VO.fix 21 aa (au (λb=>AV.val (.bool b)) (aA e3)) ?_;refine ae ?_;refine VS.loop (J:=λm L M w'=>∃ (z:Nat) (bb:Bool),z<=N/\m=N-z/\(fw a b keep && (l.take z).all iV)=bb/\L=[(1,.val (.slice pu N cu)),(5,.val (.bool bb)),(6,.val (.int .i64 (z:Int)))]/\M=[]) N ⟨_,_,?_,?_,?_,?_,⟨0,false,ab,aa,by rw[yA,CG];rfl,rfl,rfl⟩⟩ ?_
  ·exact cA
  ·exact cA
  ·rfl
  ·exact gn
  rintro m L M w9 ⟨z,bb,hz,rfl,nB,rfl,rfl⟩;refine ae ?_;by_cases hlt:z<N
  ·refine VS.aV aa (aE (aQ.2 hlt)) ?_;obtain⟨x,hx⟩:∃ x,l[z]? =some x:=⟨_,ba ab⟩;obtain⟨bx,off,cs,gP,hc,⟨_,_,rfl,⟨ap,ac,ar,ad,rfl,g1⟩,⟨bp,bc,br,bd,rfl,g2⟩,f1,f2⟩⟩:=hl.at hx;subst gP;cases bb with
   | false=>
     refine ae ?_;refine VS.back (N-(z+1)) ab ⟨_,_,?_,?_,?_,?_,⟨z+1,false,ab,aa,by rw[fx hx,nB];rfl,rfl,rfl⟩⟩
     ·refine⟨aa,aa,?_,ag⟩;rw[<-aD (i:=z) ab];rfl
     ·exact cA
     ·rfl
     ·exact gn
   | true=>
     refine ae ?_;refine VO.cond aa dQ ?_;refine wV aa ?_;refine ae ?_;refine VO.read aa [.bool x.1.1,.slice ap x.1.2.1.length ac,.bool x.1.2.2.1,.slice ar x.1.2.2.2.length ad] aa (aM hc 0 _ ⟨_,aa⟩) (wV aa ?_);refine ae ?_;cases e1:x.1.ok with
     | false=>
       refine VO.cB aa aa (fk jL) (λfJ iK gE=>cW x.1 false e1 _ fJ (g1.kp (Kp.of (U:=UU) gE)) f1 hk) (λfJ iK gE w6 ln lH _ sj=>wV aa ?_);refine ae ?_;refine VS.back (N-(z+1)) ab ⟨_,_,?_,?_,?_,?_,⟨z+1,false,ab,aa,by rw[fx hx,nB];unfold iV;rw[e1];rfl,rfl,rfl⟩⟩
       ·refine⟨aa,aa,?_,ag⟩;rw[<-aD (i:=z) ab];rfl
       ·exact cA
       ·rfl
       ·exact gn
     | true=>
     refine VO.cB aa aa (fk jL) (λfJ iK gE=>cW x.1 true e1 _ fJ (g1.kp (Kp.of (U:=UU) gE)) f1 hk) (λfJ iK gE w6 ln lH _ sj=>wV aa ?_);refine ae ?_;refine VO.cond aa dQ ?_;refine wV aa ?_;refine ae ?_;refine VO.read aa [.bool x.2.1,.slice bp x.2.2.1.length bc,.bool x.2.2.2.1,.slice br x.2.2.2.2.length bd] aa (aM hc 4 _ ⟨[],aa⟩) (wV aa ?_);refine ae ?_;obtain⟨b2,e2⟩:∃ b2,x.2.ok=b2:=⟨_,aa⟩;refine VO.cB aa aa (fk jL) (λjS na jI=>cW x.2 b2 e2 _ jS (g2.kp (Kp.of (U:=UU) jI)) f2 hk) (λjS na jI w7 ta rB _ Ct=>wV aa ?_);refine ae ?_;refine VS.back (N-(z+1)) ab ⟨_,_,?_,?_,?_,?_,⟨z+1,b2,ab,aa,by rw[fx hx,nB];unfold iV;rw[e1,e2];rfl,rfl,rfl⟩⟩
     ·refine⟨aa,aa,?_,ag⟩;rw[<-aD (i:=z) ab];rfl
     ·exact cA
     ·rfl
     ·exact gn
  ·refine VS.aP aa (aA (λe=>hlt (aQ.1 e))) ?_;refine ae ?_;refine bl ?_;intro wz kz bz;rw[dP ab] at nB;exact⟨by rw[nB];rfl,bz⟩
 have e3:sg>=0:=ab;refine VO.fix 21 aa (au (λb=>AV.val (.bool b)) (aE e3)) ?_;refine ae ?_;refine VO.cR aa aa (fk Tryz.func87) (λfW iJ iB=>Mk 1 fW ab ab) (λfW iJ iB w4 s4 p4 n4 c4 t4 y4 m4 d4 q4 ic mB _ tI=>wV aa ?_);refine ae ?_;have h11:((1:Int):Rat)=1:=aa;rw[h11] at q4;obtain⟨cm,iC⟩:∃ cm,eQ a.q 1=cm:=⟨_,aa⟩;rw[aE e3,iC] at IK;refine VO.cB aa aa (fk Tryz.func86) (λfQ iH fV=>XY _ _ a.q 1 k 1 fQ ((h1.fZ ha).kp (Kp.of (U:=UU) fV)) (q4.ki ⟨Sz.small bq,Sz.small bq⟩) ab ab cm iC) (λfQ iH fV w5 iz lg _ sR=>wV aa ?_);refine ae ?_;by_cases e4':0<cm
 ·have e4:¬ cm<=0:=by omega
  have CG:fw a b keep=false:=by rw[IK,aA e4];rfl
  refine VO.fix 28 aa (au (λb=>AV.val (.bool b)) (aA e4)) ?_;refine ae ?_;refine VS.loop (J:=λm L M w'=>∃ (z:Nat) (bb:Bool),z<=N/\m=N-z/\(fw a b keep && (l.take z).all iV)=bb/\L=[(1,.val (.slice pu N cu)),(5,.val (.bool bb)),(6,.val (.int .i64 (z:Int)))]/\M=[]) N ⟨_,_,?_,?_,?_,?_,⟨0,false,ab,aa,by rw[yA,CG];rfl,rfl,rfl⟩⟩ ?_
  ·exact cA
  ·exact cA
  ·rfl
  ·exact gn
  rintro m L M w9 ⟨z,bb,hz,rfl,nB,rfl,rfl⟩;refine ae ?_;by_cases hlt:z<N
  ·refine VS.aV aa (aE (aQ.2 hlt)) ?_;obtain⟨x,hx⟩:∃ x,l[z]? =some x:=⟨_,ba ab⟩;obtain⟨bx,off,cs,gP,hc,⟨_,_,rfl,⟨ap,ac,ar,ad,rfl,g1⟩,⟨bp,bc,br,bd,rfl,g2⟩,f1,f2⟩⟩:=hl.at hx;subst gP;cases bb with
   | false=>
     refine ae ?_;refine VS.back (N-(z+1)) ab ⟨_,_,?_,?_,?_,?_,⟨z+1,false,ab,aa,by rw[fx hx,nB];rfl,rfl,rfl⟩⟩
     ·refine⟨aa,aa,?_,ag⟩;rw[<-aD (i:=z) ab];rfl
     ·exact cA
     ·rfl
     ·exact gn
   | true=>
     refine ae ?_;refine VO.cond aa dQ ?_;refine wV aa ?_;refine ae ?_;refine VO.read aa [.bool x.1.1,.slice ap x.1.2.1.length ac,.bool x.1.2.2.1,.slice ar x.1.2.2.2.length ad] aa (aM hc 0 _ ⟨_,aa⟩) (wV aa ?_);refine ae ?_;cases e1:x.1.ok with
     | false=>
       refine VO.cB aa aa (fk jL) (λfJ iK gE=>cW x.1 false e1 _ fJ (g1.kp (Kp.of (U:=UU) gE)) f1 hk) (λfJ iK gE w6 ln lH _ sj=>wV aa ?_);refine ae ?_;refine VS.back (N-(z+1)) ab ⟨_,_,?_,?_,?_,?_,⟨z+1,false,ab,aa,by rw[fx hx,nB];unfold iV;rw[e1];rfl,rfl,rfl⟩⟩
       ·refine⟨aa,aa,?_,ag⟩;rw[<-aD (i:=z) ab];rfl
       ·exact cA
       ·rfl
       ·exact gn
     | true=>
     refine VO.cB aa aa (fk jL) (λfJ iK gE=>cW x.1 true e1 _ fJ (g1.kp (Kp.of (U:=UU) gE)) f1 hk) (λfJ iK gE w6 ln lH _ sj=>wV aa ?_);refine ae ?_;refine VO.cond aa dQ ?_;refine wV aa ?_;refine ae ?_;refine VO.read aa [.bool x.2.1,.slice bp x.2.2.1.length bc,.bool x.2.2.2.1,.slice br x.2.2.2.2.length bd] aa (aM hc 4 _ ⟨[],aa⟩) (wV aa ?_);refine ae ?_;obtain⟨b2,e2⟩:∃ b2,x.2.ok=b2:=⟨_,aa⟩;refine VO.cB aa aa (fk jL) (λjS na jI=>cW x.2 b2 e2 _ jS (g2.kp (Kp.of (U:=UU) jI)) f2 hk) (λjS na jI w7 ta rB _ Ct=>wV aa ?_);refine ae ?_;refine VS.back (N-(z+1)) ab ⟨_,_,?_,?_,?_,?_,⟨z+1,b2,ab,aa,by rw[fx hx,nB];unfold iV;rw[e1,e2];rfl,rfl,rfl⟩⟩
     ·refine⟨aa,aa,?_,ag⟩;rw[<-aD (i:=z) ab];rfl
     ·exact cA
     ·rfl
     ·exact gn
  ·refine VS.aP aa (aA (λe=>hlt (aQ.1 e))) ?_;refine ae ?_;refine bl ?_;intro wz kz bz;rw[dP ab] at nB;exact⟨by rw[nB];rfl,bz⟩
 have e4:cm<=0:=ab;rw[aE e4] at IK;refine VO.fix 28 aa (au (λb=>AV.val (.bool b)) (aE e4)) ?_;refine ae ?_;by_cases e5':keep<0
 ·have e5:¬ keep>=0:=by omega
  have CG:fw a b keep=false:=by rw[IK,aA e5];rfl
  refine VO.fix 33 aa (au (λb=>AV.val (.bool b)) (aA e5)) ?_;refine ae ?_;refine VS.loop (J:=λm L M w'=>∃ (z:Nat) (bb:Bool),z<=N/\m=N-z/\(fw a b keep && (l.take z).all iV)=bb/\L=[(1,.val (.slice pu N cu)),(5,.val (.bool bb)),(6,.val (.int .i64 (z:Int)))]/\M=[]) N ⟨_,_,?_,?_,?_,?_,⟨0,false,ab,aa,by rw[yA,CG];rfl,rfl,rfl⟩⟩ ?_
  ·exact cA
  ·exact cA
  ·rfl
  ·exact gn
  rintro m L M w9 ⟨z,bb,hz,rfl,nB,rfl,rfl⟩;refine ae ?_;by_cases hlt:z<N
  ·refine VS.aV aa (aE (aQ.2 hlt)) ?_;obtain⟨x,hx⟩:∃ x,l[z]? =some x:=⟨_,ba ab⟩;obtain⟨bx,off,cs,gP,hc,⟨_,_,rfl,⟨ap,ac,ar,ad,rfl,g1⟩,⟨bp,bc,br,bd,rfl,g2⟩,f1,f2⟩⟩:=hl.at hx;subst gP;cases bb with
   | false=>
     refine ae ?_;refine VS.back (N-(z+1)) ab ⟨_,_,?_,?_,?_,?_,⟨z+1,false,ab,aa,by rw[fx hx,nB];rfl,rfl,rfl⟩⟩
     ·refine⟨aa,aa,?_,ag⟩;rw[<-aD (i:=z) ab];rfl
     ·exact cA
     ·rfl
     ·exact gn
   | true=>
     refine ae ?_;refine VO.cond aa dQ ?_;refine wV aa ?_;refine ae ?_;refine VO.read aa [.bool x.1.1,.slice ap x.1.2.1.length ac,.bool x.1.2.2.1,.slice ar x.1.2.2.2.length ad] aa (aM hc 0 _ ⟨_,aa⟩) (wV aa ?_);refine ae ?_;cases e1:x.1.ok with
     | false=>
       refine VO.cB aa aa (fk jL) (λfJ iK gE=>cW x.1 false e1 _ fJ (g1.kp (Kp.of (U:=UU) gE)) f1 hk) (λfJ iK gE w6 ln lH _ sj=>wV aa ?_);refine ae ?_;refine VS.back (N-(z+1)) ab ⟨_,_,?_,?_,?_,?_,⟨z+1,false,ab,aa,by rw[fx hx,nB];unfold iV;rw[e1];rfl,rfl,rfl⟩⟩
       ·refine⟨aa,aa,?_,ag⟩;rw[<-aD (i:=z) ab];rfl
       ·exact cA
       ·rfl
       ·exact gn
     | true=>
     refine VO.cB aa aa (fk jL) (λfJ iK gE=>cW x.1 true e1 _ fJ (g1.kp (Kp.of (U:=UU) gE)) f1 hk) (λfJ iK gE w6 ln lH _ sj=>wV aa ?_);refine ae ?_;refine VO.cond aa dQ ?_;refine wV aa ?_;refine ae ?_;refine VO.read aa [.bool x.2.1,.slice bp x.2.2.1.length bc,.bool x.2.2.2.1,.slice br x.2.2.2.2.length bd] aa (aM hc 4 _ ⟨[],aa⟩) (wV aa ?_);refine ae ?_;obtain⟨b2,e2⟩:∃ b2,x.2.ok=b2:=⟨_,aa⟩;refine VO.cB aa aa (fk jL) (λjS na jI=>cW x.2 b2 e2 _ jS (g2.kp (Kp.of (U:=UU) jI)) f2 hk) (λjS na jI w7 ta rB _ Ct=>wV aa ?_);refine ae ?_;refine VS.back (N-(z+1)) ab ⟨_,_,?_,?_,?_,?_,⟨z+1,b2,ab,aa,by rw[fx hx,nB];unfold iV;rw[e1,e2];rfl,rfl,rfl⟩⟩
     ·refine⟨aa,aa,?_,ag⟩;rw[<-aD (i:=z) ab];rfl
     ·exact cA
     ·rfl
     ·exact gn
  ·refine VS.aP aa (aA (λe=>hlt (aQ.1 e))) ?_;refine ae ?_;refine bl ?_;intro wz kz bz;rw[dP ab] at nB;exact⟨by rw[nB];rfl,bz⟩
 have e5:keep>=0:=ab;rw[aE e5] at IK;refine VO.fix 33 aa (au (λb=>AV.val (.bool b)) (aE e5)) ?_;refine ae ?_;obtain⟨bk,hbk⟩:∃ bk,decide (keep<=40)=bk:=⟨_,aa⟩;have CG:fw a b keep=bk:=by rw[IK,hbk];rfl
 refine VS.fix 5 aa (au (λb=>AV.val (.bool b)) hbk) ?_;refine VS.loop (J:=λm L M w'=>∃ (z:Nat) (bb:Bool),z<=N/\m=N-z/\(fw a b keep && (l.take z).all iV)=bb/\L=[(1,.val (.slice pu N cu)),(5,.val (.bool bb)),(6,.val (.int .i64 (z:Int)))]/\M=[]) N ⟨_,_,?_,?_,?_,?_,⟨0,bk,ab,aa,by rw[yA,CG];exact Bool.and_true bk,aa,aa⟩⟩ ?_
 ·exact cA
 ·exact cA
 ·rfl
 ·exact gn
 rintro m L M w9 ⟨z,bb,hz,rfl,nB,rfl,rfl⟩;refine ae ?_;by_cases hlt:z<N
 ·refine VS.aV aa (aE (aQ.2 hlt)) ?_;obtain⟨x,hx⟩:∃ x,l[z]? =some x:=⟨_,ba ab⟩;obtain⟨bx,off,cs,gP,hc,⟨_,_,rfl,⟨ap,ac,ar,ad,rfl,g1⟩,⟨bp,bc,br,bd,rfl,g2⟩,f1,f2⟩⟩:=hl.at hx;subst gP;cases bb with
  | false=>
    refine ae ?_;refine VS.back (N-(z+1)) ab ⟨_,_,?_,?_,?_,?_,⟨z+1,false,ab,aa,by rw[fx hx,nB];rfl,rfl,rfl⟩⟩
    ·refine⟨aa,aa,?_,ag⟩;rw[<-aD (i:=z) ab];rfl
    ·exact cA
    ·rfl
    ·exact gn
  | true=>
    refine ae ?_;refine VO.cond aa dQ ?_;refine wV aa ?_;refine ae ?_;refine VO.read aa [.bool x.1.1,.slice ap x.1.2.1.length ac,.bool x.1.2.2.1,.slice ar x.1.2.2.2.length ad] aa (aM hc 0 _ ⟨_,aa⟩) (wV aa ?_);refine ae ?_;cases e1:x.1.ok with
    | false=>
      refine VO.cB aa aa (fk jL) (λfJ iK gE=>cW x.1 false e1 _ fJ (g1.kp (Kp.of (U:=UU) gE)) f1 hk) (λfJ iK gE w6 ln lH _ sj=>wV aa ?_);refine ae ?_;refine VS.back (N-(z+1)) ab ⟨_,_,?_,?_,?_,?_,⟨z+1,false,ab,aa,by rw[fx hx,nB];unfold iV;rw[e1];rfl,rfl,rfl⟩⟩
      ·refine⟨aa,aa,?_,ag⟩;rw[<-aD (i:=z) ab];rfl
      ·exact cA
      ·rfl
      ·exact gn
    | true=>
    refine VO.cB aa aa (fk jL) (λfJ iK gE=>cW x.1 true e1 _ fJ (g1.kp (Kp.of (U:=UU) gE)) f1 hk) (λfJ iK gE w6 ln lH _ sj=>wV aa ?_);refine ae ?_;refine VO.cond aa dQ ?_;refine wV aa ?_;refine ae ?_;refine VO.read aa [.bool x.2.1,.slice bp x.2.2.1.length bc,.bool x.2.2.2.1,.slice br x.2.2.2.2.length bd] aa (aM hc 4 _ ⟨[],aa⟩) (wV aa ?_);refine ae ?_;obtain⟨b2,e2⟩:∃ b2,x.2.ok=b2:=⟨_,aa⟩;refine VO.cB aa aa (fk jL) (λjS na jI=>cW x.2 b2 e2 _ jS (g2.kp (Kp.of (U:=UU) jI)) f2 hk) (λjS na jI w7 ta rB _ Ct=>wV aa ?_);refine ae ?_;refine VS.back (N-(z+1)) ab ⟨_,_,?_,?_,?_,?_,⟨z+1,b2,ab,aa,by rw[fx hx,nB];unfold iV;rw[e1,e2];rfl,rfl,rfl⟩⟩
    ·refine⟨aa,aa,?_,ag⟩;rw[<-aD (i:=z) ab];rfl
    ·exact cA
    ·rfl
    ·exact gn
 ·refine VS.aP aa (aA (λe=>hlt (aQ.1 e))) ?_;refine ae ?_;refine bl ?_;intro wz kz bz;rw[dP ab] at nB;exact⟨by rw[nB];rfl,bz⟩
theorem IL (v u:Value) (a b:RR) (keep:Int) (l:List (RR×RR)) (k:Nat) (w:World) (h:fY w v a b keep) (ha:a.ld k) (hb:b.ld k) (hl:dm (pW k) 8 w u l) (hk:k<=100000) (hlen:l.length<=100000) (x:Bool) (hx:(fw a b keep && l.all iV)=x):
 Calls Tryz.prog 47 #[v,u] w λo w'=>o=.returned (.bool x)/\aU w w':=hx▸XZ v u a b keep l k w h ha hb hl hk hlen
end
set_option maxRecDepth 4000
section
open Go.RowKit
attribute [local irreducible] aG VS
variable {w:World}
theorem VS.hop {C:Cx} {Q:Exit->Act->World->Prop} {F:Fr} {H:Hp} {P:Fr->Hp->World->Prop} {stk0 stk1:List It} (h1:(∀ F' H' w',P F' H' w'->VS C Q stk1 F' H' w')->VS C Q stk0 F H w) (h2:∀ F' H' w',P F' H' w'->VS C Q stk1 F' H' w'):VS C Q stk0 F H w:=h1 h2
variable {α β:Type} {E:World->List Value->α->Prop}
theorem jo.of {sz:Nat} (hE:jo E sz) (f:β->α):jo (λw cs b=>E w cs (f b)) sz where
 kp:=λh k=>hE.kp h k
 len:=λh=>hE.len h
 ok:=λh=>hE.ok h
def BR (kk:Nat) (w:World) (cs:List Value) (q:Rat):Prop:=Rw kk w cs (gX q)
def MX (kk:Nat) (w:World) (cs:List Value) (r:bh):Prop:=∃ a b c d e f g,cs=a++(b++(c++(d++(e++(f++g)))))/\BR kk w a r.aX/\BR kk w b r.allowed/\BR kk w c r.az/\BR kk w d r.used/\BR kk w e r.ao/\BR kk w f r.aq/\BR kk w g r.closing
def TD (kk:Nat) (w:World) (cs:List Value) (e:Uq):Prop:=∃ a,cs=[.int .i64 (e.1:Int),.int .i64 (e.2.1:Int)]++a/\BR kk w a e.2.2
theorem bX (kk:Nat):jo (BR kk) 4:=(rw_ok kk).of gX
theorem dG (kk:Nat):jo (MX kk) 28:=(dV kk).of CN
theorem jQ (kk:Nat):jo (TD kk) 6:=(df kk).of CO
variable {t:Bool} {kk c d:Nat} {p u:Option Addr}
theorem fK {s:Bool} {a b:Nat} {q:Rat} (h:cJ w (.agg #[.bool s,.slice p a c,.bool t,.slice u b d]) q) (hs:fI q kk):BR kk w [.bool s,.slice p a c,.bool t,.slice u b d] q:=⟨h.Ju,gY hs⟩
variable {cs:List Value}
theorem BR.opn {q:Rat} (h:BR kk w cs q):∃ s p n c t y m d,cs=[.bool s,.slice p n c,.bool t,.slice y m d]/\BR kk w [.bool s,.slice p n c,.bool t,.slice y m d] q:=by
 obtain⟨⟨p,c,r,d,rfl,h1⟩,h2⟩:=h;exact⟨_,_,_,_,_,_,_,_,aa,⟨p,c,r,d,aa,h1⟩,h2⟩
theorem BR.inq {s:Bool} {a b:Nat} {q:Rat} (h:BR kk w [.bool s,.slice p a c,.bool t,.slice u b d] q):ck w (.agg #[.bool s,.slice p a c,.bool t,.slice u b d]) q kk:=by
 obtain⟨⟨p',c',r',d',hv,h1⟩,h2⟩:=h;simp only[List.cons.injEq,Value.bool.injEq,Value.slice.injEq,and_true] at hv;obtain⟨rfl,⟨rfl,rfl,rfl⟩,rfl,rfl,rfl,rfl⟩:=hv;have:=h1.fZ h2
 rwa [sH] at this
variable {w':World}
theorem BR.kp {T:TypeId->Bool} {q:Rat} (h:BR kk w cs q) (k:bQ ⟨UU,λ_=>True,T⟩ w w'):BR kk w' cs q:=Rw.kp h k
theorem MX.opn {r:bh} (h:MX kk w cs r):∃ Eu Ev Ew Ex Ey Ez EA EB EC ED EE EF EG EH EI EJ EK EL EM EN EO EP ER ES ET EU EW EX EY EZ Fa Fb Fc Ff Fg Fh Fi Fj Fk Fl MY MZ Na Nb Nc Nd Nf Ng Nh Ni Nj Nk Nl Nm Nn Np,cs=[.bool Eu,.slice Ev Ew Ex,.bool Ey,.slice Ez EA EB,.bool EC,.slice ED EE EF,.bool EG,.slice EH EI EJ,.bool EK,.slice EL EM EN,.bool EO,.slice EP ER ES,.bool ET,.slice EU EW EX,.bool EY,.slice EZ Fa Fb,.bool Fc,.slice Ff Fg Fh,.bool Fi,.slice Fj Fk Fl,.bool MY,.slice MZ Na Nb,.bool Nc,.slice Nd Nf Ng,.bool Nh,.slice Ni Nj Nk,.bool Nl,.slice Nm Nn Np]/\BR kk w [.bool Eu,.slice Ev Ew Ex,.bool Ey,.slice Ez EA EB] r.aX/\BR kk w [.bool EC,.slice ED EE EF,.bool EG,.slice EH EI EJ] r.allowed/\BR kk w [.bool EK,.slice EL EM EN,.bool EO,.slice EP ER ES] r.az/\BR kk w [.bool ET,.slice EU EW EX,.bool EY,.slice EZ Fa Fb] r.used/\BR kk w [.bool Fc,.slice Ff Fg Fh,.bool Fi,.slice Fj Fk Fl] r.ao/\BR kk w [.bool MY,.slice MZ Na Nb,.bool Nc,.slice Nd Nf Ng] r.aq/\BR kk w [.bool Nh,.slice Ni Nj Nk,.bool Nl,.slice Nm Nn Np] r.closing:=by
 obtain⟨_,_,_,_,_,_,_,rfl,h0,h1,h2,h3,h4,h5,h6⟩:=h;obtain⟨Eu,Ev,Ew,Ex,Ey,Ez,EA,EB,rfl,g0⟩:=h0.opn;obtain⟨EC,ED,EE,EF,EG,EH,EI,EJ,rfl,g1⟩:=h1.opn;obtain⟨EK,EL,EM,EN,EO,EP,ER,ES,rfl,g2⟩:=h2.opn;obtain⟨ET,EU,EW,EX,EY,EZ,Fa,Fb,rfl,g3⟩:=h3.opn;obtain⟨Fc,Ff,Fg,Fh,Fi,Fj,Fk,Fl,rfl,g4⟩:=h4.opn;obtain⟨MY,MZ,Na,Nb,Nc,Nd,Nf,Ng,rfl,g5⟩:=h5.opn;obtain⟨Nh,Ni,Nj,Nk,Nl,Nm,Nn,Np,rfl,g6⟩:=h6.opn;exact⟨_,_,_,_,_,_,_,_,_,_,_,_,_,_,_,_,_,_,_,_,_,_,_,_,_,_,_,_,_,_,_,_,_,_,_,_,_,_,_,_,_,_,_,_,_,_,_,_,_,_,_,_,_,_,_,_,aa,g0,g1,g2,g3,g4,g5,g6⟩
variable {vs:List (List Value)} {sp:List AV} {i:Nat}
theorem lQ {sz:Nat} {new:List Value} (h:∀ x∈vs,x.length=sz) (hi:i<vs.length) (ho:new.length=sz):
  (vs.flatten.map AV.val++sp).take (0+((i:Nat):Int).toNat*sz)++(new.map AV.val++(vs.flatten.map AV.val++sp).drop (0+((i:Nat):Int).toNat*sz+new.length))=(vs.set i new).flatten.map AV.val++sp:=by
 rw[dC,jt];obtain⟨x,hx⟩:∃ x,vs[i]? =some x:=⟨_,ba hi⟩;have:=Lb (o:=0) (new:=new) (sp:=sp) h hx ab;rw[pO] at this;rw[this];have ib:=h x (cX hx);rw[show x.take 0++(new++x.drop (0+new.length))=new by rw[yA,ma,ly ab,gA]]
variable {es:List α}
theorem jq.set {sz n:Nat} (hE:jo E sz) (h:jq E sz w n c vs sp es) {a:α} (k:Kp UU w w') (hcs:E w' cs a):jq E sz w' n c (vs.set i cs) sp (es.set i a):=by
 have Rr:=h.el.kp hE k;have hel2:=Rr.set (i:=i) hcs;refine⟨by rw[pM];exact h.len,hel2,h.so,h.sl,h.le,h.cm,?_⟩;have hf:=h.fl;rw[bB,bu,fb (Rr.lens hE)] at hf;rw[bB,bu,fb (hel2.lens hE),pM];exact hf
set_option maxRecDepth 8000 in
theorem IM (v u:Value) (S F:RR) (keep:Int) (kn:Nat) (l:List (RR×RR)) (w:World) (hR:fY w v S F keep) (hS:S.ld 3) (hF:F.ld 3) (hl:dm (pW 3) 8 w u l) (gv:re S F keep l) (hlen:l.length<=12) (ux:keep=(kn:Int)):
  Calls Tryz.prog 20 #[v,u] w λo w'=>∃ r u',o=.returned (.tuple #[.agg #[r,u'],.int .i64 0])/\lj (MX 82) 28 108 w.heap.size w' r (Mn S.q F.q kn (cD l)).1/\lj (TD 82) 6 106 w.heap.size w' u' (Mn S.q F.q kn (cD l)).2/\aU w w':=by
 have hM:=pe hR hS hF hl gv hlen;obtain⟨D,hD⟩:∃ D,D=S.q.den*F.q.den*CJ (cD l):=⟨_,aa⟩;obtain⟨M0,hM0⟩:∃ M:Rat,M=(((4294967296^3:Nat):Int):Rat):=⟨_,aa⟩;rw[<-hD,<-hM0] at hM;clear hD hM0;have OT:=gv.k1
 have zSe:∀ e∈l,fI (S.q*e.2.q) 82:=λe he=>by
  obtain⟨a,b⟩:=yrs_sz hl bq e he;exact ((hR.sz hS hF bq).1.mul b).mono ab
 have hR0:=hR;obtain⟨TE,TF,TG,TH,Ob,Oc,Od,Oe,rfl,yY,hfr⟩:=hR;obtain⟨pu,cu,rfl,MG,hum⟩:=hl.form;obtain⟨N,hN⟩:∃ N,N=l.length:=⟨_,aa⟩;rw[<-hN] at hl MG hlen;rw[<-hN];subst ux;have hkn40:kn<=40:=ab;refine ah (C:=cH Tryz.prog w _) (args:=[_,_]) Ka aa Tryz.ntmps20 (bM aa) ?_;refine ae ?_;refine VO.cB aa aa (fk Tryz.func47) (λBC MC zM=>IL _ _ S F (kn:Int) l 3 BC (hR0.kp (Kp.of (U:=UU) zM)) hS hF (hl.bI (bg 3) zM) ab ab true (by rw[gv.rul,gv.yrs];rfl)) (λBC MC zM w41 hb41 kb41 _ bb41=>wV aa ?_);refine ae ?_;refine VS.aP aa (aA (show ¬ (N:Int)>40 by omega)) ?_;refine ae ?_;refine VO.cR aa aa (fk Tryz.func25) (λwa0 ka0 ba0=>sn wa0) (λwa0 ka0 ba0 w0 s0 p0 n0 c0 t0 y0 m0 d0 q0 yj kb0 _ bb0=>wV aa ?_);refine ae ?_
 refine VS.loop (J:=λm L M w'=>∃ (z:Nat) (s0 p0 n0 c0 t0 y0 m0 d0:_),z<=N/\m=N-z/\TOk D M0 (runT S.q F.q kn (cD (l.take z)))/\(runT S.q F.q kn (cD (l.take z))).rows.length=z/\cJ w' (.agg #[.bool s0,.slice p0 n0 c0,.bool t0,.slice y0 m0 d0]) 0/\
   ((z=0/\L=[(1,.val (.slice pu N cu)),(2,.box 2 0),(4,.box 4 0),(6,.box 6 0),(7,.box 7 0),(8,.val (.slice none 0 0)),(9,.val (.int .i64 (z:Int)))]/\M=[(2,(57,([.bool S.1,.slice TE S.2.1.length TF,.bool S.2.2.1,.slice TG S.2.2.2.length TH,.bool F.1,.slice Ob F.2.1.length Oc,.bool F.2.2.1,.slice Od F.2.2.2.length Oe,.int .i64 (kn:Int)]:List Value).map .val)),(4,(64,[.val (.slice none 0 0),.val (.slice none 0 0)])),(6,(64,[.val (.slice none 0 0),.val (.slice none 0 0)])),(7,(55,([.bool s0,.slice p0 n0 c0,.bool t0,.slice y0 m0 d0]:List Value).map .val))])\/
    (0<z/\∃ (Je:List (List Value)) (Ga:List AV) (cl:Nat) (pA:List (List Value)) (tc:List AV) (cr:Nat),jq (BR 82) 4 w' z cl Je Ga (runT S.q F.q kn (cD (l.take z))).left/\jq (MX 82) 28 w' z cr pA tc (runT S.q F.q kn (cD (l.take z))).rows/\
     (((runT S.q F.q kn (cD (l.take z))).uses=[]/\L=[(1,.val (.slice pu N cu)),(2,.box 2 0),(4,.box 4 0),(6,.box 6 0),(7,.box 7 0),(8,.row 115 0 z cl),(9,.val (.int .i64 (z:Int)))]/\M=[(2,(57,([.bool S.1,.slice TE S.2.1.length TF,.bool S.2.2.1,.slice TG S.2.2.2.length TH,.bool F.1,.slice Ob F.2.1.length Oc,.bool F.2.2.1,.slice Od F.2.2.2.length Oe,.int .i64 (kn:Int)]:List Value).map .val)),(4,(64,[.val (.slice none 0 0),.val (.slice none 0 0)])),(6,(64,[.row 129 0 z cr,.val (.slice none 0 0)])),(7,(55,([.bool s0,.slice p0 n0 c0,.bool t0,.slice y0 m0 d0]:List Value).map .val)),(115,(55,Je.flatten.map .val++Ga)),(129,(108,pA.flatten.map .val++tc))])\/
      (∃ (ku:Nat) (CF:List (List Value)) (DU:List AV) (Jw:Nat),jq (TD 82) 6 w' ku Jw CF DU (runT S.q F.q kn (cD (l.take z))).uses/\L=[(1,.val (.slice pu N cu)),(2,.box 2 0),(4,.box 4 0),(6,.box 6 0),(7,.box 7 0),(8,.row 115 0 z cl),(9,.val (.int .i64 (z:Int)))]/\M=[(2,(57,([.bool S.1,.slice TE S.2.1.length TF,.bool S.2.2.1,.slice TG S.2.2.2.length TH,.bool F.1,.slice Ob F.2.1.length Oc,.bool F.2.2.1,.slice Od F.2.2.2.length Oe,.int .i64 (kn:Int)]:List Value).map .val)),(4,(64,[.val (.slice none 0 0),.val (.slice none 0 0)])),(6,(64,[.row 129 0 z cr,.row 95 0 ku Jw])),(7,(55,([.bool s0,.slice p0 n0 c0,.bool t0,.slice y0 m0 d0]:List Value).map .val)),(115,(55,Je.flatten.map .val++Ga)),(129,(108,pA.flatten.map .val++tc)),(95,(106,CF.flatten.map .val++DU))]))))) N
  ⟨_,_,?_,?_,?_,?_,⟨0,s0,p0,n0,c0,t0,y0,m0,d0,ab,rfl,⟨rfl,λx hx=>(by cases hx),fH _⟩,rfl,q0.kr,.inl ⟨rfl,rfl,rfl⟩⟩⟩ ?_
 ·exact cA
 ·exact cA
 ·rfl
 ·exact⟨.vals _,.lit aa,.lit aa,.vals _,ag⟩
 clear q0;rintro m L M wJ ⟨z,s0,p0,n0,c0,t0,y0,m0,d0,hz,rfl,Ya,uy,q0,⟨pX,rfl,rfl⟩|⟨pX,Je,Ga,cl,pA,tc,cr,nP,qA,hUd⟩⟩
 ·subst pX;refine ae ?_;by_cases hlt:(0:Nat)<N
  ·obtain⟨e,he⟩:∃ e,l[0]? =some e:=⟨_,ba ab⟩;obtain⟨j1,j2,j3,j4,j5⟩:=hM.el (e.1.q,e.2.q) (fv.2 ⟨e,cX he,aa⟩);obtain⟨b,off,gD,gP,hc,⟨_,_,rfl,⟨ap,ac,ar,ad,rfl,hae⟩,⟨bp,bc,br,bd,rfl,hbe⟩,hfa,hfb⟩⟩:=hl.at he;subst gP;have QU:=oq S.q F.q e.2.q;obtain⟨LM,zK⟩:∃ LM,aH S.q F.q e.2.q=LM:=⟨_,aa⟩
   dsimp only at j1 j2 j3 j4 j5
   rw[zK] at j1 j2 QU;obtain⟨g1,g2,g3,g4,g5,g6,g7,g8,g9⟩:=sD j1 QU j2 j3 j4 j5;have Nq:=Lj S.q F.q kn (cD (l.take 0)) (e.1.q,e.2.q);rw[<-ue he,uy] at Nq;obtain⟨BK,BL⟩:=QP (S:=S.q) (F:=F.q) (keep:=kn) (e:=(e.1.q,e.2.q)) Ya (by rw[uy];omega) (by dsimp only;rw[zK];exact j1) (by dsimp only;rw[zK];exact j2) j3 j4 j5;rw[uy] at BK BL;rw[<-Nq] at BK BL;have hIn:=TA.init (keep:=kn) Ya uy g7 g8;obtain⟨AL,hAL⟩:∃ AL,ai e.1.q LM=AL:=⟨_,aa⟩;rw[hAL] at g1 g2 g3 g4 g5 g6 g7 g8 g9 hIn;have zLM:=hM.sz LM j1 cY cY;have Yb:=hM.sz AL g1 cY cY;have zDN:=hM.sz _ g4 cY g6;have zRM:=hM.sz _ g7 cY g9;obtain⟨RM,hRM⟩:∃ RM,LM-AL=RM:=⟨_,aa⟩;obtain⟨DN,hDN⟩:∃ DN,e.1.q-AL=DN:=⟨_,aa⟩;rw[hRM] at g7 g8 g9 hIn zRM;rw[hDN] at g4 g5 g6 zDN;obtain⟨LF,Yc⟩:∃ LF,(runT S.q F.q kn (cD (l.take 0))).left.take (0-kn)++(vT (cO (0-kn) ((runT S.q F.q kn (cD (l.take 0))).left.drop (0-kn))) RM).map (·.2)=LF:=⟨_,aa⟩;obtain⟨US,Yd⟩:∃ US,(runT S.q F.q kn (cD (l.take 0))).uses++vS 0 (cO (0-kn) ((runT S.q F.q kn (cD (l.take 0))).left.drop (0-kn))) RM=US:=⟨_,aa⟩;obtain⟨SM,hSM⟩:∃ SM,Cz (cO (0-kn) ((runT S.q F.q kn (cD (l.take 0))).left.drop (0-kn))) RM=SM:=⟨_,aa⟩;rw[Yc,Yd,hSM] at hIn
   have um:runT S.q F.q kn (cD (l.take (0+1)))=tU kn 0 ⟨LF++[DN],(runT S.q F.q kn (cD (l.take 0))).rows++[⟨LM,AL,DN,SM,AL+SM,0,0⟩],US⟩:=by
    rw[Nq];unfold nj CA
    dsimp only
    rw[zK,hAL,hRM,hDN,Yc,Yd,hSM]
   clear Nq Yc Yd hSM;refine VS.aV aa (aE (aQ.2 hlt)) ?_;refine ae ?_;refine VO.cond aa dQ ?_;refine wV aa ?_;refine ae ?_;refine VO.read aa [.bool e.2.1,.slice bp e.2.2.1.length bc,.bool e.2.2.2.1,.slice br e.2.2.2.2.length bd] aa (aM hc 4 _ ⟨[],aa⟩) (wV aa ?_);refine ae ?_;refine VO.cR aa aa (fk Tryz.func49) (λbn cG bo=>zE _ _ S.q e.2.q 3 3 bn ((yY.kp (Kp.of (U:=UU) bo)).fZ hS) ((hbe.kp (Kp.of (U:=UU) bo)).fZ hfb) ab ab) (λbn cG bo w1 s1 p1 n1 c1 t1 y1 m1 d1 q1 bA eF _ bb1=>wV aa ?_);refine ae ?_;refine VO.eB aa (fk Tryz.func48) (λcz β2 dB cT KM=>(zF _ F.q [S.q*e.2.q,0] 82 cz (et (KM.own 47 (.base (aJ.2 aa)) _ _ aa) [] (vs:=[[.bool F.1,.slice Ob F.2.1.length Oc,.bool F.2.2.1,.slice Od F.2.2.2.length Oe],[.bool s1,.slice p1 n1 c1,.bool t1,.slice y1 m1 d1],[.bool s0,.slice p0 n0 c0,.bool t0,.slice y0 m0 d0]]) (by rfl) aa (bV.cons (((hfr.kp (Kp.of (U:=UU) cT)).fZ hF).up ab) (bV.cons (q1.ki (zSe e (cX he))) (bV.cons (q0.ki (fI.zero.mono ab)) bV.nil))) (bM aa) bq) ab (bM aa)).mono ?_);rintro o w2 ⟨r2,rfl,q2,z2,cC⟩;replace q2:cJ w2 r2 (aH S.q F.q e.2.q):=q2;obtain⟨s2,p2,n2,c2,t2,y2,m2,d2,rfl⟩:=q2.form;refine bZ cC ?_;intro fe _ bb2;rw[zK] at q2;refine VO.cond aa dQ ?_;refine wV aa ?_;refine ae ?_;refine VO.read aa [.bool e.1.1,.slice ap e.1.2.1.length ac,.bool e.1.2.2.1,.slice ar e.1.2.2.2.length ad] aa (aM hc 0 _ ⟨_,aa⟩) (wV aa ?_);refine ae ?_;refine VO.eB aa (fk JZ) (λeP β3 fA ft BP=>(qW _ e.1.q [LM] 82 eP (et (BP.own 55 (.base (aJ.2 aa)) _ _ aa) [] (vs:=[[.bool e.1.1,.slice ap e.1.2.1.length ac,.bool e.1.2.2.1,.slice ar e.1.2.2.2.length ad],[.bool s2,.slice p2 n2 c2,.bool t2,.slice y2 m2 d2]]) (by rfl) aa (bV.cons (((hae.kp (Kp.of (U:=UU) ft)).fZ hfa).up ab) (bV.cons (q2.ki zLM) bV.nil)) (bM aa) bq) ab (bM aa)).mono ?_);rintro o w3 ⟨r3,rfl,q3,z3,dZ⟩;replace q3:cJ w3 r3 (gp lI e.1.q [LM]):=q3;obtain⟨s3,p3,n3,c3,t3,y3,m3,d3,rfl⟩:=q3.form;refine bZ dZ ?_;intro jm _ bb3;rw[gK,hAL] at q3;refine VO.cond aa dQ ?_;refine wV aa ?_;refine ae ?_;refine VO.read aa [.bool e.1.1,.slice ap e.1.2.1.length ac,.bool e.1.2.2.1,.slice ar e.1.2.2.2.length ad] aa (aM hc 0 _ ⟨_,aa⟩) (wV aa ?_);refine ae ?_;refine VO.cR aa aa (fk pP) (λfW iJ iB=>eT _ _ e.1.q AL 82 82 fW (((hae.kp (Kp.of (U:=UU) iB)).fZ hfa).up ab) (q3.ki Yb) ab ab) (λfW iJ iB w4 s4 p4 n4 c4 t4 y4 m4 d4 q4 ic mB _ tI=>wV aa ?_);refine ae ?_;refine VO.cR aa aa (fk pP) (λfQ iH fV=>eT _ _ LM AL 82 82 fQ (q2.ki zLM) (q3.ki Yb) ab ab) (λfQ iH fV w5 s5 p5 n5 c5 t5 y5 m5 d5 q5 iz lg _ sR=>wV aa ?_);refine ae ?_;rw[hRM] at q5;rw[hDN] at q4
   have hmx:wR 0 [IntKind.i64.wrap (((0:Nat):Int)-(kn:Int))]=((0-kn:Nat):Int):=by
    rw[rN];show (if _>(0:Int) then _ else (0:Int))=_
    split <;> omega
   refine VS.fix 15 aa (au (λz=>AV.val (.int .i64 z)) hmx) ?_;clear hmx;refine VS.now (λwI kI oI=> ?_);replace q0:cJ wI (.agg #[.bool s0,.slice p0 n0 c0,.bool t0,.slice y0 m0 d0]) 0:=q0.k;replace q2:cJ wI (.agg #[.bool s2,.slice p2 n2 c2,.bool t2,.slice y2 m2 d2]) LM:=q2.k;replace q3:cJ wI (.agg #[.bool s3,.slice p3 n3 c3,.bool t3,.slice y3 m3 d3]) AL:=q3.k;replace q4:cJ wI (.agg #[.bool s4,.slice p4 n4 c4,.bool t4,.slice y4 m4 d4]) DN:=q4.kr;rw[Nat.zero_sub] at hIn;obtain⟨f1,f2,f3⟩:=hIn.fin;have QV:Iz D SM/\0<=SM/\SM<=RM:=by rw[<-f3];exact⟨hIn.uI,hIn.u0,g8⟩
   have hLF0:LF=[]:=f1.symm;have yu:US=[]:=f2.symm;have qh:cJ wI (.agg #[.bool s0,.slice p0 n0 c0,.bool t0,.slice y0 m0 d0]) SM:=by rw[<-f3];exact q0
   refine VS.loop (J:=λm L M w'=>Kp UU wI w'/\L=[(1,.val (.slice (some ⟨b,off,none⟩) N cu)),(2,.box 2 0),(4,.box 4 0),(6,.box 6 0),(7,.box 7 0),(8,.val (.slice none 0 0)),(9,.val (.int .i64 ((0:Nat):Int))),(10,.box 10 0),(11,.box 11 0),(12,.box 12 0),(13,.box 13 0),(14,.box 14 0),(15,.val (.int .i64 ((0-kn:Nat):Int)))]/\M=[(2,(57,([.bool S.1,.slice TE S.2.1.length TF,.bool S.2.2.1,.slice TG S.2.2.2.length TH,.bool F.1,.slice Ob F.2.1.length Oc,.bool F.2.2.1,.slice Od F.2.2.2.length Oe,.int .i64 (kn:Int)]:List Value).map .val)),(4,(64,[.val (.slice none 0 0),.val (.slice none 0 0)])),(6,(64,[.val (.slice none 0 0),.val (.slice none 0 0)])),(7,(55,([.bool s0,.slice p0 n0 c0,.bool t0,.slice y0 m0 d0]:List Value).map .val)),(10,(55,([.bool s2,.slice p2 n2 c2,.bool t2,.slice y2 m2 d2]:List Value).map .val)),(11,(55,([.bool s3,.slice p3 n3 c3,.bool t3,.slice y3 m3 d3]:List Value).map .val)),(12,(55,([.bool s4,.slice p4 n4 c4,.bool t4,.slice y4 m4 d4]:List Value).map .val)),(13,(55,([.bool s5,.slice p5 n5 c5,.bool t5,.slice y5 m5 d5]:List Value).map .val)),(14,(55,([.bool s0,.slice p0 n0 c0,.bool t0,.slice y0 m0 d0]:List Value).map .val))]) 0 ⟨_,_,?_,?_,?_,?_,⟨kR _,aa,aa⟩⟩ ?_
   ·exact cA
   ·exact cA
   ·rfl
   ·exact gn
   rintro m L M wL1 ⟨kV,rfl,rfl⟩;refine ae ?_;have zSM:=hM.sz SM QV.1 cY cY;have zAS:=hM.sz _ (g1.add QV.1) cY cY;have VR:fI 0 82:=fI.zero.mono ab;refine VO.DI (dD _ _) (bX 82) (t:=102) (e:=55) (s:=114) (a:=DN) (cs:=[.bool s4,.slice p4 n4 c4,.bool t4,.slice y4 m4 d4]) aa aa aa aa aa aa aa aa (bM aa) aa aa aa (fK (q4.k) zDN) ab (λw16 cl2 IP k16 b16 iX=>wV aa ?_);refine ae ?_;refine VO.cR aa aa (fk yI) (λID Tw MQ=>jn _ _ AL SM 82 82 ID (q3.ki Yb) (qh.ki zSM) ab ab) (λID Tw MQ w17 s17 p17 n17 c17 t17 y17 m17 d17 q17 hb17 kb17 _ bb17=>wV aa ?_);refine ae ?_;refine VO.DI (dD _ _) (dG 82) (t:=61) (e:=108) (s:=128) (a:=(⟨LM,AL,DN,SM,AL+SM,0,0⟩:bh)) (cs:=[.bool s2,.slice p2 n2 c2,.bool t2,.slice y2 m2 d2,.bool s3,.slice p3 n3 c3,.bool t3,.slice y3 m3 d3,.bool s4,.slice p4 n4 c4,.bool t4,.slice y4 m4 d4,.bool s0,.slice p0 n0 c0,.bool t0,.slice y0 m0 d0,.bool s17,.slice p17 n17 c17,.bool t17,.slice y17 m17 d17,.bool s0,.slice p0 n0 c0,.bool t0,.slice y0 m0 d0,.bool s0,.slice p0 n0 c0,.bool t0,.slice y0 m0 d0]) aa aa aa aa aa aa aa aa (bM aa) aa aa aa ⟨[.bool s2,.slice p2 n2 c2,.bool t2,.slice y2 m2 d2],[.bool s3,.slice p3 n3 c3,.bool t3,.slice y3 m3 d3],[.bool s4,.slice p4 n4 c4,.bool t4,.slice y4 m4 d4],[.bool s0,.slice p0 n0 c0,.bool t0,.slice y0 m0 d0],[.bool s17,.slice p17 n17 c17,.bool t17,.slice y17 m17 d17],[.bool s0,.slice p0 n0 c0,.bool t0,.slice y0 m0 d0],[.bool s0,.slice p0 n0 c0,.bool t0,.slice y0 m0 d0],aa,fK (q2.k) zLM,fK (q3.k) Yb,fK (q4.k) zDN,fK (qh.k) zSM,fK (q17.kr) zAS,fK (q0.k) VR,fK (q0.k) VR⟩ ab (λw18 cr2 IQ k18 b18 jB=>wV aa ?_);refine ae ?_;obtain⟨QW,Ea⟩:∃ vs,vs=([[.bool s4,.slice p4 n4 c4,.bool t4,.slice y4 m4 d4]]:List (List Value)):=⟨_,aa⟩;obtain⟨QX,Eb⟩:∃ vs,vs=([[.bool s2,.slice p2 n2 c2,.bool t2,.slice y2 m2 d2,.bool s3,.slice p3 n3 c3,.bool t3,.slice y3 m3 d3,.bool s4,.slice p4 n4 c4,.bool t4,.slice y4 m4 d4,.bool s0,.slice p0 n0 c0,.bool t0,.slice y0 m0 d0,.bool s17,.slice p17 n17 c17,.bool t17,.slice y17 m17 d17,.bool s0,.slice p0 n0 c0,.bool t0,.slice y0 m0 d0,.bool s0,.slice p0 n0 c0,.bool t0,.slice y0 m0 d0]]:List (List Value)):=⟨_,aa⟩;obtain⟨RW,Og⟩:∃ RW,RW=(runT S.q F.q kn (cD (l.take 0))).rows++[(⟨LM,AL,DN,SM,AL+SM,0,0⟩:bh)]:=⟨_,aa⟩;obtain⟨LL,Wu⟩:∃ LL,LL=LF++[DN]:=⟨_,aa⟩;obtain⟨z1,lD⟩:∃ z1,z1=0+1:=⟨_,aa⟩;have hRW0:(runT S.q F.q kn (cD (l.take 0))).rows=[]:=aa;rw[hLF0] at Wu;rw[hRW0] at Og;rw[<-Ea,<-ma [DN],<-Wu,show 1=z1 from lD.symm] at iX;rw[<-Eb,<-ma [_],<-Og,show 1=z1 from lD.symm] at jB;rw[show 0+1=z1 from lD.symm] at um BK BL;rw[hLF0,hRW0,<-Og,<-Wu] at um;refine VS.narrow [(1,.val (.slice (some ⟨b,off,none⟩) N cu)),(2,.box 2 0),(4,.box 4 0),(6,.box 6 0),(7,.box 7 0),(8,.row 115 0 z1 cl2),(9,.val (.int .i64 (0:Int))),(134,.val (.bool (decide ((0:Int)>=(kn:Int)))))] [(2,(57,([.bool S.1,.slice TE S.2.1.length TF,.bool S.2.2.1,.slice TG S.2.2.2.length TH,.bool F.1,.slice Ob F.2.1.length Oc,.bool F.2.2.1,.slice Od F.2.2.2.length Oe,.int .i64 (kn:Int)]:List Value).map .val)),(4,(64,[.val (.slice none 0 0),.val (.slice none 0 0)])),(6,(64,[.row 129 0 z1 cr2,.val (.slice none 0 0)])),(7,(55,([.bool s0,.slice p0 n0 c0,.bool t0,.slice y0 m0 d0]:List Value).map .val)),(115,(55,QW.flatten.map .val++IP)),(129,(108,QX.flatten.map .val++IQ))] ⟨aa,aa,aa,aa,aa,by rw[lD];rfl,rfl,rfl,ag⟩ ⟨aa,aa,by rw[lD];rfl,rfl,by rw[Ea];rfl,by rw[Eb];rfl,ag⟩ aa ⟨.vals _,.lit aa,.lit aa,.vals _,iX.lp,jB.lp,ag⟩ ?_;have hll:LL.length=z1:=iX.len.symm;have hrwl:RW.length=z1:=jB.len.symm;by_cases hkz:kn<=0
   ·refine VS.aV aa (aE (show (0:Int)>=(kn:Int) by omega)) ?_;refine ae ?_;obtain⟨ix,hix⟩:∃ ix,ix=0-kn:=⟨_,aa⟩;have VT:IntKind.i64.wrap ((0:Int)-(kn:Int))=((ix:Nat):Int):=by rw[rN];omega
    obtain⟨rx,VU⟩:∃ r,RW[ix]? =some r:=⟨_,ba ab⟩;obtain⟨lx,qK⟩:∃ x,LL[ix]? =some x:=⟨_,ba ab⟩;obtain⟨CE,sX,vL,Gx,hcell⟩:=jB.cell (dG 82) VU;obtain⟨Eu,Ev,Ew,Ex,Ey,Ez,EA,EB,EC,ED,EE,EF,EG,EH,EI,EJ,EK,EL,EM,EN,EO,EP,ER,ES,ET,EU,EW,EX,EY,EZ,Fa,Fb,Fc,Ff,Fg,Fh,Fi,Fj,Fk,Fl,MY,MZ,Na,Nb,Nc,Nd,Nf,Ng,Nh,Ni,Nj,Nk,Nl,Nm,Nn,Np,rfl,x0,x1,x2,x3,x4,x5,x6⟩:=vL.opn;refine VO.fix 140 aa (au (λz=>AV.val (.int .i64 z)) (VT)) ?_;refine VO.cond aa dQ ?_;refine wV aa ?_;refine ae ?_;refine VO.dY aa (([.bool Eu,.slice Ev Ew Ex,.bool Ey,.slice Ez EA EB,.bool EC,.slice ED EE EF,.bool EG,.slice EH EI EJ,.bool EK,.slice EL EM EN,.bool EO,.slice EP ER ES,.bool ET,.slice EU EW EX,.bool EY,.slice EZ Fa Fb,.bool Fc,.slice Ff Fg Fh,.bool Fi,.slice Fj Fk Fl,.bool MY,.slice MZ Na Nb,.bool Nc,.slice Nd Nf Ng,.bool Nh,.slice Ni Nj Nk,.bool Nl,.slice Nm Nn Np]:List Value).map .val) aa (hcell 0 _ ⟨[],aa⟩) (wV aa ?_);refine ae ?_;refine VO.fix 147 aa (au (λz=>AV.val (.int .i64 z)) (VT)) ?_;refine VO.cond aa dQ ?_;refine wV aa ?_;refine ae ?_;obtain⟨csl,hcsl,Yp,hll2,vf⟩:=iX.cell (bX 82) qK;obtain⟨Jx,Jy,Jz,JA,JB,JC,JD,del,rfl,xl⟩:=Yp.opn;refine VO.dY aa (([.bool Jx,.slice Jy Jz JA,.bool JB,.slice JC JD del]:List Value).map .val) aa (vf 0 _ ⟨[],aa⟩) (wV aa ?_);refine ae ?_;refine VO.fix 156 aa (au (λz=>AV.val (.int .i64 z)) (VT)) ?_;refine VO.cond aa dQ ?_;refine wV aa ?_;refine ae ?_;have hflr:=jB.fl;have hler:=jB.le;have hfll:=iX.fl;have hlel:=iX.le;refine VO.cond aa (by show 0+((ix:Int)).toNat*28+28<=_;rw[hflr,dC];omega) (VO.fi 129 aa (lQ (new:=[.bool Eu,.slice Ev Ew Ex,.bool Ey,.slice Ez EA EB,.bool EC,.slice ED EE EF,.bool EG,.slice EH EI EJ,.bool EK,.slice EL EM EN,.bool EO,.slice EP ER ES,.bool ET,.slice EU EW EX,.bool EY,.slice EZ Fa Fb,.bool Fc,.slice Ff Fg Fh,.bool Fi,.slice Fj Fk Fl,.bool Jx,.slice Jy Jz JA,.bool JB,.slice JC JD del,.bool Nh,.slice Ni Nj Nk,.bool Nl,.slice Nm Nn Np]) (jB.el.lens (dG 82)) (by rw[jB.el.len];omega) aa) (wV aa ?_));refine ae ?_;refine VO.fix 163 aa (au (λz=>AV.val (.int .i64 z)) (VT)) ?_;refine VO.cond aa dQ ?_;refine wV aa ?_;refine ae ?_;refine VO.cond aa (by show 0+((ix:Int)).toNat*4+4<=_;rw[hfll,dC];omega) (VO.fi 115 aa (lQ (new:=[.bool s0,.slice p0 n0 c0,.bool t0,.slice y0 m0 d0]) (iX.el.lens (bX 82)) (by rw[iX.el.len];omega) aa) (wV aa ?_));refine ae ?_
    have gV:runT S.q F.q kn (cD (l.take z1))=⟨LL.set ix 0,RW.modify ix (λr=>{ r with aq:=lx }),US⟩:=by
     rw[um];unfold tU;rw[if_pos hkz,<-hix]
     dsimp only
     rw[rJ,qK];rfl
    refine VS.back (N-z1) ab ⟨_,_,?_,?_,?_,?_,⟨z1,s0,p0,n0,c0,t0,y0,m0,d0,ab,aa,BK,BL,q0.k,.inr ⟨ab,_,IP,cl2,_,IQ,cr2,by rw[gV];exact iX.set (bX 82) bm (fK (q0.k) VR),by rw[gV,gj VU];exact jB.set (dG 82) bm ⟨[.bool Eu,.slice Ev Ew Ex,.bool Ey,.slice Ez EA EB],[.bool EC,.slice ED EE EF,.bool EG,.slice EH EI EJ],[.bool EK,.slice EL EM EN,.bool EO,.slice EP ER ES],[.bool ET,.slice EU EW EX,.bool EY,.slice EZ Fa Fb],[.bool Fc,.slice Ff Fg Fh,.bool Fi,.slice Fj Fk Fl],[.bool Jx,.slice Jy Jz JA,.bool JB,.slice JC JD del],[.bool Nh,.slice Ni Nj Nk,.bool Nl,.slice Nm Nn Np],aa,(bX 82).kp x0 bm,(bX 82).kp x1 bm,(bX 82).kp x2 bm,(bX 82).kp x3 bm,(bX 82).kp x4 bm,(bX 82).kp xl bm,(bX 82).kp x6 bm⟩,.inl ⟨by rw[gV];exact yu,aa,aa⟩⟩⟩⟩
    ·refine⟨aa,aa,aa,aa,aa,aa,?_,ag⟩;rw[lD,<-aD (i:=0) ab];rfl
    ·exact cA
    ·rfl
    ·exact⟨.vals _,.lit aa,.lit aa,.vals _,(iX.set (bX 82) (kR _) (fK (q0.k) VR)).lp,.append (.vals _) (.none jB.sl),ag⟩
   ·refine VS.aP aa (aA (show ¬ (0:Int)>=(kn:Int) by omega)) ?_;refine ae ?_
    have gV:runT S.q F.q kn (cD (l.take z1))=⟨LL,RW,US⟩:=by
     rw[um];unfold tU;rw[if_neg hkz]
    refine VS.back (N-z1) ab ⟨_,_,?_,?_,?_,?_,⟨z1,s0,p0,n0,c0,t0,y0,m0,d0,ab,aa,BK,BL,q0.k,.inr ⟨ab,QW,IP,cl2,QX,IQ,cr2,by rw[gV];exact iX.kp (bX 82) bm,by rw[gV];exact jB.kp (dG 82) bm,.inl ⟨by rw[gV];exact yu,aa,aa⟩⟩⟩⟩
    ·refine⟨aa,aa,aa,aa,aa,aa,?_,ag⟩;rw[lD,<-aD (i:=0) ab];rfl
    ·exact cA
    ·rfl
    ·exact⟨.vals _,.lit aa,.lit aa,.vals _,iX.lp,jB.lp,ag⟩
  ·refine VS.aP aa (aA (λe=>hlt (aQ.1 e))) ?_;refine ae ?_;refine VS.loop (J:=λm L M w'=>L=[(4,.box 4 0),(6,.box 6 0),(8,.val (.slice none 0 0)),(18,.val (.int .i64 0))]/\M=[(4,(64,[.val (.slice none 0 0),.val (.slice none 0 0)])),(6,(64,[.val (.slice none 0 0),.val (.slice none 0 0)]))]) 0 ⟨_,_,?_,?_,?_,?_,⟨aa,aa⟩⟩ ?_
   ·exact cA
   ·exact cA
   ·rfl
   ·exact gn
   rintro m L M wL1 ⟨rfl,rfl⟩;refine ae ?_;refine VS.pG (dD _ _) aa (λwz β kz bz en=> ?_);have FH:l=[]:=JH.1 ab;subst FH;exact⟨_,_,aa,.inl ⟨aa,aa⟩,.inl ⟨aa,aa⟩,bz⟩
 by_cases hlt:z<N
 ·obtain⟨e,he⟩:∃ e,l[z]? =some e:=⟨_,ba ab⟩;obtain⟨j1,j2,j3,j4,j5⟩:=hM.el (e.1.q,e.2.q) (fv.2 ⟨e,cX he,aa⟩);obtain⟨b,off,gD,gP,hc,⟨_,_,rfl,⟨ap,ac,ar,ad,rfl,hae⟩,⟨bp,bc,br,bd,rfl,hbe⟩,hfa,hfb⟩⟩:=hl.at he;subst gP;have QU:=oq S.q F.q e.2.q;obtain⟨LM,zK⟩:∃ LM,aH S.q F.q e.2.q=LM:=⟨_,aa⟩
  dsimp only at j1 j2 j3 j4 j5
  rw[zK] at j1 j2 QU;obtain⟨g1,g2,g3,g4,g5,g6,g7,g8,g9⟩:=sD j1 QU j2 j3 j4 j5;have Nq:=Lj S.q F.q kn (cD (l.take z)) (e.1.q,e.2.q);rw[<-ue he,uy] at Nq;obtain⟨BK,BL⟩:=QP (S:=S.q) (F:=F.q) (keep:=kn) (e:=(e.1.q,e.2.q)) Ya (by rw[uy];omega) (by dsimp only;rw[zK];exact j1) (by dsimp only;rw[zK];exact j2) j3 j4 j5;rw[uy] at BK BL;rw[<-Nq] at BK BL;have hIn:=TA.init (keep:=kn) Ya uy g7 g8;obtain⟨AL,hAL⟩:∃ AL,ai e.1.q LM=AL:=⟨_,aa⟩;rw[hAL] at g1 g2 g3 g4 g5 g6 g7 g8 g9 hIn;have zLM:=hM.sz LM j1 cY cY;have Yb:=hM.sz AL g1 cY cY;have zDN:=hM.sz _ g4 cY g6;have zRM:=hM.sz _ g7 cY g9;obtain⟨RM,hRM⟩:∃ RM,LM-AL=RM:=⟨_,aa⟩;obtain⟨DN,hDN⟩:∃ DN,e.1.q-AL=DN:=⟨_,aa⟩;rw[hRM] at g7 g8 g9 hIn zRM;rw[hDN] at g4 g5 g6 zDN;obtain⟨LF,Yc⟩:∃ LF,(runT S.q F.q kn (cD (l.take z))).left.take (z-kn)++(vT (cO (z-kn) ((runT S.q F.q kn (cD (l.take z))).left.drop (z-kn))) RM).map (·.2)=LF:=⟨_,aa⟩;obtain⟨US,Yd⟩:∃ US,(runT S.q F.q kn (cD (l.take z))).uses++vS z (cO (z-kn) ((runT S.q F.q kn (cD (l.take z))).left.drop (z-kn))) RM=US:=⟨_,aa⟩;obtain⟨SM,hSM⟩:∃ SM,Cz (cO (z-kn) ((runT S.q F.q kn (cD (l.take z))).left.drop (z-kn))) RM=SM:=⟨_,aa⟩;rw[Yc,Yd,hSM] at hIn
  have um:runT S.q F.q kn (cD (l.take (z+1)))=tU kn z ⟨LF++[DN],(runT S.q F.q kn (cD (l.take z))).rows++[⟨LM,AL,DN,SM,AL+SM,0,0⟩],US⟩:=by
   rw[Nq];unfold nj CA
   dsimp only
   rw[zK,hAL,hRM,hDN,Yc,Yd,hSM]
  clear Nq Yc Yd hSM
  apply VS.hop (P:=λF' H' w'=>∃ (s2 p2 n2 c2 t2 y2 m2 d2 s3 p3 n3 c3 t3 y3 m3 d3 s4 p4 n4 c4 t4 y4 m4 d4 s5 p5 n5 c5 t5 y5 m5 d5:_),cJ w' (.agg #[.bool s0,.slice p0 n0 c0,.bool t0,.slice y0 m0 d0]) 0/\cJ w' (.agg #[.bool s2,.slice p2 n2 c2,.bool t2,.slice y2 m2 d2]) LM/\cJ w' (.agg #[.bool s3,.slice p3 n3 c3,.bool t3,.slice y3 m3 d3]) AL/\cJ w' (.agg #[.bool s4,.slice p4 n4 c4,.bool t4,.slice y4 m4 d4]) DN/\cJ w' (.agg #[.bool s5,.slice p5 n5 c5,.bool t5,.slice y5 m5 d5]) RM/\jq (BR 82) 4 w' z cl Je Ga (runT S.q F.q kn (cD (l.take z))).left/\jq (MX 82) 28 w' z cr pA tc (runT S.q F.q kn (cD (l.take z))).rows/\
   (((runT S.q F.q kn (cD (l.take z))).uses=[]/\F'=Fr.of [(1,.val (.slice (some ⟨b,off,none⟩) N cu)),(2,.box 2 0),(4,.box 4 0),(6,.box 6 0),(7,.box 7 0),(8,.row 115 0 z cl),(9,.val (.int .i64 (z:Int))),(10,.box 10 0),(11,.box 11 0),(12,.box 12 0),(13,.box 13 0),(14,.box 14 0),(15,.val (.int .i64 ((z-kn:Nat):Int)))]/\H'=Hp.of [(2,(57,([.bool S.1,.slice TE S.2.1.length TF,.bool S.2.2.1,.slice TG S.2.2.2.length TH,.bool F.1,.slice Ob F.2.1.length Oc,.bool F.2.2.1,.slice Od F.2.2.2.length Oe,.int .i64 (kn:Int)]:List Value).map .val)),(4,(64,[.val (.slice none 0 0),.val (.slice none 0 0)])),(6,(64,[.row 129 0 z cr,.val (.slice none 0 0)])),(7,(55,([.bool s0,.slice p0 n0 c0,.bool t0,.slice y0 m0 d0]:List Value).map .val)),(10,(55,([.bool s2,.slice p2 n2 c2,.bool t2,.slice y2 m2 d2]:List Value).map .val)),(11,(55,([.bool s3,.slice p3 n3 c3,.bool t3,.slice y3 m3 d3]:List Value).map .val)),(12,(55,([.bool s4,.slice p4 n4 c4,.bool t4,.slice y4 m4 d4]:List Value).map .val)),(13,(55,([.bool s5,.slice p5 n5 c5,.bool t5,.slice y5 m5 d5]:List Value).map .val)),(14,(55,([.bool s0,.slice p0 n0 c0,.bool t0,.slice y0 m0 d0]:List Value).map .val)),(115,(55,Je.flatten.map .val++Ga)),(129,(108,pA.flatten.map .val++tc))])\/(∃ (ku:Nat) (CF:List (List Value)) (DU:List AV) (Jw:Nat),jq (TD 82) 6 w' ku Jw CF DU (runT S.q F.q kn (cD (l.take z))).uses/\F'=Fr.of [(1,.val (.slice (some ⟨b,off,none⟩) N cu)),(2,.box 2 0),(4,.box 4 0),(6,.box 6 0),(7,.box 7 0),(8,.row 115 0 z cl),(9,.val (.int .i64 (z:Int))),(10,.box 10 0),(11,.box 11 0),(12,.box 12 0),(13,.box 13 0),(14,.box 14 0),(15,.val (.int .i64 ((z-kn:Nat):Int)))]/\H'=Hp.of [(2,(57,([.bool S.1,.slice TE S.2.1.length TF,.bool S.2.2.1,.slice TG S.2.2.2.length TH,.bool F.1,.slice Ob F.2.1.length Oc,.bool F.2.2.1,.slice Od F.2.2.2.length Oe,.int .i64 (kn:Int)]:List Value).map .val)),(4,(64,[.val (.slice none 0 0),.val (.slice none 0 0)])),(6,(64,[.row 129 0 z cr,.row 95 0 ku Jw])),(7,(55,([.bool s0,.slice p0 n0 c0,.bool t0,.slice y0 m0 d0]:List Value).map .val)),(10,(55,([.bool s2,.slice p2 n2 c2,.bool t2,.slice y2 m2 d2]:List Value).map .val)),(11,(55,([.bool s3,.slice p3 n3 c3,.bool t3,.slice y3 m3 d3]:List Value).map .val)),(12,(55,([.bool s4,.slice p4 n4 c4,.bool t4,.slice y4 m4 d4]:List Value).map .val)),(13,(55,([.bool s5,.slice p5 n5 c5,.bool t5,.slice y5 m5 d5]:List Value).map .val)),(14,(55,([.bool s0,.slice p0 n0 c0,.bool t0,.slice y0 m0 d0]:List Value).map .val)),(115,(55,Je.flatten.map .val++Ga)),(129,(108,pA.flatten.map .val++tc)),(95,(106,CF.flatten.map .val++DU))])))
  ·intro cont;rcases hUd with ⟨yu,rfl,rfl⟩|⟨ku,CF,DU,Jw,BQ,rfl,rfl⟩
   ·refine ae ?_;refine VS.aV aa (aE (aQ.2 hlt)) ?_;refine ae ?_;refine VO.cond aa dQ ?_;refine wV aa ?_;refine ae ?_;refine VO.read aa [.bool e.2.1,.slice bp e.2.2.1.length bc,.bool e.2.2.2.1,.slice br e.2.2.2.2.length bd] aa (aM hc 4 _ ⟨[],aa⟩) (wV aa ?_);refine ae ?_;refine VO.cR aa aa (fk Tryz.func49) (λbn cG bo=>zE _ _ S.q e.2.q 3 3 bn ((yY.kp (Kp.of (U:=UU) bo)).fZ hS) ((hbe.kp (Kp.of (U:=UU) bo)).fZ hfb) ab ab) (λbn cG bo w1 s1 p1 n1 c1 t1 y1 m1 d1 q1 bA eF _ bb1=>wV aa ?_);refine ae ?_;refine VO.eB aa (fk Tryz.func48) (λcz β2 dB cT KM=>(zF _ F.q [S.q*e.2.q,0] 82 cz (et (KM.own 47 (.base (aJ.2 aa)) _ _ aa) [] (vs:=[[.bool F.1,.slice Ob F.2.1.length Oc,.bool F.2.2.1,.slice Od F.2.2.2.length Oe],[.bool s1,.slice p1 n1 c1,.bool t1,.slice y1 m1 d1],[.bool s0,.slice p0 n0 c0,.bool t0,.slice y0 m0 d0]]) (by rfl) aa (bV.cons (((hfr.kp (Kp.of (U:=UU) cT)).fZ hF).up ab) (bV.cons (q1.ki (zSe e (cX he))) (bV.cons (q0.ki (fI.zero.mono ab)) bV.nil))) (bM aa) bq) ab (bM aa)).mono ?_);rintro o w2 ⟨r2,rfl,q2,z2,cC⟩;replace q2:cJ w2 r2 (aH S.q F.q e.2.q):=q2;obtain⟨s2,p2,n2,c2,t2,y2,m2,d2,rfl⟩:=q2.form;refine bZ cC ?_;intro fe _ bb2;rw[zK] at q2;refine VO.cond aa dQ ?_;refine wV aa ?_;refine ae ?_;refine VO.read aa [.bool e.1.1,.slice ap e.1.2.1.length ac,.bool e.1.2.2.1,.slice ar e.1.2.2.2.length ad] aa (aM hc 0 _ ⟨_,aa⟩) (wV aa ?_);refine ae ?_;refine VO.eB aa (fk JZ) (λeP β3 fA ft BP=>(qW _ e.1.q [LM] 82 eP (et (BP.own 55 (.base (aJ.2 aa)) _ _ aa) [] (vs:=[[.bool e.1.1,.slice ap e.1.2.1.length ac,.bool e.1.2.2.1,.slice ar e.1.2.2.2.length ad],[.bool s2,.slice p2 n2 c2,.bool t2,.slice y2 m2 d2]]) (by rfl) aa (bV.cons (((hae.kp (Kp.of (U:=UU) ft)).fZ hfa).up ab) (bV.cons (q2.ki zLM) bV.nil)) (bM aa) bq) ab (bM aa)).mono ?_);rintro o w3 ⟨r3,rfl,q3,z3,dZ⟩;replace q3:cJ w3 r3 (gp lI e.1.q [LM]):=q3;obtain⟨s3,p3,n3,c3,t3,y3,m3,d3,rfl⟩:=q3.form;refine bZ dZ ?_;intro jm _ bb3;rw[gK,hAL] at q3;refine VO.cond aa dQ ?_;refine wV aa ?_;refine ae ?_;refine VO.read aa [.bool e.1.1,.slice ap e.1.2.1.length ac,.bool e.1.2.2.1,.slice ar e.1.2.2.2.length ad] aa (aM hc 0 _ ⟨_,aa⟩) (wV aa ?_);refine ae ?_;refine VO.cR aa aa (fk pP) (λfW iJ iB=>eT _ _ e.1.q AL 82 82 fW (((hae.kp (Kp.of (U:=UU) iB)).fZ hfa).up ab) (q3.ki Yb) ab ab) (λfW iJ iB w4 s4 p4 n4 c4 t4 y4 m4 d4 q4 ic mB _ tI=>wV aa ?_);refine ae ?_;refine VO.cR aa aa (fk pP) (λfQ iH fV=>eT _ _ LM AL 82 82 fQ (q2.ki zLM) (q3.ki Yb) ab ab) (λfQ iH fV w5 s5 p5 n5 c5 t5 y5 m5 d5 q5 iz lg _ sR=>wV aa ?_);refine ae ?_;rw[hRM] at q5;rw[hDN] at q4
    have hmx:wR 0 [IntKind.i64.wrap (((z:Nat):Int)-(kn:Int))]=((z-kn:Nat):Int):=by
     rw[rN];show (if _>(0:Int) then _ else (0:Int))=_
     split <;> omega
    refine VS.fix 15 aa (au (λz=>AV.val (.int .i64 z)) hmx) ?_;clear hmx;refine VS.now (λwI kI oI=> ?_);refine VS.narrow [(1,.val (.slice (some ⟨b,off,none⟩) N cu)),(2,.box 2 0),(4,.box 4 0),(6,.box 6 0),(7,.box 7 0),(8,.row 115 0 z cl),(9,.val (.int .i64 (z:Int))),(10,.box 10 0),(11,.box 11 0),(12,.box 12 0),(13,.box 13 0),(14,.box 14 0),(15,.val (.int .i64 ((z-kn:Nat):Int)))] [(2,(57,([.bool S.1,.slice TE S.2.1.length TF,.bool S.2.2.1,.slice TG S.2.2.2.length TH,.bool F.1,.slice Ob F.2.1.length Oc,.bool F.2.2.1,.slice Od F.2.2.2.length Oe,.int .i64 (kn:Int)]:List Value).map .val)),(4,(64,[.val (.slice none 0 0),.val (.slice none 0 0)])),(6,(64,[.row 129 0 z cr,.val (.slice none 0 0)])),(7,(55,([.bool s0,.slice p0 n0 c0,.bool t0,.slice y0 m0 d0]:List Value).map .val)),(10,(55,([.bool s2,.slice p2 n2 c2,.bool t2,.slice y2 m2 d2]:List Value).map .val)),(11,(55,([.bool s3,.slice p3 n3 c3,.bool t3,.slice y3 m3 d3]:List Value).map .val)),(12,(55,([.bool s4,.slice p4 n4 c4,.bool t4,.slice y4 m4 d4]:List Value).map .val)),(13,(55,([.bool s5,.slice p5 n5 c5,.bool t5,.slice y5 m5 d5]:List Value).map .val)),(14,(55,([.bool s0,.slice p0 n0 c0,.bool t0,.slice y0 m0 d0]:List Value).map .val)),(115,(55,Je.flatten.map .val++Ga)),(129,(108,pA.flatten.map .val++tc))] ⟨aa,aa,aa,aa,aa,aa,aa,aa,aa,aa,aa,aa,aa,ag⟩ ⟨aa,aa,aa,aa,aa,aa,aa,aa,aa,aa,aa,ag⟩ aa ⟨.vals _,.lit aa,.lit aa,.vals _,.vals _,.vals _,.vals _,.vals _,.vals _,nP.lp,qA.lp,ag⟩ ?_;exact cont _ _ _ ⟨s2,p2,n2,c2,t2,y2,m2,d2,s3,p3,n3,c3,t3,y3,m3,d3,s4,p4,n4,c4,t4,y4,m4,d4,s5,p5,n5,c5,t5,y5,m5,d5,q0.k,q2.k,q3.k,q4.kr,q5.kr,nP.kp (bX 82) bm,qA.kp (dG 82) bm,.inl ⟨yu,aa,aa⟩⟩
   ·refine ae ?_;refine VS.aV aa (aE (aQ.2 hlt)) ?_;refine ae ?_;refine VO.cond aa dQ ?_;refine wV aa ?_;refine ae ?_;refine VO.read aa [.bool e.2.1,.slice bp e.2.2.1.length bc,.bool e.2.2.2.1,.slice br e.2.2.2.2.length bd] aa (aM hc 4 _ ⟨[],aa⟩) (wV aa ?_);refine ae ?_;refine VO.cR aa aa (fk Tryz.func49) (λbn cG bo=>zE _ _ S.q e.2.q 3 3 bn ((yY.kp (Kp.of (U:=UU) bo)).fZ hS) ((hbe.kp (Kp.of (U:=UU) bo)).fZ hfb) ab ab) (λbn cG bo w1 s1 p1 n1 c1 t1 y1 m1 d1 q1 bA eF _ bb1=>wV aa ?_);refine ae ?_;refine VO.eB aa (fk Tryz.func48) (λcz β2 dB cT KM=>(zF _ F.q [S.q*e.2.q,0] 82 cz (et (KM.own 47 (.base (aJ.2 aa)) _ _ aa) [] (vs:=[[.bool F.1,.slice Ob F.2.1.length Oc,.bool F.2.2.1,.slice Od F.2.2.2.length Oe],[.bool s1,.slice p1 n1 c1,.bool t1,.slice y1 m1 d1],[.bool s0,.slice p0 n0 c0,.bool t0,.slice y0 m0 d0]]) (by rfl) aa (bV.cons (((hfr.kp (Kp.of (U:=UU) cT)).fZ hF).up ab) (bV.cons (q1.ki (zSe e (cX he))) (bV.cons (q0.ki (fI.zero.mono ab)) bV.nil))) (bM aa) bq) ab (bM aa)).mono ?_);rintro o w2 ⟨r2,rfl,q2,z2,cC⟩;replace q2:cJ w2 r2 (aH S.q F.q e.2.q):=q2;obtain⟨s2,p2,n2,c2,t2,y2,m2,d2,rfl⟩:=q2.form;refine bZ cC ?_;intro fe _ bb2;rw[zK] at q2;refine VO.cond aa dQ ?_;refine wV aa ?_;refine ae ?_;refine VO.read aa [.bool e.1.1,.slice ap e.1.2.1.length ac,.bool e.1.2.2.1,.slice ar e.1.2.2.2.length ad] aa (aM hc 0 _ ⟨_,aa⟩) (wV aa ?_);refine ae ?_;refine VO.eB aa (fk JZ) (λeP β3 fA ft BP=>(qW _ e.1.q [LM] 82 eP (et (BP.own 55 (.base (aJ.2 aa)) _ _ aa) [] (vs:=[[.bool e.1.1,.slice ap e.1.2.1.length ac,.bool e.1.2.2.1,.slice ar e.1.2.2.2.length ad],[.bool s2,.slice p2 n2 c2,.bool t2,.slice y2 m2 d2]]) (by rfl) aa (bV.cons (((hae.kp (Kp.of (U:=UU) ft)).fZ hfa).up ab) (bV.cons (q2.ki zLM) bV.nil)) (bM aa) bq) ab (bM aa)).mono ?_);rintro o w3 ⟨r3,rfl,q3,z3,dZ⟩;replace q3:cJ w3 r3 (gp lI e.1.q [LM]):=q3;obtain⟨s3,p3,n3,c3,t3,y3,m3,d3,rfl⟩:=q3.form;refine bZ dZ ?_;intro jm _ bb3;rw[gK,hAL] at q3;refine VO.cond aa dQ ?_;refine wV aa ?_;refine ae ?_;refine VO.read aa [.bool e.1.1,.slice ap e.1.2.1.length ac,.bool e.1.2.2.1,.slice ar e.1.2.2.2.length ad] aa (aM hc 0 _ ⟨_,aa⟩) (wV aa ?_);refine ae ?_;refine VO.cR aa aa (fk pP) (λfW iJ iB=>eT _ _ e.1.q AL 82 82 fW (((hae.kp (Kp.of (U:=UU) iB)).fZ hfa).up ab) (q3.ki Yb) ab ab) (λfW iJ iB w4 s4 p4 n4 c4 t4 y4 m4 d4 q4 ic mB _ tI=>wV aa ?_);refine ae ?_;refine VO.cR aa aa (fk pP) (λfQ iH fV=>eT _ _ LM AL 82 82 fQ (q2.ki zLM) (q3.ki Yb) ab ab) (λfQ iH fV w5 s5 p5 n5 c5 t5 y5 m5 d5 q5 iz lg _ sR=>wV aa ?_);refine ae ?_;rw[hRM] at q5;rw[hDN] at q4
    have hmx:wR 0 [IntKind.i64.wrap (((z:Nat):Int)-(kn:Int))]=((z-kn:Nat):Int):=by
     rw[rN];show (if _>(0:Int) then _ else (0:Int))=_
     split <;> omega
    refine VS.fix 15 aa (au (λz=>AV.val (.int .i64 z)) hmx) ?_;clear hmx;refine VS.now (λwI kI oI=> ?_);refine VS.narrow [(1,.val (.slice (some ⟨b,off,none⟩) N cu)),(2,.box 2 0),(4,.box 4 0),(6,.box 6 0),(7,.box 7 0),(8,.row 115 0 z cl),(9,.val (.int .i64 (z:Int))),(10,.box 10 0),(11,.box 11 0),(12,.box 12 0),(13,.box 13 0),(14,.box 14 0),(15,.val (.int .i64 ((z-kn:Nat):Int)))] [(2,(57,([.bool S.1,.slice TE S.2.1.length TF,.bool S.2.2.1,.slice TG S.2.2.2.length TH,.bool F.1,.slice Ob F.2.1.length Oc,.bool F.2.2.1,.slice Od F.2.2.2.length Oe,.int .i64 (kn:Int)]:List Value).map .val)),(4,(64,[.val (.slice none 0 0),.val (.slice none 0 0)])),(6,(64,[.row 129 0 z cr,.row 95 0 ku Jw])),(7,(55,([.bool s0,.slice p0 n0 c0,.bool t0,.slice y0 m0 d0]:List Value).map .val)),(10,(55,([.bool s2,.slice p2 n2 c2,.bool t2,.slice y2 m2 d2]:List Value).map .val)),(11,(55,([.bool s3,.slice p3 n3 c3,.bool t3,.slice y3 m3 d3]:List Value).map .val)),(12,(55,([.bool s4,.slice p4 n4 c4,.bool t4,.slice y4 m4 d4]:List Value).map .val)),(13,(55,([.bool s5,.slice p5 n5 c5,.bool t5,.slice y5 m5 d5]:List Value).map .val)),(14,(55,([.bool s0,.slice p0 n0 c0,.bool t0,.slice y0 m0 d0]:List Value).map .val)),(115,(55,Je.flatten.map .val++Ga)),(129,(108,pA.flatten.map .val++tc)),(95,(106,CF.flatten.map .val++DU))] ⟨aa,aa,aa,aa,aa,aa,aa,aa,aa,aa,aa,aa,aa,ag⟩ ⟨aa,aa,aa,aa,aa,aa,aa,aa,aa,aa,aa,aa,ag⟩ aa ⟨.vals _,.lit aa,.lit aa,.vals _,.vals _,.vals _,.vals _,.vals _,.vals _,nP.lp,qA.lp,BQ.lp,ag⟩ ?_;exact cont _ _ _ ⟨s2,p2,n2,c2,t2,y2,m2,d2,s3,p3,n3,c3,t3,y3,m3,d3,s4,p4,n4,c4,t4,y4,m4,d4,s5,p5,n5,c5,t5,y5,m5,d5,q0.k,q2.k,q3.k,q4.kr,q5.kr,nP.kp (bX 82) bm,qA.kp (dG 82) bm,.inr ⟨ku,CF,DU,Jw,BQ.kp (jQ 82) bm,aa,aa⟩⟩
  rintro F' H' wI ⟨s2,p2,n2,c2,t2,y2,m2,d2,s3,p3,n3,c3,t3,y3,m3,d3,s4,p4,n4,c4,t4,y4,m4,d4,s5,p5,n5,c5,t5,y5,m5,d5,q0,q2,q3,q4,q5,nP,qA,hUd⟩
  refine VS.loop (J:=λm L M w'=>∃ (v:Nat) (lf:List Rat) (us:List Uq) (rm ud:Rat) (sg pg ng cg tg yg mg dg:_) (sh ph nh ch th yh mh dh:_) (Je:List (List Value)) (Ga:List AV),v<=z/\m=z-v/\
   TA D (M0+M0) (100*z) z LF US SM RM v lf us rm ud/\cJ w' (.agg #[.bool sg,.slice pg ng cg,.bool tg,.slice yg mg dg]) rm/\cJ w' (.agg #[.bool sh,.slice ph nh ch,.bool th,.slice yh mh dh]) ud/\jq (BR 82) 4 w' z cl Je Ga lf/\Kp UU wI w'/\
   ((us=[]/\L=[(1,.val (.slice (some ⟨b,off,none⟩) N cu)),(2,.box 2 0),(4,.box 4 0),(6,.box 6 0),(7,.box 7 0),(8,.row 115 0 z cl),(9,.val (.int .i64 (z:Int))),(10,.box 10 0),(11,.box 11 0),(12,.box 12 0),(13,.box 13 0),(14,.box 14 0),(15,.val (.int .i64 (v:Int)))]/\M=[(2,(57,([.bool S.1,.slice TE S.2.1.length TF,.bool S.2.2.1,.slice TG S.2.2.2.length TH,.bool F.1,.slice Ob F.2.1.length Oc,.bool F.2.2.1,.slice Od F.2.2.2.length Oe,.int .i64 (kn:Int)]:List Value).map .val)),(4,(64,[.val (.slice none 0 0),.val (.slice none 0 0)])),(6,(64,[.row 129 0 z cr,.val (.slice none 0 0)])),(7,(55,([.bool s0,.slice p0 n0 c0,.bool t0,.slice y0 m0 d0]:List Value).map .val)),(10,(55,([.bool s2,.slice p2 n2 c2,.bool t2,.slice y2 m2 d2]:List Value).map .val)),(11,(55,([.bool s3,.slice p3 n3 c3,.bool t3,.slice y3 m3 d3]:List Value).map .val)),(12,(55,([.bool s4,.slice p4 n4 c4,.bool t4,.slice y4 m4 d4]:List Value).map .val)),(13,(55,([.bool sg,.slice pg ng cg,.bool tg,.slice yg mg dg]:List Value).map .val)),(14,(55,([.bool sh,.slice ph nh ch,.bool th,.slice yh mh dh]:List Value).map .val)),(115,(55,Je.flatten.map .val++Ga)),(129,(108,pA.flatten.map .val++tc))])\/
    (∃ (ku:Nat) (CF:List (List Value)) (DU:List AV) (Jw:Nat),jq (TD 82) 6 w' ku Jw CF DU us/\L=[(1,.val (.slice (some ⟨b,off,none⟩) N cu)),(2,.box 2 0),(4,.box 4 0),(6,.box 6 0),(7,.box 7 0),(8,.row 115 0 z cl),(9,.val (.int .i64 (z:Int))),(10,.box 10 0),(11,.box 11 0),(12,.box 12 0),(13,.box 13 0),(14,.box 14 0),(15,.val (.int .i64 (v:Int)))]/\M=[(2,(57,([.bool S.1,.slice TE S.2.1.length TF,.bool S.2.2.1,.slice TG S.2.2.2.length TH,.bool F.1,.slice Ob F.2.1.length Oc,.bool F.2.2.1,.slice Od F.2.2.2.length Oe,.int .i64 (kn:Int)]:List Value).map .val)),(4,(64,[.val (.slice none 0 0),.val (.slice none 0 0)])),(6,(64,[.row 129 0 z cr,.row 95 0 ku Jw])),(7,(55,([.bool s0,.slice p0 n0 c0,.bool t0,.slice y0 m0 d0]:List Value).map .val)),(10,(55,([.bool s2,.slice p2 n2 c2,.bool t2,.slice y2 m2 d2]:List Value).map .val)),(11,(55,([.bool s3,.slice p3 n3 c3,.bool t3,.slice y3 m3 d3]:List Value).map .val)),(12,(55,([.bool s4,.slice p4 n4 c4,.bool t4,.slice y4 m4 d4]:List Value).map .val)),(13,(55,([.bool sg,.slice pg ng cg,.bool tg,.slice yg mg dg]:List Value).map .val)),(14,(55,([.bool sh,.slice ph nh ch,.bool th,.slice yh mh dh]:List Value).map .val)),(115,(55,Je.flatten.map .val++Ga)),(129,(108,pA.flatten.map .val++tc)),(95,(106,CF.flatten.map .val++DU))]))) (z-(z-kn)) ?_ ?_
  ·rcases hUd with ⟨yu,rfl,rfl⟩|⟨ku,CF,DU,Jw,BQ,rfl,rfl⟩
   ·refine⟨_,_,?_,?_,?_,?_,⟨z-kn,_,_,RM,0,s5,p5,n5,c5,t5,y5,m5,d5,s0,p0,n0,c0,t0,y0,m0,d0,Je,Ga,ab,aa,hIn,q5,q0,nP,kR _,.inl ⟨yu,aa,aa⟩⟩⟩
    ·exact cA
    ·exact cA
    ·rfl
    ·exact⟨.vals _,.lit aa,.lit aa,.vals _,.vals _,.vals _,.vals _,.vals _,.vals _,nP.lp,qA.lp,ag⟩
   ·refine⟨_,_,?_,?_,?_,?_,⟨z-kn,_,_,RM,0,s5,p5,n5,c5,t5,y5,m5,d5,s0,p0,n0,c0,t0,y0,m0,d0,Je,Ga,ab,aa,hIn,q5,q0,nP,kR _,.inr ⟨ku,CF,DU,Jw,BQ,aa,aa⟩⟩⟩
    ·exact cA
    ·exact cA
    ·rfl
    ·exact⟨.vals _,.lit aa,.lit aa,.vals _,.vals _,.vals _,.vals _,.vals _,.vals _,nP.lp,qA.lp,BQ.lp,ag⟩
  clear nP hIn q5 hUd;rintro m L M wL1 ⟨v,lf,us,rm,ud,sg,pg,ng,cg,tg,yg,mg,dg,sh,ph,nh,ch,th,yh,mh,dh,Je,Ga,hvz,rfl,hI,qg,qh,nP,kV,⟨yu,rfl,rfl⟩|⟨ku,CF,DU,Jw,BQ,rfl,rfl⟩⟩
  ·refine ae ?_;by_cases kG:v<z
   ·obtain⟨x,hx⟩:∃ x,lf[v]? =some x:=⟨_,ba (by have:=hI.len;omega)⟩;obtain⟨x1,x2,x3⟩:=hI.el x (cX hx);have hI2:=hI.step hx kG;have sC:Iz D (ai x rm):=by rcases dJ x rm with ⟨e,_⟩|⟨e,_⟩ <;> rw[e];exact x1;exact hI.rI
    have rn:0<=ai x rm:=by have:=hI.r0;rcases dJ x rm with ⟨e,_⟩|⟨e,_⟩ <;> rw[e] <;> assumption
    have Co:=eh x rm;have RT:=hI.sm;have Gt:=hI.r0;have hu0:=hI.u0;have zX:=hM.sz x x1 cY x3;have zR:=hM.sz rm hI.rI cY cY;have zU:=hM.sz ud hI.uI cY cY;have zN:=hM.sz _ sC cY cY;have zX2:=hM.sz _ (x1.sub sC) cY cY;obtain⟨csx,hcsx,hEx,qK,hcell⟩:=nP.cell (bX 82) hx;obtain⟨sx,px,nx,cx,tx,yx,mx,dx,rfl,xin⟩:=hEx.opn;refine VS.aV aa (aE (aQ.2 kG)) ?_;refine ae ?_;refine VO.cond aa dQ ?_;refine wV aa ?_;refine ae ?_;refine VO.dY aa (([.bool sx,.slice px nx cx,.bool tx,.slice yx mx dx]:List Value).map .val) aa (hcell 0 _ ⟨[],aa⟩) (wV aa ?_);refine ae ?_;refine VO.eB aa (fk JZ) (λBG β21 ka21 MR ho21=>(qW _ x [rm] 82 BG (et (ho21.own 83 (.base (aJ.2 aa)) _ _ aa) [] (vs:=[[.bool sx,.slice px nx cx,.bool tx,.slice yx mx dx],[.bool sg,.slice pg ng cg,.bool tg,.slice yg mg dg]]) (by rfl) aa (bV.cons ((xin.kp bm).inq) (bV.cons (qg.ki zR) bV.nil)) (bM aa) bq) ab (bM aa)).mono ?_);rintro o Rv ⟨r21,rfl,Fm,z21,QN⟩;replace Fm:cJ Rv r21 (gp lI x [rm]):=Fm;obtain⟨s21,p21,n21,c21,t21,y21,m21,d21,rfl⟩:=Fm.form;refine bZ QN ?_;intro kb21 _ bb21;rw[gK] at Fm;obtain⟨cn,La⟩:∃ c,eQ (ai x rm) 0=c:=⟨_,aa⟩;refine VO.cB aa aa (fk Tryz.func52) (λwa22 ka22 ba22=>zQ _ (ai x rm) 82 wa22 (Fm.ki zN) ab cn La) (λwa22 ka22 ba22 w22 hb22 kb22 _ bb22=>wV aa ?_);refine ae ?_;by_cases tp:0<ai x rm
    ·refine VS.aV aa (aE ((kP La).2.2.2.1 tp)) ?_;refine ae ?_;have TJ:us++(if 0<ai x rm then [(v,z,ai x rm)] else [])=us++[(v,z,ai x rm)]:=by rw[if_pos tp]
     refine VO.DI (dD _ _) (jQ 82) (t:=62) (e:=106) (s:=94) (a:=(v,z,ai x rm)) (cs:=[.int .i64 (v:Int),.int .i64 (z:Int),.bool s21,.slice p21 n21 c21,.bool t21,.slice y21 m21 d21]) aa aa aa aa aa aa aa aa (bM aa) aa aa aa ⟨[.bool s21,.slice p21 n21 c21,.bool t21,.slice y21 m21 d21],aa,fK (Fm.k) zN⟩ ab (λJt cu3 spu2 k19 b19 TK=>wV aa ?_);refine ae ?_;replace TK:jq (TD 82) 6 Jt 1 cu3 [[.int .i64 (v:Int),.int .i64 (z:Int),.bool s21,.slice p21 n21 c21,.bool t21,.slice y21 m21 d21]] spu2 (us++[(v,z,ai x rm)]):=by rw[yu];exact TK
     refine VO.cond aa dQ ?_;refine wV aa ?_;refine ae ?_;refine VO.dY aa (([.bool sx,.slice px nx cx,.bool tx,.slice yx mx dx]:List Value).map .val) aa (hcell 0 _ ⟨[],aa⟩) (wV aa ?_);refine ae ?_;refine VO.cR aa aa (fk pP) (λIU TL TM=>eT _ _ x (ai x rm) 82 82 IU ((xin.kp bm).inq) (Fm.ki zN) ab ab) (λIU TL TM w23 XF XG XH XI t23 XJ XK d23 q23 hb23 kb23 _ bb23=>wV aa ?_);refine ae ?_;refine VO.cond aa dQ ?_;refine wV aa ?_;refine ae ?_;have IV:=nP.set (bX 82) (i:=v) (cs:=[.bool XF,.slice XG XH XI,.bool t23,.slice XJ XK d23]) (a:=x-ai x rm) (w':=w23) bm (fK (q23.kr) zX2);refine VO.cond aa (by show 0+((v:Int)).toNat*4+4<=_;rw[nP.fl,dC];have:=nP.le;omega) (VO.fi 115 aa (lQ (new:=[.bool XF,.slice XG XH XI,.bool t23,.slice XJ XK d23]) (nP.el.lens (bX 82)) (by rw[nP.el.len,<-nP.len];omega) aa) (wV aa ?_));refine ae ?_;refine VO.cR aa aa (fk pP) (λIW TN TP=>eT _ _ rm (ai x rm) 82 82 IW (qg.ki zR) (Fm.ki zN) ab ab) (λIW TN TP w24 s24 p24 n24 c24 t24 y24 m24 d24 q24 hb24 kb24 _ bb24=>wV aa ?_);refine ae ?_;refine VO.cR aa aa (fk yI) (λIX TQ TR=>jn _ _ ud (ai x rm) 82 82 IX (qh.ki zU) (Fm.ki zN) ab ab) (λIX TQ TR w25 s25 p25 n25 c25 t25 y25 m25 d25 q25 hb25 kb25 _ bb25=>wV aa ?_);refine ae ?_;refine VS.back (z-(v+1)) ab ⟨_,_,?_,?_,?_,?_,⟨v+1,lf.set v (x-ai x rm),us++(if 0<ai x rm then [(v,z,ai x rm)] else []),rm-ai x rm,ud+ai x rm,s24,p24,n24,c24,t24,y24,m24,d24,s25,p25,n25,c25,t25,y25,m25,d25,_,Ga,ab,aa,hI2,q24.kr,q25.kr,IV.kp (bX 82) bm,bm,.inr ⟨1,[[.int .i64 (v:Int),.int .i64 (z:Int),.bool s21,.slice p21 n21 c21,.bool t21,.slice y21 m21 d21]],spu2,cu3,by rw[TJ];exact TK.kp (jQ 82) bm,aa,aa⟩⟩⟩
     ·refine⟨aa,aa,aa,aa,aa,aa,aa,aa,aa,aa,aa,aa,?_,ag⟩;rw[<-aD (i:=v) ab];rfl
     ·exact cA
     ·rfl
     ·exact⟨.vals _,.lit aa,.lit aa,.vals _,.vals _,.vals _,.vals _,.vals _,.vals _,IV.lp,qA.lp,TK.lp,ag⟩
    ·refine VS.aP aa (aA ((kP La).1 (Ak.1 tp))) ?_;refine ae ?_;have TJ:us++(if 0<ai x rm then [(v,z,ai x rm)] else [])=us:=by rw[if_neg tp,gA]
     refine VO.cond aa dQ ?_;refine wV aa ?_;refine ae ?_;refine VO.dY aa (([.bool sx,.slice px nx cx,.bool tx,.slice yx mx dx]:List Value).map .val) aa (hcell 0 _ ⟨[],aa⟩) (wV aa ?_);refine ae ?_;refine VO.cR aa aa (fk pP) (λIU TL TM=>eT _ _ x (ai x rm) 82 82 IU ((xin.kp bm).inq) (Fm.ki zN) ab ab) (λIU TL TM w23 XF XG XH XI t23 XJ XK d23 q23 hb23 kb23 _ bb23=>wV aa ?_);refine ae ?_;refine VO.cond aa dQ ?_;refine wV aa ?_;refine ae ?_;have IV:=nP.set (bX 82) (i:=v) (cs:=[.bool XF,.slice XG XH XI,.bool t23,.slice XJ XK d23]) (a:=x-ai x rm) (w':=w23) bm (fK (q23.kr) zX2);refine VO.cond aa (by show 0+((v:Int)).toNat*4+4<=_;rw[nP.fl,dC];have:=nP.le;omega) (VO.fi 115 aa (lQ (new:=[.bool XF,.slice XG XH XI,.bool t23,.slice XJ XK d23]) (nP.el.lens (bX 82)) (by rw[nP.el.len,<-nP.len];omega) aa) (wV aa ?_));refine ae ?_;refine VO.cR aa aa (fk pP) (λIW TN TP=>eT _ _ rm (ai x rm) 82 82 IW (qg.ki zR) (Fm.ki zN) ab ab) (λIW TN TP w24 s24 p24 n24 c24 t24 y24 m24 d24 q24 hb24 kb24 _ bb24=>wV aa ?_);refine ae ?_;refine VO.cR aa aa (fk yI) (λIX TQ TR=>jn _ _ ud (ai x rm) 82 82 IX (qh.ki zU) (Fm.ki zN) ab ab) (λIX TQ TR w25 s25 p25 n25 c25 t25 y25 m25 d25 q25 hb25 kb25 _ bb25=>wV aa ?_);refine ae ?_;refine VS.back (z-(v+1)) ab ⟨_,_,?_,?_,?_,?_,⟨v+1,lf.set v (x-ai x rm),us++(if 0<ai x rm then [(v,z,ai x rm)] else []),rm-ai x rm,ud+ai x rm,s24,p24,n24,c24,t24,y24,m24,d24,s25,p25,n25,c25,t25,y25,m25,d25,_,Ga,ab,aa,hI2,q24.kr,q25.kr,IV.kp (bX 82) bm,bm,.inl ⟨by rw[TJ];exact yu,aa,aa⟩⟩⟩
     ·refine⟨aa,aa,aa,aa,aa,aa,aa,aa,aa,aa,aa,aa,?_,ag⟩;rw[<-aD (i:=v) ab];rfl
     ·exact cA
     ·rfl
     ·exact⟨.vals _,.lit aa,.lit aa,.vals _,.vals _,.vals _,.vals _,.vals _,.vals _,IV.lp,qA.lp,ag⟩
   ·refine VS.aP aa (aA (λe=>kG (aQ.1 e))) ?_;have hvz2:v=z:=ab;rw[hvz2] at hI;obtain⟨f1,f2,f3⟩:=hI.fin;have QV:Iz D SM/\0<=SM/\SM<=RM:=by rw[<-f3];exact⟨hI.uI,hI.u0,by have:=hI.sm;have:=hI.r0;grind⟩
    rw[f1] at nP;rw[f2] at yu;rw[f3] at qh;refine ae ?_;have zSM:=hM.sz SM QV.1 cY cY;have zAS:=hM.sz _ (g1.add QV.1) cY cY;have VR:fI 0 82:=fI.zero.mono ab;refine VO.ss (dD _ _) (bX 82) (t:=102) (e:=55) (s:=114) (i:=115) (n:=z) (c:=cl) (vs:=Je) (sp:=Ga) (es:=LF) (a:=DN) (cs:=[.bool s4,.slice p4 n4 c4,.bool t4,.slice y4 m4 d4]) aa aa aa aa aa aa aa aa (bM aa) aa (.inr aa) aa (nP.kp (bX 82) bm) aa (fK (q4.k) zDN) ab (λw16 cl2 IP ρ16 k16 b16 hρ16 iX=>(VO.fi 129 aa (ee qA.eu _ _) (wV aa ?_)));refine ae ?_;refine VO.cR aa aa (fk yI) (λID Tw MQ=>jn _ _ AL SM 82 82 ID (q3.ki Yb) (qh.ki zSM) ab ab) (λID Tw MQ w17 s17 p17 n17 c17 t17 y17 m17 d17 q17 hb17 kb17 _ bb17=>wV aa ?_);refine ae ?_;refine VO.ss (dD _ _) (dG 82) (t:=61) (e:=108) (s:=128) (i:=129) (n:=z) (c:=cr) (vs:=pA) (sp:=tc) (es:=(runT S.q F.q kn (cD (l.take z))).rows) (a:=(⟨LM,AL,DN,SM,AL+SM,0,0⟩:bh)) (cs:=[.bool s2,.slice p2 n2 c2,.bool t2,.slice y2 m2 d2,.bool s3,.slice p3 n3 c3,.bool t3,.slice y3 m3 d3,.bool s4,.slice p4 n4 c4,.bool t4,.slice y4 m4 d4,.bool sh,.slice ph nh ch,.bool th,.slice yh mh dh,.bool s17,.slice p17 n17 c17,.bool t17,.slice y17 m17 d17,.bool s0,.slice p0 n0 c0,.bool t0,.slice y0 m0 d0,.bool s0,.slice p0 n0 c0,.bool t0,.slice y0 m0 d0]) aa aa aa aa aa aa aa aa (bM aa) aa (.inr aa) aa (qA.kp (dG 82) bm) aa ⟨[.bool s2,.slice p2 n2 c2,.bool t2,.slice y2 m2 d2],[.bool s3,.slice p3 n3 c3,.bool t3,.slice y3 m3 d3],[.bool s4,.slice p4 n4 c4,.bool t4,.slice y4 m4 d4],[.bool sh,.slice ph nh ch,.bool th,.slice yh mh dh],[.bool s17,.slice p17 n17 c17,.bool t17,.slice y17 m17 d17],[.bool s0,.slice p0 n0 c0,.bool t0,.slice y0 m0 d0],[.bool s0,.slice p0 n0 c0,.bool t0,.slice y0 m0 d0],aa,fK (q2.k) zLM,fK (q3.k) Yb,fK (q4.k) zDN,fK (qh.k) zSM,fK (q17.kr) zAS,fK (q0.k) VR,fK (q0.k) VR⟩ ab (λw18 cr2 IQ ρ18 k18 b18 hρ18 jB=>(VO.fi 115 aa (ee iX.eu _ _) (wV aa ?_)));refine ae ?_;obtain⟨QW,Ea⟩:∃ vs,vs=(Je++[[.bool s4,.slice p4 n4 c4,.bool t4,.slice y4 m4 d4]]:List (List Value)):=⟨_,aa⟩;obtain⟨QX,Eb⟩:∃ vs,vs=(pA++[[.bool s2,.slice p2 n2 c2,.bool t2,.slice y2 m2 d2,.bool s3,.slice p3 n3 c3,.bool t3,.slice y3 m3 d3,.bool s4,.slice p4 n4 c4,.bool t4,.slice y4 m4 d4,.bool sh,.slice ph nh ch,.bool th,.slice yh mh dh,.bool s17,.slice p17 n17 c17,.bool t17,.slice y17 m17 d17,.bool s0,.slice p0 n0 c0,.bool t0,.slice y0 m0 d0,.bool s0,.slice p0 n0 c0,.bool t0,.slice y0 m0 d0]]:List (List Value)):=⟨_,aa⟩;obtain⟨RW,Og⟩:∃ RW,RW=(runT S.q F.q kn (cD (l.take z))).rows++[(⟨LM,AL,DN,SM,AL+SM,0,0⟩:bh)]:=⟨_,aa⟩;obtain⟨LL,Wu⟩:∃ LL,LL=LF++[DN]:=⟨_,aa⟩;obtain⟨z1,lD⟩:∃ z1,z1=z+1:=⟨_,aa⟩;rw[<-Ea,<-Wu,<-lD] at iX;rw[<-Eb,<-Og,<-lD] at jB;rw[<-lD] at um BK BL;rw[<-Og,<-Wu] at um;refine VS.narrow [(1,.val (.slice (some ⟨b,off,none⟩) N cu)),(2,.box 2 0),(4,.box 4 0),(6,.box 6 0),(7,.box 7 0),(8,.row 115 0 z1 cl2),(9,.val (.int .i64 (z:Int))),(134,.val (.bool (decide ((z:Int)>=(kn:Int)))))] [(2,(57,([.bool S.1,.slice TE S.2.1.length TF,.bool S.2.2.1,.slice TG S.2.2.2.length TH,.bool F.1,.slice Ob F.2.1.length Oc,.bool F.2.2.1,.slice Od F.2.2.2.length Oe,.int .i64 (kn:Int)]:List Value).map .val)),(4,(64,[.val (.slice none 0 0),.val (.slice none 0 0)])),(6,(64,[.row 129 0 z1 cr2,.val (.slice none 0 0)])),(7,(55,([.bool s0,.slice p0 n0 c0,.bool t0,.slice y0 m0 d0]:List Value).map .val)),(115,(55,QW.flatten.map .val++IP)),(129,(108,QX.flatten.map .val++IQ))] ⟨aa,aa,aa,aa,aa,by rw[lD];rfl,rfl,rfl,ag⟩ ⟨aa,aa,by rw[lD];rfl,rfl,by rw[Ea];rfl,by rw[Eb];rfl,ag⟩ aa ⟨.vals _,.lit aa,.lit aa,.vals _,iX.lp,jB.lp,ag⟩ ?_;have hll:LL.length=z1:=iX.len.symm;have hrwl:RW.length=z1:=jB.len.symm;by_cases hkz:kn<=z
    ·refine VS.aV aa (aE (show (z:Int)>=(kn:Int) by omega)) ?_;refine ae ?_;obtain⟨ix,hix⟩:∃ ix,ix=z-kn:=⟨_,aa⟩;have VT:IntKind.i64.wrap ((z:Int)-(kn:Int))=((ix:Nat):Int):=by rw[rN];omega
     obtain⟨rx,VU⟩:∃ r,RW[ix]? =some r:=⟨_,ba ab⟩;obtain⟨lx,qK⟩:∃ x,LL[ix]? =some x:=⟨_,ba ab⟩;obtain⟨CE,sX,vL,Gx,hcell⟩:=jB.cell (dG 82) VU;obtain⟨Eu,Ev,Ew,Ex,Ey,Ez,EA,EB,EC,ED,EE,EF,EG,EH,EI,EJ,EK,EL,EM,EN,EO,EP,ER,ES,ET,EU,EW,EX,EY,EZ,Fa,Fb,Fc,Ff,Fg,Fh,Fi,Fj,Fk,Fl,MY,MZ,Na,Nb,Nc,Nd,Nf,Ng,Nh,Ni,Nj,Nk,Nl,Nm,Nn,Np,rfl,x0,x1,x2,x3,x4,x5,x6⟩:=vL.opn;refine VO.fix 140 aa (au (λz=>AV.val (.int .i64 z)) (VT)) ?_;refine VO.cond aa dQ ?_;refine wV aa ?_;refine ae ?_;refine VO.dY aa (([.bool Eu,.slice Ev Ew Ex,.bool Ey,.slice Ez EA EB,.bool EC,.slice ED EE EF,.bool EG,.slice EH EI EJ,.bool EK,.slice EL EM EN,.bool EO,.slice EP ER ES,.bool ET,.slice EU EW EX,.bool EY,.slice EZ Fa Fb,.bool Fc,.slice Ff Fg Fh,.bool Fi,.slice Fj Fk Fl,.bool MY,.slice MZ Na Nb,.bool Nc,.slice Nd Nf Ng,.bool Nh,.slice Ni Nj Nk,.bool Nl,.slice Nm Nn Np]:List Value).map .val) aa (hcell 0 _ ⟨[],aa⟩) (wV aa ?_);refine ae ?_;refine VO.fix 147 aa (au (λz=>AV.val (.int .i64 z)) (VT)) ?_;refine VO.cond aa dQ ?_;refine wV aa ?_;refine ae ?_;obtain⟨csl,hcsl,Yp,hll2,vf⟩:=iX.cell (bX 82) qK;obtain⟨Jx,Jy,Jz,JA,JB,JC,JD,del,rfl,xl⟩:=Yp.opn;refine VO.dY aa (([.bool Jx,.slice Jy Jz JA,.bool JB,.slice JC JD del]:List Value).map .val) aa (vf 0 _ ⟨[],aa⟩) (wV aa ?_);refine ae ?_;refine VO.fix 156 aa (au (λz=>AV.val (.int .i64 z)) (VT)) ?_;refine VO.cond aa dQ ?_;refine wV aa ?_;refine ae ?_;have hflr:=jB.fl;have hler:=jB.le;have hfll:=iX.fl;have hlel:=iX.le;refine VO.cond aa (by show 0+((ix:Int)).toNat*28+28<=_;rw[hflr,dC];omega) (VO.fi 129 aa (lQ (new:=[.bool Eu,.slice Ev Ew Ex,.bool Ey,.slice Ez EA EB,.bool EC,.slice ED EE EF,.bool EG,.slice EH EI EJ,.bool EK,.slice EL EM EN,.bool EO,.slice EP ER ES,.bool ET,.slice EU EW EX,.bool EY,.slice EZ Fa Fb,.bool Fc,.slice Ff Fg Fh,.bool Fi,.slice Fj Fk Fl,.bool Jx,.slice Jy Jz JA,.bool JB,.slice JC JD del,.bool Nh,.slice Ni Nj Nk,.bool Nl,.slice Nm Nn Np]) (jB.el.lens (dG 82)) (by rw[jB.el.len];omega) aa) (wV aa ?_));refine ae ?_;refine VO.fix 163 aa (au (λz=>AV.val (.int .i64 z)) (VT)) ?_;refine VO.cond aa dQ ?_;refine wV aa ?_;refine ae ?_;refine VO.cond aa (by show 0+((ix:Int)).toNat*4+4<=_;rw[hfll,dC];omega) (VO.fi 115 aa (lQ (new:=[.bool s0,.slice p0 n0 c0,.bool t0,.slice y0 m0 d0]) (iX.el.lens (bX 82)) (by rw[iX.el.len];omega) aa) (wV aa ?_));refine ae ?_
     have gV:runT S.q F.q kn (cD (l.take z1))=⟨LL.set ix 0,RW.modify ix (λr=>{ r with aq:=lx }),US⟩:=by
      rw[um];unfold tU;rw[if_pos hkz,<-hix]
      dsimp only
      rw[rJ,qK];rfl
     refine VS.back (N-z1) ab ⟨_,_,?_,?_,?_,?_,⟨z1,s0,p0,n0,c0,t0,y0,m0,d0,ab,aa,BK,BL,q0.k,.inr ⟨ab,_,IP,cl2,_,IQ,cr2,by rw[gV];exact iX.set (bX 82) bm (fK (q0.k) VR),by rw[gV,gj VU];exact jB.set (dG 82) bm ⟨[.bool Eu,.slice Ev Ew Ex,.bool Ey,.slice Ez EA EB],[.bool EC,.slice ED EE EF,.bool EG,.slice EH EI EJ],[.bool EK,.slice EL EM EN,.bool EO,.slice EP ER ES],[.bool ET,.slice EU EW EX,.bool EY,.slice EZ Fa Fb],[.bool Fc,.slice Ff Fg Fh,.bool Fi,.slice Fj Fk Fl],[.bool Jx,.slice Jy Jz JA,.bool JB,.slice JC JD del],[.bool Nh,.slice Ni Nj Nk,.bool Nl,.slice Nm Nn Np],aa,(bX 82).kp x0 bm,(bX 82).kp x1 bm,(bX 82).kp x2 bm,(bX 82).kp x3 bm,(bX 82).kp x4 bm,(bX 82).kp xl bm,(bX 82).kp x6 bm⟩,.inl ⟨by rw[gV];exact yu,aa,aa⟩⟩⟩⟩
     ·refine⟨aa,aa,aa,aa,aa,aa,?_,ag⟩;rw[lD,<-aD (i:=z) ab];rfl
     ·exact cA
     ·rfl
     ·exact⟨.vals _,.lit aa,.lit aa,.vals _,(iX.set (bX 82) (kR _) (fK (q0.k) VR)).lp,.append (.vals _) (.none jB.sl),ag⟩
    ·refine VS.aP aa (aA (show ¬ (z:Int)>=(kn:Int) by omega)) ?_;refine ae ?_
     have gV:runT S.q F.q kn (cD (l.take z1))=⟨LL,RW,US⟩:=by
      rw[um];unfold tU;rw[if_neg hkz]
     refine VS.back (N-z1) ab ⟨_,_,?_,?_,?_,?_,⟨z1,s0,p0,n0,c0,t0,y0,m0,d0,ab,aa,BK,BL,q0.k,.inr ⟨ab,QW,IP,cl2,QX,IQ,cr2,by rw[gV];exact iX.kp (bX 82) bm,by rw[gV];exact jB.kp (dG 82) bm,.inl ⟨by rw[gV];exact yu,aa,aa⟩⟩⟩⟩
     ·refine⟨aa,aa,aa,aa,aa,aa,?_,ag⟩;rw[lD,<-aD (i:=z) ab];rfl
     ·exact cA
     ·rfl
     ·exact⟨.vals _,.lit aa,.lit aa,.vals _,iX.lp,jB.lp,ag⟩
  ·refine ae ?_;by_cases kG:v<z
   ·obtain⟨x,hx⟩:∃ x,lf[v]? =some x:=⟨_,ba (by have:=hI.len;omega)⟩;obtain⟨x1,x2,x3⟩:=hI.el x (cX hx);have hI2:=hI.step hx kG;have sC:Iz D (ai x rm):=by rcases dJ x rm with ⟨e,_⟩|⟨e,_⟩ <;> rw[e];exact x1;exact hI.rI
    have rn:0<=ai x rm:=by have:=hI.r0;rcases dJ x rm with ⟨e,_⟩|⟨e,_⟩ <;> rw[e] <;> assumption
    have Co:=eh x rm;have RT:=hI.sm;have Gt:=hI.r0;have hu0:=hI.u0;have zX:=hM.sz x x1 cY x3;have zR:=hM.sz rm hI.rI cY cY;have zU:=hM.sz ud hI.uI cY cY;have zN:=hM.sz _ sC cY cY;have zX2:=hM.sz _ (x1.sub sC) cY cY;obtain⟨csx,hcsx,hEx,qK,hcell⟩:=nP.cell (bX 82) hx;obtain⟨sx,px,nx,cx,tx,yx,mx,dx,rfl,xin⟩:=hEx.opn;refine VS.aV aa (aE (aQ.2 kG)) ?_;refine ae ?_;refine VO.cond aa dQ ?_;refine wV aa ?_;refine ae ?_;refine VO.dY aa (([.bool sx,.slice px nx cx,.bool tx,.slice yx mx dx]:List Value).map .val) aa (hcell 0 _ ⟨[],aa⟩) (wV aa ?_);refine ae ?_;refine VO.eB aa (fk JZ) (λBG β21 ka21 MR ho21=>(qW _ x [rm] 82 BG (et (ho21.own 83 (.base (aJ.2 aa)) _ _ aa) [] (vs:=[[.bool sx,.slice px nx cx,.bool tx,.slice yx mx dx],[.bool sg,.slice pg ng cg,.bool tg,.slice yg mg dg]]) (by rfl) aa (bV.cons ((xin.kp bm).inq) (bV.cons (qg.ki zR) bV.nil)) (bM aa) bq) ab (bM aa)).mono ?_);rintro o Rv ⟨r21,rfl,Fm,z21,QN⟩;replace Fm:cJ Rv r21 (gp lI x [rm]):=Fm;obtain⟨s21,p21,n21,c21,t21,y21,m21,d21,rfl⟩:=Fm.form;refine bZ QN ?_;intro kb21 _ bb21;rw[gK] at Fm;obtain⟨cn,La⟩:∃ c,eQ (ai x rm) 0=c:=⟨_,aa⟩;refine VO.cB aa aa (fk Tryz.func52) (λwa22 ka22 ba22=>zQ _ (ai x rm) 82 wa22 (Fm.ki zN) ab cn La) (λwa22 ka22 ba22 w22 hb22 kb22 _ bb22=>wV aa ?_);refine ae ?_;by_cases tp:0<ai x rm
    ·refine VS.aV aa (aE ((kP La).2.2.2.1 tp)) ?_;refine ae ?_;have TJ:us++(if 0<ai x rm then [(v,z,ai x rm)] else [])=us++[(v,z,ai x rm)]:=by rw[if_pos tp]
     have hkul:=hI.ul;rw[<-BQ.len] at hkul;refine VO.ss (dD _ _) (jQ 82) (t:=62) (e:=106) (s:=94) (i:=95) (n:=ku) (c:=Jw) (vs:=CF) (sp:=DU) (es:=us) (a:=(v,z,ai x rm)) (cs:=[.int .i64 (v:Int),.int .i64 (z:Int),.bool s21,.slice p21 n21 c21,.bool t21,.slice y21 m21 d21]) aa aa aa aa aa aa aa aa (bM aa) aa (.inr aa) aa (BQ.kp (jQ 82) bm) aa ⟨[.bool s21,.slice p21 n21 c21,.bool t21,.slice y21 m21 d21],aa,fK (Fm.k) zN⟩ ab (λJt cu3 spu2 ρ19 k19 b19 hρ19 TK=>VO.fi 115 aa (ee nP.eu _ _) (VO.fi 129 aa (ee qA.eu _ _) (wV aa ?_)));refine ae ?_;refine VO.cond aa dQ ?_;refine wV aa ?_;refine ae ?_;refine VO.dY aa (([.bool sx,.slice px nx cx,.bool tx,.slice yx mx dx]:List Value).map .val) aa (hcell 0 _ ⟨[],aa⟩) (wV aa ?_);refine ae ?_;refine VO.cR aa aa (fk pP) (λIU TL TM=>eT _ _ x (ai x rm) 82 82 IU ((xin.kp bm).inq) (Fm.ki zN) ab ab) (λIU TL TM w23 XF XG XH XI t23 XJ XK d23 q23 hb23 kb23 _ bb23=>wV aa ?_);refine ae ?_;refine VO.cond aa dQ ?_;refine wV aa ?_;refine ae ?_;have IV:=nP.set (bX 82) (i:=v) (cs:=[.bool XF,.slice XG XH XI,.bool t23,.slice XJ XK d23]) (a:=x-ai x rm) (w':=w23) bm (fK (q23.kr) zX2);refine VO.cond aa (by show 0+((v:Int)).toNat*4+4<=_;rw[nP.fl,dC];have:=nP.le;omega) (VO.fi 115 aa (lQ (new:=[.bool XF,.slice XG XH XI,.bool t23,.slice XJ XK d23]) (nP.el.lens (bX 82)) (by rw[nP.el.len,<-nP.len];omega) aa) (wV aa ?_));refine ae ?_;refine VO.cR aa aa (fk pP) (λIW TN TP=>eT _ _ rm (ai x rm) 82 82 IW (qg.ki zR) (Fm.ki zN) ab ab) (λIW TN TP w24 s24 p24 n24 c24 t24 y24 m24 d24 q24 hb24 kb24 _ bb24=>wV aa ?_);refine ae ?_;refine VO.cR aa aa (fk yI) (λIX TQ TR=>jn _ _ ud (ai x rm) 82 82 IX (qh.ki zU) (Fm.ki zN) ab ab) (λIX TQ TR w25 s25 p25 n25 c25 t25 y25 m25 d25 q25 hb25 kb25 _ bb25=>wV aa ?_);refine ae ?_;refine VS.back (z-(v+1)) ab ⟨_,_,?_,?_,?_,?_,⟨v+1,lf.set v (x-ai x rm),us++(if 0<ai x rm then [(v,z,ai x rm)] else []),rm-ai x rm,ud+ai x rm,s24,p24,n24,c24,t24,y24,m24,d24,s25,p25,n25,c25,t25,y25,m25,d25,_,Ga,ab,aa,hI2,q24.kr,q25.kr,IV.kp (bX 82) bm,bm,.inr ⟨ku+1,(CF++[[.int .i64 (v:Int),.int .i64 (z:Int),.bool s21,.slice p21 n21 c21,.bool t21,.slice y21 m21 d21]]),spu2,cu3,by rw[TJ];exact TK.kp (jQ 82) bm,aa,aa⟩⟩⟩
     ·refine⟨aa,aa,aa,aa,aa,aa,aa,aa,aa,aa,aa,aa,?_,ag⟩;rw[<-aD (i:=v) ab];rfl
     ·exact cA
     ·rfl
     ·exact⟨.vals _,.lit aa,.lit aa,.vals _,.vals _,.vals _,.vals _,.vals _,.vals _,IV.lp,qA.lp,TK.lp,ag⟩
    ·refine VS.aP aa (aA ((kP La).1 (Ak.1 tp))) ?_;refine ae ?_;have TJ:us++(if 0<ai x rm then [(v,z,ai x rm)] else [])=us:=by rw[if_neg tp,gA]
     refine VO.cond aa dQ ?_;refine wV aa ?_;refine ae ?_;refine VO.dY aa (([.bool sx,.slice px nx cx,.bool tx,.slice yx mx dx]:List Value).map .val) aa (hcell 0 _ ⟨[],aa⟩) (wV aa ?_);refine ae ?_;refine VO.cR aa aa (fk pP) (λIU TL TM=>eT _ _ x (ai x rm) 82 82 IU ((xin.kp bm).inq) (Fm.ki zN) ab ab) (λIU TL TM w23 XF XG XH XI t23 XJ XK d23 q23 hb23 kb23 _ bb23=>wV aa ?_);refine ae ?_;refine VO.cond aa dQ ?_;refine wV aa ?_;refine ae ?_;have IV:=nP.set (bX 82) (i:=v) (cs:=[.bool XF,.slice XG XH XI,.bool t23,.slice XJ XK d23]) (a:=x-ai x rm) (w':=w23) bm (fK (q23.kr) zX2);refine VO.cond aa (by show 0+((v:Int)).toNat*4+4<=_;rw[nP.fl,dC];have:=nP.le;omega) (VO.fi 115 aa (lQ (new:=[.bool XF,.slice XG XH XI,.bool t23,.slice XJ XK d23]) (nP.el.lens (bX 82)) (by rw[nP.el.len,<-nP.len];omega) aa) (wV aa ?_));refine ae ?_;refine VO.cR aa aa (fk pP) (λIW TN TP=>eT _ _ rm (ai x rm) 82 82 IW (qg.ki zR) (Fm.ki zN) ab ab) (λIW TN TP w24 s24 p24 n24 c24 t24 y24 m24 d24 q24 hb24 kb24 _ bb24=>wV aa ?_);refine ae ?_;refine VO.cR aa aa (fk yI) (λIX TQ TR=>jn _ _ ud (ai x rm) 82 82 IX (qh.ki zU) (Fm.ki zN) ab ab) (λIX TQ TR w25 s25 p25 n25 c25 t25 y25 m25 d25 q25 hb25 kb25 _ bb25=>wV aa ?_);refine ae ?_;refine VS.back (z-(v+1)) ab ⟨_,_,?_,?_,?_,?_,⟨v+1,lf.set v (x-ai x rm),us++(if 0<ai x rm then [(v,z,ai x rm)] else []),rm-ai x rm,ud+ai x rm,s24,p24,n24,c24,t24,y24,m24,d24,s25,p25,n25,c25,t25,y25,m25,d25,_,Ga,ab,aa,hI2,q24.kr,q25.kr,IV.kp (bX 82) bm,bm,.inr ⟨ku,CF,DU,Jw,by rw[TJ];exact BQ.kp (jQ 82) bm,aa,aa⟩⟩⟩
     ·refine⟨aa,aa,aa,aa,aa,aa,aa,aa,aa,aa,aa,aa,?_,ag⟩;rw[<-aD (i:=v) ab];rfl
     ·exact cA
     ·rfl
     ·exact⟨.vals _,.lit aa,.lit aa,.vals _,.vals _,.vals _,.vals _,.vals _,.vals _,IV.lp,qA.lp,BQ.lp,ag⟩
   ·refine VS.aP aa (aA (λe=>kG (aQ.1 e))) ?_;have hvz2:v=z:=ab;rw[hvz2] at hI;obtain⟨f1,f2,f3⟩:=hI.fin;have QV:Iz D SM/\0<=SM/\SM<=RM:=by rw[<-f3];exact⟨hI.uI,hI.u0,by have:=hI.sm;have:=hI.r0;grind⟩
    rw[f1] at nP;rw[f2] at BQ;rw[f3] at qh;refine ae ?_;have zSM:=hM.sz SM QV.1 cY cY;have zAS:=hM.sz _ (g1.add QV.1) cY cY;have VR:fI 0 82:=fI.zero.mono ab;refine VO.ss (dD _ _) (bX 82) (t:=102) (e:=55) (s:=114) (i:=115) (n:=z) (c:=cl) (vs:=Je) (sp:=Ga) (es:=LF) (a:=DN) (cs:=[.bool s4,.slice p4 n4 c4,.bool t4,.slice y4 m4 d4]) aa aa aa aa aa aa aa aa (bM aa) aa (.inr aa) aa (nP.kp (bX 82) bm) aa (fK (q4.k) zDN) ab (λw16 cl2 IP ρ16 k16 b16 hρ16 iX=>(VO.fi 129 aa (ee qA.eu _ _) (VO.fi 95 aa (ee BQ.eu _ _) (wV aa ?_))));refine ae ?_;refine VO.cR aa aa (fk yI) (λID Tw MQ=>jn _ _ AL SM 82 82 ID (q3.ki Yb) (qh.ki zSM) ab ab) (λID Tw MQ w17 s17 p17 n17 c17 t17 y17 m17 d17 q17 hb17 kb17 _ bb17=>wV aa ?_);refine ae ?_;refine VO.ss (dD _ _) (dG 82) (t:=61) (e:=108) (s:=128) (i:=129) (n:=z) (c:=cr) (vs:=pA) (sp:=tc) (es:=(runT S.q F.q kn (cD (l.take z))).rows) (a:=(⟨LM,AL,DN,SM,AL+SM,0,0⟩:bh)) (cs:=[.bool s2,.slice p2 n2 c2,.bool t2,.slice y2 m2 d2,.bool s3,.slice p3 n3 c3,.bool t3,.slice y3 m3 d3,.bool s4,.slice p4 n4 c4,.bool t4,.slice y4 m4 d4,.bool sh,.slice ph nh ch,.bool th,.slice yh mh dh,.bool s17,.slice p17 n17 c17,.bool t17,.slice y17 m17 d17,.bool s0,.slice p0 n0 c0,.bool t0,.slice y0 m0 d0,.bool s0,.slice p0 n0 c0,.bool t0,.slice y0 m0 d0]) aa aa aa aa aa aa aa aa (bM aa) aa (.inr aa) aa (qA.kp (dG 82) bm) aa ⟨[.bool s2,.slice p2 n2 c2,.bool t2,.slice y2 m2 d2],[.bool s3,.slice p3 n3 c3,.bool t3,.slice y3 m3 d3],[.bool s4,.slice p4 n4 c4,.bool t4,.slice y4 m4 d4],[.bool sh,.slice ph nh ch,.bool th,.slice yh mh dh],[.bool s17,.slice p17 n17 c17,.bool t17,.slice y17 m17 d17],[.bool s0,.slice p0 n0 c0,.bool t0,.slice y0 m0 d0],[.bool s0,.slice p0 n0 c0,.bool t0,.slice y0 m0 d0],aa,fK (q2.k) zLM,fK (q3.k) Yb,fK (q4.k) zDN,fK (qh.k) zSM,fK (q17.kr) zAS,fK (q0.k) VR,fK (q0.k) VR⟩ ab (λw18 cr2 IQ ρ18 k18 b18 hρ18 jB=>(VO.fi 115 aa (ee iX.eu _ _) (VO.fi 95 aa (ee BQ.eu _ _) (wV aa ?_))));refine ae ?_;obtain⟨QW,Ea⟩:∃ vs,vs=(Je++[[.bool s4,.slice p4 n4 c4,.bool t4,.slice y4 m4 d4]]:List (List Value)):=⟨_,aa⟩;obtain⟨QX,Eb⟩:∃ vs,vs=(pA++[[.bool s2,.slice p2 n2 c2,.bool t2,.slice y2 m2 d2,.bool s3,.slice p3 n3 c3,.bool t3,.slice y3 m3 d3,.bool s4,.slice p4 n4 c4,.bool t4,.slice y4 m4 d4,.bool sh,.slice ph nh ch,.bool th,.slice yh mh dh,.bool s17,.slice p17 n17 c17,.bool t17,.slice y17 m17 d17,.bool s0,.slice p0 n0 c0,.bool t0,.slice y0 m0 d0,.bool s0,.slice p0 n0 c0,.bool t0,.slice y0 m0 d0]]:List (List Value)):=⟨_,aa⟩;obtain⟨RW,Og⟩:∃ RW,RW=(runT S.q F.q kn (cD (l.take z))).rows++[(⟨LM,AL,DN,SM,AL+SM,0,0⟩:bh)]:=⟨_,aa⟩;obtain⟨LL,Wu⟩:∃ LL,LL=LF++[DN]:=⟨_,aa⟩;obtain⟨z1,lD⟩:∃ z1,z1=z+1:=⟨_,aa⟩;rw[<-Ea,<-Wu,<-lD] at iX;rw[<-Eb,<-Og,<-lD] at jB;rw[<-lD] at um BK BL;rw[<-Og,<-Wu] at um;refine VS.narrow [(1,.val (.slice (some ⟨b,off,none⟩) N cu)),(2,.box 2 0),(4,.box 4 0),(6,.box 6 0),(7,.box 7 0),(8,.row 115 0 z1 cl2),(9,.val (.int .i64 (z:Int))),(134,.val (.bool (decide ((z:Int)>=(kn:Int)))))] [(2,(57,([.bool S.1,.slice TE S.2.1.length TF,.bool S.2.2.1,.slice TG S.2.2.2.length TH,.bool F.1,.slice Ob F.2.1.length Oc,.bool F.2.2.1,.slice Od F.2.2.2.length Oe,.int .i64 (kn:Int)]:List Value).map .val)),(4,(64,[.val (.slice none 0 0),.val (.slice none 0 0)])),(6,(64,[.row 129 0 z1 cr2,.row 95 0 ku Jw])),(7,(55,([.bool s0,.slice p0 n0 c0,.bool t0,.slice y0 m0 d0]:List Value).map .val)),(115,(55,QW.flatten.map .val++IP)),(129,(108,QX.flatten.map .val++IQ)),(95,(106,CF.flatten.map .val++DU))] ⟨aa,aa,aa,aa,aa,by rw[lD];rfl,rfl,rfl,ag⟩ ⟨aa,aa,by rw[lD];rfl,rfl,by rw[Ea];rfl,by rw[Eb];rfl,rfl,ag⟩ aa ⟨.vals _,.lit aa,.lit aa,.vals _,iX.lp,jB.lp,BQ.lp,ag⟩ ?_;have hll:LL.length=z1:=iX.len.symm;have hrwl:RW.length=z1:=jB.len.symm;by_cases hkz:kn<=z
    ·refine VS.aV aa (aE (show (z:Int)>=(kn:Int) by omega)) ?_;refine ae ?_;obtain⟨ix,hix⟩:∃ ix,ix=z-kn:=⟨_,aa⟩;have VT:IntKind.i64.wrap ((z:Int)-(kn:Int))=((ix:Nat):Int):=by rw[rN];omega
     obtain⟨rx,VU⟩:∃ r,RW[ix]? =some r:=⟨_,ba ab⟩;obtain⟨lx,qK⟩:∃ x,LL[ix]? =some x:=⟨_,ba ab⟩;obtain⟨CE,sX,vL,Gx,hcell⟩:=jB.cell (dG 82) VU;obtain⟨Eu,Ev,Ew,Ex,Ey,Ez,EA,EB,EC,ED,EE,EF,EG,EH,EI,EJ,EK,EL,EM,EN,EO,EP,ER,ES,ET,EU,EW,EX,EY,EZ,Fa,Fb,Fc,Ff,Fg,Fh,Fi,Fj,Fk,Fl,MY,MZ,Na,Nb,Nc,Nd,Nf,Ng,Nh,Ni,Nj,Nk,Nl,Nm,Nn,Np,rfl,x0,x1,x2,x3,x4,x5,x6⟩:=vL.opn;refine VO.fix 140 aa (au (λz=>AV.val (.int .i64 z)) (VT)) ?_;refine VO.cond aa dQ ?_;refine wV aa ?_;refine ae ?_;refine VO.dY aa (([.bool Eu,.slice Ev Ew Ex,.bool Ey,.slice Ez EA EB,.bool EC,.slice ED EE EF,.bool EG,.slice EH EI EJ,.bool EK,.slice EL EM EN,.bool EO,.slice EP ER ES,.bool ET,.slice EU EW EX,.bool EY,.slice EZ Fa Fb,.bool Fc,.slice Ff Fg Fh,.bool Fi,.slice Fj Fk Fl,.bool MY,.slice MZ Na Nb,.bool Nc,.slice Nd Nf Ng,.bool Nh,.slice Ni Nj Nk,.bool Nl,.slice Nm Nn Np]:List Value).map .val) aa (hcell 0 _ ⟨[],aa⟩) (wV aa ?_);refine ae ?_;refine VO.fix 147 aa (au (λz=>AV.val (.int .i64 z)) (VT)) ?_;refine VO.cond aa dQ ?_;refine wV aa ?_;refine ae ?_;obtain⟨csl,hcsl,Yp,hll2,vf⟩:=iX.cell (bX 82) qK;obtain⟨Jx,Jy,Jz,JA,JB,JC,JD,del,rfl,xl⟩:=Yp.opn;refine VO.dY aa (([.bool Jx,.slice Jy Jz JA,.bool JB,.slice JC JD del]:List Value).map .val) aa (vf 0 _ ⟨[],aa⟩) (wV aa ?_);refine ae ?_;refine VO.fix 156 aa (au (λz=>AV.val (.int .i64 z)) (VT)) ?_;refine VO.cond aa dQ ?_;refine wV aa ?_;refine ae ?_;have hflr:=jB.fl;have hler:=jB.le;have hfll:=iX.fl;have hlel:=iX.le;refine VO.cond aa (by show 0+((ix:Int)).toNat*28+28<=_;rw[hflr,dC];omega) (VO.fi 129 aa (lQ (new:=[.bool Eu,.slice Ev Ew Ex,.bool Ey,.slice Ez EA EB,.bool EC,.slice ED EE EF,.bool EG,.slice EH EI EJ,.bool EK,.slice EL EM EN,.bool EO,.slice EP ER ES,.bool ET,.slice EU EW EX,.bool EY,.slice EZ Fa Fb,.bool Fc,.slice Ff Fg Fh,.bool Fi,.slice Fj Fk Fl,.bool Jx,.slice Jy Jz JA,.bool JB,.slice JC JD del,.bool Nh,.slice Ni Nj Nk,.bool Nl,.slice Nm Nn Np]) (jB.el.lens (dG 82)) (by rw[jB.el.len];omega) aa) (wV aa ?_));refine ae ?_;refine VO.fix 163 aa (au (λz=>AV.val (.int .i64 z)) (VT)) ?_;refine VO.cond aa dQ ?_;refine wV aa ?_;refine ae ?_;refine VO.cond aa (by show 0+((ix:Int)).toNat*4+4<=_;rw[hfll,dC];omega) (VO.fi 115 aa (lQ (new:=[.bool s0,.slice p0 n0 c0,.bool t0,.slice y0 m0 d0]) (iX.el.lens (bX 82)) (by rw[iX.el.len];omega) aa) (wV aa ?_));refine ae ?_
     have gV:runT S.q F.q kn (cD (l.take z1))=⟨LL.set ix 0,RW.modify ix (λr=>{ r with aq:=lx }),US⟩:=by
      rw[um];unfold tU;rw[if_pos hkz,<-hix]
      dsimp only
      rw[rJ,qK];rfl
     refine VS.back (N-z1) ab ⟨_,_,?_,?_,?_,?_,⟨z1,s0,p0,n0,c0,t0,y0,m0,d0,ab,aa,BK,BL,q0.k,.inr ⟨ab,_,IP,cl2,_,IQ,cr2,by rw[gV];exact iX.set (bX 82) bm (fK (q0.k) VR),by rw[gV,gj VU];exact jB.set (dG 82) bm ⟨[.bool Eu,.slice Ev Ew Ex,.bool Ey,.slice Ez EA EB],[.bool EC,.slice ED EE EF,.bool EG,.slice EH EI EJ],[.bool EK,.slice EL EM EN,.bool EO,.slice EP ER ES],[.bool ET,.slice EU EW EX,.bool EY,.slice EZ Fa Fb],[.bool Fc,.slice Ff Fg Fh,.bool Fi,.slice Fj Fk Fl],[.bool Jx,.slice Jy Jz JA,.bool JB,.slice JC JD del],[.bool Nh,.slice Ni Nj Nk,.bool Nl,.slice Nm Nn Np],aa,(bX 82).kp x0 bm,(bX 82).kp x1 bm,(bX 82).kp x2 bm,(bX 82).kp x3 bm,(bX 82).kp x4 bm,(bX 82).kp xl bm,(bX 82).kp x6 bm⟩,.inr ⟨ku,CF,DU,Jw,by rw[gV];exact BQ.kp (jQ 82) bm,aa,aa⟩⟩⟩⟩
     ·refine⟨aa,aa,aa,aa,aa,aa,?_,ag⟩;rw[lD,<-aD (i:=z) ab];rfl
     ·exact cA
     ·rfl
     ·exact⟨.vals _,.lit aa,.lit aa,.vals _,(iX.set (bX 82) (kR _) (fK (q0.k) VR)).lp,.append (.vals _) (.none jB.sl),BQ.lp,ag⟩
    ·refine VS.aP aa (aA (show ¬ (z:Int)>=(kn:Int) by omega)) ?_;refine ae ?_
     have gV:runT S.q F.q kn (cD (l.take z1))=⟨LL,RW,US⟩:=by
      rw[um];unfold tU;rw[if_neg hkz]
     refine VS.back (N-z1) ab ⟨_,_,?_,?_,?_,?_,⟨z1,s0,p0,n0,c0,t0,y0,m0,d0,ab,aa,BK,BL,q0.k,.inr ⟨ab,QW,IP,cl2,QX,IQ,cr2,by rw[gV];exact iX.kp (bX 82) bm,by rw[gV];exact jB.kp (dG 82) bm,.inr ⟨ku,CF,DU,Jw,by rw[gV];exact BQ.kp (jQ 82) bm,aa,aa⟩⟩⟩⟩
     ·refine⟨aa,aa,aa,aa,aa,aa,?_,ag⟩;rw[lD,<-aD (i:=z) ab];rfl
     ·exact cA
     ·rfl
     ·exact⟨.vals _,.lit aa,.lit aa,.vals _,iX.lp,jB.lp,BQ.lp,ag⟩
 rcases hUd with ⟨yu,rfl,rfl⟩|⟨ku,CF,DU,Jw,BQ,rfl,rfl⟩
 ·refine ae ?_;refine VS.aP aa (aA (λe=>hlt (aQ.1 e))) ?_;have Tl:z=N:=ab;rw[Tl,show l.take N=l from dP ab] at nP qA yu Ya uy;rw[Tl];clear Tl hlt hz pX;refine ae ?_;obtain⟨LF,Yc⟩:∃ LF,(runT S.q F.q kn (cD l)).left=LF:=⟨_,aa⟩;obtain⟨RW,Og⟩:∃ RW,(runT S.q F.q kn (cD l)).rows=RW:=⟨_,aa⟩;obtain⟨US,Yd⟩:∃ US,(runT S.q F.q kn (cD l)).uses=US:=⟨_,aa⟩
  have Ts:Mn S.q F.q kn (cD l)=(fj (cO 0 (LF.drop 0)) RW,US):=by
   unfold Mn;rw[Yc,Og,Yd];rfl
  rw[Ts];obtain⟨RES,hRES⟩:∃ RES,fj (cO 0 (LF.drop 0)) RW=RES:=⟨_,aa⟩;rw[hRES];rw[Yc] at nP;rw[Og] at qA;rw[Yd] at yu;refine VS.loop (J:=λm L M w'=>∃ (v:Nat) (pA:List (List Value)) (rows:List bh),v<=N/\m=N-v/\jq (MX 82) 28 w' N cr pA tc rows/\fj (cO v (LF.drop v)) rows=RES/\Kp UU wJ w'/\L=[(4,.box 4 0),(6,.box 6 0),(8,.row 115 0 N cl),(18,.val (.int .i64 (v:Int)))]/\M=[(4,(64,[.val (.slice none 0 0),.val (.slice none 0 0)])),(6,(64,[.row 129 0 N cr,.val (.slice none 0 0)])),(115,(55,Je.flatten.map .val++Ga)),(129,(108,pA.flatten.map .val++tc))]) N ⟨_,_,?_,?_,?_,?_,⟨0,pA,RW,ab,aa,qA.kp (dG 82) bm,hRES,bm,aa,aa⟩⟩ ?_
  ·exact cA
  ·exact cA
  ·rfl
  ·exact⟨.lit aa,.lit aa,nP.lp,qA.lp,ag⟩
  clear qA;rintro m L M wL1 ⟨v,pA,rows,hv,rfl,qA,jG,kV,rfl,rfl⟩;refine ae ?_;by_cases kG:v<N
  ·obtain⟨rx,VU⟩:∃ r,rows[v]? =some r:=⟨_,ba (by have:=qA.len;omega)⟩;obtain⟨lx,qK⟩:∃ x,LF[v]? =some x:=⟨_,ba (by have:=nP.len;omega)⟩;obtain⟨CE,sX,vL,Gx,hcell⟩:=qA.cell (dG 82) VU;obtain⟨Eu,Ev,Ew,Ex,Ey,Ez,EA,EB,EC,ED,EE,EF,EG,EH,EI,EJ,EK,EL,EM,EN,EO,EP,ER,ES,ET,EU,EW,EX,EY,EZ,Fa,Fb,Fc,Ff,Fg,Fh,Fi,Fj,Fk,Fl,MY,MZ,Na,Nb,Nc,Nd,Nf,Ng,Nh,Ni,Nj,Nk,Nl,Nm,Nn,Np,rfl,x0,x1,x2,x3,x4,x5,x6⟩:=vL.opn;obtain⟨csl,hcsl,Yp,hll2,vf⟩:=nP.cell (bX 82) qK;obtain⟨Jx,Jy,Jz,JA,JB,JC,JD,del,rfl,xl⟩:=Yp.opn;refine VS.aV aa (aE (aQ.2 kG)) ?_;refine ae ?_;refine VO.cond aa dQ ?_;refine wV aa ?_;refine ae ?_;refine VO.dY aa (([.bool Eu,.slice Ev Ew Ex,.bool Ey,.slice Ez EA EB,.bool EC,.slice ED EE EF,.bool EG,.slice EH EI EJ,.bool EK,.slice EL EM EN,.bool EO,.slice EP ER ES,.bool ET,.slice EU EW EX,.bool EY,.slice EZ Fa Fb,.bool Fc,.slice Ff Fg Fh,.bool Fi,.slice Fj Fk Fl,.bool MY,.slice MZ Na Nb,.bool Nc,.slice Nd Nf Ng,.bool Nh,.slice Ni Nj Nk,.bool Nl,.slice Nm Nn Np]:List Value).map .val) aa (hcell 0 _ ⟨[],aa⟩) (wV aa ?_);refine ae ?_;refine VO.cond aa dQ ?_;refine wV aa ?_;refine ae ?_;refine VO.dY aa (([.bool Jx,.slice Jy Jz JA,.bool JB,.slice JC JD del]:List Value).map .val) aa (vf 0 _ ⟨[],aa⟩) (wV aa ?_);refine ae ?_;refine VO.cond aa dQ ?_;refine wV aa ?_;refine ae ?_;refine VO.cond aa (by show 0+((v:Int)).toNat*28+28<=_;rw[qA.fl,dC];have:=qA.le;omega) (VO.fi 129 aa (lQ (new:=[.bool Eu,.slice Ev Ew Ex,.bool Ey,.slice Ez EA EB,.bool EC,.slice ED EE EF,.bool EG,.slice EH EI EJ,.bool EK,.slice EL EM EN,.bool EO,.slice EP ER ES,.bool ET,.slice EU EW EX,.bool EY,.slice EZ Fa Fb,.bool Fc,.slice Ff Fg Fh,.bool Fi,.slice Fj Fk Fl,.bool MY,.slice MZ Na Nb,.bool Nc,.slice Nd Nf Ng,.bool Jx,.slice Jy Jz JA,.bool JB,.slice JC JD del]) (qA.el.lens (dG 82)) (by rw[qA.el.len,<-qA.len];omega) aa) (wV aa ?_));refine ae ?_;have hRw3:=qA.set (dG 82) (i:=v) (w':=wL1) (kR _) (cs:=[.bool Eu,.slice Ev Ew Ex,.bool Ey,.slice Ez EA EB,.bool EC,.slice ED EE EF,.bool EG,.slice EH EI EJ,.bool EK,.slice EL EM EN,.bool EO,.slice EP ER ES,.bool ET,.slice EU EW EX,.bool EY,.slice EZ Fa Fb,.bool Fc,.slice Ff Fg Fh,.bool Fi,.slice Fj Fk Fl,.bool MY,.slice MZ Na Nb,.bool Nc,.slice Nd Nf Ng,.bool Jx,.slice Jy Jz JA,.bool JB,.slice JC JD del]) (a:={ rx with closing:=lx }) ⟨[.bool Eu,.slice Ev Ew Ex,.bool Ey,.slice Ez EA EB],[.bool EC,.slice ED EE EF,.bool EG,.slice EH EI EJ],[.bool EK,.slice EL EM EN,.bool EO,.slice EP ER ES],[.bool ET,.slice EU EW EX,.bool EY,.slice EZ Fa Fb],[.bool Fc,.slice Ff Fg Fh,.bool Fi,.slice Fj Fk Fl],[.bool MY,.slice MZ Na Nb,.bool Nc,.slice Nd Nf Ng],[.bool Jx,.slice Jy Jz JA,.bool JB,.slice JC JD del],aa,x0,x1,x2,x3,x4,x5,(bX 82).kp xl kV⟩;refine VS.back (N-(v+1)) ab ⟨_,_,?_,?_,?_,?_,⟨v+1,_,rows.set v { rx with closing:=lx },ab,aa,hRw3,?_,kV,aa,aa⟩⟩
   ·refine⟨aa,aa,aa,?_,ag⟩;rw[<-aD (i:=v) ab];rfl
   ·exact cA
   ·rfl
   ·exact⟨.lit aa,.lit aa,nP.lp,hRw3.lp,ag⟩
   ·rw[<-jG,DX qK,gj VU]
  ·refine VS.aP aa (aA (λe=>kG (aQ.1 e))) ?_;have hvN:v=N:=ab;rw[hvN,ly (by have:=nP.len;omega)] at jG;replace jG:rows=RES:=jG;rw[jG] at qA;refine ae ?_;refine VS.pG (dD _ _) aa (λwz β kz bz en=> ?_);exact⟨_,_,aa,qA.new (dG 82) (en.own 129 _ _ aa) kz,.inl ⟨aa,yu⟩,bz⟩
 ·refine ae ?_;refine VS.aP aa (aA (λe=>hlt (aQ.1 e))) ?_;have Tl:z=N:=ab;rw[Tl,show l.take N=l from dP ab] at nP qA BQ Ya uy;rw[Tl];clear Tl hlt hz pX;refine ae ?_;obtain⟨LF,Yc⟩:∃ LF,(runT S.q F.q kn (cD l)).left=LF:=⟨_,aa⟩;obtain⟨RW,Og⟩:∃ RW,(runT S.q F.q kn (cD l)).rows=RW:=⟨_,aa⟩;obtain⟨US,Yd⟩:∃ US,(runT S.q F.q kn (cD l)).uses=US:=⟨_,aa⟩
  have Ts:Mn S.q F.q kn (cD l)=(fj (cO 0 (LF.drop 0)) RW,US):=by
   unfold Mn;rw[Yc,Og,Yd];rfl
  rw[Ts];obtain⟨RES,hRES⟩:∃ RES,fj (cO 0 (LF.drop 0)) RW=RES:=⟨_,aa⟩;rw[hRES];rw[Yc] at nP;rw[Og] at qA;rw[Yd] at BQ;refine VS.loop (J:=λm L M w'=>∃ (v:Nat) (pA:List (List Value)) (rows:List bh),v<=N/\m=N-v/\jq (MX 82) 28 w' N cr pA tc rows/\fj (cO v (LF.drop v)) rows=RES/\Kp UU wJ w'/\L=[(4,.box 4 0),(6,.box 6 0),(8,.row 115 0 N cl),(18,.val (.int .i64 (v:Int)))]/\M=[(4,(64,[.val (.slice none 0 0),.val (.slice none 0 0)])),(6,(64,[.row 129 0 N cr,.row 95 0 ku Jw])),(115,(55,Je.flatten.map .val++Ga)),(129,(108,pA.flatten.map .val++tc)),(95,(106,CF.flatten.map .val++DU))]) N ⟨_,_,?_,?_,?_,?_,⟨0,pA,RW,ab,aa,qA.kp (dG 82) bm,hRES,bm,aa,aa⟩⟩ ?_
  ·exact cA
  ·exact cA
  ·rfl
  ·exact⟨.lit aa,.lit aa,nP.lp,qA.lp,BQ.lp,ag⟩
  clear qA;rintro m L M wL1 ⟨v,pA,rows,hv,rfl,qA,jG,kV,rfl,rfl⟩;refine ae ?_;by_cases kG:v<N
  ·obtain⟨rx,VU⟩:∃ r,rows[v]? =some r:=⟨_,ba (by have:=qA.len;omega)⟩;obtain⟨lx,qK⟩:∃ x,LF[v]? =some x:=⟨_,ba (by have:=nP.len;omega)⟩;obtain⟨CE,sX,vL,Gx,hcell⟩:=qA.cell (dG 82) VU;obtain⟨Eu,Ev,Ew,Ex,Ey,Ez,EA,EB,EC,ED,EE,EF,EG,EH,EI,EJ,EK,EL,EM,EN,EO,EP,ER,ES,ET,EU,EW,EX,EY,EZ,Fa,Fb,Fc,Ff,Fg,Fh,Fi,Fj,Fk,Fl,MY,MZ,Na,Nb,Nc,Nd,Nf,Ng,Nh,Ni,Nj,Nk,Nl,Nm,Nn,Np,rfl,x0,x1,x2,x3,x4,x5,x6⟩:=vL.opn;obtain⟨csl,hcsl,Yp,hll2,vf⟩:=nP.cell (bX 82) qK;obtain⟨Jx,Jy,Jz,JA,JB,JC,JD,del,rfl,xl⟩:=Yp.opn;refine VS.aV aa (aE (aQ.2 kG)) ?_;refine ae ?_;refine VO.cond aa dQ ?_;refine wV aa ?_;refine ae ?_;refine VO.dY aa (([.bool Eu,.slice Ev Ew Ex,.bool Ey,.slice Ez EA EB,.bool EC,.slice ED EE EF,.bool EG,.slice EH EI EJ,.bool EK,.slice EL EM EN,.bool EO,.slice EP ER ES,.bool ET,.slice EU EW EX,.bool EY,.slice EZ Fa Fb,.bool Fc,.slice Ff Fg Fh,.bool Fi,.slice Fj Fk Fl,.bool MY,.slice MZ Na Nb,.bool Nc,.slice Nd Nf Ng,.bool Nh,.slice Ni Nj Nk,.bool Nl,.slice Nm Nn Np]:List Value).map .val) aa (hcell 0 _ ⟨[],aa⟩) (wV aa ?_);refine ae ?_;refine VO.cond aa dQ ?_;refine wV aa ?_;refine ae ?_;refine VO.dY aa (([.bool Jx,.slice Jy Jz JA,.bool JB,.slice JC JD del]:List Value).map .val) aa (vf 0 _ ⟨[],aa⟩) (wV aa ?_);refine ae ?_;refine VO.cond aa dQ ?_;refine wV aa ?_;refine ae ?_;refine VO.cond aa (by show 0+((v:Int)).toNat*28+28<=_;rw[qA.fl,dC];have:=qA.le;omega) (VO.fi 129 aa (lQ (new:=[.bool Eu,.slice Ev Ew Ex,.bool Ey,.slice Ez EA EB,.bool EC,.slice ED EE EF,.bool EG,.slice EH EI EJ,.bool EK,.slice EL EM EN,.bool EO,.slice EP ER ES,.bool ET,.slice EU EW EX,.bool EY,.slice EZ Fa Fb,.bool Fc,.slice Ff Fg Fh,.bool Fi,.slice Fj Fk Fl,.bool MY,.slice MZ Na Nb,.bool Nc,.slice Nd Nf Ng,.bool Jx,.slice Jy Jz JA,.bool JB,.slice JC JD del]) (qA.el.lens (dG 82)) (by rw[qA.el.len,<-qA.len];omega) aa) (wV aa ?_));refine ae ?_;have hRw3:=qA.set (dG 82) (i:=v) (w':=wL1) (kR _) (cs:=[.bool Eu,.slice Ev Ew Ex,.bool Ey,.slice Ez EA EB,.bool EC,.slice ED EE EF,.bool EG,.slice EH EI EJ,.bool EK,.slice EL EM EN,.bool EO,.slice EP ER ES,.bool ET,.slice EU EW EX,.bool EY,.slice EZ Fa Fb,.bool Fc,.slice Ff Fg Fh,.bool Fi,.slice Fj Fk Fl,.bool MY,.slice MZ Na Nb,.bool Nc,.slice Nd Nf Ng,.bool Jx,.slice Jy Jz JA,.bool JB,.slice JC JD del]) (a:={ rx with closing:=lx }) ⟨[.bool Eu,.slice Ev Ew Ex,.bool Ey,.slice Ez EA EB],[.bool EC,.slice ED EE EF,.bool EG,.slice EH EI EJ],[.bool EK,.slice EL EM EN,.bool EO,.slice EP ER ES],[.bool ET,.slice EU EW EX,.bool EY,.slice EZ Fa Fb],[.bool Fc,.slice Ff Fg Fh,.bool Fi,.slice Fj Fk Fl],[.bool MY,.slice MZ Na Nb,.bool Nc,.slice Nd Nf Ng],[.bool Jx,.slice Jy Jz JA,.bool JB,.slice JC JD del],aa,x0,x1,x2,x3,x4,x5,(bX 82).kp xl kV⟩;refine VS.back (N-(v+1)) ab ⟨_,_,?_,?_,?_,?_,⟨v+1,_,rows.set v { rx with closing:=lx },ab,aa,hRw3,?_,kV,aa,aa⟩⟩
   ·refine⟨aa,aa,aa,?_,ag⟩;rw[<-aD (i:=v) ab];rfl
   ·exact cA
   ·rfl
   ·exact⟨.lit aa,.lit aa,nP.lp,hRw3.lp,BQ.lp,ag⟩
   ·rw[<-jG,DX qK,gj VU]
  ·refine VS.aP aa (aA (λe=>kG (aQ.1 e))) ?_;have hvN:v=N:=ab;rw[hvN,ly (by have:=nP.len;omega)] at jG;replace jG:rows=RES:=jG;rw[jG] at qA;refine ae ?_;refine VS.pG (dD _ _) aa (λwz β kz bz en=> ?_);exact⟨_,_,aa,qA.new (dG 82) (en.own 129 _ _ aa) kz,BQ.new (jQ 82) (en.own 95 _ _ aa) bm,bz⟩
set_option maxRecDepth 4000
def IY (B:Nat) (w:World) (t:TypeId) (sz o:Nat) (p:Option Addr) (n:Nat):Prop:=∀ i,i<n->∃ b off q m c,p=some ⟨b,off,none⟩/\(∃ cur,bO w b t cur)/\w.cell? ⟨b,off+i*sz+o,none⟩=some (.slice q m c)/\ot w B q m/\m<=9223372036854775807
theorem Lk {b off sz o:Nat} {u:Value} (h:w.cell? ⟨b,off+i*sz+o,none⟩=some u):∀ (j:Nat) (x:Value),[u][j]? =some x->w.cell? ((⟨b,off+((i:Nat):Int).toNat*sz+o,none⟩:Addr).add j)=some x:=by
 intro j x hj;cases j with
 | zero=>cases hj;rw[ju,dC];exact h
 | succ j=>cases hj
theorem jC {P Q:Prop} (h:Q) (i:Q->P:=by intro h;(repeat first|refine wN ?_|refine wP rfl ?_|refine cxS_r rfl ?_|refine cxS_d rfl ?_|refine wO rfl rfl ?_);exact h):P:=i h
set_option maxRecDepth 4000 in
theorem Ec (pr pu:Option Addr) (N cr n cu B:Nat) (w:World) (hN:N<=1000000) (hn:n<=1000000) (hcr:N<=cr) (hcu:n<=cu) (hcrm:cr<=9223372036854775807) (hcum:cu<=9223372036854775807) (h1:IY B w fX 28 1 pr N) (h2:IY B w fX 28 5 pr N) (hu:IY B w gL 6 3 pu n):
  Calls Tryz.prog 24 #[.agg #[.slice pr N cr,.slice pu n cu]] w λo w'=>o=.returned (.tuple #[])/\Spo B w w':=by
 refine ah (C:=cxS Tryz.prog w _ B) (args:=[_]) Tryz.func24 aa Tryz.ntmps24 (bM aa) ?_;refine jC ?_;refine VS.loop (J:=λm L M w'=>∃ z:Nat,z<=n/\m=n-z/\L=[(1,.box 1 0),(2,.val (.int .i64 (z:Int)))]/\M=[(1,(nH,[.val (.slice pr N cr),.val (.slice pu n cu)]))]/\Hk w w') n ⟨_,_,?_,?_,?_,?_,⟨0,ab,aa,aa,aa,Hk.kp bm⟩⟩ ?_
 ·exact cA
 ·exact cA
 ·rfl
 ·exact gn
 rintro m L M wJ ⟨z,hz,rfl,rfl,rfl,hkJ⟩;refine jC ?_;by_cases hlt:z<n
 ·refine VS.aV aa (aE (aQ.2 hlt)) ?_;refine jC ?_;obtain⟨bb,off,q,mm,mc,gP,⟨cur0,jG⟩,hcc,hhk,GK⟩:=hu z hlt;refine VS.loop (J:=λm L M w'=>∃ k:Nat,k<=mm/\m=mm-k/\L=[(1,.box 1 0),(2,.val (.int .i64 (z:Int))),(3,.val (.int .i64 (k:Int)))]/\M=[(1,(nH,[.val (.slice pr N cr),.val (.slice pu n cu)]))]/\Hk w w') mm ⟨_,_,?_,?_,?_,?_,⟨0,ab,aa,aa,aa,hkJ.aR (Hk.kp bm)⟩⟩ ?_
  ·exact cA
  ·exact cA
  ·rfl
  ·exact gn
  rintro m L M wK ⟨k,hk,rfl,rfl,rfl,hkK⟩;subst gP;refine jC ?_;refine VO.cond aa dQ ?_;refine wV aa ?_;refine jC ?_;refine VO.iR aa [.slice q mm mc] aa (Lh jG bq (Lk hcc)) (wV aa ?_);refine jC ?_;by_cases kG:k<mm
  ·refine VS.aV aa (aE (aQ.2 kG)) ?_
   obtain⟨g,curg,Dw,DT,hcg,ny⟩:∃ g cur,q=some ⟨g,0,none⟩/\B<=g/\w.heap[g]? =some (Obj.cells cur UU (0,0))/\mm<=cur.size:=by
    rcases hhk with h|h
    ·omega
    ·exact h
   subst Dw
   (repeat (first|refine wN ?_|refine wP aa ?_))
   refine VS.MT (IG _ _ _) aa ?_;refine wV aa ?_;refine VO.cond aa dQ ?_;refine wV aa ?_;refine jC ?_;refine VO.iR aa [.slice (some ⟨g,0,none⟩) mm mc] aa (Lh jG bq (Lk hcc)) (wV aa ?_);refine VO.cond aa dQ ?_;refine wV aa ?_;refine wN ?_;refine⟨_,_,_,g,0+(k:Int).toNat*1,_,.int .u32 77,aa,aa,aa,aa,aa,aa,aa,aa,λw1 k1 bo1=> ?_⟩;obtain⟨cur1,ll,PG⟩:=(hkK.aR (Hk.kp k1)) g curg hcg;refine⟨cur1,UU,ll,by rw[dC];show 0+k*1+1<=_;omega,by simp[KC.fz],bo1.set (.inr ⟨DT,curg,hcg⟩),?_⟩;have hk2:Hk w (w1.setCells g (0+(k:Int).toNat*1) (Value.cells (.int .u32 77)).toList):=(hkK.aR (Hk.kp k1)).set ll;generalize w1.setCells g (0+(k:Int).toNat*1) (Value.cells (.int .u32 77)).toList=w2 at*;refine jC ?_;refine VS.back (mm-(k+1)) ab ⟨_,_,?_,?_,?_,?_,⟨k+1,ab,aa,aa,aa,hk2⟩⟩
   ·refine⟨aa,aa,?_,ag⟩;rw[<-aD (i:=k) ab];rfl
   ·exact cA
   ·rfl
   ·exact gn
  refine VS.aP aa (aA (λe=>kG (aQ.1 e))) ?_;clear kG hk;refine jC ?_;refine VS.back (n-(z+1)) ab ⟨_,_,?_,?_,?_,?_,⟨z+1,ab,aa,aa,aa,hkK⟩⟩
  ·refine⟨aa,?_,ag⟩;rw[<-aD (i:=z) ab];rfl
  ·exact cA
  ·rfl
  ·exact gn
 refine VS.aP aa (aA (λe=>hlt (aQ.1 e))) ?_;refine jC ?_;refine VS.loop (J:=λm L M w'=>∃ z:Nat,z<=N/\m=N-z/\L=[(1,.box 1 0),(4,.val (.int .i64 (z:Int)))]/\M=[(1,(nH,[.val (.slice pr N cr),.val (.slice pu n cu)]))]/\Hk w w') N ⟨_,_,?_,?_,?_,?_,⟨0,ab,aa,aa,aa,hkJ.aR (Hk.kp bm)⟩⟩ ?_
 ·exact cA
 ·exact cA
 ·rfl
 ·exact gn
 rintro m L M wL ⟨z,hz,rfl,rfl,rfl,hkJ2⟩;refine jC ?_;by_cases hlt:z<N
 ·refine VS.aV aa (aE (aQ.2 hlt)) ?_;refine jC ?_;obtain⟨bb,off,q,mm,mc,gP,⟨cur0,jG⟩,hcc,hhk,GK⟩:=h1 z hlt;refine VS.loop (J:=λm L M w'=>∃ k:Nat,k<=mm/\m=mm-k/\L=[(1,.box 1 0),(4,.val (.int .i64 (z:Int))),(5,.val (.int .i64 (k:Int)))]/\M=[(1,(nH,[.val (.slice pr N cr),.val (.slice pu n cu)]))]/\Hk w w') mm ⟨_,_,?_,?_,?_,?_,⟨0,ab,aa,aa,aa,hkJ2.aR (Hk.kp bm)⟩⟩ ?_
  ·exact cA
  ·exact cA
  ·rfl
  ·exact gn
  rintro m L M wK ⟨k,hk,rfl,rfl,rfl,hkK⟩;subst gP;refine jC ?_;refine VO.cond aa dQ ?_;refine wV aa ?_;refine jC ?_;refine VO.iR aa [.slice q mm mc] aa (Lh jG bq (Lk hcc)) (wV aa ?_);refine jC ?_;by_cases kG:k<mm
  ·refine VS.aV aa (aE (aQ.2 kG)) ?_
   obtain⟨g,curg,Dw,DT,hcg,ny⟩:∃ g cur,q=some ⟨g,0,none⟩/\B<=g/\w.heap[g]? =some (Obj.cells cur UU (0,0))/\mm<=cur.size:=by
    rcases hhk with h|h
    ·omega
    ·exact h
   subst Dw
   (repeat (first|refine wN ?_|refine wP aa ?_))
   refine VS.MT (IG _ _ _) aa ?_;refine wV aa ?_;refine VO.cond aa dQ ?_;refine wV aa ?_;refine jC ?_;refine VO.iR aa [.slice (some ⟨g,0,none⟩) mm mc] aa (Lh jG bq (Lk hcc)) (wV aa ?_);refine VO.cond aa dQ ?_;refine wV aa ?_;refine wN ?_;refine⟨_,_,_,g,0+(k:Int).toNat*1,_,.int .u32 78,aa,aa,aa,aa,aa,aa,aa,aa,λw1 k1 bo1=> ?_⟩;obtain⟨cur1,ll,PG⟩:=(hkK.aR (Hk.kp k1)) g curg hcg;refine⟨cur1,UU,ll,by rw[dC];show 0+k*1+1<=_;omega,by simp[KC.fz],bo1.set (.inr ⟨DT,curg,hcg⟩),?_⟩;have hk2:Hk w (w1.setCells g (0+(k:Int).toNat*1) (Value.cells (.int .u32 78)).toList):=(hkK.aR (Hk.kp k1)).set ll;generalize w1.setCells g (0+(k:Int).toNat*1) (Value.cells (.int .u32 78)).toList=w2 at*;refine jC ?_;refine VS.back (mm-(k+1)) ab ⟨_,_,?_,?_,?_,?_,⟨k+1,ab,aa,aa,aa,hk2⟩⟩
   ·refine⟨aa,aa,?_,ag⟩;rw[<-aD (i:=k) ab];rfl
   ·exact cA
   ·rfl
   ·exact gn
  refine VS.aP aa (aA (λe=>kG (aQ.1 e))) ?_;clear kG hk;refine jC ?_;obtain⟨bb2,off2,q,mm,mc,gP,⟨cur0,jG⟩,hcc,hhk,GK⟩:=h2 z hlt;refine VS.loop (J:=λm L M w'=>∃ k:Nat,k<=mm/\m=mm-k/\L=[(1,.box 1 0),(4,.val (.int .i64 (z:Int))),(6,.val (.int .i64 (k:Int)))]/\M=[(1,(nH,[.val (.slice (some ⟨bb,off,none⟩) N cr),.val (.slice pu n cu)]))]/\Hk w w') mm ⟨_,_,?_,?_,?_,?_,⟨0,ab,aa,aa,aa,hkK.aR (Hk.kp bm)⟩⟩ ?_
  ·exact cA
  ·exact cA
  ·rfl
  ·exact gn
  rintro m L M wM ⟨k,hk,rfl,rfl,rfl,hkK⟩;cases gP;refine jC ?_;refine VO.cond aa dQ ?_;refine wV aa ?_;refine jC ?_;refine VO.iR aa [.slice q mm mc] aa (Lh jG bq (Lk hcc)) (wV aa ?_);refine jC ?_;by_cases kG:k<mm
  ·refine VS.aV aa (aE (aQ.2 kG)) ?_
   obtain⟨g,curh,Dw,DT,hcg,ny⟩:∃ g cur,q=some ⟨g,0,none⟩/\B<=g/\w.heap[g]? =some (Obj.cells cur UU (0,0))/\mm<=cur.size:=by
    rcases hhk with h|h
    ·omega
    ·exact h
   subst Dw
   (repeat (first|refine wN ?_|refine wP aa ?_))
   refine VS.MT (IG _ _ _) aa ?_;refine wV aa ?_;refine VO.cond aa dQ ?_;refine wV aa ?_;refine jC ?_;refine VO.iR aa [.slice (some ⟨g,0,none⟩) mm mc] aa (Lh jG bq (Lk hcc)) (wV aa ?_);refine VO.cond aa dQ ?_;refine wV aa ?_;refine wN ?_;refine⟨_,_,_,g,0+(k:Int).toNat*1,_,.int .u32 79,aa,aa,aa,aa,aa,aa,aa,aa,λw1 k1 bo1=> ?_⟩;obtain⟨cur1,ll,PG⟩:=(hkK.aR (Hk.kp k1)) g curh hcg;refine⟨cur1,UU,ll,by rw[dC];show 0+k*1+1<=_;omega,by simp[KC.fz],bo1.set (.inr ⟨DT,curh,hcg⟩),?_⟩;have hk2:Hk w (w1.setCells g (0+(k:Int).toNat*1) (Value.cells (.int .u32 79)).toList):=(hkK.aR (Hk.kp k1)).set ll;generalize w1.setCells g (0+(k:Int).toNat*1) (Value.cells (.int .u32 79)).toList=w2 at*;refine jC ?_;refine VS.back (mm-(k+1)) ab ⟨_,_,?_,?_,?_,?_,⟨k+1,ab,aa,aa,aa,hk2⟩⟩
   ·refine⟨aa,aa,?_,ag⟩;rw[<-aD (i:=k) ab];rfl
   ·exact cA
   ·rfl
   ·exact gn
  refine VS.aP aa (aA (λe=>kG (aQ.1 e))) ?_;clear kG hk;refine jC ?_;refine VS.back (N-(z+1)) ab ⟨_,_,?_,?_,?_,?_,⟨z+1,ab,aa,aa,aa,hkK⟩⟩
  ·refine⟨aa,?_,ag⟩;rw[<-aD (i:=z) ab];rfl
  ·exact cA
  ·rfl
  ·exact gn
 refine VS.aP aa (aA (λe=>hlt (aQ.1 e))) ?_;refine jC ?_;refine VS.fin (IG _ _ _) aa (λwz β kz bz en=> ?_);exact⟨aa,bz.spo (hkJ2.aR (Hk.kp bm))⟩
set_option maxRecDepth 4000
theorem QY [DecidableEq β] (f:α->β) (xs:List α):MV f xs xs=true:=aE rfl
theorem vg (X:List eO×List eM):jP X X=true:=by unfold jP;rw[QY,QY];rfl
theorem dm.mapF {sz:Nat} {v:Value} {es:List β} (f:β->α) (h:dm (λw cs b=>E w cs (f b)) sz w v es):dm E sz w v (es.map f):=by
 obtain⟨p,c,rfl,h1,h2,h3⟩:=h;refine⟨p,c,by rw[bu],by rw[bu];exact h1,h2,λi a ha=> ?_⟩;rw[nJ] at ha;obtain⟨b,hb,rfl⟩:=ou.1 ha;exact h3 i b hb
variable {x:List bh×List Uq} {B:Nat}
theorem VV {B':Nat} {r u:Value} (h:lj (MX 82) 28 108 B w r x.1) (k:lj (TD 82) 6 106 B' w u x.2):pd 82 w r u (fF x):=
 ⟨(h.sl (dG 82)).mapF CN,(k.sl (jQ 82)).mapF CO⟩
def ur (S F:RR) (keep:Int) (l:List (RR×RR)) (X:List eO×List eM):Bool:=sI S F keep l && jP X (fF (pH S.q F.q keep.toNat (cD l)))
set_option maxRecDepth 4000 in
theorem TS (v u r x':Value) (S F:RR) (keep:Int) (l:List (RR×RR)) (X:List eO×List eM) (w:World) (hR:fY w v S F keep) (hS:S.ld 3) (hF:F.ld 3) (hl:dm (pW 3) 8 w u l) (hX:pd 82 w r x' X) (hlen:l.length<=12\/40<l.length) (fT:l.length<=100000):
  Calls Tryz.prog 23 #[v,u,.agg #[r,x']] w λo w'=>o=.returned (.bool (ur S F keep l X))/\aU w w':=by
 obtain⟨VQ,RH⟩:=hX;obtain⟨p1,c1,rfl,ll,hm1⟩:=VQ.form;obtain⟨p2,c2,rfl,kC,KN⟩:=RH.form;obtain⟨uq,uc,rfl,MG,hum⟩:=hl.form;obtain⟨sp,sc,sr,sd,fp,fc,fr,fd,rfl,xB,xC⟩:=hR;have hR:fY w (.agg #[.bool S.1,.slice sp S.2.1.length sc,.bool S.2.2.1,.slice sr S.2.2.2.length sd,.bool F.1,.slice fp F.2.1.length fc,.bool F.2.2.1,.slice fr F.2.2.2.length fd,.int .i64 keep]) S F keep:=⟨_,_,_,_,_,_,_,_,aa,xB,xC⟩;obtain⟨N,hN⟩:∃ N,N=l.length:=⟨_,aa⟩;rw[<-hN] at hl MG;rw[<-hN];refine ah (C:=xX Tryz.prog w _) (args:=[_,_,_]) Tryz.func23 aa Tryz.ntmps23 (bM aa) ?_;refine bJ ?_;cases gv:sI S F keep l with
 | false=>
   obtain⟨c,hc⟩:∃ c,lP S F keep l=c:=⟨_,aa⟩;have La:c≠0:=hc▸qZ S F keep l;refine VO.call aa aa (fk kW) (λbn cG bo=>(ye _ _ S F keep l bn (hR.kp (Kp.of (U:=UU) bo)) hS hF (hl.bI (bg 3) bo) ab gv c hc).mono ?_);rintro e w1 ⟨rfl,bA⟩
   skip
   refine eC bA ?_;intro eF _ bb1;refine VO.fix 17 aa (au (λb=>AV.val (.bool b)) (HT La)) ?_;refine bJ ?_;refine rh ?_;intro wz kz bz;exact⟨by unfold ur;rw[gv];rfl,bz⟩
 | true=>
   have hf:=kA gv;have Di:=hf.k0;have Hd:=hf.k1;have hN12:N<=12:=by have:=hf.len;omega
   obtain⟨kn,rfl⟩:∃ kn:Nat,keep=(kn:Int):=⟨keep.toNat,ab⟩;have hM:=pe hR hS hF hl hf ab;have hsz:=CP (kn:=kn) hM;refine VO.call aa aa (fk kW) (λbn cG bo=>(rf _ _ S F (kn:Int) kn l bn (hR.kp (Kp.of (U:=UU) bo)) hS hF (hl.bI (bg 3) bo) hf ab aa).mono ?_);rintro e w1 ⟨r1,u1,rfl,l1,bA⟩;obtain⟨pr,cr,pu,cu,rfl,rfl⟩:=l1.form;refine eC bA ?_;intro eF _ bb1;obtain⟨x,hx⟩:∃ x,pH S.q F.q kn (cD l)=x:=⟨_,aa⟩
   have hkb:ur S F (kn:Int) l X=(MV eO.q X.1 (fF x).1 && MV eM.q X.2 (fF x).2):=by
    unfold ur;rw[gv,dC,hx];rfl
   rw[hkb];rw[hx] at l1 hsz ⊢;have e1:(fF x).1.length=x.1.length:=bu _;have e2:(fF x).2.length=x.2.length:=bu _;cases h1:MV eO.q X.1 (fF x).1 with
   | false=>
     refine VO.cB aa aa (fk Tryz.func55) (λcz dB cT=>QS _ _ X.1 (fF x).1 82 cz (VQ.bI (dV 82) cT) ((l1.Tn (nv _ _) dB dB.nD).YD hsz).1 ab false h1) (λcz dB cT w2 cC fe _ bb2=>wV aa ?_);refine bJ ?_;refine rh ?_;intro wz kz bz;exact⟨aa,bz⟩
   | true=>
     refine VO.cB aa aa (fk Tryz.func55) (λcz dB cT=>QS _ _ X.1 (fF x).1 82 cz (VQ.bI (dV 82) cT) ((l1.Tn (nv _ _) dB dB.nD).YD hsz).1 ab true h1) (λcz dB cT w2 cC fe _ bb2=>wV aa ?_);refine bJ ?_;obtain⟨b2,h2⟩:∃ b,MV eM.q X.2 (fF x).2=b:=⟨_,aa⟩;rw[h2];refine VO.cB aa aa (fk Tryz.func57) (λeP fA ft=>eqUse_ok _ _ X.2 (fF x).2 82 eP (RH.bI (df 82) ft) ((l1.Tn (nv _ _) (fe.aR fA) (fe.aR fA).nD).YD hsz).2 ab b2 h2) (λeP fA ft w3 dZ jm _ bb3=>wV aa ?_);refine bJ ?_;refine rh ?_;intro wz kz bz;exact⟨aa,bz⟩
theorem Ll (v u r x':Value) (S F:RR) (keep:Int) (l:List (RR×RR)) (X:List eO×List eM) (w:World) (hR:fY w v S F keep) (hS:S.ld 3) (hF:F.ld 3) (hl:dm (pW 3) 8 w u l) (hX:pd 82 w r x' X) (hlen:l.length<=12\/40<l.length) (fT:l.length<=100000) (b:Bool) (hb:ur S F keep l X=b):
 Calls Tryz.prog 23 #[v,u,.agg #[r,x']] w λo w'=>o=.returned (.bool b)/\aU w w':=hb▸TS v u r x' S F keep l X w hR hS hF hl hX hlen fT
set_option maxRecDepth 4000 in
theorem Ln (v u:Value) (S F:RR) (keep:Int) (l:List (RR×RR)) (w:World) (hR:fY w v S F keep) (hS:S.ld 3) (hF:F.ld 3) (hl:dm (pW 3) 8 w u l) (hlen:l.length<=100000) (hno:sI S F keep l=false) (c:Int) (hc:lP S F keep l=c):
  Calls Tryz.prog 20 #[v,u] w λo w'=>o=.returned (.tuple #[.agg #[.slice none 0 0,.slice none 0 0],.int .i64 c])/\aU w w':=by
 obtain⟨TE,TF,TG,TH,Ob,Oc,Od,Oe,rfl,yY,hfr⟩:=hR;obtain⟨pu,cu,rfl,MG,hum⟩:=hl.form;have hR0:fY w (.agg #[.bool S.1,.slice TE S.2.1.length TF,.bool S.2.2.1,.slice TG S.2.2.2.length TH,.bool F.1,.slice Ob F.2.1.length Oc,.bool F.2.2.1,.slice Od F.2.2.2.length Oe,.int .i64 keep]) S F keep:=⟨_,_,_,_,_,_,_,_,aa,yY,hfr⟩;obtain⟨N,hN⟩:∃ N,N=l.length:=⟨_,aa⟩;rw[<-hN] at hl MG hlen;rw[<-hN];subst hc;refine ah (C:=cH Tryz.prog w _) (args:=[_,_]) Ka aa Tryz.ntmps20 (bM aa) ?_;refine ae ?_;cases h:(fw S F keep && l.all iV) with
 | false=>
   refine VO.cB aa aa (fk Tryz.func47) (λBC MC zM=>IL _ _ S F keep l 3 BC (hR0.kp (Kp.of (U:=UU) zM)) hS hF (hl.bI (bg 3) zM) ab ab false h) (λBC MC zM w41 hb41 kb41 _ bb41=>wV aa ?_);refine ae ?_;refine bl ?_;intro wz kz bz;exact⟨by unfold lP;rw[h];rfl,bz⟩
 | true=>
   have hN40:N>40:=by
    unfold sI at hno;rw[h] at hno;have:¬ l.length<=40:=by simpa using hno
    omega
   refine VO.cB aa aa (fk Tryz.func47) (λBC MC zM=>IL _ _ S F keep l 3 BC (hR0.kp (Kp.of (U:=UU) zM)) hS hF (hl.bI (bg 3) zM) ab ab true h) (λBC MC zM w41 hb41 kb41 _ bb41=>wV aa ?_);refine ae ?_;refine VS.aV aa (aE (show (N:Int)>40 by omega)) ?_;refine ae ?_;refine bl ?_;intro wz kz bz;exact⟨by unfold lP;rw[h];rfl,bz⟩
set_option maxRecDepth 4000 in
theorem Nr (v u r x':Value) (S F:RR) (keep:Int) (l:List (RR×RR)) (X:List eO×List eM) (w:World) (hR:fY w v S F keep) (hS:S.ld 3) (hF:F.ld 3) (hl:dm (pW 3) 8 w u l) (hX:pd 82 w r x' X) (hlen:l.length<=12\/40<l.length) (fT:l.length<=100000):
  Calls Tryz.prog 29 #[v,u,.agg #[r,x']] w λo w'=>o=.returned (.bool (ur S F keep l X))/\aU w w':=by
 obtain⟨VQ,RH⟩:=hX;obtain⟨p1,c1,rfl,ll,hm1⟩:=VQ.form;obtain⟨p2,c2,rfl,kC,KN⟩:=RH.form;obtain⟨uq,uc,rfl,MG,hum⟩:=hl.form;obtain⟨sp,sc,sr,sd,fp,fc,fr,fd,rfl,xB,xC⟩:=hR;have hR:fY w (.agg #[.bool S.1,.slice sp S.2.1.length sc,.bool S.2.2.1,.slice sr S.2.2.2.length sd,.bool F.1,.slice fp F.2.1.length fc,.bool F.2.2.1,.slice fr F.2.2.2.length fd,.int .i64 keep]) S F keep:=⟨_,_,_,_,_,_,_,_,aa,xB,xC⟩;obtain⟨N,hN⟩:∃ N,N=l.length:=⟨_,aa⟩;rw[<-hN] at hl MG;rw[<-hN];refine ah (C:=xX Tryz.prog w _) (args:=[_,_,_]) Tryz.func29 aa Tryz.ntmps29 (bM aa) ?_;refine bJ ?_;cases gv:sI S F keep l with
 | false=>
   obtain⟨c,hc⟩:∃ c,lP S F keep l=c:=⟨_,aa⟩;have La:c≠0:=hc▸qZ S F keep l;refine VO.call aa aa (fk Ka) (λbn cG bo=>(Ln _ _ S F keep l bn (hR.kp (Kp.of (U:=UU) bo)) hS hF (hl.bI (bg 3) bo) ab gv c hc).mono ?_);rintro e w1 ⟨rfl,bA⟩
   skip
   refine eC bA ?_;intro eF _ bb1;refine VO.fix 17 aa (au (λb=>AV.val (.bool b)) (HT La)) ?_;refine bJ ?_;refine rh ?_;intro wz kz bz;exact⟨by unfold ur;rw[gv];rfl,bz⟩
 | true=>
   have hf:=kA gv;have Di:=hf.k0;have hN12:N<=12:=by have:=hf.len;omega
   obtain⟨kn,rfl⟩:∃ kn:Nat,keep=(kn:Int):=⟨keep.toNat,ab⟩;refine VO.call aa aa (fk Ka) (λbn cG bo=>(IM _ _ S F (kn:Int) kn l bn (hR.kp (Kp.of (U:=UU) bo)) hS hF (hl.bI (bg 3) bo) hf ab aa).mono ?_);rintro e w1 ⟨r1,u1,rfl,l1,l2,bA⟩;obtain⟨pr,cr,rfl⟩:=l1.form;obtain⟨pu,cu,rfl⟩:=l2.form;refine eC bA ?_;intro eF _ bb1;obtain⟨x,hx⟩:∃ x,pH S.q F.q kn (cD l)=x:=⟨_,aa⟩
   have hkb:ur S F (kn:Int) l X=jP X (fF x):=by
    unfold ur;rw[gv,dC,hx];rfl
   rw[hkb];rw[<-zG,hx] at l1 l2 ⊢;obtain⟨b2,h2⟩:∃ b,jP X (fF x)=b:=⟨_,aa⟩;rw[h2];refine VO.cB aa aa (fk Tryz.func21) (λcz dB cT=>CQ _ _ _ _ X (fF x) 82 cz ⟨VQ.bI (dV 82) cT,RH.bI (df 82) cT⟩ (VV (l1.kp (dG 82) dB aa) (l2.kp (jQ 82) dB aa)) ab b2 h2) (λcz dB cT w2 cC fe _ bb2=>wV aa ?_);refine bJ ?_;refine rh ?_;intro wz kz bz;exact⟨aa,bz⟩
theorem QZ (v u r x':Value) (S F:RR) (keep:Int) (l:List (RR×RR)) (X:List eO×List eM) (w:World) (hR:fY w v S F keep) (hS:S.ld 3) (hF:F.ld 3) (hl:dm (pW 3) 8 w u l) (hX:pd 82 w r x' X) (hlen:l.length<=12\/40<l.length) (fT:l.length<=100000) (b:Bool) (hb:ur S F keep l X=b):
 Calls Tryz.prog 29 #[v,u,.agg #[r,x']] w λo w'=>o=.returned (.bool b)/\aU w w':=hb▸Nr v u r x' S F keep l X w hR hS hF hl hX hlen fT
set_option maxRecDepth 4000
theorem bQ.spoT {K:KC} {w1 w2:World} (h:bQ K w w1) (k:Spo B w1 w2) (hB:w.heap.size<=B):bQ K w w2:=
 ⟨bj h.size k.size,λa x s hc=>by
  have hb:=JE w a hc;rw[Ab (w:=w1) (k.pk a.block (ox hb h.size) (.inl ab))];exact h.cell a x s hc,λt g cur f s hg=>by
  have hb:=(vh.1 hg).1;rw[k.pk g (ox hb h.size) (.inl ab)]
  exact h.block t g cur f s hg,λg es c hg=>(k.pk g (ox (vh.1 hg).1 h.size) (.inr λcur e=>by
   have:=(h.map g es c hg).symm.trans e;cases this)).trans (h.map g es c hg)⟩
variable {N cr cu:Nat} {pr pu:Option Addr}
theorem uf.caps {n:Nat} (h:uf B w (.slice pr N cr) (.slice pu n cu) x):N<=cr/\cr<=9223372036854775807/\n<=cu/\cu<=9223372036854775807:=by
 have a1:N<=cr/\cr<=9223372036854775807:=by
  rcases h.1 with ⟨e,_⟩|⟨rb,_,n',c,vs,sp,e,_,h3⟩
  ·cases e;exact⟨bL _,bq⟩
  ·cases e;exact⟨h3.le,h3.cm⟩
 have a2:n<=cu/\cu<=9223372036854775807:=by
  rcases h.2 with ⟨e,_⟩|⟨rb,_,n',c,vs,sp,e,_,h3⟩
  ·cases e;exact⟨bL _,bq⟩
  ·cases e;exact⟨h3.le,h3.cm⟩
 exact⟨a1.1,a1.2,a2.1,a2.2⟩
theorem TT {sz o:Nat} {t:TypeId} {b n:Nat} (hE:jo E sz) (hz:∀ cs a,E w cs a->∃ q m d,cs[o]? =some (.slice q m d)/\ot w B q m/\m<=9223372036854775807) {sp:List Value} (hc:bO w b t (vs.flatten++sp).toArray) (h:fm E sz w n 0 c [] vs sp es):IY B w t sz o (some ⟨b,0,none⟩) n:=λi hi=>by
 obtain⟨a,ha⟩:∃ a,es[i]? =some a:=⟨_,ba (by have:=h.len;omega)⟩;obtain⟨cs,hcs,hEx⟩:=h.el.at i a ha;obtain⟨q,m,d,h1,h2,h3⟩:=hz cs a hEx;refine⟨b,0,q,m,d,aa,⟨_,hc⟩,?_,h2,h3⟩;have:=h.el.cell hE i cs hcs o _ h1;rw[jt];refine hc.cell ?_;rw[CT,gm (cQ.1 this).1];exact this
theorem R4.mag {q:Rat} (h:R4 B w cs q):∃ p m d,cs[1]? =some (.slice p m d)/\ot w B p m/\m<=9223372036854775807:=by
 obtain⟨s,p,n,c,t,r,m,d,rfl,ho⟩:=h
 obtain⟨h1,h2,h3,h4⟩:ot w B p n/\n<=9223372036854775807/\ot w B r m/\m<=9223372036854775807:=by
  have:=ho.husk;obtain⟨_,_,_,_,_,_,_,_,hv,a1,a2,a3,a4⟩:=this;simp only[Value.agg.injEq,Array.mk.injEq,List.cons.injEq,Value.bool.injEq,Value.slice.injEq,and_true] at hv;obtain⟨rfl,⟨rfl,rfl,rfl⟩,rfl,rfl,rfl,rfl⟩:=hv;exact⟨a1,a2,a3,a4⟩
 exact⟨p,n,c,aa,h1,h2⟩
theorem uf.mag {n:Nat} (h:uf B w (.slice pr N cr) (.slice pu n cu) x):IY B w fX 28 1 pr N/\IY B w fX 28 5 pr N/\IY B w gL 6 3 pu n:=by
 refine⟨?_,?_,?_⟩
 ·rcases h.1 with ⟨e,_⟩|⟨rb,_,n',c,vs,sp,e,hc,h3⟩
  ·cases e;exact λi hi=>absurd hi (JT i)
  ·cases e;refine TT (aL B) (λcs a hE=> ?_) hc h3;obtain⟨x0,x1,x2,x3,x4,x5,x6,rfl,g0,_⟩:=hE;obtain⟨q,m,d,h1,h2⟩:=g0.mag;exact⟨q,m,d,by rw[gm (by rw[g0.len];omega)];exact h1,h2⟩
 ·rcases h.1 with ⟨e,_⟩|⟨rb,_,n',c,vs,sp,e,hc,h3⟩
  ·cases e;exact λi hi=>absurd hi (JT i)
  ·cases e;refine TT (aL B) (λcs a hE=> ?_) hc h3;obtain⟨x0,x1,x2,x3,x4,x5,x6,rfl,g0,g1,_⟩:=hE;obtain⟨q,m,d,h1,h2⟩:=g1.mag;exact⟨q,m,d,by rw[jT (by rw[g0.len];omega),g0.len,gm (by rw[g1.len];omega)];exact h1,h2⟩
 ·rcases h.2 with ⟨e,_⟩|⟨rb,_,n',c,vs,sp,e,hc,h3⟩
  ·cases e;exact λi hi=>absurd hi (JT i)
  ·cases e;refine TT (fD B) (λcs a hE=> ?_) hc h3;obtain⟨s,p,n,c,t,r,m,d,rfl,ho⟩:=hE;obtain⟨q,m',d',h1,h2⟩:=R4.mag ⟨s,p,n,c,t,r,m,d,aa,ho⟩;exact⟨q,m',d',h1,h2⟩
set_option maxRecDepth 4000 in
theorem rj (v u:Value) (S F:RR) (keep:Int) (l:List (RR×RR)) (kk:Nat) (w:World) (hR:fY w v S F keep) (hl:dm (pW kk) 8 w u l):
  Calls Tryz.prog 5 #[v,u] w λo w'=>o=.returned (.bool true)/\aU w w':=by
 obtain⟨uq,uc,rfl,MG,hum⟩:=hl.form;obtain⟨sp,sc,sr,sd,fp,fc,fr,fd,rfl,xB,xC⟩:=hR;have hR:fY w (.agg #[.bool S.1,.slice sp S.2.1.length sc,.bool S.2.2.1,.slice sr S.2.2.2.length sd,.bool F.1,.slice fp F.2.1.length fc,.bool F.2.2.1,.slice fr F.2.2.2.length fd,.int .i64 keep]) S F keep:=⟨_,_,_,_,_,_,_,_,aa,xB,xC⟩;obtain⟨N,hN⟩:∃ N,N=l.length:=⟨_,aa⟩;rw[<-hN] at hl MG;rw[<-hN];refine ah (C:=xX Tryz.prog w _) (args:=[_,_]) Tryz.func5 aa Tryz.ntmps5 (bM aa) ?_;refine bJ ?_;cases mC:oY S F l with
 | false=>
   refine VO.cB aa aa (fk Al) (λbn cG bo=>oZ _ _ S F keep l kk bn (hR.kp (Kp.of (U:=UU) bo)) (hl.bI (bg kk) bo) false mC) (λbn cG bo w1 bA eF _ bb1=>wV aa ?_);refine bJ ?_;refine VO.cB aa aa (fk nM) (λcz dB cT=>dR cz) (λcz dB cT w2 cC fe _ bb2=>wV aa ?_);refine bJ ?_;refine rh ?_;intro wz kz bz;exact⟨aa,bz⟩
 | true=>
 have QM:=BF mC hl;have hlen:=CM mC;obtain⟨hS,hF,-⟩:=uh mC;refine VO.cB aa aa (fk Al) (λbn cG bo=>oZ _ _ S F keep l kk bn (hR.kp (Kp.of (U:=UU) bo)) (hl.bI (bg kk) bo) true mC) (λbn cG bo w1 bA eF _ bb1=>wV aa ?_);refine bJ ?_;clear hl;have hl:=QM;clear QM;refine VO.call aa aa (fk Tryz.func18) (λcz dB cT=>(DY _ S F keep 3 cz (hR.kp (Kp.of (U:=UU) cT)) hS hF ab).mono ?_);rintro e w2 ⟨r2,rfl,iW,cC⟩;obtain⟨Ry,Rz,RA,RB,RD,RE,RF,RG,rfl,g1,g2⟩:=iW;refine eC cC ?_;intro fe _ bb2;refine VO.call aa aa (fk Tryz.func19) (λeP fA ft=>(DZ _ l 3 eP (hl.bI (bg 3) ft) ab ab).mono ?_);rintro e w3 ⟨r3,rfl,hY3,dZ⟩;obtain⟨yp,yc,rfl⟩:=hY3.form;refine eC dZ ?_;intro jm _ bb3;have iW:∀ w',bQ (xX Tryz.prog w 61).K w2 w'->fY w' (.agg #[.bool S.1,.slice Ry S.2.1.length Rz,.bool S.2.2.1,.slice RA S.2.2.2.length RB,.bool F.1,.slice RD F.2.1.length RE,.bool F.2.2.1,.slice RF F.2.2.2.length RG,.int .i64 keep]) S F keep:=λw' k=>⟨_,_,_,_,_,_,_,_,aa,g1.kp k.nD,g2.kp k.nD⟩;cases gv:sI S F keep l with
 | false=>
   obtain⟨c,hc⟩:∃ c,lP S F keep l=c:=⟨_,aa⟩;have La:c≠0:=hc▸qZ S F keep l;refine VO.call aa aa (fk Ka) (λfW iJ iB=>(Ln _ _ S F keep l fW (iW _ (jm.aR iJ)) hS hF ((hY3.kp (bg 3) iJ aa).sl (bg 3)) ab gv c hc).mono ?_);rintro e w4 ⟨rfl,ic⟩
   skip
   refine eC ic ?_;intro mB _ tI;refine VS.now (λwI kI oI=> ?_);refine VS.loop (J:=λm L M w'=>∃ z:Nat,z<=2/\m=2-z/\bQ (xX Tryz.prog w 61).K wI w'/\L=[(1,.val (.slice uq N uc)),(2,.box 2 0),(7,.box 7 0),(8,.val (.int .i64 c)),(9,.val (.int .i64 (z:Int)))]/\M=[(2,(Iv,([.bool S.1,.slice sp S.2.1.length sc,.bool S.2.2.1,.slice sr S.2.2.2.length sd,.bool F.1,.slice fp F.2.1.length fc,.bool F.2.2.1,.slice fr F.2.2.2.length fd,.int .i64 keep]:List Value).map .val)),(7,(64,[.val (.slice none 0 0),.val (.slice none 0 0)]))]) 2 ⟨_,_,?_,?_,?_,?_,⟨0,ab,aa,bQ.refl _ _,aa,aa⟩⟩ ?_
   ·exact cA
   ·exact cA
   ·rfl
   ·exact gn
   rintro m L M wJ ⟨z,hz,rfl,kJ,rfl,rfl⟩;refine bJ ?_;by_cases hlt:z<2
   ·refine VS.aV aa (aE (show (z:Int)<2 by omega)) ?_;refine bJ ?_;refine VO.call aa aa (fk kW) (λfQ iH fV=>(ye _ _ S F keep l fQ (hR.kp (Kp.of (U:=UU) fV)) hS hF (hl.bI (bg 3) fV) ab gv c hc).mono ?_);rintro e w5 ⟨rfl,iz⟩
    skip
    refine eC iz ?_;intro lg _ sR;refine VO.fix 40 aa (au (λb=>AV.val (.bool b)) (vJ aa)) ?_;refine bJ ?_;refine VO.call aa aa (fk Tryz.func22) (λfJ iK gE=>(ve _ _ ([],[]) 82 fJ ⟨dm.nil _ _ _,dm.nil _ _ _⟩ ab bq bq).mono ?_);rintro e w6 ⟨r6,u6,rfl,l6,l6',ln⟩;obtain⟨p6,c6,rfl⟩:=l6.form;obtain⟨q6,d6,rfl⟩:=l6'.form;refine eC ln ?_;intro lH _ sj;refine VO.cB aa aa (fk Tryz.func21) (λjS na jI=>CQ _ _ _ _ ([],[]) ([],[]) 82 jS ⟨(l6.kp (dV 82) na aa).sl (dV 82),(l6'.kp (df 82) na aa).sl (df 82)⟩ ⟨dm.nil _ _ _,dm.nil _ _ _⟩ ab true (vg _)) (λjS na jI w7 ta rB _ Ct=>wV aa ?_);refine bJ ?_;refine VO.fix 50 aa (au (λb=>AV.val (.bool b)) (HT La)) ?_
    (repeat (first|refine wN ?_|refine wP aa ?_|refine wO aa aa ?_))
    refine VS.VL (IA _ _) aa [_] _ aa ?_;refine wV aa ?_;refine wN ?_;refine SpoK.mk' (B:=wI.heap.size) (wI:=wI) aa (fk Tryz.func24) (λRs Yu Rt=>Ec none none 0 0 0 0 wI.heap.size Rs ab ab ab ab ab ab (λi hi=>absurd hi (JT i)) (λi hi=>absurd hi (JT i)) (λi hi=>absurd hi (JT i))) (λw1 w2 o1 s1=>VK o1 oI.size s1) (λw1 w2 k1 s1=>bQ.spoT ((((kJ.aR lg).aR lH).aR rB).aR k1) s1 (bL _)) (λw9 k2=> ?_);refine bJ ?_;refine VS.back (2-(z+1)) ab ⟨_,_,?_,?_,?_,?_,⟨z+1,ab,aa,k2,aa,aa⟩⟩
    ·refine⟨aa,aa,aa,aa,?_,ag⟩;rw[<-aD (i:=z) ab];rfl
    ·exact cA
    ·rfl
    ·exact gn
   ·refine VS.aP aa (aA (show ¬ (z:Int)<2 by omega)) ?_;refine bJ ?_;refine VO.cB aa aa (fk nM) (λnb rC qV=>dR nb) (λnb rC qV Yv xk kf _ Hv=>wV aa ?_);refine bJ ?_;refine rh ?_;intro wz kz bz;exact⟨aa,bz⟩
 | true=>
   have hf:=kA gv;have Di:=hf.k0;have Hd:=hf.k1;have hN12:N<=12:=by have:=hf.len;omega
   obtain⟨kn,ux⟩:∃ kn:Nat,keep=(kn:Int):=⟨keep.toNat,ab⟩;have hM:=pe hR hS hF hl hf ab;have hsz:=CP (kn:=kn) hM;refine VO.call aa aa (fk Ka) (λfW iJ iB=>(IM _ _ S F keep kn l fW (iW _ (jm.aR iJ)) hS hF ((hY3.kp (bg 3) iJ aa).sl (bg 3)) hf ab ux).mono ?_);rintro e w4 ⟨r4,u4,rfl,xH,Ym,ic⟩;obtain⟨rp,rc,rfl⟩:=xH.form;obtain⟨up,uc2,rfl⟩:=Ym.form;refine eC ic ?_;intro mB _ tI;obtain⟨x,hx⟩:∃ x,pH S.q F.q kn (cD l)=x:=⟨_,aa⟩;have uZ:=yd S.q F.q kn (cD l);rw[<-zG] at xH Ym ⊢;rw[hx] at xH Ym hsz uZ ⊢;have Ih:x.1.length=N:=by rw[uZ.Rx,hN];unfold cD;simp
   obtain⟨n,hln2⟩:∃ n,x.2.length=n:=⟨_,aa⟩
   have hn24:n<=24:=by
    have h1:=(uj (kn:=kn) hM).1.len;have h2:=(uj (kn:=kn) hM).2;have h3:(cD l).length=N:=by rw[hN];unfold cD;simp
    rw[<-hln2,<-hx];show (kt S.q F.q kn (cD l)).uses.length<=24;omega
   have e1:(fF x).1.length=x.1.length:=bu _;have e2:(fF x).2.length=x.2.length:=bu _
   have yZ:ur S F keep l (fF x)=true:=by
    unfold ur;rw[gv,ux,dC,hx,vg];rfl
   obtain⟨RN,hRN⟩:∃ n,x.1.length=n:=⟨_,aa⟩;obtain⟨UN,hUN⟩:∃ n,x.2.length=n:=⟨_,aa⟩;rw[hRN] at xH;rw[hUN] at Ym;rw[hRN,hUN];refine VS.now (λwI kI oI=> ?_);replace xH:=xH.kp (dG 82) kI aa;replace Ym:=Ym.kp (jQ 82) kI aa;refine VS.loop (J:=λm L M w'=>∃ z:Nat,z<=2/\m=2-z/\bQ (xX Tryz.prog w 61).K wI w'/\L=[(1,.val (.slice uq N uc)),(2,.box 2 0),(7,.box 7 0),(8,.val (.int .i64 0)),(9,.val (.int .i64 (z:Int)))]/\M=[(2,(Iv,([.bool S.1,.slice sp S.2.1.length sc,.bool S.2.2.1,.slice sr S.2.2.2.length sd,.bool F.1,.slice fp F.2.1.length fc,.bool F.2.2.1,.slice fr F.2.2.2.length fd,.int .i64 keep]:List Value).map .val)),(7,(64,[.val (.slice rp RN rc),.val (.slice up UN uc2)]))]) 2 ⟨_,_,?_,?_,?_,?_,⟨0,ab,aa,bQ.refl _ _,aa,aa⟩⟩ ?_
   ·exact cA
   ·exact cA
   ·rfl
   ·exact gn
   rintro m L M wJ ⟨z,hz,rfl,kJ,rfl,rfl⟩;refine bJ ?_;by_cases hlt:z<2
   ·refine VS.aV aa (aE (show (z:Int)<2 by omega)) ?_;refine bJ ?_;refine VO.call aa aa (fk kW) (λfQ iH fV=>((rf _ _ S F keep kn l fQ (hR.kp (Kp.of (U:=UU) fV)) hS hF (hl.bI (bg 3) fV) hf ab ux).mono (λo w2 h=>And.intro h (And.intro iH.size fV))).mono ?_);rintro e w5 ⟨⟨r5,u5,rfl,l5,iz⟩,tX,ba5'⟩;obtain⟨pr,cr,pu,cu,rfl,rfl⟩:=l5.form;refine eC iz ?_;intro lg _ sR;rw[hx] at l5 ⊢;obtain⟨B,hB⟩:∃ B,fQ.heap.size=B:=⟨_,aa⟩;rw[hB] at l5 tX;rw[Ih,hln2] at l5 ⊢;refine VO.call aa aa (fk Tryz.func22) (λfJ iK gE=>(ve _ _ (fF x) 82 fJ ((l5.Tn (nv _ _) iK iK.nD).YD hsz) ab (by rw[e1];omega) (by rw[e2];omega)).mono ?_);rintro e w6 ⟨r6,u6,rfl,l6,l6',ln⟩;obtain⟨p6,c6,rfl⟩:=l6.form;obtain⟨q6,d6,rfl⟩:=l6'.form;refine eC ln ?_;intro lH _ sj;refine VO.cB aa aa (fk Tryz.func21) (λjS na jI=>CQ _ _ _ _ (fF x) (fF x) 82 jS ⟨(l6.kp (dV 82) na aa).sl (dV 82),(l6'.kp (df 82) na aa).sl (df 82)⟩ (VV (xH.kp (dG 82) (((kJ.aR lg).aR lH).aR na) aa) (Ym.kp (jQ 82) (((kJ.aR lg).aR lH).aR na) aa)) ab true (vg _)) (λjS na jI w7 ta rB _ Ct=>wV aa ?_);refine bJ ?_;refine VO.cB aa aa (fk Tryz.func23) (λpV yn ru=>Ll _ _ _ _ S F keep l (fF x) pV (hR.kp (Kp.of (U:=UU) ru)) hS hF (hl.bI (bg 3) ru) ((l5.Tn (nv _ _) ((lH.aR rB).aR yn) ((lH.aR rB).aR yn).nD).YD hsz) ab ab true yZ) (λpV yn ru w8 vG vP _ KW=>wV aa ?_)
    (repeat (first|refine wN ?_|refine wP aa ?_|refine wO aa aa ?_))
    have hcr5:=(l5.Tn (nv _ _) (lH.aR (rB.aR vP)) (lH.aR (rB.aR vP)).nD).caps;obtain⟨hcr,hcrm,hcu,hcum⟩:=hcr5;refine VS.VL (IA _ _) aa [_] _ aa ?_;refine wV aa ?_;refine wN ?_;refine SpoK.mk' (B:=B) (wI:=wI) aa (fk Tryz.func24) (λRs Yu Rt=> ?_) (λw1 w2 o1 s1=>VK o1 (bj oI.size (bj kJ.size tX)) s1) (λw1 w2 k1 s1=>bQ.spoT (((((kJ.aR lg).aR lH).aR rB).aR vP).aR k1) s1 (bj kJ.size tX)) (λw9 k2=> ?_)
    ·have hmg:=(l5.Tn (nv _ _) (lH.aR (rB.aR (vP.aR Yu))) (lH.aR (rB.aR (vP.aR Yu))).nD).mag;exact Ec pr pu N cr n cu B Rs ab ab hcr hcu hcrm hcum hmg.1 hmg.2.1 hmg.2.2
    refine bJ ?_;refine VS.back (2-(z+1)) ab ⟨_,_,?_,?_,?_,?_,⟨z+1,ab,aa,k2,aa,aa⟩⟩
    ·refine⟨aa,aa,aa,aa,?_,ag⟩;rw[<-aD (i:=z) ab];rfl
    ·exact cA
    ·rfl
    ·exact gn
   ·refine VS.aP aa (aA (show ¬ (z:Int)<2 by omega)) ?_;refine bJ ?_;refine VO.cB aa aa (fk nM) (λnb rC qV=>dR nb) (λnb rC qV Yv xk kf _ Hv=>wV aa ?_);refine bJ ?_;refine rh ?_;intro wz kz bz;exact⟨aa,bz⟩
set_option maxRecDepth 4000
def IZ (r:eO):Bool:=r.l.all BD
variable {z:Nat}
theorem TU {l:List eO} {e:eO} (he:l[z]? =some e) (h:(l.take z).all IZ=true) (hw:IZ e=true):(l.take (z+1)).all IZ=true:=by
 rw[dt he,ja,h];simp[hw]
theorem Ra {l:List eM} {e:eM} (he:l[z]? =some e) (h:((l.take z).all λe=>BD e.2.2)=true) (hw:BD e.2.2=true):((l.take (z+1)).all λe=>BD e.2.2)=true:=by
 rw[dt he,ja,h];simp[hw]
theorem qk {x:RR} (h:BD x=true):x.ld 3:=by
 unfold BD at h;rw[gf,yz,yz] at h;exact h
theorem rowsm_sl {l:List eO} {v:Value} (h:l.all IZ=true) (hv:dm (pc kk) 28 w v l):dm (pc 3) 28 w v l:=hv.mono λi a cs ha hE=>by
 have hs:=bR.1 h a (cX ha);unfold IZ eO.l at hs;simp only[List.all_cons,List.all_nil,Bool.and_true,Bool.and_eq_true] at hs;obtain⟨f0,f1,f2,f3,f4,f5,f6⟩:=hs;obtain⟨x0,x1,x2,x3,x4,x5,x6,rfl,g0,g1,g2,g3,g4,g5,g6⟩:=hE;exact⟨_,_,_,_,_,_,_,aa,⟨g0.1,qk f0⟩,⟨g1.1,qk f1⟩,⟨g2.1,qk f2⟩,⟨g3.1,qk f3⟩,⟨g4.1,qk f4⟩,⟨g5.1,qk f5⟩,⟨g6.1,qk f6⟩⟩
theorem uses_sl {l:List eM} {v:Value} (h:(l.all λe=>BD e.2.2)=true) (hv:dm (pJ kk) 6 w v l):dm (pJ 3) 6 w v l:=hv.mono λi a cs ha hE=>by
 have hs:=bR.1 h a (cX ha);obtain⟨x,rfl,g⟩:=hE;exact⟨x,aa,g.1,qk hs⟩
theorem sumz {us:List eM} {v:Value} {vt:Int} (h:dm (pJ kk) 6 w v us):∀ z,z<=us.length->((us.take z).all λe=>BD e.2.2)=true->fI (lh ((us.take z).map (λe=>pq (decide (e.1=vt)) e.2.2))) (eR 3 z):=λz=>by
 induction z with
 | zero=>exact λ_ _=>fI.zero.mono (by unfold eR;omega)
 | succ z ih=>
   intro hz ha;obtain⟨e,he⟩:∃ e,us[z]? =some e:=⟨_,ba ab⟩;rw[dt he,ja,gf] at ha;rw[lL _ he,xr];refine (ih ab ha.1).add ?_;obtain⟨cs,hcs⟩:=h.rws e (cX he);unfold pq
   split
   ·exact RR.sz (kk:=3) ⟨hcs.1,qk (by simpa using ha.2)⟩
   ·exact fI.zero.mono (by unfold gU;omega)
theorem kk_up (h:z<=100):eR 3 z<=1000000:=by
 have:=tQ (k:=3) h;have h2:eR 3 100<=1000000:=bq;omega
set_option maxRecDepth 4000 in
theorem pj (v u r x':Value) (S F:RR) (keep vt:Int) (l:List (RR×RR)) (X:List eO×List eM) (kk kj:Nat) (w:World) (hR:fY w v S F keep) (hl:dm (pW kk) 8 w u l) (hX:pd kj w r x' X):
  Calls Tryz.prog 6 #[v,u,.agg #[r,x'],.int .i64 vt] w λo w'=>o=.returned (.bool true)/\aU w w':=by
 obtain⟨rp,rc,rfl,SX,hrm⟩:=hX.1.form;obtain⟨up,uc2,rfl,huc2,hum2⟩:=hX.2.form;obtain⟨uq,uc,rfl,MG,hum⟩:=hl.form;obtain⟨sp,sc,sr,sd,fp,fc,fr,fd,rfl,xB,xC⟩:=hR;have hR:fY w (.agg #[.bool S.1,.slice sp S.2.1.length sc,.bool S.2.2.1,.slice sr S.2.2.2.length sd,.bool F.1,.slice fp F.2.1.length fc,.bool F.2.2.1,.slice fr F.2.2.2.length fd,.int .i64 keep]) S F keep:=⟨_,_,_,_,_,_,_,_,aa,xB,xC⟩;obtain⟨K,hK⟩:∃ K,K=l.length:=⟨_,aa⟩;obtain⟨N,hN⟩:∃ N,N=X.1.length:=⟨_,aa⟩;obtain⟨n,hn⟩:∃ n,n=X.2.length:=⟨_,aa⟩;obtain⟨VQ,RH⟩:=hX;rw[<-hK] at hl MG;rw[<-hN] at VQ SX;rw[<-hn] at RH huc2;rw[<-hK,<-hN,<-hn];refine ah (C:=cH Tryz.prog w _) (args:=[_,_,_,_]) Tryz.func6 aa Tryz.ntmps6 (bM aa) ?_;refine ae ?_;cases mC:oY S F l with
 | false=>
   refine VO.cB aa aa (fk Al) (λbn cG bo=>oZ _ _ S F keep l kk bn (hR.kp (Kp.of (U:=UU) bo)) (hl.bI (bg kk) bo) false mC) (λbn cG bo w1 bA eF _ bb1=>wV aa ?_);refine ae ?_;refine VO.cB aa aa (fk nM) (λcz dB cT=>dR cz) (λcz dB cT w2 cC fe _ bb2=>wV aa ?_);refine ae ?_;refine bl ?_;intro wz kz bz;exact⟨aa,bz⟩
 | true=>
 have QM:=BF mC hl;have hlen:=CM mC;obtain⟨hS,hF,-⟩:=uh mC;refine VO.cB aa aa (fk Al) (λbn cG bo=>oZ _ _ S F keep l kk bn (hR.kp (Kp.of (U:=UU) bo)) (hl.bI (bg kk) bo) true mC) (λbn cG bo w1 bA eF _ bb1=>wV aa ?_);refine ae ?_;clear hl;have hl:=QM;clear QM;by_cases hN12:N<=12
 case neg=>
  refine VO.fix 23 aa (au (λb=>AV.val (.bool b)) (aE (show (N:Int)>12 by omega))) ?_;refine ae ?_;refine VO.cB aa aa (fk nM) (λcz dB cT=>dR cz) (λcz dB cT w2 cC fe _ bb2=>wV aa ?_);refine ae ?_;refine bl ?_;intro wz kz bz;exact⟨aa,bz⟩
 refine VO.fix 23 aa (au (λb=>AV.val (.bool b)) (aA (show ¬ (N:Int)>12 by omega))) ?_;refine ae ?_;by_cases hn40:n<=40
 case neg=>
  refine VS.aV aa (aE (show (n:Int)>40 by omega)) ?_;refine ae ?_;refine VO.cB aa aa (fk nM) (λcz dB cT=>dR cz) (λcz dB cT w2 cC fe _ bb2=>wV aa ?_);refine ae ?_;refine bl ?_;intro wz kz bz;exact⟨aa,bz⟩
 refine VS.aP aa (aA (show ¬ (n:Int)>40 by omega)) ?_;refine ae ?_;have hsz:=sumz (vt:=vt) RH;refine VO.cR aa aa (fk Tryz.func25) (λwa0 ka0 ba0=>sn wa0) (λwa0 ka0 ba0 w0 s0 p0 n0 c0 t0 y0 m0 d0 q0 yj kb0 _ bb0=>wV aa ?_);refine ae ?_;replace q0:=q0.rd;refine VS.loop (J:=λm L M w'=>∃ z:Nat,z<=N/\m=N-z/\(X.1.take z).all IZ=true/\Kp UU w0 w'/\L=[(1,.val (.slice uq K uc)),(3,.val (.int .i64 vt)),(4,.box 4 0),(6,.box 6 0),(9,.box 9 0),(10,.val (.int .i64 (z:Int)))]/\M=[(4,(Iv,([.bool S.1,.slice sp S.2.1.length sc,.bool S.2.2.1,.slice sr S.2.2.2.length sd,.bool F.1,.slice fp F.2.1.length fc,.bool F.2.2.1,.slice fr F.2.2.2.length fd,.int .i64 keep]:List Value).map .val)),(6,(nH,[.val (.slice rp N rc),.val (.slice up n uc2)])),(9,(55,([.bool s0,.slice p0 n0 c0,.bool t0,.slice y0 m0 d0]:List Value).map .val))]) N ⟨_,_,?_,?_,?_,?_,⟨0,ab,aa,aa,bm,aa,aa⟩⟩ ?_
 ·exact cA
 ·exact cA
 ·rfl
 ·exact gn
 rintro m L M wJ ⟨z,hz,rfl,gJ,kJ,rfl,rfl⟩;refine ae ?_;by_cases hlt:z<N
 ·obtain⟨e,he⟩:∃ e,X.1[z]? =some e:=⟨_,ba ab⟩;obtain⟨b,off,gD,gP,hc,⟨_,_,_,_,_,_,_,rfl,⟨⟨NG,NH,NI,NJ,rfl,g0⟩,gf0⟩,⟨⟨NK,NL,NM,NN,rfl,g1⟩,gf1⟩,⟨⟨NP,NQ,NR,NS,rfl,g2⟩,gf2⟩,⟨⟨NT,NU,NV,NW,rfl,g3⟩,gf3⟩,⟨⟨NX,NY,NZ,Oa,rfl,g4⟩,gf4⟩,⟨⟨MH,MI,MJ,ML,rfl,g5⟩,gf5⟩,⟨⟨MM,MN,MO,MP,rfl,g6⟩,gf6⟩⟩⟩:=VQ.at he;subst gP;refine VS.aV aa (aE (aQ.2 hlt)) ?_;refine ae ?_;refine VO.cond aa dQ ?_;refine wV aa ?_;refine ae ?_;refine VO.read aa [.bool e.aX.1,.slice NG e.aX.2.1.length NH,.bool e.aX.2.2.1,.slice NI e.aX.2.2.2.length NJ,.bool e.allowed.1,.slice NK e.allowed.2.1.length NL,.bool e.allowed.2.2.1,.slice NM e.allowed.2.2.2.length NN,.bool e.az.1,.slice NP e.az.2.1.length NQ,.bool e.az.2.2.1,.slice NR e.az.2.2.2.length NS,.bool e.used.1,.slice NT e.used.2.1.length NU,.bool e.used.2.2.1,.slice NV e.used.2.2.2.length NW,.bool e.ao.1,.slice NX e.ao.2.1.length NY,.bool e.ao.2.2.1,.slice NZ e.ao.2.2.2.length Oa,.bool e.aq.1,.slice MH e.aq.2.1.length MI,.bool e.aq.2.2.1,.slice MJ e.aq.2.2.2.length ML,.bool e.closing.1,.slice MM e.closing.2.1.length MN,.bool e.closing.2.2.1,.slice MO e.closing.2.2.2.length MP] aa (aM hc 0 _ ⟨[],aa⟩) (wV aa ?_);refine ae ?_;cases Lg:IZ e with
  | false=>
    refine VO.eB aa (fk Aj) (λbn β cG bo ho=>(oX _ e.l bn (gw mw (ho.own 57 (.base (aJ.2 aa)) _ _ aa) [] (vs:=[[.bool e.aX.1,.slice NG e.aX.2.1.length NH,.bool e.aX.2.2.1,.slice NI e.aX.2.2.2.length NJ],[.bool e.allowed.1,.slice NK e.allowed.2.1.length NL,.bool e.allowed.2.2.1,.slice NM e.allowed.2.2.2.length NN],[.bool e.az.1,.slice NP e.az.2.1.length NQ,.bool e.az.2.2.1,.slice NR e.az.2.2.2.length NS],[.bool e.used.1,.slice NT e.used.2.1.length NU,.bool e.used.2.2.1,.slice NV e.used.2.2.2.length NW],[.bool e.ao.1,.slice NX e.ao.2.1.length NY,.bool e.ao.2.2.1,.slice NZ e.ao.2.2.2.length Oa],[.bool e.aq.1,.slice MH e.aq.2.1.length MI,.bool e.aq.2.2.1,.slice MJ e.aq.2.2.2.length ML],[.bool e.closing.1,.slice MM e.closing.2.1.length MN,.bool e.closing.2.2.1,.slice MO e.closing.2.2.2.length MP]]) aa (cd.cons ⟨_,_,_,_,aa⟩ (cd.cons ⟨_,_,_,_,aa⟩ (cd.cons ⟨_,_,_,_,aa⟩ (cd.cons ⟨_,_,_,_,aa⟩ (cd.cons ⟨_,_,_,_,aa⟩ (cd.cons ⟨_,_,_,_,aa⟩ (cd.cons ⟨_,_,_,_,aa⟩ (cd.nil)))))))) aa (bL 7) bq) false Lg).mono ?_);rintro o w1 ⟨rfl,bA⟩;refine bZ bA ?_;intro eF _ bb1;refine VO.cB aa aa (fk nM) (λcz dB cT=>dR cz) (λcz dB cT w2 cC fe _ bb2=>wV aa ?_);refine ae ?_;refine bl ?_;intro wz kz bz;exact⟨aa,bz⟩
  | true=>
    refine VO.eB aa (fk Aj) (λbn β cG bo ho=>(oX _ e.l bn (gw mw (ho.own 57 (.base (aJ.2 aa)) _ _ aa) [] (vs:=[[.bool e.aX.1,.slice NG e.aX.2.1.length NH,.bool e.aX.2.2.1,.slice NI e.aX.2.2.2.length NJ],[.bool e.allowed.1,.slice NK e.allowed.2.1.length NL,.bool e.allowed.2.2.1,.slice NM e.allowed.2.2.2.length NN],[.bool e.az.1,.slice NP e.az.2.1.length NQ,.bool e.az.2.2.1,.slice NR e.az.2.2.2.length NS],[.bool e.used.1,.slice NT e.used.2.1.length NU,.bool e.used.2.2.1,.slice NV e.used.2.2.2.length NW],[.bool e.ao.1,.slice NX e.ao.2.1.length NY,.bool e.ao.2.2.1,.slice NZ e.ao.2.2.2.length Oa],[.bool e.aq.1,.slice MH e.aq.2.1.length MI,.bool e.aq.2.2.1,.slice MJ e.aq.2.2.2.length ML],[.bool e.closing.1,.slice MM e.closing.2.1.length MN,.bool e.closing.2.2.1,.slice MO e.closing.2.2.2.length MP]]) aa (cd.cons ⟨_,_,_,_,aa⟩ (cd.cons ⟨_,_,_,_,aa⟩ (cd.cons ⟨_,_,_,_,aa⟩ (cd.cons ⟨_,_,_,_,aa⟩ (cd.cons ⟨_,_,_,_,aa⟩ (cd.cons ⟨_,_,_,_,aa⟩ (cd.cons ⟨_,_,_,_,aa⟩ (cd.nil)))))))) aa (bL 7) bq) true Lg).mono ?_);rintro o w1 ⟨rfl,bA⟩;refine bZ bA ?_;intro eF _ bb1;refine VS.back (N-(z+1)) ab ⟨_,_,?_,?_,?_,?_,⟨z+1,ab,aa,TU he gJ Lg,bm,aa,aa⟩⟩
    ·refine⟨aa,aa,aa,aa,aa,?_,ag⟩;rw[<-aD (i:=z) ab];rfl
    ·exact cA
    ·rfl
    ·exact gn
 refine VS.aP aa (aA (λe=>hlt (aQ.1 e))) ?_;rw[dP ab] at gJ;have hX1':=rowsm_sl gJ VQ;replace q0:cJ wJ (.agg #[.bool s0,.slice p0 n0 c0,.bool t0,.slice y0 m0 d0]) 0:=q0.k;refine ae ?_;refine VS.loop (J:=λm L M w'=>∃ (z:Nat) (s1 p1 n1 c1 t1 y1 m1 d1:_),z<=n/\m=n-z/\((X.2.take z).all λe=>BD e.2.2)=true/\Kp UU w0 w'/\cJ w' (.agg #[.bool s1,.slice p1 n1 c1,.bool t1,.slice y1 m1 d1]) (lh ((X.2.take z).map (λe:eM=>pq (decide (e.1=vt)) e.2.2)))/\L=[(1,.val (.slice uq K uc)),(3,.val (.int .i64 vt)),(4,.box 4 0),(6,.box 6 0),(9,.box 9 0),(12,.val (.int .i64 (z:Int)))]/\M=[(4,(Iv,([.bool S.1,.slice sp S.2.1.length sc,.bool S.2.2.1,.slice sr S.2.2.2.length sd,.bool F.1,.slice fp F.2.1.length fc,.bool F.2.2.1,.slice fr F.2.2.2.length fd,.int .i64 keep]:List Value).map .val)),(6,(nH,[.val (.slice rp N rc),.val (.slice up n uc2)])),(9,(55,([.bool s1,.slice p1 n1 c1,.bool t1,.slice y1 m1 d1]:List Value).map .val))]) n ⟨_,_,?_,?_,?_,?_,⟨0,s0,p0,n0,c0,t0,y0,m0,d0,ab,aa,aa,bm,q0,aa,aa⟩⟩ ?_
 ·exact cA
 ·exact cA
 ·rfl
 ·exact gn
 rintro m L M wU ⟨z,s1,p1,n1,c1,t1,y1,m1,d1,uw,rfl,Rb,kU2,q1,rfl,rfl⟩;refine ae ?_;by_cases kG:z<n
 ·obtain⟨e,he⟩:∃ e,X.2[z]? =some e:=⟨_,ba ab⟩;obtain⟨b,off,gD,gP,hc,⟨_,rfl,⟨ap,ac,ar,ad,rfl,ha⟩,hfw⟩⟩:=RH.at he;subst gP;refine VS.aV aa (aE (aQ.2 kG)) ?_;refine ae ?_;refine VO.cond aa dQ ?_;refine wV aa ?_;refine ae ?_;refine VO.read aa [.bool e.2.2.1,.slice ap e.2.2.2.1.length ac,.bool e.2.2.2.2.1,.slice ar e.2.2.2.2.2.length ad] aa (aM hc 2 _ ⟨[],aa⟩) (wV aa ?_);refine ae ?_;cases Lg:BD e.2.2 with
  | false=>
    refine VO.eB aa (fk Aj) (λeP β fA ft ho=>(oX _ [e.2.2] eP (gw mw (ho.own 74 (.base (aJ.2 aa)) _ _ aa) [] (vs:=[[.bool e.2.2.1,.slice ap e.2.2.2.1.length ac,.bool e.2.2.2.2.1,.slice ar e.2.2.2.2.2.length ad]]) aa (cd.cons ⟨_,_,_,_,aa⟩ cd.nil) aa (bL 1) bq) false (by rw[<-Lg];simp)).mono ?_);rintro o w3 ⟨rfl,dZ⟩;refine bZ dZ ?_;intro jm _ bb3;refine VO.cB aa aa (fk nM) (λfW iJ iB=>dR fW) (λfW iJ iB w4 ic mB _ tI=>wV aa ?_);refine ae ?_;refine bl ?_;intro wz kz bz;exact⟨aa,bz⟩
  | true=>
    refine VO.eB aa (fk Aj) (λeP β fA ft ho=>(oX _ [e.2.2] eP (gw mw (ho.own 74 (.base (aJ.2 aa)) _ _ aa) [] (vs:=[[.bool e.2.2.1,.slice ap e.2.2.2.1.length ac,.bool e.2.2.2.2.1,.slice ar e.2.2.2.2.2.length ad]]) aa (cd.cons ⟨_,_,_,_,aa⟩ cd.nil) aa (bL 1) bq) true (by rw[<-Lg];simp)).mono ?_);rintro o w3 ⟨rfl,dZ⟩;refine bZ dZ ?_;intro jm _ bb3
    have hfw3:e.2.2.ld 3:=by
     unfold BD at Lg;rw[gf,yz,yz] at Lg;exact Lg
    have hsum:=lL (λe:eM=>pq (decide (e.1=vt)) e.2.2) he;refine VO.cond aa dQ ?_;refine wV aa ?_;refine ae ?_;refine VO.read aa [.int .i64 e.1] aa (aM hc 0 _ ⟨_,aa⟩) (wV aa ?_);refine ae ?_;by_cases hev:e.1=vt
    ·refine VS.aV aa (Vj hev) ?_;refine ae ?_;refine VO.cond aa dQ ?_;refine wV aa ?_;refine ae ?_;refine VO.read aa [.bool e.2.2.1,.slice ap e.2.2.2.1.length ac,.bool e.2.2.2.2.1,.slice ar e.2.2.2.2.2.length ad] aa (aM hc 2 _ ⟨[],aa⟩) (wV aa ?_);refine VO.call aa aa (fk jc) (λfQ iH fV=>(cU e.2.2.1 e.2.2.2.2.1 e.2.2.2.1 e.2.2.2.2.2 _ fQ (ha.kp (Kp.of (U:=UU) fV)) (by have:=hfw3.1;omega) (by have:=hfw3.2;omega)).mono ?_);rintro e w5 ⟨r5,rfl,q5,iz⟩;obtain⟨vp,vc,vr,vd,rfl,-⟩:=q5.raw.jf;refine bZ iz ?_;intro lg _ sR;refine VO.cR aa aa (fk yI) (λfJ iK gE=>jn _ _ (lh ((X.2.take z).map (λe:eM=>pq (decide (e.1=vt)) e.2.2))) e.2.2.q 1000000 3 fJ (q1.ki ((hsz z ab Rb).mono (kk_up ab))) ((q5.raw.kp iK).fZ hfw3) ab ab) (λfJ iK gE w6 s6 p6 n6 c6 t6 y6 m6 d6 q6 ln lH _ sj=>wV aa ?_);refine ae ?_;refine VS.back (n-(z+1)) ab ⟨_,_,?_,?_,?_,?_,⟨z+1,s6,p6,n6,c6,t6,y6,m6,d6,ab,aa,Ra he Rb Lg,bm,by rw[hsum,show pq (decide (e.1=vt)) e.2.2=e.2.2.q by rw[aE hev];rfl];exact q6.kr,aa,aa⟩⟩
     ·refine⟨aa,aa,aa,aa,aa,?_,ag⟩;rw[<-aD (i:=z) ab];rfl
     ·exact cA
     ·rfl
     ·exact gn
    ·refine VS.aP aa (HT hev) ?_;refine ae ?_;refine VS.back (n-(z+1)) ab ⟨_,_,?_,?_,?_,?_,⟨z+1,s1,p1,n1,c1,t1,y1,m1,d1,ab,aa,Ra he Rb Lg,bm,by rw[hsum,show pq (decide (e.1=vt)) e.2.2=0 by rw[aA hev];rfl,Gk];exact q1.k,aa,aa⟩⟩
     ·refine⟨aa,aa,aa,aa,aa,?_,ag⟩;rw[<-aD (i:=z) ab];rfl
     ·exact cA
     ·rfl
     ·exact gn
 refine VS.aP aa (aA (λe=>kG (aQ.1 e))) ?_;rw[dP ab] at Rb q1;have hX2':=uses_sl Rb RH
 (repeat (first|refine wN ?_|refine wP aa ?_))
 refine VS.Ia (λw=>xX Tryz.prog w 117) (λ_=>aa) (λ_=>aa) (λ_=>aU.refl _) (λW β k9 b9 en=> ?_);have Ax:=(en.own 4 _ _ aa).cls;have hc6:=(en.own 6 _ _ aa).cls;have hc9:=(en.own 9 _ _ aa).cls;refine⟨[(1,.val (.slice uq K uc)),(3,.val (.int .i64 vt)),(4,.val (.pointer (some ⟨β 4,0,none⟩))),(6,.val (.pointer (some ⟨β 6,0,none⟩))),(9,.val (.pointer (some ⟨β 9,0,none⟩)))],⟨⟨_,_,aa,aa,aa⟩,⟨_,_,aa,aa,aa⟩,⟨_,_,aa,aa,aa⟩,⟨_,_,aa,aa,aa⟩,⟨_,_,aa,aa,aa⟩,ag⟩,?_⟩;generalize β 4=b4 at*;generalize β 6=b6 at*;generalize β 9=b9' at*;replace q1:cJ W (.agg #[.bool s1,.slice p1 n1 c1,.bool t1,.slice y1 m1 d1]) (VG vt X.2):=q1.kp k9;have Og:fY W (.agg #[.bool S.1,.slice sp S.2.1.length sc,.bool S.2.2.1,.slice sr S.2.2.2.length sd,.bool F.1,.slice fp F.2.1.length fc,.bool F.2.2.1,.slice fr F.2.2.2.length fd,.int .i64 keep]) S F keep:=hR.kp (Kp.of (U:=UU) b9);have hlW:dm (pW 3) 8 W (.slice uq K uc) l:=hl.bI (bg 3) b9;have hXW:pd 3 W (.slice rp N rc) (.slice up n uc2) X:=⟨hX1'.bI (dV 3) b9,hX2'.bI (df 3) b9⟩;clear en k9 hX1' hX2' hl hR kJ kU2;have RDR:∀ (j:Nat) (u:Value),[.bool S.1,.slice sp S.2.1.length sc,.bool S.2.2.1,.slice sr S.2.2.2.length sd,.bool F.1,.slice fp F.2.1.length fc,.bool F.2.2.1,.slice fr F.2.2.2.length fd,.int .i64 keep][j]? =some u->W.cell? ((⟨b4,0,none⟩:Addr).add j)=some u:=eZ Ax 0 _ ⟨[],aa⟩;have RDL:∀ (j:Nat) (u:Value),[Value.slice rp N rc,.slice up n uc2][j]? =some u->W.cell? ((⟨b6,0,none⟩:Addr).add j)=some u:=eZ hc6 0 _ ⟨[],aa⟩;have RDQ:∀ (j:Nat) (u:Value),[.bool s1,.slice p1 n1 c1,.bool t1,.slice y1 m1 d1][j]? =some u->W.cell? ((⟨b9',0,none⟩:Addr).add j)=some u:=eZ hc9 0 _ ⟨[],aa⟩;refine bJ ?_;refine VO.read aa [.bool S.1,.slice sp S.2.1.length sc,.bool S.2.2.1,.slice sr S.2.2.2.length sd,.bool F.1,.slice fp F.2.1.length fc,.bool F.2.2.1,.slice fr F.2.2.2.length fd,.int .i64 keep] aa RDR (wV aa ?_);refine bJ ?_;refine VO.read aa [.slice rp N rc,.slice up n uc2] aa RDL (wV aa ?_);refine bJ ?_;obtain⟨kb,hkb⟩:∃ b,ur S F keep l X=b:=⟨_,aa⟩;refine VO.cB aa aa (fk Tryz.func23) (λjS na jI=>Ll _ _ _ _ S F keep l X jS (Og.kp (Kp.of (U:=UU) jI)) hS hF (hlW.bI (bg 3) jI) ((hXW.mono ab).bI jI) ab ab kb hkb) (λjS na jI w7 ta rB _ Ct=>wV aa ?_);refine bJ ?_;refine VO.read aa [.bool S.1,.slice sp S.2.1.length sc,.bool S.2.2.1,.slice sr S.2.2.2.length sd,.bool F.1,.slice fp F.2.1.length fc,.bool F.2.2.1,.slice fr F.2.2.2.length fd,.int .i64 keep] aa RDR (wV aa ?_);refine bJ ?_;refine VO.call aa aa (fk Tryz.func18) (λpV yn ru=>(DY _ S F keep 3 pV (Og.kp (Kp.of (U:=UU) ru)) hS hF ab).mono ?_);rintro e w8 ⟨r8,rfl,hR8,vG⟩;obtain⟨Ry,Rz,RA,RB,RD,RE,RF,RG,rfl,g1,g2⟩:=hR8;refine eC vG ?_;intro vP _ KW;refine VO.call aa aa (fk Tryz.func19) (λRs Yu Rt=>(DZ _ l 3 Rs (hlW.bI (bg 3) Rt) ab ab).mono ?_);rintro e w9 ⟨r9,rfl,hY9,Sg⟩;obtain⟨yp,yc,rfl⟩:=hY9.form;refine eC Sg ?_;intro Jp _ bb9;refine VO.read aa [.slice rp N rc,.slice up n uc2] aa RDL (wV aa ?_);refine bJ ?_;refine VO.call aa aa (fk Tryz.func22) (λnb rC qV=>(ve _ _ X 3 nb (hXW.bI qV) ab ab ab).mono ?_);rintro e Yv ⟨r10,u10,rfl,l1,l2,xk⟩;obtain⟨p10,c10,rfl⟩:=l1.form;obtain⟨q10,d10,rfl⟩:=l2.form;refine eC xk ?_;intro kf _ Hv;have hR8':∀ w',bQ (xX Tryz.prog W 117).K w8 w'->fY w' (.agg #[.bool S.1,.slice Ry S.2.1.length Rz,.bool S.2.2.1,.slice RA S.2.2.2.length RB,.bool F.1,.slice RD F.2.1.length RE,.bool F.2.2.1,.slice RF F.2.2.2.length RG,.int .i64 keep]) S F keep:=λw' k=>⟨_,_,_,_,_,_,_,_,aa,g1.kp k.nD,g2.kp k.nD⟩;refine VO.cB aa aa (fk Tryz.func29) (λrD tK xm=>QZ _ _ _ _ S F keep l X rD (hR8' _ ((Jp.aR kf).aR tK)) hS hF ((hY9.kp (bg 3) (kf.aR tK) aa).sl (bg 3)) ((show pd 3 rD _ _ X from ⟨(l1.kp (dV 3) tK aa).sl (dV 3),(l2.kp (df 3) tK aa).sl (df 3)⟩).mono ab) ab ab kb hkb) (λrD tK xm w11 Cu qe _ Qc=>wV aa ?_);refine bJ ?_;refine VO.fix 107 aa (au (λb=>AV.val (.bool b)) (show (kb == kb)=true by cases kb <;> rfl)) ?_;refine bJ ?_;refine VO.read aa [.slice rp N rc,.slice up n uc2] aa RDL (wV aa ?_);refine bJ ?_;refine VO.cR aa aa (fk Tryz.func15) (λsU yo vQ=>VH _ _ X vt 3 sU (hXW.bI vQ) ab ab) (λsU yo vQ w12 s12 p12 n12 c12 t12 y12 m12 d12 q12 Cv tL _ Qd=>wV aa ?_);refine bJ ?_;refine VO.read aa [.bool s1,.slice p1 n1 c1,.bool t1,.slice y1 m1 d1] aa RDQ (wV aa ?_);refine bJ ?_;refine VO.cB aa aa (fk Tryz.func30) (λyq Hw xn=>Xp (VG vt X.2) _ _ yq (q12.rd.kp Hw.nD) (q1.kp (Kp.of (U:=UU) xn))) (λyq Hw xn vI Xi Cw _ bb13=>wV aa ?_);refine bJ ?_;refine VO.cB aa aa (fk nM) (λxo zy vR=>dR xo) (λxo zy vR NA hb14 Mh _ bb14=>wV aa ?_);refine bJ ?_;refine rh ?_;intro wz kz bz;exact⟨aa,aU.aR b9 bz⟩
end
section
open Go.RowKit
def backOk (full:Array Oper):Bool:=(List.range full.size).all λj=>(eb full j).all (λd=>Nat.blt d j)
section
variable {C:Cx} {full:Array Oper} {ml:List FuncId} {Q:Exit->Act->World->Prop}
def left (listed:Array Bool) (σ:List Nat):List Nat:=σ.filter λx=> !listed.getD x true
theorem BM {listed:Array Bool} {i x:Nat} (hx:x≠i) (b:Bool):(listed.setIfInBounds i true).getD x b=listed.getD x b:=by
 rw[gl,zY,if_neg (λe=>hx e.symm),<-gl]
theorem Lp {listed:Array Bool} {i:Nat} {pre post:List Nat} (Ye:(pre++i::post).Nodup) (hi:listed.getD i true=false) (his:i<listed.size):
  left listed (pre++i::post)=left listed pre++i::left listed post/\left (listed.setIfInBounds i true) (pre++i::post)=left listed pre++left listed post:=by
 have h1:=JP.1 Ye;have h2:=JS.1 h1.2.1
 have hq:∀ l:List Nat,i∉l->left (listed.setIfInBounds i true) l=left listed l:=λl hl=>by
  unfold left;refine List.filter_congr λx hx=> ?_;rw[BM (x:=x) (λe=>hl (by rw[<-e];exact hx))]
 have hp:i∉pre:=λe=>h1.2.2 i e i bN aa;constructor
 ·unfold left;rw[Gg,Oi (by simp[hi])]
 ·show List.filter _ _=_;rw[Gg,JG (by simp[Array.getD_eq_getD_getElem?,Array.getElem?_setIfInBounds,his])]
  congr 1
  ·exact hq pre hp
  ·exact hq post h2.1
theorem Lq {n:Nat} {σ:List Nat} (h:∀ i∈σ,i<n):left (Array.replicate n false) σ=σ:=by
 unfold left;rw[List.filter_eq_self];intro i hi;simp[Array.getD_eq_getD_getElem?,Array.getElem?_replicate,h i hi]
end
def Yf (B:List Nat) (A p i:Nat):Bool:=(Nat.beq p A && B.contains i) || (Nat.beq i A && B.contains p)
def Ns (su:TypeId->Bool) (ml:List FuncId) (full:Array Oper) (B:List Nat) (A:Nat):List Nat->List Nat->Bool
 | _,[]=>true
 | pre,i::r=>pre.all (λp=>mW su ml full p i || Yf B A p i) && Ns su ml full B A (i::pre) r
theorem VW {su:TypeId->Bool} {ml:List FuncId} {full:Array Oper} {B:List Nat} {A i:Nat} {post:List Nat}:∀ {pre Yg:List Nat},Ns su ml full B A Yg (pre++i::post)=true->∀ p,p∈pre\/p∈Yg->mW su ml full p i=true\/Yf B A p i=true
 | [],Yg,h,p,hp=>by
   have h':Ns su ml full B A Yg (i::post)=true:=h;unfold Ns at h';rw[gf] at h';have:=bR.1 h'.1 p (hp.elim (λe=>by cases e) id);rw[JR] at this;exact this
 | q::pre,Yg,h,p,hp=>by
   have h':Ns su ml full B A Yg (q::(pre++i::post))=true:=h;unfold Ns at h';rw[gf] at h';refine VW (pre:=pre) h'.2 p ?_;rcases hp with e|e
   ·rcases dW.1 e with e|e
    ·exact .inr (by simp[e])
    ·exact .inl e
   ·exact .inr (by simp[e])
def yf (su:TypeId->Bool) (ml:List FuncId) (o:Oper):Bool:=match o.op with
 | .call _=>false
 | .buildSlice t _ _=> !su t
 | .store _ _ _=>true
 | _=>Nat.ble (aC su ml o) 2
theorem Rc {C:Cx} {full:Array Oper} {F:Fr} {H:Hp} {ml:List FuncId} {o:Oper} {d:kH} (h:yf C.SU ml o=true) (e:stepOf C full F H o=.call d):False:=by
 rcases qS e with e|e|e
 ·cases e
 ·cases e
 ·by_cases hs:∃ t x y,o.op=.store t x y
  ·obtain⟨t,x,y,hop⟩:=hs;unfold act at e;rw[hop] at e
   dsimp only at e
   split at e
   ·split at e
    ·exact (Plain.qO _ _ _ _ _ _).UL e
    ·cases e
   ·split at e
    ·unfold Ko at e;cases hb:(Nat.beq (cellsOf _).length _ && (cellsOf _).all aY) <;> rw[hb] at e <;> cases e
    ·cases e
   ·cases e
  ·unfold yf at h;rcases AO e with ⟨c,f,g,first,l,cap,hop,jG,_⟩|⟨vs,_,_,⟨t,n,ps,hop,LQ⟩|h5⟩
   ·rw[hop] at h;cases h
   ·rw[hop] at h;simp only[LQ] at h;cases h
   ·have h6:=h5 C.SU ml
    split at h
    ·cases h
    ·rename_i t n ps hop;unfold aC at h6;rw[hop] at h6;simp only[Bool.not_eq_true'] at h;simp only[h,cond_false] at h6;omega
    ·rename_i e';exact hs ⟨_,_,_,e'⟩
    ·have h7:=bM h;omega
section
variable {C:Cx} {full:Array Oper} {ml:List FuncId} {Q:Exit->Act->World->Prop}
variable {F:Fr} {K:Fr->Hp->World->Prop} {H:Hp} {B:List Nat} {A i:Nat} {w:World}
theorem TV (hC:C.Ok) (gS:∀ j,j<full.size->∀ d∈eb full j,d<j) {σ:List Nat} (hσ:Ns C.SU ml full B A [] σ=true) (Ye:σ.Nodup) {listed:Array Bool} (hsz:listed.size=full.size)
  (kX:∀ j,j<full.size->listed.getD j true=true->∀ d∈eb full j,listed.getD d false=true) (hL:Live C F H w)
  {o:Oper} (ho:full[i]? =some o) (mA:i<full.size) (AW:listed.getD i true=false) (Dv:∀ d∈eb full i,listed.getD d false=true) (his:i∈σ) (hno:∀ pre post,σ=pre++i::post->∀ p∈pre,Yf B A p i=true->listed.getD p true=true)
  (h:aG C (some ml) full ((left listed σ).filterMap (full[·]?)) K F H w):one C (some ml) full o (aG C (some ml) full ((left (listed.setIfInBounds i true) σ).filterMap (full[·]?)) K) F H w:=by
 obtain⟨pre,post,rfl⟩:=Gf his;obtain⟨e1,e2⟩:=Lp Ye AW ab;rw[e2];rw[e1] at h
 have hb:aG C (some ml) full (o::((left listed pre).filterMap (full[·]?)++(left listed post).filterMap (full[·]?))) K F H w:=by
  refine Ss hC _ F H w (λq hq=> ?_) hL (by
   rw[Ue,Ub ho] at h;exact h)
  obtain⟨p,hp,Dw⟩:=List.mem_filterMap.1 hq;obtain⟨hp1,hp2⟩:=rP.1 hp;rw[Bool.not_eq_true'] at hp2
  have hno':listed.getD p false=false:=by
   by_cases hps:p<listed.size
   ·rw[gl] at hp2 ⊢;rw[mH hps] at hp2 ⊢;exact hp2
   ·rw[gl,Array.getElem?_eq_none ab];rfl
  rcases VW hσ p (.inl hp1) with e|e
  ·unfold mW at e;rw[Dw,ho] at e;simp only[Bool.or_eq_true] at e;rcases e with e|e
   ·exact e
   ·have:=kK gS kX hsz full.size i mA Dv e;rw[hno'] at this;cases this
  ·have:=hno pre post aa p hp1 e;rw[hp2] at this;cases this
 rw[Ue];exact hb
theorem one_all {ι:Type} {X:ι->Prop} {o:Oper} (hn:yf C.SU ml o=true) (t0:ι) (h0:X t0) {k:ι->Fr->Hp->World->Prop} (h:∀ t,X t->one C (some ml) full o (k t) F H w):one C (some ml) full o (λF H w=>∀ t,X t->k t F H w) F H w:=by
 rcases iE (C:=C) (stepOf C full F H o) with hp|⟨Ψp,up,hp⟩|⟨d,hp⟩
 ·have h1:=h t0 h0;unfold one at h1;rw[hp] at h1;exact h1.elim
 ·obtain⟨x,hx,_⟩:=(dH hp).1 (h t0 h0);refine (dH hp).2 ⟨x,hx,λt ht=> ?_⟩;obtain⟨y,hy,h2⟩:=(dH hp).1 (h t ht);rw[<-Ck hp hx hy] at h2;exact h2
 ·exact (Rc hn hp).elim
def rH (B M R:List Nat) (A:Nat) (T:Nat->Bool):List Nat:=(B.filter T++M)++A::(B.filter (λb=> !T b)++R)
variable {X Y pre:List Nat}
theorem ahead_no {post:List Nat} {b:Nat} (hn:(X++A::Y).Nodup) (e:X++A::Y=pre++b::post) (hA:A∈pre):b∉X:=by
 intro hb;obtain⟨p1,p2,rfl⟩:=Gf hA;rw[fu,pL] at e
 have key:∀ (X p1:List Nat) (Y Z:List Nat),(X++A::Y).Nodup->X++A::Y=p1++A::Z->X=p1/\Y=Z:=by
  intro X
  induction X with
  | nil=>
    intro p1 Y Z hn e;cases p1 with
    | nil=>simp at e;exact⟨aa,e⟩
    | cons q p1=>
      simp only[List.nil_append,List.cons_append,List.cons.injEq] at e;obtain⟨rfl,rfl⟩:=e;simp at hn
  | cons q X ih=>
    intro p1 Y Z hn e;cases p1 with
    | nil=>
      simp only[List.nil_append,List.cons_append,List.cons.injEq] at e;obtain⟨rfl,rfl⟩:=e;simp at hn
    | cons q' p1=>
      simp only[List.cons_append,List.cons.injEq] at e;obtain⟨rfl,e⟩:=e;rw[pL,JS] at hn;obtain⟨h1,h2⟩:=ih p1 Y Z hn.2 e;exact⟨by rw[h1],h2⟩
 obtain⟨rfl,rfl⟩:=key X p1 Y _ hn e;have h1:=(JP.1 hn).2.2 b hb b bN;exact h1 aa
theorem Yh {post:List Nat} {b:Nat} (hn:(X++A::Y).Nodup) (e:X++A::Y=pre++A::post) (hb:b∈pre):b∈X:=by
 by_cases h:b∈X
 ·exact h
 ·exfalso;obtain⟨p1,p2,rfl⟩:=Gf hb;have xe:=hn;rw[e] at xe
  have hbA:b≠A:=λe'=>by
   subst e';have:=(JP.1 xe).2.2 b bN b bN;exact this aa
  have hbY:b∈Y:=by
   have:b∈X++A::Y:=by rw[e];simp
   rcases gg.1 this with h' |h'
   ·exact absurd h' h
   ·exact (dW.1 h').resolve_left hbA
  obtain⟨y1,y2,rfl⟩:=Gf hbY;have e3:X++A::(y1++b::y2)=(X++A::y1)++b::y2:=bN;have e4:p1++b::p2++A::post=p1++b::(p2++A::post):=bN;rw[e3,e4] at e;have XE:((X++A::y1)++b::y2).Nodup:=by rw[<-e3];exact hn
  have:b∉X++A::y1:=λhm=>(JP.1 XE).2.2 b hm b bN aa;have hA1:A∉p1:=λhm=>(JP.1 xe).2.2 A (by simp[hm]) A bN aa;rcases List.append_eq_append_iff.1 e with ⟨a,h1,h2⟩|⟨c,h1,h2⟩
  ·apply hA1;rw[h1];simp
  ·cases c with
   | nil=>
     simp at h1;apply hA1;rw[<-h1];simp
   | cons q c=>
     rw[pL,List.cons.injEq] at h2;obtain⟨rfl,h2⟩:=h2;apply this;rw[h1];simp
def VX (su:TypeId->Bool) (ml:List FuncId) (full:Array Oper) (B:List Nat) (A:Nat) (σ:List Nat):Bool:=
 Ns su ml full B A [] σ && (decide σ.Nodup && (σ.all (λi=>Nat.blt i full.size) && (List.range full.size).all (λi=>σ.contains i)))
variable {M R:List Nat} {T:Nat->Bool}
theorem ordT_mem (h:i∈rH B M R A T):i∈B++M\/i=A\/i∈R:=by
 unfold rH at h;simp only[List.mem_append,List.mem_cons,List.mem_filter] at h ⊢;rcases h with (h|h)|h|h|h
 ·exact .inl (.inl h.1)
 ·exact .inl (.inr h)
 ·exact .inr (.inl h)
 ·exact .inl (.inl h.1)
 ·exact .inr (.inr h)
theorem Yi (hC:C.Ok) (gS:∀ j,j<full.size->∀ d∈eb full j,d<j) (B M R:List Nat) (A:Nat) (oc:∀ T,VX C.SU ml full B A (rH B M R A T)=true) (il:∀ i∈B++M,∀ o,full[i]? =some o->yf C.SU ml o=true) (hR:∀ r∈R,reach full full.size r A=true) (hAB:A∉B)
  (hQ:∀ β F H w a w',K F H w->Rel C β F H a w'->bQ C.K w w'->Q .normal a w'):
  ∀ (fuel:Nat) (listed:Array Bool) (β:Nat->Nat) (F:Fr) (H:Hp) (w:World) (a:Act) (w':World),listed.size=full.size->(left listed (List.range full.size)).length<=fuel->
    (∀ j,j<full.size->listed.getD j true=true->∀ d∈eb full j,listed.getD d false=true)->
    (listed.getD A true=false->∀ T:Nat->Bool,(∀ b∈B,listed.getD b true=true->T b=true)->aG C (some ml) full ((left listed (rH B M R A T)).filterMap (full[·]?)) K F H w)->
    (∃ T,aG C (some ml) full ((left listed (rH B M R A T)).filterMap (full[·]?)) K F H w)->
    Rel C β F H a w'->bQ C.K w w'->wpAny C.P .any full Q fuel listed a w':=by
 have hch:∀ T,Ns C.SU ml full B A [] (rH B M R A T)=true/\(rH B M R A T).Nodup/\(∀ i∈rH B M R A T,i<full.size)/\∀ i,i<full.size->i∈rH B M R A T:=λT=>by
  have h:=oc T;unfold VX at h;simp only[Bool.and_eq_true,decide_eq_true_iff] at h;exact⟨h.1,h.2.1,λi hi=>bM (bR.1 h.2.2.1 i hi),λi hi=>by simpa using bR.1 h.2.2.2 i (qG.2 hi)⟩
 have Xh:∀ (listed:Array Bool) (β:Nat->Nat) (F:Fr) (H:Hp) (w:World) (a:Act) (w':World),(∀ i,i<full.size->listed.getD i true=true)->
   (∃ T,aG C (some ml) full ((left listed (rH B M R A T)).filterMap (full[·]?)) K F H w)->Rel C β F H a w'->bQ C.K w w'->Q .normal a w':=by
  intro listed β F H w a w' gJ ⟨T,h⟩ hr hk
  have hz:left listed (rH B M R A T)=[]:=by
   unfold left;rw[List.filter_eq_nil_iff];intro i hi;rw[gJ i ((hch T).2.2.1 i hi)];simp
  rw[hz] at h;exact hQ β F H w a w' h hr hk
 have hnon:∀ (listed:Array Bool),listed.size=full.size->(∀ j,j<full.size->listed.getD j true=true->∀ d∈eb full j,listed.getD d false=true)->Region.ready .any full listed=[]->∀ i,i<full.size->listed.getD i true=true:=by
  intro listed hsz kX wZ i
  induction i using Nat.strongRecOn with
  | _ i ihh=>
    intro hi;cases hl:listed.getD i true with
    | true=>rfl
    | false=>
      exfalso
      have:i∈Region.ready .any full listed:=mem_ready.2 ⟨hi,hl,λd hd=>by
       have hdi:=gS i hi d hd;have h1:=ihh d hdi ab;rw[gl] at h1 ⊢;rw[mH (show d<listed.size by omega)] at h1 ⊢;exact h1⟩
      rw[wZ] at this;cases this
 intro fuel
 induction fuel with
 | zero=>
   intro listed β F H w a w' hsz hlen kX h1 h3 hr hk
   have gJ:∀ i,i<full.size->listed.getD i true=true:=λi hi=>by
    cases hl:listed.getD i true with
    | true=>rfl
    | false=>
      have:i∈left listed (List.range full.size):=rP.2 ⟨qG.2 hi,by rw[hl];rfl⟩;rw[js (Nat.le_zero.1 hlen)] at this;cases this
   refine⟨?_,Xh listed β F H w a w' gJ h3 hr hk⟩;rw[CS];intro i hi;have:=mem_ready.1 hi;rw[gJ i this.1] at this;exact absurd this.2.1 bN
 | succ fuel ih=>
   intro listed β F H w a w' hsz hlen kX h1 h3 hr hk;constructor
   ·intro wZ;exact Xh listed β F H w a w' (hnon listed hsz kX wZ) h3 hr hk
   ·intro i hi;obtain⟨mA,AW,Dv⟩:=mem_ready.1 hi;have ho:=mH mA;generalize full[i]=o at ho;have hL:=Live.of hr hk;have SZ:(listed.setIfInBounds i true).getD i true=true:=by simp[Array.getD_eq_getD_getElem?,Array.getElem?_setIfInBounds,hsz,mA]
    have hmono:∀ z,listed.getD z true=true->(listed.setIfInBounds i true).getD z true=true:=λz hz=>by
     by_cases e:z=i
     ·rw[e];exact SZ
     ·rw[BM e];exact hz
    have vO:one C (some ml) full o (λF' H' w'=>((listed.setIfInBounds i true).getD A true=false->∀ T:Nat->Bool,(∀ b∈B,(listed.setIfInBounds i true).getD b true=true->T b=true)->aG C (some ml) full ((left (listed.setIfInBounds i true) (rH B M R A T)).filterMap (full[·]?)) K F' H' w')/\
      ∃ T,aG C (some ml) full ((left (listed.setIfInBounds i true) (rH B M R A T)).filterMap (full[·]?)) K F' H' w') F H w:=by
     cases hA:listed.getD A true with
     | true=>
       obtain⟨T,hT⟩:=h3;refine tD hC hL (TV hC gS (hch T).1 (hch T).2.1 hsz kX hL ho mA AW Dv ((hch T).2.2.2 i mA) (λpre post e p hp hx=> ?_) hT) λF' H' w' _ hv=>⟨λe=>(by rw[hmono A hA] at e;cases e),T,hv⟩;unfold Yf at hx;simp only[Bool.or_eq_true,Bool.and_eq_true,Nat.beq_eq] at hx;rcases hx with ⟨rfl,_⟩|⟨rfl,_⟩
       ·exact hA
       ·rw[AW] at hA;cases hA
     | false=>
       have hv:=h1 hA;by_cases hiA:i=A
       ·subst hiA;have hv0:=hv (λb=>listed.getD b true) (λb _ h=>h);refine tD hC hL (TV hC gS (hch _).1 (hch _).2.1 hsz kX hL ho mA AW Dv ((hch _).2.2.2 i mA) (λpre post e p hp hx=> ?_) hv0) λF' H' w' _ hv=>⟨λe=>(by rw[SZ] at e;cases e),_,hv⟩;unfold Yf at hx;simp only[Bool.or_eq_true,Bool.and_eq_true,Nat.beq_eq,List.contains_iff_mem] at hx;rcases hx with ⟨_,hx⟩|⟨_,hx⟩
        ·exact absurd hx hAB
        ·have Ye:=(hch (λb=>listed.getD b true)).2.1;unfold rH at e Ye;have hX:=Yh Ye e hp;cases hl:listed.getD p true with
         | true=>rfl
         | false=>
           exfalso;have hY:p∈B.filter (λb=> !listed.getD b true):=rP.2 ⟨hx,by rw[hl];rfl⟩;exact (JP.1 Ye).2.2 p hX p (qE _ (Aa _ hY)) aa
       ·have hcall:yf C.SU ml o=true:=by
         rcases ordT_mem ((hch (λ_=>true)).2.2.2 i mA) with e|e|e
         ·exact il i e o ho
         ·exact absurd e hiA
         ·have:=kK gS kX hsz full.size i mA Dv (hR i e);by_cases hs:A<listed.size
          ·rw[gl] at this hA;rw[mH hs] at this hA;rw[show listed[A]=true from this] at hA;cases hA
          ·rw[gl,Array.getElem?_eq_none ab] at this;cases this
        refine tD hC hL (one_all (X:=λT:Nat->Bool=>∀ b∈B,(listed.setIfInBounds i true).getD b true=true->T b=true) hcall (λ_=>true) (λ_ _ _=>aa) λT hT=>TV hC gS (hch T).1 (hch T).2.1 hsz kX hL ho mA AW Dv ((hch T).2.2.2 i mA) (λpre post e p hp hx=> ?_) (hv T λb hb hl=>hT b hb (hmono b hl))) λF' H' w' _ hv=>⟨λ_=>hv,λ_=>true,hv _ λ_ _ _=>aa⟩;unfold Yf at hx;simp only[Bool.or_eq_true,Bool.and_eq_true,Nat.beq_eq,List.contains_iff_mem] at hx;rcases hx with ⟨rfl,hx⟩|⟨e',_⟩
        ·exfalso;have Ye:=(hch T).2.1;unfold rH at e Ye;refine ahead_no Ye e hp (Aa _ (rP.2 ⟨hx,hT i hx SZ⟩))
        ·exact absurd e' hiA
    have:=mj (Q:=Q) (next:=wpAny C.P .any full Q fuel (listed.setIfInBounds i true)) hC vO hr hk λdA F' H' w1 a' xM g1 g2 g3=>by
     refine ih (listed.setIfInBounds i true) dA F' H' w1 a' xM (by simp[hsz]) ?_ ?_ g1.1 g1.2 g2 g3
     ·obtain⟨pre,post,e⟩:=Gf (qG.2 mA);have Ye:(pre++i::post).Nodup:=e▸List.nodup_range;obtain⟨e1,e2⟩:=Lp Ye AW ab;rw[e,e1] at hlen;rw[e,e2];simp at hlen ⊢;omega
     ·intro j hj hl d hd
      have mD:listed.getD d false=true->(listed.setIfInBounds i true).getD d false=true:=λe=>by
       by_cases hx:d=i
       ·subst hx;simp[Array.getD_eq_getD_getElem?,Array.getElem?_setIfInBounds,hsz,mA]
       ·rw[BM hx];exact e
      by_cases hx:j=i
      ·subst hx;exact mD (Dv d hd)
      ·rw[BM hx] at hl;exact mD (kX j hj hl d hd)
    unfold wpOp;rw[ho];simp only
    split
    ·rename_i hw;rw[if_pos hw] at this;exact .inl this
    ·rename_i hw;rw[if_neg hw] at this;exact this
theorem Re {x y:Nat} (h:Nat.beq y x=false):rH [x,y] M R A T=rH [x,y] M R A (λn=>bif Nat.beq n x then T x else T y):=by
 have hx:Nat.beq x x=true:=Nat.beq_refl x;have e1:List.filter T [x,y]=List.filter (λn=>bif Nat.beq n x then T x else T y) [x,y]:=by simp only[List.filter_cons,List.filter_nil,h,hx,cond_true,cond_false]
 have e2:List.filter (λb=> !T b) [x,y]=List.filter (λb=> !(bif Nat.beq b x then T x else T y)) [x,y]:=by simp only[List.filter_cons,List.filter_nil,h,hx,cond_true,cond_false]
 unfold rH;rw[e1,e2]
def famAll (su:TypeId->Bool) (ml:List FuncId) (full:Array Oper) (B M R:List Nat) (A:Nat):Bool:=
 backOk full && ((B++M).all (λi=>match full[i]? with|some o=>yf su ml o|none=>true) && (R.all (λr=>reach full full.size r A) && !B.contains A))
theorem VS.drawT {k:List It} (hC:C.Ok) (hm:C.P.follows .mixedOrders=true) {id:Nat} {ops:Array Oper} (ml:List FuncId) (B M R:List Nat) (A:Nat) (gJ:famAll C.SU ml ops B M R A=true) (oc:∀ T,VX C.SU ml ops B A (rH B M R A T)=true)
  (h:∀ T,aG C (some ml) ops ((rH B M R A T).filterMap (ops[·]?)) (VS C Q k) F H w):VS C Q (.code (.region id ops true)::k) F H w:=λβ a w' hr hk=>by
 unfold famAll at gJ;simp only[Bool.and_eq_true,Bool.not_eq_true'] at gJ;obtain⟨hb,hc,hR,hA⟩:=gJ;have gS:∀ j,j<ops.size->∀ d∈eb ops j,d<j:=λj hj d hd=>bM (bR.1 (bR.1 hb j (qG.2 hj)) d hd)
 have hz:∀ T,left (Array.replicate ops.size false) (rH B M R A T)=rH B M R A T:=λT=>Lq λi hi=>by
  have h:=oc T;unfold VX at h;simp only[Bool.and_eq_true] at h;exact bM (bR.1 h.2.2.1 i hi)
 refine wp_region_any hm ?_;refine Yi (K:=VS C Q k) hC gS B M R A oc (λi hi o ho=> ?_) (λr hr=>bR.1 hR r hr) (λe=> ?_) (λβ F H w a w' h hr hk=>h β a w' hr hk) ops.size (Array.replicate ops.size false) β F H w a w'.drew bN ?_ ?_ ?_ ?_ hr.drew hk.drew
 ·have:=bR.1 hc i hi;rw[ho] at this;exact this
 ·rw[List.contains_iff_mem.2 e] at hA;cases hA
 ·rw[Lq (λi hi=>qG.1 hi),List.length_range];exact bL _
 ·intro j hj hl;simp[Array.getD_eq_getD_getElem?,Array.getElem?_replicate,hj] at hl
 ·intro _ T _;rw[hz T];exact h T
 ·exact⟨λ_=>true,by rw[hz];exact h _⟩
end
end
end Go.Proofs.YtabalinjfgcfeaaGreat
