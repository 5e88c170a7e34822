/- Di of the proof,laid behind one another. -/
import Derived.Test.YtabalinjfgcfeaaGreatKInterestRuns6
set_option linter.all false
set_option maxHeartbeats 64000000
set_option maxRecDepth 4000
namespace Go.Proofs.YtabalinjfgcfeaaGreat
section
open Go.RowKit
attribute [local irreducible] aB VS
theorem VS.hop {C:Cx} {Q:Exit->Act->World->Prop} {F:Fr} {H:Hp} {w:World} {P:Fr->Hp->World->Prop} {SD SE:List It} (h1:(∀ F' H' w',P F' H' w'->VS C Q SE F' H' w')->VS C Q SD F H w) (h2:∀ F' H' w',P F' H' w'->VS C Q SE F' H' w'):VS C Q SD F H w:=h1 h2
theorem gE.of {α β:Type} {E:World->List Value->α->Prop} {sz:Nat} (hE:gE E sz) (f:β->α):gE (fun w cs b=>E w cs (f b)) sz where
 kp:=fun h k=>hE.kp h k
 len:=fun h=>hE.len h
 ok:=fun h=>hE.ok h
def wq (kk:Nat) (w:World) (cs:List Value) (q:Rat):Prop:=Rw kk w cs (qB q)
def Gj (kk:Nat) (w:World) (cs:List Value) (r:aL):Prop:=∃ a b c d e f g,cs=a++(b++(c++(d++(e++(f++g)))))/\wq kk w a r.bn/\wq kk w b r.allowed/\wq kk w c r.aI/\wq kk w d r.used/\wq kk w e r.ay/\wq kk w f r.aq/\wq kk w g r.closing
def LY (kk:Nat) (w:World) (cs:List Value) (e:Uq):Prop:=∃ a,cs=[.int .i64 (e.1:Int),.int .i64 (e.2.1:Int)]++a/\wq kk w a e.2.2
theorem bl (kk:Nat):gE (wq kk) 4:=(TP kk).of qB
theorem cz (kk:Nat):gE (Gj kk) 28:=(dK kk).of Tt
theorem ir (kk:Nat):gE (LY kk) 6:=(eP kk).of Tu
theorem dV {kk:Nat} {w:World} {s t:Bool} {p u:Option Addr} {a c b d:Nat} {q:Rat} (h:bI w (.agg #[.bool s,.slice p a c,.bool t,.slice u b d]) q) (hs:eM q kk):wq kk w [.bool s,.slice p a c,.bool t,.slice u b d] q:=⟨h.LR,pY hs⟩
theorem wq.opn {kk:Nat} {w:World} {cs:List Value} {q:Rat} (h:wq kk w cs q):∃ s p n c t y m d,cs=[.bool s,.slice p n c,.bool t,.slice y m d]/\wq kk w [.bool s,.slice p n c,.bool t,.slice y m d] q:=by
 obtain ⟨⟨p,c,r,d,rfl,h1⟩,h2⟩:=h
 exact ⟨_,_,_,_,_,_,_,_,rfl,⟨p,c,r,d,rfl,h1⟩,h2⟩
theorem wq.inq {kk:Nat} {w:World} {s t:Bool} {p u:Option Addr} {a c b d:Nat} {q:Rat} (h:wq kk w [.bool s,.slice p a c,.bool t,.slice u b d] q):bA w (.agg #[.bool s,.slice p a c,.bool t,.slice u b d]) q kk:=by
 obtain ⟨⟨p',c',r',d',hv,h1⟩,h2⟩:=h
 simp only [List.cons.injEq,Value.bool.injEq,Value.slice.injEq,and_true] at hv
 obtain ⟨rfl,⟨rfl,rfl,rfl⟩,rfl,rfl,rfl,rfl⟩:=hv
 have:=h1.iE h2
 rwa [xZ] at this
theorem wq.kp {T:TypeId->Bool} {kk:Nat} {w w':World} {cs:List Value} {q:Rat} (h:wq kk w cs q) (k:bt ⟨UU,fun _=>True,T⟩ w w'):wq kk w' cs q:=Rw.kp h k
theorem Gj.opn {kk:Nat} {w:World} {cs:List Value} {r:aL} (h:Gj kk w cs r):∃ yB yC yD yG yH yI yJ yK yL yM yO yP yQ yR yT yU yV yW yX yY yZ za zb zc zd ze zf zg zh zi zj zl zm zn zo zp zt zu zv zw Gk Gl Gm Gn Gp Gq Gr Gs Gt Gu Gv Gw Gx Gy Gz GA,cs=[.bool yB,.slice yC yD yG,.bool yH,.slice yI yJ yK,.bool yL,.slice yM yO yP,.bool yQ,.slice yR yT yU,.bool yV,.slice yW yX yY,.bool yZ,.slice za zb zc,.bool zd,.slice ze zf zg,.bool zh,.slice zi zj zl,.bool zm,.slice zn zo zp,.bool zt,.slice zu zv zw,.bool Gk,.slice Gl Gm Gn,.bool Gp,.slice Gq Gr Gs,.bool Gt,.slice Gu Gv Gw,.bool Gx,.slice Gy Gz GA]/\wq kk w [.bool yB,.slice yC yD yG,.bool yH,.slice yI yJ yK] r.bn/\wq kk w [.bool yL,.slice yM yO yP,.bool yQ,.slice yR yT yU] r.allowed/\wq kk w [.bool yV,.slice yW yX yY,.bool yZ,.slice za zb zc] r.aI/\wq kk w [.bool zd,.slice ze zf zg,.bool zh,.slice zi zj zl] r.used/\wq kk w [.bool zm,.slice zn zo zp,.bool zt,.slice zu zv zw] r.ay/\wq kk w [.bool Gk,.slice Gl Gm Gn,.bool Gp,.slice Gq Gr Gs] r.aq/\wq kk w [.bool Gt,.slice Gu Gv Gw,.bool Gx,.slice Gy Gz GA] r.closing:=by
 obtain ⟨_,_,_,_,_,_,_,rfl,h0,h1,h2,h3,h4,h5,h6⟩:=h
 obtain ⟨yB,yC,yD,yG,yH,yI,yJ,yK,rfl,g0⟩:=h0.opn
 obtain ⟨yL,yM,yO,yP,yQ,yR,yT,yU,rfl,g1⟩:=h1.opn
 obtain ⟨yV,yW,yX,yY,yZ,za,zb,zc,rfl,g2⟩:=h2.opn
 obtain ⟨zd,ze,zf,zg,zh,zi,zj,zl,rfl,g3⟩:=h3.opn
 obtain ⟨zm,zn,zo,zp,zt,zu,zv,zw,rfl,g4⟩:=h4.opn
 obtain ⟨Gk,Gl,Gm,Gn,Gp,Gq,Gr,Gs,rfl,g5⟩:=h5.opn
 obtain ⟨Gt,Gu,Gv,Gw,Gx,Gy,Gz,GA,rfl,g6⟩:=h6.opn
 exact ⟨_,_,_,_,_,_,_,_,_,_,_,_,_,_,_,_,_,_,_,_,_,_,_,_,_,_,_,_,_,_,_,_,_,_,_,_,_,_,_,_,_,_,_,_,_,_,_,_,_,_,_,_,_,_,_,_,rfl,g0,g1,g2,g3,g4,g5,g6⟩
theorem jc {vs:List (List Value)} {sz i:Nat} {new:List Value} {sp:List AV} (h:∀ x∈vs,x.length=sz) (hi:i < vs.length) (ho:new.length=sz):
  (vs.flatten.map AV.val++sp).take (0 + ((i:Nat):Int).toNat * sz)++(new.map AV.val++(vs.flatten.map AV.val++sp).drop (0 + ((i:Nat):Int).toNat * sz + new.length))=(vs.set i new).flatten.map AV.val++sp:=by
 rw [Int.toNat_natCast,Nat.zero_add]
 obtain ⟨x,hx⟩:∃ x,vs[i]? =some x:=⟨_,List.getElem?_eq_getElem hi⟩
 have:=En (o:=0) (new:=new) (sp:=sp) h hx aa
 rw [Nat.add_zero] at this
 rw [this]
 have fw:=h x (List.mem_of_getElem? hx)
 rw [show x.take 0++(new++x.drop (0 + new.length))=new by rw [List.take_zero,List.nil_append,List.drop_of_length_le aa,List.append_nil]]
theorem iB.set {α:Type} {E:World->List Value->α->Prop} {sz n c:Nat} {w w':World} {vs:List (List Value)} {sp:List AV} {es:List α} (hE:gE E sz) (h:iB E sz w n c vs sp es) {i:Nat} {cs:List Value} {a:α} (k:Kp UU w w') (hcs:E w' cs a):iB E sz w' n c (vs.set i cs) sp (es.set i a):=by
 have GG:=h.el.kp hE k
 have hel2:=GG.set (i:=i) hcs
 refine ⟨by rw [List.length_set];exact h.len,hel2,h.so,h.sl,h.le,h.cm,?_⟩
 have hf:=h.fl
 rw [List.length_append,List.length_map,dB (GG.lens hE)] at hf
 rw [List.length_append,List.length_map,dB (hel2.lens hE),List.length_set]
 exact hf
set_option maxRecDepth 8000 in
theorem LZ (v u:Value) (S F:RR) (keep:Int) (kn:Nat) (l:List (RR×RR)) (w:World) (hR:gM w v S F keep) (hS:S.kQ 3) (hF:F.kQ 3) (hl:dp (ue 3) 8 w u l) (fD:vT S F keep l) (hlen:l.length≤12) (rR:keep=(kn:Int)):
  Calls Tryz.prog 20 #[v,u] w fun o w'=>∃ r u',o=.returned (.tuple #[.agg #[r,u'],.int .i64 0])/\iA (Gj 82) 28 108 w.heap.size w' r (FD S.q F.q kn (bX l)).1/\iA (LY 82) 6 106 w.heap.size w' u' (FD S.q F.q kn (bX l)).2/\aM w w':=by
 have hM:=vU hR hS hF hl fD hlen
 obtain ⟨D,hD⟩:∃ D,D=S.q.den * F.q.den * xp (bX l):=⟨_,rfl⟩
 obtain ⟨M0,hM0⟩:∃ M:Rat,M=(((4294967296 ^ 3:Nat):Int):Rat):=⟨_,rfl⟩
 rw [<-hD,<-hM0] at hM
 clear hD hM0
 have Hn:=fD.k1
 have zSe:∀ e∈l,eM (S.q * e.2.q) 82:=fun e he=>by
  obtain ⟨a,b⟩:=TF hl bV e he
  exact ((hR.sz hS hF bV).1.mul b).mono aa
 have hR0:=hR
 obtain ⟨Ma,Mb,Mc,Md,GL,GM,GN,GO,rfl,sY,hfr⟩:=hR
 obtain ⟨pu,cu,rfl,TM,hum⟩:=hl.form
 obtain ⟨N,hN⟩:∃ N,N=l.length:=⟨_,rfl⟩
 rw [<-hN] at hl TM hlen
 rw [<-hN]
 subst rR
 have hkn40:kn≤40:=by omega
 refine ah (C:=bS Tryz.prog w _) (args:=[_,_]) Tryz.func20 rfl Tryz.ntmps20 (bB rfl) ?_
 refine ab ?_
 refine VO.call rfl rfl (fk Tryz.func47) (fun LS ka41 FX=>(Ck _ _ S F (kn:Int) l 3 LS (hR0.kp (Kp.of (U:=UU) FX)) hS hF (hl.bC (dM 3) FX) aa aa true (by rw [fD.rul,fD.yrs];rfl)).mono ?_)
 rintro e w41 ⟨rfl,LU⟩
 skip
 refine ⟨_,rfl,LU,fun kb41 _ bb41=>wV rfl ?_⟩
 refine ab ?_
 refine VS.aQ rfl (decide_eq_false (show ¬ (N:Int) > 40 by omega)) ?_
 refine ab ?_
 refine VO.call rfl rfl (fk Tryz.func25) (fun wa0 ka0 ba0=>(rE wa0).mono ?_)
 rintro e w0 ⟨r0,rfl,q0,qE⟩
 obtain ⟨s0,p0,n0,c0,t0,y0,m0,d0,rfl⟩:=q0.form
 refine ⟨_,rfl,qE,fun kb0 _ bb0=>wV rfl ?_⟩
 refine ab ?_
 refine VS.loop (J:=fun m L M w'=>∃ (z:Nat) (s0 p0 n0 c0 t0 y0 m0 d0:_),z≤N/\m=N - z/\TOk D M0 (runT S.q F.q kn (bX (l.take z)))/\(runT S.q F.q kn (bX (l.take z))).rows.length=z/\bI w' (.agg #[.bool s0,.slice p0 n0 c0,.bool t0,.slice y0 m0 d0]) 0/\
   ((z=0/\L=[(1,.val (.slice pu N cu)),(2,.box 2 0),(4,.box 4 0),(6,.box 6 0),(7,.box 7 0),(8,.val (.slice none 0 0)),(9,.val (.int .i64 (z:Int)))]/\M=[(2,(57,([.bool S.1,.slice Ma S.2.1.length Mb,.bool S.2.2.1,.slice Mc S.2.2.2.length Md,.bool F.1,.slice GL F.2.1.length GM,.bool F.2.2.1,.slice GN F.2.2.2.length GO,.int .i64 (kn:Int)]:List Value).map .val)),(4,(64,[.val (.slice none 0 0),.val (.slice none 0 0)])),(6,(64,[.val (.slice none 0 0),.val (.slice none 0 0)])),(7,(55,([.bool s0,.slice p0 n0 c0,.bool t0,.slice y0 m0 d0]:List Value).map .val))])\/
    (0 < z/\∃ (CB:List (List Value)) (Ai:List AV) (cl:Nat) (kG:List (List Value)) (nt:List AV) (cr:Nat),iB (wq 82) 4 w' z cl CB Ai (runT S.q F.q kn (bX (l.take z))).left/\iB (Gj 82) 28 w' z cr kG nt (runT S.q F.q kn (bX (l.take z))).rows/\
     (((runT S.q F.q kn (bX (l.take z))).uses=[]/\L=[(1,.val (.slice pu N cu)),(2,.box 2 0),(4,.box 4 0),(6,.box 6 0),(7,.box 7 0),(8,.row 115 0 z cl),(9,.val (.int .i64 (z:Int)))]/\M=[(2,(57,([.bool S.1,.slice Ma S.2.1.length Mb,.bool S.2.2.1,.slice Mc S.2.2.2.length Md,.bool F.1,.slice GL F.2.1.length GM,.bool F.2.2.1,.slice GN F.2.2.2.length GO,.int .i64 (kn:Int)]:List Value).map .val)),(4,(64,[.val (.slice none 0 0),.val (.slice none 0 0)])),(6,(64,[.row 129 0 z cr,.val (.slice none 0 0)])),(7,(55,([.bool s0,.slice p0 n0 c0,.bool t0,.slice y0 m0 d0]:List Value).map .val)),(115,(55,CB.flatten.map .val++Ai)),(129,(108,kG.flatten.map .val++nt))])\/
      (∃ (ku:Nat) (xj:List (List Value)) (xY:List AV) (Da:Nat),iB (LY 82) 6 w' ku Da xj xY (runT S.q F.q kn (bX (l.take z))).uses/\L=[(1,.val (.slice pu N cu)),(2,.box 2 0),(4,.box 4 0),(6,.box 6 0),(7,.box 7 0),(8,.row 115 0 z cl),(9,.val (.int .i64 (z:Int)))]/\M=[(2,(57,([.bool S.1,.slice Ma S.2.1.length Mb,.bool S.2.2.1,.slice Mc S.2.2.2.length Md,.bool F.1,.slice GL F.2.1.length GM,.bool F.2.2.1,.slice GN F.2.2.2.length GO,.int .i64 (kn:Int)]:List Value).map .val)),(4,(64,[.val (.slice none 0 0),.val (.slice none 0 0)])),(6,(64,[.row 129 0 z cr,.row 95 0 ku Da])),(7,(55,([.bool s0,.slice p0 n0 c0,.bool t0,.slice y0 m0 d0]:List Value).map .val)),(115,(55,CB.flatten.map .val++Ai)),(129,(108,kG.flatten.map .val++nt)),(95,(106,xj.flatten.map .val++xY))]))))) N
  ⟨_,_,?_,?_,?_,?_,⟨0,s0,p0,n0,c0,t0,y0,m0,d0,by omega,rfl,⟨rfl,fun x hx=>(by cases hx),Nat.zero_le _⟩,rfl,q0.kr,.inl ⟨rfl,rfl,rfl⟩⟩⟩ ?_
 ·exact bT
 ·exact bT
 ·rfl
 ·exact ⟨.vals _,.lit rfl,.lit rfl,.vals _,trivial⟩
 clear q0
 rintro m L M wJ ⟨z,s0,p0,n0,c0,t0,y0,m0,d0,hz,rfl,PS,pc,q0,⟨kN,rfl,rfl⟩ | ⟨kN,CB,Ai,cl,kG,nt,cr,kc,ma,hUd⟩⟩
 ·subst kN
  refine ab ?_
  by_cases hlt:(0:Nat) < N
  ·obtain ⟨e,he⟩:∃ e,l[0]? =some e:=⟨_,List.getElem?_eq_getElem aa⟩
   obtain ⟨j1,j2,j3,j4,j5⟩:=hM.el (e.1.q,e.2.q) (List.mem_map.2 ⟨e,List.mem_of_getElem? he,rfl⟩)
   obtain ⟨b,off,eQ,fN,hc,⟨_,_,rfl,⟨ap,ac,ar,ad,rfl,hae⟩,⟨bp,bc,br,bd,rfl,hbe⟩,hfa,hfb⟩⟩:=hl.at he
   subst fN
   have JZ:=lN S.q F.q e.2.q
   obtain ⟨LM,tY⟩:∃ LM,aw S.q F.q e.2.q=LM:=⟨_,rfl⟩
   dsimp only at j1 j2 j3 j4 j5
   rw [tY] at j1 j2 JZ
   obtain ⟨g1,g2,g3,g4,g5,g6,g7,g8,g9⟩:=np j1 JZ j2 j3 j4 j5
   have GB:=Ew S.q F.q kn (bX (l.take 0)) (e.1.q,e.2.q)
   rw [<-oO he,pc] at GB
   obtain ⟨vZ,wh⟩:=JS (S:=S.q) (F:=F.q) (keep:=kn) (e:=(e.1.q,e.2.q)) PS (by rw [pc];omega) (by dsimp only;rw [tY];exact j1) (by dsimp only;rw [tY];exact j2) j3 j4 j5
   rw [pc] at vZ wh
   rw [<-GB] at vZ wh
   have hIn:=LW.init (keep:=kn) PS pc g7 g8
   obtain ⟨AL,hAL⟩:∃ AL,ae e.1.q LM=AL:=⟨_,rfl⟩
   rw [hAL] at g1 g2 g3 g4 g5 g6 g7 g8 g9 hIn
   have zLM:=hM.sz LM j1 dt dt
   have PT:=hM.sz AL g1 dt dt
   have zDN:=hM.sz _ g4 dt g6
   have zRM:=hM.sz _ g7 dt g9
   obtain ⟨RM,hRM⟩:∃ RM,LM - AL=RM:=⟨_,rfl⟩
   obtain ⟨DN,hDN⟩:∃ DN,e.1.q - AL=DN:=⟨_,rfl⟩
   rw [hRM] at g7 g8 g9 hIn zRM
   rw [hDN] at g4 g5 g6 zDN
   obtain ⟨LF,PU⟩:∃ LF,(runT S.q F.q kn (bX (l.take 0))).left.take (0 - kn)++(qJ (bG (0 - kn) ((runT S.q F.q kn (bX (l.take 0))).left.drop (0 - kn))) RM).map (·.2)=LF:=⟨_,rfl⟩
   obtain ⟨US,PV⟩:∃ US,(runT S.q F.q kn (bX (l.take 0))).uses++rF 0 (bG (0 - kn) ((runT S.q F.q kn (bX (l.take 0))).left.drop (0 - kn))) RM=US:=⟨_,rfl⟩
   obtain ⟨SM,hSM⟩:∃ SM,xd (bG (0 - kn) ((runT S.q F.q kn (bX (l.take 0))).left.drop (0 - kn))) RM=SM:=⟨_,rfl⟩
   rw [PU,PV,hSM] at hIn
   have oW:runT S.q F.q kn (bX (l.take (0 + 1)))=qu kn 0 ⟨LF++[DN],(runT S.q F.q kn (bX (l.take 0))).rows++[⟨LM,AL,DN,SM,AL + SM,0,0⟩],US⟩:=by
    rw [GB]
    unfold mC xe
    dsimp only
    rw [tY,hAL,hRM,hDN,PU,PV,hSM]
   clear GB PU PV hSM
   refine VS.aP rfl (decide_eq_true (Int.ofNat_lt.2 hlt)) ?_
   refine ab ?_
   refine VO.cond rfl du ?_
   refine wV rfl ?_
   refine ab ?_
   refine VO.read rfl [.bool e.2.1,.slice bp e.2.2.1.length bc,.bool e.2.2.2.1,.slice br e.2.2.2.2.length bd] rfl (aN hc 4 _ ⟨[],rfl⟩) (wV rfl ?_)
   refine ab ?_
   refine VO.call rfl rfl (fk Tryz.func49) (fun bF cU bJ=>(tT _ _ S.q e.2.q 3 3 bF ((sY.kp (Kp.of (U:=UU) bJ)).iE hS) ((hbe.kp (Kp.of (U:=UU) bJ)).iE hfb) aa aa).mono ?_)
   rintro e w1 ⟨r1,rfl,q1,aK⟩
   obtain ⟨s1,p1,n1,c1,t1,y1,m1,d1,rfl⟩:=q1.form
   refine ⟨_,rfl,aK,fun dC _ bb1=>wV rfl ?_⟩
   refine ab ?_
   refine VO.eK rfl (fk Tryz.func48) (fun cK β2 eg di DZ=>(tU _ F.q [S.q * e.2.q,0] 82 cK (cX (DZ.own 47 (.base (List.mem_singleton.2 rfl)) _ _ rfl) [] (vs:=[[.bool F.1,.slice GL F.2.1.length GM,.bool F.2.2.1,.slice GN F.2.2.2.length GO],[.bool s1,.slice p1 n1 c1,.bool t1,.slice y1 m1 d1],[.bool s0,.slice p0 n0 c0,.bool t0,.slice y0 m0 d0]]) (by rfl) rfl (bq.cons (((hfr.kp (Kp.of (U:=UU) di)).iE hF).up aa) (bq.cons (q1.ki (zSe e (List.mem_of_getElem? he))) (bq.cons (q0.ki (eM.zero.mono aa)) bq.nil))) (bB rfl) bV) aa (bB rfl)).mono ?_)
   rintro o w2 ⟨r2,rfl,q2,z2,ba⟩
   replace q2:bI w2 r2 (aw S.q F.q e.2.q):=q2
   obtain ⟨s2,p2,n2,c2,t2,y2,m2,d2,rfl⟩:=q2.form
   refine ⟨_,rfl,ba,fun ed _ bb2=>wV rfl ?_⟩
   refine ab ?_
   rw [tY] at q2
   refine VO.cond rfl du ?_
   refine wV rfl ?_
   refine ab ?_
   refine VO.read rfl [.bool e.1.1,.slice ap e.1.2.1.length ac,.bool e.1.2.2.1,.slice ar e.1.2.2.2.length ad] rfl (aN hc 0 _ ⟨_,rfl⟩) (wV rfl ?_)
   refine ab ?_
   refine VO.eK rfl (fk Tryz.func50) (fun fh β3 fE fG CN=>(mA _ e.1.q [LM] 82 fh (cX (CN.own 55 (.base (List.mem_singleton.2 rfl)) _ _ rfl) [] (vs:=[[.bool e.1.1,.slice ap e.1.2.1.length ac,.bool e.1.2.2.1,.slice ar e.1.2.2.2.length ad],[.bool s2,.slice p2 n2 c2,.bool t2,.slice y2 m2 d2]]) (by rfl) rfl (bq.cons (((hae.kp (Kp.of (U:=UU) fG)).iE hfa).up aa) (bq.cons (q2.ki zLM) bq.nil)) (bB rfl) bV) aa (bB rfl)).mono ?_)
   rintro o w3 ⟨r3,rfl,q3,z3,cG⟩
   replace q3:bI w3 r3 (et iR e.1.q [LM]):=q3
   obtain ⟨s3,p3,n3,c3,t3,y3,m3,d3,rfl⟩:=q3.form
   refine ⟨_,rfl,cG,fun gT _ bb3=>wV rfl ?_⟩
   refine ab ?_
   rw [eF,hAL] at q3
   refine VO.cond rfl du ?_
   refine wV rfl ?_
   refine ab ?_
   refine VO.read rfl [.bool e.1.1,.slice ap e.1.2.1.length ac,.bool e.1.2.2.1,.slice ar e.1.2.2.2.length ad] rfl (aN hc 0 _ ⟨_,rfl⟩) (wV rfl ?_)
   refine ab ?_
   refine VO.call rfl rfl (fk Tryz.func51) (fun iP jT jX=>(dy _ _ e.1.q AL 82 82 iP (((hae.kp (Kp.of (U:=UU) jX)).iE hfa).up aa) (q3.ki PT) aa aa).mono ?_)
   rintro e w4 ⟨r4,rfl,q4,eV⟩
   obtain ⟨s4,p4,n4,c4,t4,y4,m4,d4,rfl⟩:=q4.form
   refine ⟨_,rfl,eV,fun lh _ sT=>wV rfl ?_⟩
   refine ab ?_
   refine VO.call rfl rfl (fk Tryz.func51) (fun gf jl gD=>(dy _ _ LM AL 82 82 gf (q2.ki zLM) (q3.ki PT) aa aa).mono ?_)
   rintro e w5 ⟨r5,rfl,q5,eE⟩
   obtain ⟨s5,p5,n5,c5,t5,y5,m5,d5,rfl⟩:=q5.form
   refine ⟨_,rfl,eE,fun jy _ qi=>wV rfl ?_⟩
   refine ab ?_
   rw [hRM] at q5
   rw [hDN] at q4
   have hmx:sw 0 [IntKind.i64.wrap (((0:Nat):Int) - (kn:Int))]=((0 - kn:Nat):Int):=by
    rw [IntKind.wrap_i64]
    show (if _ > (0:Int) then _ else (0:Int))=_
    split <;> omega
   refine VS.fix 15 rfl (congrArg (fun z=>AV.val (.int .i64 z)) hmx) ?_
   clear hmx
   refine VS.now (fun wI kI oI=> ?_)
   replace q0:bI wI (.agg #[.bool s0,.slice p0 n0 c0,.bool t0,.slice y0 m0 d0]) 0:=q0.k
   replace q2:bI wI (.agg #[.bool s2,.slice p2 n2 c2,.bool t2,.slice y2 m2 d2]) LM:=q2.k
   replace q3:bI wI (.agg #[.bool s3,.slice p3 n3 c3,.bool t3,.slice y3 m3 d3]) AL:=q3.k
   replace q4:bI wI (.agg #[.bool s4,.slice p4 n4 c4,.bool t4,.slice y4 m4 d4]) DN:=q4.kr
   rw [Nat.zero_sub] at hIn
   obtain ⟨f1,f2,f3⟩:=hIn.fin
   have Ka:Iz D SM/\0≤SM/\SM≤RM:=by rw [<-f3];exact ⟨hIn.uI,hIn.u0,g8⟩
   have hLF0:LF=[]:=f1.symm
   have sI:US=[]:=f2.symm
   have qh:bI wI (.agg #[.bool s0,.slice p0 n0 c0,.bool t0,.slice y0 m0 d0]) SM:=by rw [<-f3];exact q0
   refine VS.loop (J:=fun m L M w'=>Kp UU wI w'/\L=[(1,.val (.slice (some ⟨b,off,none⟩) N cu)),(2,.box 2 0),(4,.box 4 0),(6,.box 6 0),(7,.box 7 0),(8,.val (.slice none 0 0)),(9,.val (.int .i64 ((0:Nat):Int))),(10,.box 10 0),(11,.box 11 0),(12,.box 12 0),(13,.box 13 0),(14,.box 14 0),(15,.val (.int .i64 ((0 - kn:Nat):Int)))]/\M=[(2,(57,([.bool S.1,.slice Ma S.2.1.length Mb,.bool S.2.2.1,.slice Mc S.2.2.2.length Md,.bool F.1,.slice GL F.2.1.length GM,.bool F.2.2.1,.slice GN F.2.2.2.length GO,.int .i64 (kn:Int)]:List Value).map .val)),(4,(64,[.val (.slice none 0 0),.val (.slice none 0 0)])),(6,(64,[.val (.slice none 0 0),.val (.slice none 0 0)])),(7,(55,([.bool s0,.slice p0 n0 c0,.bool t0,.slice y0 m0 d0]:List Value).map .val)),(10,(55,([.bool s2,.slice p2 n2 c2,.bool t2,.slice y2 m2 d2]:List Value).map .val)),(11,(55,([.bool s3,.slice p3 n3 c3,.bool t3,.slice y3 m3 d3]:List Value).map .val)),(12,(55,([.bool s4,.slice p4 n4 c4,.bool t4,.slice y4 m4 d4]:List Value).map .val)),(13,(55,([.bool s5,.slice p5 n5 c5,.bool t5,.slice y5 m5 d5]:List Value).map .val)),(14,(55,([.bool s0,.slice p0 n0 c0,.bool t0,.slice y0 m0 d0]:List Value).map .val))]) 0 ⟨_,_,?_,?_,?_,?_,⟨kR _,rfl,rfl⟩⟩ ?_
   ·exact bT
   ·exact bT
   ·rfl
   ·exact ic
   rintro m L M wL1 ⟨kV,rfl,rfl⟩
   refine ab ?_
   have zSM:=hM.sz SM Ka.1 dt dt
   have zAS:=hM.sz _ (g1.add Ka.1) dt dt
   have NN:eM 0 82:=eM.zero.mono aa
   refine VO.BD (cJ _ _) (bl 82) (t:=102) (e:=55) (s:=114) (a:=DN) (cs:=[.bool s4,.slice p4 n4 c4,.bool t4,.slice y4 m4 d4]) rfl rfl rfl rfl rfl rfl rfl rfl (bB rfl) rfl rfl rfl (dV (q4.k) zDN) aa (fun w16 TR Cl k16 b16 fK=>wV rfl ?_)
   refine ab ?_
   refine VO.call rfl rfl (fk Tryz.func27) (fun TS ka17 ba17=>(gW _ _ AL SM 82 82 TS (q3.ki PT) (qh.ki zSM) aa aa).mono ?_)
   rintro e w17 ⟨r17,rfl,q17,TT⟩
   obtain ⟨TU,TV,TW,TX,t17,TY,TZ,d17,rfl⟩:=q17.form
   refine ⟨_,rfl,TT,fun kb17 _ bb17=>wV rfl ?_⟩
   refine ab ?_
   refine VO.BD (cJ _ _) (cz 82) (t:=61) (e:=108) (s:=128) (a:=(⟨LM,AL,DN,SM,AL + SM,0,0⟩:aL)) (cs:=[.bool s2,.slice p2 n2 c2,.bool t2,.slice y2 m2 d2,.bool s3,.slice p3 n3 c3,.bool t3,.slice y3 m3 d3,.bool s4,.slice p4 n4 c4,.bool t4,.slice y4 m4 d4,.bool s0,.slice p0 n0 c0,.bool t0,.slice y0 m0 d0,.bool TU,.slice TV TW TX,.bool t17,.slice TY TZ d17,.bool s0,.slice p0 n0 c0,.bool t0,.slice y0 m0 d0,.bool s0,.slice p0 n0 c0,.bool t0,.slice y0 m0 d0]) rfl rfl rfl rfl rfl rfl rfl rfl (bB rfl) rfl rfl rfl ⟨[.bool s2,.slice p2 n2 c2,.bool t2,.slice y2 m2 d2],[.bool s3,.slice p3 n3 c3,.bool t3,.slice y3 m3 d3],[.bool s4,.slice p4 n4 c4,.bool t4,.slice y4 m4 d4],[.bool s0,.slice p0 n0 c0,.bool t0,.slice y0 m0 d0],[.bool TU,.slice TV TW TX,.bool t17,.slice TY TZ d17],[.bool s0,.slice p0 n0 c0,.bool t0,.slice y0 m0 d0],[.bool s0,.slice p0 n0 c0,.bool t0,.slice y0 m0 d0],rfl,dV (q2.k) zLM,dV (q3.k) PT,dV (q4.k) zDN,dV (qh.k) zSM,dV (q17.kr) zAS,dV (q0.k) NN,dV (q0.k) NN⟩ aa (fun w18 Ua Cm k18 b18 gu=>wV rfl ?_)
   refine ab ?_
   obtain ⟨Kb,yf⟩:∃ vs,vs=([[.bool s4,.slice p4 n4 c4,.bool t4,.slice y4 m4 d4]]:List (List Value)):=⟨_,rfl⟩
   obtain ⟨Kc,yi⟩:∃ vs,vs=([[.bool s2,.slice p2 n2 c2,.bool t2,.slice y2 m2 d2,.bool s3,.slice p3 n3 c3,.bool t3,.slice y3 m3 d3,.bool s4,.slice p4 n4 c4,.bool t4,.slice y4 m4 d4,.bool s0,.slice p0 n0 c0,.bool t0,.slice y0 m0 d0,.bool TU,.slice TV TW TX,.bool t17,.slice TY TZ d17,.bool s0,.slice p0 n0 c0,.bool t0,.slice y0 m0 d0,.bool s0,.slice p0 n0 c0,.bool t0,.slice y0 m0 d0]]:List (List Value)):=⟨_,rfl⟩
   obtain ⟨RW,Me⟩:∃ RW,RW=(runT S.q F.q kn (bX (l.take 0))).rows++[(⟨LM,AL,DN,SM,AL + SM,0,0⟩:aL)]:=⟨_,rfl⟩
   obtain ⟨LL,Og⟩:∃ LL,LL=LF++[DN]:=⟨_,rfl⟩
   obtain ⟨z1,ik⟩:∃ z1,z1=0 + 1:=⟨_,rfl⟩
   have hRW0:(runT S.q F.q kn (bX (l.take 0))).rows=[]:=rfl
   rw [hLF0] at Og
   rw [hRW0] at Me
   rw [<-yf,<-List.nil_append [DN],<-Og,show 1=z1 from ik.symm] at fK
   rw [<-yi,<-List.nil_append [_],<-Me,show 1=z1 from ik.symm] at gu
   rw [show 0 + 1=z1 from ik.symm] at oW vZ wh
   rw [hLF0,hRW0,<-Me,<-Og] at oW
   refine VS.narrow [(1,.val (.slice (some ⟨b,off,none⟩) N cu)),(2,.box 2 0),(4,.box 4 0),(6,.box 6 0),(7,.box 7 0),(8,.row 115 0 z1 TR),(9,.val (.int .i64 (0:Int))),(134,.val (.bool (decide ((0:Int)≥(kn:Int)))))] [(2,(57,([.bool S.1,.slice Ma S.2.1.length Mb,.bool S.2.2.1,.slice Mc S.2.2.2.length Md,.bool F.1,.slice GL F.2.1.length GM,.bool F.2.2.1,.slice GN F.2.2.2.length GO,.int .i64 (kn:Int)]:List Value).map .val)),(4,(64,[.val (.slice none 0 0),.val (.slice none 0 0)])),(6,(64,[.row 129 0 z1 Ua,.val (.slice none 0 0)])),(7,(55,([.bool s0,.slice p0 n0 c0,.bool t0,.slice y0 m0 d0]:List Value).map .val)),(115,(55,Kb.flatten.map .val++Cl)),(129,(108,Kc.flatten.map .val++Cm))] ⟨rfl,rfl,rfl,rfl,rfl,by rw [ik];rfl,rfl,rfl,trivial⟩ ⟨rfl,rfl,by rw [ik];rfl,rfl,by rw [yf];rfl,by rw [yi];rfl,trivial⟩ rfl ⟨.vals _,.lit rfl,.lit rfl,.vals _,fK.ja,gu.ja,trivial⟩ ?_
   have hll:LL.length=z1:=fK.len.symm
   have hrwl:RW.length=z1:=gu.len.symm
   by_cases hkz:kn≤0
   ·refine VS.aP rfl (decide_eq_true (show (0:Int)≥(kn:Int) by omega)) ?_
    refine ab ?_
    obtain ⟨ix,hix⟩:∃ ix,ix=0 - kn:=⟨_,rfl⟩
    have NP:IntKind.i64.wrap ((0:Int) - (kn:Int))=((ix:Nat):Int):=by rw [IntKind.wrap_i64];omega
    obtain ⟨rx,NQ⟩:∃ r,RW[ix]? =some r:=⟨_,List.getElem?_eq_getElem aa⟩
    obtain ⟨lx,mi⟩:∃ x,LL[ix]? =some x:=⟨_,List.getElem?_eq_getElem aa⟩
    obtain ⟨yw,qz,uw,CE,hcell⟩:=gu.cell (cz 82) NQ
    obtain ⟨yB,yC,yD,yG,yH,yI,yJ,yK,yL,yM,yO,yP,yQ,yR,yT,yU,yV,yW,yX,yY,yZ,za,zb,zc,zd,ze,zf,zg,zh,zi,zj,zl,zm,zn,zo,zp,zt,zu,zv,zw,Gk,Gl,Gm,Gn,Gp,Gq,Gr,Gs,Gt,Gu,Gv,Gw,Gx,Gy,Gz,GA,rfl,x0,x1,x2,x3,x4,x5,x6⟩:=uw.opn
    refine VO.fix 140 rfl (congrArg (fun z=>AV.val (.int .i64 z)) (NP)) ?_
    refine VO.cond rfl du ?_
    refine wV rfl ?_
    refine ab ?_
    refine VO.cT rfl (([.bool yB,.slice yC yD yG,.bool yH,.slice yI yJ yK,.bool yL,.slice yM yO yP,.bool yQ,.slice yR yT yU,.bool yV,.slice yW yX yY,.bool yZ,.slice za zb zc,.bool zd,.slice ze zf zg,.bool zh,.slice zi zj zl,.bool zm,.slice zn zo zp,.bool zt,.slice zu zv zw,.bool Gk,.slice Gl Gm Gn,.bool Gp,.slice Gq Gr Gs,.bool Gt,.slice Gu Gv Gw,.bool Gx,.slice Gy Gz GA]:List Value).map .val) rfl (hcell 0 _ ⟨[],rfl⟩) (wV rfl ?_)
    refine ab ?_
    refine VO.fix 147 rfl (congrArg (fun z=>AV.val (.int .i64 z)) (NP)) ?_
    refine VO.cond rfl du ?_
    refine wV rfl ?_
    refine ab ?_
    obtain ⟨csl,hcsl,Qf,hll2,pZ⟩:=fK.cell (bl 82) mi
    obtain ⟨Db,Dc,Dd,De,Df,Dg,Dh,del,rfl,xl⟩:=Qf.opn
    refine VO.cT rfl (([.bool Db,.slice Dc Dd De,.bool Df,.slice Dg Dh del]:List Value).map .val) rfl (pZ 0 _ ⟨[],rfl⟩) (wV rfl ?_)
    refine ab ?_
    refine VO.fix 156 rfl (congrArg (fun z=>AV.val (.int .i64 z)) (NP)) ?_
    refine VO.cond rfl du ?_
    refine wV rfl ?_
    refine ab ?_
    have Ub:=gu.fl
    have hler:=gu.le
    have Uc:=fK.fl
    have hlel:=fK.le
    refine VO.cond rfl (by show 0 + ((ix:Int)).toNat * 28 + 28≤_;rw [Ub,Int.toNat_natCast];omega) (VO.dG 129 rfl (jc (new:=[.bool yB,.slice yC yD yG,.bool yH,.slice yI yJ yK,.bool yL,.slice yM yO yP,.bool yQ,.slice yR yT yU,.bool yV,.slice yW yX yY,.bool yZ,.slice za zb zc,.bool zd,.slice ze zf zg,.bool zh,.slice zi zj zl,.bool zm,.slice zn zo zp,.bool zt,.slice zu zv zw,.bool Db,.slice Dc Dd De,.bool Df,.slice Dg Dh del,.bool Gt,.slice Gu Gv Gw,.bool Gx,.slice Gy Gz GA]) (gu.el.lens (cz 82)) (by rw [gu.el.len];omega) rfl) (wV rfl ?_))
    refine ab ?_
    refine VO.fix 163 rfl (congrArg (fun z=>AV.val (.int .i64 z)) (NP)) ?_
    refine VO.cond rfl du ?_
    refine wV rfl ?_
    refine ab ?_
    refine VO.cond rfl (by show 0 + ((ix:Int)).toNat * 4 + 4≤_;rw [Uc,Int.toNat_natCast];omega) (VO.dG 115 rfl (jc (new:=[.bool s0,.slice p0 n0 c0,.bool t0,.slice y0 m0 d0]) (fK.el.lens (bl 82)) (by rw [fK.el.len];omega) rfl) (wV rfl ?_))
    refine ab ?_
    have eO:runT S.q F.q kn (bX (l.take z1))=⟨LL.set ix 0,RW.modify ix (fun r=>{ r with aq:=lx }),US⟩:=by
     rw [oW]
     unfold qu
     rw [if_pos hkz,<-hix]
     dsimp only
     rw [List.getD_eq_getElem?_getD,mi];rfl
    refine VS.back (N - z1) aa ⟨_,_,?_,?_,?_,?_,⟨z1,s0,p0,n0,c0,t0,y0,m0,d0,by omega,rfl,vZ,wh,q0.k,.inr ⟨by omega,_,Cl,TR,_,Cm,Ua,by rw [eO];exact fK.set (bl 82) aR (dV (q0.k) NN),by rw [eO,ek NQ];exact gu.set (cz 82) aR ⟨[.bool yB,.slice yC yD yG,.bool yH,.slice yI yJ yK],[.bool yL,.slice yM yO yP,.bool yQ,.slice yR yT yU],[.bool yV,.slice yW yX yY,.bool yZ,.slice za zb zc],[.bool zd,.slice ze zf zg,.bool zh,.slice zi zj zl],[.bool zm,.slice zn zo zp,.bool zt,.slice zu zv zw],[.bool Db,.slice Dc Dd De,.bool Df,.slice Dg Dh del],[.bool Gt,.slice Gu Gv Gw,.bool Gx,.slice Gy Gz GA],rfl,(bl 82).kp x0 aR,(bl 82).kp x1 aR,(bl 82).kp x2 aR,(bl 82).kp x3 aR,(bl 82).kp x4 aR,(bl 82).kp xl aR,(bl 82).kp x6 aR⟩,.inl ⟨by rw [eO];exact sI,rfl,rfl⟩⟩⟩⟩
    ·refine ⟨rfl,rfl,rfl,rfl,rfl,rfl,?_,trivial⟩
     rw [ik,<-aE (i:=0) aa];rfl
    ·exact bT
    ·rfl
    ·exact ⟨.vals _,.lit rfl,.lit rfl,.vals _,(fK.set (bl 82) (kR _) (dV (q0.k) NN)).ja,.append (.vals _) (.none gu.sl),trivial⟩
   ·refine VS.aQ rfl (decide_eq_false (show ¬ (0:Int)≥(kn:Int) by omega)) ?_
    refine ab ?_
    have eO:runT S.q F.q kn (bX (l.take z1))=⟨LL,RW,US⟩:=by
     rw [oW]
     unfold qu
     rw [if_neg hkz]
    refine VS.back (N - z1) aa ⟨_,_,?_,?_,?_,?_,⟨z1,s0,p0,n0,c0,t0,y0,m0,d0,by omega,rfl,vZ,wh,q0.k,.inr ⟨by omega,Kb,Cl,TR,Kc,Cm,Ua,by rw [eO];exact fK.kp (bl 82) aR,by rw [eO];exact gu.kp (cz 82) aR,.inl ⟨by rw [eO];exact sI,rfl,rfl⟩⟩⟩⟩
    ·refine ⟨rfl,rfl,rfl,rfl,rfl,rfl,?_,trivial⟩
     rw [ik,<-aE (i:=0) aa];rfl
    ·exact bT
    ·rfl
    ·exact ⟨.vals _,.lit rfl,.lit rfl,.vals _,fK.ja,gu.ja,trivial⟩
  ·refine VS.aQ rfl (decide_eq_false (fun e=>hlt (Int.ofNat_lt.1 e))) ?_
   refine ab ?_
   refine VS.loop (J:=fun m L M w'=>L=[(4,.box 4 0),(6,.box 6 0),(8,.val (.slice none 0 0)),(18,.val (.int .i64 0))]/\M=[(4,(64,[.val (.slice none 0 0),.val (.slice none 0 0)])),(6,(64,[.val (.slice none 0 0),.val (.slice none 0 0)]))]) 0 ⟨_,_,?_,?_,?_,?_,⟨rfl,rfl⟩⟩ ?_
   ·exact bT
   ·exact bT
   ·rfl
   ·exact ic
   rintro m L M wL1 ⟨rfl,rfl⟩
   refine ab ?_
   refine VS.lz (cJ _ _) rfl (fun wz β kz bz en=> ?_)
   have Cw:l=[]:=List.length_eq_zero_iff.1 aa
   subst Cw
   exact ⟨_,_,rfl,.inl ⟨rfl,rfl⟩,.inl ⟨rfl,rfl⟩,bz⟩
 by_cases hlt:z < N
 ·obtain ⟨e,he⟩:∃ e,l[z]? =some e:=⟨_,List.getElem?_eq_getElem aa⟩
  obtain ⟨j1,j2,j3,j4,j5⟩:=hM.el (e.1.q,e.2.q) (List.mem_map.2 ⟨e,List.mem_of_getElem? he,rfl⟩)
  obtain ⟨b,off,eQ,fN,hc,⟨_,_,rfl,⟨ap,ac,ar,ad,rfl,hae⟩,⟨bp,bc,br,bd,rfl,hbe⟩,hfa,hfb⟩⟩:=hl.at he
  subst fN
  have JZ:=lN S.q F.q e.2.q
  obtain ⟨LM,tY⟩:∃ LM,aw S.q F.q e.2.q=LM:=⟨_,rfl⟩
  dsimp only at j1 j2 j3 j4 j5
  rw [tY] at j1 j2 JZ
  obtain ⟨g1,g2,g3,g4,g5,g6,g7,g8,g9⟩:=np j1 JZ j2 j3 j4 j5
  have GB:=Ew S.q F.q kn (bX (l.take z)) (e.1.q,e.2.q)
  rw [<-oO he,pc] at GB
  obtain ⟨vZ,wh⟩:=JS (S:=S.q) (F:=F.q) (keep:=kn) (e:=(e.1.q,e.2.q)) PS (by rw [pc];omega) (by dsimp only;rw [tY];exact j1) (by dsimp only;rw [tY];exact j2) j3 j4 j5
  rw [pc] at vZ wh
  rw [<-GB] at vZ wh
  have hIn:=LW.init (keep:=kn) PS pc g7 g8
  obtain ⟨AL,hAL⟩:∃ AL,ae e.1.q LM=AL:=⟨_,rfl⟩
  rw [hAL] at g1 g2 g3 g4 g5 g6 g7 g8 g9 hIn
  have zLM:=hM.sz LM j1 dt dt
  have PT:=hM.sz AL g1 dt dt
  have zDN:=hM.sz _ g4 dt g6
  have zRM:=hM.sz _ g7 dt g9
  obtain ⟨RM,hRM⟩:∃ RM,LM - AL=RM:=⟨_,rfl⟩
  obtain ⟨DN,hDN⟩:∃ DN,e.1.q - AL=DN:=⟨_,rfl⟩
  rw [hRM] at g7 g8 g9 hIn zRM
  rw [hDN] at g4 g5 g6 zDN
  obtain ⟨LF,PU⟩:∃ LF,(runT S.q F.q kn (bX (l.take z))).left.take (z - kn)++(qJ (bG (z - kn) ((runT S.q F.q kn (bX (l.take z))).left.drop (z - kn))) RM).map (·.2)=LF:=⟨_,rfl⟩
  obtain ⟨US,PV⟩:∃ US,(runT S.q F.q kn (bX (l.take z))).uses++rF z (bG (z - kn) ((runT S.q F.q kn (bX (l.take z))).left.drop (z - kn))) RM=US:=⟨_,rfl⟩
  obtain ⟨SM,hSM⟩:∃ SM,xd (bG (z - kn) ((runT S.q F.q kn (bX (l.take z))).left.drop (z - kn))) RM=SM:=⟨_,rfl⟩
  rw [PU,PV,hSM] at hIn
  have oW:runT S.q F.q kn (bX (l.take (z + 1)))=qu kn z ⟨LF++[DN],(runT S.q F.q kn (bX (l.take z))).rows++[⟨LM,AL,DN,SM,AL + SM,0,0⟩],US⟩:=by
   rw [GB]
   unfold mC xe
   dsimp only
   rw [tY,hAL,hRM,hDN,PU,PV,hSM]
  clear GB PU PV hSM
  apply VS.hop (P:=fun F' H' w'=>∃ (s2 p2 n2 c2 t2 y2 m2 d2 s3 p3 n3 c3 t3 y3 m3 d3 s4 p4 n4 c4 t4 y4 m4 d4 s5 p5 n5 c5 t5 y5 m5 d5:_),bI w' (.agg #[.bool s0,.slice p0 n0 c0,.bool t0,.slice y0 m0 d0]) 0/\bI w' (.agg #[.bool s2,.slice p2 n2 c2,.bool t2,.slice y2 m2 d2]) LM/\bI w' (.agg #[.bool s3,.slice p3 n3 c3,.bool t3,.slice y3 m3 d3]) AL/\bI w' (.agg #[.bool s4,.slice p4 n4 c4,.bool t4,.slice y4 m4 d4]) DN/\bI w' (.agg #[.bool s5,.slice p5 n5 c5,.bool t5,.slice y5 m5 d5]) RM/\iB (wq 82) 4 w' z cl CB Ai (runT S.q F.q kn (bX (l.take z))).left/\iB (Gj 82) 28 w' z cr kG nt (runT S.q F.q kn (bX (l.take z))).rows/\
   (((runT S.q F.q kn (bX (l.take z))).uses=[]/\F'=Fr.of [(1,.val (.slice (some ⟨b,off,none⟩) N cu)),(2,.box 2 0),(4,.box 4 0),(6,.box 6 0),(7,.box 7 0),(8,.row 115 0 z cl),(9,.val (.int .i64 (z:Int))),(10,.box 10 0),(11,.box 11 0),(12,.box 12 0),(13,.box 13 0),(14,.box 14 0),(15,.val (.int .i64 ((z - kn:Nat):Int)))]/\H'=Hp.of [(2,(57,([.bool S.1,.slice Ma S.2.1.length Mb,.bool S.2.2.1,.slice Mc S.2.2.2.length Md,.bool F.1,.slice GL F.2.1.length GM,.bool F.2.2.1,.slice GN F.2.2.2.length GO,.int .i64 (kn:Int)]:List Value).map .val)),(4,(64,[.val (.slice none 0 0),.val (.slice none 0 0)])),(6,(64,[.row 129 0 z cr,.val (.slice none 0 0)])),(7,(55,([.bool s0,.slice p0 n0 c0,.bool t0,.slice y0 m0 d0]:List Value).map .val)),(10,(55,([.bool s2,.slice p2 n2 c2,.bool t2,.slice y2 m2 d2]:List Value).map .val)),(11,(55,([.bool s3,.slice p3 n3 c3,.bool t3,.slice y3 m3 d3]:List Value).map .val)),(12,(55,([.bool s4,.slice p4 n4 c4,.bool t4,.slice y4 m4 d4]:List Value).map .val)),(13,(55,([.bool s5,.slice p5 n5 c5,.bool t5,.slice y5 m5 d5]:List Value).map .val)),(14,(55,([.bool s0,.slice p0 n0 c0,.bool t0,.slice y0 m0 d0]:List Value).map .val)),(115,(55,CB.flatten.map .val++Ai)),(129,(108,kG.flatten.map .val++nt))])\/(∃ (ku:Nat) (xj:List (List Value)) (xY:List AV) (Da:Nat),iB (LY 82) 6 w' ku Da xj xY (runT S.q F.q kn (bX (l.take z))).uses/\F'=Fr.of [(1,.val (.slice (some ⟨b,off,none⟩) N cu)),(2,.box 2 0),(4,.box 4 0),(6,.box 6 0),(7,.box 7 0),(8,.row 115 0 z cl),(9,.val (.int .i64 (z:Int))),(10,.box 10 0),(11,.box 11 0),(12,.box 12 0),(13,.box 13 0),(14,.box 14 0),(15,.val (.int .i64 ((z - kn:Nat):Int)))]/\H'=Hp.of [(2,(57,([.bool S.1,.slice Ma S.2.1.length Mb,.bool S.2.2.1,.slice Mc S.2.2.2.length Md,.bool F.1,.slice GL F.2.1.length GM,.bool F.2.2.1,.slice GN F.2.2.2.length GO,.int .i64 (kn:Int)]:List Value).map .val)),(4,(64,[.val (.slice none 0 0),.val (.slice none 0 0)])),(6,(64,[.row 129 0 z cr,.row 95 0 ku Da])),(7,(55,([.bool s0,.slice p0 n0 c0,.bool t0,.slice y0 m0 d0]:List Value).map .val)),(10,(55,([.bool s2,.slice p2 n2 c2,.bool t2,.slice y2 m2 d2]:List Value).map .val)),(11,(55,([.bool s3,.slice p3 n3 c3,.bool t3,.slice y3 m3 d3]:List Value).map .val)),(12,(55,([.bool s4,.slice p4 n4 c4,.bool t4,.slice y4 m4 d4]:List Value).map .val)),(13,(55,([.bool s5,.slice p5 n5 c5,.bool t5,.slice y5 m5 d5]:List Value).map .val)),(14,(55,([.bool s0,.slice p0 n0 c0,.bool t0,.slice y0 m0 d0]:List Value).map .val)),(115,(55,CB.flatten.map .val++Ai)),(129,(108,kG.flatten.map .val++nt)),(95,(106,xj.flatten.map .val++xY))])))
  ·intro cont
   rcases hUd with ⟨sI,rfl,rfl⟩ | ⟨ku,xj,xY,Da,wm,rfl,rfl⟩
   ·refine ab ?_
    refine VS.aP rfl (decide_eq_true (Int.ofNat_lt.2 hlt)) ?_
    refine ab ?_
    refine VO.cond rfl du ?_
    refine wV rfl ?_
    refine ab ?_
    refine VO.read rfl [.bool e.2.1,.slice bp e.2.2.1.length bc,.bool e.2.2.2.1,.slice br e.2.2.2.2.length bd] rfl (aN hc 4 _ ⟨[],rfl⟩) (wV rfl ?_)
    refine ab ?_
    refine VO.call rfl rfl (fk Tryz.func49) (fun bF cU bJ=>(tT _ _ S.q e.2.q 3 3 bF ((sY.kp (Kp.of (U:=UU) bJ)).iE hS) ((hbe.kp (Kp.of (U:=UU) bJ)).iE hfb) aa aa).mono ?_)
    rintro e w1 ⟨r1,rfl,q1,aK⟩
    obtain ⟨s1,p1,n1,c1,t1,y1,m1,d1,rfl⟩:=q1.form
    refine ⟨_,rfl,aK,fun dC _ bb1=>wV rfl ?_⟩
    refine ab ?_
    refine VO.eK rfl (fk Tryz.func48) (fun cK β2 eg di DZ=>(tU _ F.q [S.q * e.2.q,0] 82 cK (cX (DZ.own 47 (.base (List.mem_singleton.2 rfl)) _ _ rfl) [] (vs:=[[.bool F.1,.slice GL F.2.1.length GM,.bool F.2.2.1,.slice GN F.2.2.2.length GO],[.bool s1,.slice p1 n1 c1,.bool t1,.slice y1 m1 d1],[.bool s0,.slice p0 n0 c0,.bool t0,.slice y0 m0 d0]]) (by rfl) rfl (bq.cons (((hfr.kp (Kp.of (U:=UU) di)).iE hF).up aa) (bq.cons (q1.ki (zSe e (List.mem_of_getElem? he))) (bq.cons (q0.ki (eM.zero.mono aa)) bq.nil))) (bB rfl) bV) aa (bB rfl)).mono ?_)
    rintro o w2 ⟨r2,rfl,q2,z2,ba⟩
    replace q2:bI w2 r2 (aw S.q F.q e.2.q):=q2
    obtain ⟨s2,p2,n2,c2,t2,y2,m2,d2,rfl⟩:=q2.form
    refine ⟨_,rfl,ba,fun ed _ bb2=>wV rfl ?_⟩
    refine ab ?_
    rw [tY] at q2
    refine VO.cond rfl du ?_
    refine wV rfl ?_
    refine ab ?_
    refine VO.read rfl [.bool e.1.1,.slice ap e.1.2.1.length ac,.bool e.1.2.2.1,.slice ar e.1.2.2.2.length ad] rfl (aN hc 0 _ ⟨_,rfl⟩) (wV rfl ?_)
    refine ab ?_
    refine VO.eK rfl (fk Tryz.func50) (fun fh β3 fE fG CN=>(mA _ e.1.q [LM] 82 fh (cX (CN.own 55 (.base (List.mem_singleton.2 rfl)) _ _ rfl) [] (vs:=[[.bool e.1.1,.slice ap e.1.2.1.length ac,.bool e.1.2.2.1,.slice ar e.1.2.2.2.length ad],[.bool s2,.slice p2 n2 c2,.bool t2,.slice y2 m2 d2]]) (by rfl) rfl (bq.cons (((hae.kp (Kp.of (U:=UU) fG)).iE hfa).up aa) (bq.cons (q2.ki zLM) bq.nil)) (bB rfl) bV) aa (bB rfl)).mono ?_)
    rintro o w3 ⟨r3,rfl,q3,z3,cG⟩
    replace q3:bI w3 r3 (et iR e.1.q [LM]):=q3
    obtain ⟨s3,p3,n3,c3,t3,y3,m3,d3,rfl⟩:=q3.form
    refine ⟨_,rfl,cG,fun gT _ bb3=>wV rfl ?_⟩
    refine ab ?_
    rw [eF,hAL] at q3
    refine VO.cond rfl du ?_
    refine wV rfl ?_
    refine ab ?_
    refine VO.read rfl [.bool e.1.1,.slice ap e.1.2.1.length ac,.bool e.1.2.2.1,.slice ar e.1.2.2.2.length ad] rfl (aN hc 0 _ ⟨_,rfl⟩) (wV rfl ?_)
    refine ab ?_
    refine VO.call rfl rfl (fk Tryz.func51) (fun iP jT jX=>(dy _ _ e.1.q AL 82 82 iP (((hae.kp (Kp.of (U:=UU) jX)).iE hfa).up aa) (q3.ki PT) aa aa).mono ?_)
    rintro e w4 ⟨r4,rfl,q4,eV⟩
    obtain ⟨s4,p4,n4,c4,t4,y4,m4,d4,rfl⟩:=q4.form
    refine ⟨_,rfl,eV,fun lh _ sT=>wV rfl ?_⟩
    refine ab ?_
    refine VO.call rfl rfl (fk Tryz.func51) (fun gf jl gD=>(dy _ _ LM AL 82 82 gf (q2.ki zLM) (q3.ki PT) aa aa).mono ?_)
    rintro e w5 ⟨r5,rfl,q5,eE⟩
    obtain ⟨s5,p5,n5,c5,t5,y5,m5,d5,rfl⟩:=q5.form
    refine ⟨_,rfl,eE,fun jy _ qi=>wV rfl ?_⟩
    refine ab ?_
    rw [hRM] at q5
    rw [hDN] at q4
    have hmx:sw 0 [IntKind.i64.wrap (((z:Nat):Int) - (kn:Int))]=((z - kn:Nat):Int):=by
     rw [IntKind.wrap_i64]
     show (if _ > (0:Int) then _ else (0:Int))=_
     split <;> omega
    refine VS.fix 15 rfl (congrArg (fun z=>AV.val (.int .i64 z)) hmx) ?_
    clear hmx
    refine VS.now (fun wI kI oI=> ?_)
    refine VS.narrow [(1,.val (.slice (some ⟨b,off,none⟩) N cu)),(2,.box 2 0),(4,.box 4 0),(6,.box 6 0),(7,.box 7 0),(8,.row 115 0 z cl),(9,.val (.int .i64 (z:Int))),(10,.box 10 0),(11,.box 11 0),(12,.box 12 0),(13,.box 13 0),(14,.box 14 0),(15,.val (.int .i64 ((z - kn:Nat):Int)))] [(2,(57,([.bool S.1,.slice Ma S.2.1.length Mb,.bool S.2.2.1,.slice Mc S.2.2.2.length Md,.bool F.1,.slice GL F.2.1.length GM,.bool F.2.2.1,.slice GN F.2.2.2.length GO,.int .i64 (kn:Int)]:List Value).map .val)),(4,(64,[.val (.slice none 0 0),.val (.slice none 0 0)])),(6,(64,[.row 129 0 z cr,.val (.slice none 0 0)])),(7,(55,([.bool s0,.slice p0 n0 c0,.bool t0,.slice y0 m0 d0]:List Value).map .val)),(10,(55,([.bool s2,.slice p2 n2 c2,.bool t2,.slice y2 m2 d2]:List Value).map .val)),(11,(55,([.bool s3,.slice p3 n3 c3,.bool t3,.slice y3 m3 d3]:List Value).map .val)),(12,(55,([.bool s4,.slice p4 n4 c4,.bool t4,.slice y4 m4 d4]:List Value).map .val)),(13,(55,([.bool s5,.slice p5 n5 c5,.bool t5,.slice y5 m5 d5]:List Value).map .val)),(14,(55,([.bool s0,.slice p0 n0 c0,.bool t0,.slice y0 m0 d0]:List Value).map .val)),(115,(55,CB.flatten.map .val++Ai)),(129,(108,kG.flatten.map .val++nt))] ⟨rfl,rfl,rfl,rfl,rfl,rfl,rfl,rfl,rfl,rfl,rfl,rfl,rfl,trivial⟩ ⟨rfl,rfl,rfl,rfl,rfl,rfl,rfl,rfl,rfl,rfl,rfl,trivial⟩ rfl ⟨.vals _,.lit rfl,.lit rfl,.vals _,.vals _,.vals _,.vals _,.vals _,.vals _,kc.ja,ma.ja,trivial⟩ ?_
    exact cont _ _ _ ⟨s2,p2,n2,c2,t2,y2,m2,d2,s3,p3,n3,c3,t3,y3,m3,d3,s4,p4,n4,c4,t4,y4,m4,d4,s5,p5,n5,c5,t5,y5,m5,d5,q0.k,q2.k,q3.k,q4.kr,q5.kr,kc.kp (bl 82) aR,ma.kp (cz 82) aR,.inl ⟨sI,rfl,rfl⟩⟩
   ·refine ab ?_
    refine VS.aP rfl (decide_eq_true (Int.ofNat_lt.2 hlt)) ?_
    refine ab ?_
    refine VO.cond rfl du ?_
    refine wV rfl ?_
    refine ab ?_
    refine VO.read rfl [.bool e.2.1,.slice bp e.2.2.1.length bc,.bool e.2.2.2.1,.slice br e.2.2.2.2.length bd] rfl (aN hc 4 _ ⟨[],rfl⟩) (wV rfl ?_)
    refine ab ?_
    refine VO.call rfl rfl (fk Tryz.func49) (fun bF cU bJ=>(tT _ _ S.q e.2.q 3 3 bF ((sY.kp (Kp.of (U:=UU) bJ)).iE hS) ((hbe.kp (Kp.of (U:=UU) bJ)).iE hfb) aa aa).mono ?_)
    rintro e w1 ⟨r1,rfl,q1,aK⟩
    obtain ⟨s1,p1,n1,c1,t1,y1,m1,d1,rfl⟩:=q1.form
    refine ⟨_,rfl,aK,fun dC _ bb1=>wV rfl ?_⟩
    refine ab ?_
    refine VO.eK rfl (fk Tryz.func48) (fun cK β2 eg di DZ=>(tU _ F.q [S.q * e.2.q,0] 82 cK (cX (DZ.own 47 (.base (List.mem_singleton.2 rfl)) _ _ rfl) [] (vs:=[[.bool F.1,.slice GL F.2.1.length GM,.bool F.2.2.1,.slice GN F.2.2.2.length GO],[.bool s1,.slice p1 n1 c1,.bool t1,.slice y1 m1 d1],[.bool s0,.slice p0 n0 c0,.bool t0,.slice y0 m0 d0]]) (by rfl) rfl (bq.cons (((hfr.kp (Kp.of (U:=UU) di)).iE hF).up aa) (bq.cons (q1.ki (zSe e (List.mem_of_getElem? he))) (bq.cons (q0.ki (eM.zero.mono aa)) bq.nil))) (bB rfl) bV) aa (bB rfl)).mono ?_)
    rintro o w2 ⟨r2,rfl,q2,z2,ba⟩
    replace q2:bI w2 r2 (aw S.q F.q e.2.q):=q2
    obtain ⟨s2,p2,n2,c2,t2,y2,m2,d2,rfl⟩:=q2.form
    refine ⟨_,rfl,ba,fun ed _ bb2=>wV rfl ?_⟩
    refine ab ?_
    rw [tY] at q2
    refine VO.cond rfl du ?_
    refine wV rfl ?_
    refine ab ?_
    refine VO.read rfl [.bool e.1.1,.slice ap e.1.2.1.length ac,.bool e.1.2.2.1,.slice ar e.1.2.2.2.length ad] rfl (aN hc 0 _ ⟨_,rfl⟩) (wV rfl ?_)
    refine ab ?_
    refine VO.eK rfl (fk Tryz.func50) (fun fh β3 fE fG CN=>(mA _ e.1.q [LM] 82 fh (cX (CN.own 55 (.base (List.mem_singleton.2 rfl)) _ _ rfl) [] (vs:=[[.bool e.1.1,.slice ap e.1.2.1.length ac,.bool e.1.2.2.1,.slice ar e.1.2.2.2.length ad],[.bool s2,.slice p2 n2 c2,.bool t2,.slice y2 m2 d2]]) (by rfl) rfl (bq.cons (((hae.kp (Kp.of (U:=UU) fG)).iE hfa).up aa) (bq.cons (q2.ki zLM) bq.nil)) (bB rfl) bV) aa (bB rfl)).mono ?_)
    rintro o w3 ⟨r3,rfl,q3,z3,cG⟩
    replace q3:bI w3 r3 (et iR e.1.q [LM]):=q3
    obtain ⟨s3,p3,n3,c3,t3,y3,m3,d3,rfl⟩:=q3.form
    refine ⟨_,rfl,cG,fun gT _ bb3=>wV rfl ?_⟩
    refine ab ?_
    rw [eF,hAL] at q3
    refine VO.cond rfl du ?_
    refine wV rfl ?_
    refine ab ?_
    refine VO.read rfl [.bool e.1.1,.slice ap e.1.2.1.length ac,.bool e.1.2.2.1,.slice ar e.1.2.2.2.length ad] rfl (aN hc 0 _ ⟨_,rfl⟩) (wV rfl ?_)
    refine ab ?_
    refine VO.call rfl rfl (fk Tryz.func51) (fun iP jT jX=>(dy _ _ e.1.q AL 82 82 iP (((hae.kp (Kp.of (U:=UU) jX)).iE hfa).up aa) (q3.ki PT) aa aa).mono ?_)
    rintro e w4 ⟨r4,rfl,q4,eV⟩
    obtain ⟨s4,p4,n4,c4,t4,y4,m4,d4,rfl⟩:=q4.form
    refine ⟨_,rfl,eV,fun lh _ sT=>wV rfl ?_⟩
    refine ab ?_
    refine VO.call rfl rfl (fk Tryz.func51) (fun gf jl gD=>(dy _ _ LM AL 82 82 gf (q2.ki zLM) (q3.ki PT) aa aa).mono ?_)
    rintro e w5 ⟨r5,rfl,q5,eE⟩
    obtain ⟨s5,p5,n5,c5,t5,y5,m5,d5,rfl⟩:=q5.form
    refine ⟨_,rfl,eE,fun jy _ qi=>wV rfl ?_⟩
    refine ab ?_
    rw [hRM] at q5
    rw [hDN] at q4
    have hmx:sw 0 [IntKind.i64.wrap (((z:Nat):Int) - (kn:Int))]=((z - kn:Nat):Int):=by
     rw [IntKind.wrap_i64]
     show (if _ > (0:Int) then _ else (0:Int))=_
     split <;> omega
    refine VS.fix 15 rfl (congrArg (fun z=>AV.val (.int .i64 z)) hmx) ?_
    clear hmx
    refine VS.now (fun wI kI oI=> ?_)
    refine VS.narrow [(1,.val (.slice (some ⟨b,off,none⟩) N cu)),(2,.box 2 0),(4,.box 4 0),(6,.box 6 0),(7,.box 7 0),(8,.row 115 0 z cl),(9,.val (.int .i64 (z:Int))),(10,.box 10 0),(11,.box 11 0),(12,.box 12 0),(13,.box 13 0),(14,.box 14 0),(15,.val (.int .i64 ((z - kn:Nat):Int)))] [(2,(57,([.bool S.1,.slice Ma S.2.1.length Mb,.bool S.2.2.1,.slice Mc S.2.2.2.length Md,.bool F.1,.slice GL F.2.1.length GM,.bool F.2.2.1,.slice GN F.2.2.2.length GO,.int .i64 (kn:Int)]:List Value).map .val)),(4,(64,[.val (.slice none 0 0),.val (.slice none 0 0)])),(6,(64,[.row 129 0 z cr,.row 95 0 ku Da])),(7,(55,([.bool s0,.slice p0 n0 c0,.bool t0,.slice y0 m0 d0]:List Value).map .val)),(10,(55,([.bool s2,.slice p2 n2 c2,.bool t2,.slice y2 m2 d2]:List Value).map .val)),(11,(55,([.bool s3,.slice p3 n3 c3,.bool t3,.slice y3 m3 d3]:List Value).map .val)),(12,(55,([.bool s4,.slice p4 n4 c4,.bool t4,.slice y4 m4 d4]:List Value).map .val)),(13,(55,([.bool s5,.slice p5 n5 c5,.bool t5,.slice y5 m5 d5]:List Value).map .val)),(14,(55,([.bool s0,.slice p0 n0 c0,.bool t0,.slice y0 m0 d0]:List Value).map .val)),(115,(55,CB.flatten.map .val++Ai)),(129,(108,kG.flatten.map .val++nt)),(95,(106,xj.flatten.map .val++xY))] ⟨rfl,rfl,rfl,rfl,rfl,rfl,rfl,rfl,rfl,rfl,rfl,rfl,rfl,trivial⟩ ⟨rfl,rfl,rfl,rfl,rfl,rfl,rfl,rfl,rfl,rfl,rfl,rfl,trivial⟩ rfl ⟨.vals _,.lit rfl,.lit rfl,.vals _,.vals _,.vals _,.vals _,.vals _,.vals _,kc.ja,ma.ja,wm.ja,trivial⟩ ?_
    exact cont _ _ _ ⟨s2,p2,n2,c2,t2,y2,m2,d2,s3,p3,n3,c3,t3,y3,m3,d3,s4,p4,n4,c4,t4,y4,m4,d4,s5,p5,n5,c5,t5,y5,m5,d5,q0.k,q2.k,q3.k,q4.kr,q5.kr,kc.kp (bl 82) aR,ma.kp (cz 82) aR,.inr ⟨ku,xj,xY,Da,wm.kp (ir 82) aR,rfl,rfl⟩⟩
  rintro F' H' wI ⟨s2,p2,n2,c2,t2,y2,m2,d2,s3,p3,n3,c3,t3,y3,m3,d3,s4,p4,n4,c4,t4,y4,m4,d4,s5,p5,n5,c5,t5,y5,m5,d5,q0,q2,q3,q4,q5,kc,ma,hUd⟩
  refine VS.loop (J:=fun m L M w'=>∃ (v:Nat) (lf:List Rat) (us:List Uq) (rm ud:Rat) (sg pg ng cg tg yg mg dg:_) (sh ph nh ch th yh mh dh:_) (CB:List (List Value)) (Ai:List AV),v≤z/\m=z - v/\
   LW D (M0 + M0) (100 * z) z LF US SM RM v lf us rm ud/\bI w' (.agg #[.bool sg,.slice pg ng cg,.bool tg,.slice yg mg dg]) rm/\bI w' (.agg #[.bool sh,.slice ph nh ch,.bool th,.slice yh mh dh]) ud/\iB (wq 82) 4 w' z cl CB Ai lf/\Kp UU wI w'/\
   ((us=[]/\L=[(1,.val (.slice (some ⟨b,off,none⟩) N cu)),(2,.box 2 0),(4,.box 4 0),(6,.box 6 0),(7,.box 7 0),(8,.row 115 0 z cl),(9,.val (.int .i64 (z:Int))),(10,.box 10 0),(11,.box 11 0),(12,.box 12 0),(13,.box 13 0),(14,.box 14 0),(15,.val (.int .i64 (v:Int)))]/\M=[(2,(57,([.bool S.1,.slice Ma S.2.1.length Mb,.bool S.2.2.1,.slice Mc S.2.2.2.length Md,.bool F.1,.slice GL F.2.1.length GM,.bool F.2.2.1,.slice GN F.2.2.2.length GO,.int .i64 (kn:Int)]:List Value).map .val)),(4,(64,[.val (.slice none 0 0),.val (.slice none 0 0)])),(6,(64,[.row 129 0 z cr,.val (.slice none 0 0)])),(7,(55,([.bool s0,.slice p0 n0 c0,.bool t0,.slice y0 m0 d0]:List Value).map .val)),(10,(55,([.bool s2,.slice p2 n2 c2,.bool t2,.slice y2 m2 d2]:List Value).map .val)),(11,(55,([.bool s3,.slice p3 n3 c3,.bool t3,.slice y3 m3 d3]:List Value).map .val)),(12,(55,([.bool s4,.slice p4 n4 c4,.bool t4,.slice y4 m4 d4]:List Value).map .val)),(13,(55,([.bool sg,.slice pg ng cg,.bool tg,.slice yg mg dg]:List Value).map .val)),(14,(55,([.bool sh,.slice ph nh ch,.bool th,.slice yh mh dh]:List Value).map .val)),(115,(55,CB.flatten.map .val++Ai)),(129,(108,kG.flatten.map .val++nt))])\/
    (∃ (ku:Nat) (xj:List (List Value)) (xY:List AV) (Da:Nat),iB (LY 82) 6 w' ku Da xj xY us/\L=[(1,.val (.slice (some ⟨b,off,none⟩) N cu)),(2,.box 2 0),(4,.box 4 0),(6,.box 6 0),(7,.box 7 0),(8,.row 115 0 z cl),(9,.val (.int .i64 (z:Int))),(10,.box 10 0),(11,.box 11 0),(12,.box 12 0),(13,.box 13 0),(14,.box 14 0),(15,.val (.int .i64 (v:Int)))]/\M=[(2,(57,([.bool S.1,.slice Ma S.2.1.length Mb,.bool S.2.2.1,.slice Mc S.2.2.2.length Md,.bool F.1,.slice GL F.2.1.length GM,.bool F.2.2.1,.slice GN F.2.2.2.length GO,.int .i64 (kn:Int)]:List Value).map .val)),(4,(64,[.val (.slice none 0 0),.val (.slice none 0 0)])),(6,(64,[.row 129 0 z cr,.row 95 0 ku Da])),(7,(55,([.bool s0,.slice p0 n0 c0,.bool t0,.slice y0 m0 d0]:List Value).map .val)),(10,(55,([.bool s2,.slice p2 n2 c2,.bool t2,.slice y2 m2 d2]:List Value).map .val)),(11,(55,([.bool s3,.slice p3 n3 c3,.bool t3,.slice y3 m3 d3]:List Value).map .val)),(12,(55,([.bool s4,.slice p4 n4 c4,.bool t4,.slice y4 m4 d4]:List Value).map .val)),(13,(55,([.bool sg,.slice pg ng cg,.bool tg,.slice yg mg dg]:List Value).map .val)),(14,(55,([.bool sh,.slice ph nh ch,.bool th,.slice yh mh dh]:List Value).map .val)),(115,(55,CB.flatten.map .val++Ai)),(129,(108,kG.flatten.map .val++nt)),(95,(106,xj.flatten.map .val++xY))]))) (z - (z - kn)) ?_ ?_
  ·rcases hUd with ⟨sI,rfl,rfl⟩ | ⟨ku,xj,xY,Da,wm,rfl,rfl⟩
   ·refine ⟨_,_,?_,?_,?_,?_,⟨z - kn,_,_,RM,0,s5,p5,n5,c5,t5,y5,m5,d5,s0,p0,n0,c0,t0,y0,m0,d0,CB,Ai,by omega,rfl,hIn,q5,q0,kc,kR _,.inl ⟨sI,rfl,rfl⟩⟩⟩
    ·exact bT
    ·exact bT
    ·rfl
    ·exact ⟨.vals _,.lit rfl,.lit rfl,.vals _,.vals _,.vals _,.vals _,.vals _,.vals _,kc.ja,ma.ja,trivial⟩
   ·refine ⟨_,_,?_,?_,?_,?_,⟨z - kn,_,_,RM,0,s5,p5,n5,c5,t5,y5,m5,d5,s0,p0,n0,c0,t0,y0,m0,d0,CB,Ai,by omega,rfl,hIn,q5,q0,kc,kR _,.inr ⟨ku,xj,xY,Da,wm,rfl,rfl⟩⟩⟩
    ·exact bT
    ·exact bT
    ·rfl
    ·exact ⟨.vals _,.lit rfl,.lit rfl,.vals _,.vals _,.vals _,.vals _,.vals _,.vals _,kc.ja,ma.ja,wm.ja,trivial⟩
  clear kc hIn q5 hUd
  rintro m L M wL1 ⟨v,lf,us,rm,ud,sg,pg,ng,cg,tg,yg,mg,dg,sh,ph,nh,ch,th,yh,mh,dh,CB,Ai,hvz,rfl,hI,qg,qh,kc,kV,⟨sI,rfl,rfl⟩ | ⟨ku,xj,xY,Da,wm,rfl,rfl⟩⟩
  ·refine ab ?_
   by_cases jg:v < z
   ·obtain ⟨x,hx⟩:∃ x,lf[v]? =some x:=⟨_,List.getElem?_eq_getElem (by have:=hI.len;omega)⟩
    obtain ⟨x1,x2,x3⟩:=hI.el x (List.mem_of_getElem? hx)
    have hI2:=hI.step hx jg
    have nk:Iz D (ae x rm):=by rcases cj x rm with ⟨e,_⟩ | ⟨e,_⟩ <;> rw [e];exact x1;exact hI.rI
    have nB:0≤ae x rm:=by have:=hI.r0;rcases cj x rm with ⟨e,_⟩ | ⟨e,_⟩ <;> rw [e] <;> assumption
    have CL:=dw x rm
    have hru:=hI.sm
    have Aq:=hI.r0
    have hu0:=hI.u0
    have zX:=hM.sz x x1 dt x3
    have zR:=hM.sz rm hI.rI dt dt
    have zU:=hM.sz ud hI.uI dt dt
    have zN:=hM.sz _ nk dt dt
    have zX2:=hM.sz _ (x1.sub nk) dt dt
    obtain ⟨csx,hcsx,Tn,mi,hcell⟩:=kc.cell (bl 82) hx
    obtain ⟨sx,px,nx,cx,tx,yx,mx,dx,rfl,xin⟩:=Tn.opn
    refine VS.aP rfl (decide_eq_true (Int.ofNat_lt.2 jg)) ?_
    refine ab ?_
    refine VO.cond rfl du ?_
    refine wV rfl ?_
    refine ab ?_
    refine VO.cT rfl (([.bool sx,.slice px nx cx,.bool tx,.slice yx mx dx]:List Value).map .val) rfl (hcell 0 _ ⟨[],rfl⟩) (wV rfl ?_)
    refine ab ?_
    refine VO.eK rfl (fk Tryz.func50) (fun wa21 β21 ka21 ba21 ho21=>(mA _ x [rm] 82 wa21 (cX (ho21.own 83 (.base (List.mem_singleton.2 rfl)) _ _ rfl) [] (vs:=[[.bool sx,.slice px nx cx,.bool tx,.slice yx mx dx],[.bool sg,.slice pg ng cg,.bool tg,.slice yg mg dg]]) (by rfl) rfl (bq.cons ((xin.kp aR).inq) (bq.cons (qg.ki zR) bq.nil)) (bB rfl) bV) aa (bB rfl)).mono ?_)
    rintro o Pu ⟨r21,rfl,zx,z21,hb21⟩
    replace zx:bI Pu r21 (et iR x [rm]):=zx
    obtain ⟨s21,p21,n21,c21,t21,y21,m21,d21,rfl⟩:=zx.form
    refine ⟨_,rfl,hb21,fun kb21 _ bb21=>wV rfl ?_⟩
    refine ab ?_
    rw [eF] at zx
    obtain ⟨cn,Nf⟩:∃ c,ea (ae x rm) 0=c:=⟨_,rfl⟩
    refine VO.call rfl rfl (fk Tryz.func52) (fun wa22 ka22 ba22=>(uh _ (ae x rm) 82 wa22 (zx.ki zN) aa cn Nf).mono ?_)
    rintro e w22 ⟨rfl,hb22⟩
    skip
    refine ⟨_,rfl,hb22,fun kb22 _ bb22=>wV rfl ?_⟩
    refine ab ?_
    by_cases mK:0 < ae x rm
    ·refine VS.aP rfl (decide_eq_true ((Ah Nf).2.2.2.1 mK)) ?_
     refine ab ?_
     have Mf:us++(if 0 < ae x rm then [(v,z,ae x rm)] else [])=us++[(v,z,ae x rm)]:=by rw [if_pos mK]
     refine VO.BD (cJ _ _) (ir 82) (t:=62) (e:=106) (s:=94) (a:=(v,z,ae x rm)) (cs:=[.int .i64 (v:Int),.int .i64 (z:Int),.bool s21,.slice p21 n21 c21,.bool t21,.slice y21 m21 d21]) rfl rfl rfl rfl rfl rfl rfl rfl (bB rfl) rfl rfl rfl ⟨[.bool s21,.slice p21 n21 c21,.bool t21,.slice y21 m21 d21],rfl,dV (zx.k) zN⟩ aa (fun CZ cu3 spu2 k19 b19 Mg=>wV rfl ?_)
     refine ab ?_
     replace Mg:iB (LY 82) 6 CZ 1 cu3 [[.int .i64 (v:Int),.int .i64 (z:Int),.bool s21,.slice p21 n21 c21,.bool t21,.slice y21 m21 d21]] spu2 (us++[(v,z,ae x rm)]):=by rw [sI];exact Mg
     refine VO.cond rfl du ?_
     refine wV rfl ?_
     refine ab ?_
     refine VO.cT rfl (([.bool sx,.slice px nx cx,.bool tx,.slice yx mx dx]:List Value).map .val) rfl (hcell 0 _ ⟨[],rfl⟩) (wV rfl ?_)
     refine ab ?_
     refine VO.call rfl rfl (fk Tryz.func51) (fun Mh ka23 ba23=>(dy _ _ x (ae x rm) 82 82 Mh ((xin.kp aR).inq) (zx.ki zN) aa aa).mono ?_)
     rintro e w23 ⟨r23,rfl,Ud,Mi⟩
     obtain ⟨PA,PB,PC,PD,t23,PE,PF,d23,rfl⟩:=Ud.form
     refine ⟨_,rfl,Mi,fun kb23 _ bb23=>wV rfl ?_⟩
     refine ab ?_
     refine VO.cond rfl du ?_
     refine wV rfl ?_
     refine ab ?_
     have Cn:=kc.set (bl 82) (i:=v) (cs:=[.bool PA,.slice PB PC PD,.bool t23,.slice PE PF d23]) (a:=x - ae x rm) (w':=w23) aR (dV (Ud.kr) zX2)
     refine VO.cond rfl (by show 0 + ((v:Int)).toNat * 4 + 4≤_;rw [kc.fl,Int.toNat_natCast];have:=kc.le;omega) (VO.dG 115 rfl (jc (new:=[.bool PA,.slice PB PC PD,.bool t23,.slice PE PF d23]) (kc.el.lens (bl 82)) (by rw [kc.el.len,<-kc.len];omega) rfl) (wV rfl ?_))
     refine ab ?_
     refine VO.call rfl rfl (fk Tryz.func51) (fun Mj ka24 ba24=>(dy _ _ rm (ae x rm) 82 82 Mj (qg.ki zR) (zx.ki zN) aa aa).mono ?_)
     rintro e w24 ⟨r24,rfl,Ue,Mk⟩
     obtain ⟨s24,p24,n24,c24,t24,y24,m24,d24,rfl⟩:=Ue.form
     refine ⟨_,rfl,Mk,fun kb24 _ bb24=>wV rfl ?_⟩
     refine ab ?_
     refine VO.call rfl rfl (fk Tryz.func27) (fun Ml ka25 ba25=>(gW _ _ ud (ae x rm) 82 82 Ml (qh.ki zU) (zx.ki zN) aa aa).mono ?_)
     rintro e w25 ⟨r25,rfl,Uf,Mn⟩
     obtain ⟨s25,p25,n25,c25,t25,y25,m25,d25,rfl⟩:=Uf.form
     refine ⟨_,rfl,Mn,fun kb25 _ bb25=>wV rfl ?_⟩
     refine ab ?_
     refine VS.back (z - (v + 1)) aa ⟨_,_,?_,?_,?_,?_,⟨v + 1,lf.set v (x - ae x rm),us++(if 0 < ae x rm then [(v,z,ae x rm)] else []),rm - ae x rm,ud + ae x rm,s24,p24,n24,c24,t24,y24,m24,d24,s25,p25,n25,c25,t25,y25,m25,d25,_,Ai,by omega,rfl,hI2,Ue.kr,Uf.kr,Cn.kp (bl 82) aR,aR,.inr ⟨1,[[.int .i64 (v:Int),.int .i64 (z:Int),.bool s21,.slice p21 n21 c21,.bool t21,.slice y21 m21 d21]],spu2,cu3,by rw [Mf];exact Mg.kp (ir 82) aR,rfl,rfl⟩⟩⟩
     ·refine ⟨rfl,rfl,rfl,rfl,rfl,rfl,rfl,rfl,rfl,rfl,rfl,rfl,?_,trivial⟩
      rw [<-aE (i:=v) aa];rfl
     ·exact bT
     ·rfl
     ·exact ⟨.vals _,.lit rfl,.lit rfl,.vals _,.vals _,.vals _,.vals _,.vals _,.vals _,Cn.ja,ma.ja,Mg.ja,trivial⟩
    ·refine VS.aQ rfl (decide_eq_false ((Ah Nf).1 (Rat.not_lt.1 mK))) ?_
     refine ab ?_
     have Mf:us++(if 0 < ae x rm then [(v,z,ae x rm)] else [])=us:=by rw [if_neg mK,List.append_nil]
     refine VO.cond rfl du ?_
     refine wV rfl ?_
     refine ab ?_
     refine VO.cT rfl (([.bool sx,.slice px nx cx,.bool tx,.slice yx mx dx]:List Value).map .val) rfl (hcell 0 _ ⟨[],rfl⟩) (wV rfl ?_)
     refine ab ?_
     refine VO.call rfl rfl (fk Tryz.func51) (fun Mh ka23 ba23=>(dy _ _ x (ae x rm) 82 82 Mh ((xin.kp aR).inq) (zx.ki zN) aa aa).mono ?_)
     rintro e w23 ⟨r23,rfl,Ud,Mi⟩
     obtain ⟨PA,PB,PC,PD,t23,PE,PF,d23,rfl⟩:=Ud.form
     refine ⟨_,rfl,Mi,fun kb23 _ bb23=>wV rfl ?_⟩
     refine ab ?_
     refine VO.cond rfl du ?_
     refine wV rfl ?_
     refine ab ?_
     have Cn:=kc.set (bl 82) (i:=v) (cs:=[.bool PA,.slice PB PC PD,.bool t23,.slice PE PF d23]) (a:=x - ae x rm) (w':=w23) aR (dV (Ud.kr) zX2)
     refine VO.cond rfl (by show 0 + ((v:Int)).toNat * 4 + 4≤_;rw [kc.fl,Int.toNat_natCast];have:=kc.le;omega) (VO.dG 115 rfl (jc (new:=[.bool PA,.slice PB PC PD,.bool t23,.slice PE PF d23]) (kc.el.lens (bl 82)) (by rw [kc.el.len,<-kc.len];omega) rfl) (wV rfl ?_))
     refine ab ?_
     refine VO.call rfl rfl (fk Tryz.func51) (fun Mj ka24 ba24=>(dy _ _ rm (ae x rm) 82 82 Mj (qg.ki zR) (zx.ki zN) aa aa).mono ?_)
     rintro e w24 ⟨r24,rfl,Ue,Mk⟩
     obtain ⟨s24,p24,n24,c24,t24,y24,m24,d24,rfl⟩:=Ue.form
     refine ⟨_,rfl,Mk,fun kb24 _ bb24=>wV rfl ?_⟩
     refine ab ?_
     refine VO.call rfl rfl (fk Tryz.func27) (fun Ml ka25 ba25=>(gW _ _ ud (ae x rm) 82 82 Ml (qh.ki zU) (zx.ki zN) aa aa).mono ?_)
     rintro e w25 ⟨r25,rfl,Uf,Mn⟩
     obtain ⟨s25,p25,n25,c25,t25,y25,m25,d25,rfl⟩:=Uf.form
     refine ⟨_,rfl,Mn,fun kb25 _ bb25=>wV rfl ?_⟩
     refine ab ?_
     refine VS.back (z - (v + 1)) aa ⟨_,_,?_,?_,?_,?_,⟨v + 1,lf.set v (x - ae x rm),us++(if 0 < ae x rm then [(v,z,ae x rm)] else []),rm - ae x rm,ud + ae x rm,s24,p24,n24,c24,t24,y24,m24,d24,s25,p25,n25,c25,t25,y25,m25,d25,_,Ai,by omega,rfl,hI2,Ue.kr,Uf.kr,Cn.kp (bl 82) aR,aR,.inl ⟨by rw [Mf];exact sI,rfl,rfl⟩⟩⟩
     ·refine ⟨rfl,rfl,rfl,rfl,rfl,rfl,rfl,rfl,rfl,rfl,rfl,rfl,?_,trivial⟩
      rw [<-aE (i:=v) aa];rfl
     ·exact bT
     ·rfl
     ·exact ⟨.vals _,.lit rfl,.lit rfl,.vals _,.vals _,.vals _,.vals _,.vals _,.vals _,Cn.ja,ma.ja,trivial⟩
   ·refine VS.aQ rfl (decide_eq_false (fun e=>jg (Int.ofNat_lt.1 e))) ?_
    have hvz2:v=z:=by omega
    rw [hvz2] at hI
    obtain ⟨f1,f2,f3⟩:=hI.fin
    have Ka:Iz D SM/\0≤SM/\SM≤RM:=by rw [<-f3];exact ⟨hI.uI,hI.u0,by have:=hI.sm;have:=hI.r0;grind⟩
    rw [f1] at kc
    rw [f2] at sI
    rw [f3] at qh
    refine ab ?_
    have zSM:=hM.sz SM Ka.1 dt dt
    have zAS:=hM.sz _ (g1.add Ka.1) dt dt
    have NN:eM 0 82:=eM.zero.mono aa
    refine VO.vx (cJ _ _) (bl 82) (t:=102) (e:=55) (s:=114) (i:=115) (n:=z) (c:=cl) (vs:=CB) (sp:=Ai) (es:=LF) (a:=DN) (cs:=[.bool s4,.slice p4 n4 c4,.bool t4,.slice y4 m4 d4]) rfl rfl rfl rfl rfl rfl rfl rfl (bB rfl) rfl (.inr rfl) rfl (kc.kp (bl 82) aR) rfl (dV (q4.k) zDN) aa (fun w16 TR Cl ρ16 k16 b16 hρ16 fK=>(VO.dG 129 rfl (cL ma.cQ _ _) (wV rfl ?_)))
    refine ab ?_
    refine VO.call rfl rfl (fk Tryz.func27) (fun TS ka17 ba17=>(gW _ _ AL SM 82 82 TS (q3.ki PT) (qh.ki zSM) aa aa).mono ?_)
    rintro e w17 ⟨r17,rfl,q17,TT⟩
    obtain ⟨TU,TV,TW,TX,t17,TY,TZ,d17,rfl⟩:=q17.form
    refine ⟨_,rfl,TT,fun kb17 _ bb17=>wV rfl ?_⟩
    refine ab ?_
    refine VO.vx (cJ _ _) (cz 82) (t:=61) (e:=108) (s:=128) (i:=129) (n:=z) (c:=cr) (vs:=kG) (sp:=nt) (es:=(runT S.q F.q kn (bX (l.take z))).rows) (a:=(⟨LM,AL,DN,SM,AL + SM,0,0⟩:aL)) (cs:=[.bool s2,.slice p2 n2 c2,.bool t2,.slice y2 m2 d2,.bool s3,.slice p3 n3 c3,.bool t3,.slice y3 m3 d3,.bool s4,.slice p4 n4 c4,.bool t4,.slice y4 m4 d4,.bool sh,.slice ph nh ch,.bool th,.slice yh mh dh,.bool TU,.slice TV TW TX,.bool t17,.slice TY TZ d17,.bool s0,.slice p0 n0 c0,.bool t0,.slice y0 m0 d0,.bool s0,.slice p0 n0 c0,.bool t0,.slice y0 m0 d0]) rfl rfl rfl rfl rfl rfl rfl rfl (bB rfl) rfl (.inr rfl) rfl (ma.kp (cz 82) aR) rfl ⟨[.bool s2,.slice p2 n2 c2,.bool t2,.slice y2 m2 d2],[.bool s3,.slice p3 n3 c3,.bool t3,.slice y3 m3 d3],[.bool s4,.slice p4 n4 c4,.bool t4,.slice y4 m4 d4],[.bool sh,.slice ph nh ch,.bool th,.slice yh mh dh],[.bool TU,.slice TV TW TX,.bool t17,.slice TY TZ d17],[.bool s0,.slice p0 n0 c0,.bool t0,.slice y0 m0 d0],[.bool s0,.slice p0 n0 c0,.bool t0,.slice y0 m0 d0],rfl,dV (q2.k) zLM,dV (q3.k) PT,dV (q4.k) zDN,dV (qh.k) zSM,dV (q17.kr) zAS,dV (q0.k) NN,dV (q0.k) NN⟩ aa (fun w18 Ua Cm ρ18 k18 b18 hρ18 gu=>(VO.dG 115 rfl (cL fK.cQ _ _) (wV rfl ?_)))
    refine ab ?_
    obtain ⟨Kb,yf⟩:∃ vs,vs=(CB++[[.bool s4,.slice p4 n4 c4,.bool t4,.slice y4 m4 d4]]:List (List Value)):=⟨_,rfl⟩
    obtain ⟨Kc,yi⟩:∃ vs,vs=(kG++[[.bool s2,.slice p2 n2 c2,.bool t2,.slice y2 m2 d2,.bool s3,.slice p3 n3 c3,.bool t3,.slice y3 m3 d3,.bool s4,.slice p4 n4 c4,.bool t4,.slice y4 m4 d4,.bool sh,.slice ph nh ch,.bool th,.slice yh mh dh,.bool TU,.slice TV TW TX,.bool t17,.slice TY TZ d17,.bool s0,.slice p0 n0 c0,.bool t0,.slice y0 m0 d0,.bool s0,.slice p0 n0 c0,.bool t0,.slice y0 m0 d0]]:List (List Value)):=⟨_,rfl⟩
    obtain ⟨RW,Me⟩:∃ RW,RW=(runT S.q F.q kn (bX (l.take z))).rows++[(⟨LM,AL,DN,SM,AL + SM,0,0⟩:aL)]:=⟨_,rfl⟩
    obtain ⟨LL,Og⟩:∃ LL,LL=LF++[DN]:=⟨_,rfl⟩
    obtain ⟨z1,ik⟩:∃ z1,z1=z + 1:=⟨_,rfl⟩
    rw [<-yf,<-Og,<-ik] at fK
    rw [<-yi,<-Me,<-ik] at gu
    rw [<-ik] at oW vZ wh
    rw [<-Me,<-Og] at oW
    refine VS.narrow [(1,.val (.slice (some ⟨b,off,none⟩) N cu)),(2,.box 2 0),(4,.box 4 0),(6,.box 6 0),(7,.box 7 0),(8,.row 115 0 z1 TR),(9,.val (.int .i64 (z:Int))),(134,.val (.bool (decide ((z:Int)≥(kn:Int)))))] [(2,(57,([.bool S.1,.slice Ma S.2.1.length Mb,.bool S.2.2.1,.slice Mc S.2.2.2.length Md,.bool F.1,.slice GL F.2.1.length GM,.bool F.2.2.1,.slice GN F.2.2.2.length GO,.int .i64 (kn:Int)]:List Value).map .val)),(4,(64,[.val (.slice none 0 0),.val (.slice none 0 0)])),(6,(64,[.row 129 0 z1 Ua,.val (.slice none 0 0)])),(7,(55,([.bool s0,.slice p0 n0 c0,.bool t0,.slice y0 m0 d0]:List Value).map .val)),(115,(55,Kb.flatten.map .val++Cl)),(129,(108,Kc.flatten.map .val++Cm))] ⟨rfl,rfl,rfl,rfl,rfl,by rw [ik];rfl,rfl,rfl,trivial⟩ ⟨rfl,rfl,by rw [ik];rfl,rfl,by rw [yf];rfl,by rw [yi];rfl,trivial⟩ rfl ⟨.vals _,.lit rfl,.lit rfl,.vals _,fK.ja,gu.ja,trivial⟩ ?_
    have hll:LL.length=z1:=fK.len.symm
    have hrwl:RW.length=z1:=gu.len.symm
    by_cases hkz:kn≤z
    ·refine VS.aP rfl (decide_eq_true (show (z:Int)≥(kn:Int) by omega)) ?_
     refine ab ?_
     obtain ⟨ix,hix⟩:∃ ix,ix=z - kn:=⟨_,rfl⟩
     have NP:IntKind.i64.wrap ((z:Int) - (kn:Int))=((ix:Nat):Int):=by rw [IntKind.wrap_i64];omega
     obtain ⟨rx,NQ⟩:∃ r,RW[ix]? =some r:=⟨_,List.getElem?_eq_getElem aa⟩
     obtain ⟨lx,mi⟩:∃ x,LL[ix]? =some x:=⟨_,List.getElem?_eq_getElem aa⟩
     obtain ⟨yw,qz,uw,CE,hcell⟩:=gu.cell (cz 82) NQ
     obtain ⟨yB,yC,yD,yG,yH,yI,yJ,yK,yL,yM,yO,yP,yQ,yR,yT,yU,yV,yW,yX,yY,yZ,za,zb,zc,zd,ze,zf,zg,zh,zi,zj,zl,zm,zn,zo,zp,zt,zu,zv,zw,Gk,Gl,Gm,Gn,Gp,Gq,Gr,Gs,Gt,Gu,Gv,Gw,Gx,Gy,Gz,GA,rfl,x0,x1,x2,x3,x4,x5,x6⟩:=uw.opn
     refine VO.fix 140 rfl (congrArg (fun z=>AV.val (.int .i64 z)) (NP)) ?_
     refine VO.cond rfl du ?_
     refine wV rfl ?_
     refine ab ?_
     refine VO.cT rfl (([.bool yB,.slice yC yD yG,.bool yH,.slice yI yJ yK,.bool yL,.slice yM yO yP,.bool yQ,.slice yR yT yU,.bool yV,.slice yW yX yY,.bool yZ,.slice za zb zc,.bool zd,.slice ze zf zg,.bool zh,.slice zi zj zl,.bool zm,.slice zn zo zp,.bool zt,.slice zu zv zw,.bool Gk,.slice Gl Gm Gn,.bool Gp,.slice Gq Gr Gs,.bool Gt,.slice Gu Gv Gw,.bool Gx,.slice Gy Gz GA]:List Value).map .val) rfl (hcell 0 _ ⟨[],rfl⟩) (wV rfl ?_)
     refine ab ?_
     refine VO.fix 147 rfl (congrArg (fun z=>AV.val (.int .i64 z)) (NP)) ?_
     refine VO.cond rfl du ?_
     refine wV rfl ?_
     refine ab ?_
     obtain ⟨csl,hcsl,Qf,hll2,pZ⟩:=fK.cell (bl 82) mi
     obtain ⟨Db,Dc,Dd,De,Df,Dg,Dh,del,rfl,xl⟩:=Qf.opn
     refine VO.cT rfl (([.bool Db,.slice Dc Dd De,.bool Df,.slice Dg Dh del]:List Value).map .val) rfl (pZ 0 _ ⟨[],rfl⟩) (wV rfl ?_)
     refine ab ?_
     refine VO.fix 156 rfl (congrArg (fun z=>AV.val (.int .i64 z)) (NP)) ?_
     refine VO.cond rfl du ?_
     refine wV rfl ?_
     refine ab ?_
     have Ub:=gu.fl
     have hler:=gu.le
     have Uc:=fK.fl
     have hlel:=fK.le
     refine VO.cond rfl (by show 0 + ((ix:Int)).toNat * 28 + 28≤_;rw [Ub,Int.toNat_natCast];omega) (VO.dG 129 rfl (jc (new:=[.bool yB,.slice yC yD yG,.bool yH,.slice yI yJ yK,.bool yL,.slice yM yO yP,.bool yQ,.slice yR yT yU,.bool yV,.slice yW yX yY,.bool yZ,.slice za zb zc,.bool zd,.slice ze zf zg,.bool zh,.slice zi zj zl,.bool zm,.slice zn zo zp,.bool zt,.slice zu zv zw,.bool Db,.slice Dc Dd De,.bool Df,.slice Dg Dh del,.bool Gt,.slice Gu Gv Gw,.bool Gx,.slice Gy Gz GA]) (gu.el.lens (cz 82)) (by rw [gu.el.len];omega) rfl) (wV rfl ?_))
     refine ab ?_
     refine VO.fix 163 rfl (congrArg (fun z=>AV.val (.int .i64 z)) (NP)) ?_
     refine VO.cond rfl du ?_
     refine wV rfl ?_
     refine ab ?_
     refine VO.cond rfl (by show 0 + ((ix:Int)).toNat * 4 + 4≤_;rw [Uc,Int.toNat_natCast];omega) (VO.dG 115 rfl (jc (new:=[.bool s0,.slice p0 n0 c0,.bool t0,.slice y0 m0 d0]) (fK.el.lens (bl 82)) (by rw [fK.el.len];omega) rfl) (wV rfl ?_))
     refine ab ?_
     have eO:runT S.q F.q kn (bX (l.take z1))=⟨LL.set ix 0,RW.modify ix (fun r=>{ r with aq:=lx }),US⟩:=by
      rw [oW]
      unfold qu
      rw [if_pos hkz,<-hix]
      dsimp only
      rw [List.getD_eq_getElem?_getD,mi];rfl
     refine VS.back (N - z1) aa ⟨_,_,?_,?_,?_,?_,⟨z1,s0,p0,n0,c0,t0,y0,m0,d0,by omega,rfl,vZ,wh,q0.k,.inr ⟨by omega,_,Cl,TR,_,Cm,Ua,by rw [eO];exact fK.set (bl 82) aR (dV (q0.k) NN),by rw [eO,ek NQ];exact gu.set (cz 82) aR ⟨[.bool yB,.slice yC yD yG,.bool yH,.slice yI yJ yK],[.bool yL,.slice yM yO yP,.bool yQ,.slice yR yT yU],[.bool yV,.slice yW yX yY,.bool yZ,.slice za zb zc],[.bool zd,.slice ze zf zg,.bool zh,.slice zi zj zl],[.bool zm,.slice zn zo zp,.bool zt,.slice zu zv zw],[.bool Db,.slice Dc Dd De,.bool Df,.slice Dg Dh del],[.bool Gt,.slice Gu Gv Gw,.bool Gx,.slice Gy Gz GA],rfl,(bl 82).kp x0 aR,(bl 82).kp x1 aR,(bl 82).kp x2 aR,(bl 82).kp x3 aR,(bl 82).kp x4 aR,(bl 82).kp xl aR,(bl 82).kp x6 aR⟩,.inl ⟨by rw [eO];exact sI,rfl,rfl⟩⟩⟩⟩
     ·refine ⟨rfl,rfl,rfl,rfl,rfl,rfl,?_,trivial⟩
      rw [ik,<-aE (i:=z) aa];rfl
     ·exact bT
     ·rfl
     ·exact ⟨.vals _,.lit rfl,.lit rfl,.vals _,(fK.set (bl 82) (kR _) (dV (q0.k) NN)).ja,.append (.vals _) (.none gu.sl),trivial⟩
    ·refine VS.aQ rfl (decide_eq_false (show ¬ (z:Int)≥(kn:Int) by omega)) ?_
     refine ab ?_
     have eO:runT S.q F.q kn (bX (l.take z1))=⟨LL,RW,US⟩:=by
      rw [oW]
      unfold qu
      rw [if_neg hkz]
     refine VS.back (N - z1) aa ⟨_,_,?_,?_,?_,?_,⟨z1,s0,p0,n0,c0,t0,y0,m0,d0,by omega,rfl,vZ,wh,q0.k,.inr ⟨by omega,Kb,Cl,TR,Kc,Cm,Ua,by rw [eO];exact fK.kp (bl 82) aR,by rw [eO];exact gu.kp (cz 82) aR,.inl ⟨by rw [eO];exact sI,rfl,rfl⟩⟩⟩⟩
     ·refine ⟨rfl,rfl,rfl,rfl,rfl,rfl,?_,trivial⟩
      rw [ik,<-aE (i:=z) aa];rfl
     ·exact bT
     ·rfl
     ·exact ⟨.vals _,.lit rfl,.lit rfl,.vals _,fK.ja,gu.ja,trivial⟩
  ·refine ab ?_
   by_cases jg:v < z
   ·obtain ⟨x,hx⟩:∃ x,lf[v]? =some x:=⟨_,List.getElem?_eq_getElem (by have:=hI.len;omega)⟩
    obtain ⟨x1,x2,x3⟩:=hI.el x (List.mem_of_getElem? hx)
    have hI2:=hI.step hx jg
    have nk:Iz D (ae x rm):=by rcases cj x rm with ⟨e,_⟩ | ⟨e,_⟩ <;> rw [e];exact x1;exact hI.rI
    have nB:0≤ae x rm:=by have:=hI.r0;rcases cj x rm with ⟨e,_⟩ | ⟨e,_⟩ <;> rw [e] <;> assumption
    have CL:=dw x rm
    have hru:=hI.sm
    have Aq:=hI.r0
    have hu0:=hI.u0
    have zX:=hM.sz x x1 dt x3
    have zR:=hM.sz rm hI.rI dt dt
    have zU:=hM.sz ud hI.uI dt dt
    have zN:=hM.sz _ nk dt dt
    have zX2:=hM.sz _ (x1.sub nk) dt dt
    obtain ⟨csx,hcsx,Tn,mi,hcell⟩:=kc.cell (bl 82) hx
    obtain ⟨sx,px,nx,cx,tx,yx,mx,dx,rfl,xin⟩:=Tn.opn
    refine VS.aP rfl (decide_eq_true (Int.ofNat_lt.2 jg)) ?_
    refine ab ?_
    refine VO.cond rfl du ?_
    refine wV rfl ?_
    refine ab ?_
    refine VO.cT rfl (([.bool sx,.slice px nx cx,.bool tx,.slice yx mx dx]:List Value).map .val) rfl (hcell 0 _ ⟨[],rfl⟩) (wV rfl ?_)
    refine ab ?_
    refine VO.eK rfl (fk Tryz.func50) (fun wa21 β21 ka21 ba21 ho21=>(mA _ x [rm] 82 wa21 (cX (ho21.own 83 (.base (List.mem_singleton.2 rfl)) _ _ rfl) [] (vs:=[[.bool sx,.slice px nx cx,.bool tx,.slice yx mx dx],[.bool sg,.slice pg ng cg,.bool tg,.slice yg mg dg]]) (by rfl) rfl (bq.cons ((xin.kp aR).inq) (bq.cons (qg.ki zR) bq.nil)) (bB rfl) bV) aa (bB rfl)).mono ?_)
    rintro o Pu ⟨r21,rfl,zx,z21,hb21⟩
    replace zx:bI Pu r21 (et iR x [rm]):=zx
    obtain ⟨s21,p21,n21,c21,t21,y21,m21,d21,rfl⟩:=zx.form
    refine ⟨_,rfl,hb21,fun kb21 _ bb21=>wV rfl ?_⟩
    refine ab ?_
    rw [eF] at zx
    obtain ⟨cn,Nf⟩:∃ c,ea (ae x rm) 0=c:=⟨_,rfl⟩
    refine VO.call rfl rfl (fk Tryz.func52) (fun wa22 ka22 ba22=>(uh _ (ae x rm) 82 wa22 (zx.ki zN) aa cn Nf).mono ?_)
    rintro e w22 ⟨rfl,hb22⟩
    skip
    refine ⟨_,rfl,hb22,fun kb22 _ bb22=>wV rfl ?_⟩
    refine ab ?_
    by_cases mK:0 < ae x rm
    ·refine VS.aP rfl (decide_eq_true ((Ah Nf).2.2.2.1 mK)) ?_
     refine ab ?_
     have Mf:us++(if 0 < ae x rm then [(v,z,ae x rm)] else [])=us++[(v,z,ae x rm)]:=by rw [if_pos mK]
     have hkul:=hI.ul
     rw [<-wm.len] at hkul
     refine VO.vx (cJ _ _) (ir 82) (t:=62) (e:=106) (s:=94) (i:=95) (n:=ku) (c:=Da) (vs:=xj) (sp:=xY) (es:=us) (a:=(v,z,ae x rm)) (cs:=[.int .i64 (v:Int),.int .i64 (z:Int),.bool s21,.slice p21 n21 c21,.bool t21,.slice y21 m21 d21]) rfl rfl rfl rfl rfl rfl rfl rfl (bB rfl) rfl (.inr rfl) rfl (wm.kp (ir 82) aR) rfl ⟨[.bool s21,.slice p21 n21 c21,.bool t21,.slice y21 m21 d21],rfl,dV (zx.k) zN⟩ aa (fun CZ cu3 spu2 ρ19 k19 b19 hρ19 Mg=>VO.dG 115 rfl (cL kc.cQ _ _) (VO.dG 129 rfl (cL ma.cQ _ _) (wV rfl ?_)))
     refine ab ?_
     refine VO.cond rfl du ?_
     refine wV rfl ?_
     refine ab ?_
     refine VO.cT rfl (([.bool sx,.slice px nx cx,.bool tx,.slice yx mx dx]:List Value).map .val) rfl (hcell 0 _ ⟨[],rfl⟩) (wV rfl ?_)
     refine ab ?_
     refine VO.call rfl rfl (fk Tryz.func51) (fun Mh ka23 ba23=>(dy _ _ x (ae x rm) 82 82 Mh ((xin.kp aR).inq) (zx.ki zN) aa aa).mono ?_)
     rintro e w23 ⟨r23,rfl,Ud,Mi⟩
     obtain ⟨PA,PB,PC,PD,t23,PE,PF,d23,rfl⟩:=Ud.form
     refine ⟨_,rfl,Mi,fun kb23 _ bb23=>wV rfl ?_⟩
     refine ab ?_
     refine VO.cond rfl du ?_
     refine wV rfl ?_
     refine ab ?_
     have Cn:=kc.set (bl 82) (i:=v) (cs:=[.bool PA,.slice PB PC PD,.bool t23,.slice PE PF d23]) (a:=x - ae x rm) (w':=w23) aR (dV (Ud.kr) zX2)
     refine VO.cond rfl (by show 0 + ((v:Int)).toNat * 4 + 4≤_;rw [kc.fl,Int.toNat_natCast];have:=kc.le;omega) (VO.dG 115 rfl (jc (new:=[.bool PA,.slice PB PC PD,.bool t23,.slice PE PF d23]) (kc.el.lens (bl 82)) (by rw [kc.el.len,<-kc.len];omega) rfl) (wV rfl ?_))
     refine ab ?_
     refine VO.call rfl rfl (fk Tryz.func51) (fun Mj ka24 ba24=>(dy _ _ rm (ae x rm) 82 82 Mj (qg.ki zR) (zx.ki zN) aa aa).mono ?_)
     rintro e w24 ⟨r24,rfl,Ue,Mk⟩
     obtain ⟨s24,p24,n24,c24,t24,y24,m24,d24,rfl⟩:=Ue.form
     refine ⟨_,rfl,Mk,fun kb24 _ bb24=>wV rfl ?_⟩
     refine ab ?_
     refine VO.call rfl rfl (fk Tryz.func27) (fun Ml ka25 ba25=>(gW _ _ ud (ae x rm) 82 82 Ml (qh.ki zU) (zx.ki zN) aa aa).mono ?_)
     rintro e w25 ⟨r25,rfl,Uf,Mn⟩
     obtain ⟨s25,p25,n25,c25,t25,y25,m25,d25,rfl⟩:=Uf.form
     refine ⟨_,rfl,Mn,fun kb25 _ bb25=>wV rfl ?_⟩
     refine ab ?_
     refine VS.back (z - (v + 1)) aa ⟨_,_,?_,?_,?_,?_,⟨v + 1,lf.set v (x - ae x rm),us++(if 0 < ae x rm then [(v,z,ae x rm)] else []),rm - ae x rm,ud + ae x rm,s24,p24,n24,c24,t24,y24,m24,d24,s25,p25,n25,c25,t25,y25,m25,d25,_,Ai,by omega,rfl,hI2,Ue.kr,Uf.kr,Cn.kp (bl 82) aR,aR,.inr ⟨ku + 1,(xj++[[.int .i64 (v:Int),.int .i64 (z:Int),.bool s21,.slice p21 n21 c21,.bool t21,.slice y21 m21 d21]]),spu2,cu3,by rw [Mf];exact Mg.kp (ir 82) aR,rfl,rfl⟩⟩⟩
     ·refine ⟨rfl,rfl,rfl,rfl,rfl,rfl,rfl,rfl,rfl,rfl,rfl,rfl,?_,trivial⟩
      rw [<-aE (i:=v) aa];rfl
     ·exact bT
     ·rfl
     ·exact ⟨.vals _,.lit rfl,.lit rfl,.vals _,.vals _,.vals _,.vals _,.vals _,.vals _,Cn.ja,ma.ja,Mg.ja,trivial⟩
    ·refine VS.aQ rfl (decide_eq_false ((Ah Nf).1 (Rat.not_lt.1 mK))) ?_
     refine ab ?_
     have Mf:us++(if 0 < ae x rm then [(v,z,ae x rm)] else [])=us:=by rw [if_neg mK,List.append_nil]
     refine VO.cond rfl du ?_
     refine wV rfl ?_
     refine ab ?_
     refine VO.cT rfl (([.bool sx,.slice px nx cx,.bool tx,.slice yx mx dx]:List Value).map .val) rfl (hcell 0 _ ⟨[],rfl⟩) (wV rfl ?_)
     refine ab ?_
     refine VO.call rfl rfl (fk Tryz.func51) (fun Mh ka23 ba23=>(dy _ _ x (ae x rm) 82 82 Mh ((xin.kp aR).inq) (zx.ki zN) aa aa).mono ?_)
     rintro e w23 ⟨r23,rfl,Ud,Mi⟩
     obtain ⟨PA,PB,PC,PD,t23,PE,PF,d23,rfl⟩:=Ud.form
     refine ⟨_,rfl,Mi,fun kb23 _ bb23=>wV rfl ?_⟩
     refine ab ?_
     refine VO.cond rfl du ?_
     refine wV rfl ?_
     refine ab ?_
     have Cn:=kc.set (bl 82) (i:=v) (cs:=[.bool PA,.slice PB PC PD,.bool t23,.slice PE PF d23]) (a:=x - ae x rm) (w':=w23) aR (dV (Ud.kr) zX2)
     refine VO.cond rfl (by show 0 + ((v:Int)).toNat * 4 + 4≤_;rw [kc.fl,Int.toNat_natCast];have:=kc.le;omega) (VO.dG 115 rfl (jc (new:=[.bool PA,.slice PB PC PD,.bool t23,.slice PE PF d23]) (kc.el.lens (bl 82)) (by rw [kc.el.len,<-kc.len];omega) rfl) (wV rfl ?_))
     refine ab ?_
     refine VO.call rfl rfl (fk Tryz.func51) (fun Mj ka24 ba24=>(dy _ _ rm (ae x rm) 82 82 Mj (qg.ki zR) (zx.ki zN) aa aa).mono ?_)
     rintro e w24 ⟨r24,rfl,Ue,Mk⟩
     obtain ⟨s24,p24,n24,c24,t24,y24,m24,d24,rfl⟩:=Ue.form
     refine ⟨_,rfl,Mk,fun kb24 _ bb24=>wV rfl ?_⟩
     refine ab ?_
     refine VO.call rfl rfl (fk Tryz.func27) (fun Ml ka25 ba25=>(gW _ _ ud (ae x rm) 82 82 Ml (qh.ki zU) (zx.ki zN) aa aa).mono ?_)
     rintro e w25 ⟨r25,rfl,Uf,Mn⟩
     obtain ⟨s25,p25,n25,c25,t25,y25,m25,d25,rfl⟩:=Uf.form
     refine ⟨_,rfl,Mn,fun kb25 _ bb25=>wV rfl ?_⟩
     refine ab ?_
     refine VS.back (z - (v + 1)) aa ⟨_,_,?_,?_,?_,?_,⟨v + 1,lf.set v (x - ae x rm),us++(if 0 < ae x rm then [(v,z,ae x rm)] else []),rm - ae x rm,ud + ae x rm,s24,p24,n24,c24,t24,y24,m24,d24,s25,p25,n25,c25,t25,y25,m25,d25,_,Ai,by omega,rfl,hI2,Ue.kr,Uf.kr,Cn.kp (bl 82) aR,aR,.inr ⟨ku,xj,xY,Da,by rw [Mf];exact wm.kp (ir 82) aR,rfl,rfl⟩⟩⟩
     ·refine ⟨rfl,rfl,rfl,rfl,rfl,rfl,rfl,rfl,rfl,rfl,rfl,rfl,?_,trivial⟩
      rw [<-aE (i:=v) aa];rfl
     ·exact bT
     ·rfl
     ·exact ⟨.vals _,.lit rfl,.lit rfl,.vals _,.vals _,.vals _,.vals _,.vals _,.vals _,Cn.ja,ma.ja,wm.ja,trivial⟩
   ·refine VS.aQ rfl (decide_eq_false (fun e=>jg (Int.ofNat_lt.1 e))) ?_
    have hvz2:v=z:=by omega
    rw [hvz2] at hI
    obtain ⟨f1,f2,f3⟩:=hI.fin
    have Ka:Iz D SM/\0≤SM/\SM≤RM:=by rw [<-f3];exact ⟨hI.uI,hI.u0,by have:=hI.sm;have:=hI.r0;grind⟩
    rw [f1] at kc
    rw [f2] at wm
    rw [f3] at qh
    refine ab ?_
    have zSM:=hM.sz SM Ka.1 dt dt
    have zAS:=hM.sz _ (g1.add Ka.1) dt dt
    have NN:eM 0 82:=eM.zero.mono aa
    refine VO.vx (cJ _ _) (bl 82) (t:=102) (e:=55) (s:=114) (i:=115) (n:=z) (c:=cl) (vs:=CB) (sp:=Ai) (es:=LF) (a:=DN) (cs:=[.bool s4,.slice p4 n4 c4,.bool t4,.slice y4 m4 d4]) rfl rfl rfl rfl rfl rfl rfl rfl (bB rfl) rfl (.inr rfl) rfl (kc.kp (bl 82) aR) rfl (dV (q4.k) zDN) aa (fun w16 TR Cl ρ16 k16 b16 hρ16 fK=>(VO.dG 129 rfl (cL ma.cQ _ _) (VO.dG 95 rfl (cL wm.cQ _ _) (wV rfl ?_))))
    refine ab ?_
    refine VO.call rfl rfl (fk Tryz.func27) (fun TS ka17 ba17=>(gW _ _ AL SM 82 82 TS (q3.ki PT) (qh.ki zSM) aa aa).mono ?_)
    rintro e w17 ⟨r17,rfl,q17,TT⟩
    obtain ⟨TU,TV,TW,TX,t17,TY,TZ,d17,rfl⟩:=q17.form
    refine ⟨_,rfl,TT,fun kb17 _ bb17=>wV rfl ?_⟩
    refine ab ?_
    refine VO.vx (cJ _ _) (cz 82) (t:=61) (e:=108) (s:=128) (i:=129) (n:=z) (c:=cr) (vs:=kG) (sp:=nt) (es:=(runT S.q F.q kn (bX (l.take z))).rows) (a:=(⟨LM,AL,DN,SM,AL + SM,0,0⟩:aL)) (cs:=[.bool s2,.slice p2 n2 c2,.bool t2,.slice y2 m2 d2,.bool s3,.slice p3 n3 c3,.bool t3,.slice y3 m3 d3,.bool s4,.slice p4 n4 c4,.bool t4,.slice y4 m4 d4,.bool sh,.slice ph nh ch,.bool th,.slice yh mh dh,.bool TU,.slice TV TW TX,.bool t17,.slice TY TZ d17,.bool s0,.slice p0 n0 c0,.bool t0,.slice y0 m0 d0,.bool s0,.slice p0 n0 c0,.bool t0,.slice y0 m0 d0]) rfl rfl rfl rfl rfl rfl rfl rfl (bB rfl) rfl (.inr rfl) rfl (ma.kp (cz 82) aR) rfl ⟨[.bool s2,.slice p2 n2 c2,.bool t2,.slice y2 m2 d2],[.bool s3,.slice p3 n3 c3,.bool t3,.slice y3 m3 d3],[.bool s4,.slice p4 n4 c4,.bool t4,.slice y4 m4 d4],[.bool sh,.slice ph nh ch,.bool th,.slice yh mh dh],[.bool TU,.slice TV TW TX,.bool t17,.slice TY TZ d17],[.bool s0,.slice p0 n0 c0,.bool t0,.slice y0 m0 d0],[.bool s0,.slice p0 n0 c0,.bool t0,.slice y0 m0 d0],rfl,dV (q2.k) zLM,dV (q3.k) PT,dV (q4.k) zDN,dV (qh.k) zSM,dV (q17.kr) zAS,dV (q0.k) NN,dV (q0.k) NN⟩ aa (fun w18 Ua Cm ρ18 k18 b18 hρ18 gu=>(VO.dG 115 rfl (cL fK.cQ _ _) (VO.dG 95 rfl (cL wm.cQ _ _) (wV rfl ?_))))
    refine ab ?_
    obtain ⟨Kb,yf⟩:∃ vs,vs=(CB++[[.bool s4,.slice p4 n4 c4,.bool t4,.slice y4 m4 d4]]:List (List Value)):=⟨_,rfl⟩
    obtain ⟨Kc,yi⟩:∃ vs,vs=(kG++[[.bool s2,.slice p2 n2 c2,.bool t2,.slice y2 m2 d2,.bool s3,.slice p3 n3 c3,.bool t3,.slice y3 m3 d3,.bool s4,.slice p4 n4 c4,.bool t4,.slice y4 m4 d4,.bool sh,.slice ph nh ch,.bool th,.slice yh mh dh,.bool TU,.slice TV TW TX,.bool t17,.slice TY TZ d17,.bool s0,.slice p0 n0 c0,.bool t0,.slice y0 m0 d0,.bool s0,.slice p0 n0 c0,.bool t0,.slice y0 m0 d0]]:List (List Value)):=⟨_,rfl⟩
    obtain ⟨RW,Me⟩:∃ RW,RW=(runT S.q F.q kn (bX (l.take z))).rows++[(⟨LM,AL,DN,SM,AL + SM,0,0⟩:aL)]:=⟨_,rfl⟩
    obtain ⟨LL,Og⟩:∃ LL,LL=LF++[DN]:=⟨_,rfl⟩
    obtain ⟨z1,ik⟩:∃ z1,z1=z + 1:=⟨_,rfl⟩
    rw [<-yf,<-Og,<-ik] at fK
    rw [<-yi,<-Me,<-ik] at gu
    rw [<-ik] at oW vZ wh
    rw [<-Me,<-Og] at oW
    refine VS.narrow [(1,.val (.slice (some ⟨b,off,none⟩) N cu)),(2,.box 2 0),(4,.box 4 0),(6,.box 6 0),(7,.box 7 0),(8,.row 115 0 z1 TR),(9,.val (.int .i64 (z:Int))),(134,.val (.bool (decide ((z:Int)≥(kn:Int)))))] [(2,(57,([.bool S.1,.slice Ma S.2.1.length Mb,.bool S.2.2.1,.slice Mc S.2.2.2.length Md,.bool F.1,.slice GL F.2.1.length GM,.bool F.2.2.1,.slice GN F.2.2.2.length GO,.int .i64 (kn:Int)]:List Value).map .val)),(4,(64,[.val (.slice none 0 0),.val (.slice none 0 0)])),(6,(64,[.row 129 0 z1 Ua,.row 95 0 ku Da])),(7,(55,([.bool s0,.slice p0 n0 c0,.bool t0,.slice y0 m0 d0]:List Value).map .val)),(115,(55,Kb.flatten.map .val++Cl)),(129,(108,Kc.flatten.map .val++Cm)),(95,(106,xj.flatten.map .val++xY))] ⟨rfl,rfl,rfl,rfl,rfl,by rw [ik];rfl,rfl,rfl,trivial⟩ ⟨rfl,rfl,by rw [ik];rfl,rfl,by rw [yf];rfl,by rw [yi];rfl,rfl,trivial⟩ rfl ⟨.vals _,.lit rfl,.lit rfl,.vals _,fK.ja,gu.ja,wm.ja,trivial⟩ ?_
    have hll:LL.length=z1:=fK.len.symm
    have hrwl:RW.length=z1:=gu.len.symm
    by_cases hkz:kn≤z
    ·refine VS.aP rfl (decide_eq_true (show (z:Int)≥(kn:Int) by omega)) ?_
     refine ab ?_
     obtain ⟨ix,hix⟩:∃ ix,ix=z - kn:=⟨_,rfl⟩
     have NP:IntKind.i64.wrap ((z:Int) - (kn:Int))=((ix:Nat):Int):=by rw [IntKind.wrap_i64];omega
     obtain ⟨rx,NQ⟩:∃ r,RW[ix]? =some r:=⟨_,List.getElem?_eq_getElem aa⟩
     obtain ⟨lx,mi⟩:∃ x,LL[ix]? =some x:=⟨_,List.getElem?_eq_getElem aa⟩
     obtain ⟨yw,qz,uw,CE,hcell⟩:=gu.cell (cz 82) NQ
     obtain ⟨yB,yC,yD,yG,yH,yI,yJ,yK,yL,yM,yO,yP,yQ,yR,yT,yU,yV,yW,yX,yY,yZ,za,zb,zc,zd,ze,zf,zg,zh,zi,zj,zl,zm,zn,zo,zp,zt,zu,zv,zw,Gk,Gl,Gm,Gn,Gp,Gq,Gr,Gs,Gt,Gu,Gv,Gw,Gx,Gy,Gz,GA,rfl,x0,x1,x2,x3,x4,x5,x6⟩:=uw.opn
     refine VO.fix 140 rfl (congrArg (fun z=>AV.val (.int .i64 z)) (NP)) ?_
     refine VO.cond rfl du ?_
     refine wV rfl ?_
     refine ab ?_
     refine VO.cT rfl (([.bool yB,.slice yC yD yG,.bool yH,.slice yI yJ yK,.bool yL,.slice yM yO yP,.bool yQ,.slice yR yT yU,.bool yV,.slice yW yX yY,.bool yZ,.slice za zb zc,.bool zd,.slice ze zf zg,.bool zh,.slice zi zj zl,.bool zm,.slice zn zo zp,.bool zt,.slice zu zv zw,.bool Gk,.slice Gl Gm Gn,.bool Gp,.slice Gq Gr Gs,.bool Gt,.slice Gu Gv Gw,.bool Gx,.slice Gy Gz GA]:List Value).map .val) rfl (hcell 0 _ ⟨[],rfl⟩) (wV rfl ?_)
     refine ab ?_
     refine VO.fix 147 rfl (congrArg (fun z=>AV.val (.int .i64 z)) (NP)) ?_
     refine VO.cond rfl du ?_
     refine wV rfl ?_
     refine ab ?_
     obtain ⟨csl,hcsl,Qf,hll2,pZ⟩:=fK.cell (bl 82) mi
     obtain ⟨Db,Dc,Dd,De,Df,Dg,Dh,del,rfl,xl⟩:=Qf.opn
     refine VO.cT rfl (([.bool Db,.slice Dc Dd De,.bool Df,.slice Dg Dh del]:List Value).map .val) rfl (pZ 0 _ ⟨[],rfl⟩) (wV rfl ?_)
     refine ab ?_
     refine VO.fix 156 rfl (congrArg (fun z=>AV.val (.int .i64 z)) (NP)) ?_
     refine VO.cond rfl du ?_
     refine wV rfl ?_
     refine ab ?_
     have Ub:=gu.fl
     have hler:=gu.le
     have Uc:=fK.fl
     have hlel:=fK.le
     refine VO.cond rfl (by show 0 + ((ix:Int)).toNat * 28 + 28≤_;rw [Ub,Int.toNat_natCast];omega) (VO.dG 129 rfl (jc (new:=[.bool yB,.slice yC yD yG,.bool yH,.slice yI yJ yK,.bool yL,.slice yM yO yP,.bool yQ,.slice yR yT yU,.bool yV,.slice yW yX yY,.bool yZ,.slice za zb zc,.bool zd,.slice ze zf zg,.bool zh,.slice zi zj zl,.bool zm,.slice zn zo zp,.bool zt,.slice zu zv zw,.bool Db,.slice Dc Dd De,.bool Df,.slice Dg Dh del,.bool Gt,.slice Gu Gv Gw,.bool Gx,.slice Gy Gz GA]) (gu.el.lens (cz 82)) (by rw [gu.el.len];omega) rfl) (wV rfl ?_))
     refine ab ?_
     refine VO.fix 163 rfl (congrArg (fun z=>AV.val (.int .i64 z)) (NP)) ?_
     refine VO.cond rfl du ?_
     refine wV rfl ?_
     refine ab ?_
     refine VO.cond rfl (by show 0 + ((ix:Int)).toNat * 4 + 4≤_;rw [Uc,Int.toNat_natCast];omega) (VO.dG 115 rfl (jc (new:=[.bool s0,.slice p0 n0 c0,.bool t0,.slice y0 m0 d0]) (fK.el.lens (bl 82)) (by rw [fK.el.len];omega) rfl) (wV rfl ?_))
     refine ab ?_
     have eO:runT S.q F.q kn (bX (l.take z1))=⟨LL.set ix 0,RW.modify ix (fun r=>{ r with aq:=lx }),US⟩:=by
      rw [oW]
      unfold qu
      rw [if_pos hkz,<-hix]
      dsimp only
      rw [List.getD_eq_getElem?_getD,mi];rfl
     refine VS.back (N - z1) aa ⟨_,_,?_,?_,?_,?_,⟨z1,s0,p0,n0,c0,t0,y0,m0,d0,by omega,rfl,vZ,wh,q0.k,.inr ⟨by omega,_,Cl,TR,_,Cm,Ua,by rw [eO];exact fK.set (bl 82) aR (dV (q0.k) NN),by rw [eO,ek NQ];exact gu.set (cz 82) aR ⟨[.bool yB,.slice yC yD yG,.bool yH,.slice yI yJ yK],[.bool yL,.slice yM yO yP,.bool yQ,.slice yR yT yU],[.bool yV,.slice yW yX yY,.bool yZ,.slice za zb zc],[.bool zd,.slice ze zf zg,.bool zh,.slice zi zj zl],[.bool zm,.slice zn zo zp,.bool zt,.slice zu zv zw],[.bool Db,.slice Dc Dd De,.bool Df,.slice Dg Dh del],[.bool Gt,.slice Gu Gv Gw,.bool Gx,.slice Gy Gz GA],rfl,(bl 82).kp x0 aR,(bl 82).kp x1 aR,(bl 82).kp x2 aR,(bl 82).kp x3 aR,(bl 82).kp x4 aR,(bl 82).kp xl aR,(bl 82).kp x6 aR⟩,.inr ⟨ku,xj,xY,Da,by rw [eO];exact wm.kp (ir 82) aR,rfl,rfl⟩⟩⟩⟩
     ·refine ⟨rfl,rfl,rfl,rfl,rfl,rfl,?_,trivial⟩
      rw [ik,<-aE (i:=z) aa];rfl
     ·exact bT
     ·rfl
     ·exact ⟨.vals _,.lit rfl,.lit rfl,.vals _,(fK.set (bl 82) (kR _) (dV (q0.k) NN)).ja,.append (.vals _) (.none gu.sl),wm.ja,trivial⟩
    ·refine VS.aQ rfl (decide_eq_false (show ¬ (z:Int)≥(kn:Int) by omega)) ?_
     refine ab ?_
     have eO:runT S.q F.q kn (bX (l.take z1))=⟨LL,RW,US⟩:=by
      rw [oW]
      unfold qu
      rw [if_neg hkz]
     refine VS.back (N - z1) aa ⟨_,_,?_,?_,?_,?_,⟨z1,s0,p0,n0,c0,t0,y0,m0,d0,by omega,rfl,vZ,wh,q0.k,.inr ⟨by omega,Kb,Cl,TR,Kc,Cm,Ua,by rw [eO];exact fK.kp (bl 82) aR,by rw [eO];exact gu.kp (cz 82) aR,.inr ⟨ku,xj,xY,Da,by rw [eO];exact wm.kp (ir 82) aR,rfl,rfl⟩⟩⟩⟩
     ·refine ⟨rfl,rfl,rfl,rfl,rfl,rfl,?_,trivial⟩
      rw [ik,<-aE (i:=z) aa];rfl
     ·exact bT
     ·rfl
     ·exact ⟨.vals _,.lit rfl,.lit rfl,.vals _,fK.ja,gu.ja,wm.ja,trivial⟩
 rcases hUd with ⟨sI,rfl,rfl⟩ | ⟨ku,xj,xY,Da,wm,rfl,rfl⟩
 ·refine ab ?_
  refine VS.aQ rfl (decide_eq_false (fun e=>hlt (Int.ofNat_lt.1 e))) ?_
  have LP:z=N:=by omega
  rw [LP,show l.take N=l from List.take_of_length_le aa] at kc ma sI PS pc
  rw [LP]
  clear LP hlt hz kN
  refine ab ?_
  obtain ⟨LF,PU⟩:∃ LF,(runT S.q F.q kn (bX l)).left=LF:=⟨_,rfl⟩
  obtain ⟨RW,Me⟩:∃ RW,(runT S.q F.q kn (bX l)).rows=RW:=⟨_,rfl⟩
  obtain ⟨US,PV⟩:∃ US,(runT S.q F.q kn (bX l)).uses=US:=⟨_,rfl⟩
  have hled:FD S.q F.q kn (bX l)=(dJ (bG 0 (LF.drop 0)) RW,US):=by
   unfold FD
   rw [PU,Me,PV];rfl
  rw [hled]
  obtain ⟨RES,Ug⟩:∃ RES,dJ (bG 0 (LF.drop 0)) RW=RES:=⟨_,rfl⟩
  rw [Ug]
  rw [PU] at kc
  rw [Me] at ma
  rw [PV] at sI
  refine VS.loop (J:=fun m L M w'=>∃ (v:Nat) (kG:List (List Value)) (rows:List aL),v≤N/\m=N - v/\iB (Gj 82) 28 w' N cr kG nt rows/\dJ (bG v (LF.drop v)) rows=RES/\Kp UU wJ w'/\L=[(4,.box 4 0),(6,.box 6 0),(8,.row 115 0 N cl),(18,.val (.int .i64 (v:Int)))]/\M=[(4,(64,[.val (.slice none 0 0),.val (.slice none 0 0)])),(6,(64,[.row 129 0 N cr,.val (.slice none 0 0)])),(115,(55,CB.flatten.map .val++Ai)),(129,(108,kG.flatten.map .val++nt))]) N ⟨_,_,?_,?_,?_,?_,⟨0,kG,RW,by omega,rfl,ma.kp (cz 82) aR,Ug,aR,rfl,rfl⟩⟩ ?_
  ·exact bT
  ·exact bT
  ·rfl
  ·exact ⟨.lit rfl,.lit rfl,kc.ja,ma.ja,trivial⟩
  clear ma
  rintro m L M wL1 ⟨v,kG,rows,hv,rfl,ma,gJ,kV,rfl,rfl⟩
  refine ab ?_
  by_cases jg:v < N
  ·obtain ⟨rx,NQ⟩:∃ r,rows[v]? =some r:=⟨_,List.getElem?_eq_getElem (by have:=ma.len;omega)⟩
   obtain ⟨lx,mi⟩:∃ x,LF[v]? =some x:=⟨_,List.getElem?_eq_getElem (by have:=kc.len;omega)⟩
   obtain ⟨yw,qz,uw,CE,hcell⟩:=ma.cell (cz 82) NQ
   obtain ⟨yB,yC,yD,yG,yH,yI,yJ,yK,yL,yM,yO,yP,yQ,yR,yT,yU,yV,yW,yX,yY,yZ,za,zb,zc,zd,ze,zf,zg,zh,zi,zj,zl,zm,zn,zo,zp,zt,zu,zv,zw,Gk,Gl,Gm,Gn,Gp,Gq,Gr,Gs,Gt,Gu,Gv,Gw,Gx,Gy,Gz,GA,rfl,x0,x1,x2,x3,x4,x5,x6⟩:=uw.opn
   obtain ⟨csl,hcsl,Qf,hll2,pZ⟩:=kc.cell (bl 82) mi
   obtain ⟨Db,Dc,Dd,De,Df,Dg,Dh,del,rfl,xl⟩:=Qf.opn
   refine VS.aP rfl (decide_eq_true (Int.ofNat_lt.2 jg)) ?_
   refine ab ?_
   refine VO.cond rfl du ?_
   refine wV rfl ?_
   refine ab ?_
   refine VO.cT rfl (([.bool yB,.slice yC yD yG,.bool yH,.slice yI yJ yK,.bool yL,.slice yM yO yP,.bool yQ,.slice yR yT yU,.bool yV,.slice yW yX yY,.bool yZ,.slice za zb zc,.bool zd,.slice ze zf zg,.bool zh,.slice zi zj zl,.bool zm,.slice zn zo zp,.bool zt,.slice zu zv zw,.bool Gk,.slice Gl Gm Gn,.bool Gp,.slice Gq Gr Gs,.bool Gt,.slice Gu Gv Gw,.bool Gx,.slice Gy Gz GA]:List Value).map .val) rfl (hcell 0 _ ⟨[],rfl⟩) (wV rfl ?_)
   refine ab ?_
   refine VO.cond rfl du ?_
   refine wV rfl ?_
   refine ab ?_
   refine VO.cT rfl (([.bool Db,.slice Dc Dd De,.bool Df,.slice Dg Dh del]:List Value).map .val) rfl (pZ 0 _ ⟨[],rfl⟩) (wV rfl ?_)
   refine ab ?_
   refine VO.cond rfl du ?_
   refine wV rfl ?_
   refine ab ?_
   refine VO.cond rfl (by show 0 + ((v:Int)).toNat * 28 + 28≤_;rw [ma.fl,Int.toNat_natCast];have:=ma.le;omega) (VO.dG 129 rfl (jc (new:=[.bool yB,.slice yC yD yG,.bool yH,.slice yI yJ yK,.bool yL,.slice yM yO yP,.bool yQ,.slice yR yT yU,.bool yV,.slice yW yX yY,.bool yZ,.slice za zb zc,.bool zd,.slice ze zf zg,.bool zh,.slice zi zj zl,.bool zm,.slice zn zo zp,.bool zt,.slice zu zv zw,.bool Gk,.slice Gl Gm Gn,.bool Gp,.slice Gq Gr Gs,.bool Db,.slice Dc Dd De,.bool Df,.slice Dg Dh del]) (ma.el.lens (cz 82)) (by rw [ma.el.len,<-ma.len];omega) rfl) (wV rfl ?_))
   refine ab ?_
   have Uh:=ma.set (cz 82) (i:=v) (w':=wL1) (kR _) (cs:=[.bool yB,.slice yC yD yG,.bool yH,.slice yI yJ yK,.bool yL,.slice yM yO yP,.bool yQ,.slice yR yT yU,.bool yV,.slice yW yX yY,.bool yZ,.slice za zb zc,.bool zd,.slice ze zf zg,.bool zh,.slice zi zj zl,.bool zm,.slice zn zo zp,.bool zt,.slice zu zv zw,.bool Gk,.slice Gl Gm Gn,.bool Gp,.slice Gq Gr Gs,.bool Db,.slice Dc Dd De,.bool Df,.slice Dg Dh del]) (a:={ rx with closing:=lx }) ⟨[.bool yB,.slice yC yD yG,.bool yH,.slice yI yJ yK],[.bool yL,.slice yM yO yP,.bool yQ,.slice yR yT yU],[.bool yV,.slice yW yX yY,.bool yZ,.slice za zb zc],[.bool zd,.slice ze zf zg,.bool zh,.slice zi zj zl],[.bool zm,.slice zn zo zp,.bool zt,.slice zu zv zw],[.bool Gk,.slice Gl Gm Gn,.bool Gp,.slice Gq Gr Gs],[.bool Db,.slice Dc Dd De,.bool Df,.slice Dg Dh del],rfl,x0,x1,x2,x3,x4,x5,(bl 82).kp xl kV⟩
   refine VS.back (N - (v + 1)) aa ⟨_,_,?_,?_,?_,?_,⟨v + 1,_,rows.set v { rx with closing:=lx },by omega,rfl,Uh,?_,kV,rfl,rfl⟩⟩
   ·refine ⟨rfl,rfl,rfl,?_,trivial⟩
    rw [<-aE (i:=v) aa];rfl
   ·exact bT
   ·rfl
   ·exact ⟨.lit rfl,.lit rfl,kc.ja,Uh.ja,trivial⟩
   ·rw [<-gJ,ye mi,ek NQ]
  ·refine VS.aQ rfl (decide_eq_false (fun e=>jg (Int.ofNat_lt.1 e))) ?_
   have hvN:v=N:=by omega
   rw [hvN,List.drop_of_length_le (by have:=kc.len;omega)] at gJ
   replace gJ:rows=RES:=gJ
   rw [gJ] at ma
   refine ab ?_
   refine VS.lz (cJ _ _) rfl (fun wz β kz bz en=> ?_)
   exact ⟨_,_,rfl,ma.new (cz 82) (en.own 129 _ _ rfl) kz,.inl ⟨rfl,sI⟩,bz⟩
 ·refine ab ?_
  refine VS.aQ rfl (decide_eq_false (fun e=>hlt (Int.ofNat_lt.1 e))) ?_
  have LP:z=N:=by omega
  rw [LP,show l.take N=l from List.take_of_length_le aa] at kc ma wm PS pc
  rw [LP]
  clear LP hlt hz kN
  refine ab ?_
  obtain ⟨LF,PU⟩:∃ LF,(runT S.q F.q kn (bX l)).left=LF:=⟨_,rfl⟩
  obtain ⟨RW,Me⟩:∃ RW,(runT S.q F.q kn (bX l)).rows=RW:=⟨_,rfl⟩
  obtain ⟨US,PV⟩:∃ US,(runT S.q F.q kn (bX l)).uses=US:=⟨_,rfl⟩
  have hled:FD S.q F.q kn (bX l)=(dJ (bG 0 (LF.drop 0)) RW,US):=by
   unfold FD
   rw [PU,Me,PV];rfl
  rw [hled]
  obtain ⟨RES,Ug⟩:∃ RES,dJ (bG 0 (LF.drop 0)) RW=RES:=⟨_,rfl⟩
  rw [Ug]
  rw [PU] at kc
  rw [Me] at ma
  rw [PV] at wm
  refine VS.loop (J:=fun m L M w'=>∃ (v:Nat) (kG:List (List Value)) (rows:List aL),v≤N/\m=N - v/\iB (Gj 82) 28 w' N cr kG nt rows/\dJ (bG v (LF.drop v)) rows=RES/\Kp UU wJ w'/\L=[(4,.box 4 0),(6,.box 6 0),(8,.row 115 0 N cl),(18,.val (.int .i64 (v:Int)))]/\M=[(4,(64,[.val (.slice none 0 0),.val (.slice none 0 0)])),(6,(64,[.row 129 0 N cr,.row 95 0 ku Da])),(115,(55,CB.flatten.map .val++Ai)),(129,(108,kG.flatten.map .val++nt)),(95,(106,xj.flatten.map .val++xY))]) N ⟨_,_,?_,?_,?_,?_,⟨0,kG,RW,by omega,rfl,ma.kp (cz 82) aR,Ug,aR,rfl,rfl⟩⟩ ?_
  ·exact bT
  ·exact bT
  ·rfl
  ·exact ⟨.lit rfl,.lit rfl,kc.ja,ma.ja,wm.ja,trivial⟩
  clear ma
  rintro m L M wL1 ⟨v,kG,rows,hv,rfl,ma,gJ,kV,rfl,rfl⟩
  refine ab ?_
  by_cases jg:v < N
  ·obtain ⟨rx,NQ⟩:∃ r,rows[v]? =some r:=⟨_,List.getElem?_eq_getElem (by have:=ma.len;omega)⟩
   obtain ⟨lx,mi⟩:∃ x,LF[v]? =some x:=⟨_,List.getElem?_eq_getElem (by have:=kc.len;omega)⟩
   obtain ⟨yw,qz,uw,CE,hcell⟩:=ma.cell (cz 82) NQ
   obtain ⟨yB,yC,yD,yG,yH,yI,yJ,yK,yL,yM,yO,yP,yQ,yR,yT,yU,yV,yW,yX,yY,yZ,za,zb,zc,zd,ze,zf,zg,zh,zi,zj,zl,zm,zn,zo,zp,zt,zu,zv,zw,Gk,Gl,Gm,Gn,Gp,Gq,Gr,Gs,Gt,Gu,Gv,Gw,Gx,Gy,Gz,GA,rfl,x0,x1,x2,x3,x4,x5,x6⟩:=uw.opn
   obtain ⟨csl,hcsl,Qf,hll2,pZ⟩:=kc.cell (bl 82) mi
   obtain ⟨Db,Dc,Dd,De,Df,Dg,Dh,del,rfl,xl⟩:=Qf.opn
   refine VS.aP rfl (decide_eq_true (Int.ofNat_lt.2 jg)) ?_
   refine ab ?_
   refine VO.cond rfl du ?_
   refine wV rfl ?_
   refine ab ?_
   refine VO.cT rfl (([.bool yB,.slice yC yD yG,.bool yH,.slice yI yJ yK,.bool yL,.slice yM yO yP,.bool yQ,.slice yR yT yU,.bool yV,.slice yW yX yY,.bool yZ,.slice za zb zc,.bool zd,.slice ze zf zg,.bool zh,.slice zi zj zl,.bool zm,.slice zn zo zp,.bool zt,.slice zu zv zw,.bool Gk,.slice Gl Gm Gn,.bool Gp,.slice Gq Gr Gs,.bool Gt,.slice Gu Gv Gw,.bool Gx,.slice Gy Gz GA]:List Value).map .val) rfl (hcell 0 _ ⟨[],rfl⟩) (wV rfl ?_)
   refine ab ?_
   refine VO.cond rfl du ?_
   refine wV rfl ?_
   refine ab ?_
   refine VO.cT rfl (([.bool Db,.slice Dc Dd De,.bool Df,.slice Dg Dh del]:List Value).map .val) rfl (pZ 0 _ ⟨[],rfl⟩) (wV rfl ?_)
   refine ab ?_
   refine VO.cond rfl du ?_
   refine wV rfl ?_
   refine ab ?_
   refine VO.cond rfl (by show 0 + ((v:Int)).toNat * 28 + 28≤_;rw [ma.fl,Int.toNat_natCast];have:=ma.le;omega) (VO.dG 129 rfl (jc (new:=[.bool yB,.slice yC yD yG,.bool yH,.slice yI yJ yK,.bool yL,.slice yM yO yP,.bool yQ,.slice yR yT yU,.bool yV,.slice yW yX yY,.bool yZ,.slice za zb zc,.bool zd,.slice ze zf zg,.bool zh,.slice zi zj zl,.bool zm,.slice zn zo zp,.bool zt,.slice zu zv zw,.bool Gk,.slice Gl Gm Gn,.bool Gp,.slice Gq Gr Gs,.bool Db,.slice Dc Dd De,.bool Df,.slice Dg Dh del]) (ma.el.lens (cz 82)) (by rw [ma.el.len,<-ma.len];omega) rfl) (wV rfl ?_))
   refine ab ?_
   have Uh:=ma.set (cz 82) (i:=v) (w':=wL1) (kR _) (cs:=[.bool yB,.slice yC yD yG,.bool yH,.slice yI yJ yK,.bool yL,.slice yM yO yP,.bool yQ,.slice yR yT yU,.bool yV,.slice yW yX yY,.bool yZ,.slice za zb zc,.bool zd,.slice ze zf zg,.bool zh,.slice zi zj zl,.bool zm,.slice zn zo zp,.bool zt,.slice zu zv zw,.bool Gk,.slice Gl Gm Gn,.bool Gp,.slice Gq Gr Gs,.bool Db,.slice Dc Dd De,.bool Df,.slice Dg Dh del]) (a:={ rx with closing:=lx }) ⟨[.bool yB,.slice yC yD yG,.bool yH,.slice yI yJ yK],[.bool yL,.slice yM yO yP,.bool yQ,.slice yR yT yU],[.bool yV,.slice yW yX yY,.bool yZ,.slice za zb zc],[.bool zd,.slice ze zf zg,.bool zh,.slice zi zj zl],[.bool zm,.slice zn zo zp,.bool zt,.slice zu zv zw],[.bool Gk,.slice Gl Gm Gn,.bool Gp,.slice Gq Gr Gs],[.bool Db,.slice Dc Dd De,.bool Df,.slice Dg Dh del],rfl,x0,x1,x2,x3,x4,x5,(bl 82).kp xl kV⟩
   refine VS.back (N - (v + 1)) aa ⟨_,_,?_,?_,?_,?_,⟨v + 1,_,rows.set v { rx with closing:=lx },by omega,rfl,Uh,?_,kV,rfl,rfl⟩⟩
   ·refine ⟨rfl,rfl,rfl,?_,trivial⟩
    rw [<-aE (i:=v) aa];rfl
   ·exact bT
   ·rfl
   ·exact ⟨.lit rfl,.lit rfl,kc.ja,Uh.ja,wm.ja,trivial⟩
   ·rw [<-gJ,ye mi,ek NQ]
  ·refine VS.aQ rfl (decide_eq_false (fun e=>jg (Int.ofNat_lt.1 e))) ?_
   have hvN:v=N:=by omega
   rw [hvN,List.drop_of_length_le (by have:=kc.len;omega)] at gJ
   replace gJ:rows=RES:=gJ
   rw [gJ] at ma
   refine ab ?_
   refine VS.lz (cJ _ _) rfl (fun wz β kz bz en=> ?_)
   exact ⟨_,_,rfl,ma.new (cz 82) (en.own 129 _ _ rfl) kz,wm.new (ir 82) (en.own 95 _ _ rfl) aR,bz⟩
set_option maxRecDepth 4000
def Co (B:Nat) (w:World) (t:TypeId) (sz o:Nat) (p:Option Addr) (n:Nat):Prop:=∀ i,i < n->∃ b off q m c,p=some ⟨b,off,none⟩/\(∃ cur,aZ w b t cur)/\w.cell? ⟨b,off + i * sz + o,none⟩=some (.slice q m c)/\kH w B q m/\m≤9223372036854775807
theorem Ey {w:World} {b off i sz o:Nat} {u:Value} (h:w.cell? ⟨b,off + i * sz + o,none⟩=some u):∀ (j:Nat) (x:Value),[u][j]? =some x->w.cell? ((⟨b,off + ((i:Nat):Int).toNat * sz + o,none⟩:Addr).add j)=some x:=by
 intro j x hj
 cases j with
 | zero=>cases hj;rw [Addr.add_mid,Int.toNat_natCast];exact h
 | succ j=>cases hj
theorem gv {P Q:Prop} (h:Q) (i:Q->P:=by intro h;(repeat first|refine wN ?_|refine wP rfl ?_|refine cxS_r rfl ?_|refine cxS_d rfl ?_|refine wO rfl rfl ?_);exact h):P:=i h
set_option maxRecDepth 4000 in
theorem yj (pr pu:Option Addr) (N cr n cu B:Nat) (w:World) (hN:N≤1000000) (hn:n≤1000000) (hcr:N≤cr) (hcu:n≤cu) (hcrm:cr≤9223372036854775807) (hcum:cu≤9223372036854775807) (h1:Co B w eh 28 1 pr N) (h2:Co B w eh 28 5 pr N) (hu:Co B w fm 6 3 pu n):
  Calls Tryz.prog 24 #[.agg #[.slice pr N cr,.slice pu n cu]] w fun o w'=>o=.returned (.tuple #[])/\TG B w w':=by
 refine ah (C:=cxS Tryz.prog w _ B) (args:=[_]) Tryz.func24 rfl Tryz.ntmps24 (bB rfl) ?_
 refine gv ?_
 refine VS.loop (J:=fun m L M w'=>∃ z:Nat,z≤n/\m=n - z/\L=[(1,.box 1 0),(2,.val (.int .i64 (z:Int)))]/\M=[(1,(oP,[.val (.slice pr N cr),.val (.slice pu n cu)]))]/\Hk w w') n ⟨_,_,?_,?_,?_,?_,⟨0,by omega,rfl,rfl,rfl,Hk.kp aR⟩⟩ ?_
 ·exact bT
 ·exact bT
 ·rfl
 ·exact ic
 rintro m L M wJ ⟨z,hz,rfl,rfl,rfl,hkJ⟩
 refine gv ?_
 by_cases hlt:z < n
 ·refine VS.aP rfl (decide_eq_true (Int.ofNat_lt.2 hlt)) ?_
  refine gv ?_
  obtain ⟨bb,off,q,mm,mc,fN,⟨cur0,gJ⟩,hcc,hhk,AK⟩:=hu z hlt
  refine VS.loop (J:=fun m L M w'=>∃ k:Nat,k≤mm/\m=mm - k/\L=[(1,.box 1 0),(2,.val (.int .i64 (z:Int))),(3,.val (.int .i64 (k:Int)))]/\M=[(1,(oP,[.val (.slice pr N cr),.val (.slice pu n cu)]))]/\Hk w w') mm ⟨_,_,?_,?_,?_,?_,⟨0,by omega,rfl,rfl,rfl,hkJ.aF (Hk.kp aR)⟩⟩ ?_
  ·exact bT
  ·exact bT
  ·rfl
  ·exact ic
  rintro m L M wK ⟨k,hk,rfl,rfl,rfl,Ui⟩
  subst fN
  refine gv ?_
  refine VO.cond rfl du ?_
  refine wV rfl ?_
  refine gv ?_
  refine VO.gB rfl [.slice q mm mc] rfl (Eu gJ bV (Ey hcc)) (wV rfl ?_)
  refine gv ?_
  by_cases jg:k < mm
  ·refine VS.aP rfl (decide_eq_true (Int.ofNat_lt.2 jg)) ?_
   obtain ⟨g,Uj,zO,xX,hcg,lB⟩:∃ g cur,q=some ⟨g,0,none⟩/\B≤g/\w.heap[g]? =some (Obj.cells cur UU (0,0))/\mm≤cur.size:=by
    rcases hhk with h | h
    ·omega
    ·exact h
   subst zO
   (repeat (first | refine wN ?_ | refine wP rfl ?_))
   refine VS.Gd (Cf _ _ _) rfl ?_
   refine wV rfl ?_
   refine VO.cond rfl du ?_
   refine wV rfl ?_
   refine gv ?_
   refine VO.gB rfl [.slice (some ⟨g,0,none⟩) mm mc] rfl (Eu gJ bV (Ey hcc)) (wV rfl ?_)
   refine VO.cond rfl du ?_
   refine wV rfl ?_
   refine wN ?_
   refine ⟨_,_,_,g,0 + (k:Int).toNat * 1,_,.int .u32 77,rfl,rfl,rfl,rfl,rfl,rfl,rfl,rfl,fun w1 k1 bo1=> ?_⟩
   obtain ⟨Uk,iI,ID⟩:=(Ui.aF (Hk.kp k1)) g Uj hcg
   refine ⟨Uk,UU,iI,by rw [Int.toNat_natCast];show 0 + k * 1 + 1≤_;omega,by simp [KC.fz],bo1.set (.inr ⟨xX,Uj,hcg⟩),?_⟩
   have hk2:Hk w (w1.setCells g (0 + (k:Int).toNat * 1) (Value.cells (.int .u32 77)).toList):=(Ui.aF (Hk.kp k1)).set iI
   generalize w1.setCells g (0 + (k:Int).toNat * 1) (Value.cells (.int .u32 77)).toList=w2 at *
   refine gv ?_
   refine VS.back (mm - (k + 1)) aa ⟨_,_,?_,?_,?_,?_,⟨k + 1,by omega,rfl,rfl,rfl,hk2⟩⟩
   ·refine ⟨rfl,rfl,?_,trivial⟩
    rw [<-aE (i:=k) aa];rfl
   ·exact bT
   ·rfl
   ·exact ic
  refine VS.aQ rfl (decide_eq_false (fun e=>jg (Int.ofNat_lt.1 e))) ?_
  clear jg hk
  refine gv ?_
  refine VS.back (n - (z + 1)) aa ⟨_,_,?_,?_,?_,?_,⟨z + 1,by omega,rfl,rfl,rfl,Ui⟩⟩
  ·refine ⟨rfl,?_,trivial⟩
   rw [<-aE (i:=z) aa];rfl
  ·exact bT
  ·rfl
  ·exact ic
 refine VS.aQ rfl (decide_eq_false (fun e=>hlt (Int.ofNat_lt.1 e))) ?_
 refine gv ?_
 refine VS.loop (J:=fun m L M w'=>∃ z:Nat,z≤N/\m=N - z/\L=[(1,.box 1 0),(4,.val (.int .i64 (z:Int)))]/\M=[(1,(oP,[.val (.slice pr N cr),.val (.slice pu n cu)]))]/\Hk w w') N ⟨_,_,?_,?_,?_,?_,⟨0,by omega,rfl,rfl,rfl,hkJ.aF (Hk.kp aR)⟩⟩ ?_
 ·exact bT
 ·exact bT
 ·rfl
 ·exact ic
 rintro m L M wL ⟨z,hz,rfl,rfl,rfl,hkJ2⟩
 refine gv ?_
 by_cases hlt:z < N
 ·refine VS.aP rfl (decide_eq_true (Int.ofNat_lt.2 hlt)) ?_
  refine gv ?_
  obtain ⟨bb,off,q,mm,mc,fN,⟨cur0,gJ⟩,hcc,hhk,AK⟩:=h1 z hlt
  refine VS.loop (J:=fun m L M w'=>∃ k:Nat,k≤mm/\m=mm - k/\L=[(1,.box 1 0),(4,.val (.int .i64 (z:Int))),(5,.val (.int .i64 (k:Int)))]/\M=[(1,(oP,[.val (.slice pr N cr),.val (.slice pu n cu)]))]/\Hk w w') mm ⟨_,_,?_,?_,?_,?_,⟨0,by omega,rfl,rfl,rfl,hkJ2.aF (Hk.kp aR)⟩⟩ ?_
  ·exact bT
  ·exact bT
  ·rfl
  ·exact ic
  rintro m L M wK ⟨k,hk,rfl,rfl,rfl,Ui⟩
  subst fN
  refine gv ?_
  refine VO.cond rfl du ?_
  refine wV rfl ?_
  refine gv ?_
  refine VO.gB rfl [.slice q mm mc] rfl (Eu gJ bV (Ey hcc)) (wV rfl ?_)
  refine gv ?_
  by_cases jg:k < mm
  ·refine VS.aP rfl (decide_eq_true (Int.ofNat_lt.2 jg)) ?_
   obtain ⟨g,Uj,zO,xX,hcg,lB⟩:∃ g cur,q=some ⟨g,0,none⟩/\B≤g/\w.heap[g]? =some (Obj.cells cur UU (0,0))/\mm≤cur.size:=by
    rcases hhk with h | h
    ·omega
    ·exact h
   subst zO
   (repeat (first | refine wN ?_ | refine wP rfl ?_))
   refine VS.Gd (Cf _ _ _) rfl ?_
   refine wV rfl ?_
   refine VO.cond rfl du ?_
   refine wV rfl ?_
   refine gv ?_
   refine VO.gB rfl [.slice (some ⟨g,0,none⟩) mm mc] rfl (Eu gJ bV (Ey hcc)) (wV rfl ?_)
   refine VO.cond rfl du ?_
   refine wV rfl ?_
   refine wN ?_
   refine ⟨_,_,_,g,0 + (k:Int).toNat * 1,_,.int .u32 78,rfl,rfl,rfl,rfl,rfl,rfl,rfl,rfl,fun w1 k1 bo1=> ?_⟩
   obtain ⟨Uk,iI,ID⟩:=(Ui.aF (Hk.kp k1)) g Uj hcg
   refine ⟨Uk,UU,iI,by rw [Int.toNat_natCast];show 0 + k * 1 + 1≤_;omega,by simp [KC.fz],bo1.set (.inr ⟨xX,Uj,hcg⟩),?_⟩
   have hk2:Hk w (w1.setCells g (0 + (k:Int).toNat * 1) (Value.cells (.int .u32 78)).toList):=(Ui.aF (Hk.kp k1)).set iI
   generalize w1.setCells g (0 + (k:Int).toNat * 1) (Value.cells (.int .u32 78)).toList=w2 at *
   refine gv ?_
   refine VS.back (mm - (k + 1)) aa ⟨_,_,?_,?_,?_,?_,⟨k + 1,by omega,rfl,rfl,rfl,hk2⟩⟩
   ·refine ⟨rfl,rfl,?_,trivial⟩
    rw [<-aE (i:=k) aa];rfl
   ·exact bT
   ·rfl
   ·exact ic
  refine VS.aQ rfl (decide_eq_false (fun e=>jg (Int.ofNat_lt.1 e))) ?_
  clear jg hk
  refine gv ?_
  obtain ⟨bb2,off2,q,mm,mc,fN,⟨cur0,gJ⟩,hcc,hhk,AK⟩:=h2 z hlt
  refine VS.loop (J:=fun m L M w'=>∃ k:Nat,k≤mm/\m=mm - k/\L=[(1,.box 1 0),(4,.val (.int .i64 (z:Int))),(6,.val (.int .i64 (k:Int)))]/\M=[(1,(oP,[.val (.slice (some ⟨bb,off,none⟩) N cr),.val (.slice pu n cu)]))]/\Hk w w') mm ⟨_,_,?_,?_,?_,?_,⟨0,by omega,rfl,rfl,rfl,Ui.aF (Hk.kp aR)⟩⟩ ?_
  ·exact bT
  ·exact bT
  ·rfl
  ·exact ic
  rintro m L M wM ⟨k,hk,rfl,rfl,rfl,Ui⟩
  cases fN
  refine gv ?_
  refine VO.cond rfl du ?_
  refine wV rfl ?_
  refine gv ?_
  refine VO.gB rfl [.slice q mm mc] rfl (Eu gJ bV (Ey hcc)) (wV rfl ?_)
  refine gv ?_
  by_cases jg:k < mm
  ·refine VS.aP rfl (decide_eq_true (Int.ofNat_lt.2 jg)) ?_
   obtain ⟨g,curh,zO,xX,hcg,lB⟩:∃ g cur,q=some ⟨g,0,none⟩/\B≤g/\w.heap[g]? =some (Obj.cells cur UU (0,0))/\mm≤cur.size:=by
    rcases hhk with h | h
    ·omega
    ·exact h
   subst zO
   (repeat (first | refine wN ?_ | refine wP rfl ?_))
   refine VS.Gd (Cf _ _ _) rfl ?_
   refine wV rfl ?_
   refine VO.cond rfl du ?_
   refine wV rfl ?_
   refine gv ?_
   refine VO.gB rfl [.slice (some ⟨g,0,none⟩) mm mc] rfl (Eu gJ bV (Ey hcc)) (wV rfl ?_)
   refine VO.cond rfl du ?_
   refine wV rfl ?_
   refine wN ?_
   refine ⟨_,_,_,g,0 + (k:Int).toNat * 1,_,.int .u32 79,rfl,rfl,rfl,rfl,rfl,rfl,rfl,rfl,fun w1 k1 bo1=> ?_⟩
   obtain ⟨Uk,iI,ID⟩:=(Ui.aF (Hk.kp k1)) g curh hcg
   refine ⟨Uk,UU,iI,by rw [Int.toNat_natCast];show 0 + k * 1 + 1≤_;omega,by simp [KC.fz],bo1.set (.inr ⟨xX,curh,hcg⟩),?_⟩
   have hk2:Hk w (w1.setCells g (0 + (k:Int).toNat * 1) (Value.cells (.int .u32 79)).toList):=(Ui.aF (Hk.kp k1)).set iI
   generalize w1.setCells g (0 + (k:Int).toNat * 1) (Value.cells (.int .u32 79)).toList=w2 at *
   refine gv ?_
   refine VS.back (mm - (k + 1)) aa ⟨_,_,?_,?_,?_,?_,⟨k + 1,by omega,rfl,rfl,rfl,hk2⟩⟩
   ·refine ⟨rfl,rfl,?_,trivial⟩
    rw [<-aE (i:=k) aa];rfl
   ·exact bT
   ·rfl
   ·exact ic
  refine VS.aQ rfl (decide_eq_false (fun e=>jg (Int.ofNat_lt.1 e))) ?_
  clear jg hk
  refine gv ?_
  refine VS.back (N - (z + 1)) aa ⟨_,_,?_,?_,?_,?_,⟨z + 1,by omega,rfl,rfl,rfl,Ui⟩⟩
  ·refine ⟨rfl,?_,trivial⟩
   rw [<-aE (i:=z) aa];rfl
  ·exact bT
  ·rfl
  ·exact ic
 refine VS.aQ rfl (decide_eq_false (fun e=>hlt (Int.ofNat_lt.1 e))) ?_
 refine gv ?_
 refine VS.fin (Cf _ _ _) rfl (fun wz β kz bz en=> ?_)
 exact ⟨rfl,bz.spo (hkJ2.aF (Hk.kp aR))⟩
set_option maxRecDepth 4000
theorem Kd {α β:Type} [DecidableEq β] (f:α->β) (xs:List α):Gg f xs xs=true:=decide_eq_true rfl
theorem qa (X:List fJ×List gr):jb X X=true:=by unfold jb;rw [Kd,Kd];rfl
theorem dp.mapF {α β:Type} {E:World->List Value->α->Prop} {sz:Nat} {w:World} {v:Value} {es:List β} (f:β->α) (h:dp (fun w cs b=>E w cs (f b)) sz w v es):dp E sz w v (es.map f):=by
 obtain ⟨p,c,rfl,h1,h2,h3⟩:=h
 refine ⟨p,c,by rw [List.length_map],by rw [List.length_map];exact h1,h2,fun i a ha=> ?_⟩
 rw [List.getElem?_map] at ha
 obtain ⟨b,hb,rfl⟩:=Option.map_eq_some_iff.1 ha
 exact h3 i b hb
theorem led_ref {B B':Nat} {w:World} {r u:Value} {x:List aL×List Uq} (h:iA (Gj 82) 28 108 B w r x.1) (k:iA (LY 82) 6 106 B' w u x.2):FY 82 w r u (nX x):=
 ⟨(h.sl (cz 82)).mapF Tt,(k.sl (ir 82)).mapF Tu⟩
def Cp (S F:RR) (keep:Int) (l:List (RR×RR)) (X:List fJ×List gr):Bool:=vS S F keep l && jb X (nX (qq S.q F.q keep.toNat (bX l)))
theorem Ez {P Q:Prop} (h:Q) (i:Q->P:=by intro h;exact VS.ret (BZ _ _) rfl rfl h):P:=i h
set_option maxRecDepth 4000 in
theorem Mo (v u r x':Value) (S F:RR) (keep:Int) (l:List (RR×RR)) (X:List fJ×List gr) (w:World) (hR:gM w v S F keep) (hS:S.kQ 3) (hF:F.kQ 3) (hl:dp (ue 3) 8 w u l) (hX:FY 82 w r x' X) (hlen:l.length≤12\/40 < l.length) (ez:l.length≤100000):
  Calls Tryz.prog 23 #[v,u,.agg #[r,x']] w fun o w'=>o=.returned (.bool (Cp S F keep l X))/\aM w w':=by
 obtain ⟨hX1,hX2⟩:=hX
 obtain ⟨p1,c1,rfl,iI,hm1⟩:=hX1.form
 obtain ⟨p2,c2,rfl,iQ,Fo⟩:=hX2.form
 obtain ⟨uq,uc,rfl,TM,hum⟩:=hl.form
 obtain ⟨sp,sc,sr,sd,fp,fc,fr,fd,rfl,Ul,Un⟩:=hR
 have hR:gM w (.agg #[.bool S.1,.slice sp S.2.1.length sc,.bool S.2.2.1,.slice sr S.2.2.2.length sd,.bool F.1,.slice fp F.2.1.length fc,.bool F.2.2.1,.slice fr F.2.2.2.length fd,.int .i64 keep]) S F keep:=⟨_,_,_,_,_,_,_,_,rfl,Ul,Un⟩
 obtain ⟨N,hN⟩:∃ N,N=l.length:=⟨_,rfl⟩
 rw [<-hN] at hl TM
 rw [<-hN]
 refine ah (C:=CA Tryz.prog w _) (args:=[_,_,_]) Tryz.func23 rfl Tryz.ntmps23 (bB rfl) ?_
 refine cY ?_
 cases fD:vS S F keep l with
 | false=>
   obtain ⟨c,hc⟩:∃ c,lP S F keep l=c:=⟨_,rfl⟩
   have Nf:c≠0:=hc▸Cc S F keep l
   refine VO.call rfl rfl (fk Tryz.func11) (fun bF cU bJ=>(Ny _ _ S F keep l bF (hR.kp (Kp.of (U:=UU) bJ)) hS hF (hl.bC (dM 3) bJ) aa fD c hc).mono ?_)
   rintro e w1 ⟨rfl,aK⟩
   skip
   refine ⟨_,rfl,aK,fun dC _ bb1=>wV rfl ?_⟩
   refine cY ?_
   refine VO.fix 17 rfl (congrArg (fun b=>AV.val (.bool b)) (Nd Nf)) ?_
   refine cY ?_
   refine Ez ?_;intro wz kz bz
   exact ⟨by unfold Cp;rw [fD];rfl,bz⟩
 | true=>
   have hf:=yb fD
   have Cs:=hf.k0
   have DR:=hf.k1
   have hN12:N≤12:=by have:=hf.len;omega
   obtain ⟨kn,rfl⟩:∃ kn:Nat,keep=(kn:Int):=⟨keep.toNat,by omega⟩
   have hM:=vU hR hS hF hl hf aa
   have hsz:=TE (kn:=kn) hM
   refine VO.call rfl rfl (fk Tryz.func11) (fun bF cU bJ=>(JP _ _ S F (kn:Int) kn l bF (hR.kp (Kp.of (U:=UU) bJ)) hS hF (hl.bC (dM 3) bJ) hf aa rfl).mono ?_)
   rintro e w1 ⟨r1,u1,rfl,l1,aK⟩
   obtain ⟨pr,cr,pu,cu,rfl,rfl⟩:=l1.form
   refine ⟨_,rfl,aK,fun dC _ bb1=>wV rfl ?_⟩
   refine cY ?_
   obtain ⟨x,hx⟩:∃ x,qq S.q F.q kn (bX l)=x:=⟨_,rfl⟩
   have hkb:Cp S F (kn:Int) l X=(Gg fJ.q X.1 (nX x).1 && Gg gr.q X.2 (nX x).2):=by
    unfold Cp
    rw [fD,Int.toNat_natCast,hx];rfl
   rw [hkb]
   rw [hx] at l1 hsz ⊢
   have e1:(nX x).1.length=x.1.length:=List.length_map _
   have e2:(nX x).2.length=x.2.length:=List.length_map _
   cases h1:Gg fJ.q X.1 (nX x).1 with
   | false=>
     refine VO.call rfl rfl (fk Tryz.func55) (fun cK eg di=>(JX _ _ X.1 (nX x).1 82 cK (hX1.bC (dK 82) di) ((l1.kpF (nT _ _) eg eg.nH).inI hsz).1 aa false h1).mono ?_)
     rintro e w2 ⟨rfl,ba⟩
     skip
     refine ⟨_,rfl,ba,fun ed _ bb2=>wV rfl ?_⟩
     refine cY ?_
     refine Ez ?_;intro wz kz bz
     exact ⟨rfl,bz⟩
   | true=>
     refine VO.call rfl rfl (fk Tryz.func55) (fun cK eg di=>(JX _ _ X.1 (nX x).1 82 cK (hX1.bC (dK 82) di) ((l1.kpF (nT _ _) eg eg.nH).inI hsz).1 aa true h1).mono ?_)
     rintro e w2 ⟨rfl,ba⟩
     skip
     refine ⟨_,rfl,ba,fun ed _ bb2=>wV rfl ?_⟩
     refine cY ?_
     obtain ⟨b2,h2⟩:∃ b,Gg gr.q X.2 (nX x).2=b:=⟨_,rfl⟩
     rw [h2]
     refine VO.call rfl rfl (fk Tryz.func57) (fun fh fE fG=>(TQ _ _ X.2 (nX x).2 82 fh (hX2.bC (eP 82) fG) ((l1.kpF (nT _ _) (ed.aF fE) (ed.aF fE).nH).inI hsz).2 aa b2 h2).mono ?_)
     rintro e w3 ⟨rfl,cG⟩
     skip
     refine ⟨_,rfl,cG,fun gT _ bb3=>wV rfl ?_⟩
     refine cY ?_
     refine Ez ?_;intro wz kz bz
     exact ⟨rfl,bz⟩
theorem PW (v u r x':Value) (S F:RR) (keep:Int) (l:List (RR×RR)) (X:List fJ×List gr) (w:World) (hR:gM w v S F keep) (hS:S.kQ 3) (hF:F.kQ 3) (hl:dp (ue 3) 8 w u l) (hX:FY 82 w r x' X) (hlen:l.length≤12\/40 < l.length) (ez:l.length≤100000) (b:Bool) (hb:Cp S F keep l X=b):
 Calls Tryz.prog 23 #[v,u,.agg #[r,x']] w fun o w'=>o=.returned (.bool b)/\aM w w':=hb▸Mo v u r x' S F keep l X w hR hS hF hl hX hlen ez
set_option maxRecDepth 4000 in
theorem PX (v u:Value) (S F:RR) (keep:Int) (l:List (RR×RR)) (w:World) (hR:gM w v S F keep) (hS:S.kQ 3) (hF:F.kQ 3) (hl:dp (ue 3) 8 w u l) (hlen:l.length≤100000) (hno:vS S F keep l=false) (c:Int) (hc:lP S F keep l=c):
  Calls Tryz.prog 20 #[v,u] w fun o w'=>o=.returned (.tuple #[.agg #[.slice none 0 0,.slice none 0 0],.int .i64 c])/\aM w w':=by
 obtain ⟨Ma,Mb,Mc,Md,GL,GM,GN,GO,rfl,sY,hfr⟩:=hR
 obtain ⟨pu,cu,rfl,TM,hum⟩:=hl.form
 have hR0:gM w (.agg #[.bool S.1,.slice Ma S.2.1.length Mb,.bool S.2.2.1,.slice Mc S.2.2.2.length Md,.bool F.1,.slice GL F.2.1.length GM,.bool F.2.2.1,.slice GN F.2.2.2.length GO,.int .i64 keep]) S F keep:=⟨_,_,_,_,_,_,_,_,rfl,sY,hfr⟩
 obtain ⟨N,hN⟩:∃ N,N=l.length:=⟨_,rfl⟩
 rw [<-hN] at hl TM hlen
 rw [<-hN]
 subst hc
 refine ah (C:=bS Tryz.prog w _) (args:=[_,_]) Tryz.func20 rfl Tryz.ntmps20 (bB rfl) ?_
 refine ab ?_
 cases h:(dU S F keep && l.all fI) with
 | false=>
   refine VO.call rfl rfl (fk Tryz.func47) (fun LS ka41 FX=>(Ck _ _ S F keep l 3 LS (hR0.kp (Kp.of (U:=UU) FX)) hS hF (hl.bC (dM 3) FX) aa aa false h).mono ?_)
   rintro e w41 ⟨rfl,LU⟩
   skip
   refine ⟨_,rfl,LU,fun kb41 _ bb41=>wV rfl ?_⟩
   refine ab ?_
   refine aY ?_;intro wz kz bz
   exact ⟨by unfold lP;rw [h];rfl,bz⟩
 | true=>
   have hN40:N > 40:=by
    unfold vS at hno
    rw [h] at hno
    have:¬ l.length≤40:=by simpa using hno
    omega
   refine VO.call rfl rfl (fk Tryz.func47) (fun LS ka41 FX=>(Ck _ _ S F keep l 3 LS (hR0.kp (Kp.of (U:=UU) FX)) hS hF (hl.bC (dM 3) FX) aa aa true h).mono ?_)
   rintro e w41 ⟨rfl,LU⟩
   skip
   refine ⟨_,rfl,LU,fun kb41 _ bb41=>wV rfl ?_⟩
   refine ab ?_
   refine VS.aP rfl (decide_eq_true (show (N:Int) > 40 by omega)) ?_
   refine ab ?_
   refine aY ?_;intro wz kz bz
   exact ⟨by unfold lP;rw [h];rfl,bz⟩
set_option maxRecDepth 4000
theorem bt.spoT {K:KC} {B:Nat} {w w1 w2:World} (h:bt K w w1) (k:TG B w1 w2) (hB:w.heap.size≤B):bt K w w2:=
 ⟨Nat.le_trans h.size k.size,fun a x s hc=>by
  have hb:=World.block_lt_of_cell? w a hc
  rw [World.cell?_of_block (w:=w1) (k.ln a.block (Nat.lt_of_lt_of_le hb h.size) (.inl aa))]
  exact h.cell a x s hc,fun t g cur f s hg=>by
  have hb:=(Array.getElem?_eq_some_iff.1 hg).1
  rw [k.ln g (Nat.lt_of_lt_of_le hb h.size) (.inl aa)]
  exact h.block t g cur f s hg,fun g es c hg=>(k.ln g (Nat.lt_of_lt_of_le (Array.getElem?_eq_some_iff.1 hg).1 h.size) (.inr fun cur e=>by
   have:=(h.map g es c hg).symm.trans e
   cases this)).trans (h.map g es c hg)⟩
theorem qA.caps {B:Nat} {w:World} {pr pu:Option Addr} {N cr n cu:Nat} {x:List aL×List Uq} (h:qA B w (.slice pr N cr) (.slice pu n cu) x):N≤cr/\cr≤9223372036854775807/\n≤cu/\cu≤9223372036854775807:=by
 have a1:N≤cr/\cr≤9223372036854775807:=by
  rcases h.1 with ⟨e,_⟩ | ⟨rb,_,n',c,vs,sp,e,_,h3⟩
  ·cases e;exact ⟨Nat.le_refl _,by decide⟩
  ·cases e;exact ⟨h3.le,h3.cm⟩
 have a2:n≤cu/\cu≤9223372036854775807:=by
  rcases h.2 with ⟨e,_⟩ | ⟨rb,_,n',c,vs,sp,e,_,h3⟩
  ·cases e;exact ⟨Nat.le_refl _,by decide⟩
  ·cases e;exact ⟨h3.le,h3.cm⟩
 exact ⟨a1.1,a1.2,a2.1,a2.2⟩
theorem Mp {α:Type} {E:World->List Value->α->Prop} {sz o B:Nat} {t:TypeId} {w:World} {b n c:Nat} {es:List α} (hE:gE E sz) (hz:∀ cs a,E w cs a->∃ q m d,cs[o]? =some (.slice q m d)/\kH w B q m/\m≤9223372036854775807) {vs:List (List Value)} {sp:List Value} (hc:aZ w b t (vs.flatten++sp).toArray) (h:dL E sz w n 0 c [] vs sp es):Co B w t sz o (some ⟨b,0,none⟩) n:=fun i hi=>by
 obtain ⟨a,ha⟩:∃ a,es[i]? =some a:=⟨_,List.getElem?_eq_getElem (by have:=h.len;omega)⟩
 obtain ⟨cs,hcs,Tn⟩:=h.el.at i a ha
 obtain ⟨q,m,d,h1,h2,h3⟩:=hz cs a Tn
 refine ⟨b,0,q,m,d,rfl,⟨_,hc⟩,?_,h2,h3⟩
 have:=h.el.cell hE i cs hcs o _ h1
 rw [Nat.zero_add]
 refine hc.cell ?_
 rw [List.getElem?_toArray,List.getElem?_append_left (List.getElem?_eq_some_iff.1 this).1]
 exact this
theorem R4.mag {B:Nat} {w:World} {cs:List Value} {q:Rat} (h:R4 B w cs q):∃ p m d,cs[1]? =some (.slice p m d)/\kH w B p m/\m≤9223372036854775807:=by
 obtain ⟨s,p,n,c,t,r,m,d,rfl,ho⟩:=h
 obtain ⟨h1,h2,h3,h4⟩:kH w B p n/\n≤9223372036854775807/\kH w B r m/\m≤9223372036854775807:=by
  have:=ho.husk
  obtain ⟨_,_,_,_,_,_,_,_,hv,a1,a2,a3,a4⟩:=this
  simp only [Value.agg.injEq,Array.mk.injEq,List.cons.injEq,Value.bool.injEq,Value.slice.injEq,and_true] at hv
  obtain ⟨rfl,⟨rfl,rfl,rfl⟩,rfl,rfl,rfl,rfl⟩:=hv
  exact ⟨a1,a2,a3,a4⟩
 exact ⟨p,n,c,rfl,h1,h2⟩
theorem qA.mag {B:Nat} {w:World} {pr pu:Option Addr} {N cr n cu:Nat} {x:List aL×List Uq} (h:qA B w (.slice pr N cr) (.slice pu n cu) x):Co B w eh 28 1 pr N/\Co B w eh 28 5 pr N/\Co B w fm 6 3 pu n:=by
 refine ⟨?_,?_,?_⟩
 ·rcases h.1 with ⟨e,_⟩ | ⟨rb,_,n',c,vs,sp,e,hc,h3⟩
  ·cases e;exact fun i hi=>absurd hi (Nat.not_lt_zero i)
  ·cases e
   refine Mp (aA B) (fun cs a hE=> ?_) hc h3
   obtain ⟨x0,x1,x2,x3,x4,x5,x6,rfl,g0,_⟩:=hE
   obtain ⟨q,m,d,h1,h2⟩:=g0.mag
   exact ⟨q,m,d,by rw [List.getElem?_append_left (by rw [g0.len];omega)];exact h1,h2⟩
 ·rcases h.1 with ⟨e,_⟩ | ⟨rb,_,n',c,vs,sp,e,hc,h3⟩
  ·cases e;exact fun i hi=>absurd hi (Nat.not_lt_zero i)
  ·cases e
   refine Mp (aA B) (fun cs a hE=> ?_) hc h3
   obtain ⟨x0,x1,x2,x3,x4,x5,x6,rfl,g0,g1,_⟩:=hE
   obtain ⟨q,m,d,h1,h2⟩:=g1.mag
   exact ⟨q,m,d,by rw [List.getElem?_append_right (by rw [g0.len];omega),g0.len,List.getElem?_append_left (by rw [g1.len];omega)];exact h1,h2⟩
 ·rcases h.2 with ⟨e,_⟩ | ⟨rb,_,n',c,vs,sp,e,hc,h3⟩
  ·cases e;exact fun i hi=>absurd hi (Nat.not_lt_zero i)
  ·cases e
   refine Mp (dR B) (fun cs a hE=> ?_) hc h3
   obtain ⟨s,p,n,c,t,r,m,d,rfl,ho⟩:=hE
   obtain ⟨q,m',d',h1,h2⟩:=R4.mag ⟨s,p,n,c,t,r,m,d,rfl,ho⟩
   exact ⟨q,m',d',h1,h2⟩
set_option maxRecDepth 4000 in
theorem Mq (v u:Value) (S F:RR) (keep:Int) (l:List (RR×RR)) (kk:Nat) (w:World) (hR:gM w v S F keep) (hl:dp (ue kk) 8 w u l):
  Calls Tryz.prog 5 #[v,u] w fun o w'=>o=.returned (.bool true)/\aM w w':=by
 obtain ⟨uq,uc,rfl,TM,hum⟩:=hl.form
 obtain ⟨sp,sc,sr,sd,fp,fc,fr,fd,rfl,Ul,Un⟩:=hR
 have hR:gM w (.agg #[.bool S.1,.slice sp S.2.1.length sc,.bool S.2.2.1,.slice sr S.2.2.2.length sd,.bool F.1,.slice fp F.2.1.length fc,.bool F.2.2.1,.slice fr F.2.2.2.length fd,.int .i64 keep]) S F keep:=⟨_,_,_,_,_,_,_,_,rfl,Ul,Un⟩
 obtain ⟨N,hN⟩:∃ N,N=l.length:=⟨_,rfl⟩
 rw [<-hN] at hl TM
 rw [<-hN]
 refine ah (C:=CA Tryz.prog w _) (args:=[_,_]) Tryz.func5 rfl Tryz.ntmps5 (bB rfl) ?_
 refine cY ?_
 cases Uo:nv S F l with
 | false=>
   refine VO.call rfl rfl (fk Tryz.func8) (fun bF cU bJ=>(JM _ _ S F keep l kk bF (hR.kp (Kp.of (U:=UU) bJ)) (hl.bC (dM kk) bJ) false Uo).mono ?_)
   rintro e w1 ⟨rfl,aK⟩
   skip
   refine ⟨_,rfl,aK,fun dC _ bb1=>wV rfl ?_⟩
   refine cY ?_
   refine VO.call rfl rfl (fk Tryz.func9) (fun cK eg di=>(rM cK).mono ?_)
   rintro e w2 ⟨rfl,ba⟩
   skip
   refine ⟨_,rfl,ba,fun ed _ bb2=>wV rfl ?_⟩
   refine cY ?_
   refine Ez ?_;intro wz kz bz
   exact ⟨rfl,bz⟩
 | true=>
 have hl3:=Ts Uo hl
 have hlen:=PI Uo
 obtain ⟨hS,hF,-⟩:=Et Uo
 refine VO.call rfl rfl (fk Tryz.func8) (fun bF cU bJ=>(JM _ _ S F keep l kk bF (hR.kp (Kp.of (U:=UU) bJ)) (hl.bC (dM kk) bJ) true Uo).mono ?_)
 rintro e w1 ⟨rfl,aK⟩
 skip
 refine ⟨_,rfl,aK,fun dC _ bb1=>wV rfl ?_⟩
 refine cY ?_
 clear hl
 have hl:=hl3
 clear hl3
 refine VO.call rfl rfl (fk Tryz.func18) (fun cK eg di=>(JT _ S F keep 3 cK (hR.kp (Kp.of (U:=UU) di)) hS hF aa).mono ?_)
 rintro e w2 ⟨r2,rfl,fH,ba⟩
 obtain ⟨ND,NF,NG,NH,NI,NJ,NK,NL,rfl,g1,g2⟩:=fH
 refine ⟨_,rfl,ba,fun ed _ bb2=>wV rfl ?_⟩
 refine cY ?_
 refine VO.call rfl rfl (fk Tryz.func19) (fun fh fE fG=>(JU _ l 3 fh (hl.bC (dM 3) fG) aa aa).mono ?_)
 rintro e w3 ⟨r3,rfl,hY3,cG⟩
 obtain ⟨yp,yc,rfl⟩:=hY3.form
 refine ⟨_,rfl,cG,fun gT _ bb3=>wV rfl ?_⟩
 refine cY ?_
 have fH:∀ w',bt (CA Tryz.prog w 61).K w2 w'->gM w' (.agg #[.bool S.1,.slice ND S.2.1.length NF,.bool S.2.2.1,.slice NG S.2.2.2.length NH,.bool F.1,.slice NI F.2.1.length NJ,.bool F.2.2.1,.slice NK F.2.2.2.length NL,.int .i64 keep]) S F keep:=fun w' k=>⟨_,_,_,_,_,_,_,_,rfl,g1.kp k.nH,g2.kp k.nH⟩
 cases fD:vS S F keep l with
 | false=>
   obtain ⟨c,hc⟩:∃ c,lP S F keep l=c:=⟨_,rfl⟩
   have Nf:c≠0:=hc▸Cc S F keep l
   refine VO.call rfl rfl (fk Tryz.func20) (fun iP jT jX=>(PX _ _ S F keep l iP (fH _ (gT.aF jT)) hS hF ((hY3.kp (dM 3) jT rfl).sl (dM 3)) aa fD c hc).mono ?_)
   rintro e w4 ⟨rfl,eV⟩
   skip
   refine ⟨_,rfl,eV,fun lh _ sT=>wV rfl ?_⟩
   refine cY ?_
   refine VS.now (fun wI kI oI=> ?_)
   refine VS.loop (J:=fun m L M w'=>∃ z:Nat,z≤2/\m=2 - z/\bt (CA Tryz.prog w 61).K wI w'/\L=[(1,.val (.slice uq N uc)),(2,.box 2 0),(7,.box 7 0),(8,.val (.int .i64 c)),(9,.val (.int .i64 (z:Int)))]/\M=[(2,(Py,([.bool S.1,.slice sp S.2.1.length sc,.bool S.2.2.1,.slice sr S.2.2.2.length sd,.bool F.1,.slice fp F.2.1.length fc,.bool F.2.2.1,.slice fr F.2.2.2.length fd,.int .i64 keep]:List Value).map .val)),(7,(64,[.val (.slice none 0 0),.val (.slice none 0 0)]))]) 2 ⟨_,_,?_,?_,?_,?_,⟨0,by omega,rfl,bt.refl _ _,rfl,rfl⟩⟩ ?_
   ·exact bT
   ·exact bT
   ·rfl
   ·exact ic
   rintro m L M wJ ⟨z,hz,rfl,kJ,rfl,rfl⟩
   refine cY ?_
   by_cases hlt:z < 2
   ·refine VS.aP rfl (decide_eq_true (show (z:Int) < 2 by omega)) ?_
    refine cY ?_
    refine VO.call rfl rfl (fk Tryz.func11) (fun gf jl gD=>(Ny _ _ S F keep l gf (hR.kp (Kp.of (U:=UU) gD)) hS hF (hl.bC (dM 3) gD) aa fD c hc).mono ?_)
    rintro e w5 ⟨rfl,eE⟩
    skip
    refine ⟨_,rfl,eE,fun jy _ qi=>wV rfl ?_⟩
    refine cY ?_
    refine VO.fix 40 rfl (congrArg (fun b=>AV.val (.bool b)) (xS rfl)) ?_
    refine cY ?_
    refine VO.call rfl rfl (fk Tryz.func22) (fun gj kx iz=>(vW _ _ ([],[]) 82 gj ⟨dp.nil _ _ _,dp.nil _ _ _⟩ aa bV bV).mono ?_)
    rintro e w6 ⟨r6,u6,rfl,l6,l6',fx⟩
    obtain ⟨p6,c6,rfl⟩:=l6.form
    obtain ⟨q6,d6,rfl⟩:=l6'.form
    refine ⟨_,rfl,fx,fun jz _ oX=>wV rfl ?_⟩
    refine cY ?_
    refine VO.call rfl rfl (fk Tryz.func21) (fun mz qj lZ=>(Ex _ _ _ _ ([],[]) ([],[]) 82 mz ⟨(l6.kp (dK 82) qj rfl).sl (dK 82),(l6'.kp (eP 82) qj rfl).sl (eP 82)⟩ ⟨dp.nil _ _ _,dp.nil _ _ _⟩ aa true (qa _)).mono ?_)
    rintro e w7 ⟨rfl,lC⟩
    skip
    refine ⟨_,rfl,lC,fun oC _ Bx=>wV rfl ?_⟩
    refine cY ?_
    refine VO.fix 50 rfl (congrArg (fun b=>AV.val (.bool b)) (Nd Nf)) ?_
    (repeat (first | refine wN ?_ | refine wP rfl ?_ | refine wO rfl rfl ?_))
    refine VS.NA (BZ _ _) rfl [_] _ rfl ?_
    refine wV rfl ?_
    refine wN ?_
    refine TH.mk' (B:=wI.heap.size) (wI:=wI) rfl (fk Tryz.func24) (fun wa9 ka9 ba9=>yj none none 0 0 0 0 wI.heap.size wa9 aa aa aa aa aa aa (fun i hi=>absurd hi (Nat.not_lt_zero i)) (fun i hi=>absurd hi (Nat.not_lt_zero i)) (fun i hi=>absurd hi (Nat.not_lt_zero i))) (fun w1 w2 o1 s1=>Nz o1 oI.size s1) (fun w1 w2 k1 s1=>bt.spoT ((((kJ.aF jy).aF jz).aF oC).aF k1) s1 (Nat.le_refl _)) (fun w9 k2=> ?_)
    refine cY ?_
    refine VS.back (2 - (z + 1)) aa ⟨_,_,?_,?_,?_,?_,⟨z + 1,by omega,rfl,k2,rfl,rfl⟩⟩
    ·refine ⟨rfl,rfl,rfl,rfl,?_,trivial⟩
     rw [<-aE (i:=z) aa];rfl
    ·exact bT
    ·rfl
    ·exact ic
   ·refine VS.aQ rfl (decide_eq_false (show ¬ (z:Int) < 2 by omega)) ?_
    refine cY ?_
    refine VO.call rfl rfl (fk Tryz.func9) (fun tK yr Lp=>(rM tK).mono ?_)
    rintro e w10 ⟨rfl,tL⟩
    skip
    refine ⟨_,rfl,tL,fun jN _ Lq=>wV rfl ?_⟩
    refine cY ?_
    refine Ez ?_;intro wz kz bz
    exact ⟨rfl,bz⟩
 | true=>
   have hf:=yb fD
   have Cs:=hf.k0
   have DR:=hf.k1
   have hN12:N≤12:=by have:=hf.len;omega
   obtain ⟨kn,rR⟩:∃ kn:Nat,keep=(kn:Int):=⟨keep.toNat,by omega⟩
   have hM:=vU hR hS hF hl hf aa
   have hsz:=TE (kn:=kn) hM
   refine VO.call rfl rfl (fk Tryz.func20) (fun iP jT jX=>(LZ _ _ S F keep kn l iP (fH _ (gT.aF jT)) hS hF ((hY3.kp (dM 3) jT rfl).sl (dM 3)) hf aa rR).mono ?_)
   rintro e w4 ⟨r4,u4,rfl,rS,Qd,eV⟩
   obtain ⟨rp,rc,rfl⟩:=rS.form
   obtain ⟨up,uc2,rfl⟩:=Qd.form
   refine ⟨_,rfl,eV,fun lh _ sT=>wV rfl ?_⟩
   refine cY ?_
   obtain ⟨x,hx⟩:∃ x,qq S.q F.q kn (bX l)=x:=⟨_,rfl⟩
   have Gc:=Nx S.q F.q kn (bX l)
   rw [<-FE] at rS Qd ⊢
   rw [hx] at rS Qd hsz Gc ⊢
   have BL:x.1.length=N:=by rw [Gc.rln,hN];unfold bX;simp
   obtain ⟨n,hln2⟩:∃ n,x.2.length=n:=⟨_,rfl⟩
   have hn24:n≤24:=by
    have h1:=(JQ (kn:=kn) hM).1.len
    have h2:=(JQ (kn:=kn) hM).2
    have h3:(bX l).length=N:=by rw [hN];unfold bX;simp
    rw [<-hln2,<-hx]
    show (iC S.q F.q kn (bX l)).uses.length≤24
    omega
   have e1:(nX x).1.length=x.1.length:=List.length_map _
   have e2:(nX x).2.length=x.2.length:=List.length_map _
   have sZ:Cp S F keep l (nX x)=true:=by
    unfold Cp
    rw [fD,rR,Int.toNat_natCast,hx,qa];rfl
   obtain ⟨RN,hRN⟩:∃ n,x.1.length=n:=⟨_,rfl⟩
   obtain ⟨UN,hUN⟩:∃ n,x.2.length=n:=⟨_,rfl⟩
   rw [hRN] at rS
   rw [hUN] at Qd
   rw [hRN,hUN]
   refine VS.now (fun wI kI oI=> ?_)
   replace rS:=rS.kp (cz 82) kI rfl
   replace Qd:=Qd.kp (ir 82) kI rfl
   refine VS.loop (J:=fun m L M w'=>∃ z:Nat,z≤2/\m=2 - z/\bt (CA Tryz.prog w 61).K wI w'/\L=[(1,.val (.slice uq N uc)),(2,.box 2 0),(7,.box 7 0),(8,.val (.int .i64 0)),(9,.val (.int .i64 (z:Int)))]/\M=[(2,(Py,([.bool S.1,.slice sp S.2.1.length sc,.bool S.2.2.1,.slice sr S.2.2.2.length sd,.bool F.1,.slice fp F.2.1.length fc,.bool F.2.2.1,.slice fr F.2.2.2.length fd,.int .i64 keep]:List Value).map .val)),(7,(64,[.val (.slice rp RN rc),.val (.slice up UN uc2)]))]) 2 ⟨_,_,?_,?_,?_,?_,⟨0,by omega,rfl,bt.refl _ _,rfl,rfl⟩⟩ ?_
   ·exact bT
   ·exact bT
   ·rfl
   ·exact ic
   rintro m L M wJ ⟨z,hz,rfl,kJ,rfl,rfl⟩
   refine cY ?_
   by_cases hlt:z < 2
   ·refine VS.aP rfl (decide_eq_true (show (z:Int) < 2 by omega)) ?_
    refine cY ?_
    refine VO.call rfl rfl (fk Tryz.func11) (fun gf jl gD=>((JP _ _ S F keep kn l gf (hR.kp (Kp.of (U:=UU) gD)) hS hF (hl.bC (dM 3) gD) hf aa rR).mono (fun o w2 h=>And.intro h (And.intro jl.size gD))).mono ?_)
    rintro e w5 ⟨⟨r5,u5,rfl,l5,eE⟩,pV,ba5'⟩
    obtain ⟨pr,cr,pu,cu,rfl,rfl⟩:=l5.form
    refine ⟨_,rfl,eE,fun jy _ qi=>wV rfl ?_⟩
    refine cY ?_
    rw [hx] at l5 ⊢
    obtain ⟨B,hB⟩:∃ B,gf.heap.size=B:=⟨_,rfl⟩
    rw [hB] at l5 pV
    rw [BL,hln2] at l5 ⊢
    refine VO.call rfl rfl (fk Tryz.func22) (fun gj kx iz=>(vW _ _ (nX x) 82 gj ((l5.kpF (nT _ _) kx kx.nH).inI hsz) aa (by rw [e1];omega) (by rw [e2];omega)).mono ?_)
    rintro e w6 ⟨r6,u6,rfl,l6,l6',fx⟩
    obtain ⟨p6,c6,rfl⟩:=l6.form
    obtain ⟨q6,d6,rfl⟩:=l6'.form
    refine ⟨_,rfl,fx,fun jz _ oX=>wV rfl ?_⟩
    refine cY ?_
    refine VO.call rfl rfl (fk Tryz.func21) (fun mz qj lZ=>(Ex _ _ _ _ (nX x) (nX x) 82 mz ⟨(l6.kp (dK 82) qj rfl).sl (dK 82),(l6'.kp (eP 82) qj rfl).sl (eP 82)⟩ (led_ref (rS.kp (cz 82) (((kJ.aF jy).aF jz).aF qj) rfl) (Qd.kp (ir 82) (((kJ.aF jy).aF jz).aF qj) rfl)) aa true (qa _)).mono ?_)
    rintro e w7 ⟨rfl,lC⟩
    skip
    refine ⟨_,rfl,lC,fun oC _ Bx=>wV rfl ?_⟩
    refine cY ?_
    refine VO.call rfl rfl (fk Tryz.func23) (fun sB CP vo=>(PW _ _ _ _ S F keep l (nX x) sB (hR.kp (Kp.of (U:=UU) vo)) hS hF (hl.bC (dM 3) vo) ((l5.kpF (nT _ _) ((jz.aF oC).aF CP) ((jz.aF oC).aF CP).nH).inI hsz) aa aa true sZ).mono ?_)
    rintro e w8 ⟨rfl,qe⟩
    skip
    refine ⟨_,rfl,qe,fun sC _ Kk=>wV rfl ?_⟩
    (repeat (first | refine wN ?_ | refine wP rfl ?_ | refine wO rfl rfl ?_))
    have hcr5:=(l5.kpF (nT _ _) (jz.aF (oC.aF sC)) (jz.aF (oC.aF sC)).nH).caps
    obtain ⟨hcr,hcrm,hcu,hcum⟩:=hcr5
    refine VS.NA (BZ _ _) rfl [_] _ rfl ?_
    refine wV rfl ?_
    refine wN ?_
    refine TH.mk' (B:=B) (wI:=wI) rfl (fk Tryz.func24) (fun wa9 ka9 ba9=> ?_) (fun w1 w2 o1 s1=>Nz o1 (Nat.le_trans oI.size (Nat.le_trans kJ.size pV)) s1) (fun w1 w2 k1 s1=>bt.spoT (((((kJ.aF jy).aF jz).aF oC).aF sC).aF k1) s1 (Nat.le_trans kJ.size pV)) (fun w9 k2=> ?_)
    ·have hmg:=(l5.kpF (nT _ _) (jz.aF (oC.aF (sC.aF ka9))) (jz.aF (oC.aF (sC.aF ka9))).nH).mag
     exact yj pr pu N cr n cu B wa9 aa aa hcr hcu hcrm hcum hmg.1 hmg.2.1 hmg.2.2
    refine cY ?_
    refine VS.back (2 - (z + 1)) aa ⟨_,_,?_,?_,?_,?_,⟨z + 1,by omega,rfl,k2,rfl,rfl⟩⟩
    ·refine ⟨rfl,rfl,rfl,rfl,?_,trivial⟩
     rw [<-aE (i:=z) aa];rfl
    ·exact bT
    ·rfl
    ·exact ic
   ·refine VS.aQ rfl (decide_eq_false (show ¬ (z:Int) < 2 by omega)) ?_
    refine cY ?_
    refine VO.call rfl rfl (fk Tryz.func9) (fun tK yr Lp=>(rM tK).mono ?_)
    rintro e w10 ⟨rfl,tL⟩
    skip
    refine ⟨_,rfl,tL,fun jN _ Lq=>wV rfl ?_⟩
    refine cY ?_
    refine Ez ?_;intro wz kz bz
    exact ⟨rfl,bz⟩
end
section
open Go.RowKit
abbrev Cq:Nat:=9223372036854775807
section
variable {H:Type} {enc:TypeId×Value->H} {w:World} {held:Bool}
theorem ui (cs:List Value) (o n m:Nat) (h:m=o + n):cs.drop o=(cs.drop o).take n++cs.drop m:=by
 subst h
 have:=(List.take_append_drop n (cs.drop o)).symm
 rw [List.drop_drop] at this
 exact this
theorem Up {s t:Bool} {p r:Option Addr} {n c m d:Nat} {xs ys:List Nat} (h:eR w (.agg #[.bool s,.slice p n c,.bool t,.slice r m d]) s xs t ys):n=xs.length/\m=ys.length/\xs.length≤Cq/\ys.length≤Cq:=by
 obtain ⟨p',c',r',d',hv,h1,h2⟩:=h
 simp only [Value.agg.injEq,Array.mk.injEq,List.cons.injEq,and_true,Value.slice.injEq,Value.bool.injEq] at hv
 obtain ⟨_,⟨rfl,rfl,rfl⟩,_,rfl,rfl,rfl⟩:=hv
 obtain ⟨_,_,_,jE,_⟩:=h1
 obtain ⟨_,_,_,jW,_⟩:=h2
 obtain ⟨_,_,_,a1,a2,_⟩:=jE.u32
 obtain ⟨_,_,_,b1,b2,_⟩:=jW.u32
 exact ⟨rfl,rfl,by unfold Cq;omega,by unfold Cq;omega⟩
theorem Aj {fuel:Nat} {cs:List Value} {x:DataW H×List MemPlace} (h:DataW.trod enc Tryz.prog w 0 (fun _=>true) held fuel 26 cs=some x):∃ a:RR,Rw Cq w cs a:=by
 obtain ⟨s,p,n,c,t,r,m,d,xs,ys,rfl,h0⟩:=Sp h
 obtain ⟨rfl,rfl,h1,h2⟩:=Up h0
 exact ⟨(s,xs,t,ys),⟨p,c,r,d,rfl,h0⟩,h1,h2⟩
set_option maxRecDepth 100000 in
theorem PY {fuel:Nat} {cs:List Value} {x:DataW H×List MemPlace} (h:DataW.trod enc Tryz.prog w 0 (fun _=>true) held fuel 51 cs=some x):∃ e:RR×RR,ue Cq w cs e:=by
 obtain ⟨zs,n,rfl,rfl,hl,lR,hf⟩:=DataW.trod_struct Tryz.underlying51 h
 have zM:cs.length=8:=by
  have c:Tryz.prog.cellsOf 51=8:=by kernel_rfl
  rw [c] at hl;exact hl
 have hy2:zs.length=2:=lR
 obtain ⟨z0,kN⟩:∃ z,zs[0]? =some z:=⟨_,List.getElem?_eq_getElem aa⟩
 obtain ⟨z1,ik⟩:∃ z,zs[1]? =some z:=⟨_,List.getElem?_eq_getElem aa⟩
 have Ke:Tryz.prog.cellsOf 26=4:=by kernel_rfl
 have h0:=hf 0 _ rfl
 rw [kN] at h0
 change DataW.trod enc Tryz.prog w 0 (fun _=>true) held n 26 ((cs.drop 0).take (Tryz.prog.cellsOf 26))=some z0 at h0
 rw [Ke] at h0
 have h1:=hf 1 _ rfl
 rw [ik] at h1
 change DataW.trod enc Tryz.prog w 0 (fun _=>true) held n 26 ((cs.drop 4).take (Tryz.prog.cellsOf 26))=some z1 at h1
 rw [Ke] at h1
 obtain ⟨x0,iV⟩:=Aj h0
 obtain ⟨x1,MQ⟩:=Aj h1
 have a0:cs.drop 0=(cs.drop 0).take 4++cs.drop 4:=ui cs 0 4 4 rfl
 have a1:cs.drop 4=(cs.drop 4).take 4:=by rw [List.take_of_length_le];rw [List.length_drop];omega
 have ecs:cs=(cs.drop 0).take 4++((cs.drop 4).take 4):=by
  have a:cs=cs.drop 0:=rfl
  rw [a0] at a
  rw [a1] at a
  exact a
 rw [ecs]
 exact ⟨(x0,x1),_,_,rfl,iV.1,MQ.1,iV.2,MQ.2⟩
set_option maxRecDepth 100000 in
theorem Cr {v:Value} {d:DataW H} {ps:List MemPlace} {r:_root_.Go.Reach} {b0:Nat} (hv:Value.okWide Tryz.prog w r b0 29 v) (h:DataW.Trod enc Tryz.prog w 0 (fun _=>true) held 29 v d ps):∃ es:List (RR×RR),dp (ue Cq) 8 w v es:=
 open_sl Tryz.underlying29 (by kernel_rfl) aa (fun h=>PY h) hv h
def RulC (w:World) (cs:List Value) (a b:RR) (keep:Int):Prop:=∃ x y,cs=x++(y++[.int .i64 keep])/\xk w x a/\xk w y b
set_option maxRecDepth 100000 in
theorem Ur {fuel:Nat} {cs:List Value} {x:DataW H×List MemPlace} (h:DataW.trod enc Tryz.prog w 0 (fun _=>true) held fuel 28 cs=some x):∃ (a b:RR) (keep:Int),RulC w cs a b keep/\(Lit.int .i64 keep).wf=true:=by
 obtain ⟨zs,n,rfl,rfl,hl,lR,hf⟩:=DataW.trod_struct Tryz.underlying28 h
 have zM:cs.length=9:=by
  have c:Tryz.prog.cellsOf 28=9:=by kernel_rfl
  rw [c] at hl;exact hl
 have hy2:zs.length=3:=lR
 obtain ⟨z0,kN⟩:∃ z,zs[0]? =some z:=⟨_,List.getElem?_eq_getElem aa⟩
 obtain ⟨z1,ik⟩:∃ z,zs[1]? =some z:=⟨_,List.getElem?_eq_getElem aa⟩
 obtain ⟨z2,oi⟩:∃ z,zs[2]? =some z:=⟨_,List.getElem?_eq_getElem aa⟩
 have c_int:Tryz.prog.cellsOf 3=1:=by kernel_rfl
 have Ke:Tryz.prog.cellsOf 26=4:=by kernel_rfl
 have h0:=hf 0 _ rfl
 rw [kN] at h0
 change DataW.trod enc Tryz.prog w 0 (fun _=>true) held n 26 ((cs.drop 0).take (Tryz.prog.cellsOf 26))=some z0 at h0
 rw [Ke] at h0
 have h1:=hf 1 _ rfl
 rw [ik] at h1
 change DataW.trod enc Tryz.prog w 0 (fun _=>true) held n 26 ((cs.drop 4).take (Tryz.prog.cellsOf 26))=some z1 at h1
 rw [Ke] at h1
 have h2:=hf 2 _ rfl
 rw [oi] at h2
 change DataW.trod enc Tryz.prog w 0 (fun _=>true) held n 3 ((cs.drop 8).take (Tryz.prog.cellsOf 3))=some z2 at h2
 rw [c_int] at h2
 obtain ⟨x0,iV⟩:=Aj h0
 obtain ⟨x1,MQ⟩:=Aj h1
 obtain ⟨k2,e2,_,hk2⟩:=DataW.trod_int Tryz.underlying3 h2
 have a0:cs.drop 0=(cs.drop 0).take 4++cs.drop 4:=ui cs 0 4 4 rfl
 have a1:cs.drop 4=(cs.drop 4).take 4++cs.drop 8:=ui cs 4 4 8 rfl
 have a2:cs.drop 8=(cs.drop 8).take 1:=by rw [List.take_of_length_le];rw [List.length_drop];omega
 have ecs:cs=(cs.drop 0).take 4++((cs.drop 4).take 4++((cs.drop 8).take 1)):=by
  have a:cs=cs.drop 0:=rfl
  rw [a0] at a
  rw [a1] at a
  rw [a2] at a
  exact a
 rw [ecs]
 exact ⟨x0,x1,k2,⟨_,_,by rw [e2],iV.1,MQ.1⟩,hk2⟩
set_option maxRecDepth 100000 in
theorem GC {v:Value} {d:DataW H} {ps:List MemPlace} {r:_root_.Go.Reach} {b0:Nat} (hv:Value.okWide Tryz.prog w r b0 28 v) (h:DataW.Trod enc Tryz.prog w 0 (fun _=>true) held 28 v d ps):∃ (a b:RR) (keep:Int),gM w v a b keep:=by
 obtain ⟨cs,rfl,_⟩:=WideShapes.okWide_struct Tryz.underlying28 hv
 obtain ⟨fuel,hf⟩:=h
 obtain ⟨a,b,keep,⟨_,_,he,⟨p,c,r,d,rfl,h1⟩,⟨p',c',r',d',rfl,h2⟩⟩,_⟩:=Ur hf
 have qH:cs.toList=[.bool a.1,.slice p a.2.1.length c,.bool a.2.2.1,.slice r a.2.2.2.length d,.bool b.1,.slice p' b.2.1.length c',.bool b.2.2.1,.slice r' b.2.2.2.length d',.int .i64 keep]:=by simpa [Value.cells] using he
 have hc:cs=#[.bool a.1,.slice p a.2.1.length c,.bool a.2.2.1,.slice r a.2.2.2.length d,.bool b.1,.slice p' b.2.1.length c',.bool b.2.2.1,.slice r' b.2.2.2.length d',.int .i64 keep]:=by rw [<-Array.toArray_toList (xs:=cs),qH]
 exact ⟨a,b,keep,p,c,r,d,p',c',r',d',by rw [hc],h1,h2⟩
end
end
end Go.Proofs.YtabalinjfgcfeaaGreat
