/- Df of the proof,laid behind one another. -/
import Derived.Test.YtabalinjfgcfeaaGreatKInterestKeeps6
set_option linter.all false
set_option maxHeartbeats 64000000
set_option maxRecDepth 4000
namespace Go.Proofs.YtabalinjfgcfeaaGreat
section
open Go.RowKit
attribute [local irreducible] aC VS
theorem VS.hop {C:Cx} {Q:Exit->Act->World->Prop} {F:Fr} {H:Hp} {w:World} {P:Fr->Hp->World->Prop} {Tt Tu:List It} (h1:(∀ F' H' w',P F' H' w'->VS C Q Tu F' H' w')->VS C Q Tt F H w) (h2:∀ F' H' w',P F' H' w'->VS C Q Tu F' H' w'):VS C Q Tt F H w:=h1 h2
theorem gL.of {α β:Type} {E:World->List Value->α->Prop} {sz:Nat} (hE:gL E sz) (f:β->α):gL (fun w cs b=>E w cs (f b)) sz where
 kp:=fun h k=>hE.kp h k
 len:=fun h=>hE.len h
 ok:=fun h=>hE.ok h
def wq (kk:Nat) (w:World) (cs:List Value) (q:Rat):Prop:=Rw kk w cs (qC q)
def FU (kk:Nat) (w:World) (cs:List Value) (r:aM):Prop:=∃ a b c d e f g,cs=a++(b++(c++(d++(e++(f++g)))))/\wq kk w a r.aW/\wq kk w b r.allowed/\wq kk w c r.aE/\wq kk w d r.used/\wq kk w e r.au/\wq kk w f r.ao/\wq kk w g r.closing
def LY (kk:Nat) (w:World) (cs:List Value) (e:Uq):Prop:=∃ a,cs=[.int .i64 (e.1:Int),.int .i64 (e.2.1:Int)]++a/\wq kk w a e.2.2
theorem bm (kk:Nat):gL (wq kk) 4:=(Uz kk).of qC
theorem cH (kk:Nat):gL (FU kk) 28:=(dH kk).of Uf
theorem iW (kk:Nat):gL (LY kk) 6:=(eH kk).of Ug
theorem dX {kk:Nat} {w:World} {s t:Bool} {p u:Option Addr} {a c b d:Nat} {q:Rat} (h:bE w (.agg #[.bool s,.slice p a c,.bool t,.slice u b d]) q) (hs:et q kk):wq kk w [.bool s,.slice p a c,.bool t,.slice u b d] q:=⟨h.LP,pZ hs⟩
theorem wq.opn {kk:Nat} {w:World} {cs:List Value} {q:Rat} (h:wq kk w cs q):∃ s p n c t y m d,cs=[.bool s,.slice p n c,.bool t,.slice y m d]/\wq kk w [.bool s,.slice p n c,.bool t,.slice y m d] q:=by
 obtain ⟨⟨p,c,r,d,rfl,h1⟩,h2⟩:=h
 exact ⟨_,_,_,_,_,_,_,_,rfl,⟨p,c,r,d,rfl,h1⟩,h2⟩
theorem wq.inq {kk:Nat} {w:World} {s t:Bool} {p u:Option Addr} {a c b d:Nat} {q:Rat} (h:wq kk w [.bool s,.slice p a c,.bool t,.slice u b d] q):bA w (.agg #[.bool s,.slice p a c,.bool t,.slice u b d]) q kk:=by
 obtain ⟨⟨p',c',r',d',hv,h1⟩,h2⟩:=h
 simp only [List.cons.injEq,Value.bool.injEq,Value.slice.injEq,and_true] at hv
 obtain ⟨rfl,⟨rfl,rfl,rfl⟩,rfl,rfl,rfl,rfl⟩:=hv
 have:=h1.iq h2
 rwa [ye] at this
theorem wq.kp {T:TypeId->Bool} {kk:Nat} {w w':World} {cs:List Value} {q:Rat} (h:wq kk w cs q) (k:bH ⟨UU,fun _=>True,T⟩ w w'):wq kk w' cs q:=Rw.kp h k
theorem FU.opn {kk:Nat} {w:World} {cs:List Value} {r:aM} (h:FU kk w cs r):∃ yD yG yH yI yJ yK yL yM yO yP yQ yR yT yU yV yW yX yY yZ za zb zc zd ze zf zg zh zi zj zl zm zn zo zp zt zu zv zw zx zy FV FX FY Ga Gb Gc Gd Ge Gf Gg Gh Gi Gj Gk Gl Gm,cs=[.bool yD,.slice yG yH yI,.bool yJ,.slice yK yL yM,.bool yO,.slice yP yQ yR,.bool yT,.slice yU yV yW,.bool yX,.slice yY yZ za,.bool zb,.slice zc zd ze,.bool zf,.slice zg zh zi,.bool zj,.slice zl zm zn,.bool zo,.slice zp zt zu,.bool zv,.slice zw zx zy,.bool FV,.slice FX FY Ga,.bool Gb,.slice Gc Gd Ge,.bool Gf,.slice Gg Gh Gi,.bool Gj,.slice Gk Gl Gm]/\wq kk w [.bool yD,.slice yG yH yI,.bool yJ,.slice yK yL yM] r.aW/\wq kk w [.bool yO,.slice yP yQ yR,.bool yT,.slice yU yV yW] r.allowed/\wq kk w [.bool yX,.slice yY yZ za,.bool zb,.slice zc zd ze] r.aE/\wq kk w [.bool zf,.slice zg zh zi,.bool zj,.slice zl zm zn] r.used/\wq kk w [.bool zo,.slice zp zt zu,.bool zv,.slice zw zx zy] r.au/\wq kk w [.bool FV,.slice FX FY Ga,.bool Gb,.slice Gc Gd Ge] r.ao/\wq kk w [.bool Gf,.slice Gg Gh Gi,.bool Gj,.slice Gk Gl Gm] r.closing:=by
 obtain ⟨_,_,_,_,_,_,_,rfl,h0,h1,h2,h3,h4,h5,h6⟩:=h
 obtain ⟨yD,yG,yH,yI,yJ,yK,yL,yM,rfl,g0⟩:=h0.opn
 obtain ⟨yO,yP,yQ,yR,yT,yU,yV,yW,rfl,g1⟩:=h1.opn
 obtain ⟨yX,yY,yZ,za,zb,zc,zd,ze,rfl,g2⟩:=h2.opn
 obtain ⟨zf,zg,zh,zi,zj,zl,zm,zn,rfl,g3⟩:=h3.opn
 obtain ⟨zo,zp,zt,zu,zv,zw,zx,zy,rfl,g4⟩:=h4.opn
 obtain ⟨FV,FX,FY,Ga,Gb,Gc,Gd,Ge,rfl,g5⟩:=h5.opn
 obtain ⟨Gf,Gg,Gh,Gi,Gj,Gk,Gl,Gm,rfl,g6⟩:=h6.opn
 exact ⟨_,_,_,_,_,_,_,_,_,_,_,_,_,_,_,_,_,_,_,_,_,_,_,_,_,_,_,_,_,_,_,_,_,_,_,_,_,_,_,_,_,_,_,_,_,_,_,_,_,_,_,_,_,_,_,_,rfl,g0,g1,g2,g3,g4,g5,g6⟩
theorem iX {vs:List (List Value)} {sz i:Nat} {new:List Value} {sp:List AV} (h:∀ x∈vs,x.length=sz) (hi:i < vs.length) (ho:new.length=sz):
  (vs.flatten.map AV.val++sp).take (0 + ((i:Nat):Int).toNat * sz)++(new.map AV.val++(vs.flatten.map AV.val++sp).drop (0 + ((i:Nat):Int).toNat * sz + new.length))=(vs.set i new).flatten.map AV.val++sp:=by
 rw [Int.toNat_natCast,Nat.zero_add]
 obtain ⟨x,hx⟩:∃ x,vs[i]? =some x:=⟨_,List.getElem?_eq_getElem hi⟩
 have:=Ei (o:=0) (new:=new) (sp:=sp) h hx ab
 rw [Nat.add_zero] at this
 rw [this]
 have fA:=h x (List.mem_of_getElem? hx)
 rw [show x.take 0++(new++x.drop (0 + new.length))=new by rw [List.take_zero,List.nil_append,List.drop_of_length_le ab,List.append_nil]]
theorem iy.set {α:Type} {E:World->List Value->α->Prop} {sz n c:Nat} {w w':World} {vs:List (List Value)} {sp:List AV} {es:List α} (hE:gL E sz) (h:iy E sz w n c vs sp es) {i:Nat} {cs:List Value} {a:α} (k:Kp UU w w') (hcs:E w' cs a):iy E sz w' n c (vs.set i cs) sp (es.set i a):=by
 have DM:=h.el.kp hE k
 have hel2:=DM.set (i:=i) hcs
 refine ⟨by rw [List.length_set];exact h.len,hel2,h.so,h.sl,h.le,h.cm,?_⟩
 have hf:=h.fl
 rw [List.length_append,List.length_map,dB (DM.lens hE)] at hf
 rw [List.length_append,List.length_map,dB (hel2.lens hE),List.length_set]
 exact hf
set_option maxRecDepth 8000 in
theorem LZ (v u:Value) (S F:RR) (keep:Int) (kn:Nat) (l:List (RR×RR)) (w:World) (hR:fN w v S F keep) (hS:S.jF 3) (hF:F.jF 3) (hl:cO (si 3) 8 w u l) (fI:vS S F keep l) (hlen:l.length≤12) (qO:keep=(kn:Int)):
  Calls Tryz.prog 20 #[v,u] w fun o w'=>∃ r u',o=.returned (.tuple #[.agg #[r,u'],.int .i64 0])/\iw (FU 82) 28 108 w.heap.size w' r (Fo S.q F.q kn (cj l)).1/\iw (LY 82) 6 106 w.heap.size w' u' (Fo S.q F.q kn (cj l)).2/\aL w w':=by
 have hM:=Ch hR hS hF hl fI hlen
 obtain ⟨D,hD⟩:∃ D,D=S.q.den * F.q.den * xt (cj l):=⟨_,rfl⟩
 obtain ⟨M0,hM0⟩:∃ M:Rat,M=(((4294967296 ^ 3:Nat):Int):Rat):=⟨_,rfl⟩
 rw [<-hD,<-hM0] at hM
 clear hD hM0
 have He:=fI.k1
 have zSe:∀ e∈l,et (S.q * e.2.q) 82:=fun e he=>by
  obtain ⟨a,b⟩:=Ut hl bW e he
  exact ((hR.sz hS hF bW).1.mul b).mono ab
 have hR0:=hR
 obtain ⟨Ma,Mb,Mc,Md,GA,GB,GC,GD,rfl,sW,hfr⟩:=hR
 obtain ⟨pu,cu,rfl,Qy,hum⟩:=hl.form
 obtain ⟨N,hN⟩:∃ N,N=l.length:=⟨_,rfl⟩
 rw [<-hN] at hl Qy hlen
 rw [<-hN]
 subst qO
 have hkn40:kn≤40:=by omega
 refine ag (C:=bP Tryz.prog w _) (args:=[_,_]) Tryz.func20 rfl Tryz.ntmps20 (bu rfl) ?_
 refine aa ?_
 refine VO.call rfl rfl (fk Tryz.func47) (fun LQ ka41 FK=>(Cm _ _ S F (kn:Int) l 3 LQ (hR0.kp (Kp.of (U:=UU) FK)) hS hF (hl.bo (dV 3) FK) ab ab true (by rw [fI.rul,fI.yrs];rfl)).mono ?_)
 rintro e w41 ⟨rfl,LR⟩
 skip
 refine ⟨_,rfl,LR,fun kb41 _ bb41=>wV rfl ?_⟩
 refine aa ?_
 refine VS.aQ rfl (decide_eq_false (show ¬ (N:Int) > 40 by omega)) ?_
 refine aa ?_
 refine VO.call rfl rfl (fk Tryz.func25) (fun wa0 ka0 ba0=>(nw wa0).mono ?_)
 rintro e w0 ⟨r0,rfl,q0,ou⟩
 obtain ⟨s0,p0,n0,c0,t0,y0,m0,d0,rfl⟩:=q0.form
 refine ⟨_,rfl,ou,fun kb0 _ bb0=>wV rfl ?_⟩
 refine aa ?_
 refine VS.loop (J:=fun m L M w'=>∃ (z:Nat) (s0 p0 n0 c0 t0 y0 m0 d0:_),z≤N/\m=N - z/\TOk D M0 (runT S.q F.q kn (cj (l.take z)))/\(runT S.q F.q kn (cj (l.take z))).rows.length=z/\bE w' (.agg #[.bool s0,.slice p0 n0 c0,.bool t0,.slice y0 m0 d0]) 0/\
   ((z=0/\L=[(1,.val (.slice pu N cu)),(2,.box 2 0),(4,.box 4 0),(6,.box 6 0),(7,.box 7 0),(8,.val (.slice none 0 0)),(9,.val (.int .i64 (z:Int)))]/\M=[(2,(57,([.bool S.1,.slice Ma S.2.1.length Mb,.bool S.2.2.1,.slice Mc S.2.2.2.length Md,.bool F.1,.slice GA F.2.1.length GB,.bool F.2.2.1,.slice GC F.2.2.2.length GD,.int .i64 (kn:Int)]:List Value).map .val)),(4,(64,[.val (.slice none 0 0),.val (.slice none 0 0)])),(6,(64,[.val (.slice none 0 0),.val (.slice none 0 0)])),(7,(55,([.bool s0,.slice p0 n0 c0,.bool t0,.slice y0 m0 d0]:List Value).map .val))])\/
    (0 < z/\∃ (CA:List (List Value)) (Ak:List AV) (cl:Nat) (kM:List (List Value)) (nH:List AV) (cr:Nat),iy (wq 82) 4 w' z cl CA Ak (runT S.q F.q kn (cj (l.take z))).left/\iy (FU 82) 28 w' z cr kM nH (runT S.q F.q kn (cj (l.take z))).rows/\
     (((runT S.q F.q kn (cj (l.take z))).uses=[]/\L=[(1,.val (.slice pu N cu)),(2,.box 2 0),(4,.box 4 0),(6,.box 6 0),(7,.box 7 0),(8,.row 115 0 z cl),(9,.val (.int .i64 (z:Int)))]/\M=[(2,(57,([.bool S.1,.slice Ma S.2.1.length Mb,.bool S.2.2.1,.slice Mc S.2.2.2.length Md,.bool F.1,.slice GA F.2.1.length GB,.bool F.2.2.1,.slice GC F.2.2.2.length GD,.int .i64 (kn:Int)]:List Value).map .val)),(4,(64,[.val (.slice none 0 0),.val (.slice none 0 0)])),(6,(64,[.row 129 0 z cr,.val (.slice none 0 0)])),(7,(55,([.bool s0,.slice p0 n0 c0,.bool t0,.slice y0 m0 d0]:List Value).map .val)),(115,(55,CA.flatten.map .val++Ak)),(129,(108,kM.flatten.map .val++nH))])\/
      (∃ (ku:Nat) (xn:List (List Value)) (yd:List AV) (CX:Nat),iy (LY 82) 6 w' ku CX xn yd (runT S.q F.q kn (cj (l.take z))).uses/\L=[(1,.val (.slice pu N cu)),(2,.box 2 0),(4,.box 4 0),(6,.box 6 0),(7,.box 7 0),(8,.row 115 0 z cl),(9,.val (.int .i64 (z:Int)))]/\M=[(2,(57,([.bool S.1,.slice Ma S.2.1.length Mb,.bool S.2.2.1,.slice Mc S.2.2.2.length Md,.bool F.1,.slice GA F.2.1.length GB,.bool F.2.2.1,.slice GC F.2.2.2.length GD,.int .i64 (kn:Int)]:List Value).map .val)),(4,(64,[.val (.slice none 0 0),.val (.slice none 0 0)])),(6,(64,[.row 129 0 z cr,.row 95 0 ku CX])),(7,(55,([.bool s0,.slice p0 n0 c0,.bool t0,.slice y0 m0 d0]:List Value).map .val)),(115,(55,CA.flatten.map .val++Ak)),(129,(108,kM.flatten.map .val++nH)),(95,(106,xn.flatten.map .val++yd))]))))) N
  ⟨_,_,?_,?_,?_,?_,⟨0,s0,p0,n0,c0,t0,y0,m0,d0,by omega,rfl,⟨rfl,fun x hx=>(by cases hx),Nat.zero_le _⟩,rfl,q0.kr,.inl ⟨rfl,rfl,rfl⟩⟩⟩ ?_
 ·exact cd
 ·exact cd
 ·rfl
 ·exact ⟨.vals _,.lit rfl,.lit rfl,.vals _,trivial⟩
 clear q0
 rintro m L M wJ ⟨z,s0,p0,n0,c0,t0,y0,m0,d0,hz,rfl,QG,pj,q0,⟨jB,rfl,rfl⟩ | ⟨jB,CA,Ak,cl,kM,nH,cr,jY,mj,hUd⟩⟩
 ·subst jB
  refine aa ?_
  by_cases hlt:(0:Nat) < N
  ·obtain ⟨e,he⟩:∃ e,l[0]? =some e:=⟨_,List.getElem?_eq_getElem ab⟩
   obtain ⟨j1,j2,j3,j4,j5⟩:=hM.el (e.1.q,e.2.q) (List.mem_map.2 ⟨e,List.mem_of_getElem? he,rfl⟩)
   obtain ⟨b,off,eW,fQ,hc,⟨_,_,rfl,⟨ap,ac,ar,ad,rfl,hae⟩,⟨bp,bc,br,bd,rfl,hbe⟩,hfa,hfb⟩⟩:=hl.at he
   subst fQ
   have JL:=lQ S.q F.q e.2.q
   obtain ⟨LM,tX⟩:∃ LM,ay S.q F.q e.2.q=LM:=⟨_,rfl⟩
   dsimp only at j1 j2 j3 j4 j5
   rw [tX] at j1 j2 JL
   obtain ⟨g1,g2,g3,g4,g5,g6,g7,g8,g9⟩:=nD j1 JL j2 j3 j4 j5
   have Gn:=Er S.q F.q kn (cj (l.take 0)) (e.1.q,e.2.q)
   rw [<-oW he,pj] at Gn
   obtain ⟨vW,vX⟩:=JE (S:=S.q) (F:=F.q) (keep:=kn) (e:=(e.1.q,e.2.q)) QG (by rw [pj];omega) (by dsimp only;rw [tX];exact j1) (by dsimp only;rw [tX];exact j2) j3 j4 j5
   rw [pj] at vW vX
   rw [<-Gn] at vW vX
   have hIn:=LW.init (keep:=kn) QG pj g7 g8
   obtain ⟨AL,hAL⟩:∃ AL,ae e.1.q LM=AL:=⟨_,rfl⟩
   rw [hAL] at g1 g2 g3 g4 g5 g6 g7 g8 g9 hIn
   have zLM:=hM.sz LM j1 dp dp
   have QH:=hM.sz AL g1 dp dp
   have zDN:=hM.sz _ g4 dp g6
   have zRM:=hM.sz _ g7 dp g9
   obtain ⟨RM,hRM⟩:∃ RM,LM - AL=RM:=⟨_,rfl⟩
   obtain ⟨DN,hDN⟩:∃ DN,e.1.q - AL=DN:=⟨_,rfl⟩
   rw [hRM] at g7 g8 g9 hIn zRM
   rw [hDN] at g4 g5 g6 zDN
   obtain ⟨LF,QI⟩:∃ LF,(runT S.q F.q kn (cj (l.take 0))).left.take (0 - kn)++(qI (bI (0 - kn) ((runT S.q F.q kn (cj (l.take 0))).left.drop (0 - kn))) RM).map (·.2)=LF:=⟨_,rfl⟩
   obtain ⟨US,QJ⟩:∃ US,(runT S.q F.q kn (cj (l.take 0))).uses++rF 0 (bI (0 - kn) ((runT S.q F.q kn (cj (l.take 0))).left.drop (0 - kn))) RM=US:=⟨_,rfl⟩
   obtain ⟨SM,hSM⟩:∃ SM,xg (bI (0 - kn) ((runT S.q F.q kn (cj (l.take 0))).left.drop (0 - kn))) RM=SM:=⟨_,rfl⟩
   rw [QI,QJ,hSM] at hIn
   have oZ:runT S.q F.q kn (cj (l.take (0 + 1)))=qx kn 0 ⟨LF++[DN],(runT S.q F.q kn (cj (l.take 0))).rows++[⟨LM,AL,DN,SM,AL + SM,0,0⟩],US⟩:=by
    rw [Gn]
    unfold mH xh
    dsimp only
    rw [tX,hAL,hRM,hDN,QI,QJ,hSM]
   clear Gn QI QJ hSM
   refine VS.aP rfl (decide_eq_true (Int.ofNat_lt.2 hlt)) ?_
   refine aa ?_
   refine VO.cond rfl dw ?_
   refine wV rfl ?_
   refine aa ?_
   refine VO.read rfl [.bool e.2.1,.slice bp e.2.2.1.length bc,.bool e.2.2.2.1,.slice br e.2.2.2.2.length bd] rfl (aK hc 4 _ ⟨[],rfl⟩) (wV rfl ?_)
   refine aa ?_
   refine VO.call rfl rfl (fk Tryz.func49) (fun bD cQ bG=>(tQ _ _ S.q e.2.q 3 3 bD ((sW.kp (Kp.of (U:=UU) bG)).iq hS) ((hbe.kp (Kp.of (U:=UU) bG)).iq hfb) ab ab).mono ?_)
   rintro e w1 ⟨r1,rfl,q1,aI⟩
   obtain ⟨s1,p1,n1,c1,t1,y1,m1,d1,rfl⟩:=q1.form
   refine ⟨_,rfl,aI,fun dt _ bb1=>wV rfl ?_⟩
   refine aa ?_
   refine VO.ee rfl (fk Tryz.func48) (fun cG β2 dQ cV DV=>(tR _ F.q [S.q * e.2.q,0] 82 cG (cZ (DV.own 47 (.base (List.mem_singleton.2 rfl)) _ _ rfl) [] (vs:=[[.bool F.1,.slice GA F.2.1.length GB,.bool F.2.2.1,.slice GC F.2.2.2.length GD],[.bool s1,.slice p1 n1 c1,.bool t1,.slice y1 m1 d1],[.bool s0,.slice p0 n0 c0,.bool t0,.slice y0 m0 d0]]) (by rfl) rfl (bt.cons (((hfr.kp (Kp.of (U:=UU) cV)).iq hF).up ab) (bt.cons (q1.ki (zSe e (List.mem_of_getElem? he))) (bt.cons (q0.ki (et.zero.mono ab)) bt.nil))) (bu rfl) bW) ab (bu rfl)).mono ?_)
   rintro o w2 ⟨r2,rfl,q2,z2,ba⟩
   replace q2:bE w2 r2 (ay S.q F.q e.2.q):=q2
   obtain ⟨s2,p2,n2,c2,t2,y2,m2,d2,rfl⟩:=q2.form
   refine ⟨_,rfl,ba,fun dR _ bb2=>wV rfl ?_⟩
   refine aa ?_
   rw [tX] at q2
   refine VO.cond rfl dw ?_
   refine wV rfl ?_
   refine aa ?_
   refine VO.read rfl [.bool e.1.1,.slice ap e.1.2.1.length ac,.bool e.1.2.2.1,.slice ar e.1.2.2.2.length ad] rfl (aK hc 0 _ ⟨_,rfl⟩) (wV rfl ?_)
   refine aa ?_
   refine VO.ee rfl (fk Tryz.func50) (fun eX β3 fF fM CM=>(mD _ e.1.q [LM] 82 eX (cZ (CM.own 55 (.base (List.mem_singleton.2 rfl)) _ _ rfl) [] (vs:=[[.bool e.1.1,.slice ap e.1.2.1.length ac,.bool e.1.2.2.1,.slice ar e.1.2.2.2.length ad],[.bool s2,.slice p2 n2 c2,.bool t2,.slice y2 m2 d2]]) (by rfl) rfl (bt.cons (((hae.kp (Kp.of (U:=UU) fM)).iq hfa).up ab) (bt.cons (q2.ki zLM) bt.nil)) (bu rfl) bW) ab (bu rfl)).mono ?_)
   rintro o w3 ⟨r3,rfl,q3,z3,cC⟩
   replace q3:bE w3 r3 (eB iL e.1.q [LM]):=q3
   obtain ⟨s3,p3,n3,c3,t3,y3,m3,d3,rfl⟩:=q3.form
   refine ⟨_,rfl,cC,fun gZ _ bb3=>wV rfl ?_⟩
   refine aa ?_
   rw [eM,hAL] at q3
   refine VO.cond rfl dw ?_
   refine wV rfl ?_
   refine aa ?_
   refine VO.read rfl [.bool e.1.1,.slice ap e.1.2.1.length ac,.bool e.1.2.2.1,.slice ar e.1.2.2.2.length ad] rfl (aK hc 0 _ ⟨_,rfl⟩) (wV rfl ?_)
   refine aa ?_
   refine VO.call rfl rfl (fk Tryz.func51) (fun jg kZ kt=>(dy _ _ e.1.q AL 82 82 jg (((hae.kp (Kp.of (U:=UU) kt)).iq hfa).up ab) (q3.ki QH) ab ab).mono ?_)
   rintro e w4 ⟨r4,rfl,q4,fq⟩
   obtain ⟨s4,p4,n4,c4,t4,y4,m4,d4,rfl⟩:=q4.form
   refine ⟨_,rfl,fq,fun lz _ tH=>wV rfl ?_⟩
   refine aa ?_
   refine VO.call rfl rfl (fk Tryz.func51) (fun gE ju ia=>(dy _ _ LM AL 82 82 gE (q2.ki zLM) (q3.ki QH) ab ab).mono ?_)
   rintro e w5 ⟨r5,rfl,q5,eP⟩
   obtain ⟨s5,p5,n5,c5,t5,y5,m5,d5,rfl⟩:=q5.form
   refine ⟨_,rfl,eP,fun jV _ qu=>wV rfl ?_⟩
   refine aa ?_
   rw [hRM] at q5
   rw [hDN] at q4
   have hmx:sB 0 [IntKind.i64.wrap (((0:Nat):Int) - (kn:Int))]=((0 - kn:Nat):Int):=by
    rw [IntKind.wrap_i64]
    show (if _ > (0:Int) then _ else (0:Int))=_
    split <;> omega
   refine VS.fix 15 rfl (congrArg (fun z=>AV.val (.int .i64 z)) hmx) ?_
   clear hmx
   refine VS.now (fun wI kI oI=> ?_)
   replace q0:bE wI (.agg #[.bool s0,.slice p0 n0 c0,.bool t0,.slice y0 m0 d0]) 0:=q0.k
   replace q2:bE wI (.agg #[.bool s2,.slice p2 n2 c2,.bool t2,.slice y2 m2 d2]) LM:=q2.k
   replace q3:bE wI (.agg #[.bool s3,.slice p3 n3 c3,.bool t3,.slice y3 m3 d3]) AL:=q3.k
   replace q4:bE wI (.agg #[.bool s4,.slice p4 n4 c4,.bool t4,.slice y4 m4 d4]) DN:=q4.kr
   rw [Nat.zero_sub] at hIn
   obtain ⟨f1,f2,f3⟩:=hIn.fin
   have JM:Iz D SM/\0≤SM/\SM≤RM:=by rw [<-f3];exact ⟨hIn.uI,hIn.u0,g8⟩
   have hLF0:LF=[]:=f1.symm
   have sJ:US=[]:=f2.symm
   have qh:bE wI (.agg #[.bool s0,.slice p0 n0 c0,.bool t0,.slice y0 m0 d0]) SM:=by rw [<-f3];exact q0
   refine VS.loop (J:=fun m L M w'=>Kp UU wI w'/\L=[(1,.val (.slice (some ⟨b,off,none⟩) N cu)),(2,.box 2 0),(4,.box 4 0),(6,.box 6 0),(7,.box 7 0),(8,.val (.slice none 0 0)),(9,.val (.int .i64 ((0:Nat):Int))),(10,.box 10 0),(11,.box 11 0),(12,.box 12 0),(13,.box 13 0),(14,.box 14 0),(15,.val (.int .i64 ((0 - kn:Nat):Int)))]/\M=[(2,(57,([.bool S.1,.slice Ma S.2.1.length Mb,.bool S.2.2.1,.slice Mc S.2.2.2.length Md,.bool F.1,.slice GA F.2.1.length GB,.bool F.2.2.1,.slice GC F.2.2.2.length GD,.int .i64 (kn:Int)]:List Value).map .val)),(4,(64,[.val (.slice none 0 0),.val (.slice none 0 0)])),(6,(64,[.val (.slice none 0 0),.val (.slice none 0 0)])),(7,(55,([.bool s0,.slice p0 n0 c0,.bool t0,.slice y0 m0 d0]:List Value).map .val)),(10,(55,([.bool s2,.slice p2 n2 c2,.bool t2,.slice y2 m2 d2]:List Value).map .val)),(11,(55,([.bool s3,.slice p3 n3 c3,.bool t3,.slice y3 m3 d3]:List Value).map .val)),(12,(55,([.bool s4,.slice p4 n4 c4,.bool t4,.slice y4 m4 d4]:List Value).map .val)),(13,(55,([.bool s5,.slice p5 n5 c5,.bool t5,.slice y5 m5 d5]:List Value).map .val)),(14,(55,([.bool s0,.slice p0 n0 c0,.bool t0,.slice y0 m0 d0]:List Value).map .val))]) 0 ⟨_,_,?_,?_,?_,?_,⟨kR _,rfl,rfl⟩⟩ ?_
   ·exact cd
   ·exact cd
   ·rfl
   ·exact iD
   rintro m L M wL1 ⟨kV,rfl,rfl⟩
   refine aa ?_
   have zSM:=hM.sz SM JM.1 dp dp
   have zAS:=hM.sz _ (g1.add JM.1) dp dp
   have Ot:et 0 82:=et.zero.mono ab
   refine VO.BK (cK _ _) (bm 82) (t:=102) (e:=55) (s:=114) (a:=DN) (cs:=[.bool s4,.slice p4 n4 c4,.bool t4,.slice y4 m4 d4]) rfl rfl rfl rfl rfl rfl rfl rfl (bu rfl) rfl rfl rfl (dX (q4.k) zDN) ab (fun w16 UB Cn k16 b16 fP=>wV rfl ?_)
   refine aa ?_
   refine VO.call rfl rfl (fk Tryz.func27) (fun UC ka17 ba17=>(gl _ _ AL SM 82 82 UC (q3.ki QH) (qh.ki zSM) ab ab).mono ?_)
   rintro e w17 ⟨r17,rfl,q17,UD⟩
   obtain ⟨UE,UF,UG,UH,t17,UI,UJ,d17,rfl⟩:=q17.form
   refine ⟨_,rfl,UD,fun kb17 _ bb17=>wV rfl ?_⟩
   refine aa ?_
   refine VO.BK (cK _ _) (cH 82) (t:=61) (e:=108) (s:=128) (a:=(⟨LM,AL,DN,SM,AL + SM,0,0⟩:aM)) (cs:=[.bool s2,.slice p2 n2 c2,.bool t2,.slice y2 m2 d2,.bool s3,.slice p3 n3 c3,.bool t3,.slice y3 m3 d3,.bool s4,.slice p4 n4 c4,.bool t4,.slice y4 m4 d4,.bool s0,.slice p0 n0 c0,.bool t0,.slice y0 m0 d0,.bool UE,.slice UF UG UH,.bool t17,.slice UI UJ d17,.bool s0,.slice p0 n0 c0,.bool t0,.slice y0 m0 d0,.bool s0,.slice p0 n0 c0,.bool t0,.slice y0 m0 d0]) rfl rfl rfl rfl rfl rfl rfl rfl (bu rfl) rfl rfl rfl ⟨[.bool s2,.slice p2 n2 c2,.bool t2,.slice y2 m2 d2],[.bool s3,.slice p3 n3 c3,.bool t3,.slice y3 m3 d3],[.bool s4,.slice p4 n4 c4,.bool t4,.slice y4 m4 d4],[.bool s0,.slice p0 n0 c0,.bool t0,.slice y0 m0 d0],[.bool UE,.slice UF UG UH,.bool t17,.slice UI UJ d17],[.bool s0,.slice p0 n0 c0,.bool t0,.slice y0 m0 d0],[.bool s0,.slice p0 n0 c0,.bool t0,.slice y0 m0 d0],rfl,dX (q2.k) zLM,dX (q3.k) QH,dX (q4.k) zDN,dX (qh.k) zSM,dX (q17.kr) zAS,dX (q0.k) Ot,dX (q0.k) Ot⟩ ab (fun w18 UK Co k18 b18 gv=>wV rfl ?_)
   refine aa ?_
   obtain ⟨JN,yk⟩:∃ vs,vs=([[.bool s4,.slice p4 n4 c4,.bool t4,.slice y4 m4 d4]]:List (List Value)):=⟨_,rfl⟩
   obtain ⟨JO,yl⟩:∃ vs,vs=([[.bool s2,.slice p2 n2 c2,.bool t2,.slice y2 m2 d2,.bool s3,.slice p3 n3 c3,.bool t3,.slice y3 m3 d3,.bool s4,.slice p4 n4 c4,.bool t4,.slice y4 m4 d4,.bool s0,.slice p0 n0 c0,.bool t0,.slice y0 m0 d0,.bool UE,.slice UF UG UH,.bool t17,.slice UI UJ d17,.bool s0,.slice p0 n0 c0,.bool t0,.slice y0 m0 d0,.bool s0,.slice p0 n0 c0,.bool t0,.slice y0 m0 d0]]:List (List Value)):=⟨_,rfl⟩
   obtain ⟨RW,GF⟩:∃ RW,RW=(runT S.q F.q kn (cj (l.take 0))).rows++[(⟨LM,AL,DN,SM,AL + SM,0,0⟩:aM)]:=⟨_,rfl⟩
   obtain ⟨LL,OP⟩:∃ LL,LL=LF++[DN]:=⟨_,rfl⟩
   obtain ⟨z1,gC⟩:∃ z1,z1=0 + 1:=⟨_,rfl⟩
   have hRW0:(runT S.q F.q kn (cj (l.take 0))).rows=[]:=rfl
   rw [hLF0] at OP
   rw [hRW0] at GF
   rw [<-yk,<-List.nil_append [DN],<-OP,show 1=z1 from gC.symm] at fP
   rw [<-yl,<-List.nil_append [_],<-GF,show 1=z1 from gC.symm] at gv
   rw [show 0 + 1=z1 from gC.symm] at oZ vW vX
   rw [hLF0,hRW0,<-GF,<-OP] at oZ
   refine VS.narrow [(1,.val (.slice (some ⟨b,off,none⟩) N cu)),(2,.box 2 0),(4,.box 4 0),(6,.box 6 0),(7,.box 7 0),(8,.row 115 0 z1 UB),(9,.val (.int .i64 (0:Int))),(134,.val (.bool (decide ((0:Int)≥(kn:Int)))))] [(2,(57,([.bool S.1,.slice Ma S.2.1.length Mb,.bool S.2.2.1,.slice Mc S.2.2.2.length Md,.bool F.1,.slice GA F.2.1.length GB,.bool F.2.2.1,.slice GC F.2.2.2.length GD,.int .i64 (kn:Int)]:List Value).map .val)),(4,(64,[.val (.slice none 0 0),.val (.slice none 0 0)])),(6,(64,[.row 129 0 z1 UK,.val (.slice none 0 0)])),(7,(55,([.bool s0,.slice p0 n0 c0,.bool t0,.slice y0 m0 d0]:List Value).map .val)),(115,(55,JN.flatten.map .val++Cn)),(129,(108,JO.flatten.map .val++Co))] ⟨rfl,rfl,rfl,rfl,rfl,by rw [gC];rfl,rfl,rfl,trivial⟩ ⟨rfl,rfl,by rw [gC];rfl,rfl,by rw [yk];rfl,by rw [yl];rfl,trivial⟩ rfl ⟨.vals _,.lit rfl,.lit rfl,.vals _,fP.iU,gv.iU,trivial⟩ ?_
   have hll:LL.length=z1:=fP.len.symm
   have hrwl:RW.length=z1:=gv.len.symm
   by_cases hkz:kn≤0
   ·refine VS.aP rfl (decide_eq_true (show (0:Int)≥(kn:Int) by omega)) ?_
    refine aa ?_
    obtain ⟨ix,hix⟩:∃ ix,ix=0 - kn:=⟨_,rfl⟩
    have Ou:IntKind.i64.wrap ((0:Int) - (kn:Int))=((ix:Nat):Int):=by rw [IntKind.wrap_i64];omega
    obtain ⟨rx,Ov⟩:∃ r,RW[ix]? =some r:=⟨_,List.getElem?_eq_getElem ab⟩
    obtain ⟨lx,mr⟩:∃ x,LL[ix]? =some x:=⟨_,List.getElem?_eq_getElem ab⟩
    obtain ⟨yA,qB,ui,CD,hcell⟩:=gv.cell (cH 82) Ov
    obtain ⟨yD,yG,yH,yI,yJ,yK,yL,yM,yO,yP,yQ,yR,yT,yU,yV,yW,yX,yY,yZ,za,zb,zc,zd,ze,zf,zg,zh,zi,zj,zl,zm,zn,zo,zp,zt,zu,zv,zw,zx,zy,FV,FX,FY,Ga,Gb,Gc,Gd,Ge,Gf,Gg,Gh,Gi,Gj,Gk,Gl,Gm,rfl,x0,x1,x2,x3,x4,x5,x6⟩:=ui.opn
    refine VO.fix 140 rfl (congrArg (fun z=>AV.val (.int .i64 z)) (Ou)) ?_
    refine VO.cond rfl dw ?_
    refine wV rfl ?_
    refine aa ?_
    refine VO.cW rfl (([.bool yD,.slice yG yH yI,.bool yJ,.slice yK yL yM,.bool yO,.slice yP yQ yR,.bool yT,.slice yU yV yW,.bool yX,.slice yY yZ za,.bool zb,.slice zc zd ze,.bool zf,.slice zg zh zi,.bool zj,.slice zl zm zn,.bool zo,.slice zp zt zu,.bool zv,.slice zw zx zy,.bool FV,.slice FX FY Ga,.bool Gb,.slice Gc Gd Ge,.bool Gf,.slice Gg Gh Gi,.bool Gj,.slice Gk Gl Gm]:List Value).map .val) rfl (hcell 0 _ ⟨[],rfl⟩) (wV rfl ?_)
    refine aa ?_
    refine VO.fix 147 rfl (congrArg (fun z=>AV.val (.int .i64 z)) (Ou)) ?_
    refine VO.cond rfl dw ?_
    refine wV rfl ?_
    refine aa ?_
    obtain ⟨csl,hcsl,QR,hll2,qa⟩:=fP.cell (bm 82) mr
    obtain ⟨CY,CZ,Da,Db,Dc,Dd,De,del,rfl,xl⟩:=QR.opn
    refine VO.cW rfl (([.bool CY,.slice CZ Da Db,.bool Dc,.slice Dd De del]:List Value).map .val) rfl (qa 0 _ ⟨[],rfl⟩) (wV rfl ?_)
    refine aa ?_
    refine VO.fix 156 rfl (congrArg (fun z=>AV.val (.int .i64 z)) (Ou)) ?_
    refine VO.cond rfl dw ?_
    refine wV rfl ?_
    refine aa ?_
    have UL:=gv.fl
    have hler:=gv.le
    have UM:=fP.fl
    have hlel:=fP.le
    refine VO.cond rfl (by show 0 + ((ix:Int)).toNat * 28 + 28≤_;rw [UL,Int.toNat_natCast];omega) (VO.dI 129 rfl (iX (new:=[.bool yD,.slice yG yH yI,.bool yJ,.slice yK yL yM,.bool yO,.slice yP yQ yR,.bool yT,.slice yU yV yW,.bool yX,.slice yY yZ za,.bool zb,.slice zc zd ze,.bool zf,.slice zg zh zi,.bool zj,.slice zl zm zn,.bool zo,.slice zp zt zu,.bool zv,.slice zw zx zy,.bool CY,.slice CZ Da Db,.bool Dc,.slice Dd De del,.bool Gf,.slice Gg Gh Gi,.bool Gj,.slice Gk Gl Gm]) (gv.el.lens (cH 82)) (by rw [gv.el.len];omega) rfl) (wV rfl ?_))
    refine aa ?_
    refine VO.fix 163 rfl (congrArg (fun z=>AV.val (.int .i64 z)) (Ou)) ?_
    refine VO.cond rfl dw ?_
    refine wV rfl ?_
    refine aa ?_
    refine VO.cond rfl (by show 0 + ((ix:Int)).toNat * 4 + 4≤_;rw [UM,Int.toNat_natCast];omega) (VO.dI 115 rfl (iX (new:=[.bool s0,.slice p0 n0 c0,.bool t0,.slice y0 m0 d0]) (fP.el.lens (bm 82)) (by rw [fP.el.len];omega) rfl) (wV rfl ?_))
    refine aa ?_
    have eV:runT S.q F.q kn (cj (l.take z1))=⟨LL.set ix 0,RW.modify ix (fun r=>{ r with ao:=lx }),US⟩:=by
     rw [oZ]
     unfold qx
     rw [if_pos hkz,<-hix]
     dsimp only
     rw [List.getD_eq_getElem?_getD,mr];rfl
    refine VS.back (N - z1) ab ⟨_,_,?_,?_,?_,?_,⟨z1,s0,p0,n0,c0,t0,y0,m0,d0,by omega,rfl,vW,vX,q0.k,.inr ⟨by omega,_,Cn,UB,_,Co,UK,by rw [eV];exact fP.set (bm 82) aU (dX (q0.k) Ot),by rw [eV,ew Ov];exact gv.set (cH 82) aU ⟨[.bool yD,.slice yG yH yI,.bool yJ,.slice yK yL yM],[.bool yO,.slice yP yQ yR,.bool yT,.slice yU yV yW],[.bool yX,.slice yY yZ za,.bool zb,.slice zc zd ze],[.bool zf,.slice zg zh zi,.bool zj,.slice zl zm zn],[.bool zo,.slice zp zt zu,.bool zv,.slice zw zx zy],[.bool CY,.slice CZ Da Db,.bool Dc,.slice Dd De del],[.bool Gf,.slice Gg Gh Gi,.bool Gj,.slice Gk Gl Gm],rfl,(bm 82).kp x0 aU,(bm 82).kp x1 aU,(bm 82).kp x2 aU,(bm 82).kp x3 aU,(bm 82).kp x4 aU,(bm 82).kp xl aU,(bm 82).kp x6 aU⟩,.inl ⟨by rw [eV];exact sJ,rfl,rfl⟩⟩⟩⟩
    ·refine ⟨rfl,rfl,rfl,rfl,rfl,rfl,?_,trivial⟩
     rw [gC,<-aF (i:=0) ab];rfl
    ·exact cd
    ·rfl
    ·exact ⟨.vals _,.lit rfl,.lit rfl,.vals _,(fP.set (bm 82) (kR _) (dX (q0.k) Ot)).iU,.append (.vals _) (.none gv.sl),trivial⟩
   ·refine VS.aQ rfl (decide_eq_false (show ¬ (0:Int)≥(kn:Int) by omega)) ?_
    refine aa ?_
    have eV:runT S.q F.q kn (cj (l.take z1))=⟨LL,RW,US⟩:=by
     rw [oZ]
     unfold qx
     rw [if_neg hkz]
    refine VS.back (N - z1) ab ⟨_,_,?_,?_,?_,?_,⟨z1,s0,p0,n0,c0,t0,y0,m0,d0,by omega,rfl,vW,vX,q0.k,.inr ⟨by omega,JN,Cn,UB,JO,Co,UK,by rw [eV];exact fP.kp (bm 82) aU,by rw [eV];exact gv.kp (cH 82) aU,.inl ⟨by rw [eV];exact sJ,rfl,rfl⟩⟩⟩⟩
    ·refine ⟨rfl,rfl,rfl,rfl,rfl,rfl,?_,trivial⟩
     rw [gC,<-aF (i:=0) ab];rfl
    ·exact cd
    ·rfl
    ·exact ⟨.vals _,.lit rfl,.lit rfl,.vals _,fP.iU,gv.iU,trivial⟩
  ·refine VS.aQ rfl (decide_eq_false (fun e=>hlt (Int.ofNat_lt.1 e))) ?_
   refine aa ?_
   refine VS.loop (J:=fun m L M w'=>L=[(4,.box 4 0),(6,.box 6 0),(8,.val (.slice none 0 0)),(18,.val (.int .i64 0))]/\M=[(4,(64,[.val (.slice none 0 0),.val (.slice none 0 0)])),(6,(64,[.val (.slice none 0 0),.val (.slice none 0 0)]))]) 0 ⟨_,_,?_,?_,?_,?_,⟨rfl,rfl⟩⟩ ?_
   ·exact cd
   ·exact cd
   ·rfl
   ·exact iD
   rintro m L M wL1 ⟨rfl,rfl⟩
   refine aa ?_
   refine VS.lp (cK _ _) rfl (fun wz β kz bz en=> ?_)
   have Cv:l=[]:=List.length_eq_zero_iff.1 ab
   subst Cv
   exact ⟨_,_,rfl,.inl ⟨rfl,rfl⟩,.inl ⟨rfl,rfl⟩,bz⟩
 by_cases hlt:z < N
 ·obtain ⟨e,he⟩:∃ e,l[z]? =some e:=⟨_,List.getElem?_eq_getElem ab⟩
  obtain ⟨j1,j2,j3,j4,j5⟩:=hM.el (e.1.q,e.2.q) (List.mem_map.2 ⟨e,List.mem_of_getElem? he,rfl⟩)
  obtain ⟨b,off,eW,fQ,hc,⟨_,_,rfl,⟨ap,ac,ar,ad,rfl,hae⟩,⟨bp,bc,br,bd,rfl,hbe⟩,hfa,hfb⟩⟩:=hl.at he
  subst fQ
  have JL:=lQ S.q F.q e.2.q
  obtain ⟨LM,tX⟩:∃ LM,ay S.q F.q e.2.q=LM:=⟨_,rfl⟩
  dsimp only at j1 j2 j3 j4 j5
  rw [tX] at j1 j2 JL
  obtain ⟨g1,g2,g3,g4,g5,g6,g7,g8,g9⟩:=nD j1 JL j2 j3 j4 j5
  have Gn:=Er S.q F.q kn (cj (l.take z)) (e.1.q,e.2.q)
  rw [<-oW he,pj] at Gn
  obtain ⟨vW,vX⟩:=JE (S:=S.q) (F:=F.q) (keep:=kn) (e:=(e.1.q,e.2.q)) QG (by rw [pj];omega) (by dsimp only;rw [tX];exact j1) (by dsimp only;rw [tX];exact j2) j3 j4 j5
  rw [pj] at vW vX
  rw [<-Gn] at vW vX
  have hIn:=LW.init (keep:=kn) QG pj g7 g8
  obtain ⟨AL,hAL⟩:∃ AL,ae e.1.q LM=AL:=⟨_,rfl⟩
  rw [hAL] at g1 g2 g3 g4 g5 g6 g7 g8 g9 hIn
  have zLM:=hM.sz LM j1 dp dp
  have QH:=hM.sz AL g1 dp dp
  have zDN:=hM.sz _ g4 dp g6
  have zRM:=hM.sz _ g7 dp g9
  obtain ⟨RM,hRM⟩:∃ RM,LM - AL=RM:=⟨_,rfl⟩
  obtain ⟨DN,hDN⟩:∃ DN,e.1.q - AL=DN:=⟨_,rfl⟩
  rw [hRM] at g7 g8 g9 hIn zRM
  rw [hDN] at g4 g5 g6 zDN
  obtain ⟨LF,QI⟩:∃ LF,(runT S.q F.q kn (cj (l.take z))).left.take (z - kn)++(qI (bI (z - kn) ((runT S.q F.q kn (cj (l.take z))).left.drop (z - kn))) RM).map (·.2)=LF:=⟨_,rfl⟩
  obtain ⟨US,QJ⟩:∃ US,(runT S.q F.q kn (cj (l.take z))).uses++rF z (bI (z - kn) ((runT S.q F.q kn (cj (l.take z))).left.drop (z - kn))) RM=US:=⟨_,rfl⟩
  obtain ⟨SM,hSM⟩:∃ SM,xg (bI (z - kn) ((runT S.q F.q kn (cj (l.take z))).left.drop (z - kn))) RM=SM:=⟨_,rfl⟩
  rw [QI,QJ,hSM] at hIn
  have oZ:runT S.q F.q kn (cj (l.take (z + 1)))=qx kn z ⟨LF++[DN],(runT S.q F.q kn (cj (l.take z))).rows++[⟨LM,AL,DN,SM,AL + SM,0,0⟩],US⟩:=by
   rw [Gn]
   unfold mH xh
   dsimp only
   rw [tX,hAL,hRM,hDN,QI,QJ,hSM]
  clear Gn QI QJ hSM
  apply VS.hop (P:=fun F' H' w'=>∃ (s2 p2 n2 c2 t2 y2 m2 d2 s3 p3 n3 c3 t3 y3 m3 d3 s4 p4 n4 c4 t4 y4 m4 d4 s5 p5 n5 c5 t5 y5 m5 d5:_),bE w' (.agg #[.bool s0,.slice p0 n0 c0,.bool t0,.slice y0 m0 d0]) 0/\bE w' (.agg #[.bool s2,.slice p2 n2 c2,.bool t2,.slice y2 m2 d2]) LM/\bE w' (.agg #[.bool s3,.slice p3 n3 c3,.bool t3,.slice y3 m3 d3]) AL/\bE w' (.agg #[.bool s4,.slice p4 n4 c4,.bool t4,.slice y4 m4 d4]) DN/\bE w' (.agg #[.bool s5,.slice p5 n5 c5,.bool t5,.slice y5 m5 d5]) RM/\iy (wq 82) 4 w' z cl CA Ak (runT S.q F.q kn (cj (l.take z))).left/\iy (FU 82) 28 w' z cr kM nH (runT S.q F.q kn (cj (l.take z))).rows/\
   (((runT S.q F.q kn (cj (l.take z))).uses=[]/\F'=Fr.of [(1,.val (.slice (some ⟨b,off,none⟩) N cu)),(2,.box 2 0),(4,.box 4 0),(6,.box 6 0),(7,.box 7 0),(8,.row 115 0 z cl),(9,.val (.int .i64 (z:Int))),(10,.box 10 0),(11,.box 11 0),(12,.box 12 0),(13,.box 13 0),(14,.box 14 0),(15,.val (.int .i64 ((z - kn:Nat):Int)))]/\H'=Hp.of [(2,(57,([.bool S.1,.slice Ma S.2.1.length Mb,.bool S.2.2.1,.slice Mc S.2.2.2.length Md,.bool F.1,.slice GA F.2.1.length GB,.bool F.2.2.1,.slice GC F.2.2.2.length GD,.int .i64 (kn:Int)]:List Value).map .val)),(4,(64,[.val (.slice none 0 0),.val (.slice none 0 0)])),(6,(64,[.row 129 0 z cr,.val (.slice none 0 0)])),(7,(55,([.bool s0,.slice p0 n0 c0,.bool t0,.slice y0 m0 d0]:List Value).map .val)),(10,(55,([.bool s2,.slice p2 n2 c2,.bool t2,.slice y2 m2 d2]:List Value).map .val)),(11,(55,([.bool s3,.slice p3 n3 c3,.bool t3,.slice y3 m3 d3]:List Value).map .val)),(12,(55,([.bool s4,.slice p4 n4 c4,.bool t4,.slice y4 m4 d4]:List Value).map .val)),(13,(55,([.bool s5,.slice p5 n5 c5,.bool t5,.slice y5 m5 d5]:List Value).map .val)),(14,(55,([.bool s0,.slice p0 n0 c0,.bool t0,.slice y0 m0 d0]:List Value).map .val)),(115,(55,CA.flatten.map .val++Ak)),(129,(108,kM.flatten.map .val++nH))])\/(∃ (ku:Nat) (xn:List (List Value)) (yd:List AV) (CX:Nat),iy (LY 82) 6 w' ku CX xn yd (runT S.q F.q kn (cj (l.take z))).uses/\F'=Fr.of [(1,.val (.slice (some ⟨b,off,none⟩) N cu)),(2,.box 2 0),(4,.box 4 0),(6,.box 6 0),(7,.box 7 0),(8,.row 115 0 z cl),(9,.val (.int .i64 (z:Int))),(10,.box 10 0),(11,.box 11 0),(12,.box 12 0),(13,.box 13 0),(14,.box 14 0),(15,.val (.int .i64 ((z - kn:Nat):Int)))]/\H'=Hp.of [(2,(57,([.bool S.1,.slice Ma S.2.1.length Mb,.bool S.2.2.1,.slice Mc S.2.2.2.length Md,.bool F.1,.slice GA F.2.1.length GB,.bool F.2.2.1,.slice GC F.2.2.2.length GD,.int .i64 (kn:Int)]:List Value).map .val)),(4,(64,[.val (.slice none 0 0),.val (.slice none 0 0)])),(6,(64,[.row 129 0 z cr,.row 95 0 ku CX])),(7,(55,([.bool s0,.slice p0 n0 c0,.bool t0,.slice y0 m0 d0]:List Value).map .val)),(10,(55,([.bool s2,.slice p2 n2 c2,.bool t2,.slice y2 m2 d2]:List Value).map .val)),(11,(55,([.bool s3,.slice p3 n3 c3,.bool t3,.slice y3 m3 d3]:List Value).map .val)),(12,(55,([.bool s4,.slice p4 n4 c4,.bool t4,.slice y4 m4 d4]:List Value).map .val)),(13,(55,([.bool s5,.slice p5 n5 c5,.bool t5,.slice y5 m5 d5]:List Value).map .val)),(14,(55,([.bool s0,.slice p0 n0 c0,.bool t0,.slice y0 m0 d0]:List Value).map .val)),(115,(55,CA.flatten.map .val++Ak)),(129,(108,kM.flatten.map .val++nH)),(95,(106,xn.flatten.map .val++yd))])))
  ·intro cont
   rcases hUd with ⟨sJ,rfl,rfl⟩ | ⟨ku,xn,yd,CX,wm,rfl,rfl⟩
   ·refine aa ?_
    refine VS.aP rfl (decide_eq_true (Int.ofNat_lt.2 hlt)) ?_
    refine aa ?_
    refine VO.cond rfl dw ?_
    refine wV rfl ?_
    refine aa ?_
    refine VO.read rfl [.bool e.2.1,.slice bp e.2.2.1.length bc,.bool e.2.2.2.1,.slice br e.2.2.2.2.length bd] rfl (aK hc 4 _ ⟨[],rfl⟩) (wV rfl ?_)
    refine aa ?_
    refine VO.call rfl rfl (fk Tryz.func49) (fun bD cQ bG=>(tQ _ _ S.q e.2.q 3 3 bD ((sW.kp (Kp.of (U:=UU) bG)).iq hS) ((hbe.kp (Kp.of (U:=UU) bG)).iq hfb) ab ab).mono ?_)
    rintro e w1 ⟨r1,rfl,q1,aI⟩
    obtain ⟨s1,p1,n1,c1,t1,y1,m1,d1,rfl⟩:=q1.form
    refine ⟨_,rfl,aI,fun dt _ bb1=>wV rfl ?_⟩
    refine aa ?_
    refine VO.ee rfl (fk Tryz.func48) (fun cG β2 dQ cV DV=>(tR _ F.q [S.q * e.2.q,0] 82 cG (cZ (DV.own 47 (.base (List.mem_singleton.2 rfl)) _ _ rfl) [] (vs:=[[.bool F.1,.slice GA F.2.1.length GB,.bool F.2.2.1,.slice GC F.2.2.2.length GD],[.bool s1,.slice p1 n1 c1,.bool t1,.slice y1 m1 d1],[.bool s0,.slice p0 n0 c0,.bool t0,.slice y0 m0 d0]]) (by rfl) rfl (bt.cons (((hfr.kp (Kp.of (U:=UU) cV)).iq hF).up ab) (bt.cons (q1.ki (zSe e (List.mem_of_getElem? he))) (bt.cons (q0.ki (et.zero.mono ab)) bt.nil))) (bu rfl) bW) ab (bu rfl)).mono ?_)
    rintro o w2 ⟨r2,rfl,q2,z2,ba⟩
    replace q2:bE w2 r2 (ay S.q F.q e.2.q):=q2
    obtain ⟨s2,p2,n2,c2,t2,y2,m2,d2,rfl⟩:=q2.form
    refine ⟨_,rfl,ba,fun dR _ bb2=>wV rfl ?_⟩
    refine aa ?_
    rw [tX] at q2
    refine VO.cond rfl dw ?_
    refine wV rfl ?_
    refine aa ?_
    refine VO.read rfl [.bool e.1.1,.slice ap e.1.2.1.length ac,.bool e.1.2.2.1,.slice ar e.1.2.2.2.length ad] rfl (aK hc 0 _ ⟨_,rfl⟩) (wV rfl ?_)
    refine aa ?_
    refine VO.ee rfl (fk Tryz.func50) (fun eX β3 fF fM CM=>(mD _ e.1.q [LM] 82 eX (cZ (CM.own 55 (.base (List.mem_singleton.2 rfl)) _ _ rfl) [] (vs:=[[.bool e.1.1,.slice ap e.1.2.1.length ac,.bool e.1.2.2.1,.slice ar e.1.2.2.2.length ad],[.bool s2,.slice p2 n2 c2,.bool t2,.slice y2 m2 d2]]) (by rfl) rfl (bt.cons (((hae.kp (Kp.of (U:=UU) fM)).iq hfa).up ab) (bt.cons (q2.ki zLM) bt.nil)) (bu rfl) bW) ab (bu rfl)).mono ?_)
    rintro o w3 ⟨r3,rfl,q3,z3,cC⟩
    replace q3:bE w3 r3 (eB iL e.1.q [LM]):=q3
    obtain ⟨s3,p3,n3,c3,t3,y3,m3,d3,rfl⟩:=q3.form
    refine ⟨_,rfl,cC,fun gZ _ bb3=>wV rfl ?_⟩
    refine aa ?_
    rw [eM,hAL] at q3
    refine VO.cond rfl dw ?_
    refine wV rfl ?_
    refine aa ?_
    refine VO.read rfl [.bool e.1.1,.slice ap e.1.2.1.length ac,.bool e.1.2.2.1,.slice ar e.1.2.2.2.length ad] rfl (aK hc 0 _ ⟨_,rfl⟩) (wV rfl ?_)
    refine aa ?_
    refine VO.call rfl rfl (fk Tryz.func51) (fun jg kZ kt=>(dy _ _ e.1.q AL 82 82 jg (((hae.kp (Kp.of (U:=UU) kt)).iq hfa).up ab) (q3.ki QH) ab ab).mono ?_)
    rintro e w4 ⟨r4,rfl,q4,fq⟩
    obtain ⟨s4,p4,n4,c4,t4,y4,m4,d4,rfl⟩:=q4.form
    refine ⟨_,rfl,fq,fun lz _ tH=>wV rfl ?_⟩
    refine aa ?_
    refine VO.call rfl rfl (fk Tryz.func51) (fun gE ju ia=>(dy _ _ LM AL 82 82 gE (q2.ki zLM) (q3.ki QH) ab ab).mono ?_)
    rintro e w5 ⟨r5,rfl,q5,eP⟩
    obtain ⟨s5,p5,n5,c5,t5,y5,m5,d5,rfl⟩:=q5.form
    refine ⟨_,rfl,eP,fun jV _ qu=>wV rfl ?_⟩
    refine aa ?_
    rw [hRM] at q5
    rw [hDN] at q4
    have hmx:sB 0 [IntKind.i64.wrap (((z:Nat):Int) - (kn:Int))]=((z - kn:Nat):Int):=by
     rw [IntKind.wrap_i64]
     show (if _ > (0:Int) then _ else (0:Int))=_
     split <;> omega
    refine VS.fix 15 rfl (congrArg (fun z=>AV.val (.int .i64 z)) hmx) ?_
    clear hmx
    refine VS.now (fun wI kI oI=> ?_)
    refine VS.narrow [(1,.val (.slice (some ⟨b,off,none⟩) N cu)),(2,.box 2 0),(4,.box 4 0),(6,.box 6 0),(7,.box 7 0),(8,.row 115 0 z cl),(9,.val (.int .i64 (z:Int))),(10,.box 10 0),(11,.box 11 0),(12,.box 12 0),(13,.box 13 0),(14,.box 14 0),(15,.val (.int .i64 ((z - kn:Nat):Int)))] [(2,(57,([.bool S.1,.slice Ma S.2.1.length Mb,.bool S.2.2.1,.slice Mc S.2.2.2.length Md,.bool F.1,.slice GA F.2.1.length GB,.bool F.2.2.1,.slice GC F.2.2.2.length GD,.int .i64 (kn:Int)]:List Value).map .val)),(4,(64,[.val (.slice none 0 0),.val (.slice none 0 0)])),(6,(64,[.row 129 0 z cr,.val (.slice none 0 0)])),(7,(55,([.bool s0,.slice p0 n0 c0,.bool t0,.slice y0 m0 d0]:List Value).map .val)),(10,(55,([.bool s2,.slice p2 n2 c2,.bool t2,.slice y2 m2 d2]:List Value).map .val)),(11,(55,([.bool s3,.slice p3 n3 c3,.bool t3,.slice y3 m3 d3]:List Value).map .val)),(12,(55,([.bool s4,.slice p4 n4 c4,.bool t4,.slice y4 m4 d4]:List Value).map .val)),(13,(55,([.bool s5,.slice p5 n5 c5,.bool t5,.slice y5 m5 d5]:List Value).map .val)),(14,(55,([.bool s0,.slice p0 n0 c0,.bool t0,.slice y0 m0 d0]:List Value).map .val)),(115,(55,CA.flatten.map .val++Ak)),(129,(108,kM.flatten.map .val++nH))] ⟨rfl,rfl,rfl,rfl,rfl,rfl,rfl,rfl,rfl,rfl,rfl,rfl,rfl,trivial⟩ ⟨rfl,rfl,rfl,rfl,rfl,rfl,rfl,rfl,rfl,rfl,rfl,trivial⟩ rfl ⟨.vals _,.lit rfl,.lit rfl,.vals _,.vals _,.vals _,.vals _,.vals _,.vals _,jY.iU,mj.iU,trivial⟩ ?_
    exact cont _ _ _ ⟨s2,p2,n2,c2,t2,y2,m2,d2,s3,p3,n3,c3,t3,y3,m3,d3,s4,p4,n4,c4,t4,y4,m4,d4,s5,p5,n5,c5,t5,y5,m5,d5,q0.k,q2.k,q3.k,q4.kr,q5.kr,jY.kp (bm 82) aU,mj.kp (cH 82) aU,.inl ⟨sJ,rfl,rfl⟩⟩
   ·refine aa ?_
    refine VS.aP rfl (decide_eq_true (Int.ofNat_lt.2 hlt)) ?_
    refine aa ?_
    refine VO.cond rfl dw ?_
    refine wV rfl ?_
    refine aa ?_
    refine VO.read rfl [.bool e.2.1,.slice bp e.2.2.1.length bc,.bool e.2.2.2.1,.slice br e.2.2.2.2.length bd] rfl (aK hc 4 _ ⟨[],rfl⟩) (wV rfl ?_)
    refine aa ?_
    refine VO.call rfl rfl (fk Tryz.func49) (fun bD cQ bG=>(tQ _ _ S.q e.2.q 3 3 bD ((sW.kp (Kp.of (U:=UU) bG)).iq hS) ((hbe.kp (Kp.of (U:=UU) bG)).iq hfb) ab ab).mono ?_)
    rintro e w1 ⟨r1,rfl,q1,aI⟩
    obtain ⟨s1,p1,n1,c1,t1,y1,m1,d1,rfl⟩:=q1.form
    refine ⟨_,rfl,aI,fun dt _ bb1=>wV rfl ?_⟩
    refine aa ?_
    refine VO.ee rfl (fk Tryz.func48) (fun cG β2 dQ cV DV=>(tR _ F.q [S.q * e.2.q,0] 82 cG (cZ (DV.own 47 (.base (List.mem_singleton.2 rfl)) _ _ rfl) [] (vs:=[[.bool F.1,.slice GA F.2.1.length GB,.bool F.2.2.1,.slice GC F.2.2.2.length GD],[.bool s1,.slice p1 n1 c1,.bool t1,.slice y1 m1 d1],[.bool s0,.slice p0 n0 c0,.bool t0,.slice y0 m0 d0]]) (by rfl) rfl (bt.cons (((hfr.kp (Kp.of (U:=UU) cV)).iq hF).up ab) (bt.cons (q1.ki (zSe e (List.mem_of_getElem? he))) (bt.cons (q0.ki (et.zero.mono ab)) bt.nil))) (bu rfl) bW) ab (bu rfl)).mono ?_)
    rintro o w2 ⟨r2,rfl,q2,z2,ba⟩
    replace q2:bE w2 r2 (ay S.q F.q e.2.q):=q2
    obtain ⟨s2,p2,n2,c2,t2,y2,m2,d2,rfl⟩:=q2.form
    refine ⟨_,rfl,ba,fun dR _ bb2=>wV rfl ?_⟩
    refine aa ?_
    rw [tX] at q2
    refine VO.cond rfl dw ?_
    refine wV rfl ?_
    refine aa ?_
    refine VO.read rfl [.bool e.1.1,.slice ap e.1.2.1.length ac,.bool e.1.2.2.1,.slice ar e.1.2.2.2.length ad] rfl (aK hc 0 _ ⟨_,rfl⟩) (wV rfl ?_)
    refine aa ?_
    refine VO.ee rfl (fk Tryz.func50) (fun eX β3 fF fM CM=>(mD _ e.1.q [LM] 82 eX (cZ (CM.own 55 (.base (List.mem_singleton.2 rfl)) _ _ rfl) [] (vs:=[[.bool e.1.1,.slice ap e.1.2.1.length ac,.bool e.1.2.2.1,.slice ar e.1.2.2.2.length ad],[.bool s2,.slice p2 n2 c2,.bool t2,.slice y2 m2 d2]]) (by rfl) rfl (bt.cons (((hae.kp (Kp.of (U:=UU) fM)).iq hfa).up ab) (bt.cons (q2.ki zLM) bt.nil)) (bu rfl) bW) ab (bu rfl)).mono ?_)
    rintro o w3 ⟨r3,rfl,q3,z3,cC⟩
    replace q3:bE w3 r3 (eB iL e.1.q [LM]):=q3
    obtain ⟨s3,p3,n3,c3,t3,y3,m3,d3,rfl⟩:=q3.form
    refine ⟨_,rfl,cC,fun gZ _ bb3=>wV rfl ?_⟩
    refine aa ?_
    rw [eM,hAL] at q3
    refine VO.cond rfl dw ?_
    refine wV rfl ?_
    refine aa ?_
    refine VO.read rfl [.bool e.1.1,.slice ap e.1.2.1.length ac,.bool e.1.2.2.1,.slice ar e.1.2.2.2.length ad] rfl (aK hc 0 _ ⟨_,rfl⟩) (wV rfl ?_)
    refine aa ?_
    refine VO.call rfl rfl (fk Tryz.func51) (fun jg kZ kt=>(dy _ _ e.1.q AL 82 82 jg (((hae.kp (Kp.of (U:=UU) kt)).iq hfa).up ab) (q3.ki QH) ab ab).mono ?_)
    rintro e w4 ⟨r4,rfl,q4,fq⟩
    obtain ⟨s4,p4,n4,c4,t4,y4,m4,d4,rfl⟩:=q4.form
    refine ⟨_,rfl,fq,fun lz _ tH=>wV rfl ?_⟩
    refine aa ?_
    refine VO.call rfl rfl (fk Tryz.func51) (fun gE ju ia=>(dy _ _ LM AL 82 82 gE (q2.ki zLM) (q3.ki QH) ab ab).mono ?_)
    rintro e w5 ⟨r5,rfl,q5,eP⟩
    obtain ⟨s5,p5,n5,c5,t5,y5,m5,d5,rfl⟩:=q5.form
    refine ⟨_,rfl,eP,fun jV _ qu=>wV rfl ?_⟩
    refine aa ?_
    rw [hRM] at q5
    rw [hDN] at q4
    have hmx:sB 0 [IntKind.i64.wrap (((z:Nat):Int) - (kn:Int))]=((z - kn:Nat):Int):=by
     rw [IntKind.wrap_i64]
     show (if _ > (0:Int) then _ else (0:Int))=_
     split <;> omega
    refine VS.fix 15 rfl (congrArg (fun z=>AV.val (.int .i64 z)) hmx) ?_
    clear hmx
    refine VS.now (fun wI kI oI=> ?_)
    refine VS.narrow [(1,.val (.slice (some ⟨b,off,none⟩) N cu)),(2,.box 2 0),(4,.box 4 0),(6,.box 6 0),(7,.box 7 0),(8,.row 115 0 z cl),(9,.val (.int .i64 (z:Int))),(10,.box 10 0),(11,.box 11 0),(12,.box 12 0),(13,.box 13 0),(14,.box 14 0),(15,.val (.int .i64 ((z - kn:Nat):Int)))] [(2,(57,([.bool S.1,.slice Ma S.2.1.length Mb,.bool S.2.2.1,.slice Mc S.2.2.2.length Md,.bool F.1,.slice GA F.2.1.length GB,.bool F.2.2.1,.slice GC F.2.2.2.length GD,.int .i64 (kn:Int)]:List Value).map .val)),(4,(64,[.val (.slice none 0 0),.val (.slice none 0 0)])),(6,(64,[.row 129 0 z cr,.row 95 0 ku CX])),(7,(55,([.bool s0,.slice p0 n0 c0,.bool t0,.slice y0 m0 d0]:List Value).map .val)),(10,(55,([.bool s2,.slice p2 n2 c2,.bool t2,.slice y2 m2 d2]:List Value).map .val)),(11,(55,([.bool s3,.slice p3 n3 c3,.bool t3,.slice y3 m3 d3]:List Value).map .val)),(12,(55,([.bool s4,.slice p4 n4 c4,.bool t4,.slice y4 m4 d4]:List Value).map .val)),(13,(55,([.bool s5,.slice p5 n5 c5,.bool t5,.slice y5 m5 d5]:List Value).map .val)),(14,(55,([.bool s0,.slice p0 n0 c0,.bool t0,.slice y0 m0 d0]:List Value).map .val)),(115,(55,CA.flatten.map .val++Ak)),(129,(108,kM.flatten.map .val++nH)),(95,(106,xn.flatten.map .val++yd))] ⟨rfl,rfl,rfl,rfl,rfl,rfl,rfl,rfl,rfl,rfl,rfl,rfl,rfl,trivial⟩ ⟨rfl,rfl,rfl,rfl,rfl,rfl,rfl,rfl,rfl,rfl,rfl,rfl,trivial⟩ rfl ⟨.vals _,.lit rfl,.lit rfl,.vals _,.vals _,.vals _,.vals _,.vals _,.vals _,jY.iU,mj.iU,wm.iU,trivial⟩ ?_
    exact cont _ _ _ ⟨s2,p2,n2,c2,t2,y2,m2,d2,s3,p3,n3,c3,t3,y3,m3,d3,s4,p4,n4,c4,t4,y4,m4,d4,s5,p5,n5,c5,t5,y5,m5,d5,q0.k,q2.k,q3.k,q4.kr,q5.kr,jY.kp (bm 82) aU,mj.kp (cH 82) aU,.inr ⟨ku,xn,yd,CX,wm.kp (iW 82) aU,rfl,rfl⟩⟩
  rintro F' H' wI ⟨s2,p2,n2,c2,t2,y2,m2,d2,s3,p3,n3,c3,t3,y3,m3,d3,s4,p4,n4,c4,t4,y4,m4,d4,s5,p5,n5,c5,t5,y5,m5,d5,q0,q2,q3,q4,q5,jY,mj,hUd⟩
  refine VS.loop (J:=fun m L M w'=>∃ (v:Nat) (lf:List Rat) (us:List Uq) (rm ud:Rat) (sg pg ng cg tg yg mg dg:_) (sh ph nh ch th yh mh dh:_) (CA:List (List Value)) (Ak:List AV),v≤z/\m=z - v/\
   LW D (M0 + M0) (100 * z) z LF US SM RM v lf us rm ud/\bE w' (.agg #[.bool sg,.slice pg ng cg,.bool tg,.slice yg mg dg]) rm/\bE w' (.agg #[.bool sh,.slice ph nh ch,.bool th,.slice yh mh dh]) ud/\iy (wq 82) 4 w' z cl CA Ak lf/\Kp UU wI w'/\
   ((us=[]/\L=[(1,.val (.slice (some ⟨b,off,none⟩) N cu)),(2,.box 2 0),(4,.box 4 0),(6,.box 6 0),(7,.box 7 0),(8,.row 115 0 z cl),(9,.val (.int .i64 (z:Int))),(10,.box 10 0),(11,.box 11 0),(12,.box 12 0),(13,.box 13 0),(14,.box 14 0),(15,.val (.int .i64 (v:Int)))]/\M=[(2,(57,([.bool S.1,.slice Ma S.2.1.length Mb,.bool S.2.2.1,.slice Mc S.2.2.2.length Md,.bool F.1,.slice GA F.2.1.length GB,.bool F.2.2.1,.slice GC F.2.2.2.length GD,.int .i64 (kn:Int)]:List Value).map .val)),(4,(64,[.val (.slice none 0 0),.val (.slice none 0 0)])),(6,(64,[.row 129 0 z cr,.val (.slice none 0 0)])),(7,(55,([.bool s0,.slice p0 n0 c0,.bool t0,.slice y0 m0 d0]:List Value).map .val)),(10,(55,([.bool s2,.slice p2 n2 c2,.bool t2,.slice y2 m2 d2]:List Value).map .val)),(11,(55,([.bool s3,.slice p3 n3 c3,.bool t3,.slice y3 m3 d3]:List Value).map .val)),(12,(55,([.bool s4,.slice p4 n4 c4,.bool t4,.slice y4 m4 d4]:List Value).map .val)),(13,(55,([.bool sg,.slice pg ng cg,.bool tg,.slice yg mg dg]:List Value).map .val)),(14,(55,([.bool sh,.slice ph nh ch,.bool th,.slice yh mh dh]:List Value).map .val)),(115,(55,CA.flatten.map .val++Ak)),(129,(108,kM.flatten.map .val++nH))])\/
    (∃ (ku:Nat) (xn:List (List Value)) (yd:List AV) (CX:Nat),iy (LY 82) 6 w' ku CX xn yd us/\L=[(1,.val (.slice (some ⟨b,off,none⟩) N cu)),(2,.box 2 0),(4,.box 4 0),(6,.box 6 0),(7,.box 7 0),(8,.row 115 0 z cl),(9,.val (.int .i64 (z:Int))),(10,.box 10 0),(11,.box 11 0),(12,.box 12 0),(13,.box 13 0),(14,.box 14 0),(15,.val (.int .i64 (v:Int)))]/\M=[(2,(57,([.bool S.1,.slice Ma S.2.1.length Mb,.bool S.2.2.1,.slice Mc S.2.2.2.length Md,.bool F.1,.slice GA F.2.1.length GB,.bool F.2.2.1,.slice GC F.2.2.2.length GD,.int .i64 (kn:Int)]:List Value).map .val)),(4,(64,[.val (.slice none 0 0),.val (.slice none 0 0)])),(6,(64,[.row 129 0 z cr,.row 95 0 ku CX])),(7,(55,([.bool s0,.slice p0 n0 c0,.bool t0,.slice y0 m0 d0]:List Value).map .val)),(10,(55,([.bool s2,.slice p2 n2 c2,.bool t2,.slice y2 m2 d2]:List Value).map .val)),(11,(55,([.bool s3,.slice p3 n3 c3,.bool t3,.slice y3 m3 d3]:List Value).map .val)),(12,(55,([.bool s4,.slice p4 n4 c4,.bool t4,.slice y4 m4 d4]:List Value).map .val)),(13,(55,([.bool sg,.slice pg ng cg,.bool tg,.slice yg mg dg]:List Value).map .val)),(14,(55,([.bool sh,.slice ph nh ch,.bool th,.slice yh mh dh]:List Value).map .val)),(115,(55,CA.flatten.map .val++Ak)),(129,(108,kM.flatten.map .val++nH)),(95,(106,xn.flatten.map .val++yd))]))) (z - (z - kn)) ?_ ?_
  ·rcases hUd with ⟨sJ,rfl,rfl⟩ | ⟨ku,xn,yd,CX,wm,rfl,rfl⟩
   ·refine ⟨_,_,?_,?_,?_,?_,⟨z - kn,_,_,RM,0,s5,p5,n5,c5,t5,y5,m5,d5,s0,p0,n0,c0,t0,y0,m0,d0,CA,Ak,by omega,rfl,hIn,q5,q0,jY,kR _,.inl ⟨sJ,rfl,rfl⟩⟩⟩
    ·exact cd
    ·exact cd
    ·rfl
    ·exact ⟨.vals _,.lit rfl,.lit rfl,.vals _,.vals _,.vals _,.vals _,.vals _,.vals _,jY.iU,mj.iU,trivial⟩
   ·refine ⟨_,_,?_,?_,?_,?_,⟨z - kn,_,_,RM,0,s5,p5,n5,c5,t5,y5,m5,d5,s0,p0,n0,c0,t0,y0,m0,d0,CA,Ak,by omega,rfl,hIn,q5,q0,jY,kR _,.inr ⟨ku,xn,yd,CX,wm,rfl,rfl⟩⟩⟩
    ·exact cd
    ·exact cd
    ·rfl
    ·exact ⟨.vals _,.lit rfl,.lit rfl,.vals _,.vals _,.vals _,.vals _,.vals _,.vals _,jY.iU,mj.iU,wm.iU,trivial⟩
  clear jY hIn q5 hUd
  rintro m L M wL1 ⟨v,lf,us,rm,ud,sg,pg,ng,cg,tg,yg,mg,dg,sh,ph,nh,ch,th,yh,mh,dh,CA,Ak,hvz,rfl,hI,qg,qh,jY,kV,⟨sJ,rfl,rfl⟩ | ⟨ku,xn,yd,CX,wm,rfl,rfl⟩⟩
  ·refine aa ?_
   by_cases mQ:v < z
   ·obtain ⟨x,hx⟩:∃ x,lf[v]? =some x:=⟨_,List.getElem?_eq_getElem (by have:=hI.len;omega)⟩
    obtain ⟨x1,x2,x3⟩:=hI.el x (List.mem_of_getElem? hx)
    have hI2:=hI.step hx mQ
    have nC:Iz D (ae x rm):=by rcases ct x rm with ⟨e,_⟩ | ⟨e,_⟩ <;> rw [e];exact x1;exact hI.rI
    have nM:0≤ae x rm:=by have:=hI.r0;rcases ct x rm with ⟨e,_⟩ | ⟨e,_⟩ <;> rw [e] <;> assumption
    have Bm:=dv x rm
    have hru:=hI.sm
    have Ar:=hI.r0
    have hu0:=hI.u0
    have zX:=hM.sz x x1 dp x3
    have zR:=hM.sz rm hI.rI dp dp
    have zU:=hM.sz ud hI.uI dp dp
    have zN:=hM.sz _ nC dp dp
    have zX2:=hM.sz _ (x1.sub nC) dp dp
    obtain ⟨csx,hcsx,hEx,mr,hcell⟩:=jY.cell (bm 82) hx
    obtain ⟨sx,px,nx,cx,tx,yx,mx,dx,rfl,xin⟩:=hEx.opn
    refine VS.aP rfl (decide_eq_true (Int.ofNat_lt.2 mQ)) ?_
    refine aa ?_
    refine VO.cond rfl dw ?_
    refine wV rfl ?_
    refine aa ?_
    refine VO.cW rfl (([.bool sx,.slice px nx cx,.bool tx,.slice yx mx dx]:List Value).map .val) rfl (hcell 0 _ ⟨[],rfl⟩) (wV rfl ?_)
    refine aa ?_
    refine VO.ee rfl (fk Tryz.func50) (fun wa21 β21 ka21 ba21 ho21=>(mD _ x [rm] 82 wa21 (cZ (ho21.own 83 (.base (List.mem_singleton.2 rfl)) _ _ rfl) [] (vs:=[[.bool sx,.slice px nx cx,.bool tx,.slice yx mx dx],[.bool sg,.slice pg ng cg,.bool tg,.slice yg mg dg]]) (by rfl) rfl (bt.cons ((xin.kp aU).inq) (bt.cons (qg.ki zR) bt.nil)) (bu rfl) bW) ab (bu rfl)).mono ?_)
    rintro o Qe ⟨r21,rfl,zz,z21,hb21⟩
    replace zz:bE Qe r21 (eB iL x [rm]):=zz
    obtain ⟨s21,p21,n21,c21,t21,y21,m21,d21,rfl⟩:=zz.form
    refine ⟨_,rfl,hb21,fun kb21 _ bb21=>wV rfl ?_⟩
    refine aa ?_
    rw [eM] at zz
    obtain ⟨cn,Nh⟩:∃ c,eg (ae x rm) 0=c:=⟨_,rfl⟩
    refine VO.call rfl rfl (fk Tryz.func52) (fun wa22 ka22 ba22=>(ue _ (ae x rm) 82 wa22 (zz.ki zN) ab cn Nh).mono ?_)
    rintro e w22 ⟨rfl,hb22⟩
    skip
    refine ⟨_,rfl,hb22,fun kb22 _ bb22=>wV rfl ?_⟩
    refine aa ?_
    by_cases lI:0 < ae x rm
    ·refine VS.aP rfl (decide_eq_true ((Aj Nh).2.2.2.1 lI)) ?_
     refine aa ?_
     have Me:us++(if 0 < ae x rm then [(v,z,ae x rm)] else [])=us++[(v,z,ae x rm)]:=by rw [if_pos lI]
     refine VO.BK (cK _ _) (iW 82) (t:=62) (e:=106) (s:=94) (a:=(v,z,ae x rm)) (cs:=[.int .i64 (v:Int),.int .i64 (z:Int),.bool s21,.slice p21 n21 c21,.bool t21,.slice y21 m21 d21]) rfl rfl rfl rfl rfl rfl rfl rfl (bu rfl) rfl rfl rfl ⟨[.bool s21,.slice p21 n21 c21,.bool t21,.slice y21 m21 d21],rfl,dX (zz.k) zN⟩ ab (fun CV cu3 spu2 k19 b19 Mf=>wV rfl ?_)
     refine aa ?_
     replace Mf:iy (LY 82) 6 CV 1 cu3 [[.int .i64 (v:Int),.int .i64 (z:Int),.bool s21,.slice p21 n21 c21,.bool t21,.slice y21 m21 d21]] spu2 (us++[(v,z,ae x rm)]):=by rw [sJ];exact Mf
     refine VO.cond rfl dw ?_
     refine wV rfl ?_
     refine aa ?_
     refine VO.cW rfl (([.bool sx,.slice px nx cx,.bool tx,.slice yx mx dx]:List Value).map .val) rfl (hcell 0 _ ⟨[],rfl⟩) (wV rfl ?_)
     refine aa ?_
     refine VO.call rfl rfl (fk Tryz.func51) (fun Mg ka23 ba23=>(dy _ _ x (ae x rm) 82 82 Mg ((xin.kp aU).inq) (zz.ki zN) ab ab).mono ?_)
     rintro e w23 ⟨r23,rfl,UN,Mh⟩
     obtain ⟨Qk,Ql,Qm,Qn,t23,Qo,Qp,d23,rfl⟩:=UN.form
     refine ⟨_,rfl,Mh,fun kb23 _ bb23=>wV rfl ?_⟩
     refine aa ?_
     refine VO.cond rfl dw ?_
     refine wV rfl ?_
     refine aa ?_
     have Cp:=jY.set (bm 82) (i:=v) (cs:=[.bool Qk,.slice Ql Qm Qn,.bool t23,.slice Qo Qp d23]) (a:=x - ae x rm) (w':=w23) aU (dX (UN.kr) zX2)
     refine VO.cond rfl (by show 0 + ((v:Int)).toNat * 4 + 4≤_;rw [jY.fl,Int.toNat_natCast];have:=jY.le;omega) (VO.dI 115 rfl (iX (new:=[.bool Qk,.slice Ql Qm Qn,.bool t23,.slice Qo Qp d23]) (jY.el.lens (bm 82)) (by rw [jY.el.len,<-jY.len];omega) rfl) (wV rfl ?_))
     refine aa ?_
     refine VO.call rfl rfl (fk Tryz.func51) (fun Mi ka24 ba24=>(dy _ _ rm (ae x rm) 82 82 Mi (qg.ki zR) (zz.ki zN) ab ab).mono ?_)
     rintro e w24 ⟨r24,rfl,UO,Mj⟩
     obtain ⟨s24,p24,n24,c24,t24,y24,m24,d24,rfl⟩:=UO.form
     refine ⟨_,rfl,Mj,fun kb24 _ bb24=>wV rfl ?_⟩
     refine aa ?_
     refine VO.call rfl rfl (fk Tryz.func27) (fun Mk ka25 ba25=>(gl _ _ ud (ae x rm) 82 82 Mk (qh.ki zU) (zz.ki zN) ab ab).mono ?_)
     rintro e w25 ⟨r25,rfl,UQ,Ml⟩
     obtain ⟨s25,p25,n25,c25,t25,y25,m25,d25,rfl⟩:=UQ.form
     refine ⟨_,rfl,Ml,fun kb25 _ bb25=>wV rfl ?_⟩
     refine aa ?_
     refine VS.back (z - (v + 1)) ab ⟨_,_,?_,?_,?_,?_,⟨v + 1,lf.set v (x - ae x rm),us++(if 0 < ae x rm then [(v,z,ae x rm)] else []),rm - ae x rm,ud + ae x rm,s24,p24,n24,c24,t24,y24,m24,d24,s25,p25,n25,c25,t25,y25,m25,d25,_,Ak,by omega,rfl,hI2,UO.kr,UQ.kr,Cp.kp (bm 82) aU,aU,.inr ⟨1,[[.int .i64 (v:Int),.int .i64 (z:Int),.bool s21,.slice p21 n21 c21,.bool t21,.slice y21 m21 d21]],spu2,cu3,by rw [Me];exact Mf.kp (iW 82) aU,rfl,rfl⟩⟩⟩
     ·refine ⟨rfl,rfl,rfl,rfl,rfl,rfl,rfl,rfl,rfl,rfl,rfl,rfl,?_,trivial⟩
      rw [<-aF (i:=v) ab];rfl
     ·exact cd
     ·rfl
     ·exact ⟨.vals _,.lit rfl,.lit rfl,.vals _,.vals _,.vals _,.vals _,.vals _,.vals _,Cp.iU,mj.iU,Mf.iU,trivial⟩
    ·refine VS.aQ rfl (decide_eq_false ((Aj Nh).1 (Rat.not_lt.1 lI))) ?_
     refine aa ?_
     have Me:us++(if 0 < ae x rm then [(v,z,ae x rm)] else [])=us:=by rw [if_neg lI,List.append_nil]
     refine VO.cond rfl dw ?_
     refine wV rfl ?_
     refine aa ?_
     refine VO.cW rfl (([.bool sx,.slice px nx cx,.bool tx,.slice yx mx dx]:List Value).map .val) rfl (hcell 0 _ ⟨[],rfl⟩) (wV rfl ?_)
     refine aa ?_
     refine VO.call rfl rfl (fk Tryz.func51) (fun Mg ka23 ba23=>(dy _ _ x (ae x rm) 82 82 Mg ((xin.kp aU).inq) (zz.ki zN) ab ab).mono ?_)
     rintro e w23 ⟨r23,rfl,UN,Mh⟩
     obtain ⟨Qk,Ql,Qm,Qn,t23,Qo,Qp,d23,rfl⟩:=UN.form
     refine ⟨_,rfl,Mh,fun kb23 _ bb23=>wV rfl ?_⟩
     refine aa ?_
     refine VO.cond rfl dw ?_
     refine wV rfl ?_
     refine aa ?_
     have Cp:=jY.set (bm 82) (i:=v) (cs:=[.bool Qk,.slice Ql Qm Qn,.bool t23,.slice Qo Qp d23]) (a:=x - ae x rm) (w':=w23) aU (dX (UN.kr) zX2)
     refine VO.cond rfl (by show 0 + ((v:Int)).toNat * 4 + 4≤_;rw [jY.fl,Int.toNat_natCast];have:=jY.le;omega) (VO.dI 115 rfl (iX (new:=[.bool Qk,.slice Ql Qm Qn,.bool t23,.slice Qo Qp d23]) (jY.el.lens (bm 82)) (by rw [jY.el.len,<-jY.len];omega) rfl) (wV rfl ?_))
     refine aa ?_
     refine VO.call rfl rfl (fk Tryz.func51) (fun Mi ka24 ba24=>(dy _ _ rm (ae x rm) 82 82 Mi (qg.ki zR) (zz.ki zN) ab ab).mono ?_)
     rintro e w24 ⟨r24,rfl,UO,Mj⟩
     obtain ⟨s24,p24,n24,c24,t24,y24,m24,d24,rfl⟩:=UO.form
     refine ⟨_,rfl,Mj,fun kb24 _ bb24=>wV rfl ?_⟩
     refine aa ?_
     refine VO.call rfl rfl (fk Tryz.func27) (fun Mk ka25 ba25=>(gl _ _ ud (ae x rm) 82 82 Mk (qh.ki zU) (zz.ki zN) ab ab).mono ?_)
     rintro e w25 ⟨r25,rfl,UQ,Ml⟩
     obtain ⟨s25,p25,n25,c25,t25,y25,m25,d25,rfl⟩:=UQ.form
     refine ⟨_,rfl,Ml,fun kb25 _ bb25=>wV rfl ?_⟩
     refine aa ?_
     refine VS.back (z - (v + 1)) ab ⟨_,_,?_,?_,?_,?_,⟨v + 1,lf.set v (x - ae x rm),us++(if 0 < ae x rm then [(v,z,ae x rm)] else []),rm - ae x rm,ud + ae x rm,s24,p24,n24,c24,t24,y24,m24,d24,s25,p25,n25,c25,t25,y25,m25,d25,_,Ak,by omega,rfl,hI2,UO.kr,UQ.kr,Cp.kp (bm 82) aU,aU,.inl ⟨by rw [Me];exact sJ,rfl,rfl⟩⟩⟩
     ·refine ⟨rfl,rfl,rfl,rfl,rfl,rfl,rfl,rfl,rfl,rfl,rfl,rfl,?_,trivial⟩
      rw [<-aF (i:=v) ab];rfl
     ·exact cd
     ·rfl
     ·exact ⟨.vals _,.lit rfl,.lit rfl,.vals _,.vals _,.vals _,.vals _,.vals _,.vals _,Cp.iU,mj.iU,trivial⟩
   ·refine VS.aQ rfl (decide_eq_false (fun e=>mQ (Int.ofNat_lt.1 e))) ?_
    have hvz2:v=z:=by omega
    rw [hvz2] at hI
    obtain ⟨f1,f2,f3⟩:=hI.fin
    have JM:Iz D SM/\0≤SM/\SM≤RM:=by rw [<-f3];exact ⟨hI.uI,hI.u0,by have:=hI.sm;have:=hI.r0;grind⟩
    rw [f1] at jY
    rw [f2] at sJ
    rw [f3] at qh
    refine aa ?_
    have zSM:=hM.sz SM JM.1 dp dp
    have zAS:=hM.sz _ (g1.add JM.1) dp dp
    have Ot:et 0 82:=et.zero.mono ab
    refine VO.vw (cK _ _) (bm 82) (t:=102) (e:=55) (s:=114) (i:=115) (n:=z) (c:=cl) (vs:=CA) (sp:=Ak) (es:=LF) (a:=DN) (cs:=[.bool s4,.slice p4 n4 c4,.bool t4,.slice y4 m4 d4]) rfl rfl rfl rfl rfl rfl rfl rfl (bu rfl) rfl (.inr rfl) rfl (jY.kp (bm 82) aU) rfl (dX (q4.k) zDN) ab (fun w16 UB Cn ρ16 k16 b16 hρ16 fP=>(VO.dI 129 rfl (cL mj.cT _ _) (wV rfl ?_)))
    refine aa ?_
    refine VO.call rfl rfl (fk Tryz.func27) (fun UC ka17 ba17=>(gl _ _ AL SM 82 82 UC (q3.ki QH) (qh.ki zSM) ab ab).mono ?_)
    rintro e w17 ⟨r17,rfl,q17,UD⟩
    obtain ⟨UE,UF,UG,UH,t17,UI,UJ,d17,rfl⟩:=q17.form
    refine ⟨_,rfl,UD,fun kb17 _ bb17=>wV rfl ?_⟩
    refine aa ?_
    refine VO.vw (cK _ _) (cH 82) (t:=61) (e:=108) (s:=128) (i:=129) (n:=z) (c:=cr) (vs:=kM) (sp:=nH) (es:=(runT S.q F.q kn (cj (l.take z))).rows) (a:=(⟨LM,AL,DN,SM,AL + SM,0,0⟩:aM)) (cs:=[.bool s2,.slice p2 n2 c2,.bool t2,.slice y2 m2 d2,.bool s3,.slice p3 n3 c3,.bool t3,.slice y3 m3 d3,.bool s4,.slice p4 n4 c4,.bool t4,.slice y4 m4 d4,.bool sh,.slice ph nh ch,.bool th,.slice yh mh dh,.bool UE,.slice UF UG UH,.bool t17,.slice UI UJ d17,.bool s0,.slice p0 n0 c0,.bool t0,.slice y0 m0 d0,.bool s0,.slice p0 n0 c0,.bool t0,.slice y0 m0 d0]) rfl rfl rfl rfl rfl rfl rfl rfl (bu rfl) rfl (.inr rfl) rfl (mj.kp (cH 82) aU) rfl ⟨[.bool s2,.slice p2 n2 c2,.bool t2,.slice y2 m2 d2],[.bool s3,.slice p3 n3 c3,.bool t3,.slice y3 m3 d3],[.bool s4,.slice p4 n4 c4,.bool t4,.slice y4 m4 d4],[.bool sh,.slice ph nh ch,.bool th,.slice yh mh dh],[.bool UE,.slice UF UG UH,.bool t17,.slice UI UJ d17],[.bool s0,.slice p0 n0 c0,.bool t0,.slice y0 m0 d0],[.bool s0,.slice p0 n0 c0,.bool t0,.slice y0 m0 d0],rfl,dX (q2.k) zLM,dX (q3.k) QH,dX (q4.k) zDN,dX (qh.k) zSM,dX (q17.kr) zAS,dX (q0.k) Ot,dX (q0.k) Ot⟩ ab (fun w18 UK Co ρ18 k18 b18 hρ18 gv=>(VO.dI 115 rfl (cL fP.cT _ _) (wV rfl ?_)))
    refine aa ?_
    obtain ⟨JN,yk⟩:∃ vs,vs=(CA++[[.bool s4,.slice p4 n4 c4,.bool t4,.slice y4 m4 d4]]:List (List Value)):=⟨_,rfl⟩
    obtain ⟨JO,yl⟩:∃ vs,vs=(kM++[[.bool s2,.slice p2 n2 c2,.bool t2,.slice y2 m2 d2,.bool s3,.slice p3 n3 c3,.bool t3,.slice y3 m3 d3,.bool s4,.slice p4 n4 c4,.bool t4,.slice y4 m4 d4,.bool sh,.slice ph nh ch,.bool th,.slice yh mh dh,.bool UE,.slice UF UG UH,.bool t17,.slice UI UJ d17,.bool s0,.slice p0 n0 c0,.bool t0,.slice y0 m0 d0,.bool s0,.slice p0 n0 c0,.bool t0,.slice y0 m0 d0]]:List (List Value)):=⟨_,rfl⟩
    obtain ⟨RW,GF⟩:∃ RW,RW=(runT S.q F.q kn (cj (l.take z))).rows++[(⟨LM,AL,DN,SM,AL + SM,0,0⟩:aM)]:=⟨_,rfl⟩
    obtain ⟨LL,OP⟩:∃ LL,LL=LF++[DN]:=⟨_,rfl⟩
    obtain ⟨z1,gC⟩:∃ z1,z1=z + 1:=⟨_,rfl⟩
    rw [<-yk,<-OP,<-gC] at fP
    rw [<-yl,<-GF,<-gC] at gv
    rw [<-gC] at oZ vW vX
    rw [<-GF,<-OP] at oZ
    refine VS.narrow [(1,.val (.slice (some ⟨b,off,none⟩) N cu)),(2,.box 2 0),(4,.box 4 0),(6,.box 6 0),(7,.box 7 0),(8,.row 115 0 z1 UB),(9,.val (.int .i64 (z:Int))),(134,.val (.bool (decide ((z:Int)≥(kn:Int)))))] [(2,(57,([.bool S.1,.slice Ma S.2.1.length Mb,.bool S.2.2.1,.slice Mc S.2.2.2.length Md,.bool F.1,.slice GA F.2.1.length GB,.bool F.2.2.1,.slice GC F.2.2.2.length GD,.int .i64 (kn:Int)]:List Value).map .val)),(4,(64,[.val (.slice none 0 0),.val (.slice none 0 0)])),(6,(64,[.row 129 0 z1 UK,.val (.slice none 0 0)])),(7,(55,([.bool s0,.slice p0 n0 c0,.bool t0,.slice y0 m0 d0]:List Value).map .val)),(115,(55,JN.flatten.map .val++Cn)),(129,(108,JO.flatten.map .val++Co))] ⟨rfl,rfl,rfl,rfl,rfl,by rw [gC];rfl,rfl,rfl,trivial⟩ ⟨rfl,rfl,by rw [gC];rfl,rfl,by rw [yk];rfl,by rw [yl];rfl,trivial⟩ rfl ⟨.vals _,.lit rfl,.lit rfl,.vals _,fP.iU,gv.iU,trivial⟩ ?_
    have hll:LL.length=z1:=fP.len.symm
    have hrwl:RW.length=z1:=gv.len.symm
    by_cases hkz:kn≤z
    ·refine VS.aP rfl (decide_eq_true (show (z:Int)≥(kn:Int) by omega)) ?_
     refine aa ?_
     obtain ⟨ix,hix⟩:∃ ix,ix=z - kn:=⟨_,rfl⟩
     have Ou:IntKind.i64.wrap ((z:Int) - (kn:Int))=((ix:Nat):Int):=by rw [IntKind.wrap_i64];omega
     obtain ⟨rx,Ov⟩:∃ r,RW[ix]? =some r:=⟨_,List.getElem?_eq_getElem ab⟩
     obtain ⟨lx,mr⟩:∃ x,LL[ix]? =some x:=⟨_,List.getElem?_eq_getElem ab⟩
     obtain ⟨yA,qB,ui,CD,hcell⟩:=gv.cell (cH 82) Ov
     obtain ⟨yD,yG,yH,yI,yJ,yK,yL,yM,yO,yP,yQ,yR,yT,yU,yV,yW,yX,yY,yZ,za,zb,zc,zd,ze,zf,zg,zh,zi,zj,zl,zm,zn,zo,zp,zt,zu,zv,zw,zx,zy,FV,FX,FY,Ga,Gb,Gc,Gd,Ge,Gf,Gg,Gh,Gi,Gj,Gk,Gl,Gm,rfl,x0,x1,x2,x3,x4,x5,x6⟩:=ui.opn
     refine VO.fix 140 rfl (congrArg (fun z=>AV.val (.int .i64 z)) (Ou)) ?_
     refine VO.cond rfl dw ?_
     refine wV rfl ?_
     refine aa ?_
     refine VO.cW rfl (([.bool yD,.slice yG yH yI,.bool yJ,.slice yK yL yM,.bool yO,.slice yP yQ yR,.bool yT,.slice yU yV yW,.bool yX,.slice yY yZ za,.bool zb,.slice zc zd ze,.bool zf,.slice zg zh zi,.bool zj,.slice zl zm zn,.bool zo,.slice zp zt zu,.bool zv,.slice zw zx zy,.bool FV,.slice FX FY Ga,.bool Gb,.slice Gc Gd Ge,.bool Gf,.slice Gg Gh Gi,.bool Gj,.slice Gk Gl Gm]:List Value).map .val) rfl (hcell 0 _ ⟨[],rfl⟩) (wV rfl ?_)
     refine aa ?_
     refine VO.fix 147 rfl (congrArg (fun z=>AV.val (.int .i64 z)) (Ou)) ?_
     refine VO.cond rfl dw ?_
     refine wV rfl ?_
     refine aa ?_
     obtain ⟨csl,hcsl,QR,hll2,qa⟩:=fP.cell (bm 82) mr
     obtain ⟨CY,CZ,Da,Db,Dc,Dd,De,del,rfl,xl⟩:=QR.opn
     refine VO.cW rfl (([.bool CY,.slice CZ Da Db,.bool Dc,.slice Dd De del]:List Value).map .val) rfl (qa 0 _ ⟨[],rfl⟩) (wV rfl ?_)
     refine aa ?_
     refine VO.fix 156 rfl (congrArg (fun z=>AV.val (.int .i64 z)) (Ou)) ?_
     refine VO.cond rfl dw ?_
     refine wV rfl ?_
     refine aa ?_
     have UL:=gv.fl
     have hler:=gv.le
     have UM:=fP.fl
     have hlel:=fP.le
     refine VO.cond rfl (by show 0 + ((ix:Int)).toNat * 28 + 28≤_;rw [UL,Int.toNat_natCast];omega) (VO.dI 129 rfl (iX (new:=[.bool yD,.slice yG yH yI,.bool yJ,.slice yK yL yM,.bool yO,.slice yP yQ yR,.bool yT,.slice yU yV yW,.bool yX,.slice yY yZ za,.bool zb,.slice zc zd ze,.bool zf,.slice zg zh zi,.bool zj,.slice zl zm zn,.bool zo,.slice zp zt zu,.bool zv,.slice zw zx zy,.bool CY,.slice CZ Da Db,.bool Dc,.slice Dd De del,.bool Gf,.slice Gg Gh Gi,.bool Gj,.slice Gk Gl Gm]) (gv.el.lens (cH 82)) (by rw [gv.el.len];omega) rfl) (wV rfl ?_))
     refine aa ?_
     refine VO.fix 163 rfl (congrArg (fun z=>AV.val (.int .i64 z)) (Ou)) ?_
     refine VO.cond rfl dw ?_
     refine wV rfl ?_
     refine aa ?_
     refine VO.cond rfl (by show 0 + ((ix:Int)).toNat * 4 + 4≤_;rw [UM,Int.toNat_natCast];omega) (VO.dI 115 rfl (iX (new:=[.bool s0,.slice p0 n0 c0,.bool t0,.slice y0 m0 d0]) (fP.el.lens (bm 82)) (by rw [fP.el.len];omega) rfl) (wV rfl ?_))
     refine aa ?_
     have eV:runT S.q F.q kn (cj (l.take z1))=⟨LL.set ix 0,RW.modify ix (fun r=>{ r with ao:=lx }),US⟩:=by
      rw [oZ]
      unfold qx
      rw [if_pos hkz,<-hix]
      dsimp only
      rw [List.getD_eq_getElem?_getD,mr];rfl
     refine VS.back (N - z1) ab ⟨_,_,?_,?_,?_,?_,⟨z1,s0,p0,n0,c0,t0,y0,m0,d0,by omega,rfl,vW,vX,q0.k,.inr ⟨by omega,_,Cn,UB,_,Co,UK,by rw [eV];exact fP.set (bm 82) aU (dX (q0.k) Ot),by rw [eV,ew Ov];exact gv.set (cH 82) aU ⟨[.bool yD,.slice yG yH yI,.bool yJ,.slice yK yL yM],[.bool yO,.slice yP yQ yR,.bool yT,.slice yU yV yW],[.bool yX,.slice yY yZ za,.bool zb,.slice zc zd ze],[.bool zf,.slice zg zh zi,.bool zj,.slice zl zm zn],[.bool zo,.slice zp zt zu,.bool zv,.slice zw zx zy],[.bool CY,.slice CZ Da Db,.bool Dc,.slice Dd De del],[.bool Gf,.slice Gg Gh Gi,.bool Gj,.slice Gk Gl Gm],rfl,(bm 82).kp x0 aU,(bm 82).kp x1 aU,(bm 82).kp x2 aU,(bm 82).kp x3 aU,(bm 82).kp x4 aU,(bm 82).kp xl aU,(bm 82).kp x6 aU⟩,.inl ⟨by rw [eV];exact sJ,rfl,rfl⟩⟩⟩⟩
     ·refine ⟨rfl,rfl,rfl,rfl,rfl,rfl,?_,trivial⟩
      rw [gC,<-aF (i:=z) ab];rfl
     ·exact cd
     ·rfl
     ·exact ⟨.vals _,.lit rfl,.lit rfl,.vals _,(fP.set (bm 82) (kR _) (dX (q0.k) Ot)).iU,.append (.vals _) (.none gv.sl),trivial⟩
    ·refine VS.aQ rfl (decide_eq_false (show ¬ (z:Int)≥(kn:Int) by omega)) ?_
     refine aa ?_
     have eV:runT S.q F.q kn (cj (l.take z1))=⟨LL,RW,US⟩:=by
      rw [oZ]
      unfold qx
      rw [if_neg hkz]
     refine VS.back (N - z1) ab ⟨_,_,?_,?_,?_,?_,⟨z1,s0,p0,n0,c0,t0,y0,m0,d0,by omega,rfl,vW,vX,q0.k,.inr ⟨by omega,JN,Cn,UB,JO,Co,UK,by rw [eV];exact fP.kp (bm 82) aU,by rw [eV];exact gv.kp (cH 82) aU,.inl ⟨by rw [eV];exact sJ,rfl,rfl⟩⟩⟩⟩
     ·refine ⟨rfl,rfl,rfl,rfl,rfl,rfl,?_,trivial⟩
      rw [gC,<-aF (i:=z) ab];rfl
     ·exact cd
     ·rfl
     ·exact ⟨.vals _,.lit rfl,.lit rfl,.vals _,fP.iU,gv.iU,trivial⟩
  ·refine aa ?_
   by_cases mQ:v < z
   ·obtain ⟨x,hx⟩:∃ x,lf[v]? =some x:=⟨_,List.getElem?_eq_getElem (by have:=hI.len;omega)⟩
    obtain ⟨x1,x2,x3⟩:=hI.el x (List.mem_of_getElem? hx)
    have hI2:=hI.step hx mQ
    have nC:Iz D (ae x rm):=by rcases ct x rm with ⟨e,_⟩ | ⟨e,_⟩ <;> rw [e];exact x1;exact hI.rI
    have nM:0≤ae x rm:=by have:=hI.r0;rcases ct x rm with ⟨e,_⟩ | ⟨e,_⟩ <;> rw [e] <;> assumption
    have Bm:=dv x rm
    have hru:=hI.sm
    have Ar:=hI.r0
    have hu0:=hI.u0
    have zX:=hM.sz x x1 dp x3
    have zR:=hM.sz rm hI.rI dp dp
    have zU:=hM.sz ud hI.uI dp dp
    have zN:=hM.sz _ nC dp dp
    have zX2:=hM.sz _ (x1.sub nC) dp dp
    obtain ⟨csx,hcsx,hEx,mr,hcell⟩:=jY.cell (bm 82) hx
    obtain ⟨sx,px,nx,cx,tx,yx,mx,dx,rfl,xin⟩:=hEx.opn
    refine VS.aP rfl (decide_eq_true (Int.ofNat_lt.2 mQ)) ?_
    refine aa ?_
    refine VO.cond rfl dw ?_
    refine wV rfl ?_
    refine aa ?_
    refine VO.cW rfl (([.bool sx,.slice px nx cx,.bool tx,.slice yx mx dx]:List Value).map .val) rfl (hcell 0 _ ⟨[],rfl⟩) (wV rfl ?_)
    refine aa ?_
    refine VO.ee rfl (fk Tryz.func50) (fun wa21 β21 ka21 ba21 ho21=>(mD _ x [rm] 82 wa21 (cZ (ho21.own 83 (.base (List.mem_singleton.2 rfl)) _ _ rfl) [] (vs:=[[.bool sx,.slice px nx cx,.bool tx,.slice yx mx dx],[.bool sg,.slice pg ng cg,.bool tg,.slice yg mg dg]]) (by rfl) rfl (bt.cons ((xin.kp aU).inq) (bt.cons (qg.ki zR) bt.nil)) (bu rfl) bW) ab (bu rfl)).mono ?_)
    rintro o Qe ⟨r21,rfl,zz,z21,hb21⟩
    replace zz:bE Qe r21 (eB iL x [rm]):=zz
    obtain ⟨s21,p21,n21,c21,t21,y21,m21,d21,rfl⟩:=zz.form
    refine ⟨_,rfl,hb21,fun kb21 _ bb21=>wV rfl ?_⟩
    refine aa ?_
    rw [eM] at zz
    obtain ⟨cn,Nh⟩:∃ c,eg (ae x rm) 0=c:=⟨_,rfl⟩
    refine VO.call rfl rfl (fk Tryz.func52) (fun wa22 ka22 ba22=>(ue _ (ae x rm) 82 wa22 (zz.ki zN) ab cn Nh).mono ?_)
    rintro e w22 ⟨rfl,hb22⟩
    skip
    refine ⟨_,rfl,hb22,fun kb22 _ bb22=>wV rfl ?_⟩
    refine aa ?_
    by_cases lI:0 < ae x rm
    ·refine VS.aP rfl (decide_eq_true ((Aj Nh).2.2.2.1 lI)) ?_
     refine aa ?_
     have Me:us++(if 0 < ae x rm then [(v,z,ae x rm)] else [])=us++[(v,z,ae x rm)]:=by rw [if_pos lI]
     have hkul:=hI.ul
     rw [<-wm.len] at hkul
     refine VO.vw (cK _ _) (iW 82) (t:=62) (e:=106) (s:=94) (i:=95) (n:=ku) (c:=CX) (vs:=xn) (sp:=yd) (es:=us) (a:=(v,z,ae x rm)) (cs:=[.int .i64 (v:Int),.int .i64 (z:Int),.bool s21,.slice p21 n21 c21,.bool t21,.slice y21 m21 d21]) rfl rfl rfl rfl rfl rfl rfl rfl (bu rfl) rfl (.inr rfl) rfl (wm.kp (iW 82) aU) rfl ⟨[.bool s21,.slice p21 n21 c21,.bool t21,.slice y21 m21 d21],rfl,dX (zz.k) zN⟩ ab (fun CV cu3 spu2 ρ19 k19 b19 hρ19 Mf=>VO.dI 115 rfl (cL jY.cT _ _) (VO.dI 129 rfl (cL mj.cT _ _) (wV rfl ?_)))
     refine aa ?_
     refine VO.cond rfl dw ?_
     refine wV rfl ?_
     refine aa ?_
     refine VO.cW rfl (([.bool sx,.slice px nx cx,.bool tx,.slice yx mx dx]:List Value).map .val) rfl (hcell 0 _ ⟨[],rfl⟩) (wV rfl ?_)
     refine aa ?_
     refine VO.call rfl rfl (fk Tryz.func51) (fun Mg ka23 ba23=>(dy _ _ x (ae x rm) 82 82 Mg ((xin.kp aU).inq) (zz.ki zN) ab ab).mono ?_)
     rintro e w23 ⟨r23,rfl,UN,Mh⟩
     obtain ⟨Qk,Ql,Qm,Qn,t23,Qo,Qp,d23,rfl⟩:=UN.form
     refine ⟨_,rfl,Mh,fun kb23 _ bb23=>wV rfl ?_⟩
     refine aa ?_
     refine VO.cond rfl dw ?_
     refine wV rfl ?_
     refine aa ?_
     have Cp:=jY.set (bm 82) (i:=v) (cs:=[.bool Qk,.slice Ql Qm Qn,.bool t23,.slice Qo Qp d23]) (a:=x - ae x rm) (w':=w23) aU (dX (UN.kr) zX2)
     refine VO.cond rfl (by show 0 + ((v:Int)).toNat * 4 + 4≤_;rw [jY.fl,Int.toNat_natCast];have:=jY.le;omega) (VO.dI 115 rfl (iX (new:=[.bool Qk,.slice Ql Qm Qn,.bool t23,.slice Qo Qp d23]) (jY.el.lens (bm 82)) (by rw [jY.el.len,<-jY.len];omega) rfl) (wV rfl ?_))
     refine aa ?_
     refine VO.call rfl rfl (fk Tryz.func51) (fun Mi ka24 ba24=>(dy _ _ rm (ae x rm) 82 82 Mi (qg.ki zR) (zz.ki zN) ab ab).mono ?_)
     rintro e w24 ⟨r24,rfl,UO,Mj⟩
     obtain ⟨s24,p24,n24,c24,t24,y24,m24,d24,rfl⟩:=UO.form
     refine ⟨_,rfl,Mj,fun kb24 _ bb24=>wV rfl ?_⟩
     refine aa ?_
     refine VO.call rfl rfl (fk Tryz.func27) (fun Mk ka25 ba25=>(gl _ _ ud (ae x rm) 82 82 Mk (qh.ki zU) (zz.ki zN) ab ab).mono ?_)
     rintro e w25 ⟨r25,rfl,UQ,Ml⟩
     obtain ⟨s25,p25,n25,c25,t25,y25,m25,d25,rfl⟩:=UQ.form
     refine ⟨_,rfl,Ml,fun kb25 _ bb25=>wV rfl ?_⟩
     refine aa ?_
     refine VS.back (z - (v + 1)) ab ⟨_,_,?_,?_,?_,?_,⟨v + 1,lf.set v (x - ae x rm),us++(if 0 < ae x rm then [(v,z,ae x rm)] else []),rm - ae x rm,ud + ae x rm,s24,p24,n24,c24,t24,y24,m24,d24,s25,p25,n25,c25,t25,y25,m25,d25,_,Ak,by omega,rfl,hI2,UO.kr,UQ.kr,Cp.kp (bm 82) aU,aU,.inr ⟨ku + 1,(xn++[[.int .i64 (v:Int),.int .i64 (z:Int),.bool s21,.slice p21 n21 c21,.bool t21,.slice y21 m21 d21]]),spu2,cu3,by rw [Me];exact Mf.kp (iW 82) aU,rfl,rfl⟩⟩⟩
     ·refine ⟨rfl,rfl,rfl,rfl,rfl,rfl,rfl,rfl,rfl,rfl,rfl,rfl,?_,trivial⟩
      rw [<-aF (i:=v) ab];rfl
     ·exact cd
     ·rfl
     ·exact ⟨.vals _,.lit rfl,.lit rfl,.vals _,.vals _,.vals _,.vals _,.vals _,.vals _,Cp.iU,mj.iU,Mf.iU,trivial⟩
    ·refine VS.aQ rfl (decide_eq_false ((Aj Nh).1 (Rat.not_lt.1 lI))) ?_
     refine aa ?_
     have Me:us++(if 0 < ae x rm then [(v,z,ae x rm)] else [])=us:=by rw [if_neg lI,List.append_nil]
     refine VO.cond rfl dw ?_
     refine wV rfl ?_
     refine aa ?_
     refine VO.cW rfl (([.bool sx,.slice px nx cx,.bool tx,.slice yx mx dx]:List Value).map .val) rfl (hcell 0 _ ⟨[],rfl⟩) (wV rfl ?_)
     refine aa ?_
     refine VO.call rfl rfl (fk Tryz.func51) (fun Mg ka23 ba23=>(dy _ _ x (ae x rm) 82 82 Mg ((xin.kp aU).inq) (zz.ki zN) ab ab).mono ?_)
     rintro e w23 ⟨r23,rfl,UN,Mh⟩
     obtain ⟨Qk,Ql,Qm,Qn,t23,Qo,Qp,d23,rfl⟩:=UN.form
     refine ⟨_,rfl,Mh,fun kb23 _ bb23=>wV rfl ?_⟩
     refine aa ?_
     refine VO.cond rfl dw ?_
     refine wV rfl ?_
     refine aa ?_
     have Cp:=jY.set (bm 82) (i:=v) (cs:=[.bool Qk,.slice Ql Qm Qn,.bool t23,.slice Qo Qp d23]) (a:=x - ae x rm) (w':=w23) aU (dX (UN.kr) zX2)
     refine VO.cond rfl (by show 0 + ((v:Int)).toNat * 4 + 4≤_;rw [jY.fl,Int.toNat_natCast];have:=jY.le;omega) (VO.dI 115 rfl (iX (new:=[.bool Qk,.slice Ql Qm Qn,.bool t23,.slice Qo Qp d23]) (jY.el.lens (bm 82)) (by rw [jY.el.len,<-jY.len];omega) rfl) (wV rfl ?_))
     refine aa ?_
     refine VO.call rfl rfl (fk Tryz.func51) (fun Mi ka24 ba24=>(dy _ _ rm (ae x rm) 82 82 Mi (qg.ki zR) (zz.ki zN) ab ab).mono ?_)
     rintro e w24 ⟨r24,rfl,UO,Mj⟩
     obtain ⟨s24,p24,n24,c24,t24,y24,m24,d24,rfl⟩:=UO.form
     refine ⟨_,rfl,Mj,fun kb24 _ bb24=>wV rfl ?_⟩
     refine aa ?_
     refine VO.call rfl rfl (fk Tryz.func27) (fun Mk ka25 ba25=>(gl _ _ ud (ae x rm) 82 82 Mk (qh.ki zU) (zz.ki zN) ab ab).mono ?_)
     rintro e w25 ⟨r25,rfl,UQ,Ml⟩
     obtain ⟨s25,p25,n25,c25,t25,y25,m25,d25,rfl⟩:=UQ.form
     refine ⟨_,rfl,Ml,fun kb25 _ bb25=>wV rfl ?_⟩
     refine aa ?_
     refine VS.back (z - (v + 1)) ab ⟨_,_,?_,?_,?_,?_,⟨v + 1,lf.set v (x - ae x rm),us++(if 0 < ae x rm then [(v,z,ae x rm)] else []),rm - ae x rm,ud + ae x rm,s24,p24,n24,c24,t24,y24,m24,d24,s25,p25,n25,c25,t25,y25,m25,d25,_,Ak,by omega,rfl,hI2,UO.kr,UQ.kr,Cp.kp (bm 82) aU,aU,.inr ⟨ku,xn,yd,CX,by rw [Me];exact wm.kp (iW 82) aU,rfl,rfl⟩⟩⟩
     ·refine ⟨rfl,rfl,rfl,rfl,rfl,rfl,rfl,rfl,rfl,rfl,rfl,rfl,?_,trivial⟩
      rw [<-aF (i:=v) ab];rfl
     ·exact cd
     ·rfl
     ·exact ⟨.vals _,.lit rfl,.lit rfl,.vals _,.vals _,.vals _,.vals _,.vals _,.vals _,Cp.iU,mj.iU,wm.iU,trivial⟩
   ·refine VS.aQ rfl (decide_eq_false (fun e=>mQ (Int.ofNat_lt.1 e))) ?_
    have hvz2:v=z:=by omega
    rw [hvz2] at hI
    obtain ⟨f1,f2,f3⟩:=hI.fin
    have JM:Iz D SM/\0≤SM/\SM≤RM:=by rw [<-f3];exact ⟨hI.uI,hI.u0,by have:=hI.sm;have:=hI.r0;grind⟩
    rw [f1] at jY
    rw [f2] at wm
    rw [f3] at qh
    refine aa ?_
    have zSM:=hM.sz SM JM.1 dp dp
    have zAS:=hM.sz _ (g1.add JM.1) dp dp
    have Ot:et 0 82:=et.zero.mono ab
    refine VO.vw (cK _ _) (bm 82) (t:=102) (e:=55) (s:=114) (i:=115) (n:=z) (c:=cl) (vs:=CA) (sp:=Ak) (es:=LF) (a:=DN) (cs:=[.bool s4,.slice p4 n4 c4,.bool t4,.slice y4 m4 d4]) rfl rfl rfl rfl rfl rfl rfl rfl (bu rfl) rfl (.inr rfl) rfl (jY.kp (bm 82) aU) rfl (dX (q4.k) zDN) ab (fun w16 UB Cn ρ16 k16 b16 hρ16 fP=>(VO.dI 129 rfl (cL mj.cT _ _) (VO.dI 95 rfl (cL wm.cT _ _) (wV rfl ?_))))
    refine aa ?_
    refine VO.call rfl rfl (fk Tryz.func27) (fun UC ka17 ba17=>(gl _ _ AL SM 82 82 UC (q3.ki QH) (qh.ki zSM) ab ab).mono ?_)
    rintro e w17 ⟨r17,rfl,q17,UD⟩
    obtain ⟨UE,UF,UG,UH,t17,UI,UJ,d17,rfl⟩:=q17.form
    refine ⟨_,rfl,UD,fun kb17 _ bb17=>wV rfl ?_⟩
    refine aa ?_
    refine VO.vw (cK _ _) (cH 82) (t:=61) (e:=108) (s:=128) (i:=129) (n:=z) (c:=cr) (vs:=kM) (sp:=nH) (es:=(runT S.q F.q kn (cj (l.take z))).rows) (a:=(⟨LM,AL,DN,SM,AL + SM,0,0⟩:aM)) (cs:=[.bool s2,.slice p2 n2 c2,.bool t2,.slice y2 m2 d2,.bool s3,.slice p3 n3 c3,.bool t3,.slice y3 m3 d3,.bool s4,.slice p4 n4 c4,.bool t4,.slice y4 m4 d4,.bool sh,.slice ph nh ch,.bool th,.slice yh mh dh,.bool UE,.slice UF UG UH,.bool t17,.slice UI UJ d17,.bool s0,.slice p0 n0 c0,.bool t0,.slice y0 m0 d0,.bool s0,.slice p0 n0 c0,.bool t0,.slice y0 m0 d0]) rfl rfl rfl rfl rfl rfl rfl rfl (bu rfl) rfl (.inr rfl) rfl (mj.kp (cH 82) aU) rfl ⟨[.bool s2,.slice p2 n2 c2,.bool t2,.slice y2 m2 d2],[.bool s3,.slice p3 n3 c3,.bool t3,.slice y3 m3 d3],[.bool s4,.slice p4 n4 c4,.bool t4,.slice y4 m4 d4],[.bool sh,.slice ph nh ch,.bool th,.slice yh mh dh],[.bool UE,.slice UF UG UH,.bool t17,.slice UI UJ d17],[.bool s0,.slice p0 n0 c0,.bool t0,.slice y0 m0 d0],[.bool s0,.slice p0 n0 c0,.bool t0,.slice y0 m0 d0],rfl,dX (q2.k) zLM,dX (q3.k) QH,dX (q4.k) zDN,dX (qh.k) zSM,dX (q17.kr) zAS,dX (q0.k) Ot,dX (q0.k) Ot⟩ ab (fun w18 UK Co ρ18 k18 b18 hρ18 gv=>(VO.dI 115 rfl (cL fP.cT _ _) (VO.dI 95 rfl (cL wm.cT _ _) (wV rfl ?_))))
    refine aa ?_
    obtain ⟨JN,yk⟩:∃ vs,vs=(CA++[[.bool s4,.slice p4 n4 c4,.bool t4,.slice y4 m4 d4]]:List (List Value)):=⟨_,rfl⟩
    obtain ⟨JO,yl⟩:∃ vs,vs=(kM++[[.bool s2,.slice p2 n2 c2,.bool t2,.slice y2 m2 d2,.bool s3,.slice p3 n3 c3,.bool t3,.slice y3 m3 d3,.bool s4,.slice p4 n4 c4,.bool t4,.slice y4 m4 d4,.bool sh,.slice ph nh ch,.bool th,.slice yh mh dh,.bool UE,.slice UF UG UH,.bool t17,.slice UI UJ d17,.bool s0,.slice p0 n0 c0,.bool t0,.slice y0 m0 d0,.bool s0,.slice p0 n0 c0,.bool t0,.slice y0 m0 d0]]:List (List Value)):=⟨_,rfl⟩
    obtain ⟨RW,GF⟩:∃ RW,RW=(runT S.q F.q kn (cj (l.take z))).rows++[(⟨LM,AL,DN,SM,AL + SM,0,0⟩:aM)]:=⟨_,rfl⟩
    obtain ⟨LL,OP⟩:∃ LL,LL=LF++[DN]:=⟨_,rfl⟩
    obtain ⟨z1,gC⟩:∃ z1,z1=z + 1:=⟨_,rfl⟩
    rw [<-yk,<-OP,<-gC] at fP
    rw [<-yl,<-GF,<-gC] at gv
    rw [<-gC] at oZ vW vX
    rw [<-GF,<-OP] at oZ
    refine VS.narrow [(1,.val (.slice (some ⟨b,off,none⟩) N cu)),(2,.box 2 0),(4,.box 4 0),(6,.box 6 0),(7,.box 7 0),(8,.row 115 0 z1 UB),(9,.val (.int .i64 (z:Int))),(134,.val (.bool (decide ((z:Int)≥(kn:Int)))))] [(2,(57,([.bool S.1,.slice Ma S.2.1.length Mb,.bool S.2.2.1,.slice Mc S.2.2.2.length Md,.bool F.1,.slice GA F.2.1.length GB,.bool F.2.2.1,.slice GC F.2.2.2.length GD,.int .i64 (kn:Int)]:List Value).map .val)),(4,(64,[.val (.slice none 0 0),.val (.slice none 0 0)])),(6,(64,[.row 129 0 z1 UK,.row 95 0 ku CX])),(7,(55,([.bool s0,.slice p0 n0 c0,.bool t0,.slice y0 m0 d0]:List Value).map .val)),(115,(55,JN.flatten.map .val++Cn)),(129,(108,JO.flatten.map .val++Co)),(95,(106,xn.flatten.map .val++yd))] ⟨rfl,rfl,rfl,rfl,rfl,by rw [gC];rfl,rfl,rfl,trivial⟩ ⟨rfl,rfl,by rw [gC];rfl,rfl,by rw [yk];rfl,by rw [yl];rfl,rfl,trivial⟩ rfl ⟨.vals _,.lit rfl,.lit rfl,.vals _,fP.iU,gv.iU,wm.iU,trivial⟩ ?_
    have hll:LL.length=z1:=fP.len.symm
    have hrwl:RW.length=z1:=gv.len.symm
    by_cases hkz:kn≤z
    ·refine VS.aP rfl (decide_eq_true (show (z:Int)≥(kn:Int) by omega)) ?_
     refine aa ?_
     obtain ⟨ix,hix⟩:∃ ix,ix=z - kn:=⟨_,rfl⟩
     have Ou:IntKind.i64.wrap ((z:Int) - (kn:Int))=((ix:Nat):Int):=by rw [IntKind.wrap_i64];omega
     obtain ⟨rx,Ov⟩:∃ r,RW[ix]? =some r:=⟨_,List.getElem?_eq_getElem ab⟩
     obtain ⟨lx,mr⟩:∃ x,LL[ix]? =some x:=⟨_,List.getElem?_eq_getElem ab⟩
     obtain ⟨yA,qB,ui,CD,hcell⟩:=gv.cell (cH 82) Ov
     obtain ⟨yD,yG,yH,yI,yJ,yK,yL,yM,yO,yP,yQ,yR,yT,yU,yV,yW,yX,yY,yZ,za,zb,zc,zd,ze,zf,zg,zh,zi,zj,zl,zm,zn,zo,zp,zt,zu,zv,zw,zx,zy,FV,FX,FY,Ga,Gb,Gc,Gd,Ge,Gf,Gg,Gh,Gi,Gj,Gk,Gl,Gm,rfl,x0,x1,x2,x3,x4,x5,x6⟩:=ui.opn
     refine VO.fix 140 rfl (congrArg (fun z=>AV.val (.int .i64 z)) (Ou)) ?_
     refine VO.cond rfl dw ?_
     refine wV rfl ?_
     refine aa ?_
     refine VO.cW rfl (([.bool yD,.slice yG yH yI,.bool yJ,.slice yK yL yM,.bool yO,.slice yP yQ yR,.bool yT,.slice yU yV yW,.bool yX,.slice yY yZ za,.bool zb,.slice zc zd ze,.bool zf,.slice zg zh zi,.bool zj,.slice zl zm zn,.bool zo,.slice zp zt zu,.bool zv,.slice zw zx zy,.bool FV,.slice FX FY Ga,.bool Gb,.slice Gc Gd Ge,.bool Gf,.slice Gg Gh Gi,.bool Gj,.slice Gk Gl Gm]:List Value).map .val) rfl (hcell 0 _ ⟨[],rfl⟩) (wV rfl ?_)
     refine aa ?_
     refine VO.fix 147 rfl (congrArg (fun z=>AV.val (.int .i64 z)) (Ou)) ?_
     refine VO.cond rfl dw ?_
     refine wV rfl ?_
     refine aa ?_
     obtain ⟨csl,hcsl,QR,hll2,qa⟩:=fP.cell (bm 82) mr
     obtain ⟨CY,CZ,Da,Db,Dc,Dd,De,del,rfl,xl⟩:=QR.opn
     refine VO.cW rfl (([.bool CY,.slice CZ Da Db,.bool Dc,.slice Dd De del]:List Value).map .val) rfl (qa 0 _ ⟨[],rfl⟩) (wV rfl ?_)
     refine aa ?_
     refine VO.fix 156 rfl (congrArg (fun z=>AV.val (.int .i64 z)) (Ou)) ?_
     refine VO.cond rfl dw ?_
     refine wV rfl ?_
     refine aa ?_
     have UL:=gv.fl
     have hler:=gv.le
     have UM:=fP.fl
     have hlel:=fP.le
     refine VO.cond rfl (by show 0 + ((ix:Int)).toNat * 28 + 28≤_;rw [UL,Int.toNat_natCast];omega) (VO.dI 129 rfl (iX (new:=[.bool yD,.slice yG yH yI,.bool yJ,.slice yK yL yM,.bool yO,.slice yP yQ yR,.bool yT,.slice yU yV yW,.bool yX,.slice yY yZ za,.bool zb,.slice zc zd ze,.bool zf,.slice zg zh zi,.bool zj,.slice zl zm zn,.bool zo,.slice zp zt zu,.bool zv,.slice zw zx zy,.bool CY,.slice CZ Da Db,.bool Dc,.slice Dd De del,.bool Gf,.slice Gg Gh Gi,.bool Gj,.slice Gk Gl Gm]) (gv.el.lens (cH 82)) (by rw [gv.el.len];omega) rfl) (wV rfl ?_))
     refine aa ?_
     refine VO.fix 163 rfl (congrArg (fun z=>AV.val (.int .i64 z)) (Ou)) ?_
     refine VO.cond rfl dw ?_
     refine wV rfl ?_
     refine aa ?_
     refine VO.cond rfl (by show 0 + ((ix:Int)).toNat * 4 + 4≤_;rw [UM,Int.toNat_natCast];omega) (VO.dI 115 rfl (iX (new:=[.bool s0,.slice p0 n0 c0,.bool t0,.slice y0 m0 d0]) (fP.el.lens (bm 82)) (by rw [fP.el.len];omega) rfl) (wV rfl ?_))
     refine aa ?_
     have eV:runT S.q F.q kn (cj (l.take z1))=⟨LL.set ix 0,RW.modify ix (fun r=>{ r with ao:=lx }),US⟩:=by
      rw [oZ]
      unfold qx
      rw [if_pos hkz,<-hix]
      dsimp only
      rw [List.getD_eq_getElem?_getD,mr];rfl
     refine VS.back (N - z1) ab ⟨_,_,?_,?_,?_,?_,⟨z1,s0,p0,n0,c0,t0,y0,m0,d0,by omega,rfl,vW,vX,q0.k,.inr ⟨by omega,_,Cn,UB,_,Co,UK,by rw [eV];exact fP.set (bm 82) aU (dX (q0.k) Ot),by rw [eV,ew Ov];exact gv.set (cH 82) aU ⟨[.bool yD,.slice yG yH yI,.bool yJ,.slice yK yL yM],[.bool yO,.slice yP yQ yR,.bool yT,.slice yU yV yW],[.bool yX,.slice yY yZ za,.bool zb,.slice zc zd ze],[.bool zf,.slice zg zh zi,.bool zj,.slice zl zm zn],[.bool zo,.slice zp zt zu,.bool zv,.slice zw zx zy],[.bool CY,.slice CZ Da Db,.bool Dc,.slice Dd De del],[.bool Gf,.slice Gg Gh Gi,.bool Gj,.slice Gk Gl Gm],rfl,(bm 82).kp x0 aU,(bm 82).kp x1 aU,(bm 82).kp x2 aU,(bm 82).kp x3 aU,(bm 82).kp x4 aU,(bm 82).kp xl aU,(bm 82).kp x6 aU⟩,.inr ⟨ku,xn,yd,CX,by rw [eV];exact wm.kp (iW 82) aU,rfl,rfl⟩⟩⟩⟩
     ·refine ⟨rfl,rfl,rfl,rfl,rfl,rfl,?_,trivial⟩
      rw [gC,<-aF (i:=z) ab];rfl
     ·exact cd
     ·rfl
     ·exact ⟨.vals _,.lit rfl,.lit rfl,.vals _,(fP.set (bm 82) (kR _) (dX (q0.k) Ot)).iU,.append (.vals _) (.none gv.sl),wm.iU,trivial⟩
    ·refine VS.aQ rfl (decide_eq_false (show ¬ (z:Int)≥(kn:Int) by omega)) ?_
     refine aa ?_
     have eV:runT S.q F.q kn (cj (l.take z1))=⟨LL,RW,US⟩:=by
      rw [oZ]
      unfold qx
      rw [if_neg hkz]
     refine VS.back (N - z1) ab ⟨_,_,?_,?_,?_,?_,⟨z1,s0,p0,n0,c0,t0,y0,m0,d0,by omega,rfl,vW,vX,q0.k,.inr ⟨by omega,JN,Cn,UB,JO,Co,UK,by rw [eV];exact fP.kp (bm 82) aU,by rw [eV];exact gv.kp (cH 82) aU,.inr ⟨ku,xn,yd,CX,by rw [eV];exact wm.kp (iW 82) aU,rfl,rfl⟩⟩⟩⟩
     ·refine ⟨rfl,rfl,rfl,rfl,rfl,rfl,?_,trivial⟩
      rw [gC,<-aF (i:=z) ab];rfl
     ·exact cd
     ·rfl
     ·exact ⟨.vals _,.lit rfl,.lit rfl,.vals _,fP.iU,gv.iU,wm.iU,trivial⟩
 rcases hUd with ⟨sJ,rfl,rfl⟩ | ⟨ku,xn,yd,CX,wm,rfl,rfl⟩
 ·refine aa ?_
  refine VS.aQ rfl (decide_eq_false (fun e=>hlt (Int.ofNat_lt.1 e))) ?_
  have LK:z=N:=by omega
  rw [LK,show l.take N=l from List.take_of_length_le ab] at jY mj sJ QG pj
  rw [LK]
  clear LK hlt hz jB
  refine aa ?_
  obtain ⟨LF,QI⟩:∃ LF,(runT S.q F.q kn (cj l)).left=LF:=⟨_,rfl⟩
  obtain ⟨RW,GF⟩:∃ RW,(runT S.q F.q kn (cj l)).rows=RW:=⟨_,rfl⟩
  obtain ⟨US,QJ⟩:∃ US,(runT S.q F.q kn (cj l)).uses=US:=⟨_,rfl⟩
  have hled:Fo S.q F.q kn (cj l)=(dL (bI 0 (LF.drop 0)) RW,US):=by
   unfold Fo
   rw [QI,GF,QJ];rfl
  rw [hled]
  obtain ⟨RES,UR⟩:∃ RES,dL (bI 0 (LF.drop 0)) RW=RES:=⟨_,rfl⟩
  rw [UR]
  rw [QI] at jY
  rw [GF] at mj
  rw [QJ] at sJ
  refine VS.loop (J:=fun m L M w'=>∃ (v:Nat) (kM:List (List Value)) (rows:List aM),v≤N/\m=N - v/\iy (FU 82) 28 w' N cr kM nH rows/\dL (bI v (LF.drop v)) rows=RES/\Kp UU wJ w'/\L=[(4,.box 4 0),(6,.box 6 0),(8,.row 115 0 N cl),(18,.val (.int .i64 (v:Int)))]/\M=[(4,(64,[.val (.slice none 0 0),.val (.slice none 0 0)])),(6,(64,[.row 129 0 N cr,.val (.slice none 0 0)])),(115,(55,CA.flatten.map .val++Ak)),(129,(108,kM.flatten.map .val++nH))]) N ⟨_,_,?_,?_,?_,?_,⟨0,kM,RW,by omega,rfl,mj.kp (cH 82) aU,UR,aU,rfl,rfl⟩⟩ ?_
  ·exact cd
  ·exact cd
  ·rfl
  ·exact ⟨.lit rfl,.lit rfl,jY.iU,mj.iU,trivial⟩
  clear mj
  rintro m L M wL1 ⟨v,kM,rows,hv,rfl,mj,iI,kV,rfl,rfl⟩
  refine aa ?_
  by_cases mQ:v < N
  ·obtain ⟨rx,Ov⟩:∃ r,rows[v]? =some r:=⟨_,List.getElem?_eq_getElem (by have:=mj.len;omega)⟩
   obtain ⟨lx,mr⟩:∃ x,LF[v]? =some x:=⟨_,List.getElem?_eq_getElem (by have:=jY.len;omega)⟩
   obtain ⟨yA,qB,ui,CD,hcell⟩:=mj.cell (cH 82) Ov
   obtain ⟨yD,yG,yH,yI,yJ,yK,yL,yM,yO,yP,yQ,yR,yT,yU,yV,yW,yX,yY,yZ,za,zb,zc,zd,ze,zf,zg,zh,zi,zj,zl,zm,zn,zo,zp,zt,zu,zv,zw,zx,zy,FV,FX,FY,Ga,Gb,Gc,Gd,Ge,Gf,Gg,Gh,Gi,Gj,Gk,Gl,Gm,rfl,x0,x1,x2,x3,x4,x5,x6⟩:=ui.opn
   obtain ⟨csl,hcsl,QR,hll2,qa⟩:=jY.cell (bm 82) mr
   obtain ⟨CY,CZ,Da,Db,Dc,Dd,De,del,rfl,xl⟩:=QR.opn
   refine VS.aP rfl (decide_eq_true (Int.ofNat_lt.2 mQ)) ?_
   refine aa ?_
   refine VO.cond rfl dw ?_
   refine wV rfl ?_
   refine aa ?_
   refine VO.cW rfl (([.bool yD,.slice yG yH yI,.bool yJ,.slice yK yL yM,.bool yO,.slice yP yQ yR,.bool yT,.slice yU yV yW,.bool yX,.slice yY yZ za,.bool zb,.slice zc zd ze,.bool zf,.slice zg zh zi,.bool zj,.slice zl zm zn,.bool zo,.slice zp zt zu,.bool zv,.slice zw zx zy,.bool FV,.slice FX FY Ga,.bool Gb,.slice Gc Gd Ge,.bool Gf,.slice Gg Gh Gi,.bool Gj,.slice Gk Gl Gm]:List Value).map .val) rfl (hcell 0 _ ⟨[],rfl⟩) (wV rfl ?_)
   refine aa ?_
   refine VO.cond rfl dw ?_
   refine wV rfl ?_
   refine aa ?_
   refine VO.cW rfl (([.bool CY,.slice CZ Da Db,.bool Dc,.slice Dd De del]:List Value).map .val) rfl (qa 0 _ ⟨[],rfl⟩) (wV rfl ?_)
   refine aa ?_
   refine VO.cond rfl dw ?_
   refine wV rfl ?_
   refine aa ?_
   refine VO.cond rfl (by show 0 + ((v:Int)).toNat * 28 + 28≤_;rw [mj.fl,Int.toNat_natCast];have:=mj.le;omega) (VO.dI 129 rfl (iX (new:=[.bool yD,.slice yG yH yI,.bool yJ,.slice yK yL yM,.bool yO,.slice yP yQ yR,.bool yT,.slice yU yV yW,.bool yX,.slice yY yZ za,.bool zb,.slice zc zd ze,.bool zf,.slice zg zh zi,.bool zj,.slice zl zm zn,.bool zo,.slice zp zt zu,.bool zv,.slice zw zx zy,.bool FV,.slice FX FY Ga,.bool Gb,.slice Gc Gd Ge,.bool CY,.slice CZ Da Db,.bool Dc,.slice Dd De del]) (mj.el.lens (cH 82)) (by rw [mj.el.len,<-mj.len];omega) rfl) (wV rfl ?_))
   refine aa ?_
   have UW:=mj.set (cH 82) (i:=v) (w':=wL1) (kR _) (cs:=[.bool yD,.slice yG yH yI,.bool yJ,.slice yK yL yM,.bool yO,.slice yP yQ yR,.bool yT,.slice yU yV yW,.bool yX,.slice yY yZ za,.bool zb,.slice zc zd ze,.bool zf,.slice zg zh zi,.bool zj,.slice zl zm zn,.bool zo,.slice zp zt zu,.bool zv,.slice zw zx zy,.bool FV,.slice FX FY Ga,.bool Gb,.slice Gc Gd Ge,.bool CY,.slice CZ Da Db,.bool Dc,.slice Dd De del]) (a:={ rx with closing:=lx }) ⟨[.bool yD,.slice yG yH yI,.bool yJ,.slice yK yL yM],[.bool yO,.slice yP yQ yR,.bool yT,.slice yU yV yW],[.bool yX,.slice yY yZ za,.bool zb,.slice zc zd ze],[.bool zf,.slice zg zh zi,.bool zj,.slice zl zm zn],[.bool zo,.slice zp zt zu,.bool zv,.slice zw zx zy],[.bool FV,.slice FX FY Ga,.bool Gb,.slice Gc Gd Ge],[.bool CY,.slice CZ Da Db,.bool Dc,.slice Dd De del],rfl,x0,x1,x2,x3,x4,x5,(bm 82).kp xl kV⟩
   refine VS.back (N - (v + 1)) ab ⟨_,_,?_,?_,?_,?_,⟨v + 1,_,rows.set v { rx with closing:=lx },by omega,rfl,UW,?_,kV,rfl,rfl⟩⟩
   ·refine ⟨rfl,rfl,rfl,?_,trivial⟩
    rw [<-aF (i:=v) ab];rfl
   ·exact cd
   ·rfl
   ·exact ⟨.lit rfl,.lit rfl,jY.iU,UW.iU,trivial⟩
   ·rw [<-iI,yj mr,ew Ov]
  ·refine VS.aQ rfl (decide_eq_false (fun e=>mQ (Int.ofNat_lt.1 e))) ?_
   have hvN:v=N:=by omega
   rw [hvN,List.drop_of_length_le (by have:=jY.len;omega)] at iI
   replace iI:rows=RES:=iI
   rw [iI] at mj
   refine aa ?_
   refine VS.lp (cK _ _) rfl (fun wz β kz bz en=> ?_)
   exact ⟨_,_,rfl,mj.new (cH 82) (en.own 129 _ _ rfl) kz,.inl ⟨rfl,sJ⟩,bz⟩
 ·refine aa ?_
  refine VS.aQ rfl (decide_eq_false (fun e=>hlt (Int.ofNat_lt.1 e))) ?_
  have LK:z=N:=by omega
  rw [LK,show l.take N=l from List.take_of_length_le ab] at jY mj wm QG pj
  rw [LK]
  clear LK hlt hz jB
  refine aa ?_
  obtain ⟨LF,QI⟩:∃ LF,(runT S.q F.q kn (cj l)).left=LF:=⟨_,rfl⟩
  obtain ⟨RW,GF⟩:∃ RW,(runT S.q F.q kn (cj l)).rows=RW:=⟨_,rfl⟩
  obtain ⟨US,QJ⟩:∃ US,(runT S.q F.q kn (cj l)).uses=US:=⟨_,rfl⟩
  have hled:Fo S.q F.q kn (cj l)=(dL (bI 0 (LF.drop 0)) RW,US):=by
   unfold Fo
   rw [QI,GF,QJ];rfl
  rw [hled]
  obtain ⟨RES,UR⟩:∃ RES,dL (bI 0 (LF.drop 0)) RW=RES:=⟨_,rfl⟩
  rw [UR]
  rw [QI] at jY
  rw [GF] at mj
  rw [QJ] at wm
  refine VS.loop (J:=fun m L M w'=>∃ (v:Nat) (kM:List (List Value)) (rows:List aM),v≤N/\m=N - v/\iy (FU 82) 28 w' N cr kM nH rows/\dL (bI v (LF.drop v)) rows=RES/\Kp UU wJ w'/\L=[(4,.box 4 0),(6,.box 6 0),(8,.row 115 0 N cl),(18,.val (.int .i64 (v:Int)))]/\M=[(4,(64,[.val (.slice none 0 0),.val (.slice none 0 0)])),(6,(64,[.row 129 0 N cr,.row 95 0 ku CX])),(115,(55,CA.flatten.map .val++Ak)),(129,(108,kM.flatten.map .val++nH)),(95,(106,xn.flatten.map .val++yd))]) N ⟨_,_,?_,?_,?_,?_,⟨0,kM,RW,by omega,rfl,mj.kp (cH 82) aU,UR,aU,rfl,rfl⟩⟩ ?_
  ·exact cd
  ·exact cd
  ·rfl
  ·exact ⟨.lit rfl,.lit rfl,jY.iU,mj.iU,wm.iU,trivial⟩
  clear mj
  rintro m L M wL1 ⟨v,kM,rows,hv,rfl,mj,iI,kV,rfl,rfl⟩
  refine aa ?_
  by_cases mQ:v < N
  ·obtain ⟨rx,Ov⟩:∃ r,rows[v]? =some r:=⟨_,List.getElem?_eq_getElem (by have:=mj.len;omega)⟩
   obtain ⟨lx,mr⟩:∃ x,LF[v]? =some x:=⟨_,List.getElem?_eq_getElem (by have:=jY.len;omega)⟩
   obtain ⟨yA,qB,ui,CD,hcell⟩:=mj.cell (cH 82) Ov
   obtain ⟨yD,yG,yH,yI,yJ,yK,yL,yM,yO,yP,yQ,yR,yT,yU,yV,yW,yX,yY,yZ,za,zb,zc,zd,ze,zf,zg,zh,zi,zj,zl,zm,zn,zo,zp,zt,zu,zv,zw,zx,zy,FV,FX,FY,Ga,Gb,Gc,Gd,Ge,Gf,Gg,Gh,Gi,Gj,Gk,Gl,Gm,rfl,x0,x1,x2,x3,x4,x5,x6⟩:=ui.opn
   obtain ⟨csl,hcsl,QR,hll2,qa⟩:=jY.cell (bm 82) mr
   obtain ⟨CY,CZ,Da,Db,Dc,Dd,De,del,rfl,xl⟩:=QR.opn
   refine VS.aP rfl (decide_eq_true (Int.ofNat_lt.2 mQ)) ?_
   refine aa ?_
   refine VO.cond rfl dw ?_
   refine wV rfl ?_
   refine aa ?_
   refine VO.cW rfl (([.bool yD,.slice yG yH yI,.bool yJ,.slice yK yL yM,.bool yO,.slice yP yQ yR,.bool yT,.slice yU yV yW,.bool yX,.slice yY yZ za,.bool zb,.slice zc zd ze,.bool zf,.slice zg zh zi,.bool zj,.slice zl zm zn,.bool zo,.slice zp zt zu,.bool zv,.slice zw zx zy,.bool FV,.slice FX FY Ga,.bool Gb,.slice Gc Gd Ge,.bool Gf,.slice Gg Gh Gi,.bool Gj,.slice Gk Gl Gm]:List Value).map .val) rfl (hcell 0 _ ⟨[],rfl⟩) (wV rfl ?_)
   refine aa ?_
   refine VO.cond rfl dw ?_
   refine wV rfl ?_
   refine aa ?_
   refine VO.cW rfl (([.bool CY,.slice CZ Da Db,.bool Dc,.slice Dd De del]:List Value).map .val) rfl (qa 0 _ ⟨[],rfl⟩) (wV rfl ?_)
   refine aa ?_
   refine VO.cond rfl dw ?_
   refine wV rfl ?_
   refine aa ?_
   refine VO.cond rfl (by show 0 + ((v:Int)).toNat * 28 + 28≤_;rw [mj.fl,Int.toNat_natCast];have:=mj.le;omega) (VO.dI 129 rfl (iX (new:=[.bool yD,.slice yG yH yI,.bool yJ,.slice yK yL yM,.bool yO,.slice yP yQ yR,.bool yT,.slice yU yV yW,.bool yX,.slice yY yZ za,.bool zb,.slice zc zd ze,.bool zf,.slice zg zh zi,.bool zj,.slice zl zm zn,.bool zo,.slice zp zt zu,.bool zv,.slice zw zx zy,.bool FV,.slice FX FY Ga,.bool Gb,.slice Gc Gd Ge,.bool CY,.slice CZ Da Db,.bool Dc,.slice Dd De del]) (mj.el.lens (cH 82)) (by rw [mj.el.len,<-mj.len];omega) rfl) (wV rfl ?_))
   refine aa ?_
   have UW:=mj.set (cH 82) (i:=v) (w':=wL1) (kR _) (cs:=[.bool yD,.slice yG yH yI,.bool yJ,.slice yK yL yM,.bool yO,.slice yP yQ yR,.bool yT,.slice yU yV yW,.bool yX,.slice yY yZ za,.bool zb,.slice zc zd ze,.bool zf,.slice zg zh zi,.bool zj,.slice zl zm zn,.bool zo,.slice zp zt zu,.bool zv,.slice zw zx zy,.bool FV,.slice FX FY Ga,.bool Gb,.slice Gc Gd Ge,.bool CY,.slice CZ Da Db,.bool Dc,.slice Dd De del]) (a:={ rx with closing:=lx }) ⟨[.bool yD,.slice yG yH yI,.bool yJ,.slice yK yL yM],[.bool yO,.slice yP yQ yR,.bool yT,.slice yU yV yW],[.bool yX,.slice yY yZ za,.bool zb,.slice zc zd ze],[.bool zf,.slice zg zh zi,.bool zj,.slice zl zm zn],[.bool zo,.slice zp zt zu,.bool zv,.slice zw zx zy],[.bool FV,.slice FX FY Ga,.bool Gb,.slice Gc Gd Ge],[.bool CY,.slice CZ Da Db,.bool Dc,.slice Dd De del],rfl,x0,x1,x2,x3,x4,x5,(bm 82).kp xl kV⟩
   refine VS.back (N - (v + 1)) ab ⟨_,_,?_,?_,?_,?_,⟨v + 1,_,rows.set v { rx with closing:=lx },by omega,rfl,UW,?_,kV,rfl,rfl⟩⟩
   ·refine ⟨rfl,rfl,rfl,?_,trivial⟩
    rw [<-aF (i:=v) ab];rfl
   ·exact cd
   ·rfl
   ·exact ⟨.lit rfl,.lit rfl,jY.iU,UW.iU,wm.iU,trivial⟩
   ·rw [<-iI,yj mr,ew Ov]
  ·refine VS.aQ rfl (decide_eq_false (fun e=>mQ (Int.ofNat_lt.1 e))) ?_
   have hvN:v=N:=by omega
   rw [hvN,List.drop_of_length_le (by have:=jY.len;omega)] at iI
   replace iI:rows=RES:=iI
   rw [iI] at mj
   refine aa ?_
   refine VS.lp (cK _ _) rfl (fun wz β kz bz en=> ?_)
   exact ⟨_,_,rfl,mj.new (cH 82) (en.own 129 _ _ rfl) kz,wm.new (iW 82) (en.own 95 _ _ rfl) aU,bz⟩
set_option maxRecDepth 4000
theorem cO.mapF {α β:Type} {E:World->List Value->α->Prop} {sz:Nat} {w:World} {v:Value} {es:List β} (f:β->α) (h:cO (fun w cs b=>E w cs (f b)) sz w v es):cO E sz w v (es.map f):=by
 obtain ⟨p,c,rfl,h1,h2,h3⟩:=h
 refine ⟨p,c,by rw [List.length_map],by rw [List.length_map];exact h1,h2,fun i a ha=> ?_⟩
 rw [List.getElem?_map] at ha
 obtain ⟨b,hb,rfl⟩:=Option.map_eq_some_iff.1 ha
 exact h3 i b hb
theorem led_ref {B B':Nat} {w:World} {r u:Value} {x:List aM×List Uq} (h:iw (FU 82) 28 108 B w r x.1) (k:iw (LY 82) 6 106 B' w u x.2):mL 82 w r u (rO x):=
 ⟨(h.sl (cH 82)).mapF Uf,(k.sl (iW 82)).mapF Ug⟩
def rQ (S F:RR) (keep:Int) (l:List (RR×RR)) (X:List ed×List dD):Bool:=vR S F keep l && iV X (rO (qw S.q F.q keep.toNat (cj l)))
theorem Es {P Q:Prop} (h:Q) (i:Q->P:=by intro h;exact VS.ret (LO _ _) rfl rfl h):P:=i h
set_option maxRecDepth 4000 in
theorem Mn (v u r x':Value) (S F:RR) (keep:Int) (l:List (RR×RR)) (X:List ed×List dD) (w:World) (hR:fN w v S F keep) (hS:S.jF 3) (hF:F.jF 3) (hl:cO (si 3) 8 w u l) (hX:mL 82 w r x' X) (hlen:l.length≤12\/40 < l.length) (ek:l.length≤100000):
  Calls Tryz.prog 23 #[v,u,.agg #[r,x']] w fun o w'=>o=.returned (.bool (rQ S F keep l X))/\aL w w':=by
 obtain ⟨Oo,Oq⟩:=hX
 obtain ⟨p1,c1,rfl,jS,hm1⟩:=Oo.form
 obtain ⟨p2,c2,rfl,iB,DW⟩:=Oq.form
 obtain ⟨uq,uc,rfl,Qy,hum⟩:=hl.form
 obtain ⟨sp,sc,sr,sd,fp,fc,fr,fd,rfl,JP,JQ⟩:=hR
 have hR:fN w (.agg #[.bool S.1,.slice sp S.2.1.length sc,.bool S.2.2.1,.slice sr S.2.2.2.length sd,.bool F.1,.slice fp F.2.1.length fc,.bool F.2.2.1,.slice fr F.2.2.2.length fd,.int .i64 keep]) S F keep:=⟨_,_,_,_,_,_,_,_,rfl,JP,JQ⟩
 obtain ⟨N,hN⟩:∃ N,N=l.length:=⟨_,rfl⟩
 rw [<-hN] at hl Qy
 rw [<-hN]
 refine ag (C:=CW Tryz.prog w _) (args:=[_,_,_]) Tryz.func23 rfl Tryz.ntmps23 (bu rfl) ?_
 refine dC ?_
 cases fI:vR S F keep l with
 | false=>
   obtain ⟨c,hc⟩:∃ c,lT S F keep l=c:=⟨_,rfl⟩
   have Nh:c≠0:=hc▸Cg S F keep l
   refine VO.call rfl rfl (fk Tryz.func11) (fun bD cQ bG=>(iRun_no _ _ S F keep l bD (hR.kp (Kp.of (U:=UU) bG)) hS hF (hl.bo (dV 3) bG) ab fI c hc).mono ?_)
   rintro e w1 ⟨rfl,aI⟩
   skip
   refine ⟨_,rfl,aI,fun dt _ bb1=>wV rfl ?_⟩
   refine dC ?_
   refine VO.fix 17 rfl (congrArg (fun b=>AV.val (.bool b)) (Jh Nh)) ?_
   refine dC ?_
   refine Es ?_;intro wz kz bz
   exact ⟨by unfold rQ;rw [fI];rfl,bz⟩
 | true=>
   have hf:=yi fI
   have AA:=hf.k0
   have DI:=hf.k1
   have hN12:N≤12:=by have:=hf.len;omega
   obtain ⟨kn,rfl⟩:∃ kn:Nat,keep=(kn:Int):=⟨keep.toNat,by omega⟩
   have hM:=Ch hR hS hF hl hf ab
   have hsz:=led_sz (kn:=kn) hM
   refine VO.call rfl rfl (fk Tryz.func11) (fun bD cQ bG=>(Uu _ _ S F (kn:Int) kn l bD (hR.kp (Kp.of (U:=UU) bG)) hS hF (hl.bo (dV 3) bG) hf ab rfl).mono ?_)
   rintro e w1 ⟨r1,u1,rfl,l1,aI⟩
   obtain ⟨pr,cr,pu,cu,rfl,rfl⟩:=l1.form
   refine ⟨_,rfl,aI,fun dt _ bb1=>wV rfl ?_⟩
   refine dC ?_
   obtain ⟨x,hx⟩:∃ x,qw S.q F.q kn (cj l)=x:=⟨_,rfl⟩
   have hkb:rQ S F (kn:Int) l X=(Gz ed.q X.1 (rO x).1 && Gz dD.q X.2 (rO x).2):=by
    unfold rQ
    rw [fI,Int.toNat_natCast,hx];rfl
   rw [hkb]
   rw [hx] at l1 hsz ⊢
   have e1:(rO x).1.length=x.1.length:=List.length_map _
   have e2:(rO x).2.length=x.2.length:=List.length_map _
   cases h1:Gz ed.q X.1 (rO x).1 with
   | false=>
     refine VO.call rfl rfl (fk Tryz.func55) (fun cG dQ cV=>(JJ _ _ X.1 (rO x).1 82 cG (Oo.bo (dH 82) cV) ((l1.kpF (xu _ _) dQ dQ.qo).inI hsz).1 ab false h1).mono ?_)
     rintro e w2 ⟨rfl,ba⟩
     skip
     refine ⟨_,rfl,ba,fun dR _ bb2=>wV rfl ?_⟩
     refine dC ?_
     refine Es ?_;intro wz kz bz
     exact ⟨rfl,bz⟩
   | true=>
     refine VO.call rfl rfl (fk Tryz.func55) (fun cG dQ cV=>(JJ _ _ X.1 (rO x).1 82 cG (Oo.bo (dH 82) cV) ((l1.kpF (xu _ _) dQ dQ.qo).inI hsz).1 ab true h1).mono ?_)
     rintro e w2 ⟨rfl,ba⟩
     skip
     refine ⟨_,rfl,ba,fun dR _ bb2=>wV rfl ?_⟩
     refine dC ?_
     obtain ⟨b2,h2⟩:∃ b,Gz dD.q X.2 (rO x).2=b:=⟨_,rfl⟩
     rw [h2]
     refine VO.call rfl rfl (fk Tryz.func57) (fun eX fF fM=>(UA _ _ X.2 (rO x).2 82 eX (Oq.bo (eH 82) fM) ((l1.kpF (xu _ _) (dR.aN fF) (dR.aN fF).qo).inI hsz).2 ab b2 h2).mono ?_)
     rintro e w3 ⟨rfl,cC⟩
     skip
     refine ⟨_,rfl,cC,fun gZ _ bb3=>wV rfl ?_⟩
     refine dC ?_
     refine Es ?_;intro wz kz bz
     exact ⟨rfl,bz⟩
theorem QK (v u r x':Value) (S F:RR) (keep:Int) (l:List (RR×RR)) (X:List ed×List dD) (w:World) (hR:fN w v S F keep) (hS:S.jF 3) (hF:F.jF 3) (hl:cO (si 3) 8 w u l) (hX:mL 82 w r x' X) (hlen:l.length≤12\/40 < l.length) (ek:l.length≤100000) (b:Bool) (hb:rQ S F keep l X=b):
 Calls Tryz.prog 23 #[v,u,.agg #[r,x']] w fun o w'=>o=.returned (.bool b)/\aL w w':=hb▸Mn v u r x' S F keep l X w hR hS hF hl hX hlen ek
set_option maxRecDepth 4000 in
theorem QL (v u:Value) (S F:RR) (keep:Int) (l:List (RR×RR)) (w:World) (hR:fN w v S F keep) (hS:S.jF 3) (hF:F.jF 3) (hl:cO (si 3) 8 w u l) (hlen:l.length≤100000) (hno:vR S F keep l=false) (c:Int) (hc:lT S F keep l=c):
  Calls Tryz.prog 20 #[v,u] w fun o w'=>o=.returned (.tuple #[.agg #[.slice none 0 0,.slice none 0 0],.int .i64 c])/\aL w w':=by
 obtain ⟨Ma,Mb,Mc,Md,GA,GB,GC,GD,rfl,sW,hfr⟩:=hR
 obtain ⟨pu,cu,rfl,Qy,hum⟩:=hl.form
 have hR0:fN w (.agg #[.bool S.1,.slice Ma S.2.1.length Mb,.bool S.2.2.1,.slice Mc S.2.2.2.length Md,.bool F.1,.slice GA F.2.1.length GB,.bool F.2.2.1,.slice GC F.2.2.2.length GD,.int .i64 keep]) S F keep:=⟨_,_,_,_,_,_,_,_,rfl,sW,hfr⟩
 obtain ⟨N,hN⟩:∃ N,N=l.length:=⟨_,rfl⟩
 rw [<-hN] at hl Qy hlen
 rw [<-hN]
 subst hc
 refine ag (C:=bP Tryz.prog w _) (args:=[_,_]) Tryz.func20 rfl Tryz.ntmps20 (bu rfl) ?_
 refine aa ?_
 cases h:(dW S F keep && l.all fO) with
 | false=>
   refine VO.call rfl rfl (fk Tryz.func47) (fun LQ ka41 FK=>(Cm _ _ S F keep l 3 LQ (hR0.kp (Kp.of (U:=UU) FK)) hS hF (hl.bo (dV 3) FK) ab ab false h).mono ?_)
   rintro e w41 ⟨rfl,LR⟩
   skip
   refine ⟨_,rfl,LR,fun kb41 _ bb41=>wV rfl ?_⟩
   refine aa ?_
   refine aR ?_;intro wz kz bz
   exact ⟨by unfold lT;rw [h];rfl,bz⟩
 | true=>
   have hN40:N > 40:=by
    unfold vR at hno
    rw [h] at hno
    have:¬ l.length≤40:=by simpa using hno
    omega
   refine VO.call rfl rfl (fk Tryz.func47) (fun LQ ka41 FK=>(Cm _ _ S F keep l 3 LQ (hR0.kp (Kp.of (U:=UU) FK)) hS hF (hl.bo (dV 3) FK) ab ab true h).mono ?_)
   rintro e w41 ⟨rfl,LR⟩
   skip
   refine ⟨_,rfl,LR,fun kb41 _ bb41=>wV rfl ?_⟩
   refine aa ?_
   refine VS.aP rfl (decide_eq_true (show (N:Int) > 40 by omega)) ?_
   refine aa ?_
   refine aR ?_;intro wz kz bz
   exact ⟨by unfold lT;rw [h];rfl,bz⟩
set_option maxRecDepth 4000 in
theorem Gp (v u r x':Value) (S F:RR) (keep:Int) (l:List (RR×RR)) (X:List ed×List dD) (w:World) (hR:fN w v S F keep) (hS:S.jF 3) (hF:F.jF 3) (hl:cO (si 3) 8 w u l) (hX:mL 82 w r x' X) (hlen:l.length≤12\/40 < l.length) (ek:l.length≤100000):
  Calls Tryz.prog 29 #[v,u,.agg #[r,x']] w fun o w'=>o=.returned (.bool (rQ S F keep l X))/\aL w w':=by
 obtain ⟨Oo,Oq⟩:=hX
 obtain ⟨p1,c1,rfl,jS,hm1⟩:=Oo.form
 obtain ⟨p2,c2,rfl,iB,DW⟩:=Oq.form
 obtain ⟨uq,uc,rfl,Qy,hum⟩:=hl.form
 obtain ⟨sp,sc,sr,sd,fp,fc,fr,fd,rfl,JP,JQ⟩:=hR
 have hR:fN w (.agg #[.bool S.1,.slice sp S.2.1.length sc,.bool S.2.2.1,.slice sr S.2.2.2.length sd,.bool F.1,.slice fp F.2.1.length fc,.bool F.2.2.1,.slice fr F.2.2.2.length fd,.int .i64 keep]) S F keep:=⟨_,_,_,_,_,_,_,_,rfl,JP,JQ⟩
 obtain ⟨N,hN⟩:∃ N,N=l.length:=⟨_,rfl⟩
 rw [<-hN] at hl Qy
 rw [<-hN]
 refine ag (C:=CW Tryz.prog w _) (args:=[_,_,_]) Tryz.func29 rfl Tryz.ntmps29 (bu rfl) ?_
 refine dC ?_
 cases fI:vR S F keep l with
 | false=>
   obtain ⟨c,hc⟩:∃ c,lT S F keep l=c:=⟨_,rfl⟩
   have Nh:c≠0:=hc▸Cg S F keep l
   refine VO.call rfl rfl (fk Tryz.func20) (fun bD cQ bG=>(QL _ _ S F keep l bD (hR.kp (Kp.of (U:=UU) bG)) hS hF (hl.bo (dV 3) bG) ab fI c hc).mono ?_)
   rintro e w1 ⟨rfl,aI⟩
   skip
   refine ⟨_,rfl,aI,fun dt _ bb1=>wV rfl ?_⟩
   refine dC ?_
   refine VO.fix 17 rfl (congrArg (fun b=>AV.val (.bool b)) (Jh Nh)) ?_
   refine dC ?_
   refine Es ?_;intro wz kz bz
   exact ⟨by unfold rQ;rw [fI];rfl,bz⟩
 | true=>
   have hf:=yi fI
   have AA:=hf.k0
   have hN12:N≤12:=by have:=hf.len;omega
   obtain ⟨kn,rfl⟩:∃ kn:Nat,keep=(kn:Int):=⟨keep.toNat,by omega⟩
   refine VO.call rfl rfl (fk Tryz.func20) (fun bD cQ bG=>(LZ _ _ S F (kn:Int) kn l bD (hR.kp (Kp.of (U:=UU) bG)) hS hF (hl.bo (dV 3) bG) hf ab rfl).mono ?_)
   rintro e w1 ⟨r1,u1,rfl,l1,l2,aI⟩
   obtain ⟨pr,cr,rfl⟩:=l1.form
   obtain ⟨pu,cu,rfl⟩:=l2.form
   refine ⟨_,rfl,aI,fun dt _ bb1=>wV rfl ?_⟩
   refine dC ?_
   obtain ⟨x,hx⟩:∃ x,qw S.q F.q kn (cj l)=x:=⟨_,rfl⟩
   have hkb:rQ S F (kn:Int) l X=iV X (rO x):=by
    unfold rQ
    rw [fI,Int.toNat_natCast,hx];rfl
   rw [hkb]
   rw [<-Fp,hx] at l1 l2 ⊢
   obtain ⟨b2,h2⟩:∃ b,iV X (rO x)=b:=⟨_,rfl⟩
   rw [h2]
   refine VO.call rfl rfl (fk Tryz.func21) (fun cG dQ cV=>(QD _ _ _ _ X (rO x) 82 cG ⟨Oo.bo (dH 82) cV,Oq.bo (eH 82) cV⟩ (led_ref (l1.kp (cH 82) dQ rfl) (l2.kp (iW 82) dQ rfl)) ab b2 h2).mono ?_)
   rintro e w2 ⟨rfl,ba⟩
   skip
   refine ⟨_,rfl,ba,fun dR _ bb2=>wV rfl ?_⟩
   refine dC ?_
   refine Es ?_;intro wz kz bz
   exact ⟨rfl,bz⟩
theorem JR (v u r x':Value) (S F:RR) (keep:Int) (l:List (RR×RR)) (X:List ed×List dD) (w:World) (hR:fN w v S F keep) (hS:S.jF 3) (hF:F.jF 3) (hl:cO (si 3) 8 w u l) (hX:mL 82 w r x' X) (hlen:l.length≤12\/40 < l.length) (ek:l.length≤100000) (b:Bool) (hb:rQ S F keep l X=b):
 Calls Tryz.prog 29 #[v,u,.agg #[r,x']] w fun o w'=>o=.returned (.bool b)/\aL w w':=hb▸Gp v u r x' S F keep l X w hR hS hF hl hX hlen ek
set_option maxRecDepth 4000
def Cq (r:ed):Bool:=r.l.all vQ
theorem Mo {l:List ed} {z:Nat} {e:ed} (he:l[z]? =some e) (h:(l.take z).all Cq=true) (hw:Cq e=true):(l.take (z + 1)).all Cq=true:=by
 rw [bS he,List.all_append,h];simp [hw]
theorem JS {l:List dD} {z:Nat} {e:dD} (he:l[z]? =some e) (h:((l.take z).all fun e=>vQ e.2.2)=true) (hw:vQ e.2.2=true):((l.take (z + 1)).all fun e=>vQ e.2.2)=true:=by
 rw [bS he,List.all_append,h];simp [hw]
theorem lU {x:RR} (h:vQ x=true):x.jF 3:=by
 unfold vQ at h
 rw [Bool.and_eq_true,decide_eq_true_iff,decide_eq_true_iff] at h
 exact h
theorem UX {l:List ed} {kk:Nat} {w:World} {v:Value} (h:l.all Cq=true) (hv:cO (lS kk) 28 w v l):cO (lS 3) 28 w v l:=hv.mono fun i a cs ha hE=>by
 have hs:=List.all_eq_true.1 h a (List.mem_of_getElem? ha)
 unfold Cq ed.l at hs
 simp only [List.all_cons,List.all_nil,Bool.and_true,Bool.and_eq_true] at hs
 obtain ⟨f0,f1,f2,f3,f4,f5,f6⟩:=hs
 obtain ⟨x0,x1,x2,x3,x4,x5,x6,rfl,g0,g1,g2,g3,g4,g5,g6⟩:=hE
 exact ⟨_,_,_,_,_,_,_,rfl,⟨g0.1,lU f0⟩,⟨g1.1,lU f1⟩,⟨g2.1,lU f2⟩,⟨g3.1,lU f3⟩,⟨g4.1,lU f4⟩,⟨g5.1,lU f5⟩,⟨g6.1,lU f6⟩⟩
theorem uses_sl {l:List dD} {kk:Nat} {w:World} {v:Value} (h:(l.all fun e=>vQ e.2.2)=true) (hv:cO (na kk) 6 w v l):cO (na 3) 6 w v l:=hv.mono fun i a cs ha hE=>by
 have hs:=List.all_eq_true.1 h a (List.mem_of_getElem? ha)
 obtain ⟨x,rfl,g⟩:=hE
 exact ⟨x,rfl,g.1,lU hs⟩
theorem sumz {us:List dD} {kk:Nat} {w:World} {v:Value} {vt:Int} (h:cO (na kk) 6 w v us):∀ z,z≤us.length->((us.take z).all fun e=>vQ e.2.2)=true->et (jT ((us.take z).map (fun e=>pq (decide (e.1=vt)) e.2.2))) (eu 3 z):=fun z=>by
 induction z with
 | zero=>exact fun _ _=>et.zero.mono (by unfold eu;omega)
 | succ z ih=>
   intro hz ha
   obtain ⟨e,he⟩:∃ e,us[z]? =some e:=⟨_,List.getElem?_eq_getElem ab⟩
   rw [bS he,List.all_append,Bool.and_eq_true] at ha
   rw [kN _ he,rE]
   refine (ih ab ha.1).add ?_
   obtain ⟨cs,hcs⟩:=h.rws e (List.mem_of_getElem? he)
   unfold pq
   split
   ·exact RR.sz (kk:=3) ⟨hcs.1,lU (by simpa using ha.2)⟩
   ·exact et.zero.mono (by unfold fj;omega)
theorem kk_up {z:Nat} (h:z≤100):eu 3 z≤1000000:=by
 have:=xf (k:=3) h
 have h2:eu 3 100≤1000000:=by decide
 omega
set_option maxRecDepth 4000 in
theorem JT (v u r x':Value) (S F:RR) (keep vt:Int) (l:List (RR×RR)) (X:List ed×List dD) (kk kj:Nat) (w:World) (hR:fN w v S F keep) (hl:cO (si kk) 8 w u l) (hX:mL kj w r x' X):
  Calls Tryz.prog 6 #[v,u,.agg #[r,x'],.int .i64 vt] w fun o w'=>o=.returned (.bool true)/\aL w w':=by
 obtain ⟨rp,rc,rfl,hrc,hrm⟩:=hX.1.form
 obtain ⟨up,uc2,rfl,huc2,hum2⟩:=hX.2.form
 obtain ⟨uq,uc,rfl,Qy,hum⟩:=hl.form
 obtain ⟨sp,sc,sr,sd,fp,fc,fr,fd,rfl,JP,JQ⟩:=hR
 have hR:fN w (.agg #[.bool S.1,.slice sp S.2.1.length sc,.bool S.2.2.1,.slice sr S.2.2.2.length sd,.bool F.1,.slice fp F.2.1.length fc,.bool F.2.2.1,.slice fr F.2.2.2.length fd,.int .i64 keep]) S F keep:=⟨_,_,_,_,_,_,_,_,rfl,JP,JQ⟩
 obtain ⟨K,hK⟩:∃ K,K=l.length:=⟨_,rfl⟩
 obtain ⟨N,hN⟩:∃ N,N=X.1.length:=⟨_,rfl⟩
 obtain ⟨n,hn⟩:∃ n,n=X.2.length:=⟨_,rfl⟩
 obtain ⟨Oo,Oq⟩:=hX
 rw [<-hK] at hl Qy
 rw [<-hN] at Oo hrc
 rw [<-hn] at Oq huc2
 rw [<-hK,<-hN,<-hn]
 refine ag (C:=bP Tryz.prog w _) (args:=[_,_,_,_]) Tryz.func6 rfl Tryz.ntmps6 (bu rfl) ?_
 refine aa ?_
 cases LS:nI S F l with
 | false=>
   refine VO.call rfl rfl (fk Tryz.func8) (fun bD cQ bG=>(JB _ _ S F keep l kk bD (hR.kp (Kp.of (U:=UU) bG)) (hl.bo (dV kk) bG) false LS).mono ?_)
   rintro e w1 ⟨rfl,aI⟩
   skip
   refine ⟨_,rfl,aI,fun dt _ bb1=>wV rfl ?_⟩
   refine aa ?_
   refine VO.call rfl rfl (fk Tryz.func9) (fun cG dQ cV=>(jr cG).mono ?_)
   rintro e w2 ⟨rfl,ba⟩
   skip
   refine ⟨_,rfl,ba,fun dR _ bb2=>wV rfl ?_⟩
   refine aa ?_
   refine aR ?_;intro wz kz bz
   exact ⟨rfl,bz⟩
 | true=>
 have hl3:=Ue LS hl
 have hlen:=Qs LS
 obtain ⟨hS,hF,-⟩:=Eo LS
 refine VO.call rfl rfl (fk Tryz.func8) (fun bD cQ bG=>(JB _ _ S F keep l kk bD (hR.kp (Kp.of (U:=UU) bG)) (hl.bo (dV kk) bG) true LS).mono ?_)
 rintro e w1 ⟨rfl,aI⟩
 skip
 refine ⟨_,rfl,aI,fun dt _ bb1=>wV rfl ?_⟩
 refine aa ?_
 clear hl
 have hl:=hl3
 clear hl3
 by_cases hN12:N≤12
 case neg=>
  refine VO.fix 23 rfl (congrArg (fun b=>AV.val (.bool b)) (decide_eq_true (show (N:Int) > 12 by omega))) ?_
  refine aa ?_
  refine VO.call rfl rfl (fk Tryz.func9) (fun cG dQ cV=>(jr cG).mono ?_)
  rintro e w2 ⟨rfl,ba⟩
  skip
  refine ⟨_,rfl,ba,fun dR _ bb2=>wV rfl ?_⟩
  refine aa ?_
  refine aR ?_;intro wz kz bz
  exact ⟨rfl,bz⟩
 refine VO.fix 23 rfl (congrArg (fun b=>AV.val (.bool b)) (decide_eq_false (show ¬ (N:Int) > 12 by omega))) ?_
 refine aa ?_
 by_cases hn40:n≤40
 case neg=>
  refine VS.aP rfl (decide_eq_true (show (n:Int) > 40 by omega)) ?_
  refine aa ?_
  refine VO.call rfl rfl (fk Tryz.func9) (fun cG dQ cV=>(jr cG).mono ?_)
  rintro e w2 ⟨rfl,ba⟩
  skip
  refine ⟨_,rfl,ba,fun dR _ bb2=>wV rfl ?_⟩
  refine aa ?_
  refine aR ?_;intro wz kz bz
  exact ⟨rfl,bz⟩
 refine VS.aQ rfl (decide_eq_false (show ¬ (n:Int) > 40 by omega)) ?_
 refine aa ?_
 have hsz:=sumz (vt:=vt) Oq
 refine VO.call rfl rfl (fk Tryz.func25) (fun wa0 ka0 ba0=>(nw wa0).mono ?_)
 rintro e w0 ⟨r0,rfl,q0,ou⟩
 obtain ⟨s0,p0,n0,c0,t0,y0,m0,d0,rfl⟩:=q0.form
 refine ⟨_,rfl,ou,fun kb0 _ bb0=>wV rfl ?_⟩
 refine aa ?_
 replace q0:=q0.rd
 refine VS.loop (J:=fun m L M w'=>∃ z:Nat,z≤N/\m=N - z/\(X.1.take z).all Cq=true/\Kp UU w0 w'/\L=[(1,.val (.slice uq K uc)),(3,.val (.int .i64 vt)),(4,.box 4 0),(6,.box 6 0),(9,.box 9 0),(10,.val (.int .i64 (z:Int)))]/\M=[(4,(Qi,([.bool S.1,.slice sp S.2.1.length sc,.bool S.2.2.1,.slice sr S.2.2.2.length sd,.bool F.1,.slice fp F.2.1.length fc,.bool F.2.2.1,.slice fr F.2.2.2.length fd,.int .i64 keep]:List Value).map .val)),(6,(rM,[.val (.slice rp N rc),.val (.slice up n uc2)])),(9,(55,([.bool s0,.slice p0 n0 c0,.bool t0,.slice y0 m0 d0]:List Value).map .val))]) N ⟨_,_,?_,?_,?_,?_,⟨0,by omega,rfl,rfl,aU,rfl,rfl⟩⟩ ?_
 ·exact cd
 ·exact cd
 ·rfl
 ·exact iD
 rintro m L M wJ ⟨z,hz,rfl,fY,kJ,rfl,rfl⟩
 refine aa ?_
 by_cases hlt:z < N
 ·obtain ⟨e,he⟩:∃ e,X.1[z]? =some e:=⟨_,List.getElem?_eq_getElem ab⟩
  obtain ⟨b,off,eW,fQ,hc,⟨_,_,_,_,_,_,_,rfl,⟨⟨NI,NJ,NK,NL,rfl,g0⟩,gf0⟩,⟨⟨NM,NN,NP,NQ,rfl,g1⟩,gf1⟩,⟨⟨NR,NS,NT,NU,rfl,g2⟩,gf2⟩,⟨⟨NV,NW,NX,NY,rfl,g3⟩,gf3⟩,⟨⟨NZ,Oa,Ob,Oc,rfl,g4⟩,gf4⟩,⟨⟨Od,Oe,Og,Oh,rfl,g5⟩,gf5⟩,⟨⟨Oi,Oj,Ol,Om,rfl,g6⟩,gf6⟩⟩⟩:=Oo.at he
  subst fQ
  refine VS.aP rfl (decide_eq_true (Int.ofNat_lt.2 hlt)) ?_
  refine aa ?_
  refine VO.cond rfl dw ?_
  refine wV rfl ?_
  refine aa ?_
  refine VO.read rfl [.bool e.aW.1,.slice NI e.aW.2.1.length NJ,.bool e.aW.2.2.1,.slice NK e.aW.2.2.2.length NL,.bool e.allowed.1,.slice NM e.allowed.2.1.length NN,.bool e.allowed.2.2.1,.slice NP e.allowed.2.2.2.length NQ,.bool e.aE.1,.slice NR e.aE.2.1.length NS,.bool e.aE.2.2.1,.slice NT e.aE.2.2.2.length NU,.bool e.used.1,.slice NV e.used.2.1.length NW,.bool e.used.2.2.1,.slice NX e.used.2.2.2.length NY,.bool e.au.1,.slice NZ e.au.2.1.length Oa,.bool e.au.2.2.1,.slice Ob e.au.2.2.2.length Oc,.bool e.ao.1,.slice Od e.ao.2.1.length Oe,.bool e.ao.2.2.1,.slice Og e.ao.2.2.2.length Oh,.bool e.closing.1,.slice Oi e.closing.2.1.length Oj,.bool e.closing.2.2.1,.slice Ol e.closing.2.2.2.length Om] rfl (aK hc 0 _ ⟨[],rfl⟩) (wV rfl ?_)
  refine aa ?_
  cases UY:Cq e with
  | false=>
    refine VO.ee rfl (fk Tryz.func26) (fun bD β cQ bG ho=>(lh _ e.l bD (im js (ho.own 57 (.base (List.mem_singleton.2 rfl)) _ _ rfl) [] (vs:=[[.bool e.aW.1,.slice NI e.aW.2.1.length NJ,.bool e.aW.2.2.1,.slice NK e.aW.2.2.2.length NL],[.bool e.allowed.1,.slice NM e.allowed.2.1.length NN,.bool e.allowed.2.2.1,.slice NP e.allowed.2.2.2.length NQ],[.bool e.aE.1,.slice NR e.aE.2.1.length NS,.bool e.aE.2.2.1,.slice NT e.aE.2.2.2.length NU],[.bool e.used.1,.slice NV e.used.2.1.length NW,.bool e.used.2.2.1,.slice NX e.used.2.2.2.length NY],[.bool e.au.1,.slice NZ e.au.2.1.length Oa,.bool e.au.2.2.1,.slice Ob e.au.2.2.2.length Oc],[.bool e.ao.1,.slice Od e.ao.2.1.length Oe,.bool e.ao.2.2.1,.slice Og e.ao.2.2.2.length Oh],[.bool e.closing.1,.slice Oi e.closing.2.1.length Oj,.bool e.closing.2.2.1,.slice Ol e.closing.2.2.2.length Om]]) rfl (bL.cons ⟨_,_,_,_,rfl⟩ (bL.cons ⟨_,_,_,_,rfl⟩ (bL.cons ⟨_,_,_,_,rfl⟩ (bL.cons ⟨_,_,_,_,rfl⟩ (bL.cons ⟨_,_,_,_,rfl⟩ (bL.cons ⟨_,_,_,_,rfl⟩ (bL.cons ⟨_,_,_,_,rfl⟩ (bL.nil)))))))) rfl (Nat.le_refl 7) bW) false UY).mono ?_)
    rintro o w1 ⟨rfl,aI⟩
    refine ⟨_,rfl,aI,fun dt _ bb1=>wV rfl ?_⟩
    refine aa ?_
    refine VO.call rfl rfl (fk Tryz.func9) (fun cG dQ cV=>(jr cG).mono ?_)
    rintro e w2 ⟨rfl,ba⟩
    skip
    refine ⟨_,rfl,ba,fun dR _ bb2=>wV rfl ?_⟩
    refine aa ?_
    refine aR ?_;intro wz kz bz
    exact ⟨rfl,bz⟩
  | true=>
    refine VO.ee rfl (fk Tryz.func26) (fun bD β cQ bG ho=>(lh _ e.l bD (im js (ho.own 57 (.base (List.mem_singleton.2 rfl)) _ _ rfl) [] (vs:=[[.bool e.aW.1,.slice NI e.aW.2.1.length NJ,.bool e.aW.2.2.1,.slice NK e.aW.2.2.2.length NL],[.bool e.allowed.1,.slice NM e.allowed.2.1.length NN,.bool e.allowed.2.2.1,.slice NP e.allowed.2.2.2.length NQ],[.bool e.aE.1,.slice NR e.aE.2.1.length NS,.bool e.aE.2.2.1,.slice NT e.aE.2.2.2.length NU],[.bool e.used.1,.slice NV e.used.2.1.length NW,.bool e.used.2.2.1,.slice NX e.used.2.2.2.length NY],[.bool e.au.1,.slice NZ e.au.2.1.length Oa,.bool e.au.2.2.1,.slice Ob e.au.2.2.2.length Oc],[.bool e.ao.1,.slice Od e.ao.2.1.length Oe,.bool e.ao.2.2.1,.slice Og e.ao.2.2.2.length Oh],[.bool e.closing.1,.slice Oi e.closing.2.1.length Oj,.bool e.closing.2.2.1,.slice Ol e.closing.2.2.2.length Om]]) rfl (bL.cons ⟨_,_,_,_,rfl⟩ (bL.cons ⟨_,_,_,_,rfl⟩ (bL.cons ⟨_,_,_,_,rfl⟩ (bL.cons ⟨_,_,_,_,rfl⟩ (bL.cons ⟨_,_,_,_,rfl⟩ (bL.cons ⟨_,_,_,_,rfl⟩ (bL.cons ⟨_,_,_,_,rfl⟩ (bL.nil)))))))) rfl (Nat.le_refl 7) bW) true UY).mono ?_)
    rintro o w1 ⟨rfl,aI⟩
    refine ⟨_,rfl,aI,fun dt _ bb1=>wV rfl ?_⟩
    refine aa ?_
    refine VS.back (N - (z + 1)) ab ⟨_,_,?_,?_,?_,?_,⟨z + 1,by omega,rfl,Mo he fY UY,aU,rfl,rfl⟩⟩
    ·refine ⟨rfl,rfl,rfl,rfl,rfl,?_,trivial⟩
     rw [<-aF (i:=z) ab];rfl
    ·exact cd
    ·rfl
    ·exact iD
 refine VS.aQ rfl (decide_eq_false (fun e=>hlt (Int.ofNat_lt.1 e))) ?_
 rw [List.take_of_length_le ab] at fY
 have hX1':=UX fY Oo
 replace q0:bE wJ (.agg #[.bool s0,.slice p0 n0 c0,.bool t0,.slice y0 m0 d0]) 0:=q0.k
 refine aa ?_
 refine VS.loop (J:=fun m L M w'=>∃ (z:Nat) (s1 p1 n1 c1 t1 y1 m1 d1:_),z≤n/\m=n - z/\((X.2.take z).all fun e=>vQ e.2.2)=true/\Kp UU w0 w'/\bE w' (.agg #[.bool s1,.slice p1 n1 c1,.bool t1,.slice y1 m1 d1]) (jT ((X.2.take z).map (fun e:dD=>pq (decide (e.1=vt)) e.2.2)))/\L=[(1,.val (.slice uq K uc)),(3,.val (.int .i64 vt)),(4,.box 4 0),(6,.box 6 0),(9,.box 9 0),(12,.val (.int .i64 (z:Int)))]/\M=[(4,(Qi,([.bool S.1,.slice sp S.2.1.length sc,.bool S.2.2.1,.slice sr S.2.2.2.length sd,.bool F.1,.slice fp F.2.1.length fc,.bool F.2.2.1,.slice fr F.2.2.2.length fd,.int .i64 keep]:List Value).map .val)),(6,(rM,[.val (.slice rp N rc),.val (.slice up n uc2)])),(9,(55,([.bool s1,.slice p1 n1 c1,.bool t1,.slice y1 m1 d1]:List Value).map .val))]) n ⟨_,_,?_,?_,?_,?_,⟨0,s0,p0,n0,c0,t0,y0,m0,d0,by omega,rfl,rfl,aU,q0,rfl,rfl⟩⟩ ?_
 ·exact cd
 ·exact cd
 ·rfl
 ·exact iD
 rintro m L M wU ⟨z,s1,p1,n1,c1,t1,y1,m1,d1,mO,rfl,JU,kU2,q1,rfl,rfl⟩
 refine aa ?_
 by_cases mQ:z < n
 ·obtain ⟨e,he⟩:∃ e,X.2[z]? =some e:=⟨_,List.getElem?_eq_getElem ab⟩
  obtain ⟨b,off,eW,fQ,hc,⟨_,rfl,⟨ap,ac,ar,ad,rfl,ha⟩,hfw⟩⟩:=Oq.at he
  subst fQ
  refine VS.aP rfl (decide_eq_true (Int.ofNat_lt.2 mQ)) ?_
  refine aa ?_
  refine VO.cond rfl dw ?_
  refine wV rfl ?_
  refine aa ?_
  refine VO.read rfl [.bool e.2.2.1,.slice ap e.2.2.2.1.length ac,.bool e.2.2.2.2.1,.slice ar e.2.2.2.2.2.length ad] rfl (aK hc 2 _ ⟨[],rfl⟩) (wV rfl ?_)
  refine aa ?_
  cases UY:vQ e.2.2 with
  | false=>
    refine VO.ee rfl (fk Tryz.func26) (fun eX β fF fM ho=>(lh _ [e.2.2] eX (im js (ho.own 74 (.base (List.mem_singleton.2 rfl)) _ _ rfl) [] (vs:=[[.bool e.2.2.1,.slice ap e.2.2.2.1.length ac,.bool e.2.2.2.2.1,.slice ar e.2.2.2.2.2.length ad]]) rfl (bL.cons ⟨_,_,_,_,rfl⟩ bL.nil) rfl (Nat.le_refl 1) bW) false (by rw [<-UY];simp)).mono ?_)
    rintro o w3 ⟨rfl,cC⟩
    refine ⟨_,rfl,cC,fun gZ _ bb3=>wV rfl ?_⟩
    refine aa ?_
    refine VO.call rfl rfl (fk Tryz.func9) (fun jg kZ kt=>(jr jg).mono ?_)
    rintro e w4 ⟨rfl,fq⟩
    skip
    refine ⟨_,rfl,fq,fun lz _ tH=>wV rfl ?_⟩
    refine aa ?_
    refine aR ?_;intro wz kz bz
    exact ⟨rfl,bz⟩
  | true=>
    refine VO.ee rfl (fk Tryz.func26) (fun eX β fF fM ho=>(lh _ [e.2.2] eX (im js (ho.own 74 (.base (List.mem_singleton.2 rfl)) _ _ rfl) [] (vs:=[[.bool e.2.2.1,.slice ap e.2.2.2.1.length ac,.bool e.2.2.2.2.1,.slice ar e.2.2.2.2.2.length ad]]) rfl (bL.cons ⟨_,_,_,_,rfl⟩ bL.nil) rfl (Nat.le_refl 1) bW) true (by rw [<-UY];simp)).mono ?_)
    rintro o w3 ⟨rfl,cC⟩
    refine ⟨_,rfl,cC,fun gZ _ bb3=>wV rfl ?_⟩
    refine aa ?_
    have hfw3:e.2.2.jF 3:=by
     unfold vQ at UY
     rw [Bool.and_eq_true,decide_eq_true_iff,decide_eq_true_iff] at UY
     exact UY
    have hsum:=kN (fun e:dD=>pq (decide (e.1=vt)) e.2.2) he
    refine VO.cond rfl dw ?_
    refine wV rfl ?_
    refine aa ?_
    refine VO.read rfl [.int .i64 e.1] rfl (aK hc 0 _ ⟨_,rfl⟩) (wV rfl ?_)
    refine aa ?_
    by_cases hev:e.1=vt
    ·refine VS.aP rfl (Te hev) ?_
     refine aa ?_
     refine VO.cond rfl dw ?_
     refine wV rfl ?_
     refine aa ?_
     refine VO.read rfl [.bool e.2.2.1,.slice ap e.2.2.2.1.length ac,.bool e.2.2.2.2.1,.slice ar e.2.2.2.2.2.length ad] rfl (aK hc 2 _ ⟨[],rfl⟩) (wV rfl ?_)
     refine VO.call rfl rfl (fk Tryz.func28) (fun gE ju ia=>(bJ e.2.2.1 e.2.2.2.2.1 e.2.2.2.1 e.2.2.2.2.2 _ gE (ha.kp (Kp.of (U:=UU) ia)) (by have:=hfw3.1;omega) (by have:=hfw3.2;omega)).mono ?_)
     rintro e w5 ⟨r5,rfl,q5,eP⟩
     obtain ⟨vp,vc,vr,vd,rfl,-⟩:=q5.raw.fV
     refine ⟨_,rfl,eP,fun jV _ qu=>wV rfl ?_⟩
     refine aa ?_
     refine VO.call rfl rfl (fk Tryz.func27) (fun gF ld iC=>(gl _ _ (jT ((X.2.take z).map (fun e:dD=>pq (decide (e.1=vt)) e.2.2))) e.2.2.q 1000000 3 gF (q1.ki ((hsz z ab JU).mono (kk_up ab))) ((q5.raw.kp ld).iq hfw3) ab ab).mono ?_)
     rintro e w6 ⟨r6,rfl,q6,fK⟩
     obtain ⟨s6,p6,n6,c6,t6,y6,m6,d6,rfl⟩:=q6.form
     refine ⟨_,rfl,fK,fun lG _ pO=>wV rfl ?_⟩
     refine aa ?_
     refine VS.back (n - (z + 1)) ab ⟨_,_,?_,?_,?_,?_,⟨z + 1,s6,p6,n6,c6,t6,y6,m6,d6,by omega,rfl,JS he JU UY,aU,by rw [hsum,show pq (decide (e.1=vt)) e.2.2=e.2.2.q by rw [decide_eq_true hev];rfl];exact q6.kr,rfl,rfl⟩⟩
     ·refine ⟨rfl,rfl,rfl,rfl,rfl,?_,trivial⟩
      rw [<-aF (i:=z) ab];rfl
     ·exact cd
     ·rfl
     ·exact iD
    ·refine VS.aQ rfl (Jh hev) ?_
     refine aa ?_
     refine VS.back (n - (z + 1)) ab ⟨_,_,?_,?_,?_,?_,⟨z + 1,s1,p1,n1,c1,t1,y1,m1,d1,by omega,rfl,JS he JU UY,aU,by rw [hsum,show pq (decide (e.1=vt)) e.2.2=0 by rw [decide_eq_false hev];rfl,Rat.add_zero];exact q1.k,rfl,rfl⟩⟩
     ·refine ⟨rfl,rfl,rfl,rfl,rfl,?_,trivial⟩
      rw [<-aF (i:=z) ab];rfl
     ·exact cd
     ·rfl
     ·exact iD
 refine VS.aQ rfl (decide_eq_false (fun e=>mQ (Int.ofNat_lt.1 e))) ?_
 rw [List.take_of_length_le ab] at JU q1
 have hX2':=uses_sl JU Oq
 (repeat (first | refine wN ?_ | refine wP rfl ?_))
 refine VS.Th (fun w=>CW Tryz.prog w 117) (fun _=>rfl) (fun _=>rfl) (fun _=>aL.refl _) (fun W β k9 b9 en=> ?_)
 have uB:=(en.own 4 _ _ rfl).cls
 have hc6:=(en.own 6 _ _ rfl).cls
 have hc9:=(en.own 9 _ _ rfl).cls
 refine ⟨[(1,.val (.slice uq K uc)),(3,.val (.int .i64 vt)),(4,.val (.pointer (some ⟨β 4,0,none⟩))),(6,.val (.pointer (some ⟨β 6,0,none⟩))),(9,.val (.pointer (some ⟨β 9,0,none⟩)))],⟨⟨_,_,rfl,rfl,rfl⟩,⟨_,_,rfl,rfl,rfl⟩,⟨_,_,rfl,rfl,rfl⟩,⟨_,_,rfl,rfl,rfl⟩,⟨_,_,rfl,rfl,rfl⟩,trivial⟩,?_⟩
 generalize β 4=b4 at *
 generalize β 6=b6 at *
 generalize β 9=b9' at *
 replace q1:bE W (.agg #[.bool s1,.slice p1 n1 c1,.bool t1,.slice y1 m1 d1]) (ofS vt X.2):=q1.kp k9
 have GF:fN W (.agg #[.bool S.1,.slice sp S.2.1.length sc,.bool S.2.2.1,.slice sr S.2.2.2.length sd,.bool F.1,.slice fp F.2.1.length fc,.bool F.2.2.1,.slice fr F.2.2.2.length fd,.int .i64 keep]) S F keep:=hR.kp (Kp.of (U:=UU) b9)
 have hlW:cO (si 3) 8 W (.slice uq K uc) l:=hl.bo (dV 3) b9
 have hXW:mL 3 W (.slice rp N rc) (.slice up n uc2) X:=⟨hX1'.bo (dH 3) b9,hX2'.bo (eH 3) b9⟩
 clear en k9 hX1' hX2' hl hR kJ kU2
 have RDR:∀ (j:Nat) (u:Value),[.bool S.1,.slice sp S.2.1.length sc,.bool S.2.2.1,.slice sr S.2.2.2.length sd,.bool F.1,.slice fp F.2.1.length fc,.bool F.2.2.1,.slice fr F.2.2.2.length fd,.int .i64 keep][j]? =some u->W.cell? ((⟨b4,0,none⟩:Addr).add j)=some u:=LV uB 0 _ ⟨[],rfl⟩
 have RDL:∀ (j:Nat) (u:Value),[Value.slice rp N rc,.slice up n uc2][j]? =some u->W.cell? ((⟨b6,0,none⟩:Addr).add j)=some u:=LV hc6 0 _ ⟨[],rfl⟩
 have RDQ:∀ (j:Nat) (u:Value),[.bool s1,.slice p1 n1 c1,.bool t1,.slice y1 m1 d1][j]? =some u->W.cell? ((⟨b9',0,none⟩:Addr).add j)=some u:=LV hc9 0 _ ⟨[],rfl⟩
 refine dC ?_
 refine VO.read rfl [.bool S.1,.slice sp S.2.1.length sc,.bool S.2.2.1,.slice sr S.2.2.2.length sd,.bool F.1,.slice fp F.2.1.length fc,.bool F.2.2.1,.slice fr F.2.2.2.length fd,.int .i64 keep] rfl RDR (wV rfl ?_)
 refine dC ?_
 refine VO.read rfl [.slice rp N rc,.slice up n uc2] rfl RDL (wV rfl ?_)
 refine dC ?_
 obtain ⟨kb,hkb⟩:∃ b,rQ S F keep l X=b:=⟨_,rfl⟩
 refine VO.call rfl rfl (fk Tryz.func23) (fun mW tJ lH=>(QK _ _ _ _ S F keep l X mW (GF.kp (Kp.of (U:=UU) lH)) hS hF (hlW.bo (dV 3) lH) ((hXW.mono ab).bo lH) ab ab kb hkb).mono ?_)
 rintro e w7 ⟨rfl,lL⟩
 skip
 refine ⟨_,rfl,lL,fun sU _ Cy=>wV rfl ?_⟩
 refine dC ?_
 refine VO.read rfl [.bool S.1,.slice sp S.2.1.length sc,.bool S.2.2.1,.slice sr S.2.2.2.length sd,.bool F.1,.slice fp F.2.1.length fc,.bool F.2.2.1,.slice fr F.2.2.2.length fd,.int .i64 keep] rfl RDR (wV rfl ?_)
 refine dC ?_
 refine VO.call rfl rfl (fk Tryz.func18) (fun sD Fc wj=>(JF _ S F keep 3 sD (GF.kp (Kp.of (U:=UU) wj)) hS hF ab).mono ?_)
 rintro e w8 ⟨r8,rfl,hR8,qf⟩
 obtain ⟨Nz,NA,NB,NC,ND,NF,NG,NH,rfl,g1,g2⟩:=hR8
 refine ⟨_,rfl,qf,fun wk _ Kd=>wV rfl ?_⟩
 refine dC ?_
 refine VO.call rfl rfl (fk Tryz.func19) (fun wa9 ka9 ba9=>(JG _ l 3 wa9 (hlW.bo (dV 3) ba9) ab ab).mono ?_)
 rintro e w9 ⟨r9,rfl,hY9,ME⟩
 obtain ⟨yp,yc,rfl⟩:=hY9.form
 refine ⟨_,rfl,ME,fun Ff _ bb9=>wV rfl ?_⟩
 refine dC ?_
 refine VO.read rfl [.slice rp N rc,.slice up n uc2] rfl RDL (wV rfl ?_)
 refine dC ?_
 refine VO.call rfl rfl (fk Tryz.func22) (fun xb Bx Lf=>(FO _ _ X 3 xb (hXW.bo Lf) ab ab ab).mono ?_)
 rintro e w10 ⟨r10,u10,rfl,l1,l2,xc⟩
 obtain ⟨p10,c10,rfl⟩:=l1.form;obtain ⟨q10,d10,rfl⟩:=l2.form
 refine ⟨_,rfl,xc,fun jv _ PG=>wV rfl ?_⟩
 refine dC ?_
 have hR8':∀ w',bH (CW Tryz.prog W 117).K w8 w'->fN w' (.agg #[.bool S.1,.slice Nz S.2.1.length NA,.bool S.2.2.1,.slice NB S.2.2.2.length NC,.bool F.1,.slice ND F.2.1.length NF,.bool F.2.2.1,.slice NG F.2.2.2.length NH,.int .i64 keep]) S F keep:=fun w' k=>⟨_,_,_,_,_,_,_,_,rfl,g1.kp k.qo,g2.kp k.qo⟩
 refine VO.call rfl rfl (fk Tryz.func29) (fun yu xd SR=>(JR _ _ _ _ S F keep l X yu (hR8' _ ((Ff.aN jv).aN xd)) hS hF ((hY9.kp (dV 3) (jv.aN xd) rfl).sl (dV 3)) ((show mL 3 yu _ _ X from ⟨(l1.kp (dH 3) xd rfl).sl (dH 3),(l2.kp (eH 3) xd rfl).sl (eH 3)⟩).mono ab) ab ab kb hkb).mono ?_)
 rintro e w11 ⟨rfl,Bz⟩
 skip
 refine ⟨_,rfl,Bz,fun nZ _ SS=>wV rfl ?_⟩
 refine dC ?_
 refine VO.fix 107 rfl (congrArg (fun b=>AV.val (.bool b)) (show (kb == kb)=true by cases kb <;> rfl)) ?_
 refine dC ?_
 refine VO.read rfl [.slice rp N rc,.slice up n uc2] rfl RDL (wV rfl ?_)
 refine dC ?_
 refine VO.call rfl rfl (fk Tryz.func15) (fun BA Fg PH=>(iOf_any _ _ X vt 3 BA (hXW.bo PH) ab ab).mono ?_)
 rintro e w12 ⟨r12,rfl,q12,BB⟩
 obtain ⟨s12,p12,n12,c12,t12,y12,m12,d12,rfl⟩:=q12.form
 refine ⟨_,rfl,BB,fun rB _ SV=>wV rfl ?_⟩
 refine dC ?_
 refine VO.read rfl [.bool s1,.slice p1 n1 c1,.bool t1,.slice y1 m1 d1] rfl RDQ (wV rfl ?_)
 refine dC ?_
 refine VO.call rfl rfl (fk Tryz.func30) (fun Lg ka13 SW=>(PQ (ofS vt X.2) _ _ Lg (q12.rd.kp ka13.qo) (q1.kp (Kp.of (U:=UU) SW))).mono ?_)
 rintro e qG ⟨rfl,Lh⟩
 skip
 refine ⟨_,rfl,Lh,fun BC _ bb13=>wV rfl ?_⟩
 refine dC ?_
 refine VO.call rfl rfl (fk Tryz.func9) (fun SX PI ba14=>(jr SX).mono ?_)
 rintro e Li ⟨rfl,SY⟩
 skip
 refine ⟨_,rfl,SY,fun PJ _ bb14=>wV rfl ?_⟩
 refine dC ?_
 refine Es ?_;intro wz kz bz
 exact ⟨rfl,aL.aN b9 bz⟩
end
section
open Go.RowKit
abbrev pc:Nat:=9223372036854775807
section
variable {H:Type} {enc:TypeId×Value->H} {w:World} {held:Bool}
theorem ey (cs:List Value) (o n m:Nat) (h:m=o + n):cs.drop o=(cs.drop o).take n++cs.drop m:=by
 subst h
 have:=(List.take_append_drop n (cs.drop o)).symm
 rw [List.drop_drop] at this
 exact this
theorem UZ {s t:Bool} {p r:Option Addr} {n c m d:Nat} {xs ys:List Nat} (h:eF w (.agg #[.bool s,.slice p n c,.bool t,.slice r m d]) s xs t ys):n=xs.length/\m=ys.length/\xs.length≤pc/\ys.length≤pc:=by
 obtain ⟨p',c',r',d',hv,h1,h2⟩:=h
 simp only [Value.agg.injEq,Array.mk.injEq,List.cons.injEq,and_true,Value.slice.injEq,Value.bool.injEq] at hv
 obtain ⟨_,⟨rfl,rfl,rfl⟩,_,rfl,rfl,rfl⟩:=hv
 obtain ⟨_,_,_,jA,_⟩:=h1
 obtain ⟨_,_,_,kE,_⟩:=h2
 obtain ⟨_,_,_,a1,a2,_⟩:=jA.u32
 obtain ⟨_,_,_,b1,b2,_⟩:=kE.u32
 exact ⟨rfl,rfl,by unfold pc;omega,by unfold pc;omega⟩
theorem iY {fuel:Nat} {cs:List Value} {x:DataW H×List MemPlace} (h:DataW.trod enc Tryz.prog w 0 (fun _=>true) held fuel 26 cs=some x):∃ a:RR,Rw pc w cs a:=by
 obtain ⟨s,p,n,c,t,r,m,d,xs,ys,rfl,h0⟩:=Tg h
 obtain ⟨rfl,rfl,h1,h2⟩:=UZ h0
 exact ⟨(s,xs,t,ys),⟨p,c,r,d,rfl,h0⟩,h1,h2⟩
set_option maxRecDepth 100000 in
theorem QM {fuel:Nat} {cs:List Value} {x:DataW H×List MemPlace} (h:DataW.trod enc Tryz.prog w 0 (fun _=>true) held fuel 51 cs=some x):∃ e:RR×RR,si pc w cs e:=by
 obtain ⟨zs,n,rfl,rfl,hl,kD,hf⟩:=DataW.trod_struct Tryz.underlying51 h
 have wS:cs.length=8:=by
  have c:Tryz.prog.cellsOf 51=8:=by kernel_rfl
  rw [c] at hl;exact hl
 have hy2:zs.length=2:=kD
 obtain ⟨z0,jB⟩:∃ z,zs[0]? =some z:=⟨_,List.getElem?_eq_getElem ab⟩
 obtain ⟨z1,gC⟩:∃ z,zs[1]? =some z:=⟨_,List.getElem?_eq_getElem ab⟩
 have mM:Tryz.prog.cellsOf 26=4:=by kernel_rfl
 have h0:=hf 0 _ rfl
 rw [jB] at h0
 change DataW.trod enc Tryz.prog w 0 (fun _=>true) held n 26 ((cs.drop 0).take (Tryz.prog.cellsOf 26))=some z0 at h0
 rw [mM] at h0
 have h1:=hf 1 _ rfl
 rw [gC] at h1
 change DataW.trod enc Tryz.prog w 0 (fun _=>true) held n 26 ((cs.drop 4).take (Tryz.prog.cellsOf 26))=some z1 at h1
 rw [mM] at h1
 obtain ⟨x0,iA⟩:=iY h0
 obtain ⟨x1,Kc⟩:=iY h1
 have a0:cs.drop 0=(cs.drop 0).take 4++cs.drop 4:=ey cs 0 4 4 rfl
 have a1:cs.drop 4=(cs.drop 4).take 4:=by rw [List.take_of_length_le];rw [List.length_drop];omega
 have ecs:cs=(cs.drop 0).take 4++((cs.drop 4).take 4):=by
  have a:cs=cs.drop 0:=rfl
  rw [a0] at a
  rw [a1] at a
  exact a
 rw [ecs]
 exact ⟨(x0,x1),_,_,rfl,iA.1,Kc.1,iA.2,Kc.2⟩
set_option maxRecDepth 100000 in
theorem Cr {v:Value} {d:DataW H} {ps:List MemPlace} {r:_root_.Go.Reach} {b0:Nat} (hv:Value.okWide Tryz.prog w r b0 29 v) (h:DataW.Trod enc Tryz.prog w 0 (fun _=>true) held 29 v d ps):∃ es:List (RR×RR),cO (si pc) 8 w v es:=
 open_sl Tryz.underlying29 (by kernel_rfl) ab (fun h=>QM h) hv h
def RulC (w:World) (cs:List Value) (a b:RR) (keep:Int):Prop:=∃ x y,cs=x++(y++[.int .i64 keep])/\xo w x a/\xo w y b
set_option maxRecDepth 100000 in
theorem Va {fuel:Nat} {cs:List Value} {x:DataW H×List MemPlace} (h:DataW.trod enc Tryz.prog w 0 (fun _=>true) held fuel 28 cs=some x):∃ (a b:RR) (keep:Int),RulC w cs a b keep/\(Lit.int .i64 keep).wf=true:=by
 obtain ⟨zs,n,rfl,rfl,hl,kD,hf⟩:=DataW.trod_struct Tryz.underlying28 h
 have wS:cs.length=9:=by
  have c:Tryz.prog.cellsOf 28=9:=by kernel_rfl
  rw [c] at hl;exact hl
 have hy2:zs.length=3:=kD
 obtain ⟨z0,jB⟩:∃ z,zs[0]? =some z:=⟨_,List.getElem?_eq_getElem ab⟩
 obtain ⟨z1,gC⟩:∃ z,zs[1]? =some z:=⟨_,List.getElem?_eq_getElem ab⟩
 obtain ⟨z2,mO⟩:∃ z,zs[2]? =some z:=⟨_,List.getElem?_eq_getElem ab⟩
 have Ow:Tryz.prog.cellsOf 3=1:=by kernel_rfl
 have mM:Tryz.prog.cellsOf 26=4:=by kernel_rfl
 have h0:=hf 0 _ rfl
 rw [jB] at h0
 change DataW.trod enc Tryz.prog w 0 (fun _=>true) held n 26 ((cs.drop 0).take (Tryz.prog.cellsOf 26))=some z0 at h0
 rw [mM] at h0
 have h1:=hf 1 _ rfl
 rw [gC] at h1
 change DataW.trod enc Tryz.prog w 0 (fun _=>true) held n 26 ((cs.drop 4).take (Tryz.prog.cellsOf 26))=some z1 at h1
 rw [mM] at h1
 have h2:=hf 2 _ rfl
 rw [mO] at h2
 change DataW.trod enc Tryz.prog w 0 (fun _=>true) held n 3 ((cs.drop 8).take (Tryz.prog.cellsOf 3))=some z2 at h2
 rw [Ow] at h2
 obtain ⟨x0,iA⟩:=iY h0
 obtain ⟨x1,Kc⟩:=iY h1
 obtain ⟨k2,e2,_,hk2⟩:=DataW.trod_int Tryz.underlying3 h2
 have a0:cs.drop 0=(cs.drop 0).take 4++cs.drop 4:=ey cs 0 4 4 rfl
 have a1:cs.drop 4=(cs.drop 4).take 4++cs.drop 8:=ey cs 4 4 8 rfl
 have a2:cs.drop 8=(cs.drop 8).take 1:=by rw [List.take_of_length_le];rw [List.length_drop];omega
 have ecs:cs=(cs.drop 0).take 4++((cs.drop 4).take 4++((cs.drop 8).take 1)):=by
  have a:cs=cs.drop 0:=rfl
  rw [a0] at a
  rw [a1] at a
  rw [a2] at a
  exact a
 rw [ecs]
 exact ⟨x0,x1,k2,⟨_,_,by rw [e2],iA.1,Kc.1⟩,hk2⟩
set_option maxRecDepth 100000 in
theorem Gq {v:Value} {d:DataW H} {ps:List MemPlace} {r:_root_.Go.Reach} {b0:Nat} (hv:Value.okWide Tryz.prog w r b0 28 v) (h:DataW.Trod enc Tryz.prog w 0 (fun _=>true) held 28 v d ps):∃ (a b:RR) (keep:Int),fN w v a b keep:=by
 obtain ⟨cs,rfl,_⟩:=WideShapes.okWide_struct Tryz.underlying28 hv
 obtain ⟨fuel,hf⟩:=h
 obtain ⟨a,b,keep,⟨_,_,he,⟨p,c,r,d,rfl,h1⟩,⟨p',c',r',d',rfl,h2⟩⟩,_⟩:=Va hf
 have qi:cs.toList=[.bool a.1,.slice p a.2.1.length c,.bool a.2.2.1,.slice r a.2.2.2.length d,.bool b.1,.slice p' b.2.1.length c',.bool b.2.2.1,.slice r' b.2.2.2.length d',.int .i64 keep]:=by simpa [Value.cells] using he
 have hc:cs=#[.bool a.1,.slice p a.2.1.length c,.bool a.2.2.1,.slice r a.2.2.2.length d,.bool b.1,.slice p' b.2.1.length c',.bool b.2.2.1,.slice r' b.2.2.2.length d',.int .i64 keep]:=by rw [<-Array.toArray_toList (xs:=cs),qi]
 exact ⟨a,b,keep,p,c,r,d,p',c',r',d',by rw [hc],h1,h2⟩
set_option maxRecDepth 100000 in
theorem Mp {fuel:Nat} {cs:List Value} {x:DataW H×List MemPlace} (h:DataW.trod enc Tryz.prog w 0 (fun _=>true) held fuel 41 cs=some x):∃ e:ed,lS pc w cs e:=by
 obtain ⟨zs,n,rfl,rfl,hl,kD,hf⟩:=DataW.trod_struct Tryz.underlying41 h
 have wS:cs.length=28:=by
  have c:Tryz.prog.cellsOf 41=28:=by kernel_rfl
  rw [c] at hl;exact hl
 have hy2:zs.length=7:=kD
 obtain ⟨z0,jB⟩:∃ z,zs[0]? =some z:=⟨_,List.getElem?_eq_getElem ab⟩
 obtain ⟨z1,gC⟩:∃ z,zs[1]? =some z:=⟨_,List.getElem?_eq_getElem ab⟩
 obtain ⟨z2,mO⟩:∃ z,zs[2]? =some z:=⟨_,List.getElem?_eq_getElem ab⟩
 obtain ⟨z3,hz3⟩:∃ z,zs[3]? =some z:=⟨_,List.getElem?_eq_getElem ab⟩
 obtain ⟨z4,hz4⟩:∃ z,zs[4]? =some z:=⟨_,List.getElem?_eq_getElem ab⟩
 obtain ⟨z5,hz5⟩:∃ z,zs[5]? =some z:=⟨_,List.getElem?_eq_getElem ab⟩
 obtain ⟨z6,hz6⟩:∃ z,zs[6]? =some z:=⟨_,List.getElem?_eq_getElem ab⟩
 have mM:Tryz.prog.cellsOf 26=4:=by kernel_rfl
 have h0:=hf 0 _ rfl
 rw [jB] at h0
 change DataW.trod enc Tryz.prog w 0 (fun _=>true) held n 26 ((cs.drop 0).take (Tryz.prog.cellsOf 26))=some z0 at h0
 rw [mM] at h0
 have h1:=hf 1 _ rfl
 rw [gC] at h1
 change DataW.trod enc Tryz.prog w 0 (fun _=>true) held n 26 ((cs.drop 4).take (Tryz.prog.cellsOf 26))=some z1 at h1
 rw [mM] at h1
 have h2:=hf 2 _ rfl
 rw [mO] at h2
 change DataW.trod enc Tryz.prog w 0 (fun _=>true) held n 26 ((cs.drop 8).take (Tryz.prog.cellsOf 26))=some z2 at h2
 rw [mM] at h2
 have h3:=hf 3 _ rfl
 rw [hz3] at h3
 change DataW.trod enc Tryz.prog w 0 (fun _=>true) held n 26 ((cs.drop 12).take (Tryz.prog.cellsOf 26))=some z3 at h3
 rw [mM] at h3
 have h4:=hf 4 _ rfl
 rw [hz4] at h4
 change DataW.trod enc Tryz.prog w 0 (fun _=>true) held n 26 ((cs.drop 16).take (Tryz.prog.cellsOf 26))=some z4 at h4
 rw [mM] at h4
 have h5:=hf 5 _ rfl
 rw [hz5] at h5
 change DataW.trod enc Tryz.prog w 0 (fun _=>true) held n 26 ((cs.drop 20).take (Tryz.prog.cellsOf 26))=some z5 at h5
 rw [mM] at h5
 have h6:=hf 6 _ rfl
 rw [hz6] at h6
 change DataW.trod enc Tryz.prog w 0 (fun _=>true) held n 26 ((cs.drop 24).take (Tryz.prog.cellsOf 26))=some z6 at h6
 rw [mM] at h6
 obtain ⟨x0,iA⟩:=iY h0
 obtain ⟨x1,Kc⟩:=iY h1
 obtain ⟨x2,hx2⟩:=iY h2
 obtain ⟨x3,hx3⟩:=iY h3
 obtain ⟨x4,lW⟩:=iY h4
 obtain ⟨x5,hx5⟩:=iY h5
 obtain ⟨x6,hx6⟩:=iY h6
 have a0:cs.drop 0=(cs.drop 0).take 4++cs.drop 4:=ey cs 0 4 4 rfl
 have a1:cs.drop 4=(cs.drop 4).take 4++cs.drop 8:=ey cs 4 4 8 rfl
 have a2:cs.drop 8=(cs.drop 8).take 4++cs.drop 12:=ey cs 8 4 12 rfl
 have a3:cs.drop 12=(cs.drop 12).take 4++cs.drop 16:=ey cs 12 4 16 rfl
 have a4:cs.drop 16=(cs.drop 16).take 4++cs.drop 20:=ey cs 16 4 20 rfl
 have a5:cs.drop 20=(cs.drop 20).take 4++cs.drop 24:=ey cs 20 4 24 rfl
 have a6:cs.drop 24=(cs.drop 24).take 4:=by rw [List.take_of_length_le];rw [List.length_drop];omega
 have ecs:cs=(cs.drop 0).take 4++((cs.drop 4).take 4++((cs.drop 8).take 4++((cs.drop 12).take 4++((cs.drop 16).take 4++((cs.drop 20).take 4++((cs.drop 24).take 4)))))):=by
  have a:cs=cs.drop 0:=rfl
  rw [a0] at a
  rw [a1] at a
  rw [a2] at a
  rw [a3] at a
  rw [a4] at a
  rw [a5] at a
  rw [a6] at a
  exact a
 rw [ecs]
 exact ⟨⟨x0,x1,x2,x3,x4,x5,x6⟩,_,_,_,_,_,_,_,rfl,iA,Kc,hx2,hx3,lW,hx5,hx6⟩
set_option maxRecDepth 100000 in
theorem Mq {fuel:Nat} {cs:List Value} {x:DataW H×List MemPlace} (h:DataW.trod enc Tryz.prog w 0 (fun _=>true) held fuel 44 cs=some x):∃ e:dD,na pc w cs e:=by
 obtain ⟨zs,n,rfl,rfl,hl,kD,hf⟩:=DataW.trod_struct Tryz.underlying44 h
 have wS:cs.length=6:=by
  have c:Tryz.prog.cellsOf 44=6:=by kernel_rfl
  rw [c] at hl;exact hl
 have hy2:zs.length=3:=kD
 obtain ⟨z0,jB⟩:∃ z,zs[0]? =some z:=⟨_,List.getElem?_eq_getElem ab⟩
 obtain ⟨z1,gC⟩:∃ z,zs[1]? =some z:=⟨_,List.getElem?_eq_getElem ab⟩
 obtain ⟨z2,mO⟩:∃ z,zs[2]? =some z:=⟨_,List.getElem?_eq_getElem ab⟩
 have Ow:Tryz.prog.cellsOf 3=1:=by kernel_rfl
 have mM:Tryz.prog.cellsOf 26=4:=by kernel_rfl
 have h0:=hf 0 _ rfl
 rw [jB] at h0
 change DataW.trod enc Tryz.prog w 0 (fun _=>true) held n 3 ((cs.drop 0).take (Tryz.prog.cellsOf 3))=some z0 at h0
 rw [Ow] at h0
 have h1:=hf 1 _ rfl
 rw [gC] at h1
 change DataW.trod enc Tryz.prog w 0 (fun _=>true) held n 3 ((cs.drop 1).take (Tryz.prog.cellsOf 3))=some z1 at h1
 rw [Ow] at h1
 have h2:=hf 2 _ rfl
 rw [mO] at h2
 change DataW.trod enc Tryz.prog w 0 (fun _=>true) held n 26 ((cs.drop 2).take (Tryz.prog.cellsOf 26))=some z2 at h2
 rw [mM] at h2
 obtain ⟨k0,e0,_,AA⟩:=DataW.trod_int Tryz.underlying3 h0
 obtain ⟨k1,e1,_,DI⟩:=DataW.trod_int Tryz.underlying3 h1
 obtain ⟨x2,hx2⟩:=iY h2
 have a0:cs.drop 0=(cs.drop 0).take 1++cs.drop 1:=ey cs 0 1 1 rfl
 have a1:cs.drop 1=(cs.drop 1).take 1++cs.drop 2:=ey cs 1 1 2 rfl
 have a2:cs.drop 2=(cs.drop 2).take 4:=by rw [List.take_of_length_le];rw [List.length_drop];omega
 have ecs:cs=(cs.drop 0).take 1++((cs.drop 1).take 1++((cs.drop 2).take 4)):=by
  have a:cs=cs.drop 0:=rfl
  rw [a0] at a
  rw [a1] at a
  rw [a2] at a
  exact a
 rw [ecs,e0,e1]
 exact ⟨(k0,k1,x2),_,rfl,hx2⟩
set_option maxRecDepth 100000 in
theorem JV {α:Type} {E:World->List Value->α->Prop} {sz:Nat} {t e:TypeId} (hu:Tryz.prog.underlying t=some (.slice e)) (hc:Tryz.prog.cellsOf e=sz) (lI:0 < sz)
  (DM:∀ {fuel:Nat} {cs:List Value} {x:DataW H×List MemPlace},DataW.trod enc Tryz.prog w 0 (fun _=>true) held fuel e cs=some x->∃ a,E w cs a)
  {fuel:Nat} {cs:List Value} {x:DataW H×List MemPlace} (hf:DataW.trod enc Tryz.prog w 0 (fun _=>true) held fuel t cs=some x):∃ (p:Option Addr) (n c:Nat) (es:List α),cs=[.slice p n c]/\cO E sz w (.slice p n c) es:=by
 rcases DataW.trod_slice hu hf with ⟨e,_⟩ | ⟨a,len',cap',elems,rest,n,_,e,_,_,hl,hm,hle,xB,_⟩
 ·exact ⟨none,0,0,[],e,cO.nil _ _ _⟩
 ·refine ⟨some a,len',cap',?_⟩
  rw [hc] at xB
  have each:∀ i,i < len'->∃ q,∃ b off cs,some a=some ⟨b,off,none⟩/\(∀ (j:Nat) (u:Value),cs[j]? =some u->w.cell? ⟨b,off + i * sz + j,none⟩=some u)/\E w cs q:=by
   intro i hi
   obtain ⟨y,hy⟩:∃ y,elems[i]? =some y:=⟨_,List.getElem?_eq_getElem ab⟩
   have hb:=xB i hi
   rw [hy,Option.bind_eq_some_iff] at hb
   obtain ⟨cs,hcs,ht⟩:=hb
   obtain ⟨q,hq⟩:=DM ht
   obtain ⟨_,hlen,hcell⟩:=World.cells?_some hcs
   obtain ⟨b,off,spot⟩:=a
   have hspot:spot=none:=by
    obtain ⟨y0,Oy⟩:∃ y,elems[0]? =some y:=⟨_,List.getElem?_eq_getElem ab⟩
    have ou:=xB 0 ab
    rw [Oy,Option.bind_eq_some_iff] at ou
    obtain ⟨cs0,hcs0,ht0⟩:=ou
    obtain ⟨_,hlen0,Ls⟩:=World.cells?_some hcs0
    have Ng:=Ls 0 lI
    rw [List.getElem?_eq_getElem ab] at Ng
    have g0:=World.cell?_spot Ng
    simpa [Addr.add] using g0
   subst hspot
   refine ⟨q,b,off,cs,rfl,fun j u hj=> ?_,hq⟩
   have hjl:j < sz:=by have:=(List.getElem?_eq_some_iff.1 hj).1;omega
   have:=hcell j hjl
   rw [WideShapes.add_plain,WideShapes.add_plain] at this
   rw [this]
   exact hj
  obtain ⟨qs,CG,hqs⟩:=Lr len' each
  subst CG
  exact ⟨qs,e,_,_,rfl,hl,hm,fun i q hq=>hqs i q hq⟩
set_option maxRecDepth 100000 in
theorem Vb {fuel:Nat} {cs:List Value} {x:DataW H×List MemPlace} (h:DataW.trod enc Tryz.prog w 0 (fun _=>true) held fuel 36 cs=some x):∃ (r u:Value) (X:List ed×List dD),cs=[r,u]/\mL pc w r u X:=by
 obtain ⟨zs,n,rfl,rfl,hl,kD,hf⟩:=DataW.trod_struct Tryz.underlying36 h
 have wS:cs.length=2:=by
  have c:Tryz.prog.cellsOf 36=2:=by kernel_rfl
  rw [c] at hl;exact hl
 have hy2:zs.length=2:=kD
 obtain ⟨z0,jB⟩:∃ z,zs[0]? =some z:=⟨_,List.getElem?_eq_getElem ab⟩
 obtain ⟨z1,gC⟩:∃ z,zs[1]? =some z:=⟨_,List.getElem?_eq_getElem ab⟩
 have Vc:Tryz.prog.cellsOf 33=1:=by kernel_rfl
 have Vd:Tryz.prog.cellsOf 34=1:=by kernel_rfl
 have h0:=hf 0 _ rfl
 rw [jB] at h0
 change DataW.trod enc Tryz.prog w 0 (fun _=>true) held n 33 ((cs.drop 0).take (Tryz.prog.cellsOf 33))=some z0 at h0
 rw [Vc] at h0
 have h1:=hf 1 _ rfl
 rw [gC] at h1
 change DataW.trod enc Tryz.prog w 0 (fun _=>true) held n 34 ((cs.drop 1).take (Tryz.prog.cellsOf 34))=some z1 at h1
 rw [Vd] at h1
 have a0:cs.drop 0=(cs.drop 0).take 1++cs.drop 1:=ey cs 0 1 1 rfl
 have a1:cs.drop 1=(cs.drop 1).take 1:=by rw [List.take_of_length_le];rw [List.length_drop];omega
 have ecs:cs=(cs.drop 0).take 1++((cs.drop 1).take 1):=by
  have a:cs=cs.drop 0:=rfl
  rw [a0] at a
  rw [a1] at a
  exact a
 obtain ⟨p0,n0,d0,es0,e0,g0⟩:=JV (E:=lS pc) (sz:=28) Tryz.underlying33 (by kernel_rfl) ab (fun h=>Mp h) h0
 obtain ⟨p1,n1,d1,es1,e1,g1⟩:=JV (E:=na pc) (sz:=6) Tryz.underlying34 (by kernel_rfl) ab (fun h=>Mq h) h1
 exact ⟨_,_,(es0,es1),by rw [ecs,e0,e1];rfl,g0,g1⟩
set_option maxRecDepth 100000 in
theorem Gr {v:Value} {d:DataW H} {ps:List MemPlace} {r:_root_.Go.Reach} {b0:Nat} (hv:Value.okWide Tryz.prog w r b0 36 v) (h:DataW.Trod enc Tryz.prog w 0 (fun _=>true) held 36 v d ps):∃ (r u:Value) (X:List ed×List dD),v=.agg #[r,u]/\mL pc w r u X:=by
 obtain ⟨cs,rfl,_⟩:=WideShapes.okWide_struct Tryz.underlying36 hv
 obtain ⟨fuel,hf⟩:=h
 obtain ⟨r,u,X,he,hX⟩:=Vb hf
 have qi:cs.toList=[r,u]:=by simpa [Value.cells] using he
 exact ⟨r,u,X,by rw [<-Array.toArray_toList (xs:=cs),qi],hX⟩
end
end
end Go.Proofs.YtabalinjfgcfeaaGreat
