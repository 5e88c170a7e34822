/-Gb of the proof,laid behind one another. -/
import Derived.Test.YtabalinjfgcfeaaGreatKInterestKnown5
set_option linter.all false
set_option maxHeartbeats 64000000
set_option maxRecDepth 4000
namespace Go.Proofs.YtabalinjfgcfeaaGreat
section
open Go.RowKit
attribute [local irreducible] aG VS
abbrev xX (P:Program) (w:World) (N:Nat):Cx:={ P:=P,w0:=w,N:=N,K:=⟨UU,λ_=>True,λt=>(Nat.beq t fX || (Nat.beq t gL || (Nat.beq t 108 || (Nat.beq t 106 || Nat.beq t 100))))⟩,SU:=λt=>Nat.beq t 22,ti:=table,keep:=λ_ _=>trivial }
theorem IA (w:World) (N:Nat):(xX Tryz.prog w N).Ok:=xd
theorem XD (w:World) (N:Nat):(xX Tryz.prog w N).P.follows .mixedOrders=true:=by show Tryz.prog.follows .mixedOrders=true;kernel_rfl
section
variable {F F':Fr} {H H':Hp} {w w1:World} {N:Nat} {l':List Oper} {Q:Exit->Act->World->Prop} {k:List It} {id:Nat} {ops:Array Oper}
theorem cxL_r (e:xc (xX Tryz.prog w1 N) ops 80 ops.toList F H=(l',F',H')) (h:aG (xX Tryz.prog w1 N) none ops l' (VS (xX Tryz.prog w1 N) Q k) F' H' w):VS (xX Tryz.prog w1 N) Q (.code (.region id ops false)::k) F H w:=VS.region (IA _ _) (VO.run 80 e h)
theorem cxL_d (e:xc (xX Tryz.prog w1 N) ops 80 ops.toList F H=(l',F',H')) (h:aG (xX Tryz.prog w1 N) (some []) ops l' (VS (xX Tryz.prog w1 N) Q k) F' H' w) (oc:uK (xX Tryz.prog w1 N).SU [] ops=true:=by kernel_rfl):VS (xX Tryz.prog w1 N) Q (.code (.region id ops true)::k) F H w:=VS.draw (IA _ _) (XD _ _) [] oc (VO.run 80 e h)
end
structure FzL (K:KC):Prop where
 u:K.U=UU
 s:∀ b,K.S b
 r:K.fz fX=true
 w:K.fz gL=true
variable {x:List bh×List Uq} {B:Nat} {r u:Value} {w w':World}
theorem uf.Tn {K:KC} (h:uf B w r u x) (hK:FzL K) (k:bQ K w w') (kw:Kp UU w w'):uf B w' r u x:=by
 refine⟨h.1.imp id λ⟨rb,h0,n,c,vs,sp,h1,h2,h3⟩=>⟨rb,h0,n,c,vs,sp,h1,k.block _ rb _ hK.r (hK.s _) h2,h3.kp (aL B) kw⟩,h.2.imp id λ⟨rb,h0,n,c,vs,sp,h1,h2,h3⟩=>⟨rb,h0,n,c,vs,sp,h1,k.block _ rb _ hK.w (hK.s _) h2,h3.kp (fD B) kw⟩⟩
instance {k:Nat} {x:Rat}:Decidable (Lm k x):=by unfold Lm;infer_instance
theorem kL {w0:World} {N:Nat} (h:bQ (xX Tryz.prog w0 N).K w w':=by exact bm):Kp UU w w':=h.nD
theorem nv (w:World) (N:Nat):FzL (xX Tryz.prog w N).K:=⟨rfl,λ_=>trivial,rfl,rfl⟩
theorem uf.form (h:uf B w r u x):∃ p c p' c',r=.slice p x.1.length c/\u=.slice p' x.2.length c':=by
 have h1:∃ p c,r=.slice p x.1.length c:=by
  rcases h.1 with ⟨rfl,e⟩|⟨rb,_,n,c,vs,sp,rfl,_,h3⟩
  ·exact⟨none,0,by rw[e];rfl⟩
  ·exact⟨_,c,by rw[h3.len]⟩
 have h2:∃ p c,u=.slice p x.2.length c:=by
  rcases h.2 with ⟨rfl,e⟩|⟨rb,_,n,c,vs,sp,rfl,_,h3⟩
  ·exact⟨none,0,by rw[e];rfl⟩
  ·exact⟨_,c,by rw[h3.len]⟩
 obtain⟨p,c,e1⟩:=h1;obtain⟨p',c',e2⟩:=h2;exact⟨p,c,p',c',e1,e2⟩
def gX (q:Rat):RR:=(decide (q.num<0),limbs q.num.natAbs,decide ((q.den:Int)<0),limbs (q.den:Int).natAbs)
theorem canon_rt (q:Rat):Jd (decide (q.num<0)) (limbs q.num.natAbs) (decide ((q.den:Int)<0)) (limbs (q.den:Int).natAbs)=true:=by
 unfold Jd;rw[uD q.num,uD (q.den:Int),jV,jV];have h3:(0:Int)<q.den:=by have:=q.den_nz;omega
 have h4:Int.gcd q.num q.den=1:=by have:=q.reduced;simpa [Int.gcd,Nat.Coprime] using this
 rw[aE h3,aE h4];rfl
theorem canon_rq (q:Rat):rq (decide (q.num<0)) (limbs q.num.natAbs) (decide ((q.den:Int)<0)) (limbs (q.den:Int).natAbs)=q:=by
 unfold rq;rw[jV,jV,KV]
theorem sH (q:Rat):(gX q).q=q:=canon_rq q
theorem CK (q:Rat):(gX q).ok=true:=canon_rt q
theorem gY {q:Rat} {k:Nat} (h:fI q k):(gX q).ld k:=⟨h.1,h.2⟩
variable {c:Nat}
theorem cJ.Ju {s t:Bool} {p u:Option Addr} {a b d:Nat} {q:Rat} (h:cJ w (.agg #[.bool s,.slice p a c,.bool t,.slice u b d]) q):Eo w [.bool s,.slice p a c,.bool t,.slice u b d] (gX q):=by
 have hr:=h.raw;obtain⟨_,_,_,_,hv,h1,h2⟩:=hr;simp only[Value.agg.injEq,Array.mk.injEq,List.cons.injEq,Value.bool.injEq,Value.slice.injEq,and_true] at hv;obtain⟨rfl,⟨rfl,rfl,rfl⟩,rfl,rfl,rfl,rfl⟩:=hv;exact⟨_,_,_,_,aa,_,_,_,_,aa,h1,h2⟩
theorem vX (n:Int) (h0: -9223372036854775808<=n) (h1:n<=9223372036854775807):fI (Rat.divInt n 1) 2:=sq h0 h1 bq bq
theorem eX (n e:Int) (w:World) (h0: -9223372036854775808<=n) (h1:n<=9223372036854775807) (g0: -9223372036854775808<=e) (g1:e<=9223372036854775807):
  Calls Tryz.prog 32 #[.int .i64 n,.int .i64 e] w λo w'=>∃ v,o=.returned v/\(∃ s p a c t y m d s' p' a' c' t' y' m' d',v=.agg #[.bool s,.slice p a c,.bool t,.slice y m d,.bool s',.slice p' a' c',.bool t',.slice y' m' d']/\pW 2 w' [.bool s,.slice p a c,.bool t,.slice y m d,.bool s',.slice p' a' c',.bool t',.slice y' m' d'] (gX (Rat.divInt n 1),gX (Rat.divInt e 1)))/\aU w w':=by
 refine ah (C:=cH Tryz.prog w _) (args:=[_,_]) pR aa Tryz.ntmps32 (bM aa) ?_;refine ae ?_;refine VO.cR aa aa (fk pQ) (λbn cG bo=>fC n 1 bn h0 h1 ab ab) (λbn cG bo w1 s1 p1 n1 c1 t1 y1 m1 d1 q1 bA eF _ bb1=>wV aa ?_);refine ae ?_;refine VO.cR aa aa (fk pQ) (λcz dB cT=>fC e 1 cz g0 g1 ab ab) (λcz dB cT w2 s2 p2 n2 c2 t2 y2 m2 d2 q2 cC fe _ bb2=>wV aa ?_);refine ae ?_;refine bl ?_;intro wz kz bz;exact⟨_,aa,⟨_,_,_,_,_,_,_,_,_,_,_,_,_,_,_,_,aa,[.bool s1,.slice p1 n1 c1,.bool t1,.slice y1 m1 d1],[.bool s2,.slice p2 n2 c2,.bool t2,.slice y2 m2 d2],aa,(q1.kr).Ju,(q2.kr).Ju,gY (vX n h0 h1),gY (vX e g0 g1)⟩,bz⟩
abbrev CL:Rat:=(Rat.divInt 3 10)
abbrev zW:Rat:=(Rat.divInt 50 1)
theorem gG (w:World):Calls Tryz.prog 33 #[] w λo w'=>∃ v,o=.returned v/\fY w' v (gX CL) (gX zW) 2/\aU w w':=by
 refine ah (C:=cH Tryz.prog w _) (args:=[]) Ai aa Tryz.ntmps33 (bM aa) ?_;refine ae ?_;refine VO.cR aa aa (fk pQ) (λbn cG bo=>fC 3 10 bn ab ab ab ab) (λbn cG bo w1 s1 p1 n1 c1 t1 y1 m1 d1 q1 bA eF _ bb1=>wV aa ?_);refine ae ?_;refine VO.cR aa aa (fk pQ) (λcz dB cT=>fC 50 1 cz ab ab ab ab) (λcz dB cT w2 s2 p2 n2 c2 t2 y2 m2 d2 q2 cC fe _ bb2=>wV aa ?_);refine ae ?_;refine bl ?_;intro wz kz bz;obtain⟨a1,a2,a3,a4,a5,a6⟩:=(q1.kr (w':=wz)).Ju;obtain⟨b1,b2,b3,b4,b5,b6⟩:=(q2.kr (w':=wz)).Ju;refine⟨_,aa,⟨a1,a2,a3,a4,b1,b2,b3,b4,?_,a6,b6⟩,bz⟩;simp only[List.cons.injEq,and_true] at a5 b5;obtain⟨x1,x2,x3,x4⟩:=a5;obtain⟨z1,z2,z3,z4⟩:=b5;rw[x1,x2,x3,x4,z1,z2,z3,z4];rfl
theorem QG (l:List (Rat×Rat)):cD (l.map λe=>(gX e.1,gX e.2))=l:=by
 unfold cD;rw[yC]
 conv=>rhs;rw[<-List.map_id l]
 refine yw λx _=> ?_;show ((gX x.1).q,(gX x.2).q)=x;rw[sH,sH]
theorem all_crr (l:List (Rat×Rat)):(l.map λe=>(gX e.1,gX e.2)).all iV=true:=by
 rw[bR];intro x hx;obtain⟨e,_,rfl⟩:=fv.1 hx;show ((gX e.1).ok && (gX e.2).ok)=true;rw[CK,CK];rfl
theorem VC {S F:Rat} {keep:Int} (h0:0<=S) (h1:S<=1) (Di:0<=keep) (Hd:keep<=40):fw (gX S) (gX F) keep=true:=by
 unfold fw;rw[CK,CK,sH,aE (Bj.2 h0),aE (qf.2 h1),aE Di,aE Hd];rfl
theorem BB (v u:Value) (S F:Rat) (kn n:Nat) (l:List (Rat×Rat)) (w:World) (hR:fY w v (gX S) (gX F) (kn:Int)) (hl:dm (pW 2) 8 w u (l.map λe=>(gX e.1,gX e.2))) (hsS:fI S 2) (hsF:fI F 2) (h0:0<=S) (h1:S<=1) (hk:kn<=40) (hn:n<=40) (hlen:l.length<=n) (hS:Lm 3 S) (hF:Lm 3 F) (hL:∀ e∈l,Lm 3 e.1/\Lm 3 e.2) (x:List bh×List Uq) (hx:pH S F kn l=x):
  Calls Tryz.prog 11 #[v,u] w λo w'=>∃ r u',o=.returned (.tuple #[.agg #[r,u'],.int .i64 0])/\uf w.heap.size w' r u' x/\aU w w':=by
 have hM:=numsOk hS hF h0 h1 hL hlen (k:=3) bq;have:=Vy v u (gX S) (gX F) kn (l.map λe=>(gX e.1,gX e.2)) 2 (2*3*n+3*3+1) _ _ w hR (gY hsS) (gY hsF) hl bq ab ab (VC h0 h1 ab ab) (all_crr l) (by rw[bu];omega) hk (by rw[QG,sH,sH];exact hM);rw[QG,sH,sH,hx] at this;exact this
theorem led_x:pH CL zW 2 [((Rat.divInt 200 1),(Rat.divInt 400 1))]=([⟨(Rat.divInt 120 1),(Rat.divInt 120 1),(Rat.divInt 80 1),(Rat.divInt 0 1),(Rat.divInt 120 1),(Rat.divInt 0 1),(Rat.divInt 80 1)⟩],[]):=by decide+kernel
theorem led_y:pH CL zW 2 [((Rat.divInt 200 1),(Rat.divInt 400 1)),((Rat.divInt 20 1),(Rat.divInt 300 1)),((Rat.divInt (-10) 1),(Rat.divInt 0 1))]=([⟨(Rat.divInt 120 1),(Rat.divInt 120 1),(Rat.divInt 80 1),(Rat.divInt 0 1),(Rat.divInt 120 1),(Rat.divInt 0 1),(Rat.divInt 0 1)⟩,⟨(Rat.divInt 90 1),(Rat.divInt 20 1),(Rat.divInt 0 1),(Rat.divInt 70 1),(Rat.divInt 90 1),(Rat.divInt 0 1),(Rat.divInt 0 1)⟩,⟨(Rat.divInt 50 1),(Rat.divInt (-10) 1),(Rat.divInt 0 1),(Rat.divInt 10 1),(Rat.divInt 0 1),(Rat.divInt 0 1),(Rat.divInt 0 1)⟩],[(0,1,(Rat.divInt 70 1)),(0,2,(Rat.divInt 10 1))]):=by decide+kernel
theorem led_z:pH CL zW 2 [((Rat.divInt 200 1),(Rat.divInt 400 1)),((Rat.divInt 100 1),(Rat.divInt 0 1)),((Rat.divInt 300 1),(Rat.divInt 100 1))]=([⟨(Rat.divInt 120 1),(Rat.divInt 120 1),(Rat.divInt 80 1),(Rat.divInt 0 1),(Rat.divInt 120 1),(Rat.divInt 80 1),(Rat.divInt 0 1)⟩,⟨(Rat.divInt 50 1),(Rat.divInt 50 1),(Rat.divInt 50 1),(Rat.divInt 0 1),(Rat.divInt 50 1),(Rat.divInt 0 1),(Rat.divInt 50 1)⟩,⟨(Rat.divInt 50 1),(Rat.divInt 50 1),(Rat.divInt 250 1),(Rat.divInt 0 1),(Rat.divInt 50 1),(Rat.divInt 0 1),(Rat.divInt 250 1)⟩],[]):=by decide+kernel
def bh.Pd (r:bh):Nat->Rat
 | 0=>r.aX
 | 1=>r.allowed
 | 2=>r.az
 | 3=>r.used
 | 4=>r.ao
 | 5=>r.aq
 | _=>r.closing
variable {cs:List Value}
theorem row7_fld {r:bh} (h:gF B w cs r) (f:Nat) (hf:f<=6):∃ a pre post,cs=pre++(a++post)/\pre.length=4*f/\R4 B w a (r.Pd f):=by
 obtain⟨a,b,c,d,e,g,i,rfl,h1,h2,h3,h4,h5,h6,h7⟩:=h;have l1:=h1.len;have l2:=h2.len;have l3:=h3.len;have l4:=h4.len;have l5:=h5.len;have l6:=h6.len
 match f,hf with
 | 0,_=>exact⟨a,[],_,aa,aa,h1⟩
 | 1,_=>exact⟨b,a,_,aa,l1,h2⟩
 | 2,_=>exact⟨c,a++b,_,by rw[fu],by simp[l1,l2],h3⟩
 | 3,_=>exact⟨d,a++(b++c),e++(g++i),by simp only[List.append_assoc],by simp[l1,l2,l3],h4⟩
 | 4,_=>exact⟨e,a++(b++(c++d)),g++i,by simp only[List.append_assoc],by simp[l1,l2,l3,l4],h5⟩
 | 5,_=>exact⟨g,a++(b++(c++(d++e))),i,by simp only[List.append_assoc],by simp[l1,l2,l3,l4,l5],h6⟩
 | 6,_=>exact⟨i,a++(b++(c++(d++(e++g)))),[],by simp only[List.append_assoc,List.append_nil],by simp[l1,l2,l3,l4,l5,l6],h7⟩
variable {vs:List (List Value)} {sp:List Value} {i:Nat} {α:Type} {es:List α} {t:TypeId} {E:World->List Value->α->Prop}
theorem QH {sz:Nat} (hE:jo E sz) {b n:Nat} {x:α} (hc:bO w b t (vs.flatten++sp).toArray) (h:fm E sz w n 0 c [] vs sp es) (hx:es[i]? =some x):
  ∃ cs,E w cs x/\∀ (pre a post:List Value),cs=pre++(a++post)->∀ off,off=i*sz+pre.length->∀ (j:Nat) (u:Value),a[j]? =some u->w.cell? ((⟨b,off,none⟩:Addr).add j)=some u:=by
 obtain⟨cs,hcs,hEx⟩:=h.el.at i x hx;refine⟨cs,hEx,λpre a post hsp off hoff j u hj=> ?_⟩;rw[ju];refine hc.cell ?_;have jG:cs.length=sz:=hE.len hEx;have hjl:=(cQ.1 hj).1;obtain⟨hlt,hxx⟩:=cQ.1 hcs;have Jq:vs=vs.take i++cs::vs.drop (i+1):=by rw[<-hxx,<-mG hlt,qB]
 have hal:(vs.take i).flatten.length=i*sz:=by
  rw[fb (λy hy=>h.el.lens hE y (nI hy)),cM,ig ab]
 rw[CT,Jq,Ui,fu,jT ab,hal,oA,fu,hsp,hoff,show i*sz+pre.length+j-i*sz=pre.length+j by omega,fu,jT ab,JF,fu,gm hjl];exact hj
theorem xY {b n:Nat} {es:List bh} {x:bh} (f:Nat) (hf:f<=6) (hc:bO w b fX (vs.flatten++sp).toArray) (h:fm (gF B) 28 w n 0 c [] vs sp es) (hx:es[i]? =some x):
  ∃ s p a k t y m d,aW w B (.agg #[.bool s,.slice p a k,.bool t,.slice y m d]) (x.Pd f)/\∀ off,off=i*28+4*f->∀ (j:Nat) (u:Value),([.bool s,.slice p a k,.bool t,.slice y m d]:List Value)[j]? =some u->w.cell? ((⟨b,off,none⟩:Addr).add j)=some u:=by
 obtain⟨cs,hE,hcs⟩:=QH (aL B) hc h hx;obtain⟨a,pre,post,e,hl,s,p,n',c',t,y,m,d,rfl,hq⟩:=row7_fld hE f hf;exact⟨s,p,n',c',t,y,m,d,hq,λoff ho=>hcs pre _ post e off (by rw[hl];exact ho)⟩
theorem VD {b n:Nat} {es:List Uq} {x:Uq} (hc:bO w b gL (vs.flatten++sp).toArray) (h:fm (vU B) 6 w n 0 c [] vs sp es) (hx:es[i]? =some x):
  ∃ s p a k t y m d,aW w B (.agg #[.bool s,.slice p a k,.bool t,.slice y m d]) x.2.2/\(∀ off,off=i*6+2->∀ (j:Nat) (u:Value),([.bool s,.slice p a k,.bool t,.slice y m d]:List Value)[j]? =some u->w.cell? ((⟨b,off,none⟩:Addr).add j)=some u)/\
    (∀ off,off=i*6+1->∀ (j:Nat) (u:Value),([.int .i64 (x.2.1:Int)]:List Value)[j]? =some u->w.cell? ((⟨b,off,none⟩:Addr).add j)=some u)/\(∀ off,off=i*6->∀ (j:Nat) (u:Value),([.int .i64 (x.1:Int)]:List Value)[j]? =some u->w.cell? ((⟨b,off,none⟩:Addr).add j)=some u)/\
    (∀ off,off=i*6->∀ (j:Nat) (u:Value),([.int .i64 (x.1:Int),.int .i64 (x.2.1:Int),.bool s,.slice p a k,.bool t,.slice y m d]:List Value)[j]? =some u->w.cell? ((⟨b,off,none⟩:Addr).add j)=some u):=by
 obtain⟨cs,hE,hcs⟩:=QH (fD B) hc h hx;obtain⟨s,p,n',c',t,y,m,d,rfl,hq⟩:=hE;exact⟨s,p,n',c',t,y,m,d,hq,λoff ho=>hcs [.int .i64 (x.1:Int),.int .i64 (x.2.1:Int)] _ [] aa off ho,λoff ho=>hcs [.int .i64 (x.1:Int)] [.int .i64 (x.2.1:Int)] [.bool s,.slice p n' c',.bool t,.slice y m d] aa off ho,λoff ho=>hcs [] [.int .i64 (x.1:Int)] [.int .i64 (x.2.1:Int),.bool s,.slice p n' c',.bool t,.slice y m d] aa off ho,λoff ho=>hcs [] _ [] aa off ho⟩
set_option maxRecDepth 4000
variable {P Q:Prop}
theorem bJ (h:Q) (i:Q->P:=by intro h;(repeat first|refine wN ?_|refine wP rfl ?_|refine cxL_r rfl ?_|refine cxL_d rfl ?_|refine wO rfl rfl ?_);exact h):P:=i h
theorem eC {X:Prop} (hb:X) (h:Q) (i:X->Q->P:=by intro hb h;refine⟨_,rfl,hb,λa b c=>wV rfl ?_⟩;refine bJ ?_;revert a b c;exact h):P:=i hb h
set_option maxRecDepth 4000 in
theorem dR (w:World):Calls Tryz.prog 9 #[] w λo w'=>o=.returned (.bool true)/\aU w w':=by
 have hsS:fI CL 2:=sq bq bq bq bq;have hsF:fI zW 2:=sq bq bq bq bq;have ND:Lm 3 CL:=by unfold Lm;decide+kernel
 have NF:Lm 3 zW:=by unfold Lm;decide+kernel
 refine ah (C:=xX Tryz.prog w _) (args:=[]) nM aa Tryz.ntmps9 (bM aa) ?_;refine bJ ?_;refine VO.call aa aa (fk Ai) (λbn cG bo=>(gG bn).mono ?_);rintro e w1 ⟨r1,rfl,q1,bA⟩
 skip
 refine eC bA ?_;intro eF _ bb1;refine VO.call aa aa (fk pR) (λcz dB cT=>(eX 200 400 cz ab ab ab ab).mono ?_);rintro e w2 ⟨r2,rfl,⟨s2,p2,n2,c2,t2,y2,m2,d2,e2,f2,g2,h2,i2,j2,k2,l2,rfl,q2⟩,cC⟩
 skip
 refine eC cC ?_;intro fe _ bb2;refine VO.eB aa (fk kW) (λeP β fA ft ho=>((BB _ _ CL zW 2 1 [((Rat.divInt 200 1),(Rat.divInt 400 1))] eP (q1.kp kL) (gw (bg 2) (ho.own 11 (.base (aJ.2 aa)) _ _ aa) [] (vs:=[[.bool s2,.slice p2 n2 c2,.bool t2,.slice y2 m2 d2,.bool e2,.slice f2 g2 h2,.bool i2,.slice j2 k2 l2]]) (by rfl) (cd.cons ((bg 2).kp q2 kL) (cd.nil)) aa (bM aa) bq) hsS hsF (by decide+kernel) (by decide+kernel) bq bq bq ND NF (by decide+kernel) _ led_x).mono (λo w2 h=>And.intro h ft.size)).mono ?_);rintro o w3 ⟨⟨r3,u3,rfl,l3,dZ⟩,Iu⟩;obtain⟨pr3,cr3,pu3,cu3,rfl,rfl⟩:=l3.form;refine eC dZ ?_;intro jm _ bb3;refine VO.call aa aa (fk Ai) (λfW iJ iB=>(gG fW).mono ?_);rintro e w4 ⟨r4,rfl,q4,ic⟩
 skip
 refine eC ic ?_;intro mB _ tI;refine VO.call aa aa (fk pR) (λfQ iH fV=>(eX 200 400 fQ ab ab ab ab).mono ?_);rintro e w5 ⟨r5,rfl,⟨s5,p5,n5,c5,t5,y5,m5,d5,e5,f5,g5,h5,i5,j5,k5,l5,rfl,q5⟩,iz⟩
 skip
 refine eC iz ?_;intro lg _ sR;refine VO.call aa aa (fk pR) (λfJ iK gE=>(eX 20 300 fJ ab ab ab ab).mono ?_);rintro e w6 ⟨r6,rfl,⟨s6,p6,n6,c6,t6,y6,m6,d6,e6,f6,g6,h6,i6,j6,k6,l6,rfl,q6⟩,ln⟩
 skip
 refine eC ln ?_;intro lH _ sj;refine VO.call aa aa (fk pR) (λjS na jI=>(eX (-10) 0 jS ab ab ab ab).mono ?_);rintro e w7 ⟨r7,rfl,⟨s7,p7,n7,c7,t7,y7,m7,d7,e7,f7,g7,h7,i7,j7,k7,l7,rfl,q7⟩,ta⟩
 skip
 refine eC ta ?_;intro rB _ Ct;refine VO.eB aa (fk kW) (λpV β yn ru ho=>((BB _ _ CL zW 2 3 [((Rat.divInt 200 1),(Rat.divInt 400 1)),((Rat.divInt 20 1),(Rat.divInt 300 1)),((Rat.divInt (-10) 1),(Rat.divInt 0 1))] pV (q4.kp kL) (gw (bg 2) (ho.own 20 (.base (aJ.2 aa)) _ _ aa) [] (vs:=[[.bool s5,.slice p5 n5 c5,.bool t5,.slice y5 m5 d5,.bool e5,.slice f5 g5 h5,.bool i5,.slice j5 k5 l5],[.bool s6,.slice p6 n6 c6,.bool t6,.slice y6 m6 d6,.bool e6,.slice f6 g6 h6,.bool i6,.slice j6 k6 l6],[.bool s7,.slice p7 n7 c7,.bool t7,.slice y7 m7 d7,.bool e7,.slice f7 g7 h7,.bool i7,.slice j7 k7 l7]]) (by rfl) (cd.cons ((bg 2).kp q5 kL) (cd.cons ((bg 2).kp q6 kL) (cd.cons ((bg 2).kp q7 kL) (cd.nil)))) aa (bM aa) bq) hsS hsF (by decide+kernel) (by decide+kernel) bq bq bq ND NF (by decide+kernel) _ led_y).mono (λo w2 h=>And.intro h ru.size)).mono ?_);rintro o w8 ⟨⟨r8,u8,rfl,l8,vG⟩,En⟩;obtain⟨pr8,cr8,pu8,cu8,rfl,rfl⟩:=l8.form;refine eC vG ?_;intro vP _ KW;refine VO.call aa aa (fk Ai) (λRs Yu Rt=>(gG Rs).mono ?_);rintro e w9 ⟨r9,rfl,q9,Sg⟩
 skip
 refine eC Sg ?_;intro Jp _ bb9;refine VO.call aa aa (fk pR) (λnb rC qV=>(eX 200 400 nb ab ab ab ab).mono ?_);rintro e Yv ⟨r10,rfl,⟨s10,p10,n10,c10,t10,y10,m10,d10,e10,f10,g10,h10,i10,j10,Xy,l10,rfl,q10⟩,xk⟩
 skip
 refine eC xk ?_;intro kf _ Hv;refine VO.call aa aa (fk pR) (λrD tK xm=>(eX 100 0 rD ab ab ab ab).mono ?_);rintro e w11 ⟨r11,rfl,⟨s11,p11,n11,c11,t11,y11,m11,d11,e11,f11,g11,h11,i11,j11,k11,l11,rfl,q11⟩,Cu⟩
 skip
 refine eC Cu ?_;intro qe _ Qc;refine VO.call aa aa (fk pR) (λsU yo vQ=>(eX 300 100 sU ab ab ab ab).mono ?_);rintro e w12 ⟨r12,rfl,⟨s12,p12,n12,c12,t12,y12,m12,d12,e12,f12,g12,Jn,i12,j12,k12,l12,rfl,q12⟩,Cv⟩
 skip
 refine eC Cv ?_;intro tL _ Qd;refine VO.eB aa (fk kW) (λyq β Hw xn ho=>((BB _ _ CL zW 2 3 [((Rat.divInt 200 1),(Rat.divInt 400 1)),((Rat.divInt 100 1),(Rat.divInt 0 1)),((Rat.divInt 300 1),(Rat.divInt 100 1))] yq (q9.kp kL) (gw (bg 2) (ho.own 29 (.base (aJ.2 aa)) _ _ aa) [] (vs:=[[.bool s10,.slice p10 n10 c10,.bool t10,.slice y10 m10 d10,.bool e10,.slice f10 g10 h10,.bool i10,.slice j10 Xy l10],[.bool s11,.slice p11 n11 c11,.bool t11,.slice y11 m11 d11,.bool e11,.slice f11 g11 h11,.bool i11,.slice j11 k11 l11],[.bool s12,.slice p12 n12 c12,.bool t12,.slice y12 m12 d12,.bool e12,.slice f12 g12 Jn,.bool i12,.slice j12 k12 l12]]) (by rfl) (cd.cons ((bg 2).kp q10 kL) (cd.cons ((bg 2).kp q11 kL) (cd.cons ((bg 2).kp q12 kL) (cd.nil)))) aa (bM aa) bq) hsS hsF (by decide+kernel) (by decide+kernel) bq bq bq ND NF (by decide+kernel) _ led_z).mono (λo w2 h=>And.intro h xn.size)).mono ?_);rintro o vI ⟨⟨r13,u13,rfl,l13,Xi⟩,hsz13⟩;obtain⟨pr13,cr13,pu13,cu13,rfl,rfl⟩:=l13.form;refine⟨_,aa,Xi,λCw _ bb13=>wV aa ?_⟩
 (repeat (first|refine wN ?_|refine wP aa ?_|refine wO aa aa ?_))
 refine VS.xV (KU UU) (λt=>Nat.beq t 22) table (λ_ _ _=>trivial) (λNA β k14 b14 en=> ?_);have o1:=en.own 1 _ _ aa;have o3:=en.own 3 _ _ aa;have o5:=en.own 5 _ _ aa;have h13:β 1≠β 3:=λe=>absurd (en.apart 1 3 (by intro h;cases h) (by intro h;cases h) e) bq;have h15:β 1≠β 5:=λe=>absurd (en.apart 1 5 (by intro h;cases h) (by intro h;cases h) e) bq;have h35:β 3≠β 5:=λe=>absurd (en.apart 3 5 (by intro h;cases h) (by intro h;cases h) e) bq;have kk3:bQ (xX Tryz.prog w 161).K w3 NA:=((((((((((mB).aR lg).aR lH).aR rB).aR vP).aR Jp).aR kf).aR qe).aR tL).aR Cw).aR k14;have l3':=l3.Tn (nv w 161) kk3 kk3.nD;have kk8:bQ (xX Tryz.prog w 161).K w8 NA:=(((((Jp).aR kf).aR qe).aR tL).aR Cw).aR k14;have l8':=l8.Tn (nv w 161) kk8 kk8.nD;have kk13:bQ (xX Tryz.prog w 161).K vI NA:=k14;have l13':=l13.Tn (nv w 161) kk13 kk13.nD
 have xw:nd (KU UU) 161 [β 1,β 3,β 5] [(nH,[.val (.slice pr3 1 cr3),.val (.slice pu3 0 cu3)]),(nH,[.val (.slice pr8 3 cr8),.val (.slice pu8 2 cu8)]),(nH,[.val (.slice pr13 3 cr13),.val (.slice pu13 0 cu13)])] NA:=by
  refine⟨aa,by simp[h13,h15,h35],λj g' c' hj hc=> ?_,λc' hc=> ?_,λc' hc k hk=> ?_⟩
  ·match j,hj,hc with
   | 0,hj,hc=>cases hj;cases hc;exact o1.cls
   | 1,hj,hc=>cases hj;cases hc;exact o3.cls
   | 2,hj,hc=>cases hj;cases hc;exact o5.cls
   | j+3,hj,_=>simp at hj
  ·simp only[List.mem_cons,List.not_mem_nil,or_false] at hc;rcases hc with rfl|rfl|rfl <;> exact⟨aa,aa⟩
  ·simp only[List.mem_cons,List.not_mem_nil,or_false] at hc;rcases hc with rfl|rfl|rfl <;> cases hk
 have g1:=o1.cls;have g3:=o3.cls;have g5:=o5.cls;refine⟨[β 1,β 3,β 5],_,xw,[(0,.val (.bool false)),(1,.box 322 0),(2,.val (.int .i64 0)),(3,.box 323 0),(4,.val (.int .i64 0)),(5,.box 324 0),(6,.val (.int .i64 0))],⟨⟨_,aa,aa,λi hi=>(by cases hi)⟩,⟨_,aa,aa,λi hi=>by rw[(by simpa [AV.ids] using hi:i=322)];exact⟨(by show 322<=322;omega),(by show 322<2*161+3;omega)⟩⟩,⟨_,aa,aa,λi hi=>(by cases hi)⟩,⟨_,aa,aa,λi hi=>by rw[(by simpa [AV.ids] using hi:i=323)];exact⟨(by show 322<=323;omega),(by show 323<2*161+3;omega)⟩⟩,⟨_,aa,aa,λi hi=>(by cases hi)⟩,⟨_,aa,aa,λi hi=>by rw[(by simpa [AV.ids] using hi:i=324)];exact⟨(by show 322<=324;omega),(by show 324<2*161+3;omega)⟩⟩,⟨_,aa,aa,λi hi=>(by cases hi)⟩,ag⟩,?_⟩;obtain⟨rb3,hB3,nn3,cc3,Vv,Vw,e3',Ep,hor3⟩:=l3'.1.resolve_left (λh=>by cases h.2);simp only[Value.slice.injEq] at e3';obtain⟨rfl,rfl,rfl⟩:=e3';obtain⟨rb13,hB13,nn13,cc13,vs13,sp13,e13',vM,hor13⟩:=l13'.1.resolve_left (λh=>by cases h.2);simp only[Value.slice.injEq] at e13';obtain⟨rfl,rfl,rfl⟩:=e13';obtain⟨rb8,hB8,nn8,cc8,vs8,sp8,e8',Er,hor8⟩:=l8'.2.resolve_left (λh=>by cases h.2);simp only[Value.slice.injEq] at e8';obtain⟨rfl,rfl,rfl⟩:=e8'
 have XE:rb3∉[β 1,β 3,β 5]:=λhm=>by
  simp only[List.mem_cons,List.not_mem_nil,or_false] at hm;rcases hm with h|h|h
  ·rw[h] at Ep;exact absurd (cK Ep g1) bq
  ·rw[h] at Ep;exact absurd (cK Ep g3) bq
  ·rw[h] at Ep;exact absurd (cK Ep g5) bq
 have hn8:rb8∉[β 1,β 3,β 5]:=λhm=>by
  simp only[List.mem_cons,List.not_mem_nil,or_false] at hm;rcases hm with h|h|h
  ·rw[h] at Er;exact absurd (cK Er g1) bq
  ·rw[h] at Er;exact absurd (cK Er g3) bq
  ·rw[h] at Er;exact absurd (cK Er g5) bq
 have hn13:rb13∉[β 1,β 3,β 5]:=λhm=>by
  simp only[List.mem_cons,List.not_mem_nil,or_false] at hm;rcases hm with h|h|h
  ·rw[h] at vM;exact absurd (cK vM g1) bq
  ·rw[h] at vM;exact absurd (cK vM g3) bq
  ·rw[h] at vM;exact absurd (cK vM g5) bq
 obtain⟨s20,p20,n20,c20,t20,y20,m20,d20,hq20,hc20⟩:=xY 0 bq Ep hor3 (i:=0) aa;obtain⟨s21,p21,n21,c21,t21,y21,m21,d21,hq21,hc21⟩:=xY 2 bq Ep hor3 (i:=0) aa;obtain⟨s22,p22,n22,c22,t22,y22,m22,d22,hq22,hc22⟩:=xY 6 bq Ep hor3 (i:=0) aa;obtain⟨s25,p25,n25,c25,t25,y25,m25,d25,hq25,hc25⟩:=xY 5 bq vM hor13 (i:=0) aa;obtain⟨s26,p26,n26,c26,t26,y26,m26,d26,hq26,hc26⟩:=xY 6 bq vM hor13 (i:=1) aa;obtain⟨s27,p27,n27,c27,t27,y27,m27,d27,hq27,hc27⟩:=xY 6 bq vM hor13 (i:=2) aa;obtain⟨XF,XG,XH,XI,t23,XJ,XK,d23,hq23,hc23,hy23,-⟩:=VD Er hor8 (i:=0) aa;obtain⟨s24,p24,n24,c24,t24,y24,m24,d24,hq24,hc24,hy24,-⟩:=VD Er hor8 (i:=1) aa;refine aj ?_;refine VO.cond aa ⟨bq,bq⟩ (wV aa ?_);refine aj ?_;refine VO.iR aa [.bool s20,.slice p20 n20 c20,.bool t20,.slice y20 m20 d20] aa (sG Ep.lt XE (hc20 _ aa)) (wV aa ?_);refine aj ?_;refine VO.cR aa aa (fk pQ) (λwa40 ka40 ba40=>fC 120 1 wa40 ab ab ab ab) (λwa40 ka40 ba40 w40 s40 p40 n40 c40 t40 y40 m40 d40 q40 hb40 kb40 _ bb40=>wV aa ?_);refine aj ?_;refine VO.cB aa aa (fk jU) (λBC MC zM=>ek _ _ (Rat.divInt 120 1) (Rat.divInt 120 1) 2 2 BC ((show aW NA _ _ (Rat.divInt 120 1) from hq20).ki (vX 120 ab ab)) (q40.ki (vX 120 ab ab)) ab ab 0 (gW aa)) (λBC MC zM w41 hb41 kb41 _ bb41=>wV aa ?_);refine aj ?_;refine VO.cond aa ⟨bq,bq⟩ (wV aa ?_);refine aj ?_;refine VO.iR aa [.bool s21,.slice p21 n21 c21,.bool t21,.slice y21 m21 d21] aa (sG Ep.lt XE (hc21 _ aa)) (wV aa ?_);refine aj ?_;refine VO.cR aa aa (fk pQ) (λwa42 ka42 ba42=>fC 80 1 wa42 ab ab ab ab) (λwa42 ka42 ba42 w42 s42 p42 n42 c42 t42 y42 m42 d42 q42 hb42 kb42 _ bb42=>wV aa ?_);refine aj ?_;refine VO.cB aa aa (fk jU) (λwa43 ka43 ba43=>ek _ _ (Rat.divInt 80 1) (Rat.divInt 80 1) 2 2 wa43 ((show aW NA _ _ (Rat.divInt 80 1) from hq21).ki (vX 80 ab ab)) (q42.ki (vX 80 ab ab)) ab ab 0 (gW aa)) (λwa43 ka43 ba43 w43 hb43 kb43 _ bb43=>wV aa ?_);refine aj ?_;refine VO.cond aa ⟨bq,bq⟩ (wV aa ?_);refine aj ?_;refine VO.iR aa [.bool s22,.slice p22 n22 c22,.bool t22,.slice y22 m22 d22] aa (sG Ep.lt XE (hc22 _ aa)) (wV aa ?_);refine aj ?_;refine VO.cR aa aa (fk pQ) (λwa44 ka44 ba44=>fC 80 1 wa44 ab ab ab ab) (λwa44 ka44 ba44 w44 s44 p44 n44 c44 t44 y44 m44 d44 q44 hb44 kb44 _ bb44=>wV aa ?_);refine aj ?_;refine VO.cB aa aa (fk jU) (λwa45 ka45 ba45=>ek _ _ (Rat.divInt 80 1) (Rat.divInt 80 1) 2 2 wa45 ((show aW NA _ _ (Rat.divInt 80 1) from hq22).ki (vX 80 ab ab)) (q44.ki (vX 80 ab ab)) ab ab 0 (gW aa)) (λwa45 ka45 ba45 w45 hb45 kb45 _ bb45=>wV aa ?_);refine aj ?_;refine VO.cond aa ⟨bq,bq⟩ (wV aa ?_);refine aj ?_;refine VO.iR aa [.bool XF,.slice XG XH XI,.bool t23,.slice XJ XK d23] aa (sG Er.lt hn8 (hc23 _ aa)) (wV aa ?_);refine aj ?_;refine VO.cR aa aa (fk pQ) (λwa46 ka46 ba46=>fC 70 1 wa46 ab ab ab ab) (λwa46 ka46 ba46 w46 s46 p46 n46 c46 t46 y46 m46 d46 q46 hb46 kb46 _ bb46=>wV aa ?_);refine aj ?_;refine VO.cB aa aa (fk jU) (λwa47 ka47 ba47=>ek _ _ (Rat.divInt 70 1) (Rat.divInt 70 1) 2 2 wa47 ((show aW NA _ _ (Rat.divInt 70 1) from hq23).ki (vX 70 ab ab)) (q46.ki (vX 70 ab ab)) ab ab 0 (gW aa)) (λwa47 ka47 ba47 w47 hb47 kb47 _ bb47=>wV aa ?_);refine aj ?_;refine VO.cond aa ⟨bq,bq⟩ (wV aa ?_);refine aj ?_;refine VO.iR aa [.int .i64 ((1:Nat):Int)] aa (sG Er.lt hn8 (hy23 _ aa)) (wV aa ?_);refine aj ?_;refine VO.cond aa ⟨bq,bq⟩ (wV aa ?_);refine aj ?_;refine VO.iR aa [.bool s24,.slice p24 n24 c24,.bool t24,.slice y24 m24 d24] aa (sG Er.lt hn8 (hc24 _ aa)) (wV aa ?_);refine aj ?_;refine VO.cR aa aa (fk pQ) (λwa48 ka48 ba48=>fC 10 1 wa48 ab ab ab ab) (λwa48 ka48 ba48 w48 s48 p48 n48 c48 t48 y48 m48 d48 q48 hb48 kb48 _ bb48=>wV aa ?_);refine aj ?_;refine VO.cB aa aa (fk jU) (λwa49 ka49 ba49=>ek _ _ (Rat.divInt 10 1) (Rat.divInt 10 1) 2 2 wa49 ((show aW NA _ _ (Rat.divInt 10 1) from hq24).ki (vX 10 ab ab)) (q48.ki (vX 10 ab ab)) ab ab 0 (gW aa)) (λwa49 ka49 ba49 w49 hb49 kb49 _ bb49=>wV aa ?_);refine aj ?_;refine VO.cond aa ⟨bq,bq⟩ (wV aa ?_);refine aj ?_;refine VO.iR aa [.int .i64 ((2:Nat):Int)] aa (sG Er.lt hn8 (hy24 _ aa)) (wV aa ?_);refine aj ?_;refine VO.cond aa ⟨bq,bq⟩ (wV aa ?_);refine aj ?_;refine VO.iR aa [.bool s25,.slice p25 n25 c25,.bool t25,.slice y25 m25 d25] aa (sG vM.lt hn13 (hc25 _ aa)) (wV aa ?_);refine aj ?_;refine VO.cR aa aa (fk pQ) (λwa50 ka50 ba50=>fC 80 1 wa50 ab ab ab ab) (λwa50 ka50 ba50 w50 s50 p50 n50 c50 t50 y50 m50 d50 q50 hb50 kb50 _ bb50=>wV aa ?_);refine aj ?_;refine VO.cB aa aa (fk jU) (λwa51 ka51 ba51=>ek _ _ (Rat.divInt 80 1) (Rat.divInt 80 1) 2 2 wa51 ((show aW NA _ _ (Rat.divInt 80 1) from hq25).ki (vX 80 ab ab)) (q50.ki (vX 80 ab ab)) ab ab 0 (gW aa)) (λwa51 ka51 ba51 w51 hb51 kb51 _ bb51=>wV aa ?_);refine aj ?_;refine VO.cond aa ⟨bq,bq⟩ (wV aa ?_);refine aj ?_;refine VO.iR aa [.bool s26,.slice p26 n26 c26,.bool t26,.slice y26 m26 d26] aa (sG vM.lt hn13 (hc26 _ aa)) (wV aa ?_);refine aj ?_;refine VO.cR aa aa (fk pQ) (λwa52 ka52 ba52=>fC 50 1 wa52 ab ab ab ab) (λwa52 ka52 ba52 w52 s52 p52 n52 c52 t52 y52 m52 d52 q52 hb52 kb52 _ bb52=>wV aa ?_);refine aj ?_;refine VO.cB aa aa (fk jU) (λwa53 ka53 ba53=>ek _ _ (Rat.divInt 50 1) (Rat.divInt 50 1) 2 2 wa53 ((show aW NA _ _ (Rat.divInt 50 1) from hq26).ki (vX 50 ab ab)) (q52.ki (vX 50 ab ab)) ab ab 0 (gW aa)) (λwa53 ka53 ba53 w53 hb53 kb53 _ bb53=>wV aa ?_);refine aj ?_;refine VO.cond aa ⟨bq,bq⟩ (wV aa ?_);refine aj ?_;refine VO.iR aa [.bool s27,.slice p27 n27 c27,.bool t27,.slice y27 m27 d27] aa (sG vM.lt hn13 (hc27 _ aa)) (wV aa ?_);refine aj ?_;refine VO.cR aa aa (fk pQ) (λwa54 ka54 ba54=>fC 250 1 wa54 ab ab ab ab) (λwa54 ka54 ba54 w54 s54 p54 n54 c54 t54 y54 m54 d54 q54 hb54 kb54 _ bb54=>wV aa ?_);refine aj ?_;refine VO.cB aa aa (fk jU) (λwa55 ka55 ba55=>ek _ _ (Rat.divInt 250 1) (Rat.divInt 250 1) 2 2 wa55 ((show aW NA _ _ (Rat.divInt 250 1) from hq27).ki (vX 250 ab ab)) (q54.ki (vX 250 ab ab)) ab ab 0 (gW aa)) (λwa55 ka55 ba55 w55 hb55 kb55 _ bb55=>wV aa ?_);refine aj ?_;refine VS.pG (cP _ _) aa (λwz βz kz oz enz=> ?_);refine⟨aa,wi.bI b14 oz.1 (λx hx=> ?_)⟩;simp only[List.mem_cons,List.not_mem_nil,or_false] at hx;rcases hx with rfl|rfl|rfl
 ·exact o1.new
 ·exact o3.new
 ·exact o5.new
set_option maxRecDepth 4000
def RrE (_:World) (cs:List Value) (e:RR):Prop:=∃ p c r d,cs=[.bool e.1,.slice p e.2.1.length c,.bool e.2.2.1,.slice r e.2.2.2.length d]
theorem mw:jo RrE 4 where
 kp:=λh _=>h
 len:=λh=>by obtain⟨p,c,r,d,rfl⟩:=h;rfl
 ok:=λh=>by obtain⟨p,c,r,d,rfl⟩:=h;rfl
def fl (l:List (RR×RR)):List RR:=l.flatMap λe=>[e.1,e.2]
theorem xA (l:List (RR×RR)):(fl l).length=2*l.length:=by
 induction l with
 | nil=>rfl
 | cons e r ih=>show (e.1::e.2::fl r).length=_;simp[ih];omega
variable {z:Nat}
theorem FX {l:List (RR×RR)} {e:RR×RR} (h:l[z]? =some e):fl (l.take (z+1))=fl (l.take z)++[e.1,e.2]:=by
 rw[dt h];unfold fl;rw[List.flatMap_append];rfl
def BD (x:RR):Bool:=decide (x.2.1.length<=3) && decide (x.2.2.2.length<=3)
theorem VE {X:List RR} {e:RR} (he:X[z]? =some e) (h:BD e=false):X.all BD=false:=by
 cases h':X.all BD with
 | false=>rfl
 | true=>rw[bR.1 h' e (cX he)] at h;cases h
theorem rsm_snoc {l:List RR} {e:RR} (he:l[z]? =some e) (h:(l.take z).all BD=true) (hw:BD e=true):(l.take (z+1)).all BD=true:=by
 rw[dt he,ja,h];simp[hw]
theorem aM {b off sz:Nat} (hc:∀ (j:Nat) (u:Value),cs[j]? =some u->w.cell? ⟨b,off+i*sz+j,none⟩=some u) (k:Nat) (ds:List Value) (hd:ds <+:cs.drop k):∀ (j:Nat) (u:Value),ds[j]? =some u->w.cell? ((⟨b,off+((i:Nat):Int).toNat*sz+k,none⟩:Addr).add j)=some u:=by
 intro j u hj;obtain⟨t,ht⟩:=hd;rw[ju,dC,yB];refine hc (k+j) u ?_;rw[<-tf,<-ht,gm (cQ.1 hj).1];exact hj
set_option maxRecDepth 4000 in
theorem XL (v:Value) (xs:List RR) (w:World) (hx:dm RrE 4 w v xs):
  Calls Tryz.prog 26 #[v] w λo w'=>o=.returned (.bool (xs.all BD))/\aU w w':=by
 obtain⟨q,c,rfl,il,iC⟩:=hx.form;obtain⟨n,hn⟩:∃ n,n=xs.length:=⟨_,aa⟩;rw[<-hn] at hx il;rw[<-hn];refine ah (C:=cH Tryz.prog w _) (args:=[_]) Aj aa Tryz.ntmps26 (bM aa) ?_;refine ae ?_;refine VS.loop (J:=λm L M w'=>∃ z:Nat,z<=n/\m=n-z/\L=[(0,.val (.slice q n c)),(3,.val (.int .i64 (z:Int)))]/\M=[]/\(xs.take z).all BD=true) n ⟨_,_,?_,?_,?_,?_,⟨0,ab,aa,aa,aa,aa⟩⟩ ?_
 ·exact⟨aa,aa,ag⟩
 ·exact cA
 ·rfl
 ·exact gn
 rintro m L M w9 ⟨z,hz,rfl,rfl,rfl,gJ⟩;refine ae ?_;by_cases kG:z<n
 ·obtain⟨e,he⟩:∃ e,xs[z]? =some e:=⟨_,ba ab⟩;obtain⟨b,off,gD,gP,hc,⟨ap,ac,ar,ad,rfl⟩⟩:=hx.at he;subst gP;refine VS.aV aa (aE (aQ.2 kG)) ?_;refine ae ?_;refine VO.cond aa dQ ?_;refine wV aa ?_;refine ae ?_;refine VO.read aa [.slice ap e.2.1.length ac] aa (aM hc 1 _ ⟨_,aa⟩) (wV aa ?_);refine ae ?_;by_cases h1:e.2.1.length<=3
  ·refine VO.fix 18 aa (au (λb=>AV.val (.bool b)) (aA (show ¬ (e.2.1.length:Int)>3 by omega))) ?_;refine ae ?_;refine VO.cond aa dQ ?_;refine wV aa ?_;refine ae ?_;refine VO.read aa [.slice ar e.2.2.2.length ad] aa (aM hc 3 _ ⟨[],aa⟩) (wV aa ?_);refine ae ?_;by_cases h2:e.2.2.2.length<=3
   ·have hs:BD e=true:=by unfold BD;rw[aE h1,aE h2];rfl
    refine VS.aP aa (aA (show ¬ (e.2.2.2.length:Int)>3 by omega)) ?_;refine ae ?_;refine VS.back (n-(z+1)) ab ⟨_,_,?_,?_,?_,?_,⟨z+1,ab,aa,aa,aa,rsm_snoc he gJ hs⟩⟩
    ·refine⟨aa,?_,ag⟩;rw[<-aD (i:=z) ab];rfl
    ·exact cA
    ·rfl
    ·exact gn
   ·have hs:BD e=false:=by unfold BD;rw[aA h2,Gh]
    refine VS.aV aa (aE (show (e.2.2.2.length:Int)>3 by omega)) ?_;refine ae ?_;refine bl ?_;intro wz kz bz;exact⟨by rw[VE he hs];rfl,bz⟩
  ·have hs:BD e=false:=by unfold BD;rw[aA h1,Bool.false_and]
   refine VO.fix 18 aa (au (λb=>AV.val (.bool b)) (aE (show (e.2.1.length:Int)>3 by omega))) ?_;refine ae ?_;refine bl ?_;intro wz kz bz;exact⟨by rw[VE he hs];rfl,bz⟩
 ·refine VS.aP aa (aA (λe=>kG (aQ.1 e))) ?_;refine ae ?_;refine bl ?_;intro wz kz bz;rw[dP ab] at gJ;exact⟨by rw[gJ];rfl,bz⟩
theorem oX (v:Value) (xs:List RR) (w:World) (hx:dm RrE 4 w v xs) (b:Bool) (hb:xs.all BD=b):
 Calls Tryz.prog 26 #[v] w λo w'=>o=.returned (.bool b)/\aU w w':=hb▸XL v xs w hx
def DV (n:Nat):Bool:=decide (n<=12) || (decide (40<n) && decide (n<=60))
def oY (S F:RR) (l:List (RR×RR)):Bool:=DV l.length && (S::F::fl l).all BD
set_option maxRecDepth 4000 in
theorem XM (v u:Value) (S F:RR) (keep:Int) (l:List (RR×RR)) (kk:Nat) (w:World) (hR:fY w v S F keep) (hv:dm (pW kk) 8 w u l):
  Calls Tryz.prog 8 #[v,u] w λo w'=>o=.returned (.bool (oY S F l))/\aU w w':=by
 obtain⟨q,c,rfl,il,iC⟩:=hv.form;obtain⟨sp,sc,sr,sd,fp,fc,fr,fd,rfl,-,-⟩:=hR;obtain⟨N,hN⟩:∃ N,N=l.length:=⟨_,aa⟩;rw[<-hN] at hv il;rw[<-hN];obtain⟨bs,hb⟩:∃ b,(S::F::fl l).all BD=b:=⟨_,aa⟩;refine ah (C:=cH Tryz.prog w _) (args:=[_,_]) Al aa Tryz.ntmps8 (bM aa) ?_;refine ae ?_;by_cases Jn:N<=12
 ·have hlen:DV l.length=true:=by unfold DV;rw[<-hN,aE Jn];rfl
  refine VO.fix 10 aa (au (λb=>AV.val (.bool b)) (aA (show ¬ (N:Int)>12 by omega))) ?_;refine ae ?_;refine VS.aP aa (aA (show ¬ (N:Int)>60 by omega)) ?_;refine ae ?_
  refine VS.loop (J:=λm L M w'=>∃ z:Nat,z<=N/\m=N-z/\∃ d vs spare cap,(d=24\/d=43)/\L=[(1,.val (.slice q N c)),(5,.row d 0 (2+2*z) cap),(6,.val (.int .i64 (z:Int)))]/\M=[(d,(26,vs.flatten.map .val++spare))]/\
   cd RrE w' (S::F::fl (l.take z)) vs/\(vs.flatten.map AV.val++spare).length=cap*4/\2+2*z<=cap/\cap<=9223372036854775807/\spare.all aY=true/\aI spare=[]) N ⟨_,_,?_,?_,?_,?_,⟨0,ab,rfl,24,[[.bool S.1,.slice sp S.2.1.length sc,.bool S.2.2.1,.slice sr S.2.2.2.length sd],[.bool F.1,.slice fp F.2.1.length fc,.bool F.2.2.1,.slice fr F.2.2.2.length fd]],[],2,.inl rfl,rfl,rfl,.cons ⟨_,_,_,_,rfl⟩ (.cons ⟨_,_,_,_,rfl⟩ .nil),rfl,ab,ab,rfl,rfl⟩⟩ ?_
  ·exact cA
  ·exact cA
  ·rfl
  ·exact⟨.append (.vals _) (.none aa),ag⟩
  rintro m L M wJ ⟨z,hz,rfl,d,vs,spare,cap,rfl|rfl,rfl,rfl,jx,QI,hzc,hcc,hsok,xw⟩
  ·refine ae ?_;by_cases hlt:z<N
   ·obtain⟨e,he⟩:∃ e,l[z]? =some e:=⟨_,ba ab⟩;obtain⟨b,off,gD,gP,hc,hE⟩:=hv.at he;subst gP;obtain⟨_,_,rfl,⟨ap,ac,ar,ad,rfl,-⟩,⟨bp,bc,br,bd,rfl,-⟩,-,-⟩:=hE;obtain⟨Mp,Ih⟩:=jx.ok mw;have SY:(S::F::fl (l.take z)).length=2+2*z:=by rw[fh,fh,xA,cM];omega
    refine VS.aV aa (aE (aQ.2 hlt)) ?_;refine ae ?_;refine VO.cond aa dQ ?_;refine wV aa ?_;refine ae ?_;refine VO.read aa [.bool e.1.1,.slice ap e.1.2.1.length ac,.bool e.1.2.2.1,.slice ar e.1.2.2.2.length ad] aa (aM hc 0 _ ⟨_,aa⟩) (wV aa ?_);refine ae ?_;refine VO.cond aa dQ ?_;refine wV aa ?_;refine ae ?_;refine VO.read aa [.bool e.2.1,.slice bp e.2.2.1.length bc,.bool e.2.2.2.1,.slice br e.2.2.2.2.length bd] aa (aM hc 4 _ ⟨[],aa⟩) (wV aa ?_);refine ae ?_
    refine VO.ZM (dD _ _) (t:=73) (e:=26) (sz:=4) (n:=2+2*z) (c:=cap) (mm:=2) (known:=vs.flatten.map .val) (spare:=spare) (del:=some 24) (news:=([.bool e.1.1,.slice ap e.1.2.1.length ac,.bool e.1.2.2.1,.slice ar e.1.2.2.2.length ad,.bool e.2.1,.slice bp e.2.2.1.length bc,.bool e.2.2.2.1,.slice br e.2.2.2.2.length bd]:List Value).map .val) (dst:=43) aa aa aa aa aa aa aa aa (bM aa) aa (.inl (.inr ⟨24,aa,aa,aa⟩)) (.inl aa) (by rw[bu,Ih,SY]) QI hzc hcc ⟨aw _,xw,aa⟩ ⟨bP Mp,hsok,aa⟩ aa ab
     (λw1 β k1 b1 ho=>⟨_,_,rfl,.inr ⟨β 42,0,rfl,eH (rest:=[]) (ho.own 42 (.base (iY _ (aJ.2 rfl))) _ _ rfl) rfl⟩⟩)
     (λvI cap' ax ρ Vo Vp iI ll kC fT uU gr=>wV rfl ?_)
    refine ae ?_
    have IB:cd RrE vI (S::F::fl (l.take (z+1))) (vs++[[.bool e.1.1,.slice ap e.1.2.1.length ac,.bool e.1.2.2.1,.slice ar e.1.2.2.2.length ad],[.bool e.2.1,.slice bp e.2.2.1.length bc,.bool e.2.2.2.1,.slice br e.2.2.2.2.length bd]]):=by
     rw[FX he,<-pL,<-pL];exact (jx.kp mw bm).append (.cons ⟨_,_,_,_,aa⟩ (.cons ⟨_,_,_,_,aa⟩ .nil))
    refine VS.back (N-(z+1)) ab ⟨_,_,?_,?_,?_,?_,⟨z+1,ab,aa,43,vs++[[.bool e.1.1,.slice ap e.1.2.1.length ac,.bool e.1.2.2.1,.slice ar e.1.2.2.2.length ad],[.bool e.2.1,.slice bp e.2.2.1.length bc,.bool e.2.2.2.1,.slice br e.2.2.2.2.length bd]],ax,cap',.inr aa,aa,aa,IB,by simpa using fT,ab,kC,uU,gr⟩⟩
    ·refine⟨aa,aa,?_,ag⟩;rw[<-aD (i:=z) ab];rfl
    ·exact⟨au (λl=>some (_,l++ax)) bN,ag⟩
    ·rfl
    ·exact⟨.append (.vals _) (.none gr),ag⟩
   ·refine VS.aP aa (aA (λe=>hlt (aQ.1 e))) ?_;have Tl:z=N:=ab;rw[dP ab] at jx;refine ae ?_;refine VO.eB aa (fk Aj) (λbn β cG bo ho=>(oX _ (S::F::fl l) bn (gw mw (ho.own 24 (.base (aJ.2 aa)) _ _ aa) spare aa (jx.kp mw bm) (by rw[fh,fh,xA];omega) hzc hcc) _ hb).mono ?_);rintro o w1 ⟨rfl,bA⟩;refine bZ bA ?_;intro eF _ bb1;refine bl ?_;intro wz kz bz;exact⟨by unfold oY;rw[hlen,hb];rfl,bz⟩
  ·refine ae ?_;by_cases hlt:z<N
   ·obtain⟨e,he⟩:∃ e,l[z]? =some e:=⟨_,ba ab⟩;obtain⟨b,off,gD,gP,hc,hE⟩:=hv.at he;subst gP;obtain⟨_,_,rfl,⟨ap,ac,ar,ad,rfl,-⟩,⟨bp,bc,br,bd,rfl,-⟩,-,-⟩:=hE;obtain⟨Mp,Ih⟩:=jx.ok mw;have SY:(S::F::fl (l.take z)).length=2+2*z:=by rw[fh,fh,xA,cM];omega
    refine VS.aV aa (aE (aQ.2 hlt)) ?_;refine ae ?_;refine VO.cond aa dQ ?_;refine wV aa ?_;refine ae ?_;refine VO.read aa [.bool e.1.1,.slice ap e.1.2.1.length ac,.bool e.1.2.2.1,.slice ar e.1.2.2.2.length ad] aa (aM hc 0 _ ⟨_,aa⟩) (wV aa ?_);refine ae ?_;refine VO.cond aa dQ ?_;refine wV aa ?_;refine ae ?_;refine VO.read aa [.bool e.2.1,.slice bp e.2.2.1.length bc,.bool e.2.2.2.1,.slice br e.2.2.2.2.length bd] aa (aM hc 4 _ ⟨[],aa⟩) (wV aa ?_);refine ae ?_
    refine VO.ZM (dD _ _) (t:=73) (e:=26) (sz:=4) (n:=2+2*z) (c:=cap) (mm:=2) (known:=vs.flatten.map .val) (spare:=spare) (del:=some 43) (news:=([.bool e.1.1,.slice ap e.1.2.1.length ac,.bool e.1.2.2.1,.slice ar e.1.2.2.2.length ad,.bool e.2.1,.slice bp e.2.2.1.length bc,.bool e.2.2.2.1,.slice br e.2.2.2.2.length bd]:List Value).map .val) (dst:=43) aa aa aa aa aa aa aa aa (bM aa) aa (.inl (.inr ⟨43,aa,aa,aa⟩)) (.inr aa) (by rw[bu,Ih,SY]) QI hzc hcc ⟨aw _,xw,aa⟩ ⟨bP Mp,hsok,aa⟩ aa ab
     (λw1 β k1 b1 ho=>⟨_,_,rfl,.inr ⟨β 42,0,rfl,eH (rest:=[]) (ho.own 42 (.base (iY _ (aJ.2 rfl))) _ _ rfl) rfl⟩⟩)
     (λvI cap' ax ρ Vo Vp iI ll kC fT uU gr=>wV rfl ?_)
    refine ae ?_
    have IB:cd RrE vI (S::F::fl (l.take (z+1))) (vs++[[.bool e.1.1,.slice ap e.1.2.1.length ac,.bool e.1.2.2.1,.slice ar e.1.2.2.2.length ad],[.bool e.2.1,.slice bp e.2.2.1.length bc,.bool e.2.2.2.1,.slice br e.2.2.2.2.length bd]]):=by
     rw[FX he,<-pL,<-pL];exact (jx.kp mw bm).append (.cons ⟨_,_,_,_,aa⟩ (.cons ⟨_,_,_,_,aa⟩ .nil))
    refine VS.back (N-(z+1)) ab ⟨_,_,?_,?_,?_,?_,⟨z+1,ab,aa,43,vs++[[.bool e.1.1,.slice ap e.1.2.1.length ac,.bool e.1.2.2.1,.slice ar e.1.2.2.2.length ad],[.bool e.2.1,.slice bp e.2.2.1.length bc,.bool e.2.2.2.1,.slice br e.2.2.2.2.length bd]],ax,cap',.inr aa,aa,aa,IB,by simpa using fT,ab,kC,uU,gr⟩⟩
    ·refine⟨aa,aa,?_,ag⟩;rw[<-aD (i:=z) ab];rfl
    ·exact⟨au (λl=>some (_,l++ax)) bN,ag⟩
    ·rfl
    ·exact⟨.append (.vals _) (.none gr),ag⟩
   ·refine VS.aP aa (aA (λe=>hlt (aQ.1 e))) ?_;have Tl:z=N:=ab;rw[dP ab] at jx;refine ae ?_;refine VO.eB aa (fk Aj) (λbn β cG bo ho=>(oX _ (S::F::fl l) bn (gw mw (ho.own 43 (.base (aJ.2 aa)) _ _ aa) spare aa (jx.kp mw bm) (by rw[fh,fh,xA];omega) hzc hcc) _ hb).mono ?_);rintro o w1 ⟨rfl,bA⟩;refine bZ bA ?_;intro eF _ bb1;refine bl ?_;intro wz kz bz;exact⟨by unfold oY;rw[hlen,hb];rfl,bz⟩
 ·refine VO.fix 10 aa (au (λb=>AV.val (.bool b)) (aE (show (N:Int)>12 by omega))) ?_;refine ae ?_;by_cases h40:N<=40
  ·refine VO.fix 15 aa (au (λb=>AV.val (.bool b)) (aE (show (N:Int)<=40 by omega))) ?_;refine ae ?_;refine bl ?_;intro wz kz bz;exact⟨by unfold oY DV;rw[<-hN,aA Jn,aA (show ¬ 40<N by omega)];rfl,bz⟩
  ·refine VO.fix 15 aa (au (λb=>AV.val (.bool b)) (aA (show ¬ (N:Int)<=40 by omega))) ?_;refine ae ?_;by_cases h60:N<=60
   ·have hlen:DV l.length=true:=by unfold DV;rw[<-hN,aA Jn,aE (show 40<N by omega),aE h60];rfl
    refine VS.aP aa (aA (show ¬ (N:Int)>60 by omega)) ?_;refine ae ?_
    refine VS.loop (J:=λm L M w'=>∃ z:Nat,z<=N/\m=N-z/\∃ d vs spare cap,(d=24\/d=43)/\L=[(1,.val (.slice q N c)),(5,.row d 0 (2+2*z) cap),(6,.val (.int .i64 (z:Int)))]/\M=[(d,(26,vs.flatten.map .val++spare))]/\
     cd RrE w' (S::F::fl (l.take z)) vs/\(vs.flatten.map AV.val++spare).length=cap*4/\2+2*z<=cap/\cap<=9223372036854775807/\spare.all aY=true/\aI spare=[]) N ⟨_,_,?_,?_,?_,?_,⟨0,ab,rfl,24,[[.bool S.1,.slice sp S.2.1.length sc,.bool S.2.2.1,.slice sr S.2.2.2.length sd],[.bool F.1,.slice fp F.2.1.length fc,.bool F.2.2.1,.slice fr F.2.2.2.length fd]],[],2,.inl rfl,rfl,rfl,.cons ⟨_,_,_,_,rfl⟩ (.cons ⟨_,_,_,_,rfl⟩ .nil),rfl,ab,ab,rfl,rfl⟩⟩ ?_
    ·exact cA
    ·exact cA
    ·rfl
    ·exact⟨.append (.vals _) (.none aa),ag⟩
    rintro m L M wJ ⟨z,hz,rfl,d,vs,spare,cap,rfl|rfl,rfl,rfl,jx,QI,hzc,hcc,hsok,xw⟩
    ·refine ae ?_;by_cases hlt:z<N
     ·obtain⟨e,he⟩:∃ e,l[z]? =some e:=⟨_,ba ab⟩;obtain⟨b,off,gD,gP,hc,hE⟩:=hv.at he;subst gP;obtain⟨_,_,rfl,⟨ap,ac,ar,ad,rfl,-⟩,⟨bp,bc,br,bd,rfl,-⟩,-,-⟩:=hE;obtain⟨Mp,Ih⟩:=jx.ok mw;have SY:(S::F::fl (l.take z)).length=2+2*z:=by rw[fh,fh,xA,cM];omega
      refine VS.aV aa (aE (aQ.2 hlt)) ?_;refine ae ?_;refine VO.cond aa dQ ?_;refine wV aa ?_;refine ae ?_;refine VO.read aa [.bool e.1.1,.slice ap e.1.2.1.length ac,.bool e.1.2.2.1,.slice ar e.1.2.2.2.length ad] aa (aM hc 0 _ ⟨_,aa⟩) (wV aa ?_);refine ae ?_;refine VO.cond aa dQ ?_;refine wV aa ?_;refine ae ?_;refine VO.read aa [.bool e.2.1,.slice bp e.2.2.1.length bc,.bool e.2.2.2.1,.slice br e.2.2.2.2.length bd] aa (aM hc 4 _ ⟨[],aa⟩) (wV aa ?_);refine ae ?_
      refine VO.ZM (dD _ _) (t:=73) (e:=26) (sz:=4) (n:=2+2*z) (c:=cap) (mm:=2) (known:=vs.flatten.map .val) (spare:=spare) (del:=some 24) (news:=([.bool e.1.1,.slice ap e.1.2.1.length ac,.bool e.1.2.2.1,.slice ar e.1.2.2.2.length ad,.bool e.2.1,.slice bp e.2.2.1.length bc,.bool e.2.2.2.1,.slice br e.2.2.2.2.length bd]:List Value).map .val) (dst:=43) aa aa aa aa aa aa aa aa (bM aa) aa (.inl (.inr ⟨24,aa,aa,aa⟩)) (.inl aa) (by rw[bu,Ih,SY]) QI hzc hcc ⟨aw _,xw,aa⟩ ⟨bP Mp,hsok,aa⟩ aa ab
       (λw1 β k1 b1 ho=>⟨_,_,rfl,.inr ⟨β 42,0,rfl,eH (rest:=[]) (ho.own 42 (.base (iY _ (aJ.2 rfl))) _ _ rfl) rfl⟩⟩)
       (λvI cap' ax ρ Vo Vp iI ll kC fT uU gr=>wV rfl ?_)
      refine ae ?_
      have IB:cd RrE vI (S::F::fl (l.take (z+1))) (vs++[[.bool e.1.1,.slice ap e.1.2.1.length ac,.bool e.1.2.2.1,.slice ar e.1.2.2.2.length ad],[.bool e.2.1,.slice bp e.2.2.1.length bc,.bool e.2.2.2.1,.slice br e.2.2.2.2.length bd]]):=by
       rw[FX he,<-pL,<-pL];exact (jx.kp mw bm).append (.cons ⟨_,_,_,_,aa⟩ (.cons ⟨_,_,_,_,aa⟩ .nil))
      refine VS.back (N-(z+1)) ab ⟨_,_,?_,?_,?_,?_,⟨z+1,ab,aa,43,vs++[[.bool e.1.1,.slice ap e.1.2.1.length ac,.bool e.1.2.2.1,.slice ar e.1.2.2.2.length ad],[.bool e.2.1,.slice bp e.2.2.1.length bc,.bool e.2.2.2.1,.slice br e.2.2.2.2.length bd]],ax,cap',.inr aa,aa,aa,IB,by simpa using fT,ab,kC,uU,gr⟩⟩
      ·refine⟨aa,aa,?_,ag⟩;rw[<-aD (i:=z) ab];rfl
      ·exact⟨au (λl=>some (_,l++ax)) bN,ag⟩
      ·rfl
      ·exact⟨.append (.vals _) (.none gr),ag⟩
     ·refine VS.aP aa (aA (λe=>hlt (aQ.1 e))) ?_;have Tl:z=N:=ab;rw[dP ab] at jx;refine ae ?_;refine VO.eB aa (fk Aj) (λbn β cG bo ho=>(oX _ (S::F::fl l) bn (gw mw (ho.own 24 (.base (aJ.2 aa)) _ _ aa) spare aa (jx.kp mw bm) (by rw[fh,fh,xA];omega) hzc hcc) _ hb).mono ?_);rintro o w1 ⟨rfl,bA⟩;refine bZ bA ?_;intro eF _ bb1;refine bl ?_;intro wz kz bz;exact⟨by unfold oY;rw[hlen,hb];rfl,bz⟩
    ·refine ae ?_;by_cases hlt:z<N
     ·obtain⟨e,he⟩:∃ e,l[z]? =some e:=⟨_,ba ab⟩;obtain⟨b,off,gD,gP,hc,hE⟩:=hv.at he;subst gP;obtain⟨_,_,rfl,⟨ap,ac,ar,ad,rfl,-⟩,⟨bp,bc,br,bd,rfl,-⟩,-,-⟩:=hE;obtain⟨Mp,Ih⟩:=jx.ok mw;have SY:(S::F::fl (l.take z)).length=2+2*z:=by rw[fh,fh,xA,cM];omega
      refine VS.aV aa (aE (aQ.2 hlt)) ?_;refine ae ?_;refine VO.cond aa dQ ?_;refine wV aa ?_;refine ae ?_;refine VO.read aa [.bool e.1.1,.slice ap e.1.2.1.length ac,.bool e.1.2.2.1,.slice ar e.1.2.2.2.length ad] aa (aM hc 0 _ ⟨_,aa⟩) (wV aa ?_);refine ae ?_;refine VO.cond aa dQ ?_;refine wV aa ?_;refine ae ?_;refine VO.read aa [.bool e.2.1,.slice bp e.2.2.1.length bc,.bool e.2.2.2.1,.slice br e.2.2.2.2.length bd] aa (aM hc 4 _ ⟨[],aa⟩) (wV aa ?_);refine ae ?_
      refine VO.ZM (dD _ _) (t:=73) (e:=26) (sz:=4) (n:=2+2*z) (c:=cap) (mm:=2) (known:=vs.flatten.map .val) (spare:=spare) (del:=some 43) (news:=([.bool e.1.1,.slice ap e.1.2.1.length ac,.bool e.1.2.2.1,.slice ar e.1.2.2.2.length ad,.bool e.2.1,.slice bp e.2.2.1.length bc,.bool e.2.2.2.1,.slice br e.2.2.2.2.length bd]:List Value).map .val) (dst:=43) aa aa aa aa aa aa aa aa (bM aa) aa (.inl (.inr ⟨43,aa,aa,aa⟩)) (.inr aa) (by rw[bu,Ih,SY]) QI hzc hcc ⟨aw _,xw,aa⟩ ⟨bP Mp,hsok,aa⟩ aa ab
       (λw1 β k1 b1 ho=>⟨_,_,rfl,.inr ⟨β 42,0,rfl,eH (rest:=[]) (ho.own 42 (.base (iY _ (aJ.2 rfl))) _ _ rfl) rfl⟩⟩)
       (λvI cap' ax ρ Vo Vp iI ll kC fT uU gr=>wV rfl ?_)
      refine ae ?_
      have IB:cd RrE vI (S::F::fl (l.take (z+1))) (vs++[[.bool e.1.1,.slice ap e.1.2.1.length ac,.bool e.1.2.2.1,.slice ar e.1.2.2.2.length ad],[.bool e.2.1,.slice bp e.2.2.1.length bc,.bool e.2.2.2.1,.slice br e.2.2.2.2.length bd]]):=by
       rw[FX he,<-pL,<-pL];exact (jx.kp mw bm).append (.cons ⟨_,_,_,_,aa⟩ (.cons ⟨_,_,_,_,aa⟩ .nil))
      refine VS.back (N-(z+1)) ab ⟨_,_,?_,?_,?_,?_,⟨z+1,ab,aa,43,vs++[[.bool e.1.1,.slice ap e.1.2.1.length ac,.bool e.1.2.2.1,.slice ar e.1.2.2.2.length ad],[.bool e.2.1,.slice bp e.2.2.1.length bc,.bool e.2.2.2.1,.slice br e.2.2.2.2.length bd]],ax,cap',.inr aa,aa,aa,IB,by simpa using fT,ab,kC,uU,gr⟩⟩
      ·refine⟨aa,aa,?_,ag⟩;rw[<-aD (i:=z) ab];rfl
      ·exact⟨au (λl=>some (_,l++ax)) bN,ag⟩
      ·rfl
      ·exact⟨.append (.vals _) (.none gr),ag⟩
     ·refine VS.aP aa (aA (λe=>hlt (aQ.1 e))) ?_;have Tl:z=N:=ab;rw[dP ab] at jx;refine ae ?_;refine VO.eB aa (fk Aj) (λbn β cG bo ho=>(oX _ (S::F::fl l) bn (gw mw (ho.own 43 (.base (aJ.2 aa)) _ _ aa) spare aa (jx.kp mw bm) (by rw[fh,fh,xA];omega) hzc hcc) _ hb).mono ?_);rintro o w1 ⟨rfl,bA⟩;refine bZ bA ?_;intro eF _ bb1;refine bl ?_;intro wz kz bz;exact⟨by unfold oY;rw[hlen,hb];rfl,bz⟩
   ·refine VS.aV aa (aE (show (N:Int)>60 by omega)) ?_;refine ae ?_;refine bl ?_;intro wz kz bz;exact⟨by unfold oY DV;rw[<-hN,aA Jn,aA h60,Gh];rfl,bz⟩
theorem oZ (v u:Value) (S F:RR) (keep:Int) (l:List (RR×RR)) (kk:Nat) (w:World) (hR:fY w v S F keep) (hv:dm (pW kk) 8 w u l) (b:Bool) (hb:oY S F l=b):
 Calls Tryz.prog 8 #[v,u] w λo w'=>o=.returned (.bool b)/\aU w w':=hb▸XM v u S F keep l kk w hR hv
variable {S F:RR}
theorem CM {l:List (RR×RR)} (h:oY S F l=true):l.length<=12\/(40<l.length/\l.length<=60):=by
 unfold oY DV at h;rw[gf,JR,gf,yz,yz,yz] at h;exact h.1
theorem uh {l:List (RR×RR)} (h:oY S F l=true):S.ld 3/\F.ld 3/\∀ e∈l,e.1.ld 3/\e.2.ld 3:=by
 unfold oY at h;rw[gf] at h
 have h2:∀ x∈(S::F::fl l),x.ld 3:=λx hx=>by
  have:=bR.1 h.2 x hx;unfold BD at this
  rwa [gf,yz,yz] at this
 refine⟨h2 S bN,h2 F bN,λe he=>⟨h2 _ ?_,h2 _ ?_⟩⟩
 ·exact qE _ (qE _ (List.mem_flatMap.2 ⟨e,he,bN⟩))
 ·exact qE _ (qE _ (List.mem_flatMap.2 ⟨e,he,bN⟩))
variable {kk:Nat}
theorem BF {l:List (RR×RR)} {v:Value} (h:oY S F l=true) (hv:dm (pW kk) 8 w v l):dm (pW 3) 8 w v l:=by
 have h3:=(uh h).2.2;refine hv.mono λi a cs ha he=> ?_;have hm:=h3 a (cX ha);obtain⟨x,y,e,f1,f2,-⟩:=he;exact⟨x,y,e,f1,f2,hm.1,hm.2⟩
set_option maxRecDepth 4000
structure eO where
 aX:RR
 allowed:RR
 az:RR
 used:RR
 ao:RR
 aq:RR
 closing:RR
def eO.q (r:eO):bh:=⟨r.aX.q,r.allowed.q,r.az.q,r.used.q,r.ao.q,r.aq.q,r.closing.q⟩
def eO.Pd (r:eO):Nat->RR
 | 0=>r.aX
 | 1=>r.allowed
 | 2=>r.az
 | 3=>r.used
 | 4=>r.ao
 | 5=>r.aq
 | _=>r.closing
abbrev eM:=Int×Int×RR
def eM.q (e:eM):Int×Int×Rat:=(e.1,e.2.1,e.2.2.q)
def Rw (kk:Nat) (w:World) (cs:List Value) (x:RR):Prop:=Eo w cs x/\x.ld kk
theorem Rw.kp {T:TypeId->Bool} {x:RR} (h:Rw kk w cs x) (k:bQ ⟨UU,λ_=>True,T⟩ w w'):Rw kk w' cs x:=⟨h.1.kp k,h.2⟩
variable {k':Nat}
theorem Rw.mono {x:RR} (h:Rw kk w cs x) (k:kk<=k'):Rw k' w cs x:=⟨h.1,bj h.2.1 k,bj h.2.2 k⟩
def pc (kk:Nat) (w:World) (cs:List Value) (r:eO):Prop:=
 ∃ a b c d e f g:List Value,cs=a++(b++(c++(d++(e++(f++g)))))/\Rw kk w a r.aX/\Rw kk w b r.allowed/\Rw kk w c r.az/\Rw kk w d r.used/\Rw kk w e r.ao/\Rw kk w f r.aq/\Rw kk w g r.closing
def pJ (kk:Nat) (w:World) (cs:List Value) (e:eM):Prop:=∃ a,cs=[.int .i64 e.1,.int .i64 e.2.1]++a/\Rw kk w a e.2.2
theorem dV (kk:Nat):jo (pc kk) 28 where
 kp:=λh k=>by
  obtain⟨a,b,c,d,e,f,g,h0,h1,h2,h3,h4,h5,h6,h7⟩:=h;exact⟨a,b,c,d,e,f,g,h0,h1.kp k,h2.kp k,h3.kp k,h4.kp k,h5.kp k,h6.kp k,h7.kp k⟩
 len:=λh=>by
  obtain⟨a,b,c,d,e,f,g,rfl,h1,h2,h3,h4,h5,h6,h7⟩:=h;simp only[List.length_append,h1.1.len,h2.1.len,h3.1.len,h4.1.len,h5.1.len,h6.1.len,h7.1.len]
 ok:=λh=>by
  obtain⟨a,b,c,d,e,f,g,rfl,h1,h2,h3,h4,h5,h6,h7⟩:=h;simp only[List.all_append,h1.1.ok,h2.1.ok,h3.1.ok,h4.1.ok,h5.1.ok,h6.1.ok,h7.1.ok,Bool.and_self]
theorem df (kk:Nat):jo (pJ kk) 6 where
 kp:=λh k=>by
  obtain⟨a,h0,h1⟩:=h;exact⟨a,h0,h1.kp k⟩
 len:=λh=>by obtain⟨a,rfl,h1⟩:=h;rw[bB,h1.1.len];rfl
 ok:=λh=>by obtain⟨a,rfl,h1⟩:=h;rw[ja,h1.1.ok];rfl
theorem rowI_fld {r:eO} (h:pc kk w cs r) (f:Nat) (hf:f<=6):∃ a,a <+:cs.drop (4*f)/\Rw kk w a (r.Pd f):=by
 obtain⟨a,b,c,d,e,g,i,rfl,h1,h2,h3,h4,h5,h6,h7⟩:=h;have l1:=h1.1.len;have l2:=h2.1.len;have l3:=h3.1.len;have l4:=h4.1.len;have l5:=h5.1.len;have l6:=h6.1.len
 have key:∀ (pre x post:List Value),pre.length=4*f->x <+:(pre++(x++post)).drop (4*f):=λpre x post hp=>by
  rw[<-hp,List.drop_left];exact List.prefix_append _ _
 match f,hf with
 | 0,_=>exact⟨a,key [] a _ aa,h1⟩
 | 1,_=>exact⟨b,key a b _ l1,h2⟩
 | 2,_=>exact⟨c,by rw[<-fu];exact key (a++b) c _ (by simp[l1,l2]),h3⟩
 | 3,_=>exact⟨d,by rw[show a++(b++(c++(d++(e++(g++i)))))=(a++(b++c))++(d++(e++(g++i))) by simp];exact key (a++(b++c)) d _ (by simp[l1,l2,l3]),h4⟩
 | 4,_=>exact⟨e,by rw[show a++(b++(c++(d++(e++(g++i)))))=(a++(b++(c++d)))++(e++(g++i)) by simp];exact key (a++(b++(c++d))) e _ (by simp[l1,l2,l3,l4]),h5⟩
 | 5,_=>exact⟨g,by rw[show a++(b++(c++(d++(e++(g++i)))))=(a++(b++(c++(d++e))))++(g++i) by simp];exact key (a++(b++(c++(d++e)))) g _ (by simp[l1,l2,l3,l4,l5]),h6⟩
 | 6,_=>exact⟨i,by rw[show a++(b++(c++(d++(e++(g++i)))))=(a++(b++(c++(d++(e++g)))))++(i++[]) by simp];exact key (a++(b++(c++(d++(e++g))))) i _ (by simp[l1,l2,l3,l4,l5,l6]),h7⟩
def pd (kk:Nat) (w:World) (r u:Value) (X:List eO×List eM):Prop:=dm (pc kk) 28 w r X.1/\dm (pJ kk) 6 w u X.2
variable {X:List eO×List eM}
theorem pd.bI (h:pd kk w r u X) (b:aU w w'):pd kk w' r u X:=⟨h.1.bI (dV kk) b,h.2.bI (df kk) b⟩
theorem XN {r:eO} (h:pc kk w cs r) (k:kk<=k'):pc k' w cs r:=by
 obtain⟨a,b,c,d,e,f,g,h0,h1,h2,h3,h4,h5,h6,h7⟩:=h;exact⟨a,b,c,d,e,f,g,h0,h1.mono k,h2.mono k,h3.mono k,h4.mono k,h5.mono k,h6.mono k,h7.mono k⟩
variable {e:eM}
theorem XO (h:pJ kk w cs e) (k:kk<=k'):pJ k' w cs e:=by
 obtain⟨a,h0,h1⟩:=h;exact⟨a,h0,h1.mono k⟩
theorem pd.mono (h:pd kk w r u X) (k:kk<=k'):pd k' w r u X:=⟨h.1.mono λ_ _ _ _ he=>XN he k,h.2.mono λ_ _ _ _ he=>XO he k⟩
def CN (r:bh):eO:=⟨gX r.aX,gX r.allowed,gX r.az,gX r.used,gX r.ao,gX r.aq,gX r.closing⟩
def CO (e:Uq):eM:=((e.1:Int),(e.2.1:Int),gX e.2.2)
def fF (x:List bh×List Uq):List eO×List eM:=(x.1.map CN,x.2.map CO)
theorem crow_q (r:bh):(CN r).q=r:=by unfold CN eO.q;simp only[sH]
def RowSz (kk:Nat) (r:bh):Prop:=fI r.aX kk/\fI r.allowed kk/\fI r.az kk/\fI r.used kk/\fI r.ao kk/\fI r.aq kk/\fI r.closing kk
def LedSz (kk:Nat) (x:List bh×List Uq):Prop:=(∀ r∈x.1,RowSz kk r)/\∀ e∈x.2,fI e.2.2 kk
theorem R4.rw {q:Rat} (h:R4 B w cs q) (hs:fI q kk):Rw kk w cs (gX q):=by
 obtain⟨s,p,n,c,t,r,m,d,rfl,h1⟩:=h;exact⟨h1.rd.Ju,gY hs⟩
theorem VF {r:bh} (h:gF B w cs r) (hs:RowSz kk r):pc kk w cs (CN r):=by
 obtain⟨a,b,c,d,e,f,g,h0,h1,h2,h3,h4,h5,h6,h7⟩:=h;obtain⟨s1,s2,s3,s4,s5,s6,s7⟩:=hs;exact⟨a,b,c,d,e,f,g,h0,h1.rw s1,h2.rw s2,h3.rw s3,h4.rw s4,h5.rw s5,h6.rw s6,h7.rw s7⟩
theorem use_in {e:Uq} (h:vU B w cs e) (hs:fI e.2.2 kk):pJ kk w cs (CO e):=by
 obtain⟨s,p,n,c,t,r,m,d,rfl,h1⟩:=h;exact⟨_,aa,h1.rd.Ju,gY hs⟩
theorem MD {α':Type} {E':World->List Value->α'->Prop} {sz:Nat} (hE:jo E sz) {b:Nat} {v:Value} (f:α->α') (h:Yz E sz t w b v es) (hf:∀ cs,∀ e∈es,E w cs e->E' w cs (f e)):dm E' sz w v (es.map f):=by
 obtain⟨n,c,vs,sp,rfl,hc,ho⟩:=h;have hn:n=es.length:=ho.len;subst hn;refine⟨_,_,by rw[bu],by rw[bu];exact ho.le,by simpa [maxLen] using ho.cm,λi a ha=> ?_⟩;rw[nJ] at ha;obtain⟨e,he,rfl⟩:=ou.1 ha;obtain⟨cs,hcs,hEx⟩:=ho.el.at i e he;refine⟨b,0,cs,aa,λj u hj=> ?_,hf _ _ (cX he) hEx⟩;refine hc.cell ?_;have jG:cs.length=sz:=hE.len hEx;have hjl:=(cQ.1 hj).1;obtain⟨hlt,hxx⟩:=cQ.1 hcs;have Jq:vs=vs.take i++cs::vs.drop (i+1):=by rw[<-hxx,<-mG hlt,qB]
 have hal:(vs.take i).flatten.length=i*sz:=by
  rw[fb (λy hy=>ho.el.lens hE y (nI hy)),cM,ig ab]
 rw[CT,Jq,Ui,fu,jT ab,hal,oA,fu,show 0+i*sz+j-i*sz=j by omega,gm hjl];exact hj
theorem uf.YD (h:uf B w r u x) (hs:LedSz kk x):pd kk w r u (fF x):=by
 refine⟨?_,?_⟩
 ·rcases h.1 with ⟨rfl,e⟩|⟨rb,_,h3⟩
  ·unfold fF;rw[e];exact dm.nil _ _ _
  ·exact MD (aL B) CN h3 λcs e he hE=>VF hE (hs.1 e he)
 ·rcases h.2 with ⟨rfl,e⟩|⟨rb,_,h3⟩
  ·unfold fF;rw[e];exact dm.nil _ _ _
  ·exact MD (fD B) CO h3 λcs e he hE=>use_in hE (hs.2 e he)
def pq (c:Bool) (x:RR):Rat:=if c then x.q else 0
def VG (v:Int) (us:List eM):Rat:=lh (us.map λe=>pq (decide (e.1=v)) e.2.2)
def Tp (v y:Int) (us:List eM):Rat:=lh (us.map λe=>pq (decide (e.1=v) && decide (e.2.1<y)) e.2.2)
variable {us:List eM}
theorem lL (f:eM->Rat) (h:us[z]? =some e):lh ((us.take (z+1)).map f)=lh ((us.take z).map f)+f e:=by
 rw[Gi,Gi];exact Cy (by rw[nJ,h];rfl)
theorem RR.sz {x:RR} (h:Rw kk w cs x):fI x.q (gU kk):=by
 obtain⟨p,c,r,d,rfl,h1⟩:=h.1;exact (h1.fZ h.2).xS
theorem Tq {f:eM->Bool} (h:∀ e∈us,∃ cs,Rw kk w cs e.2.2) (hz:z<=us.length):fI (lh ((us.take z).map λe=>pq (f e) e.2.2)) (eR kk z):=by
 induction z with
 | zero=>exact fI.zero.mono (by unfold eR;omega)
 | succ z ih=>
   obtain⟨e,he⟩:∃ e,us[z]? =some e:=⟨_,ba ab⟩;rw[lL _ he,xr];refine (ih ab).add ?_;obtain⟨cs,hcs⟩:=h e (cX he);unfold pq
   split
   ·exact RR.sz hcs
   ·exact fI.zero.mono (by unfold gU;omega)
theorem dm.rws {v:Value} (h:dm (pJ kk) 6 w v us):∀ e∈us,∃ cs,Rw kk w cs e.2.2:=λe he=>by
 obtain⟨i,hi,hx⟩:=List.mem_iff_getElem.1 he;obtain⟨p,c,rfl,_,_⟩:=h.form;obtain⟨_,_,cs,_,_,a,_,ha⟩:=h.at (i:=i) (a:=e) (by rw[ba hi,hx]);exact⟨a,ha⟩
set_option maxRecDepth 4000 in
theorem VH (r u:Value) (X:List eO×List eM) (v:Int) (kk:Nat) (w:World) (h:pd kk w r u X) (hk:kk<=10000) (hn:X.2.length<=1000):
  Calls Tryz.prog 15 #[.agg #[r,u],.int .i64 v] w λo w'=>∃ x,o=.returned x/\aW w' w.heap.size x (VG v X.2)/\aU w w':=by
 obtain⟨us,sW⟩:∃ us,X.2=us:=⟨_,aa⟩;obtain⟨hr,h2⟩:=h;obtain⟨rp,rc,rfl,-,-⟩:=hr.form;rw[sW] at hn h2 ⊢;obtain⟨q,c,rfl,il,iC⟩:=h2.form;obtain⟨n,SA⟩:∃ n,n=us.length:=⟨_,aa⟩;rw[<-SA] at h2 il hn;rw[<-SA];have hsz:∀ z,z<=us.length->fI (VG v (us.take z)) (eR kk z):=λz hz=>Tq (f:=λe=>decide (e.1=v)) (h2.rws) hz;refine ah (C:=cH Tryz.prog w _) (args:=[_,_]) Tryz.func15 aa Tryz.ntmps15 (bM aa) ?_;refine ae ?_;refine VO.cR aa aa (fk nK) (λbn cG bo=>dz 0 bn ab ab) (λbn cG bo w1 s1 p1 n1 c1 t1 y1 m1 d1 q1 bA eF _ bb1=>wV aa ?_);refine ae ?_
 refine VS.loop (J:=λm L M w'=>∃ (z:Nat) (s:Bool) (p':Option Addr) (n' c':Nat) (t:Bool) (y:Option Addr) (m' d:Nat),z<=n/\m=n-z/\L=[(1,.val (.int .i64 v)),(4,.box 4 0),(5,.box 5 0),(10,.val (.slice q n c)),(11,.val (.int .i64 (n:Int))),(12,.val (.int .i64 (z:Int)))]/\
   M=[(4,(26,([.bool false,.slice none 0 0,.bool false,.slice none 0 0]:List Value).map .val)),(5,(26,([.bool s,.slice p' n' c',.bool t,.slice y m' d]:List Value).map .val))]/\aW w' w.heap.size (.agg #[.bool s,.slice p' n' c',.bool t,.slice y m' d]) (VG v (us.take z))) n
  ⟨_,_,?_,?_,?_,?_,⟨0,_,_,_,_,_,_,_,_,ab,rfl,rfl,rfl,(q1.k).mono bo.size⟩⟩ ?_
 ·exact cA
 ·exact cA
 ·rfl
 ·exact gn
 rintro m L M w9 ⟨z,s,p',n',c',t,y,m',d,hz,rfl,rfl,rfl,ho⟩;refine ae ?_;by_cases hlt:z<n
 ·obtain⟨e,he⟩:∃ e,us[z]? =some e:=⟨_,ba ab⟩;obtain⟨b,off,gD,gP,hc,⟨_,rfl,⟨ap,ac,ar,ad,rfl,qQ⟩,mC⟩⟩:=h2.at he;subst gP;refine VS.aV aa (aE (aQ.2 hlt)) ?_;refine ae ?_;refine VO.cond aa dQ ?_;refine wV aa ?_;refine ae ?_;refine VO.read aa [.int .i64 e.1,.int .i64 e.2.1,.bool e.2.2.1,.slice ap e.2.2.2.1.length ac,.bool e.2.2.2.2.1,.slice ar e.2.2.2.2.2.length ad] aa (aM hc 0 _ ⟨[],aa⟩) (wV aa ?_);refine ae ?_;have yr:VG v (us.take (z+1))=VG v (us.take z)+pq (decide (e.1=v)) e.2.2:=lL _ he;by_cases hv:e.1=v
  ·refine VS.aV aa (aE hv) ?_;rw[aE hv] at yr
   have hzz:eR kk z<=67108864:=by
    have hzl:z<=1000:=ab;have h1:=tQ (k:=kk) hzl;have h3:gU kk<=10001:=by unfold gU;omega
    have h4:eR kk 1000=1+1000*(gU kk+1):=aa;omega
   refine ae ?_;refine VO.cR aa aa (fk tk) (λcz dB cT=>gi _ _ (VG v (us.take z)) e.2.2.q (eR kk z) kk cz (ho.ki (hsz z ab)) ((qQ.kp (Kp.of (U:=UU) cT)).fZ mC) hzz ab) (λcz dB cT w2 s2 p2 n2 c2 t2 y2 m2 d2 q2 cC fe _ bb2=>wV aa ?_);refine ae ?_;refine VS.back (n-(z+1)) ab ⟨_,_,?_,?_,?_,?_,⟨z+1,_,_,_,_,_,_,_,_,ab,aa,aa,aa,yr▸(q2.k).mono cT.size⟩⟩
   ·refine⟨aa,aa,aa,aa,aa,?_,ag⟩;rw[<-aD (i:=z) ab];rfl
   ·exact cA
   ·rfl
   ·exact gn
  ·refine VS.aP aa (aA hv) ?_;rw[aA hv,show pq false e.2.2=0 from aa,Gk] at yr;refine ae ?_;refine VS.back (n-(z+1)) ab ⟨_,_,?_,?_,?_,?_,⟨z+1,_,_,_,_,_,_,_,_,ab,aa,aa,aa,yr▸ho.k⟩⟩
   ·refine⟨aa,aa,aa,aa,aa,?_,ag⟩;rw[<-aD (i:=z) ab];rfl
   ·exact cA
   ·rfl
   ·exact gn
 ·refine VS.aP aa (aA (λe=>hlt (aQ.1 e))) ?_;refine ae ?_;refine bl ?_;intro wz kz bz;rw[dP ab] at ho;exact⟨_,aa,ho.kp kz,bz⟩
theorem kk_le (hk:kk<=10000) (hz:z<=1000):gU kk+eR kk z+1<=30000000:=by
 have h1:=tQ (k:=kk) hz;have h3:gU kk<=10001:=by unfold gU;omega
 have h4:eR kk 1000=1+1000*(gU kk+1):=aa;omega
set_option maxRecDepth 4000 in
theorem XP (r u:Value) (X:List eO×List eM) (v:Nat) (yy:Int) (R:eO) (kk:Nat) (w:World) (h:pd kk w r u X) (hR:X.1[v]? =some R) (hk:kk<=10000) (hn:X.2.length<=1000):
  Calls Tryz.prog 46 #[.agg #[r,u],.int .i64 (v:Int),.int .i64 yy] w λo w'=>∃ x,o=.returned x/\ck w' x (R.az.q-Tp (v:Int) yy X.2) 30000000/\aU w w':=by
 obtain⟨us,sW⟩:∃ us,X.2=us:=⟨_,aa⟩;obtain⟨rs,Lg⟩:∃ rs,X.1=rs:=⟨_,aa⟩;obtain⟨hr,h2⟩:=h;rw[sW] at hn h2 ⊢;rw[Lg] at hr hR;obtain⟨rp,rc,rfl,SX,hrm⟩:=hr.form;obtain⟨q,c,rfl,il,iC⟩:=h2.form;obtain⟨n,SA⟩:∃ n,n=us.length:=⟨_,aa⟩;obtain⟨nr,ym⟩:∃ n,n=rs.length:=⟨_,aa⟩;rw[<-SA] at h2 il hn;rw[<-SA,<-ym];rw[<-ym] at hr SX;have hvn:v<nr:=by rw[ym];exact (cQ.1 hR).1
 have hsz:∀ z,z<=us.length->fI (Tp (v:Int) yy (us.take z)) (eR kk z):=λz hz=>Tq (f:=λe=>decide (e.1=(v:Int)) && decide (e.2.1<yy)) (h2.rws) hz;obtain⟨rb,ro,rcs,hrp,hrcc,hRI⟩:=hr.at hR;subst hrp;obtain⟨_,qM,⟨dp,dc,dr,dd,rfl,hdraw⟩,hdfew⟩:=rowI_fld hRI 2 bq;refine ah (C:=cH Tryz.prog w _) (args:=[_,_,_]) Tryz.func46 aa Tryz.ntmps46 (bM aa) ?_;refine ae ?_;refine VO.cond aa dQ ?_;refine wV aa ?_;refine ae ?_;refine VO.read aa [.bool (R.Pd 2).1,.slice dp (R.Pd 2).2.1.length dc,.bool (R.Pd 2).2.2.1,.slice dr (R.Pd 2).2.2.2.length dd] aa (aM hrcc 8 _ qM) (wV aa ?_);refine ae ?_
 have Rj:ck w (.agg #[.bool (R.Pd 2).1,.slice dp (R.Pd 2).2.1.length dc,.bool (R.Pd 2).2.2.1,.slice dr (R.Pd 2).2.2.2.length dd]) (R.az.q-Tp (v:Int) yy (us.take 0)) 30000000:=by
  have h0:R.az.q-Tp (v:Int) yy (us.take 0)=R.az.q:=by show R.az.q-0=R.az.q;grind
  rw[h0];exact (hdraw.fZ hdfew).up ab
 refine VS.loop (J:=λm L M w'=>∃ (z:Nat) (s:Bool) (p':Option Addr) (n' c':Nat) (t:Bool) (y:Option Addr) (m' d:Nat),z<=n/\m=n-z/\L=[(1,.val (.int .i64 (v:Int))),(2,.val (.int .i64 yy)),(3,.box 3 0),(6,.box 6 0),(7,.box 7 0),(8,.val (.int .i64 (z:Int)))]/\
   M=[(3,(nH,([.slice (some ⟨rb,ro,none⟩) nr rc,.slice q n c]:List Value).map .val)),(6,(26,([.bool false,.slice none 0 0,.bool false,.slice none 0 0]:List Value).map .val)),(7,(26,([.bool s,.slice p' n' c',.bool t,.slice y m' d]:List Value).map .val))]/\ck w' (.agg #[.bool s,.slice p' n' c',.bool t,.slice y m' d]) (R.az.q-Tp (v:Int) yy (us.take z)) 30000000) n
  ⟨_,_,?_,?_,?_,?_,⟨0,_,_,_,_,_,_,_,_,ab,rfl,rfl,rfl,Rj.k⟩⟩ ?_
 ·exact cA
 ·exact cA
 ·rfl
 ·exact gn
 rintro m L M w9 ⟨z,s,p',n',c',t,y,m',d,hz,rfl,rfl,rfl,ho⟩;refine ae ?_;by_cases hlt:z<n
 ·obtain⟨e,he⟩:∃ e,us[z]? =some e:=⟨_,ba ab⟩;obtain⟨b,off,gD,gP,hc,⟨_,rfl,⟨ap,ac,ar,ad,rfl,qQ⟩,mC⟩⟩:=h2.at he;subst gP;refine VS.aV aa (aE (aQ.2 hlt)) ?_;refine ae ?_;refine VO.cond aa dQ ?_;refine wV aa ?_;refine ae ?_;refine VO.read aa [.int .i64 e.1] aa (aM hc 0 _ ⟨_,aa⟩) (wV aa ?_);refine ae ?_;have yr:Tp (v:Int) yy (us.take (z+1))=Tp (v:Int) yy (us.take z)+pq (decide (e.1=(v:Int)) && decide (e.2.1<yy)) e.2.2:=lL _ he;by_cases hv:e.1=(v:Int)
  ·rw[aE hv] at yr;refine VO.fix 30 aa (au (λb=>AV.val (.bool b)) (aE hv)) ?_;refine ae ?_;refine VO.cond aa dQ ?_;refine wV aa ?_;refine ae ?_;refine VO.read aa [.int .i64 e.2.1] aa (aM hc 1 _ ⟨_,aa⟩) (wV aa ?_);refine ae ?_;by_cases hy:e.2.1<yy
   ·rw[aE hy] at yr;refine VS.aV aa (aE hy) ?_;refine ae ?_;refine VO.cond aa dQ ?_;refine wV aa ?_;refine ae ?_;refine VO.read aa [.bool e.2.2.1,.slice ap e.2.2.2.1.length ac,.bool e.2.2.2.2.1,.slice ar e.2.2.2.2.2.length ad] aa (aM hc 2 _ ⟨[],aa⟩) (wV aa ?_);refine ae ?_;refine VO.cR aa aa (fk nL) (λcz dB cT=>ew _ _ (R.az.q-Tp (v:Int) yy (us.take z)) e.2.2.q 30000000 kk cz ho.k ((qQ.kp (Kp.of (U:=UU) cT)).fZ mC) ab ab) (λcz dB cT w2 s2 p2 n2 c2 t2 y2 m2 d2 q2 cC fe _ bb2=>wV aa ?_);refine ae ?_
    have PH:R.az.q-Tp (v:Int) yy (us.take z)-e.2.2.q=R.az.q-Tp (v:Int) yy (us.take (z+1)):=by
     rw[yr,show pq (true && true) e.2.2=e.2.2.q from aa];grind
    have hkz:gU kk+eR kk (z+1)+1<=30000000:=kk_le hk ab;have Lg:fI (R.az.q-Tp (v:Int) yy (us.take (z+1))) 30000000:=((hdraw.fZ hdfew).xS.sub (hsz (z+1) ab)).mono hkz;refine VS.back (n-(z+1)) ab ⟨_,_,?_,?_,?_,?_,⟨z+1,_,_,_,_,_,_,_,_,ab,aa,aa,aa,(q2.cast PH).ki Lg⟩⟩
    ·refine⟨aa,aa,aa,aa,aa,?_,ag⟩;rw[<-aD (i:=z) ab];rfl
    ·exact cA
    ·rfl
    ·exact gn
   ·refine VS.aP aa (aA hy) ?_;rw[aA hy,show pq (true && false) e.2.2=0 from aa,Gk] at yr;refine ae ?_;refine VS.back (n-(z+1)) ab ⟨_,_,?_,?_,?_,?_,⟨z+1,_,_,_,_,_,_,_,_,ab,aa,aa,aa,yr▸ho.k⟩⟩
    ·refine⟨aa,aa,aa,aa,aa,?_,ag⟩;rw[<-aD (i:=z) ab];rfl
    ·exact cA
    ·rfl
    ·exact gn
  ·rw[aA hv,show ∀ b,pq (false && b) e.2.2=0 from λ_=>aa,Gk] at yr;refine VO.fix 30 aa (au (λb=>AV.val (.bool b)) (aA hv)) ?_;refine ae ?_;refine VS.back (n-(z+1)) ab ⟨_,_,?_,?_,?_,?_,⟨z+1,_,_,_,_,_,_,_,_,ab,aa,aa,aa,yr▸ho.k⟩⟩
   ·refine⟨aa,aa,aa,aa,aa,?_,ag⟩;rw[<-aD (i:=z) ab];rfl
   ·exact cA
   ·rfl
   ·exact gn
 ·refine VS.aP aa (aA (λe=>hlt (aQ.1 e))) ?_;refine ae ?_;refine bl ?_;intro wz kz bz;rw[dP ab] at ho;exact⟨_,aa,ho.kp kz,bz⟩
def ME (kn:Nat) (X:List eO×List eM):Prop:=∀ e∈X.2,∃ a b:Nat,e.1=(a:Int)/\e.2.1=(b:Int)/\a<=X.1.length/\b<=100/\∀ (v:Nat) (R:eO),b-kn<=v->v<a->X.1[v]? =some R->¬ eQ (R.az.q-Tp (v:Int) ((b:Int)+1) X.2) 0>0
set_option maxRecDepth 4000 in
theorem Tr (vr r u:Value) (S F:RR) (kn:Nat) (X:List eO×List eM) (kk:Nat) (w:World) (hS:fY w vr S F (kn:Int)) (h:pd kk w r u X) (hk:kk<=10000) (hn:X.2.length<=1000) (ux:kn<=40) (hO:ME kn X):
  Calls Tryz.prog 17 #[vr,.agg #[r,u]] w λo w'=>o=.returned (.bool true)/\aU w w':=by
 have Ts:=h;obtain⟨us,sW⟩:∃ us,X.2=us:=⟨_,aa⟩;obtain⟨hr,h2⟩:=h;unfold ME at hO;rw[sW] at h2 hO;obtain⟨rp,rc,rfl,SX,hrm⟩:=hr.form;obtain⟨q,c,rfl,il,iC⟩:=h2.form;obtain⟨n,SA⟩:∃ n,n=us.length:=⟨_,aa⟩;obtain⟨nr,ym⟩:∃ n,n=X.1.length:=⟨_,aa⟩;rw[<-SA] at h2 il Ts;rw[<-SA,<-ym];rw[<-ym] at hr SX Ts;obtain⟨sp,sc,sr,sd,fp,fc,fr,fd,rfl,-,-⟩:=hS;refine ah (C:=cH Tryz.prog w _) (args:=[_,_]) Tryz.func17 aa Tryz.ntmps17 (bM aa) ?_;refine ae ?_
 refine VS.loop (J:=λm L M w'=>∃ (z:Nat),z<=n/\m=n-z/\L=[(2,.box 2 0),(3,.box 3 0),(5,.val (.int .i64 (z:Int)))]/\
   M=[(2,(Iv,([.bool S.1,.slice sp S.2.1.length sc,.bool S.2.2.1,.slice sr S.2.2.2.length sd,.bool F.1,.slice fp F.2.1.length fc,.bool F.2.2.1,.slice fr F.2.2.2.length fd,.int .i64 (kn:Int)]:List Value).map .val)),(3,(nH,([.slice rp nr rc,.slice q n c]:List Value).map .val))]) n
  ⟨_,_,?_,?_,?_,?_,⟨0,ab,rfl,rfl,rfl⟩⟩ ?_
 ·exact cA
 ·exact cA
 ·rfl
 ·exact gn
 rintro m L M w9 ⟨z,hz,rfl,rfl,rfl⟩;refine ae ?_;by_cases hlt:z<n
 ·obtain⟨e,he⟩:∃ e,us[z]? =some e:=⟨_,ba ab⟩;obtain⟨a',b',hea,heb,hal,hbl,hOe⟩:=hO e (cX he);obtain⟨b,off,gD,gP,hc,⟨_,rfl,⟨ap,ac,ar,ad,rfl,qQ⟩,mC⟩⟩:=h2.at he;subst gP;rw[hea,heb] at hc;refine VS.aV aa (aE (aQ.2 hlt)) ?_;refine ae ?_;refine VO.cond aa dQ ?_;refine wV aa ?_;refine ae ?_;refine VO.read aa [.int .i64 (a':Int),.int .i64 (b':Int),.bool e.2.2.1,.slice ap e.2.2.2.1.length ac,.bool e.2.2.2.2.1,.slice ar e.2.2.2.2.2.length ad] aa (aM hc 0 _ ⟨[],aa⟩) (wV aa ?_);refine ae ?_
  have hmx:wR 0 [IntKind.i64.wrap ((b':Int)-(kn:Int))]=((b' -kn:Nat):Int):=by
   rw[rN];show (if _>(0:Int) then _ else (0:Int))=_
   split <;> omega
  refine VS.fix 7 aa (au (λz=>AV.val (.int .i64 z)) hmx) ?_
  refine VS.loop (J:=λm L M w'=>∃ (v:Nat),b' -kn<=v/\m=a' -v/\L=[(2,.box 2 0),(3,.box 3 0),(5,.val (.int .i64 (z:Int))),(6,.box 6 0),(7,.val (.int .i64 (v:Int)))]/\
    M=[(2,(Iv,([.bool S.1,.slice sp S.2.1.length sc,.bool S.2.2.1,.slice sr S.2.2.2.length sd,.bool F.1,.slice fp F.2.1.length fc,.bool F.2.2.1,.slice fr F.2.2.2.length fd,.int .i64 (kn:Int)]:List Value).map .val)),(3,(nH,([.slice rp nr rc,.slice (some ⟨b,off,none⟩) n c]:List Value).map .val)),(6,(gL,([.int .i64 (a':Int),.int .i64 (b':Int),.bool e.2.2.1,.slice ap e.2.2.2.1.length ac,.bool e.2.2.2.2.1,.slice ar e.2.2.2.2.2.length ad]:List Value).map .val))]) (a' -(b' -kn))
   ⟨_,_,?_,?_,?_,?_,⟨b' -kn,bL _,rfl,rfl,rfl⟩⟩ ?_
  ·exact cA
  ·exact cA
  ·rfl
  ·exact gn
  rintro m L M w8 ⟨v,hv,rfl,rfl,rfl⟩;refine ae ?_;by_cases hva:v<a'
  ·obtain⟨R,hR⟩:∃ R,X.1[v]? =some R:=⟨_,ba ab⟩;obtain⟨sg,ny⟩:∃ sg,eQ (R.az.q-Tp (v:Int) ((b':Int)+1) X.2) 0=sg:=⟨_,aa⟩;have hno:=hOe v R hv hva hR;rw[sW] at ny;rw[ny] at hno;refine VS.aV aa (aE (aQ.2 hva)) ?_;refine ae ?_;refine VO.fix 36 aa (au (λz=>AV.val (.int .i64 z)) (show IntKind.i64.wrap ((b':Int)+1)=(b':Int)+1 by rw[rN];omega)) ?_;refine VO.cR aa aa (fk Tryz.func46) (λcz dB cT=>XP _ _ X v ((b':Int)+1) R kk cz (Ts.bI cT) hR hk hn) (λcz dB cT w2 s2 p2 n2 c2 t2 y2 m2 d2 q2 cC fe _ bb2=>wV aa ?_);refine ae ?_;rw[sW] at q2;refine VO.cB aa aa (fk mJ) (λeP fA ft=>ea _ _ 30000000 eP q2.k ab sg ny) (λeP fA ft w3 dZ jm _ bb3=>wV aa ?_);refine ae ?_;refine VS.aP aa (aA hno) ?_;refine ae ?_;refine VS.back (a' -(v+1)) ab ⟨_,_,?_,?_,?_,?_,⟨v+1,ab,aa,aa,aa⟩⟩
   ·refine⟨aa,aa,aa,aa,?_,ag⟩;rw[<-aD (i:=v) ab];rfl
   ·exact cA
   ·rfl
   ·exact gn
  ·refine VS.aP aa (aA (λe=>hva (aQ.1 e))) ?_;refine ae ?_;refine VS.back (n-(z+1)) ab ⟨_,_,?_,?_,?_,?_,⟨z+1,ab,aa,aa,aa⟩⟩
   ·refine⟨aa,aa,?_,ag⟩;rw[<-aD (i:=z) ab];rfl
   ·exact cA
   ·rfl
   ·exact gn
 ·refine VS.aP aa (aA (λe=>hlt (aQ.1 e))) ?_;refine ae ?_;refine bl ?_;intro wz kz bz;exact⟨aa,bz⟩
end
section
open Go.RowKit
theorem qz (x:Rat) (l:List Rat):lh (x::l)=x+lh l:=by
 unfold lh;rw[List.foldl_cons]
 have:∀ (l:List Rat) (a b:Rat),l.foldl (·+ ·) (a+b)=a+l.foldl (·+ ·) b:=by
  intro l
  induction l with
  | nil=>intro a b;rfl
  | cons y r ih=>intro a b;rw[List.foldl_cons,List.foldl_cons,Rat.add_assoc,ih]
 rw[show (0:Rat)+x=x+0 by grind,this]
theorem QJ (l m:List Rat):lh (l++m)=lh l+lh m:=by
 induction l with
 | nil=>show lh m=0+lh m;grind
 | cons x l ih=>rw[pL,qz,qz,ih];grind
def gs (f:Uq->Rat) (us:List Uq):Rat:=lh (us.map f)
theorem gs_nil (f:Uq->Rat):gs f []=0:=rfl
theorem xZ (f:Uq->Rat) (e:Uq) (us:List Uq):gs f (e::us)=f e+gs f us:=by unfold gs;rw[rQ,qz]
theorem ui (f:Uq->Rat) (a b:List Uq):gs f (a++b)=gs f a+gs f b:=by unfold gs;rw[bC,QJ]
theorem ya {f:Uq->Rat}:∀ {us:List Uq},(∀ e∈us,f e=0)->gs f us=0
 | [],_=>rfl
 | e::us,h=>by rw[xZ,h e bN,ya (λx hx=>h x (by simp[hx]))];grind
theorem QK {f g:Uq->Rat}:∀ {us:List Uq},(∀ e∈us,f e=g e)->gs f us=gs g us
 | [],_=>rfl
 | e::us,h=>by rw[xZ,xZ,h e bN,QK (λx hx=>h x (by simp[hx]))]
theorem QL {f:Uq->Rat}:∀ {us:List Uq},(∀ e∈us,0<=f e)->0<=gs f us
 | [],_=>mK
 | e::us,h=>by rw[xZ];have:=h e bN;have:=QL (f:=f) (us:=us) (λx hx=>h x (by simp[hx]));grind
def vn (v:Nat) (e:Uq):Rat:=if e.1=v then e.2.2 else 0
def bf (v y:Nat) (e:Uq):Rat:=if e.1=v/\e.2.1<y then e.2.2 else 0
def Lex (a b:Uq):Prop:=a.2.1<b.2.1\/(a.2.1=b.2.1/\a.1<b.1)
theorem yb (y:Nat):∀ {k:Nat} {l:List Rat} {m:Rat} {e:Uq},e∈vS y (cO k l) m->e.2.1=y/\0<e.2.2/\k<=e.1/\e.1<k+l.length
 | k,[],m,e,h=>by cases h
 | k,x::l,m,e,h=>by
   have h':e∈(if 0<ai x m then [(k,y,ai x m)] else [])++vS y (cO (k+1) l) (m-ai x m):=h;rcases gg.1 h' with h1|h1
   ·by_cases hp:0<ai x m
    ·rw[if_pos hp,aJ] at h1;subst h1;exact⟨aa,hp,bL _,by show k<k+(x::l).length;simp⟩
    ·rw[if_neg hp] at h1;cases h1
   ·obtain⟨a,b,c,d⟩:=yb y h1;exact⟨a,b,ab,by rw[fh];omega⟩
theorem MF {a b:Rat} (h:0<=a) (k:0<=b):0<=ai a b:=by rcases dJ a b with ⟨e,_⟩|⟨e,_⟩ <;> rw[e] <;> assumption
theorem tb_head {y k v:Nat} {r:Rat} (hr:0<=r):gs (vn v) (if 0<r then [((k,y,r):Uq)] else [])=if k=v then r else 0:=by
 by_cases hp:0<r
 ·rw[if_pos hp,xZ,gs_nil];show (if k=v then r else 0)+0=_;grind
 ·rw[if_neg hp,gs_nil];have:r=0:=cY;rw[this];simp
theorem Tt (y:Nat):∀ {k:Nat} {l:List Rat} {m:Rat} {i:Nat} {x:Rat},(∀ z∈l,0<=z)->0<=m->((vT (cO k l) m).map (·.2))[i]? =some x->∃ z,l[i]? =some z/\x=z-gs (vn (k+i)) (vS y (cO k l) m)
 | k,[],m,i,x,_,_,h=>by cases h
 | k,z::l,m,i,x,hn,hm,h=>by
   have hz:=hn z bN;have hr:=MF hz hm;have Ru:=dM z m;have e1:vS y (cO k (z::l)) m=(if 0<ai z m then [((k,y,ai z m):Uq)] else [])++vS y (cO (k+1) l) (m-ai z m):=aa;have e2:(vT (cO k (z::l)) m).map (·.2)=(z-ai z m)::(vT (cO (k+1) l) (m-ai z m)).map (·.2):=aa;rw[e2] at h;rw[e1,ui,tb_head hr];cases i with
   | zero=>
     rw[List.getElem?_cons_zero] at h;cases h;refine⟨z,aa,?_⟩
     have:gs (vn (k+0)) (vS y (cO (k+1) l) (m-ai z m))=0:=ya λe he=>by
      have:=yb y he;unfold vn;rw[if_neg ab]
     rw[this,if_pos (pO k).symm];grind
   | succ i=>
     rw[List.getElem?_cons_succ] at h;obtain⟨z',Ro,e⟩:=Tt y (λz hz=>hn z (by simp[hz])) cY h;refine⟨z',by rw[List.getElem?_cons_succ];exact Ro,?_⟩;rw[e,if_neg ab,show k+1+i=k+(i+1) by omega];grind
theorem VI (y:Nat):∀ {k:Nat} {l:List Rat} {m:Rat},(vS y (cO k l) m).Pairwise Lex
 | k,[],m=>List.Pairwise.nil
 | k,z::l,m=>by
   have e1:vS y (cO k (z::l)) m=(if 0<ai z m then [((k,y,ai z m):Uq)] else [])++vS y (cO (k+1) l) (m-ai z m):=aa;rw[e1,JJ];refine⟨?_,VI y,λa ha b hb=> ?_⟩
   ·split
    ·exact List.pairwise_singleton _ _
    ·exact List.Pairwise.nil
   ·obtain⟨b1,_,b2,_⟩:=yb y hb
    split at ha
    ·rw[aJ] at ha;subst ha;exact .inr ⟨b1.symm,by show k<b.1;omega⟩
    ·cases ha
theorem tbS_bd:∀ {t:List Vq} {m:Rat},(∀ p∈t,0<=p.2)->0<=m->0<=Cz t m/\Cz t m<=m
 | [],m,_,hm=>⟨mK,hm⟩
 | p::t,m,h,hm=>by
   have hr:=MF (h p bN) hm;have Ru:=dM p.2 m;obtain⟨a,b⟩:=tbS_bd (t:=t) (m:=m-ai p.2 m) (λx hx=>h x (by simp[hx])) cY;rw[tT];exact⟨cY,cY⟩
theorem tb_old (y:Nat):∀ {k:Nat} {l:List Rat} {m:Rat} {e:Uq} {i:Nat} {x:Rat},(∀ z∈l,0<=z)->0<=m->e∈vS y (cO k l) m->k+i<e.1->((vT (cO k l) m).map (·.2))[i]? =some x->x=0
 | k,[],m,e,i,x,_,_,he,_,_=>by cases he
 | k,z::l,m,e,i,x,hn,hm,he,hi,hx=>by
   have hz:=hn z bN;have hr:=MF hz hm;have Ru:=dM z m;have e2:(vT (cO k (z::l)) m).map (·.2)=(z-ai z m)::(vT (cO (k+1) l) (m-ai z m)).map (·.2):=aa;have wh:e∈(if 0<ai z m then [((k,y,ai z m):Uq)] else [])++vS y (cO (k+1) l) (m-ai z m):=he;rw[e2] at hx
   have LU:e∈vS y (cO (k+1) l) (m-ai z m):=by
    rcases gg.1 wh with h1|h1
    ·split at h1
     ·rw[aJ] at h1;subst h1;exact absurd hi (by show ¬ k+i<k;omega)
     ·cases h1
    ·exact h1
   cases i with
   | zero=>
     rw[List.getElem?_cons_zero] at hx;cases hx;rcases dJ z m with ⟨e,_⟩|⟨e,_⟩
     ·rw[e];grind
     ·rw[e,show m-m=(0:Rat) by grind,(FO y (t:=cO (k+1) l) (λp hp=>hn _ (by simp[(oQ hp).2.2]))).1] at LU;cases LU
   | succ i=>
     rw[List.getElem?_cons_succ] at hx;exact tb_old y (λz hz=>hn z (by simp[hz])) cY LU ab hx
structure RowOk (S F:Rat) (e:Rat×Rat) (r:bh):Prop where
 lim:r.aX=aH S F e.2
 alw:r.allowed=ai e.1 r.aX
 den:r.az=e.1-r.allowed
 us0:0<=r.used
 us1:r.used<=r.aX-r.allowed
 ded:r.ao=r.allowed+r.used
 ex0:0<=r.aq
structure Tu (S F:Rat) (kn d:Nat) (l:List (Rat×Rat)) (s:Ek):Prop where
 len:s.left.length=s.rows.length
 Rx:s.rows.length=l.length
 cons:∀ (v:Nat) (x:Rat),s.left[v]? =some x->∃ r,s.rows[v]? =some r/\x=r.az-r.aq-gs (vn v) s.uses
 nn:∀ x∈s.left,0<=x
 row:∀ (i:Nat) (r:bh),s.rows[i]? =some r->∃ e,l[i]? =some e/\RowOk S F e r
 exp:∀ (i:Nat) (r:bh),s.rows.length<=i+kn+d->s.rows[i]? =some r->r.aq=0
 use:∀ u∈s.uses,0<u.2.2/\u.1<u.2.1/\u.2.1<=u.1+kn/\u.2.1<s.rows.length
 sort:s.uses.Pairwise Lex
 old:∀ u∈s.uses,∀ (v:Nat) (r:bh),u.2.1<=v+kn->v<u.1->s.rows[v]? =some r->r.az-gs (bf v (u.2.1+1)) s.uses<=0
variable {kn:Nat} {S F:Rat}
theorem ti_exp {n:Nat} {l:List (Rat×Rat)} {s:Ek} (h:Tu S F kn 1 l s) (hn:s.rows.length=n+1):Tu S F kn 0 l (tU kn n s):=by
 unfold tU;by_cases hk:kn<=n
 ·rw[if_pos hk];obtain⟨j,hj⟩:∃ j,j=n-kn:=⟨_,aa⟩;rw[<-hj];have hlj:j<s.left.length:=by rw[h.len];omega
  obtain⟨x,hx⟩:∃ x,s.left[j]? =some x:=⟨_,ba hlj⟩;have YQ:s.left.getD j 0=x:=by rw[rJ,hx];rfl
  rw[YQ];have my:=h.nn x (cX hx);refine⟨?_,?_,λv z hv=> ?_,λz hz=> ?_,λi r hr=> ?_,λi r hi hr=> ?_,λu hu=> ?_,h.sort,λu hu v r h1 h2 hr=> ?_⟩
  ·show (s.left.set j 0).length=(s.rows.modify j _).length;rw[pM,oy];exact h.len
  ·show (s.rows.modify j _).length=_;rw[oy];exact h.Rx
  ·dsimp only at hv ⊢
   by_cases e:j=v
   ·subst e;rw[List.getElem?_set_self hlj] at hv;cases hv;obtain⟨r,hr,he⟩:=h.cons j x hx;refine⟨{ r with aq:=x },by rw[DL rfl,hr];rfl,?_⟩;have:=h.exp j r ab hr;show (0:Rat)=r.az-x-_;grind
   ·rw[Ug e] at hv;obtain⟨r,hr,he⟩:=h.cons v z hv;exact⟨r,by rw[yX e];exact hr,he⟩
  ·rcases yv hz with h' |h'
   ·exact h.nn z h'
   ·rw[h'];exact mK
  ·dsimp only at hr
   by_cases e:j=i
   ·rw[DL e] at hr;obtain⟨r',ry,rfl⟩:=ou.1 hr;obtain⟨y,hy,a⟩:=h.row i r' ry;exact⟨y,hy,a.lim,a.alw,a.den,a.us0,a.us1,a.ded,my⟩
   ·rw[yX e] at hr;exact h.row i r hr
  ·dsimp only at hr hi
   rw[oy] at hi;rw[yX ab] at hr;exact h.exp i r ab hr
  ·have:=h.use u hu;show _/\_/\_/\_<(s.rows.modify j _).length;rw[oy];exact this
  ·dsimp only at hr ⊢
   by_cases e:j=v
   ·rw[DL e] at hr;obtain⟨r',ry,rfl⟩:=ou.1 hr;exact h.old u hu v r' h1 h2 ry
   ·rw[yX e] at hr;exact h.old u hu v r h1 h2 hr
 ·rw[if_neg hk];exact⟨h.len,h.Rx,h.cons,h.nn,h.row,λi r hi hr=>h.exp i r ab hr,h.use,h.sort,h.old⟩
theorem ti_year {l:List (Rat×Rat)} {s:Ek} (h:Tu S F kn 0 l s) (y:Rat×Rat):Tu S F kn 0 (l++[y]) (nj S F kn s.rows.length s y):=by
 unfold nj;obtain⟨n,hn⟩:∃ n,n=s.rows.length:=⟨_,aa⟩;rw[<-hn];obtain⟨lo,Lu⟩:∃ lo,lo=n-kn:=⟨_,aa⟩;obtain⟨L,hL⟩:∃ L,L=aH S F y.2:=⟨_,aa⟩;obtain⟨m,hm⟩:∃ m,m=L-ai y.1 L:=⟨_,aa⟩;have Ie:0<=m:=by have:=dM y.1 L;grind
 have hlen:=h.len;have uy:=h.Rx;obtain⟨dl,mD⟩:∃ dl,dl=s.left.drop lo:=⟨_,aa⟩;have hdn:∀ z∈dl,0<=z:=λz hz=>by rw[mD] at hz;exact h.nn _ (ow hz)
 have hdll:dl.length=n-lo:=by rw[mD,rM,hlen,hn]
 obtain⟨t,ht⟩:∃ t,t=cO lo dl:=⟨_,aa⟩;have htn:∀ p∈t,0<=p.2:=λp hp=>by rw[ht] at hp;exact hdn _ (oQ hp).2.2
 have xK:=tbS_bd htn Ie;rw[<-Lu,<-mD,<-ht,<-hL,<-hm];obtain⟨nu,hnu⟩:∃ nu,nu=vS n t m:=⟨_,aa⟩
 have FI:∀ e∈nu,e.2.1=n/\0<e.2.2/\lo<=e.1/\e.1<n:=λe he=>by
  rw[hnu,ht] at he;obtain⟨a,b,c,d⟩:=yb n he;exact⟨a,b,c,by rw[hdll] at d;omega⟩
 refine ti_exp (n:=n) ?_ (by show (s.rows++[_]).length=_;rw[bB,<-hn];rfl);obtain⟨L1,hL1⟩:∃ L1,L1=s.left.take lo++(vT t m).map (·.2):=⟨_,aa⟩;have hL1l:L1.length=n:=by rw[hL1,bB,cM,bu,FP,ht,Bn,hdll,hlen,<-hn];omega
 have hR:CA S F t y=⟨L,ai y.1 L,y.1-ai y.1 L,Cz t m,ai y.1 L+Cz t m,0,0⟩:=by unfold CA;rw[<-hL,<-hm]
 rw[<-hnu,<-hL1,hR]
 have hget:∀ (v:Nat) (x:Rat),L1[v]? =some x->∃ z,s.left[v]? =some z/\x=z-gs (vn v) nu/\(∀ e∈nu,n<=v+kn->v<e.1->x=0):=by
  intro v x hv;rw[hL1] at hv;have SY:(s.left.take lo).length=lo:=by rw[cM,hlen,<-hn];omega
  by_cases hvl:v<lo
  ·rw[gm ab,List.getElem?_take_of_lt hvl] at hv;refine⟨x,hv,?_,λe he h1 h2=>ab⟩;rw[ya (λe he=>by have:=FI e he;unfold vn;rw[if_neg ab])];grind
  ·rw[jT ab,SY] at hv;obtain⟨z,hz,e⟩:=Tt n (by exact hdn) Ie (by rw[<-ht];exact hv);refine⟨z,?_,?_,λe' wh h1 h2=> ?_⟩
   ·rw[mD,tf,show lo+(v-lo)=v by omega] at hz;exact hz
   ·rw[hnu,ht];rw[show lo+(v-lo)=v by omega] at e;exact e
   ·rw[hnu,ht] at wh;exact tb_old n (i:=v-lo) hdn Ie wh ab (by rw[<-ht];exact hv)
 have hnn1:∀ x∈L1,0<=x:=λx hx=>by
  rw[hL1] at hx;rcases gg.1 hx with h' |h'
  ·exact h.nn x (nI h')
  ·obtain⟨p,hp,rfl⟩:=fv.1 h';exact Ml p hp
 have hold:∀ (v:Nat) (r:bh),v<n->(s.rows++[(⟨L,ai y.1 L,y.1-ai y.1 L,Cz t m,ai y.1 L+Cz t m,0,0⟩:bh)])[v]? =some r->s.rows[v]? =some r:=λv r hv hr=>by
  rwa [gm ab] at hr
 have PH:∀ (v:Nat) (r:bh),n<=v->(s.rows++[(⟨L,ai y.1 L,y.1-ai y.1 L,Cz t m,ai y.1 L+Cz t m,0,0⟩:bh)])[v]? =some r->v=n/\r=⟨L,ai y.1 L,y.1-ai y.1 L,Cz t m,ai y.1 L+Cz t m,0,0⟩:=λv r hv hr=>by
  have hlt:=(cQ.1 hr).1;rw[bB,wm,<-hn] at hlt;have hvn:v=n:=ab;subst hvn;rw[jT ab,<-hn,rR] at hr;exact⟨aa,(Ae hr).symm⟩
 refine⟨?_,?_,λv x hv=> ?_,λx hx=> ?_,λi r hr=> ?_,λi r hi hr=> ?_,λu hu=> ?_,?_,λu hu v r h1 h2 hr=> ?_⟩
 ·show (L1++[_]).length=(s.rows++[_]).length;rw[bB,bB,hL1l,hn];rfl
 ·show (s.rows++[_]).length=(l++[y]).length;rw[bB,bB,uy];rfl
 ·dsimp only at hv ⊢
  by_cases hvn:v<n
  ·rw[gm ab] at hv;obtain⟨z,hz,e,_⟩:=hget v x hv;obtain⟨r,hr,e'⟩:=h.cons v z hz;refine⟨r,by rw[gm ab];exact hr,?_⟩;rw[ui];grind
  ·have hlt:=(cQ.1 hv).1;rw[bB,wm,hL1l] at hlt;have hvn:v=n:=ab;subst hvn;rw[jT ab,hL1l,rR] at hv;cases hv;refine⟨_,by rw[jT ab,<-hn,rR];rfl,?_⟩;rw[ui,ya (us:=s.uses) (λe he=>by have:=h.use e he;unfold vn;rw[if_neg ab]),ya (us:=nu) (λe he=>by have:=FI e he;unfold vn;rw[if_neg ab])];show _=y.1-ai y.1 L-0-_;grind
 ·rcases gg.1 hx with h' |h'
  ·exact hnn1 x h'
  ·rw[aJ.1 h'];have:=eh y.1 L;grind
 ·dsimp only at hr
  by_cases xJ:i<n
  ·obtain⟨e,he,a⟩:=h.row i r (hold i r xJ hr);exact⟨e,by rw[gm ab];exact he,a⟩
  ·obtain⟨rfl,rfl⟩:=PH i r ab hr;refine⟨y,by rw[jT ab,<-uy,<-hn,rR];rfl,hL,rfl,rfl,xK.1,by show Cz t m<=L-ai y.1 L;rw[<-hm];exact xK.2,aa,mK⟩
 ·dsimp only at hr hi
  rw[bB,wm,<-hn] at hi;by_cases xJ:i<n
  ·exact h.exp i r ab (hold i r xJ hr)
  ·obtain⟨rfl,rfl⟩:=PH i r ab hr;rfl
 ·show _/\_/\_/\_<(s.rows++[_]).length;rw[bB,wm,<-hn];rcases gg.1 hu with h' |h'
  ·have:=h.use u h';exact⟨this.1,this.2.1,this.2.2.1,ab⟩
  ·have:=FI u h';exact⟨this.2.1,ab,ab,ab⟩
 ·show (s.uses++nu).Pairwise Lex;rw[JJ];refine⟨h.sort,by rw[hnu,ht];exact VI n,λa ha b hb=>.inl ?_⟩;have:=h.use a ha;have:=FI b hb;omega
 ·dsimp only at hr hu ⊢
  rcases gg.1 hu with h' |h'
  ·have hun:=h.use u h';rw[ui,ya (us:=nu) (λe he=>by have:=FI e he;unfold bf;rw[if_neg ab])];have:=h.old u h' v r h1 h2 (hold v r ab hr);grind
  ·have hun:=FI u h';have hvn:v<n:=ab;obtain⟨x,hx⟩:∃ x,L1[v]? =some x:=⟨_,ba ab⟩;obtain⟨z,hz,e,h0⟩:=hget v x hx;have my:=h0 u h' ab h2;obtain⟨r',ry,e'⟩:=h.cons v z hz;have nC:=hold v r hvn hr;rw[ry] at nC;cases nC;have hex:=h.exp v _ ab ry
   have hbv:gs (bf v (u.2.1+1)) (s.uses++nu)=gs (vn v) (s.uses++nu):=QK λe he=>by
    have:e.2.1<u.2.1+1:=by
     rcases gg.1 he with h'' |h''
     ·have:=h.use e h'';omega
     ·have:=FI e h'';omega
    unfold bf vn;by_cases hev:e.1=v
    ·rw[if_pos ⟨hev,this⟩,if_pos hev]
    ·rw[if_neg (λx=>hev x.1),if_neg hev]
   rw[hbv,ui];grind
theorem Tv (S F:Rat) (kn:Nat) (l:List (Rat×Rat)):Tu S F kn 0 l (runT S F kn l):=by
 have key:∀ (l p:List (Rat×Rat)) (s:Ek),Tu S F kn 0 p s->Tu S F kn 0 (p++l) (l.foldl (λs y=>nj S F kn s.rows.length s y) s):=by
  intro l
  induction l with
  | nil=>intro p s h;rw[gA];exact h
  | cons y l ih=>
    intro p s h;have:=ih (p++[y]) _ (ti_year h y)
    rwa [fu] at this
 have:=key l [] ⟨[],[],[]⟩ ⟨aa,aa,λv x hx=>(by cases hx),λx hx=>(by cases hx),λi r hr=>(by cases hr),λi r _ hr=>(by cases hr),λu hu=>(by cases hu),List.Pairwise.nil,λu hu=>(by cases hu)⟩;exact this
theorem clo_at {left:List Rat} {rows:List bh} (i:Nat):(fj (cO 0 left) rows)[i]? =match left[i]? with
  | some x=>(rows[i]?).map (λr=>{ r with closing:=x })
  | none=>rows[i]? :=by
 rw[xU _ _ (Ig 0 left)];cases hl:left[i]? with
 | none=>
   have:(cO 0 left).find? (λp=>p.1 == i)=none:=by
    rw[Om];intro p hp e;obtain⟨j,hj⟩:=qD.1 hp;rw[xT] at hj;obtain⟨x,hx,rfl⟩:=ou.1 hj;have:0+j=i:=by simpa using e
    rw[show j=i by omega,hl] at hx;cases hx
   rw[this]
 | some x=>
   have hm:(i,x)∈cO 0 left:=by
    apply cX (i:=i);rw[xT,hl];simp
   cases hf:(cO 0 left).find? (λp=>p.1 == i) with
   | none=>exact absurd bN (Om.1 hf _ hm)
   | some p=>
     have hp:=List.find?_some hf;obtain⟨j,hj⟩:=qD.1 (Ua hf);rw[xT] at hj;obtain⟨x',hx,rfl⟩:=ou.1 hj;have:0+j=i:=by simpa using hp
     rw[show j=i by omega,hl] at hx;cases hx;rfl
theorem zO:∀ (q:List Vq) (r:List bh),(fj q r).length=r.length
 | [],_=>rfl
 | p::q,r=>by show (fj q _).length=_;rw[zO q,oy]
structure IC (S F:Rat) (kn:Nat) (l:List (Rat×Rat)) (x:List bh×List Uq):Prop where
 Rx:x.1.length=l.length
 row:∀ (i:Nat) (r:bh),x.1[i]? =some r->∃ e,l[i]? =some e/\RowOk S F e r/\0<=r.closing/\gs (vn i) x.2+r.aq+r.closing=r.az
 use:∀ u∈x.2,0<u.2.2/\u.1<u.2.1/\u.2.1<=u.1+kn/\u.2.1<l.length
 sort:x.2.Pairwise Lex
 old:∀ u∈x.2,∀ (v:Nat) (r:bh),u.2.1<=v+kn->v<u.1->x.1[v]? =some r->r.az-gs (bf v (u.2.1+1)) x.2<=0
variable {i:Nat} {r:bh}
theorem FY {left:List Rat} {rows:List bh} (hl:left.length=rows.length) (h:(fj (cO 0 left) rows)[i]? =some r):∃ r' x,rows[i]? =some r'/\left[i]? =some x/\r={ r' with closing:=x }:=by
 have hlt:=(cQ.1 h).1;rw[zO] at hlt;obtain⟨x,hx⟩:∃ x,left[i]? =some x:=⟨_,ba ab⟩;rw[clo_at,hx] at h;obtain⟨r',ry,rfl⟩:=ou.1 h;exact⟨r',x,ry,hx,aa⟩
theorem yd (S F:Rat) (kn:Nat) (l:List (Rat×Rat)):IC S F kn l (pH S F kn l):=by
 rw[zG];have h:=Tv S F kn l;unfold Mn;generalize runT S F kn l=s at h;refine⟨by show (fj _ _).length=_;rw[zO];exact h.Rx,λi r hr=> ?_,λu hu=> ?_,h.sort,λu hu v r h1 h2 hr=> ?_⟩
 ·obtain⟨r',x,ry,hx,rfl⟩:=FY h.len hr;obtain⟨e,he,a⟩:=h.row i r' ry;obtain⟨r2,nC,e2⟩:=h.cons i x hx;rw[ry] at nC;cases nC;refine⟨e,he,⟨a.lim,a.alw,a.den,a.us0,a.us1,a.ded,a.ex0⟩,h.nn x (cX hx),?_⟩;show gs (vn i) s.uses+r'.aq+x=r'.az;rw[e2];grind
 ·have:=h.use u hu;rw[h.Rx] at this;exact this
 ·obtain⟨r',x,ry,hx,rfl⟩:=FY h.len hr;exact h.old u hu v r' h1 h2 ry
variable {D:Nat}
theorem Iz.ai {a b:Rat} (h:Iz D a) (k:Iz D b):Iz D (ai a b):=by rcases dJ a b with ⟨e,_⟩|⟨e,_⟩ <;> rw[e] <;> assumption
theorem tb_iz {D:Nat} (y:Nat):∀ {t:List Vq} {m:Rat},(∀ p∈t,Iz D p.2)->Iz D m->(∀ p∈vT t m,Iz D p.2)/\(∀ u∈vS y t m,Iz D u.2.2)/\Iz D (Cz t m)
 | [],m,_,_=>⟨λp hp=>(by cases hp),λu hu=>(by cases hu),Iz.zero⟩
 | p::t,m,h,hm=>by
   have hp:=h p bN;have hr:=hp.ai hm;obtain⟨a,b,c⟩:=tb_iz y (t:=t) (m:=m-ai p.2 m) (λx hx=>h x (by simp[hx])) (hm.sub hr);refine⟨λq hq=> ?_,λu hu=> ?_,hr.add c⟩
   ·rcases dW.1 hq with rfl|hq
    ·exact hp.sub hr
    ·exact a q hq
   ·rcases gg.1 (show u∈(if 0<ai p.2 m then [((p.1,y,ai p.2 m):Uq)] else [])++vS y t (m-ai p.2 m) from hu) with h1|h1
    ·split at h1
     ·rw[aJ.1 h1];exact hr
     ·cases h1
    ·exact b u h1
structure RowZ (D:Nat) (r:bh):Prop where
 lim:Iz D r.aX
 alw:Iz D r.allowed
 den:Iz D r.az
 us:Iz D r.used
 ded:Iz D r.ao
 ex:Iz D r.aq
 lp:Iz D r.closing
structure XQ (D:Nat) (s:Ek):Prop where
 left:∀ x∈s.left,Iz D x
 use:∀ u∈s.uses,Iz D u.2.2
 row:∀ r∈s.rows,RowZ D r
theorem mem_modify {l:List bh} {f:bh->bh} (h:r∈l.modify i f):r∈l\/∃ r'∈l,r=f r':=by
 obtain⟨j,hj⟩:=qD.1 h;by_cases e:i=j
 ·rw[DL e] at hj;obtain⟨r',ry,rfl⟩:=ou.1 hj;exact .inr ⟨r',cX ry,aa⟩
 ·rw[yX e] at hj;exact .inl (cX hj)
theorem XR {s:Ek} (h:XQ D s) {y:Rat×Rat} (hL:Iz D (aH S F y.2)) (hy:Iz D y.1) (n:Nat):XQ D (nj S F kn n s y):=by
 unfold nj;have hr:=hy.ai hL;have hm:=hL.sub hr;obtain⟨t,ht⟩:∃ t,t=cO (n-kn) (s.left.drop (n-kn)):=⟨_,aa⟩;rw[<-ht];obtain⟨a,b,c⟩:=tb_iz n (t:=t) (m:=aH S F y.2-ai y.1 (aH S F y.2)) (λp hp=>by rw[ht] at hp;exact h.left _ (ow (oQ hp).2.2)) hm
 have nY:XQ D ⟨(s.left.take (n-kn)++(vT t (aH S F y.2-ai y.1 (aH S F y.2))).map (·.2))++[y.1-ai y.1 (aH S F y.2)],s.rows++[CA S F t y],s.uses++vS n t (aH S F y.2-ai y.1 (aH S F y.2))⟩:=by
  refine⟨λx hx=> ?_,λu hu=> ?_,λr ry=> ?_⟩
  ·rcases gg.1 hx with h1|h1
   ·rcases gg.1 h1 with h2|h2
    ·exact h.left x (nI h2)
    ·obtain⟨p,hp,rfl⟩:=fv.1 h2;exact a p hp
   ·rw[aJ.1 h1];exact hy.sub hr
  ·rcases gg.1 hu with h1|h1
   ·exact h.use u h1
   ·exact b u h1
  ·rcases gg.1 ry with h1|h1
   ·exact h.row r h1
   ·rw[aJ.1 h1];exact⟨hL,hr,hy.sub hr,c,hr.add c,Iz.zero,Iz.zero⟩
 generalize (⟨(s.left.take (n-kn)++(vT t (aH S F y.2-ai y.1 (aH S F y.2))).map (·.2))++[y.1-ai y.1 (aH S F y.2)],s.rows++[CA S F t y],s.uses++vS n t (aH S F y.2-ai y.1 (aH S F y.2))⟩:Ek)=s1 at nY ⊢;unfold tU
 split
 ·have hg:Iz D (s1.left.getD (n-kn) 0):=by
   rw[rJ];cases hx:s1.left[n-kn]? with
   | none=>exact Iz.zero
   | some x=>exact nY.left x (cX hx)
  refine⟨λx hx=> ?_,nY.use,λr ry=> ?_⟩
  ·rcases yv hx with h1|h1
   ·exact nY.left x h1
   ·rw[h1];exact Iz.zero
  ·rcases mem_modify ry with h1|⟨r',h1,rfl⟩
   ·exact nY.row r h1
   ·have q:=nY.row r' h1;exact⟨q.lim,q.alw,q.den,q.us,q.ded,hg,q.lp⟩
 ·exact nY
theorem tabz_run {l:List (Rat×Rat)} (hl:∀ e∈l,Iz D (aH S F e.2)/\Iz D e.1):XQ D (runT S F kn l):=by
 have key:∀ (l:List (Rat×Rat)) (s:Ek),(∀ e∈l,Iz D (aH S F e.2)/\Iz D e.1)->XQ D s->XQ D (l.foldl (λs y=>nj S F kn s.rows.length s y) s):=by
  intro l
  induction l with
  | nil=>intro s _ h;exact h
  | cons y l ih=>intro s hl h;exact ih _ (λe he=>hl e (by simp[he])) (XR h (hl y bN).1 (hl y bN).2 _)
 exact key l _ hl ⟨λx hx=>(by cases hx),λx hx=>(by cases hx),λx hx=>(by cases hx)⟩
theorem gs_mem {v:Nat} {u:Uq}:∀ {us:List Uq},(∀ e∈us,0<e.2.2)->u∈us->u.1=v->u.2.2<=gs (vn v) us
 | e::us,h,hu,hv=>by
   rw[xZ]
   have h0:∀ x∈us,0<=vn v x:=λx hx=>by
    have:=h x (by simp[hx]);unfold vn;split <;> grind
   have:=QL h0;rcases dW.1 hu with rfl|hu
   ·have:vn v u=u.2.2:=by unfold vn;rw[if_pos hv]
    grind
   ·have h1:=gs_mem (λx hx=>h x (by simp[hx])) hu hv
    have h2:0<=vn v e:=by
     have:=h e bN;unfold vn;split <;> grind
    grind
theorem CP {kk:Nat} {M:Rat} {l:List (Rat×Rat)} (hM:Iw D M S F kk l):LedSz kk (pH S F kn l):=by
 have uZ:=yd S F kn l;have hz:=tabz_run (kn:=kn) (λe he=>⟨(hM.el e he).1,(hM.el e he).2.2.1⟩);have zj:=Tv S F kn l
 have hrz:∀ r∈(pH S F kn l).1,RowZ D r:=λr hr=>by
  rw[zG] at hr;obtain⟨i,hi⟩:=qD.1 hr;obtain⟨r',x,ry,hx,rfl⟩:=FY zj.len hi;have q:=hz.row r' (cX ry);exact⟨q.lim,q.alw,q.den,q.us,q.ded,q.ex,hz.left x (cX hx)⟩
 have hgn:∀ v,0<=gs (vn v) (pH S F kn l).2:=λv=>QL λx hx=>by
  have:=(uZ.use x hx).1;unfold vn;split <;> grind
 have xK:∀ r∈(pH S F kn l).1,(0<=r.aX/\r.aX<=M)/\(-M<=r.allowed/\r.allowed<=M)/\(0<=r.az/\r.az<=M)/\(0<=r.used/\r.used<=M+M)/\(-M<=r.ao/\r.ao<=M)/\(0<=r.aq/\r.aq<=M)/\(0<=r.closing/\r.closing<=M):=λr hr=>by
  obtain⟨i,hi⟩:=qD.1 hr;obtain⟨e,he,a,hc,hs⟩:=uZ.row i r hi;obtain⟨b1,b2,b3,b4,b5⟩:=hM.el e (cX he);have FH:=oq S F e.2;have h1:=a.lim;have h2:=a.alw;have h3:=a.den;have h4:=a.us0;have h5:=a.us1;have h6:=a.ded;have h7:=a.ex0;have hg:=hgn i;rw[<-h1] at FH b2;rcases dJ e.1 r.aX with ⟨e',_⟩|⟨e',_⟩ <;> rw[e'] at h2 <;> refine⟨⟨?_,?_⟩,⟨?_,?_⟩,⟨?_,?_⟩,⟨?_,?_⟩,⟨?_,?_⟩,⟨?_,?_⟩,?_,?_⟩ <;> grind
 have hM0:∀ r∈(pH S F kn l).1,0<=M:=λr hr=>by have:=(xK r hr).1;grind
 have hof:∀ x,0<=M->Iz D x->-M<=x->x<=M+M->fI x kk:=λx h0 h h1 h2=>hM.sz x h cY h2;refine⟨λr hr=> ?_,λu hu=> ?_⟩
 ·obtain⟨b1,b2,b3,b4,b5,b6,b7⟩:=xK r hr;have q:=hrz r hr;have h0:=hM0 r hr;exact⟨hof _ h0 q.lim cY cY,hof _ h0 q.alw cY cY,hof _ h0 q.den cY cY,hof _ h0 q.us cY cY,hof _ h0 q.ded cY cY,hof _ h0 q.ex cY cY,hof _ h0 q.lp cY cY⟩
 ·obtain⟨c1,c2,c3,c4⟩:=uZ.use u hu;obtain⟨r,hr⟩:∃ r,(pH S F kn l).1[u.1]? =some r:=⟨_,ba (by rw[uZ.Rx];omega)⟩;have h1:=gs_mem (λx hx=>(uZ.use x hx).1) hu aa;obtain⟨e,he,a,hc,hs⟩:=uZ.row u.1 r hr;have b:=xK r (cX hr);have h7:=a.ex0;have h0:=hM0 r (cX hr);have uw:Iz D u.2.2:=by rw[zG] at hu;exact hz.use u hu
  exact hof _ h0 uw cY cY
theorem kP {a b:Rat} {c:Int} (h:eQ a b=c):(a<=b->¬ c>0)/\(b<=a->¬ c<0)/\(a<b->c<0)/\(b<a->c>0)/\(a=b->c=0):=by
 subst h;refine⟨λh=> ?_,λh=> ?_,λh=> ?_,λh=> ?_,λh=>gW h⟩
 ·have:=qf.2 h;omega
 ·have:=Bj.2 h;omega
 ·by_cases h':eQ a b>=0
  ·have:=Bj.1 h';grind
  ·omega
 ·by_cases h':eQ a b<=0
  ·have:=qf.1 h';grind
  ·omega
theorem ofS_cled (v:Nat) (us:List Uq):VG (v:Int) (us.map CO)=gs (vn v) us:=by
 unfold VG gs;rw[yC]
 congr 1
 refine yw λe _=> ?_;show pq (decide ((e.1:Int)=(v:Int))) (gX e.2.2)=vn v e;unfold pq vn;by_cases h:e.1=v
 ·rw[if_pos h,aE ab,if_pos rfl,sH]
 ·rw[if_neg h,aA ab,if_neg bq]
theorem bfS_cled (v y:Nat) (us:List Uq):Tp (v:Int) (y:Int) (us.map CO)=gs (bf v y) us:=by
 unfold Tp gs;rw[yC]
 congr 1
 refine yw λe _=> ?_;show pq (decide ((e.1:Int)=(v:Int)) && decide ((e.2.1:Int)<(y:Int))) (gX e.2.2)=bf v y e;unfold pq bf;by_cases h:e.1=v/\e.2.1<y
 ·rw[if_pos h,aE ab,aE ab,Bool.and_self,if_pos rfl,sH]
 ·rw[if_neg h];by_cases h1:e.1=v
  ·rw[aA (show ¬ ((e.2.1:Int)<(y:Int)) by omega),Gh,if_neg bq]
  ·rw[aA ab,Bool.false_and,if_neg bq]
theorem XS {l:List (Rat×Rat)} {x:List bh×List Uq} (h:IC S F kn l x) (hl:l.length<=100):ME kn (fF x):=by
 intro e he;obtain⟨u,hu,rfl⟩:=fv.1 he;obtain⟨c1,c2,c3,c4⟩:=h.use u hu;refine⟨u.1,u.2.1,aa,aa,by show u.1<=(x.1.map CN).length;rw[bu,h.Rx];omega,ab,λv R h1 h2 hR=> ?_⟩;rw[show (fF x).1=x.1.map CN from aa,nJ] at hR;obtain⟨r,hr,rfl⟩:=ou.1 hR;have:=h.old u hu v r ab h2 hr;refine (kP aa).1 ?_;rw[show (fF x).2=x.2.map CO from aa,show ((u.2.1:Int)+1)=((u.2.1+1:Nat):Int) by omega,bfS_cled];show (gX r.az).q-_<=0;rw[sH];exact this
end
section
open Go.RowKit
attribute [local irreducible] aG VS
def sI (S F:RR) (keep:Int) (l:List (RR×RR)):Bool:=fw S F keep && l.all iV && decide (l.length<=40)
def lP (S F:RR) (keep:Int) (l:List (RR×RR)):Int:=if fw S F keep && l.all iV then 3 else 2
theorem qZ (S F:RR) (keep:Int) (l:List (RR×RR)):lP S F keep l≠0:=by unfold lP;split <;> decide
theorem ye (v u:Value) (a b:RR) (keep:Int) (l:List (RR×RR)) (w:World) (hR:fY w v a b keep) (ha:a.ld 3) (hb:b.ld 3) (hl:dm (pW 3) 8 w u l) (hlen:l.length<=100000) (hno:sI a b keep l=false) (c:Int) (hc:lP a b keep l=c):
  Calls Tryz.prog 11 #[v,u] w λo w'=>o=.returned (.tuple #[.agg #[.slice none 0 0,.slice none 0 0],.int .i64 c])/\aU w w':=by
 subst hc;unfold lP;cases h:(fw a b keep && l.all iV) with
 | false=>exact iRun_bad v u a b keep l 3 w hR ha hb hl bq hlen h
 | true=>
   unfold sI at hno;rw[h] at hno;rw[gf] at h;exact tZ v u a b keep l 3 w hR ha hb hl bq hlen h.1 h.2 (by simpa using hno)
structure re (S F:RR) (keep:Int) (l:List (RR×RR)):Prop where
 k0:0<=keep
 k1:keep<=40
 s0:0<=S.q
 s1:S.q<=1
 rul:fw S F keep=true
 yrs:l.all iV=true
 len:l.length<=40
theorem kA {S F:RR} {keep:Int} {l:List (RR×RR)} (h:sI S F keep l=true):re S F keep l:=by
 unfold sI at h;rw[gf,gf] at h;obtain⟨⟨h1,h2⟩,h3⟩:=h;have hr:=h1;unfold fw at hr;simp only[Bool.and_eq_true,decide_eq_true_iff] at hr;obtain⟨r1,r2,r3,r4,r5,r6⟩:=hr;exact⟨r5,r6,Bj.1 r3,qf.1 r4,h1,h2,CV h3⟩
theorem Lm.ofSz {q:Rat} {k:Nat} (h:fI q k):Lm k q:=by
 obtain⟨h1,h2⟩:=h;have h1:=h1.lt;have h2:=h2.lt;exact⟨ab,ab⟩
variable {w:World}
theorem fY.sz {v:Value} {S F:RR} {keep:Int} {k:Nat} (h:fY w v S F keep) (hS:S.ld k) (hF:F.ld k) (hk:1<=k):fI S.q k/\fI F.q k:=by
 obtain⟨p,c,r,d,p',c',r',d',rfl,h1,h2⟩:=h;exact⟨(h1.fZ hS).sz hk,(h2.fZ hF).sz hk⟩
theorem yrs_sz {v:Value} {l:List (RR×RR)} {k:Nat} (h:dm (pW k) 8 w v l) (hk:1<=k):∀ e∈l,fI e.1.q k/\fI e.2.q k:=λe he=>by
 obtain⟨i,hi,hx⟩:=List.mem_iff_getElem.1 he;obtain⟨p,c,rfl,_,_⟩:=h.form;obtain⟨_,_,cs,_,_,x,y,_,⟨_,_,_,_,_,h1⟩,⟨_,_,_,_,_,h2⟩,f1,f2⟩:=h.at (i:=i) (a:=e) (by rw[ba hi,hx]);exact⟨(h1.fZ f1).sz hk,(h2.fZ f2).sz hk⟩
theorem pe {v u:Value} {S F:RR} {keep:Int} {l:List (RR×RR)} (hR:fY w v S F keep) (hS:S.ld 3) (hF:F.ld 3) (hl:dm (pW 3) 8 w u l) (gv:re S F keep l) (hlen:l.length<=12):
  Iw (S.q.den*F.q.den*CJ (cD l)) (((4294967296^3:Nat):Int):Rat) S.q F.q 82 (cD l):=by
 obtain⟨h1,h2⟩:=hR.sz hS hF bq;refine numsOk (k:=3) (n:=12) (Lm.ofSz h1) (Lm.ofSz h2) gv.s0 gv.s1 (λe he=> ?_) (by unfold cD;rw[bu];exact hlen) bq;obtain⟨x,hx,rfl⟩:=fv.1 he;obtain⟨a,b⟩:=yrs_sz hl bq x hx;exact⟨Lm.ofSz a,Lm.ofSz b⟩
theorem rf (v u:Value) (S F:RR) (keep:Int) (kn:Nat) (l:List (RR×RR)) (w:World) (hR:fY w v S F keep) (hS:S.ld 3) (hF:F.ld 3) (hl:dm (pW 3) 8 w u l) (gv:re S F keep l) (hlen:l.length<=12) (ux:keep=(kn:Int)):
  Calls Tryz.prog 11 #[v,u] w λo w'=>∃ r u',o=.returned (.tuple #[.agg #[r,u'],.int .i64 0])/\uf w.heap.size w' r u' (pH S.q F.q kn (cD l))/\aU w w':=by
 have hM:=pe hR hS hF hl gv hlen;subst ux;have:=gv.k1;exact Vy v u S F kn l 3 82 _ _ w hR hS hF hl bq bq bq gv.rul gv.yrs gv.len ab hM
theorem eZ {b:Nat} {t:TypeId} {cs:List Value} (h:bO w b t cs.toArray) (k:Nat) (ds:List Value) (hd:ds <+:cs.drop k):∀ (j:Nat) (u:Value),ds[j]? =some u->w.cell? ((⟨b,0+k,none⟩:Addr).add j)=some u:=by
 intro j u hj;obtain⟨t',ht⟩:=hd;rw[ju,jt];refine h.cell ?_;rw[CT,<-tf,<-ht,gm (cQ.1 hj).1];exact hj
set_option maxRecDepth 4000
variable {x:List bh×List Uq} {kn:Nat} {S F:Rat} {e:eM}
theorem con_use {l:List (Rat×Rat)} (h:IC S F kn l x) (he:e∈(fF x).2):
  ∃ (a b:Nat) (y:Rat),e.1=(a:Int)/\e.2.1=(b:Int)/\e.2.2.q=y/\0<y/\a<b/\b<=a+kn/\b<l.length:=by
 obtain⟨u,hu,rfl⟩:=fv.1 he;obtain⟨c1,c2,c3,c4⟩:=h.use u hu;exact⟨u.1,u.2.1,_,aa,aa,sH _,c1,c2,c3,c4⟩
variable {z:Nat}
theorem con_sort {l:List (Rat×Rat)} (h:IC S F kn l x) {f:eM} {a b a' b':Nat} (he:(fF x).2[z]? =some e) (hf:(fF x).2[z+1]? =some f) (h1:e.1=(a:Int)) (h2:e.2.1=(b:Int)) (h3:f.1=(a':Int)) (h4:f.2.1=(b':Int)):b<b'\/(b=b'/\a<a'):=by
 rw[show (fF x).2=x.2.map CO from aa,nJ] at he hf;obtain⟨u,hu,rfl⟩:=ou.1 he;obtain⟨v,hv,rfl⟩:=ou.1 hf;obtain⟨hi,rfl⟩:=cQ.1 hu;obtain⟨hj,rfl⟩:=cQ.1 hv;have:=List.pairwise_iff_getElem.1 h.sort z (z+1) hi hj ab;unfold Lex at this;have e1:((x.2[z].1:Nat):Int)=(a:Int):=h1;have e2:((x.2[z].2.1:Nat):Int)=(b:Int):=h2;have e3:((x.2[z+1].1:Nat):Int)=(a':Int):=h3;have e4:((x.2[z+1].2.1:Nat):Int)=(b':Int):=h4;omega
theorem uj {D kk:Nat} {M:Rat} {l:List (Rat×Rat)} (hM:Iw D M S F kk l):Ir D M (kt S F kn l)/\(kt S F kn l).rows.length=l.length:=by
 have key:∀ (l p:List (Rat×Rat)) (s:Qs),(∀ e∈l,Iz D (aH S F e.2)/\aH S F e.2<=M/\Iz D e.1/\-M<=e.1/\e.1<=M)->Ir D M s->s.rows.length=p.length->Ir D M (l.foldl (λs y=>fR S F kn s.rows.length s y) s)/\(l.foldl (λs y=>fR S F kn s.rows.length s y) s).rows.length=(p++l).length:=by
  intro l
  induction l with
  | nil=>intro p s _ h hp;rw[gA];exact⟨h,hp⟩
  | cons y l ih=>
    intro p s hl h hp;obtain⟨a1,a2,a3,a4,a5⟩:=hl y bN;obtain⟨b1,b2⟩:=Vt (keep:=kn) h a1 a2 a3 a4 a5;have:=ih (p++[y]) _ (λe he=>hl e (by simp[he])) b1 (by rw[b2,hp,bB];rfl)
    rwa [fu] at this
 exact key l [] ⟨[],[],[]⟩ hM.el ⟨λp hp=>(by cases hp),by show 0+0<=2*0;omega⟩ aa
structure ConRow (e:Rat) (of:Rat) (r:bh):Prop where
 sum:lh [of,r.aq,r.closing]=r.az
 d0:0<=r.az
 e0:0<=r.aq
 c0:0<=r.closing
 l0:0<=r.aX
 u0:0<=r.used
 net:r.allowed+r.az=e
 ded:r.allowed+r.used=r.ao
 lim:r.ao<=r.aX
theorem con_row {l:List (RR×RR)} (h:IC S F kn (cD l) x) {R:eO} (hR:(fF x).1[z]? =some R):
  ∃ e,l[z]? =some e/\ConRow e.1.q (VG (z:Int) (fF x).2) R.q:=by
 rw[show (fF x).1=x.1.map CN from aa,nJ] at hR;obtain⟨r,hr,rfl⟩:=ou.1 hR;obtain⟨e,he,a,hc,hs⟩:=h.row z r hr;rw[show cD l=l.map (λe=>(e.1.q,e.2.q)) from aa,nJ] at he;obtain⟨e',wh,rfl⟩:=ou.1 he;refine⟨e',wh,?_⟩;rw[crow_q,show (fF x).2=x.2.map CO from aa,ofS_cled]
 have hg:0<=gs (vn z) x.2:=QL λu hu=>by
  have:=(h.use u hu).1;unfold vn;split <;> grind
 have h1:=a.lim;have h2:=a.alw;have h3:=a.den;have h4:=a.us0;have h5:=a.us1;have h6:=a.ded;have h7:=a.ex0;have FH:=oq S F e'.2.q;have hle:=eh e'.1.q r.aX;exact⟨by rw[qz,qz,qz];show _+(_+(_+lh []))=_;rw[show lh []=0 from aa];grind,cY,h7,hc,by rw[h1];exact FH,h4,cY,h6.symm,cY⟩
theorem rh {P Q:Prop} (h:Q) (i:Q->P:=by intro h;exact VS.ret (IA _ _) rfl rfl h):P:=i h
set_option maxRecDepth 4000 in
theorem XT (v u:Value) (S F:RR) (keep:Int) (l:List (RR×RR)) (kk:Nat) (w:World) (hR:fY w v S F keep) (hl:dm (pW kk) 8 w u l):
  Calls Tryz.prog 4 #[v,u] w λo w'=>o=.returned (.bool true)/\aU w w':=by
 obtain⟨uq,uc,rfl,MG,hum⟩:=hl.form;obtain⟨sp,sc,sr,sd,fp,fc,fr,fd,rfl,xB,xC⟩:=hR;have hR:fY w (.agg #[.bool S.1,.slice sp S.2.1.length sc,.bool S.2.2.1,.slice sr S.2.2.2.length sd,.bool F.1,.slice fp F.2.1.length fc,.bool F.2.2.1,.slice fr F.2.2.2.length fd,.int .i64 keep]) S F keep:=⟨_,_,_,_,_,_,_,_,aa,xB,xC⟩;obtain⟨N,hN⟩:∃ N,N=l.length:=⟨_,aa⟩;rw[<-hN] at hl MG;rw[<-hN];refine ah (C:=xX Tryz.prog w _) (args:=[_,_]) Tryz.func4 aa Tryz.ntmps4 (bM aa) ?_;refine bJ ?_;cases mC:oY S F l with
 | false=>
   refine VO.cB aa aa (fk Al) (λbn cG bo=>oZ _ _ S F keep l kk bn (hR.kp (Kp.of (U:=UU) bo)) (hl.bI (bg kk) bo) false mC) (λbn cG bo w1 bA eF _ bb1=>wV aa ?_);refine bJ ?_;refine VO.cB aa aa (fk nM) (λcz dB cT=>dR cz) (λcz dB cT w2 cC fe _ bb2=>wV aa ?_);refine bJ ?_;refine rh ?_;intro wz kz bz;exact⟨aa,bz⟩
 | true=>
 have QM:=BF mC hl;have hlen:=CM mC;obtain⟨ND,NF,-⟩:=uh mC;refine VO.cB aa aa (fk Al) (λbn cG bo=>oZ _ _ S F keep l kk bn (hR.kp (Kp.of (U:=UU) bo)) (hl.bI (bg kk) bo) true mC) (λbn cG bo w1 bA eF _ bb1=>wV aa ?_);refine bJ ?_;cases gv:sI S F keep l with
 | false=>
   obtain⟨c,hc⟩:∃ c,lP S F keep l=c:=⟨_,aa⟩;have La:c≠0:=hc▸qZ S F keep l;refine VO.call aa aa (fk kW) (λeP fA ft=>(ye _ _ S F keep l eP (hR.kp (Kp.of (U:=UU) ft)) ND NF (QM.bI (bg 3) ft) ab gv c hc).mono ?_);rintro e w3 ⟨rfl,dZ⟩
   skip
   refine eC dZ ?_;intro jm _ bb3;refine VS.aV aa (Bk La) ?_;refine bJ ?_;refine VO.cB aa aa (fk nM) (λfW iJ iB=>dR fW) (λfW iJ iB w4 ic mB _ tI=>wV aa ?_);refine bJ ?_;refine rh ?_;intro wz kz bz;exact⟨aa,bz⟩
 | true=>
 have hf:=kA gv;have Di:=hf.k0;have Hd:=hf.k1;have hN12:N<=12:=by have:=hf.len;omega
 obtain⟨kn,rfl⟩:∃ kn:Nat,keep=(kn:Int):=⟨keep.toNat,ab⟩;have hM:=pe hR ND NF QM hf ab;have hul24:=(uj (kn:=kn) hM).1.len;have uZ:=yd S.q F.q kn (cD l);have hsz:=CP (kn:=kn) hM;refine VO.call aa aa (fk kW) (λeP fA ft=>((rf _ _ S F (kn:Int) kn l eP (hR.kp (Kp.of (U:=UU) ft)) ND NF (QM.bI (bg 3) ft) hf ab aa).mono (λo w2 h=>And.intro h ft.size)).mono ?_);rintro e w3 ⟨⟨r3,u3,rfl,l3,dZ⟩,Iu⟩;obtain⟨pr,cr,pu,cu,rfl,rfl⟩:=l3.form;refine eC dZ ?_;intro jm _ bb3;obtain⟨x,hx⟩:∃ x,pH S.q F.q kn (cD l)=x:=⟨_,aa⟩;rw[hx] at l3 uZ hsz ⊢;refine VS.aP aa (vJ (by rw[uZ.Rx,hN];unfold cD;simp)) ?_;refine bJ ?_;refine VS.Ia (λw=>cH Tryz.prog w 217) (λ_=>aa) (λ_=>aa) (λ_=>aU.refl _) (λW β k4 b4 en=> ?_);have kk3:bQ (xX Tryz.prog w 217).K w3 W:=k4;have FR:=(l3.Tn (nv w 217) kk3 kk3.nD).YD hsz;have kC:=(en.own 2 _ _ aa).cls;have Vg:=(en.own 5 _ _ aa).cls;obtain⟨b2,hb2'⟩:∃ b,b=β 2:=⟨_,aa⟩;obtain⟨b5,hb5'⟩:∃ b,b=β 5:=⟨_,aa⟩;refine⟨[(1,.val (.slice uq N uc)),(2,.val (.pointer (some ⟨β 2,0,none⟩))),(5,.val (.pointer (some ⟨β 5,0,none⟩))),(7,.val (.int .i64 0))],⟨⟨_,_,aa,aa,aa⟩,⟨_,_,aa,aa,aa⟩,⟨_,_,aa,aa,aa⟩,⟨_,_,aa,aa,aa⟩,ag⟩,?_⟩;rw[<-hb2'] at kC ⊢;rw[<-hb5'] at Vg ⊢;obtain⟨us,sW⟩:∃ us,(fF x).2=us:=⟨_,aa⟩;obtain⟨rs,Lg⟩:∃ rs,(fF x).1=rs:=⟨_,aa⟩;have ib:x.1.length=N:=by rw[uZ.Rx,hN];unfold cD;simp
 obtain⟨n,hn⟩:∃ n,n=x.2.length:=⟨_,aa⟩;rw[ib,<-hn] at FR Vg;have OX:us.length=n:=by rw[<-sW,hn];exact bu _
 have uy:rs.length=N:=by rw[<-Lg,<-ib];exact bu _
 have hLU:=FR.2;have hLR:=FR.1;rw[sW] at hLU;rw[Lg] at hLR
 have hn24:n<=24:=by
  rw[hn,<-hx];show (kt S.q F.q kn (cD l)).uses.length<=24;have h2:=(uj (kn:=kn) hM).2;have h3:(cD l).length=N:=by rw[hN];unfold cD;simp
  omega
 have hOld:ME kn (rs,us):=by rw[<-sW,<-Lg];exact XS uZ (by unfold cD;rw[bu];omega)
 have QM:=QM.bI (bg 3) b4;have Co:(cD l).length=N:=by rw[hN];unfold cD;simp
 have hhu:∀ e∈us,∃ (a b:Nat) (y:Rat),e.1=(a:Int)/\e.2.1=(b:Int)/\e.2.2.q=y/\0<y/\a<b/\b<=a+kn/\b<N:=λe he=>by rw[<-sW] at he;have:=con_use uZ he;rwa [Co] at this
 refine VS.loop (J:=λm L M w'=>∃ (z:Nat),z<=n/\m=n-z/\L=[(1,.val (.slice uq N uc)),(2,.val (.pointer (some ⟨b2,0,none⟩))),(5,.val (.pointer (some ⟨b5,0,none⟩))),(7,.val (.int .i64 (z:Int)))]/\M=[]) n ⟨_,_,?_,?_,?_,?_,⟨0,ab,aa,aa,aa⟩⟩ ?_
 ·exact cA
 ·exact cA
 ·rfl
 ·exact gn
 rintro m L M w9 ⟨z,hz,rfl,rfl,rfl⟩;refine ae ?_;refine VO.read aa [.slice pu n cu] aa (eZ Vg 1 _ ⟨[],aa⟩) (wV aa ?_);refine ae ?_;by_cases hlt:z<n
 ·obtain⟨e,he⟩:∃ e,us[z]? =some e:=⟨_,ba ab⟩;obtain⟨a',b',y',hea,heb,hec,u1,u2,u3,u4⟩:=hhu e (cX he);obtain⟨b,off,gD,gP,hc,⟨_,rfl,⟨ap,ac,ar,ad,rfl,qQ⟩,mC⟩⟩:=hLU.at he;have Jv:=gP;subst gP;rw[hea,heb] at hc;obtain⟨sg,ny⟩:∃ sg,eQ e.2.2.q 0=sg:=⟨_,aa⟩
  have hsp:¬ sg<=0:=by
   have:=(kP ny).2.2.2.1 (by rw[hec];exact u1);omega
  refine VS.aV aa (aE (aQ.2 hlt)) ?_;refine ae ?_;refine VO.read aa [.slice (some ⟨b,off,none⟩) n cu] aa (eZ Vg 1 _ ⟨[],aa⟩) (wV aa ?_);refine ae ?_;refine VO.cond aa dQ ?_;refine wV aa ?_;refine ae ?_;refine VO.read aa [.int .i64 (a':Int),.int .i64 (b':Int),.bool e.2.2.1,.slice ap e.2.2.2.1.length ac,.bool e.2.2.2.2.1,.slice ar e.2.2.2.2.2.length ad] aa (aM hc 0 _ ⟨[],aa⟩) (wV aa ?_);refine ae ?_;refine VO.cB aa aa (fk mJ) (λcz dB cT=>ea _ e.2.2.q 82 cz ((qQ.kp (Kp.of (U:=UU) cT)).fZ mC) ab sg ny) (λcz dB cT w2 cC fe _ bb2=>wV aa ?_);refine ae ?_;refine VO.fix 59 aa (au (λb=>AV.val (.bool b)) (aA hsp)) ?_;refine ae ?_;refine VO.fix 64 aa (au (λb=>AV.val (.bool b)) (aA (show ¬ (a':Int)<0 by omega))) ?_;refine ae ?_;refine VO.fix 71 aa (au (λb=>AV.val (.bool b)) (aA (show ¬ (b':Int)<=(a':Int) by omega))) ?_;refine ae ?_;refine VO.fix 76 aa (au (λz=>AV.val (.int .i64 z)) (show IntKind.i64.wrap ((b':Int)-(a':Int))=((b' -a':Nat):Int) by rw[rN];omega)) ?_;refine ae ?_;refine VO.read aa [.int .i64 (kn:Int)] aa (eZ kC 8 _ ⟨[],aa⟩) (wV aa ?_);refine ae ?_;refine VO.fix 81 aa (au (λb=>AV.val (.bool b)) (aA (show ¬ ((b' -a':Nat):Int)>(kn:Int) by omega))) ?_;refine ae ?_;refine VS.aP aa (aA (show ¬ (b':Int)>=(N:Int) by omega)) ?_;refine ae ?_;by_cases pX:z=0
  ·refine VO.fix 90 aa (au (λb=>AV.val (.bool b)) (aA (show ¬ (z:Int)>0 by omega))) ?_;refine ae ?_;refine VS.back (n-(z+1)) ab ⟨_,_,?_,?_,?_,?_,⟨z+1,ab,aa,aa,aa⟩⟩
   ·refine⟨aa,aa,aa,?_,ag⟩;rw[<-aD (i:=z) ab];rfl
   ·exact cA
   ·rfl
   ·exact gn
  ·refine VO.fix 90 aa (au (λb=>AV.val (.bool b)) (aE (show (z:Int)>0 by omega))) ?_;refine ae ?_;obtain⟨e0,he0⟩:∃ e,us[z-1]? =some e:=⟨_,ba ab⟩;obtain⟨a0,b0,y0,hea0,heb0,-⟩:=hhu e0 (cX he0);obtain⟨bb0,off0,cs0,hpp0,Vb,⟨_,rfl,⟨ap0,ac0,ar0,ad0,rfl,hraw0⟩,hfew0⟩⟩:=hLU.at he0;cases hpp0;rw[hea0,heb0] at Vb;have hsrt:b0<b'\/(b0=b'/\a0<a'):=con_sort uZ (z:=z-1) (by rw[sW];exact he0) (by rw[sW,show z-1+1=z by omega];exact he) hea0 heb0 hea heb;refine VO.read aa [.slice (some ⟨b,off,none⟩) n cu] aa (eZ Vg 1 _ ⟨[],aa⟩) (wV aa ?_);refine ae ?_;refine VO.fix 94 aa (au (λz=>AV.val (.int .i64 z)) (show IntKind.i64.wrap ((z:Int)-1)=((z-1:Nat):Int) by rw[rN];omega)) ?_;refine ae ?_;refine VO.cond aa dQ ?_;refine wV aa ?_;refine ae ?_;refine VO.read aa [.int .i64 (b0:Int)] aa (aM Vb 1 _ ⟨_,aa⟩) (wV aa ?_);refine ae ?_;refine VO.fix 101 aa (au (λb=>AV.val (.bool b)) (aA (show ¬ (b0:Int)>(b':Int) by omega))) ?_;refine ae ?_;refine VO.read aa [.slice (some ⟨b,off,none⟩) n cu] aa (eZ Vg 1 _ ⟨[],aa⟩) (wV aa ?_);refine ae ?_;refine VO.fix 105 aa (au (λz=>AV.val (.int .i64 z)) (show IntKind.i64.wrap ((z:Int)-1)=((z-1:Nat):Int) by rw[rN];omega)) ?_;refine ae ?_;refine VO.cond aa dQ ?_;refine wV aa ?_;refine ae ?_;refine VO.read aa [.int .i64 (b0:Int)] aa (aM Vb 1 _ ⟨_,aa⟩) (wV aa ?_);refine ae ?_;by_cases nB:b0=b'
   ·refine VO.fix 112 aa (au (λb=>AV.val (.bool b)) (aE (show (b0:Int)=(b':Int) by omega))) ?_;refine ae ?_;refine VO.read aa [.slice (some ⟨b,off,none⟩) n cu] aa (eZ Vg 1 _ ⟨[],aa⟩) (wV aa ?_);refine ae ?_;refine VO.fix 116 aa (au (λz=>AV.val (.int .i64 z)) (show IntKind.i64.wrap ((z:Int)-1)=((z-1:Nat):Int) by rw[rN];omega)) ?_;refine ae ?_;refine VO.cond aa dQ ?_;refine wV aa ?_;refine ae ?_;refine VO.read aa [.int .i64 (a0:Int)] aa (aM Vb 0 _ ⟨_,aa⟩) (wV aa ?_);refine ae ?_;refine VS.aP aa (aA (show ¬ (a0:Int)>=(a':Int) by omega)) ?_;refine ae ?_;refine VS.back (n-(z+1)) ab ⟨_,_,?_,?_,?_,?_,⟨z+1,ab,aa,aa,aa⟩⟩
    ·refine⟨aa,aa,aa,?_,ag⟩;rw[<-aD (i:=z) ab];rfl
    ·exact cA
    ·rfl
    ·exact gn
   ·refine VO.fix 112 aa (au (λb=>AV.val (.bool b)) (aA (show ¬ (b0:Int)=(b':Int) by omega))) ?_;refine ae ?_;refine VS.back (n-(z+1)) ab ⟨_,_,?_,?_,?_,?_,⟨z+1,ab,aa,aa,aa⟩⟩
    ·refine⟨aa,aa,aa,?_,ag⟩;rw[<-aD (i:=z) ab];rfl
    ·exact cA
    ·rfl
    ·exact gn
 ·refine VS.aP aa (aA (λe=>hlt (aQ.1 e))) ?_;refine ae ?_;refine VS.loop (J:=λm L M w'=>∃ (z:Nat),z<=N/\m=N-z/\L=[(1,.val (.slice uq N uc)),(2,.val (.pointer (some ⟨b2,0,none⟩))),(5,.val (.pointer (some ⟨b5,0,none⟩))),(9,.val (.int .i64 (z:Int)))]/\M=[]) N ⟨_,_,?_,?_,?_,?_,⟨0,ab,aa,aa,aa⟩⟩ ?_
  ·exact cA
  ·exact cA
  ·rfl
  ·exact gn
  rintro m L M w8 ⟨z,hz,rfl,rfl,rfl⟩;refine ae ?_;by_cases hlt:z<N
  ·obtain⟨R,hRz⟩:∃ R,rs[z]? =some R:=⟨_,ba ab⟩;obtain⟨y,hy,jx⟩:=con_row uZ (z:=z) (R:=R) (by rw[Lg];exact hRz);rw[sW] at jx;obtain⟨rb,ro,rcs,hrp,SX,⟨_,_,_,_,_,_,_,rfl,⟨⟨NG,NH,NI,NJ,rfl,g0⟩,f0⟩,⟨⟨NK,NL,NM,NN,rfl,g1⟩,f1⟩,⟨⟨NP,NQ,NR,NS,rfl,g2⟩,f2⟩,⟨⟨NT,NU,NV,NW,rfl,g3⟩,f3⟩,⟨⟨NX,NY,NZ,Oa,rfl,g4⟩,f4⟩,⟨⟨MH,MI,MJ,ML,rfl,g5⟩,f5⟩,⟨⟨MM,MN,MO,MP,rfl,g6⟩,f6⟩⟩⟩:=hLR.at hRz;obtain⟨lb,lo,lcs,hlp,hlc,_,_,rfl,⟨y1p,y1c,y1r,y1d,rfl,hy1⟩,⟨y2p,y2c,y2r,y2d,rfl,hy2⟩,hyf1,hyf2⟩:=QM.at hy;subst hrp;subst hlp;obtain⟨pZ,qa⟩:∃ sg,eQ R.az.q 0=sg:=⟨_,aa⟩;obtain⟨sg5,hsg5⟩:∃ sg,eQ R.aq.q 0=sg:=⟨_,aa⟩;obtain⟨sg6,hsg6⟩:∃ sg,eQ R.closing.q 0=sg:=⟨_,aa⟩;obtain⟨sg0,oT⟩:∃ sg,eQ R.aX.q 0=sg:=⟨_,aa⟩;obtain⟨sg3,hsg3⟩:∃ sg,eQ R.used.q 0=sg:=⟨_,aa⟩;obtain⟨cm,iC⟩:∃ cm,eQ R.ao.q R.aX.q=cm:=⟨_,aa⟩;have xe:=(kP qa).2.1 jx.d0;have hn5:=(kP hsg5).2.1 jx.e0;have hn6:=(kP hsg6).2.1 jx.c0;have rn:=(kP oT).2.1 jx.l0;have XE:=(kP hsg3).2.1 jx.u0;have hncm:=(kP iC).1 jx.lim;refine VS.aV aa (aE (aQ.2 hlt)) ?_;refine ae ?_;refine VO.read aa [.slice (some ⟨rb,ro,none⟩) N cr] aa (eZ Vg 0 _ ⟨_,aa⟩) (wV aa ?_);refine ae ?_;refine VO.cond aa dQ ?_;refine wV aa ?_;refine ae ?_;refine VO.read aa [.bool R.aX.1,.slice NG R.aX.2.1.length NH,.bool R.aX.2.2.1,.slice NI R.aX.2.2.2.length NJ,.bool R.allowed.1,.slice NK R.allowed.2.1.length NL,.bool R.allowed.2.2.1,.slice NM R.allowed.2.2.2.length NN,.bool R.az.1,.slice NP R.az.2.1.length NQ,.bool R.az.2.2.1,.slice NR R.az.2.2.2.length NS,.bool R.used.1,.slice NT R.used.2.1.length NU,.bool R.used.2.2.1,.slice NV R.used.2.2.2.length NW,.bool R.ao.1,.slice NX R.ao.2.1.length NY,.bool R.ao.2.2.1,.slice NZ R.ao.2.2.2.length Oa,.bool R.aq.1,.slice MH R.aq.2.1.length MI,.bool R.aq.2.2.1,.slice MJ R.aq.2.2.2.length ML,.bool R.closing.1,.slice MM R.closing.2.1.length MN,.bool R.closing.2.2.1,.slice MO R.closing.2.2.2.length MP] aa (aM SX 0 _ ⟨[],aa⟩) (wV aa ?_);refine ae ?_;refine VO.read aa [.slice (some ⟨rb,ro,none⟩) N cr,.slice pu n cu] aa (eZ Vg 0 _ ⟨_,aa⟩) (wV aa ?_);refine ae ?_;refine VO.cR aa aa (fk Tryz.func15) (λfQ iH fV=>VH _ _ (rs,us) (z:Int) 82 fQ (pd.bI (X:=(rs,us)) ⟨hLR,hLU⟩ fV) ab (by show us.length<=1000;omega)) (λfQ iH fV w5 s5 p5 n5 c5 t5 y5 m5 d5 q5 iz lg _ sR=>wV aa ?_);refine ae ?_
   have hof:fI (VG (z:Int) us) 10000:=by
    have h1:=Tq (f:=λe=>decide (e.1=(z:Int))) (z:=us.length) hLU.rws (bL _);rw[Oo,OX] at h1;refine h1.mono (bj (tQ hn24) bq)
   refine VO.eB aa (fk Tryz.func14) (λfJ β iK gE ho=>(zB _ [VG (z:Int) us,R.aq.q,R.closing.q] 10000 fJ (et (ho.own 144 (.base (aJ.2 aa)) _ _ aa) [] (vs:=[[.bool s5,.slice p5 n5 c5,.bool t5,.slice y5 m5 d5],[.bool R.aq.1,.slice MH R.aq.2.1.length MI,.bool R.aq.2.2.1,.slice MJ R.aq.2.2.2.length ML],[.bool R.closing.1,.slice MM R.closing.2.1.length MN,.bool R.closing.2.2.1,.slice MO R.closing.2.2.2.length MP]]) (by rfl) aa (bV.cons (q5.ki hof bm) (bV.cons (((g5.kp (Kp.of (U:=UU) gE)).fZ f5).up ab) (bV.cons (((g6.kp (Kp.of (U:=UU) gE)).fZ f6).up ab) bV.nil))) (bM aa) bq) (by unfold eR gU;simp)).mono ?_);rintro o w6 ⟨r6,rfl,q6,hs6,ln⟩;rw[show lh [VG (z:Int) us,R.aq.q,R.closing.q]=R.az.q from jx.sum] at q6 hs6;obtain⟨s6,p6,n6,c6,t6,y6,m6,d6,rfl⟩:=q6.form;refine bZ ln ?_;intro lH _ sj;refine VO.cB aa aa (fk jU) (λjS na jI=>ek _ _ R.az.q R.az.q (eR 10000 3) 82 jS (q6.ki hs6) ((g2.kp (Kp.of (U:=UU) jI)).fZ f2) bq ab 0 (gW aa)) (λjS na jI w7 ta rB _ Ct=>wV aa ?_);refine ae ?_;refine VO.cB aa aa (fk mJ) (λpV yn ru=>ea _ R.az.q 82 pV ((g2.kp (Kp.of (U:=UU) ru)).fZ f2) ab pZ qa) (λpV yn ru w8 vG vP _ KW=>wV aa ?_);refine ae ?_;refine VO.fix 156 aa (au (λb=>AV.val (.bool b)) (aA xe)) ?_;refine ae ?_;refine VO.cB aa aa (fk mJ) (λRs Yu Rt=>ea _ R.aq.q 82 Rs ((g5.kp (Kp.of (U:=UU) Rt)).fZ f5) ab sg5 hsg5) (λRs Yu Rt w9 Sg Jp _ bb9=>wV aa ?_);refine ae ?_;refine VO.fix 162 aa (au (λb=>AV.val (.bool b)) (aA hn5)) ?_;refine ae ?_;refine VO.cB aa aa (fk mJ) (λnb rC qV=>ea _ R.closing.q 82 nb ((g6.kp (Kp.of (U:=UU) qV)).fZ f6) ab sg6 hsg6) (λnb rC qV Yv xk kf _ Hv=>wV aa ?_);refine ae ?_;refine VO.fix 168 aa (au (λb=>AV.val (.bool b)) (aA hn6)) ?_;refine ae ?_;refine VO.cB aa aa (fk mJ) (λrD tK xm=>ea _ R.aX.q 82 rD ((g0.kp (Kp.of (U:=UU) xm)).fZ f0) ab sg0 oT) (λrD tK xm w11 Cu qe _ Qc=>wV aa ?_);refine ae ?_;refine VO.fix 174 aa (au (λb=>AV.val (.bool b)) (aA rn)) ?_;refine ae ?_;refine VO.cB aa aa (fk mJ) (λsU yo vQ=>ea _ R.used.q 82 sU ((g3.kp (Kp.of (U:=UU) vQ)).fZ f3) ab sg3 hsg3) (λsU yo vQ w12 Cv tL _ Qd=>wV aa ?_);refine ae ?_;refine VS.aP aa (aA XE) ?_;refine ae ?_;refine VO.cR aa aa (fk tk) (λyq Hw xn=>gi _ _ R.allowed.q R.az.q 82 82 yq ((g1.kp (Kp.of (U:=UU) xn)).fZ f1) ((g2.kp (Kp.of (U:=UU) xn)).fZ f2) ab ab) (λyq Hw xn vI s13 p13 n13 c13 t13 y13 m13 d13 q13 Xi Cw _ bb13=>wV aa ?_);refine ae ?_;rw[show R.allowed.q+R.az.q=y.1.q from jx.net] at q13;refine VO.cond aa dQ ?_;refine wV aa ?_;refine ae ?_;refine VO.read aa [.bool y.1.1,.slice y1p y.1.2.1.length y1c,.bool y.1.2.2.1,.slice y1r y.1.2.2.2.length y1d] aa (aM hlc 0 _ ⟨_,aa⟩) (wV aa ?_);refine ae ?_;have hys:fI y.1.q 3:=(hy1.fZ hyf1).sz bq;refine VO.cB aa aa (fk jU) (λxo zy vR=>ek _ _ y.1.q y.1.q 3 3 xo (q13.ki hys) ((hy1.kp bm).fZ hyf1) ab ab 0 (gW aa)) (λxo zy vR NA hb14 Mh _ bb14=>wV aa ?_);refine ae ?_;refine VO.cR aa aa (fk tk) (λHx Hy Hz=>gi _ _ R.allowed.q R.used.q 82 82 Hx ((g1.kp (Kp.of (U:=UU) Hz)).fZ f1) ((g3.kp (Kp.of (U:=UU) Hz)).fZ f3) ab ab) (λHx Hy Hz Xj s15 p15 n15 c15 t15 y15 m15 d15 q15 hb15 kb15 _ bb15=>wV aa ?_);refine ae ?_;rw[show R.allowed.q+R.used.q=R.ao.q from jx.ded] at q15;have Rm:fI R.ao.q 82:=(g4.fZ f4).sz bq;refine VO.cB aa aa (fk jU) (λwa16 ka16 ba16=>ek _ _ R.ao.q R.ao.q 82 82 wa16 (q15.ki Rm) ((g4.kp (Kp.of (U:=UU) ba16)).fZ f4) ab ab 0 (gW aa)) (λwa16 ka16 ba16 w16 hb16 kb16 _ bb16=>wV aa ?_);refine ae ?_;refine VO.cB aa aa (fk jU) (λID Tw MQ=>ek _ _ R.ao.q R.aX.q 82 82 ID ((g4.kp (Kp.of (U:=UU) MQ)).fZ f4) ((g0.kp (Kp.of (U:=UU) MQ)).fZ f0) ab ab cm iC) (λID Tw MQ w17 hb17 kb17 _ bb17=>wV aa ?_);refine ae ?_;refine VS.aP aa (aA hncm) ?_;refine ae ?_;refine VS.back (N-(z+1)) ab ⟨_,_,?_,?_,?_,?_,⟨z+1,ab,aa,aa,aa⟩⟩
   ·refine⟨aa,aa,aa,?_,ag⟩;rw[<-aD (i:=z) ab];rfl
   ·exact cA
   ·rfl
   ·exact gn
  ·refine VS.aP aa (aA (λe=>hlt (aQ.1 e))) ?_;refine ae ?_;refine VO.read aa [.bool S.1,.slice sp S.2.1.length sc,.bool S.2.2.1,.slice sr S.2.2.2.length sd,.bool F.1,.slice fp F.2.1.length fc,.bool F.2.2.1,.slice fr F.2.2.2.length fd,.int .i64 (kn:Int)] aa (eZ kC 0 _ ⟨_,aa⟩) (wV aa ?_);refine ae ?_;refine VO.read aa [.slice pr N cr,.slice pu n cu] aa (eZ Vg 0 _ ⟨_,aa⟩) (wV aa ?_);refine ae ?_;refine VO.cB aa aa (fk Tryz.func17) (λwa20 ka20 ba20=>Tr _ _ _ S F kn (rs,us) 82 wa20 (hR.kp (Kp.of (U:=UU) (aU.aR b4 ba20))) (pd.bI (X:=(rs,us)) ⟨hLR,hLU⟩ ba20) ab (by show us.length<=1000;omega) ab hOld) (λwa20 ka20 ba20 Lc hb20 kb20 _ bb20=>wV aa ?_);refine ae ?_;refine VO.cB aa aa (fk nM) (λBG ka21 MR=>dR BG) (λBG ka21 MR Rv QN kb21 _ bb21=>wV aa ?_);refine ae ?_;refine bl ?_;intro wz kz bz;exact⟨aa,aU.aR b4 bz⟩
end
section
open Go.RowKit
def Same5 (a b:bh):Prop:=a.aX=b.aX/\a.allowed=b.allowed/\a.az=b.az/\a.used=b.used/\a.ao=b.ao
structure Ext (k:Nat) (s0 s:Ek):Prop where
 len:s.left.length=s.rows.length
 nn:∀ x∈s.left,0<=x
 le:k<=s.rows.length
 uses:∃ us,s.uses=s0.uses++us/\∀ u∈us,k<=u.2.1
 rows:∀ (i:Nat) (r0:bh),s0.rows[i]? =some r0->∃ r,s.rows[i]? =some r/\Same5 r r0
 left:∀ (i:Nat) (x0:Rat),s0.left[i]? =some x0->∃ x,s.left[i]? =some x/\x<=x0
theorem ext_exp {k n kn:Nat} {s0 s:Ek} (h:Ext k s0 s):Ext k s0 (tU kn n s):=by
 unfold tU
 split
 ·refine⟨?_,λx hx=> ?_,?_,h.uses,λi r0 hr=> ?_,λi x0 hx=> ?_⟩
  ·show (s.left.set _ 0).length=(s.rows.modify _ _).length;rw[pM,oy];exact h.len
  ·rcases yv hx with h' |h'
   ·exact h.nn x h'
   ·rw[h'];exact mK
  ·show k<=(s.rows.modify _ _).length;rw[oy];exact h.le
  ·obtain⟨r,ry,hs⟩:=h.rows i r0 hr
   dsimp only
   by_cases e:n-kn=i
   ·refine⟨{ r with aq:=s.left.getD (n-kn) 0 },?_,hs⟩;rw[DL e,ry];rfl
   ·exact⟨r,by rw[yX e];exact ry,hs⟩
  ·obtain⟨x,Nx,hl⟩:=h.left i x0 hx
   dsimp only
   by_cases e:n-kn=i
   ·have h0:=h.nn x (cX Nx);refine⟨0,?_,cY⟩;rw[e,List.getElem?_set_self (cQ.1 Nx).1]
   ·exact⟨x,by rw[Ug e];exact Nx,hl⟩
 ·exact h
theorem ext_year {S F:Rat} {kn k:Nat} {s0 s:Ek} (h:Ext k s0 s) (y:Rat×Rat):Ext k s0 (nj S F kn s.rows.length s y):=by
 unfold nj;obtain⟨n,hn⟩:∃ n,n=s.rows.length:=⟨_,aa⟩;rw[<-hn];obtain⟨lo,Lu⟩:∃ lo,lo=n-kn:=⟨_,aa⟩;obtain⟨m,hm⟩:∃ m,m=aH S F y.2-ai y.1 (aH S F y.2):=⟨_,aa⟩;have Ie:0<=m:=by have:=dM y.1 (aH S F y.2);grind
 have hlen:=h.len;have hle:=h.le;have hdn:∀ z∈s.left.drop lo,0<=z:=λz hz=>h.nn _ (ow hz);rw[<-Lu,<-hm];obtain⟨L1,hL1⟩:∃ L1,L1=s.left.take lo++(vT (cO lo (s.left.drop lo)) m).map (·.2):=⟨_,aa⟩;have SY:(s.left.take lo).length=lo:=by rw[cM,hlen,<-hn];omega
 have hL1l:L1.length=n:=by rw[hL1,bB,SY,bu,FP,Bn,rM,hlen,<-hn];omega
 rw[<-hL1]
 have hget:∀ (v:Nat) (x:Rat),L1[v]? =some x->∃ z,s.left[v]? =some z/\x<=z:=λv x hv=>by
  rw[hL1] at hv;by_cases hvl:v<lo
  ·rw[gm ab,List.getElem?_take_of_lt hvl] at hv;exact⟨x,hv,mK⟩
  ·rw[jT ab,SY] at hv;obtain⟨z,hz,e⟩:=Tt n hdn Ie hv;rw[tf,show lo+(v-lo)=v by omega] at hz
   have hg:0<=gs (vn (lo+(v-lo))) (vS n (cO lo (s.left.drop lo)) m):=QL λu hu=>by
    have:=(yb n hu).2.1;unfold vn;split <;> grind
   exact⟨z,hz,cY⟩
 refine ext_exp ⟨?_,λx hx=> ?_,?_,?_,λi r0 hr=> ?_,λi x0 hx=> ?_⟩
 ·show (L1++[_]).length=(s.rows++[_]).length;rw[bB,bB,hL1l,hn];rfl
 ·rcases gg.1 hx with h' |h'
  ·rw[hL1] at h';rcases gg.1 h' with h'' |h''
   ·exact h.nn x (nI h'')
   ·obtain⟨p,hp,rfl⟩:=fv.1 h'';exact Ml p hp
  ·rw[aJ.1 h'];have:=eh y.1 (aH S F y.2);grind
 ·show k<=(s.rows++[_]).length;rw[bB];omega
 ·obtain⟨us,hu,hk⟩:=h.uses;refine⟨us++vS n (cO lo (s.left.drop lo)) m,by show s.uses++_=_;rw[hu,fu],λu hu'=> ?_⟩;rcases gg.1 hu' with h' |h'
  ·exact hk u h'
  ·have:=(yb n h').1;omega
 ·obtain⟨r,ry,hs⟩:=h.rows i r0 hr;exact⟨r,by show (s.rows++[_])[i]? =_;rw[gm (cQ.1 ry).1];exact ry,hs⟩
 ·obtain⟨x,Nx,hl⟩:=h.left i x0 hx;have hlt:=(cQ.1 Nx).1;obtain⟨x1,UR⟩:∃ x1,L1[i]? =some x1:=⟨_,ba ab⟩;obtain⟨z,hz,e⟩:=hget i x1 UR;rw[Nx] at hz;cases hz;exact⟨x1,by show (L1++[_])[i]? =_;rw[gm ab];exact UR,cY⟩
structure Tx (k:Nat) (x y:List bh×List Uq):Prop where
 uses:∃ us,x.2=y.2++us/\(∀ u∈us,k<=u.2.1)/\∀ u∈y.2,u.2.1<k
 rows:∀ (i:Nat) (r':bh),y.1[i]? =some r'->∃ r,x.1[i]? =some r/\Same5 r r'/\r.closing<=r'.closing
theorem led_pre (S F:Rat) (kn:Nat) (l:List (Rat×Rat)) (k:Nat) (hk:k<=l.length):Tx k (pH S F kn l) (pH S F kn (l.take k)):=by
 rw[zG,zG];have h0:=Tv S F kn (l.take k);have hlk:(l.take k).length=k:=by rw[cM];omega
 have hE0:Ext k (runT S F kn (l.take k)) (runT S F kn (l.take k)):=⟨h0.len,h0.nn,by rw[h0.Rx,hlk];exact bL _,⟨[],by rw[gA],λu hu=>(by cases hu)⟩,λi r hr=>⟨r,hr,aa,aa,aa,aa,aa⟩,λi x hx=>⟨x,hx,mK⟩⟩
 have key:∀ (m:List (Rat×Rat)) (s:Ek),Ext k (runT S F kn (l.take k)) s->Ext k (runT S F kn (l.take k)) (m.foldl (λs y=>nj S F kn s.rows.length s y) s):=by
  intro m
  induction m with
  | nil=>intro s h;exact h
  | cons y m ih=>intro s h;exact ih _ (ext_year h y)
 have hE:=key (l.drop k) _ hE0
 have hfull:(l.drop k).foldl (λs y=>nj S F kn s.rows.length s y) (runT S F kn (l.take k))=runT S F kn l:=by
  unfold runT;rw[<-Up,qB]
 rw[hfull] at hE;obtain⟨us,hu,hku⟩:=hE.uses;refine⟨⟨us,hu,hku,λu hu'=> ?_⟩,λi r' hr=> ?_⟩
 ·have:=(h0.use u hu').2.2.2;rw[h0.Rx,hlk] at this;exact this
 ·obtain⟨r0,x0,Gt,my,rfl⟩:=FY h0.len hr;obtain⟨r,nA,hs⟩:=hE.rows i r0 Gt;obtain⟨x,UR,hl⟩:=hE.left i x0 my;refine⟨{ r with closing:=x },?_,hs,hl⟩;show (fj (cO 0 _) _)[i]? =_;rw[clo_at,UR,nA];rfl
end
set_option maxRecDepth 4000
section
open Go.RowKit
attribute [local irreducible] aG VS
theorem kQ (i n:Int) (hn:0<n) (h2:n<=100):∀ k,k=(IntKind.i64.wrap (i.tmod n+n)).tmod n->0<=k/\k<n:=by
 intro k hk;have b1:=Int.tmod_lt_of_pos i hn
 have b2: -n<i.tmod n:=by
  have:=Int.tmod_lt_of_pos (-i) hn;rw[Int.neg_tmod] at this;omega
 rw[cV (i.tmod n+n) ab] at hk;have b3:=Int.tmod_lt_of_pos (i.tmod n+n) hn;have b4:0<=(i.tmod n+n).tmod n:=Int.tmod_nonneg _ ab;omega
theorem Ty (i:Int) (n:Nat) (w:World) (rn:1<=n) (hn:n<=13):Calls Tryz.prog 10 #[.int .i64 i,.int .i64 (n:Int)] w λo w'=>(∃ k:Nat,o=.returned (.int .i64 (k:Int))/\k<n)/\aU w w':=by
 rcases (by omega:n=1\/n=2\/n=3\/n=4\/n=5\/n=6\/n=7\/n=8\/n=9\/n=10\/n=11\/n=12\/n=13) with rfl|rfl|rfl|rfl|rfl|rfl|rfl|rfl|rfl|rfl|rfl|rfl|rfl
 ·refine ah (C:=cH Tryz.prog w _) (args:=[_,_]) rV aa tj (bM aa) ?_;refine ae ?_;refine bl ?_;intro wz kz bz;obtain⟨h1,h2⟩:=kQ i 1 bq bq _ aa;exact⟨⟨_,au (λz=>Ending.returned (.int .i64 z)) (td h1).symm,ab⟩,bz⟩
 ·refine ah (C:=cH Tryz.prog w _) (args:=[_,_]) rV aa tj (bM aa) ?_;refine ae ?_;refine bl ?_;intro wz kz bz;obtain⟨h1,h2⟩:=kQ i 2 bq bq _ aa;exact⟨⟨_,au (λz=>Ending.returned (.int .i64 z)) (td h1).symm,ab⟩,bz⟩
 ·refine ah (C:=cH Tryz.prog w _) (args:=[_,_]) rV aa tj (bM aa) ?_;refine ae ?_;refine bl ?_;intro wz kz bz;obtain⟨h1,h2⟩:=kQ i 3 bq bq _ aa;exact⟨⟨_,au (λz=>Ending.returned (.int .i64 z)) (td h1).symm,ab⟩,bz⟩
 ·refine ah (C:=cH Tryz.prog w _) (args:=[_,_]) rV aa tj (bM aa) ?_;refine ae ?_;refine bl ?_;intro wz kz bz;obtain⟨h1,h2⟩:=kQ i 4 bq bq _ aa;exact⟨⟨_,au (λz=>Ending.returned (.int .i64 z)) (td h1).symm,ab⟩,bz⟩
 ·refine ah (C:=cH Tryz.prog w _) (args:=[_,_]) rV aa tj (bM aa) ?_;refine ae ?_;refine bl ?_;intro wz kz bz;obtain⟨h1,h2⟩:=kQ i 5 bq bq _ aa;exact⟨⟨_,au (λz=>Ending.returned (.int .i64 z)) (td h1).symm,ab⟩,bz⟩
 ·refine ah (C:=cH Tryz.prog w _) (args:=[_,_]) rV aa tj (bM aa) ?_;refine ae ?_;refine bl ?_;intro wz kz bz;obtain⟨h1,h2⟩:=kQ i 6 bq bq _ aa;exact⟨⟨_,au (λz=>Ending.returned (.int .i64 z)) (td h1).symm,ab⟩,bz⟩
 ·refine ah (C:=cH Tryz.prog w _) (args:=[_,_]) rV aa tj (bM aa) ?_;refine ae ?_;refine bl ?_;intro wz kz bz;obtain⟨h1,h2⟩:=kQ i 7 bq bq _ aa;exact⟨⟨_,au (λz=>Ending.returned (.int .i64 z)) (td h1).symm,ab⟩,bz⟩
 ·refine ah (C:=cH Tryz.prog w _) (args:=[_,_]) rV aa tj (bM aa) ?_;refine ae ?_;refine bl ?_;intro wz kz bz;obtain⟨h1,h2⟩:=kQ i 8 bq bq _ aa;exact⟨⟨_,au (λz=>Ending.returned (.int .i64 z)) (td h1).symm,ab⟩,bz⟩
 ·refine ah (C:=cH Tryz.prog w _) (args:=[_,_]) rV aa tj (bM aa) ?_;refine ae ?_;refine bl ?_;intro wz kz bz;obtain⟨h1,h2⟩:=kQ i 9 bq bq _ aa;exact⟨⟨_,au (λz=>Ending.returned (.int .i64 z)) (td h1).symm,ab⟩,bz⟩
 ·refine ah (C:=cH Tryz.prog w _) (args:=[_,_]) rV aa tj (bM aa) ?_;refine ae ?_;refine bl ?_;intro wz kz bz;obtain⟨h1,h2⟩:=kQ i 10 bq bq _ aa;exact⟨⟨_,au (λz=>Ending.returned (.int .i64 z)) (td h1).symm,ab⟩,bz⟩
 ·refine ah (C:=cH Tryz.prog w _) (args:=[_,_]) rV aa tj (bM aa) ?_;refine ae ?_;refine bl ?_;intro wz kz bz;obtain⟨h1,h2⟩:=kQ i 11 bq bq _ aa;exact⟨⟨_,au (λz=>Ending.returned (.int .i64 z)) (td h1).symm,ab⟩,bz⟩
 ·refine ah (C:=cH Tryz.prog w _) (args:=[_,_]) rV aa tj (bM aa) ?_;refine ae ?_;refine bl ?_;intro wz kz bz;obtain⟨h1,h2⟩:=kQ i 12 bq bq _ aa;exact⟨⟨_,au (λz=>Ending.returned (.int .i64 z)) (td h1).symm,ab⟩,bz⟩
 ·refine ah (C:=cH Tryz.prog w _) (args:=[_,_]) rV aa tj (bM aa) ?_;refine ae ?_;refine bl ?_;intro wz kz bz;obtain⟨h1,h2⟩:=kQ i 13 bq bq _ aa;exact⟨⟨_,au (λz=>Ending.returned (.int .i64 z)) (td h1).symm,ab⟩,bz⟩
variable {c:Nat} {p:Option Addr}
theorem dm.takeK {α:Type} {E:World->List Value->α->Prop} {sz:Nat} {w:World} {n k:Nat} {es:List α} (h:dm E sz w (.slice p n c) es) (hk:k<=n):dm E sz w (.slice p k c) (es.take k):=by
 obtain⟨p',d,e,h1,h2,h3⟩:=h;cases e;have hl:(es.take k).length=k:=by rw[cM];omega
 refine⟨p,c,by rw[hl],ab,h2,λi q hq=> ?_⟩;rw[wq] at hq
 split at hq
 ·exact h3 i q hq
 ·cases hq
theorem VJ {n k:Nat}:Value.slice (if c=((none:Option Int).getD 0).toNat then p else p.map (·.add (((none:Option Int).getD 0).toNat*8))) (((some (k:Int)).getD (n:Int)).toNat-((none:Option Int).getD 0).toNat) (c-((none:Option Int).getD 0).toNat)=.slice p k c:=by
 cases p <;> simp[Addr.add]
theorem XU (v u:Value) (S F:RR) (keep:Int) (l:List (RR×RR)) (w:World) (hR:fY w v S F keep) (hS:S.ld 3) (hF:F.ld 3) (hl:dm (pW 3) 8 w u l) (hlen:l.length<=12):
  Calls Tryz.prog 11 #[v,u] w λo w'=>∃ (p:Option Addr) (n c:Nat) (p':Option Addr) (n' c':Nat) (e:Int),o=.returned (.tuple #[.agg #[.slice p n c,.slice p' n' c'],.int .i64 e])/\aU w w':=by
 cases gv:sI S F keep l with
 | false=>
   refine (ye v u S F keep l w hR hS hF hl ab gv _ aa).mono ?_;rintro o w' ⟨rfl,hb⟩;exact⟨_,_,_,_,_,_,_,aa,hb⟩
 | true=>
   have hf:=kA gv;have:=hf.k0;refine (rf v u S F keep keep.toNat l w hR hS hF hl hf hlen ab).mono ?_;rintro o w' ⟨r,u',rfl,hL,hb⟩;obtain⟨p,c,p',c',rfl,rfl⟩:=hL.form;exact⟨_,_,_,_,_,_,_,aa,hb⟩
theorem re.take {S F:RR} {keep:Int} {l:List (RR×RR)} (h:re S F keep l) (k:Nat):re S F keep (l.take k):=by
 refine⟨h.k0,h.k1,h.s0,h.s1,h.rul,?_,by rw[cM];have:=h.len;omega⟩;rw[bR];exact λx hx=>bR.1 h.yrs x (nI hx)
variable {x y:List bh×List Uq} {z:Nat}
theorem more_row {k:Nat} (h:Tx k x y) {R R':eO} (hR:(fF x).1[z]? =some R) (di:(fF y).1[z]? =some R'):
  R.aX.q=R'.aX.q/\R.allowed.q=R'.allowed.q/\R.az.q=R'.az.q/\R.used.q=R'.used.q/\R.ao.q=R'.ao.q/\R.closing.q<=R'.closing.q:=by
 rw[show (fF x).1=x.1.map CN from aa,nJ] at hR;rw[show (fF y).1=y.1.map CN from aa,nJ] at di;obtain⟨r,hr,rfl⟩:=ou.1 hR;obtain⟨r',ry,rfl⟩:=ou.1 di;obtain⟨r2,nC,⟨a1,a2,a3,a4,a5⟩,a6⟩:=h.rows z r' ry;rw[hr] at nC;cases nC;show (gX r.aX).q=(gX r'.aX).q/\(gX r.allowed).q=(gX r'.allowed).q/\(gX r.az).q=(gX r'.az).q/\(gX r.used).q=(gX r'.used).q/\(gX r.ao).q=(gX r'.ao).q/\(gX r.closing).q<=(gX r'.closing).q;simp only[sH];exact⟨a1,a2,a3,a4,a5,a6⟩
theorem more_use {k:Nat} (h:Tx k x y) {e:eM} (he:(fF x).2[z]? =some e):
  ∃ a b:Nat,e.1=(a:Int)/\e.2.1=(b:Int)/\(b<k↔z<y.2.length)/\(z<y.2.length->(fF y).2[z]? =some e):=by
 rw[show (fF x).2=x.2.map CO from aa,nJ] at he;obtain⟨u,hu,rfl⟩:=ou.1 he;obtain⟨us,sW,h1,h2⟩:=h.uses;rw[sW] at hu;refine⟨u.1,u.2.1,aa,aa,?_,λhz=> ?_⟩
 ·by_cases hz:z<y.2.length
  ·rw[gm hz] at hu;have:=h2 u (cX hu);omega
  ·rw[jT ab] at hu;have:=h1 u (cX hu);omega
 ·rw[gm hz] at hu;rw[show (fF y).2=y.2.map CO from aa,nJ,hu];rfl
set_option maxRecDepth 4000 in
theorem Tz (v u:Value) (S F:RR) (keep:Int) (l:List (RR×RR)) (nn:Int) (kk:Nat) (w:World) (hR:fY w v S F keep) (hl:dm (pW kk) 8 w u l):
  Calls Tryz.prog 3 #[v,u,.int .i64 nn] w λo w'=>o=.returned (.bool true)/\aU w w':=by
 obtain⟨uq,uc,rfl,MG,hum⟩:=hl.form;obtain⟨sp,sc,sr,sd,fp,fc,fr,fd,rfl,xB,xC⟩:=hR;have hR:fY w (.agg #[.bool S.1,.slice sp S.2.1.length sc,.bool S.2.2.1,.slice sr S.2.2.2.length sd,.bool F.1,.slice fp F.2.1.length fc,.bool F.2.2.1,.slice fr F.2.2.2.length fd,.int .i64 keep]) S F keep:=⟨_,_,_,_,_,_,_,_,aa,xB,xC⟩;obtain⟨N,hN⟩:∃ N,N=l.length:=⟨_,aa⟩;rw[<-hN] at hl MG;rw[<-hN];refine ah (C:=xX Tryz.prog w _) (args:=[_,_,_]) Tryz.func3 aa Tryz.ntmps3 (bM aa) ?_;refine bJ ?_;cases mC:oY S F l with
 | false=>
   refine VO.cB aa aa (fk Al) (λbn cG bo=>oZ _ _ S F keep l kk bn (hR.kp (Kp.of (U:=UU) bo)) (hl.bI (bg kk) bo) false mC) (λbn cG bo w1 bA eF _ bb1=>wV aa ?_);refine bJ ?_;refine VO.cB aa aa (fk nM) (λcz dB cT=>dR cz) (λcz dB cT w2 cC fe _ bb2=>wV aa ?_);refine bJ ?_;refine rh ?_;intro wz kz bz;exact⟨aa,bz⟩
 | true=>
 have QM:=BF mC hl;obtain⟨ND,NF,-⟩:=uh mC;refine VO.cB aa aa (fk Al) (λbn cG bo=>oZ _ _ S F keep l kk bn (hR.kp (Kp.of (U:=UU) bo)) (hl.bI (bg kk) bo) true mC) (λbn cG bo w1 bA eF _ bb1=>wV aa ?_);refine bJ ?_;by_cases Jn:N<=12
 ·refine VS.aP aa (aA (show ¬ (N:Int)>12 by omega)) ?_;refine bJ ?_;refine VO.fix 30 aa (au (λz=>AV.val (.int .i64 z)) (show IntKind.i64.wrap ((N:Int)+1)=((N+1:Nat):Int) by rw[rN];omega)) ?_;refine VO.call aa aa (fk rV) (λeP fA ft=>(Ty nn (N+1) eP ab ab).mono ?_);rintro e w3 ⟨⟨k,rfl,hk⟩,dZ⟩
  skip
  refine eC dZ ?_;intro jm _ bb3;have hlk:(l.take k).length=k:=by rw[cM];omega
  have hlT:=QM.takeK (show k<=N by omega);cases gv:sI S F keep l with
  | false=>
    obtain⟨c,hc⟩:∃ c,lP S F keep l=c:=⟨_,aa⟩;have La:c≠0:=hc▸qZ S F keep l;refine VO.call aa aa (fk kW) (λfW iJ iB=>(ye _ _ S F keep l fW (hR.kp (Kp.of (U:=UU) iB)) ND NF (QM.bI (bg 3) iB) ab gv c hc).mono ?_);rintro e w4 ⟨rfl,ic⟩
    skip
    refine eC ic ?_;intro mB _ tI;refine VO.cond aa ⟨Int.le_refl _,show (0:Int)<=(k:Int) by omega,show (k:Int)<=(uc:Int) by omega,show (uc:Int)<=9223372036854775807 by omega⟩ (wV aa ?_);refine VO.fix 42 aa (au AV.val VJ) ?_;refine bJ ?_;refine VO.call aa aa (fk kW) (λfQ iH fV=>(XU _ _ S F keep (l.take k) fQ (hR.kp (Kp.of (U:=UU) fV)) ND NF (hlT.bI (bg 3) fV) ab).mono ?_);rintro e w5 ⟨p5,n5,c5,p5',n5',c5',e5,rfl,iz⟩
    skip
    refine eC iz ?_;intro lg _ sR;refine VS.aV aa (Bk La) ?_;refine bJ ?_;refine VO.cB aa aa (fk nM) (λfJ iK gE=>dR fJ) (λfJ iK gE w6 ln lH _ sj=>wV aa ?_);refine bJ ?_;refine rh ?_;intro wz kz bz;exact⟨aa,bz⟩
  | true=>
  have hf:=kA gv;have Di:=hf.k0;have Hd:=hf.k1;obtain⟨kn,rfl⟩:∃ kn:Nat,keep=(kn:Int):=⟨keep.toNat,ab⟩;have hM:=pe hR ND NF QM hf ab;have hMk:=pe hR ND NF hlT (hf.take k) ab;have hsz:=CP (kn:=kn) hM;have hszk:=CP (kn:=kn) hMk;have uZ:=yd S.q F.q kn (cD l);have hlawk:=yd S.q F.q kn (cD (l.take k));have Co:(cD l).length=N:=by rw[hN];unfold cD;simp
  have hnk:(cD (l.take k)).length=k:=by unfold cD;rw[bu,hlk]
  have qM:=led_pre S.q F.q kn (cD l) k ab;rw[show (cD l).take k=cD (l.take k) by unfold cD;rw[Gi]] at qM;obtain⟨x,hx⟩:∃ x,pH S.q F.q kn (cD l)=x:=⟨_,aa⟩;obtain⟨y,hy⟩:∃ y,pH S.q F.q kn (cD (l.take k))=y:=⟨_,aa⟩;have ib:x.1.length=N:=by rw[<-hx,uZ.Rx,Co]
  have rZ:y.1.length=k:=by rw[<-hy,hlawk.Rx,hnk]
  refine VO.call aa aa (fk kW) (λfW iJ iB=>((rf _ _ S F (kn:Int) kn l fW (hR.kp (Kp.of (U:=UU) iB)) ND NF (QM.bI (bg 3) iB) hf ab aa).mono (λo w2 h=>And.intro h iB.size)).mono ?_);rintro e w4 ⟨⟨r4,u4,rfl,l4,ic⟩,Qy⟩;obtain⟨pr,cr,pu,cu,rfl,rfl⟩:=l4.form;rw[hx] at l4 qM hsz ⊢;refine eC ic ?_;intro mB _ tI;refine VO.cond aa ⟨Int.le_refl _,show (0:Int)<=(k:Int) by omega,show (k:Int)<=(uc:Int) by omega,show (uc:Int)<=9223372036854775807 by omega⟩ (wV aa ?_);refine VO.fix 42 aa (au AV.val VJ) ?_;refine bJ ?_;refine VO.call aa aa (fk kW) (λfQ iH fV=>((rf _ _ S F (kn:Int) kn (l.take k) fQ (hR.kp (Kp.of (U:=UU) fV)) ND NF (hlT.bI (bg 3) fV) (hf.take k) ab aa).mono (λo w2 h=>And.intro h fV.size)).mono ?_);rintro e w5 ⟨⟨r5,u5,rfl,l5,iz⟩,tX⟩;obtain⟨ps,cs,pt,ct,rfl,rfl⟩:=l5.form;rw[hy] at l5 qM hszk ⊢;refine eC iz ?_;intro lg _ sR
  have OX:y.2.length<=x.2.length:=by
   obtain⟨us,sW,-⟩:=qM.uses;rw[sW,bB];omega
  obtain⟨n,hn⟩:∃ n,n=x.2.length:=⟨_,aa⟩;obtain⟨m,hm⟩:∃ m,m=y.2.length:=⟨_,aa⟩
  have hn24:n<=24:=by
   have h1:=(uj (kn:=kn) hM).1.len;have h2:=(uj (kn:=kn) hM).2;rw[hn,<-hx];show (kt S.q F.q kn (cD l)).uses.length<=24;omega
  rw[rZ];refine VO.fix 58 aa (au (λb=>AV.val (.bool b)) (vJ aa)) ?_;refine bJ ?_;refine VS.aP aa (aA ab) ?_;refine bJ ?_;refine VS.Ia (λw=>cH Tryz.prog w 192) (λ_=>aa) (λ_=>aa) (λ_=>aU.refl _) (λW β k6 b6 en=> ?_);have kk4:bQ (xX Tryz.prog w 192).K w4 W:=lg.aR k6;have kk5:bQ (xX Tryz.prog w 192).K w5 W:=k6;have hLX:=(l4.Tn (nv w 192) kk4 kk4.nD).YD hsz;have hLY:=(l5.Tn (nv w 192) kk5 kk5.nD).YD hszk;have hc8:=(en.own 8 _ _ aa).cls;have MS:=(en.own 10 _ _ aa).cls;obtain⟨b8,hb8'⟩:∃ b,b=β 8:=⟨_,aa⟩;obtain⟨Vs,hb10'⟩:∃ b,b=β 10:=⟨_,aa⟩;refine⟨[(7,.val (.int .i64 (k:Int))),(8,.val (.pointer (some ⟨β 8,0,none⟩))),(10,.val (.pointer (some ⟨β 10,0,none⟩))),(12,.val (.int .i64 0))],⟨⟨_,_,aa,aa,aa⟩,⟨_,_,aa,aa,aa⟩,⟨_,_,aa,aa,aa⟩,⟨_,_,aa,aa,aa⟩,ag⟩,?_⟩;rw[<-hb8'] at hc8 ⊢;rw[<-hb10'] at MS ⊢;rw[ib,<-hn] at hLX hc8;rw[rZ,<-hm] at hLY;rw[<-hm] at MS;have hxl':(fF x).1.length=N:=by rw[<-ib];exact bu _
  have hyl':(fF y).1.length=k:=by rw[<-rZ];exact bu _
  have hxu':(fF x).2.length=n:=by rw[hn];exact bu _
  have hyu':(fF y).2.length=m:=by rw[hm];exact bu _
  refine VS.loop (J:=λm L M w'=>∃ (z:Nat),z<=k/\m=k-z/\L=[(7,.val (.int .i64 (k:Int))),(8,.val (.pointer (some ⟨b8,0,none⟩))),(10,.val (.pointer (some ⟨Vs,0,none⟩))),(12,.val (.int .i64 (z:Int)))]/\M=[]) k ⟨_,_,?_,?_,?_,?_,⟨0,ab,aa,aa,aa⟩⟩ ?_
  ·exact cA
  ·exact cA
  ·rfl
  ·exact gn
  rintro m L M w9 ⟨z,hz,rfl,rfl,rfl⟩;refine ae ?_;by_cases hlt:z<k
  ·obtain⟨R,hRz⟩:∃ R,(fF x).1[z]? =some R:=⟨_,ba (by rw[hxl'];omega)⟩;obtain⟨Q,hQz⟩:∃ R,(fF y).1[z]? =some R:=⟨_,ba (by rw[hyl'];omega)⟩;obtain⟨e1,e2,e3,e4,e5,e6⟩:=more_row qM hRz hQz;obtain⟨rb,ro,rcs,hrp,SX,⟨_,_,_,_,_,_,_,rfl,⟨⟨NG,NH,NI,NJ,rfl,g0⟩,f0⟩,⟨⟨NK,NL,NM,NN,rfl,g1⟩,f1⟩,⟨⟨NP,NQ,NR,NS,rfl,g2⟩,f2⟩,⟨⟨NT,NU,NV,NW,rfl,g3⟩,f3⟩,⟨⟨NX,NY,NZ,Oa,rfl,g4⟩,f4⟩,⟨⟨MH,MI,MJ,ML,rfl,g5⟩,f5⟩,⟨⟨MM,MN,MO,MP,rfl,g6⟩,f6⟩⟩⟩:=hLX.1.at hRz;obtain⟨qb,qo,qcs,hqp,hqc,⟨_,_,_,_,_,_,_,rfl,⟨⟨q0p,q0c,q0r,q0d,rfl,gq0⟩,fq0⟩,⟨⟨q1p,q1c,q1r,q1d,rfl,gq1⟩,fq1⟩,⟨⟨q2p,q2c,q2r,q2d,rfl,gq2⟩,fq2⟩,⟨⟨q3p,q3c,q3r,q3d,rfl,gq3⟩,fq3⟩,⟨⟨q4p,q4c,q4r,q4d,rfl,gq4⟩,fq4⟩,⟨⟨q5p,q5c,q5r,q5d,rfl,gq5⟩,fq5⟩,⟨⟨q6p,q6c,q6r,q6d,rfl,gq6⟩,fq6⟩⟩⟩:=hLY.1.at hQz;subst hrp;subst hqp;obtain⟨cm,iC⟩:∃ cm,eQ R.closing.q Q.closing.q=cm:=⟨_,aa⟩;have hncm:=(kP iC).1 e6;refine VS.aV aa (aE (aQ.2 hlt)) ?_
   (repeat (first|refine wN ?_|refine wP aa ?_|refine wO aa aa ?_))
   refine VS.drawL (dD _ _) (AZ _ _) [] [1,4,6,9] [12,13] [13,14] (by kernel_rfl) ?_;refine oo.chunk (l2:=[1,2,3,4,5,6,7,8,9,10,11,12,13]) [0] aa ?_;refine ae ?_;refine oo.b (j:=1) aa aa aa aa ?_;refine VO.read aa [.slice (some ⟨rb,ro,none⟩) N cr] aa (eZ hc8 0 _ ⟨_,aa⟩) (wV aa ?_);refine ae ?_;refine oo.chunk (l2:=[4,5,6,7,8,9,10,11,12,13]) [2,3] aa ?_;refine ae ?_;refine VO.cond aa dQ ?_;refine wV aa ?_;refine ae ?_;refine oo.b (j:=4) aa aa aa aa ?_;refine VO.read aa [.bool R.aX.1,.slice NG R.aX.2.1.length NH,.bool R.aX.2.2.1,.slice NI R.aX.2.2.2.length NJ,.bool R.allowed.1,.slice NK R.allowed.2.1.length NL,.bool R.allowed.2.2.1,.slice NM R.allowed.2.2.2.length NN,.bool R.az.1,.slice NP R.az.2.1.length NQ,.bool R.az.2.2.1,.slice NR R.az.2.2.2.length NS,.bool R.used.1,.slice NT R.used.2.1.length NU,.bool R.used.2.2.1,.slice NV R.used.2.2.2.length NW,.bool R.ao.1,.slice NX R.ao.2.1.length NY,.bool R.ao.2.2.1,.slice NZ R.ao.2.2.2.length Oa,.bool R.aq.1,.slice MH R.aq.2.1.length MI,.bool R.aq.2.2.1,.slice MJ R.aq.2.2.2.length ML,.bool R.closing.1,.slice MM R.closing.2.1.length MN,.bool R.closing.2.2.1,.slice MO R.closing.2.2.2.length MP] aa (aM SX 0 _ ⟨[],aa⟩) (wV aa ?_);refine ae ?_;refine oo.chunk (l2:=[6,7,8,9,10,11,12,13]) [5] aa ?_;refine ae ?_;refine oo.b (j:=6) aa aa aa aa ?_;refine VO.read aa [.slice (some ⟨qb,qo,none⟩) k cs] aa (eZ MS 0 _ ⟨_,aa⟩) (wV aa ?_);refine ae ?_;refine oo.chunk (l2:=[9,10,11,12,13]) [7,8] aa ?_;refine ae ?_;refine VO.cond aa dQ ?_;refine wV aa ?_;refine ae ?_;refine oo.b (j:=9) aa aa aa aa ?_;refine VO.read aa [.bool Q.aX.1,.slice q0p Q.aX.2.1.length q0c,.bool Q.aX.2.2.1,.slice q0r Q.aX.2.2.2.length q0d,.bool Q.allowed.1,.slice q1p Q.allowed.2.1.length q1c,.bool Q.allowed.2.2.1,.slice q1r Q.allowed.2.2.2.length q1d,.bool Q.az.1,.slice q2p Q.az.2.1.length q2c,.bool Q.az.2.2.1,.slice q2r Q.az.2.2.2.length q2d,.bool Q.used.1,.slice q3p Q.used.2.1.length q3c,.bool Q.used.2.2.1,.slice q3r Q.used.2.2.2.length q3d,.bool Q.ao.1,.slice q4p Q.ao.2.1.length q4c,.bool Q.ao.2.2.1,.slice q4r Q.ao.2.2.2.length q4d,.bool Q.aq.1,.slice q5p Q.aq.2.1.length q5c,.bool Q.aq.2.2.1,.slice q5r Q.aq.2.2.2.length q5d,.bool Q.closing.1,.slice q6p Q.closing.2.1.length q6c,.bool Q.closing.2.2.1,.slice q6r Q.closing.2.2.2.length q6d] aa (aM hqc 0 _ ⟨[],aa⟩) (wV aa ?_);refine ae ?_;refine oo.chunk (l2:=[12,13]) [10,11] aa ?_;refine ae ?_;refine oo.s (j:=12) aa ⟨_,_,_,13,0,aa,aa,bN⟩ aa ?_;refine ae ?_;refine oo.s (j:=13) aa ⟨_,_,_,14,0,aa,aa,bN⟩ aa ?_;refine ae ?_;refine VO.cB aa aa (fk jU) (λjS na jI=>ek _ _ R.aX.q Q.aX.q 82 82 jS ((g0.kp (Kp.of (U:=UU) jI)).fZ f0) ((gq0.kp (Kp.of (U:=UU) jI)).fZ fq0) ab ab 0 (gW e1)) (λjS na jI w7 ta rB _ Ct=>wV aa ?_);refine ae ?_;refine VO.cB aa aa (fk jU) (λpV yn ru=>ek _ _ R.allowed.q Q.allowed.q 82 82 pV ((g1.kp (Kp.of (U:=UU) ru)).fZ f1) ((gq1.kp (Kp.of (U:=UU) ru)).fZ fq1) ab ab 0 (gW e2)) (λpV yn ru w8 vG vP _ KW=>wV aa ?_);refine ae ?_;refine VO.cB aa aa (fk jU) (λRs Yu Rt=>ek _ _ R.az.q Q.az.q 82 82 Rs ((g2.kp (Kp.of (U:=UU) Rt)).fZ f2) ((gq2.kp (Kp.of (U:=UU) Rt)).fZ fq2) ab ab 0 (gW e3)) (λRs Yu Rt w9 Sg Jp _ bb9=>wV aa ?_);refine ae ?_;refine VO.cB aa aa (fk jU) (λnb rC qV=>ek _ _ R.used.q Q.used.q 82 82 nb ((g3.kp (Kp.of (U:=UU) qV)).fZ f3) ((gq3.kp (Kp.of (U:=UU) qV)).fZ fq3) ab ab 0 (gW e4)) (λnb rC qV Yv xk kf _ Hv=>wV aa ?_);refine ae ?_;refine VO.cB aa aa (fk jU) (λrD tK xm=>ek _ _ R.ao.q Q.ao.q 82 82 rD ((g4.kp (Kp.of (U:=UU) xm)).fZ f4) ((gq4.kp (Kp.of (U:=UU) xm)).fZ fq4) ab ab 0 (gW e5)) (λrD tK xm w11 Cu qe _ Qc=>wV aa ?_);refine ae ?_;refine VO.cB aa aa (fk jU) (λsU yo vQ=>ek _ _ R.closing.q Q.closing.q 82 82 sU ((g6.kp (Kp.of (U:=UU) vQ)).fZ f6) ((gq6.kp (Kp.of (U:=UU) vQ)).fZ fq6) ab ab cm iC) (λsU yo vQ w12 Cv tL _ Qd=>wV aa ?_);refine ae ?_;refine VS.aP aa (aA hncm) ?_;refine ae ?_;refine VS.back (k-(z+1)) ab ⟨_,_,?_,?_,?_,?_,⟨z+1,ab,aa,aa,aa⟩⟩
   ·refine⟨aa,aa,aa,?_,ag⟩;rw[<-aD (i:=z) ab];rfl
   ·exact cA
   ·rfl
   ·exact gn
  ·refine VS.aP aa (aA (λe=>hlt (aQ.1 e))) ?_;refine ae ?_;refine VS.loop (J:=λm' L M w'=>∃ (z:Nat),z<=n/\m'=n-z/\L=[(7,.val (.int .i64 (k:Int))),(8,.val (.pointer (some ⟨b8,0,none⟩))),(10,.val (.pointer (some ⟨Vs,0,none⟩))),(15,.val (.int .i64 (z:Int)))]/\M=[]) n ⟨_,_,?_,?_,?_,?_,⟨0,ab,aa,aa,aa⟩⟩ ?_
   ·exact cA
   ·exact cA
   ·rfl
   ·exact gn
   rintro m' L M w7 ⟨z,hz,rfl,rfl,rfl⟩;refine ae ?_;refine VO.read aa [.slice pu n cu] aa (eZ hc8 1 _ ⟨[],aa⟩) (wV aa ?_);refine ae ?_;by_cases hlt:z<n
   ·obtain⟨e,he⟩:∃ e,(fF x).2[z]? =some e:=⟨_,ba (by rw[hxu'];exact hlt)⟩;obtain⟨a',b',hea,heb,hiff,Vk⟩:=more_use qM he;rw[<-hm] at hiff Vk;obtain⟨b,off,gD,gP,hc,⟨_,rfl,⟨ap,ac,ar,ad,rfl,qQ⟩,hfew'⟩⟩:=hLX.2.at he;subst gP;rw[hea,heb] at hc;refine VS.aV aa (aE (aQ.2 hlt)) ?_;refine ae ?_;refine VO.read aa [.slice (some ⟨b,off,none⟩) n cu] aa (eZ hc8 1 _ ⟨[],aa⟩) (wV aa ?_);refine ae ?_;refine VO.cond aa dQ ?_;refine wV aa ?_;refine ae ?_;refine VO.read aa [.int .i64 (a':Int),.int .i64 (b':Int),.bool e.2.2.1,.slice ap e.2.2.2.1.length ac,.bool e.2.2.2.2.1,.slice ar e.2.2.2.2.2.length ad] aa (aM hc 0 _ ⟨[],aa⟩) (wV aa ?_);refine ae ?_;refine VO.read aa [.slice pt m ct] aa (eZ MS 1 _ ⟨[],aa⟩) (wV aa ?_);refine ae ?_;by_cases hzm:z<m
    ·have hbk:b' <k:=hiff.2 hzm;refine VO.fix 150 aa (au (λb=>AV.val (.bool b)) (show (decide ((b':Int)<(k:Int)) != decide ((z:Int)<(m:Int)))=false by rw[aE (show (b':Int)<(k:Int) by omega),aE (show (z:Int)<(m:Int) by omega)];rfl)) ?_;refine ae ?_;refine VO.read aa [.slice pt m ct] aa (eZ MS 1 _ ⟨[],aa⟩) (wV aa ?_);refine ae ?_;refine VO.fix 156 aa (au (λb=>AV.val (.bool b)) (aE (show (z:Int)<(m:Int) by omega))) ?_;refine ae ?_;obtain⟨tb,to',tcs,htp,htc,⟨_,rfl,⟨bp,bc,br,bd,rfl,traw⟩,tfew⟩⟩:=hLY.2.at (Vk hzm);subst htp;rw[hea,heb] at htc;refine VO.read aa [.slice (some ⟨tb,to',none⟩) m ct] aa (eZ MS 1 _ ⟨[],aa⟩) (wV aa ?_);refine ae ?_;refine VO.cond aa dQ ?_;refine wV aa ?_;refine ae ?_;refine VO.read aa [.int .i64 (a':Int)] aa (aM htc 0 _ ⟨_,aa⟩) (wV aa ?_);refine ae ?_;refine VO.fix 166 aa (au (λb=>AV.val (.bool b)) (vJ aa)) ?_;refine ae ?_;refine VO.read aa [.slice (some ⟨tb,to',none⟩) m ct] aa (eZ MS 1 _ ⟨[],aa⟩) (wV aa ?_);refine ae ?_;refine VO.cond aa dQ ?_;refine wV aa ?_;refine ae ?_;refine VO.read aa [.int .i64 (b':Int)] aa (aM htc 1 _ ⟨_,aa⟩) (wV aa ?_);refine ae ?_;refine VO.fix 177 aa (au (λb=>AV.val (.bool b)) (vJ aa)) ?_;refine ae ?_;refine VO.read aa [.slice (some ⟨tb,to',none⟩) m ct] aa (eZ MS 1 _ ⟨[],aa⟩) (wV aa ?_);refine ae ?_;refine VO.cond aa dQ ?_;refine wV aa ?_;refine ae ?_;refine VO.read aa [.bool e.2.2.1,.slice bp e.2.2.2.1.length bc,.bool e.2.2.2.2.1,.slice br e.2.2.2.2.2.length bd] aa (aM htc 2 _ ⟨[],aa⟩) (wV aa ?_);refine ae ?_;refine VO.cB aa aa (fk jU) (λxo zy vR=>ek _ _ e.2.2.q e.2.2.q 82 82 xo ((traw.kp (Kp.of (U:=UU) vR)).fZ tfew) ((qQ.kp (Kp.of (U:=UU) vR)).fZ hfew') ab ab 0 (gW aa)) (λxo zy vR NA hb14 Mh _ bb14=>wV aa ?_);refine ae ?_;refine VS.back (n-(z+1)) ab ⟨_,_,?_,?_,?_,?_,⟨z+1,ab,aa,aa,aa⟩⟩
     ·refine⟨aa,aa,aa,?_,ag⟩;rw[<-aD (i:=z) ab];rfl
     ·exact cA
     ·rfl
     ·exact gn
    ·have hbk:¬ b' <k:=λh=>hzm (hiff.1 h);refine VO.fix 150 aa (au (λb=>AV.val (.bool b)) (show (decide ((b':Int)<(k:Int)) != decide ((z:Int)<(m:Int)))=false by rw[aA (show ¬ (b':Int)<(k:Int) by omega),aA (show ¬ (z:Int)<(m:Int) by omega)];rfl)) ?_;refine ae ?_;refine VO.read aa [.slice pt m ct] aa (eZ MS 1 _ ⟨[],aa⟩) (wV aa ?_);refine ae ?_;refine VO.fix 156 aa (au (λb=>AV.val (.bool b)) (aA (show ¬ (z:Int)<(m:Int) by omega))) ?_;refine ae ?_;refine VS.back (n-(z+1)) ab ⟨_,_,?_,?_,?_,?_,⟨z+1,ab,aa,aa,aa⟩⟩
     ·refine⟨aa,aa,aa,?_,ag⟩;rw[<-aD (i:=z) ab];rfl
     ·exact cA
     ·rfl
     ·exact gn
   ·refine VS.aP aa (aA (λe=>hlt (aQ.1 e))) ?_;refine ae ?_;refine VO.cB aa aa (fk nM) (λHx Hy Hz=>dR Hx) (λHx Hy Hz Xj hb15 kb15 _ bb15=>wV aa ?_);refine ae ?_;refine bl ?_;intro wz kz bz;exact⟨aa,aU.aR b6 bz⟩
 ·refine VS.aV aa (aE (show (N:Int)>12 by omega)) ?_;refine bJ ?_;refine VO.cB aa aa (fk nM) (λcz dB cT=>dR cz) (λcz dB cT w2 cC fe _ bb2=>wV aa ?_);refine bJ ?_;refine rh ?_;intro wz kz bz;exact⟨aa,bz⟩
end
section
open Go.RowKit
section
variable {C:Cx} {β:Nat->Nat} {F:Fr} {H:Hp} {a:Act} {w:World} {Q:Exit->Act->World->Prop} {k:List It}
end
theorem xD {b:Nat} {ty:TypeId}:∀ (vs:List Value) (o:Nat) (w:World) (cur:Array Value),w.heap[b]? =some (Obj.cells cur ty (0,0))->∃ QO,(w.setCells b o vs).heap[b]? =some (Obj.cells QO ty (0,0))/\QO.size=cur.size
 | [],_,_,cur,h=>⟨cur,h,rfl⟩
 | v::r,o,w,cur,h=>by
   obtain⟨c,h1,h2⟩:=xD r (o+1) (w.setCell ⟨b,o,none⟩ v) (cur.setIfInBounds o v) (bO.set (b:=b) (t:=ty) (cs:=cur) h v);exact⟨c,h1,by rw[h2];simp⟩
def ot (w:World) (B:Nat) (p:Option Addr) (n:Nat):Prop:=n=0\/∃ g cur,p=some ⟨g,0,none⟩/\B<=g/\w.heap[g]? =some (Obj.cells cur UU (0,0))/\n<=cur.size
def Husk (w:World) (B:Nat) (v:Value):Prop:=∃ s p n c t r m d,v=.agg #[.bool s,.slice p n c,.bool t,.slice r m d]/\ot w B p n/\n<=9223372036854775807/\ot w B r m/\m<=9223372036854775807
structure Spo (B:Nat) (w w':World):Prop where
 os:w'.os=w.os
 tape:w'.tape=w.tape
 output:w'.output=w.output
 size:w.heap.size<=w'.heap.size
 pk:∀ b:Nat,b<w.heap.size->(b<B\/∀ cur:Array Value,w.heap[b]?≠some (Obj.cells cur UU (0,0)))->w'.heap[b]? =w.heap[b]?
 shp:∀ (g:Nat) (cur:Array Value),w.heap[g]? =some (Obj.cells cur UU (0,0))->∃ QO,w'.heap[g]? =some (Obj.cells QO UU (0,0))/\QO.size=cur.size
variable {B c:Nat} {p:Option Addr} {w:World}
theorem ot.own {n:Nat} {xs:List Value} (h:w.ownsRow B UU 1 (.slice p n c) n xs):ot w B p n:=by
 rcases h.2 with ⟨h1,_⟩|⟨g,cap,cur,hv,hb,hg,h1,h2,h3,_⟩
 ·simp only[Value.slice.injEq] at h1;exact .inl h1.2.1
 ·simp only[Value.slice.injEq,true_and] at hv;obtain⟨Nu,_⟩:=hv;exact .inr ⟨g,cur,Nu,hb,hg,ab⟩
theorem aO.row {s:Bool} {n:Nat} {X:Int} (h:aO w B (.agg #[.bool s,.slice p n c]) X):ot w B p n/\n<=9223372036854775807:=by
 obtain⟨p',c',hv,ho⟩:=h;simp only[Value.agg.injEq,Array.mk.injEq,List.cons.injEq,and_true,Value.slice.injEq] at hv;obtain⟨_,rfl,rfl,rfl⟩:=hv;obtain⟨_,_,hv,h1,h2,_⟩:=(Rd.own ho).u32;exact⟨.own ho,ab⟩
theorem aW.husk {v:Value} {q:Rat} (h:aW w B v q):Husk w B v:=by
 obtain⟨s,p,n,c,t,r,m,d,rfl,h1,h2⟩:=h;exact⟨s,p,n,c,t,r,m,d,aa,h1.row.1,h1.row.2,h2.row.1,h2.row.2⟩
variable {w':World}
theorem bO.spo {b:Nat} {t:TypeId} {cs:Array Value} (h:bO w b t cs) (ht:t≠UU) (k:Spo B w w'):bO w' b t cs:=
 (k.pk b h.lt (.inr λcur e=>ht (by have:=(h.symm.trans e);cases this;rfl))).trans h
def Hk (w w':World):Prop:=∀ (g:Nat) (cur:Array Value),w.heap[g]? =some (Obj.cells cur UU (0,0))->∃ QO,w'.heap[g]? =some (Obj.cells QO UU (0,0))/\QO.size=cur.size
theorem Hk.aR {a b c:World} (h:Hk a b) (k:Hk b c):Hk a c:=λg cur hg=>by
 obtain⟨c1,h1,e1⟩:=h g cur hg;obtain⟨c2,h2,e2⟩:=k g c1 h1;exact⟨c2,h2,e2.trans e1⟩
theorem Hk.kp (h:Kp UU w w'):Hk w w':=λg cur hg=>⟨cur,h.block UU g cur rfl ag hg,rfl⟩
section
variable {C:Cx} {Q:Exit->Act->World->Prop} {k:List It} {F:Fr} {H:Hp} {w:World}
variable {B:Nat} {β:Nat->Nat} {w w':World}
theorem oK.spo {i:Nat} {t:TypeId} {cs:List AV} (hU:C.K.U=UU) (h:oK C β w i t cs) (k:Spo B w w'):oK C β w' i t cs:=
 ⟨h.new,h.ty,h.cls.spo (λe=>by have:=h.ty;unfold KC.fz at this;rw[e,hU,Nat.beq_refl] at this;cases this) k,h.ok⟩
theorem Rel.spo {a:Act} (hU:C.K.U=UU) (hr:Rel C β F H a w) (hO:C.Old w') (k:Spo B w w'):Rel C β F H a w':=
 ⟨hr.defers,hr.size,hr.tmp,λi t cs h=>(hr.own i t cs h).spo hU k,hr.apart,hr.closed,hr.fits,hr.hp,hO⟩
theorem VK {w0:World} (h:aU w0 w) (hB:w0.heap.size<=B) (k:Spo B w w'):aU w0 w':=
 Below.trans h ⟨k.os,k.tape,k.output,k.size,λb hb=>k.pk b (ox hb h.size) (.inl ab)⟩
theorem IE (hC:C.Ok) {m:Option (List FuncId)} {full:Array Oper} {K:Fr->Hp->World->Prop} {q:Act->World->Prop} {tl:List Oper} (hQ:∀ β F H w a w',K F H w->Rel C β F H a w'->bQ C.K w w'->wpList C.P full Q tl a w'):
  ∀ (l:List Oper) (β:Nat->Nat) (F:Fr) (H:Hp) (w:World) (a:Act) (w':World),aG C m full l K F H w->Rel C β F H a w'->bQ C.K w w'->wpList C.P full Q (l++tl) a w'
 | [],β,F,H,w,a,w',h,hr,hk=>hQ β F H w a w' h hr hk
 | o::r,β,F,H,w,a,w',h,hr,hk=>by
   refine wpList_step λK' hK'=> ?_;exact mj hC (k:=aG C m full r K) h hr hk λβ F' H' w1 a' xM h1 h2 h3=>hK' _ _ (IE hC (q:=q) hQ r β F' H' w1 a' xM h1 h2 h3)
def SpoK (C:Cx) (Q:Exit->Act->World->Prop) (k:List It) (full:Array Oper) (o:Oper) (F:Fr) (H:Hp) (w:World):Prop:=
 ∃ g v B,stepOf C full F H o=.call (.fn g [.val v])/\rA C.P g/\∀ w1,bQ C.K w w1->C.Old w1->Calls C.P g #[v] w1 λe w2=>e=.returned (.tuple #[])/\Spo B w1 w2/\C.Old w2/\VS C Q k (F.cw o.dst (.val (.tuple #[]))) H w2
theorem SpoK.mk' {full:Array Oper} {o:Oper} {g:FuncId} {v:Value} {wI:World} (e:stepOf C full F H o=.call (.fn g [.val v])) (hf:rA C.P g) (h:∀ w1,bQ C.K w w1->C.Old w1->Calls C.P g #[v] w1 λe w2=>e=.returned (.tuple #[])/\Spo B w1 w2) (hO:∀ w1 w2,C.Old w1->Spo B w1 w2->C.Old w2)
  (hK:∀ w1 w2,bQ C.K w w1->Spo B w1 w2->bQ C.K wI w2) (hc:∀ w2,bQ C.K wI w2->VS C Q k (F.cw o.dst (.val (.tuple #[]))) H w2):SpoK C Q k full o F H w:=
 ⟨g,v,B,e,hf,λw1 k1 o1=>(h w1 k1 o1).mono λe w2 h2=>⟨h2.1,h2.2,hO w1 w2 o1 h2.2,hc w2 (hK w1 w2 k1 h2.2)⟩⟩
theorem VS.VL (hC:C.Ok) (hU:C.K.U=UU) {id:Nat} {ops:Array Oper} (pre:List Oper) (o:Oper) (hops:ops.toList=pre++[o]) (h:aG C none ops pre (SpoK C Q k ops o) F H w):VS C Q (.code (.region id ops false)::k) F H w:=λβ a w' hr hk=>by
 refine wp_region_list ?_;rw[hops];refine IE hC (q:=λ_ _=>True) (λβ F H w a w' h hr hk=> ?_) pre β F H w a w' h hr hk;obtain⟨g,v,B,hst,hfn,hc⟩:=h;refine wpList_step λK' hK'=> ?_;have hb:stepOf C ops F H o≠.bad:=λe=>by rw[e] at hst;cases hst
 obtain⟨hd,⟨hw,hs⟩|⟨hw,hs⟩⟩:=lW hb
 ·rw[hs] at hst;cases hst
 ·rw[oN hr hw,if_pos rfl];rw[hs] at hst;refine LS (β:=β) hr hst ⟨hfn,(hc w' hk hr.old).mono ?_⟩;rintro e w2 ⟨rfl,hsp,hO2,hv⟩;have nC:=hr.spo hU hO2 hsp;exact⟨_,aa,hK' _ _ (hv β _ w2 (nC.put hd (v:=.val (.tuple #[])) (λ_ hi=>by cases hi)) (bQ.refl _ _))⟩
end
def Zb (w:World) (B g:Nat):Prop:=B<=g/\∃ cur:Array Value,w.heap[g]? =some (Obj.cells cur UU (0,0))
structure Es (B:Nat) (w w':World):Prop where
 os:w'.os=w.os
 tape:w'.tape=w.tape
 output:w'.output=w.output
 size:w.heap.size<=w'.heap.size
 pk:∀ b:Nat,b<w.heap.size->¬ Zb w B b->w'.heap[b]? =w.heap[b]?
theorem Es.refl (B:Nat) (w:World):Es B w w:=⟨rfl,rfl,rfl,bL _,λ_ _ _=>rfl⟩
theorem Es.aR {B:Nat} {w a b:World} (h:Es B w a) (k:aU a b):Es B w b:=
 ⟨k.os.trans h.os,k.tape.trans h.tape,k.output.trans h.output,bj h.size k.size,λx hx hz=>(vC k x (ox hx h.size)).trans (h.pk x hx hz)⟩
theorem Es.set {B:Nat} {w a:World} (h:Es B w a) {b o:Nat} {vs:List Value} (hb:w.heap.size<=b\/Zb w B b):Es B w (a.setCells b o vs):=by
 obtain⟨e1,e2,e3,e4⟩:=lF (b:=b) vs o a;refine⟨e1.trans h.os,e2.trans h.tape,e3.trans h.output,bj h.size e4,λx hx hz=>(gR vs o a x (λe=> ?_)).trans (h.pk x hx hz)⟩;subst e;rcases hb with hb|hb
 ·omega
 ·exact hz hb
theorem Es.spo {B:Nat} {w w':World} (h:Es B w w') (k:Hk w w'):Spo B w w':=
 ⟨h.os,h.tape,h.output,h.size,λb hb hd=>h.pk b hb (λhz=>by
   obtain⟨h1,cur,h2⟩:=hz;rcases hd with e|e
   ·omega
   ·exact e cur h2),k⟩
abbrev cxS (P:Program) (w:World) (N:Nat) (B:Nat):Cx:={ P:=P,w0:=w,N:=N,K:=KU UU,SU:=λt=>Nat.beq t 22,ti:=table,keep:=λ_ _=>trivial
                                                       GO:=λ_ g=>w.heap.size<=g\/Zb w B g
                                                       Old:=λw'=>Es B w w'
                                                       yT:=λ_ _ _ h=>.inl h
                                                       Kn:=λ_ _ _ h _=>h
                                                       iq:=λ_ h=>h.size
                                                       uH:=Es.refl _ _
                                                       AG:=λa b h _ _ s=>⟨s.os.trans h.os,s.tape.trans h.tape,s.output.trans h.output,bj h.size s.size,λx hx hz=>by
                                                        rcases s.pk x (ox hx h.size) with e|⟨⟨_,hi⟩,_⟩|e
                                                        ·exact e.trans (h.pk x hx hz)
                                                        ·rcases hi with hi|hi
                                                         ·omega
                                                         ·exact absurd hi hz
                                                        ·exact absurd ag e⟩
                                                       LJ:=λa ad u h hn hc=>by
                                                        have hb:=mP hc;rw[Ab (w:=w) (h.pk ad.block hb (λhz=>hn 0 (.inr hz)))];exact hc
                                                       lay:=λw1 H h _ hf=>by
                                                        obtain⟨β,w2,h1,h2,h3,h4⟩:=Km (K:=KU UU) (aU.refl w1) H hf;exact⟨β,w2,h1,h.aR h2,λi t cs hi=>⟨.inl (bj h.size (h3 i t cs hi).1),(h3 i t cs hi).2⟩,h4⟩ }
theorem IG (w:World) (N B:Nat):(cxS Tryz.prog w N B).Ok:=xd
section
variable {Q:Exit->Act->World->Prop} {F F':Fr} {H H':Hp} {w w1:World} {N B:Nat} {l':List Oper} {k:List It} {id:Nat} {ops:Array Oper}
theorem cxS_r (e:xc (cxS Tryz.prog w1 N B) ops 80 ops.toList F H=(l',F',H')) (h:aG (cxS Tryz.prog w1 N B) none ops l' (VS (cxS Tryz.prog w1 N B) Q k) F' H' w):VS (cxS Tryz.prog w1 N B) Q (.code (.region id ops false)::k) F H w:=VS.region (IG _ _ _) (VO.run 80 e h)
theorem Lh {b off:Nat} {cs:List Value} {t:TypeId} {cur:Array Value} (hc:bO w b t cur) (ht:t≠UU) (h:∀ (j:Nat) (u:Value),cs[j]? =some u->w.cell? ((⟨b,off,none⟩:Addr).add j)=some u):∀ (j:Nat) (u:Value),cs[j]? =some u->(cxS Tryz.prog w N B).At ((⟨b,off,none⟩:Addr).add j) u:=by
 intro j u hj w1 xH;have h0:=h j u hj;rw[ju] at h0 ⊢
 rw[Ab (w:=w) (a:=⟨b,off+j,none⟩) (xH.pk b hc.lt (λhz=>by
  obtain⟨_,c,hz⟩:=hz;have:=hc.symm.trans hz;cases this;exact ht aa))]
 exact h0
end
section
variable {C:Cx} {β:Nat->Nat} {F:Fr} {H:Hp} {a:Act} {w:World} {Q:Exit->Act->World->Prop} {k:List It}
theorem DW (hC:C.Ok) {m:Option (List FuncId)} {full:Array Oper} {K:Fr->Hp->World->Prop} {q:Act->World->Prop} {tl:List Oper} (hQ:∀ β F H w a w',K F H w->Rel C β F H a w'->bQ C.K w w'->wpList C.P full Q tl a w'):
  ∀ (l:List Oper) (β:Nat->Nat) (F:Fr) (H:Hp) (w:World) (a:Act) (w':World),aG C m full l K F H w->Rel C β F H a w'->bQ C.K w w'->wpList C.P full Q (l++tl) a w'
 | [],β,F,H,w,a,w',h,hr,hk=>hQ β F H w a w' h hr hk
 | o::r,β,F,H,w,a,w',h,hr,hk=>by
   refine wpList_step λK' hK'=> ?_;exact mj hC (k:=aG C m full r K) h hr hk λdA F' H' w1 a' xM h1 h2 h3=>hK' _ _ (DW hC (q:=q) hQ r dA F' H' w1 a' xM h1 h2 h3)
theorem Rel.overV (hr:Rel C β F H a w) {b o:Nat} {vs:List Value} {cur:Array Value} {ty:TypeId} (hO:C.Old (w.setCells b o vs)) (hc:w.heap[b]? =some (Obj.cells cur ty (0,0))) (ht:C.K.fz ty=true):Rel C β F H a (w.setCells b o vs):=by
 refine⟨hr.defers,hr.size,hr.tmp,λi t cs h=> ?_,hr.apart,hr.closed,hr.fits,hr.hp,hO⟩;obtain⟨h1,h2,h3,h4⟩:=hr.own i t cs h;refine⟨h1,h2,(gR vs o w _ (λe=> ?_)).trans h3,h4⟩;rw[e] at h3;have:=hc.symm.trans h3;cases this;rw[h2] at ht;cases ht
def StoV (C:Cx) (Q:Exit->Act->World->Prop) (k:List It) (full:Array Oper) (o:Oper) (F:Fr) (H:Hp) (w:World):Prop:=
 ∃ t x y b off i v,o.op=.store t x y/\oJ C.N o.dst=true/\wants full F o=some true/\ev F x=some (.val (.pointer (some ⟨b,off,none⟩)))/\pw F y=some v/\C.ti t=some i/\v.cells.size=i.size/\v.cells.toList.all Value.oneCell'=true/\
   ∀ w1,bQ C.K w w1->C.Old w1->∃ cur ty,w1.heap[b]? =some (Obj.cells cur ty (0,0))/\off+i.size<=cur.size/\C.K.fz ty=true/\C.Old (w1.setCells b off v.cells.toList)/\VS C Q k (F.cw o.dst (.val undef)) H (w1.setCells b off v.cells.toList)
theorem VS.MT (hC:C.Ok) {id:Nat} {ops:Array Oper} {o:Oper} (hl:ops.toList.getLast? =some o) (h:aG C none ops ops.toList.dropLast (StoV C Q k ops o) F H w):VS C Q (.code (.region id ops false)::k) F H w:=λβ a w' hr hk=>by
 have hops:ops.toList=ops.toList.dropLast++[o]:=by
  obtain⟨l,hl⟩:=List.getLast?_eq_some_iff.1 hl;rw[hl];simp
 generalize ops.toList.dropLast=pre at*;refine wp_region_list ?_;rw[hops];refine DW hC (q:=λ_ _=>True) (λβ F H w a w' h hr hk=> ?_) pre β F H w a w' h hr hk;obtain⟨t,x,y,b,off,i,v,hop,hd,hw,hx,hy,hi,hsz,vO,hc⟩:=h;obtain⟨cur,ty,h1,h2,h3,h5,h4⟩:=hc w' hk hr.old;refine wpList_step λK' hK'=> ?_;rw[oN hr hw,if_pos rfl];have nC:=hr.overV (o:=off) (vs:=v.cells.toList) h5 h1 h3;have Nx:a.eval x=.pointer (some ⟨b,off,none⟩):=hr.ev hx;have hy':a.eval y=v:=hr.pw hy;have hz:=(hC t i hi).size;refine Oper.wp_skip (w':=w'.setCells b off v.cells.toList) ?_ (hK' _ _ (h4 β _ _ (nC.put hd (v:=.val undef) (λ_ hi=>by cases hi)) (bQ.refl _ _)));cases hq:C.P.info? t with
 | none=>rw[hq] at hz;simp at hz
 | some ti=>
   rw[hq] at hz;simp at hz
   have:=run_storeCells_cells (P:=C.P) b off v.cells.toList 0 w' (λj hj=>by
     obtain⟨z,hz⟩:∃ z,cur[off+j]? =some z:=⟨_,mH (by rw[Ge] at hj;omega)⟩;rw[pO,bO.cell (b:=b) h1 hz];rfl)
    (λj _=>bO.frozen (b:=b) h1 _) (λz hz=>bR.1 vO z hz)
   rw[pO] at this
   have hst:(Instr.storeAt t (.pointer (some ⟨b,off,none⟩)) v).run C.P w'=.ok () (w'.setCells b off v.cells.toList):=by
    simp only[Instr.storeAt,Instr.sureAddr,storeVar,sizeOf,typeInfo,Sem.run_bind,Sem.run_pure,Result.andThen_ok];simp[hq,hz,hsz,this]
   simp[execOp,hop,Nx,hy',hst]
end
theorem Hk.set {w a:World} (h:Hk w a) {b o:Nat} {vs:List Value} {cur:Array Value} (hc:a.heap[b]? =some (Obj.cells cur UU (0,0))):Hk w (a.setCells b o vs):=λg c hg=>by
 obtain⟨c1,h1,e1⟩:=h g c hg;by_cases e:g=b
 ·subst e;obtain⟨c2,h2,e2⟩:=xD vs o a c1 h1;exact⟨c2,h2,e2.trans e1⟩
 ·exact⟨c1,(gR vs o a g e).trans h1,e1⟩
theorem BH {l:List Rat} {v:Nat} {x:Rat} (h:l[v]? =some x):cO v (l.drop v)=(v,x)::cO (v+1) (l.drop (v+1)):=by
 obtain⟨hlt,rfl⟩:=cQ.1 h;rw[mG hlt];rfl
theorem set_drop {l:List Rat} {v:Nat} (y:Rat):(l.set v y).drop (v+1)=l.drop (v+1):=by
 rw[List.drop_set,if_pos ab]
theorem set_take {l:List Rat} {v:Nat} {x:Rat} (y:Rat) (h:l[v]? =some x):(l.set v y).take (v+1)=l.take v++[y]:=by
 have hlt:=(cQ.1 h).1;have:(l.set v y)[v]? =some y:=by rw[Ur,if_pos rfl,if_pos hlt]
 rw[dt this,List.take_set,List.set_eq_of_length_le (by rw[cM];omega)]
structure TA (D:Nat) (M2:Rat) (U0 z:Nat) (LT:List Rat) (UT:List Uq) (US m0:Rat) (v:Nat) (left:List Rat) (us:List Uq) (room used:Rat):Prop where
 len:left.length=z
 vz:v<=z
 i1:left.take v++(vT (cO v (left.drop v)) room).map (·.2)=LT
 i2:us++vS z (cO v (left.drop v)) room=UT
 i3:used+Cz (cO v (left.drop v)) room=US
 el:∀ x∈left,Iz D x/\0<=x/\x<=M2
 r0:0<=room
 u0:0<=used
 sm:used+room=m0
 rI:Iz D room
 uI:Iz D used
 ul:us.length<=U0+v
section
variable {D:Nat} {M2:Rat} {U0 z:Nat} {LT:List Rat} {UT:List Uq} {US m0:Rat} {v:Nat} {left:List Rat} {us:List Uq} {room used:Rat}
theorem TA.step (h:TA D M2 U0 z LT UT US m0 v left us room used) {x:Rat} (hx:left[v]? =some x) (hv:v<z):
  TA D M2 U0 z LT UT US m0 (v+1) (left.set v (x-ai x room)) (us++if 0<ai x room then [(v,z,ai x room)] else []) (room-ai x room) (used+ai x room):=by
 obtain⟨h1,h2,h3,h4,h5,h6,h7,h8,h9,h10,h11,Jn⟩:=h;obtain⟨x1,x2,x3⟩:=h6 x (cX hx);have rn:0<=ai x room:=by rcases dJ x room with ⟨e,_⟩|⟨e,_⟩ <;> rw[e] <;> assumption
 have sC:Iz D (ai x room):=by rcases dJ x room with ⟨e,_⟩|⟨e,_⟩ <;> rw[e] <;> assumption
 have Co:=eh x room;have ym:=dM x room;rw[BH hx] at h3 h4 h5;rw[xu] at h3;rw[xt] at h4;rw[tT] at h5;refine⟨by rw[pM];exact h1,ab,?_,?_,?_,λy hy=> ?_,cY,cY,cY,h10.sub sC,h11.add sC,?_⟩
 ·rw[set_take _ hx,set_drop,<-h3,rQ,fu];rfl
 ·rw[set_drop,<-h4,fu]
 ·rw[set_drop,<-h5];grind
 ·rcases yv hy with hy|rfl
  ·exact h6 y hy
  ·exact⟨x1.sub sC,cY,cY⟩
 ·rw[bB]
  split
  ·show us.length+1<=_;omega
  ·show us.length+0<=_;omega
theorem TA.fin (h:TA D M2 U0 z LT UT US m0 z left us room used):left=LT/\us=UT/\used=US:=by
 obtain⟨h1,h2,h3,h4,h5,_⟩:=h;have e:left.drop z=[]:=ly ab;rw[e] at h3 h4 h5;refine⟨?_,?_,?_⟩
 ·rw[<-h3,dP ab];exact (gA _).symm
 ·rw[<-h4];exact (gA _).symm
 ·rw[<-h5];exact (Gk _).symm
end
structure TOk (D:Nat) (M:Rat) (s:Ek):Prop where
 len:s.left.length=s.rows.length
 el:∀ x∈s.left,Iz D x/\0<=x/\x<=M+M
 ul:s.uses.length<=100*s.rows.length
theorem TA.init {D:Nat} {M:Rat} {s:Ek} (h:TOk D M s) {keep z:Nat} (hz:s.rows.length=z) {m:Rat} (hm:Iz D m) (h0:0<=m):
  TA D (M+M) (100*z) z (s.left.take (z-keep)++(vT (cO (z-keep) (s.left.drop (z-keep))) m).map (·.2)) (s.uses++vS z (cO (z-keep) (s.left.drop (z-keep))) m) (Cz (cO (z-keep) (s.left.drop (z-keep))) m) m (z-keep) s.left s.uses m 0:=by
 obtain⟨h1,h2,h3⟩:=h;rw[hz] at h1 h3;exact⟨h1,Nat.sub_le _ _,aa,aa,by rw[Rat.zero_add],h2,h0,mK,by rw[Rat.zero_add],hm,Iz.zero,ab⟩
theorem exp_lenT (keep n:Nat) (s:Ek):(tU keep n s).rows.length=s.rows.length/\(tU keep n s).uses=s.uses/\(tU keep n s).left.length=s.left.length/\∀ x∈(tU keep n s).left,x∈s.left\/x=0:=by
 unfold tU
 split
 ·exact⟨oy ..,aa,pM ..,λx hx=>yv hx⟩
 ·exact⟨aa,aa,aa,λx hx=>.inl hx⟩
theorem QP {D:Nat} {M S F:Rat} {keep:Nat} {s:Ek} {e:Rat×Rat} (h:TOk D M s) (hlen:s.rows.length<=100) (hL:Iz D (aH S F e.2)) (zK:aH S F e.2<=M) (hx:Iz D e.1) (my: -M<=e.1) (NB:e.1<=M):TOk D M (nj S F keep s.rows.length s e)/\(nj S F keep s.rows.length s e).rows.length=s.rows.length+1:=by
 obtain⟨g1,g2,g3,g4,g5,g6,g7,g8,g9⟩:=sD hL (oq S F e.2) zK hx my NB
 have key:∀ (v:Nat) (left:List Rat) (us:List Uq) (room used:Rat),TA D (M+M) (100*s.rows.length) s.rows.length (s.left.take (s.rows.length-keep)++(vT (cO (s.rows.length-keep) (s.left.drop (s.rows.length-keep))) (aH S F e.2-ai e.1 (aH S F e.2))).map (·.2)) (s.uses++vS s.rows.length (cO (s.rows.length-keep) (s.left.drop (s.rows.length-keep))) (aH S F e.2-ai e.1 (aH S F e.2))) (Cz (cO (s.rows.length-keep) (s.left.drop (s.rows.length-keep))) (aH S F e.2-ai e.1 (aH S F e.2))) (aH S F e.2-ai e.1 (aH S F e.2)) v left us room used->
   ∃ Li us' VM VN,TA D (M+M) (100*s.rows.length) s.rows.length (s.left.take (s.rows.length-keep)++(vT (cO (s.rows.length-keep) (s.left.drop (s.rows.length-keep))) (aH S F e.2-ai e.1 (aH S F e.2))).map (·.2)) (s.uses++vS s.rows.length (cO (s.rows.length-keep) (s.left.drop (s.rows.length-keep))) (aH S F e.2-ai e.1 (aH S F e.2))) (Cz (cO (s.rows.length-keep) (s.left.drop (s.rows.length-keep))) (aH S F e.2-ai e.1 (aH S F e.2))) (aH S F e.2-ai e.1 (aH S F e.2)) s.rows.length Li us' VM VN:=by
  have go:∀ (k v:Nat) (left:List Rat) (us:List Uq) (room used:Rat),k=s.rows.length-v->TA D (M+M) (100*s.rows.length) s.rows.length (s.left.take (s.rows.length-keep)++(vT (cO (s.rows.length-keep) (s.left.drop (s.rows.length-keep))) (aH S F e.2-ai e.1 (aH S F e.2))).map (·.2)) (s.uses++vS s.rows.length (cO (s.rows.length-keep) (s.left.drop (s.rows.length-keep))) (aH S F e.2-ai e.1 (aH S F e.2))) (Cz (cO (s.rows.length-keep) (s.left.drop (s.rows.length-keep))) (aH S F e.2-ai e.1 (aH S F e.2))) (aH S F e.2-ai e.1 (aH S F e.2)) v left us room used->
    ∃ Li us' VM VN,TA D (M+M) (100*s.rows.length) s.rows.length (s.left.take (s.rows.length-keep)++(vT (cO (s.rows.length-keep) (s.left.drop (s.rows.length-keep))) (aH S F e.2-ai e.1 (aH S F e.2))).map (·.2)) (s.uses++vS s.rows.length (cO (s.rows.length-keep) (s.left.drop (s.rows.length-keep))) (aH S F e.2-ai e.1 (aH S F e.2))) (Cz (cO (s.rows.length-keep) (s.left.drop (s.rows.length-keep))) (aH S F e.2-ai e.1 (aH S F e.2))) (aH S F e.2-ai e.1 (aH S F e.2)) s.rows.length Li us' VM VN:=by
   intro k
   induction k with
   | zero=>
     intro v left us room used hk h;have:v=s.rows.length:=by have:=h.vz;omega
     subst this;exact⟨_,_,_,_,h⟩
   | succ k ih=>
     intro v left us room used hk h;have hv:v<s.rows.length:=ab;exact ih _ _ _ _ _ ab (h.step (ba (by have:=h.len;omega)) hv)
  exact λv left us room used h=>go _ v left us room used aa h
 obtain⟨Li,us',VM,VN,hI⟩:=key _ _ _ _ _ (TA.init (keep:=keep) h aa g7 g8);obtain⟨e1,e2,e3⟩:=hI.fin;unfold nj;rw[<-e1,<-e2];obtain⟨a1,a2,a3,a4⟩:=exp_lenT keep s.rows.length ⟨Li++[e.1-ai e.1 (aH S F e.2)],s.rows++[CA S F (cO (s.rows.length-keep) (s.left.drop (s.rows.length-keep))) e],us'⟩;have hr:(s.rows++[CA S F (cO (s.rows.length-keep) (s.left.drop (s.rows.length-keep))) e]).length=s.rows.length+1:=by rw[bB];rfl
 refine⟨⟨?_,λx hx=> ?_,?_⟩,by rw[a1];exact hr⟩
 ·rw[a1,a3];show (Li++_).length=(s.rows++_).length;rw[hr,bB,hI.len];rfl
 ·rcases a4 x hx with hx|rfl
  ·rcases gg.1 hx with hx|hx
   ·exact hI.el x hx
   ·rw[aJ.1 hx];exact⟨g4,g5,g6⟩
  ·exact⟨Iz.zero,mK,cY⟩
 ·rw[a1,a2];show us'.length<=100*(s.rows++_).length;rw[hr];have:=hI.ul;omega
theorem Lj (S F:Rat) (keep:Nat) (l:List (Rat×Rat)) (y:Rat×Rat):runT S F keep (l++[y])=nj S F keep (runT S F keep l).rows.length (runT S F keep l) y:=by
 unfold runT;rw[Up];rfl
theorem DX {l:List Rat} {v:Nat} {x:Rat} (h:l[v]? =some x) (r:List bh):fj (cO v (l.drop v)) r=fj (cO (v+1) (l.drop (v+1))) (r.modify v (λy=>{ y with closing:=x })):=by
 rw[BH h];rfl
end
end Go.Proofs.YtabalinjfgcfeaaGreat
