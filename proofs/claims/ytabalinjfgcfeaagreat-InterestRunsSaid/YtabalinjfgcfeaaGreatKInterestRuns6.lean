/- Di of the proof,laid behind one another. -/
import Derived.Test.YtabalinjfgcfeaaGreatKInterestRuns5
set_option linter.all false
set_option maxHeartbeats 64000000
set_option maxRecDepth 4000
namespace Go.Proofs.YtabalinjfgcfeaaGreat
section
open Go.RowKit
attribute [local irreducible] aB VS
abbrev CA (P:Program) (w:World) (N:Nat):Cx:={ P:=P,w0:=w,N:=N,K:=⟨UU,fun _=>True,fun t=>(Nat.beq t eh || (Nat.beq t fm || (Nat.beq t 108 || (Nat.beq t 106 || Nat.beq t 100))))⟩,SU:=fun t=>Nat.beq t 22,ti:=table,keep:=fun _ _=>trivial }
theorem BZ (w:World) (N:Nat):(CA Tryz.prog w N).Ok:=rn
theorem Pz (w:World) (N:Nat):(CA Tryz.prog w N).P.follows .mixedOrders=true:=by show Tryz.prog.follows .mixedOrders=true;kernel_rfl
section
variable {F F':Fr} {H H':Hp} {w w1:World} {N:Nat} {l':List Oper} {Q:Exit->Act->World->Prop} {k:List It} {id:Nat} {ops:Array Oper}
theorem cxL_r (e:rk (CA Tryz.prog w1 N) ops 80 ops.toList F H=(l',F',H')) (h:aB (CA Tryz.prog w1 N) none ops l' (VS (CA Tryz.prog w1 N) Q k) F' H' w):VS (CA Tryz.prog w1 N) Q (.code (.region id ops false)::k) F H w:=VS.region (BZ _ _) (VO.run 80 e h)
theorem cxL_d (e:rk (CA Tryz.prog w1 N) ops 80 ops.toList F H=(l',F',H')) (h:aB (CA Tryz.prog w1 N) (some []) ops l' (VS (CA Tryz.prog w1 N) Q k) F' H' w) (mM:pD (CA Tryz.prog w1 N).SU [] ops=true:=by kernel_rfl):VS (CA Tryz.prog w1 N) Q (.code (.region id ops true)::k) F H w:=VS.draw (BZ _ _) (Pz _ _) [] mM (VO.run 80 e h)
end
structure FzL (K:KC):Prop where
 u:K.U=UU
 s:∀ b,K.S b
 r:K.fz eh=true
 w:K.fz fm=true
theorem qA.kpF {K:KC} {B:Nat} {w w':World} {r u:Value} {x:List aL×List Uq} (h:qA B w r u x) (hK:FzL K) (k:bt K w w') (kw:Kp UU w w'):qA B w' r u x:=by
 refine ⟨h.1.imp id fun ⟨rb,h0,n,c,vs,sp,h1,h2,h3⟩=>⟨rb,h0,n,c,vs,sp,h1,k.block _ rb _ hK.r (hK.s _) h2,h3.kp (aA B) kw⟩,h.2.imp id fun ⟨rb,h0,n,c,vs,sp,h1,h2,h3⟩=>⟨rb,h0,n,c,vs,sp,h1,k.block _ rb _ hK.w (hK.s _) h2,h3.kp (dR B) kw⟩⟩
instance {k:Nat} {x:Rat}:Decidable (Lm k x):=by unfold Lm;infer_instance
theorem kL {w0 w w':World} {N:Nat} (h:bt (CA Tryz.prog w0 N).K w w':=by exact aR):Kp UU w w':=h.nH
theorem nT (w:World) (N:Nat):FzL (CA Tryz.prog w N).K:=⟨rfl,fun _=>trivial,rfl,rfl⟩
theorem qA.form {B:Nat} {w:World} {r u:Value} {x:List aL×List Uq} (h:qA B w r u x):∃ p c p' c',r=.slice p x.1.length c/\u=.slice p' x.2.length c':=by
 have h1:∃ p c,r=.slice p x.1.length c:=by
  rcases h.1 with ⟨rfl,e⟩ | ⟨rb,_,n,c,vs,sp,rfl,_,h3⟩
  ·exact ⟨none,0,by rw [e];rfl⟩
  ·exact ⟨_,c,by rw [h3.len]⟩
 have h2:∃ p c,u=.slice p x.2.length c:=by
  rcases h.2 with ⟨rfl,e⟩ | ⟨rb,_,n,c,vs,sp,rfl,_,h3⟩
  ·exact ⟨none,0,by rw [e];rfl⟩
  ·exact ⟨_,c,by rw [h3.len]⟩
 obtain ⟨p,c,e1⟩:=h1
 obtain ⟨p',c',e2⟩:=h2
 exact ⟨p,c,p',c',e1,e2⟩
def qB (q:Rat):RR:=(decide (q.num < 0),limbs q.num.natAbs,decide ((q.den:Int) < 0),limbs (q.den:Int).natAbs)
theorem Tk (q:Rat):Cz (decide (q.num < 0)) (limbs q.num.natAbs) (decide ((q.den:Int) < 0)) (limbs (q.den:Int).natAbs)=true:=by
 unfold Cz
 rw [pj q.num,pj (q.den:Int),gO,gO]
 have h3:(0:Int) < q.den:=by have:=q.den_nz;omega
 have h4:Int.gcd q.num q.den=1:=by have:=q.reduced;simpa [Int.gcd,Nat.Coprime] using this
 rw [decide_eq_true h3,decide_eq_true h4];rfl
theorem Tl (q:Rat):rq (decide (q.num < 0)) (limbs q.num.natAbs) (decide ((q.den:Int) < 0)) (limbs (q.den:Int).natAbs)=q:=by
 unfold rq;rw [gO,gO,Eh]
theorem xZ (q:Rat):(qB q).q=q:=Tl q
theorem FV (q:Rat):(qB q).ok=true:=Tk q
theorem pY {q:Rat} {k:Nat} (h:eM q k):(qB q).kQ k:=⟨h.1,h.2⟩
theorem bI.LR {w:World} {s t:Bool} {p u:Option Addr} {a c b d:Nat} {q:Rat} (h:bI w (.agg #[.bool s,.slice p a c,.bool t,.slice u b d]) q):xk w [.bool s,.slice p a c,.bool t,.slice u b d] (qB q):=by
 have hr:=h.raw
 obtain ⟨_,_,_,_,hv,h1,h2⟩:=hr
 simp only [Value.agg.injEq,Array.mk.injEq,List.cons.injEq,Value.bool.injEq,Value.slice.injEq,and_true] at hv
 obtain ⟨rfl,⟨rfl,rfl,rfl⟩,rfl,rfl,rfl,rfl⟩:=hv
 exact ⟨_,_,_,_,rfl,_,_,_,_,rfl,h1,h2⟩
theorem qC (n:Int) (h0: -9223372036854775808≤n) (h1:n≤9223372036854775807):eM (Rat.divInt n 1) 2:=Fy h0 h1 bV bV
theorem jo (n e:Int) (w:World) (h0: -9223372036854775808≤n) (h1:n≤9223372036854775807) (g0: -9223372036854775808≤e) (g1:e≤9223372036854775807):
  Calls Tryz.prog 32 #[.int .i64 n,.int .i64 e] w fun o w'=>∃ v,o=.returned v/\(∃ s p a c t y m d s' p' a' c' t' y' m' d',v=.agg #[.bool s,.slice p a c,.bool t,.slice y m d,.bool s',.slice p' a' c',.bool t',.slice y' m' d']/\ue 2 w' [.bool s,.slice p a c,.bool t,.slice y m d,.bool s',.slice p' a' c',.bool t',.slice y' m' d'] (qB (Rat.divInt n 1),qB (Rat.divInt e 1)))/\aM w w':=by
 refine ah (C:=bS Tryz.prog w _) (args:=[_,_]) Tryz.func32 rfl Tryz.ntmps32 (bB rfl) ?_
 refine ab ?_
 refine VO.call rfl rfl (fk Tryz.func31) (fun bF cU bJ=>(eW n 1 bF h0 h1 aa aa).mono ?_)
 rintro e w1 ⟨r1,rfl,q1,aK⟩
 obtain ⟨s1,p1,n1,c1,t1,y1,m1,d1,rfl⟩:=q1.form
 refine ⟨_,rfl,aK,fun dC _ bb1=>wV rfl ?_⟩
 refine ab ?_
 refine VO.call rfl rfl (fk Tryz.func31) (fun cK eg di=>(eW e 1 cK g0 g1 aa aa).mono ?_)
 rintro e w2 ⟨r2,rfl,q2,ba⟩
 obtain ⟨s2,p2,n2,c2,t2,y2,m2,d2,rfl⟩:=q2.form
 refine ⟨_,rfl,ba,fun ed _ bb2=>wV rfl ?_⟩
 refine ab ?_
 refine aY ?_;intro wz kz bz
 exact ⟨_,rfl,⟨_,_,_,_,_,_,_,_,_,_,_,_,_,_,_,_,rfl,[.bool s1,.slice p1 n1 c1,.bool t1,.slice y1 m1 d1],[.bool s2,.slice p2 n2 c2,.bool t2,.slice y2 m2 d2],rfl,(q1.kr).LR,(q2.kr).LR,pY (qC n h0 h1),pY (qC e g0 g1)⟩,bz⟩
abbrev exS:Rat:=(Rat.divInt 3 10)
abbrev exF:Rat:=(Rat.divInt 50 1)
theorem nW (w:World):Calls Tryz.prog 33 #[] w fun o w'=>∃ v,o=.returned v/\gM w' v (qB exS) (qB exF) 2/\aM w w':=by
 refine ah (C:=bS Tryz.prog w _) (args:=[]) Tryz.func33 rfl Tryz.ntmps33 (bB rfl) ?_
 refine ab ?_
 refine VO.call rfl rfl (fk Tryz.func31) (fun bF cU bJ=>(eW 3 10 bF aa aa aa aa).mono ?_)
 rintro e w1 ⟨r1,rfl,q1,aK⟩
 obtain ⟨s1,p1,n1,c1,t1,y1,m1,d1,rfl⟩:=q1.form
 refine ⟨_,rfl,aK,fun dC _ bb1=>wV rfl ?_⟩
 refine ab ?_
 refine VO.call rfl rfl (fk Tryz.func31) (fun cK eg di=>(eW 50 1 cK aa aa aa aa).mono ?_)
 rintro e w2 ⟨r2,rfl,q2,ba⟩
 obtain ⟨s2,p2,n2,c2,t2,y2,m2,d2,rfl⟩:=q2.form
 refine ⟨_,rfl,ba,fun ed _ bb2=>wV rfl ?_⟩
 refine ab ?_
 refine aY ?_;intro wz kz bz
 obtain ⟨a1,a2,a3,a4,a5,a6⟩:=(q1.kr (w':=wz)).LR
 obtain ⟨b1,b2,b3,b4,b5,b6⟩:=(q2.kr (w':=wz)).LR
 refine ⟨_,rfl,⟨a1,a2,a3,a4,b1,b2,b3,b4,?_,a6,b6⟩,bz⟩
 simp only [List.cons.injEq,and_true] at a5 b5
 obtain ⟨x1,x2,x3,x4⟩:=a5
 obtain ⟨z1,z2,z3,z4⟩:=b5
 rw [x1,x2,x3,x4,z1,z2,z3,z4];rfl
theorem JJ (l:List (Rat×Rat)):bX (l.map fun e=>(qB e.1,qB e.2))=l:=by
 unfold bX
 rw [List.map_map]
 conv=>rhs;rw [<-List.map_id l]
 refine List.map_congr_left fun x _=> ?_
 show ((qB x.1).q,(qB x.2).q)=x
 rw [xZ,xZ]
theorem all_crr (l:List (Rat×Rat)):(l.map fun e=>(qB e.1,qB e.2)).all fI=true:=by
 rw [List.all_eq_true]
 intro x hx
 obtain ⟨e,_,rfl⟩:=List.mem_map.1 hx
 show ((qB e.1).ok && (qB e.2).ok)=true
 rw [FV,FV];rfl
theorem rul_crr {S F:Rat} {keep:Int} (h0:0≤S) (h1:S≤1) (Cs:0≤keep) (DR:keep≤40):dU (qB S) (qB F) keep=true:=by
 unfold dU
 rw [FV,FV,xZ,decide_eq_true (vw.2 h0),decide_eq_true (lJ.2 h1),decide_eq_true Cs,decide_eq_true DR];rfl
theorem Ca (v u:Value) (S F:Rat) (kn n:Nat) (l:List (Rat×Rat)) (w:World) (hR:gM w v (qB S) (qB F) (kn:Int)) (hl:dp (ue 2) 8 w u (l.map fun e=>(qB e.1,qB e.2))) (hsS:eM S 2) (hsF:eM F 2) (h0:0≤S) (h1:S≤1) (hk:kn≤40) (hn:n≤40) (hlen:l.length≤n) (hS:Lm 3 S) (hF:Lm 3 F) (hL:∀ e∈l,Lm 3 e.1/\Lm 3 e.2) (x:List aL×List Uq) (hx:qq S F kn l=x):
  Calls Tryz.prog 11 #[v,u] w fun o w'=>∃ r u',o=.returned (.tuple #[.agg #[r,u'],.int .i64 0])/\qA w.heap.size w' r u' x/\aM w w':=by
 have hM:=Tj hS hF h0 h1 hL hlen (k:=3) bV
 have:=Nr v u (qB S) (qB F) kn (l.map fun e=>(qB e.1,qB e.2)) 2 (2 * 3 * n + 3 * 3 + 1) _ _ w hR (pY hsS) (pY hsF) hl bV aa aa (rul_crr h0 h1 aa aa) (all_crr l) (by rw [List.length_map];omega) hk (by rw [JJ,xZ,xZ];exact hM)
 rw [JJ,xZ,xZ,hx] at this
 exact this
theorem led_x:qq exS exF 2 [((Rat.divInt 200 1),(Rat.divInt 400 1))]=([⟨(Rat.divInt 120 1),(Rat.divInt 120 1),(Rat.divInt 80 1),(Rat.divInt 0 1),(Rat.divInt 120 1),(Rat.divInt 0 1),(Rat.divInt 80 1)⟩],[]):=by decide +kernel
theorem led_y:qq exS exF 2 [((Rat.divInt 200 1),(Rat.divInt 400 1)),((Rat.divInt 20 1),(Rat.divInt 300 1)),((Rat.divInt (-10) 1),(Rat.divInt 0 1))]=([⟨(Rat.divInt 120 1),(Rat.divInt 120 1),(Rat.divInt 80 1),(Rat.divInt 0 1),(Rat.divInt 120 1),(Rat.divInt 0 1),(Rat.divInt 0 1)⟩,⟨(Rat.divInt 90 1),(Rat.divInt 20 1),(Rat.divInt 0 1),(Rat.divInt 70 1),(Rat.divInt 90 1),(Rat.divInt 0 1),(Rat.divInt 0 1)⟩,⟨(Rat.divInt 50 1),(Rat.divInt (-10) 1),(Rat.divInt 0 1),(Rat.divInt 10 1),(Rat.divInt 0 1),(Rat.divInt 0 1),(Rat.divInt 0 1)⟩],[(0,1,(Rat.divInt 70 1)),(0,2,(Rat.divInt 10 1))]):=by decide +kernel
theorem led_z:qq exS exF 2 [((Rat.divInt 200 1),(Rat.divInt 400 1)),((Rat.divInt 100 1),(Rat.divInt 0 1)),((Rat.divInt 300 1),(Rat.divInt 100 1))]=([⟨(Rat.divInt 120 1),(Rat.divInt 120 1),(Rat.divInt 80 1),(Rat.divInt 0 1),(Rat.divInt 120 1),(Rat.divInt 80 1),(Rat.divInt 0 1)⟩,⟨(Rat.divInt 50 1),(Rat.divInt 50 1),(Rat.divInt 50 1),(Rat.divInt 0 1),(Rat.divInt 50 1),(Rat.divInt 0 1),(Rat.divInt 50 1)⟩,⟨(Rat.divInt 50 1),(Rat.divInt 50 1),(Rat.divInt 250 1),(Rat.divInt 0 1),(Rat.divInt 50 1),(Rat.divInt 0 1),(Rat.divInt 250 1)⟩],[]):=by decide +kernel
def aL.fld (r:aL):Nat->Rat
 | 0=>r.bn
 | 1=>r.allowed
 | 2=>r.aI
 | 3=>r.used
 | 4=>r.ay
 | 5=>r.aq
 | _=>r.closing
theorem Tm {B:Nat} {w:World} {cs:List Value} {r:aL} (h:eB B w cs r) (f:Nat) (hf:f≤6):∃ a pre post,cs=pre++(a++post)/\pre.length=4 * f/\R4 B w a (r.fld f):=by
 obtain ⟨a,b,c,d,e,g,i,rfl,h1,h2,h3,h4,h5,h6,h7⟩:=h
 have l1:=h1.len
 have l2:=h2.len
 have l3:=h3.len
 have l4:=h4.len
 have l5:=h5.len
 have l6:=h6.len
 match f,hf with
 | 0,_=>exact ⟨a,[],_,rfl,rfl,h1⟩
 | 1,_=>exact ⟨b,a,_,rfl,l1,h2⟩
 | 2,_=>exact ⟨c,a++b,_,by rw [List.append_assoc],by simp [l1,l2],h3⟩
 | 3,_=>exact ⟨d,a++(b++c),e++(g++i),by simp only [List.append_assoc],by simp [l1,l2,l3],h4⟩
 | 4,_=>exact ⟨e,a++(b++(c++d)),g++i,by simp only [List.append_assoc],by simp [l1,l2,l3,l4],h5⟩
 | 5,_=>exact ⟨g,a++(b++(c++(d++e))),i,by simp only [List.append_assoc],by simp [l1,l2,l3,l4,l5],h6⟩
 | 6,_=>exact ⟨i,a++(b++(c++(d++(e++g)))),[],by simp only [List.append_assoc,List.append_nil],by simp [l1,l2,l3,l4,l5,l6],h7⟩
theorem JK {α:Type} {E:World->List Value->α->Prop} {sz:Nat} (hE:gE E sz) {t:TypeId} {w:World} {b n c i:Nat} {vs:List (List Value)} {sp:List Value} {es:List α} {x:α} (hc:aZ w b t (vs.flatten++sp).toArray) (h:dL E sz w n 0 c [] vs sp es) (hx:es[i]? =some x):
  ∃ cs,E w cs x/\∀ (pre a post:List Value),cs=pre++(a++post)->∀ off,off=i * sz + pre.length->∀ (j:Nat) (u:Value),a[j]? =some u->w.cell? ((⟨b,off,none⟩:Addr).add j)=some u:=by
 obtain ⟨cs,hcs,Tn⟩:=h.el.at i x hx
 refine ⟨cs,Tn,fun pre a post hsp off hoff j u hj=> ?_⟩
 rw [Addr.add_mid]
 refine hc.cell ?_
 have gJ:cs.length=sz:=hE.len Tn
 have hjl:=(List.getElem?_eq_some_iff.1 hj).1
 obtain ⟨hlt,hxx⟩:=List.getElem?_eq_some_iff.1 hcs
 have CR:vs=vs.take i++cs::vs.drop (i + 1):=by rw [<-hxx,<-List.drop_eq_getElem_cons hlt,List.take_append_drop]
 have hal:(vs.take i).flatten.length=i * sz:=by
  rw [dB (fun y hy=>h.el.lens hE y (List.mem_of_mem_take hy)),List.length_take,Nat.min_eq_left aa]
 rw [List.getElem?_toArray,CR,List.flatten_append,List.append_assoc,List.getElem?_append_right aa,hal,List.flatten_cons,List.append_assoc,hsp,hoff,show i * sz + pre.length + j - i * sz=pre.length + j by omega,List.append_assoc,List.getElem?_append_right aa,Nat.add_sub_cancel_left,List.append_assoc,List.getElem?_append_left hjl]
 exact hj
theorem sj {B:Nat} {w:World} {b n c i:Nat} {vs:List (List Value)} {sp:List Value} {es:List aL} {x:aL} (f:Nat) (hf:f≤6) (hc:aZ w b eh (vs.flatten++sp).toArray) (h:dL (eB B) 28 w n 0 c [] vs sp es) (hx:es[i]? =some x):
  ∃ s p a k t y m d,aH w B (.agg #[.bool s,.slice p a k,.bool t,.slice y m d]) (x.fld f)/\∀ off,off=i * 28 + 4 * f->∀ (j:Nat) (u:Value),([.bool s,.slice p a k,.bool t,.slice y m d]:List Value)[j]? =some u->w.cell? ((⟨b,off,none⟩:Addr).add j)=some u:=by
 obtain ⟨cs,hE,hcs⟩:=JK (aA B) hc h hx
 obtain ⟨a,pre,post,e,hl,s,p,n',c',t,y,m,d,rfl,hq⟩:=Tm hE f hf
 exact ⟨s,p,n',c',t,y,m,d,hq,fun off ho=>hcs pre _ post e off (by rw [hl];exact ho)⟩
theorem Nu {B:Nat} {w:World} {b n c i:Nat} {vs:List (List Value)} {sp:List Value} {es:List Uq} {x:Uq} (hc:aZ w b fm (vs.flatten++sp).toArray) (h:dL (qw B) 6 w n 0 c [] vs sp es) (hx:es[i]? =some x):
  ∃ s p a k t y m d,aH w B (.agg #[.bool s,.slice p a k,.bool t,.slice y m d]) x.2.2/\(∀ off,off=i * 6 + 2->∀ (j:Nat) (u:Value),([.bool s,.slice p a k,.bool t,.slice y m d]:List Value)[j]? =some u->w.cell? ((⟨b,off,none⟩:Addr).add j)=some u)/\
    (∀ off,off=i * 6 + 1->∀ (j:Nat) (u:Value),([.int .i64 (x.2.1:Int)]:List Value)[j]? =some u->w.cell? ((⟨b,off,none⟩:Addr).add j)=some u)/\(∀ off,off=i * 6->∀ (j:Nat) (u:Value),([.int .i64 (x.1:Int)]:List Value)[j]? =some u->w.cell? ((⟨b,off,none⟩:Addr).add j)=some u)/\
    (∀ off,off=i * 6->∀ (j:Nat) (u:Value),([.int .i64 (x.1:Int),.int .i64 (x.2.1:Int),.bool s,.slice p a k,.bool t,.slice y m d]:List Value)[j]? =some u->w.cell? ((⟨b,off,none⟩:Addr).add j)=some u):=by
 obtain ⟨cs,hE,hcs⟩:=JK (dR B) hc h hx
 obtain ⟨s,p,n',c',t,y,m,d,rfl,hq⟩:=hE
 exact ⟨s,p,n',c',t,y,m,d,hq,fun off ho=>hcs [.int .i64 (x.1:Int),.int .i64 (x.2.1:Int)] _ [] rfl off ho,fun off ho=>hcs [.int .i64 (x.1:Int)] [.int .i64 (x.2.1:Int)] [.bool s,.slice p n' c',.bool t,.slice y m d] rfl off ho,fun off ho=>hcs [] [.int .i64 (x.1:Int)] [.int .i64 (x.2.1:Int),.bool s,.slice p n' c',.bool t,.slice y m d] rfl off ho,fun off ho=>hcs [] _ [] rfl off ho⟩
set_option maxRecDepth 4000
theorem cY {P Q:Prop} (h:Q) (i:Q->P:=by intro h;(repeat first|refine wN ?_|refine wP rfl ?_|refine cxL_r rfl ?_|refine cxL_d rfl ?_|refine wO rfl rfl ?_);exact h):P:=i h
set_option maxRecDepth 4000 in
theorem rM (w:World):Calls Tryz.prog 9 #[] w fun o w'=>o=.returned (.bool true)/\aM w w':=by
 have hsS:eM exS 2:=Fy bV bV bV bV
 have hsF:eM exF 2:=Fy bV bV bV bV
 have hS3:Lm 3 exS:=by unfold Lm;decide +kernel
 have hF3:Lm 3 exF:=by unfold Lm;decide +kernel
 refine ah (C:=CA Tryz.prog w _) (args:=[]) Tryz.func9 rfl Tryz.ntmps9 (bB rfl) ?_
 refine cY ?_
 refine VO.call rfl rfl (fk Tryz.func33) (fun bF cU bJ=>(nW bF).mono ?_)
 rintro e w1 ⟨r1,rfl,q1,aK⟩
 skip
 refine ⟨_,rfl,aK,fun dC _ bb1=>wV rfl ?_⟩
 refine cY ?_
 refine VO.call rfl rfl (fk Tryz.func32) (fun cK eg di=>(jo 200 400 cK aa aa aa aa).mono ?_)
 rintro e w2 ⟨r2,rfl,⟨s2,p2,n2,c2,t2,y2,m2,d2,e2,f2,g2,h2,i2,j2,k2,l2,rfl,q2⟩,ba⟩
 skip
 refine ⟨_,rfl,ba,fun ed _ bb2=>wV rfl ?_⟩
 refine cY ?_
 refine VO.eK rfl (fk Tryz.func11) (fun fh β fE fG ho=>((Ca _ _ exS exF 2 1 [((Rat.divInt 200 1),(Rat.divInt 400 1))] fh (q1.kp kL) (lL (dM 2) (ho.own 11 (.base (List.mem_singleton.2 rfl)) _ _ rfl) [] (vs:=[[.bool s2,.slice p2 n2 c2,.bool t2,.slice y2 m2 d2,.bool e2,.slice f2 g2 h2,.bool i2,.slice j2 k2 l2]]) (by rfl) (ck.cons ((dM 2).kp q2 kL) (ck.nil)) rfl (bB rfl) bV) hsS hsF (by decide +kernel) (by decide +kernel) bV bV bV hS3 hF3 (by decide +kernel) _ led_x).mono (fun o w2 h=>And.intro h fG.size)).mono ?_)
 rintro o w3 ⟨⟨r3,u3,rfl,l3,cG⟩,CV⟩
 obtain ⟨pr3,cr3,pu3,cu3,rfl,rfl⟩:=l3.form
 refine ⟨_,rfl,cG,fun gT _ bb3=>wV rfl ?_⟩
 refine cY ?_
 refine VO.call rfl rfl (fk Tryz.func33) (fun iP jT jX=>(nW iP).mono ?_)
 rintro e w4 ⟨r4,rfl,q4,eV⟩
 skip
 refine ⟨_,rfl,eV,fun lh _ sT=>wV rfl ?_⟩
 refine cY ?_
 refine VO.call rfl rfl (fk Tryz.func32) (fun gf jl gD=>(jo 200 400 gf aa aa aa aa).mono ?_)
 rintro e w5 ⟨r5,rfl,⟨s5,p5,n5,c5,t5,y5,m5,d5,e5,f5,g5,h5,i5,j5,k5,l5,rfl,q5⟩,eE⟩
 skip
 refine ⟨_,rfl,eE,fun jy _ qi=>wV rfl ?_⟩
 refine cY ?_
 refine VO.call rfl rfl (fk Tryz.func32) (fun gj kx iz=>(jo 20 300 gj aa aa aa aa).mono ?_)
 rintro e w6 ⟨r6,rfl,⟨s6,p6,n6,c6,t6,y6,m6,d6,e6,f6,g6,h6,i6,j6,k6,l6,rfl,q6⟩,fx⟩
 skip
 refine ⟨_,rfl,fx,fun jz _ oX=>wV rfl ?_⟩
 refine cY ?_
 refine VO.call rfl rfl (fk Tryz.func32) (fun mz qj lZ=>(jo (-10) 0 mz aa aa aa aa).mono ?_)
 rintro e w7 ⟨r7,rfl,⟨s7,p7,n7,c7,t7,y7,m7,d7,e7,f7,g7,h7,i7,j7,k7,l7,rfl,q7⟩,lC⟩
 skip
 refine ⟨_,rfl,lC,fun oC _ Bx=>wV rfl ?_⟩
 refine cY ?_
 refine VO.eK rfl (fk Tryz.func11) (fun sB β CP vo ho=>((Ca _ _ exS exF 2 3 [((Rat.divInt 200 1),(Rat.divInt 400 1)),((Rat.divInt 20 1),(Rat.divInt 300 1)),((Rat.divInt (-10) 1),(Rat.divInt 0 1))] sB (q4.kp kL) (lL (dM 2) (ho.own 20 (.base (List.mem_singleton.2 rfl)) _ _ rfl) [] (vs:=[[.bool s5,.slice p5 n5 c5,.bool t5,.slice y5 m5 d5,.bool e5,.slice f5 g5 h5,.bool i5,.slice j5 k5 l5],[.bool s6,.slice p6 n6 c6,.bool t6,.slice y6 m6 d6,.bool e6,.slice f6 g6 h6,.bool i6,.slice j6 k6 l6],[.bool s7,.slice p7 n7 c7,.bool t7,.slice y7 m7 d7,.bool e7,.slice f7 g7 h7,.bool i7,.slice j7 k7 l7]]) (by rfl) (ck.cons ((dM 2).kp q5 kL) (ck.cons ((dM 2).kp q6 kL) (ck.cons ((dM 2).kp q7 kL) (ck.nil)))) rfl (bB rfl) bV) hsS hsF (by decide +kernel) (by decide +kernel) bV bV bV hS3 hF3 (by decide +kernel) _ led_y).mono (fun o w2 h=>And.intro h vo.size)).mono ?_)
 rintro o w8 ⟨⟨r8,u8,rfl,l8,qe⟩,CY⟩
 obtain ⟨pr8,cr8,pu8,cu8,rfl,rfl⟩:=l8.form
 refine ⟨_,rfl,qe,fun sC _ Kk=>wV rfl ?_⟩
 refine cY ?_
 refine VO.call rfl rfl (fk Tryz.func33) (fun wa9 ka9 ba9=>(nW wa9).mono ?_)
 rintro e w9 ⟨r9,rfl,q9,Qi⟩
 skip
 refine ⟨_,rfl,Qi,fun Jd _ bb9=>wV rfl ?_⟩
 refine cY ?_
 refine VO.call rfl rfl (fk Tryz.func32) (fun tK yr Lp=>(jo 200 400 tK aa aa aa aa).mono ?_)
 rintro e w10 ⟨r10,rfl,⟨s10,p10,n10,c10,t10,y10,m10,d10,e10,f10,g10,h10,i10,j10,Pq,l10,rfl,q10⟩,tL⟩
 skip
 refine ⟨_,rfl,tL,fun jN _ Lq=>wV rfl ?_⟩
 refine cY ?_
 refine VO.call rfl rfl (fk Tryz.func32) (fun Fq Je ba11=>(jo 100 0 Fq aa aa aa aa).mono ?_)
 rintro e w11 ⟨r11,rfl,⟨s11,p11,n11,c11,t11,y11,m11,d11,e11,f11,g11,h11,i11,j11,k11,l11,rfl,q11⟩,Fs⟩
 skip
 refine ⟨_,rfl,Fs,fun oD _ bb11=>wV rfl ?_⟩
 refine cY ?_
 refine VO.call rfl rfl (fk Tryz.func32) (fun Ft Jf ba12=>(jo 300 100 Ft aa aa aa aa).mono ?_)
 rintro e w12 ⟨r12,rfl,⟨s12,p12,n12,c12,t12,y12,m12,d12,e12,f12,g12,Ed,i12,j12,k12,l12,rfl,q12⟩,Fu⟩
 skip
 refine ⟨_,rfl,Fu,fun sD _ bb12=>wV rfl ?_⟩
 refine cY ?_
 refine VO.eK rfl (fk Tryz.func11) (fun Se β ka13 ba13 ho=>((Ca _ _ exS exF 2 3 [((Rat.divInt 200 1),(Rat.divInt 400 1)),((Rat.divInt 100 1),(Rat.divInt 0 1)),((Rat.divInt 300 1),(Rat.divInt 100 1))] Se (q9.kp kL) (lL (dM 2) (ho.own 29 (.base (List.mem_singleton.2 rfl)) _ _ rfl) [] (vs:=[[.bool s10,.slice p10 n10 c10,.bool t10,.slice y10 m10 d10,.bool e10,.slice f10 g10 h10,.bool i10,.slice j10 Pq l10],[.bool s11,.slice p11 n11 c11,.bool t11,.slice y11 m11 d11,.bool e11,.slice f11 g11 h11,.bool i11,.slice j11 k11 l11],[.bool s12,.slice p12 n12 c12,.bool t12,.slice y12 m12 d12,.bool e12,.slice f12 g12 Ed,.bool i12,.slice j12 k12 l12]]) (by rfl) (ck.cons ((dM 2).kp q10 kL) (ck.cons ((dM 2).kp q11 kL) (ck.cons ((dM 2).kp q12 kL) (ck.nil)))) rfl (bB rfl) bV) hsS hsF (by decide +kernel) (by decide +kernel) bV bV bV hS3 hF3 (by decide +kernel) _ led_z).mono (fun o w2 h=>And.intro h ba13.size)).mono ?_)
 rintro o rB ⟨⟨r13,u13,rfl,l13,Sf⟩,hsz13⟩
 obtain ⟨pr13,cr13,pu13,cu13,rfl,rfl⟩:=l13.form
 refine ⟨_,rfl,Sf,fun CQ _ bb13=>wV rfl ?_⟩
 (repeat (first | refine wN ?_ | refine wP rfl ?_ | refine wO rfl rfl ?_))
 refine VS.vO (KU UU) (fun t=>Nat.beq t 22) table (fun _ _ _=>trivial) (fun Nc β k14 b14 en=> ?_)
 have o1:=en.own 1 _ _ rfl
 have o3:=en.own 3 _ _ rfl
 have o5:=en.own 5 _ _ rfl
 have h13:β 1≠β 3:=fun e=>absurd (en.apart 1 3 (by intro h;cases h) (by intro h;cases h) e) bV
 have h15:β 1≠β 5:=fun e=>absurd (en.apart 1 5 (by intro h;cases h) (by intro h;cases h) e) bV
 have h35:β 3≠β 5:=fun e=>absurd (en.apart 3 5 (by intro h;cases h) (by intro h;cases h) e) bV
 have kk3:bt (CA Tryz.prog w 161).K w3 Nc:=((((((((((lh).aF jy).aF jz).aF oC).aF sC).aF Jd).aF jN).aF oD).aF sD).aF CQ).aF k14
 have l3':=l3.kpF (nT w 161) kk3 kk3.nH
 have kk8:bt (CA Tryz.prog w 161).K w8 Nc:=(((((Jd).aF jN).aF oD).aF sD).aF CQ).aF k14
 have l8':=l8.kpF (nT w 161) kk8 kk8.nH
 have kk13:bt (CA Tryz.prog w 161).K rB Nc:=k14
 have l13':=l13.kpF (nT w 161) kk13 kk13.nH
 have sG:jZ (KU UU) 161 [β 1,β 3,β 5] [(oP,[.val (.slice pr3 1 cr3),.val (.slice pu3 0 cu3)]),(oP,[.val (.slice pr8 3 cr8),.val (.slice pu8 2 cu8)]),(oP,[.val (.slice pr13 3 cr13),.val (.slice pu13 0 cu13)])] Nc:=by
  refine ⟨rfl,by simp [h13,h15,h35],fun j g' c' hj hc=> ?_,fun c' hc=> ?_,fun c' hc k hk=> ?_⟩
  ·match j,hj,hc with
   | 0,hj,hc=>cases hj;cases hc;exact o1.cls
   | 1,hj,hc=>cases hj;cases hc;exact o3.cls
   | 2,hj,hc=>cases hj;cases hc;exact o5.cls
   | j + 3,hj,_=>simp at hj
  ·simp only [List.mem_cons,List.not_mem_nil,or_false] at hc
   rcases hc with rfl | rfl | rfl <;> exact ⟨rfl,rfl⟩
  ·simp only [List.mem_cons,List.not_mem_nil,or_false] at hc
   rcases hc with rfl | rfl | rfl <;> cases hk
 have g1:=o1.cls
 have g3:=o3.cls
 have g5:=o5.cls
 refine ⟨[β 1,β 3,β 5],_,sG,[(0,.val (.bool false)),(1,.box 322 0),(2,.val (.int .i64 0)),(3,.box 323 0),(4,.val (.int .i64 0)),(5,.box 324 0),(6,.val (.int .i64 0))],⟨⟨_,rfl,rfl,fun i hi=>(by cases hi)⟩,⟨_,rfl,rfl,fun i hi=>by rw [(by simpa [AV.ids] using hi:i=322)];exact ⟨(by show 322≤322;omega),(by show 322 < 2 * 161 + 3;omega)⟩⟩,⟨_,rfl,rfl,fun i hi=>(by cases hi)⟩,⟨_,rfl,rfl,fun i hi=>by rw [(by simpa [AV.ids] using hi:i=323)];exact ⟨(by show 322≤323;omega),(by show 323 < 2 * 161 + 3;omega)⟩⟩,⟨_,rfl,rfl,fun i hi=>(by cases hi)⟩,⟨_,rfl,rfl,fun i hi=>by rw [(by simpa [AV.ids] using hi:i=324)];exact ⟨(by show 322≤324;omega),(by show 324 < 2 * 161 + 3;omega)⟩⟩,⟨_,rfl,rfl,fun i hi=>(by cases hi)⟩,trivial⟩,?_⟩
 obtain ⟨rb3,hB3,nn3,cc3,Nn,Np,e3',yy,hor3⟩:=l3'.1.resolve_left (fun h=>by cases h.2)
 simp only [Value.slice.injEq] at e3'
 obtain ⟨rfl,rfl,rfl⟩:=e3'
 obtain ⟨rb13,hB13,nn13,cc13,vs13,sp13,e13',qm,Tp⟩:=l13'.1.resolve_left (fun h=>by cases h.2)
 simp only [Value.slice.injEq] at e13'
 obtain ⟨rfl,rfl,rfl⟩:=e13'
 obtain ⟨rb8,hB8,nn8,cc8,vs8,sp8,e8',yz,hor8⟩:=l8'.2.resolve_left (fun h=>by cases h.2)
 simp only [Value.slice.injEq] at e8'
 obtain ⟨rfl,rfl,rfl⟩:=e8'
 have hn3:rb3∉[β 1,β 3,β 5]:=fun hm=>by
  simp only [List.mem_cons,List.not_mem_nil,or_false] at hm
  rcases hm with h | h | h
  ·rw [h] at yy;exact absurd (bM yy g1) bV
  ·rw [h] at yy;exact absurd (bM yy g3) bV
  ·rw [h] at yy;exact absurd (bM yy g5) bV
 have hn8:rb8∉[β 1,β 3,β 5]:=fun hm=>by
  simp only [List.mem_cons,List.not_mem_nil,or_false] at hm
  rcases hm with h | h | h
  ·rw [h] at yz;exact absurd (bM yz g1) bV
  ·rw [h] at yz;exact absurd (bM yz g3) bV
  ·rw [h] at yz;exact absurd (bM yz g5) bV
 have hn13:rb13∉[β 1,β 3,β 5]:=fun hm=>by
  simp only [List.mem_cons,List.not_mem_nil,or_false] at hm
  rcases hm with h | h | h
  ·rw [h] at qm;exact absurd (bM qm g1) bV
  ·rw [h] at qm;exact absurd (bM qm g3) bV
  ·rw [h] at qm;exact absurd (bM qm g5) bV
 obtain ⟨s20,p20,n20,c20,t20,y20,m20,d20,hq20,hc20⟩:=sj 0 bV yy hor3 (i:=0) rfl
 obtain ⟨s21,p21,n21,c21,t21,y21,m21,d21,hq21,hc21⟩:=sj 2 bV yy hor3 (i:=0) rfl
 obtain ⟨s22,p22,n22,c22,t22,y22,m22,d22,hq22,hc22⟩:=sj 6 bV yy hor3 (i:=0) rfl
 obtain ⟨s25,p25,n25,c25,t25,y25,m25,d25,hq25,hc25⟩:=sj 5 bV qm Tp (i:=0) rfl
 obtain ⟨s26,p26,n26,c26,t26,y26,m26,d26,hq26,hc26⟩:=sj 6 bV qm Tp (i:=1) rfl
 obtain ⟨s27,p27,n27,c27,t27,y27,m27,d27,hq27,hc27⟩:=sj 6 bV qm Tp (i:=2) rfl
 obtain ⟨PA,PB,PC,PD,t23,PE,PF,d23,hq23,hc23,hy23,-⟩:=Nu yz hor8 (i:=0) rfl
 obtain ⟨s24,p24,n24,c24,t24,y24,m24,d24,hq24,hc24,hy24,-⟩:=Nu yz hor8 (i:=1) rfl
 refine af ?_
 refine VO.cond rfl ⟨by decide,by decide⟩ (wV rfl ?_)
 refine af ?_
 refine VO.gB rfl [.bool s20,.slice p20 n20 c20,.bool t20,.slice y20 m20 d20] rfl (ql yy.lt hn3 (hc20 _ rfl)) (wV rfl ?_)
 refine af ?_
 refine VO.call rfl rfl (fk Tryz.func31) (fun wa40 ka40 ba40=>(eW 120 1 wa40 aa aa aa aa).mono ?_)
 rintro e w40 ⟨r40,rfl,q40,hb40⟩
 obtain ⟨s40,p40,n40,c40,t40,y40,m40,d40,rfl⟩:=q40.form
 refine ⟨_,rfl,hb40,fun kb40 _ bb40=>wV rfl ?_⟩
 refine af ?_
 refine VO.call rfl rfl (fk Tryz.func12) (fun LS ka41 FX=>(iq _ _ (Rat.divInt 120 1) (Rat.divInt 120 1) 2 2 LS ((show aH Nc _ _ (Rat.divInt 120 1) from hq20).ki (qC 120 aa aa)) (q40.ki (qC 120 aa aa)) aa aa 0 (lK rfl)).mono ?_)
 rintro e w41 ⟨rfl,LU⟩
 refine ⟨_,rfl,LU,fun kb41 _ bb41=>wV rfl ?_⟩
 refine af ?_
 refine VO.cond rfl ⟨by decide,by decide⟩ (wV rfl ?_)
 refine af ?_
 refine VO.gB rfl [.bool s21,.slice p21 n21 c21,.bool t21,.slice y21 m21 d21] rfl (ql yy.lt hn3 (hc21 _ rfl)) (wV rfl ?_)
 refine af ?_
 refine VO.call rfl rfl (fk Tryz.func31) (fun wa42 ka42 ba42=>(eW 80 1 wa42 aa aa aa aa).mono ?_)
 rintro e w42 ⟨r42,rfl,q42,hb42⟩
 obtain ⟨s42,p42,n42,c42,t42,y42,m42,d42,rfl⟩:=q42.form
 refine ⟨_,rfl,hb42,fun kb42 _ bb42=>wV rfl ?_⟩
 refine af ?_
 refine VO.call rfl rfl (fk Tryz.func12) (fun wa43 ka43 ba43=>(iq _ _ (Rat.divInt 80 1) (Rat.divInt 80 1) 2 2 wa43 ((show aH Nc _ _ (Rat.divInt 80 1) from hq21).ki (qC 80 aa aa)) (q42.ki (qC 80 aa aa)) aa aa 0 (lK rfl)).mono ?_)
 rintro e w43 ⟨rfl,hb43⟩
 refine ⟨_,rfl,hb43,fun kb43 _ bb43=>wV rfl ?_⟩
 refine af ?_
 refine VO.cond rfl ⟨by decide,by decide⟩ (wV rfl ?_)
 refine af ?_
 refine VO.gB rfl [.bool s22,.slice p22 n22 c22,.bool t22,.slice y22 m22 d22] rfl (ql yy.lt hn3 (hc22 _ rfl)) (wV rfl ?_)
 refine af ?_
 refine VO.call rfl rfl (fk Tryz.func31) (fun wa44 ka44 ba44=>(eW 80 1 wa44 aa aa aa aa).mono ?_)
 rintro e w44 ⟨r44,rfl,q44,hb44⟩
 obtain ⟨s44,p44,n44,c44,t44,y44,m44,d44,rfl⟩:=q44.form
 refine ⟨_,rfl,hb44,fun kb44 _ bb44=>wV rfl ?_⟩
 refine af ?_
 refine VO.call rfl rfl (fk Tryz.func12) (fun wa45 ka45 ba45=>(iq _ _ (Rat.divInt 80 1) (Rat.divInt 80 1) 2 2 wa45 ((show aH Nc _ _ (Rat.divInt 80 1) from hq22).ki (qC 80 aa aa)) (q44.ki (qC 80 aa aa)) aa aa 0 (lK rfl)).mono ?_)
 rintro e w45 ⟨rfl,hb45⟩
 refine ⟨_,rfl,hb45,fun kb45 _ bb45=>wV rfl ?_⟩
 refine af ?_
 refine VO.cond rfl ⟨by decide,by decide⟩ (wV rfl ?_)
 refine af ?_
 refine VO.gB rfl [.bool PA,.slice PB PC PD,.bool t23,.slice PE PF d23] rfl (ql yz.lt hn8 (hc23 _ rfl)) (wV rfl ?_)
 refine af ?_
 refine VO.call rfl rfl (fk Tryz.func31) (fun wa46 ka46 ba46=>(eW 70 1 wa46 aa aa aa aa).mono ?_)
 rintro e w46 ⟨r46,rfl,q46,hb46⟩
 obtain ⟨s46,p46,n46,c46,t46,y46,m46,d46,rfl⟩:=q46.form
 refine ⟨_,rfl,hb46,fun kb46 _ bb46=>wV rfl ?_⟩
 refine af ?_
 refine VO.call rfl rfl (fk Tryz.func12) (fun wa47 ka47 ba47=>(iq _ _ (Rat.divInt 70 1) (Rat.divInt 70 1) 2 2 wa47 ((show aH Nc _ _ (Rat.divInt 70 1) from hq23).ki (qC 70 aa aa)) (q46.ki (qC 70 aa aa)) aa aa 0 (lK rfl)).mono ?_)
 rintro e w47 ⟨rfl,hb47⟩
 refine ⟨_,rfl,hb47,fun kb47 _ bb47=>wV rfl ?_⟩
 refine af ?_
 refine VO.cond rfl ⟨by decide,by decide⟩ (wV rfl ?_)
 refine af ?_
 refine VO.gB rfl [.int .i64 ((1:Nat):Int)] rfl (ql yz.lt hn8 (hy23 _ rfl)) (wV rfl ?_)
 refine af ?_
 refine VO.cond rfl ⟨by decide,by decide⟩ (wV rfl ?_)
 refine af ?_
 refine VO.gB rfl [.bool s24,.slice p24 n24 c24,.bool t24,.slice y24 m24 d24] rfl (ql yz.lt hn8 (hc24 _ rfl)) (wV rfl ?_)
 refine af ?_
 refine VO.call rfl rfl (fk Tryz.func31) (fun wa48 ka48 ba48=>(eW 10 1 wa48 aa aa aa aa).mono ?_)
 rintro e w48 ⟨r48,rfl,q48,hb48⟩
 obtain ⟨s48,p48,n48,c48,t48,y48,m48,d48,rfl⟩:=q48.form
 refine ⟨_,rfl,hb48,fun kb48 _ bb48=>wV rfl ?_⟩
 refine af ?_
 refine VO.call rfl rfl (fk Tryz.func12) (fun wa49 ka49 ba49=>(iq _ _ (Rat.divInt 10 1) (Rat.divInt 10 1) 2 2 wa49 ((show aH Nc _ _ (Rat.divInt 10 1) from hq24).ki (qC 10 aa aa)) (q48.ki (qC 10 aa aa)) aa aa 0 (lK rfl)).mono ?_)
 rintro e w49 ⟨rfl,hb49⟩
 refine ⟨_,rfl,hb49,fun kb49 _ bb49=>wV rfl ?_⟩
 refine af ?_
 refine VO.cond rfl ⟨by decide,by decide⟩ (wV rfl ?_)
 refine af ?_
 refine VO.gB rfl [.int .i64 ((2:Nat):Int)] rfl (ql yz.lt hn8 (hy24 _ rfl)) (wV rfl ?_)
 refine af ?_
 refine VO.cond rfl ⟨by decide,by decide⟩ (wV rfl ?_)
 refine af ?_
 refine VO.gB rfl [.bool s25,.slice p25 n25 c25,.bool t25,.slice y25 m25 d25] rfl (ql qm.lt hn13 (hc25 _ rfl)) (wV rfl ?_)
 refine af ?_
 refine VO.call rfl rfl (fk Tryz.func31) (fun wa50 ka50 ba50=>(eW 80 1 wa50 aa aa aa aa).mono ?_)
 rintro e w50 ⟨r50,rfl,q50,hb50⟩
 obtain ⟨s50,p50,n50,c50,t50,y50,m50,d50,rfl⟩:=q50.form
 refine ⟨_,rfl,hb50,fun kb50 _ bb50=>wV rfl ?_⟩
 refine af ?_
 refine VO.call rfl rfl (fk Tryz.func12) (fun wa51 ka51 ba51=>(iq _ _ (Rat.divInt 80 1) (Rat.divInt 80 1) 2 2 wa51 ((show aH Nc _ _ (Rat.divInt 80 1) from hq25).ki (qC 80 aa aa)) (q50.ki (qC 80 aa aa)) aa aa 0 (lK rfl)).mono ?_)
 rintro e w51 ⟨rfl,hb51⟩
 refine ⟨_,rfl,hb51,fun kb51 _ bb51=>wV rfl ?_⟩
 refine af ?_
 refine VO.cond rfl ⟨by decide,by decide⟩ (wV rfl ?_)
 refine af ?_
 refine VO.gB rfl [.bool s26,.slice p26 n26 c26,.bool t26,.slice y26 m26 d26] rfl (ql qm.lt hn13 (hc26 _ rfl)) (wV rfl ?_)
 refine af ?_
 refine VO.call rfl rfl (fk Tryz.func31) (fun wa52 ka52 ba52=>(eW 50 1 wa52 aa aa aa aa).mono ?_)
 rintro e w52 ⟨r52,rfl,q52,hb52⟩
 obtain ⟨s52,p52,n52,c52,t52,y52,m52,d52,rfl⟩:=q52.form
 refine ⟨_,rfl,hb52,fun kb52 _ bb52=>wV rfl ?_⟩
 refine af ?_
 refine VO.call rfl rfl (fk Tryz.func12) (fun wa53 ka53 ba53=>(iq _ _ (Rat.divInt 50 1) (Rat.divInt 50 1) 2 2 wa53 ((show aH Nc _ _ (Rat.divInt 50 1) from hq26).ki (qC 50 aa aa)) (q52.ki (qC 50 aa aa)) aa aa 0 (lK rfl)).mono ?_)
 rintro e w53 ⟨rfl,hb53⟩
 refine ⟨_,rfl,hb53,fun kb53 _ bb53=>wV rfl ?_⟩
 refine af ?_
 refine VO.cond rfl ⟨by decide,by decide⟩ (wV rfl ?_)
 refine af ?_
 refine VO.gB rfl [.bool s27,.slice p27 n27 c27,.bool t27,.slice y27 m27 d27] rfl (ql qm.lt hn13 (hc27 _ rfl)) (wV rfl ?_)
 refine af ?_
 refine VO.call rfl rfl (fk Tryz.func31) (fun wa54 ka54 ba54=>(eW 250 1 wa54 aa aa aa aa).mono ?_)
 rintro e w54 ⟨r54,rfl,q54,hb54⟩
 obtain ⟨s54,p54,n54,c54,t54,y54,m54,d54,rfl⟩:=q54.form
 refine ⟨_,rfl,hb54,fun kb54 _ bb54=>wV rfl ?_⟩
 refine af ?_
 refine VO.call rfl rfl (fk Tryz.func12) (fun wa55 ka55 ba55=>(iq _ _ (Rat.divInt 250 1) (Rat.divInt 250 1) 2 2 wa55 ((show aH Nc _ _ (Rat.divInt 250 1) from hq27).ki (qC 250 aa aa)) (q54.ki (qC 250 aa aa)) aa aa 0 (lK rfl)).mono ?_)
 rintro e w55 ⟨rfl,hb55⟩
 refine ⟨_,rfl,hb55,fun kb55 _ bb55=>wV rfl ?_⟩
 refine af ?_
 refine VS.lz (bE _ _) rfl (fun wz βz kz oz enz=> ?_)
 refine ⟨rfl,tB.bC b14 oz.1 (fun x hx=> ?_)⟩
 simp only [List.mem_cons,List.not_mem_nil,or_false] at hx
 rcases hx with rfl | rfl | rfl
 ·exact o1.new
 ·exact o3.new
 ·exact o5.new
set_option maxRecDepth 4000
def RrE (_:World) (cs:List Value) (e:RR):Prop:=∃ p c r d,cs=[.bool e.1,.slice p e.2.1.length c,.bool e.2.2.1,.slice r e.2.2.2.length d]
theorem lF:gE RrE 4 where
 kp:=fun h _=>h
 len:=fun h=>by obtain ⟨p,c,r,d,rfl⟩:=h;rfl
 ok:=fun h=>by obtain ⟨p,c,r,d,rfl⟩:=h;rfl
def fl (l:List (RR×RR)):List RR:=l.flatMap fun e=>[e.1,e.2]
theorem rN (l:List (RR×RR)):(fl l).length=2 * l.length:=by
 induction l with
 | nil=>rfl
 | cons e r ih=>show (e.1::e.2::fl r).length=_;simp [ih];omega
theorem Af {l:List (RR×RR)} {z:Nat} {e:RR×RR} (h:l[z]? =some e):fl (l.take (z + 1))=fl (l.take z)++[e.1,e.2]:=by
 rw [cD h]
 unfold fl
 rw [List.flatMap_append]
 rfl
def GK (x:RR):Bool:=decide (x.2.1.length≤3) && decide (x.2.2.2.length≤3)
theorem Nv {X:List RR} {z:Nat} {e:RR} (he:X[z]? =some e) (h:GK e=false):X.all GK=false:=by
 cases h':X.all GK with
 | false=>rfl
 | true=>rw [List.all_eq_true.1 h' e (List.mem_of_getElem? he)] at h;cases h
theorem Tq {l:List RR} {z:Nat} {e:RR} (he:l[z]? =some e) (h:(l.take z).all GK=true) (hw:GK e=true):(l.take (z + 1)).all GK=true:=by
 rw [cD he,List.all_append,h];simp [hw]
theorem aN {w:World} {b off i sz:Nat} {cs:List Value} (hc:∀ (j:Nat) (u:Value),cs[j]? =some u->w.cell? ⟨b,off + i * sz + j,none⟩=some u) (k:Nat) (ds:List Value) (hd:ds <+:cs.drop k):∀ (j:Nat) (u:Value),ds[j]? =some u->w.cell? ((⟨b,off + ((i:Nat):Int).toNat * sz + k,none⟩:Addr).add j)=some u:=by
 intro j u hj
 obtain ⟨t,ht⟩:=hd
 rw [Addr.add_mid,Int.toNat_natCast,Nat.add_assoc]
 refine hc (k + j) u ?_
 rw [<-List.getElem?_drop,<-ht,List.getElem?_append_left (List.getElem?_eq_some_iff.1 hj).1]
 exact hj
set_option maxRecDepth 4000 in
theorem PG (v:Value) (xs:List RR) (w:World) (hx:dp RrE 4 w v xs):
  Calls Tryz.prog 26 #[v] w fun o w'=>o=.returned (.bool (xs.all GK))/\aM w w':=by
 obtain ⟨q,c,rfl,fM,gg⟩:=hx.form
 obtain ⟨n,hn⟩:∃ n,n=xs.length:=⟨_,rfl⟩
 rw [<-hn] at hx fM
 rw [<-hn]
 refine ah (C:=bS Tryz.prog w _) (args:=[_]) Tryz.func26 rfl Tryz.ntmps26 (bB rfl) ?_
 refine ab ?_
 refine VS.loop (J:=fun m L M w'=>∃ z:Nat,z≤n/\m=n - z/\L=[(0,.val (.slice q n c)),(3,.val (.int .i64 (z:Int)))]/\M=[]/\(xs.take z).all GK=true) n ⟨_,_,?_,?_,?_,?_,⟨0,by omega,rfl,rfl,rfl,rfl⟩⟩ ?_
 ·exact ⟨rfl,rfl,trivial⟩
 ·exact bT
 ·rfl
 ·exact ic
 rintro m L M w9 ⟨z,hz,rfl,rfl,rfl,gN⟩
 refine ab ?_
 by_cases jg:z < n
 ·obtain ⟨e,he⟩:∃ e,xs[z]? =some e:=⟨_,List.getElem?_eq_getElem aa⟩
  obtain ⟨b,off,eQ,fN,hc,⟨ap,ac,ar,ad,rfl⟩⟩:=hx.at he
  subst fN
  refine VS.aP rfl (decide_eq_true (Int.ofNat_lt.2 jg)) ?_
  refine ab ?_
  refine VO.cond rfl du ?_
  refine wV rfl ?_
  refine ab ?_
  refine VO.read rfl [.slice ap e.2.1.length ac] rfl (aN hc 1 _ ⟨_,rfl⟩) (wV rfl ?_)
  refine ab ?_
  by_cases h1:e.2.1.length≤3
  ·refine VO.fix 18 rfl (congrArg (fun b=>AV.val (.bool b)) (decide_eq_false (show ¬ (e.2.1.length:Int) > 3 by omega))) ?_
   refine ab ?_
   refine VO.cond rfl du ?_
   refine wV rfl ?_
   refine ab ?_
   refine VO.read rfl [.slice ar e.2.2.2.length ad] rfl (aN hc 3 _ ⟨[],rfl⟩) (wV rfl ?_)
   refine ab ?_
   by_cases h2:e.2.2.2.length≤3
   ·have hs:GK e=true:=by unfold GK;rw [decide_eq_true h1,decide_eq_true h2];rfl
    refine VS.aQ rfl (decide_eq_false (show ¬ (e.2.2.2.length:Int) > 3 by omega)) ?_
    refine ab ?_
    refine VS.back (n - (z + 1)) aa ⟨_,_,?_,?_,?_,?_,⟨z + 1,by omega,rfl,rfl,rfl,Tq he gN hs⟩⟩
    ·refine ⟨rfl,?_,trivial⟩
     rw [<-aE (i:=z) aa];rfl
    ·exact bT
    ·rfl
    ·exact ic
   ·have hs:GK e=false:=by unfold GK;rw [decide_eq_false h2,Bool.and_false]
    refine VS.aP rfl (decide_eq_true (show (e.2.2.2.length:Int) > 3 by omega)) ?_
    refine ab ?_
    refine aY ?_;intro wz kz bz
    exact ⟨by rw [Nv he hs];rfl,bz⟩
  ·have hs:GK e=false:=by unfold GK;rw [decide_eq_false h1,Bool.false_and]
   refine VO.fix 18 rfl (congrArg (fun b=>AV.val (.bool b)) (decide_eq_true (show (e.2.1.length:Int) > 3 by omega))) ?_
   refine ab ?_
   refine aY ?_;intro wz kz bz
   exact ⟨by rw [Nv he hs];rfl,bz⟩
 ·refine VS.aQ rfl (decide_eq_false (fun e=>jg (Int.ofNat_lt.1 e))) ?_
  refine ab ?_
  refine aY ?_;intro wz kz bz
  rw [List.take_of_length_le aa] at gN
  exact ⟨by rw [gN];rfl,bz⟩
theorem vQ (v:Value) (xs:List RR) (w:World) (hx:dp RrE 4 w v xs) (b:Bool) (hb:xs.all GK=b):
 Calls Tryz.prog 26 #[v] w fun o w'=>o=.returned (.bool b)/\aM w w':=hb▸PG v xs w hx
def ya (n:Nat):Bool:=decide (n≤12) || (decide (40 < n) && decide (n≤60))
def nv (S F:RR) (l:List (RR×RR)):Bool:=ya l.length && (S::F::fl l).all GK
set_option maxRecDepth 4000 in
theorem PH (v u:Value) (S F:RR) (keep:Int) (l:List (RR×RR)) (kk:Nat) (w:World) (hR:gM w v S F keep) (hv:dp (ue kk) 8 w u l):
  Calls Tryz.prog 8 #[v,u] w fun o w'=>o=.returned (.bool (nv S F l))/\aM w w':=by
 obtain ⟨q,c,rfl,fM,gg⟩:=hv.form
 obtain ⟨sp,sc,sr,sd,fp,fc,fr,fd,rfl,-,-⟩:=hR
 obtain ⟨N,hN⟩:∃ N,N=l.length:=⟨_,rfl⟩
 rw [<-hN] at hv fM
 rw [<-hN]
 obtain ⟨bs,hb⟩:∃ b,(S::F::fl l).all GK=b:=⟨_,rfl⟩
 refine ah (C:=bS Tryz.prog w _) (args:=[_,_]) Tryz.func8 rfl Tryz.ntmps8 (bB rfl) ?_
 refine ab ?_
 by_cases Ed:N≤12
 ·have hlen:ya l.length=true:=by unfold ya;rw [<-hN,decide_eq_true Ed];rfl
  refine VO.fix 10 rfl (congrArg (fun b=>AV.val (.bool b)) (decide_eq_false (show ¬ (N:Int) > 12 by omega))) ?_
  refine ab ?_
  refine VS.aQ rfl (decide_eq_false (show ¬ (N:Int) > 60 by omega)) ?_
  refine ab ?_
  refine VS.loop (J:=fun m L M w'=>∃ z:Nat,z≤N/\m=N - z/\∃ d vs spare cap,(d=24\/d=43)/\L=[(1,.val (.slice q N c)),(5,.row d 0 (2 + 2 * z) cap),(6,.val (.int .i64 (z:Int)))]/\M=[(d,(26,vs.flatten.map .val++spare))]/\
   ck RrE w' (S::F::fl (l.take z)) vs/\(vs.flatten.map AV.val++spare).length=cap * 4/\2 + 2 * z≤cap/\cap≤9223372036854775807/\spare.all aG=true/\ax spare=[]) N ⟨_,_,?_,?_,?_,?_,⟨0,by omega,rfl,24,[[.bool S.1,.slice sp S.2.1.length sc,.bool S.2.2.1,.slice sr S.2.2.2.length sd],[.bool F.1,.slice fp F.2.1.length fc,.bool F.2.2.1,.slice fr F.2.2.2.length fd]],[],2,.inl rfl,rfl,rfl,.cons ⟨_,_,_,_,rfl⟩ (.cons ⟨_,_,_,_,rfl⟩ .nil),rfl,by omega,by omega,rfl,rfl⟩⟩ ?_
  ·exact bT
  ·exact bT
  ·rfl
  ·exact ⟨.append (.vals _) (.none rfl),trivial⟩
  rintro m L M wJ ⟨z,hz,rfl,d,vs,spare,cap,rfl | rfl,rfl,rfl,kt,JL,hzc,hcc,Tr,sG⟩
  ·refine ab ?_
   by_cases hlt:z < N
   ·obtain ⟨e,he⟩:∃ e,l[z]? =some e:=⟨_,List.getElem?_eq_getElem aa⟩
    obtain ⟨b,off,eQ,fN,hc,hE⟩:=hv.at he
    subst fN
    obtain ⟨_,_,rfl,⟨ap,ac,ar,ad,rfl,-⟩,⟨bp,bc,br,bd,rfl,-⟩,-,-⟩:=hE
    obtain ⟨FG,BL⟩:=kt.ok lF
    have Ql:(S::F::fl (l.take z)).length=2 + 2 * z:=by rw [List.length_cons,List.length_cons,rN,List.length_take];omega
    refine VS.aP rfl (decide_eq_true (Int.ofNat_lt.2 hlt)) ?_
    refine ab ?_
    refine VO.cond rfl du ?_
    refine wV rfl ?_
    refine ab ?_
    refine VO.read rfl [.bool e.1.1,.slice ap e.1.2.1.length ac,.bool e.1.2.2.1,.slice ar e.1.2.2.2.length ad] rfl (aN hc 0 _ ⟨_,rfl⟩) (wV rfl ?_)
    refine ab ?_
    refine VO.cond rfl du ?_
    refine wV rfl ?_
    refine ab ?_
    refine VO.read rfl [.bool e.2.1,.slice bp e.2.2.1.length bc,.bool e.2.2.2.1,.slice br e.2.2.2.2.length bd] rfl (aN hc 4 _ ⟨[],rfl⟩) (wV rfl ?_)
    refine ab ?_
    refine VO.Rt (cJ _ _) (t:=73) (e:=26) (sz:=4) (n:=2 + 2 * z) (c:=cap) (mm:=2) (known:=vs.flatten.map .val) (spare:=spare) (del:=some 24) (news:=([.bool e.1.1,.slice ap e.1.2.1.length ac,.bool e.1.2.2.1,.slice ar e.1.2.2.2.length ad,.bool e.2.1,.slice bp e.2.2.1.length bc,.bool e.2.2.2.1,.slice br e.2.2.2.2.length bd]:List Value).map .val) (dst:=43) rfl rfl rfl rfl rfl rfl rfl rfl (bB rfl) rfl (.inl (.inr ⟨24,rfl,rfl,rfl⟩)) (.inl rfl) (by rw [List.length_map,BL,Ql]) JL hzc hcc ⟨ai _,sG,rfl⟩ ⟨bg FG,Tr,rfl⟩ rfl aa
     (fun w1 β k1 b1 ho=>⟨_,_,rfl,.inr ⟨β 42,0,rfl,de (rest:=[]) (ho.own 42 (.base (List.mem_append_right _ (List.mem_singleton.2 rfl))) _ _ rfl) rfl⟩⟩)
     (fun rB cap' aj ρ Ni Nj fF iI iQ ez pR eu=>wV rfl ?_)
    refine ab ?_
    have Cb:ck RrE rB (S::F::fl (l.take (z + 1))) (vs++[[.bool e.1.1,.slice ap e.1.2.1.length ac,.bool e.1.2.2.1,.slice ar e.1.2.2.2.length ad],[.bool e.2.1,.slice bp e.2.2.1.length bc,.bool e.2.2.2.1,.slice br e.2.2.2.2.length bd]]):=by
     rw [Af he,<-List.cons_append,<-List.cons_append]
     exact (kt.kp lF aR).append (.cons ⟨_,_,_,_,rfl⟩ (.cons ⟨_,_,_,_,rfl⟩ .nil))
    refine VS.back (N - (z + 1)) aa ⟨_,_,?_,?_,?_,?_,⟨z + 1,by omega,rfl,43,vs++[[.bool e.1.1,.slice ap e.1.2.1.length ac,.bool e.1.2.2.1,.slice ar e.1.2.2.2.length ad],[.bool e.2.1,.slice bp e.2.2.1.length bc,.bool e.2.2.2.1,.slice br e.2.2.2.2.length bd]],aj,cap',.inr rfl,rfl,rfl,Cb,by simpa using ez,by omega,iQ,pR,eu⟩⟩
    ·refine ⟨rfl,rfl,?_,trivial⟩
     rw [<-aE (i:=z) aa];rfl
    ·exact ⟨congrArg (fun l=>some (_,l++aj)) cA,trivial⟩
    ·rfl
    ·exact ⟨.append (.vals _) (.none eu),trivial⟩
   ·refine VS.aQ rfl (decide_eq_false (fun e=>hlt (Int.ofNat_lt.1 e))) ?_
    have LP:z=N:=by omega
    rw [List.take_of_length_le aa] at kt
    refine ab ?_
    refine VO.eK rfl (fk Tryz.func26) (fun bF β cU bJ ho=>(vQ _ (S::F::fl l) bF (lL lF (ho.own 24 (.base (List.mem_singleton.2 rfl)) _ _ rfl) spare rfl (kt.kp lF aR) (by rw [List.length_cons,List.length_cons,rN];omega) hzc hcc) _ hb).mono ?_)
    rintro o w1 ⟨rfl,aK⟩
    refine ⟨_,rfl,aK,fun dC _ bb1=>wV rfl ?_⟩
    refine ab ?_
    refine aY ?_;intro wz kz bz
    exact ⟨by unfold nv;rw [hlen,hb];rfl,bz⟩
  ·refine ab ?_
   by_cases hlt:z < N
   ·obtain ⟨e,he⟩:∃ e,l[z]? =some e:=⟨_,List.getElem?_eq_getElem aa⟩
    obtain ⟨b,off,eQ,fN,hc,hE⟩:=hv.at he
    subst fN
    obtain ⟨_,_,rfl,⟨ap,ac,ar,ad,rfl,-⟩,⟨bp,bc,br,bd,rfl,-⟩,-,-⟩:=hE
    obtain ⟨FG,BL⟩:=kt.ok lF
    have Ql:(S::F::fl (l.take z)).length=2 + 2 * z:=by rw [List.length_cons,List.length_cons,rN,List.length_take];omega
    refine VS.aP rfl (decide_eq_true (Int.ofNat_lt.2 hlt)) ?_
    refine ab ?_
    refine VO.cond rfl du ?_
    refine wV rfl ?_
    refine ab ?_
    refine VO.read rfl [.bool e.1.1,.slice ap e.1.2.1.length ac,.bool e.1.2.2.1,.slice ar e.1.2.2.2.length ad] rfl (aN hc 0 _ ⟨_,rfl⟩) (wV rfl ?_)
    refine ab ?_
    refine VO.cond rfl du ?_
    refine wV rfl ?_
    refine ab ?_
    refine VO.read rfl [.bool e.2.1,.slice bp e.2.2.1.length bc,.bool e.2.2.2.1,.slice br e.2.2.2.2.length bd] rfl (aN hc 4 _ ⟨[],rfl⟩) (wV rfl ?_)
    refine ab ?_
    refine VO.Rt (cJ _ _) (t:=73) (e:=26) (sz:=4) (n:=2 + 2 * z) (c:=cap) (mm:=2) (known:=vs.flatten.map .val) (spare:=spare) (del:=some 43) (news:=([.bool e.1.1,.slice ap e.1.2.1.length ac,.bool e.1.2.2.1,.slice ar e.1.2.2.2.length ad,.bool e.2.1,.slice bp e.2.2.1.length bc,.bool e.2.2.2.1,.slice br e.2.2.2.2.length bd]:List Value).map .val) (dst:=43) rfl rfl rfl rfl rfl rfl rfl rfl (bB rfl) rfl (.inl (.inr ⟨43,rfl,rfl,rfl⟩)) (.inr rfl) (by rw [List.length_map,BL,Ql]) JL hzc hcc ⟨ai _,sG,rfl⟩ ⟨bg FG,Tr,rfl⟩ rfl aa
     (fun w1 β k1 b1 ho=>⟨_,_,rfl,.inr ⟨β 42,0,rfl,de (rest:=[]) (ho.own 42 (.base (List.mem_append_right _ (List.mem_singleton.2 rfl))) _ _ rfl) rfl⟩⟩)
     (fun rB cap' aj ρ Ni Nj fF iI iQ ez pR eu=>wV rfl ?_)
    refine ab ?_
    have Cb:ck RrE rB (S::F::fl (l.take (z + 1))) (vs++[[.bool e.1.1,.slice ap e.1.2.1.length ac,.bool e.1.2.2.1,.slice ar e.1.2.2.2.length ad],[.bool e.2.1,.slice bp e.2.2.1.length bc,.bool e.2.2.2.1,.slice br e.2.2.2.2.length bd]]):=by
     rw [Af he,<-List.cons_append,<-List.cons_append]
     exact (kt.kp lF aR).append (.cons ⟨_,_,_,_,rfl⟩ (.cons ⟨_,_,_,_,rfl⟩ .nil))
    refine VS.back (N - (z + 1)) aa ⟨_,_,?_,?_,?_,?_,⟨z + 1,by omega,rfl,43,vs++[[.bool e.1.1,.slice ap e.1.2.1.length ac,.bool e.1.2.2.1,.slice ar e.1.2.2.2.length ad],[.bool e.2.1,.slice bp e.2.2.1.length bc,.bool e.2.2.2.1,.slice br e.2.2.2.2.length bd]],aj,cap',.inr rfl,rfl,rfl,Cb,by simpa using ez,by omega,iQ,pR,eu⟩⟩
    ·refine ⟨rfl,rfl,?_,trivial⟩
     rw [<-aE (i:=z) aa];rfl
    ·exact ⟨congrArg (fun l=>some (_,l++aj)) cA,trivial⟩
    ·rfl
    ·exact ⟨.append (.vals _) (.none eu),trivial⟩
   ·refine VS.aQ rfl (decide_eq_false (fun e=>hlt (Int.ofNat_lt.1 e))) ?_
    have LP:z=N:=by omega
    rw [List.take_of_length_le aa] at kt
    refine ab ?_
    refine VO.eK rfl (fk Tryz.func26) (fun bF β cU bJ ho=>(vQ _ (S::F::fl l) bF (lL lF (ho.own 43 (.base (List.mem_singleton.2 rfl)) _ _ rfl) spare rfl (kt.kp lF aR) (by rw [List.length_cons,List.length_cons,rN];omega) hzc hcc) _ hb).mono ?_)
    rintro o w1 ⟨rfl,aK⟩
    refine ⟨_,rfl,aK,fun dC _ bb1=>wV rfl ?_⟩
    refine ab ?_
    refine aY ?_;intro wz kz bz
    exact ⟨by unfold nv;rw [hlen,hb];rfl,bz⟩
 ·refine VO.fix 10 rfl (congrArg (fun b=>AV.val (.bool b)) (decide_eq_true (show (N:Int) > 12 by omega))) ?_
  refine ab ?_
  by_cases h40:N≤40
  ·refine VO.fix 15 rfl (congrArg (fun b=>AV.val (.bool b)) (decide_eq_true (show (N:Int)≤40 by omega))) ?_
   refine ab ?_
   refine aY ?_;intro wz kz bz
   exact ⟨by unfold nv ya;rw [<-hN,decide_eq_false Ed,decide_eq_false (show ¬ 40 < N by omega)];rfl,bz⟩
  ·refine VO.fix 15 rfl (congrArg (fun b=>AV.val (.bool b)) (decide_eq_false (show ¬ (N:Int)≤40 by omega))) ?_
   refine ab ?_
   by_cases h60:N≤60
   ·have hlen:ya l.length=true:=by unfold ya;rw [<-hN,decide_eq_false Ed,decide_eq_true (show 40 < N by omega),decide_eq_true h60];rfl
    refine VS.aQ rfl (decide_eq_false (show ¬ (N:Int) > 60 by omega)) ?_
    refine ab ?_
    refine VS.loop (J:=fun m L M w'=>∃ z:Nat,z≤N/\m=N - z/\∃ d vs spare cap,(d=24\/d=43)/\L=[(1,.val (.slice q N c)),(5,.row d 0 (2 + 2 * z) cap),(6,.val (.int .i64 (z:Int)))]/\M=[(d,(26,vs.flatten.map .val++spare))]/\
     ck RrE w' (S::F::fl (l.take z)) vs/\(vs.flatten.map AV.val++spare).length=cap * 4/\2 + 2 * z≤cap/\cap≤9223372036854775807/\spare.all aG=true/\ax spare=[]) N ⟨_,_,?_,?_,?_,?_,⟨0,by omega,rfl,24,[[.bool S.1,.slice sp S.2.1.length sc,.bool S.2.2.1,.slice sr S.2.2.2.length sd],[.bool F.1,.slice fp F.2.1.length fc,.bool F.2.2.1,.slice fr F.2.2.2.length fd]],[],2,.inl rfl,rfl,rfl,.cons ⟨_,_,_,_,rfl⟩ (.cons ⟨_,_,_,_,rfl⟩ .nil),rfl,by omega,by omega,rfl,rfl⟩⟩ ?_
    ·exact bT
    ·exact bT
    ·rfl
    ·exact ⟨.append (.vals _) (.none rfl),trivial⟩
    rintro m L M wJ ⟨z,hz,rfl,d,vs,spare,cap,rfl | rfl,rfl,rfl,kt,JL,hzc,hcc,Tr,sG⟩
    ·refine ab ?_
     by_cases hlt:z < N
     ·obtain ⟨e,he⟩:∃ e,l[z]? =some e:=⟨_,List.getElem?_eq_getElem aa⟩
      obtain ⟨b,off,eQ,fN,hc,hE⟩:=hv.at he
      subst fN
      obtain ⟨_,_,rfl,⟨ap,ac,ar,ad,rfl,-⟩,⟨bp,bc,br,bd,rfl,-⟩,-,-⟩:=hE
      obtain ⟨FG,BL⟩:=kt.ok lF
      have Ql:(S::F::fl (l.take z)).length=2 + 2 * z:=by rw [List.length_cons,List.length_cons,rN,List.length_take];omega
      refine VS.aP rfl (decide_eq_true (Int.ofNat_lt.2 hlt)) ?_
      refine ab ?_
      refine VO.cond rfl du ?_
      refine wV rfl ?_
      refine ab ?_
      refine VO.read rfl [.bool e.1.1,.slice ap e.1.2.1.length ac,.bool e.1.2.2.1,.slice ar e.1.2.2.2.length ad] rfl (aN hc 0 _ ⟨_,rfl⟩) (wV rfl ?_)
      refine ab ?_
      refine VO.cond rfl du ?_
      refine wV rfl ?_
      refine ab ?_
      refine VO.read rfl [.bool e.2.1,.slice bp e.2.2.1.length bc,.bool e.2.2.2.1,.slice br e.2.2.2.2.length bd] rfl (aN hc 4 _ ⟨[],rfl⟩) (wV rfl ?_)
      refine ab ?_
      refine VO.Rt (cJ _ _) (t:=73) (e:=26) (sz:=4) (n:=2 + 2 * z) (c:=cap) (mm:=2) (known:=vs.flatten.map .val) (spare:=spare) (del:=some 24) (news:=([.bool e.1.1,.slice ap e.1.2.1.length ac,.bool e.1.2.2.1,.slice ar e.1.2.2.2.length ad,.bool e.2.1,.slice bp e.2.2.1.length bc,.bool e.2.2.2.1,.slice br e.2.2.2.2.length bd]:List Value).map .val) (dst:=43) rfl rfl rfl rfl rfl rfl rfl rfl (bB rfl) rfl (.inl (.inr ⟨24,rfl,rfl,rfl⟩)) (.inl rfl) (by rw [List.length_map,BL,Ql]) JL hzc hcc ⟨ai _,sG,rfl⟩ ⟨bg FG,Tr,rfl⟩ rfl aa
       (fun w1 β k1 b1 ho=>⟨_,_,rfl,.inr ⟨β 42,0,rfl,de (rest:=[]) (ho.own 42 (.base (List.mem_append_right _ (List.mem_singleton.2 rfl))) _ _ rfl) rfl⟩⟩)
       (fun rB cap' aj ρ Ni Nj fF iI iQ ez pR eu=>wV rfl ?_)
      refine ab ?_
      have Cb:ck RrE rB (S::F::fl (l.take (z + 1))) (vs++[[.bool e.1.1,.slice ap e.1.2.1.length ac,.bool e.1.2.2.1,.slice ar e.1.2.2.2.length ad],[.bool e.2.1,.slice bp e.2.2.1.length bc,.bool e.2.2.2.1,.slice br e.2.2.2.2.length bd]]):=by
       rw [Af he,<-List.cons_append,<-List.cons_append]
       exact (kt.kp lF aR).append (.cons ⟨_,_,_,_,rfl⟩ (.cons ⟨_,_,_,_,rfl⟩ .nil))
      refine VS.back (N - (z + 1)) aa ⟨_,_,?_,?_,?_,?_,⟨z + 1,by omega,rfl,43,vs++[[.bool e.1.1,.slice ap e.1.2.1.length ac,.bool e.1.2.2.1,.slice ar e.1.2.2.2.length ad],[.bool e.2.1,.slice bp e.2.2.1.length bc,.bool e.2.2.2.1,.slice br e.2.2.2.2.length bd]],aj,cap',.inr rfl,rfl,rfl,Cb,by simpa using ez,by omega,iQ,pR,eu⟩⟩
      ·refine ⟨rfl,rfl,?_,trivial⟩
       rw [<-aE (i:=z) aa];rfl
      ·exact ⟨congrArg (fun l=>some (_,l++aj)) cA,trivial⟩
      ·rfl
      ·exact ⟨.append (.vals _) (.none eu),trivial⟩
     ·refine VS.aQ rfl (decide_eq_false (fun e=>hlt (Int.ofNat_lt.1 e))) ?_
      have LP:z=N:=by omega
      rw [List.take_of_length_le aa] at kt
      refine ab ?_
      refine VO.eK rfl (fk Tryz.func26) (fun bF β cU bJ ho=>(vQ _ (S::F::fl l) bF (lL lF (ho.own 24 (.base (List.mem_singleton.2 rfl)) _ _ rfl) spare rfl (kt.kp lF aR) (by rw [List.length_cons,List.length_cons,rN];omega) hzc hcc) _ hb).mono ?_)
      rintro o w1 ⟨rfl,aK⟩
      refine ⟨_,rfl,aK,fun dC _ bb1=>wV rfl ?_⟩
      refine ab ?_
      refine aY ?_;intro wz kz bz
      exact ⟨by unfold nv;rw [hlen,hb];rfl,bz⟩
    ·refine ab ?_
     by_cases hlt:z < N
     ·obtain ⟨e,he⟩:∃ e,l[z]? =some e:=⟨_,List.getElem?_eq_getElem aa⟩
      obtain ⟨b,off,eQ,fN,hc,hE⟩:=hv.at he
      subst fN
      obtain ⟨_,_,rfl,⟨ap,ac,ar,ad,rfl,-⟩,⟨bp,bc,br,bd,rfl,-⟩,-,-⟩:=hE
      obtain ⟨FG,BL⟩:=kt.ok lF
      have Ql:(S::F::fl (l.take z)).length=2 + 2 * z:=by rw [List.length_cons,List.length_cons,rN,List.length_take];omega
      refine VS.aP rfl (decide_eq_true (Int.ofNat_lt.2 hlt)) ?_
      refine ab ?_
      refine VO.cond rfl du ?_
      refine wV rfl ?_
      refine ab ?_
      refine VO.read rfl [.bool e.1.1,.slice ap e.1.2.1.length ac,.bool e.1.2.2.1,.slice ar e.1.2.2.2.length ad] rfl (aN hc 0 _ ⟨_,rfl⟩) (wV rfl ?_)
      refine ab ?_
      refine VO.cond rfl du ?_
      refine wV rfl ?_
      refine ab ?_
      refine VO.read rfl [.bool e.2.1,.slice bp e.2.2.1.length bc,.bool e.2.2.2.1,.slice br e.2.2.2.2.length bd] rfl (aN hc 4 _ ⟨[],rfl⟩) (wV rfl ?_)
      refine ab ?_
      refine VO.Rt (cJ _ _) (t:=73) (e:=26) (sz:=4) (n:=2 + 2 * z) (c:=cap) (mm:=2) (known:=vs.flatten.map .val) (spare:=spare) (del:=some 43) (news:=([.bool e.1.1,.slice ap e.1.2.1.length ac,.bool e.1.2.2.1,.slice ar e.1.2.2.2.length ad,.bool e.2.1,.slice bp e.2.2.1.length bc,.bool e.2.2.2.1,.slice br e.2.2.2.2.length bd]:List Value).map .val) (dst:=43) rfl rfl rfl rfl rfl rfl rfl rfl (bB rfl) rfl (.inl (.inr ⟨43,rfl,rfl,rfl⟩)) (.inr rfl) (by rw [List.length_map,BL,Ql]) JL hzc hcc ⟨ai _,sG,rfl⟩ ⟨bg FG,Tr,rfl⟩ rfl aa
       (fun w1 β k1 b1 ho=>⟨_,_,rfl,.inr ⟨β 42,0,rfl,de (rest:=[]) (ho.own 42 (.base (List.mem_append_right _ (List.mem_singleton.2 rfl))) _ _ rfl) rfl⟩⟩)
       (fun rB cap' aj ρ Ni Nj fF iI iQ ez pR eu=>wV rfl ?_)
      refine ab ?_
      have Cb:ck RrE rB (S::F::fl (l.take (z + 1))) (vs++[[.bool e.1.1,.slice ap e.1.2.1.length ac,.bool e.1.2.2.1,.slice ar e.1.2.2.2.length ad],[.bool e.2.1,.slice bp e.2.2.1.length bc,.bool e.2.2.2.1,.slice br e.2.2.2.2.length bd]]):=by
       rw [Af he,<-List.cons_append,<-List.cons_append]
       exact (kt.kp lF aR).append (.cons ⟨_,_,_,_,rfl⟩ (.cons ⟨_,_,_,_,rfl⟩ .nil))
      refine VS.back (N - (z + 1)) aa ⟨_,_,?_,?_,?_,?_,⟨z + 1,by omega,rfl,43,vs++[[.bool e.1.1,.slice ap e.1.2.1.length ac,.bool e.1.2.2.1,.slice ar e.1.2.2.2.length ad],[.bool e.2.1,.slice bp e.2.2.1.length bc,.bool e.2.2.2.1,.slice br e.2.2.2.2.length bd]],aj,cap',.inr rfl,rfl,rfl,Cb,by simpa using ez,by omega,iQ,pR,eu⟩⟩
      ·refine ⟨rfl,rfl,?_,trivial⟩
       rw [<-aE (i:=z) aa];rfl
      ·exact ⟨congrArg (fun l=>some (_,l++aj)) cA,trivial⟩
      ·rfl
      ·exact ⟨.append (.vals _) (.none eu),trivial⟩
     ·refine VS.aQ rfl (decide_eq_false (fun e=>hlt (Int.ofNat_lt.1 e))) ?_
      have LP:z=N:=by omega
      rw [List.take_of_length_le aa] at kt
      refine ab ?_
      refine VO.eK rfl (fk Tryz.func26) (fun bF β cU bJ ho=>(vQ _ (S::F::fl l) bF (lL lF (ho.own 43 (.base (List.mem_singleton.2 rfl)) _ _ rfl) spare rfl (kt.kp lF aR) (by rw [List.length_cons,List.length_cons,rN];omega) hzc hcc) _ hb).mono ?_)
      rintro o w1 ⟨rfl,aK⟩
      refine ⟨_,rfl,aK,fun dC _ bb1=>wV rfl ?_⟩
      refine ab ?_
      refine aY ?_;intro wz kz bz
      exact ⟨by unfold nv;rw [hlen,hb];rfl,bz⟩
   ·refine VS.aP rfl (decide_eq_true (show (N:Int) > 60 by omega)) ?_
    refine ab ?_
    refine aY ?_;intro wz kz bz
    exact ⟨by unfold nv ya;rw [<-hN,decide_eq_false Ed,decide_eq_false h60,Bool.and_false];rfl,bz⟩
theorem JM (v u:Value) (S F:RR) (keep:Int) (l:List (RR×RR)) (kk:Nat) (w:World) (hR:gM w v S F keep) (hv:dp (ue kk) 8 w u l) (b:Bool) (hb:nv S F l=b):
 Calls Tryz.prog 8 #[v,u] w fun o w'=>o=.returned (.bool b)/\aM w w':=hb▸PH v u S F keep l kk w hR hv
theorem PI {S F:RR} {l:List (RR×RR)} (h:nv S F l=true):l.length≤12\/(40 < l.length/\l.length≤60):=by
 unfold nv ya at h
 rw [Bool.and_eq_true,Bool.or_eq_true,Bool.and_eq_true,decide_eq_true_iff,decide_eq_true_iff,decide_eq_true_iff] at h
 exact h.1
theorem Et {S F:RR} {l:List (RR×RR)} (h:nv S F l=true):S.kQ 3/\F.kQ 3/\∀ e∈l,e.1.kQ 3/\e.2.kQ 3:=by
 unfold nv at h
 rw [Bool.and_eq_true] at h
 have h2:∀ x∈(S::F::fl l),x.kQ 3:=fun x hx=>by
  have:=List.all_eq_true.1 h.2 x hx
  unfold GK at this
  rwa [Bool.and_eq_true,decide_eq_true_iff,decide_eq_true_iff] at this
 refine ⟨h2 S cA,h2 F cA,fun e he=>⟨h2 _ ?_,h2 _ ?_⟩⟩
 ·exact List.mem_cons_of_mem _ (List.mem_cons_of_mem _ (List.mem_flatMap.2 ⟨e,he,by simp⟩))
 ·exact List.mem_cons_of_mem _ (List.mem_cons_of_mem _ (List.mem_flatMap.2 ⟨e,he,by simp⟩))
theorem Ts {S F:RR} {l:List (RR×RR)} {kk:Nat} {w:World} {v:Value} (h:nv S F l=true) (hv:dp (ue kk) 8 w v l):dp (ue 3) 8 w v l:=by
 have h3:=(Et h).2.2
 refine hv.mono fun i a cs ha he=> ?_
 have hm:=h3 a (List.mem_of_getElem? ha)
 obtain ⟨x,y,e,f1,f2,-⟩:=he
 exact ⟨x,y,e,f1,f2,hm.1,hm.2⟩
set_option maxRecDepth 4000
structure fJ where
 bn:RR
 allowed:RR
 aI:RR
 used:RR
 ay:RR
 aq:RR
 closing:RR
def fJ.q (r:fJ):aL:=⟨r.bn.q,r.allowed.q,r.aI.q,r.used.q,r.ay.q,r.aq.q,r.closing.q⟩
abbrev gr:=Int×Int×RR
def gr.q (e:gr):Int×Int×Rat:=(e.1,e.2.1,e.2.2.q)
def Rw (kk:Nat) (w:World) (cs:List Value) (x:RR):Prop:=xk w cs x/\x.kQ kk
theorem Rw.kp {T:TypeId->Bool} {kk:Nat} {w w':World} {cs:List Value} {x:RR} (h:Rw kk w cs x) (k:bt ⟨UU,fun _=>True,T⟩ w w'):Rw kk w' cs x:=⟨h.1.kp k,h.2⟩
def qD (kk:Nat) (w:World) (cs:List Value) (r:fJ):Prop:=
 ∃ a b c d e f g:List Value,cs=a++(b++(c++(d++(e++(f++g)))))/\Rw kk w a r.bn/\Rw kk w b r.allowed/\Rw kk w c r.aI/\Rw kk w d r.used/\Rw kk w e r.ay/\Rw kk w f r.aq/\Rw kk w g r.closing
def vR (kk:Nat) (w:World) (cs:List Value) (e:gr):Prop:=∃ a,cs=[.int .i64 e.1,.int .i64 e.2.1]++a/\Rw kk w a e.2.2
theorem dK (kk:Nat):gE (qD kk) 28 where
 kp:=fun h k=>by
  obtain ⟨a,b,c,d,e,f,g,h0,h1,h2,h3,h4,h5,h6,h7⟩:=h
  exact ⟨a,b,c,d,e,f,g,h0,h1.kp k,h2.kp k,h3.kp k,h4.kp k,h5.kp k,h6.kp k,h7.kp k⟩
 len:=fun h=>by
  obtain ⟨a,b,c,d,e,f,g,rfl,h1,h2,h3,h4,h5,h6,h7⟩:=h
  simp only [List.length_append,h1.1.len,h2.1.len,h3.1.len,h4.1.len,h5.1.len,h6.1.len,h7.1.len]
 ok:=fun h=>by
  obtain ⟨a,b,c,d,e,f,g,rfl,h1,h2,h3,h4,h5,h6,h7⟩:=h
  simp only [List.all_append,h1.1.ok,h2.1.ok,h3.1.ok,h4.1.ok,h5.1.ok,h6.1.ok,h7.1.ok,Bool.and_self]
theorem eP (kk:Nat):gE (vR kk) 6 where
 kp:=fun h k=>by
  obtain ⟨a,h0,h1⟩:=h
  exact ⟨a,h0,h1.kp k⟩
 len:=fun h=>by obtain ⟨a,rfl,h1⟩:=h;rw [List.length_append,h1.1.len];rfl
 ok:=fun h=>by obtain ⟨a,rfl,h1⟩:=h;rw [List.all_append,h1.1.ok];rfl
def FY (kk:Nat) (w:World) (r u:Value) (X:List fJ×List gr):Prop:=dp (qD kk) 28 w r X.1/\dp (vR kk) 6 w u X.2
def Tt (r:aL):fJ:=⟨qB r.bn,qB r.allowed,qB r.aI,qB r.used,qB r.ay,qB r.aq,qB r.closing⟩
def Tu (e:Uq):gr:=((e.1:Int),(e.2.1:Int),qB e.2.2)
def nX (x:List aL×List Uq):List fJ×List gr:=(x.1.map Tt,x.2.map Tu)
def RowSz (kk:Nat) (r:aL):Prop:=eM r.bn kk/\eM r.allowed kk/\eM r.aI kk/\eM r.used kk/\eM r.ay kk/\eM r.aq kk/\eM r.closing kk
def LedSz (kk:Nat) (x:List aL×List Uq):Prop:=(∀ r∈x.1,RowSz kk r)/\∀ e∈x.2,eM e.2.2 kk
theorem R4.rw {B kk:Nat} {w:World} {cs:List Value} {q:Rat} (h:R4 B w cs q) (hs:eM q kk):Rw kk w cs (qB q):=by
 obtain ⟨s,p,n,c,t,r,m,d,rfl,h1⟩:=h
 exact ⟨h1.rd.LR,pY hs⟩
theorem row7_in {B kk:Nat} {w:World} {cs:List Value} {r:aL} (h:eB B w cs r) (hs:RowSz kk r):qD kk w cs (Tt r):=by
 obtain ⟨a,b,c,d,e,f,g,h0,h1,h2,h3,h4,h5,h6,h7⟩:=h
 obtain ⟨s1,s2,s3,s4,s5,s6,s7⟩:=hs
 exact ⟨a,b,c,d,e,f,g,h0,h1.rw s1,h2.rw s2,h3.rw s3,h4.rw s4,h5.rw s5,h6.rw s6,h7.rw s7⟩
theorem use_in {B kk:Nat} {w:World} {cs:List Value} {e:Uq} (h:qw B w cs e) (hs:eM e.2.2 kk):vR kk w cs (Tu e):=by
 obtain ⟨s,p,n,c,t,r,m,d,rfl,h1⟩:=h
 exact ⟨_,rfl,h1.rd.LR,pY hs⟩
theorem Tv {α α':Type} {E:World->List Value->α->Prop} {E':World->List Value->α'->Prop} {sz:Nat} (hE:gE E sz) {t:TypeId} {w:World} {b:Nat} {v:Value} {es:List α} (f:α->α') (h:SlZ E sz t w b v es) (hf:∀ cs,∀ e∈es,E w cs e->E' w cs (f e)):dp E' sz w v (es.map f):=by
 obtain ⟨n,c,vs,sp,rfl,hc,ho⟩:=h
 have hn:n=es.length:=ho.len
 subst hn
 refine ⟨_,_,by rw [List.length_map],by rw [List.length_map];exact ho.le,by simpa [maxLen] using ho.cm,fun i a ha=> ?_⟩
 rw [List.getElem?_map] at ha
 obtain ⟨e,he,rfl⟩:=Option.map_eq_some_iff.1 ha
 obtain ⟨cs,hcs,Tn⟩:=ho.el.at i e he
 refine ⟨b,0,cs,rfl,fun j u hj=> ?_,hf _ _ (List.mem_of_getElem? he) Tn⟩
 refine hc.cell ?_
 have gJ:cs.length=sz:=hE.len Tn
 have hjl:=(List.getElem?_eq_some_iff.1 hj).1
 obtain ⟨hlt,hxx⟩:=List.getElem?_eq_some_iff.1 hcs
 have CR:vs=vs.take i++cs::vs.drop (i + 1):=by rw [<-hxx,<-List.drop_eq_getElem_cons hlt,List.take_append_drop]
 have hal:(vs.take i).flatten.length=i * sz:=by
  rw [dB (fun y hy=>ho.el.lens hE y (List.mem_of_mem_take hy)),List.length_take,Nat.min_eq_left aa]
 rw [List.getElem?_toArray,CR,List.flatten_append,List.append_assoc,List.getElem?_append_right aa,hal,List.flatten_cons,List.append_assoc,show 0 + i * sz + j - i * sz=j by omega,List.getElem?_append_left hjl]
 exact hj
theorem qA.inI {B kk:Nat} {w:World} {r u:Value} {x:List aL×List Uq} (h:qA B w r u x) (hs:LedSz kk x):FY kk w r u (nX x):=by
 refine ⟨?_,?_⟩
 ·rcases h.1 with ⟨rfl,e⟩ | ⟨rb,_,h3⟩
  ·unfold nX;rw [e];exact dp.nil _ _ _
  ·exact Tv (aA B) Tt h3 fun cs e he hE=>row7_in hE (hs.1 e he)
 ·rcases h.2 with ⟨rfl,e⟩ | ⟨rb,_,h3⟩
  ·unfold nX;rw [e];exact dp.nil _ _ _
  ·exact Tv (dR B) Tu h3 fun cs e he hE=>use_in hE (hs.2 e he)
end
section
open Go.RowKit
theorem xq (x:Rat) (l:List Rat):nO (x::l)=x + nO l:=by
 unfold nO
 rw [List.foldl_cons]
 have:∀ (l:List Rat) (a b:Rat),l.foldl (·+ ·) (a + b)=a + l.foldl (·+ ·) b:=by
  intro l
  induction l with
  | nil=>intro a b;rfl
  | cons y r ih=>intro a b;rw [List.foldl_cons,List.foldl_cons,Rat.add_assoc,ih]
 rw [show (0:Rat) + x=x + 0 by grind,this]
theorem JN (l m:List Rat):nO (l++m)=nO l + nO m:=by
 induction l with
 | nil=>show nO m=0 + nO m;grind
 | cons x l ih=>rw [List.cons_append,xq,xq,ih];grind
def gs (f:Uq->Rat) (us:List Uq):Rat:=nO (us.map f)
theorem Tw (f:Uq->Rat):gs f []=0:=rfl
theorem sk (f:Uq->Rat) (e:Uq) (us:List Uq):gs f (e::us)=f e + gs f us:=by unfold gs;rw [List.map_cons,xq]
theorem oT (f:Uq->Rat) (a b:List Uq):gs f (a++b)=gs f a + gs f b:=by unfold gs;rw [List.map_append,JN]
theorem sn {f:Uq->Rat}:∀ {us:List Uq},(∀ e∈us,f e=0)->gs f us=0
 | [],_=>rfl
 | e::us,h=>by rw [sk,h e cA,sn (fun x hx=>h x (by simp [hx]))];grind
theorem JO {f g:Uq->Rat}:∀ {us:List Uq},(∀ e∈us,f e=g e)->gs f us=gs g us
 | [],_=>rfl
 | e::us,h=>by rw [sk,sk,h e cA,JO (fun x hx=>h x (by simp [hx]))]
theorem Tx {f:Uq->Rat}:∀ {us:List Uq},(∀ e∈us,0≤f e)->0≤gs f us
 | [],_=>Rat.le_refl
 | e::us,h=>by rw [sk];have:=h e cA;have:=Tx (f:=f) (us:=us) (fun x hx=>h x (by simp [hx]));grind
def vn (v:Nat) (e:Uq):Rat:=if e.1=v then e.2.2 else 0
def bf (v y:Nat) (e:Uq):Rat:=if e.1=v/\e.2.1 < y then e.2.2 else 0
def Lex (a b:Uq):Prop:=a.2.1 < b.2.1\/(a.2.1=b.2.1/\a.1 < b.1)
theorem Ag (y:Nat):∀ {k:Nat} {l:List Rat} {m:Rat} {e:Uq},e∈rF y (bG k l) m->e.2.1=y/\0 < e.2.2/\k≤e.1/\e.1 < k + l.length
 | k,[],m,e,h=>by cases h
 | k,x::l,m,e,h=>by
   have h':e∈(if 0 < ae x m then [(k,y,ae x m)] else [])++rF y (bG (k + 1) l) (m - ae x m):=h
   rcases List.mem_append.1 h' with h1 | h1
   ·by_cases hp:0 < ae x m
    ·rw [if_pos hp,List.mem_singleton] at h1
     subst h1
     exact ⟨rfl,hp,Nat.le_refl _,by show k < k + (x::l).length;simp⟩
    ·rw [if_neg hp] at h1;cases h1
   ·obtain ⟨a,b,c,d⟩:=Ag y h1
    exact ⟨a,b,by omega,by rw [List.length_cons];omega⟩
theorem Ga {a b:Rat} (h:0≤a) (k:0≤b):0≤ae a b:=by rcases cj a b with ⟨e,_⟩ | ⟨e,_⟩ <;> rw [e] <;> assumption
theorem tb_head {y k v:Nat} {r:Rat} (hr:0≤r):gs (vn v) (if 0 < r then [((k,y,r):Uq)] else [])=if k=v then r else 0:=by
 by_cases hp:0 < r
 ·rw [if_pos hp,sk,Tw]
  show (if k=v then r else 0) + 0=_
  grind
 ·rw [if_neg hp,Tw]
  have:r=0:=by grind
  rw [this];simp
theorem Ty (y:Nat):∀ {k:Nat} {l:List Rat} {m:Rat} {i:Nat} {x:Rat},(∀ z∈l,0≤z)->0≤m->((qJ (bG k l) m).map (·.2))[i]? =some x->∃ z,l[i]? =some z/\x=z - gs (vn (k + i)) (rF y (bG k l) m)
 | k,[],m,i,x,_,_,h=>by cases h
 | k,z::l,m,i,x,hn,hm,h=>by
   have hz:=hn z cA
   have hr:=Ga hz hm
   have Kl:=cI z m
   have e1:rF y (bG k (z::l)) m=(if 0 < ae z m then [((k,y,ae z m):Uq)] else [])++rF y (bG (k + 1) l) (m - ae z m):=rfl
   have e2:(qJ (bG k (z::l)) m).map (·.2)=(z - ae z m)::(qJ (bG (k + 1) l) (m - ae z m)).map (·.2):=rfl
   rw [e2] at h
   rw [e1,oT,tb_head hr]
   cases i with
   | zero=>
     rw [List.getElem?_cons_zero] at h
     cases h
     refine ⟨z,rfl,?_⟩
     have:gs (vn (k + 0)) (rF y (bG (k + 1) l) (m - ae z m))=0:=sn fun e he=>by
      have:=Ag y he
      unfold vn
      rw [if_neg aa]
     rw [this,if_pos (Nat.add_zero k).symm];grind
   | succ i=>
     rw [List.getElem?_cons_succ] at h
     obtain ⟨z',Kh,e⟩:=Ty y (fun z hz=>hn z (by simp [hz])) dt h
     refine ⟨z',by rw [List.getElem?_cons_succ];exact Kh,?_⟩
     rw [e,if_neg aa,show k + 1 + i=k + (i + 1) by omega];grind
theorem Nw (y:Nat):∀ {k:Nat} {l:List Rat} {m:Rat},(rF y (bG k l) m).Pairwise Lex
 | k,[],m=>List.Pairwise.nil
 | k,z::l,m=>by
   have e1:rF y (bG k (z::l)) m=(if 0 < ae z m then [((k,y,ae z m):Uq)] else [])++rF y (bG (k + 1) l) (m - ae z m):=rfl
   rw [e1,List.pairwise_append]
   refine ⟨?_,Nw y,fun a ha b hb=> ?_⟩
   ·split
    ·exact List.pairwise_singleton _ _
    ·exact List.Pairwise.nil
   ·obtain ⟨b1,_,b2,_⟩:=Ag y hb
    split at ha
    ·rw [List.mem_singleton] at ha
     subst ha
     exact .inr ⟨b1.symm,by show k < b.1;omega⟩
    ·cases ha
theorem Tz:∀ {t:List Vq} {m:Rat},(∀ p∈t,0≤p.2)->0≤m->0≤xd t m/\xd t m≤m
 | [],m,_,hm=>⟨Rat.le_refl,hm⟩
 | p::t,m,h,hm=>by
   have hr:=Ga (h p cA) hm
   have Kl:=cI p.2 m
   obtain ⟨a,b⟩:=Tz (t:=t) (m:=m - ae p.2 m) (fun x hx=>h x (by simp [hx])) dt
   rw [oK]
   exact ⟨by grind,by grind⟩
theorem TA (y:Nat):∀ {k:Nat} {l:List Rat} {m:Rat} {e:Uq} {i:Nat} {x:Rat},(∀ z∈l,0≤z)->0≤m->e∈rF y (bG k l) m->k + i < e.1->((qJ (bG k l) m).map (·.2))[i]? =some x->x=0
 | k,[],m,e,i,x,_,_,he,_,_=>by cases he
 | k,z::l,m,e,i,x,hn,hm,he,hi,hx=>by
   have hz:=hn z cA
   have hr:=Ga hz hm
   have Kl:=cI z m
   have e2:(qJ (bG k (z::l)) m).map (·.2)=(z - ae z m)::(qJ (bG (k + 1) l) (m - ae z m)).map (·.2):=rfl
   have qH:e∈(if 0 < ae z m then [((k,y,ae z m):Uq)] else [])++rF y (bG (k + 1) l) (m - ae z m):=he
   rw [e2] at hx
   have EZ:e∈rF y (bG (k + 1) l) (m - ae z m):=by
    rcases List.mem_append.1 qH with h1 | h1
    ·split at h1
     ·rw [List.mem_singleton] at h1;subst h1;exact absurd hi (by show ¬ k + i < k;omega)
     ·cases h1
    ·exact h1
   cases i with
   | zero=>
     rw [List.getElem?_cons_zero] at hx
     cases hx
     rcases cj z m with ⟨e,_⟩ | ⟨e,_⟩
     ·rw [e];grind
     ·rw [e,show m - m=(0:Rat) by grind,(Ab y (t:=bG (k + 1) l) (fun p hp=>hn _ (by simp [(ld hp).2.2]))).1] at EZ
      cases EZ
   | succ i=>
     rw [List.getElem?_cons_succ] at hx
     exact TA y (fun z hz=>hn z (by simp [hz])) dt EZ aa hx
structure RowOk (S F:Rat) (e:Rat×Rat) (r:aL):Prop where
 lim:r.bn=aw S F e.2
 alw:r.allowed=ae e.1 r.bn
 den:r.aI=e.1 - r.allowed
 us0:0≤r.used
 us1:r.used≤r.bn - r.allowed
 ded:r.ay=r.allowed + r.used
 ex0:0≤r.aq
structure LV (S F:Rat) (kn d:Nat) (l:List (Rat×Rat)) (s:CT):Prop where
 len:s.left.length=s.rows.length
 rln:s.rows.length=l.length
 cons:∀ (v:Nat) (x:Rat),s.left[v]? =some x->∃ r,s.rows[v]? =some r/\x=r.aI - r.aq - gs (vn v) s.uses
 nn:∀ x∈s.left,0≤x
 row:∀ (i:Nat) (r:aL),s.rows[i]? =some r->∃ e,l[i]? =some e/\RowOk S F e r
 exp:∀ (i:Nat) (r:aL),s.rows.length≤i + kn + d->s.rows[i]? =some r->r.aq=0
 use:∀ u∈s.uses,0 < u.2.2/\u.1 < u.2.1/\u.2.1≤u.1 + kn/\u.2.1 < s.rows.length
 sort:s.uses.Pairwise Lex
 old:∀ u∈s.uses,∀ (v:Nat) (r:aL),u.2.1≤v + kn->v < u.1->s.rows[v]? =some r->r.aI - gs (bf v (u.2.1 + 1)) s.uses≤0
theorem ti_exp {S F:Rat} {kn n:Nat} {l:List (Rat×Rat)} {s:CT} (h:LV S F kn 1 l s) (hn:s.rows.length=n + 1):LV S F kn 0 l (qu kn n s):=by
 unfold qu
 by_cases hk:kn≤n
 ·rw [if_pos hk]
  obtain ⟨j,hj⟩:∃ j,j=n - kn:=⟨_,rfl⟩
  rw [<-hj]
  have hlj:j < s.left.length:=by rw [h.len];omega
  obtain ⟨x,hx⟩:∃ x,s.left[j]? =some x:=⟨_,List.getElem?_eq_getElem hlj⟩
  have Qu:s.left.getD j 0=x:=by rw [List.getD_eq_getElem?_getD,hx];rfl
  rw [Qu]
  have iV:=h.nn x (List.mem_of_getElem? hx)
  refine ⟨?_,?_,fun v z hv=> ?_,fun z hz=> ?_,fun i r hr=> ?_,fun i r hi hr=> ?_,fun u hu=> ?_,h.sort,fun u hu v r h1 h2 hr=> ?_⟩
  ·show (s.left.set j 0).length=(s.rows.modify j _).length
   rw [List.length_set,List.length_modify];exact h.len
  ·show (s.rows.modify j _).length=_
   rw [List.length_modify];exact h.rln
  ·dsimp only at hv ⊢
   by_cases e:j=v
   ·subst e
    rw [List.getElem?_set_self hlj] at hv
    cases hv
    obtain ⟨r,hr,he⟩:=h.cons j x hx
    refine ⟨{ r with aq:=x },by rw [BJ rfl,hr];rfl,?_⟩
    have:=h.exp j r aa hr
    show (0:Rat)=r.aI - x - _
    grind
   ·rw [List.getElem?_set_ne e] at hv
    obtain ⟨r,hr,he⟩:=h.cons v z hv
    exact ⟨r,by rw [vC e];exact hr,he⟩
  ·rcases List.mem_or_eq_of_mem_set hz with h' | h'
   ·exact h.nn z h'
   ·rw [h'];exact Rat.le_refl
  ·dsimp only at hr
   by_cases e:j=i
   ·rw [BJ e] at hr
    obtain ⟨r',qo,rfl⟩:=Option.map_eq_some_iff.1 hr
    obtain ⟨y,hy,a⟩:=h.row i r' qo
    exact ⟨y,hy,a.lim,a.alw,a.den,a.us0,a.us1,a.ded,iV⟩
   ·rw [vC e] at hr
    exact h.row i r hr
  ·dsimp only at hr hi
   rw [List.length_modify] at hi
   rw [vC aa] at hr
   exact h.exp i r aa hr
  ·have:=h.use u hu
   show _/\_/\_/\_ < (s.rows.modify j _).length
   rw [List.length_modify];exact this
  ·dsimp only at hr ⊢
   by_cases e:j=v
   ·rw [BJ e] at hr
    obtain ⟨r',qo,rfl⟩:=Option.map_eq_some_iff.1 hr
    exact h.old u hu v r' h1 h2 qo
   ·rw [vC e] at hr
    exact h.old u hu v r h1 h2 hr
 ·rw [if_neg hk]
  exact ⟨h.len,h.rln,h.cons,h.nn,h.row,fun i r hi hr=>h.exp i r aa hr,h.use,h.sort,h.old⟩
theorem ti_year {S F:Rat} {kn:Nat} {l:List (Rat×Rat)} {s:CT} (h:LV S F kn 0 l s) (y:Rat×Rat):LV S F kn 0 (l++[y]) (mC S F kn s.rows.length s y):=by
 unfold mC
 obtain ⟨n,hn⟩:∃ n,n=s.rows.length:=⟨_,rfl⟩
 rw [<-hn]
 obtain ⟨lo,GU⟩:∃ lo,lo=n - kn:=⟨_,rfl⟩
 obtain ⟨L,hL⟩:∃ L,L=aw S F y.2:=⟨_,rfl⟩
 obtain ⟨m,hm⟩:∃ m,m=L - ae y.1 L:=⟨_,rfl⟩
 have CS:0≤m:=by have:=cI y.1 L;grind
 have hlen:=h.len
 have pc:=h.rln
 obtain ⟨dl,jU⟩:∃ dl,dl=s.left.drop lo:=⟨_,rfl⟩
 have hdn:∀ z∈dl,0≤z:=fun z hz=>by rw [jU] at hz;exact h.nn _ (List.mem_of_mem_drop hz)
 have hdll:dl.length=n - lo:=by rw [jU,List.length_drop,hlen,hn]
 obtain ⟨t,ht⟩:∃ t,t=bG lo dl:=⟨_,rfl⟩
 have htn:∀ p∈t,0≤p.2:=fun p hp=>by rw [ht] at hp;exact hdn _ (ld hp).2.2
 have rV:=Tz htn CS
 rw [<-GU,<-jU,<-ht,<-hL,<-hm]
 obtain ⟨nu,hnu⟩:∃ nu,nu=rF n t m:=⟨_,rfl⟩
 have zT:∀ e∈nu,e.2.1=n/\0 < e.2.2/\lo≤e.1/\e.1 < n:=fun e he=>by
  rw [hnu,ht] at he
  obtain ⟨a,b,c,d⟩:=Ag n he
  exact ⟨a,b,c,by rw [hdll] at d;omega⟩
 refine ti_exp (n:=n) ?_ (by show (s.rows++[_]).length=_;rw [List.length_append,<-hn];rfl)
 obtain ⟨L1,hL1⟩:∃ L1,L1=s.left.take lo++(qJ t m).map (·.2):=⟨_,rfl⟩
 have hL1l:L1.length=n:=by rw [hL1,List.length_append,List.length_take,List.length_map,FA,ht,BI,hdll,hlen,<-hn];omega
 have hR:xe S F t y=⟨L,ae y.1 L,y.1 - ae y.1 L,xd t m,ae y.1 L + xd t m,0,0⟩:=by unfold xe;rw [<-hL,<-hm]
 rw [<-hnu,<-hL1,hR]
 have hget:∀ (v:Nat) (x:Rat),L1[v]? =some x->∃ z,s.left[v]? =some z/\x=z - gs (vn v) nu/\(∀ e∈nu,n≤v + kn->v < e.1->x=0):=by
  intro v x hv
  rw [hL1] at hv
  have Ql:(s.left.take lo).length=lo:=by rw [List.length_take,hlen,<-hn];omega
  by_cases hvl:v < lo
  ·rw [List.getElem?_append_left aa,List.getElem?_take_of_lt hvl] at hv
   refine ⟨x,hv,?_,fun e he h1 h2=>by omega⟩
   rw [sn (fun e he=>by have:=zT e he;unfold vn;rw [if_neg aa])];grind
  ·rw [List.getElem?_append_right aa,Ql] at hv
   obtain ⟨z,hz,e⟩:=Ty n (by exact hdn) CS (by rw [<-ht];exact hv)
   refine ⟨z,?_,?_,fun e' qH h1 h2=> ?_⟩
   ·rw [jU,List.getElem?_drop,show lo + (v - lo)=v by omega] at hz;exact hz
   ·rw [hnu,ht]
    rw [show lo + (v - lo)=v by omega] at e
    exact e
   ·rw [hnu,ht] at qH
    exact TA n (i:=v - lo) hdn CS qH aa (by rw [<-ht];exact hv)
 have hnn1:∀ x∈L1,0≤x:=fun x hx=>by
  rw [hL1] at hx
  rcases List.mem_append.1 hx with h' | h'
  ·exact h.nn x (List.mem_of_mem_take h')
  ·obtain ⟨p,hp,rfl⟩:=List.mem_map.1 h'
   exact Lz p hp
 have hold:∀ (v:Nat) (r:aL),v < n->(s.rows++[(⟨L,ae y.1 L,y.1 - ae y.1 L,xd t m,ae y.1 L + xd t m,0,0⟩:aL)])[v]? =some r->s.rows[v]? =some r:=fun v r hv hr=>by
  rwa [List.getElem?_append_left aa] at hr
 have OL:∀ (v:Nat) (r:aL),n≤v->(s.rows++[(⟨L,ae y.1 L,y.1 - ae y.1 L,xd t m,ae y.1 L + xd t m,0,0⟩:aL)])[v]? =some r->v=n/\r=⟨L,ae y.1 L,y.1 - ae y.1 L,xd t m,ae y.1 L + xd t m,0,0⟩:=fun v r hv hr=>by
  have hlt:=(List.getElem?_eq_some_iff.1 hr).1
  rw [List.length_append,List.length_singleton,<-hn] at hlt
  have hvn:v=n:=by omega
  subst hvn
  rw [List.getElem?_append_right aa,<-hn,Nat.sub_self] at hr
  exact ⟨rfl,(Option.some.inj hr).symm⟩
 refine ⟨?_,?_,fun v x hv=> ?_,fun x hx=> ?_,fun i r hr=> ?_,fun i r hi hr=> ?_,fun u hu=> ?_,?_,fun u hu v r h1 h2 hr=> ?_⟩
 ·show (L1++[_]).length=(s.rows++[_]).length
  rw [List.length_append,List.length_append,hL1l,hn];rfl
 ·show (s.rows++[_]).length=(l++[y]).length
  rw [List.length_append,List.length_append,pc];rfl
 ·dsimp only at hv ⊢
  by_cases hvn:v < n
  ·rw [List.getElem?_append_left aa] at hv
   obtain ⟨z,hz,e,_⟩:=hget v x hv
   obtain ⟨r,hr,e'⟩:=h.cons v z hz
   refine ⟨r,by rw [List.getElem?_append_left aa];exact hr,?_⟩
   rw [oT];grind
  ·have hlt:=(List.getElem?_eq_some_iff.1 hv).1
   rw [List.length_append,List.length_singleton,hL1l] at hlt
   have hvn:v=n:=by omega
   subst hvn
   rw [List.getElem?_append_right aa,hL1l,Nat.sub_self] at hv
   cases hv
   refine ⟨_,by rw [List.getElem?_append_right aa,<-hn,Nat.sub_self];rfl,?_⟩
   rw [oT,sn (us:=s.uses) (fun e he=>by have:=h.use e he;unfold vn;rw [if_neg aa]),sn (us:=nu) (fun e he=>by have:=zT e he;unfold vn;rw [if_neg aa])]
   show _=y.1 - ae y.1 L - 0 - _
   grind
 ·rcases List.mem_append.1 hx with h' | h'
  ·exact hnn1 x h'
  ·rw [List.mem_singleton.1 h']
   have:=dw y.1 L
   grind
 ·dsimp only at hr
  by_cases rU:i < n
  ·obtain ⟨e,he,a⟩:=h.row i r (hold i r rU hr)
   exact ⟨e,by rw [List.getElem?_append_left aa];exact he,a⟩
  ·obtain ⟨rfl,rfl⟩:=OL i r aa hr
   refine ⟨y,by rw [List.getElem?_append_right aa,<-pc,<-hn,Nat.sub_self];rfl,hL,rfl,rfl,rV.1,by show xd t m≤L - ae y.1 L;rw [<-hm];exact rV.2,rfl,Rat.le_refl⟩
 ·dsimp only at hr hi
  rw [List.length_append,List.length_singleton,<-hn] at hi
  by_cases rU:i < n
  ·exact h.exp i r aa (hold i r rU hr)
  ·obtain ⟨rfl,rfl⟩:=OL i r aa hr
   rfl
 ·show _/\_/\_/\_ < (s.rows++[_]).length
  rw [List.length_append,List.length_singleton,<-hn]
  rcases List.mem_append.1 hu with h' | h'
  ·have:=h.use u h'
   exact ⟨this.1,this.2.1,this.2.2.1,by omega⟩
  ·have:=zT u h'
   exact ⟨this.2.1,by omega,by omega,by omega⟩
 ·show (s.uses++nu).Pairwise Lex
  rw [List.pairwise_append]
  refine ⟨h.sort,by rw [hnu,ht];exact Nw n,fun a ha b hb=>.inl ?_⟩
  have:=h.use a ha
  have:=zT b hb
  omega
 ·dsimp only at hr hu ⊢
  rcases List.mem_append.1 hu with h' | h'
  ·have hun:=h.use u h'
   rw [oT,sn (us:=nu) (fun e he=>by have:=zT e he;unfold bf;rw [if_neg aa])]
   have:=h.old u h' v r h1 h2 (hold v r aa hr)
   grind
  ·have hun:=zT u h'
   have hvn:v < n:=by omega
   obtain ⟨x,hx⟩:∃ x,L1[v]? =some x:=⟨_,List.getElem?_eq_getElem aa⟩
   obtain ⟨z,hz,e,h0⟩:=hget v x hx
   have iV:=h0 u h' aa h2
   obtain ⟨r',qo,e'⟩:=h.cons v z hz
   have jW:=hold v r hvn hr
   rw [qo] at jW
   cases jW
   have hex:=h.exp v _ aa qo
   have hbv:gs (bf v (u.2.1 + 1)) (s.uses++nu)=gs (vn v) (s.uses++nu):=JO fun e he=>by
    have:e.2.1 < u.2.1 + 1:=by
     rcases List.mem_append.1 he with h'' | h''
     ·have:=h.use e h'';omega
     ·have:=zT e h'';omega
    unfold bf vn
    by_cases hev:e.1=v
    ·rw [if_pos ⟨hev,this⟩,if_pos hev]
    ·rw [if_neg (fun x=>hev x.1),if_neg hev]
   rw [hbv,oT]
   grind
theorem TB (S F:Rat) (kn:Nat) (l:List (Rat×Rat)):LV S F kn 0 l (runT S F kn l):=by
 have key:∀ (l p:List (Rat×Rat)) (s:CT),LV S F kn 0 p s->LV S F kn 0 (p++l) (l.foldl (fun s y=>mC S F kn s.rows.length s y) s):=by
  intro l
  induction l with
  | nil=>intro p s h;rw [List.append_nil];exact h
  | cons y l ih=>
    intro p s h
    have:=ih (p++[y]) _ (ti_year h y)
    rwa [List.append_assoc] at this
 have:=key l [] ⟨[],[],[]⟩ ⟨rfl,rfl,fun v x hx=>(by cases hx),fun x hx=>(by cases hx),fun i r hr=>(by cases hr),fun i r _ hr=>(by cases hr),fun u hu=>(by cases hu),List.Pairwise.nil,fun u hu=>(by cases hu)⟩
 exact this
theorem clo_at {left:List Rat} {rows:List aL} (i:Nat):(dJ (bG 0 left) rows)[i]? =match left[i]? with
  | some x=>(rows[i]?).map (fun r=>{ r with closing:=x })
  | none=>rows[i]? :=by
 rw [sf _ _ (BK 0 left)]
 cases hl:left[i]? with
 | none=>
   have:(bG 0 left).find? (fun p=>p.1 == i)=none:=by
    rw [List.find?_eq_none]
    intro p hp e
    obtain ⟨j,hj⟩:=List.mem_iff_getElem?.1 hp
    rw [se] at hj
    obtain ⟨x,hx,rfl⟩:=Option.map_eq_some_iff.1 hj
    have:0 + j=i:=by simpa using e
    rw [show j=i by omega,hl] at hx
    cases hx
   rw [this]
 | some x=>
   have hm:(i,x)∈bG 0 left:=by
    apply List.mem_of_getElem? (i:=i)
    rw [se,hl];simp
   cases hf:(bG 0 left).find? (fun p=>p.1 == i) with
   | none=>exact absurd cA (List.find?_eq_none.1 hf _ hm)
   | some p=>
     have hp:=List.find?_some hf
     obtain ⟨j,hj⟩:=List.mem_iff_getElem?.1 (List.mem_of_find?_eq_some hf)
     rw [se] at hj
     obtain ⟨x',hx,rfl⟩:=Option.map_eq_some_iff.1 hj
     have:0 + j=i:=by simpa using hp
     rw [show j=i by omega,hl] at hx
     cases hx
     rfl
theorem uf:∀ (q:List Vq) (r:List aL),(dJ q r).length=r.length
 | [],_=>rfl
 | p::q,r=>by show (dJ q _).length=_;rw [uf q,List.length_modify]
structure LedLaw (S F:Rat) (kn:Nat) (l:List (Rat×Rat)) (x:List aL×List Uq):Prop where
 rln:x.1.length=l.length
 row:∀ (i:Nat) (r:aL),x.1[i]? =some r->∃ e,l[i]? =some e/\RowOk S F e r/\0≤r.closing/\gs (vn i) x.2 + r.aq + r.closing=r.aI
 use:∀ u∈x.2,0 < u.2.2/\u.1 < u.2.1/\u.2.1≤u.1 + kn/\u.2.1 < l.length
 sort:x.2.Pairwise Lex
 old:∀ u∈x.2,∀ (v:Nat) (r:aL),u.2.1≤v + kn->v < u.1->x.1[v]? =some r->r.aI - gs (bf v (u.2.1 + 1)) x.2≤0
theorem Gb {left:List Rat} {rows:List aL} {i:Nat} {r:aL} (hl:left.length=rows.length) (h:(dJ (bG 0 left) rows)[i]? =some r):∃ r' x,rows[i]? =some r'/\left[i]? =some x/\r={ r' with closing:=x }:=by
 have hlt:=(List.getElem?_eq_some_iff.1 h).1
 rw [uf] at hlt
 obtain ⟨x,hx⟩:∃ x,left[i]? =some x:=⟨_,List.getElem?_eq_getElem aa⟩
 rw [clo_at,hx] at h
 obtain ⟨r',qo,rfl⟩:=Option.map_eq_some_iff.1 h
 exact ⟨r',x,qo,hx,rfl⟩
theorem Nx (S F:Rat) (kn:Nat) (l:List (Rat×Rat)):LedLaw S F kn l (qq S F kn l):=by
 rw [FE]
 have h:=TB S F kn l
 unfold FD
 generalize runT S F kn l=s at h
 refine ⟨by show (dJ _ _).length=_;rw [uf];exact h.rln,fun i r hr=> ?_,fun u hu=> ?_,h.sort,fun u hu v r h1 h2 hr=> ?_⟩
 ·obtain ⟨r',x,qo,hx,rfl⟩:=Gb h.len hr
  obtain ⟨e,he,a⟩:=h.row i r' qo
  obtain ⟨r2,jW,e2⟩:=h.cons i x hx
  rw [qo] at jW
  cases jW
  refine ⟨e,he,⟨a.lim,a.alw,a.den,a.us0,a.us1,a.ded,a.ex0⟩,h.nn x (List.mem_of_getElem? hx),?_⟩
  show gs (vn i) s.uses + r'.aq + x=r'.aI
  rw [e2];grind
 ·have:=h.use u hu
  rw [h.rln] at this
  exact this
 ·obtain ⟨r',x,qo,hx,rfl⟩:=Gb h.len hr
  exact h.old u hu v r' h1 h2 qo
theorem Iz.ae {D:Nat} {a b:Rat} (h:Iz D a) (k:Iz D b):Iz D (ae a b):=by rcases cj a b with ⟨e,_⟩ | ⟨e,_⟩ <;> rw [e] <;> assumption
theorem tb_iz {D:Nat} (y:Nat):∀ {t:List Vq} {m:Rat},(∀ p∈t,Iz D p.2)->Iz D m->(∀ p∈qJ t m,Iz D p.2)/\(∀ u∈rF y t m,Iz D u.2.2)/\Iz D (xd t m)
 | [],m,_,_=>⟨fun p hp=>(by cases hp),fun u hu=>(by cases hu),Iz.zero⟩
 | p::t,m,h,hm=>by
   have hp:=h p cA
   have hr:=hp.ae hm
   obtain ⟨a,b,c⟩:=tb_iz y (t:=t) (m:=m - ae p.2 m) (fun x hx=>h x (by simp [hx])) (hm.sub hr)
   refine ⟨fun q hq=> ?_,fun u hu=> ?_,hr.add c⟩
   ·rcases List.mem_cons.1 hq with rfl | hq
    ·exact hp.sub hr
    ·exact a q hq
   ·rcases List.mem_append.1 (show u∈(if 0 < ae p.2 m then [((p.1,y,ae p.2 m):Uq)] else [])++rF y t (m - ae p.2 m) from hu) with h1 | h1
    ·split at h1
     ·rw [List.mem_singleton.1 h1];exact hr
     ·cases h1
    ·exact b u h1
structure RowZ (D:Nat) (r:aL):Prop where
 lim:Iz D r.bn
 alw:Iz D r.allowed
 den:Iz D r.aI
 us:Iz D r.used
 ded:Iz D r.ay
 ex:Iz D r.aq
 ja:Iz D r.closing
structure PJ (D:Nat) (s:CT):Prop where
 left:∀ x∈s.left,Iz D x
 use:∀ u∈s.uses,Iz D u.2.2
 row:∀ r∈s.rows,RowZ D r
theorem mem_modify {l:List aL} {i:Nat} {f:aL->aL} {r:aL} (h:r∈l.modify i f):r∈l\/∃ r'∈l,r=f r':=by
 obtain ⟨j,hj⟩:=List.mem_iff_getElem?.1 h
 by_cases e:i=j
 ·rw [BJ e] at hj
  obtain ⟨r',qo,rfl⟩:=Option.map_eq_some_iff.1 hj
  exact .inr ⟨r',List.mem_of_getElem? qo,rfl⟩
 ·rw [vC e] at hj
  exact .inl (List.mem_of_getElem? hj)
theorem PK {D:Nat} {S F:Rat} {kn:Nat} {s:CT} (h:PJ D s) {y:Rat×Rat} (hL:Iz D (aw S F y.2)) (hy:Iz D y.1) (n:Nat):PJ D (mC S F kn n s y):=by
 unfold mC
 have hr:=hy.ae hL
 have hm:=hL.sub hr
 obtain ⟨t,ht⟩:∃ t,t=bG (n - kn) (s.left.drop (n - kn)):=⟨_,rfl⟩
 rw [<-ht]
 obtain ⟨a,b,c⟩:=tb_iz n (t:=t) (m:=aw S F y.2 - ae y.1 (aw S F y.2)) (fun p hp=>by rw [ht] at hp;exact h.left _ (List.mem_of_mem_drop (ld hp).2.2)) hm
 have kj:PJ D ⟨(s.left.take (n - kn)++(qJ t (aw S F y.2 - ae y.1 (aw S F y.2))).map (·.2))++[y.1 - ae y.1 (aw S F y.2)],s.rows++[xe S F t y],s.uses++rF n t (aw S F y.2 - ae y.1 (aw S F y.2))⟩:=by
  refine ⟨fun x hx=> ?_,fun u hu=> ?_,fun r qo=> ?_⟩
  ·rcases List.mem_append.1 hx with h1 | h1
   ·rcases List.mem_append.1 h1 with h2 | h2
    ·exact h.left x (List.mem_of_mem_take h2)
    ·obtain ⟨p,hp,rfl⟩:=List.mem_map.1 h2
     exact a p hp
   ·rw [List.mem_singleton.1 h1];exact hy.sub hr
  ·rcases List.mem_append.1 hu with h1 | h1
   ·exact h.use u h1
   ·exact b u h1
  ·rcases List.mem_append.1 qo with h1 | h1
   ·exact h.row r h1
   ·rw [List.mem_singleton.1 h1]
    exact ⟨hL,hr,hy.sub hr,c,hr.add c,Iz.zero,Iz.zero⟩
 generalize (⟨(s.left.take (n - kn)++(qJ t (aw S F y.2 - ae y.1 (aw S F y.2))).map (·.2))++[y.1 - ae y.1 (aw S F y.2)],s.rows++[xe S F t y],s.uses++rF n t (aw S F y.2 - ae y.1 (aw S F y.2))⟩:CT)=s1 at kj ⊢
 unfold qu
 split
 ·have hg:Iz D (s1.left.getD (n - kn) 0):=by
   rw [List.getD_eq_getElem?_getD]
   cases hx:s1.left[n - kn]? with
   | none=>exact Iz.zero
   | some x=>exact kj.left x (List.mem_of_getElem? hx)
  refine ⟨fun x hx=> ?_,kj.use,fun r qo=> ?_⟩
  ·rcases List.mem_or_eq_of_mem_set hx with h1 | h1
   ·exact kj.left x h1
   ·rw [h1];exact Iz.zero
  ·rcases mem_modify qo with h1 | ⟨r',h1,rfl⟩
   ·exact kj.row r h1
   ·have q:=kj.row r' h1
    exact ⟨q.lim,q.alw,q.den,q.us,q.ded,hg,q.ja⟩
 ·exact kj
theorem TC {D:Nat} {S F:Rat} {kn:Nat} {l:List (Rat×Rat)} (hl:∀ e∈l,Iz D (aw S F e.2)/\Iz D e.1):PJ D (runT S F kn l):=by
 have key:∀ (l:List (Rat×Rat)) (s:CT),(∀ e∈l,Iz D (aw S F e.2)/\Iz D e.1)->PJ D s->PJ D (l.foldl (fun s y=>mC S F kn s.rows.length s y) s):=by
  intro l
  induction l with
  | nil=>intro s _ h;exact h
  | cons y l ih=>intro s hl h;exact ih _ (fun e he=>hl e (by simp [he])) (PK h (hl y cA).1 (hl y cA).2 _)
 exact key l _ hl ⟨fun x hx=>(by cases hx),fun x hx=>(by cases hx),fun x hx=>(by cases hx)⟩
theorem TD {v:Nat} {u:Uq}:∀ {us:List Uq},(∀ e∈us,0 < e.2.2)->u∈us->u.1=v->u.2.2≤gs (vn v) us
 | e::us,h,hu,hv=>by
   rw [sk]
   have h0:∀ x∈us,0≤vn v x:=fun x hx=>by
    have:=h x (by simp [hx])
    unfold vn;split <;> grind
   have:=Tx h0
   rcases List.mem_cons.1 hu with rfl | hu
   ·have:vn v u=u.2.2:=by unfold vn;rw [if_pos hv]
    grind
   ·have h1:=TD (fun x hx=>h x (by simp [hx])) hu hv
    have h2:0≤vn v e:=by
     have:=h e cA
     unfold vn;split <;> grind
    grind
theorem TE {D kk:Nat} {M S F:Rat} {kn:Nat} {l:List (Rat×Rat)} (hM:BV D M S F kk l):LedSz kk (qq S F kn l):=by
 have Gc:=Nx S F kn l
 have hz:=TC (kn:=kn) (fun e he=>⟨(hM.el e he).1,(hM.el e he).2.2.1⟩)
 have tt:=TB S F kn l
 have hrz:∀ r∈(qq S F kn l).1,RowZ D r:=fun r hr=>by
  rw [FE] at hr
  obtain ⟨i,hi⟩:=List.mem_iff_getElem?.1 hr
  obtain ⟨r',x,qo,hx,rfl⟩:=Gb tt.len hi
  have q:=hz.row r' (List.mem_of_getElem? qo)
  exact ⟨q.lim,q.alw,q.den,q.us,q.ded,q.ex,hz.left x (List.mem_of_getElem? hx)⟩
 have hgn:∀ v,0≤gs (vn v) (qq S F kn l).2:=fun v=>Tx fun x hx=>by
  have:=(Gc.use x hx).1
  unfold vn;split <;> grind
 have rV:∀ r∈(qq S F kn l).1,(0≤r.bn/\r.bn≤M)/\(-M≤r.allowed/\r.allowed≤M)/\(0≤r.aI/\r.aI≤M)/\(0≤r.used/\r.used≤M + M)/\(-M≤r.ay/\r.ay≤M)/\(0≤r.aq/\r.aq≤M)/\(0≤r.closing/\r.closing≤M):=fun r hr=>by
  obtain ⟨i,hi⟩:=List.mem_iff_getElem?.1 hr
  obtain ⟨e,he,a,hc,hs⟩:=Gc.row i r hi
  obtain ⟨b1,b2,b3,b4,b5⟩:=hM.el e (List.mem_of_getElem? he)
  have Cw:=lN S F e.2
  have h1:=a.lim
  have h2:=a.alw
  have h3:=a.den
  have h4:=a.us0
  have h5:=a.us1
  have h6:=a.ded
  have h7:=a.ex0
  have hg:=hgn i
  rw [<-h1] at Cw b2
  rcases cj e.1 r.bn with ⟨e',_⟩ | ⟨e',_⟩ <;> rw [e'] at h2 <;> refine ⟨⟨?_,?_⟩,⟨?_,?_⟩,⟨?_,?_⟩,⟨?_,?_⟩,⟨?_,?_⟩,⟨?_,?_⟩,?_,?_⟩ <;> grind
 have hM0:∀ r∈(qq S F kn l).1,0≤M:=fun r hr=>by have:=(rV r hr).1;grind
 have hof:∀ x,0≤M->Iz D x->-M≤x->x≤M + M->eM x kk:=fun x h0 h h1 h2=>hM.sz x h dt h2
 refine ⟨fun r hr=> ?_,fun u hu=> ?_⟩
 ·obtain ⟨b1,b2,b3,b4,b5,b6,b7⟩:=rV r hr
  have q:=hrz r hr
  have h0:=hM0 r hr
  exact ⟨hof _ h0 q.lim dt dt,hof _ h0 q.alw dt dt,hof _ h0 q.den dt dt,hof _ h0 q.us dt dt,hof _ h0 q.ded dt dt,hof _ h0 q.ex dt dt,hof _ h0 q.ja dt dt⟩
 ·obtain ⟨c1,c2,c3,c4⟩:=Gc.use u hu
  obtain ⟨r,hr⟩:∃ r,(qq S F kn l).1[u.1]? =some r:=⟨_,List.getElem?_eq_getElem (by rw [Gc.rln];omega)⟩
  have h1:=TD (fun x hx=>(Gc.use x hx).1) hu rfl
  obtain ⟨e,he,a,hc,hs⟩:=Gc.row u.1 r hr
  have b:=rV r (List.mem_of_getElem? hr)
  have h7:=a.ex0
  have h0:=hM0 r (List.mem_of_getElem? hr)
  have oi:Iz D u.2.2:=by rw [FE] at hu;exact hz.use u hu
  exact hof _ h0 oi dt dt
theorem Ah {a b:Rat} {c:Int} (h:ea a b=c):(a≤b->¬ c > 0)/\(b≤a->¬ c < 0)/\(a < b->c < 0)/\(b < a->c > 0)/\(a=b->c=0):=by
 subst h
 refine ⟨fun h=> ?_,fun h=> ?_,fun h=> ?_,fun h=> ?_,fun h=>lK h⟩
 ·have:=lJ.2 h;omega
 ·have:=vw.2 h;omega
 ·by_cases h':ea a b≥0
  ·have:=vw.1 h';grind
  ·omega
 ·by_cases h':ea a b≤0
  ·have:=lJ.1 h';grind
  ·omega
end
section
open Go.RowKit
attribute [local irreducible] aB VS
def vS (S F:RR) (keep:Int) (l:List (RR×RR)):Bool:=dU S F keep && l.all fI && decide (l.length≤40)
def lP (S F:RR) (keep:Int) (l:List (RR×RR)):Int:=if dU S F keep && l.all fI then 3 else 2
theorem Cc (S F:RR) (keep:Int) (l:List (RR×RR)):lP S F keep l≠0:=by unfold lP;split <;> decide
theorem Ny (v u:Value) (a b:RR) (keep:Int) (l:List (RR×RR)) (w:World) (hR:gM w v a b keep) (ha:a.kQ 3) (hb:b.kQ 3) (hl:dp (ue 3) 8 w u l) (hlen:l.length≤100000) (hno:vS a b keep l=false) (c:Int) (hc:lP a b keep l=c):
  Calls Tryz.prog 11 #[v,u] w fun o w'=>o=.returned (.tuple #[.agg #[.slice none 0 0,.slice none 0 0],.int .i64 c])/\aM w w':=by
 subst hc
 unfold lP
 cases h:(dU a b keep && l.all fI) with
 | false=>exact Te v u a b keep l 3 w hR ha hb hl bV hlen h
 | true=>
   unfold vS at hno
   rw [h] at hno
   rw [Bool.and_eq_true] at h
   exact Px v u a b keep l 3 w hR ha hb hl bV hlen h.1 h.2 (by simpa using hno)
structure vT (S F:RR) (keep:Int) (l:List (RR×RR)):Prop where
 k0:0≤keep
 k1:keep≤40
 s0:0≤S.q
 s1:S.q≤1
 rul:dU S F keep=true
 yrs:l.all fI=true
 len:l.length≤40
theorem yb {S F:RR} {keep:Int} {l:List (RR×RR)} (h:vS S F keep l=true):vT S F keep l:=by
 unfold vS at h
 rw [Bool.and_eq_true,Bool.and_eq_true] at h
 obtain ⟨⟨h1,h2⟩,h3⟩:=h
 have hr:=h1
 unfold dU at hr
 simp only [Bool.and_eq_true,decide_eq_true_iff] at hr
 obtain ⟨r1,r2,r3,r4,r5,r6⟩:=hr
 exact ⟨r5,r6,vw.1 r3,lJ.1 r4,h1,h2,of_decide_eq_true h3⟩
theorem Lm.ofSz {q:Rat} {k:Nat} (h:eM q k):Lm k q:=by
 obtain ⟨h1,h2⟩:=h
 have h1:=h1.lt
 have h2:=h2.lt
 exact ⟨by omega,by omega⟩
theorem gM.sz {w:World} {v:Value} {S F:RR} {keep:Int} {k:Nat} (h:gM w v S F keep) (hS:S.kQ k) (hF:F.kQ k) (hk:1≤k):eM S.q k/\eM F.q k:=by
 obtain ⟨p,c,r,d,p',c',r',d',rfl,h1,h2⟩:=h
 exact ⟨(h1.iE hS).sz hk,(h2.iE hF).sz hk⟩
theorem TF {w:World} {v:Value} {l:List (RR×RR)} {k:Nat} (h:dp (ue k) 8 w v l) (hk:1≤k):∀ e∈l,eM e.1.q k/\eM e.2.q k:=fun e he=>by
 obtain ⟨i,hi,hx⟩:=List.mem_iff_getElem.1 he
 obtain ⟨p,c,rfl,_,_⟩:=h.form
 obtain ⟨_,_,cs,_,_,x,y,_,⟨_,_,_,_,_,h1⟩,⟨_,_,_,_,_,h2⟩,f1,f2⟩:=h.at (i:=i) (a:=e) (by rw [List.getElem?_eq_getElem hi,hx])
 exact ⟨(h1.iE f1).sz hk,(h2.iE f2).sz hk⟩
theorem vU {w:World} {v u:Value} {S F:RR} {keep:Int} {l:List (RR×RR)} (hR:gM w v S F keep) (hS:S.kQ 3) (hF:F.kQ 3) (hl:dp (ue 3) 8 w u l) (fD:vT S F keep l) (hlen:l.length≤12):
  BV (S.q.den * F.q.den * xp (bX l)) (((4294967296 ^ 3:Nat):Int):Rat) S.q F.q 82 (bX l):=by
 obtain ⟨h1,h2⟩:=hR.sz hS hF bV
 refine Tj (k:=3) (n:=12) (Lm.ofSz h1) (Lm.ofSz h2) fD.s0 fD.s1 (fun e he=> ?_) (by unfold bX;rw [List.length_map];exact hlen) bV
 obtain ⟨x,hx,rfl⟩:=List.mem_map.1 he
 obtain ⟨a,b⟩:=TF hl bV x hx
 exact ⟨Lm.ofSz a,Lm.ofSz b⟩
theorem JP (v u:Value) (S F:RR) (keep:Int) (kn:Nat) (l:List (RR×RR)) (w:World) (hR:gM w v S F keep) (hS:S.kQ 3) (hF:F.kQ 3) (hl:dp (ue 3) 8 w u l) (fD:vT S F keep l) (hlen:l.length≤12) (rR:keep=(kn:Int)):
  Calls Tryz.prog 11 #[v,u] w fun o w'=>∃ r u',o=.returned (.tuple #[.agg #[r,u'],.int .i64 0])/\qA w.heap.size w' r u' (qq S.q F.q kn (bX l))/\aM w w':=by
 have hM:=vU hR hS hF hl fD hlen
 subst rR
 have:=fD.k1
 exact Nr v u S F kn l 3 82 _ _ w hR hS hF hl bV bV bV fD.rul fD.yrs fD.len aa hM
set_option maxRecDepth 4000
theorem JQ {D kk:Nat} {M S F:Rat} {kn:Nat} {l:List (Rat×Rat)} (hM:BV D M S F kk l):BU D M (iC S F kn l)/\(iC S F kn l).rows.length=l.length:=by
 have key:∀ (l p:List (Rat×Rat)) (s:Jw),(∀ e∈l,Iz D (aw S F e.2)/\aw S F e.2≤M/\Iz D e.1/\-M≤e.1/\e.1≤M)->BU D M s->s.rows.length=p.length->BU D M (l.foldl (fun s y=>eb S F kn s.rows.length s y) s)/\(l.foldl (fun s y=>eb S F kn s.rows.length s y) s).rows.length=(p++l).length:=by
  intro l
  induction l with
  | nil=>intro p s _ h hp;rw [List.append_nil];exact ⟨h,hp⟩
  | cons y l ih=>
    intro p s hl h hp
    obtain ⟨a1,a2,a3,a4,a5⟩:=hl y cA
    obtain ⟨b1,b2⟩:=Nl (keep:=kn) h a1 a2 a3 a4 a5
    have:=ih (p++[y]) _ (fun e he=>hl e (by simp [he])) b1 (by rw [b2,hp,List.length_append];rfl)
    rwa [List.append_assoc] at this
 exact key l [] ⟨[],[],[]⟩ hM.el ⟨fun p hp=>(by cases hp),by show 0 + 0≤2 * 0;omega⟩ rfl
end
section
open Go.RowKit
section
variable {C:Cx} {β:Nat->Nat} {F:Fr} {H:Hp} {a:Act} {w:World} {Q:Exit->Act->World->Prop} {k:List It}
end
theorem rO {b:Nat} {ty:TypeId}:∀ (vs:List Value) (o:Nat) (w:World) (cur:Array Value),w.heap[b]? =some (Obj.cells cur ty (0,0))->∃ JR,(w.setCells b o vs).heap[b]? =some (Obj.cells JR ty (0,0))/\JR.size=cur.size
 | [],_,_,cur,h=>⟨cur,h,rfl⟩
 | v::r,o,w,cur,h=>by
   obtain ⟨c,h1,h2⟩:=rO r (o + 1) (w.setCell ⟨b,o,none⟩ v) (cur.setIfInBounds o v) (aZ.set (b:=b) (t:=ty) (cs:=cur) h v)
   exact ⟨c,h1,by rw [h2];simp⟩
def kH (w:World) (B:Nat) (p:Option Addr) (n:Nat):Prop:=n=0\/∃ g cur,p=some ⟨g,0,none⟩/\B≤g/\w.heap[g]? =some (Obj.cells cur UU (0,0))/\n≤cur.size
def Husk (w:World) (B:Nat) (v:Value):Prop:=∃ s p n c t r m d,v=.agg #[.bool s,.slice p n c,.bool t,.slice r m d]/\kH w B p n/\n≤9223372036854775807/\kH w B r m/\m≤9223372036854775807
structure TG (B:Nat) (w w':World):Prop where
 os:w'.os=w.os
 tape:w'.tape=w.tape
 output:w'.output=w.output
 size:w.heap.size≤w'.heap.size
 ln:∀ b:Nat,b < w.heap.size->(b < B\/∀ cur:Array Value,w.heap[b]?≠some (Obj.cells cur UU (0,0)))->w'.heap[b]? =w.heap[b]?
 shp:∀ (g:Nat) (cur:Array Value),w.heap[g]? =some (Obj.cells cur UU (0,0))->∃ JR,w'.heap[g]? =some (Obj.cells JR UU (0,0))/\JR.size=cur.size
theorem kH.own {w:World} {B n:Nat} {p:Option Addr} {c:Nat} {xs:List Value} (h:w.ownsRow B UU 1 (.slice p n c) n xs):kH w B p n:=by
 rcases h.2 with ⟨h1,_⟩ | ⟨g,cap,cur,hv,hb,hg,h1,h2,h3,_⟩
 ·simp only [Value.slice.injEq] at h1
  exact .inl h1.2.1
 ·simp only [Value.slice.injEq,true_and] at hv
  obtain ⟨Dr,_⟩:=hv
  exact .inr ⟨g,cur,Dr,hb,hg,by omega⟩
theorem aD.row {w:World} {B:Nat} {s:Bool} {p:Option Addr} {n c:Nat} {X:Int} (h:aD w B (.agg #[.bool s,.slice p n c]) X):kH w B p n/\n≤9223372036854775807:=by
 obtain ⟨p',c',hv,ho⟩:=h
 simp only [Value.agg.injEq,Array.mk.injEq,List.cons.injEq,and_true,Value.slice.injEq] at hv
 obtain ⟨_,rfl,rfl,rfl⟩:=hv
 obtain ⟨_,_,hv,h1,h2,_⟩:=(Rd.own ho).u32
 exact ⟨.own ho,by omega⟩
theorem aH.husk {w:World} {B:Nat} {v:Value} {q:Rat} (h:aH w B v q):Husk w B v:=by
 obtain ⟨s,p,n,c,t,r,m,d,rfl,h1,h2⟩:=h
 exact ⟨s,p,n,c,t,r,m,d,rfl,h1.row.1,h1.row.2,h2.row.1,h2.row.2⟩
theorem aZ.spo {B:Nat} {w w':World} {b:Nat} {t:TypeId} {cs:Array Value} (h:aZ w b t cs) (ht:t≠UU) (k:TG B w w'):aZ w' b t cs:=
 (k.ln b h.lt (.inr fun cur e=>ht (by have:=(h.symm.trans e);cases this;rfl))).trans h
def Hk (w w':World):Prop:=∀ (g:Nat) (cur:Array Value),w.heap[g]? =some (Obj.cells cur UU (0,0))->∃ JR,w'.heap[g]? =some (Obj.cells JR UU (0,0))/\JR.size=cur.size
theorem Hk.aF {a b c:World} (h:Hk a b) (k:Hk b c):Hk a c:=fun g cur hg=>by
 obtain ⟨c1,h1,e1⟩:=h g cur hg
 obtain ⟨c2,h2,e2⟩:=k g c1 h1
 exact ⟨c2,h2,e2.trans e1⟩
theorem Hk.kp {w w':World} (h:Kp UU w w'):Hk w w':=fun g cur hg=>⟨cur,h.block UU g cur rfl trivial hg,rfl⟩
section
variable {C:Cx} {Q:Exit->Act->World->Prop} {k:List It} {F:Fr} {H:Hp} {w:World}
theorem ly.spo {β:Nat->Nat} {B:Nat} {i:Nat} {t:TypeId} {cs:List AV} {w w':World} (hU:C.K.U=UU) (h:ly C β w i t cs) (k:TG B w w'):ly C β w' i t cs:=
 ⟨h.new,h.ty,h.cls.spo (fun e=>by have:=h.ty;unfold KC.fz at this;rw [e,hU,Nat.beq_refl] at this;cases this) k,h.ok⟩
theorem Rel.spo {β:Nat->Nat} {B:Nat} {a:Act} {w w':World} (hU:C.K.U=UU) (hr:Rel C β F H a w) (hO:C.Old w') (k:TG B w w'):Rel C β F H a w':=
 ⟨hr.defers,hr.size,hr.tmp,fun i t cs h=>(hr.own i t cs h).spo hU k,hr.apart,hr.closed,hr.fits,hr.hp,hO⟩
theorem Nz {B:Nat} {w0 w w':World} (h:aM w0 w) (hB:w0.heap.size≤B) (k:TG B w w'):aM w0 w':=
 Below.trans h ⟨k.os,k.tape,k.output,k.size,fun b hb=>k.ln b (Nat.lt_of_lt_of_le hb h.size) (.inl aa)⟩
theorem Ce (hC:C.Ok) {m:Option (List FuncId)} {full:Array Oper} {K:Fr->Hp->World->Prop} {q:Act->World->Prop} {tl:List Oper} (hQ:∀ β F H w a w',K F H w->Rel C β F H a w'->bt C.K w w'->wpList C.P full Q tl a w'):
  ∀ (l:List Oper) (β:Nat->Nat) (F:Fr) (H:Hp) (w:World) (a:Act) (w':World),aB C m full l K F H w->Rel C β F H a w'->bt C.K w w'->wpList C.P full Q (l++tl) a w'
 | [],β,F,H,w,a,w',h,hr,hk=>hQ β F H w a w' h hr hk
 | o::r,β,F,H,w,a,w',h,hr,hk=>by
   refine wpList_step fun K' hK'=> ?_
   exact km hC (k:=aB C m full r K) h hr hk fun β F' H' w1 a' sR h1 h2 h3=>hK' _ _ (Ce hC (q:=q) hQ r β F' H' w1 a' sR h1 h2 h3)
def TH (C:Cx) (Q:Exit->Act->World->Prop) (k:List It) (full:Array Oper) (o:Oper) (F:Fr) (H:Hp) (w:World):Prop:=
 ∃ g v B,stepOf C full F H o=.call (.fn g [.val v])/\pA C.P g/\∀ w1,bt C.K w w1->C.Old w1->Calls C.P g #[v] w1 fun e w2=>e=.returned (.tuple #[])/\TG B w1 w2/\C.Old w2/\VS C Q k (F.bu o.dst (.val (.tuple #[]))) H w2
theorem TH.mk' {full:Array Oper} {o:Oper} {g:FuncId} {v:Value} {B:Nat} {wI:World} (e:stepOf C full F H o=.call (.fn g [.val v])) (hf:pA C.P g) (h:∀ w1,bt C.K w w1->C.Old w1->Calls C.P g #[v] w1 fun e w2=>e=.returned (.tuple #[])/\TG B w1 w2) (hO:∀ w1 w2,C.Old w1->TG B w1 w2->C.Old w2)
  (hK:∀ w1 w2,bt C.K w w1->TG B w1 w2->bt C.K wI w2) (hc:∀ w2,bt C.K wI w2->VS C Q k (F.bu o.dst (.val (.tuple #[]))) H w2):TH C Q k full o F H w:=
 ⟨g,v,B,e,hf,fun w1 k1 o1=>(h w1 k1 o1).mono fun e w2 h2=>⟨h2.1,h2.2,hO w1 w2 o1 h2.2,hc w2 (hK w1 w2 k1 h2.2)⟩⟩
theorem VS.NA (hC:C.Ok) (hU:C.K.U=UU) {id:Nat} {ops:Array Oper} (pre:List Oper) (o:Oper) (hops:ops.toList=pre++[o]) (h:aB C none ops pre (TH C Q k ops o) F H w):VS C Q (.code (.region id ops false)::k) F H w:=fun β a w' hr hk=>by
 refine wp_region_list ?_
 rw [hops]
 refine Ce hC (q:=fun _ _=>True) (fun β F H w a w' h hr hk=> ?_) pre β F H w a w' h hr hk
 obtain ⟨g,v,B,hst,hfn,hc⟩:=h
 refine wpList_step fun K' hK'=> ?_
 have hb:stepOf C ops F H o≠.bad:=fun e=>by rw [e] at hst;cases hst
 obtain ⟨hd,⟨hw,hs⟩ | ⟨hw,hs⟩⟩:=jj hb
 ·rw [hs] at hst;cases hst
 ·rw [kX hr hw,if_pos rfl]
  rw [hs] at hst
  refine EY (β:=β) hr hst ⟨hfn,(hc w' hk hr.old).mono ?_⟩
  rintro e w2 ⟨rfl,hsp,hO2,hv⟩
  have jW:=hr.spo hU hO2 hsp
  exact ⟨_,rfl,hK' _ _ (hv β _ w2 (jW.put hd (v:=.val (.tuple #[])) (fun _ hi=>by cases hi)) (bt.refl _ _))⟩
end
def Zb (w:World) (B g:Nat):Prop:=B≤g/\∃ cur:Array Value,w.heap[g]? =some (Obj.cells cur UU (0,0))
structure yA (B:Nat) (w w':World):Prop where
 os:w'.os=w.os
 tape:w'.tape=w.tape
 output:w'.output=w.output
 size:w.heap.size≤w'.heap.size
 ln:∀ b:Nat,b < w.heap.size->¬ Zb w B b->w'.heap[b]? =w.heap[b]?
theorem yA.refl (B:Nat) (w:World):yA B w w:=⟨rfl,rfl,rfl,Nat.le_refl _,fun _ _ _=>rfl⟩
theorem yA.aF {B:Nat} {w a b:World} (h:yA B w a) (k:aM a b):yA B w b:=
 ⟨k.os.trans h.os,k.tape.trans h.tape,k.output.trans h.output,Nat.le_trans h.size k.size,fun x hx hz=>(Below.block k x (Nat.lt_of_lt_of_le hx h.size)).trans (h.ln x hx hz)⟩
theorem yA.set {B:Nat} {w a:World} (h:yA B w a) {b o:Nat} {vs:List Value} (hb:w.heap.size≤b\/Zb w B b):yA B w (a.setCells b o vs):=by
 obtain ⟨e1,e2,e3,e4⟩:=iK (b:=b) vs o a
 refine ⟨e1.trans h.os,e2.trans h.tape,e3.trans h.output,Nat.le_trans h.size e4,fun x hx hz=>(eJ vs o a x (fun e=> ?_)).trans (h.ln x hx hz)⟩
 subst e
 rcases hb with hb | hb
 ·omega
 ·exact hz hb
theorem yA.spo {B:Nat} {w w':World} (h:yA B w w') (k:Hk w w'):TG B w w':=
 ⟨h.os,h.tape,h.output,h.size,fun b hb hd=>h.ln b hb (fun hz=>by
   obtain ⟨h1,cur,h2⟩:=hz
   rcases hd with e | e
   ·omega
   ·exact e cur h2),k⟩
abbrev cxS (P:Program) (w:World) (N:Nat) (B:Nat):Cx:={ P:=P,w0:=w,N:=N,K:=KU UU,SU:=fun t=>Nat.beq t 22,ti:=table,keep:=fun _ _=>trivial
                                                       AQ:=fun _ g=>w.heap.size≤g\/Zb w B g
                                                       Old:=fun w'=>yA B w w'
                                                       sQ:=fun _ _ _ h=>.inl h
                                                       Dx:=fun _ _ _ h _=>h
                                                       fe:=fun _ h=>h.size
                                                       pz:=yA.refl _ _
                                                       uN:=fun a b h _ _ s=>⟨s.os.trans h.os,s.tape.trans h.tape,s.output.trans h.output,Nat.le_trans h.size s.size,fun x hx hz=>by
                                                        rcases s.ln x (Nat.lt_of_lt_of_le hx h.size) with e | ⟨⟨_,hi⟩,_⟩ | e
                                                        ·exact e.trans (h.ln x hx hz)
                                                        ·rcases hi with hi | hi
                                                         ·omega
                                                         ·exact absurd hi hz
                                                        ·exact absurd trivial e⟩
                                                       ER:=fun a ad u h hn hc=>by
                                                        have hb:=jD hc
                                                        rw [World.cell?_of_block (w:=w) (h.ln ad.block hb (fun hz=>hn 0 (.inr hz)))]
                                                        exact hc
                                                       lay:=fun w1 H h _ hf=>by
                                                        obtain ⟨β,w2,h1,h2,h3,h4⟩:=Dw (K:=KU UU) (aM.refl w1) H hf
                                                        exact ⟨β,w2,h1,h.aF h2,fun i t cs hi=>⟨.inl (Nat.le_trans h.size (h3 i t cs hi).1),(h3 i t cs hi).2⟩,h4⟩ }
theorem Cf (w:World) (N B:Nat):(cxS Tryz.prog w N B).Ok:=rn
section
variable {Q:Exit->Act->World->Prop} {F F':Fr} {H H':Hp} {w w1:World} {N B:Nat} {l':List Oper} {k:List It} {id:Nat} {ops:Array Oper}
theorem cxS_r (e:rk (cxS Tryz.prog w1 N B) ops 80 ops.toList F H=(l',F',H')) (h:aB (cxS Tryz.prog w1 N B) none ops l' (VS (cxS Tryz.prog w1 N B) Q k) F' H' w):VS (cxS Tryz.prog w1 N B) Q (.code (.region id ops false)::k) F H w:=VS.region (Cf _ _ _) (VO.run 80 e h)
theorem Eu {b off:Nat} {cs:List Value} {t:TypeId} {cur:Array Value} (hc:aZ w b t cur) (ht:t≠UU) (h:∀ (j:Nat) (u:Value),cs[j]? =some u->w.cell? ((⟨b,off,none⟩:Addr).add j)=some u):∀ (j:Nat) (u:Value),cs[j]? =some u->(cxS Tryz.prog w N B).At ((⟨b,off,none⟩:Addr).add j) u:=by
 intro j u hj w1 rS
 have h0:=h j u hj
 rw [Addr.add_mid] at h0 ⊢
 rw [World.cell?_of_block (w:=w) (a:=⟨b,off + j,none⟩) (rS.ln b hc.lt (fun hz=>by
  obtain ⟨_,c,hz⟩:=hz
  have:=hc.symm.trans hz
  cases this
  exact ht rfl))]
 exact h0
end
section
variable {C:Cx} {β:Nat->Nat} {F:Fr} {H:Hp} {a:Act} {w:World} {Q:Exit->Act->World->Prop} {k:List It}
theorem yd (hC:C.Ok) {m:Option (List FuncId)} {full:Array Oper} {K:Fr->Hp->World->Prop} {q:Act->World->Prop} {tl:List Oper} (hQ:∀ β F H w a w',K F H w->Rel C β F H a w'->bt C.K w w'->wpList C.P full Q tl a w'):
  ∀ (l:List Oper) (β:Nat->Nat) (F:Fr) (H:Hp) (w:World) (a:Act) (w':World),aB C m full l K F H w->Rel C β F H a w'->bt C.K w w'->wpList C.P full Q (l++tl) a w'
 | [],β,F,H,w,a,w',h,hr,hk=>hQ β F H w a w' h hr hk
 | o::r,β,F,H,w,a,w',h,hr,hk=>by
   refine wpList_step fun K' hK'=> ?_
   exact km hC (k:=aB C m full r K) h hr hk fun bW F' H' w1 a' sR h1 h2 h3=>hK' _ _ (yd hC (q:=q) hQ r bW F' H' w1 a' sR h1 h2 h3)
theorem Rel.overV (hr:Rel C β F H a w) {b o:Nat} {vs:List Value} {cur:Array Value} {ty:TypeId} (hO:C.Old (w.setCells b o vs)) (hc:w.heap[b]? =some (Obj.cells cur ty (0,0))) (ht:C.K.fz ty=true):Rel C β F H a (w.setCells b o vs):=by
 refine ⟨hr.defers,hr.size,hr.tmp,fun i t cs h=> ?_,hr.apart,hr.closed,hr.fits,hr.hp,hO⟩
 obtain ⟨h1,h2,h3,h4⟩:=hr.own i t cs h
 refine ⟨h1,h2,(eJ vs o w _ (fun e=> ?_)).trans h3,h4⟩
 rw [e] at h3
 have:=hc.symm.trans h3
 cases this
 rw [h2] at ht
 cases ht
def StoV (C:Cx) (Q:Exit->Act->World->Prop) (k:List It) (full:Array Oper) (o:Oper) (F:Fr) (H:Hp) (w:World):Prop:=
 ∃ t x y b off i v,o.op=.store t x y/\kP C.N o.dst=true/\wants full F o=some true/\ev F x=some (.val (.pointer (some ⟨b,off,none⟩)))/\lg F y=some v/\C.ti t=some i/\v.cells.size=i.size/\v.cells.toList.all Value.oneCell'=true/\
   ∀ w1,bt C.K w w1->C.Old w1->∃ cur ty,w1.heap[b]? =some (Obj.cells cur ty (0,0))/\off + i.size≤cur.size/\C.K.fz ty=true/\C.Old (w1.setCells b off v.cells.toList)/\VS C Q k (F.bu o.dst (.val undef)) H (w1.setCells b off v.cells.toList)
theorem VS.Gd (hC:C.Ok) {id:Nat} {ops:Array Oper} {o:Oper} (hl:ops.toList.getLast? =some o) (h:aB C none ops ops.toList.dropLast (StoV C Q k ops o) F H w):VS C Q (.code (.region id ops false)::k) F H w:=fun β a w' hr hk=>by
 have hops:ops.toList=ops.toList.dropLast++[o]:=by
  obtain ⟨l,hl⟩:=List.getLast?_eq_some_iff.1 hl
  rw [hl];simp
 generalize ops.toList.dropLast=pre at *
 refine wp_region_list ?_
 rw [hops]
 refine yd hC (q:=fun _ _=>True) (fun β F H w a w' h hr hk=> ?_) pre β F H w a w' h hr hk
 obtain ⟨t,x,y,b,off,i,v,hop,hd,hw,hx,hy,hi,hsz,sA,hc⟩:=h
 obtain ⟨cur,ty,h1,h2,h3,h5,h4⟩:=hc w' hk hr.old
 refine wpList_step fun K' hK'=> ?_
 rw [kX hr hw,if_pos rfl]
 have jW:=hr.overV (o:=off) (vs:=v.cells.toList) h5 h1 h3
 have Rj:a.eval x=.pointer (some ⟨b,off,none⟩):=hr.ev hx
 have hy':a.eval y=v:=hr.lg hy
 have hz:=(hC t i hi).size
 refine Oper.wp_skip (w':=w'.setCells b off v.cells.toList) ?_ (hK' _ _ (h4 β _ _ (jW.put hd (v:=.val undef) (fun _ hi=>by cases hi)) (bt.refl _ _)))
 cases hq:C.P.info? t with
 | none=>rw [hq] at hz;simp at hz
 | some ti=>
   rw [hq] at hz
   simp at hz
   have:=run_storeCells_cells (P:=C.P) b off v.cells.toList 0 w' (fun j hj=>by
     obtain ⟨z,hz⟩:∃ z,cur[off + j]? =some z:=⟨_,Array.getElem?_eq_getElem (by rw [Array.length_toList] at hj;omega)⟩
     rw [Nat.add_zero,aZ.cell (b:=b) h1 hz];rfl)
    (fun j _=>aZ.frozen (b:=b) h1 _) (fun z hz=>List.all_eq_true.1 sA z hz)
   rw [Nat.add_zero] at this
   have hst:(Instr.storeAt t (.pointer (some ⟨b,off,none⟩)) v).run C.P w'=.ok () (w'.setCells b off v.cells.toList):=by
    simp only [Instr.storeAt,Instr.sureAddr,storeVar,sizeOf,typeInfo,Sem.run_bind,Sem.run_pure,Result.andThen_ok]
    simp [hq,hz,hsz,this]
   simp [execOp,hop,Rj,hy',hst]
end
theorem Hk.set {w a:World} (h:Hk w a) {b o:Nat} {vs:List Value} {cur:Array Value} (hc:a.heap[b]? =some (Obj.cells cur UU (0,0))):Hk w (a.setCells b o vs):=fun g c hg=>by
 obtain ⟨c1,h1,e1⟩:=h g c hg
 by_cases e:g=b
 ·subst e
  obtain ⟨c2,h2,e2⟩:=rO vs o a c1 h1
  exact ⟨c2,h2,e2.trans e1⟩
 ·exact ⟨c1,(eJ vs o a g e).trans h1,e1⟩
theorem vV {l:List Rat} {v:Nat} {x:Rat} (h:l[v]? =some x):bG v (l.drop v)=(v,x)::bG (v + 1) (l.drop (v + 1)):=by
 obtain ⟨hlt,rfl⟩:=List.getElem?_eq_some_iff.1 h
 rw [List.drop_eq_getElem_cons hlt];rfl
theorem set_drop {l:List Rat} {v:Nat} (y:Rat):(l.set v y).drop (v + 1)=l.drop (v + 1):=by
 rw [List.drop_set,if_pos aa]
theorem TJ {l:List Rat} {v:Nat} {x:Rat} (y:Rat) (h:l[v]? =some x):(l.set v y).take (v + 1)=l.take v++[y]:=by
 have hlt:=(List.getElem?_eq_some_iff.1 h).1
 have:(l.set v y)[v]? =some y:=by rw [List.getElem?_set,if_pos rfl,if_pos hlt]
 rw [cD this,List.take_set,List.set_eq_of_length_le (by rw [List.length_take];omega)]
structure LW (D:Nat) (M2:Rat) (U0 z:Nat) (LT:List Rat) (UT:List Uq) (US m0:Rat) (v:Nat) (left:List Rat) (us:List Uq) (room used:Rat):Prop where
 len:left.length=z
 vz:v≤z
 i1:left.take v++(qJ (bG v (left.drop v)) room).map (·.2)=LT
 i2:us++rF z (bG v (left.drop v)) room=UT
 i3:used + xd (bG v (left.drop v)) room=US
 el:∀ x∈left,Iz D x/\0≤x/\x≤M2
 r0:0≤room
 u0:0≤used
 sm:used + room=m0
 rI:Iz D room
 uI:Iz D used
 ul:us.length≤U0 + v
section
variable {D:Nat} {M2:Rat} {U0 z:Nat} {LT:List Rat} {UT:List Uq} {US m0:Rat} {v:Nat} {left:List Rat} {us:List Uq} {room used:Rat}
theorem LW.step (h:LW D M2 U0 z LT UT US m0 v left us room used) {x:Rat} (hx:left[v]? =some x) (hv:v < z):
  LW D M2 U0 z LT UT US m0 (v + 1) (left.set v (x - ae x room)) (us++if 0 < ae x room then [(v,z,ae x room)] else []) (room - ae x room) (used + ae x room):=by
 obtain ⟨h1,h2,h3,h4,h5,h6,h7,h8,h9,h10,h11,Ed⟩:=h
 obtain ⟨x1,x2,x3⟩:=h6 x (List.mem_of_getElem? hx)
 have nB:0≤ae x room:=by rcases cj x room with ⟨e,_⟩ | ⟨e,_⟩ <;> rw [e] <;> assumption
 have nk:Iz D (ae x room):=by rcases cj x room with ⟨e,_⟩ | ⟨e,_⟩ <;> rw [e] <;> assumption
 have CL:=dw x room
 have xJ:=cI x room
 rw [vV hx] at h3 h4 h5
 rw [rH] at h3
 rw [rG] at h4
 rw [oK] at h5
 refine ⟨by rw [List.length_set];exact h1,by omega,?_,?_,?_,fun y hy=> ?_,by grind,by grind,by grind,h10.sub nk,h11.add nk,?_⟩
 ·rw [TJ _ hx,set_drop,<-h3,List.map_cons,List.append_assoc];rfl
 ·rw [set_drop,<-h4,List.append_assoc]
 ·rw [set_drop,<-h5];grind
 ·rcases List.mem_or_eq_of_mem_set hy with hy | rfl
  ·exact h6 y hy
  ·exact ⟨x1.sub nk,by grind,by grind⟩
 ·rw [List.length_append]
  split
  ·show us.length + 1≤_;omega
  ·show us.length + 0≤_;omega
theorem LW.fin (h:LW D M2 U0 z LT UT US m0 z left us room used):left=LT/\us=UT/\used=US:=by
 obtain ⟨h1,h2,h3,h4,h5,_⟩:=h
 have e:left.drop z=[]:=List.drop_of_length_le aa
 rw [e] at h3 h4 h5
 refine ⟨?_,?_,?_⟩
 ·rw [<-h3,List.take_of_length_le aa];exact (List.append_nil _).symm
 ·rw [<-h4];exact (List.append_nil _).symm
 ·rw [<-h5];exact (Rat.add_zero _).symm
end
structure TOk (D:Nat) (M:Rat) (s:CT):Prop where
 len:s.left.length=s.rows.length
 el:∀ x∈s.left,Iz D x/\0≤x/\x≤M + M
 ul:s.uses.length≤100 * s.rows.length
theorem LW.init {D:Nat} {M:Rat} {s:CT} (h:TOk D M s) {keep z:Nat} (hz:s.rows.length=z) {m:Rat} (hm:Iz D m) (h0:0≤m):
  LW D (M + M) (100 * z) z (s.left.take (z - keep)++(qJ (bG (z - keep) (s.left.drop (z - keep))) m).map (·.2)) (s.uses++rF z (bG (z - keep) (s.left.drop (z - keep))) m) (xd (bG (z - keep) (s.left.drop (z - keep))) m) m (z - keep) s.left s.uses m 0:=by
 obtain ⟨h1,h2,h3⟩:=h
 rw [hz] at h1 h3
 exact ⟨h1,Nat.sub_le _ _,rfl,rfl,by rw [Rat.zero_add],h2,h0,Rat.le_refl,by rw [Rat.zero_add],hm,Iz.zero,by omega⟩
theorem TK (keep n:Nat) (s:CT):(qu keep n s).rows.length=s.rows.length/\(qu keep n s).uses=s.uses/\(qu keep n s).left.length=s.left.length/\∀ x∈(qu keep n s).left,x∈s.left\/x=0:=by
 unfold qu
 split
 ·exact ⟨List.length_modify ..,rfl,List.length_set ..,fun x hx=>List.mem_or_eq_of_mem_set hx⟩
 ·exact ⟨rfl,rfl,rfl,fun x hx=>.inl hx⟩
theorem JS {D:Nat} {M S F:Rat} {keep:Nat} {s:CT} {e:Rat×Rat} (h:TOk D M s) (hlen:s.rows.length≤100) (hL:Iz D (aw S F e.2)) (tY:aw S F e.2≤M) (hx:Iz D e.1) (iV: -M≤e.1) (GI:e.1≤M):TOk D M (mC S F keep s.rows.length s e)/\(mC S F keep s.rows.length s e).rows.length=s.rows.length + 1:=by
 obtain ⟨g1,g2,g3,g4,g5,g6,g7,g8,g9⟩:=np hL (lN S F e.2) tY hx iV GI
 have key:∀ (v:Nat) (left:List Rat) (us:List Uq) (room used:Rat),LW D (M + M) (100 * s.rows.length) s.rows.length (s.left.take (s.rows.length - keep)++(qJ (bG (s.rows.length - keep) (s.left.drop (s.rows.length - keep))) (aw S F e.2 - ae e.1 (aw S F e.2))).map (·.2)) (s.uses++rF s.rows.length (bG (s.rows.length - keep) (s.left.drop (s.rows.length - keep))) (aw S F e.2 - ae e.1 (aw S F e.2))) (xd (bG (s.rows.length - keep) (s.left.drop (s.rows.length - keep))) (aw S F e.2 - ae e.1 (aw S F e.2))) (aw S F e.2 - ae e.1 (aw S F e.2)) v left us room used->
   ∃ Ev us' NB NC,LW D (M + M) (100 * s.rows.length) s.rows.length (s.left.take (s.rows.length - keep)++(qJ (bG (s.rows.length - keep) (s.left.drop (s.rows.length - keep))) (aw S F e.2 - ae e.1 (aw S F e.2))).map (·.2)) (s.uses++rF s.rows.length (bG (s.rows.length - keep) (s.left.drop (s.rows.length - keep))) (aw S F e.2 - ae e.1 (aw S F e.2))) (xd (bG (s.rows.length - keep) (s.left.drop (s.rows.length - keep))) (aw S F e.2 - ae e.1 (aw S F e.2))) (aw S F e.2 - ae e.1 (aw S F e.2)) s.rows.length Ev us' NB NC:=by
  have go:∀ (k v:Nat) (left:List Rat) (us:List Uq) (room used:Rat),k=s.rows.length - v->LW D (M + M) (100 * s.rows.length) s.rows.length (s.left.take (s.rows.length - keep)++(qJ (bG (s.rows.length - keep) (s.left.drop (s.rows.length - keep))) (aw S F e.2 - ae e.1 (aw S F e.2))).map (·.2)) (s.uses++rF s.rows.length (bG (s.rows.length - keep) (s.left.drop (s.rows.length - keep))) (aw S F e.2 - ae e.1 (aw S F e.2))) (xd (bG (s.rows.length - keep) (s.left.drop (s.rows.length - keep))) (aw S F e.2 - ae e.1 (aw S F e.2))) (aw S F e.2 - ae e.1 (aw S F e.2)) v left us room used->
    ∃ Ev us' NB NC,LW D (M + M) (100 * s.rows.length) s.rows.length (s.left.take (s.rows.length - keep)++(qJ (bG (s.rows.length - keep) (s.left.drop (s.rows.length - keep))) (aw S F e.2 - ae e.1 (aw S F e.2))).map (·.2)) (s.uses++rF s.rows.length (bG (s.rows.length - keep) (s.left.drop (s.rows.length - keep))) (aw S F e.2 - ae e.1 (aw S F e.2))) (xd (bG (s.rows.length - keep) (s.left.drop (s.rows.length - keep))) (aw S F e.2 - ae e.1 (aw S F e.2))) (aw S F e.2 - ae e.1 (aw S F e.2)) s.rows.length Ev us' NB NC:=by
   intro k
   induction k with
   | zero=>
     intro v left us room used hk h
     have:v=s.rows.length:=by have:=h.vz;omega
     subst this
     exact ⟨_,_,_,_,h⟩
   | succ k ih=>
     intro v left us room used hk h
     have hv:v < s.rows.length:=by omega
     exact ih _ _ _ _ _ aa (h.step (List.getElem?_eq_getElem (by have:=h.len;omega)) hv)
  exact fun v left us room used h=>go _ v left us room used rfl h
 obtain ⟨Ev,us',NB,NC,hI⟩:=key _ _ _ _ _ (LW.init (keep:=keep) h rfl g7 g8)
 obtain ⟨e1,e2,e3⟩:=hI.fin
 unfold mC
 rw [<-e1,<-e2]
 obtain ⟨a1,a2,a3,a4⟩:=TK keep s.rows.length ⟨Ev++[e.1 - ae e.1 (aw S F e.2)],s.rows++[xe S F (bG (s.rows.length - keep) (s.left.drop (s.rows.length - keep))) e],us'⟩
 have hr:(s.rows++[xe S F (bG (s.rows.length - keep) (s.left.drop (s.rows.length - keep))) e]).length=s.rows.length + 1:=by rw [List.length_append];rfl
 refine ⟨⟨?_,fun x hx=> ?_,?_⟩,by rw [a1];exact hr⟩
 ·rw [a1,a3];show (Ev++_).length=(s.rows++_).length;rw [hr,List.length_append,hI.len];rfl
 ·rcases a4 x hx with hx | rfl
  ·rcases List.mem_append.1 hx with hx | hx
   ·exact hI.el x hx
   ·rw [List.mem_singleton.1 hx];exact ⟨g4,g5,g6⟩
  ·exact ⟨Iz.zero,Rat.le_refl,by grind⟩
 ·rw [a1,a2]
  show us'.length≤100 * (s.rows++_).length
  rw [hr]
  have:=hI.ul
  omega
theorem Ew (S F:Rat) (keep:Nat) (l:List (Rat×Rat)) (y:Rat×Rat):runT S F keep (l++[y])=mC S F keep (runT S F keep l).rows.length (runT S F keep l) y:=by
 unfold runT
 rw [List.foldl_append];rfl
theorem ye {l:List Rat} {v:Nat} {x:Rat} (h:l[v]? =some x) (r:List aL):dJ (bG v (l.drop v)) r=dJ (bG (v + 1) (l.drop (v + 1))) (r.modify v (fun y=>{ y with closing:=x })):=by
 rw [vV h];rfl
end
set_option maxRecDepth 4000
section
open Go.RowKit
attribute [local irreducible] aB VS
theorem nw {α:Type} {l:List α} {a:α} (h:l[0]? =some a):l.take 1=[a]:=by
 have:=cD h
 simpa using this
theorem JT (v:Value) (S F:RR) (keep:Int) (k:Nat) (w:World) (h:gM w v S F keep) (hS:S.kQ k) (hF:F.kQ k) (hk:k≤1000000):
  Calls Tryz.prog 18 #[v] w fun o w'=>∃ r,o=.returned r/\gM w' r S F keep/\aM w w':=by
 obtain ⟨ap,ac,ar,ad,bp,bc,br,bd,rfl,ha,hb⟩:=h
 obtain ⟨f1,f2⟩:=hS
 obtain ⟨f3,f4⟩:=hF
 refine ah (C:=bS Tryz.prog w _) (args:=[_]) Tryz.func18 rfl Tryz.ntmps18 (bB rfl) ?_
 refine ab ?_
 refine VO.call rfl rfl (fk Tryz.func28) (fun bF cU bJ=>(bK S.1 S.2.2.1 S.2.1 S.2.2.2 _ bF (ha.kp (Kp.of (U:=UU) bJ)) aa aa).mono ?_)
 rintro e w1 ⟨r1,rfl,q1,aK⟩
 obtain ⟨ND,NF,NG,NH,rfl,-⟩:=q1.raw.gl
 refine ⟨_,rfl,aK,fun dC _ bb1=>wV rfl ?_⟩
 refine ab ?_
 refine VO.call rfl rfl (fk Tryz.func28) (fun cK eg di=>(bK F.1 F.2.2.1 F.2.1 F.2.2.2 _ cK (hb.kp (Kp.of (U:=UU) di)) aa aa).mono ?_)
 rintro e w2 ⟨r2,rfl,q2,ba⟩
 obtain ⟨NI,NJ,NK,NL,rfl,-⟩:=q2.raw.gl
 refine ⟨_,rfl,ba,fun ed _ bb2=>wV rfl ?_⟩
 refine ab ?_
 refine aY ?_;intro wz kz bz
 exact ⟨_,rfl,⟨_,_,_,_,_,_,_,_,rfl,q1.raw.kp aR,q2.raw.kp aR⟩,bz⟩
set_option maxRecDepth 4000 in
theorem JU (v:Value) (l:List (RR×RR)) (kk:Nat) (w:World) (hv:dp (ue kk) 8 w v l) (hk:kk≤1000000) (hn:l.length≤1000000):
  Calls Tryz.prog 19 #[v] w fun o w'=>∃ r,o=.returned r/\iA (ue kk) 8 100 w.heap.size w' r l/\aM w w':=by
 obtain ⟨p,c,rfl,fM,gg⟩:=hv.form
 obtain ⟨N,hN⟩:∃ N,N=l.length:=⟨_,rfl⟩
 rw [<-hN] at hv fM hn
 rw [<-hN]
 refine ah (C:=bS Tryz.prog w _) (args:=[_]) Tryz.func19 rfl Tryz.ntmps19 (bB rfl) ?_
 refine ab ?_
 refine VS.loop (J:=fun m L M w'=>∃ z:Nat,z≤N/\m=N - z/\
  ((z=0/\L=[(0,.val (.slice p N c)),(3,.val (.slice none 0 0)),(4,.val (.int .i64 (z:Int)))]/\M=[])\/
   (0 < z/\∃ vs sp cap,L=[(0,.val (.slice p N c)),(3,.row 26 0 z cap),(4,.val (.int .i64 (z:Int)))]/\M=[(26,(100,vs.flatten.map .val++sp))]/\iB (ue kk) 8 w' z cap vs sp (l.take z)))) N ⟨_,_,?_,?_,?_,?_,⟨0,by omega,rfl,.inl ⟨rfl,rfl,rfl⟩⟩⟩ ?_
 ·exact bT
 ·exact bT
 ·rfl
 ·exact ic
 rintro m L M wJ ⟨z,hz,rfl,⟨rfl,rfl,rfl⟩ | ⟨kN,vs,sp,cap,rfl,rfl,Ge⟩⟩
 ·refine ab ?_
  by_cases hlt:(0:Nat) < N
  ·obtain ⟨e,he⟩:∃ e,l[0]? =some e:=⟨_,List.getElem?_eq_getElem aa⟩
   obtain ⟨b,off,eQ,rfl,hc,⟨_,_,rfl,⟨ap,ac,ar,ad,rfl,ha⟩,⟨bp,bc,br,bd,rfl,hb⟩,⟨f1,f2⟩,⟨f3,f4⟩⟩⟩:=hv.at he
   refine VS.aP rfl (decide_eq_true (Int.ofNat_lt.2 hlt)) ?_
   refine ab ?_
   refine VO.cond rfl du ?_
   refine wV rfl ?_
   refine ab ?_
   refine VO.read rfl [.bool e.1.1,.slice ap e.1.2.1.length ac,.bool e.1.2.2.1,.slice ar e.1.2.2.2.length ad] rfl (aN hc 0 _ ⟨_,rfl⟩) (wV rfl ?_)
   refine ab ?_
   refine VO.call rfl rfl (fk Tryz.func28) (fun bF cU bJ=>(bK e.1.1 e.1.2.2.1 e.1.2.1 e.1.2.2.2 _ bF (ha.kp (Kp.of (U:=UU) bJ)) aa aa).mono ?_)
   rintro e w1 ⟨r1,rfl,q1,aK⟩
   obtain ⟨ND,NF,NG,NH,rfl,-⟩:=q1.raw.gl
   refine ⟨_,rfl,aK,fun dC _ bb1=>wV rfl ?_⟩
   refine ab ?_
   refine VO.cond rfl du ?_
   refine wV rfl ?_
   refine ab ?_
   refine VO.read rfl [.bool e.2.1,.slice bp e.2.2.1.length bc,.bool e.2.2.2.1,.slice br e.2.2.2.2.length bd] rfl (aN hc 4 _ ⟨[],rfl⟩) (wV rfl ?_)
   refine ab ?_
   refine VO.call rfl rfl (fk Tryz.func28) (fun cK eg di=>(bK e.2.1 e.2.2.2.1 e.2.2.1 e.2.2.2.2 _ cK (hb.kp (Kp.of (U:=UU) di)) aa aa).mono ?_)
   rintro e w2 ⟨r2,rfl,q2,ba⟩
   obtain ⟨NI,NJ,NK,NL,rfl,-⟩:=q2.raw.gl
   refine ⟨_,rfl,ba,fun ed _ bb2=>wV rfl ?_⟩
   refine ab ?_
   refine VO.BD (cJ _ _) (dM kk) (t:=59) (e:=100) (s:=25) (a:=e) (cs:=[.bool e.1.1,.slice ND e.1.2.1.length NF,.bool e.1.2.2.1,.slice NG e.1.2.2.2.length NH,.bool e.2.1,.slice NI e.2.2.1.length NJ,.bool e.2.2.2.1,.slice NK e.2.2.2.2.length NL]) rfl rfl rfl rfl rfl rfl rfl rfl (bB rfl) rfl rfl rfl ⟨[.bool e.1.1,.slice ND e.1.2.1.length NF,.bool e.1.2.2.1,.slice NG e.1.2.2.2.length NH],[.bool e.2.1,.slice NI e.2.2.1.length NJ,.bool e.2.2.2.1,.slice NK e.2.2.2.2.length NL],rfl,⟨_,_,_,_,rfl,q1.raw.kp aR⟩,⟨_,_,_,_,rfl,q2.raw.kp aR⟩,⟨f1,f2⟩,⟨f3,f4⟩⟩ aa (fun w8 cap sp k8 b8 TL=>wV rfl ?_)
   refine ab ?_
   refine VS.back (N - (0 + 1)) aa ⟨_,_,?_,?_,?_,?_,⟨1,by omega,rfl,.inr ⟨by omega,_,sp,cap,rfl,rfl,by rw [nw he];exact TL⟩⟩⟩
   ·refine ⟨rfl,rfl,?_,trivial⟩
    rfl
   ·exact ⟨rfl,trivial⟩
   ·rfl
   ·exact ⟨TL.ja,trivial⟩
  ·refine VS.aQ rfl (decide_eq_false (fun e=>hlt (Int.ofNat_lt.1 e))) ?_
   obtain rfl:N=0:=by omega
   refine ab ?_
   refine aY ?_;intro wz kz bz
   exact ⟨_,rfl,.inl ⟨rfl,List.length_eq_zero_iff.1 hN.symm⟩,bz⟩
 ·refine ab ?_
  by_cases hlt:z < N
  ·obtain ⟨e,he⟩:∃ e,l[z]? =some e:=⟨_,List.getElem?_eq_getElem aa⟩
   obtain ⟨b,off,eQ,rfl,hc,⟨_,_,rfl,⟨ap,ac,ar,ad,rfl,ha⟩,⟨bp,bc,br,bd,rfl,hb⟩,⟨f1,f2⟩,⟨f3,f4⟩⟩⟩:=hv.at he
   refine VS.aP rfl (decide_eq_true (Int.ofNat_lt.2 hlt)) ?_
   refine ab ?_
   refine VO.cond rfl du ?_
   refine wV rfl ?_
   refine ab ?_
   refine VO.read rfl [.bool e.1.1,.slice ap e.1.2.1.length ac,.bool e.1.2.2.1,.slice ar e.1.2.2.2.length ad] rfl (aN hc 0 _ ⟨_,rfl⟩) (wV rfl ?_)
   refine ab ?_
   refine VO.call rfl rfl (fk Tryz.func28) (fun bF cU bJ=>(bK e.1.1 e.1.2.2.1 e.1.2.1 e.1.2.2.2 _ bF (ha.kp (Kp.of (U:=UU) bJ)) aa aa).mono ?_)
   rintro e w1 ⟨r1,rfl,q1,aK⟩
   obtain ⟨ND,NF,NG,NH,rfl,-⟩:=q1.raw.gl
   refine ⟨_,rfl,aK,fun dC _ bb1=>wV rfl ?_⟩
   refine ab ?_
   refine VO.cond rfl du ?_
   refine wV rfl ?_
   refine ab ?_
   refine VO.read rfl [.bool e.2.1,.slice bp e.2.2.1.length bc,.bool e.2.2.2.1,.slice br e.2.2.2.2.length bd] rfl (aN hc 4 _ ⟨[],rfl⟩) (wV rfl ?_)
   refine ab ?_
   refine VO.call rfl rfl (fk Tryz.func28) (fun cK eg di=>(bK e.2.1 e.2.2.2.1 e.2.2.1 e.2.2.2.2 _ cK (hb.kp (Kp.of (U:=UU) di)) aa aa).mono ?_)
   rintro e w2 ⟨r2,rfl,q2,ba⟩
   obtain ⟨NI,NJ,NK,NL,rfl,-⟩:=q2.raw.gl
   refine ⟨_,rfl,ba,fun ed _ bb2=>wV rfl ?_⟩
   refine ab ?_
   refine VO.vx (cJ _ _) (dM kk) (t:=59) (e:=100) (s:=25) (i:=26) (n:=z) (c:=cap) (vs:=vs) (sp:=sp) (es:=l.take z) (a:=e) (cs:=[.bool e.1.1,.slice ND e.1.2.1.length NF,.bool e.1.2.2.1,.slice NG e.1.2.2.2.length NH,.bool e.2.1,.slice NI e.2.2.1.length NJ,.bool e.2.2.2.1,.slice NK e.2.2.2.2.length NL]) rfl rfl rfl rfl rfl rfl rfl rfl (bB rfl) rfl (.inr rfl) rfl (Ge.kp (dM kk) aR) rfl ⟨[.bool e.1.1,.slice ND e.1.2.1.length NF,.bool e.1.2.2.1,.slice NG e.1.2.2.2.length NH],[.bool e.2.1,.slice NI e.2.2.1.length NJ,.bool e.2.2.2.1,.slice NK e.2.2.2.2.length NL],rfl,⟨_,_,_,_,rfl,q1.raw.kp aR⟩,⟨_,_,_,_,rfl,q2.raw.kp aR⟩,⟨f1,f2⟩,⟨f3,f4⟩⟩ aa (fun w8 iD oc ρ k8 b8 fF TL=>wV rfl ?_)
   refine ab ?_
   refine VS.back (N - (z + 1)) aa ⟨_,_,?_,?_,?_,?_,⟨z + 1,by omega,rfl,.inr ⟨by omega,_,oc,iD,rfl,rfl,by rw [cD he];exact TL⟩⟩⟩
   ·refine ⟨rfl,rfl,?_,trivial⟩
    rw [<-aE (i:=z) aa];rfl
   ·exact ⟨rfl,trivial⟩
   ·rfl
   ·exact ⟨TL.ja,trivial⟩
  ·refine VS.aQ rfl (decide_eq_false (fun e=>hlt (Int.ofNat_lt.1 e))) ?_
   obtain rfl:z=N:=by omega
   refine ab ?_
   refine VS.lz (cJ _ _) rfl (fun wz β kz bz en=> ?_)
   rw [List.take_of_length_le aa] at Ge
   exact ⟨_,rfl,Ge.new (dM kk) (en.own 26 _ _ rfl) kz,bz⟩
set_option maxRecDepth 4000 in
theorem vW (r u:Value) (X:List fJ×List gr) (kk:Nat) (w:World) (hL:FY kk w r u X) (hk:kk≤1000000) (MQ:X.1.length≤1000000) (hx2:X.2.length≤1000000):
  Calls Tryz.prog 22 #[.agg #[r,u]] w fun o w'=>∃ r' u',o=.returned (.agg #[r',u'])/\iA (qD kk) 28 108 w.heap.size w' r' X.1/\iA (vR kk) 6 106 w.heap.size w' u' X.2/\aM w w':=by
 obtain ⟨rp,rc,rfl,hrc,hrm⟩:=hL.1.form
 obtain ⟨up,uc,rfl,TM,hum⟩:=hL.2.form
 obtain ⟨N,rT⟩:∃ N,N=X.1.length:=⟨_,rfl⟩
 obtain ⟨n,uY⟩:∃ n,n=X.2.length:=⟨_,rfl⟩
 obtain ⟨h1,h2⟩:=hL
 rw [<-rT] at h1 hrc MQ
 rw [<-uY] at h2 TM hx2
 rw [<-rT,<-uY]
 refine ah (C:=bS Tryz.prog w _) (args:=[_]) Tryz.func22 rfl Tryz.ntmps22 (bB rfl) ?_
 refine ab ?_
 refine VS.loop (J:=fun m L M w'=>∃ z:Nat,z≤N/\m=N - z/\
  ((z=0/\L=[(1,.box 1 0),(2,.box 2 0),(3,.box 3 0),(4,.val (.int .i64 (z:Int)))]/\M=[(1,(36,[.val (.slice rp N rc),.val (.slice up n uc)])),(2,(64,[.val (.slice none 0 0),.val (.slice none 0 0)])),(3,(64,[.val (.slice none 0 0),.val (.slice none 0 0)]))])\/
   (0 < z/\∃ vs sp cap,L=[(1,.box 1 0),(2,.box 2 0),(3,.box 3 0),(4,.val (.int .i64 (z:Int)))]/\M=[(1,(36,[.val (.slice rp N rc),.val (.slice up n uc)])),(2,(64,[.val (.slice none 0 0),.val (.slice none 0 0)])),(3,(64,[.row 45 0 z cap,.val (.slice none 0 0)])),(45,(108,vs.flatten.map .val++sp))]/\iB (qD kk) 28 w' z cap vs sp (X.1.take z)))) N ⟨_,_,?_,?_,?_,?_,⟨0,by omega,rfl,.inl ⟨rfl,rfl,rfl⟩⟩⟩ ?_
 ·exact bT
 ·exact bT
 ·rfl
 ·exact ic
 rintro m L M wJ ⟨z,hz,rfl,⟨rfl,rfl,rfl⟩ | ⟨kN,vs,sp,cap,rfl,rfl,Ge⟩⟩
 ·refine ab ?_
  by_cases hlt:(0:Nat) < N
  ·obtain ⟨e,he⟩:∃ e,X.1[0]? =some e:=⟨_,List.getElem?_eq_getElem aa⟩
   obtain ⟨b,off,eQ,fN,hc,⟨_,_,_,_,_,_,_,rfl,⟨⟨z0p,z0c,z0r,z0d,rfl,g0⟩,⟨f0,j0⟩⟩,⟨⟨z1p,z1c,z1r,z1d,rfl,g1⟩,⟨f1,j1⟩⟩,⟨⟨z2p,z2c,z2r,z2d,rfl,g2⟩,⟨f2,j2⟩⟩,⟨⟨z3p,z3c,z3r,z3d,rfl,g3⟩,⟨f3,j3⟩⟩,⟨⟨z4p,z4c,z4r,z4d,rfl,g4⟩,⟨f4,j4⟩⟩,⟨⟨z5p,z5c,z5r,z5d,rfl,g5⟩,⟨f5,j5⟩⟩,⟨⟨z6p,z6c,z6r,z6d,rfl,g6⟩,⟨f6,j6⟩⟩⟩⟩:=h1.at he
   subst fN
   refine VS.aP rfl (decide_eq_true (Int.ofNat_lt.2 hlt)) ?_
   refine ab ?_
   refine VO.cond rfl du ?_
   refine wV rfl ?_
   refine ab ?_
   refine VO.read rfl [.bool e.bn.1,.slice z0p e.bn.2.1.length z0c,.bool e.bn.2.2.1,.slice z0r e.bn.2.2.2.length z0d,.bool e.allowed.1,.slice z1p e.allowed.2.1.length z1c,.bool e.allowed.2.2.1,.slice z1r e.allowed.2.2.2.length z1d,.bool e.aI.1,.slice z2p e.aI.2.1.length z2c,.bool e.aI.2.2.1,.slice z2r e.aI.2.2.2.length z2d,.bool e.used.1,.slice z3p e.used.2.1.length z3c,.bool e.used.2.2.1,.slice z3r e.used.2.2.2.length z3d,.bool e.ay.1,.slice z4p e.ay.2.1.length z4c,.bool e.ay.2.2.1,.slice z4r e.ay.2.2.2.length z4d,.bool e.aq.1,.slice z5p e.aq.2.1.length z5c,.bool e.aq.2.2.1,.slice z5r e.aq.2.2.2.length z5d,.bool e.closing.1,.slice z6p e.closing.2.1.length z6c,.bool e.closing.2.2.1,.slice z6r e.closing.2.2.2.length z6d] rfl (aN hc 0 _ ⟨[],rfl⟩) (wV rfl ?_)
   refine ab ?_
   refine VO.call rfl rfl (fk Tryz.func28) (fun bF cU bJ=>(bK e.bn.1 e.bn.2.2.1 e.bn.2.1 e.bn.2.2.2 _ bF (g0.kp (Kp.of (U:=UU) bJ)) aa aa).mono ?_)
   rintro e w1 ⟨r1,rfl,q1,aK⟩
   obtain ⟨v0p,v0c,v0r,v0d,rfl,-⟩:=q1.raw.gl
   refine ⟨_,rfl,aK,fun dC _ bb1=>wV rfl ?_⟩
   refine ab ?_
   refine VO.call rfl rfl (fk Tryz.func28) (fun cK eg di=>(bK e.allowed.1 e.allowed.2.2.1 e.allowed.2.1 e.allowed.2.2.2 _ cK (g1.kp (Kp.of (U:=UU) di)) aa aa).mono ?_)
   rintro e w2 ⟨r2,rfl,q2,ba⟩
   obtain ⟨ND,NF,NG,NH,rfl,-⟩:=q2.raw.gl
   refine ⟨_,rfl,ba,fun ed _ bb2=>wV rfl ?_⟩
   refine ab ?_
   refine VO.call rfl rfl (fk Tryz.func28) (fun fh fE fG=>(bK e.aI.1 e.aI.2.2.1 e.aI.2.1 e.aI.2.2.2 _ fh (g2.kp (Kp.of (U:=UU) fG)) aa aa).mono ?_)
   rintro e w3 ⟨r3,rfl,q3,cG⟩
   obtain ⟨NI,NJ,NK,NL,rfl,-⟩:=q3.raw.gl
   refine ⟨_,rfl,cG,fun gT _ bb3=>wV rfl ?_⟩
   refine ab ?_
   refine VO.call rfl rfl (fk Tryz.func28) (fun iP jT jX=>(bK e.used.1 e.used.2.2.1 e.used.2.1 e.used.2.2.2 _ iP (g3.kp (Kp.of (U:=UU) jX)) aa aa).mono ?_)
   rintro e w4 ⟨r4,rfl,q4,eV⟩
   obtain ⟨v3p,v3c,v3r,v3d,rfl,-⟩:=q4.raw.gl
   refine ⟨_,rfl,eV,fun lh _ sT=>wV rfl ?_⟩
   refine ab ?_
   refine VO.call rfl rfl (fk Tryz.func28) (fun gf jl gD=>(bK e.ay.1 e.ay.2.2.1 e.ay.2.1 e.ay.2.2.2 _ gf (g4.kp (Kp.of (U:=UU) gD)) aa aa).mono ?_)
   rintro e w5 ⟨r5,rfl,q5,eE⟩
   obtain ⟨v4p,v4c,v4r,v4d,rfl,-⟩:=q5.raw.gl
   refine ⟨_,rfl,eE,fun jy _ qi=>wV rfl ?_⟩
   refine ab ?_
   refine VO.call rfl rfl (fk Tryz.func28) (fun gj kx iz=>(bK e.aq.1 e.aq.2.2.1 e.aq.2.1 e.aq.2.2.2 _ gj (g5.kp (Kp.of (U:=UU) iz)) aa aa).mono ?_)
   rintro e w6 ⟨r6,rfl,q6,fx⟩
   obtain ⟨v5p,v5c,v5r,v5d,rfl,-⟩:=q6.raw.gl
   refine ⟨_,rfl,fx,fun jz _ oX=>wV rfl ?_⟩
   refine ab ?_
   refine VO.call rfl rfl (fk Tryz.func28) (fun mz qj lZ=>(bK e.closing.1 e.closing.2.2.1 e.closing.2.1 e.closing.2.2.2 _ mz (g6.kp (Kp.of (U:=UU) lZ)) aa aa).mono ?_)
   rintro e w7 ⟨r7,rfl,q7,lC⟩
   obtain ⟨v6p,v6c,v6r,v6d,rfl,-⟩:=q7.raw.gl
   refine ⟨_,rfl,lC,fun oC _ Bx=>wV rfl ?_⟩
   refine ab ?_
   refine VO.BD (cJ _ _) (dK kk) (t:=61) (e:=108) (s:=44) (a:=e) (cs:=[.bool e.bn.1,.slice v0p e.bn.2.1.length v0c,.bool e.bn.2.2.1,.slice v0r e.bn.2.2.2.length v0d,.bool e.allowed.1,.slice ND e.allowed.2.1.length NF,.bool e.allowed.2.2.1,.slice NG e.allowed.2.2.2.length NH,.bool e.aI.1,.slice NI e.aI.2.1.length NJ,.bool e.aI.2.2.1,.slice NK e.aI.2.2.2.length NL,.bool e.used.1,.slice v3p e.used.2.1.length v3c,.bool e.used.2.2.1,.slice v3r e.used.2.2.2.length v3d,.bool e.ay.1,.slice v4p e.ay.2.1.length v4c,.bool e.ay.2.2.1,.slice v4r e.ay.2.2.2.length v4d,.bool e.aq.1,.slice v5p e.aq.2.1.length v5c,.bool e.aq.2.2.1,.slice v5r e.aq.2.2.2.length v5d,.bool e.closing.1,.slice v6p e.closing.2.1.length v6c,.bool e.closing.2.2.1,.slice v6r e.closing.2.2.2.length v6d]) rfl rfl rfl rfl rfl rfl rfl rfl (bB rfl) rfl rfl rfl ⟨[.bool e.bn.1,.slice v0p e.bn.2.1.length v0c,.bool e.bn.2.2.1,.slice v0r e.bn.2.2.2.length v0d],[.bool e.allowed.1,.slice ND e.allowed.2.1.length NF,.bool e.allowed.2.2.1,.slice NG e.allowed.2.2.2.length NH],[.bool e.aI.1,.slice NI e.aI.2.1.length NJ,.bool e.aI.2.2.1,.slice NK e.aI.2.2.2.length NL],[.bool e.used.1,.slice v3p e.used.2.1.length v3c,.bool e.used.2.2.1,.slice v3r e.used.2.2.2.length v3d],[.bool e.ay.1,.slice v4p e.ay.2.1.length v4c,.bool e.ay.2.2.1,.slice v4r e.ay.2.2.2.length v4d],[.bool e.aq.1,.slice v5p e.aq.2.1.length v5c,.bool e.aq.2.2.1,.slice v5r e.aq.2.2.2.length v5d],[.bool e.closing.1,.slice v6p e.closing.2.1.length v6c,.bool e.closing.2.2.1,.slice v6r e.closing.2.2.2.length v6d],rfl,⟨⟨_,_,_,_,rfl,q1.raw.kp aR⟩,⟨f0,j0⟩⟩,⟨⟨_,_,_,_,rfl,q2.raw.kp aR⟩,⟨f1,j1⟩⟩,⟨⟨_,_,_,_,rfl,q3.raw.kp aR⟩,⟨f2,j2⟩⟩,⟨⟨_,_,_,_,rfl,q4.raw.kp aR⟩,⟨f3,j3⟩⟩,⟨⟨_,_,_,_,rfl,q5.raw.kp aR⟩,⟨f4,j4⟩⟩,⟨⟨_,_,_,_,rfl,q6.raw.kp aR⟩,⟨f5,j5⟩⟩,⟨⟨_,_,_,_,rfl,q7.raw.kp aR⟩,⟨f6,j6⟩⟩⟩ aa (fun w8 cap sp k8 b8 TL=>wV rfl ?_)
   refine ab ?_
   refine VS.back (N - (0 + 1)) aa ⟨_,_,?_,?_,?_,?_,⟨1,by omega,rfl,.inr ⟨by omega,_,sp,cap,rfl,rfl,by rw [nw he];exact TL⟩⟩⟩
   ·exact bT
   ·exact bT
   ·rfl
   ·exact ⟨.lit rfl,.lit rfl,.lit rfl,TL.ja,trivial⟩
  ·refine VS.aQ rfl (decide_eq_false (fun e=>hlt (Int.ofNat_lt.1 e))) ?_
   have hN0:N=0:=by omega
   refine ab ?_
   refine VS.loop (J:=fun m L M w'=>∃ z:Nat,z≤n/\m=n - z/\
    ((z=0/\L=[(1,.box 1 0),(2,.box 2 0),(3,.box 3 0),(6,.val (.int .i64 (z:Int)))]/\M=[(1,(36,[.val (.slice rp N rc),.val (.slice up n uc)])),(2,(64,[.val (.slice none 0 0),.val (.slice none 0 0)])),(3,(64,[.val (.slice none 0 0),.val (.slice none 0 0)]))])\/
     (0 < z/\∃ us oL Gf,L=[(1,.box 1 0),(2,.box 2 0),(3,.box 3 0),(6,.val (.int .i64 (z:Int)))]/\M=[(1,(36,[.val (.slice rp N rc),.val (.slice up n uc)])),(2,(64,[.val (.slice none 0 0),.val (.slice none 0 0)])),(3,(64,[.val (.slice none 0 0),.row 70 0 z Gf])),(70,(106,us.flatten.map .val++oL))]/\iB (vR kk) 6 w' z Gf us oL (X.2.take z)))) n ⟨_,_,?_,?_,?_,?_,⟨0,by omega,rfl,.inl ⟨rfl,rfl,rfl⟩⟩⟩ ?_
   ·exact bT
   ·exact bT
   ·rfl
   ·exact ⟨.lit rfl,.lit rfl,.lit rfl,trivial⟩
   rintro m2 L2 M2 wL ⟨z,hz,rfl,⟨rfl,rfl,rfl⟩ | ⟨kN,us,oL,Gf,rfl,rfl,hU⟩⟩
   ·refine ab ?_
    by_cases hlt:(0:Nat) < n
    ·obtain ⟨e,he⟩:∃ e,X.2[0]? =some e:=⟨_,List.getElem?_eq_getElem aa⟩
     obtain ⟨b,off,eQ,fN,hc,⟨_,rfl,⟨ap,ac,ar,ad,rfl,g0⟩,⟨f0,h0⟩⟩⟩:=h2.at he
     subst fN
     refine VS.aP rfl (decide_eq_true (Int.ofNat_lt.2 hlt)) ?_
     refine ab ?_
     refine VO.cond rfl du ?_
     refine wV rfl ?_
     refine ab ?_
     refine VO.read rfl [.int .i64 e.1,.int .i64 e.2.1,.bool e.2.2.1,.slice ap e.2.2.2.1.length ac,.bool e.2.2.2.2.1,.slice ar e.2.2.2.2.2.length ad] rfl (aN hc 0 _ ⟨[],rfl⟩) (wV rfl ?_)
     refine ab ?_
     refine VO.call rfl rfl (fk Tryz.func28) (fun sB CP vo=>(bK e.2.2.1 e.2.2.2.2.1 e.2.2.2.1 e.2.2.2.2.2 _ sB (g0.kp (Kp.of (U:=UU) vo)) aa aa).mono ?_)
     rintro e w8 ⟨r8,rfl,q8,qe⟩
     obtain ⟨vp,vc,vr,vd,rfl,-⟩:=q8.raw.gl
     refine ⟨_,rfl,qe,fun sC _ Kk=>wV rfl ?_⟩
     refine ab ?_
     refine VO.BD (cJ _ _) (eP kk) (t:=62) (e:=106) (s:=69) (a:=e) (cs:=[.int .i64 e.1,.int .i64 e.2.1,.bool e.2.2.1,.slice vp e.2.2.2.1.length vc,.bool e.2.2.2.2.1,.slice vr e.2.2.2.2.2.length vd]) rfl rfl rfl rfl rfl rfl rfl rfl (bB rfl) rfl rfl rfl ⟨[.bool e.2.2.1,.slice vp e.2.2.2.1.length vc,.bool e.2.2.2.2.1,.slice vr e.2.2.2.2.2.length vd],rfl,⟨_,_,_,_,rfl,q8.raw.kp aR⟩,⟨f0,h0⟩⟩ aa (fun w9 iD oc k9 b9 TN=>wV rfl ?_)
     refine ab ?_
     refine VS.back (n - (0 + 1)) aa ⟨_,_,?_,?_,?_,?_,⟨1,by omega,rfl,.inr ⟨by omega,_,oc,iD,rfl,rfl,by rw [nw he];exact TN⟩⟩⟩
     ·exact bT
     ·exact bT
     ·rfl
     ·exact ⟨.lit rfl,.lit rfl,.lit rfl,TN.ja,trivial⟩
    ·refine VS.aQ rfl (decide_eq_false (fun e=>hlt (Int.ofNat_lt.1 e))) ?_
     obtain rfl:n=0:=by omega
     refine ab ?_
     refine VS.lz (cJ _ _) rfl (fun wz β kz bz en=> ?_)
     exact ⟨_,_,rfl,.inl ⟨rfl,List.length_eq_zero_iff.1 aa⟩,.inl ⟨rfl,List.length_eq_zero_iff.1 uY.symm⟩,bz⟩
   ·refine ab ?_
    by_cases hlt:z < n
    ·obtain ⟨e,he⟩:∃ e,X.2[z]? =some e:=⟨_,List.getElem?_eq_getElem aa⟩
     obtain ⟨b,off,eQ,fN,hc,⟨_,rfl,⟨ap,ac,ar,ad,rfl,g0⟩,⟨f0,h0⟩⟩⟩:=h2.at he
     subst fN
     refine VS.aP rfl (decide_eq_true (Int.ofNat_lt.2 hlt)) ?_
     refine ab ?_
     refine VO.cond rfl du ?_
     refine wV rfl ?_
     refine ab ?_
     refine VO.read rfl [.int .i64 e.1,.int .i64 e.2.1,.bool e.2.2.1,.slice ap e.2.2.2.1.length ac,.bool e.2.2.2.2.1,.slice ar e.2.2.2.2.2.length ad] rfl (aN hc 0 _ ⟨[],rfl⟩) (wV rfl ?_)
     refine ab ?_
     refine VO.call rfl rfl (fk Tryz.func28) (fun sB CP vo=>(bK e.2.2.1 e.2.2.2.2.1 e.2.2.2.1 e.2.2.2.2.2 _ sB (g0.kp (Kp.of (U:=UU) vo)) aa aa).mono ?_)
     rintro e w8 ⟨r8,rfl,q8,qe⟩
     obtain ⟨vp,vc,vr,vd,rfl,-⟩:=q8.raw.gl
     refine ⟨_,rfl,qe,fun sC _ Kk=>wV rfl ?_⟩
     refine ab ?_
     refine VO.vx (cJ _ _) (eP kk) (t:=62) (e:=106) (s:=69) (i:=70) (n:=z) (c:=Gf) (vs:=us) (sp:=oL) (es:=X.2.take z) (a:=e) (cs:=[.int .i64 e.1,.int .i64 e.2.1,.bool e.2.2.1,.slice vp e.2.2.2.1.length vc,.bool e.2.2.2.2.1,.slice vr e.2.2.2.2.2.length vd]) rfl rfl rfl rfl rfl rfl rfl rfl (bB rfl) rfl (.inr rfl) rfl (hU.kp (eP kk) aR) rfl ⟨[.bool e.2.2.1,.slice vp e.2.2.2.1.length vc,.bool e.2.2.2.2.1,.slice vr e.2.2.2.2.2.length vd],rfl,⟨_,_,_,_,rfl,q8.raw.kp aR⟩,⟨f0,h0⟩⟩ aa (fun w9 iD oc ρ k9 b9 fF TN=>wV rfl ?_)
     refine ab ?_
     refine VS.back (n - (z + 1)) aa ⟨_,_,?_,?_,?_,?_,⟨z + 1,by omega,rfl,.inr ⟨by omega,_,oc,iD,rfl,rfl,by rw [cD he];exact TN⟩⟩⟩
     ·refine ⟨rfl,rfl,rfl,?_,trivial⟩
      rw [<-aE (i:=z) aa];rfl
     ·exact bT
     ·rfl
     ·exact ⟨.lit rfl,.lit rfl,.lit rfl,TN.ja,trivial⟩
    ·refine VS.aQ rfl (decide_eq_false (fun e=>hlt (Int.ofNat_lt.1 e))) ?_
     obtain rfl:z=n:=by omega
     refine ab ?_
     refine VS.lz (cJ _ _) rfl (fun wz β kz bz en=> ?_)
     rw [List.take_of_length_le aa] at hU
     exact ⟨_,_,rfl,.inl ⟨rfl,List.length_eq_zero_iff.1 aa⟩,hU.new (eP kk) (en.own 70 _ _ rfl) kz,bz⟩
 ·refine ab ?_
  by_cases hlt:z < N
  ·obtain ⟨e,he⟩:∃ e,X.1[z]? =some e:=⟨_,List.getElem?_eq_getElem aa⟩
   obtain ⟨b,off,eQ,fN,hc,⟨_,_,_,_,_,_,_,rfl,⟨⟨z0p,z0c,z0r,z0d,rfl,g0⟩,⟨f0,j0⟩⟩,⟨⟨z1p,z1c,z1r,z1d,rfl,g1⟩,⟨f1,j1⟩⟩,⟨⟨z2p,z2c,z2r,z2d,rfl,g2⟩,⟨f2,j2⟩⟩,⟨⟨z3p,z3c,z3r,z3d,rfl,g3⟩,⟨f3,j3⟩⟩,⟨⟨z4p,z4c,z4r,z4d,rfl,g4⟩,⟨f4,j4⟩⟩,⟨⟨z5p,z5c,z5r,z5d,rfl,g5⟩,⟨f5,j5⟩⟩,⟨⟨z6p,z6c,z6r,z6d,rfl,g6⟩,⟨f6,j6⟩⟩⟩⟩:=h1.at he
   subst fN
   refine VS.aP rfl (decide_eq_true (Int.ofNat_lt.2 hlt)) ?_
   refine ab ?_
   refine VO.cond rfl du ?_
   refine wV rfl ?_
   refine ab ?_
   refine VO.read rfl [.bool e.bn.1,.slice z0p e.bn.2.1.length z0c,.bool e.bn.2.2.1,.slice z0r e.bn.2.2.2.length z0d,.bool e.allowed.1,.slice z1p e.allowed.2.1.length z1c,.bool e.allowed.2.2.1,.slice z1r e.allowed.2.2.2.length z1d,.bool e.aI.1,.slice z2p e.aI.2.1.length z2c,.bool e.aI.2.2.1,.slice z2r e.aI.2.2.2.length z2d,.bool e.used.1,.slice z3p e.used.2.1.length z3c,.bool e.used.2.2.1,.slice z3r e.used.2.2.2.length z3d,.bool e.ay.1,.slice z4p e.ay.2.1.length z4c,.bool e.ay.2.2.1,.slice z4r e.ay.2.2.2.length z4d,.bool e.aq.1,.slice z5p e.aq.2.1.length z5c,.bool e.aq.2.2.1,.slice z5r e.aq.2.2.2.length z5d,.bool e.closing.1,.slice z6p e.closing.2.1.length z6c,.bool e.closing.2.2.1,.slice z6r e.closing.2.2.2.length z6d] rfl (aN hc 0 _ ⟨[],rfl⟩) (wV rfl ?_)
   refine ab ?_
   refine VO.call rfl rfl (fk Tryz.func28) (fun bF cU bJ=>(bK e.bn.1 e.bn.2.2.1 e.bn.2.1 e.bn.2.2.2 _ bF (g0.kp (Kp.of (U:=UU) bJ)) aa aa).mono ?_)
   rintro e w1 ⟨r1,rfl,q1,aK⟩
   obtain ⟨v0p,v0c,v0r,v0d,rfl,-⟩:=q1.raw.gl
   refine ⟨_,rfl,aK,fun dC _ bb1=>wV rfl ?_⟩
   refine ab ?_
   refine VO.call rfl rfl (fk Tryz.func28) (fun cK eg di=>(bK e.allowed.1 e.allowed.2.2.1 e.allowed.2.1 e.allowed.2.2.2 _ cK (g1.kp (Kp.of (U:=UU) di)) aa aa).mono ?_)
   rintro e w2 ⟨r2,rfl,q2,ba⟩
   obtain ⟨ND,NF,NG,NH,rfl,-⟩:=q2.raw.gl
   refine ⟨_,rfl,ba,fun ed _ bb2=>wV rfl ?_⟩
   refine ab ?_
   refine VO.call rfl rfl (fk Tryz.func28) (fun fh fE fG=>(bK e.aI.1 e.aI.2.2.1 e.aI.2.1 e.aI.2.2.2 _ fh (g2.kp (Kp.of (U:=UU) fG)) aa aa).mono ?_)
   rintro e w3 ⟨r3,rfl,q3,cG⟩
   obtain ⟨NI,NJ,NK,NL,rfl,-⟩:=q3.raw.gl
   refine ⟨_,rfl,cG,fun gT _ bb3=>wV rfl ?_⟩
   refine ab ?_
   refine VO.call rfl rfl (fk Tryz.func28) (fun iP jT jX=>(bK e.used.1 e.used.2.2.1 e.used.2.1 e.used.2.2.2 _ iP (g3.kp (Kp.of (U:=UU) jX)) aa aa).mono ?_)
   rintro e w4 ⟨r4,rfl,q4,eV⟩
   obtain ⟨v3p,v3c,v3r,v3d,rfl,-⟩:=q4.raw.gl
   refine ⟨_,rfl,eV,fun lh _ sT=>wV rfl ?_⟩
   refine ab ?_
   refine VO.call rfl rfl (fk Tryz.func28) (fun gf jl gD=>(bK e.ay.1 e.ay.2.2.1 e.ay.2.1 e.ay.2.2.2 _ gf (g4.kp (Kp.of (U:=UU) gD)) aa aa).mono ?_)
   rintro e w5 ⟨r5,rfl,q5,eE⟩
   obtain ⟨v4p,v4c,v4r,v4d,rfl,-⟩:=q5.raw.gl
   refine ⟨_,rfl,eE,fun jy _ qi=>wV rfl ?_⟩
   refine ab ?_
   refine VO.call rfl rfl (fk Tryz.func28) (fun gj kx iz=>(bK e.aq.1 e.aq.2.2.1 e.aq.2.1 e.aq.2.2.2 _ gj (g5.kp (Kp.of (U:=UU) iz)) aa aa).mono ?_)
   rintro e w6 ⟨r6,rfl,q6,fx⟩
   obtain ⟨v5p,v5c,v5r,v5d,rfl,-⟩:=q6.raw.gl
   refine ⟨_,rfl,fx,fun jz _ oX=>wV rfl ?_⟩
   refine ab ?_
   refine VO.call rfl rfl (fk Tryz.func28) (fun mz qj lZ=>(bK e.closing.1 e.closing.2.2.1 e.closing.2.1 e.closing.2.2.2 _ mz (g6.kp (Kp.of (U:=UU) lZ)) aa aa).mono ?_)
   rintro e w7 ⟨r7,rfl,q7,lC⟩
   obtain ⟨v6p,v6c,v6r,v6d,rfl,-⟩:=q7.raw.gl
   refine ⟨_,rfl,lC,fun oC _ Bx=>wV rfl ?_⟩
   refine ab ?_
   refine VO.vx (cJ _ _) (dK kk) (t:=61) (e:=108) (s:=44) (i:=45) (n:=z) (c:=cap) (vs:=vs) (sp:=sp) (es:=X.1.take z) (a:=e) (cs:=[.bool e.bn.1,.slice v0p e.bn.2.1.length v0c,.bool e.bn.2.2.1,.slice v0r e.bn.2.2.2.length v0d,.bool e.allowed.1,.slice ND e.allowed.2.1.length NF,.bool e.allowed.2.2.1,.slice NG e.allowed.2.2.2.length NH,.bool e.aI.1,.slice NI e.aI.2.1.length NJ,.bool e.aI.2.2.1,.slice NK e.aI.2.2.2.length NL,.bool e.used.1,.slice v3p e.used.2.1.length v3c,.bool e.used.2.2.1,.slice v3r e.used.2.2.2.length v3d,.bool e.ay.1,.slice v4p e.ay.2.1.length v4c,.bool e.ay.2.2.1,.slice v4r e.ay.2.2.2.length v4d,.bool e.aq.1,.slice v5p e.aq.2.1.length v5c,.bool e.aq.2.2.1,.slice v5r e.aq.2.2.2.length v5d,.bool e.closing.1,.slice v6p e.closing.2.1.length v6c,.bool e.closing.2.2.1,.slice v6r e.closing.2.2.2.length v6d]) rfl rfl rfl rfl rfl rfl rfl rfl (bB rfl) rfl (.inr rfl) rfl (Ge.kp (dK kk) aR) rfl ⟨[.bool e.bn.1,.slice v0p e.bn.2.1.length v0c,.bool e.bn.2.2.1,.slice v0r e.bn.2.2.2.length v0d],[.bool e.allowed.1,.slice ND e.allowed.2.1.length NF,.bool e.allowed.2.2.1,.slice NG e.allowed.2.2.2.length NH],[.bool e.aI.1,.slice NI e.aI.2.1.length NJ,.bool e.aI.2.2.1,.slice NK e.aI.2.2.2.length NL],[.bool e.used.1,.slice v3p e.used.2.1.length v3c,.bool e.used.2.2.1,.slice v3r e.used.2.2.2.length v3d],[.bool e.ay.1,.slice v4p e.ay.2.1.length v4c,.bool e.ay.2.2.1,.slice v4r e.ay.2.2.2.length v4d],[.bool e.aq.1,.slice v5p e.aq.2.1.length v5c,.bool e.aq.2.2.1,.slice v5r e.aq.2.2.2.length v5d],[.bool e.closing.1,.slice v6p e.closing.2.1.length v6c,.bool e.closing.2.2.1,.slice v6r e.closing.2.2.2.length v6d],rfl,⟨⟨_,_,_,_,rfl,q1.raw.kp aR⟩,⟨f0,j0⟩⟩,⟨⟨_,_,_,_,rfl,q2.raw.kp aR⟩,⟨f1,j1⟩⟩,⟨⟨_,_,_,_,rfl,q3.raw.kp aR⟩,⟨f2,j2⟩⟩,⟨⟨_,_,_,_,rfl,q4.raw.kp aR⟩,⟨f3,j3⟩⟩,⟨⟨_,_,_,_,rfl,q5.raw.kp aR⟩,⟨f4,j4⟩⟩,⟨⟨_,_,_,_,rfl,q6.raw.kp aR⟩,⟨f5,j5⟩⟩,⟨⟨_,_,_,_,rfl,q7.raw.kp aR⟩,⟨f6,j6⟩⟩⟩ aa (fun w8 iD oc ρ k8 b8 fF TL=>wV rfl ?_)
   refine ab ?_
   refine VS.back (N - (z + 1)) aa ⟨_,_,?_,?_,?_,?_,⟨z + 1,by omega,rfl,.inr ⟨by omega,_,oc,iD,rfl,rfl,by rw [cD he];exact TL⟩⟩⟩
   ·refine ⟨rfl,rfl,rfl,?_,trivial⟩
    rw [<-aE (i:=z) aa];rfl
   ·exact bT
   ·rfl
   ·exact ⟨.lit rfl,.lit rfl,.lit rfl,TL.ja,trivial⟩
  ·refine VS.aQ rfl (decide_eq_false (fun e=>hlt (Int.ofNat_lt.1 e))) ?_
   have LP:z=N:=by omega
   rw [LP] at Ge ⊢
   clear LP hlt hz kN
   rw [List.take_of_length_le aa] at Ge
   refine ab ?_
   refine VS.loop (J:=fun m L M w'=>∃ z:Nat,z≤n/\m=n - z/\iB (qD kk) 28 w' N cap vs sp X.1/\
    ((z=0/\L=[(1,.box 1 0),(2,.box 2 0),(3,.box 3 0),(6,.val (.int .i64 (z:Int)))]/\M=[(1,(36,[.val (.slice rp N rc),.val (.slice up n uc)])),(2,(64,[.val (.slice none 0 0),.val (.slice none 0 0)])),(3,(64,[.row 45 0 N cap,.val (.slice none 0 0)])),(45,(108,vs.flatten.map .val++sp))])\/
     (0 < z/\∃ us oL Gf,L=[(1,.box 1 0),(2,.box 2 0),(3,.box 3 0),(6,.val (.int .i64 (z:Int)))]/\M=[(1,(36,[.val (.slice rp N rc),.val (.slice up n uc)])),(2,(64,[.val (.slice none 0 0),.val (.slice none 0 0)])),(3,(64,[.row 45 0 N cap,.row 70 0 z Gf])),(45,(108,vs.flatten.map .val++sp)),(70,(106,us.flatten.map .val++oL))]/\iB (vR kk) 6 w' z Gf us oL (X.2.take z)))) n ⟨_,_,?_,?_,?_,?_,⟨0,by omega,rfl,Ge,.inl ⟨rfl,rfl,rfl⟩⟩⟩ ?_
   ·exact bT
   ·exact bT
   ·rfl
   ·exact ⟨.lit rfl,.lit rfl,.lit rfl,Ge.ja,trivial⟩
   rintro m2 L2 M2 wL ⟨z,hz,rfl,hR,⟨rfl,rfl,rfl⟩ | ⟨kN,us,oL,Gf,rfl,rfl,hU⟩⟩
   ·refine ab ?_
    by_cases hlt:(0:Nat) < n
    ·obtain ⟨e,he⟩:∃ e,X.2[0]? =some e:=⟨_,List.getElem?_eq_getElem aa⟩
     obtain ⟨b,off,eQ,fN,hc,⟨_,rfl,⟨ap,ac,ar,ad,rfl,g0⟩,⟨f0,h0⟩⟩⟩:=h2.at he
     subst fN
     refine VS.aP rfl (decide_eq_true (Int.ofNat_lt.2 hlt)) ?_
     refine ab ?_
     refine VO.cond rfl du ?_
     refine wV rfl ?_
     refine ab ?_
     refine VO.read rfl [.int .i64 e.1,.int .i64 e.2.1,.bool e.2.2.1,.slice ap e.2.2.2.1.length ac,.bool e.2.2.2.2.1,.slice ar e.2.2.2.2.2.length ad] rfl (aN hc 0 _ ⟨[],rfl⟩) (wV rfl ?_)
     refine ab ?_
     refine VO.call rfl rfl (fk Tryz.func28) (fun sB CP vo=>(bK e.2.2.1 e.2.2.2.2.1 e.2.2.2.1 e.2.2.2.2.2 _ sB (g0.kp (Kp.of (U:=UU) vo)) aa aa).mono ?_)
     rintro e w8 ⟨r8,rfl,q8,qe⟩
     obtain ⟨vp,vc,vr,vd,rfl,-⟩:=q8.raw.gl
     refine ⟨_,rfl,qe,fun sC _ Kk=>wV rfl ?_⟩
     refine ab ?_
     refine VO.BD (cJ _ _) (eP kk) (t:=62) (e:=106) (s:=69) (a:=e) (cs:=[.int .i64 e.1,.int .i64 e.2.1,.bool e.2.2.1,.slice vp e.2.2.2.1.length vc,.bool e.2.2.2.2.1,.slice vr e.2.2.2.2.2.length vd]) rfl rfl rfl rfl rfl rfl rfl rfl (bB rfl) rfl rfl rfl ⟨[.bool e.2.2.1,.slice vp e.2.2.2.1.length vc,.bool e.2.2.2.2.1,.slice vr e.2.2.2.2.2.length vd],rfl,⟨_,_,_,_,rfl,q8.raw.kp aR⟩,⟨f0,h0⟩⟩ aa (fun w9 iD oc k9 b9 TN=>wV rfl ?_)
     refine ab ?_
     refine VS.back (n - (0 + 1)) aa ⟨_,_,?_,?_,?_,?_,⟨1,by omega,rfl,hR.kp (dK kk) aR,.inr ⟨by omega,_,oc,iD,rfl,rfl,by rw [nw he];exact TN⟩⟩⟩
     ·exact bT
     ·exact bT
     ·rfl
     ·exact ⟨.lit rfl,.lit rfl,.lit rfl,hR.ja,TN.ja,trivial⟩
    ·refine VS.aQ rfl (decide_eq_false (fun e=>hlt (Int.ofNat_lt.1 e))) ?_
     obtain rfl:n=0:=by omega
     refine ab ?_
     refine VS.lz (cJ _ _) rfl (fun wz β kz bz en=> ?_)
     exact ⟨_,_,rfl,hR.new (dK kk) (en.own 45 _ _ rfl) kz,.inl ⟨rfl,List.length_eq_zero_iff.1 uY.symm⟩,bz⟩
   ·refine ab ?_
    by_cases hlt:z < n
    ·obtain ⟨e,he⟩:∃ e,X.2[z]? =some e:=⟨_,List.getElem?_eq_getElem aa⟩
     obtain ⟨b,off,eQ,fN,hc,⟨_,rfl,⟨ap,ac,ar,ad,rfl,g0⟩,⟨f0,h0⟩⟩⟩:=h2.at he
     subst fN
     refine VS.aP rfl (decide_eq_true (Int.ofNat_lt.2 hlt)) ?_
     refine ab ?_
     refine VO.cond rfl du ?_
     refine wV rfl ?_
     refine ab ?_
     refine VO.read rfl [.int .i64 e.1,.int .i64 e.2.1,.bool e.2.2.1,.slice ap e.2.2.2.1.length ac,.bool e.2.2.2.2.1,.slice ar e.2.2.2.2.2.length ad] rfl (aN hc 0 _ ⟨[],rfl⟩) (wV rfl ?_)
     refine ab ?_
     refine VO.call rfl rfl (fk Tryz.func28) (fun sB CP vo=>(bK e.2.2.1 e.2.2.2.2.1 e.2.2.2.1 e.2.2.2.2.2 _ sB (g0.kp (Kp.of (U:=UU) vo)) aa aa).mono ?_)
     rintro e w8 ⟨r8,rfl,q8,qe⟩
     obtain ⟨vp,vc,vr,vd,rfl,-⟩:=q8.raw.gl
     refine ⟨_,rfl,qe,fun sC _ Kk=>wV rfl ?_⟩
     refine ab ?_
     refine VO.vx (cJ _ _) (eP kk) (t:=62) (e:=106) (s:=69) (i:=70) (n:=z) (c:=Gf) (vs:=us) (sp:=oL) (es:=X.2.take z) (a:=e) (cs:=[.int .i64 e.1,.int .i64 e.2.1,.bool e.2.2.1,.slice vp e.2.2.2.1.length vc,.bool e.2.2.2.2.1,.slice vr e.2.2.2.2.2.length vd]) rfl rfl rfl rfl rfl rfl rfl rfl (bB rfl) rfl (.inr rfl) rfl (hU.kp (eP kk) aR) rfl ⟨[.bool e.2.2.1,.slice vp e.2.2.2.1.length vc,.bool e.2.2.2.2.1,.slice vr e.2.2.2.2.2.length vd],rfl,⟨_,_,_,_,rfl,q8.raw.kp aR⟩,⟨f0,h0⟩⟩ aa (fun w9 iD oc ρ k9 b9 fF TN=>VO.dG 45 rfl (cL hR.cQ _ _) (wV rfl ?_))
     refine ab ?_
     refine VS.back (n - (z + 1)) aa ⟨_,_,?_,?_,?_,?_,⟨z + 1,by omega,rfl,hR.kp (dK kk) aR,.inr ⟨by omega,_,oc,iD,rfl,rfl,by rw [cD he];exact TN⟩⟩⟩
     ·refine ⟨rfl,rfl,rfl,?_,trivial⟩
      rw [<-aE (i:=z) aa];rfl
     ·exact bT
     ·rfl
     ·exact ⟨.lit rfl,.lit rfl,.lit rfl,hR.ja,TN.ja,trivial⟩
    ·refine VS.aQ rfl (decide_eq_false (fun e=>hlt (Int.ofNat_lt.1 e))) ?_
     obtain rfl:z=n:=by omega
     refine ab ?_
     refine VS.lz (cJ _ _) rfl (fun wz β kz bz en=> ?_)
     rw [List.take_of_length_le aa] at hU
     exact ⟨_,_,rfl,hR.new (dK kk) (en.own 45 _ _ rfl) kz,hU.new (eP kk) (en.own 70 _ _ rfl) kz,bz⟩
set_option maxRecDepth 4000
def Gg {α β:Type} [DecidableEq β] (f:α->β) (xs ys:List α):Bool:=decide (xs.map f=ys.map f)
section
variable {α β:Type} [DecidableEq β] {f:α->β} {xs ys:List α}
theorem vX (h:xs.length≠ys.length):Gg f xs ys=false:=decide_eq_false (fun e=>h (by have:=congrArg List.length e;simpa using this))
theorem ug {z:Nat} {a b:α} (ha:xs[z]? =some a) (hb:ys[z]? =some b) (h:f a≠f b):Gg f xs ys=false:=decide_eq_false (fun e=>h (by
 have:=congrArg (fun l=>l[z]?) e
 simpa [List.getElem?_map,ha,hb] using this))
theorem rP {z:Nat} {a b:α} (ha:xs[z]? =some a) (hb:ys[z]? =some b) (h:(xs.take z).map f=(ys.take z).map f) (e:f a=f b):(xs.take (z + 1)).map f=(ys.take (z + 1)).map f:=by
 rw [cD ha,cD hb,List.map_append,List.map_append,h,List.map_singleton,List.map_singleton,e]
theorem vY {z:Nat} (h:xs.length=ys.length) (hz:xs.length≤z) (e:(xs.take z).map f=(ys.take z).map f):Gg f xs ys=true:=by
 rw [List.take_of_length_le hz,List.take_of_length_le aa] at e
 exact decide_eq_true e
end
set_option maxRecDepth 4000 in
theorem PL (v u:Value) (xs ys:List RR) (kk:Nat) (w:World) (hx:dp (Rw kk) 4 w v xs) (hy:dp (Rw kk) 4 w u ys) (hk:kk≤1000000):
  Calls Tryz.prog 90 #[v,u,.func (.func 91) #[] #[]] w fun o w'=>o=.returned (.bool (Gg RR.q xs ys))/\aM w w':=by
 obtain ⟨p,c,rfl,hpc,hpm⟩:=hx.form
 obtain ⟨q,d,rfl,hqd,hqm⟩:=hy.form
 obtain ⟨N,hN⟩:∃ N,N=xs.length:=⟨_,rfl⟩
 obtain ⟨n,hn⟩:∃ n,n=ys.length:=⟨_,rfl⟩
 rw [<-hN] at hx hpc
 rw [<-hn] at hy hqd
 rw [<-hN,<-hn]
 refine ah (C:=bS Tryz.prog w _) (args:=[_,_,_]) Tryz.func90 rfl Tryz.ntmps90 (bB rfl) ?_
 refine ab ?_
 by_cases hNn:N=n
 ·refine VS.aQ rfl (xS aa) ?_
  refine ab ?_
  refine VS.loop (J:=fun m L M w'=>∃ z:Nat,z≤N/\m=N - z/\(xs.take z).map RR.q=(ys.take z).map RR.q/\L=[(1,.val (.slice q n d)),(2,.val (.func (.func 91) #[] #[])),(15,.val (.slice p N c)),(16,.val (.int .i64 (N:Int))),(17,.val (.int .i64 (z:Int)))]/\M=[]) N ⟨_,_,?_,?_,?_,?_,⟨0,by omega,rfl,rfl,rfl,rfl⟩⟩ ?_
  ·exact bT
  ·exact bT
  ·rfl
  ·exact ic
  rintro m L M w1 ⟨z,hz,rfl,gN,rfl,rfl⟩
  refine ab ?_
  by_cases hlt:z < N
  ·obtain ⟨e,he⟩:∃ e,xs[z]? =some e:=⟨_,List.getElem?_eq_getElem aa⟩
   obtain ⟨e',qH⟩:∃ e,ys[z]? =some e:=⟨_,List.getElem?_eq_getElem aa⟩
   obtain ⟨b,off,cs,fN,hc,hE⟩:=hx.at he
   obtain ⟨b',aV,eQ,Gh,hc',PM⟩:=hy.at qH
   subst fN
   subst Gh
   have hE0:=hE
   have Gi:=PM
   obtain ⟨⟨ap,ac,ar,ad,rfl,ha⟩,hf⟩:=hE
   obtain ⟨⟨bp,bc,br,bd,rfl,ha'⟩,hf'⟩:=PM
   refine VS.aP rfl (decide_eq_true (Int.ofNat_lt.2 hlt)) ?_
   refine ab ?_
   refine VO.cond rfl du ?_
   refine wV rfl ?_
   refine ab ?_
   refine VO.read rfl [.bool e.1,.slice ap e.2.1.length ac,.bool e.2.2.1,.slice ar e.2.2.2.length ad] rfl (aN hc 0 _ ⟨[],rfl⟩) (wV rfl ?_)
   refine ab ?_
   refine VO.cond rfl du ?_
   refine wV rfl ?_
   refine ab ?_
   refine VO.read rfl [.bool e'.1,.slice bp e'.2.1.length bc,.bool e'.2.2.1,.slice br e'.2.2.2.length bd] rfl (aN hc' 0 _ ⟨[],rfl⟩) (wV rfl ?_)
   refine ab ?_
   by_cases heq:RR.q e=RR.q e'
   ·refine VO.call rfl rfl (fk Tryz.func91) (fun bF cU bJ=>(BB _ _ e.q e'.q kk kk bF ((ha.kp (Kp.of (U:=UU) bJ)).iE hf) ((ha'.kp (Kp.of (U:=UU) bJ)).iE hf') aa aa true (decide_eq_true heq)).mono ?_)
    rintro e w1 ⟨rfl,aK⟩
    skip
    refine ⟨_,rfl,aK,fun dC _ bb1=>wV rfl ?_⟩
    refine ab ?_
    refine VS.back (N - (z + 1)) aa ⟨_,_,?_,?_,?_,?_,⟨z + 1,by omega,rfl,rP he qH gN heq,rfl,rfl⟩⟩
    ·refine ⟨rfl,rfl,rfl,rfl,?_,trivial⟩
     rw [<-aE (i:=z) aa];rfl
    ·exact bT
    ·rfl
    ·exact ic
   ·refine VO.call rfl rfl (fk Tryz.func91) (fun bF cU bJ=>(BB _ _ e.q e'.q kk kk bF ((ha.kp (Kp.of (U:=UU) bJ)).iE hf) ((ha'.kp (Kp.of (U:=UU) bJ)).iE hf') aa aa false (decide_eq_false heq)).mono ?_)
    rintro e w1 ⟨rfl,aK⟩
    skip
    refine ⟨_,rfl,aK,fun dC _ bb1=>wV rfl ?_⟩
    refine ab ?_
    refine aY ?_;intro wz kz bz
    exact ⟨by rw [ug he qH heq];rfl,bz⟩
  ·refine VS.aQ rfl (decide_eq_false (fun e=>hlt (Int.ofNat_lt.1 e))) ?_
   refine ab ?_
   refine aY ?_;intro wz kz bz
   exact ⟨by rw [vY aa aa gN];rfl,bz⟩
 ·refine VS.aP rfl (BC aa) ?_
  refine ab ?_
  refine aY ?_;intro wz kz bz
  exact ⟨by rw [vX aa];rfl,bz⟩
theorem TP (kk:Nat):gE (Rw kk) 4 where
 kp:=fun h k=>h.kp k
 len:=fun h=>h.1.len
 ok:=fun h=>h.1.ok
def fJ.l (r:fJ):List RR:=[r.bn,r.allowed,r.aI,r.used,r.ay,r.aq,r.closing]
theorem rowl_eq (a b:fJ):Gg RR.q a.l b.l=decide (a.q=b.q):=by
 unfold Gg fJ.l fJ.q
 simp only [List.map_cons,List.map_nil,List.cons.injEq,and_true,aL.mk.injEq]
set_option maxRecDepth 4000 in
theorem JV (v u:Value) (cs eQ:List Value) (a b:fJ) (kk:Nat) (w:World) (hv:v=.agg cs.toArray) (hu:u=.agg eQ.toArray) (ha:qD kk w cs a) (hb:qD kk w eQ b) (hk:kk≤1000000):
  Calls Tryz.prog 56 #[v,u] w fun o w'=>o=.returned (.bool (decide (a.q=b.q)))/\aM w w':=by
 obtain ⟨_,_,_,_,_,_,_,rfl,⟨⟨z0p,z0c,z0r,z0d,rfl,g0⟩,gf0⟩,⟨⟨z1p,z1c,z1r,z1d,rfl,g1⟩,gf1⟩,⟨⟨z2p,z2c,z2r,z2d,rfl,g2⟩,gf2⟩,⟨⟨z3p,z3c,z3r,z3d,rfl,g3⟩,gf3⟩,⟨⟨z4p,z4c,z4r,z4d,rfl,g4⟩,gf4⟩,⟨⟨z5p,z5c,z5r,z5d,rfl,g5⟩,gf5⟩,⟨⟨z6p,z6c,z6r,z6d,rfl,g6⟩,gf6⟩⟩:=ha
 obtain ⟨_,_,_,_,_,_,_,rfl,⟨⟨y0p,y0c,y0r,y0d,rfl,h0⟩,hf0⟩,⟨⟨y1p,y1c,y1r,y1d,rfl,h1⟩,RB⟩,⟨⟨y2p,y2c,y2r,y2d,rfl,h2⟩,RD⟩,⟨⟨y3p,y3c,y3r,y3d,rfl,h3⟩,hf3⟩,⟨⟨y4p,y4c,y4r,y4d,rfl,h4⟩,hf4⟩,⟨⟨y5p,y5c,y5r,y5d,rfl,h5⟩,hf5⟩,⟨⟨y6p,y6c,y6r,y6d,rfl,h6⟩,hf6⟩⟩:=hb
 subst hv
 subst hu
 refine ah (C:=bS Tryz.prog w _) (args:=[_,_]) Tryz.func56 rfl Tryz.ntmps56 (bB rfl) ?_
 refine ab ?_
 refine VO.eK rfl (fk Tryz.func90) (fun bF β cU bJ ho=>(PL _ _ a.l b.l kk bF
  (lL (TP kk) (ho.own 21 (.base List.mem_cons_self) _ _ rfl) [] (vs:=[[.bool a.bn.1,.slice z0p a.bn.2.1.length z0c,.bool a.bn.2.2.1,.slice z0r a.bn.2.2.2.length z0d],[.bool a.allowed.1,.slice z1p a.allowed.2.1.length z1c,.bool a.allowed.2.2.1,.slice z1r a.allowed.2.2.2.length z1d],[.bool a.aI.1,.slice z2p a.aI.2.1.length z2c,.bool a.aI.2.2.1,.slice z2r a.aI.2.2.2.length z2d],[.bool a.used.1,.slice z3p a.used.2.1.length z3c,.bool a.used.2.2.1,.slice z3r a.used.2.2.2.length z3d],[.bool a.ay.1,.slice z4p a.ay.2.1.length z4c,.bool a.ay.2.2.1,.slice z4r a.ay.2.2.2.length z4d],[.bool a.aq.1,.slice z5p a.aq.2.1.length z5c,.bool a.aq.2.2.1,.slice z5r a.aq.2.2.2.length z5d],[.bool a.closing.1,.slice z6p a.closing.2.1.length z6c,.bool a.closing.2.2.1,.slice z6r a.closing.2.2.2.length z6d]]) rfl (ck.cons (cs:=_) ⟨⟨_,_,_,_,rfl,g0.kp (Kp.of (U:=UU) bJ)⟩,gf0⟩ (ck.cons (cs:=_) ⟨⟨_,_,_,_,rfl,g1.kp (Kp.of (U:=UU) bJ)⟩,gf1⟩ (ck.cons (cs:=_) ⟨⟨_,_,_,_,rfl,g2.kp (Kp.of (U:=UU) bJ)⟩,gf2⟩ (ck.cons (cs:=_) ⟨⟨_,_,_,_,rfl,g3.kp (Kp.of (U:=UU) bJ)⟩,gf3⟩ (ck.cons (cs:=_) ⟨⟨_,_,_,_,rfl,g4.kp (Kp.of (U:=UU) bJ)⟩,gf4⟩ (ck.cons (cs:=_) ⟨⟨_,_,_,_,rfl,g5.kp (Kp.of (U:=UU) bJ)⟩,gf5⟩ (ck.cons (cs:=_) ⟨⟨_,_,_,_,rfl,g6.kp (Kp.of (U:=UU) bJ)⟩,gf6⟩ (ck.nil)))))))) rfl (Nat.le_refl 7) bV)
  (lL (TP kk) (ho.own 36 (.base (List.mem_cons_of_mem _ List.mem_cons_self)) _ _ rfl) [] (vs:=[[.bool b.bn.1,.slice y0p b.bn.2.1.length y0c,.bool b.bn.2.2.1,.slice y0r b.bn.2.2.2.length y0d],[.bool b.allowed.1,.slice y1p b.allowed.2.1.length y1c,.bool b.allowed.2.2.1,.slice y1r b.allowed.2.2.2.length y1d],[.bool b.aI.1,.slice y2p b.aI.2.1.length y2c,.bool b.aI.2.2.1,.slice y2r b.aI.2.2.2.length y2d],[.bool b.used.1,.slice y3p b.used.2.1.length y3c,.bool b.used.2.2.1,.slice y3r b.used.2.2.2.length y3d],[.bool b.ay.1,.slice y4p b.ay.2.1.length y4c,.bool b.ay.2.2.1,.slice y4r b.ay.2.2.2.length y4d],[.bool b.aq.1,.slice y5p b.aq.2.1.length y5c,.bool b.aq.2.2.1,.slice y5r b.aq.2.2.2.length y5d],[.bool b.closing.1,.slice y6p b.closing.2.1.length y6c,.bool b.closing.2.2.1,.slice y6r b.closing.2.2.2.length y6d]]) rfl (ck.cons (cs:=_) ⟨⟨_,_,_,_,rfl,h0.kp (Kp.of (U:=UU) bJ)⟩,hf0⟩ (ck.cons (cs:=_) ⟨⟨_,_,_,_,rfl,h1.kp (Kp.of (U:=UU) bJ)⟩,RB⟩ (ck.cons (cs:=_) ⟨⟨_,_,_,_,rfl,h2.kp (Kp.of (U:=UU) bJ)⟩,RD⟩ (ck.cons (cs:=_) ⟨⟨_,_,_,_,rfl,h3.kp (Kp.of (U:=UU) bJ)⟩,hf3⟩ (ck.cons (cs:=_) ⟨⟨_,_,_,_,rfl,h4.kp (Kp.of (U:=UU) bJ)⟩,hf4⟩ (ck.cons (cs:=_) ⟨⟨_,_,_,_,rfl,h5.kp (Kp.of (U:=UU) bJ)⟩,hf5⟩ (ck.cons (cs:=_) ⟨⟨_,_,_,_,rfl,h6.kp (Kp.of (U:=UU) bJ)⟩,hf6⟩ (ck.nil)))))))) rfl (Nat.le_refl 7) bV) hk).mono ?_)
 rintro o w1 ⟨rfl,aK⟩
 rw [rowl_eq]
 refine ⟨_,rfl,aK,fun dC _ bb1=>wV rfl ?_⟩
 refine ab ?_
 refine aY ?_;intro wz kz bz
 exact ⟨rfl,bz⟩
theorem Cg (v u:Value) (cs eQ:List Value) (a b:fJ) (kk:Nat) (w:World) (hv:v=.agg cs.toArray) (hu:u=.agg eQ.toArray) (ha:qD kk w cs a) (hb:qD kk w eQ b) (hk:kk≤1000000) (x:Bool) (hx:decide (a.q=b.q)=x):
 Calls Tryz.prog 56 #[v,u] w fun o w'=>o=.returned (.bool x)/\aM w w':=hx▸JV v u cs eQ a b kk w hv hu ha hb hk
theorem NM {a b:gr} (h:a.1≠b.1\/a.2.1≠b.2.1\/a.2.2.q≠b.2.2.q):decide (a.q=b.q)=false:=by
 refine decide_eq_false (fun e=> ?_)
 unfold gr.q at e
 simp only [Prod.mk.injEq] at e
 rcases h with h | h | h
 ·exact h e.1
 ·exact h e.2.1
 ·exact h e.2.2
theorem useq_eq {a b:gr} (h1:a.1=b.1) (h2:a.2.1=b.2.1):decide (a.q=b.q)=decide (a.2.2.q=b.2.2.q):=by
 unfold gr.q
 simp only [Prod.mk.injEq,h1,h2,true_and]
set_option maxRecDepth 4000 in
theorem JW (v u:Value) (cs eQ:List Value) (a b:gr) (kk:Nat) (w:World) (hv:v=.agg cs.toArray) (hu:u=.agg eQ.toArray) (ha:vR kk w cs a) (hb:vR kk w eQ b) (hk:kk≤1000000):
  Calls Tryz.prog 58 #[v,u] w fun o w'=>o=.returned (.bool (decide (a.q=b.q)))/\aM w w':=by
 obtain ⟨_,rfl,⟨ap,ac,ar,ad,rfl,ha⟩,hf⟩:=ha
 obtain ⟨_,rfl,⟨bp,bc,br,bd,rfl,ha'⟩,hf'⟩:=hb
 subst hv
 subst hu
 refine ah (C:=bS Tryz.prog w _) (args:=[_,_]) Tryz.func58 rfl Tryz.ntmps58 (bB rfl) ?_
 refine ab ?_
 by_cases h1:a.1=b.1
 ·refine VO.fix 10 rfl (congrArg (fun b=>AV.val (.bool b)) (beq_y h1)) ?_
  refine ab ?_
  by_cases h2:a.2.1=b.2.1
  ·refine VO.fix 17 rfl (congrArg (fun b=>AV.val (.bool b)) (beq_y h2)) ?_
   refine ab ?_
   rw [useq_eq h1 h2]
   refine VO.call rfl rfl (fk Tryz.func91) (fun bF cU bJ=>(xP _ _ a.2.2.q b.2.2.q kk kk bF ((ha.kp (Kp.of (U:=UU) bJ)).iE hf) ((ha'.kp (Kp.of (U:=UU) bJ)).iE hf') aa aa).mono ?_)
   rintro e w1 ⟨rfl,aK⟩
   skip
   refine ⟨_,rfl,aK,fun dC _ bb1=>wV rfl ?_⟩
   refine ab ?_
   refine aY ?_;intro wz kz bz
   exact ⟨rfl,bz⟩
  ·refine VO.fix 17 rfl (congrArg (fun b=>AV.val (.bool b)) (Nd h2)) ?_
   refine ab ?_
   refine aY ?_;intro wz kz bz
   exact ⟨by rw [NM (.inr (.inl h2))];rfl,bz⟩
 ·refine VO.fix 10 rfl (congrArg (fun b=>AV.val (.bool b)) (Nd h1)) ?_
  refine ab ?_
  refine aY ?_;intro wz kz bz
  exact ⟨by rw [NM (.inl h1)];rfl,bz⟩
theorem Ch (v u:Value) (cs eQ:List Value) (a b:gr) (kk:Nat) (w:World) (hv:v=.agg cs.toArray) (hu:u=.agg eQ.toArray) (ha:vR kk w cs a) (hb:vR kk w eQ b) (hk:kk≤1000000) (x:Bool) (hx:decide (a.q=b.q)=x):
 Calls Tryz.prog 58 #[v,u] w fun o w'=>o=.returned (.bool x)/\aM w w':=hx▸JW v u cs eQ a b kk w hv hu ha hb hk
set_option maxRecDepth 4000 in
theorem PN (v u:Value) (xs ys:List fJ) (kk:Nat) (w:World) (hx:dp (qD kk) 28 w v xs) (hy:dp (qD kk) 28 w u ys) (hk:kk≤1000000):
  Calls Tryz.prog 55 #[v,u,.func (.func 56) #[] #[]] w fun o w'=>o=.returned (.bool (Gg fJ.q xs ys))/\aM w w':=by
 obtain ⟨p,c,rfl,hpc,hpm⟩:=hx.form
 obtain ⟨q,d,rfl,hqd,hqm⟩:=hy.form
 obtain ⟨N,hN⟩:∃ N,N=xs.length:=⟨_,rfl⟩
 obtain ⟨n,hn⟩:∃ n,n=ys.length:=⟨_,rfl⟩
 rw [<-hN] at hx hpc
 rw [<-hn] at hy hqd
 rw [<-hN,<-hn]
 refine ah (C:=bS Tryz.prog w _) (args:=[_,_,_]) Tryz.func55 rfl Tryz.ntmps55 (bB rfl) ?_
 refine ab ?_
 by_cases hNn:N=n
 ·refine VS.aQ rfl (xS aa) ?_
  refine ab ?_
  refine VS.loop (J:=fun m L M w'=>∃ z:Nat,z≤N/\m=N - z/\(xs.take z).map fJ.q=(ys.take z).map fJ.q/\L=[(1,.val (.slice q n d)),(2,.val (.func (.func 56) #[] #[])),(15,.val (.slice p N c)),(16,.val (.int .i64 (N:Int))),(17,.val (.int .i64 (z:Int)))]/\M=[]) N ⟨_,_,?_,?_,?_,?_,⟨0,by omega,rfl,rfl,rfl,rfl⟩⟩ ?_
  ·exact bT
  ·exact bT
  ·rfl
  ·exact ic
  rintro m L M w1 ⟨z,hz,rfl,gN,rfl,rfl⟩
  refine ab ?_
  by_cases hlt:z < N
  ·obtain ⟨e,he⟩:∃ e,xs[z]? =some e:=⟨_,List.getElem?_eq_getElem aa⟩
   obtain ⟨e',qH⟩:∃ e,ys[z]? =some e:=⟨_,List.getElem?_eq_getElem aa⟩
   obtain ⟨b,off,cs,fN,hc,hE⟩:=hx.at he
   obtain ⟨b',aV,eQ,Gh,hc',PM⟩:=hy.at qH
   subst fN
   subst Gh
   have hE0:=hE
   have Gi:=PM
   obtain ⟨_,_,_,_,_,_,_,rfl,⟨⟨z0p,z0c,z0r,z0d,rfl,g0⟩,gf0⟩,⟨⟨z1p,z1c,z1r,z1d,rfl,g1⟩,gf1⟩,⟨⟨z2p,z2c,z2r,z2d,rfl,g2⟩,gf2⟩,⟨⟨z3p,z3c,z3r,z3d,rfl,g3⟩,gf3⟩,⟨⟨z4p,z4c,z4r,z4d,rfl,g4⟩,gf4⟩,⟨⟨z5p,z5c,z5r,z5d,rfl,g5⟩,gf5⟩,⟨⟨z6p,z6c,z6r,z6d,rfl,g6⟩,gf6⟩⟩:=hE
   obtain ⟨_,_,_,_,_,_,_,rfl,⟨⟨y0p,y0c,y0r,y0d,rfl,h0⟩,hf0⟩,⟨⟨y1p,y1c,y1r,y1d,rfl,h1⟩,RB⟩,⟨⟨y2p,y2c,y2r,y2d,rfl,h2⟩,RD⟩,⟨⟨y3p,y3c,y3r,y3d,rfl,h3⟩,hf3⟩,⟨⟨y4p,y4c,y4r,y4d,rfl,h4⟩,hf4⟩,⟨⟨y5p,y5c,y5r,y5d,rfl,h5⟩,hf5⟩,⟨⟨y6p,y6c,y6r,y6d,rfl,h6⟩,hf6⟩⟩:=PM
   refine VS.aP rfl (decide_eq_true (Int.ofNat_lt.2 hlt)) ?_
   refine ab ?_
   refine VO.cond rfl du ?_
   refine wV rfl ?_
   refine ab ?_
   refine VO.read rfl [.bool e.bn.1,.slice z0p e.bn.2.1.length z0c,.bool e.bn.2.2.1,.slice z0r e.bn.2.2.2.length z0d,.bool e.allowed.1,.slice z1p e.allowed.2.1.length z1c,.bool e.allowed.2.2.1,.slice z1r e.allowed.2.2.2.length z1d,.bool e.aI.1,.slice z2p e.aI.2.1.length z2c,.bool e.aI.2.2.1,.slice z2r e.aI.2.2.2.length z2d,.bool e.used.1,.slice z3p e.used.2.1.length z3c,.bool e.used.2.2.1,.slice z3r e.used.2.2.2.length z3d,.bool e.ay.1,.slice z4p e.ay.2.1.length z4c,.bool e.ay.2.2.1,.slice z4r e.ay.2.2.2.length z4d,.bool e.aq.1,.slice z5p e.aq.2.1.length z5c,.bool e.aq.2.2.1,.slice z5r e.aq.2.2.2.length z5d,.bool e.closing.1,.slice z6p e.closing.2.1.length z6c,.bool e.closing.2.2.1,.slice z6r e.closing.2.2.2.length z6d] rfl (aN hc 0 _ ⟨[],rfl⟩) (wV rfl ?_)
   refine ab ?_
   refine VO.cond rfl du ?_
   refine wV rfl ?_
   refine ab ?_
   refine VO.read rfl [.bool e'.bn.1,.slice y0p e'.bn.2.1.length y0c,.bool e'.bn.2.2.1,.slice y0r e'.bn.2.2.2.length y0d,.bool e'.allowed.1,.slice y1p e'.allowed.2.1.length y1c,.bool e'.allowed.2.2.1,.slice y1r e'.allowed.2.2.2.length y1d,.bool e'.aI.1,.slice y2p e'.aI.2.1.length y2c,.bool e'.aI.2.2.1,.slice y2r e'.aI.2.2.2.length y2d,.bool e'.used.1,.slice y3p e'.used.2.1.length y3c,.bool e'.used.2.2.1,.slice y3r e'.used.2.2.2.length y3d,.bool e'.ay.1,.slice y4p e'.ay.2.1.length y4c,.bool e'.ay.2.2.1,.slice y4r e'.ay.2.2.2.length y4d,.bool e'.aq.1,.slice y5p e'.aq.2.1.length y5c,.bool e'.aq.2.2.1,.slice y5r e'.aq.2.2.2.length y5d,.bool e'.closing.1,.slice y6p e'.closing.2.1.length y6c,.bool e'.closing.2.2.1,.slice y6r e'.closing.2.2.2.length y6d] rfl (aN hc' 0 _ ⟨[],rfl⟩) (wV rfl ?_)
   refine ab ?_
   by_cases heq:fJ.q e=fJ.q e'
   ·refine VO.call rfl rfl (fk Tryz.func56) (fun bF cU bJ=>(Cg _ _ _ _ e e' kk bF rfl rfl ((dK kk).kp hE0 (Kp.of (U:=UU) bJ)) ((dK kk).kp Gi (Kp.of (U:=UU) bJ)) hk true (decide_eq_true heq)).mono ?_)
    rintro e w1 ⟨rfl,aK⟩
    skip
    refine ⟨_,rfl,aK,fun dC _ bb1=>wV rfl ?_⟩
    refine ab ?_
    refine VS.back (N - (z + 1)) aa ⟨_,_,?_,?_,?_,?_,⟨z + 1,by omega,rfl,rP he qH gN heq,rfl,rfl⟩⟩
    ·refine ⟨rfl,rfl,rfl,rfl,?_,trivial⟩
     rw [<-aE (i:=z) aa];rfl
    ·exact bT
    ·rfl
    ·exact ic
   ·refine VO.call rfl rfl (fk Tryz.func56) (fun bF cU bJ=>(Cg _ _ _ _ e e' kk bF rfl rfl ((dK kk).kp hE0 (Kp.of (U:=UU) bJ)) ((dK kk).kp Gi (Kp.of (U:=UU) bJ)) hk false (decide_eq_false heq)).mono ?_)
    rintro e w1 ⟨rfl,aK⟩
    skip
    refine ⟨_,rfl,aK,fun dC _ bb1=>wV rfl ?_⟩
    refine ab ?_
    refine aY ?_;intro wz kz bz
    exact ⟨by rw [ug he qH heq];rfl,bz⟩
  ·refine VS.aQ rfl (decide_eq_false (fun e=>hlt (Int.ofNat_lt.1 e))) ?_
   refine ab ?_
   refine aY ?_;intro wz kz bz
   exact ⟨by rw [vY aa aa gN];rfl,bz⟩
 ·refine VS.aP rfl (BC aa) ?_
  refine ab ?_
  refine aY ?_;intro wz kz bz
  exact ⟨by rw [vX aa];rfl,bz⟩
theorem JX (v u:Value) (xs ys:List fJ) (kk:Nat) (w:World) (hx:dp (qD kk) 28 w v xs) (hy:dp (qD kk) 28 w u ys) (hk:kk≤1000000) (b:Bool) (hb:Gg fJ.q xs ys=b):
 Calls Tryz.prog 55 #[v,u,.func (.func 56) #[] #[]] w fun o w'=>o=.returned (.bool b)/\aM w w':=hb▸PN v u xs ys kk w hx hy hk
set_option maxRecDepth 4000 in
theorem PO (v u:Value) (xs ys:List gr) (kk:Nat) (w:World) (hx:dp (vR kk) 6 w v xs) (hy:dp (vR kk) 6 w u ys) (hk:kk≤1000000):
  Calls Tryz.prog 57 #[v,u,.func (.func 58) #[] #[]] w fun o w'=>o=.returned (.bool (Gg gr.q xs ys))/\aM w w':=by
 obtain ⟨p,c,rfl,hpc,hpm⟩:=hx.form
 obtain ⟨q,d,rfl,hqd,hqm⟩:=hy.form
 obtain ⟨N,hN⟩:∃ N,N=xs.length:=⟨_,rfl⟩
 obtain ⟨n,hn⟩:∃ n,n=ys.length:=⟨_,rfl⟩
 rw [<-hN] at hx hpc
 rw [<-hn] at hy hqd
 rw [<-hN,<-hn]
 refine ah (C:=bS Tryz.prog w _) (args:=[_,_,_]) Tryz.func57 rfl Tryz.ntmps57 (bB rfl) ?_
 refine ab ?_
 by_cases hNn:N=n
 ·refine VS.aQ rfl (xS aa) ?_
  refine ab ?_
  refine VS.loop (J:=fun m L M w'=>∃ z:Nat,z≤N/\m=N - z/\(xs.take z).map gr.q=(ys.take z).map gr.q/\L=[(1,.val (.slice q n d)),(2,.val (.func (.func 58) #[] #[])),(15,.val (.slice p N c)),(16,.val (.int .i64 (N:Int))),(17,.val (.int .i64 (z:Int)))]/\M=[]) N ⟨_,_,?_,?_,?_,?_,⟨0,by omega,rfl,rfl,rfl,rfl⟩⟩ ?_
  ·exact bT
  ·exact bT
  ·rfl
  ·exact ic
  rintro m L M w1 ⟨z,hz,rfl,gN,rfl,rfl⟩
  refine ab ?_
  by_cases hlt:z < N
  ·obtain ⟨e,he⟩:∃ e,xs[z]? =some e:=⟨_,List.getElem?_eq_getElem aa⟩
   obtain ⟨e',qH⟩:∃ e,ys[z]? =some e:=⟨_,List.getElem?_eq_getElem aa⟩
   obtain ⟨b,off,cs,fN,hc,hE⟩:=hx.at he
   obtain ⟨b',aV,eQ,Gh,hc',PM⟩:=hy.at qH
   subst fN
   subst Gh
   have hE0:=hE
   have Gi:=PM
   obtain ⟨_,rfl,⟨ap,ac,ar,ad,rfl,ha⟩,hf⟩:=hE
   obtain ⟨_,rfl,⟨bp,bc,br,bd,rfl,ha'⟩,hf'⟩:=PM
   refine VS.aP rfl (decide_eq_true (Int.ofNat_lt.2 hlt)) ?_
   refine ab ?_
   refine VO.cond rfl du ?_
   refine wV rfl ?_
   refine ab ?_
   refine VO.read rfl [.int .i64 e.1,.int .i64 e.2.1,.bool e.2.2.1,.slice ap e.2.2.2.1.length ac,.bool e.2.2.2.2.1,.slice ar e.2.2.2.2.2.length ad] rfl (aN hc 0 _ ⟨[],rfl⟩) (wV rfl ?_)
   refine ab ?_
   refine VO.cond rfl du ?_
   refine wV rfl ?_
   refine ab ?_
   refine VO.read rfl [.int .i64 e'.1,.int .i64 e'.2.1,.bool e'.2.2.1,.slice bp e'.2.2.2.1.length bc,.bool e'.2.2.2.2.1,.slice br e'.2.2.2.2.2.length bd] rfl (aN hc' 0 _ ⟨[],rfl⟩) (wV rfl ?_)
   refine ab ?_
   by_cases heq:gr.q e=gr.q e'
   ·refine VO.call rfl rfl (fk Tryz.func58) (fun bF cU bJ=>(Ch _ _ _ _ e e' kk bF rfl rfl ((eP kk).kp hE0 (Kp.of (U:=UU) bJ)) ((eP kk).kp Gi (Kp.of (U:=UU) bJ)) hk true (decide_eq_true heq)).mono ?_)
    rintro e w1 ⟨rfl,aK⟩
    skip
    refine ⟨_,rfl,aK,fun dC _ bb1=>wV rfl ?_⟩
    refine ab ?_
    refine VS.back (N - (z + 1)) aa ⟨_,_,?_,?_,?_,?_,⟨z + 1,by omega,rfl,rP he qH gN heq,rfl,rfl⟩⟩
    ·refine ⟨rfl,rfl,rfl,rfl,?_,trivial⟩
     rw [<-aE (i:=z) aa];rfl
    ·exact bT
    ·rfl
    ·exact ic
   ·refine VO.call rfl rfl (fk Tryz.func58) (fun bF cU bJ=>(Ch _ _ _ _ e e' kk bF rfl rfl ((eP kk).kp hE0 (Kp.of (U:=UU) bJ)) ((eP kk).kp Gi (Kp.of (U:=UU) bJ)) hk false (decide_eq_false heq)).mono ?_)
    rintro e w1 ⟨rfl,aK⟩
    skip
    refine ⟨_,rfl,aK,fun dC _ bb1=>wV rfl ?_⟩
    refine ab ?_
    refine aY ?_;intro wz kz bz
    exact ⟨by rw [ug he qH heq];rfl,bz⟩
  ·refine VS.aQ rfl (decide_eq_false (fun e=>hlt (Int.ofNat_lt.1 e))) ?_
   refine ab ?_
   refine aY ?_;intro wz kz bz
   exact ⟨by rw [vY aa aa gN];rfl,bz⟩
 ·refine VS.aP rfl (BC aa) ?_
  refine ab ?_
  refine aY ?_;intro wz kz bz
  exact ⟨by rw [vX aa];rfl,bz⟩
theorem TQ (v u:Value) (xs ys:List gr) (kk:Nat) (w:World) (hx:dp (vR kk) 6 w v xs) (hy:dp (vR kk) 6 w u ys) (hk:kk≤1000000) (b:Bool) (hb:Gg gr.q xs ys=b):
 Calls Tryz.prog 57 #[v,u,.func (.func 58) #[] #[]] w fun o w'=>o=.returned (.bool b)/\aM w w':=hb▸PO v u xs ys kk w hx hy hk
theorem dc (v u:Value) (q r:Rat) (k l:Nat) (w:World) (hv:bA w v q k) (hu:bA w u r l) (hk:k≤33554431) (hl:l≤33554431) (b:Bool) (hb:decide (q=r)=b):
 Calls Tryz.prog 54 #[v,u] w fun e w'=>e=.returned (.bool b)/\aM w w':=hb▸Js v u q r k l w hv hu hk hl
set_option maxRecDepth 4000 in
theorem JY (v u:Value) (cs eQ:List Value) (a b:fJ) (kk:Nat) (w:World) (hv:v=.agg cs.toArray) (hu:u=.agg eQ.toArray) (ha:qD kk w cs a) (hb:qD kk w eQ b) (hk:kk≤1000000):
  Calls Tryz.prog 53 #[v,u] w fun o w'=>o=.returned (.bool (decide (a.q=b.q)))/\aM w w':=by
 obtain ⟨_,_,_,_,_,_,_,rfl,⟨⟨z0p,z0c,z0r,z0d,rfl,g0⟩,gf0⟩,⟨⟨z1p,z1c,z1r,z1d,rfl,g1⟩,gf1⟩,⟨⟨z2p,z2c,z2r,z2d,rfl,g2⟩,gf2⟩,⟨⟨z3p,z3c,z3r,z3d,rfl,g3⟩,gf3⟩,⟨⟨z4p,z4c,z4r,z4d,rfl,g4⟩,gf4⟩,⟨⟨z5p,z5c,z5r,z5d,rfl,g5⟩,gf5⟩,⟨⟨z6p,z6c,z6r,z6d,rfl,g6⟩,gf6⟩⟩:=ha
 obtain ⟨_,_,_,_,_,_,_,rfl,⟨⟨y0p,y0c,y0r,y0d,rfl,h0⟩,hf0⟩,⟨⟨y1p,y1c,y1r,y1d,rfl,h1⟩,RB⟩,⟨⟨y2p,y2c,y2r,y2d,rfl,h2⟩,RD⟩,⟨⟨y3p,y3c,y3r,y3d,rfl,h3⟩,hf3⟩,⟨⟨y4p,y4c,y4r,y4d,rfl,h4⟩,hf4⟩,⟨⟨y5p,y5c,y5r,y5d,rfl,h5⟩,hf5⟩,⟨⟨y6p,y6c,y6r,y6d,rfl,h6⟩,hf6⟩⟩:=hb
 subst hv
 subst hu
 refine ah (C:=bS Tryz.prog w _) (args:=[_,_]) Tryz.func53 rfl Tryz.ntmps53 (bB rfl) ?_
 refine ab ?_
 by_cases e0:a.bn.q=b.bn.q
 case neg=>
  refine VO.call rfl rfl (fk Tryz.func54) (fun bF cU bJ=>(dc _ _ a.bn.q b.bn.q kk kk bF ((g0.kp (Kp.of (U:=UU) bJ)).iE gf0) ((h0.kp (Kp.of (U:=UU) bJ)).iE hf0) aa aa false (decide_eq_false e0)).mono ?_)
  rintro e w1 ⟨rfl,aK⟩
  skip
  refine ⟨_,rfl,aK,fun dC _ bb1=>wV rfl ?_⟩
  refine ab ?_
  refine aY ?_;intro wz kz bz
  exact ⟨by rw [decide_eq_false (fun e=>e0 (by have:=congrArg aL.bn e;exact this))];rfl,bz⟩
 refine VO.call rfl rfl (fk Tryz.func54) (fun bF cU bJ=>(dc _ _ a.bn.q b.bn.q kk kk bF ((g0.kp (Kp.of (U:=UU) bJ)).iE gf0) ((h0.kp (Kp.of (U:=UU) bJ)).iE hf0) aa aa true (decide_eq_true e0)).mono ?_)
 rintro e w1 ⟨rfl,aK⟩
 skip
 refine ⟨_,rfl,aK,fun dC _ bb1=>wV rfl ?_⟩
 refine ab ?_
 by_cases e1:a.allowed.q=b.allowed.q
 case neg=>
  refine VO.call rfl rfl (fk Tryz.func54) (fun cK eg di=>(dc _ _ a.allowed.q b.allowed.q kk kk cK ((g1.kp (Kp.of (U:=UU) di)).iE gf1) ((h1.kp (Kp.of (U:=UU) di)).iE RB) aa aa false (decide_eq_false e1)).mono ?_)
  rintro e w2 ⟨rfl,ba⟩
  skip
  refine ⟨_,rfl,ba,fun ed _ bb2=>wV rfl ?_⟩
  refine ab ?_
  refine aY ?_;intro wz kz bz
  exact ⟨by rw [decide_eq_false (fun e=>e1 (by have:=congrArg aL.allowed e;exact this))];rfl,bz⟩
 refine VO.call rfl rfl (fk Tryz.func54) (fun cK eg di=>(dc _ _ a.allowed.q b.allowed.q kk kk cK ((g1.kp (Kp.of (U:=UU) di)).iE gf1) ((h1.kp (Kp.of (U:=UU) di)).iE RB) aa aa true (decide_eq_true e1)).mono ?_)
 rintro e w2 ⟨rfl,ba⟩
 skip
 refine ⟨_,rfl,ba,fun ed _ bb2=>wV rfl ?_⟩
 refine ab ?_
 by_cases e2:a.aI.q=b.aI.q
 case neg=>
  refine VO.call rfl rfl (fk Tryz.func54) (fun fh fE fG=>(dc _ _ a.aI.q b.aI.q kk kk fh ((g2.kp (Kp.of (U:=UU) fG)).iE gf2) ((h2.kp (Kp.of (U:=UU) fG)).iE RD) aa aa false (decide_eq_false e2)).mono ?_)
  rintro e w3 ⟨rfl,cG⟩
  skip
  refine ⟨_,rfl,cG,fun gT _ bb3=>wV rfl ?_⟩
  refine ab ?_
  refine aY ?_;intro wz kz bz
  exact ⟨by rw [decide_eq_false (fun e=>e2 (by have:=congrArg aL.aI e;exact this))];rfl,bz⟩
 refine VO.call rfl rfl (fk Tryz.func54) (fun fh fE fG=>(dc _ _ a.aI.q b.aI.q kk kk fh ((g2.kp (Kp.of (U:=UU) fG)).iE gf2) ((h2.kp (Kp.of (U:=UU) fG)).iE RD) aa aa true (decide_eq_true e2)).mono ?_)
 rintro e w3 ⟨rfl,cG⟩
 skip
 refine ⟨_,rfl,cG,fun gT _ bb3=>wV rfl ?_⟩
 refine ab ?_
 by_cases e3:a.used.q=b.used.q
 case neg=>
  refine VO.call rfl rfl (fk Tryz.func54) (fun iP jT jX=>(dc _ _ a.used.q b.used.q kk kk iP ((g3.kp (Kp.of (U:=UU) jX)).iE gf3) ((h3.kp (Kp.of (U:=UU) jX)).iE hf3) aa aa false (decide_eq_false e3)).mono ?_)
  rintro e w4 ⟨rfl,eV⟩
  skip
  refine ⟨_,rfl,eV,fun lh _ sT=>wV rfl ?_⟩
  refine ab ?_
  refine aY ?_;intro wz kz bz
  exact ⟨by rw [decide_eq_false (fun e=>e3 (by have:=congrArg aL.used e;exact this))];rfl,bz⟩
 refine VO.call rfl rfl (fk Tryz.func54) (fun iP jT jX=>(dc _ _ a.used.q b.used.q kk kk iP ((g3.kp (Kp.of (U:=UU) jX)).iE gf3) ((h3.kp (Kp.of (U:=UU) jX)).iE hf3) aa aa true (decide_eq_true e3)).mono ?_)
 rintro e w4 ⟨rfl,eV⟩
 skip
 refine ⟨_,rfl,eV,fun lh _ sT=>wV rfl ?_⟩
 refine ab ?_
 by_cases e4:a.ay.q=b.ay.q
 case neg=>
  refine VO.call rfl rfl (fk Tryz.func54) (fun gf jl gD=>(dc _ _ a.ay.q b.ay.q kk kk gf ((g4.kp (Kp.of (U:=UU) gD)).iE gf4) ((h4.kp (Kp.of (U:=UU) gD)).iE hf4) aa aa false (decide_eq_false e4)).mono ?_)
  rintro e w5 ⟨rfl,eE⟩
  skip
  refine ⟨_,rfl,eE,fun jy _ qi=>wV rfl ?_⟩
  refine ab ?_
  refine aY ?_;intro wz kz bz
  exact ⟨by rw [decide_eq_false (fun e=>e4 (by have:=congrArg aL.ay e;exact this))];rfl,bz⟩
 refine VO.call rfl rfl (fk Tryz.func54) (fun gf jl gD=>(dc _ _ a.ay.q b.ay.q kk kk gf ((g4.kp (Kp.of (U:=UU) gD)).iE gf4) ((h4.kp (Kp.of (U:=UU) gD)).iE hf4) aa aa true (decide_eq_true e4)).mono ?_)
 rintro e w5 ⟨rfl,eE⟩
 skip
 refine ⟨_,rfl,eE,fun jy _ qi=>wV rfl ?_⟩
 refine ab ?_
 by_cases e5:a.aq.q=b.aq.q
 case neg=>
  refine VO.call rfl rfl (fk Tryz.func54) (fun gj kx iz=>(dc _ _ a.aq.q b.aq.q kk kk gj ((g5.kp (Kp.of (U:=UU) iz)).iE gf5) ((h5.kp (Kp.of (U:=UU) iz)).iE hf5) aa aa false (decide_eq_false e5)).mono ?_)
  rintro e w6 ⟨rfl,fx⟩
  skip
  refine ⟨_,rfl,fx,fun jz _ oX=>wV rfl ?_⟩
  refine ab ?_
  refine aY ?_;intro wz kz bz
  exact ⟨by rw [decide_eq_false (fun e=>e5 (by have:=congrArg aL.aq e;exact this))];rfl,bz⟩
 refine VO.call rfl rfl (fk Tryz.func54) (fun gj kx iz=>(dc _ _ a.aq.q b.aq.q kk kk gj ((g5.kp (Kp.of (U:=UU) iz)).iE gf5) ((h5.kp (Kp.of (U:=UU) iz)).iE hf5) aa aa true (decide_eq_true e5)).mono ?_)
 rintro e w6 ⟨rfl,fx⟩
 skip
 refine ⟨_,rfl,fx,fun jz _ oX=>wV rfl ?_⟩
 refine ab ?_
 by_cases e6:a.closing.q=b.closing.q
 case neg=>
  refine VO.call rfl rfl (fk Tryz.func54) (fun mz qj lZ=>(dc _ _ a.closing.q b.closing.q kk kk mz ((g6.kp (Kp.of (U:=UU) lZ)).iE gf6) ((h6.kp (Kp.of (U:=UU) lZ)).iE hf6) aa aa false (decide_eq_false e6)).mono ?_)
  rintro e w7 ⟨rfl,lC⟩
  skip
  refine ⟨_,rfl,lC,fun oC _ Bx=>wV rfl ?_⟩
  refine ab ?_
  refine aY ?_;intro wz kz bz
  exact ⟨by rw [decide_eq_false (fun e=>e6 (by have:=congrArg aL.closing e;exact this))];rfl,bz⟩
 refine VO.call rfl rfl (fk Tryz.func54) (fun mz qj lZ=>(dc _ _ a.closing.q b.closing.q kk kk mz ((g6.kp (Kp.of (U:=UU) lZ)).iE gf6) ((h6.kp (Kp.of (U:=UU) lZ)).iE hf6) aa aa true (decide_eq_true e6)).mono ?_)
 rintro e w7 ⟨rfl,lC⟩
 skip
 refine ⟨_,rfl,lC,fun oC _ Bx=>wV rfl ?_⟩
 refine ab ?_
 refine aY ?_;intro wz kz bz
 exact ⟨by rw [decide_eq_true (show a.q=b.q by unfold fJ.q;rw [e0,e1,e2,e3,e4,e5,e6])];rfl,bz⟩
theorem Ci (v u:Value) (cs eQ:List Value) (a b:fJ) (kk:Nat) (w:World) (hv:v=.agg cs.toArray) (hu:u=.agg eQ.toArray) (ha:qD kk w cs a) (hb:qD kk w eQ b) (hk:kk≤1000000) (x:Bool) (hx:decide (a.q=b.q)=x):
 Calls Tryz.prog 53 #[v,u] w fun o w'=>o=.returned (.bool x)/\aM w w':=hx▸JY v u cs eQ a b kk w hv hu ha hb hk
def jb (X Y:List fJ×List gr):Bool:=Gg fJ.q X.1 Y.1 && Gg gr.q X.2 Y.2
set_option maxRecDepth 4000 in
theorem LX (r u r' u':Value) (X Y:List fJ×List gr) (kk:Nat) (w:World) (hX:FY kk w r u X) (hY:FY kk w r' u' Y) (hk:kk≤1000000):
  Calls Tryz.prog 21 #[.agg #[r,u],.agg #[r',u']] w fun o w'=>o=.returned (.bool (jb X Y))/\aM w w':=by
 obtain ⟨hX1,hX2⟩:=hX
 obtain ⟨hY1,hY2⟩:=hY
 obtain ⟨p1,c1,rfl,iI,hm1⟩:=hX1.form
 obtain ⟨p2,c2,rfl,iQ,Fo⟩:=hX2.form
 obtain ⟨p3,c3,rfl,hc3,hm3⟩:=hY1.form
 obtain ⟨p4,c4,rfl,wy,hm4⟩:=hY2.form
 obtain ⟨n1,rT⟩:∃ n,n=X.1.length:=⟨_,rfl⟩
 obtain ⟨n2,uY⟩:∃ n,n=X.2.length:=⟨_,rfl⟩
 obtain ⟨n3,hn3⟩:∃ n,n=Y.1.length:=⟨_,rfl⟩
 obtain ⟨n4,hn4⟩:∃ n,n=Y.2.length:=⟨_,rfl⟩
 rw [<-rT] at hX1 iI
 rw [<-uY] at hX2 iQ
 rw [<-hn3] at hY1 hc3
 rw [<-hn4] at hY2 wy
 rw [<-rT,<-uY,<-hn3,<-hn4]
 refine ah (C:=bS Tryz.prog w _) (args:=[_,_]) Tryz.func21 rfl Tryz.ntmps21 (bB rfl) ?_
 refine ab ?_
 by_cases h13:n1=n3
 case neg=>
  refine VO.fix 16 rfl (congrArg (fun b=>AV.val (.bool b)) (BC (show (n1:Int)≠(n3:Int) by omega))) ?_
  refine ab ?_
  refine aY ?_;intro wz kz bz
  exact ⟨by unfold jb;rw [vX aa];rfl,bz⟩
 refine VO.fix 16 rfl (congrArg (fun b=>AV.val (.bool b)) (xS (show (n1:Int)=(n3:Int) by omega))) ?_
 refine ab ?_
 by_cases h24:n2=n4
 case neg=>
  refine VS.aP rfl (BC (show (n2:Int)≠(n4:Int) by omega)) ?_
  refine ab ?_
  refine aY ?_;intro wz kz bz
  exact ⟨by unfold jb;rw [vX (f:=gr.q) aa,Bool.and_false];rfl,bz⟩
 refine VS.aQ rfl (xS (show (n2:Int)=(n4:Int) by omega)) ?_
 refine ab ?_
 refine VS.loop (J:=fun m L M w'=>∃ z:Nat,z≤n1/\m=n1 - z/\(X.1.take z).map fJ.q=(Y.1.take z).map fJ.q/\L=[(2,.box 2 0),(3,.box 3 0),(5,.val (.int .i64 (z:Int)))]/\M=[(2,(64,[.val (.slice p1 n1 c1),.val (.slice p2 n2 c2)])),(3,(64,[.val (.slice p3 n3 c3),.val (.slice p4 n4 c4)]))]) n1 ⟨_,_,?_,?_,?_,?_,⟨0,by omega,rfl,rfl,rfl,rfl⟩⟩ ?_
 ·exact bT
 ·exact bT
 ·rfl
 ·exact ic
 rintro m L M w1 ⟨z,hz,rfl,gN,rfl,rfl⟩
 refine ab ?_
 by_cases hlt:z < n1
 ·obtain ⟨e,he⟩:∃ e,X.1[z]? =some e:=⟨_,List.getElem?_eq_getElem aa⟩
  obtain ⟨e',qH⟩:∃ e,Y.1[z]? =some e:=⟨_,List.getElem?_eq_getElem aa⟩
  obtain ⟨b,off,cs,fN,hc,hE⟩:=hX1.at he
  obtain ⟨b',aV,eQ,Gh,hc',PM⟩:=hY1.at qH
  subst fN
  subst Gh
  have hE0:=hE
  have Gi:=PM
  obtain ⟨_,_,_,_,_,_,_,rfl,⟨⟨z0p,z0c,z0r,z0d,rfl,g0⟩,gf0⟩,⟨⟨z1p,z1c,z1r,z1d,rfl,g1⟩,gf1⟩,⟨⟨z2p,z2c,z2r,z2d,rfl,g2⟩,gf2⟩,⟨⟨z3p,z3c,z3r,z3d,rfl,g3⟩,gf3⟩,⟨⟨z4p,z4c,z4r,z4d,rfl,g4⟩,gf4⟩,⟨⟨z5p,z5c,z5r,z5d,rfl,g5⟩,gf5⟩,⟨⟨z6p,z6c,z6r,z6d,rfl,g6⟩,gf6⟩⟩:=hE
  obtain ⟨_,_,_,_,_,_,_,rfl,⟨⟨y0p,y0c,y0r,y0d,rfl,h0⟩,hf0⟩,⟨⟨y1p,y1c,y1r,y1d,rfl,h1⟩,RB⟩,⟨⟨y2p,y2c,y2r,y2d,rfl,h2⟩,RD⟩,⟨⟨y3p,y3c,y3r,y3d,rfl,h3⟩,hf3⟩,⟨⟨y4p,y4c,y4r,y4d,rfl,h4⟩,hf4⟩,⟨⟨y5p,y5c,y5r,y5d,rfl,h5⟩,hf5⟩,⟨⟨y6p,y6c,y6r,y6d,rfl,h6⟩,hf6⟩⟩:=PM
  refine VS.aP rfl (decide_eq_true (Int.ofNat_lt.2 hlt)) ?_
  refine ab ?_
  refine VO.cond rfl du ?_
  refine wV rfl ?_
  refine ab ?_
  refine VO.read rfl [.bool e.bn.1,.slice z0p e.bn.2.1.length z0c,.bool e.bn.2.2.1,.slice z0r e.bn.2.2.2.length z0d,.bool e.allowed.1,.slice z1p e.allowed.2.1.length z1c,.bool e.allowed.2.2.1,.slice z1r e.allowed.2.2.2.length z1d,.bool e.aI.1,.slice z2p e.aI.2.1.length z2c,.bool e.aI.2.2.1,.slice z2r e.aI.2.2.2.length z2d,.bool e.used.1,.slice z3p e.used.2.1.length z3c,.bool e.used.2.2.1,.slice z3r e.used.2.2.2.length z3d,.bool e.ay.1,.slice z4p e.ay.2.1.length z4c,.bool e.ay.2.2.1,.slice z4r e.ay.2.2.2.length z4d,.bool e.aq.1,.slice z5p e.aq.2.1.length z5c,.bool e.aq.2.2.1,.slice z5r e.aq.2.2.2.length z5d,.bool e.closing.1,.slice z6p e.closing.2.1.length z6c,.bool e.closing.2.2.1,.slice z6r e.closing.2.2.2.length z6d] rfl (aN hc 0 _ ⟨[],rfl⟩) (wV rfl ?_)
  refine ab ?_
  refine VO.cond rfl du ?_
  refine wV rfl ?_
  refine ab ?_
  refine VO.read rfl [.bool e'.bn.1,.slice y0p e'.bn.2.1.length y0c,.bool e'.bn.2.2.1,.slice y0r e'.bn.2.2.2.length y0d,.bool e'.allowed.1,.slice y1p e'.allowed.2.1.length y1c,.bool e'.allowed.2.2.1,.slice y1r e'.allowed.2.2.2.length y1d,.bool e'.aI.1,.slice y2p e'.aI.2.1.length y2c,.bool e'.aI.2.2.1,.slice y2r e'.aI.2.2.2.length y2d,.bool e'.used.1,.slice y3p e'.used.2.1.length y3c,.bool e'.used.2.2.1,.slice y3r e'.used.2.2.2.length y3d,.bool e'.ay.1,.slice y4p e'.ay.2.1.length y4c,.bool e'.ay.2.2.1,.slice y4r e'.ay.2.2.2.length y4d,.bool e'.aq.1,.slice y5p e'.aq.2.1.length y5c,.bool e'.aq.2.2.1,.slice y5r e'.aq.2.2.2.length y5d,.bool e'.closing.1,.slice y6p e'.closing.2.1.length y6c,.bool e'.closing.2.2.1,.slice y6r e'.closing.2.2.2.length y6d] rfl (aN hc' 0 _ ⟨[],rfl⟩) (wV rfl ?_)
  refine ab ?_
  by_cases heq:fJ.q e=fJ.q e'
  ·refine VO.call rfl rfl (fk Tryz.func53) (fun bF cU bJ=>(Ci _ _ _ _ e e' kk bF rfl rfl ((dK kk).kp hE0 (Kp.of (U:=UU) bJ)) ((dK kk).kp Gi (Kp.of (U:=UU) bJ)) hk true (decide_eq_true heq)).mono ?_)
   rintro e w1 ⟨rfl,aK⟩
   skip
   refine ⟨_,rfl,aK,fun dC _ bb1=>wV rfl ?_⟩
   refine ab ?_
   refine VS.back (n1 - (z + 1)) aa ⟨_,_,?_,?_,?_,?_,⟨z + 1,by omega,rfl,rP he qH gN heq,rfl,rfl⟩⟩
   ·refine ⟨rfl,rfl,?_,trivial⟩
    rw [<-aE (i:=z) aa];rfl
   ·exact bT
   ·rfl
   ·exact ic
  ·refine VO.call rfl rfl (fk Tryz.func53) (fun bF cU bJ=>(Ci _ _ _ _ e e' kk bF rfl rfl ((dK kk).kp hE0 (Kp.of (U:=UU) bJ)) ((dK kk).kp Gi (Kp.of (U:=UU) bJ)) hk false (decide_eq_false heq)).mono ?_)
   rintro e w1 ⟨rfl,aK⟩
   skip
   refine ⟨_,rfl,aK,fun dC _ bb1=>wV rfl ?_⟩
   refine ab ?_
   refine aY ?_;intro wz kz bz
   exact ⟨by unfold jb;rw [ug he qH heq];rfl,bz⟩
 refine VS.aQ rfl (decide_eq_false (fun e=>hlt (Int.ofNat_lt.1 e))) ?_
 have ik:z=n1:=by omega
 have jE:Gg fJ.q X.1 Y.1=true:=vY aa (show X.1.length≤z by omega) gN
 clear gN hlt ik hz
 refine ab ?_
 refine VS.loop (J:=fun m L M w'=>∃ z:Nat,z≤n2/\m=n2 - z/\(X.2.take z).map gr.q=(Y.2.take z).map gr.q/\L=[(2,.box 2 0),(3,.box 3 0),(6,.val (.int .i64 (z:Int)))]/\M=[(2,(64,[.val (.slice p1 n1 c1),.val (.slice p2 n2 c2)])),(3,(64,[.val (.slice p3 n3 c3),.val (.slice p4 n4 c4)]))]) n2 ⟨_,_,?_,?_,?_,?_,⟨0,by omega,rfl,rfl,rfl,rfl⟩⟩ ?_
 ·exact bT
 ·exact bT
 ·rfl
 ·exact ic
 rintro m L M w2 ⟨z,hz,rfl,gN,rfl,rfl⟩
 refine ab ?_
 by_cases hlt:z < n2
 ·obtain ⟨e,he⟩:∃ e,X.2[z]? =some e:=⟨_,List.getElem?_eq_getElem aa⟩
  obtain ⟨e',qH⟩:∃ e,Y.2[z]? =some e:=⟨_,List.getElem?_eq_getElem aa⟩
  obtain ⟨b,off,cs,fN,hc,hE⟩:=hX2.at he
  obtain ⟨b',aV,eQ,Gh,hc',PM⟩:=hY2.at qH
  subst fN
  subst Gh
  obtain ⟨_,rfl,⟨ap,ac,ar,ad,rfl,ha⟩,hf⟩:=hE
  obtain ⟨_,rfl,⟨bp,bc,br,bd,rfl,ha'⟩,hf'⟩:=PM
  refine VS.aP rfl (decide_eq_true (Int.ofNat_lt.2 hlt)) ?_
  (repeat (first | refine wN ?_ | refine wP rfl ?_ | refine wO rfl rfl ?_))
  refine VS.drawL (cJ _ _) (IH _ _) [] [1,4,6,9] [12,13] [7,8] (by kernel_rfl) ?_
  refine nP.chunk (l2:=[1,2,3,4,5,6,7,8,9,10,11,12,13]) [0] rfl ?_
  refine ab ?_
  refine nP.l (j:=1) rfl rfl rfl rfl rfl ?_
  refine ab ?_
  refine nP.chunk (l2:=[4,5,6,7,8,9,10,11,12,13]) [2,3] rfl ?_
  refine ab ?_
  refine VO.cond rfl du ?_
  refine wV rfl ?_
  refine ab ?_
  refine nP.b (j:=4) rfl rfl rfl rfl ?_
  refine VO.read rfl [.int .i64 e.1,.int .i64 e.2.1,.bool e.2.2.1,.slice ap e.2.2.2.1.length ac,.bool e.2.2.2.2.1,.slice ar e.2.2.2.2.2.length ad] rfl (aN hc 0 _ ⟨[],rfl⟩) (wV rfl ?_)
  refine ab ?_
  refine nP.chunk (l2:=[6,7,8,9,10,11,12,13]) [5] rfl ?_
  refine ab ?_
  refine nP.l (j:=6) rfl rfl rfl rfl rfl ?_
  refine ab ?_
  refine nP.chunk (l2:=[9,10,11,12,13]) [7,8] rfl ?_
  refine ab ?_
  refine VO.cond rfl du ?_
  refine wV rfl ?_
  refine ab ?_
  refine nP.b (j:=9) rfl rfl rfl rfl ?_
  refine VO.read rfl [.int .i64 e'.1,.int .i64 e'.2.1,.bool e'.2.2.1,.slice bp e'.2.2.2.1.length bc,.bool e'.2.2.2.2.1,.slice br e'.2.2.2.2.2.length bd] rfl (aN hc' 0 _ ⟨[],rfl⟩) (wV rfl ?_)
  refine ab ?_
  refine nP.chunk (l2:=[12,13]) [10,11] rfl ?_
  refine ab ?_
  refine nP.s (j:=12) rfl ⟨_,_,_,7,0,rfl,rfl,by simp⟩ rfl ?_
  refine ab ?_
  refine nP.s (j:=13) rfl ⟨_,_,_,8,0,rfl,rfl,by simp⟩ rfl ?_
  refine ab ?_
  by_cases g1:e.1=e'.1
  case neg=>
   refine VO.fix 66 rfl (congrArg (fun b=>AV.val (.bool b)) (BC g1)) ?_
   refine ab ?_
   refine aY ?_;intro wz kz bz
   exact ⟨by unfold jb;rw [ug he qH (fun h=>by have:=congrArg Prod.fst h;exact g1 this),Bool.and_false];rfl,bz⟩
  refine VO.fix 66 rfl (congrArg (fun b=>AV.val (.bool b)) (xS g1)) ?_
  refine ab ?_
  by_cases g2:e.2.1=e'.2.1
  case neg=>
   refine VO.fix 73 rfl (congrArg (fun b=>AV.val (.bool b)) (BC g2)) ?_
   refine ab ?_
   refine aY ?_;intro wz kz bz
   exact ⟨by unfold jb;rw [ug he qH (fun h=>by have:=congrArg (fun p=>p.2.1) h;exact g2 this),Bool.and_false];rfl,bz⟩
  refine VO.fix 73 rfl (congrArg (fun b=>AV.val (.bool b)) (xS g2)) ?_
  refine ab ?_
  by_cases g3:e.2.2.q=e'.2.2.q
  case neg=>
   refine VO.call rfl rfl (fk Tryz.func54) (fun cK eg di=>(dc _ _ e.2.2.q e'.2.2.q kk kk cK ((ha.kp (Kp.of (U:=UU) di)).iE hf) ((ha'.kp (Kp.of (U:=UU) di)).iE hf') aa aa false (decide_eq_false g3)).mono ?_)
   rintro e w2 ⟨rfl,ba⟩
   skip
   refine ⟨_,rfl,ba,fun ed _ bb2=>wV rfl ?_⟩
   refine ab ?_
   refine aY ?_;intro wz kz bz
   exact ⟨by unfold jb;rw [ug he qH (fun h=>by have:=congrArg (fun p=>p.2.2) h;exact g3 this),Bool.and_false];rfl,bz⟩
  refine VO.call rfl rfl (fk Tryz.func54) (fun cK eg di=>(dc _ _ e.2.2.q e'.2.2.q kk kk cK ((ha.kp (Kp.of (U:=UU) di)).iE hf) ((ha'.kp (Kp.of (U:=UU) di)).iE hf') aa aa true (decide_eq_true g3)).mono ?_)
  rintro e w2 ⟨rfl,ba⟩
  skip
  refine ⟨_,rfl,ba,fun ed _ bb2=>wV rfl ?_⟩
  refine ab ?_
  have heq:gr.q e=gr.q e':=by unfold gr.q;rw [g1,g2,g3]
  refine VS.back (n2 - (z + 1)) aa ⟨_,_,?_,?_,?_,?_,⟨z + 1,by omega,rfl,rP he qH gN heq,rfl,rfl⟩⟩
  ·refine ⟨rfl,rfl,?_,trivial⟩
   rw [<-aE (i:=z) aa];rfl
  ·exact bT
  ·rfl
  ·exact ic
 refine VS.aQ rfl (decide_eq_false (fun e=>hlt (Int.ofNat_lt.1 e))) ?_
 refine ab ?_
 refine aY ?_;intro wz kz bz
 have jW:Gg gr.q X.2 Y.2=true:=vY aa (show X.2.length≤z by omega) gN
 exact ⟨by unfold jb;rw [jE,jW];rfl,bz⟩
theorem Ex (r u r' u':Value) (X Y:List fJ×List gr) (kk:Nat) (w:World) (hX:FY kk w r u X) (hY:FY kk w r' u' Y) (hk:kk≤1000000) (b:Bool) (hb:jb X Y=b):
 Calls Tryz.prog 21 #[.agg #[r,u],.agg #[r',u']] w fun o w'=>o=.returned (.bool b)/\aM w w':=hb▸LX r u r' u' X Y kk w hX hY hk
set_option maxRecDepth 4000
theorem dP {R:Bool} {l:List (RR×RR)} {z:Nat} {x:RR×RR} (h:l[z]? =some x):(R && (l.take (z + 1)).all fI)=((R && (l.take z).all fI) && fI x):=by
 rw [cD h,List.all_append,Bool.and_assoc]
 simp
theorem bH (x:RR) (b:Bool) (hb:x.ok=b) (v:Value) (w:World) (h:eR w v x.1 x.2.1 x.2.2.1 x.2.2.2) {k:Nat} (hx:x.kQ k) (hk:k≤100000):
 Calls Tryz.prog 85 #[v] w fun e w'=>e=.returned (.bool b)/\aM w w':=hb▸vu _ _ _ _ v w h (Nat.le_trans hx.1 aa) (Nat.le_trans hx.2 aa)
theorem uh (v:Value) (q:Rat) (k:Nat) (w:World) (hv:bA w v q k) (hk:k≤134217728) (c:Int) (hc:ea q 0=c):
 Calls Tryz.prog 52 #[v] w fun e w'=>e=.returned (.int .i64 c)/\aM w w':=hc▸xR v q k w hv hk
theorem PQ (v u:Value) (q r:Rat) (k l:Nat) (w:World) (hv:bA w v q k) (hu:bA w u r l) (hk:k≤33554431) (hl:l≤33554431) (c:Int) (hc:ea q r=c):
 Calls Tryz.prog 86 #[v,u] w fun e w'=>e=.returned (.int .i64 c)/\aM w w':=hc▸pM v u q r k l w hv hu hk hl
set_option maxRecDepth 4000 in
theorem PR (v u:Value) (a b:RR) (keep:Int) (l:List (RR×RR)) (k:Nat) (w:World) (h:gM w v a b keep) (ha:a.kQ k) (hb:b.kQ k) (hl:dp (ue k) 8 w u l) (hk:k≤100000) (hlen:l.length≤100000):
  Calls Tryz.prog 47 #[v,u] w fun o w'=>o=.returned (.bool (dU a b keep && l.all fI))/\aM w w':=by
 obtain ⟨p,c,r,d,p',c',r',d',rfl,h1,h2⟩:=h
 obtain ⟨pu,cu,rfl,TM,hum⟩:=hl.form
 obtain ⟨N,hN⟩:∃ N,N=l.length:=⟨_,rfl⟩
 rw [<-hN] at hl TM hlen
 rw [<-hN]
 refine ah (C:=bS Tryz.prog w _) (args:=[_,_]) Tryz.func47 rfl Tryz.ntmps47 (bB rfl) ?_
 refine ab ?_
 cases e1:a.ok with
 | false=>
   have xm:dU a b keep=false:=by unfold dU;rw [e1];rfl
   refine VO.call rfl rfl (fk Tryz.func85) (fun bF cU bJ=>(bH a false e1 _ bF (h1.kp (Kp.of (U:=UU) bJ)) ha hk).mono ?_)
   rintro e w1 ⟨rfl,aK⟩
   skip
   refine ⟨_,rfl,aK,fun dC _ bb1=>wV rfl ?_⟩
   refine ab ?_
   refine VS.loop (J:=fun m L M w'=>∃ (z:Nat) (bb:Bool),z≤N/\m=N - z/\(dU a b keep && (l.take z).all fI)=bb/\L=[(1,.val (.slice pu N cu)),(5,.val (.bool bb)),(6,.val (.int .i64 (z:Int)))]/\M=[]) N ⟨_,_,?_,?_,?_,?_,⟨0,false,by omega,rfl,by rw [List.take_zero,xm];rfl,rfl,rfl⟩⟩ ?_
   ·exact bT
   ·exact bT
   ·rfl
   ·exact ic
   rintro m L M w9 ⟨z,bb,hz,rfl,jV,rfl,rfl⟩
   refine ab ?_
   by_cases hlt:z < N
   ·refine VS.aP rfl (decide_eq_true (Int.ofNat_lt.2 hlt)) ?_
    obtain ⟨x,hx⟩:∃ x,l[z]? =some x:=⟨_,List.getElem?_eq_getElem aa⟩
    obtain ⟨bx,off,cs,fN,hc,⟨_,_,rfl,⟨ap,ac,ar,ad,rfl,g1⟩,⟨bp,bc,br,bd,rfl,g2⟩,f1,f2⟩⟩:=hl.at hx
    subst fN
    cases bb with
    | false=>
      refine ab ?_
      refine VS.back (N - (z + 1)) aa ⟨_,_,?_,?_,?_,?_,⟨z + 1,false,by omega,rfl,by rw [dP hx,jV];rfl,rfl,rfl⟩⟩
      ·refine ⟨rfl,rfl,?_,trivial⟩
       rw [<-aE (i:=z) aa];rfl
      ·exact bT
      ·rfl
      ·exact ic
    | true=>
      refine ab ?_
      refine VO.cond rfl du ?_
      refine wV rfl ?_
      refine ab ?_
      refine VO.read rfl [.bool x.1.1,.slice ap x.1.2.1.length ac,.bool x.1.2.2.1,.slice ar x.1.2.2.2.length ad] rfl (aN hc 0 _ ⟨_,rfl⟩) (wV rfl ?_)
      refine ab ?_
      cases e1:x.1.ok with
      | false=>
        refine VO.call rfl rfl (fk Tryz.func85) (fun gj kx iz=>(bH x.1 false e1 _ gj (g1.kp (Kp.of (U:=UU) iz)) f1 hk).mono ?_)
        rintro e w6 ⟨rfl,fx⟩
        skip
        refine ⟨_,rfl,fx,fun jz _ oX=>wV rfl ?_⟩
        refine ab ?_
        refine VS.back (N - (z + 1)) aa ⟨_,_,?_,?_,?_,?_,⟨z + 1,false,by omega,rfl,by rw [dP hx,jV];unfold fI;rw [e1];rfl,rfl,rfl⟩⟩
        ·refine ⟨rfl,rfl,?_,trivial⟩
         rw [<-aE (i:=z) aa];rfl
        ·exact bT
        ·rfl
        ·exact ic
      | true=>
      refine VO.call rfl rfl (fk Tryz.func85) (fun gj kx iz=>(bH x.1 true e1 _ gj (g1.kp (Kp.of (U:=UU) iz)) f1 hk).mono ?_)
      rintro e w6 ⟨rfl,fx⟩
      skip
      refine ⟨_,rfl,fx,fun jz _ oX=>wV rfl ?_⟩
      refine ab ?_
      refine VO.cond rfl du ?_
      refine wV rfl ?_
      refine ab ?_
      refine VO.read rfl [.bool x.2.1,.slice bp x.2.2.1.length bc,.bool x.2.2.2.1,.slice br x.2.2.2.2.length bd] rfl (aN hc 4 _ ⟨[],rfl⟩) (wV rfl ?_)
      refine ab ?_
      obtain ⟨b2,e2⟩:∃ b2,x.2.ok=b2:=⟨_,rfl⟩
      refine VO.call rfl rfl (fk Tryz.func85) (fun mz qj lZ=>(bH x.2 b2 e2 _ mz (g2.kp (Kp.of (U:=UU) lZ)) f2 hk).mono ?_)
      rintro e w7 ⟨rfl,lC⟩
      skip
      refine ⟨_,rfl,lC,fun oC _ Bx=>wV rfl ?_⟩
      refine ab ?_
      refine VS.back (N - (z + 1)) aa ⟨_,_,?_,?_,?_,?_,⟨z + 1,b2,by omega,rfl,by rw [dP hx,jV];unfold fI;rw [e1,e2];rfl,rfl,rfl⟩⟩
      ·refine ⟨rfl,rfl,?_,trivial⟩
       rw [<-aE (i:=z) aa];rfl
      ·exact bT
      ·rfl
      ·exact ic
   ·refine VS.aQ rfl (decide_eq_false (fun e=>hlt (Int.ofNat_lt.1 e))) ?_
    refine ab ?_
    refine aY ?_;intro wz kz bz
    rw [List.take_of_length_le aa] at jV
    exact ⟨by rw [jV];rfl,bz⟩
 | true=>
 refine VO.call rfl rfl (fk Tryz.func85) (fun bF cU bJ=>(bH a true e1 _ bF (h1.kp (Kp.of (U:=UU) bJ)) ha hk).mono ?_)
 rintro e w1 ⟨rfl,aK⟩
 skip
 refine ⟨_,rfl,aK,fun dC _ bb1=>wV rfl ?_⟩
 refine ab ?_
 cases e2:b.ok with
 | false=>
   have xm:dU a b keep=false:=by unfold dU;rw [e1,e2];rfl
   refine VO.call rfl rfl (fk Tryz.func85) (fun cK eg di=>(bH b false e2 _ cK (h2.kp (Kp.of (U:=UU) di)) hb hk).mono ?_)
   rintro e w2 ⟨rfl,ba⟩
   skip
   refine ⟨_,rfl,ba,fun ed _ bb2=>wV rfl ?_⟩
   refine ab ?_
   refine VS.loop (J:=fun m L M w'=>∃ (z:Nat) (bb:Bool),z≤N/\m=N - z/\(dU a b keep && (l.take z).all fI)=bb/\L=[(1,.val (.slice pu N cu)),(5,.val (.bool bb)),(6,.val (.int .i64 (z:Int)))]/\M=[]) N ⟨_,_,?_,?_,?_,?_,⟨0,false,by omega,rfl,by rw [List.take_zero,xm];rfl,rfl,rfl⟩⟩ ?_
   ·exact bT
   ·exact bT
   ·rfl
   ·exact ic
   rintro m L M w9 ⟨z,bb,hz,rfl,jV,rfl,rfl⟩
   refine ab ?_
   by_cases hlt:z < N
   ·refine VS.aP rfl (decide_eq_true (Int.ofNat_lt.2 hlt)) ?_
    obtain ⟨x,hx⟩:∃ x,l[z]? =some x:=⟨_,List.getElem?_eq_getElem aa⟩
    obtain ⟨bx,off,cs,fN,hc,⟨_,_,rfl,⟨ap,ac,ar,ad,rfl,g1⟩,⟨bp,bc,br,bd,rfl,g2⟩,f1,f2⟩⟩:=hl.at hx
    subst fN
    cases bb with
    | false=>
      refine ab ?_
      refine VS.back (N - (z + 1)) aa ⟨_,_,?_,?_,?_,?_,⟨z + 1,false,by omega,rfl,by rw [dP hx,jV];rfl,rfl,rfl⟩⟩
      ·refine ⟨rfl,rfl,?_,trivial⟩
       rw [<-aE (i:=z) aa];rfl
      ·exact bT
      ·rfl
      ·exact ic
    | true=>
      refine ab ?_
      refine VO.cond rfl du ?_
      refine wV rfl ?_
      refine ab ?_
      refine VO.read rfl [.bool x.1.1,.slice ap x.1.2.1.length ac,.bool x.1.2.2.1,.slice ar x.1.2.2.2.length ad] rfl (aN hc 0 _ ⟨_,rfl⟩) (wV rfl ?_)
      refine ab ?_
      cases e1:x.1.ok with
      | false=>
        refine VO.call rfl rfl (fk Tryz.func85) (fun gj kx iz=>(bH x.1 false e1 _ gj (g1.kp (Kp.of (U:=UU) iz)) f1 hk).mono ?_)
        rintro e w6 ⟨rfl,fx⟩
        skip
        refine ⟨_,rfl,fx,fun jz _ oX=>wV rfl ?_⟩
        refine ab ?_
        refine VS.back (N - (z + 1)) aa ⟨_,_,?_,?_,?_,?_,⟨z + 1,false,by omega,rfl,by rw [dP hx,jV];unfold fI;rw [e1];rfl,rfl,rfl⟩⟩
        ·refine ⟨rfl,rfl,?_,trivial⟩
         rw [<-aE (i:=z) aa];rfl
        ·exact bT
        ·rfl
        ·exact ic
      | true=>
      refine VO.call rfl rfl (fk Tryz.func85) (fun gj kx iz=>(bH x.1 true e1 _ gj (g1.kp (Kp.of (U:=UU) iz)) f1 hk).mono ?_)
      rintro e w6 ⟨rfl,fx⟩
      skip
      refine ⟨_,rfl,fx,fun jz _ oX=>wV rfl ?_⟩
      refine ab ?_
      refine VO.cond rfl du ?_
      refine wV rfl ?_
      refine ab ?_
      refine VO.read rfl [.bool x.2.1,.slice bp x.2.2.1.length bc,.bool x.2.2.2.1,.slice br x.2.2.2.2.length bd] rfl (aN hc 4 _ ⟨[],rfl⟩) (wV rfl ?_)
      refine ab ?_
      obtain ⟨b2,e2⟩:∃ b2,x.2.ok=b2:=⟨_,rfl⟩
      refine VO.call rfl rfl (fk Tryz.func85) (fun mz qj lZ=>(bH x.2 b2 e2 _ mz (g2.kp (Kp.of (U:=UU) lZ)) f2 hk).mono ?_)
      rintro e w7 ⟨rfl,lC⟩
      skip
      refine ⟨_,rfl,lC,fun oC _ Bx=>wV rfl ?_⟩
      refine ab ?_
      refine VS.back (N - (z + 1)) aa ⟨_,_,?_,?_,?_,?_,⟨z + 1,b2,by omega,rfl,by rw [dP hx,jV];unfold fI;rw [e1,e2];rfl,rfl,rfl⟩⟩
      ·refine ⟨rfl,rfl,?_,trivial⟩
       rw [<-aE (i:=z) aa];rfl
      ·exact bT
      ·rfl
      ·exact ic
   ·refine VS.aQ rfl (decide_eq_false (fun e=>hlt (Int.ofNat_lt.1 e))) ?_
    refine ab ?_
    refine aY ?_;intro wz kz bz
    rw [List.take_of_length_le aa] at jV
    exact ⟨by rw [jV];rfl,bz⟩
 | true=>
 refine VO.call rfl rfl (fk Tryz.func85) (fun cK eg di=>(bH b true e2 _ cK (h2.kp (Kp.of (U:=UU) di)) hb hk).mono ?_)
 rintro e w2 ⟨rfl,ba⟩
 skip
 refine ⟨_,rfl,ba,fun ed _ bb2=>wV rfl ?_⟩
 refine ab ?_
 obtain ⟨sg,lB⟩:∃ sg,ea a.q 0=sg:=⟨_,rfl⟩
 have Cj:dU a b keep=(decide (sg≥0) && (decide (ea a.q 1≤0) && (decide (keep≥0) && decide (keep≤40)))):=by unfold dU;rw [e1,e2,lB];rfl
 refine VO.call rfl rfl (fk Tryz.func52) (fun fh fE fG=>(uh _ a.q k fh ((h1.iE ha).kp (Kp.of (U:=UU) fG)) aa sg lB).mono ?_)
 rintro e w3 ⟨rfl,cG⟩
 skip
 refine ⟨_,rfl,cG,fun gT _ bb3=>wV rfl ?_⟩
 refine ab ?_
 by_cases e3':sg < 0
 ·have e3:¬ sg≥0:=by omega
  have xm:dU a b keep=false:=by rw [Cj,decide_eq_false e3];rfl
  refine VO.fix 21 rfl (congrArg (fun b=>AV.val (.bool b)) (decide_eq_false e3)) ?_
  refine ab ?_
  refine VS.loop (J:=fun m L M w'=>∃ (z:Nat) (bb:Bool),z≤N/\m=N - z/\(dU a b keep && (l.take z).all fI)=bb/\L=[(1,.val (.slice pu N cu)),(5,.val (.bool bb)),(6,.val (.int .i64 (z:Int)))]/\M=[]) N ⟨_,_,?_,?_,?_,?_,⟨0,false,by omega,rfl,by rw [List.take_zero,xm];rfl,rfl,rfl⟩⟩ ?_
  ·exact bT
  ·exact bT
  ·rfl
  ·exact ic
  rintro m L M w9 ⟨z,bb,hz,rfl,jV,rfl,rfl⟩
  refine ab ?_
  by_cases hlt:z < N
  ·refine VS.aP rfl (decide_eq_true (Int.ofNat_lt.2 hlt)) ?_
   obtain ⟨x,hx⟩:∃ x,l[z]? =some x:=⟨_,List.getElem?_eq_getElem aa⟩
   obtain ⟨bx,off,cs,fN,hc,⟨_,_,rfl,⟨ap,ac,ar,ad,rfl,g1⟩,⟨bp,bc,br,bd,rfl,g2⟩,f1,f2⟩⟩:=hl.at hx
   subst fN
   cases bb with
   | false=>
     refine ab ?_
     refine VS.back (N - (z + 1)) aa ⟨_,_,?_,?_,?_,?_,⟨z + 1,false,by omega,rfl,by rw [dP hx,jV];rfl,rfl,rfl⟩⟩
     ·refine ⟨rfl,rfl,?_,trivial⟩
      rw [<-aE (i:=z) aa];rfl
     ·exact bT
     ·rfl
     ·exact ic
   | true=>
     refine ab ?_
     refine VO.cond rfl du ?_
     refine wV rfl ?_
     refine ab ?_
     refine VO.read rfl [.bool x.1.1,.slice ap x.1.2.1.length ac,.bool x.1.2.2.1,.slice ar x.1.2.2.2.length ad] rfl (aN hc 0 _ ⟨_,rfl⟩) (wV rfl ?_)
     refine ab ?_
     cases e1:x.1.ok with
     | false=>
       refine VO.call rfl rfl (fk Tryz.func85) (fun gj kx iz=>(bH x.1 false e1 _ gj (g1.kp (Kp.of (U:=UU) iz)) f1 hk).mono ?_)
       rintro e w6 ⟨rfl,fx⟩
       skip
       refine ⟨_,rfl,fx,fun jz _ oX=>wV rfl ?_⟩
       refine ab ?_
       refine VS.back (N - (z + 1)) aa ⟨_,_,?_,?_,?_,?_,⟨z + 1,false,by omega,rfl,by rw [dP hx,jV];unfold fI;rw [e1];rfl,rfl,rfl⟩⟩
       ·refine ⟨rfl,rfl,?_,trivial⟩
        rw [<-aE (i:=z) aa];rfl
       ·exact bT
       ·rfl
       ·exact ic
     | true=>
     refine VO.call rfl rfl (fk Tryz.func85) (fun gj kx iz=>(bH x.1 true e1 _ gj (g1.kp (Kp.of (U:=UU) iz)) f1 hk).mono ?_)
     rintro e w6 ⟨rfl,fx⟩
     skip
     refine ⟨_,rfl,fx,fun jz _ oX=>wV rfl ?_⟩
     refine ab ?_
     refine VO.cond rfl du ?_
     refine wV rfl ?_
     refine ab ?_
     refine VO.read rfl [.bool x.2.1,.slice bp x.2.2.1.length bc,.bool x.2.2.2.1,.slice br x.2.2.2.2.length bd] rfl (aN hc 4 _ ⟨[],rfl⟩) (wV rfl ?_)
     refine ab ?_
     obtain ⟨b2,e2⟩:∃ b2,x.2.ok=b2:=⟨_,rfl⟩
     refine VO.call rfl rfl (fk Tryz.func85) (fun mz qj lZ=>(bH x.2 b2 e2 _ mz (g2.kp (Kp.of (U:=UU) lZ)) f2 hk).mono ?_)
     rintro e w7 ⟨rfl,lC⟩
     skip
     refine ⟨_,rfl,lC,fun oC _ Bx=>wV rfl ?_⟩
     refine ab ?_
     refine VS.back (N - (z + 1)) aa ⟨_,_,?_,?_,?_,?_,⟨z + 1,b2,by omega,rfl,by rw [dP hx,jV];unfold fI;rw [e1,e2];rfl,rfl,rfl⟩⟩
     ·refine ⟨rfl,rfl,?_,trivial⟩
      rw [<-aE (i:=z) aa];rfl
     ·exact bT
     ·rfl
     ·exact ic
  ·refine VS.aQ rfl (decide_eq_false (fun e=>hlt (Int.ofNat_lt.1 e))) ?_
   refine ab ?_
   refine aY ?_;intro wz kz bz
   rw [List.take_of_length_le aa] at jV
   exact ⟨by rw [jV];rfl,bz⟩
 have e3:sg≥0:=by omega
 refine VO.fix 21 rfl (congrArg (fun b=>AV.val (.bool b)) (decide_eq_true e3)) ?_
 refine ab ?_
 refine VO.call rfl rfl (fk Tryz.func87) (fun iP jT jX=>(Fx 1 iP aa aa).mono ?_)
 rintro e w4 ⟨r4,rfl,q4,eV⟩
 obtain ⟨s4,p4,n4,c4,t4,y4,m4,d4,rfl⟩:=q4.form
 refine ⟨_,rfl,eV,fun lh _ sT=>wV rfl ?_⟩
 refine ab ?_
 have h11:((1:Int):Rat)=1:=rfl
 rw [h11] at q4
 obtain ⟨cm,gg⟩:∃ cm,ea a.q 1=cm:=⟨_,rfl⟩
 rw [decide_eq_true e3,gg] at Cj
 refine VO.call rfl rfl (fk Tryz.func86) (fun gf jl gD=>(PQ _ _ a.q 1 k 1 gf ((h1.iE ha).kp (Kp.of (U:=UU) gD)) (q4.ki ⟨Sz.small bV,Sz.small bV⟩) aa aa cm gg).mono ?_)
 rintro e w5 ⟨rfl,eE⟩
 skip
 refine ⟨_,rfl,eE,fun jy _ qi=>wV rfl ?_⟩
 refine ab ?_
 by_cases e4':0 < cm
 ·have e4:¬ cm≤0:=by omega
  have xm:dU a b keep=false:=by rw [Cj,decide_eq_false e4];rfl
  refine VO.fix 28 rfl (congrArg (fun b=>AV.val (.bool b)) (decide_eq_false e4)) ?_
  refine ab ?_
  refine VS.loop (J:=fun m L M w'=>∃ (z:Nat) (bb:Bool),z≤N/\m=N - z/\(dU a b keep && (l.take z).all fI)=bb/\L=[(1,.val (.slice pu N cu)),(5,.val (.bool bb)),(6,.val (.int .i64 (z:Int)))]/\M=[]) N ⟨_,_,?_,?_,?_,?_,⟨0,false,by omega,rfl,by rw [List.take_zero,xm];rfl,rfl,rfl⟩⟩ ?_
  ·exact bT
  ·exact bT
  ·rfl
  ·exact ic
  rintro m L M w9 ⟨z,bb,hz,rfl,jV,rfl,rfl⟩
  refine ab ?_
  by_cases hlt:z < N
  ·refine VS.aP rfl (decide_eq_true (Int.ofNat_lt.2 hlt)) ?_
   obtain ⟨x,hx⟩:∃ x,l[z]? =some x:=⟨_,List.getElem?_eq_getElem aa⟩
   obtain ⟨bx,off,cs,fN,hc,⟨_,_,rfl,⟨ap,ac,ar,ad,rfl,g1⟩,⟨bp,bc,br,bd,rfl,g2⟩,f1,f2⟩⟩:=hl.at hx
   subst fN
   cases bb with
   | false=>
     refine ab ?_
     refine VS.back (N - (z + 1)) aa ⟨_,_,?_,?_,?_,?_,⟨z + 1,false,by omega,rfl,by rw [dP hx,jV];rfl,rfl,rfl⟩⟩
     ·refine ⟨rfl,rfl,?_,trivial⟩
      rw [<-aE (i:=z) aa];rfl
     ·exact bT
     ·rfl
     ·exact ic
   | true=>
     refine ab ?_
     refine VO.cond rfl du ?_
     refine wV rfl ?_
     refine ab ?_
     refine VO.read rfl [.bool x.1.1,.slice ap x.1.2.1.length ac,.bool x.1.2.2.1,.slice ar x.1.2.2.2.length ad] rfl (aN hc 0 _ ⟨_,rfl⟩) (wV rfl ?_)
     refine ab ?_
     cases e1:x.1.ok with
     | false=>
       refine VO.call rfl rfl (fk Tryz.func85) (fun gj kx iz=>(bH x.1 false e1 _ gj (g1.kp (Kp.of (U:=UU) iz)) f1 hk).mono ?_)
       rintro e w6 ⟨rfl,fx⟩
       skip
       refine ⟨_,rfl,fx,fun jz _ oX=>wV rfl ?_⟩
       refine ab ?_
       refine VS.back (N - (z + 1)) aa ⟨_,_,?_,?_,?_,?_,⟨z + 1,false,by omega,rfl,by rw [dP hx,jV];unfold fI;rw [e1];rfl,rfl,rfl⟩⟩
       ·refine ⟨rfl,rfl,?_,trivial⟩
        rw [<-aE (i:=z) aa];rfl
       ·exact bT
       ·rfl
       ·exact ic
     | true=>
     refine VO.call rfl rfl (fk Tryz.func85) (fun gj kx iz=>(bH x.1 true e1 _ gj (g1.kp (Kp.of (U:=UU) iz)) f1 hk).mono ?_)
     rintro e w6 ⟨rfl,fx⟩
     skip
     refine ⟨_,rfl,fx,fun jz _ oX=>wV rfl ?_⟩
     refine ab ?_
     refine VO.cond rfl du ?_
     refine wV rfl ?_
     refine ab ?_
     refine VO.read rfl [.bool x.2.1,.slice bp x.2.2.1.length bc,.bool x.2.2.2.1,.slice br x.2.2.2.2.length bd] rfl (aN hc 4 _ ⟨[],rfl⟩) (wV rfl ?_)
     refine ab ?_
     obtain ⟨b2,e2⟩:∃ b2,x.2.ok=b2:=⟨_,rfl⟩
     refine VO.call rfl rfl (fk Tryz.func85) (fun mz qj lZ=>(bH x.2 b2 e2 _ mz (g2.kp (Kp.of (U:=UU) lZ)) f2 hk).mono ?_)
     rintro e w7 ⟨rfl,lC⟩
     skip
     refine ⟨_,rfl,lC,fun oC _ Bx=>wV rfl ?_⟩
     refine ab ?_
     refine VS.back (N - (z + 1)) aa ⟨_,_,?_,?_,?_,?_,⟨z + 1,b2,by omega,rfl,by rw [dP hx,jV];unfold fI;rw [e1,e2];rfl,rfl,rfl⟩⟩
     ·refine ⟨rfl,rfl,?_,trivial⟩
      rw [<-aE (i:=z) aa];rfl
     ·exact bT
     ·rfl
     ·exact ic
  ·refine VS.aQ rfl (decide_eq_false (fun e=>hlt (Int.ofNat_lt.1 e))) ?_
   refine ab ?_
   refine aY ?_;intro wz kz bz
   rw [List.take_of_length_le aa] at jV
   exact ⟨by rw [jV];rfl,bz⟩
 have e4:cm≤0:=by omega
 rw [decide_eq_true e4] at Cj
 refine VO.fix 28 rfl (congrArg (fun b=>AV.val (.bool b)) (decide_eq_true e4)) ?_
 refine ab ?_
 by_cases e5':keep < 0
 ·have e5:¬ keep≥0:=by omega
  have xm:dU a b keep=false:=by rw [Cj,decide_eq_false e5];rfl
  refine VO.fix 33 rfl (congrArg (fun b=>AV.val (.bool b)) (decide_eq_false e5)) ?_
  refine ab ?_
  refine VS.loop (J:=fun m L M w'=>∃ (z:Nat) (bb:Bool),z≤N/\m=N - z/\(dU a b keep && (l.take z).all fI)=bb/\L=[(1,.val (.slice pu N cu)),(5,.val (.bool bb)),(6,.val (.int .i64 (z:Int)))]/\M=[]) N ⟨_,_,?_,?_,?_,?_,⟨0,false,by omega,rfl,by rw [List.take_zero,xm];rfl,rfl,rfl⟩⟩ ?_
  ·exact bT
  ·exact bT
  ·rfl
  ·exact ic
  rintro m L M w9 ⟨z,bb,hz,rfl,jV,rfl,rfl⟩
  refine ab ?_
  by_cases hlt:z < N
  ·refine VS.aP rfl (decide_eq_true (Int.ofNat_lt.2 hlt)) ?_
   obtain ⟨x,hx⟩:∃ x,l[z]? =some x:=⟨_,List.getElem?_eq_getElem aa⟩
   obtain ⟨bx,off,cs,fN,hc,⟨_,_,rfl,⟨ap,ac,ar,ad,rfl,g1⟩,⟨bp,bc,br,bd,rfl,g2⟩,f1,f2⟩⟩:=hl.at hx
   subst fN
   cases bb with
   | false=>
     refine ab ?_
     refine VS.back (N - (z + 1)) aa ⟨_,_,?_,?_,?_,?_,⟨z + 1,false,by omega,rfl,by rw [dP hx,jV];rfl,rfl,rfl⟩⟩
     ·refine ⟨rfl,rfl,?_,trivial⟩
      rw [<-aE (i:=z) aa];rfl
     ·exact bT
     ·rfl
     ·exact ic
   | true=>
     refine ab ?_
     refine VO.cond rfl du ?_
     refine wV rfl ?_
     refine ab ?_
     refine VO.read rfl [.bool x.1.1,.slice ap x.1.2.1.length ac,.bool x.1.2.2.1,.slice ar x.1.2.2.2.length ad] rfl (aN hc 0 _ ⟨_,rfl⟩) (wV rfl ?_)
     refine ab ?_
     cases e1:x.1.ok with
     | false=>
       refine VO.call rfl rfl (fk Tryz.func85) (fun gj kx iz=>(bH x.1 false e1 _ gj (g1.kp (Kp.of (U:=UU) iz)) f1 hk).mono ?_)
       rintro e w6 ⟨rfl,fx⟩
       skip
       refine ⟨_,rfl,fx,fun jz _ oX=>wV rfl ?_⟩
       refine ab ?_
       refine VS.back (N - (z + 1)) aa ⟨_,_,?_,?_,?_,?_,⟨z + 1,false,by omega,rfl,by rw [dP hx,jV];unfold fI;rw [e1];rfl,rfl,rfl⟩⟩
       ·refine ⟨rfl,rfl,?_,trivial⟩
        rw [<-aE (i:=z) aa];rfl
       ·exact bT
       ·rfl
       ·exact ic
     | true=>
     refine VO.call rfl rfl (fk Tryz.func85) (fun gj kx iz=>(bH x.1 true e1 _ gj (g1.kp (Kp.of (U:=UU) iz)) f1 hk).mono ?_)
     rintro e w6 ⟨rfl,fx⟩
     skip
     refine ⟨_,rfl,fx,fun jz _ oX=>wV rfl ?_⟩
     refine ab ?_
     refine VO.cond rfl du ?_
     refine wV rfl ?_
     refine ab ?_
     refine VO.read rfl [.bool x.2.1,.slice bp x.2.2.1.length bc,.bool x.2.2.2.1,.slice br x.2.2.2.2.length bd] rfl (aN hc 4 _ ⟨[],rfl⟩) (wV rfl ?_)
     refine ab ?_
     obtain ⟨b2,e2⟩:∃ b2,x.2.ok=b2:=⟨_,rfl⟩
     refine VO.call rfl rfl (fk Tryz.func85) (fun mz qj lZ=>(bH x.2 b2 e2 _ mz (g2.kp (Kp.of (U:=UU) lZ)) f2 hk).mono ?_)
     rintro e w7 ⟨rfl,lC⟩
     skip
     refine ⟨_,rfl,lC,fun oC _ Bx=>wV rfl ?_⟩
     refine ab ?_
     refine VS.back (N - (z + 1)) aa ⟨_,_,?_,?_,?_,?_,⟨z + 1,b2,by omega,rfl,by rw [dP hx,jV];unfold fI;rw [e1,e2];rfl,rfl,rfl⟩⟩
     ·refine ⟨rfl,rfl,?_,trivial⟩
      rw [<-aE (i:=z) aa];rfl
     ·exact bT
     ·rfl
     ·exact ic
  ·refine VS.aQ rfl (decide_eq_false (fun e=>hlt (Int.ofNat_lt.1 e))) ?_
   refine ab ?_
   refine aY ?_;intro wz kz bz
   rw [List.take_of_length_le aa] at jV
   exact ⟨by rw [jV];rfl,bz⟩
 have e5:keep≥0:=by omega
 rw [decide_eq_true e5] at Cj
 refine VO.fix 33 rfl (congrArg (fun b=>AV.val (.bool b)) (decide_eq_true e5)) ?_
 refine ab ?_
 obtain ⟨bk,hbk⟩:∃ bk,decide (keep≤40)=bk:=⟨_,rfl⟩
 have xm:dU a b keep=bk:=by rw [Cj,hbk];rfl
 refine VS.fix 5 rfl (congrArg (fun b=>AV.val (.bool b)) hbk) ?_
 refine VS.loop (J:=fun m L M w'=>∃ (z:Nat) (bb:Bool),z≤N/\m=N - z/\(dU a b keep && (l.take z).all fI)=bb/\L=[(1,.val (.slice pu N cu)),(5,.val (.bool bb)),(6,.val (.int .i64 (z:Int)))]/\M=[]) N ⟨_,_,?_,?_,?_,?_,⟨0,bk,by omega,rfl,by rw [List.take_zero,xm];exact Bool.and_true bk,rfl,rfl⟩⟩ ?_
 ·exact bT
 ·exact bT
 ·rfl
 ·exact ic
 rintro m L M w9 ⟨z,bb,hz,rfl,jV,rfl,rfl⟩
 refine ab ?_
 by_cases hlt:z < N
 ·refine VS.aP rfl (decide_eq_true (Int.ofNat_lt.2 hlt)) ?_
  obtain ⟨x,hx⟩:∃ x,l[z]? =some x:=⟨_,List.getElem?_eq_getElem aa⟩
  obtain ⟨bx,off,cs,fN,hc,⟨_,_,rfl,⟨ap,ac,ar,ad,rfl,g1⟩,⟨bp,bc,br,bd,rfl,g2⟩,f1,f2⟩⟩:=hl.at hx
  subst fN
  cases bb with
  | false=>
    refine ab ?_
    refine VS.back (N - (z + 1)) aa ⟨_,_,?_,?_,?_,?_,⟨z + 1,false,by omega,rfl,by rw [dP hx,jV];rfl,rfl,rfl⟩⟩
    ·refine ⟨rfl,rfl,?_,trivial⟩
     rw [<-aE (i:=z) aa];rfl
    ·exact bT
    ·rfl
    ·exact ic
  | true=>
    refine ab ?_
    refine VO.cond rfl du ?_
    refine wV rfl ?_
    refine ab ?_
    refine VO.read rfl [.bool x.1.1,.slice ap x.1.2.1.length ac,.bool x.1.2.2.1,.slice ar x.1.2.2.2.length ad] rfl (aN hc 0 _ ⟨_,rfl⟩) (wV rfl ?_)
    refine ab ?_
    cases e1:x.1.ok with
    | false=>
      refine VO.call rfl rfl (fk Tryz.func85) (fun gj kx iz=>(bH x.1 false e1 _ gj (g1.kp (Kp.of (U:=UU) iz)) f1 hk).mono ?_)
      rintro e w6 ⟨rfl,fx⟩
      skip
      refine ⟨_,rfl,fx,fun jz _ oX=>wV rfl ?_⟩
      refine ab ?_
      refine VS.back (N - (z + 1)) aa ⟨_,_,?_,?_,?_,?_,⟨z + 1,false,by omega,rfl,by rw [dP hx,jV];unfold fI;rw [e1];rfl,rfl,rfl⟩⟩
      ·refine ⟨rfl,rfl,?_,trivial⟩
       rw [<-aE (i:=z) aa];rfl
      ·exact bT
      ·rfl
      ·exact ic
    | true=>
    refine VO.call rfl rfl (fk Tryz.func85) (fun gj kx iz=>(bH x.1 true e1 _ gj (g1.kp (Kp.of (U:=UU) iz)) f1 hk).mono ?_)
    rintro e w6 ⟨rfl,fx⟩
    skip
    refine ⟨_,rfl,fx,fun jz _ oX=>wV rfl ?_⟩
    refine ab ?_
    refine VO.cond rfl du ?_
    refine wV rfl ?_
    refine ab ?_
    refine VO.read rfl [.bool x.2.1,.slice bp x.2.2.1.length bc,.bool x.2.2.2.1,.slice br x.2.2.2.2.length bd] rfl (aN hc 4 _ ⟨[],rfl⟩) (wV rfl ?_)
    refine ab ?_
    obtain ⟨b2,e2⟩:∃ b2,x.2.ok=b2:=⟨_,rfl⟩
    refine VO.call rfl rfl (fk Tryz.func85) (fun mz qj lZ=>(bH x.2 b2 e2 _ mz (g2.kp (Kp.of (U:=UU) lZ)) f2 hk).mono ?_)
    rintro e w7 ⟨rfl,lC⟩
    skip
    refine ⟨_,rfl,lC,fun oC _ Bx=>wV rfl ?_⟩
    refine ab ?_
    refine VS.back (N - (z + 1)) aa ⟨_,_,?_,?_,?_,?_,⟨z + 1,b2,by omega,rfl,by rw [dP hx,jV];unfold fI;rw [e1,e2];rfl,rfl,rfl⟩⟩
    ·refine ⟨rfl,rfl,?_,trivial⟩
     rw [<-aE (i:=z) aa];rfl
    ·exact bT
    ·rfl
    ·exact ic
 ·refine VS.aQ rfl (decide_eq_false (fun e=>hlt (Int.ofNat_lt.1 e))) ?_
  refine ab ?_
  refine aY ?_;intro wz kz bz
  rw [List.take_of_length_le aa] at jV
  exact ⟨by rw [jV];rfl,bz⟩
theorem Ck (v u:Value) (a b:RR) (keep:Int) (l:List (RR×RR)) (k:Nat) (w:World) (h:gM w v a b keep) (ha:a.kQ k) (hb:b.kQ k) (hl:dp (ue k) 8 w u l) (hk:k≤100000) (hlen:l.length≤100000) (x:Bool) (hx:(dU a b keep && l.all fI)=x):
 Calls Tryz.prog 47 #[v,u] w fun o w'=>o=.returned (.bool x)/\aM w w':=hx▸PR v u a b keep l k w h ha hb hl hk hlen
end
end Go.Proofs.YtabalinjfgcfeaaGreat
