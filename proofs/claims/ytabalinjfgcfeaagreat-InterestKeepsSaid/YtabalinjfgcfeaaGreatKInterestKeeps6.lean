/- Df of the proof,laid behind one another. -/
import Derived.Test.YtabalinjfgcfeaaGreatKInterestKeeps5
set_option linter.all false
set_option maxHeartbeats 64000000
set_option maxRecDepth 4000
namespace Go.Proofs.YtabalinjfgcfeaaGreat
section
open Go.RowKit
attribute [local irreducible] aC VS
abbrev CW (P:Program) (w:World) (N:Nat):Cx:={ P:=P,w0:=w,N:=N,K:=⟨UU,fun _=>True,fun t=>(Nat.beq t eT || (Nat.beq t fy || (Nat.beq t 108 || (Nat.beq t 106 || Nat.beq t 100))))⟩,SU:=fun t=>Nat.beq t 22,ti:=table,keep:=fun _ _=>trivial }
theorem LO (w:World) (N:Nat):(CW Tryz.prog w N).Ok:=uW
theorem Qj (w:World) (N:Nat):(CW Tryz.prog w N).P.follows .mixedOrders=true:=by show Tryz.prog.follows .mixedOrders=true;kernel_rfl
section
variable {F F':Fr} {H H':Hp} {w w1:World} {N:Nat} {l':List Oper} {Q:Exit->Act->World->Prop} {k:List It} {id:Nat} {ops:Array Oper}
theorem cxL_r (e:sC (CW Tryz.prog w1 N) ops 80 ops.toList F H=(l',F',H')) (h:aC (CW Tryz.prog w1 N) none ops l' (VS (CW Tryz.prog w1 N) Q k) F' H' w):VS (CW Tryz.prog w1 N) Q (.code (.region id ops false)::k) F H w:=VS.region (LO _ _) (VO.run 80 e h)
theorem cxL_d (e:sC (CW Tryz.prog w1 N) ops 80 ops.toList F H=(l',F',H')) (h:aC (CW Tryz.prog w1 N) (some []) ops l' (VS (CW Tryz.prog w1 N) Q k) F' H' w) (mV:pG (CW Tryz.prog w1 N).SU [] ops=true:=by kernel_rfl):VS (CW Tryz.prog w1 N) Q (.code (.region id ops true)::k) F H w:=VS.draw (LO _ _) (Qj _ _) [] mV (VO.run 80 e h)
end
structure FzL (K:KC):Prop where
 u:K.U=UU
 s:∀ b,K.S b
 r:K.fz eT=true
 w:K.fz fy=true
theorem vO.kpF {K:KC} {B:Nat} {w w':World} {r u:Value} {x:List aM×List Uq} (h:vO B w r u x) (hK:FzL K) (k:bH K w w') (kw:Kp UU w w'):vO B w' r u x:=by
 refine ⟨h.1.imp id fun ⟨rb,h0,n,c,vs,sp,h1,h2,h3⟩=>⟨rb,h0,n,c,vs,sp,h1,k.block _ rb _ hK.r (hK.s _) h2,h3.kp (aA B) kw⟩,h.2.imp id fun ⟨rb,h0,n,c,vs,sp,h1,h2,h3⟩=>⟨rb,h0,n,c,vs,sp,h1,k.block _ rb _ hK.w (hK.s _) h2,h3.kp (eh B) kw⟩⟩
instance {k:Nat} {x:Rat}:Decidable (Lm k x):=by unfold Lm;infer_instance
theorem kL {w0 w w':World} {N:Nat} (h:bH (CW Tryz.prog w0 N).K w w':=by exact aU):Kp UU w w':=h.qo
theorem xu (w:World) (N:Nat):FzL (CW Tryz.prog w N).K:=⟨rfl,fun _=>trivial,rfl,rfl⟩
theorem vO.form {B:Nat} {w:World} {r u:Value} {x:List aM×List Uq} (h:vO B w r u x):∃ p c p' c',r=.slice p x.1.length c/\u=.slice p' x.2.length c':=by
 have h1:∃ p c,r=.slice p x.1.length c:=by
  rcases h.1 with ⟨rfl,e⟩ | ⟨rb,_,n,c,vs,sp,rfl,_,h3⟩
  ·exact ⟨none,0,by rw [e];rfl⟩
  ·exact ⟨_,c,by rw [h3.len]⟩
 have h2:∃ p c,u=.slice p x.2.length c:=by
  rcases h.2 with ⟨rfl,e⟩ | ⟨rb,_,n,c,vs,sp,rfl,_,h3⟩
  ·exact ⟨none,0,by rw [e];rfl⟩
  ·exact ⟨_,c,by rw [h3.len]⟩
 obtain ⟨p,c,e1⟩:=h1
 obtain ⟨p',c',e2⟩:=h2
 exact ⟨p,c,p',c',e1,e2⟩
def qC (q:Rat):RR:=(decide (q.num < 0),limbs q.num.natAbs,decide ((q.den:Int) < 0),limbs (q.den:Int).natAbs)
theorem TY (q:Rat):Cz (decide (q.num < 0)) (limbs q.num.natAbs) (decide ((q.den:Int) < 0)) (limbs (q.den:Int).natAbs)=true:=by
 unfold Cz
 rw [pw q.num,pw (q.den:Int),gN,gN]
 have h3:(0:Int) < q.den:=by have:=q.den_nz;omega
 have h4:Int.gcd q.num q.den=1:=by have:=q.reduced;simpa [Int.gcd,Nat.Coprime] using this
 rw [decide_eq_true h3,decide_eq_true h4];rfl
theorem TZ (q:Rat):rq (decide (q.num < 0)) (limbs q.num.natAbs) (decide ((q.den:Int) < 0)) (limbs (q.den:Int).natAbs)=q:=by
 unfold rq;rw [gN,gN,Ee]
theorem ye (q:Rat):(qC q).q=q:=TZ q
theorem FJ (q:Rat):(qC q).ok=true:=TY q
theorem pZ {q:Rat} {k:Nat} (h:et q k):(qC q).jF k:=⟨h.1,h.2⟩
theorem bE.LP {w:World} {s t:Bool} {p u:Option Addr} {a c b d:Nat} {q:Rat} (h:bE w (.agg #[.bool s,.slice p a c,.bool t,.slice u b d]) q):xo w [.bool s,.slice p a c,.bool t,.slice u b d] (qC q):=by
 have hr:=h.raw
 obtain ⟨_,_,_,_,hv,h1,h2⟩:=hr
 simp only [Value.agg.injEq,Array.mk.injEq,List.cons.injEq,Value.bool.injEq,Value.slice.injEq,and_true] at hv
 obtain ⟨rfl,⟨rfl,rfl,rfl⟩,rfl,rfl,rfl,rfl⟩:=hv
 exact ⟨_,_,_,_,rfl,_,_,_,_,rfl,h1,h2⟩
theorem qD (n:Int) (h0: -9223372036854775808≤n) (h1:n≤9223372036854775807):et (Rat.divInt n 1) 2:=Fk h0 h1 bW bW
theorem ji (n e:Int) (w:World) (h0: -9223372036854775808≤n) (h1:n≤9223372036854775807) (g0: -9223372036854775808≤e) (g1:e≤9223372036854775807):
  Calls Tryz.prog 32 #[.int .i64 n,.int .i64 e] w fun o w'=>∃ v,o=.returned v/\(∃ s p a c t y m d s' p' a' c' t' y' m' d',v=.agg #[.bool s,.slice p a c,.bool t,.slice y m d,.bool s',.slice p' a' c',.bool t',.slice y' m' d']/\si 2 w' [.bool s,.slice p a c,.bool t,.slice y m d,.bool s',.slice p' a' c',.bool t',.slice y' m' d'] (qC (Rat.divInt n 1),qC (Rat.divInt e 1)))/\aL w w':=by
 refine ag (C:=bP Tryz.prog w _) (args:=[_,_]) Tryz.func32 rfl Tryz.ntmps32 (bu rfl) ?_
 refine aa ?_
 refine VO.call rfl rfl (fk Tryz.func31) (fun bD cQ bG=>(fb n 1 bD h0 h1 ab ab).mono ?_)
 rintro e w1 ⟨r1,rfl,q1,aI⟩
 obtain ⟨s1,p1,n1,c1,t1,y1,m1,d1,rfl⟩:=q1.form
 refine ⟨_,rfl,aI,fun dt _ bb1=>wV rfl ?_⟩
 refine aa ?_
 refine VO.call rfl rfl (fk Tryz.func31) (fun cG dQ cV=>(fb e 1 cG g0 g1 ab ab).mono ?_)
 rintro e w2 ⟨r2,rfl,q2,ba⟩
 obtain ⟨s2,p2,n2,c2,t2,y2,m2,d2,rfl⟩:=q2.form
 refine ⟨_,rfl,ba,fun dR _ bb2=>wV rfl ?_⟩
 refine aa ?_
 refine aR ?_;intro wz kz bz
 exact ⟨_,rfl,⟨_,_,_,_,_,_,_,_,_,_,_,_,_,_,_,_,rfl,[.bool s1,.slice p1 n1 c1,.bool t1,.slice y1 m1 d1],[.bool s2,.slice p2 n2 c2,.bool t2,.slice y2 m2 d2],rfl,(q1.kr).LP,(q2.kr).LP,pZ (qD n h0 h1),pZ (qD e g0 g1)⟩,bz⟩
abbrev exS:Rat:=(Rat.divInt 3 10)
abbrev exF:Rat:=(Rat.divInt 50 1)
theorem oe (w:World):Calls Tryz.prog 33 #[] w fun o w'=>∃ v,o=.returned v/\fN w' v (qC exS) (qC exF) 2/\aL w w':=by
 refine ag (C:=bP Tryz.prog w _) (args:=[]) Tryz.func33 rfl Tryz.ntmps33 (bu rfl) ?_
 refine aa ?_
 refine VO.call rfl rfl (fk Tryz.func31) (fun bD cQ bG=>(fb 3 10 bD ab ab ab ab).mono ?_)
 rintro e w1 ⟨r1,rfl,q1,aI⟩
 obtain ⟨s1,p1,n1,c1,t1,y1,m1,d1,rfl⟩:=q1.form
 refine ⟨_,rfl,aI,fun dt _ bb1=>wV rfl ?_⟩
 refine aa ?_
 refine VO.call rfl rfl (fk Tryz.func31) (fun cG dQ cV=>(fb 50 1 cG ab ab ab ab).mono ?_)
 rintro e w2 ⟨r2,rfl,q2,ba⟩
 obtain ⟨s2,p2,n2,c2,t2,y2,m2,d2,rfl⟩:=q2.form
 refine ⟨_,rfl,ba,fun dR _ bb2=>wV rfl ?_⟩
 refine aa ?_
 refine aR ?_;intro wz kz bz
 obtain ⟨a1,a2,a3,a4,a5,a6⟩:=(q1.kr (w':=wz)).LP
 obtain ⟨b1,b2,b3,b4,b5,b6⟩:=(q2.kr (w':=wz)).LP
 refine ⟨_,rfl,⟨a1,a2,a3,a4,b1,b2,b3,b4,?_,a6,b6⟩,bz⟩
 simp only [List.cons.injEq,and_true] at a5 b5
 obtain ⟨x1,x2,x3,x4⟩:=a5
 obtain ⟨z1,z2,z3,z4⟩:=b5
 rw [x1,x2,x3,x4,z1,z2,z3,z4];rfl
theorem Jy (l:List (Rat×Rat)):cj (l.map fun e=>(qC e.1,qC e.2))=l:=by
 unfold cj
 rw [List.map_map]
 conv=>rhs;rw [<-List.map_id l]
 refine List.map_congr_left fun x _=> ?_
 show ((qC x.1).q,(qC x.2).q)=x
 rw [ye,ye]
theorem all_crr (l:List (Rat×Rat)):(l.map fun e=>(qC e.1,qC e.2)).all fO=true:=by
 rw [List.all_eq_true]
 intro x hx
 obtain ⟨e,_,rfl⟩:=List.mem_map.1 hx
 show ((qC e.1).ok && (qC e.2).ok)=true
 rw [FJ,FJ];rfl
theorem rul_crr {S F:Rat} {keep:Int} (h0:0≤S) (h1:S≤1) (AA:0≤keep) (DI:keep≤40):dW (qC S) (qC F) keep=true:=by
 unfold dW
 rw [FJ,FJ,ye,decide_eq_true (vu.2 h0),decide_eq_true (lN.2 h1),decide_eq_true AA,decide_eq_true DI];rfl
theorem Ce (v u:Value) (S F:Rat) (kn n:Nat) (l:List (Rat×Rat)) (w:World) (hR:fN w v (qC S) (qC F) (kn:Int)) (hl:cO (si 2) 8 w u (l.map fun e=>(qC e.1,qC e.2))) (hsS:et S 2) (hsF:et F 2) (h0:0≤S) (h1:S≤1) (hk:kn≤40) (hn:n≤40) (hlen:l.length≤n) (hS:Lm 3 S) (hF:Lm 3 F) (hL:∀ e∈l,Lm 3 e.1/\Lm 3 e.2) (x:List aM×List Uq) (hx:qw S F kn l=x):
  Calls Tryz.prog 11 #[v,u] w fun o w'=>∃ r u',o=.returned (.tuple #[.agg #[r,u'],.int .i64 0])/\vO w.heap.size w' r u' x/\aL w w':=by
 have hM:=TX hS hF h0 h1 hL hlen (k:=3) bW
 have:=Nr v u (qC S) (qC F) kn (l.map fun e=>(qC e.1,qC e.2)) 2 (2 * 3 * n + 3 * 3 + 1) _ _ w hR (pZ hsS) (pZ hsF) hl bW ab ab (rul_crr h0 h1 ab ab) (all_crr l) (by rw [List.length_map];omega) hk (by rw [Jy,ye,ye];exact hM)
 rw [Jy,ye,ye,hx] at this
 exact this
theorem led_x:qw exS exF 2 [((Rat.divInt 200 1),(Rat.divInt 400 1))]=([⟨(Rat.divInt 120 1),(Rat.divInt 120 1),(Rat.divInt 80 1),(Rat.divInt 0 1),(Rat.divInt 120 1),(Rat.divInt 0 1),(Rat.divInt 80 1)⟩],[]):=by decide +kernel
theorem led_y:qw exS exF 2 [((Rat.divInt 200 1),(Rat.divInt 400 1)),((Rat.divInt 20 1),(Rat.divInt 300 1)),((Rat.divInt (-10) 1),(Rat.divInt 0 1))]=([⟨(Rat.divInt 120 1),(Rat.divInt 120 1),(Rat.divInt 80 1),(Rat.divInt 0 1),(Rat.divInt 120 1),(Rat.divInt 0 1),(Rat.divInt 0 1)⟩,⟨(Rat.divInt 90 1),(Rat.divInt 20 1),(Rat.divInt 0 1),(Rat.divInt 70 1),(Rat.divInt 90 1),(Rat.divInt 0 1),(Rat.divInt 0 1)⟩,⟨(Rat.divInt 50 1),(Rat.divInt (-10) 1),(Rat.divInt 0 1),(Rat.divInt 10 1),(Rat.divInt 0 1),(Rat.divInt 0 1),(Rat.divInt 0 1)⟩],[(0,1,(Rat.divInt 70 1)),(0,2,(Rat.divInt 10 1))]):=by decide +kernel
theorem led_z:qw exS exF 2 [((Rat.divInt 200 1),(Rat.divInt 400 1)),((Rat.divInt 100 1),(Rat.divInt 0 1)),((Rat.divInt 300 1),(Rat.divInt 100 1))]=([⟨(Rat.divInt 120 1),(Rat.divInt 120 1),(Rat.divInt 80 1),(Rat.divInt 0 1),(Rat.divInt 120 1),(Rat.divInt 80 1),(Rat.divInt 0 1)⟩,⟨(Rat.divInt 50 1),(Rat.divInt 50 1),(Rat.divInt 50 1),(Rat.divInt 0 1),(Rat.divInt 50 1),(Rat.divInt 0 1),(Rat.divInt 50 1)⟩,⟨(Rat.divInt 50 1),(Rat.divInt 50 1),(Rat.divInt 250 1),(Rat.divInt 0 1),(Rat.divInt 50 1),(Rat.divInt 0 1),(Rat.divInt 250 1)⟩],[]):=by decide +kernel
def aM.fld (r:aM):Nat->Rat
 | 0=>r.aW
 | 1=>r.allowed
 | 2=>r.aE
 | 3=>r.used
 | 4=>r.au
 | 5=>r.ao
 | _=>r.closing
theorem Ua {B:Nat} {w:World} {cs:List Value} {r:aM} (h:eI B w cs r) (f:Nat) (hf:f≤6):∃ a pre post,cs=pre++(a++post)/\pre.length=4 * f/\R4 B w a (r.fld f):=by
 obtain ⟨a,b,c,d,e,g,i,rfl,h1,h2,h3,h4,h5,h6,h7⟩:=h
 have l1:=h1.len
 have l2:=h2.len
 have l3:=h3.len
 have l4:=h4.len
 have l5:=h5.len
 have l6:=h6.len
 match f,hf with
 | 0,_=>exact ⟨a,[],_,rfl,rfl,h1⟩
 | 1,_=>exact ⟨b,a,_,rfl,l1,h2⟩
 | 2,_=>exact ⟨c,a++b,_,by rw [List.append_assoc],by simp [l1,l2],h3⟩
 | 3,_=>exact ⟨d,a++(b++c),e++(g++i),by simp only [List.append_assoc],by simp [l1,l2,l3],h4⟩
 | 4,_=>exact ⟨e,a++(b++(c++d)),g++i,by simp only [List.append_assoc],by simp [l1,l2,l3,l4],h5⟩
 | 5,_=>exact ⟨g,a++(b++(c++(d++e))),i,by simp only [List.append_assoc],by simp [l1,l2,l3,l4,l5],h6⟩
 | 6,_=>exact ⟨i,a++(b++(c++(d++(e++g)))),[],by simp only [List.append_assoc,List.append_nil],by simp [l1,l2,l3,l4,l5,l6],h7⟩
theorem Jz {α:Type} {E:World->List Value->α->Prop} {sz:Nat} (hE:gL E sz) {t:TypeId} {w:World} {b n c i:Nat} {vs:List (List Value)} {sp:List Value} {es:List α} {x:α} (hc:bg w b t (vs.flatten++sp).toArray) (h:dT E sz w n 0 c [] vs sp es) (hx:es[i]? =some x):
  ∃ cs,E w cs x/\∀ (pre a post:List Value),cs=pre++(a++post)->∀ off,off=i * sz + pre.length->∀ (j:Nat) (u:Value),a[j]? =some u->w.cell? ((⟨b,off,none⟩:Addr).add j)=some u:=by
 obtain ⟨cs,hcs,hEx⟩:=h.el.at i x hx
 refine ⟨cs,hEx,fun pre a post hsp off hoff j u hj=> ?_⟩
 rw [Addr.add_mid]
 refine hc.cell ?_
 have iI:cs.length=sz:=hE.len hEx
 have hjl:=(List.getElem?_eq_some_iff.1 hj).1
 obtain ⟨hlt,hxx⟩:=List.getElem?_eq_some_iff.1 hcs
 have CO:vs=vs.take i++cs::vs.drop (i + 1):=by rw [<-hxx,<-List.drop_eq_getElem_cons hlt,List.take_append_drop]
 have hal:(vs.take i).flatten.length=i * sz:=by
  rw [dB (fun y hy=>h.el.lens hE y (List.mem_of_mem_take hy)),List.length_take,Nat.min_eq_left ab]
 rw [List.getElem?_toArray,CO,List.flatten_append,List.append_assoc,List.getElem?_append_right ab,hal,List.flatten_cons,List.append_assoc,hsp,hoff,show i * sz + pre.length + j - i * sz=pre.length + j by omega,List.append_assoc,List.getElem?_append_right ab,Nat.add_sub_cancel_left,List.append_assoc,List.getElem?_append_left hjl]
 exact hj
theorem sk {B:Nat} {w:World} {b n c i:Nat} {vs:List (List Value)} {sp:List Value} {es:List aM} {x:aM} (f:Nat) (hf:f≤6) (hc:bg w b eT (vs.flatten++sp).toArray) (h:dT (eI B) 28 w n 0 c [] vs sp es) (hx:es[i]? =some x):
  ∃ s p a k t y m d,aH w B (.agg #[.bool s,.slice p a k,.bool t,.slice y m d]) (x.fld f)/\∀ off,off=i * 28 + 4 * f->∀ (j:Nat) (u:Value),([.bool s,.slice p a k,.bool t,.slice y m d]:List Value)[j]? =some u->w.cell? ((⟨b,off,none⟩:Addr).add j)=some u:=by
 obtain ⟨cs,hE,hcs⟩:=Jz (aA B) hc h hx
 obtain ⟨a,pre,post,e,hl,s,p,n',c',t,y,m,d,rfl,hq⟩:=Ua hE f hf
 exact ⟨s,p,n',c',t,y,m,d,hq,fun off ho=>hcs pre _ post e off (by rw [hl];exact ho)⟩
theorem Nu {B:Nat} {w:World} {b n c i:Nat} {vs:List (List Value)} {sp:List Value} {es:List Uq} {x:Uq} (hc:bg w b fy (vs.flatten++sp).toArray) (h:dT (qy B) 6 w n 0 c [] vs sp es) (hx:es[i]? =some x):
  ∃ s p a k t y m d,aH w B (.agg #[.bool s,.slice p a k,.bool t,.slice y m d]) x.2.2/\(∀ off,off=i * 6 + 2->∀ (j:Nat) (u:Value),([.bool s,.slice p a k,.bool t,.slice y m d]:List Value)[j]? =some u->w.cell? ((⟨b,off,none⟩:Addr).add j)=some u)/\
    (∀ off,off=i * 6 + 1->∀ (j:Nat) (u:Value),([.int .i64 (x.2.1:Int)]:List Value)[j]? =some u->w.cell? ((⟨b,off,none⟩:Addr).add j)=some u)/\(∀ off,off=i * 6->∀ (j:Nat) (u:Value),([.int .i64 (x.1:Int)]:List Value)[j]? =some u->w.cell? ((⟨b,off,none⟩:Addr).add j)=some u)/\
    (∀ off,off=i * 6->∀ (j:Nat) (u:Value),([.int .i64 (x.1:Int),.int .i64 (x.2.1:Int),.bool s,.slice p a k,.bool t,.slice y m d]:List Value)[j]? =some u->w.cell? ((⟨b,off,none⟩:Addr).add j)=some u):=by
 obtain ⟨cs,hE,hcs⟩:=Jz (eh B) hc h hx
 obtain ⟨s,p,n',c',t,y,m,d,rfl,hq⟩:=hE
 exact ⟨s,p,n',c',t,y,m,d,hq,fun off ho=>hcs [.int .i64 (x.1:Int),.int .i64 (x.2.1:Int)] _ [] rfl off ho,fun off ho=>hcs [.int .i64 (x.1:Int)] [.int .i64 (x.2.1:Int)] [.bool s,.slice p n' c',.bool t,.slice y m d] rfl off ho,fun off ho=>hcs [] [.int .i64 (x.1:Int)] [.int .i64 (x.2.1:Int),.bool s,.slice p n' c',.bool t,.slice y m d] rfl off ho,fun off ho=>hcs [] _ [] rfl off ho⟩
set_option maxRecDepth 4000
theorem dC {P Q:Prop} (h:Q) (i:Q->P:=by intro h;(repeat first|refine wN ?_|refine wP rfl ?_|refine cxL_r rfl ?_|refine cxL_d rfl ?_|refine wO rfl rfl ?_);exact h):P:=i h
set_option maxRecDepth 4000 in
theorem jr (w:World):Calls Tryz.prog 9 #[] w fun o w'=>o=.returned (.bool true)/\aL w w':=by
 have hsS:et exS 2:=Fk bW bW bW bW
 have hsF:et exF 2:=Fk bW bW bW bW
 have hS3:Lm 3 exS:=by unfold Lm;decide +kernel
 have hF3:Lm 3 exF:=by unfold Lm;decide +kernel
 refine ag (C:=CW Tryz.prog w _) (args:=[]) Tryz.func9 rfl Tryz.ntmps9 (bu rfl) ?_
 refine dC ?_
 refine VO.call rfl rfl (fk Tryz.func33) (fun bD cQ bG=>(oe bD).mono ?_)
 rintro e w1 ⟨r1,rfl,q1,aI⟩
 skip
 refine ⟨_,rfl,aI,fun dt _ bb1=>wV rfl ?_⟩
 refine dC ?_
 refine VO.call rfl rfl (fk Tryz.func32) (fun cG dQ cV=>(ji 200 400 cG ab ab ab ab).mono ?_)
 rintro e w2 ⟨r2,rfl,⟨s2,p2,n2,c2,t2,y2,m2,d2,e2,f2,g2,h2,i2,j2,k2,l2,rfl,q2⟩,ba⟩
 skip
 refine ⟨_,rfl,ba,fun dR _ bb2=>wV rfl ?_⟩
 refine dC ?_
 refine VO.ee rfl (fk Tryz.func11) (fun eX β fF fM ho=>((Ce _ _ exS exF 2 1 [((Rat.divInt 200 1),(Rat.divInt 400 1))] eX (q1.kp kL) (im (dV 2) (ho.own 11 (.base (List.mem_singleton.2 rfl)) _ _ rfl) [] (vs:=[[.bool s2,.slice p2 n2 c2,.bool t2,.slice y2 m2 d2,.bool e2,.slice f2 g2 h2,.bool i2,.slice j2 k2 l2]]) (by rfl) (bL.cons ((dV 2).kp q2 kL) (bL.nil)) rfl (bu rfl) bW) hsS hsF (by decide +kernel) (by decide +kernel) bW bW bW hS3 hF3 (by decide +kernel) _ led_x).mono (fun o w2 h=>And.intro h fM.size)).mono ?_)
 rintro o w3 ⟨⟨r3,u3,rfl,l3,cC⟩,CS⟩
 obtain ⟨pr3,cr3,pu3,cu3,rfl,rfl⟩:=l3.form
 refine ⟨_,rfl,cC,fun gZ _ bb3=>wV rfl ?_⟩
 refine dC ?_
 refine VO.call rfl rfl (fk Tryz.func33) (fun jg kZ kt=>(oe jg).mono ?_)
 rintro e w4 ⟨r4,rfl,q4,fq⟩
 skip
 refine ⟨_,rfl,fq,fun lz _ tH=>wV rfl ?_⟩
 refine dC ?_
 refine VO.call rfl rfl (fk Tryz.func32) (fun gE ju ia=>(ji 200 400 gE ab ab ab ab).mono ?_)
 rintro e w5 ⟨r5,rfl,⟨s5,p5,n5,c5,t5,y5,m5,d5,e5,f5,g5,h5,i5,j5,k5,l5,rfl,q5⟩,eP⟩
 skip
 refine ⟨_,rfl,eP,fun jV _ qu=>wV rfl ?_⟩
 refine dC ?_
 refine VO.call rfl rfl (fk Tryz.func32) (fun gF ld iC=>(ji 20 300 gF ab ab ab ab).mono ?_)
 rintro e w6 ⟨r6,rfl,⟨s6,p6,n6,c6,t6,y6,m6,d6,e6,f6,g6,h6,i6,j6,k6,l6,rfl,q6⟩,fK⟩
 skip
 refine ⟨_,rfl,fK,fun lG _ pO=>wV rfl ?_⟩
 refine dC ?_
 refine VO.call rfl rfl (fk Tryz.func32) (fun mW tJ lH=>(ji (-10) 0 mW ab ab ab ab).mono ?_)
 rintro e w7 ⟨r7,rfl,⟨s7,p7,n7,c7,t7,y7,m7,d7,e7,f7,g7,h7,i7,j7,k7,l7,rfl,q7⟩,lL⟩
 skip
 refine ⟨_,rfl,lL,fun sU _ Cy=>wV rfl ?_⟩
 refine dC ?_
 refine VO.ee rfl (fk Tryz.func11) (fun sD β Fc wj ho=>((Ce _ _ exS exF 2 3 [((Rat.divInt 200 1),(Rat.divInt 400 1)),((Rat.divInt 20 1),(Rat.divInt 300 1)),((Rat.divInt (-10) 1),(Rat.divInt 0 1))] sD (q4.kp kL) (im (dV 2) (ho.own 20 (.base (List.mem_singleton.2 rfl)) _ _ rfl) [] (vs:=[[.bool s5,.slice p5 n5 c5,.bool t5,.slice y5 m5 d5,.bool e5,.slice f5 g5 h5,.bool i5,.slice j5 k5 l5],[.bool s6,.slice p6 n6 c6,.bool t6,.slice y6 m6 d6,.bool e6,.slice f6 g6 h6,.bool i6,.slice j6 k6 l6],[.bool s7,.slice p7 n7 c7,.bool t7,.slice y7 m7 d7,.bool e7,.slice f7 g7 h7,.bool i7,.slice j7 k7 l7]]) (by rfl) (bL.cons ((dV 2).kp q5 kL) (bL.cons ((dV 2).kp q6 kL) (bL.cons ((dV 2).kp q7 kL) (bL.nil)))) rfl (bu rfl) bW) hsS hsF (by decide +kernel) (by decide +kernel) bW bW bW hS3 hF3 (by decide +kernel) _ led_y).mono (fun o w2 h=>And.intro h wj.size)).mono ?_)
 rintro o w8 ⟨⟨r8,u8,rfl,l8,qf⟩,CU⟩
 obtain ⟨pr8,cr8,pu8,cu8,rfl,rfl⟩:=l8.form
 refine ⟨_,rfl,qf,fun wk _ Kd=>wV rfl ?_⟩
 refine dC ?_
 refine VO.call rfl rfl (fk Tryz.func33) (fun wa9 ka9 ba9=>(oe wa9).mono ?_)
 rintro e w9 ⟨r9,rfl,q9,ME⟩
 skip
 refine ⟨_,rfl,ME,fun Ff _ bb9=>wV rfl ?_⟩
 refine dC ?_
 refine VO.call rfl rfl (fk Tryz.func32) (fun xb Bx Lf=>(ji 200 400 xb ab ab ab ab).mono ?_)
 rintro e w10 ⟨r10,rfl,⟨s10,p10,n10,c10,t10,y10,m10,d10,e10,f10,g10,h10,i10,j10,Qa,l10,rfl,q10⟩,xc⟩
 skip
 refine ⟨_,rfl,xc,fun jv _ PG=>wV rfl ?_⟩
 refine dC ?_
 refine VO.call rfl rfl (fk Tryz.func32) (fun yu xd SR=>(ji 100 0 yu ab ab ab ab).mono ?_)
 rintro e w11 ⟨r11,rfl,⟨s11,p11,n11,c11,t11,y11,m11,d11,e11,f11,g11,h11,i11,j11,k11,l11,rfl,q11⟩,Bz⟩
 skip
 refine ⟨_,rfl,Bz,fun nZ _ SS=>wV rfl ?_⟩
 refine dC ?_
 refine VO.call rfl rfl (fk Tryz.func32) (fun BA Fg PH=>(ji 300 100 BA ab ab ab ab).mono ?_)
 rintro e w12 ⟨r12,rfl,⟨s12,p12,n12,c12,t12,y12,m12,d12,e12,f12,g12,Ea,i12,j12,k12,l12,rfl,q12⟩,BB⟩
 skip
 refine ⟨_,rfl,BB,fun rB _ SV=>wV rfl ?_⟩
 refine dC ?_
 refine VO.ee rfl (fk Tryz.func11) (fun Lg β ka13 SW ho=>((Ce _ _ exS exF 2 3 [((Rat.divInt 200 1),(Rat.divInt 400 1)),((Rat.divInt 100 1),(Rat.divInt 0 1)),((Rat.divInt 300 1),(Rat.divInt 100 1))] Lg (q9.kp kL) (im (dV 2) (ho.own 29 (.base (List.mem_singleton.2 rfl)) _ _ rfl) [] (vs:=[[.bool s10,.slice p10 n10 c10,.bool t10,.slice y10 m10 d10,.bool e10,.slice f10 g10 h10,.bool i10,.slice j10 Qa l10],[.bool s11,.slice p11 n11 c11,.bool t11,.slice y11 m11 d11,.bool e11,.slice f11 g11 h11,.bool i11,.slice j11 k11 l11],[.bool s12,.slice p12 n12 c12,.bool t12,.slice y12 m12 d12,.bool e12,.slice f12 g12 Ea,.bool i12,.slice j12 k12 l12]]) (by rfl) (bL.cons ((dV 2).kp q10 kL) (bL.cons ((dV 2).kp q11 kL) (bL.cons ((dV 2).kp q12 kL) (bL.nil)))) rfl (bu rfl) bW) hsS hsF (by decide +kernel) (by decide +kernel) bW bW bW hS3 hF3 (by decide +kernel) _ led_z).mono (fun o w2 h=>And.intro h SW.size)).mono ?_)
 rintro o qG ⟨⟨r13,u13,rfl,l13,Lh⟩,hsz13⟩
 obtain ⟨pr13,cr13,pu13,cu13,rfl,rfl⟩:=l13.form
 refine ⟨_,rfl,Lh,fun BC _ bb13=>wV rfl ?_⟩
 (repeat (first | refine wN ?_ | refine wP rfl ?_ | refine wO rfl rfl ?_))
 refine VS.vN (KU UU) (fun t=>Nat.beq t 22) table (fun _ _ _=>trivial) (fun Li β k14 b14 en=> ?_)
 have o1:=en.own 1 _ _ rfl
 have o3:=en.own 3 _ _ rfl
 have o5:=en.own 5 _ _ rfl
 have h13:β 1≠β 3:=fun e=>absurd (en.apart 1 3 (by intro h;cases h) (by intro h;cases h) e) bW
 have h15:β 1≠β 5:=fun e=>absurd (en.apart 1 5 (by intro h;cases h) (by intro h;cases h) e) bW
 have h35:β 3≠β 5:=fun e=>absurd (en.apart 3 5 (by intro h;cases h) (by intro h;cases h) e) bW
 have kk3:bH (CW Tryz.prog w 161).K w3 Li:=((((((((((lz).aN jV).aN lG).aN sU).aN wk).aN Ff).aN jv).aN nZ).aN rB).aN BC).aN k14
 have l3':=l3.kpF (xu w 161) kk3 kk3.qo
 have kk8:bH (CW Tryz.prog w 161).K w8 Li:=(((((Ff).aN jv).aN nZ).aN rB).aN BC).aN k14
 have l8':=l8.kpF (xu w 161) kk8 kk8.qo
 have kk13:bH (CW Tryz.prog w 161).K qG Li:=k14
 have l13':=l13.kpF (xu w 161) kk13 kk13.qo
 have sH:jX (KU UU) 161 [β 1,β 3,β 5] [(rM,[.val (.slice pr3 1 cr3),.val (.slice pu3 0 cu3)]),(rM,[.val (.slice pr8 3 cr8),.val (.slice pu8 2 cu8)]),(rM,[.val (.slice pr13 3 cr13),.val (.slice pu13 0 cu13)])] Li:=by
  refine ⟨rfl,by simp [h13,h15,h35],fun j g' c' hj hc=> ?_,fun c' hc=> ?_,fun c' hc k hk=> ?_⟩
  ·match j,hj,hc with
   | 0,hj,hc=>cases hj;cases hc;exact o1.cls
   | 1,hj,hc=>cases hj;cases hc;exact o3.cls
   | 2,hj,hc=>cases hj;cases hc;exact o5.cls
   | j + 3,hj,_=>simp at hj
  ·simp only [List.mem_cons,List.not_mem_nil,or_false] at hc
   rcases hc with rfl | rfl | rfl <;> exact ⟨rfl,rfl⟩
  ·simp only [List.mem_cons,List.not_mem_nil,or_false] at hc
   rcases hc with rfl | rfl | rfl <;> cases hk
 have g1:=o1.cls
 have g3:=o3.cls
 have g5:=o5.cls
 refine ⟨[β 1,β 3,β 5],_,sH,[(0,.val (.bool false)),(1,.box 322 0),(2,.val (.int .i64 0)),(3,.box 323 0),(4,.val (.int .i64 0)),(5,.box 324 0),(6,.val (.int .i64 0))],⟨⟨_,rfl,rfl,fun i hi=>(by cases hi)⟩,⟨_,rfl,rfl,fun i hi=>by rw [(by simpa [AV.ids] using hi:i=322)];exact ⟨(by show 322≤322;omega),(by show 322 < 2 * 161 + 3;omega)⟩⟩,⟨_,rfl,rfl,fun i hi=>(by cases hi)⟩,⟨_,rfl,rfl,fun i hi=>by rw [(by simpa [AV.ids] using hi:i=323)];exact ⟨(by show 322≤323;omega),(by show 323 < 2 * 161 + 3;omega)⟩⟩,⟨_,rfl,rfl,fun i hi=>(by cases hi)⟩,⟨_,rfl,rfl,fun i hi=>by rw [(by simpa [AV.ids] using hi:i=324)];exact ⟨(by show 322≤324;omega),(by show 324 < 2 * 161 + 3;omega)⟩⟩,⟨_,rfl,rfl,fun i hi=>(by cases hi)⟩,trivial⟩,?_⟩
 obtain ⟨rb3,hB3,nn3,cc3,LG,Np,e3',yB,hor3⟩:=l3'.1.resolve_left (fun h=>by cases h.2)
 simp only [Value.slice.injEq] at e3'
 obtain ⟨rfl,rfl,rfl⟩:=e3'
 obtain ⟨rb13,hB13,nn13,cc13,vs13,sp13,e13',ql,Ub⟩:=l13'.1.resolve_left (fun h=>by cases h.2)
 simp only [Value.slice.injEq] at e13'
 obtain ⟨rfl,rfl,rfl⟩:=e13'
 obtain ⟨rb8,hB8,nn8,cc8,vs8,sp8,e8',yC,hor8⟩:=l8'.2.resolve_left (fun h=>by cases h.2)
 simp only [Value.slice.injEq] at e8'
 obtain ⟨rfl,rfl,rfl⟩:=e8'
 have hn3:rb3∉[β 1,β 3,β 5]:=fun hm=>by
  simp only [List.mem_cons,List.not_mem_nil,or_false] at hm
  rcases hm with h | h | h
  ·rw [h] at yB;exact absurd (bN yB g1) bW
  ·rw [h] at yB;exact absurd (bN yB g3) bW
  ·rw [h] at yB;exact absurd (bN yB g5) bW
 have hn8:rb8∉[β 1,β 3,β 5]:=fun hm=>by
  simp only [List.mem_cons,List.not_mem_nil,or_false] at hm
  rcases hm with h | h | h
  ·rw [h] at yC;exact absurd (bN yC g1) bW
  ·rw [h] at yC;exact absurd (bN yC g3) bW
  ·rw [h] at yC;exact absurd (bN yC g5) bW
 have hn13:rb13∉[β 1,β 3,β 5]:=fun hm=>by
  simp only [List.mem_cons,List.not_mem_nil,or_false] at hm
  rcases hm with h | h | h
  ·rw [h] at ql;exact absurd (bN ql g1) bW
  ·rw [h] at ql;exact absurd (bN ql g3) bW
  ·rw [h] at ql;exact absurd (bN ql g5) bW
 obtain ⟨s20,p20,n20,c20,t20,y20,m20,d20,hq20,hc20⟩:=sk 0 bW yB hor3 (i:=0) rfl
 obtain ⟨s21,p21,n21,c21,t21,y21,m21,d21,hq21,hc21⟩:=sk 2 bW yB hor3 (i:=0) rfl
 obtain ⟨s22,p22,n22,c22,t22,y22,m22,d22,hq22,hc22⟩:=sk 6 bW yB hor3 (i:=0) rfl
 obtain ⟨s25,p25,n25,c25,t25,y25,m25,d25,hq25,hc25⟩:=sk 5 bW ql Ub (i:=0) rfl
 obtain ⟨s26,p26,n26,c26,t26,y26,m26,d26,hq26,hc26⟩:=sk 6 bW ql Ub (i:=1) rfl
 obtain ⟨s27,p27,n27,c27,t27,y27,m27,d27,hq27,hc27⟩:=sk 6 bW ql Ub (i:=2) rfl
 obtain ⟨Qk,Ql,Qm,Qn,t23,Qo,Qp,d23,hq23,hc23,hy23,-⟩:=Nu yC hor8 (i:=0) rfl
 obtain ⟨s24,p24,n24,c24,t24,y24,m24,d24,hq24,hc24,hy24,-⟩:=Nu yC hor8 (i:=1) rfl
 refine af ?_
 refine VO.cond rfl ⟨by decide,by decide⟩ (wV rfl ?_)
 refine af ?_
 refine VO.ly rfl [.bool s20,.slice p20 n20 c20,.bool t20,.slice y20 m20 d20] rfl (qk yB.lt hn3 (hc20 _ rfl)) (wV rfl ?_)
 refine af ?_
 refine VO.call rfl rfl (fk Tryz.func31) (fun wa40 ka40 ba40=>(fb 120 1 wa40 ab ab ab ab).mono ?_)
 rintro e w40 ⟨r40,rfl,q40,hb40⟩
 obtain ⟨s40,p40,n40,c40,t40,y40,m40,d40,rfl⟩:=q40.form
 refine ⟨_,rfl,hb40,fun kb40 _ bb40=>wV rfl ?_⟩
 refine af ?_
 refine VO.call rfl rfl (fk Tryz.func12) (fun LQ ka41 FK=>(il _ _ (Rat.divInt 120 1) (Rat.divInt 120 1) 2 2 LQ ((show aH Li _ _ (Rat.divInt 120 1) from hq20).ki (qD 120 ab ab)) (q40.ki (qD 120 ab ab)) ab ab 0 (lO rfl)).mono ?_)
 rintro e w41 ⟨rfl,LR⟩
 refine ⟨_,rfl,LR,fun kb41 _ bb41=>wV rfl ?_⟩
 refine af ?_
 refine VO.cond rfl ⟨by decide,by decide⟩ (wV rfl ?_)
 refine af ?_
 refine VO.ly rfl [.bool s21,.slice p21 n21 c21,.bool t21,.slice y21 m21 d21] rfl (qk yB.lt hn3 (hc21 _ rfl)) (wV rfl ?_)
 refine af ?_
 refine VO.call rfl rfl (fk Tryz.func31) (fun wa42 ka42 ba42=>(fb 80 1 wa42 ab ab ab ab).mono ?_)
 rintro e w42 ⟨r42,rfl,q42,hb42⟩
 obtain ⟨s42,p42,n42,c42,t42,y42,m42,d42,rfl⟩:=q42.form
 refine ⟨_,rfl,hb42,fun kb42 _ bb42=>wV rfl ?_⟩
 refine af ?_
 refine VO.call rfl rfl (fk Tryz.func12) (fun wa43 ka43 ba43=>(il _ _ (Rat.divInt 80 1) (Rat.divInt 80 1) 2 2 wa43 ((show aH Li _ _ (Rat.divInt 80 1) from hq21).ki (qD 80 ab ab)) (q42.ki (qD 80 ab ab)) ab ab 0 (lO rfl)).mono ?_)
 rintro e w43 ⟨rfl,hb43⟩
 refine ⟨_,rfl,hb43,fun kb43 _ bb43=>wV rfl ?_⟩
 refine af ?_
 refine VO.cond rfl ⟨by decide,by decide⟩ (wV rfl ?_)
 refine af ?_
 refine VO.ly rfl [.bool s22,.slice p22 n22 c22,.bool t22,.slice y22 m22 d22] rfl (qk yB.lt hn3 (hc22 _ rfl)) (wV rfl ?_)
 refine af ?_
 refine VO.call rfl rfl (fk Tryz.func31) (fun wa44 ka44 ba44=>(fb 80 1 wa44 ab ab ab ab).mono ?_)
 rintro e w44 ⟨r44,rfl,q44,hb44⟩
 obtain ⟨s44,p44,n44,c44,t44,y44,m44,d44,rfl⟩:=q44.form
 refine ⟨_,rfl,hb44,fun kb44 _ bb44=>wV rfl ?_⟩
 refine af ?_
 refine VO.call rfl rfl (fk Tryz.func12) (fun wa45 ka45 ba45=>(il _ _ (Rat.divInt 80 1) (Rat.divInt 80 1) 2 2 wa45 ((show aH Li _ _ (Rat.divInt 80 1) from hq22).ki (qD 80 ab ab)) (q44.ki (qD 80 ab ab)) ab ab 0 (lO rfl)).mono ?_)
 rintro e w45 ⟨rfl,hb45⟩
 refine ⟨_,rfl,hb45,fun kb45 _ bb45=>wV rfl ?_⟩
 refine af ?_
 refine VO.cond rfl ⟨by decide,by decide⟩ (wV rfl ?_)
 refine af ?_
 refine VO.ly rfl [.bool Qk,.slice Ql Qm Qn,.bool t23,.slice Qo Qp d23] rfl (qk yC.lt hn8 (hc23 _ rfl)) (wV rfl ?_)
 refine af ?_
 refine VO.call rfl rfl (fk Tryz.func31) (fun wa46 ka46 ba46=>(fb 70 1 wa46 ab ab ab ab).mono ?_)
 rintro e w46 ⟨r46,rfl,q46,hb46⟩
 obtain ⟨s46,p46,n46,c46,t46,y46,m46,d46,rfl⟩:=q46.form
 refine ⟨_,rfl,hb46,fun kb46 _ bb46=>wV rfl ?_⟩
 refine af ?_
 refine VO.call rfl rfl (fk Tryz.func12) (fun wa47 ka47 ba47=>(il _ _ (Rat.divInt 70 1) (Rat.divInt 70 1) 2 2 wa47 ((show aH Li _ _ (Rat.divInt 70 1) from hq23).ki (qD 70 ab ab)) (q46.ki (qD 70 ab ab)) ab ab 0 (lO rfl)).mono ?_)
 rintro e w47 ⟨rfl,hb47⟩
 refine ⟨_,rfl,hb47,fun kb47 _ bb47=>wV rfl ?_⟩
 refine af ?_
 refine VO.cond rfl ⟨by decide,by decide⟩ (wV rfl ?_)
 refine af ?_
 refine VO.ly rfl [.int .i64 ((1:Nat):Int)] rfl (qk yC.lt hn8 (hy23 _ rfl)) (wV rfl ?_)
 refine af ?_
 refine VO.cond rfl ⟨by decide,by decide⟩ (wV rfl ?_)
 refine af ?_
 refine VO.ly rfl [.bool s24,.slice p24 n24 c24,.bool t24,.slice y24 m24 d24] rfl (qk yC.lt hn8 (hc24 _ rfl)) (wV rfl ?_)
 refine af ?_
 refine VO.call rfl rfl (fk Tryz.func31) (fun wa48 ka48 ba48=>(fb 10 1 wa48 ab ab ab ab).mono ?_)
 rintro e w48 ⟨r48,rfl,q48,hb48⟩
 obtain ⟨s48,p48,n48,c48,t48,y48,m48,d48,rfl⟩:=q48.form
 refine ⟨_,rfl,hb48,fun kb48 _ bb48=>wV rfl ?_⟩
 refine af ?_
 refine VO.call rfl rfl (fk Tryz.func12) (fun wa49 ka49 ba49=>(il _ _ (Rat.divInt 10 1) (Rat.divInt 10 1) 2 2 wa49 ((show aH Li _ _ (Rat.divInt 10 1) from hq24).ki (qD 10 ab ab)) (q48.ki (qD 10 ab ab)) ab ab 0 (lO rfl)).mono ?_)
 rintro e w49 ⟨rfl,hb49⟩
 refine ⟨_,rfl,hb49,fun kb49 _ bb49=>wV rfl ?_⟩
 refine af ?_
 refine VO.cond rfl ⟨by decide,by decide⟩ (wV rfl ?_)
 refine af ?_
 refine VO.ly rfl [.int .i64 ((2:Nat):Int)] rfl (qk yC.lt hn8 (hy24 _ rfl)) (wV rfl ?_)
 refine af ?_
 refine VO.cond rfl ⟨by decide,by decide⟩ (wV rfl ?_)
 refine af ?_
 refine VO.ly rfl [.bool s25,.slice p25 n25 c25,.bool t25,.slice y25 m25 d25] rfl (qk ql.lt hn13 (hc25 _ rfl)) (wV rfl ?_)
 refine af ?_
 refine VO.call rfl rfl (fk Tryz.func31) (fun wa50 ka50 ba50=>(fb 80 1 wa50 ab ab ab ab).mono ?_)
 rintro e w50 ⟨r50,rfl,q50,hb50⟩
 obtain ⟨s50,p50,n50,c50,t50,y50,m50,d50,rfl⟩:=q50.form
 refine ⟨_,rfl,hb50,fun kb50 _ bb50=>wV rfl ?_⟩
 refine af ?_
 refine VO.call rfl rfl (fk Tryz.func12) (fun wa51 ka51 ba51=>(il _ _ (Rat.divInt 80 1) (Rat.divInt 80 1) 2 2 wa51 ((show aH Li _ _ (Rat.divInt 80 1) from hq25).ki (qD 80 ab ab)) (q50.ki (qD 80 ab ab)) ab ab 0 (lO rfl)).mono ?_)
 rintro e w51 ⟨rfl,hb51⟩
 refine ⟨_,rfl,hb51,fun kb51 _ bb51=>wV rfl ?_⟩
 refine af ?_
 refine VO.cond rfl ⟨by decide,by decide⟩ (wV rfl ?_)
 refine af ?_
 refine VO.ly rfl [.bool s26,.slice p26 n26 c26,.bool t26,.slice y26 m26 d26] rfl (qk ql.lt hn13 (hc26 _ rfl)) (wV rfl ?_)
 refine af ?_
 refine VO.call rfl rfl (fk Tryz.func31) (fun wa52 ka52 ba52=>(fb 50 1 wa52 ab ab ab ab).mono ?_)
 rintro e w52 ⟨r52,rfl,q52,hb52⟩
 obtain ⟨s52,p52,n52,c52,t52,y52,m52,d52,rfl⟩:=q52.form
 refine ⟨_,rfl,hb52,fun kb52 _ bb52=>wV rfl ?_⟩
 refine af ?_
 refine VO.call rfl rfl (fk Tryz.func12) (fun wa53 ka53 ba53=>(il _ _ (Rat.divInt 50 1) (Rat.divInt 50 1) 2 2 wa53 ((show aH Li _ _ (Rat.divInt 50 1) from hq26).ki (qD 50 ab ab)) (q52.ki (qD 50 ab ab)) ab ab 0 (lO rfl)).mono ?_)
 rintro e w53 ⟨rfl,hb53⟩
 refine ⟨_,rfl,hb53,fun kb53 _ bb53=>wV rfl ?_⟩
 refine af ?_
 refine VO.cond rfl ⟨by decide,by decide⟩ (wV rfl ?_)
 refine af ?_
 refine VO.ly rfl [.bool s27,.slice p27 n27 c27,.bool t27,.slice y27 m27 d27] rfl (qk ql.lt hn13 (hc27 _ rfl)) (wV rfl ?_)
 refine af ?_
 refine VO.call rfl rfl (fk Tryz.func31) (fun wa54 ka54 ba54=>(fb 250 1 wa54 ab ab ab ab).mono ?_)
 rintro e w54 ⟨r54,rfl,q54,hb54⟩
 obtain ⟨s54,p54,n54,c54,t54,y54,m54,d54,rfl⟩:=q54.form
 refine ⟨_,rfl,hb54,fun kb54 _ bb54=>wV rfl ?_⟩
 refine af ?_
 refine VO.call rfl rfl (fk Tryz.func12) (fun wa55 ka55 ba55=>(il _ _ (Rat.divInt 250 1) (Rat.divInt 250 1) 2 2 wa55 ((show aH Li _ _ (Rat.divInt 250 1) from hq27).ki (qD 250 ab ab)) (q54.ki (qD 250 ab ab)) ab ab 0 (lO rfl)).mono ?_)
 rintro e w55 ⟨rfl,hb55⟩
 refine ⟨_,rfl,hb55,fun kb55 _ bb55=>wV rfl ?_⟩
 refine af ?_
 refine VS.lp (bF _ _) rfl (fun wz βz kz oz enz=> ?_)
 refine ⟨rfl,tw.bo b14 oz.1 (fun x hx=> ?_)⟩
 simp only [List.mem_cons,List.not_mem_nil,or_false] at hx
 rcases hx with rfl | rfl | rfl
 ·exact o1.new
 ·exact o3.new
 ·exact o5.new
set_option maxRecDepth 4000
def RrE (_:World) (cs:List Value) (e:RR):Prop:=∃ p c r d,cs=[.bool e.1,.slice p e.2.1.length c,.bool e.2.2.1,.slice r e.2.2.2.length d]
theorem js:gL RrE 4 where
 kp:=fun h _=>h
 len:=fun h=>by obtain ⟨p,c,r,d,rfl⟩:=h;rfl
 ok:=fun h=>by obtain ⟨p,c,r,d,rfl⟩:=h;rfl
def fl (l:List (RR×RR)):List RR:=l.flatMap fun e=>[e.1,e.2]
theorem rN (l:List (RR×RR)):(fl l).length=2 * l.length:=by
 induction l with
 | nil=>rfl
 | cons e r ih=>show (e.1::e.2::fl r).length=_;simp [ih];omega
theorem Ah {l:List (RR×RR)} {z:Nat} {e:RR×RR} (h:l[z]? =some e):fl (l.take (z + 1))=fl (l.take z)++[e.1,e.2]:=by
 rw [bS h]
 unfold fl
 rw [List.flatMap_append]
 rfl
def vQ (x:RR):Bool:=decide (x.2.1.length≤3) && decide (x.2.2.2.length≤3)
theorem Nv {X:List RR} {z:Nat} {e:RR} (he:X[z]? =some e) (h:vQ e=false):X.all vQ=false:=by
 cases h':X.all vQ with
 | false=>rfl
 | true=>rw [List.all_eq_true.1 h' e (List.mem_of_getElem? he)] at h;cases h
theorem Uc {l:List RR} {z:Nat} {e:RR} (he:l[z]? =some e) (h:(l.take z).all vQ=true) (hw:vQ e=true):(l.take (z + 1)).all vQ=true:=by
 rw [bS he,List.all_append,h];simp [hw]
theorem aK {w:World} {b off i sz:Nat} {cs:List Value} (hc:∀ (j:Nat) (u:Value),cs[j]? =some u->w.cell? ⟨b,off + i * sz + j,none⟩=some u) (k:Nat) (ds:List Value) (hd:ds <+:cs.drop k):∀ (j:Nat) (u:Value),ds[j]? =some u->w.cell? ((⟨b,off + ((i:Nat):Int).toNat * sz + k,none⟩:Addr).add j)=some u:=by
 intro j u hj
 obtain ⟨t,ht⟩:=hd
 rw [Addr.add_mid,Int.toNat_natCast,Nat.add_assoc]
 refine hc (k + j) u ?_
 rw [<-List.getElem?_drop,<-ht,List.getElem?_append_left (List.getElem?_eq_some_iff.1 hj).1]
 exact hj
set_option maxRecDepth 4000 in
theorem Qq (v:Value) (xs:List RR) (w:World) (hx:cO RrE 4 w v xs):
  Calls Tryz.prog 26 #[v] w fun o w'=>o=.returned (.bool (xs.all vQ))/\aL w w':=by
 obtain ⟨q,c,rfl,fE,fX⟩:=hx.form
 obtain ⟨n,hn⟩:∃ n,n=xs.length:=⟨_,rfl⟩
 rw [<-hn] at hx fE
 rw [<-hn]
 refine ag (C:=bP Tryz.prog w _) (args:=[_]) Tryz.func26 rfl Tryz.ntmps26 (bu rfl) ?_
 refine aa ?_
 refine VS.loop (J:=fun m L M w'=>∃ z:Nat,z≤n/\m=n - z/\L=[(0,.val (.slice q n c)),(3,.val (.int .i64 (z:Int)))]/\M=[]/\(xs.take z).all vQ=true) n ⟨_,_,?_,?_,?_,?_,⟨0,by omega,rfl,rfl,rfl,rfl⟩⟩ ?_
 ·exact ⟨rfl,rfl,trivial⟩
 ·exact cd
 ·rfl
 ·exact iD
 rintro m L M w9 ⟨z,hz,rfl,rfl,rfl,fY⟩
 refine aa ?_
 by_cases mQ:z < n
 ·obtain ⟨e,he⟩:∃ e,xs[z]? =some e:=⟨_,List.getElem?_eq_getElem ab⟩
  obtain ⟨b,off,eW,fQ,hc,⟨ap,ac,ar,ad,rfl⟩⟩:=hx.at he
  subst fQ
  refine VS.aP rfl (decide_eq_true (Int.ofNat_lt.2 mQ)) ?_
  refine aa ?_
  refine VO.cond rfl dw ?_
  refine wV rfl ?_
  refine aa ?_
  refine VO.read rfl [.slice ap e.2.1.length ac] rfl (aK hc 1 _ ⟨_,rfl⟩) (wV rfl ?_)
  refine aa ?_
  by_cases h1:e.2.1.length≤3
  ·refine VO.fix 18 rfl (congrArg (fun b=>AV.val (.bool b)) (decide_eq_false (show ¬ (e.2.1.length:Int) > 3 by omega))) ?_
   refine aa ?_
   refine VO.cond rfl dw ?_
   refine wV rfl ?_
   refine aa ?_
   refine VO.read rfl [.slice ar e.2.2.2.length ad] rfl (aK hc 3 _ ⟨[],rfl⟩) (wV rfl ?_)
   refine aa ?_
   by_cases h2:e.2.2.2.length≤3
   ·have hs:vQ e=true:=by unfold vQ;rw [decide_eq_true h1,decide_eq_true h2];rfl
    refine VS.aQ rfl (decide_eq_false (show ¬ (e.2.2.2.length:Int) > 3 by omega)) ?_
    refine aa ?_
    refine VS.back (n - (z + 1)) ab ⟨_,_,?_,?_,?_,?_,⟨z + 1,by omega,rfl,rfl,rfl,Uc he fY hs⟩⟩
    ·refine ⟨rfl,?_,trivial⟩
     rw [<-aF (i:=z) ab];rfl
    ·exact cd
    ·rfl
    ·exact iD
   ·have hs:vQ e=false:=by unfold vQ;rw [decide_eq_false h2,Bool.and_false]
    refine VS.aP rfl (decide_eq_true (show (e.2.2.2.length:Int) > 3 by omega)) ?_
    refine aa ?_
    refine aR ?_;intro wz kz bz
    exact ⟨by rw [Nv he hs];rfl,bz⟩
  ·have hs:vQ e=false:=by unfold vQ;rw [decide_eq_false h1,Bool.false_and]
   refine VO.fix 18 rfl (congrArg (fun b=>AV.val (.bool b)) (decide_eq_true (show (e.2.1.length:Int) > 3 by omega))) ?_
   refine aa ?_
   refine aR ?_;intro wz kz bz
   exact ⟨by rw [Nv he hs];rfl,bz⟩
 ·refine VS.aQ rfl (decide_eq_false (fun e=>mQ (Int.ofNat_lt.1 e))) ?_
  refine aa ?_
  refine aR ?_;intro wz kz bz
  rw [List.take_of_length_le ab] at fY
  exact ⟨by rw [fY];rfl,bz⟩
theorem lh (v:Value) (xs:List RR) (w:World) (hx:cO RrE 4 w v xs) (b:Bool) (hb:xs.all vQ=b):
 Calls Tryz.prog 26 #[v] w fun o w'=>o=.returned (.bool b)/\aL w w':=hb▸Qq v xs w hx
def yf (n:Nat):Bool:=decide (n≤12) || (decide (40 < n) && decide (n≤60))
def nI (S F:RR) (l:List (RR×RR)):Bool:=yf l.length && (S::F::fl l).all vQ
set_option maxRecDepth 4000 in
theorem Qr (v u:Value) (S F:RR) (keep:Int) (l:List (RR×RR)) (kk:Nat) (w:World) (hR:fN w v S F keep) (hv:cO (si kk) 8 w u l):
  Calls Tryz.prog 8 #[v,u] w fun o w'=>o=.returned (.bool (nI S F l))/\aL w w':=by
 obtain ⟨q,c,rfl,fE,fX⟩:=hv.form
 obtain ⟨sp,sc,sr,sd,fp,fc,fr,fd,rfl,-,-⟩:=hR
 obtain ⟨N,hN⟩:∃ N,N=l.length:=⟨_,rfl⟩
 rw [<-hN] at hv fE
 rw [<-hN]
 obtain ⟨bs,hb⟩:∃ b,(S::F::fl l).all vQ=b:=⟨_,rfl⟩
 refine ag (C:=bP Tryz.prog w _) (args:=[_,_]) Tryz.func8 rfl Tryz.ntmps8 (bu rfl) ?_
 refine aa ?_
 by_cases Ea:N≤12
 ·have hlen:yf l.length=true:=by unfold yf;rw [<-hN,decide_eq_true Ea];rfl
  refine VO.fix 10 rfl (congrArg (fun b=>AV.val (.bool b)) (decide_eq_false (show ¬ (N:Int) > 12 by omega))) ?_
  refine aa ?_
  refine VS.aQ rfl (decide_eq_false (show ¬ (N:Int) > 60 by omega)) ?_
  refine aa ?_
  refine VS.loop (J:=fun m L M w'=>∃ z:Nat,z≤N/\m=N - z/\∃ d vs spare cap,(d=24\/d=43)/\L=[(1,.val (.slice q N c)),(5,.row d 0 (2 + 2 * z) cap),(6,.val (.int .i64 (z:Int)))]/\M=[(d,(26,vs.flatten.map .val++spare))]/\
   bL RrE w' (S::F::fl (l.take z)) vs/\(vs.flatten.map AV.val++spare).length=cap * 4/\2 + 2 * z≤cap/\cap≤9223372036854775807/\spare.all aG=true/\ax spare=[]) N ⟨_,_,?_,?_,?_,?_,⟨0,by omega,rfl,24,[[.bool S.1,.slice sp S.2.1.length sc,.bool S.2.2.1,.slice sr S.2.2.2.length sd],[.bool F.1,.slice fp F.2.1.length fc,.bool F.2.2.1,.slice fr F.2.2.2.length fd]],[],2,.inl rfl,rfl,rfl,.cons ⟨_,_,_,_,rfl⟩ (.cons ⟨_,_,_,_,rfl⟩ .nil),rfl,by omega,by omega,rfl,rfl⟩⟩ ?_
  ·exact cd
  ·exact cd
  ·rfl
  ·exact ⟨.append (.vals _) (.none rfl),trivial⟩
  rintro m L M wJ ⟨z,hz,rfl,d,vs,spare,cap,rfl | rfl,rfl,rfl,ko,JA,hzc,hcc,Ud,sH⟩
  ·refine aa ?_
   by_cases hlt:z < N
   ·obtain ⟨e,he⟩:∃ e,l[z]? =some e:=⟨_,List.getElem?_eq_getElem ab⟩
    obtain ⟨b,off,eW,fQ,hc,hE⟩:=hv.at he
    subst fQ
    obtain ⟨_,_,rfl,⟨ap,ac,ar,ad,rfl,-⟩,⟨bp,bc,br,bd,rfl,-⟩,-,-⟩:=hE
    obtain ⟨Fs,Ft⟩:=ko.ok js
    have QX:(S::F::fl (l.take z)).length=2 + 2 * z:=by rw [List.length_cons,List.length_cons,rN,List.length_take];omega
    refine VS.aP rfl (decide_eq_true (Int.ofNat_lt.2 hlt)) ?_
    refine aa ?_
    refine VO.cond rfl dw ?_
    refine wV rfl ?_
    refine aa ?_
    refine VO.read rfl [.bool e.1.1,.slice ap e.1.2.1.length ac,.bool e.1.2.2.1,.slice ar e.1.2.2.2.length ad] rfl (aK hc 0 _ ⟨_,rfl⟩) (wV rfl ?_)
    refine aa ?_
    refine VO.cond rfl dw ?_
    refine wV rfl ?_
    refine aa ?_
    refine VO.read rfl [.bool e.2.1,.slice bp e.2.2.1.length bc,.bool e.2.2.2.1,.slice br e.2.2.2.2.length bd] rfl (aK hc 4 _ ⟨[],rfl⟩) (wV rfl ?_)
    refine aa ?_
    refine VO.Sk (cK _ _) (t:=73) (e:=26) (sz:=4) (n:=2 + 2 * z) (c:=cap) (mm:=2) (known:=vs.flatten.map .val) (spare:=spare) (del:=some 24) (news:=([.bool e.1.1,.slice ap e.1.2.1.length ac,.bool e.1.2.2.1,.slice ar e.1.2.2.2.length ad,.bool e.2.1,.slice bp e.2.2.1.length bc,.bool e.2.2.2.1,.slice br e.2.2.2.2.length bd]:List Value).map .val) (dst:=43) rfl rfl rfl rfl rfl rfl rfl rfl (bu rfl) rfl (.inl (.inr ⟨24,rfl,rfl,rfl⟩)) (.inl rfl) (by rw [List.length_map,Ft,QX]) JA hzc hcc ⟨ai _,sH,rfl⟩ ⟨bh Fs,Ud,rfl⟩ rfl ab
     (fun w1 β k1 b1 ho=>⟨_,_,rfl,.inr ⟨β 42,0,rfl,df (rest:=[]) (ho.own 42 (.base (List.mem_append_right _ (List.mem_singleton.2 rfl))) _ _ rfl) rfl⟩⟩)
     (fun qG cap' aj ρ Nk Nl fJ jS iB ek pU eD=>wV rfl ?_)
    refine aa ?_
    have Cf:bL RrE qG (S::F::fl (l.take (z + 1))) (vs++[[.bool e.1.1,.slice ap e.1.2.1.length ac,.bool e.1.2.2.1,.slice ar e.1.2.2.2.length ad],[.bool e.2.1,.slice bp e.2.2.1.length bc,.bool e.2.2.2.1,.slice br e.2.2.2.2.length bd]]):=by
     rw [Ah he,<-List.cons_append,<-List.cons_append]
     exact (ko.kp js aU).append (.cons ⟨_,_,_,_,rfl⟩ (.cons ⟨_,_,_,_,rfl⟩ .nil))
    refine VS.back (N - (z + 1)) ab ⟨_,_,?_,?_,?_,?_,⟨z + 1,by omega,rfl,43,vs++[[.bool e.1.1,.slice ap e.1.2.1.length ac,.bool e.1.2.2.1,.slice ar e.1.2.2.2.length ad],[.bool e.2.1,.slice bp e.2.2.1.length bc,.bool e.2.2.2.1,.slice br e.2.2.2.2.length bd]],aj,cap',.inr rfl,rfl,rfl,Cf,by simpa using ek,by omega,iB,pU,eD⟩⟩
    ·refine ⟨rfl,rfl,?_,trivial⟩
     rw [<-aF (i:=z) ab];rfl
    ·exact ⟨congrArg (fun l=>some (_,l++aj)) cw,trivial⟩
    ·rfl
    ·exact ⟨.append (.vals _) (.none eD),trivial⟩
   ·refine VS.aQ rfl (decide_eq_false (fun e=>hlt (Int.ofNat_lt.1 e))) ?_
    have LK:z=N:=by omega
    rw [List.take_of_length_le ab] at ko
    refine aa ?_
    refine VO.ee rfl (fk Tryz.func26) (fun bD β cQ bG ho=>(lh _ (S::F::fl l) bD (im js (ho.own 24 (.base (List.mem_singleton.2 rfl)) _ _ rfl) spare rfl (ko.kp js aU) (by rw [List.length_cons,List.length_cons,rN];omega) hzc hcc) _ hb).mono ?_)
    rintro o w1 ⟨rfl,aI⟩
    refine ⟨_,rfl,aI,fun dt _ bb1=>wV rfl ?_⟩
    refine aa ?_
    refine aR ?_;intro wz kz bz
    exact ⟨by unfold nI;rw [hlen,hb];rfl,bz⟩
  ·refine aa ?_
   by_cases hlt:z < N
   ·obtain ⟨e,he⟩:∃ e,l[z]? =some e:=⟨_,List.getElem?_eq_getElem ab⟩
    obtain ⟨b,off,eW,fQ,hc,hE⟩:=hv.at he
    subst fQ
    obtain ⟨_,_,rfl,⟨ap,ac,ar,ad,rfl,-⟩,⟨bp,bc,br,bd,rfl,-⟩,-,-⟩:=hE
    obtain ⟨Fs,Ft⟩:=ko.ok js
    have QX:(S::F::fl (l.take z)).length=2 + 2 * z:=by rw [List.length_cons,List.length_cons,rN,List.length_take];omega
    refine VS.aP rfl (decide_eq_true (Int.ofNat_lt.2 hlt)) ?_
    refine aa ?_
    refine VO.cond rfl dw ?_
    refine wV rfl ?_
    refine aa ?_
    refine VO.read rfl [.bool e.1.1,.slice ap e.1.2.1.length ac,.bool e.1.2.2.1,.slice ar e.1.2.2.2.length ad] rfl (aK hc 0 _ ⟨_,rfl⟩) (wV rfl ?_)
    refine aa ?_
    refine VO.cond rfl dw ?_
    refine wV rfl ?_
    refine aa ?_
    refine VO.read rfl [.bool e.2.1,.slice bp e.2.2.1.length bc,.bool e.2.2.2.1,.slice br e.2.2.2.2.length bd] rfl (aK hc 4 _ ⟨[],rfl⟩) (wV rfl ?_)
    refine aa ?_
    refine VO.Sk (cK _ _) (t:=73) (e:=26) (sz:=4) (n:=2 + 2 * z) (c:=cap) (mm:=2) (known:=vs.flatten.map .val) (spare:=spare) (del:=some 43) (news:=([.bool e.1.1,.slice ap e.1.2.1.length ac,.bool e.1.2.2.1,.slice ar e.1.2.2.2.length ad,.bool e.2.1,.slice bp e.2.2.1.length bc,.bool e.2.2.2.1,.slice br e.2.2.2.2.length bd]:List Value).map .val) (dst:=43) rfl rfl rfl rfl rfl rfl rfl rfl (bu rfl) rfl (.inl (.inr ⟨43,rfl,rfl,rfl⟩)) (.inr rfl) (by rw [List.length_map,Ft,QX]) JA hzc hcc ⟨ai _,sH,rfl⟩ ⟨bh Fs,Ud,rfl⟩ rfl ab
     (fun w1 β k1 b1 ho=>⟨_,_,rfl,.inr ⟨β 42,0,rfl,df (rest:=[]) (ho.own 42 (.base (List.mem_append_right _ (List.mem_singleton.2 rfl))) _ _ rfl) rfl⟩⟩)
     (fun qG cap' aj ρ Nk Nl fJ jS iB ek pU eD=>wV rfl ?_)
    refine aa ?_
    have Cf:bL RrE qG (S::F::fl (l.take (z + 1))) (vs++[[.bool e.1.1,.slice ap e.1.2.1.length ac,.bool e.1.2.2.1,.slice ar e.1.2.2.2.length ad],[.bool e.2.1,.slice bp e.2.2.1.length bc,.bool e.2.2.2.1,.slice br e.2.2.2.2.length bd]]):=by
     rw [Ah he,<-List.cons_append,<-List.cons_append]
     exact (ko.kp js aU).append (.cons ⟨_,_,_,_,rfl⟩ (.cons ⟨_,_,_,_,rfl⟩ .nil))
    refine VS.back (N - (z + 1)) ab ⟨_,_,?_,?_,?_,?_,⟨z + 1,by omega,rfl,43,vs++[[.bool e.1.1,.slice ap e.1.2.1.length ac,.bool e.1.2.2.1,.slice ar e.1.2.2.2.length ad],[.bool e.2.1,.slice bp e.2.2.1.length bc,.bool e.2.2.2.1,.slice br e.2.2.2.2.length bd]],aj,cap',.inr rfl,rfl,rfl,Cf,by simpa using ek,by omega,iB,pU,eD⟩⟩
    ·refine ⟨rfl,rfl,?_,trivial⟩
     rw [<-aF (i:=z) ab];rfl
    ·exact ⟨congrArg (fun l=>some (_,l++aj)) cw,trivial⟩
    ·rfl
    ·exact ⟨.append (.vals _) (.none eD),trivial⟩
   ·refine VS.aQ rfl (decide_eq_false (fun e=>hlt (Int.ofNat_lt.1 e))) ?_
    have LK:z=N:=by omega
    rw [List.take_of_length_le ab] at ko
    refine aa ?_
    refine VO.ee rfl (fk Tryz.func26) (fun bD β cQ bG ho=>(lh _ (S::F::fl l) bD (im js (ho.own 43 (.base (List.mem_singleton.2 rfl)) _ _ rfl) spare rfl (ko.kp js aU) (by rw [List.length_cons,List.length_cons,rN];omega) hzc hcc) _ hb).mono ?_)
    rintro o w1 ⟨rfl,aI⟩
    refine ⟨_,rfl,aI,fun dt _ bb1=>wV rfl ?_⟩
    refine aa ?_
    refine aR ?_;intro wz kz bz
    exact ⟨by unfold nI;rw [hlen,hb];rfl,bz⟩
 ·refine VO.fix 10 rfl (congrArg (fun b=>AV.val (.bool b)) (decide_eq_true (show (N:Int) > 12 by omega))) ?_
  refine aa ?_
  by_cases h40:N≤40
  ·refine VO.fix 15 rfl (congrArg (fun b=>AV.val (.bool b)) (decide_eq_true (show (N:Int)≤40 by omega))) ?_
   refine aa ?_
   refine aR ?_;intro wz kz bz
   exact ⟨by unfold nI yf;rw [<-hN,decide_eq_false Ea,decide_eq_false (show ¬ 40 < N by omega)];rfl,bz⟩
  ·refine VO.fix 15 rfl (congrArg (fun b=>AV.val (.bool b)) (decide_eq_false (show ¬ (N:Int)≤40 by omega))) ?_
   refine aa ?_
   by_cases h60:N≤60
   ·have hlen:yf l.length=true:=by unfold yf;rw [<-hN,decide_eq_false Ea,decide_eq_true (show 40 < N by omega),decide_eq_true h60];rfl
    refine VS.aQ rfl (decide_eq_false (show ¬ (N:Int) > 60 by omega)) ?_
    refine aa ?_
    refine VS.loop (J:=fun m L M w'=>∃ z:Nat,z≤N/\m=N - z/\∃ d vs spare cap,(d=24\/d=43)/\L=[(1,.val (.slice q N c)),(5,.row d 0 (2 + 2 * z) cap),(6,.val (.int .i64 (z:Int)))]/\M=[(d,(26,vs.flatten.map .val++spare))]/\
     bL RrE w' (S::F::fl (l.take z)) vs/\(vs.flatten.map AV.val++spare).length=cap * 4/\2 + 2 * z≤cap/\cap≤9223372036854775807/\spare.all aG=true/\ax spare=[]) N ⟨_,_,?_,?_,?_,?_,⟨0,by omega,rfl,24,[[.bool S.1,.slice sp S.2.1.length sc,.bool S.2.2.1,.slice sr S.2.2.2.length sd],[.bool F.1,.slice fp F.2.1.length fc,.bool F.2.2.1,.slice fr F.2.2.2.length fd]],[],2,.inl rfl,rfl,rfl,.cons ⟨_,_,_,_,rfl⟩ (.cons ⟨_,_,_,_,rfl⟩ .nil),rfl,by omega,by omega,rfl,rfl⟩⟩ ?_
    ·exact cd
    ·exact cd
    ·rfl
    ·exact ⟨.append (.vals _) (.none rfl),trivial⟩
    rintro m L M wJ ⟨z,hz,rfl,d,vs,spare,cap,rfl | rfl,rfl,rfl,ko,JA,hzc,hcc,Ud,sH⟩
    ·refine aa ?_
     by_cases hlt:z < N
     ·obtain ⟨e,he⟩:∃ e,l[z]? =some e:=⟨_,List.getElem?_eq_getElem ab⟩
      obtain ⟨b,off,eW,fQ,hc,hE⟩:=hv.at he
      subst fQ
      obtain ⟨_,_,rfl,⟨ap,ac,ar,ad,rfl,-⟩,⟨bp,bc,br,bd,rfl,-⟩,-,-⟩:=hE
      obtain ⟨Fs,Ft⟩:=ko.ok js
      have QX:(S::F::fl (l.take z)).length=2 + 2 * z:=by rw [List.length_cons,List.length_cons,rN,List.length_take];omega
      refine VS.aP rfl (decide_eq_true (Int.ofNat_lt.2 hlt)) ?_
      refine aa ?_
      refine VO.cond rfl dw ?_
      refine wV rfl ?_
      refine aa ?_
      refine VO.read rfl [.bool e.1.1,.slice ap e.1.2.1.length ac,.bool e.1.2.2.1,.slice ar e.1.2.2.2.length ad] rfl (aK hc 0 _ ⟨_,rfl⟩) (wV rfl ?_)
      refine aa ?_
      refine VO.cond rfl dw ?_
      refine wV rfl ?_
      refine aa ?_
      refine VO.read rfl [.bool e.2.1,.slice bp e.2.2.1.length bc,.bool e.2.2.2.1,.slice br e.2.2.2.2.length bd] rfl (aK hc 4 _ ⟨[],rfl⟩) (wV rfl ?_)
      refine aa ?_
      refine VO.Sk (cK _ _) (t:=73) (e:=26) (sz:=4) (n:=2 + 2 * z) (c:=cap) (mm:=2) (known:=vs.flatten.map .val) (spare:=spare) (del:=some 24) (news:=([.bool e.1.1,.slice ap e.1.2.1.length ac,.bool e.1.2.2.1,.slice ar e.1.2.2.2.length ad,.bool e.2.1,.slice bp e.2.2.1.length bc,.bool e.2.2.2.1,.slice br e.2.2.2.2.length bd]:List Value).map .val) (dst:=43) rfl rfl rfl rfl rfl rfl rfl rfl (bu rfl) rfl (.inl (.inr ⟨24,rfl,rfl,rfl⟩)) (.inl rfl) (by rw [List.length_map,Ft,QX]) JA hzc hcc ⟨ai _,sH,rfl⟩ ⟨bh Fs,Ud,rfl⟩ rfl ab
       (fun w1 β k1 b1 ho=>⟨_,_,rfl,.inr ⟨β 42,0,rfl,df (rest:=[]) (ho.own 42 (.base (List.mem_append_right _ (List.mem_singleton.2 rfl))) _ _ rfl) rfl⟩⟩)
       (fun qG cap' aj ρ Nk Nl fJ jS iB ek pU eD=>wV rfl ?_)
      refine aa ?_
      have Cf:bL RrE qG (S::F::fl (l.take (z + 1))) (vs++[[.bool e.1.1,.slice ap e.1.2.1.length ac,.bool e.1.2.2.1,.slice ar e.1.2.2.2.length ad],[.bool e.2.1,.slice bp e.2.2.1.length bc,.bool e.2.2.2.1,.slice br e.2.2.2.2.length bd]]):=by
       rw [Ah he,<-List.cons_append,<-List.cons_append]
       exact (ko.kp js aU).append (.cons ⟨_,_,_,_,rfl⟩ (.cons ⟨_,_,_,_,rfl⟩ .nil))
      refine VS.back (N - (z + 1)) ab ⟨_,_,?_,?_,?_,?_,⟨z + 1,by omega,rfl,43,vs++[[.bool e.1.1,.slice ap e.1.2.1.length ac,.bool e.1.2.2.1,.slice ar e.1.2.2.2.length ad],[.bool e.2.1,.slice bp e.2.2.1.length bc,.bool e.2.2.2.1,.slice br e.2.2.2.2.length bd]],aj,cap',.inr rfl,rfl,rfl,Cf,by simpa using ek,by omega,iB,pU,eD⟩⟩
      ·refine ⟨rfl,rfl,?_,trivial⟩
       rw [<-aF (i:=z) ab];rfl
      ·exact ⟨congrArg (fun l=>some (_,l++aj)) cw,trivial⟩
      ·rfl
      ·exact ⟨.append (.vals _) (.none eD),trivial⟩
     ·refine VS.aQ rfl (decide_eq_false (fun e=>hlt (Int.ofNat_lt.1 e))) ?_
      have LK:z=N:=by omega
      rw [List.take_of_length_le ab] at ko
      refine aa ?_
      refine VO.ee rfl (fk Tryz.func26) (fun bD β cQ bG ho=>(lh _ (S::F::fl l) bD (im js (ho.own 24 (.base (List.mem_singleton.2 rfl)) _ _ rfl) spare rfl (ko.kp js aU) (by rw [List.length_cons,List.length_cons,rN];omega) hzc hcc) _ hb).mono ?_)
      rintro o w1 ⟨rfl,aI⟩
      refine ⟨_,rfl,aI,fun dt _ bb1=>wV rfl ?_⟩
      refine aa ?_
      refine aR ?_;intro wz kz bz
      exact ⟨by unfold nI;rw [hlen,hb];rfl,bz⟩
    ·refine aa ?_
     by_cases hlt:z < N
     ·obtain ⟨e,he⟩:∃ e,l[z]? =some e:=⟨_,List.getElem?_eq_getElem ab⟩
      obtain ⟨b,off,eW,fQ,hc,hE⟩:=hv.at he
      subst fQ
      obtain ⟨_,_,rfl,⟨ap,ac,ar,ad,rfl,-⟩,⟨bp,bc,br,bd,rfl,-⟩,-,-⟩:=hE
      obtain ⟨Fs,Ft⟩:=ko.ok js
      have QX:(S::F::fl (l.take z)).length=2 + 2 * z:=by rw [List.length_cons,List.length_cons,rN,List.length_take];omega
      refine VS.aP rfl (decide_eq_true (Int.ofNat_lt.2 hlt)) ?_
      refine aa ?_
      refine VO.cond rfl dw ?_
      refine wV rfl ?_
      refine aa ?_
      refine VO.read rfl [.bool e.1.1,.slice ap e.1.2.1.length ac,.bool e.1.2.2.1,.slice ar e.1.2.2.2.length ad] rfl (aK hc 0 _ ⟨_,rfl⟩) (wV rfl ?_)
      refine aa ?_
      refine VO.cond rfl dw ?_
      refine wV rfl ?_
      refine aa ?_
      refine VO.read rfl [.bool e.2.1,.slice bp e.2.2.1.length bc,.bool e.2.2.2.1,.slice br e.2.2.2.2.length bd] rfl (aK hc 4 _ ⟨[],rfl⟩) (wV rfl ?_)
      refine aa ?_
      refine VO.Sk (cK _ _) (t:=73) (e:=26) (sz:=4) (n:=2 + 2 * z) (c:=cap) (mm:=2) (known:=vs.flatten.map .val) (spare:=spare) (del:=some 43) (news:=([.bool e.1.1,.slice ap e.1.2.1.length ac,.bool e.1.2.2.1,.slice ar e.1.2.2.2.length ad,.bool e.2.1,.slice bp e.2.2.1.length bc,.bool e.2.2.2.1,.slice br e.2.2.2.2.length bd]:List Value).map .val) (dst:=43) rfl rfl rfl rfl rfl rfl rfl rfl (bu rfl) rfl (.inl (.inr ⟨43,rfl,rfl,rfl⟩)) (.inr rfl) (by rw [List.length_map,Ft,QX]) JA hzc hcc ⟨ai _,sH,rfl⟩ ⟨bh Fs,Ud,rfl⟩ rfl ab
       (fun w1 β k1 b1 ho=>⟨_,_,rfl,.inr ⟨β 42,0,rfl,df (rest:=[]) (ho.own 42 (.base (List.mem_append_right _ (List.mem_singleton.2 rfl))) _ _ rfl) rfl⟩⟩)
       (fun qG cap' aj ρ Nk Nl fJ jS iB ek pU eD=>wV rfl ?_)
      refine aa ?_
      have Cf:bL RrE qG (S::F::fl (l.take (z + 1))) (vs++[[.bool e.1.1,.slice ap e.1.2.1.length ac,.bool e.1.2.2.1,.slice ar e.1.2.2.2.length ad],[.bool e.2.1,.slice bp e.2.2.1.length bc,.bool e.2.2.2.1,.slice br e.2.2.2.2.length bd]]):=by
       rw [Ah he,<-List.cons_append,<-List.cons_append]
       exact (ko.kp js aU).append (.cons ⟨_,_,_,_,rfl⟩ (.cons ⟨_,_,_,_,rfl⟩ .nil))
      refine VS.back (N - (z + 1)) ab ⟨_,_,?_,?_,?_,?_,⟨z + 1,by omega,rfl,43,vs++[[.bool e.1.1,.slice ap e.1.2.1.length ac,.bool e.1.2.2.1,.slice ar e.1.2.2.2.length ad],[.bool e.2.1,.slice bp e.2.2.1.length bc,.bool e.2.2.2.1,.slice br e.2.2.2.2.length bd]],aj,cap',.inr rfl,rfl,rfl,Cf,by simpa using ek,by omega,iB,pU,eD⟩⟩
      ·refine ⟨rfl,rfl,?_,trivial⟩
       rw [<-aF (i:=z) ab];rfl
      ·exact ⟨congrArg (fun l=>some (_,l++aj)) cw,trivial⟩
      ·rfl
      ·exact ⟨.append (.vals _) (.none eD),trivial⟩
     ·refine VS.aQ rfl (decide_eq_false (fun e=>hlt (Int.ofNat_lt.1 e))) ?_
      have LK:z=N:=by omega
      rw [List.take_of_length_le ab] at ko
      refine aa ?_
      refine VO.ee rfl (fk Tryz.func26) (fun bD β cQ bG ho=>(lh _ (S::F::fl l) bD (im js (ho.own 43 (.base (List.mem_singleton.2 rfl)) _ _ rfl) spare rfl (ko.kp js aU) (by rw [List.length_cons,List.length_cons,rN];omega) hzc hcc) _ hb).mono ?_)
      rintro o w1 ⟨rfl,aI⟩
      refine ⟨_,rfl,aI,fun dt _ bb1=>wV rfl ?_⟩
      refine aa ?_
      refine aR ?_;intro wz kz bz
      exact ⟨by unfold nI;rw [hlen,hb];rfl,bz⟩
   ·refine VS.aP rfl (decide_eq_true (show (N:Int) > 60 by omega)) ?_
    refine aa ?_
    refine aR ?_;intro wz kz bz
    exact ⟨by unfold nI yf;rw [<-hN,decide_eq_false Ea,decide_eq_false h60,Bool.and_false];rfl,bz⟩
theorem JB (v u:Value) (S F:RR) (keep:Int) (l:List (RR×RR)) (kk:Nat) (w:World) (hR:fN w v S F keep) (hv:cO (si kk) 8 w u l) (b:Bool) (hb:nI S F l=b):
 Calls Tryz.prog 8 #[v,u] w fun o w'=>o=.returned (.bool b)/\aL w w':=hb▸Qr v u S F keep l kk w hR hv
theorem Qs {S F:RR} {l:List (RR×RR)} (h:nI S F l=true):l.length≤12\/(40 < l.length/\l.length≤60):=by
 unfold nI yf at h
 rw [Bool.and_eq_true,Bool.or_eq_true,Bool.and_eq_true,decide_eq_true_iff,decide_eq_true_iff,decide_eq_true_iff] at h
 exact h.1
theorem Eo {S F:RR} {l:List (RR×RR)} (h:nI S F l=true):S.jF 3/\F.jF 3/\∀ e∈l,e.1.jF 3/\e.2.jF 3:=by
 unfold nI at h
 rw [Bool.and_eq_true] at h
 have h2:∀ x∈(S::F::fl l),x.jF 3:=fun x hx=>by
  have:=List.all_eq_true.1 h.2 x hx
  unfold vQ at this
  rwa [Bool.and_eq_true,decide_eq_true_iff,decide_eq_true_iff] at this
 refine ⟨h2 S cw,h2 F cw,fun e he=>⟨h2 _ ?_,h2 _ ?_⟩⟩
 ·exact List.mem_cons_of_mem _ (List.mem_cons_of_mem _ (List.mem_flatMap.2 ⟨e,he,by simp⟩))
 ·exact List.mem_cons_of_mem _ (List.mem_cons_of_mem _ (List.mem_flatMap.2 ⟨e,he,by simp⟩))
theorem Ue {S F:RR} {l:List (RR×RR)} {kk:Nat} {w:World} {v:Value} (h:nI S F l=true) (hv:cO (si kk) 8 w v l):cO (si 3) 8 w v l:=by
 have h3:=(Eo h).2.2
 refine hv.mono fun i a cs ha he=> ?_
 have hm:=h3 a (List.mem_of_getElem? ha)
 obtain ⟨x,y,e,f1,f2,-⟩:=he
 exact ⟨x,y,e,f1,f2,hm.1,hm.2⟩
set_option maxRecDepth 4000
structure ed where
 aW:RR
 allowed:RR
 aE:RR
 used:RR
 au:RR
 ao:RR
 closing:RR
def ed.q (r:ed):aM:=⟨r.aW.q,r.allowed.q,r.aE.q,r.used.q,r.au.q,r.ao.q,r.closing.q⟩
abbrev dD:=Int×Int×RR
def dD.q (e:dD):Int×Int×Rat:=(e.1,e.2.1,e.2.2.q)
def Rw (kk:Nat) (w:World) (cs:List Value) (x:RR):Prop:=xo w cs x/\x.jF kk
theorem Rw.kp {T:TypeId->Bool} {kk:Nat} {w w':World} {cs:List Value} {x:RR} (h:Rw kk w cs x) (k:bH ⟨UU,fun _=>True,T⟩ w w'):Rw kk w' cs x:=⟨h.1.kp k,h.2⟩
theorem Rw.mono {kk k':Nat} {w:World} {cs:List Value} {x:RR} (h:Rw kk w cs x) (k:kk≤k'):Rw k' w cs x:=⟨h.1,Nat.le_trans h.2.1 k,Nat.le_trans h.2.2 k⟩
def lS (kk:Nat) (w:World) (cs:List Value) (r:ed):Prop:=
 ∃ a b c d e f g:List Value,cs=a++(b++(c++(d++(e++(f++g)))))/\Rw kk w a r.aW/\Rw kk w b r.allowed/\Rw kk w c r.aE/\Rw kk w d r.used/\Rw kk w e r.au/\Rw kk w f r.ao/\Rw kk w g r.closing
def na (kk:Nat) (w:World) (cs:List Value) (e:dD):Prop:=∃ a,cs=[.int .i64 e.1,.int .i64 e.2.1]++a/\Rw kk w a e.2.2
theorem dH (kk:Nat):gL (lS kk) 28 where
 kp:=fun h k=>by
  obtain ⟨a,b,c,d,e,f,g,h0,h1,h2,h3,h4,h5,h6,h7⟩:=h
  exact ⟨a,b,c,d,e,f,g,h0,h1.kp k,h2.kp k,h3.kp k,h4.kp k,h5.kp k,h6.kp k,h7.kp k⟩
 len:=fun h=>by
  obtain ⟨a,b,c,d,e,f,g,rfl,h1,h2,h3,h4,h5,h6,h7⟩:=h
  simp only [List.length_append,h1.1.len,h2.1.len,h3.1.len,h4.1.len,h5.1.len,h6.1.len,h7.1.len]
 ok:=fun h=>by
  obtain ⟨a,b,c,d,e,f,g,rfl,h1,h2,h3,h4,h5,h6,h7⟩:=h
  simp only [List.all_append,h1.1.ok,h2.1.ok,h3.1.ok,h4.1.ok,h5.1.ok,h6.1.ok,h7.1.ok,Bool.and_self]
theorem eH (kk:Nat):gL (na kk) 6 where
 kp:=fun h k=>by
  obtain ⟨a,h0,h1⟩:=h
  exact ⟨a,h0,h1.kp k⟩
 len:=fun h=>by obtain ⟨a,rfl,h1⟩:=h;rw [List.length_append,h1.1.len];rfl
 ok:=fun h=>by obtain ⟨a,rfl,h1⟩:=h;rw [List.all_append,h1.1.ok];rfl
def mL (kk:Nat) (w:World) (r u:Value) (X:List ed×List dD):Prop:=cO (lS kk) 28 w r X.1/\cO (na kk) 6 w u X.2
theorem mL.bo {kk:Nat} {w w':World} {r u:Value} {X:List ed×List dD} (h:mL kk w r u X) (b:aL w w'):mL kk w' r u X:=⟨h.1.bo (dH kk) b,h.2.bo (eH kk) b⟩
theorem Qt {kk k':Nat} {w:World} {cs:List Value} {r:ed} (h:lS kk w cs r) (k:kk≤k'):lS k' w cs r:=by
 obtain ⟨a,b,c,d,e,f,g,h0,h1,h2,h3,h4,h5,h6,h7⟩:=h
 exact ⟨a,b,c,d,e,f,g,h0,h1.mono k,h2.mono k,h3.mono k,h4.mono k,h5.mono k,h6.mono k,h7.mono k⟩
theorem Qu {kk k':Nat} {w:World} {cs:List Value} {e:dD} (h:na kk w cs e) (k:kk≤k'):na k' w cs e:=by
 obtain ⟨a,h0,h1⟩:=h
 exact ⟨a,h0,h1.mono k⟩
theorem mL.mono {kk k':Nat} {w:World} {r u:Value} {X:List ed×List dD} (h:mL kk w r u X) (k:kk≤k'):mL k' w r u X:=⟨h.1.mono fun _ _ _ _ he=>Qt he k,h.2.mono fun _ _ _ _ he=>Qu he k⟩
def Uf (r:aM):ed:=⟨qC r.aW,qC r.allowed,qC r.aE,qC r.used,qC r.au,qC r.ao,qC r.closing⟩
def Ug (e:Uq):dD:=((e.1:Int),(e.2.1:Int),qC e.2.2)
def rO (x:List aM×List Uq):List ed×List dD:=(x.1.map Uf,x.2.map Ug)
def RowSz (kk:Nat) (r:aM):Prop:=et r.aW kk/\et r.allowed kk/\et r.aE kk/\et r.used kk/\et r.au kk/\et r.ao kk/\et r.closing kk
def LedSz (kk:Nat) (x:List aM×List Uq):Prop:=(∀ r∈x.1,RowSz kk r)/\∀ e∈x.2,et e.2.2 kk
theorem R4.rw {B kk:Nat} {w:World} {cs:List Value} {q:Rat} (h:R4 B w cs q) (hs:et q kk):Rw kk w cs (qC q):=by
 obtain ⟨s,p,n,c,t,r,m,d,rfl,h1⟩:=h
 exact ⟨h1.rd.LP,pZ hs⟩
theorem row7_in {B kk:Nat} {w:World} {cs:List Value} {r:aM} (h:eI B w cs r) (hs:RowSz kk r):lS kk w cs (Uf r):=by
 obtain ⟨a,b,c,d,e,f,g,h0,h1,h2,h3,h4,h5,h6,h7⟩:=h
 obtain ⟨s1,s2,s3,s4,s5,s6,s7⟩:=hs
 exact ⟨a,b,c,d,e,f,g,h0,h1.rw s1,h2.rw s2,h3.rw s3,h4.rw s4,h5.rw s5,h6.rw s6,h7.rw s7⟩
theorem use_in {B kk:Nat} {w:World} {cs:List Value} {e:Uq} (h:qy B w cs e) (hs:et e.2.2 kk):na kk w cs (Ug e):=by
 obtain ⟨s,p,n,c,t,r,m,d,rfl,h1⟩:=h
 exact ⟨_,rfl,h1.rd.LP,pZ hs⟩
theorem Uh {α α':Type} {E:World->List Value->α->Prop} {E':World->List Value->α'->Prop} {sz:Nat} (hE:gL E sz) {t:TypeId} {w:World} {b:Nat} {v:Value} {es:List α} (f:α->α') (h:SlZ E sz t w b v es) (hf:∀ cs,∀ e∈es,E w cs e->E' w cs (f e)):cO E' sz w v (es.map f):=by
 obtain ⟨n,c,vs,sp,rfl,hc,ho⟩:=h
 have hn:n=es.length:=ho.len
 subst hn
 refine ⟨_,_,by rw [List.length_map],by rw [List.length_map];exact ho.le,by simpa [maxLen] using ho.cm,fun i a ha=> ?_⟩
 rw [List.getElem?_map] at ha
 obtain ⟨e,he,rfl⟩:=Option.map_eq_some_iff.1 ha
 obtain ⟨cs,hcs,hEx⟩:=ho.el.at i e he
 refine ⟨b,0,cs,rfl,fun j u hj=> ?_,hf _ _ (List.mem_of_getElem? he) hEx⟩
 refine hc.cell ?_
 have iI:cs.length=sz:=hE.len hEx
 have hjl:=(List.getElem?_eq_some_iff.1 hj).1
 obtain ⟨hlt,hxx⟩:=List.getElem?_eq_some_iff.1 hcs
 have CO:vs=vs.take i++cs::vs.drop (i + 1):=by rw [<-hxx,<-List.drop_eq_getElem_cons hlt,List.take_append_drop]
 have hal:(vs.take i).flatten.length=i * sz:=by
  rw [dB (fun y hy=>ho.el.lens hE y (List.mem_of_mem_take hy)),List.length_take,Nat.min_eq_left ab]
 rw [List.getElem?_toArray,CO,List.flatten_append,List.append_assoc,List.getElem?_append_right ab,hal,List.flatten_cons,List.append_assoc,show 0 + i * sz + j - i * sz=j by omega,List.getElem?_append_left hjl]
 exact hj
theorem vO.inI {B kk:Nat} {w:World} {r u:Value} {x:List aM×List Uq} (h:vO B w r u x) (hs:LedSz kk x):mL kk w r u (rO x):=by
 refine ⟨?_,?_⟩
 ·rcases h.1 with ⟨rfl,e⟩ | ⟨rb,_,h3⟩
  ·unfold rO;rw [e];exact cO.nil _ _ _
  ·exact Uh (aA B) Uf h3 fun cs e he hE=>row7_in hE (hs.1 e he)
 ·rcases h.2 with ⟨rfl,e⟩ | ⟨rb,_,h3⟩
  ·unfold rO;rw [e];exact cO.nil _ _ _
  ·exact Uh (eh B) Ug h3 fun cs e he hE=>use_in hE (hs.2 e he)
def pq (c:Bool) (x:RR):Rat:=if c then x.q else 0
def ofS (v:Int) (us:List dD):Rat:=jT (us.map fun e=>pq (decide (e.1=v)) e.2.2)
theorem kN {us:List dD} (f:dD->Rat) {z:Nat} {e:dD} (h:us[z]? =some e):jT ((us.take (z + 1)).map f)=jT ((us.take z).map f) + f e:=by
 rw [List.map_take,List.map_take]
 exact xe (by rw [List.getElem?_map,h];rfl)
theorem RR.sz {x:RR} {w:World} {cs:List Value} {kk:Nat} (h:Rw kk w cs x):et x.q (fj kk):=by
 obtain ⟨p,c,r,d,rfl,h1⟩:=h.1
 exact (h1.iq h.2).sG
theorem ofS_sz {us:List dD} {kk:Nat} {w:World} {f:dD->Bool} {z:Nat} (h:∀ e∈us,∃ cs,Rw kk w cs e.2.2) (hz:z≤us.length):et (jT ((us.take z).map fun e=>pq (f e) e.2.2)) (eu kk z):=by
 induction z with
 | zero=>exact et.zero.mono (by unfold eu;omega)
 | succ z ih=>
   obtain ⟨e,he⟩:∃ e,us[z]? =some e:=⟨_,List.getElem?_eq_getElem ab⟩
   rw [kN _ he,rE]
   refine (ih ab).add ?_
   obtain ⟨cs,hcs⟩:=h e (List.mem_of_getElem? he)
   unfold pq
   split
   ·exact RR.sz hcs
   ·exact et.zero.mono (by unfold fj;omega)
theorem cO.rws {us:List dD} {kk:Nat} {w:World} {v:Value} (h:cO (na kk) 6 w v us):∀ e∈us,∃ cs,Rw kk w cs e.2.2:=fun e he=>by
 obtain ⟨i,hi,hx⟩:=List.mem_iff_getElem.1 he
 obtain ⟨p,c,rfl,_,_⟩:=h.form
 obtain ⟨_,_,cs,_,_,a,_,ha⟩:=h.at (i:=i) (a:=e) (by rw [List.getElem?_eq_getElem hi,hx])
 exact ⟨a,ha⟩
set_option maxRecDepth 4000 in
theorem iOf_any (r u:Value) (X:List ed×List dD) (v:Int) (kk:Nat) (w:World) (h:mL kk w r u X) (hk:kk≤10000) (hn:X.2.length≤1000):
  Calls Tryz.prog 15 #[.agg #[r,u],.int .i64 v] w fun o w'=>∃ x,o=.returned x/\aH w' w.heap.size x (ofS v X.2)/\aL w w':=by
 obtain ⟨us,Ca⟩:∃ us,X.2=us:=⟨_,rfl⟩
 obtain ⟨hr,h2⟩:=h
 obtain ⟨rp,rc,rfl,-,-⟩:=hr.form
 rw [Ca] at hn h2 ⊢
 obtain ⟨q,c,rfl,fE,fX⟩:=h2.form
 obtain ⟨n,hnn⟩:∃ n,n=us.length:=⟨_,rfl⟩
 rw [<-hnn] at h2 fE hn
 rw [<-hnn]
 have hsz:∀ z,z≤us.length->et (ofS v (us.take z)) (eu kk z):=fun z hz=>ofS_sz (f:=fun e=>decide (e.1=v)) (h2.rws) hz
 refine ag (C:=bP Tryz.prog w _) (args:=[_,_]) Tryz.func15 rfl Tryz.ntmps15 (bu rfl) ?_
 refine aa ?_
 refine VO.call rfl rfl (fk Tryz.func44) (fun bD cQ bG=>(bX 0 bD ab ab).mono ?_)
 rintro e w1 ⟨r1,rfl,q1,aI⟩
 obtain ⟨s1,p1,n1,c1,t1,y1,m1,d1,rfl⟩:=q1.form
 refine ⟨_,rfl,aI,fun dt _ bb1=>wV rfl ?_⟩
 refine aa ?_
 refine VS.loop (J:=fun m L M w'=>∃ (z:Nat) (s:Bool) (p':Option Addr) (n' c':Nat) (t:Bool) (y:Option Addr) (m' d:Nat),z≤n/\m=n - z/\L=[(1,.val (.int .i64 v)),(4,.box 4 0),(5,.box 5 0),(10,.val (.slice q n c)),(11,.val (.int .i64 (n:Int))),(12,.val (.int .i64 (z:Int)))]/\
   M=[(4,(26,([.bool false,.slice none 0 0,.bool false,.slice none 0 0]:List Value).map .val)),(5,(26,([.bool s,.slice p' n' c',.bool t,.slice y m' d]:List Value).map .val))]/\aH w' w.heap.size (.agg #[.bool s,.slice p' n' c',.bool t,.slice y m' d]) (ofS v (us.take z))) n
  ⟨_,_,?_,?_,?_,?_,⟨0,_,_,_,_,_,_,_,_,by omega,rfl,rfl,rfl,(q1.k).mono bG.size⟩⟩ ?_
 ·exact cd
 ·exact cd
 ·rfl
 ·exact iD
 rintro m L M w9 ⟨z,s,p',n',c',t,y,m',d,hz,rfl,rfl,rfl,ho⟩
 refine aa ?_
 by_cases hlt:z < n
 ·obtain ⟨e,he⟩:∃ e,us[z]? =some e:=⟨_,List.getElem?_eq_getElem ab⟩
  obtain ⟨b,off,eW,fQ,hc,⟨_,rfl,⟨ap,ac,ar,ad,rfl,tr⟩,LS⟩⟩:=h2.at he
  subst fQ
  refine VS.aP rfl (decide_eq_true (Int.ofNat_lt.2 hlt)) ?_
  refine aa ?_
  refine VO.cond rfl dw ?_
  refine wV rfl ?_
  refine aa ?_
  refine VO.read rfl [.int .i64 e.1,.int .i64 e.2.1,.bool e.2.2.1,.slice ap e.2.2.2.1.length ac,.bool e.2.2.2.2.1,.slice ar e.2.2.2.2.2.length ad] rfl (aK hc 0 _ ⟨[],rfl⟩) (wV rfl ?_)
  refine aa ?_
  have yv:ofS v (us.take (z + 1))=ofS v (us.take z) + pq (decide (e.1=v)) e.2.2:=kN _ he
  by_cases hv:e.1=v
  ·refine VS.aP rfl (decide_eq_true hv) ?_
   rw [decide_eq_true hv] at yv
   have hzz:eu kk z≤67108864:=by
    have hzl:z≤1000:=by omega
    have h1:=xf (k:=kk) hzl
    have h3:fj kk≤10001:=by unfold fj;omega
    have h4:eu kk 1000=1 + 1000 * (fj kk + 1):=rfl
    omega
   refine aa ?_
   refine VO.call rfl rfl (fk Tryz.func16) (fun cG dQ cV=>(fx _ _ (ofS v (us.take z)) e.2.2.q (eu kk z) kk cG (ho.ki (hsz z ab)) ((tr.kp (Kp.of (U:=UU) cV)).iq LS) hzz ab).mono ?_)
   rintro e w2 ⟨r2,rfl,q2,ba⟩
   obtain ⟨s2,p2,n2,c2,t2,y2,m2,d2,rfl⟩:=q2.form
   refine ⟨_,rfl,ba,fun dR _ bb2=>wV rfl ?_⟩
   refine aa ?_
   refine VS.back (n - (z + 1)) ab ⟨_,_,?_,?_,?_,?_,⟨z + 1,_,_,_,_,_,_,_,_,by omega,rfl,rfl,rfl,yv▸(q2.k).mono cV.size⟩⟩
   ·refine ⟨rfl,rfl,rfl,rfl,rfl,?_,trivial⟩
    rw [<-aF (i:=z) ab];rfl
   ·exact cd
   ·rfl
   ·exact iD
  ·refine VS.aQ rfl (decide_eq_false hv) ?_
   rw [decide_eq_false hv,show pq false e.2.2=0 from rfl,Rat.add_zero] at yv
   refine aa ?_
   refine VS.back (n - (z + 1)) ab ⟨_,_,?_,?_,?_,?_,⟨z + 1,_,_,_,_,_,_,_,_,by omega,rfl,rfl,rfl,yv▸ho.k⟩⟩
   ·refine ⟨rfl,rfl,rfl,rfl,rfl,?_,trivial⟩
    rw [<-aF (i:=z) ab];rfl
   ·exact cd
   ·rfl
   ·exact iD
 ·refine VS.aQ rfl (decide_eq_false (fun e=>hlt (Int.ofNat_lt.1 e))) ?_
  refine aa ?_
  refine aR ?_;intro wz kz bz
  rw [List.take_of_length_le ab] at ho
  exact ⟨_,rfl,ho.kp kz,bz⟩
end
section
open Go.RowKit
theorem xw (x:Rat) (l:List Rat):jT (x::l)=x + jT l:=by
 unfold jT
 rw [List.foldl_cons]
 have:∀ (l:List Rat) (a b:Rat),l.foldl (·+ ·) (a + b)=a + l.foldl (·+ ·) b:=by
  intro l
  induction l with
  | nil=>intro a b;rfl
  | cons y r ih=>intro a b;rw [List.foldl_cons,List.foldl_cons,Rat.add_assoc,ih]
 rw [show (0:Rat) + x=x + 0 by grind,this]
theorem JC (l m:List Rat):jT (l++m)=jT l + jT m:=by
 induction l with
 | nil=>show jT m=0 + jT m;grind
 | cons x l ih=>rw [List.cons_append,xw,xw,ih];grind
def gs (f:Uq->Rat) (us:List Uq):Rat:=jT (us.map f)
theorem Ui (f:Uq->Rat):gs f []=0:=rfl
theorem sn (f:Uq->Rat) (e:Uq) (us:List Uq):gs f (e::us)=f e + gs f us:=by unfold gs;rw [List.map_cons,xw]
theorem oY (f:Uq->Rat) (a b:List Uq):gs f (a++b)=gs f a + gs f b:=by unfold gs;rw [List.map_append,JC]
theorem sq {f:Uq->Rat}:∀ {us:List Uq},(∀ e∈us,f e=0)->gs f us=0
 | [],_=>rfl
 | e::us,h=>by rw [sn,h e cw,sq (fun x hx=>h x (by simp [hx]))];grind
theorem JD {f g:Uq->Rat}:∀ {us:List Uq},(∀ e∈us,f e=g e)->gs f us=gs g us
 | [],_=>rfl
 | e::us,h=>by rw [sn,sn,h e cw,JD (fun x hx=>h x (by simp [hx]))]
theorem Uj {f:Uq->Rat}:∀ {us:List Uq},(∀ e∈us,0≤f e)->0≤gs f us
 | [],_=>Rat.le_refl
 | e::us,h=>by rw [sn];have:=h e cw;have:=Uj (f:=f) (us:=us) (fun x hx=>h x (by simp [hx]));grind
def vn (v:Nat) (e:Uq):Rat:=if e.1=v then e.2.2 else 0
def bf (v y:Nat) (e:Uq):Rat:=if e.1=v/\e.2.1 < y then e.2.2 else 0
def Lex (a b:Uq):Prop:=a.2.1 < b.2.1\/(a.2.1=b.2.1/\a.1 < b.1)
theorem Ai (y:Nat):∀ {k:Nat} {l:List Rat} {m:Rat} {e:Uq},e∈rF y (bI k l) m->e.2.1=y/\0 < e.2.2/\k≤e.1/\e.1 < k + l.length
 | k,[],m,e,h=>by cases h
 | k,x::l,m,e,h=>by
   have h':e∈(if 0 < ae x m then [(k,y,ae x m)] else [])++rF y (bI (k + 1) l) (m - ae x m):=h
   rcases List.mem_append.1 h' with h1 | h1
   ·by_cases hp:0 < ae x m
    ·rw [if_pos hp,List.mem_singleton] at h1
     subst h1
     exact ⟨rfl,hp,Nat.le_refl _,by show k < k + (x::l).length;simp⟩
    ·rw [if_neg hp] at h1;cases h1
   ·obtain ⟨a,b,c,d⟩:=Ai y h1
    exact ⟨a,b,by omega,by rw [List.length_cons];omega⟩
theorem FL {a b:Rat} (h:0≤a) (k:0≤b):0≤ae a b:=by rcases ct a b with ⟨e,_⟩ | ⟨e,_⟩ <;> rw [e] <;> assumption
theorem tb_head {y k v:Nat} {r:Rat} (hr:0≤r):gs (vn v) (if 0 < r then [((k,y,r):Uq)] else [])=if k=v then r else 0:=by
 by_cases hp:0 < r
 ·rw [if_pos hp,sn,Ui]
  show (if k=v then r else 0) + 0=_
  grind
 ·rw [if_neg hp,Ui]
  have:r=0:=by grind
  rw [this];simp
theorem Uk (y:Nat):∀ {k:Nat} {l:List Rat} {m:Rat} {i:Nat} {x:Rat},(∀ z∈l,0≤z)->0≤m->((qI (bI k l) m).map (·.2))[i]? =some x->∃ z,l[i]? =some z/\x=z - gs (vn (k + i)) (rF y (bI k l) m)
 | k,[],m,i,x,_,_,h=>by cases h
 | k,z::l,m,i,x,hn,hm,h=>by
   have hz:=hn z cw
   have hr:=FL hz hm
   have Kf:=cJ z m
   have e1:rF y (bI k (z::l)) m=(if 0 < ae z m then [((k,y,ae z m):Uq)] else [])++rF y (bI (k + 1) l) (m - ae z m):=rfl
   have e2:(qI (bI k (z::l)) m).map (·.2)=(z - ae z m)::(qI (bI (k + 1) l) (m - ae z m)).map (·.2):=rfl
   rw [e2] at h
   rw [e1,oY,tb_head hr]
   cases i with
   | zero=>
     rw [List.getElem?_cons_zero] at h
     cases h
     refine ⟨z,rfl,?_⟩
     have:gs (vn (k + 0)) (rF y (bI (k + 1) l) (m - ae z m))=0:=sq fun e he=>by
      have:=Ai y he
      unfold vn
      rw [if_neg ab]
     rw [this,if_pos (Nat.add_zero k).symm];grind
   | succ i=>
     rw [List.getElem?_cons_succ] at h
     obtain ⟨z',JZ,e⟩:=Uk y (fun z hz=>hn z (by simp [hz])) dp h
     refine ⟨z',by rw [List.getElem?_cons_succ];exact JZ,?_⟩
     rw [e,if_neg ab,show k + 1 + i=k + (i + 1) by omega];grind
theorem Nw (y:Nat):∀ {k:Nat} {l:List Rat} {m:Rat},(rF y (bI k l) m).Pairwise Lex
 | k,[],m=>List.Pairwise.nil
 | k,z::l,m=>by
   have e1:rF y (bI k (z::l)) m=(if 0 < ae z m then [((k,y,ae z m):Uq)] else [])++rF y (bI (k + 1) l) (m - ae z m):=rfl
   rw [e1,List.pairwise_append]
   refine ⟨?_,Nw y,fun a ha b hb=> ?_⟩
   ·split
    ·exact List.pairwise_singleton _ _
    ·exact List.Pairwise.nil
   ·obtain ⟨b1,_,b2,_⟩:=Ai y hb
    split at ha
    ·rw [List.mem_singleton] at ha
     subst ha
     exact .inr ⟨b1.symm,by show k < b.1;omega⟩
    ·cases ha
theorem Ul:∀ {t:List Vq} {m:Rat},(∀ p∈t,0≤p.2)->0≤m->0≤xg t m/\xg t m≤m
 | [],m,_,hm=>⟨Rat.le_refl,hm⟩
 | p::t,m,h,hm=>by
   have hr:=FL (h p cw) hm
   have Kf:=cJ p.2 m
   obtain ⟨a,b⟩:=Ul (t:=t) (m:=m - ae p.2 m) (fun x hx=>h x (by simp [hx])) dp
   rw [oO]
   exact ⟨by grind,by grind⟩
theorem Un (y:Nat):∀ {k:Nat} {l:List Rat} {m:Rat} {e:Uq} {i:Nat} {x:Rat},(∀ z∈l,0≤z)->0≤m->e∈rF y (bI k l) m->k + i < e.1->((qI (bI k l) m).map (·.2))[i]? =some x->x=0
 | k,[],m,e,i,x,_,_,he,_,_=>by cases he
 | k,z::l,m,e,i,x,hn,hm,he,hi,hx=>by
   have hz:=hn z cw
   have hr:=FL hz hm
   have Kf:=cJ z m
   have e2:(qI (bI k (z::l)) m).map (·.2)=(z - ae z m)::(qI (bI (k + 1) l) (m - ae z m)).map (·.2):=rfl
   have qi:e∈(if 0 < ae z m then [((k,y,ae z m):Uq)] else [])++rF y (bI (k + 1) l) (m - ae z m):=he
   rw [e2] at hx
   have EN:e∈rF y (bI (k + 1) l) (m - ae z m):=by
    rcases List.mem_append.1 qi with h1 | h1
    ·split at h1
     ·rw [List.mem_singleton] at h1;subst h1;exact absurd hi (by show ¬ k + i < k;omega)
     ·cases h1
    ·exact h1
   cases i with
   | zero=>
     rw [List.getElem?_cons_zero] at hx
     cases hx
     rcases ct z m with ⟨e,_⟩ | ⟨e,_⟩
     ·rw [e];grind
     ·rw [e,show m - m=(0:Rat) by grind,(Ad y (t:=bI (k + 1) l) (fun p hp=>hn _ (by simp [(lg hp).2.2]))).1] at EN
      cases EN
   | succ i=>
     rw [List.getElem?_cons_succ] at hx
     exact Un y (fun z hz=>hn z (by simp [hz])) dp EN ab hx
structure RowOk (S F:Rat) (e:Rat×Rat) (r:aM):Prop where
 lim:r.aW=ay S F e.2
 alw:r.allowed=ae e.1 r.aW
 den:r.aE=e.1 - r.allowed
 us0:0≤r.used
 us1:r.used≤r.aW - r.allowed
 ded:r.au=r.allowed + r.used
 ex0:0≤r.ao
structure LU (S F:Rat) (kn d:Nat) (l:List (Rat×Rat)) (s:CQ):Prop where
 len:s.left.length=s.rows.length
 rln:s.rows.length=l.length
 cons:∀ (v:Nat) (x:Rat),s.left[v]? =some x->∃ r,s.rows[v]? =some r/\x=r.aE - r.ao - gs (vn v) s.uses
 nn:∀ x∈s.left,0≤x
 row:∀ (i:Nat) (r:aM),s.rows[i]? =some r->∃ e,l[i]? =some e/\RowOk S F e r
 exp:∀ (i:Nat) (r:aM),s.rows.length≤i + kn + d->s.rows[i]? =some r->r.ao=0
 use:∀ u∈s.uses,0 < u.2.2/\u.1 < u.2.1/\u.2.1≤u.1 + kn/\u.2.1 < s.rows.length
 sort:s.uses.Pairwise Lex
 old:∀ u∈s.uses,∀ (v:Nat) (r:aM),u.2.1≤v + kn->v < u.1->s.rows[v]? =some r->r.aE - gs (bf v (u.2.1 + 1)) s.uses≤0
theorem ti_exp {S F:Rat} {kn n:Nat} {l:List (Rat×Rat)} {s:CQ} (h:LU S F kn 1 l s) (hn:s.rows.length=n + 1):LU S F kn 0 l (qx kn n s):=by
 unfold qx
 by_cases hk:kn≤n
 ·rw [if_pos hk]
  obtain ⟨j,hj⟩:∃ j,j=n - kn:=⟨_,rfl⟩
  rw [<-hj]
  have hlj:j < s.left.length:=by rw [h.len];omega
  obtain ⟨x,hx⟩:∃ x,s.left[j]? =some x:=⟨_,List.getElem?_eq_getElem hlj⟩
  have Rg:s.left.getD j 0=x:=by rw [List.getD_eq_getElem?_getD,hx];rfl
  rw [Rg]
  have iA:=h.nn x (List.mem_of_getElem? hx)
  refine ⟨?_,?_,fun v z hv=> ?_,fun z hz=> ?_,fun i r hr=> ?_,fun i r hi hr=> ?_,fun u hu=> ?_,h.sort,fun u hu v r h1 h2 hr=> ?_⟩
  ·show (s.left.set j 0).length=(s.rows.modify j _).length
   rw [List.length_set,List.length_modify];exact h.len
  ·show (s.rows.modify j _).length=_
   rw [List.length_modify];exact h.rln
  ·dsimp only at hv ⊢
   by_cases e:j=v
   ·subst e
    rw [List.getElem?_set_self hlj] at hv
    cases hv
    obtain ⟨r,hr,he⟩:=h.cons j x hx
    refine ⟨{ r with ao:=x },by rw [BP rfl,hr];rfl,?_⟩
    have:=h.exp j r ab hr
    show (0:Rat)=r.aE - x - _
    grind
   ·rw [List.getElem?_set_ne e] at hv
    obtain ⟨r,hr,he⟩:=h.cons v z hv
    exact ⟨r,by rw [vB e];exact hr,he⟩
  ·rcases List.mem_or_eq_of_mem_set hz with h' | h'
   ·exact h.nn z h'
   ·rw [h'];exact Rat.le_refl
  ·dsimp only at hr
   by_cases e:j=i
   ·rw [BP e] at hr
    obtain ⟨r',qn,rfl⟩:=Option.map_eq_some_iff.1 hr
    obtain ⟨y,hy,a⟩:=h.row i r' qn
    exact ⟨y,hy,a.lim,a.alw,a.den,a.us0,a.us1,a.ded,iA⟩
   ·rw [vB e] at hr
    exact h.row i r hr
  ·dsimp only at hr hi
   rw [List.length_modify] at hi
   rw [vB ab] at hr
   exact h.exp i r ab hr
  ·have:=h.use u hu
   show _/\_/\_/\_ < (s.rows.modify j _).length
   rw [List.length_modify];exact this
  ·dsimp only at hr ⊢
   by_cases e:j=v
   ·rw [BP e] at hr
    obtain ⟨r',qn,rfl⟩:=Option.map_eq_some_iff.1 hr
    exact h.old u hu v r' h1 h2 qn
   ·rw [vB e] at hr
    exact h.old u hu v r h1 h2 hr
 ·rw [if_neg hk]
  exact ⟨h.len,h.rln,h.cons,h.nn,h.row,fun i r hi hr=>h.exp i r ab hr,h.use,h.sort,h.old⟩
theorem ti_year {S F:Rat} {kn:Nat} {l:List (Rat×Rat)} {s:CQ} (h:LU S F kn 0 l s) (y:Rat×Rat):LU S F kn 0 (l++[y]) (mH S F kn s.rows.length s y):=by
 unfold mH
 obtain ⟨n,hn⟩:∃ n,n=s.rows.length:=⟨_,rfl⟩
 rw [<-hn]
 obtain ⟨lo,GK⟩:∃ lo,lo=n - kn:=⟨_,rfl⟩
 obtain ⟨L,hL⟩:∃ L,L=ay S F y.2:=⟨_,rfl⟩
 obtain ⟨m,hm⟩:∃ m,m=L - ae y.1 L:=⟨_,rfl⟩
 have CP:0≤m:=by have:=cJ y.1 L;grind
 have hlen:=h.len
 have pj:=h.rln
 obtain ⟨dl,jR⟩:∃ dl,dl=s.left.drop lo:=⟨_,rfl⟩
 have hdn:∀ z∈dl,0≤z:=fun z hz=>by rw [jR] at hz;exact h.nn _ (List.mem_of_mem_drop hz)
 have hdll:dl.length=n - lo:=by rw [jR,List.length_drop,hlen,hn]
 obtain ⟨t,ht⟩:∃ t,t=bI lo dl:=⟨_,rfl⟩
 have htn:∀ p∈t,0≤p.2:=fun p hp=>by rw [ht] at hp;exact hdn _ (lg hp).2.2
 have rV:=Ul htn CP
 rw [<-GK,<-jR,<-ht,<-hL,<-hm]
 obtain ⟨nu,hnu⟩:∃ nu,nu=rF n t m:=⟨_,rfl⟩
 have zW:∀ e∈nu,e.2.1=n/\0 < e.2.2/\lo≤e.1/\e.1 < n:=fun e he=>by
  rw [hnu,ht] at he
  obtain ⟨a,b,c,d⟩:=Ai n he
  exact ⟨a,b,c,by rw [hdll] at d;omega⟩
 refine ti_exp (n:=n) ?_ (by show (s.rows++[_]).length=_;rw [List.length_append,<-hn];rfl)
 obtain ⟨L1,hL1⟩:∃ L1,L1=s.left.take lo++(qI t m).map (·.2):=⟨_,rfl⟩
 have hL1l:L1.length=n:=by rw [hL1,List.length_append,List.length_take,List.length_map,Fm,ht,BO,hdll,hlen,<-hn];omega
 have hR:xh S F t y=⟨L,ae y.1 L,y.1 - ae y.1 L,xg t m,ae y.1 L + xg t m,0,0⟩:=by unfold xh;rw [<-hL,<-hm]
 rw [<-hnu,<-hL1,hR]
 have hget:∀ (v:Nat) (x:Rat),L1[v]? =some x->∃ z,s.left[v]? =some z/\x=z - gs (vn v) nu/\(∀ e∈nu,n≤v + kn->v < e.1->x=0):=by
  intro v x hv
  rw [hL1] at hv
  have QX:(s.left.take lo).length=lo:=by rw [List.length_take,hlen,<-hn];omega
  by_cases hvl:v < lo
  ·rw [List.getElem?_append_left ab,List.getElem?_take_of_lt hvl] at hv
   refine ⟨x,hv,?_,fun e he h1 h2=>by omega⟩
   rw [sq (fun e he=>by have:=zW e he;unfold vn;rw [if_neg ab])];grind
  ·rw [List.getElem?_append_right ab,QX] at hv
   obtain ⟨z,hz,e⟩:=Uk n (by exact hdn) CP (by rw [<-ht];exact hv)
   refine ⟨z,?_,?_,fun e' qi h1 h2=> ?_⟩
   ·rw [jR,List.getElem?_drop,show lo + (v - lo)=v by omega] at hz;exact hz
   ·rw [hnu,ht]
    rw [show lo + (v - lo)=v by omega] at e
    exact e
   ·rw [hnu,ht] at qi
    exact Un n (i:=v - lo) hdn CP qi ab (by rw [<-ht];exact hv)
 have hnn1:∀ x∈L1,0≤x:=fun x hx=>by
  rw [hL1] at hx
  rcases List.mem_append.1 hx with h' | h'
  ·exact h.nn x (List.mem_of_mem_take h')
  ·obtain ⟨p,hp,rfl⟩:=List.mem_map.1 h'
   exact Lv p hp
 have hold:∀ (v:Nat) (r:aM),v < n->(s.rows++[(⟨L,ae y.1 L,y.1 - ae y.1 L,xg t m,ae y.1 L + xg t m,0,0⟩:aM)])[v]? =some r->s.rows[v]? =some r:=fun v r hv hr=>by
  rwa [List.getElem?_append_left ab] at hr
 have Ps:∀ (v:Nat) (r:aM),n≤v->(s.rows++[(⟨L,ae y.1 L,y.1 - ae y.1 L,xg t m,ae y.1 L + xg t m,0,0⟩:aM)])[v]? =some r->v=n/\r=⟨L,ae y.1 L,y.1 - ae y.1 L,xg t m,ae y.1 L + xg t m,0,0⟩:=fun v r hv hr=>by
  have hlt:=(List.getElem?_eq_some_iff.1 hr).1
  rw [List.length_append,List.length_singleton,<-hn] at hlt
  have hvn:v=n:=by omega
  subst hvn
  rw [List.getElem?_append_right ab,<-hn,Nat.sub_self] at hr
  exact ⟨rfl,(Option.some.inj hr).symm⟩
 refine ⟨?_,?_,fun v x hv=> ?_,fun x hx=> ?_,fun i r hr=> ?_,fun i r hi hr=> ?_,fun u hu=> ?_,?_,fun u hu v r h1 h2 hr=> ?_⟩
 ·show (L1++[_]).length=(s.rows++[_]).length
  rw [List.length_append,List.length_append,hL1l,hn];rfl
 ·show (s.rows++[_]).length=(l++[y]).length
  rw [List.length_append,List.length_append,pj];rfl
 ·dsimp only at hv ⊢
  by_cases hvn:v < n
  ·rw [List.getElem?_append_left ab] at hv
   obtain ⟨z,hz,e,_⟩:=hget v x hv
   obtain ⟨r,hr,e'⟩:=h.cons v z hz
   refine ⟨r,by rw [List.getElem?_append_left ab];exact hr,?_⟩
   rw [oY];grind
  ·have hlt:=(List.getElem?_eq_some_iff.1 hv).1
   rw [List.length_append,List.length_singleton,hL1l] at hlt
   have hvn:v=n:=by omega
   subst hvn
   rw [List.getElem?_append_right ab,hL1l,Nat.sub_self] at hv
   cases hv
   refine ⟨_,by rw [List.getElem?_append_right ab,<-hn,Nat.sub_self];rfl,?_⟩
   rw [oY,sq (us:=s.uses) (fun e he=>by have:=h.use e he;unfold vn;rw [if_neg ab]),sq (us:=nu) (fun e he=>by have:=zW e he;unfold vn;rw [if_neg ab])]
   show _=y.1 - ae y.1 L - 0 - _
   grind
 ·rcases List.mem_append.1 hx with h' | h'
  ·exact hnn1 x h'
  ·rw [List.mem_singleton.1 h']
   have:=dv y.1 L
   grind
 ·dsimp only at hr
  by_cases rT:i < n
  ·obtain ⟨e,he,a⟩:=h.row i r (hold i r rT hr)
   exact ⟨e,by rw [List.getElem?_append_left ab];exact he,a⟩
  ·obtain ⟨rfl,rfl⟩:=Ps i r ab hr
   refine ⟨y,by rw [List.getElem?_append_right ab,<-pj,<-hn,Nat.sub_self];rfl,hL,rfl,rfl,rV.1,by show xg t m≤L - ae y.1 L;rw [<-hm];exact rV.2,rfl,Rat.le_refl⟩
 ·dsimp only at hr hi
  rw [List.length_append,List.length_singleton,<-hn] at hi
  by_cases rT:i < n
  ·exact h.exp i r ab (hold i r rT hr)
  ·obtain ⟨rfl,rfl⟩:=Ps i r ab hr
   rfl
 ·show _/\_/\_/\_ < (s.rows++[_]).length
  rw [List.length_append,List.length_singleton,<-hn]
  rcases List.mem_append.1 hu with h' | h'
  ·have:=h.use u h'
   exact ⟨this.1,this.2.1,this.2.2.1,by omega⟩
  ·have:=zW u h'
   exact ⟨this.2.1,by omega,by omega,by omega⟩
 ·show (s.uses++nu).Pairwise Lex
  rw [List.pairwise_append]
  refine ⟨h.sort,by rw [hnu,ht];exact Nw n,fun a ha b hb=>.inl ?_⟩
  have:=h.use a ha
  have:=zW b hb
  omega
 ·dsimp only at hr hu ⊢
  rcases List.mem_append.1 hu with h' | h'
  ·have hun:=h.use u h'
   rw [oY,sq (us:=nu) (fun e he=>by have:=zW e he;unfold bf;rw [if_neg ab])]
   have:=h.old u h' v r h1 h2 (hold v r ab hr)
   grind
  ·have hun:=zW u h'
   have hvn:v < n:=by omega
   obtain ⟨x,hx⟩:∃ x,L1[v]? =some x:=⟨_,List.getElem?_eq_getElem ab⟩
   obtain ⟨z,hz,e,h0⟩:=hget v x hx
   have iA:=h0 u h' ab h2
   obtain ⟨r',qn,e'⟩:=h.cons v z hz
   have kE:=hold v r hvn hr
   rw [qn] at kE
   cases kE
   have hex:=h.exp v _ ab qn
   have hbv:gs (bf v (u.2.1 + 1)) (s.uses++nu)=gs (vn v) (s.uses++nu):=JD fun e he=>by
    have:e.2.1 < u.2.1 + 1:=by
     rcases List.mem_append.1 he with h'' | h''
     ·have:=h.use e h'';omega
     ·have:=zW e h'';omega
    unfold bf vn
    by_cases hev:e.1=v
    ·rw [if_pos ⟨hev,this⟩,if_pos hev]
    ·rw [if_neg (fun x=>hev x.1),if_neg hev]
   rw [hbv,oY]
   grind
theorem Uo (S F:Rat) (kn:Nat) (l:List (Rat×Rat)):LU S F kn 0 l (runT S F kn l):=by
 have key:∀ (l p:List (Rat×Rat)) (s:CQ),LU S F kn 0 p s->LU S F kn 0 (p++l) (l.foldl (fun s y=>mH S F kn s.rows.length s y) s):=by
  intro l
  induction l with
  | nil=>intro p s h;rw [List.append_nil];exact h
  | cons y l ih=>
    intro p s h
    have:=ih (p++[y]) _ (ti_year h y)
    rwa [List.append_assoc] at this
 have:=key l [] ⟨[],[],[]⟩ ⟨rfl,rfl,fun v x hx=>(by cases hx),fun x hx=>(by cases hx),fun i r hr=>(by cases hr),fun i r _ hr=>(by cases hr),fun u hu=>(by cases hu),List.Pairwise.nil,fun u hu=>(by cases hu)⟩
 exact this
theorem clo_at {left:List Rat} {rows:List aM} (i:Nat):(dL (bI 0 left) rows)[i]? =match left[i]? with
  | some x=>(rows[i]?).map (fun r=>{ r with closing:=x })
  | none=>rows[i]? :=by
 rw [sf _ _ (BQ 0 left)]
 cases hl:left[i]? with
 | none=>
   have:(bI 0 left).find? (fun p=>p.1 == i)=none:=by
    rw [List.find?_eq_none]
    intro p hp e
    obtain ⟨j,hj⟩:=List.mem_iff_getElem?.1 hp
    rw [se] at hj
    obtain ⟨x,hx,rfl⟩:=Option.map_eq_some_iff.1 hj
    have:0 + j=i:=by simpa using e
    rw [show j=i by omega,hl] at hx
    cases hx
   rw [this]
 | some x=>
   have hm:(i,x)∈bI 0 left:=by
    apply List.mem_of_getElem? (i:=i)
    rw [se,hl];simp
   cases hf:(bI 0 left).find? (fun p=>p.1 == i) with
   | none=>exact absurd cw (List.find?_eq_none.1 hf _ hm)
   | some p=>
     have hp:=List.find?_some hf
     obtain ⟨j,hj⟩:=List.mem_iff_getElem?.1 (List.mem_of_find?_eq_some hf)
     rw [se] at hj
     obtain ⟨x',hx,rfl⟩:=Option.map_eq_some_iff.1 hj
     have:0 + j=i:=by simpa using hp
     rw [show j=i by omega,hl] at hx
     cases hx
     rfl
theorem tY:∀ (q:List Vq) (r:List aM),(dL q r).length=r.length
 | [],_=>rfl
 | p::q,r=>by show (dL q _).length=_;rw [tY q,List.length_modify]
structure LedLaw (S F:Rat) (kn:Nat) (l:List (Rat×Rat)) (x:List aM×List Uq):Prop where
 rln:x.1.length=l.length
 row:∀ (i:Nat) (r:aM),x.1[i]? =some r->∃ e,l[i]? =some e/\RowOk S F e r/\0≤r.closing/\gs (vn i) x.2 + r.ao + r.closing=r.aE
 use:∀ u∈x.2,0 < u.2.2/\u.1 < u.2.1/\u.2.1≤u.1 + kn/\u.2.1 < l.length
 sort:x.2.Pairwise Lex
 old:∀ u∈x.2,∀ (v:Nat) (r:aM),u.2.1≤v + kn->v < u.1->x.1[v]? =some r->r.aE - gs (bf v (u.2.1 + 1)) x.2≤0
theorem FM {left:List Rat} {rows:List aM} {i:Nat} {r:aM} (hl:left.length=rows.length) (h:(dL (bI 0 left) rows)[i]? =some r):∃ r' x,rows[i]? =some r'/\left[i]? =some x/\r={ r' with closing:=x }:=by
 have hlt:=(List.getElem?_eq_some_iff.1 h).1
 rw [tY] at hlt
 obtain ⟨x,hx⟩:∃ x,left[i]? =some x:=⟨_,List.getElem?_eq_getElem ab⟩
 rw [clo_at,hx] at h
 obtain ⟨r',qn,rfl⟩:=Option.map_eq_some_iff.1 h
 exact ⟨r',x,qn,hx,rfl⟩
theorem led_law (S F:Rat) (kn:Nat) (l:List (Rat×Rat)):LedLaw S F kn l (qw S F kn l):=by
 rw [Fp]
 have h:=Uo S F kn l
 unfold Fo
 generalize runT S F kn l=s at h
 refine ⟨by show (dL _ _).length=_;rw [tY];exact h.rln,fun i r hr=> ?_,fun u hu=> ?_,h.sort,fun u hu v r h1 h2 hr=> ?_⟩
 ·obtain ⟨r',x,qn,hx,rfl⟩:=FM h.len hr
  obtain ⟨e,he,a⟩:=h.row i r' qn
  obtain ⟨r2,kE,e2⟩:=h.cons i x hx
  rw [qn] at kE
  cases kE
  refine ⟨e,he,⟨a.lim,a.alw,a.den,a.us0,a.us1,a.ded,a.ex0⟩,h.nn x (List.mem_of_getElem? hx),?_⟩
  show gs (vn i) s.uses + r'.ao + x=r'.aE
  rw [e2];grind
 ·have:=h.use u hu
  rw [h.rln] at this
  exact this
 ·obtain ⟨r',x,qn,hx,rfl⟩:=FM h.len hr
  exact h.old u hu v r' h1 h2 qn
theorem Iz.ae {D:Nat} {a b:Rat} (h:Iz D a) (k:Iz D b):Iz D (ae a b):=by rcases ct a b with ⟨e,_⟩ | ⟨e,_⟩ <;> rw [e] <;> assumption
theorem tb_iz {D:Nat} (y:Nat):∀ {t:List Vq} {m:Rat},(∀ p∈t,Iz D p.2)->Iz D m->(∀ p∈qI t m,Iz D p.2)/\(∀ u∈rF y t m,Iz D u.2.2)/\Iz D (xg t m)
 | [],m,_,_=>⟨fun p hp=>(by cases hp),fun u hu=>(by cases hu),Iz.zero⟩
 | p::t,m,h,hm=>by
   have hp:=h p cw
   have hr:=hp.ae hm
   obtain ⟨a,b,c⟩:=tb_iz y (t:=t) (m:=m - ae p.2 m) (fun x hx=>h x (by simp [hx])) (hm.sub hr)
   refine ⟨fun q hq=> ?_,fun u hu=> ?_,hr.add c⟩
   ·rcases List.mem_cons.1 hq with rfl | hq
    ·exact hp.sub hr
    ·exact a q hq
   ·rcases List.mem_append.1 (show u∈(if 0 < ae p.2 m then [((p.1,y,ae p.2 m):Uq)] else [])++rF y t (m - ae p.2 m) from hu) with h1 | h1
    ·split at h1
     ·rw [List.mem_singleton.1 h1];exact hr
     ·cases h1
    ·exact b u h1
structure RowZ (D:Nat) (r:aM):Prop where
 lim:Iz D r.aW
 alw:Iz D r.allowed
 den:Iz D r.aE
 us:Iz D r.used
 ded:Iz D r.au
 ex:Iz D r.ao
 iU:Iz D r.closing
structure Qv (D:Nat) (s:CQ):Prop where
 left:∀ x∈s.left,Iz D x
 use:∀ u∈s.uses,Iz D u.2.2
 row:∀ r∈s.rows,RowZ D r
theorem mem_modify {l:List aM} {i:Nat} {f:aM->aM} {r:aM} (h:r∈l.modify i f):r∈l\/∃ r'∈l,r=f r':=by
 obtain ⟨j,hj⟩:=List.mem_iff_getElem?.1 h
 by_cases e:i=j
 ·rw [BP e] at hj
  obtain ⟨r',qn,rfl⟩:=Option.map_eq_some_iff.1 hj
  exact .inr ⟨r',List.mem_of_getElem? qn,rfl⟩
 ·rw [vB e] at hj
  exact .inl (List.mem_of_getElem? hj)
theorem Qw {D:Nat} {S F:Rat} {kn:Nat} {s:CQ} (h:Qv D s) {y:Rat×Rat} (hL:Iz D (ay S F y.2)) (hy:Iz D y.1) (n:Nat):Qv D (mH S F kn n s y):=by
 unfold mH
 have hr:=hy.ae hL
 have hm:=hL.sub hr
 obtain ⟨t,ht⟩:∃ t,t=bI (n - kn) (s.left.drop (n - kn)):=⟨_,rfl⟩
 rw [<-ht]
 obtain ⟨a,b,c⟩:=tb_iz n (t:=t) (m:=ay S F y.2 - ae y.1 (ay S F y.2)) (fun p hp=>by rw [ht] at hp;exact h.left _ (List.mem_of_mem_drop (lg hp).2.2)) hm
 have kg:Qv D ⟨(s.left.take (n - kn)++(qI t (ay S F y.2 - ae y.1 (ay S F y.2))).map (·.2))++[y.1 - ae y.1 (ay S F y.2)],s.rows++[xh S F t y],s.uses++rF n t (ay S F y.2 - ae y.1 (ay S F y.2))⟩:=by
  refine ⟨fun x hx=> ?_,fun u hu=> ?_,fun r qn=> ?_⟩
  ·rcases List.mem_append.1 hx with h1 | h1
   ·rcases List.mem_append.1 h1 with h2 | h2
    ·exact h.left x (List.mem_of_mem_take h2)
    ·obtain ⟨p,hp,rfl⟩:=List.mem_map.1 h2
     exact a p hp
   ·rw [List.mem_singleton.1 h1];exact hy.sub hr
  ·rcases List.mem_append.1 hu with h1 | h1
   ·exact h.use u h1
   ·exact b u h1
  ·rcases List.mem_append.1 qn with h1 | h1
   ·exact h.row r h1
   ·rw [List.mem_singleton.1 h1]
    exact ⟨hL,hr,hy.sub hr,c,hr.add c,Iz.zero,Iz.zero⟩
 generalize (⟨(s.left.take (n - kn)++(qI t (ay S F y.2 - ae y.1 (ay S F y.2))).map (·.2))++[y.1 - ae y.1 (ay S F y.2)],s.rows++[xh S F t y],s.uses++rF n t (ay S F y.2 - ae y.1 (ay S F y.2))⟩:CQ)=s1 at kg ⊢
 unfold qx
 split
 ·have hg:Iz D (s1.left.getD (n - kn) 0):=by
   rw [List.getD_eq_getElem?_getD]
   cases hx:s1.left[n - kn]? with
   | none=>exact Iz.zero
   | some x=>exact kg.left x (List.mem_of_getElem? hx)
  refine ⟨fun x hx=> ?_,kg.use,fun r qn=> ?_⟩
  ·rcases List.mem_or_eq_of_mem_set hx with h1 | h1
   ·exact kg.left x h1
   ·rw [h1];exact Iz.zero
  ·rcases mem_modify qn with h1 | ⟨r',h1,rfl⟩
   ·exact kg.row r h1
   ·have q:=kg.row r' h1
    exact ⟨q.lim,q.alw,q.den,q.us,q.ded,hg,q.iU⟩
 ·exact kg
theorem Up {D:Nat} {S F:Rat} {kn:Nat} {l:List (Rat×Rat)} (hl:∀ e∈l,Iz D (ay S F e.2)/\Iz D e.1):Qv D (runT S F kn l):=by
 have key:∀ (l:List (Rat×Rat)) (s:CQ),(∀ e∈l,Iz D (ay S F e.2)/\Iz D e.1)->Qv D s->Qv D (l.foldl (fun s y=>mH S F kn s.rows.length s y) s):=by
  intro l
  induction l with
  | nil=>intro s _ h;exact h
  | cons y l ih=>intro s hl h;exact ih _ (fun e he=>hl e (by simp [he])) (Qw h (hl y cw).1 (hl y cw).2 _)
 exact key l _ hl ⟨fun x hx=>(by cases hx),fun x hx=>(by cases hx),fun x hx=>(by cases hx)⟩
theorem Ur {v:Nat} {u:Uq}:∀ {us:List Uq},(∀ e∈us,0 < e.2.2)->u∈us->u.1=v->u.2.2≤gs (vn v) us
 | e::us,h,hu,hv=>by
   rw [sn]
   have h0:∀ x∈us,0≤vn v x:=fun x hx=>by
    have:=h x (by simp [hx])
    unfold vn;split <;> grind
   have:=Uj h0
   rcases List.mem_cons.1 hu with rfl | hu
   ·have:vn v u=u.2.2:=by unfold vn;rw [if_pos hv]
    grind
   ·have h1:=Ur (fun x hx=>h x (by simp [hx])) hu hv
    have h2:0≤vn v e:=by
     have:=h e cw
     unfold vn;split <;> grind
    grind
theorem led_sz {D kk:Nat} {M S F:Rat} {kn:Nat} {l:List (Rat×Rat)} (hM:FH D M S F kk l):LedSz kk (qw S F kn l):=by
 have Qx:=led_law S F kn l
 have hz:=Up (kn:=kn) (fun e he=>⟨(hM.el e he).1,(hM.el e he).2.2.1⟩)
 have tp:=Uo S F kn l
 have hrz:∀ r∈(qw S F kn l).1,RowZ D r:=fun r hr=>by
  rw [Fp] at hr
  obtain ⟨i,hi⟩:=List.mem_iff_getElem?.1 hr
  obtain ⟨r',x,qn,hx,rfl⟩:=FM tp.len hi
  have q:=hz.row r' (List.mem_of_getElem? qn)
  exact ⟨q.lim,q.alw,q.den,q.us,q.ded,q.ex,hz.left x (List.mem_of_getElem? hx)⟩
 have hgn:∀ v,0≤gs (vn v) (qw S F kn l).2:=fun v=>Uj fun x hx=>by
  have:=(Qx.use x hx).1
  unfold vn;split <;> grind
 have rV:∀ r∈(qw S F kn l).1,(0≤r.aW/\r.aW≤M)/\(-M≤r.allowed/\r.allowed≤M)/\(0≤r.aE/\r.aE≤M)/\(0≤r.used/\r.used≤M + M)/\(-M≤r.au/\r.au≤M)/\(0≤r.ao/\r.ao≤M)/\(0≤r.closing/\r.closing≤M):=fun r hr=>by
  obtain ⟨i,hi⟩:=List.mem_iff_getElem?.1 hr
  obtain ⟨e,he,a,hc,hs⟩:=Qx.row i r hi
  obtain ⟨b1,b2,b3,b4,b5⟩:=hM.el e (List.mem_of_getElem? he)
  have Cv:=lQ S F e.2
  have h1:=a.lim
  have h2:=a.alw
  have h3:=a.den
  have h4:=a.us0
  have h5:=a.us1
  have h6:=a.ded
  have h7:=a.ex0
  have hg:=hgn i
  rw [<-h1] at Cv b2
  rcases ct e.1 r.aW with ⟨e',_⟩ | ⟨e',_⟩ <;> rw [e'] at h2 <;> refine ⟨⟨?_,?_⟩,⟨?_,?_⟩,⟨?_,?_⟩,⟨?_,?_⟩,⟨?_,?_⟩,⟨?_,?_⟩,?_,?_⟩ <;> grind
 have hM0:∀ r∈(qw S F kn l).1,0≤M:=fun r hr=>by have:=(rV r hr).1;grind
 have hof:∀ x,0≤M->Iz D x->-M≤x->x≤M + M->et x kk:=fun x h0 h h1 h2=>hM.sz x h dp h2
 refine ⟨fun r hr=> ?_,fun u hu=> ?_⟩
 ·obtain ⟨b1,b2,b3,b4,b5,b6,b7⟩:=rV r hr
  have q:=hrz r hr
  have h0:=hM0 r hr
  exact ⟨hof _ h0 q.lim dp dp,hof _ h0 q.alw dp dp,hof _ h0 q.den dp dp,hof _ h0 q.us dp dp,hof _ h0 q.ded dp dp,hof _ h0 q.ex dp dp,hof _ h0 q.iU dp dp⟩
 ·obtain ⟨c1,c2,c3,c4⟩:=Qx.use u hu
  obtain ⟨r,hr⟩:∃ r,(qw S F kn l).1[u.1]? =some r:=⟨_,List.getElem?_eq_getElem (by rw [Qx.rln];omega)⟩
  have h1:=Ur (fun x hx=>(Qx.use x hx).1) hu rfl
  obtain ⟨e,he,a,hc,hs⟩:=Qx.row u.1 r hr
  have b:=rV r (List.mem_of_getElem? hr)
  have h7:=a.ex0
  have h0:=hM0 r (List.mem_of_getElem? hr)
  have mO:Iz D u.2.2:=by rw [Fp] at hu;exact hz.use u hu
  exact hof _ h0 mO dp dp
theorem Aj {a b:Rat} {c:Int} (h:eg a b=c):(a≤b->¬ c > 0)/\(b≤a->¬ c < 0)/\(a < b->c < 0)/\(b < a->c > 0)/\(a=b->c=0):=by
 subst h
 refine ⟨fun h=> ?_,fun h=> ?_,fun h=> ?_,fun h=> ?_,fun h=>lO h⟩
 ·have:=lN.2 h;omega
 ·have:=vu.2 h;omega
 ·by_cases h':eg a b≥0
  ·have:=vu.1 h';grind
  ·omega
 ·by_cases h':eg a b≤0
  ·have:=lN.1 h';grind
  ·omega
end
section
open Go.RowKit
attribute [local irreducible] aC VS
def vR (S F:RR) (keep:Int) (l:List (RR×RR)):Bool:=dW S F keep && l.all fO && decide (l.length≤40)
def lT (S F:RR) (keep:Int) (l:List (RR×RR)):Int:=if dW S F keep && l.all fO then 3 else 2
theorem Cg (S F:RR) (keep:Int) (l:List (RR×RR)):lT S F keep l≠0:=by unfold lT;split <;> decide
theorem iRun_no (v u:Value) (a b:RR) (keep:Int) (l:List (RR×RR)) (w:World) (hR:fN w v a b keep) (ha:a.jF 3) (hb:b.jF 3) (hl:cO (si 3) 8 w u l) (hlen:l.length≤100000) (hno:vR a b keep l=false) (c:Int) (hc:lT a b keep l=c):
  Calls Tryz.prog 11 #[v,u] w fun o w'=>o=.returned (.tuple #[.agg #[.slice none 0 0,.slice none 0 0],.int .i64 c])/\aL w w':=by
 subst hc
 unfold lT
 cases h:(dW a b keep && l.all fO) with
 | false=>exact TS v u a b keep l 3 w hR ha hb hl bW hlen h
 | true=>
   unfold vR at hno
   rw [h] at hno
   rw [Bool.and_eq_true] at h
   exact Qh v u a b keep l 3 w hR ha hb hl bW hlen h.1 h.2 (by simpa using hno)
structure vS (S F:RR) (keep:Int) (l:List (RR×RR)):Prop where
 k0:0≤keep
 k1:keep≤40
 s0:0≤S.q
 s1:S.q≤1
 rul:dW S F keep=true
 yrs:l.all fO=true
 len:l.length≤40
theorem yi {S F:RR} {keep:Int} {l:List (RR×RR)} (h:vR S F keep l=true):vS S F keep l:=by
 unfold vR at h
 rw [Bool.and_eq_true,Bool.and_eq_true] at h
 obtain ⟨⟨h1,h2⟩,h3⟩:=h
 have hr:=h1
 unfold dW at hr
 simp only [Bool.and_eq_true,decide_eq_true_iff] at hr
 obtain ⟨r1,r2,r3,r4,r5,r6⟩:=hr
 exact ⟨r5,r6,vu.1 r3,lN.1 r4,h1,h2,of_decide_eq_true h3⟩
theorem Lm.ofSz {q:Rat} {k:Nat} (h:et q k):Lm k q:=by
 obtain ⟨h1,h2⟩:=h
 have h1:=h1.lt
 have h2:=h2.lt
 exact ⟨by omega,by omega⟩
theorem fN.sz {w:World} {v:Value} {S F:RR} {keep:Int} {k:Nat} (h:fN w v S F keep) (hS:S.jF k) (hF:F.jF k) (hk:1≤k):et S.q k/\et F.q k:=by
 obtain ⟨p,c,r,d,p',c',r',d',rfl,h1,h2⟩:=h
 exact ⟨(h1.iq hS).sz hk,(h2.iq hF).sz hk⟩
theorem Ut {w:World} {v:Value} {l:List (RR×RR)} {k:Nat} (h:cO (si k) 8 w v l) (hk:1≤k):∀ e∈l,et e.1.q k/\et e.2.q k:=fun e he=>by
 obtain ⟨i,hi,hx⟩:=List.mem_iff_getElem.1 he
 obtain ⟨p,c,rfl,_,_⟩:=h.form
 obtain ⟨_,_,cs,_,_,x,y,_,⟨_,_,_,_,_,h1⟩,⟨_,_,_,_,_,h2⟩,f1,f2⟩:=h.at (i:=i) (a:=e) (by rw [List.getElem?_eq_getElem hi,hx])
 exact ⟨(h1.iq f1).sz hk,(h2.iq f2).sz hk⟩
theorem Ch {w:World} {v u:Value} {S F:RR} {keep:Int} {l:List (RR×RR)} (hR:fN w v S F keep) (hS:S.jF 3) (hF:F.jF 3) (hl:cO (si 3) 8 w u l) (fI:vS S F keep l) (hlen:l.length≤12):
  FH (S.q.den * F.q.den * xt (cj l)) (((4294967296 ^ 3:Nat):Int):Rat) S.q F.q 82 (cj l):=by
 obtain ⟨h1,h2⟩:=hR.sz hS hF bW
 refine TX (k:=3) (n:=12) (Lm.ofSz h1) (Lm.ofSz h2) fI.s0 fI.s1 (fun e he=> ?_) (by unfold cj;rw [List.length_map];exact hlen) bW
 obtain ⟨x,hx,rfl⟩:=List.mem_map.1 he
 obtain ⟨a,b⟩:=Ut hl bW x hx
 exact ⟨Lm.ofSz a,Lm.ofSz b⟩
theorem Uu (v u:Value) (S F:RR) (keep:Int) (kn:Nat) (l:List (RR×RR)) (w:World) (hR:fN w v S F keep) (hS:S.jF 3) (hF:F.jF 3) (hl:cO (si 3) 8 w u l) (fI:vS S F keep l) (hlen:l.length≤12) (qO:keep=(kn:Int)):
  Calls Tryz.prog 11 #[v,u] w fun o w'=>∃ r u',o=.returned (.tuple #[.agg #[r,u'],.int .i64 0])/\vO w.heap.size w' r u' (qw S.q F.q kn (cj l))/\aL w w':=by
 have hM:=Ch hR hS hF hl fI hlen
 subst qO
 have:=fI.k1
 exact Nr v u S F kn l 3 82 _ _ w hR hS hF hl bW bW bW fI.rul fI.yrs fI.len ab hM
theorem LV {w:World} {b:Nat} {t:TypeId} {cs:List Value} (h:bg w b t cs.toArray) (k:Nat) (ds:List Value) (hd:ds <+:cs.drop k):∀ (j:Nat) (u:Value),ds[j]? =some u->w.cell? ((⟨b,0 + k,none⟩:Addr).add j)=some u:=by
 intro j u hj
 obtain ⟨t',ht⟩:=hd
 rw [Addr.add_mid,Nat.zero_add]
 refine h.cell ?_
 rw [List.getElem?_toArray,<-List.getElem?_drop,<-ht,List.getElem?_append_left (List.getElem?_eq_some_iff.1 hj).1]
 exact hj
end
section
open Go.RowKit
theorem vT {l:List Rat} {v:Nat} {x:Rat} (h:l[v]? =some x):bI v (l.drop v)=(v,x)::bI (v + 1) (l.drop (v + 1)):=by
 obtain ⟨hlt,rfl⟩:=List.getElem?_eq_some_iff.1 h
 rw [List.drop_eq_getElem_cons hlt];rfl
theorem set_drop {l:List Rat} {v:Nat} (y:Rat):(l.set v y).drop (v + 1)=l.drop (v + 1):=by
 rw [List.drop_set,if_pos ab]
theorem Uv {l:List Rat} {v:Nat} {x:Rat} (y:Rat) (h:l[v]? =some x):(l.set v y).take (v + 1)=l.take v++[y]:=by
 have hlt:=(List.getElem?_eq_some_iff.1 h).1
 have:(l.set v y)[v]? =some y:=by rw [List.getElem?_set,if_pos rfl,if_pos hlt]
 rw [bS this,List.take_set,List.set_eq_of_length_le (by rw [List.length_take];omega)]
structure LW (D:Nat) (M2:Rat) (U0 z:Nat) (LT:List Rat) (UT:List Uq) (US m0:Rat) (v:Nat) (left:List Rat) (us:List Uq) (room used:Rat):Prop where
 len:left.length=z
 vz:v≤z
 i1:left.take v++(qI (bI v (left.drop v)) room).map (·.2)=LT
 i2:us++rF z (bI v (left.drop v)) room=UT
 i3:used + xg (bI v (left.drop v)) room=US
 el:∀ x∈left,Iz D x/\0≤x/\x≤M2
 r0:0≤room
 u0:0≤used
 sm:used + room=m0
 rI:Iz D room
 uI:Iz D used
 ul:us.length≤U0 + v
section
variable {D:Nat} {M2:Rat} {U0 z:Nat} {LT:List Rat} {UT:List Uq} {US m0:Rat} {v:Nat} {left:List Rat} {us:List Uq} {room used:Rat}
theorem LW.step (h:LW D M2 U0 z LT UT US m0 v left us room used) {x:Rat} (hx:left[v]? =some x) (hv:v < z):
  LW D M2 U0 z LT UT US m0 (v + 1) (left.set v (x - ae x room)) (us++if 0 < ae x room then [(v,z,ae x room)] else []) (room - ae x room) (used + ae x room):=by
 obtain ⟨h1,h2,h3,h4,h5,h6,h7,h8,h9,h10,h11,Ea⟩:=h
 obtain ⟨x1,x2,x3⟩:=h6 x (List.mem_of_getElem? hx)
 have nM:0≤ae x room:=by rcases ct x room with ⟨e,_⟩ | ⟨e,_⟩ <;> rw [e] <;> assumption
 have nC:Iz D (ae x room):=by rcases ct x room with ⟨e,_⟩ | ⟨e,_⟩ <;> rw [e] <;> assumption
 have Bm:=dv x room
 have xO:=cJ x room
 rw [vT hx] at h3 h4 h5
 rw [rH] at h3
 rw [rG] at h4
 rw [oO] at h5
 refine ⟨by rw [List.length_set];exact h1,by omega,?_,?_,?_,fun y hy=> ?_,by grind,by grind,by grind,h10.sub nC,h11.add nC,?_⟩
 ·rw [Uv _ hx,set_drop,<-h3,List.map_cons,List.append_assoc];rfl
 ·rw [set_drop,<-h4,List.append_assoc]
 ·rw [set_drop,<-h5];grind
 ·rcases List.mem_or_eq_of_mem_set hy with hy | rfl
  ·exact h6 y hy
  ·exact ⟨x1.sub nC,by grind,by grind⟩
 ·rw [List.length_append]
  split
  ·show us.length + 1≤_;omega
  ·show us.length + 0≤_;omega
theorem LW.fin (h:LW D M2 U0 z LT UT US m0 z left us room used):left=LT/\us=UT/\used=US:=by
 obtain ⟨h1,h2,h3,h4,h5,_⟩:=h
 have e:left.drop z=[]:=List.drop_of_length_le ab
 rw [e] at h3 h4 h5
 refine ⟨?_,?_,?_⟩
 ·rw [<-h3,List.take_of_length_le ab];exact (List.append_nil _).symm
 ·rw [<-h4];exact (List.append_nil _).symm
 ·rw [<-h5];exact (Rat.add_zero _).symm
end
structure TOk (D:Nat) (M:Rat) (s:CQ):Prop where
 len:s.left.length=s.rows.length
 el:∀ x∈s.left,Iz D x/\0≤x/\x≤M + M
 ul:s.uses.length≤100 * s.rows.length
theorem LW.init {D:Nat} {M:Rat} {s:CQ} (h:TOk D M s) {keep z:Nat} (hz:s.rows.length=z) {m:Rat} (hm:Iz D m) (h0:0≤m):
  LW D (M + M) (100 * z) z (s.left.take (z - keep)++(qI (bI (z - keep) (s.left.drop (z - keep))) m).map (·.2)) (s.uses++rF z (bI (z - keep) (s.left.drop (z - keep))) m) (xg (bI (z - keep) (s.left.drop (z - keep))) m) m (z - keep) s.left s.uses m 0:=by
 obtain ⟨h1,h2,h3⟩:=h
 rw [hz] at h1 h3
 exact ⟨h1,Nat.sub_le _ _,rfl,rfl,by rw [Rat.zero_add],h2,h0,Rat.le_refl,by rw [Rat.zero_add],hm,Iz.zero,by omega⟩
theorem Uw (keep n:Nat) (s:CQ):(qx keep n s).rows.length=s.rows.length/\(qx keep n s).uses=s.uses/\(qx keep n s).left.length=s.left.length/\∀ x∈(qx keep n s).left,x∈s.left\/x=0:=by
 unfold qx
 split
 ·exact ⟨List.length_modify ..,rfl,List.length_set ..,fun x hx=>List.mem_or_eq_of_mem_set hx⟩
 ·exact ⟨rfl,rfl,rfl,fun x hx=>.inl hx⟩
theorem JE {D:Nat} {M S F:Rat} {keep:Nat} {s:CQ} {e:Rat×Rat} (h:TOk D M s) (hlen:s.rows.length≤100) (hL:Iz D (ay S F e.2)) (tX:ay S F e.2≤M) (hx:Iz D e.1) (iA: -M≤e.1) (Gx:e.1≤M):TOk D M (mH S F keep s.rows.length s e)/\(mH S F keep s.rows.length s e).rows.length=s.rows.length + 1:=by
 obtain ⟨g1,g2,g3,g4,g5,g6,g7,g8,g9⟩:=nD hL (lQ S F e.2) tX hx iA Gx
 have key:∀ (v:Nat) (left:List Rat) (us:List Uq) (room used:Rat),LW D (M + M) (100 * s.rows.length) s.rows.length (s.left.take (s.rows.length - keep)++(qI (bI (s.rows.length - keep) (s.left.drop (s.rows.length - keep))) (ay S F e.2 - ae e.1 (ay S F e.2))).map (·.2)) (s.uses++rF s.rows.length (bI (s.rows.length - keep) (s.left.drop (s.rows.length - keep))) (ay S F e.2 - ae e.1 (ay S F e.2))) (xg (bI (s.rows.length - keep) (s.left.drop (s.rows.length - keep))) (ay S F e.2 - ae e.1 (ay S F e.2))) (ay S F e.2 - ae e.1 (ay S F e.2)) v left us room used->
   ∃ Ep us' Nx Ny,LW D (M + M) (100 * s.rows.length) s.rows.length (s.left.take (s.rows.length - keep)++(qI (bI (s.rows.length - keep) (s.left.drop (s.rows.length - keep))) (ay S F e.2 - ae e.1 (ay S F e.2))).map (·.2)) (s.uses++rF s.rows.length (bI (s.rows.length - keep) (s.left.drop (s.rows.length - keep))) (ay S F e.2 - ae e.1 (ay S F e.2))) (xg (bI (s.rows.length - keep) (s.left.drop (s.rows.length - keep))) (ay S F e.2 - ae e.1 (ay S F e.2))) (ay S F e.2 - ae e.1 (ay S F e.2)) s.rows.length Ep us' Nx Ny:=by
  have go:∀ (k v:Nat) (left:List Rat) (us:List Uq) (room used:Rat),k=s.rows.length - v->LW D (M + M) (100 * s.rows.length) s.rows.length (s.left.take (s.rows.length - keep)++(qI (bI (s.rows.length - keep) (s.left.drop (s.rows.length - keep))) (ay S F e.2 - ae e.1 (ay S F e.2))).map (·.2)) (s.uses++rF s.rows.length (bI (s.rows.length - keep) (s.left.drop (s.rows.length - keep))) (ay S F e.2 - ae e.1 (ay S F e.2))) (xg (bI (s.rows.length - keep) (s.left.drop (s.rows.length - keep))) (ay S F e.2 - ae e.1 (ay S F e.2))) (ay S F e.2 - ae e.1 (ay S F e.2)) v left us room used->
    ∃ Ep us' Nx Ny,LW D (M + M) (100 * s.rows.length) s.rows.length (s.left.take (s.rows.length - keep)++(qI (bI (s.rows.length - keep) (s.left.drop (s.rows.length - keep))) (ay S F e.2 - ae e.1 (ay S F e.2))).map (·.2)) (s.uses++rF s.rows.length (bI (s.rows.length - keep) (s.left.drop (s.rows.length - keep))) (ay S F e.2 - ae e.1 (ay S F e.2))) (xg (bI (s.rows.length - keep) (s.left.drop (s.rows.length - keep))) (ay S F e.2 - ae e.1 (ay S F e.2))) (ay S F e.2 - ae e.1 (ay S F e.2)) s.rows.length Ep us' Nx Ny:=by
   intro k
   induction k with
   | zero=>
     intro v left us room used hk h
     have:v=s.rows.length:=by have:=h.vz;omega
     subst this
     exact ⟨_,_,_,_,h⟩
   | succ k ih=>
     intro v left us room used hk h
     have hv:v < s.rows.length:=by omega
     exact ih _ _ _ _ _ ab (h.step (List.getElem?_eq_getElem (by have:=h.len;omega)) hv)
  exact fun v left us room used h=>go _ v left us room used rfl h
 obtain ⟨Ep,us',Nx,Ny,hI⟩:=key _ _ _ _ _ (LW.init (keep:=keep) h rfl g7 g8)
 obtain ⟨e1,e2,e3⟩:=hI.fin
 unfold mH
 rw [<-e1,<-e2]
 obtain ⟨a1,a2,a3,a4⟩:=Uw keep s.rows.length ⟨Ep++[e.1 - ae e.1 (ay S F e.2)],s.rows++[xh S F (bI (s.rows.length - keep) (s.left.drop (s.rows.length - keep))) e],us'⟩
 have hr:(s.rows++[xh S F (bI (s.rows.length - keep) (s.left.drop (s.rows.length - keep))) e]).length=s.rows.length + 1:=by rw [List.length_append];rfl
 refine ⟨⟨?_,fun x hx=> ?_,?_⟩,by rw [a1];exact hr⟩
 ·rw [a1,a3];show (Ep++_).length=(s.rows++_).length;rw [hr,List.length_append,hI.len];rfl
 ·rcases a4 x hx with hx | rfl
  ·rcases List.mem_append.1 hx with hx | hx
   ·exact hI.el x hx
   ·rw [List.mem_singleton.1 hx];exact ⟨g4,g5,g6⟩
  ·exact ⟨Iz.zero,Rat.le_refl,by grind⟩
 ·rw [a1,a2]
  show us'.length≤100 * (s.rows++_).length
  rw [hr]
  have:=hI.ul
  omega
theorem Er (S F:Rat) (keep:Nat) (l:List (Rat×Rat)) (y:Rat×Rat):runT S F keep (l++[y])=mH S F keep (runT S F keep l).rows.length (runT S F keep l) y:=by
 unfold runT
 rw [List.foldl_append];rfl
theorem yj {l:List Rat} {v:Nat} {x:Rat} (h:l[v]? =some x) (r:List aM):dL (bI v (l.drop v)) r=dL (bI (v + 1) (l.drop (v + 1))) (r.modify v (fun y=>{ y with closing:=x })):=by
 rw [vT h];rfl
end
set_option maxRecDepth 4000
section
open Go.RowKit
attribute [local irreducible] aC VS
theorem nJ {α:Type} {l:List α} {a:α} (h:l[0]? =some a):l.take 1=[a]:=by
 have:=bS h
 simpa using this
theorem JF (v:Value) (S F:RR) (keep:Int) (k:Nat) (w:World) (h:fN w v S F keep) (hS:S.jF k) (hF:F.jF k) (hk:k≤1000000):
  Calls Tryz.prog 18 #[v] w fun o w'=>∃ r,o=.returned r/\fN w' r S F keep/\aL w w':=by
 obtain ⟨ap,ac,ar,ad,bp,bc,br,bd,rfl,ha,hb⟩:=h
 obtain ⟨f1,f2⟩:=hS
 obtain ⟨f3,f4⟩:=hF
 refine ag (C:=bP Tryz.prog w _) (args:=[_]) Tryz.func18 rfl Tryz.ntmps18 (bu rfl) ?_
 refine aa ?_
 refine VO.call rfl rfl (fk Tryz.func28) (fun bD cQ bG=>(bJ S.1 S.2.2.1 S.2.1 S.2.2.2 _ bD (ha.kp (Kp.of (U:=UU) bG)) ab ab).mono ?_)
 rintro e w1 ⟨r1,rfl,q1,aI⟩
 obtain ⟨Nz,NA,NB,NC,rfl,-⟩:=q1.raw.fV
 refine ⟨_,rfl,aI,fun dt _ bb1=>wV rfl ?_⟩
 refine aa ?_
 refine VO.call rfl rfl (fk Tryz.func28) (fun cG dQ cV=>(bJ F.1 F.2.2.1 F.2.1 F.2.2.2 _ cG (hb.kp (Kp.of (U:=UU) cV)) ab ab).mono ?_)
 rintro e w2 ⟨r2,rfl,q2,ba⟩
 obtain ⟨ND,NF,NG,NH,rfl,-⟩:=q2.raw.fV
 refine ⟨_,rfl,ba,fun dR _ bb2=>wV rfl ?_⟩
 refine aa ?_
 refine aR ?_;intro wz kz bz
 exact ⟨_,rfl,⟨_,_,_,_,_,_,_,_,rfl,q1.raw.kp aU,q2.raw.kp aU⟩,bz⟩
set_option maxRecDepth 4000 in
theorem JG (v:Value) (l:List (RR×RR)) (kk:Nat) (w:World) (hv:cO (si kk) 8 w v l) (hk:kk≤1000000) (hn:l.length≤1000000):
  Calls Tryz.prog 19 #[v] w fun o w'=>∃ r,o=.returned r/\iw (si kk) 8 100 w.heap.size w' r l/\aL w w':=by
 obtain ⟨p,c,rfl,fE,fX⟩:=hv.form
 obtain ⟨N,hN⟩:∃ N,N=l.length:=⟨_,rfl⟩
 rw [<-hN] at hv fE hn
 rw [<-hN]
 refine ag (C:=bP Tryz.prog w _) (args:=[_]) Tryz.func19 rfl Tryz.ntmps19 (bu rfl) ?_
 refine aa ?_
 refine VS.loop (J:=fun m L M w'=>∃ z:Nat,z≤N/\m=N - z/\
  ((z=0/\L=[(0,.val (.slice p N c)),(3,.val (.slice none 0 0)),(4,.val (.int .i64 (z:Int)))]/\M=[])\/
   (0 < z/\∃ vs sp cap,L=[(0,.val (.slice p N c)),(3,.row 26 0 z cap),(4,.val (.int .i64 (z:Int)))]/\M=[(26,(100,vs.flatten.map .val++sp))]/\iy (si kk) 8 w' z cap vs sp (l.take z)))) N ⟨_,_,?_,?_,?_,?_,⟨0,by omega,rfl,.inl ⟨rfl,rfl,rfl⟩⟩⟩ ?_
 ·exact cd
 ·exact cd
 ·rfl
 ·exact iD
 rintro m L M wJ ⟨z,hz,rfl,⟨rfl,rfl,rfl⟩ | ⟨jB,vs,sp,cap,rfl,rfl,FN⟩⟩
 ·refine aa ?_
  by_cases hlt:(0:Nat) < N
  ·obtain ⟨e,he⟩:∃ e,l[0]? =some e:=⟨_,List.getElem?_eq_getElem ab⟩
   obtain ⟨b,off,eW,rfl,hc,⟨_,_,rfl,⟨ap,ac,ar,ad,rfl,ha⟩,⟨bp,bc,br,bd,rfl,hb⟩,⟨f1,f2⟩,⟨f3,f4⟩⟩⟩:=hv.at he
   refine VS.aP rfl (decide_eq_true (Int.ofNat_lt.2 hlt)) ?_
   refine aa ?_
   refine VO.cond rfl dw ?_
   refine wV rfl ?_
   refine aa ?_
   refine VO.read rfl [.bool e.1.1,.slice ap e.1.2.1.length ac,.bool e.1.2.2.1,.slice ar e.1.2.2.2.length ad] rfl (aK hc 0 _ ⟨_,rfl⟩) (wV rfl ?_)
   refine aa ?_
   refine VO.call rfl rfl (fk Tryz.func28) (fun bD cQ bG=>(bJ e.1.1 e.1.2.2.1 e.1.2.1 e.1.2.2.2 _ bD (ha.kp (Kp.of (U:=UU) bG)) ab ab).mono ?_)
   rintro e w1 ⟨r1,rfl,q1,aI⟩
   obtain ⟨Nz,NA,NB,NC,rfl,-⟩:=q1.raw.fV
   refine ⟨_,rfl,aI,fun dt _ bb1=>wV rfl ?_⟩
   refine aa ?_
   refine VO.cond rfl dw ?_
   refine wV rfl ?_
   refine aa ?_
   refine VO.read rfl [.bool e.2.1,.slice bp e.2.2.1.length bc,.bool e.2.2.2.1,.slice br e.2.2.2.2.length bd] rfl (aK hc 4 _ ⟨[],rfl⟩) (wV rfl ?_)
   refine aa ?_
   refine VO.call rfl rfl (fk Tryz.func28) (fun cG dQ cV=>(bJ e.2.1 e.2.2.2.1 e.2.2.1 e.2.2.2.2 _ cG (hb.kp (Kp.of (U:=UU) cV)) ab ab).mono ?_)
   rintro e w2 ⟨r2,rfl,q2,ba⟩
   obtain ⟨ND,NF,NG,NH,rfl,-⟩:=q2.raw.fV
   refine ⟨_,rfl,ba,fun dR _ bb2=>wV rfl ?_⟩
   refine aa ?_
   refine VO.BK (cK _ _) (dV kk) (t:=59) (e:=100) (s:=25) (a:=e) (cs:=[.bool e.1.1,.slice Nz e.1.2.1.length NA,.bool e.1.2.2.1,.slice NB e.1.2.2.2.length NC,.bool e.2.1,.slice ND e.2.2.1.length NF,.bool e.2.2.2.1,.slice NG e.2.2.2.2.length NH]) rfl rfl rfl rfl rfl rfl rfl rfl (bu rfl) rfl rfl rfl ⟨[.bool e.1.1,.slice Nz e.1.2.1.length NA,.bool e.1.2.2.1,.slice NB e.1.2.2.2.length NC],[.bool e.2.1,.slice ND e.2.2.1.length NF,.bool e.2.2.2.1,.slice NG e.2.2.2.2.length NH],rfl,⟨_,_,_,_,rfl,q1.raw.kp aU⟩,⟨_,_,_,_,rfl,q2.raw.kp aU⟩,⟨f1,f2⟩,⟨f3,f4⟩⟩ ab (fun w8 cap sp k8 b8 Ux=>wV rfl ?_)
   refine aa ?_
   refine VS.back (N - (0 + 1)) ab ⟨_,_,?_,?_,?_,?_,⟨1,by omega,rfl,.inr ⟨by omega,_,sp,cap,rfl,rfl,by rw [nJ he];exact Ux⟩⟩⟩
   ·refine ⟨rfl,rfl,?_,trivial⟩
    rfl
   ·exact ⟨rfl,trivial⟩
   ·rfl
   ·exact ⟨Ux.iU,trivial⟩
  ·refine VS.aQ rfl (decide_eq_false (fun e=>hlt (Int.ofNat_lt.1 e))) ?_
   obtain rfl:N=0:=by omega
   refine aa ?_
   refine aR ?_;intro wz kz bz
   exact ⟨_,rfl,.inl ⟨rfl,List.length_eq_zero_iff.1 hN.symm⟩,bz⟩
 ·refine aa ?_
  by_cases hlt:z < N
  ·obtain ⟨e,he⟩:∃ e,l[z]? =some e:=⟨_,List.getElem?_eq_getElem ab⟩
   obtain ⟨b,off,eW,rfl,hc,⟨_,_,rfl,⟨ap,ac,ar,ad,rfl,ha⟩,⟨bp,bc,br,bd,rfl,hb⟩,⟨f1,f2⟩,⟨f3,f4⟩⟩⟩:=hv.at he
   refine VS.aP rfl (decide_eq_true (Int.ofNat_lt.2 hlt)) ?_
   refine aa ?_
   refine VO.cond rfl dw ?_
   refine wV rfl ?_
   refine aa ?_
   refine VO.read rfl [.bool e.1.1,.slice ap e.1.2.1.length ac,.bool e.1.2.2.1,.slice ar e.1.2.2.2.length ad] rfl (aK hc 0 _ ⟨_,rfl⟩) (wV rfl ?_)
   refine aa ?_
   refine VO.call rfl rfl (fk Tryz.func28) (fun bD cQ bG=>(bJ e.1.1 e.1.2.2.1 e.1.2.1 e.1.2.2.2 _ bD (ha.kp (Kp.of (U:=UU) bG)) ab ab).mono ?_)
   rintro e w1 ⟨r1,rfl,q1,aI⟩
   obtain ⟨Nz,NA,NB,NC,rfl,-⟩:=q1.raw.fV
   refine ⟨_,rfl,aI,fun dt _ bb1=>wV rfl ?_⟩
   refine aa ?_
   refine VO.cond rfl dw ?_
   refine wV rfl ?_
   refine aa ?_
   refine VO.read rfl [.bool e.2.1,.slice bp e.2.2.1.length bc,.bool e.2.2.2.1,.slice br e.2.2.2.2.length bd] rfl (aK hc 4 _ ⟨[],rfl⟩) (wV rfl ?_)
   refine aa ?_
   refine VO.call rfl rfl (fk Tryz.func28) (fun cG dQ cV=>(bJ e.2.1 e.2.2.2.1 e.2.2.1 e.2.2.2.2 _ cG (hb.kp (Kp.of (U:=UU) cV)) ab ab).mono ?_)
   rintro e w2 ⟨r2,rfl,q2,ba⟩
   obtain ⟨ND,NF,NG,NH,rfl,-⟩:=q2.raw.fV
   refine ⟨_,rfl,ba,fun dR _ bb2=>wV rfl ?_⟩
   refine aa ?_
   refine VO.vw (cK _ _) (dV kk) (t:=59) (e:=100) (s:=25) (i:=26) (n:=z) (c:=cap) (vs:=vs) (sp:=sp) (es:=l.take z) (a:=e) (cs:=[.bool e.1.1,.slice Nz e.1.2.1.length NA,.bool e.1.2.2.1,.slice NB e.1.2.2.2.length NC,.bool e.2.1,.slice ND e.2.2.1.length NF,.bool e.2.2.2.1,.slice NG e.2.2.2.2.length NH]) rfl rfl rfl rfl rfl rfl rfl rfl (bu rfl) rfl (.inr rfl) rfl (FN.kp (dV kk) aU) rfl ⟨[.bool e.1.1,.slice Nz e.1.2.1.length NA,.bool e.1.2.2.1,.slice NB e.1.2.2.2.length NC],[.bool e.2.1,.slice ND e.2.2.1.length NF,.bool e.2.2.2.1,.slice NG e.2.2.2.2.length NH],rfl,⟨_,_,_,_,rfl,q1.raw.kp aU⟩,⟨_,_,_,_,rfl,q2.raw.kp aU⟩,⟨f1,f2⟩,⟨f3,f4⟩⟩ ab (fun w8 iz oi ρ k8 b8 fJ Ux=>wV rfl ?_)
   refine aa ?_
   refine VS.back (N - (z + 1)) ab ⟨_,_,?_,?_,?_,?_,⟨z + 1,by omega,rfl,.inr ⟨by omega,_,oi,iz,rfl,rfl,by rw [bS he];exact Ux⟩⟩⟩
   ·refine ⟨rfl,rfl,?_,trivial⟩
    rw [<-aF (i:=z) ab];rfl
   ·exact ⟨rfl,trivial⟩
   ·rfl
   ·exact ⟨Ux.iU,trivial⟩
  ·refine VS.aQ rfl (decide_eq_false (fun e=>hlt (Int.ofNat_lt.1 e))) ?_
   obtain rfl:z=N:=by omega
   refine aa ?_
   refine VS.lp (cK _ _) rfl (fun wz β kz bz en=> ?_)
   rw [List.take_of_length_le ab] at FN
   exact ⟨_,rfl,FN.new (dV kk) (en.own 26 _ _ rfl) kz,bz⟩
set_option maxRecDepth 4000 in
theorem FO (r u:Value) (X:List ed×List dD) (kk:Nat) (w:World) (hL:mL kk w r u X) (hk:kk≤1000000) (Kc:X.1.length≤1000000) (hx2:X.2.length≤1000000):
  Calls Tryz.prog 22 #[.agg #[r,u]] w fun o w'=>∃ r' u',o=.returned (.agg #[r',u'])/\iw (lS kk) 28 108 w.heap.size w' r' X.1/\iw (na kk) 6 106 w.heap.size w' u' X.2/\aL w w':=by
 obtain ⟨rp,rc,rfl,hrc,hrm⟩:=hL.1.form
 obtain ⟨up,uc,rfl,Qy,hum⟩:=hL.2.form
 obtain ⟨N,rS⟩:∃ N,N=X.1.length:=⟨_,rfl⟩
 obtain ⟨n,uX⟩:∃ n,n=X.2.length:=⟨_,rfl⟩
 obtain ⟨h1,h2⟩:=hL
 rw [<-rS] at h1 hrc Kc
 rw [<-uX] at h2 Qy hx2
 rw [<-rS,<-uX]
 refine ag (C:=bP Tryz.prog w _) (args:=[_]) Tryz.func22 rfl Tryz.ntmps22 (bu rfl) ?_
 refine aa ?_
 refine VS.loop (J:=fun m L M w'=>∃ z:Nat,z≤N/\m=N - z/\
  ((z=0/\L=[(1,.box 1 0),(2,.box 2 0),(3,.box 3 0),(4,.val (.int .i64 (z:Int)))]/\M=[(1,(36,[.val (.slice rp N rc),.val (.slice up n uc)])),(2,(64,[.val (.slice none 0 0),.val (.slice none 0 0)])),(3,(64,[.val (.slice none 0 0),.val (.slice none 0 0)]))])\/
   (0 < z/\∃ vs sp cap,L=[(1,.box 1 0),(2,.box 2 0),(3,.box 3 0),(4,.val (.int .i64 (z:Int)))]/\M=[(1,(36,[.val (.slice rp N rc),.val (.slice up n uc)])),(2,(64,[.val (.slice none 0 0),.val (.slice none 0 0)])),(3,(64,[.row 45 0 z cap,.val (.slice none 0 0)])),(45,(108,vs.flatten.map .val++sp))]/\iy (lS kk) 28 w' z cap vs sp (X.1.take z)))) N ⟨_,_,?_,?_,?_,?_,⟨0,by omega,rfl,.inl ⟨rfl,rfl,rfl⟩⟩⟩ ?_
 ·exact cd
 ·exact cd
 ·rfl
 ·exact iD
 rintro m L M wJ ⟨z,hz,rfl,⟨rfl,rfl,rfl⟩ | ⟨jB,vs,sp,cap,rfl,rfl,FN⟩⟩
 ·refine aa ?_
  by_cases hlt:(0:Nat) < N
  ·obtain ⟨e,he⟩:∃ e,X.1[0]? =some e:=⟨_,List.getElem?_eq_getElem ab⟩
   obtain ⟨b,off,eW,fQ,hc,⟨_,_,_,_,_,_,_,rfl,⟨⟨NI,NJ,NK,NL,rfl,g0⟩,⟨f0,j0⟩⟩,⟨⟨NM,NN,NP,NQ,rfl,g1⟩,⟨f1,j1⟩⟩,⟨⟨NR,NS,NT,NU,rfl,g2⟩,⟨f2,j2⟩⟩,⟨⟨NV,NW,NX,NY,rfl,g3⟩,⟨f3,j3⟩⟩,⟨⟨NZ,Oa,Ob,Oc,rfl,g4⟩,⟨f4,j4⟩⟩,⟨⟨Od,Oe,Og,Oh,rfl,g5⟩,⟨f5,j5⟩⟩,⟨⟨Oi,Oj,Ol,Om,rfl,g6⟩,⟨f6,j6⟩⟩⟩⟩:=h1.at he
   subst fQ
   refine VS.aP rfl (decide_eq_true (Int.ofNat_lt.2 hlt)) ?_
   refine aa ?_
   refine VO.cond rfl dw ?_
   refine wV rfl ?_
   refine aa ?_
   refine VO.read rfl [.bool e.aW.1,.slice NI e.aW.2.1.length NJ,.bool e.aW.2.2.1,.slice NK e.aW.2.2.2.length NL,.bool e.allowed.1,.slice NM e.allowed.2.1.length NN,.bool e.allowed.2.2.1,.slice NP e.allowed.2.2.2.length NQ,.bool e.aE.1,.slice NR e.aE.2.1.length NS,.bool e.aE.2.2.1,.slice NT e.aE.2.2.2.length NU,.bool e.used.1,.slice NV e.used.2.1.length NW,.bool e.used.2.2.1,.slice NX e.used.2.2.2.length NY,.bool e.au.1,.slice NZ e.au.2.1.length Oa,.bool e.au.2.2.1,.slice Ob e.au.2.2.2.length Oc,.bool e.ao.1,.slice Od e.ao.2.1.length Oe,.bool e.ao.2.2.1,.slice Og e.ao.2.2.2.length Oh,.bool e.closing.1,.slice Oi e.closing.2.1.length Oj,.bool e.closing.2.2.1,.slice Ol e.closing.2.2.2.length Om] rfl (aK hc 0 _ ⟨[],rfl⟩) (wV rfl ?_)
   refine aa ?_
   refine VO.call rfl rfl (fk Tryz.func28) (fun bD cQ bG=>(bJ e.aW.1 e.aW.2.2.1 e.aW.2.1 e.aW.2.2.2 _ bD (g0.kp (Kp.of (U:=UU) bG)) ab ab).mono ?_)
   rintro e w1 ⟨r1,rfl,q1,aI⟩
   obtain ⟨v0p,v0c,v0r,v0d,rfl,-⟩:=q1.raw.fV
   refine ⟨_,rfl,aI,fun dt _ bb1=>wV rfl ?_⟩
   refine aa ?_
   refine VO.call rfl rfl (fk Tryz.func28) (fun cG dQ cV=>(bJ e.allowed.1 e.allowed.2.2.1 e.allowed.2.1 e.allowed.2.2.2 _ cG (g1.kp (Kp.of (U:=UU) cV)) ab ab).mono ?_)
   rintro e w2 ⟨r2,rfl,q2,ba⟩
   obtain ⟨Nz,NA,NB,NC,rfl,-⟩:=q2.raw.fV
   refine ⟨_,rfl,ba,fun dR _ bb2=>wV rfl ?_⟩
   refine aa ?_
   refine VO.call rfl rfl (fk Tryz.func28) (fun eX fF fM=>(bJ e.aE.1 e.aE.2.2.1 e.aE.2.1 e.aE.2.2.2 _ eX (g2.kp (Kp.of (U:=UU) fM)) ab ab).mono ?_)
   rintro e w3 ⟨r3,rfl,q3,cC⟩
   obtain ⟨ND,NF,NG,NH,rfl,-⟩:=q3.raw.fV
   refine ⟨_,rfl,cC,fun gZ _ bb3=>wV rfl ?_⟩
   refine aa ?_
   refine VO.call rfl rfl (fk Tryz.func28) (fun jg kZ kt=>(bJ e.used.1 e.used.2.2.1 e.used.2.1 e.used.2.2.2 _ jg (g3.kp (Kp.of (U:=UU) kt)) ab ab).mono ?_)
   rintro e w4 ⟨r4,rfl,q4,fq⟩
   obtain ⟨v3p,v3c,v3r,v3d,rfl,-⟩:=q4.raw.fV
   refine ⟨_,rfl,fq,fun lz _ tH=>wV rfl ?_⟩
   refine aa ?_
   refine VO.call rfl rfl (fk Tryz.func28) (fun gE ju ia=>(bJ e.au.1 e.au.2.2.1 e.au.2.1 e.au.2.2.2 _ gE (g4.kp (Kp.of (U:=UU) ia)) ab ab).mono ?_)
   rintro e w5 ⟨r5,rfl,q5,eP⟩
   obtain ⟨v4p,v4c,v4r,v4d,rfl,-⟩:=q5.raw.fV
   refine ⟨_,rfl,eP,fun jV _ qu=>wV rfl ?_⟩
   refine aa ?_
   refine VO.call rfl rfl (fk Tryz.func28) (fun gF ld iC=>(bJ e.ao.1 e.ao.2.2.1 e.ao.2.1 e.ao.2.2.2 _ gF (g5.kp (Kp.of (U:=UU) iC)) ab ab).mono ?_)
   rintro e w6 ⟨r6,rfl,q6,fK⟩
   obtain ⟨v5p,v5c,v5r,v5d,rfl,-⟩:=q6.raw.fV
   refine ⟨_,rfl,fK,fun lG _ pO=>wV rfl ?_⟩
   refine aa ?_
   refine VO.call rfl rfl (fk Tryz.func28) (fun mW tJ lH=>(bJ e.closing.1 e.closing.2.2.1 e.closing.2.1 e.closing.2.2.2 _ mW (g6.kp (Kp.of (U:=UU) lH)) ab ab).mono ?_)
   rintro e w7 ⟨r7,rfl,q7,lL⟩
   obtain ⟨v6p,v6c,v6r,v6d,rfl,-⟩:=q7.raw.fV
   refine ⟨_,rfl,lL,fun sU _ Cy=>wV rfl ?_⟩
   refine aa ?_
   refine VO.BK (cK _ _) (dH kk) (t:=61) (e:=108) (s:=44) (a:=e) (cs:=[.bool e.aW.1,.slice v0p e.aW.2.1.length v0c,.bool e.aW.2.2.1,.slice v0r e.aW.2.2.2.length v0d,.bool e.allowed.1,.slice Nz e.allowed.2.1.length NA,.bool e.allowed.2.2.1,.slice NB e.allowed.2.2.2.length NC,.bool e.aE.1,.slice ND e.aE.2.1.length NF,.bool e.aE.2.2.1,.slice NG e.aE.2.2.2.length NH,.bool e.used.1,.slice v3p e.used.2.1.length v3c,.bool e.used.2.2.1,.slice v3r e.used.2.2.2.length v3d,.bool e.au.1,.slice v4p e.au.2.1.length v4c,.bool e.au.2.2.1,.slice v4r e.au.2.2.2.length v4d,.bool e.ao.1,.slice v5p e.ao.2.1.length v5c,.bool e.ao.2.2.1,.slice v5r e.ao.2.2.2.length v5d,.bool e.closing.1,.slice v6p e.closing.2.1.length v6c,.bool e.closing.2.2.1,.slice v6r e.closing.2.2.2.length v6d]) rfl rfl rfl rfl rfl rfl rfl rfl (bu rfl) rfl rfl rfl ⟨[.bool e.aW.1,.slice v0p e.aW.2.1.length v0c,.bool e.aW.2.2.1,.slice v0r e.aW.2.2.2.length v0d],[.bool e.allowed.1,.slice Nz e.allowed.2.1.length NA,.bool e.allowed.2.2.1,.slice NB e.allowed.2.2.2.length NC],[.bool e.aE.1,.slice ND e.aE.2.1.length NF,.bool e.aE.2.2.1,.slice NG e.aE.2.2.2.length NH],[.bool e.used.1,.slice v3p e.used.2.1.length v3c,.bool e.used.2.2.1,.slice v3r e.used.2.2.2.length v3d],[.bool e.au.1,.slice v4p e.au.2.1.length v4c,.bool e.au.2.2.1,.slice v4r e.au.2.2.2.length v4d],[.bool e.ao.1,.slice v5p e.ao.2.1.length v5c,.bool e.ao.2.2.1,.slice v5r e.ao.2.2.2.length v5d],[.bool e.closing.1,.slice v6p e.closing.2.1.length v6c,.bool e.closing.2.2.1,.slice v6r e.closing.2.2.2.length v6d],rfl,⟨⟨_,_,_,_,rfl,q1.raw.kp aU⟩,⟨f0,j0⟩⟩,⟨⟨_,_,_,_,rfl,q2.raw.kp aU⟩,⟨f1,j1⟩⟩,⟨⟨_,_,_,_,rfl,q3.raw.kp aU⟩,⟨f2,j2⟩⟩,⟨⟨_,_,_,_,rfl,q4.raw.kp aU⟩,⟨f3,j3⟩⟩,⟨⟨_,_,_,_,rfl,q5.raw.kp aU⟩,⟨f4,j4⟩⟩,⟨⟨_,_,_,_,rfl,q6.raw.kp aU⟩,⟨f5,j5⟩⟩,⟨⟨_,_,_,_,rfl,q7.raw.kp aU⟩,⟨f6,j6⟩⟩⟩ ab (fun w8 cap sp k8 b8 Ux=>wV rfl ?_)
   refine aa ?_
   refine VS.back (N - (0 + 1)) ab ⟨_,_,?_,?_,?_,?_,⟨1,by omega,rfl,.inr ⟨by omega,_,sp,cap,rfl,rfl,by rw [nJ he];exact Ux⟩⟩⟩
   ·exact cd
   ·exact cd
   ·rfl
   ·exact ⟨.lit rfl,.lit rfl,.lit rfl,Ux.iU,trivial⟩
  ·refine VS.aQ rfl (decide_eq_false (fun e=>hlt (Int.ofNat_lt.1 e))) ?_
   have hN0:N=0:=by omega
   refine aa ?_
   refine VS.loop (J:=fun m L M w'=>∃ z:Nat,z≤n/\m=n - z/\
    ((z=0/\L=[(1,.box 1 0),(2,.box 2 0),(3,.box 3 0),(6,.val (.int .i64 (z:Int)))]/\M=[(1,(36,[.val (.slice rp N rc),.val (.slice up n uc)])),(2,(64,[.val (.slice none 0 0),.val (.slice none 0 0)])),(3,(64,[.val (.slice none 0 0),.val (.slice none 0 0)]))])\/
     (0 < z/\∃ us oP FP,L=[(1,.box 1 0),(2,.box 2 0),(3,.box 3 0),(6,.val (.int .i64 (z:Int)))]/\M=[(1,(36,[.val (.slice rp N rc),.val (.slice up n uc)])),(2,(64,[.val (.slice none 0 0),.val (.slice none 0 0)])),(3,(64,[.val (.slice none 0 0),.row 70 0 z FP])),(70,(106,us.flatten.map .val++oP))]/\iy (na kk) 6 w' z FP us oP (X.2.take z)))) n ⟨_,_,?_,?_,?_,?_,⟨0,by omega,rfl,.inl ⟨rfl,rfl,rfl⟩⟩⟩ ?_
   ·exact cd
   ·exact cd
   ·rfl
   ·exact ⟨.lit rfl,.lit rfl,.lit rfl,trivial⟩
   rintro m2 L2 M2 wL ⟨z,hz,rfl,⟨rfl,rfl,rfl⟩ | ⟨jB,us,oP,FP,rfl,rfl,hU⟩⟩
   ·refine aa ?_
    by_cases hlt:(0:Nat) < n
    ·obtain ⟨e,he⟩:∃ e,X.2[0]? =some e:=⟨_,List.getElem?_eq_getElem ab⟩
     obtain ⟨b,off,eW,fQ,hc,⟨_,rfl,⟨ap,ac,ar,ad,rfl,g0⟩,⟨f0,h0⟩⟩⟩:=h2.at he
     subst fQ
     refine VS.aP rfl (decide_eq_true (Int.ofNat_lt.2 hlt)) ?_
     refine aa ?_
     refine VO.cond rfl dw ?_
     refine wV rfl ?_
     refine aa ?_
     refine VO.read rfl [.int .i64 e.1,.int .i64 e.2.1,.bool e.2.2.1,.slice ap e.2.2.2.1.length ac,.bool e.2.2.2.2.1,.slice ar e.2.2.2.2.2.length ad] rfl (aK hc 0 _ ⟨[],rfl⟩) (wV rfl ?_)
     refine aa ?_
     refine VO.call rfl rfl (fk Tryz.func28) (fun sD Fc wj=>(bJ e.2.2.1 e.2.2.2.2.1 e.2.2.2.1 e.2.2.2.2.2 _ sD (g0.kp (Kp.of (U:=UU) wj)) ab ab).mono ?_)
     rintro e w8 ⟨r8,rfl,q8,qf⟩
     obtain ⟨vp,vc,vr,vd,rfl,-⟩:=q8.raw.fV
     refine ⟨_,rfl,qf,fun wk _ Kd=>wV rfl ?_⟩
     refine aa ?_
     refine VO.BK (cK _ _) (eH kk) (t:=62) (e:=106) (s:=69) (a:=e) (cs:=[.int .i64 e.1,.int .i64 e.2.1,.bool e.2.2.1,.slice vp e.2.2.2.1.length vc,.bool e.2.2.2.2.1,.slice vr e.2.2.2.2.2.length vd]) rfl rfl rfl rfl rfl rfl rfl rfl (bu rfl) rfl rfl rfl ⟨[.bool e.2.2.1,.slice vp e.2.2.2.1.length vc,.bool e.2.2.2.2.1,.slice vr e.2.2.2.2.2.length vd],rfl,⟨_,_,_,_,rfl,q8.raw.kp aU⟩,⟨f0,h0⟩⟩ ab (fun w9 iz oi k9 b9 Uy=>wV rfl ?_)
     refine aa ?_
     refine VS.back (n - (0 + 1)) ab ⟨_,_,?_,?_,?_,?_,⟨1,by omega,rfl,.inr ⟨by omega,_,oi,iz,rfl,rfl,by rw [nJ he];exact Uy⟩⟩⟩
     ·exact cd
     ·exact cd
     ·rfl
     ·exact ⟨.lit rfl,.lit rfl,.lit rfl,Uy.iU,trivial⟩
    ·refine VS.aQ rfl (decide_eq_false (fun e=>hlt (Int.ofNat_lt.1 e))) ?_
     obtain rfl:n=0:=by omega
     refine aa ?_
     refine VS.lp (cK _ _) rfl (fun wz β kz bz en=> ?_)
     exact ⟨_,_,rfl,.inl ⟨rfl,List.length_eq_zero_iff.1 ab⟩,.inl ⟨rfl,List.length_eq_zero_iff.1 uX.symm⟩,bz⟩
   ·refine aa ?_
    by_cases hlt:z < n
    ·obtain ⟨e,he⟩:∃ e,X.2[z]? =some e:=⟨_,List.getElem?_eq_getElem ab⟩
     obtain ⟨b,off,eW,fQ,hc,⟨_,rfl,⟨ap,ac,ar,ad,rfl,g0⟩,⟨f0,h0⟩⟩⟩:=h2.at he
     subst fQ
     refine VS.aP rfl (decide_eq_true (Int.ofNat_lt.2 hlt)) ?_
     refine aa ?_
     refine VO.cond rfl dw ?_
     refine wV rfl ?_
     refine aa ?_
     refine VO.read rfl [.int .i64 e.1,.int .i64 e.2.1,.bool e.2.2.1,.slice ap e.2.2.2.1.length ac,.bool e.2.2.2.2.1,.slice ar e.2.2.2.2.2.length ad] rfl (aK hc 0 _ ⟨[],rfl⟩) (wV rfl ?_)
     refine aa ?_
     refine VO.call rfl rfl (fk Tryz.func28) (fun sD Fc wj=>(bJ e.2.2.1 e.2.2.2.2.1 e.2.2.2.1 e.2.2.2.2.2 _ sD (g0.kp (Kp.of (U:=UU) wj)) ab ab).mono ?_)
     rintro e w8 ⟨r8,rfl,q8,qf⟩
     obtain ⟨vp,vc,vr,vd,rfl,-⟩:=q8.raw.fV
     refine ⟨_,rfl,qf,fun wk _ Kd=>wV rfl ?_⟩
     refine aa ?_
     refine VO.vw (cK _ _) (eH kk) (t:=62) (e:=106) (s:=69) (i:=70) (n:=z) (c:=FP) (vs:=us) (sp:=oP) (es:=X.2.take z) (a:=e) (cs:=[.int .i64 e.1,.int .i64 e.2.1,.bool e.2.2.1,.slice vp e.2.2.2.1.length vc,.bool e.2.2.2.2.1,.slice vr e.2.2.2.2.2.length vd]) rfl rfl rfl rfl rfl rfl rfl rfl (bu rfl) rfl (.inr rfl) rfl (hU.kp (eH kk) aU) rfl ⟨[.bool e.2.2.1,.slice vp e.2.2.2.1.length vc,.bool e.2.2.2.2.1,.slice vr e.2.2.2.2.2.length vd],rfl,⟨_,_,_,_,rfl,q8.raw.kp aU⟩,⟨f0,h0⟩⟩ ab (fun w9 iz oi ρ k9 b9 fJ Uy=>wV rfl ?_)
     refine aa ?_
     refine VS.back (n - (z + 1)) ab ⟨_,_,?_,?_,?_,?_,⟨z + 1,by omega,rfl,.inr ⟨by omega,_,oi,iz,rfl,rfl,by rw [bS he];exact Uy⟩⟩⟩
     ·refine ⟨rfl,rfl,rfl,?_,trivial⟩
      rw [<-aF (i:=z) ab];rfl
     ·exact cd
     ·rfl
     ·exact ⟨.lit rfl,.lit rfl,.lit rfl,Uy.iU,trivial⟩
    ·refine VS.aQ rfl (decide_eq_false (fun e=>hlt (Int.ofNat_lt.1 e))) ?_
     obtain rfl:z=n:=by omega
     refine aa ?_
     refine VS.lp (cK _ _) rfl (fun wz β kz bz en=> ?_)
     rw [List.take_of_length_le ab] at hU
     exact ⟨_,_,rfl,.inl ⟨rfl,List.length_eq_zero_iff.1 ab⟩,hU.new (eH kk) (en.own 70 _ _ rfl) kz,bz⟩
 ·refine aa ?_
  by_cases hlt:z < N
  ·obtain ⟨e,he⟩:∃ e,X.1[z]? =some e:=⟨_,List.getElem?_eq_getElem ab⟩
   obtain ⟨b,off,eW,fQ,hc,⟨_,_,_,_,_,_,_,rfl,⟨⟨NI,NJ,NK,NL,rfl,g0⟩,⟨f0,j0⟩⟩,⟨⟨NM,NN,NP,NQ,rfl,g1⟩,⟨f1,j1⟩⟩,⟨⟨NR,NS,NT,NU,rfl,g2⟩,⟨f2,j2⟩⟩,⟨⟨NV,NW,NX,NY,rfl,g3⟩,⟨f3,j3⟩⟩,⟨⟨NZ,Oa,Ob,Oc,rfl,g4⟩,⟨f4,j4⟩⟩,⟨⟨Od,Oe,Og,Oh,rfl,g5⟩,⟨f5,j5⟩⟩,⟨⟨Oi,Oj,Ol,Om,rfl,g6⟩,⟨f6,j6⟩⟩⟩⟩:=h1.at he
   subst fQ
   refine VS.aP rfl (decide_eq_true (Int.ofNat_lt.2 hlt)) ?_
   refine aa ?_
   refine VO.cond rfl dw ?_
   refine wV rfl ?_
   refine aa ?_
   refine VO.read rfl [.bool e.aW.1,.slice NI e.aW.2.1.length NJ,.bool e.aW.2.2.1,.slice NK e.aW.2.2.2.length NL,.bool e.allowed.1,.slice NM e.allowed.2.1.length NN,.bool e.allowed.2.2.1,.slice NP e.allowed.2.2.2.length NQ,.bool e.aE.1,.slice NR e.aE.2.1.length NS,.bool e.aE.2.2.1,.slice NT e.aE.2.2.2.length NU,.bool e.used.1,.slice NV e.used.2.1.length NW,.bool e.used.2.2.1,.slice NX e.used.2.2.2.length NY,.bool e.au.1,.slice NZ e.au.2.1.length Oa,.bool e.au.2.2.1,.slice Ob e.au.2.2.2.length Oc,.bool e.ao.1,.slice Od e.ao.2.1.length Oe,.bool e.ao.2.2.1,.slice Og e.ao.2.2.2.length Oh,.bool e.closing.1,.slice Oi e.closing.2.1.length Oj,.bool e.closing.2.2.1,.slice Ol e.closing.2.2.2.length Om] rfl (aK hc 0 _ ⟨[],rfl⟩) (wV rfl ?_)
   refine aa ?_
   refine VO.call rfl rfl (fk Tryz.func28) (fun bD cQ bG=>(bJ e.aW.1 e.aW.2.2.1 e.aW.2.1 e.aW.2.2.2 _ bD (g0.kp (Kp.of (U:=UU) bG)) ab ab).mono ?_)
   rintro e w1 ⟨r1,rfl,q1,aI⟩
   obtain ⟨v0p,v0c,v0r,v0d,rfl,-⟩:=q1.raw.fV
   refine ⟨_,rfl,aI,fun dt _ bb1=>wV rfl ?_⟩
   refine aa ?_
   refine VO.call rfl rfl (fk Tryz.func28) (fun cG dQ cV=>(bJ e.allowed.1 e.allowed.2.2.1 e.allowed.2.1 e.allowed.2.2.2 _ cG (g1.kp (Kp.of (U:=UU) cV)) ab ab).mono ?_)
   rintro e w2 ⟨r2,rfl,q2,ba⟩
   obtain ⟨Nz,NA,NB,NC,rfl,-⟩:=q2.raw.fV
   refine ⟨_,rfl,ba,fun dR _ bb2=>wV rfl ?_⟩
   refine aa ?_
   refine VO.call rfl rfl (fk Tryz.func28) (fun eX fF fM=>(bJ e.aE.1 e.aE.2.2.1 e.aE.2.1 e.aE.2.2.2 _ eX (g2.kp (Kp.of (U:=UU) fM)) ab ab).mono ?_)
   rintro e w3 ⟨r3,rfl,q3,cC⟩
   obtain ⟨ND,NF,NG,NH,rfl,-⟩:=q3.raw.fV
   refine ⟨_,rfl,cC,fun gZ _ bb3=>wV rfl ?_⟩
   refine aa ?_
   refine VO.call rfl rfl (fk Tryz.func28) (fun jg kZ kt=>(bJ e.used.1 e.used.2.2.1 e.used.2.1 e.used.2.2.2 _ jg (g3.kp (Kp.of (U:=UU) kt)) ab ab).mono ?_)
   rintro e w4 ⟨r4,rfl,q4,fq⟩
   obtain ⟨v3p,v3c,v3r,v3d,rfl,-⟩:=q4.raw.fV
   refine ⟨_,rfl,fq,fun lz _ tH=>wV rfl ?_⟩
   refine aa ?_
   refine VO.call rfl rfl (fk Tryz.func28) (fun gE ju ia=>(bJ e.au.1 e.au.2.2.1 e.au.2.1 e.au.2.2.2 _ gE (g4.kp (Kp.of (U:=UU) ia)) ab ab).mono ?_)
   rintro e w5 ⟨r5,rfl,q5,eP⟩
   obtain ⟨v4p,v4c,v4r,v4d,rfl,-⟩:=q5.raw.fV
   refine ⟨_,rfl,eP,fun jV _ qu=>wV rfl ?_⟩
   refine aa ?_
   refine VO.call rfl rfl (fk Tryz.func28) (fun gF ld iC=>(bJ e.ao.1 e.ao.2.2.1 e.ao.2.1 e.ao.2.2.2 _ gF (g5.kp (Kp.of (U:=UU) iC)) ab ab).mono ?_)
   rintro e w6 ⟨r6,rfl,q6,fK⟩
   obtain ⟨v5p,v5c,v5r,v5d,rfl,-⟩:=q6.raw.fV
   refine ⟨_,rfl,fK,fun lG _ pO=>wV rfl ?_⟩
   refine aa ?_
   refine VO.call rfl rfl (fk Tryz.func28) (fun mW tJ lH=>(bJ e.closing.1 e.closing.2.2.1 e.closing.2.1 e.closing.2.2.2 _ mW (g6.kp (Kp.of (U:=UU) lH)) ab ab).mono ?_)
   rintro e w7 ⟨r7,rfl,q7,lL⟩
   obtain ⟨v6p,v6c,v6r,v6d,rfl,-⟩:=q7.raw.fV
   refine ⟨_,rfl,lL,fun sU _ Cy=>wV rfl ?_⟩
   refine aa ?_
   refine VO.vw (cK _ _) (dH kk) (t:=61) (e:=108) (s:=44) (i:=45) (n:=z) (c:=cap) (vs:=vs) (sp:=sp) (es:=X.1.take z) (a:=e) (cs:=[.bool e.aW.1,.slice v0p e.aW.2.1.length v0c,.bool e.aW.2.2.1,.slice v0r e.aW.2.2.2.length v0d,.bool e.allowed.1,.slice Nz e.allowed.2.1.length NA,.bool e.allowed.2.2.1,.slice NB e.allowed.2.2.2.length NC,.bool e.aE.1,.slice ND e.aE.2.1.length NF,.bool e.aE.2.2.1,.slice NG e.aE.2.2.2.length NH,.bool e.used.1,.slice v3p e.used.2.1.length v3c,.bool e.used.2.2.1,.slice v3r e.used.2.2.2.length v3d,.bool e.au.1,.slice v4p e.au.2.1.length v4c,.bool e.au.2.2.1,.slice v4r e.au.2.2.2.length v4d,.bool e.ao.1,.slice v5p e.ao.2.1.length v5c,.bool e.ao.2.2.1,.slice v5r e.ao.2.2.2.length v5d,.bool e.closing.1,.slice v6p e.closing.2.1.length v6c,.bool e.closing.2.2.1,.slice v6r e.closing.2.2.2.length v6d]) rfl rfl rfl rfl rfl rfl rfl rfl (bu rfl) rfl (.inr rfl) rfl (FN.kp (dH kk) aU) rfl ⟨[.bool e.aW.1,.slice v0p e.aW.2.1.length v0c,.bool e.aW.2.2.1,.slice v0r e.aW.2.2.2.length v0d],[.bool e.allowed.1,.slice Nz e.allowed.2.1.length NA,.bool e.allowed.2.2.1,.slice NB e.allowed.2.2.2.length NC],[.bool e.aE.1,.slice ND e.aE.2.1.length NF,.bool e.aE.2.2.1,.slice NG e.aE.2.2.2.length NH],[.bool e.used.1,.slice v3p e.used.2.1.length v3c,.bool e.used.2.2.1,.slice v3r e.used.2.2.2.length v3d],[.bool e.au.1,.slice v4p e.au.2.1.length v4c,.bool e.au.2.2.1,.slice v4r e.au.2.2.2.length v4d],[.bool e.ao.1,.slice v5p e.ao.2.1.length v5c,.bool e.ao.2.2.1,.slice v5r e.ao.2.2.2.length v5d],[.bool e.closing.1,.slice v6p e.closing.2.1.length v6c,.bool e.closing.2.2.1,.slice v6r e.closing.2.2.2.length v6d],rfl,⟨⟨_,_,_,_,rfl,q1.raw.kp aU⟩,⟨f0,j0⟩⟩,⟨⟨_,_,_,_,rfl,q2.raw.kp aU⟩,⟨f1,j1⟩⟩,⟨⟨_,_,_,_,rfl,q3.raw.kp aU⟩,⟨f2,j2⟩⟩,⟨⟨_,_,_,_,rfl,q4.raw.kp aU⟩,⟨f3,j3⟩⟩,⟨⟨_,_,_,_,rfl,q5.raw.kp aU⟩,⟨f4,j4⟩⟩,⟨⟨_,_,_,_,rfl,q6.raw.kp aU⟩,⟨f5,j5⟩⟩,⟨⟨_,_,_,_,rfl,q7.raw.kp aU⟩,⟨f6,j6⟩⟩⟩ ab (fun w8 iz oi ρ k8 b8 fJ Ux=>wV rfl ?_)
   refine aa ?_
   refine VS.back (N - (z + 1)) ab ⟨_,_,?_,?_,?_,?_,⟨z + 1,by omega,rfl,.inr ⟨by omega,_,oi,iz,rfl,rfl,by rw [bS he];exact Ux⟩⟩⟩
   ·refine ⟨rfl,rfl,rfl,?_,trivial⟩
    rw [<-aF (i:=z) ab];rfl
   ·exact cd
   ·rfl
   ·exact ⟨.lit rfl,.lit rfl,.lit rfl,Ux.iU,trivial⟩
  ·refine VS.aQ rfl (decide_eq_false (fun e=>hlt (Int.ofNat_lt.1 e))) ?_
   have LK:z=N:=by omega
   rw [LK] at FN ⊢
   clear LK hlt hz jB
   rw [List.take_of_length_le ab] at FN
   refine aa ?_
   refine VS.loop (J:=fun m L M w'=>∃ z:Nat,z≤n/\m=n - z/\iy (lS kk) 28 w' N cap vs sp X.1/\
    ((z=0/\L=[(1,.box 1 0),(2,.box 2 0),(3,.box 3 0),(6,.val (.int .i64 (z:Int)))]/\M=[(1,(36,[.val (.slice rp N rc),.val (.slice up n uc)])),(2,(64,[.val (.slice none 0 0),.val (.slice none 0 0)])),(3,(64,[.row 45 0 N cap,.val (.slice none 0 0)])),(45,(108,vs.flatten.map .val++sp))])\/
     (0 < z/\∃ us oP FP,L=[(1,.box 1 0),(2,.box 2 0),(3,.box 3 0),(6,.val (.int .i64 (z:Int)))]/\M=[(1,(36,[.val (.slice rp N rc),.val (.slice up n uc)])),(2,(64,[.val (.slice none 0 0),.val (.slice none 0 0)])),(3,(64,[.row 45 0 N cap,.row 70 0 z FP])),(45,(108,vs.flatten.map .val++sp)),(70,(106,us.flatten.map .val++oP))]/\iy (na kk) 6 w' z FP us oP (X.2.take z)))) n ⟨_,_,?_,?_,?_,?_,⟨0,by omega,rfl,FN,.inl ⟨rfl,rfl,rfl⟩⟩⟩ ?_
   ·exact cd
   ·exact cd
   ·rfl
   ·exact ⟨.lit rfl,.lit rfl,.lit rfl,FN.iU,trivial⟩
   rintro m2 L2 M2 wL ⟨z,hz,rfl,hR,⟨rfl,rfl,rfl⟩ | ⟨jB,us,oP,FP,rfl,rfl,hU⟩⟩
   ·refine aa ?_
    by_cases hlt:(0:Nat) < n
    ·obtain ⟨e,he⟩:∃ e,X.2[0]? =some e:=⟨_,List.getElem?_eq_getElem ab⟩
     obtain ⟨b,off,eW,fQ,hc,⟨_,rfl,⟨ap,ac,ar,ad,rfl,g0⟩,⟨f0,h0⟩⟩⟩:=h2.at he
     subst fQ
     refine VS.aP rfl (decide_eq_true (Int.ofNat_lt.2 hlt)) ?_
     refine aa ?_
     refine VO.cond rfl dw ?_
     refine wV rfl ?_
     refine aa ?_
     refine VO.read rfl [.int .i64 e.1,.int .i64 e.2.1,.bool e.2.2.1,.slice ap e.2.2.2.1.length ac,.bool e.2.2.2.2.1,.slice ar e.2.2.2.2.2.length ad] rfl (aK hc 0 _ ⟨[],rfl⟩) (wV rfl ?_)
     refine aa ?_
     refine VO.call rfl rfl (fk Tryz.func28) (fun sD Fc wj=>(bJ e.2.2.1 e.2.2.2.2.1 e.2.2.2.1 e.2.2.2.2.2 _ sD (g0.kp (Kp.of (U:=UU) wj)) ab ab).mono ?_)
     rintro e w8 ⟨r8,rfl,q8,qf⟩
     obtain ⟨vp,vc,vr,vd,rfl,-⟩:=q8.raw.fV
     refine ⟨_,rfl,qf,fun wk _ Kd=>wV rfl ?_⟩
     refine aa ?_
     refine VO.BK (cK _ _) (eH kk) (t:=62) (e:=106) (s:=69) (a:=e) (cs:=[.int .i64 e.1,.int .i64 e.2.1,.bool e.2.2.1,.slice vp e.2.2.2.1.length vc,.bool e.2.2.2.2.1,.slice vr e.2.2.2.2.2.length vd]) rfl rfl rfl rfl rfl rfl rfl rfl (bu rfl) rfl rfl rfl ⟨[.bool e.2.2.1,.slice vp e.2.2.2.1.length vc,.bool e.2.2.2.2.1,.slice vr e.2.2.2.2.2.length vd],rfl,⟨_,_,_,_,rfl,q8.raw.kp aU⟩,⟨f0,h0⟩⟩ ab (fun w9 iz oi k9 b9 Uy=>wV rfl ?_)
     refine aa ?_
     refine VS.back (n - (0 + 1)) ab ⟨_,_,?_,?_,?_,?_,⟨1,by omega,rfl,hR.kp (dH kk) aU,.inr ⟨by omega,_,oi,iz,rfl,rfl,by rw [nJ he];exact Uy⟩⟩⟩
     ·exact cd
     ·exact cd
     ·rfl
     ·exact ⟨.lit rfl,.lit rfl,.lit rfl,hR.iU,Uy.iU,trivial⟩
    ·refine VS.aQ rfl (decide_eq_false (fun e=>hlt (Int.ofNat_lt.1 e))) ?_
     obtain rfl:n=0:=by omega
     refine aa ?_
     refine VS.lp (cK _ _) rfl (fun wz β kz bz en=> ?_)
     exact ⟨_,_,rfl,hR.new (dH kk) (en.own 45 _ _ rfl) kz,.inl ⟨rfl,List.length_eq_zero_iff.1 uX.symm⟩,bz⟩
   ·refine aa ?_
    by_cases hlt:z < n
    ·obtain ⟨e,he⟩:∃ e,X.2[z]? =some e:=⟨_,List.getElem?_eq_getElem ab⟩
     obtain ⟨b,off,eW,fQ,hc,⟨_,rfl,⟨ap,ac,ar,ad,rfl,g0⟩,⟨f0,h0⟩⟩⟩:=h2.at he
     subst fQ
     refine VS.aP rfl (decide_eq_true (Int.ofNat_lt.2 hlt)) ?_
     refine aa ?_
     refine VO.cond rfl dw ?_
     refine wV rfl ?_
     refine aa ?_
     refine VO.read rfl [.int .i64 e.1,.int .i64 e.2.1,.bool e.2.2.1,.slice ap e.2.2.2.1.length ac,.bool e.2.2.2.2.1,.slice ar e.2.2.2.2.2.length ad] rfl (aK hc 0 _ ⟨[],rfl⟩) (wV rfl ?_)
     refine aa ?_
     refine VO.call rfl rfl (fk Tryz.func28) (fun sD Fc wj=>(bJ e.2.2.1 e.2.2.2.2.1 e.2.2.2.1 e.2.2.2.2.2 _ sD (g0.kp (Kp.of (U:=UU) wj)) ab ab).mono ?_)
     rintro e w8 ⟨r8,rfl,q8,qf⟩
     obtain ⟨vp,vc,vr,vd,rfl,-⟩:=q8.raw.fV
     refine ⟨_,rfl,qf,fun wk _ Kd=>wV rfl ?_⟩
     refine aa ?_
     refine VO.vw (cK _ _) (eH kk) (t:=62) (e:=106) (s:=69) (i:=70) (n:=z) (c:=FP) (vs:=us) (sp:=oP) (es:=X.2.take z) (a:=e) (cs:=[.int .i64 e.1,.int .i64 e.2.1,.bool e.2.2.1,.slice vp e.2.2.2.1.length vc,.bool e.2.2.2.2.1,.slice vr e.2.2.2.2.2.length vd]) rfl rfl rfl rfl rfl rfl rfl rfl (bu rfl) rfl (.inr rfl) rfl (hU.kp (eH kk) aU) rfl ⟨[.bool e.2.2.1,.slice vp e.2.2.2.1.length vc,.bool e.2.2.2.2.1,.slice vr e.2.2.2.2.2.length vd],rfl,⟨_,_,_,_,rfl,q8.raw.kp aU⟩,⟨f0,h0⟩⟩ ab (fun w9 iz oi ρ k9 b9 fJ Uy=>VO.dI 45 rfl (cL hR.cT _ _) (wV rfl ?_))
     refine aa ?_
     refine VS.back (n - (z + 1)) ab ⟨_,_,?_,?_,?_,?_,⟨z + 1,by omega,rfl,hR.kp (dH kk) aU,.inr ⟨by omega,_,oi,iz,rfl,rfl,by rw [bS he];exact Uy⟩⟩⟩
     ·refine ⟨rfl,rfl,rfl,?_,trivial⟩
      rw [<-aF (i:=z) ab];rfl
     ·exact cd
     ·rfl
     ·exact ⟨.lit rfl,.lit rfl,.lit rfl,hR.iU,Uy.iU,trivial⟩
    ·refine VS.aQ rfl (decide_eq_false (fun e=>hlt (Int.ofNat_lt.1 e))) ?_
     obtain rfl:z=n:=by omega
     refine aa ?_
     refine VS.lp (cK _ _) rfl (fun wz β kz bz en=> ?_)
     rw [List.take_of_length_le ab] at hU
     exact ⟨_,_,rfl,hR.new (dH kk) (en.own 45 _ _ rfl) kz,hU.new (eH kk) (en.own 70 _ _ rfl) kz,bz⟩
set_option maxRecDepth 4000
def Gz {α β:Type} [DecidableEq β] (f:α->β) (xs ys:List α):Bool:=decide (xs.map f=ys.map f)
section
variable {α β:Type} [DecidableEq β] {f:α->β} {xs ys:List α}
theorem vU (h:xs.length≠ys.length):Gz f xs ys=false:=decide_eq_false (fun e=>h (by have:=congrArg List.length e;simpa using this))
theorem tZ {z:Nat} {a b:α} (ha:xs[z]? =some a) (hb:ys[z]? =some b) (h:f a≠f b):Gz f xs ys=false:=decide_eq_false (fun e=>h (by
 have:=congrArg (fun l=>l[z]?) e
 simpa [List.getElem?_map,ha,hb] using this))
theorem rP {z:Nat} {a b:α} (ha:xs[z]? =some a) (hb:ys[z]? =some b) (h:(xs.take z).map f=(ys.take z).map f) (e:f a=f b):(xs.take (z + 1)).map f=(ys.take (z + 1)).map f:=by
 rw [bS ha,bS hb,List.map_append,List.map_append,h,List.map_singleton,List.map_singleton,e]
theorem vV {z:Nat} (h:xs.length=ys.length) (hz:xs.length≤z) (e:(xs.take z).map f=(ys.take z).map f):Gz f xs ys=true:=by
 rw [List.take_of_length_le hz,List.take_of_length_le ab] at e
 exact decide_eq_true e
end
set_option maxRecDepth 4000 in
theorem Qz (v u:Value) (xs ys:List RR) (kk:Nat) (w:World) (hx:cO (Rw kk) 4 w v xs) (hy:cO (Rw kk) 4 w u ys) (hk:kk≤1000000):
  Calls Tryz.prog 90 #[v,u,.func (.func 91) #[] #[]] w fun o w'=>o=.returned (.bool (Gz RR.q xs ys))/\aL w w':=by
 obtain ⟨p,c,rfl,hpc,hpm⟩:=hx.form
 obtain ⟨q,d,rfl,hqd,hqm⟩:=hy.form
 obtain ⟨N,hN⟩:∃ N,N=xs.length:=⟨_,rfl⟩
 obtain ⟨n,hn⟩:∃ n,n=ys.length:=⟨_,rfl⟩
 rw [<-hN] at hx hpc
 rw [<-hn] at hy hqd
 rw [<-hN,<-hn]
 refine ag (C:=bP Tryz.prog w _) (args:=[_,_,_]) Tryz.func90 rfl Tryz.ntmps90 (bu rfl) ?_
 refine aa ?_
 by_cases hNn:N=n
 ·refine VS.aQ rfl (BJ ab) ?_
  refine aa ?_
  refine VS.loop (J:=fun m L M w'=>∃ z:Nat,z≤N/\m=N - z/\(xs.take z).map RR.q=(ys.take z).map RR.q/\L=[(1,.val (.slice q n d)),(2,.val (.func (.func 91) #[] #[])),(15,.val (.slice p N c)),(16,.val (.int .i64 (N:Int))),(17,.val (.int .i64 (z:Int)))]/\M=[]) N ⟨_,_,?_,?_,?_,?_,⟨0,by omega,rfl,rfl,rfl,rfl⟩⟩ ?_
  ·exact cd
  ·exact cd
  ·rfl
  ·exact iD
  rintro m L M w1 ⟨z,hz,rfl,fY,rfl,rfl⟩
  refine aa ?_
  by_cases hlt:z < N
  ·obtain ⟨e,he⟩:∃ e,xs[z]? =some e:=⟨_,List.getElem?_eq_getElem ab⟩
   obtain ⟨e',qi⟩:∃ e,ys[z]? =some e:=⟨_,List.getElem?_eq_getElem ab⟩
   obtain ⟨b,off,cs,fQ,hc,hE⟩:=hx.at he
   obtain ⟨b',aX,eW,FQ,hc',QA⟩:=hy.at qi
   subst fQ
   subst FQ
   have hE0:=hE
   have FR:=QA
   obtain ⟨⟨ap,ac,ar,ad,rfl,ha⟩,hf⟩:=hE
   obtain ⟨⟨bp,bc,br,bd,rfl,ha'⟩,hf'⟩:=QA
   refine VS.aP rfl (decide_eq_true (Int.ofNat_lt.2 hlt)) ?_
   refine aa ?_
   refine VO.cond rfl dw ?_
   refine wV rfl ?_
   refine aa ?_
   refine VO.read rfl [.bool e.1,.slice ap e.2.1.length ac,.bool e.2.2.1,.slice ar e.2.2.2.length ad] rfl (aK hc 0 _ ⟨[],rfl⟩) (wV rfl ?_)
   refine aa ?_
   refine VO.cond rfl dw ?_
   refine wV rfl ?_
   refine aa ?_
   refine VO.read rfl [.bool e'.1,.slice bp e'.2.1.length bc,.bool e'.2.2.1,.slice br e'.2.2.2.length bd] rfl (aK hc' 0 _ ⟨[],rfl⟩) (wV rfl ?_)
   refine aa ?_
   by_cases heq:RR.q e=RR.q e'
   ·refine VO.call rfl rfl (fk Tryz.func91) (fun bD cQ bG=>(BG _ _ e.q e'.q kk kk bD ((ha.kp (Kp.of (U:=UU) bG)).iq hf) ((ha'.kp (Kp.of (U:=UU) bG)).iq hf') ab ab true (decide_eq_true heq)).mono ?_)
    rintro e w1 ⟨rfl,aI⟩
    skip
    refine ⟨_,rfl,aI,fun dt _ bb1=>wV rfl ?_⟩
    refine aa ?_
    refine VS.back (N - (z + 1)) ab ⟨_,_,?_,?_,?_,?_,⟨z + 1,by omega,rfl,rP he qi fY heq,rfl,rfl⟩⟩
    ·refine ⟨rfl,rfl,rfl,rfl,?_,trivial⟩
     rw [<-aF (i:=z) ab];rfl
    ·exact cd
    ·rfl
    ·exact iD
   ·refine VO.call rfl rfl (fk Tryz.func91) (fun bD cQ bG=>(BG _ _ e.q e'.q kk kk bD ((ha.kp (Kp.of (U:=UU) bG)).iq hf) ((ha'.kp (Kp.of (U:=UU) bG)).iq hf') ab ab false (decide_eq_false heq)).mono ?_)
    rintro e w1 ⟨rfl,aI⟩
    skip
    refine ⟨_,rfl,aI,fun dt _ bb1=>wV rfl ?_⟩
    refine aa ?_
    refine aR ?_;intro wz kz bz
    exact ⟨by rw [tZ he qi heq];rfl,bz⟩
  ·refine VS.aQ rfl (decide_eq_false (fun e=>hlt (Int.ofNat_lt.1 e))) ?_
   refine aa ?_
   refine aR ?_;intro wz kz bz
   exact ⟨by rw [vV ab ab fY];rfl,bz⟩
 ·refine VS.aP rfl (BI ab) ?_
  refine aa ?_
  refine aR ?_;intro wz kz bz
  exact ⟨by rw [vU ab];rfl,bz⟩
theorem Uz (kk:Nat):gL (Rw kk) 4 where
 kp:=fun h k=>h.kp k
 len:=fun h=>h.1.len
 ok:=fun h=>h.1.ok
def ed.l (r:ed):List RR:=[r.aW,r.allowed,r.aE,r.used,r.au,r.ao,r.closing]
theorem rowl_eq (a b:ed):Gz RR.q a.l b.l=decide (a.q=b.q):=by
 unfold Gz ed.l ed.q
 simp only [List.map_cons,List.map_nil,List.cons.injEq,and_true,aM.mk.injEq]
set_option maxRecDepth 4000 in
theorem JH (v u:Value) (cs eW:List Value) (a b:ed) (kk:Nat) (w:World) (hv:v=.agg cs.toArray) (hu:u=.agg eW.toArray) (ha:lS kk w cs a) (hb:lS kk w eW b) (hk:kk≤1000000):
  Calls Tryz.prog 56 #[v,u] w fun o w'=>o=.returned (.bool (decide (a.q=b.q)))/\aL w w':=by
 obtain ⟨_,_,_,_,_,_,_,rfl,⟨⟨NI,NJ,NK,NL,rfl,g0⟩,gf0⟩,⟨⟨NM,NN,NP,NQ,rfl,g1⟩,gf1⟩,⟨⟨NR,NS,NT,NU,rfl,g2⟩,gf2⟩,⟨⟨NV,NW,NX,NY,rfl,g3⟩,gf3⟩,⟨⟨NZ,Oa,Ob,Oc,rfl,g4⟩,gf4⟩,⟨⟨Od,Oe,Og,Oh,rfl,g5⟩,gf5⟩,⟨⟨Oi,Oj,Ol,Om,rfl,g6⟩,gf6⟩⟩:=ha
 obtain ⟨_,_,_,_,_,_,_,rfl,⟨⟨y0p,y0c,y0r,y0d,rfl,h0⟩,hf0⟩,⟨⟨y1p,y1c,y1r,y1d,rfl,h1⟩,Ss⟩,⟨⟨y2p,y2c,y2r,y2d,rfl,h2⟩,St⟩,⟨⟨y3p,y3c,y3r,y3d,rfl,h3⟩,hf3⟩,⟨⟨y4p,y4c,y4r,y4d,rfl,h4⟩,hf4⟩,⟨⟨y5p,y5c,y5r,y5d,rfl,h5⟩,hf5⟩,⟨⟨y6p,y6c,y6r,y6d,rfl,h6⟩,hf6⟩⟩:=hb
 subst hv
 subst hu
 refine ag (C:=bP Tryz.prog w _) (args:=[_,_]) Tryz.func56 rfl Tryz.ntmps56 (bu rfl) ?_
 refine aa ?_
 refine VO.ee rfl (fk Tryz.func90) (fun bD β cQ bG ho=>(Qz _ _ a.l b.l kk bD
  (im (Uz kk) (ho.own 21 (.base List.mem_cons_self) _ _ rfl) [] (vs:=[[.bool a.aW.1,.slice NI a.aW.2.1.length NJ,.bool a.aW.2.2.1,.slice NK a.aW.2.2.2.length NL],[.bool a.allowed.1,.slice NM a.allowed.2.1.length NN,.bool a.allowed.2.2.1,.slice NP a.allowed.2.2.2.length NQ],[.bool a.aE.1,.slice NR a.aE.2.1.length NS,.bool a.aE.2.2.1,.slice NT a.aE.2.2.2.length NU],[.bool a.used.1,.slice NV a.used.2.1.length NW,.bool a.used.2.2.1,.slice NX a.used.2.2.2.length NY],[.bool a.au.1,.slice NZ a.au.2.1.length Oa,.bool a.au.2.2.1,.slice Ob a.au.2.2.2.length Oc],[.bool a.ao.1,.slice Od a.ao.2.1.length Oe,.bool a.ao.2.2.1,.slice Og a.ao.2.2.2.length Oh],[.bool a.closing.1,.slice Oi a.closing.2.1.length Oj,.bool a.closing.2.2.1,.slice Ol a.closing.2.2.2.length Om]]) rfl (bL.cons (cs:=_) ⟨⟨_,_,_,_,rfl,g0.kp (Kp.of (U:=UU) bG)⟩,gf0⟩ (bL.cons (cs:=_) ⟨⟨_,_,_,_,rfl,g1.kp (Kp.of (U:=UU) bG)⟩,gf1⟩ (bL.cons (cs:=_) ⟨⟨_,_,_,_,rfl,g2.kp (Kp.of (U:=UU) bG)⟩,gf2⟩ (bL.cons (cs:=_) ⟨⟨_,_,_,_,rfl,g3.kp (Kp.of (U:=UU) bG)⟩,gf3⟩ (bL.cons (cs:=_) ⟨⟨_,_,_,_,rfl,g4.kp (Kp.of (U:=UU) bG)⟩,gf4⟩ (bL.cons (cs:=_) ⟨⟨_,_,_,_,rfl,g5.kp (Kp.of (U:=UU) bG)⟩,gf5⟩ (bL.cons (cs:=_) ⟨⟨_,_,_,_,rfl,g6.kp (Kp.of (U:=UU) bG)⟩,gf6⟩ (bL.nil)))))))) rfl (Nat.le_refl 7) bW)
  (im (Uz kk) (ho.own 36 (.base (List.mem_cons_of_mem _ List.mem_cons_self)) _ _ rfl) [] (vs:=[[.bool b.aW.1,.slice y0p b.aW.2.1.length y0c,.bool b.aW.2.2.1,.slice y0r b.aW.2.2.2.length y0d],[.bool b.allowed.1,.slice y1p b.allowed.2.1.length y1c,.bool b.allowed.2.2.1,.slice y1r b.allowed.2.2.2.length y1d],[.bool b.aE.1,.slice y2p b.aE.2.1.length y2c,.bool b.aE.2.2.1,.slice y2r b.aE.2.2.2.length y2d],[.bool b.used.1,.slice y3p b.used.2.1.length y3c,.bool b.used.2.2.1,.slice y3r b.used.2.2.2.length y3d],[.bool b.au.1,.slice y4p b.au.2.1.length y4c,.bool b.au.2.2.1,.slice y4r b.au.2.2.2.length y4d],[.bool b.ao.1,.slice y5p b.ao.2.1.length y5c,.bool b.ao.2.2.1,.slice y5r b.ao.2.2.2.length y5d],[.bool b.closing.1,.slice y6p b.closing.2.1.length y6c,.bool b.closing.2.2.1,.slice y6r b.closing.2.2.2.length y6d]]) rfl (bL.cons (cs:=_) ⟨⟨_,_,_,_,rfl,h0.kp (Kp.of (U:=UU) bG)⟩,hf0⟩ (bL.cons (cs:=_) ⟨⟨_,_,_,_,rfl,h1.kp (Kp.of (U:=UU) bG)⟩,Ss⟩ (bL.cons (cs:=_) ⟨⟨_,_,_,_,rfl,h2.kp (Kp.of (U:=UU) bG)⟩,St⟩ (bL.cons (cs:=_) ⟨⟨_,_,_,_,rfl,h3.kp (Kp.of (U:=UU) bG)⟩,hf3⟩ (bL.cons (cs:=_) ⟨⟨_,_,_,_,rfl,h4.kp (Kp.of (U:=UU) bG)⟩,hf4⟩ (bL.cons (cs:=_) ⟨⟨_,_,_,_,rfl,h5.kp (Kp.of (U:=UU) bG)⟩,hf5⟩ (bL.cons (cs:=_) ⟨⟨_,_,_,_,rfl,h6.kp (Kp.of (U:=UU) bG)⟩,hf6⟩ (bL.nil)))))))) rfl (Nat.le_refl 7) bW) hk).mono ?_)
 rintro o w1 ⟨rfl,aI⟩
 rw [rowl_eq]
 refine ⟨_,rfl,aI,fun dt _ bb1=>wV rfl ?_⟩
 refine aa ?_
 refine aR ?_;intro wz kz bz
 exact ⟨rfl,bz⟩
theorem Ci (v u:Value) (cs eW:List Value) (a b:ed) (kk:Nat) (w:World) (hv:v=.agg cs.toArray) (hu:u=.agg eW.toArray) (ha:lS kk w cs a) (hb:lS kk w eW b) (hk:kk≤1000000) (x:Bool) (hx:decide (a.q=b.q)=x):
 Calls Tryz.prog 56 #[v,u] w fun o w'=>o=.returned (.bool x)/\aL w w':=hx▸JH v u cs eW a b kk w hv hu ha hb hk
theorem On {a b:dD} (h:a.1≠b.1\/a.2.1≠b.2.1\/a.2.2.q≠b.2.2.q):decide (a.q=b.q)=false:=by
 refine decide_eq_false (fun e=> ?_)
 unfold dD.q at e
 simp only [Prod.mk.injEq] at e
 rcases h with h | h | h
 ·exact h e.1
 ·exact h e.2.1
 ·exact h e.2.2
theorem useq_eq {a b:dD} (h1:a.1=b.1) (h2:a.2.1=b.2.1):decide (a.q=b.q)=decide (a.2.2.q=b.2.2.q):=by
 unfold dD.q
 simp only [Prod.mk.injEq,h1,h2,true_and]
set_option maxRecDepth 4000 in
theorem JI (v u:Value) (cs eW:List Value) (a b:dD) (kk:Nat) (w:World) (hv:v=.agg cs.toArray) (hu:u=.agg eW.toArray) (ha:na kk w cs a) (hb:na kk w eW b) (hk:kk≤1000000):
  Calls Tryz.prog 58 #[v,u] w fun o w'=>o=.returned (.bool (decide (a.q=b.q)))/\aL w w':=by
 obtain ⟨_,rfl,⟨ap,ac,ar,ad,rfl,ha⟩,hf⟩:=ha
 obtain ⟨_,rfl,⟨bp,bc,br,bd,rfl,ha'⟩,hf'⟩:=hb
 subst hv
 subst hu
 refine ag (C:=bP Tryz.prog w _) (args:=[_,_]) Tryz.func58 rfl Tryz.ntmps58 (bu rfl) ?_
 refine aa ?_
 by_cases h1:a.1=b.1
 ·refine VO.fix 10 rfl (congrArg (fun b=>AV.val (.bool b)) (Te h1)) ?_
  refine aa ?_
  by_cases h2:a.2.1=b.2.1
  ·refine VO.fix 17 rfl (congrArg (fun b=>AV.val (.bool b)) (Te h2)) ?_
   refine aa ?_
   rw [useq_eq h1 h2]
   refine VO.call rfl rfl (fk Tryz.func91) (fun bD cQ bG=>(xU _ _ a.2.2.q b.2.2.q kk kk bD ((ha.kp (Kp.of (U:=UU) bG)).iq hf) ((ha'.kp (Kp.of (U:=UU) bG)).iq hf') ab ab).mono ?_)
   rintro e w1 ⟨rfl,aI⟩
   skip
   refine ⟨_,rfl,aI,fun dt _ bb1=>wV rfl ?_⟩
   refine aa ?_
   refine aR ?_;intro wz kz bz
   exact ⟨rfl,bz⟩
  ·refine VO.fix 17 rfl (congrArg (fun b=>AV.val (.bool b)) (Jh h2)) ?_
   refine aa ?_
   refine aR ?_;intro wz kz bz
   exact ⟨by rw [On (.inr (.inl h2))];rfl,bz⟩
 ·refine VO.fix 10 rfl (congrArg (fun b=>AV.val (.bool b)) (Jh h1)) ?_
  refine aa ?_
  refine aR ?_;intro wz kz bz
  exact ⟨by rw [On (.inl h1)];rfl,bz⟩
theorem Cj (v u:Value) (cs eW:List Value) (a b:dD) (kk:Nat) (w:World) (hv:v=.agg cs.toArray) (hu:u=.agg eW.toArray) (ha:na kk w cs a) (hb:na kk w eW b) (hk:kk≤1000000) (x:Bool) (hx:decide (a.q=b.q)=x):
 Calls Tryz.prog 58 #[v,u] w fun o w'=>o=.returned (.bool x)/\aL w w':=hx▸JI v u cs eW a b kk w hv hu ha hb hk
set_option maxRecDepth 4000 in
theorem QB (v u:Value) (xs ys:List ed) (kk:Nat) (w:World) (hx:cO (lS kk) 28 w v xs) (hy:cO (lS kk) 28 w u ys) (hk:kk≤1000000):
  Calls Tryz.prog 55 #[v,u,.func (.func 56) #[] #[]] w fun o w'=>o=.returned (.bool (Gz ed.q xs ys))/\aL w w':=by
 obtain ⟨p,c,rfl,hpc,hpm⟩:=hx.form
 obtain ⟨q,d,rfl,hqd,hqm⟩:=hy.form
 obtain ⟨N,hN⟩:∃ N,N=xs.length:=⟨_,rfl⟩
 obtain ⟨n,hn⟩:∃ n,n=ys.length:=⟨_,rfl⟩
 rw [<-hN] at hx hpc
 rw [<-hn] at hy hqd
 rw [<-hN,<-hn]
 refine ag (C:=bP Tryz.prog w _) (args:=[_,_,_]) Tryz.func55 rfl Tryz.ntmps55 (bu rfl) ?_
 refine aa ?_
 by_cases hNn:N=n
 ·refine VS.aQ rfl (BJ ab) ?_
  refine aa ?_
  refine VS.loop (J:=fun m L M w'=>∃ z:Nat,z≤N/\m=N - z/\(xs.take z).map ed.q=(ys.take z).map ed.q/\L=[(1,.val (.slice q n d)),(2,.val (.func (.func 56) #[] #[])),(15,.val (.slice p N c)),(16,.val (.int .i64 (N:Int))),(17,.val (.int .i64 (z:Int)))]/\M=[]) N ⟨_,_,?_,?_,?_,?_,⟨0,by omega,rfl,rfl,rfl,rfl⟩⟩ ?_
  ·exact cd
  ·exact cd
  ·rfl
  ·exact iD
  rintro m L M w1 ⟨z,hz,rfl,fY,rfl,rfl⟩
  refine aa ?_
  by_cases hlt:z < N
  ·obtain ⟨e,he⟩:∃ e,xs[z]? =some e:=⟨_,List.getElem?_eq_getElem ab⟩
   obtain ⟨e',qi⟩:∃ e,ys[z]? =some e:=⟨_,List.getElem?_eq_getElem ab⟩
   obtain ⟨b,off,cs,fQ,hc,hE⟩:=hx.at he
   obtain ⟨b',aX,eW,FQ,hc',QA⟩:=hy.at qi
   subst fQ
   subst FQ
   have hE0:=hE
   have FR:=QA
   obtain ⟨_,_,_,_,_,_,_,rfl,⟨⟨NI,NJ,NK,NL,rfl,g0⟩,gf0⟩,⟨⟨NM,NN,NP,NQ,rfl,g1⟩,gf1⟩,⟨⟨NR,NS,NT,NU,rfl,g2⟩,gf2⟩,⟨⟨NV,NW,NX,NY,rfl,g3⟩,gf3⟩,⟨⟨NZ,Oa,Ob,Oc,rfl,g4⟩,gf4⟩,⟨⟨Od,Oe,Og,Oh,rfl,g5⟩,gf5⟩,⟨⟨Oi,Oj,Ol,Om,rfl,g6⟩,gf6⟩⟩:=hE
   obtain ⟨_,_,_,_,_,_,_,rfl,⟨⟨y0p,y0c,y0r,y0d,rfl,h0⟩,hf0⟩,⟨⟨y1p,y1c,y1r,y1d,rfl,h1⟩,Ss⟩,⟨⟨y2p,y2c,y2r,y2d,rfl,h2⟩,St⟩,⟨⟨y3p,y3c,y3r,y3d,rfl,h3⟩,hf3⟩,⟨⟨y4p,y4c,y4r,y4d,rfl,h4⟩,hf4⟩,⟨⟨y5p,y5c,y5r,y5d,rfl,h5⟩,hf5⟩,⟨⟨y6p,y6c,y6r,y6d,rfl,h6⟩,hf6⟩⟩:=QA
   refine VS.aP rfl (decide_eq_true (Int.ofNat_lt.2 hlt)) ?_
   refine aa ?_
   refine VO.cond rfl dw ?_
   refine wV rfl ?_
   refine aa ?_
   refine VO.read rfl [.bool e.aW.1,.slice NI e.aW.2.1.length NJ,.bool e.aW.2.2.1,.slice NK e.aW.2.2.2.length NL,.bool e.allowed.1,.slice NM e.allowed.2.1.length NN,.bool e.allowed.2.2.1,.slice NP e.allowed.2.2.2.length NQ,.bool e.aE.1,.slice NR e.aE.2.1.length NS,.bool e.aE.2.2.1,.slice NT e.aE.2.2.2.length NU,.bool e.used.1,.slice NV e.used.2.1.length NW,.bool e.used.2.2.1,.slice NX e.used.2.2.2.length NY,.bool e.au.1,.slice NZ e.au.2.1.length Oa,.bool e.au.2.2.1,.slice Ob e.au.2.2.2.length Oc,.bool e.ao.1,.slice Od e.ao.2.1.length Oe,.bool e.ao.2.2.1,.slice Og e.ao.2.2.2.length Oh,.bool e.closing.1,.slice Oi e.closing.2.1.length Oj,.bool e.closing.2.2.1,.slice Ol e.closing.2.2.2.length Om] rfl (aK hc 0 _ ⟨[],rfl⟩) (wV rfl ?_)
   refine aa ?_
   refine VO.cond rfl dw ?_
   refine wV rfl ?_
   refine aa ?_
   refine VO.read rfl [.bool e'.aW.1,.slice y0p e'.aW.2.1.length y0c,.bool e'.aW.2.2.1,.slice y0r e'.aW.2.2.2.length y0d,.bool e'.allowed.1,.slice y1p e'.allowed.2.1.length y1c,.bool e'.allowed.2.2.1,.slice y1r e'.allowed.2.2.2.length y1d,.bool e'.aE.1,.slice y2p e'.aE.2.1.length y2c,.bool e'.aE.2.2.1,.slice y2r e'.aE.2.2.2.length y2d,.bool e'.used.1,.slice y3p e'.used.2.1.length y3c,.bool e'.used.2.2.1,.slice y3r e'.used.2.2.2.length y3d,.bool e'.au.1,.slice y4p e'.au.2.1.length y4c,.bool e'.au.2.2.1,.slice y4r e'.au.2.2.2.length y4d,.bool e'.ao.1,.slice y5p e'.ao.2.1.length y5c,.bool e'.ao.2.2.1,.slice y5r e'.ao.2.2.2.length y5d,.bool e'.closing.1,.slice y6p e'.closing.2.1.length y6c,.bool e'.closing.2.2.1,.slice y6r e'.closing.2.2.2.length y6d] rfl (aK hc' 0 _ ⟨[],rfl⟩) (wV rfl ?_)
   refine aa ?_
   by_cases heq:ed.q e=ed.q e'
   ·refine VO.call rfl rfl (fk Tryz.func56) (fun bD cQ bG=>(Ci _ _ _ _ e e' kk bD rfl rfl ((dH kk).kp hE0 (Kp.of (U:=UU) bG)) ((dH kk).kp FR (Kp.of (U:=UU) bG)) hk true (decide_eq_true heq)).mono ?_)
    rintro e w1 ⟨rfl,aI⟩
    skip
    refine ⟨_,rfl,aI,fun dt _ bb1=>wV rfl ?_⟩
    refine aa ?_
    refine VS.back (N - (z + 1)) ab ⟨_,_,?_,?_,?_,?_,⟨z + 1,by omega,rfl,rP he qi fY heq,rfl,rfl⟩⟩
    ·refine ⟨rfl,rfl,rfl,rfl,?_,trivial⟩
     rw [<-aF (i:=z) ab];rfl
    ·exact cd
    ·rfl
    ·exact iD
   ·refine VO.call rfl rfl (fk Tryz.func56) (fun bD cQ bG=>(Ci _ _ _ _ e e' kk bD rfl rfl ((dH kk).kp hE0 (Kp.of (U:=UU) bG)) ((dH kk).kp FR (Kp.of (U:=UU) bG)) hk false (decide_eq_false heq)).mono ?_)
    rintro e w1 ⟨rfl,aI⟩
    skip
    refine ⟨_,rfl,aI,fun dt _ bb1=>wV rfl ?_⟩
    refine aa ?_
    refine aR ?_;intro wz kz bz
    exact ⟨by rw [tZ he qi heq];rfl,bz⟩
  ·refine VS.aQ rfl (decide_eq_false (fun e=>hlt (Int.ofNat_lt.1 e))) ?_
   refine aa ?_
   refine aR ?_;intro wz kz bz
   exact ⟨by rw [vV ab ab fY];rfl,bz⟩
 ·refine VS.aP rfl (BI ab) ?_
  refine aa ?_
  refine aR ?_;intro wz kz bz
  exact ⟨by rw [vU ab];rfl,bz⟩
theorem JJ (v u:Value) (xs ys:List ed) (kk:Nat) (w:World) (hx:cO (lS kk) 28 w v xs) (hy:cO (lS kk) 28 w u ys) (hk:kk≤1000000) (b:Bool) (hb:Gz ed.q xs ys=b):
 Calls Tryz.prog 55 #[v,u,.func (.func 56) #[] #[]] w fun o w'=>o=.returned (.bool b)/\aL w w':=hb▸QB v u xs ys kk w hx hy hk
set_option maxRecDepth 4000 in
theorem QC (v u:Value) (xs ys:List dD) (kk:Nat) (w:World) (hx:cO (na kk) 6 w v xs) (hy:cO (na kk) 6 w u ys) (hk:kk≤1000000):
  Calls Tryz.prog 57 #[v,u,.func (.func 58) #[] #[]] w fun o w'=>o=.returned (.bool (Gz dD.q xs ys))/\aL w w':=by
 obtain ⟨p,c,rfl,hpc,hpm⟩:=hx.form
 obtain ⟨q,d,rfl,hqd,hqm⟩:=hy.form
 obtain ⟨N,hN⟩:∃ N,N=xs.length:=⟨_,rfl⟩
 obtain ⟨n,hn⟩:∃ n,n=ys.length:=⟨_,rfl⟩
 rw [<-hN] at hx hpc
 rw [<-hn] at hy hqd
 rw [<-hN,<-hn]
 refine ag (C:=bP Tryz.prog w _) (args:=[_,_,_]) Tryz.func57 rfl Tryz.ntmps57 (bu rfl) ?_
 refine aa ?_
 by_cases hNn:N=n
 ·refine VS.aQ rfl (BJ ab) ?_
  refine aa ?_
  refine VS.loop (J:=fun m L M w'=>∃ z:Nat,z≤N/\m=N - z/\(xs.take z).map dD.q=(ys.take z).map dD.q/\L=[(1,.val (.slice q n d)),(2,.val (.func (.func 58) #[] #[])),(15,.val (.slice p N c)),(16,.val (.int .i64 (N:Int))),(17,.val (.int .i64 (z:Int)))]/\M=[]) N ⟨_,_,?_,?_,?_,?_,⟨0,by omega,rfl,rfl,rfl,rfl⟩⟩ ?_
  ·exact cd
  ·exact cd
  ·rfl
  ·exact iD
  rintro m L M w1 ⟨z,hz,rfl,fY,rfl,rfl⟩
  refine aa ?_
  by_cases hlt:z < N
  ·obtain ⟨e,he⟩:∃ e,xs[z]? =some e:=⟨_,List.getElem?_eq_getElem ab⟩
   obtain ⟨e',qi⟩:∃ e,ys[z]? =some e:=⟨_,List.getElem?_eq_getElem ab⟩
   obtain ⟨b,off,cs,fQ,hc,hE⟩:=hx.at he
   obtain ⟨b',aX,eW,FQ,hc',QA⟩:=hy.at qi
   subst fQ
   subst FQ
   have hE0:=hE
   have FR:=QA
   obtain ⟨_,rfl,⟨ap,ac,ar,ad,rfl,ha⟩,hf⟩:=hE
   obtain ⟨_,rfl,⟨bp,bc,br,bd,rfl,ha'⟩,hf'⟩:=QA
   refine VS.aP rfl (decide_eq_true (Int.ofNat_lt.2 hlt)) ?_
   refine aa ?_
   refine VO.cond rfl dw ?_
   refine wV rfl ?_
   refine aa ?_
   refine VO.read rfl [.int .i64 e.1,.int .i64 e.2.1,.bool e.2.2.1,.slice ap e.2.2.2.1.length ac,.bool e.2.2.2.2.1,.slice ar e.2.2.2.2.2.length ad] rfl (aK hc 0 _ ⟨[],rfl⟩) (wV rfl ?_)
   refine aa ?_
   refine VO.cond rfl dw ?_
   refine wV rfl ?_
   refine aa ?_
   refine VO.read rfl [.int .i64 e'.1,.int .i64 e'.2.1,.bool e'.2.2.1,.slice bp e'.2.2.2.1.length bc,.bool e'.2.2.2.2.1,.slice br e'.2.2.2.2.2.length bd] rfl (aK hc' 0 _ ⟨[],rfl⟩) (wV rfl ?_)
   refine aa ?_
   by_cases heq:dD.q e=dD.q e'
   ·refine VO.call rfl rfl (fk Tryz.func58) (fun bD cQ bG=>(Cj _ _ _ _ e e' kk bD rfl rfl ((eH kk).kp hE0 (Kp.of (U:=UU) bG)) ((eH kk).kp FR (Kp.of (U:=UU) bG)) hk true (decide_eq_true heq)).mono ?_)
    rintro e w1 ⟨rfl,aI⟩
    skip
    refine ⟨_,rfl,aI,fun dt _ bb1=>wV rfl ?_⟩
    refine aa ?_
    refine VS.back (N - (z + 1)) ab ⟨_,_,?_,?_,?_,?_,⟨z + 1,by omega,rfl,rP he qi fY heq,rfl,rfl⟩⟩
    ·refine ⟨rfl,rfl,rfl,rfl,?_,trivial⟩
     rw [<-aF (i:=z) ab];rfl
    ·exact cd
    ·rfl
    ·exact iD
   ·refine VO.call rfl rfl (fk Tryz.func58) (fun bD cQ bG=>(Cj _ _ _ _ e e' kk bD rfl rfl ((eH kk).kp hE0 (Kp.of (U:=UU) bG)) ((eH kk).kp FR (Kp.of (U:=UU) bG)) hk false (decide_eq_false heq)).mono ?_)
    rintro e w1 ⟨rfl,aI⟩
    skip
    refine ⟨_,rfl,aI,fun dt _ bb1=>wV rfl ?_⟩
    refine aa ?_
    refine aR ?_;intro wz kz bz
    exact ⟨by rw [tZ he qi heq];rfl,bz⟩
  ·refine VS.aQ rfl (decide_eq_false (fun e=>hlt (Int.ofNat_lt.1 e))) ?_
   refine aa ?_
   refine aR ?_;intro wz kz bz
   exact ⟨by rw [vV ab ab fY];rfl,bz⟩
 ·refine VS.aP rfl (BI ab) ?_
  refine aa ?_
  refine aR ?_;intro wz kz bz
  exact ⟨by rw [vU ab];rfl,bz⟩
theorem UA (v u:Value) (xs ys:List dD) (kk:Nat) (w:World) (hx:cO (na kk) 6 w v xs) (hy:cO (na kk) 6 w u ys) (hk:kk≤1000000) (b:Bool) (hb:Gz dD.q xs ys=b):
 Calls Tryz.prog 57 #[v,u,.func (.func 58) #[] #[]] w fun o w'=>o=.returned (.bool b)/\aL w w':=hb▸QC v u xs ys kk w hx hy hk
theorem de (v u:Value) (q r:Rat) (k l:Nat) (w:World) (hv:bA w v q k) (hu:bA w u r l) (hk:k≤33554431) (hl:l≤33554431) (b:Bool) (hb:decide (q=r)=b):
 Calls Tryz.prog 54 #[v,u] w fun e w'=>e=.returned (.bool b)/\aL w w':=hb▸Jg v u q r k l w hv hu hk hl
set_option maxRecDepth 4000 in
theorem JK (v u:Value) (cs eW:List Value) (a b:ed) (kk:Nat) (w:World) (hv:v=.agg cs.toArray) (hu:u=.agg eW.toArray) (ha:lS kk w cs a) (hb:lS kk w eW b) (hk:kk≤1000000):
  Calls Tryz.prog 53 #[v,u] w fun o w'=>o=.returned (.bool (decide (a.q=b.q)))/\aL w w':=by
 obtain ⟨_,_,_,_,_,_,_,rfl,⟨⟨NI,NJ,NK,NL,rfl,g0⟩,gf0⟩,⟨⟨NM,NN,NP,NQ,rfl,g1⟩,gf1⟩,⟨⟨NR,NS,NT,NU,rfl,g2⟩,gf2⟩,⟨⟨NV,NW,NX,NY,rfl,g3⟩,gf3⟩,⟨⟨NZ,Oa,Ob,Oc,rfl,g4⟩,gf4⟩,⟨⟨Od,Oe,Og,Oh,rfl,g5⟩,gf5⟩,⟨⟨Oi,Oj,Ol,Om,rfl,g6⟩,gf6⟩⟩:=ha
 obtain ⟨_,_,_,_,_,_,_,rfl,⟨⟨y0p,y0c,y0r,y0d,rfl,h0⟩,hf0⟩,⟨⟨y1p,y1c,y1r,y1d,rfl,h1⟩,Ss⟩,⟨⟨y2p,y2c,y2r,y2d,rfl,h2⟩,St⟩,⟨⟨y3p,y3c,y3r,y3d,rfl,h3⟩,hf3⟩,⟨⟨y4p,y4c,y4r,y4d,rfl,h4⟩,hf4⟩,⟨⟨y5p,y5c,y5r,y5d,rfl,h5⟩,hf5⟩,⟨⟨y6p,y6c,y6r,y6d,rfl,h6⟩,hf6⟩⟩:=hb
 subst hv
 subst hu
 refine ag (C:=bP Tryz.prog w _) (args:=[_,_]) Tryz.func53 rfl Tryz.ntmps53 (bu rfl) ?_
 refine aa ?_
 by_cases e0:a.aW.q=b.aW.q
 case neg=>
  refine VO.call rfl rfl (fk Tryz.func54) (fun bD cQ bG=>(de _ _ a.aW.q b.aW.q kk kk bD ((g0.kp (Kp.of (U:=UU) bG)).iq gf0) ((h0.kp (Kp.of (U:=UU) bG)).iq hf0) ab ab false (decide_eq_false e0)).mono ?_)
  rintro e w1 ⟨rfl,aI⟩
  skip
  refine ⟨_,rfl,aI,fun dt _ bb1=>wV rfl ?_⟩
  refine aa ?_
  refine aR ?_;intro wz kz bz
  exact ⟨by rw [decide_eq_false (fun e=>e0 (by have:=congrArg aM.aW e;exact this))];rfl,bz⟩
 refine VO.call rfl rfl (fk Tryz.func54) (fun bD cQ bG=>(de _ _ a.aW.q b.aW.q kk kk bD ((g0.kp (Kp.of (U:=UU) bG)).iq gf0) ((h0.kp (Kp.of (U:=UU) bG)).iq hf0) ab ab true (decide_eq_true e0)).mono ?_)
 rintro e w1 ⟨rfl,aI⟩
 skip
 refine ⟨_,rfl,aI,fun dt _ bb1=>wV rfl ?_⟩
 refine aa ?_
 by_cases e1:a.allowed.q=b.allowed.q
 case neg=>
  refine VO.call rfl rfl (fk Tryz.func54) (fun cG dQ cV=>(de _ _ a.allowed.q b.allowed.q kk kk cG ((g1.kp (Kp.of (U:=UU) cV)).iq gf1) ((h1.kp (Kp.of (U:=UU) cV)).iq Ss) ab ab false (decide_eq_false e1)).mono ?_)
  rintro e w2 ⟨rfl,ba⟩
  skip
  refine ⟨_,rfl,ba,fun dR _ bb2=>wV rfl ?_⟩
  refine aa ?_
  refine aR ?_;intro wz kz bz
  exact ⟨by rw [decide_eq_false (fun e=>e1 (by have:=congrArg aM.allowed e;exact this))];rfl,bz⟩
 refine VO.call rfl rfl (fk Tryz.func54) (fun cG dQ cV=>(de _ _ a.allowed.q b.allowed.q kk kk cG ((g1.kp (Kp.of (U:=UU) cV)).iq gf1) ((h1.kp (Kp.of (U:=UU) cV)).iq Ss) ab ab true (decide_eq_true e1)).mono ?_)
 rintro e w2 ⟨rfl,ba⟩
 skip
 refine ⟨_,rfl,ba,fun dR _ bb2=>wV rfl ?_⟩
 refine aa ?_
 by_cases e2:a.aE.q=b.aE.q
 case neg=>
  refine VO.call rfl rfl (fk Tryz.func54) (fun eX fF fM=>(de _ _ a.aE.q b.aE.q kk kk eX ((g2.kp (Kp.of (U:=UU) fM)).iq gf2) ((h2.kp (Kp.of (U:=UU) fM)).iq St) ab ab false (decide_eq_false e2)).mono ?_)
  rintro e w3 ⟨rfl,cC⟩
  skip
  refine ⟨_,rfl,cC,fun gZ _ bb3=>wV rfl ?_⟩
  refine aa ?_
  refine aR ?_;intro wz kz bz
  exact ⟨by rw [decide_eq_false (fun e=>e2 (by have:=congrArg aM.aE e;exact this))];rfl,bz⟩
 refine VO.call rfl rfl (fk Tryz.func54) (fun eX fF fM=>(de _ _ a.aE.q b.aE.q kk kk eX ((g2.kp (Kp.of (U:=UU) fM)).iq gf2) ((h2.kp (Kp.of (U:=UU) fM)).iq St) ab ab true (decide_eq_true e2)).mono ?_)
 rintro e w3 ⟨rfl,cC⟩
 skip
 refine ⟨_,rfl,cC,fun gZ _ bb3=>wV rfl ?_⟩
 refine aa ?_
 by_cases e3:a.used.q=b.used.q
 case neg=>
  refine VO.call rfl rfl (fk Tryz.func54) (fun jg kZ kt=>(de _ _ a.used.q b.used.q kk kk jg ((g3.kp (Kp.of (U:=UU) kt)).iq gf3) ((h3.kp (Kp.of (U:=UU) kt)).iq hf3) ab ab false (decide_eq_false e3)).mono ?_)
  rintro e w4 ⟨rfl,fq⟩
  skip
  refine ⟨_,rfl,fq,fun lz _ tH=>wV rfl ?_⟩
  refine aa ?_
  refine aR ?_;intro wz kz bz
  exact ⟨by rw [decide_eq_false (fun e=>e3 (by have:=congrArg aM.used e;exact this))];rfl,bz⟩
 refine VO.call rfl rfl (fk Tryz.func54) (fun jg kZ kt=>(de _ _ a.used.q b.used.q kk kk jg ((g3.kp (Kp.of (U:=UU) kt)).iq gf3) ((h3.kp (Kp.of (U:=UU) kt)).iq hf3) ab ab true (decide_eq_true e3)).mono ?_)
 rintro e w4 ⟨rfl,fq⟩
 skip
 refine ⟨_,rfl,fq,fun lz _ tH=>wV rfl ?_⟩
 refine aa ?_
 by_cases e4:a.au.q=b.au.q
 case neg=>
  refine VO.call rfl rfl (fk Tryz.func54) (fun gE ju ia=>(de _ _ a.au.q b.au.q kk kk gE ((g4.kp (Kp.of (U:=UU) ia)).iq gf4) ((h4.kp (Kp.of (U:=UU) ia)).iq hf4) ab ab false (decide_eq_false e4)).mono ?_)
  rintro e w5 ⟨rfl,eP⟩
  skip
  refine ⟨_,rfl,eP,fun jV _ qu=>wV rfl ?_⟩
  refine aa ?_
  refine aR ?_;intro wz kz bz
  exact ⟨by rw [decide_eq_false (fun e=>e4 (by have:=congrArg aM.au e;exact this))];rfl,bz⟩
 refine VO.call rfl rfl (fk Tryz.func54) (fun gE ju ia=>(de _ _ a.au.q b.au.q kk kk gE ((g4.kp (Kp.of (U:=UU) ia)).iq gf4) ((h4.kp (Kp.of (U:=UU) ia)).iq hf4) ab ab true (decide_eq_true e4)).mono ?_)
 rintro e w5 ⟨rfl,eP⟩
 skip
 refine ⟨_,rfl,eP,fun jV _ qu=>wV rfl ?_⟩
 refine aa ?_
 by_cases e5:a.ao.q=b.ao.q
 case neg=>
  refine VO.call rfl rfl (fk Tryz.func54) (fun gF ld iC=>(de _ _ a.ao.q b.ao.q kk kk gF ((g5.kp (Kp.of (U:=UU) iC)).iq gf5) ((h5.kp (Kp.of (U:=UU) iC)).iq hf5) ab ab false (decide_eq_false e5)).mono ?_)
  rintro e w6 ⟨rfl,fK⟩
  skip
  refine ⟨_,rfl,fK,fun lG _ pO=>wV rfl ?_⟩
  refine aa ?_
  refine aR ?_;intro wz kz bz
  exact ⟨by rw [decide_eq_false (fun e=>e5 (by have:=congrArg aM.ao e;exact this))];rfl,bz⟩
 refine VO.call rfl rfl (fk Tryz.func54) (fun gF ld iC=>(de _ _ a.ao.q b.ao.q kk kk gF ((g5.kp (Kp.of (U:=UU) iC)).iq gf5) ((h5.kp (Kp.of (U:=UU) iC)).iq hf5) ab ab true (decide_eq_true e5)).mono ?_)
 rintro e w6 ⟨rfl,fK⟩
 skip
 refine ⟨_,rfl,fK,fun lG _ pO=>wV rfl ?_⟩
 refine aa ?_
 by_cases e6:a.closing.q=b.closing.q
 case neg=>
  refine VO.call rfl rfl (fk Tryz.func54) (fun mW tJ lH=>(de _ _ a.closing.q b.closing.q kk kk mW ((g6.kp (Kp.of (U:=UU) lH)).iq gf6) ((h6.kp (Kp.of (U:=UU) lH)).iq hf6) ab ab false (decide_eq_false e6)).mono ?_)
  rintro e w7 ⟨rfl,lL⟩
  skip
  refine ⟨_,rfl,lL,fun sU _ Cy=>wV rfl ?_⟩
  refine aa ?_
  refine aR ?_;intro wz kz bz
  exact ⟨by rw [decide_eq_false (fun e=>e6 (by have:=congrArg aM.closing e;exact this))];rfl,bz⟩
 refine VO.call rfl rfl (fk Tryz.func54) (fun mW tJ lH=>(de _ _ a.closing.q b.closing.q kk kk mW ((g6.kp (Kp.of (U:=UU) lH)).iq gf6) ((h6.kp (Kp.of (U:=UU) lH)).iq hf6) ab ab true (decide_eq_true e6)).mono ?_)
 rintro e w7 ⟨rfl,lL⟩
 skip
 refine ⟨_,rfl,lL,fun sU _ Cy=>wV rfl ?_⟩
 refine aa ?_
 refine aR ?_;intro wz kz bz
 exact ⟨by rw [decide_eq_true (show a.q=b.q by unfold ed.q;rw [e0,e1,e2,e3,e4,e5,e6])];rfl,bz⟩
theorem Ck (v u:Value) (cs eW:List Value) (a b:ed) (kk:Nat) (w:World) (hv:v=.agg cs.toArray) (hu:u=.agg eW.toArray) (ha:lS kk w cs a) (hb:lS kk w eW b) (hk:kk≤1000000) (x:Bool) (hx:decide (a.q=b.q)=x):
 Calls Tryz.prog 53 #[v,u] w fun o w'=>o=.returned (.bool x)/\aL w w':=hx▸JK v u cs eW a b kk w hv hu ha hb hk
def iV (X Y:List ed×List dD):Bool:=Gz ed.q X.1 Y.1 && Gz dD.q X.2 Y.2
set_option maxRecDepth 4000 in
theorem LX (r u r' u':Value) (X Y:List ed×List dD) (kk:Nat) (w:World) (hX:mL kk w r u X) (hY:mL kk w r' u' Y) (hk:kk≤1000000):
  Calls Tryz.prog 21 #[.agg #[r,u],.agg #[r',u']] w fun o w'=>o=.returned (.bool (iV X Y))/\aL w w':=by
 obtain ⟨Oo,Oq⟩:=hX
 obtain ⟨hY1,hY2⟩:=hY
 obtain ⟨p1,c1,rfl,jS,hm1⟩:=Oo.form
 obtain ⟨p2,c2,rfl,iB,DW⟩:=Oq.form
 obtain ⟨p3,c3,rfl,hc3,hm3⟩:=hY1.form
 obtain ⟨p4,c4,rfl,uB,hm4⟩:=hY2.form
 obtain ⟨n1,rS⟩:∃ n,n=X.1.length:=⟨_,rfl⟩
 obtain ⟨n2,uX⟩:∃ n,n=X.2.length:=⟨_,rfl⟩
 obtain ⟨n3,hn3⟩:∃ n,n=Y.1.length:=⟨_,rfl⟩
 obtain ⟨n4,hn4⟩:∃ n,n=Y.2.length:=⟨_,rfl⟩
 rw [<-rS] at Oo jS
 rw [<-uX] at Oq iB
 rw [<-hn3] at hY1 hc3
 rw [<-hn4] at hY2 uB
 rw [<-rS,<-uX,<-hn3,<-hn4]
 refine ag (C:=bP Tryz.prog w _) (args:=[_,_]) Tryz.func21 rfl Tryz.ntmps21 (bu rfl) ?_
 refine aa ?_
 by_cases h13:n1=n3
 case neg=>
  refine VO.fix 16 rfl (congrArg (fun b=>AV.val (.bool b)) (BI (show (n1:Int)≠(n3:Int) by omega))) ?_
  refine aa ?_
  refine aR ?_;intro wz kz bz
  exact ⟨by unfold iV;rw [vU ab];rfl,bz⟩
 refine VO.fix 16 rfl (congrArg (fun b=>AV.val (.bool b)) (BJ (show (n1:Int)=(n3:Int) by omega))) ?_
 refine aa ?_
 by_cases h24:n2=n4
 case neg=>
  refine VS.aP rfl (BI (show (n2:Int)≠(n4:Int) by omega)) ?_
  refine aa ?_
  refine aR ?_;intro wz kz bz
  exact ⟨by unfold iV;rw [vU (f:=dD.q) ab,Bool.and_false];rfl,bz⟩
 refine VS.aQ rfl (BJ (show (n2:Int)=(n4:Int) by omega)) ?_
 refine aa ?_
 refine VS.loop (J:=fun m L M w'=>∃ z:Nat,z≤n1/\m=n1 - z/\(X.1.take z).map ed.q=(Y.1.take z).map ed.q/\L=[(2,.box 2 0),(3,.box 3 0),(5,.val (.int .i64 (z:Int)))]/\M=[(2,(64,[.val (.slice p1 n1 c1),.val (.slice p2 n2 c2)])),(3,(64,[.val (.slice p3 n3 c3),.val (.slice p4 n4 c4)]))]) n1 ⟨_,_,?_,?_,?_,?_,⟨0,by omega,rfl,rfl,rfl,rfl⟩⟩ ?_
 ·exact cd
 ·exact cd
 ·rfl
 ·exact iD
 rintro m L M w1 ⟨z,hz,rfl,fY,rfl,rfl⟩
 refine aa ?_
 by_cases hlt:z < n1
 ·obtain ⟨e,he⟩:∃ e,X.1[z]? =some e:=⟨_,List.getElem?_eq_getElem ab⟩
  obtain ⟨e',qi⟩:∃ e,Y.1[z]? =some e:=⟨_,List.getElem?_eq_getElem ab⟩
  obtain ⟨b,off,cs,fQ,hc,hE⟩:=Oo.at he
  obtain ⟨b',aX,eW,FQ,hc',QA⟩:=hY1.at qi
  subst fQ
  subst FQ
  have hE0:=hE
  have FR:=QA
  obtain ⟨_,_,_,_,_,_,_,rfl,⟨⟨NI,NJ,NK,NL,rfl,g0⟩,gf0⟩,⟨⟨NM,NN,NP,NQ,rfl,g1⟩,gf1⟩,⟨⟨NR,NS,NT,NU,rfl,g2⟩,gf2⟩,⟨⟨NV,NW,NX,NY,rfl,g3⟩,gf3⟩,⟨⟨NZ,Oa,Ob,Oc,rfl,g4⟩,gf4⟩,⟨⟨Od,Oe,Og,Oh,rfl,g5⟩,gf5⟩,⟨⟨Oi,Oj,Ol,Om,rfl,g6⟩,gf6⟩⟩:=hE
  obtain ⟨_,_,_,_,_,_,_,rfl,⟨⟨y0p,y0c,y0r,y0d,rfl,h0⟩,hf0⟩,⟨⟨y1p,y1c,y1r,y1d,rfl,h1⟩,Ss⟩,⟨⟨y2p,y2c,y2r,y2d,rfl,h2⟩,St⟩,⟨⟨y3p,y3c,y3r,y3d,rfl,h3⟩,hf3⟩,⟨⟨y4p,y4c,y4r,y4d,rfl,h4⟩,hf4⟩,⟨⟨y5p,y5c,y5r,y5d,rfl,h5⟩,hf5⟩,⟨⟨y6p,y6c,y6r,y6d,rfl,h6⟩,hf6⟩⟩:=QA
  refine VS.aP rfl (decide_eq_true (Int.ofNat_lt.2 hlt)) ?_
  refine aa ?_
  refine VO.cond rfl dw ?_
  refine wV rfl ?_
  refine aa ?_
  refine VO.read rfl [.bool e.aW.1,.slice NI e.aW.2.1.length NJ,.bool e.aW.2.2.1,.slice NK e.aW.2.2.2.length NL,.bool e.allowed.1,.slice NM e.allowed.2.1.length NN,.bool e.allowed.2.2.1,.slice NP e.allowed.2.2.2.length NQ,.bool e.aE.1,.slice NR e.aE.2.1.length NS,.bool e.aE.2.2.1,.slice NT e.aE.2.2.2.length NU,.bool e.used.1,.slice NV e.used.2.1.length NW,.bool e.used.2.2.1,.slice NX e.used.2.2.2.length NY,.bool e.au.1,.slice NZ e.au.2.1.length Oa,.bool e.au.2.2.1,.slice Ob e.au.2.2.2.length Oc,.bool e.ao.1,.slice Od e.ao.2.1.length Oe,.bool e.ao.2.2.1,.slice Og e.ao.2.2.2.length Oh,.bool e.closing.1,.slice Oi e.closing.2.1.length Oj,.bool e.closing.2.2.1,.slice Ol e.closing.2.2.2.length Om] rfl (aK hc 0 _ ⟨[],rfl⟩) (wV rfl ?_)
  refine aa ?_
  refine VO.cond rfl dw ?_
  refine wV rfl ?_
  refine aa ?_
  refine VO.read rfl [.bool e'.aW.1,.slice y0p e'.aW.2.1.length y0c,.bool e'.aW.2.2.1,.slice y0r e'.aW.2.2.2.length y0d,.bool e'.allowed.1,.slice y1p e'.allowed.2.1.length y1c,.bool e'.allowed.2.2.1,.slice y1r e'.allowed.2.2.2.length y1d,.bool e'.aE.1,.slice y2p e'.aE.2.1.length y2c,.bool e'.aE.2.2.1,.slice y2r e'.aE.2.2.2.length y2d,.bool e'.used.1,.slice y3p e'.used.2.1.length y3c,.bool e'.used.2.2.1,.slice y3r e'.used.2.2.2.length y3d,.bool e'.au.1,.slice y4p e'.au.2.1.length y4c,.bool e'.au.2.2.1,.slice y4r e'.au.2.2.2.length y4d,.bool e'.ao.1,.slice y5p e'.ao.2.1.length y5c,.bool e'.ao.2.2.1,.slice y5r e'.ao.2.2.2.length y5d,.bool e'.closing.1,.slice y6p e'.closing.2.1.length y6c,.bool e'.closing.2.2.1,.slice y6r e'.closing.2.2.2.length y6d] rfl (aK hc' 0 _ ⟨[],rfl⟩) (wV rfl ?_)
  refine aa ?_
  by_cases heq:ed.q e=ed.q e'
  ·refine VO.call rfl rfl (fk Tryz.func53) (fun bD cQ bG=>(Ck _ _ _ _ e e' kk bD rfl rfl ((dH kk).kp hE0 (Kp.of (U:=UU) bG)) ((dH kk).kp FR (Kp.of (U:=UU) bG)) hk true (decide_eq_true heq)).mono ?_)
   rintro e w1 ⟨rfl,aI⟩
   skip
   refine ⟨_,rfl,aI,fun dt _ bb1=>wV rfl ?_⟩
   refine aa ?_
   refine VS.back (n1 - (z + 1)) ab ⟨_,_,?_,?_,?_,?_,⟨z + 1,by omega,rfl,rP he qi fY heq,rfl,rfl⟩⟩
   ·refine ⟨rfl,rfl,?_,trivial⟩
    rw [<-aF (i:=z) ab];rfl
   ·exact cd
   ·rfl
   ·exact iD
  ·refine VO.call rfl rfl (fk Tryz.func53) (fun bD cQ bG=>(Ck _ _ _ _ e e' kk bD rfl rfl ((dH kk).kp hE0 (Kp.of (U:=UU) bG)) ((dH kk).kp FR (Kp.of (U:=UU) bG)) hk false (decide_eq_false heq)).mono ?_)
   rintro e w1 ⟨rfl,aI⟩
   skip
   refine ⟨_,rfl,aI,fun dt _ bb1=>wV rfl ?_⟩
   refine aa ?_
   refine aR ?_;intro wz kz bz
   exact ⟨by unfold iV;rw [tZ he qi heq];rfl,bz⟩
 refine VS.aQ rfl (decide_eq_false (fun e=>hlt (Int.ofNat_lt.1 e))) ?_
 have gC:z=n1:=by omega
 have jA:Gz ed.q X.1 Y.1=true:=vV ab (show X.1.length≤z by omega) fY
 clear fY hlt gC hz
 refine aa ?_
 refine VS.loop (J:=fun m L M w'=>∃ z:Nat,z≤n2/\m=n2 - z/\(X.2.take z).map dD.q=(Y.2.take z).map dD.q/\L=[(2,.box 2 0),(3,.box 3 0),(6,.val (.int .i64 (z:Int)))]/\M=[(2,(64,[.val (.slice p1 n1 c1),.val (.slice p2 n2 c2)])),(3,(64,[.val (.slice p3 n3 c3),.val (.slice p4 n4 c4)]))]) n2 ⟨_,_,?_,?_,?_,?_,⟨0,by omega,rfl,rfl,rfl,rfl⟩⟩ ?_
 ·exact cd
 ·exact cd
 ·rfl
 ·exact iD
 rintro m L M w2 ⟨z,hz,rfl,fY,rfl,rfl⟩
 refine aa ?_
 by_cases hlt:z < n2
 ·obtain ⟨e,he⟩:∃ e,X.2[z]? =some e:=⟨_,List.getElem?_eq_getElem ab⟩
  obtain ⟨e',qi⟩:∃ e,Y.2[z]? =some e:=⟨_,List.getElem?_eq_getElem ab⟩
  obtain ⟨b,off,cs,fQ,hc,hE⟩:=Oq.at he
  obtain ⟨b',aX,eW,FQ,hc',QA⟩:=hY2.at qi
  subst fQ
  subst FQ
  obtain ⟨_,rfl,⟨ap,ac,ar,ad,rfl,ha⟩,hf⟩:=hE
  obtain ⟨_,rfl,⟨bp,bc,br,bd,rfl,ha'⟩,hf'⟩:=QA
  refine VS.aP rfl (decide_eq_true (Int.ofNat_lt.2 hlt)) ?_
  (repeat (first | refine wN ?_ | refine wP rfl ?_ | refine wO rfl rfl ?_))
  refine VS.drawL (cK _ _) (Ix _ _) [] [1,4,6,9] [12,13] [7,8] (by kernel_rfl) ?_
  refine oc.chunk (l2:=[1,2,3,4,5,6,7,8,9,10,11,12,13]) [0] rfl ?_
  refine aa ?_
  refine oc.l (j:=1) rfl rfl rfl rfl rfl ?_
  refine aa ?_
  refine oc.chunk (l2:=[4,5,6,7,8,9,10,11,12,13]) [2,3] rfl ?_
  refine aa ?_
  refine VO.cond rfl dw ?_
  refine wV rfl ?_
  refine aa ?_
  refine oc.b (j:=4) rfl rfl rfl rfl ?_
  refine VO.read rfl [.int .i64 e.1,.int .i64 e.2.1,.bool e.2.2.1,.slice ap e.2.2.2.1.length ac,.bool e.2.2.2.2.1,.slice ar e.2.2.2.2.2.length ad] rfl (aK hc 0 _ ⟨[],rfl⟩) (wV rfl ?_)
  refine aa ?_
  refine oc.chunk (l2:=[6,7,8,9,10,11,12,13]) [5] rfl ?_
  refine aa ?_
  refine oc.l (j:=6) rfl rfl rfl rfl rfl ?_
  refine aa ?_
  refine oc.chunk (l2:=[9,10,11,12,13]) [7,8] rfl ?_
  refine aa ?_
  refine VO.cond rfl dw ?_
  refine wV rfl ?_
  refine aa ?_
  refine oc.b (j:=9) rfl rfl rfl rfl ?_
  refine VO.read rfl [.int .i64 e'.1,.int .i64 e'.2.1,.bool e'.2.2.1,.slice bp e'.2.2.2.1.length bc,.bool e'.2.2.2.2.1,.slice br e'.2.2.2.2.2.length bd] rfl (aK hc' 0 _ ⟨[],rfl⟩) (wV rfl ?_)
  refine aa ?_
  refine oc.chunk (l2:=[12,13]) [10,11] rfl ?_
  refine aa ?_
  refine oc.s (j:=12) rfl ⟨_,_,_,7,0,rfl,rfl,by simp⟩ rfl ?_
  refine aa ?_
  refine oc.s (j:=13) rfl ⟨_,_,_,8,0,rfl,rfl,by simp⟩ rfl ?_
  refine aa ?_
  by_cases g1:e.1=e'.1
  case neg=>
   refine VO.fix 66 rfl (congrArg (fun b=>AV.val (.bool b)) (BI g1)) ?_
   refine aa ?_
   refine aR ?_;intro wz kz bz
   exact ⟨by unfold iV;rw [tZ he qi (fun h=>by have:=congrArg Prod.fst h;exact g1 this),Bool.and_false];rfl,bz⟩
  refine VO.fix 66 rfl (congrArg (fun b=>AV.val (.bool b)) (BJ g1)) ?_
  refine aa ?_
  by_cases g2:e.2.1=e'.2.1
  case neg=>
   refine VO.fix 73 rfl (congrArg (fun b=>AV.val (.bool b)) (BI g2)) ?_
   refine aa ?_
   refine aR ?_;intro wz kz bz
   exact ⟨by unfold iV;rw [tZ he qi (fun h=>by have:=congrArg (fun p=>p.2.1) h;exact g2 this),Bool.and_false];rfl,bz⟩
  refine VO.fix 73 rfl (congrArg (fun b=>AV.val (.bool b)) (BJ g2)) ?_
  refine aa ?_
  by_cases g3:e.2.2.q=e'.2.2.q
  case neg=>
   refine VO.call rfl rfl (fk Tryz.func54) (fun cG dQ cV=>(de _ _ e.2.2.q e'.2.2.q kk kk cG ((ha.kp (Kp.of (U:=UU) cV)).iq hf) ((ha'.kp (Kp.of (U:=UU) cV)).iq hf') ab ab false (decide_eq_false g3)).mono ?_)
   rintro e w2 ⟨rfl,ba⟩
   skip
   refine ⟨_,rfl,ba,fun dR _ bb2=>wV rfl ?_⟩
   refine aa ?_
   refine aR ?_;intro wz kz bz
   exact ⟨by unfold iV;rw [tZ he qi (fun h=>by have:=congrArg (fun p=>p.2.2) h;exact g3 this),Bool.and_false];rfl,bz⟩
  refine VO.call rfl rfl (fk Tryz.func54) (fun cG dQ cV=>(de _ _ e.2.2.q e'.2.2.q kk kk cG ((ha.kp (Kp.of (U:=UU) cV)).iq hf) ((ha'.kp (Kp.of (U:=UU) cV)).iq hf') ab ab true (decide_eq_true g3)).mono ?_)
  rintro e w2 ⟨rfl,ba⟩
  skip
  refine ⟨_,rfl,ba,fun dR _ bb2=>wV rfl ?_⟩
  refine aa ?_
  have heq:dD.q e=dD.q e':=by unfold dD.q;rw [g1,g2,g3]
  refine VS.back (n2 - (z + 1)) ab ⟨_,_,?_,?_,?_,?_,⟨z + 1,by omega,rfl,rP he qi fY heq,rfl,rfl⟩⟩
  ·refine ⟨rfl,rfl,?_,trivial⟩
   rw [<-aF (i:=z) ab];rfl
  ·exact cd
  ·rfl
  ·exact iD
 refine VS.aQ rfl (decide_eq_false (fun e=>hlt (Int.ofNat_lt.1 e))) ?_
 refine aa ?_
 refine aR ?_;intro wz kz bz
 have kE:Gz dD.q X.2 Y.2=true:=vV ab (show X.2.length≤z by omega) fY
 exact ⟨by unfold iV;rw [jA,kE];rfl,bz⟩
theorem QD (r u r' u':Value) (X Y:List ed×List dD) (kk:Nat) (w:World) (hX:mL kk w r u X) (hY:mL kk w r' u' Y) (hk:kk≤1000000) (b:Bool) (hb:iV X Y=b):
 Calls Tryz.prog 21 #[.agg #[r,u],.agg #[r',u']] w fun o w'=>o=.returned (.bool b)/\aL w w':=hb▸LX r u r' u' X Y kk w hX hY hk
set_option maxRecDepth 4000
theorem dM {R:Bool} {l:List (RR×RR)} {z:Nat} {x:RR×RR} (h:l[z]? =some x):(R && (l.take (z + 1)).all fO)=((R && (l.take z).all fO) && fO x):=by
 rw [bS h,List.all_append,Bool.and_assoc]
 simp
theorem bK (x:RR) (b:Bool) (hb:x.ok=b) (v:Value) (w:World) (h:eF w v x.1 x.2.1 x.2.2.1 x.2.2.2) {k:Nat} (hx:x.jF k) (hk:k≤100000):
 Calls Tryz.prog 85 #[v] w fun e w'=>e=.returned (.bool b)/\aL w w':=hb▸vo _ _ _ _ v w h (Nat.le_trans hx.1 ab) (Nat.le_trans hx.2 ab)
theorem ue (v:Value) (q:Rat) (k:Nat) (w:World) (hv:bA w v q k) (hk:k≤134217728) (c:Int) (hc:eg q 0=c):
 Calls Tryz.prog 52 #[v] w fun e w'=>e=.returned (.int .i64 c)/\aL w w':=hc▸xW v q k w hv hk
theorem QE (v u:Value) (q r:Rat) (k l:Nat) (w:World) (hv:bA w v q k) (hu:bA w u r l) (hk:k≤33554431) (hl:l≤33554431) (c:Int) (hc:eg q r=c):
 Calls Tryz.prog 86 #[v,u] w fun e w'=>e=.returned (.int .i64 c)/\aL w w':=hc▸pP v u q r k l w hv hu hk hl
set_option maxRecDepth 4000 in
theorem QF (v u:Value) (a b:RR) (keep:Int) (l:List (RR×RR)) (k:Nat) (w:World) (h:fN w v a b keep) (ha:a.jF k) (hb:b.jF k) (hl:cO (si k) 8 w u l) (hk:k≤100000) (hlen:l.length≤100000):
  Calls Tryz.prog 47 #[v,u] w fun o w'=>o=.returned (.bool (dW a b keep && l.all fO))/\aL w w':=by
 obtain ⟨p,c,r,d,p',c',r',d',rfl,h1,h2⟩:=h
 obtain ⟨pu,cu,rfl,Qy,hum⟩:=hl.form
 obtain ⟨N,hN⟩:∃ N,N=l.length:=⟨_,rfl⟩
 rw [<-hN] at hl Qy hlen
 rw [<-hN]
 refine ag (C:=bP Tryz.prog w _) (args:=[_,_]) Tryz.func47 rfl Tryz.ntmps47 (bu rfl) ?_
 refine aa ?_
 cases e1:a.ok with
 | false=>
   have xp:dW a b keep=false:=by unfold dW;rw [e1];rfl
   refine VO.call rfl rfl (fk Tryz.func85) (fun bD cQ bG=>(bK a false e1 _ bD (h1.kp (Kp.of (U:=UU) bG)) ha hk).mono ?_)
   rintro e w1 ⟨rfl,aI⟩
   skip
   refine ⟨_,rfl,aI,fun dt _ bb1=>wV rfl ?_⟩
   refine aa ?_
   refine VS.loop (J:=fun m L M w'=>∃ (z:Nat) (bb:Bool),z≤N/\m=N - z/\(dW a b keep && (l.take z).all fO)=bb/\L=[(1,.val (.slice pu N cu)),(5,.val (.bool bb)),(6,.val (.int .i64 (z:Int)))]/\M=[]) N ⟨_,_,?_,?_,?_,?_,⟨0,false,by omega,rfl,by rw [List.take_zero,xp];rfl,rfl,rfl⟩⟩ ?_
   ·exact cd
   ·exact cd
   ·rfl
   ·exact iD
   rintro m L M w9 ⟨z,bb,hz,rfl,jU,rfl,rfl⟩
   refine aa ?_
   by_cases hlt:z < N
   ·refine VS.aP rfl (decide_eq_true (Int.ofNat_lt.2 hlt)) ?_
    obtain ⟨x,hx⟩:∃ x,l[z]? =some x:=⟨_,List.getElem?_eq_getElem ab⟩
    obtain ⟨bx,off,cs,fQ,hc,⟨_,_,rfl,⟨ap,ac,ar,ad,rfl,g1⟩,⟨bp,bc,br,bd,rfl,g2⟩,f1,f2⟩⟩:=hl.at hx
    subst fQ
    cases bb with
    | false=>
      refine aa ?_
      refine VS.back (N - (z + 1)) ab ⟨_,_,?_,?_,?_,?_,⟨z + 1,false,by omega,rfl,by rw [dM hx,jU];rfl,rfl,rfl⟩⟩
      ·refine ⟨rfl,rfl,?_,trivial⟩
       rw [<-aF (i:=z) ab];rfl
      ·exact cd
      ·rfl
      ·exact iD
    | true=>
      refine aa ?_
      refine VO.cond rfl dw ?_
      refine wV rfl ?_
      refine aa ?_
      refine VO.read rfl [.bool x.1.1,.slice ap x.1.2.1.length ac,.bool x.1.2.2.1,.slice ar x.1.2.2.2.length ad] rfl (aK hc 0 _ ⟨_,rfl⟩) (wV rfl ?_)
      refine aa ?_
      cases e1:x.1.ok with
      | false=>
        refine VO.call rfl rfl (fk Tryz.func85) (fun gF ld iC=>(bK x.1 false e1 _ gF (g1.kp (Kp.of (U:=UU) iC)) f1 hk).mono ?_)
        rintro e w6 ⟨rfl,fK⟩
        skip
        refine ⟨_,rfl,fK,fun lG _ pO=>wV rfl ?_⟩
        refine aa ?_
        refine VS.back (N - (z + 1)) ab ⟨_,_,?_,?_,?_,?_,⟨z + 1,false,by omega,rfl,by rw [dM hx,jU];unfold fO;rw [e1];rfl,rfl,rfl⟩⟩
        ·refine ⟨rfl,rfl,?_,trivial⟩
         rw [<-aF (i:=z) ab];rfl
        ·exact cd
        ·rfl
        ·exact iD
      | true=>
      refine VO.call rfl rfl (fk Tryz.func85) (fun gF ld iC=>(bK x.1 true e1 _ gF (g1.kp (Kp.of (U:=UU) iC)) f1 hk).mono ?_)
      rintro e w6 ⟨rfl,fK⟩
      skip
      refine ⟨_,rfl,fK,fun lG _ pO=>wV rfl ?_⟩
      refine aa ?_
      refine VO.cond rfl dw ?_
      refine wV rfl ?_
      refine aa ?_
      refine VO.read rfl [.bool x.2.1,.slice bp x.2.2.1.length bc,.bool x.2.2.2.1,.slice br x.2.2.2.2.length bd] rfl (aK hc 4 _ ⟨[],rfl⟩) (wV rfl ?_)
      refine aa ?_
      obtain ⟨b2,e2⟩:∃ b2,x.2.ok=b2:=⟨_,rfl⟩
      refine VO.call rfl rfl (fk Tryz.func85) (fun mW tJ lH=>(bK x.2 b2 e2 _ mW (g2.kp (Kp.of (U:=UU) lH)) f2 hk).mono ?_)
      rintro e w7 ⟨rfl,lL⟩
      skip
      refine ⟨_,rfl,lL,fun sU _ Cy=>wV rfl ?_⟩
      refine aa ?_
      refine VS.back (N - (z + 1)) ab ⟨_,_,?_,?_,?_,?_,⟨z + 1,b2,by omega,rfl,by rw [dM hx,jU];unfold fO;rw [e1,e2];rfl,rfl,rfl⟩⟩
      ·refine ⟨rfl,rfl,?_,trivial⟩
       rw [<-aF (i:=z) ab];rfl
      ·exact cd
      ·rfl
      ·exact iD
   ·refine VS.aQ rfl (decide_eq_false (fun e=>hlt (Int.ofNat_lt.1 e))) ?_
    refine aa ?_
    refine aR ?_;intro wz kz bz
    rw [List.take_of_length_le ab] at jU
    exact ⟨by rw [jU];rfl,bz⟩
 | true=>
 refine VO.call rfl rfl (fk Tryz.func85) (fun bD cQ bG=>(bK a true e1 _ bD (h1.kp (Kp.of (U:=UU) bG)) ha hk).mono ?_)
 rintro e w1 ⟨rfl,aI⟩
 skip
 refine ⟨_,rfl,aI,fun dt _ bb1=>wV rfl ?_⟩
 refine aa ?_
 cases e2:b.ok with
 | false=>
   have xp:dW a b keep=false:=by unfold dW;rw [e1,e2];rfl
   refine VO.call rfl rfl (fk Tryz.func85) (fun cG dQ cV=>(bK b false e2 _ cG (h2.kp (Kp.of (U:=UU) cV)) hb hk).mono ?_)
   rintro e w2 ⟨rfl,ba⟩
   skip
   refine ⟨_,rfl,ba,fun dR _ bb2=>wV rfl ?_⟩
   refine aa ?_
   refine VS.loop (J:=fun m L M w'=>∃ (z:Nat) (bb:Bool),z≤N/\m=N - z/\(dW a b keep && (l.take z).all fO)=bb/\L=[(1,.val (.slice pu N cu)),(5,.val (.bool bb)),(6,.val (.int .i64 (z:Int)))]/\M=[]) N ⟨_,_,?_,?_,?_,?_,⟨0,false,by omega,rfl,by rw [List.take_zero,xp];rfl,rfl,rfl⟩⟩ ?_
   ·exact cd
   ·exact cd
   ·rfl
   ·exact iD
   rintro m L M w9 ⟨z,bb,hz,rfl,jU,rfl,rfl⟩
   refine aa ?_
   by_cases hlt:z < N
   ·refine VS.aP rfl (decide_eq_true (Int.ofNat_lt.2 hlt)) ?_
    obtain ⟨x,hx⟩:∃ x,l[z]? =some x:=⟨_,List.getElem?_eq_getElem ab⟩
    obtain ⟨bx,off,cs,fQ,hc,⟨_,_,rfl,⟨ap,ac,ar,ad,rfl,g1⟩,⟨bp,bc,br,bd,rfl,g2⟩,f1,f2⟩⟩:=hl.at hx
    subst fQ
    cases bb with
    | false=>
      refine aa ?_
      refine VS.back (N - (z + 1)) ab ⟨_,_,?_,?_,?_,?_,⟨z + 1,false,by omega,rfl,by rw [dM hx,jU];rfl,rfl,rfl⟩⟩
      ·refine ⟨rfl,rfl,?_,trivial⟩
       rw [<-aF (i:=z) ab];rfl
      ·exact cd
      ·rfl
      ·exact iD
    | true=>
      refine aa ?_
      refine VO.cond rfl dw ?_
      refine wV rfl ?_
      refine aa ?_
      refine VO.read rfl [.bool x.1.1,.slice ap x.1.2.1.length ac,.bool x.1.2.2.1,.slice ar x.1.2.2.2.length ad] rfl (aK hc 0 _ ⟨_,rfl⟩) (wV rfl ?_)
      refine aa ?_
      cases e1:x.1.ok with
      | false=>
        refine VO.call rfl rfl (fk Tryz.func85) (fun gF ld iC=>(bK x.1 false e1 _ gF (g1.kp (Kp.of (U:=UU) iC)) f1 hk).mono ?_)
        rintro e w6 ⟨rfl,fK⟩
        skip
        refine ⟨_,rfl,fK,fun lG _ pO=>wV rfl ?_⟩
        refine aa ?_
        refine VS.back (N - (z + 1)) ab ⟨_,_,?_,?_,?_,?_,⟨z + 1,false,by omega,rfl,by rw [dM hx,jU];unfold fO;rw [e1];rfl,rfl,rfl⟩⟩
        ·refine ⟨rfl,rfl,?_,trivial⟩
         rw [<-aF (i:=z) ab];rfl
        ·exact cd
        ·rfl
        ·exact iD
      | true=>
      refine VO.call rfl rfl (fk Tryz.func85) (fun gF ld iC=>(bK x.1 true e1 _ gF (g1.kp (Kp.of (U:=UU) iC)) f1 hk).mono ?_)
      rintro e w6 ⟨rfl,fK⟩
      skip
      refine ⟨_,rfl,fK,fun lG _ pO=>wV rfl ?_⟩
      refine aa ?_
      refine VO.cond rfl dw ?_
      refine wV rfl ?_
      refine aa ?_
      refine VO.read rfl [.bool x.2.1,.slice bp x.2.2.1.length bc,.bool x.2.2.2.1,.slice br x.2.2.2.2.length bd] rfl (aK hc 4 _ ⟨[],rfl⟩) (wV rfl ?_)
      refine aa ?_
      obtain ⟨b2,e2⟩:∃ b2,x.2.ok=b2:=⟨_,rfl⟩
      refine VO.call rfl rfl (fk Tryz.func85) (fun mW tJ lH=>(bK x.2 b2 e2 _ mW (g2.kp (Kp.of (U:=UU) lH)) f2 hk).mono ?_)
      rintro e w7 ⟨rfl,lL⟩
      skip
      refine ⟨_,rfl,lL,fun sU _ Cy=>wV rfl ?_⟩
      refine aa ?_
      refine VS.back (N - (z + 1)) ab ⟨_,_,?_,?_,?_,?_,⟨z + 1,b2,by omega,rfl,by rw [dM hx,jU];unfold fO;rw [e1,e2];rfl,rfl,rfl⟩⟩
      ·refine ⟨rfl,rfl,?_,trivial⟩
       rw [<-aF (i:=z) ab];rfl
      ·exact cd
      ·rfl
      ·exact iD
   ·refine VS.aQ rfl (decide_eq_false (fun e=>hlt (Int.ofNat_lt.1 e))) ?_
    refine aa ?_
    refine aR ?_;intro wz kz bz
    rw [List.take_of_length_le ab] at jU
    exact ⟨by rw [jU];rfl,bz⟩
 | true=>
 refine VO.call rfl rfl (fk Tryz.func85) (fun cG dQ cV=>(bK b true e2 _ cG (h2.kp (Kp.of (U:=UU) cV)) hb hk).mono ?_)
 rintro e w2 ⟨rfl,ba⟩
 skip
 refine ⟨_,rfl,ba,fun dR _ bb2=>wV rfl ?_⟩
 refine aa ?_
 obtain ⟨sg,me⟩:∃ sg,eg a.q 0=sg:=⟨_,rfl⟩
 have Cl:dW a b keep=(decide (sg≥0) && (decide (eg a.q 1≤0) && (decide (keep≥0) && decide (keep≤40)))):=by unfold dW;rw [e1,e2,me];rfl
 refine VO.call rfl rfl (fk Tryz.func52) (fun eX fF fM=>(ue _ a.q k eX ((h1.iq ha).kp (Kp.of (U:=UU) fM)) ab sg me).mono ?_)
 rintro e w3 ⟨rfl,cC⟩
 skip
 refine ⟨_,rfl,cC,fun gZ _ bb3=>wV rfl ?_⟩
 refine aa ?_
 by_cases e3':sg < 0
 ·have e3:¬ sg≥0:=by omega
  have xp:dW a b keep=false:=by rw [Cl,decide_eq_false e3];rfl
  refine VO.fix 21 rfl (congrArg (fun b=>AV.val (.bool b)) (decide_eq_false e3)) ?_
  refine aa ?_
  refine VS.loop (J:=fun m L M w'=>∃ (z:Nat) (bb:Bool),z≤N/\m=N - z/\(dW a b keep && (l.take z).all fO)=bb/\L=[(1,.val (.slice pu N cu)),(5,.val (.bool bb)),(6,.val (.int .i64 (z:Int)))]/\M=[]) N ⟨_,_,?_,?_,?_,?_,⟨0,false,by omega,rfl,by rw [List.take_zero,xp];rfl,rfl,rfl⟩⟩ ?_
  ·exact cd
  ·exact cd
  ·rfl
  ·exact iD
  rintro m L M w9 ⟨z,bb,hz,rfl,jU,rfl,rfl⟩
  refine aa ?_
  by_cases hlt:z < N
  ·refine VS.aP rfl (decide_eq_true (Int.ofNat_lt.2 hlt)) ?_
   obtain ⟨x,hx⟩:∃ x,l[z]? =some x:=⟨_,List.getElem?_eq_getElem ab⟩
   obtain ⟨bx,off,cs,fQ,hc,⟨_,_,rfl,⟨ap,ac,ar,ad,rfl,g1⟩,⟨bp,bc,br,bd,rfl,g2⟩,f1,f2⟩⟩:=hl.at hx
   subst fQ
   cases bb with
   | false=>
     refine aa ?_
     refine VS.back (N - (z + 1)) ab ⟨_,_,?_,?_,?_,?_,⟨z + 1,false,by omega,rfl,by rw [dM hx,jU];rfl,rfl,rfl⟩⟩
     ·refine ⟨rfl,rfl,?_,trivial⟩
      rw [<-aF (i:=z) ab];rfl
     ·exact cd
     ·rfl
     ·exact iD
   | true=>
     refine aa ?_
     refine VO.cond rfl dw ?_
     refine wV rfl ?_
     refine aa ?_
     refine VO.read rfl [.bool x.1.1,.slice ap x.1.2.1.length ac,.bool x.1.2.2.1,.slice ar x.1.2.2.2.length ad] rfl (aK hc 0 _ ⟨_,rfl⟩) (wV rfl ?_)
     refine aa ?_
     cases e1:x.1.ok with
     | false=>
       refine VO.call rfl rfl (fk Tryz.func85) (fun gF ld iC=>(bK x.1 false e1 _ gF (g1.kp (Kp.of (U:=UU) iC)) f1 hk).mono ?_)
       rintro e w6 ⟨rfl,fK⟩
       skip
       refine ⟨_,rfl,fK,fun lG _ pO=>wV rfl ?_⟩
       refine aa ?_
       refine VS.back (N - (z + 1)) ab ⟨_,_,?_,?_,?_,?_,⟨z + 1,false,by omega,rfl,by rw [dM hx,jU];unfold fO;rw [e1];rfl,rfl,rfl⟩⟩
       ·refine ⟨rfl,rfl,?_,trivial⟩
        rw [<-aF (i:=z) ab];rfl
       ·exact cd
       ·rfl
       ·exact iD
     | true=>
     refine VO.call rfl rfl (fk Tryz.func85) (fun gF ld iC=>(bK x.1 true e1 _ gF (g1.kp (Kp.of (U:=UU) iC)) f1 hk).mono ?_)
     rintro e w6 ⟨rfl,fK⟩
     skip
     refine ⟨_,rfl,fK,fun lG _ pO=>wV rfl ?_⟩
     refine aa ?_
     refine VO.cond rfl dw ?_
     refine wV rfl ?_
     refine aa ?_
     refine VO.read rfl [.bool x.2.1,.slice bp x.2.2.1.length bc,.bool x.2.2.2.1,.slice br x.2.2.2.2.length bd] rfl (aK hc 4 _ ⟨[],rfl⟩) (wV rfl ?_)
     refine aa ?_
     obtain ⟨b2,e2⟩:∃ b2,x.2.ok=b2:=⟨_,rfl⟩
     refine VO.call rfl rfl (fk Tryz.func85) (fun mW tJ lH=>(bK x.2 b2 e2 _ mW (g2.kp (Kp.of (U:=UU) lH)) f2 hk).mono ?_)
     rintro e w7 ⟨rfl,lL⟩
     skip
     refine ⟨_,rfl,lL,fun sU _ Cy=>wV rfl ?_⟩
     refine aa ?_
     refine VS.back (N - (z + 1)) ab ⟨_,_,?_,?_,?_,?_,⟨z + 1,b2,by omega,rfl,by rw [dM hx,jU];unfold fO;rw [e1,e2];rfl,rfl,rfl⟩⟩
     ·refine ⟨rfl,rfl,?_,trivial⟩
      rw [<-aF (i:=z) ab];rfl
     ·exact cd
     ·rfl
     ·exact iD
  ·refine VS.aQ rfl (decide_eq_false (fun e=>hlt (Int.ofNat_lt.1 e))) ?_
   refine aa ?_
   refine aR ?_;intro wz kz bz
   rw [List.take_of_length_le ab] at jU
   exact ⟨by rw [jU];rfl,bz⟩
 have e3:sg≥0:=by omega
 refine VO.fix 21 rfl (congrArg (fun b=>AV.val (.bool b)) (decide_eq_true e3)) ?_
 refine aa ?_
 refine VO.call rfl rfl (fk Tryz.func87) (fun jg kZ kt=>(Fj 1 jg ab ab).mono ?_)
 rintro e w4 ⟨r4,rfl,q4,fq⟩
 obtain ⟨s4,p4,n4,c4,t4,y4,m4,d4,rfl⟩:=q4.form
 refine ⟨_,rfl,fq,fun lz _ tH=>wV rfl ?_⟩
 refine aa ?_
 have h11:((1:Int):Rat)=1:=rfl
 rw [h11] at q4
 obtain ⟨cm,fX⟩:∃ cm,eg a.q 1=cm:=⟨_,rfl⟩
 rw [decide_eq_true e3,fX] at Cl
 refine VO.call rfl rfl (fk Tryz.func86) (fun gE ju ia=>(QE _ _ a.q 1 k 1 gE ((h1.iq ha).kp (Kp.of (U:=UU) ia)) (q4.ki ⟨Sz.small bW,Sz.small bW⟩) ab ab cm fX).mono ?_)
 rintro e w5 ⟨rfl,eP⟩
 skip
 refine ⟨_,rfl,eP,fun jV _ qu=>wV rfl ?_⟩
 refine aa ?_
 by_cases e4':0 < cm
 ·have e4:¬ cm≤0:=by omega
  have xp:dW a b keep=false:=by rw [Cl,decide_eq_false e4];rfl
  refine VO.fix 28 rfl (congrArg (fun b=>AV.val (.bool b)) (decide_eq_false e4)) ?_
  refine aa ?_
  refine VS.loop (J:=fun m L M w'=>∃ (z:Nat) (bb:Bool),z≤N/\m=N - z/\(dW a b keep && (l.take z).all fO)=bb/\L=[(1,.val (.slice pu N cu)),(5,.val (.bool bb)),(6,.val (.int .i64 (z:Int)))]/\M=[]) N ⟨_,_,?_,?_,?_,?_,⟨0,false,by omega,rfl,by rw [List.take_zero,xp];rfl,rfl,rfl⟩⟩ ?_
  ·exact cd
  ·exact cd
  ·rfl
  ·exact iD
  rintro m L M w9 ⟨z,bb,hz,rfl,jU,rfl,rfl⟩
  refine aa ?_
  by_cases hlt:z < N
  ·refine VS.aP rfl (decide_eq_true (Int.ofNat_lt.2 hlt)) ?_
   obtain ⟨x,hx⟩:∃ x,l[z]? =some x:=⟨_,List.getElem?_eq_getElem ab⟩
   obtain ⟨bx,off,cs,fQ,hc,⟨_,_,rfl,⟨ap,ac,ar,ad,rfl,g1⟩,⟨bp,bc,br,bd,rfl,g2⟩,f1,f2⟩⟩:=hl.at hx
   subst fQ
   cases bb with
   | false=>
     refine aa ?_
     refine VS.back (N - (z + 1)) ab ⟨_,_,?_,?_,?_,?_,⟨z + 1,false,by omega,rfl,by rw [dM hx,jU];rfl,rfl,rfl⟩⟩
     ·refine ⟨rfl,rfl,?_,trivial⟩
      rw [<-aF (i:=z) ab];rfl
     ·exact cd
     ·rfl
     ·exact iD
   | true=>
     refine aa ?_
     refine VO.cond rfl dw ?_
     refine wV rfl ?_
     refine aa ?_
     refine VO.read rfl [.bool x.1.1,.slice ap x.1.2.1.length ac,.bool x.1.2.2.1,.slice ar x.1.2.2.2.length ad] rfl (aK hc 0 _ ⟨_,rfl⟩) (wV rfl ?_)
     refine aa ?_
     cases e1:x.1.ok with
     | false=>
       refine VO.call rfl rfl (fk Tryz.func85) (fun gF ld iC=>(bK x.1 false e1 _ gF (g1.kp (Kp.of (U:=UU) iC)) f1 hk).mono ?_)
       rintro e w6 ⟨rfl,fK⟩
       skip
       refine ⟨_,rfl,fK,fun lG _ pO=>wV rfl ?_⟩
       refine aa ?_
       refine VS.back (N - (z + 1)) ab ⟨_,_,?_,?_,?_,?_,⟨z + 1,false,by omega,rfl,by rw [dM hx,jU];unfold fO;rw [e1];rfl,rfl,rfl⟩⟩
       ·refine ⟨rfl,rfl,?_,trivial⟩
        rw [<-aF (i:=z) ab];rfl
       ·exact cd
       ·rfl
       ·exact iD
     | true=>
     refine VO.call rfl rfl (fk Tryz.func85) (fun gF ld iC=>(bK x.1 true e1 _ gF (g1.kp (Kp.of (U:=UU) iC)) f1 hk).mono ?_)
     rintro e w6 ⟨rfl,fK⟩
     skip
     refine ⟨_,rfl,fK,fun lG _ pO=>wV rfl ?_⟩
     refine aa ?_
     refine VO.cond rfl dw ?_
     refine wV rfl ?_
     refine aa ?_
     refine VO.read rfl [.bool x.2.1,.slice bp x.2.2.1.length bc,.bool x.2.2.2.1,.slice br x.2.2.2.2.length bd] rfl (aK hc 4 _ ⟨[],rfl⟩) (wV rfl ?_)
     refine aa ?_
     obtain ⟨b2,e2⟩:∃ b2,x.2.ok=b2:=⟨_,rfl⟩
     refine VO.call rfl rfl (fk Tryz.func85) (fun mW tJ lH=>(bK x.2 b2 e2 _ mW (g2.kp (Kp.of (U:=UU) lH)) f2 hk).mono ?_)
     rintro e w7 ⟨rfl,lL⟩
     skip
     refine ⟨_,rfl,lL,fun sU _ Cy=>wV rfl ?_⟩
     refine aa ?_
     refine VS.back (N - (z + 1)) ab ⟨_,_,?_,?_,?_,?_,⟨z + 1,b2,by omega,rfl,by rw [dM hx,jU];unfold fO;rw [e1,e2];rfl,rfl,rfl⟩⟩
     ·refine ⟨rfl,rfl,?_,trivial⟩
      rw [<-aF (i:=z) ab];rfl
     ·exact cd
     ·rfl
     ·exact iD
  ·refine VS.aQ rfl (decide_eq_false (fun e=>hlt (Int.ofNat_lt.1 e))) ?_
   refine aa ?_
   refine aR ?_;intro wz kz bz
   rw [List.take_of_length_le ab] at jU
   exact ⟨by rw [jU];rfl,bz⟩
 have e4:cm≤0:=by omega
 rw [decide_eq_true e4] at Cl
 refine VO.fix 28 rfl (congrArg (fun b=>AV.val (.bool b)) (decide_eq_true e4)) ?_
 refine aa ?_
 by_cases e5':keep < 0
 ·have e5:¬ keep≥0:=by omega
  have xp:dW a b keep=false:=by rw [Cl,decide_eq_false e5];rfl
  refine VO.fix 33 rfl (congrArg (fun b=>AV.val (.bool b)) (decide_eq_false e5)) ?_
  refine aa ?_
  refine VS.loop (J:=fun m L M w'=>∃ (z:Nat) (bb:Bool),z≤N/\m=N - z/\(dW a b keep && (l.take z).all fO)=bb/\L=[(1,.val (.slice pu N cu)),(5,.val (.bool bb)),(6,.val (.int .i64 (z:Int)))]/\M=[]) N ⟨_,_,?_,?_,?_,?_,⟨0,false,by omega,rfl,by rw [List.take_zero,xp];rfl,rfl,rfl⟩⟩ ?_
  ·exact cd
  ·exact cd
  ·rfl
  ·exact iD
  rintro m L M w9 ⟨z,bb,hz,rfl,jU,rfl,rfl⟩
  refine aa ?_
  by_cases hlt:z < N
  ·refine VS.aP rfl (decide_eq_true (Int.ofNat_lt.2 hlt)) ?_
   obtain ⟨x,hx⟩:∃ x,l[z]? =some x:=⟨_,List.getElem?_eq_getElem ab⟩
   obtain ⟨bx,off,cs,fQ,hc,⟨_,_,rfl,⟨ap,ac,ar,ad,rfl,g1⟩,⟨bp,bc,br,bd,rfl,g2⟩,f1,f2⟩⟩:=hl.at hx
   subst fQ
   cases bb with
   | false=>
     refine aa ?_
     refine VS.back (N - (z + 1)) ab ⟨_,_,?_,?_,?_,?_,⟨z + 1,false,by omega,rfl,by rw [dM hx,jU];rfl,rfl,rfl⟩⟩
     ·refine ⟨rfl,rfl,?_,trivial⟩
      rw [<-aF (i:=z) ab];rfl
     ·exact cd
     ·rfl
     ·exact iD
   | true=>
     refine aa ?_
     refine VO.cond rfl dw ?_
     refine wV rfl ?_
     refine aa ?_
     refine VO.read rfl [.bool x.1.1,.slice ap x.1.2.1.length ac,.bool x.1.2.2.1,.slice ar x.1.2.2.2.length ad] rfl (aK hc 0 _ ⟨_,rfl⟩) (wV rfl ?_)
     refine aa ?_
     cases e1:x.1.ok with
     | false=>
       refine VO.call rfl rfl (fk Tryz.func85) (fun gF ld iC=>(bK x.1 false e1 _ gF (g1.kp (Kp.of (U:=UU) iC)) f1 hk).mono ?_)
       rintro e w6 ⟨rfl,fK⟩
       skip
       refine ⟨_,rfl,fK,fun lG _ pO=>wV rfl ?_⟩
       refine aa ?_
       refine VS.back (N - (z + 1)) ab ⟨_,_,?_,?_,?_,?_,⟨z + 1,false,by omega,rfl,by rw [dM hx,jU];unfold fO;rw [e1];rfl,rfl,rfl⟩⟩
       ·refine ⟨rfl,rfl,?_,trivial⟩
        rw [<-aF (i:=z) ab];rfl
       ·exact cd
       ·rfl
       ·exact iD
     | true=>
     refine VO.call rfl rfl (fk Tryz.func85) (fun gF ld iC=>(bK x.1 true e1 _ gF (g1.kp (Kp.of (U:=UU) iC)) f1 hk).mono ?_)
     rintro e w6 ⟨rfl,fK⟩
     skip
     refine ⟨_,rfl,fK,fun lG _ pO=>wV rfl ?_⟩
     refine aa ?_
     refine VO.cond rfl dw ?_
     refine wV rfl ?_
     refine aa ?_
     refine VO.read rfl [.bool x.2.1,.slice bp x.2.2.1.length bc,.bool x.2.2.2.1,.slice br x.2.2.2.2.length bd] rfl (aK hc 4 _ ⟨[],rfl⟩) (wV rfl ?_)
     refine aa ?_
     obtain ⟨b2,e2⟩:∃ b2,x.2.ok=b2:=⟨_,rfl⟩
     refine VO.call rfl rfl (fk Tryz.func85) (fun mW tJ lH=>(bK x.2 b2 e2 _ mW (g2.kp (Kp.of (U:=UU) lH)) f2 hk).mono ?_)
     rintro e w7 ⟨rfl,lL⟩
     skip
     refine ⟨_,rfl,lL,fun sU _ Cy=>wV rfl ?_⟩
     refine aa ?_
     refine VS.back (N - (z + 1)) ab ⟨_,_,?_,?_,?_,?_,⟨z + 1,b2,by omega,rfl,by rw [dM hx,jU];unfold fO;rw [e1,e2];rfl,rfl,rfl⟩⟩
     ·refine ⟨rfl,rfl,?_,trivial⟩
      rw [<-aF (i:=z) ab];rfl
     ·exact cd
     ·rfl
     ·exact iD
  ·refine VS.aQ rfl (decide_eq_false (fun e=>hlt (Int.ofNat_lt.1 e))) ?_
   refine aa ?_
   refine aR ?_;intro wz kz bz
   rw [List.take_of_length_le ab] at jU
   exact ⟨by rw [jU];rfl,bz⟩
 have e5:keep≥0:=by omega
 rw [decide_eq_true e5] at Cl
 refine VO.fix 33 rfl (congrArg (fun b=>AV.val (.bool b)) (decide_eq_true e5)) ?_
 refine aa ?_
 obtain ⟨bk,hbk⟩:∃ bk,decide (keep≤40)=bk:=⟨_,rfl⟩
 have xp:dW a b keep=bk:=by rw [Cl,hbk];rfl
 refine VS.fix 5 rfl (congrArg (fun b=>AV.val (.bool b)) hbk) ?_
 refine VS.loop (J:=fun m L M w'=>∃ (z:Nat) (bb:Bool),z≤N/\m=N - z/\(dW a b keep && (l.take z).all fO)=bb/\L=[(1,.val (.slice pu N cu)),(5,.val (.bool bb)),(6,.val (.int .i64 (z:Int)))]/\M=[]) N ⟨_,_,?_,?_,?_,?_,⟨0,bk,by omega,rfl,by rw [List.take_zero,xp];exact Bool.and_true bk,rfl,rfl⟩⟩ ?_
 ·exact cd
 ·exact cd
 ·rfl
 ·exact iD
 rintro m L M w9 ⟨z,bb,hz,rfl,jU,rfl,rfl⟩
 refine aa ?_
 by_cases hlt:z < N
 ·refine VS.aP rfl (decide_eq_true (Int.ofNat_lt.2 hlt)) ?_
  obtain ⟨x,hx⟩:∃ x,l[z]? =some x:=⟨_,List.getElem?_eq_getElem ab⟩
  obtain ⟨bx,off,cs,fQ,hc,⟨_,_,rfl,⟨ap,ac,ar,ad,rfl,g1⟩,⟨bp,bc,br,bd,rfl,g2⟩,f1,f2⟩⟩:=hl.at hx
  subst fQ
  cases bb with
  | false=>
    refine aa ?_
    refine VS.back (N - (z + 1)) ab ⟨_,_,?_,?_,?_,?_,⟨z + 1,false,by omega,rfl,by rw [dM hx,jU];rfl,rfl,rfl⟩⟩
    ·refine ⟨rfl,rfl,?_,trivial⟩
     rw [<-aF (i:=z) ab];rfl
    ·exact cd
    ·rfl
    ·exact iD
  | true=>
    refine aa ?_
    refine VO.cond rfl dw ?_
    refine wV rfl ?_
    refine aa ?_
    refine VO.read rfl [.bool x.1.1,.slice ap x.1.2.1.length ac,.bool x.1.2.2.1,.slice ar x.1.2.2.2.length ad] rfl (aK hc 0 _ ⟨_,rfl⟩) (wV rfl ?_)
    refine aa ?_
    cases e1:x.1.ok with
    | false=>
      refine VO.call rfl rfl (fk Tryz.func85) (fun gF ld iC=>(bK x.1 false e1 _ gF (g1.kp (Kp.of (U:=UU) iC)) f1 hk).mono ?_)
      rintro e w6 ⟨rfl,fK⟩
      skip
      refine ⟨_,rfl,fK,fun lG _ pO=>wV rfl ?_⟩
      refine aa ?_
      refine VS.back (N - (z + 1)) ab ⟨_,_,?_,?_,?_,?_,⟨z + 1,false,by omega,rfl,by rw [dM hx,jU];unfold fO;rw [e1];rfl,rfl,rfl⟩⟩
      ·refine ⟨rfl,rfl,?_,trivial⟩
       rw [<-aF (i:=z) ab];rfl
      ·exact cd
      ·rfl
      ·exact iD
    | true=>
    refine VO.call rfl rfl (fk Tryz.func85) (fun gF ld iC=>(bK x.1 true e1 _ gF (g1.kp (Kp.of (U:=UU) iC)) f1 hk).mono ?_)
    rintro e w6 ⟨rfl,fK⟩
    skip
    refine ⟨_,rfl,fK,fun lG _ pO=>wV rfl ?_⟩
    refine aa ?_
    refine VO.cond rfl dw ?_
    refine wV rfl ?_
    refine aa ?_
    refine VO.read rfl [.bool x.2.1,.slice bp x.2.2.1.length bc,.bool x.2.2.2.1,.slice br x.2.2.2.2.length bd] rfl (aK hc 4 _ ⟨[],rfl⟩) (wV rfl ?_)
    refine aa ?_
    obtain ⟨b2,e2⟩:∃ b2,x.2.ok=b2:=⟨_,rfl⟩
    refine VO.call rfl rfl (fk Tryz.func85) (fun mW tJ lH=>(bK x.2 b2 e2 _ mW (g2.kp (Kp.of (U:=UU) lH)) f2 hk).mono ?_)
    rintro e w7 ⟨rfl,lL⟩
    skip
    refine ⟨_,rfl,lL,fun sU _ Cy=>wV rfl ?_⟩
    refine aa ?_
    refine VS.back (N - (z + 1)) ab ⟨_,_,?_,?_,?_,?_,⟨z + 1,b2,by omega,rfl,by rw [dM hx,jU];unfold fO;rw [e1,e2];rfl,rfl,rfl⟩⟩
    ·refine ⟨rfl,rfl,?_,trivial⟩
     rw [<-aF (i:=z) ab];rfl
    ·exact cd
    ·rfl
    ·exact iD
 ·refine VS.aQ rfl (decide_eq_false (fun e=>hlt (Int.ofNat_lt.1 e))) ?_
  refine aa ?_
  refine aR ?_;intro wz kz bz
  rw [List.take_of_length_le ab] at jU
  exact ⟨by rw [jU];rfl,bz⟩
theorem Cm (v u:Value) (a b:RR) (keep:Int) (l:List (RR×RR)) (k:Nat) (w:World) (h:fN w v a b keep) (ha:a.jF k) (hb:b.jF k) (hl:cO (si k) 8 w u l) (hk:k≤100000) (hlen:l.length≤100000) (x:Bool) (hx:(dW a b keep && l.all fO)=x):
 Calls Tryz.prog 47 #[v,u] w fun o w'=>o=.returned (.bool x)/\aL w w':=hx▸QF v u a b keep l k w h ha hb hl hk hlen
end
end Go.Proofs.YtabalinjfgcfeaaGreat
