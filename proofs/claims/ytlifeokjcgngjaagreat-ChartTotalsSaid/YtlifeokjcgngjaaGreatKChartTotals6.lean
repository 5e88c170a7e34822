/-yV of the proof,laid behind one another. -/
import Derived.Test.YtlifeokjcgngjaaGreatKChartTotals5
set_option linter.all false
set_option maxHeartbeats 64000000
set_option maxRecDepth 4000
namespace Go.Proofs.YtlifeokjcgngjaaGreat
section
open Go.RowKit
attribute [local irreducible] aB VS
theorem GA {w:World} {b:Nat} {t:TypeId} {cs:List Value} (h:aL w b t cs.toArray) (off:Nat) (ds:List Value) (hd:ds <+:cs.drop off):∀ (j:Nat) (u:Value),ds[j]? =some u->w.cell? ((⟨b,off,none⟩:Addr).add j)=some u:=by
 intro j u hj
 obtain⟨t,ht⟩:=hd
 rw[Addr.add_mid]
 refine aL.cell (b:=b) h ?_
 rw[List.getElem?_toArray,<-List.getElem?_drop,<-ht,List.getElem?_append_left (List.getElem?_eq_some_iff.1 hj).1]
 exact hj
set_option maxRecDepth 4000
theorem rowsA_e {kk:Nat} {w:World} {v:Value} {t:kL} (h:cj (pj (qT kk)) 1 w v t):cj (lE kk) 1 w v t:=h.mono (λi r cs hr hb=>by
 obtain⟨u,rfl,h1⟩:=hb
 exact⟨u,rfl,h1.mono (λk x cs hx hb=>by
  obtain⟨s,p,n,c,t,y,m,d,rfl,g1,g2⟩:=hb
  exact⟨_,_,_,_,_,_,_,_,rfl,g1.in g2⟩)⟩)
set_option maxRecDepth 4000
abbrev TT5:TypeId->Bool:=λt=>(Nat.beq t 105 || (Nat.beq t 27 || (Nat.beq t 147 || Nat.beq t 38)))
section
variable {F F':Fr} {H H':Hp} {w w1:World} {N:Nat} {l':List Oper} {Q:Exit->Act->World->Prop} {k:List It} {id:Nat} {ops:Array Oper}
end
theorem fF.sp {kk B:Nat} {w:World} {v:Value} {t:kL} (h:fF kk B w v t):SpTab B w v:=by
 obtain⟨us,g1,g2,g3,-⟩:=h
 refine⟨us,g1.mono (Nat.zero_le _),λu hu=> ?_⟩
 obtain⟨i,hi⟩:=List.getElem?_of_mem hu
 obtain⟨r,hr⟩:∃ r,t[i]? =some r:=⟨_,List.getElem?_eq_getElem (by rw[<-g2];exact (List.getElem?_eq_some_iff.1 hi).1)⟩
 have h3:=g3 i u r hi hr
 have h4:=h3.sl (cO B kk)
 obtain⟨p,c,rfl,gg,gF⟩:=h4.form
 refine⟨p,r.length,c,rfl,gg,gF,λhn=> ?_⟩
 rcases h3 with ⟨hv,he⟩|⟨b,c',vs,sp,hv,hB,da,mG,kV,hle,hcm',jM⟩
 ·rw[he] at hn;simp at hn
 ·cases hv
  refine⟨b,_,rfl,hB,da,?_,λj hj=> ?_⟩
  ·rw[List.size_toArray,jM];exact Nat.mul_le_mul_right _ hle
  ·obtain⟨x,hx⟩:∃ x,r[j]? =some x:=⟨_,List.getElem?_eq_getElem hj⟩
   obtain⟨cs,hcs,⟨s,q,k,l,t',y,m,d,rfl,aI,-⟩⟩:=mG.at j x hx
   obtain⟨s',p',n',c2,t2,r',m',d',hv',-,-,h5,h6⟩:=aI.husk
   cases hv'
   refine⟨s,q,k,l,t',y,m,d,λa u hu=> ?_,h5,h6⟩
   have h7:=mG.cell (cO B kk) j _ hcs a u hu
   rw[List.getElem?_toArray,List.getElem?_append_left (List.getElem?_eq_some_iff.1 h7).1]
   exact h7
theorem Kz {w w6 w7:World} {B:Nat} (h:ax w w6) (hB:w.heap.size<=B) (k:Below B w6 w7):ax w w7:=Below.trans h ⟨k.os,k.tape,k.output,k.size,λb hb=>k.block b aa⟩
set_option maxRecDepth 4000
def six (x:Rw):Prop:=x.xs.length<=6/\x.ys.length<=6
set_option maxRecDepth 4000 in
theorem NQ (v:Value) (l:List Rw) (kk:Nat) (w:World) (hv:cj (bZ kk) 4 w v l):
  Calls Tryz.prog 126 #[v] w λo w'=>∃ b,o=.returned (.bool b)/\(b=true->∀ x∈l,six x)/\ax w w':=by
 obtain⟨p,c,rfl,gg,gF⟩:=hv.form
 obtain⟨N,hN⟩:∃ N,N=l.length:=⟨_,rfl⟩
 rw[<-hN] at hv gg ⊢
 refine ai (C:=bj Tryz.prog w _) (args:=[_]) Tryz.func126 rfl Tryz.ntmps126 (cr rfl) ?_
 refine ae ?_
 refine VS.loop (J:=λm L M w'=>∃ z:Nat,z<=N/\m=N-z/\L=[(0,.val (.slice p N c)),(3,.val (.int .i64 (z:Int)))]/\M=[]/\∀ (i:Nat) (x:Rw),i<z->l[i]? =some x->six x) N ⟨_,_,?_,?_,?_,?_,⟨0,by omega,rfl,rfl,rfl,λi x hi=>by omega⟩⟩ ?_
 ·exact du
 ·exact du
 ·rfl
 ·exact iq
 rintro m L M wJ ⟨z,hz,rfl,rfl,rfl,hup⟩
 refine ae ?_
 by_cases hlt:z<N
 rotate_left
 ·refine VS.aN rfl (decide_eq_false (λe=>hlt (Int.ofNat_lt.1 e))) ?_
  refine ae ?_
  refine bV ?_;intro wz kz bz
  refine⟨_,rfl,λ_ x hx=> ?_,bz⟩
  obtain⟨i,hi⟩:=List.getElem?_of_mem hx
  exact hup i x (by have:=(List.getElem?_eq_some_iff.1 hi).1;omega) hi
 obtain⟨x,hx⟩:∃ x,l[z]? =some x:=⟨_,List.getElem?_eq_getElem aa⟩
 obtain⟨b,off,cs,rfl,hc,dE⟩:=hv.at hx
 obtain⟨s,px,cx,t,yx,dx,rfl,oz⟩:=dE.form
 obtain⟨_,_,_,_,hv',h1,h2⟩:=oz
 clear hv'
 have bl:=h1.Iv.1.u32
 have bM:=h2.Iv.1.u32
 refine VS.aU rfl (decide_eq_true (Int.ofNat_lt.2 hlt)) ?_
 refine ae ?_
 refine VO.cond rfl cW ?_
 refine wV rfl ?_
 refine ae ?_
 refine VO.read rfl [.slice px x.xs.length cx] rfl (aC hc 1 _ ⟨_,rfl⟩) (wV rfl ?_)
 refine ae ?_
 by_cases h6:(x.xs.length:Int)>6
 ·refine VO.fix 18 rfl (congrArg (λb=>AV.val (.bool b)) (decide_eq_true h6)) ?_
  refine ae ?_
  refine bV ?_;intro wz kz bz
  exact⟨_,rfl,λh=>(by cases h),bz⟩
 refine VO.fix 18 rfl (congrArg (λb=>AV.val (.bool b)) (decide_eq_false h6)) ?_
 refine ae ?_
 refine VO.cond rfl cW ?_
 refine wV rfl ?_
 refine ae ?_
 refine VO.read rfl [.slice yx x.ys.length dx] rfl (aC hc 3 _ ⟨[],rfl⟩) (wV rfl ?_)
 refine ae ?_
 by_cases h7:(x.ys.length:Int)>6
 ·refine VS.aU rfl (decide_eq_true h7) ?_
  refine ae ?_
  refine bV ?_;intro wz kz bz
  exact⟨_,rfl,λh=>(by cases h),bz⟩
 refine VS.aN rfl (decide_eq_false h7) ?_
 refine ae ?_
 refine VS.back (N-(z+1)) aa ⟨_,_,?_,?_,?_,?_,⟨z+1,by omega,rfl,rfl,rfl,λi y hi hy=> ?_⟩⟩
 ·refine⟨rfl,?_,trivial⟩
  rw[<-ay (i:=z) aa];rfl
 ·exact du
 ·rfl
 ·exact iq
 ·by_cases Kk:i=z
  ·subst Kk;rw[hx] at hy;cases hy;exact⟨by omega,by omega⟩
  ·exact hup i y aa hy
set_option maxRecDepth 4000 in
theorem GB (v:Value) (l:List ByteArray) (w:World) (hv:cj dv 1 w v l):
  Calls Tryz.prog 128 #[v] w λo w'=>∃ b,o=.returned (.bool b)/\(b=true->∀ x∈l,x.size<=70)/\ax w w':=by
 obtain⟨p,c,rfl,gg,gF⟩:=hv.form
 obtain⟨N,hN⟩:∃ N,N=l.length:=⟨_,rfl⟩
 rw[<-hN] at hv gg ⊢
 refine ai (C:=bj Tryz.prog w _) (args:=[_]) Tryz.func128 rfl Tryz.ntmps128 (cr rfl) ?_
 refine ae ?_
 refine VS.loop (J:=λm L M w'=>∃ z:Nat,z<=N/\m=N-z/\L=[(0,.val (.slice p N c)),(3,.val (.int .i64 (z:Int)))]/\M=[]/\∀ (i:Nat) (x:ByteArray),i<z->l[i]? =some x->x.size<=70) N ⟨_,_,?_,?_,?_,?_,⟨0,by omega,rfl,rfl,rfl,λi x hi=>by omega⟩⟩ ?_
 ·exact du
 ·exact du
 ·rfl
 ·exact iq
 rintro m L M wJ ⟨z,hz,rfl,rfl,rfl,hup⟩
 refine ae ?_
 by_cases hlt:z<N
 rotate_left
 ·refine VS.aN rfl (decide_eq_false (λe=>hlt (Int.ofNat_lt.1 e))) ?_
  refine ae ?_
  refine bV ?_;intro wz kz bz
  refine⟨_,rfl,λ_ x hx=> ?_,bz⟩
  obtain⟨i,hi⟩:=List.getElem?_of_mem hx
  exact hup i x (by have:=(List.getElem?_eq_some_iff.1 hi).1;omega) hi
 obtain⟨x,hx⟩:∃ x,l[z]? =some x:=⟨_,List.getElem?_eq_getElem aa⟩
 obtain⟨b,off,cs,rfl,hc,dE⟩:=hv.at hx
 cases dE
 refine VS.aU rfl (decide_eq_true (Int.ofNat_lt.2 hlt)) ?_
 refine ae ?_
 refine VO.cond rfl cW ?_
 refine wV rfl ?_
 refine ae ?_
 refine VO.read rfl [.string x] rfl (cN hc) (wV rfl ?_)
 refine ae ?_
 by_cases h7:((x.size:Nat):Int)>70
 ·refine VS.aU rfl (decide_eq_true h7) ?_
  refine ae ?_
  refine bV ?_;intro wz kz bz
  exact⟨_,rfl,λh=>(by cases h),bz⟩
 refine VS.aN rfl (decide_eq_false h7) ?_
 refine ae ?_
 refine VS.back (N-(z+1)) aa ⟨_,_,?_,?_,?_,?_,⟨z+1,by omega,rfl,rfl,rfl,λi y hi hy=> ?_⟩⟩
 ·refine⟨rfl,?_,trivial⟩
  rw[<-ay (i:=z) aa];rfl
 ·exact du
 ·rfl
 ·exact iq
 ·by_cases Kk:i=z
  ·subst Kk;rw[hx] at hy;cases hy;omega
  ·exact hup i y aa hy
theorem cJ.app {α:Type} {E:World->List Value->α->Prop} {w:World}:∀ {zs bs:List α} {vs us:List (List Value)},cJ E w zs vs->cJ E w bs us->cJ E w (zs++bs) (vs++us)
 | _,_,_,_,.nil,h=>h
 | _,_,_,_,.cons h t,k=>.cons h (t.app k)
section
variable {C:Cx} {F:Fr} {H:Hp} {w:World} {m:Option (List FuncId)} {full:Array Oper} {K:Fr->Hp->World->Prop} {o:Oper} {r:List Oper}
theorem VO.tP {α:Type} {E:World->List Value->α->Prop} {sz:Nat} (hC:C.Ok) (hE:fD E sz) {t e te:TypeId} {it ie:TI} {x y:Operand} {s i n c kn:Nat} {css:List (List Value)} {zs:List α} {vs:List (List Value)} {sp:List AV} {es:List α} {dst:Nat}
  (e0:stepOf C full F H o=.call (.op o [.row i 0 n c,.row s 0 kn kn])) (ho:o.op=.call { callee:=.builtin .append,args:=#[x,y],argTypes:=#[t,t] })
  (AJ:C.ti t=some it) (dE:it.elem=some (e,sz)) (qI:C.ti e=some ie) (hU:C.K.fz e=false) (JG:ie.zero.cells.toList.all bf=true)
  (hd:o.dst=some dst) (hN:dst<C.N) (hl:lvl C.SU m o=2) (gj:H dst=none\/some i=some dst) (hi:H i=some (e,vs.flatten.map .val++sp)) (hr:bO E sz w n c vs sp es) (hs:H s=some (te,css.flatten.map .val)) (hcs:cJ E w zs css) (nO:zs.length=kn) (zc:0<kn) (fh:(n+kn)*(24*sz)<=140737488355328)
  (hK:∀ w2 cap fx ρ,aK C.K w w2->C.Old w2->(∀ x,bf (ρ x)=true)->bO E sz w2 (n+kn) cap (vs++css) fx (es++zs)->aB C m full r K ((F.forget (some i) ρ).bo o.dst (.row dst 0 (n+kn) cap)) ((H.forget (some i) ρ).put dst (e,(vs++css).flatten.map AV.val++fx)) w2)
  (Lh:∀ w w',aK C.K w w'->Kp UU w w':=by first|exact λ_ _ h=>h|exact λ_ _ h=>h.dN):aB C m full (o::r) K F H w:=by
 obtain⟨k1,k2⟩:=hr.el.ok hE
 obtain⟨j1,j2⟩:=hcs.ok hE
 have Fh:=hr.len
 refine VO.app hC e0 ho AJ dE qI hU JG hd hN hl (known:=vs.flatten.map .val) (spare:=sp) (del:=some i) (n:=n) (c:=c) (mm:=kn) (news:=css.flatten.map .val) (.inr ⟨i,rfl,hi,rfl⟩) gj (by rw[List.length_map,k2,Fh]) hr.fl hr.le hr.cm ⟨af _,hr.sl,af _⟩ ⟨bc k1,hr.so,bc j1⟩ (by rw[List.length_map,j2,nO]) fh
  (λw1 β k1 b1 ho=>⟨_,_,rfl,.inr ⟨β s,0,rfl,gP (rest:=[]) (ho.own s (.base (List.mem_append_right _ (List.mem_singleton.2 rfl))) _ _ hs) (by rw[List.append_nil])⟩⟩) (λw2 cap fx ρ k2 b2 dY h1 h2 h3 h4 h5=> ?_)
 have e:(vs.flatten.map AV.val++css.flatten.map .val)=(vs++css).flatten.map AV.val:=by simp
 have:=hK w2 cap fx ρ k2 b2 dY ⟨by rw[List.length_append,hr.len,nO],(hr.el.kp hE (Lh _ _ k2)).app (hcs.kp hE (Lh _ _ k2)),h4,h5,by omega,h2,by rw[<-e];exact h3⟩
 rw[<-e] at this
 exact this
theorem VO.appT {α:Type} {E:World->List Value->α->Prop} {sz:Nat} (hC:C.Ok) (hE:fD E sz) {t e:TypeId} {it ie:TI} {x y:Operand} {i n c:Nat} {u:Value} {zs:List α} {vs:List (List Value)} {sp:List AV} {es:List α} {dst:Nat}
  (e0:stepOf C full F H o=.call (.op o [.row i 0 n c,.val u])) (ho:o.op=.call { callee:=.builtin .append,args:=#[x,y],argTypes:=#[t,t] })
  (AJ:C.ti t=some it) (dE:it.elem=some (e,sz)) (qI:C.ti e=some ie) (hU:C.K.fz e=false) (JG:ie.zero.cells.toList.all bf=true)
  (hd:o.dst=some dst) (hN:dst<C.N) (hl:lvl C.SU m o=2) (gj:H dst=none\/some i=some dst) (hi:H i=some (e,vs.flatten.map .val++sp)) (hr:bO E sz w n c vs sp es) (css:List (List Value)) (hcs:cJ E w zs css)
  (xm:∀ w1,aK C.K w w1->C.Old w1->∃ p cc,u=.slice p zs.length cc/\(zs.length=0\/∃ b off,p=some ⟨b,off,none⟩/\∀ (j:Nat) (q:Value),css.flatten[j]? =some q->w1.cell? ⟨b,off+j,none⟩=some q)) (fh:(n+zs.length)*(24*sz)<=140737488355328)
  (hK:∀ w2 cap fx ρ,aK C.K w w2->C.Old w2->(∀ x,bf (ρ x)=true)->bO E sz w2 (n+zs.length) cap (vs++css) fx (es++zs)->aB C m full r K ((F.forget (some i) ρ).bo o.dst (.row dst 0 (n+zs.length) cap)) ((H.forget (some i) ρ).put dst (e,(vs++css).flatten.map AV.val++fx)) w2)
  (Lh:∀ w w',aK C.K w w'->Kp UU w w':=by first|exact λ_ _ h=>h|exact λ_ _ h=>h.dN):aB C m full (o::r) K F H w:=by
 obtain⟨k1,k2⟩:=hr.el.ok hE
 obtain⟨j1,j2⟩:=hcs.ok hE
 have Fh:=hr.len
 refine VO.app hC e0 ho AJ dE qI hU JG hd hN hl (known:=vs.flatten.map .val) (spare:=sp) (del:=some i) (n:=n) (c:=c) (mm:=zs.length) (news:=css.flatten.map .val) (.inr ⟨i,rfl,hi,rfl⟩) gj (by rw[List.length_map,k2,Fh]) hr.fl hr.le hr.cm ⟨af _,hr.sl,af _⟩ ⟨bc k1,hr.so,bc j1⟩ (by rw[List.length_map,j2]) fh
  (λw1 β k1 b1 ho=> ?_) (λw2 cap fx ρ k2 b2 dY h1 h2 h3 h4 h5=> ?_)
 ·obtain⟨p,cc,hu,sQ⟩:=xm w1 k1 b1
  refine⟨p,cc,hu,sQ.imp id (λ⟨b,off,hp,hc⟩=>⟨b,off,hp,λj q hj=> ?_⟩)⟩
  rw[aP] at hj
  exact hc j q hj
 ·have e:(vs.flatten.map AV.val++css.flatten.map .val)=(vs++css).flatten.map AV.val:=by simp
  have:=hK w2 cap fx ρ k2 b2 dY ⟨by rw[List.length_append,hr.len],(hr.el.kp hE (Lh _ _ k2)).app (hcs.kp hE (Lh _ _ k2)),h4,h5,by omega,h2,by rw[<-e];exact h3⟩
  rw[<-e] at this
  exact this
end
set_option maxRecDepth 4000
theorem eF {α β:Type} {g:α->List β} {l:List α} {i:Nat} {x:α} (h:l[i]? =some x):(l.take (i+1)).flatMap g=(l.take i).flatMap g++g x:=by
 rw[aR h,List.flatMap_append];simp
def qY (b:BrR):List Rw:=[b.1,b.2]
def xW (x:vM):List Rw:=[x.2.2]
def jo (x:Ew):List Rw:=[x.2.2]
def xX (x:DlR):List Rw:=[x.zU]
def xY (x:SkR):List Rw:=[x.2.1,x.2.2]
def GC (x:SdR):List Rw:=[x.2]
def jR (y:yO):List Rw:=y.holds.flatMap jo++y.cf.flatMap jo++y.dG.flatMap xX++y.dp.flatMap xY++y.gf.flatMap GC
def iV (f:iU):List Rw:=[f.eW,f.cap,f.eX,f.eZ]++f.pZ.flatMap qY++f.cls.flatMap xW++f.iy.flatMap jR
structure NR (f:iU):Prop where
 pZ:f.pZ.length<=20
 cls:f.cls.length<=70
 bu:f.bu.length<=260
 iy:f.iy.length<=45
 each:∀ y∈f.iy,y.holds.length<=40/\y.cf.length<=40/\y.dG.length<=40/\y.dp.length<=40/\y.gf.length<=40
set_option maxRecDepth 8000 in
theorem NS (v:Value) (f:iU) (kk:Nat) (w:World) (hv:mz kk w v f) (hs:NR f):
  Calls Tryz.prog 127 #[v] w λo w'=>∃ r,o=.returned r/\aE (bZ kk) 4 27 w.heap.size w' r (iV f)/\ax w w':=by
 obtain⟨pB,nB,cB,sT,pT,nT,cT,tT,yT,mT,dT,sC,pC,nC,cC,tC,yC,mC,dC,sI,pI,nI,cI,tI,yI,mI,dI,sF,pF,nF,cF,tF,yF,mF,dF,pc,Nc,cc,pe,Ne,ce,py,Ny,cy,rfl,h1,h2,h3,h4,h5,h6,h7,h8⟩:=hv
 have hnB:nB=f.pZ.length:=by obtain⟨_,_,e,_⟩:=h1.form;cases e;rfl
 have Ev:Nc=f.cls.length:=by obtain⟨_,_,e,_⟩:=h6.form;cases e;rfl
 have Lk:Ny=f.iy.length:=by obtain⟨_,_,e,_⟩:=h8.form;cases e;rfl
 have hsB:=hs.pZ
 have hsC:=hs.cls
 have hsY:=hs.iy
 refine ai (C:=bj Tryz.prog w _) (args:=[_]) Tryz.func127 rfl Tryz.ntmps127 (cr rfl) ?_
 refine ae ?_
 refine VS.eV (λw=>bj Tryz.prog w 159) (λ_=>rfl) (λ_=>rfl) (λ_=>ax.refl _) (λw0 β k0 iZ en=> ?_)
 have GD:ax w w0:=iZ
 have NT:aL w0 (β 1) 32 #[.string f.name,.string f.parent,.slice pB nB cB,.bool sT,.slice pT nT cT,.bool tT,.slice yT mT dT,.bool sC,.slice pC nC cC,.bool tC,.slice yC mC dC,.int .i64 f.bk,.int .i64 f.fw,.bool sI,.slice pI nI cI,.bool tI,.slice yI mI dI,.bool sF,.slice pF nF cF,.bool tF,.slice yF mF dF,.int .i64 f.kp,.slice pc Nc cc,.slice pe Ne ce,.slice py Ny cy]:=(en.own 1 _ _ rfl).cls
 have aQ:aE (bZ kk) 4 27 w.heap.size w0 (.slice (some ⟨β 21,0,none⟩) 4 4) [f.eW,f.cap,f.eX,f.eZ]:=kK (E:=bZ kk) (vs:=[[.bool sT,.slice pT nT cT,.bool tT,.slice yT mT dT],[.bool sC,.slice pC nC cC,.bool tC,.slice yC mC dC],[.bool sI,.slice pI nI cI,.bool tI,.slice yI mI dI],[.bool sF,.slice pF nF cF,.bool tF,.slice yF mF dF]]) (spare:=[]) (en.own 21 _ _ rfl) (.cons (h2.kp (Kp.of (U:=UU) iZ)) (.cons (h3.kp (Kp.of (U:=UU) iZ)) (.cons (h4.kp (Kp.of (U:=UU) iZ)) (.cons (h5.kp (Kp.of (U:=UU) iZ)) .nil)))) rfl (Nat.le_refl _) cH rfl (λ_ _ h=>h)
 refine⟨[(1,.val (.pointer (some ⟨β 1,0,none⟩))),(3,.val (.slice (some ⟨β 21,0,none⟩) 4 4)),(4,.val (.int .i64 ((0:Nat):Int)))],⟨⟨_,_,rfl,rfl,rfl⟩,⟨_,_,rfl,rfl,rfl⟩,⟨_,_,rfl,rfl,rfl⟩,trivial⟩,?_⟩
 generalize β 1=g1 at NT ⊢
 obtain⟨v,hvv⟩:∃ v,v=Value.slice (some ⟨β 21,0,none⟩) 4 4:=⟨_,rfl⟩
 rw[<-hvv] at aQ ⊢
 clear hvv en
 obtain⟨es,hes⟩:∃ es,es=[f.eW,f.cap,f.eX,f.eZ]:=⟨_,rfl⟩
 rw[<-hes] at aQ
 have fO:4<=es.length:=by rw[hes];exact Nat.le_refl _
 have zW:es.length<=4:=by rw[hes];exact Nat.le_refl _
 refine VS.fY (J:=λm L W=>∃ (i:Nat) (v:Value) (es:List (Rw)),i<=nB/\m=nB-i/\L=[(1,.pointer (some ⟨g1,0,none⟩)),(3,v),(4,.int .i64 (i:Int))]/\ax w W/\aL W g1 32 #[.string f.name,.string f.parent,.slice pB nB cB,.bool sT,.slice pT nT cT,.bool tT,.slice yT mT dT,.bool sC,.slice pC nC cC,.bool tC,.slice yC mC dC,.int .i64 f.bk,.int .i64 f.fw,.bool sI,.slice pI nI cI,.bool tI,.slice yI mI dI,.bool sF,.slice pF nF cF,.bool tF,.slice yF mF dF,.int .i64 f.kp,.slice pc Nc cc,.slice pe Ne ce,.slice py Ny cy]/\aE (bZ kk) 4 27 w.heap.size W v es/\es=[f.eW,f.cap,f.eX,f.eZ]++((f.pZ).take i).flatMap qY/\4<=es.length/\es.length<=4+2*i)
  (λW=>bj Tryz.prog W 159) (λ_=>rfl) (λ_=>rfl) (λ_=>ax.refl _) nB (λw' β k' o en=>⟨[(1,.pointer (some ⟨g1,0,none⟩)),(3,v),(4,.int .i64 ((0:Nat):Int))],⟨⟨_,_,rfl,rfl,rfl⟩,⟨_,_,rfl,rfl,rfl⟩,⟨_,_,rfl,rfl,rfl⟩,trivial⟩,0,v,es,by omega,rfl,rfl,GD.aH o,NT.az o,aQ.az (bZ.el kk) o,by rw[List.take_zero,hes];rfl,fO,by omega⟩) ?_
 rintro m L wA ⟨i,v,es,hi,rfl,rfl,hBwA,GF,aQ,hes,fO,zW⟩
 refine ae ?_
 refine VO.read rfl [.slice pB nB cB] rfl (aG (GF.cell (j:=2) rfl)) (wV rfl ?_)
 refine ae ?_
 by_cases hlt:i<nB
 ·obtain⟨x,hx⟩:∃ x,(f.pZ)[i]? =some x:=⟨_,List.getElem?_eq_getElem (by rw[<-hnB];exact hlt)⟩
  obtain⟨b,off,uG,rfl,hc,dE⟩:=h1.at hx
  obtain⟨s1,p1,n1,c1,t1,y1,m1,d1,s2,p2,n2,c2,t2,y2,m2,d2,rfl,nz,IJ⟩:=dE
  obtain⟨b0,c0,vs,sp,rfl,nL,da,mG,kV,hle,jS,jM⟩:∃ b0 c0 vs sp,v=.slice (some ⟨b0,0,none⟩) es.length c0/\w.heap.size<=b0/\aL wA b0 27 (vs.flatten++sp).toArray/\cJ (bZ kk) wA es vs/\sp.all bf=true/\es.length<=c0/\c0<=9223372036854775807/\(vs.flatten++sp).length=c0*4:=by
   rcases aQ with ⟨_,dc⟩|⟨b0,c0,vs,sp,h1,h2,h3,h4,h5,h6,h7,h8⟩
   ·rw[dc] at fO;simp at fO
   ·exact⟨b0,c0,vs,sp,h1,h2,h3,h4,h5,h6,h7,h8⟩
  have eS:g1≠b0:=λh=>by rw[h] at GF;exact absurd (bt GF da) cH
  refine VS.aU rfl (decide_eq_true (Int.ofNat_lt.2 hlt)) ?_
  refine VS.bI di (λt=>Nat.beq t 23) table (λ_ _ _=>trivial) (λbm jk k1 fG jZ=> ?_)
  have ar:ax wA bm:=fG
  have iu:=hBwA.size
  have fL:=ar.size
  have cZ:cM di 159 [b0] [(27,vs.flatten.map .val++sp.map .val)] bm:=by
   refine⟨rfl,by simp,λj g' c' hj hc=> ?_,λc' hc=> ?_,λc' hc k hk=> ?_⟩
   ·match j,hj,hc with
    | 0,hj,hc=>cases hj;cases hc;rw[<-List.map_append,aP];exact da.az ar
    | j+1,hj,_=>simp at hj
   ·cases List.mem_singleton.1 hc
    exact⟨rfl,by rw[<-List.map_append];exact bc (by rw[List.all_append,(mG.ok (bZ.el kk)).1,kV];rfl)⟩
   ·cases List.mem_singleton.1 hc
    rw[<-List.map_append,af] at hk;cases hk
  have qj:bO (bZ kk) 4 bm es.length c0 vs (sp.map .val) es:=⟨rfl,mG.kp (bZ.el kk) (Kp.of (U:=UU) ar),bc kV,af _,hle,jS,by rw[<-List.map_append,List.length_map];exact jM⟩
  refine⟨[b0],[(27,vs.flatten.map .val++sp.map .val)],cZ,[(1,.val (.pointer (some ⟨g1,0,none⟩))),(3,.row 318 0 es.length c0),(4,.val (.int .i64 (i:Int)))],⟨⟨_,rfl,rfl,λi hi=>(by cases hi)⟩,⟨_,rfl,rfl,λi hi=>by rw[(by simpa [AV.ids] using hi:i=318)];exact⟨(by show 318<=318;omega),(by show 318<2*159+1;omega)⟩⟩,⟨_,rfl,rfl,λi hi=>(by cases hi)⟩,trivial⟩,?_⟩
  have ea:ax w bm:=hBwA.aH ar
  have eG:∀ {b off:Nat} {cs:List Value},(∀ (j:Nat) (u:Value),cs[j]? =some u->w.cell? ((⟨b,off,none⟩:Addr).add j)=some u)->∀ (j:Nat) (u:Value),cs[j]? =some u->Cx.At (gV Tryz.prog bm 159 [b0] cZ.nodup cZ.ad) ((⟨b,off,none⟩:Addr).add j) u:=λh j u hj=>aY (λhm=>by
   have:=World.block_lt_of_cell? w _ (h j u hj)
   omega) (ea.cell (h j u hj))
  refine ag ?_
  refine VO.aO rfl [.slice (some ⟨b,off,none⟩) nB cB] rfl (λj u hj=>aY (by rw[Addr.add_mid];exact eS) (aG ((GF.az ar).cell (j:=2) rfl) j u hj)) (wV rfl ?_)
  refine ag ?_
  refine VO.cond rfl cW ?_
  refine wV rfl ?_
  refine ag ?_
  refine VO.aO rfl [.bool s1,.slice p1 n1 c1,.bool t1,.slice y1 m1 d1] rfl (eG (aC hc 0 _ ⟨_,rfl⟩)) (wV rfl ?_)
  refine ag ?_
  refine VO.aO rfl [.slice (some ⟨b,off,none⟩) nB cB] rfl (λj u hj=>aY (by rw[Addr.add_mid];exact eS) (aG ((GF.az ar).cell (j:=2) rfl) j u hj)) (wV rfl ?_)
  refine ag ?_
  refine VO.cond rfl cW ?_
  refine wV rfl ?_
  refine ag ?_
  refine VO.aO rfl [.bool s2,.slice p2 n2 c2,.bool t2,.slice y2 m2 d2] rfl (eG (aC hc 4 _ ⟨_,rfl⟩)) (wV rfl ?_)
  refine ag ?_
  have hcs:cJ (bZ kk) bm [x.1,x.2] [[.bool s1,.slice p1 n1 c1,.bool t1,.slice y1 m1 d1],[.bool s2,.slice p2 n2 c2,.bool t2,.slice y2 m2 d2]]:=.cons (nz.kp (Kp.of (U:=UU) ea)) (.cons (IJ.kp (Kp.of (U:=UU) ea)) .nil)
  refine VO.tP (bA _ _) (bZ.el kk) (t:=105) (e:=27) (s:=42) (i:=318) (n:=es.length) (c:=c0) (kn:=2) (css:=[[.bool s1,.slice p1 n1 c1,.bool t1,.slice y1 m1 d1],[.bool s2,.slice p2 n2 c2,.bool t2,.slice y2 m2 d2]]) (zs:=[x.1,x.2]) (vs:=vs) (sp:=sp.map .val) (es:=es) rfl rfl rfl rfl rfl rfl rfl rfl (cr rfl) rfl (.inl rfl) rfl (qj.kp (bZ.el kk) (show aK di bm _ from dz)) rfl (hcs.kp (bZ.el kk) (show aK di bm _ from dz)) rfl aa aa (λgm cap fx ρ vK vL dY dR=>wV rfl ?_)
  refine ag ?_
  refine VS.fq rfl (nB-(i+1)) aa (λw' bn k' o' jx=> ?_)
  have kc:ax w w':=eJ.az ea o'.1 (λx hx=>by rw[List.mem_singleton.1 hx];exact nL)
  have hst:dD (bZ kk) 4 27 43 (.row 43 0 (es.length+2) cap) [(43,(27,_))] gm (es++[x.1,x.2]):=.inr ⟨_,cap,_,fx,rfl,rfl,dR⟩
  have eI:=hst.told (bZ.el kk) jx (λx hx=>by cases List.mem_singleton.1 hx;rfl) (show aK di gm w' from k') w.heap.size (λh=>(ba (show ez 159 [b0] bm 43 (bn 43) from h)).elim (λq=>Nat.le_trans iu (Nat.le_trans fL q)) (λq=>by rw[List.mem_singleton.1 q];exact nL))
  refine⟨[(1,.pointer (some ⟨g1,0,none⟩)),(3,.slice (some ⟨bn 43,0,none⟩) (es.length+2) cap),(4,.int .i64 ((i+1:Nat):Int))],⟨⟨_,_,rfl,rfl,rfl⟩,⟨_,_,rfl,rfl,rfl⟩,⟨_,_,rfl,congrArg (λz=>Value.int .i64 z) (ay (i:=i) aa),rfl⟩,trivial⟩,i+1,_,es++[x.1,x.2],by omega,rfl,rfl,kc,(GF.az ar).but o'.1 (by simp[eS]),eI,by rw[eF hx,hes,List.append_assoc];rfl,by rw[List.length_append];omega,by rw[List.length_append];show es.length+2<=_;omega⟩
 refine VS.aN rfl (decide_eq_false (λh=>hlt (Int.ofNat_lt.1 h))) ?_
 obtain rfl:nB=i:=by omega
 rw[List.take_of_length_le (by rw[<-hnB];exact Nat.le_refl _)] at hes
 refine ae ?_
 refine VS.fY (J:=λm L W=>∃ (i:Nat) (v:Value) (es:List (Rw)),i<=Nc/\m=Nc-i/\L=[(1,.pointer (some ⟨g1,0,none⟩)),(3,v),(5,.int .i64 (i:Int))]/\ax w W/\aL W g1 32 #[.string f.name,.string f.parent,.slice pB nB cB,.bool sT,.slice pT nT cT,.bool tT,.slice yT mT dT,.bool sC,.slice pC nC cC,.bool tC,.slice yC mC dC,.int .i64 f.bk,.int .i64 f.fw,.bool sI,.slice pI nI cI,.bool tI,.slice yI mI dI,.bool sF,.slice pF nF cF,.bool tF,.slice yF mF dF,.int .i64 f.kp,.slice pc Nc cc,.slice pe Ne ce,.slice py Ny cy]/\aE (bZ kk) 4 27 w.heap.size W v es/\es=([f.eW,f.cap,f.eX,f.eZ]++f.pZ.flatMap qY)++((f.cls).take i).flatMap xW/\4<=es.length/\es.length<=44+1*i)
  (λW=>bj Tryz.prog W 159) (λ_=>rfl) (λ_=>rfl) (λ_=>ax.refl _) Nc (λw' β k' o en=>⟨[(1,.pointer (some ⟨g1,0,none⟩)),(3,v),(5,.int .i64 ((0:Nat):Int))],⟨⟨_,_,rfl,rfl,rfl⟩,⟨_,_,rfl,rfl,rfl⟩,⟨_,_,rfl,rfl,rfl⟩,trivial⟩,0,v,es,by omega,rfl,rfl,hBwA.aH o,GF.az o,aQ.az (bZ.el kk) o,by rw[List.take_zero,List.flatMap_nil,List.append_nil];exact hes,fO,by omega⟩) ?_
 rintro m L wC ⟨i,v,es,hi,rfl,rfl,GG,tQ,aQ,hes,fO,zW⟩
 refine ae ?_
 refine VO.read rfl [.slice pc Nc cc] rfl (aG (tQ.cell (j:=22) rfl)) (wV rfl ?_)
 refine ae ?_
 by_cases hlt:i<Nc
 ·obtain⟨x,hx⟩:∃ x,(f.cls)[i]? =some x:=⟨_,List.getElem?_eq_getElem (by rw[<-Ev];exact hlt)⟩
  obtain⟨b,off,uG,rfl,hc,dE⟩:=h6.at hx
  obtain⟨s1,p1,n1,c1,t1,y1,m1,d1,rfl,nz,-⟩:=dE
  obtain⟨b0,c0,vs,sp,rfl,nL,da,mG,kV,hle,jS,jM⟩:∃ b0 c0 vs sp,v=.slice (some ⟨b0,0,none⟩) es.length c0/\w.heap.size<=b0/\aL wC b0 27 (vs.flatten++sp).toArray/\cJ (bZ kk) wC es vs/\sp.all bf=true/\es.length<=c0/\c0<=9223372036854775807/\(vs.flatten++sp).length=c0*4:=by
   rcases aQ with ⟨_,dc⟩|⟨b0,c0,vs,sp,h1,h2,h3,h4,h5,h6,h7,h8⟩
   ·rw[dc] at fO;simp at fO
   ·exact⟨b0,c0,vs,sp,h1,h2,h3,h4,h5,h6,h7,h8⟩
  have eS:g1≠b0:=λh=>by rw[h] at tQ;exact absurd (bt tQ da) cH
  refine VS.aU rfl (decide_eq_true (Int.ofNat_lt.2 hlt)) ?_
  refine VS.bI di (λt=>Nat.beq t 23) table (λ_ _ _=>trivial) (λbm jk k1 fG jZ=> ?_)
  have ar:ax wC bm:=fG
  have iu:=GG.size
  have fL:=ar.size
  have cZ:cM di 159 [b0] [(27,vs.flatten.map .val++sp.map .val)] bm:=by
   refine⟨rfl,by simp,λj g' c' hj hc=> ?_,λc' hc=> ?_,λc' hc k hk=> ?_⟩
   ·match j,hj,hc with
    | 0,hj,hc=>cases hj;cases hc;rw[<-List.map_append,aP];exact da.az ar
    | j+1,hj,_=>simp at hj
   ·cases List.mem_singleton.1 hc
    exact⟨rfl,by rw[<-List.map_append];exact bc (by rw[List.all_append,(mG.ok (bZ.el kk)).1,kV];rfl)⟩
   ·cases List.mem_singleton.1 hc
    rw[<-List.map_append,af] at hk;cases hk
  have qj:bO (bZ kk) 4 bm es.length c0 vs (sp.map .val) es:=⟨rfl,mG.kp (bZ.el kk) (Kp.of (U:=UU) ar),bc kV,af _,hle,jS,by rw[<-List.map_append,List.length_map];exact jM⟩
  refine⟨[b0],[(27,vs.flatten.map .val++sp.map .val)],cZ,[(1,.val (.pointer (some ⟨g1,0,none⟩))),(3,.row 318 0 es.length c0),(5,.val (.int .i64 (i:Int)))],⟨⟨_,rfl,rfl,λi hi=>(by cases hi)⟩,⟨_,rfl,rfl,λi hi=>by rw[(by simpa [AV.ids] using hi:i=318)];exact⟨(by show 318<=318;omega),(by show 318<2*159+1;omega)⟩⟩,⟨_,rfl,rfl,λi hi=>(by cases hi)⟩,trivial⟩,?_⟩
  have ea:ax w bm:=GG.aH ar
  have eG:∀ {b off:Nat} {cs:List Value},(∀ (j:Nat) (u:Value),cs[j]? =some u->w.cell? ((⟨b,off,none⟩:Addr).add j)=some u)->∀ (j:Nat) (u:Value),cs[j]? =some u->Cx.At (gV Tryz.prog bm 159 [b0] cZ.nodup cZ.ad) ((⟨b,off,none⟩:Addr).add j) u:=λh j u hj=>aY (λhm=>by
   have:=World.block_lt_of_cell? w _ (h j u hj)
   omega) (ea.cell (h j u hj))
  refine ag ?_
  refine VO.aO rfl [.slice (some ⟨b,off,none⟩) Nc cc] rfl (λj u hj=>aY (by rw[Addr.add_mid];exact eS) (aG ((tQ.az ar).cell (j:=22) rfl) j u hj)) (wV rfl ?_)
  refine ag ?_
  refine VO.cond rfl cW ?_
  refine wV rfl ?_
  refine ag ?_
  refine VO.aO rfl [.bool s1,.slice p1 n1 c1,.bool t1,.slice y1 m1 d1] rfl (eG (aC hc 2 _ ⟨_,rfl⟩)) (wV rfl ?_)
  refine ag ?_
  have hcs:cJ (bZ kk) bm [x.2.2] [[.bool s1,.slice p1 n1 c1,.bool t1,.slice y1 m1 d1]]:=.cons (nz.kp (Kp.of (U:=UU) ea)) .nil
  refine VO.tP (bA _ _) (bZ.el kk) (t:=105) (e:=27) (s:=58) (i:=318) (n:=es.length) (c:=c0) (kn:=1) (css:=[[.bool s1,.slice p1 n1 c1,.bool t1,.slice y1 m1 d1]]) (zs:=[x.2.2]) (vs:=vs) (sp:=sp.map .val) (es:=es) rfl rfl rfl rfl rfl rfl rfl rfl (cr rfl) rfl (.inl rfl) rfl (qj.kp (bZ.el kk) (show aK di bm _ from dz)) rfl (hcs.kp (bZ.el kk) (show aK di bm _ from dz)) rfl aa aa (λgm cap fx ρ vK vL dY dR=>wV rfl ?_)
  refine ag ?_
  refine VS.fq rfl (Nc-(i+1)) aa (λw' bn k' o' jx=> ?_)
  have kc:ax w w':=eJ.az ea o'.1 (λx hx=>by rw[List.mem_singleton.1 hx];exact nL)
  have hst:dD (bZ kk) 4 27 59 (.row 59 0 (es.length+1) cap) [(59,(27,_))] gm (es++[x.2.2]):=.inr ⟨_,cap,_,fx,rfl,rfl,dR⟩
  have eI:=hst.told (bZ.el kk) jx (λx hx=>by cases List.mem_singleton.1 hx;rfl) (show aK di gm w' from k') w.heap.size (λh=>(ba (show ez 159 [b0] bm 59 (bn 59) from h)).elim (λq=>Nat.le_trans iu (Nat.le_trans fL q)) (λq=>by rw[List.mem_singleton.1 q];exact nL))
  refine⟨[(1,.pointer (some ⟨g1,0,none⟩)),(3,.slice (some ⟨bn 59,0,none⟩) (es.length+1) cap),(5,.int .i64 ((i+1:Nat):Int))],⟨⟨_,_,rfl,rfl,rfl⟩,⟨_,_,rfl,rfl,rfl⟩,⟨_,_,rfl,congrArg (λz=>Value.int .i64 z) (ay (i:=i) aa),rfl⟩,trivial⟩,i+1,_,es++[x.2.2],by omega,rfl,rfl,kc,(tQ.az ar).but o'.1 (by simp[eS]),eI,by rw[eF hx,hes,List.append_assoc];rfl,by rw[List.length_append];omega,by rw[List.length_append];show es.length+1<=_;omega⟩
 refine VS.aN rfl (decide_eq_false (λh=>hlt (Int.ofNat_lt.1 h))) ?_
 obtain rfl:Nc=i:=by omega
 rw[List.take_of_length_le (by rw[<-Ev];exact Nat.le_refl _)] at hes
 refine ae ?_
 refine VS.fY (J:=λm L W=>∃ (k:Nat) (v:Value) (es:List Rw),k<=Ny/\m=Ny-k/\L=[(1,.pointer (some ⟨g1,0,none⟩)),(3,v),(6,.int .i64 (k:Int))]/\ax w W/\aL W g1 32 #[.string f.name,.string f.parent,.slice pB nB cB,.bool sT,.slice pT nT cT,.bool tT,.slice yT mT dT,.bool sC,.slice pC nC cC,.bool tC,.slice yC mC dC,.int .i64 f.bk,.int .i64 f.fw,.bool sI,.slice pI nI cI,.bool tI,.slice yI mI dI,.bool sF,.slice pF nF cF,.bool tF,.slice yF mF dF,.int .i64 f.kp,.slice pc Nc cc,.slice pe Ne ce,.slice py Ny cy]/\aE (bZ kk) 4 27 w.heap.size W v es/\es=([f.eW,f.cap,f.eX,f.eZ]++f.pZ.flatMap qY++f.cls.flatMap xW)++(f.iy.take k).flatMap jR/\4<=es.length/\es.length<=114+240*k)
  (λW=>bj Tryz.prog W 159) (λ_=>rfl) (λ_=>rfl) (λ_=>ax.refl _) Ny (λw' β k' o en=>⟨[(1,.pointer (some ⟨g1,0,none⟩)),(3,v),(6,.int .i64 ((0:Nat):Int))],⟨⟨_,_,rfl,rfl,rfl⟩,⟨_,_,rfl,rfl,rfl⟩,⟨_,_,rfl,rfl,rfl⟩,trivial⟩,0,v,es,by omega,rfl,rfl,GG.aH o,tQ.az o,aQ.az (bZ.el kk) o,by rw[List.take_zero,List.flatMap_nil,List.append_nil];exact hes,fO,by omega⟩) ?_
 rintro m L wY ⟨k,v,es,hk,rfl,rfl,GH,GI,aQ,hes,fO,zW⟩
 refine ae ?_
 refine VO.read rfl [.slice py Ny cy] rfl (aG (GI.cell (j:=24) rfl)) (wV rfl ?_)
 refine ae ?_
 by_cases hlt:k<Ny
 rotate_left
 ·refine VS.aN rfl (decide_eq_false (λh=>hlt (Int.ofNat_lt.1 h))) ?_
  have Ap:f.iy.length<=k:=by omega
  rw[List.take_of_length_le Ap] at hes
  refine ae ?_
  refine bV ?_;intro wz kz bz
  refine⟨v,rfl,?_,GH.aH bz⟩
  have:=aQ.az (bZ.el kk) bz
  rw[hes] at this
  exact this
 obtain⟨y,hy⟩:∃ y,f.iy[k]? =some y:=⟨_,List.getElem?_eq_getElem aa⟩
 obtain⟨ha1,ha2,ha3,ha4,ha5⟩:=hs.each y (List.mem_of_getElem? hy)
 obtain⟨BC,BD,csy,rfl,qA,⟨yh,yb,yd,ys,yq,rfl,y1,y2,y3,y4,y5⟩⟩:=h8.at hy
 obtain⟨ph,nh,ch,rfl,NU⟩:∃ p n c,yh=.slice p n c/\n=y.holds.length:=by obtain⟨p,c,e⟩:=y1.sl;exact⟨_,_,_,e,rfl⟩
 obtain⟨pb,nb,cb,rfl,Aj⟩:∃ p n c,yb=.slice p n c/\n=y.cf.length:=by obtain⟨p,c,e⟩:=y2.sl;exact⟨_,_,_,e,rfl⟩
 obtain⟨pd,nd,cd,rfl,Ll⟩:∃ p n c,yd=.slice p n c/\n=y.dG.length:=by obtain⟨p,c,e⟩:=y3.sl;exact⟨_,_,_,e,rfl⟩
 obtain⟨ps,ns,cs,rfl,NV⟩:∃ p n c,ys=.slice p n c/\n=y.dp.length:=by obtain⟨p,c,e⟩:=y4.sl;exact⟨_,_,_,e,rfl⟩
 obtain⟨pq,nq,cq,rfl,NW⟩:∃ p n c,yq=.slice p n c/\n=y.gf.length:=by obtain⟨p,c,e⟩:=y5.sl;exact⟨_,_,_,e,rfl⟩
 refine VS.aU rfl (decide_eq_true (Int.ofNat_lt.2 hlt)) ?_
 refine ae ?_
 refine VO.read rfl [.slice (some ⟨BC,BD,none⟩) Ny cy] rfl (aG (GI.cell (j:=24) rfl)) (wV rfl ?_)
 refine ae ?_
 refine VO.cond rfl cW ?_
 refine wV rfl ?_
 refine ae ?_
 refine VO.read rfl [.int .i64 y.num,.slice ph nh ch,.slice pb nb cb,.slice pd nd cd,.slice ps ns cs,.slice pq nq cq] rfl (λj u hj=>GH.cell (aC qA 0 _ ⟨[],rfl⟩ j u hj)) (wV rfl ?_)
 (repeat (first|refine wN ?_|refine wP rfl ?_|refine wO rfl rfl ?_))
 refine VS.eV (λw=>bj Tryz.prog w 159) (λ_=>rfl) (λ_=>rfl) (λ_=>ax.refl _) (λw1 β k1 fG en=> ?_)
 have hBw1:ax w w1:=GH.aH fG
 have hfw1:=GI.az fG
 have NX:aL w1 (β 7) 99 #[.int .i64 y.num,.slice ph nh ch,.slice pb nb cb,.slice pd nd cd,.slice ps ns cs,.slice pq nq cq]:=(en.own 7 _ _ rfl).cls
 replace aQ:=aQ.az (bZ.el kk) fG
 refine⟨[(1,.val (.pointer (some ⟨g1,0,none⟩))),(6,.val (.int .i64 (k:Int))),(7,.val (.pointer (some ⟨β 7,0,none⟩))),(3,.val v)],⟨⟨_,_,rfl,rfl,rfl⟩,⟨_,_,rfl,rfl,rfl⟩,⟨_,_,rfl,rfl,rfl⟩,⟨_,_,rfl,rfl,rfl⟩,trivial⟩,?_⟩
 generalize β 7=g7 at NX ⊢
 clear en
 obtain⟨E0,hE0⟩:∃ E0,E0=es:=⟨_,rfl⟩
 have hbE:E0.length<=114+240*k:=by rw[hE0];exact zW
 have hesE:E0=([f.eW,f.cap,f.eX,f.eZ]++f.pZ.flatMap qY++f.cls.flatMap xW)++(f.iy.take k).flatMap jR:=by rw[hE0];exact hes
 replace hes:es=E0:=hE0.symm
 replace zW:es.length<=E0.length:=by rw[hes];exact Nat.le_refl _
 refine ae ?_
 refine VS.fY (J:=λm L W=>∃ (i:Nat) (v:Value) (es:List (Rw)),i<=nh/\m=nh-i/\L=[(1,.pointer (some ⟨g1,0,none⟩)),(6,.int .i64 (k:Int)),(7,.pointer (some ⟨g7,0,none⟩)),(3,v),(8,.int .i64 (i:Int))]/\ax w W/\aL W g1 32 #[.string f.name,.string f.parent,.slice pB nB cB,.bool sT,.slice pT nT cT,.bool tT,.slice yT mT dT,.bool sC,.slice pC nC cC,.bool tC,.slice yC mC dC,.int .i64 f.bk,.int .i64 f.fw,.bool sI,.slice pI nI cI,.bool tI,.slice yI mI dI,.bool sF,.slice pF nF cF,.bool tF,.slice yF mF dF,.int .i64 f.kp,.slice pc Nc cc,.slice pe Ne ce,.slice (some ⟨BC,BD,none⟩) Ny cy]/\aL W g7 99 #[.int .i64 y.num,.slice ph nh ch,.slice pb nb cb,.slice pd nd cd,.slice ps ns cs,.slice pq nq cq]/\aE (bZ kk) 4 27 w.heap.size W v es/\es=E0++((y.holds).take i).flatMap jo/\4<=es.length/\es.length<=E0.length+1*i)
  (λW=>bj Tryz.prog W 159) (λ_=>rfl) (λ_=>rfl) (λ_=>ax.refl _) nh (λw' β k' o en=>⟨[(1,.pointer (some ⟨g1,0,none⟩)),(6,.int .i64 (k:Int)),(7,.pointer (some ⟨g7,0,none⟩)),(3,v),(8,.int .i64 ((0:Nat):Int))],⟨⟨_,_,rfl,rfl,rfl⟩,⟨_,_,rfl,rfl,rfl⟩,⟨_,_,rfl,rfl,rfl⟩,⟨_,_,rfl,rfl,rfl⟩,⟨_,_,rfl,rfl,rfl⟩,trivial⟩,0,v,es,by omega,rfl,rfl,hBw1.aH o,hfw1.az o,NX.az o,aQ.az (bZ.el kk) o,by rw[List.take_zero,List.flatMap_nil,List.append_nil];exact hes,fO,by omega⟩) ?_
 rintro m L wH ⟨i,v,es,hi,rfl,rfl,GJ,Bi,sD,aQ,hes,fO,zW⟩
 refine ae ?_
 refine VO.read rfl [.slice ph nh ch] rfl (aG (sD.cell (j:=1) rfl)) (wV rfl ?_)
 refine ae ?_
 by_cases hlt:i<nh
 ·obtain⟨x,hx⟩:∃ x,(y.holds)[i]? =some x:=⟨_,List.getElem?_eq_getElem (by rw[<-NU];exact hlt)⟩
  obtain⟨b,off,uG,rfl,hc,dE⟩:=y1.at hx
  obtain⟨s1,p1,n1,c1,t1,uX,m1,d1,rfl,nz⟩:=dE
  obtain⟨b0,c0,vs,sp,rfl,nL,da,mG,kV,hle,jS,jM⟩:∃ b0 c0 vs sp,v=.slice (some ⟨b0,0,none⟩) es.length c0/\w.heap.size<=b0/\aL wH b0 27 (vs.flatten++sp).toArray/\cJ (bZ kk) wH es vs/\sp.all bf=true/\es.length<=c0/\c0<=9223372036854775807/\(vs.flatten++sp).length=c0*4:=by
   rcases aQ with ⟨_,dc⟩|⟨b0,c0,vs,sp,h1,h2,h3,h4,h5,h6,h7,h8⟩
   ·rw[dc] at fO;simp at fO
   ·exact⟨b0,c0,vs,sp,h1,h2,h3,h4,h5,h6,h7,h8⟩
  have eS:g1≠b0:=λh=>by rw[h] at Bi;exact absurd (bt Bi da) cH
  have eg:g7≠b0:=λh=>by rw[h] at sD;exact absurd (bt sD da) cH
  refine VS.aU rfl (decide_eq_true (Int.ofNat_lt.2 hlt)) ?_
  refine VS.bI di (λt=>Nat.beq t 23) table (λ_ _ _=>trivial) (λbm jk k1 fG jZ=> ?_)
  have ar:ax wH bm:=fG
  have iu:=GJ.size
  have fL:=ar.size
  have cZ:cM di 159 [b0] [(27,vs.flatten.map .val++sp.map .val)] bm:=by
   refine⟨rfl,by simp,λj g' c' hj hc=> ?_,λc' hc=> ?_,λc' hc k hk=> ?_⟩
   ·match j,hj,hc with
    | 0,hj,hc=>cases hj;cases hc;rw[<-List.map_append,aP];exact da.az ar
    | j+1,hj,_=>simp at hj
   ·cases List.mem_singleton.1 hc
    exact⟨rfl,by rw[<-List.map_append];exact bc (by rw[List.all_append,(mG.ok (bZ.el kk)).1,kV];rfl)⟩
   ·cases List.mem_singleton.1 hc
    rw[<-List.map_append,af] at hk;cases hk
  have qj:bO (bZ kk) 4 bm es.length c0 vs (sp.map .val) es:=⟨rfl,mG.kp (bZ.el kk) (Kp.of (U:=UU) ar),bc kV,af _,hle,jS,by rw[<-List.map_append,List.length_map];exact jM⟩
  refine⟨[b0],[(27,vs.flatten.map .val++sp.map .val)],cZ,[(1,.val (.pointer (some ⟨g1,0,none⟩))),(6,.val (.int .i64 (k:Int))),(7,.val (.pointer (some ⟨g7,0,none⟩))),(3,.row 318 0 es.length c0),(8,.val (.int .i64 (i:Int)))],⟨⟨_,rfl,rfl,λi hi=>(by cases hi)⟩,⟨_,rfl,rfl,λi hi=>(by cases hi)⟩,⟨_,rfl,rfl,λi hi=>(by cases hi)⟩,⟨_,rfl,rfl,λi hi=>by rw[(by simpa [AV.ids] using hi:i=318)];exact⟨(by show 318<=318;omega),(by show 318<2*159+1;omega)⟩⟩,⟨_,rfl,rfl,λi hi=>(by cases hi)⟩,trivial⟩,?_⟩
  have ea:ax w bm:=GJ.aH ar
  have eG:∀ {b off:Nat} {cs:List Value},(∀ (j:Nat) (u:Value),cs[j]? =some u->w.cell? ((⟨b,off,none⟩:Addr).add j)=some u)->∀ (j:Nat) (u:Value),cs[j]? =some u->Cx.At (gV Tryz.prog bm 159 [b0] cZ.nodup cZ.ad) ((⟨b,off,none⟩:Addr).add j) u:=λh j u hj=>aY (λhm=>by
   have:=World.block_lt_of_cell? w _ (h j u hj)
   omega) (ea.cell (h j u hj))
  refine ag ?_
  refine VO.aO rfl [.slice (some ⟨b,off,none⟩) nh ch] rfl (λj u hj=>aY (by rw[Addr.add_mid];exact eg) (aG ((sD.az ar).cell (j:=1) rfl) j u hj)) (wV rfl ?_)
  refine ag ?_
  refine VO.cond rfl cW ?_
  refine wV rfl ?_
  refine ag ?_
  refine VO.aO rfl [.bool s1,.slice p1 n1 c1,.bool t1,.slice uX m1 d1] rfl (eG (aC hc 2 _ ⟨_,rfl⟩)) (wV rfl ?_)
  refine ag ?_
  have hcs:cJ (bZ kk) bm [x.2.2] [[.bool s1,.slice p1 n1 c1,.bool t1,.slice uX m1 d1]]:=.cons (nz.kp (Kp.of (U:=UU) ea)) .nil
  refine VO.tP (bA _ _) (bZ.el kk) (t:=105) (e:=27) (s:=86) (i:=318) (n:=es.length) (c:=c0) (kn:=1) (css:=[[.bool s1,.slice p1 n1 c1,.bool t1,.slice uX m1 d1]]) (zs:=[x.2.2]) (vs:=vs) (sp:=sp.map .val) (es:=es) rfl rfl rfl rfl rfl rfl rfl rfl (cr rfl) rfl (.inl rfl) rfl (qj.kp (bZ.el kk) (show aK di bm _ from dz)) rfl (hcs.kp (bZ.el kk) (show aK di bm _ from dz)) rfl aa aa (λgm cap fx ρ vK vL dY dR=>wV rfl ?_)
  refine ag ?_
  refine VS.fq rfl (nh-(i+1)) aa (λw' bn k' o' jx=> ?_)
  have kc:ax w w':=eJ.az ea o'.1 (λx hx=>by rw[List.mem_singleton.1 hx];exact nL)
  have hst:dD (bZ kk) 4 27 87 (.row 87 0 (es.length+1) cap) [(87,(27,_))] gm (es++[x.2.2]):=.inr ⟨_,cap,_,fx,rfl,rfl,dR⟩
  have eI:=hst.told (bZ.el kk) jx (λx hx=>by cases List.mem_singleton.1 hx;rfl) (show aK di gm w' from k') w.heap.size (λh=>(ba (show ez 159 [b0] bm 87 (bn 87) from h)).elim (λq=>Nat.le_trans iu (Nat.le_trans fL q)) (λq=>by rw[List.mem_singleton.1 q];exact nL))
  refine⟨[(1,.pointer (some ⟨g1,0,none⟩)),(6,.int .i64 (k:Int)),(7,.pointer (some ⟨g7,0,none⟩)),(3,.slice (some ⟨bn 87,0,none⟩) (es.length+1) cap),(8,.int .i64 ((i+1:Nat):Int))],⟨⟨_,_,rfl,rfl,rfl⟩,⟨_,_,rfl,rfl,rfl⟩,⟨_,_,rfl,rfl,rfl⟩,⟨_,_,rfl,rfl,rfl⟩,⟨_,_,rfl,congrArg (λz=>Value.int .i64 z) (ay (i:=i) aa),rfl⟩,trivial⟩,i+1,_,es++[x.2.2],by omega,rfl,rfl,kc,(Bi.az ar).but o'.1 (by simp[eS]),(sD.az ar).but o'.1 (by simp[eg]),eI,by rw[eF hx,hes,List.append_assoc];rfl,by rw[List.length_append];omega,by rw[List.length_append];show es.length+1<=_;omega⟩
 refine VS.aN rfl (decide_eq_false (λh=>hlt (Int.ofNat_lt.1 h))) ?_
 obtain rfl:nh=i:=by omega
 rw[List.take_of_length_le (by rw[<-NU];exact Nat.le_refl _)] at hes
 refine ae ?_
 refine VS.fY (J:=λm L W=>∃ (i:Nat) (v:Value) (es:List (Rw)),i<=nb/\m=nb-i/\L=[(1,.pointer (some ⟨g1,0,none⟩)),(6,.int .i64 (k:Int)),(7,.pointer (some ⟨g7,0,none⟩)),(3,v),(9,.int .i64 (i:Int))]/\ax w W/\aL W g1 32 #[.string f.name,.string f.parent,.slice pB nB cB,.bool sT,.slice pT nT cT,.bool tT,.slice yT mT dT,.bool sC,.slice pC nC cC,.bool tC,.slice yC mC dC,.int .i64 f.bk,.int .i64 f.fw,.bool sI,.slice pI nI cI,.bool tI,.slice yI mI dI,.bool sF,.slice pF nF cF,.bool tF,.slice yF mF dF,.int .i64 f.kp,.slice pc Nc cc,.slice pe Ne ce,.slice (some ⟨BC,BD,none⟩) Ny cy]/\aL W g7 99 #[.int .i64 y.num,.slice ph nh ch,.slice pb nb cb,.slice pd nd cd,.slice ps ns cs,.slice pq nq cq]/\aE (bZ kk) 4 27 w.heap.size W v es/\es=(E0++y.holds.flatMap jo)++((y.cf).take i).flatMap jo/\4<=es.length/\es.length<=(E0.length+40)+1*i)
  (λW=>bj Tryz.prog W 159) (λ_=>rfl) (λ_=>rfl) (λ_=>ax.refl _) nb (λw' β k' o en=>⟨[(1,.pointer (some ⟨g1,0,none⟩)),(6,.int .i64 (k:Int)),(7,.pointer (some ⟨g7,0,none⟩)),(3,v),(9,.int .i64 ((0:Nat):Int))],⟨⟨_,_,rfl,rfl,rfl⟩,⟨_,_,rfl,rfl,rfl⟩,⟨_,_,rfl,rfl,rfl⟩,⟨_,_,rfl,rfl,rfl⟩,⟨_,_,rfl,rfl,rfl⟩,trivial⟩,0,v,es,by omega,rfl,rfl,GJ.aH o,Bi.az o,sD.az o,aQ.az (bZ.el kk) o,by rw[List.take_zero,List.flatMap_nil,List.append_nil];exact hes,fO,by omega⟩) ?_
 rintro m L wK ⟨i,v,es,hi,rfl,rfl,GK,Bj,sE,aQ,hes,fO,zW⟩
 refine ae ?_
 refine VO.read rfl [.slice pb nb cb] rfl (aG (sE.cell (j:=2) rfl)) (wV rfl ?_)
 refine ae ?_
 by_cases hlt:i<nb
 ·obtain⟨x,hx⟩:∃ x,(y.cf)[i]? =some x:=⟨_,List.getElem?_eq_getElem (by rw[<-Aj];exact hlt)⟩
  obtain⟨b,off,uG,rfl,hc,dE⟩:=y2.at hx
  obtain⟨s1,p1,n1,c1,t1,uX,m1,d1,rfl,nz⟩:=dE
  obtain⟨b0,c0,vs,sp,rfl,nL,da,mG,kV,hle,jS,jM⟩:∃ b0 c0 vs sp,v=.slice (some ⟨b0,0,none⟩) es.length c0/\w.heap.size<=b0/\aL wK b0 27 (vs.flatten++sp).toArray/\cJ (bZ kk) wK es vs/\sp.all bf=true/\es.length<=c0/\c0<=9223372036854775807/\(vs.flatten++sp).length=c0*4:=by
   rcases aQ with ⟨_,dc⟩|⟨b0,c0,vs,sp,h1,h2,h3,h4,h5,h6,h7,h8⟩
   ·rw[dc] at fO;simp at fO
   ·exact⟨b0,c0,vs,sp,h1,h2,h3,h4,h5,h6,h7,h8⟩
  have eS:g1≠b0:=λh=>by rw[h] at Bj;exact absurd (bt Bj da) cH
  have eg:g7≠b0:=λh=>by rw[h] at sE;exact absurd (bt sE da) cH
  refine VS.aU rfl (decide_eq_true (Int.ofNat_lt.2 hlt)) ?_
  refine VS.bI di (λt=>Nat.beq t 23) table (λ_ _ _=>trivial) (λbm jk k1 fG jZ=> ?_)
  have ar:ax wK bm:=fG
  have iu:=GK.size
  have fL:=ar.size
  have cZ:cM di 159 [b0] [(27,vs.flatten.map .val++sp.map .val)] bm:=by
   refine⟨rfl,by simp,λj g' c' hj hc=> ?_,λc' hc=> ?_,λc' hc k hk=> ?_⟩
   ·match j,hj,hc with
    | 0,hj,hc=>cases hj;cases hc;rw[<-List.map_append,aP];exact da.az ar
    | j+1,hj,_=>simp at hj
   ·cases List.mem_singleton.1 hc
    exact⟨rfl,by rw[<-List.map_append];exact bc (by rw[List.all_append,(mG.ok (bZ.el kk)).1,kV];rfl)⟩
   ·cases List.mem_singleton.1 hc
    rw[<-List.map_append,af] at hk;cases hk
  have qj:bO (bZ kk) 4 bm es.length c0 vs (sp.map .val) es:=⟨rfl,mG.kp (bZ.el kk) (Kp.of (U:=UU) ar),bc kV,af _,hle,jS,by rw[<-List.map_append,List.length_map];exact jM⟩
  refine⟨[b0],[(27,vs.flatten.map .val++sp.map .val)],cZ,[(1,.val (.pointer (some ⟨g1,0,none⟩))),(6,.val (.int .i64 (k:Int))),(7,.val (.pointer (some ⟨g7,0,none⟩))),(3,.row 318 0 es.length c0),(9,.val (.int .i64 (i:Int)))],⟨⟨_,rfl,rfl,λi hi=>(by cases hi)⟩,⟨_,rfl,rfl,λi hi=>(by cases hi)⟩,⟨_,rfl,rfl,λi hi=>(by cases hi)⟩,⟨_,rfl,rfl,λi hi=>by rw[(by simpa [AV.ids] using hi:i=318)];exact⟨(by show 318<=318;omega),(by show 318<2*159+1;omega)⟩⟩,⟨_,rfl,rfl,λi hi=>(by cases hi)⟩,trivial⟩,?_⟩
  have ea:ax w bm:=GK.aH ar
  have eG:∀ {b off:Nat} {cs:List Value},(∀ (j:Nat) (u:Value),cs[j]? =some u->w.cell? ((⟨b,off,none⟩:Addr).add j)=some u)->∀ (j:Nat) (u:Value),cs[j]? =some u->Cx.At (gV Tryz.prog bm 159 [b0] cZ.nodup cZ.ad) ((⟨b,off,none⟩:Addr).add j) u:=λh j u hj=>aY (λhm=>by
   have:=World.block_lt_of_cell? w _ (h j u hj)
   omega) (ea.cell (h j u hj))
  refine ag ?_
  refine VO.aO rfl [.slice (some ⟨b,off,none⟩) nb cb] rfl (λj u hj=>aY (by rw[Addr.add_mid];exact eg) (aG ((sE.az ar).cell (j:=2) rfl) j u hj)) (wV rfl ?_)
  refine ag ?_
  refine VO.cond rfl cW ?_
  refine wV rfl ?_
  refine ag ?_
  refine VO.aO rfl [.bool s1,.slice p1 n1 c1,.bool t1,.slice uX m1 d1] rfl (eG (aC hc 2 _ ⟨_,rfl⟩)) (wV rfl ?_)
  refine ag ?_
  have hcs:cJ (bZ kk) bm [x.2.2] [[.bool s1,.slice p1 n1 c1,.bool t1,.slice uX m1 d1]]:=.cons (nz.kp (Kp.of (U:=UU) ea)) .nil
  refine VO.tP (bA _ _) (bZ.el kk) (t:=105) (e:=27) (s:=102) (i:=318) (n:=es.length) (c:=c0) (kn:=1) (css:=[[.bool s1,.slice p1 n1 c1,.bool t1,.slice uX m1 d1]]) (zs:=[x.2.2]) (vs:=vs) (sp:=sp.map .val) (es:=es) rfl rfl rfl rfl rfl rfl rfl rfl (cr rfl) rfl (.inl rfl) rfl (qj.kp (bZ.el kk) (show aK di bm _ from dz)) rfl (hcs.kp (bZ.el kk) (show aK di bm _ from dz)) rfl aa aa (λgm cap fx ρ vK vL dY dR=>wV rfl ?_)
  refine ag ?_
  refine VS.fq rfl (nb-(i+1)) aa (λw' bn k' o' jx=> ?_)
  have kc:ax w w':=eJ.az ea o'.1 (λx hx=>by rw[List.mem_singleton.1 hx];exact nL)
  have hst:dD (bZ kk) 4 27 103 (.row 103 0 (es.length+1) cap) [(103,(27,_))] gm (es++[x.2.2]):=.inr ⟨_,cap,_,fx,rfl,rfl,dR⟩
  have eI:=hst.told (bZ.el kk) jx (λx hx=>by cases List.mem_singleton.1 hx;rfl) (show aK di gm w' from k') w.heap.size (λh=>(ba (show ez 159 [b0] bm 103 (bn 103) from h)).elim (λq=>Nat.le_trans iu (Nat.le_trans fL q)) (λq=>by rw[List.mem_singleton.1 q];exact nL))
  refine⟨[(1,.pointer (some ⟨g1,0,none⟩)),(6,.int .i64 (k:Int)),(7,.pointer (some ⟨g7,0,none⟩)),(3,.slice (some ⟨bn 103,0,none⟩) (es.length+1) cap),(9,.int .i64 ((i+1:Nat):Int))],⟨⟨_,_,rfl,rfl,rfl⟩,⟨_,_,rfl,rfl,rfl⟩,⟨_,_,rfl,rfl,rfl⟩,⟨_,_,rfl,rfl,rfl⟩,⟨_,_,rfl,congrArg (λz=>Value.int .i64 z) (ay (i:=i) aa),rfl⟩,trivial⟩,i+1,_,es++[x.2.2],by omega,rfl,rfl,kc,(Bj.az ar).but o'.1 (by simp[eS]),(sE.az ar).but o'.1 (by simp[eg]),eI,by rw[eF hx,hes,List.append_assoc];rfl,by rw[List.length_append];omega,by rw[List.length_append];show es.length+1<=_;omega⟩
 refine VS.aN rfl (decide_eq_false (λh=>hlt (Int.ofNat_lt.1 h))) ?_
 obtain rfl:nb=i:=by omega
 rw[List.take_of_length_le (by rw[<-Aj];exact Nat.le_refl _)] at hes
 refine ae ?_
 refine VS.fY (J:=λm L W=>∃ (i:Nat) (v:Value) (es:List (Rw)),i<=nd/\m=nd-i/\L=[(1,.pointer (some ⟨g1,0,none⟩)),(6,.int .i64 (k:Int)),(7,.pointer (some ⟨g7,0,none⟩)),(3,v),(10,.int .i64 (i:Int))]/\ax w W/\aL W g1 32 #[.string f.name,.string f.parent,.slice pB nB cB,.bool sT,.slice pT nT cT,.bool tT,.slice yT mT dT,.bool sC,.slice pC nC cC,.bool tC,.slice yC mC dC,.int .i64 f.bk,.int .i64 f.fw,.bool sI,.slice pI nI cI,.bool tI,.slice yI mI dI,.bool sF,.slice pF nF cF,.bool tF,.slice yF mF dF,.int .i64 f.kp,.slice pc Nc cc,.slice pe Ne ce,.slice (some ⟨BC,BD,none⟩) Ny cy]/\aL W g7 99 #[.int .i64 y.num,.slice ph nh ch,.slice pb nb cb,.slice pd nd cd,.slice ps ns cs,.slice pq nq cq]/\aE (bZ kk) 4 27 w.heap.size W v es/\es=(E0++y.holds.flatMap jo++y.cf.flatMap jo)++((y.dG).take i).flatMap xX/\4<=es.length/\es.length<=(E0.length+80)+1*i)
  (λW=>bj Tryz.prog W 159) (λ_=>rfl) (λ_=>rfl) (λ_=>ax.refl _) nd (λw' β k' o en=>⟨[(1,.pointer (some ⟨g1,0,none⟩)),(6,.int .i64 (k:Int)),(7,.pointer (some ⟨g7,0,none⟩)),(3,v),(10,.int .i64 ((0:Nat):Int))],⟨⟨_,_,rfl,rfl,rfl⟩,⟨_,_,rfl,rfl,rfl⟩,⟨_,_,rfl,rfl,rfl⟩,⟨_,_,rfl,rfl,rfl⟩,⟨_,_,rfl,rfl,rfl⟩,trivial⟩,0,v,es,by omega,rfl,rfl,GK.aH o,Bj.az o,sE.az o,aQ.az (bZ.el kk) o,by rw[List.take_zero,List.flatMap_nil,List.append_nil];exact hes,fO,by omega⟩) ?_
 rintro m L wD ⟨i,v,es,hi,rfl,rfl,GL,Bk,tR,aQ,hes,fO,zW⟩
 refine ae ?_
 refine VO.read rfl [.slice pd nd cd] rfl (aG (tR.cell (j:=3) rfl)) (wV rfl ?_)
 refine ae ?_
 by_cases hlt:i<nd
 ·obtain⟨x,hx⟩:∃ x,(y.dG)[i]? =some x:=⟨_,List.getElem?_eq_getElem (by rw[<-Ll];exact hlt)⟩
  obtain⟨b,off,uG,rfl,hc,dE⟩:=y3.at hx
  obtain⟨s1,p1,n1,c1,t1,uX,m1,d1,rfl,nz,-⟩:=dE
  obtain⟨b0,c0,vs,sp,rfl,nL,da,mG,kV,hle,jS,jM⟩:∃ b0 c0 vs sp,v=.slice (some ⟨b0,0,none⟩) es.length c0/\w.heap.size<=b0/\aL wD b0 27 (vs.flatten++sp).toArray/\cJ (bZ kk) wD es vs/\sp.all bf=true/\es.length<=c0/\c0<=9223372036854775807/\(vs.flatten++sp).length=c0*4:=by
   rcases aQ with ⟨_,dc⟩|⟨b0,c0,vs,sp,h1,h2,h3,h4,h5,h6,h7,h8⟩
   ·rw[dc] at fO;simp at fO
   ·exact⟨b0,c0,vs,sp,h1,h2,h3,h4,h5,h6,h7,h8⟩
  have eS:g1≠b0:=λh=>by rw[h] at Bk;exact absurd (bt Bk da) cH
  have eg:g7≠b0:=λh=>by rw[h] at tR;exact absurd (bt tR da) cH
  refine VS.aU rfl (decide_eq_true (Int.ofNat_lt.2 hlt)) ?_
  refine VS.bI di (λt=>Nat.beq t 23) table (λ_ _ _=>trivial) (λbm jk k1 fG jZ=> ?_)
  have ar:ax wD bm:=fG
  have iu:=GL.size
  have fL:=ar.size
  have cZ:cM di 159 [b0] [(27,vs.flatten.map .val++sp.map .val)] bm:=by
   refine⟨rfl,by simp,λj g' c' hj hc=> ?_,λc' hc=> ?_,λc' hc k hk=> ?_⟩
   ·match j,hj,hc with
    | 0,hj,hc=>cases hj;cases hc;rw[<-List.map_append,aP];exact da.az ar
    | j+1,hj,_=>simp at hj
   ·cases List.mem_singleton.1 hc
    exact⟨rfl,by rw[<-List.map_append];exact bc (by rw[List.all_append,(mG.ok (bZ.el kk)).1,kV];rfl)⟩
   ·cases List.mem_singleton.1 hc
    rw[<-List.map_append,af] at hk;cases hk
  have qj:bO (bZ kk) 4 bm es.length c0 vs (sp.map .val) es:=⟨rfl,mG.kp (bZ.el kk) (Kp.of (U:=UU) ar),bc kV,af _,hle,jS,by rw[<-List.map_append,List.length_map];exact jM⟩
  refine⟨[b0],[(27,vs.flatten.map .val++sp.map .val)],cZ,[(1,.val (.pointer (some ⟨g1,0,none⟩))),(6,.val (.int .i64 (k:Int))),(7,.val (.pointer (some ⟨g7,0,none⟩))),(3,.row 318 0 es.length c0),(10,.val (.int .i64 (i:Int)))],⟨⟨_,rfl,rfl,λi hi=>(by cases hi)⟩,⟨_,rfl,rfl,λi hi=>(by cases hi)⟩,⟨_,rfl,rfl,λi hi=>(by cases hi)⟩,⟨_,rfl,rfl,λi hi=>by rw[(by simpa [AV.ids] using hi:i=318)];exact⟨(by show 318<=318;omega),(by show 318<2*159+1;omega)⟩⟩,⟨_,rfl,rfl,λi hi=>(by cases hi)⟩,trivial⟩,?_⟩
  have ea:ax w bm:=GL.aH ar
  have eG:∀ {b off:Nat} {cs:List Value},(∀ (j:Nat) (u:Value),cs[j]? =some u->w.cell? ((⟨b,off,none⟩:Addr).add j)=some u)->∀ (j:Nat) (u:Value),cs[j]? =some u->Cx.At (gV Tryz.prog bm 159 [b0] cZ.nodup cZ.ad) ((⟨b,off,none⟩:Addr).add j) u:=λh j u hj=>aY (λhm=>by
   have:=World.block_lt_of_cell? w _ (h j u hj)
   omega) (ea.cell (h j u hj))
  refine ag ?_
  refine VO.aO rfl [.slice (some ⟨b,off,none⟩) nd cd] rfl (λj u hj=>aY (by rw[Addr.add_mid];exact eg) (aG ((tR.az ar).cell (j:=3) rfl) j u hj)) (wV rfl ?_)
  refine ag ?_
  refine VO.cond rfl cW ?_
  refine wV rfl ?_
  refine ag ?_
  refine VO.aO rfl [.bool s1,.slice p1 n1 c1,.bool t1,.slice uX m1 d1] rfl (eG (aC hc 6 _ ⟨_,rfl⟩)) (wV rfl ?_)
  refine ag ?_
  have hcs:cJ (bZ kk) bm [x.zU] [[.bool s1,.slice p1 n1 c1,.bool t1,.slice uX m1 d1]]:=.cons (nz.kp (Kp.of (U:=UU) ea)) .nil
  refine VO.tP (bA _ _) (bZ.el kk) (t:=105) (e:=27) (s:=118) (i:=318) (n:=es.length) (c:=c0) (kn:=1) (css:=[[.bool s1,.slice p1 n1 c1,.bool t1,.slice uX m1 d1]]) (zs:=[x.zU]) (vs:=vs) (sp:=sp.map .val) (es:=es) rfl rfl rfl rfl rfl rfl rfl rfl (cr rfl) rfl (.inl rfl) rfl (qj.kp (bZ.el kk) (show aK di bm _ from dz)) rfl (hcs.kp (bZ.el kk) (show aK di bm _ from dz)) rfl aa aa (λgm cap fx ρ vK vL dY dR=>wV rfl ?_)
  refine ag ?_
  refine VS.fq rfl (nd-(i+1)) aa (λw' bn k' o' jx=> ?_)
  have kc:ax w w':=eJ.az ea o'.1 (λx hx=>by rw[List.mem_singleton.1 hx];exact nL)
  have hst:dD (bZ kk) 4 27 119 (.row 119 0 (es.length+1) cap) [(119,(27,_))] gm (es++[x.zU]):=.inr ⟨_,cap,_,fx,rfl,rfl,dR⟩
  have eI:=hst.told (bZ.el kk) jx (λx hx=>by cases List.mem_singleton.1 hx;rfl) (show aK di gm w' from k') w.heap.size (λh=>(ba (show ez 159 [b0] bm 119 (bn 119) from h)).elim (λq=>Nat.le_trans iu (Nat.le_trans fL q)) (λq=>by rw[List.mem_singleton.1 q];exact nL))
  refine⟨[(1,.pointer (some ⟨g1,0,none⟩)),(6,.int .i64 (k:Int)),(7,.pointer (some ⟨g7,0,none⟩)),(3,.slice (some ⟨bn 119,0,none⟩) (es.length+1) cap),(10,.int .i64 ((i+1:Nat):Int))],⟨⟨_,_,rfl,rfl,rfl⟩,⟨_,_,rfl,rfl,rfl⟩,⟨_,_,rfl,rfl,rfl⟩,⟨_,_,rfl,rfl,rfl⟩,⟨_,_,rfl,congrArg (λz=>Value.int .i64 z) (ay (i:=i) aa),rfl⟩,trivial⟩,i+1,_,es++[x.zU],by omega,rfl,rfl,kc,(Bk.az ar).but o'.1 (by simp[eS]),(tR.az ar).but o'.1 (by simp[eg]),eI,by rw[eF hx,hes,List.append_assoc];rfl,by rw[List.length_append];omega,by rw[List.length_append];show es.length+1<=_;omega⟩
 refine VS.aN rfl (decide_eq_false (λh=>hlt (Int.ofNat_lt.1 h))) ?_
 obtain rfl:nd=i:=by omega
 rw[List.take_of_length_le (by rw[<-Ll];exact Nat.le_refl _)] at hes
 refine ae ?_
 refine VS.fY (J:=λm L W=>∃ (i:Nat) (v:Value) (es:List (Rw)),i<=ns/\m=ns-i/\L=[(1,.pointer (some ⟨g1,0,none⟩)),(6,.int .i64 (k:Int)),(7,.pointer (some ⟨g7,0,none⟩)),(3,v),(11,.int .i64 (i:Int))]/\ax w W/\aL W g1 32 #[.string f.name,.string f.parent,.slice pB nB cB,.bool sT,.slice pT nT cT,.bool tT,.slice yT mT dT,.bool sC,.slice pC nC cC,.bool tC,.slice yC mC dC,.int .i64 f.bk,.int .i64 f.fw,.bool sI,.slice pI nI cI,.bool tI,.slice yI mI dI,.bool sF,.slice pF nF cF,.bool tF,.slice yF mF dF,.int .i64 f.kp,.slice pc Nc cc,.slice pe Ne ce,.slice (some ⟨BC,BD,none⟩) Ny cy]/\aL W g7 99 #[.int .i64 y.num,.slice ph nh ch,.slice pb nb cb,.slice pd nd cd,.slice ps ns cs,.slice pq nq cq]/\aE (bZ kk) 4 27 w.heap.size W v es/\es=(E0++y.holds.flatMap jo++y.cf.flatMap jo++y.dG.flatMap xX)++((y.dp).take i).flatMap xY/\4<=es.length/\es.length<=(E0.length+120)+2*i)
  (λW=>bj Tryz.prog W 159) (λ_=>rfl) (λ_=>rfl) (λ_=>ax.refl _) ns (λw' β k' o en=>⟨[(1,.pointer (some ⟨g1,0,none⟩)),(6,.int .i64 (k:Int)),(7,.pointer (some ⟨g7,0,none⟩)),(3,v),(11,.int .i64 ((0:Nat):Int))],⟨⟨_,_,rfl,rfl,rfl⟩,⟨_,_,rfl,rfl,rfl⟩,⟨_,_,rfl,rfl,rfl⟩,⟨_,_,rfl,rfl,rfl⟩,⟨_,_,rfl,rfl,rfl⟩,trivial⟩,0,v,es,by omega,rfl,rfl,GL.aH o,Bk.az o,tR.az o,aQ.az (bZ.el kk) o,by rw[List.take_zero,List.flatMap_nil,List.append_nil];exact hes,fO,by omega⟩) ?_
 rintro m L wS ⟨i,v,es,hi,rfl,rfl,GM,Bl,sG,aQ,hes,fO,zW⟩
 refine ae ?_
 refine VO.read rfl [.slice ps ns cs] rfl (aG (sG.cell (j:=4) rfl)) (wV rfl ?_)
 refine ae ?_
 by_cases hlt:i<ns
 ·obtain⟨x,hx⟩:∃ x,(y.dp)[i]? =some x:=⟨_,List.getElem?_eq_getElem (by rw[<-NV];exact hlt)⟩
  obtain⟨b,off,uG,rfl,hc,dE⟩:=y4.at hx
  obtain⟨s1,p1,n1,c1,t1,uX,m1,d1,s2,p2,n2,c2,t2,y2',m2,d2,rfl,nz,IJ⟩:=dE
  obtain⟨b0,c0,vs,sp,rfl,nL,da,mG,kV,hle,jS,jM⟩:∃ b0 c0 vs sp,v=.slice (some ⟨b0,0,none⟩) es.length c0/\w.heap.size<=b0/\aL wS b0 27 (vs.flatten++sp).toArray/\cJ (bZ kk) wS es vs/\sp.all bf=true/\es.length<=c0/\c0<=9223372036854775807/\(vs.flatten++sp).length=c0*4:=by
   rcases aQ with ⟨_,dc⟩|⟨b0,c0,vs,sp,h1,h2,h3,h4,h5,h6,h7,h8⟩
   ·rw[dc] at fO;simp at fO
   ·exact⟨b0,c0,vs,sp,h1,h2,h3,h4,h5,h6,h7,h8⟩
  have eS:g1≠b0:=λh=>by rw[h] at Bl;exact absurd (bt Bl da) cH
  have eg:g7≠b0:=λh=>by rw[h] at sG;exact absurd (bt sG da) cH
  refine VS.aU rfl (decide_eq_true (Int.ofNat_lt.2 hlt)) ?_
  refine VS.bI di (λt=>Nat.beq t 23) table (λ_ _ _=>trivial) (λbm jk k1 fG jZ=> ?_)
  have ar:ax wS bm:=fG
  have iu:=GM.size
  have fL:=ar.size
  have cZ:cM di 159 [b0] [(27,vs.flatten.map .val++sp.map .val)] bm:=by
   refine⟨rfl,by simp,λj g' c' hj hc=> ?_,λc' hc=> ?_,λc' hc k hk=> ?_⟩
   ·match j,hj,hc with
    | 0,hj,hc=>cases hj;cases hc;rw[<-List.map_append,aP];exact da.az ar
    | j+1,hj,_=>simp at hj
   ·cases List.mem_singleton.1 hc
    exact⟨rfl,by rw[<-List.map_append];exact bc (by rw[List.all_append,(mG.ok (bZ.el kk)).1,kV];rfl)⟩
   ·cases List.mem_singleton.1 hc
    rw[<-List.map_append,af] at hk;cases hk
  have qj:bO (bZ kk) 4 bm es.length c0 vs (sp.map .val) es:=⟨rfl,mG.kp (bZ.el kk) (Kp.of (U:=UU) ar),bc kV,af _,hle,jS,by rw[<-List.map_append,List.length_map];exact jM⟩
  refine⟨[b0],[(27,vs.flatten.map .val++sp.map .val)],cZ,[(1,.val (.pointer (some ⟨g1,0,none⟩))),(6,.val (.int .i64 (k:Int))),(7,.val (.pointer (some ⟨g7,0,none⟩))),(3,.row 318 0 es.length c0),(11,.val (.int .i64 (i:Int)))],⟨⟨_,rfl,rfl,λi hi=>(by cases hi)⟩,⟨_,rfl,rfl,λi hi=>(by cases hi)⟩,⟨_,rfl,rfl,λi hi=>(by cases hi)⟩,⟨_,rfl,rfl,λi hi=>by rw[(by simpa [AV.ids] using hi:i=318)];exact⟨(by show 318<=318;omega),(by show 318<2*159+1;omega)⟩⟩,⟨_,rfl,rfl,λi hi=>(by cases hi)⟩,trivial⟩,?_⟩
  have ea:ax w bm:=GM.aH ar
  have eG:∀ {b off:Nat} {cs:List Value},(∀ (j:Nat) (u:Value),cs[j]? =some u->w.cell? ((⟨b,off,none⟩:Addr).add j)=some u)->∀ (j:Nat) (u:Value),cs[j]? =some u->Cx.At (gV Tryz.prog bm 159 [b0] cZ.nodup cZ.ad) ((⟨b,off,none⟩:Addr).add j) u:=λh j u hj=>aY (λhm=>by
   have:=World.block_lt_of_cell? w _ (h j u hj)
   omega) (ea.cell (h j u hj))
  refine ag ?_
  refine VO.aO rfl [.slice (some ⟨b,off,none⟩) ns cs] rfl (λj u hj=>aY (by rw[Addr.add_mid];exact eg) (aG ((sG.az ar).cell (j:=4) rfl) j u hj)) (wV rfl ?_)
  refine ag ?_
  refine VO.cond rfl cW ?_
  refine wV rfl ?_
  refine ag ?_
  refine VO.aO rfl [.bool s1,.slice p1 n1 c1,.bool t1,.slice uX m1 d1] rfl (eG (aC hc 1 _ ⟨_,rfl⟩)) (wV rfl ?_)
  refine ag ?_
  refine VO.aO rfl [.slice (some ⟨b,off,none⟩) ns cs] rfl (λj u hj=>aY (by rw[Addr.add_mid];exact eg) (aG ((sG.az ar).cell (j:=4) rfl) j u hj)) (wV rfl ?_)
  refine ag ?_
  refine VO.cond rfl cW ?_
  refine wV rfl ?_
  refine ag ?_
  refine VO.aO rfl [.bool s2,.slice p2 n2 c2,.bool t2,.slice y2' m2 d2] rfl (eG (aC hc 5 _ ⟨_,rfl⟩)) (wV rfl ?_)
  refine ag ?_
  have hcs:cJ (bZ kk) bm [x.2.1,x.2.2] [[.bool s1,.slice p1 n1 c1,.bool t1,.slice uX m1 d1],[.bool s2,.slice p2 n2 c2,.bool t2,.slice y2' m2 d2]]:=.cons (nz.kp (Kp.of (U:=UU) ea)) (.cons (IJ.kp (Kp.of (U:=UU) ea)) .nil)
  refine VO.tP (bA _ _) (bZ.el kk) (t:=105) (e:=27) (s:=140) (i:=318) (n:=es.length) (c:=c0) (kn:=2) (css:=[[.bool s1,.slice p1 n1 c1,.bool t1,.slice uX m1 d1],[.bool s2,.slice p2 n2 c2,.bool t2,.slice y2' m2 d2]]) (zs:=[x.2.1,x.2.2]) (vs:=vs) (sp:=sp.map .val) (es:=es) rfl rfl rfl rfl rfl rfl rfl rfl (cr rfl) rfl (.inl rfl) rfl (qj.kp (bZ.el kk) (show aK di bm _ from dz)) rfl (hcs.kp (bZ.el kk) (show aK di bm _ from dz)) rfl aa aa (λgm cap fx ρ vK vL dY dR=>wV rfl ?_)
  refine ag ?_
  refine VS.fq rfl (ns-(i+1)) aa (λw' bn k' o' jx=> ?_)
  have kc:ax w w':=eJ.az ea o'.1 (λx hx=>by rw[List.mem_singleton.1 hx];exact nL)
  have hst:dD (bZ kk) 4 27 141 (.row 141 0 (es.length+2) cap) [(141,(27,_))] gm (es++[x.2.1,x.2.2]):=.inr ⟨_,cap,_,fx,rfl,rfl,dR⟩
  have eI:=hst.told (bZ.el kk) jx (λx hx=>by cases List.mem_singleton.1 hx;rfl) (show aK di gm w' from k') w.heap.size (λh=>(ba (show ez 159 [b0] bm 141 (bn 141) from h)).elim (λq=>Nat.le_trans iu (Nat.le_trans fL q)) (λq=>by rw[List.mem_singleton.1 q];exact nL))
  refine⟨[(1,.pointer (some ⟨g1,0,none⟩)),(6,.int .i64 (k:Int)),(7,.pointer (some ⟨g7,0,none⟩)),(3,.slice (some ⟨bn 141,0,none⟩) (es.length+2) cap),(11,.int .i64 ((i+1:Nat):Int))],⟨⟨_,_,rfl,rfl,rfl⟩,⟨_,_,rfl,rfl,rfl⟩,⟨_,_,rfl,rfl,rfl⟩,⟨_,_,rfl,rfl,rfl⟩,⟨_,_,rfl,congrArg (λz=>Value.int .i64 z) (ay (i:=i) aa),rfl⟩,trivial⟩,i+1,_,es++[x.2.1,x.2.2],by omega,rfl,rfl,kc,(Bl.az ar).but o'.1 (by simp[eS]),(sG.az ar).but o'.1 (by simp[eg]),eI,by rw[eF hx,hes,List.append_assoc];rfl,by rw[List.length_append];omega,by rw[List.length_append];show es.length+2<=_;omega⟩
 refine VS.aN rfl (decide_eq_false (λh=>hlt (Int.ofNat_lt.1 h))) ?_
 obtain rfl:ns=i:=by omega
 rw[List.take_of_length_le (by rw[<-NV];exact Nat.le_refl _)] at hes
 refine ae ?_
 refine VS.fY (J:=λm L W=>∃ (i:Nat) (v:Value) (es:List (Rw)),i<=nq/\m=nq-i/\L=[(1,.pointer (some ⟨g1,0,none⟩)),(6,.int .i64 (k:Int)),(7,.pointer (some ⟨g7,0,none⟩)),(3,v),(12,.int .i64 (i:Int))]/\ax w W/\aL W g1 32 #[.string f.name,.string f.parent,.slice pB nB cB,.bool sT,.slice pT nT cT,.bool tT,.slice yT mT dT,.bool sC,.slice pC nC cC,.bool tC,.slice yC mC dC,.int .i64 f.bk,.int .i64 f.fw,.bool sI,.slice pI nI cI,.bool tI,.slice yI mI dI,.bool sF,.slice pF nF cF,.bool tF,.slice yF mF dF,.int .i64 f.kp,.slice pc Nc cc,.slice pe Ne ce,.slice (some ⟨BC,BD,none⟩) Ny cy]/\aL W g7 99 #[.int .i64 y.num,.slice ph nh ch,.slice pb nb cb,.slice pd nd cd,.slice ps ns cs,.slice pq nq cq]/\aE (bZ kk) 4 27 w.heap.size W v es/\es=(E0++y.holds.flatMap jo++y.cf.flatMap jo++y.dG.flatMap xX++y.dp.flatMap xY)++((y.gf).take i).flatMap GC/\4<=es.length/\es.length<=(E0.length+200)+1*i)
  (λW=>bj Tryz.prog W 159) (λ_=>rfl) (λ_=>rfl) (λ_=>ax.refl _) nq (λw' β k' o en=>⟨[(1,.pointer (some ⟨g1,0,none⟩)),(6,.int .i64 (k:Int)),(7,.pointer (some ⟨g7,0,none⟩)),(3,v),(12,.int .i64 ((0:Nat):Int))],⟨⟨_,_,rfl,rfl,rfl⟩,⟨_,_,rfl,rfl,rfl⟩,⟨_,_,rfl,rfl,rfl⟩,⟨_,_,rfl,rfl,rfl⟩,⟨_,_,rfl,rfl,rfl⟩,trivial⟩,0,v,es,by omega,rfl,rfl,GM.aH o,Bl.az o,sG.az o,aQ.az (bZ.el kk) o,by rw[List.take_zero,List.flatMap_nil,List.append_nil];exact hes,fO,by omega⟩) ?_
 rintro m L wQ ⟨i,v,es,hi,rfl,rfl,GN,Bm,xZ,aQ,hes,fO,zW⟩
 refine ae ?_
 refine VO.read rfl [.slice pq nq cq] rfl (aG (xZ.cell (j:=5) rfl)) (wV rfl ?_)
 refine ae ?_
 by_cases hlt:i<nq
 ·obtain⟨x,hx⟩:∃ x,(y.gf)[i]? =some x:=⟨_,List.getElem?_eq_getElem (by rw[<-NW];exact hlt)⟩
  obtain⟨b,off,uG,rfl,hc,dE⟩:=y5.at hx
  obtain⟨s1,p1,n1,c1,t1,uX,m1,d1,rfl,nz⟩:=dE
  obtain⟨b0,c0,vs,sp,rfl,nL,da,mG,kV,hle,jS,jM⟩:∃ b0 c0 vs sp,v=.slice (some ⟨b0,0,none⟩) es.length c0/\w.heap.size<=b0/\aL wQ b0 27 (vs.flatten++sp).toArray/\cJ (bZ kk) wQ es vs/\sp.all bf=true/\es.length<=c0/\c0<=9223372036854775807/\(vs.flatten++sp).length=c0*4:=by
   rcases aQ with ⟨_,dc⟩|⟨b0,c0,vs,sp,h1,h2,h3,h4,h5,h6,h7,h8⟩
   ·rw[dc] at fO;simp at fO
   ·exact⟨b0,c0,vs,sp,h1,h2,h3,h4,h5,h6,h7,h8⟩
  have eS:g1≠b0:=λh=>by rw[h] at Bm;exact absurd (bt Bm da) cH
  have eg:g7≠b0:=λh=>by rw[h] at xZ;exact absurd (bt xZ da) cH
  refine VS.aU rfl (decide_eq_true (Int.ofNat_lt.2 hlt)) ?_
  refine VS.bI di (λt=>Nat.beq t 23) table (λ_ _ _=>trivial) (λbm jk k1 fG jZ=> ?_)
  have ar:ax wQ bm:=fG
  have iu:=GN.size
  have fL:=ar.size
  have cZ:cM di 159 [b0] [(27,vs.flatten.map .val++sp.map .val)] bm:=by
   refine⟨rfl,by simp,λj g' c' hj hc=> ?_,λc' hc=> ?_,λc' hc k hk=> ?_⟩
   ·match j,hj,hc with
    | 0,hj,hc=>cases hj;cases hc;rw[<-List.map_append,aP];exact da.az ar
    | j+1,hj,_=>simp at hj
   ·cases List.mem_singleton.1 hc
    exact⟨rfl,by rw[<-List.map_append];exact bc (by rw[List.all_append,(mG.ok (bZ.el kk)).1,kV];rfl)⟩
   ·cases List.mem_singleton.1 hc
    rw[<-List.map_append,af] at hk;cases hk
  have qj:bO (bZ kk) 4 bm es.length c0 vs (sp.map .val) es:=⟨rfl,mG.kp (bZ.el kk) (Kp.of (U:=UU) ar),bc kV,af _,hle,jS,by rw[<-List.map_append,List.length_map];exact jM⟩
  refine⟨[b0],[(27,vs.flatten.map .val++sp.map .val)],cZ,[(1,.val (.pointer (some ⟨g1,0,none⟩))),(6,.val (.int .i64 (k:Int))),(7,.val (.pointer (some ⟨g7,0,none⟩))),(3,.row 318 0 es.length c0),(12,.val (.int .i64 (i:Int)))],⟨⟨_,rfl,rfl,λi hi=>(by cases hi)⟩,⟨_,rfl,rfl,λi hi=>(by cases hi)⟩,⟨_,rfl,rfl,λi hi=>(by cases hi)⟩,⟨_,rfl,rfl,λi hi=>by rw[(by simpa [AV.ids] using hi:i=318)];exact⟨(by show 318<=318;omega),(by show 318<2*159+1;omega)⟩⟩,⟨_,rfl,rfl,λi hi=>(by cases hi)⟩,trivial⟩,?_⟩
  have ea:ax w bm:=GN.aH ar
  have eG:∀ {b off:Nat} {cs:List Value},(∀ (j:Nat) (u:Value),cs[j]? =some u->w.cell? ((⟨b,off,none⟩:Addr).add j)=some u)->∀ (j:Nat) (u:Value),cs[j]? =some u->Cx.At (gV Tryz.prog bm 159 [b0] cZ.nodup cZ.ad) ((⟨b,off,none⟩:Addr).add j) u:=λh j u hj=>aY (λhm=>by
   have:=World.block_lt_of_cell? w _ (h j u hj)
   omega) (ea.cell (h j u hj))
  refine ag ?_
  refine VO.aO rfl [.slice (some ⟨b,off,none⟩) nq cq] rfl (λj u hj=>aY (by rw[Addr.add_mid];exact eg) (aG ((xZ.az ar).cell (j:=5) rfl) j u hj)) (wV rfl ?_)
  refine ag ?_
  refine VO.cond rfl cW ?_
  refine wV rfl ?_
  refine ag ?_
  refine VO.aO rfl [.bool s1,.slice p1 n1 c1,.bool t1,.slice uX m1 d1] rfl (eG (aC hc 1 _ ⟨_,rfl⟩)) (wV rfl ?_)
  refine ag ?_
  have hcs:cJ (bZ kk) bm [x.2] [[.bool s1,.slice p1 n1 c1,.bool t1,.slice uX m1 d1]]:=.cons (nz.kp (Kp.of (U:=UU) ea)) .nil
  refine VO.tP (bA _ _) (bZ.el kk) (t:=105) (e:=27) (s:=156) (i:=318) (n:=es.length) (c:=c0) (kn:=1) (css:=[[.bool s1,.slice p1 n1 c1,.bool t1,.slice uX m1 d1]]) (zs:=[x.2]) (vs:=vs) (sp:=sp.map .val) (es:=es) rfl rfl rfl rfl rfl rfl rfl rfl (cr rfl) rfl (.inl rfl) rfl (qj.kp (bZ.el kk) (show aK di bm _ from dz)) rfl (hcs.kp (bZ.el kk) (show aK di bm _ from dz)) rfl aa aa (λgm cap fx ρ vK vL dY dR=>wV rfl ?_)
  refine ag ?_
  refine VS.fq rfl (nq-(i+1)) aa (λw' bn k' o' jx=> ?_)
  have kc:ax w w':=eJ.az ea o'.1 (λx hx=>by rw[List.mem_singleton.1 hx];exact nL)
  have hst:dD (bZ kk) 4 27 157 (.row 157 0 (es.length+1) cap) [(157,(27,_))] gm (es++[x.2]):=.inr ⟨_,cap,_,fx,rfl,rfl,dR⟩
  have eI:=hst.told (bZ.el kk) jx (λx hx=>by cases List.mem_singleton.1 hx;rfl) (show aK di gm w' from k') w.heap.size (λh=>(ba (show ez 159 [b0] bm 157 (bn 157) from h)).elim (λq=>Nat.le_trans iu (Nat.le_trans fL q)) (λq=>by rw[List.mem_singleton.1 q];exact nL))
  refine⟨[(1,.pointer (some ⟨g1,0,none⟩)),(6,.int .i64 (k:Int)),(7,.pointer (some ⟨g7,0,none⟩)),(3,.slice (some ⟨bn 157,0,none⟩) (es.length+1) cap),(12,.int .i64 ((i+1:Nat):Int))],⟨⟨_,_,rfl,rfl,rfl⟩,⟨_,_,rfl,rfl,rfl⟩,⟨_,_,rfl,rfl,rfl⟩,⟨_,_,rfl,rfl,rfl⟩,⟨_,_,rfl,congrArg (λz=>Value.int .i64 z) (ay (i:=i) aa),rfl⟩,trivial⟩,i+1,_,es++[x.2],by omega,rfl,rfl,kc,(Bm.az ar).but o'.1 (by simp[eS]),(xZ.az ar).but o'.1 (by simp[eg]),eI,by rw[eF hx,hes,List.append_assoc];rfl,by rw[List.length_append];omega,by rw[List.length_append];show es.length+1<=_;omega⟩
 refine VS.aN rfl (decide_eq_false (λh=>hlt (Int.ofNat_lt.1 h))) ?_
 obtain rfl:nq=i:=by omega
 rw[List.take_of_length_le (by rw[<-NW];exact Nat.le_refl _)] at hes
 refine ae ?_
 refine VS.fq rfl (Ny-(k+1)) aa (λw' bn k' o' jx=> ?_)
 refine⟨[(1,.pointer (some ⟨g1,0,none⟩)),(3,v),(6,.int .i64 ((k+1:Nat):Int))],⟨⟨_,_,rfl,rfl,rfl⟩,⟨_,_,rfl,rfl,rfl⟩,⟨_,_,rfl,congrArg (λz=>Value.int .i64 z) (ay (i:=k) aa),rfl⟩,trivial⟩,k+1,v,es,by omega,rfl,rfl,GN.aH o',Bm.az o',aQ.az (bZ.el kk) o',?_,fO,by omega⟩
 rw[eF hy,hes,hesE]
 unfold jR
 simp only[List.append_assoc]
set_option maxRecDepth 4000
def IK (x:vM):List ByteArray:=[x.1]
def pD (x:Ew):List ByteArray:=[x.1,x.2.1]
def IL (x:DlR):List ByteArray:=[x.id,x.kO,x.kP,x.cls]
def NY (x:SkR):List ByteArray:=[x.1]
def sdTxt (x:SdR):List ByteArray:=[x.1]
def IM (y:yO):List ByteArray:=y.holds.flatMap pD++y.cf.flatMap pD++y.dG.flatMap IL++y.dp.flatMap NY++y.gf.flatMap sdTxt
def NZ (f:iU):List ByteArray:=[f.name,f.parent]++f.bu++f.cls.flatMap IK++f.iy.flatMap IM
theorem IP {w:World} {p:Option Addr} {n c:Nat} {es:List ByteArray} (h:cj dv 1 w (.slice p n c) es):∃ p' cc,Value.slice p n c=.slice p' es.length cc/\(es.length=0\/∃ b off,p'=some ⟨b,off,none⟩/\∀ (j:Nat) (q:Value),(es.map λs=>[Value.string s]).flatten[j]? =some q->w.cell? ⟨b,off+j,none⟩=some q):=by
 obtain⟨p',c',e,h1,h2,h3⟩:=h
 cases e
 refine⟨p,c,rfl,?_⟩
 cases es with
 | nil=>exact .inl rfl
 | cons a r=>
   obtain⟨b,off,cs,rfl,-,-⟩:=h3 0 a rfl
   refine .inr ⟨b,off,rfl,λj q hj=> ?_⟩
   rw[jI,List.getElem?_map] at hj
   obtain⟨s,hs,rfl⟩:=Option.map_eq_some_iff.1 hj
   obtain⟨b',off',jg,hp,hc,hE⟩:=h3 j s hs
   cases hp
   cases hE
   have:=hc 0 _ rfl
   rw[Nat.mul_one,Nat.add_zero] at this
   exact this
set_option maxRecDepth 8000 in
theorem KA (v:Value) (f:iU) (kk:Nat) (w:World) (hv:mz kk w v f) (hs:NR f):
  Calls Tryz.prog 129 #[v] w λo w'=>∃ r,o=.returned r/\aE dv 1 9 w.heap.size w' r (NZ f)/\ax w w':=by
 obtain⟨pB,nB,cB,sT,pT,nT,cT,tT,yT,mT,dT,sC,pC,nC,cC,tC,yC,mC,dC,sI,pI,nI,cI,tI,yI,mI,dI,sF,pF,nF,cF,tF,yF,mF,dF,pc,Nc,cc,pe,Ne,ce,py,Ny,cy,rfl,h1,h2,h3,h4,h5,h6,h7,h8⟩:=hv
 have Ev:Nc=f.cls.length:=by obtain⟨_,_,e,_⟩:=h6.form;cases e;rfl
 have NC:Ne=f.bu.length:=by obtain⟨_,_,e,_⟩:=h7.form;cases e;rfl
 have Lk:Ny=f.iy.length:=by obtain⟨_,_,e,_⟩:=h8.form;cases e;rfl
 have hsC:=hs.cls
 have hsE:=hs.bu
 have hsY:=hs.iy
 refine ai (C:=bj Tryz.prog w _) (args:=[_]) Tryz.func129 rfl Tryz.ntmps129 (cr rfl) ?_
 refine ae ?_
 refine VO.appT (cV _ _) aJ (t:=29) (e:=9) (i:=17) (n:=2) (c:=2) (vs:=[[.string f.name],[.string f.parent]]) (sp:=[]) (es:=[f.name,f.parent]) rfl rfl rfl rfl rfl rfl rfl rfl (cr rfl) rfl (.inl rfl) rfl ⟨rfl,.cons rfl (.cons rfl .nil),rfl,rfl,Nat.le_refl _,by decide,rfl⟩ (f.bu.map λs=>[.string s]) (pV _ f.bu) (λw1 k1 o1=>IP (h7.az aJ o1)) aa (λgm cap fx ρ vK vL dY dR=>wV rfl ?_)
 (repeat (first|refine wN ?_|refine wP rfl ?_|refine wO rfl rfl ?_))
 refine VS.eV (λw=>bj Tryz.prog w 150) (λ_=>rfl) (λ_=>rfl) (λ_=>ax.refl _) (λw0 β k0 iZ en=> ?_)
 have GD:ax w w0:=iZ
 have NT:aL w0 (β 1) 32 #[.string f.name,.string f.parent,.slice pB nB cB,.bool sT,.slice pT nT cT,.bool tT,.slice yT mT dT,.bool sC,.slice pC nC cC,.bool tC,.slice yC mC dC,.int .i64 f.bk,.int .i64 f.fw,.bool sI,.slice pI nI cI,.bool tI,.slice yI mI dI,.bool sF,.slice pF nF cF,.bool tF,.slice yF mF dF,.int .i64 f.kp,.slice pc Nc cc,.slice pe Ne ce,.slice py Ny cy]:=(en.own 1 _ _ rfl).cls
 have aQ:aE dv 1 9 w.heap.size w0 (.slice (some ⟨β 21,0,none⟩) (2+f.bu.length) cap) ([f.name,f.parent]++f.bu):=dR.new aJ (en.own 21 _ _ rfl) dz
 refine⟨[(1,.val (.pointer (some ⟨β 1,0,none⟩))),(3,.val (.slice (some ⟨β 21,0,none⟩) (2+f.bu.length) cap))],⟨⟨_,_,rfl,rfl,rfl⟩,⟨_,_,rfl,rfl,rfl⟩,trivial⟩,?_⟩
 generalize β 1=g1 at NT ⊢
 obtain⟨v,hvv⟩:∃ v,v=Value.slice (some ⟨β 21,0,none⟩) (2+f.bu.length) cap:=⟨_,rfl⟩
 rw[<-hvv] at aQ ⊢
 clear hvv en
 obtain⟨es,hes⟩:∃ es,es=[f.name,f.parent]++f.bu:=⟨_,rfl⟩
 rw[<-hes] at aQ
 have fO:2<=es.length:=by rw[hes,List.length_append];show 2<=2+_;omega
 have zW:es.length<=262:=by rw[hes,List.length_append];show 2+_<=_;omega
 refine ae ?_
 refine VS.fY (J:=λm L W=>∃ (i:Nat) (v:Value) (es:List (ByteArray)),i<=Nc/\m=Nc-i/\L=[(1,.pointer (some ⟨g1,0,none⟩)),(3,v),(4,.int .i64 (i:Int))]/\ax w W/\aL W g1 32 #[.string f.name,.string f.parent,.slice pB nB cB,.bool sT,.slice pT nT cT,.bool tT,.slice yT mT dT,.bool sC,.slice pC nC cC,.bool tC,.slice yC mC dC,.int .i64 f.bk,.int .i64 f.fw,.bool sI,.slice pI nI cI,.bool tI,.slice yI mI dI,.bool sF,.slice pF nF cF,.bool tF,.slice yF mF dF,.int .i64 f.kp,.slice pc Nc cc,.slice pe Ne ce,.slice py Ny cy]/\aE (dv) 1 9 w.heap.size W v es/\es=([f.name,f.parent]++f.bu)++((f.cls).take i).flatMap IK/\2<=es.length/\es.length<=262+1*i)
  (λW=>bj Tryz.prog W 150) (λ_=>rfl) (λ_=>rfl) (λ_=>ax.refl _) Nc (λw' β k' o en=>⟨[(1,.pointer (some ⟨g1,0,none⟩)),(3,v),(4,.int .i64 ((0:Nat):Int))],⟨⟨_,_,rfl,rfl,rfl⟩,⟨_,_,rfl,rfl,rfl⟩,⟨_,_,rfl,rfl,rfl⟩,trivial⟩,0,v,es,by omega,rfl,rfl,GD.aH o,NT.az o,aQ.az aJ o,by rw[List.take_zero,List.flatMap_nil,List.append_nil];exact hes,fO,by omega⟩) ?_
 rintro m L wC ⟨i,v,es,hi,rfl,rfl,GG,tQ,aQ,hes,fO,zW⟩
 refine ae ?_
 refine VO.read rfl [.slice pc Nc cc] rfl (aG (tQ.cell (j:=22) rfl)) (wV rfl ?_)
 refine ae ?_
 by_cases hlt:i<Nc
 ·obtain⟨x,hx⟩:∃ x,(f.cls)[i]? =some x:=⟨_,List.getElem?_eq_getElem (by rw[<-Ev];exact hlt)⟩
  obtain⟨b,off,uG,rfl,hc,dE⟩:=h6.at hx
  obtain⟨s1,p1,n1,c1,t1,y1,m1,d1,rfl,-⟩:=dE
  obtain⟨b0,c0,vs,sp,rfl,nL,da,mG,kV,hle,jS,jM⟩:∃ b0 c0 vs sp,v=.slice (some ⟨b0,0,none⟩) es.length c0/\w.heap.size<=b0/\aL wC b0 9 (vs.flatten++sp).toArray/\cJ (dv) wC es vs/\sp.all bf=true/\es.length<=c0/\c0<=9223372036854775807/\(vs.flatten++sp).length=c0*1:=by
   rcases aQ with ⟨_,dc⟩|⟨b0,c0,vs,sp,h1,h2,h3,h4,h5,h6,h7,h8⟩
   ·rw[dc] at fO;simp at fO
   ·exact⟨b0,c0,vs,sp,h1,h2,h3,h4,h5,h6,h7,h8⟩
  have eS:g1≠b0:=λh=>by rw[h] at tQ;exact absurd (bt tQ da) cH
  refine VS.aU rfl (decide_eq_true (Int.ofNat_lt.2 hlt)) ?_
  refine VS.bI di (λt=>Nat.beq t 23) table (λ_ _ _=>trivial) (λbm jk k1 fG jZ=> ?_)
  have ar:ax wC bm:=fG
  have iu:=GG.size
  have fL:=ar.size
  have cZ:cM di 150 [b0] [(9,vs.flatten.map .val++sp.map .val)] bm:=by
   refine⟨rfl,by simp,λj g' c' hj hc=> ?_,λc' hc=> ?_,λc' hc k hk=> ?_⟩
   ·match j,hj,hc with
    | 0,hj,hc=>cases hj;cases hc;rw[<-List.map_append,aP];exact da.az ar
    | j+1,hj,_=>simp at hj
   ·cases List.mem_singleton.1 hc
    exact⟨rfl,by rw[<-List.map_append];exact bc (by rw[List.all_append,(mG.ok aJ).1,kV];rfl)⟩
   ·cases List.mem_singleton.1 hc
    rw[<-List.map_append,af] at hk;cases hk
  have qj:bO (dv) 1 bm es.length c0 vs (sp.map .val) es:=⟨rfl,mG.kp aJ (Kp.of (U:=UU) ar),bc kV,af _,hle,jS,by rw[<-List.map_append,List.length_map];exact jM⟩
  refine⟨[b0],[(9,vs.flatten.map .val++sp.map .val)],cZ,[(1,.val (.pointer (some ⟨g1,0,none⟩))),(3,.row 300 0 es.length c0),(4,.val (.int .i64 (i:Int)))],⟨⟨_,rfl,rfl,λi hi=>(by cases hi)⟩,⟨_,rfl,rfl,λi hi=>by rw[(by simpa [AV.ids] using hi:i=300)];exact⟨(by show 300<=300;omega),(by show 300<2*150+1;omega)⟩⟩,⟨_,rfl,rfl,λi hi=>(by cases hi)⟩,trivial⟩,?_⟩
  have ea:ax w bm:=GG.aH ar
  have eG:∀ {b off:Nat} {cs:List Value},(∀ (j:Nat) (u:Value),cs[j]? =some u->w.cell? ((⟨b,off,none⟩:Addr).add j)=some u)->∀ (j:Nat) (u:Value),cs[j]? =some u->Cx.At (gV Tryz.prog bm 150 [b0] cZ.nodup cZ.ad) ((⟨b,off,none⟩:Addr).add j) u:=λh j u hj=>aY (λhm=>by
   have:=World.block_lt_of_cell? w _ (h j u hj)
   omega) (ea.cell (h j u hj))
  refine ag ?_
  refine VO.aO rfl [.slice (some ⟨b,off,none⟩) Nc cc] rfl (λj u hj=>aY (by rw[Addr.add_mid];exact eS) (aG ((tQ.az ar).cell (j:=22) rfl) j u hj)) (wV rfl ?_)
  refine ag ?_
  refine VO.cond rfl cW ?_
  refine wV rfl ?_
  refine ag ?_
  refine VO.aO rfl [.string x.1] rfl (eG (aC hc 0 _ ⟨_,rfl⟩)) (wV rfl ?_)
  refine ag ?_
  have hcs:cJ (dv) bm [x.1] [[.string x.1]]:=.cons rfl .nil
  refine VO.tP (bA _ _) aJ (t:=29) (e:=9) (s:=36) (i:=300) (n:=es.length) (c:=c0) (kn:=1) (css:=[[.string x.1]]) (zs:=[x.1]) (vs:=vs) (sp:=sp.map .val) (es:=es) rfl rfl rfl rfl rfl rfl rfl rfl (cr rfl) rfl (.inl rfl) rfl (qj.kp aJ (show aK di bm _ from dz)) rfl (hcs.kp aJ (show aK di bm _ from dz)) rfl aa aa (λgm cap fx ρ vK vL dY dR=>wV rfl ?_)
  refine ag ?_
  refine VS.fq rfl (Nc-(i+1)) aa (λw' bn k' o' jx=> ?_)
  have kc:ax w w':=eJ.az ea o'.1 (λx hx=>by rw[List.mem_singleton.1 hx];exact nL)
  have hst:dD (dv) 1 9 37 (.row 37 0 (es.length+1) cap) [(37,(9,_))] gm (es++[x.1]):=.inr ⟨_,cap,_,fx,rfl,rfl,dR⟩
  have eI:=hst.told aJ jx (λx hx=>by cases List.mem_singleton.1 hx;rfl) (show aK di gm w' from k') w.heap.size (λh=>(ba (show ez 150 [b0] bm 37 (bn 37) from h)).elim (λq=>Nat.le_trans iu (Nat.le_trans fL q)) (λq=>by rw[List.mem_singleton.1 q];exact nL))
  refine⟨[(1,.pointer (some ⟨g1,0,none⟩)),(3,.slice (some ⟨bn 37,0,none⟩) (es.length+1) cap),(4,.int .i64 ((i+1:Nat):Int))],⟨⟨_,_,rfl,rfl,rfl⟩,⟨_,_,rfl,rfl,rfl⟩,⟨_,_,rfl,congrArg (λz=>Value.int .i64 z) (ay (i:=i) aa),rfl⟩,trivial⟩,i+1,_,es++[x.1],by omega,rfl,rfl,kc,(tQ.az ar).but o'.1 (by simp[eS]),eI,by rw[eF hx,hes,List.append_assoc];rfl,by rw[List.length_append];omega,by rw[List.length_append];show es.length+1<=_;omega⟩
 refine VS.aN rfl (decide_eq_false (λh=>hlt (Int.ofNat_lt.1 h))) ?_
 obtain rfl:Nc=i:=by omega
 rw[List.take_of_length_le (by rw[<-Ev];exact Nat.le_refl _)] at hes
 refine ae ?_
 refine VS.fY (J:=λm L W=>∃ (k:Nat) (v:Value) (es:List ByteArray),k<=Ny/\m=Ny-k/\L=[(1,.pointer (some ⟨g1,0,none⟩)),(3,v),(5,.int .i64 (k:Int))]/\ax w W/\aL W g1 32 #[.string f.name,.string f.parent,.slice pB nB cB,.bool sT,.slice pT nT cT,.bool tT,.slice yT mT dT,.bool sC,.slice pC nC cC,.bool tC,.slice yC mC dC,.int .i64 f.bk,.int .i64 f.fw,.bool sI,.slice pI nI cI,.bool tI,.slice yI mI dI,.bool sF,.slice pF nF cF,.bool tF,.slice yF mF dF,.int .i64 f.kp,.slice pc Nc cc,.slice pe Ne ce,.slice py Ny cy]/\aE dv 1 9 w.heap.size W v es/\es=([f.name,f.parent]++f.bu++f.cls.flatMap IK)++(f.iy.take k).flatMap IM/\2<=es.length/\es.length<=332+400*k)
  (λW=>bj Tryz.prog W 150) (λ_=>rfl) (λ_=>rfl) (λ_=>ax.refl _) Ny (λw' β k' o en=>⟨[(1,.pointer (some ⟨g1,0,none⟩)),(3,v),(5,.int .i64 ((0:Nat):Int))],⟨⟨_,_,rfl,rfl,rfl⟩,⟨_,_,rfl,rfl,rfl⟩,⟨_,_,rfl,rfl,rfl⟩,trivial⟩,0,v,es,by omega,rfl,rfl,GG.aH o,tQ.az o,aQ.az aJ o,by rw[List.take_zero,List.flatMap_nil,List.append_nil];exact hes,fO,by omega⟩) ?_
 rintro m L wY ⟨k,v,es,hk,rfl,rfl,GH,GI,aQ,hes,fO,zW⟩
 refine ae ?_
 refine VO.read rfl [.slice py Ny cy] rfl (aG (GI.cell (j:=24) rfl)) (wV rfl ?_)
 refine ae ?_
 by_cases hlt:k<Ny
 rotate_left
 ·refine VS.aN rfl (decide_eq_false (λh=>hlt (Int.ofNat_lt.1 h))) ?_
  have Ap:f.iy.length<=k:=by omega
  rw[List.take_of_length_le Ap] at hes
  refine ae ?_
  refine bV ?_;intro wz kz bz
  refine⟨v,rfl,?_,GH.aH bz⟩
  have:=aQ.az aJ bz
  rw[hes] at this
  exact this
 obtain⟨y,hy⟩:∃ y,f.iy[k]? =some y:=⟨_,List.getElem?_eq_getElem aa⟩
 obtain⟨ha1,ha2,ha3,ha4,ha5⟩:=hs.each y (List.mem_of_getElem? hy)
 obtain⟨BC,BD,csy,rfl,qA,⟨yh,yb,yd,ys,yq,rfl,y1,y2,y3,y4,y5⟩⟩:=h8.at hy
 obtain⟨ph,nh,ch,rfl,NU⟩:∃ p n c,yh=.slice p n c/\n=y.holds.length:=by obtain⟨p,c,e⟩:=y1.sl;exact⟨_,_,_,e,rfl⟩
 obtain⟨pb,nb,cb,rfl,Aj⟩:∃ p n c,yb=.slice p n c/\n=y.cf.length:=by obtain⟨p,c,e⟩:=y2.sl;exact⟨_,_,_,e,rfl⟩
 obtain⟨pd,nd,cd,rfl,Ll⟩:∃ p n c,yd=.slice p n c/\n=y.dG.length:=by obtain⟨p,c,e⟩:=y3.sl;exact⟨_,_,_,e,rfl⟩
 obtain⟨ps,ns,cs,rfl,NV⟩:∃ p n c,ys=.slice p n c/\n=y.dp.length:=by obtain⟨p,c,e⟩:=y4.sl;exact⟨_,_,_,e,rfl⟩
 obtain⟨pq,nq,cq,rfl,NW⟩:∃ p n c,yq=.slice p n c/\n=y.gf.length:=by obtain⟨p,c,e⟩:=y5.sl;exact⟨_,_,_,e,rfl⟩
 refine VS.aU rfl (decide_eq_true (Int.ofNat_lt.2 hlt)) ?_
 refine ae ?_
 refine VO.read rfl [.slice (some ⟨BC,BD,none⟩) Ny cy] rfl (aG (GI.cell (j:=24) rfl)) (wV rfl ?_)
 refine ae ?_
 refine VO.cond rfl cW ?_
 refine wV rfl ?_
 refine ae ?_
 refine VO.read rfl [.int .i64 y.num,.slice ph nh ch,.slice pb nb cb,.slice pd nd cd,.slice ps ns cs,.slice pq nq cq] rfl (λj u hj=>GH.cell (aC qA 0 _ ⟨[],rfl⟩ j u hj)) (wV rfl ?_)
 (repeat (first|refine wN ?_|refine wP rfl ?_|refine wO rfl rfl ?_))
 refine VS.eV (λw=>bj Tryz.prog w 150) (λ_=>rfl) (λ_=>rfl) (λ_=>ax.refl _) (λw1 β k1 fG en=> ?_)
 have hBw1:ax w w1:=GH.aH fG
 have hfw1:=GI.az fG
 have NX:aL w1 (β 6) 99 #[.int .i64 y.num,.slice ph nh ch,.slice pb nb cb,.slice pd nd cd,.slice ps ns cs,.slice pq nq cq]:=(en.own 6 _ _ rfl).cls
 replace aQ:=aQ.az aJ fG
 refine⟨[(1,.val (.pointer (some ⟨g1,0,none⟩))),(5,.val (.int .i64 (k:Int))),(6,.val (.pointer (some ⟨β 6,0,none⟩))),(3,.val v)],⟨⟨_,_,rfl,rfl,rfl⟩,⟨_,_,rfl,rfl,rfl⟩,⟨_,_,rfl,rfl,rfl⟩,⟨_,_,rfl,rfl,rfl⟩,trivial⟩,?_⟩
 generalize β 6=g7 at NX ⊢
 clear en
 obtain⟨E0,hE0⟩:∃ E0,E0=es:=⟨_,rfl⟩
 have hbE:E0.length<=332+400*k:=by rw[hE0];exact zW
 have hesE:E0=([f.name,f.parent]++f.bu++f.cls.flatMap IK)++(f.iy.take k).flatMap IM:=by rw[hE0];exact hes
 replace hes:es=E0:=hE0.symm
 replace zW:es.length<=E0.length:=by rw[hes];exact Nat.le_refl _
 refine ae ?_
 refine VS.fY (J:=λm L W=>∃ (i:Nat) (v:Value) (es:List (ByteArray)),i<=nh/\m=nh-i/\L=[(1,.pointer (some ⟨g1,0,none⟩)),(5,.int .i64 (k:Int)),(6,.pointer (some ⟨g7,0,none⟩)),(3,v),(7,.int .i64 (i:Int))]/\ax w W/\aL W g1 32 #[.string f.name,.string f.parent,.slice pB nB cB,.bool sT,.slice pT nT cT,.bool tT,.slice yT mT dT,.bool sC,.slice pC nC cC,.bool tC,.slice yC mC dC,.int .i64 f.bk,.int .i64 f.fw,.bool sI,.slice pI nI cI,.bool tI,.slice yI mI dI,.bool sF,.slice pF nF cF,.bool tF,.slice yF mF dF,.int .i64 f.kp,.slice pc Nc cc,.slice pe Ne ce,.slice (some ⟨BC,BD,none⟩) Ny cy]/\aL W g7 99 #[.int .i64 y.num,.slice ph nh ch,.slice pb nb cb,.slice pd nd cd,.slice ps ns cs,.slice pq nq cq]/\aE (dv) 1 9 w.heap.size W v es/\es=E0++((y.holds).take i).flatMap pD/\2<=es.length/\es.length<=E0.length+2*i)
  (λW=>bj Tryz.prog W 150) (λ_=>rfl) (λ_=>rfl) (λ_=>ax.refl _) nh (λw' β k' o en=>⟨[(1,.pointer (some ⟨g1,0,none⟩)),(5,.int .i64 (k:Int)),(6,.pointer (some ⟨g7,0,none⟩)),(3,v),(7,.int .i64 ((0:Nat):Int))],⟨⟨_,_,rfl,rfl,rfl⟩,⟨_,_,rfl,rfl,rfl⟩,⟨_,_,rfl,rfl,rfl⟩,⟨_,_,rfl,rfl,rfl⟩,⟨_,_,rfl,rfl,rfl⟩,trivial⟩,0,v,es,by omega,rfl,rfl,hBw1.aH o,hfw1.az o,NX.az o,aQ.az aJ o,by rw[List.take_zero,List.flatMap_nil,List.append_nil];exact hes,fO,by omega⟩) ?_
 rintro m L wH ⟨i,v,es,hi,rfl,rfl,GJ,Bi,sD,aQ,hes,fO,zW⟩
 refine ae ?_
 refine VO.read rfl [.slice ph nh ch] rfl (aG (sD.cell (j:=1) rfl)) (wV rfl ?_)
 refine ae ?_
 by_cases hlt:i<nh
 ·obtain⟨x,hx⟩:∃ x,(y.holds)[i]? =some x:=⟨_,List.getElem?_eq_getElem (by rw[<-NU];exact hlt)⟩
  obtain⟨b,off,uG,rfl,hc,dE⟩:=y1.at hx
  obtain⟨s1,p1,n1,c1,t1,uX,m1,d1,rfl,-⟩:=dE
  obtain⟨b0,c0,vs,sp,rfl,nL,da,mG,kV,hle,jS,jM⟩:∃ b0 c0 vs sp,v=.slice (some ⟨b0,0,none⟩) es.length c0/\w.heap.size<=b0/\aL wH b0 9 (vs.flatten++sp).toArray/\cJ (dv) wH es vs/\sp.all bf=true/\es.length<=c0/\c0<=9223372036854775807/\(vs.flatten++sp).length=c0*1:=by
   rcases aQ with ⟨_,dc⟩|⟨b0,c0,vs,sp,h1,h2,h3,h4,h5,h6,h7,h8⟩
   ·rw[dc] at fO;simp at fO
   ·exact⟨b0,c0,vs,sp,h1,h2,h3,h4,h5,h6,h7,h8⟩
  have eS:g1≠b0:=λh=>by rw[h] at Bi;exact absurd (bt Bi da) cH
  have eg:g7≠b0:=λh=>by rw[h] at sD;exact absurd (bt sD da) cH
  refine VS.aU rfl (decide_eq_true (Int.ofNat_lt.2 hlt)) ?_
  refine VS.bI di (λt=>Nat.beq t 23) table (λ_ _ _=>trivial) (λbm jk k1 fG jZ=> ?_)
  have ar:ax wH bm:=fG
  have iu:=GJ.size
  have fL:=ar.size
  have cZ:cM di 150 [b0] [(9,vs.flatten.map .val++sp.map .val)] bm:=by
   refine⟨rfl,by simp,λj g' c' hj hc=> ?_,λc' hc=> ?_,λc' hc k hk=> ?_⟩
   ·match j,hj,hc with
    | 0,hj,hc=>cases hj;cases hc;rw[<-List.map_append,aP];exact da.az ar
    | j+1,hj,_=>simp at hj
   ·cases List.mem_singleton.1 hc
    exact⟨rfl,by rw[<-List.map_append];exact bc (by rw[List.all_append,(mG.ok aJ).1,kV];rfl)⟩
   ·cases List.mem_singleton.1 hc
    rw[<-List.map_append,af] at hk;cases hk
  have qj:bO (dv) 1 bm es.length c0 vs (sp.map .val) es:=⟨rfl,mG.kp aJ (Kp.of (U:=UU) ar),bc kV,af _,hle,jS,by rw[<-List.map_append,List.length_map];exact jM⟩
  refine⟨[b0],[(9,vs.flatten.map .val++sp.map .val)],cZ,[(1,.val (.pointer (some ⟨g1,0,none⟩))),(5,.val (.int .i64 (k:Int))),(6,.val (.pointer (some ⟨g7,0,none⟩))),(3,.row 300 0 es.length c0),(7,.val (.int .i64 (i:Int)))],⟨⟨_,rfl,rfl,λi hi=>(by cases hi)⟩,⟨_,rfl,rfl,λi hi=>(by cases hi)⟩,⟨_,rfl,rfl,λi hi=>(by cases hi)⟩,⟨_,rfl,rfl,λi hi=>by rw[(by simpa [AV.ids] using hi:i=300)];exact⟨(by show 300<=300;omega),(by show 300<2*150+1;omega)⟩⟩,⟨_,rfl,rfl,λi hi=>(by cases hi)⟩,trivial⟩,?_⟩
  have ea:ax w bm:=GJ.aH ar
  have eG:∀ {b off:Nat} {cs:List Value},(∀ (j:Nat) (u:Value),cs[j]? =some u->w.cell? ((⟨b,off,none⟩:Addr).add j)=some u)->∀ (j:Nat) (u:Value),cs[j]? =some u->Cx.At (gV Tryz.prog bm 150 [b0] cZ.nodup cZ.ad) ((⟨b,off,none⟩:Addr).add j) u:=λh j u hj=>aY (λhm=>by
   have:=World.block_lt_of_cell? w _ (h j u hj)
   omega) (ea.cell (h j u hj))
  refine ag ?_
  refine VO.aO rfl [.slice (some ⟨b,off,none⟩) nh ch] rfl (λj u hj=>aY (by rw[Addr.add_mid];exact eg) (aG ((sD.az ar).cell (j:=1) rfl) j u hj)) (wV rfl ?_)
  refine ag ?_
  refine VO.cond rfl cW ?_
  refine wV rfl ?_
  refine ag ?_
  refine VO.aO rfl [.string x.1] rfl (eG (aC hc 0 _ ⟨_,rfl⟩)) (wV rfl ?_)
  refine ag ?_
  refine VO.aO rfl [.slice (some ⟨b,off,none⟩) nh ch] rfl (λj u hj=>aY (by rw[Addr.add_mid];exact eg) (aG ((sD.az ar).cell (j:=1) rfl) j u hj)) (wV rfl ?_)
  refine ag ?_
  refine VO.cond rfl cW ?_
  refine wV rfl ?_
  refine ag ?_
  refine VO.aO rfl [.string x.2.1] rfl (eG (aC hc 1 _ ⟨_,rfl⟩)) (wV rfl ?_)
  refine ag ?_
  have hcs:cJ (dv) bm [x.1,x.2.1] [[.string x.1],[.string x.2.1]]:=.cons rfl (.cons rfl .nil)
  refine VO.tP (bA _ _) aJ (t:=29) (e:=9) (s:=70) (i:=300) (n:=es.length) (c:=c0) (kn:=2) (css:=[[.string x.1],[.string x.2.1]]) (zs:=[x.1,x.2.1]) (vs:=vs) (sp:=sp.map .val) (es:=es) rfl rfl rfl rfl rfl rfl rfl rfl (cr rfl) rfl (.inl rfl) rfl (qj.kp aJ (show aK di bm _ from dz)) rfl (hcs.kp aJ (show aK di bm _ from dz)) rfl aa aa (λgm cap fx ρ vK vL dY dR=>wV rfl ?_)
  refine ag ?_
  refine VS.fq rfl (nh-(i+1)) aa (λw' bn k' o' jx=> ?_)
  have kc:ax w w':=eJ.az ea o'.1 (λx hx=>by rw[List.mem_singleton.1 hx];exact nL)
  have hst:dD (dv) 1 9 71 (.row 71 0 (es.length+2) cap) [(71,(9,_))] gm (es++[x.1,x.2.1]):=.inr ⟨_,cap,_,fx,rfl,rfl,dR⟩
  have eI:=hst.told aJ jx (λx hx=>by cases List.mem_singleton.1 hx;rfl) (show aK di gm w' from k') w.heap.size (λh=>(ba (show ez 150 [b0] bm 71 (bn 71) from h)).elim (λq=>Nat.le_trans iu (Nat.le_trans fL q)) (λq=>by rw[List.mem_singleton.1 q];exact nL))
  refine⟨[(1,.pointer (some ⟨g1,0,none⟩)),(5,.int .i64 (k:Int)),(6,.pointer (some ⟨g7,0,none⟩)),(3,.slice (some ⟨bn 71,0,none⟩) (es.length+2) cap),(7,.int .i64 ((i+1:Nat):Int))],⟨⟨_,_,rfl,rfl,rfl⟩,⟨_,_,rfl,rfl,rfl⟩,⟨_,_,rfl,rfl,rfl⟩,⟨_,_,rfl,rfl,rfl⟩,⟨_,_,rfl,congrArg (λz=>Value.int .i64 z) (ay (i:=i) aa),rfl⟩,trivial⟩,i+1,_,es++[x.1,x.2.1],by omega,rfl,rfl,kc,(Bi.az ar).but o'.1 (by simp[eS]),(sD.az ar).but o'.1 (by simp[eg]),eI,by rw[eF hx,hes,List.append_assoc];rfl,by rw[List.length_append];omega,by rw[List.length_append];show es.length+2<=_;omega⟩
 refine VS.aN rfl (decide_eq_false (λh=>hlt (Int.ofNat_lt.1 h))) ?_
 obtain rfl:nh=i:=by omega
 rw[List.take_of_length_le (by rw[<-NU];exact Nat.le_refl _)] at hes
 refine ae ?_
 refine VS.fY (J:=λm L W=>∃ (i:Nat) (v:Value) (es:List (ByteArray)),i<=nb/\m=nb-i/\L=[(1,.pointer (some ⟨g1,0,none⟩)),(5,.int .i64 (k:Int)),(6,.pointer (some ⟨g7,0,none⟩)),(3,v),(8,.int .i64 (i:Int))]/\ax w W/\aL W g1 32 #[.string f.name,.string f.parent,.slice pB nB cB,.bool sT,.slice pT nT cT,.bool tT,.slice yT mT dT,.bool sC,.slice pC nC cC,.bool tC,.slice yC mC dC,.int .i64 f.bk,.int .i64 f.fw,.bool sI,.slice pI nI cI,.bool tI,.slice yI mI dI,.bool sF,.slice pF nF cF,.bool tF,.slice yF mF dF,.int .i64 f.kp,.slice pc Nc cc,.slice pe Ne ce,.slice (some ⟨BC,BD,none⟩) Ny cy]/\aL W g7 99 #[.int .i64 y.num,.slice ph nh ch,.slice pb nb cb,.slice pd nd cd,.slice ps ns cs,.slice pq nq cq]/\aE (dv) 1 9 w.heap.size W v es/\es=(E0++y.holds.flatMap pD)++((y.cf).take i).flatMap pD/\2<=es.length/\es.length<=(E0.length+80)+2*i)
  (λW=>bj Tryz.prog W 150) (λ_=>rfl) (λ_=>rfl) (λ_=>ax.refl _) nb (λw' β k' o en=>⟨[(1,.pointer (some ⟨g1,0,none⟩)),(5,.int .i64 (k:Int)),(6,.pointer (some ⟨g7,0,none⟩)),(3,v),(8,.int .i64 ((0:Nat):Int))],⟨⟨_,_,rfl,rfl,rfl⟩,⟨_,_,rfl,rfl,rfl⟩,⟨_,_,rfl,rfl,rfl⟩,⟨_,_,rfl,rfl,rfl⟩,⟨_,_,rfl,rfl,rfl⟩,trivial⟩,0,v,es,by omega,rfl,rfl,GJ.aH o,Bi.az o,sD.az o,aQ.az aJ o,by rw[List.take_zero,List.flatMap_nil,List.append_nil];exact hes,fO,by omega⟩) ?_
 rintro m L wK ⟨i,v,es,hi,rfl,rfl,GK,Bj,sE,aQ,hes,fO,zW⟩
 refine ae ?_
 refine VO.read rfl [.slice pb nb cb] rfl (aG (sE.cell (j:=2) rfl)) (wV rfl ?_)
 refine ae ?_
 by_cases hlt:i<nb
 ·obtain⟨x,hx⟩:∃ x,(y.cf)[i]? =some x:=⟨_,List.getElem?_eq_getElem (by rw[<-Aj];exact hlt)⟩
  obtain⟨b,off,uG,rfl,hc,dE⟩:=y2.at hx
  obtain⟨s1,p1,n1,c1,t1,uX,m1,d1,rfl,-⟩:=dE
  obtain⟨b0,c0,vs,sp,rfl,nL,da,mG,kV,hle,jS,jM⟩:∃ b0 c0 vs sp,v=.slice (some ⟨b0,0,none⟩) es.length c0/\w.heap.size<=b0/\aL wK b0 9 (vs.flatten++sp).toArray/\cJ (dv) wK es vs/\sp.all bf=true/\es.length<=c0/\c0<=9223372036854775807/\(vs.flatten++sp).length=c0*1:=by
   rcases aQ with ⟨_,dc⟩|⟨b0,c0,vs,sp,h1,h2,h3,h4,h5,h6,h7,h8⟩
   ·rw[dc] at fO;simp at fO
   ·exact⟨b0,c0,vs,sp,h1,h2,h3,h4,h5,h6,h7,h8⟩
  have eS:g1≠b0:=λh=>by rw[h] at Bj;exact absurd (bt Bj da) cH
  have eg:g7≠b0:=λh=>by rw[h] at sE;exact absurd (bt sE da) cH
  refine VS.aU rfl (decide_eq_true (Int.ofNat_lt.2 hlt)) ?_
  refine VS.bI di (λt=>Nat.beq t 23) table (λ_ _ _=>trivial) (λbm jk k1 fG jZ=> ?_)
  have ar:ax wK bm:=fG
  have iu:=GK.size
  have fL:=ar.size
  have cZ:cM di 150 [b0] [(9,vs.flatten.map .val++sp.map .val)] bm:=by
   refine⟨rfl,by simp,λj g' c' hj hc=> ?_,λc' hc=> ?_,λc' hc k hk=> ?_⟩
   ·match j,hj,hc with
    | 0,hj,hc=>cases hj;cases hc;rw[<-List.map_append,aP];exact da.az ar
    | j+1,hj,_=>simp at hj
   ·cases List.mem_singleton.1 hc
    exact⟨rfl,by rw[<-List.map_append];exact bc (by rw[List.all_append,(mG.ok aJ).1,kV];rfl)⟩
   ·cases List.mem_singleton.1 hc
    rw[<-List.map_append,af] at hk;cases hk
  have qj:bO (dv) 1 bm es.length c0 vs (sp.map .val) es:=⟨rfl,mG.kp aJ (Kp.of (U:=UU) ar),bc kV,af _,hle,jS,by rw[<-List.map_append,List.length_map];exact jM⟩
  refine⟨[b0],[(9,vs.flatten.map .val++sp.map .val)],cZ,[(1,.val (.pointer (some ⟨g1,0,none⟩))),(5,.val (.int .i64 (k:Int))),(6,.val (.pointer (some ⟨g7,0,none⟩))),(3,.row 300 0 es.length c0),(8,.val (.int .i64 (i:Int)))],⟨⟨_,rfl,rfl,λi hi=>(by cases hi)⟩,⟨_,rfl,rfl,λi hi=>(by cases hi)⟩,⟨_,rfl,rfl,λi hi=>(by cases hi)⟩,⟨_,rfl,rfl,λi hi=>by rw[(by simpa [AV.ids] using hi:i=300)];exact⟨(by show 300<=300;omega),(by show 300<2*150+1;omega)⟩⟩,⟨_,rfl,rfl,λi hi=>(by cases hi)⟩,trivial⟩,?_⟩
  have ea:ax w bm:=GK.aH ar
  have eG:∀ {b off:Nat} {cs:List Value},(∀ (j:Nat) (u:Value),cs[j]? =some u->w.cell? ((⟨b,off,none⟩:Addr).add j)=some u)->∀ (j:Nat) (u:Value),cs[j]? =some u->Cx.At (gV Tryz.prog bm 150 [b0] cZ.nodup cZ.ad) ((⟨b,off,none⟩:Addr).add j) u:=λh j u hj=>aY (λhm=>by
   have:=World.block_lt_of_cell? w _ (h j u hj)
   omega) (ea.cell (h j u hj))
  refine ag ?_
  refine VO.aO rfl [.slice (some ⟨b,off,none⟩) nb cb] rfl (λj u hj=>aY (by rw[Addr.add_mid];exact eg) (aG ((sE.az ar).cell (j:=2) rfl) j u hj)) (wV rfl ?_)
  refine ag ?_
  refine VO.cond rfl cW ?_
  refine wV rfl ?_
  refine ag ?_
  refine VO.aO rfl [.string x.1] rfl (eG (aC hc 0 _ ⟨_,rfl⟩)) (wV rfl ?_)
  refine ag ?_
  refine VO.aO rfl [.slice (some ⟨b,off,none⟩) nb cb] rfl (λj u hj=>aY (by rw[Addr.add_mid];exact eg) (aG ((sE.az ar).cell (j:=2) rfl) j u hj)) (wV rfl ?_)
  refine ag ?_
  refine VO.cond rfl cW ?_
  refine wV rfl ?_
  refine ag ?_
  refine VO.aO rfl [.string x.2.1] rfl (eG (aC hc 1 _ ⟨_,rfl⟩)) (wV rfl ?_)
  refine ag ?_
  have hcs:cJ (dv) bm [x.1,x.2.1] [[.string x.1],[.string x.2.1]]:=.cons rfl (.cons rfl .nil)
  refine VO.tP (bA _ _) aJ (t:=29) (e:=9) (s:=92) (i:=300) (n:=es.length) (c:=c0) (kn:=2) (css:=[[.string x.1],[.string x.2.1]]) (zs:=[x.1,x.2.1]) (vs:=vs) (sp:=sp.map .val) (es:=es) rfl rfl rfl rfl rfl rfl rfl rfl (cr rfl) rfl (.inl rfl) rfl (qj.kp aJ (show aK di bm _ from dz)) rfl (hcs.kp aJ (show aK di bm _ from dz)) rfl aa aa (λgm cap fx ρ vK vL dY dR=>wV rfl ?_)
  refine ag ?_
  refine VS.fq rfl (nb-(i+1)) aa (λw' bn k' o' jx=> ?_)
  have kc:ax w w':=eJ.az ea o'.1 (λx hx=>by rw[List.mem_singleton.1 hx];exact nL)
  have hst:dD (dv) 1 9 93 (.row 93 0 (es.length+2) cap) [(93,(9,_))] gm (es++[x.1,x.2.1]):=.inr ⟨_,cap,_,fx,rfl,rfl,dR⟩
  have eI:=hst.told aJ jx (λx hx=>by cases List.mem_singleton.1 hx;rfl) (show aK di gm w' from k') w.heap.size (λh=>(ba (show ez 150 [b0] bm 93 (bn 93) from h)).elim (λq=>Nat.le_trans iu (Nat.le_trans fL q)) (λq=>by rw[List.mem_singleton.1 q];exact nL))
  refine⟨[(1,.pointer (some ⟨g1,0,none⟩)),(5,.int .i64 (k:Int)),(6,.pointer (some ⟨g7,0,none⟩)),(3,.slice (some ⟨bn 93,0,none⟩) (es.length+2) cap),(8,.int .i64 ((i+1:Nat):Int))],⟨⟨_,_,rfl,rfl,rfl⟩,⟨_,_,rfl,rfl,rfl⟩,⟨_,_,rfl,rfl,rfl⟩,⟨_,_,rfl,rfl,rfl⟩,⟨_,_,rfl,congrArg (λz=>Value.int .i64 z) (ay (i:=i) aa),rfl⟩,trivial⟩,i+1,_,es++[x.1,x.2.1],by omega,rfl,rfl,kc,(Bj.az ar).but o'.1 (by simp[eS]),(sE.az ar).but o'.1 (by simp[eg]),eI,by rw[eF hx,hes,List.append_assoc];rfl,by rw[List.length_append];omega,by rw[List.length_append];show es.length+2<=_;omega⟩
 refine VS.aN rfl (decide_eq_false (λh=>hlt (Int.ofNat_lt.1 h))) ?_
 obtain rfl:nb=i:=by omega
 rw[List.take_of_length_le (by rw[<-Aj];exact Nat.le_refl _)] at hes
 refine ae ?_
 refine VS.fY (J:=λm L W=>∃ (i:Nat) (v:Value) (es:List (ByteArray)),i<=nd/\m=nd-i/\L=[(1,.pointer (some ⟨g1,0,none⟩)),(5,.int .i64 (k:Int)),(6,.pointer (some ⟨g7,0,none⟩)),(3,v),(9,.int .i64 (i:Int))]/\ax w W/\aL W g1 32 #[.string f.name,.string f.parent,.slice pB nB cB,.bool sT,.slice pT nT cT,.bool tT,.slice yT mT dT,.bool sC,.slice pC nC cC,.bool tC,.slice yC mC dC,.int .i64 f.bk,.int .i64 f.fw,.bool sI,.slice pI nI cI,.bool tI,.slice yI mI dI,.bool sF,.slice pF nF cF,.bool tF,.slice yF mF dF,.int .i64 f.kp,.slice pc Nc cc,.slice pe Ne ce,.slice (some ⟨BC,BD,none⟩) Ny cy]/\aL W g7 99 #[.int .i64 y.num,.slice ph nh ch,.slice pb nb cb,.slice pd nd cd,.slice ps ns cs,.slice pq nq cq]/\aE (dv) 1 9 w.heap.size W v es/\es=(E0++y.holds.flatMap pD++y.cf.flatMap pD)++((y.dG).take i).flatMap IL/\2<=es.length/\es.length<=(E0.length+160)+4*i)
  (λW=>bj Tryz.prog W 150) (λ_=>rfl) (λ_=>rfl) (λ_=>ax.refl _) nd (λw' β k' o en=>⟨[(1,.pointer (some ⟨g1,0,none⟩)),(5,.int .i64 (k:Int)),(6,.pointer (some ⟨g7,0,none⟩)),(3,v),(9,.int .i64 ((0:Nat):Int))],⟨⟨_,_,rfl,rfl,rfl⟩,⟨_,_,rfl,rfl,rfl⟩,⟨_,_,rfl,rfl,rfl⟩,⟨_,_,rfl,rfl,rfl⟩,⟨_,_,rfl,rfl,rfl⟩,trivial⟩,0,v,es,by omega,rfl,rfl,GK.aH o,Bj.az o,sE.az o,aQ.az aJ o,by rw[List.take_zero,List.flatMap_nil,List.append_nil];exact hes,fO,by omega⟩) ?_
 rintro m L wD ⟨i,v,es,hi,rfl,rfl,GL,Bk,tR,aQ,hes,fO,zW⟩
 refine ae ?_
 refine VO.read rfl [.slice pd nd cd] rfl (aG (tR.cell (j:=3) rfl)) (wV rfl ?_)
 refine ae ?_
 by_cases hlt:i<nd
 ·obtain⟨x,hx⟩:∃ x,(y.dG)[i]? =some x:=⟨_,List.getElem?_eq_getElem (by rw[<-Ll];exact hlt)⟩
  obtain⟨b,off,uG,rfl,hc,dE⟩:=y3.at hx
  obtain⟨s1,p1,n1,c1,t1,uX,m1,d1,rfl,-⟩:=dE
  obtain⟨b0,c0,vs,sp,rfl,nL,da,mG,kV,hle,jS,jM⟩:∃ b0 c0 vs sp,v=.slice (some ⟨b0,0,none⟩) es.length c0/\w.heap.size<=b0/\aL wD b0 9 (vs.flatten++sp).toArray/\cJ (dv) wD es vs/\sp.all bf=true/\es.length<=c0/\c0<=9223372036854775807/\(vs.flatten++sp).length=c0*1:=by
   rcases aQ with ⟨_,dc⟩|⟨b0,c0,vs,sp,h1,h2,h3,h4,h5,h6,h7,h8⟩
   ·rw[dc] at fO;simp at fO
   ·exact⟨b0,c0,vs,sp,h1,h2,h3,h4,h5,h6,h7,h8⟩
  have eS:g1≠b0:=λh=>by rw[h] at Bk;exact absurd (bt Bk da) cH
  have eg:g7≠b0:=λh=>by rw[h] at tR;exact absurd (bt tR da) cH
  refine VS.aU rfl (decide_eq_true (Int.ofNat_lt.2 hlt)) ?_
  refine VS.bI di (λt=>Nat.beq t 23) table (λ_ _ _=>trivial) (λbm jk k1 fG jZ=> ?_)
  have ar:ax wD bm:=fG
  have iu:=GL.size
  have fL:=ar.size
  have cZ:cM di 150 [b0] [(9,vs.flatten.map .val++sp.map .val)] bm:=by
   refine⟨rfl,by simp,λj g' c' hj hc=> ?_,λc' hc=> ?_,λc' hc k hk=> ?_⟩
   ·match j,hj,hc with
    | 0,hj,hc=>cases hj;cases hc;rw[<-List.map_append,aP];exact da.az ar
    | j+1,hj,_=>simp at hj
   ·cases List.mem_singleton.1 hc
    exact⟨rfl,by rw[<-List.map_append];exact bc (by rw[List.all_append,(mG.ok aJ).1,kV];rfl)⟩
   ·cases List.mem_singleton.1 hc
    rw[<-List.map_append,af] at hk;cases hk
  have qj:bO (dv) 1 bm es.length c0 vs (sp.map .val) es:=⟨rfl,mG.kp aJ (Kp.of (U:=UU) ar),bc kV,af _,hle,jS,by rw[<-List.map_append,List.length_map];exact jM⟩
  refine⟨[b0],[(9,vs.flatten.map .val++sp.map .val)],cZ,[(1,.val (.pointer (some ⟨g1,0,none⟩))),(5,.val (.int .i64 (k:Int))),(6,.val (.pointer (some ⟨g7,0,none⟩))),(3,.row 300 0 es.length c0),(9,.val (.int .i64 (i:Int)))],⟨⟨_,rfl,rfl,λi hi=>(by cases hi)⟩,⟨_,rfl,rfl,λi hi=>(by cases hi)⟩,⟨_,rfl,rfl,λi hi=>(by cases hi)⟩,⟨_,rfl,rfl,λi hi=>by rw[(by simpa [AV.ids] using hi:i=300)];exact⟨(by show 300<=300;omega),(by show 300<2*150+1;omega)⟩⟩,⟨_,rfl,rfl,λi hi=>(by cases hi)⟩,trivial⟩,?_⟩
  have ea:ax w bm:=GL.aH ar
  have eG:∀ {b off:Nat} {cs:List Value},(∀ (j:Nat) (u:Value),cs[j]? =some u->w.cell? ((⟨b,off,none⟩:Addr).add j)=some u)->∀ (j:Nat) (u:Value),cs[j]? =some u->Cx.At (gV Tryz.prog bm 150 [b0] cZ.nodup cZ.ad) ((⟨b,off,none⟩:Addr).add j) u:=λh j u hj=>aY (λhm=>by
   have:=World.block_lt_of_cell? w _ (h j u hj)
   omega) (ea.cell (h j u hj))
  refine ag ?_
  refine VO.aO rfl [.slice (some ⟨b,off,none⟩) nd cd] rfl (λj u hj=>aY (by rw[Addr.add_mid];exact eg) (aG ((tR.az ar).cell (j:=3) rfl) j u hj)) (wV rfl ?_)
  refine ag ?_
  refine VO.cond rfl cW ?_
  refine wV rfl ?_
  refine ag ?_
  refine VO.aO rfl [.bool x.Ex,.string x.id,.int .u8 (x.kind:Int),.string x.kO,.string x.kP,.string x.cls,.bool s1,.slice p1 n1 c1,.bool t1,.slice uX m1 d1] rfl (eG (aC hc 0 _ ⟨[],rfl⟩)) (wV rfl ?_)
  refine ag ?_
  have hcs:cJ (dv) bm [x.id,x.kO,x.kP,x.cls] [[.string x.id],[.string x.kO],[.string x.kP],[.string x.cls]]:=.cons rfl (.cons rfl (.cons rfl (.cons rfl .nil)))
  refine VO.tP (bA _ _) aJ (t:=29) (e:=9) (s:=115) (i:=300) (n:=es.length) (c:=c0) (kn:=4) (css:=[[.string x.id],[.string x.kO],[.string x.kP],[.string x.cls]]) (zs:=[x.id,x.kO,x.kP,x.cls]) (vs:=vs) (sp:=sp.map .val) (es:=es) rfl rfl rfl rfl rfl rfl rfl rfl (cr rfl) rfl (.inl rfl) rfl (qj.kp aJ (show aK di bm _ from dz)) rfl (hcs.kp aJ (show aK di bm _ from dz)) rfl aa aa (λgm cap fx ρ vK vL dY dR=>wV rfl ?_)
  refine ag ?_
  refine VS.fq rfl (nd-(i+1)) aa (λw' bn k' o' jx=> ?_)
  have kc:ax w w':=eJ.az ea o'.1 (λx hx=>by rw[List.mem_singleton.1 hx];exact nL)
  have hst:dD (dv) 1 9 116 (.row 116 0 (es.length+4) cap) [(116,(9,_))] gm (es++[x.id,x.kO,x.kP,x.cls]):=.inr ⟨_,cap,_,fx,rfl,rfl,dR⟩
  have eI:=hst.told aJ jx (λx hx=>by cases List.mem_singleton.1 hx;rfl) (show aK di gm w' from k') w.heap.size (λh=>(ba (show ez 150 [b0] bm 116 (bn 116) from h)).elim (λq=>Nat.le_trans iu (Nat.le_trans fL q)) (λq=>by rw[List.mem_singleton.1 q];exact nL))
  refine⟨[(1,.pointer (some ⟨g1,0,none⟩)),(5,.int .i64 (k:Int)),(6,.pointer (some ⟨g7,0,none⟩)),(3,.slice (some ⟨bn 116,0,none⟩) (es.length+4) cap),(9,.int .i64 ((i+1:Nat):Int))],⟨⟨_,_,rfl,rfl,rfl⟩,⟨_,_,rfl,rfl,rfl⟩,⟨_,_,rfl,rfl,rfl⟩,⟨_,_,rfl,rfl,rfl⟩,⟨_,_,rfl,congrArg (λz=>Value.int .i64 z) (ay (i:=i) aa),rfl⟩,trivial⟩,i+1,_,es++[x.id,x.kO,x.kP,x.cls],by omega,rfl,rfl,kc,(Bk.az ar).but o'.1 (by simp[eS]),(tR.az ar).but o'.1 (by simp[eg]),eI,by rw[eF hx,hes,List.append_assoc];rfl,by rw[List.length_append];omega,by rw[List.length_append];show es.length+4<=_;omega⟩
 refine VS.aN rfl (decide_eq_false (λh=>hlt (Int.ofNat_lt.1 h))) ?_
 obtain rfl:nd=i:=by omega
 rw[List.take_of_length_le (by rw[<-Ll];exact Nat.le_refl _)] at hes
 refine ae ?_
 refine VS.fY (J:=λm L W=>∃ (i:Nat) (v:Value) (es:List (ByteArray)),i<=ns/\m=ns-i/\L=[(1,.pointer (some ⟨g1,0,none⟩)),(5,.int .i64 (k:Int)),(6,.pointer (some ⟨g7,0,none⟩)),(3,v),(11,.int .i64 (i:Int))]/\ax w W/\aL W g1 32 #[.string f.name,.string f.parent,.slice pB nB cB,.bool sT,.slice pT nT cT,.bool tT,.slice yT mT dT,.bool sC,.slice pC nC cC,.bool tC,.slice yC mC dC,.int .i64 f.bk,.int .i64 f.fw,.bool sI,.slice pI nI cI,.bool tI,.slice yI mI dI,.bool sF,.slice pF nF cF,.bool tF,.slice yF mF dF,.int .i64 f.kp,.slice pc Nc cc,.slice pe Ne ce,.slice (some ⟨BC,BD,none⟩) Ny cy]/\aL W g7 99 #[.int .i64 y.num,.slice ph nh ch,.slice pb nb cb,.slice pd nd cd,.slice ps ns cs,.slice pq nq cq]/\aE (dv) 1 9 w.heap.size W v es/\es=(E0++y.holds.flatMap pD++y.cf.flatMap pD++y.dG.flatMap IL)++((y.dp).take i).flatMap NY/\2<=es.length/\es.length<=(E0.length+320)+1*i)
  (λW=>bj Tryz.prog W 150) (λ_=>rfl) (λ_=>rfl) (λ_=>ax.refl _) ns (λw' β k' o en=>⟨[(1,.pointer (some ⟨g1,0,none⟩)),(5,.int .i64 (k:Int)),(6,.pointer (some ⟨g7,0,none⟩)),(3,v),(11,.int .i64 ((0:Nat):Int))],⟨⟨_,_,rfl,rfl,rfl⟩,⟨_,_,rfl,rfl,rfl⟩,⟨_,_,rfl,rfl,rfl⟩,⟨_,_,rfl,rfl,rfl⟩,⟨_,_,rfl,rfl,rfl⟩,trivial⟩,0,v,es,by omega,rfl,rfl,GL.aH o,Bk.az o,tR.az o,aQ.az aJ o,by rw[List.take_zero,List.flatMap_nil,List.append_nil];exact hes,fO,by omega⟩) ?_
 rintro m L wS ⟨i,v,es,hi,rfl,rfl,GM,Bl,sG,aQ,hes,fO,zW⟩
 refine ae ?_
 refine VO.read rfl [.slice ps ns cs] rfl (aG (sG.cell (j:=4) rfl)) (wV rfl ?_)
 refine ae ?_
 by_cases hlt:i<ns
 ·obtain⟨x,hx⟩:∃ x,(y.dp)[i]? =some x:=⟨_,List.getElem?_eq_getElem (by rw[<-NV];exact hlt)⟩
  obtain⟨b,off,uG,rfl,hc,dE⟩:=y4.at hx
  obtain⟨s1,p1,n1,c1,t1,uX,m1,d1,s2,p2,n2,c2,t2,y2',m2,d2,rfl,-⟩:=dE
  obtain⟨b0,c0,vs,sp,rfl,nL,da,mG,kV,hle,jS,jM⟩:∃ b0 c0 vs sp,v=.slice (some ⟨b0,0,none⟩) es.length c0/\w.heap.size<=b0/\aL wS b0 9 (vs.flatten++sp).toArray/\cJ (dv) wS es vs/\sp.all bf=true/\es.length<=c0/\c0<=9223372036854775807/\(vs.flatten++sp).length=c0*1:=by
   rcases aQ with ⟨_,dc⟩|⟨b0,c0,vs,sp,h1,h2,h3,h4,h5,h6,h7,h8⟩
   ·rw[dc] at fO;simp at fO
   ·exact⟨b0,c0,vs,sp,h1,h2,h3,h4,h5,h6,h7,h8⟩
  have eS:g1≠b0:=λh=>by rw[h] at Bl;exact absurd (bt Bl da) cH
  have eg:g7≠b0:=λh=>by rw[h] at sG;exact absurd (bt sG da) cH
  refine VS.aU rfl (decide_eq_true (Int.ofNat_lt.2 hlt)) ?_
  refine VS.bI di (λt=>Nat.beq t 23) table (λ_ _ _=>trivial) (λbm jk k1 fG jZ=> ?_)
  have ar:ax wS bm:=fG
  have iu:=GM.size
  have fL:=ar.size
  have cZ:cM di 150 [b0] [(9,vs.flatten.map .val++sp.map .val)] bm:=by
   refine⟨rfl,by simp,λj g' c' hj hc=> ?_,λc' hc=> ?_,λc' hc k hk=> ?_⟩
   ·match j,hj,hc with
    | 0,hj,hc=>cases hj;cases hc;rw[<-List.map_append,aP];exact da.az ar
    | j+1,hj,_=>simp at hj
   ·cases List.mem_singleton.1 hc
    exact⟨rfl,by rw[<-List.map_append];exact bc (by rw[List.all_append,(mG.ok aJ).1,kV];rfl)⟩
   ·cases List.mem_singleton.1 hc
    rw[<-List.map_append,af] at hk;cases hk
  have qj:bO (dv) 1 bm es.length c0 vs (sp.map .val) es:=⟨rfl,mG.kp aJ (Kp.of (U:=UU) ar),bc kV,af _,hle,jS,by rw[<-List.map_append,List.length_map];exact jM⟩
  refine⟨[b0],[(9,vs.flatten.map .val++sp.map .val)],cZ,[(1,.val (.pointer (some ⟨g1,0,none⟩))),(5,.val (.int .i64 (k:Int))),(6,.val (.pointer (some ⟨g7,0,none⟩))),(3,.row 300 0 es.length c0),(11,.val (.int .i64 (i:Int)))],⟨⟨_,rfl,rfl,λi hi=>(by cases hi)⟩,⟨_,rfl,rfl,λi hi=>(by cases hi)⟩,⟨_,rfl,rfl,λi hi=>(by cases hi)⟩,⟨_,rfl,rfl,λi hi=>by rw[(by simpa [AV.ids] using hi:i=300)];exact⟨(by show 300<=300;omega),(by show 300<2*150+1;omega)⟩⟩,⟨_,rfl,rfl,λi hi=>(by cases hi)⟩,trivial⟩,?_⟩
  have ea:ax w bm:=GM.aH ar
  have eG:∀ {b off:Nat} {cs:List Value},(∀ (j:Nat) (u:Value),cs[j]? =some u->w.cell? ((⟨b,off,none⟩:Addr).add j)=some u)->∀ (j:Nat) (u:Value),cs[j]? =some u->Cx.At (gV Tryz.prog bm 150 [b0] cZ.nodup cZ.ad) ((⟨b,off,none⟩:Addr).add j) u:=λh j u hj=>aY (λhm=>by
   have:=World.block_lt_of_cell? w _ (h j u hj)
   omega) (ea.cell (h j u hj))
  refine ag ?_
  refine VO.aO rfl [.slice (some ⟨b,off,none⟩) ns cs] rfl (λj u hj=>aY (by rw[Addr.add_mid];exact eg) (aG ((sG.az ar).cell (j:=4) rfl) j u hj)) (wV rfl ?_)
  refine ag ?_
  refine VO.cond rfl cW ?_
  refine wV rfl ?_
  refine ag ?_
  refine VO.aO rfl [.string x.1] rfl (eG (aC hc 0 _ ⟨_,rfl⟩)) (wV rfl ?_)
  refine ag ?_
  have hcs:cJ (dv) bm [x.1] [[.string x.1]]:=.cons rfl .nil
  refine VO.tP (bA _ _) aJ (t:=29) (e:=9) (s:=131) (i:=300) (n:=es.length) (c:=c0) (kn:=1) (css:=[[.string x.1]]) (zs:=[x.1]) (vs:=vs) (sp:=sp.map .val) (es:=es) rfl rfl rfl rfl rfl rfl rfl rfl (cr rfl) rfl (.inl rfl) rfl (qj.kp aJ (show aK di bm _ from dz)) rfl (hcs.kp aJ (show aK di bm _ from dz)) rfl aa aa (λgm cap fx ρ vK vL dY dR=>wV rfl ?_)
  refine ag ?_
  refine VS.fq rfl (ns-(i+1)) aa (λw' bn k' o' jx=> ?_)
  have kc:ax w w':=eJ.az ea o'.1 (λx hx=>by rw[List.mem_singleton.1 hx];exact nL)
  have hst:dD (dv) 1 9 132 (.row 132 0 (es.length+1) cap) [(132,(9,_))] gm (es++[x.1]):=.inr ⟨_,cap,_,fx,rfl,rfl,dR⟩
  have eI:=hst.told aJ jx (λx hx=>by cases List.mem_singleton.1 hx;rfl) (show aK di gm w' from k') w.heap.size (λh=>(ba (show ez 150 [b0] bm 132 (bn 132) from h)).elim (λq=>Nat.le_trans iu (Nat.le_trans fL q)) (λq=>by rw[List.mem_singleton.1 q];exact nL))
  refine⟨[(1,.pointer (some ⟨g1,0,none⟩)),(5,.int .i64 (k:Int)),(6,.pointer (some ⟨g7,0,none⟩)),(3,.slice (some ⟨bn 132,0,none⟩) (es.length+1) cap),(11,.int .i64 ((i+1:Nat):Int))],⟨⟨_,_,rfl,rfl,rfl⟩,⟨_,_,rfl,rfl,rfl⟩,⟨_,_,rfl,rfl,rfl⟩,⟨_,_,rfl,rfl,rfl⟩,⟨_,_,rfl,congrArg (λz=>Value.int .i64 z) (ay (i:=i) aa),rfl⟩,trivial⟩,i+1,_,es++[x.1],by omega,rfl,rfl,kc,(Bl.az ar).but o'.1 (by simp[eS]),(sG.az ar).but o'.1 (by simp[eg]),eI,by rw[eF hx,hes,List.append_assoc];rfl,by rw[List.length_append];omega,by rw[List.length_append];show es.length+1<=_;omega⟩
 refine VS.aN rfl (decide_eq_false (λh=>hlt (Int.ofNat_lt.1 h))) ?_
 obtain rfl:ns=i:=by omega
 rw[List.take_of_length_le (by rw[<-NV];exact Nat.le_refl _)] at hes
 refine ae ?_
 refine VS.fY (J:=λm L W=>∃ (i:Nat) (v:Value) (es:List (ByteArray)),i<=nq/\m=nq-i/\L=[(1,.pointer (some ⟨g1,0,none⟩)),(5,.int .i64 (k:Int)),(6,.pointer (some ⟨g7,0,none⟩)),(3,v),(12,.int .i64 (i:Int))]/\ax w W/\aL W g1 32 #[.string f.name,.string f.parent,.slice pB nB cB,.bool sT,.slice pT nT cT,.bool tT,.slice yT mT dT,.bool sC,.slice pC nC cC,.bool tC,.slice yC mC dC,.int .i64 f.bk,.int .i64 f.fw,.bool sI,.slice pI nI cI,.bool tI,.slice yI mI dI,.bool sF,.slice pF nF cF,.bool tF,.slice yF mF dF,.int .i64 f.kp,.slice pc Nc cc,.slice pe Ne ce,.slice (some ⟨BC,BD,none⟩) Ny cy]/\aL W g7 99 #[.int .i64 y.num,.slice ph nh ch,.slice pb nb cb,.slice pd nd cd,.slice ps ns cs,.slice pq nq cq]/\aE (dv) 1 9 w.heap.size W v es/\es=(E0++y.holds.flatMap pD++y.cf.flatMap pD++y.dG.flatMap IL++y.dp.flatMap NY)++((y.gf).take i).flatMap sdTxt/\2<=es.length/\es.length<=(E0.length+360)+1*i)
  (λW=>bj Tryz.prog W 150) (λ_=>rfl) (λ_=>rfl) (λ_=>ax.refl _) nq (λw' β k' o en=>⟨[(1,.pointer (some ⟨g1,0,none⟩)),(5,.int .i64 (k:Int)),(6,.pointer (some ⟨g7,0,none⟩)),(3,v),(12,.int .i64 ((0:Nat):Int))],⟨⟨_,_,rfl,rfl,rfl⟩,⟨_,_,rfl,rfl,rfl⟩,⟨_,_,rfl,rfl,rfl⟩,⟨_,_,rfl,rfl,rfl⟩,⟨_,_,rfl,rfl,rfl⟩,trivial⟩,0,v,es,by omega,rfl,rfl,GM.aH o,Bl.az o,sG.az o,aQ.az aJ o,by rw[List.take_zero,List.flatMap_nil,List.append_nil];exact hes,fO,by omega⟩) ?_
 rintro m L wQ ⟨i,v,es,hi,rfl,rfl,GN,Bm,xZ,aQ,hes,fO,zW⟩
 refine ae ?_
 refine VO.read rfl [.slice pq nq cq] rfl (aG (xZ.cell (j:=5) rfl)) (wV rfl ?_)
 refine ae ?_
 by_cases hlt:i<nq
 ·obtain⟨x,hx⟩:∃ x,(y.gf)[i]? =some x:=⟨_,List.getElem?_eq_getElem (by rw[<-NW];exact hlt)⟩
  obtain⟨b,off,uG,rfl,hc,dE⟩:=y5.at hx
  obtain⟨s1,p1,n1,c1,t1,uX,m1,d1,rfl,-⟩:=dE
  obtain⟨b0,c0,vs,sp,rfl,nL,da,mG,kV,hle,jS,jM⟩:∃ b0 c0 vs sp,v=.slice (some ⟨b0,0,none⟩) es.length c0/\w.heap.size<=b0/\aL wQ b0 9 (vs.flatten++sp).toArray/\cJ (dv) wQ es vs/\sp.all bf=true/\es.length<=c0/\c0<=9223372036854775807/\(vs.flatten++sp).length=c0*1:=by
   rcases aQ with ⟨_,dc⟩|⟨b0,c0,vs,sp,h1,h2,h3,h4,h5,h6,h7,h8⟩
   ·rw[dc] at fO;simp at fO
   ·exact⟨b0,c0,vs,sp,h1,h2,h3,h4,h5,h6,h7,h8⟩
  have eS:g1≠b0:=λh=>by rw[h] at Bm;exact absurd (bt Bm da) cH
  have eg:g7≠b0:=λh=>by rw[h] at xZ;exact absurd (bt xZ da) cH
  refine VS.aU rfl (decide_eq_true (Int.ofNat_lt.2 hlt)) ?_
  refine VS.bI di (λt=>Nat.beq t 23) table (λ_ _ _=>trivial) (λbm jk k1 fG jZ=> ?_)
  have ar:ax wQ bm:=fG
  have iu:=GN.size
  have fL:=ar.size
  have cZ:cM di 150 [b0] [(9,vs.flatten.map .val++sp.map .val)] bm:=by
   refine⟨rfl,by simp,λj g' c' hj hc=> ?_,λc' hc=> ?_,λc' hc k hk=> ?_⟩
   ·match j,hj,hc with
    | 0,hj,hc=>cases hj;cases hc;rw[<-List.map_append,aP];exact da.az ar
    | j+1,hj,_=>simp at hj
   ·cases List.mem_singleton.1 hc
    exact⟨rfl,by rw[<-List.map_append];exact bc (by rw[List.all_append,(mG.ok aJ).1,kV];rfl)⟩
   ·cases List.mem_singleton.1 hc
    rw[<-List.map_append,af] at hk;cases hk
  have qj:bO (dv) 1 bm es.length c0 vs (sp.map .val) es:=⟨rfl,mG.kp aJ (Kp.of (U:=UU) ar),bc kV,af _,hle,jS,by rw[<-List.map_append,List.length_map];exact jM⟩
  refine⟨[b0],[(9,vs.flatten.map .val++sp.map .val)],cZ,[(1,.val (.pointer (some ⟨g1,0,none⟩))),(5,.val (.int .i64 (k:Int))),(6,.val (.pointer (some ⟨g7,0,none⟩))),(3,.row 300 0 es.length c0),(12,.val (.int .i64 (i:Int)))],⟨⟨_,rfl,rfl,λi hi=>(by cases hi)⟩,⟨_,rfl,rfl,λi hi=>(by cases hi)⟩,⟨_,rfl,rfl,λi hi=>(by cases hi)⟩,⟨_,rfl,rfl,λi hi=>by rw[(by simpa [AV.ids] using hi:i=300)];exact⟨(by show 300<=300;omega),(by show 300<2*150+1;omega)⟩⟩,⟨_,rfl,rfl,λi hi=>(by cases hi)⟩,trivial⟩,?_⟩
  have ea:ax w bm:=GN.aH ar
  have eG:∀ {b off:Nat} {cs:List Value},(∀ (j:Nat) (u:Value),cs[j]? =some u->w.cell? ((⟨b,off,none⟩:Addr).add j)=some u)->∀ (j:Nat) (u:Value),cs[j]? =some u->Cx.At (gV Tryz.prog bm 150 [b0] cZ.nodup cZ.ad) ((⟨b,off,none⟩:Addr).add j) u:=λh j u hj=>aY (λhm=>by
   have:=World.block_lt_of_cell? w _ (h j u hj)
   omega) (ea.cell (h j u hj))
  refine ag ?_
  refine VO.aO rfl [.slice (some ⟨b,off,none⟩) nq cq] rfl (λj u hj=>aY (by rw[Addr.add_mid];exact eg) (aG ((xZ.az ar).cell (j:=5) rfl) j u hj)) (wV rfl ?_)
  refine ag ?_
  refine VO.cond rfl cW ?_
  refine wV rfl ?_
  refine ag ?_
  refine VO.aO rfl [.string x.1] rfl (eG (aC hc 0 _ ⟨_,rfl⟩)) (wV rfl ?_)
  refine ag ?_
  have hcs:cJ (dv) bm [x.1] [[.string x.1]]:=.cons rfl .nil
  refine VO.tP (bA _ _) aJ (t:=29) (e:=9) (s:=147) (i:=300) (n:=es.length) (c:=c0) (kn:=1) (css:=[[.string x.1]]) (zs:=[x.1]) (vs:=vs) (sp:=sp.map .val) (es:=es) rfl rfl rfl rfl rfl rfl rfl rfl (cr rfl) rfl (.inl rfl) rfl (qj.kp aJ (show aK di bm _ from dz)) rfl (hcs.kp aJ (show aK di bm _ from dz)) rfl aa aa (λgm cap fx ρ vK vL dY dR=>wV rfl ?_)
  refine ag ?_
  refine VS.fq rfl (nq-(i+1)) aa (λw' bn k' o' jx=> ?_)
  have kc:ax w w':=eJ.az ea o'.1 (λx hx=>by rw[List.mem_singleton.1 hx];exact nL)
  have hst:dD (dv) 1 9 148 (.row 148 0 (es.length+1) cap) [(148,(9,_))] gm (es++[x.1]):=.inr ⟨_,cap,_,fx,rfl,rfl,dR⟩
  have eI:=hst.told aJ jx (λx hx=>by cases List.mem_singleton.1 hx;rfl) (show aK di gm w' from k') w.heap.size (λh=>(ba (show ez 150 [b0] bm 148 (bn 148) from h)).elim (λq=>Nat.le_trans iu (Nat.le_trans fL q)) (λq=>by rw[List.mem_singleton.1 q];exact nL))
  refine⟨[(1,.pointer (some ⟨g1,0,none⟩)),(5,.int .i64 (k:Int)),(6,.pointer (some ⟨g7,0,none⟩)),(3,.slice (some ⟨bn 148,0,none⟩) (es.length+1) cap),(12,.int .i64 ((i+1:Nat):Int))],⟨⟨_,_,rfl,rfl,rfl⟩,⟨_,_,rfl,rfl,rfl⟩,⟨_,_,rfl,rfl,rfl⟩,⟨_,_,rfl,rfl,rfl⟩,⟨_,_,rfl,congrArg (λz=>Value.int .i64 z) (ay (i:=i) aa),rfl⟩,trivial⟩,i+1,_,es++[x.1],by omega,rfl,rfl,kc,(Bm.az ar).but o'.1 (by simp[eS]),(xZ.az ar).but o'.1 (by simp[eg]),eI,by rw[eF hx,hes,List.append_assoc];rfl,by rw[List.length_append];omega,by rw[List.length_append];show es.length+1<=_;omega⟩
 refine VS.aN rfl (decide_eq_false (λh=>hlt (Int.ofNat_lt.1 h))) ?_
 obtain rfl:nq=i:=by omega
 rw[List.take_of_length_le (by rw[<-NW];exact Nat.le_refl _)] at hes
 refine ae ?_
 refine ae ?_
 refine VS.fq rfl (Ny-(k+1)) aa (λw' bn k' o' jx=> ?_)
 refine⟨[(1,.pointer (some ⟨g1,0,none⟩)),(3,v),(5,.int .i64 ((k+1:Nat):Int))],⟨⟨_,_,rfl,rfl,rfl⟩,⟨_,_,rfl,rfl,rfl⟩,⟨_,_,rfl,congrArg (λz=>Value.int .i64 z) (ay (i:=k) aa),rfl⟩,trivial⟩,k+1,v,es,by omega,rfl,rfl,GN.aH o',Bm.az o',aQ.az aJ o',?_,fO,by omega⟩
 rw[eF hy,hes,hesE]
 unfold IM
 simp only[List.append_assoc]
set_option maxRecDepth 4000
abbrev TFew:TypeId->Bool:=λt=>(Nat.beq t 27 || Nat.beq t 9)
abbrev KB (P:Program) (w:World) (N:Nat):Cx:={ P:=P,w0:=w,N:=N,K:=⟨UU,λ_=>True,λt=>(Nat.beq t 27 || Nat.beq t 9)⟩,SU:=λt=>Nat.beq t 23,ti:=table,keep:=λ_ _=>trivial }
theorem gQ (w:World) (N:Nat):(KB Tryz.prog w N).Ok:=eD
section
variable {F F':Fr} {H H':Hp} {w w1:World} {N:Nat} {l':List Oper} {Q:Exit->Act->World->Prop} {k:List It} {id:Nat} {ops:Array Oper}
theorem cxR4_r (e:im (KB Tryz.prog w1 N) ops 80 ops.toList F H=(l',F',H')) (h:aB (KB Tryz.prog w1 N) none ops l' (VS (KB Tryz.prog w1 N) Q k) F' H' w):VS (KB Tryz.prog w1 N) Q (.code (.region id ops false)::k) F H w:=VS.region (gQ _ _) (VO.run 80 e h)
end
def FewP (f:iU):Prop:=NR f/\(∀ x∈iV f,six x)/\∀ x∈NZ f,x.size<=70
theorem dK {P Q:Prop} (h:Q) (i:Q->P:=by intro h;(repeat first|refine wN ?_|refine wP rfl ?_|refine cxR4_r rfl ?_|refine cxR4_d rfl ?_|refine wO rfl rfl ?_);exact h):P:=i h
theorem Bn {P Q X:Prop} (hb:X) (h:Q) (i:X->Q->P:=by intro hb h;refine⟨_,rfl,hb,λa b c=>wV rfl ?_⟩;refine dK ?_;revert a b c;exact h):P:=i hb h
set_option maxRecDepth 8000 in
theorem Few_any (v:Value) (f:iU) (kk:Nat) (w:World) (hv:mz kk w v f):
  Calls Tryz.prog 55 #[v] w λo w'=>∃ b,o=.returned (.bool b)/\(b=true->FewP f)/\ax w w':=by
 have KY:=hv
 obtain⟨pB,nB,cB,sT,pT,nT,cT,tT,yT,mT,dT,sC,pC,nC,cC,tC,yC,mC,dC,sI,pI,nI,cI,tI,yI,mI,dI,sF,pF,nF,cF,tF,yF,mF,dF,pc,Nc,cc,pe,Ne,ce,py,Ny,cy,rfl,h1,h2,h3,h4,h5,h6,h7,h8⟩:=hv
 have hnB:nB=f.pZ.length:=by obtain⟨_,_,e,_⟩:=h1.form;cases e;rfl
 have Ev:Nc=f.cls.length:=by obtain⟨_,_,e,_⟩:=h6.form;cases e;rfl
 have NC:Ne=f.bu.length:=by obtain⟨_,_,e,_⟩:=h7.form;cases e;rfl
 have Lk:Ny=f.iy.length:=by obtain⟨_,_,e,_⟩:=h8.form;cases e;rfl
 refine ai (C:=KB Tryz.prog w _) (args:=[_]) Tryz.func55 rfl Tryz.ntmps55 (cr rfl) ?_
 refine dK ?_
 by_cases g1:(nB:Int)>20
 ·refine VO.fix 9 rfl (congrArg (λb=>AV.val (.bool b)) (decide_eq_true g1)) ?_
  refine dK ?_
  refine VS.ret (gQ _ _) rfl rfl (λwz kz bz=> ?_)
  exact⟨_,rfl,λh=>(by cases h),bz⟩
 refine VO.fix 9 rfl (congrArg (λb=>AV.val (.bool b)) (decide_eq_false g1)) ?_
 refine dK ?_
 by_cases g2:(Nc:Int)>70
 ·refine VO.fix 15 rfl (congrArg (λb=>AV.val (.bool b)) (decide_eq_true g2)) ?_
  refine dK ?_
  refine VS.ret (gQ _ _) rfl rfl (λwz kz bz=> ?_)
  exact⟨_,rfl,λh=>(by cases h),bz⟩
 refine VO.fix 15 rfl (congrArg (λb=>AV.val (.bool b)) (decide_eq_false g2)) ?_
 refine dK ?_
 by_cases g3:(Ne:Int)>260
 ·refine VO.fix 21 rfl (congrArg (λb=>AV.val (.bool b)) (decide_eq_true g3)) ?_
  refine dK ?_
  refine VS.ret (gQ _ _) rfl rfl (λwz kz bz=> ?_)
  exact⟨_,rfl,λh=>(by cases h),bz⟩
 refine VO.fix 21 rfl (congrArg (λb=>AV.val (.bool b)) (decide_eq_false g3)) ?_
 refine dK ?_
 by_cases g4:(Ny:Int)>45
 ·refine VS.aU rfl (decide_eq_true g4) ?_
  refine dK ?_
  refine VS.ret (gQ _ _) rfl rfl (λwz kz bz=> ?_)
  exact⟨_,rfl,λh=>(by cases h),bz⟩
 refine VS.aN rfl (decide_eq_false g4) ?_
 refine dK ?_
 refine VS.loop (J:=λm L M w'=>∃ z:Nat,z<=Ny/\m=Ny-z/\L=[(1,.box 1 0),(3,.val (.int .i64 (z:Int)))]/\M=[(1,(32,[.string f.name,.string f.parent,.slice pB nB cB,.bool sT,.slice pT nT cT,.bool tT,.slice yT mT dT,.bool sC,.slice pC nC cC,.bool tC,.slice yC mC dC,.int .i64 f.bk,.int .i64 f.fw,.bool sI,.slice pI nI cI,.bool tI,.slice yI mI dI,.bool sF,.slice pF nF cF,.bool tF,.slice yF mF dF,.int .i64 f.kp,.slice pc Nc cc,.slice pe Ne ce,.slice py Ny cy].map AV.val))]/\∀ (i:Nat) (y:yO),i<z->f.iy[i]? =some y->y.holds.length<=40/\y.cf.length<=40/\y.dG.length<=40/\y.dp.length<=40/\y.gf.length<=40) Ny ⟨_,_,?_,?_,?_,?_,⟨0,by omega,rfl,rfl,rfl,λi x hi=>by omega⟩⟩ ?_
 ·exact du
 ·exact du
 ·rfl
 ·exact iq
 rintro m L M wJ ⟨z,hz,rfl,rfl,rfl,hup⟩
 refine dK ?_
 by_cases hlt:z<Ny
 rotate_left
 ·refine VS.aN rfl (decide_eq_false (λe=>hlt (Int.ofNat_lt.1 e))) ?_
  have hS:NR f:=⟨by omega,by omega,by omega,by omega,λy hy=>by
   obtain⟨i,hi⟩:=List.getElem?_of_mem hy
   exact hup i y (by have:=(List.getElem?_eq_some_iff.1 hi).1;omega) hi⟩
  refine dK ?_
  refine VO.call rfl rfl (fk Tryz.func127) (λbL dw bX=>(NS _ f kk bL (KY.az bX) hS).mono ?_)
  rintro e w1 ⟨r1,rfl,q1,bl⟩
  obtain⟨p1,c1,rfl⟩:=q1.form
  refine Bn bl ?_
  intro eM _ bb1
  refine VO.call rfl rfl (fk Tryz.func126) (λdh eU dQ=>(NQ _ _ kk dh ((q1.kp (bZ.el kk) (T:=TFew) (show jH TFew w1 dh from dz) rfl).sl (bZ.el kk))).mono ?_)
  rintro e w2 ⟨b2,rfl,q2,bM⟩
  skip
  refine Bn bM ?_
  intro gr _ bb2
  cases b2
  ·refine dK ?_
   refine VS.ret (gQ _ _) rfl rfl (λwz kz bz=> ?_)
   exact⟨_,rfl,λh=>(by cases h),bz⟩
  refine dK ?_
  refine VO.call rfl rfl (fk Tryz.func129) (λgz gJ iL=>(KA _ f kk gz (KY.az iL) hS).mono ?_)
  rintro e w3 ⟨r3,rfl,q3,dU⟩
  obtain⟨p3,c3,rfl⟩:=q3.form
  refine Bn dU ?_
  intro lN _ bb3
  refine VO.call rfl rfl (fk Tryz.func128) (λjw kX kY=>(GB _ _ jw ((q3.kp aJ (T:=TFew) (show jH TFew w3 jw from dz) rfl).sl aJ)).mono ?_)
  rintro e w4 ⟨b4,rfl,q4,iX⟩
  skip
  refine Bn iX ?_
  intro oK _ zJ
  refine VS.ret (gQ _ _) rfl rfl (λwz kz bz=> ?_)
  exact⟨_,rfl,λh=>⟨hS,q2 rfl,q4 h⟩,bz⟩
 obtain⟨y,hy⟩:∃ y,f.iy[z]? =some y:=⟨_,List.getElem?_eq_getElem aa⟩
 obtain⟨BC,BD,csy,rfl,qA,⟨yh,yb,yd,ys,yq,rfl,y1,y2,y3,y4,y5⟩⟩:=h8.at hy
 obtain⟨ph,nh,ch,rfl,NU⟩:∃ p n c,yh=.slice p n c/\n=y.holds.length:=by obtain⟨p,c,e⟩:=y1.sl;exact⟨_,_,_,e,rfl⟩
 obtain⟨pb,nb,cb,rfl,Aj⟩:∃ p n c,yb=.slice p n c/\n=y.cf.length:=by obtain⟨p,c,e⟩:=y2.sl;exact⟨_,_,_,e,rfl⟩
 obtain⟨pd,nd,cd,rfl,Ll⟩:∃ p n c,yd=.slice p n c/\n=y.dG.length:=by obtain⟨p,c,e⟩:=y3.sl;exact⟨_,_,_,e,rfl⟩
 obtain⟨ps,ns,cs,rfl,NV⟩:∃ p n c,ys=.slice p n c/\n=y.dp.length:=by obtain⟨p,c,e⟩:=y4.sl;exact⟨_,_,_,e,rfl⟩
 obtain⟨pq,nq,cq,rfl,NW⟩:∃ p n c,yq=.slice p n c/\n=y.gf.length:=by obtain⟨p,c,e⟩:=y5.sl;exact⟨_,_,_,e,rfl⟩
 refine VS.aU rfl (decide_eq_true (Int.ofNat_lt.2 hlt)) ?_
 refine dK ?_
 refine VO.cond rfl cW ?_
 refine wV rfl ?_
 refine dK ?_
 refine VO.read rfl [.int .i64 y.num,.slice ph nh ch,.slice pb nb cb,.slice pd nd cd,.slice ps ns cs,.slice pq nq cq] rfl (aC qA 0 _ ⟨[],rfl⟩) (wV rfl ?_)
 refine dK ?_
 by_cases k1:(nh:Int)>40
 ·refine VO.fix 43 rfl (congrArg (λb=>AV.val (.bool b)) (decide_eq_true k1)) ?_
  refine dK ?_
  refine VS.ret (gQ _ _) rfl rfl (λwz kz bz=> ?_)
  exact⟨_,rfl,λh=>(by cases h),bz⟩
 refine VO.fix 43 rfl (congrArg (λb=>AV.val (.bool b)) (decide_eq_false k1)) ?_
 refine dK ?_
 by_cases k2:(nb:Int)>40
 ·refine VO.fix 49 rfl (congrArg (λb=>AV.val (.bool b)) (decide_eq_true k2)) ?_
  refine dK ?_
  refine VS.ret (gQ _ _) rfl rfl (λwz kz bz=> ?_)
  exact⟨_,rfl,λh=>(by cases h),bz⟩
 refine VO.fix 49 rfl (congrArg (λb=>AV.val (.bool b)) (decide_eq_false k2)) ?_
 refine dK ?_
 by_cases k3:(nd:Int)>40
 ·refine VO.fix 55 rfl (congrArg (λb=>AV.val (.bool b)) (decide_eq_true k3)) ?_
  refine dK ?_
  refine VS.ret (gQ _ _) rfl rfl (λwz kz bz=> ?_)
  exact⟨_,rfl,λh=>(by cases h),bz⟩
 refine VO.fix 55 rfl (congrArg (λb=>AV.val (.bool b)) (decide_eq_false k3)) ?_
 refine dK ?_
 by_cases k4:(ns:Int)>40
 ·refine VO.fix 61 rfl (congrArg (λb=>AV.val (.bool b)) (decide_eq_true k4)) ?_
  refine dK ?_
  refine VS.ret (gQ _ _) rfl rfl (λwz kz bz=> ?_)
  exact⟨_,rfl,λh=>(by cases h),bz⟩
 refine VO.fix 61 rfl (congrArg (λb=>AV.val (.bool b)) (decide_eq_false k4)) ?_
 refine dK ?_
 by_cases k5:(nq:Int)>40
 ·refine VS.aU rfl (decide_eq_true k5) ?_
  refine dK ?_
  refine VS.ret (gQ _ _) rfl rfl (λwz kz bz=> ?_)
  exact⟨_,rfl,λh=>(by cases h),bz⟩
 refine VS.aN rfl (decide_eq_false k5) ?_
 refine dK ?_
 refine VS.back (Ny-(z+1)) aa ⟨_,_,?_,?_,?_,?_,⟨z+1,by omega,rfl,rfl,rfl,λi x hi hx=> ?_⟩⟩
 ·refine⟨rfl,?_,trivial⟩
  rw[<-ay (i:=z) aa];rfl
 ·exact du
 ·rfl
 ·exact iq
 ·by_cases Kk:i=z
  ·subst Kk;rw[hy] at hx;cases hx;exact⟨by omega,by omega,by omega,by omega,by omega⟩
  ·exact hup i x aa hx
set_option maxRecDepth 8000 in
theorem KD (v:Value) (f:iU) (kk:Nat) (w:World) (hv:mz kk w v f):
  Calls Tryz.prog 9 #[v] w λo w'=>∃ b,o=.returned (.bool b)/\(b=true->FewP f/\f.bu.length<=20/\f.cls.length<=20/\f.iy.length<=6)/\ax w w':=by
 have KY:=hv
 obtain⟨pB,nB,cB,sT,pT,nT,cT,tT,yT,mT,dT,sC,pC,nC,cC,tC,yC,mC,dC,sI,pI,nI,cI,tI,yI,mI,dI,sF,pF,nF,cF,tF,yF,mF,dF,pc,Nc,cc,pe,Ne,ce,py,Ny,cy,rfl,h1,h2,h3,h4,h5,h6,h7,h8⟩:=hv
 have Ev:Nc=f.cls.length:=by obtain⟨_,_,e,_⟩:=h6.form;cases e;rfl
 have NC:Ne=f.bu.length:=by obtain⟨_,_,e,_⟩:=h7.form;cases e;rfl
 have Lk:Ny=f.iy.length:=by obtain⟨_,_,e,_⟩:=h8.form;cases e;rfl
 clear h1 h2 h3 h4 h5 h6 h7 h8
 refine ai (C:=bj Tryz.prog w _) (args:=[_]) Tryz.func9 rfl Tryz.ntmps9 (cr rfl) ?_
 refine ae ?_
 refine VO.call rfl rfl (fk Tryz.func55) (λbL dw bX=>(Few_any _ f kk bL (KY.az bX)).mono ?_)
 rintro e w1 ⟨b1,rfl,q1,bl⟩
 skip
 refine cP bl ?_
 intro eM _ bb1
 cases b1
 ·refine ae ?_
  refine bV ?_;intro wz kz bz
  exact⟨_,rfl,λh=>(by cases h),bz⟩
 refine ae ?_
 by_cases g1:(Ne:Int)<=20
 rotate_left
 ·refine VO.fix 11 rfl (congrArg (λb=>AV.val (.bool b)) (decide_eq_false g1)) ?_
  refine ae ?_
  refine bV ?_;intro wz kz bz
  exact⟨_,rfl,λh=>(by cases h),bz⟩
 refine VO.fix 11 rfl (congrArg (λb=>AV.val (.bool b)) (decide_eq_true g1)) ?_
 refine ae ?_
 by_cases g2:(Nc:Int)<=20
 rotate_left
 ·refine VO.fix 17 rfl (congrArg (λb=>AV.val (.bool b)) (decide_eq_false g2)) ?_
  refine ae ?_
  refine bV ?_;intro wz kz bz
  exact⟨_,rfl,λh=>(by cases h),bz⟩
 refine VO.fix 17 rfl (congrArg (λb=>AV.val (.bool b)) (decide_eq_true g2)) ?_
 refine ae ?_
 refine bV ?_;intro wz kz bz
 exact⟨_,rfl,λh=>⟨q1 rfl,by omega,by omega,by have:=of_decide_eq_true h;omega⟩,bz⟩
set_option maxRecDepth 4000
def EU (kk B:Nat) (w:World) (cs:List Value) (y:yO):Prop:=∃ h b d s q,cs=[.int .i64 y.num,h,b,d,s,q]/\aE (iT kk) 6 220 B w h y.holds/\aE (iT kk) 6 141 B w b y.cf/\aE (sx kk) 10 224 B w d y.dG/\aE (tN kk) 9 228 B w s y.dp/\aE (uW kk) 5 232 B w q y.gf
theorem nA {P Q X:Prop} (hb:X) (h:Q) (i:X->Q->P:=by intro hb h;refine⟨_,rfl,hb,λa b c=>wV rfl ?_⟩;refine ag ?_;revert a b c;exact h):P:=i hb h
set_option maxRecDepth 8000 in
theorem EI (cs:List Value) (y:yO) (kk:Nat) (w:World) (hv:Bg kk w cs y) (hk:kk<=1000) (hb:y.holds.length<=40/\y.cf.length<=40/\y.dG.length<=40/\y.dp.length<=40/\y.gf.length<=40):
  Calls Tryz.prog 58 #[.agg cs.toArray] w λo w'=>∃ r:List Value,o=.returned (.agg r.toArray)/\EU kk w.heap.size w' r y/\ax w w':=by
 obtain⟨yh,yb,yd,ys,yq,rfl,y1,y2,y3,y4,y5⟩:=hv
 obtain⟨bl,bM,dU,iX,kj⟩:=hb
 obtain⟨ph,nh,ch,rfl,NU⟩:∃ p n c,yh=.slice p n c/\n=y.holds.length:=by obtain⟨p,c,e⟩:=y1.sl;exact⟨_,_,_,e,rfl⟩
 obtain⟨pb,nb,cb,rfl,Aj⟩:∃ p n c,yb=.slice p n c/\n=y.cf.length:=by obtain⟨p,c,e⟩:=y2.sl;exact⟨_,_,_,e,rfl⟩
 obtain⟨pd,nd,cd,rfl,Ll⟩:∃ p n c,yd=.slice p n c/\n=y.dG.length:=by obtain⟨p,c,e⟩:=y3.sl;exact⟨_,_,_,e,rfl⟩
 obtain⟨ps,ns,cs,rfl,NV⟩:∃ p n c,ys=.slice p n c/\n=y.dp.length:=by obtain⟨p,c,e⟩:=y4.sl;exact⟨_,_,_,e,rfl⟩
 obtain⟨pq,nq,cq,rfl,NW⟩:∃ p n c,yq=.slice p n c/\n=y.gf.length:=by obtain⟨p,c,e⟩:=y5.sl;exact⟨_,_,_,e,rfl⟩
 refine ai (C:=bj Tryz.prog w _) (args:=[_]) Tryz.func58 rfl Tryz.ntmps58 (cr rfl) ?_
 refine ae ?_
 refine VS.eV (λw=>bj Tryz.prog w 152) (λ_=>rfl) (λ_=>rfl) (λ_=>ax.refl _) (λw0 β k0 iZ en=> ?_)
 have GD:ax w w0:=iZ
 have Bo:aL w0 (β 1) 99 #[.int .i64 y.num,.slice ph nh ch,.slice pb nb cb,.slice pd nd cd,.slice ps ns cs,.slice pq nq cq]:=(en.own 1 _ _ rfl).cls
 have Oa:aL w0 (β 2) 136 #[.int .i64 0,.slice none 0 0,.slice none 0 0,.slice none 0 0,.slice none 0 0,.slice none 0 0]:=(en.own 2 _ _ rfl).cls
 have GO:aL w0 (β 3) 136 #[.int .i64 y.num,.slice none 0 0,.slice none 0 0,.slice none 0 0,.slice none 0 0,.slice none 0 0]:=(en.own 3 _ _ rfl).cls
 have Ci:w.heap.size<=β 2:=(en.own 2 _ _ rfl).new
 have tG:w.heap.size<=β 3:=(en.own 3 _ _ rfl).new
 have sH:β 2≠β 3:=λh=>absurd (en.apart 2 3 (by intro h;cases h) (by intro h;cases h) h) cH
 refine⟨[(1,.val (.pointer (some ⟨β 1,0,none⟩))),(2,.val (.pointer (some ⟨β 2,0,none⟩))),(3,.val (.pointer (some ⟨β 3,0,none⟩))),(4,.val (.int .i64 ((0:Nat):Int)))],⟨⟨_,_,rfl,rfl,rfl⟩,⟨_,_,rfl,rfl,rfl⟩,⟨_,_,rfl,rfl,rfl⟩,⟨_,_,rfl,rfl,rfl⟩,trivial⟩,?_⟩
 generalize β 1=g1 at Bo ⊢
 generalize β 2=g2 at Oa Ci sH ⊢
 generalize β 3=g3 at GO tG sH ⊢
 clear en
 have pE:g1≠g3:=λh=>by rw[h] at Bo;exact absurd (bt Bo GO) cH
 refine VS.bI di (λt=>Nat.beq t 23) table (λ_ _ _=>trivial) (λa1 jk k1 fG jZ=> ?_)
 have ar:ax w0 a1:=fG
 have yR:ax w a1:=GD.aH ar
 have EJ:=Bo.az ar
 have h2a1:=Oa.az ar
 have Ob:=GO.az ar
 have iu:=yR.size
 have nP:g1≠g3:=pE
 have cZ:cM di 152 [g3] [(136,[.val (.int .i64 y.num),.val (.slice none 0 0),.val (.slice none 0 0),.val (.slice none 0 0),.val (.slice none 0 0),.val (.slice none 0 0)])] a1:=by
  refine⟨rfl,by simp,λj g' c' hj hc=> ?_,λc' hc=> ?_,λc' hc k hk=> ?_⟩
  ·match j,hj,hc with
   | 0,hj,hc=>cases hj;cases hc;exact Ob
   | j+1,hj,_=>simp at hj
  ·cases List.mem_singleton.1 hc
   exact⟨rfl,rfl⟩
  ·cases List.mem_singleton.1 hc
   cases hk
 refine⟨[g3],[(136,[.val (.int .i64 y.num),.val (.slice none 0 0),.val (.slice none 0 0),.val (.slice none 0 0),.val (.slice none 0 0),.val (.slice none 0 0)])],cZ,[(1,.val (.pointer (some ⟨g1,0,none⟩))),(2,.val (.pointer (some ⟨g2,0,none⟩))),(3,.box 304 0),(4,.val (.int .i64 ((0:Nat):Int)))],⟨⟨_,rfl,rfl,λi hi=>(by cases hi)⟩,⟨_,rfl,rfl,λi hi=>(by cases hi)⟩,⟨_,rfl,rfl,λi hi=>by rw[(by simpa [AV.ids] using hi:i=304)];exact⟨(by show 304<=304;omega),(by show 304<2*152+1;omega)⟩⟩,⟨_,rfl,rfl,λi hi=>(by cases hi)⟩,trivial⟩,?_⟩
 have eG:∀ {b off:Nat} {cs:List Value},(∀ (j:Nat) (u:Value),cs[j]? =some u->w.cell? ((⟨b,off,none⟩:Addr).add j)=some u)->∀ (j:Nat) (u:Value),cs[j]? =some u->Cx.At (gV Tryz.prog a1 152 [g3] cZ.nodup cZ.ad) ((⟨b,off,none⟩:Addr).add j) u:=λh j u hj=>aY (λhm=>by
  have:=World.block_lt_of_cell? w _ (h j u hj)
  omega) (yR.cell (h j u hj))
 clear jZ
 refine ag ?_
 refine VS.loop (J:=λm L M w'=>∃ (z:Nat) (X:AV) (Mi:List (Nat×(TypeId×List AV))),z<=nh/\m=nh-z/\L=[(1,.val (.pointer (some ⟨g1,0,none⟩))),(2,.val (.pointer (some ⟨g2,0,none⟩))),(3,.box 304 0),(4,.val (.int .i64 (z:Int)))]/\M=(304,(136,[.val (.int .i64 y.num),X,.val (.slice none 0 0),.val (.slice none 0 0),.val (.slice none 0 0),.val (.slice none 0 0)]))::Mi/\dD (iT kk) 6 220 39 X Mi w' ((y.holds).take z)) nh ⟨_,_,?_,?_,?_,?_,⟨0,_,[],by omega,rfl,rfl,rfl,.inl ⟨rfl,rfl,rfl⟩⟩⟩ ?_
 ·exact du
 ·exact du
 ·rfl
 ·exact iq
 rintro m L M wI ⟨z,X,Nz,hz,rfl,rfl,rfl,hI⟩
 refine VS.now (λwX kN bN=> ?_)
 replace hI:=hI.kp (iT.el kk) (aK.dN kN)
 have kAX:aK di a1 wX:=eJ.kp bN.1 cZ.ad
 refine VS.mask [5,38] (by rcases hI with ⟨_,rfl,rfl⟩|⟨_,_,_,_,rfl,rfl,_⟩ <;> (repeat first|exact trivial|refine⟨rfl,?_⟩)) ?_
 refine ag ?_
 refine VO.aO rfl [.slice ph nh ch] rfl (λj u hj=>aY (by rw[Addr.add_mid];exact nP) (aG (EJ.cell (j:=1) rfl) j u hj)) (wV rfl ?_)
 refine ag ?_
 by_cases hlt:z<nh
 ·obtain⟨x,hx⟩:∃ x,(y.holds)[z]? =some x:=⟨_,List.getElem?_eq_getElem (by rw[<-NU];exact hlt)⟩
  obtain⟨b,off,uG,hp,hc,qZ⟩:=y1.at hx
  cases hp
  obtain⟨s6,KE,n6,Ia,t6,y6,m6,d6,rfl,nz⟩:=qZ
  have fI:=nz.raw.2
  refine VS.aU rfl (decide_eq_true (Int.ofNat_lt.2 hlt)) ?_
  refine ag ?_
  refine VO.aO rfl [.slice (some ⟨b,off,none⟩) nh ch] rfl (λj u hj=>aY (by rw[Addr.add_mid];exact nP) (aG (EJ.cell (j:=1) rfl) j u hj)) (wV rfl ?_)
  refine ag ?_
  refine VO.cond rfl cW ?_
  refine wV rfl ?_
  refine ag ?_
  refine VO.aO rfl [.string x.1,.string x.2.1,.bool s6,.slice KE n6 Ia,.bool t6,.slice y6 m6 d6] rfl (eG (aC hc 0 _ ⟨[],rfl⟩)) (wV rfl ?_)
  refine ag ?_
  refine VO.call rfl rfl (fk Tryz.func21) (λbL dw bX=>(dJ _ _ _ _ _ bL ((nz.kp (Kp.of (U:=UU) yR)).raw.1.kp (show aK di a1 bL from dz)) aa aa).mono ?_)
  rintro o u1 ⟨r1,rfl,q1,bl⟩
  obtain⟨P1,C1,Y1,D1,rfl,_⟩:=q1.raw.lD
  refine nA bl ?_
  intro eM _ bb1
  have dE:iT kk u1 [.string x.1,.string x.2.1,.bool x.2.2.s,.slice P1 x.2.2.xs.length C1,.bool x.2.2.t,.slice Y1 x.2.2.ys.length D1] x:=iT.mk' (.mk q1.raw fI.1 fI.2)
  rcases hI with ⟨dc,rfl,rfl⟩|⟨n',c',vs,sp,rfl,rfl,mw⟩
  ·refine VO.iM (bA _ _) (iT.el kk) (t:=130) (e:=220) (s:=38) (a:=x) (cs:=[.string x.1,.string x.2.1,.bool x.2.2.s,.slice P1 x.2.2.xs.length C1,.bool x.2.2.t,.slice Y1 x.2.2.ys.length D1]) rfl rfl rfl rfl rfl rfl rfl rfl (cr rfl) rfl rfl rfl dE aa (λw9 cap sp k9 b9 dR=>wV rfl ?_)
   refine ag ?_
   refine VS.back (nh-(z+1)) aa ⟨_,_,?_,?_,?_,?_,⟨z+1,_,_,by omega,rfl,rfl,rfl,.inr ⟨1,cap,_,sp,rfl,rfl,by rw[aR hx,dc];exact dR⟩⟩⟩
   ·(refine⟨rfl,rfl,rfl,?_,trivial⟩;rw[<-ay (i:=z) aa];rfl)
   ·(repeat first|exact trivial|refine⟨rfl,?_⟩|refine⟨congrArg (λl=>some (_,l)) (bU (by first|exact bO.dm (by assumption)|exact af _|(rw[<-List.map_append];exact af _)) _ _),?_⟩)
   ·rfl
   ·(repeat first|exact trivial|refine⟨aw.lit rfl,?_⟩|refine⟨bO.oO (by assumption),?_⟩|refine⟨aw.append (.vals _) (.vals _),?_⟩|refine⟨aw.vals _,?_⟩)
  ·have nW:=mw.len
   refine VO.iP (bA _ _) (iT.el kk) (t:=130) (e:=220) (s:=38) (i:=39) (n:=n') (c:=c') (vs:=vs) (sp:=sp) (es:=(y.holds).take z) (a:=x) (cs:=[.string x.1,.string x.2.1,.bool x.2.2.s,.slice P1 x.2.2.xs.length C1,.bool x.2.2.t,.slice Y1 x.2.2.ys.length D1]) rfl rfl rfl rfl rfl rfl rfl rfl (cr rfl) rfl (.inr rfl) rfl (mw.kp (iT.el kk) dz) rfl dE (by rw[List.length_take] at nW;omega) (λw9 ir fx ρ k9 b9 dY dR=>wV rfl ?_)
   refine ag ?_
   refine VS.back (nh-(z+1)) aa ⟨_,_,?_,?_,?_,?_,⟨z+1,_,_,by omega,rfl,rfl,rfl,.inr ⟨n' +1,ir,_,fx,rfl,rfl,by rw[aR hx];exact dR⟩⟩⟩
   ·(refine⟨rfl,rfl,rfl,?_,trivial⟩;rw[<-ay (i:=z) aa];rfl)
   ·(repeat first|exact trivial|refine⟨rfl,?_⟩|refine⟨congrArg (λl=>some (_,l)) (bU (by first|exact bO.dm (by assumption)|exact af _|(rw[<-List.map_append];exact af _)) _ _),?_⟩)
   ·rfl
   ·(repeat first|exact trivial|refine⟨aw.lit rfl,?_⟩|refine⟨bO.oO (by assumption),?_⟩|refine⟨aw.append (.vals _) (.vals _),?_⟩|refine⟨aw.vals _,?_⟩)
 refine VS.aN rfl (decide_eq_false (λh=>hlt (Int.ofNat_lt.1 h))) ?_
 obtain rfl:nh=z:=by omega
 rw[List.take_of_length_le (by rw[<-NU];exact Nat.le_refl _)] at hI
 refine VS.eV (λw=>bj Tryz.prog w 152) (λ_=>rfl) (λ_=>rfl) (λ_=>ax.refl _) (λo1 β k0 iZ en=> ?_)
 have hBo1:ax w o1:=eJ.az yR iZ.1 (λx hx=>by rw[List.mem_singleton.1 hx];exact tG)
 have kTo1:jH (λt=> !Nat.beq t 136) a1 o1:=eJ.kp iZ.1 (λx hx=>⟨136,[.int .i64 y.num,.slice none 0 0,.slice none 0 0,.slice none 0 0,.slice none 0 0,.slice none 0 0],by rw[List.mem_singleton.1 hx];exact Ob,rfl,rfl⟩)
 have h1o1:=EJ.but iZ.1 (by simp[pE])
 have h2o1:=h2a1.but iZ.1 (by simp[sH])
 have aQ:=hI.told (iT.el kk) en (by intro q hq;rcases hI with ⟨_,rfl,rfl⟩|⟨_,_,_,_,rfl,rfl,_⟩ <;> first|(cases hq;done)|(cases List.mem_singleton.1 hq;rfl)) (aK.dN k0) w.heap.size (λh=>(ba (show ez 152 [g3] a1 39 (β 39) from h)).elim (λq=>Nat.le_trans iu q) (λq=>by rw[List.mem_singleton.1 q];exact tG))
 have ya:X.leaf β=X.aM β:=by rcases hI with ⟨_,rfl,rfl⟩|⟨_,_,_,_,rfl,rfl,_⟩ <;> rfl
 obtain⟨yc,da⟩:=lP (en.own 304 _ _ rfl) 0 g3 rfl rfl
 have Oc:aL o1 g3 136 #[.int .i64 y.num,X.aM β,.slice none 0 0,.slice none 0 0,.slice none 0 0,.slice none 0 0]:=by rw[<-ya];exact da
 refine⟨[(1,.val (.pointer (some ⟨g1,0,none⟩))),(2,.val (.pointer (some ⟨g2,0,none⟩))),(3,.val (.pointer (some ⟨β 304,0,none⟩)))],⟨⟨_,_,rfl,rfl,rfl⟩,⟨_,_,rfl,rfl,rfl⟩,⟨_,_,rfl,rfl,rfl⟩,trivial⟩,?_⟩
 rw[yc]
 generalize X.aM β=vv at aQ Oc
 obtain⟨p1,c1,rfl⟩:=aQ.form
 have r1o1:=aQ
 clear aQ ya da en hI yc
 refine VS.bI di (λt=>Nat.beq t 23) table (λ_ _ _=>trivial) (λa2 jk k1 fG jZ=> ?_)
 have ar:ax o1 a2:=fG
 have Bp:ax w a2:=hBo1.aH ar
 have GP:=h1o1.az ar
 have h2a2:=h2o1.az ar
 have Od:=Oc.az ar
 have r1a2:=r1o1.az (iT.el kk) ar
 have iu:=Bp.size
 have nP:g1≠g3:=pE
 have cZ:cM di 152 [g3] [(136,[.val (.int .i64 y.num),.val (.slice p1 y.holds.length c1),.val (.slice none 0 0),.val (.slice none 0 0),.val (.slice none 0 0),.val (.slice none 0 0)])] a2:=by
  refine⟨rfl,by simp,λj g' c' hj hc=> ?_,λc' hc=> ?_,λc' hc k hk=> ?_⟩
  ·match j,hj,hc with
   | 0,hj,hc=>cases hj;cases hc;exact Od
   | j+1,hj,_=>simp at hj
  ·cases List.mem_singleton.1 hc
   exact⟨rfl,rfl⟩
  ·cases List.mem_singleton.1 hc
   cases hk
 refine⟨[g3],[(136,[.val (.int .i64 y.num),.val (.slice p1 y.holds.length c1),.val (.slice none 0 0),.val (.slice none 0 0),.val (.slice none 0 0),.val (.slice none 0 0)])],cZ,[(1,.val (.pointer (some ⟨g1,0,none⟩))),(2,.val (.pointer (some ⟨g2,0,none⟩))),(3,.box 304 0)],⟨⟨_,rfl,rfl,λi hi=>(by cases hi)⟩,⟨_,rfl,rfl,λi hi=>(by cases hi)⟩,⟨_,rfl,rfl,λi hi=>by rw[(by simpa [AV.ids] using hi:i=304)];exact⟨(by show 304<=304;omega),(by show 304<2*152+1;omega)⟩⟩,trivial⟩,?_⟩
 have eG:∀ {b off:Nat} {cs:List Value},(∀ (j:Nat) (u:Value),cs[j]? =some u->w.cell? ((⟨b,off,none⟩:Addr).add j)=some u)->∀ (j:Nat) (u:Value),cs[j]? =some u->Cx.At (gV Tryz.prog a2 152 [g3] cZ.nodup cZ.ad) ((⟨b,off,none⟩:Addr).add j) u:=λh j u hj=>aY (λhm=>by
  have:=World.block_lt_of_cell? w _ (h j u hj)
  omega) (Bp.cell (h j u hj))
 clear jZ
 refine ag ?_
 refine VS.loop (J:=λm L M w'=>∃ (z:Nat) (X:AV) (Mi:List (Nat×(TypeId×List AV))),z<=nb/\m=nb-z/\L=[(1,.val (.pointer (some ⟨g1,0,none⟩))),(2,.val (.pointer (some ⟨g2,0,none⟩))),(3,.box 304 0),(6,.val (.int .i64 (z:Int)))]/\M=(304,(136,[.val (.int .i64 y.num),.val (.slice p1 y.holds.length c1),X,.val (.slice none 0 0),.val (.slice none 0 0),.val (.slice none 0 0)]))::Mi/\dD (iT kk) 6 141 64 X Mi w' ((y.cf).take z)) nb ⟨_,_,?_,?_,?_,?_,⟨0,_,[],by omega,rfl,rfl,rfl,.inl ⟨rfl,rfl,rfl⟩⟩⟩ ?_
 ·exact du
 ·exact du
 ·rfl
 ·exact iq
 rintro m L M wI ⟨z,X,Nz,hz,rfl,rfl,rfl,hI⟩
 refine VS.now (λwX kN bN=> ?_)
 replace hI:=hI.kp (iT.el kk) (aK.dN kN)
 have kAX:aK di a2 wX:=eJ.kp bN.1 cZ.ad
 refine VS.mask [7,63] (by rcases hI with ⟨_,rfl,rfl⟩|⟨_,_,_,_,rfl,rfl,_⟩ <;> (repeat first|exact trivial|refine⟨rfl,?_⟩)) ?_
 refine ag ?_
 refine VO.aO rfl [.slice pb nb cb] rfl (λj u hj=>aY (by rw[Addr.add_mid];exact nP) (aG (GP.cell (j:=2) rfl) j u hj)) (wV rfl ?_)
 refine ag ?_
 by_cases hlt:z<nb
 ·obtain⟨x,hx⟩:∃ x,(y.cf)[z]? =some x:=⟨_,List.getElem?_eq_getElem (by rw[<-Aj];exact hlt)⟩
  obtain⟨b,off,uG,hp,hc,qZ⟩:=y2.at hx
  cases hp
  obtain⟨s6,KE,n6,Ia,t6,y6,m6,d6,rfl,nz⟩:=qZ
  have fI:=nz.raw.2
  refine VS.aU rfl (decide_eq_true (Int.ofNat_lt.2 hlt)) ?_
  refine ag ?_
  refine VO.aO rfl [.slice (some ⟨b,off,none⟩) nb cb] rfl (λj u hj=>aY (by rw[Addr.add_mid];exact nP) (aG (GP.cell (j:=2) rfl) j u hj)) (wV rfl ?_)
  refine ag ?_
  refine VO.cond rfl cW ?_
  refine wV rfl ?_
  refine ag ?_
  refine VO.aO rfl [.string x.1,.string x.2.1,.bool s6,.slice KE n6 Ia,.bool t6,.slice y6 m6 d6] rfl (eG (aC hc 0 _ ⟨[],rfl⟩)) (wV rfl ?_)
  refine ag ?_
  refine VO.call rfl rfl (fk Tryz.func21) (λbL dw bX=>(dJ _ _ _ _ _ bL ((nz.kp (Kp.of (U:=UU) Bp)).raw.1.kp (show aK di a2 bL from dz)) aa aa).mono ?_)
  rintro o u1 ⟨r1,rfl,q1,bl⟩
  obtain⟨P1,C1,Y1,D1,rfl,_⟩:=q1.raw.lD
  refine nA bl ?_
  intro eM _ bb1
  have dE:iT kk u1 [.string x.1,.string x.2.1,.bool x.2.2.s,.slice P1 x.2.2.xs.length C1,.bool x.2.2.t,.slice Y1 x.2.2.ys.length D1] x:=iT.mk' (.mk q1.raw fI.1 fI.2)
  rcases hI with ⟨dc,rfl,rfl⟩|⟨n',c',vs,sp,rfl,rfl,mw⟩
  ·refine VO.iM (bA _ _) (iT.el kk) (t:=131) (e:=141) (s:=63) (a:=x) (cs:=[.string x.1,.string x.2.1,.bool x.2.2.s,.slice P1 x.2.2.xs.length C1,.bool x.2.2.t,.slice Y1 x.2.2.ys.length D1]) rfl rfl rfl rfl rfl rfl rfl rfl (cr rfl) rfl rfl rfl dE aa (λw9 cap sp k9 b9 dR=>wV rfl ?_)
   refine ag ?_
   refine VS.back (nb-(z+1)) aa ⟨_,_,?_,?_,?_,?_,⟨z+1,_,_,by omega,rfl,rfl,rfl,.inr ⟨1,cap,_,sp,rfl,rfl,by rw[aR hx,dc];exact dR⟩⟩⟩
   ·(refine⟨rfl,rfl,rfl,?_,trivial⟩;rw[<-ay (i:=z) aa];rfl)
   ·(repeat first|exact trivial|refine⟨rfl,?_⟩|refine⟨congrArg (λl=>some (_,l)) (bU (by first|exact bO.dm (by assumption)|exact af _|(rw[<-List.map_append];exact af _)) _ _),?_⟩)
   ·rfl
   ·(repeat first|exact trivial|refine⟨aw.lit rfl,?_⟩|refine⟨bO.oO (by assumption),?_⟩|refine⟨aw.append (.vals _) (.vals _),?_⟩|refine⟨aw.vals _,?_⟩)
  ·have nW:=mw.len
   refine VO.iP (bA _ _) (iT.el kk) (t:=131) (e:=141) (s:=63) (i:=64) (n:=n') (c:=c') (vs:=vs) (sp:=sp) (es:=(y.cf).take z) (a:=x) (cs:=[.string x.1,.string x.2.1,.bool x.2.2.s,.slice P1 x.2.2.xs.length C1,.bool x.2.2.t,.slice Y1 x.2.2.ys.length D1]) rfl rfl rfl rfl rfl rfl rfl rfl (cr rfl) rfl (.inr rfl) rfl (mw.kp (iT.el kk) dz) rfl dE (by rw[List.length_take] at nW;omega) (λw9 ir fx ρ k9 b9 dY dR=>wV rfl ?_)
   refine ag ?_
   refine VS.back (nb-(z+1)) aa ⟨_,_,?_,?_,?_,?_,⟨z+1,_,_,by omega,rfl,rfl,rfl,.inr ⟨n' +1,ir,_,fx,rfl,rfl,by rw[aR hx];exact dR⟩⟩⟩
   ·(refine⟨rfl,rfl,rfl,?_,trivial⟩;rw[<-ay (i:=z) aa];rfl)
   ·(repeat first|exact trivial|refine⟨rfl,?_⟩|refine⟨congrArg (λl=>some (_,l)) (bU (by first|exact bO.dm (by assumption)|exact af _|(rw[<-List.map_append];exact af _)) _ _),?_⟩)
   ·rfl
   ·(repeat first|exact trivial|refine⟨aw.lit rfl,?_⟩|refine⟨bO.oO (by assumption),?_⟩|refine⟨aw.append (.vals _) (.vals _),?_⟩|refine⟨aw.vals _,?_⟩)
 refine VS.aN rfl (decide_eq_false (λh=>hlt (Int.ofNat_lt.1 h))) ?_
 obtain rfl:nb=z:=by omega
 rw[List.take_of_length_le (by rw[<-Aj];exact Nat.le_refl _)] at hI
 refine VS.eV (λw=>bj Tryz.prog w 152) (λ_=>rfl) (λ_=>rfl) (λ_=>ax.refl _) (λo2 β k0 iZ en=> ?_)
 have hBo2:ax w o2:=eJ.az Bp iZ.1 (λx hx=>by rw[List.mem_singleton.1 hx];exact tG)
 have Oe:jH (λt=> !Nat.beq t 136) a2 o2:=eJ.kp iZ.1 (λx hx=>⟨136,[.int .i64 y.num,.slice p1 y.holds.length c1,.slice none 0 0,.slice none 0 0,.slice none 0 0,.slice none 0 0],by rw[List.mem_singleton.1 hx];exact Od,rfl,rfl⟩)
 have h1o2:=GP.but iZ.1 (by simp[pE])
 have h2o2:=h2a2.but iZ.1 (by simp[sH])
 have r1o2:=r1a2.kp (iT.el kk) Oe rfl
 have aQ:=hI.told (iT.el kk) en (by intro q hq;rcases hI with ⟨_,rfl,rfl⟩|⟨_,_,_,_,rfl,rfl,_⟩ <;> first|(cases hq;done)|(cases List.mem_singleton.1 hq;rfl)) (aK.dN k0) w.heap.size (λh=>(ba (show ez 152 [g3] a2 64 (β 64) from h)).elim (λq=>Nat.le_trans iu q) (λq=>by rw[List.mem_singleton.1 q];exact tG))
 have ya:X.leaf β=X.aM β:=by rcases hI with ⟨_,rfl,rfl⟩|⟨_,_,_,_,rfl,rfl,_⟩ <;> rfl
 obtain⟨yc,da⟩:=lP (en.own 304 _ _ rfl) 0 g3 rfl rfl
 have Og:aL o2 g3 136 #[.int .i64 y.num,.slice p1 y.holds.length c1,X.aM β,.slice none 0 0,.slice none 0 0,.slice none 0 0]:=by rw[<-ya];exact da
 refine⟨[(1,.val (.pointer (some ⟨g1,0,none⟩))),(2,.val (.pointer (some ⟨g2,0,none⟩))),(3,.val (.pointer (some ⟨β 304,0,none⟩)))],⟨⟨_,_,rfl,rfl,rfl⟩,⟨_,_,rfl,rfl,rfl⟩,⟨_,_,rfl,rfl,rfl⟩,trivial⟩,?_⟩
 rw[yc]
 generalize X.aM β=vv at aQ Og
 obtain⟨p2,c2,rfl⟩:=aQ.form
 have r2o2:=aQ
 clear aQ ya da en hI yc
 refine VS.bI di (λt=>Nat.beq t 23) table (λ_ _ _=>trivial) (λa3 jk k1 fG jZ=> ?_)
 have ar:ax o2 a3:=fG
 have yS:ax w a3:=hBo2.aH ar
 have GQ:=h1o2.az ar
 have h2a3:=h2o2.az ar
 have Oh:=Og.az ar
 have r1a3:=r1o2.az (iT.el kk) ar
 have r2a3:=r2o2.az (iT.el kk) ar
 have iu:=yS.size
 have nP:g1≠g3:=pE
 have cZ:cM di 152 [g3] [(136,[.val (.int .i64 y.num),.val (.slice p1 y.holds.length c1),.val (.slice p2 y.cf.length c2),.val (.slice none 0 0),.val (.slice none 0 0),.val (.slice none 0 0)])] a3:=by
  refine⟨rfl,by simp,λj g' c' hj hc=> ?_,λc' hc=> ?_,λc' hc k hk=> ?_⟩
  ·match j,hj,hc with
   | 0,hj,hc=>cases hj;cases hc;exact Oh
   | j+1,hj,_=>simp at hj
  ·cases List.mem_singleton.1 hc
   exact⟨rfl,rfl⟩
  ·cases List.mem_singleton.1 hc
   cases hk
 refine⟨[g3],[(136,[.val (.int .i64 y.num),.val (.slice p1 y.holds.length c1),.val (.slice p2 y.cf.length c2),.val (.slice none 0 0),.val (.slice none 0 0),.val (.slice none 0 0)])],cZ,[(1,.val (.pointer (some ⟨g1,0,none⟩))),(2,.val (.pointer (some ⟨g2,0,none⟩))),(3,.box 304 0)],⟨⟨_,rfl,rfl,λi hi=>(by cases hi)⟩,⟨_,rfl,rfl,λi hi=>(by cases hi)⟩,⟨_,rfl,rfl,λi hi=>by rw[(by simpa [AV.ids] using hi:i=304)];exact⟨(by show 304<=304;omega),(by show 304<2*152+1;omega)⟩⟩,trivial⟩,?_⟩
 have eG:∀ {b off:Nat} {cs:List Value},(∀ (j:Nat) (u:Value),cs[j]? =some u->w.cell? ((⟨b,off,none⟩:Addr).add j)=some u)->∀ (j:Nat) (u:Value),cs[j]? =some u->Cx.At (gV Tryz.prog a3 152 [g3] cZ.nodup cZ.ad) ((⟨b,off,none⟩:Addr).add j) u:=λh j u hj=>aY (λhm=>by
  have:=World.block_lt_of_cell? w _ (h j u hj)
  omega) (yS.cell (h j u hj))
 clear jZ
 refine ag ?_
 refine VS.loop (J:=λm L M w'=>∃ (z:Nat) (X:AV) (Mi:List (Nat×(TypeId×List AV))),z<=nd/\m=nd-z/\L=[(1,.val (.pointer (some ⟨g1,0,none⟩))),(2,.val (.pointer (some ⟨g2,0,none⟩))),(3,.box 304 0),(8,.val (.int .i64 (z:Int)))]/\M=(304,(136,[.val (.int .i64 y.num),.val (.slice p1 y.holds.length c1),.val (.slice p2 y.cf.length c2),X,.val (.slice none 0 0),.val (.slice none 0 0)]))::Mi/\dD (sx kk) 10 224 97 X Mi w' ((y.dG).take z)) nd ⟨_,_,?_,?_,?_,?_,⟨0,_,[],by omega,rfl,rfl,rfl,.inl ⟨rfl,rfl,rfl⟩⟩⟩ ?_
 ·exact du
 ·exact du
 ·rfl
 ·exact iq
 rintro m L M wI ⟨z,X,Nz,hz,rfl,rfl,rfl,hI⟩
 refine VS.now (λwX kN bN=> ?_)
 replace hI:=hI.kp (sx.el kk) (aK.dN kN)
 have kAX:aK di a3 wX:=eJ.kp bN.1 cZ.ad
 refine VS.mask [9,96] (by rcases hI with ⟨_,rfl,rfl⟩|⟨_,_,_,_,rfl,rfl,_⟩ <;> (repeat first|exact trivial|refine⟨rfl,?_⟩)) ?_
 refine ag ?_
 refine VO.aO rfl [.slice pd nd cd] rfl (λj u hj=>aY (by rw[Addr.add_mid];exact nP) (aG (GQ.cell (j:=3) rfl) j u hj)) (wV rfl ?_)
 refine ag ?_
 by_cases hlt:z<nd
 ·obtain⟨x,hx⟩:∃ x,(y.dG)[z]? =some x:=⟨_,List.getElem?_eq_getElem (by rw[<-Ll];exact hlt)⟩
  obtain⟨b,off,uG,hp,hc,qZ⟩:=y3.at hx
  cases hp
  obtain⟨s6,KE,n6,Ia,t6,y6,m6,d6,rfl,nz,Oi⟩:=qZ
  have fI:=nz.raw.2
  refine VS.aU rfl (decide_eq_true (Int.ofNat_lt.2 hlt)) ?_
  refine ag ?_
  refine VO.aO rfl [.slice (some ⟨b,off,none⟩) nd cd] rfl (λj u hj=>aY (by rw[Addr.add_mid];exact nP) (aG (GQ.cell (j:=3) rfl) j u hj)) (wV rfl ?_)
  refine ag ?_
  refine VO.cond rfl cW ?_
  refine wV rfl ?_
  refine ag ?_
  refine VO.aO rfl [.bool x.Ex,.string x.id,.int .u8 (x.kind:Int),.string x.kO,.string x.kP,.string x.cls,.bool s6,.slice KE n6 Ia,.bool t6,.slice y6 m6 d6] rfl (eG (aC hc 0 _ ⟨[],rfl⟩)) (wV rfl ?_)
  refine ag ?_
  refine VO.call rfl rfl (fk Tryz.func21) (λbL dw bX=>(dJ _ _ _ _ _ bL ((nz.kp (Kp.of (U:=UU) yS)).raw.1.kp (show aK di a3 bL from dz)) aa aa).mono ?_)
  rintro o u1 ⟨r1,rfl,q1,bl⟩
  obtain⟨P1,C1,Y1,D1,rfl,_⟩:=q1.raw.lD
  refine nA bl ?_
  intro eM _ bb1
  have dE:sx kk u1 [.bool x.Ex,.string x.id,.int .u8 (x.kind:Int),.string x.kO,.string x.kP,.string x.cls,.bool x.zU.s,.slice P1 x.zU.xs.length C1,.bool x.zU.t,.slice Y1 x.zU.ys.length D1] x:=sx.mk' (.mk q1.raw fI.1 fI.2) Oi
  rcases hI with ⟨dc,rfl,rfl⟩|⟨n',c',vs,sp,rfl,rfl,mw⟩
  ·refine VO.iM (bA _ _) (sx.el kk) (t:=132) (e:=224) (s:=96) (a:=x) (cs:=[.bool x.Ex,.string x.id,.int .u8 (x.kind:Int),.string x.kO,.string x.kP,.string x.cls,.bool x.zU.s,.slice P1 x.zU.xs.length C1,.bool x.zU.t,.slice Y1 x.zU.ys.length D1]) rfl rfl rfl rfl rfl rfl rfl rfl (cr rfl) rfl rfl rfl dE aa (λw9 cap sp k9 b9 dR=>wV rfl ?_)
   refine ag ?_
   refine VS.back (nd-(z+1)) aa ⟨_,_,?_,?_,?_,?_,⟨z+1,_,_,by omega,rfl,rfl,rfl,.inr ⟨1,cap,_,sp,rfl,rfl,by rw[aR hx,dc];exact dR⟩⟩⟩
   ·(refine⟨rfl,rfl,rfl,?_,trivial⟩;rw[<-ay (i:=z) aa];rfl)
   ·(repeat first|exact trivial|refine⟨rfl,?_⟩|refine⟨congrArg (λl=>some (_,l)) (bU (by first|exact bO.dm (by assumption)|exact af _|(rw[<-List.map_append];exact af _)) _ _),?_⟩)
   ·rfl
   ·(repeat first|exact trivial|refine⟨aw.lit rfl,?_⟩|refine⟨bO.oO (by assumption),?_⟩|refine⟨aw.append (.vals _) (.vals _),?_⟩|refine⟨aw.vals _,?_⟩)
  ·have nW:=mw.len
   refine VO.iP (bA _ _) (sx.el kk) (t:=132) (e:=224) (s:=96) (i:=97) (n:=n') (c:=c') (vs:=vs) (sp:=sp) (es:=(y.dG).take z) (a:=x) (cs:=[.bool x.Ex,.string x.id,.int .u8 (x.kind:Int),.string x.kO,.string x.kP,.string x.cls,.bool x.zU.s,.slice P1 x.zU.xs.length C1,.bool x.zU.t,.slice Y1 x.zU.ys.length D1]) rfl rfl rfl rfl rfl rfl rfl rfl (cr rfl) rfl (.inr rfl) rfl (mw.kp (sx.el kk) dz) rfl dE (by rw[List.length_take] at nW;omega) (λw9 ir fx ρ k9 b9 dY dR=>wV rfl ?_)
   refine ag ?_
   refine VS.back (nd-(z+1)) aa ⟨_,_,?_,?_,?_,?_,⟨z+1,_,_,by omega,rfl,rfl,rfl,.inr ⟨n' +1,ir,_,fx,rfl,rfl,by rw[aR hx];exact dR⟩⟩⟩
   ·(refine⟨rfl,rfl,rfl,?_,trivial⟩;rw[<-ay (i:=z) aa];rfl)
   ·(repeat first|exact trivial|refine⟨rfl,?_⟩|refine⟨congrArg (λl=>some (_,l)) (bU (by first|exact bO.dm (by assumption)|exact af _|(rw[<-List.map_append];exact af _)) _ _),?_⟩)
   ·rfl
   ·(repeat first|exact trivial|refine⟨aw.lit rfl,?_⟩|refine⟨bO.oO (by assumption),?_⟩|refine⟨aw.append (.vals _) (.vals _),?_⟩|refine⟨aw.vals _,?_⟩)
 refine VS.aN rfl (decide_eq_false (λh=>hlt (Int.ofNat_lt.1 h))) ?_
 obtain rfl:nd=z:=by omega
 rw[List.take_of_length_le (by rw[<-Ll];exact Nat.le_refl _)] at hI
 refine VS.eV (λw=>bj Tryz.prog w 152) (λ_=>rfl) (λ_=>rfl) (λ_=>ax.refl _) (λo3 β k0 iZ en=> ?_)
 have hBo3:ax w o3:=eJ.az yS iZ.1 (λx hx=>by rw[List.mem_singleton.1 hx];exact tG)
 have GR:jH (λt=> !Nat.beq t 136) a3 o3:=eJ.kp iZ.1 (λx hx=>⟨136,[.int .i64 y.num,.slice p1 y.holds.length c1,.slice p2 y.cf.length c2,.slice none 0 0,.slice none 0 0,.slice none 0 0],by rw[List.mem_singleton.1 hx];exact Oh,rfl,rfl⟩)
 have h1o3:=GQ.but iZ.1 (by simp[pE])
 have h2o3:=h2a3.but iZ.1 (by simp[sH])
 have r1o3:=r1a3.kp (iT.el kk) GR rfl
 have r2o3:=r2a3.kp (iT.el kk) GR rfl
 have aQ:=hI.told (sx.el kk) en (by intro q hq;rcases hI with ⟨_,rfl,rfl⟩|⟨_,_,_,_,rfl,rfl,_⟩ <;> first|(cases hq;done)|(cases List.mem_singleton.1 hq;rfl)) (aK.dN k0) w.heap.size (λh=>(ba (show ez 152 [g3] a3 97 (β 97) from h)).elim (λq=>Nat.le_trans iu q) (λq=>by rw[List.mem_singleton.1 q];exact tG))
 have ya:X.leaf β=X.aM β:=by rcases hI with ⟨_,rfl,rfl⟩|⟨_,_,_,_,rfl,rfl,_⟩ <;> rfl
 obtain⟨yc,da⟩:=lP (en.own 304 _ _ rfl) 0 g3 rfl rfl
 have Oj:aL o3 g3 136 #[.int .i64 y.num,.slice p1 y.holds.length c1,.slice p2 y.cf.length c2,X.aM β,.slice none 0 0,.slice none 0 0]:=by rw[<-ya];exact da
 refine⟨[(1,.val (.pointer (some ⟨g1,0,none⟩))),(2,.val (.pointer (some ⟨g2,0,none⟩))),(3,.val (.pointer (some ⟨β 304,0,none⟩)))],⟨⟨_,_,rfl,rfl,rfl⟩,⟨_,_,rfl,rfl,rfl⟩,⟨_,_,rfl,rfl,rfl⟩,trivial⟩,?_⟩
 rw[yc]
 generalize X.aM β=vv at aQ Oj
 obtain⟨p3,c3,rfl⟩:=aQ.form
 have r3o3:=aQ
 clear aQ ya da en hI yc
 refine VS.bI di (λt=>Nat.beq t 23) table (λ_ _ _=>trivial) (λa4 jk k1 fG jZ=> ?_)
 have ar:ax o3 a4:=fG
 have Ol:ax w a4:=hBo3.aH ar
 have h1a4:=h1o3.az ar
 have h2a4:=h2o3.az ar
 have h3a4:=Oj.az ar
 have r1a4:=r1o3.az (iT.el kk) ar
 have r2a4:=r2o3.az (iT.el kk) ar
 have r3a4:=r3o3.az (sx.el kk) ar
 have iu:=Ol.size
 have nP:g1≠g3:=pE
 have cZ:cM di 152 [g3] [(136,[.val (.int .i64 y.num),.val (.slice p1 y.holds.length c1),.val (.slice p2 y.cf.length c2),.val (.slice p3 y.dG.length c3),.val (.slice none 0 0),.val (.slice none 0 0)])] a4:=by
  refine⟨rfl,by simp,λj g' c' hj hc=> ?_,λc' hc=> ?_,λc' hc k hk=> ?_⟩
  ·match j,hj,hc with
   | 0,hj,hc=>cases hj;cases hc;exact h3a4
   | j+1,hj,_=>simp at hj
  ·cases List.mem_singleton.1 hc
   exact⟨rfl,rfl⟩
  ·cases List.mem_singleton.1 hc
   cases hk
 refine⟨[g3],[(136,[.val (.int .i64 y.num),.val (.slice p1 y.holds.length c1),.val (.slice p2 y.cf.length c2),.val (.slice p3 y.dG.length c3),.val (.slice none 0 0),.val (.slice none 0 0)])],cZ,[(1,.val (.pointer (some ⟨g1,0,none⟩))),(2,.val (.pointer (some ⟨g2,0,none⟩))),(3,.box 304 0)],⟨⟨_,rfl,rfl,λi hi=>(by cases hi)⟩,⟨_,rfl,rfl,λi hi=>(by cases hi)⟩,⟨_,rfl,rfl,λi hi=>by rw[(by simpa [AV.ids] using hi:i=304)];exact⟨(by show 304<=304;omega),(by show 304<2*152+1;omega)⟩⟩,trivial⟩,?_⟩
 have eG:∀ {b off:Nat} {cs:List Value},(∀ (j:Nat) (u:Value),cs[j]? =some u->w.cell? ((⟨b,off,none⟩:Addr).add j)=some u)->∀ (j:Nat) (u:Value),cs[j]? =some u->Cx.At (gV Tryz.prog a4 152 [g3] cZ.nodup cZ.ad) ((⟨b,off,none⟩:Addr).add j) u:=λh j u hj=>aY (λhm=>by
  have:=World.block_lt_of_cell? w _ (h j u hj)
  omega) (Ol.cell (h j u hj))
 clear jZ
 refine ag ?_
 refine VS.loop (J:=λm L M w'=>∃ (z:Nat) (X:AV) (Mi:List (Nat×(TypeId×List AV))),z<=ns/\m=ns-z/\L=[(1,.val (.pointer (some ⟨g1,0,none⟩))),(2,.val (.pointer (some ⟨g2,0,none⟩))),(3,.box 304 0),(10,.val (.int .i64 (z:Int)))]/\M=(304,(136,[.val (.int .i64 y.num),.val (.slice p1 y.holds.length c1),.val (.slice p2 y.cf.length c2),.val (.slice p3 y.dG.length c3),X,.val (.slice none 0 0)]))::Mi/\dD (tN kk) 9 228 123 X Mi w' ((y.dp).take z)) ns ⟨_,_,?_,?_,?_,?_,⟨0,_,[],by omega,rfl,rfl,rfl,.inl ⟨rfl,rfl,rfl⟩⟩⟩ ?_
 ·exact du
 ·exact du
 ·rfl
 ·exact iq
 rintro m L M wI ⟨z,X,Nz,hz,rfl,rfl,rfl,hI⟩
 refine VS.now (λwX kN bN=> ?_)
 replace hI:=hI.kp (tN.el kk) (aK.dN kN)
 have kAX:aK di a4 wX:=eJ.kp bN.1 cZ.ad
 refine VS.mask [11,122] (by rcases hI with ⟨_,rfl,rfl⟩|⟨_,_,_,_,rfl,rfl,_⟩ <;> (repeat first|exact trivial|refine⟨rfl,?_⟩)) ?_
 refine ag ?_
 refine VO.aO rfl [.slice ps ns cs] rfl (λj u hj=>aY (by rw[Addr.add_mid];exact nP) (aG (h1a4.cell (j:=4) rfl) j u hj)) (wV rfl ?_)
 refine ag ?_
 by_cases hlt:z<ns
 ·obtain⟨x,hx⟩:∃ x,(y.dp)[z]? =some x:=⟨_,List.getElem?_eq_getElem (by rw[<-NV];exact hlt)⟩
  obtain⟨b,off,uG,hp,hc,qZ⟩:=y4.at hx
  cases hp
  obtain⟨s6,KE,n6,Ia,t6,y6,m6,d6,s7,p7',n7,c7',t7,y7,m7,d7,rfl,nz,IJ⟩:=qZ
  have fI:=nz.raw.2
  have jf:=IJ.raw.2
  refine VS.aU rfl (decide_eq_true (Int.ofNat_lt.2 hlt)) ?_
  refine ag ?_
  refine VO.aO rfl [.slice (some ⟨b,off,none⟩) ns cs] rfl (λj u hj=>aY (by rw[Addr.add_mid];exact nP) (aG (h1a4.cell (j:=4) rfl) j u hj)) (wV rfl ?_)
  refine ag ?_
  refine VO.cond rfl cW ?_
  refine wV rfl ?_
  refine ag ?_
  refine VO.aO rfl [.string x.1,.bool s6,.slice KE n6 Ia,.bool t6,.slice y6 m6 d6,.bool s7,.slice p7' n7 c7',.bool t7,.slice y7 m7 d7] rfl (eG (aC hc 0 _ ⟨[],rfl⟩)) (wV rfl ?_)
  refine ag ?_
  refine VO.call rfl rfl (fk Tryz.func21) (λbL dw bX=>(dJ _ _ _ _ _ bL ((nz.kp (Kp.of (U:=UU) Ol)).raw.1.kp (show aK di a4 bL from dz)) aa aa).mono ?_)
  rintro o u1 ⟨r1,rfl,q1,bl⟩
  obtain⟨P1,C1,Y1,D1,rfl,_⟩:=q1.raw.lD
  refine nA bl ?_
  intro eM _ bb1
  refine VO.call rfl rfl (fk Tryz.func21) (λdh eU dQ=>(dJ _ _ _ _ _ dh ((IJ.kp (Kp.of (U:=UU) Ol)).raw.1.kp (show aK di a4 dh from dz)) aa aa).mono ?_)
  rintro o u2 ⟨r2,rfl,q2,bM⟩
  obtain⟨P2,C2,Y2,D2,rfl,_⟩:=q2.raw.lD
  refine nA bM ?_
  intro gr _ bb2
  have dE:tN kk u2 [.string x.1,.bool x.2.1.s,.slice P1 x.2.1.xs.length C1,.bool x.2.1.t,.slice Y1 x.2.1.ys.length D1,.bool x.2.2.s,.slice P2 x.2.2.xs.length C2,.bool x.2.2.t,.slice Y2 x.2.2.ys.length D2] x:=tN.mk' (.mk (q1.raw.kp (show aK di u1 u2 from dz)) fI.1 fI.2) (.mk q2.raw jf.1 jf.2)
  rcases hI with ⟨dc,rfl,rfl⟩|⟨n',c',vs,sp,rfl,rfl,mw⟩
  ·refine VO.iM (bA _ _) (tN.el kk) (t:=133) (e:=228) (s:=122) (a:=x) (cs:=[.string x.1,.bool x.2.1.s,.slice P1 x.2.1.xs.length C1,.bool x.2.1.t,.slice Y1 x.2.1.ys.length D1,.bool x.2.2.s,.slice P2 x.2.2.xs.length C2,.bool x.2.2.t,.slice Y2 x.2.2.ys.length D2]) rfl rfl rfl rfl rfl rfl rfl rfl (cr rfl) rfl rfl rfl dE aa (λw9 cap sp k9 b9 dR=>wV rfl ?_)
   refine ag ?_
   refine VS.back (ns-(z+1)) aa ⟨_,_,?_,?_,?_,?_,⟨z+1,_,_,by omega,rfl,rfl,rfl,.inr ⟨1,cap,_,sp,rfl,rfl,by rw[aR hx,dc];exact dR⟩⟩⟩
   ·(refine⟨rfl,rfl,rfl,?_,trivial⟩;rw[<-ay (i:=z) aa];rfl)
   ·(repeat first|exact trivial|refine⟨rfl,?_⟩|refine⟨congrArg (λl=>some (_,l)) (bU (by first|exact bO.dm (by assumption)|exact af _|(rw[<-List.map_append];exact af _)) _ _),?_⟩)
   ·rfl
   ·(repeat first|exact trivial|refine⟨aw.lit rfl,?_⟩|refine⟨bO.oO (by assumption),?_⟩|refine⟨aw.append (.vals _) (.vals _),?_⟩|refine⟨aw.vals _,?_⟩)
  ·have nW:=mw.len
   refine VO.iP (bA _ _) (tN.el kk) (t:=133) (e:=228) (s:=122) (i:=123) (n:=n') (c:=c') (vs:=vs) (sp:=sp) (es:=(y.dp).take z) (a:=x) (cs:=[.string x.1,.bool x.2.1.s,.slice P1 x.2.1.xs.length C1,.bool x.2.1.t,.slice Y1 x.2.1.ys.length D1,.bool x.2.2.s,.slice P2 x.2.2.xs.length C2,.bool x.2.2.t,.slice Y2 x.2.2.ys.length D2]) rfl rfl rfl rfl rfl rfl rfl rfl (cr rfl) rfl (.inr rfl) rfl (mw.kp (tN.el kk) dz) rfl dE (by rw[List.length_take] at nW;omega) (λw9 ir fx ρ k9 b9 dY dR=>wV rfl ?_)
   refine ag ?_
   refine VS.back (ns-(z+1)) aa ⟨_,_,?_,?_,?_,?_,⟨z+1,_,_,by omega,rfl,rfl,rfl,.inr ⟨n' +1,ir,_,fx,rfl,rfl,by rw[aR hx];exact dR⟩⟩⟩
   ·(refine⟨rfl,rfl,rfl,?_,trivial⟩;rw[<-ay (i:=z) aa];rfl)
   ·(repeat first|exact trivial|refine⟨rfl,?_⟩|refine⟨congrArg (λl=>some (_,l)) (bU (by first|exact bO.dm (by assumption)|exact af _|(rw[<-List.map_append];exact af _)) _ _),?_⟩)
   ·rfl
   ·(repeat first|exact trivial|refine⟨aw.lit rfl,?_⟩|refine⟨bO.oO (by assumption),?_⟩|refine⟨aw.append (.vals _) (.vals _),?_⟩|refine⟨aw.vals _,?_⟩)
 refine VS.aN rfl (decide_eq_false (λh=>hlt (Int.ofNat_lt.1 h))) ?_
 obtain rfl:ns=z:=by omega
 rw[List.take_of_length_le (by rw[<-NV];exact Nat.le_refl _)] at hI
 refine VS.eV (λw=>bj Tryz.prog w 152) (λ_=>rfl) (λ_=>rfl) (λ_=>ax.refl _) (λo4 β k0 iZ en=> ?_)
 have hBo4:ax w o4:=eJ.az Ol iZ.1 (λx hx=>by rw[List.mem_singleton.1 hx];exact tG)
 have kTo4:jH (λt=> !Nat.beq t 136) a4 o4:=eJ.kp iZ.1 (λx hx=>⟨136,[.int .i64 y.num,.slice p1 y.holds.length c1,.slice p2 y.cf.length c2,.slice p3 y.dG.length c3,.slice none 0 0,.slice none 0 0],by rw[List.mem_singleton.1 hx];exact h3a4,rfl,rfl⟩)
 have h1o4:=h1a4.but iZ.1 (by simp[pE])
 have h2o4:=h2a4.but iZ.1 (by simp[sH])
 have r1o4:=r1a4.kp (iT.el kk) kTo4 rfl
 have r2o4:=r2a4.kp (iT.el kk) kTo4 rfl
 have r3o4:=r3a4.kp (sx.el kk) kTo4 rfl
 have aQ:=hI.told (tN.el kk) en (by intro q hq;rcases hI with ⟨_,rfl,rfl⟩|⟨_,_,_,_,rfl,rfl,_⟩ <;> first|(cases hq;done)|(cases List.mem_singleton.1 hq;rfl)) (aK.dN k0) w.heap.size (λh=>(ba (show ez 152 [g3] a4 123 (β 123) from h)).elim (λq=>Nat.le_trans iu q) (λq=>by rw[List.mem_singleton.1 q];exact tG))
 have ya:X.leaf β=X.aM β:=by rcases hI with ⟨_,rfl,rfl⟩|⟨_,_,_,_,rfl,rfl,_⟩ <;> rfl
 obtain⟨yc,da⟩:=lP (en.own 304 _ _ rfl) 0 g3 rfl rfl
 have h3o4:aL o4 g3 136 #[.int .i64 y.num,.slice p1 y.holds.length c1,.slice p2 y.cf.length c2,.slice p3 y.dG.length c3,X.aM β,.slice none 0 0]:=by rw[<-ya];exact da
 refine⟨[(1,.val (.pointer (some ⟨g1,0,none⟩))),(2,.val (.pointer (some ⟨g2,0,none⟩))),(3,.val (.pointer (some ⟨β 304,0,none⟩)))],⟨⟨_,_,rfl,rfl,rfl⟩,⟨_,_,rfl,rfl,rfl⟩,⟨_,_,rfl,rfl,rfl⟩,trivial⟩,?_⟩
 rw[yc]
 generalize X.aM β=vv at aQ h3o4
 obtain⟨p4,c4,rfl⟩:=aQ.form
 have r4o4:=aQ
 clear aQ ya da en hI yc
 refine VS.bI di (λt=>Nat.beq t 23) table (λ_ _ _=>trivial) (λa5 jk k1 fG jZ=> ?_)
 have ar:ax o4 a5:=fG
 have hBa5:ax w a5:=hBo4.aH ar
 have h1a5:=h1o4.az ar
 have h2a5:=h2o4.az ar
 have h3a5:=h3o4.az ar
 have r1a5:=r1o4.az (iT.el kk) ar
 have r2a5:=r2o4.az (iT.el kk) ar
 have r3a5:=r3o4.az (sx.el kk) ar
 have r4a5:=r4o4.az (tN.el kk) ar
 have iu:=hBa5.size
 have nP:g1≠g3:=pE
 have cZ:cM di 152 [g3] [(136,[.val (.int .i64 y.num),.val (.slice p1 y.holds.length c1),.val (.slice p2 y.cf.length c2),.val (.slice p3 y.dG.length c3),.val (.slice p4 y.dp.length c4),.val (.slice none 0 0)])] a5:=by
  refine⟨rfl,by simp,λj g' c' hj hc=> ?_,λc' hc=> ?_,λc' hc k hk=> ?_⟩
  ·match j,hj,hc with
   | 0,hj,hc=>cases hj;cases hc;exact h3a5
   | j+1,hj,_=>simp at hj
  ·cases List.mem_singleton.1 hc
   exact⟨rfl,rfl⟩
  ·cases List.mem_singleton.1 hc
   cases hk
 refine⟨[g3],[(136,[.val (.int .i64 y.num),.val (.slice p1 y.holds.length c1),.val (.slice p2 y.cf.length c2),.val (.slice p3 y.dG.length c3),.val (.slice p4 y.dp.length c4),.val (.slice none 0 0)])],cZ,[(1,.val (.pointer (some ⟨g1,0,none⟩))),(2,.val (.pointer (some ⟨g2,0,none⟩))),(3,.box 304 0)],⟨⟨_,rfl,rfl,λi hi=>(by cases hi)⟩,⟨_,rfl,rfl,λi hi=>(by cases hi)⟩,⟨_,rfl,rfl,λi hi=>by rw[(by simpa [AV.ids] using hi:i=304)];exact⟨(by show 304<=304;omega),(by show 304<2*152+1;omega)⟩⟩,trivial⟩,?_⟩
 have eG:∀ {b off:Nat} {cs:List Value},(∀ (j:Nat) (u:Value),cs[j]? =some u->w.cell? ((⟨b,off,none⟩:Addr).add j)=some u)->∀ (j:Nat) (u:Value),cs[j]? =some u->Cx.At (gV Tryz.prog a5 152 [g3] cZ.nodup cZ.ad) ((⟨b,off,none⟩:Addr).add j) u:=λh j u hj=>aY (λhm=>by
  have:=World.block_lt_of_cell? w _ (h j u hj)
  omega) (hBa5.cell (h j u hj))
 clear jZ
 refine ag ?_
 refine VS.loop (J:=λm L M w'=>∃ (z:Nat) (X:AV) (Mi:List (Nat×(TypeId×List AV))),z<=nq/\m=nq-z/\L=[(1,.val (.pointer (some ⟨g1,0,none⟩))),(2,.val (.pointer (some ⟨g2,0,none⟩))),(3,.box 304 0),(12,.val (.int .i64 (z:Int)))]/\M=(304,(136,[.val (.int .i64 y.num),.val (.slice p1 y.holds.length c1),.val (.slice p2 y.cf.length c2),.val (.slice p3 y.dG.length c3),.val (.slice p4 y.dp.length c4),X]))::Mi/\dD (uW kk) 5 232 149 X Mi w' ((y.gf).take z)) nq ⟨_,_,?_,?_,?_,?_,⟨0,_,[],by omega,rfl,rfl,rfl,.inl ⟨rfl,rfl,rfl⟩⟩⟩ ?_
 ·exact du
 ·exact du
 ·rfl
 ·exact iq
 rintro m L M wI ⟨z,X,Nz,hz,rfl,rfl,rfl,hI⟩
 refine VS.now (λwX kN bN=> ?_)
 replace hI:=hI.kp (uW.el kk) (aK.dN kN)
 have kAX:aK di a5 wX:=eJ.kp bN.1 cZ.ad
 refine VS.mask [148] (by rcases hI with ⟨_,rfl,rfl⟩|⟨_,_,_,_,rfl,rfl,_⟩ <;> (repeat first|exact trivial|refine⟨rfl,?_⟩)) ?_
 refine ag ?_
 refine VO.aO rfl [.slice pq nq cq] rfl (λj u hj=>aY (by rw[Addr.add_mid];exact nP) (aG (h1a5.cell (j:=5) rfl) j u hj)) (wV rfl ?_)
 refine ag ?_
 by_cases hlt:z<nq
 ·obtain⟨x,hx⟩:∃ x,(y.gf)[z]? =some x:=⟨_,List.getElem?_eq_getElem (by rw[<-NW];exact hlt)⟩
  obtain⟨b,off,uG,hp,hc,qZ⟩:=y5.at hx
  cases hp
  obtain⟨s6,KE,n6,Ia,t6,y6,m6,d6,rfl,nz⟩:=qZ
  have fI:=nz.raw.2
  refine VS.aU rfl (decide_eq_true (Int.ofNat_lt.2 hlt)) ?_
  refine ag ?_
  refine VO.aO rfl [.slice (some ⟨b,off,none⟩) nq cq] rfl (λj u hj=>aY (by rw[Addr.add_mid];exact nP) (aG (h1a5.cell (j:=5) rfl) j u hj)) (wV rfl ?_)
  refine ag ?_
  refine VO.cond rfl cW ?_
  refine wV rfl ?_
  refine ag ?_
  refine VO.aO rfl [.string x.1] rfl (eG (aC hc 0 _ ⟨_,rfl⟩)) (wV rfl ?_)
  refine ag ?_
  refine VO.aO rfl [.slice (some ⟨b,off,none⟩) nq cq] rfl (λj u hj=>aY (by rw[Addr.add_mid];exact nP) (aG (h1a5.cell (j:=5) rfl) j u hj)) (wV rfl ?_)
  refine ag ?_
  refine VO.cond rfl cW ?_
  refine wV rfl ?_
  refine ag ?_
  refine VO.aO rfl [.bool s6,.slice KE n6 Ia,.bool t6,.slice y6 m6 d6] rfl (eG (aC hc 1 _ ⟨[],rfl⟩)) (wV rfl ?_)
  refine ag ?_
  refine VO.call rfl rfl (fk Tryz.func21) (λbL dw bX=>(dJ _ _ _ _ _ bL ((nz.kp (Kp.of (U:=UU) hBa5)).raw.1.kp (show aK di a5 bL from dz)) aa aa).mono ?_)
  rintro o u1 ⟨r1,rfl,q1,bl⟩
  obtain⟨P1,C1,Y1,D1,rfl,_⟩:=q1.raw.lD
  refine nA bl ?_
  intro eM _ bb1
  have dE:uW kk u1 [.string x.1,.bool x.2.s,.slice P1 x.2.xs.length C1,.bool x.2.t,.slice Y1 x.2.ys.length D1] x:=uW.mk' (.mk q1.raw fI.1 fI.2)
  rcases hI with ⟨dc,rfl,rfl⟩|⟨n',c',vs,sp,rfl,rfl,mw⟩
  ·refine VO.iM (bA _ _) (uW.el kk) (t:=134) (e:=232) (s:=148) (a:=x) (cs:=[.string x.1,.bool x.2.s,.slice P1 x.2.xs.length C1,.bool x.2.t,.slice Y1 x.2.ys.length D1]) rfl rfl rfl rfl rfl rfl rfl rfl (cr rfl) rfl rfl rfl dE aa (λw9 cap sp k9 b9 dR=>wV rfl ?_)
   refine ag ?_
   refine VS.back (nq-(z+1)) aa ⟨_,_,?_,?_,?_,?_,⟨z+1,_,_,by omega,rfl,rfl,rfl,.inr ⟨1,cap,_,sp,rfl,rfl,by rw[aR hx,dc];exact dR⟩⟩⟩
   ·(refine⟨rfl,rfl,rfl,?_,trivial⟩;rw[<-ay (i:=z) aa];rfl)
   ·(repeat first|exact trivial|refine⟨rfl,?_⟩|refine⟨congrArg (λl=>some (_,l)) (bU (by first|exact bO.dm (by assumption)|exact af _|(rw[<-List.map_append];exact af _)) _ _),?_⟩)
   ·rfl
   ·(repeat first|exact trivial|refine⟨aw.lit rfl,?_⟩|refine⟨bO.oO (by assumption),?_⟩|refine⟨aw.append (.vals _) (.vals _),?_⟩|refine⟨aw.vals _,?_⟩)
  ·have nW:=mw.len
   refine VO.iP (bA _ _) (uW.el kk) (t:=134) (e:=232) (s:=148) (i:=149) (n:=n') (c:=c') (vs:=vs) (sp:=sp) (es:=(y.gf).take z) (a:=x) (cs:=[.string x.1,.bool x.2.s,.slice P1 x.2.xs.length C1,.bool x.2.t,.slice Y1 x.2.ys.length D1]) rfl rfl rfl rfl rfl rfl rfl rfl (cr rfl) rfl (.inr rfl) rfl (mw.kp (uW.el kk) dz) rfl dE (by rw[List.length_take] at nW;omega) (λw9 ir fx ρ k9 b9 dY dR=>wV rfl ?_)
   refine ag ?_
   refine VS.back (nq-(z+1)) aa ⟨_,_,?_,?_,?_,?_,⟨z+1,_,_,by omega,rfl,rfl,rfl,.inr ⟨n' +1,ir,_,fx,rfl,rfl,by rw[aR hx];exact dR⟩⟩⟩
   ·(refine⟨rfl,rfl,rfl,?_,trivial⟩;rw[<-ay (i:=z) aa];rfl)
   ·(repeat first|exact trivial|refine⟨rfl,?_⟩|refine⟨congrArg (λl=>some (_,l)) (bU (by first|exact bO.dm (by assumption)|exact af _|(rw[<-List.map_append];exact af _)) _ _),?_⟩)
   ·rfl
   ·(repeat first|exact trivial|refine⟨aw.lit rfl,?_⟩|refine⟨bO.oO (by assumption),?_⟩|refine⟨aw.append (.vals _) (.vals _),?_⟩|refine⟨aw.vals _,?_⟩)
 refine VS.aN rfl (decide_eq_false (λh=>hlt (Int.ofNat_lt.1 h))) ?_
 obtain rfl:nq=z:=by omega
 rw[List.take_of_length_le (by rw[<-NW];exact Nat.le_refl _)] at hI
 refine VS.eV (λw=>bj Tryz.prog w 152) (λ_=>rfl) (λ_=>rfl) (λ_=>ax.refl _) (λo5 β k0 iZ en=> ?_)
 have hBo5:ax w o5:=eJ.az hBa5 iZ.1 (λx hx=>by rw[List.mem_singleton.1 hx];exact tG)
 have kTo5:jH (λt=> !Nat.beq t 136) a5 o5:=eJ.kp iZ.1 (λx hx=>⟨136,[.int .i64 y.num,.slice p1 y.holds.length c1,.slice p2 y.cf.length c2,.slice p3 y.dG.length c3,.slice p4 y.dp.length c4,.slice none 0 0],by rw[List.mem_singleton.1 hx];exact h3a5,rfl,rfl⟩)
 have h1o5:=h1a5.but iZ.1 (by simp[pE])
 have h2o5:=h2a5.but iZ.1 (by simp[sH])
 have r1o5:=r1a5.kp (iT.el kk) kTo5 rfl
 have r2o5:=r2a5.kp (iT.el kk) kTo5 rfl
 have r3o5:=r3a5.kp (sx.el kk) kTo5 rfl
 have r4o5:=r4a5.kp (tN.el kk) kTo5 rfl
 have aQ:=hI.told (uW.el kk) en (by intro q hq;rcases hI with ⟨_,rfl,rfl⟩|⟨_,_,_,_,rfl,rfl,_⟩ <;> first|(cases hq;done)|(cases List.mem_singleton.1 hq;rfl)) (aK.dN k0) w.heap.size (λh=>(ba (show ez 152 [g3] a5 149 (β 149) from h)).elim (λq=>Nat.le_trans iu q) (λq=>by rw[List.mem_singleton.1 q];exact tG))
 have ya:X.leaf β=X.aM β:=by rcases hI with ⟨_,rfl,rfl⟩|⟨_,_,_,_,rfl,rfl,_⟩ <;> rfl
 obtain⟨yc,da⟩:=lP (en.own 304 _ _ rfl) 0 g3 rfl rfl
 have h3o5:aL o5 g3 136 #[.int .i64 y.num,.slice p1 y.holds.length c1,.slice p2 y.cf.length c2,.slice p3 y.dG.length c3,.slice p4 y.dp.length c4,X.aM β]:=by rw[<-ya];exact da
 refine⟨[(1,.val (.pointer (some ⟨g1,0,none⟩))),(2,.val (.pointer (some ⟨g2,0,none⟩))),(3,.val (.pointer (some ⟨β 304,0,none⟩)))],⟨⟨_,_,rfl,rfl,rfl⟩,⟨_,_,rfl,rfl,rfl⟩,⟨_,_,rfl,rfl,rfl⟩,trivial⟩,?_⟩
 rw[yc]
 generalize X.aM β=vv at aQ h3o5
 obtain⟨p5,c5,rfl⟩:=aQ.form
 have r5o5:=aQ
 clear aQ ya da en hI yc
 refine VS.bI di (λt=>Nat.beq t 23) table (λ_ _ _=>trivial) (λwE jk k1 fG jZ=> ?_)
 have ar:ax o5 wE:=fG
 have hBwE:ax w wE:=hBo5.aH ar
 have cZ:cM di 152 [g2] [(136,[.val (.int .i64 0),.val (.slice none 0 0),.val (.slice none 0 0),.val (.slice none 0 0),.val (.slice none 0 0),.val (.slice none 0 0)])] wE:=by
  refine⟨rfl,by simp,λj g' c' hj hc=> ?_,λc' hc=> ?_,λc' hc k hk=> ?_⟩
  ·match j,hj,hc with
   | 0,hj,hc=>cases hj;cases hc;exact h2o5.az ar
   | j+1,hj,_=>simp at hj
  ·cases List.mem_singleton.1 hc
   exact⟨rfl,rfl⟩
  ·cases List.mem_singleton.1 hc
   cases hk
 refine⟨[g2],[(136,[.val (.int .i64 0),.val (.slice none 0 0),.val (.slice none 0 0),.val (.slice none 0 0),.val (.slice none 0 0),.val (.slice none 0 0)])],cZ,[(2,.box 304 0),(3,.val (.pointer (some ⟨g3,0,none⟩)))],⟨⟨_,rfl,rfl,λi hi=>by rw[(by simpa [AV.ids] using hi:i=304)];exact⟨(by show 304<=304;omega),(by show 304<2*152+1;omega)⟩⟩,⟨_,rfl,rfl,λi hi=>(by cases hi)⟩,trivial⟩,?_⟩
 refine ag ?_
 refine VO.aO rfl [.int .i64 y.num,.slice p1 y.holds.length c1,.slice p2 y.cf.length c2,.slice p3 y.dG.length c3,.slice p4 y.dp.length c4,.slice p5 y.gf.length c5] rfl (λj u hj=>aY (by rw[Addr.add_mid];exact λh=>sH h.symm) (by rw[Addr.add_mid,Nat.zero_add];exact (h3o5.az ar).cell (by simpa using hj))) (wV rfl ?_)
 refine ag ?_
 refine VS.qh (bA _ _) rfl (λwz β kz bz en=> ?_)
 have GS:jH (λt=> !Nat.beq t 136) wE wz:=eJ.kp bz.1 (λx hx=>⟨136,[.int .i64 0,.slice none 0 0,.slice none 0 0,.slice none 0 0,.slice none 0 0,.slice none 0 0],by rw[List.mem_singleton.1 hx];exact h2o5.az ar,rfl,rfl⟩)
 exact⟨[_,_,_,_,_,_],rfl,⟨_,_,_,_,_,rfl,(r1o5.az (iT.el kk) ar).kp (iT.el kk) GS rfl,(r2o5.az (iT.el kk) ar).kp (iT.el kk) GS rfl,(r3o5.az (sx.el kk) ar).kp (sx.el kk) GS rfl,(r4o5.az (tN.el kk) ar).kp (tN.el kk) GS rfl,(r5o5.az (uW.el kk) ar).kp (uW.el kk) GS rfl⟩,eJ.az hBwE bz.1 (λx hx=>by rw[List.mem_singleton.1 hx];exact Ci)⟩
end
set_option maxRecDepth 4000
section
open Go.RowKit
attribute [local irreducible] aB VS
theorem EU.f {kk B:Nat} {w:World} {cs:List Value} {y:yO} (h:EU kk B w cs y):Bg kk w cs y:=by
 obtain⟨h,b,d,s,q,hv,h1,h2,h3,h4,h5⟩:=h
 exact⟨_,_,_,_,_,hv,h1.sl (iT.el kk),h2.sl (iT.el kk),h3.sl (sx.el kk),h4.sl (tN.el kk),h5.sl (uW.el kk)⟩
theorem EU.kp {kk B:Nat} {w w':World} {cs:List Value} {y:yO} {T:TypeId->Bool} (h:EU kk B w cs y) (k:jH T w w') (h1:T 220=true) (h2:T 141=true) (h3:T 224=true) (h4:T 228=true) (h5:T 232=true):EU kk B w' cs y:=by
 obtain⟨h,b,d,s,q,hv,g1,g2,g3,g4,g5⟩:=h
 exact⟨_,_,_,_,_,hv,g1.kp (iT.el kk) k h1,g2.kp (iT.el kk) k h2,g3.kp (sx.el kk) k h3,g4.kp (tN.el kk) k h4,g5.kp (uW.el kk) k h5⟩
theorem EU.mono {kk B B':Nat} {w:World} {cs:List Value} {y:yO} (h:EU kk B w cs y) (hB:B'<=B):EU kk B' w cs y:=by
 obtain⟨h,b,d,s,q,hv,g1,g2,g3,g4,g5⟩:=h
 exact⟨_,_,_,_,_,hv,g1.mono hB,g2.mono hB,g3.mono hB,g4.mono hB,g5.mono hB⟩
theorem EU.six {kk B:Nat} {w:World} {cs:List Value} {y:yO} (h:EU kk B w cs y):∃ p1 n1 c1 p2 n2 c2 p3 n3 c3 p4 n4 c4 p5 n5 c5,cs=[.int .i64 y.num,.slice p1 n1 c1,.slice p2 n2 c2,.slice p3 n3 c3,.slice p4 n4 c4,.slice p5 n5 c5]:=by
 obtain⟨h,b,d,s,q,rfl,g1,g2,g3,g4,g5⟩:=h
 obtain⟨p1,c1,rfl⟩:=g1.form
 obtain⟨p2,c2,rfl⟩:=g2.form
 obtain⟨p3,c3,rfl⟩:=g3.form
 obtain⟨p4,c4,rfl⟩:=g4.form
 obtain⟨p5,c5,rfl⟩:=g5.form
 exact⟨_,_,_,_,_,_,_,_,_,_,_,_,_,_,_,rfl⟩
def KF (kk B:Nat) (w:World) (v:Value) (f:iU):Prop:=∃ pB nB cB sT pT nT cT tT yT mT dT sC pC nC cC tC yC mC dC sI pI nI cI tI yI mI dI sF pF nF cF tF yF mF dF pc Nc cc pe Ne ce py Ny cy,v=.agg #[.string f.name,.string f.parent,.slice pB nB cB,.bool sT,.slice pT nT cT,.bool tT,.slice yT mT dT,.bool sC,.slice pC nC cC,.bool tC,.slice yC mC dC,.int .i64 f.bk,.int .i64 f.fw,.bool sI,.slice pI nI cI,.bool tI,.slice yI mI dI,.bool sF,.slice pF nF cF,.bool tF,.slice yF mF dF,.int .i64 f.kp,.slice pc Nc cc,.slice pe Ne ce,.slice py Ny cy]/\aE (qX kk) 8 129 B w (.slice pB nB cB) f.pZ/\bZ kk w [.bool sT,.slice pT nT cT,.bool tT,.slice yT mT dT] f.eW/\bZ kk w [.bool sC,.slice pC nC cC,.bool tC,.slice yC mC dC] f.cap/\bZ kk w [.bool sI,.slice pI nI cI,.bool tI,.slice yI mI dI] f.eX/\bZ kk w [.bool sF,.slice pF nF cF,.bool tF,.slice yF mF dF] f.eZ/\aE (oZ kk) 6 67 B w (.slice pc Nc cc) f.cls/\aE dv 1 9 B w (.slice pe Ne ce) f.bu/\∃ Lj,aE (CE 6) 6 136 B w (.slice py Ny cy) Lj/\Lj.length=f.iy.length/\∀ (i:Nat) (cs:List Value) (y:yO),Lj[i]? =some cs->f.iy[i]? =some y->EU kk B w cs y
theorem KF.e {kk B:Nat} {w:World} {v:Value} {f:iU} (h:KF kk B w v f):mz kk w v f:=by
 obtain⟨pB,nB,cB,sT,pT,nT,cT,tT,yT,mT,dT,sC,pC,nC,cC,tC,yC,mC,dC,sI,pI,nI,cI,tI,yI,mI,dI,sF,pF,nF,cF,tF,yF,mF,dF,pc,Nc,cc,pe,Ne,ce,py,Ny,cy,hv,h1,h2,h3,h4,h5,h6,h7,Lj,h8,h9,h10⟩:=h
 exact⟨_,_,_,_,_,_,_,_,_,_,_,_,_,_,_,_,_,_,_,_,_,_,_,_,_,_,_,_,_,_,_,_,_,_,_,_,_,_,_,_,_,_,_,_,hv,h1.sl (qX.el kk),h2,h3,h4,h5,h6.sl (oZ.el kk),h7.sl aJ,IB (h8.sl (mB 6)) h9 (λi u a hi ha=>(h10 i u a hi ha).f)⟩
abbrev EK:TypeId->Bool:=λt=>(Nat.beq t 129 || (Nat.beq t 67 || (Nat.beq t 9 || (Nat.beq t 136 || (Nat.beq t 220 || (Nat.beq t 141 || (Nat.beq t 224 || (Nat.beq t 228 || Nat.beq t 232))))))))
theorem KF.kp {kk B:Nat} {w w':World} {v:Value} {f:iU} {T:TypeId->Bool} (h:KF kk B w v f) (k:jH T w w') (hT:∀ t,EK t=true->T t=true):KF kk B w' v f:=by
 obtain⟨pB,nB,cB,sT,pT,nT,cT,tT,yT,mT,dT,sC,pC,nC,cC,tC,yC,mC,dC,sI,pI,nI,cI,tI,yI,mI,dI,sF,pF,nF,cF,tF,yF,mF,dF,pc,Nc,cc,pe,Ne,ce,py,Ny,cy,hv,h1,h2,h3,h4,h5,h6,h7,Lj,h8,h9,h10⟩:=h
 exact⟨_,_,_,_,_,_,_,_,_,_,_,_,_,_,_,_,_,_,_,_,_,_,_,_,_,_,_,_,_,_,_,_,_,_,_,_,_,_,_,_,_,_,_,_,hv,h1.kp (qX.el kk) k (hT _ rfl),h2.kp k,h3.kp k,h4.kp k,h5.kp k,h6.kp (oZ.el kk) k (hT _ rfl),h7.kp aJ k (hT _ rfl),Lj,h8.kp (mB 6) k (hT _ rfl),h9,λi cs y hi hy=>(h10 i cs y hi hy).kp k (hT _ rfl) (hT _ rfl) (hT _ rfl) (hT _ rfl) (hT _ rfl)⟩
abbrev Om:TypeId->Bool:=λt=>(Nat.beq t 220 || (Nat.beq t 141 || (Nat.beq t 224 || (Nat.beq t 228 || Nat.beq t 232))))
abbrev KY8:KC:=⟨UU,λ_=>True,λt=>Om t⟩
abbrev uY (P:Program) (w:World) (N:Nat) (ad:List Nat) (hd:ad.Nodup) (ha:iH KY8 ad w):Cx:=yD P w N KY8 (λt=>Nat.beq t 23) table (λ_ _=>trivial) ad hd ha
theorem vN (w:World) (N:Nat) {ad:List Nat} {hd:ad.Nodup} {ha:iH KY8 ad w}:(uY Tryz.prog w N ad hd ha).Ok:=eD
theorem GU (w:World) (N:Nat) {ad:List Nat} {hd:ad.Nodup} {ha:iH KY8 ad w}:(uY Tryz.prog w N ad hd ha).P.follows .mixedOrders=true:=by show Tryz.prog.follows .mixedOrders=true;kernel_rfl
section
variable {F F':Fr} {H H':Hp} {w w1:World} {N:Nat} {l':List Oper} {Q:Exit->Act->World->Prop} {k:List It} {id:Nat} {ops:Array Oper}
theorem cxY8_r {ad:List Nat} {hd:ad.Nodup} {ha:iH KY8 ad w1} (e:im (uY Tryz.prog w1 N ad hd ha) ops 80 ops.toList F H=(l',F',H')) (h:aB (uY Tryz.prog w1 N ad hd ha) none ops l' (VS (uY Tryz.prog w1 N ad hd ha) Q k) F' H' w):VS (uY Tryz.prog w1 N ad hd ha) Q (.code (.region id ops false)::k) F H w:=VS.region (vN _ _) (VO.run 80 e h)
theorem cxY8_d {ad:List Nat} {hd:ad.Nodup} {ha:iH KY8 ad w1} (e:im (uY Tryz.prog w1 N ad hd ha) ops 80 ops.toList F H=(l',F',H')) (h:aB (uY Tryz.prog w1 N ad hd ha) (some []) ops l' (VS (uY Tryz.prog w1 N ad hd ha) Q k) F' H' w) (iY:jO (uY Tryz.prog w1 N ad hd ha).SU [] ops=true:=by kernel_rfl):VS (uY Tryz.prog w1 N ad hd ha) Q (.code (.region id ops true)::k) F H w:=VS.draw (vN _ _) (GU _ _) [] iY (VO.run 80 e h)
end
theorem VS.hopW {C:Cx} {Q:Exit->Act->World->Prop} {F:Fr} {H:Hp} {w:World} {α:Type} {P:World->α->Prop} {D:World->Cx} {L:α->List (Nat×AV)} {Ni Nj:List It} (h1:(∀ W x,P W x->VS (D W) Q Nj (Fr.of (L x)) (λ_=>none) W)->VS C Q Ni F H w) (h2:∀ W x,P W x->VS (D W) Q Nj (Fr.of (L x)) (λ_=>none) W):VS C Q Ni F H w:=h1 h2
theorem EL {α:Type} {us:List (List Value)} {l:List α} {P:List Value->α->Prop} {u:List Value} {a:α} (h:∀ (i:Nat) (v:List Value) (x:α),us[i]? =some v->l[i]? =some x->P v x) (ha:l[us.length]? =some a) (hu:P u a):∀ (i:Nat) (v:List Value) (x:α),(us++[u])[i]? =some v->l[i]? =some x->P v x:=λi v x hi hx=>by
 by_cases hil:i<us.length
 ·rw[List.getElem?_append_left hil] at hi;exact h i v x hi hx
 ·rw[List.getElem?_append_right aa] at hi
  have:i=us.length:=by
   have:=(List.getElem?_eq_some_iff.1 hi).1
   simp at this;omega
  subst this
  rw[ha] at hx;cases hx
  simp at hi;subst hi;exact hu
theorem aE.nil0 {α:Type} {E:World->List Value->α->Prop} {sz:Nat} {t:TypeId} {B:Nat} {w:World} {es:List α} (h:0=es.length):aE E sz t B w (.slice none 0 0) es:=.inl ⟨rfl,List.length_eq_zero_iff.1 h.symm⟩
section
variable {C:Cx} {F:Fr} {H:Hp} {w:World} {m:Option (List FuncId)} {full:Array Oper} {K:Fr->Hp->World->Prop} {o:Oper} {r:List Oper}
theorem VO.appT0 {α:Type} {E:World->List Value->α->Prop} {sz:Nat} (hC:C.Ok) (hE:fD E sz) {t e:TypeId} {it ie:TI} {x y:Operand} {u:Value} {zs:List α} {dst:Nat}
  (e0:stepOf C full F H o=.call (.op o [.val (.slice none 0 0),.val u])) (ho:o.op=.call { callee:=.builtin .append,args:=#[x,y],argTypes:=#[t,t] })
  (AJ:C.ti t=some it) (dE:it.elem=some (e,sz)) (qI:C.ti e=some ie) (hU:C.K.fz e=false) (JG:ie.zero.cells.toList.all bf=true)
  (hd:o.dst=some dst) (hN:dst<C.N) (hl:lvl C.SU m o=2) (gj:H dst=none) (css:List (List Value)) (hcs:cJ E w zs css)
  (xm:∀ w1,aK C.K w w1->C.Old w1->∃ p cc,u=.slice p zs.length cc/\(zs.length=0\/∃ b off,p=some ⟨b,off,none⟩/\∀ (j:Nat) (q:Value),css.flatten[j]? =some q->w1.cell? ⟨b,off+j,none⟩=some q)) (hz:0<zs.length) (fh:zs.length*(24*sz)<=140737488355328)
  (hK:∀ w2 cap fx,aK C.K w w2->C.Old w2->bO E sz w2 zs.length cap css fx zs->aB C m full r K (F.bo o.dst (.row dst 0 zs.length cap)) (H.put dst (e,css.flatten.map AV.val++fx)) w2)
  (Lh:∀ w w',aK C.K w w'->Kp UU w w':=by first|exact λ_ _ h=>h|exact λ_ _ h=>h.dN):aB C m full (o::r) K F H w:=by
 obtain⟨j1,j2⟩:=hcs.ok hE
 refine VO.app hC e0 ho AJ dE qI hU JG hd hN hl (known:=[]) (spare:=[]) (del:=none) (n:=0) (c:=0) (mm:=zs.length) (news:=css.flatten.map .val) (.inl ⟨rfl,rfl,rfl,rfl,rfl,rfl,hz⟩) (.inl gj) ew ew aa aa ⟨rfl,rfl,af _⟩ ⟨rfl,rfl,bc j1⟩ (by rw[List.length_map,j2]) (by rw[Nat.zero_add];exact fh)
  (λw1 β k1 b1 ho=> ?_) (λw2 cap fx ρ k2 b2 dY h1 h2 h3 h4 h5=> ?_)
 ·obtain⟨p,cc,hu,sQ⟩:=xm w1 k1 b1
  refine⟨p,cc,hu,sQ.imp id (λ⟨b,off,hp,hc⟩=>⟨b,off,hp,λj q hj=> ?_⟩)⟩
  rw[aP] at hj
  exact hc j q hj
 ·have:=hK w2 cap fx k2 b2 ⟨rfl,hcs.kp hE (Lh _ _ k2),h4,h5,by omega,h2,by simpa using h3⟩
  have e':css.flatten.map AV.val++fx=([]++css.flatten.map .val)++fx:=by simp
  rw[e'] at this
  rw[Nat.zero_add]
  exact this
end
theorem lR {P Q:Prop} (h:Q) (i:Q->P:=by intro h;(repeat first|refine wN ?_|refine wP rfl ?_|refine cxY8_r rfl ?_|refine cxY8_d rfl ?_|refine wO rfl rfl ?_);exact h):P:=i h
theorem cTcxY8 {P Q X:Prop} (hb:X) (h:Q) (i:X->Q->P:=by intro hb h;refine⟨_,rfl,hb,λa b c=>wV rfl ?_⟩;refine lR ?_;revert a b c;exact h):P:=i hb h
set_option maxRecDepth 8000 in
theorem ye (v:Value) (f:iU) (kk:Nat) (w:World) (hv:mz kk w v f) (hs:NR f) (hk:kk<=1000):
  Calls Tryz.prog 11 #[v] w λo w'=>∃ r,o=.returned r/\KF kk w.heap.size w' r f/\ax w w':=by
 obtain⟨pB,nB,cB,sT,pT,nT,cT,tT,yT,mT,dT,sC,pC,nC,cC,tC,yC,mC,dC,sI,pI,nI,cI,tI,yI,mI,dI,sF,pF,nF,cF,tF,yF,mF,dF,pc,Nc,cc,pe,Ne,ce,py,Ny,cy,rfl,h1,h2,h3,h4,h5,h6,h7,h8⟩:=hv
 have hnB:nB=f.pZ.length:=by obtain⟨_,_,e,_⟩:=h1.form;cases e;rfl
 have Ev:Nc=f.cls.length:=by obtain⟨_,_,e,_⟩:=h6.form;cases e;rfl
 have NC:Ne=f.bu.length:=by obtain⟨_,_,e,_⟩:=h7.form;cases e;rfl
 have Lk:Ny=f.iy.length:=by obtain⟨_,_,e,_⟩:=h8.form;cases e;rfl
 have hsB:=hs.pZ
 have hsC:=hs.cls
 have hsE:=hs.bu
 have hsY:=hs.iy
 refine ai (C:=bj Tryz.prog w _) (args:=[_]) Tryz.func11 rfl Tryz.ntmps11 (cr rfl) ?_
 refine ae ?_
 have zT1:=h2.raw.2
 have zC1:=h3.raw.2
 have zI1:=h4.raw.2
 have zF1:=h5.raw.2
 refine VO.call rfl rfl (fk Tryz.func21) (λwaT1 kaT1 baT1=>(dJ _ _ _ _ _ waT1 ((h2.kp (Kp.of (U:=UU) baT1)).raw.1) aa aa).mono ?_)
 rintro e wT1 ⟨rT1,rfl,qT1,hbT1⟩
 obtain⟨BG,BH,BI,BJ,rfl,_⟩:=qT1.raw.lD
 refine cP hbT1 ?_
 intro kbT1 _ bbT1
 refine VO.call rfl rfl (fk Tryz.func21) (λwaC1 kaC1 baC1=>(dJ _ _ _ _ _ waC1 ((h3.kp (Kp.of (U:=UU) baC1)).raw.1) aa aa).mono ?_)
 rintro e wC1 ⟨rC1,rfl,qC1,hbC1⟩
 obtain⟨BK,BL,BM,BN,rfl,_⟩:=qC1.raw.lD
 refine cP hbC1 ?_
 intro kbC1 _ bbC1
 refine VO.call rfl rfl (fk Tryz.func21) (λwaI1 kaI1 baI1=>(dJ _ _ _ _ _ waI1 ((h4.kp (Kp.of (U:=UU) baI1)).raw.1) aa aa).mono ?_)
 rintro e wI1 ⟨rI1,rfl,qI1,hbI1⟩
 obtain⟨BO,BP,BQ,BR,rfl,_⟩:=qI1.raw.lD
 refine cP hbI1 ?_
 intro kbI1 _ bbI1
 refine VO.call rfl rfl (fk Tryz.func21) (λwaF1 kaF1 baF1=>(dJ _ _ _ _ _ waF1 ((h5.kp (Kp.of (U:=UU) baF1)).raw.1) aa aa).mono ?_)
 rintro e wF1 ⟨rF1,rfl,qF1,hbF1⟩
 obtain⟨BS,BU,BV,BW,rfl,_⟩:=qF1.raw.lD
 refine⟨_,rfl,hbF1,λkbF1 _ bbF1=>wV rfl ?_⟩
 (repeat (first|refine wN ?_|refine wP rfl ?_|refine wO rfl rfl ?_))
 apply VS.hopW (P:=λW (x:Nat×Nat×Nat×Value)=>ax w W/\aL W x.1 32 #[.string f.name,.string f.parent,.slice pB nB cB,.bool sT,.slice pT nT cT,.bool tT,.slice yT mT dT,.bool sC,.slice pC nC cC,.bool tC,.slice yC mC dC,.int .i64 f.bk,.int .i64 f.fw,.bool sI,.slice pI nI cI,.bool tI,.slice yI mI dI,.bool sF,.slice pF nF cF,.bool tF,.slice yF mF dF,.int .i64 f.kp,.slice pc Nc cc,.slice pe Ne ce,.slice py Ny cy]/\aL W x.2.1 42 #[.string ⟨#[]⟩,.string ⟨#[]⟩,.slice none 0 0,.bool false,.slice none 0 0,.bool false,.slice none 0 0,.bool false,.slice none 0 0,.bool false,.slice none 0 0,.int .i64 0,.int .i64 0,.bool false,.slice none 0 0,.bool false,.slice none 0 0,.bool false,.slice none 0 0,.bool false,.slice none 0 0,.int .i64 0,.slice none 0 0,.slice none 0 0,.slice none 0 0]/\aL W x.2.2.1 42 #[.string f.name,.string f.parent,.slice none 0 0,.bool f.eW.s,.slice BG f.eW.xs.length BH,.bool f.eW.t,.slice BI f.eW.ys.length BJ,.bool f.cap.s,.slice BK f.cap.xs.length BL,.bool f.cap.t,.slice BM f.cap.ys.length BN,.int .i64 f.bk,.int .i64 f.fw,.bool f.eX.s,.slice BO f.eX.xs.length BP,.bool f.eX.t,.slice BQ f.eX.ys.length BR,.bool f.eZ.s,.slice BS f.eZ.xs.length BU,.bool f.eZ.t,.slice BV f.eZ.ys.length BW,.int .i64 f.kp,.slice none 0 0,x.2.2.2,.slice none 0 0]/\aE dv 1 9 w.heap.size W x.2.2.2 f.bu/\w.heap.size<=x.2.1/\w.heap.size<=x.2.2.1/\x.2.1≠x.2.2.1/\bZ kk W [.bool f.eW.s,.slice BG f.eW.xs.length BH,.bool f.eW.t,.slice BI f.eW.ys.length BJ] f.eW/\bZ kk W [.bool f.cap.s,.slice BK f.cap.xs.length BL,.bool f.cap.t,.slice BM f.cap.ys.length BN] f.cap/\bZ kk W [.bool f.eX.s,.slice BO f.eX.xs.length BP,.bool f.eX.t,.slice BQ f.eX.ys.length BR] f.eX/\bZ kk W [.bool f.eZ.s,.slice BS f.eZ.xs.length BU,.bool f.eZ.t,.slice BV f.eZ.ys.length BW] f.eZ) (D:=λW=>bj Tryz.prog W 108) (L:=λx=>[(1,.val (.pointer (some ⟨x.1,0,none⟩))),(2,.val (.pointer (some ⟨x.2.1,0,none⟩))),(3,.val (.pointer (some ⟨x.2.2.1,0,none⟩)))])
 ·intro cont
  refine ae ?_
  by_cases hz:Ne=0
  ·subst hz
   refine VO.app0 (cV _ _) (sz:=1) rfl rfl rfl rfl rfl (λw1 β h1 h2 h3=>⟨pe,ce,rfl⟩) (λgm vK vL=>wV rfl ?_)
   (repeat (first|refine wN ?_|refine wP rfl ?_|refine wO rfl rfl ?_))
   refine VS.eV (λw=>bj Tryz.prog w 108) (λ_=>rfl) (λ_=>rfl) (λ_=>ax.refl _) (λw0 β k0 iZ en=> ?_)
   refine⟨[(1,.val (.pointer (some ⟨β 1,0,none⟩))),(2,.val (.pointer (some ⟨β 2,0,none⟩))),(3,.val (.pointer (some ⟨β 3,0,none⟩)))],⟨⟨_,_,rfl,rfl,rfl⟩,⟨_,_,rfl,rfl,rfl⟩,⟨_,_,rfl,rfl,rfl⟩,trivial⟩,cont w0 (β 1,β 2,β 3,.slice none 0 0) ⟨iZ,(en.own 1 _ _ rfl).cls,(en.own 2 _ _ rfl).cls,(en.own 3 _ _ rfl).cls,aE.nil0 NC,(en.own 2 _ _ rfl).new,(en.own 3 _ _ rfl).new,λh=>absurd (en.apart 2 3 (by intro h;cases h) (by intro h;cases h) h) cH,bZ.mk (r:=f.eW) (qT1.raw.kp (show Kp UU wT1 w0 from dz)) zT1.1 zT1.2,bZ.mk (r:=f.cap) (qC1.raw.kp (show Kp UU wC1 w0 from dz)) zC1.1 zC1.2,bZ.mk (r:=f.eX) (qI1.raw.kp (show Kp UU wI1 w0 from dz)) zI1.1 zI1.2,bZ.mk (r:=f.eZ) (qF1.raw.kp (show Kp UU wF1 w0 from dz)) zF1.1 zF1.2⟩⟩
  ·refine VO.appT0 (cV _ _) aJ (t:=29) (e:=9) (u:=.slice pe Ne ce) rfl rfl rfl rfl rfl rfl rfl rfl (cr rfl) rfl rfl (f.bu.map λs=>[.string s]) (pV _ f.bu) (λw1 k1 o1=>IP (h7.az aJ o1)) aa aa (λgm cap fx vK vL dR=>wV rfl ?_)
   (repeat (first|refine wN ?_|refine wP rfl ?_|refine wO rfl rfl ?_))
   refine VS.eV (λw=>bj Tryz.prog w 108) (λ_=>rfl) (λ_=>rfl) (λ_=>ax.refl _) (λw0 β k0 iZ en=> ?_)
   refine⟨[(1,.val (.pointer (some ⟨β 1,0,none⟩))),(2,.val (.pointer (some ⟨β 2,0,none⟩))),(3,.val (.pointer (some ⟨β 3,0,none⟩)))],⟨⟨_,_,rfl,rfl,rfl⟩,⟨_,_,rfl,rfl,rfl⟩,⟨_,_,rfl,rfl,rfl⟩,trivial⟩,cont w0 (β 1,β 2,β 3,.slice (some ⟨β 35,0,none⟩) f.bu.length cap) ⟨iZ,(en.own 1 _ _ rfl).cls,(en.own 2 _ _ rfl).cls,(en.own 3 _ _ rfl).cls,dR.new aJ (en.own 35 _ _ rfl) dz,(en.own 2 _ _ rfl).new,(en.own 3 _ _ rfl).new,λh=>absurd (en.apart 2 3 (by intro h;cases h) (by intro h;cases h) h) cH,bZ.mk (r:=f.eW) (qT1.raw.kp (show Kp UU wT1 w0 from dz)) zT1.1 zT1.2,bZ.mk (r:=f.cap) (qC1.raw.kp (show Kp UU wC1 w0 from dz)) zC1.1 zC1.2,bZ.mk (r:=f.eX) (qI1.raw.kp (show Kp UU wI1 w0 from dz)) zI1.1 zI1.2,bZ.mk (r:=f.eZ) (qF1.raw.kp (show Kp UU wF1 w0 from dz)) zF1.1 zF1.2⟩⟩
 rintro w0 ⟨g1,g2,g3,vE⟩ ⟨GD,Bo,Oa,GO,r0w0,Ci,tG,sH,fTw0,fCw0,fIw0,fFw0⟩
 dsimp only at Bo Oa GO r0w0 Ci tG sH ⊢
 obtain⟨p0,c0,rfl⟩:=r0w0.form
 have pE:g1≠g3:=λh=>by rw[h] at Bo;exact absurd (bt Bo GO) cH
 refine VS.bI di (λt=>Nat.beq t 23) table (λ_ _ _=>trivial) (λa1 jk k1 fG jZ=> ?_)
 have ar:ax w0 a1:=fG
 have hb01:=ar
 have yR:ax w a1:=GD.aH ar
 have EJ:=Bo.az ar
 have h2a1:=Oa.az ar
 have Ob:=GO.az ar
 have r0a1:=r0w0.az aJ ar
 have iu:=yR.size
 have nP:g1≠g3:=pE
 have cZ:cM di 108 [g3] [(42,[.val (.string f.name),.val (.string f.parent),.val (.slice none 0 0),.val (.bool f.eW.s),.val (.slice BG f.eW.xs.length BH),.val (.bool f.eW.t),.val (.slice BI f.eW.ys.length BJ),.val (.bool f.cap.s),.val (.slice BK f.cap.xs.length BL),.val (.bool f.cap.t),.val (.slice BM f.cap.ys.length BN),.val (.int .i64 f.bk),.val (.int .i64 f.fw),.val (.bool f.eX.s),.val (.slice BO f.eX.xs.length BP),.val (.bool f.eX.t),.val (.slice BQ f.eX.ys.length BR),.val (.bool f.eZ.s),.val (.slice BS f.eZ.xs.length BU),.val (.bool f.eZ.t),.val (.slice BV f.eZ.ys.length BW),.val (.int .i64 f.kp),.val (.slice none 0 0),.val (.slice p0 f.bu.length c0),.val (.slice none 0 0)])] a1:=by
  refine⟨rfl,by simp,λj g' c' hj hc=> ?_,λc' hc=> ?_,λc' hc k hk=> ?_⟩
  ·match j,hj,hc with
   | 0,hj,hc=>cases hj;cases hc;exact Ob
   | j+1,hj,_=>simp at hj
  ·cases List.mem_singleton.1 hc
   exact⟨rfl,rfl⟩
  ·cases List.mem_singleton.1 hc
   cases hk
 refine⟨[g3],[(42,[.val (.string f.name),.val (.string f.parent),.val (.slice none 0 0),.val (.bool f.eW.s),.val (.slice BG f.eW.xs.length BH),.val (.bool f.eW.t),.val (.slice BI f.eW.ys.length BJ),.val (.bool f.cap.s),.val (.slice BK f.cap.xs.length BL),.val (.bool f.cap.t),.val (.slice BM f.cap.ys.length BN),.val (.int .i64 f.bk),.val (.int .i64 f.fw),.val (.bool f.eX.s),.val (.slice BO f.eX.xs.length BP),.val (.bool f.eX.t),.val (.slice BQ f.eX.ys.length BR),.val (.bool f.eZ.s),.val (.slice BS f.eZ.xs.length BU),.val (.bool f.eZ.t),.val (.slice BV f.eZ.ys.length BW),.val (.int .i64 f.kp),.val (.slice none 0 0),.val (.slice p0 f.bu.length c0),.val (.slice none 0 0)])],cZ,[(1,.val (.pointer (some ⟨g1,0,none⟩))),(2,.val (.pointer (some ⟨g2,0,none⟩))),(3,.box 216 0)],⟨⟨_,rfl,rfl,λi hi=>(by cases hi)⟩,⟨_,rfl,rfl,λi hi=>(by cases hi)⟩,⟨_,rfl,rfl,λi hi=>by rw[(by simpa [AV.ids] using hi:i=216)];exact⟨(by show 216<=216;omega),(by show 216<2*108+1;omega)⟩⟩,trivial⟩,?_⟩
 have eG:∀ {b off:Nat} {cs:List Value},(∀ (j:Nat) (u:Value),cs[j]? =some u->w.cell? ((⟨b,off,none⟩:Addr).add j)=some u)->∀ (j:Nat) (u:Value),cs[j]? =some u->Cx.At (gV Tryz.prog a1 108 [g3] cZ.nodup cZ.ad) ((⟨b,off,none⟩:Addr).add j) u:=λh j u hj=>aY (λhm=>by
  have:=World.block_lt_of_cell? w _ (h j u hj)
  omega) (yR.cell (h j u hj))
 clear jZ
 refine ag ?_
 refine VS.loop (J:=λm L M w'=>∃ (z:Nat) (X:AV) (Mi:List (Nat×(TypeId×List AV))),z<=nB/\m=nB-z/\L=[(1,.val (.pointer (some ⟨g1,0,none⟩))),(2,.val (.pointer (some ⟨g2,0,none⟩))),(3,.box 216 0),(4,.val (.int .i64 (z:Int)))]/\M=(216,(42,[.val (.string f.name),.val (.string f.parent),X,.val (.bool f.eW.s),.val (.slice BG f.eW.xs.length BH),.val (.bool f.eW.t),.val (.slice BI f.eW.ys.length BJ),.val (.bool f.cap.s),.val (.slice BK f.cap.xs.length BL),.val (.bool f.cap.t),.val (.slice BM f.cap.ys.length BN),.val (.int .i64 f.bk),.val (.int .i64 f.fw),.val (.bool f.eX.s),.val (.slice BO f.eX.xs.length BP),.val (.bool f.eX.t),.val (.slice BQ f.eX.ys.length BR),.val (.bool f.eZ.s),.val (.slice BS f.eZ.xs.length BU),.val (.bool f.eZ.t),.val (.slice BV f.eZ.ys.length BW),.val (.int .i64 f.kp),.val (.slice none 0 0),.val (.slice p0 f.bu.length c0),.val (.slice none 0 0)]))::Mi/\dD (qX kk) 8 129 62 X Mi w' ((f.pZ).take z)) nB ⟨_,_,?_,?_,?_,?_,⟨0,_,[],by omega,rfl,rfl,rfl,.inl ⟨rfl,rfl,rfl⟩⟩⟩ ?_
 ·exact du
 ·exact du
 ·rfl
 ·exact iq
 rintro m L M wI ⟨z,X,Nz,hz,rfl,rfl,rfl,hI⟩
 refine VS.now (λwX kN bN=> ?_)
 replace hI:=hI.kp (qX.el kk) (aK.dN kN)
 have kAX:aK di a1 wX:=eJ.kp bN.1 cZ.ad
 refine VS.mask [61] (by rcases hI with ⟨_,rfl,rfl⟩|⟨_,_,_,_,rfl,rfl,_⟩ <;> (repeat first|exact trivial|refine⟨rfl,?_⟩)) ?_
 refine ag ?_
 refine VO.aO rfl [.slice pB nB cB] rfl (λj u hj=>aY (by rw[Addr.add_mid];exact nP) (aG (EJ.cell (j:=2) rfl) j u hj)) (wV rfl ?_)
 refine ag ?_
 by_cases hlt:z<nB
 ·obtain⟨x,hx⟩:∃ x,(f.pZ)[z]? =some x:=⟨_,List.getElem?_eq_getElem (by rw[<-hnB];exact hlt)⟩
  obtain⟨b,off,uG,hp,hc,qZ⟩:=h1.at hx
  cases hp
  obtain⟨s6,KE,n6,Ia,t6,y6,m6,d6,s7,p7',n7,c7',t7,y7,m7,d7,rfl,nz,IJ⟩:=qZ
  have fI:=nz.raw.2
  have jf:=IJ.raw.2
  refine VS.aU rfl (decide_eq_true (Int.ofNat_lt.2 hlt)) ?_
  refine ag ?_
  refine VO.aO rfl [.slice (some ⟨b,off,none⟩) nB cB] rfl (λj u hj=>aY (by rw[Addr.add_mid];exact nP) (aG (EJ.cell (j:=2) rfl) j u hj)) (wV rfl ?_)
  refine ag ?_
  refine VO.cond rfl cW ?_
  refine wV rfl ?_
  refine ag ?_
  refine VO.aO rfl [.bool s6,.slice KE n6 Ia,.bool t6,.slice y6 m6 d6] rfl (eG (aC hc 0 _ ⟨_,rfl⟩)) (wV rfl ?_)
  refine ag ?_
  refine VO.call rfl rfl (fk Tryz.func21) (λbL dw bX=>(dJ _ _ _ _ _ bL ((nz.kp (Kp.of (U:=UU) yR)).raw.1.kp (show aK di a1 bL from dz)) aa aa).mono ?_)
  rintro o u1 ⟨r1,rfl,q1,bl⟩
  obtain⟨P1,C1,Y1,D1,rfl,_⟩:=q1.raw.lD
  refine nA bl ?_
  intro eM _ bb1
  refine VO.aO rfl [.slice (some ⟨b,off,none⟩) nB cB] rfl (λj u hj=>aY (by rw[Addr.add_mid];exact nP) (aG (EJ.cell (j:=2) rfl) j u hj)) (wV rfl ?_)
  refine ag ?_
  refine VO.cond rfl cW ?_
  refine wV rfl ?_
  refine ag ?_
  refine VO.aO rfl [.bool s7,.slice p7' n7 c7',.bool t7,.slice y7 m7 d7] rfl (eG (aC hc 4 _ ⟨[],rfl⟩)) (wV rfl ?_)
  refine ag ?_
  refine VO.call rfl rfl (fk Tryz.func21) (λdh eU dQ=>(dJ _ _ _ _ _ dh ((IJ.kp (Kp.of (U:=UU) yR)).raw.1.kp (show aK di a1 dh from dz)) aa aa).mono ?_)
  rintro o u2 ⟨r2,rfl,q2,bM⟩
  obtain⟨P2,C2,Y2,D2,rfl,_⟩:=q2.raw.lD
  refine nA bM ?_
  intro gr _ bb2
  have dE:qX kk u2 [.bool x.1.s,.slice P1 x.1.xs.length C1,.bool x.1.t,.slice Y1 x.1.ys.length D1,.bool x.2.s,.slice P2 x.2.xs.length C2,.bool x.2.t,.slice Y2 x.2.ys.length D2] x:=qX.mk' (.mk (q1.raw.kp (show aK di u1 u2 from dz)) fI.1 fI.2) (.mk q2.raw jf.1 jf.2)
  rcases hI with ⟨dc,rfl,rfl⟩|⟨n',c',vs,sp,rfl,rfl,mw⟩
  ·refine VO.iM (bA _ _) (qX.el kk) (t:=35) (e:=129) (s:=61) (a:=x) (cs:=[.bool x.1.s,.slice P1 x.1.xs.length C1,.bool x.1.t,.slice Y1 x.1.ys.length D1,.bool x.2.s,.slice P2 x.2.xs.length C2,.bool x.2.t,.slice Y2 x.2.ys.length D2]) rfl rfl rfl rfl rfl rfl rfl rfl (cr rfl) rfl rfl rfl dE aa (λw9 cap sp k9 b9 dR=>wV rfl ?_)
   refine ag ?_
   refine VS.back (nB-(z+1)) aa ⟨_,_,?_,?_,?_,?_,⟨z+1,_,_,by omega,rfl,rfl,rfl,.inr ⟨1,cap,_,sp,rfl,rfl,by rw[aR hx,dc];exact dR⟩⟩⟩
   ·(refine⟨rfl,rfl,rfl,?_,trivial⟩;rw[<-ay (i:=z) aa];rfl)
   ·(repeat first|exact trivial|refine⟨rfl,?_⟩|refine⟨congrArg (λl=>some (_,l)) (bU (by first|exact bO.dm (by assumption)|exact af _|(rw[<-List.map_append];exact af _)) _ _),?_⟩)
   ·rfl
   ·(repeat first|exact trivial|refine⟨aw.lit rfl,?_⟩|refine⟨bO.oO (by assumption),?_⟩|refine⟨aw.append (.vals _) (.vals _),?_⟩|refine⟨aw.vals _,?_⟩)
  ·have nW:=mw.len
   refine VO.iP (bA _ _) (qX.el kk) (t:=35) (e:=129) (s:=61) (i:=62) (n:=n') (c:=c') (vs:=vs) (sp:=sp) (es:=(f.pZ).take z) (a:=x) (cs:=[.bool x.1.s,.slice P1 x.1.xs.length C1,.bool x.1.t,.slice Y1 x.1.ys.length D1,.bool x.2.s,.slice P2 x.2.xs.length C2,.bool x.2.t,.slice Y2 x.2.ys.length D2]) rfl rfl rfl rfl rfl rfl rfl rfl (cr rfl) rfl (.inr rfl) rfl (mw.kp (qX.el kk) dz) rfl dE (by rw[List.length_take] at nW;omega) (λw9 ir fx ρ k9 b9 dY dR=>wV rfl ?_)
   refine ag ?_
   refine VS.back (nB-(z+1)) aa ⟨_,_,?_,?_,?_,?_,⟨z+1,_,_,by omega,rfl,rfl,rfl,.inr ⟨n' +1,ir,_,fx,rfl,rfl,by rw[aR hx];exact dR⟩⟩⟩
   ·(refine⟨rfl,rfl,rfl,?_,trivial⟩;rw[<-ay (i:=z) aa];rfl)
   ·(repeat first|exact trivial|refine⟨rfl,?_⟩|refine⟨congrArg (λl=>some (_,l)) (bU (by first|exact bO.dm (by assumption)|exact af _|(rw[<-List.map_append];exact af _)) _ _),?_⟩)
   ·rfl
   ·(repeat first|exact trivial|refine⟨aw.lit rfl,?_⟩|refine⟨bO.oO (by assumption),?_⟩|refine⟨aw.append (.vals _) (.vals _),?_⟩|refine⟨aw.vals _,?_⟩)
 refine VS.aN rfl (decide_eq_false (λh=>hlt (Int.ofNat_lt.1 h))) ?_
 obtain rfl:nB=z:=by omega
 rw[List.take_of_length_le (by rw[<-hnB];exact Nat.le_refl _)] at hI
 refine VS.eV (λw=>bj Tryz.prog w 108) (λ_=>rfl) (λ_=>rfl) (λ_=>ax.refl _) (λo1 β k0 iZ en=> ?_)
 have hBo1:ax w o1:=eJ.az yR iZ.1 (λx hx=>by rw[List.mem_singleton.1 hx];exact tG)
 have kTo1:jH (λt=> !Nat.beq t 42) a1 o1:=eJ.kp iZ.1 (λx hx=>⟨42,[.string f.name,.string f.parent,.slice none 0 0,.bool f.eW.s,.slice BG f.eW.xs.length BH,.bool f.eW.t,.slice BI f.eW.ys.length BJ,.bool f.cap.s,.slice BK f.cap.xs.length BL,.bool f.cap.t,.slice BM f.cap.ys.length BN,.int .i64 f.bk,.int .i64 f.fw,.bool f.eX.s,.slice BO f.eX.xs.length BP,.bool f.eX.t,.slice BQ f.eX.ys.length BR,.bool f.eZ.s,.slice BS f.eZ.xs.length BU,.bool f.eZ.t,.slice BV f.eZ.ys.length BW,.int .i64 f.kp,.slice none 0 0,.slice p0 f.bu.length c0,.slice none 0 0],by rw[List.mem_singleton.1 hx];exact Ob,rfl,rfl⟩)
 have h1o1:=EJ.but iZ.1 (by simp[pE])
 have h2o1:=h2a1.but iZ.1 (by simp[sH])
 have r0o1:=r0a1.kp aJ kTo1 rfl
 have aQ:=hI.told (qX.el kk) en (by intro q hq;rcases hI with ⟨_,rfl,rfl⟩|⟨_,_,_,_,rfl,rfl,_⟩ <;> first|(cases hq;done)|(cases List.mem_singleton.1 hq;rfl)) (aK.dN k0) w.heap.size (λh=>(ba (show ez 108 [g3] a1 62 (β 62) from h)).elim (λq=>Nat.le_trans iu q) (λq=>by rw[List.mem_singleton.1 q];exact tG))
 have ya:X.leaf β=X.aM β:=by rcases hI with ⟨_,rfl,rfl⟩|⟨_,_,_,_,rfl,rfl,_⟩ <;> rfl
 obtain⟨yc,da⟩:=lP (en.own 216 _ _ rfl) 0 g3 rfl rfl
 have Oc:aL o1 g3 42 #[.string f.name,.string f.parent,X.aM β,.bool f.eW.s,.slice BG f.eW.xs.length BH,.bool f.eW.t,.slice BI f.eW.ys.length BJ,.bool f.cap.s,.slice BK f.cap.xs.length BL,.bool f.cap.t,.slice BM f.cap.ys.length BN,.int .i64 f.bk,.int .i64 f.fw,.bool f.eX.s,.slice BO f.eX.xs.length BP,.bool f.eX.t,.slice BQ f.eX.ys.length BR,.bool f.eZ.s,.slice BS f.eZ.xs.length BU,.bool f.eZ.t,.slice BV f.eZ.ys.length BW,.int .i64 f.kp,.slice none 0 0,.slice p0 f.bu.length c0,.slice none 0 0]:=by rw[<-ya];exact da
 refine⟨[(1,.val (.pointer (some ⟨g1,0,none⟩))),(2,.val (.pointer (some ⟨g2,0,none⟩))),(3,.val (.pointer (some ⟨β 216,0,none⟩)))],⟨⟨_,_,rfl,rfl,rfl⟩,⟨_,_,rfl,rfl,rfl⟩,⟨_,_,rfl,rfl,rfl⟩,trivial⟩,?_⟩
 rw[yc]
 generalize X.aM β=vv at aQ Oc
 obtain⟨pb,cb,rfl⟩:=aQ.form
 have rbo1:=aQ
 clear aQ ya da en hI yc
 refine VS.bI di (λt=>Nat.beq t 23) table (λ_ _ _=>trivial) (λa2 jk k1 fG jZ=> ?_)
 have ar:ax o1 a2:=fG
 have yM:=ar
 have Bp:ax w a2:=hBo1.aH ar
 have GP:=h1o1.az ar
 have h2a2:=h2o1.az ar
 have Od:=Oc.az ar
 have r0a2:=r0o1.az aJ ar
 have rba2:=rbo1.az (qX.el kk) ar
 have iu:=Bp.size
 have nP:g1≠g3:=pE
 have cZ:cM di 108 [g3] [(42,[.val (.string f.name),.val (.string f.parent),.val (.slice pb f.pZ.length cb),.val (.bool f.eW.s),.val (.slice BG f.eW.xs.length BH),.val (.bool f.eW.t),.val (.slice BI f.eW.ys.length BJ),.val (.bool f.cap.s),.val (.slice BK f.cap.xs.length BL),.val (.bool f.cap.t),.val (.slice BM f.cap.ys.length BN),.val (.int .i64 f.bk),.val (.int .i64 f.fw),.val (.bool f.eX.s),.val (.slice BO f.eX.xs.length BP),.val (.bool f.eX.t),.val (.slice BQ f.eX.ys.length BR),.val (.bool f.eZ.s),.val (.slice BS f.eZ.xs.length BU),.val (.bool f.eZ.t),.val (.slice BV f.eZ.ys.length BW),.val (.int .i64 f.kp),.val (.slice none 0 0),.val (.slice p0 f.bu.length c0),.val (.slice none 0 0)])] a2:=by
  refine⟨rfl,by simp,λj g' c' hj hc=> ?_,λc' hc=> ?_,λc' hc k hk=> ?_⟩
  ·match j,hj,hc with
   | 0,hj,hc=>cases hj;cases hc;exact Od
   | j+1,hj,_=>simp at hj
  ·cases List.mem_singleton.1 hc
   exact⟨rfl,rfl⟩
  ·cases List.mem_singleton.1 hc
   cases hk
 refine⟨[g3],[(42,[.val (.string f.name),.val (.string f.parent),.val (.slice pb f.pZ.length cb),.val (.bool f.eW.s),.val (.slice BG f.eW.xs.length BH),.val (.bool f.eW.t),.val (.slice BI f.eW.ys.length BJ),.val (.bool f.cap.s),.val (.slice BK f.cap.xs.length BL),.val (.bool f.cap.t),.val (.slice BM f.cap.ys.length BN),.val (.int .i64 f.bk),.val (.int .i64 f.fw),.val (.bool f.eX.s),.val (.slice BO f.eX.xs.length BP),.val (.bool f.eX.t),.val (.slice BQ f.eX.ys.length BR),.val (.bool f.eZ.s),.val (.slice BS f.eZ.xs.length BU),.val (.bool f.eZ.t),.val (.slice BV f.eZ.ys.length BW),.val (.int .i64 f.kp),.val (.slice none 0 0),.val (.slice p0 f.bu.length c0),.val (.slice none 0 0)])],cZ,[(1,.val (.pointer (some ⟨g1,0,none⟩))),(2,.val (.pointer (some ⟨g2,0,none⟩))),(3,.box 216 0)],⟨⟨_,rfl,rfl,λi hi=>(by cases hi)⟩,⟨_,rfl,rfl,λi hi=>(by cases hi)⟩,⟨_,rfl,rfl,λi hi=>by rw[(by simpa [AV.ids] using hi:i=216)];exact⟨(by show 216<=216;omega),(by show 216<2*108+1;omega)⟩⟩,trivial⟩,?_⟩
 have eG:∀ {b off:Nat} {cs:List Value},(∀ (j:Nat) (u:Value),cs[j]? =some u->w.cell? ((⟨b,off,none⟩:Addr).add j)=some u)->∀ (j:Nat) (u:Value),cs[j]? =some u->Cx.At (gV Tryz.prog a2 108 [g3] cZ.nodup cZ.ad) ((⟨b,off,none⟩:Addr).add j) u:=λh j u hj=>aY (λhm=>by
  have:=World.block_lt_of_cell? w _ (h j u hj)
  omega) (Bp.cell (h j u hj))
 clear jZ
 refine ag ?_
 refine VS.loop (J:=λm L M w'=>∃ (z:Nat) (X:AV) (Mi:List (Nat×(TypeId×List AV))),z<=Nc/\m=Nc-z/\L=[(1,.val (.pointer (some ⟨g1,0,none⟩))),(2,.val (.pointer (some ⟨g2,0,none⟩))),(3,.box 216 0),(5,.val (.int .i64 (z:Int)))]/\M=(216,(42,[.val (.string f.name),.val (.string f.parent),.val (.slice pb f.pZ.length cb),.val (.bool f.eW.s),.val (.slice BG f.eW.xs.length BH),.val (.bool f.eW.t),.val (.slice BI f.eW.ys.length BJ),.val (.bool f.cap.s),.val (.slice BK f.cap.xs.length BL),.val (.bool f.cap.t),.val (.slice BM f.cap.ys.length BN),.val (.int .i64 f.bk),.val (.int .i64 f.fw),.val (.bool f.eX.s),.val (.slice BO f.eX.xs.length BP),.val (.bool f.eX.t),.val (.slice BQ f.eX.ys.length BR),.val (.bool f.eZ.s),.val (.slice BS f.eZ.xs.length BU),.val (.bool f.eZ.t),.val (.slice BV f.eZ.ys.length BW),.val (.int .i64 f.kp),X,.val (.slice p0 f.bu.length c0),.val (.slice none 0 0)]))::Mi/\dD (oZ kk) 6 67 87 X Mi w' ((f.cls).take z)) Nc ⟨_,_,?_,?_,?_,?_,⟨0,_,[],by omega,rfl,rfl,rfl,.inl ⟨rfl,rfl,rfl⟩⟩⟩ ?_
 ·exact du
 ·exact du
 ·rfl
 ·exact iq
 rintro m L M wI ⟨z,X,Nz,hz,rfl,rfl,rfl,hI⟩
 refine VS.now (λwX kN bN=> ?_)
 replace hI:=hI.kp (oZ.el kk) (aK.dN kN)
 have kAX:aK di a2 wX:=eJ.kp bN.1 cZ.ad
 refine VS.mask [6,86] (by rcases hI with ⟨_,rfl,rfl⟩|⟨_,_,_,_,rfl,rfl,_⟩ <;> (repeat first|exact trivial|refine⟨rfl,?_⟩)) ?_
 refine ag ?_
 refine VO.aO rfl [.slice pc Nc cc] rfl (λj u hj=>aY (by rw[Addr.add_mid];exact nP) (aG (GP.cell (j:=22) rfl) j u hj)) (wV rfl ?_)
 refine ag ?_
 by_cases hlt:z<Nc
 ·obtain⟨x,hx⟩:∃ x,(f.cls)[z]? =some x:=⟨_,List.getElem?_eq_getElem (by rw[<-Ev];exact hlt)⟩
  obtain⟨b,off,uG,hp,hc,qZ⟩:=h6.at hx
  cases hp
  obtain⟨s6,KE,n6,Ia,t6,y6,m6,d6,rfl,nz,Oi⟩:=qZ
  have fI:=nz.raw.2
  refine VS.aU rfl (decide_eq_true (Int.ofNat_lt.2 hlt)) ?_
  refine ag ?_
  refine VO.aO rfl [.slice (some ⟨b,off,none⟩) Nc cc] rfl (λj u hj=>aY (by rw[Addr.add_mid];exact nP) (aG (GP.cell (j:=22) rfl) j u hj)) (wV rfl ?_)
  refine ag ?_
  refine VO.cond rfl cW ?_
  refine wV rfl ?_
  refine ag ?_
  refine VO.aO rfl [.string x.1,.int .u8 (x.2.1:Int),.bool s6,.slice KE n6 Ia,.bool t6,.slice y6 m6 d6] rfl (eG (aC hc 0 _ ⟨[],rfl⟩)) (wV rfl ?_)
  refine ag ?_
  refine VO.call rfl rfl (fk Tryz.func21) (λbL dw bX=>(dJ _ _ _ _ _ bL ((nz.kp (Kp.of (U:=UU) Bp)).raw.1.kp (show aK di a2 bL from dz)) aa aa).mono ?_)
  rintro o u1 ⟨r1,rfl,q1,bl⟩
  obtain⟨P1,C1,Y1,D1,rfl,_⟩:=q1.raw.lD
  refine nA bl ?_
  intro eM _ bb1
  have dE:oZ kk u1 [.string x.1,.int .u8 (x.2.1:Int),.bool x.2.2.s,.slice P1 x.2.2.xs.length C1,.bool x.2.2.t,.slice Y1 x.2.2.ys.length D1] x:=oZ.mk' (.mk q1.raw fI.1 fI.2) Oi
  rcases hI with ⟨dc,rfl,rfl⟩|⟨n',c',vs,sp,rfl,rfl,mw⟩
  ·refine VO.iM (bA _ _) (oZ.el kk) (t:=39) (e:=67) (s:=86) (a:=x) (cs:=[.string x.1,.int .u8 (x.2.1:Int),.bool x.2.2.s,.slice P1 x.2.2.xs.length C1,.bool x.2.2.t,.slice Y1 x.2.2.ys.length D1]) rfl rfl rfl rfl rfl rfl rfl rfl (cr rfl) rfl rfl rfl dE aa (λw9 cap sp k9 b9 dR=>wV rfl ?_)
   refine ag ?_
   refine VS.back (Nc-(z+1)) aa ⟨_,_,?_,?_,?_,?_,⟨z+1,_,_,by omega,rfl,rfl,rfl,.inr ⟨1,cap,_,sp,rfl,rfl,by rw[aR hx,dc];exact dR⟩⟩⟩
   ·(refine⟨rfl,rfl,rfl,?_,trivial⟩;rw[<-ay (i:=z) aa];rfl)
   ·(repeat first|exact trivial|refine⟨rfl,?_⟩|refine⟨congrArg (λl=>some (_,l)) (bU (by first|exact bO.dm (by assumption)|exact af _|(rw[<-List.map_append];exact af _)) _ _),?_⟩)
   ·rfl
   ·(repeat first|exact trivial|refine⟨aw.lit rfl,?_⟩|refine⟨bO.oO (by assumption),?_⟩|refine⟨aw.append (.vals _) (.vals _),?_⟩|refine⟨aw.vals _,?_⟩)
  ·have nW:=mw.len
   refine VO.iP (bA _ _) (oZ.el kk) (t:=39) (e:=67) (s:=86) (i:=87) (n:=n') (c:=c') (vs:=vs) (sp:=sp) (es:=(f.cls).take z) (a:=x) (cs:=[.string x.1,.int .u8 (x.2.1:Int),.bool x.2.2.s,.slice P1 x.2.2.xs.length C1,.bool x.2.2.t,.slice Y1 x.2.2.ys.length D1]) rfl rfl rfl rfl rfl rfl rfl rfl (cr rfl) rfl (.inr rfl) rfl (mw.kp (oZ.el kk) dz) rfl dE (by rw[List.length_take] at nW;omega) (λw9 ir fx ρ k9 b9 dY dR=>wV rfl ?_)
   refine ag ?_
   refine VS.back (Nc-(z+1)) aa ⟨_,_,?_,?_,?_,?_,⟨z+1,_,_,by omega,rfl,rfl,rfl,.inr ⟨n' +1,ir,_,fx,rfl,rfl,by rw[aR hx];exact dR⟩⟩⟩
   ·(refine⟨rfl,rfl,rfl,?_,trivial⟩;rw[<-ay (i:=z) aa];rfl)
   ·(repeat first|exact trivial|refine⟨rfl,?_⟩|refine⟨congrArg (λl=>some (_,l)) (bU (by first|exact bO.dm (by assumption)|exact af _|(rw[<-List.map_append];exact af _)) _ _),?_⟩)
   ·rfl
   ·(repeat first|exact trivial|refine⟨aw.lit rfl,?_⟩|refine⟨bO.oO (by assumption),?_⟩|refine⟨aw.append (.vals _) (.vals _),?_⟩|refine⟨aw.vals _,?_⟩)
 refine VS.aN rfl (decide_eq_false (λh=>hlt (Int.ofNat_lt.1 h))) ?_
 obtain rfl:Nc=z:=by omega
 rw[List.take_of_length_le (by rw[<-Ev];exact Nat.le_refl _)] at hI
 refine VS.eV (λw=>bj Tryz.prog w 108) (λ_=>rfl) (λ_=>rfl) (λ_=>ax.refl _) (λo2 β k0 iZ en=> ?_)
 have hBo2:ax w o2:=eJ.az Bp iZ.1 (λx hx=>by rw[List.mem_singleton.1 hx];exact tG)
 have Oe:jH (λt=> !Nat.beq t 42) a2 o2:=eJ.kp iZ.1 (λx hx=>⟨42,[.string f.name,.string f.parent,.slice pb f.pZ.length cb,.bool f.eW.s,.slice BG f.eW.xs.length BH,.bool f.eW.t,.slice BI f.eW.ys.length BJ,.bool f.cap.s,.slice BK f.cap.xs.length BL,.bool f.cap.t,.slice BM f.cap.ys.length BN,.int .i64 f.bk,.int .i64 f.fw,.bool f.eX.s,.slice BO f.eX.xs.length BP,.bool f.eX.t,.slice BQ f.eX.ys.length BR,.bool f.eZ.s,.slice BS f.eZ.xs.length BU,.bool f.eZ.t,.slice BV f.eZ.ys.length BW,.int .i64 f.kp,.slice none 0 0,.slice p0 f.bu.length c0,.slice none 0 0],by rw[List.mem_singleton.1 hx];exact Od,rfl,rfl⟩)
 have h1o2:=GP.but iZ.1 (by simp[pE])
 have h2o2:=h2a2.but iZ.1 (by simp[sH])
 have r0o2:=r0a2.kp aJ Oe rfl
 have rbo2:=rba2.kp (qX.el kk) Oe rfl
 have aQ:=hI.told (oZ.el kk) en (by intro q hq;rcases hI with ⟨_,rfl,rfl⟩|⟨_,_,_,_,rfl,rfl,_⟩ <;> first|(cases hq;done)|(cases List.mem_singleton.1 hq;rfl)) (aK.dN k0) w.heap.size (λh=>(ba (show ez 108 [g3] a2 87 (β 87) from h)).elim (λq=>Nat.le_trans iu q) (λq=>by rw[List.mem_singleton.1 q];exact tG))
 have ya:X.leaf β=X.aM β:=by rcases hI with ⟨_,rfl,rfl⟩|⟨_,_,_,_,rfl,rfl,_⟩ <;> rfl
 obtain⟨yc,da⟩:=lP (en.own 216 _ _ rfl) 0 g3 rfl rfl
 have Og:aL o2 g3 42 #[.string f.name,.string f.parent,.slice pb f.pZ.length cb,.bool f.eW.s,.slice BG f.eW.xs.length BH,.bool f.eW.t,.slice BI f.eW.ys.length BJ,.bool f.cap.s,.slice BK f.cap.xs.length BL,.bool f.cap.t,.slice BM f.cap.ys.length BN,.int .i64 f.bk,.int .i64 f.fw,.bool f.eX.s,.slice BO f.eX.xs.length BP,.bool f.eX.t,.slice BQ f.eX.ys.length BR,.bool f.eZ.s,.slice BS f.eZ.xs.length BU,.bool f.eZ.t,.slice BV f.eZ.ys.length BW,.int .i64 f.kp,X.aM β,.slice p0 f.bu.length c0,.slice none 0 0]:=by rw[<-ya];exact da
 refine⟨[(1,.val (.pointer (some ⟨g1,0,none⟩))),(2,.val (.pointer (some ⟨g2,0,none⟩))),(3,.val (.pointer (some ⟨β 216,0,none⟩)))],⟨⟨_,_,rfl,rfl,rfl⟩,⟨_,_,rfl,rfl,rfl⟩,⟨_,_,rfl,rfl,rfl⟩,trivial⟩,?_⟩
 rw[yc]
 generalize X.aM β=vv at aQ Og
 obtain⟨pk,ck,rfl⟩:=aQ.form
 have rko2:=aQ
 clear aQ ya da en hI yc
 refine VS.bI KY8 (λt=>Nat.beq t 23) table (λ_ _ _=>trivial) (λa3 jk k1 fG jZ=> ?_)
 have ar:ax o2 a3:=fG
 have hb23:=ar
 have yS:ax w a3:=hBo2.aH ar
 have GQ:=h1o2.az ar
 have h2a3:=h2o2.az ar
 have Oh:=Og.az ar
 have r0a3:=r0o2.az aJ ar
 have rba3:=rbo2.az (qX.el kk) ar
 have rka3:=rko2.az (oZ.el kk) ar
 have iu:=yS.size
 have nP:g1≠g3:=pE
 have cZ:cM KY8 108 [g3] [(42,[.val (.string f.name),.val (.string f.parent),.val (.slice pb f.pZ.length cb),.val (.bool f.eW.s),.val (.slice BG f.eW.xs.length BH),.val (.bool f.eW.t),.val (.slice BI f.eW.ys.length BJ),.val (.bool f.cap.s),.val (.slice BK f.cap.xs.length BL),.val (.bool f.cap.t),.val (.slice BM f.cap.ys.length BN),.val (.int .i64 f.bk),.val (.int .i64 f.fw),.val (.bool f.eX.s),.val (.slice BO f.eX.xs.length BP),.val (.bool f.eX.t),.val (.slice BQ f.eX.ys.length BR),.val (.bool f.eZ.s),.val (.slice BS f.eZ.xs.length BU),.val (.bool f.eZ.t),.val (.slice BV f.eZ.ys.length BW),.val (.int .i64 f.kp),.val (.slice pk f.cls.length ck),.val (.slice p0 f.bu.length c0),.val (.slice none 0 0)])] a3:=by
  refine⟨rfl,by simp,λj g' c' hj hc=> ?_,λc' hc=> ?_,λc' hc k hk=> ?_⟩
  ·match j,hj,hc with
   | 0,hj,hc=>cases hj;cases hc;exact Oh
   | j+1,hj,_=>simp at hj
  ·cases List.mem_singleton.1 hc
   exact⟨rfl,rfl⟩
  ·cases List.mem_singleton.1 hc
   cases hk
 refine⟨[g3],[(42,[.val (.string f.name),.val (.string f.parent),.val (.slice pb f.pZ.length cb),.val (.bool f.eW.s),.val (.slice BG f.eW.xs.length BH),.val (.bool f.eW.t),.val (.slice BI f.eW.ys.length BJ),.val (.bool f.cap.s),.val (.slice BK f.cap.xs.length BL),.val (.bool f.cap.t),.val (.slice BM f.cap.ys.length BN),.val (.int .i64 f.bk),.val (.int .i64 f.fw),.val (.bool f.eX.s),.val (.slice BO f.eX.xs.length BP),.val (.bool f.eX.t),.val (.slice BQ f.eX.ys.length BR),.val (.bool f.eZ.s),.val (.slice BS f.eZ.xs.length BU),.val (.bool f.eZ.t),.val (.slice BV f.eZ.ys.length BW),.val (.int .i64 f.kp),.val (.slice pk f.cls.length ck),.val (.slice p0 f.bu.length c0),.val (.slice none 0 0)])],cZ,[(1,.val (.pointer (some ⟨g1,0,none⟩))),(2,.val (.pointer (some ⟨g2,0,none⟩))),(3,.box 216 0)],⟨⟨_,rfl,rfl,λi hi=>(by cases hi)⟩,⟨_,rfl,rfl,λi hi=>(by cases hi)⟩,⟨_,rfl,rfl,λi hi=>by rw[(by simpa [AV.ids] using hi:i=216)];exact⟨(by show 216<=216;omega),(by show 216<2*108+1;omega)⟩⟩,trivial⟩,?_⟩
 have eG:∀ {b off:Nat} {cs:List Value},(∀ (j:Nat) (u:Value),cs[j]? =some u->w.cell? ((⟨b,off,none⟩:Addr).add j)=some u)->∀ (j:Nat) (u:Value),cs[j]? =some u->Cx.At (uY Tryz.prog a3 108 [g3] cZ.nodup cZ.ad) ((⟨b,off,none⟩:Addr).add j) u:=λh j u hj=>aY (λhm=>by
  have:=World.block_lt_of_cell? w _ (h j u hj)
  omega) (yS.cell (h j u hj))
 clear jZ
 refine lR ?_
 refine VS.loop (J:=λm L M w'=>∃ (z:Nat) (X:AV) (Mi:List (Nat×(TypeId×List AV))) (us:List (List Value)),z<=Ny/\m=Ny-z/\L=[(1,.val (.pointer (some ⟨g1,0,none⟩))),(2,.val (.pointer (some ⟨g2,0,none⟩))),(3,.box 216 0),(7,.val (.int .i64 (z:Int)))]/\M=(216,(42,[.val (.string f.name),.val (.string f.parent),.val (.slice pb f.pZ.length cb),.val (.bool f.eW.s),.val (.slice BG f.eW.xs.length BH),.val (.bool f.eW.t),.val (.slice BI f.eW.ys.length BJ),.val (.bool f.cap.s),.val (.slice BK f.cap.xs.length BL),.val (.bool f.cap.t),.val (.slice BM f.cap.ys.length BN),.val (.int .i64 f.bk),.val (.int .i64 f.fw),.val (.bool f.eX.s),.val (.slice BO f.eX.xs.length BP),.val (.bool f.eX.t),.val (.slice BQ f.eX.ys.length BR),.val (.bool f.eZ.s),.val (.slice BS f.eZ.xs.length BU),.val (.bool f.eZ.t),.val (.slice BV f.eZ.ys.length BW),.val (.int .i64 f.kp),.val (.slice pk f.cls.length ck),.val (.slice p0 f.bu.length c0),X]))::Mi/\dD (CE 6) 6 136 105 X Mi w' us/\us.length=z/\∀ (i:Nat) (cs:List Value) (y:yO),us[i]? =some cs->f.iy[i]? =some y->EU kk w.heap.size w' cs y) Ny ⟨_,_,?_,?_,?_,?_,⟨0,_,[],[],by omega,rfl,rfl,rfl,.inl ⟨rfl,rfl,rfl⟩,rfl,λi cs y hi=>(by simp at hi)⟩⟩ ?_
 ·exact du
 ·exact du
 ·rfl
 ·exact iq
 rintro m L M wI ⟨z,X,Nz,us,hz,rfl,rfl,rfl,hI,ze,sw⟩
 refine VS.now (λwX kN bN=> ?_)
 replace hI:=hI.kp (mB 6) (aK.dN kN)
 have kAX:aK KY8 a3 wX:=eJ.kp bN.1 cZ.ad
 refine VS.mask [104] (by rcases hI with ⟨_,rfl,rfl⟩|⟨_,_,_,_,rfl,rfl,_⟩ <;> (repeat first|exact trivial|refine⟨rfl,?_⟩)) ?_
 refine lR ?_
 refine VO.aO rfl [.slice py Ny cy] rfl (λj u hj=>aY (by rw[Addr.add_mid];exact nP) (aG (GQ.cell (j:=24) rfl) j u hj)) (wV rfl ?_)
 refine lR ?_
 by_cases hlt:z<Ny
 ·subst ze
  obtain⟨x,hx⟩:∃ x,(f.iy)[us.length]? =some x:=⟨_,List.getElem?_eq_getElem (by rw[<-Lk];exact hlt)⟩
  obtain⟨b,off,uG,hp,hc,qZ⟩:=h8.at hx
  cases hp
  obtain⟨yh,yb,yd,ys,yq,rfl,y1,y2,y3,y4,y5⟩:=qZ
  have hyr:Bg kk w [.int .i64 x.num,yh,yb,yd,ys,yq] x:=⟨_,_,_,_,_,rfl,y1,y2,y3,y4,y5⟩
  obtain⟨ph,nh,ch,rfl⟩:∃ p n c,yh=.slice p n c:=by obtain⟨p,c,e⟩:=y1.sl;exact⟨_,_,_,e⟩
  obtain⟨pb,nb,cb,rfl⟩:∃ p n c,yb=.slice p n c:=by obtain⟨p,c,e⟩:=y2.sl;exact⟨_,_,_,e⟩
  obtain⟨pd,nd,cd,rfl⟩:∃ p n c,yd=.slice p n c:=by obtain⟨p,c,e⟩:=y3.sl;exact⟨_,_,_,e⟩
  obtain⟨ps,ns,cs,rfl⟩:∃ p n c,ys=.slice p n c:=by obtain⟨p,c,e⟩:=y4.sl;exact⟨_,_,_,e⟩
  obtain⟨pq,nq,cq,rfl⟩:∃ p n c,yq=.slice p n c:=by obtain⟨p,c,e⟩:=y5.sl;exact⟨_,_,_,e⟩
  refine VS.aU rfl (decide_eq_true (Int.ofNat_lt.2 hlt)) ?_
  refine lR ?_
  refine VO.aO rfl [.slice (some ⟨b,off,none⟩) Ny cy] rfl (λj u hj=>aY (by rw[Addr.add_mid];exact nP) (aG (GQ.cell (j:=24) rfl) j u hj)) (wV rfl ?_)
  refine lR ?_
  refine VO.cond rfl cW ?_
  refine wV rfl ?_
  refine lR ?_
  refine VO.aO rfl [.int .i64 x.num,.slice ph nh ch,.slice pb nb cb,.slice pd nd cd,.slice ps ns cs,.slice pq nq cq] rfl (eG (aC hc 0 _ ⟨[],rfl⟩)) (wV rfl ?_)
  refine lR ?_
  refine VO.call rfl rfl (fk Tryz.func58) (λbL dw bX=>(EI [.int .i64 x.num,.slice ph nh ch,.slice pb nb cb,.slice pd nd cd,.slice ps ns cs,.slice pq nq cq] x kk bL (Bg.b kk hyr (eJ.az yS bX.1 (λx hx=>by rw[List.mem_singleton.1 hx];exact tG))) hk (hs.each x (List.mem_of_getElem? hx))).mono ?_)
  rintro o u1 ⟨r1,rfl,q1,bl⟩
  obtain⟨P1,N1,C1,P2,N2,C2,P3,N3,C3,P4,N4,C4,P5,N5,C5,rfl⟩:=q1.six
  have hszA:w.heap.size<=bL.heap.size:=(eJ.az yS bX.1 (λx hx=>by rw[List.mem_singleton.1 hx];exact tG)).size
  refine cTcxY8 bl ?_
  intro eM _ bb1
  have dE:CE 6 u1 [.int .i64 x.num,.slice P1 N1 C1,.slice P2 N2 C2,.slice P3 N3 C3,.slice P4 N4 C4,.slice P5 N5 C5] [Value.int .i64 x.num,.slice P1 N1 C1,.slice P2 N2 C2,.slice P3 N3 C3,.slice P4 N4 C4,.slice P5 N5 C5]:=⟨rfl,rfl,rfl⟩
  rcases hI with ⟨dc,rfl,rfl⟩|⟨n',c',vs,sp,rfl,rfl,mw⟩
  ·refine VO.iM (vN _ _) (mB 6) (t:=40) (e:=136) (s:=104) (a:=[Value.int .i64 x.num,.slice P1 N1 C1,.slice P2 N2 C2,.slice P3 N3 C3,.slice P4 N4 C4,.slice P5 N5 C5]) (cs:=[.int .i64 x.num,.slice P1 N1 C1,.slice P2 N2 C2,.slice P3 N3 C3,.slice P4 N4 C4,.slice P5 N5 C5]) rfl rfl rfl rfl rfl rfl rfl rfl (cr rfl) rfl rfl rfl dE aa (λw9 cap sp k9 b9 dR=>wV rfl ?_)
   refine lR ?_
   refine VS.back (Ny-(us.length+1)) aa ⟨_,_,?_,?_,?_,?_,⟨us.length+1,_,_,us++[[Value.int .i64 x.num,.slice P1 N1 C1,.slice P2 N2 C2,.slice P3 N3 C3,.slice P4 N4 C4,.slice P5 N5 C5]],by omega,rfl,rfl,rfl,.inr ⟨1,cap,_,sp,rfl,rfl,by rw[dc];exact dR⟩,by simp,?_⟩⟩
   ·(refine⟨rfl,rfl,rfl,?_,trivial⟩;rw[<-ay (i:=us.length) aa];rfl)
   ·(repeat first|exact trivial|refine⟨rfl,?_⟩|refine⟨congrArg (λl=>some (_,l)) (bU (by first|exact bO.dm (by assumption)|exact af _|(rw[<-List.map_append];exact af _)) _ _),?_⟩)
   ·rfl
   ·(repeat first|exact trivial|refine⟨aw.lit rfl,?_⟩|refine⟨bO.oO (by assumption),?_⟩|refine⟨aw.append (.vals _) (.vals _),?_⟩|refine⟨aw.vals _,?_⟩)
   ·exact EL (us:=us) (l:=f.iy) (P:=λcs y=>EU kk w.heap.size w9 cs y) (λi cs y hi hy=>(sw i cs y hi hy).kp (T:=Om) (show jH Om wI w9 from dz) rfl rfl rfl rfl rfl) hx ((q1.kp (T:=Om) (show jH Om u1 w9 from dz) rfl rfl rfl rfl rfl).mono hszA)
  ·have nW:=mw.len
   refine VO.iP (vN _ _) (mB 6) (t:=40) (e:=136) (s:=104) (i:=105) (n:=n') (c:=c') (vs:=vs) (sp:=sp) (es:=us) (a:=[Value.int .i64 x.num,.slice P1 N1 C1,.slice P2 N2 C2,.slice P3 N3 C3,.slice P4 N4 C4,.slice P5 N5 C5]) (cs:=[.int .i64 x.num,.slice P1 N1 C1,.slice P2 N2 C2,.slice P3 N3 C3,.slice P4 N4 C4,.slice P5 N5 C5]) rfl rfl rfl rfl rfl rfl rfl rfl (cr rfl) rfl (.inr rfl) rfl (mw.kp (mB 6) (aK.dN (show aK KY8 wX _ from dz))) rfl dE aa (λw9 ir fx ρ k9 b9 dY dR=>wV rfl ?_)
   refine lR ?_
   refine VS.back (Ny-(us.length+1)) aa ⟨_,_,?_,?_,?_,?_,⟨us.length+1,_,_,us++[[Value.int .i64 x.num,.slice P1 N1 C1,.slice P2 N2 C2,.slice P3 N3 C3,.slice P4 N4 C4,.slice P5 N5 C5]],by omega,rfl,rfl,rfl,.inr ⟨n' +1,ir,_,fx,rfl,rfl,dR⟩,by simp,?_⟩⟩
   ·(refine⟨rfl,rfl,rfl,?_,trivial⟩;rw[<-ay (i:=us.length) aa];rfl)
   ·(repeat first|exact trivial|refine⟨rfl,?_⟩|refine⟨congrArg (λl=>some (_,l)) (bU (by first|exact bO.dm (by assumption)|exact af _|(rw[<-List.map_append];exact af _)) _ _),?_⟩)
   ·rfl
   ·(repeat first|exact trivial|refine⟨aw.lit rfl,?_⟩|refine⟨bO.oO (by assumption),?_⟩|refine⟨aw.append (.vals _) (.vals _),?_⟩|refine⟨aw.vals _,?_⟩)
   ·exact EL (us:=us) (l:=f.iy) (P:=λcs y=>EU kk w.heap.size w9 cs y) (λi cs y hi hy=>(sw i cs y hi hy).kp (T:=Om) (show jH Om wI w9 from dz) rfl rfl rfl rfl rfl) hx ((q1.kp (T:=Om) (show jH Om u1 w9 from dz) rfl rfl rfl rfl rfl).mono hszA)
 refine VS.aN rfl (decide_eq_false (λh=>hlt (Int.ofNat_lt.1 h))) ?_
 obtain rfl:Ny=z:=by omega
 refine VS.eV (λw=>bj Tryz.prog w 108) (λ_=>rfl) (λ_=>rfl) (λ_=>ax.refl _) (λo3 β k0 iZ en=> ?_)
 have hBo3:ax w o3:=eJ.az yS iZ.1 (λx hx=>by rw[List.mem_singleton.1 hx];exact tG)
 have GR:jH (λt=> !Nat.beq t 42) a3 o3:=eJ.kp iZ.1 (λx hx=>⟨42,[.string f.name,.string f.parent,.slice pb f.pZ.length cb,.bool f.eW.s,.slice BG f.eW.xs.length BH,.bool f.eW.t,.slice BI f.eW.ys.length BJ,.bool f.cap.s,.slice BK f.cap.xs.length BL,.bool f.cap.t,.slice BM f.cap.ys.length BN,.int .i64 f.bk,.int .i64 f.fw,.bool f.eX.s,.slice BO f.eX.xs.length BP,.bool f.eX.t,.slice BQ f.eX.ys.length BR,.bool f.eZ.s,.slice BS f.eZ.xs.length BU,.bool f.eZ.t,.slice BV f.eZ.ys.length BW,.int .i64 f.kp,.slice pk f.cls.length ck,.slice p0 f.bu.length c0,.slice none 0 0],by rw[List.mem_singleton.1 hx];exact Oh,rfl,rfl⟩)
 have h1o3:=GQ.but iZ.1 (by simp[pE])
 have h2o3:=h2a3.but iZ.1 (by simp[sH])
 have r0o3:=r0a3.kp aJ GR rfl
 have rbo3:=rba3.kp (qX.el kk) GR rfl
 have rko3:=rka3.kp (oZ.el kk) GR rfl
 have aQ:=hI.told (mB 6) en (by intro q hq;rcases hI with ⟨_,rfl,rfl⟩|⟨_,_,_,_,rfl,rfl,_⟩ <;> first|(cases hq;done)|(cases List.mem_singleton.1 hq;rfl)) (aK.dN k0) w.heap.size (λh=>(ba (show ez 108 [g3] a3 105 (β 105) from h)).elim (λq=>Nat.le_trans iu q) (λq=>by rw[List.mem_singleton.1 q];exact tG))
 have ya:X.leaf β=X.aM β:=by rcases hI with ⟨_,rfl,rfl⟩|⟨_,_,_,_,rfl,rfl,_⟩ <;> rfl
 obtain⟨yc,da⟩:=lP (en.own 216 _ _ rfl) 0 g3 rfl rfl
 have Oj:aL o3 g3 42 #[.string f.name,.string f.parent,.slice pb f.pZ.length cb,.bool f.eW.s,.slice BG f.eW.xs.length BH,.bool f.eW.t,.slice BI f.eW.ys.length BJ,.bool f.cap.s,.slice BK f.cap.xs.length BL,.bool f.cap.t,.slice BM f.cap.ys.length BN,.int .i64 f.bk,.int .i64 f.fw,.bool f.eX.s,.slice BO f.eX.xs.length BP,.bool f.eX.t,.slice BQ f.eX.ys.length BR,.bool f.eZ.s,.slice BS f.eZ.xs.length BU,.bool f.eZ.t,.slice BV f.eZ.ys.length BW,.int .i64 f.kp,.slice pk f.cls.length ck,.slice p0 f.bu.length c0,X.aM β]:=by rw[<-ya];exact da
 refine⟨[(1,.val (.pointer (some ⟨g1,0,none⟩))),(2,.val (.pointer (some ⟨g2,0,none⟩))),(3,.val (.pointer (some ⟨β 216,0,none⟩)))],⟨⟨_,_,rfl,rfl,rfl⟩,⟨_,_,rfl,rfl,rfl⟩,⟨_,_,rfl,rfl,rfl⟩,trivial⟩,?_⟩
 rw[yc]
 generalize X.aM β=vv at aQ Oj
 obtain⟨py,cy,rfl⟩:=aQ.form
 have ryo3:=aQ
 have huso3:∀ (i:Nat) (cs:List Value) (y:yO),us[i]? =some cs->f.iy[i]? =some y->EU kk w.heap.size o3 cs y:=λi cs y hi hy=>(sw i cs y hi hy).kp (T:=Om) (show jH Om wI o3 from dz) rfl rfl rfl rfl rfl
 clear aQ ya da en hI yc
 have kAll:Kp UU w0 o3:=(Kp.of (U:=UU) (show ax w0 a1 from hb01)).aH (aK.dN kTo1 |>.aH ((Kp.of (U:=UU) yM).aH (aK.dN Oe |>.aH ((Kp.of (U:=UU) hb23).aH (aK.dN GR)))))
 refine VS.bI di (λt=>Nat.beq t 23) table (λ_ _ _=>trivial) (λwE jk k1 fG jZ=> ?_)
 have ar:ax o3 wE:=fG
 have hBwE:ax w wE:=hBo3.aH ar
 have cZ:cM di 108 [g2] [(42,[.val (.string ⟨#[]⟩),.val (.string ⟨#[]⟩),.val (.slice none 0 0),.val (.bool false),.val (.slice none 0 0),.val (.bool false),.val (.slice none 0 0),.val (.bool false),.val (.slice none 0 0),.val (.bool false),.val (.slice none 0 0),.val (.int .i64 0),.val (.int .i64 0),.val (.bool false),.val (.slice none 0 0),.val (.bool false),.val (.slice none 0 0),.val (.bool false),.val (.slice none 0 0),.val (.bool false),.val (.slice none 0 0),.val (.int .i64 0),.val (.slice none 0 0),.val (.slice none 0 0),.val (.slice none 0 0)])] wE:=by
  refine⟨rfl,by simp,λj g' c' hj hc=> ?_,λc' hc=> ?_,λc' hc k hk=> ?_⟩
  ·match j,hj,hc with
   | 0,hj,hc=>cases hj;cases hc;exact h2o3.az ar
   | j+1,hj,_=>simp at hj
  ·cases List.mem_singleton.1 hc
   exact⟨rfl,rfl⟩
  ·cases List.mem_singleton.1 hc
   cases hk
 refine⟨[g2],[(42,[.val (.string ⟨#[]⟩),.val (.string ⟨#[]⟩),.val (.slice none 0 0),.val (.bool false),.val (.slice none 0 0),.val (.bool false),.val (.slice none 0 0),.val (.bool false),.val (.slice none 0 0),.val (.bool false),.val (.slice none 0 0),.val (.int .i64 0),.val (.int .i64 0),.val (.bool false),.val (.slice none 0 0),.val (.bool false),.val (.slice none 0 0),.val (.bool false),.val (.slice none 0 0),.val (.bool false),.val (.slice none 0 0),.val (.int .i64 0),.val (.slice none 0 0),.val (.slice none 0 0),.val (.slice none 0 0)])],cZ,[(2,.box 216 0),(3,.val (.pointer (some ⟨g3,0,none⟩)))],⟨⟨_,rfl,rfl,λi hi=>by rw[(by simpa [AV.ids] using hi:i=216)];exact⟨(by show 216<=216;omega),(by show 216<2*108+1;omega)⟩⟩,⟨_,rfl,rfl,λi hi=>(by cases hi)⟩,trivial⟩,?_⟩
 refine ag ?_
 refine VO.aO rfl [.string f.name,.string f.parent,.slice pb f.pZ.length cb,.bool f.eW.s,.slice BG f.eW.xs.length BH,.bool f.eW.t,.slice BI f.eW.ys.length BJ,.bool f.cap.s,.slice BK f.cap.xs.length BL,.bool f.cap.t,.slice BM f.cap.ys.length BN,.int .i64 f.bk,.int .i64 f.fw,.bool f.eX.s,.slice BO f.eX.xs.length BP,.bool f.eX.t,.slice BQ f.eX.ys.length BR,.bool f.eZ.s,.slice BS f.eZ.xs.length BU,.bool f.eZ.t,.slice BV f.eZ.ys.length BW,.int .i64 f.kp,.slice pk f.cls.length ck,.slice p0 f.bu.length c0,.slice py us.length cy] rfl (λj u hj=>aY (by rw[Addr.add_mid];exact λh=>sH h.symm) (by rw[Addr.add_mid,Nat.zero_add];exact (Oj.az ar).cell (by simpa using hj))) (wV rfl ?_)
 refine ag ?_
 refine VS.qh (bA _ _) rfl (λwz β kz bz en=> ?_)
 have GS:jH (λt=> !Nat.beq t 42) wE wz:=eJ.kp bz.1 (λx hx=>⟨42,[.string ⟨#[]⟩,.string ⟨#[]⟩,.slice none 0 0,.bool false,.slice none 0 0,.bool false,.slice none 0 0,.bool false,.slice none 0 0,.bool false,.slice none 0 0,.int .i64 0,.int .i64 0,.bool false,.slice none 0 0,.bool false,.slice none 0 0,.bool false,.slice none 0 0,.bool false,.slice none 0 0,.int .i64 0,.slice none 0 0,.slice none 0 0,.slice none 0 0],by rw[List.mem_singleton.1 hx];exact h2o3.az ar,rfl,rfl⟩)
 have kTE:jH (λ_=>true) o3 wE:=aK.of ar
 exact⟨_,rfl,⟨_,_,_,_,_,_,_,_,_,_,_,_,_,_,_,_,_,_,_,_,_,_,_,_,_,_,_,_,_,_,_,_,_,_,_,_,_,_,_,_,_,_,_,_,rfl,(rbo3.az (qX.el kk) ar).kp (qX.el kk) GS rfl,((fTw0.kp kAll).kp kTE).kp GS,((fCw0.kp kAll).kp kTE).kp GS,((fIw0.kp kAll).kp kTE).kp GS,((fFw0.kp kAll).kp kTE).kp GS,(rko3.az (oZ.el kk) ar).kp (oZ.el kk) GS rfl,(r0o3.az aJ ar).kp aJ GS rfl,us,(ryo3.az (mB 6) ar).kp (mB 6) GS rfl,ze.trans Lk,λi cs y hi hy=>((huso3 i cs y hi hy).kp kTE rfl rfl rfl rfl rfl).kp GS rfl rfl rfl rfl rfl⟩,eJ.az hBwE bz.1 (λx hx=>by rw[List.mem_singleton.1 hx];exact Ci)⟩
end
section
open Go.RowKit
def nD (o:Oper):Bool:=match o.op,o.guard,o.dst with | .store _ _ _,none,none=>true|_,_,_=>false
def sJ (su:TypeId->Bool) (ml:List FuncId) (full:Array Oper) (B S:List Nat) (i j:Nat):Bool:=
 mh su ml full i j || (B.contains i && (S.contains j && (match full[i]?,full[j]? with|some p,some o=>p.apart full o|_,_=>true)))
def GV (su:TypeId->Bool) (ml:List FuncId) (full:Array Oper) (B S:List Nat):Bool:=
 ((List.range full.size).all λj=>(dV full j).all (λd=>Nat.blt d j) && (List.range j).all λi=>sJ su ml full B S i j) &&
   ((full.toList.all λo=> !Nat.beq (au su ml o) 5) && ((B.all λj=>match full[j]? with|some o=>Nat.ble (au su ml o) 2 || Nat.beq (au su ml o) 4|none=>true) && (S.all λj=>match full[j]? with|some o=>nD o|none=>true)))
section
variable {C:Cx} {full:Array Oper} {ml:List FuncId} {Q:Exit->Act->World->Prop} {F:Fr} {H:Hp} {w:World} {k:Fr->Hp->World->Prop} {p o q:Oper}
def uZ (su:TypeId->Bool) (ml:List FuncId) (J:List Nat) (F:Fr) (o:Oper):Prop:=
 (∀ x∈o.op.operands.toList,∀ v,ev F x=some v->(∀ i∈v.ids,i∉J)/\(au su ml o=4->v.ids=[]))/\∀ d,o.dst=some d->d∉J
def Toward (J:List Nat) (F:Fr) (o:Oper):Prop:=∃ t x y j off,o.op=.store t x y/\ev F x=some (.box j off)/\j∈J
theorem On {t:TypeId} {x:Operand} {d:Nat} {c:TypeId×List AV} (hop:o.op=.load t x) (h:∀ v,ev F x=some v->d∉v.ids):act C F (H.put d c) o=act C F H o:=by
 unfold act
 rw[hop]
 dsimp only
 split
 ·rename_i b off i hx hi
  have:b≠d:=λe=>h _ hx (by simp[AV.ids,e])
  rw[Hp.cS,if_neg this]
 ·rename_i b off i hx hi
  have:b≠d:=λe=>h _ hx (by simp[AV.ids,e])
  rw[Hp.cS,if_neg this]
 ·rfl
 ·rfl
theorem EM (h:au C.SU ml o=1):∃ t x,o.op=.load t x:=by
 unfold au at h
 cases hop:o.op <;> rw[hop] at h <;> simp only at h <;> try (exfalso;revert h;simp;done)
 case load t x=>exact⟨t,x,rfl⟩
 case unOp op _ _=>cases op <;> simp at h
 case makeFunc fn _ _=>cases fn <;> simp at h
 case slice t x lo hi mx=>cases mx <;> simp at h
 case buildSlice t n ps=>exfalso;cases hs:C.SU t <;> rw[hs] at h <;> simp at h
 case call c=>
  exfalso
  cases hc:c.callee with
  | builtin b=>rw[hc] at h;cases b <;> simp at h
  | value f=>rw[hc] at h;cases hk:Ax ml c <;> cases hm:Hx ml c <;> simp[hm,hk] at h
  | _=>rw[hc] at h;simp at h
theorem Oo {J:List Nat} {d:Nat} {c:TypeId×List AV} (ha:uZ C.SU ml J F o) (hd:d∈J) (hm:au C.SU ml o<=2\/au C.SU ml o=4):stepOf C full F (H.put d c) o=stepOf C full F H o:=by
 refine eQ ?_
 rcases (by omega:au C.SU ml o=0\/au C.SU ml o=1\/au C.SU ml o=2\/au C.SU ml o=4) with e|e|e|e
 ·exact fU (ml:=ml) (.inl e)
 ·obtain⟨t,x,hop⟩:=EM e
  refine On hop λv hv hi=> ?_
  exact (ha.1 x (by rw[hop];simp[Op.operands]) v hv).1 d hi hd
 ·cases ho:o.dst with
  | none=>exact uy (ml:=ml) (c:=(d,c)) e ho
  | some d'=>exact xf (ml:=ml) e ho (λe'=>ha.2 d' ho (e'▸hd))
 ·exact fU (ml:=ml) (.inr e)
theorem uO {J:List Nat} (ht:Toward J F o) (hs:nD o=true):stepOf C full F H o=.bad\/∃ j c,j∈J/\stepOf C full F H o=.eL (.val undef) (some (j,c))/\∀ H':Hp,H' j=H j->stepOf C full F H' o=stepOf C full F H o:=by
 obtain⟨t,x,y,j,off,hop,hx,hj⟩:=ht
 have hg:o.guard=none/\o.dst=none:=by
  unfold nD at hs
  rw[hop] at hs
  revert hs
  cases o.guard <;> cases o.dst <;> simp
 have hst:∀ H:Hp,stepOf C full F H o=act C F H o:=λH=>by
  unfold stepOf wants jC
  rw[hg.1,hg.2]
  rfl
 have hac:∀ H:Hp,act C F H o=match ev F y,C.ti t with
  | some v,some i=>(match H j with|some (tb,cs)=>lK i j tb cs off v|none=>.bad)
  | _,_=>.bad:=λH=>by
  unfold act
  rw[hop]
  dsimp only
  rw[hx]
  cases ev F y with
  | none=>rfl
  | some v=>cases C.ti t <;> rfl
 rw[hst,hac]
 cases hy:ev F y with
 | none=>exact .inl rfl
 | some v=>
   cases ht':C.ti t with
   | none=>exact .inl rfl
   | some i=>
     dsimp only
     cases hh:H j with
     | none=>exact .inl rfl
     | some u=>
       obtain⟨tb,cs⟩:=u
       dsimp only
       rcases Plain.lK i j tb cs off v with e|⟨v',u',e⟩
       ·exact .inl e
       ·obtain⟨_,_,_,rfl,rfl⟩:=wW e
        refine .inr ⟨j,_,hj,e,λH' hH=> ?_⟩
        rw[hst,hac,hy,ht',hH,hh]
theorem swapL (hC:C.Ok) {J:List Nat} (hL:Live C F H w) (ha:q.apart full o=true) (hq:uZ C.SU ml J F q) (hqm:au C.SU ml q<=2\/au C.SU ml q=4) (ho:Toward J F o) (hs:nD o=true) (h:one C (some ml) full q (one C (some ml) full o k) F H w):one C (some ml) full o (one C (some ml) full q k) F H w:=by
 obtain⟨a1,a2,a3⟩:=Oper.apart_spec ha
 have hod:o.dst=none:=by
  unfold nD at hs
  revert hs
  cases o.op <;> cases o.guard <;> cases o.dst <;> simp
 have hstep:∀ (x:AV) (H':Hp),stepOf C full (F.bo q.dst x) H' o=stepOf C full F H' o:=λx H'=>dP a1
 rcases uO (C:=C) (full:=full) (H:=H) ho hs with hb|⟨j,c,hj,hst,hsame⟩
 ·exfalso
  rcases fB (C:=C) (stepOf C full F H q) with hp|⟨Ψp,up,hp⟩|⟨d,hp⟩
  ·unfold one at h;rw[hp] at h;exact h.elim
  ·obtain⟨x,hx,h⟩:=(cK hp).1 h
   unfold one at h
   have hu:stepOf C full (F.bo q.dst x) (H.upd up) o=.bad:=by
    rw[hstep]
    rcases uO (C:=C) (full:=full) (H:=H.upd up) ho hs with e|⟨j,c,hj,e,hsm⟩
    ·exact e
    ·have:(H.upd up) j=H j:=by
      rcases eT (ml:=ml) hp with e' |e' |⟨e',d,c',hd,e2,h0⟩
      ·rw[e'];rfl
      ·omega
      ·rw[e2];show (H.put d c') j=H j
       rw[Hp.cS,if_neg]
       intro e3
       exact hq.2 d hd (e3▸hj)
     rw[<-hsm H this.symm,hb]
   rw[hu] at h
   exact h
  ·unfold one at h
   rw[hp] at h
   have hl:lvl C.SU (some ml) q=0:=by
    obtain⟨co,_⟩:=fu (ml:=ml) hp
    show wL _=0
    rcases co with e|e|e <;> first|(rw[e];rfl)|omega
   obtain⟨r,F',H',w2,hH,hF,hv⟩:=cD.some hL h
   rw[hH hl,hF aa] at hv
   have hv:one C (some ml) full o k (F.bo q.dst r) H w2:=hv
   unfold one at hv
   rw[hstep,hb] at hv
   exact hv
 ·have tx:∀ (k':Fr->Hp->World->Prop) (w':World),one C (some ml) full o k' F H w'↔k' F (H.put j c) w':=λk' w'=>by
   unfold one
   rw[hst,hod]
   rfl
  have Oq:∀ (x:AV) (H':Hp) (w':World),H' j=H j->one C (some ml) full o k (F.bo q.dst x) H' w'->k (F.bo q.dst x) (H'.put j c) w':=λx H' w' hH hv=>by
   unfold one at hv
   rw[hstep,hsame H' hH,hst,hod] at hv
   exact hv
  rw[tx]
  have hqs:stepOf C full F (H.put j c) q=stepOf C full F H q:=Oo hq hj hqm
  rcases fB (C:=C) (stepOf C full F H q) with hp|⟨Ψp,up,hp⟩|⟨d,hp⟩
  ·unfold one at h;rw[hp] at h;exact h.elim
  ·obtain⟨x,hx,h⟩:=(cK hp).1 h
   refine (cK (by rw[hqs];exact hp)).2 ⟨x,hx,?_⟩
   rcases eT (ml:=ml) hp with e' |e' |⟨e',d,c',hd,e2,h0⟩
   ·subst e'
    exact Oq x H w rfl h
   ·omega
   ·subst e2
    have hdj:d≠j:=λe3=>hq.2 d hd (e3▸hj)
    have hHj:(H.upd (some (d,c'))) j=H j:=by
     show (H.put d c') j=H j
     rw[Hp.cS,if_neg (λe=>hdj e.symm)]
    have:=Oq x (H.upd (some (d,c'))) w hHj h
    have hcomm:(H.upd (some (d,c'))).put j c=(H.put j c).upd (some (d,c')):=by
     funext z
     show ((H.put d c').put j c) z=((H.put j c).put d c') z
     simp only[Hp.cS]
     by_cases h1:z=j
     ·subst h1;rw[if_pos rfl,if_neg (λe=>hdj e.symm)];exact (if_pos rfl).symm
     ·rw[if_neg h1]
      by_cases h2:z=d
      ·rw[if_pos h2,if_pos h2]
      ·rw[if_neg h2,if_neg h2,if_neg h1]
    rw[hcomm] at this
    exact this
  ·have hm4:au C.SU ml q=4:=by
    obtain⟨co,_⟩:=fu (ml:=ml) hp
    omega
   have hl:lvl C.SU (some ml) q=0:=by show wL _=0;rw[hm4];rfl
   have Mk:d.ids=[]:=by
    rcases mY hp with e|e|e
    ·cases e
    ·cases e
    ·classical
     obtain⟨H0,hH0⟩:∃ H0:Hp,H0=λ_=>none:=⟨_,rfl⟩
     obtain⟨F',hF'⟩:∃ F':Fr,F'=λt=>if Operand.tmp t∈q.op.operands.toList then F t else none:=⟨_,rfl⟩
     have e2:act C F' H0 q=act C F H0 q:=zv (λy hy=>rP λt ht=>by rw[hF'];exact if_pos (ht▸hy))
     have e1:act C F' H0 q=.call d:=e2.trans ((fU (ml:=ml) (H:=H) (.inr hm4)).trans e)
     have da:gT F' H0:=λt v hv i hi=>by
      rw[hF'] at hv
      dsimp only at hv
      split at hv
      ·rename_i hm
       rw[(hq.1 _ hm v hv).2 hm4] at hi;cases hi
      ·cases hv
     rw[List.eq_nil_iff_forall_not_mem]
     intro i hi
     exact uw da e1 i hi (by rw[hH0])
   unfold one at h ⊢
   rw[hqs,hp]
   rw[hp] at h
   rw[hl] at h ⊢
   have h1:cD C 0 F H d w λr _ _ w2=>k (F.bo q.dst r) (H.put j c) w2:=cD.mono hL h λr F' H' w2 _ _ hH hF hv=>by
    rw[hH rfl,hF aa] at hv
    exact Oq r H w2 rfl hv
   have h2:=cD.heap (H':=H.put j c) (F:=F) (j:=λr w2=>k (F.bo q.dst r) (H.put j c) w2) (λi hi=>by
    exfalso
    have:∀ {i:Nat},¬ Reach H [] i:=λ{i} hr=>by
     induction hr with
     | base hi=>cases hi
     | step _ _ _ ih=>exact ih
    rw[Mk] at hi
    exact this hi) h1
   have hL2:Live C F (H.put j c) w:=by
    have:=jj hC hL (Ψ:=λx=>x=.val undef) (u:=some (j,c)) (by rw[hst];rfl) (x:=.val undef) rfl
    rw[hod] at this
    exact this
   refine cD.mono hL2 h2 λr F' H' w2 _ _ hH hF hv=> ?_
   rw[hH rfl,hF aa]
   exact hv
theorem KG (hC:C.Ok) {k':Fr->Hp->World->Prop} (hL:Live C F H w) (h5:au C.SU ml p≠5) (h:one C (some ml) full p k F H w) (hk:∀ x H' w',Live C (F.bo p.dst x) H' w'->k (F.bo p.dst x) H' w'->k' (F.bo p.dst x) H' w'):one C (some ml) full p k' F H w:=by
 rcases fB (C:=C) (stepOf C full F H p) with hp|⟨Ψp,up,hp⟩|⟨d,hp⟩
 ·unfold one at h;rw[hp] at h;exact h.elim
 ·obtain⟨x,hx,h⟩:=(cK hp).1 h
  exact (cK hp).2 ⟨x,hx,hk _ _ _ (jj hC hL hp hx) h⟩
 ·have hb:stepOf C full F H p≠.bad:=λe=>by rw[e] at hp;cases hp
  have hd:=(ji hb).1
  have hl:lvl C.SU (some ml) p<=1:=by
   obtain⟨co,_⟩:=fu (ml:=ml) hp
   show wL _<=1
   rcases co with e|e|e
   ·rw[e];decide
   ·rw[e];decide
   ·exact absurd e h5
  unfold one at h ⊢
  rw[hp] at h ⊢
  refine cD.mono hL h λr F' H' w2 hL2 CC _ hF hv=> ?_
  have e:=hF hl
  subst e
  refine hk _ _ _ ?_ hv
  obtain⟨β,a,w1,hr,tw⟩:=hL2.rel
  exact Live.of (hr.put hd CC) tw
theorem KH (hC:C.Ok) (hL:Live C F H w) (h5:au C.SU ml p≠5) (h:one C (some ml) full p k F H w):∃ x H' w',k (F.bo p.dst x) H' w':=by
 rcases fB (C:=C) (stepOf C full F H p) with hp|⟨Ψp,up,hp⟩|⟨d,hp⟩
 ·unfold one at h;rw[hp] at h;exact h.elim
 ·obtain⟨x,hx,h⟩:=(cK hp).1 h
  exact⟨_,_,_,h⟩
 ·have hl:lvl C.SU (some ml) p<=1:=by
   obtain⟨co,_⟩:=fu (ml:=ml) hp
   show wL _<=1
   rcases co with e|e|e
   ·rw[e];decide
   ·rw[e];decide
   ·exact absurd e h5
  unfold one at h
  rw[hp] at h
  obtain⟨r,F',H',w2,_,hF,hv⟩:=cD.some hL h
  have e:=hF hl
  subst e
  exact⟨_,_,_,hv⟩
def qx (C:Cx) (ml:List FuncId) (B S J:List Nat) (j:Nat) (o:Oper) (F:Fr):Prop:=(B.contains j=true->uZ C.SU ml J F o)/\(S.contains j=true->Toward J F o)
theorem uZ.agree {J:List Nat} {d:Option Nat} {x:AV} (h:∀ n,d=some n->n∉o.looksAt full) (ha:uZ C.SU ml J (F.bo d x) o\/uZ C.SU ml J F o):uZ C.SU ml J F o/\uZ C.SU ml J (F.bo d x) o:=by
 have key:∀ y∈o.op.operands.toList,ev (F.bo d x) y=ev F y:=λy hy=>rP λt ht=>kI λn hn e=>h n hn (e▸jt hy ht)
 rcases ha with ha|ha
 ·exact⟨⟨λy hy v hv=>ha.1 y hy v ((key y hy).trans hv),ha.2⟩,ha⟩
 ·exact⟨ha,⟨λy hy v hv=>ha.1 y hy v ((key y hy).symm.trans hv),ha.2⟩⟩
theorem Toward.agree {J:List Nat} {d:Option Nat} {x:AV} (h:∀ n,d=some n->n∉o.looksAt full) (ha:Toward J (F.bo d x) o\/Toward J F o):Toward J F o/\Toward J (F.bo d x) o:=by
 have key:∀ y∈o.op.operands.toList,ev (F.bo d x) y=ev F y:=λy hy=>rP λt ht=>kI λn hn e=>h n hn (e▸jt hy ht)
 rcases ha with ⟨t,x',y,j,off,hop,hx,hj⟩|⟨t,x',y,j,off,hop,hx,hj⟩
 ·exact⟨⟨t,x',y,j,off,hop,(key x' (by rw[hop];simp[Op.operands])).symm.trans hx,hj⟩,⟨t,x',y,j,off,hop,hx,hj⟩⟩
 ·exact⟨⟨t,x',y,j,off,hop,hx,hj⟩,⟨t,x',y,j,off,hop,(key x' (by rw[hop];simp[Op.operands])).trans hx,hj⟩⟩
theorem qx.agree {B S J:List Nat} {j:Nat} {d:Option Nat} {x:AV} (h:∀ n,d=some n->n∉o.looksAt full):qx C ml B S J j o (F.bo d x)↔qx C ml B S J j o F:=
 ⟨λg=>⟨λe=>(uZ.agree h (.inl (g.1 e))).1,λe=>(Toward.agree h (.inl (g.2 e))).1⟩,λg=>⟨λe=>(uZ.agree h (.inr (g.1 e))).2,λe=>(Toward.agree h (.inr (g.2 e))).2⟩⟩
def gK (C:Cx) (ml:List FuncId) (full:Array Oper) (B S J:List Nat):List Nat->(Fr->Hp->World->Prop)->Fr->Hp->World->Prop
 | [],K,F,H,w=>K F H w
 | j::r,K,F,H,w=>match full[j]? with
   | some o=>qx C ml B S J j o F/\one C (some ml) full o (gK C ml full B S J r K) F H w
   | none=>False
theorem kS {B S J:List Nat} {j:Nat} {r:List Nat} {K:Fr->Hp->World->Prop} (ho:full[j]? =some o):gK C ml full B S J (j::r) K F H w↔qx C ml B S J j o F/\one C (some ml) full o (gK C ml full B S J r K) F H w:=by
 conv=>lhs;unfold gK
 rw[ho]
structure Fits (su:TypeId->Bool) (ml:List FuncId) (full:Array Oper) (B S:List Nat) (i j:Nat) (p o:Oper):Prop where
 ap:p.apart full o=true
 ok:indep su ml full p o=true\/(B.contains i=true/\S.contains j=true)
 p5:au su ml p≠5
 o5:au su ml o≠5
 pB:B.contains i=true->au su ml p<=2\/au su ml p=4
 oS:S.contains j=true->nD o=true
theorem IQ (hC:C.Ok) {B S J:List Nat} {K:Fr->Hp->World->Prop} {i:Nat} {post:List Nat} (ho:full[i]? =some o):∀ (pre:List Nat) (F:Fr) (H:Hp) (w:World),(∀ j∈pre,∃ q,full[j]? =some q/\Fits C.SU ml full B S j i q o)->Live C F H w->gK C ml full B S J (pre++i::post) K F H w->gK C ml full B S J (i::(pre++post)) K F H w
 | [],F,H,w,_,_,h=>h
 | j::r,F,H,w,hi,hL,h=>by
   obtain⟨q,hq,hf⟩:=hi j ew
   obtain⟨a1,a2,a3⟩:=Oper.apart_spec hf.ap
   obtain⟨hs,h⟩:=(kS (r:=r++i::post) hq).1 h
   have h1:one C (some ml) full q (λF' H' w'=>qx C ml B S J i o F'/\one C (some ml) full o (gK C ml full B S J (r++post) K) F' H' w') F H w:=
    xh hC hL h λF' H' w' hL' hv=>(kS ho).1 (IQ hC ho r F' H' w' (λq' hq'=>hi q' (by simp[hq'])) hL' hv)
   obtain⟨x,H',w',hx,_⟩:=KH hC hL hf.p5 h1
   have ho':qx C ml B S J i o F:=(qx.agree a1).1 hx
   have h2:one C (some ml) full q (one C (some ml) full o (gK C ml full B S J (r++post) K)) F H w:=xh hC hL h1 λF' H' w' _ hv=>hv.2
   refine (kS ho).2 ⟨ho',?_⟩
   have h3:one C (some ml) full o (one C (some ml) full q (gK C ml full B S J (r++post) K)) F H w:=by
    rcases hf.ok with e|⟨e1,e2⟩
    ·exact swap hC hL e h2
    ·exact swapL hC hL hf.ap (hs.1 e1) (hf.pB e1) (ho'.2 e2) (hf.oS e2) h2
   exact KG hC hL hf.o5 h3 λx H' w' _ hv=>(kS (r:=r++post) hq).2 ⟨(qx.agree a3).2 hs,hv⟩
theorem GW (hC:C.Ok) {B S J:List Nat} (iY:GV C.SU ml full B S=true) {K:Fr->Hp->World->Prop} (hQ:∀ β F H w a w',K F H w->Rel C β F H a w'->aK C.K w w'->Q .normal a w'):
  ∀ (fuel:Nat) (listed:Array Bool) (rem:List Nat) (β:Nat->Nat) (F:Fr) (H:Hp) (w:World) (a:Act) (w':World),listed.size=full.size->rem.Pairwise (·< ·)->(∀ x,x∈rem↔x<full.size/\listed.getD x true=false)->rem.length<=fuel->
    (∀ j,j<full.size->listed.getD j true=true->∀ d∈dV full j,listed.getD d false=true)->
    gK C ml full B S J rem K F H w->Rel C β F H a w'->aK C.K w w'->wpAny C.P .any full Q fuel listed a w':=by
 unfold GV at iY
 simp only[Bool.and_eq_true] at iY
 obtain⟨hp0,h5,hB,hS⟩:=iY
 have rS:∀ j,j<full.size->∀ d∈dV full j,d<j:=λj hj d hd=>by
  have:=List.all_eq_true.1 hp0 j (List.mem_range.2 hj)
  rw[Bool.and_eq_true] at this
  exact cr (List.all_eq_true.1 this.1 d hd)
 have HT:∀ i j,i<j->j<full.size->sJ C.SU ml full B S i j=true:=λi j hij hj=>by
  have:=List.all_eq_true.1 hp0 j (List.mem_range.2 hj)
  rw[Bool.and_eq_true] at this
  exact List.all_eq_true.1 this.2 i (List.mem_range.2 hij)
 have hne5:∀ {i:Nat} {o:Oper},full[i]? =some o->au C.SU ml o≠5:=λ{i o} ho e=>by
  have:=List.all_eq_true.1 h5 o (List.mem_of_getElem? (by simpa using ho))
  rw[e] at this;exact absurd this cH
 have hBm:∀ {i:Nat} {o:Oper},full[i]? =some o->B.contains i=true->au C.SU ml o<=2\/au C.SU ml o=4:=λ{i o} ho hb=>by
  have:=List.all_eq_true.1 hB i (by simpa using hb)
  rw[ho] at this
  dsimp only at this
  rw[Bool.or_eq_true] at this
  exact this.imp cr Nat.eq_of_beq_eq_true
 have hSm:∀ {i:Nat} {o:Oper},full[i]? =some o->S.contains i=true->nD o=true:=λ{i o} ho hb=>by
  have:=List.all_eq_true.1 hS i (by simpa using hb)
  rw[ho] at this
  exact this
 intro fuel
 induction fuel with
 | zero=>
   intro listed rem β F H w a w' hsz hpw qL hlen oA h hr hk
   have h0:rem=[]:=List.eq_nil_of_length_eq_zero aa
   subst h0
   refine⟨?_,hQ β F H w a w' h hr hk⟩
   rw[List.eq_nil_iff_forall_not_mem]
   intro i hi
   have:=mem_ready.1 hi
   exact absurd ((qL i).2 ⟨this.1,this.2.1⟩) ew
 | succ fuel ih=>
   intro listed rem β F H w a w' hsz hpw qL hlen oA h hr hk
   constructor
   ·intro Dm
    cases rem with
    | nil=>exact hQ β F H w a w' h hr hk
    | cons i r=>
      exfalso
      have hi:=(qL i).1 ew
      have:i∈Region.ready .any full listed:=mem_ready.2 ⟨hi.1,hi.2,λd hd=>by
       have hdi:=rS i hi.1 d hd
       cases hl:listed.getD d true with
       | true=>
         rw[Array.getD_eq_getD_getElem?] at hl ⊢
         have:d<listed.size:=by omega
         rw[Array.getElem?_eq_getElem this] at hl ⊢
         exact hl
       | false=>
         have hm:=(qL d).2 ⟨by omega,hl⟩
         rcases List.mem_cons.1 hm with e|e
         ·omega
         ·have:=(List.pairwise_cons.1 hpw).1 d e;omega⟩
      rw[Dm] at this
      cases this
   ·intro i hi
    obtain⟨uz,hi2,hi3⟩:=mem_ready.1 hi
    obtain⟨pre,post,rfl⟩:=List.append_of_mem ((qL i).2 ⟨uz,hi2⟩)
    have ho:=Array.getElem?_eq_getElem uz
    generalize full[i]=o at ho
    have Hh:=List.pairwise_append.1 hpw
    have hlt:∀ p∈pre,p<i:=λp hp=>Hh.2.2 p hp i ew
    have hgt:∀ p∈post,i<p:=(List.pairwise_cons.1 Hh.2.1).1
    have hb:gK C ml full B S J (i::(pre++post)) K F H w:=by
     refine IQ hC ho _ F H w (λp hp=> ?_) (Live.of hr hk) h
     have KV:=(qL p).1 (by simp[hp])
     have hpi:=hlt p hp
     have hpq:=Array.getElem?_eq_getElem KV.1
     generalize full[p]=q at hpq
     have hno:listed.getD p false=false:=by
      have h1:=KV.2
      have:p<listed.size:=by omega
      rw[Array.getD_eq_getD_getElem?] at h1 ⊢
      rw[Array.getElem?_eq_getElem this] at h1 ⊢
      exact h1
     refine⟨q,hpq,?_,?_,hne5 hpq,hne5 ho,hBm hpq,hSm ho⟩
     ·have:=HT p i hpi uz
      unfold sJ mh at this
      rw[hpq,ho] at this
      simp only[Bool.or_eq_true,Bool.and_eq_true] at this
      rcases this with (e|e)|e
      ·unfold indep at e
       rw[Bool.and_eq_true] at e
       exact e.1
      ·have:=jW rS oA hsz full.size i uz hi3 e
       rw[hno] at this;cases this
      ·exact e.2.2
     ·have:=HT p i hpi uz
      unfold sJ mh at this
      rw[hpq,ho] at this
      simp only[Bool.or_eq_true,Bool.and_eq_true] at this
      rcases this with (e|e)|e
      ·exact .inl e
      ·have:=jW rS oA hsz full.size i uz hi3 e
       rw[hno] at this;cases this
      ·exact .inr ⟨e.1,e.2.1⟩
    have tx:one C (some ml) full o (gK C ml full B S J (pre++post) K) F H w:=((kS ho).1 hb).2
    have:=km (Q:=Q) (next:=wpAny C.P .any full Q fuel (listed.setIfInBounds i true)) hC tx hr hk λbn F' H' w1 a' bm h1 h2 h3=>by
     refine ih (listed.setIfInBounds i true) (pre++post) bn F' H' w1 a' bm (by simp[hsz]) ?_ ?_ ?_ ?_ h1 h2 h3
     ·exact List.pairwise_append.2 ⟨Hh.1,(List.pairwise_cons.1 Hh.2.1).2,λx hx y hy=>Hh.2.2 x hx y (by simp[hy])⟩
     ·intro x
      by_cases hx:x=i
      ·subst hx
       constructor
       ·intro hm
        rcases List.mem_append.1 hm with e|e
        ·exact absurd (hlt _ e) aa
        ·exact absurd (hgt _ e) aa
       ·rintro⟨_,e⟩
        simp[Array.getD_eq_getD_getElem?,Array.getElem?_setIfInBounds,hsz,uz] at e
      ·have e1:(listed.setIfInBounds i true).getD x true=listed.getD x true:=by
        rw[Array.getD_eq_getD_getElem?,Array.getElem?_setIfInBounds,if_neg (λe=>hx e.symm),<-Array.getD_eq_getD_getElem?]
       rw[e1,<-qL x]
       simp[hx]
     ·have:(pre++i::post).length=(pre++post).length+1:=by simp;omega
      omega
     ·intro j hj hl d hd
      have sM:listed.getD d false=true->(listed.setIfInBounds i true).getD d false=true:=λe=>by
       by_cases hx:d=i
       ·subst hx
        simp[Array.getD_eq_getD_getElem?,Array.getElem?_setIfInBounds,hsz,uz]
       ·rw[Array.getD_eq_getD_getElem?,Array.getElem?_setIfInBounds,if_neg (λe=>hx e.symm),<-Array.getD_eq_getD_getElem?];exact e
      by_cases hx:j=i
      ·subst hx;exact sM (hi3 d hd)
      ·refine sM (oA j hj ?_ d hd)
       rwa [Array.getD_eq_getD_getElem?,Array.getElem?_setIfInBounds,if_neg (λe=>hx e.symm),<-Array.getD_eq_getD_getElem?] at hl
    unfold wpOp
    rw[ho]
    simp only
    split
    ·rename_i hw;rw[if_pos hw] at this;exact .inl this
    ·rename_i hw;rw[if_neg hw] at this;exact this
theorem one_imp {k':Fr->Hp->World->Prop} (h:one C (some ml) full o k F H w) (hk:∀ F' H' w',k F' H' w'->k' F' H' w'):one C (some ml) full o k' F H w:=by
 unfold one at h ⊢
 split
 ·rename_i e;rw[e] at h;exact hk _ _ _ h
 ·rename_i e;rw[e] at h
  obtain⟨cs,h1,h2,h3⟩:=h
  exact⟨cs,h1,h2,hk _ _ _ h3⟩
 ·rename_i e;rw[e] at h
  obtain⟨vs,h1,h2,h3⟩:=h
  exact⟨vs,h1,h2,hk _ _ _ h3⟩
 ·rename_i e;rw[e] at h;exact⟨h.1,hk _ _ _ h.2⟩
 ·rename_i e;rw[e] at h
  intro w1 β h1 h2 h3
  refine (h w1 β h1 h2 h3).mono ?_
  rintro e w2 ⟨bn,r,del,ups,he,CC,yu,rQ,hch,hv⟩
  exact⟨bn,r,del,ups,he,CC,yu,rQ,hch,λa b c ρ dY=>hk _ _ _ (hv a b c ρ dY)⟩
 ·rename_i e;rw[e] at h;exact h
theorem gK.chunk {B S J:List Nat} {K:Fr->Hp->World->Prop} {l2:List Nat}:∀ (l1:List Nat) {F:Fr} {H:Hp} {w:World},(l1.all λj=>(!B.contains j && !S.contains j) && (full[j]?).isSome)=true->aB C (some ml) full (l1.filterMap (full[·]?)) (gK C ml full B S J l2 K) F H w->gK C ml full B S J (l1++l2) K F H w
 | [],F,H,w,_,h=>h
 | j::r,F,H,w,h0,h=>by
   rw[List.all_cons,Bool.and_eq_true,Bool.and_eq_true,Bool.and_eq_true,Bool.not_eq_true',Bool.not_eq_true'] at h0
   cases ho:full[j]? with
   | none=>rw[ho] at h0;exact absurd h0.1.2 ew
   | some o=>
     rw[List.filterMap_cons_some ho] at h
     exact (kS (r:=r++l2) ho).2 ⟨⟨λe=>(by rw[h0.1.1.1] at e;cases e),λe=>(by rw[h0.1.1.2] at e;cases e)⟩,one_imp h λF' H' w' hv=>gK.chunk r h0.2 hv⟩
theorem gK.one {B S J:List Nat} {K:Fr->Hp->World->Prop} {j:Nat} {r:List Nat} (ho:full[j]? =some o) (hs:qx C ml B S J j o F) (h:aB C (some ml) full [o] (gK C ml full B S J r K) F H w):gK C ml full B S J (j::r) K F H w:=(kS ho).2 ⟨hs,h⟩
theorem VS.Ot {k:List It} (hC:C.Ok) (hm:C.P.follows .mixedOrders=true) {id:Nat} {ops:Array Oper} (ml:List FuncId) (B S J:List Nat) (iY:GV C.SU ml ops B S=true) (h:gK C ml ops B S J (List.range ops.size) (VS C Q k) F H w):VS C Q (.code (.region id ops true)::k) F H w:=λβ a w' hr hk=>by
 refine wp_region_any hm ?_
 refine GW (K:=VS C Q k) hC iY (λβ F H w a w' h hr hk=>h β a w' hr hk) ops.size (Array.replicate ops.size false) (List.range ops.size) β F H w a w'.drew ew List.pairwise_lt_range ?_ ew ?_ h hr.drew hk.drew
 ·intro x
  rw[List.mem_range]
  constructor
  ·intro hx
   refine⟨hx,?_⟩
   simp[Array.getD_eq_getD_getElem?,Array.getElem?_replicate,hx]
  ·exact λh=>h.1
 ·intro j hj hl
  simp[Array.getD_eq_getD_getElem?,Array.getElem?_replicate,hj] at hl
end
theorem away_of {su:TypeId->Bool} {ml:List FuncId} {J:List Nat} {F:Fr} {o:Oper} (h:(o.op.operands.toList.all λx=>match ev F x with|some v=>v.ids.isEmpty|none=>true)=true) (hd:(match o.dst with|some d=> !J.contains d|none=>true)=true):uZ su ml J F o:=by
 refine⟨λx hx v hv=> ?_,λd Me=> ?_⟩
 ·have:=List.all_eq_true.1 h x hx
  rw[hv] at this
  have he:v.ids=[]:=List.isEmpty_iff.1 this
  exact⟨λi hi=>by (rw[he] at hi;cases hi),λ_=>he⟩
 ·rw[Me] at hd
  intro hm
  dsimp only at hd
  rw[show J.contains d=true from List.elem_eq_true_of_mem hm] at hd
  cases hd
theorem Ou {su:TypeId->Bool} {ml:List FuncId} {J:List Nat} {F:Fr} {o:Oper} (h:(o.op.operands.toList.all λx=>match ev F x with|some v=>v.ids.all λi=> !J.contains i|none=>true)=true) (h4:Nat.beq (au su ml o) 4=false) (hd:(match o.dst with|some d=> !J.contains d|none=>true)=true):uZ su ml J F o:=by
 refine⟨λx hx v hv=> ?_,λd Me=> ?_⟩
 ·have:=List.all_eq_true.1 h x hx
  rw[hv] at this
  refine⟨λi hi hm=> ?_,λe=>by (rw[e] at h4;cases h4)⟩
  have h2:=List.all_eq_true.1 this i hi
  rw[show J.contains i=true from List.elem_eq_true_of_mem hm] at h2
  cases h2
 ·rw[Me] at hd
  intro hm
  dsimp only at hd
  rw[show J.contains d=true from List.elem_eq_true_of_mem hm] at hd
  cases hd
section
variable {C:Cx} {ml:List FuncId} {full:Array Oper} {B S J:List Nat} {K:Fr->Hp->World->Prop} {F:Fr} {H:Hp} {w:World} {j:Nat} {r:List Nat} {o:Oper}
theorem gK.b (ho:full[j]? =some o) (h1:(o.op.operands.toList.all λx=>match ev F x with|some v=>v.ids.isEmpty|none=>true)=true) (h2:(match o.dst with|some d=> !J.contains d|none=>true)=true) (h3:S.contains j=false) (h:aB C (some ml) full [o] (gK C ml full B S J r K) F H w):gK C ml full B S J (j::r) K F H w:=
 gK.one ho ⟨λ_=>away_of h1 h2,λe=>by (rw[h3] at e;cases e)⟩ h
theorem gK.l (ho:full[j]? =some o) (h1:(o.op.operands.toList.all λx=>match ev F x with|some v=>v.ids.all λi=> !J.contains i|none=>true)=true) (h4:Nat.beq (au C.SU ml o) 4=false) (h2:(match o.dst with|some d=> !J.contains d|none=>true)=true) (h3:S.contains j=false) (h:aB C (some ml) full [o] (gK C ml full B S J r K) F H w):gK C ml full B S J (j::r) K F H w:=
 gK.one ho ⟨λ_=>Ou h1 h4 h2,λe=>by (rw[h3] at e;cases e)⟩ h
theorem gK.s (ho:full[j]? =some o) (h1:Toward J F o) (h3:B.contains j=false) (h:aB C (some ml) full [o] (gK C ml full B S J r K) F H w):gK C ml full B S J (j::r) K F H w:=
 gK.one ho ⟨λe=>by (rw[h3] at e;cases e),λ_=>h1⟩ h
end
end
end Go.Proofs.YtlifeokjcgngjaaGreat
