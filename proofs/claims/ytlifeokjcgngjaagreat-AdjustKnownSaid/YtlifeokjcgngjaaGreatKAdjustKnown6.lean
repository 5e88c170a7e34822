/-DD of the proof,laid behind one another. -/
import Derived.Test.YtlifeokjcgngjaaGreatKAdjustKnown5
import Derived.RangeFuncNested
import Derived.RangeFuncLeaves
import Derived.OrdersIn
import Derived.TacticsIn
set_option linter.all false
set_option maxHeartbeats 64000000
set_option maxRecDepth 4000
namespace Go.Proofs.YtlifeokjcgngjaaGreat
section
open Go.RowKit
attribute [local irreducible] aB VS
theorem QC (g:FuncId) (c1 c2:Value) (P:List (List Rat)->Bool) (kk:Nat) (kg:nL Tryz.prog g) (v:Value) (es:List (List (List Rat))) (w:World) (hv:bh (gI kk) 1 w v es) (hg:∀ (cs:List Value) (a:List (List Rat)) (w1:World),aD w w1->gI kk w1 cs a->Calls Tryz.prog g #[.agg cs.toArray,c1,c2] w1 λe w'=>e=.returned (.bool (P a))/\aD w1 w'):
  Calls Tryz.prog 135 #[v,.func (.func g) #[] #[c1,c2]] w λe w'=>∃ r,e=.returned (.int .i64 r)/\decide (r>=0)=es.any P/\aD w w':=by
 obtain⟨p,c,rfl,eS,gv⟩:=hv.form;obtain⟨N,hN⟩:∃ N,N=es.length:=⟨_,aa⟩;rw[<-hN] at hv eS ⊢;refine ai (C:=bd Tryz.prog w _) (args:=[_,_]) Tryz.func135 aa Tryz.ntmps135 (bF aa) ?_;refine af ?_;refine VS.loop (J:=λmm L M w'=>∃ z:Nat,z<=N/\mm=N-z/\L=[(0,.val (.slice p N c)),(1,.val (.func (.func g) #[] #[c1,c2])),(7,.val (.int .i64 (N:Int))),(8,.val (.int .i64 (z:Int)))]/\M=[]/\(es.take z).any P=false) N ⟨_,_,?_,?_,?_,?_,⟨0,ae,aa,aa,aa,aa⟩⟩ ?_
 ·exact di
 ·exact di
 ·rfl
 ·exact fv
 rintro mm L M wJ ⟨z,hz,rfl,rfl,rfl,hno⟩;refine af ?_;by_cases hlt:z<N
 ·obtain⟨a,hx⟩:∃ x,es[z]? =some x:=⟨_,bj ae⟩;obtain⟨b,off,cs,rfl,hc,he⟩:=hv.at hx;have Ew:=he;obtain⟨u,rfl,-⟩:=Ew;refine VS.aR aa (aw (aJ.2 hlt)) ?_;refine af ?_;refine VO.cond aa eh ?_;refine wV aa ?_;refine af ?_;refine VO.read aa [u] aa (λj u hj=>by rw[Addr.add_mid,dV];exact hc j u hj) (wV aa ?_);refine VO.call aa aa kg (λaK bE aX=>(hg _ a aK aX (iB kk he aX)).mono ?_);rintro e w1 ⟨rfl,aU⟩;cases hP:P a with
  | true=>
    refine aL aU ?_;intro cQ _ bb1;refine aC ?_;intro wz kz bz;refine⟨_,aa,?_,bz⟩;rw[kV.2 ⟨a,dz hx,hP⟩,aw ae]
  | false=>
    refine aL aU ?_;intro cQ _ bb1;refine VS.back (N-(z+1)) ae ⟨_,_,?_,?_,?_,?_,⟨z+1,ae,aa,aa,aa,?_⟩⟩
    ·refine⟨aa,aa,aa,?_,aj⟩;rw[<-aA ae];rfl
    ·exact di
    ·rfl
    ·exact fv
    ·rw[aI hx,List.any_append,hno];simp[hP]
 ·refine VS.aO aa (az (λe=>hlt (aJ.1 e))) ?_;obtain rfl:z=N:=ae;refine af ?_;refine aC ?_;intro wz kz bz;rw[dM ae] at hno;exact⟨_,aa,by rw[hno];rfl,bz⟩
theorem QD (g:FuncId) (c1 c2:Value) (P:List (List Rat)->Bool) (kk:Nat) (kg:nL Tryz.prog g) (v:Value) (es:List (List (List Rat))) (w:World) (hv:bh (gI kk) 1 w v es) (hg:∀ (cs:List Value) (a:List (List Rat)) (w1:World),aD w w1->gI kk w1 cs a->Calls Tryz.prog g #[.agg cs.toArray,c1,c2] w1 λe w'=>e=.returned (.bool (P a))/\aD w1 w'):
  Calls Tryz.prog 74 #[v,.func (.func g) #[] #[c1,c2]] w λe w'=>e=.returned (.bool (es.any P))/\aD w w':=by
 obtain⟨p,c,rfl,eS,gv⟩:=hv.form;refine ai (C:=bd Tryz.prog w _) (args:=[_,_]) Tryz.func74 aa Tryz.ntmps74 (bF aa) ?_;refine af ?_;refine VO.call aa aa (fk Tryz.func135) (λaK bE aX=>(QC g c1 c2 P kk kg _ es aK (hv.iI (iB kk) aX) (λcs a w1 h1 h2=>hg cs a w1 (aX.aN h1) h2)).mono ?_);rintro e w1 ⟨r1,rfl,h1,aU⟩;refine aL aU ?_;intro cQ _ bb1;refine aC ?_;intro wz kz bz;exact⟨ak (λb=>Ending.returned (.bool b)) h1,bz⟩
theorem QE (g:FuncId) (P:iT->Bool) (kk:Nat) (kg:nL Tryz.prog g) (v:Value) (es:List (iT)) (w:World) (hv:bh (fu kk) 6 w v es) (hg:∀ (cs:List Value) (a:iT) (w1:World),aD w w1->fu kk w1 cs a->Calls Tryz.prog g #[.agg cs.toArray] w1 λe w'=>e=.returned (.bool (P a))/\aD w1 w'):
  Calls Tryz.prog 65 #[v,.func (.func g) #[] #[]] w λe w'=>∃ r,e=.returned (.int .i64 r)/\decide (r>=0)=es.any P/\aD w w':=by
 obtain⟨p,c,rfl,eS,gv⟩:=hv.form;obtain⟨N,hN⟩:∃ N,N=es.length:=⟨_,aa⟩;rw[<-hN] at hv eS ⊢;refine ai (C:=bd Tryz.prog w _) (args:=[_,_]) Tryz.func65 aa Tryz.ntmps65 (bF aa) ?_;refine af ?_;refine VS.loop (J:=λmm L M w'=>∃ z:Nat,z<=N/\mm=N-z/\L=[(0,.val (.slice p N c)),(1,.val (.func (.func g) #[] #[])),(7,.val (.int .i64 (N:Int))),(8,.val (.int .i64 (z:Int)))]/\M=[]/\(es.take z).any P=false) N ⟨_,_,?_,?_,?_,?_,⟨0,ae,aa,aa,aa,aa⟩⟩ ?_
 ·exact di
 ·exact di
 ·rfl
 ·exact fv
 rintro mm L M wJ ⟨z,hz,rfl,rfl,rfl,hno⟩;refine af ?_;by_cases hlt:z<N
 ·obtain⟨a,hx⟩:∃ x,es[z]? =some x:=⟨_,bj ae⟩;obtain⟨b,off,cs,rfl,hc,he⟩:=hv.at hx;have Ew:=he;obtain⟨nm,s0,p0,n0,c0,t0,y0,m0,d0,rfl,-⟩:=Ew;refine VS.aR aa (aw (aJ.2 hlt)) ?_;refine af ?_;refine VO.cond aa eh ?_;refine wV aa ?_;refine af ?_;refine VO.read aa [.string nm,.int .u8 (a.1:Int),.bool s0,.slice p0 n0 c0,.bool t0,.slice y0 m0 d0] aa (λj u hj=>by rw[Addr.add_mid,dV];exact hc j u hj) (wV aa ?_);refine VO.call aa aa kg (λaK bE aX=>(hg _ a aK aX ((cW kk).b he aX)).mono ?_);rintro e w1 ⟨rfl,aU⟩;cases hP:P a with
  | true=>
    refine aL aU ?_;intro cQ _ bb1;refine aC ?_;intro wz kz bz;refine⟨_,aa,?_,bz⟩;rw[kV.2 ⟨a,dz hx,hP⟩,aw ae]
  | false=>
    refine aL aU ?_;intro cQ _ bb1;refine VS.back (N-(z+1)) ae ⟨_,_,?_,?_,?_,?_,⟨z+1,ae,aa,aa,aa,?_⟩⟩
    ·refine⟨aa,aa,aa,?_,aj⟩;rw[<-aA ae];rfl
    ·exact di
    ·rfl
    ·exact fv
    ·rw[aI hx,List.any_append,hno];simp[hP]
 ·refine VS.aO aa (az (λe=>hlt (aJ.1 e))) ?_;obtain rfl:z=N:=ae;refine af ?_;refine aC ?_;intro wz kz bz;rw[dM ae] at hno;exact⟨_,aa,by rw[hno];rfl,bz⟩
theorem QF (g:FuncId) (P:iT->Bool) (kk:Nat) (kg:nL Tryz.prog g) (v:Value) (es:List (iT)) (w:World) (hv:bh (fu kk) 6 w v es) (hg:∀ (cs:List Value) (a:iT) (w1:World),aD w w1->fu kk w1 cs a->Calls Tryz.prog g #[.agg cs.toArray] w1 λe w'=>e=.returned (.bool (P a))/\aD w1 w'):
  Calls Tryz.prog 216 #[v,.func (.func g) #[] #[]] w λe w'=>e=.returned (.bool (es.any P))/\aD w w':=by
 obtain⟨p,c,rfl,eS,gv⟩:=hv.form;refine ai (C:=bd Tryz.prog w _) (args:=[_,_]) Tryz.func216 aa Tryz.ntmps216 (bF aa) ?_;refine af ?_;refine VO.call aa aa (fk Tryz.func65) (λaK bE aX=>(QE g P kk kg _ es aK (hv.iI ((cW kk).b) aX) (λcs a w1 h1 h2=>hg cs a w1 (aX.aN h1) h2)).mono ?_);rintro e w1 ⟨r1,rfl,h1,aU⟩;refine aL aU ?_;intro cQ _ bb1;refine aC ?_;intro wz kz bz;exact⟨ak (λb=>Ending.returned (.bool b)) h1,bz⟩
theorem aodd_any (cs:List Value) (x:iT) (kk:Nat) (w:World) (hv:fu kk w cs x) (hk:kk<=1000000):
  Calls Tryz.prog 215 #[.agg cs.toArray] w λe w'=>e=.returned (.bool (nz x))/\aD w w':=by
 have RR:=hv;obtain⟨nm,s0,p0,n0,c0,t0,y0,m0,d0,rfl,rb,lV⟩:=hv;obtain⟨k,q⟩:=x;replace rb:k<256:=rb;refine ai (C:=bd Tryz.prog w _) (args:=[_]) Tryz.func215 aa Tryz.ntmps215 (bF aa) ?_;refine af ?_;by_cases h6:k=6
 ·refine VO.fix 6 aa (ak (λb=>AV.val (.bool b)) (BR (show (k:Int)=6 by omega))) ?_;refine af ?_;refine VO.cB aa aa (fk Tryz.func173) (λaK bE aX=>FH _ (k,q) kk aK ((cW kk).b RR aX) hk) (λaK bE aX w1 aU cQ _ bb1=>wV aa ?_);refine af ?_;refine aC ?_;intro wz kz bz;refine⟨ak (λb=>Ending.returned (.bool b)) ?_,bz⟩;show (((gR q:Nat):Int) == 0)=nz (k,q);unfold nz;rw[show ((k,q):iT).1=6 from h6];show _=(true && (gR q == 0));rw[Bool.true_and];by_cases hz:gR q=0
  ·rw[hz];rfl
  ·rw[zj ae,eQ.2 hz]
 ·refine VO.fix 6 aa (ak (λb=>AV.val (.bool b)) (zj (show (k:Int)≠6 by omega))) ?_;refine af ?_;refine aC ?_;intro wz kz bz;exact⟨by unfold nz;rw[show (((k,q):iT).1 == 6)=false from eQ.2 h6];rfl,bz⟩
theorem amay_any (v u:Value) (e:Int) (cs:List iT) (ts:List (List (List Rat))) (kk:Nat) (w:World) (hv:bh (fu kk) 6 w v cs) (hu:bh (gI kk) 1 w u ts) (hk:kk<=1000000):
  Calls Tryz.prog 170 #[v,.int .i64 e,u] w λo w'=>o=.returned (.int .i64 (gV cs e ts))/\aD w w':=by
 obtain⟨p,c,rfl⟩:=hv.sl;obtain⟨p2,c2,rfl⟩:=hu.sl;refine ai (C:=bd Tryz.prog w _) (args:=[_,_,_]) Tryz.func170 aa Tryz.ntmps170 (bF aa) ?_;refine af ?_;by_cases hlong:(ts.length:Int)>40
 ·refine VS.aR aa (aw hlong) ?_;refine af ?_;refine aC ?_;intro wz kz bz;exact⟨by unfold gV;rw[if_pos ae];rfl,bz⟩
 refine VS.aO aa (az hlong) ?_;refine af ?_;by_cases rG:e<0
 ·refine VO.fix 17 aa (ak (λb=>AV.val (.bool b)) (aw rG)) ?_;refine af ?_;refine aC ?_;intro wz kz bz;exact⟨by unfold gV;rw[if_neg ae,if_pos rG];rfl,bz⟩
 refine VO.fix 17 aa (ak (λb=>AV.val (.bool b)) (az rG)) ?_;refine af ?_
 refine VO.eX aa (fk Tryz.func74) (λaK β bE aX ho=>(QD 214 (.pointer (some ⟨β 4,0,none⟩)) (.pointer (some ⟨β 3,0,none⟩)) (fW e cs.length) kk (fk Tryz.func214) _ ts aK (hu.iI (iB kk) aX) (λl a w1 hb hs=>by
  obtain⟨u1,rfl,hs⟩:=hs;exact VK u1 p cs.length c (β 4) (β 3) kk e a w1 hs (hb.cell (rZ (ho.own 4 (.base (by simp[gl,AV.ids])) _ _ aa).cls)) (hb.cell (rZ (ho.own 3 (.base (by simp[gl,AV.ids])) _ _ aa).cls)) ae)).mono ?_)
 rintro o w1 ⟨rfl,aU⟩;cases hA:ts.any (fW e cs.length) with
 | true=>
   refine aL aU ?_;intro cQ _ bb1;refine aC ?_;intro wz kz bz;exact⟨by unfold gV;rw[if_neg ae,if_neg rG,if_pos hA];rfl,bz⟩
 | false=>
   refine aL aU ?_;intro cQ _ bb1;refine VO.call aa aa (fk Tryz.func216) (λbf cK bK=>(QF 215 nz kk (fk Tryz.func215) _ cs bf (hv.bS (cW kk) bK) (λl a w1 hb hs=>aodd_any l a kk w1 hs hk)).mono ?_);rintro o w2 ⟨rfl,bu⟩;cases hB:cs.any nz with
   | true=>
     refine aL bu ?_;intro dW _ bb2;refine aC ?_;intro wz kz bz;exact⟨by unfold gV;rw[if_neg ae,if_neg rG,hA,if_neg cZ,if_pos hB];rfl,bz⟩
   | false=>
     refine aL bu ?_;intro dW _ bb2;refine aC ?_;intro wz kz bz;exact⟨by unfold gV;rw[if_neg ae,if_neg rG,hA,if_neg cZ,hB,if_neg cZ];rfl,bz⟩
set_option maxRecDepth 4000
def eF {α:Type} (E:World->List Value->α->Prop) (sz:Nat) (t:TypeId) (i:Nat) (X:AV) (M:List (Nat×(TypeId×List AV))) (w:World) (es:List α):Prop:=
 (es=[]/\X=.val (.slice none 0 0)/\M=[])\/∃ n c vs sp,X=.row i 0 n c/\M=[(i,(t,vs.flatten.map .val++sp))]/\bW E sz w n c vs sp es
variable {X:AV} {M:List (Nat×(TypeId×List AV))} {i:Nat} {w w':World}
theorem eF.kp {α:Type} {E:World->List Value->α->Prop} {sz:Nat} {t:TypeId} {es:List α} (hE:gp E sz) (h:eF E sz t i X M w es) (k:Kp UU w w'):eF E sz t i X M w' es:=by
 rcases h with h|⟨n,c,vs,sp,h1,h2,h3⟩
 ·exact .inl h
 ·exact .inr ⟨n,c,vs,sp,h1,h2,h3.kp hE k⟩
def Hp.mask (l:List Nat) (H:Hp):Hp:=λi=>bif l.any (Nat.beq i) then none else H i
def Jj (H:Hp):List Nat->Prop
 | []=>True
 | i::r=>H i=none/\Jj H r
theorem Jj.eq {H:Hp}:∀ {l:List Nat},Jj H l->∀ i,l.any (Nat.beq i)=true->H i=none
 | [],_,i,h=>by cases h
 | j::r,hn,i,h=>by
   rw[List.any_cons,Hq] at h;rcases h with h|h
   ·rw[oD h];exact hn.1
   ·exact Jj.eq hn.2 i h
variable {H:Hp}
theorem Hp.mask_eq {l:List Nat} (h:Jj H l):Hp.mask l H=H:=by
 funext i
 unfold Hp.mask;cases hb:l.any (Nat.beq i) with
 | true=>exact (h.eq i hb).symm
 | false=>rfl
theorem VS.mask {C:Cx} {Q:Exit->Act->World->Prop} {F:Fr} {stk:List It} (l:List Nat) (h:Jj H l) (k:VS C Q stk F (Hp.mask l H) w):VS C Q stk F H w:=by rw[Hp.mask_eq h] at k;exact k
theorem vW {cs:List iT} {xs:List Rat} {z:Nat} {k:iT} {x:Rat} (h1:cs[z]? =some k) (h2:xs[z]? =some x):(bo cs xs)[z]? =some (k.1,k.2,x):=by
 unfold bo;rw[gT,show (cs.zip xs)[z]? =some (k,x) from Xj.2 ⟨h1,h2⟩];rfl
set_option maxRecDepth 4000 in
theorem QG (v u:Value) (cs:List iT) (xs:List Rat) (t:List (List Rat)) (e:Int) (kk:Nat) (w:World) (hu:bh (fu kk) 6 w u cs) (hv:bh (lR kk) 1 w v t) (he:0<=e) (hx:t[e.toNat]? =some xs) (hlen:xs.length=cs.length) (hk:kk<=1000) (hn:cs.length<=1000):
  Calls Tryz.prog 24 #[.agg #[v],u,.int .i64 e] w λo w'=>∃ r,o=.returned r/\aP (pJ (cL kk)) 9 74 w.heap.size w' r (bo cs xs)/\aD w w':=by
 obtain⟨p,c,rfl,eS,gv⟩:=hu.form;obtain⟨p2,c2,rfl⟩:=hv.sl;obtain⟨N,hN⟩:∃ N,N=cs.length:=⟨_,aa⟩;rw[<-hN] at hu eS hlen hn ⊢;have iq:e.toNat<t.length:=(cM.1 hx).1;obtain⟨pb,po,pc,rfl,hpc,⟨pv,rfl,qW⟩⟩:=hv.at hx;obtain⟨p3,c3,rfl⟩:=qW.sl;have hE:((e.toNat:Nat):Int)=e:=ae;obtain⟨M0,hM0⟩:∃ M0,M0=t.length:=⟨_,aa⟩;rw[<-hM0] at hv iq;rw[<-hM0];refine ai (C:=bd Tryz.prog w _) (args:=[_,_,_]) Tryz.func24 aa Tryz.ntmps24 (bF aa) ?_;refine af ?_;refine VO.fix 12 aa (ak (λb=>AV.val (.bool b)) (az (show ¬ e<0 by omega))) ?_;refine af ?_;refine VO.fix 19 aa (ak (λb=>AV.val (.bool b)) (az (show ¬ e>=(M0:Int) by omega))) ?_;refine af ?_;refine VO.cond aa eh (wV aa ?_);refine VO.read aa [.slice p3 xs.length c3] aa (λj u hj=>by rw[Addr.add_mid];exact hpc j u hj) (wV aa ?_);refine af ?_;refine VS.aO aa (qz ae) ?_;refine af ?_
 refine VS.loop (J:=λm L M w'=>∃ (z:Nat) (X:AV) (Mi:List (Nat×(TypeId×List AV))),z<=N/\m=N-z/\L=[(1,.val (.slice p N c)),(2,.val (.int .i64 e)),(3,.box 3 0),(7,X),(30,.val (.slice p N c)),(31,.val (.int .i64 (N:Int))),(32,.val (.int .i64 (z:Int)))]/\
  M=(3,(52,[.val (.slice (some ⟨pb,po,none⟩) M0 c2)]))::Mi/\eF (pJ (cL kk)) 9 74 56 X Mi w' ((bo cs xs).take z)) N ⟨_,_,?_,?_,?_,?_,⟨0,_,[],ae,rfl,rfl,rfl,.inl ⟨rfl,rfl,rfl⟩⟩⟩ ?_
 ·exact di
 ·exact di
 ·rfl
 ·exact fv
 rintro m L M wJ ⟨z,X,Mi,hz,rfl,rfl,rfl,hst⟩;refine VS.mask [9,42,52,55] (by rcases hst with ⟨_,_,rfl⟩|⟨_,_,_,_,_,rfl,_⟩ <;> (repeat first|exact aj|refine⟨aa,?_⟩)) ?_;refine af ?_;by_cases hlt:z<N
 ·obtain⟨k,iy⟩:∃ k,cs[z]? =some k:=⟨_,bj ae⟩;obtain⟨x,Az⟩:∃ x,xs[z]? =some x:=⟨_,bj ae⟩;obtain⟨b,off,jU,rfl,hc,⟨nm,s0,p0,n0,c0,t0,y0,m0,d0,rfl,rb,lV⟩⟩:=hu.at iy;obtain⟨b2,GU,cs2,rfl,pR,⟨s1,p1,n1,c1,t1,y1,m1,d1,rfl,hin2⟩⟩:=qW.at Az;refine VS.aR aa (aw (aJ.2 hlt)) ?_;refine af ?_;refine VO.cond aa eh ?_;refine wV aa ?_;refine af ?_;refine VO.read aa [.string nm,.int .u8 (k.1:Int),.bool s0,.slice p0 n0 c0,.bool t0,.slice y0 m0 d0] aa (bc hc 0 _ ⟨[],aa⟩) (wV aa ?_);refine af ?_;refine VO.eX aa (fk HI) (λaK β bE aX ho=>(pj _ [k.2] kk aK (ox (ho.own 42 (.base (ay.2 aa)) _ _ aa) [] (vs:=[[.bool s0,.slice p0 n0 c0,.bool t0,.slice y0 m0 d0]]) (by rfl) aa (ig.cons (lV.kp (Kp.of (U:=UU) aX)) ig.nil) (bF aa) eL) (by unfold bU cL;simp;omega)).mono ?_);rintro o w1 ⟨r1,rfl,q1,-,aU⟩;rw[sa] at q1;obtain⟨s2,p4,n2,c4,t2,y2,m2,d2,rfl⟩:=q1.form;refine aL aU ?_;intro cQ _ bb1;refine VO.cond aa eh (wV aa ?_);refine VO.read aa [.slice (some ⟨b2,GU,none⟩) xs.length c3] aa (λj u hj=>by rw[Addr.add_mid];exact hpc j u hj) (wV aa ?_);refine af ?_;refine VO.cond aa eh (wV aa ?_);refine VO.read aa [.bool s1,.slice p1 n1 c1,.bool t1,.slice y1 m1 d1] aa (bc pR 0 _ ⟨[],aa⟩) (wV aa ?_);refine af ?_;refine VO.eX aa (fk HI) (λbf β cK bK ho=>(pj _ [x] kk bf (ox (ho.own 52 (.base (ay.2 aa)) _ _ aa) [] (vs:=[[.bool s1,.slice p1 n1 c1,.bool t1,.slice y1 m1 d1]]) (by rfl) aa (ig.cons (hin2.kp (Kp.of (U:=UU) bK)) ig.nil) (bF aa) eL) (by unfold bU cL;simp;omega)).mono ?_);rintro o w2 ⟨r2,rfl,q2,-,bu⟩;rw[sa] at q2;obtain⟨s3,p5,n3,c5,t3,y3,m3,d3,rfl⟩:=q2.form;refine aL bu ?_;intro dW _ bb2;have yW:=vW iy Az;have hel2:pJ (cL kk) w2 [.int .u8 (k.1:Int),.bool s2,.slice p4 n2 c4,.bool t2,.slice y2 m2 d2,.bool s3,.slice p5 n3 c5,.bool t3,.slice y3 m3 d3] (k.1,k.2,x):=⟨_,_,_,_,_,_,_,_,_,_,_,_,_,_,_,_,aa,rb,q1.ki lV.rn,q2.in hin2.rn⟩;rcases hst with ⟨dJ,rfl,rfl⟩|⟨n',c',vs,sp,rfl,rfl,iU⟩
  ·refine VO.jg (cS _ _) (eE (cL kk)) (t:=71) (e:=74) (s:=55) (a:=(k.1,k.2,x)) (cs:=[.int .u8 (k.1:Int),.bool s2,.slice p4 n2 c4,.bool t2,.slice y2 m2 d2,.bool s3,.slice p5 n3 c5,.bool t3,.slice y3 m3 d3]) aa aa aa aa aa aa aa aa (bF aa) aa aa aa hel2 ae (λw8 cap sp k8 b8 gh=>wV aa ?_);refine af ?_;refine VS.back (N-(z+1)) ae ⟨_,_,?_,?_,?_,?_,⟨z+1,_,_,ae,aa,aa,aa,.inr ⟨1,cap,_,sp,aa,aa,by rw[aI yW,dJ];exact gh⟩⟩⟩
   ·refine⟨aa,aa,aa,aa,aa,aa,?_,aj⟩;rw[<-aA (i:=z) ae];rfl
   ·exact di
   ·rfl
   ·exact⟨.lit aa,gh.mg,aj⟩
  ·have nY:=iU.len;rw[cw] at nY;refine VO.jh (cS _ _) (eE (cL kk)) (t:=71) (e:=74) (s:=55) (i:=56) (n:=n') (c:=c') (vs:=vs) (sp:=sp) (es:=(bo cs xs).take z) (a:=(k.1,k.2,x)) (cs:=[.int .u8 (k.1:Int),.bool s2,.slice p4 n2 c4,.bool t2,.slice y2 m2 d2,.bool s3,.slice p5 n3 c5,.bool t3,.slice y3 m3 d3]) aa aa aa aa aa aa aa aa (bF aa) aa (.inr aa) aa (iU.kp (eE (cL kk)) bm) aa hel2 ae (λw8 il qH ρ k8 b8 gH gh=>wV aa ?_);refine af ?_;refine VS.back (N-(z+1)) ae ⟨_,_,?_,?_,?_,?_,⟨z+1,_,_,ae,aa,aa,aa,.inr ⟨n' +1,il,_,qH,aa,aa,by rw[aI yW];exact gh⟩⟩⟩
   ·refine⟨aa,aa,aa,aa,aa,aa,?_,aj⟩;rw[<-aA (i:=z) ae];rfl
   ·exact di
   ·rfl
   ·exact⟨.lit aa,gh.mg,aj⟩
 ·refine VS.aO aa (az (λe=>hlt (aJ.1 e))) ?_;obtain rfl:z=N:=ae;have Ij:(bo cs xs).take z=bo cs xs:=dM (by unfold bo;rw[bJ,wH];omega);rw[Ij] at hst;rcases hst with ⟨dJ,rfl,rfl⟩|⟨n',c',vs,sp,rfl,rfl,iU⟩
  ·refine af ?_;refine aC ?_;intro wz kz bz;exact⟨_,aa,.inl ⟨aa,dJ⟩,bz⟩
  ·refine af ?_;refine VS.lJ (cS _ _) aa (λwz β kz bz en=> ?_);exact⟨_,aa,iU.new (eE (cL kk)) (en.own 56 _ _ aa) kz,bz⟩
theorem FI (f:ew->Rat) (h:∀ e:ew,e.exp.2.2.2=0->f e=0) (l:List ew):dY ((gQ l).map f)=dY (l.map f):=by
 induction l with
 | nil=>rfl
 | cons e r ih=>
   unfold gQ at ih ⊢;by_cases h0:e.exp.2.2.2=0
   ·have hz:enz e=false:=by unfold enz;simp[h0]
    rw[DI (by simp[hz]),ih,kX,ja,h e h0];grind
   ·have hz:enz e=true:=by unfold enz;simp[h0]
    rw[DG hz,kX,kX,ja,ja,ih]
theorem VL (l:List ew) (z:Int):fh (gQ l) z=fh l z:=FI _ (λe h=>by
 unfold ij
 split
 ·rfl
 ·rw[h,Rat.zero_mul]) l
theorem VM (l:List ew) (z:Int):fN (gQ l) z=fN l z:=FI _ (λe h=>by
 unfold mL
 split
 ·rfl
 ·rw[h,Rat.zero_mul]) l
def FJ (kk:Nat) (i:Nat) (X:AV) (M:List (Nat×(TypeId×List AV))) (w:World) (es:List ew):Prop:=
 (es=[]/\X=.val (.slice none 0 0)/\M=[])\/∃ n c vs spare,X=.row i 0 n c/\M=[(i,(338,vs.flatten.map .val++spare.map .val))]/\n=es.length/\eC (oh kk) w es vs/\spare.all cJ=true/\n<=c/\c<=9223372036854775807/\(vs.flatten++spare).length=c*6
theorem FJ.kp {kk:Nat} {es:List ew} (h:FJ kk i X M w es) (k:Kp UU w w'):FJ kk i X M w' es:=by
 rcases h with h|⟨n,c,vs,sp,h0,h1,h2,h3,h4⟩
 ·exact .inl h
 ·exact .inr ⟨n,c,vs,sp,h0,h1,h2,h3.kp (fA kk) k,h4⟩
section
variable {C:Cx} {β:Nat->Nat} {H:Hp} {w w1:World} {ids:List Nat} {X:AV} {M:List (Nat×(TypeId×List AV))}
theorem FJ.in {kk i g:Nat} {es:List ew} (h:FJ kk i X M w es) (o:nd C β H ids w1) (hg:g∈ids) (hG:H g=some (336,[X])) (hM:∀ x∈M,H x.1=some x.2) (k:Kp UU w w1):Fy kk w1 (β g) es:=by
 have o1:=o.own g (.base hg) _ _ hG;rcases h with ⟨rfl,rfl,rfl⟩|⟨n,c,vs,sp,rfl,rfl,h2,h3,h4,h5,h6,h7⟩
 ·exact⟨_,rZ o1.cls,bh.nil _ _ _⟩
 ·have o2:=o.own i (.step (.base hg) hG (by rw[zu];simp)) _ _ (hM _ (ay.2 aa));exact⟨_,rZ o1.cls,fU (fA kk) o2 (sp.map .val) aa (h3.kp (fA kk) k) h2 h5 h6⟩
theorem eF.GV {α:Type} {E:World->List Value->α->Prop} {sz i:Nat} {t:TypeId} {es:List α} (h:eF E sz t i X M w es) (hE:gp E sz) (o:nd C β H (gl [X]) w1) (hM:∀ x∈M,H x.1=some x.2) (k:Kp UU w w1):bh E sz w1 (X.bH β) es:=by
 rcases h with ⟨rfl,rfl,rfl⟩|⟨n,c,vs,sp,rfl,rfl,h3⟩
 ·exact bh.nil _ _ _
 ·exact h3.sl' hE (o.own i (.base (by simp[gl,AV.ids])) _ _ (hM _ (ay.2 aa))) k
end
def Gu (kk:Nat) (w:World) (cs:List Value) (q:Rat):Prop:=∃ s p n c t y m d,cs=[.bool s,.slice p n c,.bool t,.slice y m d]/\bq w (.agg #[.bool s,.slice p n c,.bool t,.slice y m d]) q/\dy q kk
theorem dU (kk:Nat):gp (Gu kk) 4 where
 kp:=λh k=>by
  obtain⟨s,p,n,c,t,y,m,d,hv,h1,h2⟩:=h;exact⟨_,_,_,_,_,_,_,_,hv,h1.kp k,h2⟩
 len:=λh=>by
  obtain⟨s,p,n,c,t,y,m,d,rfl,_⟩:=h;rfl
 ok:=λh=>by
  obtain⟨s,p,n,c,t,y,m,d,rfl,_⟩:=h;rfl
def fC (kk:Nat) (w:World) (cs:List Value) (r:ik):Prop:=∃ a b c d e f g,cs=a++(b++(c++(d++(e++(f++g)))))/\Gu kk w a r.p.b/\Gu kk w b r.p.s/\Gu kk w c r.p.d/\Gu kk w d r.p.i/\Gu kk w e r.due/\Gu kk w f r.xU/\Gu kk w g r.own
theorem bt (kk:Nat):gp (fC kk) 28 where
 kp:=λh k=>by
  obtain⟨a,b,c,d,e,f,g,hv,h1,h2,h3,h4,h5,h6,h7⟩:=h;exact⟨a,b,c,d,e,f,g,hv,(dU kk).kp h1 k,(dU kk).kp h2 k,(dU kk).kp h3 k,(dU kk).kp h4 k,(dU kk).kp h5 k,(dU kk).kp h6 k,(dU kk).kp h7 k⟩
 len:=λh=>by
  obtain⟨a,b,c,d,e,f,g,rfl,h1,h2,h3,h4,h5,h6,h7⟩:=h;simp only[List.length_append];rw[(dU kk).len h1,(dU kk).len h2,(dU kk).len h3,(dU kk).len h4,(dU kk).len h5,(dU kk).len h6,(dU kk).len h7]
 ok:=λh=>by
  obtain⟨a,b,c,d,e,f,g,rfl,h1,h2,h3,h4,h5,h6,h7⟩:=h;simp only[List.all_append];rw[(dU kk).ok h1,(dU kk).ok h2,(dU kk).ok h3,(dU kk).ok h4,(dU kk).ok h5,(dU kk).ok h6,(dU kk).ok h7];rfl
def AK:Nat:=40000
variable {w:World}
theorem Gu.mk {kk:Nat} {s t:Bool} {p y:Option Addr} {n c m d:Nat} {q:Rat} (h:bq w (.agg #[.bool s,.slice p n c,.bool t,.slice y m d]) q) (hs:dy q kk):Gu kk w [.bool s,.slice p n c,.bool t,.slice y m d] q:=⟨_,_,_,_,_,_,_,_,rfl,h,hs⟩
variable {xss:List (List Rat)} {cs:List iT} {y:Nat}
theorem jX (h:y<xss.length):(fb cs xss)[y]? =some (gu cs xss y):=by
 unfold fb;rw[gT,List.getElem?_range h];rfl
theorem VN {l:List ew} {p:iT×Rat} (hy:y<=9999) (h:1<=gR p.1.2):lQ (gQ l) (tH y p)=gQ (l++[tH y p]):=by
 unfold lQ;rw[if_neg (by rw[AM hy h];simp)];unfold gQ;rw[List.filter_append];by_cases hz:(tH y p).exp.2.2.2=0
 ·rw[if_pos hz,DI (by unfold enz;simp[hz]),List.filter_nil,jQ]
 ·rw[if_neg hz,DG (by unfold enz;simp[hz]),List.filter_nil]
theorem BX (l:List ew):(gQ l).length<=l.length:=RB _ _
theorem vX {cs:List iT} {xss:List (List Rat)} (h:∀ k∈cs,k.1=6->1<=gR k.2):∀ n,n<=9999->∀ e∈dL cs xss n,ek e.exp=false
 | 0,_,e,he=>by simp[dL] at he
 | n+1,hn,e,he=>by
   rw[show dL cs xss (n+1)=dL cs xss n++mi n (cs.zip (xss.getD n [])) from aa] at he;rcases mV.1 he with he|he
   ·exact vX h n ae e he
   ·unfold mi at he;obtain⟨p,hp,rfl⟩:=eG.1 he;obtain⟨hp1,hp2⟩:=Bf.1 hp;refine AM ae (h p.1 (List.of_mem_zip (show (p.1,p.2)∈_ from hp1)).1 ?_);unfold jO at hp2;exact eq_of_beq hp2
set_option maxRecDepth 4000
variable {full:Array Oper} {C:Cx} {Q:Exit->Act->World->Prop} {F:Fr} {P:Fr->Hp->World->Prop} {H:Hp} {l:List Oper} {m:Option (List FuncId)}
theorem VO.via {stk0 stk1:List It} (h1:(∀ F' H' w',P F' H' w'->VS C Q stk1 F' H' w')->aB C m full l (VS C Q stk0) F H w) (h2:∀ F' H' w',P F' H' w'->VS C Q stk1 F' H' w'):aB C m full l (VS C Q stk0) F H w:=h1 h2
theorem VO.join {stk:List It} (h1:(∀ F' H' w',P F' H' w'->VS C Q stk F' H' w')->aB C m full l (VS C Q stk) F H w) (h2:∀ F' H' w',P F' H' w'->VS C Q stk F' H' w'):aB C m full l (VS C Q stk) F H w:=h1 h2
def lS (cs:List iT) (xss:List (List Rat)) (y z:Nat):List ew:=dL cs xss y++mi y ((cs.zip (xss.getD y [])).take z)
variable {z:Nat}
theorem FK {T:Nat} (hy:y<T) (h:T*cs.length<=128):(lS cs xss y z).length<=128:=by
 have h1:=FF cs xss y
 have h2:(mi y ((cs.zip (xss.getD y [])).take z)).length<=cs.length:=by
  unfold mi;rw[bJ];exact bG (RB _ _) (by rw[cw,wH];omega)
 unfold lS;rw[fH];have h3:(y+1)*cs.length<=T*cs.length:=kC _ hy;rw[ff,tY] at h3;omega
theorem vY {k:iT} {x:Rat} (h1:cs[z]? =some k) (h2:(xss.getD y [])[z]? =some x):lS cs xss y (z+1)=lS cs xss y z++(if jO (k,x)=true then [tH y (k,x)] else []):=by
 unfold lS;rw[QA (p:=(k,x)) (Xj.2 ⟨h1,h2⟩),uF]
set_option maxRecDepth 4000 in
theorem qJ (v u:Value) (e:Int) (cs:List iT) (ts:List (List (List Rat))) (kk:Nat) (w:World) (hv:bh (fu kk) 6 w v cs) (hu:bh (gI kk) 1 w u ts) (hk:kk<=64) (hn:cs.length<=64) (hd:ts.length*cs.length<=128\/40<ts.length):
  Calls Tryz.prog 115 #[v,.int .i64 e,u] w λo w'=>∃ r,o=.returned (.tuple #[r,.int .i64 (gV cs e ts)])/\aP (fC AK) 28 123 w.heap.size w' r (cf cs e ts)/\aD w w':=by
 obtain⟨p,c,rfl,eS,gv⟩:=hv.form;obtain⟨p2,c2,rfl,CP,GW⟩:=hu.form;obtain⟨N,hN⟩:∃ N,N=cs.length:=⟨_,aa⟩;obtain⟨T,hT⟩:∃ T,T=ts.length:=⟨_,aa⟩;rw[<-hN] at hv eS hn hd;rw[<-hT] at hu CP hd;rw[<-hN,<-hT];refine ai (C:=bd Tryz.prog w _) (args:=[_,_,_]) yc aa Tryz.ntmps115 (bF aa) ?_;refine af ?_;refine VO.call aa aa (fk Tryz.func170) (λaK bE aX=>(amay_any _ _ e cs ts kk aK (hv.bS (cW kk) aX) (hu.iI (iB kk) aX) ae).mono ?_);rintro o w1 ⟨rfl,aU⟩;by_cases hm:gV cs e ts≠0
 ·refine aL aU ?_;intro cQ _ bb1;refine VS.aR aa (Fk hm) ?_;refine af ?_;refine aC ?_;intro wz kz bz;exact⟨_,aa,.inl ⟨aa,by unfold cf;rw[if_neg hm]⟩,bz⟩
 replace hm:gV cs e ts=0:=Rx hm;have VP:cf cs e ts=fb cs (ts.map λt=>t.getD e.toNat []):=if_pos hm;obtain⟨VQ,he0,fx,hyr⟩:=zv hm;rw[hm,VP];rw[<-hN] at fx;rw[<-hT] at VQ;have hTN:T*N<=128:=hd.resolve_right ae;obtain⟨xss,CQ⟩:∃ xss:List (List Rat),xss=ts.map (λt=>t.getD e.toNat []):=⟨_,aa⟩;rw[<-CQ];have gU:xss.length=T:=by rw[CQ,bJ,hT]
 have hxa:∀ y t,ts[y]? =some t->xss.getD y []=t.getD e.toNat []:=λy t h=>by rw[CQ,fG,gT,h];rfl
 refine aL aU ?_;intro cQ _ bb1;refine VO.callB (t:=336) (cs:=[.slice none 0 0]) aa aa aa (bF aa) (bF aa) aa aa (λbf β cK bK ho=>⟨fk Tryz.func171,(tNew_any bf).mono ?_⟩);rintro o w2 ⟨g2,rfl,hg2,pR,bu⟩;refine⟨g2,aa,bu,hg2,pR,λdW _ bb2=>wV aa ?_⟩;refine af ?_
 refine VS.loop (J:=λm L M w'=>∃ (y:Nat) (Xo Xl:AV) (Mo Ml:List (Nat×(TypeId×List AV))),y<=T/\m=T-y/\L=[(0,.val (.slice p N c)),(1,.val (.int .i64 e)),(9,Xo),(10,.box 24 0),(25,.val (.slice p2 T c2)),(26,.val (.int .i64 (T:Int))),(27,.val (.int .i64 (y:Int)))]/\
  M=(24,(336,[Xl]))::(Ml++Mo)/\eF (fC AK) 28 123 96 Xo Mo w' ((fb cs xss).take y)/\FJ (cL kk) 120 Xl Ml w' (gQ (dL cs xss y))) T ⟨_,_,?_,?_,?_,?_,⟨0,_,_,[],[],ae,rfl,rfl,rfl,.inl ⟨rfl,rfl,rfl⟩,.inl ⟨rfl,rfl,rfl⟩⟩⟩ ?_
 ·exact di
 ·exact di
 ·rfl
 ·exact fv
 rintro m L M wJ ⟨y,Xo,Xl,Mo,Ml,hy,rfl,rfl,rfl,hO,hL⟩;refine VS.mask [12,16,35,51,95] (by rcases hO with ⟨_,_,rfl⟩|⟨_,_,_,_,_,rfl,_⟩ <;> rcases hL with ⟨_,_,rfl⟩|⟨_,_,_,_,_,rfl,_⟩ <;> (repeat first|exact aj|refine⟨aa,?_⟩)) ?_;refine af ?_;by_cases hlt:y<T
 ·obtain⟨t,ht⟩:∃ t,ts[y]? =some t:=⟨_,bj ae⟩;obtain⟨b,off,jU,rfl,hc,⟨tv,rfl,BZ⟩⟩:=hu.at ht;obtain⟨pt,ct,rfl⟩:=BZ.sl;obtain⟨qj,qk⟩:=fx t (dz ht);have Eb:=hxa y t ht;obtain⟨xs,qW⟩:∃ xs,t[e.toNat]? =some xs:=⟨_,bj qj⟩;have zw:xss.getD y []=xs:=by rw[Eb,fG,qW];rfl
  have hxn:xs.length=N:=by rw[<-qk,fG,qW];rfl
  refine VS.aR aa (aw (aJ.2 hlt)) ?_;refine af ?_;refine VO.cond aa eh ?_;refine wV aa ?_;refine af ?_;refine VO.read aa [.slice pt t.length ct] aa (λj u hj=>by rw[Addr.add_mid,dV];exact hc j u hj) (wV aa ?_);refine af ?_
  apply VO.via (P:=Entry (λm L M w'=>∃ (z:Nat) (Xi Xl Xt:AV) (Mi Ml Mt:List (Nat×(TypeId×List AV))),z<=N/\m=N-z/\L=[(0,.val (.slice p N c)),(1,.val (.int .i64 e)),(9,Xo),(10,.box 24 0),(11,.val (.int .i64 (y:Int))),(13,Xi),(25,.val (.slice (some ⟨b,off,none⟩) T c2)),(26,.val (.int .i64 (T:Int))),(27,.val (.int .i64 (y:Int))),(35,Xt),(36,.val (.int .i64 (N:Int))),(37,.val (.int .i64 (z:Int)))]/\
   M=(24,(336,[Xl]))::(Mt++(Mi++(Ml++Mo)))/\eF (pJ (cL kk)) 9 74 35 Xt Mt w' (bo cs xs)/\eF (pJ (cL kk)) 9 203 51 Xi Mi w' ((bo cs xs).take z)/\eF (fC AK) 28 123 96 Xo Mo w' ((fb cs xss).take y)/\FJ (cL kk) 120 Xl Ml w' (gQ (lS cs xss y z))) N)
  ·intro cont;have Ij:(bo cs xs).length=N:=by unfold bo;rw[bJ,wH];omega
   refine VO.Fi (eE (cL kk)) (dst:=35) (t:=74) (es:=bo cs xs) aa aa aa (bF aa) (bF aa) aa (λcV β dS ea ho=>⟨fk Tryz.func24,(QG _ _ cs xs t e kk cV (by exact hv.bS (cW kk) ea) (BZ.iI (pL kk) ea) he0 qW ae ae ae).mono ?_⟩);rintro o w3 ⟨r3,rfl,q3,dH⟩;refine⟨_,aa,dH,q3,λk3 k3' b3 dJ=>wV aa ?_,λcap3 vs3 sp3 k3 k3' b3 el3 ok3 le3 cm3 fl3=> ?_⟩
   ·have hN0:N=0:=by rw[<-Ij,dJ];rfl
    refine af ?_;refine cont _ _ _ ⟨_,_,?_,?_,?_,?_,⟨0,_,Xl,_,[],Ml,[],ae,aa,aa,aa,.inl ⟨dJ,aa,aa⟩,.inl ⟨aa,aa,aa⟩,hO.kp (bt AK) bm,?_⟩⟩
    ·refine⟨aa,aa,aa,aa,aa,aa,aa,aa,aa,aa,?_,aa,aj⟩;rw[hN0];rfl
    ·rcases hO with ⟨_,rfl,rfl⟩|⟨_,_,_,_,rfl,rfl,_⟩ <;> rcases hL with ⟨_,rfl,rfl⟩|⟨_,_,_,_,rfl,rfl,_⟩ <;> (repeat first|exact aj|refine⟨aa,?_⟩|refine⟨ak (λl=>some (_,l)) (ba (by first|exact bW.dN (by assumption)|exact ah _|(rw[<-aQ];exact ah _)) _ _),?_⟩)
    ·rcases hO with ⟨_,rfl,rfl⟩|⟨_,_,_,_,rfl,rfl,_⟩ <;> rcases hL with ⟨_,rfl,rfl⟩|⟨_,_,_,_,rfl,rfl,_⟩ <;> rfl
    ·rcases hO with ⟨_,rfl,rfl⟩|⟨_,_,_,_,rfl,rfl,_⟩ <;> rcases hL with ⟨_,rfl,rfl⟩|⟨_,_,_,_,rfl,rfl,_⟩ <;> (repeat first|exact aj|refine⟨aq.lit aa,?_⟩|refine⟨bW.mg (by assumption),?_⟩|refine⟨aq.append (.vals _) (.vals _),?_⟩|refine⟨aq.vals _,?_⟩)
    ·rw[show lS cs xss y 0=dL cs xss y from jQ _];exact hL.kp bm
   ·rw[Ij] at le3 ⊢;refine wV aa ?_;refine af ?_;have hNt:bW (pJ (cL kk)) 9 w3 N cap3 vs3 (sp3.map .val) (bo cs xs):=⟨Ij.symm,el3,dx ok3,ah _,le3,cm3,by rw[<-aQ,bJ];exact fl3⟩;refine cont _ _ _ ⟨_,_,?_,?_,?_,?_,⟨0,_,Xl,_,[],Ml,_,ae,aa,aa,aa,.inr ⟨N,cap3,vs3,sp3.map .val,aa,aa,hNt⟩,.inl ⟨aa,aa,aa⟩,hO.kp (bt AK) bm,?_⟩⟩
    ·exact di
    ·rcases hO with ⟨_,rfl,rfl⟩|⟨_,_,_,_,rfl,rfl,_⟩ <;> rcases hL with ⟨_,rfl,rfl⟩|⟨_,_,_,_,rfl,rfl,_⟩ <;> (repeat first|exact aj|refine⟨aa,?_⟩|refine⟨ak (λl=>some (_,l)) (ba (by first|exact bW.dN (by assumption)|exact ah _|(rw[<-aQ];exact ah _)) _ _),?_⟩)
    ·rcases hO with ⟨_,rfl,rfl⟩|⟨_,_,_,_,rfl,rfl,_⟩ <;> rcases hL with ⟨_,rfl,rfl⟩|⟨_,_,_,_,rfl,rfl,_⟩ <;> rfl
    ·rcases hO with ⟨_,rfl,rfl⟩|⟨_,_,_,_,rfl,rfl,_⟩ <;> rcases hL with ⟨_,rfl,rfl⟩|⟨_,_,_,_,rfl,rfl,_⟩ <;> (repeat first|exact aj|refine⟨aq.lit aa,?_⟩|refine⟨bW.mg (by assumption),?_⟩|refine⟨aq.append (.vals _) (.vals _),?_⟩|refine⟨aq.vals _,?_⟩)
    ·rw[show lS cs xss y 0=dL cs xss y from jQ _];exact hL.kp bm
  ·clear hO hL;intro F0 H0 w0' hent;refine VS.loop N hent ?_;rintro m L M wK ⟨z,Xi,Xl,Xt,Mi,Ml,Mt,hz,rfl,rfl,rfl,QH,hI,hO,hL⟩;refine VS.mask [15,16,50,95] (by rcases QH with ⟨_,rfl,rfl⟩|⟨_,_,_,_,rfl,rfl,_⟩ <;> rcases hI with ⟨_,rfl,rfl⟩|⟨_,_,_,_,rfl,rfl,_⟩ <;> rcases hO with ⟨_,rfl,rfl⟩|⟨_,_,_,_,rfl,rfl,_⟩ <;> rcases hL with ⟨_,rfl,rfl⟩|⟨_,_,_,_,rfl,rfl,_⟩ <;> (repeat first|exact aj|refine⟨aa,?_⟩)) ?_;have Ij:(bo cs xs).length=N:=by unfold bo;rw[bJ,wH];omega
   refine af ?_;by_cases SW:z<N
   ·obtain⟨k,iy⟩:∃ k,cs[z]? =some k:=⟨_,bj ae⟩;obtain⟨x,Az⟩:∃ x,xs[z]? =some x:=⟨_,bj ae⟩;have yW:=vW iy Az;rcases QH with ⟨dJ,rfl,rfl⟩|⟨nt,ct2,vst,spt,rfl,rfl,hNt⟩
    ·rw[dJ] at Ij;exact absurd Ij.symm (by simp;omega)
    have hntl:=hNt.len;rw[Ij] at hntl;obtain⟨csI,hcs1,⟨s1,p1,n1,c1,t1,y1,m1,d1,s5,p5,n5,c5,t5,y5,m5,d5,rfl,rb,hiA,hiX⟩,hcs3,hcell⟩:=hNt.cell (eE (cL kk)) yW;refine VS.aR aa (aw (aJ.2 SW)) ?_;refine af ?_;refine VO.cond aa eh ?_;refine wV aa ?_;refine af ?_;refine VO.mv aa (([.int .u8 (k.1:Int),.bool s1,.slice p1 n1 c1,.bool t1,.slice y1 m1 d1,.bool s5,.slice p5 n5 c5,.bool t5,.slice y5 m5 d5]:List Value).map .val) aa (hcell 0 _ ⟨[],aa⟩) (wV aa ?_);refine af ?_
    apply VO.join (P:=Entry (λ_ L M w'=>∃ (Xi:AV) (Mi:List (Nat×(TypeId×List AV))),L=[(0,.val (.slice p N c)),(1,.val (.int .i64 e)),(9,Xo),(10,.box 24 0),(11,.val (.int .i64 (y:Int))),(13,Xi),(14,.val (.int .i64 (z:Int))),(15,.box 15 0),(25,.val (.slice (some ⟨b,off,none⟩) T c2)),(26,.val (.int .i64 (T:Int))),(27,.val (.int .i64 (y:Int))),(35,.row 35 0 nt ct2),(36,.val (.int .i64 (N:Int))),(37,.val (.int .i64 (z:Int)))]/\
     M=(24,(336,[Xl]))::(15,(74,([.int .u8 (k.1:Int),.bool s1,.slice p1 n1 c1,.bool t1,.slice y1 m1 d1,.bool s5,.slice p5 n5 c5,.bool t5,.slice y5 m5 d5]:List Value).map .val))::(35,(74,vst.flatten.map .val++spt))::(Mi++(Ml++Mo))/\eF (pJ (cL kk)) 9 203 51 Xi Mi w' ((bo cs xs).take (z+1))/\Kp UU wK w') 0)
    ·intro cont;have hel2:pJ (cL kk) wK [.int .u8 (k.1:Int),.bool s1,.slice p1 n1 c1,.bool t1,.slice y1 m1 d1,.bool s5,.slice p5 n5 c5,.bool t5,.slice y5 m5 d5] (k.1,k.2,x):=⟨_,_,_,_,_,_,_,_,_,_,_,_,_,_,_,_,aa,rb,hiA,hiX⟩;rcases hI with ⟨dJ,rfl,rfl⟩|⟨n',c',vs,sp,rfl,rfl,iU⟩
     ·refine VO.jg (cS _ _) (eE (cL kk)) (t:=202) (e:=203) (s:=50) (a:=(k.1,k.2,x)) (cs:=[.int .u8 (k.1:Int),.bool s1,.slice p1 n1 c1,.bool t1,.slice y1 m1 d1,.bool s5,.slice p5 n5 c5,.bool t5,.slice y5 m5 d5]) aa aa aa aa aa aa aa aa (bF aa) aa (by rcases hO with ⟨_,rfl,rfl⟩|⟨_,_,_,_,rfl,rfl,_⟩ <;> rcases hL with ⟨_,rfl,rfl⟩|⟨_,_,_,_,rfl,rfl,_⟩ <;> rfl) aa hel2 ae (λw8 cap sp k8 b8 gh=>wV aa (wN ?_));refine cont _ _ _ ⟨_,_,?_,?_,?_,?_,⟨_,_,aa,aa,.inr ⟨1,cap,_,sp,aa,aa,by rw[aI yW,dJ];exact gh⟩,bm⟩⟩
      ·rcases hO with ⟨_,rfl,rfl⟩|⟨_,_,_,_,rfl,rfl,_⟩ <;> rcases hL with ⟨_,rfl,rfl⟩|⟨_,_,_,_,rfl,rfl,_⟩ <;> (repeat first|exact aj|refine⟨aa,?_⟩)
      ·rcases hO with ⟨_,rfl,rfl⟩|⟨_,_,_,_,rfl,rfl,_⟩ <;> rcases hL with ⟨_,rfl,rfl⟩|⟨_,_,_,_,rfl,rfl,_⟩ <;> (repeat first|exact aj|refine⟨aa,?_⟩|refine⟨ak (λl=>some (_,l)) (ba (by first|exact bW.dN (by assumption)|exact ah _|(rw[<-aQ];exact ah _)) _ _),?_⟩)
      ·rcases hO with ⟨_,rfl,rfl⟩|⟨_,_,_,_,rfl,rfl,_⟩ <;> rcases hL with ⟨_,rfl,rfl⟩|⟨_,_,_,_,rfl,rfl,_⟩ <;> rfl
      ·rcases hO with ⟨_,rfl,rfl⟩|⟨_,_,_,_,rfl,rfl,_⟩ <;> rcases hL with ⟨_,rfl,rfl⟩|⟨_,_,_,_,rfl,rfl,_⟩ <;> (repeat first|exact aj|refine⟨aq.lit aa,?_⟩|refine⟨bW.mg (by assumption),?_⟩|refine⟨aq.append (.vals _) (.vals _),?_⟩|refine⟨aq.vals _,?_⟩)
     ·have nY:=iU.len;rw[cw] at nY;refine VO.jh (cS _ _) (eE (cL kk)) (t:=202) (e:=203) (s:=50) (i:=51) (n:=n') (c:=c') (vs:=vs) (sp:=sp) (es:=(bo cs xs).take z) (a:=(k.1,k.2,x)) (cs:=[.int .u8 (k.1:Int),.bool s1,.slice p1 n1 c1,.bool t1,.slice y1 m1 d1,.bool s5,.slice p5 n5 c5,.bool t5,.slice y5 m5 d5]) aa aa aa aa aa aa aa aa (bF aa) aa (.inr aa) aa (iU.kp (eE (cL kk)) bm) aa hel2 ae (λw8 il qH ρ k8 b8 gH gh=>wV aa (wN ?_));refine cont _ _ _ ⟨_,_,?_,?_,?_,?_,⟨_,_,aa,aa,.inr ⟨n' +1,il,_,qH,aa,aa,by rw[aI yW];exact gh⟩,bm⟩⟩
      ·rcases hO with ⟨_,rfl,rfl⟩|⟨_,_,_,_,rfl,rfl,_⟩ <;> rcases hL with ⟨_,rfl,rfl⟩|⟨_,_,_,_,rfl,rfl,_⟩ <;> (repeat first|exact aj|refine⟨aa,?_⟩)
      ·rcases hO with ⟨_,rfl,rfl⟩|⟨_,_,_,_,rfl,rfl,_⟩ <;> rcases hL with ⟨_,rfl,rfl⟩|⟨_,_,_,_,rfl,rfl,_⟩ <;> (repeat first|exact aj|refine⟨aa,?_⟩|refine⟨ak (λl=>some (_,l)) (ba (by first|exact bW.dN (by assumption)|exact ah _|(rw[<-aQ];exact ah _)) _ _),?_⟩)
      ·rcases hO with ⟨_,rfl,rfl⟩|⟨_,_,_,_,rfl,rfl,_⟩ <;> rcases hL with ⟨_,rfl,rfl⟩|⟨_,_,_,_,rfl,rfl,_⟩ <;> rfl
      ·rcases hO with ⟨_,rfl,rfl⟩|⟨_,_,_,_,rfl,rfl,_⟩ <;> rcases hL with ⟨_,rfl,rfl⟩|⟨_,_,_,_,rfl,rfl,_⟩ <;> (repeat first|exact aj|refine⟨aq.lit aa,?_⟩|refine⟨bW.mg (by assumption),?_⟩|refine⟨aq.append (.vals _) (.vals _),?_⟩|refine⟨aq.vals _,?_⟩)
    ·clear hI;rintro F1 H1 jf ⟨_,_,h1,h2,h3,h4,Xi',Mi',rfl,rfl,hI,hkp⟩;refine VS.narrow _ _ h1 h2 h3 h4 ?_;clear h1 h2 h3 h4 F1 H1;refine af ?_;by_cases h6:k.1=6
     ·have FL:jO (k,x)=true:=by unfold jO;rw[show (k,x).1.1=6 from h6];rfl
      have hyrs:1<=gR k.2:=hyr k (dz iy) h6;have hwell:ek (tH y (k,x)).exp=false:=AM ae hyrs;have GS:lS cs xss y (z+1)=lS cs xss y z++[tH y (k,x)]:=by rw[vY iy (by rw[zw];exact Az),if_pos FL]
      have Kz:lQ (gQ (lS cs xss y z)) (tH y (k,x))=gQ (lS cs xss y (z+1)):=by rw[GS];exact VN ae hyrs
      have Jh:(if ek (ew.exp (tH y (k,x)))=true then (2:Int) else 0)=0:=if_neg (by rw[hwell];simp);have zx:(gQ (lS cs xss y z)).length<=128:=bG (BX _) (FK hlt (hN▸hTN));have hayl:=Ky k.2;obtain⟨bC,oC,csC,rfl,hcC,hEC⟩:=hv.at iy;have hEC':=hEC;obtain⟨nm,sC,pC,nC,cC,tC,yC,mC,dC,rfl,-,-⟩:=hEC';refine VS.aR aa (BR (show (k.1:Int)=6 by omega)) ?_
      (repeat (first|refine wN ?_|refine wP aa ?_|refine Ur aa ?_|refine wO aa aa ?_))
      refine VS.draw (cS _ _) (vh _ _) [172+1000000] (by kernel_rfl) ?_;refine wV aa ?_;refine VO.cond aa eh ?_;refine wV aa ?_;refine af ?_;refine VO.read aa [.string nm,.int .u8 (k.1:Int),.bool sC,.slice pC nC cC,.bool tC,.slice yC mC dC] aa (bc hcC 0 _ ⟨[],aa⟩) (wV aa ?_);refine af ?_;refine VO.cB aa aa (fk Tryz.func173) (λey eU fc=>FH _ k kk ey ((cW kk).b hEC fc) ae) (λey eU fc w4 gj jc _ mw=>wV aa ?_);refine af ?_;refine VO.cR aa aa (fk mc) (λgn iz iZ=>dK 0 gn ae ae) (λgn iz iZ w5 s5 p5 n5 c5 t5 y5 m5 d5 q5 je nw _ um=>wV aa ?_);refine af ?_;refine VO.cR aa aa (fk mX) (λjL my nV=>eJ _ _ x ((0:Int):Rat) (cL kk) 1 jL (hiX.kp bm) (q5.ki dy.zero) (by unfold cL;omega) ae) (λjL my nV w6 s6 p6 n6 c6 t6 y6 m6 d6 q6 oY sq _ xT=>wV aa ?_);refine af ?_;have q6':bq w6 (.agg #[.bool s6,.slice p6 n6 c6,.bool t6,.slice y6 m6 d6]) x:=q6.rd.cast (by rw[show ((0:Int):Rat)=0 from aa,mW]);have gN:=q6'.raw;have hxz:=hiX.rn;have hxz':dy x (cL kk):=hxz.mono (by unfold cL;omega);rcases hL with ⟨dJ,rfl,rfl⟩|⟨nl,cl,vl,spl,rfl,rfl,GA,OB,hl3,hl4,hl5,YT⟩
      ·rw[dJ] at Kz;refine VO.callPut0 (d1:=24) (d2:=120) (y:=(y:Int)) (z:=(gR k.2:Int)) (s:=decide (x.num<0)) (xs:=limbs x.num.natAbs) (t:=decide ((x.den:Int)<0)) (ys:=limbs (x.den:Int).natAbs) (cL kk) (code:=0) (l':=gQ (lS cs xss y (z+1))) Jh Kz aa aa (fk Tryz.func172) aa (by rcases hI with ⟨_,rfl,rfl⟩|⟨_,_,_,_,rfl,rfl,_⟩ <;> rcases hO with ⟨_,rfl,rfl⟩|⟨_,_,_,_,rfl,rfl,_⟩ <;> rfl) eL (bF aa) (bF aa) aa (λw1 k1 b1=>gN.k) ⟨ae,ae⟩ ⟨ae,ae⟩ hxz'.1 hxz'.2 (by unfold cL;omega) (λw7 k7 b7 hnil7=>wV aa ?_) (λw7 n7 c7 vs7 sp7 k7 b7 h0 h1 h2 h3 h4 h5 h6=>wV aa ?_)
       ·refine af ?_;refine VS.back (N-(z+1)) ae ⟨_,_,?_,?_,?_,?_,⟨z+1,Xi',.val (.slice none 0 0),.row 35 0 nt ct2,Mi',[],[(35,_)],ae,aa,aa,aa,.inr ⟨nt,ct2,vst,spt,aa,aa,hNt.kp (eE (cL kk)) bm⟩,hI.kp (eE (cL kk)) bm,hO.kp (bt AK) bm,.inl ⟨hnil7,aa,aa⟩⟩⟩
        ·rcases hI with ⟨_,rfl,rfl⟩|⟨_,_,_,_,rfl,rfl,_⟩ <;> rcases hO with ⟨_,rfl,rfl⟩|⟨_,_,_,_,rfl,rfl,_⟩ <;> (refine⟨aa,aa,aa,aa,aa,aa,aa,aa,aa,aa,aa,?_,aj⟩;rw[<-aA (i:=z) ae];rfl)
        ·rcases hI with ⟨_,rfl,rfl⟩|⟨_,_,_,_,rfl,rfl,_⟩ <;> rcases hO with ⟨_,rfl,rfl⟩|⟨_,_,_,_,rfl,rfl,_⟩ <;> (repeat first|exact aj|refine⟨aa,?_⟩|refine⟨ak (λl=>some (_,l)) (ba (by first|exact bW.dN (by assumption)|exact ah _|(rw[<-aQ];exact ah _)) _ _),?_⟩)
        ·rcases hI with ⟨_,rfl,rfl⟩|⟨_,_,_,_,rfl,rfl,_⟩ <;> rcases hO with ⟨_,rfl,rfl⟩|⟨_,_,_,_,rfl,rfl,_⟩ <;> rfl
        ·rcases hI with ⟨_,rfl,rfl⟩|⟨_,_,_,_,rfl,rfl,_⟩ <;> rcases hO with ⟨_,rfl,rfl⟩|⟨_,_,_,_,rfl,rfl,_⟩ <;> (repeat first|exact aj|refine⟨aq.lit aa,?_⟩|refine⟨bW.mg (by assumption),?_⟩|refine⟨aq.append (.vals _) (.vals _),?_⟩|refine⟨aq.vals _,?_⟩)
       ·refine af ?_;refine VS.back (N-(z+1)) ae ⟨_,_,?_,?_,?_,?_,⟨z+1,Xi',.row 120 0 n7 c7,.row 35 0 nt ct2,Mi',[(120,_)],[(35,_)],ae,aa,aa,aa,.inr ⟨nt,ct2,vst,spt,aa,aa,hNt.kp (eE (cL kk)) bm⟩,hI.kp (eE (cL kk)) bm,hO.kp (bt AK) bm,.inr ⟨n7,c7,vs7,sp7,aa,aa,h1,h2,h3,h4,h5,h6⟩⟩⟩
        ·rcases hI with ⟨_,rfl,rfl⟩|⟨_,_,_,_,rfl,rfl,_⟩ <;> rcases hO with ⟨_,rfl,rfl⟩|⟨_,_,_,_,rfl,rfl,_⟩ <;> (refine⟨aa,aa,aa,aa,aa,aa,aa,aa,aa,aa,aa,?_,aj⟩;rw[<-aA (i:=z) ae];rfl)
        ·rcases hI with ⟨_,rfl,rfl⟩|⟨_,_,_,_,rfl,rfl,_⟩ <;> rcases hO with ⟨_,rfl,rfl⟩|⟨_,_,_,_,rfl,rfl,_⟩ <;> (repeat first|exact aj|refine⟨aa,?_⟩|refine⟨ak (λl=>some (_,l)) (ba (by first|exact bW.dN (by assumption)|exact ah _|(rw[<-aQ];exact ah _)) _ _),?_⟩)
        ·rcases hI with ⟨_,rfl,rfl⟩|⟨_,_,_,_,rfl,rfl,_⟩ <;> rcases hO with ⟨_,rfl,rfl⟩|⟨_,_,_,_,rfl,rfl,_⟩ <;> rfl
        ·rcases hI with ⟨_,rfl,rfl⟩|⟨_,_,_,_,rfl,rfl,_⟩ <;> rcases hO with ⟨_,rfl,rfl⟩|⟨_,_,_,_,rfl,rfl,_⟩ <;> (repeat first|exact aj|refine⟨aq.lit aa,?_⟩|refine⟨bW.mg (by assumption),?_⟩|refine⟨aq.append (.vals _) (.vals _),?_⟩|refine⟨aq.vals _,?_⟩)
      ·refine VO.callPut1 (d1:=24) (d2:=120) (y:=(y:Int)) (z:=(gR k.2:Int)) (s:=decide (x.num<0)) (xs:=limbs x.num.natAbs) (t:=decide ((x.den:Int)<0)) (ys:=limbs (x.den:Int).natAbs) (cL kk) (code:=0) (l':=gQ (lS cs xss y (z+1))) Jh Kz aa aa (fk Tryz.func172) aa (by rcases hI with ⟨_,rfl,rfl⟩|⟨_,_,_,_,rfl,rfl,_⟩ <;> rcases hO with ⟨_,rfl,rfl⟩|⟨_,_,_,_,rfl,rfl,_⟩ <;> rfl) eL (bF aa) (bF aa) GA (OB.kp (fA (cL kk)) bm) hl3 hl4 hl5 YT (λ_ h=>h) (λt ht=>kp_fz ht) (λw1 k1 b1=>gN.k) ⟨ae,ae⟩ ⟨ae,ae⟩ hxz'.1 hxz'.2 (by unfold cL;omega) ae (λw7 n7 c7 vs7 sp7 ρ k7 b7 gH h1 h2 h3 h4 h5 h6=>wV aa ?_);refine af ?_;refine VS.back (N-(z+1)) ae ⟨_,_,?_,?_,?_,?_,⟨z+1,Xi',.row 120 0 n7 c7,.row 35 0 nt ct2,Mi',[(120,_)],[(35,_)],ae,aa,aa,aa,.inr ⟨nt,ct2,vst,spt,aa,aa,hNt.kp (eE (cL kk)) bm⟩,hI.kp (eE (cL kk)) bm,hO.kp (bt AK) bm,.inr ⟨n7,c7,vs7,sp7,aa,aa,h1,h2,h3,h4,h5,h6⟩⟩⟩
       ·rcases hI with ⟨_,rfl,rfl⟩|⟨_,_,_,_,rfl,rfl,_⟩ <;> rcases hO with ⟨_,rfl,rfl⟩|⟨_,_,_,_,rfl,rfl,_⟩ <;> (refine⟨aa,aa,aa,aa,aa,aa,aa,aa,aa,aa,aa,?_,aj⟩;rw[<-aA (i:=z) ae];rfl)
       ·rcases hI with ⟨_,rfl,rfl⟩|⟨_,_,_,_,rfl,rfl,_⟩ <;> rcases hO with ⟨_,rfl,rfl⟩|⟨_,_,_,_,rfl,rfl,_⟩ <;> (repeat first|exact aj|refine⟨aa,?_⟩|refine⟨ak (λl=>some (_,l)) (ba (by first|exact bW.dN (by assumption)|exact ah _|(rw[<-aQ];exact ah _)) _ _),?_⟩)
       ·rcases hI with ⟨_,rfl,rfl⟩|⟨_,_,_,_,rfl,rfl,_⟩ <;> rcases hO with ⟨_,rfl,rfl⟩|⟨_,_,_,_,rfl,rfl,_⟩ <;> rfl
       ·rcases hI with ⟨_,rfl,rfl⟩|⟨_,_,_,_,rfl,rfl,_⟩ <;> rcases hO with ⟨_,rfl,rfl⟩|⟨_,_,_,_,rfl,rfl,_⟩ <;> (repeat first|exact aj|refine⟨aq.lit aa,?_⟩|refine⟨bW.mg (by assumption),?_⟩|refine⟨aq.append (.vals _) (.vals _),?_⟩|refine⟨aq.vals _,?_⟩)
     ·have FL:¬ jO (k,x)=true:=by unfold jO;intro h;exact h6 (eq_of_beq h)
      have GS:lS cs xss y (z+1)=lS cs xss y z:=by rw[vY iy (by rw[zw];exact Az),if_neg FL,jQ]
      refine VS.aO aa (zj (show (k.1:Int)≠6 by omega)) ?_;refine af ?_;refine VS.back (N-(z+1)) ae ⟨_,_,?_,?_,?_,?_,⟨z+1,Xi',Xl,.row 35 0 nt ct2,Mi',Ml,[(35,_)],ae,aa,aa,aa,.inr ⟨nt,ct2,vst,spt,aa,aa,hNt.kp (eE (cL kk)) bm⟩,hI.kp (eE (cL kk)) bm,hO.kp (bt AK) bm,by rw[GS];exact hL.kp bm⟩⟩
      ·rcases hI with ⟨_,rfl,rfl⟩|⟨_,_,_,_,rfl,rfl,_⟩ <;> rcases hO with ⟨_,rfl,rfl⟩|⟨_,_,_,_,rfl,rfl,_⟩ <;> rcases hL with ⟨_,rfl,rfl⟩|⟨_,_,_,_,rfl,rfl,_⟩ <;> (refine⟨aa,aa,aa,aa,aa,aa,aa,aa,aa,aa,aa,?_,aj⟩;rw[<-aA (i:=z) ae];rfl)
      ·rcases hI with ⟨_,rfl,rfl⟩|⟨_,_,_,_,rfl,rfl,_⟩ <;> rcases hO with ⟨_,rfl,rfl⟩|⟨_,_,_,_,rfl,rfl,_⟩ <;> rcases hL with ⟨_,rfl,rfl⟩|⟨_,_,_,_,rfl,rfl,_⟩ <;> (repeat first|exact aj|refine⟨aa,?_⟩|refine⟨ak (λl=>some (_,l)) (ba (by first|exact bW.dN (by assumption)|exact ah _|(rw[<-aQ];exact ah _)) _ _),?_⟩)
      ·rcases hI with ⟨_,rfl,rfl⟩|⟨_,_,_,_,rfl,rfl,_⟩ <;> rcases hO with ⟨_,rfl,rfl⟩|⟨_,_,_,_,rfl,rfl,_⟩ <;> rcases hL with ⟨_,rfl,rfl⟩|⟨_,_,_,_,rfl,rfl,_⟩ <;> rfl
      ·rcases hI with ⟨_,rfl,rfl⟩|⟨_,_,_,_,rfl,rfl,_⟩ <;> rcases hO with ⟨_,rfl,rfl⟩|⟨_,_,_,_,rfl,rfl,_⟩ <;> rcases hL with ⟨_,rfl,rfl⟩|⟨_,_,_,_,rfl,rfl,_⟩ <;> (repeat first|exact aj|refine⟨aq.lit aa,?_⟩|refine⟨bW.mg (by assumption),?_⟩|refine⟨aq.append (.vals _) (.vals _),?_⟩|refine⟨aq.vals _,?_⟩)
   ·refine VS.aO aa (az (λe=>SW (aJ.1 e))) ?_;obtain rfl:z=N:=ae;rw[dM ae] at hI
    have hlN:lS cs xss y z=dL cs xss (y+1):=by
     unfold lS;rw[dM (by rw[wH,zw];omega)];rfl
    have zx:(gQ (dL cs xss (y+1))).length<=128:=hlN▸bG (BX _) (FK hlt (hN▸hTN));rw[hlN] at hL;have hlw:∀ e∈gQ (dL cs xss (y+1)),ek e.exp=false:=λe he=>vX hyr (y+1) ae e (Bf.1 he).1;have Ke:cL kk<=64:=by unfold cL;omega
    have hu0:1<=cL kk:=by unfold cL;omega
    have hrs:gr (cL kk) (bo cs xs).length<=13000:=by
     rw[Ij];have:z*(3*cL kk+2)<=64*(3*64+2):=kD ae ae;unfold gr;omega
    have HW:bU (cL (cL kk)+1) (gQ (dL cs xss (y+1))).length<=9000:=by
     have h1:cL (cL (cL kk)+1)+1<=66:=by unfold cL at*;omega
     have:(gQ (dL cs xss (y+1))).length*(cL (cL (cL kk)+1)+1)<=128*66:=kD zx h1;unfold bU;omega
    refine af ?_;refine VO.eX aa (fk Tryz.func120) (λtd β Cr xG ho=>(Jd _ (bo cs xs) (cL kk) td (hI.GV (eE (cL kk)) ho (by intro q hq;rcases QH with ⟨_,rfl,rfl⟩|⟨_,_,_,_,rfl,rfl,_⟩ <;> rcases hI with ⟨_,rfl,rfl⟩|⟨_,_,_,_,rfl,rfl,_⟩ <;> first|(cases hq;done)|(cases ay.1 hq;rfl)) bm) hu0 ae ae).mono ?_);rintro o w8 ⟨r8,rfl,q8,Bz⟩
    have Lc:zV (bn (bo cs xs)) 13000:=by
     have sL:∀ x∈bo cs xs,dy x.2.1 (cL kk)/\dy x.2.2 (cL kk):=by
      rcases hI with ⟨dJ,_,_⟩|⟨n',c',vs,sp,_,_,iU⟩
      ·rw[dJ];intro x hx;cases hx
      ·intro x hx;obtain⟨i,hi⟩:=oG hx;obtain⟨cs0,_,h2,_⟩:=iU.cell (eE (cL kk)) hi;exact pJ.sz h2 hu0
     exact (pH hu0 _ sL).mono hrs
    obtain⟨UQ,UR,UT,UW,UX,UY,UZ,Va,s8b,p8b,n8b,c8b,t8b,y8b,m8b,d8b,Vb,Vc,Vd,Ve,Vf,Vg,Vh,Vi,Vj,Vk,Vl,Vm,Vn,Vo,Vp,Vq,rfl,g1,g2,g3,g4⟩:=q8;refine aL Bz ?_;intro Cs _ Sw;refine VO.eX aa (fk Tryz.func174) (λAA β Nd Dw ho=>(ZX (β 24) (gQ (dL cs xss (y+1))) (cL kk) (y:Int) AA (hL.in ho (by simp[gl,AV.ids]) aa (by intro q hq;rcases QH with ⟨_,rfl,rfl⟩|⟨_,_,_,_,rfl,rfl,_⟩ <;> rcases hI with ⟨_,rfl,rfl⟩|⟨_,_,_,_,rfl,rfl,_⟩ <;> rcases hL with ⟨_,rfl,rfl⟩|⟨_,_,_,_,rfl,rfl,_⟩ <;> first|(cases hq;done)|(cases ay.1 hq;rfl)) bm) ae ⟨ae,ae⟩ zx).mono ?_);rintro o w9 ⟨r9,rfl,q9,z9,Dg⟩;obtain⟨s9,p9,n9,c9,t9,y9,m9,d9,rfl⟩:=q9.form;refine aL Dg ?_;intro GK _ bb9;refine VO.eX aa (fk Tryz.func175) (λjC β nM nZ ho=>(Kw (β 24) (gQ (dL cs xss (y+1))) (cL kk) (y:Int) jC (hL.in ho (by simp[gl,AV.ids]) aa (by intro q hq;rcases QH with ⟨_,rfl,rfl⟩|⟨_,_,_,_,rfl,rfl,_⟩ <;> rcases hI with ⟨_,rfl,rfl⟩|⟨_,_,_,_,rfl,rfl,_⟩ <;> rcases hL with ⟨_,rfl,rfl⟩|⟨_,_,_,_,rfl,rfl,_⟩ <;> first|(cases hq;done)|(cases ay.1 hq;rfl)) bm) hlw ae ⟨ae,ae⟩ zx).mono ?_);rintro o BQ ⟨r10,rfl,EH,z10,km⟩;obtain⟨OL,OM,Lb,OO,t10,OP,OQ,d10,rfl⟩:=EH.form;refine aL km ?_;intro jM _ AB;rw[VL] at q9 z9;rw[VM] at EH z10;have zd:dy (fh (dL cs xss (y+1)) (y:Int)) 9000:=z9.mono HW;have zb:dy (fN (dL cs xss (y+1)) (y:Int)) 9000:=z10.mono HW;refine VO.cR aa aa (fk HF) (λjN oc pd=>pg _ _ (bn (bo cs xs)).s (fh (dL cs xss (y+1)) (y:Int)) 13000 9000 jN (g2.ki Lc.s) (q9.ki zd) ae ae) (λjN oc pd Sx SI SJ OE SK t11 SL SM d11 Ka vn ny _ Ct=>wV aa ?_);refine af ?_;have zs:=Lc.s.sub zd;refine VO.cR aa aa (fk HF) (λlW qX uq=>pg _ _ ((bn (bo cs xs)).s-fh (dL cs xss (y+1)) (y:Int)) (bn (bo cs xs)).i 22001 13000 lW (Ka.ki zs) (g4.ki Lc.i) ae ae) (λlW qX uq Fa s12 OG OH OI t12 OJ OK d12 PF wm rS _ GL=>wV aa ?_);refine af ?_;have zo:=zs.sub Lc.i
    have hya:(fb cs xss)[y]? =some (FE (bn (bo cs xs)) (fh (dL cs xss (y+1)) y) (fN (dL cs xss (y+1)) y)):=by
     rw[jX ae];unfold gu;rw[zw]
    have iq:fC AK Fa [.bool UQ,.slice UR UT UW,.bool UX,.slice UY UZ Va,.bool SI,.slice SJ OE SK,.bool t11,.slice SL SM d11,.bool Vb,.slice Vc Vd Ve,.bool Vf,.slice Vg Vh Vi,.bool Vj,.slice Vk Vl Vm,.bool Vn,.slice Vo Vp Vq,.bool s9,.slice p9 n9 c9,.bool t9,.slice y9 m9 d9,.bool OL,.slice OM Lb OO,.bool t10,.slice OP OQ d10,.bool s12,.slice OG OH OI,.bool t12,.slice OJ OK d12] (FE (bn (bo cs xs)) (fh (dL cs xss (y+1)) y) (fN (dL cs xss (y+1)) y)):=
     ⟨_,_,_,_,_,_,_,rfl,.mk g1.k (Lc.b.mono (by unfold AK;omega)),.mk Ka.kr (zs.mono (by unfold AK;omega)),.mk g3.k (Lc.d.mono (by unfold AK;omega)),.mk g4.k (Lc.i.mono (by unfold AK;omega)),.mk q9.kr (zd.mono (by unfold AK;omega)),.mk EH.kr (zb.mono (by unfold AK;omega)),.mk PF.rd (zo.mono (by unfold AK;omega))⟩
    rcases hO with ⟨dJ,rfl,rfl⟩|⟨n',c',vs,sp,rfl,rfl,iU⟩
    ·refine VO.jg (cS _ _) (bt AK) (t:=124) (e:=123) (s:=95) (a:=(FE (bn (bo cs xs)) (fh (dL cs xss (y+1)) y) (fN (dL cs xss (y+1)) y))) (cs:=[.bool UQ,.slice UR UT UW,.bool UX,.slice UY UZ Va,.bool SI,.slice SJ OE SK,.bool t11,.slice SL SM d11,.bool Vb,.slice Vc Vd Ve,.bool Vf,.slice Vg Vh Vi,.bool Vj,.slice Vk Vl Vm,.bool Vn,.slice Vo Vp Vq,.bool s9,.slice p9 n9 c9,.bool t9,.slice y9 m9 d9,.bool OL,.slice OM Lb OO,.bool t10,.slice OP OQ d10,.bool s12,.slice OG OH OI,.bool t12,.slice OJ OK d12]) aa aa aa aa aa aa aa aa (bF aa) aa (by rcases QH with ⟨_,rfl,rfl⟩|⟨_,_,_,_,rfl,rfl,_⟩ <;> rcases hI with ⟨_,rfl,rfl⟩|⟨_,_,_,_,rfl,rfl,_⟩ <;> rcases hL with ⟨_,rfl,rfl⟩|⟨_,_,_,_,rfl,rfl,_⟩ <;> rfl) aa iq ae (λuz cap sp NS SV gh=>wV aa ?_);refine af ?_;refine VS.back (T-(y+1)) ae ⟨_,_,?_,?_,?_,?_,⟨y+1,_,Xl,[(96,_)],Ml,ae,aa,aa,aa,.inr ⟨1,cap,_,sp,aa,aa,by rw[aI hya,dJ];exact gh⟩,hL.kp bm⟩⟩
     ·rcases QH with ⟨_,rfl,rfl⟩|⟨_,_,_,_,rfl,rfl,_⟩ <;> rcases hI with ⟨_,rfl,rfl⟩|⟨_,_,_,_,rfl,rfl,_⟩ <;> rcases hL with ⟨_,rfl,rfl⟩|⟨_,_,_,_,rfl,rfl,_⟩ <;> (refine⟨aa,aa,aa,aa,aa,aa,?_,aj⟩;rw[<-aA (i:=y) ae];rfl)
     ·rcases QH with ⟨_,rfl,rfl⟩|⟨_,_,_,_,rfl,rfl,_⟩ <;> rcases hI with ⟨_,rfl,rfl⟩|⟨_,_,_,_,rfl,rfl,_⟩ <;> rcases hL with ⟨_,rfl,rfl⟩|⟨_,_,_,_,rfl,rfl,_⟩ <;> (repeat first|exact aj|refine⟨aa,?_⟩|refine⟨ak (λl=>some (_,l)) (ba (by first|exact bW.dN (by assumption)|exact ah _|(rw[<-aQ];exact ah _)) _ _),?_⟩)
     ·rcases QH with ⟨_,rfl,rfl⟩|⟨_,_,_,_,rfl,rfl,_⟩ <;> rcases hI with ⟨_,rfl,rfl⟩|⟨_,_,_,_,rfl,rfl,_⟩ <;> rcases hL with ⟨_,rfl,rfl⟩|⟨_,_,_,_,rfl,rfl,_⟩ <;> rfl
     ·rcases QH with ⟨_,rfl,rfl⟩|⟨_,_,_,_,rfl,rfl,_⟩ <;> rcases hI with ⟨_,rfl,rfl⟩|⟨_,_,_,_,rfl,rfl,_⟩ <;> rcases hL with ⟨_,rfl,rfl⟩|⟨_,_,_,_,rfl,rfl,_⟩ <;> (repeat first|exact aj|refine⟨aq.lit aa,?_⟩|refine⟨bW.mg (by assumption),?_⟩|refine⟨aq.append (.vals _) (.vals _),?_⟩|refine⟨aq.vals _,?_⟩)
    ·have nY:=iU.len;rw[cw] at nY;refine VO.jh (cS _ _) (bt AK) (t:=124) (e:=123) (s:=95) (i:=96) (n:=n') (c:=c') (vs:=vs) (sp:=sp) (es:=(fb cs xss).take y) (a:=(FE (bn (bo cs xs)) (fh (dL cs xss (y+1)) y) (fN (dL cs xss (y+1)) y))) (cs:=[.bool UQ,.slice UR UT UW,.bool UX,.slice UY UZ Va,.bool SI,.slice SJ OE SK,.bool t11,.slice SL SM d11,.bool Vb,.slice Vc Vd Ve,.bool Vf,.slice Vg Vh Vi,.bool Vj,.slice Vk Vl Vm,.bool Vn,.slice Vo Vp Vq,.bool s9,.slice p9 n9 c9,.bool t9,.slice y9 m9 d9,.bool OL,.slice OM Lb OO,.bool t10,.slice OP OQ d10,.bool s12,.slice OG OH OI,.bool t12,.slice OJ OK d12]) aa aa aa aa aa aa aa aa (bF aa) aa (.inr aa) (by rcases QH with ⟨_,rfl,rfl⟩|⟨_,_,_,_,rfl,rfl,_⟩ <;> rcases hI with ⟨_,rfl,rfl⟩|⟨_,_,_,_,rfl,rfl,_⟩ <;> rcases hL with ⟨_,rfl,rfl⟩|⟨_,_,_,_,rfl,rfl,_⟩ <;> rfl) (iU.kp (bt AK) bm) aa iq ae (λuz il qH ρ NS SV gH gh=>wV aa ?_);refine af ?_;refine VS.back (T-(y+1)) ae ⟨_,_,?_,?_,?_,?_,⟨y+1,_,Xl,[(96,_)],Ml,ae,aa,aa,aa,.inr ⟨n' +1,il,_,qH,aa,aa,by rw[aI hya];exact gh⟩,hL.kp bm⟩⟩
     ·rcases QH with ⟨_,rfl,rfl⟩|⟨_,_,_,_,rfl,rfl,_⟩ <;> rcases hI with ⟨_,rfl,rfl⟩|⟨_,_,_,_,rfl,rfl,_⟩ <;> rcases hL with ⟨_,rfl,rfl⟩|⟨_,_,_,_,rfl,rfl,_⟩ <;> (refine⟨aa,aa,aa,aa,aa,aa,?_,aj⟩;rw[<-aA (i:=y) ae];rfl)
     ·rcases QH with ⟨_,rfl,rfl⟩|⟨_,_,_,_,rfl,rfl,_⟩ <;> rcases hI with ⟨_,rfl,rfl⟩|⟨_,_,_,_,rfl,rfl,_⟩ <;> rcases hL with ⟨_,rfl,rfl⟩|⟨_,_,_,_,rfl,rfl,_⟩ <;> (repeat first|exact aj|refine⟨aa,?_⟩|refine⟨ak (λl=>some (_,l)) (ba (by first|exact bW.dN (by assumption)|exact ah _|(rw[<-aQ];exact ah _)) _ _),?_⟩)
     ·rcases QH with ⟨_,rfl,rfl⟩|⟨_,_,_,_,rfl,rfl,_⟩ <;> rcases hI with ⟨_,rfl,rfl⟩|⟨_,_,_,_,rfl,rfl,_⟩ <;> rcases hL with ⟨_,rfl,rfl⟩|⟨_,_,_,_,rfl,rfl,_⟩ <;> rfl
     ·rcases QH with ⟨_,rfl,rfl⟩|⟨_,_,_,_,rfl,rfl,_⟩ <;> rcases hI with ⟨_,rfl,rfl⟩|⟨_,_,_,_,rfl,rfl,_⟩ <;> rcases hL with ⟨_,rfl,rfl⟩|⟨_,_,_,_,rfl,rfl,_⟩ <;> (repeat first|exact aj|refine⟨aq.lit aa,?_⟩|refine⟨bW.mg (by assumption),?_⟩|refine⟨aq.append (.vals _) (.vals _),?_⟩|refine⟨aq.vals _,?_⟩)
 ·refine VS.aO aa (az (λe=>hlt (aJ.1 e))) ?_;obtain rfl:y=T:=ae;rw[dM (by unfold fb;rw[bJ,Bb];omega)] at hO;rcases hO with ⟨dJ,rfl,rfl⟩|⟨n',c',vs,sp,rfl,rfl,iU⟩
  ·refine af ?_;refine aC ?_;intro wz kz bz;exact⟨_,aa,.inl ⟨aa,dJ⟩,bz⟩
  ·refine af ?_;refine VS.lJ (cS _ _) aa (λwz β kz bz en=> ?_);exact⟨_,aa,iU.new (bt AK) (en.own 96 _ _ (by rcases hL with ⟨_,rfl,rfl⟩|⟨_,_,_,_,rfl,rfl,_⟩ <;> rfl)) kz,bz⟩
set_option maxRecDepth 4000
abbrev Ca (P:Program) (w:World) (N:Nat):Cx:={ P:=P,w0:=w,N:=N,K:=⟨UU,λ_=>True,λt=>(Nat.beq t 27 || (Nat.beq t 105 || (Nat.beq t 64 || (Nat.beq t 123 || Nat.beq t 209))))⟩,SU:=λt=>Nat.beq t 23,ti:=table,keep:=λ_ _=>trivial }
theorem ky (w:World) (N:Nat):(Ca Tryz.prog w N).Ok:=fy
theorem VR (w:World) (N:Nat):(Ca Tryz.prog w N).P.follows .mixedOrders=true:=by show Tryz.prog.follows .mixedOrders=true;kernel_rfl
section
variable {F F':Fr} {H H':Hp} {w w1:World} {N:Nat} {l':List Oper} {Q:Exit->Act->World->Prop} {k:List It} {id:Nat} {ops:Array Oper}
theorem cxJ_r (e:jJ (Ca Tryz.prog w1 N) ops 80 ops.toList F H=(l',F',H')) (h:aB (Ca Tryz.prog w1 N) none ops l' (VS (Ca Tryz.prog w1 N) Q k) F' H' w):VS (Ca Tryz.prog w1 N) Q (.code (.region id ops false)::k) F H w:=VS.region (ky _ _) (VO.run 80 e h)
theorem cxJ_d (e:jJ (Ca Tryz.prog w1 N) ops 80 ops.toList F H=(l',F',H')) (h:aB (Ca Tryz.prog w1 N) (some []) ops l' (VS (Ca Tryz.prog w1 N) Q k) F' H' w) (np:lI (Ca Tryz.prog w1 N).SU [] ops=true:=by kernel_rfl):VS (Ca Tryz.prog w1 N) Q (.code (.region id ops true)::k) F H w:=VS.draw (ky _ _) (VR _ _) [] np (VO.run 80 e h)
end
theorem Jk (l:List ew) (z:Int):fh l z=dY ((l.map ew.exp).map λe=>ij e z):=by unfold fh;rw[pZ];rfl
theorem AO (l:List ew) (z:Int):fN l z=dY ((l.map ew.exp).map λe=>mL e z):=by unfold fN;rw[pZ];rfl
def jv (cs:List iT) (xss:List (List Rat)):Nat->List Fx
 | 0=>[]
 | n+1=>jv cs xss n++((cs.zip (xss.getD n [])).filter jO).map λp=>((n:Int),(gR p.1.2:Int),true,p.2)
theorem vA (cs:List iT) (xss:List (List Rat)):∀ n,(dL cs xss n).map ew.exp=jv cs xss n
 | 0=>rfl
 | n+1=>by
   show (dL cs xss n++mi n _).map ew.exp=_;rw[aQ,vA cs xss n];show _=jv cs xss n++_
   congr 1
   unfold mi;rw[pZ];refine tR λp _=> ?_;show (tH n p).exp=_;rw[tH,FD]
theorem oB (cs:List iT) (xss:List (List Rat)) (y:Nat):gu cs xss y=FE (bn (bo cs (xss.getD y []))) (dY ((jv cs xss (y+1)).map λe=>ij e y)) (dY ((jv cs xss (y+1)).map λe=>mL e y)):=by
 unfold gu;rw[Jk,AO,vA]
def VT:List iT:=[(1,Rat.divInt 0 1),(6,Rat.divInt 2 1)]
def wts:List (List (List Rat)):=[[[Rat.divInt 100 1,Rat.divInt 10 1]],[[Rat.divInt 50 1,Rat.divInt 0 1]],[[Rat.divInt 0 1,Rat.divInt 6 1]]]
def wxs:List (List Rat):=[[Rat.divInt 100 1,Rat.divInt 10 1],[Rat.divInt 50 1,Rat.divInt 0 1],[Rat.divInt 0 1,Rat.divInt 6 1]]
theorem wmay:gV VT 0 wts=0:=by decide+kernel
theorem wrows:cf VT 0 wts=fb VT wxs:=if_pos wmay
theorem wlen:(fb VT wxs).length=3:=by unfold fb;rw[bJ,Bb];rfl
theorem wnum (z:Nat) (hz:z<3):∃ (a b d:Int),([[100,0,10],[45,5,5],[-5,5,6]]:List (List Int))[z]? =some [a,b,d]/\(∃ r,(fb VT wxs)[z]? =some r/\r.p.s=Rat.divInt a 1/\r.due=Rat.divInt b 1/\r.xU=Rat.divInt d 1)/\-100<=a/\a<=100/\-100<=b/\b<=100/\-100<=d/\d<=100:=by
 obtain rfl|rfl|rfl:z=0\/z=1\/z=2:=ae
 ·refine⟨100,0,10,aa,⟨_,jX eL,?_⟩,eL⟩;rw[oB];decide+kernel
 ·refine⟨45,5,5,aa,⟨_,jX eL,?_⟩,eL⟩;rw[oB];decide+kernel
 ·refine⟨-5,5,6,aa,⟨_,jX eL,?_⟩,eL⟩;rw[oB];decide+kernel
variable {s t:Bool} {nm:ByteArray} {kk c m d:Nat} {p y:Option Addr} {w:World}
theorem fu.mk {k:Nat} {n:Nat} {q:Rat} (h0:k<256) (h:aG w (.agg #[.bool s,.slice p n c,.bool t,.slice y m d]) q kk):fu kk w [.string nm,.int .u8 (k:Int),.bool s,.slice p n c,.bool t,.slice y m d] (k,q):=⟨_,_,_,_,_,_,_,_,_,rfl,h0,h⟩
theorem iJ.mk {n:Nat} {q:Rat} (h:aG w (.agg #[.bool s,.slice p n c,.bool t,.slice y m d]) q kk):iJ kk w [.bool s,.slice p n c,.bool t,.slice y m d] q:=⟨_,_,_,_,_,_,_,_,rfl,h⟩
theorem sc (w:World):Calls Tryz.prog 51 #[] w λe w'=>∃ r,e=.returned r/\aP (fu 2) 6 64 w.heap.size w' r VT/\aD w w':=by
 refine ai (C:=bd Tryz.prog w _) (args:=[]) DT aa Tryz.ntmps51 (bF aa) ?_;refine af ?_;refine VO.cR aa aa (fk qf) (λaK bE aX=>gg 0 1 aK ae ae ae ae) (λaK bE aX w1 s1 p1 n1 c1 t1 y1 m1 d1 q1 aU cQ _ bb1=>wV aa ?_);refine af ?_;refine VO.cR aa aa (fk qf) (λbf cK bK=>gg 2 1 bf ae ae ae ae) (λbf cK bK w2 s2 p2 n2 c2 t2 y2 m2 d2 q2 bu dW _ bb2=>wV aa ?_);refine af ?_;refine VS.lJ (cS _ _) aa (λwz β kz bz en=> ?_);exact⟨_,aa,dX (vs:=[[.string ⟨#[115,97,108,101,115]⟩,.int .u8 1,.bool s1,.slice p1 n1 c1,.bool t1,.slice y1 m1 d1],[.string ⟨#[97,100,115]⟩,.int .u8 6,.bool s2,.slice p2 n2 c2,.bool t2,.slice y2 m2 d2]]) (spare:=[]) (en.own 5 _ _ aa) (.cons (fu.mk (k:=1) ae (q1.ki (aM ae ae ae ae))) (.cons (fu.mk (k:=6) ae (q2.ki (aM ae ae ae ae))) .nil)) aa (bl _) eL aa (λ_ _ h=>h),bz⟩
theorem FM:gp (λ_:World=>lR kk w) 1 where
 kp:=λh _=>h
 len:=λh=>by
  obtain⟨v,rfl,_⟩:=h;rfl
 ok:=λh=>by
  obtain⟨v,rfl,h⟩:=h;obtain⟨p,c,rfl⟩:=h.sl;rfl
theorem vZ:gp (λ_:World=>gI kk w) 1 where
 kp:=λh _=>h
 len:=λh=>by
  obtain⟨v,rfl,_⟩:=h;rfl
 ok:=λh=>by
  obtain⟨v,rfl,h⟩:=h;obtain⟨p,c,rfl⟩:=h.sl;rfl
def xN (w:World) (v:Value) (B:Nat) (q r:Rat):Prop:=∃ g b s1 p1 n1 c1 t1 y1 m1 d1 s2 p2 n2 c2 t2 y2 m2 d2,v=.slice (some ⟨g,0,none⟩) 1 1/\B<=g/\B<=b/\cN w g 105 #[.slice (some ⟨b,0,none⟩) 2 2]/\cN w b 27 #[.bool s1,.slice p1 n1 c1,.bool t1,.slice y1 m1 d1,.bool s2,.slice p2 n2 c2,.bool t2,.slice y2 m2 d2]/\
 aG w (.agg #[.bool s1,.slice p1 n1 c1,.bool t1,.slice y1 m1 d1]) q 2/\aG w (.agg #[.bool s2,.slice p2 n2 c2,.bool t2,.slice y2 m2 d2]) r 2
variable {B:Nat} {r:Rat} {v:Value}
theorem xN.kp {T:TypeId->Bool} {w':World} {q:Rat} (h:xN w v B q r) (k:bg ⟨UU,λ_=>True,T⟩ w w') (h1:T 105=true) (h2:T 27=true):xN w' v B q r:=by
 have f:∀ t,T t=true->(KC.fz ⟨UU,λ_=>True,T⟩ t)=true:=λt ht=>by show (Nat.beq t UU || T t)=true;rw[ht];simp
 obtain⟨g,b,s1,p1,n1,c1,t1,y1,m1,d1,s2,p2,n2,c2,t2,y2,m2,d2,rfl,e1,e2,e3,e4,e5,e6⟩:=h;exact⟨g,b,_,_,_,_,_,_,_,_,_,_,_,_,_,_,_,_,aa,e1,e2,k.block _ g _ (f _ h1) aj e3,k.block _ b _ (f _ h2) aj e4,e5.kp k,e6.kp k⟩
theorem xN.NV {q:Rat} (h:xN w v B q r):gI 2 w [v] [[q,r]]:=by
 obtain⟨g,b,s1,p1,n1,c1,t1,y1,m1,d1,s2,p2,n2,c2,t2,y2,m2,d2,rfl,e1,e2,e3,e4,e5,e6⟩:=h;have hr:bh (iJ 2) 4 w (.slice (some ⟨b,0,none⟩) 2 2) [q,r]:=oy (bV 2) (vs:=[[.bool s1,.slice p1 n1 c1,.bool t1,.slice y1 m1 d1],[.bool s2,.slice p2 n2 c2,.bool t2,.slice y2 m2 d2]]) (spare:=[]) e4 (.cons (.mk e5) (.cons (.mk e6) .nil)) aa (bl _) (show (2:Nat)<=9223372036854775807 by omega);have h1:lR 2 w [.slice (some ⟨b,0,none⟩) 2 2] [q,r]:=⟨_,aa,hr⟩;exact⟨_,aa,(oy (E:=λ_=>lR 2 w) FM (vs:=[[.slice (some ⟨b,0,none⟩) 2 2]]) (spare:=[]) e3 (.cons h1 .nil) aa (bl _) (show (1:Nat)<=9223372036854775807 by omega)).mono (λ_ _ _ _ h=>h)⟩
theorem xN.form {q:Rat} (h:xN w v B q r):∃ g,v=.slice (some ⟨g,0,none⟩) 1 1:=by
 obtain⟨g,b,s1,p1,n1,c1,t1,y1,m1,d1,s2,p2,n2,c2,t2,y2,m2,d2,rfl,_⟩:=h;exact⟨g,aa⟩
theorem jb (a b:Int) (w:World) (a0: -1000<=a) (a1:a<=1000) (b0: -1000<=b) (b1:b<=1000):Calls Tryz.prog 52 #[.int .i64 a,.int .i64 b] w λe w'=>∃ v,e=.returned (.agg #[v])/\xN w' v w.heap.size (Rat.divInt a 1) (Rat.divInt b 1)/\aD w w':=by
 refine ai (C:=bd Tryz.prog w _) (args:=[_,_]) uI aa Tryz.ntmps52 (bF aa) ?_;refine af ?_;refine VO.cR aa aa (fk qf) (λaK bE aX=>gg a 1 aK ae ae ae ae) (λaK bE aX w1 s1 p1 n1 c1 t1 y1 m1 d1 q1 aU cQ _ bb1=>wV aa ?_);refine af ?_;refine VO.cR aa aa (fk qf) (λbf cK bK=>gg b 1 bf ae ae ae ae) (λbf cK bK w2 s2 p2 n2 c2 t2 y2 m2 d2 q2 bu dW _ bb2=>wV aa ?_);refine af ?_;refine VS.lJ (cS _ _) aa (λwz β kz bz en=> ?_);have o1:=en.own 9 _ _ aa;have o2:=en.own 10 _ _ aa;exact⟨_,aa,⟨β 10,β 9,_,_,_,_,_,_,_,_,_,_,_,_,_,_,_,_,aa,o2.new,o1.new,o2.cls,o1.cls,q1.ki (aM ae ae ae ae),q2.ki (aM ae ae ae ae)⟩,bz⟩
variable {P Q:Prop}
theorem eu (h:Q) (i:Q->P:=by intro h;(repeat first|refine wN ?_|refine wP rfl ?_|refine cxJ_r rfl ?_|refine cxJ_d rfl ?_|refine wO rfl rfl ?_);exact h):P:=i h
theorem FN {X:Prop} (hb:X) (h:Q) (i:X->Q->P:=by intro hb h;refine⟨_,rfl,hb,λa b c=>wV rfl ?_⟩;refine eu ?_;revert a b c;exact h):P:=i hb h
set_option maxRecDepth 4000 in
theorem cY (w:World):Calls Tryz.prog 54 #[] w λo w'=>o=.returned (.bool true)/\aD w w':=by
 refine ai (C:=Ca Tryz.prog w _) (args:=[]) jH aa Tryz.ntmps54 (bF aa) ?_;refine eu ?_;refine VO.call aa aa (fk DT) (λaK bE aX=>(sc aK).mono ?_);rintro e w1 ⟨r1,rfl,q1,aU⟩;obtain⟨pp,cp,rfl⟩:=q1.form;refine FN aU ?_;intro cQ _ bb1;refine VO.call aa aa (fk uI) (λbf cK bK=>(jb 100 10 bf ae ae ae ae).mono ?_);rintro e w2 ⟨r2,rfl,q2,bu⟩;obtain⟨g2,rfl⟩:=q2.form;refine FN bu ?_;intro dW _ bb2;refine VO.call aa aa (fk uI) (λcV dS ea=>(jb 50 0 cV ae ae ae ae).mono ?_);rintro e w3 ⟨r3,rfl,q3,dH⟩;obtain⟨g3,rfl⟩:=q3.form;refine FN dH ?_;intro eV _ bb3;refine VO.call aa aa (fk uI) (λey eU fc=>(jb 0 6 ey ae ae ae ae).mono ?_);rintro e w4 ⟨r4,rfl,q4,gj⟩;obtain⟨g4,rfl⟩:=q4.form;refine FN gj ?_;intro jc _ mw;refine VO.eX aa (fk yc) (λgn β iz iZ ho=>((qJ _ _ 0 VT wts 2 gn ((q1.kp (cW 2) bm aa).sl (cW 2)) ((fU (E:=λ_=>gI 2 gn) vZ (ho.own 10 (.base (by simp[gl,AV.ids])) _ _ aa) [] (vs:=[[.slice (some ⟨g2,0,none⟩) 1 1],[.slice (some ⟨g3,0,none⟩) 1 1],[.slice (some ⟨g4,0,none⟩) 1 1]]) (by rfl) (.cons (q2.kp bm aa aa).NV (.cons (q3.kp bm aa aa).NV (.cons (q4.kp bm aa aa).NV .nil))) aa (bl _) (show (3:Nat)<=9223372036854775807 by omega)).mono (λ_ _ _ _ h=>h)) ae eL (.inl eL)).mono (λo w2 h=>And.intro h iZ.size)).mono ?_);rintro o w5 ⟨⟨r5,rfl,q5,je⟩,hsz5⟩;rw[wrows] at q5;rw[wmay];obtain⟨p5,c5,rfl⟩:=q5.form;rw[wlen] at q5 ⊢;refine FN je ?_;intro nw _ um;refine VS.pK (λw=>Ca Tryz.prog w 76) (λ_=>aa) (λ_=>aa) (λ_=>aD.refl _) (λw9 β k9 b9 en=> ?_);have q5':=(q5.kp (bt AK) (show bg (Ca Tryz.prog w 76).K w5 w9 from bm) aa).sl (bt AK);have pQ:aD w w9:=b9;have o24:=(en.own 24 _ _ aa).cls;have o21:=(en.own 21 _ _ aa).cls;have o22:=(en.own 22 _ _ aa).cls;have o23:=(en.own 23 _ _ aa).cls;refine⟨[(1,.val (.slice p5 3 c5)),(3,.val (.slice (some ⟨β 24,0,none⟩) 3 3)),(4,.val (.int .i64 0))],⟨⟨_,_,aa,aa,aa⟩,⟨_,_,aa,aa,aa⟩,⟨_,_,aa,aa,aa⟩,aj⟩,?_⟩
 have hwant:∀ z,z<3->∀ a b d,([[100,0,10],[45,5,5],[-5,5,6]]:List (List Int))[z]? =some [a,b,d]->∃ gz,w9.cell? ⟨β 24,0+((z:Nat):Int).toNat*1,none⟩=some (.slice (some ⟨gz,0,none⟩) 3 3)/\w9.cell? ⟨gz,0,none⟩=some (.int .i64 a)/\w9.cell? ⟨gz,1,none⟩=some (.int .i64 b)/\w9.cell? ⟨gz,2,none⟩=some (.int .i64 d):=by
  intro z hz a b d h;obtain rfl|rfl|rfl:z=0\/z=1\/z=2:=ae
  ·simp only[List.getElem?_cons_zero,Option.some.injEq,List.cons.injEq,and_true] at h;obtain⟨rfl,rfl,rfl⟩:=h;exact⟨β 21,o24.cell (by rfl),o21.cell (by rfl),o21.cell (by rfl),o21.cell (by rfl)⟩
  ·simp only[List.getElem?_cons_succ,List.getElem?_cons_zero,Option.some.injEq,List.cons.injEq,and_true] at h;obtain⟨rfl,rfl,rfl⟩:=h;exact⟨β 22,o24.cell (by rfl),o22.cell (by rfl),o22.cell (by rfl),o22.cell (by rfl)⟩
  ·simp only[List.getElem?_cons_succ,List.getElem?_cons_zero,Option.some.injEq,List.cons.injEq,and_true] at h;obtain⟨rfl,rfl,rfl⟩:=h;exact⟨β 23,o24.cell (by rfl),o23.cell (by rfl),o23.cell (by rfl),o23.cell (by rfl)⟩
 refine VS.loop (J:=λm L M w'=>∃ z:Nat,z<=3/\m=3-z/\L=[(1,.val (.slice p5 3 c5)),(3,.val (.slice (some ⟨β 24,0,none⟩) 3 3)),(4,.val (.int .i64 (z:Int)))]/\M=[]) 3 ⟨_,_,?_,?_,?_,?_,⟨0,ae,aa,aa,aa⟩⟩ ?_
 ·exact di
 ·exact di
 ·rfl
 ·exact fv
 rintro m L M wK ⟨z,hz,rfl,rfl,rfl⟩;refine eu ?_;by_cases hlt:z<3
 ·obtain⟨a,b,d,hw,⟨r,hr,e0,e1,e2⟩,a1,a2,b1,b2,d1,d2⟩:=wnum z hlt;obtain⟨gz,hgz,YI,rh,pR⟩:=hwant z hlt a b d hw;obtain⟨bR,oR,csR,rfl,WT,⟨_,_,_,_,_,_,_,rfl,⟨sA,pA,nA,cA,tA,yA,mA,dA,rfl,hA,zA⟩,⟨sB,pB,nB,cB,tB,yB,mB,dB,rfl,hB,zB⟩,⟨sC,pC,nC,cC,tC,yC,mC,dC,rfl,hC,zC⟩,⟨sD,pD,nD,cD,tD,yD,mD,dD,rfl,hD,zD⟩,⟨sE,pE,nE,cE,tE,yE,mE,dE,rfl,hE,zE⟩,⟨sF,pF,nF,cF,tF,yF,mF,dF,rfl,hF,zF⟩,⟨sG,pG,nG,cG,tG,yG,mG,dG,rfl,hG,zG⟩⟩⟩:=q5'.at hr;refine VS.aR aa (aw (show (z:Int)<3 by omega)) ?_;refine eu ?_;refine VO.cond aa eh (wV aa ?_);refine eu ?_;refine VO.read aa [.bool sB,.slice pB nB cB,.bool tB,.slice yB mB dB] aa (bc WT 4 _ ⟨_,aa⟩) (wV aa ?_);refine eu ?_;refine VO.cond aa eh (wV aa ?_);refine eu ?_;refine VO.read aa [.slice (some ⟨gz,0,none⟩) 3 3] aa (ft hgz) (wV aa ?_);refine eu ?_;refine VO.cond aa eh (wV aa ?_);refine eu ?_;refine VO.read aa [.int .i64 a] aa (ft YI) (wV aa ?_);refine eu ?_;refine VO.cR aa aa (fk qf) (λjC nM nZ=>gg a 1 jC ae ae ae ae) (λjC nM nZ BQ OL OM Lb OO t10 OP OQ d10 EH km jM _ AB=>wV aa ?_);refine eu ?_;refine VO.cB aa aa (fk Bp) (λjN oc pd=>ku _ _ _ (Rat.divInt a 1) AK 2 jN (hB.ki zB) (EH.ki (aM ae ae ae ae)) (by unfold AK;omega) ae true (aw e0)) (λjN oc pd Sx vn ny _ Ct=>wV aa ?_);refine eu ?_;refine VO.cond aa eh (wV aa ?_);refine eu ?_;refine VO.read aa [.bool sE,.slice pE nE cE,.bool tE,.slice yE mE dE] aa (bc WT 16 _ ⟨_,aa⟩) (wV aa ?_);refine eu ?_;refine VO.cond aa eh (wV aa ?_);refine eu ?_;refine VO.read aa [.slice (some ⟨gz,0,none⟩) 3 3] aa (ft hgz) (wV aa ?_);refine eu ?_;refine VO.cond aa eh (wV aa ?_);refine eu ?_;refine VO.read aa [.int .i64 b] aa (ft rh) (wV aa ?_);refine eu ?_;refine VO.cR aa aa (fk qf) (λlW qX uq=>gg b 1 lW ae ae ae ae) (λlW qX uq Fa s12 OG OH OI t12 OJ OK d12 PF wm rS _ GL=>wV aa ?_);refine eu ?_;refine VO.cB aa aa (fk Bp) (λvo Fb Cu=>ku _ _ _ (Rat.divInt b 1) AK 2 vo (hE.ki zE) (PF.ki (aM ae ae ae ae)) (by unfold AK;omega) ae true (aw e1)) (λvo Fb Cu uz YU Fc _ YV=>wV aa ?_);refine eu ?_;refine VO.cond aa eh (wV aa ?_);refine eu ?_;refine VO.read aa [.bool sF,.slice pF nF cF,.bool tF,.slice yF mF dF] aa (bc WT 20 _ ⟨_,aa⟩) (wV aa ?_);refine eu ?_;refine VO.cond aa eh (wV aa ?_);refine eu ?_;refine VO.read aa [.slice (some ⟨gz,0,none⟩) 3 3] aa (ft hgz) (wV aa ?_);refine eu ?_;refine VO.cond aa eh (wV aa ?_);refine eu ?_;refine VO.read aa [.int .i64 d] aa (ft pR) (wV aa ?_);refine eu ?_;refine VO.cR aa aa (fk qf) (λtf wq xH=>gg d 1 tf ae ae ae ae) (λtf wq xH w14 s14 p14 n14 c14 t14 y14 m14 d14 q14 Qb GM _ UA=>wV aa ?_);refine eu ?_;refine VO.cB aa aa (fk Bp) (λwu zi AD=>ku _ _ _ (Rat.divInt d 1) AK 2 wu (hF.ki zF) (q14.ki (aM ae ae ae ae)) (by unfold AK;omega) ae true (aw e2)) (λwu zi AD w15 UB Qc _ YW=>wV aa ?_);refine eu ?_;refine VS.back (3-(z+1)) ae ⟨_,_,?_,?_,?_,?_,⟨z+1,ae,aa,aa,aa⟩⟩
  ·refine⟨aa,aa,?_,aj⟩;rw[<-aA (i:=z) ae];rfl
  ·exact di
  ·rfl
  ·exact fv
 ·refine VS.aO aa (az (show ¬ (z:Int)<3 by omega)) ?_;refine eu ?_;refine VS.ret (ky _ _) aa aa (λwz kz bz=> ?_);exact⟨aa,pQ.aN bz⟩
set_option maxRecDepth 4000
def zy (kk:Nat) (w:World) (cs:List Value) (r:ik):Prop:=∃ a b c d e f g,cs=a++(b++(c++(d++(e++(f++g)))))/\iJ kk w a r.p.b/\iJ kk w b r.p.s/\iJ kk w c r.p.d/\iJ kk w d r.p.i/\iJ kk w e r.due/\iJ kk w f r.xU/\iJ kk w g r.own
theorem re (kk:Nat):gp (zy kk) 28 where
 kp:=λh k=>by
  obtain⟨a,b,c,d,e,f,g,hv,h1,h2,h3,h4,h5,h6,h7⟩:=h;exact⟨a,b,c,d,e,f,g,hv,(bV kk).kp h1 k,(bV kk).kp h2 k,(bV kk).kp h3 k,(bV kk).kp h4 k,(bV kk).kp h5 k,(bV kk).kp h6 k,(bV kk).kp h7 k⟩
 len:=λh=>by
  obtain⟨a,b,c,d,e,f,g,rfl,h1,h2,h3,h4,h5,h6,h7⟩:=h;simp only[List.length_append];rw[(bV kk).len h1,(bV kk).len h2,(bV kk).len h3,(bV kk).len h4,(bV kk).len h5,(bV kk).len h6,(bV kk).len h7]
 ok:=λh=>by
  obtain⟨a,b,c,d,e,f,g,rfl,h1,h2,h3,h4,h5,h6,h7⟩:=h;simp only[List.all_append];rw[(bV kk).ok h1,(bV kk).ok h2,(bV kk).ok h3,(bV kk).ok h4,(bV kk).ok h5,(bV kk).ok h6,(bV kk).ok h7];rfl
variable {cs:List Value}
theorem Gu.GX {q:Rat} (h:Gu kk w cs q):iJ kk w cs q:=by
 obtain⟨s,p,n,c,t,y,m,d,rfl,h1,h2⟩:=h;exact .mk (h1.to h2)
theorem fC.in {r:ik} (h:fC kk w cs r):zy kk w cs r:=by
 obtain⟨a,b,c,d,e,f,g,hv,h1,h2,h3,h4,h5,h6,h7⟩:=h;exact⟨a,b,c,d,e,f,g,hv,h1.GX,h2.GX,h3.GX,h4.GX,h5.GX,h6.GX,h7.GX⟩
def AVal (w:World) (v:Value) (r:ik) (k:Nat):Prop:=∃ cs:List Value,v=.agg cs.toArray/\fC k w cs r
set_option maxRecDepth 4000 in
theorem NW (v:Value) (l:List ik) (kk:Nat) (w:World) (hv:bh (zy kk) 28 w v l) (hk:kk<=100000) (iy:1<=kk) (hn:l.length<=8):
  Calls Tryz.prog 123 #[v] w λo w'=>∃ r,o=.returned r/\AVal w' r (wx l) (eP kk l.length)/\aD w w':=by
 obtain⟨p,c,rfl,eS,gv⟩:=hv.form;obtain⟨N,hN⟩:∃ N,N=l.length:=⟨_,aa⟩;rw[<-hN] at hv eS hn;rw[<-hN]
 have hS:∀ z,z<=N->eP kk z<=900000:=λz hz=>by
  have:z*(kk+1)<=8*100001:=kD ae ae;unfold eP;omega
 refine ai (C:=bd Tryz.prog w _) (args:=[_]) Tryz.func123 aa Tryz.ntmps123 (bF aa) ?_;refine af ?_;refine VO.call aa aa (fk Tryz.func185) (λaK bE aX=>(Fv _ [] 1 aK (bh.nil _ _ _) ae ae eL).mono ?_);rintro e w1 ⟨r1,rfl,q1,aU⟩;obtain⟨sA,pA,nA,cA,tA,yA,mA,dA,sB,pB,nB,cB,tB,yB,mB,dB,sC,pC,nC,cC,tC,yC,mC,dC,sD,pD,nD,cD,tD,yD,mD,dD,rfl,gA,gB,gC,gD⟩:=q1;refine aL aU ?_;intro cQ _ bb1;refine VO.cR aa aa (fk mc) (λbf cK bK=>dK 0 bf ae ae) (λbf cK bK w2 s2 p2 n2 c2 t2 y2 m2 d2 q2 bu dW _ bb2=>wV aa ?_);refine af ?_;refine VO.cR aa aa (fk mc) (λcV dS ea=>dK 0 cV ae ae) (λcV dS ea w3 s3 p3 n3 c3 t3 y3 m3 d3 q3 dH eV _ bb3=>wV aa ?_);refine af ?_;refine VO.cR aa aa (fk mc) (λey eU fc=>dK 0 ey ae ae) (λey eU fc w4 s4 p4 n4 c4 t4 y4 m4 d4 q4 gj jc _ mw=>wV aa ?_);refine af ?_;have h00:((0:Int):Rat)=0:=aa;rw[h00] at q2 q3 q4;have z1:∀ k,1<=k->dy (0:Rat) k:=λk hk=>dy.zero.mono hk
 refine VS.loop (J:=λm L M w'=>∃ (z:Nat) (cs:List Value),z<=N/\m=N-z/\L=[(2,.box 2 0),(3,.box 3 0),(11,.val (.slice p N c)),(12,.val (.int .i64 (N:Int))),(13,.val (.int .i64 (z:Int)))]/\
  M=[(2,(123,([.bool false,.slice none 0 0,.bool false,.slice none 0 0,.bool false,.slice none 0 0,.bool false,.slice none 0 0,.bool false,.slice none 0 0,.bool false,.slice none 0 0,.bool false,.slice none 0 0,.bool false,.slice none 0 0,.bool false,.slice none 0 0,.bool false,.slice none 0 0,.bool false,.slice none 0 0,.bool false,.slice none 0 0,.bool false,.slice none 0 0,.bool false,.slice none 0 0]:List Value).map .val)),(3,(123,cs.map .val))]/\fC (eP kk z) w' cs (wx (l.take z))) N
  ⟨_,_,?_,?_,?_,?_,⟨0,[.bool sA,.slice pA nA cA,.bool tA,.slice yA mA dA,.bool sB,.slice pB nB cB,.bool tB,.slice yB mB dB,.bool sC,.slice pC nC cC,.bool tC,.slice yC mC dC,.bool sD,.slice pD nD cD,.bool tD,.slice yD mD dD,.bool s2,.slice p2 n2 c2,.bool t2,.slice y2 m2 d2,.bool s3,.slice p3 n3 c3,.bool t3,.slice y3 m3 d3,.bool s4,.slice p4 n4 c4,.bool t4,.slice y4 m4 d4],ae,rfl,rfl,rfl,⟨_,_,_,_,_,_,_,rfl,.mk gA.k (z1 _ (by unfold eP;omega)),.mk gB.k (z1 _ (by unfold eP;omega)),.mk gC.k (z1 _ (by unfold eP;omega)),.mk gD.k (z1 _ (by unfold eP;omega)),.mk q2.kr (z1 _ (by unfold eP;omega)),.mk q3.kr (z1 _ (by unfold eP;omega)),.mk q4.rd (z1 _ (by unfold eP;omega))⟩⟩⟩ ?_
 ·exact di
 ·exact di
 ·rfl
 ·exact fv
 rintro m L M wJ ⟨z,cs,hz,rfl,rfl,rfl,hcs⟩;obtain⟨_,_,_,_,_,_,_,rfl,⟨s1,p1,n1,c1,t1,y1,m1,d1,rfl,g1⟩,⟨s2,p2,n2,c2,t2,y2,m2,d2,rfl,g2⟩,⟨s3,p3,n3,c3,t3,y3,m3,d3,rfl,g3⟩,⟨s4,p4,n4,c4,t4,y4,m4,d4,rfl,g4⟩,⟨s5,p5,n5,c5,t5,y5,m5,d5,rfl,g5⟩,⟨s6,p6,n6,c6,t6,y6,m6,d6,rfl,g6⟩,⟨s7,p7,n7,c7,t7,y7,m7,d7,rfl,g7⟩⟩:=hcs;obtain⟨g1,z1⟩:=g1;obtain⟨g2,z2⟩:=g2;obtain⟨g3,z3⟩:=g3;obtain⟨g4,z4⟩:=g4;obtain⟨g5,z5⟩:=g5;obtain⟨g6,z6⟩:=g6;obtain⟨g7,z7⟩:=g7;refine af ?_;by_cases hlt:z<N
 ·obtain⟨x,hx⟩:∃ x,l[z]? =some x:=⟨_,bj ae⟩;obtain⟨b,off,jU,rfl,hc,⟨_,_,_,_,_,_,_,rfl,⟨sA,pA,nA,cA,tA,yA,mA,dA,rfl,hA⟩,⟨sB,pB,nB,cB,tB,yB,mB,dB,rfl,hB⟩,⟨sC,pC,nC,cC,tC,yC,mC,dC,rfl,hC⟩,⟨sD,pD,nD,cD,tD,yD,mD,dD,rfl,hD⟩,⟨sE,pE,nE,cE,tE,yE,mE,dE,rfl,hE⟩,⟨sF,pF,nF,cF,tF,yF,mF,dF,rfl,hF⟩,⟨sG,pG,nG,cG,tG,yG,mG,dG,rfl,hG⟩⟩⟩:=hv.at hx;have hsz:=hS (z+1) hlt;have hsz0:=hS z ae;have hst:eP kk (z+1)=eP kk z+kk+1:=Fq _ _;refine VS.aR aa (aw (aJ.2 hlt)) ?_;refine af ?_;refine VO.cond aa eh ?_;refine wV aa ?_;refine af ?_;refine VO.read aa [.bool sA,.slice pA nA cA,.bool tA,.slice yA mA dA,.bool sB,.slice pB nB cB,.bool tB,.slice yB mB dB,.bool sC,.slice pC nC cC,.bool tC,.slice yC mC dC,.bool sD,.slice pD nD cD,.bool tD,.slice yD mD dD,.bool sE,.slice pE nE cE,.bool tE,.slice yE mE dE,.bool sF,.slice pF nF cF,.bool tF,.slice yF mF dF,.bool sG,.slice pG nG cG,.bool tG,.slice yG mG dG] aa (bc hc 0 _ ⟨[],aa⟩) (wV aa ?_);refine af ?_;have hkS:kk<=eP kk (z+1):=by rw[hst];omega
  have hzS:eP kk z<=eP kk (z+1):=by rw[hst];omega
  refine VO.eX aa (fk Tryz.func185) (λtd β Cr xG ho=>(Fv _ [(wx (l.take z)).p,x.p] (eP kk (z+1)) td (fU (BS (eP kk (z+1))) (ho.own 21 (.base (ay.2 aa)) _ _ aa) [] (vs:=[[.bool s1,.slice p1 n1 c1,.bool t1,.slice y1 m1 d1,.bool s2,.slice p2 n2 c2,.bool t2,.slice y2 m2 d2,.bool s3,.slice p3 n3 c3,.bool t3,.slice y3 m3 d3,.bool s4,.slice p4 n4 c4,.bool t4,.slice y4 m4 d4],[.bool sA,.slice pA nA cA,.bool tA,.slice yA mA dA,.bool sB,.slice pB nB cB,.bool tB,.slice yB mB dB,.bool sC,.slice pC nC cC,.bool tC,.slice yC mC dC,.bool sD,.slice pD nD cD,.bool tD,.slice yD mD dD]]) (by rfl) (.cons (xK.mk (g1.ki (z1.mono hzS)) (g2.ki (z2.mono hzS)) (g3.ki (z3.mono hzS)) (g4.ki (z4.mono hzS))) (.cons (xK.mk ((hA.kp (Kp.of (U:=UU) xG)).Nq hkS) ((hB.kp (Kp.of (U:=UU) xG)).Nq hkS) ((hC.kp (Kp.of (U:=UU) xG)).Nq hkS) ((hD.kp (Kp.of (U:=UU) xG)).Nq hkS)) .nil)) aa (bl _) (show (2:Nat)<=9223372036854775807 by omega)) (by rw[hst];omega) ae (by unfold eP at*;simp only[List.length_cons,List.length_nil];omega)).mono ?_);rintro o w8 ⟨r8,rfl,q8,Bz⟩;rw[NA] at q8;obtain⟨UQ,UR,UT,UW,UX,UY,UZ,Va,s8b,p8b,n8b,c8b,t8b,y8b,m8b,d8b,Vb,Vc,Vd,Ve,Vf,Vg,Vh,Vi,Vj,Vk,Vl,Vm,Vn,Vo,Vp,Vq,rfl,i1,i2,i3,i4⟩:=q8;refine aL Bz ?_;intro Cs _ Sw;refine VO.cR aa aa (fk mX) (λAA Nd Dw=>eJ _ _ (wx (l.take z)).due x.due (eP kk z) kk AA (g5.ki z5) (hE.kp (Kp.of (U:=UU) Dw)) ae ae) (λAA Nd Dw w9 s9 p9 n9 c9 t9 y9 m9 d9 q9 Dg GK _ bb9=>wV aa ?_);refine af ?_;refine VO.cR aa aa (fk mX) (λjC nM nZ=>eJ _ _ (wx (l.take z)).xU x.xU (eP kk z) kk jC (g6.ki z6) (hF.kp (Kp.of (U:=UU) nZ)) ae ae) (λjC nM nZ BQ OL OM Lb OO t10 OP OQ d10 EH km jM _ AB=>wV aa ?_);refine af ?_;refine VO.cR aa aa (fk mX) (λjN oc pd=>eJ _ _ (wx (l.take z)).own x.own (eP kk z) kk jN (g7.ki z7) (hG.kp (Kp.of (U:=UU) pd)) ae ae) (λjN oc pd Sx SI SJ OE SK t11 SL SM d11 Ka vn ny _ Ct=>wV aa ?_);refine af ?_
  have fx:fC (eP kk (z+1)) Sx [.bool UQ,.slice UR UT UW,.bool UX,.slice UY UZ Va,.bool s8b,.slice p8b n8b c8b,.bool t8b,.slice y8b m8b d8b,.bool Vb,.slice Vc Vd Ve,.bool Vf,.slice Vg Vh Vi,.bool Vj,.slice Vk Vl Vm,.bool Vn,.slice Vo Vp Vq,.bool s9,.slice p9 n9 c9,.bool t9,.slice y9 m9 d9,.bool OL,.slice OM Lb OO,.bool t10,.slice OP OQ d10,.bool SI,.slice SJ OE SK,.bool t11,.slice SL SM d11] (wx (l.take (z+1))):=by
   rw[VI hx,hst];exact⟨_,_,_,_,_,_,_,aa,.mk i1.k (z1.add (hA.sz iy)),.mk i2.k (z2.add (hB.sz iy)),.mk i3.k (z3.add (hC.sz iy)),.mk i4.k (z4.add (hD.sz iy)),.mk q9.kr (z5.add (hE.sz iy)),.mk EH.kr (z6.add (hF.sz iy)),.mk Ka.rd (z7.add (hG.sz iy))⟩
  refine VS.back (N-(z+1)) ae ⟨_,_,?_,?_,?_,?_,⟨z+1,_,ae,aa,aa,aa,fx⟩⟩
  ·refine⟨aa,aa,aa,aa,?_,aj⟩;rw[<-aA (i:=z) ae];rfl
  ·exact di
  ·rfl
  ·exact fv
 ·refine VS.aO aa (az (λe=>hlt (aJ.1 e))) ?_;obtain rfl:z=N:=ae;refine af ?_;refine aC ?_;intro wz kz bz;rw[dM ae] at g1 g2 g3 g4 g5 g6 g7 z1 z2 z3 z4 z5 z6 z7;exact⟨_,aa,⟨[.bool s1,.slice p1 n1 c1,.bool t1,.slice y1 m1 d1,.bool s2,.slice p2 n2 c2,.bool t2,.slice y2 m2 d2,.bool s3,.slice p3 n3 c3,.bool t3,.slice y3 m3 d3,.bool s4,.slice p4 n4 c4,.bool t4,.slice y4 m4 d4,.bool s5,.slice p5 n5 c5,.bool t5,.slice y5 m5 d5,.bool s6,.slice p6 n6 c6,.bool t6,.slice y6 m6 d6,.bool s7,.slice p7 n7 c7,.bool t7,.slice y7 m7 d7],aa,⟨_,_,_,_,_,_,_,aa,.mk g1.k z1,.mk g2.k z2,.mk g3.k z3,.mk g4.k z4,.mk g5.k z5,.mk g6.k z6,.mk g7.k z7⟩⟩,bz⟩
set_option maxRecDepth 4000
theorem bh.rtot {qs:List Rat} {k:Nat} (h:bh (iJ k) 4 w v qs):mz w v qs k:=by
 obtain⟨p,c,hv,h1,h2,h3⟩:=h;refine⟨p,c,hv,h1,h2,λi q hq=> ?_⟩;obtain⟨b,off,cs,hp,hc,⟨s,p',n,c',t,r,m,d,rfl,hr⟩⟩:=h3 i q hq;exact⟨b,off,s,p',n,c',t,r,m,d,hp,hc,hr⟩
set_option maxRecDepth 4000 in
theorem VU (v:Value) (l:List ik) (kk:Nat) (w:World) (hv:bh (zy kk) 28 w v l) (hk:kk<=100000) (iy:1<=kk) (hn:l.length<=8):
  Calls Tryz.prog 125 #[v] w λo w'=>∃ r,o=.returned r/\AVal w' r (wx l) (bU kk l.length)/\aD w w':=by
 obtain⟨p,c,rfl,eS,gv⟩:=hv.form;obtain⟨N,hN⟩:∃ N,N=l.length:=⟨_,aa⟩;rw[<-hN] at hv eS hn;rw[<-hN]
 have hst:bU kk N<=1000000:=by
  have:N*(cL kk+1)<=8*100001:=kD ae (by unfold cL;omega);unfold bU;omega
 have hst2:eP kk N=bU kk N:=by unfold eP bU cL;rw[Nat.max_eq_left iy]
 refine ai (C:=bd Tryz.prog w _) (args:=[_]) Tryz.func125 aa Tryz.ntmps125 (bF aa) ?_;refine af ?_;refine VS.loop (J:=(λm L M w'=>∃ (z:Nat) (X0 X1 X2 X3:AV) (M0 M1 M2 M3:List (Nat×(TypeId×List AV))),z<=N/\m=N-z/\L=[(0,.val (.slice p N c)),(2,.box 2 0),(3,X0),(4,X1),(5,X2),(6,X3),(7,.val (.int .i64 (z:Int)))]/\M=(2,(209,([.bool false,.slice none 0 0,.bool false,.slice none 0 0,.bool false,.slice none 0 0,.bool false,.slice none 0 0,.bool false,.slice none 0 0,.bool false,.slice none 0 0,.bool false,.slice none 0 0,.bool false,.slice none 0 0,.bool false,.slice none 0 0,.bool false,.slice none 0 0,.bool false,.slice none 0 0,.bool false,.slice none 0 0,.bool false,.slice none 0 0,.bool false,.slice none 0 0]:List Value).map .val))::(M0++(M1++(M2++M3)))/\eF (PtE kk) 16 207 21 X0 M0 w' ((l.map (·.p)).take z)/\eF (iJ kk) 4 38 29 X1 M1 w' ((l.map (·.due)).take z)/\eF (iJ kk) 4 38 37 X2 M2 w' ((l.map (·.xU)).take z)/\eF (iJ kk) 4 38 45 X3 M3 w' ((l.map (·.own)).take z))) N ⟨_,_,?_,?_,?_,?_,⟨0,_,_,_,_,[],[],[],[],ae,aa,aa,aa,.inl ⟨aa,aa,aa⟩,.inl ⟨aa,aa,aa⟩,.inl ⟨aa,aa,aa⟩,.inl ⟨aa,aa,aa⟩⟩⟩ ?_
 ·exact di
 ·exact di
 ·rfl
 ·exact fv
 rintro m L M wI ⟨z,X0,X1,X2,X3,M0,M1,M2,M3,hz,rfl,rfl,rfl,R0,R1,R2,R3⟩;refine VS.now (λwJ kN bN=> ?_);replace R0:=R0.kp (BS kk) kN;replace R1:=R1.kp (bV kk) kN;replace R2:=R2.kp (bV kk) kN;replace R3:=R3.kp (bV kk) kN;refine VS.mask [20,28,36,44] (by rcases R0 with ⟨_,rfl,rfl⟩|⟨_,_,_,_,rfl,rfl,_⟩ <;> rcases R1 with ⟨_,rfl,rfl⟩|⟨_,_,_,_,rfl,rfl,_⟩ <;> rcases R2 with ⟨_,rfl,rfl⟩|⟨_,_,_,_,rfl,rfl,_⟩ <;> rcases R3 with ⟨_,rfl,rfl⟩|⟨_,_,_,_,rfl,rfl,_⟩ <;> (repeat first|exact aj|refine⟨aa,?_⟩)) ?_;refine af ?_;by_cases hlt:z<N
 ·obtain⟨x,hx⟩:∃ x,l[z]? =some x:=⟨_,bj ae⟩;have uv:(l.map (·.p))[z]? =some x.p:=by rw[gT,hx];rfl
  have EK:(l.map (·.due))[z]? =some x.due:=by rw[gT,hx];rfl
  have IU:(l.map (·.xU))[z]? =some x.xU:=by rw[gT,hx];rfl
  have hx3:(l.map (·.own))[z]? =some x.own:=by rw[gT,hx];rfl
  obtain⟨b,off,jU,rfl,hc,⟨_,_,_,_,_,_,_,rfl,⟨sA,pA,nA,cA,tA,yA,mA,dA,rfl,hA⟩,⟨sB,pB,nB,cB,tB,yB,mB,dB,rfl,hB⟩,⟨sC,pC,nC,cC,tC,yC,mC,dC,rfl,hC⟩,⟨sD,pD,nD,cD,tD,yD,mD,dD,rfl,hD⟩,⟨sE,pE,nE,cE,tE,yE,mE,dE,rfl,hE⟩,⟨sF,pF,nF,cF,tF,yF,mF,dF,rfl,hF⟩,⟨sG,pG,nG,cG,tG,yG,mG,dG,rfl,hG⟩⟩⟩:=hv.at hx;refine VS.aR aa (aw (aJ.2 hlt)) ?_;refine af ?_;refine VO.cond aa eh ?_;refine wV aa ?_;refine af ?_;refine VO.read aa [.bool sA,.slice pA nA cA,.bool tA,.slice yA mA dA,.bool sB,.slice pB nB cB,.bool tB,.slice yB mB dB,.bool sC,.slice pC nC cC,.bool tC,.slice yC mC dC,.bool sD,.slice pD nD cD,.bool tD,.slice yD mD dD] aa (bc hc 0 _ ⟨_,aa⟩) (wV aa ?_);refine af ?_
  apply VO.join (P:=Entry (λ_ L M w'=>∃ (Y:AV) (O:List (Nat×(TypeId×List AV))),L=[(0,.val (.slice (some ⟨b,off,none⟩) N c)),(2,.box 2 0),(3,Y),(4,X1),(5,X2),(6,X3),(7,.val (.int .i64 (z:Int)))]/\
   M=(2,(209,([.bool false,.slice none 0 0,.bool false,.slice none 0 0,.bool false,.slice none 0 0,.bool false,.slice none 0 0,.bool false,.slice none 0 0,.bool false,.slice none 0 0,.bool false,.slice none 0 0,.bool false,.slice none 0 0,.bool false,.slice none 0 0,.bool false,.slice none 0 0,.bool false,.slice none 0 0,.bool false,.slice none 0 0,.bool false,.slice none 0 0,.bool false,.slice none 0 0]:List Value).map .val))::(O++(M1++(M2++M3)))/\eF (PtE kk) 16 207 21 Y O w' ((l.map (·.p)).take (z+1))/\Kp UU wJ w') 0)
  ·intro cont;have iq:(PtE kk) wJ [.bool sA,.slice pA nA cA,.bool tA,.slice yA mA dA,.bool sB,.slice pB nB cB,.bool tB,.slice yB mB dB,.bool sC,.slice pC nC cC,.bool tC,.slice yC mC dC,.bool sD,.slice pD nD cD,.bool tD,.slice yD mD dD] x.p:=xK.mk (hA.kp (Kp.of (U:=UU) bN)) (hB.kp (Kp.of (U:=UU) bN)) (hC.kp (Kp.of (U:=UU) bN)) (hD.kp (Kp.of (U:=UU) bN));rcases R0 with ⟨dJ,rfl,rfl⟩|⟨n',c',vs,sp,rfl,rfl,iU⟩
   ·refine VO.jg (cS _ _) (BS kk) (t:=301) (e:=207) (s:=20) (a:=x.p) (cs:=[.bool sA,.slice pA nA cA,.bool tA,.slice yA mA dA,.bool sB,.slice pB nB cB,.bool tB,.slice yB mB dB,.bool sC,.slice pC nC cC,.bool tC,.slice yC mC dC,.bool sD,.slice pD nD cD,.bool tD,.slice yD mD dD]) aa aa aa aa aa aa aa aa (bF aa) aa (by rcases R1 with ⟨_,rfl,rfl⟩|⟨_,_,_,_,rfl,rfl,_⟩ <;> rcases R2 with ⟨_,rfl,rfl⟩|⟨_,_,_,_,rfl,rfl,_⟩ <;> rcases R3 with ⟨_,rfl,rfl⟩|⟨_,_,_,_,rfl,rfl,_⟩ <;> rfl) aa iq ae (λw8 cap sp k8 b8 gh=>wV aa (wN ?_));refine cont _ _ _ ⟨_,_,?_,?_,?_,?_,⟨_,_,aa,aa,.inr ⟨1,cap,_,sp,aa,aa,by rw[aI uv,dJ];exact gh⟩,bm⟩⟩
    ·rcases R1 with ⟨_,rfl,rfl⟩|⟨_,_,_,_,rfl,rfl,_⟩ <;> rcases R2 with ⟨_,rfl,rfl⟩|⟨_,_,_,_,rfl,rfl,_⟩ <;> rcases R3 with ⟨_,rfl,rfl⟩|⟨_,_,_,_,rfl,rfl,_⟩ <;> (repeat first|exact aj|refine⟨aa,?_⟩)
    ·rcases R1 with ⟨_,rfl,rfl⟩|⟨_,_,_,_,rfl,rfl,_⟩ <;> rcases R2 with ⟨_,rfl,rfl⟩|⟨_,_,_,_,rfl,rfl,_⟩ <;> rcases R3 with ⟨_,rfl,rfl⟩|⟨_,_,_,_,rfl,rfl,_⟩ <;> (repeat first|exact aj|refine⟨aa,?_⟩|refine⟨ak (λl=>some (_,l)) (ba (by first|exact bW.dN (by assumption)|exact ah _|(rw[<-aQ];exact ah _)) _ _),?_⟩)
    ·rcases R1 with ⟨_,rfl,rfl⟩|⟨_,_,_,_,rfl,rfl,_⟩ <;> rcases R2 with ⟨_,rfl,rfl⟩|⟨_,_,_,_,rfl,rfl,_⟩ <;> rcases R3 with ⟨_,rfl,rfl⟩|⟨_,_,_,_,rfl,rfl,_⟩ <;> rfl
    ·rcases R1 with ⟨_,rfl,rfl⟩|⟨_,_,_,_,rfl,rfl,_⟩ <;> rcases R2 with ⟨_,rfl,rfl⟩|⟨_,_,_,_,rfl,rfl,_⟩ <;> rcases R3 with ⟨_,rfl,rfl⟩|⟨_,_,_,_,rfl,rfl,_⟩ <;> (repeat first|exact aj|refine⟨aq.lit aa,?_⟩|refine⟨bW.mg (by assumption),?_⟩|refine⟨aq.append (.vals _) (.vals _),?_⟩|refine⟨aq.vals _,?_⟩)
   ·have nY:=iU.len;rw[cw] at nY;refine VO.jh (cS _ _) (BS kk) (t:=301) (e:=207) (s:=20) (i:=21) (n:=n') (c:=c') (vs:=vs) (sp:=sp) (es:=(l.map (·.p)).take z) (a:=x.p) (cs:=[.bool sA,.slice pA nA cA,.bool tA,.slice yA mA dA,.bool sB,.slice pB nB cB,.bool tB,.slice yB mB dB,.bool sC,.slice pC nC cC,.bool tC,.slice yC mC dC,.bool sD,.slice pD nD cD,.bool tD,.slice yD mD dD]) aa aa aa aa aa aa aa aa (bF aa) aa (.inr aa) (by rcases R1 with ⟨_,rfl,rfl⟩|⟨_,_,_,_,rfl,rfl,_⟩ <;> rcases R2 with ⟨_,rfl,rfl⟩|⟨_,_,_,_,rfl,rfl,_⟩ <;> rcases R3 with ⟨_,rfl,rfl⟩|⟨_,_,_,_,rfl,rfl,_⟩ <;> rfl) (iU.kp (BS kk) bm) aa iq ae (λw8 il qH ρ k8 b8 gH gh=>wV aa (wN ?_));refine cont _ _ _ ⟨_,_,?_,?_,?_,?_,⟨_,_,aa,aa,.inr ⟨n' +1,il,_,qH,aa,aa,by rw[aI uv];exact gh⟩,bm⟩⟩
    ·rcases R1 with ⟨_,rfl,rfl⟩|⟨_,_,_,_,rfl,rfl,_⟩ <;> rcases R2 with ⟨_,rfl,rfl⟩|⟨_,_,_,_,rfl,rfl,_⟩ <;> rcases R3 with ⟨_,rfl,rfl⟩|⟨_,_,_,_,rfl,rfl,_⟩ <;> (repeat first|exact aj|refine⟨aa,?_⟩)
    ·rcases R1 with ⟨_,rfl,rfl⟩|⟨_,_,_,_,rfl,rfl,_⟩ <;> rcases R2 with ⟨_,rfl,rfl⟩|⟨_,_,_,_,rfl,rfl,_⟩ <;> rcases R3 with ⟨_,rfl,rfl⟩|⟨_,_,_,_,rfl,rfl,_⟩ <;> (repeat first|exact aj|refine⟨aa,?_⟩|refine⟨ak (λl=>some (_,l)) (ba (by first|exact bW.dN (by assumption)|exact ah _|(rw[<-aQ];exact ah _)) _ _),?_⟩)
    ·rcases R1 with ⟨_,rfl,rfl⟩|⟨_,_,_,_,rfl,rfl,_⟩ <;> rcases R2 with ⟨_,rfl,rfl⟩|⟨_,_,_,_,rfl,rfl,_⟩ <;> rcases R3 with ⟨_,rfl,rfl⟩|⟨_,_,_,_,rfl,rfl,_⟩ <;> rfl
    ·rcases R1 with ⟨_,rfl,rfl⟩|⟨_,_,_,_,rfl,rfl,_⟩ <;> rcases R2 with ⟨_,rfl,rfl⟩|⟨_,_,_,_,rfl,rfl,_⟩ <;> rcases R3 with ⟨_,rfl,rfl⟩|⟨_,_,_,_,rfl,rfl,_⟩ <;> (repeat first|exact aj|refine⟨aq.lit aa,?_⟩|refine⟨bW.mg (by assumption),?_⟩|refine⟨aq.append (.vals _) (.vals _),?_⟩|refine⟨aq.vals _,?_⟩)
  clear R0;rintro F0 H0 v0 ⟨_,_,e1,e2,e3,e4,X0,M0,rfl,rfl,R0,kv0⟩;refine VS.narrow _ _ e1 e2 e3 e4 ?_;clear e1 e2 e3 e4 F0 H0;refine VS.mask [20,28,36,44] (by rcases R0 with ⟨_,rfl,rfl⟩|⟨_,_,_,_,rfl,rfl,_⟩ <;> rcases R1 with ⟨_,rfl,rfl⟩|⟨_,_,_,_,rfl,rfl,_⟩ <;> rcases R2 with ⟨_,rfl,rfl⟩|⟨_,_,_,_,rfl,rfl,_⟩ <;> rcases R3 with ⟨_,rfl,rfl⟩|⟨_,_,_,_,rfl,rfl,_⟩ <;> (repeat first|exact aj|refine⟨aa,?_⟩)) ?_;refine af ?_;refine VO.cond aa eh ?_;refine wV aa ?_;refine af ?_;refine VO.read aa [.bool sE,.slice pE nE cE,.bool tE,.slice yE mE dE] aa (bc hc 16 _ ⟨_,aa⟩) (wV aa ?_);refine af ?_
  apply VO.join (P:=Entry (λ_ L M w'=>∃ (Y:AV) (O:List (Nat×(TypeId×List AV))),L=[(0,.val (.slice (some ⟨b,off,none⟩) N c)),(2,.box 2 0),(3,X0),(4,Y),(5,X2),(6,X3),(7,.val (.int .i64 (z:Int)))]/\
   M=(2,(209,([.bool false,.slice none 0 0,.bool false,.slice none 0 0,.bool false,.slice none 0 0,.bool false,.slice none 0 0,.bool false,.slice none 0 0,.bool false,.slice none 0 0,.bool false,.slice none 0 0,.bool false,.slice none 0 0,.bool false,.slice none 0 0,.bool false,.slice none 0 0,.bool false,.slice none 0 0,.bool false,.slice none 0 0,.bool false,.slice none 0 0,.bool false,.slice none 0 0]:List Value).map .val))::(M0++(O++(M2++M3)))/\eF (iJ kk) 4 38 29 Y O w' ((l.map (·.due)).take (z+1))/\Kp UU v0 w') 0)
  ·intro cont;have iq:(iJ kk) v0 [.bool sE,.slice pE nE cE,.bool tE,.slice yE mE dE] x.due:=.mk ((hE.kp (Kp.of (U:=UU) bN)).k);rcases R1 with ⟨dJ,rfl,rfl⟩|⟨n',c',vs,sp,rfl,rfl,iU⟩
   ·refine VO.jg (cS _ _) (bV kk) (t:=147) (e:=38) (s:=28) (a:=x.due) (cs:=[.bool sE,.slice pE nE cE,.bool tE,.slice yE mE dE]) aa aa aa aa aa aa aa aa (bF aa) aa (by rcases R0 with ⟨_,rfl,rfl⟩|⟨_,_,_,_,rfl,rfl,_⟩ <;> rcases R2 with ⟨_,rfl,rfl⟩|⟨_,_,_,_,rfl,rfl,_⟩ <;> rcases R3 with ⟨_,rfl,rfl⟩|⟨_,_,_,_,rfl,rfl,_⟩ <;> rfl) aa iq ae (λw8 cap sp k8 b8 gh=>wV aa (wN ?_));refine cont _ _ _ ⟨_,_,?_,?_,?_,?_,⟨_,_,aa,aa,.inr ⟨1,cap,_,sp,aa,aa,by rw[aI EK,dJ];exact gh⟩,bm⟩⟩
    ·rcases R0 with ⟨_,rfl,rfl⟩|⟨_,_,_,_,rfl,rfl,_⟩ <;> rcases R2 with ⟨_,rfl,rfl⟩|⟨_,_,_,_,rfl,rfl,_⟩ <;> rcases R3 with ⟨_,rfl,rfl⟩|⟨_,_,_,_,rfl,rfl,_⟩ <;> (repeat first|exact aj|refine⟨aa,?_⟩)
    ·rcases R0 with ⟨_,rfl,rfl⟩|⟨_,_,_,_,rfl,rfl,_⟩ <;> rcases R2 with ⟨_,rfl,rfl⟩|⟨_,_,_,_,rfl,rfl,_⟩ <;> rcases R3 with ⟨_,rfl,rfl⟩|⟨_,_,_,_,rfl,rfl,_⟩ <;> (repeat first|exact aj|refine⟨aa,?_⟩|refine⟨ak (λl=>some (_,l)) (ba (by first|exact bW.dN (by assumption)|exact ah _|(rw[<-aQ];exact ah _)) _ _),?_⟩)
    ·rcases R0 with ⟨_,rfl,rfl⟩|⟨_,_,_,_,rfl,rfl,_⟩ <;> rcases R2 with ⟨_,rfl,rfl⟩|⟨_,_,_,_,rfl,rfl,_⟩ <;> rcases R3 with ⟨_,rfl,rfl⟩|⟨_,_,_,_,rfl,rfl,_⟩ <;> rfl
    ·rcases R0 with ⟨_,rfl,rfl⟩|⟨_,_,_,_,rfl,rfl,_⟩ <;> rcases R2 with ⟨_,rfl,rfl⟩|⟨_,_,_,_,rfl,rfl,_⟩ <;> rcases R3 with ⟨_,rfl,rfl⟩|⟨_,_,_,_,rfl,rfl,_⟩ <;> (repeat first|exact aj|refine⟨aq.lit aa,?_⟩|refine⟨bW.mg (by assumption),?_⟩|refine⟨aq.append (.vals _) (.vals _),?_⟩|refine⟨aq.vals _,?_⟩)
   ·have nY:=iU.len;rw[cw] at nY;refine VO.jh (cS _ _) (bV kk) (t:=147) (e:=38) (s:=28) (i:=29) (n:=n') (c:=c') (vs:=vs) (sp:=sp) (es:=(l.map (·.due)).take z) (a:=x.due) (cs:=[.bool sE,.slice pE nE cE,.bool tE,.slice yE mE dE]) aa aa aa aa aa aa aa aa (bF aa) aa (.inr aa) (by rcases R0 with ⟨_,rfl,rfl⟩|⟨_,_,_,_,rfl,rfl,_⟩ <;> rcases R2 with ⟨_,rfl,rfl⟩|⟨_,_,_,_,rfl,rfl,_⟩ <;> rcases R3 with ⟨_,rfl,rfl⟩|⟨_,_,_,_,rfl,rfl,_⟩ <;> rfl) (iU.kp (bV kk) bm) aa iq ae (λw8 il qH ρ k8 b8 gH gh=>wV aa (wN ?_));refine cont _ _ _ ⟨_,_,?_,?_,?_,?_,⟨_,_,aa,aa,.inr ⟨n' +1,il,_,qH,aa,aa,by rw[aI EK];exact gh⟩,bm⟩⟩
    ·rcases R0 with ⟨_,rfl,rfl⟩|⟨_,_,_,_,rfl,rfl,_⟩ <;> rcases R2 with ⟨_,rfl,rfl⟩|⟨_,_,_,_,rfl,rfl,_⟩ <;> rcases R3 with ⟨_,rfl,rfl⟩|⟨_,_,_,_,rfl,rfl,_⟩ <;> (repeat first|exact aj|refine⟨aa,?_⟩)
    ·rcases R0 with ⟨_,rfl,rfl⟩|⟨_,_,_,_,rfl,rfl,_⟩ <;> rcases R2 with ⟨_,rfl,rfl⟩|⟨_,_,_,_,rfl,rfl,_⟩ <;> rcases R3 with ⟨_,rfl,rfl⟩|⟨_,_,_,_,rfl,rfl,_⟩ <;> (repeat first|exact aj|refine⟨aa,?_⟩|refine⟨ak (λl=>some (_,l)) (ba (by first|exact bW.dN (by assumption)|exact ah _|(rw[<-aQ];exact ah _)) _ _),?_⟩)
    ·rcases R0 with ⟨_,rfl,rfl⟩|⟨_,_,_,_,rfl,rfl,_⟩ <;> rcases R2 with ⟨_,rfl,rfl⟩|⟨_,_,_,_,rfl,rfl,_⟩ <;> rcases R3 with ⟨_,rfl,rfl⟩|⟨_,_,_,_,rfl,rfl,_⟩ <;> rfl
    ·rcases R0 with ⟨_,rfl,rfl⟩|⟨_,_,_,_,rfl,rfl,_⟩ <;> rcases R2 with ⟨_,rfl,rfl⟩|⟨_,_,_,_,rfl,rfl,_⟩ <;> rcases R3 with ⟨_,rfl,rfl⟩|⟨_,_,_,_,rfl,rfl,_⟩ <;> (repeat first|exact aj|refine⟨aq.lit aa,?_⟩|refine⟨bW.mg (by assumption),?_⟩|refine⟨aq.append (.vals _) (.vals _),?_⟩|refine⟨aq.vals _,?_⟩)
  clear R1;rintro F1 H1 v1 ⟨_,_,e1,e2,e3,e4,X1,M1,rfl,rfl,R1,kv1⟩;refine VS.narrow _ _ e1 e2 e3 e4 ?_;clear e1 e2 e3 e4 F1 H1;refine VS.mask [20,28,36,44] (by rcases R0 with ⟨_,rfl,rfl⟩|⟨_,_,_,_,rfl,rfl,_⟩ <;> rcases R1 with ⟨_,rfl,rfl⟩|⟨_,_,_,_,rfl,rfl,_⟩ <;> rcases R2 with ⟨_,rfl,rfl⟩|⟨_,_,_,_,rfl,rfl,_⟩ <;> rcases R3 with ⟨_,rfl,rfl⟩|⟨_,_,_,_,rfl,rfl,_⟩ <;> (repeat first|exact aj|refine⟨aa,?_⟩)) ?_;refine af ?_;refine VO.cond aa eh ?_;refine wV aa ?_;refine af ?_;refine VO.read aa [.bool sF,.slice pF nF cF,.bool tF,.slice yF mF dF] aa (bc hc 20 _ ⟨_,aa⟩) (wV aa ?_);refine af ?_
  apply VO.join (P:=Entry (λ_ L M w'=>∃ (Y:AV) (O:List (Nat×(TypeId×List AV))),L=[(0,.val (.slice (some ⟨b,off,none⟩) N c)),(2,.box 2 0),(3,X0),(4,X1),(5,Y),(6,X3),(7,.val (.int .i64 (z:Int)))]/\
   M=(2,(209,([.bool false,.slice none 0 0,.bool false,.slice none 0 0,.bool false,.slice none 0 0,.bool false,.slice none 0 0,.bool false,.slice none 0 0,.bool false,.slice none 0 0,.bool false,.slice none 0 0,.bool false,.slice none 0 0,.bool false,.slice none 0 0,.bool false,.slice none 0 0,.bool false,.slice none 0 0,.bool false,.slice none 0 0,.bool false,.slice none 0 0,.bool false,.slice none 0 0]:List Value).map .val))::(M0++(M1++(O++M3)))/\eF (iJ kk) 4 38 37 Y O w' ((l.map (·.xU)).take (z+1))/\Kp UU v1 w') 0)
  ·intro cont;have iq:(iJ kk) v1 [.bool sF,.slice pF nF cF,.bool tF,.slice yF mF dF] x.xU:=.mk ((hF.kp (Kp.of (U:=UU) bN)).k);rcases R2 with ⟨dJ,rfl,rfl⟩|⟨n',c',vs,sp,rfl,rfl,iU⟩
   ·refine VO.jg (cS _ _) (bV kk) (t:=147) (e:=38) (s:=36) (a:=x.xU) (cs:=[.bool sF,.slice pF nF cF,.bool tF,.slice yF mF dF]) aa aa aa aa aa aa aa aa (bF aa) aa (by rcases R0 with ⟨_,rfl,rfl⟩|⟨_,_,_,_,rfl,rfl,_⟩ <;> rcases R1 with ⟨_,rfl,rfl⟩|⟨_,_,_,_,rfl,rfl,_⟩ <;> rcases R3 with ⟨_,rfl,rfl⟩|⟨_,_,_,_,rfl,rfl,_⟩ <;> rfl) aa iq ae (λw8 cap sp k8 b8 gh=>wV aa (wN ?_));refine cont _ _ _ ⟨_,_,?_,?_,?_,?_,⟨_,_,aa,aa,.inr ⟨1,cap,_,sp,aa,aa,by rw[aI IU,dJ];exact gh⟩,bm⟩⟩
    ·rcases R0 with ⟨_,rfl,rfl⟩|⟨_,_,_,_,rfl,rfl,_⟩ <;> rcases R1 with ⟨_,rfl,rfl⟩|⟨_,_,_,_,rfl,rfl,_⟩ <;> rcases R3 with ⟨_,rfl,rfl⟩|⟨_,_,_,_,rfl,rfl,_⟩ <;> (repeat first|exact aj|refine⟨aa,?_⟩)
    ·rcases R0 with ⟨_,rfl,rfl⟩|⟨_,_,_,_,rfl,rfl,_⟩ <;> rcases R1 with ⟨_,rfl,rfl⟩|⟨_,_,_,_,rfl,rfl,_⟩ <;> rcases R3 with ⟨_,rfl,rfl⟩|⟨_,_,_,_,rfl,rfl,_⟩ <;> (repeat first|exact aj|refine⟨aa,?_⟩|refine⟨ak (λl=>some (_,l)) (ba (by first|exact bW.dN (by assumption)|exact ah _|(rw[<-aQ];exact ah _)) _ _),?_⟩)
    ·rcases R0 with ⟨_,rfl,rfl⟩|⟨_,_,_,_,rfl,rfl,_⟩ <;> rcases R1 with ⟨_,rfl,rfl⟩|⟨_,_,_,_,rfl,rfl,_⟩ <;> rcases R3 with ⟨_,rfl,rfl⟩|⟨_,_,_,_,rfl,rfl,_⟩ <;> rfl
    ·rcases R0 with ⟨_,rfl,rfl⟩|⟨_,_,_,_,rfl,rfl,_⟩ <;> rcases R1 with ⟨_,rfl,rfl⟩|⟨_,_,_,_,rfl,rfl,_⟩ <;> rcases R3 with ⟨_,rfl,rfl⟩|⟨_,_,_,_,rfl,rfl,_⟩ <;> (repeat first|exact aj|refine⟨aq.lit aa,?_⟩|refine⟨bW.mg (by assumption),?_⟩|refine⟨aq.append (.vals _) (.vals _),?_⟩|refine⟨aq.vals _,?_⟩)
   ·have nY:=iU.len;rw[cw] at nY;refine VO.jh (cS _ _) (bV kk) (t:=147) (e:=38) (s:=36) (i:=37) (n:=n') (c:=c') (vs:=vs) (sp:=sp) (es:=(l.map (·.xU)).take z) (a:=x.xU) (cs:=[.bool sF,.slice pF nF cF,.bool tF,.slice yF mF dF]) aa aa aa aa aa aa aa aa (bF aa) aa (.inr aa) (by rcases R0 with ⟨_,rfl,rfl⟩|⟨_,_,_,_,rfl,rfl,_⟩ <;> rcases R1 with ⟨_,rfl,rfl⟩|⟨_,_,_,_,rfl,rfl,_⟩ <;> rcases R3 with ⟨_,rfl,rfl⟩|⟨_,_,_,_,rfl,rfl,_⟩ <;> rfl) (iU.kp (bV kk) bm) aa iq ae (λw8 il qH ρ k8 b8 gH gh=>wV aa (wN ?_));refine cont _ _ _ ⟨_,_,?_,?_,?_,?_,⟨_,_,aa,aa,.inr ⟨n' +1,il,_,qH,aa,aa,by rw[aI IU];exact gh⟩,bm⟩⟩
    ·rcases R0 with ⟨_,rfl,rfl⟩|⟨_,_,_,_,rfl,rfl,_⟩ <;> rcases R1 with ⟨_,rfl,rfl⟩|⟨_,_,_,_,rfl,rfl,_⟩ <;> rcases R3 with ⟨_,rfl,rfl⟩|⟨_,_,_,_,rfl,rfl,_⟩ <;> (repeat first|exact aj|refine⟨aa,?_⟩)
    ·rcases R0 with ⟨_,rfl,rfl⟩|⟨_,_,_,_,rfl,rfl,_⟩ <;> rcases R1 with ⟨_,rfl,rfl⟩|⟨_,_,_,_,rfl,rfl,_⟩ <;> rcases R3 with ⟨_,rfl,rfl⟩|⟨_,_,_,_,rfl,rfl,_⟩ <;> (repeat first|exact aj|refine⟨aa,?_⟩|refine⟨ak (λl=>some (_,l)) (ba (by first|exact bW.dN (by assumption)|exact ah _|(rw[<-aQ];exact ah _)) _ _),?_⟩)
    ·rcases R0 with ⟨_,rfl,rfl⟩|⟨_,_,_,_,rfl,rfl,_⟩ <;> rcases R1 with ⟨_,rfl,rfl⟩|⟨_,_,_,_,rfl,rfl,_⟩ <;> rcases R3 with ⟨_,rfl,rfl⟩|⟨_,_,_,_,rfl,rfl,_⟩ <;> rfl
    ·rcases R0 with ⟨_,rfl,rfl⟩|⟨_,_,_,_,rfl,rfl,_⟩ <;> rcases R1 with ⟨_,rfl,rfl⟩|⟨_,_,_,_,rfl,rfl,_⟩ <;> rcases R3 with ⟨_,rfl,rfl⟩|⟨_,_,_,_,rfl,rfl,_⟩ <;> (repeat first|exact aj|refine⟨aq.lit aa,?_⟩|refine⟨bW.mg (by assumption),?_⟩|refine⟨aq.append (.vals _) (.vals _),?_⟩|refine⟨aq.vals _,?_⟩)
  clear R2;rintro F2 H2 v2 ⟨_,_,e1,e2,e3,e4,X2,M2,rfl,rfl,R2,kv2⟩;refine VS.narrow _ _ e1 e2 e3 e4 ?_;clear e1 e2 e3 e4 F2 H2;refine VS.mask [20,28,36,44] (by rcases R0 with ⟨_,rfl,rfl⟩|⟨_,_,_,_,rfl,rfl,_⟩ <;> rcases R1 with ⟨_,rfl,rfl⟩|⟨_,_,_,_,rfl,rfl,_⟩ <;> rcases R2 with ⟨_,rfl,rfl⟩|⟨_,_,_,_,rfl,rfl,_⟩ <;> rcases R3 with ⟨_,rfl,rfl⟩|⟨_,_,_,_,rfl,rfl,_⟩ <;> (repeat first|exact aj|refine⟨aa,?_⟩)) ?_;refine af ?_;refine VO.cond aa eh ?_;refine wV aa ?_;refine af ?_;refine VO.read aa [.bool sG,.slice pG nG cG,.bool tG,.slice yG mG dG] aa (bc hc 24 _ ⟨_,aa⟩) (wV aa ?_);refine af ?_
  apply VO.join (P:=Entry (λ_ L M w'=>∃ (Y:AV) (O:List (Nat×(TypeId×List AV))),L=[(0,.val (.slice (some ⟨b,off,none⟩) N c)),(2,.box 2 0),(3,X0),(4,X1),(5,X2),(6,Y),(7,.val (.int .i64 (z:Int)))]/\
   M=(2,(209,([.bool false,.slice none 0 0,.bool false,.slice none 0 0,.bool false,.slice none 0 0,.bool false,.slice none 0 0,.bool false,.slice none 0 0,.bool false,.slice none 0 0,.bool false,.slice none 0 0,.bool false,.slice none 0 0,.bool false,.slice none 0 0,.bool false,.slice none 0 0,.bool false,.slice none 0 0,.bool false,.slice none 0 0,.bool false,.slice none 0 0,.bool false,.slice none 0 0]:List Value).map .val))::(M0++(M1++(M2++O)))/\eF (iJ kk) 4 38 45 Y O w' ((l.map (·.own)).take (z+1))/\Kp UU v2 w') 0)
  ·intro cont;have iq:(iJ kk) v2 [.bool sG,.slice pG nG cG,.bool tG,.slice yG mG dG] x.own:=.mk ((hG.kp (Kp.of (U:=UU) bN)).k);rcases R3 with ⟨dJ,rfl,rfl⟩|⟨n',c',vs,sp,rfl,rfl,iU⟩
   ·refine VO.jg (cS _ _) (bV kk) (t:=147) (e:=38) (s:=44) (a:=x.own) (cs:=[.bool sG,.slice pG nG cG,.bool tG,.slice yG mG dG]) aa aa aa aa aa aa aa aa (bF aa) aa (by rcases R0 with ⟨_,rfl,rfl⟩|⟨_,_,_,_,rfl,rfl,_⟩ <;> rcases R1 with ⟨_,rfl,rfl⟩|⟨_,_,_,_,rfl,rfl,_⟩ <;> rcases R2 with ⟨_,rfl,rfl⟩|⟨_,_,_,_,rfl,rfl,_⟩ <;> rfl) aa iq ae (λw8 cap sp k8 b8 gh=>wV aa (wN ?_));refine cont _ _ _ ⟨_,_,?_,?_,?_,?_,⟨_,_,aa,aa,.inr ⟨1,cap,_,sp,aa,aa,by rw[aI hx3,dJ];exact gh⟩,bm⟩⟩
    ·rcases R0 with ⟨_,rfl,rfl⟩|⟨_,_,_,_,rfl,rfl,_⟩ <;> rcases R1 with ⟨_,rfl,rfl⟩|⟨_,_,_,_,rfl,rfl,_⟩ <;> rcases R2 with ⟨_,rfl,rfl⟩|⟨_,_,_,_,rfl,rfl,_⟩ <;> (repeat first|exact aj|refine⟨aa,?_⟩)
    ·rcases R0 with ⟨_,rfl,rfl⟩|⟨_,_,_,_,rfl,rfl,_⟩ <;> rcases R1 with ⟨_,rfl,rfl⟩|⟨_,_,_,_,rfl,rfl,_⟩ <;> rcases R2 with ⟨_,rfl,rfl⟩|⟨_,_,_,_,rfl,rfl,_⟩ <;> (repeat first|exact aj|refine⟨aa,?_⟩|refine⟨ak (λl=>some (_,l)) (ba (by first|exact bW.dN (by assumption)|exact ah _|(rw[<-aQ];exact ah _)) _ _),?_⟩)
    ·rcases R0 with ⟨_,rfl,rfl⟩|⟨_,_,_,_,rfl,rfl,_⟩ <;> rcases R1 with ⟨_,rfl,rfl⟩|⟨_,_,_,_,rfl,rfl,_⟩ <;> rcases R2 with ⟨_,rfl,rfl⟩|⟨_,_,_,_,rfl,rfl,_⟩ <;> rfl
    ·rcases R0 with ⟨_,rfl,rfl⟩|⟨_,_,_,_,rfl,rfl,_⟩ <;> rcases R1 with ⟨_,rfl,rfl⟩|⟨_,_,_,_,rfl,rfl,_⟩ <;> rcases R2 with ⟨_,rfl,rfl⟩|⟨_,_,_,_,rfl,rfl,_⟩ <;> (repeat first|exact aj|refine⟨aq.lit aa,?_⟩|refine⟨bW.mg (by assumption),?_⟩|refine⟨aq.append (.vals _) (.vals _),?_⟩|refine⟨aq.vals _,?_⟩)
   ·have nY:=iU.len;rw[cw] at nY;refine VO.jh (cS _ _) (bV kk) (t:=147) (e:=38) (s:=44) (i:=45) (n:=n') (c:=c') (vs:=vs) (sp:=sp) (es:=(l.map (·.own)).take z) (a:=x.own) (cs:=[.bool sG,.slice pG nG cG,.bool tG,.slice yG mG dG]) aa aa aa aa aa aa aa aa (bF aa) aa (.inr aa) (by rcases R0 with ⟨_,rfl,rfl⟩|⟨_,_,_,_,rfl,rfl,_⟩ <;> rcases R1 with ⟨_,rfl,rfl⟩|⟨_,_,_,_,rfl,rfl,_⟩ <;> rcases R2 with ⟨_,rfl,rfl⟩|⟨_,_,_,_,rfl,rfl,_⟩ <;> rfl) (iU.kp (bV kk) bm) aa iq ae (λw8 il qH ρ k8 b8 gH gh=>wV aa (wN ?_));refine cont _ _ _ ⟨_,_,?_,?_,?_,?_,⟨_,_,aa,aa,.inr ⟨n' +1,il,_,qH,aa,aa,by rw[aI hx3];exact gh⟩,bm⟩⟩
    ·rcases R0 with ⟨_,rfl,rfl⟩|⟨_,_,_,_,rfl,rfl,_⟩ <;> rcases R1 with ⟨_,rfl,rfl⟩|⟨_,_,_,_,rfl,rfl,_⟩ <;> rcases R2 with ⟨_,rfl,rfl⟩|⟨_,_,_,_,rfl,rfl,_⟩ <;> (repeat first|exact aj|refine⟨aa,?_⟩)
    ·rcases R0 with ⟨_,rfl,rfl⟩|⟨_,_,_,_,rfl,rfl,_⟩ <;> rcases R1 with ⟨_,rfl,rfl⟩|⟨_,_,_,_,rfl,rfl,_⟩ <;> rcases R2 with ⟨_,rfl,rfl⟩|⟨_,_,_,_,rfl,rfl,_⟩ <;> (repeat first|exact aj|refine⟨aa,?_⟩|refine⟨ak (λl=>some (_,l)) (ba (by first|exact bW.dN (by assumption)|exact ah _|(rw[<-aQ];exact ah _)) _ _),?_⟩)
    ·rcases R0 with ⟨_,rfl,rfl⟩|⟨_,_,_,_,rfl,rfl,_⟩ <;> rcases R1 with ⟨_,rfl,rfl⟩|⟨_,_,_,_,rfl,rfl,_⟩ <;> rcases R2 with ⟨_,rfl,rfl⟩|⟨_,_,_,_,rfl,rfl,_⟩ <;> rfl
    ·rcases R0 with ⟨_,rfl,rfl⟩|⟨_,_,_,_,rfl,rfl,_⟩ <;> rcases R1 with ⟨_,rfl,rfl⟩|⟨_,_,_,_,rfl,rfl,_⟩ <;> rcases R2 with ⟨_,rfl,rfl⟩|⟨_,_,_,_,rfl,rfl,_⟩ <;> (repeat first|exact aj|refine⟨aq.lit aa,?_⟩|refine⟨bW.mg (by assumption),?_⟩|refine⟨aq.append (.vals _) (.vals _),?_⟩|refine⟨aq.vals _,?_⟩)
  clear R3;rintro F3 H3 v3 ⟨_,_,e1,e2,e3,e4,X3,M3,rfl,rfl,R3,kv3⟩;refine VS.narrow _ _ e1 e2 e3 e4 ?_;clear e1 e2 e3 e4 F3 H3;refine VS.mask [20,28,36,44] (by rcases R0 with ⟨_,rfl,rfl⟩|⟨_,_,_,_,rfl,rfl,_⟩ <;> rcases R1 with ⟨_,rfl,rfl⟩|⟨_,_,_,_,rfl,rfl,_⟩ <;> rcases R2 with ⟨_,rfl,rfl⟩|⟨_,_,_,_,rfl,rfl,_⟩ <;> rcases R3 with ⟨_,rfl,rfl⟩|⟨_,_,_,_,rfl,rfl,_⟩ <;> (repeat first|exact aj|refine⟨aa,?_⟩)) ?_;refine af ?_;refine VS.back (N-(z+1)) ae ⟨_,_,?_,?_,?_,?_,⟨z+1,X0,X1,X2,X3,M0,M1,M2,M3,ae,aa,aa,aa,R0.kp (BS kk) bm,R1.kp (bV kk) bm,R2.kp (bV kk) bm,R3⟩⟩
  ·rcases R0 with ⟨_,rfl,rfl⟩|⟨_,_,_,_,rfl,rfl,_⟩ <;> rcases R1 with ⟨_,rfl,rfl⟩|⟨_,_,_,_,rfl,rfl,_⟩ <;> rcases R2 with ⟨_,rfl,rfl⟩|⟨_,_,_,_,rfl,rfl,_⟩ <;> rcases R3 with ⟨_,rfl,rfl⟩|⟨_,_,_,_,rfl,rfl,_⟩ <;> (refine⟨aa,aa,aa,aa,aa,aa,?_,aj⟩;rw[<-aA (i:=z) ae];rfl)
  ·rcases R0 with ⟨_,rfl,rfl⟩|⟨_,_,_,_,rfl,rfl,_⟩ <;> rcases R1 with ⟨_,rfl,rfl⟩|⟨_,_,_,_,rfl,rfl,_⟩ <;> rcases R2 with ⟨_,rfl,rfl⟩|⟨_,_,_,_,rfl,rfl,_⟩ <;> rcases R3 with ⟨_,rfl,rfl⟩|⟨_,_,_,_,rfl,rfl,_⟩ <;> (repeat first|exact aj|refine⟨aa,?_⟩|refine⟨ak (λl=>some (_,l)) (ba (by first|exact bW.dN (by assumption)|exact ah _|(rw[<-aQ];exact ah _)) _ _),?_⟩)
  ·rcases R0 with ⟨_,rfl,rfl⟩|⟨_,_,_,_,rfl,rfl,_⟩ <;> rcases R1 with ⟨_,rfl,rfl⟩|⟨_,_,_,_,rfl,rfl,_⟩ <;> rcases R2 with ⟨_,rfl,rfl⟩|⟨_,_,_,_,rfl,rfl,_⟩ <;> rcases R3 with ⟨_,rfl,rfl⟩|⟨_,_,_,_,rfl,rfl,_⟩ <;> rfl
  ·rcases R0 with ⟨_,rfl,rfl⟩|⟨_,_,_,_,rfl,rfl,_⟩ <;> rcases R1 with ⟨_,rfl,rfl⟩|⟨_,_,_,_,rfl,rfl,_⟩ <;> rcases R2 with ⟨_,rfl,rfl⟩|⟨_,_,_,_,rfl,rfl,_⟩ <;> rcases R3 with ⟨_,rfl,rfl⟩|⟨_,_,_,_,rfl,rfl,_⟩ <;> (repeat first|exact aj|refine⟨aq.lit aa,?_⟩|refine⟨bW.mg (by assumption),?_⟩|refine⟨aq.append (.vals _) (.vals _),?_⟩|refine⟨aq.vals _,?_⟩)
 ·refine VS.aO aa (az (λe=>hlt (aJ.1 e))) ?_;obtain rfl:z=N:=ae;rw[dM (by rw[bJ];omega)] at R0;rw[dM (by rw[bJ];omega)] at R1;rw[dM (by rw[bJ];omega)] at R2;rw[dM (by rw[bJ];omega)] at R3;refine af ?_;refine VO.eX aa (fk Tryz.func186) (λwb0 β kb0 bb0 ho=>(Qt _ (l.map (·.p)) kk wb0 (R0.GV (BS kk) ho (by intro q hq;rcases R0 with ⟨_,rfl,rfl⟩|⟨_,_,_,_,rfl,rfl,_⟩ <;> first|(cases hq;done)|(cases ay.1 hq;rfl)) bm) iy ae (by rw[bJ,<-hN,hst2];omega)).mono ?_);rintro o wc0 ⟨r0,rfl,q0,sj⟩;obtain⟨s0a,p0a,n0a,c0a,t0a,y0a,m0a,d0a,s0b,p0b,n0b,c0b,t0b,y0b,m0b,d0b,s0c,p0c,n0c,c0c,t0c,y0c,m0c,d0c,s0d,p0d,n0d,c0d,t0d,y0d,m0d,d0d,rfl,i1,i2,i3,i4⟩:=q0;refine aL sj ?_;intro kc0 _ bc0;refine VO.eX aa (fk Tryz.func187) (λwb1 β cQ bb1 ho=>(xI _ (l.map (·.due)) kk wb1 ((R1.GV (bV kk) ho (by intro q hq;rcases R0 with ⟨_,rfl,rfl⟩|⟨_,_,_,_,rfl,rfl,_⟩ <;> rcases R1 with ⟨_,rfl,rfl⟩|⟨_,_,_,_,rfl,rfl,_⟩ <;> first|(cases hq;done)|(cases ay.1 hq;rfl)) bm).rtot) (by rw[bJ,<-hN];omega)).mono ?_);rintro o wc1 ⟨r1,rfl,q1,zq1,aU⟩;obtain⟨s1,p1,n1,c1,t1,y1,m1,d1,rfl⟩:=q1.form;refine aL aU ?_;intro kc1 _ bc1;refine VO.eX aa (fk Tryz.func187) (λwb2 β dW bb2 ho=>(xI _ (l.map (·.xU)) kk wb2 ((R2.GV (bV kk) ho (by intro q hq;rcases R0 with ⟨_,rfl,rfl⟩|⟨_,_,_,_,rfl,rfl,_⟩ <;> rcases R1 with ⟨_,rfl,rfl⟩|⟨_,_,_,_,rfl,rfl,_⟩ <;> rcases R2 with ⟨_,rfl,rfl⟩|⟨_,_,_,_,rfl,rfl,_⟩ <;> first|(cases hq;done)|(cases ay.1 hq;rfl)) bm).rtot) (by rw[bJ,<-hN];omega)).mono ?_);rintro o wc2 ⟨r2,rfl,q2,zq2,bu⟩;obtain⟨s2,p2,n2,c2,t2,y2,m2,d2,rfl⟩:=q2.form;refine aL bu ?_;intro kc2 _ bc2;refine VO.eX aa (fk Tryz.func187) (λwb3 β eV bb3 ho=>(xI _ (l.map (·.own)) kk wb3 ((R3.GV (bV kk) ho (by intro q hq;rcases R0 with ⟨_,rfl,rfl⟩|⟨_,_,_,_,rfl,rfl,_⟩ <;> rcases R1 with ⟨_,rfl,rfl⟩|⟨_,_,_,_,rfl,rfl,_⟩ <;> rcases R2 with ⟨_,rfl,rfl⟩|⟨_,_,_,_,rfl,rfl,_⟩ <;> rcases R3 with ⟨_,rfl,rfl⟩|⟨_,_,_,_,rfl,rfl,_⟩ <;> first|(cases hq;done)|(cases ay.1 hq;rfl)) bm).rtot) (by rw[bJ,<-hN];omega)).mono ?_);rintro o wc3 ⟨r3,rfl,q3,zq3,dH⟩;obtain⟨s3,p3,n3,c3,t3,y3,m3,d3,rfl⟩:=q3.form;refine aL dH ?_;intro kc3 _ bc3
  have hps:zV (qY (l.map (·.p))) (bU kk z):=by
   rw[<-hst2]
   have:=Kt (j:=kk) (l.map (·.p)) (λx hx=>by
    obtain⟨y,hy,rfl⟩:=eG.1 hx;obtain⟨cs,⟨_,_,_,_,_,_,_,rfl,⟨sA,pA,nA,cA,tA,yA,mA,dA,rfl,hA⟩,⟨sB,pB,nB,cB,tB,yB,mB,dB,rfl,hB⟩,⟨sC,pC,nC,cC,tC,yC,mC,dC,rfl,hC⟩,⟨sD,pD,nD,cD,tD,yD,mD,dD,rfl,hD⟩,⟨sE,pE,nE,cE,tE,yE,mE,dE,rfl,hE⟩,⟨sF,pF,nF,cF,tF,yF,mF,dF,rfl,hF⟩,⟨sG,pG,nG,cG,tG,yG,mG,dG,rfl,hG⟩⟩⟩:=hv.mem hy;exact⟨hA.sz iy,hB.sz iy,hC.sz iy,hD.sz iy⟩)
   rw[bJ,<-hN] at this;exact this
  rw[bJ,<-hN] at zq1 zq2 zq3;refine aC ?_;intro wz kz bz;rw[Qz];exact⟨_,aa,⟨[.bool s0a,.slice p0a n0a c0a,.bool t0a,.slice y0a m0a d0a,.bool s0b,.slice p0b n0b c0b,.bool t0b,.slice y0b m0b d0b,.bool s0c,.slice p0c n0c c0c,.bool t0c,.slice y0c m0c d0c,.bool s0d,.slice p0d n0d c0d,.bool t0d,.slice y0d m0d d0d,.bool s1,.slice p1 n1 c1,.bool t1,.slice y1 m1 d1,.bool s2,.slice p2 n2 c2,.bool t2,.slice y2 m2 d2,.bool s3,.slice p3 n3 c3,.bool t3,.slice y3 m3 d3],aa,⟨_,_,_,_,_,_,_,aa,.mk i1.k hps.b,.mk i2.k hps.s,.mk i3.k hps.d,.mk i4.k hps.i,.mk q1.kr zq1,.mk q2.kr zq2,.mk q3.kr zq3⟩⟩,bz⟩
def xg (v:Value) (j:Nat):Prop:=∃ s p n c t r m d,v=.agg #[.bool s,.slice p n c,.bool t,.slice r m d]/\n<=j/\m<=j
theorem aG.le {q:Rat} {k j:Nat} (h:aG w v q k) (hl:xg v j):aG w v q j:=by
 obtain⟨s,xs,t,ys,hr,hq,_,_⟩:=h.inv;obtain⟨s',p',n',c',t',r',m',d',e',h1,h2⟩:=hl;have Gr:=hr;obtain⟨p,c,r,d,e,_⟩:=hr;rw[e] at e';simp only[Value.agg.injEq,Array.mk.injEq,List.cons.injEq,Value.slice.injEq,and_true] at e';exact⟨s,xs,t,ys,Gr,hq,ae,ae⟩
theorem iK (v:Value) (q:Rat) (k:Nat) (w:World) (hv:aG w v q k) (hk:k<=1073741824):
  Calls Tryz.prog 21 #[v] w λe w'=>∃ r,e=.returned r/\aG w' r q k/\aD w w':=by
 obtain⟨s,xs,t,ys,hr,hq,h1,h2⟩:=hv.inv;refine (jt s t xs ys v w hr ae ae).mono ?_;rintro e w' ⟨r,rfl,hn,hb⟩;exact⟨r,aa,⟨s,xs,t,ys,hn.raw,hq,h1,h2⟩,hb⟩
set_option maxRecDepth 4000
theorem fD (v:Value) (q:Rat) (k:Nat) (w:World) (hv:aG w v q k):
  Calls Tryz.prog 124 #[v] w λe w'=>∃ b,e=.returned (.bool b)/\(b=true->xg v 4)/\aD w w':=by
 obtain⟨s,xs,t,ys,hr,hq,h1,h2⟩:=hv.inv;have Gr:=hr;obtain⟨p,c,r,d,rfl,_,_⟩:=hr;refine ai (C:=bd Tryz.prog w _) (args:=[_]) tW aa Tryz.ntmps124 (bF aa) ?_;refine af ?_;by_cases hx:xs.length<=4
 ·refine VO.fix 8 aa (ak (λb=>AV.val (.bool b)) (aw (show (xs.length:Int)<=4 by omega))) ?_;refine af ?_;refine aC ?_;intro wz kz bz;refine⟨_,aa,λhb=>⟨_,_,_,_,_,_,_,_,aa,hx,?_⟩,bz⟩;have:=nO hb;omega
 ·refine VO.fix 8 aa (ak (λb=>AV.val (.bool b)) (az (show ¬ (xs.length:Int)<=4 by omega))) ?_;refine af ?_;refine aC ?_;intro wz kz bz;exact⟨_,aa,λhb=>(by cases hb),bz⟩
set_option maxRecDepth 4000 in
theorem VV (cs:List Value) (x:ik) (kk:Nat) (w:World) (hv:zy kk w cs x) (hk:kk<=1000000):
  Calls Tryz.prog 122 #[.agg cs.toArray] w λe w'=>∃ ds:List Value,e=.returned (.agg ds.toArray)/\zy kk w' ds x/\aD w w':=by
 obtain⟨_,_,_,_,_,_,_,rfl,⟨sA,pA,nA,cA,tA,yA,mA,dA,rfl,hA⟩,⟨sB,pB,nB,cB,tB,yB,mB,dB,rfl,hB⟩,⟨sC,pC,nC,cC,tC,yC,mC,dC,rfl,hC⟩,⟨sD,pD,nD,cD,tD,yD,mD,dD,rfl,hD⟩,⟨sE,pE,nE,cE,tE,yE,mE,dE,rfl,hE⟩,⟨sF,pF,nF,cF,tF,yF,mF,dF,rfl,hF⟩,⟨sG,pG,nG,cG,tG,yG,mG,dG,rfl,hG⟩⟩:=hv;refine ai (C:=bd Tryz.prog w _) (args:=[_]) Tryz.func122 aa Tryz.ntmps122 (bF aa) ?_;refine af ?_;refine VO.cR aa aa (fk mY) (λwa0 ka0 ba0=>iK _ x.p.b kk wa0 hA.k ae) (λwa0 ka0 ba0 w0 srA prA nrA crA trA yrA mrA drA qA sj kb0 _ bb0=>wV aa ?_);refine af ?_;refine VO.cR aa aa (fk mY) (λaK bE aX=>iK _ x.p.s kk aK hB.k ae) (λaK bE aX w1 srB prB nrB crB trB yrB mrB drB qB aU cQ _ bb1=>wV aa ?_);refine af ?_;refine VO.cR aa aa (fk mY) (λbf cK bK=>iK _ x.p.d kk bf hC.k ae) (λbf cK bK w2 srC prC nrC crC trC yrC mrC drC qC bu dW _ bb2=>wV aa ?_);refine af ?_;refine VO.cR aa aa (fk mY) (λcV dS ea=>iK _ x.p.i kk cV hD.k ae) (λcV dS ea w3 srD prD nrD crD trD yrD mrD drD qD dH eV _ bb3=>wV aa ?_);refine af ?_;refine VO.cR aa aa (fk mY) (λey eU fc=>iK _ x.due kk ey hE.k ae) (λey eU fc w4 srE prE nrE crE trE yrE mrE drE qE gj jc _ mw=>wV aa ?_);refine af ?_;refine VO.cR aa aa (fk mY) (λgn iz iZ=>iK _ x.xU kk gn hF.k ae) (λgn iz iZ w5 srF prF nrF crF trF yrF mrF drF qF je nw _ um=>wV aa ?_);refine af ?_;refine VO.cR aa aa (fk mY) (λjL my nV=>iK _ x.own kk jL hG.k ae) (λjL my nV w6 srG prG nrG crG trG yrG mrG drG qG oY sq _ xT=>wV aa ?_);refine af ?_;refine aC ?_;intro wz kz bz;exact⟨[.bool srA,.slice prA nrA crA,.bool trA,.slice yrA mrA drA,.bool srB,.slice prB nrB crB,.bool trB,.slice yrB mrB drB,.bool srC,.slice prC nrC crC,.bool trC,.slice yrC mrC drC,.bool srD,.slice prD nrD crD,.bool trD,.slice yrD mrD drD,.bool srE,.slice prE nrE crE,.bool trE,.slice yrE mrE drE,.bool srF,.slice prF nrF crF,.bool trF,.slice yrF mrF drF,.bool srG,.slice prG nrG crG,.bool trG,.slice yrG mrG drG],aa,⟨_,_,_,_,_,_,_,aa,.mk qA.k,.mk qB.k,.mk qC.k,.mk qD.k,.mk qE.k,.mk qF.k,.mk qG.k⟩,bz⟩
set_option maxRecDepth 4000 in
theorem zz (v u:Value) (x:ik) (j k:Nat) (w:World) (hv:AVal w v x j) (hu:AVal w u x k):
  Calls Tryz.prog 121 #[v,u] w λe w'=>e=.returned (.bool true)/\aD w w':=by
 obtain⟨_,rfl,⟨_,_,_,_,_,_,_,rfl,⟨sA,pA,nA,cA,tA,yA,mA,dA,rfl,hA⟩,⟨sB,pB,nB,cB,tB,yB,mB,dB,rfl,hB⟩,⟨sC,pC,nC,cC,tC,yC,mC,dC,rfl,hC⟩,⟨sD,pD,nD,cD,tD,yD,mD,dD,rfl,hD⟩,⟨sE,pE,nE,cE,tE,yE,mE,dE,rfl,hE⟩,⟨sF,pF,nF,cF,tF,yF,mF,dF,rfl,hF⟩,⟨sG,pG,nG,cG,tG,yG,mG,dG,rfl,hG⟩⟩⟩:=hv;obtain⟨_,rfl,⟨_,_,_,_,_,_,_,rfl,⟨srA,prA,nrA,crA,trA,yrA,mrA,drA,rfl,hrA⟩,⟨srB,prB,nrB,crB,trB,yrB,mrB,drB,rfl,hrB⟩,⟨srC,prC,nrC,crC,trC,yrC,mrC,drC,rfl,hrC⟩,⟨srD,prD,nrD,crD,trD,yrD,mrD,drD,rfl,hrD⟩,⟨srE,prE,nrE,crE,trE,yrE,mrE,drE,rfl,hrE⟩,⟨srF,prF,nrF,crF,trF,yrF,mrF,drF,rfl,hrF⟩,⟨srG,prG,nrG,crG,trG,yrG,mrG,drG,rfl,hrG⟩⟩⟩:=hu;obtain⟨gA,-⟩:=hA;obtain⟨grA,-⟩:=hrA;obtain⟨gB,-⟩:=hB;obtain⟨grB,-⟩:=hrB;obtain⟨gC,-⟩:=hC;obtain⟨grC,-⟩:=hrC;obtain⟨gD,-⟩:=hD;obtain⟨grD,-⟩:=hrD;obtain⟨gE,-⟩:=hE;obtain⟨grE,-⟩:=hrE;obtain⟨gF,-⟩:=hF;obtain⟨grF,-⟩:=hrF;obtain⟨gG,-⟩:=hG;obtain⟨grG,-⟩:=hrG;refine ai (C:=bd Tryz.prog w _) (args:=[_,_]) Tryz.func121 aa Tryz.ntmps121 (bF aa) ?_;refine af ?_;refine VO.cB aa aa (fk Bq) (λwa0 ka0 ba0=>mH x.p.b _ _ wa0 gA.k grA.k) (λwa0 ka0 ba0 w0 sj kb0 _ bb0=>wV aa ?_);refine af ?_;refine VO.cB aa aa (fk Bq) (λaK bE aX=>mH x.p.s _ _ aK gB.k grB.k) (λaK bE aX w1 aU cQ _ bb1=>wV aa ?_);refine af ?_;refine VO.cB aa aa (fk Bq) (λbf cK bK=>mH x.p.d _ _ bf gC.k grC.k) (λbf cK bK w2 bu dW _ bb2=>wV aa ?_);refine af ?_;refine VO.cB aa aa (fk Bq) (λcV dS ea=>mH x.p.i _ _ cV gD.k grD.k) (λcV dS ea w3 dH eV _ bb3=>wV aa ?_);refine af ?_;refine VO.cB aa aa (fk Bq) (λey eU fc=>mH x.due _ _ ey gE.k grE.k) (λey eU fc w4 gj jc _ mw=>wV aa ?_);refine af ?_;refine VO.cB aa aa (fk Bq) (λgn iz iZ=>mH x.xU _ _ gn gF.k grF.k) (λgn iz iZ w5 je nw _ um=>wV aa ?_);refine af ?_;refine VO.cB aa aa (fk Bq) (λjL my nV=>mH x.own _ _ jL gG.k grG.k) (λjL my nV w6 oY sq _ xT=>wV aa ?_);refine af ?_;refine aC ?_;intro wz kz bz;exact⟨aa,bz⟩
theorem ain_le {x:ik} {sA pA nA cA tA yA mA dA:_} {sB pB nB cB tB yB mB dB:_} {sC pC nC cC tC yC mC dC:_} {sD pD nD cD tD yD mD dD:_} {sE pE nE cE tE yE mE dE:_} {sF pF nF cF tF yF mF dF:_} {sG pG nG cG tG yG mG dG:_} (hA:aG w (.agg #[.bool sA,.slice pA nA cA,.bool tA,.slice yA mA dA]) x.p.b kk) (lA:xg (.agg #[.bool sA,.slice pA nA cA,.bool tA,.slice yA mA dA]) 4) (hB:aG w (.agg #[.bool sB,.slice pB nB cB,.bool tB,.slice yB mB dB]) x.p.s kk) (lB:xg (.agg #[.bool sB,.slice pB nB cB,.bool tB,.slice yB mB dB]) 4) (hC:aG w (.agg #[.bool sC,.slice pC nC cC,.bool tC,.slice yC mC dC]) x.p.d kk) (lC:xg (.agg #[.bool sC,.slice pC nC cC,.bool tC,.slice yC mC dC]) 4) (hD:aG w (.agg #[.bool sD,.slice pD nD cD,.bool tD,.slice yD mD dD]) x.p.i kk) (lD:xg (.agg #[.bool sD,.slice pD nD cD,.bool tD,.slice yD mD dD]) 4) (hE:aG w (.agg #[.bool sE,.slice pE nE cE,.bool tE,.slice yE mE dE]) x.due kk) (lE:xg (.agg #[.bool sE,.slice pE nE cE,.bool tE,.slice yE mE dE]) 4) (hF:aG w (.agg #[.bool sF,.slice pF nF cF,.bool tF,.slice yF mF dF]) x.xU kk) (lF:xg (.agg #[.bool sF,.slice pF nF cF,.bool tF,.slice yF mF dF]) 4) (hG:aG w (.agg #[.bool sG,.slice pG nG cG,.bool tG,.slice yG mG dG]) x.own kk) (lG:xg (.agg #[.bool sG,.slice pG nG cG,.bool tG,.slice yG mG dG]) 4):zy 4 w [.bool sA,.slice pA nA cA,.bool tA,.slice yA mA dA,.bool sB,.slice pB nB cB,.bool tB,.slice yB mB dB,.bool sC,.slice pC nC cC,.bool tC,.slice yC mC dC,.bool sD,.slice pD nD cD,.bool tD,.slice yD mD dD,.bool sE,.slice pE nE cE,.bool tE,.slice yE mE dE,.bool sF,.slice pF nF cF,.bool tF,.slice yF mF dF,.bool sG,.slice pG nG cG,.bool tG,.slice yG mG dG] x:=
 ⟨_,_,_,_,_,_,_,rfl,.mk (hA.le lA),.mk (hB.le lB),.mk (hC.le lC),.mk (hD.le lD),.mk (hE.le lE),.mk (hF.le lF),.mk (hG.le lG)⟩
set_option maxRecDepth 4000 in
theorem vB (v:Value) (l:List ik) (kk:Nat) (w:World) (hv:bh (zy kk) 28 w v l):
  Calls Tryz.prog 53 #[v] w λe w'=>e=.returned (.bool true)/\aD w w':=by
 obtain⟨p,c,rfl,eS,gv⟩:=hv.form;obtain⟨N,hN⟩:∃ N,N=l.length:=⟨_,aa⟩;rw[<-hN] at hv eS;rw[<-hN];refine ai (C:=bd Tryz.prog w _) (args:=[_]) Tryz.func53 aa Tryz.ntmps53 (bF aa) ?_;refine af ?_;refine VS.loop (J:=λm L M w'=>∃ (z:Nat) (X:AV) (Mi:List (Nat×(TypeId×List AV))),z<=N/\z<=6/\m=N-z/\L=[(0,.val (.slice p N c)),(3,X),(4,.val (.int .i64 (z:Int)))]/\M=Mi/\eF (zy 4) 28 209 69 X Mi w' (l.take z)/\kx (zy 4) 28 w p l z) N ⟨_,_,?_,?_,?_,?_,⟨0,_,[],ae,ae,aa,aa,aa,.inl ⟨aa,aa,aa⟩,kx.zero⟩⟩ ?_
 ·exact di
 ·exact di
 ·rfl
 ·exact fv
 rintro m L M wJ ⟨z,X,Mi,hz,hz6,rfl,rfl,rfl,hR,IC⟩;refine VS.mask [5,68] (by rcases hR with ⟨_,rfl,rfl⟩|⟨_,_,_,_,rfl,rfl,_⟩ <;> (repeat first|exact aj|refine⟨aa,?_⟩)) ?_;refine af ?_;by_cases hlt:z<N
 ·obtain⟨x,hx⟩:∃ x,l[z]? =some x:=⟨_,bj ae⟩;obtain⟨b,off,jU,rfl,hc,⟨_,_,_,_,_,_,_,rfl,⟨sA,pA,nA,cA,tA,yA,mA,dA,rfl,hA⟩,⟨sB,pB,nB,cB,tB,yB,mB,dB,rfl,hB⟩,⟨sC,pC,nC,cC,tC,yC,mC,dC,rfl,hC⟩,⟨sD,pD,nD,cD,tD,yD,mD,dD,rfl,hD⟩,⟨sE,pE,nE,cE,tE,yE,mE,dE,rfl,hE⟩,⟨sF,pF,nF,cF,tF,yF,mF,dF,rfl,hF⟩,⟨sG,pG,nG,cG,tG,yG,mG,dG,rfl,hG⟩⟩⟩:=hv.at hx;refine VS.aR aa (aw (aJ.2 hlt)) ?_;refine af ?_;refine VO.cond aa eh ?_;refine wV aa ?_;refine af ?_;refine VO.read aa [.bool sA,.slice pA nA cA,.bool tA,.slice yA mA dA,.bool sB,.slice pB nB cB,.bool tB,.slice yB mB dB,.bool sC,.slice pC nC cC,.bool tC,.slice yC mC dC,.bool sD,.slice pD nD cD,.bool tD,.slice yD mD dD,.bool sE,.slice pE nE cE,.bool tE,.slice yE mE dE,.bool sF,.slice pF nF cF,.bool tF,.slice yF mF dF,.bool sG,.slice pG nG cG,.bool tG,.slice yG mG dG] aa (bc hc 0 _ ⟨[],aa⟩) (wV aa ?_);refine af ?_;by_cases h5:(z:Int)>5
  ·refine VO.fix 18 aa (ak (λb=>AV.val (.bool b)) (aw h5)) ?_;refine af ?_;refine VO.cB aa aa (fk jH) (λwa30 ka30 ba30=>cY wa30) (λwa30 ka30 ba30 w30 hb30 kb30 _ bb30=>wV aa ?_);refine af ?_;refine aC ?_;intro wz kz bz;exact⟨aa,bz⟩
  refine VO.fix 18 aa (ak (λb=>AV.val (.bool b)) (az h5)) ?_;refine af ?_;refine VO.call aa aa (fk tW) (λwa0 ka0 ba0=>(fD _ x.p.b kk wa0 (hA.kp (Kp.of (U:=UU) ba0))).mono ?_);rintro e w0 ⟨b0,rfl,lA,sj⟩;cases b0 with
  | false=>
    refine aL sj ?_;intro kb0 _ bb0;refine VO.cB aa aa (fk jH) (λVW ka20 ba20=>cY VW) (λVW ka20 ba20 w20 NX kb20 _ bb20=>wV aa ?_);refine af ?_;refine aC ?_;intro wz kz bz;exact⟨aa,bz⟩
  | true=>
    refine aL sj ?_;intro kb0 _ bb0;replace lA:=lA aa;refine VO.call aa aa (fk tW) (λaK bE aX=>(fD _ x.p.s kk aK (hB.kp (Kp.of (U:=UU) aX))).mono ?_);rintro e w1 ⟨b1,rfl,lB,aU⟩;cases b1 with
    | false=>
      refine aL aU ?_;intro cQ _ bb1;refine VO.cB aa aa (fk jH) (λKA ka21 VX=>cY KA) (λKA ka21 VX w21 hb21 kb21 _ bb21=>wV aa ?_);refine af ?_;refine aC ?_;intro wz kz bz;exact⟨aa,bz⟩
    | true=>
      refine aL aU ?_;intro cQ _ bb1;replace lB:=lB aa;refine VO.call aa aa (fk tW) (λbf cK bK=>(fD _ x.p.d kk bf (hC.kp (Kp.of (U:=UU) bK))).mono ?_);rintro e w2 ⟨b2,rfl,lC,bu⟩;cases b2 with
      | false=>
        refine aL bu ?_;intro dW _ bb2;refine VO.cB aa aa (fk jH) (λQI ka22 ba22=>cY QI) (λQI ka22 ba22 w22 hb22 kb22 _ bb22=>wV aa ?_);refine af ?_;refine aC ?_;intro wz kz bz;exact⟨aa,bz⟩
      | true=>
        refine aL bu ?_;intro dW _ bb2;replace lC:=lC aa;refine VO.call aa aa (fk tW) (λcV dS ea=>(fD _ x.p.i kk cV (hD.kp (Kp.of (U:=UU) ea))).mono ?_);rintro e w3 ⟨b3,rfl,lD,dH⟩;cases b3 with
        | false=>
          refine aL dH ?_;intro eV _ bb3;refine VO.cB aa aa (fk jH) (λVY ka23 ba23=>cY VY) (λVY ka23 ba23 w23 hb23 kb23 _ bb23=>wV aa ?_);refine af ?_;refine aC ?_;intro wz kz bz;exact⟨aa,bz⟩
        | true=>
          refine aL dH ?_;intro eV _ bb3;replace lD:=lD aa;refine VO.call aa aa (fk tW) (λey eU fc=>(fD _ x.due kk ey (hE.kp (Kp.of (U:=UU) fc))).mono ?_);rintro e w4 ⟨b4,rfl,lE,gj⟩;cases b4 with
          | false=>
            refine aL gj ?_;intro jc _ mw;refine VO.cB aa aa (fk jH) (λwa24 ka24 ba24=>cY wa24) (λwa24 ka24 ba24 w24 hb24 kb24 _ bb24=>wV aa ?_);refine af ?_;refine aC ?_;intro wz kz bz;exact⟨aa,bz⟩
          | true=>
            refine aL gj ?_;intro jc _ mw;replace lE:=lE aa;refine VO.call aa aa (fk tW) (λgn iz iZ=>(fD _ x.xU kk gn (hF.kp (Kp.of (U:=UU) iZ))).mono ?_);rintro e w5 ⟨b5,rfl,lF,je⟩;cases b5 with
            | false=>
              refine aL je ?_;intro nw _ um;refine VO.cB aa aa (fk jH) (λwa25 ka25 ba25=>cY wa25) (λwa25 ka25 ba25 w25 hb25 kb25 _ bb25=>wV aa ?_);refine af ?_;refine aC ?_;intro wz kz bz;exact⟨aa,bz⟩
            | true=>
              refine aL je ?_;intro nw _ um;replace lF:=lF aa;refine VO.call aa aa (fk tW) (λjL my nV=>(fD _ x.own kk jL (hG.kp (Kp.of (U:=UU) nV))).mono ?_);rintro e w6 ⟨b6,rfl,lG,oY⟩;cases b6 with
              | false=>
                refine aL oY ?_;intro sq _ xT;refine VO.cB aa aa (fk jH) (λQJ ka26 ba26=>cY QJ) (λQJ ka26 ba26 w26 hb26 kb26 _ bb26=>wV aa ?_);refine af ?_;refine aC ?_;intro wz kz bz;exact⟨aa,bz⟩
              | true=>
                refine aL oY ?_;intro sq _ xT;replace lG:=lG aa;have lV:zy 4 w [.bool sA,.slice pA nA cA,.bool tA,.slice yA mA dA,.bool sB,.slice pB nB cB,.bool tB,.slice yB mB dB,.bool sC,.slice pC nC cC,.bool tC,.slice yC mC dC,.bool sD,.slice pD nD cD,.bool tD,.slice yD mD dD,.bool sE,.slice pE nE cE,.bool tE,.slice yE mE dE,.bool sF,.slice pF nF cF,.bool tF,.slice yF mF dF,.bool sG,.slice pG nG cG,.bool tG,.slice yG mG dG] x:=ain_le hA lA hB lB hC lC hD lD hE lE hF lF hG lG;refine VO.call aa aa (fk Tryz.func122) (λtd Cr xG=>(VV [.bool sA,.slice pA nA cA,.bool tA,.slice yA mA dA,.bool sB,.slice pB nB cB,.bool tB,.slice yB mB dB,.bool sC,.slice pC nC cC,.bool tC,.slice yC mC dC,.bool sD,.slice pD nD cD,.bool tD,.slice yD mD dD,.bool sE,.slice pE nE cE,.bool tE,.slice yE mE dE,.bool sF,.slice pF nF cF,.bool tF,.slice yF mF dF,.bool sG,.slice pG nG cG,.bool tG,.slice yG mG dG] x 4 td ((re 4).b lV xG) ae).mono ?_);rintro e w8 ⟨ds,rfl,q8,Bz⟩;obtain⟨_,_,_,_,_,_,_,rfl,⟨srA,prA,nrA,crA,trA,yrA,mrA,drA,rfl,grA⟩,⟨srB,prB,nrB,crB,trB,yrB,mrB,drB,rfl,grB⟩,⟨srC,prC,nrC,crC,trC,yrC,mrC,drC,rfl,grC⟩,⟨srD,prD,nrD,crD,trD,yrD,mrD,drD,rfl,grD⟩,⟨srE,prE,nrE,crE,trE,yrE,mrE,drE,rfl,grE⟩,⟨srF,prF,nrF,crF,trF,yrF,mrF,drF,rfl,grF⟩,⟨srG,prG,nrG,crG,trG,yrG,mrG,drG,rfl,grG⟩⟩:=q8;refine aL Bz ?_;intro Cs _ Sw;have iq:zy 4 w8 [.bool srA,.slice prA nrA crA,.bool trA,.slice yrA mrA drA,.bool srB,.slice prB nrB crB,.bool trB,.slice yrB mrB drB,.bool srC,.slice prC nrC crC,.bool trC,.slice yrC mrC drC,.bool srD,.slice prD nrD crD,.bool trD,.slice yrD mrD drD,.bool srE,.slice prE nrE crE,.bool trE,.slice yrE mrE drE,.bool srF,.slice prF nrF crF,.bool trF,.slice yrF mrF drF,.bool srG,.slice prG nrG crG,.bool trG,.slice yrG mrG drG] x:=⟨_,_,_,_,_,_,_,aa,.mk grA,.mk grB,.mk grC,.mk grD,.mk grE,.mk grF,.mk grG⟩;have hup':=IC.snoc hx hc lV;rcases hR with ⟨dJ,rfl,rfl⟩|⟨n',c',vs,sp,rfl,rfl,iU⟩
                ·refine VO.jg (cS _ _) (re 4) (t:=192) (e:=209) (s:=68) (a:=x) (cs:=[.bool srA,.slice prA nrA crA,.bool trA,.slice yrA mrA drA,.bool srB,.slice prB nrB crB,.bool trB,.slice yrB mrB drB,.bool srC,.slice prC nrC crC,.bool trC,.slice yrC mrC drC,.bool srD,.slice prD nrD crD,.bool trD,.slice yrD mrD drD,.bool srE,.slice prE nrE crE,.bool trE,.slice yrE mrE drE,.bool srF,.slice prF nrF crF,.bool trF,.slice yrF mrF drF,.bool srG,.slice prG nrG crG,.bool trG,.slice yrG mrG drG]) aa aa aa aa aa aa aa aa (bF aa) aa aa aa iq ae (λw9 cap sp k9 b9 gh=>wV aa ?_);refine af ?_;refine VS.back (N-(z+1)) ae ⟨_,_,?_,?_,?_,?_,⟨z+1,_,_,ae,ae,aa,aa,aa,.inr ⟨1,cap,_,sp,aa,aa,by rw[aI hx,dJ];exact gh⟩,hup'⟩⟩
                 ·refine⟨aa,aa,?_,aj⟩;rw[<-aA (i:=z) ae];rfl
                 ·(repeat first|exact aj|refine⟨aa,?_⟩|refine⟨ak (λl=>some (_,l)) (ba (by first|exact bW.dN (by assumption)|exact ah _|(rw[<-aQ];exact ah _)) _ _),?_⟩)
                 ·rfl
                 ·(repeat first|exact aj|refine⟨aq.lit aa,?_⟩|refine⟨bW.mg (by assumption),?_⟩|refine⟨aq.append (.vals _) (.vals _),?_⟩|refine⟨aq.vals _,?_⟩)
                ·have nY:=iU.len;rw[cw] at nY;refine VO.jh (cS _ _) (re 4) (t:=192) (e:=209) (s:=68) (i:=69) (n:=n') (c:=c') (vs:=vs) (sp:=sp) (es:=l.take z) (a:=x) (cs:=[.bool srA,.slice prA nrA crA,.bool trA,.slice yrA mrA drA,.bool srB,.slice prB nrB crB,.bool trB,.slice yrB mrB drB,.bool srC,.slice prC nrC crC,.bool trC,.slice yrC mrC drC,.bool srD,.slice prD nrD crD,.bool trD,.slice yrD mrD drD,.bool srE,.slice prE nrE crE,.bool trE,.slice yrE mrE drE,.bool srF,.slice prF nrF crF,.bool trF,.slice yrF mrF drF,.bool srG,.slice prG nrG crG,.bool trG,.slice yrG mrG drG]) aa aa aa aa aa aa aa aa (bF aa) aa (.inr aa) aa (iU.kp (re 4) bm) aa iq ae (λw9 il qH ρ k9 b9 gH gh=>wV aa ?_);refine af ?_;refine VS.back (N-(z+1)) ae ⟨_,_,?_,?_,?_,?_,⟨z+1,_,_,ae,ae,aa,aa,aa,.inr ⟨n' +1,il,_,qH,aa,aa,by rw[aI hx];exact gh⟩,hup'⟩⟩
                 ·refine⟨aa,aa,?_,aj⟩;rw[<-aA (i:=z) ae];rfl
                 ·(repeat first|exact aj|refine⟨aa,?_⟩|refine⟨ak (λl=>some (_,l)) (ba (by first|exact bW.dN (by assumption)|exact ah _|(rw[<-aQ];exact ah _)) _ _),?_⟩)
                 ·rfl
                 ·(repeat first|exact aj|refine⟨aq.lit aa,?_⟩|refine⟨bW.mg (by assumption),?_⟩|refine⟨aq.append (.vals _) (.vals _),?_⟩|refine⟨aq.vals _,?_⟩)
 ·refine VS.aO aa (az (λe=>hlt (aJ.1 e))) ?_;obtain rfl:z=N:=ae;rw[dM ae] at hR;have sL:bh (zy 4) 28 w (.slice p z c) l:=IC.all hv;refine af ?_;refine VO.call aa aa (fk Tryz.func123) (λaK bE aX=>(NW _ l 4 aK (sL.bS (re 4) aX) ae ae ae).mono ?_);rintro e w1 ⟨r1,rfl,q1,aU⟩;obtain⟨_,rfl,⟨_,_,_,_,_,_,_,rfl,⟨sA,pA,nA,cA,tA,yA,mA,dA,rfl,gA⟩,⟨sB,pB,nB,cB,tB,yB,mB,dB,rfl,gB⟩,⟨sC,pC,nC,cC,tC,yC,mC,dC,rfl,gC⟩,⟨sD,pD,nD,cD,tD,yD,mD,dD,rfl,gD⟩,⟨sE,pE,nE,cE,tE,yE,mE,dE,rfl,gE⟩,⟨sF,pF,nF,cF,tF,yF,mF,dF,rfl,gF⟩,⟨sG,pG,nG,cG,tG,yG,mG,dG,rfl,gG⟩⟩⟩:=q1;refine aL aU ?_;intro cQ _ bb1;refine VO.eX aa (fk Tryz.func125) (λbf β cK bK ho=>(VU _ l 4 bf (hR.GV (re 4) ho (by intro q hq;rcases hR with ⟨_,rfl,rfl⟩|⟨_,_,_,_,rfl,rfl,_⟩ <;> first|(cases hq;done)|(cases ay.1 hq;rfl)) bm) ae ae ae).mono ?_);rintro o w2 ⟨r2,rfl,q2,bu⟩;obtain⟨_,rfl,⟨_,_,_,_,_,_,_,rfl,⟨srA,prA,nrA,crA,trA,yrA,mrA,drA,rfl,grA⟩,⟨srB,prB,nrB,crB,trB,yrB,mrB,drB,rfl,grB⟩,⟨srC,prC,nrC,crC,trC,yrC,mrC,drC,rfl,grC⟩,⟨srD,prD,nrD,crD,trD,yrD,mrD,drD,rfl,grD⟩,⟨srE,prE,nrE,crE,trE,yrE,mrE,drE,rfl,grE⟩,⟨srF,prF,nrF,crF,trF,yrF,mrF,drF,rfl,grF⟩,⟨srG,prG,nrG,crG,trG,yrG,mrG,drG,rfl,grG⟩⟩⟩:=q2;refine aL bu ?_;intro dW _ bb2;refine VO.cB aa aa (fk Tryz.func121) (λcV dS ea=>zz _ _ (wx l) (eP 4 l.length) (bU 4 l.length) cV ⟨_,aa,⟨_,_,_,_,_,_,_,aa,.mk gA.1.k gA.2,.mk gB.1.k gB.2,.mk gC.1.k gC.2,.mk gD.1.k gD.2,.mk gE.1.k gE.2,.mk gF.1.k gF.2,.mk gG.1.k gG.2⟩⟩ ⟨_,aa,⟨_,_,_,_,_,_,_,aa,.mk grA.1.k grA.2,.mk grB.1.k grB.2,.mk grC.1.k grC.2,.mk grD.1.k grD.2,.mk grE.1.k grE.2,.mk grF.1.k grF.2,.mk grG.1.k grG.2⟩⟩) (λcV dS ea w3 dH eV _ bb3=>wV aa ?_);refine af ?_;refine VO.cB aa aa (fk jH) (λey eU fc=>cY ey) (λey eU fc w4 gj jc _ mw=>wV aa ?_);refine af ?_;refine aC ?_;intro wz kz bz;exact⟨aa,bz⟩
set_option maxRecDepth 4000
theorem fu.le {k:Nat} {n:Nat} {q:Rat} (h0:k<256) (h:aG w (.agg #[.bool s,.slice p n c,.bool t,.slice y m d]) q kk) (l:xg (.agg #[.bool s,.slice p n c,.bool t,.slice y m d]) 4):fu 4 w [.string nm,.int .u8 (k:Int),.bool s,.slice p n c,.bool t,.slice y m d] (k,q):=.mk h0 (h.le l)
theorem VS.hop {C:Cx} {Q:Exit->Act->World->Prop} {F:Fr} {H:Hp} {P:Fr->Hp->World->Prop} {stk0 stk1:List It} (h1:(∀ F' H' w',P F' H' w'->VS C Q stk1 F' H' w')->VS C Q stk0 F H w) (h2:∀ F' H' w',P F' H' w'->VS C Q stk1 F' H' w'):VS C Q stk0 F H w:=h1 h2
def FewA (w:World) (u v:Value) (cs:List iT) (ts:List (List (List Rat))):Prop:=bh (fu 4) 6 w u cs/\bh (gI 4) 1 w v ts/\cs.length<=12/\(ts.length<=6\/40<ts.length/\ts.length<50)
theorem cP {b off z:Nat} (hc:∀ (j:Nat) (u:Value),[v][j]? =some u->w.cell? ⟨b,off+z*1+j,none⟩=some u):∀ (j:Nat) (u:Value),[v][j]? =some u->w.cell? ((⟨b,off+((z:Nat):Int).toNat*1,none⟩:Addr).add j)=some u:=λj u hj=>by rw[Addr.add_mid,dV];exact hc j u hj
set_option maxRecDepth 4000 in
theorem Jl (u v:Value) (cs:List iT) (ts:List (List (List Rat))) (kk:Nat) (w0 w:World) (hu:bh (fu kk) 6 w0 u cs) (hv:bh (gI kk) 1 w0 v ts) (h0:aD w0 w):
  Calls Tryz.prog 112 #[u,v] w λe w'=>∃ b,e=.returned (.bool b)/\(b=true->FewA w0 u v cs ts)/\aD w w':=by
 obtain⟨p,c,rfl,eS,gv⟩:=hu.form;obtain⟨p2,c2,rfl,CP,GW⟩:=hv.form;obtain⟨N,hN⟩:∃ N,N=cs.length:=⟨_,aa⟩;obtain⟨T,hT⟩:∃ T,T=ts.length:=⟨_,aa⟩;rw[<-hN] at hu eS;rw[<-hT] at hv CP;rw[<-hN,<-hT];refine ai (C:=bd Tryz.prog w _) (args:=[_,_]) Tryz.func112 aa Tryz.ntmps112 (bF aa) ?_;refine af ?_;refine VS.loop (J:=λm L M w'=>∃ z:Nat,z<=N/\z<=13/\m=N-z/\L=[(0,.val (.slice p N c)),(1,.val (.slice p2 T c2)),(5,.val (.int .i64 (z:Int)))]/\M=[]/\kx (fu 4) 6 w0 p cs z) N ⟨_,_,?_,?_,?_,?_,⟨0,ae,ae,aa,aa,aa,kx.zero⟩⟩ ?_
 ·exact di
 ·exact di
 ·rfl
 ·exact fv
 rintro m L M wJ ⟨z,hz,hz13,rfl,rfl,rfl,IC⟩;apply VS.hop (P:=λF' H' w'=>Entry (λm L M w'=>∃ i:Nat,i<=T/\i<=50/\m=T-i/\L=[(0,.val (.slice p N c)),(1,.val (.slice p2 T c2)),(6,.val (.int .i64 (i:Int)))]/\M=[]/\kx (gI 4) 1 w0 p2 ts i) T F' H' w'/\(N<=12->bh (fu 4) 6 w0 (.slice p N c) cs))
 ·intro cont;refine af ?_;by_cases hlt:z<N
  ·refine VO.fix 13 aa (ak (λb=>AV.val (.bool b)) (aw (aJ.2 hlt))) ?_;refine af ?_;by_cases h13:(z:Int)<13
   ·refine VS.aR aa (aw h13) ?_;obtain⟨x,hx⟩:∃ x,cs[z]? =some x:=⟨_,bj ae⟩;obtain⟨b,off,csx,rfl,hc,⟨nm,s,pp,n,cc,t,y,mm,d,rfl,rb,hr⟩⟩:=hu.at hx;refine af ?_;refine VO.cond aa eh ?_;refine wV aa ?_;refine af ?_;refine VO.read aa [.bool s,.slice pp n cc,.bool t,.slice y mm d] aa (bc (λj u hj=>h0.cell (hc j u hj)) 2 _ ⟨[],aa⟩) (wV aa ?_);refine af ?_;refine VO.call aa aa (fk tW) (λaK bE aX=>(fD _ x.2 kk aK (hr.kp (Kp.of (U:=UU) (h0.aN aX)))).mono ?_);rintro e w1 ⟨b1,rfl,l1,aU⟩;cases b1 with
    | false=>
      refine aL aU ?_;intro cQ _ bb1;refine aC ?_;intro wz kz bz;exact⟨_,aa,λh=>(by cases h),bz⟩
    | true=>
      refine aL aU ?_;intro cQ _ bb1;refine VS.back (N-(z+1)) ae ⟨_,_,?_,?_,?_,?_,⟨z+1,ae,ae,aa,aa,aa,IC.snoc hx hc (fu.le rb hr (l1 aa))⟩⟩
      ·refine⟨aa,aa,?_,aj⟩;rw[<-aA (i:=z) ae];rfl
      ·exact di
      ·rfl
      ·exact fv
   ·refine VS.aO aa (az h13) ?_;refine af ?_;refine cont _ _ _ ⟨⟨_,_,?_,?_,?_,?_,⟨0,ae,ae,aa,aa,aa,kx.zero⟩⟩,λh=>absurd h ae⟩
    ·exact di
    ·exact di
    ·rfl
    ·exact fv
  ·refine VO.fix 13 aa (ak (λb=>AV.val (.bool b)) (az (λe=>hlt (aJ.1 e)))) ?_;refine af ?_;refine cont _ _ _ ⟨⟨_,_,?_,?_,?_,?_,⟨0,ae,ae,aa,aa,aa,kx.zero⟩⟩,λ_=>kx.all (show kx (fu 4) 6 w0 p cs N from (show z=N by omega)▸IC) hu⟩
   ·exact di
   ·exact di
   ·rfl
   ·exact fv
 rintro F1 H1 w1 ⟨hent,kP⟩;clear IC;refine VS.loop T hent ?_;rintro m L M wK ⟨i,hi,hi50,rfl,rfl,rfl,IC⟩;refine af ?_;by_cases hex:i<T/\i<50
 ·obtain⟨hlt,hl5⟩:=hex;refine VO.fix 30 aa (ak (λb=>AV.val (.bool b)) (aw (aJ.2 hlt))) ?_;refine af ?_;refine VS.aR aa (aw (show (i:Int)<50 by omega)) ?_;obtain⟨tb,ht⟩:∃ x,ts[i]? =some x:=⟨_,bj ae⟩;obtain⟨b,off,csx,rfl,hc,⟨tv,rfl,zH⟩⟩:=hv.at ht;obtain⟨pr,cr,rfl⟩:=zH.sl;obtain⟨R,hR⟩:∃ R,R=tb.length:=⟨_,aa⟩;rw[<-hR] at zH hc;refine af ?_;refine VS.loop (J:=λm L M w'=>∃ e:Nat,e<=R/\m=R-e/\L=[(0,.val (.slice p N c)),(1,.val (.slice (some ⟨b,off,none⟩) T c2)),(6,.val (.int .i64 (i:Int))),(7,.val (.int .i64 (e:Int)))]/\M=[]/\kx (lR 4) 1 w0 pr tb e) R ⟨_,_,?_,?_,?_,?_,⟨0,ae,aa,aa,aa,kx.zero⟩⟩ ?_
  ·exact di
  ·exact di
  ·rfl
  ·exact fv
  rintro m L M wL ⟨e,he,rfl,rfl,rfl,hupr⟩;refine af ?_;refine VO.cond aa eh ?_;refine wV aa ?_;refine af ?_;refine VO.read aa [.slice pr R cr] aa (cP (λj u hj=>h0.cell (hc j u hj))) (wV aa ?_);refine af ?_;by_cases hle:e<R
  ·refine VS.aR aa (aw (aJ.2 hle)) ?_;refine af ?_;by_cases h4:(e:Int)>4
   ·refine VO.fix 48 aa (ak (λb=>AV.val (.bool b)) (aw h4)) ?_;refine af ?_;refine aC ?_;intro wz kz bz;exact⟨_,aa,λh=>(by cases h),bz⟩
   refine VO.fix 48 aa (ak (λb=>AV.val (.bool b)) (az h4)) ?_;refine af ?_;obtain⟨GY,hrw⟩:∃ x,tb[e]? =some x:=⟨_,bj ae⟩;obtain⟨br,GZ,csr,rfl,QK,⟨rv,rfl,AP⟩⟩:=zH.at hrw;obtain⟨pc,cc,rfl⟩:=AP.sl;obtain⟨K,hK⟩:∃ K,K=GY.length:=⟨_,aa⟩;rw[<-hK] at AP QK;refine VO.cond aa eh ?_;refine wV aa ?_;refine af ?_;refine VO.read aa [.slice (some ⟨br,GZ,none⟩) R cr] aa (cP (λj u hj=>h0.cell (hc j u hj))) (wV aa ?_);refine af ?_;refine VO.cond aa eh ?_;refine wV aa ?_;refine af ?_;refine VO.read aa [.slice pc K cc] aa (cP (λj u hj=>h0.cell (QK j u hj))) (wV aa ?_);refine af ?_;by_cases YF:(K:Int)>12
   ·refine VS.aR aa (aw YF) ?_;refine af ?_;refine aC ?_;intro wz kz bz;exact⟨_,aa,λh=>(by cases h),bz⟩
   refine VS.aO aa (az YF) ?_;refine af ?_;refine VS.loop (J:=λm L M w'=>∃ q:Nat,q<=K/\m=K-q/\L=[(0,.val (.slice p N c)),(1,.val (.slice (some ⟨b,off,none⟩) T c2)),(6,.val (.int .i64 (i:Int))),(7,.val (.int .i64 (e:Int))),(8,.val (.int .i64 (q:Int)))]/\M=[]/\kx (iJ 4) 4 w0 pc GY q) K ⟨_,_,?_,?_,?_,?_,⟨0,ae,aa,aa,aa,kx.zero⟩⟩ ?_
   ·exact di
   ·exact di
   ·rfl
   ·exact fv
   rintro m L M wM ⟨q,hq,rfl,rfl,rfl,hupc⟩;refine af ?_;refine VO.cond aa eh ?_;refine wV aa ?_;refine af ?_;refine VO.read aa [.slice (some ⟨br,GZ,none⟩) R cr] aa (cP (λj u hj=>h0.cell (hc j u hj))) (wV aa ?_);refine af ?_;refine VO.cond aa eh ?_;refine wV aa ?_;refine af ?_;refine VO.read aa [.slice pc K cc] aa (cP (λj u hj=>h0.cell (QK j u hj))) (wV aa ?_);refine af ?_;by_cases hlq:q<K
   ·refine VS.aR aa (aw (aJ.2 hlq)) ?_;refine af ?_;obtain⟨x,hx⟩:∃ x,GY[q]? =some x:=⟨_,bj ae⟩;obtain⟨bx,offx,csx,rfl,pO,⟨s,pp,n,cx,t,y,mm,d,rfl,hrt⟩⟩:=AP.at hx;refine VO.cond aa eh ?_;refine wV aa ?_;refine af ?_;refine VO.read aa [.slice (some ⟨br,GZ,none⟩) R cr] aa (cP (λj u hj=>h0.cell (hc j u hj))) (wV aa ?_);refine af ?_;refine VO.cond aa eh ?_;refine wV aa ?_;refine af ?_;refine VO.read aa [.slice (some ⟨bx,offx,none⟩) K cc] aa (cP (λj u hj=>h0.cell (QK j u hj))) (wV aa ?_);refine af ?_;refine VO.cond aa eh ?_;refine wV aa ?_;refine af ?_;refine VO.read aa [.bool s,.slice pp n cx,.bool t,.slice y mm d] aa (bc (λj u hj=>h0.cell (pO j u hj)) 0 _ ⟨[],aa⟩) (wV aa ?_);refine af ?_;refine VO.call aa aa (fk tW) (λaK bE aX=>(fD _ x kk aK (hrt.kp (Kp.of (U:=UU) (h0.aN aX)))).mono ?_);rintro e1 w2 ⟨b1,rfl,l1,aU⟩;cases b1 with
    | false=>
      refine aL aU ?_;intro cQ _ bb1;refine aC ?_;intro wz kz bz;exact⟨_,aa,λh=>(by cases h),bz⟩
    | true=>
      refine aL aU ?_;intro cQ _ bb1;refine VS.back (K-(q+1)) ae ⟨_,_,?_,?_,?_,?_,⟨q+1,ae,aa,aa,aa,hupc.snoc hx pO (iJ.mk (hrt.le (l1 aa)))⟩⟩
      ·refine⟨aa,aa,aa,aa,?_,aj⟩;rw[<-aA (i:=q) ae];rfl
      ·exact di
      ·rfl
      ·exact fv
   ·refine VS.aO aa (az (λe=>hlq (aJ.1 e))) ?_;obtain rfl:q=K:=ae;refine af ?_;refine VS.back (R-(e+1)) ae ⟨_,_,?_,?_,?_,?_,⟨e+1,ae,aa,aa,aa,hupr.snoc hrw QK ⟨_,aa,hupc.all AP⟩⟩⟩
    ·refine⟨aa,aa,aa,?_,aj⟩;rw[<-aA (i:=e) ae];rfl
    ·exact di
    ·rfl
    ·exact fv
  ·refine VS.aO aa (az (λe=>hle (aJ.1 e))) ?_;obtain rfl:e=R:=ae;refine af ?_;refine VS.back (T-(i+1)) ae ⟨_,_,?_,?_,?_,?_,⟨i+1,ae,ae,aa,aa,aa,IC.snoc ht hc ⟨_,aa,hupr.all zH⟩⟩⟩
   ·refine⟨aa,aa,?_,aj⟩;rw[<-aA (i:=i) ae];rfl
   ·exact di
   ·rfl
   ·exact fv
 ·apply VO.via (P:=λF' H' w'=>Entry (λ_ L M w'=>L=[(0,.val (.slice p N c)),(1,.val (.slice p2 T c2))]/\M=[]) 0 F' H' w')
  ·intro cont;by_cases hlt:i<T
   ·refine VO.fix 30 aa (ak (λb=>AV.val (.bool b)) (aw (aJ.2 hlt))) ?_;refine af ?_;refine VS.aO aa (az (show ¬ (i:Int)<50 by omega)) ?_
    (repeat (first|refine wN ?_|refine wP aa ?_|refine wO aa aa ?_))
    refine cont _ _ _ ⟨_,_,?_,?_,?_,?_,aa,aa⟩
    ·exact di
    ·exact di
    ·rfl
    ·exact fv
   ·refine VO.fix 30 aa (ak (λb=>AV.val (.bool b)) (az (λe=>hlt (aJ.1 e)))) ?_
    (repeat (first|refine wN ?_|refine wP aa ?_|refine wO aa aa ?_))
    refine cont _ _ _ ⟨_,_,?_,?_,?_,?_,aa,aa⟩
    ·exact di
    ·exact di
    ·rfl
    ·exact fv
  ·rintro F2 H2 w2 ⟨_,_,e1,e2,e3,e4,rfl,rfl⟩;refine VS.narrow _ _ e1 e2 e3 e4 ?_;refine af ?_;by_cases FO:(N:Int)<=12
   ·refine VO.fix 89 aa (ak (λb=>AV.val (.bool b)) (aw FO)) ?_;refine af ?_;by_cases Ld:(T:Int)<=6
    ·refine VO.fix 93 aa (ak (λb=>AV.val (.bool b)) (aw Ld)) ?_;refine af ?_;refine aC ?_;intro wz kz bz;obtain rfl:i=T:=ae;exact⟨_,aa,λ_=>⟨kP ae,IC.all hv,ae,.inl ae⟩,bz⟩
    ·refine VO.fix 93 aa (ak (λb=>AV.val (.bool b)) (az Ld)) ?_;refine af ?_;by_cases h40:(T:Int)>40
     ·refine VO.fix 97 aa (ak (λb=>AV.val (.bool b)) (aw h40)) ?_;refine af ?_;refine aC ?_;intro wz kz bz;refine⟨_,aa,λh=> ?_,bz⟩;have h50:(T:Int)<50:=nO h;obtain rfl:i=T:=ae;exact⟨kP ae,IC.all hv,ae,.inr ⟨ae,ae⟩⟩
     ·refine VO.fix 97 aa (ak (λb=>AV.val (.bool b)) (az h40)) ?_;refine af ?_;refine aC ?_;intro wz kz bz;exact⟨_,aa,λh=>(by cases h),bz⟩
   ·refine VO.fix 89 aa (ak (λb=>AV.val (.bool b)) (az FO)) ?_;refine af ?_;refine aC ?_;intro wz kz bz;exact⟨_,aa,λh=>(by cases h),bz⟩
end
set_option maxRecDepth 4000
section
open Go.RowKit
variable {l:List Fx}
theorem NY {z:Int} (h:∀ e∈l,z<e.1):dY (l.map λe=>mL e z)=0:=CO h
theorem NZ {cs:List iT} {xss:List (List Rat)}:∀ n,∀ e∈jv cs xss n,e.1<(n:Int)
 | 0,e,he=>by simp[jv] at he
 | n+1,e,he=>by
   rw[show jv cs xss (n+1)=jv cs xss n++((cs.zip (xss.getD n [])).filter jO).map (λp=>((n:Int),(gR p.1.2:Int),true,p.2)) from aa] at he;rcases mV.1 he with he|he
   ·have:=NZ n e he;omega
   ·obtain⟨p,_,rfl⟩:=eG.1 he;show (n:Int)<_;omega
variable {xss:List (List Rat)} {cs:List iT}
theorem QL (h:∀ k∈cs,k.1=6->1<=gR k.2) (n:Nat) (hn:n<=9999):∀ e∈jv cs xss n,ek e=false:=by
 intro e he;rw[<-vA] at he;obtain⟨x,hx,rfl⟩:=eG.1 he;exact vX h n hn x hx
def wy (l:List (iT×Rat)):Rat:=dY ((l.filter jO).map (·.2))
theorem Jm {l:List (iT×Rat)} {i:Nat} {p:iT×Rat} (h:l[i]? =some p):wy (l.take (i+1))=wy (l.take i)+(if jO p=true then p.2 else 0):=by
 unfold wy;rw[aI h,List.filter_append,aQ,kK];by_cases hd:jO p=true
 ·rw[if_pos hd,DG hd];show _+dY [p.2]=_;rw[sa]
 ·rw[if_neg hd,DI hd];rfl
theorem VZ {y:Int} (h:∀ e∈l,e.1<y):GQ l y=0:=by
 unfold GQ;rw[show (l.map λe=>if e.1=y then e.2.2.2 else 0)=l.map (λ_=>(0:Rat)) from tR λe he=>if_neg (by have:=h e he;omega)];clear h
 induction l with
 | nil=>rfl
 | cons x r ih=>rw[kX,ja,ih,mW]
theorem bal_step (h:∀ k∈cs,k.1=6->1<=gR k.2) (y:Nat) (hy:y+1<=9999):
  fN (dL cs xss (y+1)) y=fN (dL cs xss y) ((y:Int)-1)+wy (cs.zip (xss.getD y []))-fh (dL cs xss (y+1)) y:=by
 rw[AO,AO,Jk,vA,vA];have h1:=GR (QL (xss:=xss) h (y+1) hy) (y:Int);unfold rY edue at h1;rw[h1];have e1:jv cs xss (y+1)=jv cs xss y++((cs.zip (xss.getD y [])).filter jO).map (λp=>((y:Int),(gR p.1.2:Int),true,p.2)):=aa
 have h2:dY ((jv cs xss (y+1)).map λe=>mL e ((y:Int)-1))=dY ((jv cs xss y).map λe=>mL e ((y:Int)-1)):=by
  rw[e1,aQ,kK,NY (l:=((cs.zip (xss.getD y [])).filter jO).map _) (λe he=>by
   obtain⟨p,_,rfl⟩:=eG.1 he;show (y:Int)-1<y;omega),mW]
 have h3:GQ (jv cs xss (y+1)) y=wy (cs.zip (xss.getD y [])):=by
  have:GQ (jv cs xss (y+1)) y=GQ (jv cs xss y) y+GQ (((cs.zip (xss.getD y [])).filter jO).map (λp=>((y:Int),(gR p.1.2:Int),true,p.2))) y:=by
   unfold GQ;rw[e1,aQ,kK]
  rw[this,VZ (NZ y),Bm];unfold GQ wy;rw[pZ]
  congr 1
  refine tR λp _=> ?_;exact if_pos aa
 rw[h2,h3]
theorem Jn {cs:List iT} {xss:List (List Rat)} {k:Nat}:∀ n,n<=k->dL cs (xss.take k) n=dL cs xss n
 | 0,_=>rfl
 | n+1,h=>by
   show dL cs (xss.take k) n++mi n (cs.zip ((xss.take k).getD n []))=dL cs xss n++mi n (cs.zip (xss.getD n []));rw[Jn n ae,fG,fG,Ry ae]
theorem QM {k:Nat} (hk:k<=xss.length):fb cs (xss.take k)=(fb cs xss).take k:=by
 unfold fb;rw[<-Lw,List.take_range,cw,gW hk];refine tR λy hy=> ?_;have hy':=Bg.1 hy;unfold gu;rw[Jn (y+1) ae,fG,fG,Ry ae]
theorem Wa {e:Int} {ts:List (List (List Rat))} {k:Nat} (h:gV cs e ts=0):gV cs e (ts.take k)=0:=by
 obtain⟨h1,h2,h3,h4⟩:=zv h
 have hodd:cs.any nz=false:=by
  rw[<-wE];intro hh;obtain⟨x,hx,ho⟩:=kV.1 hh;unfold nz at ho;rw[jP,beq_iff_eq,beq_iff_eq] at ho;have:=h4 x hx ho.1;omega
 have hl:(ts.take k).any (fW e cs.length)=false:=by
  rw[<-wE];intro hh;obtain⟨x,hx,ho⟩:=kV.1 hh;obtain⟨g1,g2⟩:=h3 x (mU hx);unfold fW at ho;rw[Hq,RH,bne_iff_ne] at ho;rcases ho with ho|ho
  ·omega
  ·exact ho g2
 unfold gV;rw[if_neg (by rw[cw];omega),if_neg ae,hl,if_neg cZ,hodd,if_neg cZ]
theorem bh.take {α:Type} {E:World->List Value->α->Prop} {sz:Nat} {w:World} {p:Option Addr} {n c k:Nat} {es:List α} (h:bh E sz w (.slice p n c) es) (hk:k<=es.length):bh E sz w (.slice p k c) (es.take k):=by
 obtain⟨p',c',hv,h1,h2,h3⟩:=h;cases hv;have hl:(es.take k).length=k:=by rw[cw];omega
 refine⟨p,c,by rw[hl],ae,h2,λi a ha=>h3 i a ?_⟩;by_cases hi:i<k
 ·rw[Ry hi] at ha;exact ha
 ·rw[ru ae] at ha;cases ha
attribute [local irreducible] aB VS
theorem has_any (v:Value) (t:List (List Rat)) (xs:List Rat) (e c:Nat) (kk:Nat) (w:World) (hv:bh (lR kk) 1 w v t) (hx:t[e]? =some xs) (hc:c<xs.length):
  Calls Tryz.prog 63 #[.agg #[v],.agg #[.int .i64 (e:Int),.int .i64 (c:Int)]] w λo w'=>o=.returned (.bool true)/\aD w w':=by
 obtain⟨p,cp,rfl⟩:=hv.sl;have iq:e<t.length:=(cM.1 hx).1;obtain⟨b,off,csx,rfl,hcc,⟨xv,rfl,qW⟩⟩:=hv.at hx;obtain⟨p3,c3,rfl⟩:=qW.sl;refine ai (C:=bd Tryz.prog w _) (args:=[_,_]) Tryz.func63 aa Tryz.ntmps63 (bF aa) ?_;refine af ?_;refine VO.fix 8 aa (ak (λb=>AV.val (.bool b)) (aw (show (e:Int)>=0 by omega))) ?_;refine af ?_;refine VO.fix 16 aa (ak (λb=>AV.val (.bool b)) (aw (show (e:Int)<(t.length:Int) by omega))) ?_;refine af ?_;refine VO.fix 21 aa (ak (λb=>AV.val (.bool b)) (aw (show (c:Int)>=0 by omega))) ?_;refine af ?_;refine VO.cond aa eh (wV aa ?_);refine af ?_;refine VO.read aa [.slice p3 xs.length c3] aa (cP hcc) (wV aa ?_);refine af ?_;refine aC ?_;intro wz kz bz;exact⟨ak (λb=>Ending.returned (.bool b)) (aw (show (c:Int)<(xs.length:Int) by omega)),bz⟩
theorem KB (v:Value) (t:List (List Rat)) (xs:List Rat) (x:Rat) (e c:Nat) (kk:Nat) (w:World) (hv:bh (lR kk) 1 w v t) (hx:t[e]? =some xs) (hc:xs[c]? =some x) (hk:kk<=1000):
  Calls Tryz.prog 30 #[.agg #[v],.int .i64 (e:Int),.int .i64 (c:Int)] w λo w'=>∃ r,o=.returned r/\aZ w' w.heap.size r x/\aD w w':=by
 obtain⟨p,cp,rfl⟩:=hv.sl;have iq:e<t.length:=(cM.1 hx).1;have kP:c<xs.length:=(cM.1 hc).1;refine ai (C:=bd Tryz.prog w _) (args:=[_,_,_]) Tryz.func30 aa Tryz.ntmps30 (bF aa) ?_;refine af ?_;refine VO.cB aa aa (fk Tryz.func63) (λaK bE aX=>has_any _ t xs e c kk aK (hv.iI (pL kk) aX) hx kP) (λaK bE aX w1 aU cQ _ bb1=>wV aa ?_);refine af ?_;obtain⟨b,off,csx,rfl,hcc,⟨xv,rfl,qW⟩⟩:=hv.at hx
 obtain⟨b2,GU,csx2,hp3,pR,⟨s,pp,n,cx,tt,y,mm,d,rfl,hrt⟩⟩:∃ b off cs,xv=.slice (some ⟨b,off,none⟩) xs.length (match xv with | .slice _ _ c=>c|_=>0)/\(∀ (j:Nat) (u:Value),cs[j]? =some u->w.cell? ⟨b,off+c*4+j,none⟩=some u)/\iJ kk w cs x:=by
  obtain⟨p3,c3,rfl⟩:=qW.sl;obtain⟨b2,GU,cs2,rfl,h1,h2⟩:=qW.at hc;exact⟨b2,GU,cs2,aa,h1,h2⟩
 rw[hp3] at hcc;generalize (match xv with | .slice _ _ c=>c|_=>0)=c3 at hcc hp3;refine VO.cond aa eh (wV aa ?_);refine VO.read aa [.slice (some ⟨b2,GU,none⟩) xs.length c3] aa (cP hcc) (wV aa ?_);refine af ?_;refine VO.cond aa eh (wV aa ?_);refine VO.read aa [.bool s,.slice pp n cx,.bool tt,.slice y mm d] aa (bc pR 0 _ ⟨[],aa⟩) (wV aa ?_);refine af ?_;refine VO.eX aa (fk HI) (λbf β cK bK ho=>((pj _ [x] kk bf (ox (ho.own 22 (.base (ay.2 aa)) _ _ aa) [] (vs:=[[.bool s,.slice pp n cx,.bool tt,.slice y mm d]]) (by rfl) aa (ig.cons (hrt.kp (Kp.of (U:=UU) bK)) ig.nil) (bF aa) eL) (by unfold bU cL;simp;omega)).mono (λo w2 h=>And.intro h bK.size)).mono ?_);rintro o w2 ⟨⟨r2,rfl,q2,-,bu⟩,hsz2⟩;rw[sa] at q2;obtain⟨s2,p2,n2,c2,t2,y2,m2,d2,rfl⟩:=q2.form;refine aL bu ?_;intro dW _ bb2;refine aC ?_;intro wz kz bz;exact⟨_,aa,(q2.kp kz).mono hsz2,bz⟩
set_option maxRecDepth 4000 in
theorem FP (cs:List Value) (x:ik) (kk:Nat) (w:World) (hv:fC kk w cs x) (hk:kk<=1000000):
  Calls Tryz.prog 122 #[.agg cs.toArray] w λe w'=>∃ ds:List Value,e=.returned (.agg ds.toArray)/\fC kk w' ds x/\aD w w':=by
 obtain⟨_,_,_,_,_,_,_,rfl,⟨sA,pA,nA,cA,tA,yA,mA,dA,rfl,hA,zA⟩,⟨sB,pB,nB,cB,tB,yB,mB,dB,rfl,hB,zB⟩,⟨sC,pC,nC,cC,tC,yC,mC,dC,rfl,hC,zC⟩,⟨sD,pD,nD,cD,tD,yD,mD,dD,rfl,hD,zD⟩,⟨sE,pE,nE,cE,tE,yE,mE,dE,rfl,hE,zE⟩,⟨sF,pF,nF,cF,tF,yF,mF,dF,rfl,hF,zF⟩,⟨sG,pG,nG,cG,tG,yG,mG,dG,rfl,hG,zG⟩⟩:=hv;refine ai (C:=bd Tryz.prog w _) (args:=[_]) Tryz.func122 aa Tryz.ntmps122 (bF aa) ?_;refine af ?_;refine VO.call aa aa (fk mY) (λwa0 ka0 ba0=>(jt _ _ _ _ _ wa0 (hA.raw.k) (bG zA.1 ae) (bG zA.2 ae)).mono ?_);rintro e w0 ⟨r0,rfl,qq0,sj⟩;have qA:=qq0.own.rd;obtain⟨srA,prA,nrA,crA,trA,yrA,mrA,drA,rfl⟩:=qA.form;refine aL sj ?_;intro kb0 _ bb0;refine VO.call aa aa (fk mY) (λaK bE aX=>(jt _ _ _ _ _ aK (hB.raw.k) (bG zB.1 ae) (bG zB.2 ae)).mono ?_);rintro e w1 ⟨r1,rfl,qq1,aU⟩;have qB:=qq1.own.rd;obtain⟨srB,prB,nrB,crB,trB,yrB,mrB,drB,rfl⟩:=qB.form;refine aL aU ?_;intro cQ _ bb1;refine VO.call aa aa (fk mY) (λbf cK bK=>(jt _ _ _ _ _ bf (hC.raw.k) (bG zC.1 ae) (bG zC.2 ae)).mono ?_);rintro e w2 ⟨r2,rfl,qq2,bu⟩;have qC:=qq2.own.rd;obtain⟨srC,prC,nrC,crC,trC,yrC,mrC,drC,rfl⟩:=qC.form;refine aL bu ?_;intro dW _ bb2;refine VO.call aa aa (fk mY) (λcV dS ea=>(jt _ _ _ _ _ cV (hD.raw.k) (bG zD.1 ae) (bG zD.2 ae)).mono ?_);rintro e w3 ⟨r3,rfl,qq3,dH⟩;have qD:=qq3.own.rd;obtain⟨srD,prD,nrD,crD,trD,yrD,mrD,drD,rfl⟩:=qD.form;refine aL dH ?_;intro eV _ bb3;refine VO.call aa aa (fk mY) (λey eU fc=>(jt _ _ _ _ _ ey (hE.raw.k) (bG zE.1 ae) (bG zE.2 ae)).mono ?_);rintro e w4 ⟨r4,rfl,qq4,gj⟩;have qE:=qq4.own.rd;obtain⟨srE,prE,nrE,crE,trE,yrE,mrE,drE,rfl⟩:=qE.form;refine aL gj ?_;intro jc _ mw;refine VO.call aa aa (fk mY) (λgn iz iZ=>(jt _ _ _ _ _ gn (hF.raw.k) (bG zF.1 ae) (bG zF.2 ae)).mono ?_);rintro e w5 ⟨r5,rfl,qq5,je⟩;have qF:=qq5.own.rd;obtain⟨srF,prF,nrF,crF,trF,yrF,mrF,drF,rfl⟩:=qF.form;refine aL je ?_;intro nw _ um;refine VO.call aa aa (fk mY) (λjL my nV=>(jt _ _ _ _ _ jL (hG.raw.k) (bG zG.1 ae) (bG zG.2 ae)).mono ?_);rintro e w6 ⟨r6,rfl,qq6,oY⟩;have qG:=qq6.own.rd;obtain⟨srG,prG,nrG,crG,trG,yrG,mrG,drG,rfl⟩:=qG.form;refine aL oY ?_;intro sq _ xT;refine aC ?_;intro wz kz bz;exact⟨[.bool srA,.slice prA nrA crA,.bool trA,.slice yrA mrA drA,.bool srB,.slice prB nrB crB,.bool trB,.slice yrB mrB drB,.bool srC,.slice prC nrC crC,.bool trC,.slice yrC mrC drC,.bool srD,.slice prD nrD crD,.bool trD,.slice yrD mrD drD,.bool srE,.slice prE nrE crE,.bool trE,.slice yrE mrE drE,.bool srF,.slice prF nrF crF,.bool trF,.slice yrF mrF drF,.bool srG,.slice prG nrG crG,.bool trG,.slice yrG mrG drG],aa,⟨_,_,_,_,_,_,_,aa,.mk qA.k zA,.mk qB.k zB,.mk qC.k zC,.mk qD.k zD,.mk qE.k zE,.mk qF.k zF,.mk qG.k zG⟩,bz⟩
end
set_option maxRecDepth 4000
section
open Go.RowKit
attribute [local irreducible] aB VS
abbrev zW (P:Program) (w:World) (N:Nat):Cx:={ P:=P,w0:=w,N:=N,K:=⟨UU,λ_=>True,λt=>Nat.beq t 123⟩,SU:=λt=>Nat.beq t 23,ti:=table,keep:=λ_ _=>trivial }
theorem mM (w:World) (N:Nat):(zW Tryz.prog w N).Ok:=fy
theorem Wb (w:World) (N:Nat):(zW Tryz.prog w N).P.follows .mixedOrders=true:=by show Tryz.prog.follows .mixedOrders=true;kernel_rfl
theorem Jo (p:Option Addr) (c n sz K:Nat):(Value.slice (if c=((none:Option Int).getD 0).toNat then p else p.map (·.add (((none:Option Int).getD 0).toNat*sz))) (((some (K:Int)).getD (n:Int)).toNat-((none:Option Int).getD 0).toNat) (c-((none:Option Int).getD 0).toNat))=.slice p K c:=by
 have h:(p.map λa=>a.add (((none:Option Int).getD 0).toNat*sz))=p:=by
  cases p with
  | none=>rfl
  | some a=>
    obtain⟨b,o,s⟩:=a;simp[Addr.add]
 rw[h];simp
section
variable {F F':Fr} {H H':Hp} {w w1:World} {N:Nat} {l':List Oper} {Q:Exit->Act->World->Prop} {k:List It} {id:Nat} {ops:Array Oper}
theorem cxK_r (e:jJ (zW Tryz.prog w1 N) ops 80 ops.toList F H=(l',F',H')) (h:aB (zW Tryz.prog w1 N) none ops l' (VS (zW Tryz.prog w1 N) Q k) F' H' w):VS (zW Tryz.prog w1 N) Q (.code (.region id ops false)::k) F H w:=VS.region (mM _ _) (VO.run 80 e h)
theorem cxK_d (e:jJ (zW Tryz.prog w1 N) ops 80 ops.toList F H=(l',F',H')) (h:aB (zW Tryz.prog w1 N) (some []) ops l' (VS (zW Tryz.prog w1 N) Q k) F' H' w) (np:lI (zW Tryz.prog w1 N).SU [] ops=true:=by kernel_rfl):VS (zW Tryz.prog w1 N) Q (.code (.region id ops true)::k) F H w:=VS.draw (mM _ _) (Wb _ _) [] np (VO.run 80 e h)
end
theorem bD {P Q:Prop} (h:Q) (i:Q->P:=by intro h;(repeat first|refine wN ?_|refine wP rfl ?_|refine cxK_r rfl ?_|refine cxK_d rfl ?_|refine wO rfl rfl ?_);exact h):P:=i h
theorem ui {P Q X:Prop} (hb:X) (h:Q) (i:X->Q->P:=by intro hb h;refine⟨_,rfl,hb,λa b c=>wV rfl ?_⟩;refine bD ?_;revert a b c;exact h):P:=i hb h
set_option maxRecDepth 4000 in
theorem qK (u v:Value) (e:Int) (n:Nat) (cs:List iT) (ts:List (List (List Rat))) (kk:Nat) (w:World) (hu:bh (fu kk) 6 w u cs) (hv:bh (gI kk) 1 w v ts) (hn:n<256):
  Calls Tryz.prog 49 #[u,.int .i64 e,v,.int .u8 (n:Int)] w λo w'=>o=.returned (.bool true)/\aD w w':=by
 obtain⟨p,c,rfl,eS,gv⟩:=hu.form;obtain⟨p2,c2,rfl,CP,GW⟩:=hv.form;obtain⟨N,hN⟩:∃ N,N=cs.length:=⟨_,aa⟩;obtain⟨T,hT⟩:∃ T,T=ts.length:=⟨_,aa⟩;rw[<-hN] at hu eS;rw[<-hT] at hv CP;rw[<-hN,<-hT];refine ai (C:=zW Tryz.prog w _) (args:=[_,_,_,_]) Tryz.func49 aa Tryz.ntmps49 (bF aa) ?_;refine bD ?_;refine VO.call aa aa (fk Tryz.func112) (λaK bE aX=>(Jl _ _ cs ts kk w aK hu hv aX).mono ?_);rintro o w1 ⟨b1,rfl,hfew,aU⟩;cases b1 with
 | false=>
   refine ui aU ?_;intro cQ _ bb1;refine VO.cB aa aa (fk jH) (λbf cK bK=>cY bf) (λbf cK bK w2 bu dW _ bb2=>wV aa ?_);refine bD ?_;refine VS.ret (mM _ _) aa aa (λwz kz bz=> ?_);exact⟨aa,bz⟩
 | true=>
 obtain⟨OD,Wc,FO,Ld⟩:=hfew aa;rw[<-hN] at FO;rw[<-hT] at Ld;refine ui aU ?_;intro cQ _ bb1
 have hd:T*N<=128\/40<T:=by
  rcases Ld with h|h
  ·have:T*N<=6*12:=kD h FO;exact .inl ae
  ·exact .inr h.1
 refine VO.call aa aa (fk yc) (λbf cK bK=>(qJ _ _ e cs ts 4 bf (OD.bS (cW 4) bK) (Wc.iI (iB 4) bK) ae ae (by rw[<-hT,<-hN];exact hd)).mono ?_);rintro o w2 ⟨r2,rfl,q2,bu⟩;obtain⟨pq,cq,rfl⟩:=q2.form;by_cases hm:gV cs e ts≠0
 ·have dJ:cf cs e ts=[]:=by unfold cf;rw[if_neg hm]
  rw[dJ,List.length_nil];refine ui bu ?_;intro dW _ bb2;refine VS.aR aa (Fk hm) ?_;refine bD ?_;refine VO.cB aa aa (fk jH) (λcV dS ea=>cY cV) (λcV dS ea w3 dH eV _ bb3=>wV aa ?_);refine bD ?_;refine VS.ret (mM _ _) aa aa (λwz kz bz=> ?_);exact⟨aa,bz⟩
 replace hm:gV cs e ts=0:=Rx hm;obtain⟨VQ,he0,fx,hyr⟩:=zv hm;obtain⟨E,rfl⟩:=tP he0;simp only[Int.toNat_natCast] at fx;rw[<-hN] at fx;rw[<-hT] at VQ;replace Ld:T<=6:=Ld.resolve_right ae;obtain⟨xss,CQ⟩:∃ xss:List (List Rat),xss=ts.map (λt=>t.getD E []):=⟨_,aa⟩;have VP:cf cs (E:Int) ts=fb cs xss:=by rw[CQ];exact if_pos hm
 have gU:xss.length=T:=by rw[CQ,bJ,hT]
 have hal0:(fb cs xss).length=T:=by unfold fb;rw[bJ,Bb,gU]
 have hxa:∀ y t,ts[y]? =some t->xss.getD y []=t.getD E []:=λy t h=>by rw[CQ,fG,gT,h];rfl
 rw[VP,hal0] at q2;rw[VP,hal0,hm];refine ui bu ?_;intro dW _ bb2;refine VS.aO aa (qz aa) ?_;refine VS.pK (λw=>zW Tryz.prog w 207) (λ_=>aa) (λ_=>aa) (λ_=>aD.refl _) (λw9 β k9 b9 en=> ?_);have Dg:aD w w9:=b9;have hu9:=OD.bS (cW 4) Dg;have hv9:bh (gI 4) 1 w9 (.slice p2 T c2) ts:=Wc.iI (iB 4) Dg;have q9:=(q2.kp (bt AK) (show bg (zW Tryz.prog w 207).K w2 w9 from bm) aa).sl (bt AK);refine⟨[(0,.val (.slice p N c)),(1,.val (.int .i64 (E:Int))),(2,.val (.slice p2 T c2)),(3,.val (.int .u8 (n:Int))),(9,.val (.slice pq T cq))],⟨⟨_,_,aa,aa,aa⟩,⟨_,_,aa,aa,aa⟩,⟨_,_,aa,aa,aa⟩,⟨_,_,aa,aa,aa⟩,⟨_,_,aa,aa,aa⟩,aj⟩,?_⟩;clear q2 OD Wc hu hv;refine bD ?_;refine VO.cR aa aa (fk mc) (λcV dS ea=>dK 0 cV ae ae) (λcV dS ea w3 s3 p3 n3 c3 t3 y3 m3 d3 q3 dH eV _ bb3=>wV aa ?_);refine bD ?_;have hB0:fN (dL cs xss 0) (((0:Nat):Int)-1)=0:=aa;refine VS.loop (J:=(λm L M w'=>∃ (y:Nat) (sb pb nb cb tb yb mb db:_),y<=T/\m=T-y/\L=[(0,.val (.slice p N c)),(1,.val (.int .i64 (E:Int))),(2,.val (.slice p2 T c2)),(3,.val (.int .u8 (n:Int))),(9,.val (.slice pq T cq)),(11,.box 11 0),(12,.val (.int .i64 (y:Int)))]/\M=[(11,(27,([.bool sb,.slice pb nb cb,.bool tb,.slice yb mb db]:List Value).map .val))]/\bq w' (.agg #[.bool sb,.slice pb nb cb,.bool tb,.slice yb mb db]) (fN (dL cs xss y) ((y:Int)-1))/\dy (fN (dL cs xss y) ((y:Int)-1)) AK)) T ⟨_,_,?_,?_,?_,?_,⟨0,_,_,_,_,_,_,_,_,ae,aa,aa,aa,by rw[hB0];exact q3.rd,by rw[hB0];exact dy.zero.mono (by unfold AK;omega)⟩⟩ ?_
 ·exact di
 ·exact di
 ·rfl
 ·exact fv
 rintro m L M wJ ⟨y,sb,pb,nb,cb,tb,yb,mb,db,hy,rfl,rfl,rfl,hB,hBz⟩;refine bD ?_;by_cases hlt:y<T
 ·obtain⟨t,ht⟩:∃ t,ts[y]? =some t:=⟨_,bj ae⟩;obtain⟨bT,nN,csT,rfl,SX,⟨tv,rfl,BZ⟩⟩:=hv9.at ht;obtain⟨qj,qk⟩:=fx t (dz ht);obtain⟨pt,ct,rfl⟩:=BZ.sl;have Eb:=hxa y t ht;obtain⟨xs,qW⟩:∃ xs,t[E]? =some xs:=⟨_,bj qj⟩;have zw:xss.getD y []=xs:=by rw[Eb,fG,qW];rfl
  have hxn:xs.length=N:=by rw[<-qk,fG,qW];rfl
  obtain⟨bR,offR,csR,rfl,WT,⟨_,_,_,_,_,_,_,rfl,⟨sA,pA,nA,cA,tA,yA,mA,dA,rfl,gzA⟩,⟨sB,pB,nB,cB,tB,yB,mB,dB,rfl,gzB⟩,⟨sC,pC,nC,cC,tC,yC,mC,dC,rfl,gzC⟩,⟨sD,pD,nD,cD,tD,yD,mD,dD,rfl,gzD⟩,⟨sE,pE,nE,cE,tE,yE,mE,dE,rfl,gzE⟩,⟨sF,pF,nF,cF,tF,yF,mF,dF,rfl,gzF⟩,⟨sG,pG,nG,cG,tG,yG,mG,dG,rfl,gzG⟩⟩⟩:=q9.at (jX (cs:=cs) (xss:=xss) (y:=y) ae);obtain⟨gA,zA⟩:=gzA;obtain⟨gB,zB⟩:=gzB;obtain⟨gC,zC⟩:=gzC;obtain⟨gD,zD⟩:=gzD;obtain⟨gE,zE⟩:=gzE;obtain⟨gF,zF⟩:=gzF;obtain⟨gG,zG⟩:=gzG
  have hxsz:∀ x∈xs,dy x 4:=λx hx=>by
   obtain⟨_,_,_,_,_,⟨xv,rfl,hxl2⟩⟩:=BZ.at qW;obtain⟨_,⟨_,_,_,_,_,_,_,_,rfl,hq⟩⟩:=hxl2.mem hx;exact hq.sz ae
  have Ij:(bo cs xs).length=N:=by unfold bo;rw[bJ,wH];omega
  refine VS.aR aa (aw (aJ.2 hlt)) ?_;refine bD ?_;refine VO.cR aa aa (fk mc) (λey eU fc=>dK 0 ey ae ae) (λey eU fc w4 s4 p4 n4 c4 t4 y4 m4 d4 q4 gj jc _ mw=>wV aa ?_);refine bD ?_;refine VS.loop (J:=(λm L M w'=>∃ (z:Nat) (X:AV) (Mi:List (Nat×(TypeId×List AV))) (su pu nu cu tu yu mu du:_),z<=N/\m=N-z/\L=[(0,.val (.slice p N c)),(1,.val (.int .i64 (E:Int))),(2,.val (.slice (some ⟨bT,nN,none⟩) T c2)),(3,.val (.int .u8 (n:Int))),(9,.val (.slice (some ⟨bR,offR,none⟩) T cq)),(11,.box 11 0),(12,.val (.int .i64 (y:Int))),(13,X),(14,.box 14 0),(15,.val (.int .i64 (z:Int)))]/\M=(11,(27,([.bool sb,.slice pb nb cb,.bool tb,.slice yb mb db]:List Value).map .val))::(14,(27,([.bool su,.slice pu nu cu,.bool tu,.slice yu mu du]:List Value).map .val))::Mi/\eF (pJ 4) 9 203 80 X Mi w' ((bo cs xs).take z)/\bq w' (.agg #[.bool su,.slice pu nu cu,.bool tu,.slice yu mu du]) (wy ((cs.zip xs).take z))/\dy (wy ((cs.zip xs).take z)) (1+5*z)/\bq w' (.agg #[.bool sb,.slice pb nb cb,.bool tb,.slice yb mb db]) (fN (dL cs xss y) ((y:Int)-1)))) N ⟨_,_,?_,?_,?_,?_,⟨0,_,[],_,_,_,_,_,_,_,_,ae,aa,aa,aa,.inl ⟨aa,aa,aa⟩,q4.rd,dy.zero.mono ae,hB.k⟩⟩ ?_
  ·exact di
  ·exact di
  ·rfl
  ·exact fv
  rintro m L M wI ⟨z,X,Mi,su,pu,nu,cu,tu,yu,mu,du,hz,rfl,rfl,rfl,hI,hP,hPz,hB⟩;refine VS.now (λwX kN bN=> ?_);replace hI:=hI.kp (eE 4) (bg.fq kN);replace hP:=hP.kp (bg.fq kN);replace hB:=hB.kp (bg.fq kN);refine VS.mask [16,79] (by rcases hI with ⟨_,rfl,rfl⟩|⟨_,_,_,_,rfl,rfl,_⟩ <;> (repeat first|exact aj|refine⟨aa,?_⟩)) ?_;refine bD ?_;by_cases SW:z<N
  ·obtain⟨k,iy⟩:∃ k,cs[z]? =some k:=⟨_,bj ae⟩;obtain⟨x,Az⟩:∃ x,xs[z]? =some x:=⟨_,bj ae⟩;have yW:=vW iy Az;have hzip:(cs.zip xs)[z]? =some (k,x):=Xj.2 ⟨iy,Az⟩;obtain⟨bC,oC,csC,rfl,hcC,⟨nm,sk,pk,nk,ck,tk,yk,mk,dk,rfl,rb,hkA⟩⟩:=hu9.at iy;have hcC:=hcC;refine VS.aR aa (aw (aJ.2 SW)) ?_;refine bD ?_;refine VO.cond aa eh ?_;refine wV aa ?_;refine bD ?_;refine VO.read aa [.int .u8 (k.1:Int)] aa (bc hcC 1 _ ⟨_,aa⟩) (wV aa ?_);refine bD ?_;refine VO.cond aa eh ?_;refine wV aa ?_;refine bD ?_;refine VO.read aa [.bool sk,.slice pk nk ck,.bool tk,.slice yk mk dk] aa (bc hcC 2 _ ⟨[],aa⟩) (wV aa ?_);refine bD ?_;refine VO.cond aa eh ?_;refine wV aa ?_;refine bD ?_;refine VO.read aa [.slice pt t.length ct] aa (cP SX) (wV aa ?_);refine bD ?_;refine VO.cR aa aa (fk Tryz.func30) (λjL my nV=>KB _ t xs x E z 4 jL (BZ.iI (pL 4) nV) qW Az ae) (λjL my nV w6 s6 p6 n6 c6 t6 y6 m6 d6 q6 oY sq _ xT=>wV aa ?_);refine bD ?_;have hxz:dy x 4:=hxsz x (dz Az);have iq:pJ 4 w6 [.int .u8 (k.1:Int),.bool sk,.slice pk nk ck,.bool tk,.slice yk mk dk,.bool s6,.slice p6 n6 c6,.bool t6,.slice y6 m6 d6] (k.1,k.2,x):=⟨_,_,_,_,_,_,_,_,_,_,_,_,_,_,_,_,aa,rb,(hkA.kp (Kp.of (U:=UU) bN)).k,q6.in hxz⟩;apply VO.join (P:=Entry (λ_ L M w'=>∃ (Y:AV) (O:List (Nat×(TypeId×List AV))),L=[(0,.val (.slice (some ⟨bC,oC,none⟩) N c)),(1,.val (.int .i64 (E:Int))),(2,.val (.slice (some ⟨bT,nN,none⟩) T c2)),(3,.val (.int .u8 (n:Int))),(9,.val (.slice (some ⟨bR,offR,none⟩) T cq)),(11,.box 11 0),(12,.val (.int .i64 (y:Int))),(13,Y),(14,.box 14 0),(15,.val (.int .i64 (z:Int)))]/\M=(11,(27,([.bool sb,.slice pb nb cb,.bool tb,.slice yb mb db]:List Value).map .val))::(14,(27,([.bool su,.slice pu nu cu,.bool tu,.slice yu mu du]:List Value).map .val))::O/\eF (pJ 4) 9 203 80 Y O w' ((bo cs xs).take (z+1))/\Kp UU wX w') 0)
   ·intro cont;rcases hI with ⟨dJ,rfl,rfl⟩|⟨n',c',vs,sp,rfl,rfl,iU⟩
    ·refine VO.jg (mM _ _) (eE 4) (t:=202) (e:=203) (s:=79) (a:=(k.1,k.2,x)) (cs:=[.int .u8 (k.1:Int),.bool sk,.slice pk nk ck,.bool tk,.slice yk mk dk,.bool s6,.slice p6 n6 c6,.bool t6,.slice y6 m6 d6]) aa aa aa aa aa aa aa aa (bF aa) aa aa aa iq ae (λw8 cap sp k8 b8 gh=>wV aa (wN ?_));refine cont _ _ _ ⟨_,_,?_,?_,?_,?_,⟨_,_,aa,aa,.inr ⟨1,cap,_,sp,aa,aa,by rw[aI yW,dJ];exact gh⟩,(show bg (zW Tryz.prog w9 207).K wX w8 from bm).fq⟩⟩
     ·exact di
     ·(repeat first|exact aj|refine⟨aa,?_⟩|refine⟨ak (λl=>some (_,l)) (ba (by first|exact bW.dN (by assumption)|exact ah _|(rw[<-aQ];exact ah _)) _ _),?_⟩)
     ·rfl
     ·(repeat first|exact aj|refine⟨aq.lit aa,?_⟩|refine⟨bW.mg (by assumption),?_⟩|refine⟨aq.append (.vals _) (.vals _),?_⟩|refine⟨aq.vals _,?_⟩)
    ·have nY:=iU.len;rw[cw] at nY;refine VO.jh (mM _ _) (eE 4) (t:=202) (e:=203) (s:=79) (i:=80) (n:=n') (c:=c') (vs:=vs) (sp:=sp) (es:=(bo cs xs).take z) (a:=(k.1,k.2,x)) (cs:=[.int .u8 (k.1:Int),.bool sk,.slice pk nk ck,.bool tk,.slice yk mk dk,.bool s6,.slice p6 n6 c6,.bool t6,.slice y6 m6 d6]) aa aa aa aa aa aa aa aa (bF aa) aa (.inr aa) aa (iU.kp (eE 4) (bg.fq (show bg (zW Tryz.prog w9 207).K wX w6 from bm))) aa iq ae (λw8 il qH ρ k8 b8 gH gh=>wV aa (wN ?_));refine cont _ _ _ ⟨_,_,?_,?_,?_,?_,⟨_,_,aa,aa,.inr ⟨n' +1,il,_,qH,aa,aa,by rw[aI yW];exact gh⟩,(show bg (zW Tryz.prog w9 207).K wX w8 from bm).fq⟩⟩
     ·exact di
     ·(repeat first|exact aj|refine⟨aa,?_⟩|refine⟨ak (λl=>some (_,l)) (ba (by first|exact bW.dN (by assumption)|exact ah _|(rw[<-aQ];exact ah _)) _ _),?_⟩)
     ·rfl
     ·(repeat first|exact aj|refine⟨aq.lit aa,?_⟩|refine⟨bW.mg (by assumption),?_⟩|refine⟨aq.append (.vals _) (.vals _),?_⟩|refine⟨aq.vals _,?_⟩)
   clear hI;rintro F1 H1 v1 ⟨_,_,e1,e2,e3,e4,X1,M1,rfl,rfl,hI,kv1⟩;refine VS.narrow _ _ e1 e2 e3 e4 ?_;clear e1 e2 e3 e4 F1 H1;replace hP:=hP.kp kv1;replace hB:=hB.kp kv1;refine bD ?_;refine VO.cond aa eh ?_;refine wV aa ?_;refine bD ?_;refine VO.read aa [.int .u8 (k.1:Int)] aa (bc hcC 1 _ ⟨_,aa⟩) (wV aa ?_);refine bD ?_;by_cases h6:k.1=6
   ·have FL:jO (k,x)=true:=by unfold jO;rw[show (k,x).1.1=6 from h6];rfl
    have Kz:wy ((cs.zip xs).take (z+1))=wy ((cs.zip xs).take z)+x:=by rw[Jm hzip,if_pos FL]
    refine VS.aR aa (BR (show (k.1:Int)=6 by omega)) ?_;refine bD ?_;refine VO.cond aa eh ?_;refine wV aa ?_;refine bD ?_;refine VO.read aa [.slice pt t.length ct] aa (cP SX) (wV aa ?_);refine bD ?_;refine VO.cR aa aa (fk Tryz.func30) (λpS uy rR=>KB _ t xs x E z 4 pS (BZ.iI (pL 4) rR) qW Az ae) (λpS uy rR w7 s7 p7 n7 c7 t7 y7 m7 d7 q7 ER Dv _ Qa=>wV aa ?_);refine bD ?_;refine VO.cR aa aa (fk mX) (λtd Cr xG=>eJ _ _ (wy ((cs.zip xs).take z)) x (1+5*z) 4 td (hP.ki hPz) (q7.ki hxz) ae ae) (λtd Cr xG w8 s8 p8 n8 c8 t8 y8 m8 d8 q8 Bz Cs _ Sw=>wV aa ?_);refine bD ?_;refine VS.back (N-(z+1)) ae ⟨_,_,?_,?_,?_,?_,⟨z+1,X1,M1,_,_,_,_,_,_,_,_,ae,aa,aa,aa,hI.kp (eE 4) (bg.fq (show bg (zW Tryz.prog w9 207).K v1 w8 from bm)),by rw[Kz];exact q8.rd,by rw[Kz];exact (hPz.add hxz).mono ae,hB.k⟩⟩
    ·rcases hI with ⟨_,rfl,rfl⟩|⟨_,_,_,_,rfl,rfl,_⟩ <;> (refine⟨aa,aa,aa,aa,aa,aa,aa,aa,aa,?_,aj⟩;rw[<-aA (i:=z) ae];rfl)
    ·rcases hI with ⟨_,rfl,rfl⟩|⟨_,_,_,_,rfl,rfl,_⟩ <;> (repeat first|exact aj|refine⟨aa,?_⟩|refine⟨ak (λl=>some (_,l)) (ba (by first|exact bW.dN (by assumption)|exact ah _|(rw[<-aQ];exact ah _)) _ _),?_⟩)
    ·rcases hI with ⟨_,rfl,rfl⟩|⟨_,_,_,_,rfl,rfl,_⟩ <;> rfl
    ·rcases hI with ⟨_,rfl,rfl⟩|⟨_,_,_,_,rfl,rfl,_⟩ <;> (repeat first|exact aj|refine⟨aq.lit aa,?_⟩|refine⟨bW.mg (by assumption),?_⟩|refine⟨aq.append (.vals _) (.vals _),?_⟩|refine⟨aq.vals _,?_⟩)
   ·have FL:¬ jO (k,x)=true:=by unfold jO;intro h;exact h6 (eq_of_beq h)
    have Kz:wy ((cs.zip xs).take (z+1))=wy ((cs.zip xs).take z):=by rw[Jm hzip,if_neg FL,mW]
    refine VS.aO aa (zj (show (k.1:Int)≠6 by omega)) ?_;refine bD ?_;refine VS.back (N-(z+1)) ae ⟨_,_,?_,?_,?_,?_,⟨z+1,X1,M1,_,_,_,_,_,_,_,_,ae,aa,aa,aa,hI,by rw[Kz];exact hP,by rw[Kz];exact hPz.mono ae,hB⟩⟩
    ·rcases hI with ⟨_,rfl,rfl⟩|⟨_,_,_,_,rfl,rfl,_⟩ <;> (refine⟨aa,aa,aa,aa,aa,aa,aa,aa,aa,?_,aj⟩;rw[<-aA (i:=z) ae];rfl)
    ·rcases hI with ⟨_,rfl,rfl⟩|⟨_,_,_,_,rfl,rfl,_⟩ <;> (repeat first|exact aj|refine⟨aa,?_⟩|refine⟨ak (λl=>some (_,l)) (ba (by first|exact bW.dN (by assumption)|exact ah _|(rw[<-aQ];exact ah _)) _ _),?_⟩)
    ·rcases hI with ⟨_,rfl,rfl⟩|⟨_,_,_,_,rfl,rfl,_⟩ <;> rfl
    ·rcases hI with ⟨_,rfl,rfl⟩|⟨_,_,_,_,rfl,rfl,_⟩ <;> (repeat first|exact aj|refine⟨aq.lit aa,?_⟩|refine⟨bW.mg (by assumption),?_⟩|refine⟨aq.append (.vals _) (.vals _),?_⟩|refine⟨aq.vals _,?_⟩)
  ·refine VS.aO aa (az (λe=>SW (aJ.1 e))) ?_;obtain rfl:z=N:=ae;rw[dM ae] at hI;rw[dM (by rw[wH];omega)] at hP hPz;replace hPz:dy (wy (cs.zip xs)) 61:=hPz.mono ae;have hrs:gr 4 (bo cs xs).length<=13000:=by rw[Ij];unfold gr;omega
   have sL:∀ x∈bo cs xs,dy x.2.1 4/\dy x.2.2 4:=by
    rcases hI with ⟨dJ,_,_⟩|⟨n',c',vs,sp,_,_,iU⟩
    ·rw[dJ];intro x hx;cases hx
    ·intro x hx;obtain⟨i,hi⟩:=oG hx;obtain⟨cs0,_,h2,_⟩:=iU.cell (eE 4) hi;exact pJ.sz h2 ae
   have Lc:zV (bn (bo cs xs)) 13000:=(pH ae _ sL).mono hrs;have QN:gu cs xss y=FE (bn (bo cs xs)) (fh (dL cs xss (y+1)) y) (fN (dL cs xss (y+1)) y):=by unfold gu;rw[zw]
   have hstep:=bal_step (xss:=xss) hyr y ae;rw[zw] at hstep;rw[QN] at gA zA;rw[QN] at gB zB;rw[QN] at gC zC;rw[QN] at gD zD;rw[QN] at gE zE;rw[QN] at gF zF;rw[QN] at gG zG;refine bD ?_;refine VO.cR aa aa (fk mX) (λwa31 ka31 ba31=>eJ _ _ (fN (dL cs xss y) ((y:Int)-1)) (wy (cs.zip xs)) AK 61 wa31 (hB.ki hBz) (hP.ki hPz) (by unfold AK;omega) ae) (λwa31 ka31 ba31 w31 s31 p31 n31 c31 t31 y31 m31 d31 q31 hb31 kb31 _ bb31=>wV aa ?_);refine bD ?_;refine VO.cond aa eh ?_;refine wV aa ?_;refine bD ?_;refine VO.read aa [.bool sE,.slice pE nE cE,.bool tE,.slice yE mE dE] aa (bc WT 16 _ ⟨_,aa⟩) (wV aa ?_);refine bD ?_;refine VO.cR aa aa (fk HF) (λQO ka32 ba32=>pg _ _ ((fN (dL cs xss y) ((y:Int)-1))+wy (cs.zip xs)) (fh (dL cs xss (y+1)) y) (AK+61+1) AK QO (q31.ki (hBz.add hPz)) (gE.ki zE) (by unfold AK;omega) (by unfold AK;omega)) (λQO ka32 ba32 w32 s32 p32 n32 c32 t32 y32 m32 d32 q32 hb32 kb32 _ bb32=>wV aa ?_);refine bD ?_;rw[<-hstep] at q32;refine VO.eX aa (fk Tryz.func120) (λwa33 β ka33 ba33 ho=>(Jd _ (bo cs xs) 4 wa33 (hI.GV (eE 4) ho (by intro q hq;rcases hI with ⟨_,rfl,rfl⟩|⟨_,_,_,_,rfl,rfl,_⟩ <;> first|(cases hq;done)|(cases ay.1 hq;rfl)) (bg.fq (show bg (zW Tryz.prog w9 207).K wX wa33 from bm))) ae ae ae).mono ?_);rintro o w33 ⟨r33,rfl,q33,hb33⟩;obtain⟨Cw,Cy,Cz,CA,CB,CC,CD,CF,CG,CH,CI,CJ,CK,CL,CM,CN,s9c,p9c,n9c,c9c,t9c,y9c,m9c,d9c,s9d,p9d,n9d,c9d,t9d,y9d,m9d,d9d,rfl,i1,i2,i3,i4⟩:=q33;refine ui hb33 ?_;intro kb33 _ bb33;refine VO.cond aa eh (wV aa ?_);refine bD ?_;refine VO.read aa [.bool sF,.slice pF nF cF,.bool tF,.slice yF mF dF] aa (bc WT 20 _ ⟨_,aa⟩) (wV aa ?_);refine bD ?_;refine VO.cB aa aa (fk Bp) (λwa34 ka34 ba34=>ku _ _ (fN (dL cs xss (y+1)) y) (fN (dL cs xss (y+1)) y) AK AK wa34 (q32.ki zF) (gF.ki zF) (by unfold AK;omega) (by unfold AK;omega) true (aw aa)) (λwa34 ka34 ba34 w34 MS kb34 _ bb34=>wV aa ?_);refine bD ?_;refine VO.cond aa eh (wV aa ?_);refine bD ?_;refine VO.read aa [.bool sB,.slice pB nB cB,.bool tB,.slice yB mB dB] aa (bc WT 4 _ ⟨_,aa⟩) (wV aa ?_);refine bD ?_;refine VO.cond aa eh (wV aa ?_);refine bD ?_;refine VO.read aa [.bool sE,.slice pE nE cE,.bool tE,.slice yE mE dE] aa (bc WT 16 _ ⟨_,aa⟩) (wV aa ?_);refine bD ?_;refine VO.cR aa aa (fk mX) (λwa35 ka35 ba35=>eJ _ _ ((bn (bo cs xs)).s-fh (dL cs xss (y+1)) y) (fh (dL cs xss (y+1)) y) AK AK wa35 (gB.ki zB) (gE.ki zE) (by unfold AK;omega) (by unfold AK;omega)) (λwa35 ka35 ba35 w35 s35 p35 n35 c35 t35 y35 m35 d35 q35 Kj kb35 _ bb35=>wV aa ?_);refine bD ?_;refine VO.cB aa aa (fk Bp) (λwa36 ka36 ba36=>ku _ _ (bn (bo cs xs)).s ((bn (bo cs xs)).s-fh (dL cs xss (y+1)) y+fh (dL cs xss (y+1)) y) 13000 (AK+AK+1) wa36 (i2.ki Lc.s) (q35.ki (zB.add zE)) ae (by unfold AK;omega) true (aw gRn)) (λwa36 ka36 ba36 w36 hb36 kb36 _ bb36=>wV aa ?_);refine bD ?_;refine VO.cond aa eh (wV aa ?_);refine bD ?_;refine VO.read aa [.bool sA,.slice pA nA cA,.bool tA,.slice yA mA dA] aa (bc WT 0 _ ⟨_,aa⟩) (wV aa ?_);refine bD ?_;refine VO.cB aa aa (fk Bp) (λwa37 ka37 ba37=>ku _ _ (bn (bo cs xs)).b (bn (bo cs xs)).b 13000 AK wa37 (i1.ki Lc.b) (gA.ki zA) ae (by unfold AK;omega) true (aw aa)) (λwa37 ka37 ba37 w37 hb37 kb37 _ bb37=>wV aa ?_);refine bD ?_;refine VO.cond aa eh (wV aa ?_);refine bD ?_;refine VO.read aa [.bool sG,.slice pG nG cG,.bool tG,.slice yG mG dG] aa (bc WT 24 _ ⟨_,aa⟩) (wV aa ?_);refine bD ?_;refine VO.cond aa eh (wV aa ?_);refine bD ?_;refine VO.read aa [.bool sB,.slice pB nB cB,.bool tB,.slice yB mB dB] aa (bc WT 4 _ ⟨_,aa⟩) (wV aa ?_);refine bD ?_;refine VO.cond aa eh (wV aa ?_);refine bD ?_;refine VO.read aa [.bool sD,.slice pD nD cD,.bool tD,.slice yD mD dD] aa (bc WT 12 _ ⟨_,aa⟩) (wV aa ?_);refine bD ?_;refine VO.cR aa aa (fk HF) (λwa38 ka38 ba38=>pg _ _ ((bn (bo cs xs)).s-fh (dL cs xss (y+1)) y) (bn (bo cs xs)).i AK AK wa38 (gB.ki zB) (gD.ki zD) (by unfold AK;omega) (by unfold AK;omega)) (λwa38 ka38 ba38 w38 s38 p38 n38 c38 t38 y38 m38 d38 q38 hb38 kb38 _ bb38=>wV aa ?_);refine bD ?_;refine VO.cB aa aa (fk Bp) (λwa39 ka39 ba39=>ku _ _ ((bn (bo cs xs)).s-fh (dL cs xss (y+1)) y-(bn (bo cs xs)).i) ((bn (bo cs xs)).s-fh (dL cs xss (y+1)) y-(bn (bo cs xs)).i) AK (AK+AK+1) wa39 (gG.ki zG) (q38.ki (zB.sub zD)) (by unfold AK;omega) (by unfold AK;omega) true (aw aa)) (λwa39 ka39 ba39 w39 hb39 kb39 _ bb39=>wV aa ?_);refine bD ?_;have hyy:(((y+1:Nat):Int)-1)=(y:Int):=ae;refine VS.back (T-(y+1)) ae ⟨_,_,?_,?_,?_,?_,⟨y+1,_,_,_,_,_,_,_,_,ae,aa,aa,aa,by rw[hyy];exact q32.kr,by rw[hyy];exact zF⟩⟩
   ·refine⟨aa,aa,aa,aa,aa,aa,?_,aj⟩;rw[<-aA (i:=y) ae];rfl
   ·exact di
   ·rfl
   ·exact fv
 ·refine VS.aO aa (az (λe=>hlt (aJ.1 e))) ?_;obtain rfl:y=T:=ae;refine bD ?_;apply VO.join (P:=Entry (λ_ L M w'=>L=[(0,.val (.slice p N c)),(1,.val (.int .i64 (E:Int))),(2,.val (.slice p2 y c2)),(9,.val (.slice pq y cq)),(17,.val (.int .i64 ((n%(y+1):Nat):Int)))]/\M=[]) 0)
  ·intro cont
   have h17:∀ t:Nat,t<=6->(IntKind.i64.wrap (n:Int)).tmod (IntKind.i64.wrap ((t:Int)+1))=((n%(t+1):Nat):Int):=λt ht=>by
    rw[cO _ ae,cO _ ae,He ae,Int.natCast_emod,Int.natCast_add];rfl
   obtain rfl|rfl|rfl|rfl|rfl|rfl|rfl:y=0\/y=1\/y=2\/y=3\/y=4\/y=5\/y=6:=ae
   all_goals
    refine wV aa (wN ?_);refine cont _ _ _ ⟨_,_,?_,?_,?_,?_,aa,aa⟩
    ·exact⟨aa,aa,aa,aa,ak (λz=>some (AV.val (.int .i64 z))) (h17 _ ae),aj⟩
    ·exact di
    ·rfl
    ·exact fv
  rintro F1 H1 v1 ⟨_,_,e1,e2,e3,e4,rfl,rfl⟩;refine VS.narrow _ _ e1 e2 e3 e4 ?_;clear e1 e2 e3 e4 F1 H1;obtain⟨K,hK⟩:∃ K,K=n%(y+1):=⟨_,aa⟩;rw[<-hK];have hKy:K<=y:=by have:=fY n (show 0<y+1 by omega);omega
  refine bD ?_;refine VO.cond aa ⟨eL,cZ,by simp;omega,ae⟩ ?_;refine VO.fix 178 aa (ak AV.val (Jo _ _ _ _ _)) ?_;refine wV aa ?_;refine bD ?_;have hmk:=Wa (k:=K) hm
  have hark:cf cs (E:Int) (ts.take K)=(fb cs xss).take K:=by
   unfold cf;rw[if_pos hmk,<-QM ae,CQ,Lw];rfl
  have hlk:((fb cs xss).take K).length=K:=by rw[cw];omega
  refine VO.call aa aa (fk yc) (λwa41 ka41 ba41=>(qJ _ _ (E:Int) cs (ts.take K) 4 wa41 (hu9.bS (cW 4) ba41) ((hv9.take ae).iI (iB 4) ba41) ae ae (.inl (by rw[cw];exact bG (kD (show min K ts.length<=6 by omega) (show cs.length<=12 by omega)) ae))).mono ?_);rintro o w41 ⟨r41,rfl,q41,hb41⟩;obtain⟨pl,cl,rfl⟩:=q41.form;rw[hark,hlk] at q41;rw[hark,hlk,hmk];refine ui hb41 ?_;intro kb41 _ bb41;refine VS.aO aa (qz aa) ?_;refine VS.pK (λw=>zW Tryz.prog w 207) (λ_=>aa) (λ_=>aa) (λ_=>aD.refl _) (λBQ β2 k10 b10 en2=> ?_);have km:aD w9 BQ:=b10;have qR:=q9.bS (bt AK) km;have qL:=(q41.kp (bt AK) (show bg (zW Tryz.prog w9 207).K w41 BQ from bm) aa).sl (bt AK);refine⟨[(9,.val (.slice pq y cq)),(17,.val (.int .i64 (K:Int))),(18,.val (.slice pl K cl))],⟨⟨_,_,aa,aa,aa⟩,⟨_,_,aa,aa,aa⟩,⟨_,_,aa,aa,aa⟩,aj⟩,?_⟩;clear hu9 hv9 q9 q41;refine bD ?_;refine VS.loop (J:=λm L M w'=>∃ z:Nat,z<=K/\m=K-z/\L=[(9,.val (.slice pq y cq)),(17,.val (.int .i64 (K:Int))),(18,.val (.slice pl K cl)),(20,.val (.int .i64 (z:Int)))]/\M=[]) K ⟨_,_,?_,?_,?_,?_,⟨0,ae,aa,aa,aa⟩⟩ ?_
  ·exact di
  ·exact di
  ·rfl
  ·exact fv
  rintro m L M wL ⟨z,hz,rfl,rfl,rfl⟩;refine bD ?_;by_cases hzk:z<K
  ·have hrz:(fb cs xss)[z]? =some (gu cs xss z):=jX ae;have hlz:((fb cs xss).take K)[z]? =some (gu cs xss z):=by rw[Ry hzk];exact hrz
   obtain⟨bL,offL,csL,rfl,hcL,⟨_,_,_,_,_,_,_,rfl,⟨slA,plA,nlA,clA,tlA,ylA,mlA,dlA,rfl,glA⟩,⟨slB,plB,nlB,clB,tlB,ylB,mlB,dlB,rfl,glB⟩,⟨slC,plC,nlC,clC,tlC,ylC,mlC,dlC,rfl,glC⟩,⟨slD,plD,nlD,clD,tlD,ylD,mlD,dlD,rfl,glD⟩,⟨slE,plE,nlE,clE,tlE,ylE,mlE,dlE,rfl,glE⟩,⟨slF,plF,nlF,clF,tlF,ylF,mlF,dlF,rfl,glF⟩,⟨slG,plG,nlG,clG,tlG,ylG,mlG,dlG,rfl,glG⟩⟩⟩:=qL.at hlz;obtain⟨bQ,offQ,csQ,rfl,hcQ,⟨_,_,_,_,_,_,_,rfl,⟨sqA,pqA,nqA,cqA,tqA,yqA,mqA,dqA,rfl,gqA⟩,⟨sqB,pqB,nqB,cqB,tqB,yqB,mqB,dqB,rfl,gqB⟩,⟨sqC,pqC,nqC,cqC,tqC,yqC,mqC,dqC,rfl,gqC⟩,⟨sqD,pqD,nqD,cqD,tqD,yqD,mqD,dqD,rfl,gqD⟩,⟨sqE,pqE,nqE,cqE,tqE,yqE,mqE,dqE,rfl,gqE⟩,⟨sqF,pqF,nqF,cqF,tqF,yqF,mqF,dqF,rfl,gqF⟩,⟨sqG,pqG,nqG,cqG,tqG,yqG,mqG,dqG,rfl,gqG⟩⟩⟩:=qR.at hrz;refine VS.aR aa (aw (aJ.2 hzk)) ?_;refine bD ?_;refine VO.cond aa eh ?_;refine wV aa ?_;refine bD ?_;refine VO.read aa [.bool slA,.slice plA nlA clA,.bool tlA,.slice ylA mlA dlA,.bool slB,.slice plB nlB clB,.bool tlB,.slice ylB mlB dlB,.bool slC,.slice plC nlC clC,.bool tlC,.slice ylC mlC dlC,.bool slD,.slice plD nlD clD,.bool tlD,.slice ylD mlD dlD,.bool slE,.slice plE nlE clE,.bool tlE,.slice ylE mlE dlE,.bool slF,.slice plF nlF clF,.bool tlF,.slice ylF mlF dlF,.bool slG,.slice plG nlG clG,.bool tlG,.slice ylG mlG dlG] aa (bc hcL 0 _ ⟨[],aa⟩) (wV aa ?_);refine bD ?_;refine VO.cond aa eh ?_;refine wV aa ?_;refine bD ?_;refine VO.read aa [.bool sqA,.slice pqA nqA cqA,.bool tqA,.slice yqA mqA dqA,.bool sqB,.slice pqB nqB cqB,.bool tqB,.slice yqB mqB dqB,.bool sqC,.slice pqC nqC cqC,.bool tqC,.slice yqC mqC dqC,.bool sqD,.slice pqD nqD cqD,.bool tqD,.slice yqD mqD dqD,.bool sqE,.slice pqE nqE cqE,.bool tqE,.slice yqE mqE dqE,.bool sqF,.slice pqF nqF cqF,.bool tqF,.slice yqF mqF dqF,.bool sqG,.slice pqG nqG cqG,.bool tqG,.slice yqG mqG dqG] aa (bc hcQ 0 _ ⟨[],aa⟩) (wV aa ?_);refine bD ?_;refine VO.call aa aa (fk Tryz.func122) (λwa51 ka51 ba51=>(FP [.bool sqA,.slice pqA nqA cqA,.bool tqA,.slice yqA mqA dqA,.bool sqB,.slice pqB nqB cqB,.bool tqB,.slice yqB mqB dqB,.bool sqC,.slice pqC nqC cqC,.bool tqC,.slice yqC mqC dqC,.bool sqD,.slice pqD nqD cqD,.bool tqD,.slice yqD mqD dqD,.bool sqE,.slice pqE nqE cqE,.bool tqE,.slice yqE mqE dqE,.bool sqF,.slice pqF nqF cqF,.bool tqF,.slice yqF mqF dqF,.bool sqG,.slice pqG nqG cqG,.bool tqG,.slice yqG mqG dqG] (gu cs xss z) AK wa51 ((bt AK).b ⟨_,_,_,_,_,_,_,aa,.mk gqA.1 gqA.2,.mk gqB.1 gqB.2,.mk gqC.1 gqC.2,.mk gqD.1 gqD.2,.mk gqE.1 gqE.2,.mk gqF.1 gqF.2,.mk gqG.1 gqG.2⟩ ba51) (by unfold AK;omega)).mono ?_);rintro o w51 ⟨ds,rfl,q51,hb51⟩;obtain⟨_,_,_,_,_,_,_,rfl,⟨svA,pvA,nvA,cvA,tvA,yvA,mvA,dvA,rfl,gvA⟩,⟨svB,pvB,nvB,cvB,tvB,yvB,mvB,dvB,rfl,gvB⟩,⟨svC,pvC,nvC,cvC,tvC,yvC,mvC,dvC,rfl,gvC⟩,⟨svD,pvD,nvD,cvD,tvD,yvD,mvD,dvD,rfl,gvD⟩,⟨svE,pvE,nvE,cvE,tvE,yvE,mvE,dvE,rfl,gvE⟩,⟨svF,pvF,nvF,cvF,tvF,yvF,mvF,dvF,rfl,gvF⟩,⟨svG,pvG,nvG,cvG,tvG,yvG,mvG,dvG,rfl,gvG⟩⟩:=q51;refine ui hb51 ?_;intro kb51 _ bb51;refine VO.cB aa aa (fk Tryz.func121) (λwa52 ka52 ba52=>zz _ _ (gu cs xss z) AK AK wa52 ⟨_,aa,(bt AK).b ⟨_,_,_,_,_,_,_,aa,.mk glA.1 glA.2,.mk glB.1 glB.2,.mk glC.1 glC.2,.mk glD.1 glD.2,.mk glE.1 glE.2,.mk glF.1 glF.2,.mk glG.1 glG.2⟩ ba52⟩ ⟨_,aa,⟨_,_,_,_,_,_,_,aa,.mk gvA.1.k gvA.2,.mk gvB.1.k gvB.2,.mk gvC.1.k gvC.2,.mk gvD.1.k gvD.2,.mk gvE.1.k gvE.2,.mk gvF.1.k gvF.2,.mk gvG.1.k gvG.2⟩⟩) (λwa52 ka52 ba52 w52 hb52 kb52 _ bb52=>wV aa ?_);refine bD ?_;refine VS.back (K-(z+1)) ae ⟨_,_,?_,?_,?_,?_,⟨z+1,ae,aa,aa,aa⟩⟩
   ·refine⟨aa,aa,aa,?_,aj⟩;rw[<-aA (i:=z) ae];rfl
   ·exact di
   ·rfl
   ·exact fv
  ·refine VS.aO aa (az (λe=>hzk (aJ.1 e))) ?_;refine bD ?_;refine VO.cB aa aa (fk jH) (λwa60 ka60 ba60=>cY wa60) (λwa60 ka60 ba60 w60 hb60 kb60 _ bb60=>wV aa ?_);refine bD ?_;refine VS.ret (mM _ _) aa aa (λwz kz bz=> ?_);exact⟨aa,(Dg.aN km).aN bz⟩
end
section
open Go.RowKit
def se (o:Oper):Bool:=match o.op with | .defer _=>false|_=>true
def lT (F:Fence):Prop:=F=Fence.wide\/∃ l,F=Fence.wide.inRound l
theorem lT.wide:lT Fence.wide:=.inl rfl
section
variable {Fe:Fence} {n:Nat} {P:Program} {o:Oper} {a:Act} {w:World} {K:Act->World->Prop} {Q:Exit->Act->World->Prop}
theorem lT.fn (h:lT Fe) (f:FuncId):Fe.fn f:=by rcases h with rfl|⟨l,rfl⟩ <;> trivial
theorem lT.depth (h:lT Fe):Fe.depth=none:=by rcases h with rfl|⟨l,rfl⟩ <;> rfl
theorem lT.calls (h:lT Fe) {f:FuncId} {args:Array Value} {R:Ending->World->Prop} (hc:Calls P f args w R):CallsIn Fe n P f args w R:=by
 have:=(callsIn_wide (n:=n)).2 hc;rcases h with rfl|⟨l,rfl⟩
 ·exact this
 ·exact this
theorem lT.rows (h:lT Fe) {r:String} {args:Array Value} {R:Value->World->Prop} (hc:Rows P r args w R):RowsIn Fe n P r args w R:=by
 have:RowsIn Fence.wide n P r args w R:=λc cs _=>let ⟨v,w',r,s⟩:=hc c cs;⟨v,w',r,stepsIn_wide.2 s⟩;rcases h with rfl|⟨l,rfl⟩
 ·exact this
 ·exact this
theorem lT.upon (h:lT Fe) {r:Result Next} (hu:o.upon P a K Q r):o.uponIn Fe n P a K Q r:=by
 have hd:Fe.depth.isSome=true->1<=n:=λe=>by rw[h.depth] at e;cases e
 cases r with
 | ok x w'=>
   cases x with
   | value v=>exact hu
   | skip=>exact hu
   | defer d=>exact hu
   | enter f args=>exact⟨hd,h.calls hu⟩
   | row r args=>exact⟨hd,h.rows hu⟩
   | round l f tmps assign body=>exact hu.elim
   | _=>exact hu.elim
 | halt x w'=>
   cases x with
   | panic v=>exact hu
   | _=>exact hu.elim
theorem lT.sem (h:lT Fe) (hd:se o=true):o.semAt Fe.round a.eval=execOp a.eval o:=by
 rcases h with rfl|⟨l,rfl⟩
 ·rfl
 ·exact Oper.semAt_some l _ _ λc e=>by unfold se at hd;rw[e] at hd;cases hd
theorem lT.op (h:lT Fe) (hd:se o=true) (hw:o.wp P a w K Q):o.wpIn Fe n P a w K Q:=by
 refine⟨λf _=>h.fn f,?_⟩;rw[h.sem hd];exact h.upon hw
end
section
variable {Fe:Fence} {n:Nat} {C:Cx} {Q:Exit->Act->World->Prop} {ml:List FuncId} {full:Array Oper}
theorem Cb (hB:lT Fe) (hC:C.Ok) {m:Option (List FuncId)} {K:Fr->Hp->World->Prop} {tl:List Oper} (hQ:∀ β F H w a w',K F H w->Rel C β F H a w'->bg C.K w w'->wpListIn Fe n C.P full Q tl a w'):
  ∀ (l:List Oper),l.all se=true->∀ (β:Nat->Nat) (F:Fr) (H:Hp) (w:World) (a:Act) (w':World),aB C m full l K F H w->Rel C β F H a w'->bg C.K w w'->wpListIn Fe n C.P full Q (l++tl) a w'
 | [],_,β,F,H,w,a,w',h,hr,hk=>hQ β F H w a w' h hr hk
 | o::r,hd,β,F,H,w,a,w',h,hr,hk=>by
   rw[List.all_cons,jP] at hd;show wpListIn Fe n C.P full Q (o::(r++tl)) a w';refine wpListIn_step λK' hK'=> ?_;have:=vN hC (next:=K') (Q:=Q) (k:=aB C m full r K) h hr hk λdQ F' H' w1 a' jf h1 h2 h3=>hK' _ _ (Cb hB hC hQ r hd.2 dQ F' H' w1 a' jf h1 h2 h3)
   split at this
   ·rename_i hw;rw[if_pos hw];exact hB.op hd.1 this
   ·rename_i hw;rw[if_neg hw];exact⟨λf _=>hB.fn f,this⟩
end
section
variable {Fe:Fence} {C:Cx} {Q:Exit->Act->World->Prop} {k:List It} {F F':Fr} {H H':Hp} {w:World} {id:Nat} {ops:Array Oper} {l':List Oper}
end
def Fr.vals (L:List (Nat×Value)):Fr:=Fr.of (L.map λp=>(p.1,.val p.2))
def Wd (F:Fr):List (Nat×Value)->Prop
 | []=>True
 | p::r=>F p.1=some (.val p.2)/\Wd F r
theorem Wd.mem {F:Fr}:∀ {L:List (Nat×Value)} {p:Nat×Value},Wd F L->p∈L->F p.1=some (.val p.2)
 | q::r,p,h,hm=>by
   rcases eD.1 hm with rfl|hm
   ·exact h.1
   ·exact Wd.mem h.2 hm
variable {L:List (Nat×Value)}
theorem FQ {d:Nat} {v:AV} (h:Fr.vals L d=some v):∃ u,v=.val u/\(d,u)∈L:=by
 have:=Fr.jq h;obtain⟨p,hp,e⟩:=eG.1 this;cases e;exact⟨p.2,aa,hp⟩
structure Knows (N:Nat) (L:List (Nat×Value)) (a:Act):Prop where
 defers:a.defers=[]
 size:a.tmps.size=N
 tmp:∀ p∈L,p.1<N/\a.tmps.getD p.1 undef=p.2
variable {a:Act} {C:Cx} {w:World}
theorem Knows.rel (h:Knows C.N L a) (ho:C.Old w):Rel C (λ_=>0) (Fr.vals L) (λ_=>none) a w:=
 ⟨h.defers,h.size,λd v hd=>by obtain⟨u,rfl,hm⟩:=FQ hd;exact (h.tmp _ hm).2,λi t cs hi=>(by cases hi),λi j hi=>absurd aa hi,λd v hd i hi=>(by obtain⟨u,rfl,hm⟩:=FQ hd;cases hi),λd v hd=>(by obtain⟨u,rfl,hm⟩:=FQ hd;exact (h.tmp _ hm).1),⟨λi t cs hi=>(by cases hi),λi t cs hi=>(by cases hi),λi hi=>aa⟩,ho⟩
theorem Rel.knows {β:Nat->Nat} {F:Fr} {H:Hp} (hr:Rel C β F H a w) (hL:Wd F L):Knows C.N L a:=
 ⟨hr.defers,hr.size,λp hp=>⟨hr.fits _ _ (hL.mem hp),hr.tmp _ _ (hL.mem hp)⟩⟩
def HeldR (N:Nat) (J:Nat->List (Nat×Value)->World->Prop) (n:Nat) (a:Act) (w:World):Prop:=∃ L,J n L w/\Knows N L a
section
variable {C:Cx} {Q:Exit->Act->World->Prop} {k:List It} {F:Fr} {H:Hp} {w:World} {J:Nat->List (Nat×Value)->World->Prop}
end
section
variable {C:Cx} {F:Fr} {H:Hp} {w:World} {Q:Exit->Act->World->Prop} {k:List It}
end
theorem rj.bS {w w1 W:World} {ad:List Nat} (h:aD w w1) (k:rj ad w1 W) (hg:∀ g∈ad,w.heap.size<=g):aD w W:=
 Below.trans h ⟨k.os,k.tape,k.output,k.size,λg Ig=>k.sm g (tS Ig h.size) λhm=>by have:=hg g hm;omega⟩
theorem at_ad1 {P:Program} {w:World} {N:Nat} {K:KC} {SU:TypeId->Bool} {ti:TypeId->Option TI} {keep:∀ b,b<w.heap.size->K.S b} {g:Nat} {ha:iR K [g] w} {x:Addr} {u:Value} (hb:x.block≠g) (h:w.cell? x=some u):Cx.At (wk P w N K SU ti keep [g] (vQ g) ha) x u:=λw1 De=>by
 have h1:rj [g] w w1:=De.1;have hlt:=Hf w x h;rw[Li (w:=w) (h1.sm _ hlt (λhm=>hb (ay.1 hm)))];exact h
section
variable {C:Cx} {F:Fr} {H:Hp} {w:World} {m:Option (List FuncId)} {full:Array Oper} {K:Fr->Hp->World->Prop} {o:Oper} {r:List Oper} {Q:Exit->Act->World->Prop} {k:List It}
def zI (F:Fr) (β dQ:Nat->Nat) (lo hi:Nat):List (Nat×AV)->Prop
 | []=>True
 | p::r=>(∃ u,F p.1=some u/\p.2.bH dQ=u.bH β/\∀ i∈p.2.ids,lo<=i/\i<hi)/\zI F β dQ lo hi r
theorem zI.mem {β dQ:Nat->Nat} {lo hi:Nat}:∀ {L:List (Nat×AV)} {d:Nat} {v:AV},zI F β dQ lo hi L->(d,v)∈L->∃ u,F d=some u/\v.bH dQ=u.bH β/\∀ i∈v.ids,lo<=i/\i<hi
 | p::r,d,v,h,hm=>by
   rcases eD.1 hm with rfl|hm
   ·exact h.1
   ·exact zI.mem h.2 hm
theorem VS.qM (K:KC) (SU:TypeId->Bool) (ti:TypeId->Option TI) (keep:∀ (w':World) b,b<w'.heap.size->K.S b)
  (h:∀ w' β,bg C.K w w'->C.Old w'->Ends C β H w'->∃ (ad:List Nat) (l:List (TypeId×List AV)) (hl:jW K C.N ad l w') (L:List (Nat×AV)),zI F β (adB C.N ad) (2*C.N) (2*C.N+l.length) L/\
   VS (wk C.P w' C.N K SU ti (keep w') ad hl.nodup hl.ad) Q k (Fr.of L) (Hp.VD (2*C.N) l) w'):VS C Q k F H w:=λβ a w' hr hk=>by
 obtain⟨ad,l,hl,L,hL,hv⟩:=h w' β hk hr.old ⟨hr.own,hr.apart⟩
 have KX:∀ i c,Hp.VD (2*C.N) l i=some c->2*C.N<=i/\l[i-2*C.N]? =some c:=λi c hi=>by
  rw[Hp.tz] at hi
  split at hi
  ·exact⟨by assumption,hi⟩
  ·cases hi
 have hsome:∀ i,Hp.VD (2*C.N) l i≠none->2*C.N<=i/\i-2*C.N<l.length:=λi hi=>by
  cases hh:Hp.VD (2*C.N) l i with
  | none=>exact absurd hh hi
  | some c=>
    obtain⟨h1,h2⟩:=KX i c hh;exact⟨h1,(cM.1 h2).1⟩
 have hval:∀ k,k<ad.length->ad[k]? =some (ad.getD k 0):=λk hk=>by simp[List.getD_eq_getElem?_getD,hk]
 refine hv (adB C.N ad) a w' ⟨hr.defers,hr.size,λd v hd=> ?_,λi t cs hi=> ?_,λi j hi hj e=> ?_,λd v hd i hi=> ?_,λd v hd=> ?_,⟨λi t cs hi=> ?_,λi t cs hi=> ?_,λi hi=> ?_⟩,(wk C.P w' C.N K SU ti (keep w') ad hl.nodup hl.ad).vJ⟩ (bg.refl _ _)
 ·obtain⟨u,h1,h2,_⟩:=hL.mem (Fr.jq hd);rw[h2];exact hr.tmp d u h1
 ·obtain⟨h1,h2⟩:=KX i _ hi;have hlt:=(cM.1 h2).1;obtain⟨g1,g2⟩:=hl.ok _ (dz h2);have hv:=hval (i-2*C.N) (by rw[hl.len];exact hlt);refine⟨?_,g1,hl.cls _ _ _ hv h2,g2⟩;show jz C.N ad w' i (adB C.N ad i);unfold jz;rw[if_pos h1];exact hv
 ·obtain⟨h1,h2⟩:=hsome i hi;obtain⟨h3,h4⟩:=hsome j hj;have e1:=hval (i-2*C.N) (by rw[hl.len];exact h2);have e2:=hval (j-2*C.N) (by rw[hl.len];exact h4);have e':ad.getD (i-2*C.N) 0=ad.getD (j-2*C.N) 0:=e;rw[<-e'] at e2;have:=(List.getElem?_inj (by rw[hl.len];exact h2) hl.nodup).1 (e1.trans e2.symm);omega
 ·obtain⟨u,h1,h2,h3⟩:=hL.mem (Fr.jq hd);obtain⟨h4,h5⟩:=h3 i hi;rw[Hp.tz,if_pos h4,bj ae];simp
 ·obtain⟨u,h1,h2,h3⟩:=hL.mem (Fr.jq hd);exact hr.fits d u h1
 ·obtain⟨h1,h2⟩:=KX i _ hi;exact hl.ok _ (dz h2)
 ·obtain⟨h1,h2⟩:=KX i _ hi;intro j hj;obtain⟨h3,h4⟩:=hl.ids _ (dz h2) j hj;rw[Hp.tz,if_pos h3,bj ae];simp
 ·have xu:2*C.N+ad.length<=i:=hi;rw[Hp.tz]
  split
  ·exact ru (by rw[<-hl.len];omega)
  ·rfl
def MK (C:Cx) (Q:Exit->Act->World->Prop) (k:List It) (full:Array Oper) (o:Oper) (F:Fr) (H:Hp) (w:World):Prop:=
 ∃ (g:FuncId) (args:List AV) (vs:List Value) (D:World->Cx),stepOf C full F H o=.call (.fn g args)/\jl args=some vs/\nL C.P g/\(∀ w,(D w).P=C.P)/\(∀ w,(D w).N=C.N)/\(∀ w,Cx.Old (D w) w)/\
   ∀ w1,bg C.K w w1->C.Old w1->Calls C.P g vs.toArray w1 λe w2=>∃ v L,e=.returned v/\Wd F L/\(∀ p∈L,o.dst≠some p.1)/\VS (D w2) Q k (Fr.vals L) (λ_=>none) w2
theorem VS.SY (hC:C.Ok) {id:Nat} {ops:Array Oper} (j:Nat) {o:Oper} (hj:ops.toList.drop j=[o]) (hd:ops.toList.all se=true) (ho:se o=true)
  (h:aB C none ops (ops.toList.take j) (MK C Q k ops o) F H w):VS C Q (.code (.region id ops false)::k) F H w:=λβ a w' hr hk=>by
 refine (wpIn_wide (n:=0)).1 (wpIn_region_list ?_);rw[<-wB j ops.toList,hj];refine Cb lT.wide hC (tl:=[o]) (λβ F H w a w' h hr hk=> ?_) (ops.toList.take j) (eg.2 λo ho=>eg.1 hd o (mU ho)) β F H w a w' h hr hk;obtain⟨g,args,vs,D,e,hv,hf,hP,hN,hO,kP⟩:=h;refine wpListIn_step λK hK=> ?_;have hb:stepOf C ops F H o≠.bad:=λe'=>by rw[e] at e';cases e'
 obtain⟨jV,⟨hw,hs⟩|⟨hw,hs⟩⟩:=oT hb
 ·rw[hs] at e;cases e
 ·rw[uX hr hw,if_pos rfl];refine lT.wide.op ho (Sf hr (hs.symm.trans e) ?_);refine⟨hf,?_⟩;rw[ng hv,iV];refine (kP w' hk hr.old).mono ?_;rintro e w2 ⟨v,L,rfl,hL,hLd,hcont⟩;refine⟨v,aa,hK _ _ ?_⟩;show post C.P Q k .normal _ w2;have KW:=hr.knows hL
  have yp:Knows (D w2).N L (a.put o.dst v):=by
   rw[hN];cases hod:o.dst with
   | none=>exact KW
   | some d=>
     refine⟨KW.defers,by simp[Act.put];exact KW.size,λp hp=>⟨(KW.tmp p hp).1,?_⟩⟩;have hne:d≠p.1:=λe=>hLd p hp (by rw[hod,e]);have:=(KW.tmp p hp).2;simp[Act.put,Array.getD_eq_getD_getElem?,Array.getElem?_setIfInBounds,hne] at this ⊢;exact this
  have:=hcont _ _ w2 (yp.rel (hO w2)) (bg.refl _ _);rw[hP] at this;exact this
end
def lU (a b:List Rat):List Rat:=List.zipWith (·+ ·) a b
theorem base_add {k:Nat} (h:k≠5) (t u a:Rat):uh k (t+u) a=uh k t a+uh k u a:=by
 unfold uh;rw[if_neg (show ¬ k=5 from h),if_neg (show ¬ k=5 from h),if_neg (show ¬ k=5 from h)];repeat' split
 all_goals grind
theorem rule_add {k:Nat} (h:k≠5) (t u a:Rat):zm k (t+u) a=(zm k t a).add (zm k u a):=by
 refine Pt.ext' ?_ (base_add h t u a) ?_ ?_
 ·show qI k (t+u)=qI k t+qI k u;unfold qI;repeat' split
  all_goals grind
 ·show GO k (t+u)=GO k t+GO k u;unfold GO;repeat' split
  all_goals grind
 ·show GP k (t+u)=GP k t+GP k u;unfold GP;repeat' split
  all_goals grind
theorem xO (x:La) (l:List La):bn (x::l)=(Kr x).add (bn l):=AE _ _
theorem We:bn []=Pt.zero:=rfl
theorem Pt.add_four (a b c d:Pt):(a.add b).add (c.add d)=(a.add c).add (b.add d):=by
 refine Pt.ext' ?_ ?_ ?_ ?_ <;> (show _+_+(_+_)=_+_+(_+_);grind)
theorem Jp:∀ {cs:List iT} {a b:List Rat},(∀ k∈cs,k.1≠5)->a.length=cs.length->b.length=cs.length->bn (bo cs (lU a b))=(bn (bo cs a)).add (bn (bo cs b))
 | [],a,b,_,_,_=>by
   show bn []=(bn []).add (bn []);rw[We,rW]
 | k::cs,x::a,y::b,h,h1,h2=>by
   show bn ((k.1,k.2,x+y)::bo cs (lU a b))=(bn ((k.1,k.2,x)::bo cs a)).add (bn ((k.1,k.2,y)::bo cs b));rw[xO,xO,xO,Jp (λk' hk=>h k' (DK _ hk)) (by simpa using h1) (by simpa using h2)];rw[show Kr (k.1,k.2,x+y)=(Kr (k.1,k.2,x)).add (Kr (k.1,k.2,y)) from rule_add (h k (Lk ..)) x y k.2];exact Pt.add_four _ _ _ _
 | _::_,[],_,_,h1,_=>by simp at h1
 | _::_,_::_,[],_,_,h2=>by simp at h2
def ysum (f:Fx->Rat) (n:Nat) (cs:List iT) (xs:List Rat):Rat:=dY (((((cs.zip xs).filter jO).map λp=>((n:Int),(gR p.1.2:Int),true,p.2)):List Fx).map f)
theorem Oa {f:Fx->Rat} (hf:∀ (y m:Int) (t u:Rat),f (y,m,true,t+u)=f (y,m,true,t)+f (y,m,true,u)) {n:Nat}:∀ {cs:List iT} {a b:List Rat},a.length=cs.length->b.length=cs.length->ysum f n cs (lU a b)=ysum f n cs a+ysum f n cs b
 | [],a,b,_,_=>by
   show dY []=dY []+dY [];rw[zn];grind
 | k::cs,x::a,y::b,h1,h2=>by
   have ih:=Oa (n:=n) hf (cs:=cs) (a:=a) (b:=b) (by simpa using h1) (by simpa using h2);unfold ysum at ih ⊢;show dY (((((k,x+y)::cs.zip (lU a b)).filter jO).map _).map f)=dY (((((k,x)::cs.zip a).filter jO).map _).map f)+dY (((((k,y)::cs.zip b).filter jO).map _).map f);by_cases hd:k.1=6
   ·have h:∀ z:Rat,jO (k,z)=true:=λz=>by unfold jO;rw[show (k,z).1.1=6 from hd];rfl
    rw[DG (h _),DG (h _),DG (h _)];simp only[List.map_cons,ja];rw[ih,hf];grind
   ·have h:∀ z:Rat,¬ jO (k,z)=true:=λz=>by unfold jO;intro e;exact hd (eq_of_beq e)
    rw[DI (h _),DI (h _),DI (h _)];exact ih
 | _::_,[],_,h1,_=>by simp at h1
 | _::_,_::_,[],_,h2=>by simp at h2
theorem FR {f:Fx->Rat} (hf:∀ (y m:Int) (t u:Rat),f (y,m,true,t+u)=f (y,m,true,t)+f (y,m,true,u)) {cs:List iT} {A B C:List (List Rat)}:∀ n,(∀ y,y<n->C.getD y []=lU (A.getD y []) (B.getD y [])/\(A.getD y []).length=cs.length/\(B.getD y []).length=cs.length)->
  dY ((jv cs C n).map f)=dY ((jv cs A n).map f)+dY ((jv cs B n).map f)
 | 0,_=>by
   show dY []=dY []+dY [];rw[zn];grind
 | n+1,h=>by
   have ih:=FR hf (cs:=cs) (A:=A) (B:=B) (C:=C) n (λy hy=>h y ae);obtain⟨h1,h2,h3⟩:=h n ae
   have e:∀ D:List (List Rat),dY ((jv cs D (n+1)).map f)=dY ((jv cs D n).map f)+ysum f n cs (D.getD n []):=λD=>by
    show dY ((jv cs D n++_).map f)=_;rw[aQ,kK];rfl
   rw[e,e,e,ih,h1,Oa hf h2 h3];grind
theorem Wf (z y m:Int) (t u:Rat):ij (y,m,true,t+u) z=ij (y,m,true,t) z+ij (y,m,true,u) z:=by
 unfold ij;have e:∀ q:Rat,ek (y,m,true,q)=ek (y,m,true,(0:Rat)):=λq=>aa;rw[e (t+u),e t,e u]
 split
 ·grind
 ·show (t+u)*_=t*_+u*_;grind
theorem ebal_lin (z y m:Int) (t u:Rat):mL (y,m,true,t+u) z=mL (y,m,true,t) z+mL (y,m,true,u) z:=by
 unfold mL;have e:∀ q:Rat,mK (y,m,true,q) z=mK (y,m,true,(0:Rat)) z:=λq=>aa;rw[e (t+u),e t,e u]
 split
 ·grind
 ·show (t+u)*_=t*_+u*_;grind
theorem arow_lin {cs:List iT} {A B C:List (List Rat)} (h5:∀ k∈cs,k.1≠5) (y:Nat) (h:∀ i,i<=y->C.getD i []=lU (A.getD i []) (B.getD i [])/\(A.getD i []).length=cs.length/\(B.getD i []).length=cs.length):
  gu cs C y=(gu cs A y).add (gu cs B y):=by
 rw[oB,oB,oB];have h1:=FR (f:=λe=>ij e y) (λa b c d=>Wf _ a b c d) (y+1) (λi hi=>h i ae);have h2:=FR (f:=λe=>mL e y) (λa b c d=>ebal_lin _ a b c d) (y+1) (λi hi=>h i ae);obtain⟨g1,g2,g3⟩:=h y (bl _);rw[h1,h2,g1,Jp h5 g2 g3];generalize bn (bo cs (A.getD y []))=P;generalize bn (bo cs (B.getD y []))=R;refine ik.ext' (Pt.ext' aa ?_ aa aa) aa aa ?_
 ·show P.s+R.s-(_+_)=(P.s-_)+(R.s-_);grind
 ·show P.s+R.s-(_+_)-(P.i+R.i)=(P.s-_-P.i)+(R.s-_-R.i);grind
theorem asum_two (x y:ik):wx [x,y]=x.add y:=by
 show (ik.zero.add x).add y=_;refine ik.ext' ?_ ?_ ?_ ?_
 ·show (Pt.zero.add x.p).add y.p=_;rw[rW];rfl
 ·show 0+x.due+y.due=_;rw[Bm];rfl
 ·show 0+x.xU+y.xU=_;rw[Bm];rfl
 ·show 0+x.own+y.own=_;rw[Bm];rfl
section
variable {C:Cx} {Q:Exit->Act->World->Prop} {k:List It} {F:Fr} {H:Hp} {w:World} {J:Nat->List (Nat×Value)->World->Prop}
def ToldL (F:Fr) (β:Nat->Nat) (L:List (Nat×Value)):Prop:=AL F β (L.map λp=>(p.1,AV.val p.2))
theorem Rel.knowsE {β:Nat->Nat} {a:Act} {L:List (Nat×Value)} (hr:Rel C β F H a w) (hL:ToldL F β L):Knows C.N L a:=
 ⟨hr.defers,hr.size,λp hp=>by
  obtain⟨u,x,h1,h2,h3⟩:=hL.mem (eG.2 ⟨p,hp,aa⟩);cases h3;exact⟨hr.fits _ u h1,by rw[hr.tmp _ u h1,h2]⟩⟩
theorem VS.Jq (D:World->Cx) (hP:∀ w,(D w).P=C.P) (hN:∀ w,(D w).N=C.N) (hO:∀ w,(D w).Old w) (n0:Nat) {body:Code} (h0:∀ w' β,bg C.K w w'->C.Old w'->Ends C β H w'->∃ L,ToldL F β L/\J n0 L w')
  (round:∀ n L W,J n L W->VS (D W) Q (.code body::.back (λa w=>∃ m,m<n/\HeldR C.N J m a w)::k) (Fr.vals L) (λ_=>none) W):VS C Q (.code (.loop body)::k) F H w:=λβ a w' hr hk=>by
 obtain⟨L,h1,h2⟩:=h0 w' β hk hr.old ⟨hr.own,hr.apart⟩;refine wp_loop_ghost (HeldR C.N J) n0 ⟨L,h2,hr.knowsE h1⟩ ?_;rintro n a1 w1 ⟨L1,hJ,yp⟩;have hkn':Knows (D w1).N L1 a1:=by rw[hN];exact yp
 have:=round n L1 w1 hJ _ a1 w1 (hkn'.rel (hO w1)) (bg.refl _ _);rw[hP] at this;exact this
theorem VS.vC {n N:Nat} (hN:C.N=N) (m:Nat) (hm:m<n) (h:∀ w' β,bg C.K w w'->C.Old w'->Ends C β H w'->∃ L,ToldL F β L/\J m L w'):VS C Q (.back (λa w=>∃ m,m<n/\HeldR N J m a w)::k) F H w:=λβ a w' hr hk=>by
 subst hN;obtain⟨L,h1,h2⟩:=h w' β hk hr.old ⟨hr.own,hr.apart⟩;exact⟨m,hm,L,h2,hr.knowsE h1⟩
end
end
end Go.Proofs.YtlifeokjcgngjaaGreat
