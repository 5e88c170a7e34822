/-FR of the proof,laid behind one another. -/
import Derived.Test.YtphfjihmohoffaaGreatKGraphLess3
import Derived.BigRegion
import Derived.OpenShut
import Derived.WideShapes
import Derived.ChangeArms
import Derived.ChangeSlices
import Derived.RangeFuncNested
import Derived.RangeFuncLeaves
import Derived.OrdersIn
import Derived.TacticsIn
import Derived.Laws.Bits64b
set_option linter.all false
set_option maxHeartbeats 64000000
set_option maxRecDepth 4000
namespace Go.Proofs.YtphfjihmohoffaaGreat
section
open Go.RowKit
attribute [local irreducible] aq VS
theorem kx (v:Value) (X:Int) (k:Nat) (w:World) (h:bP w v X k):
  Calls Tryz.prog 71 #[v] w λe w'=>∃ u,e=.returned u/\bK w' u X/\ax w w':=
 (qn v X k w w h (ax.refl w)).mono λe w' ⟨u,he,h1,h2⟩=>⟨u,he,h1.aD h2,h2⟩
variable {s:Bool} {X:Int} {w:World}
theorem bK.row {p:Option Addr} {n c:Nat} (h:bK w (.agg #[.bool s,.slice p n c]) X):Rd w 1 (.slice p n c) n (ints .u32 (limbs X.natAbs)):=h.parts.2.1
theorem bK.n {w:World} {s:Bool} {p:Option Addr} {n c:Nat} {X:Int} (h:bK w (.agg #[.bool s,.slice p n c]) X):n=(limbs X.natAbs).length:=h.parts.1
theorem rP (h:s=decide (X<0)):X=if s=true then-(X.natAbs:Int) else X.natAbs:=by
 subst h;by_cases hx:X<0
 ·simp[hx];omega
 ·simp[hx];omega
variable {full:Array Oper} {C:Cx} {F:Fr} {K:Fr->Hp->World->Prop} {g:FuncId} {H:Hp} {r:List Oper} {vs:List Value} {o:Oper} {m:Option (List FuncId)}
theorem VO.cB {args:List AV} {v:Value} (e:stepOf C full F H o=.call (.fn g args)) (hv:eE args=some vs) (hf:rC C.P g) (con:∀ w1,aY C.K w w1->C.Old w1->Calls C.P g vs.toArray w1 λe w2=>e=.returned v/\ax w1 w2) (h:∀ w1,aY C.K w w1->C.Old w1->∀ w2,ax w1 w2->aY C.K w w2->aY C.K w1 w2->C.Old w2->aq C m full r K (F.bm o.dst (.val v)) H w2):aq C m full (o::r) K F H w:=
 VO.call e hv hf λw1 a b=>(con w1 a b).mono λ_ w2 x=>⟨v,x.1,x.2,h w1 a b w2 x.2⟩
variable {Φ:World->World->Value->Prop}
theorem VO.cR {args:List AV} (e:stepOf C full F H o=.call (.fn g args)) (hv:eE args=some vs) (hf:rC C.P g) (con:∀ w1,aY C.K w w1->C.Old w1->Calls C.P g vs.toArray w1 λe w2=>∃ r,e=.returned r/\Φ w1 w2 r/\ax w1 w2) (h:∀ w1,aY C.K w w1->C.Old w1->∀ w2 (s:Bool) (p:Option Addr) (n c:Nat) (t:Bool) (y:Option Addr) (i j:Nat),Φ w1 w2 (.agg #[.bool s,.slice p n c,.bool t,.slice y i j])->ax w1 w2->aY C.K w w2->aY C.K w1 w2->C.Old w2->aq C m full r K (F.bm o.dst (.val (.agg #[.bool s,.slice p n c,.bool t,.slice y i j]))) H w2) (hΦ:∀ w1 w2 r,Φ w1 w2 r->∃ s p n c t y i j,r=.agg #[.bool s,.slice p n c,.bool t,.slice y i j]:=by exact λ_ _ _ h=>h.form):aq C m full (o::r) K F H w:=
 VO.call e hv hf λw1 a b=>(con w1 a b).mono λ_ w2 ⟨r,x1,x2,x3⟩=>by
   obtain⟨s,p,n,c,t,y,i,j,rfl⟩:=hΦ _ _ _ x2;exact⟨_,x1,x3,h w1 a b w2 s p n c t y i j x2 x3⟩
theorem VO.cI {args:List AV} (e:stepOf C full F H o=.call (.fn g args)) (hv:eE args=some vs) (hf:rC C.P g) (con:∀ w1,aY C.K w w1->C.Old w1->Calls C.P g vs.toArray w1 λe w2=>∃ r,e=.returned r/\Φ w1 w2 r/\ax w1 w2) (h:∀ w1,aY C.K w w1->C.Old w1->∀ w2 (s:Bool) (p:Option Addr) (n c:Nat),Φ w1 w2 (.agg #[.bool s,.slice p n c])->ax w1 w2->aY C.K w w2->aY C.K w1 w2->C.Old w2->aq C m full r K (F.bm o.dst (.val (.agg #[.bool s,.slice p n c]))) H w2) (hΦ:∀ w1 w2 r,Φ w1 w2 r->∃ s p n c,r=.agg #[.bool s,.slice p n c]:=by exact λ_ _ _ h=>h.form):aq C m full (o::r) K F H w:=
 VO.call e hv hf λw1 a b=>(con w1 a b).mono λ_ w2 ⟨r,x1,x2,x3⟩=>by
   obtain⟨s,p,n,c,rfl⟩:=hΦ _ _ _ x2;exact⟨_,x1,x3,h w1 a b w2 s p n c x2 x3⟩
variable {P Q:Prop}
theorem af (h:Q) (i:Q->P:=by intro h;(repeat first|refine wN ?_|refine wP rfl ?_|refine cx_r rfl ?_|refine cx_d rfl ?_|refine wO rfl rfl ?_);exact h):P:=i h
theorem ck {X:Prop} (hb:X) (h:Q) (i:X->Q->P:=by intro hb h;refine⟨_,rfl,hb,λa b c=>wV rfl ?_⟩;refine af ?_;revert a b c;exact h):P:=i hb h
theorem bH (h:Q) (i:Q->P:=by intro h;exact VS.ret (bQ _ _) rfl rfl h):P:=i h
theorem wU (v:Value) (X:Int) (j:Nat) (w:World) (hv:bP w v X j) (hj:j<=1073741824):
  Calls Tryz.prog 69 #[v] w λe w'=>∃ r,e=.returned r/\aw w' w.heap.size r (-X)/\ax w w':=by
 obtain⟨s,p,n,c,rfl⟩:=hv.form;have hl:=hv.len;refine ar (C:=bD Tryz.prog w _) (args:=[_]) Tryz.func69 aa Tryz.ntmps69 (cz aa) ?_;refine af ?_;refine VO.call aa aa (fk qR) (λgQ ky kV=>(kx _ X j gQ (hv.kp ky)).mono ?_);rintro e w1 ⟨r1,rfl,h1,bS⟩;obtain⟨s1,p1,n1,c1,rfl⟩:=h1.gH;refine ck bS ?_;intro nZ _ bb1;refine VO.call aa aa (fk qR) (λgI jK iV=>(kx _ X j gI (hv.kp ((nZ).aB jK))).mono ?_);rintro e w2 ⟨r2,rfl,h2,bO⟩;obtain⟨s2,p2,n2,c2,rfl⟩:=h2.gH;refine ck bO ?_;intro oc _ bb2;refine VO.cI aa aa (fk qS) (λfS gR gY=>iu (!s1) _ n2 _ fS (h2.row.kp gR) (ak _) (by rw[h2.n];omega)) (λfS gR gY w3 s3 p3 n3 c3 h3 dc nj _ bb3=>wV aa ?_);refine af ?_;refine bH ?_;intro wz kz bz;refine⟨_,aa,aw.cast ((h3.kp kz).mono gY.size) ?_,bz⟩;rw[ah];have:=rP h1.sgn;cases s1 <;> simp at this ⊢ <;> omega
theorem wW (v u:Value) (X Y:Int) (j k:Nat) (w:World) (hv:bP w v X j) (hu:bP w u Y k) (hj:j<=536870912) (hk:k<=536870911):
  Calls Tryz.prog 54 #[v,u] w λe w'=>∃ r,e=.returned r/\aw w' w.heap.size r (X+Y)/\ax w w':=by
 obtain⟨s,p,n,c,rfl⟩:=hv.form;obtain⟨t,q,m,d,rfl⟩:=hu.form;have sn:=hv.len;have mY:=hu.len;refine ar (C:=bD Tryz.prog w _) (args:=[_,_]) Tryz.func54 aa Tryz.ntmps54 (cz aa) ?_;refine af ?_;refine VO.call aa aa (fk qR) (λgQ ky kV=>(kx _ X j gQ (hv.kp ky)).mono ?_);rintro e w1 ⟨r1,rfl,h1,bS⟩;obtain⟨s1,p1,n1,c1,rfl⟩:=h1.gH;refine ck bS ?_;intro nZ _ bb1;refine VO.call aa aa (fk qR) (λgI jK iV=>(kx _ Y k gI (hu.kp ((nZ).aB jK))).mono ?_);rintro e w2 ⟨r2,rfl,h2,bO⟩;obtain⟨s2,p2,n2,c2,rfl⟩:=h2.gH;refine ck bO ?_;intro oc _ bb2;have e1:=rP h1.sgn;have e2:=rP h2.sgn;have hn1:n1<=536870912:=by rw[h1.n];omega
 have xS:n2<=536870911:=by rw[h2.n];omega
 by_cases hst:s1=s2
 ·subst hst;refine VS.bJ aa bc ?_;refine af ?_;refine VO.call aa aa (fk Tryz.func72) (λfS gR gY=>(IB _ _ n1 n2 _ _ fS (h1.row.kp (jK.aB ((Kp.of bO).aB gR))) (h2.row.kp gR) (ak _) (ak _) ae ae).mono ?_);rintro e w3 ⟨v3,rfl,h3,dc⟩;obtain⟨p3,c3,rfl,_⟩:=Own.form h3;refine ck dc ?_;intro nj _ bb3;refine VO.cI aa aa (fk qS) (λjL lV mz=>iu s1 _ _ _ jL (Rd.own (Own.kp h3 lV)) (ak _) (by have:=sum_len (a:=ag (limbs X.natAbs)) (b:=ag (limbs Y.natAbs)) (n:=n1) (m:=n2) (by rw[ah];exact h1.n) (by rw[ah];exact h2.n);omega)) (λjL lV mz w4 s4 p4 n4 c4 h4 fv rQ _ CO=>wV aa ?_);refine af ?_;refine bH ?_;intro wz kz bz;refine⟨_,aa,aw.cast ((h4.kp kz).mono mz.size) ?_,bz⟩;rw[ah,ah,ah];cases s1 <;> simp at e1 e2 ⊢ <;> omega
 ·refine VS.cd aa (by simpa using hst) ?_;refine af ?_;refine VO.call aa aa (fk Tryz.func73) (λfS gR gY=>(yG _ _ n1 n2 _ _ fS (h1.row.kp (jK.aB ((Kp.of bO).aB gR))) (h2.row.kp gR) (ak _) (ak _) ae ae).mono ?_);rintro e w3 ⟨h3,dc⟩;rw[ah,ah] at h3;rcases h3 with ⟨hlt,rfl⟩|⟨hle,v3,rfl,h3⟩
  ·refine ck dc ?_;intro nj _ bb3;refine VO.call aa aa (fk Tryz.func73) (λjL lV mz=>(yG _ _ n2 n1 _ _ jL (h2.row.kp (gR.aB ((Kp.of dc).aB lV))) (h1.row.kp (jK.aB ((Kp.of bO).aB (gR.aB ((Kp.of dc).aB lV))))) (ak _) (ak _) ae ae).mono ?_);rintro e w4 ⟨h4,fv⟩;rw[ah,ah] at h4;rcases h4 with ⟨hlt',rfl⟩|⟨hle',v4,rfl,h4⟩
   ·omega
   ·obtain⟨p4,c4,rfl,_⟩:=Own.form h4;refine ck fv ?_;intro rQ _ CO;refine VO.cI aa aa (fk qS) (λjM lI kY=>iu s2 _ _ _ jM (Rd.own (Own.kp h4 lI)) (ak _) (by have:=bX (show Y.natAbs-X.natAbs<=Y.natAbs by omega);omega)) (λjM lI kY w5 s5 p5 n5 c5 h5 jJ qI _ CP=>wV aa ?_);refine af ?_;refine bH ?_;intro wz kz bz;refine⟨_,aa,aw.cast ((h5.kp kz).mono kY.size) ?_,bz⟩;rw[ah];cases s1 <;> cases s2 <;> simp at e1 e2 hst ⊢ <;> omega
  ·obtain⟨p3,c3,rfl,_⟩:=Own.form h3;refine ck dc ?_;intro nj _ bb3;refine VO.cI aa aa (fk qS) (λjM lI kY=>iu s1 _ _ _ jM (Rd.own (Own.kp h3 lI)) (ak _) (by have:=bX (show X.natAbs-Y.natAbs<=X.natAbs by omega);omega)) (λjM lI kY w5 s5 p5 n5 c5 h5 jJ qI _ CP=>wV aa ?_);refine af ?_;refine bH ?_;intro wz kz bz;refine⟨_,aa,aw.cast ((h5.kp kz).mono kY.size) ?_,bz⟩;rw[ah];cases s1 <;> cases s2 <;> simp at e1 e2 hst ⊢ <;> omega
theorem CQ (v u:Value) (X Y:Int) (j k:Nat) (w:World) (hv:bP w v X j) (hu:bP w u Y k) (hj:j<=536870912) (hk:k<=536870911):
  Calls Tryz.prog 90 #[v,u] w λe w'=>∃ r,e=.returned r/\aw w' w.heap.size r (X-Y)/\ax w w':=by
 obtain⟨s,p,n,c,rfl⟩:=hv.form;obtain⟨t,q,m,d,rfl⟩:=hu.form;refine ar (C:=bD Tryz.prog w _) (args:=[_,_]) Tryz.func90 aa Tryz.ntmps90 (cz aa) ?_;refine af ?_;refine VO.cI aa aa (fk Tryz.func69) (λgQ ky kV=>wU _ Y k gQ (hu.kp ky) ae) (λgQ ky kV w1 s1 p1 n1 c1 h1 bS nZ _ bb1=>wV aa ?_);refine af ?_;refine VO.cI aa aa (fk Tryz.func54) (λgI jK iV=>wW _ _ X (-Y) j k gI (hv.kp ((nZ).aB jK)) ((h1.kp jK).in (Sz.neg hu.len)) hj hk) (λgI jK iV w2 s2 p2 n2 c2 h2 bO oc _ bb2=>wV aa ?_);refine af ?_;refine bH ?_;intro wz kz bz;exact⟨_,aa,aw.cast ((h2.kp kz).mono iV.size) (Int.sub_eq_add_neg).symm,bz⟩
end
section
open Go.RowKit
attribute [local irreducible] aq VS
set_option maxRecDepth 100000 in
theorem fK (p:Option Addr) (n c:Nat) (xs:List Nat) (w:World) (hr:Rd w 1 (.slice p n c) n (ints .i64 xs)) (hl:fe xs):
  Calls Tryz.prog 95 #[.slice p n c] w λe w'=>(∃ m,m<=n/\e=.returned (.slice p m c)/\halves (hval xs)=xs.take m)/\w=w':=by
 obtain⟨p',c',hv,iD,fO,dv⟩:=hr.i64;simp only[Value.slice.injEq,true_and] at hv;obtain⟨rfl,rfl⟩:=hv;have HX:Hid (xs.length=n):=dv;clear dv;refine aE λR' bh=> ?_;go_enter tE,Tryz.ntmps95
 go_wp2
 go_loop [0] (λv=>∃ m,m<=n/\v=.slice p m c/\hval (xs.take m)=hval xs) (λv=>match v with | .slice _ m _=>m|_=>0)
 case atStart=>exact⟨n,aM _,aa,by rw[du (dI HX.out)]⟩
 case round=>
  obtain⟨m,hm,rfl,hv⟩:=hrel;have HV:Hid (hval (xs.take m)=hval xs):=hv;clear hv;by_cases h0:m=0
  ·subst h0;go_wp2
   exact bh.out _ _ ⟨⟨0,cD _,aa,iY ae hl (cD _) HV.out (.inl aa)⟩,aa⟩
  ·obtain⟨b,off,x,rfl,hb,hx,hc⟩:=hr.cellAt (k:=m-1) ae;have Kv:Hid (xs[m-1]? =some x):=hx;clear hx;have h0':0<m:=ae;obtain⟨j,rfl⟩:∃ j,m=j+1:=⟨m-1,ae⟩;rw[Gi] at hc;by_cases mR:x=0
   ·subst mR;go_wp2
    go_round
    case rel=>exact⟨j,ae,aa,(jW Kv.out).symm.trans HV.out⟩
    case measure=>simp
   ·have hx0':((x:Int) == 0)=false:=by rw[iJ];omega
    go_wp2
    exact bh.out _ _ ⟨⟨j+1,hm,aa,iY ae hl (by rw[HX.out];exact hm) HV.out (.inr ⟨x,Kv.out,mR⟩)⟩,aa⟩
set_option maxRecDepth 100000 in
theorem Ak (va:Value) (n:Nat) (xs:List Nat) (w:World) (hr:Rd w 1 va n (ints .u32 xs)) (hl:bR xs) (hn:n<=1073741824):
  Calls Tryz.prog 76 #[va] w λe w'=>∃ v',e=.returned v'/\w'.ownsRow w.heap.size 3 1 v' (halves (ag xs)).length (ints .i64 (halves (ag xs)))/\Below w.heap.size w w':=by
 obtain⟨p,c,rfl,iD,fO,dv⟩:=hr.u32;obtain⟨i0,hi,jN,kM,mZ⟩:=info_parts uP;obtain⟨B,hB⟩:∃ B,B=w.heap.size:=⟨_,aa⟩;have HB:=ab hB;have Hr:=ab hr;have HL:=ab hl;have HX:=ab dv;rw[<-hB];clear hr hl dv hB;refine aE λR' bh=> ?_;go_enter Tryz.func76,Tryz.ntmps76
 go_wp2
 go_loopw [3,4] (λov iv wr=>GG w B xs ov iv wr) (λ_ iv _=>n-(intOf iv).toNat)
 case atStart=>exact⟨0,[],cD _,aa,aa,dp.nil _,aa,jh _ _ _ _,dJ _ _⟩
 case round=>
  obtain⟨k,hs,hk,rfl,zT,hhh,hhv,ay,hb⟩:=hrel;have HK:=ab hk;have HO:=ab ay;have HHL:=ab zT;have HHH:=ab hhh;have HHV:=ab hhv;have fx:=ab hb;have pV:B<=wr.heap.size:=by have:=hb.size;have:=HB.out;omega
  have Et:k<=n:=by rw[<-HX.out];exact hk
  clear hk ay zT hhh hhv hb;by_cases tJ:k<n
  ·obtain⟨b1,o1,x,rfl,bS,fo,GA⟩:=Hr.out.cellAt tJ;have pU:=(fx.out.cell (p:=⟨b1,o1+k,none⟩) (by rw[HB.out];exact bS)).trans GA;have hne:=Ks HO.out (b:=b1) (by rw[HB.out];exact bS);have uM:=ab fo;have ja:=HL.out.at fo;have HNE:=ab hne;have Gy:(0:Int)<=(k:Int):=ae;have uQ:(k:Int)<(n:Int):=ae;clear fo GA hne;go_wp2_with fail
   go_region_held3 (λw'=>w'.cell? ⟨b1,o1+k,none⟩=some (.int .u32 (x:Int))) (first|exact pU|go_keep|exact yt wh pU HNE.out)
    ((refine nF (by rfl) _ _ 27 (by rfl) B 3 i0 (.int .i64 0) 1 8 yh hi jN kM mZ aa ae _ (2*k) (ints .i64 hs) (by rfl) ((HO.out.alloc _).drew) _ 2 (ints .i64 [x%65536,x/65536]) (by rfl) (Rd.drew (Rd.lit2 (GH ja) (GI ja))) (lp .i64 [x%65536,x/65536]) (by unfold maxLen;omega) ae (by simp;omega) ?_;intro v1 w1 eG wh))
   have qH:=ab eG;have HG1:=ab wh;clear eG wh;go_wp2_with fail
   go_roundw
   case rel=>
    have hst:=yE uM.out ja HHL.out HHH.out HHV.out;exact⟨k+1,hs++[x%65536,x/65536],by rw[HX.out];omega,by go_num,by simp[HHL.out];omega,hst.1,hst.2,by rw[fF];exact qH.out,Below.behind fx.out pV HG1.out HO.out (aM _)⟩
   case measure=>simp[intOf];omega
  ·obtain rfl:k=n:=by omega
   obtain⟨p1,c1,vP,_,_,_⟩:=Own.form HO.out;have HV1:=ab vP;have dN:Hid (hval hs=ag xs):=by show _=_;rw[HHV.out,bb (dI HX.out)]
   subst vP;go_wp2_with fail
   refine (fK p1 (2*k) c1 hs _ (Rd.own HO.out) HHH.out).mono ?_;rintro e w2 ⟨⟨m,hm,rfl,uL⟩,rfl⟩;have HC:=Own.cut HO.out hm uL;rw[dN.out] at HC;have HC1:=ab HC.1;have HC2:=ab HC.2;clear HC uL;go_wp2_with fail
   refine bh.out _ _ ⟨_,aa,?_,fx.out⟩;have:=HC1.out;rw[<-HC2.out] at this ⊢;exact this
theorem LP {n:Int} (h0: -9223372036854775808<=n) (h1:n<=9223372036854775807):rB (n.tmod 4294967296) [IntKind.i64.wrap (0-n.tmod 4294967296)]=((n.natAbs%4294967296:Nat):Int):=by
 have e:(n.tmod 4294967296).natAbs=n.natAbs%4294967296:=by rw[Int.natAbs_tmod];rfl
 have hs:(0<=n->0<=n.tmod 4294967296):=λh=>Int.tmod_nonneg _ h;have hs':(n<=0->n.tmod 4294967296<=0):=λh=>by have:=Int.tmod_nonneg 4294967296 (show 0<=-n by omega);rw[Int.neg_tmod] at this;omega
 rw[bj _ ae];unfold rB rB
 split <;> omega
theorem LQ {n:Int} (h0: -9223372036854775808<=n) (h1:n<=9223372036854775807):rB (IntKind.i64.wrap (n.tdiv 4294967296)) [IntKind.i64.wrap (0-IntKind.i64.wrap (n.tdiv 4294967296))]=((n.natAbs/4294967296:Nat):Int):=by
 have e:(n.tdiv 4294967296).natAbs=n.natAbs/4294967296:=by rw[Int.natAbs_tdiv];rfl
 have hs:(0<=n->0<=n.tdiv 4294967296):=λh=>Int.tdiv_nonneg h ae;have hs':(n<=0->n.tdiv 4294967296<=0):=λh=>by have:=Int.tdiv_nonneg (show 0<=-n by omega) (show (0:Int)<=4294967296 by omega);rw[Int.neg_tdiv] at this;omega
 have hb:n.natAbs/4294967296<=2147483648:=ae;rw[bj (n.tdiv 4294967296) ae,bj _ ae];unfold rB rB
 split <;> omega
theorem Hc {x:Nat} (h:x<4294967296):IntKind.u32.wrap (x:Int)=(x:Int):=by rw[Gl,Int.emod_eq_of_lt ae ae]
theorem oN (n:Int) (w:World) (h0: -9223372036854775808<=n) (h1:n<=9223372036854775807):
  Calls Tryz.prog 51 #[.int .i64 n] w λe w'=>∃ r,e=.returned r/\aw w' w.heap.size r n/\ax w w':=by
 have e1:=LP h0 h1;have e2:=LQ h0 h1;have g1:=cM n.natAbs (show 0<4294967296 by omega);have g2:n.natAbs/4294967296<4294967296:=ae;refine ar (C:=bD Tryz.prog w _) (args:=[_]) vC aa Tryz.ntmps51 (cz aa) ?_;refine af ?_;refine VO.lit (bQ _ _) [.int .u32 (IntKind.u32.wrap (rB (n.tmod 4294967296) [IntKind.i64.wrap (0-n.tmod 4294967296)])),.int .u32 (IntKind.u32.wrap (rB (IntKind.i64.wrap (n.tdiv 4294967296)) [IntKind.i64.wrap (0-IntKind.i64.wrap (n.tdiv 4294967296))]))] aa aa aa aa aa aa aa aa aa ae (λw2 b k2 b2 ho=>wV aa ?_);rw[e1,e2,Hc g1,Hc g2] at ho;refine VO.cI aa aa (fk qS) (λfS gR gY=>iu (decide (n<0)) _ 2 [n.natAbs%4294967296,n.natAbs/4294967296] fS (Rd.own (Own.kp (cs:=ints .u32 [n.natAbs%4294967296,n.natAbs/4294967296]) ho gR)) (dp.cons g1 (dp.cons g2 (dp.nil _))) ae) (λfS gR gY w3 s3 p3 n3 c3 h3 dc nj _ bb3=>wV aa ?_);refine af ?_;refine bH ?_;intro wz kz bz;refine⟨_,aa,aw.cast ((h3.kp kz).mono gY.size) ?_,bz⟩;rw[ez,ez,dz];by_cases hn:n<0
 ·simp only[hn,decide_true,if_true];omega
 ·simp only[hn,decide_false];simp;omega
end
section
open Go.RowKit
def lv (ls:List Nat) (k j:Nat):Nat:=(if 2*j<k then ls.getD (2*j) 0 else 0)+65536*(if 2*j+1<k then ls.getD (2*j+1) 0 else 0)
def xz (ls:List Nat) (m k:Nat):List Nat:=(List.range m).map (lv ls k)
theorem LR (ls:List Nat) (m:Nat):xz ls m 0=List.replicate m 0:=by
 apply List.ext_getElem
 ·simp[xz]
 ·intro i h1 h2;simp[xz,lv]
variable {ls:List Nat} {m j x:Nat}
theorem LS (hx:ls[2*j]? =some x):(xz ls m (2*j)).set j x=xz ls m (2*j+1):=by
 apply List.ext_getElem
 ·simp[xz]
 ·intro i h1 h2;simp only[xz,List.getElem_set,List.getElem_map,List.getElem_range];by_cases e:j=i
  ·subst e;rw[if_pos rfl];unfold lv;rw[if_pos ae,if_neg ae,eL,hx];rfl
  ·rw[if_neg e];unfold lv
   congr 1
   ·by_cases h:2*i<2*j
    ·rw[if_pos h,if_pos ae]
    ·rw[if_neg h,if_neg ae]
   ·by_cases h:2*i+1<2*j
    ·rw[if_pos h,if_pos ae]
    ·rw[if_neg h,if_neg ae]
theorem lds_odd {y:Nat} (hy:(xz ls m (2*j+1))[j]? =some y) (hx:ls[2*j+1]? =some x):(xz ls m (2*j+1)).set j (y+65536*x)=xz ls m (2*j+2):=by
 have hy':y=ls.getD (2*j) 0:=by
  obtain⟨h,rfl⟩:=bx.1 hy;simp only[xz,List.getElem_map,List.getElem_range];unfold lv;rw[if_pos ae,if_neg ae];rfl
 apply List.ext_getElem
 ·simp[xz]
 ·intro i h1 h2;simp only[xz,List.getElem_set,List.getElem_map,List.getElem_range];by_cases e:j=i
  ·subst e;rw[if_pos rfl];unfold lv;rw[if_pos ae,if_pos ae,hy']
   congr 2
   rw[eL,hx];rfl
  ·rw[if_neg e];unfold lv
   congr 1
   ·by_cases h:2*i<2*j+1
    ·rw[if_pos h,if_pos ae]
    ·rw[if_neg h,if_neg ae]
   ·by_cases h:2*i+1<2*j+1
    ·rw[if_pos h,if_pos ae]
    ·rw[if_neg h,if_neg ae]
theorem lds_end (h:fe ls) (hm:ls.length<=2*m):ag (xz ls m ls.length)=hval ls/\bR (xz ls m ls.length):=by
 have hb:∀ k,ls.getD k 0<65536:=λk=>jc h k
 have rk:∀ j,lv ls ls.length j=ls.getD (2*j) 0+65536*ls.getD (2*j+1) 0:=λj=>by
  unfold lv
  congr 1
  ·split
   ·rfl
   ·rw[fG ae]
  ·split
   ·rfl
   ·rw[fG ae]
 constructor
 ·have key:∀ j,j<=m->ag ((xz ls m ls.length).take j)=hval (ls.take (2*j)):=by
   intro j
   induction j with
   | zero=>intro _;rfl
   | succ j ih=>
     intro hj;rw[aO,ih ae]
     have e:(xz ls m ls.length).getD j 0=ls.getD (2*j) 0+65536*ls.getD (2*j+1) 0:=by
      rw[eL];simp[xz,show j<m by omega,rk]
     rw[e];show _=val 65536 (ls.take (2*j+1+1));rw[bE,bE,bg,<-db,dT 65536 (2*j),yo];show val 65536 _+_=_;rw[vA]
  have:=key m (aM _);rw[du (by simp[xz]),du hm] at this;exact this
 ·intro x hx;obtain⟨j,_,rfl⟩:=cU.1 hx;rw[rk];have:=hb (2*j);have:=hb (2*j+1);omega
def Jg (w:World) (B g m:Nat) (ls:List Nat) (iv:Value) (wr:World):Prop:=
 ∃ k,k<=ls.length/\iv=.int .i64 (k:Int)/\wr.ownsRow B 122 1 (.slice (some ⟨g,0,none⟩) m m) m (ints .u32 (xz ls m k))/\Below B w wr
set_option maxRecDepth 100000 in
theorem CR (va:Value) (n:Nat) (ls:List Nat) (w:World) (hr:Rd w 1 va n (ints .i64 ls)) (hl:fe ls) (hn:n<=2147483656):
  Calls Tryz.prog 74 #[va] w λe w'=>∃ v' xs,e=.returned v'/\xs.length=(n+1)/2/\w'.ownsRow w.heap.size 122 1 v' ((n+1)/2) (ints .u32 xs)/\ag xs=hval ls/\bR xs/\Below w.heap.size w w':=by
 obtain⟨p,c,rfl,iD,fO,dv⟩:=hr.i64;obtain⟨i0,hi,jN,kM,mZ⟩:=info_parts gW;obtain⟨B,hB⟩:∃ B,B=w.heap.size:=⟨_,aa⟩;have HB:=ab hB;have Hr:=ab hr;have HL:=ab hl;have HX:=ab dv;obtain⟨m,hm⟩:∃ m,m=(n+1)/2:=⟨_,aa⟩;have HM:=ab hm;have hmn:n<=2*m:=ae;have hmb:m<=1073741828:=ae;have hq:((n:Int)+1)/2=(m:Int):=ae;rw[<-hB,<-hm];clear hr hl dv hB hm;refine aE λR' bh=> ?_;go_enter Tryz.func74,Tryz.ntmps74
 go_wp2_with (at_make;refine wpList_make_full _ aa _ _ 31 aa B 122 i0 (.int .u32 0) 1 jg hi jN kM .i64 .i64 _ _ m aa aa hq hq (by rw[mZ];omega) (by unfold maxLen;omega) (dI HB.out) ?_;intro w1 ay Ig)
 have Ea:=ab (Own.made ay);have Hb1:Hid (Below B w w1):=(dJ _ _).grown Ig (dI HB.out) (λk hk=>by cases hk);clear ay Ig hq;go_wp2_with fail
 go_loopw [4] (λiv wr=>Jg w B w.heap.size m ls iv wr) (λiv _=>n-(intOf iv).toNat)
 case atStart=>exact⟨0,cD _,aa,by rw[LR];have:=Ea.out;rw[pg] at this;exact this,Hb1.out⟩
 case round=>
  obtain⟨k,hk,rfl,ay,hb⟩:=hrel;have mV:=ab ay;have nH:=ab hb;have tJ:k<=n:=by rw[<-HX.out];exact hk
  clear ay hb hk;by_cases hlt:k<n
  ·obtain⟨b1,o1,x,rfl,bS,fo,GA⟩:=Hr.out.cellAt hlt;have pU:=(nH.out.cell (p:=⟨b1,o1+k,none⟩) (by rw[HB.out];exact bS)).trans GA;have ja:=HL.out.at fo;have uM:=ab fo;obtain⟨j,hj⟩:∃ j,j=k/2:=⟨_,aa⟩;have hk2:(k:Int)/2=(j:Int):=ae;have hjm:j<m:=ae;obtain⟨z,hz,hcell,xF⟩:=Own.fu mV.out (j:=j) hjm;have HZ:=ab hz;have hw4:(x:Int)%4294967296=(x:Int):=ae;have hj0:(0:Int)<=(j:Int):=ae;have hj1:(j:Int)<(m:Int):=ae;have Gy:(0:Int)<=(k:Int):=ae;have uQ:(k:Int)<(n:Int):=ae;by_cases he:k%2=0
   ·have hke:((k:Int)%2 == 0)=true:=by rw[beq_iff_eq];omega
    have HK:Hid (k=2*j):=by show _=_;omega
    clear fo GA he hj hz;go_wp2_with fail
    go_roundw
    case rel=>
     refine⟨k+1,by rw[HX.out];omega,by go_num,?_,nH.out.setCell (Own.lt mV.out).1 _⟩;have h1:=Own.fc (j:=j) (x:=x) mV.out;rw[HK.out,LS (by rw[<-HK.out];exact uM.out)] at h1;rw[HK.out];simpa using h1
    case measure=>simp[intOf];omega
   ·have hke:((k:Int)%2 == 0)=false:=by rw[iJ];omega
    have HK:Hid (k=2*j+1):=by show _=_;omega
    have hz4:z<65536:=by
     have:=HZ.out;rw[HK.out] at this;obtain⟨h,rfl⟩:=bx.1 this;simp only[xz,List.getElem_map,List.getElem_range];unfold lv;rw[if_pos ae,if_neg ae];exact jc HL.out _
    have hw5:IntKind.u32.wrap (z+IntKind.u32.wrap (65536*(x:Int)))=((z+65536*x:Nat):Int):=by
     rw[Gl,Gl];omega
    clear fo GA he hj hz;go_wp2
    go_region
    all_goals
     go_wp2_with fail
     go_roundw
     case rel=>
      refine⟨k+1,by rw[HX.out];omega,by go_num,?_,(nH.out.setCell (Own.lt mV.out).1 _).drew⟩;have h1:=Own.fc (j:=j) (x:=z+65536*x) mV.out;rw[HK.out,lds_odd (by have:=HZ.out;rw[HK.out] at this;exact this) (by rw[<-HK.out];exact uM.out)] at h1;rw[HK.out];have h2:(((z+65536*x:Nat):Int))=(z:Int)+65536*(x:Int):=ae;rw[h2] at h1;exact h1
     case measure=>simp[intOf];omega
  ·obtain rfl:k=n:=by omega
   obtain⟨e1,e2⟩:=lds_end HL.out (m:=m) (by rw[HX.out];exact hmn);rw[HX.out] at e1 e2;have E1:=ab e1;have E2:=ab e2;clear e1 e2;go_wp2_with fail
   exact bh.out _ _ ⟨_,_,aa,by simp[xz],mV.out,E1.out,E2.out,nH.out⟩
end
section
open Go.RowKit
variable {xs:List Nat} {B j o:Nat}
theorem val_set {v:Nat} (h:xs[j]? =some o):val B (xs.set j v)+B^j*o=val B xs+B^j*v:=by
 obtain⟨hl,he⟩:=bx.1 h;have h1:xs=xs.take j++o::xs.drop (j+1):=by rw[<-he,<-mK hl,oZ]
 have h2:xs.set j v=xs.take j++v::xs.drop (j+1):=by
  conv=>lhs;rw[h1]
  rw[qJ _ _ (by rw[aR];omega)];rw[aR,dF ae,iP];rfl
 have e1:val B xs=val B (xs.take j)+B^j*(o+B*val B (xs.drop (j+1))):=by
  conv=>lhs;rw[h1]
  rw[gK,aR,dF ae,ft]
 have e2:val B (xs.set j v)=val B (xs.take j)+B^j*(v+B*val B (xs.drop (j+1))):=by
  rw[h2,gK,aR,dF ae,ft]
 rw[e1,e2,bg,bg];omega
theorem fe.set (h:fe xs) {v:Nat} (hv:v<65536) (j:Nat):fe (xs.set j v):=λy hy=>by
 rcases xZ hy with h1|h1
 ·exact h y h1
 ·rw[h1];exact hv
variable {i x c:Nat}
theorem rR {os:List Nat} {k y s S Y:Nat} (ho:os[i+k]? =some o) (hs:s=x*y+o+c) (h:hval os+65536^(i+k)*c=S+65536^i*(x*Y)):
  hval (os.set (i+k) (s%65536))+65536^(i+(k+1))*(s/65536)=S+65536^i*(x*(Y+65536^k*y)):=by
 have h1:hval (os.set (i+k) (s%65536))+65536^(i+k)*o=hval os+65536^(i+k)*(s%65536):=val_set ho;have h2:65536^(i+(k+1))=65536^(i+k)*65536:=by rw[<-vA,dT]
 have h3:65536^(i+k)*s=65536^(i+k)*(s%65536)+65536^(i+k)*65536*(s/65536):=by
  rw[db,<-bg,qO]
 have h4:65536^(i+k)*s=65536^(i+k)*(x*y)+65536^(i+k)*o+65536^(i+k)*c:=by rw[hs,bg,bg]
 have h5:65536^i*(x*(Y+65536^k*y))=65536^i*(x*Y)+65536^(i+k)*(x*y):=by
  rw[bg,bg,mQ]
  congr 1
  rw[yg x,db]
 rw[h2,h5];omega
def iv (xs:List Nat):List AV:=(ints .i64 xs).map .val
theorem bI (xs:List Nat):(iv xs).length=xs.length:=by simp[iv]
theorem LU (h:xs[j]? =some x):(iv xs)[j]? =some (.val (.int .i64 (x:Int))):=by
 unfold iv;rw[iK,qW h];rfl
theorem oO (xs ys:List Nat):iv (xs++ys)=iv xs++iv ys:=by simp[iv,fF]
theorem lJ (xs:List Nat):(iv xs).all aF=true:=cO (aW.2 λu hu=>by obtain⟨_,_,rfl⟩:=cU.1 hu;rfl)
theorem Hd (xs:List Nat):(ints .i64 xs).all aK=true:=aW.2 λu hu=>by obtain⟨_,_,rfl⟩:=cU.1 hu;rfl
theorem bd (xs:List Nat):aC (iv xs)=[]:=aG _
theorem wY:∀ n:Nat,dE n [.val (.int .i64 0)]=iv (List.replicate n 0)
 | 0=>rfl
 | n+1=>by rw[dE,wY n,pb];rfl
variable {spare:List AV}
theorem iv_peek (h:xs[j]? =some x) (ho:o=j):∀ i u,[AV.val (.int .i64 (x:Int))][i]? =some u->(iv xs++spare)[o+i]? =some u:=by
 subst ho;intro i u hu;cases i with
 | zero=>
   cases hu;have hl:=(bx.1 (LU h)).1;rw[ia,kZ hl,LU h]
 | succ i=>cases hu
theorem rS (h:xs[j]? =some x) (ho:o=j):∀ i u,[AV.val (.int .i64 (x:Int))][i]? =some u->(iv xs)[o+i]? =some u:=by
 have:=iv_peek (spare:=[]) h ho;simpa using this
theorem uZ (h:j<xs.length) (ho:o=j):(iv xs).take o++([AV.val (.int .i64 (x:Int))]++(iv xs).drop (o+1))=iv (xs.set j x):=by
 subst ho;have:iv (xs.set o x)=(iv xs).set o (.val (.int .i64 (x:Int))):=by simp[iv,<-ints_set,List.map_set]
 rw[this,Ki,if_pos (by rw[bI];exact h)];rfl
variable {C:Cx} {β:Nat->Nat} {t:TypeId} {w:World}
theorem kA {n:Nat} (h:jv C β w i t (iv xs++spare)) (hn:xs.length=n) (iD:n<=c) (fO:c<=maxLen):Rd w 1 (.slice (some ⟨β i,0,none⟩) n c) n (ints .i64 xs):=by
 refine⟨_,c,aa,iD,fO,by simp[hn],λ_=>⟨_,_,rfl,λj u hj=> ?_⟩⟩;have hl:=(bx.1 hj).1;refine h.cls.cell ?_;rw[cC];simp only[List.map_append,List.getElem?_toArray];rw[kZ (by simpa [iv] using hl)];unfold iv;rw[aA];exact hj
def dL (w:World) (B:Nat) (v:Value) (n:Nat) (xs:List Nat):Prop:=
 xs.length=n/\((v=.slice none 0 0/\n=0)\/∃ b c spare,v=.slice (some ⟨b,0,none⟩) n c/\B<=b/\aI w b 3 (ints .i64 xs++spare).toArray/\n<=c/\c<=maxLen/\n+spare.length=c/\spare.all aK=true)
variable {v:Value}
theorem dL.own {n:Nat} (h:dL w B v n xs):w.ownsRow B 3 1 v n (ints .i64 xs):=by
 obtain⟨hn,⟨rfl,rfl⟩|⟨b,c,spare,rfl,hB,hc,h1,h2,h3,_⟩⟩:=h
 ·rw[jQ hn];exact jh _ _ _ _
 ·refine⟨by simp[hn],.inr ⟨b,c,_,rfl,hB,hc,h1,h2,by simp[hn,h3],?_⟩⟩;rw[FU (by simp[hn]),du (by simp[hn])]
theorem dL.new {n:Nat} (h:dL w B v n xs):Lu C 3 1 B w v n (ints .i64 xs):=by
 obtain⟨hn,⟨rfl,rfl⟩|⟨b,c,spare,rfl,hB,hc,h1,h2,h3,h4⟩⟩:=h
 ·exact .inl ⟨aa,aa,by rw[jQ hn];rfl⟩
 ·exact .inr ⟨b,c,spare,aa,hB,hc,Hd xs,h4,h1,by simpa [maxLen] using h2,by simp;omega⟩
theorem dL.nil (w:World) (B:Nat):dL w B (.slice none 0 0) 0 []:=⟨rfl,.inl ⟨rfl,rfl⟩⟩
variable {m:Nat}
theorem od {n:Nat} (h:jv C β w i 3 (iv xs++spare)) (hn:xs.length=n) (hm:m<=n) (iD:n<=c) (fO:c<=maxLen) (hl:xs.length+spare.length=c) (hnw:∀ i g,C.xM i g->C.w0.heap.size<=g:=by exact λ_ _ h=>h):
  dL w C.w0.heap.size (.slice (some ⟨β i,0,none⟩) m c) m (xs.take m):=by
 refine⟨by rw[aR];omega,.inr ⟨β i,c,ints .i64 (xs.drop m)++spare.map (AV.leaf β),rfl,hnw _ _ h.new,?_,ae,fO,by simp;omega,?_⟩⟩
 ·have:=h.cls;rw[cT] at this;unfold iv at this;rw[aA] at this;rw[<-nx,<-fF,oZ];exact this
 ·have hk:=h.ok;rw[nA,dR] at hk;rw[nA,Hd,dZ hk.2];rfl
variable {cs:List AV}
theorem gr {news rest:List AV} (h:jv C β w i t cs) (e:cs=news++rest):∀ j u,(news.map (AV.leaf β))[j]? =some u->w.cell? ⟨β i,0+j,none⟩=some u:=by
 intro j u hj;have hl:=(bx.1 hj).1;refine h.cls.cell ?_;rw[e,cC,cT];simp only[List.getElem?_toArray];rw[kZ hl];exact hj
theorem wZ (h:aC cs=[]) (i:Nat) (ρ:AV->Value):cs.map (AV.mi i ρ)=cs:=by
 induction cs with
 | nil=>rfl
 | cons x r ih=>
   rw[aC,List.append_eq_nil_iff] at h;rw[fV,ih h.2];have:x.mi i ρ=x:=by unfold AV.mi;rw[h.1];rfl
   rw[this]
theorem LV (i:Nat) (ρ:AV->Value) (xs:List Nat):(iv xs).map (AV.mi i ρ)=iv xs:=wZ (bd xs) i ρ
theorem vc {n:Nat} (h:halves (hval xs)=xs.take m) (hm:m<=n) (hn:xs.length=n):m=(halves (hval xs)).length:=by rw[h,aR];omega
end
set_option maxRecDepth 4000
section
open Go.RowKit
attribute [local irreducible] aq VS
variable {b k:Nat} {w:World}
theorem kB {off:Nat} {u:Value} {z:Int} (hz:z=(k:Int)) (h:w.cell? ⟨b,off+k,none⟩=some u):∀ j v,[u][j]? =some v->w.cell? ((⟨b,off+z.toNat*1,none⟩:Addr).add j)=some v:=by
 subst hz;intro j v hj;rw[Addr.add_mid,aQ,eM];cases j with
 | zero=>cases hj;exact h
 | succ j=>cases hj
variable {os xs ys:List Nat} {i x:Nat}
theorem Jh (hx:xs[i]? =some x) (hk:ys.length<=k) (h:hval os+65536^(i+k)*0=hval (xs.take i)*hval ys+65536^i*(x*hval (ys.take k))):hval os=hval (xs.take (i+1))*hval ys:=by
 have e:hval (xs.take (i+1))=hval (xs.take i)+65536^i*x:=by
  rw[bf hx,jb,aR,dF (by have:=(bx.1 hx).1;omega)]
 rw[jT,ia,du hk] at h;rw[e,cV,h,db]
variable {c:Nat}
theorem EY {n m:Nat} (hxh:fe xs) (hyh:fe ys) (hx:xs[i]? =some x) (hn:xs.length=n) (hm:ys.length=m) (hk:m<=k) (hc:0<c) (h:hval os+65536^(i+k)*c=hval (xs.take i)*hval ys+65536^i*(x*hval (ys.take k))):i+k<n+m+1:=by
 have hi:=(bx.1 hx).1
 have e:hval (xs.take (i+1))=hval (xs.take i)+65536^i*x:=by
  rw[bf hx,jb,aR,dF ae]
 have e3:ys.take k=ys:=du ae
 have e2:hval os+65536^(i+k)*c=hval (xs.take (i+1))*hval ys:=by
  rw[e,cV,h,e3,db]
 have b1:hval (xs.take (i+1))<65536^(i+1):=by
  have:=ru (xs:=xs.take (i+1)) (dp.take hxh _)
  rwa [aR,dF ae] at this
 have b2:hval ys<65536^m:=by have:=ru hyh;rwa [hm] at this
 have b3:hval (xs.take (i+1))*hval ys<65536^(i+1+m):=by
  rw[mQ];exact Nat.mul_lt_mul'' b1 b2
 have b4:65536^(i+k)<=65536^(i+k)*c:=Nat.le_mul_of_pos_right _ hc;have:65536^(i+k)<65536^(i+1+m):=ae;have:=(Nat.pow_lt_pow_iff_right (show 1<65536 by omega)).1 this;omega
theorem EZ {y o:Nat} (hx:x<65536) (hy:y<65536) (ho:o<65536) (hc:c<65536):x*y+o+c<4294967296:=by
 have h1:x*y<=65535*65535:=qP ae ae;omega
variable {P:Prop}
theorem lK (h:P:=by (repeat first|exact aj|refine⟨rfl,?_⟩)):P:=h
theorem eH {A B:Prop} (h:A/\B:=by constructor <;> omega):A/\B:=h
theorem CS (va vb:Value) (n m:Nat) (xs ys:List Nat) (w:World) (hr:Rd w 1 va n (ints .i64 xs)) (hs:Rd w 1 vb m (ints .i64 ys)) (hx:fe xs) (hy:fe ys) (hn:n<=2147483656) (hm:m<=2147483656):
  Calls Tryz.prog 75 #[va,vb] w λe w'=>∃ v',e=.returned v'/\dL w' w.heap.size v' (halves (hval xs*hval ys)).length (halves (hval xs*hval ys))/\ax w w':=by
 obtain⟨p,c,rfl,iD,fO,dv⟩:=hr.i64;obtain⟨q,d,rfl,JX,DJ,ij⟩:=hs.i64;obtain⟨N,hN⟩:∃ N,N=n+m+1:=⟨_,aa⟩
 have hwN:IntKind.i64.wrap (IntKind.i64.wrap ((n:Int)+(m:Int))+1)=(N:Int):=by
  rw[bj ((n:Int)+(m:Int)) ae,bj _ ae];omega
 refine ar (C:=bD Tryz.prog w _) (args:=[_,_]) Tryz.func75 aa Tryz.ntmps75 (cz aa) ?_;refine af ?_;refine VO.fix 15 aa (ai (λz=>AV.val (.int .i64 z)) hwN) ?_;refine VO.cond aa ⟨aa,ae,by show (N:Int)*(24*1)<=_;omega⟩ (VO.eU 16 aa (wY _) (wV aa ?_));rw[aQ];refine af ?_
 refine VS.loop (J:=λms L M w'=>∃ (i:Nat) (os:List Nat),i<=n/\ms=n-i/\L=[(0,.val (.slice p n c)),(1,.val (.slice q m d)),(5,.row 16 0 N N),(6,.val (.int .i64 (i:Int)))]/\M=[(16,(3,iv os))]/\
  os.length=N/\fe os/\hval os=hval (xs.take i)*hval ys) n ⟨_,_,?_,?_,?_,?_,⟨0,List.replicate N 0,ae,ae,rfl,rfl,bc,dp.replicate ae _,by rw[Bj];show val 65536 _=val 65536 []*_;rw[fA,val_nil,yn]⟩⟩ ?_
 ·exact lK
 ·exact lK
 ·rfl
 ·exact⟨.none (bd _),aj⟩
 rintro ms L M w' ⟨i,os,hi,rfl,rfl,rfl,hol,hoh,hov⟩;refine af ?_;by_cases tL:i<n
 ·refine VS.bJ aa (aU (cf.2 tL)) ?_;refine af ?_;obtain⟨b1,o1,x,rfl,bS,fo,pU⟩:=hr.cellAt tL;have ja:=hx.at fo
  refine VS.loop (J:=λms L M w'=>∃ (k c':Nat) (os':List Nat),ms=N-(i+k)/\L=[(0,.val (.slice (some ⟨b1,o1,none⟩) n c)),(1,.val (.slice q m d)),(5,.row 16 0 N N),(6,.val (.int .i64 (i:Int))),(7,.val (.int .i64 (c':Int))),(8,.val (.int .i64 (k:Int)))]/\M=[(16,(3,iv os'))]/\
   os'.length=N/\fe os'/\c' <65536/\k<=N/\hval os' +65536^(i+k)*c'=hval (xs.take i)*hval ys+65536^i*(x*hval (ys.take k))) (N-i) ⟨_,_,?_,?_,?_,?_,⟨0,0,os,ae,rfl,rfl,hol,hoh,ae,ae,by rw[Bj,jT,hov];show _=_+65536^i*(x*0);simp⟩⟩ ?_
  ·exact lK
  ·exact lK
  ·rfl
  ·exact⟨.none (bd _),aj⟩
  rintro ms L M w'' ⟨k,c',os',rfl,rfl,rfl,hol',hoh',hc',hkN,hv⟩;refine af ?_;have step:∀ (hik:i+k<N),True:=λ_=>trivial;by_cases hgo:k<m\/0<c'
  ·have hik:i+k<N:=by
    rcases mP k m with e|e
    ·omega
    ·rw[hN];exact EY hx hy fo dv ij e ae hv
   obtain⟨o,ho⟩:∃ o,os'[i+k]? =some o:=⟨_,aZ ae⟩;have ho4:=hoh'.at ho;have Ip:IntKind.i64.wrap ((i:Int)+(k:Int))=((i+k:Nat):Int):=by rw[bj _ ae];omega
   have hwk1:IntKind.i64.wrap ((k:Int)+1)=((k+1:Nat):Int):=by rw[bj _ ae];omega
   have hwoc:IntKind.i64.wrap ((o:Int)+(c':Int))=((o+c':Nat):Int):=by rw[bj _ ae];omega
   by_cases Eb:k<m
   ·obtain⟨b2,o2,y,rfl,bO,nG,DZ⟩:=hs.cellAt Eb;have yv:=hy.at nG;have uD:=EZ ja yv ho4 hc';obtain⟨s,hsd⟩:∃ s,s=x*y+o+c':=⟨_,aa⟩;have Gq:(x:Int)*(y:Int)=((x*y:Nat):Int):=bc
    have hws:IntKind.i64.wrap (IntKind.i64.wrap ((o:Int)+(c':Int))+IntKind.i64.wrap ((x:Int)*(y:Int)))=(s:Int):=by
     rw[hwoc,Gq,bj ((x*y:Nat):Int) ae,bj _ ae];omega
    have hst:=rR ho hsd hv
    have hyt:hval (ys.take (k+1))=hval (ys.take k)+65536^k*y:=by
     rw[bf nG,jb,aR,dF (by have:=(bx.1 nG).1;omega)]
    rw[<-hyt] at hst
    have hwc:IntKind.i64.wrap ((s:Int).tdiv 65536)=((s/65536:Nat):Int):=by
     rw[vo ae,bj _ ae];simp
    have hwm:(s:Int).tmod 65536=((s%65536:Nat):Int):=by rw[AY ae];simp
    refine VO.fix 27 aa (ai (λb=>AV.val (.bool b)) (aU (cf.2 Eb))) ?_;refine af ?_;refine VO.fix 36 aa (ai (λz=>AV.val (.int .i64 z)) Ip) ?_;refine VO.cond aa eH (wV aa ?_);refine VO.dQ aa [.val (.int .i64 (o:Int))] aa (rS ho (by rw[aQ];omega)) (wV aa ?_);refine af ?_;refine VS.bJ aa (aU (cf.2 Eb)) ?_;refine af ?_;refine VO.cond aa eH (wV aa ?_);refine VO.read aa [.int .i64 (x:Int)] aa (kB aa pU) (wV aa ?_);refine VO.cond aa eH (wV aa ?_);refine VO.read aa [.int .i64 (y:Int)] aa (kB aa DZ) (wV aa ?_);refine af ?_;refine VO.fix 59 aa (ai (λz=>AV.val (.int .i64 z)) Ip) ?_;refine VO.fix 61 aa (ai (λz=>AV.val (.int .i64 z)) (by rw[hws,hwm])) ?_;refine VO.cond aa eH (wV aa ?_);refine VO.cond aa (by show 0+((i+k:Nat):Int).toNat*1+1<=_;rw[aQ,bI];omega) (wV aa ?_);refine af ?_;refine VS.back (N-(i+(k+1))) ae ⟨_,_,?_,?_,?_,?_,⟨k+1,s/65536,os'.set (i+k) (s%65536),aa,aa,aa,by simp[hol'],hoh'.set (cM _ ae) _,ae,ae,hst⟩⟩
    ·refine⟨aa,aa,aa,aa,ai (λz=>some (AV.val (.int .i64 z))) (by rw[hws,hwc]),ai (λz=>some (AV.val (.int .i64 z))) hwk1,aj⟩
    ·exact⟨ai (λl=>some (_,l)) (uZ ae (by rw[aQ];omega)),aj⟩
    ·rfl
    ·exact⟨.none (bd _),aj⟩
   ·have ry:0<c':=by omega
    obtain⟨s,hsd⟩:∃ s,s=x*0+o+c':=⟨_,aa⟩;have hws:IntKind.i64.wrap ((o:Int)+(c':Int))=(s:Int):=by rw[hwoc];omega
    have hst:=rR ho hsd hv;have hyt:hval (ys.take k)+65536^k*0=hval (ys.take (k+1)):=by rw[du ae,du ae];rfl
    rw[hyt] at hst
    have hwc:IntKind.i64.wrap ((s:Int).tdiv 65536)=((s/65536:Nat):Int):=by
     rw[vo ae,bj _ ae];simp
    have hwm:(s:Int).tmod 65536=((s%65536:Nat):Int):=by rw[AY ae];simp
    refine VO.fix 27 aa (ai (λb=>AV.val (.bool b)) (bo (λe=>Eb (cf.1 e)))) ?_;refine af ?_;refine VS.bJ aa (aU ae) ?_;refine af ?_;refine VO.fix 36 aa (ai (λz=>AV.val (.int .i64 z)) Ip) ?_;refine VO.cond aa eH (wV aa ?_);refine VO.dQ aa [.val (.int .i64 (o:Int))] aa (rS ho (by rw[aQ];omega)) (wV aa ?_);refine af ?_;refine VS.cd aa (bo (λe=>Eb (cf.1 e))) ?_;refine af ?_;refine VO.fix 59 aa (ai (λz=>AV.val (.int .i64 z)) Ip) ?_;refine VO.fix 61 aa (ai (λz=>AV.val (.int .i64 z)) (by rw[hws,hwm])) ?_;refine VO.cond aa eH (wV aa ?_);refine VO.cond aa (by show 0+((i+k:Nat):Int).toNat*1+1<=_;rw[aQ,bI];omega) (wV aa ?_);refine af ?_;refine VS.back (N-(i+(k+1))) ae ⟨_,_,?_,?_,?_,?_,⟨k+1,s/65536,os'.set (i+k) (s%65536),aa,aa,aa,by simp[hol'],hoh'.set (cM _ ae) _,ae,ae,hst⟩⟩
    ·refine⟨aa,aa,aa,aa,ai (λz=>some (AV.val (.int .i64 z))) (by rw[hws,hwc]),ai (λz=>some (AV.val (.int .i64 z))) hwk1,aj⟩
    ·exact⟨ai (λl=>some (_,l)) (uZ ae (by rw[aQ];omega)),aj⟩
    ·rfl
    ·exact⟨.none (bd _),aj⟩
  ·have Eb:¬ (k<m):=by omega
   have ry:c'=0:=ae;subst ry;refine VO.fix 27 aa (ai (λb=>AV.val (.bool b)) (bo (λe=>Eb (cf.1 e)))) ?_;refine af ?_;have xT:IntKind.i64.wrap ((i:Int)+1)=((i+1:Nat):Int):=by rw[bj _ ae];omega
   refine VS.back (n-(i+1)) ae ⟨_,_,?_,?_,?_,?_,⟨i+1,os',ae,aa,aa,aa,hol',hoh',Jh fo ae hv⟩⟩
   ·exact⟨aa,aa,aa,ai (λz=>some (AV.val (.int .i64 z))) xT,aj⟩
   ·exact lK
   ·rfl
   ·exact⟨.none (bd _),aj⟩
 ·obtain rfl:i=n:=by omega
  refine VS.cd aa (bo (λe=>tL (cf.1 e))) ?_;refine af ?_;rw[du ae] at hov;refine VO.yX aa (fk tE) (λw1 β k1 b1 ho=>(fK (some ⟨β 16,0,none⟩) N N os w1 (kA (spare:=[]) (by rw[dS];exact ho.own 16 (.base (aH.2 aa)) _ _ aa) hol (aM _) (by simp only[maxLen];omega)) hoh).mono ?_);rintro e w2 ⟨⟨mm,yA,rfl,hcut⟩,rfl⟩;refine⟨.row 16 0 mm N,aa,λi hi=>⟨hi,by cases aH.1 hi;exact fi _⟩,ax.refl _,λk2 _ b2=>wV aa ?_⟩;refine af ?_;refine VS.Af (bQ _ _) aa (λwz β kz bz he=> ?_);have nc:=vc hcut yA hol;rw[hov] at hcut nc;refine⟨_,aa,?_,bz⟩;have:=od (spare:=[]) (by rw[dS];exact he.own 16 _ _ aa) hol yA (aM _) (by simp only[maxLen];omega) (by simpa using hol);rw[<-hcut] at this;show dL wz w.heap.size (.slice (some ⟨β 16,0,none⟩) mm N) _ _;rw[<-nc];exact this
set_option maxRecDepth 4000
variable {A B:Nat}
theorem pN (h:(halves A).length<(halves B).length):A<B:=by
 rcases mP A B with e|e
 ·exact e
 ·have:(halves B).length<=(halves A).length:=cK ae e;omega
variable {a:Nat}
theorem pO (ha:(halves A)[k]? =some a) (hb:(halves B)[k]? =some b) (pA:a<b) (hh:(halves A).drop (k+1)=(halves B).drop (k+1)):A<B:=by
 have:=jq (B:=65536) (bC A) ha hb pA hh;have e1:val 65536 (halves A)=A:=aP A;have e2:val 65536 (halves B)=B:=aP B;omega
theorem Ji (hx:xs[k]? =some x) (hy:ys[k]? =some x) (h:xs.drop (k+1)=ys.drop (k+1)):xs.drop k=ys.drop k:=by
 obtain⟨l1,e1⟩:=bx.1 hx;obtain⟨l2,e2⟩:=bx.1 hy;rw[mK l1,mK l2,e1,e2,h]
theorem Fa (va vb:Value) (n m A B:Nat) (w:World) (hr:Rd w 1 va n (ints .i64 (halves A))) (hs:Rd w 1 vb m (ints .i64 (halves B))):
  Calls Tryz.prog 114 #[va,vb] w λe w'=>e=.returned (.bool (decide (A<B)))/\ax w w':=by
 obtain⟨p,c,rfl,iD,fO,dv⟩:=hr.i64;obtain⟨q,d,rfl,JX,DJ,ij⟩:=hs.i64;refine ar (C:=bD Tryz.prog w _) (args:=[_,_]) Tryz.func114 aa Tryz.ntmps114 (cz aa) ?_;refine af ?_;by_cases hnm:n=m
 ·subst hnm;refine VS.cd aa bc ?_;refine af ?_;have hw0:IntKind.i64.wrap ((n:Int)-1)=(n:Int)-1:=bj _ ae;refine VS.loop (J:=λms L M w'=>∃ (k:Nat),k<=n/\ms=k/\L=[(0,.val (.slice p n c)),(1,.val (.slice q n d)),(5,.val (.int .i64 ((k:Int)-1)))]/\M=[]/\(halves A).drop k=(halves B).drop k) n ⟨_,_,?_,?_,?_,?_,⟨n,aM _,aa,aa,aa,by rw[mL ae,mL ae]⟩⟩ ?_
  ·exact⟨aa,aa,ai (λz=>some (AV.val (.int .i64 z))) hw0,aj⟩
  ·exact lK
  ·rfl
  ·exact aj
  rintro ms L M w' ⟨k,hk,hms,rfl,rfl,hd⟩;refine af ?_;by_cases Gy:k=0
  ·subst Gy;refine VS.cd aa (bo ae) ?_;refine af ?_;refine bH ?_;intro wz kz bz;have:A=B:=Es (by simpa using hd);exact⟨by rw[this,bo (Nat.lt_irrefl _)];rfl,bz⟩
  ·obtain⟨j,rfl⟩:∃ j,k=j+1:=⟨k-1,ae⟩;have hj:((j+1:Nat):Int)-1=(j:Int):=ae;refine VS.bJ aa (aU ae) ?_;refine VS.fix 5 aa (ai (λz=>AV.val (.int .i64 z)) hj) ?_;refine af ?_;obtain⟨b1,o1,x,rfl,bS,fo,pU⟩:=hr.cellAt (show j<n by omega);obtain⟨b2,o2,y,rfl,bO,nG,DZ⟩:=hs.cellAt (show j<n by omega);refine VO.cond aa eH (wV aa ?_);refine VO.read aa [.int .i64 (x:Int)] aa (kB aa pU) (wV aa ?_);refine VO.cond aa eH (wV aa ?_);refine VO.read aa [.int .i64 (y:Int)] aa (kB aa DZ) (wV aa ?_);refine af ?_;by_cases Gq:x=y
   ·subst Gq;refine VS.cd aa bc ?_;refine af ?_;have ss:IntKind.i64.wrap ((j:Int)-1)=(j:Int)-1:=bj _ ae;refine VS.back j ae ⟨_,_,?_,?_,?_,?_,⟨j,ae,aa,aa,aa,Ji fo nG hd⟩⟩
    ·exact⟨aa,aa,ai (λz=>some (AV.val (.int .i64 z))) ss,aj⟩
    ·exact lK
    ·rfl
    ·exact aj
   ·refine VS.bJ aa (by rw[bne_iff_ne];omega) ?_;refine af ?_;refine VO.cond aa eH (wV aa ?_);refine VO.read aa [.int .i64 (x:Int)] aa (kB aa pU) (wV aa ?_);refine VO.cond aa eH (wV aa ?_);refine VO.read aa [.int .i64 (y:Int)] aa (kB aa DZ) (wV aa ?_);refine af ?_;refine bH ?_;intro wz kz bz;refine⟨?_,bz⟩;rcases Nat.lt_or_gt_of_ne Gq with e|e
    ·rw[aU (pO fo nG e hd)];exact ai (λb=>Ending.returned (.bool b)) (aU (cf.2 e))
    ·have:=pO nG fo e hd.symm;have hAB:decide (A<B)=false:=bo ae;rw[hAB];exact ai (λb=>Ending.returned (.bool b)) (bo ae)
 ·refine VS.bJ aa (by rw[bne_iff_ne];omega) ?_;refine af ?_;refine bH ?_;intro wz kz bz;refine⟨?_,bz⟩;rcases Nat.lt_or_gt_of_ne hnm with e|e
  ·rw[aU (pN ae)];exact ai (λb=>Ending.returned (.bool b)) (aU (cf.2 e))
  ·have:=pN (A:=B) (B:=A) ae;have hAB:decide (A<B)=false:=bo ae;rw[hAB];exact ai (λb=>Ending.returned (.bool b)) (bo ae)
variable {ds us bs:List Nat} {t br:Nat}
theorem Jj {d nh:Nat} (hl:ds.length=i) (ha:us.getD i 0=a) (hb:bs.getD i 0=b) (hs:d+(t*b+br)=a+65536*nh)
  (h:hval ds+t*hval (bs.take i)=hval (us.take i)+65536^i*br):hval (ds++[d])+t*hval (bs.take (i+1))=hval (us.take (i+1))+65536^(i+1)*nh:=by
 have e1:hval (us.take (i+1))=hval (us.take i)+65536^i*a:=by rw[<-ha];exact bE _ _ _
 have e2:hval (bs.take (i+1))=hval (bs.take i)+65536^i*b:=by rw[<-hb];exact bE _ _ _
 have e3:65536^i*d+(65536^i*(t*b)+65536^i*br)=65536^i*a+65536^i*(65536*nh):=by rw[<-bg,<-bg,hs,bg]
 have e4:t*(65536^i*b)=65536^i*(t*b):=yg _ _ _;rw[jb,hl,e1,e2,bg t,e4,dT,db];omega
theorem LW {n:Nat} (hh:fe ds) (hl:ds.length=n) (ha:us.length=n) (hle:t*hval bs<=hval us) (hb:t=0\/bs.length<=n)
  (h:hval ds+t*hval (bs.take n)=hval (us.take n)+65536^n*br):hval ds=hval us-t*hval bs:=by
 have e1:us.take n=us:=du ae
 have e2:t*hval (bs.take n)=t*hval bs:=by
  rcases hb with e|e
  ·rw[e,yn,yn]
  ·rw[du e]
 rw[e1,e2] at h;have hlt:=ru hh;rw[hl] at hlt
 have:br=0:=by
  rcases lg br with e|e
  ·exact e
  ·have:=Nat.le_mul_of_pos_right (65536^n) e;omega
 rw[this,jT] at h;omega
def RowAt (d:Nat) (xs:List Nat) (v:AV) (M:List (Nat×(TypeId×List AV))):Prop:=
 (xs=[]/\v=.val (.slice none 0 0)/\M=[])\/∃ cap spare,v=.row d 0 xs.length cap/\M=[(d,(3,iv xs++spare))]/\xs.length<=cap/\cap<=9223372036854775807/\xs.length+spare.length=cap/\spare.all aF=true/\aC spare=[]
theorem xa (va vb:Value) (n m t A B:Nat) (w:World) (hr:Rd w 1 va n (ints .i64 (halves A))) (hs:Rd w 1 vb m (ints .i64 (halves B))) (ht:t<65536) (hle:t*B<=A) (hn:n<=2147483656):
  Calls Tryz.prog 105 #[va,vb,.int .i64 (t:Int)] w λe w'=>∃ v',e=.returned v'/\dL w' w.heap.size v' (halves (A-t*B)).length (halves (A-t*B))/\ax w w':=by
 obtain⟨p,c,rfl,iD,fO,dv⟩:=hr.i64;obtain⟨q,d,rfl,JX,DJ,ij⟩:=hs.i64;refine ar (C:=bD Tryz.prog w _) (args:=[_,_,_]) Tryz.func105 aa Tryz.ntmps105 (cz aa) ?_;refine af ?_
 refine VS.loop (J:=λms L M w'=>∃ (i br:Nat) (ds:List Nat) (v:AV),i<=n/\ms=n-i/\L=[(0,.val (.slice p n c)),(1,.val (.slice q m d)),(2,.val (.int .i64 (t:Int))),(7,v),(8,.val (.int .i64 (br:Int))),(9,.val (.int .i64 (i:Int)))]/\
  RowAt 47 ds v M/\ds.length=i/\fe ds/\br<=t/\hval ds+t*hval ((halves B).take i)=hval ((halves A).take i)+65536^i*br) n ⟨_,_,?_,?_,?_,?_,⟨0,0,[],.val (.slice none 0 0),ae,ae,rfl,.inl ⟨rfl,rfl,rfl⟩,rfl,dp.nil _,ae,by simp[hval,val]⟩⟩ ?_
 ·exact lK
 ·exact lK
 ·rfl
 ·exact aj
 rintro ms L M w' ⟨i,br,ds,v,hi,rfl,rfl,rM,pT,hdh,hbr,hv⟩;by_cases tL:i<n
 ·obtain⟨b1,o1,x,rfl,bS,fo,pU⟩:=hr.cellAt tL;have ja:=(bC A).at fo;have hxg:(halves A).getD i 0=x:=by rw[eL,fo];rfl
  obtain⟨y,hyg⟩:∃ y,(halves B).getD i 0=y:=⟨_,aa⟩;have yv:y<65536:=hyg▸jc (bC B) i;have hty:t*y<=65535*65535:=qP ae ae;obtain⟨X,hX⟩:∃ X:Int,X=(x:Int)-br-(t*y:Nat):=⟨_,aa⟩
  obtain⟨nh,mA⟩:∃ nh:Nat,(nh:Int)=(if X<0 then (65535-X)/65536 else 0)/\nh<=t:=by
   by_cases h0:X<0
   ·refine⟨((65535-X)/65536).toNat,by rw[if_pos h0];omega,?_⟩;have:t*y<=t*65535:=gG _ ae;omega
   ·exact⟨0,by rw[if_neg h0];rfl,ae⟩
  obtain⟨dg,Ke⟩:∃ dg:Nat,(dg:Int)=X+65536*nh/\dg<65536:=by
   refine⟨(X+65536*nh).toNat,?_,?_⟩
   ·by_cases h0:X<0
    ·rw[if_pos h0] at mA;omega
    ·omega
   ·by_cases h0:X<0
    ·rw[if_pos h0] at mA;omega
    ·rw[if_neg h0] at mA;omega
  have LX:dg+(t*y+br)=x+65536*nh:=ae;have hst:=Jj pT hxg hyg LX hv;have ss:IntKind.i64.wrap ((x:Int)-(br:Int))=(x:Int)-br:=bj _ ae;have xT:IntKind.i64.wrap ((i:Int)+1)=((i+1:Nat):Int):=by rw[bj _ ae];omega
  have wC:t*y<=t*65535:=gG _ ae;rcases rM with ⟨rfl,rfl,rfl⟩|⟨cap,spare,rfl,rfl,h1,h2,h3,h4,h5⟩
  all_goals refine af ?_
  ·by_cases him:i<m
   ·obtain⟨b2,o2,y',rfl,bO,nG,DZ⟩:=hs.cellAt him;obtain rfl:y'=y:=by rw[eL,nG] at hyg;exact hyg
    have hwX:IntKind.i64.wrap (IntKind.i64.wrap ((x:Int)-(br:Int))-IntKind.i64.wrap ((t:Int)*(y':Int)))=X:=by
     rw[ss,show (t:Int)*(y':Int)=((t*y':Nat):Int) by simp,bj ((t*y':Nat):Int) ae,bj _ ae];omega
    refine VS.bJ aa (aU (cf.2 tL)) ?_;refine af ?_;refine VO.cond aa eH (wV aa ?_);refine VO.read aa [.int .i64 (x:Int)] aa (kB aa pU) (wV aa ?_);refine af ?_;refine VS.bJ aa (aU (cf.2 him)) ?_;refine af ?_;refine VO.cond aa eH (wV aa ?_);refine VO.read aa [.int .i64 (y':Int)] aa (kB aa DZ) (wV aa ?_);refine VO.fix 10 aa (ai (λz=>AV.val (.int .i64 z)) hwX) ?_;refine af ?_;by_cases h0:X<0
    ·rw[if_pos h0] at mA
     have LY:IntKind.i64.wrap ((IntKind.i64.wrap (65535-X)).tdiv 65536)=(nh:Int):=by
      rw[bj (65535-X) ae,vo ae,bj _ ae,mA.1]
     have hwd:IntKind.i64.wrap (X+IntKind.i64.wrap (65536*(nh:Int)))=(dg:Int):=by
      rw[bj (65536*(nh:Int)) ae,bj _ ae,Ke.1]
     refine VS.bJ aa (aU h0) ?_;refine af ?_
     ·refine VO.eU 46 aa (ai (λz=>[AV.val (.int .i64 z)]) (show _=(dg:Int) by rw[LY,hwd])) ?_
      refine VO.app (bQ _ _) (t:=27) (e:=3) (sz:=1) (n:=0) (c:=0) (mm:=1) (known:=[]) (spare:=[]) (news:=iv [dg]) (dst:=47) (del:=none) aa aa aa aa aa aa aa aa (cz aa) aa (.inl ⟨aa,aa,aa,aa,aa,aa,ae⟩) (.inl aa) aa aa ae ae ⟨aa,aa,bd _⟩ ⟨aa,aa,lJ _⟩ aa ae
       (λw1 β k1 b1 ho=>⟨_,_,rfl,.inr ⟨β 46,0,rfl,gr (rest:=[]) (ho.own 46 (.base (mM _ (aH.2 rfl))) _ _ rfl) rfl⟩⟩)
       (λw2 cap' aV ρ k2 b2 dH oC xU hlen jw fp=>wV rfl ?_)
      refine af ?_;refine VS.back (n-(i+1)) ae ⟨_,_,?_,?_,?_,?_,⟨i+1,nh,[dg],.row 47 0 ([dg]).length cap',ae,aa,aa,.inr ⟨cap',aV,aa,aa,by simp;omega,xU,?_,jw,fp⟩,by simp at pT ⊢;omega,dp.cons Ke.2 (dp.nil _),mA.2,hst⟩⟩
      ·exact⟨aa,aa,aa,aa,ai (λz=>some (AV.val (.int .i64 z))) LY,ai (λz=>some (AV.val (.int .i64 z))) xT,aj⟩
      ·exact⟨aa,aj⟩
      ·rfl
      ·exact⟨.append (.none (bd _)) (.none fp),aj⟩
      ·simpa [bI,Nat.add_assoc] using hlen
    ·rw[if_neg h0] at mA;have ng:nh=0:=ae;subst ng;refine VS.cd aa (bo h0) ?_;refine af ?_
     ·refine VO.eU 46 aa (ai (λz=>[AV.val (.int .i64 z)]) (show X=(dg:Int) by omega)) ?_
      refine VO.app (bQ _ _) (t:=27) (e:=3) (sz:=1) (n:=0) (c:=0) (mm:=1) (known:=[]) (spare:=[]) (news:=iv [dg]) (dst:=47) (del:=none) aa aa aa aa aa aa aa aa (cz aa) aa (.inl ⟨aa,aa,aa,aa,aa,aa,ae⟩) (.inl aa) aa aa ae ae ⟨aa,aa,bd _⟩ ⟨aa,aa,lJ _⟩ aa ae
       (λw1 β k1 b1 ho=>⟨_,_,rfl,.inr ⟨β 46,0,rfl,gr (rest:=[]) (ho.own 46 (.base (mM _ (aH.2 rfl))) _ _ rfl) rfl⟩⟩)
       (λw2 cap' aV ρ k2 b2 dH oC xU hlen jw fp=>wV rfl ?_)
      refine af ?_;refine VS.back (n-(i+1)) ae ⟨_,_,?_,?_,?_,?_,⟨i+1,0,[dg],.row 47 0 ([dg]).length cap',ae,aa,aa,.inr ⟨cap',aV,aa,aa,by simp;omega,xU,?_,jw,fp⟩,by simp at pT ⊢;omega,dp.cons Ke.2 (dp.nil _),cD _,hst⟩⟩
      ·exact⟨aa,aa,aa,aa,aa,ai (λz=>some (AV.val (.int .i64 z))) xT,aj⟩
      ·exact⟨aa,aj⟩
      ·rfl
      ·exact⟨.append (.none (bd _)) (.none fp),aj⟩
      ·simpa [bI,Nat.add_assoc] using hlen
   ·have Kn:y=0:=by rw[fG ae] at hyg;omega
    have hwX:IntKind.i64.wrap ((x:Int)-(br:Int))=X:=by rw[ss,hX,Kn,jT];omega
    refine VS.bJ aa (aU (cf.2 tL)) ?_;refine af ?_;refine VO.cond aa eH (wV aa ?_);refine VO.read aa [.int .i64 (x:Int)] aa (kB aa pU) (wV aa ?_);refine VO.fix 10 aa (ai (λz=>AV.val (.int .i64 z)) hwX) ?_;refine af ?_;refine VS.cd aa (bo (λe=>him (cf.1 e))) ?_;refine af ?_;by_cases h0:X<0
    ·rw[if_pos h0] at mA
     have LY:IntKind.i64.wrap ((IntKind.i64.wrap (65535-X)).tdiv 65536)=(nh:Int):=by
      rw[bj (65535-X) ae,vo ae,bj _ ae,mA.1]
     have hwd:IntKind.i64.wrap (X+IntKind.i64.wrap (65536*(nh:Int)))=(dg:Int):=by
      rw[bj (65536*(nh:Int)) ae,bj _ ae,Ke.1]
     refine VS.bJ aa (aU h0) ?_;refine af ?_
     ·refine VO.eU 46 aa (ai (λz=>[AV.val (.int .i64 z)]) (show _=(dg:Int) by rw[LY,hwd])) ?_
      refine VO.app (bQ _ _) (t:=27) (e:=3) (sz:=1) (n:=0) (c:=0) (mm:=1) (known:=[]) (spare:=[]) (news:=iv [dg]) (dst:=47) (del:=none) aa aa aa aa aa aa aa aa (cz aa) aa (.inl ⟨aa,aa,aa,aa,aa,aa,ae⟩) (.inl aa) aa aa ae ae ⟨aa,aa,bd _⟩ ⟨aa,aa,lJ _⟩ aa ae
       (λw1 β k1 b1 ho=>⟨_,_,rfl,.inr ⟨β 46,0,rfl,gr (rest:=[]) (ho.own 46 (.base (mM _ (aH.2 rfl))) _ _ rfl) rfl⟩⟩)
       (λw2 cap' aV ρ k2 b2 dH oC xU hlen jw fp=>wV rfl ?_)
      refine af ?_;refine VS.back (n-(i+1)) ae ⟨_,_,?_,?_,?_,?_,⟨i+1,nh,[dg],.row 47 0 ([dg]).length cap',ae,aa,aa,.inr ⟨cap',aV,aa,aa,by simp;omega,xU,?_,jw,fp⟩,by simp at pT ⊢;omega,dp.cons Ke.2 (dp.nil _),mA.2,hst⟩⟩
      ·exact⟨aa,aa,aa,aa,ai (λz=>some (AV.val (.int .i64 z))) LY,ai (λz=>some (AV.val (.int .i64 z))) xT,aj⟩
      ·exact⟨aa,aj⟩
      ·rfl
      ·exact⟨.append (.none (bd _)) (.none fp),aj⟩
      ·simpa [bI,Nat.add_assoc] using hlen
    ·rw[if_neg h0] at mA;have ng:nh=0:=ae;subst ng;refine VS.cd aa (bo h0) ?_;refine af ?_
     ·refine VO.eU 46 aa (ai (λz=>[AV.val (.int .i64 z)]) (show X=(dg:Int) by omega)) ?_
      refine VO.app (bQ _ _) (t:=27) (e:=3) (sz:=1) (n:=0) (c:=0) (mm:=1) (known:=[]) (spare:=[]) (news:=iv [dg]) (dst:=47) (del:=none) aa aa aa aa aa aa aa aa (cz aa) aa (.inl ⟨aa,aa,aa,aa,aa,aa,ae⟩) (.inl aa) aa aa ae ae ⟨aa,aa,bd _⟩ ⟨aa,aa,lJ _⟩ aa ae
       (λw1 β k1 b1 ho=>⟨_,_,rfl,.inr ⟨β 46,0,rfl,gr (rest:=[]) (ho.own 46 (.base (mM _ (aH.2 rfl))) _ _ rfl) rfl⟩⟩)
       (λw2 cap' aV ρ k2 b2 dH oC xU hlen jw fp=>wV rfl ?_)
      refine af ?_;refine VS.back (n-(i+1)) ae ⟨_,_,?_,?_,?_,?_,⟨i+1,0,[dg],.row 47 0 ([dg]).length cap',ae,aa,aa,.inr ⟨cap',aV,aa,aa,by simp;omega,xU,?_,jw,fp⟩,by simp at pT ⊢;omega,dp.cons Ke.2 (dp.nil _),cD _,hst⟩⟩
      ·exact⟨aa,aa,aa,aa,aa,ai (λz=>some (AV.val (.int .i64 z))) xT,aj⟩
      ·exact⟨aa,aj⟩
      ·rfl
      ·exact⟨.append (.none (bd _)) (.none fp),aj⟩
      ·simpa [bI,Nat.add_assoc] using hlen
  ·by_cases him:i<m
   ·obtain⟨b2,o2,y',rfl,bO,nG,DZ⟩:=hs.cellAt him;obtain rfl:y'=y:=by rw[eL,nG] at hyg;exact hyg
    have hwX:IntKind.i64.wrap (IntKind.i64.wrap ((x:Int)-(br:Int))-IntKind.i64.wrap ((t:Int)*(y':Int)))=X:=by
     rw[ss,show (t:Int)*(y':Int)=((t*y':Nat):Int) by simp,bj ((t*y':Nat):Int) ae,bj _ ae];omega
    refine VS.bJ aa (aU (cf.2 tL)) ?_;refine af ?_;refine VO.cond aa eH (wV aa ?_);refine VO.read aa [.int .i64 (x:Int)] aa (kB aa pU) (wV aa ?_);refine af ?_;refine VS.bJ aa (aU (cf.2 him)) ?_;refine af ?_;refine VO.cond aa eH (wV aa ?_);refine VO.read aa [.int .i64 (y':Int)] aa (kB aa DZ) (wV aa ?_);refine VO.fix 10 aa (ai (λz=>AV.val (.int .i64 z)) hwX) ?_;refine af ?_;by_cases h0:X<0
    ·rw[if_pos h0] at mA
     have LY:IntKind.i64.wrap ((IntKind.i64.wrap (65535-X)).tdiv 65536)=(nh:Int):=by
      rw[bj (65535-X) ae,vo ae,bj _ ae,mA.1]
     have hwd:IntKind.i64.wrap (X+IntKind.i64.wrap (65536*(nh:Int)))=(dg:Int):=by
      rw[bj (65536*(nh:Int)) ae,bj _ ae,Ke.1]
     refine VS.bJ aa (aU h0) ?_;refine af ?_
     ·refine VO.eU 46 aa (ai (λz=>[AV.val (.int .i64 z)]) (show _=(dg:Int) by rw[LY,hwd])) ?_
      refine VO.app (bQ _ _) (t:=27) (e:=3) (sz:=1) (n:=ds.length) (c:=cap) (mm:=1) (known:=iv ds) (spare:=spare) (news:=iv [dg]) (dst:=47) (del:=some 47) aa aa aa aa aa aa aa aa (cz aa) aa (.inr ⟨47,aa,aa,aa⟩) (.inr aa) (by rw[bI];omega) (by rw[da,bI];omega) h1 h2 ⟨bd _,h5,bd _⟩ ⟨lJ _,h4,lJ _⟩ aa ae
       (λw1 β k1 b1 ho=>⟨_,_,rfl,.inr ⟨β 46,0,rfl,gr (rest:=[]) (ho.own 46 (.base (mM _ (aH.2 rfl))) _ _ rfl) rfl⟩⟩)
       (λw2 cap' aV ρ k2 b2 dH oC xU hlen jw fp=>wV rfl ?_)
      refine af ?_;refine VS.back (n-(i+1)) ae ⟨_,_,?_,?_,?_,?_,⟨i+1,nh,ds++[dg],.row 47 0 (ds++[dg]).length cap',ae,aa,aa,.inr ⟨cap',aV,aa,aa,by simp;omega,xU,?_,jw,fp⟩,by simp[pT],dp.append hdh (dp.cons Ke.2 (dp.nil _)),mA.2,hst⟩⟩
      ·exact⟨aa,aa,aa,ai (λz=>some (AV.row 47 0 z cap')) bc,ai (λz=>some (AV.val (.int .i64 z))) LY,ai (λz=>some (AV.val (.int .i64 z))) xT,aj⟩
      ·exact⟨ai (λl=>some (_,l++aV)) (oO _ _).symm,aj⟩
      ·rfl
      ·exact⟨.append (.none (bd _)) (.none fp),aj⟩
      ·simpa [bI,Nat.add_assoc] using hlen
    ·rw[if_neg h0] at mA;have ng:nh=0:=ae;subst ng;refine VS.cd aa (bo h0) ?_;refine af ?_
     ·refine VO.eU 46 aa (ai (λz=>[AV.val (.int .i64 z)]) (show X=(dg:Int) by omega)) ?_
      refine VO.app (bQ _ _) (t:=27) (e:=3) (sz:=1) (n:=ds.length) (c:=cap) (mm:=1) (known:=iv ds) (spare:=spare) (news:=iv [dg]) (dst:=47) (del:=some 47) aa aa aa aa aa aa aa aa (cz aa) aa (.inr ⟨47,aa,aa,aa⟩) (.inr aa) (by rw[bI];omega) (by rw[da,bI];omega) h1 h2 ⟨bd _,h5,bd _⟩ ⟨lJ _,h4,lJ _⟩ aa ae
       (λw1 β k1 b1 ho=>⟨_,_,rfl,.inr ⟨β 46,0,rfl,gr (rest:=[]) (ho.own 46 (.base (mM _ (aH.2 rfl))) _ _ rfl) rfl⟩⟩)
       (λw2 cap' aV ρ k2 b2 dH oC xU hlen jw fp=>wV rfl ?_)
      refine af ?_;refine VS.back (n-(i+1)) ae ⟨_,_,?_,?_,?_,?_,⟨i+1,0,ds++[dg],.row 47 0 (ds++[dg]).length cap',ae,aa,aa,.inr ⟨cap',aV,aa,aa,by simp;omega,xU,?_,jw,fp⟩,by simp[pT],dp.append hdh (dp.cons Ke.2 (dp.nil _)),cD _,hst⟩⟩
      ·exact⟨aa,aa,aa,ai (λz=>some (AV.row 47 0 z cap')) bc,aa,ai (λz=>some (AV.val (.int .i64 z))) xT,aj⟩
      ·exact⟨ai (λl=>some (_,l++aV)) (oO _ _).symm,aj⟩
      ·rfl
      ·exact⟨.append (.none (bd _)) (.none fp),aj⟩
      ·simpa [bI,Nat.add_assoc] using hlen
   ·have Kn:y=0:=by rw[fG ae] at hyg;omega
    have hwX:IntKind.i64.wrap ((x:Int)-(br:Int))=X:=by rw[ss,hX,Kn,jT];omega
    refine VS.bJ aa (aU (cf.2 tL)) ?_;refine af ?_;refine VO.cond aa eH (wV aa ?_);refine VO.read aa [.int .i64 (x:Int)] aa (kB aa pU) (wV aa ?_);refine VO.fix 10 aa (ai (λz=>AV.val (.int .i64 z)) hwX) ?_;refine af ?_;refine VS.cd aa (bo (λe=>him (cf.1 e))) ?_;refine af ?_;by_cases h0:X<0
    ·rw[if_pos h0] at mA
     have LY:IntKind.i64.wrap ((IntKind.i64.wrap (65535-X)).tdiv 65536)=(nh:Int):=by
      rw[bj (65535-X) ae,vo ae,bj _ ae,mA.1]
     have hwd:IntKind.i64.wrap (X+IntKind.i64.wrap (65536*(nh:Int)))=(dg:Int):=by
      rw[bj (65536*(nh:Int)) ae,bj _ ae,Ke.1]
     refine VS.bJ aa (aU h0) ?_;refine af ?_
     ·refine VO.eU 46 aa (ai (λz=>[AV.val (.int .i64 z)]) (show _=(dg:Int) by rw[LY,hwd])) ?_
      refine VO.app (bQ _ _) (t:=27) (e:=3) (sz:=1) (n:=ds.length) (c:=cap) (mm:=1) (known:=iv ds) (spare:=spare) (news:=iv [dg]) (dst:=47) (del:=some 47) aa aa aa aa aa aa aa aa (cz aa) aa (.inr ⟨47,aa,aa,aa⟩) (.inr aa) (by rw[bI];omega) (by rw[da,bI];omega) h1 h2 ⟨bd _,h5,bd _⟩ ⟨lJ _,h4,lJ _⟩ aa ae
       (λw1 β k1 b1 ho=>⟨_,_,rfl,.inr ⟨β 46,0,rfl,gr (rest:=[]) (ho.own 46 (.base (mM _ (aH.2 rfl))) _ _ rfl) rfl⟩⟩)
       (λw2 cap' aV ρ k2 b2 dH oC xU hlen jw fp=>wV rfl ?_)
      refine af ?_;refine VS.back (n-(i+1)) ae ⟨_,_,?_,?_,?_,?_,⟨i+1,nh,ds++[dg],.row 47 0 (ds++[dg]).length cap',ae,aa,aa,.inr ⟨cap',aV,aa,aa,by simp;omega,xU,?_,jw,fp⟩,by simp[pT],dp.append hdh (dp.cons Ke.2 (dp.nil _)),mA.2,hst⟩⟩
      ·exact⟨aa,aa,aa,ai (λz=>some (AV.row 47 0 z cap')) bc,ai (λz=>some (AV.val (.int .i64 z))) LY,ai (λz=>some (AV.val (.int .i64 z))) xT,aj⟩
      ·exact⟨ai (λl=>some (_,l++aV)) (oO _ _).symm,aj⟩
      ·rfl
      ·exact⟨.append (.none (bd _)) (.none fp),aj⟩
      ·simpa [bI,Nat.add_assoc] using hlen
    ·rw[if_neg h0] at mA;have ng:nh=0:=ae;subst ng;refine VS.cd aa (bo h0) ?_;refine af ?_
     ·refine VO.eU 46 aa (ai (λz=>[AV.val (.int .i64 z)]) (show X=(dg:Int) by omega)) ?_
      refine VO.app (bQ _ _) (t:=27) (e:=3) (sz:=1) (n:=ds.length) (c:=cap) (mm:=1) (known:=iv ds) (spare:=spare) (news:=iv [dg]) (dst:=47) (del:=some 47) aa aa aa aa aa aa aa aa (cz aa) aa (.inr ⟨47,aa,aa,aa⟩) (.inr aa) (by rw[bI];omega) (by rw[da,bI];omega) h1 h2 ⟨bd _,h5,bd _⟩ ⟨lJ _,h4,lJ _⟩ aa ae
       (λw1 β k1 b1 ho=>⟨_,_,rfl,.inr ⟨β 46,0,rfl,gr (rest:=[]) (ho.own 46 (.base (mM _ (aH.2 rfl))) _ _ rfl) rfl⟩⟩)
       (λw2 cap' aV ρ k2 b2 dH oC xU hlen jw fp=>wV rfl ?_)
      refine af ?_;refine VS.back (n-(i+1)) ae ⟨_,_,?_,?_,?_,?_,⟨i+1,0,ds++[dg],.row 47 0 (ds++[dg]).length cap',ae,aa,aa,.inr ⟨cap',aV,aa,aa,by simp;omega,xU,?_,jw,fp⟩,by simp[pT],dp.append hdh (dp.cons Ke.2 (dp.nil _)),cD _,hst⟩⟩
      ·exact⟨aa,aa,aa,ai (λz=>some (AV.row 47 0 z cap')) bc,aa,ai (λz=>some (AV.val (.int .i64 z))) xT,aj⟩
      ·exact⟨ai (λl=>some (_,l++aV)) (oO _ _).symm,aj⟩
      ·rfl
      ·exact⟨.append (.none (bd _)) (.none fp),aj⟩
      ·simpa [bI,Nat.add_assoc] using hlen
 ·obtain rfl:i=n:=by omega
  have Jk:=LW hdh pT dv (show t*hval (halves B)<=hval (halves A) by rw[aP,aP];exact hle) (by
   rcases lg t with e|e
   ·exact .inl e
   ·right
    rw[<-dv];exact cK ae (bA (Nat.le_mul_of_pos_left B e) hle)) hv
  rw[aP,aP] at Jk;rcases rM with ⟨rfl,rfl,rfl⟩|⟨cap,spare,rfl,rfl,h1,h2,h3,h4,h5⟩
  all_goals
   refine af ?_;refine VS.cd aa (bo (λe=>tL (cf.1 e))) ?_;refine af ?_
  ·refine VO.call aa aa (fk tE) (λgQ ky kV=>(fK none 0 0 [] gQ (Rd.own (jh _ 0 0 _)) (dp.nil _)).mono ?_);rintro e w1 ⟨⟨mm,yA,rfl,hcut⟩,rfl⟩;obtain rfl:mm=0:=ae;refine⟨_,aa,ax.refl _,λnZ _ bb1=>wV aa ?_⟩;refine af ?_;refine bH ?_;intro wz kz bz;have e0:A-t*B=0:=by rw[<-Jk];rfl
   exact⟨_,aa,by rw[e0,jZ];exact dL.nil _ _,bz⟩
  ·refine VO.yX aa (fk tE) (λw1 β k1 b1 ho=>(fK (some ⟨β 47,0,none⟩) ds.length cap ds w1 (kA (ho.own 47 (.base (aH.2 aa)) _ _ aa) aa h1 (by simpa [maxLen] using h2)) hdh).mono ?_);rintro e w2 ⟨⟨mm,yA,rfl,hcut⟩,rfl⟩;refine⟨.row 47 0 mm cap,aa,λi hi=>⟨hi,by cases aH.1 hi;exact fi _⟩,ax.refl _,λk2 _ b2=>wV aa ?_⟩;refine af ?_;refine VS.Af (bQ _ _) aa (λwz β kz bz he=> ?_);have nc:=vc hcut yA aa;rw[Jk] at hcut nc;refine⟨_,aa,?_,bz⟩;have:=od (he.own 47 _ _ aa) aa yA h1 (by simpa [maxLen] using h2) h3;rw[<-hcut] at this;show dL wz w.heap.size (.slice (some ⟨β 47,0,none⟩) mm cap) _ _;rw[<-nc];exact this
set_option maxRecDepth 4000
variable {v:Value} {w':World}
theorem dL.iW {n:Nat} (h:dL w B v n xs) (k:aY KI w w'):dL w' B v n xs:=by
 obtain⟨hn,e|⟨b,c,spare,e,hb,hc,r⟩⟩:=h
 ·exact⟨hn,.inl e⟩
 ·exact⟨hn,.inr ⟨b,c,spare,e,hb,k.block _ b _ aa aj hc,r⟩⟩
variable {cs:List Value}
theorem xV.kp {n:Nat} (h:w.ownsRow B 3 1 v n cs) (k:aY KI w w'):w'.ownsRow B 3 1 v n cs:=by
 refine⟨h.1,?_⟩;rcases h.2 with h2|⟨g,cap,cur,hv,hb,hg,r⟩
 ·exact .inl h2
 ·exact .inr ⟨g,cap,cur,hv,hb,k.block _ g cur aa aj hg,r⟩
theorem dL.form {n:Nat} (h:dL w B v n xs):∃ p c,v=.slice p n c:=by
 obtain⟨hn,⟨rfl,rfl⟩|⟨b,c,spare,rfl,_⟩⟩:=h
 ·exact⟨none,0,aa⟩
 ·exact⟨_,c,aa⟩
theorem CU (x:Nat):hval [x]=x:=by show x+65536*0=x;omega
variable {Q:Prop}
theorem dM (h:Q) (i:Q->P:=by intro h;(repeat first|refine wN ?_|refine wP rfl ?_|refine za rfl ?_|refine cxI_d rfl ?_|refine wO rfl rfl ?_);exact h):P:=i h
theorem eI {X:Prop} (hb:X) (h:Q) (i:X->Q->P:=by intro hb h;refine⟨_,rfl,hb,λa b c=>wV rfl ?_⟩;refine dM ?_;revert a b c;exact h):P:=i hb h
theorem ug (h:Q) (i:Q->P:=by intro h;exact VS.ret (my _ _) rfl rfl h):P:=i h
theorem uh (va vb:Value) (n m A B:Nat) (w:World) (hr:Rd w 1 va n (ints .i64 (halves A))) (hs:Rd w 1 vb m (ints .i64 (halves B))) (hB:A<65536*B) (hm:m<=2147483656):
  Calls Tryz.prog 104 #[va,vb] w λe w'=>e=.returned (.int .i64 ((A/B:Nat):Int))/\ax w w':=by
 obtain⟨p,c,rfl,iD,fO,dv⟩:=hr.i64;obtain⟨q,d,rfl,JX,DJ,ij⟩:=hs.i64;refine ar (C:=GV Tryz.prog w _) (args:=[_,_]) Tryz.func104 aa Tryz.ntmps104 (cz aa) ?_;refine dM ?_;refine VS.loop (J:=λms L M w'=>∃ (lo hi:Nat),lo<hi/\hi<=65536/\ms=hi-lo/\L=[(0,.val (.slice p n c)),(1,.val (.slice q m d)),(5,.val (.int .i64 (lo:Int))),(6,.val (.int .i64 (hi:Int)))]/\M=[]/\lo*B<=A/\A<hi*B) 65536 ⟨_,_,?_,?_,?_,?_,⟨0,65536,ae,ae,aa,aa,aa,ae,hB⟩⟩ ?_
 ·exact lK
 ·exact lK
 ·rfl
 ·exact aj
 rintro ms L M w' ⟨lo,hi,hlh,hh,rfl,rfl,rfl,h1,h2⟩;have ss:IntKind.i64.wrap ((hi:Int)-(lo:Int))=(hi:Int)-lo:=bj _ ae;refine dM ?_;by_cases hgo:1<hi-lo
 ·obtain⟨mid,lX⟩:∃ mid,mid=(lo+hi)/2:=⟨_,aa⟩
  have hwm:IntKind.i64.wrap ((IntKind.i64.wrap ((lo:Int)+(hi:Int))).tdiv 2)=(mid:Int):=by
   rw[bj ((lo:Int)+(hi:Int)) ae,vo ae,bj _ ae];omega
  refine VS.bJ aa (aU (by rw[ss];omega)) ?_;refine dM ?_;refine VO.lit (my _ _) [.int .i64 (mid:Int)] aa (by rw[hwm];rfl) aa aa aa aa aa aa aa ae (λw2 b k2 b2 ho=>wV aa ?_);have hmid4:mid<65536:=ae;refine VO.call aa aa (fk Tryz.func75) (λgQ ky kV=>(CS _ _ m 1 (halves B) [mid] gQ (hs.below kV) (Rd.own (xV.kp (cs:=ints .i64 [mid]) ho ky)) (bC B) (dp.cons hmid4 (dp.nil _)) hm ae).mono ?_);rintro e w1 ⟨v1,rfl,q1,bS⟩;rw[aP,CU] at q1;obtain⟨p1,c1,rfl⟩:=q1.form;refine eI bS ?_;intro nZ _ bb1;refine VO.cB aa aa (fk Tryz.func114) (λfS gR gY=>Fa _ _ n _ A (B*mid) fS (hr.below gY) (Rd.own (q1.iW gR).own)) (λfS gR gY w3 dc nj _ bb3=>wV aa ?_);refine dM ?_;by_cases hlt:A<B*mid
  ·refine VS.bJ aa (aU hlt) ?_;refine dM ?_;refine VS.back (mid-lo) ae ⟨_,_,?_,?_,?_,?_,⟨lo,mid,ae,ae,aa,aa,aa,h1,by rw[eh];exact hlt⟩⟩
   ·exact⟨aa,aa,aa,ai (λz=>some (AV.val (.int .i64 z))) hwm,aj⟩
   ·exact lK
   ·rfl
   ·exact aj
  ·refine VS.cd aa (bo hlt) ?_;refine dM ?_;refine VS.back (hi-mid) ae ⟨_,_,?_,?_,?_,?_,⟨mid,hi,ae,ae,aa,aa,aa,by rw[eh];omega,h2⟩⟩
   ·exact⟨aa,aa,ai (λz=>some (AV.val (.int .i64 z))) hwm,aa,aj⟩
   ·exact lK
   ·rfl
   ·exact aj
 ·refine VS.cd aa (bo (by rw[ss];omega)) ?_;refine dM ?_;refine ug ?_;intro wz kz bz;refine⟨?_,bz⟩
  have hBp:0<B:=by
   rcases lg B with e|e
   ·rw[e] at hB;omega
   ·exact e
  have:A/B=lo:=by
   have e1:hi=lo+1:=ae;rw[e1,cV] at h2;exact Nat.div_eq_of_lt_le h1 (by rw[cV];exact h2)
  rw[this];rfl
theorem xb {R V:Nat} {qs:List Nat} (hx:(halves A)[k]? =some x) (hR:R<B) (hV:V=x+65536*R) (h:hval qs*B+R=hval ((halves A).drop (k+1))):
  hval ((V/B)::qs)*B+(V-V/B*B)=hval ((halves A).drop k)/\V<65536*B/\V-V/B*B<B/\V/B<65536:=by
 have ja:=(bC A).at hx;have e1:hval ((halves A).drop k)=x+65536*hval ((halves A).drop (k+1)):=pD hx;have e2:hval ((V/B)::qs)=V/B+65536*hval qs:=aa;have e3:=yl V B;have e4:=cM V (show 0<B by omega);rw[eh] at e3
 have hlt:V<65536*B:=by
  have:65536*R+65536<=65536*B:=by
   have:=gG 65536 (show R+1<=B by omega);rw[bg] at this;omega
  omega
 refine⟨?_,hlt,ae,Nat.div_lt_of_lt_mul (by rw[eh];exact hlt)⟩;rw[e1,<-h,e2,cV,bg,db];omega
theorem CV (va vb:Value) (n m A B:Nat) (w:World) (hr:Rd w 1 va n (ints .i64 (halves A))) (hs:Rd w 1 vb m (ints .i64 (halves B))) (hB:0<B) (hn:n<=1073741824) (hm:m<=1073741824):
  Calls Tryz.prog 88 #[va,vb] w λe w'=>∃ v u,e=.returned (.tuple #[v,u])/\dL w' w.heap.size v (halves (A/B)).length (halves (A/B))/\dL w' w.heap.size u (halves (A%B)).length (halves (A%B))/\ax w w':=by
 obtain⟨p,c,rfl,iD,fO,dv⟩:=hr.i64;obtain⟨q,d,rfl,JX,DJ,ij⟩:=hs.i64;refine ar (C:=bD Tryz.prog w _) (args:=[_,_]) Tryz.func88 aa Tryz.ntmps88 (cz aa) ?_;refine af ?_;refine VO.cond aa ⟨aa,ae,by show (n:Int)*(24*1)<=_;omega⟩ (VO.eU 12 aa (wY _) (wV aa ?_));rw[aQ];refine af ?_;have hw0:IntKind.i64.wrap ((n:Int)-1)=(n:Int)-1:=bj _ ae
 refine VS.loop (J:=λms L M w'=>∃ (k R:Nat) (qs:List Nat) (v:AV) (M1:List (Nat×(TypeId×List AV))),k<=n/\ms=k/\L=[(0,.val (.slice p n c)),(1,.val (.slice q m d)),(6,.row 12 0 n n),(7,v),(8,.val (.int .i64 ((k:Int)-1)))]/\
  M=(12,(3,iv (List.replicate k 0++qs)))::M1/\RowAt 41 (halves R) v M1/\qs.length=n-k/\fe qs/\R<B/\hval qs*B+R=hval ((halves A).drop k)) n ⟨_,_,?_,?_,?_,?_,⟨n,0,[],.val (.slice none 0 0),[],aM _,rfl,rfl,rfl,.inl ⟨jZ,rfl,rfl⟩,bc,dp.nil _,hB,by rw[mL ae];simp[hval,val]⟩⟩ ?_
 ·exact⟨aa,aa,aa,aa,ai (λz=>some (AV.val (.int .i64 z))) hw0,aj⟩
 ·exact⟨ai (λl=>some (_,l)) (by rw[dS]),aj⟩
 ·rfl
 ·exact⟨.none (bd _),aj⟩
 rintro ms L M w' ⟨k,R,qs,v,M1,hk,hms,rfl,rfl,rM,hql,hqh,hRB,hv⟩;have hz:(List.replicate k 0++qs).length=n:=by simp;omega
 rcases rM with ⟨hR0,rfl,rfl⟩|⟨cap,spare,rfl,rfl,g1,g2,g3,g4,g5⟩
 all_goals
  by_cases Gy:k=0
 ·subst Gy;refine af ?_;refine VO.yX aa (fk tE) (λw1 β k1 bw ho=>(fK (some ⟨β 12,0,none⟩) n n qs w1 (kA (spare:=[]) (by rw[dS];exact ho.own 12 (.base (aH.2 aa)) _ _ aa) (by simpa using hz) (aM _) (by simp only[maxLen];omega)) hqh).mono ?_);rintro e w2 ⟨⟨mm,yA,rfl,hcut⟩,rfl⟩;refine⟨.row 12 0 mm n,aa,λi hi=>⟨hi,by cases aH.1 hi;exact fi _⟩,ax.refl _,λk2 _ b2=>wV aa ?_⟩;refine af ?_;refine VS.Af (bQ _ _) aa (λwz β kz bz he=> ?_);have hq0:qs.length=n:=by simpa using hz
  have nc:=vc hcut yA hq0;rw[Bi,aP] at hv;have hA:A/B=hval qs:=by rw[<-hv,po,Nat.add_mul_div_right _ _ hB,tD hRB,cC]
  have hM:A%B=R:=by rw[<-hv,po,Kj,qN hRB]
  rw[<-hA] at hcut nc;have e12:=od (spare:=[]) (by rw[dS];exact he.own 12 _ _ aa) hq0 yA (aM _) (by simp only[maxLen];omega) (by simpa using hq0);rw[<-hcut] at e12;refine⟨.slice (some ⟨β 12,0,none⟩) mm n,.slice none 0 0,aa,by rw[<-nc];exact e12,?_,bz⟩;rw[hM,hR0];exact dL.nil _ _
 ·obtain⟨j,rfl⟩:∃ j,k=j+1:=⟨k-1,ae⟩;have hj:((j+1:Nat):Int)-1=(j:Int):=ae;obtain⟨b1,o1,x,rfl,bS,fo,pU⟩:=hr.cellAt (show j<n by omega);have ja:=(bC A).at fo;obtain⟨V,hV⟩:∃ V,V=x+65536*R:=⟨_,aa⟩;obtain⟨s1,s2,s3,s4⟩:=xb fo hRB hV hv;have hRl:(halves R).length<=m:=by rw[<-ij];exact cK ae ae
  have hXS:hval [x]=V:=by have hR0':R=0:=(by have:=ai hval hR0;rw[aP] at this;exact this);rw[hV,hR0'];exact CU x
  have hXH:fe [x]:=dp.cons ja (dp.nil _);have hXL:[x].length=(1+0):=aa;refine VS.fix 8 aa (ai (λz=>AV.val (.int .i64 z)) hj) ?_;refine af ?_;refine VO.cond aa eH (wV aa ?_);refine VO.read aa [.int .i64 (x:Int)] aa (kB aa pU) (wV aa ?_);refine af ?_
  refine VO.app (bQ _ _) (t:=27) (e:=3) (sz:=1) (n:=1) (c:=1) (mm:=0) (known:=iv [x]) (spare:=[]) (news:=[]) (dst:=27) (del:=some 24) aa aa aa aa aa aa aa aa (cz aa) aa (.inr ⟨24,aa,aa,aa⟩) (.inl aa) aa aa ae ae ⟨aa,aa,aa⟩ ⟨aa,aa,aa⟩ aa ae
   (λw1 β k1 bw ho=>⟨_,_,rfl,.inl rfl⟩)
   (λw2 cap' aV ρ k2 b2 dH oC xU hlen jw fp=>VO.eU 12 rfl (LV 24 ρ _) (wV rfl ?_))
  have hcells:(iv [x]++[])++aV=iv [x]++aV:=aa;refine VO.yX aa (fk tE) (λw1 β k1 bw ho=>(fK (some ⟨β 27,0,none⟩) (1+0) cap' [x] w1 (kA (ho.own 27 (.base (aH.2 aa)) _ _ aa) hXL oC (by simpa [maxLen] using xU)) hXH).mono ?_);rintro e w3 ⟨⟨m',Gp,rfl,hcut⟩,rfl⟩;rw[hXS] at hcut;have hm'l:m'=(halves V).length:=by rw[hcut,aR];omega
  have sq:∀ {C:Cx} {β:Nat->Nat} {w:World},jv C β w 27 3 (iv [x]++aV)->Rd w 1 (.slice (some ⟨β 27,0,none⟩) m' cap') m' (ints .i64 (halves V)):=λh=>by
   have:=Rd.BO (kA h hXL oC (by simpa [maxLen] using xU)) Gp
   rwa [<-hcut] at this
  refine⟨.row 27 0 m' cap',aa,λi hi=>⟨hi,by cases aH.1 hi;exact fi _⟩,ax.refl _,λk3 _ b3=>wV aa ?_⟩;refine af ?_;refine VO.ud aa (fk Tryz.func104) (λw1 β k1 bw ho=>(uh _ _ m' m V B w1 (sq (ho.own 27 (.base (qL _ (aH.2 aa))) _ _ aa)) (hs.below bw) s2 ae).mono ?_);rintro e w4 ⟨rfl,fv⟩;refine⟨_,aa,fv,λk4 _ b4=>wV aa ?_⟩;refine VO.cond aa eH (wV aa ?_);refine VO.cond aa (by show 0+(j:Int).toNat*1+1<=_;rw[aQ,bI];omega) (wV aa ?_);refine wN ?_;refine VS.narrow [(0,.val (.slice (some ⟨b1,o1,none⟩) n c)),(1,.val (.slice q m d)),(6,.row 12 0 n n),(7,.row 27 0 m' cap'),(8,.val (.int .i64 (j:Int)))] [(12,(3,iv (List.replicate j 0++(V/B)::qs))),(27,(3,iv [x]++aV))] ?_ ?_ aa ?_ ?_
  ·exact lK
  ·exact⟨ai (λl=>some (_,l)) ((uZ (j:=j) (x:=V/B) (by rw[hz];omega) (by rw[aQ];omega)).trans (by rw[tS])),aa,aj⟩
  ·exact⟨.none (bd _),.append (.none (bd _)) (.none fp),aj⟩
  refine af ?_;refine VO.cond aa eH (wV aa ?_);refine VO.dQ aa [.val (.int .i64 ((V/B:Nat):Int))] aa (rS (j:=j) (by rw[nr bc];simp) (by rw[aQ];omega)) (wV aa ?_);have ss:IntKind.i64.wrap ((j:Int)-1)=(j:Int)-1:=bj _ ae;refine VO.callN (dst:=41) (n:=(halves (V-V/B*B)).length) (t:=3) (sz:=1) (xs:=ints .i64 (halves (V-V/B*B))) aa aa aa (cz aa) (by show 1<=2;omega) aa (λw1 β k1 bw ho=>⟨(fk Tryz.func105),(xa _ _ m' m (V/B) V B w1 (sq (ho.own 27 (.base (qL _ (aH.2 aa))) _ _ aa)) (hs.below bw) s4 (Bb _ _) ae).mono ?_⟩);rintro e w5 ⟨v5,rfl,CW,jJ⟩;refine⟨v5,aa,jJ,CW.new,λ_ _ _ hv5=>wV aa ?_,λc5 sp5 _ _ _ hv5 hok5 hl5 hc5 Ky=>wV aa ?_⟩
  ·have jr:halves (V-V/B*B)=[]:=by
    subst hv5;obtain⟨e1,⟨_,e2⟩|⟨_,_,_,e2,_⟩⟩:=CW
    ·exact jQ e2
    ·cases e2
   refine af ?_;refine VS.back j ae ⟨_,_,?_,?_,?_,?_,⟨j,V-V/B*B,(V/B)::qs,.val (.slice none 0 0),[],ae,aa,aa,aa,.inl ⟨jr,aa,aa⟩,by simp;omega,dp.cons s4 hqh,s3,s1⟩⟩
   ·exact⟨aa,aa,aa,aa,ai (λz=>some (AV.val (.int .i64 z))) ss,aj⟩
   ·exact⟨aa,aj⟩
   ·rfl
   ·exact⟨.none (bd _),aj⟩
  ·have hln':(halves (V-V/B*B)).length+sp5.length=c5:=by simpa using Ky
   refine af ?_;refine VS.back j ae ⟨_,_,?_,?_,?_,?_,⟨j,V-V/B*B,(V/B)::qs,.row 41 0 _ c5,_,ae,aa,aa,aa,.inr ⟨c5,sp5.map .val,aa,aa,hl5,hc5,by simpa using hln',cO hok5,aG _⟩,by simp;omega,dp.cons s4 hqh,s3,s1⟩⟩
   ·exact⟨aa,aa,aa,aa,ai (λz=>some (AV.val (.int .i64 z))) ss,aj⟩
   ·exact⟨aa,ai (λl=>some (_,l)) (cT),aj⟩
   ·rfl
   ·exact⟨.none (bd _),.append (.none (bd _)) (.none (aG _)),aj⟩
 ·subst Gy;refine af ?_;refine VO.yX aa (fk tE) (λw1 β k1 bw ho=>(fK (some ⟨β 12,0,none⟩) n n qs w1 (kA (spare:=[]) (by rw[dS];exact ho.own 12 (.base (aH.2 aa)) _ _ aa) (by simpa using hz) (aM _) (by simp only[maxLen];omega)) hqh).mono ?_);rintro e w2 ⟨⟨mm,yA,rfl,hcut⟩,rfl⟩;refine⟨.row 12 0 mm n,aa,λi hi=>⟨hi,by cases aH.1 hi;exact fi _⟩,ax.refl _,λk2 _ b2=>wV aa ?_⟩;refine af ?_;refine VS.Af (bQ _ _) aa (λwz β kz bz he=> ?_);have hq0:qs.length=n:=by simpa using hz
  have nc:=vc hcut yA hq0;rw[Bi,aP] at hv;have hA:A/B=hval qs:=by rw[<-hv,po,Nat.add_mul_div_right _ _ hB,tD hRB,cC]
  have hM:A%B=R:=by rw[<-hv,po,Kj,qN hRB]
  rw[<-hA] at hcut nc;have e12:=od (spare:=[]) (by rw[dS];exact he.own 12 _ _ aa) hq0 yA (aM _) (by simp only[maxLen];omega) (by simpa using hq0);rw[<-hcut] at e12;have e41:=od (he.own 41 _ _ aa) aa (aM _) g1 (by simpa [maxLen] using g2) g3;rw[Bf] at e41;refine⟨.slice (some ⟨β 12,0,none⟩) mm n,.slice (some ⟨β 41,0,none⟩) (halves R).length cap,aa,by rw[<-nc];exact e12,?_,bz⟩;rw[hM];exact e41
 ·obtain⟨j,rfl⟩:∃ j,k=j+1:=⟨k-1,ae⟩;have hj:((j+1:Nat):Int)-1=(j:Int):=ae;obtain⟨b1,o1,x,rfl,bS,fo,pU⟩:=hr.cellAt (show j<n by omega);have ja:=(bC A).at fo;obtain⟨V,hV⟩:∃ V,V=x+65536*R:=⟨_,aa⟩;obtain⟨s1,s2,s3,s4⟩:=xb fo hRB hV hv;have hRl:(halves R).length<=m:=by rw[<-ij];exact cK ae ae
  have hXS:hval (x::halves R)=V:=by rw[hV];show x+65536*hval (halves R)=_;rw[aP]
  have hXH:fe (x::halves R):=dp.cons ja (bC R);have hXL:(x::halves R).length=(1+(halves R).length):=by simp;omega
  refine VS.fix 8 aa (ai (λz=>AV.val (.int .i64 z)) hj) ?_;refine af ?_;refine VO.cond aa eH (wV aa ?_);refine VO.read aa [.int .i64 (x:Int)] aa (kB aa pU) (wV aa ?_);refine af ?_
  refine VO.app (bQ _ _) (t:=27) (e:=3) (sz:=1) (n:=1) (c:=1) (mm:=(halves R).length) (known:=iv [x]) (spare:=[]) (news:=iv (halves R)) (dst:=27) (del:=some 24) aa aa aa aa aa aa aa aa (cz aa) aa (.inr ⟨24,aa,aa,aa⟩) (.inl aa) aa aa ae ae ⟨aa,aa,bd _⟩ ⟨aa,aa,lJ _⟩ (by rw[bI];omega) ae
   (λw1 β k1 bw ho=>⟨_,_,rfl,.inr ⟨β 41,0,rfl,gr (rest:=spare) (ho.own 41 (.base (mM _ (aH.2 rfl))) _ _ rfl) rfl⟩⟩)
   (λw2 cap' aV ρ k2 b2 dH oC xU hlen jw fp=>VO.eU 12 rfl (LV 24 ρ _) (wV rfl ?_))
  have hcells:(iv [x]++iv (halves R))++aV=iv (x::halves R)++aV:=aa;refine VO.yX aa (fk tE) (λw1 β k1 bw ho=>(fK (some ⟨β 27,0,none⟩) (1+(halves R).length) cap' (x::halves R) w1 (kA (ho.own 27 (.base (aH.2 aa)) _ _ aa) hXL oC (by simpa [maxLen] using xU)) hXH).mono ?_);rintro e w3 ⟨⟨m',Gp,rfl,hcut⟩,rfl⟩;rw[hXS] at hcut;have hm'l:m'=(halves V).length:=by rw[hcut,aR];omega
  have sq:∀ {C:Cx} {β:Nat->Nat} {w:World},jv C β w 27 3 (iv (x::halves R)++aV)->Rd w 1 (.slice (some ⟨β 27,0,none⟩) m' cap') m' (ints .i64 (halves V)):=λh=>by
   have:=Rd.BO (kA h hXL oC (by simpa [maxLen] using xU)) Gp
   rwa [<-hcut] at this
  refine⟨.row 27 0 m' cap',aa,λi hi=>⟨hi,by cases aH.1 hi;exact fi _⟩,ax.refl _,λk3 _ b3=>wV aa ?_⟩;refine af ?_;refine VO.ud aa (fk Tryz.func104) (λw1 β k1 bw ho=>(uh _ _ m' m V B w1 (sq (ho.own 27 (.base (qL _ (aH.2 aa))) _ _ aa)) (hs.below bw) s2 ae).mono ?_);rintro e w4 ⟨rfl,fv⟩;refine⟨_,aa,fv,λk4 _ b4=>wV aa ?_⟩;refine VO.cond aa eH (wV aa ?_);refine VO.cond aa (by show 0+(j:Int).toNat*1+1<=_;rw[aQ,bI];omega) (wV aa ?_);refine wN ?_;refine VS.narrow [(0,.val (.slice (some ⟨b1,o1,none⟩) n c)),(1,.val (.slice q m d)),(6,.row 12 0 n n),(7,.row 27 0 m' cap'),(8,.val (.int .i64 (j:Int)))] [(12,(3,iv (List.replicate j 0++(V/B)::qs))),(27,(3,iv (x::halves R)++aV))] ?_ ?_ aa ?_ ?_
  ·exact lK
  ·exact⟨ai (λl=>some (_,l)) ((uZ (j:=j) (x:=V/B) (by rw[hz];omega) (by rw[aQ];omega)).trans (by rw[tS])),aa,aj⟩
  ·exact⟨.none (bd _),.append (.none (bd _)) (.none fp),aj⟩
  refine af ?_;refine VO.cond aa eH (wV aa ?_);refine VO.dQ aa [.val (.int .i64 ((V/B:Nat):Int))] aa (rS (j:=j) (by rw[nr bc];simp) (by rw[aQ];omega)) (wV aa ?_);have ss:IntKind.i64.wrap ((j:Int)-1)=(j:Int)-1:=bj _ ae;refine VO.callN (dst:=41) (n:=(halves (V-V/B*B)).length) (t:=3) (sz:=1) (xs:=ints .i64 (halves (V-V/B*B))) aa aa aa (cz aa) (by show 1<=2;omega) aa (λw1 β k1 bw ho=>⟨(fk Tryz.func105),(xa _ _ m' m (V/B) V B w1 (sq (ho.own 27 (.base (qL _ (aH.2 aa))) _ _ aa)) (hs.below bw) s4 (Bb _ _) ae).mono ?_⟩);rintro e w5 ⟨v5,rfl,CW,jJ⟩;refine⟨v5,aa,jJ,CW.new,λ_ _ _ hv5=>wV aa ?_,λc5 sp5 _ _ _ hv5 hok5 hl5 hc5 Ky=>wV aa ?_⟩
  ·have jr:halves (V-V/B*B)=[]:=by
    subst hv5;obtain⟨e1,⟨_,e2⟩|⟨_,_,_,e2,_⟩⟩:=CW
    ·exact jQ e2
    ·cases e2
   refine af ?_;refine VS.back j ae ⟨_,_,?_,?_,?_,?_,⟨j,V-V/B*B,(V/B)::qs,.val (.slice none 0 0),[],ae,aa,aa,aa,.inl ⟨jr,aa,aa⟩,by simp;omega,dp.cons s4 hqh,s3,s1⟩⟩
   ·exact⟨aa,aa,aa,aa,ai (λz=>some (AV.val (.int .i64 z))) ss,aj⟩
   ·exact⟨aa,aj⟩
   ·rfl
   ·exact⟨.none (bd _),aj⟩
  ·have hln':(halves (V-V/B*B)).length+sp5.length=c5:=by simpa using Ky
   refine af ?_;refine VS.back j ae ⟨_,_,?_,?_,?_,?_,⟨j,V-V/B*B,(V/B)::qs,.row 41 0 _ c5,_,ae,aa,aa,aa,.inr ⟨c5,sp5.map .val,aa,aa,hl5,hc5,by simpa using hln',cO hok5,aG _⟩,by simp;omega,dp.cons s4 hqh,s3,s1⟩⟩
   ·exact⟨aa,aa,aa,aa,ai (λz=>some (AV.val (.int .i64 z))) ss,aj⟩
   ·exact⟨aa,ai (λl=>some (_,l)) (cT),aj⟩
   ·rfl
   ·exact⟨.none (bd _),.append (.none (bd _)) (.none (aG _)),aj⟩
set_option maxRecDepth 4000
variable {X:Int}
theorem bP.iW {j:Nat} (h:bP w v X j) (k:aY KI w w'):bP w' v X j:=h.kp (U:=UU) k.xL
theorem bK.iW (h:bK w v X) (k:aY KI w w'):bK w' v X:=h.kp (U:=UU) k.xL
theorem aw.iW (h:aw w B v X) (k:aY KI w w'):aw w' B v X:=h.kp k.xL
theorem Rd.iW {n:Nat} (h:Rd w 1 v n (ints .u32 xs)) (k:aY KI w w'):Rd w' 1 v n (ints .u32 xs):=h.kp (U:=UU) k.xL
theorem OwnU.iW {n:Nat} (h:w.ownsRow B UU 1 v n cs) (k:aY KI w w'):w'.ownsRow B UU 1 v n cs:=Own.kp h k.xL
theorem kC (a:Nat):(halves a).length<=2*(limbs a).length:=by
 have:=cF (ak a)
 rwa [ah] at this
theorem kD (va:Value) (n a:Nat) (w:World) (hr:Rd w 1 va n (ints .u32 (limbs a))) (hn:n<=1073741824):
  Calls Tryz.prog 76 #[va] w λe w'=>∃ p c,e=.returned (.slice p (halves a).length c)/\w'.ownsRow w.heap.size 3 1 (.slice p (halves a).length c) (halves a).length (ints .i64 (halves a))/\ax w w':=
 (Ak va n _ w hr (ak a) hn).mono λe w' ⟨v',he,ho,hb⟩=>by
  rw[ah] at ho;obtain⟨p,c,rfl,_⟩:=Own.form ho;exact⟨p,c,he,ho,hb⟩
theorem qq (va:Value) (n a:Nat) (w:World) (hr:Rd w 1 va n (ints .i64 (halves a))) (hn:n<=2147483646):
  Calls Tryz.prog 74 #[va] w λe w'=>∃ p c xs,e=.returned (.slice p ((n+1)/2) c)/\w'.ownsRow w.heap.size UU 1 (.slice p ((n+1)/2) c) ((n+1)/2) (ints .u32 xs)/\ag xs=a/\bR xs/\ax w w':=
 (CR va n _ w hr (bC a) ae).mono λe w' ⟨v',xs,he,hl,ho,hv,hx,hb⟩=>by
  obtain⟨p,c,rfl,_⟩:=Own.form ho;exact⟨p,c,xs,he,ho,by rw[hv,aP],hx,hb⟩
theorem xc (va vb:Value) (n m A B:Nat) (w:World) (hr:Rd w 1 va n (ints .i64 (halves A))) (hs:Rd w 1 vb m (ints .i64 (halves B))) (hB:0<B) (hn:n<=1073741824) (hm:m<=1073741824):
  Calls Tryz.prog 88 #[va,vb] w λe w'=>∃ p c q d,e=.returned (.tuple #[.slice p (halves (A/B)).length c,.slice q (halves (A%B)).length d])/\w'.ownsRow w.heap.size 3 1 (.slice p (halves (A/B)).length c) (halves (A/B)).length (ints .i64 (halves (A/B)))/\w'.ownsRow w.heap.size 3 1 (.slice q (halves (A%B)).length d) (halves (A%B)).length (ints .i64 (halves (A%B)))/\ax w w':=
 (CV va vb n m A B w hr hs hB hn hm).mono λe w' ⟨v,u,he,h1,h2,hb⟩=>by
  obtain⟨p,c,rfl⟩:=h1.form;obtain⟨q,d,rfl⟩:=h2.form;exact⟨p,c,q,d,he,h1.own,h2.own,hb⟩
variable {s:Bool}
theorem He {n:Nat} (h:n≠0):(if s=true then-(n:Int) else n).sign=if s=true then-1 else 1:=by
 cases s
 ·exact er (by simp;omega)
 ·exact sign_neg (by simp;omega)
theorem div_len:(halves (a/b)).length<=(halves a).length:=cK ae (yk _ _)
theorem mod_len:(halves (a%b)).length<=(halves a).length:=cK ae (Nat.mod_le _ _)
theorem Hf (hl:bR xs) (hv:ag xs=a):Sz (if s=true then-((ag xs:Nat):Int) else ag xs) xs.length:=by
 unfold Sz;have:(if s=true then-((ag xs:Nat):Int) else ag xs).natAbs=ag xs:=by cases s <;> simp
 rw[this];exact fY hl
theorem kE (v u:Value) (X Y:Int) (j k:Nat) (w:World) (hv:bP w v X j) (hu:bP w u Y k) (hj:j<=134217728) (hk:k<=134217728):
  Calls Tryz.prog 70 #[v,u] w λe w'=>wR w w' X Y e/\ax w w':=by
 obtain⟨s,p,n,c,rfl⟩:=hv.form;obtain⟨t,q,m,d,rfl⟩:=hu.form;have sn:=hv.len;have mY:=hu.len;refine ar (C:=GV Tryz.prog w _) (args:=[_,_]) Tryz.func70 aa Tryz.ntmps70 (cz aa) ?_;refine dM ?_;refine VO.call aa aa (fk qR) (λgQ ky kV=>(kx _ X j gQ (hv.iW ky)).mono ?_);rintro e w1 ⟨r1,rfl,h1,bS⟩;obtain⟨s1,p1,n1,c1,rfl⟩:=h1.gH;refine eI bS ?_;intro nZ _ bb1;refine VO.call aa aa (fk qR) (λgI jK iV=>(kx _ Y k gI (hu.iW (nZ.aB jK))).mono ?_);rintro e w2 ⟨r2,rfl,h2,bO⟩;obtain⟨s2,p2,n2,c2,rfl⟩:=h2.gH;refine eI bO ?_;intro oc _ bb2;have e1:=rP h1.sgn;have e2:=rP h2.sgn;have l1:=kC X.natAbs;have l2:=kC Y.natAbs;by_cases hY:Y=0
 ·have hn0:n2=0:=by rw[h2.n,hY];exact ai List.length bk
  refine VS.bJ aa (by rw[beq_iff_eq];omega) ?_;refine dM ?_;refine ug ?_;intro wz kz bz;exact⟨.inl ⟨hY,_,_,aa,aw.zero _ _,aw.zero _ _⟩,bz⟩
 ·have hY0:Y.natAbs≠0:=by omega
  have hn0:n2≠0:=by rw[h2.n];intro e;exact hY0 (nE e)
  refine VS.cd aa (by rw[iJ];omega) ?_;refine dM ?_;refine VO.call aa aa (fk Tryz.func76) (λfS gR gY=>(kD _ n1 X.natAbs fS (h1.row.iW (jK.aB ((aY.of bO).aB gR))) (by rw[h1.n];omega)).mono ?_);rintro e w3 ⟨p3,c3,rfl,h3,dc⟩
  skip
  refine eI dc ?_;intro nj _ bb3;refine VO.call aa aa (fk Tryz.func76) (λjL lV mz=>(kD _ n2 Y.natAbs jL (h2.row.iW (gR.aB ((aY.of dc).aB lV))) (by rw[h2.n];omega)).mono ?_);rintro e w4 ⟨p4,c4,rfl,h4,fv⟩
  skip
  refine eI fv ?_;intro rQ _ CO;refine VO.call aa aa (fk Tryz.func88) (λjM lI kY=>(xc _ _ _ _ X.natAbs Y.natAbs jM (Rd.own (xV.kp h3 (lV.aB ((aY.of fv).aB lI)))) (Rd.own (xV.kp h4 lI)) ae ae ae).mono ?_);rintro e w5 ⟨p5,c5,q5,d5,rfl,h5,h5',jJ⟩
  skip
  refine eI jJ ?_;intro qI _ CP;have l5:(halves (X.natAbs/Y.natAbs)).length<=(halves X.natAbs).length:=div_len;have l5':(halves (X.natAbs%Y.natAbs)).length<=(halves X.natAbs).length:=mod_len;refine VO.call aa aa (fk Tryz.func74) (λrT ui xA=>(qq _ _ (X.natAbs/Y.natAbs) rT (Rd.own (xV.kp h5 ui)) ae).mono ?_);rintro e w6 ⟨p6,c6,xs6,rfl,h6,hx6,hl6,rO⟩
  skip
  refine eI rO ?_;intro xB _ Kf;refine VO.cI aa aa (fk qS) (λDU Fb AU=>iu (!(s1 == s2)) _ _ xs6 DU (Rd.own (OwnU.iW h6 Fb)) hl6 ae) (λDU Fb AU w7 s7 p7 n7 c7 h7 zd Hg _ bb7=>wV aa ?_);refine dM ?_;refine VO.call aa aa (fk Tryz.func74) (λwa8 ka8 ba8=>(qq _ _ (X.natAbs%Y.natAbs) wa8 (Rd.own (xV.kp h5' (ui.aB ((aY.of rO).aB (Fb.aB ((aY.of zd).aB ka8)))))) ae).mono ?_);rintro e w8 ⟨p8,c8,xs8,rfl,h8,hx8,hl8,AL⟩
  skip
  refine eI AL ?_;intro Hh _ bb8;refine VO.cI aa aa (fk qS) (λwa9 ka9 ba9=>iu s1 _ _ xs8 wa9 (Rd.own (OwnU.iW h8 ka9)) hl8 ae) (λwa9 ka9 ba9 w9 s9 p9 n9 c9 h9 hb9 Jl _ bb9=>wV aa ?_);refine dM ?_;have z7:Sz (if (!(s1 == s2))=true then-((ag xs6:Nat):Int) else ag xs6) xs6.length:=Hf hl6 hx6;have z9:Sz (if s1=true then-((ag xs8:Nat):Int) else ag xs8) xs8.length:=Hf hl8 hx8;have lx6:xs6.length<=268435457:=by have:=h6.1;simp at this;omega
  have lx8:xs8.length<=268435457:=by have:=h8.1;simp at this;omega
  rw[hx6] at h7 z7;rw[hx8] at h9 z9;have law:=@oM X Y X.natAbs Y.natAbs;by_cases xE:X.natAbs%Y.natAbs=0
  ·have s0:(if s1=true then-((X.natAbs%Y.natAbs:Nat):Int) else ((X.natAbs%Y.natAbs:Nat):Int))=0:=by rw[xE];cases s1 <;> rfl
   rw[s0] at h9 z9;refine VO.cB aa aa (fk ib) (λgC jO oe=>cw _ 0 _ gC ((h9.iW jO).in z9) ae) (λgC jO oe DV lL fP _ xW=>wV aa ?_)
   (repeat (first|refine wN ?_|refine wP aa ?_|refine za aa ?_|refine wO aa aa ?_))
   refine VS.yW (my _ _) (jf _ _) 5 aa ?_
   (repeat' (first|refine VA.go aa ?_|refine VA.fin aa ?_|refine VA.dw _ aa aa ?_|refine VA.cons aa ?_ ?_|exact VA.nil aa))
   all_goals
    refine dM ?_;refine ug ?_;intro wz kz bz;obtain⟨g1,g2⟩:=law e1 e2 hY0 (.inl ⟨.inr xE,aa,aa⟩);refine⟨.inr ⟨hY,_,_,aa,aw.cast ((h7.iW (Hh.aB (Jl.aB (fP.aB kz)))).mono AU.size) g1.symm,aw.cast ((h9.iW (fP.aB kz)).mono ba9.size) ?_⟩,bz⟩;rw[g2,xE];cases s2 <;> rfl
  ·have sy:=He (s:=s2) hY0;rw[<-e2] at sy;have sr:=He (s:=s1) xE;rcases hs12:(s1,s2) with ⟨_|_,_|_⟩ <;> cases hs12
   ·replace sr:(if false=true then-((X.natAbs%Y.natAbs:Nat):Int) else ((X.natAbs%Y.natAbs:Nat):Int)).sign=1:=sr;replace sy:Y.sign=1:=sy;refine VO.call aa aa (fk ib) (λgC jO oe=>(cw _ _ _ gC ((h9.iW jO).in z9) ae).mono ?_);rintro e DV ⟨rfl,lL⟩;rw[sr];refine eI lL ?_;intro fP _ xW;refine VO.call aa aa (fk ib) (λFc Ff ba11=>(cw _ _ _ Fc ((h9.iW (fP.aB Ff)).in z9) ae).mono ?_);rintro e w11 ⟨rfl,Al⟩;rw[sr];refine eI Al ?_;intro og _ bb11;refine VO.call aa aa (fk ib) (λFg Fh ba12=>(cw _ Y k Fg ((h2.iW (nj.aB (rQ.aB (qI.aB (xB.aB (Hg.aB (Hh.aB (Jl.aB (fP.aB (og.aB Fh)))))))))).to mY) ae).mono ?_);rintro e w12 ⟨rfl,Am⟩;rw[sy];refine⟨_,aa,Am,λsY _ bb12=>wV aa ?_⟩
    (repeat (first|refine wN ?_|refine wP aa ?_|refine za aa ?_|refine wO aa aa ?_))
    refine VS.yW (my _ _) (jf _ _) 5 aa ?_
    (repeat' (first|refine VA.go aa ?_|refine VA.fin aa ?_|refine VA.dw _ aa aa ?_|refine VA.cons aa ?_ ?_|exact VA.nil aa))
    all_goals
     refine dM ?_;refine ug ?_;intro wz kz bz;obtain⟨g1,g2⟩:=law e1 e2 hY0 (.inl ⟨.inl aa,aa,aa⟩);exact⟨.inr ⟨hY,_,_,aa,aw.cast ((h7.iW (Hh.aB (Jl.aB (fP.aB (og.aB (sY.aB kz)))))).mono AU.size) g1.symm,aw.cast ((h9.iW (fP.aB (og.aB (sY.aB kz)))).mono ba9.size) g2.symm⟩,bz⟩
   ·replace sr:(if false=true then-((X.natAbs%Y.natAbs:Nat):Int) else ((X.natAbs%Y.natAbs:Nat):Int)).sign=1:=sr;replace sy:Y.sign= -1:=sy;refine VO.call aa aa (fk ib) (λgC jO oe=>(cw _ _ _ gC ((h9.iW jO).in z9) ae).mono ?_);rintro e DV ⟨rfl,lL⟩;rw[sr];refine eI lL ?_;intro fP _ xW;refine VO.call aa aa (fk ib) (λFc Ff ba11=>(cw _ _ _ Fc ((h9.iW (fP.aB Ff)).in z9) ae).mono ?_);rintro e w11 ⟨rfl,Al⟩;rw[sr];refine eI Al ?_;intro og _ bb11;refine VO.call aa aa (fk ib) (λFg Fh ba12=>(cw _ Y k Fg ((h2.iW (nj.aB (rQ.aB (qI.aB (xB.aB (Hg.aB (Hh.aB (Jl.aB (fP.aB (og.aB Fh)))))))))).to mY) ae).mono ?_);rintro e w12 ⟨rfl,Am⟩;rw[sy];refine eI Am ?_;intro sY _ bb12;refine VO.cI aa aa (fk vC) (λLZ ka13 ba13=>oN 1 LZ ae ae) (λLZ ka13 ba13 w13 s13 p13 n13 c13 h13 hb13 Fi _ bb13=>wV aa ?_);refine dM ?_;refine VO.cI aa aa (fk Tryz.func90) (λMa Fj Mb=>CQ _ _ _ 1 _ 1 Ma (((h7.iW (Hh.aB (Jl.aB (fP.aB (og.aB (sY.aB (Fi.aB Fj))))))).in z7)) ((h13.iW Fj).in (Sz.small dh)) ae ae) (λMa Fj Mb w14 s14 p14 n14 c14 h14 hb14 Mc _ bb14=>wV aa ?_);refine dM ?_;refine VO.cI aa aa (fk Tryz.func54) (λAo Ap CX=>wW _ _ _ Y _ k Ao ((h9.iW (fP.aB (og.aB (sY.aB (Fi.aB (Mc.aB Ap)))))).in z9) ((h2.iW (nj.aB (rQ.aB (qI.aB (xB.aB (Hg.aB (Hh.aB (Jl.aB (fP.aB (og.aB (sY.aB (Fi.aB (Mc.aB Ap))))))))))))).to mY) ae ae) (λAo Ap CX w15 s15 p15 n15 c15 h15 hb15 kb15 _ bb15=>wV aa ?_)
    (repeat (first|refine wN ?_|refine wP aa ?_|refine za aa ?_|refine wO aa aa ?_))
    refine VS.yW (my _ _) (jf _ _) 5 aa ?_
    (repeat' (first|refine VA.go aa ?_|refine VA.fin aa ?_|refine VA.dw _ aa aa ?_|refine VA.cons aa ?_ ?_|exact VA.nil aa))
    all_goals
     refine dM ?_;refine ug ?_;intro wz kz bz;have hlt:=cM X.natAbs (show 0<Y.natAbs by omega);obtain⟨g1,g2⟩:=law e1 e2 hY0 (.inr ⟨bc,xE,aa,aa⟩);refine⟨.inr ⟨hY,_,_,aa,aw.cast ((h14.iW (kb15.aB kz)).mono Mb.size) ?_,aw.cast ((h15.iW kz).mono CX.size) ?_⟩,bz⟩
     ·rw[g1];simp;omega
     ·rw[g2];simp at e1 e2 ⊢;omega
   ·replace sr:(if true=true then-((X.natAbs%Y.natAbs:Nat):Int) else ((X.natAbs%Y.natAbs:Nat):Int)).sign= -1:=sr;replace sy:Y.sign=1:=sy;refine VO.call aa aa (fk ib) (λgC jO oe=>(cw _ _ _ gC ((h9.iW jO).in z9) ae).mono ?_);rintro e DV ⟨rfl,lL⟩;rw[sr];refine eI lL ?_;intro fP _ xW;refine VO.call aa aa (fk ib) (λFc Ff ba11=>(cw _ _ _ Fc ((h9.iW (fP.aB Ff)).in z9) ae).mono ?_);rintro e w11 ⟨rfl,Al⟩;rw[sr];refine eI Al ?_;intro og _ bb11;refine VO.call aa aa (fk ib) (λFg Fh ba12=>(cw _ Y k Fg ((h2.iW (nj.aB (rQ.aB (qI.aB (xB.aB (Hg.aB (Hh.aB (Jl.aB (fP.aB (og.aB Fh)))))))))).to mY) ae).mono ?_);rintro e w12 ⟨rfl,Am⟩;rw[sy];refine eI Am ?_;intro sY _ bb12;refine VO.cI aa aa (fk vC) (λLZ ka13 ba13=>oN 1 LZ ae ae) (λLZ ka13 ba13 w13 s13 p13 n13 c13 h13 hb13 Fi _ bb13=>wV aa ?_);refine dM ?_;refine VO.cI aa aa (fk Tryz.func90) (λMa Fj Mb=>CQ _ _ _ 1 _ 1 Ma (((h7.iW (Hh.aB (Jl.aB (fP.aB (og.aB (sY.aB (Fi.aB Fj))))))).in z7)) ((h13.iW Fj).in (Sz.small dh)) ae ae) (λMa Fj Mb w14 s14 p14 n14 c14 h14 hb14 Mc _ bb14=>wV aa ?_);refine dM ?_;refine VO.cI aa aa (fk Tryz.func54) (λAo Ap CX=>wW _ _ _ Y _ k Ao ((h9.iW (fP.aB (og.aB (sY.aB (Fi.aB (Mc.aB Ap)))))).in z9) ((h2.iW (nj.aB (rQ.aB (qI.aB (xB.aB (Hg.aB (Hh.aB (Jl.aB (fP.aB (og.aB (sY.aB (Fi.aB (Mc.aB Ap))))))))))))).to mY) ae ae) (λAo Ap CX w15 s15 p15 n15 c15 h15 hb15 kb15 _ bb15=>wV aa ?_)
    (repeat (first|refine wN ?_|refine wP aa ?_|refine za aa ?_|refine wO aa aa ?_))
    refine VS.yW (my _ _) (jf _ _) 5 aa ?_
    (repeat' (first|refine VA.go aa ?_|refine VA.fin aa ?_|refine VA.dw _ aa aa ?_|refine VA.cons aa ?_ ?_|exact VA.nil aa))
    all_goals
     refine dM ?_;refine ug ?_;intro wz kz bz;have hlt:=cM X.natAbs (show 0<Y.natAbs by omega);obtain⟨g1,g2⟩:=law e1 e2 hY0 (.inr ⟨bc,xE,aa,aa⟩);refine⟨.inr ⟨hY,_,_,aa,aw.cast ((h14.iW (kb15.aB kz)).mono Mb.size) ?_,aw.cast ((h15.iW kz).mono CX.size) ?_⟩,bz⟩
     ·rw[g1];simp;omega
     ·rw[g2];simp at e1 e2 ⊢;omega
   ·replace sr:(if true=true then-((X.natAbs%Y.natAbs:Nat):Int) else ((X.natAbs%Y.natAbs:Nat):Int)).sign= -1:=sr;replace sy:Y.sign= -1:=sy;refine VO.call aa aa (fk ib) (λgC jO oe=>(cw _ _ _ gC ((h9.iW jO).in z9) ae).mono ?_);rintro e DV ⟨rfl,lL⟩;rw[sr];refine eI lL ?_;intro fP _ xW;refine VO.call aa aa (fk ib) (λFc Ff ba11=>(cw _ _ _ Fc ((h9.iW (fP.aB Ff)).in z9) ae).mono ?_);rintro e w11 ⟨rfl,Al⟩;rw[sr];refine eI Al ?_;intro og _ bb11;refine VO.call aa aa (fk ib) (λFg Fh ba12=>(cw _ Y k Fg ((h2.iW (nj.aB (rQ.aB (qI.aB (xB.aB (Hg.aB (Hh.aB (Jl.aB (fP.aB (og.aB Fh)))))))))).to mY) ae).mono ?_);rintro e w12 ⟨rfl,Am⟩;rw[sy];refine⟨_,aa,Am,λsY _ bb12=>wV aa ?_⟩
    (repeat (first|refine wN ?_|refine wP aa ?_|refine za aa ?_|refine wO aa aa ?_))
    refine VS.yW (my _ _) (jf _ _) 5 aa ?_
    (repeat' (first|refine VA.go aa ?_|refine VA.fin aa ?_|refine VA.dw _ aa aa ?_|refine VA.cons aa ?_ ?_|exact VA.nil aa))
    all_goals
     refine dM ?_;refine ug ?_;intro wz kz bz;obtain⟨g1,g2⟩:=law e1 e2 hY0 (.inl ⟨.inl aa,aa,aa⟩);exact⟨.inr ⟨hY,_,_,aa,aw.cast ((h7.iW (Hh.aB (Jl.aB (fP.aB (og.aB (sY.aB kz)))))).mono AU.size) g1.symm,aw.cast ((h9.iW (fP.aB (og.aB (sY.aB kz)))).mono ba9.size) g2.symm⟩,bz⟩
set_option maxRecDepth 4000
theorem gcd_len {N:Nat} (hb:b≠0) (ha:(halves a).length<=N) (hbl:(halves b).length<=N):(halves (a%b)).length<=N:=bA (cK ae (Nat.le_of_lt (cM a (Nat.pos_of_ne_zero hb)))) hbl
theorem CY (h:P:=by (repeat first|exact aj|refine⟨cr.lit rfl,?_⟩|refine⟨cr.vals _,?_⟩)):P:=h
theorem CZ (v u:Value) (X Y:Int) (j k:Nat) (w:World) (hv:bP w v X j) (hu:bP w u Y k) (hj:j<=268435456) (hk:k<=268435456):
  Calls Tryz.prog 67 #[v,u] w λe w'=>∃ r,e=.returned r/\aw w' w.heap.size r (Int.gcd X Y:Int)/\ax w w':=by
 obtain⟨s,p,n,c,rfl⟩:=hv.form;obtain⟨t,q,m,d,rfl⟩:=hu.form;have sn:=hv.len;have mY:=hu.len;have l1:=kC X.natAbs;have l2:=kC Y.natAbs;refine ar (C:=GV Tryz.prog w _) (args:=[_,_]) Tryz.func67 aa Tryz.ntmps67 (cz aa) ?_;refine dM ?_;refine VO.call aa aa (fk qR) (λgQ ky kV=>(kx _ X j gQ (hv.iW ky)).mono ?_);rintro e w1 ⟨r1,rfl,h1,bS⟩;obtain⟨s1,p1,n1,c1,rfl⟩:=h1.gH;refine eI bS ?_;intro nZ _ bb1;refine VO.call aa aa (fk Tryz.func76) (λfS gR gY=>(kD _ n1 X.natAbs fS (h1.row.iW gR) (by rw[h1.n];omega)).mono ?_);rintro e w3 ⟨p3,c3,rfl,h3,dc⟩
 skip
 refine eI dc ?_;intro nj _ bb3;refine VO.call aa aa (fk qR) (λgI jK iV=>(kx _ Y k gI (hu.iW (nZ.aB (nj.aB jK)))).mono ?_);rintro e w2 ⟨r2,rfl,h2,bO⟩;obtain⟨s2,p2,n2,c2,rfl⟩:=h2.gH;refine eI bO ?_;intro oc _ bb2;refine VO.call aa aa (fk Tryz.func76) (λjL lV mz=>(kD _ n2 Y.natAbs jL (h2.row.iW lV) (by rw[h2.n];omega)).mono ?_);rintro e w4 ⟨p4,c4,rfl,h4,fv⟩
 skip
 refine eI fv ?_;intro rQ _ CO
 refine VS.loop (J:=λms L M w'=>∃ (a b:Nat) (px:Option Addr) (cx:Nat) (py:Option Addr) (cy:Nat),ms=b/\Nat.gcd a b=Int.gcd X Y/\L=[(4,.box 4 0),(5,.val (.slice px (halves a).length cx)),(6,.val (.slice py (halves b).length cy))]/\M=[(4,(69,([.bool false,.slice none 0 0]:List Value).map .val))]/\
  (halves a).length<=536870912/\(halves b).length<=536870912/\w'.ownsRow w.heap.size 3 1 (.slice px (halves a).length cx) (halves a).length (ints .i64 (halves a))/\w'.ownsRow w.heap.size 3 1 (.slice py (halves b).length cy) (halves b).length (ints .i64 (halves b))) Y.natAbs
  ⟨_,_,?_,?_,?_,?_,⟨X.natAbs,Y.natAbs,p3,c3,p4,c4,rfl,rfl,rfl,rfl,ae,ae,xV.kp (Own.mono h3 gY.size) (oc.aB rQ),Own.mono h4 mz.size⟩⟩ ?_
 ·exact lK
 ·exact lK
 ·rfl
 ·exact CY
 rintro ms L M w' ⟨a,b,px,cx,py,cy,hms,hg,rfl,rfl,la,lb,oa,ob⟩;refine dM ?_;by_cases ng:b=0
 ·subst ng;have hl0:(halves 0).length=0:=by rw[jZ];rfl
  refine VS.cd aa (bo (by rw[hl0];omega)) ?_;refine dM ?_;refine VO.call aa aa (fk Tryz.func74) (λrT ui xA=>(qq _ _ a rT (Rd.own (xV.kp oa ui)) ae).mono ?_);rintro e w6 ⟨p6,c6,xs6,rfl,h6,hx6,hl6,rO⟩
  skip
  refine eI rO ?_;intro xB _ Kf;refine VO.cI aa aa (fk qS) (λDU Fb AU=>iu false _ _ xs6 DU (Rd.own (OwnU.iW h6 Fb)) hl6 ae) (λDU Fb AU w7 s7 p7 n7 c7 h7 zd Hg _ bb7=>wV aa ?_);refine dM ?_;refine ug ?_;intro wz kz bz;refine⟨_,aa,aw.cast ((h7.iW kz).mono AU.size) ?_,bz⟩;rw[hx6,<-hg,Nat.gcd_zero_right];rfl
 ·have hlp:0<(halves b).length:=mS ae ng;refine VS.bJ aa (aU ae) ?_;refine dM ?_;refine VO.call aa aa (fk Tryz.func88) (λjM lI kY=>(xc _ _ _ _ a b jM (Rd.own (xV.kp oa lI)) (Rd.own (xV.kp ob lI)) ae ae ae).mono ?_);rintro e w5 ⟨p5,c5,q5,d5,rfl,h5,h5',jJ⟩
  skip
  refine eI jJ ?_;intro qI _ CP;refine VS.back (a%b) (by rw[hms];exact cM _ ae) ⟨_,_,?_,?_,?_,?_,⟨b,a%b,py,cy,q5,d5,aa,by rw[<-hg,Nat.gcd_comm a b,Nat.gcd_comm b (a%b)];exact (Nat.gcd_rec b a).symm,aa,aa,lb,gcd_len ng la lb,xV.kp ob qI,Own.mono h5' kY.size⟩⟩
  ·exact lK
  ·exact lK
  ·rfl
  ·exact CY
end
set_option maxRecDepth 4000
section
open Go.RowKit
attribute [local irreducible] aq VS
theorem qu (w:World):Calls Tryz.prog 82 #[] w λe w'=>∃ r,e=.returned r/\aw w' w.heap.size r 1/\ax w w':=by
 refine ar (C:=bD Tryz.prog w _) (args:=[]) Tryz.func82 aa Tryz.ntmps82 (cz aa) ?_;refine af ?_;refine VO.cI aa aa (fk Tryz.func85) (λgQ ky kV=>GZ 1 gQ ae ae) (λgQ ky kV w1 s1 p1 n1 c1 h1 bS nZ _ bb1=>wV aa ?_);refine af ?_;refine bH ?_;intro wz kz bz;exact⟨_,aa,(h1.kp kz).mono kV.size,bz⟩
def Da (s:Bool) (xs:List Nat) (t:Bool) (ys:List Nat):Bool:=cQ s xs && (cQ t ys && (decide (0<numOf t ys) && decide (Int.gcd (numOf s xs) (numOf t ys)=1)))
variable {s t:Bool} {xs ys:List Nat}
theorem Md (h:Da s xs t ys=false):rq s xs t ys=0:=by
 unfold rq EW
 split
 ·rename_i hc;cases h1:cQ s xs with
  | false=>unfold numOf;rw[if_neg (by simp[h1])];simp
  | true=>
    cases h2:cQ t ys with
    | false=>
      have:numOf t ys=0:=by unfold numOf;rw[if_neg (by simp[h2])]
      omega
    | true=>
      unfold Da at h;rw[h1,h2,aU hc.1,aU hc.2] at h;cases h
 ·rfl
theorem rtB_inv (h:Da s xs t ys=true):cQ s xs=true/\cQ t ys=true/\0<numOf t ys/\Int.gcd (numOf s xs) (numOf t ys)=1:=by
 unfold Da at h;simp only[Bool.and_eq_true,decide_eq_true_eq] at h;exact h
variable {v:Value} {w:World}
theorem ek.lim (h:ek w v s xs):bR xs:=by
 obtain⟨_,_,_,_,l⟩:=h;exact l
theorem Me (hv:eV w v s xs t ys) (h:Da s xs t ys=true):fJ w v (rq s xs t ys):=by
 obtain⟨h1,h2,h3,h4⟩:=rtB_inv h;obtain⟨p,c,r,d,rfl,a1,a2⟩:=hv;obtain⟨e1,e2⟩:=qo ⟨h3,h4⟩;refine⟨s,p,_,c,t,r,_,d,aa,?_,?_⟩
 ·unfold rq;rw[e1];have l:=a1.lim;unfold numOf;rw[if_pos h1];obtain⟨c1,c2⟩:=canon l h1;show ek _ _ _ _;rw[<-c1,<-c2]
  assumption
 ·unfold rq;rw[e2];have l:=a2.lim;unfold numOf;rw[if_pos h2];obtain⟨c1,c2⟩:=canon l h2;show ek _ _ _ _;rw[<-c1,<-c2]
  assumption
variable {k:Nat}
theorem ek.in (h:ek w v s xs) (hk:xs.length<=k):bP w v (numOf s xs) k:=⟨s,xs,h,rfl,hk⟩
theorem rU (s t:Bool) (xs ys:List Nat) (v:Value) (w:World) (h:eV w v s xs t ys) (hx:xs.length<=536870912) (hy:ys.length<=536870912):
  Calls Tryz.prog 57 #[v] w λe w'=>e=.returned (.bool (Da s xs t ys))/\ax w w':=by
 obtain⟨p,c,r,d,rfl,h1,h2⟩:=h;refine ar (C:=bD Tryz.prog w _) (args:=[_]) Tryz.func57 aa Tryz.ntmps57 (cz aa) ?_;refine af ?_;refine VO.call aa aa (fk Tryz.func78) (λgQ ky kV=>(ql s xs _ gQ (h1.aD kV)).mono ?_);rintro e w1 ⟨rfl,bS⟩;cases q1:cQ s xs
 ·refine ck bS ?_;intro nZ _ bb1;refine bH ?_;intro wz kz bz;exact⟨by simp[Da,q1,kc],bz⟩
 refine ck bS ?_;intro nZ _ bb1;refine VO.call aa aa (fk Tryz.func78) (λgI jK iV=>(ql t ys _ gI (h2.aD iV)).mono ?_);rintro e w2 ⟨rfl,bO⟩;cases q2:cQ t ys
 ·refine ck bO ?_;intro oc _ bb2;refine bH ?_;intro wz kz bz;exact⟨by simp[Da,q1,q2,kc],bz⟩
 refine ck bO ?_;intro oc _ bb2;refine VO.call aa aa (fk Tryz.func79) (λfS gR gY=>(oL _ (numOf t ys) _ fS ((h2.in (aM _)).aD gY)).mono ?_);rintro e w3 ⟨rfl,dc⟩;by_cases q3:0<numOf t ys
 ·rw[er q3];refine ck dc ?_;intro nj _ bb3;refine VO.cI aa aa (fk Tryz.func81) (λjL lV mz=>CL _ _ (numOf s xs) (numOf t ys) _ _ jL ((h1.in (aM _)).aD mz) ((h2.in (aM _)).aD mz) hx hy) (λjL lV mz w4 s4 p4 n4 c4 h4 fv rQ _ CO=>wV aa ?_);refine af ?_;refine VO.cI aa aa (fk Tryz.func82) (λjM lI kY=>qu jM) (λjM lI kY w5 s5 p5 n5 c5 h5 jJ qI _ CP=>wV aa ?_);refine af ?_
  have hg:Sz (Int.gcd (numOf s xs) (numOf t ys):Int) ys.length:=by
   obtain⟨_,_,_,_,l2⟩:=h2;refine Sz.le (Y:=numOf t ys) (wT l2 (aM _)) ?_;rw[vw,<-vw (Int.gcd (numOf s xs) (numOf t ys))];have:=Int.gcd_dvd_right (numOf s xs) (numOf t ys);have:=Int.natAbs_dvd_natAbs.2 this;exact Nat.le_of_dvd ae this
  refine VO.call aa aa (fk Tryz.func80) (λrT ui xA=>(wQ _ _ (Int.gcd (numOf s xs) (numOf t ys):Int) 1 _ 1 rT ((h4.kp (lI.aB ((Kp.of jJ).aB ui))).in hg) ((h5.kp ui).in (Sz.small dh)) ae ae).mono ?_);rintro e w6 ⟨rfl,rO⟩;by_cases q4:Int.gcd (numOf s xs) (numOf t ys)=1
  ·rw[show ((Int.gcd (numOf s xs) (numOf t ys):Int)-1).sign=0 by rw[q4];rfl];refine ck rO ?_;intro xB _ Kf;refine bH ?_;intro wz kz bz;exact⟨by simp[Da,q1,q2,q3,q4,kc],bz⟩
  ·have hne:(((Int.gcd (numOf s xs) (numOf t ys):Int)-1).sign == 0)=false:=by
    rw[iJ];intro e;have:=Int.sign_eq_zero_iff_zero.1 e;omega
   refine ck rO ?_;intro xB _ Kf;refine bH ?_;intro wz kz bz;exact⟨by simp only[Da,q1,q2,q3,q4,kc,Bool.true_and,decide_true,decide_false,hne],bz⟩
 ·have q4:(numOf t ys).sign=0\/(numOf t ys).sign= -1:=by
   rcases Int.lt_trichotomy (numOf t ys) 0 with e|e|e
   ·exact .inr (sign_neg e)
   ·rw[e];exact .inl aa
   ·exact absurd e q3
  rcases q4 with q4|q4
  all_goals
   rw[q4];refine ck dc ?_;intro nj _ bb3;refine bH ?_;intro wz kz bz;exact⟨by simp[Da,q1,q2,q3,kc],bz⟩
theorem fJ.zero {p:Option Addr} {n c:Nat} (h:bK w (.agg #[.bool s,.slice p n c]) 1):fJ w (.agg #[.bool false,.slice none 0 0,.bool s,.slice p n c]) 0:=⟨_,_,_,_,_,_,_,_,rfl,bK.zero _,h⟩
theorem gu (v:Value) (q:Rat) (k:Nat) (w:World) (h:cP w v q k) (hk:k<=536870912):
  Calls Tryz.prog 83 #[v] w λe w'=>∃ r,e=.returned r/\fJ w' r q/\ax w w':=by
 obtain⟨s,xs,t,ys,xP,rfl,hx,hy⟩:=h;have hraw':=xP;obtain⟨p,c,r,d,rfl,_,_⟩:=xP;refine ar (C:=bD Tryz.prog w _) (args:=[_]) yq aa Tryz.ntmps83 (cz aa) ?_;refine af ?_;refine VO.call aa aa (fk Tryz.func57) (λgQ ky kV=>(rU s t xs ys _ gQ (hraw'.kp ky) ae ae).mono ?_);rintro e w1 ⟨rfl,bS⟩;cases hq:Da s xs t ys
 ·refine ck bS ?_;intro nZ _ bb1;refine VO.cI aa aa (fk Tryz.func82) (λgI jK iV=>qu gI) (λgI jK iV w2 s2 p2 n2 c2 h2 bO oc _ bb2=>wV aa ?_);refine af ?_;refine bH ?_;intro wz kz bz;exact⟨_,aa,by rw[Md hq];exact fJ.zero (h2.kp kz).rd,bz⟩
 ·refine ck bS ?_;intro nZ _ bb1;refine bH ?_;intro wz kz bz;exact⟨_,aa,(Me hraw' hq).kp (nZ.aB kz),bz⟩
variable {X Y:Int}
theorem Fk (hY:Sz Y k) (h:Y≠0):Sz (Int.gcd X Y:Int) k:=by
 refine Sz.le (Y:=Y) hY ?_;rw[vw,<-vw (Int.gcd X Y)];exact Nat.le_of_dvd ae (Int.natAbs_dvd_natAbs.2 (Int.gcd_dvd_right X Y))
theorem dV {w':World} {e:Ending} (h:wR w w' X Y e) (hY:Y≠0):∃ v u,e=.returned (.tuple #[v,u,.int .i64 0])/\aw w' w.heap.size v (X.fdiv Y)/\aw w' w.heap.size u (X.fmod Y):=by
 rcases h with ⟨h0,_⟩|⟨_,h⟩
 ·exact absurd h0 hY
 ·exact h
theorem uj (v u:Value) (X Y:Int) (j k:Nat) (w:World) (hv:bP w v X j) (hu:bP w u Y k) (hj:j<=268435456) (hk:k<=268435456) (hY:Y≠0):
  Calls Tryz.prog 102 #[v,u] w λe w'=>∃ r,e=.returned r/\cH w' w.heap.size r (Rat.divInt X Y)/\ax w w':=by
 obtain⟨s,p,n,c,rfl⟩:=hv.form;obtain⟨t,r,m,d,rfl⟩:=hu.form;refine ar (C:=bD Tryz.prog w _) (args:=[_,_]) Tryz.func102 aa Tryz.ntmps102 (cz aa) ?_;refine af ?_;refine VO.cI aa aa (fk Tryz.func81) (λgQ ky kV=>CL _ _ X Y j k gQ (hv.kp ky) (hu.kp ky) ae ae) (λgQ ky kV w1 s1 p1 n1 c1 h1 bS nZ _ bb1=>wV aa ?_);refine af ?_;refine VO.call aa aa (fk Tryz.func79) (λgI jK iV=>(oL _ Y k gI (hu.aD iV)).mono ?_);rintro e w2 ⟨rfl,bO⟩;have Mf:Sz (Int.gcd X Y:Int) k:=Fk hu.len hY
 have LI:(Int.gcd X Y:Int)≠0:=by
  intro e;have:=(Gg.1 (show Int.gcd X Y=0 by omega)).2;exact hY this
 rcases Gk hY with q|q
 ·rw[sign_neg q];obtain⟨l1,l2⟩:=low_neg (X:=X) q;refine ck bO ?_;intro oc _ bb2;refine VO.cI aa aa (fk Tryz.func112) (λfS gR gY=>LF _ (Int.gcd X Y:Int) k fS ((h1.kp (oc.aB gR)).in Mf) ae) (λfS gR gY w3 s3 p3 n3 c3 h3 dc nj _ bb3=>wV aa ?_);refine af ?_;refine VO.call aa aa (fk Tryz.func113) (λjL lV mz=>(ku _ _ X (-(Int.gcd X Y:Int)) j k jL (hv.aD mz) ((h3.kp lV).in Mf.neg) ae ae).mono ?_);rintro e w4 ⟨hd4,fv⟩;obtain⟨v4,u4,rfl,h4,h4'⟩:=dV hd4 ae;obtain⟨s4,p4,n4,c4,rfl⟩:=h4.form;obtain⟨t4,r4,m4,d4,rfl⟩:=h4'.form;refine ck fv ?_;intro rQ _ CO;refine VO.call aa aa (fk Tryz.func113) (λjM lI kY=>(ku _ _ Y (-(Int.gcd X Y:Int)) k k jM (hu.aD kY) ((h3.kp (rQ.aB lI)).in Mf.neg) ae ae).mono ?_);rintro e w5 ⟨hd5,jJ⟩;obtain⟨v5,u5,rfl,h5,h5'⟩:=dV hd5 ae;obtain⟨s5,p5,n5,c5,rfl⟩:=h5.form;obtain⟨t5,r5,m5,d5,rfl⟩:=h5'.form;refine ck jJ ?_;intro qI _ CP;refine bH ?_;intro wz kz bz;exact⟨_,aa,⟨_,_,_,_,_,_,_,_,aa,aw.cast ((h4.kp (qI.aB kz)).mono mz.size) l1,aw.cast ((h5.kp kz).mono kY.size) l2⟩,bz⟩
 ·rw[er q];obtain⟨l1,l2⟩:=uY (X:=X) q;refine ck bO ?_;intro oc _ bb2;refine VO.call aa aa (fk Tryz.func113) (λjL lV mz=>(ku _ _ X (Int.gcd X Y:Int) j k jL (hv.aD mz) ((h1.kp (oc.aB lV)).in Mf) ae ae).mono ?_);rintro e w4 ⟨hd4,fv⟩;obtain⟨v4,u4,rfl,h4,h4'⟩:=dV hd4 ae;obtain⟨s4,p4,n4,c4,rfl⟩:=h4.form;obtain⟨t4,r4,m4,d4,rfl⟩:=h4'.form;refine ck fv ?_;intro rQ _ CO;refine VO.call aa aa (fk Tryz.func113) (λjM lI kY=>(ku _ _ Y (Int.gcd X Y:Int) k k jM (hu.aD kY) ((h1.kp (oc.aB (rQ.aB lI))).in Mf) ae ae).mono ?_);rintro e w5 ⟨hd5,jJ⟩;obtain⟨v5,u5,rfl,h5,h5'⟩:=dV hd5 ae;obtain⟨s5,p5,n5,c5,rfl⟩:=h5.form;obtain⟨t5,r5,m5,d5,rfl⟩:=h5'.form;refine ck jJ ?_;intro qI _ CP;refine bH ?_;intro wz kz bz;exact⟨_,aa,⟨_,_,_,_,_,_,_,_,aa,aw.cast ((h4.kp (qI.aB kz)).mono mz.size) l1,aw.cast ((h5.kp kz).mono kY.size) l2⟩,bz⟩
end
section
open Go.RowKit
attribute [local irreducible] aq VS
theorem Aq (q r:Rat):q+r=Rat.divInt (q.num*r.den+r.num*q.den) ((q.den:Int)*r.den):=by
 rw[Rat.add_def',<-Rat.divInt_ofNat];simp
theorem add_same {q r:Rat} (h:(q.den:Int)=r.den):q+r=Rat.divInt (q.num+r.num) q.den:=by
 rw[Aq,<-h];have hd:(q.den:Int)≠0:=by have:=q.den_nz;omega
 rw[<-Int.add_mul,Rat.divInt_mul_right hd]
theorem sZ {X Y:Int} {k l:Nat} (hX:Sz X k) (hY:Sz Y l) (h:Y≠0):Sz (Rat.divInt X Y).num k/\Sz ((Rat.divInt X Y).den:Int) l:=by
 constructor
 ·refine Sz.le hX ?_;rw[Rat.num_divInt];have h1:(Y.sign*X/(Y.gcd X:Int)).natAbs<=(Y.sign*X).natAbs:=Int.natAbs_ediv_le_natAbs _ _;rw[Int.natAbs_mul] at h1
  have h2:Y.sign.natAbs=1:=by
   rcases Gk h with e|e
   ·rw[sign_neg e];rfl
   ·rw[er e];rfl
  rw[h2,vB] at h1;exact h1
 ·refine Sz.le hY ?_;rw[Rat.den_divInt,if_neg h,vw];exact yk _ _
theorem oX.add {q r:Rat} {k l:Nat} (hq:oX q k) (hr:oX r l):oX (q+r) (k+l+1):=by
 rw[Aq];have hd:(q.den:Int)*r.den≠0:=Int.mul_ne_zero (by have:=q.den_nz;omega) (by have:=r.den_nz;omega);obtain⟨h1,h2⟩:=sZ (Sz.add (hq.1.mul hr.2) (hr.1.mul hq.2) (m:=k+l) ae ae) (hq.2.mul hr.2) hd;exact⟨h1,h2.mono ae⟩
def oY (q r:Rat):Int:=if q<r then-1 else if q=r then 0 else 1
theorem Db (q r:Rat):(q.num*r.den-r.num*q.den).sign=oY q r:=by
 unfold oY;by_cases h1:q<r
 ·rw[if_pos h1];exact sign_neg (by have:=(Rat.lt_iff q r).1 h1;omega)
 ·rw[if_neg h1];by_cases h2:q=r
  ·subst h2;rw[if_pos rfl,Int.sub_self];rfl
  ·rw[if_neg h2];refine er ?_;have a:=mt (Rat.lt_iff q r).2 h1;have b:=mt Rat.eq_iff_mul_eq_mul.2 h2;omega
theorem Jm (q:Rat):q.num.sign=oY q 0:=by
 have:=Db q 0;simpa using this
def Dc (Y:Int):Int:=if Y=0 then 20 else 0
theorem rV (n:Int) (w:World) (h0: -9223372036854775808<=n) (h1:n<=9223372036854775807):
  Calls Tryz.prog 60 #[.int .i64 n] w λe w'=>∃ r,e=.returned r/\cH w' w.heap.size r (n:Rat)/\ax w w':=by
 refine ar (C:=bD Tryz.prog w _) (args:=[_]) Tryz.func60 aa Tryz.ntmps60 (cz aa) ?_;refine af ?_;refine VO.cI aa aa (fk Tryz.func85) (λgQ ky kV=>GZ n gQ h0 h1) (λgQ ky kV w1 s1 p1 n1 c1 q1 bS nZ _ bb1=>wV aa ?_);refine af ?_;refine VO.cI aa aa (fk Tryz.func82) (λgI jK iV=>qu gI) (λgI jK iV w2 s2 p2 n2 c2 q2 bO oc _ bb2=>wV aa ?_);refine af ?_;refine bH ?_;intro wz kz bz;exact⟨_,aa,⟨_,_,_,_,_,_,_,_,aa,(q1.kp (oc.aB kz)).mono kV.size,(q2.kp kz).mono iV.size⟩,bz⟩
theorem Jn (v u:Value) (q r:Rat) (k l:Nat) (w:World) (hv:fJ w v q) (hu:fJ w u r) (hq:oX q k) (hr:oX r l) (hk:k<=67108864) (hl:l<=67108864):
  Calls Tryz.prog 86 #[v,u] w λe w'=>∃ x,e=.returned x/\cH w' w.heap.size x (q+r)/\ax w w':=by
 obtain⟨s,p,n,c,t,y,m,d,rfl⟩:=hv.form;obtain⟨s',p',n',c',t',y',m',d',rfl⟩:=hu.form;obtain⟨v1,v2⟩:=hv.parts;obtain⟨u1,u2⟩:=hu.parts;have dq:(q.den:Int)≠0:=by have:=q.den_nz;omega
 have dr:(r.den:Int)≠0:=by have:=r.den_nz;omega
 refine ar (C:=bD Tryz.prog w _) (args:=[_,_]) Tryz.func86 aa Tryz.ntmps86 (cz aa) ?_;refine af ?_;refine VO.call aa aa (fk Tryz.func80) (λgQ ky kV=>(wQ _ _ (q.den:Int) r.den k l gQ ((v2.aD kV).to hq.2) ((u2.aD kV).to hr.2) ae ae).mono ?_);rintro e w1 ⟨rfl,bS⟩;by_cases hd:(q.den:Int)=r.den
 ·rw[show ((q.den:Int)-r.den).sign=0 by rw[hd,Int.sub_self];rfl];refine ck bS ?_;intro nZ _ bb1;refine VO.cI aa aa (fk Tryz.func103) (λgI jK iV=>CG _ _ q.num r.num k l gI ((v1.aD iV).to hq.1) ((u1.aD iV).to hr.1) ae ae) (λgI jK iV w2 s2 p2 n2 c2 q2 bO oc _ bb2=>wV aa ?_);refine af ?_;refine VO.cR aa aa (fk Tryz.func102) (λfS gR gY=>uj _ _ (q.num+r.num) q.den (k+l+1) k fS ((q2.kp gR).in (Sz.add hq.1 hr.1 ae ae)) ((v2.aD gY).to hq.2) ae ae dq) (λfS gR gY w3 s3 p3 n3 c3 t3 y3 m3 d3 q3 dc nj _ bb3=>wV aa ?_);refine af ?_;refine bH ?_;intro wz kz bz;exact⟨_,aa,cH.cast ((q3.kp kz).mono gY.size) (add_same hd).symm,bz⟩
 ·have hs:((((q.den:Int)-r.den).sign == 0))=false:=by
   rw[iJ];intro e;have:=Int.sign_eq_zero_iff_zero.1 e;omega
  rcases Gk (show (q.den:Int)-r.den≠0 by omega) with e|e
  all_goals
   first|rw[sign_neg e]|rw[er e]
   refine ck bS ?_;intro nZ _ bb1;refine VO.cI aa aa (fk yp) (λgI jK iV=>nY _ _ q.num r.den k l gI ((v1.aD iV).to hq.1) ((u2.aD iV).to hr.2) ae ae) (λgI jK iV w2 s2 p2 n2 c2 q2 bO oc _ bb2=>wV aa ?_);refine af ?_;refine VO.cI aa aa (fk yp) (λfS gR gY=>nY _ _ r.num q.den l k fS ((u1.aD gY).to hr.1) ((v2.aD gY).to hq.2) ae ae) (λfS gR gY w3 s3 p3 n3 c3 q3 dc nj _ bb3=>wV aa ?_);refine af ?_;refine VO.cI aa aa (fk Tryz.func103) (λjL lV mz=>CG _ _ (q.num*r.den) (r.num*q.den) (k+l) (l+k) jL ((q2.kp (nj.aB lV)).in (hq.1.mul hr.2)) ((q3.kp lV).in (hr.1.mul hq.2)) ae ae) (λjL lV mz w4 s4 p4 n4 c4 q4 fv rQ _ CO=>wV aa ?_);refine af ?_;refine VO.cI aa aa (fk yp) (λjM lI kY=>nY _ _ q.den r.den k l jM ((v2.aD kY).to hq.2) ((u2.aD kY).to hr.2) ae ae) (λjM lI kY w5 s5 p5 n5 c5 q5 jJ qI _ CP=>wV aa ?_);refine af ?_;refine VO.cR aa aa (fk Tryz.func102) (λrT ui xA=>uj _ _ (q.num*r.den+r.num*q.den) ((q.den:Int)*r.den) (k+l+1) (k+l) rT ((q4.kp (qI.aB ui)).in (Sz.add (hq.1.mul hr.2) (hr.1.mul hq.2) ae ae)) ((q5.kp ui).in (hq.2.mul hr.2)) ae ae (Int.mul_ne_zero dq dr)) (λrT ui xA w6 s6 p6 n6 c6 t6 y6 m6 d6 q6 rO xB _ Kf=>wV aa ?_);refine af ?_;refine bH ?_;intro wz kz bz;exact⟨_,aa,cH.cast ((q6.kp kz).mono xA.size) (Aq q r).symm,bz⟩
end
section
open Go.RowKit
attribute [local irreducible] aq VS
def Mg (k:Nat):Nat:=max k 1
theorem cP.sz1 {w:World} {v:Value} {q:Rat} {k:Nat} (h:cP w v q k):oX q (Mg k):=by
 obtain⟨s,xs,t,ys,h1,h2,h3,h4⟩:=h;exact cP.sz (k:=Mg k) ⟨s,xs,t,ys,h1,h2,by unfold Mg;omega,by unfold Mg;omega⟩ (by unfold Mg;omega)
theorem Fl (v u:Value) (q r:Rat) (k l:Nat) (w:World) (hv:cP w v q k) (hu:cP w u r l) (hk:k<=67108864) (hl:l<=67108864):
  Calls Tryz.prog 61 #[v,u] w λe w'=>∃ x,e=.returned x/\cH w' w.heap.size x (q+r)/\ax w w':=by
 obtain⟨s,p,n,c,t,y,m,d,rfl⟩:=hv.form;obtain⟨s',p',n',c',t',y',m',d',rfl⟩:=hu.form;refine ar (C:=bD Tryz.prog w _) (args:=[_,_]) Tryz.func61 aa Tryz.ntmps61 (cz aa) ?_;refine af ?_;refine VO.cR aa aa (fk yq) (λgQ ky kV=>gu _ q k gQ (hv.kp ky) ae) (λgQ ky kV w1 s1 p1 n1 c1 t1 y1 m1 d1 q1 bS nZ _ bb1=>wV aa ?_);refine af ?_;refine VO.cR aa aa (fk yq) (λgI jK iV=>gu _ r l gI (hu.kp (nZ.aB jK)) ae) (λgI jK iV w2 s2 p2 n2 c2 t2 y2 m2 d2 q2 bO oc _ bb2=>wV aa ?_);refine af ?_;refine VO.cR aa aa (fk Tryz.func86) (λfS gR gY=>Jn _ _ q r _ _ fS (q1.kp (oc.aB gR)) (q2.kp gR) hv.sz1 hu.sz1 (by unfold Mg;omega) (by unfold Mg;omega)) (λfS gR gY w3 s3 p3 n3 c3 t3 y3 m3 d3 q3 dc nj _ bb3=>wV aa ?_);refine af ?_;refine bH ?_;intro wz kz bz;exact⟨_,aa,(q3.kp kz).mono gY.size,bz⟩
theorem um (v:Value) (q:Rat) (k:Nat) (w:World) (hv:cP w v q k) (hk:k<=536870912):
  Calls Tryz.prog 58 #[v] w λe w'=>e=.returned (.int .i64 (oY q 0))/\ax w w':=by
 obtain⟨s,p,n,c,t,y,m,d,rfl⟩:=hv.form;refine ar (C:=bD Tryz.prog w _) (args:=[_]) Tryz.func58 aa Tryz.ntmps58 (cz aa) ?_;refine af ?_;refine VO.cR aa aa (fk yq) (λgQ ky kV=>gu _ q k gQ (hv.kp ky) hk) (λgQ ky kV w1 s1 p1 n1 c1 t1 y1 m1 d1 q1 bS nZ _ bb1=>wV aa ?_);refine af ?_;refine VO.call aa aa (fk Tryz.func79) (λgI jK iV=>(oL _ q.num _ gI ((q1.parts.1.kp jK).to hv.sz1.1)).mono ?_);rintro e w2 ⟨rfl,bO⟩;rw[Jm];refine ck bO ?_;intro oc _ bb2;refine bH ?_;intro wz kz bz;exact⟨aa,bz⟩
theorem xd (v u:Value) (q r:Rat) (k l:Nat) (w:World) (hv:cP w v q k) (hu:cP w u r l) (hk:k<=67108864) (hl:l<=67108864):
  Calls Tryz.prog 59 #[v,u] w λe w'=>e=.returned (.int .i64 (oY q r))/\ax w w':=by
 obtain⟨s,p,n,c,t,y,m,d,rfl⟩:=hv.form;obtain⟨s',p',n',c',t',y',m',d',rfl⟩:=hu.form;have zq:=hv.sz1;have zr:=hu.sz1;have uk:Mg k<=67108864:=by unfold Mg;omega
 have ul:Mg l<=67108864:=by unfold Mg;omega
 refine ar (C:=bD Tryz.prog w _) (args:=[_,_]) Tryz.func59 aa Tryz.ntmps59 (cz aa) ?_;refine af ?_;refine VO.cR aa aa (fk yq) (λgQ ky kV=>gu _ q k gQ (hv.kp ky) ae) (λgQ ky kV w1 s1 p1 n1 c1 t1 y1 m1 d1 q1 bS nZ _ bb1=>wV aa ?_);refine af ?_;refine VO.cR aa aa (fk yq) (λgI jK iV=>gu _ r l gI (hu.kp (nZ.aB jK)) ae) (λgI jK iV w2 s2 p2 n2 c2 t2 y2 m2 d2 q2 bO oc _ bb2=>wV aa ?_);refine af ?_;obtain⟨a1,a2⟩:=q1.parts;obtain⟨b1,b2⟩:=q2.parts;refine VO.cI aa aa (fk yp) (λfS gR gY=>nY _ _ q.num r.den _ _ fS ((a1.kp (oc.aB gR)).to zq.1) ((b2.kp gR).to zr.2) ae ae) (λfS gR gY w3 s3 p3 n3 c3 q3 dc nj _ bb3=>wV aa ?_);refine af ?_;refine VO.cI aa aa (fk yp) (λjL lV mz=>nY _ _ r.num q.den _ _ jL ((b1.kp (nj.aB lV)).to zr.1) ((a2.kp (oc.aB (nj.aB lV))).to zq.2) ae ae) (λjL lV mz w4 s4 p4 n4 c4 q4 fv rQ _ CO=>wV aa ?_);refine af ?_;refine VO.call aa aa (fk Tryz.func80) (λjM lI kY=>(wQ _ _ (q.num*r.den) (r.num*q.den) _ _ jM ((q3.kp (rQ.aB lI)).in (zq.1.mul zr.2)) ((q4.kp lI).in (zr.1.mul zq.2)) ae ae).mono ?_);rintro e w5 ⟨rfl,jJ⟩;rw[Db];refine ck jJ ?_;intro qI _ CP;refine bH ?_;intro wz kz bz;exact⟨aa,bz⟩
end
section
open Go.RowKit
attribute [local irreducible] aq VS
theorem bM {i:Nat} (h:i<9223372036854775807):IntKind.i64.wrap ((i:Int)+1)=((i+1:Nat):Int):=by
 rw[bj _ ae];omega
theorem mB {α:Type} {l:List α} {i:Nat} {x:α} (h:l[i]? =some x):l.take (i+1)=l.take i++[x]:=by
 obtain⟨hi,rfl⟩:=bx.1 h;exact List.take_succ_eq_append_getElem hi
end
set_option maxRecDepth 4000
section
open Go.RowKit
attribute [local irreducible] aq VS
theorem Dd (w:World):Calls Tryz.prog 32 #[] w λe w'=>∃ r,e=.returned r/\cH w' w.heap.size r 0/\ax w w':=by
 refine ar (C:=bD Tryz.prog w _) (args:=[]) Tryz.func32 aa Tryz.ntmps32 (cz aa) ?_;refine af ?_;refine VO.cI aa aa (fk vC) (λgQ ky kV=>oN 0 gQ ae ae) (λgQ ky kV w1 s1 p1 n1 c1 q1 bS nZ _ bb1=>wV aa ?_);refine af ?_;refine VO.cI aa aa (fk vC) (λgI jK iV=>oN 1 gI ae ae) (λgI jK iV w2 s2 p2 n2 c2 q2 bO oc _ bb2=>wV aa ?_);refine af ?_;refine bH ?_;intro wz kz bz;exact⟨_,aa,⟨_,_,_,_,_,_,_,_,aa,(q1.kp (oc.aB kz)).mono kV.size,(q2.kp kz).mono iV.size⟩,bz⟩
theorem Mh {X Y:Int}:Rat.divInt X Y=Rat.divInt (-X) (-Y):=(Rat.neg_divInt_neg X Y).symm
theorem Fm (v u:Value) (X Y:Int) (j k:Nat) (w:World) (hv:bP w v X j) (hu:bP w u Y k) (hj:j<=134217728) (hk:k<=134217728):
  Calls Tryz.prog 53 #[v,u] w λe w'=>∃ r,e=.returned (.tuple #[r,.int .i64 (Dc Y)])/\cH w' w.heap.size r (Rat.divInt X Y)/\ax w w':=by
 obtain⟨s,p,n,c,rfl⟩:=hv.form;obtain⟨t,r,m,d,rfl⟩:=hu.form;refine ar (C:=bD Tryz.prog w _) (args:=[_,_]) Tryz.func53 aa Tryz.ntmps53 (cz aa) ?_;refine af ?_;refine VO.call aa aa (fk ib) (λgQ ky kV=>(cw _ Y k gQ (hu.aD kV) ae).mono ?_);rintro e w1 ⟨rfl,bS⟩;by_cases hY:Y=0
 ·rw[show Y.sign=0 by rw[hY];rfl];refine ck bS ?_;intro nZ _ bb1;refine VO.cR aa aa (fk Tryz.func32) (λgI jK iV=>Dd gI) (λgI jK iV w2 s2 p2 n2 c2 t2 y2 m2 d2 h2 bO oc _ bb2=>wV aa ?_);refine af ?_;refine bH ?_;intro wz kz bz;refine⟨_,by rw[Dc,if_pos hY];rfl,?_,bz⟩;rw[hY,Rat.divInt_zero];exact (h2.kp kz).mono iV.size
 ·rcases Gk hY with q|q
  ·rw[sign_neg q];refine ck bS ?_;intro nZ _ bb1;refine VO.call aa aa (fk ib) (λgI jK iV=>(cw _ Y k gI (hu.aD iV) ae).mono ?_);rintro e w2 ⟨rfl,bO⟩;rw[sign_neg q];refine ck bO ?_;intro oc _ bb2;refine VO.cI aa aa (fk Tryz.func69) (λfS gR gY=>wU _ X j fS (hv.aD gY) ae) (λfS gR gY w3 s3 p3 n3 c3 h3 dc nj _ bb3=>wV aa ?_);refine af ?_;refine VO.cI aa aa (fk Tryz.func69) (λjL lV mz=>wU _ Y k jL (hu.aD mz) ae) (λjL lV mz w4 s4 p4 n4 c4 h4 fv rQ _ CO=>wV aa ?_);refine af ?_;have z3:Sz (-X) j:=Sz.neg hv.len;have z4:Sz (-Y) k:=Sz.neg hu.len;obtain⟨l1,l2⟩:=uY (X:= -X) (Y:= -Y) ae;have Mf:Sz (Int.gcd (-X) (-Y):Int) k:=Fk z4 ae
   have LI:(Int.gcd (-X) (-Y):Int)≠0:=by
    intro e;have:=(Gg.1 (show Int.gcd (-X) (-Y)=0 by omega)).2;omega
   refine VO.cI aa aa (fk Tryz.func67) (λjM lI kY=>CZ _ _ (-X) (-Y) j k jM ((h3.kp (rQ.aB lI)).in z3) ((h4.kp lI).in z4) ae ae) (λjM lI kY w5 s5 p5 n5 c5 h5 jJ qI _ CP=>wV aa ?_);refine af ?_;refine VO.call aa aa (fk Tryz.func70) (λrT ui xA=>(kE _ _ (-X) (Int.gcd (-X) (-Y):Int) j k rT ((h3.kp (rQ.aB (qI.aB ui))).in z3) ((h5.kp ui).in Mf) ae ae).mono ?_);rintro e w6 ⟨hd6,rO⟩;obtain⟨v6,u6,rfl,h6,h6'⟩:=dV hd6 LI;obtain⟨s6,p6,n6,c6,rfl⟩:=h6.form;obtain⟨t6,r6,m6,d6,rfl⟩:=h6'.form;refine ck rO ?_;intro xB _ Kf;refine VO.call aa aa (fk Tryz.func70) (λDU Fb AU=>(kE _ _ (-Y) (Int.gcd (-X) (-Y):Int) k k DU ((h4.kp (qI.aB (xB.aB Fb))).in z4) ((h5.kp (xB.aB Fb)).in Mf) ae ae).mono ?_);rintro e w7 ⟨hd7,zd⟩;obtain⟨v7,u7,rfl,h7,h7'⟩:=dV hd7 LI;obtain⟨s7,p7,n7,c7,rfl⟩:=h7.form;obtain⟨t7,r7,m7,d7,rfl⟩:=h7'.form;refine ck zd ?_;intro Hg _ bb7;refine bH ?_;intro wz kz bz;rw[Mh];exact⟨_,by rw[Dc,if_neg hY];rfl,⟨_,_,_,_,_,_,_,_,rfl,aw.cast ((h6.kp (Hg.aB kz)).mono xA.size) l1,aw.cast ((h7.kp kz).mono AU.size) l2⟩,bz⟩
  ·rw[er q];refine ck bS ?_;intro nZ _ bb1;refine VO.call aa aa (fk ib) (λgI jK iV=>(cw _ Y k gI (hu.aD iV) ae).mono ?_);rintro e w2 ⟨rfl,bO⟩;rw[er q];refine ck bO ?_;intro oc _ bb2;obtain⟨l1,l2⟩:=uY (X:=X) (Y:=Y) q;have Mf:Sz (Int.gcd X Y:Int) k:=Fk hu.len hY
   have LI:(Int.gcd X Y:Int)≠0:=by
    intro e;have:=(Gg.1 (show Int.gcd X Y=0 by omega)).2;omega
   refine VO.cI aa aa (fk Tryz.func67) (λjM lI kY=>CZ _ _ X Y j k jM (hv.aD kY) (hu.aD kY) ae ae) (λjM lI kY w5 s5 p5 n5 c5 h5 jJ qI _ CP=>wV aa ?_);refine af ?_;refine VO.call aa aa (fk Tryz.func70) (λrT ui xA=>(kE _ _ X (Int.gcd X Y:Int) j k rT (hv.aD xA) ((h5.kp ui).in Mf) ae ae).mono ?_);rintro e w6 ⟨hd6,rO⟩;obtain⟨v6,u6,rfl,h6,h6'⟩:=dV hd6 LI;obtain⟨s6,p6,n6,c6,rfl⟩:=h6.form;obtain⟨t6,r6,m6,d6,rfl⟩:=h6'.form;refine ck rO ?_;intro xB _ Kf;refine VO.call aa aa (fk Tryz.func70) (λDU Fb AU=>(kE _ _ Y (Int.gcd X Y:Int) k k DU (hu.aD AU) ((h5.kp (xB.aB Fb)).in Mf) ae ae).mono ?_);rintro e w7 ⟨hd7,zd⟩;obtain⟨v7,u7,rfl,h7,h7'⟩:=dV hd7 LI;obtain⟨s7,p7,n7,c7,rfl⟩:=h7.form;obtain⟨t7,r7,m7,d7,rfl⟩:=h7'.form;refine ck zd ?_;intro Hg _ bb7;refine bH ?_;intro wz kz bz;exact⟨_,by rw[Dc,if_neg hY];rfl,⟨_,_,_,_,_,_,_,_,rfl,aw.cast ((h6.kp (Hg.aB kz)).mono xA.size) l1,aw.cast ((h7.kp kz).mono AU.size) l2⟩,bz⟩
theorem Jo (n d:Int) (w:World) (h0: -9223372036854775808<=n) (h1:n<=9223372036854775807) (g0: -9223372036854775808<=d) (g1:d<=9223372036854775807):
  Calls Tryz.prog 41 #[.int .i64 n,.int .i64 d] w λe w'=>∃ r,e=.returned (.tuple #[r,.int .i64 (Dc d)])/\cH w' w.heap.size r (Rat.divInt n d)/\ax w w':=by
 refine ar (C:=bD Tryz.prog w _) (args:=[_,_]) Tryz.func41 aa Tryz.ntmps41 (cz aa) ?_;refine af ?_;refine VO.cI aa aa (fk vC) (λgQ ky kV=>oN n gQ h0 h1) (λgQ ky kV w1 s1 p1 n1 c1 q1 bS nZ _ bb1=>wV aa ?_);refine af ?_;refine VO.cI aa aa (fk vC) (λgI jK iV=>oN d gI g0 g1) (λgI jK iV w2 s2 p2 n2 c2 q2 bO oc _ bb2=>wV aa ?_);refine af ?_;refine VO.call aa aa (fk Tryz.func53) (λfS gR gY=>(Fm _ _ n d 2 2 fS ((q1.kp (oc.aB gR)).in (Sz.of_lt ae)) ((q2.kp gR).in (Sz.of_lt ae)) ae ae).mono ?_);rintro e w3 ⟨r3,rfl,q3,dc⟩;obtain⟨s3,p3,n3,c3,t3,x3,m3,d3,rfl⟩:=q3.form;refine ck dc ?_;intro nj _ bb3;refine bH ?_;intro wz kz bz;exact⟨_,aa,(q3.kp kz).mono gY.size,bz⟩
variable {k:Nat} {v:Value} {w:World}
theorem cP.mono' {q:Rat} {j:Nat} (h:cP w v q j) (hjk:j<=k):cP w v q k:=by
 obtain⟨s,xs,t,ys,h1,h2,h3,h4⟩:=h;exact⟨s,xs,t,ys,h1,h2,bA h3 hjk,bA h4 hjk⟩
theorem Jp (v u:Value) (q r:Rat) (k l:Nat) (w:World) (hv:cP w v q k) (hu:cP w u r l) (hk:k<=67108864) (hl:l<=67108864) (c:Int) (hc:oY q r=c):
 Calls Tryz.prog 59 #[v,u] w λe w'=>e=.returned (.int .i64 c)/\ax w w':=hc▸xd v u q r k l w hv hu hk hl
theorem oX.of {n d:Int} (hn:n.natAbs<4294967296) (hd:d.natAbs<4294967296):oX (Rat.divInt n d) 1:=by
 by_cases h:d=0
 ·rw[h,Rat.divInt_zero];exact oX.zero
 ·exact sZ (Sz.small hn) (Sz.small hd) h
theorem Fo (v:Value) (q:Rat) (k:Nat) (w:World) (hv:cP w v q k) (hk:k<=536870912) (c:Int) (hc:oY q 0=c):
 Calls Tryz.prog 58 #[v] w λe w'=>e=.returned (.int .i64 c)/\ax w w':=hc▸um v q k w hv hk
variable {s t:Bool} {xs ys:List Nat}
theorem eV.in (h:eV w v s xs t ys) (hx:xs.length<=k) (hy:ys.length<=k):cP w v (rq s xs t ys) k:=⟨s,xs,t,ys,h,rfl,hx,hy⟩
theorem eV.Mj (h:eV w v s xs t ys):∃ p c r d,v=.agg #[.bool s,.slice p xs.length c,.bool t,.slice r ys.length d]/\True:=by
 obtain⟨p,c,r,d,rfl,_⟩:=h;exact⟨_,_,_,_,aa,aj⟩
end
section
open Go.RowKit
abbrev KpT (T:TypeId->Bool) (w w':World):Prop:=aY ⟨UU,λ_=>True,T⟩ w w'
structure mC {α:Type} (E:World->List Value->α->Prop) (sz:Nat):Prop where
 kp:∀ {w w':World} {cs:List Value} {a:α},E w cs a->Kp UU w w'->E w' cs a
 len:∀ {w:World} {cs:List Value} {a:α},E w cs a->cs.length=sz
 ok:∀ {w:World} {cs:List Value} {a:α},E w cs a->cs.all aK=true
theorem KpT.plain {T:TypeId->Bool} {w w':World} (h:KpT T w w'):Kp UU w w':=h.xL
inductive fD {α:Type} (E:World->List Value->α->Prop) (w:World):List α->List (List Value)->Prop
 | nil:fD E w [] []
 | cons {a:α} {es:List α} {cs:List Value} {vs:List (List Value)}:E w cs a->fD E w es vs->fD E w (a::es) (cs::vs)
section
variable {α:Type} {E:World->List Value->α->Prop} {sz:Nat} {w w':World} {es:List α} {vs:List (List Value)}
theorem fD.kp (hE:mC E sz) (h:fD E w es vs) (k:Kp UU w w'):fD E w' es vs:=by
 induction h with
 | nil=>exact .nil
 | cons h1 _ ih=>exact .cons (hE.kp h1 k) ih
theorem fD.at (h:fD E w es vs):∀ (j:Nat) (a:α),es[j]? =some a->∃ cs,vs[j]? =some cs/\E w cs a:=by
 induction h with
 | nil=>intro j q hq;simp at hq
 | cons h1 _ ih=>
   intro j q hq;cases j with
   | zero=>cases hq;exact⟨_,aa,h1⟩
   | succ j=>exact ih j q (by simpa using hq)
theorem fD.append {es':List α} {vs':List (List Value)} (h:fD E w es vs) (h':fD E w es' vs'):fD E w (es++es') (vs++vs'):=by
 induction h with
 | nil=>exact h'
 | cons h1 _ ih=>exact .cons h1 ih
variable {a:α}
theorem fD.snoc {cs:List Value} (h:fD E w es vs) (h':E w cs a):fD E w (es++[a]) (vs++[cs]):=h.append (.cons h' .nil)
theorem fD.ok (hE:mC E sz) (h:fD E w es vs):vs.flatten.all aK=true/\vs.flatten.length=es.length*sz:=by
 induction h with
 | nil=>exact⟨aa,bc⟩
 | cons h1 _ ih=>
   refine⟨?_,?_⟩
   ·rw[ny,nA,ih.1,hE.ok h1];rfl
   ·rw[ny,da,ih.2,hE.len h1,ji,cV,vB,po]
theorem fD.cell (hE:mC E sz) (h:fD E w es vs):∀ (j:Nat) (cs:List Value),vs[j]? =some cs->∀ (o:Nat) (u:Value),cs[o]? =some u->vs.flatten[j*sz+o]? =some u:=by
 induction h with
 | nil=>intro j v h;simp at h
 | @cons a es cs vs h1 _ ih=>
   intro j v h o u hu;have hx:=hE.len h1;cases j with
   | zero=>
     simp at h;subst h;have ho:o<sz:=by have:=(bx.1 hu).1;omega
     rw[ny,yn,cC,kZ ae];exact hu
   | succ j=>
     rw[ny,nr (by rw[cV];omega)];have:=ih j v (by simpa using h) o u hu;rw[<-this]
     congr 1
     rw[cV];omega
def iE (E:World->List Value->α->Prop) (sz:Nat) (w:World) (v:Value) (es:List α):Prop:=
 ∃ p c,v=.slice p es.length c/\es.length<=c/\c<=maxLen/\∀ (i:Nat) (a:α),es[i]? =some a->∃ b off cs,p=some ⟨b,off,none⟩/\(∀ (j:Nat) (u:Value),cs[j]? =some u->w.cell? ⟨b,off+i*sz+j,none⟩=some u)/\E w cs a
variable {v:Value}
theorem iE.form (h:iE E sz w v es):∃ p c,v=.slice p es.length c/\es.length<=c/\c<=9223372036854775807:=by
 obtain⟨p,c,hv,h1,h2,_⟩:=h;exact⟨p,c,hv,h1,by simpa [maxLen] using h2⟩
variable {c i:Nat}
theorem iE.at {p:Option Addr} {n:Nat} (h:iE E sz w (.slice p n c) es) (hq:es[i]? =some a):∃ b off cs,p=some ⟨b,off,none⟩/\(∀ (j:Nat) (u:Value),cs[j]? =some u->w.cell? ⟨b,off+i*sz+j,none⟩=some u)/\E w cs a:=by
 obtain⟨p',c',hv,h1,h2,h3⟩:=h;cases hv;exact h3 i a hq
theorem iE.aD (hE:mC E sz) (h:iE E sz w v es) (hb:ax w w'):iE E sz w' v es:=by
 obtain⟨p,c,hv,h1,h2,h3⟩:=h;refine⟨p,c,hv,h1,h2,λi q hq=> ?_⟩;obtain⟨b,off,cs,hp,hc,hr⟩:=h3 i q hq;exact⟨b,off,cs,hp,λj u hj=>hb.cell (hc j u hj),hE.kp hr (Kp.of hb)⟩
theorem iE.nil (w:World) (E:World->List Value->α->Prop) (sz:Nat):iE E sz w (.slice none 0 0) []:=⟨none,0,rfl,aM _,dh,λi q hq=>by simp at hq⟩
variable {t:TypeId}
theorem lM (hE:mC E sz) {b n:Nat} {spare:List Value} (h:aI w b t (vs.flatten++spare).toArray) (hr:fD E w es vs) (hn:n=es.length) (hc:n<=c) (hm:c<=9223372036854775807):iE E sz w (.slice (some ⟨b,0,none⟩) n c) es:=by
 subst hn;refine⟨_,_,aa,hc,by simpa [maxLen] using hm,λi a ha=> ?_⟩;obtain⟨cs,h1,h2⟩:=hr.at i a ha;refine⟨b,0,cs,aa,λj u hj=> ?_,h2⟩;have:=hr.cell hE i cs h1 j u hj;refine h.cell ?_;rw[List.getElem?_toArray,cC,kZ (bx.1 this).1];exact this
theorem ownV_sl (hE:mC E sz) {C:Cx} {β:Nat->Nat} {n:Nat} {cs:List AV} (h:jv C β w i t cs) (spare:List AV) (hcs:cs=vs.flatten.map .val++spare) (hr:fD E w es vs) (hn:n=es.length) (hc:n<=c) (hm:c<=9223372036854775807):
  iE E sz w (.slice (some ⟨β i,0,none⟩) n c) es:=by
 refine lM hE (spare:=spare.map (AV.leaf β)) (t:=t) ?_ hr hn hc hm;have:=h.cls;rw[hcs,cT,aA] at this;exact this
def bn (E:World->List Value->α->Prop) (sz:Nat) (t:TypeId) (B:Nat) (w:World) (v:Value) (es:List α):Prop:=
 (v=.slice none 0 0/\es=[])\/∃ b c vs spare,v=.slice (some ⟨b,0,none⟩) es.length c/\B<=b/\aI w b t (vs.flatten++spare).toArray/\fD E w es vs/\spare.all aK=true/\es.length<=c/\c<=9223372036854775807/\(vs.flatten++spare).length=c*sz
variable {B:Nat}
theorem bn.sl (hE:mC E sz) (h:bn E sz t B w v es):iE E sz w v es:=by
 rcases h with ⟨rfl,rfl⟩|⟨b,c,vs,spare,rfl,_,h1,h2,_,h3,h4,_⟩
 ·exact iE.nil _ _ _
 ·exact lM hE h1 h2 aa h3 h4
theorem bn.form (h:bn E sz t B w v es):∃ p c,v=.slice p es.length c:=by
 rcases h with ⟨rfl,rfl⟩|⟨b,c,vs,spare,rfl,_⟩
 ·exact⟨_,_,aa⟩
 ·exact⟨_,_,aa⟩
theorem bn.kp (hE:mC E sz) {T:TypeId->Bool} (h:bn E sz t B w v es) (k:KpT T w w') (ht:T t=true):bn E sz t B w' v es:=by
 rcases h with ⟨rfl,rfl⟩|⟨b,c,vs,spare,rfl,h0,h1,h2,h3⟩
 ·exact .inl ⟨aa,aa⟩
 ·refine .inr ⟨b,c,vs,spare,aa,h0,k.block t b _ ?_ aj h1,h2.kp hE k.plain,h3⟩;show (Nat.beq t UU || T t)=true;rw[ht];simp
theorem bn.mono {B':Nat} (h:bn E sz t B w v es) (hB:B'<=B):bn E sz t B' w v es:=by
 rcases h with h|⟨b,c,vs,spare,hv,h0,h1⟩
 ·exact .inl h
 ·exact .inr ⟨b,c,vs,spare,hv,bA hB h0,h1⟩
end
section
variable {C:Cx} {F:Fr} {H:Hp} {w:World} {m:Option (List FuncId)} {full:Array Oper} {K:Fr->Hp->World->Prop} {o:Oper} {r:List Oper}
theorem VO.callX {α:Type} {E:World->List Value->α->Prop} {sz:Nat} (hE:mC E sz) {d:jt} {dst:Nat} {t:TypeId} {es:List α} (e:stepOf C full F H o=.call d) (hd:o.dst=some dst) (h0:H dst=none) (hN:dst<C.N) (hl:1<=lvl C.SU m o) (ht:C.K.fz t=false)
  (h:∀ w1 β,aY C.K w w1->C.Old w1->kh C β H d.ids w1->oV C.P d β w1 λe w2=>∃ v,e=.returned v/\ax w1 w2/\bn E sz t w1.heap.size w2 v es/\
   (aY C.K w w2->aY C.K w1 w2->C.Old w2->es=[]->aq C m full r K (F.bm o.dst (.val (.slice none 0 0))) H w2)/\
   (∀ c vs spare,aY C.K w w2->aY C.K w1 w2->C.Old w2->fD E w2 es vs->spare.all aK=true->es.length<=c->c<=9223372036854775807->(vs.flatten++spare).length=c*sz->aq C m full r K (F.bm o.dst (.row dst 0 es.length c)) (H.put dst (t,vs.flatten.map .val++spare.map .val)) w2)):aq C m full (o::r) K F H w:=by
 show one C m full o (aq C m full r K) F H w;unfold one;rw[e];refine λw1 β h1 h2 h3=>(h w1 β h1 h2 h3).mono ?_;rintro e w2 ⟨v,rfl,hb,hn,k1,k2⟩;rcases hn with ⟨rfl,rfl⟩|⟨b,c,vs,spare,rfl,q1,q2,q3,q4,q5,q6,q7⟩
 ·exact⟨β,.val (.slice none 0 0),none,[],aa,λi hi=>(by cases hi),.inr aa,.inr aa,yJ.none hb,λa b c _ _=>k1 a b c aa⟩
 ·let bG:Nat->Nat:=λi=>if i=dst then b else β i
  have uD:bG dst=b:=if_pos aa;have Fp:vs.flatten.map AV.val++spare.map AV.val=(vs.flatten++spare).map AV.val:=by rw[cT]
  have jw:(vs.flatten.map AV.val++spare.map AV.val).all aF=true:=by rw[Fp];exact cO (by rw[nA,(q3.ok hE).1,q4];rfl)
  refine⟨bG,.row dst 0 es.length c,none,[(dst,(t,vs.flatten.map AV.val++spare.map AV.val))],?_,λi hi=>.inl (by simpa [AV.ids] using hi),.inl hl,.inr aa,?_,λa1 a2 a3 _ _=>k2 c vs spare a1 a2 a3 q3 q4 q5 q6 q7⟩
  ·show Ending.returned _=.returned (Value.slice (some ⟨bG dst,0,none⟩) es.length c);rw[uD]
  ·refine⟨hb.os,hb.tape,hb.output,hb.size,λk hk _ _ _=>jk hb k hk,λi hi=>if_neg (by simpa using hi),λi hi=>(by cases hi),λi hi=>(by cases hi),λx hx=> ?_,λx hx=> ?_,bc,λx hx y hy _=> ?_,λx hx j hj=> ?_⟩
   ·cases aH.1 hx;refine⟨by rw[uD];exact C.BW _ _ ae (by have:=C.kf _ h2;omega),ht,?_,jw⟩;rw[uD,Fp,aA];exact q2
   ·cases aH.1 hx;exact .inr ⟨.inl h0,ae,.inl (by rw[uD];exact q1)⟩
   ·cases aH.1 hx;cases aH.1 hy;rfl
   ·cases aH.1 hx;rw[Fp,aG] at hj;cases hj
end
theorem Fq {α:Type} {E:World->List Value->α->Prop} {sz:Nat} {C:Cx} {β:Nat->Nat} {w:World} {i n c:Nat} {t:TypeId} {es:List α} {vs:List (List Value)} {spare:List AV} (h:jv C β w i t (vs.flatten.map .val++spare)) (hr:fD E w es vs) (hn:n=es.length) (hc:n<=c) (hm:c<=9223372036854775807) (hl:(vs.flatten.map AV.val++spare).length=c*sz)
  (hnw:∀ i g,C.xM i g->C.w0.heap.size<=g:=by exact λ_ _ h=>h):bn E sz t C.w0.heap.size w (.slice (some ⟨β i,0,none⟩) n c) es:=by
 subst hn;have hk:=h.ok;rw[nA,dR] at hk;refine .inr ⟨β i,c,vs,spare.map (AV.leaf β),aa,hnw _ _ h.new,?_,hr,dZ hk.2,hc,hm,by rw[<-hl];simp only[List.length_append,List.length_map]⟩;have:=h.cls;rw[cT,aA] at this;exact this
end
set_option maxRecDepth 4000
section
open Go.RowKit
attribute [local irreducible] aq VS
theorem rW (xs:List Nat) (v:Value) (n:Nat) (w:World) (hr:Rd w 1 v n (ints .u32 xs)) (hn:n<=1073741824):
  Calls Tryz.prog 48 #[v] w λe w'=>∃ p c,e=.returned (.slice p n c)/\w'.ownsRow w.heap.size UU 1 (.slice p n c) n (ints .u32 xs)/\ax w w':=by
 obtain⟨p,c,rfl,vQ⟩:∃ p c,v=.slice p n c/\True:=by
  obtain⟨p,c,hv,_⟩:=hr;exact⟨p,c,hv,aj⟩
 refine ar (C:=bD Tryz.prog w _) (args:=[_]) Tryz.func48 aa Tryz.ntmps48 (cz aa) ?_;refine af ?_;refine VO.appU (bQ _ _) (t:=31) (e:=122) (n:=n) (news:=ints .u32 xs) aa aa aa aa aa (lp .u32 xs) ae (λw1 k1 b1=>hr.below b1) (λw2 p2 c2 k2 b2 ho=>wV aa ?_);refine af ?_;refine bH ?_;intro wz kz bz;exact⟨_,_,aa,Own.kp ho kz,bz⟩
variable {s:Bool} {xs:List Nat} {w:World}
theorem ek.fil {p:Option Addr} {c:Nat} (h:ek w (.agg #[.bool s,.slice p xs.length c]) s xs):Rd w 1 (.slice p xs.length c) xs.length (ints .u32 xs)/\bR xs:=by
 obtain⟨p',c',hv,hr,hl⟩:=h;simp only[Value.agg.injEq,Array.mk.injEq,List.cons.injEq,and_true,true_and,Value.slice.injEq] at hv;obtain⟨rfl,rfl⟩:=hv;exact⟨hr,hl⟩
def oh (w:World) (B:Nat) (v:Value) (s:Bool) (xs:List Nat) (t:Bool) (ys:List Nat):Prop:=
 ∃ p c r d,v=.agg #[.bool s,.slice p xs.length c,.bool t,.slice r ys.length d]/\w.ownsRow B UU 1 (.slice p xs.length c) xs.length (ints .u32 xs)/\w.ownsRow B UU 1 (.slice r ys.length d) ys.length (ints .u32 ys)/\bR xs/\bR ys
variable {t:Bool} {ys:List Nat} {B:Nat} {v:Value}
theorem oh.raw (h:oh w B v s xs t ys):eV w v s xs t ys:=by
 obtain⟨p,c,r,d,hv,h1,h2,h3,h4⟩:=h;exact⟨p,c,r,d,hv,⟨_,_,aa,Rd.own h1,h3⟩,⟨_,_,aa,Rd.own h2,h4⟩⟩
variable {w':World}
theorem oh.kp {T:TypeId->Bool} (h:oh w B v s xs t ys) (k:aY ⟨UU,λ_=>True,T⟩ w w'):oh w' B v s xs t ys:=by
 obtain⟨p,c,r,d,hv,h1,h2,h3,h4⟩:=h;exact⟨p,c,r,d,hv,Own.kp h1 k,Own.kp h2 k,h3,h4⟩
theorem oh.own {q:Rat} (h:oh w B v (decide (q.num<0)) (limbs q.num.natAbs) (decide ((q.den:Int)<0)) (limbs (q.den:Int).natAbs)):cH w B v q:=by
 obtain⟨p,c,r,d,rfl,h1,h2,h3,h4⟩:=h;exact⟨_,p,_,c,_,r,_,d,aa,⟨_,_,aa,h1⟩,⟨_,_,aa,h2⟩⟩
theorem Jq (s t:Bool) (xs ys:List Nat) (v:Value) (w:World) (h:eV w v s xs t ys) (hx:xs.length<=1073741824) (hy:ys.length<=1073741824):
  Calls Tryz.prog 42 #[v] w λe w'=>∃ r,e=.returned r/\oh w' w.heap.size r s xs t ys/\ax w w':=by
 obtain⟨p,c,r,d,rfl,h1,h2⟩:=h;refine ar (C:=bD Tryz.prog w _) (args:=[_]) Tryz.func42 aa Tryz.ntmps42 (cz aa) ?_;refine af ?_;refine VO.call aa aa (fk Tryz.func48) (λgQ ky kV=>(rW xs _ _ gQ (h1.aD kV).fil.1 hx).mono ?_);rintro e w1 ⟨p1,c1,rfl,q1,bS⟩
 skip
 refine ck bS ?_;intro nZ _ bb1;refine VO.call aa aa (fk Tryz.func48) (λgI jK iV=>(rW ys _ _ gI (h2.aD iV).fil.1 hy).mono ?_);rintro e w2 ⟨p2,c2,rfl,q2,bO⟩
 skip
 refine ck bO ?_;intro oc _ bb2;refine bH ?_;intro wz kz bz;exact⟨_,aa,⟨_,_,_,_,aa,Own.kp (Own.mono q1 kV.size) (oc.aB kz),Own.kp (Own.mono q2 iV.size) kz,h1.fil.2,h2.fil.2⟩,bz⟩
theorem Mk {K:KC} (h:aY K w w':=by (with_reducible (repeat (first|assumption|exact kU _|exact kR _|exact Kp.of (U:=UU) (by assumption)|exact aY.of (by assumption)|refine kT ?_ (by assumption))))):aY K w w':=h
theorem ta (n d:Int) (w:World) (h0: -9223372036854775808<=n) (h1:n<=9223372036854775807) (g0: -9223372036854775808<=d) (g1:d<=9223372036854775807):
  Calls Tryz.prog 22 #[.int .i64 n,.int .i64 d] w λe w'=>∃ r,e=.returned r/\cH w' w.heap.size r (Rat.divInt n d)/\ax w w':=by
 refine ar (C:=bD Tryz.prog w _) (args:=[_,_]) Tryz.func22 aa Tryz.ntmps22 (cz aa) ?_;refine af ?_;refine VO.call aa aa (fk Tryz.func41) (λgQ ky kV=>(Jo n d gQ h0 h1 g0 g1).mono ?_);rintro e w1 ⟨r1,rfl,q1,bS⟩;obtain⟨s1,p1,n1,c1,t1,y1,m1,d1,rfl⟩:=q1.form;refine ck bS ?_;intro nZ _ bb1
 have hsz:(limbs (Rat.divInt n d).num.natAbs).length<=4/\(limbs ((Rat.divInt n d).den:Int).natAbs).length<=4:=by
  by_cases hd:d=0
  ·rw[hd,Rat.divInt_zero];exact⟨oX.zero.1.mono ae,oX.zero.2.mono ae⟩
  ·have h:=sZ (X:=n) (Y:=d) (k:=2) (l:=2) (Sz.of_lt ae) (Sz.of_lt ae) hd;exact⟨h.1.mono ae,h.2.mono ae⟩
 refine VO.call aa aa (fk Tryz.func42) (λgI jK iV=>(Jq _ _ _ _ _ gI (q1.kp Mk).rd.raw ae ae).mono ?_);rintro e w2 ⟨r2,rfl,q2,bO⟩;obtain⟨p2,c2,y2,d2,rfl,_⟩:=q2.raw.Mj;refine ck bO ?_;intro oc _ bb2;refine bH ?_;intro wz kz bz;exact⟨_,aa,((q2.kp kz).own).mono iV.size,bz⟩
end
section
open Go.RowKit
section
variable {T:TypeId->Bool} {w w':World} {v:Value} {q:Rat} {X:Int} {B n:Nat}
theorem cH.ki (h:cH w B v q) (hs:oX q n) (k:aY ⟨UU,λ_=>True,T⟩ w w':=by exact Mk):cP w' v q n:=(h.kp k).in hs
end
end
section
open Go.RowKit
attribute [local irreducible] aq VS
structure gD {α:Type} (E:World->List Value->α->Prop) (sz:Nat) (w:World) (n c:Nat) (vs:List (List Value)) (sp:List AV) (es:List α):Prop where
 len:n=es.length
 el:fD E w es vs
 so:sp.all aF=true
 sl:aC sp=[]
 le:n<=c
 cm:c<=9223372036854775807
 fl:(vs.flatten.map AV.val++sp).length=c*sz
section
variable {α:Type} {E:World->List Value->α->Prop} {sz n c:Nat} {w w':World} {vs:List (List Value)} {sp:List AV} {es:List α}
theorem gD.kp (hE:mC E sz) (h:gD E sz w n c vs sp es) (k:Kp UU w w'):gD E sz w' n c vs sp es:=⟨h.len,h.el.kp hE k,h.so,h.sl,h.le,h.cm,h.fl⟩
theorem gD.clo {M:List (Nat×(TypeId×List AV))} (h:gD E sz w n c vs sp es):cr M (vs.flatten.map AV.val++sp):=.append (.vals _) (.none h.sl)
theorem gD.dP (h:gD E sz w n c vs sp es):aC (vs.flatten.map AV.val++sp)=[]:=by rw[eC,aG,h.sl];rfl
theorem gD.ok (hE:mC E sz) (h:gD E sz w n c vs sp es):(vs.flatten.map AV.val++sp).all aF=true:=by rw[nA,cO (h.el.ok hE).1,h.so];rfl
variable {C:Cx} {i:Nat} {β:Nat->Nat} {t:TypeId}
theorem gD.new (hE:mC E sz) (h:gD E sz w n c vs sp es) (o:jv C β w' i t (vs.flatten.map .val++sp)) (k:Kp UU w w') (hnw:∀ i g,C.xM i g->C.w0.heap.size<=g:=by exact λ_ _ h=>h):
 bn E sz t C.w0.heap.size w' (.slice (some ⟨β i,0,none⟩) n c) es:=Fq o (h.el.kp hE k) h.len h.le h.cm h.fl hnw
theorem gD.sl' (hE:mC E sz) (h:gD E sz w n c vs sp es) (o:jv C β w' i t (vs.flatten.map .val++sp)) (k:Kp UU w w'):
 iE E sz w' (.slice (some ⟨β i,0,none⟩) n c) es:=ownV_sl hE o sp aa (h.el.kp hE k) h.len h.le h.cm
end
section
variable {C:Cx} {F:Fr} {H:Hp} {w:World} {m:Option (List FuncId)} {full:Array Oper} {K:Fr->Hp->World->Prop} {o:Oper} {r:List Oper}
variable {cs:List Value} {s dst:Nat} {x y:Operand} {it ie:TI} {α:Type} {t e te:TypeId} {E:World->List Value->α->Prop} {a:α}
theorem VO.xe (hC:C.Ok) {sz:Nat} (hE:mC E sz)
  (e0:stepOf C full F H o=.call (.op o [.val (.slice none 0 0),.row s 0 1 1])) (ho:o.op=.call { callee:=.builtin .append,args:=#[x,y],argTypes:=#[t,t] })
  (Lv:C.ti t=some it) (Ag:it.elem=some (e,sz)) (DT:C.ti e=some ie) (hU:C.K.fz e=false) (hzo:ie.zero.cells.toList.all aK=true)
  (hd:o.dst=some dst) (hN:dst<C.N) (hl:lvl C.SU m o=2) (fC:H dst=none) (hs:H s=some (te,cs.map .val)) (hcs:E w cs a) (fZ:24*sz<=140737488355328)
  (hK:∀ w2 cap sp,aY C.K w w2->C.Old w2->gD E sz w2 1 cap [cs] sp [a]->aq C m full r K (F.bm o.dst (.row dst 0 1 cap)) (H.put dst (e,[cs].flatten.map AV.val++sp)) w2)
  (hkp:∀ w w',aY C.K w w'->Kp UU w w':=by first|exact λ_ _ h=>h|exact λ_ _ h=>h.xL) (hvd:ie.void=false:=by rfl):aq C m full (o::r) K F H w:=by
 have hlen:=hE.len hcs
 refine VO.app hC e0 ho Lv Ag DT hU hzo hd hN hl (known:=[]) (spare:=[]) (del:=none) (n:=0) (c:=0) (mm:=1) (news:=cs.map .val) (.inl ⟨aa,aa,aa,aa,aa,aa,ae⟩) (.inl fC) bc bc ae ae ⟨aa,aa,aG _⟩ ⟨aa,aa,cO (hE.ok hcs)⟩ (by rw[cJ,hlen];omega) ae
  (λw1 β k1 b1 ho=>⟨_,_,rfl,.inr ⟨β s,0,rfl,gr (rest:=[]) (ho.own s (.base (mM _ (aH.2 rfl))) _ _ hs) (by rw[dS])⟩⟩) (λw2 cap sp ρ k2 b2 dH h1 h2 h3 h4 h5=> ?_) hvd
 have:=hK w2 cap sp k2 b2 ⟨aa,.cons (hE.kp hcs (hkp _ _ k2)) .nil,h4,h5,ae,h2,by simpa using h3⟩;have e':([cs].flatten.map AV.val++sp)=([]++cs.map .val)++sp:=bc;rw[e'] at this;exact this
theorem VO.rX (hC:C.Ok) {sz:Nat} (hE:mC E sz) {i n c:Nat} {vs:List (List Value)} {sp:List AV} {es:List α}
  (e0:stepOf C full F H o=.call (.op o [.row i 0 n c,.row s 0 1 1])) (ho:o.op=.call { callee:=.builtin .append,args:=#[x,y],argTypes:=#[t,t] })
  (Lv:C.ti t=some it) (Ag:it.elem=some (e,sz)) (DT:C.ti e=some ie) (hU:C.K.fz e=false) (hzo:ie.zero.cells.toList.all aK=true)
  (hd:o.dst=some dst) (hN:dst<C.N) (hl:lvl C.SU m o=2) (fC:H dst=none\/some i=some dst) (hi:H i=some (e,vs.flatten.map .val++sp)) (hr:gD E sz w n c vs sp es) (hs:H s=some (te,cs.map .val)) (hcs:E w cs a) (fZ:(n+1)*(24*sz)<=140737488355328)
  (hK:∀ w2 cap Ar ρ,aY C.K w w2->C.Old w2->(∀ x,aK (ρ x)=true)->gD E sz w2 (n+1) cap (vs++[cs]) Ar (es++[a])->aq C m full r K ((F.forget (some i) ρ).bm o.dst (.row dst 0 (n+1) cap)) ((H.forget (some i) ρ).put dst (e,(vs++[cs]).flatten.map AV.val++Ar)) w2)
  (hkp:∀ w w',aY C.K w w'->Kp UU w w':=by first|exact λ_ _ h=>h|exact λ_ _ h=>h.xL) (hvd:ie.void=false:=by rfl):aq C m full (o::r) K F H w:=by
 have hlen:=hE.len hcs;obtain⟨k1,k2⟩:=hr.el.ok hE;have Ei:=hr.len
 refine VO.app hC e0 ho Lv Ag DT hU hzo hd hN hl (known:=vs.flatten.map .val) (spare:=sp) (del:=some i) (n:=n) (c:=c) (mm:=1) (news:=cs.map .val) (.inr ⟨i,aa,hi,aa⟩) fC (by rw[cJ,k2,Ei]) hr.fl hr.le hr.cm ⟨aG _,hr.sl,aG _⟩ ⟨cO k1,hr.so,cO (hE.ok hcs)⟩ (by rw[cJ,hlen];omega) fZ
  (λw1 β k1 b1 ho=>⟨_,_,rfl,.inr ⟨β s,0,rfl,gr (rest:=[]) (ho.own s (.base (mM _ (aH.2 rfl))) _ _ hs) (by rw[dS])⟩⟩) (λw2 cap Ar ρ k2 b2 dH h1 h2 h3 h4 h5=> ?_) hvd
 have e:(vs.flatten.map AV.val++cs.map .val)=(vs++[cs]).flatten.map AV.val:=bc;have:=hK w2 cap Ar ρ k2 b2 dH ⟨by rw[da,hr.len];rfl,(hr.el.kp hE (hkp _ _ k2)).snoc (hE.kp hcs (hkp _ _ k2)),h4,h5,ae,h2,by rw[<-e];exact h3⟩;rw[<-e] at this;exact this
end
end
section
open Go.RowKit
theorem Jr {w:World} {a:Option Addr} {len cap:Nat} {zs:List Int}
  (h:(a=none/\len=0/\cap=0/\zs=[])\/∃ x,a=some x/\len<=cap/\cap<=maxLen/\zs.length=cap/\(∀ i,i<zs.length->w.cell? (x.add i)=some (.int .u32 (zs.getD i 0)))/\∀ n∈zs,(Lit.int .u32 n).wf=true):
  ∃ xs:List Nat,bR xs/\Rd w 1 (.slice a len cap) len (ints .u32 xs):=by
 rcases h with ⟨rfl,rfl,rfl,rfl⟩|⟨x,rfl,h1,h2,h3,h4,h5⟩
 ·exact⟨[],bR.nil,Rd.nil w 1⟩
 ·have hb:∀ n∈zs,0<=n/\n<4294967296:=λn hn=>by
   have:=h5 n hn;simp[Lit.wf,IntKind.min,IntKind.max,IntKind.signed,IntKind.bits] at this;omega
  refine⟨(zs.take len).map Int.toNat,?_,?_⟩
  ·intro y hy;obtain⟨z,hz,rfl⟩:=cU.1 hy;have:=hb z (lf hz);omega
  ·refine⟨_,cap,aa,h1,h2,by simp;omega,λhn=> ?_⟩;have jN:0<zs.length:=ae;have h0:=h4 0 jN
   have hsp:x.spot=none:=by
    have:x.add 0=x:=by simp[Addr.add]
    rw[this] at h0;unfold World.cell? at h0
    split at h0
    ·split at h0
     ·cases h0
     ·rename_i hs;simpa using hs
    ·cases h0
   obtain⟨b,off,sp⟩:=x;simp only at hsp;subst hsp;refine⟨b,off,aa,λj u hj=> ?_⟩;simp only[ints,List.map_map,List.getElem?_map,List.getElem?_take] at hj
   split at hj
   ·rename_i hjl;have hjz:j<zs.length:=ae;rw[aZ hjz] at hj;simp at hj;subst hj;have h6:=h4 j hjz;have h7:=hb _ (List.getElem_mem hjz);rw[show (⟨b,off,none⟩:Addr).add j=⟨b,off+j,none⟩ by unfold Addr.add;split <;> simp_all] at h6;rw[h6];simp[List.getD,hjz];omega
   ·cases hj
theorem Au {α:Type} {l:List α} (h:l.length=2):∃ a b,l=[a,b]:=by
 match l,h with
 | [a,b],_=>exact⟨a,b,aa⟩
theorem Ml {α:Type} {l:List α} (h:l.length=4):∃ a b c d,l=[a,b,c,d]:=by
 match l,h with
 | [a,b,c,d],_=>exact⟨a,b,c,d,aa⟩
section
variable {H:Type} {enc:TypeId×Value->H} {w:World} {held:Bool}
variable {x:DataW H×List MemPlace} {cs:List Value} {fuel:Nat}
theorem Fs (h:DataW.trod enc Tryz.prog w 0 (λ_=>true) held fuel 31 cs=some x):∃ p n c xs,cs=[.slice p n c]/\Rd w 1 (.slice p n c) n (ints .u32 xs)/\bR xs:=by
 rcases ChangeShapes.open_ints jg Tryz.underlying122 (by kernel_rfl) h with ⟨rfl,_⟩|⟨a,len,cap,zs,rfl,_,hl,hc,hz,_,hcell,hwf⟩
 ·exact⟨none,0,0,[],aa,Rd.nil w 1,bR.nil⟩
 ·rw[if_pos rfl] at hz;obtain⟨xs,yP,sq⟩:=Jr (w:=w) (.inr ⟨a,aa,hl,hc,hz,hcell,hwf⟩);exact⟨some a,len,cap,xs,aa,sq,yP⟩
theorem De (h:DataW.trod enc Tryz.prog w 0 (λ_=>true) held fuel 33 cs=some x):∃ s p c xs,cs=[.bool s,.slice p xs.length c]/\ek w (.agg #[.bool s,.slice p xs.length c]) s xs:=by
 obtain⟨ys,n,rfl,rfl,hl,ij,hf⟩:=Gm Tryz.underlying33 h
 have yU:cs.length=2:=by
  have c:Tryz.prog.cellsOf 33=2:=by kernel_rfl
  rw[c] at hl;exact hl
 have hy2:ys.length=2:=ij
 obtain⟨a,b,rfl⟩:∃ a b,cs=[a,b]:=by
  exact Au yU
 obtain⟨y0,y1,rfl⟩:∃ a b,ys=[a,b]:=by
  exact Au hy2
 have c0:Tryz.prog.cellsOf 4=1:=by kernel_rfl
 have c1:Tryz.prog.cellsOf 31=1:=by kernel_rfl
 have h0:=hf 0 _ aa;have h1:=hf 1 _ aa;change DataW.trod enc Tryz.prog w 0 (λ_=>true) held n 4 (([a,b].drop 0).take (Tryz.prog.cellsOf 4))=some y0 at h0;change DataW.trod enc Tryz.prog w 0 (λ_=>true) held n 31 (([a,b].drop 1).take (Tryz.prog.cellsOf 31))=some y1 at h1;rw[c0] at h0;rw[c1] at h1;obtain⟨s,hs,_⟩:=DataW.trod_bool Tryz.underlying4 h0;obtain⟨p,m,c,xs,hp,hr,hx⟩:=Fs h1;simp only[List.drop_zero,List.take_succ_cons,List.take_zero,List.cons.injEq,and_true] at hs;simp only[List.drop_succ_cons,List.drop_zero,List.take_succ_cons,List.take_zero,List.cons.injEq,and_true] at hp;subst hs hp;obtain⟨_,_,hv,_,_,dv⟩:=hr.u32;subst dv;exact⟨s,p,c,xs,aa,p,c,aa,hr,hx⟩
theorem Mm (h:DataW.trod enc Tryz.prog w 0 (λ_=>true) held fuel 35 cs=some x):∃ s p n c t r m d xs ys,cs=[.bool s,.slice p n c,.bool t,.slice r m d]/\eV w (.agg #[.bool s,.slice p n c,.bool t,.slice r m d]) s xs t ys:=by
 obtain⟨zs,n,rfl,rfl,hl,ij,hf⟩:=Gm Tryz.underlying35 h
 have yU:cs.length=4:=by
  have c:Tryz.prog.cellsOf 35=4:=by kernel_rfl
  rw[c] at hl;exact hl
 have hy2:zs.length=2:=ij
 obtain⟨a,b,a',b',rfl⟩:∃ a b a' b',cs=[a,b,a',b']:=by
  exact Ml yU
 obtain⟨y0,y1,rfl⟩:∃ a b,zs=[a,b]:=by
  exact Au hy2
 have c0:Tryz.prog.cellsOf 33=2:=by kernel_rfl
 have h0:=hf 0 _ aa;have h1:=hf 1 _ aa;change DataW.trod enc Tryz.prog w 0 (λ_=>true) held n 33 (([a,b,a',b'].drop 0).take (Tryz.prog.cellsOf 33))=some y0 at h0;change DataW.trod enc Tryz.prog w 0 (λ_=>true) held n 33 (([a,b,a',b'].drop 2).take (Tryz.prog.cellsOf 33))=some y1 at h1;rw[c0] at h0 h1;obtain⟨s,p,c,xs,e0,n0⟩:=De h0;obtain⟨t,r,d,ys,e1,n1⟩:=De h1;simp only[List.drop_zero,List.take_succ_cons,List.take_zero,List.cons.injEq,and_true] at e0;simp only[List.drop_succ_cons,List.drop_zero,List.take_succ_cons,List.take_zero,List.cons.injEq,and_true] at e1;obtain⟨rfl,rfl⟩:=e0;obtain⟨rfl,rfl⟩:=e1;exact⟨_,_,_,_,_,_,_,_,xs,ys,aa,_,_,_,_,aa,n0,n1⟩
theorem Mn {α:Type} {p:Nat->α->Prop}:∀ (n:Nat),(∀ i,i<n->∃ q,p i q)->∃ qs:List α,qs.length=n/\∀ (i:Nat) (q:α),qs[i]? =some q->p i q
 | 0,_=>⟨[],rfl,λi q h=>by simp at h⟩
 | n+1,h=>by
   obtain⟨qs,hl,hq⟩:=Mn n (λi hi=>h i ae);obtain⟨q,hqn⟩:=h n ae;refine⟨qs++[q],by simp[hl],λi x hx=> ?_⟩;by_cases hi:i<n
   ·rw[kZ ae] at hx;exact hq i x hx
   ·rw[nr ae,hl] at hx
    have:i=n:=by
     have:=(bx.1 hx).1;simp at this;omega
    subst this;simp at hx;subst hx;exact hqn
end
def Hp.Js:Nat->List (TypeId×List AV)->Hp
 | _,[]=>λ_=>none
 | i,c::r=>λn=>bif Nat.beq n i then some c else Hp.Js (i+1) r n
theorem Hp.mD:∀ (l:List (TypeId×List AV)) (i n:Nat),Hp.Js i l n=if i<=n then l[n-i]? else none
 | [],i,n=>by unfold Hp.Js;simp
 | c::r,i,n=>by
   unfold Hp.Js;rw[Hp.mD r (i+1) n];by_cases h:n=i
   ·subst h;simp
   ·have hb:Nat.beq n i=false:=by rw[<-yj,Nat.beq_eq];exact h
    rw[hb,cond_false];by_cases h1:i<=n
    ·rw[if_pos h1,if_pos ae,show n-i=(n-(i+1))+1 by omega];rfl
    ·rw[if_neg h1,if_neg ae]
def adB (N:Nat) (ad:List Nat):Nat->Nat:=λi=>ad.getD (i-2*N) 0
structure kF (K:KC) (N:Nat) (ad:List Nat) (l:List (TypeId×List AV)) (w:World):Prop where
 len:ad.length=l.length
 nodup:ad.Nodup
 cls:∀ (j:Nat) (g:Nat) (c:TypeId×List AV),ad[j]? =some g->l[j]? =some c->aI w g c.1 (c.2.map (AV.leaf (adB N ad))).toArray
 ok:∀ c∈l,K.fz c.1=false/\c.2.all aF=true
 ids:∀ c∈l,∀ k∈aC c.2,2*N<=k/\k<2*N+l.length
variable {K:KC} {l:List (TypeId×List AV)} {N:Nat} {w:World}
theorem kF.ad {ad:List Nat} (h:kF K N ad l w):oW K ad w:=λg hg=>by
 obtain⟨j,hj⟩:=Ge.1 hg;have hlt:=(bx.1 hj).1;obtain⟨c,hc⟩:∃ c,l[j]? =some c:=⟨_,aZ (by rw[<-h.len];exact hlt)⟩;obtain⟨h1,h2⟩:=h.ok c (dx hc);exact⟨c.1,_,h.cls j g c hj hc,h1,dZ h2⟩
theorem Df (P:Program) (w:World) (N:Nat) (K:KC) (SU:TypeId->Bool) (ti:TypeId->Option TI) (keep:∀ b,b<w.heap.size->K.S b) {ad:List Nat} {us:List Value} {f:FuncId} {fn:Func} {c:Code} {R:Ending->World->Prop} (hf:P.funcs[f]? =some fn) (hb:fn.body=some c) (hN:fn.ntmps=N) (ha:us.length+1<=N)
  (hl:kF K N ad l w) (h0:0<l.length)
  (h:VS (xR P w N K SU ti keep ad hl.nodup hl.ad) (bodyPost P fn R) [.code c] (Fr.ES 0 (.box (2*N) 0::us.map .val)) (Hp.Js (2*N) l) w):Calls P f (Value.pointer (some ⟨ad.getD 0 0,0,none⟩)::us).toArray w R:=by
 have rk:∀ i c,Hp.Js (2*N) l i=some c->2*N<=i/\l[i-2*N]? =some c:=λi c hi=>by
  rw[Hp.mD] at hi
  split at hi
  ·exact⟨by assumption,hi⟩
  ·cases hi
 have hsome:∀ i,Hp.Js (2*N) l i≠none->2*N<=i/\i-2*N<l.length:=λi hi=>by
  cases hh:Hp.Js (2*N) l i with
  | none=>exact absurd hh hi
  | some c=>
    obtain⟨h1,h2⟩:=rk i c hh;exact⟨h1,(bx.1 h2).1⟩
 have hval:∀ k,k<ad.length->ad[k]? =some (ad.getD k 0):=λk hk=>by simp[List.getD_eq_getElem?_getD,hk]
 have:=ue (C:=xR P w N K SU ti keep ad hl.nodup hl.ad) (R:=R) (args:=.box (2*N) 0::us.map .val) (β:=adB N ad) (H:=Hp.Js (2*N) l) hf hb hN (by simpa using ha) (λi t cs hi=> ?_) (λi j hi hj e=> ?_) ⟨λi t cs hi=> ?_,λi t cs hi=> ?_,λi hi=> ?_⟩ (λv hv i hi=> ?_) h
 ·have e:(AV.box (2*N) 0::us.map AV.val).map (AV.aN (adB N ad))=Value.pointer (some ⟨ad.getD 0 0,0,none⟩)::us:=by
   rw[fV,eB];show Value.pointer (some ⟨ad.getD (2*N-2*N) 0,0,none⟩)::us=_;rw[iP]
  rw[e] at this;exact this
 ·obtain⟨h1,h2⟩:=rk i _ hi;have hlt:=(bx.1 h2).1;obtain⟨g1,g2⟩:=hl.ok _ (dx h2);have hv:=hval (i-2*N) (by rw[hl.len];exact hlt);refine⟨?_,g1,hl.cls _ _ _ hv h2,g2⟩;show eK N ad w i (adB N ad i);unfold eK;rw[if_pos h1];exact hv
 ·obtain⟨h1,h2⟩:=hsome i hi;obtain⟨h3,h4⟩:=hsome j hj;have e1:=hval (i-2*N) (by rw[hl.len];exact h2);have e2:=hval (j-2*N) (by rw[hl.len];exact h4);have e':ad.getD (i-2*N) 0=ad.getD (j-2*N) 0:=e;rw[<-e'] at e2;have:=(List.getElem?_inj (by rw[hl.len];exact h2) hl.nodup).1 (e1.trans e2.symm);omega
 ·obtain⟨h1,h2⟩:=rk i _ hi;exact hl.ok _ (dx h2)
 ·obtain⟨h1,h2⟩:=rk i _ hi;intro j hj;obtain⟨h3,h4⟩:=hl.ids _ (dx h2) j hj;rw[Hp.mD,if_pos h3,aZ ae];simp
 ·have pI:2*N+ad.length<=i:=hi;rw[Hp.mD]
  split
  ·exact ld (by rw[<-hl.len];omega)
  ·rfl
 ·rcases fj.1 hv with rfl|hv
  ·have:i=2*N:=by simpa [AV.ids] using hi
   rw[this,Hp.mD,if_pos (aM _),iP,aZ h0];simp
  ·obtain⟨u,_,rfl⟩:=cU.1 hv;cases hi
theorem lN {P:Program} {w':World} {SU:TypeId->Bool} {ti:TypeId->Option TI} {keep:∀ b,b<w.heap.size->K.S b} {ad:List Nat} {hd:ad.Nodup} {ha:oW K ad w} {β:Nat->Nat} {i:Nat} {t:TypeId} {cs:List AV} (h:jv (xR P w N K SU ti keep ad hd ha) β w' i t cs) (j g:Nat) (hi:i=2*N+j) (hj:ad[j]? =some g):β i=g/\aI w' g t (cs.map (AV.leaf β)).toArray:=by
 have h1:eK N ad w i (β i):=h.new;unfold eK at h1;rw[if_pos ae,hi,Ga,hj] at h1;have h2:g=β i:=by rw[hi];simpa using h1
 exact⟨h2.symm,h2▸h.cls⟩
section
variable {C:Cx} {F:Fr} {H:Hp} {w:World} {m:Option (List FuncId)} {full:Array Oper} {K:Fr->Hp->World->Prop} {o:Oper} {r:List Oper} {Q:Exit->Act->World->Prop} {k:List It}
def tc (F:Fr) (β:Nat->Nat):List (Nat×AV)->Prop
 | []=>True
 | p::r=>(∃ u x,F p.1=some u/\u.aN β=x/\p.2=.val x)/\tc F β r
theorem tc.mem {β:Nat->Nat}:∀ {L:List (Nat×AV)} {d:Nat} {v:AV},tc F β L->(d,v)∈L->∃ u x,F d=some u/\u.aN β=x/\v=.val x
 | p::r,d,v,h,hm=>by
   rcases fj.1 hm with rfl|hm
   ·exact h.1
   ·exact tc.mem h.2 hm
theorem VS.Mo (D:World->Cx) (hP:∀ w,(D w).pd=C.pd) (hN:∀ w,(D w).N=C.N) (hO:∀ w,(D w).Old w)
  (h:∀ w' β,aY C.K w w'->C.Old w'->Ends C β H w'->∃ L:List (Nat×AV),tc F β L/\VS (D w') Q k (Fr.of L) (λ_=>none) w'):VS C Q k F H w:=λβ a w' hr hk=>by
 obtain⟨L,hL,hv⟩:=h w' β hk hr.old ⟨hr.own,hr.apart⟩;have:=hv β a w' ⟨hr.defers.trans (ai Prod.snd (hP w')).symm,by rw[hN];exact hr.size,λd v hd=> ?_,λi t cs hi=>(by cases hi),λi j hi=>absurd aa hi,λd v hd i hi=> ?_,λd v hd=> ?_,⟨λi t cs hi=>(by cases hi),λi t cs hi=>(by cases hi),λi hi=>aa⟩,hO w'⟩ (aY.refl _ _)
 ·rw[show (D w').P=C.P from ai Prod.fst (hP w')] at this;exact this
 ·obtain⟨u,x,h1,rfl,rfl⟩:=hL.mem (Fr.eT hd);exact hr.tmp d u h1
 ·obtain⟨u,x,h1,rfl,rfl⟩:=hL.mem (Fr.eT hd);cases hi
 ·obtain⟨u,x,h1,rfl,rfl⟩:=hL.mem (Fr.eT hd);rw[hN];exact hr.fits d u h1
end
section
variable {Fe:Fence} {n:Nat} {P:Program} {o:Oper} {a:Act} {w:World} {K:Act->World->Prop} {Q:Exit->Act->World->Prop}
end
section
variable {Fe:Fence} {n:Nat} {C:Cx} {Q:Exit->Act->World->Prop} {ml:List FuncId} {full:Array Oper}
end
section
variable {Fe:Fence} {C:Cx} {Q:Exit->Act->World->Prop} {k:List It} {F F':Fr} {H H':Hp} {w:World} {id:Nat} {ops:Array Oper} {l':List Oper}
end
def Fr.vals (L:List (Nat×Value)):Fr:=Fr.of (L.map λp=>(p.1,.val p.2))
theorem xf {L:List (Nat×Value)} {d:Nat} {v:AV} (h:Fr.vals L d=some v):∃ u,v=.val u/\(d,u)∈L:=by
 have:=Fr.eT h;obtain⟨p,hp,e⟩:=cU.1 this;cases e;exact⟨p.2,aa,hp⟩
structure Knows (N:Nat) (L:List (Nat×Value)) (a:Act) (ds:List Deferred:=[]):Prop where
 defers:a.defers=ds
 size:a.tmps.size=N
 tmp:∀ p∈L,p.1<N/\a.tmps.getD p.1 undef=p.2
theorem Knows.rel {C:Cx} {L:List (Nat×Value)} {a:Act} {w:World} (h:Knows C.N L a C.ds) (ho:C.Old w):Rel C (λ_=>0) (Fr.vals L) (λ_=>none) a w:=
 ⟨h.defers,h.size,λd v hd=>by obtain⟨u,rfl,hm⟩:=xf hd;exact (h.tmp _ hm).2,λi t cs hi=>(by cases hi),λi j hi=>absurd aa hi,λd v hd i hi=>(by obtain⟨u,rfl,hm⟩:=xf hd;cases hi),λd v hd=>(by obtain⟨u,rfl,hm⟩:=xf hd;exact (h.tmp _ hm).1),⟨λi t cs hi=>(by cases hi),λi t cs hi=>(by cases hi),λi hi=>aa⟩,ho⟩
def Mp (N:Nat) (J:Nat->List (Nat×Value)->World->Prop) (n:Nat) (a:Act) (w:World) (ds:List Deferred:=[]):Prop:=∃ L,J n L w/\Knows N L a ds
section
variable {C:Cx} {Q:Exit->Act->World->Prop} {k:List It} {F:Fr} {H:Hp} {w:World} {J:Nat->List (Nat×Value)->World->Prop}
end
section
variable {C:Cx} {F:Fr} {H:Hp} {w:World} {Q:Exit->Act->World->Prop} {k:List It}
end
theorem fq.aD {w w1 W:World} {ad:List Nat} (h:ax w w1) (k:fq ad w1 W) (hg:∀ g∈ad,w.heap.size<=g):ax w W:=
 Below.trans h ⟨k.os,k.tape,k.output,k.size,λg Ij=>k.kX g (mN Ij h.size) λhm=>by have:=hg g hm;omega⟩
section
variable {C:Cx} {F:Fr} {H:Hp} {w:World} {m:Option (List FuncId)} {full:Array Oper} {K:Fr->Hp->World->Prop} {o:Oper} {r:List Oper} {Q:Exit->Act->World->Prop} {k:List It}
def rY (F:Fr) (β bG:Nat->Nat) (lo hi:Nat):List (Nat×AV)->Prop
 | []=>True
 | p::r=>(∃ u,F p.1=some u/\p.2.aN bG=u.aN β/\∀ i∈p.2.ids,lo<=i/\i<hi)/\rY F β bG lo hi r
theorem rY.mem {β bG:Nat->Nat} {lo hi:Nat}:∀ {L:List (Nat×AV)} {d:Nat} {v:AV},rY F β bG lo hi L->(d,v)∈L->∃ u,F d=some u/\v.aN bG=u.aN β/\∀ i∈v.ids,lo<=i/\i<hi
 | p::r,d,v,h,hm=>by
   rcases fj.1 hm with rfl|hm
   ·exact h.1
   ·exact rY.mem h.2 hm
theorem VS.mE (K:KC) (SU:TypeId->Bool) (ti:TypeId->Option TI) (keep:∀ (w':World) b,b<w'.heap.size->K.S b)
  (h:∀ w' β,aY C.K w w'->C.Old w'->Ends C β H w'->∃ (ad:List Nat) (l:List (TypeId×List AV)) (hl:kF K C.N ad l w') (L:List (Nat×AV)),rY F β (adB C.N ad) (2*C.N) (2*C.N+l.length) L/\
   VS (xR C.P w' C.N K SU ti (keep w') ad hl.nodup hl.ad) Q k (Fr.of L) (Hp.Js (2*C.N) l) w') (pF:C.ds=[]:=by rfl):VS C Q k F H w:=λβ a w' hr hk=>by
 obtain⟨ad,l,hl,L,hL,hv⟩:=h w' β hk hr.old ⟨hr.own,hr.apart⟩
 have rk:∀ i c,Hp.Js (2*C.N) l i=some c->2*C.N<=i/\l[i-2*C.N]? =some c:=λi c hi=>by
  rw[Hp.mD] at hi
  split at hi
  ·exact⟨by assumption,hi⟩
  ·cases hi
 have hsome:∀ i,Hp.Js (2*C.N) l i≠none->2*C.N<=i/\i-2*C.N<l.length:=λi hi=>by
  cases hh:Hp.Js (2*C.N) l i with
  | none=>exact absurd hh hi
  | some c=>
    obtain⟨h1,h2⟩:=rk i c hh;exact⟨h1,(bx.1 h2).1⟩
 have hval:∀ k,k<ad.length->ad[k]? =some (ad.getD k 0):=λk hk=>by simp[List.getD_eq_getElem?_getD,hk]
 refine hv (adB C.N ad) a w' ⟨hr.defers.trans pF,hr.size,λd v hd=> ?_,λi t cs hi=> ?_,λi j hi hj e=> ?_,λd v hd i hi=> ?_,λd v hd=> ?_,⟨λi t cs hi=> ?_,λi t cs hi=> ?_,λi hi=> ?_⟩,(xR C.P w' C.N K SU ti (keep w') ad hl.nodup hl.ad).oD⟩ (aY.refl _ _)
 ·obtain⟨u,h1,h2,_⟩:=hL.mem (Fr.eT hd);rw[h2];exact hr.tmp d u h1
 ·obtain⟨h1,h2⟩:=rk i _ hi;have hlt:=(bx.1 h2).1;obtain⟨g1,g2⟩:=hl.ok _ (dx h2);have hv:=hval (i-2*C.N) (by rw[hl.len];exact hlt);refine⟨?_,g1,hl.cls _ _ _ hv h2,g2⟩;show eK C.N ad w' i (adB C.N ad i);unfold eK;rw[if_pos h1];exact hv
 ·obtain⟨h1,h2⟩:=hsome i hi;obtain⟨h3,h4⟩:=hsome j hj;have e1:=hval (i-2*C.N) (by rw[hl.len];exact h2);have e2:=hval (j-2*C.N) (by rw[hl.len];exact h4);have e':ad.getD (i-2*C.N) 0=ad.getD (j-2*C.N) 0:=e;rw[<-e'] at e2;have:=(List.getElem?_inj (by rw[hl.len];exact h2) hl.nodup).1 (e1.trans e2.symm);omega
 ·obtain⟨u,h1,h2,h3⟩:=hL.mem (Fr.eT hd);obtain⟨h4,h5⟩:=h3 i hi;rw[Hp.mD,if_pos h4,aZ ae];simp
 ·obtain⟨u,h1,h2,h3⟩:=hL.mem (Fr.eT hd);exact hr.fits d u h1
 ·obtain⟨h1,h2⟩:=rk i _ hi;exact hl.ok _ (dx h2)
 ·obtain⟨h1,h2⟩:=rk i _ hi;intro j hj;obtain⟨h3,h4⟩:=hl.ids _ (dx h2) j hj;rw[Hp.mD,if_pos h3,aZ ae];simp
 ·have pI:2*C.N+ad.length<=i:=hi;rw[Hp.mD]
  split
  ·exact ld (by rw[<-hl.len];omega)
  ·rfl
end
section
variable {C:Cx} {Q:Exit->Act->World->Prop} {k:List It} {F:Fr} {H:Hp} {w:World} {J:Nat->List (Nat×Value)->World->Prop}
def Dg (F:Fr) (β:Nat->Nat) (L:List (Nat×Value)):Prop:=tc F β (L.map λp=>(p.1,AV.val p.2))
theorem Rel.Av {β:Nat->Nat} {a:Act} {L:List (Nat×Value)} (hr:Rel C β F H a w) (hL:Dg F β L):Knows C.N L a C.ds:=
 ⟨hr.defers,hr.size,λp hp=>by
  obtain⟨u,x,h1,h2,h3⟩:=hL.mem (cU.2 ⟨p,hp,aa⟩);cases h3;exact⟨hr.fits _ u h1,by rw[hr.tmp _ u h1,h2]⟩⟩
theorem VS.uq (D:World->Cx) (hP:∀ w,(D w).pd=C.pd) (hN:∀ w,(D w).N=C.N) (hO:∀ w,(D w).Old w) (n0:Nat) {body:Code} (h0:∀ w' β,aY C.K w w'->C.Old w'->Ends C β H w'->∃ L,Dg F β L/\J n0 L w')
  (round:∀ n L W,J n L W->VS (D W) Q (.code body::.back (λa w=>∃ m,m<n/\Mp C.N J m a w C.ds)::k) (Fr.vals L) (λ_=>none) W):VS C Q (.code (.loop body)::k) F H w:=λβ a w' hr hk=>by
 obtain⟨L,h1,h2⟩:=h0 w' β hk hr.old ⟨hr.own,hr.apart⟩;refine wp_loop_ghost (λn a w=>Mp C.N J n a w C.ds) n0 ⟨L,h2,hr.Av h1⟩ ?_;rintro n a1 w1 ⟨L1,hJ,tJ⟩;have Et:Knows (D w1).N L1 a1 (D w1).ds:=by rw[hN,show (D w1).ds=C.ds from ai Prod.snd (hP w1)];exact tJ
 have:=round n L1 w1 hJ _ a1 w1 (Et.rel (hO w1)) (aY.refl _ _);rw[show (D w1).P=C.P from ai Prod.fst (hP w1)] at this;exact this
theorem VS.iw {ds:List Deferred} {n N:Nat} (hN:C.N=N) (m:Nat) (hm:m<n) (h:∀ w' β,aY C.K w w'->C.Old w'->Ends C β H w'->∃ L,Dg F β L/\J m L w') (pF:C.ds=ds:=by rfl):VS C Q (.back (λa w=>∃ m,m<n/\Mp N J m a w ds)::k) F H w:=λβ a w' hr hk=>by
 subst hN;subst pF;obtain⟨L,h1,h2⟩:=h w' β hk hr.old ⟨hr.own,hr.apart⟩;exact⟨m,hm,L,h2,hr.Av h1⟩
end
def backOk (full:Array Oper):Bool:=(List.range full.size).all λj=>(bu full j).all (λd=>Nat.blt d j)
section
variable {C:Cx} {full:Array Oper} {ml:List FuncId} {Q:Exit->Act->World->Prop}
def left (listed:Array Bool) (σ:List Nat):List Nat:=σ.filter λx=> !listed.getD x true
theorem rZ {listed:Array Bool} {i x:Nat} (hx:x≠i) (b:Bool):(listed.setIfInBounds i true).getD x b=listed.getD x b:=by
 rw[cA,nk,if_neg (λe=>hx e.symm),<-cA]
theorem zg {listed:Array Bool} {i:Nat} {pre post:List Nat} (xC:(pre++i::post).Nodup) (hi:listed.getD i true=false) (his:i<listed.size):
  left listed (pre++i::post)=left listed pre++i::left listed post/\left (listed.setIfInBounds i true) (pre++i::post)=left listed pre++left listed post:=by
 have h1:=tC.1 xC;have h2:=ym.1 h1.2.1
 have hq:∀ l:List Nat,i∉l->left (listed.setIfInBounds i true) l=left listed l:=λl hl=>by
  unfold left;refine List.filter_congr λx hx=> ?_;rw[rZ (x:=x) (λe=>hl (by rw[<-e];exact hx))]
 have hp:i∉pre:=λe=>h1.2.2 i e i bc aa;constructor
 ·unfold left;rw[List.filter_append,List.filter_cons_of_pos (by simp[hi])]
 ·show List.filter _ _=_;rw[List.filter_append,List.filter_cons_of_neg (by simp[Array.getD_eq_getD_getElem?,Array.getElem?_setIfInBounds,his])]
  congr 1
  ·exact hq pre hp
  ·exact hq post h2.1
theorem zh {n:Nat} {σ:List Nat} (h:∀ i∈σ,i<n):left (Array.replicate n false) σ=σ:=by
 unfold left;rw[List.filter_eq_self];intro i hi;simp[Array.getD_eq_getD_getElem?,Array.getElem?_replicate,h i hi]
end
def Jt (B:List Nat) (A p i:Nat):Bool:=(Nat.beq p A && B.contains i) || (Nat.beq i A && B.contains p)
def sa (su:TypeId->Bool) (ml:List FuncId) (full:Array Oper) (B:List Nat) (A:Nat):List Nat->List Nat->Bool
 | _,[]=>true
 | pre,i::r=>pre.all (λp=>gp su ml full p i || Jt B A p i) && sa su ml full B A (i::pre) r
theorem Hi {su:TypeId->Bool} {ml:List FuncId} {full:Array Oper} {B:List Nat} {A i:Nat} {post:List Nat}:∀ {pre Ju:List Nat},sa su ml full B A Ju (pre++i::post)=true->∀ p,p∈pre\/p∈Ju->gp su ml full p i=true\/Jt B A p i=true
 | [],Ju,h,p,hp=>by
   have h':sa su ml full B A Ju (i::post)=true:=h;unfold sa at h';rw[dR] at h';have:=aW.1 h'.1 p (hp.elim (λe=>by cases e) id);rw[pk] at this;exact this
 | q::pre,Ju,h,p,hp=>by
   have h':sa su ml full B A Ju (q::(pre++i::post))=true:=h;unfold sa at h';rw[dR] at h';refine Hi (pre:=pre) h'.2 p ?_;rcases hp with e|e
   ·rcases fj.1 e with e|e
    ·exact .inr (by simp[e])
    ·exact .inl e
   ·exact .inr (by simp[e])
def oP (su:TypeId->Bool) (ml:List FuncId) (o:Oper):Bool:=match o.op with
 | .call _=>false
 | .buildSlice t _ _=> !su t
 | .store _ _ _=>true
 | _=>Nat.ble (au su ml o) 2
theorem Dh {C:Cx} {full:Array Oper} {F:Fr} {H:Hp} {ml:List FuncId} {o:Oper} {d:jt} (h:oP C.SU ml o=true) (e:stepOf C full F H o=.call d):False:=by
 rcases mr e with e|e|e
 ·cases e
 ·cases e
 ·by_cases hs:∃ t x y,o.op=.store t x y
  ·obtain⟨t,x,y,hop⟩:=hs;unfold act at e;rw[hop] at e
   dsimp only at e
   split at e
   ·split at e
    ·exact (Plain.mj _ _ _ _ _ _).GR e
    ·cases e
   ·split at e
    ·unfold yH at e;cases hb:(Nat.beq (cellsOf _).length _ && (cellsOf _).all aF) <;> rw[hb] at e <;> cases e
    ·cases e
   ·cases e
  ·unfold oP at h;rcases rF e with ⟨c,f,g,first,l,cap,hop,lT,_⟩|⟨c,x,n,vs,hop,_⟩|⟨vs,_,_,⟨t,n,ps,hop,hsu⟩|h5⟩
   ·rw[hop] at h;cases h
   ·rw[hop] at h;cases h
   ·rw[hop] at h;simp only[hsu] at h;cases h
   ·have h6:=h5 C.SU ml
    split at h
    ·cases h
    ·rename_i t n ps hop;unfold au at h6;rw[hop] at h6;simp only[Bool.not_eq_true'] at h;simp only[h,cond_false] at h6;omega
    ·rename_i e';exact hs ⟨_,_,_,e'⟩
    ·have h7:=cz h;omega
section
variable {C:Cx} {full:Array Oper} {ml:List FuncId} {Q:Exit->Act->World->Prop}
variable {listed:Array Bool} {F:Fr} {K:Fr->Hp->World->Prop} {H:Hp} {B:List Nat} {A i:Nat} {o:Oper} {w:World}
theorem Ft (hC:C.Ok) (fI:∀ j,j<full.size->∀ d∈bu full j,d<j) {σ:List Nat} (hσ:sa C.SU ml full B A [] σ=true) (xC:σ.Nodup) (hsz:listed.size=full.size)
  (eS:∀ j,j<full.size->listed.getD j true=true->∀ d∈bu full j,listed.getD d false=true) (hL:Live C F H w)
  (ho:full[i]? =some o) (mW:i<full.size) (Cz:listed.getD i true=false) (GS:∀ d∈bu full i,listed.getD d false=true) (his:i∈σ) (hno:∀ pre post,σ=pre++i::post->∀ p∈pre,Jt B A p i=true->listed.getD p true=true)
  (h:aq C (some ml) full ((left listed σ).filterMap (full[·]?)) K F H w):one C (some ml) full o (aq C (some ml) full ((left (listed.setIfInBounds i true) σ).filterMap (full[·]?)) K) F H w:=by
 obtain⟨pre,post,rfl⟩:=vx his;obtain⟨e1,e2⟩:=zg xC Cz ae;rw[e2];rw[e1] at h
 have hb:aq C (some ml) full (o::((left listed pre).filterMap (full[·]?)++(left listed post).filterMap (full[·]?))) K F H w:=by
  refine Ab hC _ F H w (λq hq=> ?_) hL (by
   rw[vp,FY ho] at h;exact h)
  obtain⟨p,hp,hpq⟩:=Gj.1 hq;obtain⟨hp1,hp2⟩:=mO.1 hp;rw[Bool.not_eq_true'] at hp2
  have hno':listed.getD p false=false:=by
   by_cases hps:p<listed.size
   ·rw[cA] at hp2 ⊢;rw[iI hps] at hp2 ⊢;exact hp2
   ·rw[cA,Gc ae];rfl
  rcases Hi hσ p (.inl hp1) with e|e
  ·unfold gp at e;rw[hpq,ho] at e;simp only[Bool.or_eq_true] at e;rcases e with e|e
   ·exact e
   ·have:=ff fI eS hsz full.size i mW GS e;rw[hno'] at this;cases this
  ·have:=hno pre post aa p hp1 e;rw[hp2] at this;cases this
 rw[vp];exact hb
theorem one_all {ι:Type} {X:ι->Prop} (hn:oP C.SU ml o=true) (t0:ι) (h0:X t0) {k:ι->Fr->Hp->World->Prop} (h:∀ t,X t->one C (some ml) full o (k t) F H w):one C (some ml) full o (λF H w=>∀ t,X t->k t F H w) F H w:=by
 rcases gP (C:=C) (stepOf C full F H o) with hp|⟨Ψp,up,hp⟩|⟨d,hp⟩
 ·have h1:=h t0 h0;unfold one at h1;rw[hp] at h1;exact h1.elim
 ·obtain⟨x,hx,_⟩:=(cg hp).1 (h t0 h0);refine (cg hp).2 ⟨x,hx,λt ht=> ?_⟩;obtain⟨y,hy,h2⟩:=(cg hp).1 (h t ht);rw[<-sR hp hx hy] at h2;exact h2
 ·exact (Dh hn hp).elim
def jB (P B M R:List Nat) (A:Nat) (T:Nat->Bool):List Nat:=(P++(B.filter T++M))++A::(B.filter (λb=> !T b)++R)
variable {X Y pre:List Nat} {b:Nat}
theorem Mq {post:List Nat} (hn:(X++A::Y).Nodup) (e:X++A::Y=pre++b::post) (hA:A∈pre):b∉X:=by
 intro hb;obtain⟨p1,p2,rfl⟩:=vx hA;rw[nx,pc] at e
 have key:∀ (X p1:List Nat) (Y Z:List Nat),(X++A::Y).Nodup->X++A::Y=p1++A::Z->X=p1/\Y=Z:=by
  intro X
  induction X with
  | nil=>
    intro p1 Y Z hn e;cases p1 with
    | nil=>simp at e;exact⟨aa,e⟩
    | cons q p1=>
      simp only[List.nil_append,List.cons_append,List.cons.injEq] at e;obtain⟨rfl,rfl⟩:=e;simp at hn
  | cons q X ih=>
    intro p1 Y Z hn e;cases p1 with
    | nil=>
      simp only[List.nil_append,List.cons_append,List.cons.injEq] at e;obtain⟨rfl,rfl⟩:=e;simp at hn
    | cons q' p1=>
      simp only[List.cons_append,List.cons.injEq] at e;obtain⟨rfl,e⟩:=e;rw[pc,ym] at hn;obtain⟨h1,h2⟩:=ih p1 Y Z hn.2 e;exact⟨by rw[h1],h2⟩
 obtain⟨rfl,rfl⟩:=key X p1 Y _ hn e;have h1:=(tC.1 hn).2.2 b hb b bc;exact h1 aa
theorem Jv {post:List Nat} (hn:(X++A::Y).Nodup) (e:X++A::Y=pre++A::post) (hb:b∈pre):b∈X:=by
 by_cases h:b∈X
 ·exact h
 ·exfalso;obtain⟨p1,p2,rfl⟩:=vx hb;have xS:=hn;rw[e] at xS
  have hbA:b≠A:=λe'=>by
   subst e';have:=(tC.1 xS).2.2 b bc b bc;exact this aa
  have hbY:b∈Y:=by
   have:b∈X++A::Y:=by rw[e];simp
   rcases fU.1 this with h' |h'
   ·exact absurd h' h
   ·exact (fj.1 h').resolve_left hbA
  obtain⟨y1,y2,rfl⟩:=vx hbY;have e3:X++A::(y1++b::y2)=(X++A::y1)++b::y2:=bc;have e4:p1++b::p2++A::post=p1++b::(p2++A::post):=bc;rw[e3,e4] at e;have hn3:((X++A::y1)++b::y2).Nodup:=by rw[<-e3];exact hn
  have:b∉X++A::y1:=λhm=>(tC.1 hn3).2.2 b hm b bc aa;have hA1:A∉p1:=λhm=>(tC.1 xS).2.2 A (by simp[hm]) A bc aa;rcases List.append_eq_append_iff.1 e with ⟨a,h1,h2⟩|⟨c,h1,h2⟩
  ·apply hA1;rw[h1];simp
  ·cases c with
   | nil=>
     simp at h1;apply hA1;rw[<-h1];simp
   | cons q c=>
     rw[pc,List.cons.injEq] at h2;obtain⟨rfl,h2⟩:=h2;apply this;rw[h1];simp
def ur (su:TypeId->Bool) (ml:List FuncId) (full:Array Oper) (B:List Nat) (A:Nat) (σ:List Nat):Bool:=
 sa su ml full B A [] σ && (decide σ.Nodup && (σ.all (λi=>Nat.blt i full.size) && (List.range full.size).all (λi=>σ.contains i)))
theorem Mr {P M R:List Nat} {T:Nat->Bool} (h:i∈jB P B M R A T):i∈B++(P++M)\/i=A\/i∈R:=by
 unfold jB at h;simp only[List.mem_append,List.mem_cons,List.mem_filter] at h ⊢;rcases h with (h|h|h)|h|h|h
 ·exact .inl (.inr (.inl h))
 ·exact .inl (.inl h.1)
 ·exact .inl (.inr (.inr h))
 ·exact .inr (.inl h)
 ·exact .inl (.inl h.1)
 ·exact .inr (.inr h)
abbrev CT (full:Array Oper) (B:List Nat):={ T:Nat->Bool //∀ b∈B,∀ d∈bu full b,d∈B->T b=true->T d=true }
theorem zi {full:Array Oper} (h:∀ j,j<full.size->listed.getD j true=true->∀ d∈bu full j,listed.getD d false=true):∀ b∈B,∀ d∈bu full b,d∈B->listed.getD b true=true->listed.getD d true=true:=λb _ d hd _ hl=>by
 have hb:b<full.size:=by
  refine Nat.lt_of_not_le λe=> ?_;unfold bu at hd;rw[Gc e] at hd;cases hd
 have:=h b hb hl d hd;rw[cA] at this ⊢;cases hx:listed[d]? with
 | none=>rfl
 | some v=>rw[hx] at this;exact this
theorem Jw (hC:C.Ok) (fI:∀ j,j<full.size->∀ d∈bu full j,d<j) (P B M R:List Nat) (A:Nat) (gB:∀ T:CT full B,ur C.SU ml full B A (jB P B M R A T.1)=true) (iD:∀ i∈B++(P++M),∀ o,full[i]? =some o->oP C.SU ml o=true) (hR:∀ r∈R,reach full full.size r A=true) (hAB:A∉B)
  (hQ:∀ β F H w a w',K F H w->Rel C β F H a w'->aY C.K w w'->Q .normal a w'):
  ∀ (fuel:Nat) (listed:Array Bool) (β:Nat->Nat) (F:Fr) (H:Hp) (w:World) (a:Act) (w':World),listed.size=full.size->(left listed (List.range full.size)).length<=fuel->
    (∀ j,j<full.size->listed.getD j true=true->∀ d∈bu full j,listed.getD d false=true)->
    (listed.getD A true=false->∀ T:CT full B,(∀ b∈B,listed.getD b true=true->T.1 b=true)->aq C (some ml) full ((left listed (jB P B M R A T.1)).filterMap (full[·]?)) K F H w)->
    (∃ T:CT full B,aq C (some ml) full ((left listed (jB P B M R A T.1)).filterMap (full[·]?)) K F H w)->
    Rel C β F H a w'->aY C.K w w'->wpAny C.P .any full Q fuel listed a w':=by
 have hch:∀ T:CT full B,sa C.SU ml full B A [] (jB P B M R A T.1)=true/\(jB P B M R A T.1).Nodup/\(∀ i∈jB P B M R A T.1,i<full.size)/\∀ i,i<full.size->i∈jB P B M R A T.1:=λT=>by
  have h:=gB T;unfold ur at h;simp only[Bool.and_eq_true,decide_eq_true_iff] at h;exact⟨h.1,h.2.1,λi hi=>cz (aW.1 h.2.2.1 i hi),λi hi=>by simpa using aW.1 h.2.2.2 i (iM.2 hi)⟩
 have Jk:∀ (listed:Array Bool) (β:Nat->Nat) (F:Fr) (H:Hp) (w:World) (a:Act) (w':World),(∀ i,i<full.size->listed.getD i true=true)->
   (∃ T:CT full B,aq C (some ml) full ((left listed (jB P B M R A T.1)).filterMap (full[·]?)) K F H w)->Rel C β F H a w'->aY C.K w w'->Q .normal a w':=by
  intro listed β F H w a w' dN ⟨T,h⟩ hr hk
  have hz:left listed (jB P B M R A T.1)=[]:=by
   unfold left;rw[List.filter_eq_nil_iff];intro i hi;rw[dN i ((hch T).2.2.1 i hi)];simp
  rw[hz] at h;exact hQ β F H w a w' h hr hk
 have hnon:∀ (listed:Array Bool),listed.size=full.size->(∀ j,j<full.size->listed.getD j true=true->∀ d∈bu full j,listed.getD d false=true)->Region.ready .any full listed=[]->∀ i,i<full.size->listed.getD i true=true:=by
  intro listed hsz eS pL i
  induction i using Nat.strongRecOn with
  | _ i ihh=>
    intro hi;cases hl:listed.getD i true with
    | true=>rfl
    | false=>
      exfalso
      have:i∈Region.ready .any full listed:=mem_ready.2 ⟨hi,hl,λd hd=>by
       have hdi:=fI i hi d hd;have h1:=ihh d hdi ae;rw[cA] at h1 ⊢;rw[iI (show d<listed.size by omega)] at h1 ⊢;exact h1⟩
      rw[pL] at this;cases this
 intro fuel
 induction fuel with
 | zero=>
   intro listed β F H w a w' hsz hlen eS h1 h3 hr hk
   have dN:∀ i,i<full.size->listed.getD i true=true:=λi hi=>by
    cases hl:listed.getD i true with
    | true=>rfl
    | false=>
      have:i∈left listed (List.range full.size):=mO.2 ⟨iM.2 hi,by rw[hl];rfl⟩;rw[jQ (Nat.le_zero.1 hlen)] at this;cases this
   refine⟨?_,Jk listed β F H w a w' dN h3 hr hk⟩;rw[vn];intro i hi;have:=mem_ready.1 hi;rw[dN i this.1] at this;exact absurd this.2.1 bc
 | succ fuel ih=>
   intro listed β F H w a w' hsz hlen eS h1 h3 hr hk;constructor
   ·intro pL;exact Jk listed β F H w a w' (hnon listed hsz eS pL) h3 hr hk
   ·intro i hi;obtain⟨mW,Cz,GS⟩:=mem_ready.1 hi;have ho:=iI mW;generalize full[i]=o at ho;have hL:=Live.of hr hk;have Di:(listed.setIfInBounds i true).getD i true=true:=by simp[Array.getD_eq_getD_getElem?,Array.getElem?_setIfInBounds,hsz,mW]
    have hmono:∀ z,listed.getD z true=true->(listed.setIfInBounds i true).getD z true=true:=λz hz=>by
     by_cases e:z=i
     ·rw[e];exact Di
     ·rw[rZ e];exact hz
    have wG:one C (some ml) full o (λF' H' w'=>((listed.setIfInBounds i true).getD A true=false->∀ T:CT full B,(∀ b∈B,(listed.setIfInBounds i true).getD b true=true->T.1 b=true)->aq C (some ml) full ((left (listed.setIfInBounds i true) (jB P B M R A T.1)).filterMap (full[·]?)) K F' H' w')/\
      ∃ T:CT full B,aq C (some ml) full ((left (listed.setIfInBounds i true) (jB P B M R A T.1)).filterMap (full[·]?)) K F' H' w') F H w:=by
     cases hA:listed.getD A true with
     | true=>
       obtain⟨T,hT⟩:=h3;refine rK hC hL (Ft hC fI (hch T).1 (hch T).2.1 hsz eS hL ho mW Cz GS ((hch T).2.2.2 i mW) (λpre post e p hp hx=> ?_) hT) λF' H' w' _ hv=>⟨λe=>(by rw[hmono A hA] at e;cases e),T,hv⟩;unfold Jt at hx;simp only[Bool.or_eq_true,Bool.and_eq_true,Nat.beq_eq] at hx;rcases hx with ⟨rfl,_⟩|⟨rfl,_⟩
       ·exact hA
       ·rw[Cz] at hA;cases hA
     | false=>
       have hv:=h1 hA;by_cases hiA:i=A
       ·subst hiA;have xH:=hv ⟨λb=>listed.getD b true,zi eS⟩ (λb _ h=>h);refine rK hC hL (Ft hC fI (hch _).1 (hch _).2.1 hsz eS hL ho mW Cz GS ((hch _).2.2.2 i mW) (λpre post e p hp hx=> ?_) xH) λF' H' w' _ hv=>⟨λe=>(by rw[Di] at e;cases e),_,hv⟩;unfold Jt at hx;simp only[Bool.or_eq_true,Bool.and_eq_true,Nat.beq_eq,List.contains_iff_mem] at hx;rcases hx with ⟨_,hx⟩|⟨_,hx⟩
        ·exact absurd hx hAB
        ·have xC:=(hch ⟨λb=>listed.getD b true,zi eS⟩).2.1;unfold jB at e xC;have hX:=Jv xC e hp;cases hl:listed.getD p true with
         | true=>rfl
         | false=>
           exfalso;have hY:p∈B.filter (λb=> !listed.getD b true):=mO.2 ⟨hx,by rw[hl];rfl⟩;exact (tC.1 xC).2.2 p hX p (tz _ (qL _ hY)) aa
       ·have Ms:oP C.SU ml o=true:=by
         rcases Mr ((hch ⟨λ_=>true,λ_ _ _ _ _ _=>rfl⟩).2.2.2 i mW) with e|e|e
         ·exact iD i e o ho
         ·exact absurd e hiA
         ·have:=ff fI eS hsz full.size i mW GS (hR i e);by_cases hs:A<listed.size
          ·rw[cA] at this hA;rw[iI hs] at this hA;rw[show listed[A]=true from this] at hA;cases hA
          ·rw[cA,Gc ae] at this;cases this
        refine rK hC hL (one_all (X:=λT:CT full B=>∀ b∈B,(listed.setIfInBounds i true).getD b true=true->T.1 b=true) Ms ⟨λ_=>true,λ_ _ _ _ _ _=>aa⟩ (λ_ _ _=>aa) λT hT=>Ft hC fI (hch T).1 (hch T).2.1 hsz eS hL ho mW Cz GS ((hch T).2.2.2 i mW) (λpre post e p hp hx=> ?_) (hv T λb hb hl=>hT b hb (hmono b hl))) λF' H' w' _ hv=>⟨λ_=>hv,⟨λ_=>true,λ_ _ _ _ _ _=>aa⟩,hv _ λ_ _ _=>aa⟩;unfold Jt at hx;simp only[Bool.or_eq_true,Bool.and_eq_true,Nat.beq_eq,List.contains_iff_mem] at hx;rcases hx with ⟨rfl,hx⟩|⟨e',_⟩
        ·exfalso;have xC:=(hch T).2.1;unfold jB at e xC;refine Mq xC e hp (mM _ (qL _ (mO.2 ⟨hx,hT i hx Di⟩)))
        ·exact absurd e' hiA
    have:=jd (Q:=Q) (next:=wpAny C.P .any full Q fuel (listed.setIfInBounds i true)) hC wG hr hk λbG F' H' w1 a' EG g1 g2 g3=>by
     refine ih (listed.setIfInBounds i true) bG F' H' w1 a' EG (by simp[hsz]) ?_ ?_ g1.1 g1.2 g2 g3
     ·obtain⟨pre,post,e⟩:=vx (iM.2 mW);have xC:(pre++i::post).Nodup:=e▸List.nodup_range;obtain⟨e1,e2⟩:=zg xC Cz ae;rw[e,e1] at hlen;rw[e,e2];simp at hlen ⊢;omega
     ·intro j hj hl d hd
      have pT:listed.getD d false=true->(listed.setIfInBounds i true).getD d false=true:=λe=>by
       by_cases hx:d=i
       ·subst hx;simp[Array.getD_eq_getD_getElem?,Array.getElem?_setIfInBounds,hsz,mW]
       ·rw[rZ hx];exact e
      by_cases hx:j=i
      ·subst hx;exact pT (GS d hd)
      ·rw[rZ hx] at hl;exact pT (eS j hj hl d hd)
    unfold wpOp;rw[ho];simp only
    split
    ·rename_i hw;rw[if_pos hw] at this;exact .inl this
    ·rename_i hw;rw[if_neg hw] at this;exact this
def Mt (su:TypeId->Bool) (ml:List FuncId) (full:Array Oper) (P B M R:List Nat) (A:Nat):Bool:=
 backOk full && ((B++(P++M)).all (λi=>match full[i]? with|some o=>oP su ml o|none=>true) && (R.all (λr=>reach full full.size r A) && !B.contains A))
theorem VS.Hj {k:List It} (hC:C.Ok) (hm:C.P.follows .mixedOrders=true) {id:Nat} {ops:Array Oper} (ml:List FuncId) (P B M R:List Nat) (A:Nat) (dN:Mt C.SU ml ops P B M R A=true) (gB:∀ T:CT ops B,ur C.SU ml ops B A (jB P B M R A T.1)=true)
  (h:∀ T:CT ops B,aq C (some ml) ops ((jB P B M R A T.1).filterMap (ops[·]?)) (VS C Q k) F H w):VS C Q (.code (.region id ops true)::k) F H w:=λβ a w' hr hk=>by
 unfold Mt at dN;simp only[Bool.and_eq_true,Bool.not_eq_true'] at dN;obtain⟨hb,hc,hR,hA⟩:=dN;have fI:∀ j,j<ops.size->∀ d∈bu ops j,d<j:=λj hj d hd=>cz (aW.1 (aW.1 hb j (iM.2 hj)) d hd)
 have hz:∀ T:CT ops B,left (Array.replicate ops.size false) (jB P B M R A T.1)=jB P B M R A T.1:=λT=>zh λi hi=>by
  have h:=gB T;unfold ur at h;simp only[Bool.and_eq_true] at h;exact cz (aW.1 h.2.2.1 i hi)
 refine wp_region_any hm ?_;refine Jw (K:=VS C Q k) hC fI P B M R A gB (λi hi o ho=> ?_) (λr hr=>aW.1 hR r hr) (λe=> ?_) (λβ F H w a w' h hr hk=>h β a w' hr hk) ops.size (Array.replicate ops.size false) β F H w a w'.drew bc ?_ ?_ ?_ ?_ hr.drew hk.drew
 ·have:=aW.1 hc i hi;rw[ho] at this;exact this
 ·rw[qK.2 e] at hA;cases hA
 ·rw[zh (λi hi=>iM.1 hi),List.length_range];exact aM _
 ·intro j hj hl;simp[Array.getD_eq_getD_getElem?,Array.getElem?_replicate,hj] at hl
 ·intro _ T _;rw[hz T];exact h T
 ·exact⟨⟨λ_=>true,λ_ _ _ _ _ _=>aa⟩,by rw[hz];exact h _⟩
end
end
section
open Go.RowKit
attribute [local irreducible] aq VS
structure Rw where
 s:Bool
 xs:List Nat
 t:Bool
 ys:List Nat
def Rw.q (r:Rw):Rat:=rq r.s r.xs r.t r.ys
def Rw.of (q:Rat):Rw:=⟨decide (q.num<0),limbs q.num.natAbs,decide ((q.den:Int)<0),limbs (q.den:Int).natAbs⟩
def Aw (kk:Nat) (w:World) (cs:List Value) (r:Rw):Prop:=∃ s p n c t y m d,cs=[.bool s,.slice p n c,.bool t,.slice y m d]/\eV w (.agg #[.bool s,.slice p n c,.bool t,.slice y m d]) r.s r.xs r.t r.ys/\r.xs.length<=kk/\r.ys.length<=kk
variable {kk:Nat} {r:Rw} {w w':World}
theorem Aw.kp {U:TypeId} {T:TypeId->Bool} {cs:List Value} (h:Aw kk w cs r) (k:aY ⟨U,λ_=>True,T⟩ w w'):Aw kk w' cs r:=by
 obtain⟨s,p,n,c,t,y,m,d,h1,h2,h3,h4⟩:=h;exact⟨_,_,_,_,_,_,_,_,h1,h2.kp k,h3,h4⟩
variable {s t:Bool} {c m d:Nat} {p y:Option Addr}
theorem Aw.raw {n:Nat} (h:Aw kk w [.bool s,.slice p n c,.bool t,.slice y m d] r):eV w (.agg #[.bool s,.slice p n c,.bool t,.slice y m d]) r.s r.xs r.t r.ys/\r.xs.length<=kk/\r.ys.length<=kk:=by
 obtain⟨_,_,_,_,_,_,_,_,h1,h2⟩:=h;cases h1;exact h2
theorem Aw.in {n:Nat} (h:Aw kk w [.bool s,.slice p n c,.bool t,.slice y m d] r):cP w (.agg #[.bool s,.slice p n c,.bool t,.slice y m d]) r.q kk:=h.raw.1.in h.raw.2.1 h.raw.2.2
theorem Aw.of {n:Nat} {q:Rat} (h:fJ w (.agg #[.bool s,.slice p n c,.bool t,.slice y m d]) q) (hs:oX q kk):Aw kk w [.bool s,.slice p n c,.bool t,.slice y m d] (Rw.of q):=⟨_,_,_,_,_,_,_,_,rfl,h.raw,hs.1,hs.2⟩
theorem Aw.mk {n:Nat} (h:eV w (.agg #[.bool s,.slice p n c,.bool t,.slice y m d]) r.s r.xs r.t r.ys) (h1:r.xs.length<=kk) (h2:r.ys.length<=kk):Aw kk w [.bool s,.slice p n c,.bool t,.slice y m d] r:=⟨_,_,_,_,_,_,_,_,rfl,h,h1,h2⟩
def Rw.none:Rw:=⟨false,[],false,[]⟩
theorem Mu (w:World):Aw kk w [.bool false,.slice none 0 0,.bool false,.slice none 0 0] Rw.none:=⟨_,_,_,_,_,_,_,_,rfl,⟨none,0,none,0,rfl,⟨none,0,rfl,Rd.nil w 1,bR.nil⟩,⟨none,0,rfl,Rd.nil w 1,bR.nil⟩⟩,cD _,cD _⟩
def Hk {α:Type} (E:World->List Value->α->Prop) (sz:Nat) (t:TypeId) (i:Nat) (X:AV) (M:List (Nat×(TypeId×List AV))) (w:World) (es:List α):Prop:=
 (es=[]/\X=.val (.slice none 0 0)/\M=[])\/∃ n c vs sp,X=.row i 0 n c/\M=[(i,(t,vs.flatten.map .val++sp))]/\gD E sz w n c vs sp es
theorem Hk.kp {α:Type} {E:World->List Value->α->Prop} {sz:Nat} {t:TypeId} {i:Nat} {X:AV} {M:List (Nat×(TypeId×List AV))} {es:List α} (hE:mC E sz) (h:Hk E sz t i X M w es) (k:Kp UU w w'):Hk E sz t i X M w' es:=by
 rcases h with h|⟨n,c,vs,sp,h1,h2,h3⟩
 ·exact .inl h
 ·exact .inr ⟨n,c,vs,sp,h1,h2,h3.kp hE k⟩
def Hp.mask (l:List Nat) (H:Hp):Hp:=λi=>bif l.any (Nat.beq i) then none else H i
def zj (H:Hp):List Nat->Prop
 | []=>True
 | i::r=>H i=none/\zj H r
theorem zj.eq {H:Hp}:∀ {l:List Nat},zj H l->∀ i,l.any (Nat.beq i)=true->H i=none
 | [],_,i,h=>by cases h
 | j::r,hn,i,h=>by
   rw[List.any_cons,pk] at h;rcases h with h|h
   ·rw[fT h];exact hn.1
   ·exact zj.eq hn.2 i h
variable {H:Hp}
theorem Hp.mask_eq {l:List Nat} (h:zj H l):Hp.mask l H=H:=by
 funext i
 unfold Hp.mask;cases hb:l.any (Nat.beq i) with
 | true=>exact (h.eq i hb).symm
 | false=>rfl
theorem VS.mask {C:Cx} {Q:Exit->Act->World->Prop} {F:Fr} {stk:List It} (l:List Nat) (h:zj H l) (k:VS C Q stk F (Hp.mask l H) w):VS C Q stk F H w:=by rw[Hp.mask_eq h] at k;exact k
end
section
namespace Gr
structure Ed where
 fr:Int
 tt:Int
 ok:Bool
 q:Rat
def ERel (l:List Ed) (u v:Int):Prop:=∃ e∈l,e.fr=u/\e.tt=v
inductive xD (R:Int->Int->Prop):Int->Int->Prop where
 | one {a b:Int}:R a b->xD R a b
 | tail {a b c:Int}:xD R a b->R b c->xD R a c
section
variable {R S:Int->Int->Prop} {a b c u v:Int}
theorem xD.trans (h:xD R a b) (k:xD R b c):xD R a c:=by
 induction k with
 | one r=>exact .tail h r
 | tail _ r ih=>exact .tail ih r
theorem xD.mono (hm:∀ x y,R x y->S x y) (h:xD R a b):xD S a b:=by
 induction h with
 | one r=>exact .one (hm _ _ r)
 | tail _ r ih=>exact .tail ih (hm _ _ r)
theorem xD.first (h:xD R a c):R a c\/∃ b,R a b/\xD R b c:=by
 induction h with
 | one r=>exact .inl r
 | tail k r ih=>
   rcases ih with h|⟨d,h1,h2⟩
   ·exact .inr ⟨_,h,.one r⟩
   ·exact .inr ⟨d,h1,.tail h2 r⟩
theorem xD.left (h:xD R a c):∃ b,R a b:=by
 rcases h.first with h|⟨b,h,_⟩
 ·exact⟨_,h⟩
 ·exact⟨_,h⟩
theorem rch_add (hS:∀ x y,S x y↔R x y\/(x=a/\y=b)):xD S u v↔xD R u v\/((u=a\/xD R u a)/\(v=b\/xD R b v)):=by
 constructor
 ·intro h
  induction h with
  | one r=>
    rcases (hS _ _).1 r with r|⟨rfl,rfl⟩
    ·exact .inl (.one r)
    ·exact .inr ⟨.inl aa,.inl aa⟩
  | tail _ r ih=>
    rcases (hS _ _).1 r with r|⟨rfl,rfl⟩
    ·rcases ih with ih|⟨p,q⟩
     ·exact .inl (.tail ih r)
     ·refine .inr ⟨p,.inr ?_⟩;rcases q with rfl|q
      ·exact .one r
      ·exact .tail q r
    ·rcases ih with ih|⟨p,q⟩
     ·exact .inr ⟨.inr ih,.inl aa⟩
     ·exact .inr ⟨p,.inl aa⟩
 ·have hm:∀ x y,R x y->S x y:=λx y h=>(hS x y).2 (.inl h);have pA:S a b:=(hS a b).2 (.inr ⟨aa,aa⟩);rintro (h|⟨p,q⟩)
  ·exact h.mono hm
  ·have h1:xD S u b:=by
    rcases p with rfl|p
    ·exact .one pA
    ·exact .tail (p.mono hm) pA
   rcases q with rfl|q
   ·exact h1
   ·exact h1.trans (q.mono hm)
end
theorem fh {α:Type} {l:List α} {i:Nat} {x:α} (h:l[i]? =some x):l.take (i+1)=l.take i++[x]:=by
 rw[List.take_succ,h];rfl
section
variable {l l':List Ed} {i:Nat} {x:Ed} {u v:Int}
theorem Jx (h:l[i]? =some x):ERel (l.take (i+1)) u v↔ERel (l.take i) u v\/(u=x.fr/\v=x.tt):=by
 unfold ERel;rw[fh h];constructor
 ·rintro⟨e,he,rfl,rfl⟩;rcases fU.1 he with he|he
  ·exact .inl ⟨e,he,aa,aa⟩
  ·rw[aH.1 he];exact .inr ⟨aa,aa⟩
 ·rintro (⟨e,he,h1,h2⟩|⟨rfl,rfl⟩)
  ·exact⟨e,qL _ he,h1,h2⟩
  ·exact⟨x,bc,aa,aa⟩
def iy (l:List Ed) (i:Nat) (u v:Int):Prop:=xD (ERel (l.take i)) u v
theorem lO (h:l[i]? =some x):iy l (i+1) u v↔iy l i u v\/((u=x.fr\/iy l i u x.fr)/\(v=x.tt\/iy l i x.tt v)):=rch_add (λ_ _=>Jx h)
theorem lP:¬ iy l 0 u v:=λh=>by
 obtain⟨b,e,he,_⟩:=h.left;simp at he
def NoRing (l:List Ed) (n:Nat):Prop:=∀ (i:Nat) (x:Ed),i<n->l[i]? =some x->¬ iy l i x.tt x.fr
theorem acyclic (hne:∀ x∈l,x.fr≠x.tt):∀ n,n<=l.length->NoRing l n->∀ u,¬ iy l n u u
 | 0,_,_,u=>lP
 | n+1,hn,h,u=>λhu=>by
   obtain⟨x,hx⟩:∃ x,l[n]? =some x:=⟨_,aZ ae⟩;have ih:=acyclic hne n ae (λi x hi hx=>h i x ae hx);rcases (lO hx).1 hu with h1|⟨p,q⟩
   ·exact ih u h1
   ·have hno:=h n x ae hx;rcases p with rfl|p <;> rcases q with q|q
    ·exact hne x (dx hx) q
    ·exact hno q
    ·rw[q] at p;exact hno p
    ·exact hno (q.trans p)
end
def jC (l:List Ed) (out:List Nat) (v:Nat):Bool:=l.all λe=> !(e.tt == (v:Int)) || out.any λu=>e.fr == (u:Int)
def om (l:List Ed) (n:Nat) (out:List Nat):Option Nat:=(List.range n).find? λv=> !out.contains v && jC l out v
def Mv (l:List Ed) (n:Nat):Nat->List Nat->List Nat
 | 0,out=>out
 | k+1,out=>match om l n out with
   | none=>out
   | some v=>Mv l n k (out++[v])
def sa (l:List Ed) (n:Nat):List Nat:=Mv l n n []
section
variable {l:List Ed} {n:Nat} {out:List Nat} {v:Nat}
theorem xg:jC l out v=true↔∀ e∈l,e.tt=(v:Int)->∃ u∈out,e.fr=(u:Int):=by
 unfold jC;rw[aW];constructor
 ·intro h e he ht;have:=h e he;rw[ht] at this;simp at this;obtain⟨u,hu,h2⟩:=this;exact⟨u,hu,h2⟩
 ·intro h e he;by_cases ht:e.tt=(v:Int)
  ·obtain⟨u,hu,h2⟩:=h e he ht;simp[ht];exact⟨u,hu,h2⟩
  ·simp[ht]
theorem xh (h:om l n out=some v):v<n/\v∉out/\jC l out v=true/\∀ u,u<v->u∈out\/jC l out u=false:=by
 unfold om at h;rw[List.find?_range_eq_some] at h;obtain⟨h1,h2,h3⟩:=h;simp at h1 h2;refine⟨h2,h1.1,h1.2,λu hu=> ?_⟩;have:=h3 u hu;simp at this;exact this
theorem Mw (h1:v<n) (h2:v∉out) (h3:jC l out v=true) (h4:∀ u,u<v->u∈out\/jC l out u=false):om l n out=some v:=by
 unfold om;rw[List.find?_range_eq_some];refine⟨by simp[h2,h3],by simpa using h1,λu hu=> ?_⟩;rcases h4 u hu with h|h
 ·simp[h]
 ·simp[h]
structure Jy (l:List Ed) (n:Nat) (out:List Nat):Prop where
 nodup:out.Nodup
 lt:∀ v∈out,v<n
 ready:∀ i v,out[i]? =some v->jC l (out.take i) v=true
theorem Jy.nil:Jy l n []:=⟨List.nodup_nil,λv h=>(by cases h),λi v h=>(by simp at h)⟩
theorem Jy.snoc (h:Jy l n out) (hn:om l n out=some v):Jy l n (out++[v]):=by
 obtain⟨h1,h2,h3,_⟩:=xh hn;refine⟨?_,λu hu=> ?_,λi u hi=> ?_⟩
 ·rw[tC];exact⟨h.nodup,bc,λa ha b hb=>by rw[aH.1 hb];intro e;exact h2 (e▸ha)⟩
 ·rcases fU.1 hu with hu|hu
  ·exact h.lt u hu
  ·rw[aH.1 hu];exact h1
 ·by_cases hlt:i<out.length
  ·rw[kZ hlt] at hi;rw[FU ae];exact h.ready i u hi
  ·rw[nr ae] at hi
   have:i-out.length=0:=by
    have:=(bx.1 hi).1;simp at this;omega
   rw[this] at hi;simp at hi;subst hi;rw[FU ae,du ae];exact h3
theorem nodup_lt_length:∀ {n:Nat} {out:List Nat},out.Nodup->(∀ v∈out,v<n)->out.length<=n
 | 0,out,_,h=>by
   cases out with
   | nil=>simp
   | cons a r=>exact absurd (h a bc) ae
 | n+1,out,hd,h=>by
   have h1:(out.filter (·≠n)).length<=n:=nodup_lt_length (hd.filter _) (λv hv=>by
    obtain⟨h2,h3⟩:=mO.1 hv;have:=h v h2;simp at h3;omega)
   by_cases hm:n∈out
   ·have h2:out.Perm (n::out.erase n):=List.perm_cons_erase hm
    have h3:out.erase n=out.filter (·≠n):=by
     rw[hd.erase_eq_filter];apply List.filter_congr;intro x _;rw[Bool.eq_iff_iff];simp
    rw[h2.length_eq,ji,h3];omega
   ·have h3:out.filter (·≠n)=out:=List.filter_eq_self.2 λa ha=>by
     simp;intro e;exact hm (e▸ha)
    rw[h3] at h1;omega
end
section
variable {l:List Ed} {n:Nat} {out:List Nat} {v:Nat}
end
def sumTo (l:List Ed) (v:Int):Rat:=l.foldl (λa e=>if e.tt=v then a+e.q else a) 0
def iG (N:Int) (l:List Ed) (i:Nat) (x:Ed):Prop:=(∀ e∈l.take i,¬ (e.fr=x.fr/\e.tt=x.tt))/\0<=x.fr/\x.fr<N/\0<=x.tt/\x.tt<N/\x.fr≠x.tt/\x.ok=true/\0<x.q/\x.q<=1
def jD (l:List Ed) (P:Nat->Ed->Prop) (j:Nat):Prop:=(∃ x,l[j]? =some x/\P j x)/\∀ i x,i<j->l[i]? =some x->¬ P i x
def lQ (l:List Ed) (P:Nat->Ed->Prop):Prop:=∀ i x,l[i]? =some x->¬ P i x
def eW (l:List Ed) (i:Nat) (x:Ed):Prop:=1<sumTo (l.take (i+1)) x.tt
def pP (l:List Ed) (i:Nat) (x:Ed):Prop:=iy l i x.tt x.fr
inductive Fu (lim arg share ring:Int) (N:Int) (l:List Ed):Int->Int->Prop where
 | lim:(N<0\/256<N\/4096<l.length)->Fu lim arg share ring N l 0 lim
 | arg {j:Nat}:0<=N->N<=256->l.length<=4096->jD l (λi x=>¬ iG N l i x) j->Fu lim arg share ring N l j arg
 | share {j:Nat}:0<=N->N<=256->l.length<=4096->lQ l (λi x=>¬ iG N l i x)->jD l (eW l) j->Fu lim arg share ring N l j share
 | ring {j:Nat}:0<=N->N<=256->l.length<=4096->lQ l (λi x=>¬ iG N l i x)->lQ l (eW l)->jD l (pP l) j->Fu lim arg share ring N l j ring
 | ok:0<=N->N<=256->l.length<=4096->lQ l (λi x=>¬ iG N l i x)->lQ l (eW l)->lQ l (pP l)->Fu lim arg share ring N l 0 0
variable {l:List Ed} {j:Nat} {P:Nat->Ed->Prop}
theorem td {i:Nat} (h:jD l P i) (k:jD l P j):i=j:=by
 obtain⟨⟨x,hx,hp⟩,h2⟩:=h;obtain⟨⟨y,hy,hq⟩,k2⟩:=k;rcases yf i j with hlt|rfl|hlt
 ·exact absurd hp (k2 i x hlt hx)
 ·rfl
 ·exact absurd hq (h2 j y hlt hy)
theorem cG (h:jD l P j) (k:lQ l P):False:=by
 obtain⟨⟨x,hx,hp⟩,_⟩:=h;exact k j x hx hp
theorem Fu.uniq {lim arg share ring N:Int} {a b c d:Int} (h:Fu lim arg share ring N l a b) (k:Fu lim arg share ring N l c d):a=c/\b=d:=by
 cases h with
 | lim h=>
   cases k with
   | lim _=>exact⟨aa,aa⟩
   | arg h1 h2 h3=>omega
   | share h1 h2 h3=>omega
   | ring h1 h2 h3=>omega
   | ok h1 h2 h3=>omega
 | arg h1 h2 h3 h4=>
   cases k with
   | lim _=>omega
   | arg _ _ _ k4=>rw[td h4 k4];exact⟨aa,aa⟩
   | share _ _ _ k4=>exact (cG h4 k4).elim
   | ring _ _ _ k4=>exact (cG h4 k4).elim
   | ok _ _ _ k4=>exact (cG h4 k4).elim
 | share h1 h2 h3 h4 h5=>
   cases k with
   | lim _=>omega
   | arg _ _ _ k4=>exact (cG k4 h4).elim
   | share _ _ _ _ k5=>rw[td h5 k5];exact⟨aa,aa⟩
   | ring _ _ _ _ k5=>exact (cG h5 k5).elim
   | ok _ _ _ _ k5=>exact (cG h5 k5).elim
 | ring h1 h2 h3 h4 h5 h6=>
   cases k with
   | lim _=>omega
   | arg _ _ _ k4=>exact (cG k4 h4).elim
   | share _ _ _ _ k5=>exact (cG k5 h5).elim
   | ring _ _ _ _ _ k6=>rw[td h6 k6];exact⟨aa,aa⟩
   | ok _ _ _ _ _ k6=>exact (cG h6 k6).elim
 | ok h1 h2 h3 h4 h5 h6=>
   cases k with
   | lim _=>omega
   | arg _ _ _ k4=>exact (cG k4 h4).elim
   | share _ _ _ _ k5=>exact (cG k5 h5).elim
   | ring _ _ _ _ _ k6=>exact (cG k6 h6).elim
   | ok=>exact⟨aa,aa⟩
section
variable {l:List Ed} {N:Int} {n:Nat} {v:Int}
theorem zk (l:List Ed) (v:Int):∀ a:Rat,l.foldl (λa e=>if e.tt=v then a+e.q else a) a=a+sumTo l v:=by
 unfold sumTo
 induction l with
 | nil=>intro a;show a=a+0;grind
 | cons e r ih=>
   intro a;rw[List.foldl_cons,List.foldl_cons,ih,ih (if e.tt=v then (0:Rat)+e.q else 0)]
   split <;> grind
theorem Jz:sumTo [] v=0:=rfl
theorem Ax (a b:List Ed):sumTo (a++b) v=sumTo a v+sumTo b v:=by
 show (a++b).foldl _ 0=_;rw[List.foldl_append,zk];rfl
theorem Fv (e:Ed) (r:List Ed):sumTo (e::r) v=(if e.tt=v then e.q else 0)+sumTo r v:=by
 show (e::r).foldl _ 0=_;rw[List.foldl_cons,zk]
 split <;> grind
theorem xj {i:Nat} {x:Ed} (h:l[i]? =some x):sumTo (l.take (i+1)) v=sumTo (l.take i) v+if x.tt=v then x.q else 0:=by
 rw[fh h,Ax,Fv,Jz];grind
structure qw (N:Int) (l:List Ed):Prop where
 lo:0<=N
 hi:N<=256
 GN:l.length<=4096
 may:∀ i x,l[i]? =some x->iG N l i x
 over:lQ l (eW l)
 ring:lQ l (pP l)
theorem Fu.Mx {lim arg share ring a:Int} (h:Fu lim arg share ring N l a 0) (h1:lim≠0) (h2:arg≠0) (h3:share≠0) (h4:ring≠0):qw N l/\a=0:=by
 cases h with
 | lim=>exact absurd aa h1
 | arg=>exact absurd aa h2
 | share=>exact absurd aa h3
 | ring=>exact absurd aa h4
 | ok a b c d e f=>exact⟨⟨a,b,c,λi x hx=>FX (d i x hx),e,f⟩,aa⟩
theorem qw.chk {lim arg share ring:Int} (h:qw N l):Fu lim arg share ring N l 0 0:=.ok h.lo h.hi h.GN (λi x hx hn=>hn (h.may i x hx)) h.over h.ring
theorem qw.edge (h:qw N l) {e:Ed} (he:e∈l):0<=e.fr/\e.fr<N/\0<=e.tt/\e.tt<N/\e.fr≠e.tt/\e.ok=true/\0<e.q/\e.q<=1:=by
 obtain⟨i,hi⟩:=vt he;exact (h.may i e hi).2
theorem qw.acyclic (h:qw N l) (u:Int):¬ iy l l.length u u:=Gr.acyclic (λx hx=>(h.edge hx).2.2.2.2.1) l.length (aM _) (λi x _ hx=>h.ring i x hx) u
theorem qw.take (h:qw N l) (m:Nat):qw N (l.take m):=by
 have rk:∀ i x,(l.take m)[i]? =some x->i<m/\l[i]? =some x:=λi x hx=>by
  rw[nv] at hx
  split at hx
  ·exact⟨by assumption,hx⟩
  ·cases hx
 have htt:∀ i,i<=m->(l.take m).take i=l.take i:=λi hi=>by rw[List.take_take];congr 1;omega
 refine⟨h.lo,h.hi,by rw[aR];have:=h.GN;omega,λi x hx=> ?_,λi x hx=> ?_,λi x hx=> ?_⟩
 ·obtain⟨h1,h2⟩:=rk i x hx;have:=h.may i x h2;unfold iG at this ⊢;rw[htt i ae];exact this
 ·obtain⟨h1,h2⟩:=rk i x hx;unfold eW;rw[htt (i+1) ae];exact h.over i x h2
 ·obtain⟨h1,h2⟩:=rk i x hx;unfold pP iy;rw[htt i ae];exact h.ring i x h2
end
end Gr
end
section
open Go.RowKit
attribute [local irreducible] aq VS
def iz (xs:List Nat) (v:Nat):Bool:=(xs.getD (v/64) 0).testBit (v%64)
def ot (xs:List Nat) (v:Nat):List Nat:=xs.set (v/64) (xs.getD (v/64) 0 |||2^(v%64))
def kG (xs ys:List Nat):List Nat:=List.zipWith (·||| ·) xs ys
structure jP (xs:List Nat):Prop where
 len:xs.length=4
 lt:∀ x∈xs,x<18446744073709551616
theorem Hl {a b:Nat} (ha:a<18446744073709551616) (hb:b<18446744073709551616):a |||b<18446744073709551616:=Nat.or_lt_two_pow (n:=64) ha hb
variable {xs:List Nat}
theorem jP.getD (h:jP xs) (j:Nat):xs.getD j 0<18446744073709551616:=by
 rw[eL];cases hx:xs[j]? with
 | none=>exact (by omega:(0:Nat)<18446744073709551616)
 | some x=>exact h.lt x (dx hx)
theorem Dj {k:Nat} (h:k<64):2^k<18446744073709551616:=Nat.pow_lt_pow_right (a:=2) ae h
theorem jP.put (h:jP xs) (v:Nat):jP (ot xs v) where
 len:=by unfold ot;rw[eF];exact h.len
 lt:=λx hx=>by
  unfold ot at hx;rcases xZ hx with e|rfl
  ·exact h.lt x e
  ·exact Hl (h.getD _) (Dj (cM _ ae))
variable {ys:List Nat}
theorem jP.join (h:jP xs) (k:jP ys):jP (kG xs ys) where
 len:=by unfold kG;rw[List.length_zipWith,h.len,k.len];rfl
 lt:=λx hx=>by
  unfold kG at hx;obtain⟨i,hi,rfl⟩:=List.getElem_of_mem hx;rw[List.getElem_zipWith];exact Hl (h.lt _ (List.getElem_mem _)) (k.lt _ (List.getElem_mem _))
theorem jP.zero:jP [0,0,0,0]:=⟨rfl,λx hx=>by simp at hx;omega⟩
theorem Fw (v:Nat):iz [0,0,0,0] v=false:=by
 unfold iz
 have:([0,0,0,0]:List Nat).getD (v/64) 0=0:=by
  rw[eL]
  match v/64 with
  | 0=>rfl
  | 1=>rfl
  | 2=>rfl
  | 3=>rfl
  | n+4=>rfl
 rw[this,Nat.zero_testBit]
variable {u v:Nat}
theorem JA (h:jP xs) (hu:u<256) (hv:v<256):iz (ot xs v) u=(decide (u=v) || iz xs u):=by
 unfold iz ot;have hl:=h.len;rw[eL,qM];by_cases e:v/64=u/64
 ·rw[if_pos e,if_pos ae,Option.getD_some,Nat.testBit_or,Nat.testBit_two_pow,e,Bool.or_comm]
  congr 1
  by_cases q:u=v
  ·subst q;simp
  ·rw[bo q,bo ae]
 ·rw[if_neg e,<-eL,bo (by intro q;exact e (by rw[q])),Bool.false_or]
theorem Fx (h:jP xs) (k:jP ys) (hu:u<256):iz (kG xs ys) u=(iz xs u || iz ys u):=by
 unfold iz kG;have h1:=h.len;have h2:=k.len;have hq:u/64<4:=ae;simp only[List.getD_eq_getElem?_getD,List.getElem?_zipWith];rw[aZ (show u/64<xs.length by omega),aZ (show u/64<ys.length by omega)];simp[Nat.testBit_or]
theorem div64 (v:Nat):Int.tdiv (v:Int) 64=((v/64:Nat):Int):=rfl
theorem mod64 (v:Nat):Int.tmod (v:Int) 64=((v%64:Nat):Int):=rfl
variable {x:Nat}
theorem has_val (hx:x<18446744073709551616):(bits .and .u64 (Int.fdiv (x:Int) (2^min (Int.tmod (v:Int) 64).toNat IntKind.u64.bits)) 1 != 0)=x.testBit (v%64):=by
 rw[mod64,aQ,show IntKind.u64.bits=64 from aa,dF (by have:=cM v (show 0<64 by omega);omega)]
 have e:Int.fdiv (x:Int) (2^(v%64))=((x/2^(v%64):Nat):Int):=by
  rw[Kl _ (Int.le_of_lt (Int.pow_pos dh))];simp
 rw[e,show (1:Int)=((1:Nat):Int) from aa,bits_and_u64_nat _ _ (Nat.lt_of_le_of_lt (yk _ _) hx) dh]
 have e2:(x/2^(v%64) &&& 1)=(x.testBit (v%64)).toNat:=by
  rw[Nat.and_one_is_mod,Nat.testBit_eq_decide_div_mod_eq];rcases Nat.mod_two_eq_zero_or_one (x/2^(v%64)) with q|q <;> simp[q]
 rw[e2];cases x.testBit (v%64) <;> rfl
theorem Hm (hx:x<18446744073709551616):bits .or .u64 (x:Int) (IntKind.u64.wrap (1*2^min (Int.tmod (v:Int) 64).toNat IntKind.u64.bits))=((x |||2^(v%64):Nat):Int):=by
 have hm:=cM v (show 0<64 by omega);rw[mod64,aQ,show IntKind.u64.bits=64 from aa,dF ae,Int.one_mul];have e:(2:Int)^(v%64)=((2^(v%64):Nat):Int):=bc;have hlt:=Dj hm;have e3:(((2^(v%64):Nat):Int))%18446744073709551616=((2^(v%64):Nat):Int):=Int.emod_eq_of_lt (Int.natCast_nonneg _) (cf.2 hlt);rw[e,IntKind.wrap_u64,e3,bits_or_u64_nat _ _ hx hlt]
theorem My {y:Nat} (hx:x<18446744073709551616) (hy:y<18446744073709551616):bits .or .u64 (x:Int) (y:Int)=((x |||y:Nat):Int):=bits_or_u64_nat _ _ hx hy
set_option maxRecDepth 4000
def cj (x:Nat):Value:=.int .u64 (x:Int)
abbrev iR:TypeId:=68
variable {c:Code} {R:Ending->World->Prop} {fn:Func} {f:FuncId} {cs us:List Value} {g:Nat} {t:TypeId}
theorem iX (x:AV) (P:Program) (w:World) (N:Nat) (K:KC) (SU:TypeId->Bool) (ti:TypeId->Option TI) (keep:∀ b,b<w.heap.size->K.S b) (hf:P.funcs[f]? =some fn) (hb:fn.body=some c) (hN:fn.ntmps=N) (ha:us.length+1<=N)
  (hc:aI w g t cs.toArray) (ht:K.fz t=false) (hk:cs.all aK=true) (hx:∀ i∈x.ids,i=2*N)
  (h:VS (xR P w N K SU ti keep [g] (oK g) (ad1 hc ht hk)) (bodyPost P fn R) [.code c] (Fr.ES 0 (x::us.map .val)) (Hp.one (2*N) t cs) w):Calls P f (x.aN (λ_=>g)::us).toArray w R:=by
 have:=ue (C:=xR P w N K SU ti keep [g] (oK g) (ad1 hc ht hk)) (R:=R) (args:=x::us.map .val) (β:=λ_=>g) (H:=Hp.one (2*N) t cs) hf hb hN (by simpa using ha) (λi t' gA hi=> ?_) (λi j hi hj _=> ?_) ⟨λi t' gA hi=> ?_,λi t' gA hi=> ?_,λi hi=> ?_⟩ (λv hv i hi=> ?_) h
 ·have e:(x::us.map AV.val).map (AV.aN λ_=>g)=x.aN (λ_=>g)::us:=by
   rw[fV,eB]
  rw[e] at this;exact this
 ·rw[Hp.sW] at hi
  split at hi
  ·rename_i e;cases hi;refine⟨?_,ht,by rw[aA];exact hc,cO hk⟩;show eK N [g] w i g;unfold eK;rw[if_pos ae,e,iP];rfl
  ·cases hi
 ·rw[Hp.sW] at hi hj
  split at hi
  ·split at hj
   ·omega
   ·exact absurd aa hj
  ·exact absurd aa hi
 ·rw[Hp.sW] at hi
  split at hi
  ·cases hi;exact⟨ht,cO hk⟩
  ·cases hi
 ·rw[Hp.sW] at hi
  split at hi
  ·cases hi;intro j hj;rw[aG] at hj;cases hj
  ·cases hi
 ·rw[Hp.sW,if_neg];intro e;have:(2*N+[g].length)<=i:=hi;simp at this;omega
 ·rcases fj.1 hv with rfl|hv
  ·rw[Hp.sW,if_pos (hx i hi)];simp
  ·obtain⟨u,_,rfl⟩:=cU.1 hv;cases hi
theorem sb (off:Nat) (P:Program) (w:World) (N:Nat) (K:KC) (SU:TypeId->Bool) (ti:TypeId->Option TI) (keep:∀ b,b<w.heap.size->K.S b) (hf:P.funcs[f]? =some fn) (hb:fn.body=some c) (hN:fn.ntmps=N) (ha:us.length+1<=N)
  (hc:aI w g t cs.toArray) (ht:K.fz t=false) (hk:cs.all aK=true)
  (h:VS (xR P w N K SU ti keep [g] (oK g) (ad1 hc ht hk)) (bodyPost P fn R) [.code c] (Fr.ES 0 (.box (2*N) off::us.map .val)) (Hp.one (2*N) t cs) w):Calls P f (Value.pointer (some ⟨g,off,none⟩)::us).toArray w R:=
 iX (.box (2*N) off) P w N K SU ti keep hf hb hN ha hc ht hk (λi hi=>by simpa [AV.ids] using hi) h
theorem lR {q:Nat} (v:Value) (h:q<cs.length):(cs.map AV.val).take q++([AV.val v]++(cs.map AV.val).drop (q+1))=(cs.set q v).map .val:=by
 rw[List.map_set,Ki,if_pos (by rw[cJ];exact h)];rfl
theorem sc:∀ (vs l:List Value) (o:Nat),(gN l o vs).length=l.length
 | [],_,_=>rfl
 | v::r,l,o=>by rw[gN,sc r,eF]
theorem zl (v:Value):∀ (vs l:List Value) (o:Nat),gN l o (vs++[v])=(gN l o vs).set (o+vs.length) v
 | [],_,_=>rfl
 | u::r,l,o=>by
   rw[pc,gN,zl v r,gN,ji]
   congr 1;omega
theorem se {q:Nat}:∀ (vs l:List Value) (o:Nat),(q<o\/o+vs.length<=q)->(gN l o vs)[q]? =l[q]?
 | [],_,_,_=>rfl
 | v::r,l,o,h=>by
   rw[ji] at h;rw[gN,se r _ _ ae,qM,if_neg ae]
theorem Hn {j:Nat} {u:Value}:∀ (vs l:List Value) (o:Nat),o+vs.length<=l.length->vs[j]? =some u->(gN l o vs)[o+j]? =some u
 | [],_,_,_,h=>by simp at h
 | v::r,l,o,hl,h=>by
   rw[ji] at hl;rw[gN];cases j with
   | zero=>
     cases h;rw[se r _ _ ae,qM,if_pos ae,if_pos ae]
   | succ j=>
     rw[show o+(j+1)=(o+1)+j by omega];exact Hn r _ _ (by rw[eF];omega) (by simpa using h)
theorem setL_ok {vs l:List Value} {o:Nat} (h:l.all aK=true) (hv:vs.all aK=true):(gN l o vs).all aK=true:=by
 induction vs generalizing l o with
 | nil=>exact h
 | cons v r ih=>
   rw[List.all_cons,dR] at hv;rw[gN];exact ih (aW.2 λx hx=>(xZ hx).elim (λe=>aW.1 h x e) (λe=>e▸hv.1)) hv.2
theorem u64_ok (xs:List Nat):(xs.map cj).all aK=true:=aW.2 λx hx=>by
 obtain⟨y,_,rfl⟩:=cU.1 hx;rfl
set_option maxRecDepth 4000 in
theorem Mz (N:Int) (p:Option Addr) (n c:Nat) (v:Int) (w:World):
  Calls Tryz.prog 28 #[.agg #[.int .i64 N,.slice p n c],.int .i64 v] w λo w'=>o=.returned (.bool (decide (0<=v/\v<N)))/\ax w w':=by
 obtain⟨b,hb⟩:∃ b,decide (v>=(0:Int))=b:=⟨_,aa⟩;refine ar (C:=bD Tryz.prog w _) (args:=[_,_]) qT aa Tryz.ntmps28 (cz aa) ?_;refine af ?_;cases b with
 | true=>
   refine VO.fix 7 aa (ai (λb=>AV.val (.bool b)) (hb)) ?_;refine wV aa ?_;refine af ?_;refine bH ?_;intro wz kz bz;refine⟨?_,bz⟩;have:=cS hb;simp only[kc]
   congr 2
   by_cases h:v<N
   ·simp[h,show (0:Int)<=v from this]
   ·simp[h]
 | false=>
   refine VO.fix 7 aa (ai (λb=>AV.val (.bool b)) (hb)) ?_;refine wV aa ?_;refine af ?_;refine bH ?_;intro wz kz bz;refine⟨?_,bz⟩;have:=of_decide_eq_false hb;simp only[kc]
   congr 2
   simp[show ¬ (0:Int)<=v from this]
set_option maxRecDepth 4000 in
theorem Ay (b off v:Nat) (xs:List Nat) (w:World) (hx:jP xs) (hc:∀ (j x:Nat),xs[j]? =some x->w.cell? ⟨b,off+j,none⟩=some (cj x)) (hv:v<256):
  Calls Tryz.prog 29 #[.pointer (some ⟨b,off,none⟩),.int .i64 (v:Int)] w λo w'=>o=.returned (.bool (iz xs v))/\ax w w':=by
 have hl:=hx.len;obtain⟨x,Ai⟩:∃ x,xs[v/64]? =some x:=⟨_,aZ ae⟩;have dv:=hx.lt x (dx Ai);have MA:IntKind.i64.wrap (Int.tdiv (v:Int) 64)=((v/64:Nat):Int):=by rw[div64,lj];omega
 refine ar (C:=bD Tryz.prog w _) (args:=[_,_]) Tryz.func29 aa Tryz.ntmps29 (cz aa) ?_;refine af ?_;refine VO.cond aa ⟨?_,?_⟩ (wV aa ?_)
 ·rw[MA];omega
 ·rw[MA];omega
 refine VO.read aa [cj x] aa (λj u hj=> ?_) (wV aa ?_)
 ·cases j with
  | zero=>cases hj;rw[MA,aQ];exact hc _ _ Ai
  | succ j=>simp at hj
 refine af ?_;refine bH ?_;intro wz kz bz;refine⟨?_,bz⟩
 have e:iz xs v=x.testBit (v%64):=by
  unfold iz;rw[eL,Ai];rfl
 rw[e,<-has_val dv];rfl
theorem bT {P Q:Prop} (h:Q) (i:Q->P:=by intro h;(repeat first|refine wN ?_|refine wP rfl ?_|refine cxA_r rfl ?_|refine cxA_d rfl ?_|refine wO rfl rfl ?_);exact h):P:=i h
set_option maxRecDepth 4000 in
theorem put_any (g off v:Nat) (cs:List Value) (x:Nat) (w:World) (hc:aI w g iR cs.toArray) (hk:cs.all aK=true) (hx:cs[off+v/64]? =some (cj x)) (dv:x<18446744073709551616) (hv:v<256):
  Calls Tryz.prog 62 #[.pointer (some ⟨g,off,none⟩),.int .i64 (v:Int)] w λo w'=>o=.returned (.tuple #[])/\fq [g] w w'/\aI w' g iR (cs.set (off+v/64) (cj (x |||2^(v%64)))).toArray:=by
 have hq:=(bx.1 hx).1;have MA:IntKind.i64.wrap (Int.tdiv (v:Int) 64)=((v/64:Nat):Int):=by rw[div64,lj];omega
 refine sb off Tryz.prog w _ (KU UU) (λt=>Nat.beq t 31) table (λ_ _=>trivial) (us:=[_]) Tryz.func62 aa Tryz.ntmps62 (cz aa) hc aa hk ?_;refine bT ?_;refine VO.cond aa ⟨by rw[MA];omega,by rw[MA];omega⟩ (wV aa ?_);refine VO.dQ aa [.val (cj x)] aa (λj u hj=> ?_) (wV aa ?_)
 ·cases j with
  | zero=>cases hj;rw[MA,aQ,ia,iK,hx];rfl
  | succ j=>simp at hj
 refine VO.cond aa ⟨by rw[MA];omega,by rw[MA];omega⟩ (wV aa ?_);refine VO.cond aa (by rw[MA,aQ,cJ];exact hq) (wV aa ?_);refine bT ?_;refine VS.fin (cu _ _) aa (λwz β kz oz en=>⟨aa,oz.1,?_⟩);have h1:=Ja (en.own 32 _ _ aa) aa;rw[MA,aQ] at h1;have h2:=(lR (.int .u64 (bits .or .u64 (x:Int) (IntKind.u64.wrap (1*2^min (Int.tmod (v:Int) 64).toNat IntKind.u64.bits)))) hq).symm;rw[Hm dv] at h2
 have h3:aI wz g iR (((cs.set (off+v/64) (cj (x |||2^(v%64)))).map AV.val).map (AV.leaf β)).toArray:=by
  rw[show (cs.set (off+v/64) (cj (x |||2^(v%64)))).map AV.val=_ from h2,<-Hm dv];exact h1
 rw[aA] at h3;exact h3
set_option maxRecDepth 4000 in
theorem MB (g off:Nat) (cs:List Value) (xs ys:List Nat) (w:World) (hc:aI w g iR cs.toArray) (hk:cs.all aK=true) (hx:jP xs) (hy:jP ys) (rk:∀ (j x:Nat),xs[j]? =some x->cs[off+j]? =some (cj x)):
  Calls Tryz.prog 63 #[.pointer (some ⟨g,off,none⟩),.agg (ys.map cj).toArray] w λo w'=>o=.returned (.tuple #[])/\fq [g] w w'/\aI w' g iR (gN cs off ((kG xs ys).map cj)).toArray:=by
 have sn:=hx.len;have mY:=hy.len
 obtain⟨y0,y1,y2,y3,rfl⟩:∃ a b c d,ys=[a,b,c,d]:=by
  match ys,mY with
  | [a,b,c,d],_=>exact⟨a,b,c,d,aa⟩
 obtain⟨zs,Bq⟩:∃ zs,zs=kG xs [y0,y1,y2,y3]:=⟨_,aa⟩;have hzl:zs.length=4:=by rw[Bq];exact (hx.join hy).len
 have hlen:off+4<=cs.length:=by
  obtain⟨x,h3⟩:∃ x,xs[3]? =some x:=⟨_,aZ ae⟩;have:=(bx.1 (rk 3 x h3)).1;omega
 rw[<-Bq];refine sb off Tryz.prog w _ (KU UU) (λt=>Nat.beq t 31) table (λ_ _=>trivial) (us:=[.agg #[cj y0,cj y1,cj y2,cj y3]]) Tryz.func63 aa Tryz.ntmps63 (cz aa) hc aa hk ?_;refine bT ?_;refine VS.loop (J:=λm L M w'=>∃ z:Nat,z<=4/\m=4-z/\L=[(0,.box 42 off),(6,.val (.agg #[cj y0,cj y1,cj y2,cj y3])),(7,.val (.int .i64 (z:Int)))]/\M=[(42,(iR,(gN cs off ((zs.take z).map cj)).map .val))]) 4 ⟨_,_,?_,?_,?_,?_,⟨0,ae,aa,aa,aa⟩⟩ ?_
 ·exact lK
 ·exact lK
 ·rfl
 ·exact CY
 rintro m L M w3 ⟨z,hz,rfl,rfl,rfl⟩;refine bT ?_;by_cases hz4:z<4
 ·refine VS.bJ aa (aU ae) ?_;obtain⟨x,Ai⟩:∃ x,xs[z]? =some x:=⟨_,aZ ae⟩;obtain⟨y,hy1⟩:∃ y,[y0,y1,y2,y3][z]? =some y:=⟨_,aZ (by simp;omega)⟩
  have kM:zs[z]? =some (x |||y):=by
   rw[Bq];unfold kG;rw[List.getElem?_zipWith,Ai,hy1]
  have hyv:(#[cj y0,cj y1,cj y2,cj y3]:Array Value).getD (((z:Int)).toNat) undef=cj y:=by
   rw[aQ]
   match z,hz4,hy1 with
   | 0,_,e=>cases e;rfl
   | 1,_,e=>cases e;rfl
   | 2,_,e=>cases e;rfl
   | 3,_,e=>cases e;rfl
  have htl:((zs.take z).map cj).length=z:=by rw[cJ,aR];omega
  have hcell:(gN cs off ((zs.take z).map cj))[off+z]? =some (cj x):=by
   rw[se _ _ _ ae];exact rk z x Ai
  have dv:=hx.lt x (dx Ai);have ij:=hy.lt y (dx hy1);refine bT ?_;refine VO.cond aa ⟨ae,ae,cz aa⟩ ?_;refine VO.fix 10 aa (ai AV.val hyv) (wV aa ?_);refine bT ?_;refine VO.cond aa eH (wV aa ?_);refine VO.dQ aa [.val (cj x)] aa (λj u hj=> ?_) (wV aa ?_)
  ·cases j with
   | zero=>cases hj;rw[aQ,ia,iK,hcell];rfl
   | succ j=>simp at hj
  refine VO.cond aa eH (wV aa ?_);refine VO.cond aa (by rw[aQ,cJ,sc];show off+z+1<=cs.length;omega) (wV aa ?_);refine bT ?_
  have key:((gN cs off ((zs.take z).map cj)).map AV.val).take (off+((z:Int)).toNat)++([AV.val (.int .u64 (bits .or .u64 (x:Int) (y:Int)))]++((gN cs off ((zs.take z).map cj)).map AV.val).drop (off+((z:Int)).toNat+1))=(gN cs off ((zs.take (z+1)).map cj)).map .val:=by
   rw[aQ,My dv ij,lR _ (by rw[sc];omega),mB kM,cT];have:=zl (cj (x |||y)) ((zs.take z).map cj) cs off;rw[htl] at this;rw[show List.map cj [x |||y]=[cj (x |||y)] from aa,this];rfl
  refine VS.back (4-(z+1)) ae ⟨_,_,?_,?_,?_,?_,⟨z+1,ae,aa,aa,aa⟩⟩
  ·(refine⟨aa,aa,?_,aj⟩;rw[<-bM (i:=z) ae];rfl)
  ·exact⟨ai (λl=>some (iR,l)) key,aj⟩
  ·rfl
  ·exact CY
 refine VS.cd aa (bo ae) ?_;obtain rfl:z=4:=ae;refine bT ?_;refine VS.fin (cu _ _) aa (λwz β kz oz en=>⟨aa,oz.1,?_⟩);have h1:=Ja (en.own 42 _ _ aa) aa;rw[aA,du ae] at h1;exact h1
def jE (a b:Int):Value:=.agg #[.int .i64 a,.int .i64 b]
section
variable {P:Program} {kt e:TypeId} {w:World}
theorem zm (hg:∀ w,(isAgg e).run P w=.ok false w) (a b:Int) (w:World):(part e #[.int .i64 a,.int .i64 b] 0).run P w=.ok (.int .i64 a) w/\(part e #[.int .i64 a,.int .i64 b] 1).run P w=.ok (.int .i64 b) w:=by
 unfold part;constructor <;> simp[hg]
theorem JB (he:P.underlying e=some (.int .i64)) (n:Nat) (a b:Int) (w:World):(Op.equalIn (n+1) e (.int .i64 a) (.int .i64 b)).run P w=.ok (a == b) w:=by
 unfold Op.equalIn;simp[run_underlying he]
theorem Fy (hk:P.underlying kt=some (.array 2 e)) (he:P.underlying e=some (.int .i64)) (hs:∀ w,(sizeOf e).run P w=.ok 1 w) (hg:∀ w,(isAgg e).run P w=.ok false w) (a b c f:Int) (w:World):
  (Op.equal kt (jE a b) (jE c f)).run P w=.ok (a == c && b == f) w:=by
 have h1:=zm (P:=P) hg;have h2:=JB (P:=P) he 9998;show (Op.equalIn (9999+1) kt (jE a b) (jE c f)).run P w=_;unfold Op.equalIn;simp[run_underlying hk,jE,hs,Std.Legacy.Range.forIn_eq_forIn_range',List.range',(h1 _ _ _).1,(h1 _ _ _).2,h2];by_cases h:a=c
 ·subst h;by_cases h':b=f
  ·subst h';simp
  ·simp[h']
 ·simp[h]
theorem Dk (hk:P.underlying kt=some (.array 2 e)) (he:P.underlying e=some (.int .i64)) (hs:∀ w,(sizeOf e).run P w=.ok 1 w) (hg:∀ w,(isAgg e).run P w=.ok false w) (b:Bool) (a c:Int) (w:World):
  (Instr.checkKey b 10000 kt (jE a c)).run P w=.ok () w:=by
 have h1:=zm (P:=P) hg
 have h2:∀ (x:Int) (w:World),(Instr.checkKey b (9998+1) e (.int .i64 x)).run P w=.ok () w:=λx w=>by
  unfold Instr.checkKey;simp[run_underlying he]
 show (Instr.checkKey b (9999+1) kt (jE a c)).run P w=_;unfold Instr.checkKey;simp[run_underlying hk,jE,hs,Std.Legacy.Range.forIn_eq_forIn_range',List.range',(h1 _ _ _).1,(h1 _ _ _).2,h2]
end
section
variable {α:Type} [BEq α] [LawfulBEq α]
def eJ:List (α×Value)->α->Nat->Option (Nat×Value)
 | [],_,_=>none
 | (a,v)::r,k,i=>if k == a then some (i,v) else eJ r k (i+1)
structure xk (P:Program) (t kt et:TypeId) (κ:α->Value):Prop where
 under:P.underlying t=some (.map kt et)
 check:∀ (e:Bool) (k:α) (w:World),(Instr.checkKey e 10000 kt (κ k)).run P w=.ok () w
 same:∀ k:α,Instr.sameBits 10000 (κ k) (κ k)=true
 find:∀ (es:List MapEntry) (m:List (α×Value)) (k:α) (w:World),es.map (λe=>(e.key,e.val))=m.map (λp=>(κ p.1,p.2))->(Instr.findKey kt (κ k) es).run P w=.ok (eJ m k 0) w
def fw (κ:α->Value) (w:World) (rr:Nat) (m:List (α×Value)):Prop:=∃ es c,w.heap[rr]? =some (.map es c)/\es.toList.map (λe=>(e.key,e.val))=m.map (λp=>(κ p.1,p.2))
variable {m:List (α×Value)} {rr:Nat} {w w':World} {κ:α->Value}
theorem fw.kp {K:KC} (h:fw κ w rr m) (k:aY K w w'):fw κ w' rr m:=by
 obtain⟨es,c,h1,h2⟩:=h;exact⟨es,c,k.map _ _ _ h1,h2⟩
theorem fw.aD (h:fw κ w rr m) (k:ax w w'):fw κ w' rr m:=h.kp (K:=KU UU) (aY.of k)
theorem fw.new (κ:α->Value) (w:World):fw κ (w.alloc (.map #[] 0)) w.heap.size []:=⟨#[],0,World.alloc_heap_new w _,rfl⟩
theorem sf:∀ {m:List (α×Value)} {k:α} {i j:Nat} {v:Value},eJ m k i=some (j,v)->i<=j/\m[j-i]? =some (k,v)/\m.lookup k=some v
 | [],_,_,_,_,h=>by cases h
 | (a,u)::r,k,i,j,v,h=>by
   unfold eJ at h;by_cases e:(k == a)=true
   ·rw[if_pos e] at h;cases h;have:=eq_of_beq e;subst this;exact⟨aM _,by rw[iP];rfl,by simp[List.lookup]⟩
   ·rw[if_neg e] at h;obtain⟨h1,h2,h3⟩:=sf h;refine⟨ae,by rw[show j-i=(j-(i+1))+1 by omega];exact h2,?_⟩;rw[List.lookup,iL.2 e];exact h3
theorem qx:∀ {m:List (α×Value)} {k:α} {i:Nat},eJ m k i=none->m.lookup k=none
 | [],_,_,_=>rfl
 | (a,u)::r,k,i,h=>by
   unfold eJ at h;by_cases e:(k == a)=true
   ·rw[if_pos e] at h;cases h
   ·rw[if_neg e] at h;rw[List.lookup,iL.2 e];exact qx h
theorem zn (m:List (α×Value)) (k:α) (i:Nat):(eJ m k i).map (·.2)=m.lookup k:=by
 cases h:eJ m k i with
 | none=>rw[qx h];rfl
 | some p=>rw[(sf (j:=p.1) (v:=p.2) h).2.2];rfl
theorem JC (m:List (α×Value)) (k k':α) (v:Value) (h:m.lookup k=none):(m++[(k,v)]).lookup k'=if k' == k then some v else m.lookup k':=by
 induction m with
 | nil=>by_cases e:(k' == k)=true <;> simp[List.lookup,e]
 | cons p r ih=>
   rw[List.lookup] at h;by_cases q:(k == p.1)=true
   ·rw[q] at h;cases h
   ·rw[iL.2 q] at h;rw[pc,List.lookup,ih h,List.lookup];by_cases e:(k' == p.1)=true
    ·rw[e];have:(k' == k)=false:=iL.2 λe2=>q (by rw[<-eq_of_beq e2];exact e);rw[this];rfl
    ·rw[iL.2 e]
theorem MC:∀ (m:List (α×Value)) (k k':α) (v:Value) (i:Nat) (u:Value),eJ m k 0=some (i,u)->(m.set i (k,v)).lookup k'=if k' == k then some v else m.lookup k':=by
 have key:∀ (m:List (α×Value)) (k k':α) (v:Value) (i j:Nat) (u:Value),eJ m k j=some (i,u)->(m.set (i-j) (k,v)).lookup k'=if k' == k then some v else m.lookup k':=by
  intro m
  induction m with
  | nil=>intro k k' v i j u h;cases h
  | cons p r ih=>
    intro k k' v i j u h;obtain⟨a,x⟩:=p;unfold eJ at h;by_cases e:(k == a)=true
    ·rw[if_pos e] at h;cases h;have:=eq_of_beq e;subst this;rw[iP,Bd,List.lookup,List.lookup];by_cases q:(k' == k)=true
     ·rw[q];rfl
     ·rw[iL.2 q];rfl
    ·rw[if_neg e] at h;have hle:=(sf h).1;rw[show i-j=(i-(j+1))+1 by omega,List.set_cons_succ,List.lookup,ih k k' v i (j+1) u h,List.lookup];by_cases q:(k' == a)=true
     ·rw[q];have:(k' == k)=false:=iL.2 λe2=>e (by rw[<-eq_of_beq e2];exact q);rw[this];rfl
     ·rw[iL.2 q]
 intro m k k' v i u h;have:=key m k k' v i 0 u h
 rwa [pt] at this
section
variable {P:Program} {t kt et:TypeId} {κ:α->Value} {w:World} {rr:Nat} {m:List (α×Value)}
theorem xk.look (hK:xk P t kt et κ) (hm:fw κ w rr m) {z:Value} (hz:(zeroValue et).run P w=.ok z w) (k:α) (ok:Bool):(Instr.lookup t (.map (some rr)) (κ k) ok).run P w=.ok (wK z ok (eJ m k 0)) w:=by
 obtain⟨es,c,h1,h2⟩:=hm;have hc:=hK.check es.isEmpty k w;have hf:=hK.find es.toList m k w h2;cases Dl:eJ m k 0 with
 | none=>rw[Dl] at hf;cases ok <;> simp[Instr.lookup,run_underlying hK.under,MapKept.run_getObj_map h1,hc,hf,hz,Result.andThen,wK]
 | some p=>rw[Dl] at hf;cases ok <;> simp[Instr.lookup,run_underlying hK.under,MapKept.run_getObj_map h1,hc,hf,Result.andThen,wK]
theorem xk.upd (hK:xk P t kt et κ) (hm:fw κ w rr m) (k:α) (v:Value):∃ m' o,(Instr.mapUpdate t (.map (some rr)) (κ k) v).run P w=.ok () (dX w rr o)/\fw κ (dX w rr o) rr m'/\∀ k',m'.lookup k'=if k' == k then some v else m.lookup k':=by
 obtain⟨es,c,h1,h2⟩:=hm;have hlt:=(np.1 h1).1;have hc:=hK.check false k w;have hf:=hK.find es.toList m k w h2;cases Dl:eJ m k 0 with
 | none=>
   rw[Dl] at hf;refine⟨m++[(k,v)],.map (es.push ⟨κ k,v,c⟩) (c+1),?_,⟨_,_,Ah _ hlt,?_⟩,λk'=>JC m k k' v (qx Dl)⟩
   ·simp[Instr.mapUpdate,run_underlying hK.under,MapKept.run_getObj_map h1,hc,hf,Result.andThen,MapKept.run_setObj_map _ h1,dX]
   ·rw[Array.toList_push,cT,cT,h2];rfl
 | some p=>
   obtain⟨i,u⟩:=p;rw[Dl] at hf;obtain⟨_,h3,_⟩:=sf Dl;rw[pt] at h3;have h4:(es.toList.map λe=>(e.key,e.val))[i]? =some (κ k,u):=by rw[h2,iK,h3];rfl
   rw[iK] at h4;cases h5:es.toList[i]? with
   | none=>rw[h5] at h4;cases h4
   | some e0=>
     rw[h5] at h4;simp only[Option.map_some,Option.some.injEq,Prod.mk.injEq] at h4;have h6:es[i]? =some e0:=by rw[<-Gd];exact h5
     refine⟨m.set i (k,v),.map (es.modify i λe=>{ e with key:=κ k,val:=v }) c,?_,⟨_,_,Ah _ hlt,?_⟩,λk'=>MC m k k' v i u Dl⟩
     ·have hst:(Instr.keyThatStays e0.key (κ k)).run P w=.ok (κ k) w:=by
       unfold Instr.keyThatStays;rw[h4.1,if_pos (hK.same k)];rfl
      simp[Instr.mapUpdate,run_underlying hK.under,MapKept.run_getObj_map h1,hc,hf,Result.andThen,h6,hst,MapKept.run_setObj_map _ h1,dX]
     ·apply Be;intro j;have h7:=ai (λl=>l[j]?) h2;simp only[List.getElem?_map,Array.getElem?_toList,Array.getElem?_modify,List.getElem?_set] at h7 ⊢;by_cases e:i=j
      ·subst e;rw[if_pos rfl,if_pos rfl,if_pos (bx.1 h3).1,h6];rfl
      ·rw[if_neg e,if_neg e];exact h7
end
end
end
section
open Go.RowKit
def MD:Option Nat->Value->List (Nat×Value)->List (Nat×Value)
 | none,_,L=>L
 | some n,v,L=>(n,v)::L
def ME (C:Cx) (Q:Exit->Act->World->Prop) (k:List It) (full:Array Oper) (o:Oper) (F:Fr) (H:Hp) (w:World):Prop:=
 ∃ (d:jt) (D:World->Cx),stepOf C full F H o=.call d/\(∀ w,(D w).pd=C.pd)/\(∀ w,(D w).N=C.N)/\(∀ w,Cx.Old (D w) w)/\
   ∀ w1 β,aY C.K w w1->C.Old w1->Ends C β H w1->oV C.P d β w1 λe w2=>∃ v L,e=.returned v/\Dg F β L/\(∀ p∈L,o.dst≠some p.1)/\VS (D w2) Q k (Fr.vals (MD o.dst v L)) (λ_=>none) w2
section
variable {C:Cx} {Q:Exit->Act->World->Prop} {k:List It} {F:Fr} {H:Hp} {w w':World} {β:Nat->Nat} {a:Act} {full:Array Oper} {o:Oper} {Q':Exit->Act->World->Prop}
theorem Knows.put {N:Nat} {L:List (Nat×Value)} {ds:List Deferred} (h:Knows N L a ds) {dst:Option Nat} (v:Value) (hN:il N dst=true) (hL:∀ p∈L,dst≠some p.1):Knows N (MD dst v L) (a.put dst v) ds:=by
 cases dst with
 | none=>exact h
 | some d=>
   have hd:d<N:=by simpa [il,Nat.blt_eq] using hN
   have hsz:=h.size;refine⟨h.defers,by simp[Act.put];exact h.size,λp hp=> ?_⟩;rcases fj.1 hp with rfl|hp
   ·exact⟨hd,by simp[Act.put,hsz,hd]⟩
   ·refine⟨(h.tmp p hp).1,?_⟩;have hne:d≠p.1:=λe=>hL p hp (by rw[e]);have:=(h.tmp p hp).2;simp[Act.put,Array.getD_eq_getD_getElem?,Array.getElem?_setIfInBounds,hne] at this ⊢;exact this
theorem Dm (h:ME C Q k full o F H w) (hr:Rel C β F H a w') (hk:aY C.K w w') (K':Act->World->Prop) (hK:∀ a1 w1,post C.P Q k .normal a1 w1->K' a1 w1):
  if Region.wanted o (yielded full a.tmps)=true then Oper.wp C.P o a w' K' Q' else K' (a.put o.dst undef) w':=by
 obtain⟨d,D,e,hP,hN,hO,lT⟩:=h;have hb:stepOf C full F H o≠.bad:=λe'=>by rw[e] at e';cases e'
 obtain⟨fC,⟨hw,hs⟩|⟨hw,hs⟩⟩:=gO hb
 ·rw[hs] at e;cases e
 ·rw[kj hr hw,if_pos rfl];refine zZ hr (hs.symm.trans e) ((lT w' β hk hr.old ⟨hr.own,hr.apart⟩).mono ?_);rintro e w2 ⟨v,L,rfl,hL,hLd,MF⟩;refine⟨v,aa,hK _ _ ?_⟩;have tJ:=(hr.Av hL).put v fC hLd
  have Et:Knows (D w2).N (MD o.dst v L) (a.put o.dst v) (D w2).ds:=by
   rw[hN,show (D w2).ds=C.ds from ai Prod.snd (hP w2)];exact tJ
  have:=MF _ _ w2 (Et.rel (hO w2)) (aY.refl _ _);rw[show (D w2).P=C.P from ai Prod.fst (hP w2)] at this;exact this
theorem qy (hC:C.Ok) {m:Option (List FuncId)} {K:Fr->Hp->World->Prop} {tl:List Oper} (hQ:∀ β F H w a w',K F H w->Rel C β F H a w'->aY C.K w w'->wpList C.P full Q' tl a w'):
  ∀ (l:List Oper) (β:Nat->Nat) (F:Fr) (H:Hp) (w:World) (a:Act) (w':World),aq C m full l K F H w->Rel C β F H a w'->aY C.K w w'->wpList C.P full Q' (l++tl) a w'
 | [],β,F,H,w,a,w',h,hr,hk=>hQ β F H w a w' h hr hk
 | o::r,β,F,H,w,a,w',h,hr,hk=>by
   show wpList C.P full Q' (o::(r++tl)) a w';refine wpList_step λK' hK'=> ?_;exact jd hC (k:=aq C m full r K) h hr hk λbG F' H' w1 a' EG h1 h2 h3=>hK' _ _ (qy hC hQ r bG F' H' w1 a' EG h1 h2 h3)
variable {ops:Array Oper} {id:Nat} {o:Oper}
theorem VS.eb (hC:C.Ok) (j:Nat) (hj:ops.toList.drop j=[o]) (h:aq C none ops (ops.toList.take j) (ME C Q k ops o) F H w):VS C Q (.code (.region id ops false)::k) F H w:=λβ a w' hr hk=>by
 refine wp_region_list ?_;rw[<-oZ j ops.toList,hj];refine qy hC (tl:=[o]) (λβ F H w a w' h hr hk=> ?_) (ops.toList.take j) β F H w a w' h hr hk;exact wpList_step λK' hK'=>Dm h hr hk K' hK'
def MidD (C:Cx) (D:World->Cx) (Q:Exit->Act->World->Prop) (k:List It) (full:Array Oper) (o:Oper) (rest:List Oper) (F:Fr) (H:Hp) (w:World):Prop:=
 ∃ d:jt,stepOf C full F H o=.call d/\
   ∀ w1 β,aY C.K w w1->C.Old w1->Ends C β H w1->oV C.P d β w1 λe w2=>∃ v L,e=.returned v/\Dg F β L/\(∀ p∈L,o.dst≠some p.1)/\aq (D w2) none full rest (VS (D w2) Q k) (Fr.vals (MD o.dst v L)) (λ_=>none) w2
theorem VS.gS (hC:C.Ok) (D:World->Cx) (hP:∀ w,(D w).pd=C.pd) (hN:∀ w,(D w).N=C.N) (hO:∀ w,(D w).Old w) (hD:∀ w,(D w).Ok) (j:Nat) {rest:List Oper} (hj:ops.toList.drop j=o::rest) (h:aq C none ops (ops.toList.take j) (MidD C D Q k ops o rest) F H w):VS C Q (.code (.region id ops false)::k) F H w:=λβ a w' hr hk=>by
 refine wp_region_list ?_;rw[<-oZ j ops.toList,hj];refine qy hC (tl:=o::rest) (λβ F H w a w' h hr hk=> ?_) (ops.toList.take j) β F H w a w' h hr hk;refine wpList_step λK' hK'=> ?_;obtain⟨d,e,lT⟩:=h;have hb:stepOf C ops F H o≠.bad:=λe'=>by rw[e] at e';cases e'
 obtain⟨fC,⟨hw,hs⟩|⟨hw,hs⟩⟩:=gO hb
 ·rw[hs] at e;cases e
 ·rw[kj hr hw,if_pos rfl];refine zZ hr (hs.symm.trans e) ((lT w' β hk hr.old ⟨hr.own,hr.apart⟩).mono ?_);rintro e w2 ⟨v,L,rfl,hL,hLd,MF⟩;refine⟨v,aa,hK' _ _ ?_⟩;have tJ:=(hr.Av hL).put v fC hLd
  have Et:Knows (D w2).N (MD o.dst v L) (a.put o.dst v) (D w2).ds:=by
   rw[hN,show (D w2).ds=C.ds from ai Prod.snd (hP w2)];exact tJ
  have:=qg (full:=ops) (Q:=post C.P Q k) (hD w2) (m:=none) (K:=VS (D w2) Q k) (λβ F H w a w' h hr hk=>by
   have:=h β a w' hr hk;rw[show (D w2).P=C.P from ai Prod.fst (hP w2)] at this;exact this) rest _ _ _ _ _ _ MF (Et.rel (hO w2)) (aY.refl _ _)
  rw[show (D w2).P=C.P from ai Prod.fst (hP w2)] at this;exact this
def Az (su:TypeId->Bool) (l:List FuncId) (full:Array Oper) (z:Nat):Bool:=Nat.beq full.size (z+1) && ((List.range full.size).all λj=>(bu full j).all λd=>Nat.blt d j) && ((List.range z).all λj=>(List.range j).all λi=>gp su l full i j) && (List.range z).all λi=>reach full full.size z i
theorem Fz (hC:C.Ok) {ml:List FuncId} {z:Nat} (gB:Az C.SU ml full z=true) (ho:full[z]? =some o) {K:Fr->Hp->World->Prop}
  (hQ:∀ β F H w a w',K F H w->Rel C β F H a w'->aY C.K w w'->∀ K':Act->World->Prop,(∀ a1 w1,Q' .normal a1 w1->K' a1 w1)->if Region.wanted o (yielded full a.tmps)=true then Oper.wp C.P o a w' K' Q' else K' (a.put o.dst undef) w'):
  ∀ (fuel:Nat) (listed:Array Bool) (rem:List Nat) (β:Nat->Nat) (F:Fr) (H:Hp) (w:World) (a:Act) (w':World),listed.size=full.size->rem.Pairwise (·< ·)->(∀ x,x∈rem↔x<z/\listed.getD x true=false)->listed.getD z true=false->rem.length+1<=fuel->
    (∀ j,j<full.size->listed.getD j true=true->∀ d∈bu full j,listed.getD d false=true)->
    aq C (some ml) full (rem.filterMap (full[·]?)) K F H w->Rel C β F H a w'->aY C.K w w'->wpAny C.P .any full Q' fuel listed a w':=by
 unfold Az at gB;simp only[Bool.and_eq_true] at gB;obtain⟨⟨⟨hz,bS⟩,hp1⟩,sx⟩:=gB;have hsz0:full.size=z+1:=fT hz
 have fI:∀ j,j<full.size->∀ d∈bu full j,d<j:=λj hj d hd=>by
  have:=aW.1 bS j (iM.2 hj);exact cz (aW.1 this d hd)
 have Lt:∀ i j,i<j->j<z->gp C.SU ml full i j=true:=λi j hij hj=>by
  have:=aW.1 hp1 j (iM.2 hj);exact aW.1 this i (iM.2 hij)
 have hreach:∀ i,i<z->Proofs.YtphfjihmohoffaaGreat.reach full full.size z i=true:=λi hi=>aW.1 sx i (iM.2 hi)
 have Ho:∀ {listed:Array Bool} {d:Nat},d<listed.size->listed.getD d true=listed.getD d false:=λ{listed d} hd=>by
  rw[cA,cA,iI hd];rfl
 intro fuel
 induction fuel with
 | zero=>intro listed rem β F H w a w' hsz hpw nT hzl hlen;omega
 | succ fuel ih=>
   intro listed rem β F H w a w' hsz hpw nT hzl hlen eS h hr hk;constructor
   ·intro pL;exfalso;cases rem with
    | nil=>
      have:z∈Region.ready .any full listed:=mem_ready.2 ⟨ae,hzl,λd hd=>by
       have hdz:=fI z ae d hd;cases hl:listed.getD d true with
       | true=>rw[<-Ho ae];exact hl
       | false=>exact absurd ((nT d).2 ⟨hdz,hl⟩) bc⟩
      rw[pL] at this;cases this
    | cons i r=>
      have hi:=(nT i).1 bc
      have:i∈Region.ready .any full listed:=mem_ready.2 ⟨ae,hi.2,λd hd=>by
       have hdi:=fI i ae d hd;cases hl:listed.getD d true with
       | true=>rw[<-Ho ae];exact hl
       | false=>
         have hm:=(nT d).2 ⟨ae,hl⟩;rcases fj.1 hm with e|e
         ·omega
         ·have:=(ye.1 hpw).1 d e;omega⟩
      rw[pL] at this;cases this
   ·intro i hi;obtain⟨mW,Cz,GS⟩:=mem_ready.1 hi;by_cases hiz:i=z
    ·subst hiz
     have jr:rem=[]:=by
      rw[vn];intro x hx;obtain⟨Ai,AR⟩:=(nT x).1 hx;have:=ff fI eS hsz full.size i mW GS (hreach x Ai);rw[<-Ho ae,AR] at this;cases this
     subst jr
     have:=hQ β F H w a w' h hr hk (wpAny C.P .any full Q' fuel (listed.setIfInBounds i true)) (λa1 w1 hq=>by
      have hno:Region.ready .any full (listed.setIfInBounds i true)=[]:=by
       rw[vn];intro x hx;obtain⟨Ai,AR,_⟩:=mem_ready.1 hx;rw[cA,nk] at AR;by_cases e:i=x
       ·rw[if_pos e,if_pos ae] at AR;cases AR
       ·rw[if_neg e,<-cA] at AR;have hm:x∈([]:List Nat):=(nT x).2 ⟨ae,AR⟩;cases hm
      cases fuel with
      | zero=>exact⟨hno,hq⟩
      | succ f=>exact⟨λ_=>hq,λx hx=>by rw[hno] at hx;cases hx⟩)
     unfold wpOp;rw[ho];simp only
     split
     ·rename_i hw;rw[if_pos hw] at this;exact .inl this
     ·rename_i hw;rw[if_neg hw] at this;exact this
    ·obtain⟨pre,post,rfl⟩:=vx ((nT i).2 ⟨ae,Cz⟩);have hoi:=iI mW;generalize full[i]=oi at hoi;have Gv:=Gf.1 hpw;have hlt:∀ p∈pre,p<i:=λp hp=>Gv.2.2 p hp i bc;have Lb:∀ p∈post,i<p:=(ye.1 Gv.2.1).1
     have hb:aq C (some ml) full (oi::(pre.filterMap (full[·]?)++post.filterMap (full[·]?))) K F H w:=by
      refine Ab hC _ F H w (λq hq=> ?_) (Live.of hr hk) (by
       rw[vp,FY hoi] at h;exact h)
      obtain⟨p,hp,hpq⟩:=Gj.1 hq;have zO:=((nT p).1 (by simp[hp])).2;have hpi:=hlt p hp;have:=Lt p i hpi ae;unfold gp at this;rw[hpq,hoi] at this;simp only[Bool.or_eq_true] at this;have hno:listed.getD p false=false:=by rw[<-Ho ae];exact zO
      rcases this with e|e
      ·exact e
      ·have:=ff fI eS hsz full.size i mW GS e;rw[hno] at this;cases this
     have wG:one C (some ml) full oi (aq C (some ml) full ((pre++post).filterMap (full[·]?)) K) F H w:=by
      rw[vp];exact hb
     have:=jd (Q:=Q') (next:=wpAny C.P .any full Q' fuel (listed.setIfInBounds i true)) hC wG hr hk λbG F' H' w1 a' EG h1 h2 h3=>by
      refine ih (listed.setIfInBounds i true) (pre++post) bG F' H' w1 a' EG (by simp[hsz]) ?_ ?_ ?_ ?_ ?_ h1 h2 h3
      ·exact Gf.2 ⟨Gv.1,(ye.1 Gv.2.1).2,λx hx y hy=>Gv.2.2 x hx y (by simp[hy])⟩
      ·intro x;by_cases hx:x=i
       ·subst hx;constructor
        ·intro hm;rcases fU.1 hm with e|e
         ·exact absurd (hlt _ e) ae
         ·exact absurd (Lb _ e) ae
        ·rintro⟨_,e⟩;simp[Array.getD_eq_getD_getElem?,Array.getElem?_setIfInBounds,hsz,mW] at e
       ·have e1:(listed.setIfInBounds i true).getD x true=listed.getD x true:=by
         rw[cA,nk,if_neg (λe=>hx e.symm),<-cA]
        rw[e1,<-nT x];simp[hx]
      ·rw[cA,nk,if_neg hiz,<-cA];exact hzl
      ·have:(pre++i::post).length=(pre++post).length+1:=by simp;omega
       omega
      ·intro j hj hl d hd
       have pT:listed.getD d false=true->(listed.setIfInBounds i true).getD d false=true:=λe=>by
        by_cases hx:d=i
        ·subst hx;simp[Array.getD_eq_getD_getElem?,Array.getElem?_setIfInBounds,hsz,mW]
        ·rw[cA,nk,if_neg (λe=>hx e.symm),<-cA];exact e
       by_cases hx:j=i
       ·subst hx;exact pT (GS d hd)
       ·refine pT (eS j hj ?_ d hd)
        rwa [cA,nk,if_neg (λe=>hx e.symm),<-cA] at hl
     unfold wpOp;rw[hoi];simp only
     split
     ·rename_i hw;rw[if_pos hw] at this;exact .inl this
     ·rename_i hw;rw[if_neg hw] at this;exact this
theorem xl:∀ z:Nat,(List.range z).filterMap (full[·]?)=full.toList.take z
 | 0=>rfl
 | z+1=>by
   rw[List.range_succ,vp,xl z,List.take_add_one]
   congr 1
   rw[Gd];cases h:full[z]? <;> simp[h]
theorem VS.MG (hC:C.Ok) (hm:C.P.follows .mixedOrders=true) (ml:List FuncId) (z:Nat) (ho:ops[z]? =some o) (gB:Az C.SU ml ops z=true) (h:aq C (some ml) ops (ops.toList.take z) (ME C Q k ops o) F H w):VS C Q (.code (.region id ops true)::k) F H w:=λβ a w' hr hk=>by
 have hsz:ops.size=z+1:=by
  unfold Az at gB;simp only[Bool.and_eq_true] at gB;exact fT gB.1.1.1
 refine wp_region_any hm ?_;refine Fz (Q':=post C.P Q k) hC gB ho (λβ F H w a w' h hr hk K' hK'=>Dm h hr hk K' hK') ops.size (Array.replicate ops.size false) (List.range z) β F H w a w'.drew bc List.pairwise_lt_range ?_ ?_ (by simp;omega) ?_ ?_ hr.drew hk.drew
 ·intro x;rw[iM];constructor
  ·intro hx;refine⟨hx,?_⟩;simp[Array.getD_eq_getD_getElem?,Array.getElem?_replicate,show x<ops.size by omega]
  ·exact λh=>h.1
 ·simp[Array.getD_eq_getD_getElem?,Array.getElem?_replicate,show z<ops.size by omega]
 ·intro j hj hl;simp[Array.getD_eq_getD_getElem?,Array.getElem?_replicate,hj] at hl
 ·have:(List.range z).filterMap (ops[·]?)=ops.toList.take z:=xl z;rw[this];exact h
end
variable {C:Cx} {F:Fr} {H:Hp} {w:World}
theorem VS.hopL {Q:Exit->Act->World->Prop} {P:Fr->Hp->World->Prop} {MH MI:List It} (h1:(∀ F' H' w',P F' H' w'->VS C Q MI F' H' w')->VS C Q MH F H w) (h2:∀ F' H' w',P F' H' w'->VS C Q MI F' H' w'):VS C Q MH F H w:=h1 h2
variable {full:Array Oper} {K':Fr->Hp->World->Prop} {ml:List FuncId} {oo:Oper}
theorem VA.op (h:aq C (some ml) full [oo] K' F H w):one C (some ml) full oo K' F H w:=h
theorem VA.dt {v:AV} {u:Option (Nat×(TypeId×List AV))} (e:stepOf C full F H oo=.dw v u) (h:K' (F.bm oo.dst v) (H.upd u) w):one C (some ml) full oo K' F H w:=by
 unfold one;rw[e];exact h
variable {P:Program} {t kt et:TypeId}
theorem MJ (hu:P.underlying t=some (.map kt et)) (hk:P.underlying kt=some (.int .i64)):xk P t kt et (λa:Int=>Value.int .i64 a) where
 under:=hu
 check:=λe k w=>MapKept.run_checkKey hk (by rfl) e 9999
 same:=λk=>by simp[Instr.sameBits]
 find:=λes m k w h=>by
  have key:∀ (es:List MapEntry) (m:List (Int×Value)) (i:Nat),es.map (λe=>(e.key,e.val))=m.map (λp=>(Value.int .i64 p.1,p.2))->Instr.findNow (.int .i64) (.int .i64 k) es i=some (eJ m k i):=by
   intro es
   induction es with
   | nil=>
     intro m i h;cases m with
     | nil=>rfl
     | cons p r=>cases h
   | cons e r ih=>
     intro m i h;cases m with
     | nil=>cases h
     | cons p q=>
       obtain⟨a,v⟩:=p;rw[fV,fV,List.cons.injEq,Prod.mk.injEq] at h;obtain⟨⟨h1,h2⟩,h3⟩:=h;unfold Instr.findNow eJ;rw[h1];simp only[Instr.sameNow,if_true];by_cases hka:(k == a)=true
       ·rw[hka,if_pos rfl,h2]
       ·rw[iL.2 hka,if_neg bc];exact ih q (i+1) h3
  exact MapKept.run_findKey hk (key es m 0 |> λf=>f h)
theorem JD {e:TypeId} (hu:P.underlying t=some (.map kt et)) (hk:P.underlying kt=some (.array 2 e)) (he:P.underlying e=some (.int .i64)) (hs:∀ w,(sizeOf e).run P w=.ok 1 w) (hg:∀ w,(isAgg e).run P w=.ok false w):xk P t kt et (λp:Int×Int=>jE p.1 p.2) where
 under:=hu
 check:=λb k w=>Dk hk he hs hg b k.1 k.2 w
 same:=λk=>by simp[Instr.sameBits,jE]
 find:=λes m k w h=>by
  have ask:∀ (es:List MapEntry) (m:List ((Int×Int)×Value)) (i:Nat),es.map (λe=>(e.key,e.val))=m.map (λp=>(jE p.1.1 p.1.2,p.2))->(Instr.findAsking kt (jE k.1 k.2) es i).run P w=.ok (eJ m k i) w:=by
   intro es
   induction es with
   | nil=>
     intro m i h;cases m with
     | nil=>rfl
     | cons p r=>cases h
   | cons e r ih=>
     intro m i h;cases m with
     | nil=>cases h
     | cons p q=>
       obtain⟨⟨a,b⟩,v⟩:=p;rw[fV,fV,List.cons.injEq,Prod.mk.injEq] at h;obtain⟨⟨h1,h2⟩,h3⟩:=h;unfold Instr.findAsking eJ;rw[h1];simp only[Sem.run_bind,Fy hk he hs hg,Result.andThen_ok];have hb:(k == (a,b))=(k.1 == a && k.2 == b):=aa;by_cases hka:(k.1 == a && k.2 == b)=true
       ·rw[hka,if_pos rfl,hb,hka,if_pos rfl,h2];rfl
       ·rw[iL.2 hka,hb,iL.2 hka,if_neg bc,if_neg bc];exact ih q (i+1) h3
  have hnow:Instr.findNow (.array 2 e) (jE k.1 k.2) es 0=none\/(es=[]/\Instr.findNow (.array 2 e) (jE k.1 k.2) es 0=some none):=by
   cases es with
   | nil=>exact .inr ⟨aa,aa⟩
   | cons x r=>exact .inl (by unfold Instr.findNow;rfl)
  unfold Instr.findKey;rcases hnow with e1|⟨rfl,e1⟩
  ·simp only[Sem.run_bind,run_underlying hk,Result.andThen_ok,e1];exact ask es m 0 h
  ·simp only[Sem.run_bind,run_underlying hk,Result.andThen_ok,e1];cases m with
   | nil=>rfl
   | cons p r=>cases h
variable {rr:Nat}
theorem ax.dX {w0:World} (h:ax w0 w) (hr:w0.heap.size<=rr) (o:Obj):ax w0 (dX w rr o):=
 ⟨h.os,h.tape,h.output,by rw[yY];exact h.size,λg hg=>by rw[oJ o ae];exact jk h g hg⟩
theorem aI.dX {κ:Type} {f:κ->Value} [BEq κ] [LawfulBEq κ] {b:Nat} {cs:Array Value} {m:List (κ×Value)} (h:aI w b t cs) (hm:fw f w rr m) (o:Obj):aI (dX w rr o) b t cs:=by
 obtain⟨es,c,h1,_⟩:=hm
 have hne:b≠rr:=λe=>by
  subst e;have:=(show w.heap[b]? =_ from h).symm.trans h1;cases this
 exact (oJ o hne).trans h
section
variable {α:Type} [BEq α] [LawfulBEq α] {κ:α->Value} {C:Cx} {F:Fr} {H:Hp} {w:World} {m:Option (List FuncId)} {full:Array Oper} {K:Fr->Hp->World->Prop} {o:Oper} {r:List Oper} {t kt et:TypeId} {rr:Nat} {l:List (α×Value)} {k:α} {z v:Value}
theorem VO.lookM {x y:Operand} (e:stepOf C full F H o=.call (.op o [.val (.map (some rr)),.val (κ k)])) (ho:o.op=.lookup t x y false) (hK:xk C.P t kt et κ) (hz:∀ w,(zeroValue et).run C.P w=.ok z w)
  (hm:∀ w1,aY C.K w w1->C.Old w1->fw κ w1 rr l) (h:∀ w2,aY C.K w w2->C.Old w2->aq C m full r K (F.bm o.dst (.val ((l.lookup k).getD z))) H w2):aq C m full (o::r) K F H w:=
 VO.uc e λw1 β h1 h2 _=>⟨_,w1,λρ dH=>.inl (by
   rw[ho] at dH;simp[Op.operands] at dH;obtain⟨q1,q2⟩:=dH;unfold execOp;simp only[ho,q1,q2,AV.aN];simp only[hK.look (hm w1 h1 h2) (hz w1) k false,Sem.run_bind,Result.andThen_ok,Sem.run_pure]),wK z false (eJ l k 0),rfl,ax.refl _,λa1 _ a3=>by
   have:wK z false (eJ l k 0)=(l.lookup k).getD z:=by
    rw[<-zn l k 0];cases eJ l k 0 <;> rfl
   rw[this];exact h w1 a1 a3⟩
theorem VO.lookB {x y:Operand} (e:stepOf C full F H o=.call (.op o [.val (.map (some rr)),.val (κ k)])) (ho:o.op=.lookup t x y true) (hK:xk C.P t kt et κ) (hz:∀ w,(zeroValue et).run C.P w=.ok z w)
  (hm:∀ w1,aY C.K w w1->C.Old w1->fw κ w1 rr l) (h:∀ w2,aY C.K w w2->C.Old w2->aq C m full r K (F.bm o.dst (.val (.tuple #[(l.lookup k).getD z,.bool (l.lookup k).isSome]))) H w2):aq C m full (o::r) K F H w:=
 VO.uc e λw1 β h1 h2 _=>⟨_,w1,λρ dH=>.inl (by
   rw[ho] at dH;simp[Op.operands] at dH;obtain⟨q1,q2⟩:=dH;unfold execOp;simp only[ho,q1,q2,AV.aN];simp only[hK.look (hm w1 h1 h2) (hz w1) k true,Sem.run_bind,Result.andThen_ok,Sem.run_pure]),wK z true (eJ l k 0),rfl,ax.refl _,λa1 _ a3=>by
   have:wK z true (eJ l k 0)=.tuple #[(l.lookup k).getD z,.bool (l.lookup k).isSome]:=by
    rw[<-zn l k 0];cases eJ l k 0 <;> rfl
   rw[this];exact h w1 a1 a3⟩
theorem VO.mkMap (κ:α->Value) (e:stepOf C full F H o=.call (.op o [])) (ho:o.op=.makeMap t none)
  (h:∀ w2 rr,aY C.K w w2->C.Old w2->C.w0.heap.size<=rr->fw κ w2 rr []->aq C m full r K (F.bm o.dst (.val (.map (some rr)))) H w2):aq C m full (o::r) K F H w:=
 VO.uc e λw1 β h1 h2 _=>⟨.map (some w1.heap.size),w1.alloc (.map #[] 0),λρ dH=>.inl (by
   unfold execOp;simp only[ho];rfl),_,rfl,(ax.refl w1).alloc _,λa1 _ a3=>h _ w1.heap.size a1 a3 (C.kf _ h2) (fw.new κ w1)⟩
theorem Dn {P:Program} {β:Nat->Nat} {R:Ending->World->Prop} {x y z:Operand} (ho:o.op=.mapUpdate t x y z) (hK:xk P t kt et κ) (hm:fw κ w rr l)
  (h:∀ l' o',fw κ (dX w rr o') rr l'->(∀ k',l'.lookup k'=if k' == k then some v else l.lookup k')->R (.returned undef) (dX w rr o')):oV P (.op o [.val (.map (some rr)),.val (κ k),.val v]) β w R:=by
 obtain⟨l',o',h1,h2,h3⟩:=hK.upd hm k v;refine⟨undef,dX w rr o',λρ dH=>.inr ⟨?_,aa⟩,h l' o' h2 h3⟩;rw[ho] at dH;simp[Op.operands] at dH;obtain⟨q1,q2,q3⟩:=dH;unfold execOp;simp only[ho,q1,q2,q3,AV.aN,Sem.run_bind,h1,Result.andThen_ok,Sem.run_pure]
end
structure iB where
 fr:Int
 tt:Int
 r:Rw
def iB.ed (e:iB):Gr.Ed:=⟨e.fr,e.tt,Da e.r.s e.r.xs e.r.t e.r.ys,e.r.q⟩
def mF (kk:Nat) (w:World) (cs:List Value) (e:iB):Prop:=∃ s p n c t y m d,cs=[.int .i64 e.fr,.int .i64 e.tt,.bool s,.slice p n c,.bool t,.slice y m d]/\Aw kk w [.bool s,.slice p n c,.bool t,.slice y m d] e.r
variable {e:iB} {cs:List Value} {kk:Nat} {w w':World}
theorem mF.kp {U:TypeId} {T:TypeId->Bool} (h:mF kk w cs e) (k:aY ⟨U,λ_=>True,T⟩ w w'):mF kk w' cs e:=by
 obtain⟨s,p,n,c,t,y,m,d,h1,h2⟩:=h;exact⟨_,_,_,_,_,_,_,_,h1,h2.kp k⟩
theorem mF.el (kk:Nat):mC (mF kk) 6 where
 kp:=λh k=>h.kp k
 len:=λh=>by
  obtain⟨s,p,n,c,t,y,m,d,rfl,_⟩:=h;rfl
 ok:=λh=>by
  obtain⟨s,p,n,c,t,y,m,d,rfl,_⟩:=h;rfl
def gE (kk:Nat) (w:World) (v:Value) (N:Int) (es:List iB):Prop:=∃ p c,v=.agg #[.int .i64 N,.slice p es.length c]/\iE (mF kk) 6 w (.slice p es.length c) es
variable {es:List iB}
theorem gE.aD {v:Value} {N:Int} (h:gE kk w v N es) (hb:ax w w'):gE kk w' v N es:=by
 obtain⟨p,c,h1,h2⟩:=h;exact⟨p,c,h1,h2.aD (mF.el kk) hb⟩
def aX (es:List iB):List Gr.Ed:=es.map iB.ed
variable {i:Nat}
theorem eX (h:es[i]? =some e):(aX es)[i]? =some e.ed:=by unfold aX;rw[iK,h];rfl
theorem dy (es:List iB):(aX es).length=es.length:=cJ _
theorem qz (es:List iB) (i:Nat):aX (es.take i)=(aX es).take i:=List.map_take
variable {b:Nat}
theorem jF {t:TypeId} (h:aI w b t cs.toArray):∀ (j:Nat) (u:Value),cs[j]? =some u->w.cell? ((⟨b,0,none⟩:Addr).add j)=some u:=λj u hj=>by
 rw[Addr.add_mid,cC];exact h.cell (by simpa using hj)
theorem gRn {P:Prop} (h:P:=by grind):P:=h
theorem MK {q:Rat} (h:0<q):oY q 0=1:=by
 unfold oY;rw[if_neg gRn,if_neg gRn]
theorem JE {q:Rat} (h:¬ 0<q):oY q 0<=0:=by
 unfold oY
 split
 ·omega
 ·rw[if_pos gRn];omega
variable {r:Rat}
theorem Hq {q:Rat} (h:q<=r):¬ oY q r>0:=by
 unfold oY
 split
 ·omega
 ·rw[if_pos gRn];omega
theorem Ht {q:Rat} (h:¬ q<=r):oY q r=1:=by
 unfold oY;rw[if_neg gRn,if_neg gRn]
theorem dk {off sz:Nat} (hc:∀ (j:Nat) (u:Value),cs[j]? =some u->w.cell? ⟨b,off+i*sz+j,none⟩=some u) (k:Nat) (ds:List Value) (hd:ds <+:cs.drop k):∀ (j:Nat) (u:Value),ds[j]? =some u->w.cell? ((⟨b,off+((i:Nat):Int).toNat*sz+k,none⟩:Addr).add j)=some u:=by
 intro j u hj;obtain⟨t,ht⟩:=hd;rw[Addr.add_mid,aQ,vA];refine hc _ _ ?_
 have:(cs.drop k)[j]? =some u:=by
  rw[<-ht,kZ (bx.1 hj).1];exact hj
 rwa [tB] at this
end
end Go.Proofs.YtphfjihmohoffaaGreat
