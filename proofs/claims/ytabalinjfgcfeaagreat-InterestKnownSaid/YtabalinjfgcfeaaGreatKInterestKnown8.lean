/-Gb of the proof,laid behind one another. -/
import Derived.Test.YtabalinjfgcfeaaGreatKInterestKnown7
set_option linter.all false
set_option maxHeartbeats 64000000
set_option maxRecDepth 4000
namespace Go.Proofs.YtabalinjfgcfeaaGreat
open Go.RowKit
attribute [local irreducible] aG VS
abbrev hYs:List (Rat×Rat):=List.replicate 40 (Rat.divInt 100 1,Rat.divInt 0 1)
abbrev hY:RR×RR:=(gX (Rat.divInt 100 1),gX (Rat.divInt 0 1))
set_option maxRecDepth 4000 in
theorem TW (w:World):Calls Tryz.prog 34 #[] w λo w'=>o=.returned (.bool true)/\aU w w':=by
 have hsS:fI CL 2:=sq bq bq bq bq;have hsF:fI zW 2:=sq bq bq bq bq;have ND:Lm 3 CL:=by unfold Lm;decide+kernel
 have NF:Lm 3 zW:=by unfold Lm;decide+kernel
 refine ah (C:=cH Tryz.prog w _) (args:=[]) Tryz.func34 aa Tryz.ntmps34 (bM aa) ?_;refine ae ?_
 refine VS.loop (J:=λm L M w'=>∃ z:Nat,z<=40/\m=40-z/\
  ((z=0/\L=[(0,.val (.bool false)),(1,.val (.slice none 0 0)),(2,.val (.int .i64 (z:Int)))]/\M=[])\/
   (0<z/\∃ vs sp cap,L=[(0,.val (.bool false)),(1,.row 15 0 z cap),(2,.val (.int .i64 (z:Int)))]/\M=[(15,(51,vs.flatten.map .val++sp))]/\jq (pW 2) 8 w' z cap vs sp (List.replicate z hY)))) 40 ⟨_,_,?_,?_,?_,?_,⟨0,ab,rfl,.inl ⟨rfl,rfl,rfl⟩⟩⟩ ?_
 ·exact cA
 ·exact cA
 ·rfl
 ·exact gn
 rintro m L M wJ ⟨z,hz,rfl,⟨rfl,rfl,rfl⟩|⟨pX,vs,sp,cap,rfl,rfl,xE⟩⟩
 ·refine ae ?_;refine VO.call aa aa (fk pR) (λbn cG bo=>(eX 100 0 bn ab ab ab ab).mono ?_);rintro e w1 ⟨r1,rfl,⟨s1,p1,n1,c1,t1,y1,m1,d1,e1,f1,g1,h1,i1,j1,k1,l1,rfl,q1⟩,bA⟩
  skip
  refine bZ bA ?_;intro eF _ bb1;refine VO.DI (dD _ _) (bg 2) (t:=29) (e:=51) (s:=14) (a:=hY) (cs:=[.bool s1,.slice p1 n1 c1,.bool t1,.slice y1 m1 d1,.bool e1,.slice f1 g1 h1,.bool i1,.slice j1 k1 l1]) aa aa aa aa aa aa aa aa (bM aa) aa aa aa ((bg 2).kp q1 bm) ab (λw8 cap sp k8 b8 Et=>wV aa ?_);refine ae ?_;refine VS.back (40-(0+1)) ab ⟨_,_,?_,?_,?_,?_,⟨1,ab,aa,.inr ⟨ab,_,sp,cap,aa,aa,Et⟩⟩⟩
  ·refine⟨aa,aa,?_,ag⟩;rfl
  ·exact⟨aa,ag⟩
  ·rfl
  ·exact⟨Et.lp,ag⟩
 ·refine ae ?_;by_cases hlt:z<40
  ·refine VS.aV aa (aE ab) ?_;refine ae ?_;refine VO.call aa aa (fk pR) (λbn cG bo=>(eX 100 0 bn ab ab ab ab).mono ?_);rintro e w1 ⟨r1,rfl,⟨s1,p1,n1,c1,t1,y1,m1,d1,e1,f1,g1,h1,i1,j1,k1,l1,rfl,q1⟩,bA⟩
   skip
   refine bZ bA ?_;intro eF _ bb1;refine VO.ss (dD _ _) (bg 2) (t:=29) (e:=51) (s:=14) (i:=15) (n:=z) (c:=cap) (vs:=vs) (sp:=sp) (es:=List.replicate z hY) (a:=hY) (cs:=[.bool s1,.slice p1 n1 c1,.bool t1,.slice y1 m1 d1,.bool e1,.slice f1 g1 h1,.bool i1,.slice j1 k1 l1]) aa aa aa aa aa aa aa aa (bM aa) aa (.inr aa) aa (xE.kp (bg 2) bm) aa ((bg 2).kp q1 bm) ab (λw8 jr qy ρ k8 b8 iI Et=>wV aa ?_);refine ae ?_;refine VS.back (40-(z+1)) ab ⟨_,_,?_,?_,?_,?_,⟨z+1,ab,aa,.inr ⟨ab,_,qy,jr,aa,aa,by rw[List.replicate_succ'];exact Et⟩⟩⟩
   ·refine⟨aa,aa,?_,ag⟩;rw[<-aD (i:=z) ab];rfl
   ·exact⟨aa,ag⟩
   ·rfl
   ·exact⟨Et.lp,ag⟩
  ·refine VS.aP aa (aA ab) ?_;obtain rfl:z=40:=ab;refine ae ?_;refine VO.call aa aa (fk Ai) (λcz dB cT=>(gG cz).mono ?_);rintro e w2 ⟨r2,rfl,q2,cC⟩;obtain⟨aS,cS,bS,dS,aF,cF,bF,dF,rfl,hS1,hF1⟩:=q2;refine bZ cC ?_;intro fe _ bb2
   have hL3:∀ e∈hYs,Lm 3 e.1/\Lm 3 e.2:=by
    intro e he;obtain rfl:=(List.mem_replicate.1 he).2;exact⟨by unfold Lm;decide+kernel,by unfold Lm;decide+kernel⟩
   have hmap:hYs.map (λe=>(gX e.1,gX e.2))=List.replicate 40 hY:=List.map_replicate;obtain⟨x,hx⟩:∃ x,pH CL zW 40 hYs=x:=⟨_,aa⟩;have ib:x.1.length=40:=by rw[<-hx,(yd CL zW 40 hYs).Rx];exact Ud
   have hR:∀ w',Kp UU w2 w'->fY w' (.agg #[.bool (gX CL).1,.slice aS (gX CL).2.1.length cS,.bool (gX CL).2.2.1,.slice bS (gX CL).2.2.2.length dS,.bool (gX zW).1,.slice aF (gX zW).2.1.length cF,.bool (gX zW).2.2.1,.slice bF (gX zW).2.2.2.length dF,.int .i64 40]) (gX CL) (gX zW) ((40:Nat):Int):=λw' k=>⟨_,_,_,_,_,_,_,_,aa,hS1.kp k,hF1.kp k⟩;refine VO.eB aa (fk kW) (λeP β fA ft ho=>(BB _ _ CL zW 40 40 hYs eP (hR eP bm) (hmap▸(xE.kp (bg 2) bm).sl' (bg 2) (ho.own 15 (.base (aJ.2 aa)) _ _ aa) (Kp.refl _ _)) hsS hsF (by decide+kernel) (by decide+kernel) bq bq bq ND NF hL3 x hx).mono ?_);rintro e w3 ⟨r3,u3,rfl,l3,dZ⟩;obtain⟨pr3,cr3,pu3,cu3,rfl,rfl⟩:=l3.form;refine⟨_,aa,dZ,λjm _ bb3=>wV aa ?_⟩;rw[ib]
   (repeat (first|refine wN ?_|refine wP aa ?_|refine wO aa aa ?_))
   have RT:fw (gX CL) (gX zW) ((40:Nat):Int)=true:=VC (by decide+kernel) (by decide+kernel) ab ab
   have hyr:(List.replicate 40 hY++[hY]).all iV=true:=bR.2 λe he=>by
    obtain rfl:e=hY:=by
     rcases gg.1 he with h|h
     ·exact (List.mem_replicate.1 h).2
     ·exact aJ.1 h
    show ((gX _).ok && (gX _).ok)=true;rw[CK,CK];rfl
   obtain⟨CE,sX,vL,Gx,hcell⟩:=xE.cell (bg 2) (i:=0) (a:=hY) aa;have hEr':=vL;obtain⟨_,_,rfl,⟨ap,ac,ar,ad,rfl,ha⟩,⟨bp,bc,br,bd,rfl,hb⟩,⟨f1,f2⟩,⟨f3,f4⟩⟩:=hEr';refine VS.drawT (dD _ _) (AZ _ _) [] [0,11] [1,2,3,4,5] [7,8,9,10,12,13] 6 (by kernel_rfl) (λT=> ?_) (λT=> ?_)
   ·rw[Re rfl];cases T 0 <;> cases T 11 <;> kernel_rfl
   rw[Re rfl];generalize T 0=tx;generalize T 11=ty;cases tx <;> cases ty
   ·refine wV aa ?_;refine ae ?_;refine VO.cond aa dQ ?_;refine wV aa ?_;refine ae ?_;refine VO.dY aa (([.bool hY.1.1,.slice ap hY.1.2.1.length ac,.bool hY.1.2.2.1,.slice ar hY.1.2.2.2.length ad,.bool hY.2.1,.slice bp hY.2.2.1.length bc,.bool hY.2.2.2.1,.slice br hY.2.2.2.2.length bd]:List Value).map .val) aa (hcell 0 _ ⟨[],aa⟩) (wV aa ?_);refine ae ?_;refine VO.ss (dD _ _) (bg 2) (t:=29) (e:=51) (s:=30) (i:=15) (n:=40) (c:=cap) (vs:=vs) (sp:=sp) (es:=List.replicate 40 hY) (a:=hY) (cs:=[.bool hY.1.1,.slice ap hY.1.2.1.length ac,.bool hY.1.2.2.1,.slice ar hY.1.2.2.2.length ad,.bool hY.2.1,.slice bp hY.2.2.1.length bc,.bool hY.2.2.2.1,.slice br hY.2.2.2.2.length bd]) aa aa aa aa aa aa aa aa (bM aa) aa (.inl aa) aa (xE.kp (bg 2) bm) aa ((bg 2).kp vL bm) ab (λw8 jr qy ρ k8 b8 iI Et=>wV aa ?_);refine ae ?_;refine VO.eB aa (fk kW) (λfW β iJ iB ho=>(tZ _ _ (gX CL) (gX zW) ((40:Nat):Int) (List.replicate 40 hY++[hY]) 2 fW (hR fW bm) (gY hsS) (gY hsF) ((Et.kp (bg 2) bm).sl' (bg 2) (ho.own 31 (.base (aJ.2 aa)) _ _ aa) (Kp.refl _ _)) ab bN RT hyr bN).mono ?_);rintro e w4 ⟨rfl,ic⟩;refine bZ ic ?_;intro mB _ tI;refine bl ?_;intro wz kz bz;exact⟨aa,bz⟩
   ·refine wV aa ?_;refine ae ?_;refine VO.cond aa dQ ?_;refine wV aa ?_;refine ae ?_;refine VO.dY aa (([.bool hY.1.1,.slice ap hY.1.2.1.length ac,.bool hY.1.2.2.1,.slice ar hY.1.2.2.2.length ad,.bool hY.2.1,.slice bp hY.2.2.1.length bc,.bool hY.2.2.2.1,.slice br hY.2.2.2.2.length bd]:List Value).map .val) aa (hcell 0 _ ⟨[],aa⟩) (wV aa ?_);refine ae ?_;refine VO.ss (dD _ _) (bg 2) (t:=29) (e:=51) (s:=30) (i:=15) (n:=40) (c:=cap) (vs:=vs) (sp:=sp) (es:=List.replicate 40 hY) (a:=hY) (cs:=[.bool hY.1.1,.slice ap hY.1.2.1.length ac,.bool hY.1.2.2.1,.slice ar hY.1.2.2.2.length ad,.bool hY.2.1,.slice bp hY.2.2.1.length bc,.bool hY.2.2.2.1,.slice br hY.2.2.2.2.length bd]) aa aa aa aa aa aa aa aa (bM aa) aa (.inl aa) aa (xE.kp (bg 2) bm) aa ((bg 2).kp vL bm) ab (λw8 jr qy ρ k8 b8 iI Et=>wV aa ?_);refine ae ?_;refine VO.eB aa (fk kW) (λfW β iJ iB ho=>(tZ _ _ (gX CL) (gX zW) ((40:Nat):Int) (List.replicate 40 hY++[hY]) 2 fW (hR fW bm) (gY hsS) (gY hsF) ((Et.kp (bg 2) bm).sl' (bg 2) (ho.own 31 (.base (aJ.2 aa)) _ _ aa) (Kp.refl _ _)) ab bN RT hyr bN).mono ?_);rintro e w4 ⟨rfl,ic⟩;refine bZ ic ?_;intro mB _ tI;refine bl ?_;intro wz kz bz;exact⟨aa,bz⟩
   ·refine wV aa ?_;refine ae ?_;refine VO.cond aa dQ ?_;refine wV aa ?_;refine ae ?_;refine VO.dY aa (([.bool hY.1.1,.slice ap hY.1.2.1.length ac,.bool hY.1.2.2.1,.slice ar hY.1.2.2.2.length ad,.bool hY.2.1,.slice bp hY.2.2.1.length bc,.bool hY.2.2.2.1,.slice br hY.2.2.2.2.length bd]:List Value).map .val) aa (hcell 0 _ ⟨[],aa⟩) (wV aa ?_);refine ae ?_;refine VO.ss (dD _ _) (bg 2) (t:=29) (e:=51) (s:=30) (i:=15) (n:=40) (c:=cap) (vs:=vs) (sp:=sp) (es:=List.replicate 40 hY) (a:=hY) (cs:=[.bool hY.1.1,.slice ap hY.1.2.1.length ac,.bool hY.1.2.2.1,.slice ar hY.1.2.2.2.length ad,.bool hY.2.1,.slice bp hY.2.2.1.length bc,.bool hY.2.2.2.1,.slice br hY.2.2.2.2.length bd]) aa aa aa aa aa aa aa aa (bM aa) aa (.inl aa) aa (xE.kp (bg 2) bm) aa ((bg 2).kp vL bm) ab (λw8 jr qy ρ k8 b8 iI Et=>wV aa ?_);refine ae ?_;refine VO.eB aa (fk kW) (λfW β iJ iB ho=>(tZ _ _ (gX CL) (gX zW) ((40:Nat):Int) (List.replicate 40 hY++[hY]) 2 fW (hR fW bm) (gY hsS) (gY hsF) ((Et.kp (bg 2) bm).sl' (bg 2) (ho.own 31 (.base (aJ.2 aa)) _ _ aa) (Kp.refl _ _)) ab bN RT hyr bN).mono ?_);rintro e w4 ⟨rfl,ic⟩;refine bZ ic ?_;intro mB _ tI;refine bl ?_;intro wz kz bz;exact⟨aa,bz⟩
   ·refine wV aa ?_;refine ae ?_;refine VO.cond aa dQ ?_;refine wV aa ?_;refine ae ?_;refine VO.dY aa (([.bool hY.1.1,.slice ap hY.1.2.1.length ac,.bool hY.1.2.2.1,.slice ar hY.1.2.2.2.length ad,.bool hY.2.1,.slice bp hY.2.2.1.length bc,.bool hY.2.2.2.1,.slice br hY.2.2.2.2.length bd]:List Value).map .val) aa (hcell 0 _ ⟨[],aa⟩) (wV aa ?_);refine ae ?_;refine VO.ss (dD _ _) (bg 2) (t:=29) (e:=51) (s:=30) (i:=15) (n:=40) (c:=cap) (vs:=vs) (sp:=sp) (es:=List.replicate 40 hY) (a:=hY) (cs:=[.bool hY.1.1,.slice ap hY.1.2.1.length ac,.bool hY.1.2.2.1,.slice ar hY.1.2.2.2.length ad,.bool hY.2.1,.slice bp hY.2.2.1.length bc,.bool hY.2.2.2.1,.slice br hY.2.2.2.2.length bd]) aa aa aa aa aa aa aa aa (bM aa) aa (.inl aa) aa (xE.kp (bg 2) bm) aa ((bg 2).kp vL bm) ab (λw8 jr qy ρ k8 b8 iI Et=>wV aa ?_);refine ae ?_;refine VO.eB aa (fk kW) (λfW β iJ iB ho=>(tZ _ _ (gX CL) (gX zW) ((40:Nat):Int) (List.replicate 40 hY++[hY]) 2 fW (hR fW bm) (gY hsS) (gY hsF) ((Et.kp (bg 2) bm).sl' (bg 2) (ho.own 31 (.base (aJ.2 aa)) _ _ aa) (Kp.refl _ _)) ab bN RT hyr bN).mono ?_);rintro e w4 ⟨rfl,ic⟩;refine bZ ic ?_;intro mB _ tI;refine bl ?_;intro wz kz bz;exact⟨aa,bz⟩
set_option maxRecDepth 4000
theorem VY (a:Int): -9223372036854775808<=IntKind.i64.wrap a/\IntKind.i64.wrap a<=9223372036854775807:=by
 rw[rN];omega
theorem VZ (a:Int) {m:Int} (h0:0<m) (h1:m<=1000): -9223372036854775808<=a.tmod m/\a.tmod m<=9223372036854775807:=by
 have h2:=Int.natAbs_tmod a m;have h3:=gC a.natAbs (show 0<m.natAbs by omega);omega
variable {α:Type} {es:List α} {w:World} {E:World->List Value->α->Prop}
theorem Rf {α':Type} {E':World->List Value->α'->Prop} {sz n off c:Nat} {pre sp:List Value} {vs:List (List Value)} (f:α->α') (h:fm E sz w n off c pre vs sp es) (hf:∀ cs,∀ e∈es,E w cs e->E' w cs (f e)):fm E' sz w n off c pre vs sp (es.map f):=by
 refine⟨by rw[bu];exact h.len,h.pl,h.po,?_,h.so,h.le,h.cm,h.fl⟩;have h1:=h.el;clear h
 induction h1 with
 | nil=>exact .nil
 | cons h1 _ ih=>exact .cons (hf _ _ bN h1) (ih λcs e he=>hf cs e (by simp[he]))
theorem Wa (w:World):jv w (.agg #[.bool false,.slice none 0 0]) false []:=⟨none,0,rfl,Rd.nil w 1,ez.nil⟩
abbrev zR:RR:=(false,[],false,[])
theorem Wb (w:World):gT w (.agg #[.bool false,.slice none 0 0,.bool false,.slice none 0 0]) false [] false []:=⟨none,0,none,0,rfl,Wa w,Wa w⟩
abbrev z4:List Value:=[.bool false,.slice none 0 0,.bool false,.slice none 0 0]
theorem nul4 (w:World):Eo w z4 zR:=⟨none,0,none,0,rfl,Wb w⟩
variable {e:RR×RR}
theorem yr_zero {kk:Nat} {a1 a2 a3 a4 b1 b2 b3 b4:Value} (h:pW kk w [a1,a2,a3,a4,b1,b2,b3,b4] e):pW kk w (z4++[b1,b2,b3,b4]) (zR,e.2):=by
 obtain⟨a,b,Dd,ha,hb,f1,f2⟩:=h;have la:=ha.len;have h2:([a1,a2,a3,a4,b1,b2,b3,b4]:List Value).drop 4=(a++b).drop 4:=by rw[Dd]
 rw[show (a++b).drop 4=b by rw[<-la];exact List.drop_left] at h2;exact⟨z4,_,aa,nul4 w,by rw[show ([b1,b2,b3,b4]:List Value)=b from h2];exact hb,⟨fH _,fH _⟩,f2⟩
theorem Rg {α:Type} {E:World->List Value->α->Prop} {w:World} {cs:List Value} {a:α} (h:E w cs a):∀ n:Nat,cd E w (List.replicate n a) (List.replicate n cs)
 | 0=>.nil
 | n+1=>.cons h (Rg h n)
variable {cs:List Value}
theorem Wc {b:Nat} {t:TypeId} (h:bO w b t cs.toArray):∀ (j:Nat) (u:Value),cs[j]? =some u->w.cell? ((⟨b,0,none⟩:Addr).add j)=some u:=λj u hj=>by
 rw[ju];exact h.cell (by simpa using hj)
variable {w':World}
theorem dm.but {sz:Nat} (hE:jo E sz) {v:Value} {ad:List Nat} (h:dm E sz w v es) (hb:wi ad w w') (k:Kp UU w w') (hn:∀ b off n c,v=.slice (some ⟨b,off,none⟩) n c->b<w.heap.size/\b∉ad):dm E sz w' v es:=by
 obtain⟨p,c,hv,h1,h2,h3⟩:=h;refine⟨p,c,hv,h1,h2,λi a ha=> ?_⟩;obtain⟨b,off,cs,hp,hc,TB⟩:=h3 i a ha;obtain⟨hlt,hna⟩:=hn b off _ _ (by rw[hv,hp]);refine⟨b,off,cs,hp,λj u hj=> ?_,hE.kp TB k⟩;rw[Ab (w:=w) (a:=⟨b,off+i*sz+j,none⟩) (hb.pk b hlt hna)];exact hc j u hj
def Nt (B:Nat) (w:World) (r u:Value) (X:List eO×List eM):Prop:=((r=.slice none 0 0/\X.1=[])\/∃ rb,B<=rb/\Yz (pc 82) 28 fX w rb r X.1)/\((u=.slice none 0 0/\X.2=[])\/∃ ub,B<=ub/\Yz (pJ 82) 6 gL w ub u X.2)
variable {X:List eO×List eM} {B:Nat} {r u:Value}
theorem Nt.form (h:Nt B w r u X):∃ p c p' c',r=.slice p X.1.length c/\u=.slice p' X.2.length c':=by
 have h1:∃ p c,r=.slice p X.1.length c:=by
  rcases h.1 with ⟨rfl,e⟩|⟨rb,_,n,c,vs,sp,rfl,_,h3⟩
  ·exact⟨none,0,by rw[e];rfl⟩
  ·exact⟨_,c,by rw[h3.len]⟩
 have h2:∃ p c,u=.slice p X.2.length c:=by
  rcases h.2 with ⟨rfl,e⟩|⟨rb,_,n,c,vs,sp,rfl,_,h3⟩
  ·exact⟨none,0,by rw[e];rfl⟩
  ·exact⟨_,c,by rw[h3.len]⟩
 obtain⟨p,c,e1⟩:=h1;obtain⟨p',c',e2⟩:=h2;exact⟨p,c,p',c',e1,e2⟩
theorem Nt.Tn {K:KC} (h:Nt B w r u X) (hK:FzL K) (k:bQ K w w') (kw:Kp UU w w'):Nt B w' r u X:=by
 refine⟨h.1.imp id λ⟨rb,h0,n,c,vs,sp,h1,h2,h3⟩=>⟨rb,h0,n,c,vs,sp,h1,k.block _ rb _ hK.r (hK.s _) h2,h3.kp (dV 82) kw⟩,h.2.imp id λ⟨rb,h0,n,c,vs,sp,h1,h2,h3⟩=>⟨rb,h0,n,c,vs,sp,h1,k.block _ rb _ hK.w (hK.s _) h2,h3.kp (df 82) kw⟩⟩
theorem Nt.YD (h:Nt B w r u X):pd 82 w r u X:=by
 refine⟨?_,?_⟩
 ·rcases h.1 with ⟨rfl,e⟩|⟨rb,_,h3⟩
  ·rw[e];exact dm.nil _ _ _
  ·simpa using MD (E':=pc 82) (dV 82) id h3 λcs e he hE=>hE
 ·rcases h.2 with ⟨rfl,e⟩|⟨rb,_,h3⟩
  ·rw[e];exact dm.nil _ _ _
  ·simpa using MD (E':=pJ 82) (df 82) id h3 λcs e he hE=>hE
theorem Rh (h:pW 2 w cs e):pW 3 w cs e:=by
 obtain⟨a,b,h0,h1,h2,⟨f1,f2⟩,⟨f3,f4⟩⟩:=h;exact⟨a,b,h0,h1,h2,⟨ab,ab⟩,⟨ab,ab⟩⟩
theorem few_23 {x:RR} (h:x.ld 2):x.ld 3:=⟨bj h.1 bq,bj h.2 bq⟩
theorem rul_own {s1 t1 s2 t2:Bool} {p1 y1 p2 y2:Option Addr} {n1 c1 m1 d1 n2 c2 m2 d2:Nat} {q r:Rat} {k:Int} (h1:cJ w (.agg #[.bool s1,.slice p1 n1 c1,.bool t1,.slice y1 m1 d1]) q) (h2:cJ w (.agg #[.bool s2,.slice p2 n2 c2,.bool t2,.slice y2 m2 d2]) r):fY w (.agg #[.bool s1,.slice p1 n1 c1,.bool t1,.slice y1 m1 d1,.bool s2,.slice p2 n2 c2,.bool t2,.slice y2 m2 d2,.int .i64 k]) (gX q) (gX r) k:=by
 obtain⟨a1,a2,a3,a4,a5,a6⟩:=h1.Ju;obtain⟨b1,b2,b3,b4,b5,b6⟩:=h2.Ju;refine⟨a1,a2,a3,a4,b1,b2,b3,b4,?_,a6,b6⟩;simp only[List.cons.injEq,and_true] at a5 b5;obtain⟨x1,x2,x3,x4⟩:=a5;obtain⟨z1,z2,z3,z4⟩:=b5;rw[x1,x2,x3,x4,z1,z2,z3,z4]
theorem uf.led {x:List bh×List Uq} (h:uf B w r u x) (hs:LedSz 82 x):Nt B w r u (fF x):=by
 refine⟨?_,?_⟩
 ·rcases h.1 with ⟨rfl,e⟩|⟨rb,hB,n,c,vs,sp,rfl,hc,ho⟩
  ·exact .inl ⟨aa,by unfold fF;rw[e];rfl⟩
  ·exact .inr ⟨rb,hB,n,c,vs,sp,aa,hc,Rf CN ho λcs e he hE=>VF hE (hs.1 e he)⟩
 rcases h.2 with ⟨rfl,e⟩|⟨ub,hB,n,c,vs,sp,rfl,hc,ho⟩
 ·exact .inl ⟨aa,by unfold fF;rw[e];rfl⟩
 ·exact .inr ⟨ub,hB,n,c,vs,sp,aa,hc,Rf CO ho λcs e he hE=>use_in hE (hs.2 e he)⟩
theorem iRun_led (v u:Value) (S F:RR) (keep:Int) (l:List (RR×RR)) (w:World) (hR:fY w v S F keep) (hS:S.ld 3) (hF:F.ld 3) (hl:dm (pW 3) 8 w u l) (hlen:l.length<=12):
  Calls Tryz.prog 11 #[v,u] w λo w'=>∃ r u' c X,o=.returned (.tuple #[.agg #[r,u'],.int .i64 c])/\Nt w.heap.size w' r u' X/\aU w w':=by
 cases gv:sI S F keep l with
 | false=>
   refine (ye _ _ S F keep l w hR hS hF hl ab gv _ aa).mono ?_;rintro o w' ⟨rfl,hb⟩;exact⟨_,_,_,([],[]),aa,⟨.inl ⟨aa,aa⟩,.inl ⟨aa,aa⟩⟩,hb⟩
 | true=>
   have hf:=kA gv;have Di:=hf.k0;obtain⟨kn,rfl⟩:∃ kn:Nat,keep=(kn:Int):=⟨keep.toNat,ab⟩;have hM:=pe hR hS hF hl hf hlen;refine (rf _ _ S F (kn:Int) kn l w hR hS hF hl hf hlen aa).mono ?_;rintro o w' ⟨r,u',rfl,l1,hb⟩;exact⟨_,_,_,_,aa,l1.led (CP (kn:=kn) hM),hb⟩
set_option maxRecDepth 4000 in
theorem Ri (w:World):Calls Tryz.prog 7 #[] w λo w'=>o=.returned (.bool true)/\aU w w':=by
 refine ah (C:=xX Tryz.prog w _) (args:=[]) Tryz.func7 aa Tryz.ntmps7 (bM aa) ?_;refine bJ ?_;refine VS.loopR (J:=λm L W=>∃ k:Int,-1<=k/\k<=6/\m=(6-k).toNat/\L=[(0,.bool false),(1,.int .i64 k)]/\aU w W) (λw=>xX Tryz.prog w 171) (λ_=>aa) (λ_=>aa) (λ_=>aU.refl _) 7 (λw' hk ho=>⟨[(0,.bool false),(1,.int .i64 (-1))],⟨aa,aa,ag⟩,-1,ab,ab,aa,aa,ho⟩) ?_;rintro m L W ⟨k,Hd,hk2,rfl,rfl,bW⟩;refine bJ ?_;by_cases hlt:k<6
 ·refine VS.aV aa (aE hlt) ?_;refine bJ ?_;refine VS.loopR (J:=λm L W'=>∃ z:Nat,z<=40/\m=40-z/\L=[(0,.bool false),(1,.int .i64 k),(2,.int .i64 (z:Int))]/\aU w W') (λw=>xX Tryz.prog w 171) (λ_=>aa) (λ_=>aa) (λ_=>aU.refl _) 40 (λw' hk ho=>⟨[(0,.bool false),(1,.int .i64 k),(2,.int .i64 ((0:Nat):Int))],⟨aa,aa,aa,ag⟩,0,ab,aa,aa,bW.aR ho⟩) ?_;rintro m L W2 ⟨z,hz,rfl,rfl,bW2⟩;refine bJ ?_;by_cases hz4:(z:Int)<40
  ·refine VS.aV aa (aE hz4) ?_;refine bJ ?_;refine VO.cR aa aa (fk pQ) (λbn cG bo=>fC _ _ bn (VZ _ bq bq).1 (VZ _ bq bq).2 ab ab) (λbn cG bo w1 s1 p1 n1 c1 t1 y1 m1 d1 q1 bA eF _ bb1=>wV aa ?_);refine bJ ?_;refine VO.cR aa aa (fk pQ) (λcz dB cT=>fC _ _ cz (VY _).1 (VY _).2 ab ab) (λcz dB cT w2 s2 p2 n2 c2 t2 y2 m2 d2 q2 cC fe _ bb2=>wV aa ?_);refine bJ ?_;refine VO.call aa aa (fk pR) (λeP fA ft=>(eX _ _ eP (VZ _ bq bq).1 (VZ _ bq bq).2 (VZ _ bq bq).1 (VZ _ bq bq).2).mono ?_);rintro e w3 ⟨r3,rfl,⟨s3,p3,n3,c3,t3,y3,m3,d3,e3,f3,g3,h3,i3,j3,k3,l3,rfl,q3⟩,dZ⟩
   skip
   refine eC dZ ?_;intro jm _ bb3;refine VO.call aa aa (fk pR) (λfW iJ iB=>(eX _ _ fW (VY _).1 (VY _).2 (VY _).1 (VY _).2).mono ?_);rintro e w4 ⟨r4,rfl,⟨s4,p4,n4,c4,t4,y4,m4,d4,e4,f4,g4,h4,i4,j4,k4,l4,rfl,q4⟩,ic⟩
   skip
   refine eC ic ?_;intro mB _ tI;refine VO.call aa aa (fk pR) (λfQ iH fV=>(eX _ _ fQ (VY _).1 (VY _).2 (VZ _ bq bq).1 (VZ _ bq bq).2).mono ?_);rintro e w5 ⟨r5,rfl,⟨s5,p5,n5,c5,t5,y5,m5,d5,e5,f5,g5,h5,i5,j5,k5,l5,rfl,q5⟩,iz⟩
   skip
   refine eC iz ?_;intro lg _ sR;refine VO.call aa aa (fk pR) (λfJ iK gE=>(eX _ _ fJ (VZ _ bq bq).1 (VZ _ bq bq).2 (VZ _ bq bq).1 (VZ _ bq bq).2).mono ?_);rintro e w6 ⟨r6,rfl,⟨s6,p6,n6,c6,t6,y6,m6,d6,e6,f6,g6,h6,i6,j6,k6,l6,rfl,q6⟩,ln⟩
   skip
   refine eC ln ?_;intro lH _ sj;refine VO.call aa aa (fk pR) (λjS na jI=>(eX _ _ jS (VY _).1 (VY _).2 (VY _).1 (VY _).2).mono ?_);rintro e w7 ⟨r7,rfl,⟨s7,p7,n7,c7,t7,y7,m7,d7,e7,f7,g7,h7,i7,j7,k7,l7,rfl,q7⟩,ta⟩
   skip
   refine eC ta ?_;intro rB _ Ct;obtain⟨v3,z3⟩:∃ v,pW 3 w3 [.bool s3,.slice p3 n3 c3,.bool t3,.slice y3 m3 d3,.bool e3,.slice f3 g3 h3,.bool i3,.slice j3 k3 l3] v:=⟨_,Rh q3⟩;obtain⟨v4,z4⟩:∃ v,pW 3 w4 [.bool s4,.slice p4 n4 c4,.bool t4,.slice y4 m4 d4,.bool e4,.slice f4 g4 h4,.bool i4,.slice j4 k4 l4] v:=⟨_,Rh q4⟩;obtain⟨v5,z5⟩:∃ v,pW 3 w5 [.bool s5,.slice p5 n5 c5,.bool t5,.slice y5 m5 d5,.bool e5,.slice f5 g5 h5,.bool i5,.slice j5 k5 l5] v:=⟨_,Rh q5⟩;obtain⟨v6,z6⟩:∃ v,pW 3 w6 [.bool s6,.slice p6 n6 c6,.bool t6,.slice y6 m6 d6,.bool e6,.slice f6 g6 h6,.bool i6,.slice j6 k6 l6] v:=⟨_,Rh q6⟩;obtain⟨v7,z7⟩:∃ v,pW 3 w7 [.bool s7,.slice p7 n7 c7,.bool t7,.slice y7 m7 d7,.bool e7,.slice f7 g7 h7,.bool i7,.slice j7 k7 l7] v:=⟨_,Rh q7⟩
   obtain⟨S,F,hS,hF,hRu⟩:∃ S F:RR,S.ld 3/\F.ld 3/\∀ w',Kp UU w1 w'->Kp UU w2 w'->fY w' (.agg #[.bool s1,.slice p1 n1 c1,.bool t1,.slice y1 m1 d1,.bool s2,.slice p2 n2 c2,.bool t2,.slice y2 m2 d2,.int .i64 k]) S F k:=
    ⟨_,_,few_23 (gY (sq (VZ _ bq bq).1 (VZ _ bq bq).2 ab ab)),few_23 (gY (sq (VY _).1 (VY _).2 ab ab)),λw' a b=>rul_own (q1.rd.kp a) (q2.rd.kp b)⟩
   refine VO.eB aa (fk kW) (λpV β yn ru ho=>((iRun_led _ _ S F k [v3,v4,v5,v6,v7] pV (hRu pV kL kL) hS hF (gw (bg 3) (ho.own 64 (.base (aJ.2 aa)) _ _ aa) [] (vs:=[[.bool s3,.slice p3 n3 c3,.bool t3,.slice y3 m3 d3,.bool e3,.slice f3 g3 h3,.bool i3,.slice j3 k3 l3],[.bool s4,.slice p4 n4 c4,.bool t4,.slice y4 m4 d4,.bool e4,.slice f4 g4 h4,.bool i4,.slice j4 k4 l4],[.bool s5,.slice p5 n5 c5,.bool t5,.slice y5 m5 d5,.bool e5,.slice f5 g5 h5,.bool i5,.slice j5 k5 l5],[.bool s6,.slice p6 n6 c6,.bool t6,.slice y6 m6 d6,.bool e6,.slice f6 g6 h6,.bool i6,.slice j6 k6 l6],[.bool s7,.slice p7 n7 c7,.bool t7,.slice y7 m7 d7,.bool e7,.slice f7 g7 h7,.bool i7,.slice j7 k7 l7]]) (by rfl) (cd.cons ((bg 3).kp z3 kL) (cd.cons ((bg 3).kp z4 kL) (cd.cons ((bg 3).kp z5 kL) (cd.cons ((bg 3).kp z6 kL) (cd.cons ((bg 3).kp z7 kL) (cd.nil)))))) aa (bM aa) bq) (by show 5<=12;omega)).mono (λo w2 h=>And.intro h ru.size)).mono ?_);rintro e w8 ⟨⟨r8,u8,c8,X,rfl,l8,vG⟩,En⟩;obtain⟨pr,cr,pu,cu,rfl,rfl⟩:=l8.form;refine⟨_,aa,vG,λvP _ KW=>wV aa ?_⟩
   (repeat (first|refine wN ?_|refine wP aa ?_|refine wO aa aa ?_))
   refine VS.Ia (λw=>xX Tryz.prog w 171) (λ_=>aa) (λ_=>aa) (λ_=>aU.refl _) (λw9 CR k9 b9 en=> ?_);have BP:bO w9 (CR 3) Iv #[.bool s1,.slice p1 n1 c1,.bool t1,.slice y1 m1 d1,.bool s2,.slice p2 n2 c2,.bool t2,.slice y2 m2 d2,.int .i64 k]:=(en.own 3 _ _ aa).cls;have ho5:bO w9 (CR 5) nH #[.slice pr X.1.length cr,.slice pu X.2.length cu]:=(en.own 5 _ _ aa).cls;have hn5:W2.heap.size<=CR 5:=(en.own 5 _ _ aa).new;have hl9:dm (pW 3) 8 w9 (.slice (some ⟨CR 64,0,none⟩) 5 5) [v3,v4,v5,v6,v7]:=gw (bg 3) (en.own 64 _ _ aa) [] (vs:=[[.bool s3,.slice p3 n3 c3,.bool t3,.slice y3 m3 d3,.bool e3,.slice f3 g3 h3,.bool i3,.slice j3 k3 l3],[.bool s4,.slice p4 n4 c4,.bool t4,.slice y4 m4 d4,.bool e4,.slice f4 g4 h4,.bool i4,.slice j4 k4 l4],[.bool s5,.slice p5 n5 c5,.bool t5,.slice y5 m5 d5,.bool e5,.slice f5 g5 h5,.bool i5,.slice j5 k5 l5],[.bool s6,.slice p6 n6 c6,.bool t6,.slice y6 m6 d6,.bool e6,.slice f6 g6 h6,.bool i6,.slice j6 k6 l6],[.bool s7,.slice p7 n7 c7,.bool t7,.slice y7 m7 d7,.bool e7,.slice f7 g7 h7,.bool i7,.slice j7 k7 l7]]) (by rfl) (cd.cons ((bg 3).kp z3 kL) (cd.cons ((bg 3).kp z4 kL) (cd.cons ((bg 3).kp z5 kL) (cd.cons ((bg 3).kp z6 kL) (cd.cons ((bg 3).kp z7 kL) (cd.nil)))))) aa (bM aa) bq;have hm9:dm (pW 3) 8 w9 (.slice (some ⟨CR 64,0,none⟩) 3 5) [v3,v4,v5]:=gw (bg 3) (en.own 64 _ _ aa) (([.bool s6,.slice p6 n6 c6,.bool t6,.slice y6 m6 d6,.bool e6,.slice f6 g6 h6,.bool i6,.slice j6 k6 l6]++[.bool s7,.slice p7 n7 c7,.bool t7,.slice y7 m7 d7,.bool e7,.slice f7 g7 h7,.bool i7,.slice j7 k7 l7]:List Value).map .val) (vs:=[[.bool s3,.slice p3 n3 c3,.bool t3,.slice y3 m3 d3,.bool e3,.slice f3 g3 h3,.bool i3,.slice j3 k3 l3],[.bool s4,.slice p4 n4 c4,.bool t4,.slice y4 m4 d4,.bool e4,.slice f4 g4 h4,.bool i4,.slice j4 k4 l4],[.bool s5,.slice p5 n5 c5,.bool t5,.slice y5 m5 d5,.bool e5,.slice f5 g5 h5,.bool i5,.slice j5 k5 l5]]) (by rfl) (cd.cons ((bg 3).kp z3 kL) (cd.cons ((bg 3).kp z4 kL) (cd.cons ((bg 3).kp z5 kL) (cd.nil)))) aa (bM aa) bq;have hR9:=hRu w9 kL kL;have l9:=l8.Tn (nv _ _) k9 k9.nD;have bW9:aU w w9:=bW2.aR b9;refine⟨[(0,.val (.bool false)),(1,.val (.int .i64 k)),(2,.val (.int .i64 (z:Int))),(3,.val (.pointer (some ⟨CR 3,0,none⟩))),(4,.val (.slice (some ⟨CR 64,0,none⟩) 5 5)),(5,.val (.pointer (some ⟨CR 5,0,none⟩)))],⟨⟨_,_,aa,aa,aa⟩,⟨_,_,aa,aa,aa⟩,⟨_,_,aa,aa,aa⟩,⟨_,_,aa,aa,aa⟩,⟨_,_,aa,aa,aa⟩,⟨_,_,aa,aa,aa⟩,ag⟩,?_⟩;refine bJ ?_;refine VO.read aa [.bool s1,.slice p1 n1 c1,.bool t1,.slice y1 m1 d1,.bool s2,.slice p2 n2 c2,.bool t2,.slice y2 m2 d2,.int .i64 k] aa (eZ BP 0 _ ⟨[],aa⟩) (wV aa ?_);refine bJ ?_;refine VO.cB aa aa (fk Tryz.func5) (λnb rC qV=>rj _ _ S F k [v3,v4,v5,v6,v7] 3 nb (hR9.kp (Kp.of (U:=UU) qV)) (hl9.bI (bg 3) qV)) (λnb rC qV Yv xk kf _ Hv=>wV aa ?_);refine bJ ?_;refine VO.read aa [.bool s1,.slice p1 n1 c1,.bool t1,.slice y1 m1 d1,.bool s2,.slice p2 n2 c2,.bool t2,.slice y2 m2 d2,.int .i64 k] aa (eZ BP 0 _ ⟨[],aa⟩) (wV aa ?_);refine bJ ?_;refine VO.cB aa aa (fk Tryz.func4) (λrD tK xm=>XT _ _ S F k [v3,v4,v5,v6,v7] 3 rD (hR9.kp (Kp.of (U:=UU) xm)) (hl9.bI (bg 3) xm)) (λrD tK xm w11 Cu qe _ Qc=>wV aa ?_);refine bJ ?_;refine VO.read aa [.bool s1,.slice p1 n1 c1,.bool t1,.slice y1 m1 d1,.bool s2,.slice p2 n2 c2,.bool t2,.slice y2 m2 d2,.int .i64 k] aa (eZ BP 0 _ ⟨[],aa⟩) (wV aa ?_);refine bJ ?_;refine VO.cB aa aa (fk Tryz.func3) (λsU yo vQ=>Tz _ _ S F k [v3,v4,v5,v6,v7] _ 3 sU (hR9.kp (Kp.of (U:=UU) vQ)) (hl9.bI (bg 3) vQ)) (λsU yo vQ w12 Cv tL _ Qd=>wV aa ?_);refine bJ ?_;refine VO.read aa [.bool s1,.slice p1 n1 c1,.bool t1,.slice y1 m1 d1,.bool s2,.slice p2 n2 c2,.bool t2,.slice y2 m2 d2,.int .i64 k] aa (eZ BP 0 _ ⟨[],aa⟩) (wV aa ?_);refine bJ ?_;refine VO.read aa [.slice pr X.1.length cr,.slice pu X.2.length cu] aa (eZ ho5 0 _ ⟨[],aa⟩) (wV aa ?_);refine bJ ?_;refine VO.cB aa aa (fk Tryz.func6) (λyq Hw xn=>pj _ _ _ _ S F k _ [v3,v4,v5,v6,v7] X 3 82 yq (hR9.kp (Kp.of (U:=UU) xn)) (hl9.bI (bg 3) xn) (l9.YD.bI xn)) (λyq Hw xn vI Xi Cw _ bb13=>wV aa ?_);refine bJ ?_;refine VO.read aa [.bool s1,.slice p1 n1 c1,.bool t1,.slice y1 m1 d1,.bool s2,.slice p2 n2 c2,.bool t2,.slice y2 m2 d2,.int .i64 k] aa (eZ BP 0 _ ⟨[],aa⟩) (wV aa ?_);refine bJ ?_;refine VO.cond aa ⟨Int.le_refl _,show (0:Int)<=3 by omega,show (3:Int)<=5 by omega,show (5:Int)<=9223372036854775807 by omega⟩ (wV aa ?_);refine bJ ?_;refine VO.read aa [.slice pr X.1.length cr,.slice pu X.2.length cu] aa (eZ ho5 0 _ ⟨[],aa⟩) (wV aa ?_);refine bJ ?_;refine VO.cB aa aa (fk Tryz.func6) (λxo zy vR=>pj _ _ _ _ S F k _ [v3,v4,v5] X 3 82 xo (hR9.kp (Kp.of (U:=UU) vR)) (hm9.bI (bg 3) vR) (l9.YD.bI vR)) (λxo zy vR NA hb14 Mh _ bb14=>wV aa ?_);refine bJ ?_;rcases l9.2 with ⟨hu,RH⟩|⟨ub,Yn,sW⟩
   ·rw[RH] at ho5;refine VS.loop (J:=λm L M w'=>L=[(0,.val (.bool false)),(1,.val (.int .i64 k)),(2,.val (.int .i64 (z:Int))),(5,.val (.pointer (some ⟨CR 5,0,none⟩))),(7,.val (.int .i64 0))]/\M=[]) 0 ⟨_,_,?_,?_,?_,?_,⟨aa,aa⟩⟩ ?_
    ·exact cA
    ·exact cA
    ·rfl
    ·exact gn
    rintro m L M Yv ⟨rfl,rfl⟩;refine bJ ?_;refine VO.read aa [.slice pu 0 cu] aa (eZ ho5 1 _ ⟨[],aa⟩) (wV aa ?_);refine bJ ?_;refine VS.Vm aa (40-(z+1)) ab [(0,.bool false),(1,.int .i64 k),(2,.int .i64 ((z+1:Nat):Int))] ⟨aa,aa,?_,ag⟩ (λw' hk ho=>⟨z+1,ab,aa,aa,bW9.aR ho⟩);rw[<-aD (i:=z) ab];rfl
   ·have hszz:=En;obtain⟨n,cu',vs,sp,hue,hcu,hou⟩:=sW;simp only[Value.slice.injEq] at hue;obtain⟨rfl,Oz,rfl⟩:=hue;rw[Oz] at ho5;refine VS.xV (KU UU) (λt=>Nat.beq t 22) table (λ_ _ _=>trivial) (λXj β15 k15 b15 en15=> ?_);have hx5:=ho5.bI b15;have hu5:=hcu.bI b15;have hr5:=BP.bI b15;have TX:=hou.kp (df 82) (Kp.of (U:=UU) b15);have hl15:=hl9.bI (bg 3) b15;have hrow15:=l9.YD.1.bI (dV 82) b15;have hR15:=hR9.kp (Kp.of (U:=UU) b15);have Th:CR 5≠ub:=λe=>by subst e;exact absurd (cK hx5 hu5) bq
    have h31:CR 3≠CR 5:=λe=>by rw[e] at hr5;exact absurd (cK hr5 hx5) bq
    have h32:CR 3≠ub:=λe=>by rw[e] at hr5;exact absurd (cK hr5 hu5) bq
    have XE:CR 3∉[CR 5,ub]:=by simp[h31,h32]
    have ho64:=(en.own 64 _ _ aa).cls.bI b15
    have h64:CR 64∉[CR 5,ub]:=λhm=>by
     simp only[List.mem_cons,List.not_mem_nil,or_false] at hm;rcases hm with h|h
     ·rw[h] at ho64;exact absurd (cK ho64 hx5) bq
     ·rw[h] at ho64;exact absurd (cK ho64 hu5) bq
    have hlB:∀ w',wi [CR 5,ub] Xj w'->Kp UU Xj w'->dm (pW 3) 8 w' (.slice (some ⟨CR 64,0,none⟩) 5 5) [v3,v4,v5,v6,v7]:=λw' b k=>hl15.but (bg 3) b k λb' off n' c' e=>by
     cases e;exact⟨ho64.lt,h64⟩
    have hrB:∀ w',wi [CR 5,ub] Xj w'->Kp UU Xj w'->dm (pc 82) 28 w' (.slice pr X.1.length cr) X.1:=λw' b k=>hrow15.but (dV 82) b k λb' off n' c' e=>by
     rcases l9.1 with ⟨h,_⟩|⟨rb,_,_,_,_,_,h,hc,_⟩
     ·rw[h] at e;cases e
     ·rw[h] at e;cases e;have hc':=hc.bI b15;refine⟨hc'.lt,λhm=> ?_⟩;simp only[List.mem_cons,List.not_mem_nil,or_false] at hm;rcases hm with h|h
      ·rw[h] at hc';exact absurd (cK hc' hx5) bq
      ·rw[h] at hc';exact absurd (cK hc' hu5) bq
    have xw:nd (KU UU) 171 [CR 5,ub] [(nH,[.val (.slice pr X.1.length cr),.row 343 0 n cu]),(gL,vs.flatten.map .val++sp.map .val)] Xj:=by
     refine⟨aa,by simp[Th],λj g' c' hj hc=> ?_,λc' hc=> ?_,λc' hc k hk=> ?_⟩
     ·match j,hj,hc with
      | 0,hj,hc=>cases hj;cases hc;exact hx5
      | 1,hj,hc=>cases hj;cases hc;rw[<-bC,ak];exact hu5
      | j+2,hj,_=>simp at hj
     ·simp only[List.mem_cons,List.not_mem_nil,or_false] at hc;rcases hc with rfl|rfl
      ·exact⟨aa,aa⟩
      ·exact⟨aa,by rw[<-bC];exact bP (TX.all (df _))⟩
     ·simp only[List.mem_cons,List.not_mem_nil,or_false] at hc;rcases hc with rfl|rfl
      ·have:k=343:=by simpa [aI,AV.eu] using hk
       subst this;exact⟨ab,by show 343<2*171+2;omega⟩
      ·rw[<-bC,aw] at hk;cases hk
    have hN0:jq (pJ 82) 6 Xj n cu vs (sp.map .val) X.2:=⟨TX.len,TX.el,bP TX.so,aw _,TX.le,TX.cm,by rw[<-bC,bu];exact TX.fl⟩;refine⟨[CR 5,ub],_,xw,[(0,.val (.bool false)),(1,.val (.int .i64 k)),(2,.val (.int .i64 (z:Int))),(3,.val (.pointer (some ⟨CR 3,0,none⟩))),(4,.val (.slice (some ⟨CR 64,0,none⟩) 5 5)),(5,.box 342 0),(7,.val (.int .i64 ((0:Nat):Int)))],⟨⟨_,aa,aa,λi hi=>by cases hi⟩,⟨_,aa,aa,λi hi=>by cases hi⟩,⟨_,aa,aa,λi hi=>by cases hi⟩,⟨_,aa,aa,λi hi=>by cases hi⟩,⟨_,aa,aa,λi hi=>by cases hi⟩,?_,⟨_,aa,aa,λi hi=>by cases hi⟩,ag⟩,?_⟩
    ·refine⟨_,aa,aa,λi hi=> ?_⟩;have:i=342:=by simpa [AV.ids] using hi
     subst this;exact⟨by show 342<=342;omega,by show 342<2*171+2;omega⟩
    refine VS.loop (J:=λm L M w'=>∃ (i:Nat) (kO:List (List Value)) (es:List eM),i<=n/\m=n-i/\L=[(0,.val (.bool false)),(1,.val (.int .i64 k)),(2,.val (.int .i64 (z:Int))),(3,.val (.pointer (some ⟨CR 3,0,none⟩))),(4,.val (.slice (some ⟨CR 64,0,none⟩) 5 5)),(5,.box 342 0),(7,.val (.int .i64 (i:Int)))]/\M=[(342,(nH,[.val (.slice pr X.1.length cr),.row 343 0 n cu])),(343,(gL,kO.flatten.map .val++sp.map .val))]/\jq (pJ 82) 6 w' n cu kO (sp.map .val) es/\bQ (KU UU) Xj w') n ⟨_,_,?_,?_,?_,?_,⟨0,vs,X.2,ab,aa,aa,aa,hN0,kR _⟩⟩ ?_
    ·exact cA
    ·exact cA
    ·rfl
    ·exact⟨.lit aa,.append (.vals _) (.vals _),ag⟩
    rintro m L M w16 ⟨i,kO,es,hi,rfl,rfl,rfl,hN6,kw6⟩;refine aj ?_
    have bH:∀ w',wi [CR 5,ub] Xj w'->aU w w':=λw' hb=>wi.bI (bW9.aR b15) hb (λx hx=>by
     simp only[List.mem_cons,List.not_mem_nil,or_false] at hx;have h1:=bW2.size;rcases hx with rfl|rfl <;> omega)
    by_cases hlt3:i<n
    ·refine VS.aV aa (aE (aQ.2 hlt3)) ?_;refine aj ?_;obtain⟨e,he⟩:∃ e,es[i]? =some e:=⟨_,ba (by rw[<-hN6.len];exact hlt3)⟩;by_cases hz5:(z:Int).tmod 5=0
     ·refine VS.aV aa (Vj hz5) ?_;refine aj ?_;obtain⟨CE,sX,vL,Gx,hcell⟩:=hN6.cell (df 82) he;obtain⟨_,rfl,⟨ep,ec,er,ed,rfl,qQ⟩,mC⟩:=vL;refine VO.call aa aa (fk pQ) (λwa20 ka20 ba20=>(fC _ _ wa20 ab ab ab ab).mono ?_);rintro e' Lc ⟨r20,rfl,q20,hb20⟩;obtain⟨s20,p20,n20,c20,t20,y20,m20,d20,rfl⟩:=q20.form;refine nk hb20 ?_;intro kb20 _ bb20;refine VO.cond aa dQ (wV aa ?_);refine aj ?_;refine VO.cond aa (by show 0+((i:Int)).toNat*6+2+4<=_;rw[hN6.fl,dC];have:=hN6.le;omega) (VO.fi 343 aa (oW (new:=[.bool s20,.slice p20 n20 c20,.bool t20,.slice y20 m20 d20]) (o:=2) (hN6.el.lens (df _)) sX (bM aa)) (wV aa ?_));refine aj ?_;have hf20:=gY (sq (n:=(z:Int)) (d:=3) ab ab ab ab);have hN7:jq (pJ 82) 6 Lc n cu (kO.set i [.int .i64 e.1,.int .i64 e.2.1,.bool s20,.slice p20 n20 c20,.bool t20,.slice y20 m20 d20]) (sp.map .val) (es.set i (e.1,e.2.1,gX (Rat.divInt (z:Int) 3))):=hN6.set (df 82) bm ⟨_,aa,q20.rd.Ju,⟨bj hf20.1 bq,bj hf20.2 bq⟩⟩;have he7:(es.set i (e.1,e.2.1,gX (Rat.divInt (z:Int) 3)))[i]? =some (e.1,e.2.1,gX (Rat.divInt (z:Int) 3)):=List.getElem?_set_self (cQ.1 he).1;have kw7:bQ (KU UU) Xj Lc:=by exact bm
      obtain⟨csr7,hcsr7,hEr7,hlr7,TY⟩:=hN7.cell (df 82) he7;obtain⟨_,rfl,⟨ep7,ec7,er7,ed7,rfl,hraw7⟩,hfew7⟩:=hEr7;refine VO.iR aa [.bool s1,.slice p1 n1 c1,.bool t1,.slice y1 m1 d1,.bool s2,.slice p2 n2 c2,.bool t2,.slice y2 m2 d2,.int .i64 k] aa (sG hr5.lt XE (Wc hr5)) (wV aa ?_);refine aj ?_;refine VO.cond aa dQ (wV aa ?_);refine aj ?_;refine VO.dY aa (([.int .i64 e.1]:List Value).map .val) aa (TY 0 _ ⟨_,aa⟩) (wV aa ?_);refine aj ?_;refine VO.eB aa (fk Tryz.func6) (λBG β21 ka21 MR ho=>(pj _ _ _ _ S F k _ [v3,v4,v5,v6,v7] (X.1,es.set i (e.1,e.2.1,gX (Rat.divInt (z:Int) 3))) 3 82 BG (hR15.kp bm) (hlB BG MR.1 bm) ⟨hrB BG MR.1 bm,(hN7.kp (df 82) bm).sl' (df 82) (ho.own 343 (.base (aJ.2 aa)) _ _ aa) (Kp.refl _ _)⟩).mono ?_);rintro e' Rv ⟨rfl,QN⟩;refine nk QN ?_;intro kb21 _ bb21;refine VS.back (n-(i+1)) ab ⟨_,_,?_,?_,?_,?_,⟨i+1,_,_,ab,aa,aa,aa,hN7.kp (df 82) bm,bm⟩⟩
      ·refine⟨aa,aa,aa,aa,aa,aa,?_,ag⟩;rw[<-aD (i:=i) (by have:=hN7.le;have:=hN7.cm;omega)];rfl
      ·exact cA
      ·rfl
      ·exact⟨.lit aa,.append (.vals _) (.vals _),ag⟩
     ·refine VS.aP aa (HT hz5) ?_;refine aj ?_;obtain⟨csr7,hcsr7,hEr7,hlr7,TY⟩:=hN6.cell (df 82) he;obtain⟨_,rfl,⟨ep7,ec7,er7,ed7,rfl,hraw7⟩,hfew7⟩:=hEr7;refine VO.iR aa [.bool s1,.slice p1 n1 c1,.bool t1,.slice y1 m1 d1,.bool s2,.slice p2 n2 c2,.bool t2,.slice y2 m2 d2,.int .i64 k] aa (sG hr5.lt XE (Wc hr5)) (wV aa ?_);refine aj ?_;refine VO.cond aa dQ (wV aa ?_);refine aj ?_;refine VO.dY aa (([.int .i64 e.1]:List Value).map .val) aa (TY 0 _ ⟨_,aa⟩) (wV aa ?_);refine aj ?_;refine VO.eB aa (fk Tryz.func6) (λBG β21 ka21 MR ho=>(pj _ _ _ _ S F k _ [v3,v4,v5,v6,v7] (X.1,es) 3 82 BG (hR15.kp bm) (hlB BG MR.1 bm) ⟨hrB BG MR.1 bm,(hN6.kp (df 82) bm).sl' (df 82) (ho.own 343 (.base (aJ.2 aa)) _ _ aa) (Kp.refl _ _)⟩).mono ?_);rintro e' Rv ⟨rfl,QN⟩;refine nk QN ?_;intro kb21 _ bb21;refine VS.back (n-(i+1)) ab ⟨_,_,?_,?_,?_,?_,⟨i+1,_,_,ab,aa,aa,aa,hN6.kp (df 82) bm,bm⟩⟩
      ·refine⟨aa,aa,aa,aa,aa,aa,?_,ag⟩;rw[<-aD (i:=i) (by have:=hN6.le;have:=hN6.cm;omega)];rfl
      ·exact cA
      ·rfl
      ·exact⟨.lit aa,.append (.vals _) (.vals _),ag⟩
    ·refine VS.aP aa (aA (λe=>hlt3 (aQ.1 e))) ?_;refine aj ?_;refine VS.Vm aa (40-(z+1)) ab [(0,.bool false),(1,.int .i64 k),(2,.int .i64 ((z+1:Nat):Int))] ⟨aa,aa,?_,ag⟩ (λw' hk ho=>⟨z+1,ab,aa,aa,bH w' ho.1⟩);rw[<-aD (i:=z) ab];rfl
  ·refine VS.aP aa (aA hz4) ?_;refine bJ ?_;refine VS.Vm aa ((6-(k+1)).toNat) ab [(0,.bool false),(1,.int .i64 (k+1))] ⟨aa,?_,ag⟩ (λw' hk ho=>⟨k+1,ab,ab,aa,aa,bW2.aR ho⟩);rw[cV (k+1) ab];rfl
 ·refine VS.aP aa (aA hlt) ?_;refine bJ ?_;refine VO.call aa aa (fk Ai) (λwa30 ka30 ba30=>(gG wa30).mono ?_);rintro e w30 ⟨r30,rfl,q30,hb30⟩;obtain⟨aS,cS,bS,dS,aF,cF,bF,dF,rfl,hS,hF⟩:=q30;refine eC hb30 ?_;intro kb30 _ bb30;refine VO.call aa aa (fk pR) (λwa31 ka31 ba31=>(eX 1 1 wa31 ab ab ab ab).mono ?_);rintro e w31 ⟨r31,rfl,⟨s31,p31,n31,c31,t31,y31,m31,d31,e31,f31,g31,h31,i31,j31,k31,l31,rfl,q31⟩,hb31⟩
  skip
  refine eC hb31 ?_;intro kb31 _ bb31;refine VO.cB aa aa (fk Tryz.func5) (λwa32 ka32 ba32=>rj _ _ zR (gX zW) 2 [] 2 wa32 ⟨none,0,none,0,aF,cF,bF,dF,aa,Wb _,hF.kp kL⟩ (dm.nil _ _ _)) (λwa32 ka32 ba32 w32 hb32 kb32 _ bb32=>wV aa ?_);refine bJ ?_;refine VO.call aa aa (fk Ai) (λwa33 ka33 ba33=>(gG wa33).mono ?_);rintro e w33 ⟨r33,rfl,q33,hb33⟩;obtain⟨aS3,cS3,bS3,dS3,aF3,cF3,bF3,dF3,rfl,ND,NF⟩:=q33;refine eC hb33 ?_;intro kb33 _ bb33;refine VO.eB aa (fk Tryz.func5) (λwa34 β ka34 ba34 ho=>(rj _ _ (gX CL) (gX zW) 2 [(zR,gX (Rat.divInt 1 1))] 2 wa34 ⟨aS3,cS3,bS3,dS3,aF3,cF3,bF3,dF3,aa,ND.kp kL,NF.kp kL⟩ (gw (bg 2) (ho.own 144 (.base (aJ.2 aa)) _ _ aa) [] (vs:=[z4++[.bool e31,.slice f31 g31 h31,.bool i31,.slice j31 k31 l31]]) (by rfl) (cd.cons ((bg 2).kp (yr_zero q31) kL) cd.nil) aa (bM aa) bq)).mono ?_);rintro e w34 ⟨rfl,PR⟩;refine eC PR ?_;intro kb34 _ bb34;refine VO.cB aa aa (fk Tryz.func5) (λwa35 ka35 ba35=>rj _ _ (gX zW) (gX zW) 41 [] 2 wa35 ⟨aF,cF,bF,dF,aF,cF,bF,dF,aa,hF.kp kL,hF.kp kL⟩ (dm.nil _ _ _)) (λwa35 ka35 ba35 w35 SB kb35 _ bb35=>wV aa ?_);refine bJ ?_;refine VO.call aa aa (fk Ai) (λwa36 ka36 ba36=>(gG wa36).mono ?_);rintro e w36 ⟨r36,rfl,q36,hb36⟩;obtain⟨aS6,cS6,bS6,dS6,aF6,cF6,bF6,dF6,rfl,hS6,hF6⟩:=q36;refine eC hb36 ?_;intro kb36 _ bb36;refine VO.cond aa ⟨aa,ab,bq⟩ (wV aa ?_);refine bJ ?_;refine VO.eB aa (fk Tryz.func5) (λwa37 β ka37 ba37 ho=>(rj _ _ (gX CL) (gX zW) 2 (List.replicate 41 (zR,zR)) 2 wa37 ⟨aS6,cS6,bS6,dS6,aF6,cF6,bF6,dF6,aa,hS6.kp kL,hF6.kp kL⟩ (gw (bg 2) (ho.own 157 (.base (aJ.2 aa)) _ _ aa) [] (vs:=List.replicate 41 (z4++z4)) (by rfl) (Rg ⟨z4,z4,aa,nul4 _,nul4 _,⟨fH _,fH _⟩,⟨fH _,fH _⟩⟩ 41) aa (bM aa) bq)).mono ?_);rintro e w37 ⟨rfl,hb37⟩;refine eC hb37 ?_;intro kb37 _ bb37;refine VO.call aa aa (fk Ai) (λwa38 ka38 ba38=>(gG wa38).mono ?_);rintro e w38 ⟨r38,rfl,q38,hb38⟩;obtain⟨aS8,cS8,bS8,dS8,aF8,cF8,bF8,dF8,rfl,hS8,hF8⟩:=q38;refine eC hb38 ?_;intro kb38 _ bb38;refine VO.cB aa aa (fk Tryz.func6) (λwa39 ka39 ba39=>pj _ _ _ _ (gX CL) (gX zW) 2 _ [] ([],[]) 2 82 wa39 ⟨aS8,cS8,bS8,dS8,aF8,cF8,bF8,dF8,aa,hS8.kp kL,hF8.kp kL⟩ (dm.nil _ _ _) ⟨dm.nil _ _ _,dm.nil _ _ _⟩) (λwa39 ka39 ba39 w39 hb39 kb39 _ bb39=>wV aa ?_);refine bJ ?_;refine VO.cB aa aa (fk Tryz.func34) (λwa40 ka40 ba40=>TW wa40) (λwa40 ka40 ba40 w40 hb40 kb40 _ bb40=>wV aa ?_);refine bJ ?_;refine VO.cB aa aa (fk nM) (λBC MC zM=>dR BC) (λBC MC zM w41 hb41 kb41 _ bb41=>wV aa ?_);refine bJ ?_;refine rh ?_;intro wz kz bz;exact⟨aa,bW.aR bz⟩
end Go.Proofs.YtabalinjfgcfeaaGreat
