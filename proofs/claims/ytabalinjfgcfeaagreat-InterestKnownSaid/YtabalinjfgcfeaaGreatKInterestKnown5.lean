/-Gb of the proof,laid behind one another. -/
import Derived.Test.YtabalinjfgcfeaaGreatKInterestKnown4
set_option linter.all false
set_option maxHeartbeats 64000000
set_option maxRecDepth 4000
namespace Go.Proofs.YtabalinjfgcfeaaGreat
section
open Go.RowKit
attribute [local irreducible] aG VS
def Iz (D:Nat) (x:Rat):Prop:=∃ n:Int,x*((D:Int):Rat)=((n:Int):Rat)
variable {D:Nat}
theorem Iz.zero:Iz D 0:=⟨0,by rw[Rat.zero_mul];rfl⟩
variable {x y:Rat}
theorem Iz.add (h:Iz D x) (k:Iz D y):Iz D (x+y):=by
 obtain⟨a,ha⟩:=h;obtain⟨b,hb⟩:=k;exact⟨a+b,by rw[Rat.intCast_add,<-ha,<-hb];grind⟩
theorem Iz.sub (h:Iz D x) (k:Iz D y):Iz D (x-y):=by
 obtain⟨a,ha⟩:=h;obtain⟨b,hb⟩:=k;exact⟨a-b,by rw[Rat.intCast_sub,<-ha,<-hb];grind⟩
variable {w:World}
theorem VO.via {C:Cx} {m:Option (List FuncId)} {full:Array Oper} {l:List Oper} {Q:Exit->Act->World->Prop} {F:Fr} {H:Hp} {P:Fr->Hp->World->Prop} {stk0 stk1:List It} (h1:(∀ F' H' w',P F' H' w'->VS C Q stk1 F' H' w')->aG C m full l (VS C Q stk0) F H w) (h2:∀ F' H' w',P F' H' w'->VS C Q stk1 F' H' w'):aG C m full l (VS C Q stk0) F H w:=h1 h2
theorem FQ {d:Rat} (h:d≠0):eQ d 0≠0:=λe=>h (by
 have h1:=qf.1 (show eQ d 0<=0 by omega);have h2:=Bj.1 (show eQ d 0>=0 by omega);grind)
theorem rnr_ok' {a y:AV} {r:Value} (h:aY a=true) (hr:bD r=true) (hu:aY y=true):[a,.val r,y].all aY=true:=by
 rw[lz,lz,lz,h,hu];show (true && (bD r && true))=true;rw[hr];rfl
structure El (B:Nat) (w:World) (n c:Nat) (vs:List (List Value)) (sp:List AV) (es:List Uq):Prop where
 len:n=es.length
 el:cd (vU B) w es vs
 so:sp.all aY=true
 sl:aI sp=[]
 le:n<=c
 cm:c<=9223372036854775807
 fl:(vs.flatten.map AV.val++sp).length=c*6
variable {vs:List (List Value)} {sp:List AV} {es:List Uq} {B c:Nat}
theorem El.kp {n:Nat} {w':World} (h:El B w n c vs sp es) (k:Kp UU w w'):El B w' n c vs sp es:=⟨h.len,h.el.kp (fD B) k,h.so,h.sl,h.le,h.cm,h.fl⟩
theorem El.o {n:Nat} (h:El B w n c vs sp es) (β:Nat->Nat):fm (vU B) 6 w n 0 c [] vs (sp.map (AV.leaf β)) es:=
 ⟨h.len,.inl rfl,rfl,h.el,eN h.so,h.le,h.cm,by have:=h.fl;rw[bB,bu] at this;rw[bB,bu];exact this⟩
variable {pre spare:List Value} {off:Nat}
theorem cL {cs:List Value} (nw:pre.length=off) (k:Nat) (ds:List Value) (hd:ds <+:cs.drop k):∀ (j:Nat) (u:AV),(ds.map AV.val)[j]? =some u->((pre++((cs::vs).flatten++spare)).map AV.val)[off+k+j]? =some u:=by
 intro j u hj;obtain⟨t,ht⟩:=hd;rw[nJ] at hj ⊢
 have hlt:j<ds.length:=by
  by_cases h:j<ds.length
  ·exact h
  ·rw[vi ab] at hj;cases hj
 have hk:k+j<cs.length:=by
  have:=au List.length ht;rw[bB,rM] at this;omega
 rw[jT ab,nw,oA,fu,show off+k+j-off=k+j by omega,gm hk,<-tf,<-ht,gm hlt];exact hj
variable {x1 x2 x3 x4 y1 y2 y3 y4:Value}
theorem Bo {a:Value} (nw:pre.length=off):
  ((pre++(([a,x1,x2,x3,x4]::vs).flatten++spare)).map AV.val).take (off+1)++([.val y1,.val y2,.val y3,.val y4]++((pre++(([a,x1,x2,x3,x4]::vs).flatten++spare)).map AV.val).drop (off+1+4))=(pre++(([a,y1,y2,y3,y4]::vs).flatten++spare)).map AV.val:=by
 have e:off=(pre.map AV.val).length:=by rw[bu];exact nw.symm
 rw[bC,e,yB,List.take_length_add_append,List.drop_length_add_append,fu,bC];simp
variable {c':Nat}
theorem uV {a:Value} (nw:pre.length=off):(pre++[a,y1,y2,y3,y4]).length=(if c'=1 then off else off+5)\/c' -1=0:=by
 by_cases h:c'=1
 ·exact .inr ab
 ·rw[if_neg h,bB,nw];exact .inl aa
theorem uW {a:Value} (h:(([a,x1,x2,x3,x4]::vs).flatten++spare).length=c' *5):(vs.flatten++spare).length=(c' -1)*5:=by
 rw[oA,fu,bB] at h;have h':5+(vs.flatten++spare).length=c' *5:=h;omega
theorem gM (pre cs:List Value) (vs:List (List Value)) (spare:List Value):(pre++((cs::vs).flatten++spare)).map AV.val=((pre++cs)++(vs.flatten++spare)).map AV.val:=by
 rw[oA,fu,fu]
def Bp (B:Nat) (D:Nat) (M:Rat) (W0:World) (rv:Value) (y:Nat) (q:List Vq) (m:Rat) (idx:Nat) (L:List (Nat×AV)) (Mm:List (Nat×(TypeId×List AV))) (w':World):Prop:=
 ∃ (q':List Vq) (bE n' c':Nat) (dI:List Value) (kO:List (List Value)) (ax:List Value) (m' s':Rat) (done:List Uq) (v8 Us:AV) (Um:List (Nat×(TypeId×List AV))) (s1 t1 s2 t2:Bool) (p1 y1 p2 y2:Option Addr) (n1 c1 m1 d1 n2 c2 m2 d2:Nat),
   idx=2*q'.length+(if 0<m' then 1 else 0)/\L=[(0,.box 154 0),(1,.val (.int .i64 (y:Int))),(5,.box 5 0),(6,.box 6 0),(7,.box 7 0),(8,v8)]/\
   Mm=(154,(Runner,[.row 155 bE n' c',.val rv,Us]))::(155,(ff,(dI++(kO.flatten++ax)).map .val))::(5,(26,([.bool s1,.slice p1 n1 c1,.bool t1,.slice y1 m1 d1]:List Value).map .val))::(6,(26,([.bool false,.slice none 0 0,.bool false,.slice none 0 0]:List Value).map .val))::(7,(26,([.bool s2,.slice p2 n2 c2,.bool t2,.slice y2 m2 d2]:List Value).map .val))::Um/\
   fm (eV B) 5 w' n' bE c' dI kO ax q'/\cJ w' (.agg #[.bool s1,.slice p1 n1 c1,.bool t1,.slice y1 m1 d1]) m'/\aW w' W0.heap.size (.agg #[.bool s2,.slice p2 n2 c2,.bool t2,.slice y2 m2 d2]) s'/\Iz D m'/\Iz D s'/\0<=m'/\0<=s'/\s' +m'=m/\(∀ p∈q',Iz D p.2/\0<=p.2/\p.2<=M)/\
   wj y q m=done++wj y q' m'/\sw q m=sw q' m'/\zV q m=s' +zV q' m'/\((n'=0/\v8=.val (.pointer none))\/(n'≠0/\v8=.rz 155 bE))/\done.length+(if 0<m' then q'.length else 0)<=q.length/\
   ((Us=.val (.slice none 0 0)/\Um=[]/\done=[])\/∃ un uc xx tV,Us=.row 47 0 un uc/\Um=[(47,(gL,xx.flatten.map .val++tV))]/\El B w' un uc xx tV (done))
def Bq (B:Nat) (D:Nat) (M:Rat) (W0:World) (rv:Value) (y:Nat) (q:List Vq) (m:Rat) (Jr Mq:Nat) (tW:List (List Value)) (vV:List Value) (us0:List Uq) (idx:Nat) (L:List (Nat×AV)) (Mm:List (Nat×(TypeId×List AV))) (w':World):Prop:=
 ∃ (q':List Vq) (bE n' c':Nat) (dI:List Value) (kO:List (List Value)) (ax:List Value) (m' s':Rat) (done:List Uq) (v8 Us:AV) (Um:List (Nat×(TypeId×List AV))) (s1 t1 s2 t2:Bool) (p1 y1 p2 y2:Option Addr) (n1 c1 m1 d1 n2 c2 m2 d2:Nat),
   idx=2*q'.length+(if 0<m' then 1 else 0)/\L=[(0,.box 154 0),(1,.val (.int .i64 (y:Int))),(5,.box 5 0),(6,.box 6 0),(7,.box 7 0),(8,v8)]/\
   Mm=(154,(Runner,[.row 155 bE n' c',.val rv,Us]))::(155,(ff,(dI++(kO.flatten++ax)).map .val))::(5,(26,([.bool s1,.slice p1 n1 c1,.bool t1,.slice y1 m1 d1]:List Value).map .val))::(6,(26,([.bool false,.slice none 0 0,.bool false,.slice none 0 0]:List Value).map .val))::(7,(26,([.bool s2,.slice p2 n2 c2,.bool t2,.slice y2 m2 d2]:List Value).map .val))::Um/\
   fm (eV B) 5 w' n' bE c' dI kO ax q'/\cJ w' (.agg #[.bool s1,.slice p1 n1 c1,.bool t1,.slice y1 m1 d1]) m'/\aW w' W0.heap.size (.agg #[.bool s2,.slice p2 n2 c2,.bool t2,.slice y2 m2 d2]) s'/\Iz D m'/\Iz D s'/\0<=m'/\0<=s'/\s' +m'=m/\(∀ p∈q',Iz D p.2/\0<=p.2/\p.2<=M)/\
   wj y q m=done++wj y q' m'/\sw q m=sw q' m'/\zV q m=s' +zV q' m'/\((n'=0/\v8=.val (.pointer none))\/(n'≠0/\v8=.rz 155 bE))/\done.length+(if 0<m' then q'.length else 0)<=q.length/\
   ((Us=.row 156 0 Jr Mq/\Um=[(156,(gL,tW.flatten.map .val++vV.map .val))]/\done=[]/\bQ (KU UU) W0 w')\/∃ un uc xx tV,Us=.row 47 0 un uc/\Um=[(47,(gL,xx.flatten.map .val++tV))]/\El B w' un uc xx tV (us0++done))
set_option maxRecDepth 4000 in
theorem iUse_nil (B g b off n c y D kk:Nat) (M m:Rat) (pre:List Value) (vs:List (List Value)) (spare:List Value) (q:List Vq) (rv v:Value) (w:World)
  (hg:bO w g Runner #[.slice (some ⟨b,off,none⟩) n c,rv,.slice none 0 0]) (hb:bO w b ff (pre++(vs.flatten++spare)).toArray) (hO:fm (eV B) 5 w n off c pre vs spare q) (hr:bD rv=true) (hv:cJ w v m) (hmI:Iz D m) (Ie:0<=m) (hmM:m<=M) (hq:∀ p∈q,Iz D p.2/\0<=p.2/\p.2<=M)
  (hK:∀ x,Iz D x->0<=x->x<=M->fI x kk) (hk:kk<=100000) (pI:q.length<=1000) (hB:B<=w.heap.size):
  Calls Tryz.prog 73 #[.pointer (some ⟨g,0,none⟩),.int .i64 (y:Int),v] w λo w'=>∃ x,o=.returned x/\aW w' w.heap.size x (zV q m)/\wi [g,b] w w'/\∃ bE n' c' dI kO ax uv,bO w' g Runner #[.slice (some ⟨b,bE,none⟩) n' c',rv,uv]/\bO w' b ff (dI++(kO.flatten++ax)).toArray/\fm (eV B) 5 w' n' bE c' dI kO ax (sw q m)/\((uv=.slice none 0 0/\wj y q m=[])\/∃ b' un uc xx tV,w.heap.size<=b'/\uv=.slice (some ⟨b',0,none⟩) un uc/\bO w' b' gL (xx.flatten++tV).toArray/\fm (vU B) 6 w' un 0 uc [] xx tV (wj y q m)):=by
 have hgb:g≠b:=λe=>by subst e;exact absurd (cK hg hb) bq
 obtain⟨s0,p0,n0,c0,t0,y0,m0,d0,rfl⟩:=hv.form
 have xw:nd (KU UU) 77 [g,b] [(Runner,[.row 155 off n c,.val rv,.val (.slice none 0 0)]),(ff,(pre++(vs.flatten++spare)).map .val)] w:=by
  refine⟨aa,by simp[hgb],λj g' c' hj hc=> ?_,λc' hc=> ?_,λc' hc k hk=> ?_⟩
  ·match j,hj,hc with
   | 0,hj,hc=>cases hj;cases hc;exact hg
   | 1,hj,hc=>cases hj;cases hc;rw[ak];exact hb
   | j+2,hj,_=>simp at hj
  ·rcases dW.1 hc with rfl|hc
   ·exact⟨aa,Mo aa hr aa⟩
   ·cases aJ.1 hc;exact⟨aa,bP (hO.all (bt B))⟩
  ·rcases dW.1 hc with rfl|hc
   ·have:k=155:=by simpa [aI,AV.eu] using hk
    subst this;exact⟨ab,by show 155<2*77+2;omega⟩
   ·cases aJ.1 hc;rw[aw] at hk;cases hk
 refine iw Tryz.prog w _ (KU UU) (λt=>Nat.beq t 22) table (λ_ _=>trivial) (ad:=[g,b]) (us:=[_,_]) Gm aa Tryz.ntmps73 (bM aa) xw (bM aa) ?_;refine aj ?_;refine VO.call aa aa (fk nK) (λbn cG bo=>((dz 0 bn ab ab).mono (λo w2 h=>And.intro h bo.1.size)).mono ?_);rintro o w1 ⟨⟨r9,rfl,q9,Sg⟩,Ta⟩;obtain⟨s9,p9,n9,c9,t9,y9,m9,d9,rfl⟩:=q9.form;refine nk Sg ?_;intro Jp _ bb9;have h00:((0:Int):Rat)=0:=aa;rw[h00] at q9;apply VO.via (P:=λF' H' w'=>Entry (Bp B D M w rv y q m ) (2*q.length+(if 0<m then 1 else 0)) F' H' w')
 ·intro cont;by_cases rn:n=0
  ·refine VO.fE (x:=.row 155 off n c) (p:=λ_=>none) (c:=c) aa (λβ=>.inr ⟨_,au (λn=>Value.slice (some ⟨β 155,off,none⟩) n c) rn⟩) aa (fk gO) aa (λw3 k3 b3=>wV aa ?_);refine aj ?_;refine cont _ _ _ ⟨_,_,?_,?_,?_,?_,⟨q,off,n,c,pre,vs,spare,m,0,[],.val (.pointer none),_,_,_,_,_,_,_,_,_,_,_,_,_,_,_,_,_,_,aa,aa,aa,hO.kp (bt B) bm,hv.k,(q9.mono Ta).kp bm,hmI,Iz.zero,Ie,mK,cY,hq,aa,aa,cY,.inl ⟨rn,aa⟩,by split <;> simp,.inl ⟨rfl,rfl,rfl⟩⟩⟩
   ·exact cA
   ·exact cA
   ·rfl
   ·exact⟨.lit aa,.vals _,.vals _,.vals _,.vals _,ag⟩
  ·refine VO.eW aa aa (fk gO) aa rn (by intro h;cases h) (λw3 k3 b3=>wV aa ?_);refine aj ?_;refine cont _ _ _ ⟨_,_,?_,?_,?_,?_,⟨q,off,n,c,pre,vs,spare,m,0,[],.rz 155 off,_,_,_,_,_,_,_,_,_,_,_,_,_,_,_,_,_,_,aa,aa,aa,hO.kp (bt B) bm,hv.k,(q9.mono Ta).kp bm,hmI,Iz.zero,Ie,mK,cY,hq,aa,aa,cY,.inr ⟨rn,aa⟩,by split <;> simp,.inl ⟨rfl,rfl,rfl⟩⟩⟩
   ·exact cA
   ·exact cA
   ·rfl
   ·exact⟨.lit aa,.vals _,.vals _,.vals _,.vals _,ag⟩
 ·intro F0 H0 w0' hent;refine VS.loop (J:=Bp B D M w rv y q m ) _ hent ?_;rintro idx L Mm w' ⟨q',bE,n',c',dI,kO,ax,m',s',done,v8,Us,Um,s1,t1,s2,t2,p1,y1,p2,y2,n1,c1,m1,d1,n2,c2,m2,d2,rfl,rfl,rfl,lZ,Ru,yY,sV,Xw,CB,hs0,hsm,OY,eU,eL,eS,Xx,mD,BQ⟩;have xy:m'<=M:=cY;have hsM:s'<=M:=cY;rcases BQ with ⟨rfl,rfl,rfl⟩|⟨un,uc,xx,tV,rfl,rfl,CC⟩
  ·rcases Xx with ⟨rn,rfl⟩|⟨rn,rfl⟩
   ·have Rk:q'=[]:=js (by rw[<-lZ.len];exact rn);subst Rk;have fU:wj y [] m'=[]:=aa;have fL:sw [] m'=[]:=aa;have fS:zV [] m'=0:=aa;refine aj ?_;refine VS.pG (cP _ _) aa (λwz β kz oz en=> ?_);obtain⟨o1,o2⟩:=iy (en.own 154 _ _ aa) 0 g aa aa;obtain⟨o3,o4⟩:=iy (en.own 155 _ _ aa) 1 b aa aa;rw[ak] at o4;replace o3:β 155=b:=o3;rw[fU] at eU;rw[fL] at eL;rw[fS,show s' +0=s' by grind] at eS;refine⟨_,aa,?_,oz.1,bE,n',c',dI,kO,ax,.slice none 0 0,?_,o4,?_,.inl ⟨aa,?_⟩⟩
    ·rw[eS];exact yY.k
    ·rw[<-o3];exact o2
    ·rw[eL];exact lZ.kp (bt B) bm
    ·rw[eU];rfl
   ·obtain⟨e,jJ,rfl⟩:∃ e jJ,q'=e::jJ:=by
     cases q' with
     | nil=>exact absurd lZ.len rn
     | cons e jJ=>exact⟨e,jJ,aa⟩
    obtain⟨cs,kx,rfl,hE,zH⟩:∃ cs kx,kO=cs::kx/\eV B w' cs e/\cd (eV B) w' jJ kx:=by
     have:=lZ.el;cases this with
     | cons h1 h2=>exact⟨_,_,aa,h1,h2⟩
    obtain⟨s3,p3,n3,c3,t3,y3,m3,d3,rfl,hE3⟩:=hE;have Eh:=lZ.le;have zx:=lZ.len;have Ef:=lZ.cm;have nw:dI.length=bE:=lZ.pl.resolve_right ab;obtain⟨mA,AW,Dv⟩:=OY e bN;refine aj ?_;obtain⟨sg,ny⟩:∃ sg,eQ m' 0=sg:=⟨_,aa⟩;refine VO.cB aa aa (fk mJ) (λbn cG bo=>ea _ m' kk bn (Ru.ki (hK m' sV CB xy)) ab sg ny) (λbn cG bo w1 bA eF _ bb1=>wV aa ?_);refine aj ?_;by_cases hm:0<m'
    ·have oT:sg>0:=by rw[<-ny];exact jy.2 hm
     rw[if_pos hm] at mD;refine VS.aV aa (aE oT) ?_;refine aj ?_;refine VO.dY aa (([.bool s3,.slice p3 n3 c3,.bool t3,.slice y3 m3 d3]:List Value).map .val) aa (cL nw 1 _ ⟨[],aa⟩) (wV aa ?_);refine aj ?_;have ym:=dJ e.2 m';have Tb:0<=ai e.2 m':=by rcases ym with ⟨h,_⟩|⟨h,_⟩ <;> rw[h] <;> assumption
     have sC:Iz D (ai e.2 m'):=by rcases ym with ⟨h,_⟩|⟨h,_⟩ <;> rw[h] <;> assumption
     have Co:=eh e.2 m';have FI:=dM e.2 m';have sY:=hK _ sC Tb (Rat.le_trans FI xy);refine VO.eB aa (fk Ah) (λcz β dB cT ho=>((kg _ _ e.2 [m'] kk cz (hE3.rd.ki (hK e.2 mA AW Dv)) (et (ho.own 31 (.base (aJ.2 aa)) _ _ aa) [] (vs:=[[.bool s1,.slice p1 n1 c1,.bool t1,.slice y1 m1 d1]]) (by rfl) aa (bV.cons (Ru.ki (hK m' sV CB xy)) bV.nil) (bM aa) bq) ab (bM aa)).mono (λo w2 h=>And.intro h cT.1.size)).mono ?_);rintro o w2 ⟨⟨r4,rfl,q4,z4,cC⟩,zI⟩;rw[gK] at q4;have Ij:aW w2 w.heap.size r4 (ai e.2 m'):=q4.mono zI;obtain⟨s4,p4,n4,c4,t4,y4,m4,d4,rfl⟩:=Ij.form;refine nk cC ?_;intro fe _ bb2;refine VO.dY aa (([.int .i64 (e.1:Int)]:List Value).map .val) aa (cL nw 0 _ ⟨_,aa⟩) (wV aa ?_);refine aj ?_
     refine VO.app (cP _ _) (t:=34) (e:=gL) (sz:=6) (n:=0) (c:=0) (mm:=1) (known:=[]) (spare:=[]) (del:=none) (news:=([.int .i64 (e.1:Int),.int .i64 (y:Int),.bool s4,.slice p4 n4 c4,.bool t4,.slice y4 m4 d4]:List Value).map .val) (dst:=47) aa aa aa aa aa aa aa aa (bM aa) aa (.inl ⟨aa,aa,aa,aa,aa,aa,ab⟩) (.inl aa) aa aa (bL _) ab ⟨aa,aa,aa⟩ ⟨aa,aa,aa⟩ aa ab
      (λw1 β k1 b1 ho=>⟨_,_,rfl,.inr ⟨β 46,0,rfl,eH (rest:=[]) (ho.own 46 (.base (iY _ (aJ.2 rfl))) _ _ rfl) rfl⟩⟩)
      (λvI cap' iU ρ Vo Vp iI ll kC fT uU gr=>wV rfl ?_)
     refine aj ?_;have Jb:El B vI (0+1) cap' ([[.int .i64 (e.1:Int),.int .i64 (y:Int),.bool s4,.slice p4 n4 c4,.bool t4,.slice y4 m4 d4]]:List (List Value)) iU (([]++[(e.1,y,ai e.2 m')])):=⟨by simp <;> omega,by exact cd.cons (show vU B vI [.int .i64 (e.1:Int),.int .i64 (y:Int),.bool s4,.slice p4 n4 c4,.bool t4,.slice y4 m4 d4] (e.1,y,ai e.2 m') from ⟨s4,p4,n4,c4,t4,y4,m4,d4,aa,(Ij.mono hB).kp bm⟩) cd.nil,uU,gr,ll,kC,by simpa using fT⟩;refine VO.call aa aa (fk tk) (λfQ iH fV=>((gi _ _ s' (ai e.2 m') kk kk fQ (yY.rd.ki (hK s' Xw hs0 hsM)) (Ij.rd.ki sY) ab ab).mono (λo w2 h=>And.intro h fV.1.size)).mono ?_);rintro o w5 ⟨⟨r5,rfl,q5,iz⟩,tX⟩;obtain⟨s5,p5,n5,c5,t5,y5,m5,d5,rfl⟩:=q5.form;refine nk iz ?_;intro lg _ sR;refine VO.cR aa aa (fk nL) (λfJ iK gE=>ew _ _ m' (ai e.2 m') kk kk fJ (Ru.ki (hK m' sV CB xy)) (Ij.rd.ki sY) ab ab) (λfJ iK gE w6 s6 p6 n6 c6 t6 y6 m6 d6 q6 ln lH _ sj=>wV aa ?_);refine aj ?_;refine VO.dY aa (([.bool s3,.slice p3 n3 c3,.bool t3,.slice y3 m3 d3]:List Value).map .val) aa (cL nw 1 _ ⟨[],aa⟩) (wV aa ?_);refine aj ?_;refine VO.call aa aa (fk nL) (λjS na jI=>((ew _ _ e.2 (ai e.2 m') kk kk jS (hE3.rd.ki (hK e.2 mA AW Dv)) (Ij.rd.ki sY) ab ab).mono (λo w2 h=>And.intro h jI.1.size)).mono ?_);rintro o w7 ⟨⟨r7,rfl,q7,ta⟩,Tc⟩;obtain⟨s7,p7,n7,c7,t7,y7,m7,d7,rfl⟩:=q7.form;refine nk ta ?_;intro rB _ Ct;refine VO.cond aa (by show bE +1+4<=_;rw[bu,bB,bB,oA,bB,nw];show bE +1+4<=bE +(6-1+_+_);omega) (VO.fi 155 aa (Bo nw) (wV aa ?_));refine aj ?_;refine VO.dY aa (([.bool s7,.slice p7 n7 c7,.bool t7,.slice y7 m7 d7]:List Value).map .val) aa (cL nw 1 _ ⟨[],aa⟩) (wV aa ?_);refine aj ?_;have FH:0<=e.2-ai e.2 m':=cY;have hlM:e.2-ai e.2 m'<=M:=cY;have hlI:Iz D (e.2-ai e.2 m'):=mA.sub sC;obtain⟨pZ,qa⟩:∃ pZ,eQ (e.2-ai e.2 m') 0=pZ:=⟨_,aa⟩;refine VO.cB aa aa (fk mJ) (λpV yn ru=>ea _ (e.2-ai e.2 m') kk pV (q7.ki (hK _ hlI FH hlM)) ab pZ qa) (λpV yn ru w8 vG vP _ KW=>wV aa ?_);refine aj ?_;have hE7:eV B w8 [.int .i64 (e.1:Int),.bool s7,.slice p7 n7 c7,.bool t7,.slice y7 m7 d7] (e.1,e.2-ai e.2 m'):=⟨s7,p7,n7,c7,t7,y7,m7,d7,aa,(q7.mono (bj hB Tc)).kp bm⟩;have KD:=lZ.so;have Xv:=lZ.po;have BN:=lZ.fl;have KN:0<=m' -ai e.2 m':=cY;have Sx:0<=s' +ai e.2 m':=cY;have Ik:s' +ai e.2 m' +(m' -ai e.2 m')=m:=cY;have Il:=(q6.kr (w':=w8) bm);have Im:aW w8 w.heap.size _ (s' +ai e.2 m'):=(q5.mono tX).kp bm;have hr8:cd (eV B) w8 jJ kx:=zH.kp (bt B) bm;by_cases hz:e.2-ai e.2 m'=0
     ·have zJ:(pZ == 0)=true:=by rw[<-qa,hz];rfl
      refine VS.aV aa zJ ?_;refine aj ?_;obtain⟨e1,e2,e3⟩:=ko (y:=y) (p:=e) (q:=jJ) hm hz;rw[e1,<-Uf,<-fu] at eU;rw[e2] at eL;rw[e3] at eS;refine VO.np aa aa (fk yJ) aa ab Eh Ef (λj hj=> ?_) (bM aa) (λw9 k9 b9=>wV aa ?_)
      ·rcases dW.1 hj with rfl|hj
       ·intro h;cases h
       ·cases aJ.1 hj;intro h;cases h
      refine aj ?_;have hO9:fm (eV B) 5 w9 (n' -1) (if c'=1 then bE else bE +5) (c' -1) (dI++[.int .i64 (e.1:Int),.bool s7,.slice p7 n7 c7,.bool t7,.slice y7 m7 d7]) kx ax jJ:=⟨by rw[zx];rfl,uV nw,by rw[ja,Xv];rfl,hr8.kp (bt B) bm,KD,ab,ab,uW BN⟩
      have gS:∀ (v8:AV) (wb:World),bQ (KU UU) w9 wb->((n' -1=0/\v8=.val (.pointer none))\/(n' -1≠0/\v8=.rz 155 (if c'=1 then bE else bE +5)))->Bp B D M w rv y q m (2*jJ.length+(if 0<m' -ai e.2 m' then 1 else 0)) [(0,.box 154 0),(1,.val (.int .i64 (y:Int))),(5,.box 5 0),(6,.box 6 0),(7,.box 7 0),(8,v8)]
        ((154,(Runner,[.row 155 (if c'=1 then bE else bE +5) (n' -1) (c' -1),.val rv,.row 47 0 (0+1) cap']))::(155,(ff,((dI++([.int .i64 (e.1:Int),.bool s7,.slice p7 n7 c7,.bool t7,.slice y7 m7 d7]:List Value))++(kx.flatten++ax)).map AV.val))::(5,(26,([.bool s6,.slice p6 n6 c6,.bool t6,.slice y6 m6 d6]:List Value).map .val))::(6,(26,([.bool false,.slice none 0 0,.bool false,.slice none 0 0]:List Value).map .val))::(7,(26,([.bool s5,.slice p5 n5 c5,.bool t5,.slice y5 m5 d5]:List Value).map .val))::[(47,(gL,([[.int .i64 (e.1:Int),.int .i64 (y:Int),.bool s4,.slice p4 n4 c4,.bool t4,.slice y4 m4 d4]]:List (List Value)).flatten.map AV.val++iU))]) wb:=λv8 wb kb Xx=>
       ⟨jJ,_,_,_,_,kx,ax,m' -ai e.2 m',s' +ai e.2 m',[]++[(e.1,y,ai e.2 m')],v8,_,_,_,_,_,_,_,_,_,_,_,_,_,_,_,_,_,_,rfl,rfl,rfl,hO9.kp (bt B) bm,Il.k,Im.k,sV.sub sC,Xw.add sC,KN,Sx,Ik,λp hp=>OY p (by simp[hp]),eU,eL,by rw[eS];grind,Xx,by simp at mD ⊢;split <;> omega,.inr ⟨_,_,_,_,rfl,rfl,Jb.kp bm⟩⟩
      have hlt:2*jJ.length+(if 0<m' -ai e.2 m' then 1 else 0)<2*(e::jJ).length+(if 0<m' then 1 else 0):=by
       rw[if_pos hm,fh];split <;> omega
      by_cases xI:n' -1=0
      ·refine VO.fE (x:=.row 155 (if c'=1 then bE else bE +5) (n' -1) (c' -1)) (p:=λ_=>none) (c:=c' -1) aa (λβ=>.inr ⟨_,au (λn=>Value.slice (some ⟨β 155,(if c'=1 then bE else bE +5),none⟩) n (c' -1)) xI⟩) aa (fk gO) aa (λwb Xy Vs=>wV aa ?_);refine aj ?_;refine VS.back _ hlt ⟨_,_,?_,?_,?_,?_,gS _ wb bm (.inl ⟨xI,aa⟩)⟩
       ·exact cA
       ·exact⟨aa,au (λl=>some (ff,l)) (gM _ _ _ _),aa,aa,aa,aa,ag⟩
       ·rfl
       ·exact⟨.lit aa,.vals _,.vals _,.vals _,.vals _,.append (.vals _) (.none gr),ag⟩
      ·refine VO.eW aa aa (fk gO) aa xI (by intro h;cases h) (λwb Xy Vs=>wV aa ?_);refine aj ?_;refine VS.back _ hlt ⟨_,_,?_,?_,?_,?_,gS _ wb bm (.inr ⟨xI,aa⟩)⟩
       ·exact cA
       ·exact⟨aa,au (λl=>some (ff,l)) (gM _ _ _ _),aa,aa,aa,aa,ag⟩
       ·rfl
       ·exact⟨.lit aa,.vals _,.vals _,.vals _,.vals _,.append (.vals _) (.none gr),ag⟩
     ·have zJ:(pZ == 0)=false:=by rw[<-qa,iZ];exact FQ hz
      refine VS.aP aa zJ ?_;refine aj ?_;obtain⟨e0,e1,e2,e3⟩:=km (y:=y) (p:=e) (q:=jJ) hm hz;refine VO.eW aa aa (fk gO) aa rn (by intro h;cases h) (λwb Xy Vs=>wV aa ?_);refine aj ?_;refine VS.back (2*(e::jJ).length+0) (by rw[if_pos hm];omega) ⟨_,_,?_,?_,?_,?_,⟨(e.1,e.2-ai e.2 m')::jJ,bE,n',c',dI,[.int .i64 (e.1:Int),.bool s7,.slice p7 n7 c7,.bool t7,.slice y7 m7 d7]::kx,ax,m' -ai e.2 m',s' +ai e.2 m',[]++[(e.1,y,ai e.2 m')],.rz 155 bE,_,_,_,_,_,_,_,_,_,_,_,_,_,_,_,_,_,_,by rw[if_neg e0];rfl,rfl,rfl,⟨zx,.inl nw,Xv,.cons ((bt B).kp hE7 bm) (hr8.kp (bt B) bm),KD,Eh,Ef,by simpa using BN⟩,Il.k,Im.k,sV.sub sC,Xw.add sC,KN,Sx,Ik,λp hp=> ?_,?_,?_,?_,.inr ⟨rn,rfl⟩,?_,.inr ⟨_,_,_,_,rfl,rfl,Jb.kp bm⟩⟩⟩
      ·exact cA
      ·exact⟨aa,aa,aa,aa,aa,aa,ag⟩
      ·rfl
      ·exact⟨.lit aa,.vals _,.vals _,.vals _,.vals _,.append (.vals _) (.none gr),ag⟩
      ·rcases dW.1 hp with rfl|hp
       ·exact⟨hlI,FH,hlM⟩
       ·exact OY p (by simp[hp])
      ·rw[eU,e1,lJ y _ e0,gA]
      ·rw[eL,e2,kh _ e0]
      ·rw[eS,e3,lK _ e0];grind
      ·rw[if_neg e0];simp at mD ⊢;omega
    ·have oT:¬ sg>0:=by rw[<-ny];exact λh=>hm (jy.1 h)
     refine VS.aP aa (aA oT) ?_;have fU:=lJ y (e::jJ) hm;have fL:=kh (e::jJ) hm;have fS:=lK (e::jJ) hm;refine aj ?_;refine VS.pG (cP _ _) aa (λwz β kz oz en=> ?_);obtain⟨o1,o2⟩:=iy (en.own 154 _ _ aa) 0 g aa aa;obtain⟨o3,o4⟩:=iy (en.own 155 _ _ aa) 1 b aa aa;rw[ak] at o4;replace o3:β 155=b:=o3;rw[fU] at eU;rw[fL] at eL;rw[fS,show s' +0=s' by grind] at eS;refine⟨_,aa,?_,oz.1,bE,n',c',dI,_,ax,.slice none 0 0,?_,o4,?_,.inl ⟨aa,?_⟩⟩
     ·rw[eS];exact yY.k
     ·rw[<-o3];exact o2
     ·rw[eL];exact lZ.kp (bt B) bm
     ·rw[eU];rfl
  ·rcases Xx with ⟨rn,rfl⟩|⟨rn,rfl⟩
   ·have Rk:q'=[]:=js (by rw[<-lZ.len];exact rn);subst Rk;have fU:wj y [] m'=[]:=aa;have fL:sw [] m'=[]:=aa;have fS:zV [] m'=0:=aa;refine aj ?_;refine VS.pG (cP _ _) aa (λwz β kz oz en=> ?_);obtain⟨o1,o2⟩:=iy (en.own 154 _ _ aa) 0 g aa aa;obtain⟨o3,o4⟩:=iy (en.own 155 _ _ aa) 1 b aa aa;rw[ak] at o4;replace o3:β 155=b:=o3;rw[fU] at eU;rw[fL] at eL;rw[fS,show s' +0=s' by grind] at eS;have o5:=(en.own 47 _ _ aa).new;have o6:=(en.own 47 _ _ aa).cls;rw[bC,ak] at o6;have n1':β 47≠g:=λe=>absurd (en.apart 154 47 (by intro h;cases h) (by intro h;cases h) (o1.trans e.symm)) bq;have n2':β 47≠b:=λe=>absurd (en.apart 155 47 (by intro h;cases h) (by intro h;cases h) (o3.trans e.symm)) bq
    have o7:w.heap.size<=β 47:=by
     have:=jk (show eK 77 [g,b] w 47 (β 47) from o5);simpa [n1',n2'] using this
    refine⟨_,aa,?_,oz.1,bE,n',c',dI,kO,ax,.slice (some ⟨β 47,0,none⟩) un uc,?_,o4,?_,.inr ⟨β 47,un,uc,xx,tV.map (AV.leaf β),o7,aa,o6,?_⟩⟩
    ·rw[eS];exact yY.k
    ·rw[<-o3];exact o2
    ·rw[eL];exact lZ.kp (bt B) bm
    ·rw[eU,gA];exact (CC.kp bm).o β
   ·obtain⟨e,jJ,rfl⟩:∃ e jJ,q'=e::jJ:=by
     cases q' with
     | nil=>exact absurd lZ.len rn
     | cons e jJ=>exact⟨e,jJ,aa⟩
    obtain⟨cs,kx,rfl,hE,zH⟩:∃ cs kx,kO=cs::kx/\eV B w' cs e/\cd (eV B) w' jJ kx:=by
     have:=lZ.el;cases this with
     | cons h1 h2=>exact⟨_,_,aa,h1,h2⟩
    obtain⟨s3,p3,n3,c3,t3,y3,m3,d3,rfl,hE3⟩:=hE;have Eh:=lZ.le;have zx:=lZ.len;have Ef:=lZ.cm;have nw:dI.length=bE:=lZ.pl.resolve_right ab;obtain⟨mA,AW,Dv⟩:=OY e bN;refine aj ?_;obtain⟨sg,ny⟩:∃ sg,eQ m' 0=sg:=⟨_,aa⟩;refine VO.cB aa aa (fk mJ) (λbn cG bo=>ea _ m' kk bn (Ru.ki (hK m' sV CB xy)) ab sg ny) (λbn cG bo w1 bA eF _ bb1=>wV aa ?_);refine aj ?_;by_cases hm:0<m'
    ·have oT:sg>0:=by rw[<-ny];exact jy.2 hm
     rw[if_pos hm] at mD;refine VS.aV aa (aE oT) ?_;refine aj ?_;refine VO.dY aa (([.bool s3,.slice p3 n3 c3,.bool t3,.slice y3 m3 d3]:List Value).map .val) aa (cL nw 1 _ ⟨[],aa⟩) (wV aa ?_);refine aj ?_;have ym:=dJ e.2 m';have Tb:0<=ai e.2 m':=by rcases ym with ⟨h,_⟩|⟨h,_⟩ <;> rw[h] <;> assumption
     have sC:Iz D (ai e.2 m'):=by rcases ym with ⟨h,_⟩|⟨h,_⟩ <;> rw[h] <;> assumption
     have Co:=eh e.2 m';have FI:=dM e.2 m';have sY:=hK _ sC Tb (Rat.le_trans FI xy);refine VO.eB aa (fk Ah) (λcz β dB cT ho=>((kg _ _ e.2 [m'] kk cz (hE3.rd.ki (hK e.2 mA AW Dv)) (et (ho.own 31 (.base (aJ.2 aa)) _ _ aa) [] (vs:=[[.bool s1,.slice p1 n1 c1,.bool t1,.slice y1 m1 d1]]) (by rfl) aa (bV.cons (Ru.ki (hK m' sV CB xy)) bV.nil) (bM aa) bq) ab (bM aa)).mono (λo w2 h=>And.intro h cT.1.size)).mono ?_);rintro o w2 ⟨⟨r4,rfl,q4,z4,cC⟩,zI⟩;rw[gK] at q4;have Ij:aW w2 w.heap.size r4 (ai e.2 m'):=q4.mono zI;obtain⟨s4,p4,n4,c4,t4,y4,m4,d4,rfl⟩:=Ij.form;refine nk cC ?_;intro fe _ bb2;refine VO.dY aa (([.int .i64 (e.1:Int)]:List Value).map .val) aa (cL nw 0 _ ⟨_,aa⟩) (wV aa ?_);refine aj ?_;obtain⟨FF,FG⟩:=CC.el.ok (fD B);have OX:=CC.len
     refine VO.app (cP _ _) (t:=34) (e:=gL) (sz:=6) (n:=un) (c:=uc) (mm:=1) (known:=xx.flatten.map .val) (spare:=tV) (del:=some 47) (news:=([.int .i64 (e.1:Int),.int .i64 (y:Int),.bool s4,.slice p4 n4 c4,.bool t4,.slice y4 m4 d4]:List Value).map .val) (dst:=47) aa aa aa aa aa aa aa aa (bM aa) aa (.inr ⟨47,aa,aa,aa⟩) (.inr aa) (by rw[bu,FG,OX]) CC.fl CC.le CC.cm ⟨aw _,CC.sl,aa⟩ ⟨bP FF,CC.so,aa⟩ aa (by simp only[List.length_append,List.length_cons] at OX mD pI ⊢;omega)
      (λw1 β k1 b1 ho=>⟨_,_,rfl,.inr ⟨β 46,0,rfl,eH (rest:=[]) (ho.own 46 (.base (iY _ (aJ.2 rfl))) _ _ rfl) rfl⟩⟩)
      (λvI cap' iU ρ Vo Vp iI ll kC fT uU gr=>VO.fi 155 rfl (ee (aw _) _ _) (wV rfl ?_))
     refine aj ?_;have Jb:El B vI (un+1) cap' (xx++[[.int .i64 (e.1:Int),.int .i64 (y:Int),.bool s4,.slice p4 n4 c4,.bool t4,.slice y4 m4 d4]]:List (List Value)) iU ((done++[(e.1,y,ai e.2 m')])):=⟨by simp[OX] <;> omega,by simpa [List.append_assoc] using ((CC.el.kp (fD B) bm).snoc (show vU B vI [.int .i64 (e.1:Int),.int .i64 (y:Int),.bool s4,.slice p4 n4 c4,.bool t4,.slice y4 m4 d4] (e.1,y,ai e.2 m') from ⟨s4,p4,n4,c4,t4,y4,m4,d4,aa,(Ij.mono hB).kp bm⟩)),uU,gr,ll,kC,by simpa using fT⟩;refine VO.call aa aa (fk tk) (λfQ iH fV=>((gi _ _ s' (ai e.2 m') kk kk fQ (yY.rd.ki (hK s' Xw hs0 hsM)) (Ij.rd.ki sY) ab ab).mono (λo w2 h=>And.intro h fV.1.size)).mono ?_);rintro o w5 ⟨⟨r5,rfl,q5,iz⟩,tX⟩;obtain⟨s5,p5,n5,c5,t5,y5,m5,d5,rfl⟩:=q5.form;refine nk iz ?_;intro lg _ sR;refine VO.cR aa aa (fk nL) (λfJ iK gE=>ew _ _ m' (ai e.2 m') kk kk fJ (Ru.ki (hK m' sV CB xy)) (Ij.rd.ki sY) ab ab) (λfJ iK gE w6 s6 p6 n6 c6 t6 y6 m6 d6 q6 ln lH _ sj=>wV aa ?_);refine aj ?_;refine VO.dY aa (([.bool s3,.slice p3 n3 c3,.bool t3,.slice y3 m3 d3]:List Value).map .val) aa (cL nw 1 _ ⟨[],aa⟩) (wV aa ?_);refine aj ?_;refine VO.call aa aa (fk nL) (λjS na jI=>((ew _ _ e.2 (ai e.2 m') kk kk jS (hE3.rd.ki (hK e.2 mA AW Dv)) (Ij.rd.ki sY) ab ab).mono (λo w2 h=>And.intro h jI.1.size)).mono ?_);rintro o w7 ⟨⟨r7,rfl,q7,ta⟩,Tc⟩;obtain⟨s7,p7,n7,c7,t7,y7,m7,d7,rfl⟩:=q7.form;refine nk ta ?_;intro rB _ Ct;refine VO.cond aa (by show bE +1+4<=_;rw[bu,bB,bB,oA,bB,nw];show bE +1+4<=bE +(6-1+_+_);omega) (VO.fi 155 aa (Bo nw) (wV aa ?_));refine aj ?_;refine VO.dY aa (([.bool s7,.slice p7 n7 c7,.bool t7,.slice y7 m7 d7]:List Value).map .val) aa (cL nw 1 _ ⟨[],aa⟩) (wV aa ?_);refine aj ?_;have FH:0<=e.2-ai e.2 m':=cY;have hlM:e.2-ai e.2 m'<=M:=cY;have hlI:Iz D (e.2-ai e.2 m'):=mA.sub sC;obtain⟨pZ,qa⟩:∃ pZ,eQ (e.2-ai e.2 m') 0=pZ:=⟨_,aa⟩;refine VO.cB aa aa (fk mJ) (λpV yn ru=>ea _ (e.2-ai e.2 m') kk pV (q7.ki (hK _ hlI FH hlM)) ab pZ qa) (λpV yn ru w8 vG vP _ KW=>wV aa ?_);refine aj ?_;have hE7:eV B w8 [.int .i64 (e.1:Int),.bool s7,.slice p7 n7 c7,.bool t7,.slice y7 m7 d7] (e.1,e.2-ai e.2 m'):=⟨s7,p7,n7,c7,t7,y7,m7,d7,aa,(q7.mono (bj hB Tc)).kp bm⟩;have KD:=lZ.so;have Xv:=lZ.po;have BN:=lZ.fl;have KN:0<=m' -ai e.2 m':=cY;have Sx:0<=s' +ai e.2 m':=cY;have Ik:s' +ai e.2 m' +(m' -ai e.2 m')=m:=cY;have Il:=(q6.kr (w':=w8) bm);have Im:aW w8 w.heap.size _ (s' +ai e.2 m'):=(q5.mono tX).kp bm;have hr8:cd (eV B) w8 jJ kx:=zH.kp (bt B) bm;by_cases hz:e.2-ai e.2 m'=0
     ·have zJ:(pZ == 0)=true:=by rw[<-qa,hz];rfl
      refine VS.aV aa zJ ?_;refine aj ?_;obtain⟨e1,e2,e3⟩:=ko (y:=y) (p:=e) (q:=jJ) hm hz;rw[e1,<-Uf,<-fu] at eU;rw[e2] at eL;rw[e3] at eS;refine VO.np aa aa (fk yJ) aa ab Eh Ef (λj hj=> ?_) (bM aa) (λw9 k9 b9=>wV aa ?_)
      ·rcases dW.1 hj with rfl|hj
       ·intro h;cases h
       ·cases aJ.1 hj;intro h;cases h
      refine aj ?_;have hO9:fm (eV B) 5 w9 (n' -1) (if c'=1 then bE else bE +5) (c' -1) (dI++[.int .i64 (e.1:Int),.bool s7,.slice p7 n7 c7,.bool t7,.slice y7 m7 d7]) kx ax jJ:=⟨by rw[zx];rfl,uV nw,by rw[ja,Xv];rfl,hr8.kp (bt B) bm,KD,ab,ab,uW BN⟩
      have gS:∀ (v8:AV) (wb:World),bQ (KU UU) w9 wb->((n' -1=0/\v8=.val (.pointer none))\/(n' -1≠0/\v8=.rz 155 (if c'=1 then bE else bE +5)))->Bp B D M w rv y q m (2*jJ.length+(if 0<m' -ai e.2 m' then 1 else 0)) [(0,.box 154 0),(1,.val (.int .i64 (y:Int))),(5,.box 5 0),(6,.box 6 0),(7,.box 7 0),(8,v8)]
        ((154,(Runner,[.row 155 (if c'=1 then bE else bE +5) (n' -1) (c' -1),.val rv,.row 47 0 (un+1) cap']))::(155,(ff,((dI++([.int .i64 (e.1:Int),.bool s7,.slice p7 n7 c7,.bool t7,.slice y7 m7 d7]:List Value))++(kx.flatten++ax)).map AV.val))::(5,(26,([.bool s6,.slice p6 n6 c6,.bool t6,.slice y6 m6 d6]:List Value).map .val))::(6,(26,([.bool false,.slice none 0 0,.bool false,.slice none 0 0]:List Value).map .val))::(7,(26,([.bool s5,.slice p5 n5 c5,.bool t5,.slice y5 m5 d5]:List Value).map .val))::[(47,(gL,(xx++[[.int .i64 (e.1:Int),.int .i64 (y:Int),.bool s4,.slice p4 n4 c4,.bool t4,.slice y4 m4 d4]]:List (List Value)).flatten.map AV.val++iU))]) wb:=λv8 wb kb Xx=>
       ⟨jJ,_,_,_,_,kx,ax,m' -ai e.2 m',s' +ai e.2 m',done++[(e.1,y,ai e.2 m')],v8,_,_,_,_,_,_,_,_,_,_,_,_,_,_,_,_,_,_,rfl,rfl,rfl,hO9.kp (bt B) bm,Il.k,Im.k,sV.sub sC,Xw.add sC,KN,Sx,Ik,λp hp=>OY p (by simp[hp]),eU,eL,by rw[eS];grind,Xx,by simp at mD ⊢;split <;> omega,.inr ⟨_,_,_,_,rfl,rfl,Jb.kp bm⟩⟩
      have hlt:2*jJ.length+(if 0<m' -ai e.2 m' then 1 else 0)<2*(e::jJ).length+(if 0<m' then 1 else 0):=by
       rw[if_pos hm,fh];split <;> omega
      by_cases xI:n' -1=0
      ·refine VO.fE (x:=.row 155 (if c'=1 then bE else bE +5) (n' -1) (c' -1)) (p:=λ_=>none) (c:=c' -1) aa (λβ=>.inr ⟨_,au (λn=>Value.slice (some ⟨β 155,(if c'=1 then bE else bE +5),none⟩) n (c' -1)) xI⟩) aa (fk gO) aa (λwb Xy Vs=>wV aa ?_);refine aj ?_;refine VS.back _ hlt ⟨_,_,?_,?_,?_,?_,gS _ wb bm (.inl ⟨xI,aa⟩)⟩
       ·exact cA
       ·exact⟨aa,au (λl=>some (ff,l)) (gM _ _ _ _),aa,aa,aa,au (λl=>some (gL,l++iU)) bN,ag⟩
       ·rfl
       ·exact⟨.lit aa,.vals _,.vals _,.vals _,.vals _,.append (.vals _) (.none gr),ag⟩
      ·refine VO.eW aa aa (fk gO) aa xI (by intro h;cases h) (λwb Xy Vs=>wV aa ?_);refine aj ?_;refine VS.back _ hlt ⟨_,_,?_,?_,?_,?_,gS _ wb bm (.inr ⟨xI,aa⟩)⟩
       ·exact cA
       ·exact⟨aa,au (λl=>some (ff,l)) (gM _ _ _ _),aa,aa,aa,au (λl=>some (gL,l++iU)) bN,ag⟩
       ·rfl
       ·exact⟨.lit aa,.vals _,.vals _,.vals _,.vals _,.append (.vals _) (.none gr),ag⟩
     ·have zJ:(pZ == 0)=false:=by rw[<-qa,iZ];exact FQ hz
      refine VS.aP aa zJ ?_;refine aj ?_;obtain⟨e0,e1,e2,e3⟩:=km (y:=y) (p:=e) (q:=jJ) hm hz;refine VO.eW aa aa (fk gO) aa rn (by intro h;cases h) (λwb Xy Vs=>wV aa ?_);refine aj ?_;refine VS.back (2*(e::jJ).length+0) (by rw[if_pos hm];omega) ⟨_,_,?_,?_,?_,?_,⟨(e.1,e.2-ai e.2 m')::jJ,bE,n',c',dI,[.int .i64 (e.1:Int),.bool s7,.slice p7 n7 c7,.bool t7,.slice y7 m7 d7]::kx,ax,m' -ai e.2 m',s' +ai e.2 m',done++[(e.1,y,ai e.2 m')],.rz 155 bE,_,_,_,_,_,_,_,_,_,_,_,_,_,_,_,_,_,_,by rw[if_neg e0];rfl,rfl,rfl,⟨zx,.inl nw,Xv,.cons ((bt B).kp hE7 bm) (hr8.kp (bt B) bm),KD,Eh,Ef,by simpa using BN⟩,Il.k,Im.k,sV.sub sC,Xw.add sC,KN,Sx,Ik,λp hp=> ?_,?_,?_,?_,.inr ⟨rn,rfl⟩,?_,.inr ⟨_,_,_,_,rfl,rfl,Jb.kp bm⟩⟩⟩
      ·exact cA
      ·exact⟨aa,aa,aa,aa,aa,au (λl=>some (gL,l++iU)) bN,ag⟩
      ·rfl
      ·exact⟨.lit aa,.vals _,.vals _,.vals _,.vals _,.append (.vals _) (.none gr),ag⟩
      ·rcases dW.1 hp with rfl|hp
       ·exact⟨hlI,FH,hlM⟩
       ·exact OY p (by simp[hp])
      ·rw[eU,e1,lJ y _ e0,gA]
      ·rw[eL,e2,kh _ e0]
      ·rw[eS,e3,lK _ e0];grind
      ·rw[if_neg e0];simp at mD ⊢;omega
    ·have oT:¬ sg>0:=by rw[<-ny];exact λh=>hm (jy.1 h)
     refine VS.aP aa (aA oT) ?_;have fU:=lJ y (e::jJ) hm;have fL:=kh (e::jJ) hm;have fS:=lK (e::jJ) hm;refine aj ?_;refine VS.pG (cP _ _) aa (λwz β kz oz en=> ?_);obtain⟨o1,o2⟩:=iy (en.own 154 _ _ aa) 0 g aa aa;obtain⟨o3,o4⟩:=iy (en.own 155 _ _ aa) 1 b aa aa;rw[ak] at o4;replace o3:β 155=b:=o3;rw[fU] at eU;rw[fL] at eL;rw[fS,show s' +0=s' by grind] at eS;have o5:=(en.own 47 _ _ aa).new;have o6:=(en.own 47 _ _ aa).cls;rw[bC,ak] at o6;have n1':β 47≠g:=λe=>absurd (en.apart 154 47 (by intro h;cases h) (by intro h;cases h) (o1.trans e.symm)) bq;have n2':β 47≠b:=λe=>absurd (en.apart 155 47 (by intro h;cases h) (by intro h;cases h) (o3.trans e.symm)) bq
     have o7:w.heap.size<=β 47:=by
      have:=jk (show eK 77 [g,b] w 47 (β 47) from o5);simpa [n1',n2'] using this
     refine⟨_,aa,?_,oz.1,bE,n',c',dI,_,ax,.slice (some ⟨β 47,0,none⟩) un uc,?_,o4,?_,.inr ⟨β 47,un,uc,xx,tV.map (AV.leaf β),o7,aa,o6,?_⟩⟩
     ·rw[eS];exact yY.k
     ·rw[<-o3];exact o2
     ·rw[eL];exact lZ.kp (bt B) bm
     ·rw[eU,gA];exact (CC.kp bm).o β
set_option maxRecDepth 4000 in
theorem iUse_row (B g b off n c y D kk:Nat) (M m:Rat) (pre:List Value) (vs:List (List Value)) (spare:List Value) (q:List Vq) (rv v:Value) (ub Jr Mq:Nat) (tW:List (List Value)) (vV:List Value) (us0:List Uq) (w:World)
  (hg:bO w g Runner #[.slice (some ⟨b,off,none⟩) n c,rv,.slice (some ⟨ub,0,none⟩) Jr Mq]) (Yn:bO w ub gL (tW.flatten++vV).toArray) (Yy:fm (vU B) 6 w Jr 0 Mq [] tW vV us0) (Mr:us0.length<=1000) (hb:bO w b ff (pre++(vs.flatten++spare)).toArray) (hO:fm (eV B) 5 w n off c pre vs spare q) (hr:bD rv=true) (hv:cJ w v m) (hmI:Iz D m) (Ie:0<=m) (hmM:m<=M) (hq:∀ p∈q,Iz D p.2/\0<=p.2/\p.2<=M)
  (hK:∀ x,Iz D x->0<=x->x<=M->fI x kk) (hk:kk<=100000) (pI:q.length<=1000) (hB:B<=w.heap.size):
  Calls Tryz.prog 73 #[.pointer (some ⟨g,0,none⟩),.int .i64 (y:Int),v] w λo w'=>∃ x,o=.returned x/\aW w' w.heap.size x (zV q m)/\wi [g,b,ub] w w'/\LeftA w' ub/\∃ bE n' c' dI kO ax uv,bO w' g Runner #[.slice (some ⟨b,bE,none⟩) n' c',rv,uv]/\bO w' b ff (dI++(kO.flatten++ax)).toArray/\fm (eV B) 5 w' n' bE c' dI kO ax (sw q m)/\(∃ b' un uc xx tV,(w.heap.size<=b'\/b'=ub)/\uv=.slice (some ⟨b',0,none⟩) un uc/\bO w' b' gL (xx.flatten++tV).toArray/\fm (vU B) 6 w' un 0 uc [] xx tV (us0++wj y q m)):=by
 have hgb:g≠b:=λe=>by subst e;exact absurd (cK hg hb) bq
 have hgu:g≠ub:=λe=>by subst e;exact absurd (cK hg Yn) bq
 have hbu:b≠ub:=λe=>by subst e;exact absurd (cK hb Yn) bq
 have hUo:El B w Jr Mq tW (vV.map .val) us0:=⟨Yy.len,Yy.el,bP Yy.so,aw _,Yy.le,Yy.cm,by rw[<-bC,bu];exact Yy.fl⟩;obtain⟨huok,hulen⟩:=Yy.el.ok (fD B);obtain⟨s0,p0,n0,c0,t0,y0,m0,d0,rfl⟩:=hv.form
 have xw:nd (KU UU) 77 [g,b,ub] [(Runner,[.row 155 off n c,.val rv,.row 156 0 Jr Mq]),(ff,(pre++(vs.flatten++spare)).map .val),(gL,tW.flatten.map .val++vV.map .val)] w:=by
  refine⟨aa,by simp[hgb,hgu,hbu],λj g' c' hj hc=> ?_,λc' hc=> ?_,λc' hc k hk=> ?_⟩
  ·match j,hj,hc with
   | 0,hj,hc=>cases hj;cases hc;exact hg
   | 1,hj,hc=>cases hj;cases hc;rw[ak];exact hb
   | 2,hj,hc=>cases hj;cases hc;rw[<-bC,ak];exact Yn
   | j+3,hj,_=>simp at hj
  ·rcases dW.1 hc with rfl|hc
   ·exact⟨aa,rnr_ok' aa hr aa⟩
   ·rcases dW.1 hc with rfl|hc
    ·exact⟨aa,bP (hO.all (bt B))⟩
    ·cases aJ.1 hc;exact⟨aa,by rw[<-bC];exact bP (by rw[ja,huok,Yy.so];rfl)⟩
  ·rcases dW.1 hc with rfl|hc
   ·have:k=155\/k=156:=by simpa [aI,AV.eu] using hk
    rcases this with rfl|rfl
    ·exact⟨ab,by show 155<2*77+3;omega⟩
    ·exact⟨ab,by show 156<2*77+3;omega⟩
   ·rcases dW.1 hc with rfl|hc
    ·rw[aw] at hk;cases hk
    ·cases aJ.1 hc;rw[<-bC,aw] at hk;cases hk
 refine iw Tryz.prog w _ (KU UU) (λt=>Nat.beq t 22) table (λ_ _=>trivial) (ad:=[g,b,ub]) (us:=[_,_]) Gm aa Tryz.ntmps73 (bM aa) xw (bM aa) ?_;refine aj ?_;refine VO.call aa aa (fk nK) (λbn cG bo=>((dz 0 bn ab ab).mono (λo w2 h=>And.intro h bo.1.size)).mono ?_);rintro o w1 ⟨⟨r9,rfl,q9,Sg⟩,Ta⟩;obtain⟨s9,p9,n9,c9,t9,y9,m9,d9,rfl⟩:=q9.form;refine nk Sg ?_;intro Jp _ bb9;have h00:((0:Int):Rat)=0:=aa;rw[h00] at q9;apply VO.via (P:=λF' H' w'=>Entry (Bq B D M w rv y q m Jr Mq tW vV us0) (2*q.length+(if 0<m then 1 else 0)) F' H' w')
 ·intro cont;by_cases rn:n=0
  ·refine VO.fE (x:=.row 155 off n c) (p:=λ_=>none) (c:=c) aa (λβ=>.inr ⟨_,au (λn=>Value.slice (some ⟨β 155,off,none⟩) n c) rn⟩) aa (fk gO) aa (λw3 k3 b3=>wV aa ?_);refine aj ?_;refine cont _ _ _ ⟨_,_,?_,?_,?_,?_,⟨q,off,n,c,pre,vs,spare,m,0,[],.val (.pointer none),_,_,_,_,_,_,_,_,_,_,_,_,_,_,_,_,_,_,aa,aa,aa,hO.kp (bt B) bm,hv.k,(q9.mono Ta).kp bm,hmI,Iz.zero,Ie,mK,cY,hq,aa,aa,cY,.inl ⟨rn,aa⟩,by split <;> simp,.inl ⟨rfl,rfl,rfl,bm⟩⟩⟩
   ·exact cA
   ·exact cA
   ·rfl
   ·exact⟨.lit aa,.vals _,.vals _,.vals _,.vals _,.append (.vals _) (.vals _),ag⟩
  ·refine VO.eW aa aa (fk gO) aa rn (by intro h;cases h) (λw3 k3 b3=>wV aa ?_);refine aj ?_;refine cont _ _ _ ⟨_,_,?_,?_,?_,?_,⟨q,off,n,c,pre,vs,spare,m,0,[],.rz 155 off,_,_,_,_,_,_,_,_,_,_,_,_,_,_,_,_,_,_,aa,aa,aa,hO.kp (bt B) bm,hv.k,(q9.mono Ta).kp bm,hmI,Iz.zero,Ie,mK,cY,hq,aa,aa,cY,.inr ⟨rn,aa⟩,by split <;> simp,.inl ⟨rfl,rfl,rfl,bm⟩⟩⟩
   ·exact cA
   ·exact cA
   ·rfl
   ·exact⟨.lit aa,.vals _,.vals _,.vals _,.vals _,.append (.vals _) (.vals _),ag⟩
 ·intro F0 H0 w0' hent;refine VS.loop (J:=Bq B D M w rv y q m Jr Mq tW vV us0) _ hent ?_;rintro idx L Mm w' ⟨q',bE,n',c',dI,kO,ax,m',s',done,v8,Us,Um,s1,t1,s2,t2,p1,y1,p2,y2,n1,c1,m1,d1,n2,c2,m2,d2,rfl,rfl,rfl,lZ,Ru,yY,sV,Xw,CB,hs0,hsm,OY,eU,eL,eS,Xx,mD,BQ⟩;have xy:m'<=M:=cY;have hsM:s'<=M:=cY;rcases BQ with ⟨rfl,rfl,rfl,kw0⟩|⟨un,uc,xx,tV,rfl,rfl,CC⟩
  ·rcases Xx with ⟨rn,rfl⟩|⟨rn,rfl⟩
   ·have Rk:q'=[]:=js (by rw[<-lZ.len];exact rn);subst Rk;have fU:wj y [] m'=[]:=aa;have fL:sw [] m'=[]:=aa;have fS:zV [] m'=0:=aa;refine aj ?_;refine VS.pG (cP _ _) aa (λwz β kz oz en=> ?_);obtain⟨o1,o2⟩:=iy (en.own 154 _ _ aa) 0 g aa aa;obtain⟨o3,o4⟩:=iy (en.own 155 _ _ aa) 1 b aa aa;rw[ak] at o4;replace o3:β 155=b:=o3;rw[fU] at eU;rw[fL] at eL;rw[fS,show s' +0=s' by grind] at eS;obtain⟨o5,o6⟩:=iy (en.own 156 _ _ aa) 2 ub aa aa;replace o5:β 156=ub:=o5;rw[bC,ak,ak] at o6;refine⟨_,aa,?_,oz.1,oz.2 ub bN,bE,n',c',dI,kO,ax,.slice (some ⟨ub,0,none⟩) Jr Mq,?_,o4,?_,ub,Jr,Mq,tW,vV,.inr aa,aa,o6,?_⟩
    ·rw[eS];exact yY.k
    ·rw[<-o3,<-o5];exact o2
    ·rw[eL];exact lZ.kp (bt B) bm
    ·rw[eU,ma,gA];exact Yy.kp (fD B) bm
   ·obtain⟨e,jJ,rfl⟩:∃ e jJ,q'=e::jJ:=by
     cases q' with
     | nil=>exact absurd lZ.len rn
     | cons e jJ=>exact⟨e,jJ,aa⟩
    obtain⟨cs,kx,rfl,hE,zH⟩:∃ cs kx,kO=cs::kx/\eV B w' cs e/\cd (eV B) w' jJ kx:=by
     have:=lZ.el;cases this with
     | cons h1 h2=>exact⟨_,_,aa,h1,h2⟩
    obtain⟨s3,p3,n3,c3,t3,y3,m3,d3,rfl,hE3⟩:=hE;have Eh:=lZ.le;have zx:=lZ.len;have Ef:=lZ.cm;have nw:dI.length=bE:=lZ.pl.resolve_right ab;obtain⟨mA,AW,Dv⟩:=OY e bN;refine aj ?_;obtain⟨sg,ny⟩:∃ sg,eQ m' 0=sg:=⟨_,aa⟩;refine VO.cB aa aa (fk mJ) (λbn cG bo=>ea _ m' kk bn (Ru.ki (hK m' sV CB xy)) ab sg ny) (λbn cG bo w1 bA eF _ bb1=>wV aa ?_);refine aj ?_;by_cases hm:0<m'
    ·have oT:sg>0:=by rw[<-ny];exact jy.2 hm
     rw[if_pos hm] at mD;refine VS.aV aa (aE oT) ?_;refine aj ?_;refine VO.dY aa (([.bool s3,.slice p3 n3 c3,.bool t3,.slice y3 m3 d3]:List Value).map .val) aa (cL nw 1 _ ⟨[],aa⟩) (wV aa ?_);refine aj ?_;have ym:=dJ e.2 m';have Tb:0<=ai e.2 m':=by rcases ym with ⟨h,_⟩|⟨h,_⟩ <;> rw[h] <;> assumption
     have sC:Iz D (ai e.2 m'):=by rcases ym with ⟨h,_⟩|⟨h,_⟩ <;> rw[h] <;> assumption
     have Co:=eh e.2 m';have FI:=dM e.2 m';have sY:=hK _ sC Tb (Rat.le_trans FI xy);refine VO.eB aa (fk Ah) (λcz β dB cT ho=>((kg _ _ e.2 [m'] kk cz (hE3.rd.ki (hK e.2 mA AW Dv)) (et (ho.own 31 (.base (aJ.2 aa)) _ _ aa) [] (vs:=[[.bool s1,.slice p1 n1 c1,.bool t1,.slice y1 m1 d1]]) (by rfl) aa (bV.cons (Ru.ki (hK m' sV CB xy)) bV.nil) (bM aa) bq) ab (bM aa)).mono (λo w2 h=>And.intro h cT.1.size)).mono ?_);rintro o w2 ⟨⟨r4,rfl,q4,z4,cC⟩,zI⟩;rw[gK] at q4;have Ij:aW w2 w.heap.size r4 (ai e.2 m'):=q4.mono zI;obtain⟨s4,p4,n4,c4,t4,y4,m4,d4,rfl⟩:=Ij.form;refine nk cC ?_;intro fe _ bb2;refine VO.dY aa (([.int .i64 (e.1:Int)]:List Value).map .val) aa (cL nw 0 _ ⟨_,aa⟩) (wV aa ?_);refine aj ?_;obtain⟨FF,FG⟩:=hUo.el.ok (fD B);have OX:=hUo.len
     refine VO.app (cP _ _) (t:=34) (e:=gL) (sz:=6) (n:=Jr) (c:=Mq) (mm:=1) (known:=tW.flatten.map .val) (spare:=(vV.map AV.val)) (del:=some 156) (news:=([.int .i64 (e.1:Int),.int .i64 (y:Int),.bool s4,.slice p4 n4 c4,.bool t4,.slice y4 m4 d4]:List Value).map .val) (dst:=47) aa aa aa aa aa aa aa aa (bM aa) aa (.inr ⟨156,aa,aa,aa⟩) (.inl aa) (by rw[bu,FG,OX]) hUo.fl hUo.le hUo.cm ⟨aw _,hUo.sl,aa⟩ ⟨bP FF,hUo.so,aa⟩ aa (by simp only[List.length_append,List.length_cons] at OX mD pI ⊢;omega)
      (λw1 β k1 b1 ho=>⟨_,_,rfl,.inr ⟨β 46,0,rfl,eH (rest:=[]) (ho.own 46 (.base (iY _ (aJ.2 rfl))) _ _ rfl) rfl⟩⟩)
      (λvI cap' iU ρ Vo Vp iI ll kC fT uU gr=>VO.fi 155 rfl (ee (aw _) _ _) (wV rfl ?_))
     refine aj ?_;have Jb:El B vI (Jr+1) cap' (tW++[[.int .i64 (e.1:Int),.int .i64 (y:Int),.bool s4,.slice p4 n4 c4,.bool t4,.slice y4 m4 d4]]:List (List Value)) iU (us0++([]++[(e.1,y,ai e.2 m')])):=⟨by simp[OX] <;> omega,by simpa [List.append_assoc] using ((hUo.el.kp (fD B) bm).snoc (show vU B vI [.int .i64 (e.1:Int),.int .i64 (y:Int),.bool s4,.slice p4 n4 c4,.bool t4,.slice y4 m4 d4] (e.1,y,ai e.2 m') from ⟨s4,p4,n4,c4,t4,y4,m4,d4,aa,(Ij.mono hB).kp bm⟩)),uU,gr,ll,kC,by simpa using fT⟩;refine VO.call aa aa (fk tk) (λfQ iH fV=>((gi _ _ s' (ai e.2 m') kk kk fQ (yY.rd.ki (hK s' Xw hs0 hsM)) (Ij.rd.ki sY) ab ab).mono (λo w2 h=>And.intro h fV.1.size)).mono ?_);rintro o w5 ⟨⟨r5,rfl,q5,iz⟩,tX⟩;obtain⟨s5,p5,n5,c5,t5,y5,m5,d5,rfl⟩:=q5.form;refine nk iz ?_;intro lg _ sR;refine VO.cR aa aa (fk nL) (λfJ iK gE=>ew _ _ m' (ai e.2 m') kk kk fJ (Ru.ki (hK m' sV CB xy)) (Ij.rd.ki sY) ab ab) (λfJ iK gE w6 s6 p6 n6 c6 t6 y6 m6 d6 q6 ln lH _ sj=>wV aa ?_);refine aj ?_;refine VO.dY aa (([.bool s3,.slice p3 n3 c3,.bool t3,.slice y3 m3 d3]:List Value).map .val) aa (cL nw 1 _ ⟨[],aa⟩) (wV aa ?_);refine aj ?_;refine VO.call aa aa (fk nL) (λjS na jI=>((ew _ _ e.2 (ai e.2 m') kk kk jS (hE3.rd.ki (hK e.2 mA AW Dv)) (Ij.rd.ki sY) ab ab).mono (λo w2 h=>And.intro h jI.1.size)).mono ?_);rintro o w7 ⟨⟨r7,rfl,q7,ta⟩,Tc⟩;obtain⟨s7,p7,n7,c7,t7,y7,m7,d7,rfl⟩:=q7.form;refine nk ta ?_;intro rB _ Ct;refine VO.cond aa (by show bE +1+4<=_;rw[bu,bB,bB,oA,bB,nw];show bE +1+4<=bE +(6-1+_+_);omega) (VO.fi 155 aa (Bo nw) (wV aa ?_));refine aj ?_;refine VO.dY aa (([.bool s7,.slice p7 n7 c7,.bool t7,.slice y7 m7 d7]:List Value).map .val) aa (cL nw 1 _ ⟨[],aa⟩) (wV aa ?_);refine aj ?_;have FH:0<=e.2-ai e.2 m':=cY;have hlM:e.2-ai e.2 m'<=M:=cY;have hlI:Iz D (e.2-ai e.2 m'):=mA.sub sC;obtain⟨pZ,qa⟩:∃ pZ,eQ (e.2-ai e.2 m') 0=pZ:=⟨_,aa⟩;refine VO.cB aa aa (fk mJ) (λpV yn ru=>ea _ (e.2-ai e.2 m') kk pV (q7.ki (hK _ hlI FH hlM)) ab pZ qa) (λpV yn ru w8 vG vP _ KW=>wV aa ?_);refine aj ?_;have hE7:eV B w8 [.int .i64 (e.1:Int),.bool s7,.slice p7 n7 c7,.bool t7,.slice y7 m7 d7] (e.1,e.2-ai e.2 m'):=⟨s7,p7,n7,c7,t7,y7,m7,d7,aa,(q7.mono (bj hB Tc)).kp bm⟩;have KD:=lZ.so;have Xv:=lZ.po;have BN:=lZ.fl;have KN:0<=m' -ai e.2 m':=cY;have Sx:0<=s' +ai e.2 m':=cY;have Ik:s' +ai e.2 m' +(m' -ai e.2 m')=m:=cY;have Il:=(q6.kr (w':=w8) bm);have Im:aW w8 w.heap.size _ (s' +ai e.2 m'):=(q5.mono tX).kp bm;have hr8:cd (eV B) w8 jJ kx:=zH.kp (bt B) bm;by_cases hz:e.2-ai e.2 m'=0
     ·have zJ:(pZ == 0)=true:=by rw[<-qa,hz];rfl
      refine VS.aV aa zJ ?_;refine aj ?_;obtain⟨e1,e2,e3⟩:=ko (y:=y) (p:=e) (q:=jJ) hm hz;rw[e1,<-Uf,<-fu] at eU;rw[e2] at eL;rw[e3] at eS;refine VO.np aa aa (fk yJ) aa ab Eh Ef (λj hj=> ?_) (bM aa) (λw9 k9 b9=>wV aa ?_)
      ·rcases dW.1 hj with rfl|hj
       ·intro h;cases h
       ·cases aJ.1 hj;intro h;cases h
      refine aj ?_;have hO9:fm (eV B) 5 w9 (n' -1) (if c'=1 then bE else bE +5) (c' -1) (dI++[.int .i64 (e.1:Int),.bool s7,.slice p7 n7 c7,.bool t7,.slice y7 m7 d7]) kx ax jJ:=⟨by rw[zx];rfl,uV nw,by rw[ja,Xv];rfl,hr8.kp (bt B) bm,KD,ab,ab,uW BN⟩
      have gS:∀ (v8:AV) (wb:World),bQ (KU UU) w9 wb->((n' -1=0/\v8=.val (.pointer none))\/(n' -1≠0/\v8=.rz 155 (if c'=1 then bE else bE +5)))->Bq B D M w rv y q m Jr Mq tW vV us0 (2*jJ.length+(if 0<m' -ai e.2 m' then 1 else 0)) [(0,.box 154 0),(1,.val (.int .i64 (y:Int))),(5,.box 5 0),(6,.box 6 0),(7,.box 7 0),(8,v8)]
        ((154,(Runner,[.row 155 (if c'=1 then bE else bE +5) (n' -1) (c' -1),.val rv,.row 47 0 (Jr+1) cap']))::(155,(ff,((dI++([.int .i64 (e.1:Int),.bool s7,.slice p7 n7 c7,.bool t7,.slice y7 m7 d7]:List Value))++(kx.flatten++ax)).map AV.val))::(5,(26,([.bool s6,.slice p6 n6 c6,.bool t6,.slice y6 m6 d6]:List Value).map .val))::(6,(26,([.bool false,.slice none 0 0,.bool false,.slice none 0 0]:List Value).map .val))::(7,(26,([.bool s5,.slice p5 n5 c5,.bool t5,.slice y5 m5 d5]:List Value).map .val))::[(47,(gL,(tW++[[.int .i64 (e.1:Int),.int .i64 (y:Int),.bool s4,.slice p4 n4 c4,.bool t4,.slice y4 m4 d4]]:List (List Value)).flatten.map AV.val++iU))]) wb:=λv8 wb kb Xx=>
       ⟨jJ,_,_,_,_,kx,ax,m' -ai e.2 m',s' +ai e.2 m',[]++[(e.1,y,ai e.2 m')],v8,_,_,_,_,_,_,_,_,_,_,_,_,_,_,_,_,_,_,rfl,rfl,rfl,hO9.kp (bt B) bm,Il.k,Im.k,sV.sub sC,Xw.add sC,KN,Sx,Ik,λp hp=>OY p (by simp[hp]),eU,eL,by rw[eS];grind,Xx,by simp at mD ⊢;split <;> omega,.inr ⟨_,_,_,_,rfl,rfl,Jb.kp bm⟩⟩
      have hlt:2*jJ.length+(if 0<m' -ai e.2 m' then 1 else 0)<2*(e::jJ).length+(if 0<m' then 1 else 0):=by
       rw[if_pos hm,fh];split <;> omega
      by_cases xI:n' -1=0
      ·refine VO.fE (x:=.row 155 (if c'=1 then bE else bE +5) (n' -1) (c' -1)) (p:=λ_=>none) (c:=c' -1) aa (λβ=>.inr ⟨_,au (λn=>Value.slice (some ⟨β 155,(if c'=1 then bE else bE +5),none⟩) n (c' -1)) xI⟩) aa (fk gO) aa (λwb Xy Vs=>wV aa ?_);refine aj ?_;refine VS.back _ hlt ⟨_,_,?_,?_,?_,?_,gS _ wb bm (.inl ⟨xI,aa⟩)⟩
       ·exact cA
       ·exact⟨aa,au (λl=>some (ff,l)) (gM _ _ _ _),aa,aa,aa,au (λl=>some (gL,l++iU)) bN,ag⟩
       ·rfl
       ·exact⟨.lit aa,.vals _,.vals _,.vals _,.vals _,.append (.vals _) (.none gr),ag⟩
      ·refine VO.eW aa aa (fk gO) aa xI (by intro h;cases h) (λwb Xy Vs=>wV aa ?_);refine aj ?_;refine VS.back _ hlt ⟨_,_,?_,?_,?_,?_,gS _ wb bm (.inr ⟨xI,aa⟩)⟩
       ·exact cA
       ·exact⟨aa,au (λl=>some (ff,l)) (gM _ _ _ _),aa,aa,aa,au (λl=>some (gL,l++iU)) bN,ag⟩
       ·rfl
       ·exact⟨.lit aa,.vals _,.vals _,.vals _,.vals _,.append (.vals _) (.none gr),ag⟩
     ·have zJ:(pZ == 0)=false:=by rw[<-qa,iZ];exact FQ hz
      refine VS.aP aa zJ ?_;refine aj ?_;obtain⟨e0,e1,e2,e3⟩:=km (y:=y) (p:=e) (q:=jJ) hm hz;refine VO.eW aa aa (fk gO) aa rn (by intro h;cases h) (λwb Xy Vs=>wV aa ?_);refine aj ?_;refine VS.back (2*(e::jJ).length+0) (by rw[if_pos hm];omega) ⟨_,_,?_,?_,?_,?_,⟨(e.1,e.2-ai e.2 m')::jJ,bE,n',c',dI,[.int .i64 (e.1:Int),.bool s7,.slice p7 n7 c7,.bool t7,.slice y7 m7 d7]::kx,ax,m' -ai e.2 m',s' +ai e.2 m',[]++[(e.1,y,ai e.2 m')],.rz 155 bE,_,_,_,_,_,_,_,_,_,_,_,_,_,_,_,_,_,_,by rw[if_neg e0];rfl,rfl,rfl,⟨zx,.inl nw,Xv,.cons ((bt B).kp hE7 bm) (hr8.kp (bt B) bm),KD,Eh,Ef,by simpa using BN⟩,Il.k,Im.k,sV.sub sC,Xw.add sC,KN,Sx,Ik,λp hp=> ?_,?_,?_,?_,.inr ⟨rn,rfl⟩,?_,.inr ⟨_,_,_,_,rfl,rfl,Jb.kp bm⟩⟩⟩
      ·exact cA
      ·exact⟨aa,aa,aa,aa,aa,au (λl=>some (gL,l++iU)) bN,ag⟩
      ·rfl
      ·exact⟨.lit aa,.vals _,.vals _,.vals _,.vals _,.append (.vals _) (.none gr),ag⟩
      ·rcases dW.1 hp with rfl|hp
       ·exact⟨hlI,FH,hlM⟩
       ·exact OY p (by simp[hp])
      ·rw[eU,e1,lJ y _ e0,gA]
      ·rw[eL,e2,kh _ e0]
      ·rw[eS,e3,lK _ e0];grind
      ·rw[if_neg e0];simp at mD ⊢;omega
    ·have oT:¬ sg>0:=by rw[<-ny];exact λh=>hm (jy.1 h)
     refine VS.aP aa (aA oT) ?_;have fU:=lJ y (e::jJ) hm;have fL:=kh (e::jJ) hm;have fS:=lK (e::jJ) hm;refine aj ?_;refine VS.pG (cP _ _) aa (λwz β kz oz en=> ?_);obtain⟨o1,o2⟩:=iy (en.own 154 _ _ aa) 0 g aa aa;obtain⟨o3,o4⟩:=iy (en.own 155 _ _ aa) 1 b aa aa;rw[ak] at o4;replace o3:β 155=b:=o3;rw[fU] at eU;rw[fL] at eL;rw[fS,show s' +0=s' by grind] at eS;obtain⟨o5,o6⟩:=iy (en.own 156 _ _ aa) 2 ub aa aa;replace o5:β 156=ub:=o5;rw[bC,ak,ak] at o6;refine⟨_,aa,?_,oz.1,oz.2 ub bN,bE,n',c',dI,_,ax,.slice (some ⟨ub,0,none⟩) Jr Mq,?_,o4,?_,ub,Jr,Mq,tW,vV,.inr aa,aa,o6,?_⟩
     ·rw[eS];exact yY.k
     ·rw[<-o3,<-o5];exact o2
     ·rw[eL];exact lZ.kp (bt B) bm
     ·rw[eU,ma,gA];exact Yy.kp (fD B) bm
  ·rcases Xx with ⟨rn,rfl⟩|⟨rn,rfl⟩
   ·have Rk:q'=[]:=js (by rw[<-lZ.len];exact rn);subst Rk;have fU:wj y [] m'=[]:=aa;have fL:sw [] m'=[]:=aa;have fS:zV [] m'=0:=aa;refine aj ?_;refine VS.pG (cP _ _) aa (λwz β kz oz en=> ?_);obtain⟨o1,o2⟩:=iy (en.own 154 _ _ aa) 0 g aa aa;obtain⟨o3,o4⟩:=iy (en.own 155 _ _ aa) 1 b aa aa;rw[ak] at o4;replace o3:β 155=b:=o3;rw[fU] at eU;rw[fL] at eL;rw[fS,show s' +0=s' by grind] at eS;have o5:=(en.own 47 _ _ aa).new;have o6:=(en.own 47 _ _ aa).cls;rw[bC,ak] at o6;have n1':β 47≠g:=λe=>absurd (en.apart 154 47 (by intro h;cases h) (by intro h;cases h) (o1.trans e.symm)) bq;have n2':β 47≠b:=λe=>absurd (en.apart 155 47 (by intro h;cases h) (by intro h;cases h) (o3.trans e.symm)) bq
    have o7:w.heap.size<=β 47\/β 47=ub:=by
     have:=jk (show eK 77 [g,b,ub] w 47 (β 47) from o5);simpa [n1',n2'] using this
    refine⟨_,aa,?_,oz.1,oz.2 ub bN,bE,n',c',dI,kO,ax,.slice (some ⟨β 47,0,none⟩) un uc,?_,o4,?_,⟨β 47,un,uc,xx,tV.map (AV.leaf β),o7,aa,o6,?_⟩⟩
    ·rw[eS];exact yY.k
    ·rw[<-o3];exact o2
    ·rw[eL];exact lZ.kp (bt B) bm
    ·rw[eU,gA];exact (CC.kp bm).o β
   ·obtain⟨e,jJ,rfl⟩:∃ e jJ,q'=e::jJ:=by
     cases q' with
     | nil=>exact absurd lZ.len rn
     | cons e jJ=>exact⟨e,jJ,aa⟩
    obtain⟨cs,kx,rfl,hE,zH⟩:∃ cs kx,kO=cs::kx/\eV B w' cs e/\cd (eV B) w' jJ kx:=by
     have:=lZ.el;cases this with
     | cons h1 h2=>exact⟨_,_,aa,h1,h2⟩
    obtain⟨s3,p3,n3,c3,t3,y3,m3,d3,rfl,hE3⟩:=hE;have Eh:=lZ.le;have zx:=lZ.len;have Ef:=lZ.cm;have nw:dI.length=bE:=lZ.pl.resolve_right ab;obtain⟨mA,AW,Dv⟩:=OY e bN;refine aj ?_;obtain⟨sg,ny⟩:∃ sg,eQ m' 0=sg:=⟨_,aa⟩;refine VO.cB aa aa (fk mJ) (λbn cG bo=>ea _ m' kk bn (Ru.ki (hK m' sV CB xy)) ab sg ny) (λbn cG bo w1 bA eF _ bb1=>wV aa ?_);refine aj ?_;by_cases hm:0<m'
    ·have oT:sg>0:=by rw[<-ny];exact jy.2 hm
     rw[if_pos hm] at mD;refine VS.aV aa (aE oT) ?_;refine aj ?_;refine VO.dY aa (([.bool s3,.slice p3 n3 c3,.bool t3,.slice y3 m3 d3]:List Value).map .val) aa (cL nw 1 _ ⟨[],aa⟩) (wV aa ?_);refine aj ?_;have ym:=dJ e.2 m';have Tb:0<=ai e.2 m':=by rcases ym with ⟨h,_⟩|⟨h,_⟩ <;> rw[h] <;> assumption
     have sC:Iz D (ai e.2 m'):=by rcases ym with ⟨h,_⟩|⟨h,_⟩ <;> rw[h] <;> assumption
     have Co:=eh e.2 m';have FI:=dM e.2 m';have sY:=hK _ sC Tb (Rat.le_trans FI xy);refine VO.eB aa (fk Ah) (λcz β dB cT ho=>((kg _ _ e.2 [m'] kk cz (hE3.rd.ki (hK e.2 mA AW Dv)) (et (ho.own 31 (.base (aJ.2 aa)) _ _ aa) [] (vs:=[[.bool s1,.slice p1 n1 c1,.bool t1,.slice y1 m1 d1]]) (by rfl) aa (bV.cons (Ru.ki (hK m' sV CB xy)) bV.nil) (bM aa) bq) ab (bM aa)).mono (λo w2 h=>And.intro h cT.1.size)).mono ?_);rintro o w2 ⟨⟨r4,rfl,q4,z4,cC⟩,zI⟩;rw[gK] at q4;have Ij:aW w2 w.heap.size r4 (ai e.2 m'):=q4.mono zI;obtain⟨s4,p4,n4,c4,t4,y4,m4,d4,rfl⟩:=Ij.form;refine nk cC ?_;intro fe _ bb2;refine VO.dY aa (([.int .i64 (e.1:Int)]:List Value).map .val) aa (cL nw 0 _ ⟨_,aa⟩) (wV aa ?_);refine aj ?_;obtain⟨FF,FG⟩:=CC.el.ok (fD B);have OX:=CC.len
     refine VO.app (cP _ _) (t:=34) (e:=gL) (sz:=6) (n:=un) (c:=uc) (mm:=1) (known:=xx.flatten.map .val) (spare:=tV) (del:=some 47) (news:=([.int .i64 (e.1:Int),.int .i64 (y:Int),.bool s4,.slice p4 n4 c4,.bool t4,.slice y4 m4 d4]:List Value).map .val) (dst:=47) aa aa aa aa aa aa aa aa (bM aa) aa (.inr ⟨47,aa,aa,aa⟩) (.inr aa) (by rw[bu,FG,OX]) CC.fl CC.le CC.cm ⟨aw _,CC.sl,aa⟩ ⟨bP FF,CC.so,aa⟩ aa (by simp only[List.length_append,List.length_cons] at OX mD pI ⊢;omega)
      (λw1 β k1 b1 ho=>⟨_,_,rfl,.inr ⟨β 46,0,rfl,eH (rest:=[]) (ho.own 46 (.base (iY _ (aJ.2 rfl))) _ _ rfl) rfl⟩⟩)
      (λvI cap' iU ρ Vo Vp iI ll kC fT uU gr=>VO.fi 155 rfl (ee (aw _) _ _) (wV rfl ?_))
     refine aj ?_;have Jb:El B vI (un+1) cap' (xx++[[.int .i64 (e.1:Int),.int .i64 (y:Int),.bool s4,.slice p4 n4 c4,.bool t4,.slice y4 m4 d4]]:List (List Value)) iU (us0++(done++[(e.1,y,ai e.2 m')])):=⟨by simp[OX] <;> omega,by simpa [List.append_assoc] using ((CC.el.kp (fD B) bm).snoc (show vU B vI [.int .i64 (e.1:Int),.int .i64 (y:Int),.bool s4,.slice p4 n4 c4,.bool t4,.slice y4 m4 d4] (e.1,y,ai e.2 m') from ⟨s4,p4,n4,c4,t4,y4,m4,d4,aa,(Ij.mono hB).kp bm⟩)),uU,gr,ll,kC,by simpa using fT⟩;refine VO.call aa aa (fk tk) (λfQ iH fV=>((gi _ _ s' (ai e.2 m') kk kk fQ (yY.rd.ki (hK s' Xw hs0 hsM)) (Ij.rd.ki sY) ab ab).mono (λo w2 h=>And.intro h fV.1.size)).mono ?_);rintro o w5 ⟨⟨r5,rfl,q5,iz⟩,tX⟩;obtain⟨s5,p5,n5,c5,t5,y5,m5,d5,rfl⟩:=q5.form;refine nk iz ?_;intro lg _ sR;refine VO.cR aa aa (fk nL) (λfJ iK gE=>ew _ _ m' (ai e.2 m') kk kk fJ (Ru.ki (hK m' sV CB xy)) (Ij.rd.ki sY) ab ab) (λfJ iK gE w6 s6 p6 n6 c6 t6 y6 m6 d6 q6 ln lH _ sj=>wV aa ?_);refine aj ?_;refine VO.dY aa (([.bool s3,.slice p3 n3 c3,.bool t3,.slice y3 m3 d3]:List Value).map .val) aa (cL nw 1 _ ⟨[],aa⟩) (wV aa ?_);refine aj ?_;refine VO.call aa aa (fk nL) (λjS na jI=>((ew _ _ e.2 (ai e.2 m') kk kk jS (hE3.rd.ki (hK e.2 mA AW Dv)) (Ij.rd.ki sY) ab ab).mono (λo w2 h=>And.intro h jI.1.size)).mono ?_);rintro o w7 ⟨⟨r7,rfl,q7,ta⟩,Tc⟩;obtain⟨s7,p7,n7,c7,t7,y7,m7,d7,rfl⟩:=q7.form;refine nk ta ?_;intro rB _ Ct;refine VO.cond aa (by show bE +1+4<=_;rw[bu,bB,bB,oA,bB,nw];show bE +1+4<=bE +(6-1+_+_);omega) (VO.fi 155 aa (Bo nw) (wV aa ?_));refine aj ?_;refine VO.dY aa (([.bool s7,.slice p7 n7 c7,.bool t7,.slice y7 m7 d7]:List Value).map .val) aa (cL nw 1 _ ⟨[],aa⟩) (wV aa ?_);refine aj ?_;have FH:0<=e.2-ai e.2 m':=cY;have hlM:e.2-ai e.2 m'<=M:=cY;have hlI:Iz D (e.2-ai e.2 m'):=mA.sub sC;obtain⟨pZ,qa⟩:∃ pZ,eQ (e.2-ai e.2 m') 0=pZ:=⟨_,aa⟩;refine VO.cB aa aa (fk mJ) (λpV yn ru=>ea _ (e.2-ai e.2 m') kk pV (q7.ki (hK _ hlI FH hlM)) ab pZ qa) (λpV yn ru w8 vG vP _ KW=>wV aa ?_);refine aj ?_;have hE7:eV B w8 [.int .i64 (e.1:Int),.bool s7,.slice p7 n7 c7,.bool t7,.slice y7 m7 d7] (e.1,e.2-ai e.2 m'):=⟨s7,p7,n7,c7,t7,y7,m7,d7,aa,(q7.mono (bj hB Tc)).kp bm⟩;have KD:=lZ.so;have Xv:=lZ.po;have BN:=lZ.fl;have KN:0<=m' -ai e.2 m':=cY;have Sx:0<=s' +ai e.2 m':=cY;have Ik:s' +ai e.2 m' +(m' -ai e.2 m')=m:=cY;have Il:=(q6.kr (w':=w8) bm);have Im:aW w8 w.heap.size _ (s' +ai e.2 m'):=(q5.mono tX).kp bm;have hr8:cd (eV B) w8 jJ kx:=zH.kp (bt B) bm;by_cases hz:e.2-ai e.2 m'=0
     ·have zJ:(pZ == 0)=true:=by rw[<-qa,hz];rfl
      refine VS.aV aa zJ ?_;refine aj ?_;obtain⟨e1,e2,e3⟩:=ko (y:=y) (p:=e) (q:=jJ) hm hz;rw[e1,<-Uf,<-fu] at eU;rw[e2] at eL;rw[e3] at eS;refine VO.np aa aa (fk yJ) aa ab Eh Ef (λj hj=> ?_) (bM aa) (λw9 k9 b9=>wV aa ?_)
      ·rcases dW.1 hj with rfl|hj
       ·intro h;cases h
       ·cases aJ.1 hj;intro h;cases h
      refine aj ?_;have hO9:fm (eV B) 5 w9 (n' -1) (if c'=1 then bE else bE +5) (c' -1) (dI++[.int .i64 (e.1:Int),.bool s7,.slice p7 n7 c7,.bool t7,.slice y7 m7 d7]) kx ax jJ:=⟨by rw[zx];rfl,uV nw,by rw[ja,Xv];rfl,hr8.kp (bt B) bm,KD,ab,ab,uW BN⟩
      have gS:∀ (v8:AV) (wb:World),bQ (KU UU) w9 wb->((n' -1=0/\v8=.val (.pointer none))\/(n' -1≠0/\v8=.rz 155 (if c'=1 then bE else bE +5)))->Bq B D M w rv y q m Jr Mq tW vV us0 (2*jJ.length+(if 0<m' -ai e.2 m' then 1 else 0)) [(0,.box 154 0),(1,.val (.int .i64 (y:Int))),(5,.box 5 0),(6,.box 6 0),(7,.box 7 0),(8,v8)]
        ((154,(Runner,[.row 155 (if c'=1 then bE else bE +5) (n' -1) (c' -1),.val rv,.row 47 0 (un+1) cap']))::(155,(ff,((dI++([.int .i64 (e.1:Int),.bool s7,.slice p7 n7 c7,.bool t7,.slice y7 m7 d7]:List Value))++(kx.flatten++ax)).map AV.val))::(5,(26,([.bool s6,.slice p6 n6 c6,.bool t6,.slice y6 m6 d6]:List Value).map .val))::(6,(26,([.bool false,.slice none 0 0,.bool false,.slice none 0 0]:List Value).map .val))::(7,(26,([.bool s5,.slice p5 n5 c5,.bool t5,.slice y5 m5 d5]:List Value).map .val))::[(47,(gL,(xx++[[.int .i64 (e.1:Int),.int .i64 (y:Int),.bool s4,.slice p4 n4 c4,.bool t4,.slice y4 m4 d4]]:List (List Value)).flatten.map AV.val++iU))]) wb:=λv8 wb kb Xx=>
       ⟨jJ,_,_,_,_,kx,ax,m' -ai e.2 m',s' +ai e.2 m',done++[(e.1,y,ai e.2 m')],v8,_,_,_,_,_,_,_,_,_,_,_,_,_,_,_,_,_,_,rfl,rfl,rfl,hO9.kp (bt B) bm,Il.k,Im.k,sV.sub sC,Xw.add sC,KN,Sx,Ik,λp hp=>OY p (by simp[hp]),eU,eL,by rw[eS];grind,Xx,by simp at mD ⊢;split <;> omega,.inr ⟨_,_,_,_,rfl,rfl,Jb.kp bm⟩⟩
      have hlt:2*jJ.length+(if 0<m' -ai e.2 m' then 1 else 0)<2*(e::jJ).length+(if 0<m' then 1 else 0):=by
       rw[if_pos hm,fh];split <;> omega
      by_cases xI:n' -1=0
      ·refine VO.fE (x:=.row 155 (if c'=1 then bE else bE +5) (n' -1) (c' -1)) (p:=λ_=>none) (c:=c' -1) aa (λβ=>.inr ⟨_,au (λn=>Value.slice (some ⟨β 155,(if c'=1 then bE else bE +5),none⟩) n (c' -1)) xI⟩) aa (fk gO) aa (λwb Xy Vs=>wV aa ?_);refine aj ?_;refine VS.back _ hlt ⟨_,_,?_,?_,?_,?_,gS _ wb bm (.inl ⟨xI,aa⟩)⟩
       ·exact cA
       ·exact⟨aa,au (λl=>some (ff,l)) (gM _ _ _ _),aa,aa,aa,au (λl=>some (gL,l++iU)) bN,ag⟩
       ·rfl
       ·exact⟨.lit aa,.vals _,.vals _,.vals _,.vals _,.append (.vals _) (.none gr),ag⟩
      ·refine VO.eW aa aa (fk gO) aa xI (by intro h;cases h) (λwb Xy Vs=>wV aa ?_);refine aj ?_;refine VS.back _ hlt ⟨_,_,?_,?_,?_,?_,gS _ wb bm (.inr ⟨xI,aa⟩)⟩
       ·exact cA
       ·exact⟨aa,au (λl=>some (ff,l)) (gM _ _ _ _),aa,aa,aa,au (λl=>some (gL,l++iU)) bN,ag⟩
       ·rfl
       ·exact⟨.lit aa,.vals _,.vals _,.vals _,.vals _,.append (.vals _) (.none gr),ag⟩
     ·have zJ:(pZ == 0)=false:=by rw[<-qa,iZ];exact FQ hz
      refine VS.aP aa zJ ?_;refine aj ?_;obtain⟨e0,e1,e2,e3⟩:=km (y:=y) (p:=e) (q:=jJ) hm hz;refine VO.eW aa aa (fk gO) aa rn (by intro h;cases h) (λwb Xy Vs=>wV aa ?_);refine aj ?_;refine VS.back (2*(e::jJ).length+0) (by rw[if_pos hm];omega) ⟨_,_,?_,?_,?_,?_,⟨(e.1,e.2-ai e.2 m')::jJ,bE,n',c',dI,[.int .i64 (e.1:Int),.bool s7,.slice p7 n7 c7,.bool t7,.slice y7 m7 d7]::kx,ax,m' -ai e.2 m',s' +ai e.2 m',done++[(e.1,y,ai e.2 m')],.rz 155 bE,_,_,_,_,_,_,_,_,_,_,_,_,_,_,_,_,_,_,by rw[if_neg e0];rfl,rfl,rfl,⟨zx,.inl nw,Xv,.cons ((bt B).kp hE7 bm) (hr8.kp (bt B) bm),KD,Eh,Ef,by simpa using BN⟩,Il.k,Im.k,sV.sub sC,Xw.add sC,KN,Sx,Ik,λp hp=> ?_,?_,?_,?_,.inr ⟨rn,rfl⟩,?_,.inr ⟨_,_,_,_,rfl,rfl,Jb.kp bm⟩⟩⟩
      ·exact cA
      ·exact⟨aa,aa,aa,aa,aa,au (λl=>some (gL,l++iU)) bN,ag⟩
      ·rfl
      ·exact⟨.lit aa,.vals _,.vals _,.vals _,.vals _,.append (.vals _) (.none gr),ag⟩
      ·rcases dW.1 hp with rfl|hp
       ·exact⟨hlI,FH,hlM⟩
       ·exact OY p (by simp[hp])
      ·rw[eU,e1,lJ y _ e0,gA]
      ·rw[eL,e2,kh _ e0]
      ·rw[eS,e3,lK _ e0];grind
      ·rw[if_neg e0];simp at mD ⊢;omega
    ·have oT:¬ sg>0:=by rw[<-ny];exact λh=>hm (jy.1 h)
     refine VS.aP aa (aA oT) ?_;have fU:=lJ y (e::jJ) hm;have fL:=kh (e::jJ) hm;have fS:=lK (e::jJ) hm;refine aj ?_;refine VS.pG (cP _ _) aa (λwz β kz oz en=> ?_);obtain⟨o1,o2⟩:=iy (en.own 154 _ _ aa) 0 g aa aa;obtain⟨o3,o4⟩:=iy (en.own 155 _ _ aa) 1 b aa aa;rw[ak] at o4;replace o3:β 155=b:=o3;rw[fU] at eU;rw[fL] at eL;rw[fS,show s' +0=s' by grind] at eS;have o5:=(en.own 47 _ _ aa).new;have o6:=(en.own 47 _ _ aa).cls;rw[bC,ak] at o6;have n1':β 47≠g:=λe=>absurd (en.apart 154 47 (by intro h;cases h) (by intro h;cases h) (o1.trans e.symm)) bq;have n2':β 47≠b:=λe=>absurd (en.apart 155 47 (by intro h;cases h) (by intro h;cases h) (o3.trans e.symm)) bq
     have o7:w.heap.size<=β 47\/β 47=ub:=by
      have:=jk (show eK 77 [g,b,ub] w 47 (β 47) from o5);simpa [n1',n2'] using this
     refine⟨_,aa,?_,oz.1,oz.2 ub bN,bE,n',c',dI,_,ax,.slice (some ⟨β 47,0,none⟩) un uc,?_,o4,?_,⟨β 47,un,uc,xx,tV.map (AV.leaf β),o7,aa,o6,?_⟩⟩
     ·rw[eS];exact yY.k
     ·rw[<-o3];exact o2
     ·rw[eL];exact lZ.kp (bt B) bm
     ·rw[eU,gA];exact (CC.kp bm).o β
end
set_option maxRecDepth 4000
section
open Go.RowKit
attribute [local irreducible] aG VS
theorem rnr_a {v off n c:Nat} {a y:AV} (h:aY a=true) (hy:aY y=true):[.row v off n c,a,y].all aY=true:=by
 rw[lz,lz,lz,h,hy];rfl
theorem Ip {v off n c j:Nat} {a y:AV} (h:j∈aI [.row v off n c,a,y]):j=v\/j∈aI [a]\/j∈y.eu:=by
 obtain⟨z,hz,hj⟩:=bK.1 h;simp only[List.mem_cons,List.not_mem_nil,or_false] at hz;rcases hz with rfl|rfl|rfl
 ·exact .inl (by simpa [AV.eu] using hj)
 ·exact .inr (.inl (bK.2 ⟨_,bN,hj⟩))
 ·exact .inr (.inr hj)
theorem Ms {C:Cx} {β dA:Nat->Nat} {H:Hp} {ids:List Nat} {del:Option Nat} {ups:List (Nat×(TypeId×List AV))} {ad:List Nat} {w w':World} (hb:wi ad w w') (had:∀ b∈ad,(∃ x∈ups,dA x.1=b)\/∃ i,del=some i/\β i=b) (tw:∀ i,i∉ups.map (·.1)->dA i=β i) (gone:∀ i,del=some i->Reach H ids i/\H i≠none)
  (left:∀ i,del=some i->∃ t cs,bO w' (β i) t (List.toArray cs)/\C.K.fz t=false/\cs.all bD=true) (own:∀ x∈ups,oK C dA w' x.1 x.2.1 x.2.2)
  (WK:∀ x∈ups,(H x.1≠none/\del≠some x.1/\Reach H ids x.1/\dA x.1=β x.1)\/((H x.1=none\/del=some x.1)/\x.1<2*C.N/\(w.heap.size<=dA x.1\/∃ i,del=some i/\dA x.1=β i)))
  (once:(ups.map (·.1)).Nodup) (tys:(ups.map (·.2.1)).Nodup) (closed:∀ x∈ups,∀ j∈aI x.2.2,j∈ups.map (·.1)\/(H j≠none/\del≠some j)):GS C β dA H ids del ups w w':=by
 refine⟨hb.os,hb.tape,hb.output,hb.size,λk hk hx mD _=>hb.pk k hk λhm=> ?_,tw,gone,λi hi=>.inl (.inr (left i hi)),own,WK,once,λx hx y hy he=> ?_,closed⟩
 ·rcases had k hm with ⟨x,Nx,e⟩|⟨i,hi,e⟩
  ·exact hx x Nx e.symm
  ·exact mD i hi e.symm
 ·have ht:x.2.1=y.2.1:=cK (own x hx).cls (he▸(own y hy).cls);obtain⟨i,hi⟩:=qD.1 hx;obtain⟨j,hj⟩:=qD.1 hy;have e1:(ups.map (·.2.1))[i]? =some x.2.1:=by rw[nJ,hi];rfl
  have e2:(ups.map (·.2.1))[j]? =some x.2.1:=by rw[nJ,hj,ht];rfl
  have:=(Un (by rw[bu];exact (cQ.1 hi).1) tys).1 (e1.trans e2.symm);subst this;rw[hi] at hj;cases hj;rfl
theorem Xz (g y kk:Nat) (r u v:Value) (m:Rat) (w:World) (hg:bO w g Runner #[.slice none 0 0,r,u]) (hv:cJ w v m):
  Calls Tryz.prog 73 #[.pointer (some ⟨g,0,none⟩),.int .i64 (y:Int),v] w λo w'=>∃ x,o=.returned x/\aW w' w.heap.size x 0/\aU w w':=by
 obtain⟨s0,p0,n0,c0,t0,y0,m0,d0,rfl⟩:=hv.form;refine ah (C:=cH Tryz.prog w _) (args:=[_,_,_]) Gm aa Tryz.ntmps73 (bM aa) ?_;refine ae ?_;refine VO.call aa aa (fk nK) (λbn cG bo=>((dz 0 bn ab ab).mono (λo w2 h=>And.intro h bo.size)).mono ?_);rintro o w1 ⟨⟨r9,rfl,q9,Sg⟩,Ta⟩;obtain⟨s9,p9,n9,c9,t9,y9,m9,d9,rfl⟩:=q9.form;refine bZ Sg ?_;intro Jp _ bb9;have q9':aW w1 w.heap.size (.agg #[.bool s9,.slice p9 n9 c9,.bool t9,.slice y9 m9 d9]) 0:=q9.mono Ta;refine VO.cB aa aa (fk gO) (λcz dB cT=>DM g 0 none r u cz (hg.bI cT)) (λcz dB cT w2 cC fe _ bb2=>wV aa ?_);refine ae ?_;refine VS.loop (J:=λm L M w'=>L=[(1,.val (.int .i64 (y:Int))),(5,.box 5 0),(6,.box 6 0),(7,.box 7 0),(8,.val (.pointer none))]/\M=[(5,(26,([.bool s0,.slice p0 n0 c0,.bool t0,.slice y0 m0 d0]:List Value).map .val)),(6,(26,([.bool false,.slice none 0 0,.bool false,.slice none 0 0]:List Value).map .val)),(7,(26,([.bool s9,.slice p9 n9 c9,.bool t9,.slice y9 m9 d9]:List Value).map .val))]/\aW w' w.heap.size (.agg #[.bool s9,.slice p9 n9 c9,.bool t9,.slice y9 m9 d9]) 0) 0 ⟨_,_,?_,?_,?_,?_,⟨aa,aa,q9'.k⟩⟩ ?_
 ·exact cA
 ·exact cA
 ·rfl
 ·exact gn
 rintro m' L M w3 ⟨rfl,rfl,hr3⟩;refine ae ?_;refine bl ?_;intro wz kz bz;exact⟨_,aa,hr3.k,bz⟩
end
section
open Go.RowKit
section
variable {C:Cx} {F:Fr} {H:Hp} {w:World} {m:Option (List FuncId)} {full:Array Oper} {K:Fr->Hp->World->Prop} {o:Oper} {r:List Oper}
variable {B i y:Nat} {mm:Rat}
theorem VO.Br {a u:AV} {val:Value} (kk:Nat) (hP:C.P=Tryz.prog) (e:stepOf C full F H o=.call (.fn 73 [.box i 0,.val (.int .i64 (y:Int)),.val val])) (hf:rA C.P 73) (h1:H i=some (Runner,[.val (.slice none 0 0),a,u])) (hv:∀ w1,bQ C.K w w1->C.Old w1->cJ w1 val mm) (hB:B<=C.w0.heap.size)
  (k:∀ w2 x,bQ C.K w w2->C.Old w2->aW w2 B x 0->aG C m full r K (F.cw o.dst (.val x)) H w2):aG C m full (o::r) K F H w:=by
 refine VO.eB e hf λw1 β a1 a2 a3=> ?_;have o1:=a3.own i (.base (by simp[jN,AV.ids])) _ _ h1;refine yK (show Calls C.P _ #[.pointer (some ⟨β i,0,none⟩),.int .i64 (y:Int),val] w1 _ from hP▸Xz (β i) y kk _ _ val mm w1 o1.cls (hv w1 a1 a2)) ?_;rintro e w2 ⟨x,rfl,hx,hb⟩;exact⟨_,aa,hb,λb1 b2 b3=>k w2 x b1 b3 (hx.mono (bj hB (C.iq _ a2)))⟩
variable {vs:List (List Value)} {pre spare:List Value} {D d2 off c:Nat} {M:Rat}
theorem VO.Qw {v n:Nat} {a:AV} {q:List Vq} {val:Value} (kk:Nat) (hP:C.P=Tryz.prog) (hK:C.K=KU UU)
  (e:stepOf C full F H o=.call (.fn 73 [.box i 0,.val (.int .i64 (y:Int)),.val val])) (hf:rA C.P 73) (h1:H i=some (Runner,[.row v off n c,a,.val (.slice none 0 0)])) (h2:H v=some (ff,(pre++(vs.flatten++spare)).map .val)) (h3:H d2=none) (hd2:d2<2*C.N) (hiv:i≠v) (haok:aY a=true) (haval:∀ β:Nat->Nat,bD (a.leaf β)=true)
  (lG:∀ j∈aI [a],H j≠none) (hl:1<=lvl C.SU m o) (hO:∀ w1,bQ C.K w w1->C.Old w1->fm (eV B) 5 w1 n off c pre vs spare q) (hv:∀ w1,bQ C.K w w1->C.Old w1->cJ w1 val mm) (hmI:Iz D mm) (Ie:0<=mm) (hmM:mm<=M) (hq:∀ p∈q,Iz D p.2/\0<=p.2/\p.2<=M)
  (hKs:∀ x,Iz D x->0<=x->x<=M->fI x kk) (hk:kk<=100000) (pI:q.length<=1000) (hB:B<=C.w0.heap.size)
  (k1:∀ w2 x bE n' c' dI kO ax,bQ C.K w w2->C.Old w2->aW w2 B x (zV q mm)->wj y q mm=[]->fm (eV B) 5 w2 n' bE c' dI kO ax (sw q mm)->
   aG C m full r K (F.cw o.dst (.val x)) ((H.put i (Runner,[.row v bE n' c',a,.val (.slice none 0 0)])).put v (ff,(dI++(kO.flatten++ax)).map .val)) w2)
  (k2:∀ w2 x bE n' c' dI kO ax un uc xx tV,bQ C.K w w2->C.Old w2->aW w2 B x (zV q mm)->fm (eV B) 5 w2 n' bE c' dI kO ax (sw q mm)->fm (vU B) 6 w2 un 0 uc [] xx tV (wj y q mm)->
   aG C m full r K (F.cw o.dst (.val x)) (((H.put i (Runner,[.row v bE n' c',a,.row d2 0 un uc])).put v (ff,(dI++(kO.flatten++ax)).map .val)).put d2 (gL,(xx.flatten++tV).map .val)) w2):aG C m full (o::r) K F H w:=by
 show one C m full o (aG C m full r K) F H w;unfold one;rw[e];intro w1 β a1 a2 a3;have nA:Reach H (kH.fn 73 [.box i 0,.val (.int .i64 (y:Int)),.val val]).ids i:=.base (by simp[kH.ids,jN,AV.ids]);have nC:Reach H (kH.fn 73 [.box i 0,.val (.int .i64 (y:Int)),.val val]).ids v:=.step nA h1 (by simp[aI,AV.eu]);have o1:=a3.own i nA _ _ h1;have o2:=a3.own v nC _ _ h2;have kC:bO w1 (β v) ff (pre++(vs.flatten++spare)).toArray:=by have:=o2.cls;rw[ak] at this;exact this
 have hBw:B<=w1.heap.size:=bj hB (C.iq _ a2);have hne:∀ j,H j≠none->j≠d2:=λj hj e=>hj (e▸h3);have hid:i≠d2:=hne i (by rw[h1];simp);have Vr:v≠d2:=hne v (by rw[h2];simp);refine⟨hf,yK (show Calls C.P _ #[.pointer (some ⟨β i,0,none⟩),.int .i64 (y:Int),val] w1 _ from hP▸iUse_nil B (β i) (β v) off n c y D kk M mm pre vs spare q (a.leaf β) val w1 o1.cls kC (hO w1 a1 a2) (haval β) (hv w1 a1 a2) hmI Ie hmM hq hKs hk pI hBw) ?_⟩;rintro e w2 ⟨x,rfl,hx,hb,bE,n',c',dI,kO,ax,uv,Yx,Ja,lZ,⟨rfl,Wm⟩|⟨b',un,uc,xx,tV,hbn,rfl,hu',CC⟩⟩
 ·refine⟨β,.val x,none,[(i,(Runner,[.row v bE n' c',a,.val (.slice none 0 0)])),(v,(ff,(dI++(kO.flatten++ax)).map .val))],aa,λi hi=>(by cases hi),.inl hl,.inr aa,?_,λp1 _ p3 _ _=>k1 w2 x bE n' c' dI kO ax p1 p3 (hx.mono hBw) Wm lZ⟩;refine Ms hb (λb Ja=> ?_) (λ_ _=>aa) (λi hi=>(by cases hi)) (λi hi=>(by cases hi)) (λx hx=> ?_) (λx hx=> ?_) (by simpa using hiv) (by show [Runner,ff].Nodup;decide) (λx hx j hj=> ?_)
  ·simp only[List.mem_cons,List.not_mem_nil,or_false] at Ja;rcases Ja with rfl|rfl
   ·exact .inl ⟨_,vo,aa⟩
   ·exact .inl ⟨_,qE _ vo,aa⟩
  ·simp only[List.mem_cons,List.not_mem_nil,or_false] at hx;rcases hx with rfl|rfl
   ·exact⟨o1.new,o1.ty,Yx,rnr_a haok aa⟩
   ·exact⟨o2.new,o2.ty,by rw[ak];exact Ja,bP (lZ.all (bt B))⟩
  ·simp only[List.mem_cons,List.not_mem_nil,or_false] at hx;rcases hx with rfl|rfl
   ·exact .inl ⟨by rw[h1];simp,bN,nA,rfl⟩
   ·exact .inl ⟨by rw[h2];simp,bN,nC,rfl⟩
  ·simp only[List.mem_cons,List.not_mem_nil,or_false] at hx;rcases hx with rfl|rfl
   ·rcases Ip hj with h|h|h
    ·exact .inl (by simp[h])
    ·exact .inr ⟨lG j h,bN⟩
    ·cases h
   ·rw[aw] at hj;cases hj
 ·let dA:Nat->Nat:=λj=>if j=d2 then b' else β j
  have e2:dA d2=b':=if_pos aa;have e1:∀ j,j≠d2->dA j=β j:=λj hj=>if_neg hj;have hag:a.leaf dA=a.leaf β:=AV.uG λj hj=>e1 j (hne j (lG j (bK.2 ⟨a,bN,hj⟩)));refine⟨dA,.val x,none,[(i,(Runner,[.row v bE n' c',a,.row d2 0 un uc])),(v,(ff,(dI++(kO.flatten++ax)).map .val)),(d2,(gL,(xx.flatten++tV).map .val))],aa,λi hi=>(by cases hi),.inl ab,.inr aa,?_,λp1 _ p3 ρ _=>k2 w2 x bE n' c' dI kO ax un uc xx tV p1 p3 (hx.mono hBw) lZ CC⟩;refine Ms hb (λb Ja=> ?_) (λj hj=>e1 j (λh=>hj (by simp[h]))) (λi hi=>(by cases hi)) (λi hi=>(by cases hi)) (λx hx=> ?_) (λx hx=> ?_) (by simp[hiv,hid,Vr]) (by show [Runner,ff,gL].Nodup;decide) (λx hx j hj=> ?_)
  ·simp only[List.mem_cons,List.not_mem_nil,or_false] at Ja;rcases Ja with rfl|rfl
   ·exact .inl ⟨_,vo,e1 i hid⟩
   ·exact .inl ⟨_,qE _ vo,e1 v Vr⟩
  ·simp only[List.mem_cons,List.not_mem_nil,or_false] at hx;rcases hx with rfl|rfl|rfl
   ·refine⟨by rw[e1 i hid];exact o1.new,o1.ty,?_,rnr_a haok aa⟩;rw[e1 i hid];show bO w2 (β i) Runner #[.slice (some ⟨dA v,bE,none⟩) n' c',a.leaf dA,.slice (some ⟨dA d2,0,none⟩) un uc];rw[e1 v Vr,e2,hag];exact Yx
   ·exact⟨by rw[e1 v Vr];exact o2.new,o2.ty,by rw[e1 v Vr,ak];exact Ja,bP (lZ.all (bt B))⟩
   ·refine⟨?_,by rw[hK];rfl,by rw[e2,ak];exact hu',bP (by have:=CC.all (fD B);exact this)⟩;rw[e2];exact C.yT _ _ ab (by have:=C.iq _ a2;omega)
  ·simp only[List.mem_cons,List.not_mem_nil,or_false] at hx;rcases hx with rfl|rfl|rfl
   ·exact .inl ⟨by rw[h1];simp,bN,nA,e1 i hid⟩
   ·exact .inl ⟨by rw[h2];simp,bN,nC,e1 v Vr⟩
   ·exact .inr ⟨.inl h3,hd2,.inl (by rw[e2];exact hbn)⟩
  ·simp only[List.mem_cons,List.not_mem_nil,or_false] at hx;rcases hx with rfl|rfl|rfl
   ·rcases Ip hj with h|h|h
    ·exact .inl (by simp[h])
    ·exact .inr ⟨lG j h,bN⟩
    ·exact .inl (by have:j=d2:=by simpa [AV.eu] using h
                    simp[this])
   ·rw[aw] at hj;cases hj
   ·rw[aw] at hj;cases hj
theorem VO.Qx {v n:Nat} {a:AV} {q:List Vq} {val:Value} {u Jr Mq:Nat} {tW:List (List Value)} {vV:List Value} {us0:List Uq} (kk:Nat) (hP:C.P=Tryz.prog) (hK:C.K=KU UU)
  (e:stepOf C full F H o=.call (.fn 73 [.box i 0,.val (.int .i64 (y:Int)),.val val])) (hf:rA C.P 73) (h1:H i=some (Runner,[.row v off n c,a,.row u 0 Jr Mq])) (h2:H v=some (ff,(pre++(vs.flatten++spare)).map .val)) (h4:H u=some (gL,(tW.flatten++vV).map .val)) (Yy:∀ w1,bQ C.K w w1->C.Old w1->fm (vU B) 6 w1 Jr 0 Mq [] tW vV us0) (Mr:us0.length<=1000) (hiu:i≠u) (hvu:v≠u) (h3:H d2=none) (hd2:d2<2*C.N) (hiv:i≠v) (haok:aY a=true) (haval:∀ β:Nat->Nat,bD (a.leaf β)=true)
  (lG:∀ j∈aI [a],H j≠none/\j≠u) (hl:lvl C.SU m o=2) (hO:∀ w1,bQ C.K w w1->C.Old w1->fm (eV B) 5 w1 n off c pre vs spare q) (hv:∀ w1,bQ C.K w w1->C.Old w1->cJ w1 val mm) (hmI:Iz D mm) (Ie:0<=mm) (hmM:mm<=M) (hq:∀ p∈q,Iz D p.2/\0<=p.2/\p.2<=M)
  (hKs:∀ x,Iz D x->0<=x->x<=M->fI x kk) (hk:kk<=100000) (pI:q.length<=1000) (hB:B<=C.w0.heap.size)
  (k2:∀ w2 x bE n' c' dI kO ax un uc xx tV ρ,bQ C.K w w2->C.Old w2->aW w2 B x (zV q mm)->fm (eV B) 5 w2 n' bE c' dI kO ax (sw q mm)->fm (vU B) 6 w2 un 0 uc [] xx tV (us0++wj y q mm)->
   aG C m full r K ((F.forget (some u) ρ).cw o.dst (.val x)) ((((H.forget (some u) ρ).put i (Runner,[.row v bE n' c',a,.row d2 0 un uc])).put v (ff,(dI++(kO.flatten++ax)).map .val)).put d2 (gL,(xx.flatten++tV).map .val)) w2):aG C m full (o::r) K F H w:=by
 show one C m full o (aG C m full r K) F H w;unfold one;rw[e];intro w1 β a1 a2 a3;have nA:Reach H (kH.fn 73 [.box i 0,.val (.int .i64 (y:Int)),.val val]).ids i:=.base (by simp[kH.ids,jN,AV.ids]);have nC:Reach H (kH.fn 73 [.box i 0,.val (.int .i64 (y:Int)),.val val]).ids v:=.step nA h1 (by simp[aI,AV.eu]);have o1:=a3.own i nA _ _ h1;have o2:=a3.own v nC _ _ h2;have kC:bO w1 (β v) ff (pre++(vs.flatten++spare)).toArray:=by have:=o2.cls;rw[ak] at this;exact this
 have hBw:B<=w1.heap.size:=bj hB (C.iq _ a2);have hne:∀ j,H j≠none->j≠d2:=λj hj e=>hj (e▸h3);have hid:i≠d2:=hne i (by rw[h1];simp);have Vr:v≠d2:=hne v (by rw[h2];simp);have hr4:Reach H (kH.fn 73 [.box i 0,.val (.int .i64 (y:Int)),.val val]).ids u:=.step nA h1 (by simp[aI,AV.eu]);have o4:=a3.own u hr4 _ _ h4;have Ax:bO w1 (β u) gL (tW.flatten++vV).toArray:=by have:=o4.cls;rw[ak] at this;exact this
 have hud:u≠d2:=hne u (by rw[h4];simp);refine⟨hf,yK (show Calls C.P _ #[.pointer (some ⟨β i,0,none⟩),.int .i64 (y:Int),val] w1 _ from hP▸iUse_row B (β i) (β v) off n c y D kk M mm pre vs spare q (a.leaf β) val (β u) Jr Mq tW vV us0 w1 o1.cls Ax (Yy w1 a1 a2) Mr kC (hO w1 a1 a2) (haval β) (hv w1 a1 a2) hmI Ie hmM hq hKs hk pI hBw) ?_⟩;rintro e w2 ⟨x,rfl,hx,hb,⟨tl,cl,l1,l2,l3⟩,bE,n',c',dI,kO,ax,uv,Yx,Ja,lZ,b',un,uc,xx,tV,hbn,rfl,hu',CC⟩
 ·let dA:Nat->Nat:=λj=>if j=d2 then b' else β j
  have e2:dA d2=b':=if_pos aa;have e1:∀ j,j≠d2->dA j=β j:=λj hj=>if_neg hj;have hag:a.leaf dA=a.leaf β:=AV.uG λj hj=>e1 j (hne j ((lG j (bK.2 ⟨a,bN,hj⟩)).1));refine⟨dA,.val x,some u,[(i,(Runner,[.row v bE n' c',a,.row d2 0 un uc])),(v,(ff,(dI++(kO.flatten++ax)).map .val)),(d2,(gL,(xx.flatten++tV).map .val))],aa,λi hi=>(by cases hi),.inl ab,.inl ab,?_,λp1 _ p3 ρ _=>k2 w2 x bE n' c' dI kO ax un uc xx tV ρ p1 p3 (hx.mono hBw) lZ CC⟩;refine Ms hb (λb Ja=> ?_) (λj hj=>e1 j (λh=>hj (by simp[h]))) (λj hj=>by cases hj;exact⟨hr4,by rw[h4];simp⟩) (λj hj=>by cases hj;exact⟨tl,cl,l1,by rw[hK];exact l2,l3⟩) (λx hx=> ?_) (λx hx=> ?_) (by simp[hiv,hid,Vr]) (by show [Runner,ff,gL].Nodup;decide) (λx hx j hj=> ?_)
  ·simp only[List.mem_cons,List.not_mem_nil,or_false] at Ja;rcases Ja with rfl|rfl|rfl
   ·exact .inl ⟨_,vo,e1 i hid⟩
   ·exact .inl ⟨_,qE _ vo,e1 v Vr⟩
   ·exact .inr ⟨u,aa,aa⟩
  ·simp only[List.mem_cons,List.not_mem_nil,or_false] at hx;rcases hx with rfl|rfl|rfl
   ·refine⟨by rw[e1 i hid];exact o1.new,o1.ty,?_,rnr_a haok aa⟩;rw[e1 i hid];show bO w2 (β i) Runner #[.slice (some ⟨dA v,bE,none⟩) n' c',a.leaf dA,.slice (some ⟨dA d2,0,none⟩) un uc];rw[e1 v Vr,e2,hag];exact Yx
   ·exact⟨by rw[e1 v Vr];exact o2.new,o2.ty,by rw[e1 v Vr,ak];exact Ja,bP (lZ.all (bt B))⟩
   ·refine⟨?_,by rw[hK];rfl,by rw[e2,ak];exact hu',bP (by have:=CC.all (fD B);exact this)⟩;rw[e2];rcases hbn with h|h
    ·exact C.yT _ _ ab (by have:=C.iq _ a2;omega)
    ·rw[h];exact C.Kn u d2 _ o4.new ab
  ·simp only[List.mem_cons,List.not_mem_nil,or_false] at hx;rcases hx with rfl|rfl|rfl
   ·exact .inl ⟨by rw[h1];simp,by simpa using λh=>hiu h.symm,nA,e1 i hid⟩
   ·exact .inl ⟨by rw[h2];simp,by simpa using λh=>hvu h.symm,nC,e1 v Vr⟩
   ·exact .inr ⟨.inl h3,hd2,hbn.imp (λh=>by rw[e2];exact h) (λh=>⟨u,aa,by rw[e2];exact h⟩)⟩
  ·simp only[List.mem_cons,List.not_mem_nil,or_false] at hx;rcases hx with rfl|rfl|rfl
   ·rcases Ip hj with h|h|h
    ·exact .inl (by simp[h])
    ·exact .inr ⟨(lG j h).1,by simpa using λh2=>(lG j h).2 h2.symm⟩
    ·exact .inl (by have:j=d2:=by simpa [AV.eu] using h
                    simp[this])
   ·rw[aw] at hj;cases hj
   ·rw[aw] at hj;cases hj
end
end
set_option maxRecDepth 4000
section
open Go.RowKit
attribute [local irreducible] aG VS
theorem CD {D:Nat}:∀ {q:List Vq} {m:Rat},(∀ p∈q,Iz D p.2/\0<=p.2)->Iz D m->0<=m->Iz D (zV q m)/\0<=zV q m/\zV q m<=m
 | [],m,_,_,hm=>⟨Iz.zero,mK,hm⟩
 | p::q,m,h,hI,hm=>by
   obtain⟨p1,p2⟩:=h p bN;have hq:∀ x∈q,Iz D x.2/\0<=x.2:=λx hx=>h x (by simp[hx]);have ym:=dJ p.2 m;have rn:0<=ai p.2 m:=by rcases ym with ⟨e,_⟩|⟨e,_⟩ <;> rw[e] <;> assumption
   have sC:Iz D (ai p.2 m):=by rcases ym with ⟨e,_⟩|⟨e,_⟩ <;> rw[e] <;> assumption
   have FI:=dM p.2 m;by_cases h0:0<m
   ·by_cases hz:p.2-ai p.2 m=0
    ·obtain⟨_,_,e3⟩:=ko (y:=0) (p:=p) (q:=q) h0 hz;obtain⟨i1,i2,i3⟩:=CD (m:=m-ai p.2 m) hq (hI.sub sC) cY;rw[e3];exact⟨sC.add i1,cY,cY⟩
    ·obtain⟨_,_,_,e3⟩:=km (y:=0) (p:=p) (q:=q) h0 hz;rw[e3];exact⟨sC,rn,FI⟩
   ·rw[lK _ h0];exact⟨Iz.zero,mK,hm⟩
theorem lfQ_bd {D:Nat} {M:Rat}:∀ {q:List Vq} {m:Rat},(∀ p∈q,Iz D p.2/\0<=p.2/\p.2<=M)->Iz D m->0<=m->∀ p∈sw q m,Iz D p.2/\0<=p.2/\p.2<=M/\∃ p'∈q,p'.1=p.1
 | [],m,_,_,_,p,hp=>by cases hp
 | x::q,m,h,hI,hm,p,hp=>by
   obtain⟨p1,p2,p3⟩:=h x bN;have hq:∀ x∈q,Iz D x.2/\0<=x.2/\x.2<=M:=λx hx=>h x (by simp[hx]);have ym:=dJ x.2 m;have rn:0<=ai x.2 m:=by rcases ym with ⟨e,_⟩|⟨e,_⟩ <;> rw[e] <;> assumption
   have sC:Iz D (ai x.2 m):=by rcases ym with ⟨e,_⟩|⟨e,_⟩ <;> rw[e] <;> assumption
   have FI:=dM x.2 m;have Co:=eh x.2 m;by_cases h0:0<m
   ·by_cases hz:x.2-ai x.2 m=0
    ·obtain⟨_,e2,_⟩:=ko (y:=0) (p:=x) (q:=q) h0 hz;rw[e2] at hp;obtain⟨i1,i2,i3,p',i4,i5⟩:=lfQ_bd (m:=m-ai x.2 m) hq (hI.sub sC) cY p hp;exact⟨i1,i2,i3,p',by simp[i4],i5⟩
    ·obtain⟨_,_,e2,_⟩:=km (y:=0) (p:=x) (q:=q) h0 hz;rw[e2] at hp;rcases dW.1 hp with rfl|hp
     ·exact⟨p1.sub sC,by show 0<=x.2-ai x.2 m;grind,by show x.2-ai x.2 m<=M;grind,x,bN,rfl⟩
     ·obtain⟨a,b,c⟩:=hq p hp;exact⟨a,b,c,p,by simp[hp],rfl⟩
   ·rw[kh _ h0] at hp;obtain⟨a,b,c⟩:=h p hp;exact⟨a,b,c,p,hp,aa⟩
theorem Iq (y:Nat):∀ (q:List Vq) (m:Rat),(wj y q m).length+(sw q m).length<=q.length+1/\(sw q m).length<=q.length
 | [],_=>⟨fH _,bL _⟩
 | p::q,m=>by
   by_cases h0:0<m
   ·by_cases hz:p.2-ai p.2 m=0
    ·obtain⟨e1,e2,_⟩:=ko (y:=y) (p:=p) (q:=q) h0 hz;have:=Iq y q (m-ai p.2 m);rw[e1,e2,fh,fh];omega
    ·obtain⟨_,e1,e2,_⟩:=km (y:=y) (p:=p) (q:=q) h0 hz;rw[e1,e2];simp;omega
   ·rw[lJ y _ h0,kh _ h0];simp
structure Ir (D:Nat) (M:Rat) (s:Qs):Prop where
 el:∀ p∈s.q,Iz D p.2/\0<=p.2/\p.2<=M+M/\p.1<s.rows.length
 len:s.uses.length+s.q.length<=2*s.rows.length
theorem exp_len (keep n:Nat) (s:Qs):(Bm keep n s).rows.length=s.rows.length/\(Bm keep n s).uses=s.uses/\(Bm keep n s).q.length<=s.q.length/\∀ p∈(Bm keep n s).q,p∈s.q:=by
 unfold Bm
 split
 ·rename_i p q hq
  split
  ·exact⟨oy ..,aa,by rw[hq];simp,λx hx=>by rw[hq];exact qE _ hx⟩
  ·exact⟨aa,aa,bL _,λx hx=>hx⟩
 ·exact⟨aa,aa,bL _,λx hx=>hx⟩
variable {D:Nat} {M:Rat}
theorem sD {L x:Rat} (hL:Iz D L) (hL0:0<=L) (zK:L<=M) (hx:Iz D x) (my: -M<=x) (NB:x<=M):
  Iz D (ai x L)/\-M<=ai x L/\ai x L<=M/\Iz D (x-ai x L)/\0<=x-ai x L/\x-ai x L<=M+M/\Iz D (L-ai x L)/\0<=L-ai x L/\L-ai x L<=M+M:=by
 rcases dJ x L with ⟨e,h⟩|⟨e,h⟩ <;> rw[e]
 ·exact⟨hx,my,NB,hx.sub hx,cY,cY,hL.sub hx,cY,cY⟩
 ·exact⟨hL,cY,zK,hx.sub hL,cY,cY,hL.sub hL,cY,cY⟩
variable {S F:Rat} {e:Rat×Rat}
theorem Vt {keep:Nat} {s:Qs} (h:Ir D M s) (hL:Iz D (aH S F e.2)) (zK:aH S F e.2<=M) (hx:Iz D e.1) (my: -M<=e.1) (NB:e.1<=M):Ir D M (fR S F keep s.rows.length s e)/\(fR S F keep s.rows.length s e).rows.length=s.rows.length+1:=by
 obtain⟨g1,g2,g3,g4,g5,g6,g7,g8,g9⟩:=sD hL (oq S F e.2) zK hx my NB;unfold fR;obtain⟨e1,e2,e3,e4⟩:=exp_len keep s.rows.length ⟨rF s.rows.length (gz S F s.q e).az (sw s.q (aH S F e.2-ai e.1 (aH S F e.2))),s.rows++[gz S F s.q e],s.uses++wj s.rows.length s.q (aH S F e.2-ai e.1 (aH S F e.2))⟩;obtain⟨u1,u2⟩:=Iq s.rows.length s.q (aH S F e.2-ai e.1 (aH S F e.2));have hl:(s.rows++[gz S F s.q e]).length=s.rows.length+1:=by rw[bB];rfl
 have hput:(rF s.rows.length (gz S F s.q e).az (sw s.q (aH S F e.2-ai e.1 (aH S F e.2)))).length<=(sw s.q (aH S F e.2-ai e.1 (aH S F e.2))).length+1:=by
  unfold rF;split
  ·rw[bB];exact bL _
  ·omega
 refine⟨⟨λp hp=> ?_,?_⟩,by rw[e1];exact hl⟩
 ·rw[e1,hl];have hp':=e4 p hp
  have key:p∈sw s.q (aH S F e.2-ai e.1 (aH S F e.2))\/p=(s.rows.length,e.1-ai e.1 (aH S F e.2)):=by
   unfold rF at hp'
   dsimp only at hp'
   split at hp'
   ·rcases gg.1 hp' with h|h
    ·exact .inl h
    ·exact .inr (aJ.1 h)
   ·exact .inl hp'
  rcases key with hk|rfl
  ·obtain⟨a,b,c,p',d1,d2⟩:=lfQ_bd (λp hp=>⟨(h.el p hp).1,(h.el p hp).2.1,(h.el p hp).2.2.1⟩) g7 g8 p hk;have:=(h.el p' d1).2.2.2;exact⟨a,b,c,ab⟩
  ·exact⟨g4,g5,g6,Nat.lt_succ_self _⟩
 ·rw[e1,e2,hl]
  dsimp only at e3 ⊢
  rw[bB];have:=h.len;omega
def gF (B:Nat) (w:World) (cs:List Value) (r:bh):Prop:=
 ∃ a b c d e f g,cs=a++(b++(c++(d++(e++(f++g)))))/\R4 B w a r.aX/\R4 B w b r.allowed/\R4 B w c r.az/\R4 B w d r.used/\R4 B w e r.ao/\R4 B w f r.aq/\R4 B w g r.closing
variable {cs:List Value} {B:Nat} {w:World}
theorem R4.len {q:Rat} (h:R4 B w cs q):cs.length=4:=by obtain⟨s,p,n,c,t,r,m,d,rfl,_⟩:=h;rfl
theorem R4.ok {q:Rat} (h:R4 B w cs q):cs.all bD=true:=by obtain⟨s,p,n,c,t,r,m,d,rfl,_⟩:=h;rfl
theorem aL (B:Nat):jo (gF B) 28 where
 kp:=λh k=>by
  obtain⟨a,b,c,d,e,f,g,h0,h1,h2,h3,h4,h5,h6,h7⟩:=h;exact⟨a,b,c,d,e,f,g,h0,h1.kp k,h2.kp k,h3.kp k,h4.kp k,h5.kp k,h6.kp k,h7.kp k⟩
 len:=λh=>by
  obtain⟨a,b,c,d,e,f,g,rfl,h1,h2,h3,h4,h5,h6,h7⟩:=h;simp[h1.len,h2.len,h3.len,h4.len,h5.len,h6.len,h7.len]
 ok:=λh=>by
  obtain⟨a,b,c,d,e,f,g,rfl,h1,h2,h3,h4,h5,h6,h7⟩:=h;simp only[List.all_append,h1.ok,h2.ok,h3.ok,h4.ok,h5.ok,h6.ok,h7.ok,Bool.and_self]
structure vW {α:Type} (E:World->List Value->α->Prop) (sz:Nat) (w:World) (n c:Nat) (vs:List (List Value)) (sp:List AV) (es:List α):Prop where
 len:n=es.length
 el:cd E w es vs
 so:sp.all aY=true
 sl:aI sp=[]
 le:n<=c
 cm:c<=9223372036854775807
 fl:(vs.flatten.map AV.val++sp).length=c*sz
variable {vs:List (List Value)} {sp:List AV} {c:Nat} {α:Type} {es:List α} {w':World} {E:World->List Value->α->Prop}
theorem vW.kp {sz n:Nat} (hE:jo E sz) (h:vW E sz w n c vs sp es) (k:Kp UU w w'):vW E sz w' n c vs sp es:=⟨h.len,h.el.kp hE k,h.so,h.sl,h.le,h.cm,h.fl⟩
theorem vW.o {sz n:Nat} (h:vW E sz w n c vs sp es) (β:Nat->Nat):fm E sz w n 0 c [] vs (sp.map (AV.leaf β)) es:=
 ⟨h.len,.inl rfl,rfl,h.el,eN h.so,h.le,h.cm,by have:=h.fl;rw[bB,bu] at this;rw[bB,bu];exact this⟩
theorem fm.a {sz n:Nat} {sp:List Value} (h:fm E sz w n 0 c [] vs sp es):vW E sz w n c vs (sp.map .val) es:=
 ⟨h.len,h.el,bP h.so,aw _,h.le,h.cm,by rw[<-bC,bu];exact h.fl⟩
theorem fb {sz:Nat} (h:∀ x∈vs,x.length=sz):vs.flatten.length=vs.length*sz:=by
 induction vs with
 | nil=>simp
 | cons x vs ih=>rw[oA,bB,h x bN,ih (λy hy=>h y (by simp[hy])),fh,fG];omega
variable {x:List Value} {i:Nat}
theorem Lb {sz o:Nat} {new:List Value} (h:∀ x∈vs,x.length=sz) (hi:vs[i]? =some x) (ho:o+new.length<=sz):
  (vs.flatten.map AV.val++sp).take (i*sz+o)++(new.map AV.val++(vs.flatten.map AV.val++sp).drop (i*sz+o+new.length))=(vs.set i (x.take o++(new++x.drop (o+new.length)))).flatten.map AV.val++sp:=by
 obtain⟨hlt,hx⟩:=cQ.1 hi;have Jq:vs=vs.take i++x::vs.drop (i+1):=by rw[<-hx,<-mG hlt,qB]
 have ib:x.length=sz:=h x (cX hi)
 have hal:(vs.take i).flatten.length=i*sz:=by
  rw[fb (λy hy=>h y (nI hy)),cM,ig ab]
 have SZ:vs.set i (x.take o++(new++x.drop (o+new.length)))=vs.take i++(x.take o++(new++x.drop (o+new.length)))::vs.drop (i+1):=by rw[YE,if_pos hlt]
 rw[SZ]
 conv=>lhs;rw[Jq]
 generalize (vs.take i)=A at*;generalize (vs.drop (i+1))=C at*;have e1:((A++x::C).flatten.map AV.val++sp)=(A.flatten.map AV.val)++((x.map AV.val)++(C.flatten.map AV.val++sp)):=bN;have hA:(A.flatten.map AV.val).length=i*sz:=by rw[bu];exact hal
 rw[e1,<-hA,yB,List.take_length_add_append,List.drop_length_add_append,YH (by rw[bu];omega),YG (by rw[bu];omega)];simp
theorem cd.set {α:Type} {E:World->List Value->α->Prop} {w:World}:∀ {es:List α} {vs:List (List Value)} {i:Nat} {a:α} {cs:List Value},cd E w es vs->E w cs a->cd E w (es.set i a) (vs.set i cs)
 | _,_,i,_,_,.nil,_=>.nil
 | _,_,0,_,_,.cons _ h2,h=>.cons h h2
 | _,_,i+1,_,_,.cons h1 h2,h=>.cons h1 (cd.set h2 h)
variable {r:bh}
theorem gj {l:List bh} {f:bh->bh} (h:l[i]? =some r):l.modify i f=l.set i (f r):=by
 apply Ul;intro j;by_cases e:i=j
 ·subst e;rw[DL rfl,Ur,if_pos rfl,if_pos (cQ.1 h).1,h];rfl
 ·rw[yX e,Ur,if_neg e]
def SlE {α:Type} (E:World->List Value->α->Prop) (sz:Nat) (t:TypeId) (w:World) (b:Nat) (v:Value) (es:List α):Prop:=
 ∃ off n c pre vs spare,v=.slice (some ⟨b,off,none⟩) n c/\bO w b t (pre++(vs.flatten++spare)).toArray/\fm E sz w n off c pre vs spare es
def Yz {α:Type} (E:World->List Value->α->Prop) (sz:Nat) (t:TypeId) (w:World) (b:Nat) (v:Value) (es:List α):Prop:=
 ∃ n c vs spare,v=.slice (some ⟨b,0,none⟩) n c/\bO w b t (vs.flatten++spare).toArray/\fm E sz w n 0 c [] vs spare es
def vK (B:Nat) (w:World) (g:Nat) (ad:List Nat) (s:Qs):Prop:=(∀ b∈ad,B<=b)/\∃ v r u,bO w g Runner #[v,r,u]/\
 ((ad=[g]/\v=.slice none 0 0/\r=.slice none 0 0/\u=.slice none 0 0/\s.q=[]/\s.rows=[]/\s.uses=[])\/
  (∃ rb,ad=[g,rb]/\v=.slice none 0 0/\u=.slice none 0 0/\s.q=[]/\s.uses=[]/\Yz (gF B) 28 fX w rb r s.rows)\/
  (∃ vb rb,ad=[g,vb,rb]/\u=.slice none 0 0/\s.uses=[]/\SlE (eV B) 5 ff w vb v s.q/\Yz (gF B) 28 fX w rb r s.rows)\/
  (∃ vb rb ub,ad=[g,vb,rb,ub]/\SlE (eV B) 5 ff w vb v s.q/\Yz (gF B) 28 fX w rb r s.rows/\Yz (vU B) 6 gL w ub u s.uses))
def Td (w:World) (v:Value) (S F:Rat) (keep:Int) (ks:Nat):Prop:=∃ s p n c t y m d s' p' n' c' t' y' m' d',v=.agg #[.bool s,.slice p n c,.bool t,.slice y m d,.bool s',.slice p' n' c',.bool t',.slice y' m' d',.int .i64 keep]/\
 ck w (.agg #[.bool s,.slice p n c,.bool t,.slice y m d]) S ks/\ck w (.agg #[.bool s',.slice p' n' c',.bool t',.slice y' m' d']) F ks
def YrV (w:World) (v:Value) (e:Rat×Rat) (ks:Nat):Prop:=∃ s p n c t y m d s' p' n' c' t' y' m' d',v=.agg #[.bool s,.slice p n c,.bool t,.slice y m d,.bool s',.slice p' n' c',.bool t',.slice y' m' d']/\
 ck w (.agg #[.bool s,.slice p n c,.bool t,.slice y m d]) e.1 ks/\ck w (.agg #[.bool s',.slice p' n' c',.bool t',.slice y' m' d']) e.2 ks
theorem ck.up {v:Value} {q:Rat} {j k:Nat} (h:ck w v q j) (hk:j<=k):ck w v q k:=by
 obtain⟨s,xs,t,ys,h1,h2,h3,h4⟩:=h;exact⟨s,xs,t,ys,h1,h2,bj h3 hk,bj h4 hk⟩
set_option maxRecDepth 4000 in
theorem uX (v u:Value) (S F:Rat) (keep:Int) (e:Rat×Rat) (ks:Nat) (w:World) (hv:Td w v S F keep ks) (hu:YrV w u e ks) (Hd:1<=ks) (hk:ks<=100000):
  Calls Tryz.prog 70 #[v,u] w λo w'=>∃ x,o=.returned x/\aW w' w.heap.size x (aH S F e.2)/\aU w w':=by
 obtain⟨sS,pS,nS,cS,tS,yS,mS,dS,sF,pF,nF,cF,tF,yF,mF,dF,rfl,hS,hF⟩:=hv;obtain⟨sN,pN,nN,cN,tN,yN,mN,dN,sE,pE,nE,cE,tE,yE,mE,dE,rfl,hN,hE⟩:=hu;refine ah (C:=cH Tryz.prog w _) (args:=[_,_]) Tryz.func70 aa Tryz.ntmps70 (bM aa) ?_;refine ae ?_;refine VO.cR aa aa (fk Tryz.func105) (λbn cG bo=>SP _ _ S e.2 ks ks bn (hS.k) (hE.k) ab ab) (λbn cG bo w1 s1 p1 n1 c1 t1 y1 m1 d1 q1 bA eF _ bb1=>wV aa ?_);refine ae ?_;have z1:=(hS.sz Hd).mul (hE.sz Hd);refine VO.cR aa aa (fk nK) (λcz dB cT=>dz 0 cz ab ab) (λcz dB cT w2 s2 p2 n2 c2 t2 y2 m2 d2 q2 cC fe _ bb2=>wV aa ?_);refine ae ?_;refine VO.eB aa (fk Tryz.func104) (λeP β fA ft ho=>((SQ _ _ F [S*e.2,0] (ks+ks) eP ((hF.k).up ab) (et (ho.own 13 (.base (aJ.2 aa)) _ _ aa) [] (vs:=[[.bool s1,.slice p1 n1 c1,.bool t1,.slice y1 m1 d1],[.bool s2,.slice p2 n2 c2,.bool t2,.slice y2 m2 d2]]) (by rfl) aa (bV.cons (q1.ki z1) (bV.cons (q2.ki (fI.zero.mono (show 1<=ks+ks by omega))) bV.nil)) (bM aa) bq) ab (bM aa)).mono (λo w2 h=>And.intro h ft.size)).mono ?_);rintro o w3 ⟨⟨r3,rfl,q3,z3,dZ⟩,Iu⟩;obtain⟨s3,p3,n3,c3,t3,y3,m3,d3,rfl⟩:=q3.form;refine bZ dZ ?_;intro jm _ bb3;refine bl ?_;intro wz kz bz;exact⟨_,aa,(q3.mono Iu).k,bz⟩
set_option maxRecDepth 4000
variable {g:Nat}
theorem jz {N:Nat} {ad:List Nat} (hB:B<=w.heap.size) (had:∀ b∈ad,B<=b) (h:eK N ad w i g):B<=g:=by
 rcases jk h with h|h
 ·omega
 ·exact had g h
theorem oW {sz o:Nat} {new:List Value} (h:∀ x∈vs,x.length=sz) (hi:vs[i]? =some x) (ho:o+new.length<=sz):
  (vs.flatten.map AV.val++sp).take (0+((i:Nat):Int).toNat*sz+o)++(new.map AV.val++(vs.flatten.map AV.val++sp).drop (0+((i:Nat):Int).toNat*sz+o+new.length))=(vs.set i (x.take o++(new++x.drop (o+new.length)))).flatten.map AV.val++sp:=by
 rw[dC,jt];exact Lb h hi ho
theorem xz {new:List Value} {x:Rat} (h:gF B w cs r) (hx:R4 B w new x):gF B w (cs.take 20++(new++cs.drop (20+new.length))) { r with aq:=x }:=by
 obtain⟨a,b,c,d,e,f,g,rfl,h1,h2,h3,h4,h5,h6,h7⟩:=h;refine⟨a,b,c,d,e,new,g,?_,h1,h2,h3,h4,h5,hx,h7⟩;have l1:=h1.len;have l2:=h2.len;have l3:=h3.len;have l4:=h4.len;have l5:=h5.len;have l6:=h6.len;rw[hx.len];have e1:a++(b++(c++(d++(e++(f++g)))))=(a++b++c++d++e)++(f++g):=bN;have e2:(a++b++c++d++e).length=20:=by simp[l1,l2,l3,l4,l5]
 have e3:a++(b++(c++(d++(e++(f++g)))))=(a++b++c++d++e++f)++g:=bN;have e4:(a++b++c++d++e++f).length=24:=by simp[l1,l2,l3,l4,l5,l6]
 have t1:(a++(b++(c++(d++(e++(f++g)))))).take 20=a++b++c++d++e:=by rw[e1,<-e2,List.take_left'];rfl
 have t2:(a++(b++(c++(d++(e++(f++g)))))).drop 24=g:=by rw[e3,<-e4,List.drop_left'];rfl
 rw[t1,t2];simp
theorem Bs {new:List Value} (h:cs.length=28) (hn:new.length=4):(cs.take 20++(new++cs.drop (20+new.length))).length=28:=by
 rw[bB,bB,cM,rM,h,hn];rfl
theorem qY {sz:Nat} (h:∀ y∈vs,y.length=sz) (hx:x.length=sz):∀ y∈vs.set i x,y.length=sz:=λy hy=>by
 rcases yv hy with e|e
 ·exact h y e
 ·rw[e];exact hx
variable {kk ks:Nat} {u:Value}
set_option maxRecDepth 4000 in
theorem iYear_A {keep:Nat} {q:List Vq} {rows:List bh} {uses:List Uq} {v:Value} (hg:bO w g Runner #[.slice none 0 0,.slice none 0 0,.slice none 0 0])
  (Em:Td w v S F keep ks) (YA:YrV w u e ks) (Bt:1<=ks) (Js:ks<=kk) (KR:kk<=100000) (FR:Iz D (aH S F e.2)) (zK:aH S F e.2<=M) (YB:Iz D e.1) (my: -M<=e.1) (NB:e.1<=M) (hK:∀ x,Iz D x->-(M+M)<=x->x<=M+M->fI x kk)
  (FU:Ir D M ⟨[],[],[]⟩) (DR:([]:List bh).length<=64) (yZ:keep<=40) (hB:B<=w.heap.size) (ia:∀ b∈[g],B<=b):
  Calls Tryz.prog 39 #[.pointer (some ⟨g,0,none⟩),v,.int .i64 (([]:List bh).length:Int),u] w λo w'=>o=.returned (lN [])/\wi [g] w w'/\∃ ad',vK B w' g ad' (fR S F keep ([]:List bh).length ⟨[],[],[]⟩ e):=by
 have hL0:=oq S F e.2;have hM0:0<=M:=cY;obtain⟨g1,g2,g3,g4,g5,g6,g7,g8,g9⟩:=sD FR hL0 zK YB my NB;have DT:B<=g:=ia g bN;have hlen:=FU.len;obtain⟨sS,pS,nS,cS,tS,yS,mS,dS,sF,pF,nF,cF,tF,yF,mF,dF,rfl,hS,hF⟩:=Em;obtain⟨sN,pN,nN,cN,tN,yN,mN,dN,sE,pE,nE,cE,tE,yE,mE,dE,rfl,hN,hE⟩:=YA
 have xw:nd (KU UU) 99 [g] [(Runner,[.val (.slice none 0 0),.val (.slice none 0 0),.val (.slice none 0 0)])] w:=by
  refine⟨aa,bN,λj g' c' hj hc=> ?_,λc' hc=> ?_,λc' hc k hk=> ?_⟩
  ·match j,hj,hc with
   | 0,hj,hc=>cases hj;cases hc;exact hg
   | j+1,hj,_=>simp at hj
  ·simp only[List.mem_cons,List.not_mem_nil,or_false] at hc;subst hc;exact⟨aa,aa⟩
  ·simp only[List.mem_cons,List.not_mem_nil,or_false] at hc;subst hc;cases hk
 refine iw Tryz.prog w _ (KU UU) (λt=>Nat.beq t 22) table (λ_ _=>trivial) (ad:=[g]) (us:=[_,_,_]) Tryz.func39 aa Tryz.ntmps39 (bM aa) xw (bM aa) ?_;refine aj ?_;refine VO.call aa aa (fk Tryz.func70) (λbn cG bo=>((uX _ _ S F keep e ks bn ⟨_,_,_,_,_,_,_,_,_,_,_,_,_,_,_,_,aa,hS.k,hF.k⟩ ⟨_,_,_,_,_,_,_,_,_,_,_,_,_,_,_,_,aa,hN.k,hE.k⟩ Bt ab).mono (λo w2 h=>And.intro h bo.1.size)).mono ?_);rintro o w1 ⟨⟨r1,rfl,q1,bA⟩,Te⟩;obtain⟨s1,p1,n1,c1,t1,y1,m1,d1,rfl⟩:=q1.form;refine⟨_,aa,bA,λeF _ bb1=>wV aa ?_⟩;replace q1:=q1.mono (bj hB Te);refine aj ?_;refine VO.call aa aa (fk nK) (λcz dB cT=>((dz 0 cz ab ab).mono (λo w2 h=>And.intro h cT.1.size)).mono ?_);rintro o w2 ⟨⟨r2,rfl,q2,cC⟩,zI⟩;obtain⟨s2,p2,n2,c2,t2,y2,m2,d2,rfl⟩:=q2.form;refine⟨_,aa,cC,λfe _ bb2=>wV aa ?_⟩;replace q2:=q2.mono (bj hB zI);refine aj ?_;refine VO.call aa aa (fk nK) (λeP fA ft=>((dz 0 eP ab ab).mono (λo w2 h=>And.intro h ft.1.size)).mono ?_);rintro o w3 ⟨⟨r3,rfl,q3,dZ⟩,Iu⟩;obtain⟨s3,p3,n3,c3,t3,y3,m3,d3,rfl⟩:=q3.form;refine⟨_,aa,dZ,λjm _ bb3=>wV aa ?_⟩;replace q3:=q3.mono (bj hB Iu);refine aj ?_;refine VO.eB aa (fk Ah) (λfW β iJ iB ho=>((kg _ _ e.1 [aH S F e.2] kk fW ((hN.k).up ab) (et (ho.own 20 (.base (aJ.2 aa)) _ _ aa) [] (vs:=[[.bool s1,.slice p1 n1 c1,.bool t1,.slice y1 m1 d1]]) (by rfl) aa (bV.cons (q1.ki (hK _ FR cY cY)) bV.nil) (bM aa) bq) ab (bM aa)).mono (λo w2 h=>And.intro h iB.1.size)).mono ?_);rintro o w4 ⟨⟨r4,rfl,q4,z4,ic⟩,Qy⟩;rw[gK] at q4;obtain⟨s4,p4,n4,c4,t4,y4,m4,d4,rfl⟩:=q4.form;refine⟨_,aa,ic,λmB _ tI=>wV aa ?_⟩;replace q4:=q4.mono (bj hB Qy);refine aj ?_;refine VO.call aa aa (fk nL) (λfQ iH fV=>((ew _ _ e.1 (ai e.1 (aH S F e.2)) kk kk fQ ((hN.k).up ab) (q4.ki (hK _ g1 cY cY)) ab ab).mono (λo w2 h=>And.intro h fV.1.size)).mono ?_);rintro o w5 ⟨⟨r5,rfl,q5,iz⟩,tX⟩;obtain⟨s5,p5,n5,c5,t5,y5,m5,d5,rfl⟩:=q5.form;refine⟨_,aa,iz,λlg _ sR=>wV aa ?_⟩;replace q5:=q5.mono (bj hB tX);refine aj ?_;refine VO.call aa aa (fk nL) (λfJ iK gE=>((ew _ _ (aH S F e.2) (ai e.1 (aH S F e.2)) kk kk fJ (q1.ki (hK _ FR cY cY)) (q4.ki (hK _ g1 cY cY)) ab ab).mono (λo w2 h=>And.intro h gE.1.size)).mono ?_);rintro o w6 ⟨⟨r6,rfl,q6,ln⟩,Tf⟩;obtain⟨s6,p6,n6,c6,t6,y6,m6,d6,rfl⟩:=q6.form;refine⟨_,aa,ln,λlH _ sj=>wV aa ?_⟩;replace q6:=q6.mono (bj hB Tf);refine aj ?_;have tY:fR S F keep ([]:List bh).length ⟨[],[],[]⟩ e=Bm keep ([]:List bh).length ⟨rF ([]:List bh).length (e.1-ai e.1 (aH S F e.2)) (sw [] (aH S F e.2-ai e.1 (aH S F e.2))),[]++[gz S F [] e],[]++wj ([]:List bh).length [] (aH S F e.2-ai e.1 (aH S F e.2))⟩:=aa;refine VO.Br (B:=B) (mm:=aH S F e.2-ai e.1 (aH S F e.2)) kk aa aa (fk Gm) aa (λxM Tg Vu=>q6.kr) hB (λw7 r7 k7 b7 q7=> ?_);obtain⟨s7,p7,n7,c7,t7,y7,m7,d7,rfl⟩:=q7.form;refine wV aa ?_;refine aj ?_;have sW:([]:List Uq)++wj ([]:List bh).length [] (aH S F e.2-ai e.1 (aH S F e.2))=[]:=aa;obtain⟨u1,u2,u3⟩:=CD (q:=[]) (m:=aH S F e.2-ai e.1 (aH S F e.2)) (λp hp=>(by cases hp)) g7 g8;refine VO.call aa aa (fk tk) (λpV yn ru=>((gi _ _ (ai e.1 (aH S F e.2)) ((0:Rat)) kk kk pV (q4.ki (hK _ g1 cY cY)) (q7.ki (hK _ u1 cY cY)) ab ab).mono (λo w2 h=>And.intro h ru.1.size)).mono ?_);rintro o w8 ⟨⟨r8,rfl,q8,vG⟩,En⟩;obtain⟨s8,p8,n8,c8,t8,y8,m8,d8,rfl⟩:=q8.form;refine⟨_,aa,vG,λvP _ KW=>wV aa ?_⟩;replace q8:=q8.mono (bj hB En);refine aj ?_;have h00:((0:Int):Rat)=0:=aa;have Mt:gF B w8 [.bool s1,.slice p1 n1 c1,.bool t1,.slice y1 m1 d1,.bool s4,.slice p4 n4 c4,.bool t4,.slice y4 m4 d4,.bool s5,.slice p5 n5 c5,.bool t5,.slice y5 m5 d5,.bool s7,.slice p7 n7 c7,.bool t7,.slice y7 m7 d7,.bool s8,.slice p8 n8 c8,.bool t8,.slice y8 m8 d8,.bool s2,.slice p2 n2 c2,.bool t2,.slice y2 m2 d2,.bool s3,.slice p3 n3 c3,.bool t3,.slice y3 m3 d3] (gz S F [] e):=⟨[.bool s1,.slice p1 n1 c1,.bool t1,.slice y1 m1 d1],[.bool s4,.slice p4 n4 c4,.bool t4,.slice y4 m4 d4],[.bool s5,.slice p5 n5 c5,.bool t5,.slice y5 m5 d5],[.bool s7,.slice p7 n7 c7,.bool t7,.slice y7 m7 d7],[.bool s8,.slice p8 n8 c8,.bool t8,.slice y8 m8 d8],[.bool s2,.slice p2 n2 c2,.bool t2,.slice y2 m2 d2],[.bool s3,.slice p3 n3 c3,.bool t3,.slice y3 m3 d3],aa,⟨_,_,_,_,_,_,_,_,aa,q1.k⟩,⟨_,_,_,_,_,_,_,_,aa,q4.k⟩,⟨_,_,_,_,_,_,_,_,aa,q5.k⟩,⟨_,_,_,_,_,_,_,_,aa,q7.k⟩,⟨_,_,_,_,_,_,_,_,aa,q8.k⟩,⟨_,_,_,_,_,_,_,_,aa,q2.k⟩,⟨_,_,_,_,_,_,_,_,aa,q3.k⟩⟩
 refine VO.app (cP _ _) (t:=33) (e:=fX) (sz:=28) (n:=0) (c:=0) (mm:=1) (known:=[]) (spare:=[]) (del:=none) (news:=([.bool s1,.slice p1 n1 c1,.bool t1,.slice y1 m1 d1,.bool s4,.slice p4 n4 c4,.bool t4,.slice y4 m4 d4,.bool s5,.slice p5 n5 c5,.bool t5,.slice y5 m5 d5,.bool s7,.slice p7 n7 c7,.bool t7,.slice y7 m7 d7,.bool s8,.slice p8 n8 c8,.bool t8,.slice y8 m8 d8,.bool s2,.slice p2 n2 c2,.bool t2,.slice y2 m2 d2,.bool s3,.slice p3 n3 c3,.bool t3,.slice y3 m3 d3]:List Value).map .val) (dst:=52) aa aa aa aa aa aa aa aa (bM aa) aa (.inl ⟨aa,aa,aa,aa,aa,aa,ab⟩) (.inl aa) aa aa (bL _) ab ⟨aa,aa,aa⟩ ⟨aa,aa,aa⟩ aa ab
  (λw1 β k1 b1 ho=>⟨_,_,rfl,.inr ⟨β 51,0,rfl,eH (rest:=[]) (ho.own 51 (.base (iY _ (aJ.2 rfl))) _ _ rfl) rfl⟩⟩)
  (λvI jr qy ρ Vo Vp iI ll kC fT Mu nt=>wV rfl ?_)
 (repeat (first|refine wN ?_|refine wP aa ?_|refine KL aa ?_|refine wO aa aa ?_))
 obtain⟨wk,Bu⟩:∃ wk,wk=0+1:=⟨_,aa⟩;obtain⟨zL,Bv⟩:∃ zL,zL=([[.bool s1,.slice p1 n1 c1,.bool t1,.slice y1 m1 d1,.bool s4,.slice p4 n4 c4,.bool t4,.slice y4 m4 d4,.bool s5,.slice p5 n5 c5,.bool t5,.slice y5 m5 d5,.bool s7,.slice p7 n7 c7,.bool t7,.slice y7 m7 d7,.bool s8,.slice p8 n8 c8,.bool t8,.slice y8 m8 d8,.bool s2,.slice p2 n2 c2,.bool t2,.slice y2 m2 d2,.bool s3,.slice p3 n3 c3,.bool t3,.slice y3 m3 d3]]:List (List Value)):=⟨_,aa⟩;have iW:vW (gF B) 28 vI wk jr zL qy ([]++[gz S F [] e]):=by rw[Bu,Bv];exact⟨aa,.cons ((aL B).kp Mt bm) .nil,Mu,nt,ll,kC,by simpa using fT⟩
 refine VS.narrow [(0,.box 198 0),(2,.val (.int .i64 (([]:List bh).length:Int))),(5,.box 5 0),(8,.box 8 0)] [(198,(Runner,[.val (.slice none 0 0),.row 52 0 wk jr,.val (.slice none 0 0)])),(52,(fX,zL.flatten.map AV.val++qy)),(5,(28,([.bool sS,.slice pS nS cS,.bool tS,.slice yS mS dS,.bool sF,.slice pF nF cF,.bool tF,.slice yF mF dF,.int .i64 (keep:Int)]:List Value).map AV.val)),(8,(fX,([.bool s1,.slice p1 n1 c1,.bool t1,.slice y1 m1 d1,.bool s4,.slice p4 n4 c4,.bool t4,.slice y4 m4 d4,.bool s5,.slice p5 n5 c5,.bool t5,.slice y5 m5 d5,.bool s7,.slice p7 n7 c7,.bool t7,.slice y7 m7 d7,.bool s8,.slice p8 n8 c8,.bool t8,.slice y8 m8 d8,.bool s2,.slice p2 n2 c2,.bool t2,.slice y2 m2 d2,.bool s3,.slice p3 n3 c3,.bool t3,.slice y3 m3 d3]:List Value).map AV.val))] ⟨aa,aa,aa,aa,ag⟩ ⟨by rw[Bu];rfl,by rw[Bv];rfl,rfl,rfl,ag⟩ aa ⟨.lit aa,.append (.vals _) (.none nt),.vals _,.vals _,ag⟩ ?_;refine VS.draw (cP _ _) (qu _ _) [74] (by kernel_rfl) (VO.run 80 aa ?_);refine VO.Qv (B:=B) (d2:=62) (d:=e.1-ai e.1 (aH S F e.2)) kk aa aa aa (fk Gl) aa aa (by show 62<2*99;omega) (λj hj=> ?_) (bM aa) (λxM Tg Vu=>q5.kr) (hK _ g4 cY cY) KR hB (λJt k19 b19 Rj=>wV aa ?_) (λJt vZ Vv Vw k19 b19 Rj jR=>wV aa ?_)
 ·have:j=52:=by simpa [aI,AV.eu] using hj
  subst this;intro h;cases h
 ·have Fv:rF ([]:List bh).length (e.1-ai e.1 (aH S F e.2)) (sw [] (aH S F e.2-ai e.1 (aH S F e.2)))=[]:=if_neg Rj;refine aj ?_;refine VO.fE (x:=.val (.slice none 0 0)) (p:=λ_=>none) (c:=0) aa (λβ=>.inr ⟨none,aa⟩) aa (fk gO) aa (λLc k20 b20=>wV aa ?_);refine aj ?_;have yt:fR S F keep ([]:List bh).length ⟨[],[],[]⟩ e=⟨[],[]++[gz S F [] e],[]⟩:=by rw[tY,Fv,sW];rfl
  refine aj ?_;refine VS.rE (cP _ _) aa (λwz β kz oz en=> ?_);obtain⟨o1,o2⟩:=iy (en.own 198 _ _ aa) 0 g aa aa;have oR:=(en.own 52 _ _ aa).cls;rw[bC,ak] at oR;have nR:=jz hB ia (show eK 99 [g] w 52 (β 52) from (en.own 52 _ _ aa).new);rw[yt];refine⟨aa,oz.1,[g,β 52],⟨λb hb=> ?_,_,_,_,o2,?_⟩⟩
  ·simp only[List.mem_cons,List.not_mem_nil,or_false] at hb;rcases hb with rfl|rfl
   ·exact DT
   ·exact nR
  ·exact .inr (.inl ⟨β 52,aa,aa,aa,aa,aa,⟨_,_,_,_,aa,oR,(iW.kp (aL B) bm).o β⟩⟩)
 ·obtain⟨q2,Bw⟩:∃ q2:List Vq,q2=[(([]:List bh).length,e.1-ai e.1 (aH S F e.2))]:=⟨_,aa⟩;rw[<-Bw] at jR;have Fv:rF ([]:List bh).length (e.1-ai e.1 (aH S F e.2)) (sw [] (aH S F e.2-ai e.1 (aH S F e.2)))=q2:=by rw[Bw];exact if_pos Rj
  obtain⟨nz,hnz'⟩:∃ nz,nz=1:=⟨_,aa⟩;obtain⟨jK,Qz⟩:∃ jK,jK=0:=⟨_,aa⟩;obtain⟨rG,QA⟩:∃ rG:List Value,rG=[]:=⟨_,aa⟩;have jR:fm (eV B) 5 Jt nz jK vZ rG Vv Vw q2:=by rw[hnz',Qz,QA];exact jR
  refine VO.nil ?_;refine VS.narrow [(0,.box 198 0),(2,.val (.int .i64 (([]:List bh).length:Int))),(5,.box 5 0),(8,.box 8 0)] [(198,(Runner,[.row 62 jK nz vZ,.row 52 0 wk jr,.val (.slice none 0 0)])),(52,(fX,zL.flatten.map AV.val++qy)),(5,(28,([.bool sS,.slice pS nS cS,.bool tS,.slice yS mS dS,.bool sF,.slice pF nF cF,.bool tF,.slice yF mF dF,.int .i64 (keep:Int)]:List Value).map AV.val)),(8,(fX,([.bool s1,.slice p1 n1 c1,.bool t1,.slice y1 m1 d1,.bool s4,.slice p4 n4 c4,.bool t4,.slice y4 m4 d4,.bool s5,.slice p5 n5 c5,.bool t5,.slice y5 m5 d5,.bool s7,.slice p7 n7 c7,.bool t7,.slice y7 m7 d7,.bool s8,.slice p8 n8 c8,.bool t8,.slice y8 m8 d8,.bool s2,.slice p2 n2 c2,.bool t2,.slice y2 m2 d2,.bool s3,.slice p3 n3 c3,.bool t3,.slice y3 m3 d3]:List Value).map AV.val)),(62,(ff,(rG++(Vv.flatten++Vw)).map AV.val))] ⟨aa,aa,aa,aa,ag⟩ ⟨by rw[Qz,hnz'];rfl,rfl,rfl,rfl,by rw[QA];rfl,ag⟩ aa ⟨.lit aa,.append (.vals _) (.none nt),.vals _,.vals _,.vals _,ag⟩ ?_;refine aj ?_;by_cases sY:nz=0
  ·refine VO.fE (x:=.row 62 jK nz vZ) (p:=λ_=>none) (c:=vZ) aa (λβ=>.inr ⟨_,au (λn=>Value.slice (some ⟨β 62,jK,none⟩) n vZ) sY⟩) aa (fk gO) aa (λLc k20 b20=>wV aa ?_);refine aj ?_;have Mv:q2=[]:=js (by rw[<-jR.len];exact sY);have yt:fR S F keep ([]:List bh).length ⟨[],[],[]⟩ e=⟨q2,[]++[gz S F [] e],[]⟩:=by rw[tY,Fv,sW,Mv];rfl
   refine aj ?_;refine VS.rE (cP _ _) aa (λwz β kz oz en=> ?_);obtain⟨o1,o2⟩:=iy (en.own 198 _ _ aa) 0 g aa aa;have oR:=(en.own 52 _ _ aa).cls;rw[bC,ak] at oR;have nR:=jz hB ia (show eK 99 [g] w 52 (β 52) from (en.own 52 _ _ aa).new);have oV:=(en.own 62 _ _ aa).cls;rw[ak] at oV;have nV:=jz hB ia (show eK 99 [g] w 62 (β 62) from (en.own 62 _ _ aa).new);rw[yt];refine⟨aa,oz.1,[g,β 62,β 52],⟨λb hb=> ?_,_,_,_,o2,?_⟩⟩
   ·simp only[List.mem_cons,List.not_mem_nil,or_false] at hb;rcases hb with rfl|rfl|rfl
    ·exact DT
    ·exact nV
    ·exact nR
   ·exact .inr (.inr (.inl ⟨β 62,β 52,aa,aa,aa,⟨_,_,_,_,_,_,aa,oV,jR.kp (bt B) bm⟩,⟨_,_,_,_,aa,oR,(iW.kp (aL B) bm).o β⟩⟩))
  obtain⟨pp,qt,Dw⟩:∃ pp qt,q2=pp::qt:=by
   cases q2 with
   | nil=>exact absurd jR.len sY
   | cons pp qt=>exact⟨pp,qt,aa⟩
  subst Dw
  obtain⟨Mw,FV,rfl,hE4,Bx⟩:∃ Mw FV,Vv=Mw::FV/\eV B Jt Mw pp/\cd (eV B) Jt qt FV:=by
   have:=jR.el;cases this with
   | cons h1 h2=>exact⟨_,_,aa,h1,h2⟩
  obtain⟨s9,p9,n9,c9,t9,y9,m9,d9,rfl,XA⟩:=hE4;have Mx:=jR.le;have My:=jR.len;have Mz:=jR.cm;have qj:rG.length=jK:=jR.pl.resolve_right ab;refine VO.eW aa aa (fk gO) aa sY (by intro h;cases h) (λLc k20 b20=>wV aa ?_);refine aj ?_;refine VO.dY aa (([.int .i64 (pp.1:Int)]:List Value).map .val) aa (cL qj 0 _ ⟨_,aa⟩) (wV aa ?_);refine aj ?_;have Vx:IntKind.i64.wrap ((([]:List bh).length:Int)-(keep:Int))=(([]:List bh).length:Int)-(keep:Int):=cV _ ab;by_cases hx:pp.1+keep=([]:List bh).length
  ·refine VS.aV aa (by rw[Vx,beq_iff_eq];omega) ?_;refine aj ?_;refine VO.dY aa (([.int .i64 (pp.1:Int)]:List Value).map .val) aa (cL qj 0 _ ⟨_,aa⟩) (wV aa ?_);refine aj ?_;refine VO.dY aa (([.bool s9,.slice p9 n9 c9,.bool t9,.slice y9 m9 d9]:List Value).map .val) aa (cL qj 1 _ ⟨[],aa⟩) (wV aa ?_);refine aj ?_;have jA:=iW.len;have KE:pp.1<wk:=by rw[jA,bB,wm];omega
   refine VO.cond aa dQ (wV aa ?_);obtain⟨rq,Ld⟩:∃ rq,([]++[gz S F [] e])[pp.1]? =some rq:=⟨_,ba (by rw[<-jA];exact KE)⟩;obtain⟨CE,sX,vL⟩:=iW.el.at pp.1 rq Ld;have lS:=iW.fl;have XB:=iW.le;refine VO.cond aa (by show 0+((pp.1:Int)).toNat*28+20+4<=_;rw[lS,dC];omega) (VO.fi 52 aa (oW (new:=[.bool s9,.slice p9 n9 c9,.bool t9,.slice y9 m9 d9]) (o:=20) (iW.el.lens (aL B)) sX (bM aa)) (wV aa ?_));refine aj ?_
   have hR3:vW (gF B) 28 Lc wk jr (zL.set pp.1 (CE.take 20++([.bool s9,.slice p9 n9 c9,.bool t9,.slice y9 m9 d9]++CE.drop (20+([.bool s9,.slice p9 n9 c9,.bool t9,.slice y9 m9 d9]:List Value).length)))) qy (([]++[gz S F [] e]).modify pp.1 (λr=>{ r with aq:=pp.2 })):=
    ⟨by rw[oy];exact jA,by rw[gj Ld];exact (iW.el.kp (aL B) bm).set (xz ((aL B).kp vL bm) ⟨_,_,_,_,_,_,_,_,aa,XA.kp bm⟩),iW.so,iW.sl,iW.le,iW.cm,by
     rw[bB,bu,fb (qY (iW.el.lens (aL B)) (Bs ((aL B).len vL) rfl)),pM];rw[bB,bu,fb (iW.el.lens (aL B))] at lS;exact lS⟩
   refine VO.np aa aa (fk yJ) aa ab Mx Mz (λj hj=> ?_) (bM aa) (λRv k21 b21=>wV aa ?_)
   ·simp only[aI,AV.eu,List.flatMap_cons,List.flatMap_nil,List.mem_append,List.mem_cons,List.not_mem_nil,or_false,List.append_nil] at hj;rcases hj with rfl|rfl <;> (intro h;cases h)
   refine aj ?_;have hV4:fm (eV B) 5 Rv (nz-1) (if vZ=1 then jK else jK+5) (vZ -1) (rG++[.int .i64 (pp.1:Int),.bool s9,.slice p9 n9 c9,.bool t9,.slice y9 m9 d9]) FV Vw qt:=⟨by rw[My];rfl,uV qj,by rw[ja,jR.po];rfl,Bx.kp (bt B) bm,jR.so,ab,ab,uW jR.fl⟩
   have yt:fR S F keep ([]:List bh).length ⟨[],[],[]⟩ e=⟨qt,([]++[gz S F [] e]).modify pp.1 (λr=>{ r with aq:=pp.2 }),[]⟩:=by
    rw[tY,Fv,sW];exact if_pos hx
   refine aj ?_;refine VS.rE (cP _ _) aa (λwz β kz oz en=> ?_);obtain⟨o1,o2⟩:=iy (en.own 198 _ _ aa) 0 g aa aa;have oR:=(en.own 52 _ _ aa).cls;rw[bC,ak] at oR;have nR:=jz hB ia (show eK 99 [g] w 52 (β 52) from (en.own 52 _ _ aa).new);have oV:=(en.own 62 _ _ aa).cls;rw[gM,ak] at oV;have nV:=jz hB ia (show eK 99 [g] w 62 (β 62) from (en.own 62 _ _ aa).new);rw[yt];refine⟨aa,oz.1,[g,β 62,β 52],⟨λb hb=> ?_,_,_,_,o2,?_⟩⟩
   ·simp only[List.mem_cons,List.not_mem_nil,or_false] at hb;rcases hb with rfl|rfl|rfl
    ·exact DT
    ·exact nV
    ·exact nR
   ·exact .inr (.inr (.inl ⟨β 62,β 52,aa,aa,aa,⟨_,_,_,_,_,_,aa,oV,hV4.kp (bt B) bm⟩,⟨_,_,_,_,aa,oR,(hR3.kp (aL B) bm).o β⟩⟩))
  ·refine VS.aP aa (by rw[Vx,iZ];omega) ?_
   have yt:fR S F keep ([]:List bh).length ⟨[],[],[]⟩ e=⟨pp::qt,[]++[gz S F [] e],[]⟩:=by
    rw[tY,Fv,sW];exact if_neg hx
   refine aj ?_;refine VS.rE (cP _ _) aa (λwz β kz oz en=> ?_);obtain⟨o1,o2⟩:=iy (en.own 198 _ _ aa) 0 g aa aa;have oR:=(en.own 52 _ _ aa).cls;rw[bC,ak] at oR;have nR:=jz hB ia (show eK 99 [g] w 52 (β 52) from (en.own 52 _ _ aa).new);have oV:=(en.own 62 _ _ aa).cls;rw[ak] at oV;have nV:=jz hB ia (show eK 99 [g] w 62 (β 62) from (en.own 62 _ _ aa).new);rw[yt];refine⟨aa,oz.1,[g,β 62,β 52],⟨λb hb=> ?_,_,_,_,o2,?_⟩⟩
   ·simp only[List.mem_cons,List.not_mem_nil,or_false] at hb;rcases hb with rfl|rfl|rfl
    ·exact DT
    ·exact nV
    ·exact nR
   ·exact .inr (.inr (.inl ⟨β 62,β 52,aa,aa,aa,⟨_,_,_,_,_,_,aa,oV,jR.kp (bt B) bm⟩,⟨_,_,_,_,aa,oR,(iW.kp (aL B) bm).o β⟩⟩))
set_option maxRecDepth 4000
variable {pA:List (List Value)} {tc:List Value} {rb nr cr:Nat}
set_option maxRecDepth 4000 in
theorem iYear_B {keep:Nat} {q:List Vq} {rows:List bh} {uses:List Uq} {v:Value} (hg:bO w g Runner #[.slice none 0 0,.slice (some ⟨rb,0,none⟩) nr cr,.slice none 0 0]) (Le:bO w rb fX (pA.flatten++tc).toArray) (hR:fm (gF B) 28 w nr 0 cr [] pA tc rows)
  (Em:Td w v S F keep ks) (YA:YrV w u e ks) (Bt:1<=ks) (Js:ks<=kk) (KR:kk<=100000) (FR:Iz D (aH S F e.2)) (zK:aH S F e.2<=M) (YB:Iz D e.1) (my: -M<=e.1) (NB:e.1<=M) (hK:∀ x,Iz D x->-(M+M)<=x->x<=M+M->fI x kk)
  (FU:Ir D M ⟨[],rows,[]⟩) (DR:(rows:List bh).length<=64) (yZ:keep<=40) (hB:B<=w.heap.size) (ia:∀ b∈[g,rb],B<=b):
  Calls Tryz.prog 39 #[.pointer (some ⟨g,0,none⟩),v,.int .i64 ((rows:List bh).length:Int),u] w λo w'=>o=.returned (lN [])/\wi [g,rb] w w'/\∃ ad',vK B w' g ad' (fR S F keep (rows:List bh).length ⟨[],rows,[]⟩ e):=by
 have hL0:=oq S F e.2;have hM0:0<=M:=cY;obtain⟨g1,g2,g3,g4,g5,g6,g7,g8,g9⟩:=sD FR hL0 zK YB my NB;have DT:B<=g:=ia g bN;have hlen:=FU.len;obtain⟨sS,pS,nS,cS,tS,yS,mS,dS,sF,pF,nF,cF,tF,yF,mF,dF,rfl,hS,hF⟩:=Em;obtain⟨sN,pN,nN,cN,tN,yN,mN,dN,sE,pE,nE,cE,tE,yE,mE,dE,rfl,hN,hE⟩:=YA
 have xw:nd (KU UU) 99 [g,rb] [(Runner,[.val (.slice none 0 0),.row 199 0 nr cr,.val (.slice none 0 0)]),(fX,(pA.flatten++tc).map .val)] w:=by
  have Th:g≠rb:=λe=>by subst e;exact absurd (cK hg Le) bq
  refine⟨aa,by simp[Th],λj g' c' hj hc=> ?_,λc' hc=> ?_,λc' hc k hk=> ?_⟩
  ·match j,hj,hc with
   | 0,hj,hc=>cases hj;cases hc;exact hg
   | 1,hj,hc=>cases hj;cases hc;rw[ak];exact Le
   | j+2,hj,_=>simp at hj
  ·simp only[List.mem_cons,List.not_mem_nil,or_false] at hc;rcases hc with rfl|rfl
   ·exact⟨aa,aa⟩
   ·exact⟨aa,bP (hR.all (aL B))⟩
  ·simp only[List.mem_cons,List.not_mem_nil,or_false] at hc;rcases hc with rfl|rfl
   ·have:k=199:=by simpa [aI,AV.eu] using hk
    subst this;exact⟨ab,by show 199<2*99+2;omega⟩
   ·rw[aw] at hk;cases hk
 refine iw Tryz.prog w _ (KU UU) (λt=>Nat.beq t 22) table (λ_ _=>trivial) (ad:=[g,rb]) (us:=[_,_,_]) Tryz.func39 aa Tryz.ntmps39 (bM aa) xw (bM aa) ?_;refine aj ?_;refine VO.call aa aa (fk Tryz.func70) (λbn cG bo=>((uX _ _ S F keep e ks bn ⟨_,_,_,_,_,_,_,_,_,_,_,_,_,_,_,_,aa,hS.k,hF.k⟩ ⟨_,_,_,_,_,_,_,_,_,_,_,_,_,_,_,_,aa,hN.k,hE.k⟩ Bt ab).mono (λo w2 h=>And.intro h bo.1.size)).mono ?_);rintro o w1 ⟨⟨r1,rfl,q1,bA⟩,Te⟩;obtain⟨s1,p1,n1,c1,t1,y1,m1,d1,rfl⟩:=q1.form;refine⟨_,aa,bA,λeF _ bb1=>wV aa ?_⟩;replace q1:=q1.mono (bj hB Te);refine aj ?_;refine VO.call aa aa (fk nK) (λcz dB cT=>((dz 0 cz ab ab).mono (λo w2 h=>And.intro h cT.1.size)).mono ?_);rintro o w2 ⟨⟨r2,rfl,q2,cC⟩,zI⟩;obtain⟨s2,p2,n2,c2,t2,y2,m2,d2,rfl⟩:=q2.form;refine⟨_,aa,cC,λfe _ bb2=>wV aa ?_⟩;replace q2:=q2.mono (bj hB zI);refine aj ?_;refine VO.call aa aa (fk nK) (λeP fA ft=>((dz 0 eP ab ab).mono (λo w2 h=>And.intro h ft.1.size)).mono ?_);rintro o w3 ⟨⟨r3,rfl,q3,dZ⟩,Iu⟩;obtain⟨s3,p3,n3,c3,t3,y3,m3,d3,rfl⟩:=q3.form;refine⟨_,aa,dZ,λjm _ bb3=>wV aa ?_⟩;replace q3:=q3.mono (bj hB Iu);refine aj ?_;refine VO.eB aa (fk Ah) (λfW β iJ iB ho=>((kg _ _ e.1 [aH S F e.2] kk fW ((hN.k).up ab) (et (ho.own 20 (.base (aJ.2 aa)) _ _ aa) [] (vs:=[[.bool s1,.slice p1 n1 c1,.bool t1,.slice y1 m1 d1]]) (by rfl) aa (bV.cons (q1.ki (hK _ FR cY cY)) bV.nil) (bM aa) bq) ab (bM aa)).mono (λo w2 h=>And.intro h iB.1.size)).mono ?_);rintro o w4 ⟨⟨r4,rfl,q4,z4,ic⟩,Qy⟩;rw[gK] at q4;obtain⟨s4,p4,n4,c4,t4,y4,m4,d4,rfl⟩:=q4.form;refine⟨_,aa,ic,λmB _ tI=>wV aa ?_⟩;replace q4:=q4.mono (bj hB Qy);refine aj ?_;refine VO.call aa aa (fk nL) (λfQ iH fV=>((ew _ _ e.1 (ai e.1 (aH S F e.2)) kk kk fQ ((hN.k).up ab) (q4.ki (hK _ g1 cY cY)) ab ab).mono (λo w2 h=>And.intro h fV.1.size)).mono ?_);rintro o w5 ⟨⟨r5,rfl,q5,iz⟩,tX⟩;obtain⟨s5,p5,n5,c5,t5,y5,m5,d5,rfl⟩:=q5.form;refine⟨_,aa,iz,λlg _ sR=>wV aa ?_⟩;replace q5:=q5.mono (bj hB tX);refine aj ?_;refine VO.call aa aa (fk nL) (λfJ iK gE=>((ew _ _ (aH S F e.2) (ai e.1 (aH S F e.2)) kk kk fJ (q1.ki (hK _ FR cY cY)) (q4.ki (hK _ g1 cY cY)) ab ab).mono (λo w2 h=>And.intro h gE.1.size)).mono ?_);rintro o w6 ⟨⟨r6,rfl,q6,ln⟩,Tf⟩;obtain⟨s6,p6,n6,c6,t6,y6,m6,d6,rfl⟩:=q6.form;refine⟨_,aa,ln,λlH _ sj=>wV aa ?_⟩;replace q6:=q6.mono (bj hB Tf);refine aj ?_;have tY:fR S F keep (rows:List bh).length ⟨[],rows,[]⟩ e=Bm keep (rows:List bh).length ⟨rF (rows:List bh).length (e.1-ai e.1 (aH S F e.2)) (sw [] (aH S F e.2-ai e.1 (aH S F e.2))),rows++[gz S F [] e],[]++wj (rows:List bh).length [] (aH S F e.2-ai e.1 (aH S F e.2))⟩:=aa;refine VO.Br (B:=B) (mm:=aH S F e.2-ai e.1 (aH S F e.2)) kk aa aa (fk Gm) aa (λxM Tg Vu=>q6.kr) hB (λw7 r7 k7 b7 q7=> ?_);obtain⟨s7,p7,n7,c7,t7,y7,m7,d7,rfl⟩:=q7.form;refine wV aa ?_;refine aj ?_;have sW:([]:List Uq)++wj (rows:List bh).length [] (aH S F e.2-ai e.1 (aH S F e.2))=[]:=aa;obtain⟨u1,u2,u3⟩:=CD (q:=[]) (m:=aH S F e.2-ai e.1 (aH S F e.2)) (λp hp=>(by cases hp)) g7 g8;refine VO.call aa aa (fk tk) (λpV yn ru=>((gi _ _ (ai e.1 (aH S F e.2)) ((0:Rat)) kk kk pV (q4.ki (hK _ g1 cY cY)) (q7.ki (hK _ u1 cY cY)) ab ab).mono (λo w2 h=>And.intro h ru.1.size)).mono ?_);rintro o w8 ⟨⟨r8,rfl,q8,vG⟩,En⟩;obtain⟨s8,p8,n8,c8,t8,y8,m8,d8,rfl⟩:=q8.form;refine⟨_,aa,vG,λvP _ KW=>wV aa ?_⟩;replace q8:=q8.mono (bj hB En);refine aj ?_;have h00:((0:Int):Rat)=0:=aa;have Mt:gF B w8 [.bool s1,.slice p1 n1 c1,.bool t1,.slice y1 m1 d1,.bool s4,.slice p4 n4 c4,.bool t4,.slice y4 m4 d4,.bool s5,.slice p5 n5 c5,.bool t5,.slice y5 m5 d5,.bool s7,.slice p7 n7 c7,.bool t7,.slice y7 m7 d7,.bool s8,.slice p8 n8 c8,.bool t8,.slice y8 m8 d8,.bool s2,.slice p2 n2 c2,.bool t2,.slice y2 m2 d2,.bool s3,.slice p3 n3 c3,.bool t3,.slice y3 m3 d3] (gz S F [] e):=⟨[.bool s1,.slice p1 n1 c1,.bool t1,.slice y1 m1 d1],[.bool s4,.slice p4 n4 c4,.bool t4,.slice y4 m4 d4],[.bool s5,.slice p5 n5 c5,.bool t5,.slice y5 m5 d5],[.bool s7,.slice p7 n7 c7,.bool t7,.slice y7 m7 d7],[.bool s8,.slice p8 n8 c8,.bool t8,.slice y8 m8 d8],[.bool s2,.slice p2 n2 c2,.bool t2,.slice y2 m2 d2],[.bool s3,.slice p3 n3 c3,.bool t3,.slice y3 m3 d3],aa,⟨_,_,_,_,_,_,_,_,aa,q1.k⟩,⟨_,_,_,_,_,_,_,_,aa,q4.k⟩,⟨_,_,_,_,_,_,_,_,aa,q5.k⟩,⟨_,_,_,_,_,_,_,_,aa,q7.k⟩,⟨_,_,_,_,_,_,_,_,aa,q8.k⟩,⟨_,_,_,_,_,_,_,_,aa,q2.k⟩,⟨_,_,_,_,_,_,_,_,aa,q3.k⟩⟩;obtain⟨nA,nC⟩:=hR.el.ok (aL B);have uy:=hR.len
 refine VO.app (cP _ _) (t:=33) (e:=fX) (sz:=28) (n:=nr) (c:=cr) (mm:=1) (known:=pA.flatten.map .val) (spare:=tc.map .val) (del:=some 199) (news:=([.bool s1,.slice p1 n1 c1,.bool t1,.slice y1 m1 d1,.bool s4,.slice p4 n4 c4,.bool t4,.slice y4 m4 d4,.bool s5,.slice p5 n5 c5,.bool t5,.slice y5 m5 d5,.bool s7,.slice p7 n7 c7,.bool t7,.slice y7 m7 d7,.bool s8,.slice p8 n8 c8,.bool t8,.slice y8 m8 d8,.bool s2,.slice p2 n2 c2,.bool t2,.slice y2 m2 d2,.bool s3,.slice p3 n3 c3,.bool t3,.slice y3 m3 d3]:List Value).map .val) (dst:=52) aa aa aa aa aa aa aa aa (bM aa) aa (.inr ⟨199,aa,au (λl=>some (fX,l)) (bC ..),aa⟩) (.inl aa) (by rw[bu,nC,uy]) (by rw[<-bC,bu];exact hR.fl) hR.le hR.cm ⟨aw _,aw _,aa⟩ ⟨bP nA,bP hR.so,aa⟩ aa ab
  (λw1 β k1 b1 ho=>⟨_,_,rfl,.inr ⟨β 51,0,rfl,eH (rest:=[]) (ho.own 51 (.base (iY _ (aJ.2 rfl))) _ _ rfl) rfl⟩⟩)
  (λvI jr qy ρ Vo Vp iI ll kC fT Mu nt=>wV rfl ?_)
 (repeat (first|refine wN ?_|refine wP aa ?_|refine KL aa ?_|refine wO aa aa ?_))
 obtain⟨wk,Bu⟩:∃ wk,wk=nr+1:=⟨_,aa⟩;obtain⟨zL,Bv⟩:∃ zL,zL=(pA++[[.bool s1,.slice p1 n1 c1,.bool t1,.slice y1 m1 d1,.bool s4,.slice p4 n4 c4,.bool t4,.slice y4 m4 d4,.bool s5,.slice p5 n5 c5,.bool t5,.slice y5 m5 d5,.bool s7,.slice p7 n7 c7,.bool t7,.slice y7 m7 d7,.bool s8,.slice p8 n8 c8,.bool t8,.slice y8 m8 d8,.bool s2,.slice p2 n2 c2,.bool t2,.slice y2 m2 d2,.bool s3,.slice p3 n3 c3,.bool t3,.slice y3 m3 d3]]:List (List Value)):=⟨_,aa⟩;have iW:vW (gF B) 28 vI wk jr zL qy (rows++[gz S F [] e]):=by rw[Bu,Bv];exact⟨by rw[uy,bB];rfl,(hR.el.kp (aL B) bm).snoc ((aL B).kp Mt bm),Mu,nt,ll,kC,by simpa using fT⟩
 refine VS.narrow [(0,.box 198 0),(2,.val (.int .i64 ((rows:List bh).length:Int))),(5,.box 5 0),(8,.box 8 0)] [(198,(Runner,[.val (.slice none 0 0),.row 52 0 wk jr,.val (.slice none 0 0)])),(52,(fX,zL.flatten.map AV.val++qy)),(5,(28,([.bool sS,.slice pS nS cS,.bool tS,.slice yS mS dS,.bool sF,.slice pF nF cF,.bool tF,.slice yF mF dF,.int .i64 (keep:Int)]:List Value).map AV.val)),(8,(fX,([.bool s1,.slice p1 n1 c1,.bool t1,.slice y1 m1 d1,.bool s4,.slice p4 n4 c4,.bool t4,.slice y4 m4 d4,.bool s5,.slice p5 n5 c5,.bool t5,.slice y5 m5 d5,.bool s7,.slice p7 n7 c7,.bool t7,.slice y7 m7 d7,.bool s8,.slice p8 n8 c8,.bool t8,.slice y8 m8 d8,.bool s2,.slice p2 n2 c2,.bool t2,.slice y2 m2 d2,.bool s3,.slice p3 n3 c3,.bool t3,.slice y3 m3 d3]:List Value).map AV.val))] ⟨aa,aa,aa,aa,ag⟩ ⟨by rw[Bu];rfl,by rw[Bv];exact au (λl=>some (fX,l++qy)) bN,aa,aa,ag⟩ aa ⟨.lit aa,.append (.vals _) (.none nt),.vals _,.vals _,ag⟩ ?_;refine VS.draw (cP _ _) (qu _ _) [74] (by kernel_rfl) (VO.run 80 aa ?_);refine VO.Qv (B:=B) (d2:=62) (d:=e.1-ai e.1 (aH S F e.2)) kk aa aa aa (fk Gl) aa aa (by show 62<2*99;omega) (λj hj=> ?_) (bM aa) (λxM Tg Vu=>q5.kr) (hK _ g4 cY cY) KR hB (λJt k19 b19 Rj=>wV aa ?_) (λJt vZ Vv Vw k19 b19 Rj jR=>wV aa ?_)
 ·have:j=52:=by simpa [aI,AV.eu] using hj
  subst this;intro h;cases h
 ·have Fv:rF (rows:List bh).length (e.1-ai e.1 (aH S F e.2)) (sw [] (aH S F e.2-ai e.1 (aH S F e.2)))=[]:=if_neg Rj;refine aj ?_;refine VO.fE (x:=.val (.slice none 0 0)) (p:=λ_=>none) (c:=0) aa (λβ=>.inr ⟨none,aa⟩) aa (fk gO) aa (λLc k20 b20=>wV aa ?_);refine aj ?_;have yt:fR S F keep (rows:List bh).length ⟨[],rows,[]⟩ e=⟨[],rows++[gz S F [] e],[]⟩:=by rw[tY,Fv,sW];rfl
  refine aj ?_;refine VS.rE (cP _ _) aa (λwz β kz oz en=> ?_);obtain⟨o1,o2⟩:=iy (en.own 198 _ _ aa) 0 g aa aa;have oR:=(en.own 52 _ _ aa).cls;rw[bC,ak] at oR;have nR:=jz hB ia (show eK 99 [g,rb] w 52 (β 52) from (en.own 52 _ _ aa).new);rw[yt];refine⟨aa,oz.1,[g,β 52],⟨λb hb=> ?_,_,_,_,o2,?_⟩⟩
  ·simp only[List.mem_cons,List.not_mem_nil,or_false] at hb;rcases hb with rfl|rfl
   ·exact DT
   ·exact nR
  ·exact .inr (.inl ⟨β 52,aa,aa,aa,aa,aa,⟨_,_,_,_,aa,oR,(iW.kp (aL B) bm).o β⟩⟩)
 ·obtain⟨q2,Bw⟩:∃ q2:List Vq,q2=[((rows:List bh).length,e.1-ai e.1 (aH S F e.2))]:=⟨_,aa⟩;rw[<-Bw] at jR;have Fv:rF (rows:List bh).length (e.1-ai e.1 (aH S F e.2)) (sw [] (aH S F e.2-ai e.1 (aH S F e.2)))=q2:=by rw[Bw];exact if_pos Rj
  obtain⟨nz,hnz'⟩:∃ nz,nz=1:=⟨_,aa⟩;obtain⟨jK,Qz⟩:∃ jK,jK=0:=⟨_,aa⟩;obtain⟨rG,QA⟩:∃ rG:List Value,rG=[]:=⟨_,aa⟩;have jR:fm (eV B) 5 Jt nz jK vZ rG Vv Vw q2:=by rw[hnz',Qz,QA];exact jR
  refine VO.nil ?_;refine VS.narrow [(0,.box 198 0),(2,.val (.int .i64 ((rows:List bh).length:Int))),(5,.box 5 0),(8,.box 8 0)] [(198,(Runner,[.row 62 jK nz vZ,.row 52 0 wk jr,.val (.slice none 0 0)])),(52,(fX,zL.flatten.map AV.val++qy)),(5,(28,([.bool sS,.slice pS nS cS,.bool tS,.slice yS mS dS,.bool sF,.slice pF nF cF,.bool tF,.slice yF mF dF,.int .i64 (keep:Int)]:List Value).map AV.val)),(8,(fX,([.bool s1,.slice p1 n1 c1,.bool t1,.slice y1 m1 d1,.bool s4,.slice p4 n4 c4,.bool t4,.slice y4 m4 d4,.bool s5,.slice p5 n5 c5,.bool t5,.slice y5 m5 d5,.bool s7,.slice p7 n7 c7,.bool t7,.slice y7 m7 d7,.bool s8,.slice p8 n8 c8,.bool t8,.slice y8 m8 d8,.bool s2,.slice p2 n2 c2,.bool t2,.slice y2 m2 d2,.bool s3,.slice p3 n3 c3,.bool t3,.slice y3 m3 d3]:List Value).map AV.val)),(62,(ff,(rG++(Vv.flatten++Vw)).map AV.val))] ⟨aa,aa,aa,aa,ag⟩ ⟨by rw[Qz,hnz'];rfl,rfl,rfl,rfl,by rw[QA];rfl,ag⟩ aa ⟨.lit aa,.append (.vals _) (.none nt),.vals _,.vals _,.vals _,ag⟩ ?_;refine aj ?_;by_cases sY:nz=0
  ·refine VO.fE (x:=.row 62 jK nz vZ) (p:=λ_=>none) (c:=vZ) aa (λβ=>.inr ⟨_,au (λn=>Value.slice (some ⟨β 62,jK,none⟩) n vZ) sY⟩) aa (fk gO) aa (λLc k20 b20=>wV aa ?_);refine aj ?_;have Mv:q2=[]:=js (by rw[<-jR.len];exact sY);have yt:fR S F keep (rows:List bh).length ⟨[],rows,[]⟩ e=⟨q2,rows++[gz S F [] e],[]⟩:=by rw[tY,Fv,sW,Mv];rfl
   refine aj ?_;refine VS.rE (cP _ _) aa (λwz β kz oz en=> ?_);obtain⟨o1,o2⟩:=iy (en.own 198 _ _ aa) 0 g aa aa;have oR:=(en.own 52 _ _ aa).cls;rw[bC,ak] at oR;have nR:=jz hB ia (show eK 99 [g,rb] w 52 (β 52) from (en.own 52 _ _ aa).new);have oV:=(en.own 62 _ _ aa).cls;rw[ak] at oV;have nV:=jz hB ia (show eK 99 [g,rb] w 62 (β 62) from (en.own 62 _ _ aa).new);rw[yt];refine⟨aa,oz.1,[g,β 62,β 52],⟨λb hb=> ?_,_,_,_,o2,?_⟩⟩
   ·simp only[List.mem_cons,List.not_mem_nil,or_false] at hb;rcases hb with rfl|rfl|rfl
    ·exact DT
    ·exact nV
    ·exact nR
   ·exact .inr (.inr (.inl ⟨β 62,β 52,aa,aa,aa,⟨_,_,_,_,_,_,aa,oV,jR.kp (bt B) bm⟩,⟨_,_,_,_,aa,oR,(iW.kp (aL B) bm).o β⟩⟩))
  obtain⟨pp,qt,Dw⟩:∃ pp qt,q2=pp::qt:=by
   cases q2 with
   | nil=>exact absurd jR.len sY
   | cons pp qt=>exact⟨pp,qt,aa⟩
  subst Dw
  obtain⟨Mw,FV,rfl,hE4,Bx⟩:∃ Mw FV,Vv=Mw::FV/\eV B Jt Mw pp/\cd (eV B) Jt qt FV:=by
   have:=jR.el;cases this with
   | cons h1 h2=>exact⟨_,_,aa,h1,h2⟩
  obtain⟨s9,p9,n9,c9,t9,y9,m9,d9,rfl,XA⟩:=hE4;have Mx:=jR.le;have My:=jR.len;have Mz:=jR.cm;have qj:rG.length=jK:=jR.pl.resolve_right ab;refine VO.eW aa aa (fk gO) aa sY (by intro h;cases h) (λLc k20 b20=>wV aa ?_);refine aj ?_;refine VO.dY aa (([.int .i64 (pp.1:Int)]:List Value).map .val) aa (cL qj 0 _ ⟨_,aa⟩) (wV aa ?_);refine aj ?_;have Vx:IntKind.i64.wrap (((rows:List bh).length:Int)-(keep:Int))=((rows:List bh).length:Int)-(keep:Int):=cV _ ab;by_cases hx:pp.1+keep=(rows:List bh).length
  ·refine VS.aV aa (by rw[Vx,beq_iff_eq];omega) ?_;refine aj ?_;refine VO.dY aa (([.int .i64 (pp.1:Int)]:List Value).map .val) aa (cL qj 0 _ ⟨_,aa⟩) (wV aa ?_);refine aj ?_;refine VO.dY aa (([.bool s9,.slice p9 n9 c9,.bool t9,.slice y9 m9 d9]:List Value).map .val) aa (cL qj 1 _ ⟨[],aa⟩) (wV aa ?_);refine aj ?_;have jA:=iW.len;have KE:pp.1<wk:=by rw[jA,bB,wm];omega
   refine VO.cond aa dQ (wV aa ?_);obtain⟨rq,Ld⟩:∃ rq,(rows++[gz S F [] e])[pp.1]? =some rq:=⟨_,ba (by rw[<-jA];exact KE)⟩;obtain⟨CE,sX,vL⟩:=iW.el.at pp.1 rq Ld;have lS:=iW.fl;have XB:=iW.le;refine VO.cond aa (by show 0+((pp.1:Int)).toNat*28+20+4<=_;rw[lS,dC];omega) (VO.fi 52 aa (oW (new:=[.bool s9,.slice p9 n9 c9,.bool t9,.slice y9 m9 d9]) (o:=20) (iW.el.lens (aL B)) sX (bM aa)) (wV aa ?_));refine aj ?_
   have hR3:vW (gF B) 28 Lc wk jr (zL.set pp.1 (CE.take 20++([.bool s9,.slice p9 n9 c9,.bool t9,.slice y9 m9 d9]++CE.drop (20+([.bool s9,.slice p9 n9 c9,.bool t9,.slice y9 m9 d9]:List Value).length)))) qy ((rows++[gz S F [] e]).modify pp.1 (λr=>{ r with aq:=pp.2 })):=
    ⟨by rw[oy];exact jA,by rw[gj Ld];exact (iW.el.kp (aL B) bm).set (xz ((aL B).kp vL bm) ⟨_,_,_,_,_,_,_,_,aa,XA.kp bm⟩),iW.so,iW.sl,iW.le,iW.cm,by
     rw[bB,bu,fb (qY (iW.el.lens (aL B)) (Bs ((aL B).len vL) rfl)),pM];rw[bB,bu,fb (iW.el.lens (aL B))] at lS;exact lS⟩
   refine VO.np aa aa (fk yJ) aa ab Mx Mz (λj hj=> ?_) (bM aa) (λRv k21 b21=>wV aa ?_)
   ·simp only[aI,AV.eu,List.flatMap_cons,List.flatMap_nil,List.mem_append,List.mem_cons,List.not_mem_nil,or_false,List.append_nil] at hj;rcases hj with rfl|rfl <;> (intro h;cases h)
   refine aj ?_;have hV4:fm (eV B) 5 Rv (nz-1) (if vZ=1 then jK else jK+5) (vZ -1) (rG++[.int .i64 (pp.1:Int),.bool s9,.slice p9 n9 c9,.bool t9,.slice y9 m9 d9]) FV Vw qt:=⟨by rw[My];rfl,uV qj,by rw[ja,jR.po];rfl,Bx.kp (bt B) bm,jR.so,ab,ab,uW jR.fl⟩
   have yt:fR S F keep (rows:List bh).length ⟨[],rows,[]⟩ e=⟨qt,(rows++[gz S F [] e]).modify pp.1 (λr=>{ r with aq:=pp.2 }),[]⟩:=by
    rw[tY,Fv,sW];exact if_pos hx
   refine aj ?_;refine VS.rE (cP _ _) aa (λwz β kz oz en=> ?_);obtain⟨o1,o2⟩:=iy (en.own 198 _ _ aa) 0 g aa aa;have oR:=(en.own 52 _ _ aa).cls;rw[bC,ak] at oR;have nR:=jz hB ia (show eK 99 [g,rb] w 52 (β 52) from (en.own 52 _ _ aa).new);have oV:=(en.own 62 _ _ aa).cls;rw[gM,ak] at oV;have nV:=jz hB ia (show eK 99 [g,rb] w 62 (β 62) from (en.own 62 _ _ aa).new);rw[yt];refine⟨aa,oz.1,[g,β 62,β 52],⟨λb hb=> ?_,_,_,_,o2,?_⟩⟩
   ·simp only[List.mem_cons,List.not_mem_nil,or_false] at hb;rcases hb with rfl|rfl|rfl
    ·exact DT
    ·exact nV
    ·exact nR
   ·exact .inr (.inr (.inl ⟨β 62,β 52,aa,aa,aa,⟨_,_,_,_,_,_,aa,oV,hV4.kp (bt B) bm⟩,⟨_,_,_,_,aa,oR,(hR3.kp (aL B) bm).o β⟩⟩))
  ·refine VS.aP aa (by rw[Vx,iZ];omega) ?_
   have yt:fR S F keep (rows:List bh).length ⟨[],rows,[]⟩ e=⟨pp::qt,rows++[gz S F [] e],[]⟩:=by
    rw[tY,Fv,sW];exact if_neg hx
   refine aj ?_;refine VS.rE (cP _ _) aa (λwz β kz oz en=> ?_);obtain⟨o1,o2⟩:=iy (en.own 198 _ _ aa) 0 g aa aa;have oR:=(en.own 52 _ _ aa).cls;rw[bC,ak] at oR;have nR:=jz hB ia (show eK 99 [g,rb] w 52 (β 52) from (en.own 52 _ _ aa).new);have oV:=(en.own 62 _ _ aa).cls;rw[ak] at oV;have nV:=jz hB ia (show eK 99 [g,rb] w 62 (β 62) from (en.own 62 _ _ aa).new);rw[yt];refine⟨aa,oz.1,[g,β 62,β 52],⟨λb hb=> ?_,_,_,_,o2,?_⟩⟩
   ·simp only[List.mem_cons,List.not_mem_nil,or_false] at hb;rcases hb with rfl|rfl|rfl
    ·exact DT
    ·exact nV
    ·exact nR
   ·exact .inr (.inr (.inl ⟨β 62,β 52,aa,aa,aa,⟨_,_,_,_,_,_,aa,oV,jR.kp (bt B) bm⟩,⟨_,_,_,_,aa,oR,(iW.kp (aL B) bm).o β⟩⟩))
set_option maxRecDepth 4000
variable {vsq:List (List Value)} {pre spq:List Value} {vb off nq cq:Nat}
set_option maxRecDepth 4000 in
theorem iYear_C {keep:Nat} {q:List Vq} {rows:List bh} {uses:List Uq} {v:Value} (hg:bO w g Runner #[.slice (some ⟨vb,off,none⟩) nq cq,.slice (some ⟨rb,0,none⟩) nr cr,.slice none 0 0]) (NC:bO w vb ff (pre++(vsq.flatten++spq)).toArray) (hV:fm (eV B) 5 w nq off cq pre vsq spq q) (Le:bO w rb fX (pA.flatten++tc).toArray) (hR:fm (gF B) 28 w nr 0 cr [] pA tc rows)
  (Em:Td w v S F keep ks) (YA:YrV w u e ks) (Bt:1<=ks) (Js:ks<=kk) (KR:kk<=100000) (FR:Iz D (aH S F e.2)) (zK:aH S F e.2<=M) (YB:Iz D e.1) (my: -M<=e.1) (NB:e.1<=M) (hK:∀ x,Iz D x->-(M+M)<=x->x<=M+M->fI x kk)
  (FU:Ir D M ⟨q,rows,[]⟩) (DR:(rows:List bh).length<=64) (yZ:keep<=40) (hB:B<=w.heap.size) (ia:∀ b∈[g,vb,rb],B<=b):
  Calls Tryz.prog 39 #[.pointer (some ⟨g,0,none⟩),v,.int .i64 ((rows:List bh).length:Int),u] w λo w'=>o=.returned (lN [])/\wi [g,vb,rb] w w'/\∃ ad',vK B w' g ad' (fR S F keep (rows:List bh).length ⟨q,rows,[]⟩ e):=by
 have hL0:=oq S F e.2;have hM0:0<=M:=cY;obtain⟨g1,g2,g3,g4,g5,g6,g7,g8,g9⟩:=sD FR hL0 zK YB my NB;have DT:B<=g:=ia g bN;have hlen:=FU.len;obtain⟨sS,pS,nS,cS,tS,yS,mS,dS,sF,pF,nF,cF,tF,yF,mF,dF,rfl,hS,hF⟩:=Em;obtain⟨sN,pN,nN,cN,tN,yN,mN,dN,sE,pE,nE,cE,tE,yE,mE,dE,rfl,hN,hE⟩:=YA;have pI:q.length<=1000:=by dsimp only at hlen;omega
 have xw:nd (KU UU) 99 [g,vb,rb] [(Runner,[.row 199 off nq cq,.row 200 0 nr cr,.val (.slice none 0 0)]),(ff,(pre++(vsq.flatten++spq)).map .val),(fX,(pA.flatten++tc).map .val)] w:=by
  have Th:g≠vb:=λe=>by subst e;exact absurd (cK hg NC) bq
  have h02:g≠rb:=λe=>by subst e;exact absurd (cK hg Le) bq
  have Jn:vb≠rb:=λe=>by subst e;exact absurd (cK NC Le) bq
  refine⟨aa,by simp[Th,h02,Jn],λj g' c' hj hc=> ?_,λc' hc=> ?_,λc' hc k hk=> ?_⟩
  ·match j,hj,hc with
   | 0,hj,hc=>cases hj;cases hc;exact hg
   | 1,hj,hc=>cases hj;cases hc;rw[ak];exact NC
   | 2,hj,hc=>cases hj;cases hc;rw[ak];exact Le
   | j+3,hj,_=>simp at hj
  ·simp only[List.mem_cons,List.not_mem_nil,or_false] at hc;rcases hc with rfl|rfl|rfl
   ·exact⟨aa,aa⟩
   ·exact⟨aa,bP (hV.all (bt B))⟩
   ·exact⟨aa,bP (hR.all (aL B))⟩
  ·simp only[List.mem_cons,List.not_mem_nil,or_false] at hc;rcases hc with rfl|rfl|rfl
   ·have:k=199\/k=200:=by simpa [aI,AV.eu] using hk
    rcases this with rfl|rfl
    ·exact⟨ab,by show 199<2*99+3;omega⟩
    ·exact⟨ab,by show 200<2*99+3;omega⟩
   ·rw[aw] at hk;cases hk
   ·rw[aw] at hk;cases hk
 refine iw Tryz.prog w _ (KU UU) (λt=>Nat.beq t 22) table (λ_ _=>trivial) (ad:=[g,vb,rb]) (us:=[_,_,_]) Tryz.func39 aa Tryz.ntmps39 (bM aa) xw (bM aa) ?_;refine aj ?_;refine VO.call aa aa (fk Tryz.func70) (λbn cG bo=>((uX _ _ S F keep e ks bn ⟨_,_,_,_,_,_,_,_,_,_,_,_,_,_,_,_,aa,hS.k,hF.k⟩ ⟨_,_,_,_,_,_,_,_,_,_,_,_,_,_,_,_,aa,hN.k,hE.k⟩ Bt ab).mono (λo w2 h=>And.intro h bo.1.size)).mono ?_);rintro o w1 ⟨⟨r1,rfl,q1,bA⟩,Te⟩;obtain⟨s1,p1,n1,c1,t1,y1,m1,d1,rfl⟩:=q1.form;refine⟨_,aa,bA,λeF _ bb1=>wV aa ?_⟩;replace q1:=q1.mono (bj hB Te);refine aj ?_;refine VO.call aa aa (fk nK) (λcz dB cT=>((dz 0 cz ab ab).mono (λo w2 h=>And.intro h cT.1.size)).mono ?_);rintro o w2 ⟨⟨r2,rfl,q2,cC⟩,zI⟩;obtain⟨s2,p2,n2,c2,t2,y2,m2,d2,rfl⟩:=q2.form;refine⟨_,aa,cC,λfe _ bb2=>wV aa ?_⟩;replace q2:=q2.mono (bj hB zI);refine aj ?_;refine VO.call aa aa (fk nK) (λeP fA ft=>((dz 0 eP ab ab).mono (λo w2 h=>And.intro h ft.1.size)).mono ?_);rintro o w3 ⟨⟨r3,rfl,q3,dZ⟩,Iu⟩;obtain⟨s3,p3,n3,c3,t3,y3,m3,d3,rfl⟩:=q3.form;refine⟨_,aa,dZ,λjm _ bb3=>wV aa ?_⟩;replace q3:=q3.mono (bj hB Iu);refine aj ?_;refine VO.eB aa (fk Ah) (λfW β iJ iB ho=>((kg _ _ e.1 [aH S F e.2] kk fW ((hN.k).up ab) (et (ho.own 20 (.base (aJ.2 aa)) _ _ aa) [] (vs:=[[.bool s1,.slice p1 n1 c1,.bool t1,.slice y1 m1 d1]]) (by rfl) aa (bV.cons (q1.ki (hK _ FR cY cY)) bV.nil) (bM aa) bq) ab (bM aa)).mono (λo w2 h=>And.intro h iB.1.size)).mono ?_);rintro o w4 ⟨⟨r4,rfl,q4,z4,ic⟩,Qy⟩;rw[gK] at q4;obtain⟨s4,p4,n4,c4,t4,y4,m4,d4,rfl⟩:=q4.form;refine⟨_,aa,ic,λmB _ tI=>wV aa ?_⟩;replace q4:=q4.mono (bj hB Qy);refine aj ?_;refine VO.call aa aa (fk nL) (λfQ iH fV=>((ew _ _ e.1 (ai e.1 (aH S F e.2)) kk kk fQ ((hN.k).up ab) (q4.ki (hK _ g1 cY cY)) ab ab).mono (λo w2 h=>And.intro h fV.1.size)).mono ?_);rintro o w5 ⟨⟨r5,rfl,q5,iz⟩,tX⟩;obtain⟨s5,p5,n5,c5,t5,y5,m5,d5,rfl⟩:=q5.form;refine⟨_,aa,iz,λlg _ sR=>wV aa ?_⟩;replace q5:=q5.mono (bj hB tX);refine aj ?_;refine VO.call aa aa (fk nL) (λfJ iK gE=>((ew _ _ (aH S F e.2) (ai e.1 (aH S F e.2)) kk kk fJ (q1.ki (hK _ FR cY cY)) (q4.ki (hK _ g1 cY cY)) ab ab).mono (λo w2 h=>And.intro h gE.1.size)).mono ?_);rintro o w6 ⟨⟨r6,rfl,q6,ln⟩,Tf⟩;obtain⟨s6,p6,n6,c6,t6,y6,m6,d6,rfl⟩:=q6.form;refine⟨_,aa,ln,λlH _ sj=>wV aa ?_⟩;replace q6:=q6.mono (bj hB Tf);refine aj ?_;have tY:fR S F keep (rows:List bh).length ⟨q,rows,[]⟩ e=Bm keep (rows:List bh).length ⟨rF (rows:List bh).length (e.1-ai e.1 (aH S F e.2)) (sw q (aH S F e.2-ai e.1 (aH S F e.2))),rows++[gz S F q e],[]++wj (rows:List bh).length q (aH S F e.2-ai e.1 (aH S F e.2))⟩:=aa;refine VO.Qw (B:=B) (D:=D) (v:=199) (d2:=36) (M:=M+M) (mm:=aH S F e.2-ai e.1 (aH S F e.2)) (q:=q) kk aa aa aa (fk Gm) aa aa aa (by show 36<2*99;omega) bq aa (λ_=>aa) (λj hj=> ?_) (bM aa) (λxM Tg Vu=>hV.kp (bt B) bm) (λxM Tg Vu=>q6.kr) g7 g8 g9 (λp hp=>⟨(FU.el p hp).1,(FU.el p hp).2.1,(FU.el p hp).2.2.1⟩) (λx h1 h2 h3=>hK x h1 cY h3) KR pI hB (λw7 r7 off1 nq1 cq1 pre1 vsq1 spq1 k7 b7 q7 hun hV1=> ?_) (λw7 r7 off1 nq1 cq1 pre1 vsq1 spq1 un uc vsu1 spu1 k7 b7 q7 hV1 hU1=> ?_)
 ·have:j=200:=by simpa [aI,AV.eu] using hj
  subst this;intro h;cases h
 ·obtain⟨s7,p7,n7,c7,t7,y7,m7,d7,rfl⟩:=q7.form;refine wV aa ?_;refine aj ?_;have sW:([]:List Uq)++wj rows.length q (aH S F e.2-ai e.1 (aH S F e.2))=[]:=hun;obtain⟨u1,u2,u3⟩:=CD (q:=q) (m:=aH S F e.2-ai e.1 (aH S F e.2)) (λp hp=>⟨(FU.el p hp).1,(FU.el p hp).2.1⟩) g7 g8;refine VO.call aa aa (fk tk) (λpV yn ru=>((gi _ _ (ai e.1 (aH S F e.2)) (zV q (aH S F e.2-ai e.1 (aH S F e.2))) kk kk pV (q4.ki (hK _ g1 cY cY)) (q7.ki (hK _ u1 cY cY)) ab ab).mono (λo w2 h=>And.intro h ru.1.size)).mono ?_);rintro o w8 ⟨⟨r8,rfl,q8,vG⟩,En⟩;obtain⟨s8,p8,n8,c8,t8,y8,m8,d8,rfl⟩:=q8.form;refine⟨_,aa,vG,λvP _ KW=>wV aa ?_⟩;replace q8:=q8.mono (bj hB En);refine aj ?_;have h00:((0:Int):Rat)=0:=aa;have Mt:gF B w8 [.bool s1,.slice p1 n1 c1,.bool t1,.slice y1 m1 d1,.bool s4,.slice p4 n4 c4,.bool t4,.slice y4 m4 d4,.bool s5,.slice p5 n5 c5,.bool t5,.slice y5 m5 d5,.bool s7,.slice p7 n7 c7,.bool t7,.slice y7 m7 d7,.bool s8,.slice p8 n8 c8,.bool t8,.slice y8 m8 d8,.bool s2,.slice p2 n2 c2,.bool t2,.slice y2 m2 d2,.bool s3,.slice p3 n3 c3,.bool t3,.slice y3 m3 d3] (gz S F q e):=⟨[.bool s1,.slice p1 n1 c1,.bool t1,.slice y1 m1 d1],[.bool s4,.slice p4 n4 c4,.bool t4,.slice y4 m4 d4],[.bool s5,.slice p5 n5 c5,.bool t5,.slice y5 m5 d5],[.bool s7,.slice p7 n7 c7,.bool t7,.slice y7 m7 d7],[.bool s8,.slice p8 n8 c8,.bool t8,.slice y8 m8 d8],[.bool s2,.slice p2 n2 c2,.bool t2,.slice y2 m2 d2],[.bool s3,.slice p3 n3 c3,.bool t3,.slice y3 m3 d3],aa,⟨_,_,_,_,_,_,_,_,aa,q1.k⟩,⟨_,_,_,_,_,_,_,_,aa,q4.k⟩,⟨_,_,_,_,_,_,_,_,aa,q5.k⟩,⟨_,_,_,_,_,_,_,_,aa,q7.k⟩,⟨_,_,_,_,_,_,_,_,aa,q8.k⟩,⟨_,_,_,_,_,_,_,_,aa,q2.k⟩,⟨_,_,_,_,_,_,_,_,aa,q3.k⟩⟩;obtain⟨nA,nC⟩:=hR.el.ok (aL B);have uy:=hR.len
  refine VO.app (cP _ _) (t:=33) (e:=fX) (sz:=28) (n:=nr) (c:=cr) (mm:=1) (known:=pA.flatten.map .val) (spare:=tc.map .val) (del:=some 200) (news:=([.bool s1,.slice p1 n1 c1,.bool t1,.slice y1 m1 d1,.bool s4,.slice p4 n4 c4,.bool t4,.slice y4 m4 d4,.bool s5,.slice p5 n5 c5,.bool t5,.slice y5 m5 d5,.bool s7,.slice p7 n7 c7,.bool t7,.slice y7 m7 d7,.bool s8,.slice p8 n8 c8,.bool t8,.slice y8 m8 d8,.bool s2,.slice p2 n2 c2,.bool t2,.slice y2 m2 d2,.bool s3,.slice p3 n3 c3,.bool t3,.slice y3 m3 d3]:List Value).map .val) (dst:=52) aa aa aa aa aa aa aa aa (bM aa) aa (.inr ⟨200,aa,au (λl=>some (fX,l)) (bC ..),aa⟩) (.inl aa) (by rw[bu,nC,uy]) (by rw[<-bC,bu];exact hR.fl) hR.le hR.cm ⟨aw _,aw _,aa⟩ ⟨bP nA,bP hR.so,aa⟩ aa ab
   (λw1 β k1 b1 ho=>⟨_,_,rfl,.inr ⟨β 51,0,rfl,eH (rest:=[]) (ho.own 51 (.base (iY _ (aJ.2 rfl))) _ _ rfl) rfl⟩⟩)
   (λvI jr qy ρ Vo Vp iI ll kC fT Mu nt=>VO.fi 199 rfl (ee (aw _) _ _) (wV rfl ?_))
  (repeat (first|refine wN ?_|refine wP aa ?_|refine KL aa ?_|refine wO aa aa ?_))
  obtain⟨wk,Bu⟩:∃ wk,wk=nr+1:=⟨_,aa⟩;obtain⟨zL,Bv⟩:∃ zL,zL=(pA++[[.bool s1,.slice p1 n1 c1,.bool t1,.slice y1 m1 d1,.bool s4,.slice p4 n4 c4,.bool t4,.slice y4 m4 d4,.bool s5,.slice p5 n5 c5,.bool t5,.slice y5 m5 d5,.bool s7,.slice p7 n7 c7,.bool t7,.slice y7 m7 d7,.bool s8,.slice p8 n8 c8,.bool t8,.slice y8 m8 d8,.bool s2,.slice p2 n2 c2,.bool t2,.slice y2 m2 d2,.bool s3,.slice p3 n3 c3,.bool t3,.slice y3 m3 d3]]:List (List Value)):=⟨_,aa⟩;have iW:vW (gF B) 28 vI wk jr zL qy (rows++[gz S F q e]):=by rw[Bu,Bv];exact⟨by rw[uy,bB];rfl,(hR.el.kp (aL B) bm).snoc ((aL B).kp Mt bm),Mu,nt,ll,kC,by simpa using fT⟩
  refine VS.narrow [(0,.box 198 0),(2,.val (.int .i64 ((rows:List bh).length:Int))),(5,.box 5 0),(8,.box 8 0)] [(198,(Runner,[.row 199 off1 nq1 cq1,.row 52 0 wk jr,.val (.slice none 0 0)])),(52,(fX,zL.flatten.map AV.val++qy)),(5,(28,([.bool sS,.slice pS nS cS,.bool tS,.slice yS mS dS,.bool sF,.slice pF nF cF,.bool tF,.slice yF mF dF,.int .i64 (keep:Int)]:List Value).map AV.val)),(8,(fX,([.bool s1,.slice p1 n1 c1,.bool t1,.slice y1 m1 d1,.bool s4,.slice p4 n4 c4,.bool t4,.slice y4 m4 d4,.bool s5,.slice p5 n5 c5,.bool t5,.slice y5 m5 d5,.bool s7,.slice p7 n7 c7,.bool t7,.slice y7 m7 d7,.bool s8,.slice p8 n8 c8,.bool t8,.slice y8 m8 d8,.bool s2,.slice p2 n2 c2,.bool t2,.slice y2 m2 d2,.bool s3,.slice p3 n3 c3,.bool t3,.slice y3 m3 d3]:List Value).map AV.val)),(199,(ff,(pre1++(vsq1.flatten++spq1)).map AV.val))] ⟨aa,aa,aa,aa,ag⟩ ⟨by rw[Bu];rfl,by rw[Bv];exact au (λl=>some (fX,l++qy)) bN,aa,aa,aa,ag⟩ aa ⟨.lit aa,.append (.vals _) (.none nt),.vals _,.vals _,.vals _,ag⟩ ?_;refine VS.draw (cP _ _) (qu _ _) [1000000+74] (by kernel_rfl) (VO.run 80 aa ?_);have hnq1:nq1<=1000:=by rw[hV1.len];have:=(Iq rows.length q (aH S F e.2-ai e.1 (aH S F e.2))).2;omega
  refine VO.Ii (B:=B) (v:=199) (d2:=62) (d:=e.1-ai e.1 (aH S F e.2)) (q:=sw q (aH S F e.2-ai e.1 (aH S F e.2))) kk aa aa aa (fk Gl) aa aa aa (by show 62<2*99;omega) bq (λj hj=> ?_) aa (λxM Tg Vu=>hV1.kp (bt B) bm) (λxM Tg Vu=>q5.kr) (hK _ g4 cY cY) KR hnq1 hB (λJt jK nz vZ rG Vv Vw ρ19 k19 b19 jR=> ?_)
  ·have:j=52:=by simpa [aI,AV.eu] using hj
   subst this;exact⟨(by intro h;cases h),bq⟩
  obtain⟨q2,Bw⟩:∃ q2:List Vq,q2=rF rows.length (e.1-ai e.1 (aH S F e.2)) (sw q (aH S F e.2-ai e.1 (aH S F e.2))):=⟨_,aa⟩;rw[<-Bw] at jR;have Fv:=Bw.symm;refine VO.fi 52 aa (ee (by rw[ey,aw,nt];rfl) _ _) (wV aa ?_);refine aj ?_;by_cases sY:nz=0
  ·refine VO.fE (x:=.row 62 jK nz vZ) (p:=λ_=>none) (c:=vZ) aa (λβ=>.inr ⟨_,au (λn=>Value.slice (some ⟨β 62,jK,none⟩) n vZ) sY⟩) aa (fk gO) aa (λLc k20 b20=>wV aa ?_);refine aj ?_;have Mv:q2=[]:=js (by rw[<-jR.len];exact sY);have yt:fR S F keep (rows:List bh).length ⟨q,rows,[]⟩ e=⟨q2,rows++[gz S F q e],[]⟩:=by rw[tY,Fv,sW,Mv];rfl
   refine aj ?_;refine VS.rE (cP _ _) aa (λwz β kz oz en=> ?_);obtain⟨o1,o2⟩:=iy (en.own 198 _ _ aa) 0 g aa aa;have oR:=(en.own 52 _ _ aa).cls;rw[bC,ak] at oR;have nR:=jz hB ia (show eK 99 [g,vb,rb] w 52 (β 52) from (en.own 52 _ _ aa).new);have oV:=(en.own 62 _ _ aa).cls;rw[ak] at oV;have nV:=jz hB ia (show eK 99 [g,vb,rb] w 62 (β 62) from (en.own 62 _ _ aa).new);rw[yt];refine⟨aa,oz.1,[g,β 62,β 52],⟨λb hb=> ?_,_,_,_,o2,?_⟩⟩
   ·simp only[List.mem_cons,List.not_mem_nil,or_false] at hb;rcases hb with rfl|rfl|rfl
    ·exact DT
    ·exact nV
    ·exact nR
   ·exact .inr (.inr (.inl ⟨β 62,β 52,aa,aa,aa,⟨_,_,_,_,_,_,aa,oV,jR.kp (bt B) bm⟩,⟨_,_,_,_,aa,oR,(iW.kp (aL B) bm).o β⟩⟩))
  obtain⟨pp,qt,Dw⟩:∃ pp qt,q2=pp::qt:=by
   cases q2 with
   | nil=>exact absurd jR.len sY
   | cons pp qt=>exact⟨pp,qt,aa⟩
  subst Dw
  obtain⟨Mw,FV,rfl,hE4,Bx⟩:∃ Mw FV,Vv=Mw::FV/\eV B Jt Mw pp/\cd (eV B) Jt qt FV:=by
   have:=jR.el;cases this with
   | cons h1 h2=>exact⟨_,_,aa,h1,h2⟩
  obtain⟨s9,p9,n9,c9,t9,y9,m9,d9,rfl,XA⟩:=hE4;have Mx:=jR.le;have My:=jR.len;have Mz:=jR.cm;have qj:rG.length=jK:=jR.pl.resolve_right ab;refine VO.eW aa aa (fk gO) aa sY (by intro h;cases h) (λLc k20 b20=>wV aa ?_);refine aj ?_;refine VO.dY aa (([.int .i64 (pp.1:Int)]:List Value).map .val) aa (cL qj 0 _ ⟨_,aa⟩) (wV aa ?_);refine aj ?_;have Vx:IntKind.i64.wrap (((rows:List bh).length:Int)-(keep:Int))=((rows:List bh).length:Int)-(keep:Int):=cV _ ab;by_cases hx:pp.1+keep=(rows:List bh).length
  ·refine VS.aV aa (by rw[Vx,beq_iff_eq];omega) ?_;refine aj ?_;refine VO.dY aa (([.int .i64 (pp.1:Int)]:List Value).map .val) aa (cL qj 0 _ ⟨_,aa⟩) (wV aa ?_);refine aj ?_;refine VO.dY aa (([.bool s9,.slice p9 n9 c9,.bool t9,.slice y9 m9 d9]:List Value).map .val) aa (cL qj 1 _ ⟨[],aa⟩) (wV aa ?_);refine aj ?_;have jA:=iW.len;have KE:pp.1<wk:=by rw[jA,bB,wm];omega
   refine VO.cond aa dQ (wV aa ?_);obtain⟨rq,Ld⟩:∃ rq,(rows++[gz S F q e])[pp.1]? =some rq:=⟨_,ba (by rw[<-jA];exact KE)⟩;obtain⟨CE,sX,vL⟩:=iW.el.at pp.1 rq Ld;have lS:=iW.fl;have XB:=iW.le;refine VO.cond aa (by show 0+((pp.1:Int)).toNat*28+20+4<=_;rw[lS,dC];omega) (VO.fi 52 aa (oW (new:=[.bool s9,.slice p9 n9 c9,.bool t9,.slice y9 m9 d9]) (o:=20) (iW.el.lens (aL B)) sX (bM aa)) (wV aa ?_));refine aj ?_
   have hR3:vW (gF B) 28 Lc wk jr (zL.set pp.1 (CE.take 20++([.bool s9,.slice p9 n9 c9,.bool t9,.slice y9 m9 d9]++CE.drop (20+([.bool s9,.slice p9 n9 c9,.bool t9,.slice y9 m9 d9]:List Value).length)))) qy ((rows++[gz S F q e]).modify pp.1 (λr=>{ r with aq:=pp.2 })):=
    ⟨by rw[oy];exact jA,by rw[gj Ld];exact (iW.el.kp (aL B) bm).set (xz ((aL B).kp vL bm) ⟨_,_,_,_,_,_,_,_,aa,XA.kp bm⟩),iW.so,iW.sl,iW.le,iW.cm,by
     rw[bB,bu,fb (qY (iW.el.lens (aL B)) (Bs ((aL B).len vL) rfl)),pM];rw[bB,bu,fb (iW.el.lens (aL B))] at lS;exact lS⟩
   refine VO.np aa aa (fk yJ) aa ab Mx Mz (λj hj=> ?_) (bM aa) (λRv k21 b21=>wV aa ?_)
   ·simp only[aI,AV.eu,List.flatMap_cons,List.flatMap_nil,List.mem_append,List.mem_cons,List.not_mem_nil,or_false,List.append_nil] at hj;rcases hj with rfl|rfl <;> (intro h;cases h)
   refine aj ?_;have hV4:fm (eV B) 5 Rv (nz-1) (if vZ=1 then jK else jK+5) (vZ -1) (rG++[.int .i64 (pp.1:Int),.bool s9,.slice p9 n9 c9,.bool t9,.slice y9 m9 d9]) FV Vw qt:=⟨by rw[My];rfl,uV qj,by rw[ja,jR.po];rfl,Bx.kp (bt B) bm,jR.so,ab,ab,uW jR.fl⟩
   have yt:fR S F keep (rows:List bh).length ⟨q,rows,[]⟩ e=⟨qt,(rows++[gz S F q e]).modify pp.1 (λr=>{ r with aq:=pp.2 }),[]⟩:=by
    rw[tY,Fv,sW];exact if_pos hx
   refine aj ?_;refine VS.rE (cP _ _) aa (λwz β kz oz en=> ?_);obtain⟨o1,o2⟩:=iy (en.own 198 _ _ aa) 0 g aa aa;have oR:=(en.own 52 _ _ aa).cls;rw[bC,ak] at oR;have nR:=jz hB ia (show eK 99 [g,vb,rb] w 52 (β 52) from (en.own 52 _ _ aa).new);have oV:=(en.own 62 _ _ aa).cls;rw[gM,ak] at oV;have nV:=jz hB ia (show eK 99 [g,vb,rb] w 62 (β 62) from (en.own 62 _ _ aa).new);rw[yt];refine⟨aa,oz.1,[g,β 62,β 52],⟨λb hb=> ?_,_,_,_,o2,?_⟩⟩
   ·simp only[List.mem_cons,List.not_mem_nil,or_false] at hb;rcases hb with rfl|rfl|rfl
    ·exact DT
    ·exact nV
    ·exact nR
   ·exact .inr (.inr (.inl ⟨β 62,β 52,aa,aa,aa,⟨_,_,_,_,_,_,aa,oV,hV4.kp (bt B) bm⟩,⟨_,_,_,_,aa,oR,(hR3.kp (aL B) bm).o β⟩⟩))
  ·refine VS.aP aa (by rw[Vx,iZ];omega) ?_
   have yt:fR S F keep (rows:List bh).length ⟨q,rows,[]⟩ e=⟨pp::qt,rows++[gz S F q e],[]⟩:=by
    rw[tY,Fv,sW];exact if_neg hx
   refine aj ?_;refine VS.rE (cP _ _) aa (λwz β kz oz en=> ?_);obtain⟨o1,o2⟩:=iy (en.own 198 _ _ aa) 0 g aa aa;have oR:=(en.own 52 _ _ aa).cls;rw[bC,ak] at oR;have nR:=jz hB ia (show eK 99 [g,vb,rb] w 52 (β 52) from (en.own 52 _ _ aa).new);have oV:=(en.own 62 _ _ aa).cls;rw[ak] at oV;have nV:=jz hB ia (show eK 99 [g,vb,rb] w 62 (β 62) from (en.own 62 _ _ aa).new);rw[yt];refine⟨aa,oz.1,[g,β 62,β 52],⟨λb hb=> ?_,_,_,_,o2,?_⟩⟩
   ·simp only[List.mem_cons,List.not_mem_nil,or_false] at hb;rcases hb with rfl|rfl|rfl
    ·exact DT
    ·exact nV
    ·exact nR
   ·exact .inr (.inr (.inl ⟨β 62,β 52,aa,aa,aa,⟨_,_,_,_,_,_,aa,oV,jR.kp (bt B) bm⟩,⟨_,_,_,_,aa,oR,(iW.kp (aL B) bm).o β⟩⟩))
 ·obtain⟨s7,p7,n7,c7,t7,y7,m7,d7,rfl⟩:=q7.form;refine wV aa ?_;refine aj ?_;obtain⟨YC,Pb⟩:∃ YC,YC=wj rows.length q (aH S F e.2-ai e.1 (aH S F e.2)):=⟨_,aa⟩;rw[<-Pb] at hU1;have sW:([]:List Uq)++wj rows.length q (aH S F e.2-ai e.1 (aH S F e.2))=YC:=Pb.symm;have Jb:=hU1;obtain⟨u1,u2,u3⟩:=CD (q:=q) (m:=aH S F e.2-ai e.1 (aH S F e.2)) (λp hp=>⟨(FU.el p hp).1,(FU.el p hp).2.1⟩) g7 g8;refine VO.call aa aa (fk tk) (λpV yn ru=>((gi _ _ (ai e.1 (aH S F e.2)) (zV q (aH S F e.2-ai e.1 (aH S F e.2))) kk kk pV (q4.ki (hK _ g1 cY cY)) (q7.ki (hK _ u1 cY cY)) ab ab).mono (λo w2 h=>And.intro h ru.1.size)).mono ?_);rintro o w8 ⟨⟨r8,rfl,q8,vG⟩,En⟩;obtain⟨s8,p8,n8,c8,t8,y8,m8,d8,rfl⟩:=q8.form;refine⟨_,aa,vG,λvP _ KW=>wV aa ?_⟩;replace q8:=q8.mono (bj hB En);refine aj ?_;have h00:((0:Int):Rat)=0:=aa;have Mt:gF B w8 [.bool s1,.slice p1 n1 c1,.bool t1,.slice y1 m1 d1,.bool s4,.slice p4 n4 c4,.bool t4,.slice y4 m4 d4,.bool s5,.slice p5 n5 c5,.bool t5,.slice y5 m5 d5,.bool s7,.slice p7 n7 c7,.bool t7,.slice y7 m7 d7,.bool s8,.slice p8 n8 c8,.bool t8,.slice y8 m8 d8,.bool s2,.slice p2 n2 c2,.bool t2,.slice y2 m2 d2,.bool s3,.slice p3 n3 c3,.bool t3,.slice y3 m3 d3] (gz S F q e):=⟨[.bool s1,.slice p1 n1 c1,.bool t1,.slice y1 m1 d1],[.bool s4,.slice p4 n4 c4,.bool t4,.slice y4 m4 d4],[.bool s5,.slice p5 n5 c5,.bool t5,.slice y5 m5 d5],[.bool s7,.slice p7 n7 c7,.bool t7,.slice y7 m7 d7],[.bool s8,.slice p8 n8 c8,.bool t8,.slice y8 m8 d8],[.bool s2,.slice p2 n2 c2,.bool t2,.slice y2 m2 d2],[.bool s3,.slice p3 n3 c3,.bool t3,.slice y3 m3 d3],aa,⟨_,_,_,_,_,_,_,_,aa,q1.k⟩,⟨_,_,_,_,_,_,_,_,aa,q4.k⟩,⟨_,_,_,_,_,_,_,_,aa,q5.k⟩,⟨_,_,_,_,_,_,_,_,aa,q7.k⟩,⟨_,_,_,_,_,_,_,_,aa,q8.k⟩,⟨_,_,_,_,_,_,_,_,aa,q2.k⟩,⟨_,_,_,_,_,_,_,_,aa,q3.k⟩⟩;obtain⟨nA,nC⟩:=hR.el.ok (aL B);have uy:=hR.len
  refine VO.app (cP _ _) (t:=33) (e:=fX) (sz:=28) (n:=nr) (c:=cr) (mm:=1) (known:=pA.flatten.map .val) (spare:=tc.map .val) (del:=some 200) (news:=([.bool s1,.slice p1 n1 c1,.bool t1,.slice y1 m1 d1,.bool s4,.slice p4 n4 c4,.bool t4,.slice y4 m4 d4,.bool s5,.slice p5 n5 c5,.bool t5,.slice y5 m5 d5,.bool s7,.slice p7 n7 c7,.bool t7,.slice y7 m7 d7,.bool s8,.slice p8 n8 c8,.bool t8,.slice y8 m8 d8,.bool s2,.slice p2 n2 c2,.bool t2,.slice y2 m2 d2,.bool s3,.slice p3 n3 c3,.bool t3,.slice y3 m3 d3]:List Value).map .val) (dst:=52) aa aa aa aa aa aa aa aa (bM aa) aa (.inr ⟨200,aa,au (λl=>some (fX,l)) (bC ..),aa⟩) (.inl aa) (by rw[bu,nC,uy]) (by rw[<-bC,bu];exact hR.fl) hR.le hR.cm ⟨aw _,aw _,aa⟩ ⟨bP nA,bP hR.so,aa⟩ aa ab
   (λw1 β k1 b1 ho=>⟨_,_,rfl,.inr ⟨β 51,0,rfl,eH (rest:=[]) (ho.own 51 (.base (iY _ (aJ.2 rfl))) _ _ rfl) rfl⟩⟩)
   (λvI jr qy ρ Vo Vp iI ll kC fT Mu nt=>VO.fi 199 rfl (ee (aw _) _ _) (VO.fi 36 rfl (ee (aw _) _ _) (wV rfl ?_)))
  (repeat (first|refine wN ?_|refine wP aa ?_|refine KL aa ?_|refine wO aa aa ?_))
  obtain⟨wk,Bu⟩:∃ wk,wk=nr+1:=⟨_,aa⟩;obtain⟨zL,Bv⟩:∃ zL,zL=(pA++[[.bool s1,.slice p1 n1 c1,.bool t1,.slice y1 m1 d1,.bool s4,.slice p4 n4 c4,.bool t4,.slice y4 m4 d4,.bool s5,.slice p5 n5 c5,.bool t5,.slice y5 m5 d5,.bool s7,.slice p7 n7 c7,.bool t7,.slice y7 m7 d7,.bool s8,.slice p8 n8 c8,.bool t8,.slice y8 m8 d8,.bool s2,.slice p2 n2 c2,.bool t2,.slice y2 m2 d2,.bool s3,.slice p3 n3 c3,.bool t3,.slice y3 m3 d3]]:List (List Value)):=⟨_,aa⟩;have iW:vW (gF B) 28 vI wk jr zL qy (rows++[gz S F q e]):=by rw[Bu,Bv];exact⟨by rw[uy,bB];rfl,(hR.el.kp (aL B) bm).snoc ((aL B).kp Mt bm),Mu,nt,ll,kC,by simpa using fT⟩
  refine VS.narrow [(0,.box 198 0),(2,.val (.int .i64 ((rows:List bh).length:Int))),(5,.box 5 0),(8,.box 8 0)] [(198,(Runner,[.row 199 off1 nq1 cq1,.row 52 0 wk jr,.row 36 0 un uc])),(52,(fX,zL.flatten.map AV.val++qy)),(5,(28,([.bool sS,.slice pS nS cS,.bool tS,.slice yS mS dS,.bool sF,.slice pF nF cF,.bool tF,.slice yF mF dF,.int .i64 (keep:Int)]:List Value).map AV.val)),(8,(fX,([.bool s1,.slice p1 n1 c1,.bool t1,.slice y1 m1 d1,.bool s4,.slice p4 n4 c4,.bool t4,.slice y4 m4 d4,.bool s5,.slice p5 n5 c5,.bool t5,.slice y5 m5 d5,.bool s7,.slice p7 n7 c7,.bool t7,.slice y7 m7 d7,.bool s8,.slice p8 n8 c8,.bool t8,.slice y8 m8 d8,.bool s2,.slice p2 n2 c2,.bool t2,.slice y2 m2 d2,.bool s3,.slice p3 n3 c3,.bool t3,.slice y3 m3 d3]:List Value).map AV.val)),(199,(ff,(pre1++(vsq1.flatten++spq1)).map AV.val)),(36,(gL,(vsu1.flatten++spu1).map AV.val))] ⟨aa,aa,aa,aa,ag⟩ ⟨by rw[Bu];rfl,by rw[Bv];exact au (λl=>some (fX,l++qy)) bN,aa,aa,aa,aa,ag⟩ aa ⟨.lit aa,.append (.vals _) (.none nt),.vals _,.vals _,.vals _,.vals _,ag⟩ ?_;refine VS.draw (cP _ _) (qu _ _) [1000000+74] (by kernel_rfl) (VO.run 80 aa ?_);have hnq1:nq1<=1000:=by rw[hV1.len];have:=(Iq rows.length q (aH S F e.2-ai e.1 (aH S F e.2))).2;omega
  refine VO.Ii (B:=B) (v:=199) (d2:=62) (d:=e.1-ai e.1 (aH S F e.2)) (q:=sw q (aH S F e.2-ai e.1 (aH S F e.2))) kk aa aa aa (fk Gl) aa aa aa (by show 62<2*99;omega) bq (λj hj=> ?_) aa (λxM Tg Vu=>hV1.kp (bt B) bm) (λxM Tg Vu=>q5.kr) (hK _ g4 cY cY) KR hnq1 hB (λJt jK nz vZ rG Vv Vw ρ19 k19 b19 jR=> ?_)
  ·have:j=52\/j=36:=by simpa [aI,AV.eu] using hj
   rcases this with rfl|rfl <;> exact⟨(by intro h;cases h),bq⟩
  obtain⟨q2,Bw⟩:∃ q2:List Vq,q2=rF rows.length (e.1-ai e.1 (aH S F e.2)) (sw q (aH S F e.2-ai e.1 (aH S F e.2))):=⟨_,aa⟩;rw[<-Bw] at jR;have Fv:=Bw.symm;refine VO.fi 52 aa (ee (by rw[ey,aw,nt];rfl) _ _) (VO.fi 36 aa (ee (aw _) _ _) (wV aa ?_));refine aj ?_;by_cases sY:nz=0
  ·refine VO.fE (x:=.row 62 jK nz vZ) (p:=λ_=>none) (c:=vZ) aa (λβ=>.inr ⟨_,au (λn=>Value.slice (some ⟨β 62,jK,none⟩) n vZ) sY⟩) aa (fk gO) aa (λLc k20 b20=>wV aa ?_);refine aj ?_;have Mv:q2=[]:=js (by rw[<-jR.len];exact sY);have yt:fR S F keep (rows:List bh).length ⟨q,rows,[]⟩ e=⟨q2,rows++[gz S F q e],YC⟩:=by rw[tY,Fv,sW,Mv];rfl
   refine aj ?_;refine VS.rE (cP _ _) aa (λwz β kz oz en=> ?_);obtain⟨o1,o2⟩:=iy (en.own 198 _ _ aa) 0 g aa aa;have oR:=(en.own 52 _ _ aa).cls;rw[bC,ak] at oR;have nR:=jz hB ia (show eK 99 [g,vb,rb] w 52 (β 52) from (en.own 52 _ _ aa).new);have oV:=(en.own 62 _ _ aa).cls;rw[ak] at oV;have nV:=jz hB ia (show eK 99 [g,vb,rb] w 62 (β 62) from (en.own 62 _ _ aa).new);have oU:=(en.own 36 _ _ aa).cls;rw[ak] at oU;have nU:=jz hB ia (show eK 99 [g,vb,rb] w 36 (β 36) from (en.own 36 _ _ aa).new);rw[yt];refine⟨aa,oz.1,[g,β 62,β 52,β 36],⟨λb hb=> ?_,_,_,_,o2,?_⟩⟩
   ·simp only[List.mem_cons,List.not_mem_nil,or_false] at hb;rcases hb with rfl|rfl|rfl|rfl
    ·exact DT
    ·exact nV
    ·exact nR
    ·exact nU
   ·exact .inr (.inr (.inr ⟨β 62,β 52,β 36,aa,⟨_,_,_,_,_,_,aa,oV,jR.kp (bt B) bm⟩,⟨_,_,_,_,aa,oR,(iW.kp (aL B) bm).o β⟩,⟨_,_,_,_,aa,oU,Jb.kp (fD B) bm⟩⟩))
  obtain⟨pp,qt,Dw⟩:∃ pp qt,q2=pp::qt:=by
   cases q2 with
   | nil=>exact absurd jR.len sY
   | cons pp qt=>exact⟨pp,qt,aa⟩
  subst Dw
  obtain⟨Mw,FV,rfl,hE4,Bx⟩:∃ Mw FV,Vv=Mw::FV/\eV B Jt Mw pp/\cd (eV B) Jt qt FV:=by
   have:=jR.el;cases this with
   | cons h1 h2=>exact⟨_,_,aa,h1,h2⟩
  obtain⟨s9,p9,n9,c9,t9,y9,m9,d9,rfl,XA⟩:=hE4;have Mx:=jR.le;have My:=jR.len;have Mz:=jR.cm;have qj:rG.length=jK:=jR.pl.resolve_right ab;refine VO.eW aa aa (fk gO) aa sY (by intro h;cases h) (λLc k20 b20=>wV aa ?_);refine aj ?_;refine VO.dY aa (([.int .i64 (pp.1:Int)]:List Value).map .val) aa (cL qj 0 _ ⟨_,aa⟩) (wV aa ?_);refine aj ?_;have Vx:IntKind.i64.wrap (((rows:List bh).length:Int)-(keep:Int))=((rows:List bh).length:Int)-(keep:Int):=cV _ ab;by_cases hx:pp.1+keep=(rows:List bh).length
  ·refine VS.aV aa (by rw[Vx,beq_iff_eq];omega) ?_;refine aj ?_;refine VO.dY aa (([.int .i64 (pp.1:Int)]:List Value).map .val) aa (cL qj 0 _ ⟨_,aa⟩) (wV aa ?_);refine aj ?_;refine VO.dY aa (([.bool s9,.slice p9 n9 c9,.bool t9,.slice y9 m9 d9]:List Value).map .val) aa (cL qj 1 _ ⟨[],aa⟩) (wV aa ?_);refine aj ?_;have jA:=iW.len;have KE:pp.1<wk:=by rw[jA,bB,wm];omega
   refine VO.cond aa dQ (wV aa ?_);obtain⟨rq,Ld⟩:∃ rq,(rows++[gz S F q e])[pp.1]? =some rq:=⟨_,ba (by rw[<-jA];exact KE)⟩;obtain⟨CE,sX,vL⟩:=iW.el.at pp.1 rq Ld;have lS:=iW.fl;have XB:=iW.le;refine VO.cond aa (by show 0+((pp.1:Int)).toNat*28+20+4<=_;rw[lS,dC];omega) (VO.fi 52 aa (oW (new:=[.bool s9,.slice p9 n9 c9,.bool t9,.slice y9 m9 d9]) (o:=20) (iW.el.lens (aL B)) sX (bM aa)) (wV aa ?_));refine aj ?_
   have hR3:vW (gF B) 28 Lc wk jr (zL.set pp.1 (CE.take 20++([.bool s9,.slice p9 n9 c9,.bool t9,.slice y9 m9 d9]++CE.drop (20+([.bool s9,.slice p9 n9 c9,.bool t9,.slice y9 m9 d9]:List Value).length)))) qy ((rows++[gz S F q e]).modify pp.1 (λr=>{ r with aq:=pp.2 })):=
    ⟨by rw[oy];exact jA,by rw[gj Ld];exact (iW.el.kp (aL B) bm).set (xz ((aL B).kp vL bm) ⟨_,_,_,_,_,_,_,_,aa,XA.kp bm⟩),iW.so,iW.sl,iW.le,iW.cm,by
     rw[bB,bu,fb (qY (iW.el.lens (aL B)) (Bs ((aL B).len vL) rfl)),pM];rw[bB,bu,fb (iW.el.lens (aL B))] at lS;exact lS⟩
   refine VO.np aa aa (fk yJ) aa ab Mx Mz (λj hj=> ?_) (bM aa) (λRv k21 b21=>wV aa ?_)
   ·simp only[aI,AV.eu,List.flatMap_cons,List.flatMap_nil,List.mem_append,List.mem_cons,List.not_mem_nil,or_false,List.append_nil] at hj;rcases hj with rfl|rfl|rfl <;> (intro h;cases h)
   refine aj ?_;have hV4:fm (eV B) 5 Rv (nz-1) (if vZ=1 then jK else jK+5) (vZ -1) (rG++[.int .i64 (pp.1:Int),.bool s9,.slice p9 n9 c9,.bool t9,.slice y9 m9 d9]) FV Vw qt:=⟨by rw[My];rfl,uV qj,by rw[ja,jR.po];rfl,Bx.kp (bt B) bm,jR.so,ab,ab,uW jR.fl⟩
   have yt:fR S F keep (rows:List bh).length ⟨q,rows,[]⟩ e=⟨qt,(rows++[gz S F q e]).modify pp.1 (λr=>{ r with aq:=pp.2 }),YC⟩:=by
    rw[tY,Fv,sW];exact if_pos hx
   refine aj ?_;refine VS.rE (cP _ _) aa (λwz β kz oz en=> ?_);obtain⟨o1,o2⟩:=iy (en.own 198 _ _ aa) 0 g aa aa;have oR:=(en.own 52 _ _ aa).cls;rw[bC,ak] at oR;have nR:=jz hB ia (show eK 99 [g,vb,rb] w 52 (β 52) from (en.own 52 _ _ aa).new);have oV:=(en.own 62 _ _ aa).cls;rw[gM,ak] at oV;have nV:=jz hB ia (show eK 99 [g,vb,rb] w 62 (β 62) from (en.own 62 _ _ aa).new);have oU:=(en.own 36 _ _ aa).cls;rw[ak] at oU;have nU:=jz hB ia (show eK 99 [g,vb,rb] w 36 (β 36) from (en.own 36 _ _ aa).new);rw[yt];refine⟨aa,oz.1,[g,β 62,β 52,β 36],⟨λb hb=> ?_,_,_,_,o2,?_⟩⟩
   ·simp only[List.mem_cons,List.not_mem_nil,or_false] at hb;rcases hb with rfl|rfl|rfl|rfl
    ·exact DT
    ·exact nV
    ·exact nR
    ·exact nU
   ·exact .inr (.inr (.inr ⟨β 62,β 52,β 36,aa,⟨_,_,_,_,_,_,aa,oV,hV4.kp (bt B) bm⟩,⟨_,_,_,_,aa,oR,(hR3.kp (aL B) bm).o β⟩,⟨_,_,_,_,aa,oU,Jb.kp (fD B) bm⟩⟩))
  ·refine VS.aP aa (by rw[Vx,iZ];omega) ?_
   have yt:fR S F keep (rows:List bh).length ⟨q,rows,[]⟩ e=⟨pp::qt,rows++[gz S F q e],YC⟩:=by
    rw[tY,Fv,sW];exact if_neg hx
   refine aj ?_;refine VS.rE (cP _ _) aa (λwz β kz oz en=> ?_);obtain⟨o1,o2⟩:=iy (en.own 198 _ _ aa) 0 g aa aa;have oR:=(en.own 52 _ _ aa).cls;rw[bC,ak] at oR;have nR:=jz hB ia (show eK 99 [g,vb,rb] w 52 (β 52) from (en.own 52 _ _ aa).new);have oV:=(en.own 62 _ _ aa).cls;rw[ak] at oV;have nV:=jz hB ia (show eK 99 [g,vb,rb] w 62 (β 62) from (en.own 62 _ _ aa).new);have oU:=(en.own 36 _ _ aa).cls;rw[ak] at oU;have nU:=jz hB ia (show eK 99 [g,vb,rb] w 36 (β 36) from (en.own 36 _ _ aa).new);rw[yt];refine⟨aa,oz.1,[g,β 62,β 52,β 36],⟨λb hb=> ?_,_,_,_,o2,?_⟩⟩
   ·simp only[List.mem_cons,List.not_mem_nil,or_false] at hb;rcases hb with rfl|rfl|rfl|rfl
    ·exact DT
    ·exact nV
    ·exact nR
    ·exact nU
   ·exact .inr (.inr (.inr ⟨β 62,β 52,β 36,aa,⟨_,_,_,_,_,_,aa,oV,jR.kp (bt B) bm⟩,⟨_,_,_,_,aa,oR,(iW.kp (aL B) bm).o β⟩,⟨_,_,_,_,aa,oU,Jb.kp (fD B) bm⟩⟩))
set_option maxRecDepth 4000
set_option maxRecDepth 4000 in
theorem iYear_D {keep:Nat} {ub nu cu:Nat} {CF:List (List Value)} {DU:List Value} {q:List Vq} {rows:List bh} {uses:List Uq} {v:Value} (hg:bO w g Runner #[.slice (some ⟨vb,off,none⟩) nq cq,.slice (some ⟨rb,0,none⟩) nr cr,.slice (some ⟨ub,0,none⟩) nu cu]) (NC:bO w vb ff (pre++(vsq.flatten++spq)).toArray) (hV:fm (eV B) 5 w nq off cq pre vsq spq q) (Le:bO w rb fX (pA.flatten++tc).toArray) (hR:fm (gF B) 28 w nr 0 cr [] pA tc rows) (hcU:bO w ub gL (CF.flatten++DU).toArray) (hU:fm (vU B) 6 w nu 0 cu [] CF DU uses)
  (Em:Td w v S F keep ks) (YA:YrV w u e ks) (Bt:1<=ks) (Js:ks<=kk) (KR:kk<=100000) (FR:Iz D (aH S F e.2)) (zK:aH S F e.2<=M) (YB:Iz D e.1) (my: -M<=e.1) (NB:e.1<=M) (hK:∀ x,Iz D x->-(M+M)<=x->x<=M+M->fI x kk)
  (FU:Ir D M ⟨q,rows,uses⟩) (DR:(rows:List bh).length<=64) (yZ:keep<=40) (hB:B<=w.heap.size) (ia:∀ b∈[g,vb,rb,ub],B<=b):
  Calls Tryz.prog 39 #[.pointer (some ⟨g,0,none⟩),v,.int .i64 ((rows:List bh).length:Int),u] w λo w'=>o=.returned (lN [])/\wi [g,vb,rb,ub] w w'/\∃ ad',vK B w' g ad' (fR S F keep (rows:List bh).length ⟨q,rows,uses⟩ e):=by
 have hL0:=oq S F e.2;have hM0:0<=M:=cY;obtain⟨g1,g2,g3,g4,g5,g6,g7,g8,g9⟩:=sD FR hL0 zK YB my NB;have DT:B<=g:=ia g bN;have hlen:=FU.len;obtain⟨sS,pS,nS,cS,tS,yS,mS,dS,sF,pF,nF,cF,tF,yF,mF,dF,rfl,hS,hF⟩:=Em;obtain⟨sN,pN,nN,cN,tN,yN,mN,dN,sE,pE,nE,cE,tE,yE,mE,dE,rfl,hN,hE⟩:=YA;have pI:q.length<=1000:=by dsimp only at hlen;omega
 have Mr:uses.length<=1000:=by dsimp only at hlen;omega
 have xw:nd (KU UU) 99 [g,vb,rb,ub] [(Runner,[.row 199 off nq cq,.row 200 0 nr cr,.row 201 0 nu cu]),(ff,(pre++(vsq.flatten++spq)).map .val),(fX,(pA.flatten++tc).map .val),(gL,(CF.flatten++DU).map .val)] w:=by
  have Th:g≠vb:=λe=>by subst e;exact absurd (cK hg NC) bq
  have h02:g≠rb:=λe=>by subst e;exact absurd (cK hg Le) bq
  have h03:g≠ub:=λe=>by subst e;exact absurd (cK hg hcU) bq
  have Jn:vb≠rb:=λe=>by subst e;exact absurd (cK NC Le) bq
  have h13:vb≠ub:=λe=>by subst e;exact absurd (cK NC hcU) bq
  have h23:rb≠ub:=λe=>by subst e;exact absurd (cK Le hcU) bq
  refine⟨aa,by simp[Th,h02,h03,Jn,h13,h23],λj g' c' hj hc=> ?_,λc' hc=> ?_,λc' hc k hk=> ?_⟩
  ·match j,hj,hc with
   | 0,hj,hc=>cases hj;cases hc;exact hg
   | 1,hj,hc=>cases hj;cases hc;rw[ak];exact NC
   | 2,hj,hc=>cases hj;cases hc;rw[ak];exact Le
   | 3,hj,hc=>cases hj;cases hc;rw[ak];exact hcU
   | j+4,hj,_=>simp at hj
  ·simp only[List.mem_cons,List.not_mem_nil,or_false] at hc;rcases hc with rfl|rfl|rfl|rfl
   ·exact⟨aa,aa⟩
   ·exact⟨aa,bP (hV.all (bt B))⟩
   ·exact⟨aa,bP (hR.all (aL B))⟩
   ·exact⟨aa,bP (hU.all (fD B))⟩
  ·simp only[List.mem_cons,List.not_mem_nil,or_false] at hc;rcases hc with rfl|rfl|rfl|rfl
   ·have:k=199\/k=200\/k=201:=by simpa [aI,AV.eu] using hk
    rcases this with rfl|rfl|rfl
    ·exact⟨ab,by show 199<2*99+4;omega⟩
    ·exact⟨ab,by show 200<2*99+4;omega⟩
    ·exact⟨ab,by show 201<2*99+4;omega⟩
   ·rw[aw] at hk;cases hk
   ·rw[aw] at hk;cases hk
   ·rw[aw] at hk;cases hk
 refine iw Tryz.prog w _ (KU UU) (λt=>Nat.beq t 22) table (λ_ _=>trivial) (ad:=[g,vb,rb,ub]) (us:=[_,_,_]) Tryz.func39 aa Tryz.ntmps39 (bM aa) xw (bM aa) ?_;refine aj ?_;refine VO.call aa aa (fk Tryz.func70) (λbn cG bo=>((uX _ _ S F keep e ks bn ⟨_,_,_,_,_,_,_,_,_,_,_,_,_,_,_,_,aa,hS.k,hF.k⟩ ⟨_,_,_,_,_,_,_,_,_,_,_,_,_,_,_,_,aa,hN.k,hE.k⟩ Bt ab).mono (λo w2 h=>And.intro h bo.1.size)).mono ?_);rintro o w1 ⟨⟨r1,rfl,q1,bA⟩,Te⟩;obtain⟨s1,p1,n1,c1,t1,y1,m1,d1,rfl⟩:=q1.form;refine⟨_,aa,bA,λeF _ bb1=>wV aa ?_⟩;replace q1:=q1.mono (bj hB Te);refine aj ?_;refine VO.call aa aa (fk nK) (λcz dB cT=>((dz 0 cz ab ab).mono (λo w2 h=>And.intro h cT.1.size)).mono ?_);rintro o w2 ⟨⟨r2,rfl,q2,cC⟩,zI⟩;obtain⟨s2,p2,n2,c2,t2,y2,m2,d2,rfl⟩:=q2.form;refine⟨_,aa,cC,λfe _ bb2=>wV aa ?_⟩;replace q2:=q2.mono (bj hB zI);refine aj ?_;refine VO.call aa aa (fk nK) (λeP fA ft=>((dz 0 eP ab ab).mono (λo w2 h=>And.intro h ft.1.size)).mono ?_);rintro o w3 ⟨⟨r3,rfl,q3,dZ⟩,Iu⟩;obtain⟨s3,p3,n3,c3,t3,y3,m3,d3,rfl⟩:=q3.form;refine⟨_,aa,dZ,λjm _ bb3=>wV aa ?_⟩;replace q3:=q3.mono (bj hB Iu);refine aj ?_;refine VO.eB aa (fk Ah) (λfW β iJ iB ho=>((kg _ _ e.1 [aH S F e.2] kk fW ((hN.k).up ab) (et (ho.own 20 (.base (aJ.2 aa)) _ _ aa) [] (vs:=[[.bool s1,.slice p1 n1 c1,.bool t1,.slice y1 m1 d1]]) (by rfl) aa (bV.cons (q1.ki (hK _ FR cY cY)) bV.nil) (bM aa) bq) ab (bM aa)).mono (λo w2 h=>And.intro h iB.1.size)).mono ?_);rintro o w4 ⟨⟨r4,rfl,q4,z4,ic⟩,Qy⟩;rw[gK] at q4;obtain⟨s4,p4,n4,c4,t4,y4,m4,d4,rfl⟩:=q4.form;refine⟨_,aa,ic,λmB _ tI=>wV aa ?_⟩;replace q4:=q4.mono (bj hB Qy);refine aj ?_;refine VO.call aa aa (fk nL) (λfQ iH fV=>((ew _ _ e.1 (ai e.1 (aH S F e.2)) kk kk fQ ((hN.k).up ab) (q4.ki (hK _ g1 cY cY)) ab ab).mono (λo w2 h=>And.intro h fV.1.size)).mono ?_);rintro o w5 ⟨⟨r5,rfl,q5,iz⟩,tX⟩;obtain⟨s5,p5,n5,c5,t5,y5,m5,d5,rfl⟩:=q5.form;refine⟨_,aa,iz,λlg _ sR=>wV aa ?_⟩;replace q5:=q5.mono (bj hB tX);refine aj ?_;refine VO.call aa aa (fk nL) (λfJ iK gE=>((ew _ _ (aH S F e.2) (ai e.1 (aH S F e.2)) kk kk fJ (q1.ki (hK _ FR cY cY)) (q4.ki (hK _ g1 cY cY)) ab ab).mono (λo w2 h=>And.intro h gE.1.size)).mono ?_);rintro o w6 ⟨⟨r6,rfl,q6,ln⟩,Tf⟩;obtain⟨s6,p6,n6,c6,t6,y6,m6,d6,rfl⟩:=q6.form;refine⟨_,aa,ln,λlH _ sj=>wV aa ?_⟩;replace q6:=q6.mono (bj hB Tf);refine aj ?_;have tY:fR S F keep (rows:List bh).length ⟨q,rows,uses⟩ e=Bm keep (rows:List bh).length ⟨rF (rows:List bh).length (e.1-ai e.1 (aH S F e.2)) (sw q (aH S F e.2-ai e.1 (aH S F e.2))),rows++[gz S F q e],uses++wj (rows:List bh).length q (aH S F e.2-ai e.1 (aH S F e.2))⟩:=aa;refine VO.Qx (u:=201) (us0:=uses) (B:=B) (D:=D) (v:=199) (d2:=36) (M:=M+M) (mm:=aH S F e.2-ai e.1 (aH S F e.2)) (q:=q) kk aa aa aa (fk Gm) aa aa aa (λxM Tg Vu=>hU.kp (fD B) bm) Mr bq bq aa (by show 36<2*99;omega) bq aa (λ_=>aa) (λj hj=> ?_) aa (λxM Tg Vu=>hV.kp (bt B) bm) (λxM Tg Vu=>q6.kr) g7 g8 g9 (λp hp=>⟨(FU.el p hp).1,(FU.el p hp).2.1,(FU.el p hp).2.2.1⟩) (λx h1 h2 h3=>hK x h1 cY h3) KR pI hB (λw7 r7 off1 nq1 cq1 pre1 vsq1 spq1 un uc vsu1 spu1 ρ7 k7 b7 q7 hV1 hU1=> ?_)
 ·have:j=200:=by simpa [aI,AV.eu] using hj
  subst this;exact⟨(by intro h;cases h),bq⟩
 obtain⟨s7,p7,n7,c7,t7,y7,m7,d7,rfl⟩:=q7.form;refine VO.fi 200 aa (ee (aw _) _ _) (wV aa ?_);refine aj ?_;obtain⟨YC,Pb⟩:∃ YC,YC=uses++wj rows.length q (aH S F e.2-ai e.1 (aH S F e.2)):=⟨_,aa⟩;rw[<-Pb] at hU1;have sW:=Pb.symm;have Jb:=hU1;obtain⟨u1,u2,u3⟩:=CD (q:=q) (m:=aH S F e.2-ai e.1 (aH S F e.2)) (λp hp=>⟨(FU.el p hp).1,(FU.el p hp).2.1⟩) g7 g8;refine VO.call aa aa (fk tk) (λpV yn ru=>((gi _ _ (ai e.1 (aH S F e.2)) (zV q (aH S F e.2-ai e.1 (aH S F e.2))) kk kk pV (q4.ki (hK _ g1 cY cY)) (q7.ki (hK _ u1 cY cY)) ab ab).mono (λo w2 h=>And.intro h ru.1.size)).mono ?_);rintro o w8 ⟨⟨r8,rfl,q8,vG⟩,En⟩;obtain⟨s8,p8,n8,c8,t8,y8,m8,d8,rfl⟩:=q8.form;refine⟨_,aa,vG,λvP _ KW=>wV aa ?_⟩;replace q8:=q8.mono (bj hB En);refine aj ?_;have h00:((0:Int):Rat)=0:=aa;have Mt:gF B w8 [.bool s1,.slice p1 n1 c1,.bool t1,.slice y1 m1 d1,.bool s4,.slice p4 n4 c4,.bool t4,.slice y4 m4 d4,.bool s5,.slice p5 n5 c5,.bool t5,.slice y5 m5 d5,.bool s7,.slice p7 n7 c7,.bool t7,.slice y7 m7 d7,.bool s8,.slice p8 n8 c8,.bool t8,.slice y8 m8 d8,.bool s2,.slice p2 n2 c2,.bool t2,.slice y2 m2 d2,.bool s3,.slice p3 n3 c3,.bool t3,.slice y3 m3 d3] (gz S F q e):=⟨[.bool s1,.slice p1 n1 c1,.bool t1,.slice y1 m1 d1],[.bool s4,.slice p4 n4 c4,.bool t4,.slice y4 m4 d4],[.bool s5,.slice p5 n5 c5,.bool t5,.slice y5 m5 d5],[.bool s7,.slice p7 n7 c7,.bool t7,.slice y7 m7 d7],[.bool s8,.slice p8 n8 c8,.bool t8,.slice y8 m8 d8],[.bool s2,.slice p2 n2 c2,.bool t2,.slice y2 m2 d2],[.bool s3,.slice p3 n3 c3,.bool t3,.slice y3 m3 d3],aa,⟨_,_,_,_,_,_,_,_,aa,q1.k⟩,⟨_,_,_,_,_,_,_,_,aa,q4.k⟩,⟨_,_,_,_,_,_,_,_,aa,q5.k⟩,⟨_,_,_,_,_,_,_,_,aa,q7.k⟩,⟨_,_,_,_,_,_,_,_,aa,q8.k⟩,⟨_,_,_,_,_,_,_,_,aa,q2.k⟩,⟨_,_,_,_,_,_,_,_,aa,q3.k⟩⟩;obtain⟨nA,nC⟩:=hR.el.ok (aL B);have uy:=hR.len
 refine VO.app (cP _ _) (t:=33) (e:=fX) (sz:=28) (n:=nr) (c:=cr) (mm:=1) (known:=pA.flatten.map .val) (spare:=tc.map .val) (del:=some 200) (news:=([.bool s1,.slice p1 n1 c1,.bool t1,.slice y1 m1 d1,.bool s4,.slice p4 n4 c4,.bool t4,.slice y4 m4 d4,.bool s5,.slice p5 n5 c5,.bool t5,.slice y5 m5 d5,.bool s7,.slice p7 n7 c7,.bool t7,.slice y7 m7 d7,.bool s8,.slice p8 n8 c8,.bool t8,.slice y8 m8 d8,.bool s2,.slice p2 n2 c2,.bool t2,.slice y2 m2 d2,.bool s3,.slice p3 n3 c3,.bool t3,.slice y3 m3 d3]:List Value).map .val) (dst:=52) aa aa aa aa aa aa aa aa (bM aa) aa (.inr ⟨200,aa,au (λl=>some (fX,l)) (bC ..),aa⟩) (.inl aa) (by rw[bu,nC,uy]) (by rw[<-bC,bu];exact hR.fl) hR.le hR.cm ⟨aw _,aw _,aa⟩ ⟨bP nA,bP hR.so,aa⟩ aa ab
  (λw1 β k1 b1 ho=>⟨_,_,rfl,.inr ⟨β 51,0,rfl,eH (rest:=[]) (ho.own 51 (.base (iY _ (aJ.2 rfl))) _ _ rfl) rfl⟩⟩)
  (λvI jr qy ρ Vo Vp iI ll kC fT Mu nt=>VO.fi 199 rfl (ee (aw _) _ _) (VO.fi 36 rfl (ee (aw _) _ _) (wV rfl ?_)))
 (repeat (first|refine wN ?_|refine wP aa ?_|refine KL aa ?_|refine wO aa aa ?_))
 obtain⟨wk,Bu⟩:∃ wk,wk=nr+1:=⟨_,aa⟩;obtain⟨zL,Bv⟩:∃ zL,zL=(pA++[[.bool s1,.slice p1 n1 c1,.bool t1,.slice y1 m1 d1,.bool s4,.slice p4 n4 c4,.bool t4,.slice y4 m4 d4,.bool s5,.slice p5 n5 c5,.bool t5,.slice y5 m5 d5,.bool s7,.slice p7 n7 c7,.bool t7,.slice y7 m7 d7,.bool s8,.slice p8 n8 c8,.bool t8,.slice y8 m8 d8,.bool s2,.slice p2 n2 c2,.bool t2,.slice y2 m2 d2,.bool s3,.slice p3 n3 c3,.bool t3,.slice y3 m3 d3]]:List (List Value)):=⟨_,aa⟩;have iW:vW (gF B) 28 vI wk jr zL qy (rows++[gz S F q e]):=by rw[Bu,Bv];exact⟨by rw[uy,bB];rfl,(hR.el.kp (aL B) bm).snoc ((aL B).kp Mt bm),Mu,nt,ll,kC,by simpa using fT⟩
 refine VS.narrow [(0,.box 198 0),(2,.val (.int .i64 ((rows:List bh).length:Int))),(5,.box 5 0),(8,.box 8 0)] [(198,(Runner,[.row 199 off1 nq1 cq1,.row 52 0 wk jr,.row 36 0 un uc])),(52,(fX,zL.flatten.map AV.val++qy)),(5,(28,([.bool sS,.slice pS nS cS,.bool tS,.slice yS mS dS,.bool sF,.slice pF nF cF,.bool tF,.slice yF mF dF,.int .i64 (keep:Int)]:List Value).map AV.val)),(8,(fX,([.bool s1,.slice p1 n1 c1,.bool t1,.slice y1 m1 d1,.bool s4,.slice p4 n4 c4,.bool t4,.slice y4 m4 d4,.bool s5,.slice p5 n5 c5,.bool t5,.slice y5 m5 d5,.bool s7,.slice p7 n7 c7,.bool t7,.slice y7 m7 d7,.bool s8,.slice p8 n8 c8,.bool t8,.slice y8 m8 d8,.bool s2,.slice p2 n2 c2,.bool t2,.slice y2 m2 d2,.bool s3,.slice p3 n3 c3,.bool t3,.slice y3 m3 d3]:List Value).map AV.val)),(199,(ff,(pre1++(vsq1.flatten++spq1)).map AV.val)),(36,(gL,(vsu1.flatten++spu1).map AV.val))] ⟨aa,aa,aa,aa,ag⟩ ⟨by rw[Bu];rfl,by rw[Bv];exact au (λl=>some (fX,l++qy)) bN,aa,aa,aa,aa,ag⟩ aa ⟨.lit aa,.append (.vals _) (.none nt),.vals _,.vals _,.vals _,.vals _,ag⟩ ?_;refine VS.draw (cP _ _) (qu _ _) [1000000+74] (by kernel_rfl) (VO.run 80 aa ?_);have hnq1:nq1<=1000:=by rw[hV1.len];have:=(Iq rows.length q (aH S F e.2-ai e.1 (aH S F e.2))).2;omega
 refine VO.Ii (B:=B) (v:=199) (d2:=62) (d:=e.1-ai e.1 (aH S F e.2)) (q:=sw q (aH S F e.2-ai e.1 (aH S F e.2))) kk aa aa aa (fk Gl) aa aa aa (by show 62<2*99;omega) bq (λj hj=> ?_) aa (λxM Tg Vu=>hV1.kp (bt B) bm) (λxM Tg Vu=>q5.kr) (hK _ g4 cY cY) KR hnq1 hB (λJt jK nz vZ rG Vv Vw ρ19 k19 b19 jR=> ?_)
 ·have:j=52\/j=36:=by simpa [aI,AV.eu] using hj
  rcases this with rfl|rfl <;> exact⟨(by intro h;cases h),bq⟩
 obtain⟨q2,Bw⟩:∃ q2:List Vq,q2=rF rows.length (e.1-ai e.1 (aH S F e.2)) (sw q (aH S F e.2-ai e.1 (aH S F e.2))):=⟨_,aa⟩;rw[<-Bw] at jR;have Fv:=Bw.symm;refine VO.fi 52 aa (ee (by rw[ey,aw,nt];rfl) _ _) (VO.fi 36 aa (ee (aw _) _ _) (wV aa ?_));refine aj ?_;by_cases sY:nz=0
 ·refine VO.fE (x:=.row 62 jK nz vZ) (p:=λ_=>none) (c:=vZ) aa (λβ=>.inr ⟨_,au (λn=>Value.slice (some ⟨β 62,jK,none⟩) n vZ) sY⟩) aa (fk gO) aa (λLc k20 b20=>wV aa ?_);refine aj ?_;have Mv:q2=[]:=js (by rw[<-jR.len];exact sY);have yt:fR S F keep (rows:List bh).length ⟨q,rows,uses⟩ e=⟨q2,rows++[gz S F q e],YC⟩:=by rw[tY,Fv,sW,Mv];rfl
  refine aj ?_;refine VS.rE (cP _ _) aa (λwz β kz oz en=> ?_);obtain⟨o1,o2⟩:=iy (en.own 198 _ _ aa) 0 g aa aa;have oR:=(en.own 52 _ _ aa).cls;rw[bC,ak] at oR;have nR:=jz hB ia (show eK 99 [g,vb,rb,ub] w 52 (β 52) from (en.own 52 _ _ aa).new);have oV:=(en.own 62 _ _ aa).cls;rw[ak] at oV;have nV:=jz hB ia (show eK 99 [g,vb,rb,ub] w 62 (β 62) from (en.own 62 _ _ aa).new);have oU:=(en.own 36 _ _ aa).cls;rw[ak] at oU;have nU:=jz hB ia (show eK 99 [g,vb,rb,ub] w 36 (β 36) from (en.own 36 _ _ aa).new);rw[yt];refine⟨aa,oz.1,[g,β 62,β 52,β 36],⟨λb hb=> ?_,_,_,_,o2,?_⟩⟩
  ·simp only[List.mem_cons,List.not_mem_nil,or_false] at hb;rcases hb with rfl|rfl|rfl|rfl
   ·exact DT
   ·exact nV
   ·exact nR
   ·exact nU
  ·exact .inr (.inr (.inr ⟨β 62,β 52,β 36,aa,⟨_,_,_,_,_,_,aa,oV,jR.kp (bt B) bm⟩,⟨_,_,_,_,aa,oR,(iW.kp (aL B) bm).o β⟩,⟨_,_,_,_,aa,oU,Jb.kp (fD B) bm⟩⟩))
 obtain⟨pp,qt,Dw⟩:∃ pp qt,q2=pp::qt:=by
  cases q2 with
  | nil=>exact absurd jR.len sY
  | cons pp qt=>exact⟨pp,qt,aa⟩
 subst Dw
 obtain⟨Mw,FV,rfl,hE4,Bx⟩:∃ Mw FV,Vv=Mw::FV/\eV B Jt Mw pp/\cd (eV B) Jt qt FV:=by
  have:=jR.el;cases this with
  | cons h1 h2=>exact⟨_,_,aa,h1,h2⟩
 obtain⟨s9,p9,n9,c9,t9,y9,m9,d9,rfl,XA⟩:=hE4;have Mx:=jR.le;have My:=jR.len;have Mz:=jR.cm;have qj:rG.length=jK:=jR.pl.resolve_right ab;refine VO.eW aa aa (fk gO) aa sY (by intro h;cases h) (λLc k20 b20=>wV aa ?_);refine aj ?_;refine VO.dY aa (([.int .i64 (pp.1:Int)]:List Value).map .val) aa (cL qj 0 _ ⟨_,aa⟩) (wV aa ?_);refine aj ?_;have Vx:IntKind.i64.wrap (((rows:List bh).length:Int)-(keep:Int))=((rows:List bh).length:Int)-(keep:Int):=cV _ ab;by_cases hx:pp.1+keep=(rows:List bh).length
 ·refine VS.aV aa (by rw[Vx,beq_iff_eq];omega) ?_;refine aj ?_;refine VO.dY aa (([.int .i64 (pp.1:Int)]:List Value).map .val) aa (cL qj 0 _ ⟨_,aa⟩) (wV aa ?_);refine aj ?_;refine VO.dY aa (([.bool s9,.slice p9 n9 c9,.bool t9,.slice y9 m9 d9]:List Value).map .val) aa (cL qj 1 _ ⟨[],aa⟩) (wV aa ?_);refine aj ?_;have jA:=iW.len;have KE:pp.1<wk:=by rw[jA,bB,wm];omega
  refine VO.cond aa dQ (wV aa ?_);obtain⟨rq,Ld⟩:∃ rq,(rows++[gz S F q e])[pp.1]? =some rq:=⟨_,ba (by rw[<-jA];exact KE)⟩;obtain⟨CE,sX,vL⟩:=iW.el.at pp.1 rq Ld;have lS:=iW.fl;have XB:=iW.le;refine VO.cond aa (by show 0+((pp.1:Int)).toNat*28+20+4<=_;rw[lS,dC];omega) (VO.fi 52 aa (oW (new:=[.bool s9,.slice p9 n9 c9,.bool t9,.slice y9 m9 d9]) (o:=20) (iW.el.lens (aL B)) sX (bM aa)) (wV aa ?_));refine aj ?_
  have hR3:vW (gF B) 28 Lc wk jr (zL.set pp.1 (CE.take 20++([.bool s9,.slice p9 n9 c9,.bool t9,.slice y9 m9 d9]++CE.drop (20+([.bool s9,.slice p9 n9 c9,.bool t9,.slice y9 m9 d9]:List Value).length)))) qy ((rows++[gz S F q e]).modify pp.1 (λr=>{ r with aq:=pp.2 })):=
   ⟨by rw[oy];exact jA,by rw[gj Ld];exact (iW.el.kp (aL B) bm).set (xz ((aL B).kp vL bm) ⟨_,_,_,_,_,_,_,_,aa,XA.kp bm⟩),iW.so,iW.sl,iW.le,iW.cm,by
    rw[bB,bu,fb (qY (iW.el.lens (aL B)) (Bs ((aL B).len vL) rfl)),pM];rw[bB,bu,fb (iW.el.lens (aL B))] at lS;exact lS⟩
  refine VO.np aa aa (fk yJ) aa ab Mx Mz (λj hj=> ?_) (bM aa) (λRv k21 b21=>wV aa ?_)
  ·simp only[aI,AV.eu,List.flatMap_cons,List.flatMap_nil,List.mem_append,List.mem_cons,List.not_mem_nil,or_false,List.append_nil] at hj;rcases hj with rfl|rfl|rfl <;> (intro h;cases h)
  refine aj ?_;have hV4:fm (eV B) 5 Rv (nz-1) (if vZ=1 then jK else jK+5) (vZ -1) (rG++[.int .i64 (pp.1:Int),.bool s9,.slice p9 n9 c9,.bool t9,.slice y9 m9 d9]) FV Vw qt:=⟨by rw[My];rfl,uV qj,by rw[ja,jR.po];rfl,Bx.kp (bt B) bm,jR.so,ab,ab,uW jR.fl⟩
  have yt:fR S F keep (rows:List bh).length ⟨q,rows,uses⟩ e=⟨qt,(rows++[gz S F q e]).modify pp.1 (λr=>{ r with aq:=pp.2 }),YC⟩:=by
   rw[tY,Fv,sW];exact if_pos hx
  refine aj ?_;refine VS.rE (cP _ _) aa (λwz β kz oz en=> ?_);obtain⟨o1,o2⟩:=iy (en.own 198 _ _ aa) 0 g aa aa;have oR:=(en.own 52 _ _ aa).cls;rw[bC,ak] at oR;have nR:=jz hB ia (show eK 99 [g,vb,rb,ub] w 52 (β 52) from (en.own 52 _ _ aa).new);have oV:=(en.own 62 _ _ aa).cls;rw[gM,ak] at oV;have nV:=jz hB ia (show eK 99 [g,vb,rb,ub] w 62 (β 62) from (en.own 62 _ _ aa).new);have oU:=(en.own 36 _ _ aa).cls;rw[ak] at oU;have nU:=jz hB ia (show eK 99 [g,vb,rb,ub] w 36 (β 36) from (en.own 36 _ _ aa).new);rw[yt];refine⟨aa,oz.1,[g,β 62,β 52,β 36],⟨λb hb=> ?_,_,_,_,o2,?_⟩⟩
  ·simp only[List.mem_cons,List.not_mem_nil,or_false] at hb;rcases hb with rfl|rfl|rfl|rfl
   ·exact DT
   ·exact nV
   ·exact nR
   ·exact nU
  ·exact .inr (.inr (.inr ⟨β 62,β 52,β 36,aa,⟨_,_,_,_,_,_,aa,oV,hV4.kp (bt B) bm⟩,⟨_,_,_,_,aa,oR,(hR3.kp (aL B) bm).o β⟩,⟨_,_,_,_,aa,oU,Jb.kp (fD B) bm⟩⟩))
 ·refine VS.aP aa (by rw[Vx,iZ];omega) ?_
  have yt:fR S F keep (rows:List bh).length ⟨q,rows,uses⟩ e=⟨pp::qt,rows++[gz S F q e],YC⟩:=by
   rw[tY,Fv,sW];exact if_neg hx
  refine aj ?_;refine VS.rE (cP _ _) aa (λwz β kz oz en=> ?_);obtain⟨o1,o2⟩:=iy (en.own 198 _ _ aa) 0 g aa aa;have oR:=(en.own 52 _ _ aa).cls;rw[bC,ak] at oR;have nR:=jz hB ia (show eK 99 [g,vb,rb,ub] w 52 (β 52) from (en.own 52 _ _ aa).new);have oV:=(en.own 62 _ _ aa).cls;rw[ak] at oV;have nV:=jz hB ia (show eK 99 [g,vb,rb,ub] w 62 (β 62) from (en.own 62 _ _ aa).new);have oU:=(en.own 36 _ _ aa).cls;rw[ak] at oU;have nU:=jz hB ia (show eK 99 [g,vb,rb,ub] w 36 (β 36) from (en.own 36 _ _ aa).new);rw[yt];refine⟨aa,oz.1,[g,β 62,β 52,β 36],⟨λb hb=> ?_,_,_,_,o2,?_⟩⟩
  ·simp only[List.mem_cons,List.not_mem_nil,or_false] at hb;rcases hb with rfl|rfl|rfl|rfl
   ·exact DT
   ·exact nV
   ·exact nR
   ·exact nU
  ·exact .inr (.inr (.inr ⟨β 62,β 52,β 36,aa,⟨_,_,_,_,_,_,aa,oV,jR.kp (bt B) bm⟩,⟨_,_,_,_,aa,oR,(iW.kp (aL B) bm).o β⟩,⟨_,_,_,_,aa,oU,Jb.kp (fD B) bm⟩⟩))
set_option maxRecDepth 4000
theorem XC {keep:Nat} {ad:List Nat} {s:Qs} {v:Value} (hs:vK B w g ad s)
  (Em:Td w v S F keep ks) (YA:YrV w u e ks) (Bt:1<=ks) (Js:ks<=kk) (KR:kk<=100000) (FR:Iz D (aH S F e.2)) (zK:aH S F e.2<=M) (YB:Iz D e.1) (my: -M<=e.1) (NB:e.1<=M) (hK:∀ x,Iz D x->-(M+M)<=x->x<=M+M->fI x kk)
  (FU:Ir D M s) (DR:s.rows.length<=64) (yZ:keep<=40) (hB:B<=w.heap.size):
  Calls Tryz.prog 39 #[.pointer (some ⟨g,0,none⟩),v,.int .i64 (s.rows.length:Int),u] w λo w'=>o=.returned (lN [])/\wi ad w w'/\∃ ad',vK B w' g ad' (fR S F keep s.rows.length s e):=by
 obtain⟨q,rows,uses⟩:=s;obtain⟨had,vv,r,uu,hg,h⟩:=hs;rcases h with ⟨rfl,rfl,rfl,rfl,rfl,rfl,rfl⟩|⟨rb,rfl,rfl,rfl,rfl,rfl,n,c,vs,sp,rfl,h1,h2⟩|⟨vb,rb,rfl,rfl,rfl,⟨off,nq,cq,pre,vsq,spq,rfl,h3,h4⟩,n,c,vs,sp,rfl,h1,h2⟩|⟨vb,rb,ub,rfl,⟨off,nq,cq,pre,vsq,spq,rfl,h3,h4⟩,⟨n,c,vs,sp,rfl,h1,h2⟩,n',c',kO,sp',rfl,h5,h6⟩
 ·exact iYear_A (q:=[]) (rows:=[]) (uses:=[]) hg Em YA Bt Js KR FR zK YB my NB hK FU DR yZ hB had
 ·exact iYear_B (q:=[]) (uses:=[]) hg h1 h2 Em YA Bt Js KR FR zK YB my NB hK FU DR yZ hB had
 ·exact iYear_C (uses:=[]) hg h3 h4 h1 h2 Em YA Bt Js KR FR zK YB my NB hK FU DR yZ hB had
 ·exact iYear_D hg h3 h4 h1 h2 h5 h6 Em YA Bt Js KR FR zK YB my NB hK FU DR yZ hB had
abbrev RR:=Bool×List Nat×Bool×List Nat
def RR.q (x:RR):Rat:=rq x.1 x.2.1 x.2.2.1 x.2.2.2
def RR.ok (x:RR):Bool:=Jd x.1 x.2.1 x.2.2.1 x.2.2.2
def Eo (w:World) (cs:List Value) (x:RR):Prop:=∃ p c r d,cs=[.bool x.1,.slice p x.2.1.length c,.bool x.2.2.1,.slice r x.2.2.2.length d]/\gT w (.agg #[.bool x.1,.slice p x.2.1.length c,.bool x.2.2.1,.slice r x.2.2.2.length d]) x.1 x.2.1 x.2.2.1 x.2.2.2
variable {T:TypeId->Bool}
theorem Eo.kp {x:RR} (h:Eo w cs x) (k:bQ ⟨UU,λ_=>True,T⟩ w w'):Eo w' cs x:=by
 obtain⟨p,c,r,d,h1,h2⟩:=h;exact⟨p,c,r,d,h1,h2.kp k⟩
def RR.ld (x:RR) (k:Nat):Prop:=x.2.1.length<=k/\x.2.2.2.length<=k
def pW (kk:Nat) (w:World) (cs:List Value) (e:RR×RR):Prop:=∃ a b,cs=a++b/\Eo w a e.1/\Eo w b e.2/\e.1.ld kk/\e.2.ld kk
theorem Eo.len {x:RR} (h:Eo w cs x):cs.length=4:=by obtain⟨p,c,r,d,rfl,_⟩:=h;rfl
theorem Eo.ok {x:RR} (h:Eo w cs x):cs.all bD=true:=by obtain⟨p,c,r,d,rfl,_⟩:=h;rfl
theorem bg (kk:Nat):jo (pW kk) 8 where
 kp:=λh k=>by
  obtain⟨a,b,h0,h1,h2,h3⟩:=h;exact⟨a,b,h0,h1.kp k,h2.kp k,h3⟩
 len:=λh=>by obtain⟨a,b,rfl,h1,h2,h3⟩:=h;rw[bB,h1.len,h2.len]
 ok:=λh=>by obtain⟨a,b,rfl,h1,h2,h3⟩:=h;rw[ja,h1.ok,h2.ok];rfl
def fY (w:World) (v:Value) (a b:RR) (keep:Int):Prop:=∃ p c r d p' c' r' d',v=.agg #[.bool a.1,.slice p a.2.1.length c,.bool a.2.2.1,.slice r a.2.2.2.length d,.bool b.1,.slice p' b.2.1.length c',.bool b.2.2.1,.slice r' b.2.2.2.length d',.int .i64 keep]/\
 gT w (.agg #[.bool a.1,.slice p a.2.1.length c,.bool a.2.2.1,.slice r a.2.2.2.length d]) a.1 a.2.1 a.2.2.1 a.2.2.2/\gT w (.agg #[.bool b.1,.slice p' b.2.1.length c',.bool b.2.2.1,.slice r' b.2.2.2.length d']) b.1 b.2.1 b.2.2.1 b.2.2.2
theorem gT.fZ {v:Value} {x:RR} {k:Nat} (h:gT w v x.1 x.2.1 x.2.2.1 x.2.2.2) (hk:x.ld k):ck w v x.q k:=⟨_,_,_,_,h,rfl,hk.1,hk.2⟩
theorem fY.v {v:Value} {a b:RR} {keep:Int} (h:fY w v a b keep) (ha:a.ld ks) (hb:b.ld ks):Td w v a.q b.q keep ks:=by
 obtain⟨p,c,r,d,p',c',r',d',rfl,h1,h2⟩:=h;exact⟨_,_,_,_,_,_,_,_,_,_,_,_,_,_,_,_,aa,h1.fZ ha,h2.fZ hb⟩
theorem fY.kp {v:Value} {a b:RR} {keep:Int} (h:fY w v a b keep) (k:bQ ⟨UU,λ_=>True,T⟩ w w'):fY w' v a b keep:=by
 obtain⟨p,c,r,d,p',c',r',d',h0,h1,h2⟩:=h;exact⟨p,c,r,d,p',c',r',d',h0,h1.kp k,h2.kp k⟩
theorem ky (x:RR) (b:Bool) (hb:x.ok=b) (v:Value) (w:World) (h:gT w v x.1 x.2.1 x.2.2.1 x.2.2.2) {k:Nat} (hx:x.ld k) (hk:k<=100000):
 Calls Tryz.prog 68 #[v] w λe w'=>e=.returned (.bool b)/\aU w w':=hb▸Bh _ _ _ _ v w h (bj hx.1 ab) (bj hx.2 ab)
def fw (a b:RR) (keep:Int):Bool:=a.ok && (b.ok && (decide (eQ a.q 0>=0) && (decide (eQ a.q 1<=0) && (decide (keep>=0) && decide (keep<=40)))))
set_option maxRecDepth 4000 in
theorem Ti (v:Value) (a b:RR) (keep:Int) (k:Nat) (w:World) (h:fY w v a b keep) (ha:a.ld k) (hb:b.ld k) (hk:k<=100000):
  Calls Tryz.prog 35 #[v] w λo w'=>o=.returned (.bool (fw a b keep))/\aU w w':=by
 obtain⟨p,c,r,d,p',c',r',d',rfl,h1,h2⟩:=h;refine ah (C:=cH Tryz.prog w _) (args:=[_]) Tryz.func35 aa Tryz.ntmps35 (bM aa) ?_;refine ae ?_;cases e1:a.ok with
 | false=>
   refine VO.cB aa aa (fk Ag) (λbn cG bo=>ky a false e1 _ bn (h1.kp (Kp.of (U:=UU) bo)) ha hk) (λbn cG bo w1 bA eF _ bb1=>wV aa ?_);refine ae ?_;refine bl ?_;intro wz kz bz;exact⟨by unfold fw;rw[e1];rfl,bz⟩
 | true=>
 refine VO.cB aa aa (fk Ag) (λbn cG bo=>ky a true e1 _ bn (h1.kp (Kp.of (U:=UU) bo)) ha hk) (λbn cG bo w1 bA eF _ bb1=>wV aa ?_);refine ae ?_;cases e2:b.ok with
 | false=>
   refine VO.cB aa aa (fk Ag) (λcz dB cT=>ky b false e2 _ cz (h2.kp (Kp.of (U:=UU) cT)) hb hk) (λcz dB cT w2 cC fe _ bb2=>wV aa ?_);refine ae ?_;refine bl ?_;intro wz kz bz;exact⟨by unfold fw;rw[e1,e2];rfl,bz⟩
 | true=>
 refine VO.cB aa aa (fk Ag) (λcz dB cT=>ky b true e2 _ cz (h2.kp (Kp.of (U:=UU) cT)) hb hk) (λcz dB cT w2 cC fe _ bb2=>wV aa ?_);refine ae ?_;obtain⟨sg,ny⟩:∃ sg,eQ a.q 0=sg:=⟨_,aa⟩;have CG:fw a b keep=(decide (sg>=0) && (decide (eQ a.q 1<=0) && (decide (keep>=0) && decide (keep<=40)))):=by unfold fw;rw[e1,e2,ny];rfl
 rw[CG];refine VO.cB aa aa (fk mJ) (λeP fA ft=>ea _ a.q k eP ((h1.fZ ha).kp (Kp.of (U:=UU) ft)) ab sg ny) (λeP fA ft w3 dZ jm _ bb3=>wV aa ?_);refine ae ?_;by_cases e3':sg<0
 ·have e3:¬ sg>=0:=by omega
  rw[aA e3];refine ae ?_;refine bl ?_;intro wz kz bz;exact⟨aa,bz⟩
 have e3:sg>=0:=ab;rw[aE e3];refine ae ?_;refine VO.cR aa aa (fk nK) (λfW iJ iB=>dz 1 fW ab ab) (λfW iJ iB w4 s4 p4 n4 c4 t4 y4 m4 d4 q4 ic mB _ tI=>wV aa ?_);refine ae ?_;have h11:((1:Int):Rat)=1:=aa;rw[h11] at q4;obtain⟨cm,iC⟩:∃ cm,eQ a.q 1=cm:=⟨_,aa⟩;rw[iC];refine VO.cB aa aa (fk jU) (λfQ iH fV=>ek _ _ a.q 1 k 1 fQ ((h1.fZ ha).kp (Kp.of (U:=UU) fV)) (q4.ki ⟨Sz.small bq,Sz.small bq⟩) ab ab cm iC) (λfQ iH fV w5 iz lg _ sR=>wV aa ?_);refine ae ?_;by_cases e4':0<cm
 ·have e4:¬ cm<=0:=by omega
  rw[aA e4];refine ae ?_;refine bl ?_;intro wz kz bz;exact⟨aa,bz⟩
 have e4:cm<=0:=ab;rw[aE e4];refine ae ?_;by_cases e5':keep<0
 ·have e5:¬ keep>=0:=by omega
  rw[aA e5];refine ae ?_;refine bl ?_;intro wz kz bz;exact⟨aa,bz⟩
 have e5:keep>=0:=ab;rw[aE e5];refine ae ?_;refine bl ?_;intro wz kz bz;exact⟨aa,bz⟩
theorem QB (v:Value) (cs:List Value) (e:RR×RR) (k:Nat) (w:World) (hv:v=.agg cs.toArray) (h:pW k w cs e) (hk:k<=100000):
  Calls Tryz.prog 38 #[v] w λo w'=>o=.returned (.bool (e.1.ok && e.2.ok))/\aU w w':=by
 obtain⟨_,_,rfl,⟨p,c,r,d,rfl,h1⟩,⟨p',c',r',d',rfl,h2⟩,ha,hb⟩:=h;subst hv;refine ah (C:=cH Tryz.prog w _) (args:=[_]) Tryz.func38 aa Tryz.ntmps38 (bM aa) ?_;refine ae ?_;cases e1:e.1.ok with
 | false=>
   refine VO.cB aa aa (fk Ag) (λbn cG bo=>ky e.1 false e1 _ bn (h1.kp (Kp.of (U:=UU) bo)) ha hk) (λbn cG bo w1 bA eF _ bb1=>wV aa ?_);refine ae ?_;refine bl ?_;intro wz kz bz;exact⟨aa,bz⟩
 | true=>
 refine VO.cB aa aa (fk Ag) (λbn cG bo=>ky e.1 true e1 _ bn (h1.kp (Kp.of (U:=UU) bo)) ha hk) (λbn cG bo w1 bA eF _ bb1=>wV aa ?_);refine ae ?_;obtain⟨b2,cC⟩:∃ b2,e.2.ok=b2:=⟨_,aa⟩;rw[cC];refine VO.cB aa aa (fk Ag) (λcz dB cT=>ky e.2 b2 cC _ cz (h2.kp (Kp.of (U:=UU) cT)) hb hk) (λcz dB cT w2 cC fe _ bb2=>wV aa ?_);refine ae ?_;refine bl ?_;intro wz kz bz;exact⟨aa,bz⟩
def iV (e:RR×RR):Bool:=e.1.ok && e.2.ok
theorem Tj (v:Value) (cs:List Value) (e:RR×RR) (k:Nat) (w:World) (hv:v=.agg cs.toArray) (h:pW k w cs e) (hk:k<=100000) (b:Bool) (hb:iV e=b):
 Calls Tryz.prog 38 #[v] w λo w'=>o=.returned (.bool b)/\aU w w':=hb▸QB v cs e k w hv h hk
theorem Lf (v:Value) (cs:List Value) (e:RR×RR) (k:Nat) (w:World) (hv:v=.agg cs.toArray) (h:pW k w cs e) (hk:k<=100000) (b:Bool) (hb:iV e=b):
  Calls Tryz.prog 37 #[v] w λo w'=>o=.returned (.bool !b)/\aU w w':=by
 have h0:=h;obtain⟨_,_,rfl,⟨p,c,r,d,rfl,h1⟩,⟨p',c',r',d',rfl,h2⟩,ha,nB⟩:=h;subst hv;refine ah (C:=cH Tryz.prog w _) (args:=[_]) Tryz.func37 aa Tryz.ntmps37 (bM aa) ?_;refine ae ?_;refine VO.cB aa aa (fk Tryz.func38) (λbn cG bo=>Tj _ _ e k bn aa ((bg k).kp h0 (Kp.of (U:=UU) bo)) hk b hb) (λbn cG bo w1 bA eF _ bb1=>wV aa ?_);refine ae ?_;refine bl ?_;intro wz kz bz;exact⟨aa,bz⟩
end
section
open Go.RowKit
section
variable {C:Cx} {F:Fr} {H:Hp} {w:World} {m:Option (List FuncId)} {full:Array Oper} {K:Fr->Hp->World->Prop} {o:Oper} {r:List Oper} {Q:Exit->Act->World->Prop} {k:List It}
def Bz (F:Fr) (β dA:Nat->Nat) (lo hi:Nat):List (Nat×AV)->Prop
 | []=>True
 | p::r=>(∃ u,F p.1=some u/\p.2.bU dA=u.bU β/\∀ i∈p.2.ids,lo<=i/\i<hi)/\Bz F β dA lo hi r
theorem Bz.mem {β dA:Nat->Nat} {lo hi:Nat}:∀ {L:List (Nat×AV)} {d:Nat} {v:AV},Bz F β dA lo hi L->(d,v)∈L->∃ u,F d=some u/\v.bU dA=u.bU β/\∀ i∈v.ids,lo<=i/\i<hi
 | p::r,d,v,h,hm=>by
   rcases dW.1 hm with rfl|hm
   ·exact h.1
   ·exact Bz.mem h.2 hm
theorem VS.xV (K:KC) (SU:TypeId->Bool) (ti:TypeId->Option TI) (keep:∀ (w':World) b,b<w'.heap.size->K.S b)
  (h:∀ w' β,bQ C.K w w'->C.Old w'->Ends C β H w'->∃ (ad:List Nat) (l:List (TypeId×List AV)) (hl:nd K C.N ad l w') (L:List (Nat×AV)),Bz F β (adB C.N ad) (2*C.N) (2*C.N+l.length) L/\
   VS (WZ C.P w' C.N K SU ti (keep w') ad hl.nodup hl.ad) Q k (Fr.of L) (Hp.Xq (2*C.N) l) w'):VS C Q k F H w:=λβ a w' hr hk=>by
 obtain⟨ad,l,hl,L,hL,hv⟩:=h w' β hk hr.old ⟨hr.own,hr.apart⟩
 have Nv:∀ i c,Hp.Xq (2*C.N) l i=some c->2*C.N<=i/\l[i-2*C.N]? =some c:=λi c hi=>by
  rw[Hp.uS] at hi
  split at hi
  ·exact⟨by assumption,hi⟩
  ·cases hi
 have hsome:∀ i,Hp.Xq (2*C.N) l i≠none->2*C.N<=i/\i-2*C.N<l.length:=λi hi=>by
  cases hh:Hp.Xq (2*C.N) l i with
  | none=>exact absurd hh hi
  | some c=>
    obtain⟨h1,h2⟩:=Nv i c hh;exact⟨h1,(cQ.1 h2).1⟩
 have hval:∀ k,k<ad.length->ad[k]? =some (ad.getD k 0):=λk hk=>by simp[List.getD_eq_getElem?_getD,hk]
 refine hv (adB C.N ad) a w' ⟨hr.defers,hr.size,λd v hd=> ?_,λi t cs hi=> ?_,λi j hi hj e=> ?_,λd v hd i hi=> ?_,λd v hd=> ?_,⟨λi t cs hi=> ?_,λi t cs hi=> ?_,λi hi=> ?_⟩,(WZ C.P w' C.N K SU ti (keep w') ad hl.nodup hl.ad).uH⟩ (bQ.refl _ _)
 ·obtain⟨u,h1,h2,_⟩:=hL.mem (Fr.kc hd);rw[h2];exact hr.tmp d u h1
 ·obtain⟨h1,h2⟩:=Nv i _ hi;have hlt:=(cQ.1 h2).1;obtain⟨g1,g2⟩:=hl.ok _ (cX h2);have hv:=hval (i-2*C.N) (by rw[hl.len];exact hlt);refine⟨?_,g1,hl.cls _ _ _ hv h2,g2⟩;show eK C.N ad w' i (adB C.N ad i);unfold eK;rw[if_pos h1];exact hv
 ·obtain⟨h1,h2⟩:=hsome i hi;obtain⟨h3,h4⟩:=hsome j hj;have e1:=hval (i-2*C.N) (by rw[hl.len];exact h2);have e2:=hval (j-2*C.N) (by rw[hl.len];exact h4);have e':ad.getD (i-2*C.N) 0=ad.getD (j-2*C.N) 0:=e;rw[<-e'] at e2;have:=(Un (by rw[hl.len];exact h2) hl.nodup).1 (e1.trans e2.symm);omega
 ·obtain⟨u,h1,h2,h3⟩:=hL.mem (Fr.kc hd);obtain⟨h4,h5⟩:=h3 i hi;rw[Hp.uS,if_pos h4,ba ab];simp
 ·obtain⟨u,h1,h2,h3⟩:=hL.mem (Fr.kc hd);exact hr.fits d u h1
 ·obtain⟨h1,h2⟩:=Nv i _ hi;exact hl.ok _ (cX h2)
 ·obtain⟨h1,h2⟩:=Nv i _ hi;intro j hj;obtain⟨h3,h4⟩:=hl.ids _ (cX h2) j hj;rw[Hp.uS,if_pos h3,ba ab];simp
 ·have BO:2*C.N+ad.length<=i:=hi;rw[Hp.uS]
  split
  ·exact vi (by rw[<-hl.len];omega)
  ·rfl
def MK (C:Cx) (Q:Exit->Act->World->Prop) (k:List It) (full:Array Oper) (o:Oper) (F:Fr) (H:Hp) (w:World):Prop:=
 ∃ (g:FuncId) (args:List AV) (vs:List Value) (D:World->Cx),stepOf C full F H o=.call (.fn g args)/\jW args=some vs/\rA C.P g/\(∀ w,(D w).P=C.P)/\(∀ w,(D w).N=C.N)/\(∀ w,Cx.Old (D w) w)/\
   ∀ w1,bQ C.K w w1->C.Old w1->Calls C.P g vs.toArray w1 λe w2=>∃ v L,e=.returned v/\Qr F L/\(∀ p∈L,o.dst≠some p.1)/\VS (D w2) Q k (Fr.vals L) (λ_=>none) w2
theorem VS.regionM (hC:C.Ok) {id:Nat} {ops:Array Oper} (j:Nat) {o:Oper} (hj:ops.toList.drop j=[o]) (hd:ops.toList.all tR=true) (ho:tR o=true)
  (h:aG C none ops (ops.toList.take j) (MK C Q k ops o) F H w):VS C Q (.code (.region id ops false)::k) F H w:=λβ a w' hr hk=>by
 refine (wpIn_wide (n:=0)).1 (wpIn_region_list ?_);rw[<-qB j ops.toList,hj];refine DK ni.wide hC (tl:=[o]) (λβ F H w a w' h hr hk=> ?_) (ops.toList.take j) (bR.2 λo ho=>bR.1 hd o (nI ho)) β F H w a w' h hr hk;obtain⟨g,args,vs,D,e,hv,hf,hP,hN,hO,jG⟩:=h;refine wpListIn_step λK hK=> ?_;have hb:stepOf C ops F H o≠.bad:=λe'=>by rw[e] at e';cases e'
 obtain⟨lV,⟨hw,hs⟩|⟨hw,hs⟩⟩:=lW hb
 ·rw[hs] at e;cases e
 ·rw[oN hr hw,if_pos rfl];refine ni.wide.op ho (LS hr (hs.symm.trans e) ?_);refine⟨hf,?_⟩;rw[oL hv,mi];refine (jG w' hk hr.old).mono ?_;rintro e w2 ⟨v,L,rfl,hL,hLd,hcont⟩;refine⟨v,aa,hK _ _ ?_⟩;show post C.P Q k .normal _ w2;have Di:=hr.knows hL
  have ux:Knows (D w2).N L (a.put o.dst v):=by
   rw[hN];cases hod:o.dst with
   | none=>exact Di
   | some d=>
     refine⟨Di.defers,by simp[Act.put];exact Di.size,λp hp=>⟨(Di.tmp p hp).1,?_⟩⟩;have hne:d≠p.1:=λe=>hLd p hp (by rw[hod,e]);have:=(Di.tmp p hp).2;simp[Act.put,Array.getD_eq_getD_getElem?,Array.getElem?_setIfInBounds,hne] at this ⊢;exact this
  have:=hcont _ _ w2 (ux.rel (hO w2)) (bQ.refl _ _);rw[hP] at this;exact this
end
end
set_option maxRecDepth 4000
section
open Go.RowKit
attribute [local irreducible] aG VS
variable {cs:List Value} {off:Nat} {w:World}
theorem MA {b i sz:Nat} (hc:∀ (j:Nat) (u:Value),cs[j]? =some u->w.cell? ⟨b,off+i*sz+j,none⟩=some u):∀ (j:Nat) (u:Value),cs[j]? =some u->w.cell? ((⟨b,off+((i:Nat):Int).toNat*sz,none⟩:Addr).add j)=some u:=by
 intro j u hj;rw[ju,dC];exact hc j u hj
variable {t:TypeId}
theorem cls_at {b:Nat} (h:bO w b t cs.toArray):∀ (j:Nat) (u:Value),cs[j]? =some u->w.cell? ((⟨b,0,none⟩:Addr).add j)=some u:=by
 intro j u hj;rw[ju,jt];exact h.cell (by simpa using hj)
theorem Tk (v:Value) (l:List (RR×RR)) (k:Nat) (w:World) (hl:dm (pW k) 8 w v l) (hk:k<=100000) (hlen:l.length<=100000):
  Calls Tryz.prog 69 #[v,.func (.func 37) #[] #[]] w λo w'=>∃ i:Int,o=.returned (.int .i64 i)/\decide (i>=0)= !(l.all iV)/\aU w w':=by
 obtain⟨p,c,rfl,il,iC⟩:=hl.form;obtain⟨N,hN⟩:∃ N,N=l.length:=⟨_,aa⟩;rw[<-hN] at hl il hlen;rw[<-hN];refine ah (C:=cH Tryz.prog w _) (args:=[_,_]) Tryz.func69 aa Tryz.ntmps69 (bM aa) ?_;refine ae ?_;refine VS.loop (J:=λm L M w'=>∃ z:Nat,z<=N/\m=N-z/\(l.take z).all iV=true/\L=[(0,.val (.slice p N c)),(1,.val (.func (.func 37) #[] #[])),(7,.val (.int .i64 (N:Int))),(8,.val (.int .i64 (z:Int)))]/\M=[]) N ⟨_,_,?_,?_,?_,?_,⟨0,ab,aa,aa,aa,aa⟩⟩ ?_
 ·exact cA
 ·exact cA
 ·rfl
 ·exact gn
 rintro m L M w1 ⟨z,hz,rfl,gJ,rfl,rfl⟩;refine ae ?_;by_cases hlt:z<N
 ·refine VS.aV aa (aE (aQ.2 hlt)) ?_;obtain⟨x,hx⟩:∃ x,l[z]? =some x:=⟨_,ba ab⟩;obtain⟨b,off,cs,gP,hcs,hE⟩:=hl.at hx;subst gP;obtain⟨c1,c2,rfl,⟨p1,k1,r1,d1,rfl,e1⟩,⟨p2,k2,r2,d2,rfl,e2⟩,ZU,ZV⟩:=id hE;refine ae ?_;refine VO.cond aa dQ ?_;refine wV aa ?_;refine ae ?_;refine VO.read aa [.bool x.1.1,.slice p1 x.1.2.1.length k1,.bool x.1.2.2.1,.slice r1 x.1.2.2.2.length d1,.bool x.2.1,.slice p2 x.2.2.1.length k2,.bool x.2.2.2.1,.slice r2 x.2.2.2.2.length d2] aa (MA hcs) (wV aa ?_);refine ae ?_;cases hxo:iV x with
  | false=>
    refine VO.cB aa aa (fk Tryz.func37) (λbn cG bo=>Lf _ _ x k bn aa ((bg k).kp hE (Kp.of (U:=UU) bo)) hk false hxo) (λbn cG bo w1 bA eF _ bb1=>wV aa ?_);refine ae ?_;refine bl ?_;intro wz kz bz;refine⟨_,aa,?_,bz⟩
    have:l.all iV=false:=by
     rw[List.all_eq_false];exact⟨x,cX hx,by rw[hxo];simp⟩
    rw[this];exact aE ab
  | true=>
    refine VO.cB aa aa (fk Tryz.func37) (λbn cG bo=>Lf _ _ x k bn aa ((bg k).kp hE (Kp.of (U:=UU) bo)) hk true hxo) (λbn cG bo w1 bA eF _ bb1=>wV aa ?_);refine ae ?_;refine VS.back (N-(z+1)) ab ⟨_,_,?_,?_,?_,?_,⟨z+1,ab,aa,?_,aa,aa⟩⟩
    ·refine⟨aa,aa,aa,?_,ag⟩;rw[<-aD (i:=z) ab];rfl
    ·exact cA
    ·rfl
    ·exact gn
    ·rw[dt hx,ja,gJ];show (true && (iV x && true))=true;rw[hxo];rfl
 ·refine VS.aP aa (aA (λe=>hlt (aQ.1 e))) ?_;refine ae ?_;refine bl ?_;intro wz kz bz;refine⟨_,aa,?_,bz⟩;have:l.take z=l:=dP ab;rw[this] at gJ;rw[gJ];rfl
theorem uY (v:Value) (l:List (RR×RR)) (k:Nat) (w:World) (hl:dm (pW k) 8 w v l) (hk:k<=100000) (hlen:l.length<=100000) (b:Bool) (hb:l.all iV=b):
  Calls Tryz.prog 36 #[v,.func (.func 37) #[] #[]] w λo w'=>o=.returned (.bool !b)/\aU w w':=by
 obtain⟨p,c,rfl,il,iC⟩:=hl.form;refine ah (C:=cH Tryz.prog w _) (args:=[_,_]) Tryz.func36 aa Tryz.ntmps36 (bM aa) ?_;refine ae ?_;refine VO.call aa aa (fk Tryz.func69) (λbn cG bo=>(Tk _ l k bn (hl.bI (bg k) bo) hk hlen).mono ?_);rintro e w1 ⟨i,rfl,hi,bA⟩
 skip
 refine bZ bA ?_;intro eF _ bb1;refine bl ?_;intro wz kz bz;refine⟨?_,bz⟩;rw[<-hb,<-hi];rfl
theorem xW (v:Value) (a b:RR) (keep:Int) (k:Nat) (w:World) (h:fY w v a b keep) (ha:a.ld k) (hb:b.ld k) (hk:k<=100000) (x:Bool) (hx:fw a b keep=x):
 Calls Tryz.prog 35 #[v] w λo w'=>o=.returned (.bool x)/\aU w w':=hx▸Ti v a b keep k w h ha hb hk
theorem iRun_bad (v u:Value) (a b:RR) (keep:Int) (l:List (RR×RR)) (k:Nat) (w:World) (hR:fY w v a b keep) (ha:a.ld k) (hb:b.ld k) (hl:dm (pW k) 8 w u l) (hk:k<=100000) (hlen:l.length<=100000) (hno:(fw a b keep && l.all iV)=false):
  Calls Tryz.prog 11 #[v,u] w λo w'=>o=.returned (.tuple #[.agg #[.slice none 0 0,.slice none 0 0],.int .i64 2])/\aU w w':=by
 obtain⟨pa,ca,ra,da,pb,cb,rb',db,rfl,ha1,bA⟩:=hR;obtain⟨pu,cu,rfl,il,iC⟩:=hl.form;have hR:fY w (.agg #[.bool a.1,.slice pa a.2.1.length ca,.bool a.2.2.1,.slice ra a.2.2.2.length da,.bool b.1,.slice pb b.2.1.length cb,.bool b.2.2.1,.slice rb' b.2.2.2.length db,.int .i64 keep]) a b keep:=⟨_,_,_,_,_,_,_,_,aa,ha1,bA⟩;refine ah (C:=cH Tryz.prog w _) (args:=[_,_]) kW aa Tryz.ntmps11 (bM aa) ?_;refine ae ?_;cases hr:fw a b keep with
 | false=>
   refine VO.cB aa aa (fk Tryz.func35) (λbn cG bo=>xW _ a b keep k bn (hR.kp (Kp.of (U:=UU) bo)) ha hb hk false hr) (λbn cG bo w1 bA eF _ bb1=>wV aa ?_);refine ae ?_;refine bl ?_;intro wz kz bz;exact⟨aa,bz⟩
 | true=>
   rw[hr] at hno;refine VO.cB aa aa (fk Tryz.func35) (λbn cG bo=>xW _ a b keep k bn (hR.kp (Kp.of (U:=UU) bo)) ha hb hk true hr) (λbn cG bo w1 bA eF _ bb1=>wV aa ?_);refine ae ?_;refine VO.cB aa aa (fk Tryz.func36) (λcz dB cT=>uY _ l k cz (hl.bI (bg k) cT) hk hlen false hno) (λcz dB cT w2 cC fe _ bb2=>wV aa ?_);refine ae ?_;refine bl ?_;intro wz kz bz;exact⟨aa,bz⟩
theorem tZ (v u:Value) (a b:RR) (keep:Int) (l:List (RR×RR)) (k:Nat) (w:World) (hR:fY w v a b keep) (ha:a.ld k) (hb:b.ld k) (hl:dm (pW k) 8 w u l) (hk:k<=100000) (hlen:l.length<=100000) (hr:fw a b keep=true) (hy:l.all iV=true) (h40:l.length>40):
  Calls Tryz.prog 11 #[v,u] w λo w'=>o=.returned (.tuple #[.agg #[.slice none 0 0,.slice none 0 0],.int .i64 3])/\aU w w':=by
 obtain⟨pa,ca,ra,da,pb,cb,rb',db,rfl,ha1,bA⟩:=hR;obtain⟨pu,cu,rfl,il,iC⟩:=hl.form;have hR:fY w (.agg #[.bool a.1,.slice pa a.2.1.length ca,.bool a.2.2.1,.slice ra a.2.2.2.length da,.bool b.1,.slice pb b.2.1.length cb,.bool b.2.2.1,.slice rb' b.2.2.2.length db,.int .i64 keep]) a b keep:=⟨_,_,_,_,_,_,_,_,aa,ha1,bA⟩;refine ah (C:=cH Tryz.prog w _) (args:=[_,_]) kW aa Tryz.ntmps11 (bM aa) ?_;refine ae ?_;refine VO.cB aa aa (fk Tryz.func35) (λbn cG bo=>xW _ a b keep k bn (hR.kp (Kp.of (U:=UU) bo)) ha hb hk true hr) (λbn cG bo w1 bA eF _ bb1=>wV aa ?_);refine ae ?_;refine VO.cB aa aa (fk Tryz.func36) (λcz dB cT=>uY _ l k cz (hl.bI (bg k) cT) hk hlen true hy) (λcz dB cT w2 cC fe _ bb2=>wV aa ?_);refine ae ?_;refine VS.aV aa (aE (show (l.length:Int)>40 by omega)) ?_;refine ae ?_;refine bl ?_;intro wz kz bz;exact⟨aa,bz⟩
variable {α:Type} {es:List α} {w':World} {E:World->List Value->α->Prop}
theorem Yz.bI {sz:Nat} (hE:jo E sz) {b:Nat} {v:Value} (h:Yz E sz t w b v es) (hb:aU w w'):Yz E sz t w' b v es:=by
 obtain⟨n,c,vs,sp,h1,h2,h3⟩:=h;exact⟨n,c,vs,sp,h1,h2.bI hb,h3.kp hE (Kp.of (U:=UU) hb)⟩
theorem SlE.bI {sz:Nat} (hE:jo E sz) {b:Nat} {v:Value} (h:SlE E sz t w b v es) (hb:aU w w'):SlE E sz t w' b v es:=by
 obtain⟨off,n,c,pre,vs,sp,h1,h2,h3⟩:=h;exact⟨off,n,c,pre,vs,sp,h1,h2.bI hb,h3.kp hE (Kp.of (U:=UU) hb)⟩
variable {B g:Nat}
theorem vK.bI {ad:List Nat} {s:Qs} (h:vK B w g ad s) (hb:aU w w'):vK B w' g ad s:=by
 obtain⟨had,v,r,u,hg,h⟩:=h;refine⟨had,v,r,u,hg.bI hb,?_⟩;rcases h with h|⟨rb,h1,h2,h3,h4,h5,h6⟩|⟨vb,rb,h1,h2,h3,h4,h5⟩|⟨vb,rb,ub,h1,h2,h3,h4⟩
 ·exact .inl h
 ·exact .inr (.inl ⟨rb,h1,h2,h3,h4,h5,h6.bI (aL B) hb⟩)
 ·exact .inr (.inr (.inl ⟨vb,rb,h1,h2,h3,h4.bI (bt B) hb,h5.bI (aL B) hb⟩))
 ·exact .inr (.inr (.inr ⟨vb,rb,ub,h1,h2.bI (bt B) hb,h3.bI (aL B) hb,h4.bI (fD B) hb⟩))
theorem CH (S F:Rat) (keep:Nat) (l:List (Rat×Rat)) (y:Rat×Rat):kt S F keep (l++[y])=fR S F keep (kt S F keep l).rows.length (kt S F keep l) y:=by
 unfold kt;rw[Up];rfl
def cD (l:List (RR×RR)):List (Rat×Rat):=l.map λe=>(e.1.q,e.2.q)
variable {z:Nat}
theorem ue {l:List (RR×RR)} {x:RR×RR} (hx:l[z]? =some x):cD (l.take (z+1))=cD (l.take z)++[(x.1.q,x.2.q)]:=by
 unfold cD;rw[dt hx,bC];rfl
theorem QC {new:List Value} {r:bh} {x:Rat} (h:gF B w cs r) (hx:R4 B w new x):gF B w (cs.take 24++(new++cs.drop (24+new.length))) { r with closing:=x }:=by
 obtain⟨a,b,c,d,e,f,g,rfl,h1,h2,h3,h4,h5,h6,h7⟩:=h;refine⟨a,b,c,d,e,f,new,?_,h1,h2,h3,h4,h5,h6,hx⟩;have l1:=h1.len;have l2:=h2.len;have l3:=h3.len;have l4:=h4.len;have l5:=h5.len;have l6:=h6.len;have l7:=h7.len;rw[hx.len];have e3:a++(b++(c++(d++(e++(f++g)))))=(a++b++c++d++e++f)++g:=bN;have e4:(a++b++c++d++e++f).length=24:=by simp[l1,l2,l3,l4,l5,l6]
 have t1:(a++(b++(c++(d++(e++(f++g)))))).take 24=a++b++c++d++e++f:=by rw[e3,<-e4,List.take_left'];rfl
 have t2:(a++(b++(c++(d++(e++(f++g)))))).drop 28=[]:=ly (by simp[l1,l2,l3,l4,l5,l6,l7]);rw[t1,t2];simp
abbrev nH:TypeId:=36
abbrev Iv:TypeId:=28
theorem vK.ty {ad:List Nat} {s:Qs} (h:vK B w g ad s):∀ b∈ad,∃ t cs,bO w b t cs/\t≠Iv/\t≠nH:=by
 obtain⟨had,v,r,u,hg,h⟩:=h;have key:∀ {t:TypeId} {b:Nat} {cs:Array Value},bO w b t cs->(t=Runner\/t=ff\/t=fX\/t=gL)->∃ t cs,bO w b t cs/\t≠Iv/\t≠nH:=λ{t b cs} hc ht=>⟨t,cs,hc,by rcases ht with rfl|rfl|rfl|rfl <;> decide,by rcases ht with rfl|rfl|rfl|rfl <;> decide⟩;intro b hb;rcases h with ⟨rfl,_⟩|⟨rb,rfl,_,_,_,_,_,_,_,_,_,h2,_⟩|⟨vb,rb,rfl,_,_,⟨_,_,_,_,_,_,_,h3,_⟩,_,_,_,_,_,h2,_⟩|⟨vb,rb,ub,rfl,⟨_,_,_,_,_,_,_,h3,_⟩,⟨_,_,_,_,_,h2,_⟩,_,_,_,_,_,h4,_⟩
 ·rw[aJ.1 hb];exact key hg (.inl aa)
 ·simp only[List.mem_cons,List.not_mem_nil,or_false] at hb;rcases hb with rfl|rfl
  ·exact key hg (.inl aa)
  ·exact key h2 (.inr (.inr (.inl aa)))
 ·simp only[List.mem_cons,List.not_mem_nil,or_false] at hb;rcases hb with rfl|rfl|rfl
  ·exact key hg (.inl aa)
  ·exact key h3 (.inr (.inl aa))
  ·exact key h2 (.inr (.inr (.inl aa)))
 ·simp only[List.mem_cons,List.not_mem_nil,or_false] at hb;rcases hb with rfl|rfl|rfl|rfl
  ·exact key hg (.inl aa)
  ·exact key h3 (.inr (.inl aa))
  ·exact key h2 (.inr (.inr (.inl aa)))
  ·exact key h4 (.inr (.inr (.inr aa)))
theorem vin_at {vb n c:Nat} {pre spare:List Value} {vs:List (List Value)} {q:List Vq} {p:Vq} (hc:bO w vb ff (pre++(vs.flatten++spare)).toArray) (h:fm (eV B) 5 w n off c pre vs spare q) (hp:q[z]? =some p):
  ∃ cs,(∀ (j:Nat) (u:Value),cs[j]? =some u->w.cell? ⟨vb,off+z*5+j,none⟩=some u)/\eV B w cs p:=by
 obtain⟨cs,hcs,hE⟩:=h.el.at z p hp;refine⟨cs,λj u hj=>hc.cell ?_,hE⟩;have hzl:=(cQ.1 hp).1;have Oz:=h.len;have hle:=h.le;have nw:pre.length=off:=h.pl.resolve_right ab;have jG:cs.length=5:=(bt B).len hE;have hjl:=(cQ.1 hj).1;obtain⟨hlt,hx⟩:=cQ.1 hcs;have Jq:vs=vs.take z++cs::vs.drop (z+1):=by rw[<-hx,<-mG hlt,qB]
 have hal:(vs.take z).flatten.length=z*5:=by
  rw[fb (λy hy=>h.el.lens (bt B) y (nI hy)),cM,ig ab]
 rw[CT,jT ab,nw,Jq,Ui,fu,jT ab,hal,oA,fu,show off+z*5+j-off-z*5=j by omega,gm hjl];exact hj
theorem sG {N:Nat} {ad:List Nat} {hd:ad.Nodup} {ha:AY (KU UU) ad w} {b:Nat} (hb:b<w.heap.size) (hn:b∉ad) (hc:∀ (j:Nat) (u:Value),cs[j]? =some u->w.cell? ((⟨b,off,none⟩:Addr).add j)=some u):∀ (j:Nat) (u:Value),cs[j]? =some u->(Ys Tryz.prog w N ad hd ha).At ((⟨b,off,none⟩:Addr).add j) u:=by
 intro j u hj w1 xH;have h:=hc j u hj;rw[ju] at h ⊢;rw[Ab (w:=w) (a:=⟨b,off+j,none⟩) (xH.1.pk b hb hn)];exact h
theorem QD {new:List Value} (h:cs.length=28) (hn:new.length=4):(cs.take 24++(new++cs.drop (24+new.length))).length=28:=by
 rw[bB,bB,cM,rM,h,hn];rfl
structure Iw (D:Nat) (M S F:Rat) (kk:Nat) (l:List (Rat×Rat)):Prop where
 el:∀ e∈l,Iz D (aH S F e.2)/\aH S F e.2<=M/\Iz D e.1/\-M<=e.1/\e.1<=M
 sz:∀ x,Iz D x->-(M+M)<=x->x<=M+M->fI x kk
def uf (B:Nat) (w:World) (r u:Value) (x:List bh×List Uq):Prop:=
 ((r=.slice none 0 0/\x.1=[])\/∃ rb,B<=rb/\Yz (gF B) 28 fX w rb r x.1)/\((u=.slice none 0 0/\x.2=[])\/∃ ub,B<=ub/\Yz (vU B) 6 gL w ub u x.2)
def RunJ (w:World) (B D:Nat) (M:Rat) (a b:RR) (kn:Nat) (l:List (RR×RR)) (N cu:Nat) (pu:Option Addr) (rul:List Value) (g b2 b4:Nat) (n:Nat) (L:List (Nat×Value)) (W:World):Prop:=
 ∃ (z:Nat) (ad:List Nat),z<=N/\n=N-z/\L=[(2,.pointer (some ⟨b2,0,none⟩)),(4,.pointer (some ⟨b4,0,none⟩)),(6,.pointer (some ⟨g,0,none⟩)),(27,.slice pu N cu),(28,.int .i64 (N:Int)),(29,.int .i64 (z:Int))]/\
   vK B W g ad (kt a.q b.q kn (cD (l.take z)))/\Ir D M (kt a.q b.q kn (cD (l.take z)))/\(kt a.q b.q kn (cD (l.take z))).rows.length=z/\bO W b2 Iv rul.toArray/\bO W b4 nH #[.slice none 0 0,.slice none 0 0]/\aU w W
set_option maxRecDepth 4000 in
theorem Vy (v u:Value) (a b:RR) (kn:Nat) (l:List (RR×RR)) (ks kk D:Nat) (M:Rat) (w:World) (hR:fY w v a b (kn:Int)) (ha:a.ld ks) (hb:b.ld ks) (hl:dm (pW ks) 8 w u l) (Bt:1<=ks) (Js:ks<=kk) (KR:kk<=100000) (hr:fw a b (kn:Int)=true) (hy:l.all iV=true) (h40:l.length<=40) (ux:kn<=40) (hM:Iw D M a.q b.q kk (cD l)):
  Calls Tryz.prog 11 #[v,u] w λo w'=>∃ r u',o=.returned (.tuple #[.agg #[r,u'],.int .i64 0])/\uf w.heap.size w' r u' (pH a.q b.q kn (cD l))/\aU w w':=by
 obtain⟨pa,ca,ra,da,pb,cb,rb',db,rfl,ha1,bA⟩:=hR;obtain⟨pu,cu,rfl,il,iC⟩:=hl.form;have hR:fY w (.agg #[.bool a.1,.slice pa a.2.1.length ca,.bool a.2.2.1,.slice ra a.2.2.2.length da,.bool b.1,.slice pb b.2.1.length cb,.bool b.2.2.1,.slice rb' b.2.2.2.length db,.int .i64 (kn:Int)]) a b (kn:Int):=⟨_,_,_,_,_,_,_,_,aa,ha1,bA⟩;have hk:ks<=100000:=ab;obtain⟨N,hN⟩:∃ N,N=l.length:=⟨_,aa⟩;rw[<-hN] at hl il h40;rw[<-hN];refine ah (C:=cH Tryz.prog w _) (args:=[_,_]) kW aa Tryz.ntmps11 (bM aa) ?_;refine ae ?_;refine VO.cB aa aa (fk Tryz.func35) (λbn cG bo=>xW _ a b (kn:Int) ks bn (hR.kp (Kp.of (U:=UU) bo)) ha hb hk true hr) (λbn cG bo w1 bA eF _ bb1=>wV aa ?_);refine ae ?_;refine VO.cB aa aa (fk Tryz.func36) (λcz dB cT=>uY _ l ks cz (hl.bI (bg ks) cT) hk ab true hy) (λcz dB cT w2 cC fe _ bb2=>wV aa ?_);refine ae ?_;refine VS.aP aa (aA (show ¬ (N:Int)>40 by omega)) ?_;refine ae ?_;refine VS.Ia (λw=>cH Tryz.prog w 66) (λ_=>aa) (λ_=>aa) (λ_=>aU.refl _) (λw9 β k9 b9 en=> ?_);have c2:=(en.own 2 _ _ aa).cls;have c4:=(en.own 4 _ _ aa).cls;have cg:=(en.own 26 _ _ aa).cls;have n2:w.heap.size<=β 2:=(en.own 2 _ _ aa).new;have n4:w.heap.size<=β 4:=(en.own 4 _ _ aa).new;have ng:w.heap.size<=β 26:=(en.own 26 _ _ aa).new;refine⟨[(2,.val (.pointer (some ⟨β 2,0,none⟩))),(4,.val (.pointer (some ⟨β 4,0,none⟩))),(6,.val (.pointer (some ⟨β 26,0,none⟩))),(27,.val (.slice pu N cu)),(28,.val (.int .i64 (N:Int))),(29,.val (.int .i64 0))],⟨⟨_,_,aa,aa,aa⟩,⟨_,_,aa,aa,aa⟩,⟨_,_,aa,aa,aa⟩,⟨_,_,aa,aa,aa⟩,⟨_,_,aa,aa,aa⟩,⟨_,_,aa,aa,aa⟩,ag⟩,?_⟩;clear en;generalize β 2=b2 at*;generalize β 4=b4 at*;generalize β 26=g at*;refine VS.loopR (J:=RunJ w w.heap.size D M a b kn l N cu pu [.bool a.1,.slice pa a.2.1.length ca,.bool a.2.2.1,.slice ra a.2.2.2.length da,.bool b.1,.slice pb b.2.1.length cb,.bool b.2.2.1,.slice rb' b.2.2.2.length db,.int .i64 (kn:Int)] g b2 b4) (λw=>cH Tryz.prog w 66) (λ_=>aa) (λ_=>aa) (λ_=>aU.refl _) N (λw' k' o'=>⟨[(2,.pointer (some ⟨b2,0,none⟩)),(4,.pointer (some ⟨b4,0,none⟩)),(6,.pointer (some ⟨g,0,none⟩)),(27,.slice pu N cu),(28,.int .i64 (N:Int)),(29,.int .i64 0)],⟨aa,aa,aa,aa,aa,aa,ag⟩,0,[g],ab,aa,aa,⟨λx hx=>by rw[aJ.1 hx];exact ng,_,_,_,cg.bI o',.inl ⟨aa,aa,aa,aa,aa,aa,aa⟩⟩,⟨λp hp=>(by cases hp),bL _⟩,aa,c2.bI o',c4.bI o',b9.aR o'⟩) ?_;rintro n L W ⟨z,ad,hz,rfl,rfl,hrun,hst,uy,kC,Ax,qm⟩;refine ae ?_;have hlW:=hl.bI (bg ks) qm;by_cases hlt:z<N
 ·refine VS.aV aa (aE (aQ.2 hlt)) ?_;obtain⟨x,hx⟩:∃ x,l[z]? =some x:=⟨_,ba ab⟩;obtain⟨bx,off,cs,gP,hcs,hE⟩:=hlW.at hx;subst gP;obtain⟨c1,c2',rfl,⟨p1,k1,r1,d1,rfl,e1⟩,⟨p2,k2,r2,d2,rfl,e2⟩,ZU,ZV⟩:=id hE;obtain⟨m1,m2,m3,m4,m5⟩:=hM.el (x.1.q,x.2.q) (fv.2 ⟨x,cX hx,aa⟩);refine ae ?_;refine VO.cond aa dQ (wV aa ?_);refine VO.read aa [.bool x.1.1,.slice p1 x.1.2.1.length k1,.bool x.1.2.2.1,.slice r1 x.1.2.2.2.length d1,.bool x.2.1,.slice p2 x.2.2.1.length k2,.bool x.2.2.2.1,.slice r2 x.2.2.2.2.length d2] aa (MA hcs) (wV aa ?_)
  (repeat (first|refine wN ?_|refine wP aa ?_|refine wO aa aa ?_))
  refine VS.regionM (dD _ _) 4 aa aa aa (VO.run 80 aa ?_);refine VO.read aa [.bool a.1,.slice pa a.2.1.length ca,.bool a.2.2.1,.slice ra a.2.2.2.length da,.bool b.1,.slice pb b.2.1.length cb,.bool b.2.2.1,.slice rb' b.2.2.2.length db,.int .i64 (kn:Int)] aa (cls_at kC) (wV aa ?_);refine VO.nil ⟨_,_,_,λw=>cH Tryz.prog w 66,aa,aa,fk Tryz.func39,λ_=>aa,λ_=>aa,λ_=>aU.refl _,λw1 Tg b1=> ?_⟩;have bA:aU W w1:=b1;have hY:=XC (kk:=kk) (ks:=ks) (D:=D) (M:=M) (hrun.bI bA) ((hR.kp (Kp.of (U:=UU) (qm.aR bA))).v ha hb) (e:=(x.1.q,x.2.q)) (u:=.agg #[.bool x.1.1,.slice p1 x.1.2.1.length k1,.bool x.1.2.2.1,.slice r1 x.1.2.2.2.length d1,.bool x.2.1,.slice p2 x.2.2.1.length k2,.bool x.2.2.2.1,.slice r2 x.2.2.2.2.length d2]) ⟨_,_,_,_,_,_,_,_,_,_,_,_,_,_,_,_,aa,(e1.kp (Kp.of (U:=UU) bA)).fZ ZU,(e2.kp (Kp.of (U:=UU) bA)).fZ ZV⟩ Bt Js KR m1 m2 m3 m4 m5 hM.sz hst ab ux (qm.aR bA).size;rw[uy] at hY;refine hY.mono ?_;rintro o w2 ⟨rfl,hbut,ad',hrun2⟩;have hnb:=(hrun.bI bA).ty;have hB2:bO w2 b2 Iv [.bool a.1,.slice pa a.2.1.length ca,.bool a.2.2.1,.slice ra a.2.2.2.length da,.bool b.1,.slice pb b.2.1.length cb,.bool b.2.2.1,.slice rb' b.2.2.2.length db,.int .i64 (kn:Int)].toArray:=(hbut.pk b2 (kC.bI bA).lt (λhm=>by obtain⟨t,cs,h1,h2,_⟩:=hnb b2 hm;exact h2 (cK h1 (kC.bI bA)))).trans (kC.bI bA);have hB4:bO w2 b4 nH #[.slice none 0 0,.slice none 0 0]:=(hbut.pk b4 (Ax.bI bA).lt (λhm=>by obtain⟨t,cs,h1,_,h2⟩:=hnb b4 hm;exact h2 (cK h1 (Ax.bI bA)))).trans (Ax.bI bA);refine⟨_,[(2,.pointer (some ⟨b2,0,none⟩)),(4,.pointer (some ⟨b4,0,none⟩)),(6,.pointer (some ⟨g,0,none⟩)),(27,.slice (some ⟨bx,off,none⟩) N cu),(28,.int .i64 (N:Int)),(29,.int .i64 (z:Int))],aa,⟨aa,aa,aa,aa,aa,aa,ag⟩,λp hp e=> ?_,?_⟩
  ·simp only[List.mem_cons,List.not_mem_nil,or_false] at hp;rcases hp with rfl|rfl|rfl|rfl|rfl|rfl <;> cases e
  refine ae ?_;refine VS.Vm aa (N-(z+1)) ab [(2,.pointer (some ⟨b2,0,none⟩)),(4,.pointer (some ⟨b4,0,none⟩)),(6,.pointer (some ⟨g,0,none⟩)),(27,.slice (some ⟨bx,off,none⟩) N cu),(28,.int .i64 (N:Int)),(29,.int .i64 ((z+1:Nat):Int))] ⟨aa,aa,aa,aa,aa,?_,ag⟩ (λw3 k3 b3=> ?_)
  ·rw[<-aD (i:=z) ab];rfl
  have dZ:aU w2 w3:=b3;obtain⟨y1,y2⟩:=Vt (keep:=kn) hst m1 m2 m3 m4 m5;rw[uy] at y1 y2;refine⟨z+1,ad',ab,aa,aa,?_,?_,?_,hB2.bI dZ,hB4.bI dZ,(wi.bI (qm.aR bA) hbut (hrun.bI bA).1).aR dZ⟩
  ·rw[ue hx,CH,uy];exact hrun2.bI dZ
  ·rw[ue hx,CH,uy];exact y1
  ·rw[ue hx,CH,uy];exact y2
 refine VS.aP aa (aA (λe=>hlt (aQ.1 e))) ?_;have Tl:z=N:=ab;have htk:l.take z=l:=dP ab;rw[htk] at hrun hst uy;refine ae ?_;obtain⟨had,vv,rr,uu,hg,hcase⟩:=hrun;have nG:w.heap.size<=g:=ng;rcases hcase with ⟨rfl,rfl,rfl,rfl,hsq,yY,LQ⟩|⟨rb,rfl,rfl,rfl,hsq,LQ,nr,cr,pA,tc,rfl,Le,hRr⟩|⟨vb,rb,rfl,rfl,LQ,⟨off,nq,cq,pre,vsq,spq,rfl,NC,hVr⟩,nr,cr,pA,tc,rfl,Le,hRr⟩|⟨vb,rb,ub,rfl,⟨off,nq,cq,pre,vsq,spq,rfl,NC,hVr⟩,⟨nr,cr,pA,tc,rfl,Le,hRr⟩,nu,cu',CF,DU,rfl,hcU,hUr⟩
 ·refine VO.read aa [.slice none 0 0] aa (λj u hj=> ?_) (wV aa ?_)
  ·match j,hj with
   | 0,hj=>cases hj;exact hg.cell aa
   | j+1,hj=>cases hj
  refine ae ?_;refine VS.xV (KU UU) (λt=>Nat.beq t 22) table (λ_ _ _=>trivial) (λw5 β5 k5 b5 en5=> ?_);have Rp:=hg.bI b5;have BA:=Ax.bI b5;have Th:b4≠g:=λe=>by subst e;exact absurd (cK BA Rp) bq
  have xw:nd (KU UU) 66 [b4,g] [(nH,[.val (.slice none 0 0),.val (.slice none 0 0)]),(Runner,[.val (.slice none 0 0),.val (.slice none 0 0),.val (.slice none 0 0)])] w5:=by
   refine⟨aa,by simp[Th],λj g' c' hj hc=> ?_,λc' hc=> ?_,λc' hc k hk=> ?_⟩
   ·match j,hj,hc with
    | 0,hj,hc=>cases hj;cases hc;exact BA
    | 1,hj,hc=>cases hj;cases hc;exact Rp
    | j+2,hj,_=>simp at hj
   ·simp only[List.mem_cons,List.not_mem_nil,or_false] at hc;rcases hc with rfl|rfl
    ·exact⟨aa,aa⟩
    ·exact⟨aa,aa⟩
   ·simp only[List.mem_cons,List.not_mem_nil,or_false] at hc;rcases hc with rfl|rfl
    ·cases hk
    ·cases hk
  refine⟨[b4,g],_,xw,[(4,.box 132 0),(6,.box 133 0),(44,.val (.slice none 0 0)),(45,.val (.int .i64 ((0:Nat):Int))),(46,.val (.int .i64 0))],⟨?_,?_,⟨_,aa,aa,λi hi=>by cases hi⟩,⟨_,aa,aa,λi hi=>by cases hi⟩,⟨_,aa,aa,λi hi=>by cases hi⟩,ag⟩,?_⟩
  ·refine⟨_,aa,aa,λi hi=> ?_⟩;have:i=132:=by simpa [AV.ids] using hi
   subst this;exact⟨by show 132<=132;omega,by show 132<2*66+2;omega⟩
  ·refine⟨_,aa,aa,λi hi=> ?_⟩;have:i=133:=by simpa [AV.ids] using hi
   subst this;exact⟨by show 132<=133;omega,by show 133<2*66+2;omega⟩
  refine VS.loop (J:=λm L M w'=>L=[(4,.box 132 0),(6,.box 133 0),(44,.val (.slice none 0 0)),(45,.val (.int .i64 ((0:Nat):Int))),(46,.val (.int .i64 0))]/\M=[(132,(nH,[.val (.slice none 0 0),.val (.slice none 0 0)])),(133,(Runner,[.val (.slice none 0 0),.val (.slice none 0 0),.val (.slice none 0 0)]))]) 0 ⟨_,_,?_,?_,?_,?_,⟨aa,aa⟩⟩ ?_
  ·exact cA
  ·exact cA
  ·rfl
  ·exact⟨.lit aa,.lit aa,ag⟩
  rintro m L M w6 ⟨rfl,rfl⟩;refine aj ?_;refine VS.pG (cP _ _) aa (λwz βz kz oz enz=> ?_);have Sy:aU w wz:=wi.bI (qm.aR b5) oz.1 (λx hx=>by simp only[List.mem_cons,List.not_mem_nil,or_false] at hx;rcases hx with rfl|rfl <;> assumption);refine⟨_,_,aa,?_,Sy⟩;show uf w.heap.size wz _ _ (fj (kt a.q b.q kn (cD l)).q (kt a.q b.q kn (cD l)).rows,(kt a.q b.q kn (cD l)).uses);rw[hsq,yY,LQ];exact⟨.inl ⟨aa,aa⟩,.inl ⟨aa,aa⟩⟩
 ·obtain⟨rows,yY⟩:∃ rows,(kt a.q b.q kn (cD l)).rows=rows:=⟨_,aa⟩;rw[yY] at hRr;have nRb:w.heap.size<=rb:=had rb bN;refine VO.read aa [.slice none 0 0] aa (λj u hj=> ?_) (wV aa ?_)
  ·match j,hj with
   | 0,hj=>cases hj;exact hg.cell aa
   | j+1,hj=>cases hj
  refine ae ?_;refine VS.xV (KU UU) (λt=>Nat.beq t 22) table (λ_ _ _=>trivial) (λw5 β5 k5 b5 en5=> ?_);have Rp:=hg.bI b5;have BA:=Ax.bI b5;have Ix:=Le.bI b5;have hR5:=hRr.kp (aL w.heap.size) (Kp.of (U:=UU) b5);have Th:b4≠g:=λe=>by subst e;exact absurd (cK BA Rp) bq
  have h02:b4≠rb:=λe=>by subst e;exact absurd (cK BA Ix) bq
  have Jn:g≠rb:=λe=>by subst e;exact absurd (cK Rp Ix) bq
  have xw:nd (KU UU) 66 [b4,g,rb] [(nH,[.val (.slice none 0 0),.val (.slice none 0 0)]),(Runner,[.val (.slice none 0 0),.row 134 0 nr cr,.val (.slice none 0 0)]),(fX,pA.flatten.map .val++tc.map .val)] w5:=by
   refine⟨aa,by simp[Th,h02,Jn],λj g' c' hj hc=> ?_,λc' hc=> ?_,λc' hc k hk=> ?_⟩
   ·match j,hj,hc with
    | 0,hj,hc=>cases hj;cases hc;exact BA
    | 1,hj,hc=>cases hj;cases hc;exact Rp
    | 2,hj,hc=>cases hj;cases hc;rw[<-bC,ak];exact Ix
    | j+3,hj,_=>simp at hj
   ·simp only[List.mem_cons,List.not_mem_nil,or_false] at hc;rcases hc with rfl|rfl|rfl
    ·exact⟨aa,aa⟩
    ·exact⟨aa,aa⟩
    ·exact⟨aa,by rw[<-bC];exact bP (hR5.all (aL _))⟩
   ·simp only[List.mem_cons,List.not_mem_nil,or_false] at hc;rcases hc with rfl|rfl|rfl
    ·cases hk
    ·have:k=134:=by simpa [aI,AV.eu] using hk
     subst this;exact⟨ab,by show 134<2*66+3;omega⟩
    ·rw[<-bC,aw] at hk;cases hk
  refine⟨[b4,g,rb],_,xw,[(4,.box 132 0),(6,.box 133 0),(44,.val (.slice none 0 0)),(45,.val (.int .i64 ((0:Nat):Int))),(46,.val (.int .i64 0))],⟨?_,?_,⟨_,aa,aa,λi hi=>by cases hi⟩,⟨_,aa,aa,λi hi=>by cases hi⟩,⟨_,aa,aa,λi hi=>by cases hi⟩,ag⟩,?_⟩
  ·refine⟨_,aa,aa,λi hi=> ?_⟩;have:i=132:=by simpa [AV.ids] using hi
   subst this;exact⟨by show 132<=132;omega,by show 132<2*66+3;omega⟩
  ·refine⟨_,aa,aa,λi hi=> ?_⟩;have:i=133:=by simpa [AV.ids] using hi
   subst this;exact⟨by show 132<=133;omega,by show 133<2*66+3;omega⟩
  refine VS.loop (J:=λm L M w'=>L=[(4,.box 132 0),(6,.box 133 0),(44,.val (.slice none 0 0)),(45,.val (.int .i64 ((0:Nat):Int))),(46,.val (.int .i64 0))]/\M=[(132,(nH,[.val (.slice none 0 0),.val (.slice none 0 0)])),(133,(Runner,[.val (.slice none 0 0),.row 134 0 nr cr,.val (.slice none 0 0)])),(134,(fX,pA.flatten.map .val++tc.map .val))]/\bQ (KU UU) w5 w') 0 ⟨_,_,?_,?_,?_,?_,⟨aa,aa,kR _⟩⟩ ?_
  ·exact cA
  ·exact cA
  ·rfl
  ·exact⟨.lit aa,.lit aa,.append (.vals _) (.vals _),ag⟩
  rintro m L M w6 ⟨rfl,rfl,kw6⟩;refine aj ?_;refine VS.pG (cP _ _) aa (λwz βz kz oz enz=> ?_);have Sy:aU w wz:=wi.bI (qm.aR b5) oz.1 (λx hx=>by simp only[List.mem_cons,List.not_mem_nil,or_false] at hx;rcases hx with rfl|rfl|rfl <;> assumption);obtain⟨o5,o6⟩:=iy (enz.own 134 _ _ aa) 2 rb aa aa;replace o5:βz 134=rb:=o5;rw[bC,ak] at o6;refine⟨_,_,aa,?_,Sy⟩;show uf w.heap.size wz _ _ (fj (kt a.q b.q kn (cD l)).q (kt a.q b.q kn (cD l)).rows,(kt a.q b.q kn (cD l)).uses);rw[hsq,yY,LQ];exact⟨.inr ⟨rb,nRb,_,_,_,_,au (λg=>Value.slice (some ⟨g,0,none⟩) nr cr) o5,o6,(hR5.a.kp (aL _) bm).o βz⟩,.inl ⟨aa,aa⟩⟩
 ·obtain⟨q,hsq⟩:∃ q,(kt a.q b.q kn (cD l)).q=q:=⟨_,aa⟩;obtain⟨rows,yY⟩:∃ rows,(kt a.q b.q kn (cD l)).rows=rows:=⟨_,aa⟩;rw[yY] at hRr;rw[hsq] at hVr;have nRb:w.heap.size<=rb:=had rb bN;have hv4:vb≠b4:=λe=>by subst e;exact absurd (cK NC Ax) bq
  have hvg:vb≠g:=λe=>by subst e;exact absurd (cK NC hg) bq
  have hvr:vb≠rb:=λe=>by subst e;exact absurd (cK NC Le) bq
  refine VO.read aa [.slice (some ⟨vb,off,none⟩) nq cq] aa (λj u hj=> ?_) (wV aa ?_)
  ·match j,hj with
   | 0,hj=>cases hj;exact hg.cell aa
   | j+1,hj=>cases hj
  refine ae ?_;refine VS.xV (KU UU) (λt=>Nat.beq t 22) table (λ_ _ _=>trivial) (λw5 β5 k5 b5 en5=> ?_);have Rp:=hg.bI b5;have BA:=Ax.bI b5;have Ix:=Le.bI b5;have hR5:=hRr.kp (aL w.heap.size) (Kp.of (U:=UU) b5);have hcV5:=NC.bI b5;have hV5:=hVr.kp (bt w.heap.size) (Kp.of (U:=UU) b5);have Th:b4≠g:=λe=>by subst e;exact absurd (cK BA Rp) bq
  have h02:b4≠rb:=λe=>by subst e;exact absurd (cK BA Ix) bq
  have Jn:g≠rb:=λe=>by subst e;exact absurd (cK Rp Ix) bq
  have xw:nd (KU UU) 66 [b4,g,rb] [(nH,[.val (.slice none 0 0),.val (.slice none 0 0)]),(Runner,[.val (.slice (some ⟨vb,off,none⟩) nq cq),.row 134 0 nr cr,.val (.slice none 0 0)]),(fX,pA.flatten.map .val++tc.map .val)] w5:=by
   refine⟨aa,by simp[Th,h02,Jn],λj g' c' hj hc=> ?_,λc' hc=> ?_,λc' hc k hk=> ?_⟩
   ·match j,hj,hc with
    | 0,hj,hc=>cases hj;cases hc;exact BA
    | 1,hj,hc=>cases hj;cases hc;exact Rp
    | 2,hj,hc=>cases hj;cases hc;rw[<-bC,ak];exact Ix
    | j+3,hj,_=>simp at hj
   ·simp only[List.mem_cons,List.not_mem_nil,or_false] at hc;rcases hc with rfl|rfl|rfl
    ·exact⟨aa,aa⟩
    ·exact⟨aa,aa⟩
    ·exact⟨aa,by rw[<-bC];exact bP (hR5.all (aL _))⟩
   ·simp only[List.mem_cons,List.not_mem_nil,or_false] at hc;rcases hc with rfl|rfl|rfl
    ·cases hk
    ·have:k=134:=by simpa [aI,AV.eu] using hk
     subst this;exact⟨ab,by show 134<2*66+3;omega⟩
    ·rw[<-bC,aw] at hk;cases hk
  refine⟨[b4,g,rb],_,xw,[(4,.box 132 0),(6,.box 133 0),(44,.val (.slice (some ⟨vb,off,none⟩) nq cq)),(45,.val (.int .i64 ((nq:Nat):Int))),(46,.val (.int .i64 0))],⟨?_,?_,⟨_,aa,aa,λi hi=>by cases hi⟩,⟨_,aa,aa,λi hi=>by cases hi⟩,⟨_,aa,aa,λi hi=>by cases hi⟩,ag⟩,?_⟩
  ·refine⟨_,aa,aa,λi hi=> ?_⟩;have:i=132:=by simpa [AV.ids] using hi
   subst this;exact⟨by show 132<=132;omega,by show 132<2*66+3;omega⟩
  ·refine⟨_,aa,aa,λi hi=> ?_⟩;have:i=133:=by simpa [AV.ids] using hi
   subst this;exact⟨by show 132<=133;omega,by show 133<2*66+3;omega⟩
  refine VS.loop (J:=λm L M w'=>∃ (z:Nat) (vs:List (List Value)) (ug:List bh),z<=nq/\m=nq-z/\L=[(4,.box 132 0),(6,.box 133 0),(44,.val (.slice (some ⟨vb,off,none⟩) nq cq)),(45,.val (.int .i64 ((nq:Nat):Int))),(46,.val (.int .i64 (z:Int)))]/\M=[(132,(nH,[.val (.slice none 0 0),.val (.slice none 0 0)])),(133,(Runner,[.val (.slice (some ⟨vb,off,none⟩) nq cq),.row 134 0 nr cr,.val (.slice none 0 0)])),(134,(fX,vs.flatten.map .val++tc.map .val))]/\vW (gF w.heap.size) 28 w' nr cr vs (tc.map .val) ug/\fj (q.drop z) ug=fj q rows/\bQ (KU UU) w5 w') nq ⟨_,_,?_,?_,?_,?_,⟨0,pA,rows,fH _,aa,aa,aa,hR5.a,aa,kR _⟩⟩ ?_
  ·exact cA
  ·exact cA
  ·rfl
  ·exact⟨.lit aa,.lit aa,.append (.vals _) (.vals _),ag⟩
  rintro m L M w6 ⟨z',vs,ug,Ro,rfl,rfl,rfl,CI,jG,kw6⟩;refine aj ?_;by_cases PW:z' <nq
  ·refine VS.aV aa (aE (aQ.2 PW)) ?_;obtain⟨pp,gP⟩:∃ pp,q[z']? =some pp:=⟨_,ba (by rw[<-hV5.len];exact PW)⟩;obtain⟨cs,hcs,hE5⟩:=vin_at hcV5 hV5 gP;obtain⟨s9,p9,n9,c9,t9,y9,m9,d9,rfl,XA⟩:=hE5;refine aj ?_;refine VO.cond aa dQ (wV aa ?_);refine VO.iR aa [.int .i64 (pp.1:Int),.bool s9,.slice p9 n9 c9,.bool t9,.slice y9 m9 d9] aa (sG hcV5.lt (by simp[hv4,hvg,hvr]) (MA hcs)) (wV aa ?_);refine aj ?_
   have KE:pp.1<nr:=by
    rw[hRr.len];exact (hst.el pp (by rw[hsq];exact cX gP)).2.2.2 |> λh=>by rw[yY] at h;exact h
   refine VO.cond aa dQ (wV aa ?_);have jA:=CI.len;obtain⟨rq,Ld⟩:∃ rq,ug[pp.1]? =some rq:=⟨_,ba (by rw[<-jA];exact KE)⟩;obtain⟨CE,sX,vL⟩:=CI.el.at pp.1 rq Ld;have lS:=CI.fl;have XB:=CI.le;refine VO.cond aa (by show 0+((pp.1:Int)).toNat*28+24+4<=_;rw[lS,dC];omega) (VO.fi 134 aa (oW (new:=[.bool s9,.slice p9 n9 c9,.bool t9,.slice y9 m9 d9]) (o:=24) (CI.el.lens (aL _)) sX (bM aa)) (wV aa ?_));refine aj ?_;refine VS.back (nq-(z' +1)) ab ⟨_,_,?_,?_,?_,?_,⟨z' +1,vs.set pp.1 (CE.take 24++(([.bool s9,.slice p9 n9 c9,.bool t9,.slice y9 m9 d9]:List Value)++CE.drop (24+([.bool s9,.slice p9 n9 c9,.bool t9,.slice y9 m9 d9]:List Value).length))),ug.modify pp.1 (λr=>{ r with closing:=pp.2 }),ab,aa,aa,aa,?_,?_,kw6⟩⟩
   ·refine⟨aa,aa,aa,aa,?_,ag⟩;rw[<-aD (i:=z') (by have:=hV5.cm;have:=hV5.le;omega)];rfl
   ·exact cA
   ·rfl
   ·exact⟨.lit aa,.lit aa,.append (.vals _) (.vals _),ag⟩
   ·refine⟨by rw[oy];exact jA,by rw[gj Ld];exact CI.el.set (QC vL ⟨_,_,_,_,_,_,_,_,aa,XA.kp kw6⟩),CI.so,CI.sl,CI.le,CI.cm,?_⟩;rw[bB,bu,fb (qY (CI.el.lens (aL _)) (QD ((aL _).len vL) rfl)),pM];rw[bB,bu,fb (CI.el.lens (aL _))] at lS;exact lS
   ·rw[<-jG];obtain⟨hlq,hqe⟩:=cQ.1 gP;rw[mG hlq,hqe];rfl
  refine VS.aP aa (aA (λe=>PW (aQ.1 e))) ?_;have hzn:z'=nq:=ab;have hdn:q.drop z'=[]:=ly (by rw[<-hV5.len];omega);rw[hdn] at jG;replace jG:ug=fj q rows:=jG;refine aj ?_;refine VS.pG (cP _ _) aa (λwz βz kz oz enz=> ?_);have Sy:aU w wz:=wi.bI (qm.aR b5) oz.1 (λx hx=>by simp only[List.mem_cons,List.not_mem_nil,or_false] at hx;rcases hx with rfl|rfl|rfl <;> assumption);obtain⟨o5,o6⟩:=iy (enz.own 134 _ _ aa) 2 rb aa aa;replace o5:βz 134=rb:=o5;rw[bC,ak] at o6;refine⟨_,_,aa,?_,Sy⟩;show uf w.heap.size wz _ _ (fj (kt a.q b.q kn (cD l)).q (kt a.q b.q kn (cD l)).rows,(kt a.q b.q kn (cD l)).uses);rw[hsq,yY,LQ];exact⟨.inr ⟨rb,nRb,_,_,_,_,au (λg=>Value.slice (some ⟨g,0,none⟩) nr cr) o5,o6,((jG▸CI).kp (aL _) bm).o βz⟩,.inl ⟨aa,aa⟩⟩
 ·obtain⟨q,hsq⟩:∃ q,(kt a.q b.q kn (cD l)).q=q:=⟨_,aa⟩;obtain⟨rows,yY⟩:∃ rows,(kt a.q b.q kn (cD l)).rows=rows:=⟨_,aa⟩;obtain⟨us,LQ⟩:∃ us,(kt a.q b.q kn (cD l)).uses=us:=⟨_,aa⟩;rw[yY] at hRr;rw[hsq] at hVr;rw[LQ] at hUr;have nRb:w.heap.size<=rb:=had rb bN;have nUb:w.heap.size<=ub:=had ub bN;have hv4:vb≠b4:=λe=>by subst e;exact absurd (cK NC Ax) bq
  have hvg:vb≠g:=λe=>by subst e;exact absurd (cK NC hg) bq
  have hvr:vb≠rb:=λe=>by subst e;exact absurd (cK NC Le) bq
  have hu4:ub≠b4:=λe=>by subst e;exact absurd (cK hcU Ax) bq
  have hug:ub≠g:=λe=>by subst e;exact absurd (cK hcU hg) bq
  have hur:ub≠rb:=λe=>by subst e;exact absurd (cK hcU Le) bq
  refine VO.read aa [.slice (some ⟨vb,off,none⟩) nq cq] aa (λj u hj=> ?_) (wV aa ?_)
  ·match j,hj with
   | 0,hj=>cases hj;exact hg.cell aa
   | j+1,hj=>cases hj
  refine ae ?_;refine VS.xV (KU UU) (λt=>Nat.beq t 22) table (λ_ _ _=>trivial) (λw5 β5 k5 b5 en5=> ?_);have Rp:=hg.bI b5;have BA:=Ax.bI b5;have Ix:=Le.bI b5;have hR5:=hRr.kp (aL w.heap.size) (Kp.of (U:=UU) b5);have hcV5:=NC.bI b5;have hV5:=hVr.kp (bt w.heap.size) (Kp.of (U:=UU) b5);have hcU5:=hcU.bI b5;have hU5:=hUr.kp (fD w.heap.size) (Kp.of (U:=UU) b5);have Th:b4≠g:=λe=>by subst e;exact absurd (cK BA Rp) bq
  have h02:b4≠rb:=λe=>by subst e;exact absurd (cK BA Ix) bq
  have Jn:g≠rb:=λe=>by subst e;exact absurd (cK Rp Ix) bq
  have xw:nd (KU UU) 66 [b4,g,rb] [(nH,[.val (.slice none 0 0),.val (.slice none 0 0)]),(Runner,[.val (.slice (some ⟨vb,off,none⟩) nq cq),.row 134 0 nr cr,.val (.slice (some ⟨ub,0,none⟩) nu cu')]),(fX,pA.flatten.map .val++tc.map .val)] w5:=by
   refine⟨aa,by simp[Th,h02,Jn],λj g' c' hj hc=> ?_,λc' hc=> ?_,λc' hc k hk=> ?_⟩
   ·match j,hj,hc with
    | 0,hj,hc=>cases hj;cases hc;exact BA
    | 1,hj,hc=>cases hj;cases hc;exact Rp
    | 2,hj,hc=>cases hj;cases hc;rw[<-bC,ak];exact Ix
    | j+3,hj,_=>simp at hj
   ·simp only[List.mem_cons,List.not_mem_nil,or_false] at hc;rcases hc with rfl|rfl|rfl
    ·exact⟨aa,aa⟩
    ·exact⟨aa,aa⟩
    ·exact⟨aa,by rw[<-bC];exact bP (hR5.all (aL _))⟩
   ·simp only[List.mem_cons,List.not_mem_nil,or_false] at hc;rcases hc with rfl|rfl|rfl
    ·cases hk
    ·have:k=134:=by simpa [aI,AV.eu] using hk
     subst this;exact⟨ab,by show 134<2*66+3;omega⟩
    ·rw[<-bC,aw] at hk;cases hk
  refine⟨[b4,g,rb],_,xw,[(4,.box 132 0),(6,.box 133 0),(44,.val (.slice (some ⟨vb,off,none⟩) nq cq)),(45,.val (.int .i64 ((nq:Nat):Int))),(46,.val (.int .i64 0))],⟨?_,?_,⟨_,aa,aa,λi hi=>by cases hi⟩,⟨_,aa,aa,λi hi=>by cases hi⟩,⟨_,aa,aa,λi hi=>by cases hi⟩,ag⟩,?_⟩
  ·refine⟨_,aa,aa,λi hi=> ?_⟩;have:i=132:=by simpa [AV.ids] using hi
   subst this;exact⟨by show 132<=132;omega,by show 132<2*66+3;omega⟩
  ·refine⟨_,aa,aa,λi hi=> ?_⟩;have:i=133:=by simpa [AV.ids] using hi
   subst this;exact⟨by show 132<=133;omega,by show 133<2*66+3;omega⟩
  refine VS.loop (J:=λm L M w'=>∃ (z:Nat) (vs:List (List Value)) (ug:List bh),z<=nq/\m=nq-z/\L=[(4,.box 132 0),(6,.box 133 0),(44,.val (.slice (some ⟨vb,off,none⟩) nq cq)),(45,.val (.int .i64 ((nq:Nat):Int))),(46,.val (.int .i64 (z:Int)))]/\M=[(132,(nH,[.val (.slice none 0 0),.val (.slice none 0 0)])),(133,(Runner,[.val (.slice (some ⟨vb,off,none⟩) nq cq),.row 134 0 nr cr,.val (.slice (some ⟨ub,0,none⟩) nu cu')])),(134,(fX,vs.flatten.map .val++tc.map .val))]/\vW (gF w.heap.size) 28 w' nr cr vs (tc.map .val) ug/\fj (q.drop z) ug=fj q rows/\bQ (KU UU) w5 w') nq ⟨_,_,?_,?_,?_,?_,⟨0,pA,rows,fH _,aa,aa,aa,hR5.a,aa,kR _⟩⟩ ?_
  ·exact cA
  ·exact cA
  ·rfl
  ·exact⟨.lit aa,.lit aa,.append (.vals _) (.vals _),ag⟩
  rintro m L M w6 ⟨z',vs,ug,Ro,rfl,rfl,rfl,CI,jG,kw6⟩;refine aj ?_;by_cases PW:z' <nq
  ·refine VS.aV aa (aE (aQ.2 PW)) ?_;obtain⟨pp,gP⟩:∃ pp,q[z']? =some pp:=⟨_,ba (by rw[<-hV5.len];exact PW)⟩;obtain⟨cs,hcs,hE5⟩:=vin_at hcV5 hV5 gP;obtain⟨s9,p9,n9,c9,t9,y9,m9,d9,rfl,XA⟩:=hE5;refine aj ?_;refine VO.cond aa dQ (wV aa ?_);refine VO.iR aa [.int .i64 (pp.1:Int),.bool s9,.slice p9 n9 c9,.bool t9,.slice y9 m9 d9] aa (sG hcV5.lt (by simp[hv4,hvg,hvr]) (MA hcs)) (wV aa ?_);refine aj ?_
   have KE:pp.1<nr:=by
    rw[hRr.len];exact (hst.el pp (by rw[hsq];exact cX gP)).2.2.2 |> λh=>by rw[yY] at h;exact h
   refine VO.cond aa dQ (wV aa ?_);have jA:=CI.len;obtain⟨rq,Ld⟩:∃ rq,ug[pp.1]? =some rq:=⟨_,ba (by rw[<-jA];exact KE)⟩;obtain⟨CE,sX,vL⟩:=CI.el.at pp.1 rq Ld;have lS:=CI.fl;have XB:=CI.le;refine VO.cond aa (by show 0+((pp.1:Int)).toNat*28+24+4<=_;rw[lS,dC];omega) (VO.fi 134 aa (oW (new:=[.bool s9,.slice p9 n9 c9,.bool t9,.slice y9 m9 d9]) (o:=24) (CI.el.lens (aL _)) sX (bM aa)) (wV aa ?_));refine aj ?_;refine VS.back (nq-(z' +1)) ab ⟨_,_,?_,?_,?_,?_,⟨z' +1,vs.set pp.1 (CE.take 24++(([.bool s9,.slice p9 n9 c9,.bool t9,.slice y9 m9 d9]:List Value)++CE.drop (24+([.bool s9,.slice p9 n9 c9,.bool t9,.slice y9 m9 d9]:List Value).length))),ug.modify pp.1 (λr=>{ r with closing:=pp.2 }),ab,aa,aa,aa,?_,?_,kw6⟩⟩
   ·refine⟨aa,aa,aa,aa,?_,ag⟩;rw[<-aD (i:=z') (by have:=hV5.cm;have:=hV5.le;omega)];rfl
   ·exact cA
   ·rfl
   ·exact⟨.lit aa,.lit aa,.append (.vals _) (.vals _),ag⟩
   ·refine⟨by rw[oy];exact jA,by rw[gj Ld];exact CI.el.set (QC vL ⟨_,_,_,_,_,_,_,_,aa,XA.kp kw6⟩),CI.so,CI.sl,CI.le,CI.cm,?_⟩;rw[bB,bu,fb (qY (CI.el.lens (aL _)) (QD ((aL _).len vL) rfl)),pM];rw[bB,bu,fb (CI.el.lens (aL _))] at lS;exact lS
   ·rw[<-jG];obtain⟨hlq,hqe⟩:=cQ.1 gP;rw[mG hlq,hqe];rfl
  refine VS.aP aa (aA (λe=>PW (aQ.1 e))) ?_;have hzn:z'=nq:=ab;have hdn:q.drop z'=[]:=ly (by rw[<-hV5.len];omega);rw[hdn] at jG;replace jG:ug=fj q rows:=jG;refine aj ?_;refine VS.pG (cP _ _) aa (λwz βz kz oz enz=> ?_);have Sy:aU w wz:=wi.bI (qm.aR b5) oz.1 (λx hx=>by simp only[List.mem_cons,List.not_mem_nil,or_false] at hx;rcases hx with rfl|rfl|rfl <;> assumption);obtain⟨o5,o6⟩:=iy (enz.own 134 _ _ aa) 2 rb aa aa;replace o5:βz 134=rb:=o5;rw[bC,ak] at o6;refine⟨_,_,aa,?_,Sy⟩;show uf w.heap.size wz _ _ (fj (kt a.q b.q kn (cD l)).q (kt a.q b.q kn (cD l)).rows,(kt a.q b.q kn (cD l)).uses);rw[hsq,yY,LQ];exact⟨.inr ⟨rb,nRb,_,_,_,_,au (λg=>Value.slice (some ⟨g,0,none⟩) nr cr) o5,o6,((jG▸CI).kp (aL _) bm).o βz⟩,.inr ⟨ub,nUb,_,_,_,_,aa,(oz.1.pk ub hcU5.lt (by simp[hu4,hug,hur])).trans hcU5,hU5.kp (fD _) bm⟩⟩
end
section
open Go.RowKit
theorem Vz (x:Rat):x*(((x.den:Nat):Int):Rat)=((x.num:Int):Rat):=by
 have h:((((x.den:Nat):Int):Int):Rat)≠0:=λe=>by
  have:((x.den:Int):Rat)=((0:Int):Rat):=e;have:=Rat.intCast_inj.1 this;have:=x.den_nz;omega
 conv=>lhs;lhs;rw[<-Rat.num_divInt_den x,Rat.divInt_eq_div]
 exact Rat.div_mul_cancel h
variable {D:Nat} {x:Rat}
theorem Iz.MB (h:x.den∣D):Iz D x:=by
 obtain⟨k,rfl⟩:=h;refine⟨x.num*(k:Int),?_⟩;rw[rO,CX,CX,<-Vz x];grind
variable {E:Nat}
theorem Iz.up (h:Iz D x):Iz (D*E) x:=by
 obtain⟨n,hn⟩:=h;exact⟨n*(E:Int),by rw[rO,CX,CX,<-hn];grind⟩
theorem rsz_of {M kk:Nat} (hD:0<D) (hI:Iz D x) (h1: -((M:Int):Rat)<=x) (h2:x<=((M:Int):Rat)) (hk:M*D<4294967296^kk) (hk2:D<4294967296^kk):fI x kk:=by
 obtain⟨n,hn⟩:=hI
 have hD':(0:Rat)<((D:Int):Rat):=by
  have:((0:Int):Rat)<((D:Int):Rat):=Rat.intCast_lt_intCast.2 ab;exact this
 have hDn:((D:Int):Rat)≠0:=cY
 have hx:x=Rat.divInt n (D:Int):=by
  rw[Rat.divInt_eq_div,<-hn,Rat.div_def,Rat.mul_assoc,Rat.mul_inv_cancel _ hDn,Rat.mul_one]
 have b1:n<=(M:Int)*(D:Int):=by
  have:=YF h2 (Rat.le_of_lt hD');rw[hn,<-CX] at this;exact Gd.1 this
 have b2: -((M:Int)*(D:Int))<=n:=by
  have:=YF h1 (Rat.le_of_lt hD');rw[hn,<-Rat.intCast_neg,<-CX] at this;have:=Gd.1 this;rw[Int.neg_mul] at this;exact this
 rw[hx];refine tM (Sz.of_lt ?_) (Sz.of_lt (by simpa using hk2)) ab
 have:n.natAbs<=M*D:=by
  have e:((M*D:Nat):Int)=(M:Int)*(D:Int):=rO ..;omega
 omega
def CJ:List (Rat×Rat)->Nat
 | []=>1
 | e::l=>e.1.den*e.2.den*CJ l
theorem QE:∀ l:List (Rat×Rat),0<CJ l
 | []=>bq
 | e::l=>CZ (CZ e.1.den_pos e.2.den_pos) (QE l)
theorem QF:∀ {l:List (Rat×Rat)} {e:Rat×Rat},e∈l->(e.1.den*e.2.den)∣CJ l
 | x::l,e,h=>by
   rcases dW.1 h with rfl|h
   ·exact Nat.dvd_mul_right ..
   ·exact Nat.dvd_mul_left_of_dvd (QF h) _
theorem Iz.mul {a b:Nat} {y:Rat} (h:Iz a x) (k:Iz b y):Iz (a*b) (x*y):=by
 obtain⟨n,hn⟩:=h;obtain⟨m,hm⟩:=k;exact⟨n*m,by rw[rO,CX,CX,<-hn,<-hm];grind⟩
theorem Iz.dvd (h:Iz D x) (k:D∣E):Iz E x:=by
 obtain⟨c,rfl⟩:=k;exact h.up
theorem Iy (S F e:Rat):aH S F e=F\/aH S F e=S*e\/aH S F e=0:=by
 rw[show aH S F e=(if jO 0 (if jO (S*e) F=true then S*e else F)=true then 0 else (if jO (S*e) F=true then S*e else F)) from aa];by_cases h:jO (S*e) F=true
 ·simp only[if_pos h]
  split <;> simp
 ·simp only[if_neg h]
  split <;> simp
theorem Tm {k:Nat} (h:x.num.natAbs<=4294967296^k): -(((4294967296^k:Nat):Int):Rat)<=x/\x<=(((4294967296^k:Nat):Int):Rat):=by
 have hd:(1:Rat)<=((x.den:Int):Rat):=by
  have:((1:Int):Rat)<=((x.den:Int):Rat):=Gd.2 (by have:=x.den_pos;omega);exact this
 have hm:=Vz x
 have hN0:(0:Rat)<=(((4294967296^k:Nat):Int):Rat):=by
  have:((0:Int):Rat)<=(((4294967296^k:Nat):Int):Rat):=Gd.2 ab;exact this
 have h1:((x.num:Int):Rat)<=(((4294967296^k:Nat):Int):Rat):=Gd.2 ab
 have h2: -(((4294967296^k:Nat):Int):Rat)<=((x.num:Int):Rat):=by
  rw[<-Rat.intCast_neg];exact Gd.2 ab
 generalize (((4294967296^k:Nat):Int):Rat)=N at*;generalize ((x.num:Int):Rat)=n at*;generalize ((((x.den:Nat):Int):Int):Rat)=d at*
 have h3:N<=N*d:=by
  have:=Rat.mul_le_mul_of_nonneg_left hd hN0;rw[Rat.mul_one] at this;exact this
 constructor
 ·refine Ak.1 λhlt=> ?_;have:=Rat.mul_lt_mul_of_pos_right hlt (show 0<d by grind);grind
 ·refine Ak.1 λhlt=> ?_;have:=Rat.mul_lt_mul_of_pos_right hlt (show 0<d by grind);grind
def Lm (k:Nat) (x:Rat):Prop:=x.num.natAbs<=4294967296^k/\x.den<=4294967296^k
theorem VB {k:Nat}:∀ {l:List (Rat×Rat)},(∀ e∈l,Lm k e.1/\Lm k e.2)->CJ l<=4294967296^(2*k*l.length)
 | [],_=>by simp[CJ]
 | e::l,h=>by
   obtain⟨h1,h2⟩:=h e bN;have h3:=VB (l:=l) λx hx=>h x (by simp[hx])
   have e1:4294967296^(2*k*(e::l).length)=(4294967296^k*4294967296^k)*4294967296^(2*k*l.length):=by
    rw[<-oB,<-oB];congr 1;rw[fh];grind
   rw[e1];exact vx (vx h1.2 h2.2) h3
theorem numsOk {k n:Nat} {S F:Rat} {l:List (Rat×Rat)} (hS:Lm k S) (hF:Lm k F) (h0:0<=S) (h1:S<=1) (hl:∀ e∈l,Lm k e.1/\Lm k e.2) (hn:l.length<=n) (hk:1<=k):
  Iw (S.den*F.den*CJ l) (((4294967296^k:Nat):Int):Rat) S F (2*k*n+3*k+1) l:=by
 obtain⟨N,hN⟩:∃ N,N=4294967296^k:=⟨_,aa⟩;have hNk:4294967296<=N:=by rw[hN];exact Nat.le_self_pow ab _
 have hN0:(0:Rat)<=((N:Int):Rat):=by
  have:((0:Int):Rat)<=((N:Int):Rat):=Gd.2 ab;exact this
 refine⟨λe he=> ?_,λx hI my UR=> ?_⟩
 ·rw[<-hN];obtain⟨he1,he2⟩:=hl e he;have b1:=Tm he1.1;have b2:=Tm he2.1;have b3:=Tm hF.1;rw[<-hN] at b1 b2 b3;have hd:=QF he
  have hSe:S*e.2<=((N:Int):Rat):=by
   by_cases h:0<=e.2
   ·have:=YF h1 h;rw[Rat.one_mul] at this;exact Rat.le_trans this b2.2
   ·have h':0<=-e.2:=by grind
    have:=Rat.mul_nonneg h0 h';rw[Rat.mul_neg] at this;grind
  have hIe:Iz (S.den*F.den*CJ l) (S*e.2):=((Iz.MB (Nat.dvd_refl S.den)).mul (Iz.MB (Nat.dvd_refl e.2.den))).dvd (by
   obtain⟨c,hc⟩:=hd;rw[hc];exact⟨F.den*e.1.den*c,cY⟩)
  refine⟨?_,?_,Iz.MB ?_,b1.1,b1.2⟩
  ·rcases Iy S F e.2 with h|h|h <;> rw[h]
   ·exact Iz.MB ⟨S.den*CJ l,cY⟩
   ·exact hIe
   ·exact Iz.zero
  ·rcases Iy S F e.2 with h|h|h <;> rw[h]
   ·exact b3.2
   ·exact hSe
   ·exact hN0
  ·obtain⟨c,hc⟩:=hd;rw[hc];exact⟨S.den*F.den*e.2.den*c,cY⟩
 ·rw[<-hN] at my UR;have mD:=VB hl;have hpow:4294967296^(2*k*l.length)<=4294967296^(2*k*n):=vm ab (kS _ hn);have hD:S.den*F.den*CJ l<=N*N*4294967296^(2*k*n):=vx (vx (by rw[hN];exact hS.2) (by rw[hN];exact hF.2)) (bj mD hpow)
  have e1:4294967296^(2*k*n+3*k+1)=(N*N*4294967296^(2*k*n))*(N*4294967296):=by
   rw[hN,show 2*k*n+3*k+1=k+k+2*k*n+(k+1) by omega,oB,oB,oB,iL]
  have hP:0<N*N*4294967296^(2*k*n):=CZ (CZ ab ab) (vB ab);have e2:(((N+N:Nat):Int):Rat)=((N:Int):Rat)+((N:Int):Rat):=by rw[<-Rat.intCast_add];rfl
  refine rsz_of (M:=N+N) (CZ (CZ S.den_pos F.den_pos) (QE l)) hI (by rw[e2];exact my) (by rw[e2];exact UR) ?_ ?_
  ·rw[e1]
   calc (N+N)*(S.den*F.den*CJ l)<=(N+N)*(N*N*4294967296^(2*k*n)):=kS _ hD
    _<(N*4294967296)*(N*N*4294967296^(2*k*n)):=YI ab hP
    _=_:=jb _ _
  ·rw[e1]
   calc S.den*F.den*CJ l<=(N*N*4294967296^(2*k*n))*1:=by rw[yD];exact hD
    _<_:=Nat.mul_lt_mul_of_pos_left ab hP
end
end Go.Proofs.YtabalinjfgcfeaaGreat
