/-DD of the proof,laid behind one another. -/
import Derived.Test.YtlifeokjcgngjaaGreatKAdjustKnown7
import Derived.Shelf.Sort.Plain
import Derived.Shelf.Slices.In.SortNone
import Derived.Sort.OwnSorted
import Derived.Test.YtlifeokjcgngjaaGreatProg
set_option linter.all false
set_option maxHeartbeats 64000000
namespace Go.Proofs.YtlifeokjcgngjaaGreat
section
open Go.Shelf
def shelfRen:Go.Shelf.Ren:=⟨λ|190=>130|125=>189|258=>188|128=>257|129=>258|302=>248|303=>249|304=>250|305=>251|306=>252|307=>253|308=>254|309=>255|310=>256|333=>290|329=>291|330=>292|334=>293|335=>294|336=>295|344=>312|n=>n,λ|31=>29|9=>9|3=>3|46=>251|0=>0|51=>78|53=>250|4=>4|183=>356|182=>355|131=>361|5=>5|218=>390|222=>394|228=>409|229=>410|n=>n,λ|n=>n⟩
theorem Jw:Go.Proofs.Lays.n190 Tryz.prog shelfRen:={
 mixed:=by kernel_rfl
 f125:=Tryz.func189.trans (ak some (by kernel_rfl))
 f128:=Tryz.func257.trans (ak some (by kernel_rfl))
 f129:=Tryz.func258.trans (ak some (by kernel_rfl))
 f190:=Tryz.func130.trans (ak some (by kernel_rfl))
 f258:=Tryz.func188.trans (ak some (by kernel_rfl))
 f302:=Tryz.func248.trans (ak some (by kernel_rfl))
 f303:=Tryz.func249.trans (ak some (by kernel_rfl))
 f304:=Tryz.func250.trans (ak some (by kernel_rfl))
 f305:=Tryz.func251.trans (ak some (by kernel_rfl))
 f306:=Tryz.func252.trans (ak some (by kernel_rfl))
 f307:=Tryz.func253.trans (ak some (by kernel_rfl))
 f308:=Tryz.func254.trans (ak some (by kernel_rfl))
 f309:=Tryz.func255.trans (ak some (by kernel_rfl))
 f310:=Tryz.func256.trans (ak some (by kernel_rfl))
 f329:=Tryz.func291.trans (ak some (by kernel_rfl))
 f330:=Tryz.func292.trans (ak some (by kernel_rfl))
 f333:=Tryz.func290.trans (ak some (by kernel_rfl))
 f334:=Tryz.func293.trans (ak some (by kernel_rfl))
 f335:=Tryz.func294.trans (ak some (by kernel_rfl))
 f336:=Tryz.func295.trans (ak some (by kernel_rfl))
 f344:=Tryz.func312.trans (ak some (by kernel_rfl))
 t0:=Tryz.underlying0
 a0:=Tryz.isAgg0
 z0:=Tryz.sizeOf0
 v0:=Tryz.zeroValue0
 t3:=Tryz.underlying3
 a3:=Tryz.isAgg3
 z3:=Tryz.sizeOf3
 v3:=Tryz.zeroValue3
 t4:=Tryz.underlying4
 a4:=Tryz.isAgg4
 z4:=Tryz.sizeOf4
 v4:=Tryz.zeroValue4
 t5:=Ls
 a5:=Tryz.isAgg5
 z5:=Tryz.sizeOf5
 v5:=Tryz.zeroValue5
 t9:=Tryz.underlying9
 a9:=Tryz.isAgg9
 z9:=Tryz.sizeOf9
 v9:=Tryz.zeroValue9
 t31:=Tryz.underlying29
 a31:=Tryz.isAgg29
 z31:=Tryz.sizeOf29
 v31:=Tryz.zeroValue29
 t46:=Tryz.underlying251
 a46:=Tryz.isAgg251
 z46:=Tryz.sizeOf251
 v46:=Tryz.zeroValue251
 t51:=Tryz.underlying78
 a51:=Tryz.isAgg78
 z51:=Tryz.sizeOf78
 v51:=Tryz.zeroValue78
 t53:=Tryz.underlying250
 a53:=Tryz.isAgg250
 z53:=Tryz.sizeOf250
 v53:=Tryz.zeroValue250
 t131:=Tryz.underlying361
 a131:=Tryz.isAgg361
 z131:=Tryz.sizeOf361
 v131:=Tryz.zeroValue361
 t182:=Tryz.underlying355
 a182:=Tryz.isAgg355
 z182:=Tryz.sizeOf355
 v182:=Tryz.zeroValue355
 t183:=Tryz.underlying356
 a183:=Tryz.isAgg356
 z183:=Tryz.sizeOf356
 v183:=Tryz.zeroValue356
 t218:=Tryz.underlying390
 a218:=Tryz.isAgg390
 z218:=Tryz.sizeOf390
 v218:=Tryz.zeroValue390
 t222:=Tryz.underlying394
 a222:=Tryz.isAgg394
 z222:=Tryz.sizeOf394
 v222:=Tryz.zeroValue394
 t228:=Tryz.underlying409
 a228:=Tryz.isAgg409
 z228:=Tryz.sizeOf409
 v228:=Tryz.zeroValue409
 t229:=Tryz.underlying410
 a229:=Tryz.isAgg410
 z229:=Tryz.sizeOf410
 v229:=Tryz.zeroValue410 }
end
set_option maxRecDepth 4000
section
open Go.RowKit Go.Sort
attribute [local irreducible] aB VS
def xP (_:World) (cs:List Value) (s:ByteArray):Prop:=cs=[.string s]
theorem rf:gp xP 1 where
 kp:=λh _=>h
 len:=λh=>by rw[show _=_ from h];rfl
 ok:=λh=>by rw[show _=_ from h];rfl
theorem sf:∀ (ss:List ByteArray),(ss.map λs=>[Value.string s]).flatten=ss.map Value.string
 | []=>rfl
 | x::r=>by rw[kX,wC,sf r];rfl
theorem KJ (w:World):∀ (ss:List ByteArray),eC xP w ss (ss.map λs=>[Value.string s])
 | []=>.nil
 | x::r=>.cons rfl (KJ w r)
def jw (ss:List ByteArray):List ByteArray:=((ss.map (·.data.toList)).mergeSort λx y=>decide (x<=y)).map λl=>⟨l.toArray⟩
theorem wh (ss:List ByteArray):(jw ss).length=ss.length:=by unfold jw;simp
theorem KL {d:List (List UInt8)} {X sp:List Value} (h:X.length=d.length):putCells encStr 0 d.toArray (X++sp).toArray=(d.map encStr++sp).toArray:=by
 apply Array.ext_getElem?;intro k;by_cases hk:k<d.length
 ·simp[putCells,hk,h,List.getElem?_append_left]
 ·simp[putCells,hk,List.getElem?_append_right,h,Nat.not_lt.1 hk]
theorem Wn (b c:Nat) (ss:List ByteArray) (sp:List Value) (w:World) (hb:cN w b 9 (ss.map Value.string++sp).toArray) (hn:ss.length<4611686018427387904):
  Calls Tryz.prog 130 #[.slice (some ⟨b,0,none⟩) ss.length c] w λe w'=>e=.returned (.tuple #[])/\rj [b] w w'/\cN w' b 9 ((jw ss).map Value.string++sp).toArray:=by
 obtain⟨ls,hls⟩:∃ ls:List (List UInt8),ls=ss.map (·.data.toList):=⟨_,aa⟩;have hl:ls.length=ss.length:=by rw[hls,bJ]
 have he:ls.map encStr=ss.map Value.string:=by rw[hls,pZ];exact tR λs _=>cZ
 have hcur:((ss.map Value.string++sp).toArray).toList.take ls.length=ls.map encStr:=by
  rw[he,List.take_left' (by rw[bJ,hl])]
 have h:=Any.slices_Sort_string Jw b 0 c ls w (Go.holds_of_block hb hcur) hb.lt ae;rw[hl] at h;refine h.mono ?_;rintro e w' ⟨rfl,n,os,rfl⟩;have hg:=Go.grownBy_sorted (w:=w) (g:=b) (n:=n) (os:=os) (ls.mergeSort λx y=>decide (x<=y)).toArray;refine⟨aa,⟨aa,aa,aa,cZ,λg Ig hn=> ?_⟩,?_⟩
 ·rw[heap_grow_old _ _ (by simpa using Ig)];have:b≠g:=λe=>hn (by rw[e];exact ay.2 aa);simp[putRow,mapBlock,Sort.ahead,Array.getElem?_modify,this]
 ·have:=Go.heap_sorted (n:=n) (os:=os) (ls.mergeSort λx y=>decide (x<=y)).toArray hb;rw[KL (by rw[bJ,List.length_mergeSort,hl])] at this;refine Eq.trans this ?_;unfold jw;rw[<-hls,pZ];rfl
set_option maxRecDepth 4000 in
theorem Ra (p:Option Addr) (N c:Nat) (ss:List ByteArray) (w:World) (hv:bh xP 1 w (.slice p N c) ss) (hN:N=ss.length) (hn:N<=1000000):
  Calls Tryz.prog 96 #[.slice p N c] w λo w'=>∃ r,o=.returned r/\aP xP 1 9 w.heap.size w' r ss/\aD w w':=by
 refine ai (C:=bd Tryz.prog w _) (args:=[_]) Tryz.func96 aa Tryz.ntmps96 (bF aa) ?_;refine af ?_;cases p with
 | none=>
   have:ss=[]:=by
    cases ss with
    | nil=>rfl
    | cons x r=>
      obtain⟨_,_,_,h,_⟩:=hv.at (i:=0) (a:=x) aa;cases h
   subst this;refine af ?_;refine aC ?_;intro wz kz bz;exact⟨_,aa,.inl ⟨aa,aa⟩,bz⟩
 | some a=>
   obtain⟨ab,ao,asl⟩:=a
   have hcell:∀ (j:Nat) (u:Value),(ss.map Value.string)[j]? =some u->w.cell? ⟨ab,ao+j,none⟩=some u/\asl=none:=λj u hj=>by
    rw[gT] at hj;obtain⟨x,hx,rfl⟩:=Hh.1 hj;obtain⟨b,off,cs,hp,hc,rfl⟩:=hv.at hx;cases hp;have:=hc 0 _ aa;rw[rB,nP] at this;exact⟨this,aa⟩
   refine VS.aO aa aa ?_;refine af ?_
   refine VO.app (cS _ _) (t:=29) (e:=9) (sz:=1) (n:=0) (c:=0) (mm:=N) (known:=[]) (spare:=[]) (del:=some 5) (news:=(ss.map Value.string).map .val) (dst:=7) aa aa aa aa aa aa aa aa (bF aa) aa (.inr ⟨5,aa,aa,aa⟩) (.inl aa) aa aa (bl _) ae ⟨aa,aa,ah _⟩ ⟨aa,aa,dx (eg.2 λx hx=>by obtain⟨y,_,rfl⟩:=eG.1 hx;rfl)⟩ (by rw[bJ,bJ,hN,rB]) ae
    (λw1 β k1 b1 ho=>⟨_,_,rfl,by
     cases ss with
     | nil=>exact .inl hN
     | cons x r=>
       have h0:=hcell 0 _ aa;obtain⟨_,rfl⟩:=h0;exact .inr ⟨ab,ao,aa,λj u hj=>aD.cell b1 (hcell j u (by rwa [aV] at hj)).1⟩⟩)
    (λuz cap bP ρ NS SV gH rh pR NT hok' hlid'=>wV rfl ?_)
   refine af ?_;refine VS.lJ (cS _ _) aa (λwz β kz bz en=> ?_);have o:=en.own 7 _ _ aa;have kP:=o.cls;rw[pX,aQ,aV] at kP;rw[pX,fH,bJ,bJ,rB] at NT;refine⟨_,aa,.inr ⟨β 7,cap,ss.map λs=>[.string s],bP.map (AV.leaf β),by rw[<-hN,jR];rfl,o.new,?_,?_,gw hok',ae,pR,?_⟩,bz⟩
   ·rw[sf];exact kP
   ·exact KJ _ _
   ·rw[sf];rw[fH,bJ,bJ];omega
abbrev cxW (P:Program) (w:World) (N:Nat):Cx:={ P:=P,w0:=w,N:=N,K:=⟨UU,λ_=>True,λt=>Nat.beq t 9⟩,SU:=λt=>Nat.beq t 23,ti:=table,keep:=λ_ _=>trivial }
theorem Rb (w:World) (N:Nat):(cxW Tryz.prog w N).Ok:=fy
section
variable {F F':Fr} {H H':Hp} {w w1:World} {N:Nat} {l':List Oper} {Q:Exit->Act->World->Prop} {k:List It} {id:Nat} {ops:Array Oper}
theorem cxW_r (e:jJ (cxW Tryz.prog w1 N) ops 80 ops.toList F H=(l',F',H')) (h:aB (cxW Tryz.prog w1 N) none ops l' (VS (cxW Tryz.prog w1 N) Q k) F' H' w):VS (cxW Tryz.prog w1 N) Q (.code (.region id ops false)::k) F H w:=VS.region (Rb _ _) (VO.run 80 e h)
end
theorem Oe {w:World}:∀ {es:List ByteArray} {vs:List (List Value)},eC xP w es vs->vs=es.map λs=>[.string s]
 | [],_,.nil=>rfl
 | x::r,_,.cons h t=>by rw[show _=_ from h,Oe t];rfl
theorem wWcxW {P Q:Prop} (h:Q) (i:Q->P:=by intro h;(repeat first|refine wN ?_|refine wP rfl ?_|refine cxW_r rfl ?_|refine cxW_d rfl ?_|refine wO rfl rfl ?_);exact h):P:=i h
theorem cTcxW {P Q X:Prop} (hb:X) (h:Q) (i:X->Q->P:=by intro hb h;refine⟨_,rfl,hb,λa b c=>wV rfl ?_⟩;refine wWcxW ?_;revert a b c;exact h):P:=i hb h
set_option maxRecDepth 4000 in
theorem Rc (nm pa pB nB cB sT pT nT cT tT yT mT dT sC pC nC cC tC yC mC dC bk fw sI pI nI cI tI yI mI dI sF pF nF cF tF yF mF dF kp pc Nc cc pe Ne ce py Ny cy:_) (es:List ByteArray) (w:World) (hv:bh xP 1 w (.slice pe Ne ce) es) (hN:Ne=es.length) (hn:Ne<=1000000):
  Calls Tryz.prog 61 #[.agg #[.string nm,.string pa,.slice pB nB cB,.bool sT,.slice pT nT cT,.bool tT,.slice yT mT dT,.bool sC,.slice pC nC cC,.bool tC,.slice yC mC dC,.int .i64 bk,.int .i64 fw,.bool sI,.slice pI nI cI,.bool tI,.slice yI mI dI,.bool sF,.slice pF nF cF,.bool tF,.slice yF mF dF,.int .i64 kp,.slice pc Nc cc,.slice pe Ne ce,.slice py Ny cy]] w λo w'=>∃ r,o=.returned r/\aP xP 1 9 w.heap.size w' r (jw es)/\aD w w':=by
 refine ai (C:=cxW Tryz.prog w _) (args:=[_]) Tryz.func61 aa Tryz.ntmps61 (bF aa) ?_;refine wWcxW ?_;refine VO.call aa aa (fk Tryz.func96) (λaK bE aX=>(Ra pe Ne ce es aK (hv.bS rf aX) hN hn).mono ?_);rintro o w1 ⟨r1,rfl,q1,aU⟩;rcases q1 with ⟨rfl,rfl⟩|⟨b,cap,vs,sp,rfl,hBg,kP,iq,mQ,hle,gv,zZ⟩
 ·refine cTcxW aU ?_;intro cQ _ bb1;refine VO.call aa aa (fk Tryz.func130) (λbf cK bK=>(Any.slices_Sort_string_none Jw none 0 bf).mono ?_);rintro o w2 ⟨rfl,rfl⟩;refine⟨_,aa,aD.refl _,λdW _ bb2=>wV aa ?_⟩;refine wWcxW ?_;refine VS.ret (Rb _ _) aa aa (λwz kz bz=> ?_);exact⟨_,aa,.inl ⟨aa,by unfold jw;simp⟩,bz⟩
 ·refine⟨_,aa,aU,λcQ _ bb1=>wV aa ?_⟩
  (repeat (first|refine wN ?_|refine wP aa ?_|refine wO aa aa ?_))
  refine VS.SY (Rb _ _) 1 aa aa aa (VO.run 80 aa ?_);refine VO.nil ⟨_,_,_,λw=>bd Tryz.prog w 10,aa,aa,fk Tryz.func130,λ_=>aa,λ_=>aa,λ_=>aD.refl _,λw2 k2 b2=> ?_⟩;have Ud:=Oe iq;rw[Ud,sf] at kP zZ;have hcl2:cN w2 b 9 (es.map Value.string++sp).toArray:=k2.block _ b _ aa aj kP;refine (Wn b cap es sp w2 hcl2 ae).mono ?_;rintro o w3 ⟨rfl,ZP,hcl3⟩;have dH:aD w w3:=rj.bS b2 ZP (λx hx=>by rw[ay.1 hx];have:=aX.size;omega);refine⟨_,[(3,.slice (some ⟨b,0,none⟩) es.length cap)],aa,⟨aa,aj⟩,λp hp e=> ?_,?_⟩
  ·rw[ay.1 hp] at e;cases e
  refine af ?_;refine aC ?_;intro wz kz bz;have eR:=aX.size;refine⟨_,aa,.inr ⟨b,cap,(jw es).map λs=>[.string s],sp,by rw[wh];rfl,ae,by rw[sf];exact hcl3.bS bz,KJ _ _,mQ,by rw[wh];exact hle,gv,?_⟩,dH.aN bz⟩;rw[sf,fH,bJ,wh];rw[fH,bJ] at zZ;exact zZ
def uu {α:Type} (P:α->Bool):List α->Int
 | []=> -1
 | x::r=>if P x=true then 0 else (if uu P r<0 then-1 else uu P r+1)
theorem KM {α:Type} {P:α->Bool}:∀ {l:List α} {z:Nat} {x:α},l[z]? =some x->(∀ (i:Nat) (y:α),i<z->l[i]? =some y->P y=false)->P x=true->uu P l=z
 | [],_,_,h,_,_=>by cases h
 | y::r,0,x,h,_,hx=>by
   cases h;unfold uu;rw[if_pos hx];rfl
 | y::r,z+1,x,h,hn,hx=>by
   have h0:=hn 0 y ae aa;have:=KM (l:=r) (z:=z) (x:=x) h (λi u hi hu=>hn (i+1) u ae hu) hx;unfold uu;rw[if_neg (by rw[h0];simp),this,if_neg ae];omega
theorem AR {α:Type} {P:α->Bool}:∀ {l:List α},(∀ (i:Nat) (y:α),l[i]? =some y->P y=false)->uu P l= -1
 | [],_=>rfl
 | y::r,hn=>by
   have h0:=hn 0 y aa;have:=AR (l:=r) (λi u hu=>hn (i+1) u hu);unfold uu;rw[if_neg (by rw[h0];simp),this,if_pos ae]
theorem Re (v:Value) (ss:List ByteArray) (s:ByteArray) (w:World) (hv:bh xP 1 w v ss):
  Calls Tryz.prog 131 #[v,.string s] w λo w'=>o=.returned (.int .i64 (uu (λx=>s.toList == x.toList) ss))/\aD w w':=by
 obtain⟨p,c,rfl,eS,gv⟩:=hv.form;obtain⟨N,hN⟩:∃ N,N=ss.length:=⟨_,aa⟩;rw[<-hN] at hv eS ⊢;refine ai (C:=bd Tryz.prog w _) (args:=[_,_]) Tryz.func131 aa Tryz.ntmps131 (bF aa) ?_;refine af ?_;refine VS.loop (J:=λmm L M w'=>∃ z:Nat,z<=N/\mm=N-z/\L=[(0,.val (.slice p N c)),(1,.val (.string s)),(7,.val (.int .i64 (N:Int))),(8,.val (.int .i64 (z:Int)))]/\M=[]/\∀ (i:Nat) (y:ByteArray),i<z->ss[i]? =some y->(s.toList == y.toList)=false) N ⟨_,_,?_,?_,?_,?_,⟨0,ae,aa,aa,aa,λi y hi=>ae⟩⟩ ?_
 ·exact di
 ·exact di
 ·rfl
 ·exact fv
 rintro mm L M wJ ⟨z,hz,rfl,rfl,rfl,hno⟩;refine af ?_;by_cases hlt:z<N
 ·obtain⟨x,hx⟩:∃ x,ss[z]? =some x:=⟨_,bj ae⟩;obtain⟨b,off,cs,rfl,hc,rfl⟩:=hv.at hx;refine VS.aR aa (aw (aJ.2 hlt)) ?_;refine af ?_;refine VO.cond aa eh ?_;refine wV aa ?_;refine af ?_;refine VO.read aa [.string x] aa (cP hc) (wV aa ?_);refine af ?_;cases hs:(s.toList == x.toList) with
  | true=>
    refine VS.aR aa aa ?_;refine af ?_;refine aC ?_;intro wz kz bz;exact⟨by rw[KM (P:=λx=>s.toList == x.toList) hx hno hs];rfl,bz⟩
  | false=>
    refine VS.aO aa aa ?_;refine af ?_
    refine VS.back (N-(z+1)) ae ⟨_,_,?_,?_,?_,?_,⟨z+1,ae,aa,aa,aa,λi y hi hy=>(by
     by_cases hiz:i<z
     ·exact hno i y hiz hy
     ·rw[show i=z by omega,hx] at hy;cases hy;exact hs)⟩⟩
    ·refine⟨aa,aa,aa,?_,aj⟩;rw[<-aA ae];rfl
    ·exact di
    ·rfl
    ·exact fv
 ·refine VS.aO aa (az (λe=>hlt (aJ.1 e))) ?_;obtain rfl:z=N:=ae;refine af ?_;refine aC ?_;intro wz kz bz;exact⟨by rw[AR (P:=λx=>s.toList == x.toList) (λi y hy=>hno i y (by have:=(cM.1 hy).1;omega) hy)];rfl,bz⟩
theorem Rf (v:Value) (ss:List ByteArray) (s:ByteArray) (w:World) (hv:bh xP 1 w v ss):
  Calls Tryz.prog 62 #[v,.string s] w λo w'=>o=.returned (.int .i64 (uu (λx=>s.toList == x.toList) ss))/\aD w w':=by
 obtain⟨p,c,rfl⟩:=hv.sl;refine ai (C:=bd Tryz.prog w _) (args:=[_,_]) Tryz.func62 aa Tryz.ntmps62 (bF aa) ?_;refine af ?_;refine VO.cB aa aa (fk Tryz.func131) (λaK bE aX=>Re _ ss s aK (hv.bS rf aX)) (λaK bE aX w1 aU cQ _ bb1=>wV aa ?_);refine af ?_;refine aC ?_;intro wz kz bz;exact⟨aa,bz⟩
abbrev tK:=ByteArray×iT
def xj (kk:Nat) (w:World) (cs:List Value) (x:tK):Prop:=∃ s p n c t y m d,cs=[.string x.1,.int .u8 (x.2.1:Int),.bool s,.slice p n c,.bool t,.slice y m d]/\x.2.1<256/\aG w (.agg #[.bool s,.slice p n c,.bool t,.slice y m d]) x.2.2 kk
theorem DA (kk:Nat):gp (xj kk) 6 where
 kp:=λh k=>by
  obtain⟨s,p,n,c,t,y,m,d,hv,h1,h2⟩:=h;exact⟨_,_,_,_,_,_,_,_,hv,h1,h2.kp k⟩
 len:=λh=>by
  obtain⟨s,p,n,c,t,y,m,d,rfl,_⟩:=h;rfl
 ok:=λh=>by
  obtain⟨s,p,n,c,t,y,m,d,rfl,_⟩:=h;rfl
theorem xj.cls {kk:Nat} {w:World} {cs:List Value} {x:tK} (h:xj kk w cs x):fu kk w cs x.2:=by
 obtain⟨s,p,n,c,t,y,m,d,hv,h1,h2⟩:=h;exact⟨_,_,_,_,_,_,_,_,_,hv,h1,h2⟩
theorem idxN_any (g:FuncId) (c1:Value) (P:tK->Bool) (kk:Nat) (kg:nL Tryz.prog g) (v:Value) (es:List tK) (w:World) (hv:bh (xj kk) 6 w v es) (hg:∀ (cs:List Value) (a:tK) (w1:World),aD w w1->xj kk w1 cs a->Calls Tryz.prog g #[.agg cs.toArray,c1] w1 λe w'=>e=.returned (.bool (P a))/\aD w1 w'):
  Calls Tryz.prog 65 #[v,.func (.func g) #[] #[c1]] w λe w'=>e=.returned (.int .i64 (uu P es))/\aD w w':=by
 obtain⟨p,c,rfl,eS,gv⟩:=hv.form;obtain⟨N,hN⟩:∃ N,N=es.length:=⟨_,aa⟩;rw[<-hN] at hv eS ⊢;refine ai (C:=bd Tryz.prog w _) (args:=[_,_]) Tryz.func65 aa Tryz.ntmps65 (bF aa) ?_;refine af ?_;refine VS.loop (J:=λmm L M w'=>∃ z:Nat,z<=N/\mm=N-z/\L=[(0,.val (.slice p N c)),(1,.val (.func (.func g) #[] #[c1])),(7,.val (.int .i64 (N:Int))),(8,.val (.int .i64 (z:Int)))]/\M=[]/\∀ (i:Nat) (y:tK),i<z->es[i]? =some y->P y=false) N ⟨_,_,?_,?_,?_,?_,⟨0,ae,aa,aa,aa,λi y hi=>ae⟩⟩ ?_
 ·exact di
 ·exact di
 ·rfl
 ·exact fv
 rintro mm L M wJ ⟨z,hz,rfl,rfl,rfl,hno⟩;refine af ?_;by_cases hlt:z<N
 ·obtain⟨a,hx⟩:∃ x,es[z]? =some x:=⟨_,bj ae⟩;obtain⟨b,off,cs,rfl,hc,he⟩:=hv.at hx;have Ew:=he;obtain⟨s0,p0,n0,c0,t0,y0,m0,d0,rfl,-⟩:=Ew;refine VS.aR aa (aw (aJ.2 hlt)) ?_;refine af ?_;refine VO.cond aa eh ?_;refine wV aa ?_;refine af ?_;refine VO.read aa [.string a.1,.int .u8 (a.2.1:Int),.bool s0,.slice p0 n0 c0,.bool t0,.slice y0 m0 d0] aa (bc hc 0 _ ⟨[],aa⟩) (wV aa ?_);refine VO.call aa aa kg (λaK bE aX=>(hg _ a aK aX ((DA kk).b he aX)).mono ?_);rintro e w1 ⟨rfl,aU⟩;cases hP:P a with
  | true=>
    refine aL aU ?_;intro cQ _ bb1;refine aC ?_;intro wz kz bz;exact⟨by rw[KM hx hno hP];rfl,bz⟩
  | false=>
    refine aL aU ?_;intro cQ _ bb1
    refine VS.back (N-(z+1)) ae ⟨_,_,?_,?_,?_,?_,⟨z+1,ae,aa,aa,aa,λi y hi hy=>(by
     by_cases hiz:i<z
     ·exact hno i y hiz hy
     ·rw[show i=z by omega,hx] at hy;cases hy;exact hP)⟩⟩
    ·refine⟨aa,aa,aa,?_,aj⟩;rw[<-aA ae];rfl
    ·exact di
    ·rfl
    ·exact fv
 ·refine VS.aO aa (az (λe=>hlt (aJ.1 e))) ?_;obtain rfl:z=N:=ae;refine af ?_;refine aC ?_;intro wz kz bz;exact⟨by rw[AR (λi y hy=>hno i y (by have:=(cM.1 hy).1;omega) hy)];rfl,bz⟩
theorem Og (cs:List Value) (x:tK) (b:Nat) (s:ByteArray) (kk:Nat) (w:World) (hv:xj kk w cs x) (h1:w.cell? ⟨b,0,none⟩=some (.string s)):
  Calls Tryz.prog 66 #[.agg cs.toArray,.pointer (some ⟨b,0,none⟩)] w λo w'=>o=.returned (.bool (x.1.toList == s.toList))/\aD w w':=by
 obtain⟨s0,p0,n0,c0,t0,y0,m0,d0,rfl,-⟩:=hv;refine ai (C:=bd Tryz.prog w _) (args:=[_,_]) Tryz.func66 aa Tryz.ntmps66 (bF aa) ?_;refine af ?_;refine VO.read aa [.string s] aa (ft h1) (wV aa ?_);refine af ?_;refine aC ?_;intro wz kz bz;exact⟨aa,bz⟩
theorem Rg (v:Value) (es:List tK) (s:ByteArray) (kk:Nat) (w:World) (hv:bh (xj kk) 6 w v es):
  Calls Tryz.prog 16 #[v,.string s] w λo w'=>o=.returned (.int .i64 (uu (λx=>x.1.toList == s.toList) es))/\aD w w':=by
 obtain⟨p,c,rfl⟩:=hv.sl;refine ai (C:=bd Tryz.prog w _) (args:=[_,_]) Tryz.func16 aa Tryz.ntmps16 (bF aa) ?_;refine af ?_;refine VO.eX aa (fk Tryz.func65) (λaK β bE aX ho=>(idxN_any 66 (.pointer (some ⟨β 3,0,none⟩)) (λx=>x.1.toList == s.toList) kk (fk Tryz.func66) _ es aK (hv.bS (DA kk) aX) (λcs a w1 hb hE=>Og cs a (β 3) s kk w1 hE (hb.cell ((ho.own 3 (.base (ay.2 aa)) _ _ aa).cls.cell (j:=0) aa)))).mono ?_);rintro o w1 ⟨rfl,aU⟩;refine aL aU ?_;intro cQ _ bb1;refine aC ?_;intro wz kz bz;exact⟨aa,bz⟩
def Gf (t:List (List Rat)) (e c:Int):Bool:=decide (0<=e/\e<t.length/\0<=c/\c<(t.getD e.toNat []).length)
theorem hasG_any (v:Value) (t:List (List Rat)) (e c:Int) (kk:Nat) (w:World) (hv:bh (lR kk) 1 w v t):
  Calls Tryz.prog 63 #[.agg #[v],.agg #[.int .i64 e,.int .i64 c]] w λo w'=>o=.returned (.bool (Gf t e c))/\aD w w':=by
 obtain⟨p,cp,rfl⟩:=hv.sl;refine ai (C:=bd Tryz.prog w _) (args:=[_,_]) Tryz.func63 aa Tryz.ntmps63 (bF aa) ?_;refine af ?_;by_cases h1:e>=0
 ·refine VO.fix 8 aa (ak (λb=>AV.val (.bool b)) (aw h1)) ?_;refine af ?_;by_cases h2:e<(t.length:Int)
  ·refine VO.fix 16 aa (ak (λb=>AV.val (.bool b)) (aw h2)) ?_;refine af ?_;by_cases h3:c>=0
   ·refine VO.fix 21 aa (ak (λb=>AV.val (.bool b)) (aw h3)) ?_;obtain⟨E,rfl⟩:=tP (show 0<=e by omega);obtain⟨xs,hx⟩:∃ xs,t[E]? =some xs:=⟨_,bj ae⟩;obtain⟨b,off,csx,rfl,hcc,⟨xv,rfl,qW⟩⟩:=hv.at hx;obtain⟨p3,c3,rfl⟩:=qW.sl;refine af ?_;refine VO.cond aa eh (wV aa ?_);refine af ?_;refine VO.read aa [.slice p3 xs.length c3] aa (cP hcc) (wV aa ?_);refine af ?_;refine aC ?_;intro wz kz bz;refine⟨ak (λb=>Ending.returned (.bool b)) ?_,bz⟩;unfold Gf;rw[dV,fG,hx];show decide (c<(xs.length:Int))=decide (0<=(E:Int)/\(E:Int)<t.length/\0<=c/\c<(xs.length:Int));by_cases h4:c<(xs.length:Int)
    ·rw[aw h4,aw ⟨h1,h2,h3,h4⟩]
    ·rw[az h4,az (λh=>h4 h.2.2.2)]
   ·refine VO.fix 21 aa (ak (λb=>AV.val (.bool b)) (az h3)) ?_;refine af ?_;refine aC ?_;intro wz kz bz;exact⟨ak (λb=>Ending.returned (.bool b)) (az (λh=>h3 h.2.2.1)).symm,bz⟩
  ·refine VO.fix 16 aa (ak (λb=>AV.val (.bool b)) (az h2)) ?_;refine af ?_;refine aC ?_;intro wz kz bz;exact⟨ak (λb=>Ending.returned (.bool b)) (az (λh=>h2 h.2.1)).symm,bz⟩
 ·refine VO.fix 8 aa (ak (λb=>AV.val (.bool b)) (az h1)) ?_;refine af ?_;refine aC ?_;intro wz kz bz;exact⟨ak (λb=>Ending.returned (.bool b)) (az (λh=>h1 h.1)).symm,bz⟩
end
set_option maxRecDepth 4000
section
open Go.RowKit
attribute [local irreducible] aB VS
abbrev DB:=List (List Rat)
def Hd (t:DB) (e c:Nat) (x:Rat):DB:=t.modify e λr=>r.modify c (·+x)
def vE (n k:Nat):DB:=List.replicate n (List.replicate k 0)
theorem Gg (t:DB) (e c:Nat) (x:Rat):(Hd t e c x).length=t.length:=by unfold Hd;rw[List.length_modify]
variable {i:Nat} {t:DB}
theorem DC {e c:Nat} {x:Rat} {r:List Rat} (h:t[i]? =some r):(Hd t e c x)[i]? =some (if i=e then r.modify c (·+x) else r):=by
 unfold Hd;rw[List.getElem?_modify,h];by_cases he:e=i
 ·subst he;simp
 ·simp[he,Ne.symm he]
theorem Wo (t:DB) (e c:Nat) (x:Rat):(Hd t e c x).map List.length=t.map List.length:=by
 apply Lp;intro i;rw[gT,gT];cases h:t[i]? with
 | none=>rw[ru (by rw[Gg];exact List.getElem?_eq_none_iff.1 h)]
 | some r=>rw[DC h];by_cases he:i=e <;> simp[he]
def Gh:Value->Option Nat
 | .slice (some a) _ _=>some a.block
 | _=>none
def Tg (us:List Value):Prop:=∀ (i j:Nat) (u v:Value) (b:Nat),us[i]? =some u->us[j]? =some v->Gh u=some b->Gh v=some b->i=j
def jY (kk B:Nat) (w:World) (v:Value) (t:DB):Prop:=∃ us,aP VE 1 105 B w v us/\us.length=t.length/\(∀ (i:Nat) (u:Value) (r:List Rat),us[i]? =some u->t[i]? =some r->aP (Gu kk) 4 27 B w u r)/\Tg us
variable {kk B:Nat} {v:Value} {w w':World}
theorem jY.kp {T:TypeId->Bool} (h:jY kk B w v t) (k:KZ T w w') (h1:T 105=true) (h2:T 27=true):jY kk B w' v t:=by
 obtain⟨us,g1,g2,g3,g4⟩:=h;exact⟨us,g1.kp dR k h1,g2,λi u r hi hr=>(g3 i u r hi hr).kp (dU kk) k h2,g4⟩
theorem jY.bS (h:jY kk B w v t) (hb:aD w w'):jY kk B w' v t:=h.kp (T:=λ_=>true) (bg.of hb) rfl rfl
variable {j:Nat}
theorem Gu.up {k:Nat} {cs:List Value} {q:Rat} (h:Gu j w cs q) (hk:j<=k):Gu k w cs q:=by
 obtain⟨s,p,n,c,t,y,m,d,h1,h2,h3⟩:=h;exact⟨_,_,_,_,_,_,_,_,h1,h2,h3.mono hk⟩
variable {α:Type} {es:List α} {E:World->List Value->α->Prop}
theorem aP.imp {E':World->List Value->α->Prop} {sz:Nat} {t:TypeId} (h:aP E sz t B w v es) (hm:∀ (cs:List Value) (a:α),E w cs a->E' w cs a):aP E' sz t B w v es:=by
 rcases h with h|⟨b,c,vs,sp,g1,g2,g3,g4,g5,g6,g7,g8⟩
 ·exact .inl h
 ·exact .inr ⟨b,c,vs,sp,g1,g2,g3,g4.mono hm,g5,g6,g7,g8⟩
theorem jY.up {k:Nat} (h:jY j B w v t) (hk:j<=k):jY k B w v t:=by
 obtain⟨us,g1,g2,g3,g4⟩:=h;exact⟨us,g1,g2,λi u r hi hr=>(g3 i u r hi hr).imp (λ_ _ h=>h.up hk),g4⟩
theorem jY.mono {k B':Nat} (h:jY k B w v t) (hB:B'<=B):jY k B' w v t:=by
 obtain⟨us,g1,g2,g3,g4⟩:=h;exact⟨us,g1.mono hB,g2,λi u r hi hr=>(g3 i u r hi hr).mono hB,g4⟩
theorem jY.NV (h:jY kk B w v t):bh (lR kk) 1 w v t:=by
 obtain⟨us,g1,g2,g3,_⟩:=h;exact zM (g1.sl dR) g2 (λi u r hi hr=>⟨u,aa,((g3 i u r hi hr).imp (λ_ _ h=>h.GX)).sl (bV kk)⟩)
theorem jY.nil (kk B:Nat) (w:World):jY kk B w (.slice none 0 0) []:=⟨[],.inl ⟨rfl,rfl⟩,rfl,λi u r hi=>(by simp at hi),λi j u v b hi=>(by simp at hi)⟩
theorem jY.form (h:jY kk B w v t):∃ p c,v=.slice p t.length c:=by
 obtain⟨us,g1,g2,_⟩:=h;rw[<-g2];exact g1.form
variable {u:Value}
theorem Gi {us:List Value} (h:Tg us) {W:Nat} (ho:∀ (i:Nat) (v:Value) (b:Nat),us[i]? =some v->Gh v=some b->b<W) (hn:∀ b,Gh u=some b->W<=b):Tg (us++[u]):=λi j a c b hi hj ha hc=>by
 have key:∀ (i:Nat) (a:Value),(us++[u])[i]? =some a->(us[i]? =some a)\/(i=us.length/\a=u):=λi a hi=>by
  by_cases hil:i<us.length
  ·rw[jG hil] at hi;exact .inl hi
  ·rw[tM ae] at hi;have:=(cM.1 hi).1;rw[List.length_singleton] at this;obtain rfl:i=us.length:=ae;rw[oJ] at hi;cases hi;exact .inr ⟨aa,aa⟩
 rcases key i a hi with h1|⟨rfl,rfl⟩ <;> rcases key j c hj with h2|⟨rfl,rfl⟩
 ·exact h i j a c b h1 h2 ha hc
 ·have:=ho i a b h1 ha;have:=hn b hc;omega
 ·have:=ho j c b h2 hc;have:=hn b ha;omega
 ·rfl
theorem aP.sm {sz:Nat} {t:TypeId} (h:aP E sz t B w v es) {b:Nat} (hb:Gh v=some b):B<=b/\b<w.heap.size:=by
 rcases h with ⟨rfl,_⟩|⟨b',c,vs,sp,rfl,hB,hc,_⟩
 ·cases hb
 ·cases hb;exact⟨hB,hc.lt⟩
theorem eC.put {α:Type} {E:World->List Value->α->Prop} {w:World}:∀ {es:List α} {vs:List (List Value)} {i:Nat} {a:α} {cs:List Value},eC E w es vs->E w cs a->eC E w (es.set i a) (vs.set i cs)
 | _,_,i,_,_,.nil,_=>.nil
 | _,_,0,_,_,.cons _ h2,h=>.cons h h2
 | _,_,i+1,_,_,.cons h1 h2,h=>.cons h1 (eC.put h2 h)
theorem row_put {vs:List (List Value)} {sz:Nat} {new:List Value} {sp:List AV} (h:∀ x∈vs,x.length=sz) (hi:i<vs.length) (ho:new.length=sz):
  (vs.flatten.map AV.val++sp).take (0+((i:Nat):Int).toNat*sz)++(new.map AV.val++(vs.flatten.map AV.val++sp).drop (0+((i:Nat):Int).toNat*sz+sz))=(vs.set i new).flatten.map AV.val++sp:=by
 obtain⟨x,hx⟩:∃ x,vs[i]? =some x:=⟨_,bj hi⟩;have gU:=h x (dz hx);rw[Vx h hx 0 new ae sp _ (by rw[dV];omega) sz ho.symm];rw[show x.take 0++(new++x.drop (0+new.length))=new by rw[List.take_zero,pX,pU ae,jQ]]
theorem Rh {l:List α} {a:α} {f:α->α} (h:l[i]? =some a):l.modify i f=l.set i (f a):=by
 apply Lp;intro j;rw[List.getElem?_modify,RJ];by_cases e:i=j
 ·subst e;rw[if_pos rfl,if_pos (cM.1 h).1,h];simp
 ·rw[if_neg e];cases l[j]? <;> simp[e]
theorem cN.but {ad:List Nat} {g:Nat} {t:TypeId} {cs:Array Value} (h:cN w g t cs) (k:rj ad w w') (hg:g∉ad):cN w' g t cs:=(k.sm g h.lt hg).trans h
theorem jW.bS {K:KC} {N:Nat} {ad:List Nat} {l:List (TypeId×List AV)} (h:jW K N ad l w) (hb:aD w w'):jW K N ad l w':=⟨h.len,h.nodup,λj g c hj hc=>(h.cls j g c hj hc).bS hb,h.ok,h.ids⟩
theorem at_one {C:Cx} {b o:Nat} (h:C.At ⟨b,o,none⟩ u):∀ j x,[u][j]? =some x->C.At ((⟨b,o,none⟩:Addr).add j) x:=λj x hj=>by
 match j,hj with
 | 0,hj=>cases hj;exact h
theorem aP.but {sz:Nat} {t:TypeId} {ad:List Nat} (hE:gp E sz) (h:aP E sz t B w v es) (k:rj ad w w') (kw:Kp UU w w') (hn:∀ b,Gh v=some b->b∉ad):aP E sz t B w' v es:=by
 rcases h with h|⟨b,c,vs,sp,rfl,g2,g3,g4,g5,g6,g7,g8⟩
 ·exact .inl h
 ·exact .inr ⟨b,c,vs,sp,aa,g2,g3.but k (hn b aa),g4.kp hE kw,g5,g6,g7,g8⟩
theorem Gj {vs:List Value} {P:Value->Prop} (h:∀ (i:Nat) (v:Value),vs[i]? =some v->P v) (hu:P u):∀ (i:Nat) (v:Value),(vs++[u])[i]? =some v->P v:=λi v hi=>by
 rcases mV.1 (dz hi) with h1|h1
 ·obtain⟨j,hj⟩:=oG h1;exact h j v hj
 ·rw[ay.1 h1];exact hu
abbrev Xa:KC:=⟨UU,λ_=>True,λt=>Nat.beq t 27⟩
abbrev cxT4 (P:Program) (w:World) (N:Nat) (ad:List Nat) (hd:ad.Nodup) (ha:iR Xa ad w):Cx:=wk P w N Xa (λt=>Nat.beq t 23) table (λ_ _=>trivial) ad hd ha
theorem KO (w:World) (N:Nat) {ad:List Nat} {hd:ad.Nodup} {ha:iR Xa ad w}:(cxT4 Tryz.prog w N ad hd ha).Ok:=fy
section
variable {F F':Fr} {H H':Hp} {w w1:World} {N:Nat} {l':List Oper} {Q:Exit->Act->World->Prop} {k:List It} {id:Nat} {ops:Array Oper}
theorem cxT4_r {ad:List Nat} {hd:ad.Nodup} {ha:iR Xa ad w1} (e:jJ (cxT4 Tryz.prog w1 N ad hd ha) ops 80 ops.toList F H=(l',F',H')) (h:aB (cxT4 Tryz.prog w1 N ad hd ha) none ops l' (VS (cxT4 Tryz.prog w1 N ad hd ha) Q k) F' H' w):VS (cxT4 Tryz.prog w1 N ad hd ha) Q (.code (.region id ops false)::k) F H w:=VS.region (KO _ _) (VO.run 80 e h)
end
abbrev Th:KC:=⟨UU,λ_=>True,λt=>false⟩
abbrev Gk (P:Program) (w:World) (N:Nat) (ad:List Nat) (hd:ad.Nodup) (ha:iR Th ad w):Cx:=wk P w N Th (λt=>Nat.beq t 23) table (λ_ _=>trivial) ad hd ha
theorem wi (w:World) (N:Nat) {ad:List Nat} {hd:ad.Nodup} {ha:iR Th ad w}:(Gk Tryz.prog w N ad hd ha).Ok:=fy
theorem Ri (w:World) (N:Nat) {ad:List Nat} {hd:ad.Nodup} {ha:iR Th ad w}:(Gk Tryz.prog w N ad hd ha).P.follows .mixedOrders=true:=by show Tryz.prog.follows .mixedOrders=true;kernel_rfl
section
variable {F F':Fr} {H H':Hp} {w w1:World} {N:Nat} {l':List Oper} {Q:Exit->Act->World->Prop} {k:List It} {id:Nat} {ops:Array Oper}
theorem cxZ0_r {ad:List Nat} {hd:ad.Nodup} {ha:iR Th ad w1} (e:jJ (Gk Tryz.prog w1 N ad hd ha) ops 80 ops.toList F H=(l',F',H')) (h:aB (Gk Tryz.prog w1 N ad hd ha) none ops l' (VS (Gk Tryz.prog w1 N ad hd ha) Q k) F' H' w):VS (Gk Tryz.prog w1 N ad hd ha) Q (.code (.region id ops false)::k) F H w:=VS.region (wi _ _) (VO.run 80 e h)
theorem cxZ0_d {ad:List Nat} {hd:ad.Nodup} {ha:iR Th ad w1} (e:jJ (Gk Tryz.prog w1 N ad hd ha) ops 80 ops.toList F H=(l',F',H')) (h:aB (Gk Tryz.prog w1 N ad hd ha) (some []) ops l' (VS (Gk Tryz.prog w1 N ad hd ha) Q k) F' H' w) (np:lI (Gk Tryz.prog w1 N ad hd ha).SU [] ops=true:=by kernel_rfl):VS (Gk Tryz.prog w1 N ad hd ha) Q (.code (.region id ops true)::k) F H w:=VS.draw (wi _ _) (Ri _ _) [] np (VO.run 80 e h)
end
theorem Oh (n:Int):uj 0 [n]=((n.toNat:Nat):Int):=by
 unfold uj uj
 split <;> omega
variable {P Q:Prop}
theorem KQ (h:Q) (i:Q->P:=by intro h;(repeat first|refine wN ?_|refine wP rfl ?_|refine cxT4_r rfl ?_|refine cxT4_d rfl ?_|refine wO rfl rfl ?_);exact h):P:=i h
theorem kA (h:Q) (i:Q->P:=by intro h;(repeat first|refine wN ?_|refine wP rfl ?_|refine cxZ0_r rfl ?_|refine cxZ0_d rfl ?_|refine wO rfl rfl ?_);exact h):P:=i h
set_option maxRecDepth 4000 in
theorem Rj (n k:Int) (w:World) (hn:n<=100000) (hk:k<=100000):
  Calls Tryz.prog 34 #[.int .i64 n,.int .i64 k] w λo w'=>∃ r,o=.returned (.agg #[r])/\jY 1 w.heap.size w' r (vE n.toNat k.toNat)/\aD w w':=by
 obtain⟨N,hN⟩:∃ N,N=n.toNat:=⟨_,aa⟩;obtain⟨K,hK⟩:∃ K,K=k.toNat:=⟨_,aa⟩;have hmN:uj 0 [n]=(N:Int):=by rw[Oh,hN]
 have hmK:uj 0 [k]=(K:Int):=by rw[Oh,hK]
 rw[<-hN,<-hK];have hNb:N<=100000:=ae;have hKb:K<=100000:=ae;refine ai (C:=bd Tryz.prog w _) (args:=[_,_]) Tryz.func34 aa Tryz.ntmps34 (bF aa) ?_;refine af ?_
 refine VS.Jq (J:=λm L W=>∃ (e g4 g:Nat) (rv:Value) (us:List Value),e<=N/\m=N-e/\L=[(0,.int .i64 n),(1,.int .i64 k),(4,.pointer (some ⟨g4,0,none⟩)),(5,.pointer (some ⟨g,0,none⟩)),(8,.int .i64 (N:Int)),(9,.int .i64 (e:Int))]/\aD w W/\w.heap.size<=g4/\w.heap.size<=g/\g4≠g/\cN W g4 52 #[.slice none 0 0]/\cN W g 52 #[rv]/\aP VE 1 105 w.heap.size W rv us/\us.length=e/\(∀ (i:Nat) (u:Value),us[i]? =some u->aP (Gu 1) 4 27 w.heap.size W u (List.replicate K 0))/\Tg us)
  (λW=>bd Tryz.prog W 28) (λ_=>rfl) (λ_=>rfl) (λ_=>aD.refl _) N (λw' β k' o en=>⟨[(0,.int .i64 n),(1,.int .i64 k),(4,.pointer (some ⟨β 4,0,none⟩)),(5,.pointer (some ⟨β 5,0,none⟩)),(8,.int .i64 (N:Int)),(9,.int .i64 ((0:Nat):Int))],⟨⟨_,_,rfl,rfl,rfl⟩,⟨_,_,rfl,rfl,rfl⟩,⟨_,_,rfl,rfl,rfl⟩,⟨_,_,rfl,rfl,rfl⟩,⟨_,_,rfl,ak (λz=>Value.int .i64 z) hmN,rfl⟩,⟨_,_,rfl,rfl,rfl⟩,aj⟩,0,β 4,β 5,.slice none 0 0,[],ae,rfl,rfl,o,(en.own 4 _ _ rfl).new,(en.own 5 _ _ rfl).new,(λh=>absurd (en.apart 4 5 (by intro h;cases h) (by intro h;cases h) h) eL),(en.own 4 _ _ rfl).cls,(en.own 5 _ _ rfl).cls,.inl ⟨rfl,rfl⟩,rfl,λi u hi=>(by simp at hi),λi j u v b hi=>(by simp at hi)⟩) ?_
 rintro m L W ⟨e,g4,g,rv,us,he,rfl,rfl,Ce,Rk,hgW,hg4n,GC,WX,hrv,hul,WS,hap⟩;refine af ?_;by_cases heN:e<N
 ·refine VS.aR aa (aw (aJ.2 heN)) ?_;refine af ?_;refine VS.fix 12 aa (ak (λz=>AV.val (.int .i64 z)) hmK) ?_;refine VS.loop (J:=λm L M w'=>∃ (z:Nat) (X:AV) (Mi:List (Nat×(TypeId×List AV))),z<=K/\m=K-z/\L=[(0,.val (.int .i64 n)),(1,.val (.int .i64 k)),(4,.val (.pointer (some ⟨g4,0,none⟩))),(5,.val (.pointer (some ⟨g,0,none⟩))),(6,X),(8,.val (.int .i64 (N:Int))),(9,.val (.int .i64 (e:Int))),(12,.val (.int .i64 (K:Int))),(13,.val (.int .i64 (z:Int)))]/\M=Mi/\eF (Gu 1) 4 27 18 X Mi w' (List.replicate z 0)) K ⟨_,_,?_,?_,?_,?_,⟨0,_,[],ae,aa,aa,aa,.inl ⟨aa,aa,aa⟩⟩⟩ ?_
  ·exact di
  ·exact di
  ·rfl
  ·exact fv
  rintro m L Mi wI ⟨z,X,Mi2,hz,rfl,rfl,rfl,hI⟩;refine VS.now (λwX kN bN=> ?_);replace hI:=hI.kp (dU 1) (bg.fq kN);refine VS.mask [17] (by rcases hI with ⟨_,rfl,rfl⟩|⟨_,_,_,_,rfl,rfl,_⟩ <;> (repeat first|exact aj|refine⟨aa,?_⟩)) ?_;refine af ?_;by_cases hzK:z<K
  ·refine VS.aR aa (aw (aJ.2 hzK)) ?_;refine af ?_;refine VO.cR aa aa (fk mc) (λaK bE aX=>dK 0 aK ae ae) (λaK bE aX w1 s1 p1 n1 c1 t1 y1 m1 d1 q1 aU cQ _ bb1=>wV aa ?_);refine af ?_;have iq:Gu 1 w1 [.bool s1,.slice p1 n1 c1,.bool t1,.slice y1 m1 d1] 0:=.mk (q1.cast (show ((0:Int):Rat)=0 from aa)).rd dy.zero;rcases hI with ⟨dJ,rfl,rfl⟩|⟨n',c',vs,sp,rfl,rfl,iU⟩
   ·refine VO.jg (cS _ _) (dU 1) (t:=105) (e:=27) (s:=17) (a:=0) (cs:=[.bool s1,.slice p1 n1 c1,.bool t1,.slice y1 m1 d1]) aa aa aa aa aa aa aa aa (bF aa) aa aa aa iq ae (λw9 cap sp k9 b9 gh=>wV aa ?_);refine af ?_;refine VS.back (K-(z+1)) ae ⟨_,_,?_,?_,?_,?_,⟨z+1,_,_,ae,aa,aa,aa,.inr ⟨1,cap,_,sp,aa,aa,by rw[RD,dJ];exact gh⟩⟩⟩
    ·(refine⟨aa,aa,aa,aa,aa,aa,aa,aa,?_,aj⟩;rw[<-aA (i:=z) ae];rfl)
    ·(repeat first|exact aj|refine⟨aa,?_⟩|refine⟨ak (λl=>some (_,l)) (ba (by first|exact bW.dN (by assumption)|exact ah _|(rw[<-aQ];exact ah _)) _ _),?_⟩)
    ·rfl
    ·(repeat first|exact aj|refine⟨aq.lit aa,?_⟩|refine⟨bW.mg (by assumption),?_⟩|refine⟨aq.append (.vals _) (.vals _),?_⟩|refine⟨aq.vals _,?_⟩)
   ·have nY:=iU.len;refine VO.jh (cS _ _) (dU 1) (t:=105) (e:=27) (s:=17) (i:=18) (n:=n') (c:=c') (vs:=vs) (sp:=sp) (es:=List.replicate z 0) (a:=0) (cs:=[.bool s1,.slice p1 n1 c1,.bool t1,.slice y1 m1 d1]) aa aa aa aa aa aa aa aa (bF aa) aa (.inr aa) aa (iU.kp (dU 1) bm) aa iq (by rw[DJ] at nY;omega) (λw9 il qH ρ k9 b9 gH gh=>wV aa ?_);refine af ?_;refine VS.back (K-(z+1)) ae ⟨_,_,?_,?_,?_,?_,⟨z+1,_,_,ae,aa,aa,aa,.inr ⟨n' +1,il,_,qH,aa,aa,by rw[RD];exact gh⟩⟩⟩
    ·(refine⟨aa,aa,aa,aa,aa,aa,aa,aa,?_,aj⟩;rw[<-aA (i:=z) ae];rfl)
    ·(repeat first|exact aj|refine⟨aa,?_⟩|refine⟨ak (λl=>some (_,l)) (ba (by first|exact bW.dN (by assumption)|exact ah _|(rw[<-aQ];exact ah _)) _ _),?_⟩)
    ·rfl
    ·(repeat first|exact aj|refine⟨aq.lit aa,?_⟩|refine⟨bW.mg (by assumption),?_⟩|refine⟨aq.append (.vals _) (.vals _),?_⟩|refine⟨aq.vals _,?_⟩)
  refine VS.aO aa (az (λe=>hzK (aJ.1 e))) ?_;obtain rfl:K=z:=ae;subst hul;refine VS.qM Xa (λt=>Nat.beq t 23) table (λ_ _ _=>trivial) (λjf yV k1 QP OS=> ?_);have eR:aD W jf:=QP;have fx:=hI.told (dU 1) OS (by intro q hq;rcases hI with ⟨_,rfl,rfl⟩|⟨_,_,_,_,rfl,rfl,_⟩ <;> first|(cases hq;done)|(cases ay.1 hq;rfl)) k1.fq W.heap.size (λh=>h);have CT:=WX.bS eR;have hWs:=Ce.size;have Od:=eR.size;rcases hrv with ⟨rfl,rfl⟩|⟨b0,cB,KD,KE,rfl,hBg,zJ,FV,FX,QQ,QR,QS⟩
  ·have xM:jW Xa 28 [g] [(52,[.val (.slice none 0 0)])] jf:=by
    refine⟨aa,cZ,λj g' c' hj hc=> ?_,λc' hc=> ?_,λc' hc k hk=> ?_⟩
    ·match j,hj,hc with
     | 0,hj,hc=>cases hj;cases hc;exact CT
     | j+1,hj,_=>simp at hj
    ·cases ay.1 hc;exact⟨aa,aa⟩
    ·cases ay.1 hc;cases hk
   refine⟨[g],[(52,[.val (.slice none 0 0)])],xM,[(0,.val (.int .i64 n)),(1,.val (.int .i64 k)),(4,.val (.pointer (some ⟨g4,0,none⟩))),(5,.box 56 0),(8,.val (.int .i64 (N:Int))),(9,.val (.int .i64 (([]:List Value).length:Int))),(6,.val (X.bH yV))],⟨⟨_,aa,aa,λi hi=>(by cases hi)⟩,⟨_,aa,aa,λi hi=>(by cases hi)⟩,⟨_,aa,aa,λi hi=>(by cases hi)⟩,⟨_,aa,aa,λi hi=>by rw[(by simpa [AV.ids] using hi:i=56)];exact⟨(by show 56<=56;omega),(by show 56<2*28+1;omega)⟩⟩,⟨_,aa,aa,λi hi=>(by cases hi)⟩,⟨_,aa,aa,λi hi=>(by cases hi)⟩,⟨_,aa,aa,λi hi=>(by cases hi)⟩,aj⟩,?_⟩;generalize X.bH yV=vv at fx ⊢;obtain⟨KF,KG,rfl⟩:=fx.form;refine KQ ?_;refine VO.jg (KO _ _) dR (t:=50) (e:=105) (s:=23) (a:=.slice KF (List.replicate K (0:Rat)).length KG) (cs:=[.slice KF (List.replicate K (0:Rat)).length KG]) aa aa aa aa aa aa aa aa (bF aa) aa aa aa ⟨aa,_,_,_,aa⟩ ae (λuz cap sp NS SV gh=>wV aa ?_);refine KQ ?_;refine VS.vC aa (N-(([]:List Value).length+1)) ae (λw' dQ k' o' Ha=> ?_);have qq:bg Xa jf w':=(show bg Xa jf uz from bm).aN k';have Wm:aD w w':=rj.bS (Ce.aN eR) o'.1 (λx hx=>by rw[ay.1 hx];omega);have hst:eF VE 1 105 24 (.row 24 0 1 cap) [(24,(105,_))] uz ([.slice KF (List.replicate K (0:Rat)).length KG]):=.inr ⟨_,cap,_,sp,aa,aa,gh⟩;have rO:=hst.told dR Ha (λx hx=>by cases ay.1 hx;rfl) k'.fq w.heap.size (λh=>(fO (show jz 28 [g] jf 24 (dQ 24) from h)).elim (λq=>bG hWs (bG Od q)) (λq=>by rw[ay.1 q];omega));have Oz:=Ha.own 56 _ _ aa;have KH:dQ 56=g:=(zt Oz 0 g aa aa).1;refine⟨[(0,.int .i64 n),(1,.int .i64 k),(4,.pointer (some ⟨g4,0,none⟩)),(5,.pointer (some ⟨dQ 56,0,none⟩)),(8,.int .i64 (N:Int)),(9,.int .i64 ((([]:List Value).length+1:Nat):Int))],⟨⟨_,_,aa,aa,aa⟩,⟨_,_,aa,aa,aa⟩,⟨_,_,aa,aa,aa⟩,⟨_,_,aa,aa,aa⟩,⟨_,_,aa,aa,aa⟩,⟨_,_,aa,ak (λz=>Value.int .i64 z) (aA (i:=([]:List Value).length) ae),aa⟩,aj⟩,([]:List Value).length+1,g4,dQ 56,.slice (some ⟨dQ 24,0,none⟩) 1 cap,[Value.slice KF (List.replicate K (0:Rat)).length KG],ae,aa,aa,Wm,Rk,by rw[KH];exact hgW,by rw[KH];exact hg4n,(GC.bS eR).but o'.1 (by simp[hg4n]),Oz.cls,rO,cZ,?_,?_⟩
   ·exact Gj (vs:=([]:List Value)) (P:=λu=>aP (Gu 1) 4 27 w.heap.size w' u (List.replicate K 0)) (λi u hi=>((WS i u hi).bS (dU 1) eR).kp (dU 1) qq aa) ((fx.kp (dU 1) qq aa).mono hWs)
   ·exact Gi (us:=([]:List Value)) (λi j u v b hi=>(by simp at hi)) (λi v b hi hb=>((WS i v hi).sm hb).2) (λb hb=>(fx.sm hb).1)
  ·have QY:=zJ.bS eR;have hgb:g≠b0:=λh=>by rw[h] at CT;exact absurd (tJ CT QY) eL
   have hgb4:g4≠b0:=λh=>by rw[h] at GC;exact absurd (tJ GC zJ) eL
   have xM:jW Xa 28 [g,b0] [(52,[.row 57 0 us.length cB]),(105,KD.flatten.map .val++KE.map .val)] jf:=by
    refine⟨aa,by simp[hgb],λj g' c' hj hc=> ?_,λc' hc=> ?_,λc' hc k hk=> ?_⟩
    ·match j,hj,hc with
     | 0,hj,hc=>cases hj;cases hc;exact CT
     | 1,hj,hc=>cases hj;cases hc;rw[<-aQ,aV];exact QY
     | j+2,hj,_=>simp at hj
    ·rcases eD.1 hc with rfl|hc
     ·exact⟨aa,aa⟩
     ·cases ay.1 hc;exact⟨aa,by rw[<-aQ];exact dx (by rw[kW,(FV.ok dR).1,FX];rfl)⟩
    ·rcases eD.1 hc with rfl|hc
     ·have:k=57:=by simpa [bM,AV.dN] using hk
      subst this;exact⟨ae,by show 57<2*28+2;omega⟩
     ·cases ay.1 hc;rw[<-aQ,ah] at hk;cases hk
   have hNB:bW VE 1 jf us.length cB KD (KE.map .val) us:=⟨aa,FV.kp dR (Kp.of (U:=UU) eR),dx FX,ah _,QQ,QR,by rw[<-aQ,bJ];exact QS⟩;refine⟨[g,b0],[(52,[.row 57 0 us.length cB]),(105,KD.flatten.map .val++KE.map .val)],xM,[(0,.val (.int .i64 n)),(1,.val (.int .i64 k)),(4,.val (.pointer (some ⟨g4,0,none⟩))),(5,.box 56 0),(8,.val (.int .i64 (N:Int))),(9,.val (.int .i64 (us.length:Int))),(6,.val (X.bH yV))],⟨⟨_,aa,aa,λi hi=>(by cases hi)⟩,⟨_,aa,aa,λi hi=>(by cases hi)⟩,⟨_,aa,aa,λi hi=>(by cases hi)⟩,⟨_,aa,aa,λi hi=>by rw[(by simpa [AV.ids] using hi:i=56)];exact⟨(by show 56<=56;omega),(by show 56<2*28+2;omega)⟩⟩,⟨_,aa,aa,λi hi=>(by cases hi)⟩,⟨_,aa,aa,λi hi=>(by cases hi)⟩,⟨_,aa,aa,λi hi=>(by cases hi)⟩,aj⟩,?_⟩;generalize X.bH yV=vv at fx ⊢;obtain⟨KF,KG,rfl⟩:=fx.form;refine KQ ?_;refine VO.jh (KO _ _) dR (t:=50) (e:=105) (s:=23) (i:=57) (n:=us.length) (c:=cB) (vs:=KD) (sp:=KE.map .val) (es:=us) (a:=.slice KF (List.replicate K (0:Rat)).length KG) (cs:=[.slice KF (List.replicate K (0:Rat)).length KG]) aa aa aa aa aa aa aa aa (bF aa) aa (.inl aa) aa (hNB.kp dR (bg.fq (show bg Xa jf _ from bm))) aa ⟨aa,_,_,_,aa⟩ ae (λuz cap sp ρ NS SV gH gh=>wV aa ?_);refine KQ ?_;refine VS.vC aa (N-(us.length+1)) ae (λw' dQ k' o' Ha=> ?_);have qq:bg Xa jf w':=(show bg Xa jf uz from bm).aN k'
   have Wm:aD w w':=rj.bS (Ce.aN eR) o'.1 (λx hx=>by
    rcases eD.1 hx with rfl|hx
    ·omega
    ·rw[ay.1 hx];omega)
   have hst:eF VE 1 105 24 (.row 24 0 (us.length+1) cap) [(24,(105,_))] uz (us++[.slice KF (List.replicate K (0:Rat)).length KG]):=.inr ⟨_,cap,_,sp,aa,aa,gh⟩
   have rO:=hst.told dR Ha (λx hx=>by cases ay.1 hx;rfl) k'.fq w.heap.size (λh=>(fO (show jz 28 [g,b0] jf 24 (dQ 24) from h)).elim (λq=>bG hWs (bG Od q)) (λq=>by
    rcases eD.1 q with h|h
    ·rw[h];omega
    ·rw[ay.1 h];omega))
   have Oz:=Ha.own 56 _ _ aa;have KH:dQ 56=g:=(zt Oz 0 g aa aa).1;refine⟨[(0,.int .i64 n),(1,.int .i64 k),(4,.pointer (some ⟨g4,0,none⟩)),(5,.pointer (some ⟨dQ 56,0,none⟩)),(8,.int .i64 (N:Int)),(9,.int .i64 ((us.length+1:Nat):Int))],⟨⟨_,_,aa,aa,aa⟩,⟨_,_,aa,aa,aa⟩,⟨_,_,aa,aa,aa⟩,⟨_,_,aa,aa,aa⟩,⟨_,_,aa,aa,aa⟩,⟨_,_,aa,ak (λz=>Value.int .i64 z) (aA (i:=us.length) ae),aa⟩,aj⟩,us.length+1,g4,dQ 56,.slice (some ⟨dQ 24,0,none⟩) (us.length+1) cap,us++[Value.slice KF (List.replicate K (0:Rat)).length KG],ae,aa,aa,Wm,Rk,by rw[KH];exact hgW,by rw[KH];exact hg4n,(GC.bS eR).but o'.1 (by simp[hg4n,hgb4]),Oz.cls,rO,cZ,?_,?_⟩
   ·exact Gj (vs:=us) (P:=λu=>aP (Gu 1) 4 27 w.heap.size w' u (List.replicate K 0)) (λi u hi=>((WS i u hi).bS (dU 1) eR).kp (dU 1) qq aa) ((fx.kp (dU 1) qq aa).mono hWs)
   ·exact Gi (us:=us) hap (λi v b hi hb=>((WS i v hi).sm hb).2) (λb hb=>(fx.sm hb).1)
 refine VS.aO aa (az (λh=>heN (aJ.1 h))) ?_;obtain rfl:e=N:=ae
 (repeat (first|refine wN ?_|refine wP aa ?_|refine wO aa aa ?_))
 refine VS.qM Th (λt=>Nat.beq t 23) table (λ_ _ _=>trivial) (λjf yV k1 QP OS=> ?_);have eR:aD W jf:=QP
 have xM:jW Th 28 [g4] [(52,[.val (.slice none 0 0)])] jf:=by
  refine⟨aa,cZ,λj g' c' hj hc=> ?_,λc' hc=> ?_,λc' hc k hk=> ?_⟩
  ·match j,hj,hc with
   | 0,hj,hc=>cases hj;cases hc;exact GC.bS eR
   | j+1,hj,_=>simp at hj
  ·cases ay.1 hc;exact⟨aa,aa⟩
  ·cases ay.1 hc;cases hk
 refine⟨[g4],[(52,[.val (.slice none 0 0)])],xM,[(4,.box 56 0),(5,.val (.pointer (some ⟨g,0,none⟩)))],⟨⟨_,aa,aa,λi hi=>by rw[(by simpa [AV.ids] using hi:i=56)];exact⟨(by show 56<=56;omega),(by show 56<2*28+1;omega)⟩⟩,⟨_,aa,aa,λi hi=>(by cases hi)⟩,aj⟩,?_⟩;refine kA ?_;obtain⟨pv,cv,rfl⟩:=hrv.form;refine VO.Yo aa [.slice pv us.length cv] aa (at_one (at_ad1 (λh=>hg4n h.symm) ((WX.bS eR).cell (j:=0) aa))) (wV aa ?_);refine kA ?_;refine VS.lJ (wi _ _) aa (λwz β kz bz en=> ?_);have Wm:aD w wz:=rj.bS (Ce.aN eR) bz.1 (λx hx=>by rw[ay.1 hx];exact Rk)
 have hT:jY 1 w.heap.size W (.slice pv us.length cv) (vE e K):=⟨us,hrv,by unfold vE;rw[DJ,hul],λi u r hi hr=>by
  unfold vE at hr;rw[(Ll.1 (dz hr)).2];exact WS i u hi,hap⟩
 exact⟨_,aa,hT.kp (T:=λt=> !Nat.beq t 52) ((bg.of eR).aN (rj.kp bz.1 (λx hx=>⟨52,[.slice none 0 0],by rw[ay.1 hx];exact GC.bS eR,aa,aa⟩))) aa aa,Wm⟩
abbrev TX:TypeId->Bool:=λt=> !(Nat.beq t 105 || Nat.beq t 27)
theorem ves {w:World}:∀ {us:List Value} {vs:List (List Value)},eC VE w us vs->vs=us.map λu=>[u]
 | [],_,.nil=>rfl
 | u::r,_,.cons h t=>by rw[h.1,ves t];rfl
theorem vF:∀ (us:List Value),(us.map λu=>[u]).flatten=us
 | []=>rfl
 | u::r=>by rw[kX,wC,vF r];rfl
set_option maxRecDepth 4000 in
theorem gAdd_any (v u:Value) (t:DB) (xs:List Rat) (y x:Rat) (e c B kk k:Nat) (w:World) (hv:jY kk B w v t) (hu:aG w u x k) (hx:t[e]? =some xs) (hy:xs[c]? =some y) (qq:kk<=1000000) (hk:k<=1000000) (hs:dy (y+x) kk):
  Calls Tryz.prog 64 #[.agg #[v],.agg #[.int .i64 (e:Int),.int .i64 (c:Int)],u] w λo w'=>o=.returned (.tuple #[])/\jY kk B w' v (Hd t e c x)/\KZ TX w w'/\∀ W,aD W w->W.heap.size<=B->aD W w':=by
 obtain⟨us,g1,g2,g3,g4⟩:=hv;have iq:e<us.length:=by rw[g2];exact (cM.1 hx).1
 obtain⟨ue,hue⟩:∃ z,us[e]? =some z:=⟨_,bj iq⟩;have kP:c<xs.length:=(cM.1 hy).1;rcases g1 with ⟨rfl,rfl⟩|⟨g,cg,vg,sg,rfl,hBg,WX,PG,hgo,Ig,hgm,hgf⟩
 ·exact absurd iq (Nat.not_lt_zero _)
 rcases g3 e ue xs hue hx with ⟨rfl,rfl⟩|⟨b,cb,vb,sb,rfl,hBb,PN,Uu,hbo,hbl,hbm,hbf⟩
 ·exact absurd kP (Nat.not_lt_zero _)
 obtain rfl:=ves PG;rw[vF] at WX hgf;obtain⟨s0,p0,n0,c0,t0,y0,m0,d0,rfl⟩:=hu.form;have hgb:g≠b:=λh=>by rw[h] at WX;exact absurd (tJ WX PN) eL
 have hsetl:((us.map AV.val).set e (AV.row 55 0 xs.length cb)++sg.map AV.val).map (AV.leaf (adB 27 [g,b]))=us++sg:=by
  rw[aQ,aV,List.map_set,aV]
  congr 1
  apply Lp;intro j;rw[RJ];by_cases h:e=j
  ·subst h;rw[if_pos rfl,if_pos iq,hue];rfl
  ·rw[if_neg h]
 have VG:(us++sg).all cJ=true:=by
  rw[kW,hgo,Bool.and_true];have:=(PG.ok dR).1
  rwa [vF] at this
 have xM:jW Th 27 [g,b] [(105,(us.map AV.val).set e (.row 55 0 xs.length cb)++sg.map .val),(27,vb.flatten.map .val++sb.map .val)] w:=by
  refine⟨aa,by simp[hgb],λj g' c' hj hc=> ?_,λc' hc=> ?_,λc' hc k hk=> ?_⟩
  ·match j,hj,hc with
   | 0,hj,hc=>cases hj;cases hc;rw[hsetl];exact WX
   | 1,hj,hc=>cases hj;cases hc;rw[<-aQ,aV];exact PN
   | j+2,hj,_=>simp at hj
  ·rcases eD.1 hc with rfl|hc
   ·refine⟨aa,eg.2 λq hq=> ?_⟩;rcases mV.1 hq with h1|h1
    ·rcases Lf h1 with h2|rfl
     ·obtain⟨z,hz,rfl⟩:=eG.1 h2;exact eg.1 VG z (uC _ hz)
     ·rfl
    ·obtain⟨z,hz,rfl⟩:=eG.1 h1;exact eg.1 VG z (pV _ hz)
   ·cases ay.1 hc;exact⟨aa,by rw[<-aQ];exact dx (by rw[kW,(Uu.ok (dU kk)).1,hbo];rfl)⟩
  ·rcases eD.1 hc with rfl|hc
   ·have:k=55:=by
     obtain⟨q,hq,WN⟩:=dh.1 hk;rcases mV.1 hq with h1|h1
     ·rcases Lf h1 with h2|rfl
      ·obtain⟨z,hz,rfl⟩:=eG.1 h2;cases WN
      ·simpa [AV.dN] using WN
     ·obtain⟨z,hz,rfl⟩:=eG.1 h1;cases WN
    subst this;exact⟨ae,by show 55<2*27+2;omega⟩
   ·cases ay.1 hc;rw[<-aQ,ah] at hk;cases hk
 refine ai (C:=bd Tryz.prog w _) (args:=[_,_,_]) Tryz.func64 aa Tryz.ntmps64 (bF aa) ?_;refine VS.qM Th (λt=>Nat.beq t 23) table (λ_ _ _=>trivial) (λjf yV k1 QP OS=> ?_);have eR:aD w jf:=QP;have hsl1:=xM.bS eR;refine⟨[g,b],_,hsl1,[(0,.agg [.row 54 0 us.length cg]),(1,.val (.agg #[.int .i64 (e:Int),.int .i64 (c:Int)])),(2,.val (.agg #[.bool s0,.slice p0 n0 c0,.bool t0,.slice y0 m0 d0]))],⟨⟨_,aa,aa,λi hi=>by rw[(by simpa [AV.ids,bM,AV.dN] using hi:i=54)];exact⟨(by show 54<=54;omega),(by show 54<2*27+2;omega)⟩⟩,⟨_,aa,aa,λi hi=>(by cases hi)⟩,⟨_,aa,aa,λi hi=>(by cases hi)⟩,aj⟩,?_⟩;refine kA ?_;refine VO.cond aa eh ?_;refine wV aa ?_;refine kA ?_
 have hpk:∀ (j:Nat) (q:AV),[AV.row 55 0 xs.length cb][j]? =some q->((us.map AV.val).set e (.row 55 0 xs.length cb)++sg.map .val)[0+((e:Nat):Int).toNat*1+j]? =some q:=λj q hj=>by
  match j,hj with
  | 0,hj=>
    cases hj;rw[dV,rB,jR,nP,jG (by rw[Ht,bJ];exact iq),RJ,if_pos rfl,if_pos (by rw[bJ];exact iq)]
 refine VO.mv aa [.row 55 0 xs.length cb] aa hpk (wV aa ?_);refine kA ?_;refine VO.cond aa eh ?_;refine wV aa ?_;refine kA ?_;refine VO.mv aa [.row 55 0 xs.length cb] aa hpk (wV aa ?_);refine kA ?_;refine VO.cond aa eh ?_;refine wV aa ?_;refine kA ?_;obtain⟨cy,Gx,hEy⟩:=Uu.at c y hy;obtain⟨s9,p9,n9,c9,t9,y9,m9,d9,rfl,hr9,hz9⟩:=hEy;refine VO.mv aa [.val (.bool s9),.val (.slice p9 n9 c9),.val (.bool t9),.val (.slice y9 m9 d9)] aa (Qw (Uu.lens (dU kk)) _ Gx 0 [.bool s9,.slice p9 n9 c9,.bool t9,.slice y9 m9 d9] ⟨[],aa⟩ _ (by rw[dV];omega)) (wV aa ?_);refine kA ?_;refine VO.cR aa aa (fk mX) (λaK bE aX=>eJ _ _ y x kk k aK ((hr9.to hz9).kp (T:=λ_=>false) bm) (hu.kp (T:=λ_=>false) bm) ae ae) (λaK bE aX w1 s1 p1 n1 c1 t1 y1 m1 d1 q1 aU cQ _ bb1=>wV aa ?_);refine kA ?_;refine VO.cond aa eh ?_;refine wV aa ?_;refine kA ?_;refine VO.cond aa ?_ (wV aa ?_)
 ·rw[fH,bJ,bJ,<-fH,hbf,dV];have:(c+1)*4<=cb*4:=kC _ ae;show 0+c*4+4<=cb*4;omega
 refine kA ?_;refine VS.fin (wi _ _) aa (λwz β kz bz en=> ?_);have hB1:rj [g,b] w wz:=(rj.of eR).aN bz.1;have o54:=zt (en.own 54 _ _ aa) 0 g aa aa;have o55:=zt (en.own 55 _ _ aa) 1 b aa aa;have kz':bg ⟨UU,λ_=>True,λ_=>false⟩ w1 wz:=by exact bm
 have kw:bg ⟨UU,λ_=>True,λ_=>false⟩ w wz:=by exact bm
 have hgn:∀ q∈[g,b],B<=q:=λq hq=>by
  rcases eD.1 hq with rfl|hq
  ·exact hBg
  ·rw[ay.1 hq];exact hBb
 have hset2:((us.map AV.val).set e (AV.row 55 0 xs.length cb)++sg.map AV.val).map (AV.leaf β)=us++sg:=by
  rw[aQ,aV,List.map_set,aV]
  congr 1
  apply Lp;intro j;rw[RJ];by_cases h:e=j
  ·subst h;rw[if_pos rfl,if_pos iq,hue];show some (Value.slice (some ⟨β 55,0,none⟩) xs.length cb)=_;rw[o55.1]
  ·rw[if_neg h]
 have c54:cN wz g 105 (us++sg).toArray:=by have:=o54.2;rwa [hset2] at this
 have c55:cN wz b 27 (((vb.set c [.bool s1,.slice p1 n1 c1,.bool t1,.slice y1 m1 d1]).flatten.map AV.val++sb.map AV.val).map (AV.leaf β)).toArray:=Eq.mp (ak (λl=>cN wz b 27 (List.map (AV.leaf β) l).toArray) (row_put (Uu.lens (dU kk)) (by rw[Uu.len];exact kP) aa)) o55.2;rw[<-aQ,aV] at c55;have rO:Gu kk wz [.bool s1,.slice p1 n1 c1,.bool t1,.slice y1 m1 d1] (y+x):=.mk (q1.rd.kp kz') hs;refine⟨aa,⟨us,.inr ⟨g,cg,us.map λu=>[u],sg,aa,hBg,by rw[vF];exact c54,PG.kp dR kw,hgo,Ig,hgm,by rw[vF];exact hgf⟩,by rw[Gg];exact g2,λi u r hi hr=> ?_,g4⟩,?_,λW hW hWB=>rj.bS hW hB1 (λq hq=>bG hWB (hgn q hq))⟩
 ·by_cases Dm:i=e
  ·subst Dm;rw[hue] at hi;cases hi;rw[DC hx,if_pos rfl,Rh hy] at hr;cases hr;refine .inr ⟨b,cb,vb.set c [.bool s1,.slice p1 n1 c1,.bool t1,.slice y1 m1 d1],sb,by rw[Ht],hBb,c55,(Uu.kp (dU kk) kw).put rO,hbo,by rw[Ht];exact hbl,hbm,?_⟩;rw[fH,vz _ 4 (((Uu.kp (dU kk) kw).put rO).lens (dU kk)),Ht,<-vz _ 4 (Uu.lens (dU kk)),<-fH];exact hbf
  ·obtain⟨r0,h0⟩:∃ r0,t[i]? =some r0:=⟨_,bj (by rw[<-g2];exact (cM.1 hi).1)⟩;rw[DC h0,if_neg Dm] at hr;cases hr;refine (g3 i u r hi h0).but (dU kk) hB1 kw (λq hq hm=> ?_);rcases eD.1 hm with rfl|hm
   ·rcases g3 i u r hi h0 with ⟨rfl,_⟩|⟨b',c',vs,sp,rfl,_,hcl',_⟩
    ·cases hq
    ·cases hq;exact absurd (tJ WX hcl') eL
   ·rw[ay.1 hm] at hq;exact Dm (g4 i e u _ b hi hue hq aa)
 ·refine rj.kp hB1 (λq hq=> ?_);rcases eD.1 hq with rfl|hq
  ·exact⟨105,us++sg,WX,aa,VG⟩
  ·rw[ay.1 hq];exact⟨27,vb.flatten++sb,PN,aa,by rw[kW,(Uu.ok (dU kk)).1,hbo];rfl⟩
set_option maxRecDepth 4000
abbrev Rl:=ByteArray×ByteArray×Rat
def BkE (kk:Nat) (w:World) (cs:List Value) (b:Rl):Prop:=∃ s p n c t y m d,cs=[.string b.1,.string b.2.1,.bool s,.slice p n c,.bool t,.slice y m d]/\aG w (.agg #[.bool s,.slice p n c,.bool t,.slice y m d]) b.2.2 kk
theorem bk_ok (kk:Nat):gp (BkE kk) 6 where
 kp:=λh k=>by
  obtain⟨s,p,n,c,t,y,m,d,hv,h2⟩:=h;exact⟨_,_,_,_,_,_,_,_,hv,h2.kp k⟩
 len:=λh=>by
  obtain⟨s,p,n,c,t,y,m,d,rfl,_⟩:=h;rfl
 ok:=λh=>by
  obtain⟨s,p,n,c,t,y,m,d,rfl,_⟩:=h;rfl
def YbE (kk:Nat) (w:World) (cs:List Value) (l:List Rl):Prop:=∃ n h b d s q,cs=[n,h,b,d,s,q]/\bh (BkE kk) 6 w b l
def bkP (names:List ByteArray) (b:Rl):Int:=uu (λx=>b.1.toList == x.toList) names
def bkK (cls:List tK) (b:Rl):Int:=uu (λx=>x.1.toList == b.2.1.toList) cls
def Jx (names:List ByteArray) (cls:List tK) (o:Option DB) (b:Rl):Option DB:=o.bind λt=>if Gf t (bkP names b) (bkK cls b)=true then some (Hd t (bkP names b).toNat (bkK cls b).toNat b.2.2) else none
def CU (names:List ByteArray) (cls:List tK) (l:List Rl):Option DB:=l.foldl (Jx names cls) (some (vE names.length cls.length))
variable {l:List Rl} {names:List ByteArray} {z:Nat}
theorem Wp {cls:List tK} {b:Rl} (h:l[z]? =some b):CU names cls (l.take (z+1))=Jx names cls (CU names cls (l.take z)) b:=by
 unfold CU;rw[aI h,Lq];rfl
theorem Gl {names:List ByteArray} {cls:List tK}:∀ (l:List Rl),l.foldl (Jx names cls) none=none
 | []=>rfl
 | _::r=>Gl r
theorem Wq {cls:List tK} (h:CU names cls (l.take z)=none):CU names cls l=none:=by
 have:CU names cls l=(l.drop z).foldl (Jx names cls) (CU names cls (l.take z)):=by
  unfold CU;rw[<-Lq,wB]
 rw[this,h,Gl]
def CV (iL:List ByteArray) (cls:List tK) (AU:List (List Rl)) (year:Int):Option DB:=if year<0\/(AU.length:Int)<=year then none else CU (jw iL) cls (AU.getD year.toNat [])
def totE (o:Option DB):Int:=if o.isSome then 0 else 2
def Ti (t:DB) (n:Nat):Prop:=∀ r∈t,∀ x∈r,dy x n
theorem Oi (a b:Nat):Ti (vE a b) 1:=λr hr x hx=>by
 rw[(Ll.1 hr).2] at hx;rw[(Ll.1 hx).2];exact dy.zero
variable {t:DB}
theorem Ws {n k e c:Nat} {x:Rat} (h:Ti t n) (hx:dy x k):Ti (Hd t e c x) (n+k+1):=λr hr y hy=>by
 obtain⟨i,hi⟩:=oG hr;obtain⟨r0,h0⟩:∃ r0,t[i]? =some r0:=⟨_,bj (by rw[<-Gg t e c x];exact (cM.1 hi).1)⟩;rw[DC h0] at hi;have hm:=h r0 (dz h0);by_cases he:i=e
 ·rw[if_pos he] at hi;cases hi;obtain⟨j,hj⟩:=oG hy;rw[List.getElem?_modify] at hj;obtain⟨y0,Xk,rfl⟩:=Hh.1 hj;have h2:=hm y0 (dz Xk);by_cases hc:c=j
  ·simp only[hc,if_true];exact h2.add hx
  ·simp only[hc,if_false];exact h2.mono ae
 ·rw[if_neg he] at hi;cases hi;exact (hm y hy).mono ae
theorem Wt {e c:Int} (h:Gf t e c=true):∃ (E K:Nat) (xs:List Rat) (y:Rat),e=E/\c=K/\t[E]? =some xs/\xs[K]? =some y:=by
 unfold Gf at h;obtain⟨h1,h2,h3,h4⟩:=nO h;obtain⟨E,rfl⟩:=tP h1;obtain⟨K,rfl⟩:=tP h3;rw[dV] at h4;have h5:t[E]? =some (t[E]'ae):=bj ae;rw[fG,h5] at h4;exact⟨E,K,_,_,aa,aa,h5,bj (by simpa using h4)⟩
abbrev TQ:TypeId->Bool:=λt=>(Nat.beq t 9 || (Nat.beq t 105 || Nat.beq t 27))
abbrev Gv (P:Program) (w:World) (N:Nat):Cx:={ P:=P,w0:=w,N:=N,K:=⟨UU,λ_=>True,λt=>TQ t⟩,SU:=λt=>Nat.beq t 23,ti:=table,keep:=λ_ _=>trivial }
theorem xQ (w:World) (N:Nat):(Gv Tryz.prog w N).Ok:=fy
theorem Wu (w:World) (N:Nat):(Gv Tryz.prog w N).P.follows .mixedOrders=true:=by show Tryz.prog.follows .mixedOrders=true;kernel_rfl
section
variable {F F':Fr} {H H':Hp} {w w1:World} {N:Nat} {l':List Oper} {Q:Exit->Act->World->Prop} {k:List It} {id:Nat} {ops:Array Oper}
theorem cxQ_r (e:jJ (Gv Tryz.prog w1 N) ops 80 ops.toList F H=(l',F',H')) (h:aB (Gv Tryz.prog w1 N) none ops l' (VS (Gv Tryz.prog w1 N) Q k) F' H' w):VS (Gv Tryz.prog w1 N) Q (.code (.region id ops false)::k) F H w:=VS.region (xQ _ _) (VO.run 80 e h)
theorem cxQ_d (e:jJ (Gv Tryz.prog w1 N) ops 80 ops.toList F H=(l',F',H')) (h:aB (Gv Tryz.prog w1 N) (some []) ops l' (VS (Gv Tryz.prog w1 N) Q k) F' H' w) (np:lI (Gv Tryz.prog w1 N).SU [] ops=true:=by kernel_rfl):VS (Gv Tryz.prog w1 N) Q (.code (.region id ops true)::k) F H w:=VS.draw (xQ _ _) (Wu _ _) [] np (VO.run 80 e h)
end
variable {P Q:Prop}
theorem fF (h:Q) (i:Q->P:=by intro h;(repeat first|refine wN ?_|refine wP rfl ?_|refine cxQ_r rfl ?_|refine cxQ_d rfl ?_|refine wO rfl rfl ?_);exact h):P:=i h
theorem Jy {X:Prop} (hb:X) (h:Q) (i:X->Q->P:=by intro hb h;refine⟨_,rfl,hb,λa b c=>wV rfl ?_⟩;refine fF ?_;revert a b c;exact h):P:=i hb h
set_option maxRecDepth 8000 in
theorem Oj (nm pa pB nB cB sT pT nT cT tT yT mT dT sC pC nC cC tC yC mC dC bk fw sI pI nI cI tI yI mI dI sF pF nF cF tF yF mF dF kp pc Nc cc pe Ne ce py Ny cy:_) (year:Int) (iL:List ByteArray) (cls:List tK) (AU:List (List Rl)) (kk nb:Nat) (w:World) (hc:bh (xj kk) 6 w (.slice pc Nc cc) cls) (he:bh xP 1 w (.slice pe Ne ce) iL) (hy:bh (YbE kk) 6 w (.slice py Ny cy) AU) (hk:1<=kk) (iy:kk<=1000) (hnb:∀ l∈AU,l.length<=nb) (hnb1:nb<=100) (hNe:iL.length<=10000) (hNc:cls.length<=10000):
  Calls Tryz.prog 13 #[.agg #[.string nm,.string pa,.slice pB nB cB,.bool sT,.slice pT nT cT,.bool tT,.slice yT mT dT,.bool sC,.slice pC nC cC,.bool tC,.slice yC mC dC,.int .i64 bk,.int .i64 fw,.bool sI,.slice pI nI cI,.bool tI,.slice yI mI dI,.bool sF,.slice pF nF cF,.bool tF,.slice yF mF dF,.int .i64 kp,.slice pc Nc cc,.slice pe Ne ce,.slice py Ny cy],.int .i64 year] w λo w'=>∃ r,o=.returned (.tuple #[.agg #[r],.int .i64 (totE (CV iL cls AU year))])/\jY (1+nb*(kk+1)) w.heap.size w' r ((CV iL cls AU year).getD [])/\aD w w':=by
 obtain⟨KK,hKK⟩:∃ KK,KK=1+nb*(kk+1):=⟨_,aa⟩
 have hKb:KK<=1000000:=by
  have:nb*(kk+1)<=100*1001:=kD hnb1 ae;omega
 rw[<-hKK];obtain⟨p',c',e1,hce,hce2⟩:=he.form;cases e1;obtain⟨p',c',e1,hcc,hcc2⟩:=hc.form;cases e1;obtain⟨p',c',e1,hyc,hyc2⟩:=hy.form;cases e1;refine ai (C:=Gv Tryz.prog w _) (args:=[_,_]) Tryz.func13 aa Tryz.ntmps13 (bF aa) ?_;refine fF ?_
 have bad:∀ (W:World) (hB:aD w W),(CV iL cls AU year)=none->∃ r,(Ending.returned (.tuple #[.agg #[.slice none 0 0],.int .i64 2]))=.returned (.tuple #[.agg #[r],.int .i64 (totE (CV iL cls AU year))])/\jY KK w.heap.size W r ((CV iL cls AU year).getD [])/\aD w W:=λW hB hn=>by
  rw[hn];exact⟨_,aa,jY.nil _ _ _,hB⟩
 by_cases rG:year<0
 ·refine VO.fix 13 aa (ak (λb=>AV.val (.bool b)) (aw rG)) ?_;refine fF ?_;refine VS.ret (xQ _ _) aa aa (λwz kz bz=> ?_);exact bad _ bz (by unfold CV;rw[if_pos (.inl rG)])
 refine VO.fix 13 aa (ak (λb=>AV.val (.bool b)) (az rG)) ?_;refine fF ?_;by_cases Gz:(AU.length:Int)<=year
 ·refine VS.aR aa (aw Gz) ?_;refine fF ?_;refine VS.ret (xQ _ _) aa aa (λwz kz bz=> ?_);exact bad _ bz (by unfold CV;rw[if_pos (.inr Gz)])
 refine VS.aO aa (az Gz) ?_;obtain⟨Y,rfl⟩:=tP (show 0<=year by omega);obtain⟨bks,hbks⟩:∃ l,AU[Y]? =some l:=⟨_,bj ae⟩
 have hR:CV iL cls AU (Y:Int)=CU (jw iL) cls bks:=by
  unfold CV;rw[if_neg ae,dV,fG,hbks];rfl
 have hnbk:=hnb bks (dz hbks);obtain⟨by0,oy0,csy,rfl,Gx,⟨yn,yh,yb,yd,ys,yq,rfl,hbk⟩⟩:=hy.at hbks;obtain⟨pb,cb,rfl,PN,hbc2⟩:=hbk.form;refine fF ?_;refine VO.call aa aa (fk Tryz.func61) (λaK bE aX=>(Rc _ _ _ _ _ _ _ _ _ _ _ _ _ _ _ _ _ _ _ _ _ _ _ _ _ _ _ _ _ _ _ _ _ _ _ _ _ _ _ _ _ _ _ _ _ _ _ _ _ iL aK (he.bS rf aX) aa ae).mono ?_);rintro o w1 ⟨r1,rfl,q1,aU⟩;obtain⟨pn,cn,rfl⟩:=q1.form;refine Jy aU ?_;intro cQ _ bb1;refine VO.call aa aa (fk Tryz.func34) (λbf cK bK=>(Rj _ _ bf (by rw[wh];omega) ae).mono ?_);rintro o w2 ⟨r2,rfl,q2,bu⟩;obtain⟨p2,c2,rfl⟩:=q2.form;refine Jy bu ?_;intro dW _ bb2;refine VO.cond aa eh ?_;refine wV aa ?_;refine fF ?_;refine VO.read aa [.slice pb bks.length cb] aa (bc Gx 2 _ ⟨_,aa⟩) (wV aa ?_);refine fF ?_;obtain⟨N,hN⟩:∃ N,N=bks.length:=⟨_,aa⟩;rw[<-hN] at hbk PN hnbk ⊢;have hpbk:=hbk
 refine VS.Jq (J:=λm L W=>∃ (z g2 g4 g7:Nat) (tv nv:Value) (t:DB),z<=N/\m=N-z/\L=[(1,.int .i64 (Y:Int)),(2,.pointer (some ⟨g2,0,none⟩)),(4,.pointer (some ⟨g4,0,none⟩)),(6,nv),(7,.pointer (some ⟨g7,0,none⟩)),(34,.slice pb N cb),(35,.int .i64 (N:Int)),(36,.int .i64 (z:Int))]/\aD w W/\w.heap.size<=g4/\g4≠g7/\cN W g2 32 #[.string nm,.string pa,.slice pB nB cB,.bool sT,.slice pT nT cT,.bool tT,.slice yT mT dT,.bool sC,.slice pC nC cC,.bool tC,.slice yC mC dC,.int .i64 bk,.int .i64 fw,.bool sI,.slice pI nI cI,.bool tI,.slice yI mI dI,.bool sF,.slice pF nF cF,.bool tF,.slice yF mF dF,.int .i64 kp,.slice pc cls.length cc,.slice pe iL.length ce,.slice (some ⟨by0,oy0,none⟩) AU.length cy]/\cN W g4 52 #[.slice none 0 0]/\cN W g7 52 #[tv]/\aP xP 1 9 w.heap.size W nv (jw iL)/\jY KK w.heap.size W tv t/\CU (jw iL) cls (bks.take z)=some t/\Ti t (1+z*(kk+1)))
  (λW=>Gv Tryz.prog W 62) (λ_=>rfl) (λ_=>rfl) (λ_=>aD.refl _) N (λw' β k' o en=> ?_) ?_
 ·refine⟨[(1,.int .i64 (Y:Int)),(2,.pointer (some ⟨β 2,0,none⟩)),(4,.pointer (some ⟨β 4,0,none⟩)),(6,.slice pn (jw iL).length cn),(7,.pointer (some ⟨β 7,0,none⟩)),(34,.slice pb N cb),(35,.int .i64 (N:Int)),(36,.int .i64 ((0:Nat):Int))],⟨⟨_,_,aa,aa,aa⟩,⟨_,_,aa,aa,aa⟩,⟨_,_,aa,aa,aa⟩,⟨_,_,aa,aa,aa⟩,⟨_,_,aa,aa,aa⟩,⟨_,_,aa,aa,aa⟩,⟨_,_,aa,by rw[hN];rfl,rfl⟩,⟨_,_,aa,aa,aa⟩,aj⟩,0,β 2,β 4,β 7,_,_,_,ae,aa,aa,o,(en.own 4 _ _ aa).new,(λh=>absurd (en.apart 4 7 (by intro h;cases h) (by intro h;cases h) h) eL),(en.own 2 _ _ aa).cls,(en.own 4 _ _ aa).cls,(en.own 7 _ _ aa).cls,?_,?_,aa,by rw[DM];exact Oi _ _⟩
  ·exact (q1.kp rf (show KZ TQ w1 w' from bm) aa).mono aX.size
  ·exact ((q2.kp (show KZ TQ w2 w' from bm) aa aa).up ae).mono bK.size
 rintro m L W ⟨z,g2,g4,g7,tv,nv,t,hz,rfl,rfl,Ce,Rk,hg47,hg2,GC,hg7,hnv,hT,hF,hS⟩;obtain⟨pn2,cn2,rfl⟩:=hnv.form;refine fF ?_;by_cases hlt:z<N
 ·obtain⟨bk,hbz⟩:∃ x,bks[z]? =some x:=⟨_,bj ae⟩;have hbkW:bh (BkE kk) 6 W (.slice pb N cb) bks:=hpbk.bS (bk_ok kk) Ce;obtain⟨bb,ob,csb,rfl,hcb,⟨s9,p9,n9,c9,t9,y9,m9,d9,rfl,hin9⟩⟩:=hbkW.at hbz;have hcW:bh (xj kk) 6 W (.slice pc cls.length cc) cls:=hc.bS (DA kk) Ce
  have Ig:∀ (b:Nat) (v:Value),Gh tv=some b->g7≠b/\g4≠b:=λb v hb=>by
   obtain⟨us,h1,_⟩:=hT;rcases h1 with ⟨rfl,_⟩|⟨b',c',vs,sp,rfl,hB,kP,_⟩
   ·cases hb
   ·cases hb;exact⟨λh=>by rw[h] at hg7;exact absurd (tJ hg7 kP) eL,λh=>by rw[h] at GC;exact absurd (tJ GC kP) eL⟩
  refine VS.aR aa (aw (aJ.2 hlt)) ?_;refine fF ?_;refine VO.cond aa eh ?_;refine wV aa ?_;refine fF ?_;refine VO.read aa [.string bk.1,.string bk.2.1,.bool s9,.slice p9 n9 c9,.bool t9,.slice y9 m9 d9] aa (bc hcb 0 _ ⟨[],aa⟩) (wV aa ?_);refine fF ?_;refine VO.call aa aa (fk Tryz.func62) (λcV dS ea=>(Rf _ (jw iL) bk.1 cV ((hnv.sl rf).bS rf ea)).mono ?_);rintro o w3 ⟨rfl,dH⟩;have hst:CU (jw iL) cls (bks.take (z+1))=if Gf t (bkP (jw iL) bk) (bkK cls bk)=true then some (Hd t (bkP (jw iL) bk).toNat (bkK cls bk).toNat bk.2.2) else none:=by rw[Wp hbz,hF];rfl
  have he0:uu (λx=>bk.1.toList == x.toList) (jw iL)=bkP (jw iL) bk:=aa;rw[he0];generalize bkP (jw iL) bk=ei at hst ⊢;refine⟨_,aa,dH,λeV _ bb3=>wV aa ?_⟩
  (repeat (first|refine wN ?_|refine wP aa ?_|refine cxQ_r aa ?_|refine wO aa aa ?_))
  refine VO.read aa [.slice pc cls.length cc] aa (ft (hg2.cell (j:=22) aa)) (wV aa ?_)
  (repeat (first|refine wN ?_|refine wP aa ?_|refine cxQ_r aa ?_|refine wO aa aa ?_))
  refine VO.call aa aa (fk Tryz.func16) (λey eU fc=>(Rg _ cls bk.2.1 kk ey (hcW.bS (DA kk) fc)).mono ?_);rintro o w4 ⟨rfl,gj⟩;have YI:uu (λx=>x.1.toList == bk.2.1.toList) cls=bkK cls bk:=aa;rw[YI];generalize bkK cls bk=ci at hst ⊢;refine Jy gj ?_;intro jc _ mw;refine VO.read aa [tv] aa (ft (hg7.cell (j:=0) aa)) (wV aa ?_);refine fF ?_;refine VO.call aa aa (fk Tryz.func63) (λgn iz iZ=>(hasG_any _ t ei ci KK gn (hT.NV.iI (pL KK) iZ)).mono ?_);rintro o w5 ⟨rfl,je⟩;cases hh:Gf t ei ci with
  | false=>
    refine⟨_,aa,je,λnw _ um=>wV aa ?_⟩
    (repeat (first|refine wN ?_|refine wP aa ?_|refine wO aa aa ?_))
    refine VS.qM Th (λt=>Nat.beq t 23) table (λ_ _ _=>trivial) (λjf yV k1 QP OS=> ?_);have eR:aD W jf:=QP
    have xM:jW Th 62 [g4] [(52,[.val (.slice none 0 0)])] jf:=by
     refine⟨aa,cZ,λj g' c' hj hc=> ?_,λc' hc=> ?_,λc' hc k hk=> ?_⟩
     ·match j,hj,hc with
      | 0,hj,hc=>cases hj;cases hc;exact GC.bS eR
      | j+1,hj,_=>simp at hj
     ·cases ay.1 hc;exact⟨aa,aa⟩
     ·cases ay.1 hc;cases hk
    refine⟨[g4],[(52,[.val (.slice none 0 0)])],xM,[(4,.box 124 0)],⟨⟨_,aa,aa,λi hi=>by rw[(by simpa [AV.ids] using hi:i=124)];exact⟨(by show 124<=124;omega),(by show 124<2*62+1;omega)⟩⟩,aj⟩,?_⟩;refine kA ?_;refine VS.ret (wi _ _) aa aa (λwz kz bz=> ?_);exact bad _ (rj.bS (Ce.aN eR) bz.1 (λx hx=>by rw[ay.1 hx];exact Rk)) (by rw[hR];exact Wq (z:=z+1) (by rw[hst,hh];rfl))
  | true=>
    obtain⟨E,Kc,xs,y,rfl,rfl,hx,hy'⟩:=Wt hh;rw[hh,if_pos rfl,dV,dV] at hst;have hRS:dy (y+bk.2.2) (1+z*(kk+1)+kk+1):=(hS xs (dz hx) y (dz hy')).add (hin9.sz hk);have hstep:1+z*(kk+1)+kk+1=1+(z+1)*(kk+1):=by rw[Nat.succ_mul];omega
    have hle:1+(z+1)*(kk+1)<=KK:=by
     have:(z+1)*(kk+1)<=nb*(kk+1):=kC _ ae;omega
    refine⟨_,aa,je,λnw _ um=>wV aa ?_⟩
    (repeat (first|refine wN ?_|refine wP aa ?_|refine wO aa aa ?_))
    refine VS.SY (xQ _ _) 4 aa aa aa (VO.run 80 aa ?_);refine VO.read aa [tv] aa (ft (hg7.cell (j:=0) aa)) (VO.run 80 aa ?_);refine VO.nil ⟨_,_,_,λw=>Gv Tryz.prog w 62,aa,aa,fk Tryz.func64,λ_=>aa,λ_=>aa,λ_=>aD.refl _,λw6 k6 b6=> ?_⟩;have b6':aD W w6:=b6;refine (gAdd_any tv _ t xs y bk.2.2 E Kc w.heap.size KK kk w6 (hT.bS b6') (hin9.kp (Kp.of (U:=UU) b6')) hx hy' hKb ae (hRS.mono ae)).mono ?_;rintro o w7 ⟨rfl,hT7,hkx,hold⟩
    refine⟨_,[(1,.int .i64 (Y:Int)),(2,.pointer (some ⟨g2,0,none⟩)),(4,.pointer (some ⟨g4,0,none⟩)),(6,.slice pn2 (jw iL).length cn2),(7,.pointer (some ⟨g7,0,none⟩)),(34,.slice (some ⟨bb,ob,none⟩) N cb),(35,.int .i64 (N:Int)),(36,.int .i64 (z:Int))],aa,⟨aa,aa,aa,aa,aa,aa,aa,aa,aj⟩,(λp hp e=>by
     simp only[List.mem_cons,List.not_mem_nil,or_false] at hp;rcases hp with rfl|rfl|rfl|rfl|rfl|rfl|rfl|rfl <;> cases e),?_⟩
    refine fF ?_;refine VS.vC aa (N-(z+1)) ae (λw' β k' o' en=> ?_);have o'':aD w7 w':=o';have kx':KZ TX W w':=(bg.of b6').aN (hkx.aN (bg.of o''));refine⟨[(1,.int .i64 (Y:Int)),(2,.pointer (some ⟨g2,0,none⟩)),(4,.pointer (some ⟨g4,0,none⟩)),(6,.slice pn2 (jw iL).length cn2),(7,.pointer (some ⟨g7,0,none⟩)),(34,.slice (some ⟨bb,ob,none⟩) N cb),(35,.int .i64 (N:Int)),(36,.int .i64 ((z+1:Nat):Int))],⟨⟨_,_,aa,aa,aa⟩,⟨_,_,aa,aa,aa⟩,⟨_,_,aa,aa,aa⟩,⟨_,_,aa,aa,aa⟩,⟨_,_,aa,aa,aa⟩,⟨_,_,aa,aa,aa⟩,⟨_,_,aa,aa,aa⟩,⟨_,_,aa,ak (λz=>Value.int .i64 z) (aA (i:=z) ae),aa⟩,aj⟩,z+1,g2,g4,g7,tv,_,_,ae,aa,aa,(hold w (Ce.aN b6') (bl _)).aN o'',Rk,hg47,kx'.block _ g2 _ aa aj hg2,kx'.block _ g4 _ aa aj GC,kx'.block _ g7 _ aa aj hg7,hnv.kp rf kx' aa,hT7.bS o'',hst,hstep▸Ws hS (hin9.sz hk)⟩
 refine VS.aO aa (az (λh=>hlt (aJ.1 h))) ?_;obtain rfl:N=z:=ae;rw[dM ae] at hF;obtain⟨ptv,ctv,rfl⟩:=hT.form;have hg74:g7≠g4:=λh=>hg47 h.symm
 (repeat (first|refine wN ?_|refine wP aa ?_|refine wO aa aa ?_))
 refine VS.qM Th (λt=>Nat.beq t 23) table (λ_ _ _=>trivial) (λjf yV k1 QP OS=> ?_);have eR:aD W jf:=QP
 have xM:jW Th 62 [g4] [(52,[.val (.slice none 0 0)])] jf:=by
  refine⟨aa,cZ,λj g' c' hj hc=> ?_,λc' hc=> ?_,λc' hc k hk=> ?_⟩
  ·match j,hj,hc with
   | 0,hj,hc=>cases hj;cases hc;exact GC.bS eR
   | j+1,hj,_=>simp at hj
  ·cases ay.1 hc;exact⟨aa,aa⟩
  ·cases ay.1 hc;cases hk
 refine⟨[g4],[(52,[.val (.slice none 0 0)])],xM,[(4,.box 124 0),(7,.val (.pointer (some ⟨g7,0,none⟩)))],⟨⟨_,aa,aa,λi hi=>by rw[(by simpa [AV.ids] using hi:i=124)];exact⟨(by show 124<=124;omega),(by show 124<2*62+1;omega)⟩⟩,⟨_,aa,aa,λi hi=>(by cases hi)⟩,aj⟩,?_⟩;refine kA ?_;refine VO.Yo aa [.slice ptv t.length ctv] aa (at_one (at_ad1 hg74 ((hg7.bS eR).cell (j:=0) aa))) (wV aa ?_);refine kA ?_;refine VS.lJ (wi _ _) aa (λwz β kz bz en=> ?_);rw[hR,hF];exact⟨_,aa,hT.kp (T:=λt=> !Nat.beq t 52) ((bg.of eR).aN (rj.kp bz.1 (λx hx=>⟨52,[.slice none 0 0],by rw[ay.1 hx];exact GC.bS eR,aa,aa⟩))) aa aa,rj.bS (Ce.aN eR) bz.1 (λx hx=>by rw[ay.1 hx];exact Rk)⟩
structure Rw where
 s:Bool
 xs:List Nat
 t:Bool
 ys:List Nat
def Rw.q (r:Rw):Rat:=rq r.s r.xs r.t r.ys
def Rw.of (q:Rat):Rw:=⟨decide (q.num<0),limbs q.num.natAbs,decide ((q.den:Int)<0),limbs (q.den:Int).natAbs⟩
def fP (kk:Nat) (w:World) (cs:List Value) (r:Rw):Prop:=∃ s p n c t y m d,cs=[.bool s,.slice p n c,.bool t,.slice y m d]/\eI w (.agg #[.bool s,.slice p n c,.bool t,.slice y m d]) r.s r.xs r.t r.ys/\r.xs.length<=kk/\r.ys.length<=kk
variable {cs:List Value} {kk:Nat} {r:Rw} {T:TypeId->Bool} {w w':World}
theorem fP.kp {U:TypeId} (h:fP kk w cs r) (k:bg ⟨U,λ_=>True,T⟩ w w'):fP kk w' cs r:=by
 obtain⟨s,p,n,c,t,y,m,d,h1,h2,h3,h4⟩:=h;exact⟨_,_,_,_,_,_,_,_,h1,h2.kp k,h3,h4⟩
variable {s t:Bool} {c m d:Nat} {p y:Option Addr}
theorem fP.raw {n:Nat} (h:fP kk w [.bool s,.slice p n c,.bool t,.slice y m d] r):eI w (.agg #[.bool s,.slice p n c,.bool t,.slice y m d]) r.s r.xs r.t r.ys/\r.xs.length<=kk/\r.ys.length<=kk:=by
 obtain⟨_,_,_,_,_,_,_,_,h1,h2⟩:=h;cases h1;exact h2
theorem fP.in {n:Nat} (h:fP kk w [.bool s,.slice p n c,.bool t,.slice y m d] r):aG w (.agg #[.bool s,.slice p n c,.bool t,.slice y m d]) r.q kk:=h.raw.1.in h.raw.2.1 h.raw.2.2
theorem fP.of {n:Nat} {q:Rat} (h:bq w (.agg #[.bool s,.slice p n c,.bool t,.slice y m d]) q) (hs:dy q kk):fP kk w [.bool s,.slice p n c,.bool t,.slice y m d] (Rw.of q):=⟨_,_,_,_,_,_,_,_,rfl,h.raw,hs.1,hs.2⟩
abbrev BrR:=Rw×Rw
abbrev KlR:=ByteArray×Nat×Rw
abbrev HbR:=ByteArray×ByteArray×Rw
abbrev SkR:=ByteArray×Rw×Rw
abbrev SdR:=ByteArray×Rw
structure DlR where
 give:Bool
 id:ByteArray
 kind:Nat
 payee:ByteArray
 payer:ByteArray
 cls:ByteArray
 amt:Rw
def Tj (kk:Nat) (w:World) (cs:List Value) (x:BrR):Prop:=∃ s0 p0 n0 c0 t0 y0 m0 d0 s1 p1 n1 c1 t1 y1 m1 d1,cs=[.bool s0,.slice p0 n0 c0,.bool t0,.slice y0 m0 d0,.bool s1,.slice p1 n1 c1,.bool t1,.slice y1 m1 d1]/\fP kk w [.bool s0,.slice p0 n0 c0,.bool t0,.slice y0 m0 d0] x.1/\fP kk w [.bool s1,.slice p1 n1 c1,.bool t1,.slice y1 m1 d1] x.2
theorem Tj.el (kk:Nat):gp (Tj kk) 8 where
 kp:=λh k=>by
  obtain⟨s0,p0,n0,c0,t0,y0,m0,d0,s1,p1,n1,c1,t1,y1,m1,d1,hv,h0,h1⟩:=h;exact⟨_,_,_,_,_,_,_,_,_,_,_,_,_,_,_,_,hv,h0.kp k,h1.kp k⟩
 len:=λh=>by
  obtain⟨s0,p0,n0,c0,t0,y0,m0,d0,s1,p1,n1,c1,t1,y1,m1,d1,rfl,_⟩:=h;rfl
 ok:=λh=>by
  obtain⟨s0,p0,n0,c0,t0,y0,m0,d0,s1,p1,n1,c1,t1,y1,m1,d1,rfl,_⟩:=h;rfl
def zO (kk:Nat) (w:World) (cs:List Value) (x:KlR):Prop:=∃ s0 p0 n0 c0 t0 y0 m0 d0,cs=[.string x.1,.int .u8 (x.2.1:Int),.bool s0,.slice p0 n0 c0,.bool t0,.slice y0 m0 d0]/\fP kk w [.bool s0,.slice p0 n0 c0,.bool t0,.slice y0 m0 d0] x.2.2/\x.2.1<256
theorem zO.el (kk:Nat):gp (zO kk) 6 where
 kp:=λh k=>by
  obtain⟨s0,p0,n0,c0,t0,y0,m0,d0,hv,h0,hx⟩:=h;exact⟨_,_,_,_,_,_,_,_,hv,h0.kp k,hx⟩
 len:=λh=>by
  obtain⟨s0,p0,n0,c0,t0,y0,m0,d0,rfl,_⟩:=h;rfl
 ok:=λh=>by
  obtain⟨s0,p0,n0,c0,t0,y0,m0,d0,rfl,_⟩:=h;rfl
def kM (kk:Nat) (w:World) (cs:List Value) (x:HbR):Prop:=∃ s0 p0 n0 c0 t0 y0 m0 d0,cs=[.string x.1,.string x.2.1,.bool s0,.slice p0 n0 c0,.bool t0,.slice y0 m0 d0]/\fP kk w [.bool s0,.slice p0 n0 c0,.bool t0,.slice y0 m0 d0] x.2.2
theorem kM.el (kk:Nat):gp (kM kk) 6 where
 kp:=λh k=>by
  obtain⟨s0,p0,n0,c0,t0,y0,m0,d0,hv,h0⟩:=h;exact⟨_,_,_,_,_,_,_,_,hv,h0.kp k⟩
 len:=λh=>by
  obtain⟨s0,p0,n0,c0,t0,y0,m0,d0,rfl,_⟩:=h;rfl
 ok:=λh=>by
  obtain⟨s0,p0,n0,c0,t0,y0,m0,d0,rfl,_⟩:=h;rfl
def zX (kk:Nat) (w:World) (cs:List Value) (x:DlR):Prop:=∃ s0 p0 n0 c0 t0 y0 m0 d0,cs=[.bool x.give,.string x.id,.int .u8 (x.kind:Int),.string x.payee,.string x.payer,.string x.cls,.bool s0,.slice p0 n0 c0,.bool t0,.slice y0 m0 d0]/\fP kk w [.bool s0,.slice p0 n0 c0,.bool t0,.slice y0 m0 d0] x.amt/\x.kind<256
theorem zX.el (kk:Nat):gp (zX kk) 10 where
 kp:=λh k=>by
  obtain⟨s0,p0,n0,c0,t0,y0,m0,d0,hv,h0,hx⟩:=h;exact⟨_,_,_,_,_,_,_,_,hv,h0.kp k,hx⟩
 len:=λh=>by
  obtain⟨s0,p0,n0,c0,t0,y0,m0,d0,rfl,_⟩:=h;rfl
 ok:=λh=>by
  obtain⟨s0,p0,n0,c0,t0,y0,m0,d0,rfl,_⟩:=h;rfl
def SkE (kk:Nat) (w:World) (cs:List Value) (x:SkR):Prop:=∃ s0 p0 n0 c0 t0 y0 m0 d0 s1 p1 n1 c1 t1 y1 m1 d1,cs=[.string x.1,.bool s0,.slice p0 n0 c0,.bool t0,.slice y0 m0 d0,.bool s1,.slice p1 n1 c1,.bool t1,.slice y1 m1 d1]/\fP kk w [.bool s0,.slice p0 n0 c0,.bool t0,.slice y0 m0 d0] x.2.1/\fP kk w [.bool s1,.slice p1 n1 c1,.bool t1,.slice y1 m1 d1] x.2.2
theorem SkE.el (kk:Nat):gp (SkE kk) 9 where
 kp:=λh k=>by
  obtain⟨s0,p0,n0,c0,t0,y0,m0,d0,s1,p1,n1,c1,t1,y1,m1,d1,hv,h0,h1⟩:=h;exact⟨_,_,_,_,_,_,_,_,_,_,_,_,_,_,_,_,hv,h0.kp k,h1.kp k⟩
 len:=λh=>by
  obtain⟨s0,p0,n0,c0,t0,y0,m0,d0,s1,p1,n1,c1,t1,y1,m1,d1,rfl,_⟩:=h;rfl
 ok:=λh=>by
  obtain⟨s0,p0,n0,c0,t0,y0,m0,d0,s1,p1,n1,c1,t1,y1,m1,d1,rfl,_⟩:=h;rfl
def Wv (kk:Nat) (w:World) (cs:List Value) (x:SdR):Prop:=∃ s0 p0 n0 c0 t0 y0 m0 d0,cs=[.string x.1,.bool s0,.slice p0 n0 c0,.bool t0,.slice y0 m0 d0]/\fP kk w [.bool s0,.slice p0 n0 c0,.bool t0,.slice y0 m0 d0] x.2
theorem Wv.el (kk:Nat):gp (Wv kk) 5 where
 kp:=λh k=>by
  obtain⟨s0,p0,n0,c0,t0,y0,m0,d0,hv,h0⟩:=h;exact⟨_,_,_,_,_,_,_,_,hv,h0.kp k⟩
 len:=λh=>by
  obtain⟨s0,p0,n0,c0,t0,y0,m0,d0,rfl,_⟩:=h;rfl
 ok:=λh=>by
  obtain⟨s0,p0,n0,c0,t0,y0,m0,d0,rfl,_⟩:=h;rfl
structure Tk where
 num:Int
 holds:List HbR
 Cf:List HbR
 deals:List DlR
 stocks:List SkR
 solds:List SdR
def YrF (kk:Nat) (w:World) (cs:List Value) (y:Tk):Prop:=∃ h b d s q,cs=[.int .i64 y.num,h,b,d,s,q]/\bh (kM kk) 6 w h y.holds/\bh (kM kk) 6 w b y.Cf/\bh (zX kk) 10 w d y.deals/\bh (SkE kk) 9 w s y.stocks/\bh (Wv kk) 5 w q y.solds
theorem YrF.b (kk:Nat):ElB (YrF kk):=λh hb=>by
 obtain⟨h,b,d,s,q,hv,h1,h2,h3,h4,h5⟩:=h;exact⟨_,_,_,_,_,hv,h1.bS (kM.el kk) hb,h2.bS (kM.el kk) hb,h3.bS (zX.el kk) hb,h4.bS (SkE.el kk) hb,h5.bS (Wv.el kk) hb⟩
structure AW where
 name:ByteArray
 parent:ByteArray
 brs:List BrR
 thr:Rw
 cap:Rw
 bk:Int
 fw:Int
 itr:Rw
 flo:Rw
 kp:Int
 cls:List KlR
 iL:List ByteArray
 AU:List Tk
def FilE (kk:Nat) (w:World) (v:Value) (f:AW):Prop:=∃ pB nB cB sT pT nT cT tT yT mT dT sC pC nC cC tC yC mC dC sI pI nI cI tI yI mI dI sF pF nF cF tF yF mF dF pc Nc cc pe Ne ce py Ny cy,v=.agg #[.string f.name,.string f.parent,.slice pB nB cB,.bool sT,.slice pT nT cT,.bool tT,.slice yT mT dT,.bool sC,.slice pC nC cC,.bool tC,.slice yC mC dC,.int .i64 f.bk,.int .i64 f.fw,.bool sI,.slice pI nI cI,.bool tI,.slice yI mI dI,.bool sF,.slice pF nF cF,.bool tF,.slice yF mF dF,.int .i64 f.kp,.slice pc Nc cc,.slice pe Ne ce,.slice py Ny cy]/\bh (Tj kk) 8 w (.slice pB nB cB) f.brs/\fP kk w [.bool sT,.slice pT nT cT,.bool tT,.slice yT mT dT] f.thr/\fP kk w [.bool sC,.slice pC nC cC,.bool tC,.slice yC mC dC] f.cap/\fP kk w [.bool sI,.slice pI nI cI,.bool tI,.slice yI mI dI] f.itr/\fP kk w [.bool sF,.slice pF nF cF,.bool tF,.slice yF mF dF] f.flo/\bh (zO kk) 6 w (.slice pc Nc cc) f.cls/\bh xP 1 w (.slice pe Ne ce) f.iL/\bh (YrF kk) 6 w (.slice py Ny cy) f.AU
variable {v:Value}
theorem FilE.bS {f:AW} (h:FilE kk w v f) (hb:aD w w'):FilE kk w' v f:=by
 obtain⟨pB,nB,cB,sT,pT,nT,cT,tT,yT,mT,dT,sC,pC,nC,cC,tC,yC,mC,dC,sI,pI,nI,cI,tI,yI,mI,dI,sF,pF,nF,cF,tF,yF,mF,dF,pc,Nc,cc,pe,Ne,ce,py,Ny,cy,hv,h1,h2,h3,h4,h5,h6,h7,h8⟩:=h;have k:Kp UU w w':=Kp.of hb;exact⟨_,_,_,_,_,_,_,_,_,_,_,_,_,_,_,_,_,_,_,_,_,_,_,_,_,_,_,_,_,_,_,_,_,_,_,_,_,_,_,_,_,_,_,_,hv,h1.bS (Tj.el kk) hb,h2.kp k,h3.kp k,h4.kp k,h5.kp k,h6.bS (zO.el kk) hb,h7.bS rf hb,h8.iI (YrF.b kk) hb⟩
def KlR.k (x:KlR):tK:=(x.1,x.2.1,x.2.2.q)
def HbR.b (x:HbR):Rl:=(x.1,x.2.1,x.2.2.q)
variable {α:Type} {es:List α} {E:World->List Value->α->Prop}
theorem zP {β:Type} {E':World->List Value->β->Prop} {sz:Nat} {g:α->β} (h:bh E sz w v es) (hm:∀ (cs:List Value) (a:α),E w cs a->E' w cs (g a)):bh E' sz w v (es.map g):=by
 obtain⟨p,c,rfl,h1,h2,h3⟩:=h;refine⟨p,c,by rw[bJ],by rw[bJ];exact h1,h2,λi a ha=> ?_⟩;rw[gT] at ha;obtain⟨x,hx,rfl⟩:=Hh.1 ha;obtain⟨b,off,cs,hp,hc,hE⟩:=h3 i x hx;exact⟨b,off,cs,hp,hc,hm _ _ hE⟩
theorem zO.n {kk:Nat} {w:World} {cs:List Value} {x:KlR} (h:zO kk w cs x):xj kk w cs x.k:=by
 obtain⟨s,p,n,c,t,y,m,d,rfl,h0,hx⟩:=h;exact⟨_,_,_,_,_,_,_,_,aa,hx,h0.in⟩
theorem kM.bk {x:HbR} (h:kM kk w cs x):BkE kk w cs x.b:=by
 obtain⟨s,p,n,c,t,y,m,d,rfl,h0⟩:=h;exact⟨_,_,_,_,_,_,_,_,aa,h0.in⟩
theorem YrF.yb {y:Tk} (h:YrF kk w cs y):YbE kk w cs (y.Cf.map HbR.b):=by
 obtain⟨h,b,d,s,q,rfl,h1,h2,h3,h4,h5⟩:=h;exact⟨_,_,_,_,_,_,aa,zP h2 (λ_ _ h=>h.bk)⟩
def AW.GX (f:AW) (year:Int):Option DB:=CV f.iL (f.cls.map KlR.k) (f.AU.map λy=>y.Cf.map HbR.b) year
theorem Rm (v:Value) (f:AW) (year:Int) (kk nb:Nat) (w:World) (hv:FilE kk w v f) (hk:1<=kk) (iy:kk<=1000) (hnb:∀ y∈f.AU,y.Cf.length<=nb) (hnb1:nb<=100) (hNe:f.iL.length<=10000) (hNc:f.cls.length<=10000):
  Calls Tryz.prog 13 #[v,.int .i64 year] w λo w'=>∃ r,o=.returned (.tuple #[.agg #[r],.int .i64 (totE (f.GX year))])/\jY (1+nb*(kk+1)) w.heap.size w' r ((f.GX year).getD [])/\aD w w':=by
 obtain⟨pB,nB,cB,sT,pT,nT,cT,tT,yT,mT,dT,sC,pC,nC,cC,tC,yC,mC,dC,sI,pI,nI,cI,tI,yI,mI,dI,sF,pF,nF,cF,tF,yF,mF,dF,pc,Nc,cc,pe,Ne,ce,py,Ny,cy,rfl,h1,h2,h3,h4,h5,h6,h7,h8⟩:=hv
 exact Oj _ _ _ _ _ _ _ _ _ _ _ _ _ _ _ _ _ _ _ _ _ _ _ _ _ _ _ _ _ _ _ _ _ _ _ _ _ _ _ _ _ _ _ _ _ _ _ _ _ year f.iL (f.cls.map KlR.k) (f.AU.map λy=>y.Cf.map HbR.b) kk nb w (zP h6 (λ_ _ h=>h.n)) h7 (zP h8 (λ_ _ h=>h.yb)) hk iy (λl hl=>by
  obtain⟨y,hy,rfl⟩:=eG.1 hl;rw[bJ];exact hnb y hy) hnb1 hNe (by rw[bJ];exact hNc)
set_option maxRecDepth 4000
theorem bX (n:Int) (w:World) (h0: -9223372036854775808<=n) (h1:n<=9223372036854775807):Calls Tryz.prog 106 #[.int .i64 n] w λe w'=>∃ r,e=.returned r/\aZ w' w.heap.size r (Rat.divInt n 100)/\aD w w':=by
 refine ai (C:=bd Tryz.prog w _) (args:=[_]) fe aa Tryz.ntmps106 (bF aa) ?_;refine af ?_;refine VO.cR aa aa (fk qf) (λaK bE aX=>gg n 100 aK h0 h1 ae ae) (λaK bE aX w1 s1 p1 n1 c1 t1 y1 m1 d1 q1 aU cQ _ bb1=>wV aa ?_);refine af ?_;refine aC ?_;intro wz kz bz;exact⟨_,aa,(q1.k).mono aX.size,bz⟩
theorem dP (n:Int) (w:World) (h0: -9223372036854775808<=n) (h1:n<=9223372036854775807):Calls Tryz.prog 107 #[.int .i64 n] w λe w'=>∃ r,e=.returned r/\aZ w' w.heap.size r (Rat.divInt n 10000)/\aD w w':=by
 refine ai (C:=bd Tryz.prog w _) (args:=[_]) iM aa Tryz.ntmps107 (bF aa) ?_;refine af ?_;refine VO.cR aa aa (fk qf) (λaK bE aX=>gg n 10000 aK h0 h1 ae ae) (λaK bE aX w1 s1 p1 n1 c1 t1 y1 m1 d1 q1 aU cQ _ bb1=>wV aa ?_);refine af ?_;refine aC ?_;intro wz kz bz;exact⟨_,aa,(q1.k).mono aX.size,bz⟩
variable {s0 t0:Bool} {a:ByteArray} {n0 c0 m0 d0:Nat} {p0 y0:Option Addr}
theorem kM.mk' {b:ByteArray} (h:fP kk w [.bool s0,.slice p0 n0 c0,.bool t0,.slice y0 m0 d0] r):kM kk w [.string a,.string b,.bool s0,.slice p0 n0 c0,.bool t0,.slice y0 m0 d0] (a,b,r):=⟨_,_,_,_,_,_,_,_,rfl,h⟩
variable {s1 t1:Bool} {n1 c1 m1 d1:Nat} {p1 y1:Option Addr} {u:Rw}
theorem SkE.mk' (h:fP kk w [.bool s0,.slice p0 n0 c0,.bool t0,.slice y0 m0 d0] r) (h':fP kk w [.bool s1,.slice p1 n1 c1,.bool t1,.slice y1 m1 d1] u):SkE kk w [.string a,.bool s0,.slice p0 n0 c0,.bool t0,.slice y0 m0 d0,.bool s1,.slice p1 n1 c1,.bool t1,.slice y1 m1 d1] (a,r,u):=⟨_,_,_,_,_,_,_,_,_,_,_,_,_,_,_,_,rfl,h,h'⟩
theorem Tj.mk' (h:fP kk w [.bool s0,.slice p0 n0 c0,.bool t0,.slice y0 m0 d0] r) (h':fP kk w [.bool s1,.slice p1 n1 c1,.bool t1,.slice y1 m1 d1] u):Tj kk w [.bool s0,.slice p0 n0 c0,.bool t0,.slice y0 m0 d0,.bool s1,.slice p1 n1 c1,.bool t1,.slice y1 m1 d1] (r,u):=⟨_,_,_,_,_,_,_,_,_,_,_,_,_,_,_,_,rfl,h,h'⟩
theorem Wv.mk' (h:fP kk w [.bool s0,.slice p0 n0 c0,.bool t0,.slice y0 m0 d0] r):Wv kk w [.string a,.bool s0,.slice p0 n0 c0,.bool t0,.slice y0 m0 d0] (a,r):=⟨_,_,_,_,_,_,_,_,rfl,h⟩
theorem zO.mk' {k:Nat} (h:fP kk w [.bool s0,.slice p0 n0 c0,.bool t0,.slice y0 m0 d0] r) (hk:k<256):zO kk w [.string a,.int .u8 (k:Int),.bool s0,.slice p0 n0 c0,.bool t0,.slice y0 m0 d0] (a,k,r):=⟨_,_,_,_,_,_,_,_,rfl,h,hk⟩
theorem zX.mk' {k:Nat} {g:Bool} {b c d:ByteArray} (h:fP kk w [.bool s0,.slice p0 n0 c0,.bool t0,.slice y0 m0 d0] r) (hk:k<256):zX kk w [.bool g,.string a,.int .u8 (k:Int),.string b,.string c,.string d,.bool s0,.slice p0 n0 c0,.bool t0,.slice y0 m0 d0] ⟨g,a,k,b,c,d,r⟩:=⟨_,_,_,_,_,_,_,_,rfl,h,hk⟩
def Tl (B:Nat) (w:World) (cs:List Value) (y:Tk):Prop:=∃ h b d s q,cs=[.int .i64 y.num,h,b,d,s,q]/\aP (kM 2) 6 218 B w h y.holds/\aP (kM 2) 6 103 B w b y.Cf/\aP (zX 2) 10 222 B w d y.deals/\aP (SkE 2) 9 226 B w s y.stocks/\aP (Wv 2) 5 230 B w q y.solds
theorem Tl.f {B:Nat} {w:World} {cs:List Value} {y:Tk} (h:Tl B w cs y):YrF 2 w cs y:=by
 obtain⟨h,b,d,s,q,hv,h1,h2,h3,h4,h5⟩:=h;exact⟨_,_,_,_,_,hv,h1.sl (kM.el 2),h2.sl (kM.el 2),h3.sl (zX.el 2),h4.sl (SkE.el 2),h5.sl (Wv.el 2)⟩
variable {B:Nat}
theorem Tl.kp {y:Tk} (h:Tl B w cs y) (k:KZ T w w') (h1:T 218=true) (h2:T 103=true) (h3:T 222=true) (h4:T 226=true) (h5:T 230=true):Tl B w' cs y:=by
 obtain⟨h,b,d,s,q,hv,g1,g2,g3,g4,g5⟩:=h;exact⟨_,_,_,_,_,hv,g1.kp (kM.el 2) k h1,g2.kp (kM.el 2) k h2,g3.kp (zX.el 2) k h3,g4.kp (SkE.el 2) k h4,g5.kp (Wv.el 2) k h5⟩
theorem Tl.mono {B':Nat} {y:Tk} (h:Tl B w cs y) (hB:B'<=B):Tl B' w cs y:=by
 obtain⟨h,b,d,s,q,hv,g1,g2,g3,g4,g5⟩:=h;exact⟨_,_,_,_,_,hv,g1.mono hB,g2.mono hB,g3.mono hB,g4.mono hB,g5.mono hB⟩
theorem Tl.six {y:Tk} (h:Tl B w cs y):∃ p1 n1 c1 p2 n2 c2 p3 n3 c3 p4 n4 c4 p5 n5 c5,cs=[.int .i64 y.num,.slice p1 n1 c1,.slice p2 n2 c2,.slice p3 n3 c3,.slice p4 n4 c4,.slice p5 n5 c5]:=by
 obtain⟨h,b,d,s,q,rfl,g1,g2,g3,g4,g5⟩:=h;obtain⟨p1,c1,rfl⟩:=g1.form;obtain⟨p2,c2,rfl⟩:=g2.form;obtain⟨p3,c3,rfl⟩:=g3.form;obtain⟨p4,c4,rfl⟩:=g4.form;obtain⟨p5,c5,rfl⟩:=g5.form;exact⟨_,_,_,_,_,_,_,_,_,_,_,_,_,_,_,aa⟩
def CE (n:Nat) (_:World) (cs:List Value) (x:List Value):Prop:=cs=x/\x.length=n/\x.all cJ=true
theorem ce_ok (n:Nat):gp (CE n) n where
 kp:=λh _=>h
 len:=λh=>by rw[h.1];exact h.2.1
 ok:=λh=>by rw[h.1];exact h.2.2
variable {vs:List (List Value)}
theorem slin_ce {n:Nat} (h:bh (CE n) n w v vs) (hl:vs.length=es.length) (hg:∀ (i:Nat) (u:List Value) (a:α),vs[i]? =some u->es[i]? =some a->E w u a):bh E n w v es:=by
 obtain⟨p,c,rfl,h1,h2,h3⟩:=h;refine⟨p,c,by rw[hl],by rw[<-hl];exact h1,h2,λi a ha=> ?_⟩;obtain⟨u,hu⟩:∃ u,vs[i]? =some u:=⟨_,bj (by rw[hl];exact (cM.1 ha).1)⟩;obtain⟨b,off,cs,hp,hc,hE⟩:=h3 i u hu;obtain⟨rfl,-⟩:=hE;exact⟨b,off,_,hp,hc,hg i _ a hu ha⟩
def Rn (B:Nat) (w:World) (v:Value) (f:AW):Prop:=∃ pB nB cB sT pT nT cT tT yT mT dT sC pC nC cC tC yC mC dC sI pI nI cI tI yI mI dI sF pF nF cF tF yF mF dF pc Nc cc pe Ne ce py Ny cy,v=.agg #[.string f.name,.string f.parent,.slice pB nB cB,.bool sT,.slice pT nT cT,.bool tT,.slice yT mT dT,.bool sC,.slice pC nC cC,.bool tC,.slice yC mC dC,.int .i64 f.bk,.int .i64 f.fw,.bool sI,.slice pI nI cI,.bool tI,.slice yI mI dI,.bool sF,.slice pF nF cF,.bool tF,.slice yF mF dF,.int .i64 f.kp,.slice pc Nc cc,.slice pe Ne ce,.slice py Ny cy]/\aP (Tj 2) 8 127 B w (.slice pB nB cB) f.brs/\fP 2 w [.bool sT,.slice pT nT cT,.bool tT,.slice yT mT dT] f.thr/\fP 2 w [.bool sC,.slice pC nC cC,.bool tC,.slice yC mC dC] f.cap/\fP 2 w [.bool sI,.slice pI nI cI,.bool tI,.slice yI mI dI] f.itr/\fP 2 w [.bool sF,.slice pF nF cF,.bool tF,.slice yF mF dF] f.flo/\aP (zO 2) 6 64 B w (.slice pc Nc cc) f.cls/\aP xP 1 9 B w (.slice pe Ne ce) f.iL/\∃ ycs,aP (CE 6) 6 99 B w (.slice py Ny cy) ycs/\ycs.length=f.AU.length/\∀ (i:Nat) (cs:List Value) (y:Tk),ycs[i]? =some cs->f.AU[i]? =some y->Tl B w cs y
theorem Rn.e {f:AW} (h:Rn B w v f):FilE 2 w v f:=by
 obtain⟨pB,nB,cB,sT,pT,nT,cT,tT,yT,mT,dT,sC,pC,nC,cC,tC,yC,mC,dC,sI,pI,nI,cI,tI,yI,mI,dI,sF,pF,nF,cF,tF,yF,mF,dF,pc,Nc,cc,pe,Ne,ce,py,Ny,cy,hv,h1,h2,h3,h4,h5,h6,h7,ycs,h8,h9,h10⟩:=h;exact⟨_,_,_,_,_,_,_,_,_,_,_,_,_,_,_,_,_,_,_,_,_,_,_,_,_,_,_,_,_,_,_,_,_,_,_,_,_,_,_,_,_,_,_,_,hv,h1.sl (Tj.el 2),h2,h3,h4,h5,h6.sl (zO.el 2),h7.sl rf,slin_ce (h8.sl (ce_ok 6)) h9 (λi u a hi ha=>(h10 i u a hi ha).f)⟩
abbrev Ww:TypeId->Bool:=λt=>(Nat.beq t 127 || (Nat.beq t 64 || (Nat.beq t 9 || (Nat.beq t 99 || (Nat.beq t 218 || (Nat.beq t 103 || (Nat.beq t 222 || (Nat.beq t 226 || Nat.beq t 230))))))))
theorem Rn.kp {f:AW} (h:Rn B w v f) (k:KZ T w w') (hT:∀ t,Ww t=true->T t=true):Rn B w' v f:=by
 obtain⟨pB,nB,cB,sT,pT,nT,cT,tT,yT,mT,dT,sC,pC,nC,cC,tC,yC,mC,dC,sI,pI,nI,cI,tI,yI,mI,dI,sF,pF,nF,cF,tF,yF,mF,dF,pc,Nc,cc,pe,Ne,ce,py,Ny,cy,hv,h1,h2,h3,h4,h5,h6,h7,ycs,h8,h9,h10⟩:=h;exact⟨_,_,_,_,_,_,_,_,_,_,_,_,_,_,_,_,_,_,_,_,_,_,_,_,_,_,_,_,_,_,_,_,_,_,_,_,_,_,_,_,_,_,_,_,hv,h1.kp (Tj.el 2) k (hT _ aa),h2.kp k,h3.kp k,h4.kp k,h5.kp k,h6.kp (zO.el 2) k (hT _ aa),h7.kp rf k (hT _ aa),ycs,h8.kp (ce_ok 6) k (hT _ aa),h9,λi cs y hi hy=>(h10 i cs y hi hy).kp k (hT _ aa) (hT _ aa) (hT _ aa) (hT _ aa) (hT _ aa)⟩
theorem dl_new {C:Cx} {β:Nat->Nat} {i cap:Nat} {l l':List DlR} {Nr:List (List Value)} {sp:List AV} (o:nX C β w i 222 ((vs.flatten.map AV.val++Nr.flatten.map AV.val)++sp)) (h:eC (zX 2) w l vs) (h':eC (zX 2) w l' Nr) (hc:2+2<=cap) (hm:cap<=9223372036854775807) (hl:((vs.flatten.map AV.val++Nr.flatten.map AV.val)++sp).length=cap*10) (h2:l.length=2:=by rfl) (h3:l'.length=2:=by rfl) (hnw:∀ i g,C.Cl i g->C.w0.heap.size<=g:=by exact λ_ _ h=>h):aP (zX 2) 10 222 C.w0.heap.size w (.slice (some ⟨β i,0,none⟩) (2+2) cap) (l++l'):=by
 have hr:=h.append h';rw[<-aQ,<-List.flatten_append] at o hl;exact dX o hr (by rw[fH,h2,h3]) hc hm hl hnw
def zQ (id:ByteArray) (k:Nat) (a b c d:ByteArray) (n:Int):List DlR:=[⟨true,id,k,a,b,c,Rw.of (Rat.divInt n 100)⟩,⟨false,id,k,a,b,d,Rw.of (Rat.divInt n 100)⟩]
set_option maxRecDepth 4000 in
theorem zR (id:ByteArray) (k:Nat) (a b c d:ByteArray) (n:Int) (w:World) (hk:k<256) (h0: -9223372036854775808<=n) (h1:n<=9223372036854775807):Calls Tryz.prog 169 #[.string id,.int .u8 (k:Int),.string a,.string b,.string c,.string d,.int .i64 n] w λo w'=>∃ r,o=.returned r/\aP (zX 2) 10 222 w.heap.size w' r (zQ id k a b c d n)/\aD w w':=by
 refine ai (C:=bd Tryz.prog w _) (args:=[_,_,_,_,_,_,_]) Tryz.func169 aa Tryz.ntmps169 (bF aa) ?_;refine af ?_;refine VO.cR aa aa (fk fe) (λaK bE aX=>bX n aK h0 h1) (λaK bE aX w1 s1 p1 n1 c1 t1 y1 m1 d1 q1 aU cQ _ bb1=>wV aa ?_);refine af ?_;refine VO.cR aa aa (fk fe) (λbf cK bK=>bX n bf h0 h1) (λbf cK bK w2 s2 p2 n2 c2 t2 y2 m2 d2 q2 bu dW _ bb2=>wV aa ?_);refine af ?_;refine VS.lJ (cS _ _) aa (λwz β kz bz en=> ?_);exact⟨_,aa,dX (E:=zX 2) (vs:=[[.bool true,.string id,.int .u8 (k:Int),.string a,.string b,.string c,.bool s1,.slice p1 n1 c1,.bool t1,.slice y1 m1 d1],[.bool false,.string id,.int .u8 (k:Int),.string a,.string b,.string d,.bool s2,.slice p2 n2 c2,.bool t2,.slice y2 m2 d2]]) (spare:=[]) (en.own 31 _ _ aa) (.cons (zX.mk' (fP.of q1.kr (aM h0 h1 ae ae)) hk) (.cons (zX.mk' (fP.of q2.kr (aM h0 h1 ae ae)) hk) .nil)) aa (bl _) eL aa (λ_ _ h=>h),bz⟩
def Gm:Tk:=⟨2020,[(⟨#[80]⟩,⟨#[65]⟩,(Rw.of (Rat.divInt 10000 10000))),(⟨#[65]⟩,⟨#[66]⟩,(Rw.of (Rat.divInt 5000 10000))),(⟨#[80]⟩,⟨#[66]⟩,(Rw.of (Rat.divInt 3000 10000))),(⟨#[80]⟩,⟨#[67]⟩,(Rw.of (Rat.divInt 4000 10000))),(⟨#[67]⟩,⟨#[68]⟩,(Rw.of (Rat.divInt 10000 10000)))],[(⟨#[80]⟩,⟨#[115,97,108,101,115]⟩,(Rw.of (Rat.divInt 100000 100))),(⟨#[80]⟩,⟨#[99,111,115,116]⟩,(Rw.of (Rat.divInt 40000 100))),(⟨#[80]⟩,⟨#[105,110,116,45,111,117,116]⟩,(Rw.of (Rat.divInt 20000 100))),(⟨#[65]⟩,⟨#[115,97,108,101,115]⟩,(Rw.of (Rat.divInt 50000 100))),(⟨#[65]⟩,⟨#[99,111,115,116]⟩,(Rw.of (Rat.divInt 90000 100))),(⟨#[65]⟩,⟨#[109,101,97,108,115]⟩,(Rw.of (Rat.divInt 4001 100))),(⟨#[65]⟩,⟨#[97,100,115]⟩,(Rw.of (Rat.divInt 9000 100))),(⟨#[66]⟩,⟨#[115,97,108,101,115]⟩,(Rw.of (Rat.divInt 30000 100))),(⟨#[66]⟩,⟨#[100,101,112]⟩,(Rw.of (Rat.divInt 3000 100))),(⟨#[66]⟩,⟨#[105,110,116,45,105,110]⟩,(Rw.of (Rat.divInt 2000 100))),(⟨#[67]⟩,⟨#[99,111,115,116]⟩,(Rw.of (Rat.divInt 25000 100))),(⟨#[67]⟩,⟨#[115,97,108,101,115]⟩,(Rw.of (Rat.divInt 5000 100))),(⟨#[68]⟩,⟨#[102,114,101,101]⟩,(Rw.of (Rat.divInt 777 100)))],(zQ ⟨#[71,49]⟩ 1 ⟨#[65]⟩ ⟨#[80]⟩ ⟨#[115,97,108,101,115]⟩ ⟨#[99,111,115,116]⟩ 12000++zQ ⟨#[76,49]⟩ 3 ⟨#[66]⟩ ⟨#[80]⟩ ⟨#[105,110,116,45,105,110]⟩ ⟨#[105,110,116,45,111,117,116]⟩ 2000),[(⟨#[71,49]⟩,(Rw.of (Rat.divInt 3000 100)),(Rw.of (Rat.divInt 5000 10000)))],[]⟩
set_option maxRecDepth 8000 in
theorem Ro (w:World):Calls Tryz.prog 109 #[] w λo w'=>∃ r:List Value,o=.returned (.agg r.toArray)/\Tl w.heap.size w' r Gm/\aD w w':=by
 refine ai (C:=bd Tryz.prog w _) (args:=[]) Tryz.func109 aa Tryz.ntmps109 (bF aa) ?_;refine af ?_;refine VO.cR aa aa (fk iM) (λaK bE aX=>dP 10000 aK ae ae) (λaK bE aX w1 s1 p1 n1 c1 t1 y1 m1 d1 q1 aU cQ _ bb1=>wV aa ?_);refine af ?_;refine VO.cR aa aa (fk iM) (λbf cK bK=>dP 5000 bf ae ae) (λbf cK bK w2 s2 p2 n2 c2 t2 y2 m2 d2 q2 bu dW _ bb2=>wV aa ?_);refine af ?_;refine VO.cR aa aa (fk iM) (λcV dS ea=>dP 3000 cV ae ae) (λcV dS ea w3 s3 p3 n3 c3 t3 y3 m3 d3 q3 dH eV _ bb3=>wV aa ?_);refine af ?_;refine VO.cR aa aa (fk iM) (λey eU fc=>dP 4000 ey ae ae) (λey eU fc w4 s4 p4 n4 c4 t4 y4 m4 d4 q4 gj jc _ mw=>wV aa ?_);refine af ?_;refine VO.cR aa aa (fk iM) (λgn iz iZ=>dP 10000 gn ae ae) (λgn iz iZ w5 s5 p5 n5 c5 t5 y5 m5 d5 q5 je nw _ um=>wV aa ?_);refine af ?_;refine VO.cR aa aa (fk fe) (λjL my nV=>bX 100000 jL ae ae) (λjL my nV w6 s6 p6 n6 c6 t6 y6 m6 d6 q6 oY sq _ xT=>wV aa ?_);refine af ?_;refine VO.cR aa aa (fk fe) (λpS uy rR=>bX 40000 pS ae ae) (λpS uy rR w7 s7 p7 n7 c7 t7 y7 m7 d7 q7 ER Dv _ Qa=>wV aa ?_);refine af ?_;refine VO.cR aa aa (fk fe) (λtd Cr xG=>bX 20000 td ae ae) (λtd Cr xG w8 s8 p8 n8 c8 t8 y8 m8 d8 q8 Bz Cs _ Sw=>wV aa ?_);refine af ?_;refine VO.cR aa aa (fk fe) (λAA Nd Dw=>bX 50000 AA ae ae) (λAA Nd Dw w9 s9 p9 n9 c9 t9 y9 m9 d9 q9 Dg GK _ bb9=>wV aa ?_);refine af ?_;refine VO.cR aa aa (fk fe) (λjC nM nZ=>bX 90000 jC ae ae) (λjC nM nZ BQ OL OM Lb OO t10 OP OQ d10 EH km jM _ AB=>wV aa ?_);refine af ?_;refine VO.cR aa aa (fk fe) (λjN oc pd=>bX 4001 jN ae ae) (λjN oc pd Sx SI SJ OE SK t11 SL SM d11 Ka vn ny _ Ct=>wV aa ?_);refine af ?_;refine VO.cR aa aa (fk fe) (λlW qX uq=>bX 9000 lW ae ae) (λlW qX uq Fa s12 OG OH OI t12 OJ OK d12 PF wm rS _ GL=>wV aa ?_);refine af ?_;refine VO.cR aa aa (fk fe) (λvo Fb Cu=>bX 30000 vo ae ae) (λvo Fb Cu uz s13 p13 n13 c13 t13 y13 m13 d13 q13 YU Fc _ YV=>wV aa ?_);refine af ?_;refine VO.cR aa aa (fk fe) (λtf wq xH=>bX 3000 tf ae ae) (λtf wq xH w14 s14 p14 n14 c14 t14 y14 m14 d14 q14 Qb GM _ UA=>wV aa ?_);refine af ?_;refine VO.cR aa aa (fk fe) (λwu zi AD=>bX 2000 wu ae ae) (λwu zi AD w15 s15 p15 n15 c15 t15 y15 m15 d15 q15 UB Qc _ YW=>wV aa ?_);refine af ?_;refine VO.cR aa aa (fk fe) (λFw Qs NK=>bX 25000 Fw ae ae) (λFw Qs NK w16 s16 p16 n16 c16 t16 y16 m16 d16 q16 hb16 kb16 _ bb16=>wV aa ?_);refine af ?_;refine VO.cR aa aa (fk fe) (λZU ka17 ba17=>bX 5000 ZU ae ae) (λZU ka17 ba17 w17 s17 p17 n17 c17 t17 y17 m17 d17 q17 hb17 kb17 _ bb17=>wV aa ?_);refine af ?_;refine VO.cR aa aa (fk fe) (λNL ZV Vu=>bX 777 NL ae ae) (λNL ZV Vu w18 s18 p18 n18 c18 t18 y18 m18 d18 q18 hb18 kb18 _ bb18=>wV aa ?_);refine af ?_;refine VO.Fi (zX.el 2) (dst:=43) (t:=222) (es:=zQ ⟨#[71,49]⟩ 1 ⟨#[65]⟩ ⟨#[80]⟩ ⟨#[115,97,108,101,115]⟩ ⟨#[99,111,115,116]⟩ 12000) aa aa aa (bF aa) (bF aa) aa (λwa19 β ka19 ba19 ho=>⟨fk Tryz.func169,(zR ⟨#[71,49]⟩ 1 ⟨#[65]⟩ ⟨#[80]⟩ ⟨#[115,97,108,101,115]⟩ ⟨#[99,111,115,116]⟩ 12000 wa19 ae ae ae).mono ?_⟩);rintro o w19 ⟨r,rfl,hnew19,hb19⟩;refine⟨_,aa,hb19,hnew19,λk2 _ b2 dJ=>(by cases dJ),λc19 vs19 spd19 kb19 _ bb19 hr19 hsp19 hcn19 hcm19 hfl19=>wV aa ?_⟩;refine af ?_;refine VO.Fi (zX.el 2) (dst:=44) (t:=222) (es:=zQ ⟨#[76,49]⟩ 3 ⟨#[66]⟩ ⟨#[80]⟩ ⟨#[105,110,116,45,105,110]⟩ ⟨#[105,110,116,45,111,117,116]⟩ 2000) aa aa aa (bF aa) (bF aa) aa (λVW β ka20 ba20 ho=>⟨fk Tryz.func169,(zR ⟨#[76,49]⟩ 3 ⟨#[66]⟩ ⟨#[80]⟩ ⟨#[105,110,116,45,105,110]⟩ ⟨#[105,110,116,45,111,117,116]⟩ 2000 VW ae ae ae).mono ?_⟩);rintro o w20 ⟨r,rfl,hnew20,NX⟩;refine⟨_,aa,NX,hnew20,λk2 _ b2 dJ=>(by cases dJ),λc20 vs20 spd20 kb20 _ bb20 hr20 hsp20 hcn20 hcm20 hfl20=>wV aa ?_⟩;refine af ?_;have uw:=(hr19.ok (zX.el 2));have qN:=(hr20.ok (zX.el 2))
 refine VO.app (cS _ _) (t:=95) (e:=222) (sz:=10) (n:=2) (c:=c19) (mm:=2) (known:=vs19.flatten.map .val) (spare:=spd19.map .val) (del:=some 43) (news:=vs20.flatten.map .val) (dst:=45) aa aa aa aa aa aa aa aa (bF aa) aa (.inr ⟨43,aa,aa,aa⟩) (.inl aa) (by rw[bJ];exact uw.2) (by rw[<-aQ,bJ];exact hfl19) hcn19 hcm19 ⟨ah _,ah _,ah _⟩ ⟨dx uw.1,dx hsp19,dx qN.1⟩ (by rw[bJ];exact qN.2) ae
  (λw1 β k1 b1 ho=>⟨_,_,rfl,.inr ⟨_,_,rfl,λj u hj=>by
   have o:=(ho.own 44 (.base (by simp[gl,AV.ids])) _ _ aa).cls;rw[<-aQ,aV] at o;rw[aV] at hj;rw[jR];exact o.cell (by simpa using (show (vs20.flatten++spd20)[j]? =some u from by rw[jG (cM.1 hj).1];exact hj))⟩⟩)
  (λuz capd spd ρ NS SV gH rh pR hlend Qq hlidd=>wV rfl ?_)
 refine af ?_;refine VO.cR aa aa (fk fe) (λKA ka21 VX=>bX 3000 KA ae ae) (λKA ka21 VX w21 s21 p21 n21 c21 t21 y21 m21 d21 q21 hb21 kb21 _ bb21=>wV aa ?_);refine af ?_;refine VO.cR aa aa (fk iM) (λQI ka22 ba22=>dP 5000 QI ae ae) (λQI ka22 ba22 w22 s22 p22 n22 c22 t22 y22 m22 d22 q22 hb22 kb22 _ bb22=>wV aa ?_);refine af ?_;refine VS.lJ (cS _ _) aa (λwz β kz bz en=> ?_)
 exact⟨[_,_,_,_,_,_],aa,⟨_,_,_,_,_,aa,
  dX (E:=kM 2) (vs:=[[.string ⟨#[80]⟩,.string ⟨#[65]⟩,.bool s1,.slice p1 n1 c1,.bool t1,.slice y1 m1 d1],[.string ⟨#[65]⟩,.string ⟨#[66]⟩,.bool s2,.slice p2 n2 c2,.bool t2,.slice y2 m2 d2],[.string ⟨#[80]⟩,.string ⟨#[66]⟩,.bool s3,.slice p3 n3 c3,.bool t3,.slice y3 m3 d3],[.string ⟨#[80]⟩,.string ⟨#[67]⟩,.bool s4,.slice p4 n4 c4,.bool t4,.slice y4 m4 d4],[.string ⟨#[67]⟩,.string ⟨#[68]⟩,.bool s5,.slice p5 n5 c5,.bool t5,.slice y5 m5 d5]]) (spare:=[]) (en.own 13 _ _ rfl) (.cons (kM.mk' (fP.of q1.kr (aM ae ae ae ae))) (.cons (kM.mk' (fP.of q2.kr (aM ae ae ae ae))) (.cons (kM.mk' (fP.of q3.kr (aM ae ae ae ae))) (.cons (kM.mk' (fP.of q4.kr (aM ae ae ae ae))) (.cons (kM.mk' (fP.of q5.kr (aM ae ae ae ae))) .nil))))) rfl (bl _) eL rfl (λ_ _ h=>h),
  dX (E:=kM 2) (vs:=[[.string ⟨#[80]⟩,.string ⟨#[115,97,108,101,115]⟩,.bool s6,.slice p6 n6 c6,.bool t6,.slice y6 m6 d6],[.string ⟨#[80]⟩,.string ⟨#[99,111,115,116]⟩,.bool s7,.slice p7 n7 c7,.bool t7,.slice y7 m7 d7],[.string ⟨#[80]⟩,.string ⟨#[105,110,116,45,111,117,116]⟩,.bool s8,.slice p8 n8 c8,.bool t8,.slice y8 m8 d8],[.string ⟨#[65]⟩,.string ⟨#[115,97,108,101,115]⟩,.bool s9,.slice p9 n9 c9,.bool t9,.slice y9 m9 d9],[.string ⟨#[65]⟩,.string ⟨#[99,111,115,116]⟩,.bool OL,.slice OM Lb OO,.bool t10,.slice OP OQ d10],[.string ⟨#[65]⟩,.string ⟨#[109,101,97,108,115]⟩,.bool SI,.slice SJ OE SK,.bool t11,.slice SL SM d11],[.string ⟨#[65]⟩,.string ⟨#[97,100,115]⟩,.bool s12,.slice OG OH OI,.bool t12,.slice OJ OK d12],[.string ⟨#[66]⟩,.string ⟨#[115,97,108,101,115]⟩,.bool s13,.slice p13 n13 c13,.bool t13,.slice y13 m13 d13],[.string ⟨#[66]⟩,.string ⟨#[100,101,112]⟩,.bool s14,.slice p14 n14 c14,.bool t14,.slice y14 m14 d14],[.string ⟨#[66]⟩,.string ⟨#[105,110,116,45,105,110]⟩,.bool s15,.slice p15 n15 c15,.bool t15,.slice y15 m15 d15],[.string ⟨#[67]⟩,.string ⟨#[99,111,115,116]⟩,.bool s16,.slice p16 n16 c16,.bool t16,.slice y16 m16 d16],[.string ⟨#[67]⟩,.string ⟨#[115,97,108,101,115]⟩,.bool s17,.slice p17 n17 c17,.bool t17,.slice y17 m17 d17],[.string ⟨#[68]⟩,.string ⟨#[102,114,101,101]⟩,.bool s18,.slice p18 n18 c18,.bool t18,.slice y18 m18 d18]]) (spare:=[]) (en.own 41 _ _ rfl) (.cons (kM.mk' (fP.of q6.kr (aM ae ae ae ae))) (.cons (kM.mk' (fP.of q7.kr (aM ae ae ae ae))) (.cons (kM.mk' (fP.of q8.kr (aM ae ae ae ae))) (.cons (kM.mk' (fP.of q9.kr (aM ae ae ae ae))) (.cons (kM.mk' (fP.of EH.kr (aM ae ae ae ae))) (.cons (kM.mk' (fP.of Ka.kr (aM ae ae ae ae))) (.cons (kM.mk' (fP.of PF.kr (aM ae ae ae ae))) (.cons (kM.mk' (fP.of q13.kr (aM ae ae ae ae))) (.cons (kM.mk' (fP.of q14.kr (aM ae ae ae ae))) (.cons (kM.mk' (fP.of q15.kr (aM ae ae ae ae))) (.cons (kM.mk' (fP.of q16.kr (aM ae ae ae ae))) (.cons (kM.mk' (fP.of q17.kr (aM ae ae ae ae))) (.cons (kM.mk' (fP.of q18.kr (aM ae ae ae ae))) .nil))))))))))))) rfl (bl _) eL rfl (λ_ _ h=>h),
  dl_new (en.own 45 _ _ rfl) (hr19.kp (zX.el 2) bm) (hr20.kp (zX.el 2) bm) rh pR hlend,
  dX (E:=SkE 2) (vs:=[[.string ⟨#[71,49]⟩,.bool s21,.slice p21 n21 c21,.bool t21,.slice y21 m21 d21,.bool s22,.slice p22 n22 c22,.bool t22,.slice y22 m22 d22]]) (spare:=[]) (en.own 50 _ _ rfl) (.cons (SkE.mk' (fP.of q21.kr (aM ae ae ae ae)) (fP.of q22.kr (aM ae ae ae ae))) .nil) rfl (bl _) eL rfl (λ_ _ h=>h),
  aP.nil'⟩,bz⟩
def zS:Tk:=⟨2021,[(⟨#[80]⟩,⟨#[65]⟩,(Rw.of (Rat.divInt 10000 10000))),(⟨#[65]⟩,⟨#[66]⟩,(Rw.of (Rat.divInt 5000 10000))),(⟨#[80]⟩,⟨#[66]⟩,(Rw.of (Rat.divInt 3000 10000))),(⟨#[80]⟩,⟨#[67]⟩,(Rw.of (Rat.divInt 8000 10000))),(⟨#[67]⟩,⟨#[68]⟩,(Rw.of (Rat.divInt 10000 10000)))],[(⟨#[80]⟩,⟨#[99,111,115,116]⟩,(Rw.of (Rat.divInt 150000 100))),(⟨#[80]⟩,⟨#[115,97,108,101,115]⟩,(Rw.of (Rat.divInt 20000 100))),(⟨#[80]⟩,⟨#[100,105,115,116]⟩,(Rw.of (Rat.divInt 5000 100))),(⟨#[65]⟩,⟨#[100,105,118]⟩,(Rw.of (Rat.divInt 1000 100))),(⟨#[66]⟩,⟨#[100,105,115,116]⟩,(Rw.of (Rat.divInt 1000 100))),(⟨#[67]⟩,⟨#[115,97,108,101,115]⟩,(Rw.of (Rat.divInt 60000 100))),(⟨#[68]⟩,⟨#[103,105,102,116,115]⟩,(Rw.of (Rat.divInt 25000 100))),(⟨#[68]⟩,⟨#[115,97,108,101,115]⟩,(Rw.of (Rat.divInt 12345 100)))],(zQ ⟨#[86,49]⟩ 4 ⟨#[65]⟩ ⟨#[66]⟩ ⟨#[100,105,118]⟩ ⟨#[100,105,115,116]⟩ 1000++zQ ⟨#[83,49]⟩ 2 ⟨#[67]⟩ ⟨#[68]⟩ ⟨#[115,97,108,101,115]⟩ ⟨#[103,105,102,116,115]⟩ 5000),[],[(⟨#[71,49]⟩,(Rw.of (Rat.divInt 2500 10000)))]⟩
set_option maxRecDepth 8000 in
theorem Ol (w:World):Calls Tryz.prog 110 #[] w λo w'=>∃ r:List Value,o=.returned (.agg r.toArray)/\Tl w.heap.size w' r zS/\aD w w':=by
 refine ai (C:=bd Tryz.prog w _) (args:=[]) Tryz.func110 aa Tryz.ntmps110 (bF aa) ?_;refine af ?_;refine VO.cR aa aa (fk iM) (λaK bE aX=>dP 10000 aK ae ae) (λaK bE aX w1 s1 p1 n1 c1 t1 y1 m1 d1 q1 aU cQ _ bb1=>wV aa ?_);refine af ?_;refine VO.cR aa aa (fk iM) (λbf cK bK=>dP 5000 bf ae ae) (λbf cK bK w2 s2 p2 n2 c2 t2 y2 m2 d2 q2 bu dW _ bb2=>wV aa ?_);refine af ?_;refine VO.cR aa aa (fk iM) (λcV dS ea=>dP 3000 cV ae ae) (λcV dS ea w3 s3 p3 n3 c3 t3 y3 m3 d3 q3 dH eV _ bb3=>wV aa ?_);refine af ?_;refine VO.cR aa aa (fk iM) (λey eU fc=>dP 8000 ey ae ae) (λey eU fc w4 s4 p4 n4 c4 t4 y4 m4 d4 q4 gj jc _ mw=>wV aa ?_);refine af ?_;refine VO.cR aa aa (fk iM) (λgn iz iZ=>dP 10000 gn ae ae) (λgn iz iZ w5 s5 p5 n5 c5 t5 y5 m5 d5 q5 je nw _ um=>wV aa ?_);refine af ?_;refine VO.cR aa aa (fk fe) (λjL my nV=>bX 150000 jL ae ae) (λjL my nV w6 s6 p6 n6 c6 t6 y6 m6 d6 q6 oY sq _ xT=>wV aa ?_);refine af ?_;refine VO.cR aa aa (fk fe) (λpS uy rR=>bX 20000 pS ae ae) (λpS uy rR w7 s7 p7 n7 c7 t7 y7 m7 d7 q7 ER Dv _ Qa=>wV aa ?_);refine af ?_;refine VO.cR aa aa (fk fe) (λtd Cr xG=>bX 5000 td ae ae) (λtd Cr xG w8 s8 p8 n8 c8 t8 y8 m8 d8 q8 Bz Cs _ Sw=>wV aa ?_);refine af ?_;refine VO.cR aa aa (fk fe) (λAA Nd Dw=>bX 1000 AA ae ae) (λAA Nd Dw w9 s9 p9 n9 c9 t9 y9 m9 d9 q9 Dg GK _ bb9=>wV aa ?_);refine af ?_;refine VO.cR aa aa (fk fe) (λjC nM nZ=>bX 1000 jC ae ae) (λjC nM nZ BQ OL OM Lb OO t10 OP OQ d10 EH km jM _ AB=>wV aa ?_);refine af ?_;refine VO.cR aa aa (fk fe) (λjN oc pd=>bX 60000 jN ae ae) (λjN oc pd Sx SI SJ OE SK t11 SL SM d11 Ka vn ny _ Ct=>wV aa ?_);refine af ?_;refine VO.cR aa aa (fk fe) (λlW qX uq=>bX 25000 lW ae ae) (λlW qX uq Fa s12 OG OH OI t12 OJ OK d12 PF wm rS _ GL=>wV aa ?_);refine af ?_;refine VO.cR aa aa (fk fe) (λvo Fb Cu=>bX 12345 vo ae ae) (λvo Fb Cu uz s13 p13 n13 c13 t13 y13 m13 d13 q13 YU Fc _ YV=>wV aa ?_);refine af ?_;refine VO.Fi (zX.el 2) (dst:=33) (t:=222) (es:=zQ ⟨#[86,49]⟩ 4 ⟨#[65]⟩ ⟨#[66]⟩ ⟨#[100,105,118]⟩ ⟨#[100,105,115,116]⟩ 1000) aa aa aa (bF aa) (bF aa) aa (λtf β wq xH ho=>⟨fk Tryz.func169,(zR ⟨#[86,49]⟩ 4 ⟨#[65]⟩ ⟨#[66]⟩ ⟨#[100,105,118]⟩ ⟨#[100,105,115,116]⟩ 1000 tf ae ae ae).mono ?_⟩);rintro o w14 ⟨r,rfl,hnew14,Qb⟩;refine⟨_,aa,Qb,hnew14,λk2 _ b2 dJ=>(by cases dJ),λc14 vs14 spd14 GM _ UA hr14 hsp14 hcn14 hcm14 hfl14=>wV aa ?_⟩;refine af ?_;refine VO.Fi (zX.el 2) (dst:=34) (t:=222) (es:=zQ ⟨#[83,49]⟩ 2 ⟨#[67]⟩ ⟨#[68]⟩ ⟨#[115,97,108,101,115]⟩ ⟨#[103,105,102,116,115]⟩ 5000) aa aa aa (bF aa) (bF aa) aa (λwu β zi AD ho=>⟨fk Tryz.func169,(zR ⟨#[83,49]⟩ 2 ⟨#[67]⟩ ⟨#[68]⟩ ⟨#[115,97,108,101,115]⟩ ⟨#[103,105,102,116,115]⟩ 5000 wu ae ae ae).mono ?_⟩);rintro o w15 ⟨r,rfl,hnew15,UB⟩;refine⟨_,aa,UB,hnew15,λk2 _ b2 dJ=>(by cases dJ),λc15 vs15 spd15 Qc _ YW hr15 hsp15 hcn15 hcm15 hfl15=>wV aa ?_⟩;refine af ?_;have uw:=(hr14.ok (zX.el 2));have qN:=(hr15.ok (zX.el 2))
 refine VO.app (cS _ _) (t:=95) (e:=222) (sz:=10) (n:=2) (c:=c14) (mm:=2) (known:=vs14.flatten.map .val) (spare:=spd14.map .val) (del:=some 33) (news:=vs15.flatten.map .val) (dst:=35) aa aa aa aa aa aa aa aa (bF aa) aa (.inr ⟨33,aa,aa,aa⟩) (.inl aa) (by rw[bJ];exact uw.2) (by rw[<-aQ,bJ];exact hfl14) hcn14 hcm14 ⟨ah _,ah _,ah _⟩ ⟨dx uw.1,dx hsp14,dx qN.1⟩ (by rw[bJ];exact qN.2) ae
  (λw1 β k1 b1 ho=>⟨_,_,rfl,.inr ⟨_,_,rfl,λj u hj=>by
   have o:=(ho.own 34 (.base (by simp[gl,AV.ids])) _ _ aa).cls;rw[<-aQ,aV] at o;rw[aV] at hj;rw[jR];exact o.cell (by simpa using (show (vs15.flatten++spd15)[j]? =some u from by rw[jG (cM.1 hj).1];exact hj))⟩⟩)
  (λuz capd spd ρ NS SV gH rh pR hlend Qq hlidd=>wV rfl ?_)
 refine af ?_;refine VO.cR aa aa (fk iM) (λFw Qs NK=>dP 2500 Fw ae ae) (λFw Qs NK w16 s16 p16 n16 c16 t16 y16 m16 d16 q16 hb16 kb16 _ bb16=>wV aa ?_);refine af ?_;refine VS.lJ (cS _ _) aa (λwz β kz bz en=> ?_)
 exact⟨[_,_,_,_,_,_],aa,⟨_,_,_,_,_,aa,
  dX (E:=kM 2) (vs:=[[.string ⟨#[80]⟩,.string ⟨#[65]⟩,.bool s1,.slice p1 n1 c1,.bool t1,.slice y1 m1 d1],[.string ⟨#[65]⟩,.string ⟨#[66]⟩,.bool s2,.slice p2 n2 c2,.bool t2,.slice y2 m2 d2],[.string ⟨#[80]⟩,.string ⟨#[66]⟩,.bool s3,.slice p3 n3 c3,.bool t3,.slice y3 m3 d3],[.string ⟨#[80]⟩,.string ⟨#[67]⟩,.bool s4,.slice p4 n4 c4,.bool t4,.slice y4 m4 d4],[.string ⟨#[67]⟩,.string ⟨#[68]⟩,.bool s5,.slice p5 n5 c5,.bool t5,.slice y5 m5 d5]]) (spare:=[]) (en.own 13 _ _ rfl) (.cons (kM.mk' (fP.of q1.kr (aM ae ae ae ae))) (.cons (kM.mk' (fP.of q2.kr (aM ae ae ae ae))) (.cons (kM.mk' (fP.of q3.kr (aM ae ae ae ae))) (.cons (kM.mk' (fP.of q4.kr (aM ae ae ae ae))) (.cons (kM.mk' (fP.of q5.kr (aM ae ae ae ae))) .nil))))) rfl (bl _) eL rfl (λ_ _ h=>h),
  dX (E:=kM 2) (vs:=[[.string ⟨#[80]⟩,.string ⟨#[99,111,115,116]⟩,.bool s6,.slice p6 n6 c6,.bool t6,.slice y6 m6 d6],[.string ⟨#[80]⟩,.string ⟨#[115,97,108,101,115]⟩,.bool s7,.slice p7 n7 c7,.bool t7,.slice y7 m7 d7],[.string ⟨#[80]⟩,.string ⟨#[100,105,115,116]⟩,.bool s8,.slice p8 n8 c8,.bool t8,.slice y8 m8 d8],[.string ⟨#[65]⟩,.string ⟨#[100,105,118]⟩,.bool s9,.slice p9 n9 c9,.bool t9,.slice y9 m9 d9],[.string ⟨#[66]⟩,.string ⟨#[100,105,115,116]⟩,.bool OL,.slice OM Lb OO,.bool t10,.slice OP OQ d10],[.string ⟨#[67]⟩,.string ⟨#[115,97,108,101,115]⟩,.bool SI,.slice SJ OE SK,.bool t11,.slice SL SM d11],[.string ⟨#[68]⟩,.string ⟨#[103,105,102,116,115]⟩,.bool s12,.slice OG OH OI,.bool t12,.slice OJ OK d12],[.string ⟨#[68]⟩,.string ⟨#[115,97,108,101,115]⟩,.bool s13,.slice p13 n13 c13,.bool t13,.slice y13 m13 d13]]) (spare:=[]) (en.own 31 _ _ rfl) (.cons (kM.mk' (fP.of q6.kr (aM ae ae ae ae))) (.cons (kM.mk' (fP.of q7.kr (aM ae ae ae ae))) (.cons (kM.mk' (fP.of q8.kr (aM ae ae ae ae))) (.cons (kM.mk' (fP.of q9.kr (aM ae ae ae ae))) (.cons (kM.mk' (fP.of EH.kr (aM ae ae ae ae))) (.cons (kM.mk' (fP.of Ka.kr (aM ae ae ae ae))) (.cons (kM.mk' (fP.of PF.kr (aM ae ae ae ae))) (.cons (kM.mk' (fP.of q13.kr (aM ae ae ae ae))) .nil)))))))) rfl (bl _) eL rfl (λ_ _ h=>h),
  dl_new (en.own 35 _ _ rfl) (hr14.kp (zX.el 2) bm) (hr15.kp (zX.el 2) bm) rh pR hlend,
  aP.nil',
  dX (E:=Wv 2) (vs:=[[.string ⟨#[71,49]⟩,.bool s16,.slice p16 n16 c16,.bool t16,.slice y16 m16 d16]]) (spare:=[]) (en.own 39 _ _ rfl) (.cons (Wv.mk' (fP.of q16.kr (aM ae ae ae ae))) .nil) rfl (bl _) eL rfl (λ_ _ h=>h)⟩,bz⟩
def Gn:Tk:=⟨2022,[(⟨#[80]⟩,⟨#[65]⟩,(Rw.of (Rat.divInt 7400 10000))),(⟨#[80]⟩,⟨#[67]⟩,(Rw.of (Rat.divInt 8000 10000))),(⟨#[67]⟩,⟨#[68]⟩,(Rw.of (Rat.divInt 9999 10000)))],[(⟨#[80]⟩,⟨#[115,97,108,101,115]⟩,(Rw.of (Rat.divInt 300000 100))),(⟨#[80]⟩,⟨#[105,110,116,45,111,117,116]⟩,(Rw.of (Rat.divInt 9000 100))),(⟨#[65]⟩,⟨#[115,97,108,101,115]⟩,(Rw.of (Rat.divInt 10000 100))),(⟨#[67]⟩,⟨#[115,97,108,101,115]⟩,(Rw.of (Rat.divInt 70001 100))),(⟨#[68]⟩,⟨#[99,111,115,116]⟩,(Rw.of (Rat.divInt 8000 100))),(⟨#[68]⟩,⟨#[109,101,97,108,115]⟩,(Rw.of (Rat.divInt (-100) 100)))],[],[],[(⟨#[71,49]⟩,(Rw.of (Rat.divInt 7500 10000)))]⟩
set_option maxRecDepth 8000 in
theorem Rp (w:World):Calls Tryz.prog 111 #[] w λo w'=>∃ r:List Value,o=.returned (.agg r.toArray)/\Tl w.heap.size w' r Gn/\aD w w':=by
 refine ai (C:=bd Tryz.prog w _) (args:=[]) Tryz.func111 aa Tryz.ntmps111 (bF aa) ?_;refine af ?_;refine VO.cR aa aa (fk iM) (λaK bE aX=>dP 7400 aK ae ae) (λaK bE aX w1 s1 p1 n1 c1 t1 y1 m1 d1 q1 aU cQ _ bb1=>wV aa ?_);refine af ?_;refine VO.cR aa aa (fk iM) (λbf cK bK=>dP 8000 bf ae ae) (λbf cK bK w2 s2 p2 n2 c2 t2 y2 m2 d2 q2 bu dW _ bb2=>wV aa ?_);refine af ?_;refine VO.cR aa aa (fk iM) (λcV dS ea=>dP 9999 cV ae ae) (λcV dS ea w3 s3 p3 n3 c3 t3 y3 m3 d3 q3 dH eV _ bb3=>wV aa ?_);refine af ?_;refine VO.cR aa aa (fk fe) (λey eU fc=>bX 300000 ey ae ae) (λey eU fc w4 s4 p4 n4 c4 t4 y4 m4 d4 q4 gj jc _ mw=>wV aa ?_);refine af ?_;refine VO.cR aa aa (fk fe) (λgn iz iZ=>bX 9000 gn ae ae) (λgn iz iZ w5 s5 p5 n5 c5 t5 y5 m5 d5 q5 je nw _ um=>wV aa ?_);refine af ?_;refine VO.cR aa aa (fk fe) (λjL my nV=>bX 10000 jL ae ae) (λjL my nV w6 s6 p6 n6 c6 t6 y6 m6 d6 q6 oY sq _ xT=>wV aa ?_);refine af ?_;refine VO.cR aa aa (fk fe) (λpS uy rR=>bX 70001 pS ae ae) (λpS uy rR w7 s7 p7 n7 c7 t7 y7 m7 d7 q7 ER Dv _ Qa=>wV aa ?_);refine af ?_;refine VO.cR aa aa (fk fe) (λtd Cr xG=>bX 8000 td ae ae) (λtd Cr xG w8 s8 p8 n8 c8 t8 y8 m8 d8 q8 Bz Cs _ Sw=>wV aa ?_);refine af ?_;refine VO.cR aa aa (fk fe) (λAA Nd Dw=>bX (-100) AA ae ae) (λAA Nd Dw w9 s9 p9 n9 c9 t9 y9 m9 d9 q9 Dg GK _ bb9=>wV aa ?_);refine af ?_;refine VO.cR aa aa (fk iM) (λjC nM nZ=>dP 7500 jC ae ae) (λjC nM nZ BQ OL OM Lb OO t10 OP OQ d10 EH km jM _ AB=>wV aa ?_);refine af ?_;refine VS.lJ (cS _ _) aa (λwz β kz bz en=> ?_)
 exact⟨[_,_,_,_,_,_],aa,⟨_,_,_,_,_,aa,
  dX (E:=kM 2) (vs:=[[.string ⟨#[80]⟩,.string ⟨#[65]⟩,.bool s1,.slice p1 n1 c1,.bool t1,.slice y1 m1 d1],[.string ⟨#[80]⟩,.string ⟨#[67]⟩,.bool s2,.slice p2 n2 c2,.bool t2,.slice y2 m2 d2],[.string ⟨#[67]⟩,.string ⟨#[68]⟩,.bool s3,.slice p3 n3 c3,.bool t3,.slice y3 m3 d3]]) (spare:=[]) (en.own 9 _ _ rfl) (.cons (kM.mk' (fP.of q1.kr (aM ae ae ae ae))) (.cons (kM.mk' (fP.of q2.kr (aM ae ae ae ae))) (.cons (kM.mk' (fP.of q3.kr (aM ae ae ae ae))) .nil))) rfl (bl _) eL rfl (λ_ _ h=>h),
  dX (E:=kM 2) (vs:=[[.string ⟨#[80]⟩,.string ⟨#[115,97,108,101,115]⟩,.bool s4,.slice p4 n4 c4,.bool t4,.slice y4 m4 d4],[.string ⟨#[80]⟩,.string ⟨#[105,110,116,45,111,117,116]⟩,.bool s5,.slice p5 n5 c5,.bool t5,.slice y5 m5 d5],[.string ⟨#[65]⟩,.string ⟨#[115,97,108,101,115]⟩,.bool s6,.slice p6 n6 c6,.bool t6,.slice y6 m6 d6],[.string ⟨#[67]⟩,.string ⟨#[115,97,108,101,115]⟩,.bool s7,.slice p7 n7 c7,.bool t7,.slice y7 m7 d7],[.string ⟨#[68]⟩,.string ⟨#[99,111,115,116]⟩,.bool s8,.slice p8 n8 c8,.bool t8,.slice y8 m8 d8],[.string ⟨#[68]⟩,.string ⟨#[109,101,97,108,115]⟩,.bool s9,.slice p9 n9 c9,.bool t9,.slice y9 m9 d9]]) (spare:=[]) (en.own 23 _ _ rfl) (.cons (kM.mk' (fP.of q4.kr (aM ae ae ae ae))) (.cons (kM.mk' (fP.of q5.kr (aM ae ae ae ae))) (.cons (kM.mk' (fP.of q6.kr (aM ae ae ae ae))) (.cons (kM.mk' (fP.of q7.kr (aM ae ae ae ae))) (.cons (kM.mk' (fP.of q8.kr (aM ae ae ae ae))) (.cons (kM.mk' (fP.of q9.kr (aM ae ae ae ae))) .nil)))))) rfl (bl _) eL rfl (λ_ _ h=>h),
  aP.nil',
  aP.nil',
  dX (E:=Wv 2) (vs:=[[.string ⟨#[71,49]⟩,.bool OL,.slice OM Lb OO,.bool t10,.slice OP OQ d10]]) (spare:=[]) (en.own 27 _ _ rfl) (.cons (Wv.mk' (fP.of EH.kr (aM ae ae ae ae))) .nil) rfl (bl _) eL rfl (λ_ _ h=>h)⟩,bz⟩
def Om:List KlR:=[(⟨#[115,97,108,101,115]⟩,1,(Rw.of (Rat.divInt 0 1))),(⟨#[99,111,115,116]⟩,2,(Rw.of (Rat.divInt 0 1))),(⟨#[102,114,101,101]⟩,3,(Rw.of (Rat.divInt 0 1))),(⟨#[109,101,97,108,115]⟩,4,(Rw.of (Rat.divInt 5000 10000))),(⟨#[103,105,102,116,115]⟩,5,(Rw.of (Rat.divInt 10000 100))),(⟨#[97,100,115]⟩,6,(Rw.of (Rat.divInt 2 1))),(⟨#[100,101,112]⟩,7,(Rw.of (Rat.divInt 0 1))),(⟨#[105,110,116,45,105,110]⟩,8,(Rw.of (Rat.divInt 0 1))),(⟨#[105,110,116,45,111,117,116]⟩,9,(Rw.of (Rat.divInt 0 1))),(⟨#[100,105,118]⟩,10,(Rw.of (Rat.divInt 0 1))),(⟨#[100,105,115,116]⟩,11,(Rw.of (Rat.divInt 0 1)))]
set_option maxRecDepth 8000 in
theorem KR (w:World):Calls Tryz.prog 108 #[] w λo w'=>∃ r,o=.returned r/\aP (zO 2) 6 64 w.heap.size w' r Om/\aD w w':=by
 refine ai (C:=bd Tryz.prog w _) (args:=[]) Tryz.func108 aa Tryz.ntmps108 (bF aa) ?_;refine af ?_;refine VO.cR aa aa (fk qf) (λaK bE aX=>gg 0 1 aK ae ae ae ae) (λaK bE aX w1 s1 p1 n1 c1 t1 y1 m1 d1 q1 aU cQ _ bb1=>wV aa ?_);refine af ?_;refine VO.cR aa aa (fk iM) (λbf cK bK=>dP 5000 bf ae ae) (λbf cK bK w2 s2 p2 n2 c2 t2 y2 m2 d2 q2 bu dW _ bb2=>wV aa ?_);refine af ?_;refine VO.cR aa aa (fk fe) (λcV dS ea=>bX 10000 cV ae ae) (λcV dS ea w3 s3 p3 n3 c3 t3 y3 m3 d3 q3 dH eV _ bb3=>wV aa ?_);refine af ?_;refine VO.cR aa aa (fk qf) (λey eU fc=>gg 2 1 ey ae ae ae ae) (λey eU fc w4 s4 p4 n4 c4 t4 y4 m4 d4 q4 gj jc _ mw=>wV aa ?_);refine af ?_;refine VS.lJ (cS _ _) aa (λwz β kz bz en=> ?_);exact⟨_,aa,dX (E:=zO 2) (vs:=[[.string ⟨#[115,97,108,101,115]⟩,.int .u8 1,.bool s1,.slice p1 n1 c1,.bool t1,.slice y1 m1 d1],[.string ⟨#[99,111,115,116]⟩,.int .u8 2,.bool s1,.slice p1 n1 c1,.bool t1,.slice y1 m1 d1],[.string ⟨#[102,114,101,101]⟩,.int .u8 3,.bool s1,.slice p1 n1 c1,.bool t1,.slice y1 m1 d1],[.string ⟨#[109,101,97,108,115]⟩,.int .u8 4,.bool s2,.slice p2 n2 c2,.bool t2,.slice y2 m2 d2],[.string ⟨#[103,105,102,116,115]⟩,.int .u8 5,.bool s3,.slice p3 n3 c3,.bool t3,.slice y3 m3 d3],[.string ⟨#[97,100,115]⟩,.int .u8 6,.bool s4,.slice p4 n4 c4,.bool t4,.slice y4 m4 d4],[.string ⟨#[100,101,112]⟩,.int .u8 7,.bool s1,.slice p1 n1 c1,.bool t1,.slice y1 m1 d1],[.string ⟨#[105,110,116,45,105,110]⟩,.int .u8 8,.bool s1,.slice p1 n1 c1,.bool t1,.slice y1 m1 d1],[.string ⟨#[105,110,116,45,111,117,116]⟩,.int .u8 9,.bool s1,.slice p1 n1 c1,.bool t1,.slice y1 m1 d1],[.string ⟨#[100,105,118]⟩,.int .u8 10,.bool s1,.slice p1 n1 c1,.bool t1,.slice y1 m1 d1],[.string ⟨#[100,105,115,116]⟩,.int .u8 11,.bool s1,.slice p1 n1 c1,.bool t1,.slice y1 m1 d1]]) (spare:=[]) (en.own 25 _ _ aa) (.cons (zO.mk' (fP.of q1.kr (aM ae ae ae ae)) eL) (.cons (zO.mk' (fP.of q1.kr (aM ae ae ae ae)) eL) (.cons (zO.mk' (fP.of q1.kr (aM ae ae ae ae)) eL) (.cons (zO.mk' (fP.of q2.kr (aM ae ae ae ae)) eL) (.cons (zO.mk' (fP.of q3.kr (aM ae ae ae ae)) eL) (.cons (zO.mk' (fP.of q4.kr (aM ae ae ae ae)) eL) (.cons (zO.mk' (fP.of q1.kr (aM ae ae ae ae)) eL) (.cons (zO.mk' (fP.of q1.kr (aM ae ae ae ae)) eL) (.cons (zO.mk' (fP.of q1.kr (aM ae ae ae ae)) eL) (.cons (zO.mk' (fP.of q1.kr (aM ae ae ae ae)) eL) (.cons (zO.mk' (fP.of q1.kr (aM ae ae ae ae)) eL) .nil))))))))))) aa (bl _) eL aa (λ_ _ h=>h),bz⟩
set_option maxRecDepth 4000
def Gp:AW:={ name:=⟨#[83]⟩,parent:=⟨#[80]⟩,brs:=[((Rw.of (Rat.divInt 0 100)),(Rw.of (Rat.divInt 2500 10000)))],thr:=(Rw.of (Rat.divInt 7500 10000)),cap:=(Rw.of (Rat.divInt 5000 10000)),bk:=1,fw:=2,itr:=(Rw.of (Rat.divInt 3000 10000)),flo:=(Rw.of (Rat.divInt 0 100)),kp:=1,cls:=[],iL:=[⟨#[80]⟩],AU:=[⟨2020,[],[],[],[],[]⟩] }
set_option maxRecDepth 8000 in
theorem Wx (w:World):Calls Tryz.prog 56 #[] w λo w'=>∃ r,o=.returned r/\Rn w.heap.size w' r Gp/\aD w w':=by
 refine ai (C:=bd Tryz.prog w _) (args:=[]) Tryz.func56 aa Tryz.ntmps56 (bF aa) ?_;refine af ?_;refine VO.cR aa aa (fk fe) (λaK bE aX=>bX 0 aK ae ae) (λaK bE aX w1 s1 p1 n1 c1 t1 y1 m1 d1 q1 aU cQ _ bb1=>wV aa ?_);refine af ?_;refine VO.cR aa aa (fk iM) (λbf cK bK=>dP 2500 bf ae ae) (λbf cK bK w2 s2 p2 n2 c2 t2 y2 m2 d2 q2 bu dW _ bb2=>wV aa ?_);refine af ?_;refine VO.cR aa aa (fk iM) (λcV dS ea=>dP 7500 cV ae ae) (λcV dS ea w3 s3 p3 n3 c3 t3 y3 m3 d3 q3 dH eV _ bb3=>wV aa ?_);refine af ?_;refine VO.cR aa aa (fk iM) (λey eU fc=>dP 5000 ey ae ae) (λey eU fc w4 s4 p4 n4 c4 t4 y4 m4 d4 q4 gj jc _ mw=>wV aa ?_);refine af ?_;refine VO.cR aa aa (fk iM) (λgn iz iZ=>dP 3000 gn ae ae) (λgn iz iZ w5 s5 p5 n5 c5 t5 y5 m5 d5 q5 je nw _ um=>wV aa ?_);refine af ?_;refine VO.cR aa aa (fk fe) (λjL my nV=>bX 0 jL ae ae) (λjL my nV w6 s6 p6 n6 c6 t6 y6 m6 d6 q6 oY sq _ xT=>wV aa ?_);refine af ?_;refine VS.lJ (cS _ _) aa (λwz β kz bz en=> ?_)
 exact⟨_,aa,⟨_,_,_,_,_,_,_,_,_,_,_,_,_,_,_,_,_,_,_,_,_,_,_,_,_,_,_,_,_,_,_,_,_,_,_,_,_,_,_,_,_,_,_,_,aa,
  dX (E:=Tj 2) (vs:=[[.bool s1,.slice p1 n1 c1,.bool t1,.slice y1 m1 d1,.bool s2,.slice p2 n2 c2,.bool t2,.slice y2 m2 d2]]) (spare:=[]) (en.own 4 _ _ rfl) (.cons (Tj.mk' (fP.of q1.kr (aM ae ae ae ae)) (fP.of q2.kr (aM ae ae ae ae))) .nil) rfl (bl _) eL rfl (λ_ _ h=>h),
  (fP.of q3.kr (aM ae ae ae ae)),(fP.of q4.kr (aM ae ae ae ae)),(fP.of q5.kr (aM ae ae ae ae)),(fP.of q6.kr (aM ae ae ae ae)),aP.nil',
  dX (E:=xP) (vs:=[[.string ⟨#[80]⟩]]) (spare:=[]) (en.own 9 _ _ rfl) (.cons rfl .nil) rfl (bl _) eL rfl (λ_ _ h=>h),
  [[.int .i64 2020,.slice none 0 0,.slice none 0 0,.slice none 0 0,.slice none 0 0,.slice none 0 0]],dX (E:=CE 6) (vs:=[[.int .i64 2020,.slice none 0 0,.slice none 0 0,.slice none 0 0,.slice none 0 0,.slice none 0 0]]) (spare:=[]) (en.own 11 _ _ rfl) (.cons ⟨rfl,rfl,rfl⟩ .nil) rfl (bl _) eL rfl (λ_ _ h=>h),rfl,λi cs y hi hy=>by
    match i,hi,hy with
    | 0,hi,hy=>
      cases hi;cases hy;exact⟨_,_,_,_,_,aa,aP.nil',aP.nil',aP.nil',aP.nil',aP.nil'⟩
    | i+1,hi,_=>simp at hi⟩,bz⟩
abbrev cxG (P:Program) (w:World) (N:Nat):Cx:={ P:=P,w0:=w,N:=N,K:=⟨UU,λ_=>True,λt=>(Nat.beq t 64 || (Nat.beq t 218 || (Nat.beq t 103 || (Nat.beq t 222 || (Nat.beq t 226 || Nat.beq t 230)))))⟩,SU:=λt=>Nat.beq t 23,ti:=table,keep:=λ_ _=>trivial }
theorem cxG_ok (w:World) (N:Nat):(cxG Tryz.prog w N).Ok:=fy
section
variable {F F':Fr} {H H':Hp} {w w1:World} {N:Nat} {l':List Oper} {Q:Exit->Act->World->Prop} {k:List It} {id:Nat} {ops:Array Oper}
theorem cxG_r (e:jJ (cxG Tryz.prog w1 N) ops 80 ops.toList F H=(l',F',H')) (h:aB (cxG Tryz.prog w1 N) none ops l' (VS (cxG Tryz.prog w1 N) Q k) F' H' w):VS (cxG Tryz.prog w1 N) Q (.code (.region id ops false)::k) F H w:=VS.region (cxG_ok _ _) (VO.run 80 e h)
end
variable {N:Nat} {w0 w w':World}
theorem kG (h:bg (cxG Tryz.prog w0 N).K w w':=by exact bm):Kp UU w w':=h.fq
def gS:AW:={ name:=⟨#[71,114,111,117,112]⟩,parent:=Gp.parent,brs:=[((Rw.of (Rat.divInt 0 100)),(Rw.of (Rat.divInt 1000 10000))),((Rw.of (Rat.divInt 100000 100)),(Rw.of (Rat.divInt 2550 10000)))],thr:=Gp.thr,cap:=(Rw.of (Rat.divInt 6000 10000)),bk:=Gp.bk,fw:=3,itr:=Gp.itr,flo:=(Rw.of (Rat.divInt 5000 100)),kp:=2,cls:=Om,iL:=[⟨#[80]⟩,⟨#[68]⟩,⟨#[65]⟩,⟨#[66]⟩,⟨#[67]⟩],AU:=[Gm,zS,Gn] }
variable {P Q:Prop}
theorem Cg (h:Q) (i:Q->P:=by intro h;(repeat first|refine wN ?_|refine wP rfl ?_|refine cxG_r rfl ?_|refine cxG_d rfl ?_|refine wO rfl rfl ?_);exact h):P:=i h
theorem On {X:Prop} (hb:X) (h:Q) (i:X->Q->P:=by intro hb h;refine⟨_,rfl,hb,λa b c=>wV rfl ?_⟩;refine Cg ?_;revert a b c;exact h):P:=i hb h
set_option maxRecDepth 8000 in
theorem Wy (w:World):Calls Tryz.prog 47 #[] w λo w'=>∃ r,o=.returned r/\Rn w.heap.size w' r gS/\aD w w':=by
 refine ai (C:=cxG Tryz.prog w _) (args:=[]) Tryz.func47 aa Tryz.ntmps47 (bF aa) ?_;refine Cg ?_;refine VO.call aa aa (fk Tryz.func56) (λaK bE aX=>(Wx aK).mono ?_);rintro o w1 ⟨_,rfl,⟨pB,nB,cB,sT,pT,nT,cT,tT,yT,mT,dT,sC,pC,nC,cC,tC,yC,mC,dC,sI,pI,nI,cI,tI,yI,mI,dI,sF,pF,nF,cF,tF,yF,mF,dF,pc,Nc,cc,pe,Ne,ce,py,Ny,cy,rfl,hS1,hS2,hS3,hS4,hS5,hS6,hS7,ycs1,hS8,hS9,hS10⟩,aU⟩;refine On aU ?_;intro cQ _ bb1;refine VO.cR aa aa (fk fe) (λbf cK bK=>bX 0 bf ae ae) (λbf cK bK w2 s2 p2 n2 c2 t2 y2 m2 d2 q2 bu dW _ bb2=>wV aa ?_);refine Cg ?_;refine VO.cR aa aa (fk iM) (λcV dS ea=>dP 1000 cV ae ae) (λcV dS ea w3 s3 p3 n3 c3 t3 y3 m3 d3 q3 dH eV _ bb3=>wV aa ?_);refine Cg ?_;refine VO.cR aa aa (fk fe) (λey eU fc=>bX 100000 ey ae ae) (λey eU fc w4 s4 p4 n4 c4 t4 y4 m4 d4 q4 gj jc _ mw=>wV aa ?_);refine Cg ?_;refine VO.cR aa aa (fk iM) (λgn iz iZ=>dP 2550 gn ae ae) (λgn iz iZ w5 s5 p5 n5 c5 t5 y5 m5 d5 q5 je nw _ um=>wV aa ?_);refine Cg ?_;refine VO.cR aa aa (fk fe) (λjL my nV=>bX 5000 jL ae ae) (λjL my nV w6 s6 p6 n6 c6 t6 y6 m6 d6 q6 oY sq _ xT=>wV aa ?_);refine Cg ?_;refine VO.cR aa aa (fk iM) (λpS uy rR=>dP 6000 pS ae ae) (λpS uy rR w7 s7 p7 n7 c7 t7 y7 m7 d7 q7 ER Dv _ Qa=>wV aa ?_);refine Cg ?_;refine VO.call aa aa (fk Tryz.func108) (λtd Cr xG=>(KR td).mono ?_);rintro e w8 ⟨r8,rfl,q8,Bz⟩;obtain⟨pq8,cq8,rfl⟩:=q8.form;refine On Bz ?_;intro Cs _ Sw;refine VO.call aa aa (fk Tryz.func109) (λAA Nd Dw=>(Ro AA).mono ?_);rintro e w9 ⟨r9,rfl,q9,Dg⟩;obtain⟨pz90,nz90,cz90,pz91,nz91,cz91,pz92,nz92,cz92,pz93,nz93,cz93,pz94,nz94,cz94,rfl⟩:=q9.six;refine On Dg ?_;intro GK _ bb9;refine VO.call aa aa (fk Tryz.func110) (λjC nM nZ=>(Ol jC).mono ?_);rintro e BQ ⟨r10,rfl,EH,km⟩;obtain⟨pz100,nz100,cz100,pz101,nz101,cz101,pz102,nz102,cz102,pz103,nz103,cz103,pz104,nz104,cz104,rfl⟩:=EH.six;refine On km ?_;intro jM _ AB;refine VO.call aa aa (fk Tryz.func111) (λjN oc pd=>(Rp jN).mono ?_);rintro e Sx ⟨r11,rfl,Ka,vn⟩;obtain⟨pz110,nz110,cz110,pz111,nz111,cz111,pz112,nz112,cz112,pz113,nz113,cz113,pz114,nz114,cz114,rfl⟩:=Ka.six;refine On vn ?_;intro ny _ Ct;refine VS.lJ (cxG_ok _ _) aa (λwz β kz bz en=> ?_);have kS:bg ⟨UU,λ_=>True,λ_=>false⟩ w1 wz:=kG
 exact⟨_,aa,⟨_,_,_,_,_,_,_,_,_,_,_,_,_,_,_,_,_,_,_,_,_,_,_,_,_,_,_,_,_,_,_,_,_,_,_,_,_,_,_,_,_,_,_,_,aa,
  dX (E:=Tj 2) (vs:=[[.bool s2,.slice p2 n2 c2,.bool t2,.slice y2 m2 d2,.bool s3,.slice p3 n3 c3,.bool t3,.slice y3 m3 d3],[.bool s4,.slice p4 n4 c4,.bool t4,.slice y4 m4 d4,.bool s5,.slice p5 n5 c5,.bool t5,.slice y5 m5 d5]]) (spare:=[]) (en.own 10 _ _ rfl) (.cons (Tj.mk' (fP.of (q2.kr kG) (aM ae ae ae ae)) (fP.of (q3.kr kG) (aM ae ae ae ae))) (.cons (Tj.mk' (fP.of (q4.kr kG) (aM ae ae ae ae)) (fP.of (q5.kr kG) (aM ae ae ae ae))) .nil)) rfl (bl _) eL rfl (λ_ _ h=>h),
  hS2.kp kS,(fP.of (q7.kr kG) (aM ae ae ae ae)),hS4.kp kS,(fP.of (q6.kr kG) (aM ae ae ae ae)),(q8.kp (zO.el 2) (show bg (cxG Tryz.prog w 28).K w8 wz from bm) rfl).mono (by have:=xG.size;omega),
  dX (E:=xP) (vs:=[[.string ⟨#[80]⟩],[.string ⟨#[68]⟩],[.string ⟨#[65]⟩],[.string ⟨#[66]⟩],[.string ⟨#[67]⟩]]) (spare:=[]) (en.own 20 _ _ rfl) (.cons rfl (.cons rfl (.cons rfl (.cons rfl (.cons rfl .nil))))) rfl (bl _) eL rfl (λ_ _ h=>h),
  [[.int .i64 Gm.num,.slice pz90 nz90 cz90,.slice pz91 nz91 cz91,.slice pz92 nz92 cz92,.slice pz93 nz93 cz93,.slice pz94 nz94 cz94],[.int .i64 zS.num,.slice pz100 nz100 cz100,.slice pz101 nz101 cz101,.slice pz102 nz102 cz102,.slice pz103 nz103 cz103,.slice pz104 nz104 cz104],[.int .i64 Gn.num,.slice pz110 nz110 cz110,.slice pz111 nz111 cz111,.slice pz112 nz112 cz112,.slice pz113 nz113 cz113,.slice pz114 nz114 cz114]],dX (E:=CE 6) (vs:=[[.int .i64 Gm.num,.slice pz90 nz90 cz90,.slice pz91 nz91 cz91,.slice pz92 nz92 cz92,.slice pz93 nz93 cz93,.slice pz94 nz94 cz94],[.int .i64 zS.num,.slice pz100 nz100 cz100,.slice pz101 nz101 cz101,.slice pz102 nz102 cz102,.slice pz103 nz103 cz103,.slice pz104 nz104 cz104],[.int .i64 Gn.num,.slice pz110 nz110 cz110,.slice pz111 nz111 cz111,.slice pz112 nz112 cz112,.slice pz113 nz113 cz113,.slice pz114 nz114 cz114]]) (spare:=[]) (en.own 25 _ _ rfl) (.cons ⟨rfl,rfl,rfl⟩ (.cons ⟨rfl,rfl,rfl⟩ (.cons ⟨rfl,rfl,rfl⟩ .nil))) rfl (bl _) eL rfl (λ_ _ h=>h),rfl,λi cs y hi hy=>by
    match i,hi,hy with
    | 0,hi,hy=>cases hi;cases hy;exact (q9.kp (show bg (cxG Tryz.prog w 28).K w9 wz from bm) aa aa aa aa aa).mono (by have:=Dw.size;omega)
    | 1,hi,hy=>cases hi;cases hy;exact (EH.kp (show bg (cxG Tryz.prog w 28).K BQ wz from bm) aa aa aa aa aa).mono (by have:=nZ.size;omega)
    | 2,hi,hy=>cases hi;cases hy;exact (Ka.kp (show bg (cxG Tryz.prog w 28).K Sx wz from bm) aa aa aa aa aa).mono (by have:=pd.size;omega)
    | i+3,hi,_=>simp at hi⟩,bz⟩
set_option maxRecDepth 4000
theorem AX {α:Type} {P:α->Bool}:∀ {l:List α},(∃ x∈l,P x=true)->0<=uu P l/\uu P l<l.length
 | [],⟨_,h,_⟩=>by cases h
 | x::r,⟨y,hy,hP⟩=>by
   unfold uu;by_cases h:P x=true
   ·rw[if_pos h];exact⟨ae,by simp only[List.length_cons];omega⟩
   ·rcases eD.1 hy with rfl|hy
    ·exact absurd hP h
    ·have:=AX (l:=r) ⟨y,hy,hP⟩;rw[if_neg h,if_neg ae];simp only[List.length_cons];omega
variable {iL:List ByteArray}
theorem Wz {x:ByteArray} (h:x∈iL):x∈jw iL:=by
 unfold jw;refine eG.2 ⟨x.data.toList,(List.mergeSort_perm _ _).mem_iff.2 (eG.2 ⟨x,h,aa⟩),cZ⟩
theorem Rq (n k:Nat):(vE n k).map List.length=List.replicate n k:=by
 unfold vE;rw[List.map_replicate,DJ]
theorem has_lens {t:DB} {n k:Nat} (h:t.map List.length=List.replicate n k) {e c:Int} (h1:0<=e/\e<n) (h2:0<=c/\c<k):Gf t e c=true:=by
 obtain⟨E,rfl⟩:=tP h1.1;have hl:t.length=n:=by simpa using ak List.length h
 have h3:(t.getD E []).length=k:=by
  have:=ak (λl=>l.getD E 0) h;simp only[List.getD_eq_getElem?_getD,List.getElem?_map,List.getElem?_replicate] at this ⊢;rw[if_pos ae] at this;rw[bj ae] at this ⊢;simpa using this
 unfold Gf;rw[dV,h3,hl];exact aw ⟨h1.1,h1.2,h2.1,h2.2⟩
theorem Jz {names:List ByteArray} {cls:List tK}:∀ {l:List Rl} (t:DB),t.map List.length=List.replicate names.length cls.length->(∀ b∈l,b.1∈names/\b.2.1∈cls.map (·.1))->(l.foldl (Jx names cls) (some t)).isSome=true
 | [],_,_,_=>rfl
 | b::r,t,h,hb=>by
   obtain⟨h1,h2⟩:=hb b cZ;obtain⟨c,hc,he⟩:=eG.1 h2;have hh:Gf t (bkP names b) (bkK cls b)=true:=has_lens h (AX ⟨_,h1,beq_self_eq_true _⟩) (AX ⟨c,hc,by rw[he];exact beq_self_eq_true _⟩);rw[Lu];show (r.foldl (Jx names cls) (if Gf t (bkP names b) (bkK cls b)=true then some (Hd t (bkP names b).toNat (bkK cls b).toNat b.2.2) else none)).isSome=true;rw[if_pos hh];exact Jz _ (by rw[Wo];exact h) (λb' hb'=>hb b' (by simp[hb']))
theorem WA {cls:List tK} {AU:List (List Rl)} {y:Nat} {l:List Rl} (hy:AU[y]? =some l) (h:∀ b∈l,b.1∈iL/\b.2.1∈cls.map (·.1)):(CV iL cls AU (y:Int)).isSome=true:=by
 have hlt:=(cM.1 hy).1;unfold CV;rw[if_neg ae,dV,fG,hy];exact Jz _ (Rq _ _) (λb hb=>⟨Wz (h b hb).1,(h b hb).2⟩)
def namesIn (f:AW) (y:Tk):Bool:=y.Cf.all λb=>(f.iL.any λe=>decide (b.1.data.toList=e.data.toList)) && (f.cls.any λc=>decide (b.2.1.data.toList=c.1.data.toList))
theorem Oo {a b:ByteArray} (h:a.data.toList=b.data.toList):a=b:=by
 cases a;cases b;simp only[ByteArray.mk.injEq];exact ry.1 h
variable {z:Nat}
theorem vG {f:AW} {y:Tk} (hy:f.AU[z]? =some y) (h:namesIn f y=true):(f.GX (z:Int)).isSome=true:=by
 unfold AW.GX;refine WA (l:=y.Cf.map HbR.b) (by rw[gT,hy];rfl) (λb hb=> ?_);obtain⟨x,hx,rfl⟩:=eG.1 hb;have:=eg.1 h x hx;rw[jP] at this;obtain⟨h1,h2⟩:=this;obtain⟨e,he,he2⟩:=kV.1 h1;obtain⟨c,hc,pR⟩:=kV.1 h2;refine⟨?_,?_⟩
 ·rw[show x.b.1=e from Oo (nO he2)];exact he
 ·refine eG.2 ⟨c.k,eG.2 ⟨c,hc,aa⟩,(Oo (nO pR)).symm⟩
theorem WB (z:Nat) (hz:z<3):(gS.GX (z:Int)).isSome=true:=by
 obtain rfl|rfl|rfl:z=0\/z=1\/z=2:=ae
 ·exact vG (y:=Gm) aa (by decide+kernel)
 ·exact vG (y:=zS) aa (by decide+kernel)
 ·exact vG (y:=Gn) aa (by decide+kernel)
theorem WC {o:Option DB} (h:o.isSome=true):totE o=0:=by unfold totE;rw[if_pos h]
variable {kk B:Nat} {v:Value}
theorem tabs_sl {t:TypeId} {vs:List Value} {ts:List DB} (h:aP VE 1 t B w v vs) (hl:vs.length=ts.length) (hg:∀ (i:Nat) (u:Value) (a:DB),vs[i]? =some u->ts[i]? =some a->jY kk 0 w u a):bh (gI kk) 1 w v ts:=
 zM (h.sl dR) hl (λi u a hi ha=>⟨u,rfl,(hg i u a hi ha).NV⟩)
variable {cs:List Value}
theorem zO.cl {x:KlR} (h:zO kk w cs x):fu kk w cs x.k.2:=h.n.cls
def Gq:List DB:=(List.range 3).map λz:Nat=>(gS.GX (z:Int)).getD []
theorem gtabs_at (h:z<3):Gq[z]? =some ((gS.GX (z:Int)).getD []):=by
 unfold Gq;rw[gT,List.getElem?_range h];rfl
theorem reads_at {b:Nat} (h:∀ (j:Nat) (u:Value),cs[j]? =some u->w.cell? ⟨b,j,none⟩=some u):∀ (j:Nat) (u:Value),cs[j]? =some u->w.cell? ((⟨b,0,none⟩:Addr).add j)=some u:=λj u hj=>by
 rw[Addr.add_mid,jR];exact h j u hj
theorem Oq {α:Type} {E:World->List Value->α->Prop} {a b:α} {vs:List (List Value)} (h:eC E w [a,b] vs):∃ c d,vs=[c,d]/\E w c a/\E w d b:=by
 cases h with
 | cons h1 h=>
   cases h with
   | cons h2 h=>
     cases h;exact⟨_,_,aa,h1,h2⟩
variable {i:Nat}
theorem Rr (h:i<60):IntKind.i64.wrap ((i:Int)-1+1)=((i+1:Nat):Int)-1:=by rw[cO _ ae];omega
theorem u_kind (h:i<60):IntKind.u8.wrap (IntKind.i64.wrap ((i:Int)-1+1))=(i:Int):=by
 rw[cO _ ae];have:(i:Int)-1+1=(i:Int):=ae;rw[this];simp only[IntKind.wrap,IntKind.bits,IntKind.signed];first|omega|(simp;omega)
def azero:ik:={ p:=Pt.zero,due:=0,xU:=0,own:=0 }
theorem Tm (w:World):iP w (.agg #[.bool false,.slice none 0 0]) false []:=⟨none,0,rfl,Rd.nil w 1,eB.nil⟩
theorem aG.nul (w:World) (k:Nat):aG w (.agg #[.bool false,.slice none 0 0,.bool false,.slice none 0 0]) 0 k:=
 ⟨false,[],false,[],⟨none,0,none,0,rfl,Tm w,Tm w⟩,rfl,eK _,eK _⟩
theorem tL (w:World) (k:Nat):iJ k w [.bool false,.slice none 0 0,.bool false,.slice none 0 0] 0:=⟨_,_,_,_,_,_,_,_,rfl,aG.nul w k⟩
theorem Ot (w:World) (k:Nat):zy k w [.bool false,.slice none 0 0,.bool false,.slice none 0 0,.bool false,.slice none 0 0,.bool false,.slice none 0 0,.bool false,.slice none 0 0,.bool false,.slice none 0 0,.bool false,.slice none 0 0,.bool false,.slice none 0 0,.bool false,.slice none 0 0,.bool false,.slice none 0 0,.bool false,.slice none 0 0,.bool false,.slice none 0 0,.bool false,.slice none 0 0,.bool false,.slice none 0 0] azero:=⟨_,_,_,_,_,_,_,rfl,tL w k,tL w k,tL w k,tL w k,tL w k,tL w k,tL w k⟩
theorem xN.zero {q r:Rat} (h:xN w v B q r):xN w v 0 q r:=by
 obtain⟨g,b,s1,p1,n1,c1,t1,y1,m1,d1,s2,p2,n2,c2,t2,y2,m2,d2,rfl,e1,e2,e3,e4,e5,e6⟩:=h;exact⟨g,b,_,_,_,_,_,_,_,_,_,_,_,_,_,_,_,_,aa,eK _,eK _,e3,e4,e5,e6⟩
theorem kQ (h:bg (Gv Tryz.prog w0 N).K w w':=by exact bm):Kp UU w w':=h.fq
abbrev Rs (P:Program) (w:World) (N:Nat):Cx:={ P:=P,w0:=w,N:=N,K:=⟨UU,λ_=>True,λt=>(Nat.beq t 27 || (Nat.beq t 105 || Nat.beq t 64))⟩,SU:=λt=>(Nat.beq t 23 || (Nat.beq t 105 || Nat.beq t 50)),ti:=table,keep:=λ_ _=>trivial }
theorem KS (w:World) (N:Nat):(Rs Tryz.prog w N).Ok:=fy
theorem WD (w:World) (N:Nat):(Rs Tryz.prog w N).P.follows .mixedOrders=true:=by show Tryz.prog.follows .mixedOrders=true;kernel_rfl
section
variable {F F':Fr} {H H':Hp} {w w1:World} {N:Nat} {l':List Oper} {Q:Exit->Act->World->Prop} {k:List It} {id:Nat} {ops:Array Oper}
theorem cxM_d (e:jJ (Rs Tryz.prog w1 N) ops 80 ops.toList F H=(l',F',H')) (h:aB (Rs Tryz.prog w1 N) (some []) ops l' (VS (Rs Tryz.prog w1 N) Q k) F' H' w) (np:lI (Rs Tryz.prog w1 N).SU [] ops=true:=by kernel_rfl):VS (Rs Tryz.prog w1 N) Q (.code (.region id ops true)::k) F H w:=VS.draw (KS _ _) (WD _ _) [] np (VO.run 80 e h)
end
abbrev cxF (P:Program) (w:World) (N:Nat):Cx:={ P:=P,w0:=w,N:=N,K:=⟨UU,λ_=>True,λt=>(Ww t || TQ t)⟩,SU:=λt=>Nat.beq t 23,ti:=table,keep:=λ_ _=>trivial }
theorem Rt (w:World) (N:Nat):(cxF Tryz.prog w N).Ok:=fy
section
variable {F F':Fr} {H H':Hp} {w w1:World} {N:Nat} {l':List Oper} {Q:Exit->Act->World->Prop} {k:List It} {id:Nat} {ops:Array Oper}
theorem cxF_r (e:jJ (cxF Tryz.prog w1 N) ops 80 ops.toList F H=(l',F',H')) (h:aB (cxF Tryz.prog w1 N) none ops l' (VS (cxF Tryz.prog w1 N) Q k) F' H' w):VS (cxF Tryz.prog w1 N) Q (.code (.region id ops false)::k) F H w:=VS.region (Rt _ _) (VO.run 80 e h)
end
theorem Ch {P Q:Prop} (h:Q) (i:Q->P:=by intro h;(repeat first|refine wN ?_|refine wP rfl ?_|refine cxF_r rfl ?_|refine cxF_d rfl ?_|refine wO rfl rfl ?_);exact h):P:=i h
theorem cTcxF {P Q X:Prop} (hb:X) (h:Q) (i:X->Q->P:=by intro hb h;refine⟨_,rfl,hb,λa b c=>wV rfl ?_⟩;refine Ch ?_;revert a b c;exact h):P:=i hb h
theorem zT {P Q:Prop} (h:Q) (i:Q->P:=by intro h;(repeat first|refine wN ?_|refine wP rfl ?_|refine cxM_r rfl ?_|refine cxM_d rfl ?_|refine wO rfl rfl ?_);exact h):P:=i h
theorem vH {P Q X:Prop} (hb:X) (h:Q) (i:X->Q->P:=by intro hb h;refine⟨_,rfl,hb,λa b c=>wV rfl ?_⟩;refine zT ?_;revert a b c;exact h):P:=i hb h
set_option maxRecDepth 8000 in
theorem CW (w:World):Calls Tryz.prog 8 #[] w λo w'=>o=.returned (.bool true)/\aD w w':=by
 refine ai (C:=cxF Tryz.prog w _) (args:=[]) Tryz.func8 aa Tryz.ntmps8 (bF aa) ?_;refine Ch ?_;refine VO.call aa aa (fk Tryz.func47) (λaK bE aX=>(Wy aK).mono ?_);rintro o w1 ⟨r1,rfl,q1,aU⟩;have q1':=q1;obtain⟨pB,nB,cB,sT,pT,nT,cT,tT,yT,mT,dT,sC,pC,nC,cC,tC,yC,mC,dC,sI,pI,nI,cI,tI,yI,mI,dI,sF,pF,nF,cF,tF,yF,mF,dF,pc,Nc,cc,pe,Ne,ce,py,Ny,cy,rfl,hS1,hS2,hS3,hS4,hS5,hS6,hS7,ycs,hS8,hS9,-⟩:=q1';refine cTcxF aU ?_;intro cQ _ bb1;refine VS.pK (λw=>cxF Tryz.prog w 160) (λ_=>aa) (λ_=>aa) (λ_=>aD.refl _) (λw9 β k9 b9 en=> ?_);have pQ:aD w w9:=b9;have k9':KZ (λt=>Ww t || TQ t) w1 w9:=by exact bm
 have hF9:=(q1.kp k9' (λt h=>by show (Ww t || TQ t)=true;rw[h];rfl)).e;have kP:bh (fu 61) 6 w9 (.slice pc Nc cc) (gS.cls.map λx=>x.k.2):=zP ((hS6.kp (zO.el 2) k9' aa).sl (zO.el 2)) (λ_ _ h=>h.cl.up eL);obtain⟨_,_,hNy,-,-⟩:=(hS8.sl (ce_ok 6)).form
 obtain rfl:Ny=3:=by
  injection hNy with _ hNy _
  rw[hNy,hS9];rfl
 have TB:=(en.own 1 _ _ aa).cls;obtain⟨g1,hg1e⟩:∃ g,g=β 1:=⟨_,aa⟩;rw[<-hg1e] at TB;have TB:cN w9 g1 32 #[.string gS.name,.string gS.parent,.slice pB nB cB,.bool sT,.slice pT nT cT,.bool tT,.slice yT mT dT,.bool sC,.slice pC nC cC,.bool tC,.slice yC mC dC,.int .i64 gS.bk,.int .i64 gS.fw,.bool sI,.slice pI nI cI,.bool tI,.slice yI mI dI,.bool sF,.slice pF nF cF,.bool tF,.slice yF mF dF,.int .i64 gS.kp,.slice pc Nc cc,.slice pe Ne ce,.slice py 3 cy]:=TB;refine⟨[(0,.val (.bool false)),(1,.val (.pointer (some ⟨g1,0,none⟩))),(2,.val (.slice none 0 0)),(3,.val (.int .i64 ((0:Nat):Int)))],⟨⟨_,_,aa,aa,aa⟩,⟨_,_,aa,ak (λb=>Value.pointer (some ⟨b,0,none⟩)) hg1e.symm,aa⟩,⟨_,_,aa,aa,aa⟩,⟨_,_,aa,aa,aa⟩,aj⟩,?_⟩;refine VS.loop (J:=λm L M w'=>∃ (z:Nat) (X:AV) (Mi:List (Nat×(TypeId×List AV))) (vs:List Value),z<=3/\m=3-z/\L=[(0,.val (.bool false)),(1,.val (.pointer (some ⟨g1,0,none⟩))),(2,X),(3,.val (.int .i64 (z:Int)))]/\M=Mi/\eF VE 1 52 32 X Mi w' vs/\vs.length=z/\∀ (i:Nat) (v:Value),vs[i]? =some v->jY 61 0 w' v ((gS.GX (i:Int)).getD [])) 3 ⟨_,_,?_,?_,?_,?_,⟨0,_,[],[],ae,aa,aa,aa,.inl ⟨aa,aa,aa⟩,aa,λi v hi=>(by simp at hi)⟩⟩ ?_
 ·exact di
 ·exact di
 ·rfl
 ·exact fv
 rintro m L Mi wJ ⟨z,X,Mi2,zL,hz,rfl,rfl,rfl,hR,hlen,hF⟩;refine VS.now (λwX kN bN=> ?_);replace hF:∀ (i:Nat) (v:Value),zL[i]? =some v->jY 61 0 wX v ((gS.GX (i:Int)).getD []):=λi v hi=>(hF i v hi).kp kN aa aa;replace hR:=hR.kp dR (bg.fq kN);refine VS.mask [4,31] (by rcases hR with ⟨_,rfl,rfl⟩|⟨_,_,_,_,rfl,rfl,_⟩ <;> (repeat first|exact aj|refine⟨aa,?_⟩)) ?_;refine Ch ?_;refine VO.read aa [.slice py 3 cy] aa (ft (TB.cell (j:=24) aa)) (wV aa ?_);refine Ch ?_;by_cases hlt:z<3
 ·refine VS.aR aa (aw (show (z:Int)<((3:Nat):Int) by omega)) ?_;refine Ch ?_;refine VO.read aa [.string gS.name,.string gS.parent,.slice pB nB cB,.bool sT,.slice pT nT cT,.bool tT,.slice yT mT dT,.bool sC,.slice pC nC cC,.bool tC,.slice yC mC dC,.int .i64 gS.bk,.int .i64 gS.fw,.bool sI,.slice pI nI cI,.bool tI,.slice yI mI dI,.bool sF,.slice pF nF cF,.bool tF,.slice yF mF dF,.int .i64 gS.kp,.slice pc Nc cc,.slice pe Ne ce,.slice py 3 cy] aa (reads_at (λj u hj=>TB.cell (by simpa using hj))) (wV aa ?_);refine Ch ?_;refine VO.call aa aa (fk Tryz.func13) (λbf cK bK=>(Rm _ gS (z:Int) 2 20 bf (hF9.bS bK) eL eL (by decide+kernel) eL (by decide+kernel) (by decide+kernel)).mono ?_);rintro o w2 ⟨r2,rfl,q2,bu⟩;rw[WC (WB z hlt)];obtain⟨p2,c2,rfl⟩:=q2.form;obtain⟨n2,EN⟩:∃ n,n=((gS.GX (z:Int)).getD []).length:=⟨_,aa⟩;rw[<-EN] at q2 ⊢;refine cTcxF bu ?_;intro dW _ bb2;have iq:VE w2 [.slice p2 n2 c2] (.slice p2 n2 c2):=⟨aa,_,_,_,aa⟩;have hnF:∀ (w9':World),KZ (λt=>Ww t || TQ t) w2 w9'->∀ (i:Nat) (v:Value),(zL++[.slice p2 n2 c2])[i]? =some v->jY 61 0 w9' v ((gS.GX (i:Int)).getD []):=λw9' k'=>pM (P:=λi v=>jY 61 0 w9' v ((gS.GX (i:Int)).getD [])) (λi v hi=>(hF i v hi).kp ((show KZ (λt=>Ww t || TQ t) wX w2 from bm).aN k') aa aa) (hlen▸(q2.mono (eK _)).kp k' aa aa);rcases hR with ⟨dJ,rfl,rfl⟩|⟨n',c',vs,sp,rfl,rfl,iU⟩
  ·refine VO.jg (Rt _ _) dR (t:=80) (e:=52) (s:=31) (a:=.slice p2 n2 c2) (cs:=[.slice p2 n2 c2]) aa aa aa aa aa aa aa aa (bF aa) aa aa aa iq ae (λw9 cap sp k9 b9 gh=>wV aa ?_);refine Ch ?_;refine VS.back (3-(z+1)) ae ⟨_,_,?_,?_,?_,?_,⟨z+1,_,_,zL++[.slice p2 n2 c2],ae,aa,aa,aa,by rw[dJ];exact .inr ⟨1,cap,_,sp,aa,aa,gh⟩,by rw[fH,hlen];rfl,hnF _ bm⟩⟩
   ·refine⟨aa,aa,aa,?_,aj⟩;rw[<-aA (i:=z) ae];rfl
   ·(repeat first|exact aj|refine⟨aa,?_⟩|refine⟨ak (λl=>some (_,l)) (ba (by first|exact bW.dN (by assumption)|exact ah _|(rw[<-aQ];exact ah _)) _ _),?_⟩)
   ·rfl
   ·(repeat first|exact aj|refine⟨aq.lit aa,?_⟩|refine⟨bW.mg (by assumption),?_⟩|refine⟨aq.append (.vals _) (.vals _),?_⟩|refine⟨aq.vals _,?_⟩)
  ·have nY:=iU.len;refine VO.jh (Rt _ _) dR (t:=80) (e:=52) (s:=31) (i:=32) (n:=n') (c:=c') (vs:=vs) (sp:=sp) (es:=zL) (a:=.slice p2 n2 c2) (cs:=[.slice p2 n2 c2]) aa aa aa aa aa aa aa aa (bF aa) aa (.inr aa) aa (iU.kp dR (bg.fq (show bg (cxF Tryz.prog w9 160).K wX w2 from bm))) aa iq ae (λw9 il qH ρ k9 b9 gH gh=>wV aa ?_);refine Ch ?_;refine VS.back (3-(z+1)) ae ⟨_,_,?_,?_,?_,?_,⟨z+1,_,_,zL++[.slice p2 n2 c2],ae,aa,aa,aa,.inr ⟨n' +1,il,_,qH,aa,aa,gh⟩,by rw[fH,hlen];rfl,hnF _ bm⟩⟩
   ·refine⟨aa,aa,aa,?_,aj⟩;rw[<-aA (i:=z) ae];rfl
   ·(repeat first|exact aj|refine⟨aa,?_⟩|refine⟨ak (λl=>some (_,l)) (ba (by first|exact bW.dN (by assumption)|exact ah _|(rw[<-aQ];exact ah _)) _ _),?_⟩)
   ·rfl
   ·(repeat first|exact aj|refine⟨aq.lit aa,?_⟩|refine⟨bW.mg (by assumption),?_⟩|refine⟨aq.append (.vals _) (.vals _),?_⟩|refine⟨aq.vals _,?_⟩)
 refine VS.aO aa (az (show ¬ (z:Int)<((3:Nat):Int) by omega)) ?_;obtain rfl:z=3:=ae;refine VS.pK (λw=>bd Tryz.prog w 160) (λ_=>aa) (λ_=>aa) (λ_=>aD.refl _) (λBQ yV k1 b1 OS=> ?_);have km:aD w9 BQ:=b1;have fx:=hR.told dR OS (by intro q hq;rcases hR with ⟨_,rfl,rfl⟩|⟨_,_,_,_,rfl,rfl,_⟩ <;> first|(cases hq;done)|(cases ay.1 hq;rfl)) k1.fq 0 (λ_=>eK _)
 have hts:bh (gI 61) 1 BQ (X.bH yV) Gq:=tabs_sl fx (by rw[hlen];rfl) (λi u a hi ha=>by
  have h3:i<3:=by have:=(cM.1 hi).1;omega
  rw[gtabs_at h3] at ha;cases ha;exact (hF i u hi).kp k1 aa aa)
 refine⟨[(0,.val (.bool false)),(1,.val (.pointer (some ⟨g1,0,none⟩))),(2,.val (X.bH yV))],⟨⟨_,_,aa,aa,aa⟩,⟨_,_,aa,aa,aa⟩,⟨_,_,aa,aa,aa⟩,aj⟩,?_⟩;generalize X.bH yV=tv at hts ⊢;obtain⟨ptv,ctv,rfl⟩:=hts.sl;replace kP:=kP.bS (cW 61) km;replace TB:=TB.bS km;replace pQ:=pQ.aN km;clear hF hR fx OS en hF9 q1 hS1 hS2 hS3 hS4 hS5 hS6 hS7 hS8 hS9 k1 k9' k9 b9 b1;refine af ?_;refine VS.loop (J:=λm L M w'=>∃ z:Nat,z<=8/\m=8-z/\L=[(0,.val (.bool false)),(1,.val (.pointer (some ⟨g1,0,none⟩))),(2,.val (.slice ptv Gq.length ctv)),(6,.val (.int .i64 ((z:Int)-1)))]/\M=[]) 8 ⟨_,_,?_,?_,?_,?_,⟨0,ae,aa,aa,aa⟩⟩ ?_
 ·exact di
 ·exact di
 ·rfl
 ·exact fv
 rintro m L M wK ⟨z,hz,rfl,rfl,rfl⟩;refine af ?_;by_cases hlt:z<8
 ·refine VS.aR aa (aw (show (z:Int)-1<7 by omega)) ?_;refine af ?_;refine VO.read aa [.slice pc Nc cc] aa (ft (TB.cell (j:=22) aa)) (wV aa ?_);refine af ?_;refine VO.cB aa aa (fk yg) (λbf cK bK=>fE _ _ _ _ Gq 61 bf (kP.bS (cW 61) bK) (hts.iI (iB 61) bK)) (λbf cK bK w2 bu dW _ bb2=>wV aa ?_);refine af ?_;refine VO.read aa [.slice pc Nc cc] aa (ft (TB.cell (j:=22) aa)) (wV aa ?_);refine af ?_;refine VO.fix 50 aa (ak (λz=>AV.val (.int .u8 z)) (u_kind (i:=z) ae)) ?_;refine VO.cB aa aa (fk Tryz.func49) (λcV dS ea=>qK _ _ _ z _ Gq 61 cV (kP.bS (cW 61) ea) (hts.iI (iB 61) ea) ae) (λcV dS ea w3 dH eV _ bb3=>wV aa ?_);refine af ?_;refine VO.read aa [.slice pc Nc cc] aa (ft (TB.cell (j:=22) aa)) (wV aa ?_);refine af ?_;refine VO.cB aa aa (fk Tryz.func50) (λey eU fc=>vD _ _ _ 1 _ Gq 61 ey (kP.bS (cW 61) fc) (hts.iI (iB 61) fc)) (λey eU fc w4 gj jc _ mw=>wV aa ?_);refine af ?_;refine VS.back (8-(z+1)) ae ⟨_,_,?_,?_,?_,?_,⟨z+1,ae,aa,aa,aa⟩⟩
  ·refine⟨aa,aa,aa,?_,aj⟩;rw[<-Rr (i:=z) ae];rfl
  ·exact di
  ·rfl
  ·exact fv
 refine VS.aO aa (az (show ¬ (z:Int)-1<7 by omega)) ?_;refine af ?_
 refine VS.Jq (J:=λm L W=>∃ z:Nat,z<=44/\m=44-z/\L=[(0,.bool false),(7,.int .i64 ((z:Int)-1))]/\aD w W)
  (λW=>Gv Tryz.prog W 160) (λ_=>rfl) (λ_=>rfl) (λ_=>aD.refl _) 44 (λw' β k' o en=>⟨[(0,.bool false),(7,.int .i64 (((0:Nat):Int)-1))],⟨⟨_,_,rfl,rfl,rfl⟩,⟨_,_,rfl,rfl,rfl⟩,aj⟩,0,ae,rfl,rfl,pQ.aN o⟩) ?_
 rintro m L W ⟨z,hz,rfl,rfl,Ce⟩;refine fF ?_;by_cases hlt:z<44
 ·refine VS.aR aa (aw (show (z:Int)-1<43 by omega)) ?_;refine fF ?_;refine VO.Fi (cW 2) (dst:=66) (t:=64) (es:=VT) aa aa aa (bF aa) (bF aa) aa (λbf β cK bK ho=>⟨fk DT,(sc bf).mono ?_⟩);rintro o w2 ⟨r,rfl,Tn,bu⟩;refine⟨_,aa,bu,Tn,λk2 _ b2 dJ=>(by cases dJ),λcc2 vs2 spd2 dW _ bb2 qk hsp2 hcn2 GW TE=>wV aa ?_⟩;obtain⟨v1,v2,rfl,⟨nmA,sA,pA,nA,cA,tA,yA,mA,dA,rfl,-,hA⟩,⟨nmB,sB,pB,nB,cB,tB,yB,mB,dB,rfl,-,hB⟩⟩:=Oq qk;refine fF ?_;refine VO.cR aa aa (fk qf) (λcV dS ea=>gg ((z:Int)-1) 1 cV ae ae ae ae) (λcV dS ea w3 s3 p3 n3 c3 t3 y3 m3 d3 q3 dH eV _ bb3=>wV aa ?_);refine fF ?_;refine VO.cond aa eL ?_;refine wV aa ?_;refine fF ?_;refine VO.cond aa (show (12:Nat)<=List.length (spd2.map AV.val)+12 from Nat.le_add_left _ _) ?_;refine wV aa ?_;refine fF ?_;refine VO.call aa aa (fk uI) (λey eU fc=>(jb ((z:Int)-1) 7 ey ae ae ae ae).mono ?_);rintro e w4 ⟨r4,rfl,q4,gj⟩;obtain⟨g4,rfl⟩:=q4.form;refine Jy gj ?_;intro jc _ mw;refine VO.call aa aa (fk uI) (λgn iz iZ=>(jb 1 ((z:Int)-1) gn ae ae ae ae).mono ?_);rintro e w5 ⟨r5,rfl,q5,je⟩;obtain⟨g5,rfl⟩:=q5.form;refine Jy je ?_;intro nw _ um;refine VO.call aa aa (fk uI) (λjL my nV=>(jb 0 1 jL ae ae ae ae).mono ?_);rintro e w6 ⟨r6,rfl,q6,oY⟩;obtain⟨g6,rfl⟩:=q6.form;refine⟨_,aa,oY,λsq _ xT=>wV aa ?_⟩
  (repeat (first|refine wN ?_|refine wP aa ?_|refine wO aa aa ?_))
  refine VS.pK (λw=>Gv Tryz.prog w 160) (λ_=>aa) (λ_=>aa) (λ_=>aD.refl _) (λw9 β9 k9 b9 en9=> ?_);have b9':aD W w9:=b9;have Fu:bh (fu 2) 6 w9 (.slice (some ⟨β9 66,0,none⟩) 2 cc2) [(1,Rat.divInt 0 1),(6,Rat.divInt ((z:Int)-1) 1)]:=fU (cW 2) (en9.own 66 _ _ aa) (spd2.map .val) (vs:=[[.string nmA,.int .u8 1,.bool sA,.slice pA nA cA,.bool tA,.slice yA mA dA],[.string nmB,.int .u8 6,.bool s3,.slice p3 n3 c3,.bool t3,.slice y3 m3 d3]]) (by rfl) (.cons (fu.mk (k:=1) eL (hA.kp (kQ (w0:=W) (N:=160)))) (.cons (fu.mk (k:=6) eL (q3.ki (aM ae ae ae ae) (kQ (w0:=W) (N:=160)))) .nil)) aa hcn2 GW;have htsZ:=(fU (E:=λ_=>gI 2 w9) vZ (en9.own 77 _ _ aa) [] (vs:=[[.slice (some ⟨g4,0,none⟩) 1 1],[.slice (some ⟨g5,0,none⟩) 1 1],[.slice (some ⟨g6,0,none⟩) 1 1]]) (by rfl) (.cons (q4.kp (show bg (Gv Tryz.prog W 160).K w4 w9 from bm) aa aa).NV (.cons (q5.kp (show bg (Gv Tryz.prog W 160).K w5 w9 from bm) aa aa).NV (.cons (q6.kp (show bg (Gv Tryz.prog W 160).K w6 w9 from bm) aa aa).NV .nil))) aa (bl _) (show (3:Nat)<=9223372036854775807 by omega)).mono (E':=gI 2) (λ_ _ _ _ h=>h);refine⟨[(0,.val (.bool false)),(7,.val (.int .i64 ((z:Int)-1))),(8,.val (.slice (some ⟨β9 66,0,none⟩) 2 cc2)),(9,.val (.slice (some ⟨β9 77,0,none⟩) 3 3))],⟨⟨_,_,aa,aa,aa⟩,⟨_,_,aa,aa,aa⟩,⟨_,_,aa,aa,aa⟩,⟨_,_,aa,aa,aa⟩,aj⟩,?_⟩;generalize β9 66=gA at Fu ⊢;generalize β9 77=gB at htsZ ⊢;refine fF ?_;refine VO.cB aa aa (fk yg) (λpS uy rR=>fE _ _ 0 _ _ 2 pS (Fu.bS (cW 2) rR) (htsZ.iI (iB 2) rR)) (λpS uy rR w7 ER Dv _ Qa=>wV aa ?_);refine fF ?_;refine VO.fix 87 aa (ak (λz=>AV.val (.int .u8 z)) (u_kind (i:=z) ae)) ?_;refine VO.cB aa aa (fk Tryz.func49) (λtd Cr xG=>qK _ _ 0 z _ _ 2 td (Fu.bS (cW 2) xG) (htsZ.iI (iB 2) xG) ae) (λtd Cr xG w8 Bz Cs _ Sw=>wV aa ?_);refine fF ?_;have Uz:∀ (w':World),aD w9 w'->aD w w':=λw' h=>(Ce.aN b9').aN h;by_cases h9:((z:Int)-1).tmod 9=0
  ·refine VO.fix 95 aa (ak (λb=>AV.val (.bool b)) (BR h9)) ?_;refine fF ?_;refine VO.cB aa aa (fk Tryz.func50) (λAA Nd Dw=>vD _ _ 0 0 _ _ 2 AA (Fu.bS (cW 2) Dw) (htsZ.iI (iB 2) Dw)) (λAA Nd Dw w9 Dg GK _ bb9=>wV aa ?_);refine fF ?_;refine VS.vC aa (44-(z+1)) ae (λw' dQ k' o' Ha=>⟨[(0,.bool false),(7,.int .i64 (((z+1:Nat):Int)-1))],⟨⟨_,_,aa,aa,aa⟩,⟨_,_,aa,ak (λz=>Value.int .i64 z) (Rr (i:=z) ae),aa⟩,aj⟩,z+1,ae,aa,aa,Uz _ o'⟩)
  ·refine VO.fix 95 aa (ak (λb=>AV.val (.bool b)) (zj h9)) ?_;refine fF ?_;refine VS.vC aa (44-(z+1)) ae (λw' dQ k' o' Ha=>⟨[(0,.bool false),(7,.int .i64 (((z+1:Nat):Int)-1))],⟨⟨_,_,aa,aa,aa⟩,⟨_,_,aa,ak (λz=>Value.int .i64 z) (Rr (i:=z) ae),aa⟩,aj⟩,z+1,ae,aa,aa,Uz _ o'⟩)
 refine VS.aO aa (az (show ¬ (z:Int)-1<43 by omega)) ?_;refine fF ?_;refine VS.loop (J:=λm L M w'=>∃ (z:Nat) (X:AV) (Mi:List (Nat×(TypeId×List AV))) (vs:List Value),z<=41/\m=41-z/\L=[(0,.val (.bool false)),(10,X),(11,.val (.int .i64 (z:Int)))]/\M=Mi/\eF VE 1 52 109 X Mi w' vs/\vs.length=z/\∀ (i:Nat) (v:Value),vs[i]? =some v->xN w' v 0 (Rat.divInt 1 1) (Rat.divInt 1 1)) 41 ⟨_,_,?_,?_,?_,?_,⟨0,_,[],[],ae,aa,aa,aa,.inl ⟨aa,aa,aa⟩,aa,λi v hi=>(by simp at hi)⟩⟩ ?_
 ·exact di
 ·exact di
 ·rfl
 ·exact fv
 rintro m L Mi wJ ⟨y,X,Mi2,zL,hy,rfl,rfl,rfl,hR,hlen,hF⟩;refine VS.now (λwX kN bN=> ?_);replace hF:∀ (i:Nat) (v:Value),zL[i]? =some v->xN wX v 0 (Rat.divInt 1 1) (Rat.divInt 1 1):=λi v hi=>(hF i v hi).kp kN aa aa;replace hR:=hR.kp dR (bg.fq kN);refine VS.mask [108] (by rcases hR with ⟨_,rfl,rfl⟩|⟨_,_,_,_,rfl,rfl,_⟩ <;> (repeat first|exact aj|refine⟨aa,?_⟩)) ?_;refine fF ?_;by_cases hlt4:y<41
 ·refine VS.aR aa (aw (show (y:Int)<41 by omega)) ?_;refine fF ?_;refine VO.call aa aa (fk uI) (λbf cK bK=>(jb 1 1 bf ae ae ae ae).mono ?_);rintro e w2 ⟨r2,rfl,q2,bu⟩;obtain⟨g2,rfl⟩:=q2.form;refine Jy bu ?_;intro dW _ bb2;have iq:VE w2 [.slice (some ⟨g2,0,none⟩) 1 1] (.slice (some ⟨g2,0,none⟩) 1 1):=⟨aa,_,_,_,aa⟩;have hnF:∀ (w9':World),KZ TQ w2 w9'->∀ (i:Nat) (v:Value),(zL++[.slice (some ⟨g2,0,none⟩) 1 1])[i]? =some v->xN w9' v 0 (Rat.divInt 1 1) (Rat.divInt 1 1):=λw9' k'=>Gj (P:=λv=>xN w9' v 0 (Rat.divInt 1 1) (Rat.divInt 1 1)) (λi v hi=>(hF i v hi).kp ((show KZ TQ wX w2 from bm).aN k') aa aa) (q2.kp k' aa aa).zero;rcases hR with ⟨dJ,rfl,rfl⟩|⟨n',c',vs,sp,rfl,rfl,iU⟩
  ·refine VO.jg (xQ _ _) dR (t:=80) (e:=52) (s:=108) (a:=.slice (some ⟨g2,0,none⟩) 1 1) (cs:=[.slice (some ⟨g2,0,none⟩) 1 1]) aa aa aa aa aa aa aa aa (bF aa) aa aa aa iq ae (λw9 cap sp k9 b9 gh=>wV aa ?_);refine fF ?_;refine VS.back (41-(y+1)) ae ⟨_,_,?_,?_,?_,?_,⟨y+1,_,_,zL++[.slice (some ⟨g2,0,none⟩) 1 1],ae,aa,aa,aa,.inr ⟨1,cap,_,sp,aa,aa,by rw[dJ];exact gh⟩,by rw[fH,hlen];rfl,hnF _ bm⟩⟩
   ·(refine⟨aa,aa,?_,aj⟩;rw[<-aA (i:=y) ae];rfl)
   ·(repeat first|exact aj|refine⟨aa,?_⟩|refine⟨ak (λl=>some (_,l)) (ba (by first|exact bW.dN (by assumption)|exact ah _|(rw[<-aQ];exact ah _)) _ _),?_⟩)
   ·rfl
   ·(repeat first|exact aj|refine⟨aq.lit aa,?_⟩|refine⟨bW.mg (by assumption),?_⟩|refine⟨aq.append (.vals _) (.vals _),?_⟩|refine⟨aq.vals _,?_⟩)
  ·have nY:=iU.len;refine VO.jh (xQ _ _) dR (t:=80) (e:=52) (s:=108) (i:=109) (n:=n') (c:=c') (vs:=vs) (sp:=sp) (es:=zL) (a:=.slice (some ⟨g2,0,none⟩) 1 1) (cs:=[.slice (some ⟨g2,0,none⟩) 1 1]) aa aa aa aa aa aa aa aa (bF aa) aa (.inr aa) aa (iU.kp dR (bg.fq (show bg (Gv Tryz.prog W 160).K wX w2 from bm))) aa iq ae (λw9 il qH ρ k9 b9 gH gh=>wV aa ?_);refine fF ?_;refine VS.back (41-(y+1)) ae ⟨_,_,?_,?_,?_,?_,⟨y+1,_,_,zL++[.slice (some ⟨g2,0,none⟩) 1 1],ae,aa,aa,aa,.inr ⟨n' +1,il,_,qH,aa,aa,by rw[show zL=zL from aa];exact gh⟩,by rw[fH,hlen];rfl,hnF _ bm⟩⟩
   ·(refine⟨aa,aa,?_,aj⟩;rw[<-aA (i:=y) ae];rfl)
   ·(repeat first|exact aj|refine⟨aa,?_⟩|refine⟨ak (λl=>some (_,l)) (ba (by first|exact bW.dN (by assumption)|exact ah _|(rw[<-aQ];exact ah _)) _ _),?_⟩)
   ·rfl
   ·(repeat first|exact aj|refine⟨aq.lit aa,?_⟩|refine⟨bW.mg (by assumption),?_⟩|refine⟨aq.append (.vals _) (.vals _),?_⟩|refine⟨aq.vals _,?_⟩)
 refine VS.aO aa (az (show ¬ (y:Int)<41 by omega)) ?_;obtain rfl:y=41:=ae;refine VS.pK (λw=>Gv Tryz.prog w 160) (λ_=>aa) (λ_=>aa) (λ_=>aD.refl _) (λBQ yV k1 b1 OS=> ?_);have km:aD w BQ:=Ce.aN b1;have fx:=hR.told dR OS (by intro q hq;rcases hR with ⟨_,rfl,rfl⟩|⟨_,_,_,_,rfl,rfl,_⟩ <;> first|(cases hq;done)|(cases ay.1 hq;rfl)) k1.fq 0 (λ_=>eK _);obtain⟨mt,hmt⟩:∃ mt:List DB,mt=List.replicate 41 [[Rat.divInt 1 1,Rat.divInt 1 1]]:=⟨_,aa⟩
 have Ou:bh (gI 2) 1 BQ (X.bH yV) mt:=zM (fx.sl dR) (by rw[hlen,hmt,DJ]) (λi u a hi ha=>by
  rw[hmt] at ha;rw[(Ll.1 (dz ha)).2];exact ((hF i u hi).kp k1 aa aa).NV)
 refine⟨[(0,.val (.bool false)),(10,.val (X.bH yV))],⟨⟨_,_,aa,aa,aa⟩,⟨_,_,aa,aa,aa⟩,aj⟩,?_⟩;generalize X.bH yV=tv at Ou ⊢;obtain⟨ptv,ctv,rfl⟩:=Ou.sl;clear hF hR fx OS k1 b1 bN kN;refine fF ?_;refine VO.Fi (cW 2) (dst:=110) (t:=64) (es:=VT) aa aa aa (bF aa) (bF aa) aa (λbf β cK bK ho=>⟨fk DT,(sc bf).mono ?_⟩);rintro o w2 ⟨r,rfl,Tn,bu⟩;refine⟨_,aa,bu,Tn,λk2 _ b2 dJ=>(by cases dJ),λcc2 vs2 spd2 dW _ bb2 qk hsp2 hcn2 GW TE=>wV aa ?_⟩;obtain⟨v1,v2,rfl,⟨nmA,sA,pA,nA,cA,tA,yA,mA,dA,rfl,-,hA⟩,⟨nmB,sB,pB,nB,cB,tB,yB,mB,dB,rfl,-,hB⟩⟩:=Oq qk;refine fF ?_;refine VO.cR aa aa (fk qf) (λcV dS ea=>gg 1 2 cV ae ae ae ae) (λcV dS ea w3 s3 p3 n3 c3 t3 y3 m3 d3 q3 dH eV _ bb3=>wV aa ?_);refine fF ?_;refine VO.cond aa eL ?_;refine wV aa ?_;refine fF ?_;refine VO.cond aa (show (12:Nat)<=List.length (spd2.map AV.val)+12 from Nat.le_add_left _ _) ?_;refine wV aa ?_
 (repeat (first|refine wN ?_|refine wP aa ?_|refine wO aa aa ?_))
 refine VS.pK (λw=>Rs Tryz.prog w 160) (λ_=>aa) (λ_=>aa) (λ_=>aD.refl _) (λw9 β9 k9 b9 en9=> ?_);have b9':aD BQ w9:=b9;have Fu:bh (fu 2) 6 w9 (.slice (some ⟨β9 110,0,none⟩) 2 cc2) [(1,Rat.divInt 0 1),(6,Rat.divInt 1 2)]:=fU (cW 2) (en9.own 110 _ _ aa) (spd2.map .val) (vs:=[[.string nmA,.int .u8 1,.bool sA,.slice pA nA cA,.bool tA,.slice yA mA dA],[.string nmB,.int .u8 6,.bool s3,.slice p3 n3 c3,.bool t3,.slice y3 m3 d3]]) (by rfl) (.cons (fu.mk (k:=1) eL (hA.kp (kQ (w0:=BQ) (N:=160)))) (.cons (fu.mk (k:=6) eL (q3.ki (aM ae ae ae ae) (kQ (w0:=BQ) (N:=160)))) .nil)) aa hcn2 GW;refine⟨[(0,.val (.bool false)),(10,.val (.slice ptv mt.length ctv)),(12,.val (.slice (some ⟨β9 110,0,none⟩) 2 cc2))],⟨⟨_,_,aa,aa,aa⟩,⟨_,_,aa,aa,aa⟩,⟨_,_,aa,aa,aa⟩,aj⟩,?_⟩;have Ou:bh (gI 2) 1 w9 (.slice ptv mt.length ctv) mt:=Ou.iI (iB 2) b9';replace km:=km.aN b9';generalize β9 110=gA at Fu ⊢;clear en9 k9 b9 q3 hA hB qk TE hsp2 Tn dW bb2;refine zT ?_;refine VO.call aa aa (fk DT) (λVW ka20 ba20=>(sc VW).mono ?_);rintro e w20 ⟨r20,rfl,q20,NX⟩;obtain⟨p20,c20,rfl⟩:=q20.form;refine vH NX ?_;intro kb20 _ bb20;refine VO.cB aa aa (fk yg) (λKA ka21 VX=>fE _ _ 0 VT mt 2 KA ((q20.kp (cW 2) (show bg (Rs Tryz.prog w9 160).K w20 KA from bm) aa).sl (cW 2)) (Ou.iI (iB 2) VX)) (λKA ka21 VX w21 hb21 kb21 _ bb21=>wV aa ?_);refine zT ?_;refine VO.call aa aa (fk uI) (λQI ka22 ba22=>(jb 1 1 QI ae ae ae ae).mono ?_);rintro e w22 ⟨r22,rfl,q22,hb22⟩;obtain⟨g22,rfl⟩:=q22.form;refine vH hb22 ?_;intro kb22 _ bb22;refine VO.eX aa (fk yg) (λVY β ka23 ba23 ho=>(fE _ _ 1 _ [[[Rat.divInt 1 1,Rat.divInt 1 1]]] 2 VY (Fu.bS (cW 2) ba23) ((fU (E:=λ_=>gI 2 VY) vZ (ho.own 121 (.base (by simp[gl,AV.ids])) _ _ aa) [] (vs:=[[.slice (some ⟨g22,0,none⟩) 1 1]]) (by rfl) (.cons (q22.kp (show bg (Rs Tryz.prog w9 160).K w22 VY from bm) aa aa).NV .nil) aa (bl _) (show (1:Nat)<=9223372036854775807 by omega)).mono (E':=gI 2) (λ_ _ _ _ h=>h))).mono ?_);rintro o w23 ⟨rfl,hb23⟩;refine vH hb23 ?_;intro kb23 _ bb23;refine VO.call aa aa (fk DT) (λwa24 ka24 ba24=>(sc wa24).mono ?_);rintro e w24 ⟨r24,rfl,q24,hb24⟩;obtain⟨p24,c24,rfl⟩:=q24.form;refine vH hb24 ?_;intro kb24 _ bb24;refine VO.call aa aa (fk uI) (λwa25 ka25 ba25=>(jb 1 1 wa25 ae ae ae ae).mono ?_);rintro e w25 ⟨r25,rfl,q25,hb25⟩;obtain⟨g25,rfl⟩:=q25.form;refine vH hb25 ?_;intro kb25 _ bb25;refine VO.eX aa (fk yg) (λQJ β ka26 ba26 ho=>(fE _ _ 1 VT [[[Rat.divInt 1 1,Rat.divInt 1 1]],[]] 2 QJ ((q24.kp (cW 2) (show bg (Rs Tryz.prog w9 160).K w24 QJ from bm) aa).sl (cW 2)) ((fU (E:=λ_=>gI 2 QJ) vZ (ho.own 128 (.base (by simp[gl,AV.ids])) _ _ aa) [] (vs:=[[.slice (some ⟨g25,0,none⟩) 1 1],[.slice none 0 0]]) (by rfl) (.cons (q25.kp (show bg (Rs Tryz.prog w9 160).K w25 QJ from bm) aa aa).NV (.cons ⟨_,aa,(bh.nil _ _ _:bh (lR 2) 1 _ (.slice none 0 0) [])⟩ .nil)) aa (bl _) (show (2:Nat)<=9223372036854775807 by omega)).mono (E':=gI 2) (λ_ _ _ _ h=>h))).mono ?_);rintro o w26 ⟨rfl,hb26⟩;refine vH hb26 ?_;intro kb26 _ bb26;refine VO.call aa aa (fk DT) (λwa27 ka27 ba27=>(sc wa27).mono ?_);rintro e w27 ⟨r27,rfl,q27,hb27⟩;obtain⟨p27,c27,rfl⟩:=q27.form;refine vH hb27 ?_;intro kb27 _ bb27;obtain⟨_,_,e27,_,h27⟩:=(q27.sl (cW 2)).form;cases e27;refine VO.cond aa ⟨eL,eL,Int.ofNat_le.2 (bG (show 1<=VT.length by decide) (by assumption)),Int.ofNat_le.2 h27⟩ ?_;refine VO.fix 133 aa (ak AV.val (Jo _ _ _ _ 1)) ?_;refine wV aa ?_;refine zT ?_;refine VO.call aa aa (fk uI) (λwa28 ka28 ba28=>(jb 1 1 wa28 ae ae ae ae).mono ?_);rintro e w28 ⟨r28,rfl,q28,hb28⟩;obtain⟨g28,rfl⟩:=q28.form;refine vH hb28 ?_;intro kb28 _ bb28;refine VO.eX aa (fk yg) (λwa29 β ka29 ba29 ho=>(fE _ _ 1 (VT.take 1) [[[Rat.divInt 1 1,Rat.divInt 1 1]]] 2 wa29 (bh.take ((q27.kp (cW 2) (show bg (Rs Tryz.prog w9 160).K w27 wa29 from bm) aa).sl (cW 2)) eL) ((fU (E:=λ_=>gI 2 wa29) vZ (ho.own 135 (.base (by simp[gl,AV.ids])) _ _ aa) [] (vs:=[[.slice (some ⟨g28,0,none⟩) 1 1]]) (by rfl) (.cons (q28.kp (show bg (Rs Tryz.prog w9 160).K w28 wa29 from bm) aa aa).NV .nil) aa (bl _) (show (1:Nat)<=9223372036854775807 by omega)).mono (E':=gI 2) (λ_ _ _ _ h=>h))).mono ?_);rintro o w29 ⟨rfl,hb29⟩;refine vH hb29 ?_;intro kb29 _ bb29;refine VO.litE (KS _ _) (sz:=4) [] [] aa aa aa aa aa aa aa aa aa aa eL (λw30 b30 k30 bb30 hB30 hc30=>wV aa ?_);refine zT ?_;refine VO.litE (KS _ _) (sz:=1) [.slice none 0 0,.slice (some ⟨b30,0,none⟩) 0 0] [.slice none 0 0,.slice (some ⟨b30,0,none⟩) 0 0] aa aa aa aa aa aa aa aa aa aa eL (λw31 b31 k31 bb31 hB31 hc31=>wV aa ?_);refine zT ?_;refine VO.eX aa (fk yg) (λQO β ka32 ba32 ho=>(fE _ _ 2 [] [[[],[]]] 2 QO (bh.nil _ _ _) ((fU (E:=λ_=>gI 2 QO) vZ (ho.own 142 (.base (by simp[gl,AV.ids])) _ _ aa) [] (vs:=[[.slice (some ⟨b31,0,none⟩) 2 2]]) (by rfl) (.cons ⟨_,aa,(oy (E:=λ_=>lR 2 QO) FM (vs:=[[.slice none 0 0],[.slice (some ⟨b30,0,none⟩) 0 0]]) (spare:=[]) ((show bg (Rs Tryz.prog w9 160).K w31 QO from bm).block _ b31 _ aa aj hc31) (.cons ⟨_,aa,bh.nil _ _ _⟩ (.cons ⟨_,aa,⟨_,_,aa,bl _,eL,λi a hi=>(by simp at hi)⟩⟩ .nil)) aa (bl _) (show (2:Nat)<=9223372036854775807 by omega)).mono (λ_ _ _ _ h=>h)⟩ .nil) aa (bl _) (show (1:Nat)<=9223372036854775807 by omega)).mono (E':=gI 2) (λ_ _ _ _ h=>h))).mono ?_);rintro o w32 ⟨rfl,hb32⟩;refine vH hb32 ?_;intro kb32 _ bb32;refine VO.cB aa aa (fk yg) (λwa33 ka33 ba33=>fE _ _ 0 [] [] 2 wa33 (bh.nil _ _ _) (bh.nil _ _ _)) (λwa33 ka33 ba33 w33 hb33 kb33 _ bb33=>wV aa ?_);refine zT ?_;refine VO.cB aa aa (fk Tryz.func53) (λwa34 ka34 ba34=>vB _ [] 2 wa34 (bh.nil _ _ _)) (λwa34 ka34 ba34 w34 MS kb34 _ bb34=>wV aa ?_);refine zT ?_;refine VO.eX aa (fk Tryz.func53) (λwa35 β ka35 ba35 ho=>(vB _ [azero,azero] 2 wa35 (fU (re 2) (ho.own 154 (.base (by simp[gl,AV.ids])) _ _ aa) [] (vs:=[[.bool false,.slice none 0 0,.bool false,.slice none 0 0,.bool false,.slice none 0 0,.bool false,.slice none 0 0,.bool false,.slice none 0 0,.bool false,.slice none 0 0,.bool false,.slice none 0 0,.bool false,.slice none 0 0,.bool false,.slice none 0 0,.bool false,.slice none 0 0,.bool false,.slice none 0 0,.bool false,.slice none 0 0,.bool false,.slice none 0 0,.bool false,.slice none 0 0],[.bool false,.slice none 0 0,.bool false,.slice none 0 0,.bool false,.slice none 0 0,.bool false,.slice none 0 0,.bool false,.slice none 0 0,.bool false,.slice none 0 0,.bool false,.slice none 0 0,.bool false,.slice none 0 0,.bool false,.slice none 0 0,.bool false,.slice none 0 0,.bool false,.slice none 0 0,.bool false,.slice none 0 0,.bool false,.slice none 0 0,.bool false,.slice none 0 0]]) (by rfl) (.cons (Ot _ _) (.cons (Ot _ _) .nil)) aa (bl _) (show (2:Nat)<=9223372036854775807 by omega))).mono ?_);rintro o w35 ⟨rfl,Kj⟩;refine vH Kj ?_;intro kb35 _ bb35;refine VO.cB aa aa (fk jH) (λwa36 ka36 ba36=>cY wa36) (λwa36 ka36 ba36 w36 hb36 kb36 _ bb36=>wV aa ?_);refine zT ?_;refine VS.ret (KS _ _) aa aa (λwz kz bz=> ?_);exact⟨aa,km.aN bz⟩
end
end Go.Proofs.YtlifeokjcgngjaaGreat
