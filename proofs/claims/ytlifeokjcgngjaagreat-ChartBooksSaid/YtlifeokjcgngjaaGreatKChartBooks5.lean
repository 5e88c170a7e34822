/-BN of the proof,laid behind one another. -/
import Derived.Test.YtlifeokjcgngjaaGreatKChartBooks4
import Derived.Shelf.Sort.Plain
import Derived.Shelf.Slices.In.SortNone
import Derived.Sort.OwnSorted
import Derived.Test.YtlifeokjcgngjaaGreatProg
set_option linter.all false
set_option maxHeartbeats 64000000
namespace Go.Proofs.YtlifeokjcgngjaaGreat
section
open Go.Shelf
def QH:Go.Shelf.Ren:=⟨λ|190=>130|125=>189|258=>188|128=>257|129=>258|302=>248|303=>249|304=>250|305=>251|306=>252|307=>253|308=>254|309=>255|310=>256|333=>290|329=>291|330=>292|334=>293|335=>294|336=>295|344=>312|n=>n,λ|31=>29|9=>9|3=>3|46=>251|0=>0|51=>78|53=>250|4=>4|183=>356|182=>355|131=>361|5=>5|218=>390|222=>394|228=>409|229=>410|n=>n,λ|n=>n⟩
theorem Df:Go.Proofs.Lays.n190 Tryz.prog QH:={
 mixed:=by kernel_rfl
 f125:=Tryz.func189.trans (au some (by kernel_rfl))
 f128:=Tryz.func257.trans (au some (by kernel_rfl))
 f129:=Tryz.func258.trans (au some (by kernel_rfl))
 f190:=Tryz.func130.trans (au some (by kernel_rfl))
 f258:=Tryz.func188.trans (au some (by kernel_rfl))
 f302:=Tryz.func248.trans (au some (by kernel_rfl))
 f303:=Tryz.func249.trans (au some (by kernel_rfl))
 f304:=Tryz.func250.trans (au some (by kernel_rfl))
 f305:=Tryz.func251.trans (au some (by kernel_rfl))
 f306:=Tryz.func252.trans (au some (by kernel_rfl))
 f307:=Tryz.func253.trans (au some (by kernel_rfl))
 f308:=Tryz.func254.trans (au some (by kernel_rfl))
 f309:=Tryz.func255.trans (au some (by kernel_rfl))
 f310:=Tryz.func256.trans (au some (by kernel_rfl))
 f329:=Tryz.func291.trans (au some (by kernel_rfl))
 f330:=Tryz.func292.trans (au some (by kernel_rfl))
 f333:=Tryz.func290.trans (au some (by kernel_rfl))
 f334:=Tryz.func293.trans (au some (by kernel_rfl))
 f335:=Tryz.func294.trans (au some (by kernel_rfl))
 f336:=Tryz.func295.trans (au some (by kernel_rfl))
 f344:=Tryz.func312.trans (au some (by kernel_rfl))
 t0:=Tryz.underlying0
 a0:=Tryz.isAgg0
 z0:=Tryz.sizeOf0
 v0:=Tryz.zeroValue0
 t3:=yL
 a3:=Tryz.isAgg3
 z3:=Tryz.sizeOf3
 v3:=Tryz.zeroValue3
 t4:=Tryz.underlying4
 a4:=Tryz.isAgg4
 z4:=Tryz.sizeOf4
 v4:=Tryz.zeroValue4
 t5:=Tryz.underlying5
 a5:=Tryz.isAgg5
 z5:=Tryz.sizeOf5
 v5:=Tryz.zeroValue5
 t9:=ln
 a9:=Tryz.isAgg9
 z9:=Tryz.sizeOf9
 v9:=Tryz.zeroValue9
 t31:=Tryz.underlying29
 a31:=Tryz.isAgg29
 z31:=Tryz.sizeOf29
 v31:=Tryz.zeroValue29
 t46:=Tryz.underlying251
 a46:=Tryz.isAgg251
 z46:=Tryz.sizeOf251
 v46:=Tryz.zeroValue251
 t51:=Tryz.underlying78
 a51:=Tryz.isAgg78
 z51:=Tryz.sizeOf78
 v51:=Tryz.zeroValue78
 t53:=Tryz.underlying250
 a53:=Tryz.isAgg250
 z53:=Tryz.sizeOf250
 v53:=Tryz.zeroValue250
 t131:=Tryz.underlying361
 a131:=Tryz.isAgg361
 z131:=Tryz.sizeOf361
 v131:=Tryz.zeroValue361
 t182:=Tryz.underlying355
 a182:=Tryz.isAgg355
 z182:=Tryz.sizeOf355
 v182:=Tryz.zeroValue355
 t183:=Tryz.underlying356
 a183:=Tryz.isAgg356
 z183:=Tryz.sizeOf356
 v183:=Tryz.zeroValue356
 t218:=Tryz.underlying390
 a218:=Tryz.isAgg390
 z218:=Tryz.sizeOf390
 v218:=Tryz.zeroValue390
 t222:=Tryz.underlying394
 a222:=Tryz.isAgg394
 z222:=Tryz.sizeOf394
 v222:=Tryz.zeroValue394
 t228:=Tryz.underlying409
 a228:=Tryz.isAgg409
 z228:=Tryz.sizeOf409
 v228:=Tryz.zeroValue409
 t229:=Tryz.underlying410
 a229:=Tryz.isAgg410
 z229:=Tryz.sizeOf410
 v229:=Tryz.zeroValue410 }
end
set_option maxRecDepth 4000
section
open Go.RowKit Go.Sort
attribute [local irreducible] aE VS
def ed (_:World) (cs:List Value) (s:ByteArray):Prop:=cs=[.string s]
theorem ba:gp ed 1 where
 kp:=λh _=>h
 len:=λh=>by rw[show _=_ from h];rfl
 ok:=λh=>by rw[show _=_ from h];rfl
theorem mE:∀ (ss:List ByteArray),(ss.map λs=>[Value.string s]).flatten=ss.map Value.string
 | []=>rfl
 | x::r=>by rw[mf,ql,mE r];rfl
theorem yD (w:World):∀ (ss:List ByteArray),cw ed w ss (ss.map λs=>[Value.string s])
 | []=>.nil
 | x::r=>.cons rfl (yD w r)
def fq (ss:List ByteArray):List ByteArray:=((ss.map (·.data.toList)).mergeSort λx y=>decide (x<=y)).map λl=>⟨l.toArray⟩
theorem pj (ss:List ByteArray):(fq ss).length=ss.length:=by unfold fq;simp
theorem Ez {d:List (List UInt8)} {X sp:List Value} (h:X.length=d.length):putCells encStr 0 d.toArray (X++sp).toArray=(d.map encStr++sp).toArray:=by
 apply Array.ext_getElem?;intro k;by_cases hk:k<d.length
 ·simp[putCells,hk,h,List.getElem?_append_left]
 ·simp[putCells,hk,List.getElem?_append_right,h,Nat.not_lt.1 hk]
theorem Nt (b c:Nat) (ss:List ByteArray) (sp:List Value) (w:World) (hb:aQ w b 9 (ss.map Value.string++sp).toArray) (hn:ss.length<4611686018427387904):
  Calls Tryz.prog 130 #[.slice (some ⟨b,0,none⟩) ss.length c] w λe w'=>e=.returned (.tuple #[])/\dP [b] w w'/\aQ w' b 9 ((fq ss).map Value.string++sp).toArray:=by
 obtain⟨ls,hls⟩:∃ ls:List (List UInt8),ls=ss.map (·.data.toList):=⟨_,aa⟩;have hl:ls.length=ss.length:=by rw[hls,aM]
 have he:ls.map encStr=ss.map Value.string:=by rw[hls,oz];exact mW λs _=>cf
 have QI:((ss.map Value.string++sp).toArray).toList.take ls.length=ls.map encStr:=by
  rw[he,List.take_left' (by rw[aM,hl])]
 have h:=Any.slices_Sort_string Df b 0 c ls w (Go.holds_of_block hb QI) hb.lt ae;rw[hl] at h;refine h.mono ?_;rintro e w' ⟨rfl,n,os,rfl⟩;have hg:=Go.grownBy_sorted (w:=w) (g:=b) (n:=n) (os:=os) (ls.mergeSort λx y=>decide (x<=y)).toArray;refine⟨aa,⟨aa,aa,aa,cf,λg AX hn=> ?_⟩,?_⟩
 ·rw[heap_grow_old _ _ (by simpa using AX)];have:b≠g:=λe=>hn (by rw[e];exact ak.2 aa);simp[putRow,mapBlock,Sort.ahead,Array.getElem?_modify,this]
 ·have:=Go.heap_sorted (n:=n) (os:=os) (ls.mergeSort λx y=>decide (x<=y)).toArray hb;rw[Ez (by rw[aM,List.length_mergeSort,hl])] at this;refine Eq.trans this ?_;unfold fq;rw[<-hls,oz];rfl
set_option maxRecDepth 4000 in
theorem Ak (p:Option Addr) (N c:Nat) (ss:List ByteArray) (w:World) (hv:bK ed 1 w (.slice p N c) ss) (hN:N=ss.length) (hn:N<=1000000):
  Calls Tryz.prog 96 #[.slice p N c] w λo w'=>∃ r,o=.returned r/\ay ed 1 9 w.heap.size w' r ss/\ax w w':=by
 refine ai (C:=aY Tryz.prog w _) (args:=[_]) Tryz.func96 aa Tryz.ntmps96 (cG aa) ?_;refine ag ?_;cases p with
 | none=>
   have:ss=[]:=by
    cases ss with
    | nil=>rfl
    | cons x r=>
      obtain⟨_,_,_,h,_⟩:=hv.at (i:=0) (a:=x) aa;cases h
   subst this;refine ag ?_;refine ck ?_;intro wz kz bz;exact⟨_,aa,.inl ⟨aa,aa⟩,bz⟩
 | some a=>
   obtain⟨ab,ao,asl⟩:=a
   have hcell:∀ (j:Nat) (u:Value),(ss.map Value.string)[j]? =some u->w.cell? ⟨ab,ao+j,none⟩=some u/\asl=none:=λj u hj=>by
    rw[jq] at hj;obtain⟨x,hx,rfl⟩:=Ff.1 hj;obtain⟨b,off,cs,hp,hc,rfl⟩:=hv.at hx;cases hp;have:=hc 0 _ aa;rw[np,lz] at this;exact⟨this,aa⟩
   refine VS.bC aa aa ?_;refine ag ?_
   refine VO.app (bU _ _) (t:=29) (e:=9) (sz:=1) (n:=0) (c:=0) (mm:=N) (known:=[]) (spare:=[]) (del:=some 5) (news:=(ss.map Value.string).map .val) (dst:=7) aa aa aa aa aa aa aa aa (cG aa) aa (.inr ⟨5,aa,aa,aa⟩) (.inl aa) aa aa (aP _) ae ⟨aa,aa,ah _⟩ ⟨aa,aa,aL (bP.2 λx hx=>by obtain⟨y,_,rfl⟩:=ey.1 hx;rfl)⟩ (by rw[aM,aM,hN,np]) ae
    (λw1 β k1 b1 ho=>⟨_,_,rfl,by
     cases ss with
     | nil=>exact .inl hN
     | cons x r=>
       have h0:=hcell 0 _ aa;obtain⟨_,rfl⟩:=h0;exact .inr ⟨ab,ao,aa,λj u hj=>ax.cell b1 (hcell j u (by rwa [az] at hj)).1⟩⟩)
    (λiA cap bt ρ vC qE fo pJ lS kL EA xH=>wV rfl ?_)
   refine ag ?_;refine VS.oU (bU _ _) aa (λwz β kz bz en=> ?_);have o:=en.own 7 _ _ aa;have cZ:=o.cls;rw[ng,aF,az] at cZ;rw[ng,bg,aM,aM,np] at kL;refine⟨_,aa,.inr ⟨β 7,cap,ss.map λs=>[.string s],bt.map (AV.leaf β),by rw[<-hN,fe];rfl,o.new,?_,?_,fx EA,ae,lS,?_⟩,bz⟩
   ·rw[mE];exact cZ
   ·exact yD _ _
   ·rw[mE];rw[bg,aM,aM];omega
abbrev cxW (P:Program) (w:World) (N:Nat):Cx:={ P:=P,w0:=w,N:=N,K:=⟨UU,λ_=>True,λt=>Nat.beq t 9⟩,SU:=λt=>Nat.beq t 23,ti:=table,keep:=λ_ _=>trivial }
theorem JW (w:World) (N:Nat):(cxW Tryz.prog w N).Ok:=gn
section
variable {F F':Fr} {H H':Hp} {w w1:World} {N:Nat} {l':List Oper} {Q:Exit->Act->World->Prop} {k:List It} {id:Nat} {ops:Array Oper}
theorem cxW_r (e:kW (cxW Tryz.prog w1 N) ops 80 ops.toList F H=(l',F',H')) (h:aE (cxW Tryz.prog w1 N) none ops l' (VS (cxW Tryz.prog w1 N) Q k) F' H' w):VS (cxW Tryz.prog w1 N) Q (.code (.region id ops false)::k) F H w:=VS.region (JW _ _) (VO.run 80 e h)
end
theorem HI {w:World}:∀ {es:List ByteArray} {vs:List (List Value)},cw ed w es vs->vs=es.map λs=>[.string s]
 | [],_,.nil=>rfl
 | x::r,_,.cons h t=>by rw[show _=_ from h,HI t];rfl
theorem QJ {P Q:Prop} (h:Q) (i:Q->P:=by intro h;(repeat first|refine wN ?_|refine wP rfl ?_|refine cxW_r rfl ?_|refine cxW_d rfl ?_|refine wO rfl rfl ?_);exact h):P:=i h
theorem cTcxW {P Q X:Prop} (hb:X) (h:Q) (i:X->Q->P:=by intro hb h;refine⟨_,rfl,hb,λa b c=>wV rfl ?_⟩;refine QJ ?_;revert a b c;exact h):P:=i hb h
set_option maxRecDepth 4000 in
theorem JY (nm pa pB nB cB sT pT nT cT tT yT mT dT sC pC nC cC tC yC mC dC bk fw sI pI nI cI tI yI mI dI sF pF nF cF tF yF mF dF kp pc Nc cc pe Ne ce py Ny cy:_) (es:List ByteArray) (w:World) (hv:bK ed 1 w (.slice pe Ne ce) es) (hN:Ne=es.length) (hn:Ne<=1000000):
  Calls Tryz.prog 61 #[.agg #[.string nm,.string pa,.slice pB nB cB,.bool sT,.slice pT nT cT,.bool tT,.slice yT mT dT,.bool sC,.slice pC nC cC,.bool tC,.slice yC mC dC,.int .i64 bk,.int .i64 fw,.bool sI,.slice pI nI cI,.bool tI,.slice yI mI dI,.bool sF,.slice pF nF cF,.bool tF,.slice yF mF dF,.int .i64 kp,.slice pc Nc cc,.slice pe Ne ce,.slice py Ny cy]] w λo w'=>∃ r,o=.returned r/\ay ed 1 9 w.heap.size w' r (fq es)/\ax w w':=by
 refine ai (C:=cxW Tryz.prog w _) (args:=[_]) Tryz.func61 aa Tryz.ntmps61 (cG aa) ?_;refine QJ ?_;refine VO.call aa aa (fk Tryz.func96) (λcV eG db=>(Ak pe Ne ce es cV (hv.aA ba db) hN hn).mono ?_);rintro o w1 ⟨r1,rfl,q1,bF⟩;rcases q1 with ⟨rfl,rfl⟩|⟨b,cap,vs,sp,rfl,tJ,cZ,ik,mO,hle,gj,gR⟩
 ·refine cTcxW bF ?_;intro fM _ bb1;refine VO.call aa aa (fk Tryz.func130) (λeD gO fG=>(Any.slices_Sort_string_none Df none 0 eD).mono ?_);rintro o w2 ⟨rfl,rfl⟩;refine⟨_,aa,ax.refl _,λjH _ bb2=>wV aa ?_⟩;refine QJ ?_;refine VS.ret (JW _ _) aa aa (λwz kz bz=> ?_);exact⟨_,aa,.inl ⟨aa,by unfold fq;simp⟩,bz⟩
 ·refine⟨_,aa,bF,λfM _ bb1=>wV aa ?_⟩
  (repeat (first|refine wN ?_|refine wP aa ?_|refine wO aa aa ?_))
  refine VS.jG (JW _ _) 1 aa aa aa (VO.run 80 aa ?_);refine VO.nil ⟨_,_,_,λw=>aY Tryz.prog w 10,aa,aa,fk Tryz.func130,λ_=>aa,λ_=>aa,λ_=>ax.refl _,λw2 k2 b2=> ?_⟩;have Oe:=HI ik;rw[Oe,mE] at cZ gR;have ld:aQ w2 b 9 (es.map Value.string++sp).toArray:=k2.block _ b _ aa aj cZ;refine (Nt b cap es sp w2 ld ae).mono ?_;rintro o w3 ⟨rfl,ia,hcl3⟩;have ee:ax w w3:=dP.aA b2 ia (λx hx=>by rw[ak.1 hx];have:=db.size;omega);refine⟨_,[(3,.slice (some ⟨b,0,none⟩) es.length cap)],aa,⟨aa,aj⟩,λp hp e=> ?_,?_⟩
  ·rw[ak.1 hp] at e;cases e
  refine ag ?_;refine ck ?_;intro wz kz bz;have aB:=db.size;refine⟨_,aa,.inr ⟨b,cap,(fq es).map λs=>[.string s],sp,by rw[pj];rfl,ae,by rw[mE];exact hcl3.aA bz,yD _ _,mO,by rw[pj];exact hle,gj,?_⟩,ee.aG bz⟩;rw[mE,bg,aM,pj];rw[bg,aM] at gR;exact gR
def qd {α:Type} (P:α->Bool):List α->Int
 | []=> -1
 | x::r=>if P x=true then 0 else (if qd P r<0 then-1 else qd P r+1)
theorem EB {α:Type} {P:α->Bool}:∀ {l:List α} {z:Nat} {x:α},l[z]? =some x->(∀ (i:Nat) (y:α),i<z->l[i]? =some y->P y=false)->P x=true->qd P l=z
 | [],_,_,h,_,_=>by cases h
 | y::r,0,x,h,_,hx=>by
   cases h;unfold qd;rw[if_pos hx];rfl
 | y::r,z+1,x,h,hn,hx=>by
   have h0:=hn 0 y ae aa;have:=EB (l:=r) (z:=z) (x:=x) h (λi u hi hu=>hn (i+1) u ae hu) hx;unfold qd;rw[if_neg (by rw[h0];simp),this,if_neg ae];omega
theorem wG {α:Type} {P:α->Bool}:∀ {l:List α},(∀ (i:Nat) (y:α),l[i]? =some y->P y=false)->qd P l= -1
 | [],_=>rfl
 | y::r,hn=>by
   have h0:=hn 0 y aa;have:=wG (l:=r) (λi u hu=>hn (i+1) u hu);unfold qd;rw[if_neg (by rw[h0];simp),this,if_pos ae]
theorem JZ (v:Value) (ss:List ByteArray) (s:ByteArray) (w:World) (hv:bK ed 1 w v ss):
  Calls Tryz.prog 131 #[v,.string s] w λo w'=>o=.returned (.int .i64 (qd (λx=>s.toList == x.toList) ss))/\ax w w':=by
 obtain⟨p,c,rfl,fV,gj⟩:=hv.form;obtain⟨N,hN⟩:∃ N,N=ss.length:=⟨_,aa⟩;rw[<-hN] at hv fV ⊢;refine ai (C:=aY Tryz.prog w _) (args:=[_,_]) Tryz.func131 aa Tryz.ntmps131 (cG aa) ?_;refine ag ?_;refine VS.loop (J:=λmm L M w'=>∃ z:Nat,z<=N/\mm=N-z/\L=[(0,.val (.slice p N c)),(1,.val (.string s)),(7,.val (.int .i64 (N:Int))),(8,.val (.int .i64 (z:Int)))]/\M=[]/\∀ (i:Nat) (y:ByteArray),i<z->ss[i]? =some y->(s.toList == y.toList)=false) N ⟨_,_,?_,?_,?_,?_,⟨0,ae,aa,aa,aa,λi y hi=>ae⟩⟩ ?_
 ·exact lD
 ·exact lD
 ·rfl
 ·exact AZ
 rintro mm L M wJ ⟨z,hz,rfl,rfl,rfl,hno⟩;refine ag ?_;by_cases hlt:z<N
 ·obtain⟨x,hx⟩:∃ x,ss[z]? =some x:=⟨_,aH ae⟩;obtain⟨b,off,cs,rfl,hc,rfl⟩:=hv.at hx;refine VS.bB aa (aU (aW.2 hlt)) ?_;refine ag ?_;refine VO.cond aa fb ?_;refine wV aa ?_;refine ag ?_;refine VO.read aa [.string x] aa (fK hc) (wV aa ?_);refine ag ?_;cases hs:(s.toList == x.toList) with
  | true=>
    refine VS.bB aa aa ?_;refine ag ?_;refine ck ?_;intro wz kz bz;exact⟨by rw[EB (P:=λx=>s.toList == x.toList) hx hno hs];rfl,bz⟩
  | false=>
    refine VS.bC aa aa ?_;refine ag ?_
    refine VS.back (N-(z+1)) ae ⟨_,_,?_,?_,?_,?_,⟨z+1,ae,aa,aa,aa,λi y hi hy=>(by
     by_cases LP:i<z
     ·exact hno i y LP hy
     ·rw[show i=z by omega,hx] at hy;cases hy;exact hs)⟩⟩
    ·refine⟨aa,aa,aa,?_,aj⟩;rw[<-bl ae];rfl
    ·exact lD
    ·rfl
    ·exact AZ
 ·refine VS.bC aa (aR (λe=>hlt (aW.1 e))) ?_;obtain rfl:z=N:=ae;refine ag ?_;refine ck ?_;intro wz kz bz;exact⟨by rw[wG (P:=λx=>s.toList == x.toList) (λi y hy=>hno i y (by have:=(bd.1 hy).1;omega) hy)];rfl,bz⟩
theorem Ka (v:Value) (ss:List ByteArray) (s:ByteArray) (w:World) (hv:bK ed 1 w v ss):
  Calls Tryz.prog 62 #[v,.string s] w λo w'=>o=.returned (.int .i64 (qd (λx=>s.toList == x.toList) ss))/\ax w w':=by
 obtain⟨p,c,rfl⟩:=hv.sl;refine ai (C:=aY Tryz.prog w _) (args:=[_,_]) Tryz.func62 aa Tryz.ntmps62 (cG aa) ?_;refine ag ?_;refine VO.cB aa aa (fk Tryz.func131) (λcV eG db=>JZ _ ss s cV (hv.aA ba db)) (λcV eG db w1 bF fM _ bb1=>wV aa ?_);refine ag ?_;refine ck ?_;intro wz kz bz;exact⟨aa,bz⟩
abbrev iB:=ByteArray×Kls
def uZ (kk:Nat) (w:World) (cs:List Value) (x:iB):Prop:=∃ s p n c t y m d,cs=[.string x.1,.int .u8 (x.2.1:Int),.bool s,.slice p n c,.bool t,.slice y m d]/\x.2.1<256/\dk w (.agg #[.bool s,.slice p n c,.bool t,.slice y m d]) x.2.2 kk
theorem se (kk:Nat):gp (uZ kk) 6 where
 kp:=λh k=>by
  obtain⟨s,p,n,c,t,y,m,d,hv,h1,h2⟩:=h;exact⟨_,_,_,_,_,_,_,_,hv,h1,h2.kp k⟩
 len:=λh=>by
  obtain⟨s,p,n,c,t,y,m,d,rfl,_⟩:=h;rfl
 ok:=λh=>by
  obtain⟨s,p,n,c,t,y,m,d,rfl,_⟩:=h;rfl
theorem QK (g:FuncId) (c1:Value) (P:iB->Bool) (kk:Nat) (kg:xQ Tryz.prog g) (v:Value) (es:List iB) (w:World) (hv:bK (uZ kk) 6 w v es) (hg:∀ (cs:List Value) (a:iB) (w1:World),ax w w1->uZ kk w1 cs a->Calls Tryz.prog g #[.agg cs.toArray,c1] w1 λe w'=>e=.returned (.bool (P a))/\ax w1 w'):
  Calls Tryz.prog 65 #[v,.func (.func g) #[] #[c1]] w λe w'=>e=.returned (.int .i64 (qd P es))/\ax w w':=by
 obtain⟨p,c,rfl,fV,gj⟩:=hv.form;obtain⟨N,hN⟩:∃ N,N=es.length:=⟨_,aa⟩;rw[<-hN] at hv fV ⊢;refine ai (C:=aY Tryz.prog w _) (args:=[_,_]) Tryz.func65 aa Tryz.ntmps65 (cG aa) ?_;refine ag ?_;refine VS.loop (J:=λmm L M w'=>∃ z:Nat,z<=N/\mm=N-z/\L=[(0,.val (.slice p N c)),(1,.val (.func (.func g) #[] #[c1])),(7,.val (.int .i64 (N:Int))),(8,.val (.int .i64 (z:Int)))]/\M=[]/\∀ (i:Nat) (y:iB),i<z->es[i]? =some y->P y=false) N ⟨_,_,?_,?_,?_,?_,⟨0,ae,aa,aa,aa,λi y hi=>ae⟩⟩ ?_
 ·exact lD
 ·exact lD
 ·rfl
 ·exact AZ
 rintro mm L M wJ ⟨z,hz,rfl,rfl,rfl,hno⟩;refine ag ?_;by_cases hlt:z<N
 ·obtain⟨a,hx⟩:∃ x,es[z]? =some x:=⟨_,aH ae⟩;obtain⟨b,off,cs,rfl,hc,he⟩:=hv.at hx;have he':=he;obtain⟨s0,p0,n0,c0,t0,y0,m0,d0,rfl,-⟩:=he';refine VS.bB aa (aU (aW.2 hlt)) ?_;refine ag ?_;refine VO.cond aa fb ?_;refine wV aa ?_;refine ag ?_;refine VO.read aa [.string a.1,.int .u8 (a.2.1:Int),.bool s0,.slice p0 n0 c0,.bool t0,.slice y0 m0 d0] aa (bf hc 0 _ ⟨[],aa⟩) (wV aa ?_);refine VO.call aa aa kg (λcV eG db=>(hg _ a cV db ((se kk).b he db)).mono ?_);rintro e w1 ⟨rfl,bF⟩;cases hP:P a with
  | true=>
    refine dB bF ?_;intro fM _ bb1;refine ck ?_;intro wz kz bz;exact⟨by rw[EB hx hno hP];rfl,bz⟩
  | false=>
    refine dB bF ?_;intro fM _ bb1
    refine VS.back (N-(z+1)) ae ⟨_,_,?_,?_,?_,?_,⟨z+1,ae,aa,aa,aa,λi y hi hy=>(by
     by_cases LP:i<z
     ·exact hno i y LP hy
     ·rw[show i=z by omega,hx] at hy;cases hy;exact hP)⟩⟩
    ·refine⟨aa,aa,aa,?_,aj⟩;rw[<-bl ae];rfl
    ·exact lD
    ·rfl
    ·exact AZ
 ·refine VS.bC aa (aR (λe=>hlt (aW.1 e))) ?_;obtain rfl:z=N:=ae;refine ag ?_;refine ck ?_;intro wz kz bz;exact⟨by rw[wG (λi y hy=>hno i y (by have:=(bd.1 hy).1;omega) hy)];rfl,bz⟩
theorem HQ (cs:List Value) (x:iB) (b:Nat) (s:ByteArray) (kk:Nat) (w:World) (hv:uZ kk w cs x) (h1:w.cell? ⟨b,0,none⟩=some (.string s)):
  Calls Tryz.prog 66 #[.agg cs.toArray,.pointer (some ⟨b,0,none⟩)] w λo w'=>o=.returned (.bool (x.1.toList == s.toList))/\ax w w':=by
 obtain⟨s0,p0,n0,c0,t0,y0,m0,d0,rfl,-⟩:=hv;refine ai (C:=aY Tryz.prog w _) (args:=[_,_]) Tryz.func66 aa Tryz.ntmps66 (cG aa) ?_;refine ag ?_;refine VO.read aa [.string s] aa (aX h1) (wV aa ?_);refine ag ?_;refine ck ?_;intro wz kz bz;exact⟨aa,bz⟩
theorem Kb (v:Value) (es:List iB) (s:ByteArray) (kk:Nat) (w:World) (hv:bK (uZ kk) 6 w v es):
  Calls Tryz.prog 16 #[v,.string s] w λo w'=>o=.returned (.int .i64 (qd (λx=>x.1.toList == s.toList) es))/\ax w w':=by
 obtain⟨p,c,rfl⟩:=hv.sl;refine ai (C:=aY Tryz.prog w _) (args:=[_,_]) Tryz.func16 aa Tryz.ntmps16 (cG aa) ?_;refine ag ?_;refine VO.GK aa (fk Tryz.func65) (λcV β eG db ho=>(QK 66 (.pointer (some ⟨β 3,0,none⟩)) (λx=>x.1.toList == s.toList) kk (fk Tryz.func66) _ es cV (hv.aA (se kk) db) (λcs a w1 hb hE=>HQ cs a (β 3) s kk w1 hE (hb.cell ((ho.own 3 (.base (ak.2 aa)) _ _ aa).cls.cell (j:=0) aa)))).mono ?_);rintro o w1 ⟨rfl,bF⟩;refine dB bF ?_;intro fM _ bb1;refine ck ?_;intro wz kz bz;exact⟨aa,bz⟩
def pk (t:List (List Rat)) (e c:Int):Bool:=decide (0<=e/\e<t.length/\0<=c/\c<(t.getD e.toNat []).length)
theorem Al (v:Value) (t:List (List Rat)) (e c:Int) (kk:Nat) (w:World) (hv:bK (jR kk) 1 w v t):
  Calls Tryz.prog 63 #[.agg #[v],.agg #[.int .i64 e,.int .i64 c]] w λo w'=>o=.returned (.bool (pk t e c))/\ax w w':=by
 obtain⟨p,cp,rfl⟩:=hv.sl;refine ai (C:=aY Tryz.prog w _) (args:=[_,_]) Cj aa Tryz.ntmps63 (cG aa) ?_;refine ag ?_;by_cases h1:e>=0
 ·refine VO.fix 8 aa (au (λb=>AV.val (.bool b)) (aU h1)) ?_;refine ag ?_;by_cases h2:e<(t.length:Int)
  ·refine VO.fix 16 aa (au (λb=>AV.val (.bool b)) (aU h2)) ?_;refine ag ?_;by_cases h3:c>=0
   ·refine VO.fix 21 aa (au (λb=>AV.val (.bool b)) (aU h3)) ?_;obtain⟨E,rfl⟩:=qG (show 0<=e by omega);obtain⟨xs,hx⟩:∃ xs,t[E]? =some xs:=⟨_,aH ae⟩;obtain⟨b,off,Bs,rfl,hcc,⟨xv,rfl,Lp⟩⟩:=hv.at hx;obtain⟨p3,c3,rfl⟩:=Lp.sl;refine ag ?_;refine VO.cond aa fb (wV aa ?_);refine ag ?_;refine VO.read aa [.slice p3 xs.length c3] aa (fK hcc) (wV aa ?_);refine ag ?_;refine ck ?_;intro wz kz bz;refine⟨au (λb=>Ending.returned (.bool b)) ?_,bz⟩;unfold pk;rw[bh,lU,hx];show decide (c<(xs.length:Int))=decide (0<=(E:Int)/\(E:Int)<t.length/\0<=c/\c<(xs.length:Int));by_cases h4:c<(xs.length:Int)
    ·rw[aU h4,aU ⟨h1,h2,h3,h4⟩]
    ·rw[aR h4,aR (λh=>h4 h.2.2.2)]
   ·refine VO.fix 21 aa (au (λb=>AV.val (.bool b)) (aR h3)) ?_;refine ag ?_;refine ck ?_;intro wz kz bz;exact⟨au (λb=>Ending.returned (.bool b)) (aR (λh=>h3 h.2.2.1)).symm,bz⟩
  ·refine VO.fix 16 aa (au (λb=>AV.val (.bool b)) (aR h2)) ?_;refine ag ?_;refine ck ?_;intro wz kz bz;exact⟨au (λb=>Ending.returned (.bool b)) (aR (λh=>h2 h.2.1)).symm,bz⟩
 ·refine VO.fix 8 aa (au (λb=>AV.val (.bool b)) (aR h1)) ?_;refine ag ?_;refine ck ?_;intro wz kz bz;exact⟨au (λb=>Ending.returned (.bool b)) (aR (λh=>h1 h.1)).symm,bz⟩
end
set_option maxRecDepth 4000
section
open Go.RowKit
attribute [local irreducible] aE VS
abbrev mG:=List (List Rat)
def tK (t:mG) (e c:Nat) (x:Rat):mG:=t.modify e λr=>r.modify c (·+x)
def qe (n k:Nat):mG:=List.replicate n (List.replicate k 0)
theorem Am (t:mG) (e c:Nat) (x:Rat):(tK t e c x).length=t.length:=by unfold tK;rw[List.length_modify]
variable {c i:Nat} {t:mG}
theorem yE {e:Nat} {x:Rat} {r:List Rat} (h:t[i]? =some r):(tK t e c x)[i]? =some (if i=e then r.modify c (·+x) else r):=by
 unfold tK;rw[KO,h];by_cases he:e=i
 ·subst he;simp
 ·simp[he,Ne.symm he]
def Ao:Value->Option Nat
 | .slice (some a) _ _=>some a.block
 | _=>none
def Dg (us:List Value):Prop:=∀ (i j:Nat) (u v:Value) (b:Nat),us[i]? =some u->us[j]? =some v->Ao u=some b->Ao v=some b->i=j
def xI (B kk:Nat) (w:World) (cs:List Value) (q:Rat):Prop:=∃ s p n c t y m d,cs=[.bool s,.slice p n c,.bool t,.slice y m d]/\cA w B (.agg #[.bool s,.slice p n c,.bool t,.slice y m d]) q/\lR q kk
variable {B kk:Nat} {w:World}
theorem xI.mk {s t:Bool} {p y:Option Addr} {n m d:Nat} {q:Rat} (h:cA w B (.agg #[.bool s,.slice p n c,.bool t,.slice y m d]) q) (hs:lR q kk):xI B kk w [.bool s,.slice p n c,.bool t,.slice y m d] q:=⟨_,_,_,_,_,_,_,_,rfl,h,hs⟩
theorem dm (B kk:Nat):gp (xI B kk) 4 where
 kp:=λh k=>by
  obtain⟨s,p,n,c,t,y,m,d,hv,h1,h2⟩:=h;exact⟨_,_,_,_,_,_,_,_,hv,h1.kp k,h2⟩
 len:=λh=>by
  obtain⟨s,p,n,c,t,y,m,d,rfl,_⟩:=h;rfl
 ok:=λh=>by
  obtain⟨s,p,n,c,t,y,m,d,rfl,_⟩:=h;rfl
variable {cs:List Value}
theorem xI.q {q:Rat} (h:xI B kk w cs q):RtQ kk w cs q:=by
 obtain⟨s,p,n,c,t,y,m,d,hv,h1,h2⟩:=h;exact⟨_,_,_,_,_,_,_,_,hv,h1.rd,h2⟩
variable {j:Nat}
theorem xI.up {k:Nat} {q:Rat} (h:xI B j w cs q) (hk:j<=k):xI B k w cs q:=by
 obtain⟨s,p,n,c,t,y,m,d,hv,h1,h2⟩:=h;exact⟨_,_,_,_,_,_,_,_,hv,h1,h2.mono hk⟩
variable {B':Nat}
theorem xI.mono {k:Nat} {q:Rat} (h:xI B k w cs q) (hB:B'<=B):xI B' k w cs q:=by
 obtain⟨s,p,n,c,t,y,m,d,hv,h1,h2⟩:=h;exact⟨_,_,_,_,_,_,_,_,hv,h1.mono hB,h2⟩
def ib (kk B:Nat) (w:World) (v:Value) (t:mG):Prop:=∃ us,ay VE 1 105 B w v us/\us.length=t.length/\(∀ (i:Nat) (u:Value) (r:List Rat),us[i]? =some u->t[i]? =some r->ay (xI B kk) 4 27 B w u r)/\Dg us
variable {v:Value} {w':World}
theorem ib.kp {T:TypeId->Bool} (h:ib kk B w v t) (k:lT T w w') (h1:T 105=true) (h2:T 27=true):ib kk B w' v t:=by
 obtain⟨us,g1,g2,g3,g4⟩:=h;exact⟨us,g1.kp jk k h1,g2,λi u r hi hr=>(g3 i u r hi hr).kp (dm B kk) k h2,g4⟩
theorem ib.aA (h:ib kk B w v t) (hb:ax w w'):ib kk B w' v t:=h.kp (T:=λ_=>true) (aK.of hb) rfl rfl
variable {α:Type} {es:List α} {E:World->List Value->α->Prop}
theorem ay.imp {E':World->List Value->α->Prop} {sz:Nat} {t:TypeId} (h:ay E sz t B w v es) (hm:∀ (cs:List Value) (a:α),E w cs a->E' w cs a):ay E' sz t B w v es:=by
 rcases h with h|⟨b,c,vs,sp,g1,g2,g3,g4,g5,g6,g7,g8⟩
 ·exact .inl h
 ·exact .inr ⟨b,c,vs,sp,g1,g2,g3,g4.mono hm,g5,g6,g7,g8⟩
theorem ib.up {k:Nat} (h:ib j B w v t) (hk:j<=k):ib k B w v t:=by
 obtain⟨us,g1,g2,g3,g4⟩:=h;exact⟨us,g1,g2,λi u r hi hr=>(g3 i u r hi hr).imp (λ_ _ h=>h.up hk),g4⟩
theorem ib.mono {k:Nat} (h:ib k B w v t) (hB:B'<=B):ib k B' w v t:=by
 obtain⟨us,g1,g2,g3,g4⟩:=h;exact⟨us,g1.mono hB,g2,λi u r hi hr=>((g3 i u r hi hr).imp (λ_ _ h=>h.mono hB)).mono hB,g4⟩
theorem ib.Nu (h:ib kk B w v t):bK (jR kk) 1 w v t:=by
 obtain⟨us,g1,g2,g3,_⟩:=h;exact slin_of (g1.sl jk) g2 (λi u r hi hr=>⟨u,aa,((g3 i u r hi hr).imp (λ_ _ h=>h.q.tot)).sl (Ai kk)⟩)
theorem ib.nil (kk B:Nat) (w:World):ib kk B w (.slice none 0 0) []:=⟨[],.inl ⟨rfl,rfl⟩,rfl,λi u r hi=>(by simp at hi),λi j u v b hi=>(by simp at hi)⟩
theorem ib.form (h:ib kk B w v t):∃ p c,v=.slice p t.length c:=by
 obtain⟨us,g1,g2,_⟩:=h;rw[<-g2];exact g1.form
variable {u:Value}
theorem qf {us:List Value} (h:Dg us) {W:Nat} (ho:∀ (i:Nat) (v:Value) (b:Nat),us[i]? =some v->Ao v=some b->b<W) (hn:∀ b,Ao u=some b->W<=b):Dg (us++[u]):=λi j a c b hi hj ha hc=>by
 have key:∀ (i:Nat) (a:Value),(us++[u])[i]? =some a->(us[i]? =some a)\/(i=us.length/\a=u):=λi a hi=>by
  by_cases tH:i<us.length
  ·rw[jo tH] at hi;exact .inl hi
  ·rw[mS ae] at hi;have:=(bd.1 hi).1;rw[List.length_singleton] at this;obtain rfl:i=us.length:=ae;rw[oy] at hi;cases hi;exact .inr ⟨aa,aa⟩
 rcases key i a hi with h1|⟨rfl,rfl⟩ <;> rcases key j c hj with h2|⟨rfl,rfl⟩
 ·exact h i j a c b h1 h2 ha hc
 ·have:=ho i a b h1 ha;have:=hn b hc;omega
 ·have:=ho j c b h2 hc;have:=hn b ha;omega
 ·rfl
theorem ay.jd {sz:Nat} {t:TypeId} (h:ay E sz t B w v es) {b:Nat} (hb:Ao v=some b):B<=b/\b<w.heap.size:=by
 rcases h with ⟨rfl,_⟩|⟨b',c,vs,sp,rfl,hB,hc,_⟩
 ·cases hb
 ·cases hb;exact⟨hB,hc.lt⟩
theorem cw.put {α:Type} {E:World->List Value->α->Prop} {w:World}:∀ {es:List α} {vs:List (List Value)} {i:Nat} {a:α} {cs:List Value},cw E w es vs->E w cs a->cw E w (es.set i a) (vs.set i cs)
 | _,_,i,_,_,.nil,_=>.nil
 | _,_,0,_,_,.cons _ h2,h=>.cons h h2
 | _,_,i+1,_,_,.cons h1 h2,h=>.cons h1 (cw.put h2 h)
theorem row_put {vs:List (List Value)} {sz:Nat} {new:List Value} {sp:List AV} (h:∀ x∈vs,x.length=sz) (hi:i<vs.length) (ho:new.length=sz):
  (vs.flatten.map AV.val++sp).take (0+((i:Nat):Int).toNat*sz)++(new.map AV.val++(vs.flatten.map AV.val++sp).drop (0+((i:Nat):Int).toNat*sz+sz))=(vs.set i new).flatten.map AV.val++sp:=by
 obtain⟨x,hx⟩:∃ x,vs[i]? =some x:=⟨_,aH hi⟩;have fv:=h x (dc hx);rw[dJ h hx 0 new ae sp _ (by rw[bh];omega) sz ho.symm];rw[show x.take 0++(new++x.drop (0+new.length))=new by rw[iD,ng,mV ae,eX]]
theorem Kd {l:List α} {a:α} {f:α->α} (h:l[i]? =some a):l.modify i f=l.set i (f a):=by
 apply qk;intro j;rw[KO,ll];by_cases e:i=j
 ·subst e;rw[if_pos rfl,if_pos (bd.1 h).1,h];simp
 ·rw[if_neg e];cases l[j]? <;> simp[e]
theorem aQ.but {ad:List Nat} {g:Nat} {t:TypeId} {cs:Array Value} (h:aQ w g t cs) (k:dP ad w w') (hg:g∉ad):aQ w' g t cs:=(k.jd g h.lt hg).trans h
theorem dv.aA {K:KC} {N:Nat} {ad:List Nat} {l:List (TypeId×List AV)} (h:dv K N ad l w) (hb:ax w w'):dv K N ad l w':=⟨h.len,h.nodup,λj g c hj hc=>(h.cls j g c hj hc).aA hb,h.ok,h.ids⟩
theorem at_one {C:Cx} {b o:Nat} (h:C.At ⟨b,o,none⟩ u):∀ j x,[u][j]? =some x->C.At ((⟨b,o,none⟩:Addr).add j) x:=λj x hj=>by
 match j,hj with
 | 0,hj=>cases hj;exact h
theorem ay.but {sz:Nat} {t:TypeId} {ad:List Nat} (hE:gp E sz) (h:ay E sz t B w v es) (k:dP ad w w') (kw:Kp UU w w') (hn:∀ b,Ao v=some b->b∉ad):ay E sz t B w' v es:=by
 rcases h with h|⟨b,c,vs,sp,rfl,g2,g3,g4,g5,g6,g7,g8⟩
 ·exact .inl h
 ·exact .inr ⟨b,c,vs,sp,aa,g2,g3.but k (hn b aa),g4.kp hE kw,g5,g6,g7,g8⟩
theorem HT {vs:List Value} {P:Value->Prop} (h:∀ (i:Nat) (v:Value),vs[i]? =some v->P v) (hu:P u):∀ (i:Nat) (v:Value),(vs++[u])[i]? =some v->P v:=λi v hi=>by
 rcases lp.1 (dc hi) with h1|h1
 ·obtain⟨j,hj⟩:=sE h1;exact h j v hj
 ·rw[ak.1 h1];exact hu
abbrev Dh:KC:=⟨UU,λ_=>True,λt=>Nat.beq t 27⟩
abbrev QL (P:Program) (w:World) (N:Nat) (ad:List Nat) (hd:ad.Nodup) (ha:jA Dh ad w):Cx:=uM P w N Dh (λt=>Nat.beq t 23) table (λ_ _=>trivial) ad hd ha
theorem vc (w:World) (N:Nat) {ad:List Nat} {hd:ad.Nodup} {ha:jA Dh ad w}:(QL Tryz.prog w N ad hd ha).Ok:=gn
section
variable {F F':Fr} {H H':Hp} {w w1:World} {N:Nat} {l':List Oper} {Q:Exit->Act->World->Prop} {k:List It} {id:Nat} {ops:Array Oper}
theorem cxT4_r {ad:List Nat} {hd:ad.Nodup} {ha:jA Dh ad w1} (e:kW (QL Tryz.prog w1 N ad hd ha) ops 80 ops.toList F H=(l',F',H')) (h:aE (QL Tryz.prog w1 N ad hd ha) none ops l' (VS (QL Tryz.prog w1 N ad hd ha) Q k) F' H' w):VS (QL Tryz.prog w1 N ad hd ha) Q (.code (.region id ops false)::k) F H w:=VS.region (vc _ _) (VO.run 80 e h)
end
abbrev dp:KC:=⟨UU,λ_=>True,λt=>false⟩
abbrev jK (P:Program) (w:World) (N:Nat) (ad:List Nat) (hd:ad.Nodup) (ha:jA dp ad w):Cx:=uM P w N dp (λt=>Nat.beq t 23) table (λ_ _=>trivial) ad hd ha
theorem cM (w:World) (N:Nat) {ad:List Nat} {hd:ad.Nodup} {ha:jA dp ad w}:(jK Tryz.prog w N ad hd ha).Ok:=gn
theorem tL (w:World) (N:Nat) {ad:List Nat} {hd:ad.Nodup} {ha:jA dp ad w}:(jK Tryz.prog w N ad hd ha).P.follows .mixedOrders=true:=by show Tryz.prog.follows .mixedOrders=true;kernel_rfl
section
variable {F F':Fr} {H H':Hp} {w w1:World} {N:Nat} {l':List Oper} {Q:Exit->Act->World->Prop} {k:List It} {id:Nat} {ops:Array Oper}
theorem QM {ad:List Nat} {hd:ad.Nodup} {ha:jA dp ad w1} (e:kW (jK Tryz.prog w1 N ad hd ha) ops 80 ops.toList F H=(l',F',H')) (h:aE (jK Tryz.prog w1 N ad hd ha) none ops l' (VS (jK Tryz.prog w1 N ad hd ha) Q k) F' H' w):VS (jK Tryz.prog w1 N ad hd ha) Q (.code (.region id ops false)::k) F H w:=VS.region (cM _ _) (VO.run 80 e h)
theorem cxZ0_d {ad:List Nat} {hd:ad.Nodup} {ha:jA dp ad w1} (e:kW (jK Tryz.prog w1 N ad hd ha) ops 80 ops.toList F H=(l',F',H')) (h:aE (jK Tryz.prog w1 N ad hd ha) (some []) ops l' (VS (jK Tryz.prog w1 N ad hd ha) Q k) F' H' w) (kH:mv (jK Tryz.prog w1 N ad hd ha).SU [] ops=true:=by kernel_rfl):VS (jK Tryz.prog w1 N ad hd ha) Q (.code (.region id ops true)::k) F H w:=VS.draw (cM _ _) (tL _ _) [] kH (VO.run 80 e h)
end
theorem HW (n:Int):qA 0 [n]=((n.toNat:Nat):Int):=by
 unfold qA qA
 split <;> omega
variable {P Q:Prop}
theorem rI (h:Q) (i:Q->P:=by intro h;(repeat first|refine wN ?_|refine wP rfl ?_|refine cxT4_r rfl ?_|refine cxT4_d rfl ?_|refine wO rfl rfl ?_);exact h):P:=i h
theorem aq (h:Q) (i:Q->P:=by intro h;(repeat first|refine wN ?_|refine wP rfl ?_|refine QM rfl ?_|refine cxZ0_d rfl ?_|refine wO rfl rfl ?_);exact h):P:=i h
set_option maxRecDepth 4000 in
theorem Ke (n k:Int) (w:World) (hn:n<=100000) (hk:k<=100000):
  Calls Tryz.prog 34 #[.int .i64 n,.int .i64 k] w λo w'=>∃ r,o=.returned (.agg #[r])/\ib 1 w.heap.size w' r (qe n.toNat k.toNat)/\ax w w':=by
 obtain⟨N,hN⟩:∃ N,N=n.toNat:=⟨_,aa⟩;obtain⟨K,hK⟩:∃ K,K=k.toNat:=⟨_,aa⟩;have hmN:qA 0 [n]=(N:Int):=by rw[HW,hN]
 have hmK:qA 0 [k]=(K:Int):=by rw[HW,hK]
 rw[<-hN,<-hK];have hNb:N<=100000:=ae;have hKb:K<=100000:=ae;refine ai (C:=aY Tryz.prog w _) (args:=[_,_]) Tryz.func34 aa Tryz.ntmps34 (cG aa) ?_;refine ag ?_
 refine VS.fL (J:=λm L W=>∃ (e g4 g:Nat) (rv:Value) (us:List Value),e<=N/\m=N-e/\L=[(0,.int .i64 n),(1,.int .i64 k),(4,.pointer (some ⟨g4,0,none⟩)),(5,.pointer (some ⟨g,0,none⟩)),(8,.int .i64 (N:Int)),(9,.int .i64 (e:Int))]/\ax w W/\w.heap.size<=g4/\w.heap.size<=g/\g4≠g/\aQ W g4 52 #[.slice none 0 0]/\aQ W g 52 #[rv]/\ay VE 1 105 w.heap.size W rv us/\us.length=e/\(∀ (i:Nat) (u:Value),us[i]? =some u->ay (xI w.heap.size 1) 4 27 w.heap.size W u (List.replicate K 0))/\Dg us)
  (λW=>aY Tryz.prog W 28) (λ_=>rfl) (λ_=>rfl) (λ_=>ax.refl _) N (λw' β k' o en=>⟨[(0,.int .i64 n),(1,.int .i64 k),(4,.pointer (some ⟨β 4,0,none⟩)),(5,.pointer (some ⟨β 5,0,none⟩)),(8,.int .i64 (N:Int)),(9,.int .i64 ((0:Nat):Int))],⟨⟨_,_,rfl,rfl,rfl⟩,⟨_,_,rfl,rfl,rfl⟩,⟨_,_,rfl,rfl,rfl⟩,⟨_,_,rfl,rfl,rfl⟩,⟨_,_,rfl,au (λz=>Value.int .i64 z) hmN,rfl⟩,⟨_,_,rfl,rfl,rfl⟩,aj⟩,0,β 4,β 5,.slice none 0 0,[],ae,rfl,rfl,o,(en.own 4 _ _ rfl).new,(en.own 5 _ _ rfl).new,(λh=>absurd (en.apart 4 5 (by intro h;cases h) (by intro h;cases h) h) cW),(en.own 4 _ _ rfl).cls,(en.own 5 _ _ rfl).cls,.inl ⟨rfl,rfl⟩,rfl,λi u hi=>(by simp at hi),λi j u v b hi=>(by simp at hi)⟩) ?_
 rintro m L W ⟨e,g4,g,rv,us,he,rfl,rfl,il,po,hgW,Ap,vA,LQ,hrv,Jf,Kf,hap⟩;refine ag ?_;by_cases heN:e<N
 ·refine VS.bB aa (aU (aW.2 heN)) ?_;refine ag ?_;refine VS.fix 12 aa (au (λz=>AV.val (.int .i64 z)) hmK) ?_;refine VS.loop (J:=λm L M w'=>∃ (z:Nat) (X:AV) (Mi:List (Nat×(TypeId×List AV))),z<=K/\m=K-z/\L=[(0,.val (.int .i64 n)),(1,.val (.int .i64 k)),(4,.val (.pointer (some ⟨g4,0,none⟩))),(5,.val (.pointer (some ⟨g,0,none⟩))),(6,X),(8,.val (.int .i64 (N:Int))),(9,.val (.int .i64 (e:Int))),(12,.val (.int .i64 (K:Int))),(13,.val (.int .i64 (z:Int)))]/\M=Mi/\fp (xI w.heap.size 1) 4 27 18 X Mi w' (List.replicate z 0)) K ⟨_,_,?_,?_,?_,?_,⟨0,_,[],ae,aa,aa,aa,.inl ⟨aa,aa,aa⟩⟩⟩ ?_
  ·exact lD
  ·exact lD
  ·rfl
  ·exact AZ
  rintro m L Mi wI ⟨z,X,Mi2,hz,rfl,rfl,rfl,hI⟩;refine VS.now (λwX kN bN=> ?_);replace hI:=hI.kp (dm w.heap.size 1) (aK.dN kN);refine VS.mask [17] (by rcases hI with ⟨_,rfl,rfl⟩|⟨_,_,_,_,rfl,rfl,_⟩ <;> (repeat first|exact aj|refine⟨aa,?_⟩)) ?_;refine ag ?_;by_cases hzK:z<K
  ·refine VS.bB aa (aU (aW.2 hzK)) ?_;refine ag ?_;refine VO.cR aa aa (fk Ci) (λcV eG db=>jD 0 cV ae ae) (λcV eG db w1 s1 p1 n1 c1 t1 y1 m1 d1 q1 bF fM _ bb1=>wV aa ?_);refine ag ?_;have ik:xI w.heap.size 1 w1 [.bool s1,.slice p1 n1 c1,.bool t1,.slice y1 m1 d1] 0:=.mk ((q1.cast (show ((0:Int):Rat)=0 from aa)).mono (il.aG db).size) lR.zero;rcases hI with ⟨dZ,rfl,rfl⟩|⟨n',c',vs,sp,rfl,rfl,hN1⟩
   ·refine VO.Dc (bU _ _) (dm w.heap.size 1) (t:=105) (e:=27) (s:=17) (a:=0) (cs:=[.bool s1,.slice p1 n1 c1,.bool t1,.slice y1 m1 d1]) aa aa aa aa aa aa aa aa (cG aa) aa aa aa ik ae (λw9 cap sp k9 b9 oc=>wV aa ?_);refine ag ?_;refine VS.back (K-(z+1)) ae ⟨_,_,?_,?_,?_,?_,⟨z+1,_,_,ae,aa,aa,aa,.inr ⟨1,cap,_,sp,aa,aa,by rw[KM,dZ];exact oc⟩⟩⟩
    ·(refine⟨aa,aa,aa,aa,aa,aa,aa,aa,?_,aj⟩;rw[<-bl (i:=z) ae];rfl)
    ·(repeat first|exact aj|refine⟨aa,?_⟩|refine⟨au (λl=>some (_,l)) (rF (by first|exact fO.gM (by assumption)|exact ah _|(rw[<-aF];exact ah _)) _ _),?_⟩)
    ·rfl
    ·(repeat first|exact aj|refine⟨dh.lit aa,?_⟩|refine⟨fO.clo (by assumption),?_⟩|refine⟨dh.append (.vals _) (.vals _),?_⟩|refine⟨dh.vals _,?_⟩)
   ·have PH:=hN1.len;refine VO.xF (bU _ _) (dm w.heap.size 1) (t:=105) (e:=27) (s:=17) (i:=18) (n:=n') (c:=c') (vs:=vs) (sp:=sp) (es:=List.replicate z 0) (a:=0) (cs:=[.bool s1,.slice p1 n1 c1,.bool t1,.slice y1 m1 d1]) aa aa aa aa aa aa aa aa (cG aa) aa (.inr aa) aa (hN1.kp (dm w.heap.size 1) dA) aa ik (by rw[Fh] at PH;omega) (λw9 cap2 mQ ρ k9 b9 fo oc=>wV aa ?_);refine ag ?_;refine VS.back (K-(z+1)) ae ⟨_,_,?_,?_,?_,?_,⟨z+1,_,_,ae,aa,aa,aa,.inr ⟨n' +1,cap2,_,mQ,aa,aa,by rw[KM];exact oc⟩⟩⟩
    ·(refine⟨aa,aa,aa,aa,aa,aa,aa,aa,?_,aj⟩;rw[<-bl (i:=z) ae];rfl)
    ·(repeat first|exact aj|refine⟨aa,?_⟩|refine⟨au (λl=>some (_,l)) (rF (by first|exact fO.gM (by assumption)|exact ah _|(rw[<-aF];exact ah _)) _ _),?_⟩)
    ·rfl
    ·(repeat first|exact aj|refine⟨dh.lit aa,?_⟩|refine⟨fO.clo (by assumption),?_⟩|refine⟨dh.append (.vals _) (.vals _),?_⟩|refine⟨dh.vals _,?_⟩)
  refine VS.bC aa (aR (λe=>hzK (aW.1 e))) ?_;obtain rfl:K=z:=ae;subst Jf;refine VS.cK Dh (λt=>Nat.beq t 23) table (λ_ _ _=>trivial) (λbI nA k1 ic qF=> ?_);have aB:ax W bI:=ic;have bD:=hI.told (dm w.heap.size 1) qF (by intro q hq;rcases hI with ⟨_,rfl,rfl⟩|⟨_,_,_,_,rfl,rfl,_⟩ <;> first|(cases hq;done)|(cases ak.1 hq;rfl)) k1.dN W.heap.size (λh=>h);have EC:=LQ.aA aB;have qg:=il.size;have ig:=aB.size;rcases hrv with ⟨rfl,rfl⟩|⟨b0,cB,vsB,spB,rfl,tJ,Ia,QN,QO,hBle,hBcm,hBfl⟩
  ·have eh:dv Dh 28 [g] [(52,[.val (.slice none 0 0)])] bI:=by
    refine⟨aa,cf,λj g' c' hj hc=> ?_,λc' hc=> ?_,λc' hc k hk=> ?_⟩
    ·match j,hj,hc with
     | 0,hj,hc=>cases hj;cases hc;exact EC
     | j+1,hj,_=>simp at hj
    ·cases ak.1 hc;exact⟨aa,aa⟩
    ·cases ak.1 hc;cases hk
   refine⟨[g],[(52,[.val (.slice none 0 0)])],eh,[(0,.val (.int .i64 n)),(1,.val (.int .i64 k)),(4,.val (.pointer (some ⟨g4,0,none⟩))),(5,.box 56 0),(8,.val (.int .i64 (N:Int))),(9,.val (.int .i64 (([]:List Value).length:Int))),(6,.val (X.bu nA))],⟨⟨_,aa,aa,λi hi=>(by cases hi)⟩,⟨_,aa,aa,λi hi=>(by cases hi)⟩,⟨_,aa,aa,λi hi=>(by cases hi)⟩,⟨_,aa,aa,λi hi=>by rw[(by simpa [AV.ids] using hi:i=56)];exact⟨(by show 56<=56;omega),(by show 56<2*28+1;omega)⟩⟩,⟨_,aa,aa,λi hi=>(by cases hi)⟩,⟨_,aa,aa,λi hi=>(by cases hi)⟩,⟨_,aa,aa,λi hi=>(by cases hi)⟩,aj⟩,?_⟩;generalize X.bu nA=vv at bD ⊢;obtain⟨Di,Bv,rfl⟩:=bD.form;refine rI ?_;refine VO.Dc (vc _ _) jk (t:=50) (e:=105) (s:=23) (a:=.slice Di (List.replicate K (0:Rat)).length Bv) (cs:=[.slice Di (List.replicate K (0:Rat)).length Bv]) aa aa aa aa aa aa aa aa (cG aa) aa aa aa ⟨aa,_,_,_,aa⟩ ae (λiA cap sp vC qE oc=>wV aa ?_);refine rI ?_;refine VS.eK aa (N-(([]:List Value).length+1)) ae (λw' bM k' o' kc=> ?_);have GW:aK Dh bI w':=(show aK Dh bI iA from dA).aG k';have qC:ax w w':=dP.aA (il.aG aB) o'.1 (λx hx=>by rw[ak.1 hx];omega);have hst:fp VE 1 105 24 (.row 24 0 1 cap) [(24,(105,_))] iA ([.slice Di (List.replicate K (0:Rat)).length Bv]):=.inr ⟨_,cap,_,sp,aa,aa,oc⟩;have eW:=hst.told jk kc (λx hx=>by cases ak.1 hx;rfl) k'.dN w.heap.size (λh=>(cH (show fF 28 [g] bI 24 (bM 24) from h)).elim (λq=>aV qg (aV ig q)) (λq=>by rw[ak.1 q];omega));have IC:=kc.own 56 _ _ aa;have Aq:bM 56=g:=(qb IC 0 g aa aa).1;refine⟨[(0,.int .i64 n),(1,.int .i64 k),(4,.pointer (some ⟨g4,0,none⟩)),(5,.pointer (some ⟨bM 56,0,none⟩)),(8,.int .i64 (N:Int)),(9,.int .i64 ((([]:List Value).length+1:Nat):Int))],⟨⟨_,_,aa,aa,aa⟩,⟨_,_,aa,aa,aa⟩,⟨_,_,aa,aa,aa⟩,⟨_,_,aa,aa,aa⟩,⟨_,_,aa,aa,aa⟩,⟨_,_,aa,au (λz=>Value.int .i64 z) (bl (i:=([]:List Value).length) ae),aa⟩,aj⟩,([]:List Value).length+1,g4,bM 56,.slice (some ⟨bM 24,0,none⟩) 1 cap,[Value.slice Di (List.replicate K (0:Rat)).length Bv],ae,aa,aa,qC,po,by rw[Aq];exact hgW,by rw[Aq];exact Ap,(vA.aA aB).but o'.1 (by simp[Ap]),IC.cls,eW,cf,?_,?_⟩
   ·exact HT (vs:=([]:List Value)) (P:=λu=>ay (xI w.heap.size 1) 4 27 w.heap.size w' u (List.replicate K 0)) (λi u hi=>((Kf i u hi).aA (dm w.heap.size 1) aB).kp (dm w.heap.size 1) GW aa) ((bD.kp (dm w.heap.size 1) GW aa).mono qg)
   ·exact qf (us:=([]:List Value)) (λi j u v b hi=>(by simp at hi)) (λi v b hi hb=>((Kf i v hi).jd hb).2) (λb hb=>(bD.jd hb).1)
  ·have QP:=Ia.aA aB;have hgb:g≠b0:=λh=>by rw[h] at EC;exact absurd (bL EC QP) cW
   have hgb4:g4≠b0:=λh=>by rw[h] at vA;exact absurd (bL vA Ia) cW
   have eh:dv Dh 28 [g,b0] [(52,[.row 57 0 us.length cB]),(105,vsB.flatten.map .val++spB.map .val)] bI:=by
    refine⟨aa,by simp[hgb],λj g' c' hj hc=> ?_,λc' hc=> ?_,λc' hc k hk=> ?_⟩
    ·match j,hj,hc with
     | 0,hj,hc=>cases hj;cases hc;exact EC
     | 1,hj,hc=>cases hj;cases hc;rw[<-aF,az];exact QP
     | j+2,hj,_=>simp at hj
    ·rcases dG.1 hc with rfl|hc
     ·exact⟨aa,aa⟩
     ·cases ak.1 hc;exact⟨aa,by rw[<-aF];exact aL (by rw[dK,(QN.ok jk).1,QO];rfl)⟩
    ·rcases dG.1 hc with rfl|hc
     ·have:k=57:=by simpa [bj,AV.gM] using hk
      subst this;exact⟨ae,by show 57<2*28+2;omega⟩
     ·cases ak.1 hc;rw[<-aF,ah] at hk;cases hk
   have sA:fO VE 1 bI us.length cB vsB (spB.map .val) us:=⟨aa,QN.kp jk (Kp.of (U:=UU) aB),aL QO,ah _,hBle,hBcm,by rw[<-aF,aM];exact hBfl⟩;refine⟨[g,b0],[(52,[.row 57 0 us.length cB]),(105,vsB.flatten.map .val++spB.map .val)],eh,[(0,.val (.int .i64 n)),(1,.val (.int .i64 k)),(4,.val (.pointer (some ⟨g4,0,none⟩))),(5,.box 56 0),(8,.val (.int .i64 (N:Int))),(9,.val (.int .i64 (us.length:Int))),(6,.val (X.bu nA))],⟨⟨_,aa,aa,λi hi=>(by cases hi)⟩,⟨_,aa,aa,λi hi=>(by cases hi)⟩,⟨_,aa,aa,λi hi=>(by cases hi)⟩,⟨_,aa,aa,λi hi=>by rw[(by simpa [AV.ids] using hi:i=56)];exact⟨(by show 56<=56;omega),(by show 56<2*28+2;omega)⟩⟩,⟨_,aa,aa,λi hi=>(by cases hi)⟩,⟨_,aa,aa,λi hi=>(by cases hi)⟩,⟨_,aa,aa,λi hi=>(by cases hi)⟩,aj⟩,?_⟩;generalize X.bu nA=vv at bD ⊢;obtain⟨Di,Bv,rfl⟩:=bD.form;refine rI ?_;refine VO.xF (vc _ _) jk (t:=50) (e:=105) (s:=23) (i:=57) (n:=us.length) (c:=cB) (vs:=vsB) (sp:=spB.map .val) (es:=us) (a:=.slice Di (List.replicate K (0:Rat)).length Bv) (cs:=[.slice Di (List.replicate K (0:Rat)).length Bv]) aa aa aa aa aa aa aa aa (cG aa) aa (.inl aa) aa (sA.kp jk (aK.dN (show aK Dh bI _ from dA))) aa ⟨aa,_,_,_,aa⟩ ae (λiA cap sp ρ vC qE fo oc=>wV aa ?_);refine rI ?_;refine VS.eK aa (N-(us.length+1)) ae (λw' bM k' o' kc=> ?_);have GW:aK Dh bI w':=(show aK Dh bI iA from dA).aG k'
   have qC:ax w w':=dP.aA (il.aG aB) o'.1 (λx hx=>by
    rcases dG.1 hx with rfl|hx
    ·omega
    ·rw[ak.1 hx];omega)
   have hst:fp VE 1 105 24 (.row 24 0 (us.length+1) cap) [(24,(105,_))] iA (us++[.slice Di (List.replicate K (0:Rat)).length Bv]):=.inr ⟨_,cap,_,sp,aa,aa,oc⟩
   have eW:=hst.told jk kc (λx hx=>by cases ak.1 hx;rfl) k'.dN w.heap.size (λh=>(cH (show fF 28 [g,b0] bI 24 (bM 24) from h)).elim (λq=>aV qg (aV ig q)) (λq=>by
    rcases dG.1 q with h|h
    ·rw[h];omega
    ·rw[ak.1 h];omega))
   have IC:=kc.own 56 _ _ aa;have Aq:bM 56=g:=(qb IC 0 g aa aa).1;refine⟨[(0,.int .i64 n),(1,.int .i64 k),(4,.pointer (some ⟨g4,0,none⟩)),(5,.pointer (some ⟨bM 56,0,none⟩)),(8,.int .i64 (N:Int)),(9,.int .i64 ((us.length+1:Nat):Int))],⟨⟨_,_,aa,aa,aa⟩,⟨_,_,aa,aa,aa⟩,⟨_,_,aa,aa,aa⟩,⟨_,_,aa,aa,aa⟩,⟨_,_,aa,aa,aa⟩,⟨_,_,aa,au (λz=>Value.int .i64 z) (bl (i:=us.length) ae),aa⟩,aj⟩,us.length+1,g4,bM 56,.slice (some ⟨bM 24,0,none⟩) (us.length+1) cap,us++[Value.slice Di (List.replicate K (0:Rat)).length Bv],ae,aa,aa,qC,po,by rw[Aq];exact hgW,by rw[Aq];exact Ap,(vA.aA aB).but o'.1 (by simp[Ap,hgb4]),IC.cls,eW,cf,?_,?_⟩
   ·exact HT (vs:=us) (P:=λu=>ay (xI w.heap.size 1) 4 27 w.heap.size w' u (List.replicate K 0)) (λi u hi=>((Kf i u hi).aA (dm w.heap.size 1) aB).kp (dm w.heap.size 1) GW aa) ((bD.kp (dm w.heap.size 1) GW aa).mono qg)
   ·exact qf (us:=us) hap (λi v b hi hb=>((Kf i v hi).jd hb).2) (λb hb=>(bD.jd hb).1)
 refine VS.bC aa (aR (λh=>heN (aW.1 h))) ?_;obtain rfl:e=N:=ae
 (repeat (first|refine wN ?_|refine wP aa ?_|refine wO aa aa ?_))
 refine VS.cK dp (λt=>Nat.beq t 23) table (λ_ _ _=>trivial) (λbI nA k1 ic qF=> ?_);have aB:ax W bI:=ic
 have eh:dv dp 28 [g4] [(52,[.val (.slice none 0 0)])] bI:=by
  refine⟨aa,cf,λj g' c' hj hc=> ?_,λc' hc=> ?_,λc' hc k hk=> ?_⟩
  ·match j,hj,hc with
   | 0,hj,hc=>cases hj;cases hc;exact vA.aA aB
   | j+1,hj,_=>simp at hj
  ·cases ak.1 hc;exact⟨aa,aa⟩
  ·cases ak.1 hc;cases hk
 refine⟨[g4],[(52,[.val (.slice none 0 0)])],eh,[(4,.box 56 0),(5,.val (.pointer (some ⟨g,0,none⟩)))],⟨⟨_,aa,aa,λi hi=>by rw[(by simpa [AV.ids] using hi:i=56)];exact⟨(by show 56<=56;omega),(by show 56<2*28+1;omega)⟩⟩,⟨_,aa,aa,λi hi=>(by cases hi)⟩,aj⟩,?_⟩;refine aq ?_;obtain⟨pv,cv,rfl⟩:=hrv.form;refine VO.bJ aa [.slice pv us.length cv] aa (at_one (cD (λh=>Ap h.symm) ((LQ.aA aB).cell (j:=0) aa))) (wV aa ?_);refine aq ?_;refine VS.oU (cM _ _) aa (λwz β kz bz en=> ?_);have qC:ax w wz:=dP.aA (il.aG aB) bz.1 (λx hx=>by rw[ak.1 hx];exact po)
 have hT:ib 1 w.heap.size W (.slice pv us.length cv) (qe e K):=⟨us,hrv,by unfold qe;rw[Fh,Jf],λi u r hi hr=>by
  unfold qe at hr;rw[(KR.1 (dc hr)).2];exact Kf i u hi,hap⟩
 exact⟨_,aa,hT.kp (T:=λt=> !Nat.beq t 52) ((aK.of aB).aG (dP.kp bz.1 (λx hx=>⟨52,[.slice none 0 0],by rw[ak.1 hx];exact vA.aA aB,aa,aa⟩))) aa aa,qC⟩
abbrev TX:TypeId->Bool:=λt=> !(Nat.beq t 105 || Nat.beq t 27)
theorem ves {w:World}:∀ {us:List Value} {vs:List (List Value)},cw VE w us vs->vs=us.map λu=>[u]
 | [],_,.nil=>rfl
 | u::r,_,.cons h t=>by rw[h.1,ves t];rfl
theorem rJ:∀ (us:List Value),(us.map λu=>[u]).flatten=us
 | []=>rfl
 | u::r=>by rw[mf,ql,rJ r];rfl
set_option maxRecDepth 4000 in
theorem Nv (v u:Value) (t:mG) (xs:List Rat) (y x:Rat) (e c B kk k:Nat) (w:World) (hv:ib kk B w v t) (hu:dk w u x k) (hx:t[e]? =some xs) (hy:xs[c]? =some y) (GW:kk<=1000000) (hk:k<=1000000) (hs:lR (y+x) kk):
  Calls Tryz.prog 64 #[.agg #[v],.agg #[.int .i64 (e:Int),.int .i64 (c:Int)],u] w λo w'=>o=.returned (.tuple #[])/\ib kk B w' v (tK t e c x)/\lT TX w w'/\(∀ W,ax W w->W.heap.size<=B->ax W w')/\Cb w w':=by
 obtain⟨us,g1,g2,g3,g4⟩:=hv;have ik:e<us.length:=by rw[g2];exact (bd.1 hx).1
 obtain⟨ue,hue⟩:∃ z,us[e]? =some z:=⟨_,aH ik⟩;have cZ:c<xs.length:=(bd.1 hy).1;rcases g1 with ⟨rfl,rfl⟩|⟨g,cg,vg,sg,rfl,tJ,LQ,hge,hgo,AX,hgm,hgf⟩
 ·exact absurd ik (Nat.not_lt_zero _)
 rcases g3 e ue xs hue hx with ⟨rfl,rfl⟩|⟨b,cb,vb,sb,rfl,hBb,EX,Nf,hbo,hbl,hbm,hbf⟩
 ·exact absurd cZ (Nat.not_lt_zero _)
 obtain rfl:=ves hge;rw[rJ] at LQ hgf;obtain⟨s0,p0,n0,c0,t0,y0,m0,d0,rfl⟩:=hu.form;have hgb:g≠b:=λh=>by rw[h] at LQ;exact absurd (bL LQ EX) cW
 have hsetl:((us.map AV.val).set e (AV.row 55 0 xs.length cb)++sg.map AV.val).map (AV.leaf (adB 27 [g,b]))=us++sg:=by
  rw[aF,az,List.map_set,az]
  congr 1
  apply qk;intro j;rw[ll];by_cases h:e=j
  ·subst h;rw[if_pos rfl,if_pos ik,hue];rfl
  ·rw[if_neg h]
 have qh:(us++sg).all aO=true:=by
  rw[dK,hgo,Bool.and_true];have:=(hge.ok jk).1
  rwa [rJ] at this
 have eh:dv dp 27 [g,b] [(105,(us.map AV.val).set e (.row 55 0 xs.length cb)++sg.map .val),(27,vb.flatten.map .val++sb.map .val)] w:=by
  refine⟨aa,by simp[hgb],λj g' c' hj hc=> ?_,λc' hc=> ?_,λc' hc k hk=> ?_⟩
  ·match j,hj,hc with
   | 0,hj,hc=>cases hj;cases hc;rw[hsetl];exact LQ
   | 1,hj,hc=>cases hj;cases hc;rw[<-aF,az];exact EX
   | j+2,hj,_=>simp at hj
  ·rcases dG.1 hc with rfl|hc
   ·refine⟨aa,bP.2 λq hq=> ?_⟩;rcases lp.1 hq with h1|h1
    ·rcases mU h1 with h2|rfl
     ·obtain⟨z,hz,rfl⟩:=ey.1 h2;exact bP.1 qh z (yJ _ hz)
     ·rfl
    ·obtain⟨z,hz,rfl⟩:=ey.1 h1;exact bP.1 qh z (om _ hz)
   ·cases ak.1 hc;exact⟨aa,by rw[<-aF];exact aL (by rw[dK,(Nf.ok (dm B kk)).1,hbo];rfl)⟩
  ·rcases dG.1 hc with rfl|hc
   ·have:k=55:=by
     obtain⟨q,hq,ML⟩:=bZ.1 hk;rcases lp.1 hq with h1|h1
     ·rcases mU h1 with h2|rfl
      ·obtain⟨z,hz,rfl⟩:=ey.1 h2;cases ML
      ·simpa [AV.gM] using ML
     ·obtain⟨z,hz,rfl⟩:=ey.1 h1;cases ML
    subst this;exact⟨ae,by show 55<2*27+2;omega⟩
   ·cases ak.1 hc;rw[<-aF,ah] at hk;cases hk
 refine ai (C:=aY Tryz.prog w _) (args:=[_,_,_]) Tryz.func64 aa Tryz.ntmps64 (cG aa) ?_;refine VS.cK dp (λt=>Nat.beq t 23) table (λ_ _ _=>trivial) (λbI nA k1 ic qF=> ?_);have aB:ax w bI:=ic;have hsl1:=eh.aA aB;refine⟨[g,b],_,hsl1,[(0,.agg [.row 54 0 us.length cg]),(1,.val (.agg #[.int .i64 (e:Int),.int .i64 (c:Int)])),(2,.val (.agg #[.bool s0,.slice p0 n0 c0,.bool t0,.slice y0 m0 d0]))],⟨⟨_,aa,aa,λi hi=>by rw[(by simpa [AV.ids,bj,AV.gM] using hi:i=54)];exact⟨(by show 54<=54;omega),(by show 54<2*27+2;omega)⟩⟩,⟨_,aa,aa,λi hi=>(by cases hi)⟩,⟨_,aa,aa,λi hi=>(by cases hi)⟩,aj⟩,?_⟩;refine aq ?_;refine VO.cond aa fb ?_;refine wV aa ?_;refine aq ?_
 have hpk:∀ (j:Nat) (q:AV),[AV.row 55 0 xs.length cb][j]? =some q->((us.map AV.val).set e (.row 55 0 xs.length cb)++sg.map .val)[0+((e:Nat):Int).toNat*1+j]? =some q:=λj q hj=>by
  match j,hj with
  | 0,hj=>
    cases hj;rw[bh,np,fe,lz,jo (by rw[dV,aM];exact ik),ll,if_pos rfl,if_pos (by rw[aM];exact ik)]
 refine VO.fN aa [.row 55 0 xs.length cb] aa hpk (wV aa ?_);refine aq ?_;refine VO.cond aa fb ?_;refine wV aa ?_;refine aq ?_;refine VO.fN aa [.row 55 0 xs.length cb] aa hpk (wV aa ?_);refine aq ?_;refine VO.cond aa fb ?_;refine wV aa ?_;refine aq ?_;obtain⟨cy,vE,hEy⟩:=Nf.at c y hy;obtain⟨s9,p9,n9,c9,t9,y9,m9,d9,rfl,hr9,hz9⟩:=hEy;refine VO.fN aa [.val (.bool s9),.val (.slice p9 n9 c9),.val (.bool t9),.val (.slice y9 m9 d9)] aa (dw (Nf.lens (dm B kk)) _ vE 0 [.bool s9,.slice p9 n9 c9,.bool t9,.slice y9 m9 d9] ⟨[],aa⟩ _ (by rw[bh];omega)) (wV aa ?_);refine aq ?_;refine VO.cR aa aa (fk Tryz.func38) (λcV eG db=>tD _ _ y x kk k cV ((hr9.rd.to hz9).kp (T:=λ_=>false) dA) (hu.kp (T:=λ_=>false) dA) ae ae) (λcV eG db w1 s1 p1 n1 c1 t1 y1 m1 d1 q1 bF fM _ bb1=>wV aa ?_);refine aq ?_;refine VO.cond aa fb ?_;refine wV aa ?_;refine aq ?_;refine VO.cond aa ?_ (wV aa ?_)
 ·rw[bg,aM,aM,<-bg,hbf,bh];have:(c+1)*4<=cb*4:=eQ _ ae;show 0+c*4+4<=cb*4;omega
 refine aq ?_;refine VS.fin (cM _ _) aa (λwz β kz bz en=> ?_);have hB1:dP [g,b] w wz:=(dP.of aB).aG bz.1;have o54:=qb (en.own 54 _ _ aa) 0 g aa aa;have o55:=qb (en.own 55 _ _ aa) 1 b aa aa;have kz':aK ⟨UU,λ_=>True,λ_=>false⟩ w1 wz:=by exact dA
 have kw:aK ⟨UU,λ_=>True,λ_=>false⟩ w wz:=by exact dA
 have hgn:∀ q∈[g,b],B<=q:=λq hq=>by
  rcases dG.1 hq with rfl|hq
  ·exact tJ
  ·rw[ak.1 hq];exact hBb
 have hset2:((us.map AV.val).set e (AV.row 55 0 xs.length cb)++sg.map AV.val).map (AV.leaf β)=us++sg:=by
  rw[aF,az,List.map_set,az]
  congr 1
  apply qk;intro j;rw[ll];by_cases h:e=j
  ·subst h;rw[if_pos rfl,if_pos ik,hue];show some (Value.slice (some ⟨β 55,0,none⟩) xs.length cb)=_;rw[o55.1]
  ·rw[if_neg h]
 have c54:aQ wz g 105 (us++sg).toArray:=by have:=o54.2;rwa [hset2] at this
 have c55:aQ wz b 27 (((vb.set c [.bool s1,.slice p1 n1 c1,.bool t1,.slice y1 m1 d1]).flatten.map AV.val++sb.map AV.val).map (AV.leaf β)).toArray:=Eq.mp (au (λl=>aQ wz b 27 (List.map (AV.leaf β) l).toArray) (row_put (Nf.lens (dm B kk)) (by rw[Nf.len];exact cZ) aa)) o55.2;rw[<-aF,az] at c55;have eW:xI B kk wz [.bool s1,.slice p1 n1 c1,.bool t1,.slice y1 m1 d1] (y+x):=.mk ((q1.mono (aV tJ (aV (Nat.le_of_lt LQ.lt) (show aK ⟨UU,λ_=>True,λ_=>false⟩ w cV from dA).size))).kp kz') hs;refine⟨aa,⟨us,.inr ⟨g,cg,us.map λu=>[u],sg,aa,tJ,by rw[rJ];exact c54,hge.kp jk kw,hgo,AX,hgm,by rw[rJ];exact hgf⟩,by rw[Am];exact g2,λi u r hi hr=> ?_,g4⟩,?_,λW hW hWB=>dP.aA hW hB1 (λq hq=>aV hWB (hgn q hq)),Cb.but hB1 ?_⟩
 ·by_cases vB:i=e
  ·subst vB;rw[hue] at hi;cases hi;rw[yE hx,if_pos rfl,Kd hy] at hr;cases hr;refine .inr ⟨b,cb,vb.set c [.bool s1,.slice p1 n1 c1,.bool t1,.slice y1 m1 d1],sb,by rw[dV],hBb,c55,(Nf.kp (dm B kk) kw).put eW,hbo,by rw[dV];exact hbl,hbm,?_⟩;rw[bg,bE _ 4 (((Nf.kp (dm B kk) kw).put eW).lens (dm B kk)),dV,<-bE _ 4 (Nf.lens (dm B kk)),<-bg];exact hbf
  ·obtain⟨r0,h0⟩:∃ r0,t[i]? =some r0:=⟨_,aH (by rw[<-g2];exact (bd.1 hi).1)⟩;rw[yE h0,if_neg vB] at hr;cases hr;refine (g3 i u r hi h0).but (dm B kk) hB1 kw (λq hq hm=> ?_);rcases dG.1 hm with rfl|hm
   ·rcases g3 i u r hi h0 with ⟨rfl,_⟩|⟨b',c',vs,sp,rfl,_,hcl',_⟩
    ·cases hq
    ·cases hq;exact absurd (bL LQ hcl') cW
   ·rw[ak.1 hm] at hq;exact vB (g4 i e u _ b hi hue hq aa)
 ·refine dP.kp hB1 (λq hq=> ?_);rcases dG.1 hq with rfl|hq
  ·exact⟨105,us++sg,LQ,aa,qh⟩
  ·rw[ak.1 hq];exact⟨27,vb.flatten++sb,EX,aa,by rw[dK,(Nf.ok (dm B kk)).1,hbo];rfl⟩
 ·intro q hq;rcases dG.1 hq with rfl|hq
  ·exact⟨_,_,LQ⟩
  ·rw[ak.1 hq];exact⟨_,_,EX⟩
theorem Ib (v u:Value) (t:mG) (xs:List Rat) (y x:Rat) (e c B kk k:Nat) (w:World) (hv:ib kk B w v t) (hu:dk w u x k) (hx:t[e]? =some xs) (hy:xs[c]? =some y) (GW:kk<=1000000) (hk:k<=1000000) (hs:lR (y+x) kk):
 Calls Tryz.prog 64 #[.agg #[v],.agg #[.int .i64 (e:Int),.int .i64 (c:Int)],u] w λo w'=>o=.returned (.tuple #[])/\ib kk B w' v (tK t e c x)/\lT TX w w'/\∀ W,ax W w->W.heap.size<=B->ax W w':=(Nv v u t xs y x e c B kk k w hv hu hx hy GW hk hs).mono (λo w' ⟨h1,h2,h3,h4,_⟩=>⟨h1,h2,h3,h4⟩)
set_option maxRecDepth 4000
abbrev sf:=ByteArray×ByteArray×Rat
def BkE (kk:Nat) (w:World) (cs:List Value) (b:sf):Prop:=∃ s p n c t y m d,cs=[.string b.1,.string b.2.1,.bool s,.slice p n c,.bool t,.slice y m d]/\dk w (.agg #[.bool s,.slice p n c,.bool t,.slice y m d]) b.2.2 kk
theorem QQ (kk:Nat):gp (BkE kk) 6 where
 kp:=λh k=>by
  obtain⟨s,p,n,c,t,y,m,d,hv,h2⟩:=h;exact⟨_,_,_,_,_,_,_,_,hv,h2.kp k⟩
 len:=λh=>by
  obtain⟨s,p,n,c,t,y,m,d,rfl,_⟩:=h;rfl
 ok:=λh=>by
  obtain⟨s,p,n,c,t,y,m,d,rfl,_⟩:=h;rfl
def YbE (kk:Nat) (w:World) (cs:List Value) (l:List sf):Prop:=∃ n h b d s q,cs=[n,h,b,d,s,q]/\bK (BkE kk) 6 w b l
theorem yb_b (kk:Nat):ElB (YbE kk):=λh hb=>by
 obtain⟨n,h,b,d,s,q,hv,h2⟩:=h;exact⟨_,_,_,_,_,_,hv,h2.aA (QQ kk) hb⟩
def Nw (names:List ByteArray) (b:sf):Int:=qd (λx=>b.1.toList == x.toList) names
def Nx (cls:List iB) (b:sf):Int:=qd (λx=>x.1.toList == b.2.1.toList) cls
def vd (names:List ByteArray) (cls:List iB) (o:Option mG) (b:sf):Option mG:=o.bind λt=>if pk t (Nw names b) (Nx cls b)=true then some (tK t (Nw names b).toNat (Nx cls b).toNat b.2.2) else none
def jL (names:List ByteArray) (cls:List iB) (l:List sf):Option mG:=l.foldl (vd names cls) (some (qe names.length cls.length))
variable {l:List sf} {names:List ByteArray} {z:Nat}
theorem wL {cls:List iB} {b:sf} (h:l[z]? =some b):jL names cls (l.take (z+1))=vd names cls (jL names cls (l.take z)) b:=by
 unfold jL;rw[fj h,List.foldl_append];rfl
theorem Ar {names:List ByteArray} {cls:List iB}:∀ (l:List sf),l.foldl (vd names cls) none=none
 | []=>rfl
 | _::r=>Ar r
theorem Dj {cls:List iB} (h:jL names cls (l.take z)=none):jL names cls l=none:=by
 have:jL names cls l=(l.drop z).foldl (vd names cls) (jL names cls (l.take z)):=by
  unfold jL;rw[<-List.foldl_append,oi]
 rw[this,h,Ar]
def rK (dD:List ByteArray) (cls:List iB) (jn:List (List sf)) (year:Int):Option mG:=if year<0\/(jn.length:Int)<=year then none else jL (fq dD) cls (jn.getD year.toNat [])
def totE (o:Option mG):Int:=if o.isSome then 0 else 2
def LR (t:mG) (n:Nat):Prop:=∀ r∈t,∀ x∈r,lR x n
theorem Ic (a b:Nat):LR (qe a b) 1:=λr hr x hx=>by
 rw[(KR.1 hr).2] at hx;rw[(KR.1 hx).2];exact lR.zero
variable {t:mG}
theorem Nz {n k e c:Nat} {x:Rat} (h:LR t n) (hx:lR x k):LR (tK t e c x) (n+k+1):=λr hr y hy=>by
 obtain⟨i,hi⟩:=sE hr;obtain⟨r0,h0⟩:∃ r0,t[i]? =some r0:=⟨_,aH (by rw[<-Am t e c x];exact (bd.1 hi).1)⟩;rw[yE h0] at hi;have hm:=h r0 (dc h0);by_cases he:i=e
 ·rw[if_pos he] at hi;cases hi;obtain⟨j,hj⟩:=sE hy;rw[KO] at hj;obtain⟨y0,Du,rfl⟩:=Ff.1 hj;have h2:=hm y0 (dc Du);by_cases hc:c=j
  ·simp only[hc,if_true];exact h2.add hx
  ·simp only[hc,if_false];exact h2.mono ae
 ·rw[if_neg he] at hi;cases hi;exact (hm y hy).mono ae
theorem si {e c:Int} (h:pk t e c=true):∃ (E K:Nat) (xs:List Rat) (y:Rat),e=E/\c=K/\t[E]? =some xs/\xs[K]? =some y:=by
 unfold pk at h;obtain⟨h1,h2,h3,h4⟩:=mY h;obtain⟨E,rfl⟩:=qG h1;obtain⟨K,rfl⟩:=qG h3;rw[bh] at h4;have h5:t[E]? =some (t[E]'ae):=aH ae;rw[lU,h5] at h4;exact⟨E,K,_,_,aa,aa,h5,aH (by simpa using h4)⟩
abbrev TQ:TypeId->Bool:=λt=>(Nat.beq t 9 || (Nat.beq t 105 || Nat.beq t 27))
abbrev Bw (P:Program) (w:World) (N:Nat):Cx:={ P:=P,w0:=w,N:=N,K:=⟨UU,λ_=>True,λt=>TQ t⟩,SU:=λt=>Nat.beq t 23,ti:=table,keep:=λ_ _=>trivial }
theorem lf (w:World) (N:Nat):(Bw Tryz.prog w N).Ok:=gn
theorem NA (w:World) (N:Nat):(Bw Tryz.prog w N).P.follows .mixedOrders=true:=by show Tryz.prog.follows .mixedOrders=true;kernel_rfl
section
variable {F F':Fr} {H H':Hp} {w w1:World} {N:Nat} {l':List Oper} {Q:Exit->Act->World->Prop} {k:List It} {id:Nat} {ops:Array Oper}
theorem QR (e:kW (Bw Tryz.prog w1 N) ops 80 ops.toList F H=(l',F',H')) (h:aE (Bw Tryz.prog w1 N) none ops l' (VS (Bw Tryz.prog w1 N) Q k) F' H' w):VS (Bw Tryz.prog w1 N) Q (.code (.region id ops false)::k) F H w:=VS.region (lf _ _) (VO.run 80 e h)
theorem cxQ_d (e:kW (Bw Tryz.prog w1 N) ops 80 ops.toList F H=(l',F',H')) (h:aE (Bw Tryz.prog w1 N) (some []) ops l' (VS (Bw Tryz.prog w1 N) Q k) F' H' w) (kH:mv (Bw Tryz.prog w1 N).SU [] ops=true:=by kernel_rfl):VS (Bw Tryz.prog w1 N) Q (.code (.region id ops true)::k) F H w:=VS.draw (lf _ _) (NA _ _) [] kH (VO.run 80 e h)
end
variable {P Q:Prop}
theorem bH (h:Q) (i:Q->P:=by intro h;(repeat first|refine wN ?_|refine wP rfl ?_|refine QR rfl ?_|refine cxQ_d rfl ?_|refine wO rfl rfl ?_);exact h):P:=i h
theorem rL {X:Prop} (hb:X) (h:Q) (i:X->Q->P:=by intro hb h;refine⟨_,rfl,hb,λa b c=>wV rfl ?_⟩;refine bH ?_;revert a b c;exact h):P:=i hb h
set_option maxRecDepth 8000 in
theorem xJ (nm pa pB nB cB sT pT nT cT tT yT mT dT sC pC nC cC tC yC mC dC bk fw sI pI nI cI tI yI mI dI sF pF nF cF tF yF mF dF kp pc Nc cc pe Ne ce py Ny cy:_) (year:Int) (dD:List ByteArray) (cls:List iB) (jn:List (List sf)) (kk nb:Nat) (w:World) (hc:bK (uZ kk) 6 w (.slice pc Nc cc) cls) (he:bK ed 1 w (.slice pe Ne ce) dD) (hy:bK (YbE kk) 6 w (.slice py Ny cy) jn) (hk:1<=kk) (yv:kk<=1000) (Lb:∀ l∈jn,l.length<=nb) (hnb1:nb<=100) (hNe:dD.length<=10000) (hNc:cls.length<=10000):
  Calls Tryz.prog 13 #[.agg #[.string nm,.string pa,.slice pB nB cB,.bool sT,.slice pT nT cT,.bool tT,.slice yT mT dT,.bool sC,.slice pC nC cC,.bool tC,.slice yC mC dC,.int .i64 bk,.int .i64 fw,.bool sI,.slice pI nI cI,.bool tI,.slice yI mI dI,.bool sF,.slice pF nF cF,.bool tF,.slice yF mF dF,.int .i64 kp,.slice pc Nc cc,.slice pe Ne ce,.slice py Ny cy],.int .i64 year] w λo w'=>∃ r,o=.returned (.tuple #[.agg #[r],.int .i64 (totE (rK dD cls jn year))])/\ib (1+nb*(kk+1)) w.heap.size w' r ((rK dD cls jn year).getD [])/\ax w w':=by
 obtain⟨KK,hKK⟩:∃ KK,KK=1+nb*(kk+1):=⟨_,aa⟩
 have hKb:KK<=1000000:=by
  have:nb*(kk+1)<=100*1001:=uc hnb1 ae;omega
 rw[<-hKK];obtain⟨p',c',e1,hce,hce2⟩:=he.form;cases e1;obtain⟨p',c',e1,hcc,hcc2⟩:=hc.form;cases e1;obtain⟨p',c',e1,hyc,hyc2⟩:=hy.form;cases e1;refine ai (C:=Bw Tryz.prog w _) (args:=[_,_]) Tryz.func13 aa Tryz.ntmps13 (cG aa) ?_;refine bH ?_
 have bad:∀ (W:World) (hB:ax w W),(rK dD cls jn year)=none->∃ r,(Ending.returned (.tuple #[.agg #[.slice none 0 0],.int .i64 2]))=.returned (.tuple #[.agg #[r],.int .i64 (totE (rK dD cls jn year))])/\ib KK w.heap.size W r ((rK dD cls jn year).getD [])/\ax w W:=λW hB hn=>by
  rw[hn];exact⟨_,aa,ib.nil _ _ _,hB⟩
 by_cases OV:year<0
 ·refine VO.fix 13 aa (au (λb=>AV.val (.bool b)) (aU OV)) ?_;refine bH ?_;refine VS.ret (lf _ _) aa aa (λwz kz bz=> ?_);exact bad _ bz (by unfold rK;rw[if_pos (.inl OV)])
 refine VO.fix 13 aa (au (λb=>AV.val (.bool b)) (aR OV)) ?_;refine bH ?_;by_cases OU:(jn.length:Int)<=year
 ·refine VS.bB aa (aU OU) ?_;refine bH ?_;refine VS.ret (lf _ _) aa aa (λwz kz bz=> ?_);exact bad _ bz (by unfold rK;rw[if_pos (.inr OU)])
 refine VS.bC aa (aR OU) ?_;obtain⟨Y,rfl⟩:=qG (show 0<=year by omega);obtain⟨bks,hbks⟩:∃ l,jn[Y]? =some l:=⟨_,aH ae⟩
 have hR:rK dD cls jn (Y:Int)=jL (fq dD) cls bks:=by
  unfold rK;rw[if_neg ae,bh,lU,hbks];rfl
 have hnbk:=Lb bks (dc hbks);obtain⟨Bx,Bz,csy,rfl,vE,⟨yn,yh,yb,yd,ys,yq,rfl,hbk⟩⟩:=hy.at hbks;obtain⟨pb,cb,rfl,EX,hbc2⟩:=hbk.form;refine bH ?_;refine VO.call aa aa (fk Tryz.func61) (λcV eG db=>(JY _ _ _ _ _ _ _ _ _ _ _ _ _ _ _ _ _ _ _ _ _ _ _ _ _ _ _ _ _ _ _ _ _ _ _ _ _ _ _ _ _ _ _ _ _ _ _ _ _ dD cV (he.aA ba db) aa ae).mono ?_);rintro o w1 ⟨r1,rfl,q1,bF⟩;obtain⟨pn,cn,rfl⟩:=q1.form;refine rL bF ?_;intro fM _ bb1;refine VO.call aa aa (fk Tryz.func34) (λeD gO fG=>(Ke _ _ eD (by rw[pj];omega) ae).mono ?_);rintro o w2 ⟨r2,rfl,q2,cJ⟩;obtain⟨p2,c2,rfl⟩:=q2.form;refine rL cJ ?_;intro jH _ bb2;refine VO.cond aa fb ?_;refine wV aa ?_;refine bH ?_;refine VO.read aa [.slice pb bks.length cb] aa (bf vE 2 _ ⟨_,aa⟩) (wV aa ?_);refine bH ?_;obtain⟨N,hN⟩:∃ N,N=bks.length:=⟨_,aa⟩;rw[<-hN] at hbk EX hnbk ⊢;have hpbk:=hbk
 refine VS.fL (J:=λm L W=>∃ (z g2 g4 g7:Nat) (tv nv:Value) (t:mG),z<=N/\m=N-z/\L=[(1,.int .i64 (Y:Int)),(2,.pointer (some ⟨g2,0,none⟩)),(4,.pointer (some ⟨g4,0,none⟩)),(6,nv),(7,.pointer (some ⟨g7,0,none⟩)),(34,.slice pb N cb),(35,.int .i64 (N:Int)),(36,.int .i64 (z:Int))]/\ax w W/\w.heap.size<=g4/\g4≠g7/\aQ W g2 32 #[.string nm,.string pa,.slice pB nB cB,.bool sT,.slice pT nT cT,.bool tT,.slice yT mT dT,.bool sC,.slice pC nC cC,.bool tC,.slice yC mC dC,.int .i64 bk,.int .i64 fw,.bool sI,.slice pI nI cI,.bool tI,.slice yI mI dI,.bool sF,.slice pF nF cF,.bool tF,.slice yF mF dF,.int .i64 kp,.slice pc cls.length cc,.slice pe dD.length ce,.slice (some ⟨Bx,Bz,none⟩) jn.length cy]/\aQ W g4 52 #[.slice none 0 0]/\aQ W g7 52 #[tv]/\ay ed 1 9 w.heap.size W nv (fq dD)/\ib KK w.heap.size W tv t/\jL (fq dD) cls (bks.take z)=some t/\LR t (1+z*(kk+1)))
  (λW=>Bw Tryz.prog W 62) (λ_=>rfl) (λ_=>rfl) (λ_=>ax.refl _) N (λw' β k' o en=> ?_) ?_
 ·refine⟨[(1,.int .i64 (Y:Int)),(2,.pointer (some ⟨β 2,0,none⟩)),(4,.pointer (some ⟨β 4,0,none⟩)),(6,.slice pn (fq dD).length cn),(7,.pointer (some ⟨β 7,0,none⟩)),(34,.slice pb N cb),(35,.int .i64 (N:Int)),(36,.int .i64 ((0:Nat):Int))],⟨⟨_,_,aa,aa,aa⟩,⟨_,_,aa,aa,aa⟩,⟨_,_,aa,aa,aa⟩,⟨_,_,aa,aa,aa⟩,⟨_,_,aa,aa,aa⟩,⟨_,_,aa,aa,aa⟩,⟨_,_,aa,by rw[hN];rfl,rfl⟩,⟨_,_,aa,aa,aa⟩,aj⟩,0,β 2,β 4,β 7,_,_,_,ae,aa,aa,o,(en.own 4 _ _ aa).new,(λh=>absurd (en.apart 4 7 (by intro h;cases h) (by intro h;cases h) h) cW),(en.own 2 _ _ aa).cls,(en.own 4 _ _ aa).cls,(en.own 7 _ _ aa).cls,?_,?_,aa,by rw[uf];exact Ic _ _⟩
  ·exact (q1.kp ba (show lT TQ w1 w' from dA) aa).mono db.size
  ·exact ((q2.kp (show lT TQ w2 w' from dA) aa aa).up ae).mono fG.size
 rintro m L W ⟨z,g2,g4,g7,tv,nv,t,hz,rfl,rfl,il,po,hg47,hg2,vA,hg7,hnv,hT,hF,hS⟩;obtain⟨pn2,cn2,rfl⟩:=hnv.form;refine bH ?_;by_cases hlt:z<N
 ·obtain⟨bk,hbz⟩:∃ x,bks[z]? =some x:=⟨_,aH ae⟩;have hbkW:bK (BkE kk) 6 W (.slice pb N cb) bks:=hpbk.aA (QQ kk) il;obtain⟨bb,ob,csb,rfl,Bu,⟨s9,p9,n9,c9,t9,y9,m9,d9,rfl,hin9⟩⟩:=hbkW.at hbz;have hcW:bK (uZ kk) 6 W (.slice pc cls.length cc) cls:=hc.aA (se kk) il
  have AX:∀ (b:Nat) (v:Value),Ao tv=some b->g7≠b/\g4≠b:=λb v hb=>by
   obtain⟨us,h1,_⟩:=hT;rcases h1 with ⟨rfl,_⟩|⟨b',c',vs,sp,rfl,hB,cZ,_⟩
   ·cases hb
   ·cases hb;exact⟨λh=>by rw[h] at hg7;exact absurd (bL hg7 cZ) cW,λh=>by rw[h] at vA;exact absurd (bL vA cZ) cW⟩
  refine VS.bB aa (aU (aW.2 hlt)) ?_;refine bH ?_;refine VO.cond aa fb ?_;refine wV aa ?_;refine bH ?_;refine VO.read aa [.string bk.1,.string bk.2.1,.bool s9,.slice p9 n9 c9,.bool t9,.slice y9 m9 d9] aa (bf Bu 0 _ ⟨[],aa⟩) (wV aa ?_);refine bH ?_;refine VO.call aa aa (fk Tryz.func62) (λiG iK jm=>(Ka _ (fq dD) bk.1 iG ((hnv.sl ba).aA ba jm)).mono ?_);rintro o w3 ⟨rfl,ee⟩;have hst:jL (fq dD) cls (bks.take (z+1))=if pk t (Nw (fq dD) bk) (Nx cls bk)=true then some (tK t (Nw (fq dD) bk).toNat (Nx cls bk).toNat bk.2.2) else none:=by rw[wL hbz,hF];rfl
  have he0:qd (λx=>bk.1.toList == x.toList) (fq dD)=Nw (fq dD) bk:=aa;rw[he0];generalize Nw (fq dD) bk=ei at hst ⊢;refine⟨_,aa,ee,λnH _ bb3=>wV aa ?_⟩
  (repeat (first|refine wN ?_|refine wP aa ?_|refine QR aa ?_|refine wO aa aa ?_))
  refine VO.read aa [.slice pc cls.length cc] aa (aX (hg2.cell (j:=22) aa)) (wV aa ?_)
  (repeat (first|refine wN ?_|refine wP aa ?_|refine QR aa ?_|refine wO aa aa ?_))
  refine VO.call aa aa (fk Tryz.func16) (λmB pE pG=>(Kb _ cls bk.2.1 kk mB (hcW.aA (se kk) pG)).mono ?_);rintro o w4 ⟨rfl,jJ⟩;have Oi:qd (λx=>x.1.toList == bk.2.1.toList) cls=Nx cls bk:=aa;rw[Oi];generalize Nx cls bk=ci at hst ⊢;refine rL jJ ?_;intro sO _ Ej;refine VO.read aa [tv] aa (aX (hg7.cell (j:=0) aa)) (wV aa ?_);refine bH ?_;refine VO.call aa aa (fk Cj) (λmP oV og=>(Al _ t ei ci KK mP (hT.Nu.qB (jE KK) og)).mono ?_);rintro o w5 ⟨rfl,lL⟩;cases hh:pk t ei ci with
  | false=>
    refine⟨_,aa,lL,λtw _ Ek=>wV aa ?_⟩
    (repeat (first|refine wN ?_|refine wP aa ?_|refine wO aa aa ?_))
    refine VS.cK dp (λt=>Nat.beq t 23) table (λ_ _ _=>trivial) (λbI nA k1 ic qF=> ?_);have aB:ax W bI:=ic
    have eh:dv dp 62 [g4] [(52,[.val (.slice none 0 0)])] bI:=by
     refine⟨aa,cf,λj g' c' hj hc=> ?_,λc' hc=> ?_,λc' hc k hk=> ?_⟩
     ·match j,hj,hc with
      | 0,hj,hc=>cases hj;cases hc;exact vA.aA aB
      | j+1,hj,_=>simp at hj
     ·cases ak.1 hc;exact⟨aa,aa⟩
     ·cases ak.1 hc;cases hk
    refine⟨[g4],[(52,[.val (.slice none 0 0)])],eh,[(4,.box 124 0)],⟨⟨_,aa,aa,λi hi=>by rw[(by simpa [AV.ids] using hi:i=124)];exact⟨(by show 124<=124;omega),(by show 124<2*62+1;omega)⟩⟩,aj⟩,?_⟩;refine aq ?_;refine VS.ret (cM _ _) aa aa (λwz kz bz=> ?_);exact bad _ (dP.aA (il.aG aB) bz.1 (λx hx=>by rw[ak.1 hx];exact po)) (by rw[hR];exact Dj (z:=z+1) (by rw[hst,hh];rfl))
  | true=>
    obtain⟨E,Kc,xs,y,rfl,rfl,hx,hy'⟩:=si hh;rw[hh,if_pos rfl,bh,bh] at hst;have hRS:lR (y+bk.2.2) (1+z*(kk+1)+kk+1):=(hS xs (dc hx) y (dc hy')).add (hin9.sz hk);have hstep:1+z*(kk+1)+kk+1=1+(z+1)*(kk+1):=by rw[jO];omega
    have hle:1+(z+1)*(kk+1)<=KK:=by
     have:(z+1)*(kk+1)<=nb*(kk+1):=eQ _ ae;omega
    refine⟨_,aa,lL,λtw _ Ek=>wV aa ?_⟩
    (repeat (first|refine wN ?_|refine wP aa ?_|refine wO aa aa ?_))
    refine VS.jG (lf _ _) 4 aa aa aa (VO.run 80 aa ?_);refine VO.read aa [tv] aa (aX (hg7.cell (j:=0) aa)) (VO.run 80 aa ?_);refine VO.nil ⟨_,_,_,λw=>Bw Tryz.prog w 62,aa,aa,fk Tryz.func64,λ_=>aa,λ_=>aa,λ_=>ax.refl _,λw6 k6 b6=> ?_⟩;have od:ax W w6:=b6;refine (Ib tv _ t xs y bk.2.2 E Kc w.heap.size KK kk w6 (hT.aA od) (hin9.kp (Kp.of (U:=UU) od)) hx hy' hKb ae (hRS.mono ae)).mono ?_;rintro o w7 ⟨rfl,hT7,hkx,hold⟩
    refine⟨_,[(1,.int .i64 (Y:Int)),(2,.pointer (some ⟨g2,0,none⟩)),(4,.pointer (some ⟨g4,0,none⟩)),(6,.slice pn2 (fq dD).length cn2),(7,.pointer (some ⟨g7,0,none⟩)),(34,.slice (some ⟨bb,ob,none⟩) N cb),(35,.int .i64 (N:Int)),(36,.int .i64 (z:Int))],aa,⟨aa,aa,aa,aa,aa,aa,aa,aa,aj⟩,(λp hp e=>by
     simp only[List.mem_cons,List.not_mem_nil,or_false] at hp;rcases hp with rfl|rfl|rfl|rfl|rfl|rfl|rfl|rfl <;> cases e),?_⟩
    refine bH ?_;refine VS.eK aa (N-(z+1)) ae (λw' β k' o' en=> ?_);have o'':ax w7 w':=o';have kx':lT TX W w':=(aK.of od).aG (hkx.aG (aK.of o''));refine⟨[(1,.int .i64 (Y:Int)),(2,.pointer (some ⟨g2,0,none⟩)),(4,.pointer (some ⟨g4,0,none⟩)),(6,.slice pn2 (fq dD).length cn2),(7,.pointer (some ⟨g7,0,none⟩)),(34,.slice (some ⟨bb,ob,none⟩) N cb),(35,.int .i64 (N:Int)),(36,.int .i64 ((z+1:Nat):Int))],⟨⟨_,_,aa,aa,aa⟩,⟨_,_,aa,aa,aa⟩,⟨_,_,aa,aa,aa⟩,⟨_,_,aa,aa,aa⟩,⟨_,_,aa,aa,aa⟩,⟨_,_,aa,aa,aa⟩,⟨_,_,aa,aa,aa⟩,⟨_,_,aa,au (λz=>Value.int .i64 z) (bl (i:=z) ae),aa⟩,aj⟩,z+1,g2,g4,g7,tv,_,_,ae,aa,aa,(hold w (il.aG od) (aP _)).aG o'',po,hg47,kx'.block _ g2 _ aa aj hg2,kx'.block _ g4 _ aa aj vA,kx'.block _ g7 _ aa aj hg7,hnv.kp ba kx' aa,hT7.aA o'',hst,hstep▸Nz hS (hin9.sz hk)⟩
 refine VS.bC aa (aR (λh=>hlt (aW.1 h))) ?_;obtain rfl:N=z:=ae;rw[cO ae] at hF;obtain⟨ptv,ctv,rfl⟩:=hT.form;have hg74:g7≠g4:=λh=>hg47 h.symm
 (repeat (first|refine wN ?_|refine wP aa ?_|refine wO aa aa ?_))
 refine VS.cK dp (λt=>Nat.beq t 23) table (λ_ _ _=>trivial) (λbI nA k1 ic qF=> ?_);have aB:ax W bI:=ic
 have eh:dv dp 62 [g4] [(52,[.val (.slice none 0 0)])] bI:=by
  refine⟨aa,cf,λj g' c' hj hc=> ?_,λc' hc=> ?_,λc' hc k hk=> ?_⟩
  ·match j,hj,hc with
   | 0,hj,hc=>cases hj;cases hc;exact vA.aA aB
   | j+1,hj,_=>simp at hj
  ·cases ak.1 hc;exact⟨aa,aa⟩
  ·cases ak.1 hc;cases hk
 refine⟨[g4],[(52,[.val (.slice none 0 0)])],eh,[(4,.box 124 0),(7,.val (.pointer (some ⟨g7,0,none⟩)))],⟨⟨_,aa,aa,λi hi=>by rw[(by simpa [AV.ids] using hi:i=124)];exact⟨(by show 124<=124;omega),(by show 124<2*62+1;omega)⟩⟩,⟨_,aa,aa,λi hi=>(by cases hi)⟩,aj⟩,?_⟩;refine aq ?_;refine VO.bJ aa [.slice ptv t.length ctv] aa (at_one (cD hg74 ((hg7.aA aB).cell (j:=0) aa))) (wV aa ?_);refine aq ?_;refine VS.oU (cM _ _) aa (λwz β kz bz en=> ?_);rw[hR,hF];exact⟨_,aa,hT.kp (T:=λt=> !Nat.beq t 52) ((aK.of aB).aG (dP.kp bz.1 (λx hx=>⟨52,[.slice none 0 0],by rw[ak.1 hx];exact vA.aA aB,aa,aa⟩))) aa aa,dP.aA (il.aG aB) bz.1 (λx hx=>by rw[ak.1 hx];exact po)⟩
structure Rw where
 s:Bool
 xs:List Nat
 t:Bool
 ys:List Nat
def Rw.q (r:Rw):Rat:=rq r.s r.xs r.t r.ys
def Rw.of (q:Rat):Rw:=⟨decide (q.num<0),limbs q.num.natAbs,decide ((q.den:Int)<0),limbs (q.den:Int).natAbs⟩
def cP (kk:Nat) (w:World) (cs:List Value) (r:Rw):Prop:=∃ s p n c t y m d,cs=[.bool s,.slice p n c,.bool t,.slice y m d]/\fZ w (.agg #[.bool s,.slice p n c,.bool t,.slice y m d]) r.s r.xs r.t r.ys/\r.xs.length<=kk/\r.ys.length<=kk
variable {cs:List Value} {kk:Nat} {r:Rw} {w w':World}
theorem cP.kp {U:TypeId} {T:TypeId->Bool} (h:cP kk w cs r) (k:aK ⟨U,λ_=>True,T⟩ w w'):cP kk w' cs r:=by
 obtain⟨s,p,n,c,t,y,m,d,h1,h2,h3,h4⟩:=h;exact⟨_,_,_,_,_,_,_,_,h1,h2.kp k,h3,h4⟩
variable {j:Nat}
theorem cP.up {k:Nat} (h:cP j w cs r) (hk:j<=k):cP k w cs r:=by
 obtain⟨s,p,n,c,t,y,m,d,h1,h2,h3,h4⟩:=h;exact⟨_,_,_,_,_,_,_,_,h1,h2,ae,ae⟩
theorem cP.el (kk:Nat):gp (cP kk) 4 where
 kp:=λh k=>h.kp k
 len:=λh=>by
  obtain⟨s,p,n,c,t,y,m,d,rfl,_⟩:=h;rfl
 ok:=λh=>by
  obtain⟨s,p,n,c,t,y,m,d,rfl,_⟩:=h;rfl
variable {t:Bool} {c m d:Nat} {p y:Option Addr}
theorem cP.raw {s:Bool} {n:Nat} (h:cP kk w [.bool s,.slice p n c,.bool t,.slice y m d] r):fZ w (.agg #[.bool s,.slice p n c,.bool t,.slice y m d]) r.s r.xs r.t r.ys/\r.xs.length<=kk/\r.ys.length<=kk:=by
 obtain⟨_,_,_,_,_,_,_,_,h1,h2⟩:=h;cases h1;exact h2
theorem cP.in {s:Bool} {n:Nat} (h:cP kk w [.bool s,.slice p n c,.bool t,.slice y m d] r):dk w (.agg #[.bool s,.slice p n c,.bool t,.slice y m d]) r.q kk:=h.raw.1.in h.raw.2.1 h.raw.2.2
theorem cP.of {s:Bool} {n:Nat} {q:Rat} (h:iE w (.agg #[.bool s,.slice p n c,.bool t,.slice y m d]) q) (hs:lR q kk):cP kk w [.bool s,.slice p n c,.bool t,.slice y m d] (Rw.of q):=⟨_,_,_,_,_,_,_,_,rfl,h.raw,hs.1,hs.2⟩
theorem cP.mk {s:Bool} {n:Nat} (h:fZ w (.agg #[.bool s,.slice p n c,.bool t,.slice y m d]) r.s r.xs r.t r.ys) (h1:r.xs.length<=kk) (h2:r.ys.length<=kk):cP kk w [.bool s,.slice p n c,.bool t,.slice y m d] r:=⟨_,_,_,_,_,_,_,_,rfl,h,h1,h2⟩
abbrev BrR:=Rw×Rw
abbrev Au:=ByteArray×Nat×Rw
abbrev lg:=ByteArray×ByteArray×Rw
abbrev QS:=ByteArray×Rw×Rw
abbrev QT:=ByteArray×Rw
structure QU where
 give:Bool
 id:ByteArray
 kind:Nat
 rM:ByteArray
 rN:ByteArray
 cls:ByteArray
 Dk:Rw
def lH (kk:Nat) (w:World) (cs:List Value) (x:BrR):Prop:=∃ s0 p0 n0 c0 t0 y0 m0 d0 s1 p1 n1 c1 t1 y1 m1 d1,cs=[.bool s0,.slice p0 n0 c0,.bool t0,.slice y0 m0 d0,.bool s1,.slice p1 n1 c1,.bool t1,.slice y1 m1 d1]/\cP kk w [.bool s0,.slice p0 n0 c0,.bool t0,.slice y0 m0 d0] x.1/\cP kk w [.bool s1,.slice p1 n1 c1,.bool t1,.slice y1 m1 d1] x.2
theorem lH.el (kk:Nat):gp (lH kk) 8 where
 kp:=λh k=>by
  obtain⟨s0,p0,n0,c0,t0,y0,m0,d0,s1,p1,n1,c1,t1,y1,m1,d1,hv,h0,h1⟩:=h;exact⟨_,_,_,_,_,_,_,_,_,_,_,_,_,_,_,_,hv,h0.kp k,h1.kp k⟩
 len:=λh=>by
  obtain⟨s0,p0,n0,c0,t0,y0,m0,d0,s1,p1,n1,c1,t1,y1,m1,d1,rfl,_⟩:=h;rfl
 ok:=λh=>by
  obtain⟨s0,p0,n0,c0,t0,y0,m0,d0,s1,p1,n1,c1,t1,y1,m1,d1,rfl,_⟩:=h;rfl
theorem lH.up {k:Nat} {x:BrR} (h:lH j w cs x) (hk:j<=k):lH k w cs x:=by
 obtain⟨s0,p0,n0,c0,t0,y0,m0,d0,s1,p1,n1,c1,t1,y1,m1,d1,hv,h0,h1⟩:=h;exact⟨_,_,_,_,_,_,_,_,_,_,_,_,_,_,_,_,hv,h0.up hk,h1.up hk⟩
def lI (kk:Nat) (w:World) (cs:List Value) (x:Au):Prop:=∃ s0 p0 n0 c0 t0 y0 m0 d0,cs=[.string x.1,.int .u8 (x.2.1:Int),.bool s0,.slice p0 n0 c0,.bool t0,.slice y0 m0 d0]/\cP kk w [.bool s0,.slice p0 n0 c0,.bool t0,.slice y0 m0 d0] x.2.2/\x.2.1<256
theorem lI.el (kk:Nat):gp (lI kk) 6 where
 kp:=λh k=>by
  obtain⟨s0,p0,n0,c0,t0,y0,m0,d0,hv,h0,hx⟩:=h;exact⟨_,_,_,_,_,_,_,_,hv,h0.kp k,hx⟩
 len:=λh=>by
  obtain⟨s0,p0,n0,c0,t0,y0,m0,d0,rfl,_⟩:=h;rfl
 ok:=λh=>by
  obtain⟨s0,p0,n0,c0,t0,y0,m0,d0,rfl,_⟩:=h;rfl
theorem lI.up {k:Nat} {x:Au} (h:lI j w cs x) (hk:j<=k):lI k w cs x:=by
 obtain⟨s0,p0,n0,c0,t0,y0,m0,d0,hv,h0,hx⟩:=h;exact⟨_,_,_,_,_,_,_,_,hv,h0.up hk,hx⟩
def dR (kk:Nat) (w:World) (cs:List Value) (x:lg):Prop:=∃ s0 p0 n0 c0 t0 y0 m0 d0,cs=[.string x.1,.string x.2.1,.bool s0,.slice p0 n0 c0,.bool t0,.slice y0 m0 d0]/\cP kk w [.bool s0,.slice p0 n0 c0,.bool t0,.slice y0 m0 d0] x.2.2
theorem dR.el (kk:Nat):gp (dR kk) 6 where
 kp:=λh k=>by
  obtain⟨s0,p0,n0,c0,t0,y0,m0,d0,hv,h0⟩:=h;exact⟨_,_,_,_,_,_,_,_,hv,h0.kp k⟩
 len:=λh=>by
  obtain⟨s0,p0,n0,c0,t0,y0,m0,d0,rfl,_⟩:=h;rfl
 ok:=λh=>by
  obtain⟨s0,p0,n0,c0,t0,y0,m0,d0,rfl,_⟩:=h;rfl
variable {x:lg}
theorem dR.up {k:Nat} (h:dR j w cs x) (hk:j<=k):dR k w cs x:=by
 obtain⟨s0,p0,n0,c0,t0,y0,m0,d0,hv,h0⟩:=h;exact⟨_,_,_,_,_,_,_,_,hv,h0.up hk⟩
def mH (kk:Nat) (w:World) (cs:List Value) (x:QU):Prop:=∃ s0 p0 n0 c0 t0 y0 m0 d0,cs=[.bool x.give,.string x.id,.int .u8 (x.kind:Int),.string x.rM,.string x.rN,.string x.cls,.bool s0,.slice p0 n0 c0,.bool t0,.slice y0 m0 d0]/\cP kk w [.bool s0,.slice p0 n0 c0,.bool t0,.slice y0 m0 d0] x.Dk/\x.kind<256
theorem mH.el (kk:Nat):gp (mH kk) 10 where
 kp:=λh k=>by
  obtain⟨s0,p0,n0,c0,t0,y0,m0,d0,hv,h0,hx⟩:=h;exact⟨_,_,_,_,_,_,_,_,hv,h0.kp k,hx⟩
 len:=λh=>by
  obtain⟨s0,p0,n0,c0,t0,y0,m0,d0,rfl,_⟩:=h;rfl
 ok:=λh=>by
  obtain⟨s0,p0,n0,c0,t0,y0,m0,d0,rfl,_⟩:=h;rfl
theorem mH.up {k:Nat} {x:QU} (h:mH j w cs x) (hk:j<=k):mH k w cs x:=by
 obtain⟨s0,p0,n0,c0,t0,y0,m0,d0,hv,h0,hx⟩:=h;exact⟨_,_,_,_,_,_,_,_,hv,h0.up hk,hx⟩
def mJ (kk:Nat) (w:World) (cs:List Value) (x:QS):Prop:=∃ s0 p0 n0 c0 t0 y0 m0 d0 s1 p1 n1 c1 t1 y1 m1 d1,cs=[.string x.1,.bool s0,.slice p0 n0 c0,.bool t0,.slice y0 m0 d0,.bool s1,.slice p1 n1 c1,.bool t1,.slice y1 m1 d1]/\cP kk w [.bool s0,.slice p0 n0 c0,.bool t0,.slice y0 m0 d0] x.2.1/\cP kk w [.bool s1,.slice p1 n1 c1,.bool t1,.slice y1 m1 d1] x.2.2
theorem mJ.el (kk:Nat):gp (mJ kk) 9 where
 kp:=λh k=>by
  obtain⟨s0,p0,n0,c0,t0,y0,m0,d0,s1,p1,n1,c1,t1,y1,m1,d1,hv,h0,h1⟩:=h;exact⟨_,_,_,_,_,_,_,_,_,_,_,_,_,_,_,_,hv,h0.kp k,h1.kp k⟩
 len:=λh=>by
  obtain⟨s0,p0,n0,c0,t0,y0,m0,d0,s1,p1,n1,c1,t1,y1,m1,d1,rfl,_⟩:=h;rfl
 ok:=λh=>by
  obtain⟨s0,p0,n0,c0,t0,y0,m0,d0,s1,p1,n1,c1,t1,y1,m1,d1,rfl,_⟩:=h;rfl
theorem mJ.up {k:Nat} {x:QS} (h:mJ j w cs x) (hk:j<=k):mJ k w cs x:=by
 obtain⟨s0,p0,n0,c0,t0,y0,m0,d0,s1,p1,n1,c1,t1,y1,m1,d1,hv,h0,h1⟩:=h;exact⟨_,_,_,_,_,_,_,_,_,_,_,_,_,_,_,_,hv,h0.up hk,h1.up hk⟩
def mK (kk:Nat) (w:World) (cs:List Value) (x:QT):Prop:=∃ s0 p0 n0 c0 t0 y0 m0 d0,cs=[.string x.1,.bool s0,.slice p0 n0 c0,.bool t0,.slice y0 m0 d0]/\cP kk w [.bool s0,.slice p0 n0 c0,.bool t0,.slice y0 m0 d0] x.2
theorem mK.el (kk:Nat):gp (mK kk) 5 where
 kp:=λh k=>by
  obtain⟨s0,p0,n0,c0,t0,y0,m0,d0,hv,h0⟩:=h;exact⟨_,_,_,_,_,_,_,_,hv,h0.kp k⟩
 len:=λh=>by
  obtain⟨s0,p0,n0,c0,t0,y0,m0,d0,rfl,_⟩:=h;rfl
 ok:=λh=>by
  obtain⟨s0,p0,n0,c0,t0,y0,m0,d0,rfl,_⟩:=h;rfl
theorem mK.up {k:Nat} {x:QT} (h:mK j w cs x) (hk:j<=k):mK k w cs x:=by
 obtain⟨s0,p0,n0,c0,t0,y0,m0,d0,hv,h0⟩:=h;exact⟨_,_,_,_,_,_,_,_,hv,h0.up hk⟩
structure ve where
 num:Int
 holds:List lg
 bn:List lg
 dE:List QU
 di:List QS
 ft:List QT
def vD (kk:Nat) (w:World) (cs:List Value) (y:ve):Prop:=∃ h b d s q,cs=[.int .i64 y.num,h,b,d,s,q]/\bK (dR kk) 6 w h y.holds/\bK (dR kk) 6 w b y.bn/\bK (mH kk) 10 w d y.dE/\bK (mJ kk) 9 w s y.di/\bK (mK kk) 5 w q y.ft
theorem vD.b (kk:Nat):ElB (vD kk):=λh hb=>by
 obtain⟨h,b,d,s,q,hv,h1,h2,h3,h4,h5⟩:=h;exact⟨_,_,_,_,_,hv,h1.aA (dR.el kk) hb,h2.aA (dR.el kk) hb,h3.aA (mH.el kk) hb,h4.aA (mJ.el kk) hb,h5.aA (mK.el kk) hb⟩
structure kM where
 name:ByteArray
 parent:ByteArray
 Fa:List BrR
 On:Rw
 cap:Rw
 bk:Int
 fw:Int
 Oo:Rw
 Oq:Rw
 kp:Int
 cls:List Au
 dD:List ByteArray
 jn:List ve
def sB (kk:Nat) (w:World) (v:Value) (f:kM):Prop:=∃ pB nB cB sT pT nT cT tT yT mT dT sC pC nC cC tC yC mC dC sI pI nI cI tI yI mI dI sF pF nF cF tF yF mF dF pc Nc cc pe Ne ce py Ny cy,v=.agg #[.string f.name,.string f.parent,.slice pB nB cB,.bool sT,.slice pT nT cT,.bool tT,.slice yT mT dT,.bool sC,.slice pC nC cC,.bool tC,.slice yC mC dC,.int .i64 f.bk,.int .i64 f.fw,.bool sI,.slice pI nI cI,.bool tI,.slice yI mI dI,.bool sF,.slice pF nF cF,.bool tF,.slice yF mF dF,.int .i64 f.kp,.slice pc Nc cc,.slice pe Ne ce,.slice py Ny cy]/\bK (lH kk) 8 w (.slice pB nB cB) f.Fa/\cP kk w [.bool sT,.slice pT nT cT,.bool tT,.slice yT mT dT] f.On/\cP kk w [.bool sC,.slice pC nC cC,.bool tC,.slice yC mC dC] f.cap/\cP kk w [.bool sI,.slice pI nI cI,.bool tI,.slice yI mI dI] f.Oo/\cP kk w [.bool sF,.slice pF nF cF,.bool tF,.slice yF mF dF] f.Oq/\bK (lI kk) 6 w (.slice pc Nc cc) f.cls/\bK ed 1 w (.slice pe Ne ce) f.dD/\bK (vD kk) 6 w (.slice py Ny cy) f.jn
variable {v:Value}
theorem sB.aA {f:kM} (h:sB kk w v f) (hb:ax w w'):sB kk w' v f:=by
 obtain⟨pB,nB,cB,sT,pT,nT,cT,tT,yT,mT,dT,sC,pC,nC,cC,tC,yC,mC,dC,sI,pI,nI,cI,tI,yI,mI,dI,sF,pF,nF,cF,tF,yF,mF,dF,pc,Nc,cc,pe,Ne,ce,py,Ny,cy,hv,h1,h2,h3,h4,h5,h6,h7,h8⟩:=h;have k:Kp UU w w':=Kp.of hb;exact⟨_,_,_,_,_,_,_,_,_,_,_,_,_,_,_,_,_,_,_,_,_,_,_,_,_,_,_,_,_,_,_,_,_,_,_,_,_,_,_,_,_,_,_,_,hv,h1.aA (lH.el kk) hb,h2.kp k,h3.kp k,h4.kp k,h5.kp k,h6.aA (lI.el kk) hb,h7.aA ba hb,h8.qB (vD.b kk) hb⟩
def Au.k (x:Au):iB:=(x.1,x.2.1,x.2.2.q)
def lg.b (x:lg):sf:=(x.1,x.2.1,x.2.2.q)
variable {α:Type} {es:List α} {E:World->List Value->α->Prop}
theorem Av {β:Type} {E':World->List Value->β->Prop} {sz:Nat} {g:α->β} (h:bK E sz w v es) (hm:∀ (cs:List Value) (a:α),E w cs a->E' w cs (g a)):bK E' sz w v (es.map g):=by
 obtain⟨p,c,rfl,h1,h2,h3⟩:=h;refine⟨p,c,by rw[aM],by rw[aM];exact h1,h2,λi a ha=> ?_⟩;rw[jq] at ha;obtain⟨x,hx,rfl⟩:=Ff.1 ha;obtain⟨b,off,cs,hp,hc,hE⟩:=h3 i x hx;exact⟨b,off,cs,hp,hc,hm _ _ hE⟩
theorem lI.n {kk:Nat} {w:World} {cs:List Value} {x:Au} (h:lI kk w cs x):uZ kk w cs x.k:=by
 obtain⟨s,p,n,c,t,y,m,d,rfl,h0,hx⟩:=h;exact⟨_,_,_,_,_,_,_,_,aa,hx,h0.in⟩
theorem dR.bk (h:dR kk w cs x):BkE kk w cs x.b:=by
 obtain⟨s,p,n,c,t,y,m,d,rfl,h0⟩:=h;exact⟨_,_,_,_,_,_,_,_,aa,h0.in⟩
theorem vD.yb {y:ve} (h:vD kk w cs y):YbE kk w cs (y.bn.map lg.b):=by
 obtain⟨h,b,d,s,q,rfl,h1,h2,h3,h4,h5⟩:=h;exact⟨_,_,_,_,_,_,aa,Av h2 (λ_ _ h=>h.bk)⟩
def kM.tot (f:kM) (year:Int):Option mG:=rK f.dD (f.cls.map Au.k) (f.jn.map λy=>y.bn.map lg.b) year
theorem Aw (v:Value) (f:kM) (year:Int) (kk nb:Nat) (w:World) (hv:sB kk w v f) (hk:1<=kk) (yv:kk<=1000) (Lb:∀ y∈f.jn,y.bn.length<=nb) (hnb1:nb<=100) (hNe:f.dD.length<=10000) (hNc:f.cls.length<=10000):
  Calls Tryz.prog 13 #[v,.int .i64 year] w λo w'=>∃ r,o=.returned (.tuple #[.agg #[r],.int .i64 (totE (f.tot year))])/\ib (1+nb*(kk+1)) w.heap.size w' r ((f.tot year).getD [])/\ax w w':=by
 obtain⟨pB,nB,cB,sT,pT,nT,cT,tT,yT,mT,dT,sC,pC,nC,cC,tC,yC,mC,dC,sI,pI,nI,cI,tI,yI,mI,dI,sF,pF,nF,cF,tF,yF,mF,dF,pc,Nc,cc,pe,Ne,ce,py,Ny,cy,rfl,h1,h2,h3,h4,h5,h6,h7,h8⟩:=hv
 exact xJ _ _ _ _ _ _ _ _ _ _ _ _ _ _ _ _ _ _ _ _ _ _ _ _ _ _ _ _ _ _ _ _ _ _ _ _ _ _ _ _ _ _ _ _ _ _ _ _ _ year f.dD (f.cls.map Au.k) (f.jn.map λy=>y.bn.map lg.b) kk nb w (Av h6 (λ_ _ h=>h.n)) h7 (Av h8 (λ_ _ h=>h.yb)) hk yv (λl hl=>by
  obtain⟨y,hy,rfl⟩:=ey.1 hl;rw[aM];exact Lb y hy) hnb1 hNe (by rw[aM];exact hNc)
set_option maxRecDepth 4000
theorem Dl (n:Int) (w:World) (h0: -9223372036854775808<=n) (h1:n<=9223372036854775807):Calls Tryz.prog 106 #[.int .i64 n] w λe w'=>∃ r,e=.returned r/\cA w' w.heap.size r (Rat.divInt n 100)/\ax w w':=by
 refine ai (C:=aY Tryz.prog w _) (args:=[_]) Tryz.func106 aa Tryz.ntmps106 (cG aa) ?_;refine ag ?_;refine VO.cR aa aa (fk qo) (λcV eG db=>fJ n 100 cV h0 h1 ae ae) (λcV eG db w1 s1 p1 n1 c1 t1 y1 m1 d1 q1 bF fM _ bb1=>wV aa ?_);refine ag ?_;refine ck ?_;intro wz kz bz;exact⟨_,aa,(q1.k).mono db.size,bz⟩
theorem sj (n:Int) (w:World) (h0: -9223372036854775808<=n) (h1:n<=9223372036854775807):Calls Tryz.prog 107 #[.int .i64 n] w λe w'=>∃ r,e=.returned r/\cA w' w.heap.size r (Rat.divInt n 10000)/\ax w w':=by
 refine ai (C:=aY Tryz.prog w _) (args:=[_]) Tryz.func107 aa Tryz.ntmps107 (cG aa) ?_;refine ag ?_;refine VO.cR aa aa (fk qo) (λcV eG db=>fJ n 10000 cV h0 h1 ae ae) (λcV eG db w1 s1 p1 n1 c1 t1 y1 m1 d1 q1 bF fM _ bb1=>wV aa ?_);refine ag ?_;refine ck ?_;intro wz kz bz;exact⟨_,aa,(q1.k).mono db.size,bz⟩
variable {s0 t0:Bool} {a:ByteArray} {n0 c0 m0 d0:Nat} {p0 y0:Option Addr}
theorem dR.mk' {b:ByteArray} (h:cP kk w [.bool s0,.slice p0 n0 c0,.bool t0,.slice y0 m0 d0] r):dR kk w [.string a,.string b,.bool s0,.slice p0 n0 c0,.bool t0,.slice y0 m0 d0] (a,b,r):=⟨_,_,_,_,_,_,_,_,rfl,h⟩
variable {s1 t1:Bool} {n1 c1 m1 d1:Nat} {p1 y1:Option Addr} {u:Rw}
theorem mJ.mk' (h:cP kk w [.bool s0,.slice p0 n0 c0,.bool t0,.slice y0 m0 d0] r) (h':cP kk w [.bool s1,.slice p1 n1 c1,.bool t1,.slice y1 m1 d1] u):mJ kk w [.string a,.bool s0,.slice p0 n0 c0,.bool t0,.slice y0 m0 d0,.bool s1,.slice p1 n1 c1,.bool t1,.slice y1 m1 d1] (a,r,u):=⟨_,_,_,_,_,_,_,_,_,_,_,_,_,_,_,_,rfl,h,h'⟩
theorem lH.mk' (h:cP kk w [.bool s0,.slice p0 n0 c0,.bool t0,.slice y0 m0 d0] r) (h':cP kk w [.bool s1,.slice p1 n1 c1,.bool t1,.slice y1 m1 d1] u):lH kk w [.bool s0,.slice p0 n0 c0,.bool t0,.slice y0 m0 d0,.bool s1,.slice p1 n1 c1,.bool t1,.slice y1 m1 d1] (r,u):=⟨_,_,_,_,_,_,_,_,_,_,_,_,_,_,_,_,rfl,h,h'⟩
theorem mK.mk' (h:cP kk w [.bool s0,.slice p0 n0 c0,.bool t0,.slice y0 m0 d0] r):mK kk w [.string a,.bool s0,.slice p0 n0 c0,.bool t0,.slice y0 m0 d0] (a,r):=⟨_,_,_,_,_,_,_,_,rfl,h⟩
theorem lI.mk' {k:Nat} (h:cP kk w [.bool s0,.slice p0 n0 c0,.bool t0,.slice y0 m0 d0] r) (hk:k<256):lI kk w [.string a,.int .u8 (k:Int),.bool s0,.slice p0 n0 c0,.bool t0,.slice y0 m0 d0] (a,k,r):=⟨_,_,_,_,_,_,_,_,rfl,h,hk⟩
theorem mH.mk' {k:Nat} {g:Bool} {b c d:ByteArray} (h:cP kk w [.bool s0,.slice p0 n0 c0,.bool t0,.slice y0 m0 d0] r) (hk:k<256):mH kk w [.bool g,.string a,.int .u8 (k:Int),.string b,.string c,.string d,.bool s0,.slice p0 n0 c0,.bool t0,.slice y0 m0 d0] ⟨g,a,k,b,c,d,r⟩:=⟨_,_,_,_,_,_,_,_,rfl,h,hk⟩
def YrN (B:Nat) (w:World) (cs:List Value) (y:ve):Prop:=∃ h b d s q,cs=[.int .i64 y.num,h,b,d,s,q]/\ay (dR 2) 6 218 B w h y.holds/\ay (dR 2) 6 103 B w b y.bn/\ay (mH 2) 10 222 B w d y.dE/\ay (mJ 2) 9 226 B w s y.di/\ay (mK 2) 5 230 B w q y.ft
theorem YrN.six {B:Nat} {y:ve} (h:YrN B w cs y):∃ p1 n1 c1 p2 n2 c2 p3 n3 c3 p4 n4 c4 p5 n5 c5,cs=[.int .i64 y.num,.slice p1 n1 c1,.slice p2 n2 c2,.slice p3 n3 c3,.slice p4 n4 c4,.slice p5 n5 c5]:=by
 obtain⟨h,b,d,s,q,rfl,g1,g2,g3,g4,g5⟩:=h;obtain⟨p1,c1,rfl⟩:=g1.form;obtain⟨p2,c2,rfl⟩:=g2.form;obtain⟨p3,c3,rfl⟩:=g3.form;obtain⟨p4,c4,rfl⟩:=g4.form;obtain⟨p5,c5,rfl⟩:=g5.form;exact⟨_,_,_,_,_,_,_,_,_,_,_,_,_,_,_,aa⟩
def CE (n:Nat) (_:World) (cs:List Value) (x:List Value):Prop:=cs=x/\x.length=n/\x.all aO=true
theorem nO (n:Nat):gp (CE n) n where
 kp:=λh _=>h
 len:=λh=>by rw[h.1];exact h.2.1
 ok:=λh=>by rw[h.1];exact h.2.2
theorem LS {n:Nat} {vs:List (List Value)} (h:bK (CE n) n w v vs) (hl:vs.length=es.length) (hg:∀ (i:Nat) (u:List Value) (a:α),vs[i]? =some u->es[i]? =some a->E w u a):bK E n w v es:=by
 obtain⟨p,c,rfl,h1,h2,h3⟩:=h;refine⟨p,c,by rw[hl],by rw[<-hl];exact h1,h2,λi a ha=> ?_⟩;obtain⟨u,hu⟩:∃ u,vs[i]? =some u:=⟨_,aH (by rw[hl];exact (bd.1 ha).1)⟩;obtain⟨b,off,cs,hp,hc,hE⟩:=h3 i u hu;obtain⟨rfl,-⟩:=hE;exact⟨b,off,_,hp,hc,hg i _ a hu ha⟩
def FilN (B:Nat) (w:World) (v:Value) (f:kM):Prop:=∃ pB nB cB sT pT nT cT tT yT mT dT sC pC nC cC tC yC mC dC sI pI nI cI tI yI mI dI sF pF nF cF tF yF mF dF pc Nc cc pe Ne ce py Ny cy,v=.agg #[.string f.name,.string f.parent,.slice pB nB cB,.bool sT,.slice pT nT cT,.bool tT,.slice yT mT dT,.bool sC,.slice pC nC cC,.bool tC,.slice yC mC dC,.int .i64 f.bk,.int .i64 f.fw,.bool sI,.slice pI nI cI,.bool tI,.slice yI mI dI,.bool sF,.slice pF nF cF,.bool tF,.slice yF mF dF,.int .i64 f.kp,.slice pc Nc cc,.slice pe Ne ce,.slice py Ny cy]/\ay (lH 2) 8 127 B w (.slice pB nB cB) f.Fa/\cP 2 w [.bool sT,.slice pT nT cT,.bool tT,.slice yT mT dT] f.On/\cP 2 w [.bool sC,.slice pC nC cC,.bool tC,.slice yC mC dC] f.cap/\cP 2 w [.bool sI,.slice pI nI cI,.bool tI,.slice yI mI dI] f.Oo/\cP 2 w [.bool sF,.slice pF nF cF,.bool tF,.slice yF mF dF] f.Oq/\ay (lI 2) 6 64 B w (.slice pc Nc cc) f.cls/\ay ed 1 9 B w (.slice pe Ne ce) f.dD/\∃ QV,ay (CE 6) 6 99 B w (.slice py Ny cy) QV/\QV.length=f.jn.length/\∀ (i:Nat) (cs:List Value) (y:ve),QV[i]? =some cs->f.jn[i]? =some y->YrN B w cs y
abbrev fu:TypeId->Bool:=λt=>(Nat.beq t 127 || (Nat.beq t 64 || (Nat.beq t 9 || (Nat.beq t 99 || (Nat.beq t 218 || (Nat.beq t 103 || (Nat.beq t 222 || (Nat.beq t 226 || Nat.beq t 230))))))))
set_option maxRecDepth 4000
theorem vD.at (kk:Nat) (w:World):gp (λ_:World=>vD kk w) 6 where
 kp:=λh _=>h
 len:=λh=>by
  obtain⟨h,b,d,s,q,rfl,_⟩:=h;rfl
 ok:=λh=>by
  obtain⟨h,b,d,s,q,rfl,h1,h2,h3,h4,h5⟩:=h;obtain⟨_,_,rfl⟩:=h1.sl;obtain⟨_,_,rfl⟩:=h2.sl;obtain⟨_,_,rfl⟩:=h3.sl;obtain⟨_,_,rfl⟩:=h4.sl;obtain⟨_,_,rfl⟩:=h5.sl;rfl
def iM:kM:={ name:=⟨#[83]⟩,parent:=⟨#[80]⟩,Fa:=[((Rw.of (Rat.divInt 0 100)),(Rw.of (Rat.divInt 2500 10000)))],On:=(Rw.of (Rat.divInt 7500 10000)),cap:=(Rw.of (Rat.divInt 5000 10000)),bk:=1,fw:=2,Oo:=(Rw.of (Rat.divInt 3000 10000)),Oq:=(Rw.of (Rat.divInt 0 100)),kp:=1,cls:=[],dD:=[⟨#[80]⟩],jn:=[⟨2020,[],[],[],[],[]⟩] }
set_option maxRecDepth 8000 in
theorem NB (w:World):Calls Tryz.prog 56 #[] w λo w'=>∃ r,o=.returned r/\FilN w.heap.size w' r iM/\ax w w':=by
 refine ai (C:=aY Tryz.prog w _) (args:=[]) Tryz.func56 aa Tryz.ntmps56 (cG aa) ?_;refine ag ?_;refine VO.cR aa aa (fk Tryz.func106) (λcV eG db=>Dl 0 cV ae ae) (λcV eG db w1 s1 p1 n1 c1 t1 y1 m1 d1 q1 bF fM _ bb1=>wV aa ?_);refine ag ?_;refine VO.cR aa aa (fk Tryz.func107) (λeD gO fG=>sj 2500 eD ae ae) (λeD gO fG w2 s2 p2 n2 c2 t2 y2 m2 d2 q2 cJ jH _ bb2=>wV aa ?_);refine ag ?_;refine VO.cR aa aa (fk Tryz.func107) (λiG iK jm=>sj 7500 iG ae ae) (λiG iK jm w3 s3 p3 n3 c3 t3 y3 m3 d3 q3 ee nH _ bb3=>wV aa ?_);refine ag ?_;refine VO.cR aa aa (fk Tryz.func107) (λmB pE pG=>sj 5000 mB ae ae) (λmB pE pG w4 s4 p4 n4 c4 t4 y4 m4 d4 q4 jJ sO _ Ej=>wV aa ?_);refine ag ?_;refine VO.cR aa aa (fk Tryz.func107) (λmP oV og=>sj 3000 mP ae ae) (λmP oV og w5 s5 p5 n5 c5 t5 y5 m5 d5 q5 lL tw _ Ek=>wV aa ?_);refine ag ?_;refine VO.cR aa aa (fk Tryz.func106) (λzX zY Em=>Dl 0 zX ae ae) (λzX zY Em w6 s6 p6 n6 c6 t6 y6 m6 d6 q6 CR En _ bb6=>wV aa ?_);refine ag ?_;refine VS.oU (bU _ _) aa (λwz β kz bz en=> ?_)
 exact⟨_,aa,⟨_,_,_,_,_,_,_,_,_,_,_,_,_,_,_,_,_,_,_,_,_,_,_,_,_,_,_,_,_,_,_,_,_,_,_,_,_,_,_,_,_,_,_,_,aa,
  dQ (E:=lH 2) (vs:=[[.bool s1,.slice p1 n1 c1,.bool t1,.slice y1 m1 d1,.bool s2,.slice p2 n2 c2,.bool t2,.slice y2 m2 d2]]) (spare:=[]) (en.own 4 _ _ rfl) (.cons (lH.mk' (cP.of q1.kr (eV ae ae ae ae)) (cP.of q2.kr (eV ae ae ae ae))) .nil) rfl (aP _) cW rfl (λ_ _ h=>h),
  (cP.of q3.kr (eV ae ae ae ae)),(cP.of q4.kr (eV ae ae ae ae)),(cP.of q5.kr (eV ae ae ae ae)),(cP.of q6.kr (eV ae ae ae ae)),ay.nil',
  dQ (E:=ed) (vs:=[[.string ⟨#[80]⟩]]) (spare:=[]) (en.own 9 _ _ rfl) (.cons rfl .nil) rfl (aP _) cW rfl (λ_ _ h=>h),
  [[.int .i64 2020,.slice none 0 0,.slice none 0 0,.slice none 0 0,.slice none 0 0,.slice none 0 0]],dQ (E:=CE 6) (vs:=[[.int .i64 2020,.slice none 0 0,.slice none 0 0,.slice none 0 0,.slice none 0 0,.slice none 0 0]]) (spare:=[]) (en.own 11 _ _ rfl) (.cons ⟨rfl,rfl,rfl⟩ .nil) rfl (aP _) cW rfl (λ_ _ h=>h),rfl,λi cs y hi hy=>by
    match i,hi,hy with
    | 0,hi,hy=>
      cases hi;cases hy;exact⟨_,_,_,_,_,aa,ay.nil',ay.nil',ay.nil',ay.nil',ay.nil'⟩
    | i+1,hi,_=>simp at hi⟩,bz⟩
section
variable {F F':Fr} {H H':Hp} {w w1:World} {N:Nat} {l':List Oper} {Q:Exit->Act->World->Prop} {k:List It} {id:Nat} {ops:Array Oper}
end
set_option maxRecDepth 4000
theorem Ax {w:World} {b:Nat} {cs:List Value} (h:∀ (j:Nat) (u:Value),cs[j]? =some u->w.cell? ⟨b,j,none⟩=some u):∀ (j:Nat) (u:Value),cs[j]? =some u->w.cell? ((⟨b,0,none⟩:Addr).add j)=some u:=λj u hj=>by
 rw[Addr.add_mid,fe];exact h j u hj
def ED {α:Type} (E:World->List Value->α->Prop) (t1 t2:TypeId) (B:Nat) (w:World) (v:Value) (t:List (List α)):Prop:=∃ us,ay VE 1 t1 B w v us/\us.length=t.length/\(∀ (i:Nat) (u:Value) (r:List α),us[i]? =some u->t[i]? =some r->ay E 4 t2 B w u r)/\Dg us
section
variable {α:Type} {E E':World->List Value->α->Prop} {t1 t2:TypeId} {B:Nat} {w w':World} {v:Value} {t:List (List α)}
theorem ED.kp {T:TypeId->Bool} (hE:gp E 4) (h:ED E t1 t2 B w v t) (k:lT T w w') (h1:T t1=true) (h2:T t2=true):ED E t1 t2 B w' v t:=by
 obtain⟨us,g1,g2,g3,g4⟩:=h;exact⟨us,g1.kp jk k h1,g2,λi u r hi hr=>(g3 i u r hi hr).kp hE k h2,g4⟩
theorem ED.form (h:ED E t1 t2 B w v t):∃ p c,v=.slice p t.length c:=by
 obtain⟨us,g1,g2,_⟩:=h;rw[<-g2];exact g1.form
end
theorem ED.o {kk B:Nat} {w:World} {v:Value} {t:mG} (h:ED (xI B kk) 105 27 B w v t):ib kk B w v t:=h
set_option maxRecDepth 8000 in
theorem Ie (v:Value) (t:mG) (kk:Nat) (w:World) (hv:bK (jR kk) 1 w v t) (yv:1<=kk) (hk:kk<=1000) (hb:t.length<=100000) (cJ:∀ r∈t,r.length<=100000):
  Calls Tryz.prog 77 #[.agg #[v]] w λo w'=>∃ r,o=.returned (.agg #[r])/\ED (xI w.heap.size kk) 105 27 w.heap.size w' r t/\ax w w':=by
 obtain⟨p,c,rfl⟩:=hv.sl;obtain⟨R,hR⟩:∃ R,R=t.length:=⟨_,aa⟩;rw[<-hR] at hv hb;rw[<-hR];refine ai (C:=aY Tryz.prog w _) (args:=[_]) Tryz.func77 aa Tryz.ntmps77 (cG aa) ?_;refine ag ?_
 refine VS.fL (J:=λm L W=>∃ (e g4 g:Nat) (rv:Value) (us:List Value),e<=R/\m=R-e/\L=[(10,.slice p R c),(11,.int .i64 (R:Int)),(2,.pointer (some ⟨g4,0,none⟩)),(3,.pointer (some ⟨g,0,none⟩)),(12,.int .i64 (e:Int))]/\ax w W/\w.heap.size<=g4/\w.heap.size<=g/\g4≠g/\aQ W g4 52 #[.slice none 0 0]/\aQ W g 52 #[rv]/\ay VE 1 105 w.heap.size W rv us/\us.length=e/\(∀ (i:Nat) (u:Value) (r:List Rat),us[i]? =some u->t[i]? =some r->ay (xI w.heap.size kk) 4 27 w.heap.size W u r)/\Dg us)
  (λW=>aY Tryz.prog W 37) (λ_=>rfl) (λ_=>rfl) (λ_=>ax.refl _) R (λw' β k' o en=>⟨[(10,.slice p R c),(11,.int .i64 (R:Int)),(2,.pointer (some ⟨β 2,0,none⟩)),(3,.pointer (some ⟨β 3,0,none⟩)),(12,.int .i64 ((0:Nat):Int))],⟨⟨_,_,rfl,rfl,rfl⟩,⟨_,_,rfl,rfl,rfl⟩,⟨_,_,rfl,rfl,rfl⟩,⟨_,_,rfl,rfl,rfl⟩,⟨_,_,rfl,rfl,rfl⟩,aj⟩,0,β 2,β 3,.slice none 0 0,[],ae,rfl,rfl,o,(en.own 2 _ _ rfl).new,(en.own 3 _ _ rfl).new,(λh=>absurd (en.apart 2 3 (by intro h;cases h) (by intro h;cases h) h) cW),(en.own 2 _ _ rfl).cls,(en.own 3 _ _ rfl).cls,.inl ⟨rfl,rfl⟩,rfl,λi u r hi=>(by simp at hi),λi j u v b hi=>(by simp at hi)⟩) ?_
 rintro m L W ⟨e,g4,g,rv,us,he,rfl,rfl,il,po,hgW,Ap,vA,LQ,hrv,Jf,Kf,hap⟩;have hvW:bK (jR kk) 1 W (.slice p R c) t:=hv.qB (jE kk) il;refine ag ?_;by_cases heR:e<R
 ·refine VS.bB aa (aU (aW.2 heR)) ?_;obtain⟨ru,Mt⟩:∃ r,t[e]? =some r:=⟨_,aH ae⟩;obtain⟨br,QW,csr,rfl,hcr,⟨xv,rfl,Ig⟩⟩:=hvW.at Mt;obtain⟨pc,cc,rfl⟩:=Ig.sl;obtain⟨K,hK⟩:∃ K,K=ru.length:=⟨_,aa⟩;rw[<-hK] at Ig hcr;have hKb:K<=100000:=by rw[hK];exact cJ ru (dc Mt)
  refine ag ?_;refine VO.cond aa fb ?_;refine wV aa ?_;refine ag ?_;refine VO.read aa [.slice pc K cc] aa (fK hcr) (wV aa ?_);refine ag ?_;refine VS.loop (J:=λm L M w'=>∃ (z:Nat) (X:AV) (Mi:List (Nat×(TypeId×List AV))),z<=K/\m=K-z/\L=[(10,.val (.slice (some ⟨br,QW,none⟩) R c)),(11,.val (.int .i64 (R:Int))),(2,.val (.pointer (some ⟨g4,0,none⟩))),(3,.val (.pointer (some ⟨g,0,none⟩))),(12,.val (.int .i64 (e:Int))),(16,.val (.slice pc K cc)),(17,.val (.int .i64 (K:Int))),(6,X),(18,.val (.int .i64 (z:Int)))]/\M=Mi/\fp (xI w.heap.size kk) 4 27 27 X Mi w' (ru.take z)) K ⟨_,_,?_,?_,?_,?_,⟨0,_,[],ae,aa,aa,aa,.inl ⟨aa,aa,aa⟩⟩⟩ ?_
  ·exact lD
  ·exact lD
  ·rfl
  ·exact AZ
  rintro m L Mi wI ⟨z,X,Mi2,hz,rfl,rfl,rfl,hI⟩;refine VS.now (λwX kN bN=> ?_);replace hI:=hI.kp (dm w.heap.size kk) (aK.dN kN);refine VS.mask [8,24,26] (by rcases hI with ⟨_,rfl,rfl⟩|⟨_,_,_,_,rfl,rfl,_⟩ <;> (repeat first|exact aj|refine⟨aa,?_⟩)) ?_;refine ag ?_;by_cases hzK:z<K
  ·obtain⟨y,hy⟩:∃ y,ru[z]? =some y:=⟨_,aH ae⟩;obtain⟨bx,offx,Bs,rfl,qz,⟨s0,p0,n0,c0,t0,y0,m0,d0,rfl,xP⟩⟩:=Ig.at hy;refine VS.bB aa (aU (aW.2 hzK)) ?_;refine ag ?_;refine VO.cond aa fb ?_;refine wV aa ?_;refine ag ?_;refine VO.read aa [.bool s0,.slice p0 n0 c0,.bool t0,.slice y0 m0 d0] aa (bf qz 0 _ ⟨[],aa⟩) (wV aa ?_);refine ag ?_;refine VO.GK aa (fk Tryz.func39) (λcV β eG db ho=>(tG _ [y] kk cV (Db (ho.own 24 (.base (ak.2 aa)) _ _ aa) [] (vs:=[[.bool s0,.slice p0 n0 c0,.bool t0,.slice y0 m0 d0]]) (by rfl) aa (kZ.cons (xP.kp (Kp.of (U:=UU) db)) kZ.nil) (cG aa) cW) (by unfold iL uT;simp;omega)).mono ?_);rintro o w1 ⟨r1,rfl,q1,-,bF⟩;rw[Hw] at q1;obtain⟨s1,p1,n1,c1,t1,y1,m1,d1,rfl⟩:=q1.form;refine dB bF ?_;intro fM _ bb1;have ik:xI w.heap.size kk w1 [.bool s1,.slice p1 n1 c1,.bool t1,.slice y1 m1 d1] y:=.mk (q1.mono (il.aG db).size) (xP.sz yv);rcases hI with ⟨dZ,rfl,rfl⟩|⟨n',c',vs,sp,rfl,rfl,hN1⟩
   ·refine VO.Dc (bU _ _) (dm w.heap.size kk) (t:=105) (e:=27) (s:=26) (a:=y) (cs:=[.bool s1,.slice p1 n1 c1,.bool t1,.slice y1 m1 d1]) aa aa aa aa aa aa aa aa (cG aa) aa aa aa ik ae (λw9 cap sp k9 b9 oc=>wV aa ?_);refine ag ?_;refine VS.back (K-(z+1)) ae ⟨_,_,?_,?_,?_,?_,⟨z+1,_,_,ae,aa,aa,aa,.inr ⟨1,cap,_,sp,aa,aa,by rw[fj hy,dZ];exact oc⟩⟩⟩
    ·(refine⟨aa,aa,aa,aa,aa,aa,aa,aa,?_,aj⟩;rw[<-bl (i:=z) ae];rfl)
    ·(repeat first|exact aj|refine⟨aa,?_⟩|refine⟨au (λl=>some (_,l)) (rF (by first|exact fO.gM (by assumption)|exact ah _|(rw[<-aF];exact ah _)) _ _),?_⟩)
    ·rfl
    ·(repeat first|exact aj|refine⟨dh.lit aa,?_⟩|refine⟨fO.clo (by assumption),?_⟩|refine⟨dh.append (.vals _) (.vals _),?_⟩|refine⟨dh.vals _,?_⟩)
   ·have PH:=hN1.len;refine VO.xF (bU _ _) (dm w.heap.size kk) (t:=105) (e:=27) (s:=26) (i:=27) (n:=n') (c:=c') (vs:=vs) (sp:=sp) (es:=ru.take z) (a:=y) (cs:=[.bool s1,.slice p1 n1 c1,.bool t1,.slice y1 m1 d1]) aa aa aa aa aa aa aa aa (cG aa) aa (.inr aa) aa (hN1.kp (dm w.heap.size kk) dA) aa ik (by rw[cE] at PH;omega) (λw9 cap2 mQ ρ k9 b9 fo oc=>wV aa ?_);refine ag ?_;refine VS.back (K-(z+1)) ae ⟨_,_,?_,?_,?_,?_,⟨z+1,_,_,ae,aa,aa,aa,.inr ⟨n' +1,cap2,_,mQ,aa,aa,by rw[fj hy];exact oc⟩⟩⟩
    ·(refine⟨aa,aa,aa,aa,aa,aa,aa,aa,?_,aj⟩;rw[<-bl (i:=z) ae];rfl)
    ·(repeat first|exact aj|refine⟨aa,?_⟩|refine⟨au (λl=>some (_,l)) (rF (by first|exact fO.gM (by assumption)|exact ah _|(rw[<-aF];exact ah _)) _ _),?_⟩)
    ·rfl
    ·(repeat first|exact aj|refine⟨dh.lit aa,?_⟩|refine⟨fO.clo (by assumption),?_⟩|refine⟨dh.append (.vals _) (.vals _),?_⟩|refine⟨dh.vals _,?_⟩)
  refine VS.bC aa (aR (λe=>hzK (aW.1 e))) ?_;obtain rfl:K=z:=ae;rw[cO ae] at hI;subst Jf;refine VS.cK Dh (λt=>Nat.beq t 23) table (λ_ _ _=>trivial) (λbI nA k1 ic qF=> ?_);have aB:ax W bI:=ic;have bD:=hI.told (dm w.heap.size kk) qF (by intro q hq;rcases hI with ⟨_,rfl,rfl⟩|⟨_,_,_,_,rfl,rfl,_⟩ <;> first|(cases hq;done)|(cases ak.1 hq;rfl)) k1.dN W.heap.size (λh=>h);have EC:=LQ.aA aB;have qg:=il.size;have ig:=aB.size;rcases hrv with ⟨rfl,rfl⟩|⟨b0,cB,vsB,spB,rfl,tJ,Ia,QN,QO,hBle,hBcm,hBfl⟩
  ·have eh:dv Dh 37 [g] [(52,[.val (.slice none 0 0)])] bI:=by
    refine⟨aa,cf,λj g' c' hj hc=> ?_,λc' hc=> ?_,λc' hc k hk=> ?_⟩
    ·match j,hj,hc with
     | 0,hj,hc=>cases hj;cases hc;exact EC
     | j+1,hj,_=>simp at hj
    ·cases ak.1 hc;exact⟨aa,aa⟩
    ·cases ak.1 hc;cases hk
   refine⟨[g],[(52,[.val (.slice none 0 0)])],eh,[(10,.val (.slice (some ⟨br,QW,none⟩) R c)),(11,.val (.int .i64 (R:Int))),(2,.val (.pointer (some ⟨g4,0,none⟩))),(3,.box 74 0),(12,.val (.int .i64 (([]:List Value).length:Int))),(6,.val (X.bu nA))],⟨⟨_,aa,aa,λi hi=>(by cases hi)⟩,⟨_,aa,aa,λi hi=>(by cases hi)⟩,⟨_,aa,aa,λi hi=>(by cases hi)⟩,⟨_,aa,aa,λi hi=>by rw[(by simpa [AV.ids] using hi:i=74)];exact⟨(by show 74<=74;omega),(by show 74<2*37+1;omega)⟩⟩,⟨_,aa,aa,λi hi=>(by cases hi)⟩,⟨_,aa,aa,λi hi=>(by cases hi)⟩,aj⟩,?_⟩;generalize X.bu nA=vv at bD ⊢;obtain⟨Di,Bv,rfl⟩:=bD.form;refine rI ?_;refine VO.Dc (vc _ _) jk (t:=50) (e:=105) (s:=32) (a:=.slice Di ru.length Bv) (cs:=[.slice Di ru.length Bv]) aa aa aa aa aa aa aa aa (cG aa) aa aa aa ⟨aa,_,_,_,aa⟩ ae (λiA cap sp vC qE oc=>wV aa ?_);refine rI ?_;refine VS.eK aa (R-(([]:List Value).length+1)) ae (λw' bM k' o' kc=> ?_);have GW:aK Dh bI w':=(show aK Dh bI iA from dA).aG k';have qC:ax w w':=dP.aA (il.aG aB) o'.1 (λx hx=>by rw[ak.1 hx];omega);have hst:fp VE 1 105 33 (.row 33 0 1 cap) [(33,(105,_))] iA ([.slice Di ru.length Bv]):=.inr ⟨_,cap,_,sp,aa,aa,oc⟩;have eW:=hst.told jk kc (λx hx=>by cases ak.1 hx;rfl) k'.dN w.heap.size (λh=>(cH (show fF 37 [g] bI 33 (bM 33) from h)).elim (λq=>aV qg (aV ig q)) (λq=>by rw[ak.1 q];omega));have IC:=kc.own 74 _ _ aa;have Aq:bM 74=g:=(qb IC 0 g aa aa).1;refine⟨[(10,.slice (some ⟨br,QW,none⟩) R c),(11,.int .i64 (R:Int)),(2,.pointer (some ⟨g4,0,none⟩)),(3,.pointer (some ⟨bM 74,0,none⟩)),(12,.int .i64 ((([]:List Value).length+1:Nat):Int))],⟨⟨_,_,aa,aa,aa⟩,⟨_,_,aa,aa,aa⟩,⟨_,_,aa,aa,aa⟩,⟨_,_,aa,aa,aa⟩,⟨_,_,aa,au (λz=>Value.int .i64 z) (bl (i:=([]:List Value).length) ae),aa⟩,aj⟩,([]:List Value).length+1,g4,bM 74,.slice (some ⟨bM 33,0,none⟩) 1 cap,[Value.slice Di ru.length Bv],ae,aa,aa,qC,po,by rw[Aq];exact hgW,by rw[Aq];exact Ap,(vA.aA aB).but o'.1 (by simp[Ap]),IC.cls,eW,cf,?_,?_⟩
   ·exact LO (vs:=([]:List Value)) (l:=t) (P:=λu r=>ay (xI w.heap.size kk) 4 27 w.heap.size w' u r) (λi u r hi hr=>((Kf i u r hi hr).aA (dm w.heap.size kk) aB).kp (dm w.heap.size kk) GW aa) Mt ((bD.kp (dm w.heap.size kk) GW aa).mono qg)
   ·exact qf (us:=([]:List Value)) (λi j u v b hi=>(by simp at hi)) (λi v b hi hb=>by
     obtain⟨r,hr⟩:∃ r,t[i]? =some r:=⟨_,aH (by have:=(bd.1 hi).1;simp at this)⟩;exact ((Kf i v r hi hr).jd hb).2) (λb hb=>(bD.jd hb).1)
  ·have QP:=Ia.aA aB;have hgb:g≠b0:=λh=>by rw[h] at EC;exact absurd (bL EC QP) cW
   have hgb4:g4≠b0:=λh=>by rw[h] at vA;exact absurd (bL vA Ia) cW
   have eh:dv Dh 37 [g,b0] [(52,[.row 75 0 us.length cB]),(105,vsB.flatten.map .val++spB.map .val)] bI:=by
    refine⟨aa,by simp[hgb],λj g' c' hj hc=> ?_,λc' hc=> ?_,λc' hc k hk=> ?_⟩
    ·match j,hj,hc with
     | 0,hj,hc=>cases hj;cases hc;exact EC
     | 1,hj,hc=>cases hj;cases hc;rw[<-aF,az];exact QP
     | j+2,hj,_=>simp at hj
    ·rcases dG.1 hc with rfl|hc
     ·exact⟨aa,aa⟩
     ·cases ak.1 hc;exact⟨aa,by rw[<-aF];exact aL (by rw[dK,(QN.ok jk).1,QO];rfl)⟩
    ·rcases dG.1 hc with rfl|hc
     ·have:k=75:=by simpa [bj,AV.gM] using hk
      subst this;exact⟨ae,by show 75<2*37+2;omega⟩
     ·cases ak.1 hc;rw[<-aF,ah] at hk;cases hk
   have sA:fO VE 1 bI us.length cB vsB (spB.map .val) us:=⟨aa,QN.kp jk (Kp.of (U:=UU) aB),aL QO,ah _,hBle,hBcm,by rw[<-aF,aM];exact hBfl⟩;refine⟨[g,b0],[(52,[.row 75 0 us.length cB]),(105,vsB.flatten.map .val++spB.map .val)],eh,[(10,.val (.slice (some ⟨br,QW,none⟩) R c)),(11,.val (.int .i64 (R:Int))),(2,.val (.pointer (some ⟨g4,0,none⟩))),(3,.box 74 0),(12,.val (.int .i64 (us.length:Int))),(6,.val (X.bu nA))],⟨⟨_,aa,aa,λi hi=>(by cases hi)⟩,⟨_,aa,aa,λi hi=>(by cases hi)⟩,⟨_,aa,aa,λi hi=>(by cases hi)⟩,⟨_,aa,aa,λi hi=>by rw[(by simpa [AV.ids] using hi:i=74)];exact⟨(by show 74<=74;omega),(by show 74<2*37+2;omega)⟩⟩,⟨_,aa,aa,λi hi=>(by cases hi)⟩,⟨_,aa,aa,λi hi=>(by cases hi)⟩,aj⟩,?_⟩;generalize X.bu nA=vv at bD ⊢;obtain⟨Di,Bv,rfl⟩:=bD.form;refine rI ?_;refine VO.xF (vc _ _) jk (t:=50) (e:=105) (s:=32) (i:=75) (n:=us.length) (c:=cB) (vs:=vsB) (sp:=spB.map .val) (es:=us) (a:=.slice Di ru.length Bv) (cs:=[.slice Di ru.length Bv]) aa aa aa aa aa aa aa aa (cG aa) aa (.inl aa) aa (sA.kp jk (aK.dN (show aK Dh bI _ from dA))) aa ⟨aa,_,_,_,aa⟩ ae (λiA cap sp ρ vC qE fo oc=>wV aa ?_);refine rI ?_;refine VS.eK aa (R-(us.length+1)) ae (λw' bM k' o' kc=> ?_);have GW:aK Dh bI w':=(show aK Dh bI iA from dA).aG k'
   have qC:ax w w':=dP.aA (il.aG aB) o'.1 (λx hx=>by
    rcases dG.1 hx with rfl|hx
    ·omega
    ·rw[ak.1 hx];omega)
   have hst:fp VE 1 105 33 (.row 33 0 (us.length+1) cap) [(33,(105,_))] iA (us++[.slice Di ru.length Bv]):=.inr ⟨_,cap,_,sp,aa,aa,oc⟩
   have eW:=hst.told jk kc (λx hx=>by cases ak.1 hx;rfl) k'.dN w.heap.size (λh=>(cH (show fF 37 [g,b0] bI 33 (bM 33) from h)).elim (λq=>aV qg (aV ig q)) (λq=>by
    rcases dG.1 q with h|h
    ·rw[h];omega
    ·rw[ak.1 h];omega))
   have IC:=kc.own 74 _ _ aa;have Aq:bM 74=g:=(qb IC 0 g aa aa).1;refine⟨[(10,.slice (some ⟨br,QW,none⟩) R c),(11,.int .i64 (R:Int)),(2,.pointer (some ⟨g4,0,none⟩)),(3,.pointer (some ⟨bM 74,0,none⟩)),(12,.int .i64 ((us.length+1:Nat):Int))],⟨⟨_,_,aa,aa,aa⟩,⟨_,_,aa,aa,aa⟩,⟨_,_,aa,aa,aa⟩,⟨_,_,aa,aa,aa⟩,⟨_,_,aa,au (λz=>Value.int .i64 z) (bl (i:=us.length) ae),aa⟩,aj⟩,us.length+1,g4,bM 74,.slice (some ⟨bM 33,0,none⟩) (us.length+1) cap,us++[Value.slice Di ru.length Bv],ae,aa,aa,qC,po,by rw[Aq];exact hgW,by rw[Aq];exact Ap,(vA.aA aB).but o'.1 (by simp[Ap,hgb4]),IC.cls,eW,cf,?_,?_⟩
   ·exact LO (vs:=us) (l:=t) (P:=λu r=>ay (xI w.heap.size kk) 4 27 w.heap.size w' u r) (λi u r hi hr=>((Kf i u r hi hr).aA (dm w.heap.size kk) aB).kp (dm w.heap.size kk) GW aa) Mt ((bD.kp (dm w.heap.size kk) GW aa).mono qg)
   ·exact qf (us:=us) hap (λi v b hi hb=>by
     obtain⟨r,hr⟩:∃ r,t[i]? =some r:=⟨_,aH (by have:=(bd.1 hi).1;omega)⟩;exact ((Kf i v r hi hr).jd hb).2) (λb hb=>(bD.jd hb).1)
 refine VS.bC aa (aR (λh=>heR (aW.1 h))) ?_;obtain rfl:R=e:=ae
 (repeat (first|refine wN ?_|refine wP aa ?_|refine wO aa aa ?_))
 obtain⟨pv,cv,rfl⟩:=hrv.form;refine VS.cK dp (λt=>Nat.beq t 23) table (λ_ _ _=>trivial) (λbI nA k1 ic qF=> ?_);have aB:ax W bI:=ic
 have eh:dv dp 37 [g4] [(52,[.val (.slice none 0 0)])] bI:=by
  refine⟨aa,cf,λj g' c' hj hc=> ?_,λc' hc=> ?_,λc' hc k hk=> ?_⟩
  ·match j,hj,hc with
   | 0,hj,hc=>cases hj;cases hc;exact vA.aA aB
   | j+1,hj,_=>simp at hj
  ·cases ak.1 hc;exact⟨aa,aa⟩
  ·cases ak.1 hc;cases hk
 refine⟨[g4],[(52,[.val (.slice none 0 0)])],eh,[(2,.box 74 0),(3,.val (.pointer (some ⟨g,0,none⟩)))],⟨⟨_,aa,aa,λi hi=>by rw[(by simpa [AV.ids] using hi:i=74)];exact⟨(by show 74<=74;omega),(by show 74<2*37+1;omega)⟩⟩,⟨_,aa,aa,λi hi=>(by cases hi)⟩,aj⟩,?_⟩;refine aq ?_;refine VO.bJ aa [.slice pv us.length cv] aa (at_one (cD (λh=>Ap h.symm) ((LQ.aA aB).cell (j:=0) aa))) (wV aa ?_);refine aq ?_;refine VS.oU (cM _ _) aa (λwz β kz bz en=> ?_);have qC:ax w wz:=dP.aA (il.aG aB) bz.1 (λx hx=>by rw[ak.1 hx];exact po);have hT:ED (xI w.heap.size kk) 105 27 w.heap.size W (.slice pv us.length cv) t:=⟨us,hrv,ae,Kf,hap⟩;exact⟨_,aa,hT.kp (dm w.heap.size kk) (T:=λt=> !Nat.beq t 52) ((aK.of aB).aG (dP.kp bz.1 (λx hx=>⟨52,[.slice none 0 0],by rw[ak.1 hx];exact vA.aA aB,aa,aa⟩))) aa aa,qC⟩
def Ay (t:mG) (e c:Int) (x:Rat):mG:=if pk t e c=true then tK t e.toNat c.toNat x else t
def BA (t:mG) (e c:Int):Rat:=if pk t e c=true then (t.getD e.toNat []).getD c.toNat 0 else 0
theorem tget_at {t:mG} {E K:Nat} {xs:List Rat} {y:Rat} (hx:t[E]? =some xs) (hy:xs[K]? =some y):BA t (E:Int) (K:Int)=y:=by
 have h1:=(bd.1 hx).1;have h2:=(bd.1 hy).1
 have hh:pk t (E:Int) (K:Int)=true:=by
  unfold pk;rw[bh,lU,hx];exact aU ⟨ae,ae,ae,by simpa using h2⟩
 unfold BA;rw[if_pos hh,bh,bh];simp[List.getD_eq_getElem?_getD,hx,hy]
set_option maxRecDepth 4000 in
theorem vf (v:Value) (t:mG) (e c:Int) (kk:Nat) (w:World) (hv:bK (jR kk) 1 w v t) (hk:kk<=1000):
  Calls Tryz.prog 30 #[.agg #[v],.int .i64 e,.int .i64 c] w λo w'=>∃ r,o=.returned r/\cA w' w.heap.size r (BA t e c)/\ax w w':=by
 cases hh:pk t e c with
 | true=>
   obtain⟨E,K,xs,y,rfl,rfl,hx,hy⟩:=si hh;rw[tget_at hx hy];exact at_any v t xs y E K kk w hv hx hy hk
 | false=>
   have hz:BA t e c=0:=by unfold BA;rw[hh];rfl
   rw[hz];obtain⟨p,cp,rfl⟩:=hv.sl;refine ai (C:=aY Tryz.prog w _) (args:=[_,_,_]) yO aa Tryz.ntmps30 (cG aa) ?_;refine ag ?_;refine VO.call aa aa (fk Cj) (λcV eG db=>(Al _ t e c kk cV (hv.qB (jE kk) db)).mono ?_);rintro o w1 ⟨rfl,bF⟩;rw[hh];refine dB bF ?_;intro fM _ bb1;refine VO.cR aa aa (fk Ci) (λeD gO fG=>jD 0 eD ae ae) (λeD gO fG w2 s2 p2 n2 c2 t2 y2 m2 d2 q2 cJ jH _ bb2=>wV aa ?_);refine ag ?_;refine ck ?_;intro wz kz bz;exact⟨_,aa,(q2.kp kz).mono fG.size,bz⟩
theorem NC {t:mG} {e c:Int} {x:Rat} (h:pk t e c=false):Ay t e c x=t:=by unfold Ay;rw[h];rfl
abbrev KQA:KC:=⟨UU,λ_=>True,λt=>TQ t⟩
abbrev QX (P:Program) (w:World) (N:Nat) (ad:List Nat) (hd:ad.Nodup) (ha:jA KQA ad w):Cx:=uM P w N KQA (λt=>Nat.beq t 23) table (λ_ _=>trivial) ad hd ha
theorem LU (w:World) (N:Nat) {ad:List Nat} {hd:ad.Nodup} {ha:jA KQA ad w}:(QX Tryz.prog w N ad hd ha).Ok:=gn
section
variable {F F':Fr} {H H':Hp} {w w1:World} {N:Nat} {l':List Oper} {Q:Exit->Act->World->Prop} {k:List It} {id:Nat} {ops:Array Oper}
theorem cxQA_r {ad:List Nat} {hd:ad.Nodup} {ha:jA KQA ad w1} (e:kW (QX Tryz.prog w1 N ad hd ha) ops 80 ops.toList F H=(l',F',H')) (h:aE (QX Tryz.prog w1 N ad hd ha) none ops l' (VS (QX Tryz.prog w1 N ad hd ha) Q k) F' H' w):VS (QX Tryz.prog w1 N ad hd ha) Q (.code (.region id ops false)::k) F H w:=VS.region (LU _ _) (VO.run 80 e h)
end
theorem QY {P Q:Prop} (h:Q) (i:Q->P:=by intro h;(repeat first|refine wN ?_|refine wP rfl ?_|refine cxQA_r rfl ?_|refine cxQA_d rfl ?_|refine wO rfl rfl ?_);exact h):P:=i h
theorem QZ {P Q X:Prop} (hb:X) (h:Q) (i:X->Q->P:=by intro hb h;refine⟨_,rfl,hb,λa b c=>wV rfl ?_⟩;refine QY ?_;revert a b c;exact h):P:=i hb h
set_option maxRecDepth 4000 in
theorem ND (v u:Value) (t:mG) (e c:Int) (x:Rat) (kk k:Nat) (w:World) (hv:bK (jR kk) 1 w v t) (hu:dk w u x k) (yv:1<=kk) (hk2:1<=k) (hk:kk<=1000) (hk3:k<=1000) (hb:t.length<=100000) (cJ:∀ r∈t,r.length<=100000):
  Calls Tryz.prog 28 #[.agg #[v],.int .i64 e,.int .i64 c,u] w λo w'=>∃ r,o=.returned (.agg #[r])/\ib (kk+k+1) w.heap.size w' r (Ay t e c x)/\ax w w':=by
 obtain⟨p,cp,rfl⟩:=hv.sl;obtain⟨s0,p0,n0,c0,t0,y0,m0,d0,rfl⟩:=hu.form;refine ai (C:=aY Tryz.prog w _) (args:=[_,_,_,_]) Tryz.func28 aa Tryz.ntmps28 (cG aa) ?_
 (repeat (first|refine wN ?_|refine wP aa ?_|refine wO aa aa ?_))
 refine xS aa ?_
 (repeat (first|refine wN ?_|refine wP aa ?_|refine wO aa aa ?_))
 refine VS.cK KQA (λt=>Nat.beq t 23) table (λ_ _ _=>trivial) (λw0' Ra k0 Rb Rc=> ?_);have hb0':ax w w0':=Rb;have h4:=(Rc.own 4 _ _ aa).cls;have h7:=(Rc.own 7 _ _ aa).cls;have h8:=(Rc.own 8 _ _ aa).cls;have hn4:=(Rc.own 4 _ _ aa).new;have hn8:=(Rc.own 8 _ _ aa).new;have h48:Ra 4≠Ra 8:=λh=>absurd (Rc.apart 4 8 (by intro h;cases h) (by intro h;cases h) h) cW;have h47:Ra 4≠Ra 7:=λh=>absurd (Rc.apart 4 7 (by intro h;cases h) (by intro h;cases h) h) cW;have h78:Ra 7≠Ra 8:=λh=>absurd (Rc.apart 7 8 (by intro h;cases h) (by intro h;cases h) h) cW;obtain⟨g4,e4⟩:∃ g,g=Ra 4:=⟨_,aa⟩;obtain⟨g7,e7⟩:∃ g,g=Ra 7:=⟨_,aa⟩;obtain⟨g8,e8⟩:∃ g,g=Ra 8:=⟨_,aa⟩;rw[<-e4] at h4 hn4 h48 h47;rw[<-e7] at h7 h47 h78;rw[<-e8] at h8 hn8 h48 h78
 have eh:dv KQA 23 [g4,g8] [(52,[.val (.slice p t.length cp)]),(52,[.val (.slice none 0 0)])] w0':=by
  refine⟨aa,by simp[h48],λj g' c' hj hc=> ?_,λc' hc=> ?_,λc' hc k hk=> ?_⟩
  ·match j,hj,hc with
   | 0,hj,hc=>cases hj;cases hc;exact h4
   | 1,hj,hc=>cases hj;cases hc;exact h8
   | j+2,hj,_=>simp at hj
  ·rcases dG.1 hc with rfl|hc
   ·exact⟨aa,aa⟩
   ·cases ak.1 hc;exact⟨aa,aa⟩
  ·rcases dG.1 hc with rfl|hc
   ·cases hk
   ·cases ak.1 hc;cases hk
 refine⟨[g4,g8],[(52,[.val (.slice p t.length cp)]),(52,[.val (.slice none 0 0)])],eh,[(1,.val (.int .i64 e)),(2,.val (.int .i64 c)),(4,.box 46 0),(7,.val (.pointer (some ⟨g7,0,none⟩))),(8,.box 47 0)],⟨⟨_,aa,aa,λi hi=>(by cases hi)⟩,⟨_,aa,aa,λi hi=>(by cases hi)⟩,⟨_,aa,au (λb=>Value.pointer (some ⟨b,0,none⟩)) e4,λi hi=>by rw[(by simpa [AV.ids] using hi:i=46)];exact⟨(by show 46<=46;omega),(by show 46<2*23+2;omega)⟩⟩,⟨_,aa,au (λb=>Value.pointer (some ⟨b,0,none⟩)) e7,λi hi=>(by cases hi)⟩,⟨_,aa,au (λb=>Value.pointer (some ⟨b,0,none⟩)) e8,λi hi=>by rw[(by simpa [AV.ids] using hi:i=47)];exact⟨(by show 46<=47;omega),(by show 47<2*23+2;omega)⟩⟩,aj⟩,?_⟩
 have hm:∀ q∈[g4,g8],w.heap.size<=q:=λq hq=>by
  rcases dG.1 hq with rfl|hq
  ·exact hn4
  ·rw[ak.1 hq];exact hn8
 have Az:∀ (w1:World),dP [g4,g8] w0' w1->ax w w1:=λw1 h=>dP.aA hb0' h hm;refine QY ?_;refine VO.call aa aa (fk Tryz.func77) (λcV eG db=>(Ie _ t kk cV (hv.qB (jE kk) (Az _ db.1)) yv hk hb cJ).mono ?_);rintro o w1 ⟨r1,rfl,q1,bF⟩;obtain⟨p1,c1,rfl⟩:=q1.form;refine QZ bF ?_;intro fM _ bb1;refine VO.call aa aa (fk Cj) (λeD gO fG=>(Al _ t e c kk eD ((q1.o.kp (show lT TQ w1 eD from dA) aa aa).Nu)).mono ?_);rintro o w2 ⟨rfl,cJ⟩;cases hh:pk t e c with
 | false=>
   refine QZ cJ ?_;intro jH _ bb2;refine VS.ret (LU _ _) aa aa (λwz kz bz=> ?_);rw[NC hh];exact⟨_,aa,((q1.o.kp (show lT TQ w1 wz from dA) aa aa).up ae).mono (Az _ db.1).size,Az _ bz.1⟩
 | true=>
   obtain⟨E,K,xs,y,rfl,rfl,hx,hy⟩:=si hh;refine⟨_,aa,cJ,λjH _ bb2=>wV aa ?_⟩
   (repeat (first|refine wN ?_|refine wP aa ?_|refine wO aa aa ?_))
   refine VS.jZ (λw=>Bw Tryz.prog w 23) (λ_=>aa) (λ_=>aa) (λ_=>ax.refl _) (λw9 β k9 b9 en=> ?_);have lM:ax w w9:=Az _ b9.1;have hT9:=((q1.o.kp (show lT TQ w1 w9 from dA) aa aa).up (show kk<=kk+k+1 by omega)).mono (Az _ db.1).size;have hu9:=hu.kp (Kp.of (U:=UU) lM);have o46:=qb (en.own 46 _ _ aa) 0 g4 aa aa;have o47:=qb (en.own 47 _ _ aa) 1 g8 aa aa;have h4:aQ w9 g4 52 #[.slice p1 t.length c1]:=o46.2;have h8:aQ w9 g8 52 #[.slice none 0 0]:=o47.2;have h7:=h7.but b9.1 (by simp[h47.symm,h78]);have h9:=(en.own 9 _ _ aa).cls;refine⟨[(4,.val (.pointer (some ⟨g4,0,none⟩))),(7,.val (.pointer (some ⟨g7,0,none⟩))),(8,.val (.pointer (some ⟨g8,0,none⟩))),(9,.val (.pointer (some ⟨β 9,0,none⟩)))],⟨⟨_,_,aa,au (λb=>Value.pointer (some ⟨b,0,none⟩)) o46.1,aa⟩,⟨_,_,aa,aa,aa⟩,⟨_,_,aa,au (λb=>Value.pointer (some ⟨b,0,none⟩)) o47.1,aa⟩,⟨_,_,aa,aa,aa⟩,aj⟩,?_⟩;generalize β 9=g9 at h9 ⊢;have h9:aQ w9 g9 _ #[.int .i64 (E:Int),.int .i64 (K:Int)]:=h9;have h7:aQ w9 g7 _ #[.bool s0,.slice p0 n0 c0,.bool t0,.slice y0 m0 d0]:=h7
   have uV:lR y kk:=by
    obtain⟨b,off,cs,_,_,⟨xv,rfl,Ig⟩⟩:=(show bK (jR kk) 1 w (.slice p t.length cp) t from hv).at hx;obtain⟨p3,c3,rfl⟩:=Ig.sl;obtain⟨b2,QB,cs2,_,_,⟨_,_,_,_,_,_,_,_,rfl,hr⟩⟩:=Ig.at hy;exact hr.sz yv
   refine VS.jG (lf _ _) 3 aa aa aa (VO.run 80 aa ?_);refine VO.read aa [.slice p1 t.length c1] aa (aX (h4.cell (j:=0) aa)) (VO.run 80 aa ?_);refine VO.read aa [.int .i64 (E:Int),.int .i64 (K:Int)] aa (Ax (λj u hj=>h9.cell (by simpa using hj))) (VO.run 80 aa ?_);refine VO.read aa [.bool s0,.slice p0 n0 c0,.bool t0,.slice y0 m0 d0] aa (Ax (λj u hj=>h7.cell (by simpa using hj))) (VO.run 80 aa ?_);refine VO.nil ⟨_,_,_,λw=>Bw Tryz.prog w 23,aa,aa,fk Tryz.func64,λ_=>aa,λ_=>aa,λ_=>ax.refl _,λw6 k6 b6=> ?_⟩;have od:ax w9 w6:=b6;refine (Ib _ _ t xs y x E K w.heap.size (kk+k+1) k w6 (hT9.aA od) (hu9.kp (Kp.of (U:=UU) od)) hx hy ae ae (uV.add (hu.sz hk2))).mono ?_;rintro o w7 ⟨rfl,hT7,hkx,hold⟩
   refine⟨_,[(4,.pointer (some ⟨g4,0,none⟩)),(8,.pointer (some ⟨g8,0,none⟩))],aa,⟨aa,aa,aj⟩,(λp hp e=>by
    simp only[List.mem_cons,List.not_mem_nil,or_false] at hp;rcases hp with rfl|rfl <;> cases e),?_⟩
   have kx:lT TX w9 w7:=(aK.of od).aG hkx;have h4':aQ w7 g4 52 #[.slice p1 t.length c1]:=kx.block _ g4 _ aa aj h4;have h8':aQ w7 g8 52 #[.slice none 0 0]:=kx.block _ g8 _ aa aj h8
   (repeat (first|refine wN ?_|refine wP aa ?_|refine wO aa aa ?_))
   refine VS.cK dp (λt=>Nat.beq t 23) table (λ_ _ _=>trivial) (λbI nA k1 ic qF=> ?_);have aB:ax w7 bI:=ic
   have eh:dv dp 23 [g8] [(52,[.val (.slice none 0 0)])] bI:=by
    refine⟨aa,cf,λj g' c' hj hc=> ?_,λc' hc=> ?_,λc' hc k hk=> ?_⟩
    ·match j,hj,hc with
     | 0,hj,hc=>cases hj;cases hc;exact h8'.aA aB
     | j+1,hj,_=>simp at hj
    ·cases ak.1 hc;exact⟨aa,aa⟩
    ·cases ak.1 hc;cases hk
   refine⟨[g8],[(52,[.val (.slice none 0 0)])],eh,[(8,.box 46 0),(4,.val (.pointer (some ⟨g4,0,none⟩)))],⟨⟨_,aa,aa,λi hi=>by rw[(by simpa [AV.ids] using hi:i=46)];exact⟨(by show 46<=46;omega),(by show 46<2*23+1;omega)⟩⟩,⟨_,aa,aa,λi hi=>(by cases hi)⟩,aj⟩,?_⟩;refine aq ?_;refine VO.bJ aa [.slice p1 t.length c1] aa (at_one (cD h48 ((h4'.aA aB).cell (j:=0) aa))) (wV aa ?_);refine aq ?_;refine VS.oU (cM _ _) aa (λwz β kz bz en=> ?_);have hBz:ax w wz:=dP.aA ((hold w (lM.aG od) (aP _)).aG aB) bz.1 (λx hx=>by rw[ak.1 hx];exact hn8);have hwt:Ay t (E:Int) (K:Int) x=tK t E K x:=by unfold Ay;rw[if_pos hh,bh,bh]
   rw[hwt];exact⟨_,aa,hT7.kp (T:=λt=> !Nat.beq t 52) ((aK.of aB).aG (dP.kp bz.1 (λx hx=>⟨52,[.slice none 0 0],by rw[ak.1 hx];exact h8'.aA aB,aa,aa⟩))) aa aa,hBz⟩
set_option maxRecDepth 4000
theorem Re {ss l:List ByteArray} (h1:l.Perm ss) (h2:l.Pairwise λx y=>x.data.toList<=y.data.toList):fq ss=l:=by
 have key:l.map (·.data.toList)=(ss.map (·.data.toList)).mergeSort λx y=>decide (x<=y):=by
  refine List.Perm.eq_of_pairwise (le:=λx y:List UInt8=>x<=y) (λa b _ _ h h'=>List.le_antisymm h h') (List.pairwise_map.2 h2) ?_ ((h1.map _).trans (List.mergeSort_perm _ _).symm);refine (List.pairwise_mergeSort (le:=λx y:List UInt8=>decide (x<=y)) (λa b c h h'=>aU (List.le_trans (mY h) (mY h'))) (λa b=> ?_) _).imp (λh=>mY h);rcases List.le_total a b with h|h
  ·simp[h]
  ·simp[h]
 unfold fq;rw[<-key,oz];exact (mW λx _=>cf).trans (List.map_id l)
def wks:List iB:=[(⟨#[115,97,108,101,115]⟩,1,Rat.divInt 0 1),(⟨#[99,111,115,116]⟩,2,Rat.divInt 0 1)]
def wbk:List sf:=[(⟨#[80]⟩,⟨#[115,97,108,101,115]⟩,Rat.divInt 5 1),(⟨#[80]⟩,⟨#[115,97,108,101,115]⟩,Rat.divInt 7 1),(⟨#[65]⟩,⟨#[99,111,115,116]⟩,Rat.divInt 3 1)]
def lJ:mG:=[[0,3],[12,0]]
theorem wtot:rK [⟨#[80]⟩,⟨#[65]⟩] wks [wbk] 0=some lJ:=by
 unfold rK;rw[if_neg cW,Re (l:=[⟨#[65]⟩,⟨#[80]⟩]) (List.Perm.swap _ _ _) (by decide+kernel)];show jL _ wks wbk=some lJ;decide+kernel
theorem kQw {w0 w w':World} {N:Nat} (h:aK (Bw Tryz.prog w0 N).K w w':=by exact dA):Kp UU w w':=h.dN
theorem at_ads {P:Program} {w:World} {N:Nat} {K:KC} {SU:TypeId->Bool} {ti:TypeId->Option TI} {keep:∀ b,b<w.heap.size->K.S b} {g:Nat} {ha:jA K [g] w} {b off:Nat} {cs:List Value} (hb:b≠g) (h:∀ (j:Nat) (u:Value),cs[j]? =some u->w.cell? ⟨b,off+j,none⟩=some u):∀ (j:Nat) (u:Value),cs[j]? =some u->Cx.At (uM P w N K SU ti keep [g] (jY g) ha) ((⟨b,off,none⟩:Addr).add j) u:=λj u hj=>by
 rw[Addr.add_mid];exact cD hb (h j u hj)
abbrev NF (P:Program) (w:World) (N:Nat):Cx:={ P:=P,w0:=w,N:=N,K:=⟨UU,λ_=>True,λt=>fu t⟩,SU:=λt=>Nat.beq t 23,ti:=table,keep:=λ_ _=>trivial }
theorem cxFw_ok (w:World) (N:Nat):(NF Tryz.prog w N).Ok:=gn
section
variable {F F':Fr} {H H':Hp} {w w1:World} {N:Nat} {l':List Oper} {Q:Exit->Act->World->Prop} {k:List It} {id:Nat} {ops:Array Oper}
theorem Rf (e:kW (NF Tryz.prog w1 N) ops 80 ops.toList F H=(l',F',H')) (h:aE (NF Tryz.prog w1 N) none ops l' (VS (NF Tryz.prog w1 N) Q k) F' H' w):VS (NF Tryz.prog w1 N) Q (.code (.region id ops false)::k) F H w:=VS.region (cxFw_ok _ _) (VO.run 80 e h)
end
set_option maxRecDepth 8000 in
theorem kO (w:World):Calls Tryz.prog 10 #[] w λo w'=>o=.returned (.bool true)/\ax w w':=by
 refine ai (C:=NF Tryz.prog w _) (args:=[]) Ck aa Tryz.ntmps10 (cG aa) ?_
 (repeat (first|refine wN ?_|refine wP aa ?_|refine wO aa aa ?_))
 refine Rf aa ?_
 (repeat (first|refine wN ?_|refine wP aa ?_|refine wO aa aa ?_))
 refine Rf aa ?_;refine VO.call aa aa (fk Tryz.func56) (λcV eG db=>(NB cV).mono ?_);rintro o w1 ⟨_,rfl,⟨pB,nB,cB,sT,pT,nT,cT,tT,yT,mT,dT,sC,pC,nC,cC,tC,yC,mC,dC,sI,pI,nI,cI,tI,yI,mI,dI,sF,pF,nF,cF,tF,yF,mF,dF,pc,Nc,cc,pe,Ne,ce,py,Ny,cy,rfl,hS1,hS2,hS3,hS4,hS5,hS6,hS7,QV,hS8,hS9,hS10⟩,bF⟩;refine⟨_,aa,bF,λfM _ bb1=>wV aa ?_⟩
 (repeat (first|refine wN ?_|refine wP aa ?_|refine wO aa aa ?_))
 refine VS.cK dp (λt=>Nat.beq t 23) table (λ_ _ _=>trivial) (λw0' Ra k0 Rb Rc=> ?_);have hb0':ax w w0':=Rb;have k0':lT (λt=>fu t) w1 w0':=by exact dA
 obtain⟨cy,rfl⟩:∃ cy,QV=[cy]:=List.length_eq_one_iff.1 hS9;obtain⟨pz1,nz1,cz1,pz2,nz2,cz2,pz3,nz3,cz3,pz4,nz4,cz4,pz5,nz5,cz5,rfl⟩:=(hS10 0 cy _ aa aa).six;have hyr:=(hS8.kp (nO 6) k0' aa).sl (nO 6);obtain⟨bY,oY,csY,rfl,hcY,⟨rfl,-,-⟩⟩:=hyr.at (i:=0) aa;have h1:=(Rc.own 1 _ _ aa).cls;have OS:=(Rc.own 1 _ _ aa).new;obtain⟨g1,e1⟩:∃ g,g=Ra 1:=⟨_,aa⟩;rw[<-e1] at h1 OS;obtain⟨_,_,hNy,-,-⟩:=hyr.form;obtain rfl:Ny=1:=by injection hNy
 have bF:bY≠g1:=λh=>by
  obtain⟨b,c,vs,sp,hp,_,cZ,_⟩:=(hS8.kp (nO 6) k0' aa).resolve_left (λh=>by cases h.2);cases hp;rw[h] at cZ;exact absurd (bL cZ h1) cW
 have eh:dv dp 103 [g1] [(32,[.val (.string iM.name),.val (.string iM.parent),.val (.slice pB nB cB),.val (.bool sT),.val (.slice pT nT cT),.val (.bool tT),.val (.slice yT mT dT),.val (.bool sC),.val (.slice pC nC cC),.val (.bool tC),.val (.slice yC mC dC),.val (.int .i64 iM.bk),.val (.int .i64 iM.fw),.val (.bool sI),.val (.slice pI nI cI),.val (.bool tI),.val (.slice yI mI dI),.val (.bool sF),.val (.slice pF nF cF),.val (.bool tF),.val (.slice yF mF dF),.val (.int .i64 iM.kp),.val (.slice pc Nc cc),.val (.slice pe Ne ce),.val (.slice (some ⟨bY,oY,none⟩) 1 cy)])] w0':=by
  refine⟨aa,cf,λj g' c' hj hc=> ?_,λc' hc=> ?_,λc' hc k hk=> ?_⟩
  ·match j,hj,hc with
   | 0,hj,hc=>cases hj;cases hc;exact h1
   | j+1,hj,_=>simp at hj
  ·cases ak.1 hc;exact⟨aa,aa⟩
  ·cases ak.1 hc;cases hk
 refine⟨[g1],_,eh,[(0,.val (.bool false)),(1,.box 206 0)],⟨⟨_,aa,aa,λi hi=>(by cases hi)⟩,⟨_,aa,au (λb=>Value.pointer (some ⟨b,0,none⟩)) e1,λi hi=>by rw[(by simpa [AV.ids] using hi:i=206)];exact⟨(by show 206<=206;omega),(by show 206<2*103+1;omega)⟩⟩,aj⟩,?_⟩;have Az:∀ (w1:World),dP [g1] w0' w1->ax w w1:=λw1 h=>dP.aA hb0' h (λq hq=>by rw[ak.1 hq];exact OS);refine aq ?_;refine VO.cR aa aa (fk qo) (λeD gO fG=>fJ 0 1 eD ae ae ae ae) (λeD gO fG w2 s2 p2 n2 c2 t2 y2 m2 d2 q2 cJ jH _ bb2=>wV aa ?_);refine aq ?_;refine VO.cR aa aa (fk qo) (λiG iK jm=>fJ 0 1 iG ae ae ae ae) (λiG iK jm w3 s3 p3 n3 c3 t3 y3 m3 d3 q3 ee nH _ bb3=>wV aa ?_);refine aq ?_;refine VO.cond aa cW (wV aa ?_);refine VO.bJ aa [.int .i64 2020,.slice pz1 nz1 cz1,.slice pz2 nz2 cz2,.slice pz3 nz3 cz3,.slice pz4 nz4 cz4,.slice pz5 nz5 cz5] aa (at_ads (off:=oY+((0:Nat):Int).toNat*6) bF (λj u hj=>hcY j u hj)) (wV aa ?_);refine aq ?_;refine VO.cR aa aa (fk qo) (λmB pE pG=>fJ 5 1 mB ae ae ae ae) (λmB pE pG w4 s4 p4 n4 c4 t4 y4 m4 d4 q4 jJ sO _ Ej=>wV aa ?_);refine aq ?_;refine VO.cR aa aa (fk qo) (λmP oV og=>fJ 7 1 mP ae ae ae ae) (λmP oV og w5 s5 p5 n5 c5 t5 y5 m5 d5 q5 lL tw _ Ek=>wV aa ?_);refine aq ?_;refine VO.cR aa aa (fk qo) (λzX zY Em=>fJ 3 1 zX ae ae ae ae) (λzX zY Em w6 s6 p6 n6 c6 t6 y6 m6 d6 q6 CR En _ bb6=>wV aa ?_)
 (repeat (first|refine wN ?_|refine wP aa ?_|refine wO aa aa ?_))
 refine QM aa ?_
 (repeat (first|refine wN ?_|refine wP aa ?_|refine wO aa aa ?_))
 refine VS.jZ (λw=>Bw Tryz.prog w 103) (λ_=>aa) (λ_=>aa) (λ_=>ax.refl _) (λw9 β k9 b9 en=> ?_);have lM:ax w w9:=Az _ b9.1;have o1:=qb (en.own 206 _ _ aa) 0 g1 aa aa;have oE:=(en.own 8 _ _ aa).cls;have oC:=(en.own 16 _ _ aa).cls;have oB:=(en.own 31 _ _ aa).cls;have oYr:=(en.own 34 _ _ aa).cls;obtain⟨gE,eE⟩:∃ g,g=β 8:=⟨_,aa⟩;obtain⟨gC,eC⟩:∃ g,g=β 16:=⟨_,aa⟩;obtain⟨gB,eB⟩:∃ g,g=β 31:=⟨_,aa⟩;obtain⟨gY,eY⟩:∃ g,g=β 34:=⟨_,aa⟩
 have h1:aQ w9 g1 32 #[.string iM.name,.string iM.parent,.slice pB nB cB,.bool sT,.slice pT nT cT,.bool tT,.slice yT mT dT,.bool sC,.slice pC nC cC,.bool tC,.slice yC mC dC,.int .i64 iM.bk,.int .i64 iM.fw,.bool sI,.slice pI nI cI,.bool tI,.slice yI mI dI,.bool sF,.slice pF nF cF,.bool tF,.slice yF mF dF,.int .i64 iM.kp,.slice (some ⟨gC,0,none⟩) 2 2,.slice (some ⟨gE,0,none⟩) 2 2,.slice (some ⟨gY,0,none⟩) 1 1]:=by
  rw[eC,eE,eY];exact o1.2
 have hE:aQ w9 gE 9 #[.string ⟨#[80]⟩,.string ⟨#[65]⟩]:=by rw[eE];exact oE
 have hC:aQ w9 gC 64 #[.string ⟨#[115,97,108,101,115]⟩,.int .u8 1,.bool s2,.slice p2 n2 c2,.bool t2,.slice y2 m2 d2,.string ⟨#[99,111,115,116]⟩,.int .u8 2,.bool s3,.slice p3 n3 c3,.bool t3,.slice y3 m3 d3]:=by rw[eC];exact oC
 have hB:aQ w9 gB 103 #[.string ⟨#[80]⟩,.string ⟨#[115,97,108,101,115]⟩,.bool s4,.slice p4 n4 c4,.bool t4,.slice y4 m4 d4,.string ⟨#[80]⟩,.string ⟨#[115,97,108,101,115]⟩,.bool s5,.slice p5 n5 c5,.bool t5,.slice y5 m5 d5,.string ⟨#[65]⟩,.string ⟨#[99,111,115,116]⟩,.bool s6,.slice p6 n6 c6,.bool t6,.slice y6 m6 d6]:=by rw[eB];exact oB
 have hY:aQ w9 gY 99 #[.int .i64 2020,.slice pz1 nz1 cz1,.slice (some ⟨gB,0,none⟩) 3 3,.slice pz3 nz3 cz3,.slice pz4 nz4 cz4,.slice pz5 nz5 cz5]:=by rw[eY,eB];exact oYr
 have cZ:bK (uZ 2) 6 w9 (.slice (some ⟨gC,0,none⟩) 2 2) wks:=oZ (se 2) (vs:=[[.string ⟨#[115,97,108,101,115]⟩,.int .u8 1,.bool s2,.slice p2 n2 c2,.bool t2,.slice y2 m2 d2],[.string ⟨#[99,111,115,116]⟩,.int .u8 2,.bool s3,.slice p3 n3 c3,.bool t3,.slice y3 m3 d3]]) (spare:=[]) hC (.cons ⟨_,_,_,_,_,_,_,_,aa,cW,q2.ki (eV ae ae ae ae)⟩ (.cons ⟨_,_,_,_,_,_,_,_,aa,cW,q3.ki (eV ae ae ae ae)⟩ .nil)) aa (aP _) cW;have hen:bK ed 1 w9 (.slice (some ⟨gE,0,none⟩) 2 2) [⟨#[80]⟩,⟨#[65]⟩]:=oZ ba (vs:=[[.string ⟨#[80]⟩],[.string ⟨#[65]⟩]]) (spare:=[]) hE (.cons aa (.cons aa .nil)) aa (aP _) cW;have hbk:bK (BkE 2) 6 w9 (.slice (some ⟨gB,0,none⟩) 3 3) wbk:=oZ (QQ 2) (vs:=[[.string ⟨#[80]⟩,.string ⟨#[115,97,108,101,115]⟩,.bool s4,.slice p4 n4 c4,.bool t4,.slice y4 m4 d4],[.string ⟨#[80]⟩,.string ⟨#[115,97,108,101,115]⟩,.bool s5,.slice p5 n5 c5,.bool t5,.slice y5 m5 d5],[.string ⟨#[65]⟩,.string ⟨#[99,111,115,116]⟩,.bool s6,.slice p6 n6 c6,.bool t6,.slice y6 m6 d6]]) (spare:=[]) hB (.cons ⟨_,_,_,_,_,_,_,_,aa,q4.ki (eV ae ae ae ae)⟩ (.cons ⟨_,_,_,_,_,_,_,_,aa,q5.ki (eV ae ae ae ae)⟩ (.cons ⟨_,_,_,_,_,_,_,_,aa,q6.ki (eV ae ae ae ae)⟩ .nil))) aa (aP _) cW
 have hyr2:bK (YbE 2) 6 w9 (.slice (some ⟨gY,0,none⟩) 1 1) [wbk]:=LS (oZ (nO 6) (vs:=[[.int .i64 2020,.slice pz1 nz1 cz1,.slice (some ⟨gB,0,none⟩) 3 3,.slice pz3 nz3 cz3,.slice pz4 nz4 cz4,.slice pz5 nz5 cz5]]) (spare:=[]) (es:=[[.int .i64 2020,.slice pz1 nz1 cz1,.slice (some ⟨gB,0,none⟩) 3 3,.slice pz3 nz3 cz3,.slice pz4 nz4 cz4,.slice pz5 nz5 cz5]]) hY (.cons ⟨aa,aa,aa⟩ .nil) aa (aP _) cW) aa (λi u a hi ha=>by
  match i,hi,ha with
  | 0,hi,ha=>cases hi;cases ha;exact⟨_,_,_,_,_,_,aa,hbk⟩
  | i+1,hi,_=>simp at hi)
 refine⟨[(0,.val (.bool false)),(1,.val (.pointer (some ⟨g1,0,none⟩))),(2,.val (.func (.func 45) #[] #[]))],⟨⟨_,_,aa,aa,aa⟩,⟨_,_,aa,au (λb=>Value.pointer (some ⟨b,0,none⟩)) o1.1,aa⟩,⟨_,_,aa,aa,aa⟩,aj⟩,?_⟩;clear o1 oE oC oB oYr eE eC eB eY hE hC hB hY hbk en k9 b9 q2 q3 q4 q5 q6 hS1 hS2 hS3 hS4 hS5 hS6 hS7 hS8 hS9 hS10;refine bH ?_;refine VO.read aa [.string iM.name,.string iM.parent,.slice pB nB cB,.bool sT,.slice pT nT cT,.bool tT,.slice yT mT dT,.bool sC,.slice pC nC cC,.bool tC,.slice yC mC dC,.int .i64 iM.bk,.int .i64 iM.fw,.bool sI,.slice pI nI cI,.bool tI,.slice yI mI dI,.bool sF,.slice pF nF cF,.bool tF,.slice yF mF dF,.int .i64 iM.kp,.slice (some ⟨gC,0,none⟩) 2 2,.slice (some ⟨gE,0,none⟩) 2 2,.slice (some ⟨gY,0,none⟩) 1 1] aa (Ax (λj u hj=>h1.cell (by simpa using hj))) (wV aa ?_);refine bH ?_;refine VO.call aa aa (fk Tryz.func13) (λHe JM Bn=>(xJ _ _ _ _ _ _ _ _ _ _ _ _ _ _ _ _ _ _ _ _ _ _ _ _ _ _ _ _ _ _ _ _ _ _ _ _ _ _ _ _ _ _ _ _ _ _ _ _ _ 0 [⟨#[80]⟩,⟨#[65]⟩] wks [wbk] 2 4 He (cZ.aA (se 2) Bn) (hen.aA ba Bn) (hyr2.qB (yb_b 2) Bn) cW cW cW cW cW cW).mono ?_);rintro o w7 ⟨r7,rfl,q7,Lz⟩;rw[wtot] at q7 ⊢;rw[show totE (some lJ)=0 from aa];have q7:ib 13 He.heap.size w7 r7 lJ:=q7;obtain⟨pT,cT,rfl⟩:=q7.form;refine⟨_,aa,Lz,λJN _ bb7=>wV aa ?_⟩
 (repeat (first|refine wN ?_|refine wP aa ?_|refine wO aa aa ?_))
 refine VS.jZ (λw=>Bw Tryz.prog w 103) (λ_=>aa) (λ_=>aa) (λ_=>ax.refl _) (λw10 nA k10 b10 qF=> ?_);have eI:ax w w10:=lM.aG b10;have hT:=q7.kp (show lT TQ w7 w10 from dA) aa aa;have h4:=(qF.own 4 _ _ aa).cls;refine⟨[(0,.val (.bool false)),(2,.val (.func (.func 45) #[] #[])),(4,.val (.pointer (some ⟨nA 4,0,none⟩))),(5,.val (.int .i64 0))],⟨⟨_,_,aa,aa,aa⟩,⟨_,_,aa,aa,aa⟩,⟨_,_,aa,aa,aa⟩,⟨_,_,aa,aa,aa⟩,aj⟩,?_⟩;generalize nA 4=g4 at h4 ⊢;obtain⟨bT,oT,cs0,rfl,Oi,⟨x0,rfl,pA⟩⟩:=hT.Nu.at (i:=0) (a:=[0,3]) aa;obtain⟨b',o',cs1,hp,pJ,⟨x1,rfl,Jz⟩⟩:=hT.Nu.at (i:=1) (a:=[12,0]) aa;cases hp;obtain⟨px0,cx0,rfl⟩:=pA.sl;obtain⟨px1,cx1,rfl⟩:=Jz.sl;have h4:aQ w10 g4 52 #[.slice (some ⟨bT,oT,none⟩) lJ.length cT]:=h4;clear qF k10 b10 JN bb7 q7 h1 cZ hen hyr2;refine bH ?_;refine VO.read aa [.slice (some ⟨bT,oT,none⟩) lJ.length cT] aa (aX (h4.cell (j:=0) aa)) (wV aa ?_);refine bH ?_;refine VO.read aa [.slice (some ⟨bT,oT,none⟩) lJ.length cT] aa (aX (h4.cell (j:=0) aa)) (wV aa ?_);refine bH ?_;refine VO.cond aa cW (wV aa ?_);refine VO.read aa [.slice px0 [0,3].length cx0] aa (fK Oi) (wV aa ?_);refine bH ?_;refine VO.read aa [.slice (some ⟨bT,oT,none⟩) lJ.length cT] aa (aX (h4.cell (j:=0) aa)) (wV aa ?_);refine bH ?_;refine VO.cond aa cW (wV aa ?_);refine VO.read aa [.slice px1 [12,0].length cx1] aa (fK pJ) (wV aa ?_);refine bH ?_;refine VO.read aa [.slice (some ⟨bT,oT,none⟩) lJ.length cT] aa (aX (h4.cell (j:=0) aa)) (wV aa ?_);refine bH ?_;refine VO.cR aa aa (fk qo) (λwa8 ka8 ba8=>fJ (-2) 1 wa8 ae ae ae ae) (λwa8 ka8 ba8 w8 s8 p8 n8 c8 t8 y8 m8 d8 q8 hb8 LK _ bb8=>wV aa ?_);refine bH ?_;refine VO.call aa aa (fk Tryz.func28) (λwa9 ka9 ba9=>(ND _ _ lJ 1 0 (Rat.divInt (-2) 1) 13 2 wa9 ((hT.Nu).qB (jE 13) ba9) (q8.ki (eV ae ae ae ae) kQw) cW cW cW cW cW cW).mono ?_);rintro o w9' ⟨r9,rfl,q9,hb9⟩;obtain⟨pU,cU,rfl⟩:=q9.form;refine rL hb9 ?_;intro Ol _ bb9;refine VO.read aa [.slice (some ⟨bT,oT,none⟩) lJ.length cT] aa (aX (h4.cell (j:=0) aa)) (wV aa ?_);refine bH ?_;refine VO.cR aa aa (fk yO) (λwu Aa Hf=>vf _ lJ 0 0 13 wu ((hT.Nu).qB (jE 13) Hf) cW) (λwu Aa Hf w11 s11 p11 n11 c11 t11 y11 m11 d11 q11 Eo pZ _ Qn=>wV aa ?_);refine bH ?_;replace q11:=q11.cast (show BA lJ 0 0=0 by decide+kernel);refine VO.cB aa aa (fk Tryz.func57) (λuR Bp Hg=>Ag _ 0 1 uR (q11.ki lR.zero kQw) cW 0 (by decide+kernel)) (λuR Bp Hg w12 Bq tz _ Qo=>wV aa ?_);refine bH ?_;refine VO.read aa [.slice (some ⟨bT,oT,none⟩) lJ.length cT] aa (aX (h4.cell (j:=0) aa)) (wV aa ?_);refine bH ?_;refine VO.cR aa aa (fk yO) (λHh Qp Nk=>vf _ lJ 0 1 13 Hh ((hT.Nu).qB (jE 13) Nk) cW) (λHh Qp Nk iA s13 p13 n13 c13 t13 y13 m13 d13 q13 hb13 Hi _ bb13=>wV aa ?_);refine bH ?_;replace q13:=q13.cast (show BA lJ 0 1=Rat.divInt 3 1 by decide+kernel);refine VO.cR aa aa (fk qo) (λAb Ac Ep=>fJ 3 1 Ab ae ae ae ae) (λAb Ac Ep w14 s14 p14 n14 c14 t14 y14 m14 d14 q14 JP Er _ Qq=>wV aa ?_);refine bH ?_;refine VO.cB aa aa (fk Tryz.func43) (λoX Ad Et=>wy _ _ (Rat.divInt 3 1) (Rat.divInt 3 1) 2 2 oX (q13.ki (eV ae ae ae ae) kQw) (q14.ki (eV ae ae ae ae) kQw) cW cW 0 (by decide+kernel)) (λoX Ad Et LL hb15 kb15 _ bb15=>wV aa ?_);refine bH ?_;refine VO.read aa [.slice (some ⟨bT,oT,none⟩) lJ.length cT] aa (aX (h4.cell (j:=0) aa)) (wV aa ?_);refine bH ?_;refine VO.cR aa aa (fk yO) (λwa16 ka16 ba16=>vf _ lJ 1 0 13 wa16 ((hT.Nu).qB (jE 13) ba16) cW) (λwa16 ka16 ba16 w16 s16 p16 n16 c16 t16 y16 m16 d16 q16 hb16 kb16 _ bb16=>wV aa ?_);refine bH ?_;replace q16:=q16.cast (show BA lJ 1 0=Rat.divInt 12 1 by decide+kernel);refine VO.cR aa aa (fk qo) (λRg ka17 Rh=>fJ 12 1 Rg ae ae ae ae) (λRg ka17 Rh w17 s17 p17 n17 c17 t17 y17 m17 d17 q17 hb17 kb17 _ bb17=>wV aa ?_);refine bH ?_;refine VO.cB aa aa (fk Tryz.func43) (λNG ka18 ba18=>wy _ _ (Rat.divInt 12 1) (Rat.divInt 12 1) 2 2 NG (q16.ki (eV ae ae ae ae) kQw) (q17.ki (eV ae ae ae ae) kQw) cW cW 0 (by decide+kernel)) (λNG ka18 ba18 w18 hb18 kb18 _ bb18=>wV aa ?_);refine bH ?_;refine VO.cR aa aa (fk yO) (λNH ka19 ba19=>vf _ (Ay lJ 1 0 (Rat.divInt (-2) 1)) 1 0 16 NH ((q9.kp (show lT TQ w9' NH from dA) aa aa).Nu) cW) (λNH ka19 ba19 w19 s19 p19 n19 c19 t19 y19 m19 d19 q19 hb19 kb19 _ bb19=>wV aa ?_);refine bH ?_;replace q19:=q19.cast (show BA (Ay lJ 1 0 (Rat.divInt (-2) 1)) 1 0=Rat.divInt 10 1 by decide+kernel);refine VO.cR aa aa (fk qo) (λwa20 ka20 ba20=>fJ 10 1 wa20 ae ae ae ae) (λwa20 ka20 ba20 w20 s20 p20 n20 c20 t20 y20 m20 d20 q20 hb20 kb20 _ bb20=>wV aa ?_);refine bH ?_;refine VO.cB aa aa (fk Tryz.func43) (λwa21 ka21 ba21=>wy _ _ (Rat.divInt 10 1) (Rat.divInt 10 1) 2 2 wa21 (q19.ki (eV ae ae ae ae) kQw) (q20.ki (eV ae ae ae ae) kQw) cW cW 0 (by decide+kernel)) (λwa21 ka21 ba21 w21 hb21 kb21 _ bb21=>wV aa ?_);refine bH ?_;refine VO.read aa [.slice (some ⟨bT,oT,none⟩) lJ.length cT] aa (aX (h4.cell (j:=0) aa)) (wV aa ?_);refine bH ?_;refine VO.cR aa aa (fk yO) (λwa22 ka22 ba22=>vf _ lJ 2 0 13 wa22 ((hT.Nu).qB (jE 13) ba22) cW) (λwa22 ka22 ba22 w22 s22 p22 n22 c22 t22 y22 m22 d22 q22 hb22 kb22 _ bb22=>wV aa ?_);refine bH ?_;replace q22:=q22.cast (show BA lJ 2 0=0 by decide+kernel);refine VO.cB aa aa (fk Tryz.func57) (λwa23 ka23 ba23=>Ag _ 0 1 wa23 (q22.ki lR.zero kQw) cW 0 (by decide+kernel)) (λwa23 ka23 ba23 w23 hb23 kb23 _ bb23=>wV aa ?_);refine bH ?_;refine VS.ret (lf _ _) aa aa (λwz kz bz=> ?_);exact⟨aa,eI.aG bz⟩
set_option maxRecDepth 4000
def shortR (x:Rw):Prop:=x.xs.length<=4/\x.ys.length<=4
variable {cs:List Value} {kk:Nat} {x:Rw} {w:World}
theorem cP.form (h:cP kk w cs x):∃ s p c t y d,cs=[.bool s,.slice p x.xs.length c,.bool t,.slice y x.ys.length d]/\fZ w (.agg #[.bool s,.slice p x.xs.length c,.bool t,.slice y x.ys.length d]) x.s x.xs x.t x.ys:=by
 obtain⟨s,p,n,c,t,y,m,d,rfl,hr,_⟩:=h;have yW:=hr;obtain⟨p',c',r',d',hv,_,_⟩:=hr;cases hv;exact⟨_,_,_,_,_,_,aa,yW⟩
theorem cP.to {j:Nat} (h:cP kk w cs x) (h1:x.xs.length<=j) (h2:x.ys.length<=j):cP j w cs x:=by
 obtain⟨s,p,n,c,t,y,m,d,hv,hr,_⟩:=h;exact⟨_,_,_,_,_,_,_,_,hv,hr,h1,h2⟩
set_option maxRecDepth 4000 in
theorem Ih (cs:List Value) (x:Rw) (kk:Nat) (w:World) (hv:cP kk w cs x):
  Calls Tryz.prog 20 #[.agg cs.toArray] w λe w'=>∃ b,e=.returned (.bool b)/\(b=true->shortR x)/\ax w w':=by
 obtain⟨s,p,c,t,y,d,rfl,hr⟩:=hv.form;have yk:=hr.mD.choose_spec;obtain⟨p',c',r',d',hv',h1,h2⟩:=hr;clear yk;have bF:=h1.Om.1.u32;have cJ:=h2.Om.1.u32;refine ai (C:=aY Tryz.prog w _) (args:=[_]) Tryz.func20 aa Tryz.ntmps20 (cG aa) ?_;refine ag ?_;by_cases hx:x.xs.length<=4
 ·refine VO.fix 8 aa (au (λb=>AV.val (.bool b)) (aU (show (x.xs.length:Int)<=4 by omega))) ?_;refine ag ?_;refine ck ?_;intro wz kz bz;refine⟨_,aa,λhb=>⟨hx,?_⟩,bz⟩;have:=mY hb;omega
 ·refine VO.fix 8 aa (au (λb=>AV.val (.bool b)) (aR (show ¬ (x.xs.length:Int)<=4 by omega))) ?_;refine ag ?_;refine ck ?_;intro wz kz bz;exact⟨_,aa,λhb=>(by cases hb),bz⟩
set_option maxRecDepth 4000
section
variable {F F':Fr} {H H':Hp} {w w1:World} {N:Nat} {l':List Oper} {Q:Exit->Act->World->Prop} {k:List It} {id:Nat} {ops:Array Oper}
end
def rtab (t:List (List Rw)):mG:=t.map λr=>r.map Rw.q
set_option maxRecDepth 4000
def rawT (t:mG):List (List Rw):=t.map λr=>r.map Rw.of
set_option maxRecDepth 4000
theorem row_eq {r s:List Rat} (hl:r.length=s.length) (h:∀ i,i<r.length->r[i]? =s[i]?):r=s:=qk λi=>by
 by_cases hi:i<r.length
 ·exact h i hi
 ·rw[gD ae,gD ae]
end
section
open Go.RowKit
def BB (n k:Nat) (f:Nat->Nat->Rat):mG:=(List.range n).map λe=>(List.range k).map (f e)
section
variable {n k e c:Nat} {f g:Nat->Nat->Rat} {x:Rat} {t:mG} {l:List mG} {i:Nat}
theorem yG:(BB n k f).length=n:=by unfold BB;rw[aM,xe]
theorem Kg (he:e<n):(BB n k f)[e]? =some ((List.range k).map (f e)):=by
 unfold BB;rw[jq,BR he];rfl
theorem Ri (hc:c<k):((List.range k).map (f e))[c]? =some (f e c):=by
 rw[jq,BR hc];rfl
theorem pt (h:∀ e c,e<n->c<k->f e c=g e c):BB n k f=BB n k g:=by
 unfold BB;refine mW λe he=>mW λc hc=>h e c (me.1 he) (me.1 hc)
theorem mkT_mem {r:List Rat} (h:r∈BB n k f):r.length=k/\∀ x∈r,∃ e c,e<n/\c<k/\x=f e c:=by
 unfold BB at h;obtain⟨e,he,rfl⟩:=ey.1 h;refine⟨by rw[aM,xe],λx hx=> ?_⟩;obtain⟨c,hc,rfl⟩:=ey.1 hx;exact⟨e,c,me.1 he,me.1 hc,aa⟩
theorem Rj (he:e<n) (hc:c<k):tK (BB n k f) e c x=BB n k (λe' c'=>if e'=e/\c'=c then f e' c' +x else f e' c'):=by
 apply qk;intro i;by_cases hi:i<n
 ·rw[yE (Kg hi),Kg hi]
  congr 1
  by_cases vB:i=e
  ·subst vB;rw[if_pos rfl];apply qk;intro j;rw[KO];by_cases hj:j<k
   ·rw[Ri hj,Ri (f:=λe' c'=>if e'=i/\c'=c then f e' c' +x else f e' c') hj];by_cases hjc:c=j
    ·subst hjc;simp
    ·have:¬ (j=c):=λh=>hjc h.symm;simp[hjc,this]
   ·rw[gD (by rw[aM,xe];omega),gD (by rw[aM,xe];omega)];rfl
  ·rw[if_neg vB];refine mW λc' _=> ?_;rw[if_neg (λh=>vB h.1)]
 ·rw[gD (by rw[Am,yG];omega),gD (by rw[yG];omega)]
theorem Rk (he:e<n) (hc:c<k):pk (BB n k f) (e:Int) (c:Int)=true:=by
 unfold pk;rw[bh,lU,Kg he,yG];refine aU ⟨ae,ae,ae,?_⟩;rw[Option.getD_some,aM,xe];omega
theorem NI:qe n k=BB n k (λ_ _=>0):=by
 unfold qe BB;apply qk;intro i;by_cases hi:i<n
 ·rw[jq,BR hi,List.getElem?_replicate,if_pos hi];simp only[Option.map_some]
  congr 1
  apply qk;intro j;by_cases hj:j<k
  ·rw[jq,BR hj,List.getElem?_replicate,if_pos hj];rfl
  ·rw[gD (by simp;omega),gD (by simp;omega)]
 ·rw[gD (by simp;omega),gD (by simp;omega)]
end
section
variable {H:Type} {enc:TypeId×Value->H} {w:World} {held:Bool}
variable {x:DataW H×List MemPlace} {cs:List Value} {fuel:Nat}
set_option maxRecDepth 100000 in
theorem gL (h:DataW.trod enc Tryz.prog w 0 (λ_=>true) held fuel 27 cs=some x):∃ a:Rw,cP gK w cs a:=by
 obtain⟨s,p,n,c,t,r,m,d,xs,ys,rfl,hr⟩:=Qw h;have Bc:=hr;obtain⟨p',c',r',d',hv,h1,h2⟩:=hr;simp only[Value.agg.injEq,Array.mk.injEq,List.cons.injEq,and_true,Value.slice.injEq,Value.bool.injEq] at hv;obtain⟨_,⟨rfl,rfl,rfl⟩,_,rfl,rfl,rfl⟩:=hv;obtain⟨_,_,_,yV,_⟩:=h1;obtain⟨_,_,_,sn,_⟩:=h2;obtain⟨_,_,_,a1,a2,_⟩:=yV.u32;obtain⟨_,_,_,b1,b2,_⟩:=sn.u32;exact⟨⟨s,xs,t,ys⟩,_,_,_,_,_,_,_,_,aa,Bc,(show xs.length<=gK by unfold gK;omega),(show ys.length<=gK by unfold gK;omega)⟩
set_option maxRecDepth 100000 in
theorem Ii {v:Value} {d:DataW H} {ps:List MemPlace} {r:_root_.Go.Reach} {b0:Nat} (hv:Value.okWide Tryz.prog w r b0 27 v) (h:DataW.Trod enc Tryz.prog w 0 (λ_=>true) held 27 v d ps):∃ (cs:List Value) (x:Rw),v=.agg cs.toArray/\cP gK w cs x:=by
 obtain⟨cs,rfl,_⟩:=WideShapes.okWide_struct Tryz.underlying27 hv;obtain⟨fuel,hf⟩:=h;obtain⟨e,he⟩:=gL hf;exact⟨cs.toList,e,cf,by simpa [Value.cells] using he⟩
set_option maxRecDepth 100000 in
theorem Rl (h:DataW.trod enc Tryz.prog w 0 (λ_=>true) held fuel 64 cs=some x):∃ e:Au,lI gK w cs e:=by
 obtain⟨zs,n,rfl,rfl,hl,iU,hf⟩:=qM Tryz.underlying64 h
 have tj:cs.length=6:=by
  have c:Tryz.prog.cellsOf 64=6:=by kernel_rfl
  rw[c] at hl;exact hl
 have uV:zs.length=3:=iU;obtain⟨z0,jI⟩:∃ z,zs[0]? =some z:=⟨_,aH ae⟩;obtain⟨z1,gu⟩:∃ z,zs[1]? =some z:=⟨_,aH ae⟩;obtain⟨z2,jP⟩:∃ z,zs[2]? =some z:=⟨_,aH ae⟩;have Ij:Tryz.prog.cellsOf 9=1:=by kernel_rfl
 have h0:=hf 0 _ aa;rw[jI] at h0;change DataW.trod enc Tryz.prog w 0 (λ_=>true) held n 9 ((cs.drop 0).take (Tryz.prog.cellsOf 9))=some z0 at h0;rw[Ij] at h0;have Ik:Tryz.prog.cellsOf 5=1:=by kernel_rfl
 have h1:=hf 1 _ aa;rw[gu] at h1;change DataW.trod enc Tryz.prog w 0 (λ_=>true) held n 5 ((cs.drop 1).take (Tryz.prog.cellsOf 5))=some z1 at h1;rw[Ik] at h1;have NJ:Tryz.prog.cellsOf 27=4:=by kernel_rfl
 have h2:=hf 2 _ aa;rw[jP] at h2;change DataW.trod enc Tryz.prog w 0 (λ_=>true) held n 27 ((cs.drop 2).take (Tryz.prog.cellsOf 27))=some z2 at h2;rw[NJ] at h2;obtain⟨nm0,e0,_,_⟩:=mZ ln h0;obtain⟨k1,e1,_,yv⟩:=Cc Tryz.underlying5 h1;obtain⟨x2,CX⟩:=gL h2;have a0:cs.drop 0=(cs.drop 0).take 1++cs.drop 1:=bc cs 0 1 1 aa;have a1:cs.drop 1=(cs.drop 1).take 1++cs.drop 2:=bc cs 1 1 2 aa;have a2:cs.drop 2=(cs.drop 2).take 4:=by rw[cO];rw[jN];omega
 have Il:cs=(cs.drop 0).take 1++((cs.drop 1).take 1++((cs.drop 2).take 4)):=by
  have a:cs=cs.drop 0:=aa;rw[a0] at a;rw[a1] at a;rw[a2] at a;exact a
 have ML:=u8_wf yv;obtain⟨k,rfl⟩:=qG ML.1;have hx3:=CX;obtain⟨s,p,n,c,t,y,m,d,e2,h⟩:=CX;rw[e2] at hx3;rw[Il,e0,e1,e2];exact⟨(nm0,k,x2),_,_,_,_,_,_,_,_,aa,hx3,(show k<256 by omega)⟩
end
end
end Go.Proofs.YtlifeokjcgngjaaGreat
