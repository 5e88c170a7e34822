/-BQ of the proof,laid behind one another. -/
import Derived.Test.YtlifeokjcgngjaaGreatKChartItems4
import Derived.Shelf.Sort.Plain
import Derived.Shelf.Slices.In.SortNone
import Derived.Sort.OwnSorted
import Derived.Test.YtlifeokjcgngjaaGreatProg
set_option linter.all false
set_option maxHeartbeats 64000000
namespace Go.Proofs.YtlifeokjcgngjaaGreat
section
open Go.Shelf
def Hk:Go.Shelf.Ren:=⟨λ|190=>130|125=>189|258=>188|128=>257|129=>258|302=>248|303=>249|304=>250|305=>251|306=>252|307=>253|308=>254|309=>255|310=>256|333=>290|329=>291|330=>292|334=>293|335=>294|336=>295|344=>312|n=>n,λ|31=>29|9=>9|3=>3|46=>251|0=>0|51=>78|53=>250|4=>4|183=>356|182=>355|131=>361|5=>5|218=>390|222=>394|228=>409|229=>410|n=>n,λ|n=>n⟩
theorem vD:Go.Proofs.Lays.n190 Tryz.prog Hk:={
 mixed:=by kernel_rfl
 f125:=Tryz.func189.trans (congrArg some (by kernel_rfl))
 f128:=Tryz.func257.trans (congrArg some (by kernel_rfl))
 f129:=Tryz.func258.trans (congrArg some (by kernel_rfl))
 f190:=Tryz.func130.trans (congrArg some (by kernel_rfl))
 f258:=Tryz.func188.trans (congrArg some (by kernel_rfl))
 f302:=Tryz.func248.trans (congrArg some (by kernel_rfl))
 f303:=Tryz.func249.trans (congrArg some (by kernel_rfl))
 f304:=Tryz.func250.trans (congrArg some (by kernel_rfl))
 f305:=Tryz.func251.trans (congrArg some (by kernel_rfl))
 f306:=Tryz.func252.trans (congrArg some (by kernel_rfl))
 f307:=Tryz.func253.trans (congrArg some (by kernel_rfl))
 f308:=Tryz.func254.trans (congrArg some (by kernel_rfl))
 f309:=Tryz.func255.trans (congrArg some (by kernel_rfl))
 f310:=Tryz.func256.trans (congrArg some (by kernel_rfl))
 f329:=Tryz.func291.trans (congrArg some (by kernel_rfl))
 f330:=Tryz.func292.trans (congrArg some (by kernel_rfl))
 f333:=Tryz.func290.trans (congrArg some (by kernel_rfl))
 f334:=Tryz.func293.trans (congrArg some (by kernel_rfl))
 f335:=Tryz.func294.trans (congrArg some (by kernel_rfl))
 f336:=Tryz.func295.trans (congrArg some (by kernel_rfl))
 f344:=Tryz.func312.trans (congrArg some (by kernel_rfl))
 t0:=Tryz.underlying0
 a0:=Tryz.isAgg0
 z0:=Tryz.sizeOf0
 v0:=Tryz.zeroValue0
 t3:=Tryz.underlying3
 a3:=Tryz.isAgg3
 z3:=Tryz.sizeOf3
 v3:=Tryz.zeroValue3
 t4:=Tryz.underlying4
 a4:=Tryz.isAgg4
 z4:=Tryz.sizeOf4
 v4:=Tryz.zeroValue4
 t5:=Tryz.underlying5
 a5:=Tryz.isAgg5
 z5:=Tryz.sizeOf5
 v5:=Tryz.zeroValue5
 t9:=Tryz.underlying9
 a9:=Tryz.isAgg9
 z9:=Tryz.sizeOf9
 v9:=Tryz.zeroValue9
 t31:=Tryz.underlying29
 a31:=Tryz.isAgg29
 z31:=Tryz.sizeOf29
 v31:=Tryz.zeroValue29
 t46:=Tryz.underlying251
 a46:=Tryz.isAgg251
 z46:=Tryz.sizeOf251
 v46:=Tryz.zeroValue251
 t51:=Tryz.underlying78
 a51:=Tryz.isAgg78
 z51:=Tryz.sizeOf78
 v51:=Tryz.zeroValue78
 t53:=Tryz.underlying250
 a53:=Tryz.isAgg250
 z53:=Tryz.sizeOf250
 v53:=Tryz.zeroValue250
 t131:=Tryz.underlying361
 a131:=Tryz.isAgg361
 z131:=Tryz.sizeOf361
 v131:=Tryz.zeroValue361
 t182:=Tryz.underlying355
 a182:=Tryz.isAgg355
 z182:=Tryz.sizeOf355
 v182:=Tryz.zeroValue355
 t183:=Tryz.underlying356
 a183:=Tryz.isAgg356
 z183:=Tryz.sizeOf356
 v183:=Tryz.zeroValue356
 t218:=Tryz.underlying390
 a218:=Tryz.isAgg390
 z218:=Tryz.sizeOf390
 v218:=Tryz.zeroValue390
 t222:=Tryz.underlying394
 a222:=Tryz.isAgg394
 z222:=Tryz.sizeOf394
 v222:=Tryz.zeroValue394
 t228:=Tryz.underlying409
 a228:=Tryz.isAgg409
 z228:=Tryz.sizeOf409
 v228:=Tryz.zeroValue409
 t229:=Tryz.underlying410
 a229:=Tryz.isAgg410
 z229:=Tryz.sizeOf410
 v229:=Tryz.zeroValue410 }
end
set_option maxRecDepth 4000
section
open Go.RowKit Go.Sort
attribute [local irreducible] aq VS
def oo (_:World) (cs:List Value) (s:ByteArray):Prop:=cs=[.string s]
theorem jR:eg oo 1 where
 kp:=λh _=>h
 len:=λh=>by rw[show _=_ from h];rfl
 ok:=λh=>by rw[show _=_ from h];rfl
theorem js:∀ (ss:List ByteArray),(ss.map λs=>[Value.string s]).flatten=ss.map Value.string
 | []=>rfl
 | x::r=>by rw[List.map_cons,List.flatten_cons,js r];rfl
theorem xc (w:World):∀ (ss:List ByteArray),dy oo w ss (ss.map λs=>[Value.string s])
 | []=>.nil
 | x::r=>.cons rfl (xc w r)
def dW (ss:List ByteArray):List ByteArray:=((ss.map (·.data.toList)).mergeSort λx y=>decide (x<=y)).map λl=>⟨l.toArray⟩
theorem lT (ss:List ByteArray):(dW ss).length=ss.length:=by unfold dW;simp
theorem xd {d:List (List UInt8)} {X sp:List Value} (h:X.length=d.length):putCells encStr 0 d.toArray (X++sp).toArray=(d.map encStr++sp).toArray:=by
 apply Array.ext_getElem?
 intro k
 by_cases hk:k<d.length
 ·simp[putCells,hk,h,List.getElem?_append_left]
 ·simp[putCells,hk,List.getElem?_append_right,h,Nat.not_lt.1 hk]
theorem Ev (b c:Nat) (ss:List ByteArray) (sp:List Value) (w:World) (hb:aI w b 9 (ss.map Value.string++sp).toArray) (hn:ss.length<4611686018427387904):
  Calls Tryz.prog 130 #[.slice (some ⟨b,0,none⟩) ss.length c] w λe w'=>e=.returned (.tuple #[])/\iG [b] w w'/\aI w' b 9 ((dW ss).map Value.string++sp).toArray:=by
 obtain⟨ls,hls⟩:∃ ls:List (List UInt8),ls=ss.map (·.data.toList):=⟨_,rfl⟩
 have hl:ls.length=ss.length:=by rw[hls,List.length_map]
 have he:ls.map encStr=ss.map Value.string:=by rw[hls,List.map_map];exact List.map_congr_left λs _=>by simp
 have Hl:((ss.map Value.string++sp).toArray).toList.take ls.length=ls.map encStr:=by
  rw[he,List.take_left' (by rw[List.length_map,hl])]
 have h:=Any.slices_Sort_string vD b 0 c ls w (Go.holds_of_block hb Hl) hb.lt aa
 rw[hl] at h
 refine h.mono ?_
 rintro e w' ⟨rfl,n,os,rfl⟩
 have hg:=Go.grownBy_sorted (w:=w) (g:=b) (n:=n) (os:=os) (ls.mergeSort λx y=>decide (x<=y)).toArray
 refine⟨rfl,⟨rfl,rfl,rfl,by simp,λg xl hn=> ?_⟩,?_⟩
 ·rw[heap_grow_old _ _ (by simpa using xl)]
  have:b≠g:=λe=>hn (by rw[e];exact List.mem_singleton.2 rfl)
  simp[putRow,mapBlock,Sort.ahead,Array.getElem?_modify,this]
 ·have:=Go.heap_sorted (n:=n) (os:=os) (ls.mergeSort λx y=>decide (x<=y)).toArray hb
  rw[xd (by rw[List.length_map,List.length_mergeSort,hl])] at this
  refine Eq.trans this ?_
  unfold dW
  rw[<-hls,List.map_map]
  rfl
set_option maxRecDepth 4000 in
theorem BA (p:Option Addr) (N c:Nat) (ss:List ByteArray) (w:World) (hv:bj oo 1 w (.slice p N c) ss) (hN:N=ss.length) (hn:N<=1000000):
  Calls Tryz.prog 96 #[.slice p N c] w λo w'=>∃ r,o=.returned r/\aC oo 1 9 w.heap.size w' r ss/\ax w w':=by
 refine ah (C:=bC Tryz.prog w _) (args:=[_]) Tryz.func96 rfl Tryz.ntmps96 (bR rfl) ?_
 refine ae ?_
 cases p with
 | none=>
   have:ss=[]:=by
    cases ss with
    | nil=>rfl
    | cons x r=>
      obtain⟨_,_,_,h,_⟩:=hv.at (i:=0) (a:=x) rfl
      cases h
   subst this
   refine ae ?_
   refine bg ?_;intro wz kz bz
   exact⟨_,rfl,.inl ⟨rfl,rfl⟩,bz⟩
 | some a=>
   obtain⟨ab,ao,asl⟩:=a
   have hcell:∀ (j:Nat) (u:Value),(ss.map Value.string)[j]? =some u->w.cell? ⟨ab,ao+j,none⟩=some u/\asl=none:=λj u hj=>by
    rw[List.getElem?_map] at hj
    obtain⟨x,hx,rfl⟩:=Option.map_eq_some_iff.1 hj
    obtain⟨b,off,cs,hp,hc,rfl⟩:=hv.at hx
    cases hp
    have:=hc 0 _ rfl
    rw[Nat.mul_one,Nat.add_zero] at this
    exact⟨this,rfl⟩
   refine VS.bt rfl rfl ?_
   refine ae ?_
   refine VO.app (bZ _ _) (t:=29) (e:=9) (sz:=1) (n:=0) (c:=0) (mm:=N) (known:=[]) (spare:=[]) (del:=some 5) (news:=(ss.map Value.string).map .val) (dst:=7) rfl rfl rfl rfl rfl rfl rfl rfl (bR rfl) rfl (.inr ⟨5,rfl,rfl,rfl⟩) (.inl rfl) rfl rfl (Nat.le_refl _) aa ⟨rfl,rfl,ak _⟩ ⟨rfl,rfl,cV (List.all_eq_true.2 λx hx=>by obtain⟨y,_,rfl⟩:=List.mem_map.1 hx;rfl)⟩ (by rw[List.length_map,List.length_map,hN,Nat.mul_one]) aa
    (λw1 β k1 b1 ho=>⟨_,_,rfl,by
     cases ss with
     | nil=>exact .inl hN
     | cons x r=>
       have h0:=hcell 0 _ rfl
       obtain⟨_,rfl⟩:=h0
       exact .inr ⟨ab,ao,rfl,λj u hj=>ax.cell b1 (hcell j u (by rwa [aU] at hj)).1⟩⟩)
    (λur cap aL ρ k13 b13 eO mw nZ hlen2 hok' hlid'=>wV rfl ?_)
   refine ae ?_
   refine VS.pJ (bZ _ _) rfl (λwz β kz bz en=> ?_)
   have o:=en.own 7 _ _ rfl
   have fB:=o.cls
   rw[List.nil_append,List.map_append,aU] at fB
   rw[List.nil_append,List.length_append,List.length_map,List.length_map,Nat.mul_one] at hlen2
   refine⟨_,rfl,.inr ⟨β 7,cap,ss.map λs=>[.string s],aL.map (AV.leaf β),by rw[<-hN,Nat.zero_add];rfl,o.new,?_,?_,cZ hok',by omega,nZ,?_⟩,bz⟩
   ·rw[js]
    exact fB
   ·exact xc _ _
   ·rw[js]
    rw[List.length_append,List.length_map,List.length_map];omega
abbrev cxW (P:Program) (w:World) (N:Nat):Cx:={ P:=P,w0:=w,N:=N,K:=⟨UU,λ_=>True,λt=>Nat.beq t 9⟩,SU:=λt=>Nat.beq t 23,ti:=table,keep:=λ_ _=>trivial }
theorem BB (w:World) (N:Nat):(cxW Tryz.prog w N).Ok:=eK
section
variable {F F':Fr} {H H':Hp} {w w1:World} {N:Nat} {l':List Oper} {Q:Exit->Act->World->Prop} {k:List It} {id:Nat} {ops:Array Oper}
theorem cxW_r (e:iu (cxW Tryz.prog w1 N) ops 80 ops.toList F H=(l',F',H')) (h:aq (cxW Tryz.prog w1 N) none ops l' (VS (cxW Tryz.prog w1 N) Q k) F' H' w):VS (cxW Tryz.prog w1 N) Q (.code (.region id ops false)::k) F H w:=VS.region (BB _ _) (VO.run 80 e h)
end
theorem zI {w:World}:∀ {es:List ByteArray} {vs:List (List Value)},dy oo w es vs->vs=es.map λs=>[.string s]
 | [],_,.nil=>rfl
 | x::r,_,.cons h t=>by rw[show _=_ from h,zI t];rfl
theorem Hm {P Q:Prop} (h:Q) (i:Q->P:=by intro h;(repeat first|refine wN ?_|refine wP rfl ?_|refine cxW_r rfl ?_|refine cxW_d rfl ?_|refine wO rfl rfl ?_);exact h):P:=i h
theorem cTcxW {P Q X:Prop} (hb:X) (h:Q) (i:X->Q->P:=by intro hb h;refine⟨_,rfl,hb,λa b c=>wV rfl ?_⟩;refine Hm ?_;revert a b c;exact h):P:=i hb h
set_option maxRecDepth 4000 in
theorem BC (nm pa pB nB cB sT pT nT cT tT yT mT dT sC pC nC cC tC yC mC dC bk fw sI pI nI cI tI yI mI dI sF pF nF cF tF yF mF dF kp pc Nc cc pe Ne ce py Ny cy:_) (es:List ByteArray) (w:World) (hv:bj oo 1 w (.slice pe Ne ce) es) (hN:Ne=es.length) (hn:Ne<=1000000):
  Calls Tryz.prog 61 #[.agg #[.string nm,.string pa,.slice pB nB cB,.bool sT,.slice pT nT cT,.bool tT,.slice yT mT dT,.bool sC,.slice pC nC cC,.bool tC,.slice yC mC dC,.int .i64 bk,.int .i64 fw,.bool sI,.slice pI nI cI,.bool tI,.slice yI mI dI,.bool sF,.slice pF nF cF,.bool tF,.slice yF mF dF,.int .i64 kp,.slice pc Nc cc,.slice pe Ne ce,.slice py Ny cy]] w λo w'=>∃ r,o=.returned r/\aC oo 1 9 w.heap.size w' r (dW es)/\ax w w':=by
 refine ah (C:=cxW Tryz.prog w _) (args:=[_]) Tryz.func61 rfl Tryz.ntmps61 (bR rfl) ?_
 refine Hm ?_
 refine VO.call rfl rfl (fk Tryz.func96) (λbM dp cq=>(BA pe Ne ce es bM (hv.aG jR cq) hN hn).mono ?_)
 rintro o w1 ⟨r1,rfl,q1,aQ⟩
 rcases q1 with ⟨rfl,rfl⟩|⟨b,cap,vs,sp,rfl,hBg,fB,gz,ir,hle,eZ,rP⟩
 ·refine cTcxW aQ ?_
  intro eF _ bb1
  refine VO.call rfl rfl (fk Tryz.func130) (λcE ed da=>(Any.slices_Sort_string_none vD none 0 cE).mono ?_)
  rintro o w2 ⟨rfl,rfl⟩
  refine⟨_,rfl,ax.refl _,λfG _ bb2=>wV rfl ?_⟩
  refine Hm ?_
  refine VS.ret (BB _ _) rfl rfl (λwz kz bz=> ?_)
  exact⟨_,rfl,.inl ⟨rfl,by unfold dW;simp⟩,bz⟩
 ·refine⟨_,rfl,aQ,λeF _ bb1=>wV rfl ?_⟩
  (repeat (first|refine wN ?_|refine wP rfl ?_|refine wO rfl rfl ?_))
  refine VS.xb (BB _ _) 1 rfl rfl rfl (VO.run 80 rfl ?_)
  refine VO.nil ⟨_,_,_,λw=>bC Tryz.prog w 10,rfl,rfl,fk Tryz.func130,λ_=>rfl,λ_=>rfl,λ_=>ax.refl _,λw2 k2 b2=> ?_⟩
  have EP:=zI gz
  rw[EP,js] at fB rP
  have hcl2:aI w2 b 9 (es.map Value.string++sp).toArray:=k2.block _ b _ rfl trivial fB
  refine (Ev b cap es sp w2 hcl2 aa).mono ?_
  rintro o w3 ⟨rfl,hbut,hcl3⟩
  have cH:ax w w3:=iG.aG b2 hbut (λx hx=>by rw[List.mem_singleton.1 hx];have:=cq.size;omega)
  refine⟨_,[(3,.slice (some ⟨b,0,none⟩) es.length cap)],rfl,⟨rfl,trivial⟩,λp hp e=> ?_,?_⟩
  ·rw[List.mem_singleton.1 hp] at e;cases e
  refine ae ?_
  refine bg ?_;intro wz kz bz
  have bB:=cq.size
  refine⟨_,rfl,.inr ⟨b,cap,(dW es).map λs=>[.string s],sp,by rw[lT];rfl,by omega,by rw[js];exact hcl3.aG bz,xc _ _,ir,by rw[lT];exact hle,eZ,?_⟩,cH.ay bz⟩
  rw[js,List.length_append,List.length_map,lT]
  rw[List.length_append,List.length_map] at rP
  exact rP
def mX {α:Type} (P:α->Bool):List α->Int
 | []=> -1
 | x::r=>if P x=true then 0 else (if mX P r<0 then-1 else mX P r+1)
theorem xe {α:Type} {P:α->Bool}:∀ {l:List α} {z:Nat} {x:α},l[z]? =some x->(∀ (i:Nat) (y:α),i<z->l[i]? =some y->P y=false)->P x=true->mX P l=z
 | [],_,_,h,_,_=>by cases h
 | y::r,0,x,h,_,hx=>by
   cases h
   unfold mX
   rw[if_pos hx];rfl
 | y::r,z+1,x,h,hn,hx=>by
   have h0:=hn 0 y aa rfl
   have:=xe (l:=r) (z:=z) (x:=x) h (λi u hi hu=>hn (i+1) u aa hu) hx
   unfold mX
   rw[if_neg (by rw[h0];simp),this,if_neg aa]
   omega
theorem pR {α:Type} {P:α->Bool}:∀ {l:List α},(∀ (i:Nat) (y:α),l[i]? =some y->P y=false)->mX P l= -1
 | [],_=>rfl
 | y::r,hn=>by
   have h0:=hn 0 y rfl
   have:=pR (l:=r) (λi u hu=>hn (i+1) u hu)
   unfold mX
   rw[if_neg (by rw[h0];simp),this,if_pos aa]
theorem BD (v:Value) (ss:List ByteArray) (s:ByteArray) (w:World) (hv:bj oo 1 w v ss):
  Calls Tryz.prog 131 #[v,.string s] w λo w'=>o=.returned (.int .i64 (mX (λx=>s.toList == x.toList) ss))/\ax w w':=by
 obtain⟨p,c,rfl,eD,eZ⟩:=hv.form
 obtain⟨N,hN⟩:∃ N,N=ss.length:=⟨_,rfl⟩
 rw[<-hN] at hv eD ⊢
 refine ah (C:=bC Tryz.prog w _) (args:=[_,_]) Tryz.func131 rfl Tryz.ntmps131 (bR rfl) ?_
 refine ae ?_
 refine VS.loop (J:=λmm L M w'=>∃ z:Nat,z<=N/\mm=N-z/\L=[(0,.val (.slice p N c)),(1,.val (.string s)),(7,.val (.int .i64 (N:Int))),(8,.val (.int .i64 (z:Int)))]/\M=[]/\∀ (i:Nat) (y:ByteArray),i<z->ss[i]? =some y->(s.toList == y.toList)=false) N ⟨_,_,?_,?_,?_,?_,⟨0,by omega,rfl,rfl,rfl,λi y hi=>aa⟩⟩ ?_
 ·exact fx
 ·exact fx
 ·rfl
 ·exact qR
 rintro mm L M wJ ⟨z,hz,rfl,rfl,rfl,hno⟩
 refine ae ?_
 by_cases hlt:z<N
 ·obtain⟨x,hx⟩:∃ x,ss[z]? =some x:=⟨_,List.getElem?_eq_getElem aa⟩
  obtain⟨b,off,cs,rfl,hc,rfl⟩:=hv.at hx
  refine VS.bu rfl (decide_eq_true (Int.ofNat_lt.2 hlt)) ?_
  refine ae ?_
  refine VO.cond rfl dU ?_
  refine wV rfl ?_
  refine ae ?_
  refine VO.read rfl [.string x] rfl (cW hc) (wV rfl ?_)
  refine ae ?_
  cases hs:(s.toList == x.toList) with
  | true=>
    refine VS.bu rfl rfl ?_
    refine ae ?_
    refine bg ?_;intro wz kz bz
    exact⟨by rw[xe (P:=λx=>s.toList == x.toList) hx hno hs];rfl,bz⟩
  | false=>
    refine VS.bt rfl rfl ?_
    refine ae ?_
    refine VS.back (N-(z+1)) aa ⟨_,_,?_,?_,?_,?_,⟨z+1,by omega,rfl,rfl,rfl,λi y hi hy=>(by
     by_cases hiz:i<z
     ·exact hno i y hiz hy
     ·rw[show i=z by omega,hx] at hy;cases hy;exact hs)⟩⟩
    ·refine⟨rfl,rfl,rfl,?_,trivial⟩
     rw[<-aZ aa];rfl
    ·exact fx
    ·rfl
    ·exact qR
 ·refine VS.bt rfl (decide_eq_false (λe=>hlt (Int.ofNat_lt.1 e))) ?_
  obtain rfl:z=N:=by omega
  refine ae ?_
  refine bg ?_;intro wz kz bz
  exact⟨by rw[pR (P:=λx=>s.toList == x.toList) (λi y hy=>hno i y (by have:=(List.getElem?_eq_some_iff.1 hy).1;omega) hy)];rfl,bz⟩
theorem BF (v:Value) (ss:List ByteArray) (s:ByteArray) (w:World) (hv:bj oo 1 w v ss):
  Calls Tryz.prog 62 #[v,.string s] w λo w'=>o=.returned (.int .i64 (mX (λx=>s.toList == x.toList) ss))/\ax w w':=by
 obtain⟨p,c,rfl⟩:=hv.sl
 refine ah (C:=bC Tryz.prog w _) (args:=[_,_]) Tryz.func62 rfl Tryz.ntmps62 (bR rfl) ?_
 refine ae ?_
 refine VO.cB rfl rfl (fk Tryz.func131) (λbM dp cq=>BD _ ss s bM (hv.aG jR cq)) (λbM dp cq w1 aQ eF _ bb1=>wV rfl ?_)
 refine ae ?_
 refine bg ?_;intro wz kz bz
 exact⟨rfl,bz⟩
abbrev ma:=ByteArray×EX
def qG (kk:Nat) (w:World) (cs:List Value) (x:ma):Prop:=∃ s p n c t y m d,cs=[.string x.1,.int .u8 (x.2.1:Int),.bool s,.slice p n c,.bool t,.slice y m d]/\x.2.1<256/\bS w (.agg #[.bool s,.slice p n c,.bool t,.slice y m d]) x.2.2 kk
theorem lU (kk:Nat):eg (qG kk) 6 where
 kp:=λh k=>by
  obtain⟨s,p,n,c,t,y,m,d,hv,h1,h2⟩:=h
  exact⟨_,_,_,_,_,_,_,_,hv,h1,h2.kp k⟩
 len:=λh=>by
  obtain⟨s,p,n,c,t,y,m,d,rfl,_⟩:=h
  rfl
 ok:=λh=>by
  obtain⟨s,p,n,c,t,y,m,d,rfl,_⟩:=h
  rfl
theorem Hn (g:FuncId) (c1:Value) (P:ma->Bool) (kk:Nat) (kg:sf Tryz.prog g) (v:Value) (es:List ma) (w:World) (hv:bj (qG kk) 6 w v es) (hg:∀ (cs:List Value) (a:ma) (w1:World),ax w w1->qG kk w1 cs a->Calls Tryz.prog g #[.agg cs.toArray,c1] w1 λe w'=>e=.returned (.bool (P a))/\ax w1 w'):
  Calls Tryz.prog 65 #[v,.func (.func g) #[] #[c1]] w λe w'=>e=.returned (.int .i64 (mX P es))/\ax w w':=by
 obtain⟨p,c,rfl,eD,eZ⟩:=hv.form
 obtain⟨N,hN⟩:∃ N,N=es.length:=⟨_,rfl⟩
 rw[<-hN] at hv eD ⊢
 refine ah (C:=bC Tryz.prog w _) (args:=[_,_]) Tryz.func65 rfl Tryz.ntmps65 (bR rfl) ?_
 refine ae ?_
 refine VS.loop (J:=λmm L M w'=>∃ z:Nat,z<=N/\mm=N-z/\L=[(0,.val (.slice p N c)),(1,.val (.func (.func g) #[] #[c1])),(7,.val (.int .i64 (N:Int))),(8,.val (.int .i64 (z:Int)))]/\M=[]/\∀ (i:Nat) (y:ma),i<z->es[i]? =some y->P y=false) N ⟨_,_,?_,?_,?_,?_,⟨0,by omega,rfl,rfl,rfl,λi y hi=>aa⟩⟩ ?_
 ·exact fx
 ·exact fx
 ·rfl
 ·exact qR
 rintro mm L M wJ ⟨z,hz,rfl,rfl,rfl,hno⟩
 refine ae ?_
 by_cases hlt:z<N
 ·obtain⟨a,hx⟩:∃ x,es[z]? =some x:=⟨_,List.getElem?_eq_getElem aa⟩
  obtain⟨b,off,cs,rfl,hc,he⟩:=hv.at hx
  have he':=he
  obtain⟨s0,p0,n0,c0,t0,y0,m0,d0,rfl,-⟩:=he'
  refine VS.bu rfl (decide_eq_true (Int.ofNat_lt.2 hlt)) ?_
  refine ae ?_
  refine VO.cond rfl dU ?_
  refine wV rfl ?_
  refine ae ?_
  refine VO.read rfl [.string a.1,.int .u8 (a.2.1:Int),.bool s0,.slice p0 n0 c0,.bool t0,.slice y0 m0 d0] rfl (bH hc 0 _ ⟨[],rfl⟩) (wV rfl ?_)
  refine VO.call rfl rfl kg (λbM dp cq=>(hg _ a bM cq ((lU kk).b he cq)).mono ?_)
  rintro e w1 ⟨rfl,aQ⟩
  cases hP:P a with
  | true=>
    refine bo aQ ?_
    intro eF _ bb1
    refine bg ?_;intro wz kz bz
    exact⟨by rw[xe hx hno hP];rfl,bz⟩
  | false=>
    refine bo aQ ?_
    intro eF _ bb1
    refine VS.back (N-(z+1)) aa ⟨_,_,?_,?_,?_,?_,⟨z+1,by omega,rfl,rfl,rfl,λi y hi hy=>(by
     by_cases hiz:i<z
     ·exact hno i y hiz hy
     ·rw[show i=z by omega,hx] at hy;cases hy;exact hP)⟩⟩
    ·refine⟨rfl,rfl,rfl,?_,trivial⟩
     rw[<-aZ aa];rfl
    ·exact fx
    ·rfl
    ·exact qR
 ·refine VS.bt rfl (decide_eq_false (λe=>hlt (Int.ofNat_lt.1 e))) ?_
  obtain rfl:z=N:=by omega
  refine ae ?_
  refine bg ?_;intro wz kz bz
  exact⟨by rw[pR (λi y hy=>hno i y (by have:=(List.getElem?_eq_some_iff.1 hy).1;omega) hy)];rfl,bz⟩
theorem zJ (cs:List Value) (x:ma) (b:Nat) (s:ByteArray) (kk:Nat) (w:World) (hv:qG kk w cs x) (h1:w.cell? ⟨b,0,none⟩=some (.string s)):
  Calls Tryz.prog 66 #[.agg cs.toArray,.pointer (some ⟨b,0,none⟩)] w λo w'=>o=.returned (.bool (x.1.toList == s.toList))/\ax w w':=by
 obtain⟨s0,p0,n0,c0,t0,y0,m0,d0,rfl,-⟩:=hv
 refine ah (C:=bC Tryz.prog w _) (args:=[_,_]) Tryz.func66 rfl Tryz.ntmps66 (bR rfl) ?_
 refine ae ?_
 refine VO.read rfl [.string s] rfl (cL h1) (wV rfl ?_)
 refine ae ?_
 refine bg ?_;intro wz kz bz
 exact⟨rfl,bz⟩
theorem BG (v:Value) (es:List ma) (s:ByteArray) (kk:Nat) (w:World) (hv:bj (qG kk) 6 w v es):
  Calls Tryz.prog 16 #[v,.string s] w λo w'=>o=.returned (.int .i64 (mX (λx=>x.1.toList == s.toList) es))/\ax w w':=by
 obtain⟨p,c,rfl⟩:=hv.sl
 refine ah (C:=bC Tryz.prog w _) (args:=[_,_]) Tryz.func16 rfl Tryz.ntmps16 (bR rfl) ?_
 refine ae ?_
 refine VO.sH rfl (fk Tryz.func65) (λbM β dp cq ho=>(Hn 66 (.pointer (some ⟨β 3,0,none⟩)) (λx=>x.1.toList == s.toList) kk (fk Tryz.func66) _ es bM (hv.aG (lU kk) cq) (λcs a w1 hb hE=>zJ cs a (β 3) s kk w1 hE (hb.cell ((ho.own 3 (.base (List.mem_singleton.2 rfl)) _ _ rfl).cls.cell (j:=0) rfl)))).mono ?_)
 rintro o w1 ⟨rfl,aQ⟩
 refine bo aQ ?_
 intro eF _ bb1
 refine bg ?_;intro wz kz bz
 exact⟨rfl,bz⟩
def ot (t:List (List Rat)) (e c:Int):Bool:=decide (0<=e/\e<t.length/\0<=c/\c<(t.getD e.toNat []).length)
theorem tp (v:Value) (t:List (List Rat)) (e c:Int) (kk:Nat) (w:World) (hv:bj (im kk) 1 w v t):
  Calls Tryz.prog 63 #[.agg #[v],.agg #[.int .i64 e,.int .i64 c]] w λo w'=>o=.returned (.bool (ot t e c))/\ax w w':=by
 obtain⟨p,cp,rfl⟩:=hv.sl
 refine ah (C:=bC Tryz.prog w _) (args:=[_,_]) Tryz.func63 rfl Tryz.ntmps63 (bR rfl) ?_
 refine ae ?_
 by_cases h1:e>=0
 ·refine VO.fix 8 rfl (congrArg (λb=>AV.val (.bool b)) (decide_eq_true h1)) ?_
  refine ae ?_
  by_cases h2:e<(t.length:Int)
  ·refine VO.fix 16 rfl (congrArg (λb=>AV.val (.bool b)) (decide_eq_true h2)) ?_
   refine ae ?_
   by_cases h3:c>=0
   ·refine VO.fix 21 rfl (congrArg (λb=>AV.val (.bool b)) (decide_eq_true h3)) ?_
    obtain⟨E,rfl⟩:=Int.eq_ofNat_of_zero_le (show 0<=e by omega)
    obtain⟨xs,hx⟩:∃ xs,t[E]? =some xs:=⟨_,List.getElem?_eq_getElem aa⟩
    obtain⟨b,off,csx,rfl,hcc,⟨xv,rfl,pk⟩⟩:=hv.at hx
    obtain⟨p3,c3,rfl⟩:=pk.sl
    refine ae ?_
    refine VO.cond rfl dU (wV rfl ?_)
    refine ae ?_
    refine VO.read rfl [.slice p3 xs.length c3] rfl (cW hcc) (wV rfl ?_)
    refine ae ?_
    refine bg ?_;intro wz kz bz
    refine⟨congrArg (λb=>Ending.returned (.bool b)) ?_,bz⟩
    unfold ot
    rw[Int.toNat_natCast,List.getD_eq_getElem?_getD,hx]
    show decide (c<(xs.length:Int))=decide (0<=(E:Int)/\(E:Int)<t.length/\0<=c/\c<(xs.length:Int))
    by_cases h4:c<(xs.length:Int)
    ·rw[decide_eq_true h4,decide_eq_true ⟨h1,h2,h3,h4⟩]
    ·rw[decide_eq_false h4,decide_eq_false (λh=>h4 h.2.2.2)]
   ·refine VO.fix 21 rfl (congrArg (λb=>AV.val (.bool b)) (decide_eq_false h3)) ?_
    refine ae ?_
    refine bg ?_;intro wz kz bz
    exact⟨congrArg (λb=>Ending.returned (.bool b)) (decide_eq_false (λh=>h3 h.2.2.1)).symm,bz⟩
  ·refine VO.fix 16 rfl (congrArg (λb=>AV.val (.bool b)) (decide_eq_false h2)) ?_
   refine ae ?_
   refine bg ?_;intro wz kz bz
   exact⟨congrArg (λb=>Ending.returned (.bool b)) (decide_eq_false (λh=>h2 h.2.1)).symm,bz⟩
 ·refine VO.fix 8 rfl (congrArg (λb=>AV.val (.bool b)) (decide_eq_false h1)) ?_
  refine ae ?_
  refine bg ?_;intro wz kz bz
  exact⟨congrArg (λb=>Ending.returned (.bool b)) (decide_eq_false (λh=>h1 h.1)).symm,bz⟩
end
set_option maxRecDepth 4000
section
open Go.RowKit
attribute [local irreducible] aq VS
abbrev mc:=List (List Rat)
def uv (t:mc) (e c:Nat) (x:Rat):mc:=t.modify e λr=>r.modify c (·+x)
def pS (n k:Nat):mc:=List.replicate n (List.replicate k 0)
theorem zK (t:mc) (e c:Nat) (x:Rat):(uv t e c x).length=t.length:=by unfold uv;rw[List.length_modify]
theorem xf {t:mc} {e c i:Nat} {x:Rat} {r:List Rat} (h:t[i]? =some r):(uv t e c x)[i]? =some (if i=e then r.modify c (·+x) else r):=by
 unfold uv
 rw[List.getElem?_modify,h]
 by_cases he:e=i
 ·subst he;simp
 ·simp[he,Ne.symm he]
def tq:Value->Option Nat
 | .slice (some a) _ _=>some a.block
 | _=>none
def tr (us:List Value):Prop:=∀ (i j:Nat) (u v:Value) (b:Nat),us[i]? =some u->us[j]? =some v->tq u=some b->tq v=some b->i=j
def qH (B kk:Nat) (w:World) (cs:List Value) (q:Rat):Prop:=∃ s p n c t y m d,cs=[.bool s,.slice p n c,.bool t,.slice y m d]/\aM w B (.agg #[.bool s,.slice p n c,.bool t,.slice y m d]) q/\kt q kk
theorem qH.mk {B kk:Nat} {w:World} {s t:Bool} {p y:Option Addr} {n c m d:Nat} {q:Rat} (h:aM w B (.agg #[.bool s,.slice p n c,.bool t,.slice y m d]) q) (hs:kt q kk):qH B kk w [.bool s,.slice p n c,.bool t,.slice y m d] q:=⟨_,_,_,_,_,_,_,_,rfl,h,hs⟩
theorem bE (B kk:Nat):eg (qH B kk) 4 where
 kp:=λh k=>by
  obtain⟨s,p,n,c,t,y,m,d,hv,h1,h2⟩:=h
  exact⟨_,_,_,_,_,_,_,_,hv,h1.kp k,h2⟩
 len:=λh=>by
  obtain⟨s,p,n,c,t,y,m,d,rfl,_⟩:=h
  rfl
 ok:=λh=>by
  obtain⟨s,p,n,c,t,y,m,d,rfl,_⟩:=h
  rfl
theorem qH.q {B kk:Nat} {w:World} {cs:List Value} {q:Rat} (h:qH B kk w cs q):RtQ kk w cs q:=by
 obtain⟨s,p,n,c,t,y,m,d,hv,h1,h2⟩:=h
 exact⟨_,_,_,_,_,_,_,_,hv,h1.rd,h2⟩
theorem qH.up {B j k:Nat} {w:World} {cs:List Value} {q:Rat} (h:qH B j w cs q) (hk:j<=k):qH B k w cs q:=by
 obtain⟨s,p,n,c,t,y,m,d,hv,h1,h2⟩:=h
 exact⟨_,_,_,_,_,_,_,_,hv,h1,h2.mono hk⟩
theorem qH.mono {B B' k:Nat} {w:World} {cs:List Value} {q:Rat} (h:qH B k w cs q) (hB:B'<=B):qH B' k w cs q:=by
 obtain⟨s,p,n,c,t,y,m,d,hv,h1,h2⟩:=h
 exact⟨_,_,_,_,_,_,_,_,hv,h1.mono hB,h2⟩
def fA (kk B:Nat) (w:World) (v:Value) (t:mc):Prop:=∃ us,aC VE 1 105 B w v us/\us.length=t.length/\(∀ (i:Nat) (u:Value) (r:List Rat),us[i]? =some u->t[i]? =some r->aC (qH B kk) 4 27 B w u r)/\tr us
theorem fA.kp {kk B:Nat} {w w':World} {v:Value} {t:mc} {T:TypeId->Bool} (h:fA kk B w v t) (k:xu T w w') (h1:T 105=true) (h2:T 27=true):fA kk B w' v t:=by
 obtain⟨us,g1,g2,g3,g4⟩:=h
 exact⟨us,g1.kp dm k h1,g2,λi u r hi hr=>(g3 i u r hi hr).kp (bE B kk) k h2,g4⟩
theorem fA.aG {kk B:Nat} {w w':World} {v:Value} {t:mc} (h:fA kk B w v t) (hb:ax w w'):fA kk B w' v t:=h.kp (T:=λ_=>true) (aH.of hb) rfl rfl
theorem aC.imp {α:Type} {E E':World->List Value->α->Prop} {sz B:Nat} {t:TypeId} {w:World} {v:Value} {es:List α} (h:aC E sz t B w v es) (hm:∀ (cs:List Value) (a:α),E w cs a->E' w cs a):aC E' sz t B w v es:=by
 rcases h with h|⟨b,c,vs,sp,g1,g2,g3,g4,g5,g6,g7,g8⟩
 ·exact .inl h
 ·exact .inr ⟨b,c,vs,sp,g1,g2,g3,g4.mono hm,g5,g6,g7,g8⟩
theorem fA.up {j k B:Nat} {w:World} {v:Value} {t:mc} (h:fA j B w v t) (hk:j<=k):fA k B w v t:=by
 obtain⟨us,g1,g2,g3,g4⟩:=h
 exact⟨us,g1,g2,λi u r hi hr=>(g3 i u r hi hr).imp (λ_ _ h=>h.up hk),g4⟩
theorem fA.mono {k B B':Nat} {w:World} {v:Value} {t:mc} (h:fA k B w v t) (hB:B'<=B):fA k B' w v t:=by
 obtain⟨us,g1,g2,g3,g4⟩:=h
 exact⟨us,g1.mono hB,g2,λi u r hi hr=>((g3 i u r hi hr).imp (λ_ _ h=>h.mono hB)).mono hB,g4⟩
theorem fA.tab {kk B:Nat} {w:World} {v:Value} {t:mc} (h:fA kk B w v t):bj (im kk) 1 w v t:=by
 obtain⟨us,g1,g2,g3,_⟩:=h
 exact CN (g1.sl dm) g2 (λi u r hi hr=>⟨u,rfl,((g3 i u r hi hr).imp (λ_ _ h=>h.q.tot)).sl (Hg kk)⟩)
theorem fA.nil (kk B:Nat) (w:World):fA kk B w (.slice none 0 0) []:=⟨[],.inl ⟨rfl,rfl⟩,rfl,λi u r hi=>(by simp at hi),λi j u v b hi=>(by simp at hi)⟩
theorem fA.form {kk B:Nat} {w:World} {v:Value} {t:mc} (h:fA kk B w v t):∃ p c,v=.slice p t.length c:=by
 obtain⟨us,g1,g2,_⟩:=h
 rw[<-g2];exact g1.form
theorem fL {us:List Value} {u:Value} (h:tr us) {W:Nat} (ho:∀ (i:Nat) (v:Value) (b:Nat),us[i]? =some v->tq v=some b->b<W) (hn:∀ b,tq u=some b->W<=b):tr (us++[u]):=λi j a c b hi hj ha hc=>by
 have key:∀ (i:Nat) (a:Value),(us++[u])[i]? =some a->(us[i]? =some a)\/(i=us.length/\a=u):=λi a hi=>by
  by_cases hil:i<us.length
  ·rw[List.getElem?_append_left hil] at hi;exact .inl hi
  ·rw[List.getElem?_append_right aa] at hi
   have:=(List.getElem?_eq_some_iff.1 hi).1
   rw[List.length_singleton] at this
   obtain rfl:i=us.length:=by omega
   rw[Nat.sub_self] at hi
   cases hi
   exact .inr ⟨rfl,rfl⟩
 rcases key i a hi with h1|⟨rfl,rfl⟩ <;> rcases key j c hj with h2|⟨rfl,rfl⟩
 ·exact h i j a c b h1 h2 ha hc
 ·have:=ho i a b h1 ha;have:=hn b hc;omega
 ·have:=ho j c b h2 hc;have:=hn b ha;omega
 ·rfl
theorem aC.iX {α:Type} {E:World->List Value->α->Prop} {sz B:Nat} {t:TypeId} {w:World} {v:Value} {es:List α} (h:aC E sz t B w v es) {b:Nat} (hb:tq v=some b):B<=b/\b<w.heap.size:=by
 rcases h with ⟨rfl,_⟩|⟨b',c,vs,sp,rfl,hB,hc,_⟩
 ·cases hb
 ·cases hb
  exact⟨hB,hc.lt⟩
theorem dy.put {α:Type} {E:World->List Value->α->Prop} {w:World}:∀ {es:List α} {vs:List (List Value)} {i:Nat} {a:α} {cs:List Value},dy E w es vs->E w cs a->dy E w (es.set i a) (vs.set i cs)
 | _,_,i,_,_,.nil,_=>.nil
 | _,_,0,_,_,.cons _ h2,h=>.cons h h2
 | _,_,i+1,_,_,.cons h1 h2,h=>.cons h1 (dy.put h2 h)
theorem row_put {vs:List (List Value)} {sz i:Nat} {new:List Value} {sp:List AV} (h:∀ x∈vs,x.length=sz) (hi:i<vs.length) (ho:new.length=sz):
  (vs.flatten.map AV.val++sp).take (0+((i:Nat):Int).toNat*sz)++(new.map AV.val++(vs.flatten.map AV.val++sp).drop (0+((i:Nat):Int).toNat*sz+sz))=(vs.set i new).flatten.map AV.val++sp:=by
 obtain⟨x,hx⟩:∃ x,vs[i]? =some x:=⟨_,List.getElem?_eq_getElem hi⟩
 have dc:=h x (List.mem_of_getElem? hx)
 rw[Es h hx 0 new aa sp _ (by rw[Int.toNat_natCast];omega) sz ho.symm]
 rw[show x.take 0++(new++x.drop (0+new.length))=new by rw[List.take_zero,List.nil_append,List.drop_of_length_le aa,List.append_nil]]
theorem BH {α:Type} {l:List α} {i:Nat} {a:α} {f:α->α} (h:l[i]? =some a):l.modify i f=l.set i (f a):=by
 apply List.ext_getElem?
 intro j
 rw[List.getElem?_modify,List.getElem?_set]
 by_cases e:i=j
 ·subst e
  rw[if_pos rfl,if_pos (List.getElem?_eq_some_iff.1 h).1,h];simp
 ·rw[if_neg e]
  cases l[j]? <;> simp[e]
theorem aI.but {ad:List Nat} {w w':World} {g:Nat} {t:TypeId} {cs:Array Value} (h:aI w g t cs) (k:iG ad w w') (hg:g∉ad):aI w' g t cs:=(k.iX g h.lt hg).trans h
theorem eL.aG {K:KC} {N:Nat} {ad:List Nat} {l:List (TypeId×List AV)} {w w':World} (h:eL K N ad l w) (hb:ax w w'):eL K N ad l w':=⟨h.len,h.nodup,λj g c hj hc=>(h.cls j g c hj hc).aG hb,h.ok,h.ids⟩
theorem at_one {C:Cx} {b o:Nat} {u:Value} (h:C.At ⟨b,o,none⟩ u):∀ j x,[u][j]? =some x->C.At ((⟨b,o,none⟩:Addr).add j) x:=λj x hj=>by
 match j,hj with
 | 0,hj=>cases hj;exact h
theorem aC.but {α:Type} {E:World->List Value->α->Prop} {sz B:Nat} {t:TypeId} {ad:List Nat} {w w':World} {v:Value} {es:List α} (hE:eg E sz) (h:aC E sz t B w v es) (k:iG ad w w') (kw:Kp UU w w') (hn:∀ b,tq v=some b->b∉ad):aC E sz t B w' v es:=by
 rcases h with h|⟨b,c,vs,sp,rfl,g2,g3,g4,g5,g6,g7,g8⟩
 ·exact .inl h
 ·exact .inr ⟨b,c,vs,sp,rfl,g2,g3.but k (hn b rfl),g4.kp hE kw,g5,g6,g7,g8⟩
theorem zL {vs:List Value} {P:Value->Prop} {u:Value} (h:∀ (i:Nat) (v:Value),vs[i]? =some v->P v) (hu:P u):∀ (i:Nat) (v:Value),(vs++[u])[i]? =some v->P v:=λi v hi=>by
 rcases List.mem_append.1 (List.mem_of_getElem? hi) with h1|h1
 ·obtain⟨j,hj⟩:=List.getElem?_of_mem h1
  exact h j v hj
 ·rw[List.mem_singleton.1 h1];exact hu
abbrev vE:KC:=⟨UU,λ_=>True,λt=>Nat.beq t 27⟩
abbrev Ho (P:Program) (w:World) (N:Nat) (ad:List Nat) (hd:ad.Nodup) (ha:gA vE ad w):Cx:=wE P w N vE (λt=>Nat.beq t 23) table (λ_ _=>trivial) ad hd ha
theorem ou (w:World) (N:Nat) {ad:List Nat} {hd:ad.Nodup} {ha:gA vE ad w}:(Ho Tryz.prog w N ad hd ha).Ok:=eK
section
variable {F F':Fr} {H H':Hp} {w w1:World} {N:Nat} {l':List Oper} {Q:Exit->Act->World->Prop} {k:List It} {id:Nat} {ops:Array Oper}
theorem cxT4_r {ad:List Nat} {hd:ad.Nodup} {ha:gA vE ad w1} (e:iu (Ho Tryz.prog w1 N ad hd ha) ops 80 ops.toList F H=(l',F',H')) (h:aq (Ho Tryz.prog w1 N ad hd ha) none ops l' (VS (Ho Tryz.prog w1 N ad hd ha) Q k) F' H' w):VS (Ho Tryz.prog w1 N ad hd ha) Q (.code (.region id ops false)::k) F H w:=VS.region (ou _ _) (VO.run 80 e h)
end
abbrev tN:KC:=⟨UU,λ_=>True,λt=>false⟩
abbrev tu (P:Program) (w:World) (N:Nat) (ad:List Nat) (hd:ad.Nodup) (ha:gA tN ad w):Cx:=wE P w N tN (λt=>Nat.beq t 23) table (λ_ _=>trivial) ad hd ha
theorem gJ (w:World) (N:Nat) {ad:List Nat} {hd:ad.Nodup} {ha:gA tN ad w}:(tu Tryz.prog w N ad hd ha).Ok:=eK
theorem BI (w:World) (N:Nat) {ad:List Nat} {hd:ad.Nodup} {ha:gA tN ad w}:(tu Tryz.prog w N ad hd ha).P.follows .mixedOrders=true:=by show Tryz.prog.follows .mixedOrders=true;kernel_rfl
section
variable {F F':Fr} {H H':Hp} {w w1:World} {N:Nat} {l':List Oper} {Q:Exit->Act->World->Prop} {k:List It} {id:Nat} {ops:Array Oper}
theorem Hq {ad:List Nat} {hd:ad.Nodup} {ha:gA tN ad w1} (e:iu (tu Tryz.prog w1 N ad hd ha) ops 80 ops.toList F H=(l',F',H')) (h:aq (tu Tryz.prog w1 N ad hd ha) none ops l' (VS (tu Tryz.prog w1 N ad hd ha) Q k) F' H' w):VS (tu Tryz.prog w1 N ad hd ha) Q (.code (.region id ops false)::k) F H w:=VS.region (gJ _ _) (VO.run 80 e h)
theorem cxZ0_d {ad:List Nat} {hd:ad.Nodup} {ha:gA tN ad w1} (e:iu (tu Tryz.prog w1 N ad hd ha) ops 80 ops.toList F H=(l',F',H')) (h:aq (tu Tryz.prog w1 N ad hd ha) (some []) ops l' (VS (tu Tryz.prog w1 N ad hd ha) Q k) F' H' w) (jm:ig (tu Tryz.prog w1 N ad hd ha).SU [] ops=true:=by kernel_rfl):VS (tu Tryz.prog w1 N ad hd ha) Q (.code (.region id ops true)::k) F H w:=VS.draw (gJ _ _) (BI _ _) [] jm (VO.run 80 e h)
end
theorem zM (n:Int):ko 0 [n]=((n.toNat:Nat):Int):=by
 unfold ko ko
 split <;> omega
theorem lB {P Q:Prop} (h:Q) (i:Q->P:=by intro h;(repeat first|refine wN ?_|refine wP rfl ?_|refine cxT4_r rfl ?_|refine cxT4_d rfl ?_|refine wO rfl rfl ?_);exact h):P:=i h
theorem bV {P Q:Prop} (h:Q) (i:Q->P:=by intro h;(repeat first|refine wN ?_|refine wP rfl ?_|refine Hq rfl ?_|refine cxZ0_d rfl ?_|refine wO rfl rfl ?_);exact h):P:=i h
set_option maxRecDepth 4000 in
theorem BJ (n k:Int) (w:World) (hn:n<=100000) (hk:k<=100000):
  Calls Tryz.prog 34 #[.int .i64 n,.int .i64 k] w λo w'=>∃ r,o=.returned (.agg #[r])/\fA 1 w.heap.size w' r (pS n.toNat k.toNat)/\ax w w':=by
 obtain⟨N,hN⟩:∃ N,N=n.toNat:=⟨_,rfl⟩
 obtain⟨K,hK⟩:∃ K,K=k.toNat:=⟨_,rfl⟩
 have hmN:ko 0 [n]=(N:Int):=by rw[zM,hN]
 have hmK:ko 0 [k]=(K:Int):=by rw[zM,hK]
 rw[<-hN,<-hK]
 have hNb:N<=100000:=by omega
 have hKb:K<=100000:=by omega
 refine ah (C:=bC Tryz.prog w _) (args:=[_,_]) Tryz.func34 rfl Tryz.ntmps34 (bR rfl) ?_
 refine ae ?_
 refine VS.zH (J:=λm L W=>∃ (e g4 g:Nat) (rv:Value) (us:List Value),e<=N/\m=N-e/\L=[(0,.int .i64 n),(1,.int .i64 k),(4,.pointer (some ⟨g4,0,none⟩)),(5,.pointer (some ⟨g,0,none⟩)),(8,.int .i64 (N:Int)),(9,.int .i64 (e:Int))]/\ax w W/\w.heap.size<=g4/\w.heap.size<=g/\g4≠g/\aI W g4 52 #[.slice none 0 0]/\aI W g 52 #[rv]/\aC VE 1 105 w.heap.size W rv us/\us.length=e/\(∀ (i:Nat) (u:Value),us[i]? =some u->aC (qH w.heap.size 1) 4 27 w.heap.size W u (List.replicate K 0))/\tr us)
  (λW=>bC Tryz.prog W 28) (λ_=>rfl) (λ_=>rfl) (λ_=>ax.refl _) N (λw' β k' o en=>⟨[(0,.int .i64 n),(1,.int .i64 k),(4,.pointer (some ⟨β 4,0,none⟩)),(5,.pointer (some ⟨β 5,0,none⟩)),(8,.int .i64 (N:Int)),(9,.int .i64 ((0:Nat):Int))],⟨⟨_,_,rfl,rfl,rfl⟩,⟨_,_,rfl,rfl,rfl⟩,⟨_,_,rfl,rfl,rfl⟩,⟨_,_,rfl,rfl,rfl⟩,⟨_,_,rfl,congrArg (λz=>Value.int .i64 z) hmN,rfl⟩,⟨_,_,rfl,rfl,rfl⟩,trivial⟩,0,β 4,β 5,.slice none 0 0,[],by omega,rfl,rfl,o,(en.own 4 _ _ rfl).new,(en.own 5 _ _ rfl).new,(λh=>absurd (en.apart 4 5 (by intro h;cases h) (by intro h;cases h) h) ck),(en.own 4 _ _ rfl).cls,(en.own 5 _ _ rfl).cls,.inl ⟨rfl,rfl⟩,rfl,λi u hi=>(by simp at hi),λi j u v b hi=>(by simp at hi)⟩) ?_
 rintro m L W ⟨e,g4,g,rv,us,he,rfl,rfl,ng,mY,hgW,lC,kI,Ah,Ht,hul,zN,hap⟩
 refine ae ?_
 by_cases heN:e<N
 ·refine VS.bu rfl (decide_eq_true (Int.ofNat_lt.2 heN)) ?_
  refine ae ?_
  refine VS.fix 12 rfl (congrArg (λz=>AV.val (.int .i64 z)) hmK) ?_
  refine VS.loop (J:=λm L M w'=>∃ (z:Nat) (X:AV) (Mi:List (Nat×(TypeId×List AV))),z<=K/\m=K-z/\L=[(0,.val (.int .i64 n)),(1,.val (.int .i64 k)),(4,.val (.pointer (some ⟨g4,0,none⟩))),(5,.val (.pointer (some ⟨g,0,none⟩))),(6,X),(8,.val (.int .i64 (N:Int))),(9,.val (.int .i64 (e:Int))),(12,.val (.int .i64 (K:Int))),(13,.val (.int .i64 (z:Int)))]/\M=Mi/\gg (qH w.heap.size 1) 4 27 18 X Mi w' (List.replicate z 0)) K ⟨_,_,?_,?_,?_,?_,⟨0,_,[],by omega,rfl,rfl,rfl,.inl ⟨rfl,rfl,rfl⟩⟩⟩ ?_
  ·exact fx
  ·exact fx
  ·rfl
  ·exact qR
  rintro m L Mi wI ⟨z,X,Mi2,hz,rfl,rfl,rfl,hI⟩
  refine VS.now (λwX kN bN=> ?_)
  replace hI:=hI.kp (bE w.heap.size 1) (aH.gw kN)
  refine VS.mask [17] (by rcases hI with ⟨_,rfl,rfl⟩|⟨_,_,_,_,rfl,rfl,_⟩ <;> (repeat first|exact trivial|refine⟨rfl,?_⟩)) ?_
  refine ae ?_
  by_cases hzK:z<K
  ·refine VS.bu rfl (decide_eq_true (Int.ofNat_lt.2 hzK)) ?_
   refine ae ?_
   refine VO.cR rfl rfl (fk Tryz.func37) (λbM dp cq=>jN 0 bM aa aa) (λbM dp cq w1 s1 p1 n1 c1 t1 y1 m1 d1 q1 aQ eF _ bb1=>wV rfl ?_)
   refine ae ?_
   have gz:qH w.heap.size 1 w1 [.bool s1,.slice p1 n1 c1,.bool t1,.slice y1 m1 d1] 0:=.mk ((q1.cast (show ((0:Int):Rat)=0 from rfl)).mono (ng.ay cq).size) kt.zero
   rcases hI with ⟨iT,rfl,rfl⟩|⟨n',c',vs,sp,rfl,rfl,uw⟩
   ·refine VO.oe (bZ _ _) (bE w.heap.size 1) (t:=105) (e:=27) (s:=17) (a:=0) (cs:=[.bool s1,.slice p1 n1 c1,.bool t1,.slice y1 m1 d1]) rfl rfl rfl rfl rfl rfl rfl rfl (bR rfl) rfl rfl rfl gz aa (λw9 cap sp k9 b9 ky=>wV rfl ?_)
    refine ae ?_
    refine VS.back (K-(z+1)) aa ⟨_,_,?_,?_,?_,?_,⟨z+1,_,_,by omega,rfl,rfl,rfl,.inr ⟨1,cap,_,sp,rfl,rfl,by rw[List.replicate_succ',iT];exact ky⟩⟩⟩
    ·(refine⟨rfl,rfl,rfl,rfl,rfl,rfl,rfl,rfl,?_,trivial⟩;rw[<-aZ (i:=z) aa];rfl)
    ·(repeat first|exact trivial|refine⟨rfl,?_⟩|refine⟨congrArg (λl=>some (_,l)) (dS (by first|exact eh.cY (by assumption)|exact ak _|(rw[<-List.map_append];exact ak _)) _ _),?_⟩)
    ·rfl
    ·(repeat first|exact trivial|refine⟨aJ.lit rfl,?_⟩|refine⟨eh.EW (by assumption),?_⟩|refine⟨aJ.append (.vals _) (.vals _),?_⟩|refine⟨aJ.vals _,?_⟩)
   ·have tZ:=uw.len
    refine VO.og (bZ _ _) (bE w.heap.size 1) (t:=105) (e:=27) (s:=17) (i:=18) (n:=n') (c:=c') (vs:=vs) (sp:=sp) (es:=List.replicate z 0) (a:=0) (cs:=[.bool s1,.slice p1 n1 c1,.bool t1,.slice y1 m1 d1]) rfl rfl rfl rfl rfl rfl rfl rfl (bR rfl) rfl (.inr rfl) rfl (uw.kp (bE w.heap.size 1) iZ) rfl gz (by rw[List.length_replicate] at tZ;omega) (λw9 tw Ag ρ k9 b9 eO ky=>wV rfl ?_)
    refine ae ?_
    refine VS.back (K-(z+1)) aa ⟨_,_,?_,?_,?_,?_,⟨z+1,_,_,by omega,rfl,rfl,rfl,.inr ⟨n' +1,tw,_,Ag,rfl,rfl,by rw[List.replicate_succ'];exact ky⟩⟩⟩
    ·(refine⟨rfl,rfl,rfl,rfl,rfl,rfl,rfl,rfl,?_,trivial⟩;rw[<-aZ (i:=z) aa];rfl)
    ·(repeat first|exact trivial|refine⟨rfl,?_⟩|refine⟨congrArg (λl=>some (_,l)) (dS (by first|exact eh.cY (by assumption)|exact ak _|(rw[<-List.map_append];exact ak _)) _ _),?_⟩)
    ·rfl
    ·(repeat first|exact trivial|refine⟨aJ.lit rfl,?_⟩|refine⟨eh.EW (by assumption),?_⟩|refine⟨aJ.append (.vals _) (.vals _),?_⟩|refine⟨aJ.vals _,?_⟩)
  refine VS.bt rfl (decide_eq_false (λe=>hzK (Int.ofNat_lt.1 e))) ?_
  obtain rfl:K=z:=by omega
  subst hul
  refine VS.eQ vE (λt=>Nat.beq t 23) table (λ_ _ _=>trivial) (λea qq k1 xg BK=> ?_)
  have bB:ax W ea:=xg
  have eu:=hI.told (bE w.heap.size 1) BK (by intro q hq;rcases hI with ⟨_,rfl,rfl⟩|⟨_,_,_,_,rfl,rfl,_⟩ <;> first|(cases hq;done)|(cases List.mem_singleton.1 hq;rfl)) k1.gw W.heap.size (λh=>h)
  have ow:=Ah.aG bB
  have CO:=ng.size
  have zO:=bB.size
  rcases Ht with ⟨rfl,rfl⟩|⟨b0,cB,CP,CQ,rfl,hBg,ox,zP,zQ,Hu,Hv,Hw⟩
  ·have oy:eL vE 28 [g] [(52,[.val (.slice none 0 0)])] ea:=by
    refine⟨rfl,by simp,λj g' c' hj hc=> ?_,λc' hc=> ?_,λc' hc k hk=> ?_⟩
    ·match j,hj,hc with
     | 0,hj,hc=>cases hj;cases hc;exact ow
     | j+1,hj,_=>simp at hj
    ·cases List.mem_singleton.1 hc
     exact⟨rfl,rfl⟩
    ·cases List.mem_singleton.1 hc
     cases hk
   refine⟨[g],[(52,[.val (.slice none 0 0)])],oy,[(0,.val (.int .i64 n)),(1,.val (.int .i64 k)),(4,.val (.pointer (some ⟨g4,0,none⟩))),(5,.box 56 0),(8,.val (.int .i64 (N:Int))),(9,.val (.int .i64 (([]:List Value).length:Int))),(6,.val (X.aE qq))],⟨⟨_,rfl,rfl,λi hi=>(by cases hi)⟩,⟨_,rfl,rfl,λi hi=>(by cases hi)⟩,⟨_,rfl,rfl,λi hi=>(by cases hi)⟩,⟨_,rfl,rfl,λi hi=>by rw[(by simpa [AV.ids] using hi:i=56)];exact⟨(by show 56<=56;omega),(by show 56<2*28+1;omega)⟩⟩,⟨_,rfl,rfl,λi hi=>(by cases hi)⟩,⟨_,rfl,rfl,λi hi=>(by cases hi)⟩,⟨_,rfl,rfl,λi hi=>(by cases hi)⟩,trivial⟩,?_⟩
   generalize X.aE qq=vv at eu ⊢
   obtain⟨oz,oA,rfl⟩:=eu.form
   refine lB ?_
   refine VO.oe (ou _ _) dm (t:=50) (e:=105) (s:=23) (a:=.slice oz (List.replicate K (0:Rat)).length oA) (cs:=[.slice oz (List.replicate K (0:Rat)).length oA]) rfl rfl rfl rfl rfl rfl rfl rfl (bR rfl) rfl rfl rfl ⟨rfl,_,_,_,rfl⟩ aa (λur cap sp k13 b13 ky=>wV rfl ?_)
   refine lB ?_
   refine VS.om rfl (N-(([]:List Value).length+1)) aa (λw' bn k' o' xh=> ?_)
   have uf:aH vE ea w':=(show aH vE ea ur from iZ).ay k'
   have zR:ax w w':=iG.aG (ng.ay bB) o'.1 (λx hx=>by rw[List.mem_singleton.1 hx];omega)
   have hst:gg VE 1 105 24 (.row 24 0 1 cap) [(24,(105,_))] ur ([.slice oz (List.replicate K (0:Rat)).length oA]):=.inr ⟨_,cap,_,sp,rfl,rfl,ky⟩
   have lZ:=hst.told dm xh (λx hx=>by cases List.mem_singleton.1 hx;rfl) k'.gw w.heap.size (λh=>(dR (show gD 28 [g] ea 24 (bn 24) from h)).elim (λq=>Nat.le_trans CO (Nat.le_trans zO q)) (λq=>by rw[List.mem_singleton.1 q];omega))
   have tK:=xh.own 56 _ _ rfl
   have jS:bn 56=g:=(th tK 0 g rfl rfl).1
   refine⟨[(0,.int .i64 n),(1,.int .i64 k),(4,.pointer (some ⟨g4,0,none⟩)),(5,.pointer (some ⟨bn 56,0,none⟩)),(8,.int .i64 (N:Int)),(9,.int .i64 ((([]:List Value).length+1:Nat):Int))],⟨⟨_,_,rfl,rfl,rfl⟩,⟨_,_,rfl,rfl,rfl⟩,⟨_,_,rfl,rfl,rfl⟩,⟨_,_,rfl,rfl,rfl⟩,⟨_,_,rfl,rfl,rfl⟩,⟨_,_,rfl,congrArg (λz=>Value.int .i64 z) (aZ (i:=([]:List Value).length) aa),rfl⟩,trivial⟩,([]:List Value).length+1,g4,bn 56,.slice (some ⟨bn 24,0,none⟩) 1 cap,[Value.slice oz (List.replicate K (0:Rat)).length oA],by omega,rfl,rfl,zR,mY,by rw[jS];exact hgW,by rw[jS];exact lC,(kI.aG bB).but o'.1 (by simp[lC]),tK.cls,lZ,by simp,?_,?_⟩
   ·exact zL (vs:=([]:List Value)) (P:=λu=>aC (qH w.heap.size 1) 4 27 w.heap.size w' u (List.replicate K 0)) (λi u hi=>((zN i u hi).aG (bE w.heap.size 1) bB).kp (bE w.heap.size 1) uf rfl) ((eu.kp (bE w.heap.size 1) uf rfl).mono CO)
   ·exact fL (us:=([]:List Value)) (λi j u v b hi=>(by simp at hi)) (λi v b hi hb=>((zN i v hi).iX hb).2) (λb hb=>(eu.iX hb).1)
  ·have zS:=ox.aG bB
   have hgb:g≠b0:=λh=>by rw[h] at ow;exact absurd (ek ow zS) ck
   have Hx:g4≠b0:=λh=>by rw[h] at kI;exact absurd (ek kI ox) ck
   have oy:eL vE 28 [g,b0] [(52,[.row 57 0 us.length cB]),(105,CP.flatten.map .val++CQ.map .val)] ea:=by
    refine⟨rfl,by simp[hgb],λj g' c' hj hc=> ?_,λc' hc=> ?_,λc' hc k hk=> ?_⟩
    ·match j,hj,hc with
     | 0,hj,hc=>cases hj;cases hc;exact ow
     | 1,hj,hc=>cases hj;cases hc;rw[<-List.map_append,aU];exact zS
     | j+2,hj,_=>simp at hj
    ·rcases List.mem_cons.1 hc with rfl|hc
     ·exact⟨rfl,rfl⟩
     ·cases List.mem_singleton.1 hc
      exact⟨rfl,by rw[<-List.map_append];exact cV (by rw[List.all_append,(zP.ok dm).1,zQ];rfl)⟩
    ·rcases List.mem_cons.1 hc with rfl|hc
     ·have:k=57:=by simpa [aA,AV.cY] using hk
      subst this;exact⟨by omega,by show 57<2*28+2;omega⟩
     ·cases List.mem_singleton.1 hc
      rw[<-List.map_append,ak] at hk;cases hk
   have hNB:eh VE 1 ea us.length cB CP (CQ.map .val) us:=⟨rfl,zP.kp dm (Kp.of (U:=UU) bB),cV zQ,ak _,Hu,Hv,by rw[<-List.map_append,List.length_map];exact Hw⟩
   refine⟨[g,b0],[(52,[.row 57 0 us.length cB]),(105,CP.flatten.map .val++CQ.map .val)],oy,[(0,.val (.int .i64 n)),(1,.val (.int .i64 k)),(4,.val (.pointer (some ⟨g4,0,none⟩))),(5,.box 56 0),(8,.val (.int .i64 (N:Int))),(9,.val (.int .i64 (us.length:Int))),(6,.val (X.aE qq))],⟨⟨_,rfl,rfl,λi hi=>(by cases hi)⟩,⟨_,rfl,rfl,λi hi=>(by cases hi)⟩,⟨_,rfl,rfl,λi hi=>(by cases hi)⟩,⟨_,rfl,rfl,λi hi=>by rw[(by simpa [AV.ids] using hi:i=56)];exact⟨(by show 56<=56;omega),(by show 56<2*28+2;omega)⟩⟩,⟨_,rfl,rfl,λi hi=>(by cases hi)⟩,⟨_,rfl,rfl,λi hi=>(by cases hi)⟩,⟨_,rfl,rfl,λi hi=>(by cases hi)⟩,trivial⟩,?_⟩
   generalize X.aE qq=vv at eu ⊢
   obtain⟨oz,oA,rfl⟩:=eu.form
   refine lB ?_
   refine VO.og (ou _ _) dm (t:=50) (e:=105) (s:=23) (i:=57) (n:=us.length) (c:=cB) (vs:=CP) (sp:=CQ.map .val) (es:=us) (a:=.slice oz (List.replicate K (0:Rat)).length oA) (cs:=[.slice oz (List.replicate K (0:Rat)).length oA]) rfl rfl rfl rfl rfl rfl rfl rfl (bR rfl) rfl (.inl rfl) rfl (hNB.kp dm (aH.gw (show aH vE ea _ from iZ))) rfl ⟨rfl,_,_,_,rfl⟩ aa (λur cap sp ρ k13 b13 eO ky=>wV rfl ?_)
   refine lB ?_
   refine VS.om rfl (N-(us.length+1)) aa (λw' bn k' o' xh=> ?_)
   have uf:aH vE ea w':=(show aH vE ea ur from iZ).ay k'
   have zR:ax w w':=iG.aG (ng.ay bB) o'.1 (λx hx=>by
    rcases List.mem_cons.1 hx with rfl|hx
    ·omega
    ·rw[List.mem_singleton.1 hx];omega)
   have hst:gg VE 1 105 24 (.row 24 0 (us.length+1) cap) [(24,(105,_))] ur (us++[.slice oz (List.replicate K (0:Rat)).length oA]):=.inr ⟨_,cap,_,sp,rfl,rfl,ky⟩
   have lZ:=hst.told dm xh (λx hx=>by cases List.mem_singleton.1 hx;rfl) k'.gw w.heap.size (λh=>(dR (show gD 28 [g,b0] ea 24 (bn 24) from h)).elim (λq=>Nat.le_trans CO (Nat.le_trans zO q)) (λq=>by
    rcases List.mem_cons.1 q with h|h
    ·rw[h];omega
    ·rw[List.mem_singleton.1 h];omega))
   have tK:=xh.own 56 _ _ rfl
   have jS:bn 56=g:=(th tK 0 g rfl rfl).1
   refine⟨[(0,.int .i64 n),(1,.int .i64 k),(4,.pointer (some ⟨g4,0,none⟩)),(5,.pointer (some ⟨bn 56,0,none⟩)),(8,.int .i64 (N:Int)),(9,.int .i64 ((us.length+1:Nat):Int))],⟨⟨_,_,rfl,rfl,rfl⟩,⟨_,_,rfl,rfl,rfl⟩,⟨_,_,rfl,rfl,rfl⟩,⟨_,_,rfl,rfl,rfl⟩,⟨_,_,rfl,rfl,rfl⟩,⟨_,_,rfl,congrArg (λz=>Value.int .i64 z) (aZ (i:=us.length) aa),rfl⟩,trivial⟩,us.length+1,g4,bn 56,.slice (some ⟨bn 24,0,none⟩) (us.length+1) cap,us++[Value.slice oz (List.replicate K (0:Rat)).length oA],by omega,rfl,rfl,zR,mY,by rw[jS];exact hgW,by rw[jS];exact lC,(kI.aG bB).but o'.1 (by simp[lC,Hx]),tK.cls,lZ,by simp,?_,?_⟩
   ·exact zL (vs:=us) (P:=λu=>aC (qH w.heap.size 1) 4 27 w.heap.size w' u (List.replicate K 0)) (λi u hi=>((zN i u hi).aG (bE w.heap.size 1) bB).kp (bE w.heap.size 1) uf rfl) ((eu.kp (bE w.heap.size 1) uf rfl).mono CO)
   ·exact fL (us:=us) hap (λi v b hi hb=>((zN i v hi).iX hb).2) (λb hb=>(eu.iX hb).1)
 refine VS.bt rfl (decide_eq_false (λh=>heN (Int.ofNat_lt.1 h))) ?_
 obtain rfl:e=N:=by omega
 (repeat (first|refine wN ?_|refine wP rfl ?_|refine wO rfl rfl ?_))
 refine VS.eQ tN (λt=>Nat.beq t 23) table (λ_ _ _=>trivial) (λea qq k1 xg BK=> ?_)
 have bB:ax W ea:=xg
 have oy:eL tN 28 [g4] [(52,[.val (.slice none 0 0)])] ea:=by
  refine⟨rfl,by simp,λj g' c' hj hc=> ?_,λc' hc=> ?_,λc' hc k hk=> ?_⟩
  ·match j,hj,hc with
   | 0,hj,hc=>cases hj;cases hc;exact kI.aG bB
   | j+1,hj,_=>simp at hj
  ·cases List.mem_singleton.1 hc
   exact⟨rfl,rfl⟩
  ·cases List.mem_singleton.1 hc
   cases hk
 refine⟨[g4],[(52,[.val (.slice none 0 0)])],oy,[(4,.box 56 0),(5,.val (.pointer (some ⟨g,0,none⟩)))],⟨⟨_,rfl,rfl,λi hi=>by rw[(by simpa [AV.ids] using hi:i=56)];exact⟨(by show 56<=56;omega),(by show 56<2*28+1;omega)⟩⟩,⟨_,rfl,rfl,λi hi=>(by cases hi)⟩,trivial⟩,?_⟩
 refine bV ?_
 obtain⟨pv,cv,rfl⟩:=Ht.form
 refine VO.gn rfl [.slice pv us.length cv] rfl (at_one (pQ (λh=>lC h.symm) ((Ah.aG bB).cell (j:=0) rfl))) (wV rfl ?_)
 refine bV ?_
 refine VS.pJ (gJ _ _) rfl (λwz β kz bz en=> ?_)
 have zR:ax w wz:=iG.aG (ng.ay bB) bz.1 (λx hx=>by rw[List.mem_singleton.1 hx];exact mY)
 have hT:fA 1 w.heap.size W (.slice pv us.length cv) (pS e K):=⟨us,Ht,by unfold pS;rw[List.length_replicate,hul],λi u r hi hr=>by
  unfold pS at hr
  rw[(List.mem_replicate.1 (List.mem_of_getElem? hr)).2];exact zN i u hi,hap⟩
 exact⟨_,rfl,hT.kp (T:=λt=> !Nat.beq t 52) ((aH.of bB).ay (iG.kp bz.1 (λx hx=>⟨52,[.slice none 0 0],by rw[List.mem_singleton.1 hx];exact kI.aG bB,rfl,rfl⟩))) rfl rfl,zR⟩
abbrev TX:TypeId->Bool:=λt=> !(Nat.beq t 105 || Nat.beq t 27)
theorem ves {w:World}:∀ {us:List Value} {vs:List (List Value)},dy VE w us vs->vs=us.map λu=>[u]
 | [],_,.nil=>rfl
 | u::r,_,.cons h t=>by rw[h.1,ves t];rfl
theorem lD:∀ (us:List Value),(us.map λu=>[u]).flatten=us
 | []=>rfl
 | u::r=>by rw[List.map_cons,List.flatten_cons,lD r];rfl
set_option maxRecDepth 4000 in
theorem zT (v u:Value) (t:mc) (xs:List Rat) (y x:Rat) (e c B kk k:Nat) (w:World) (hv:fA kk B w v t) (hu:bS w u x k) (hx:t[e]? =some xs) (hy:xs[c]? =some y) (uf:kk<=1000000) (hk:k<=1000000) (hs:kt (y+x) kk):
  Calls Tryz.prog 64 #[.agg #[v],.agg #[.int .i64 (e:Int),.int .i64 (c:Int)],u] w λo w'=>o=.returned (.tuple #[])/\fA kk B w' v (uv t e c x)/\xu TX w w'/\∀ W,ax W w->W.heap.size<=B->ax W w':=by
 obtain⟨us,g1,g2,g3,g4⟩:=hv
 have gz:e<us.length:=by rw[g2];exact (List.getElem?_eq_some_iff.1 hx).1
 obtain⟨ue,hue⟩:∃ z,us[e]? =some z:=⟨_,List.getElem?_eq_getElem gz⟩
 have fB:c<xs.length:=(List.getElem?_eq_some_iff.1 hy).1
 rcases g1 with ⟨rfl,rfl⟩|⟨g,cg,vg,sg,rfl,hBg,Ah,hge,hgo,xl,hgm,hgf⟩
 ·exact absurd gz (Nat.not_lt_zero _)
 rcases g3 e ue xs hue hx with ⟨rfl,rfl⟩|⟨b,cb,vb,sb,rfl,hBb,Bb,Ea,hbo,hbl,hbm,hbf⟩
 ·exact absurd fB (Nat.not_lt_zero _)
 obtain rfl:=ves hge
 rw[lD] at Ah hgf
 obtain⟨s0,p0,n0,c0,t0,y0,m0,d0,rfl⟩:=hu.form
 have hgb:g≠b:=λh=>by rw[h] at Ah;exact absurd (ek Ah Bb) ck
 have hsetl:((us.map AV.val).set e (AV.row 55 0 xs.length cb)++sg.map AV.val).map (AV.leaf (adB 27 [g,b]))=us++sg:=by
  rw[List.map_append,aU,List.map_set,aU]
  congr 1
  apply List.ext_getElem?
  intro j
  rw[List.getElem?_set]
  by_cases h:e=j
  ·subst h;rw[if_pos rfl,if_pos gz,hue];rfl
  ·rw[if_neg h]
 have hok1:(us++sg).all aY=true:=by
  rw[List.all_append,hgo,Bool.and_true]
  have:=(hge.ok dm).1
  rwa [lD] at this
 have oy:eL tN 27 [g,b] [(105,(us.map AV.val).set e (.row 55 0 xs.length cb)++sg.map .val),(27,vb.flatten.map .val++sb.map .val)] w:=by
  refine⟨rfl,by simp[hgb],λj g' c' hj hc=> ?_,λc' hc=> ?_,λc' hc k hk=> ?_⟩
  ·match j,hj,hc with
   | 0,hj,hc=>cases hj;cases hc;rw[hsetl];exact Ah
   | 1,hj,hc=>cases hj;cases hc;rw[<-List.map_append,aU];exact Bb
   | j+2,hj,_=>simp at hj
  ·rcases List.mem_cons.1 hc with rfl|hc
   ·refine⟨rfl,List.all_eq_true.2 λq hq=> ?_⟩
    rcases List.mem_append.1 hq with h1|h1
    ·rcases List.mem_or_eq_of_mem_set h1 with h2|rfl
     ·obtain⟨z,hz,rfl⟩:=List.mem_map.1 h2
      exact List.all_eq_true.1 hok1 z (List.mem_append_left _ hz)
     ·rfl
    ·obtain⟨z,hz,rfl⟩:=List.mem_map.1 h1
     exact List.all_eq_true.1 hok1 z (List.mem_append_right _ hz)
   ·cases List.mem_singleton.1 hc
    exact⟨rfl,by rw[<-List.map_append];exact cV (by rw[List.all_append,(Ea.ok (bE B kk)).1,hbo];rfl)⟩
  ·rcases List.mem_cons.1 hc with rfl|hc
   ·have:k=55:=by
     obtain⟨q,hq,hk'⟩:=aR.1 hk
     rcases List.mem_append.1 hq with h1|h1
     ·rcases List.mem_or_eq_of_mem_set h1 with h2|rfl
      ·obtain⟨z,hz,rfl⟩:=List.mem_map.1 h2
       cases hk'
      ·simpa [AV.cY] using hk'
     ·obtain⟨z,hz,rfl⟩:=List.mem_map.1 h1
      cases hk'
    subst this;exact⟨by omega,by show 55<2*27+2;omega⟩
   ·cases List.mem_singleton.1 hc
    rw[<-List.map_append,ak] at hk;cases hk
 refine ah (C:=bC Tryz.prog w _) (args:=[_,_,_]) Tryz.func64 rfl Tryz.ntmps64 (bR rfl) ?_
 refine VS.eQ tN (λt=>Nat.beq t 23) table (λ_ _ _=>trivial) (λea qq k1 xg BK=> ?_)
 have bB:ax w ea:=xg
 have hsl1:=oy.aG bB
 refine⟨[g,b],_,hsl1,[(0,.agg [.row 54 0 us.length cg]),(1,.val (.agg #[.int .i64 (e:Int),.int .i64 (c:Int)])),(2,.val (.agg #[.bool s0,.slice p0 n0 c0,.bool t0,.slice y0 m0 d0]))],⟨⟨_,rfl,rfl,λi hi=>by rw[(by simpa [AV.ids,aA,AV.cY] using hi:i=54)];exact⟨(by show 54<=54;omega),(by show 54<2*27+2;omega)⟩⟩,⟨_,rfl,rfl,λi hi=>(by cases hi)⟩,⟨_,rfl,rfl,λi hi=>(by cases hi)⟩,trivial⟩,?_⟩
 refine bV ?_
 refine VO.cond rfl dU ?_
 refine wV rfl ?_
 refine bV ?_
 have hpk:∀ (j:Nat) (q:AV),[AV.row 55 0 xs.length cb][j]? =some q->((us.map AV.val).set e (.row 55 0 xs.length cb)++sg.map .val)[0+((e:Nat):Int).toNat*1+j]? =some q:=λj q hj=>by
  match j,hj with
  | 0,hj=>
    cases hj
    rw[Int.toNat_natCast,Nat.mul_one,Nat.zero_add,Nat.add_zero,List.getElem?_append_left (by rw[List.length_set,List.length_map];exact gz),List.getElem?_set,if_pos rfl,if_pos (by rw[List.length_map];exact gz)]
 refine VO.fU rfl [.row 55 0 xs.length cb] rfl hpk (wV rfl ?_)
 refine bV ?_
 refine VO.cond rfl dU ?_
 refine wV rfl ?_
 refine bV ?_
 refine VO.fU rfl [.row 55 0 xs.length cb] rfl hpk (wV rfl ?_)
 refine bV ?_
 refine VO.cond rfl dU ?_
 refine wV rfl ?_
 refine bV ?_
 obtain⟨cy,tQ,hEy⟩:=Ea.at c y hy
 obtain⟨s9,p9,n9,c9,t9,y9,m9,d9,rfl,hr9,hz9⟩:=hEy
 refine VO.fU rfl [.val (.bool s9),.val (.slice p9 n9 c9),.val (.bool t9),.val (.slice y9 m9 d9)] rfl (Bw (Ea.lens (bE B kk)) _ tQ 0 [.bool s9,.slice p9 n9 c9,.bool t9,.slice y9 m9 d9] ⟨[],rfl⟩ _ (by rw[Int.toNat_natCast];omega)) (wV rfl ?_)
 refine bV ?_
 refine VO.cR rfl rfl (fk Tryz.func38) (λbM dp cq=>Bq _ _ y x kk k bM ((hr9.rd.to hz9).kp (T:=λ_=>false) iZ) (hu.kp (T:=λ_=>false) iZ) aa aa) (λbM dp cq w1 s1 p1 n1 c1 t1 y1 m1 d1 q1 aQ eF _ bb1=>wV rfl ?_)
 refine bV ?_
 refine VO.cond rfl dU ?_
 refine wV rfl ?_
 refine bV ?_
 refine VO.cond rfl ?_ (wV rfl ?_)
 ·rw[List.length_append,List.length_map,List.length_map,<-List.length_append,hbf,Int.toNat_natCast]
  have:(c+1)*4<=cb*4:=Nat.mul_le_mul_right _ aa
  show 0+c*4+4<=cb*4
  omega
 refine bV ?_
 refine VS.fin (gJ _ _) rfl (λwz β kz bz en=> ?_)
 have hB1:iG [g,b] w wz:=(iG.of bB).ay bz.1
 have o54:=th (en.own 54 _ _ rfl) 0 g rfl rfl
 have o55:=th (en.own 55 _ _ rfl) 1 b rfl rfl
 have kz':aH ⟨UU,λ_=>True,λ_=>false⟩ w1 wz:=by exact iZ
 have kw:aH ⟨UU,λ_=>True,λ_=>false⟩ w wz:=by exact iZ
 have hgn:∀ q∈[g,b],B<=q:=λq hq=>by
  rcases List.mem_cons.1 hq with rfl|hq
  ·exact hBg
  ·rw[List.mem_singleton.1 hq];exact hBb
 have hset2:((us.map AV.val).set e (AV.row 55 0 xs.length cb)++sg.map AV.val).map (AV.leaf β)=us++sg:=by
  rw[List.map_append,aU,List.map_set,aU]
  congr 1
  apply List.ext_getElem?
  intro j
  rw[List.getElem?_set]
  by_cases h:e=j
  ·subst h;rw[if_pos rfl,if_pos gz,hue]
   show some (Value.slice (some ⟨β 55,0,none⟩) xs.length cb)=_
   rw[o55.1]
  ·rw[if_neg h]
 have c54:aI wz g 105 (us++sg).toArray:=by have:=o54.2;rwa [hset2] at this
 have c55:aI wz b 27 (((vb.set c [.bool s1,.slice p1 n1 c1,.bool t1,.slice y1 m1 d1]).flatten.map AV.val++sb.map AV.val).map (AV.leaf β)).toArray:=Eq.mp (congrArg (λl=>aI wz b 27 (List.map (AV.leaf β) l).toArray) (row_put (Ea.lens (bE B kk)) (by rw[Ea.len];exact fB) rfl)) o55.2
 rw[<-List.map_append,aU] at c55
 have lZ:qH B kk wz [.bool s1,.slice p1 n1 c1,.bool t1,.slice y1 m1 d1] (y+x):=.mk ((q1.mono (Nat.le_trans hBg (Nat.le_trans (Nat.le_of_lt Ah.lt) (show aH ⟨UU,λ_=>True,λ_=>false⟩ w bM from iZ).size))).kp kz') hs
 refine⟨rfl,⟨us,.inr ⟨g,cg,us.map λu=>[u],sg,rfl,hBg,by rw[lD];exact c54,hge.kp dm kw,hgo,xl,hgm,by rw[lD];exact hgf⟩,by rw[zK];exact g2,λi u r hi hr=> ?_,g4⟩,?_,λW hW hWB=>iG.aG hW hB1 (λq hq=>Nat.le_trans hWB (hgn q hq))⟩
 ·by_cases tL:i=e
  ·subst tL
   rw[hue] at hi
   cases hi
   rw[xf hx,if_pos rfl,BH hy] at hr
   cases hr
   refine .inr ⟨b,cb,vb.set c [.bool s1,.slice p1 n1 c1,.bool t1,.slice y1 m1 d1],sb,by rw[List.length_set],hBb,c55,(Ea.kp (bE B kk) kw).put lZ,hbo,by rw[List.length_set];exact hbl,hbm,?_⟩
   rw[List.length_append,ly _ 4 (((Ea.kp (bE B kk) kw).put lZ).lens (bE B kk)),List.length_set,<-ly _ 4 (Ea.lens (bE B kk)),<-List.length_append]
   exact hbf
  ·obtain⟨r0,h0⟩:∃ r0,t[i]? =some r0:=⟨_,List.getElem?_eq_getElem (by rw[<-g2];exact (List.getElem?_eq_some_iff.1 hi).1)⟩
   rw[xf h0,if_neg tL] at hr
   cases hr
   refine (g3 i u r hi h0).but (bE B kk) hB1 kw (λq hq hm=> ?_)
   rcases List.mem_cons.1 hm with rfl|hm
   ·rcases g3 i u r hi h0 with ⟨rfl,_⟩|⟨b',c',vs,sp,rfl,_,hcl',_⟩
    ·cases hq
    ·cases hq
     exact absurd (ek Ah hcl') ck
   ·rw[List.mem_singleton.1 hm] at hq
    exact tL (g4 i e u _ b hi hue hq rfl)
 ·refine iG.kp hB1 (λq hq=> ?_)
  rcases List.mem_cons.1 hq with rfl|hq
  ·exact⟨105,us++sg,Ah,rfl,hok1⟩
  ·rw[List.mem_singleton.1 hq]
   exact⟨27,vb.flatten++sb,Bb,rfl,by rw[List.all_append,(Ea.ok (bE B kk)).1,hbo];rfl⟩
set_option maxRecDepth 4000
abbrev Ew:=ByteArray×ByteArray×Rat
def BkE (kk:Nat) (w:World) (cs:List Value) (b:Ew):Prop:=∃ s p n c t y m d,cs=[.string b.1,.string b.2.1,.bool s,.slice p n c,.bool t,.slice y m d]/\bS w (.agg #[.bool s,.slice p n c,.bool t,.slice y m d]) b.2.2 kk
theorem Hy (kk:Nat):eg (BkE kk) 6 where
 kp:=λh k=>by
  obtain⟨s,p,n,c,t,y,m,d,hv,h2⟩:=h
  exact⟨_,_,_,_,_,_,_,_,hv,h2.kp k⟩
 len:=λh=>by
  obtain⟨s,p,n,c,t,y,m,d,rfl,_⟩:=h
  rfl
 ok:=λh=>by
  obtain⟨s,p,n,c,t,y,m,d,rfl,_⟩:=h
  rfl
def YbE (kk:Nat) (w:World) (cs:List Value) (l:List Ew):Prop:=∃ n h b d s q,cs=[n,h,b,d,s,q]/\bj (BkE kk) 6 w b l
theorem yb_b (kk:Nat):ElB (YbE kk):=λh hb=>by
 obtain⟨n,h,b,d,s,q,hv,h2⟩:=h
 exact⟨_,_,_,_,_,_,hv,h2.aG (Hy kk) hb⟩
def bkP (names:List ByteArray) (b:Ew):Int:=mX (λx=>b.1.toList == x.toList) names
def bkK (cls:List ma) (b:Ew):Int:=mX (λx=>x.1.toList == b.2.1.toList) cls
def CR (names:List ByteArray) (cls:List ma) (o:Option mc) (b:Ew):Option mc:=o.bind λt=>if ot t (bkP names b) (bkK cls b)=true then some (uv t (bkP names b).toNat (bkK cls b).toNat b.2.2) else none
def pV (names:List ByteArray) (cls:List ma) (l:List Ew):Option mc:=l.foldl (CR names cls) (some (pS names.length cls.length))
theorem Ex {names:List ByteArray} {cls:List ma} {l:List Ew} {z:Nat} {b:Ew} (h:l[z]? =some b):pV names cls (l.take (z+1))=CR names cls (pV names cls (l.take z)) b:=by
 unfold pV
 rw[bI h,List.foldl_append];rfl
theorem tx {names:List ByteArray} {cls:List ma}:∀ (l:List Ew),l.foldl (CR names cls) none=none
 | []=>rfl
 | _::r=>tx r
theorem Ey {names:List ByteArray} {cls:List ma} {l:List Ew} {z:Nat} (h:pV names cls (l.take z)=none):pV names cls l=none:=by
 have:pV names cls l=(l.drop z).foldl (CR names cls) (pV names cls (l.take z)):=by
  unfold pV
  rw[<-List.foldl_append,List.take_append_drop]
 rw[this,h,tx]
def tz (fE:List ByteArray) (cls:List ma) (xw:List (List Ew)) (year:Int):Option mc:=if year<0\/(xw.length:Int)<=year then none else pV (dW fE) cls (xw.getD year.toNat [])
def totE (o:Option mc):Int:=if o.isSome then 0 else 2
def CS (t:mc) (n:Nat):Prop:=∀ r∈t,∀ x∈r,kt x n
theorem zU (a b:Nat):CS (pS a b) 1:=λr hr x hx=>by
 rw[(List.mem_replicate.1 hr).2] at hx
 rw[(List.mem_replicate.1 hx).2];exact kt.zero
theorem Ez {t:mc} {n k e c:Nat} {x:Rat} (h:CS t n) (hx:kt x k):CS (uv t e c x) (n+k+1):=λr hr y hy=>by
 obtain⟨i,hi⟩:=List.getElem?_of_mem hr
 obtain⟨r0,h0⟩:∃ r0,t[i]? =some r0:=⟨_,List.getElem?_eq_getElem (by rw[<-zK t e c x];exact (List.getElem?_eq_some_iff.1 hi).1)⟩
 rw[xf h0] at hi
 have hm:=h r0 (List.mem_of_getElem? h0)
 by_cases he:i=e
 ·rw[if_pos he] at hi
  cases hi
  obtain⟨j,hj⟩:=List.getElem?_of_mem hy
  rw[List.getElem?_modify] at hj
  obtain⟨y0,Ai,rfl⟩:=Option.map_eq_some_iff.1 hj
  have h2:=hm y0 (List.mem_of_getElem? Ai)
  by_cases hc:c=j
  ·simp only[hc,if_true];exact h2.add hx
  ·simp only[hc,if_false];exact h2.mono aa
 ·rw[if_neg he] at hi
  cases hi
  exact (hm y hy).mono aa
theorem pW {t:mc} {e c:Int} (h:ot t e c=true):∃ (E K:Nat) (xs:List Rat) (y:Rat),e=E/\c=K/\t[E]? =some xs/\xs[K]? =some y:=by
 unfold ot at h
 obtain⟨h1,h2,h3,h4⟩:=of_decide_eq_true h
 obtain⟨E,rfl⟩:=Int.eq_ofNat_of_zero_le h1
 obtain⟨K,rfl⟩:=Int.eq_ofNat_of_zero_le h3
 rw[Int.toNat_natCast] at h4
 have h5:t[E]? =some (t[E]'aa):=List.getElem?_eq_getElem aa
 rw[List.getD_eq_getElem?_getD,h5] at h4
 exact⟨E,K,_,_,rfl,rfl,h5,List.getElem?_eq_getElem (by simpa using h4)⟩
abbrev TQ:TypeId->Bool:=λt=>(Nat.beq t 9 || (Nat.beq t 105 || Nat.beq t 27))
abbrev xj (P:Program) (w:World) (N:Nat):Cx:={ P:=P,w0:=w,N:=N,K:=⟨UU,λ_=>True,λt=>TQ t⟩,SU:=λt=>Nat.beq t 23,ti:=table,keep:=λ_ _=>trivial }
theorem mZ (w:World) (N:Nat):(xj Tryz.prog w N).Ok:=eK
theorem EA (w:World) (N:Nat):(xj Tryz.prog w N).P.follows .mixedOrders=true:=by show Tryz.prog.follows .mixedOrders=true;kernel_rfl
section
variable {F F':Fr} {H H':Hp} {w w1:World} {N:Nat} {l':List Oper} {Q:Exit->Act->World->Prop} {k:List It} {id:Nat} {ops:Array Oper}
theorem Hz (e:iu (xj Tryz.prog w1 N) ops 80 ops.toList F H=(l',F',H')) (h:aq (xj Tryz.prog w1 N) none ops l' (VS (xj Tryz.prog w1 N) Q k) F' H' w):VS (xj Tryz.prog w1 N) Q (.code (.region id ops false)::k) F H w:=VS.region (mZ _ _) (VO.run 80 e h)
theorem cxQ_d (e:iu (xj Tryz.prog w1 N) ops 80 ops.toList F H=(l',F',H')) (h:aq (xj Tryz.prog w1 N) (some []) ops l' (VS (xj Tryz.prog w1 N) Q k) F' H' w) (jm:ig (xj Tryz.prog w1 N).SU [] ops=true:=by kernel_rfl):VS (xj Tryz.prog w1 N) Q (.code (.region id ops true)::k) F H w:=VS.draw (mZ _ _) (EA _ _) [] jm (VO.run 80 e h)
end
theorem bL {P Q:Prop} (h:Q) (i:Q->P:=by intro h;(repeat first|refine wN ?_|refine wP rfl ?_|refine Hz rfl ?_|refine cxQ_d rfl ?_|refine wO rfl rfl ?_);exact h):P:=i h
theorem CT {P Q X:Prop} (hb:X) (h:Q) (i:X->Q->P:=by intro hb h;refine⟨_,rfl,hb,λa b c=>wV rfl ?_⟩;refine bL ?_;revert a b c;exact h):P:=i hb h
set_option maxRecDepth 8000 in
theorem zV (nm pa pB nB cB sT pT nT cT tT yT mT dT sC pC nC cC tC yC mC dC bk fw sI pI nI cI tI yI mI dI sF pF nF cF tF yF mF dF kp pc Nc cc pe Ne ce py Ny cy:_) (year:Int) (fE:List ByteArray) (cls:List ma) (xw:List (List Ew)) (kk nb:Nat) (w:World) (hc:bj (qG kk) 6 w (.slice pc Nc cc) cls) (he:bj oo 1 w (.slice pe Ne ce) fE) (hy:bj (YbE kk) 6 w (.slice py Ny cy) xw) (hk:1<=kk) (qN:kk<=1000) (hnb:∀ l∈xw,l.length<=nb) (hnb1:nb<=100) (hNe:fE.length<=10000) (hNc:cls.length<=10000):
  Calls Tryz.prog 13 #[.agg #[.string nm,.string pa,.slice pB nB cB,.bool sT,.slice pT nT cT,.bool tT,.slice yT mT dT,.bool sC,.slice pC nC cC,.bool tC,.slice yC mC dC,.int .i64 bk,.int .i64 fw,.bool sI,.slice pI nI cI,.bool tI,.slice yI mI dI,.bool sF,.slice pF nF cF,.bool tF,.slice yF mF dF,.int .i64 kp,.slice pc Nc cc,.slice pe Ne ce,.slice py Ny cy],.int .i64 year] w λo w'=>∃ r,o=.returned (.tuple #[.agg #[r],.int .i64 (totE (tz fE cls xw year))])/\fA (1+nb*(kk+1)) w.heap.size w' r ((tz fE cls xw year).getD [])/\ax w w':=by
 obtain⟨KK,hKK⟩:∃ KK,KK=1+nb*(kk+1):=⟨_,rfl⟩
 have hKb:KK<=1000000:=by
  have:nb*(kk+1)<=100*1001:=Nat.mul_le_mul hnb1 aa
  omega
 rw[<-hKK]
 obtain⟨p',c',e1,hce,hce2⟩:=he.form
 cases e1
 obtain⟨p',c',e1,hcc,hcc2⟩:=hc.form
 cases e1
 obtain⟨p',c',e1,hyc,hyc2⟩:=hy.form
 cases e1
 refine ah (C:=xj Tryz.prog w _) (args:=[_,_]) Tryz.func13 rfl Tryz.ntmps13 (bR rfl) ?_
 refine bL ?_
 have bad:∀ (W:World) (hB:ax w W),(tz fE cls xw year)=none->∃ r,(Ending.returned (.tuple #[.agg #[.slice none 0 0],.int .i64 2]))=.returned (.tuple #[.agg #[r],.int .i64 (totE (tz fE cls xw year))])/\fA KK w.heap.size W r ((tz fE cls xw year).getD [])/\ax w W:=λW hB hn=>by
  rw[hn]
  exact⟨_,rfl,fA.nil _ _ _,hB⟩
 by_cases Fv:year<0
 ·refine VO.fix 13 rfl (congrArg (λb=>AV.val (.bool b)) (decide_eq_true Fv)) ?_
  refine bL ?_
  refine VS.ret (mZ _ _) rfl rfl (λwz kz bz=> ?_)
  exact bad _ bz (by unfold tz;rw[if_pos (.inl Fv)])
 refine VO.fix 13 rfl (congrArg (λb=>AV.val (.bool b)) (decide_eq_false Fv)) ?_
 refine bL ?_
 by_cases Fu:(xw.length:Int)<=year
 ·refine VS.bu rfl (decide_eq_true Fu) ?_
  refine bL ?_
  refine VS.ret (mZ _ _) rfl rfl (λwz kz bz=> ?_)
  exact bad _ bz (by unfold tz;rw[if_pos (.inr Fu)])
 refine VS.bt rfl (decide_eq_false Fu) ?_
 obtain⟨Y,rfl⟩:=Int.eq_ofNat_of_zero_le (show 0<=year by omega)
 obtain⟨bks,hbks⟩:∃ l,xw[Y]? =some l:=⟨_,List.getElem?_eq_getElem aa⟩
 have hR:tz fE cls xw (Y:Int)=pV (dW fE) cls bks:=by
  unfold tz
  rw[if_neg aa,Int.toNat_natCast,List.getD_eq_getElem?_getD,hbks];rfl
 have hnbk:=hnb bks (List.mem_of_getElem? hbks)
 obtain⟨by0,oy0,csy,rfl,tQ,⟨yn,yh,yb,yd,ys,yq,rfl,hbk⟩⟩:=hy.at hbks
 obtain⟨pb,cb,rfl,Bb,hbc2⟩:=hbk.form
 refine bL ?_
 refine VO.call rfl rfl (fk Tryz.func61) (λbM dp cq=>(BC _ _ _ _ _ _ _ _ _ _ _ _ _ _ _ _ _ _ _ _ _ _ _ _ _ _ _ _ _ _ _ _ _ _ _ _ _ _ _ _ _ _ _ _ _ _ _ _ _ fE bM (he.aG jR cq) rfl aa).mono ?_)
 rintro o w1 ⟨r1,rfl,q1,aQ⟩
 obtain⟨pn,cn,rfl⟩:=q1.form
 refine CT aQ ?_
 intro eF _ bb1
 refine VO.call rfl rfl (fk Tryz.func34) (λcE ed da=>(BJ _ _ cE (by rw[lT];omega) aa).mono ?_)
 rintro o w2 ⟨r2,rfl,q2,ba⟩
 obtain⟨p2,c2,rfl⟩:=q2.form
 refine CT ba ?_
 intro fG _ bb2
 refine VO.cond rfl dU ?_
 refine wV rfl ?_
 refine bL ?_
 refine VO.read rfl [.slice pb bks.length cb] rfl (bH tQ 2 _ ⟨_,rfl⟩) (wV rfl ?_)
 refine bL ?_
 obtain⟨N,hN⟩:∃ N,N=bks.length:=⟨_,rfl⟩
 rw[<-hN] at hbk Bb hnbk ⊢
 have hpbk:=hbk
 refine VS.zH (J:=λm L W=>∃ (z g2 g4 g7:Nat) (tv nv:Value) (t:mc),z<=N/\m=N-z/\L=[(1,.int .i64 (Y:Int)),(2,.pointer (some ⟨g2,0,none⟩)),(4,.pointer (some ⟨g4,0,none⟩)),(6,nv),(7,.pointer (some ⟨g7,0,none⟩)),(34,.slice pb N cb),(35,.int .i64 (N:Int)),(36,.int .i64 (z:Int))]/\ax w W/\w.heap.size<=g4/\g4≠g7/\aI W g2 32 #[.string nm,.string pa,.slice pB nB cB,.bool sT,.slice pT nT cT,.bool tT,.slice yT mT dT,.bool sC,.slice pC nC cC,.bool tC,.slice yC mC dC,.int .i64 bk,.int .i64 fw,.bool sI,.slice pI nI cI,.bool tI,.slice yI mI dI,.bool sF,.slice pF nF cF,.bool tF,.slice yF mF dF,.int .i64 kp,.slice pc cls.length cc,.slice pe fE.length ce,.slice (some ⟨by0,oy0,none⟩) xw.length cy]/\aI W g4 52 #[.slice none 0 0]/\aI W g7 52 #[tv]/\aC oo 1 9 w.heap.size W nv (dW fE)/\fA KK w.heap.size W tv t/\pV (dW fE) cls (bks.take z)=some t/\CS t (1+z*(kk+1)))
  (λW=>xj Tryz.prog W 62) (λ_=>rfl) (λ_=>rfl) (λ_=>ax.refl _) N (λw' β k' o en=> ?_) ?_
 ·refine⟨[(1,.int .i64 (Y:Int)),(2,.pointer (some ⟨β 2,0,none⟩)),(4,.pointer (some ⟨β 4,0,none⟩)),(6,.slice pn (dW fE).length cn),(7,.pointer (some ⟨β 7,0,none⟩)),(34,.slice pb N cb),(35,.int .i64 (N:Int)),(36,.int .i64 ((0:Nat):Int))],⟨⟨_,_,rfl,rfl,rfl⟩,⟨_,_,rfl,rfl,rfl⟩,⟨_,_,rfl,rfl,rfl⟩,⟨_,_,rfl,rfl,rfl⟩,⟨_,_,rfl,rfl,rfl⟩,⟨_,_,rfl,rfl,rfl⟩,⟨_,_,rfl,by rw[hN];rfl,rfl⟩,⟨_,_,rfl,rfl,rfl⟩,trivial⟩,0,β 2,β 4,β 7,_,_,_,by omega,rfl,rfl,o,(en.own 4 _ _ rfl).new,(λh=>absurd (en.apart 4 7 (by intro h;cases h) (by intro h;cases h) h) ck),(en.own 2 _ _ rfl).cls,(en.own 4 _ _ rfl).cls,(en.own 7 _ _ rfl).cls,?_,?_,rfl,by rw[Nat.zero_mul];exact zU _ _⟩
  ·exact (q1.kp jR (show xu TQ w1 w' from iZ) rfl).mono cq.size
  ·exact ((q2.kp (show xu TQ w2 w' from iZ) rfl rfl).up aa).mono da.size
 rintro m L W ⟨z,g2,g4,g7,tv,nv,t,hz,rfl,rfl,ng,mY,hg47,hg2,kI,hg7,hnv,hT,hF,hS⟩
 obtain⟨pn2,cn2,rfl⟩:=hnv.form
 refine bL ?_
 by_cases hlt:z<N
 ·obtain⟨bk,hbz⟩:∃ x,bks[z]? =some x:=⟨_,List.getElem?_eq_getElem aa⟩
  have hbkW:bj (BkE kk) 6 W (.slice pb N cb) bks:=hpbk.aG (Hy kk) ng
  obtain⟨bb,ob,csb,rfl,hcb,⟨s9,p9,n9,c9,t9,y9,m9,d9,rfl,hin9⟩⟩:=hbkW.at hbz
  have hcW:bj (qG kk) 6 W (.slice pc cls.length cc) cls:=hc.aG (lU kk) ng
  have xl:∀ (b:Nat) (v:Value),tq tv=some b->g7≠b/\g4≠b:=λb v hb=>by
   obtain⟨us,h1,_⟩:=hT
   rcases h1 with ⟨rfl,_⟩|⟨b',c',vs,sp,rfl,hB,fB,_⟩
   ·cases hb
   ·cases hb
    exact⟨λh=>by rw[h] at hg7;exact absurd (ek hg7 fB) ck,λh=>by rw[h] at kI;exact absurd (ek kI fB) ck⟩
  refine VS.bu rfl (decide_eq_true (Int.ofNat_lt.2 hlt)) ?_
  refine bL ?_
  refine VO.cond rfl dU ?_
  refine wV rfl ?_
  refine bL ?_
  refine VO.read rfl [.string bk.1,.string bk.2.1,.bool s9,.slice p9 n9 c9,.bool t9,.slice y9 m9 d9] rfl (bH hcb 0 _ ⟨[],rfl⟩) (wV rfl ?_)
  refine bL ?_
  refine VO.call rfl rfl (fk Tryz.func62) (λfc fC gf=>(BF _ (dW fE) bk.1 fc ((hnv.sl jR).aG jR gf)).mono ?_)
  rintro o w3 ⟨rfl,cH⟩
  have hst:pV (dW fE) cls (bks.take (z+1))=if ot t (bkP (dW fE) bk) (bkK cls bk)=true then some (uv t (bkP (dW fE) bk).toNat (bkK cls bk).toNat bk.2.2) else none:=by rw[Ex hbz,hF];rfl
  have he0:mX (λx=>bk.1.toList == x.toList) (dW fE)=bkP (dW fE) bk:=rfl
  rw[he0]
  generalize bkP (dW fE) bk=ei at hst ⊢
  refine⟨_,rfl,cH,λkB _ bb3=>wV rfl ?_⟩
  (repeat (first|refine wN ?_|refine wP rfl ?_|refine Hz rfl ?_|refine wO rfl rfl ?_))
  refine VO.read rfl [.slice pc cls.length cc] rfl (cL (hg2.cell (j:=22) rfl)) (wV rfl ?_)
  (repeat (first|refine wN ?_|refine wP rfl ?_|refine Hz rfl ?_|refine wO rfl rfl ?_))
  refine VO.call rfl rfl (fk Tryz.func16) (λjZ lQ ll=>(BG _ cls bk.2.1 kk jZ (hcW.aG (lU kk) ll)).mono ?_)
  rintro o w4 ⟨rfl,iq⟩
  have hc0:mX (λx=>x.1.toList == bk.2.1.toList) cls=bkK cls bk:=rfl
  rw[hc0]
  generalize bkK cls bk=ci at hst ⊢
  refine CT iq ?_
  intro qy _ CC
  refine VO.read rfl [tv] rfl (cL (hg7.cell (j:=0) rfl)) (wV rfl ?_)
  refine bL ?_
  refine VO.call rfl rfl (fk Tryz.func63) (λja kc ke=>(tp _ t ei ci KK ja (hT.tab.lz (gp KK) ke)).mono ?_)
  rintro o w5 ⟨rfl,iW⟩
  cases hh:ot t ei ci with
  | false=>
    refine⟨_,rfl,iW,λnW _ Af=>wV rfl ?_⟩
    (repeat (first|refine wN ?_|refine wP rfl ?_|refine wO rfl rfl ?_))
    refine VS.eQ tN (λt=>Nat.beq t 23) table (λ_ _ _=>trivial) (λea qq k1 xg BK=> ?_)
    have bB:ax W ea:=xg
    have oy:eL tN 62 [g4] [(52,[.val (.slice none 0 0)])] ea:=by
     refine⟨rfl,by simp,λj g' c' hj hc=> ?_,λc' hc=> ?_,λc' hc k hk=> ?_⟩
     ·match j,hj,hc with
      | 0,hj,hc=>cases hj;cases hc;exact kI.aG bB
      | j+1,hj,_=>simp at hj
     ·cases List.mem_singleton.1 hc
      exact⟨rfl,rfl⟩
     ·cases List.mem_singleton.1 hc
      cases hk
    refine⟨[g4],[(52,[.val (.slice none 0 0)])],oy,[(4,.box 124 0)],⟨⟨_,rfl,rfl,λi hi=>by rw[(by simpa [AV.ids] using hi:i=124)];exact⟨(by show 124<=124;omega),(by show 124<2*62+1;omega)⟩⟩,trivial⟩,?_⟩
    refine bV ?_
    refine VS.ret (gJ _ _) rfl rfl (λwz kz bz=> ?_)
    exact bad _ (iG.aG (ng.ay bB) bz.1 (λx hx=>by rw[List.mem_singleton.1 hx];exact mY)) (by rw[hR];exact Ey (z:=z+1) (by rw[hst,hh];rfl))
  | true=>
    obtain⟨E,Kc,xs,y,rfl,rfl,hx,hy'⟩:=pW hh
    rw[hh,if_pos rfl,Int.toNat_natCast,Int.toNat_natCast] at hst
    have hRS:kt (y+bk.2.2) (1+z*(kk+1)+kk+1):=(hS xs (List.mem_of_getElem? hx) y (List.mem_of_getElem? hy')).add (hin9.sz hk)
    have hstep:1+z*(kk+1)+kk+1=1+(z+1)*(kk+1):=by rw[Nat.succ_mul];omega
    have hle:1+(z+1)*(kk+1)<=KK:=by
     have:(z+1)*(kk+1)<=nb*(kk+1):=Nat.mul_le_mul_right _ aa
     omega
    refine⟨_,rfl,iW,λnW _ Af=>wV rfl ?_⟩
    (repeat (first|refine wN ?_|refine wP rfl ?_|refine wO rfl rfl ?_))
    refine VS.xb (mZ _ _) 4 rfl rfl rfl (VO.run 80 rfl ?_)
    refine VO.read rfl [tv] rfl (cL (hg7.cell (j:=0) rfl)) (VO.run 80 rfl ?_)
    refine VO.nil ⟨_,_,_,λw=>xj Tryz.prog w 62,rfl,rfl,fk Tryz.func64,λ_=>rfl,λ_=>rfl,λ_=>ax.refl _,λw6 k6 b6=> ?_⟩
    have b6':ax W w6:=b6
    refine (zT tv _ t xs y bk.2.2 E Kc w.heap.size KK kk w6 (hT.aG b6') (hin9.kp (Kp.of (U:=UU) b6')) hx hy' hKb aa (hRS.mono aa)).mono ?_
    rintro o w7 ⟨rfl,hT7,hkx,hold⟩
    refine⟨_,[(1,.int .i64 (Y:Int)),(2,.pointer (some ⟨g2,0,none⟩)),(4,.pointer (some ⟨g4,0,none⟩)),(6,.slice pn2 (dW fE).length cn2),(7,.pointer (some ⟨g7,0,none⟩)),(34,.slice (some ⟨bb,ob,none⟩) N cb),(35,.int .i64 (N:Int)),(36,.int .i64 (z:Int))],rfl,⟨rfl,rfl,rfl,rfl,rfl,rfl,rfl,rfl,trivial⟩,(λp hp e=>by
     simp only[List.mem_cons,List.not_mem_nil,or_false] at hp
     rcases hp with rfl|rfl|rfl|rfl|rfl|rfl|rfl|rfl <;> cases e),?_⟩
    refine bL ?_
    refine VS.om rfl (N-(z+1)) aa (λw' β k' o' en=> ?_)
    have o'':ax w7 w':=o'
    have kx':xu TX W w':=(aH.of b6').ay (hkx.ay (aH.of o''))
    refine⟨[(1,.int .i64 (Y:Int)),(2,.pointer (some ⟨g2,0,none⟩)),(4,.pointer (some ⟨g4,0,none⟩)),(6,.slice pn2 (dW fE).length cn2),(7,.pointer (some ⟨g7,0,none⟩)),(34,.slice (some ⟨bb,ob,none⟩) N cb),(35,.int .i64 (N:Int)),(36,.int .i64 ((z+1:Nat):Int))],⟨⟨_,_,rfl,rfl,rfl⟩,⟨_,_,rfl,rfl,rfl⟩,⟨_,_,rfl,rfl,rfl⟩,⟨_,_,rfl,rfl,rfl⟩,⟨_,_,rfl,rfl,rfl⟩,⟨_,_,rfl,rfl,rfl⟩,⟨_,_,rfl,rfl,rfl⟩,⟨_,_,rfl,congrArg (λz=>Value.int .i64 z) (aZ (i:=z) aa),rfl⟩,trivial⟩,z+1,g2,g4,g7,tv,_,_,by omega,rfl,rfl,(hold w (ng.ay b6') (Nat.le_refl _)).ay o'',mY,hg47,kx'.block _ g2 _ rfl trivial hg2,kx'.block _ g4 _ rfl trivial kI,kx'.block _ g7 _ rfl trivial hg7,hnv.kp jR kx' rfl,hT7.aG o'',hst,hstep▸Ez hS (hin9.sz hk)⟩
 refine VS.bt rfl (decide_eq_false (λh=>hlt (Int.ofNat_lt.1 h))) ?_
 obtain rfl:N=z:=by omega
 rw[List.take_of_length_le aa] at hF
 obtain⟨ptv,ctv,rfl⟩:=hT.form
 have hg74:g7≠g4:=λh=>hg47 h.symm
 (repeat (first|refine wN ?_|refine wP rfl ?_|refine wO rfl rfl ?_))
 refine VS.eQ tN (λt=>Nat.beq t 23) table (λ_ _ _=>trivial) (λea qq k1 xg BK=> ?_)
 have bB:ax W ea:=xg
 have oy:eL tN 62 [g4] [(52,[.val (.slice none 0 0)])] ea:=by
  refine⟨rfl,by simp,λj g' c' hj hc=> ?_,λc' hc=> ?_,λc' hc k hk=> ?_⟩
  ·match j,hj,hc with
   | 0,hj,hc=>cases hj;cases hc;exact kI.aG bB
   | j+1,hj,_=>simp at hj
  ·cases List.mem_singleton.1 hc
   exact⟨rfl,rfl⟩
  ·cases List.mem_singleton.1 hc
   cases hk
 refine⟨[g4],[(52,[.val (.slice none 0 0)])],oy,[(4,.box 124 0),(7,.val (.pointer (some ⟨g7,0,none⟩)))],⟨⟨_,rfl,rfl,λi hi=>by rw[(by simpa [AV.ids] using hi:i=124)];exact⟨(by show 124<=124;omega),(by show 124<2*62+1;omega)⟩⟩,⟨_,rfl,rfl,λi hi=>(by cases hi)⟩,trivial⟩,?_⟩
 refine bV ?_
 refine VO.gn rfl [.slice ptv t.length ctv] rfl (at_one (pQ hg74 ((hg7.aG bB).cell (j:=0) rfl))) (wV rfl ?_)
 refine bV ?_
 refine VS.pJ (gJ _ _) rfl (λwz β kz bz en=> ?_)
 rw[hR,hF]
 exact⟨_,rfl,hT.kp (T:=λt=> !Nat.beq t 52) ((aH.of bB).ay (iG.kp bz.1 (λx hx=>⟨52,[.slice none 0 0],by rw[List.mem_singleton.1 hx];exact kI.aG bB,rfl,rfl⟩))) rfl rfl,iG.aG (ng.ay bB) bz.1 (λx hx=>by rw[List.mem_singleton.1 hx];exact mY)⟩
structure Rw where
 s:Bool
 xs:List Nat
 t:Bool
 ys:List Nat
def Rw.q (r:Rw):Rat:=rq r.s r.xs r.t r.ys
def Rw.of (q:Rat):Rw:=⟨decide (q.num<0),limbs q.num.natAbs,decide ((q.den:Int)<0),limbs (q.den:Int).natAbs⟩
def dG (kk:Nat) (w:World) (cs:List Value) (r:Rw):Prop:=∃ s p n c t y m d,cs=[.bool s,.slice p n c,.bool t,.slice y m d]/\cN w (.agg #[.bool s,.slice p n c,.bool t,.slice y m d]) r.s r.xs r.t r.ys/\r.xs.length<=kk/\r.ys.length<=kk
theorem dG.kp {kk:Nat} {U:TypeId} {T:TypeId->Bool} {w w':World} {cs:List Value} {r:Rw} (h:dG kk w cs r) (k:aH ⟨U,λ_=>True,T⟩ w w'):dG kk w' cs r:=by
 obtain⟨s,p,n,c,t,y,m,d,h1,h2,h3,h4⟩:=h
 exact⟨_,_,_,_,_,_,_,_,h1,h2.kp k,h3,h4⟩
theorem dG.el (kk:Nat):eg (dG kk) 4 where
 kp:=λh k=>h.kp k
 len:=λh=>by
  obtain⟨s,p,n,c,t,y,m,d,rfl,_⟩:=h
  rfl
 ok:=λh=>by
  obtain⟨s,p,n,c,t,y,m,d,rfl,_⟩:=h
  rfl
theorem dG.raw {kk:Nat} {w:World} {s t:Bool} {p y:Option Addr} {n c m d:Nat} {r:Rw} (h:dG kk w [.bool s,.slice p n c,.bool t,.slice y m d] r):cN w (.agg #[.bool s,.slice p n c,.bool t,.slice y m d]) r.s r.xs r.t r.ys/\r.xs.length<=kk/\r.ys.length<=kk:=by
 obtain⟨_,_,_,_,_,_,_,_,h1,h2⟩:=h
 cases h1;exact h2
theorem dG.in {kk:Nat} {w:World} {s t:Bool} {p y:Option Addr} {n c m d:Nat} {r:Rw} (h:dG kk w [.bool s,.slice p n c,.bool t,.slice y m d] r):bS w (.agg #[.bool s,.slice p n c,.bool t,.slice y m d]) r.q kk:=h.raw.1.in h.raw.2.1 h.raw.2.2
theorem dG.of {kk:Nat} {w:World} {s t:Bool} {p y:Option Addr} {n c m d:Nat} {q:Rat} (h:cM w (.agg #[.bool s,.slice p n c,.bool t,.slice y m d]) q) (hs:kt q kk):dG kk w [.bool s,.slice p n c,.bool t,.slice y m d] (Rw.of q):=⟨_,_,_,_,_,_,_,_,rfl,h.raw,hs.1,hs.2⟩
theorem dG.mk {kk:Nat} {w:World} {s t:Bool} {p y:Option Addr} {n c m d:Nat} {r:Rw} (h:cN w (.agg #[.bool s,.slice p n c,.bool t,.slice y m d]) r.s r.xs r.t r.ys) (h1:r.xs.length<=kk) (h2:r.ys.length<=kk):dG kk w [.bool s,.slice p n c,.bool t,.slice y m d] r:=⟨_,_,_,_,_,_,_,_,rfl,h,h1,h2⟩
abbrev BrR:=Rw×Rw
abbrev vF:=ByteArray×Nat×Rw
abbrev HbR:=ByteArray×ByteArray×Rw
abbrev SkR:=ByteArray×Rw×Rw
abbrev SdR:=ByteArray×Rw
structure DlR where
 give:Bool
 id:ByteArray
 kind:Nat
 payee:ByteArray
 payer:ByteArray
 cls:ByteArray
 amt:Rw
def BrE (kk:Nat) (w:World) (cs:List Value) (x:BrR):Prop:=∃ s0 p0 n0 c0 t0 y0 m0 d0 s1 p1 n1 c1 t1 y1 m1 d1,cs=[.bool s0,.slice p0 n0 c0,.bool t0,.slice y0 m0 d0,.bool s1,.slice p1 n1 c1,.bool t1,.slice y1 m1 d1]/\dG kk w [.bool s0,.slice p0 n0 c0,.bool t0,.slice y0 m0 d0] x.1/\dG kk w [.bool s1,.slice p1 n1 c1,.bool t1,.slice y1 m1 d1] x.2
def KlE (kk:Nat) (w:World) (cs:List Value) (x:vF):Prop:=∃ s0 p0 n0 c0 t0 y0 m0 d0,cs=[.string x.1,.int .u8 (x.2.1:Int),.bool s0,.slice p0 n0 c0,.bool t0,.slice y0 m0 d0]/\dG kk w [.bool s0,.slice p0 n0 c0,.bool t0,.slice y0 m0 d0] x.2.2/\x.2.1<256
def HbE (kk:Nat) (w:World) (cs:List Value) (x:HbR):Prop:=∃ s0 p0 n0 c0 t0 y0 m0 d0,cs=[.string x.1,.string x.2.1,.bool s0,.slice p0 n0 c0,.bool t0,.slice y0 m0 d0]/\dG kk w [.bool s0,.slice p0 n0 c0,.bool t0,.slice y0 m0 d0] x.2.2
def DlE (kk:Nat) (w:World) (cs:List Value) (x:DlR):Prop:=∃ s0 p0 n0 c0 t0 y0 m0 d0,cs=[.bool x.give,.string x.id,.int .u8 (x.kind:Int),.string x.payee,.string x.payer,.string x.cls,.bool s0,.slice p0 n0 c0,.bool t0,.slice y0 m0 d0]/\dG kk w [.bool s0,.slice p0 n0 c0,.bool t0,.slice y0 m0 d0] x.amt/\x.kind<256
def SkE (kk:Nat) (w:World) (cs:List Value) (x:SkR):Prop:=∃ s0 p0 n0 c0 t0 y0 m0 d0 s1 p1 n1 c1 t1 y1 m1 d1,cs=[.string x.1,.bool s0,.slice p0 n0 c0,.bool t0,.slice y0 m0 d0,.bool s1,.slice p1 n1 c1,.bool t1,.slice y1 m1 d1]/\dG kk w [.bool s0,.slice p0 n0 c0,.bool t0,.slice y0 m0 d0] x.2.1/\dG kk w [.bool s1,.slice p1 n1 c1,.bool t1,.slice y1 m1 d1] x.2.2
def SdE (kk:Nat) (w:World) (cs:List Value) (x:SdR):Prop:=∃ s0 p0 n0 c0 t0 y0 m0 d0,cs=[.string x.1,.bool s0,.slice p0 n0 c0,.bool t0,.slice y0 m0 d0]/\dG kk w [.bool s0,.slice p0 n0 c0,.bool t0,.slice y0 m0 d0] x.2
structure YrR where
 num:Int
 holds:List HbR
 books:List HbR
 deals:List DlR
 stocks:List SkR
 solds:List SdR
structure FilR where
 name:ByteArray
 parent:ByteArray
 brs:List BrR
 thr:Rw
 cap:Rw
 bk:Int
 fw:Int
 itr:Rw
 flo:Rw
 kp:Int
 cls:List vF
 fE:List ByteArray
 xw:List YrR
theorem zW {α β:Type} {E:World->List Value->α->Prop} {E':World->List Value->β->Prop} {sz:Nat} {w:World} {v:Value} {es:List α} {g:α->β} (h:bj E sz w v es) (hm:∀ (cs:List Value) (a:α),E w cs a->E' w cs (g a)):bj E' sz w v (es.map g):=by
 obtain⟨p,c,rfl,h1,h2,h3⟩:=h
 refine⟨p,c,by rw[List.length_map],by rw[List.length_map];exact h1,h2,λi a ha=> ?_⟩
 rw[List.getElem?_map] at ha
 obtain⟨x,hx,rfl⟩:=Option.map_eq_some_iff.1 ha
 obtain⟨b,off,cs,hp,hc,hE⟩:=h3 i x hx
 exact⟨b,off,cs,hp,hc,hm _ _ hE⟩
set_option maxRecDepth 4000
theorem vG (n:Int) (w:World) (h0: -9223372036854775808<=n) (h1:n<=9223372036854775807):Calls Tryz.prog 106 #[.int .i64 n] w λe w'=>∃ r,e=.returned r/\aM w' w.heap.size r (Rat.divInt n 100)/\ax w w':=by
 refine ah (C:=bC Tryz.prog w _) (args:=[_]) Tryz.func106 rfl Tryz.ntmps106 (bR rfl) ?_
 refine ae ?_
 refine VO.cR rfl rfl (fk Tryz.func45) (λbM dp cq=>dk n 100 bM h0 h1 aa aa) (λbM dp cq w1 s1 p1 n1 c1 t1 y1 m1 d1 q1 aQ eF _ bb1=>wV rfl ?_)
 refine ae ?_
 refine bg ?_;intro wz kz bz
 exact⟨_,rfl,(q1.k).mono cq.size,bz⟩
theorem lV (n:Int) (w:World) (h0: -9223372036854775808<=n) (h1:n<=9223372036854775807):Calls Tryz.prog 107 #[.int .i64 n] w λe w'=>∃ r,e=.returned r/\aM w' w.heap.size r (Rat.divInt n 10000)/\ax w w':=by
 refine ah (C:=bC Tryz.prog w _) (args:=[_]) Tryz.func107 rfl Tryz.ntmps107 (bR rfl) ?_
 refine ae ?_
 refine VO.cR rfl rfl (fk Tryz.func45) (λbM dp cq=>dk n 10000 bM h0 h1 aa aa) (λbM dp cq w1 s1 p1 n1 c1 t1 y1 m1 d1 q1 aQ eF _ bb1=>wV rfl ?_)
 refine ae ?_
 refine bg ?_;intro wz kz bz
 exact⟨_,rfl,(q1.k).mono cq.size,bz⟩
theorem BrE.mk' {kk:Nat} {w:World} {r u:Rw} {s0 t0:Bool} {p0 y0:Option Addr} {n0 c0 m0 d0:Nat} {s1 t1:Bool} {p1 y1:Option Addr} {n1 c1 m1 d1:Nat} (h:dG kk w [.bool s0,.slice p0 n0 c0,.bool t0,.slice y0 m0 d0] r) (h':dG kk w [.bool s1,.slice p1 n1 c1,.bool t1,.slice y1 m1 d1] u):BrE kk w [.bool s0,.slice p0 n0 c0,.bool t0,.slice y0 m0 d0,.bool s1,.slice p1 n1 c1,.bool t1,.slice y1 m1 d1] (r,u):=⟨_,_,_,_,_,_,_,_,_,_,_,_,_,_,_,_,rfl,h,h'⟩
def YrN (B:Nat) (w:World) (cs:List Value) (y:YrR):Prop:=∃ h b d s q,cs=[.int .i64 y.num,h,b,d,s,q]/\aC (HbE 2) 6 218 B w h y.holds/\aC (HbE 2) 6 103 B w b y.books/\aC (DlE 2) 10 222 B w d y.deals/\aC (SkE 2) 9 226 B w s y.stocks/\aC (SdE 2) 5 230 B w q y.solds
theorem YrN.six {B:Nat} {w:World} {cs:List Value} {y:YrR} (h:YrN B w cs y):∃ p1 n1 c1 p2 n2 c2 p3 n3 c3 p4 n4 c4 p5 n5 c5,cs=[.int .i64 y.num,.slice p1 n1 c1,.slice p2 n2 c2,.slice p3 n3 c3,.slice p4 n4 c4,.slice p5 n5 c5]:=by
 obtain⟨h,b,d,s,q,rfl,g1,g2,g3,g4,g5⟩:=h
 obtain⟨p1,c1,rfl⟩:=g1.form
 obtain⟨p2,c2,rfl⟩:=g2.form
 obtain⟨p3,c3,rfl⟩:=g3.form
 obtain⟨p4,c4,rfl⟩:=g4.form
 obtain⟨p5,c5,rfl⟩:=g5.form
 exact⟨_,_,_,_,_,_,_,_,_,_,_,_,_,_,_,rfl⟩
def CE (n:Nat) (_:World) (cs:List Value) (x:List Value):Prop:=cs=x/\x.length=n/\x.all aY=true
theorem CU (n:Nat):eg (CE n) n where
 kp:=λh _=>h
 len:=λh=>by rw[h.1];exact h.2.1
 ok:=λh=>by rw[h.1];exact h.2.2
theorem slin_ce {α:Type} {E:World->List Value->α->Prop} {n:Nat} {w:World} {v:Value} {vs:List (List Value)} {es:List α} (h:bj (CE n) n w v vs) (hl:vs.length=es.length) (hg:∀ (i:Nat) (u:List Value) (a:α),vs[i]? =some u->es[i]? =some a->E w u a):bj E n w v es:=by
 obtain⟨p,c,rfl,h1,h2,h3⟩:=h
 refine⟨p,c,by rw[hl],by rw[<-hl];exact h1,h2,λi a ha=> ?_⟩
 obtain⟨u,hu⟩:∃ u,vs[i]? =some u:=⟨_,List.getElem?_eq_getElem (by rw[hl];exact (List.getElem?_eq_some_iff.1 ha).1)⟩
 obtain⟨b,off,cs,hp,hc,hE⟩:=h3 i u hu
 obtain⟨rfl,-⟩:=hE
 exact⟨b,off,_,hp,hc,hg i _ a hu ha⟩
def FilN (B:Nat) (w:World) (v:Value) (f:FilR):Prop:=∃ pB nB cB sT pT nT cT tT yT mT dT sC pC nC cC tC yC mC dC sI pI nI cI tI yI mI dI sF pF nF cF tF yF mF dF pc Nc cc pe Ne ce py Ny cy,v=.agg #[.string f.name,.string f.parent,.slice pB nB cB,.bool sT,.slice pT nT cT,.bool tT,.slice yT mT dT,.bool sC,.slice pC nC cC,.bool tC,.slice yC mC dC,.int .i64 f.bk,.int .i64 f.fw,.bool sI,.slice pI nI cI,.bool tI,.slice yI mI dI,.bool sF,.slice pF nF cF,.bool tF,.slice yF mF dF,.int .i64 f.kp,.slice pc Nc cc,.slice pe Ne ce,.slice py Ny cy]/\aC (BrE 2) 8 127 B w (.slice pB nB cB) f.brs/\dG 2 w [.bool sT,.slice pT nT cT,.bool tT,.slice yT mT dT] f.thr/\dG 2 w [.bool sC,.slice pC nC cC,.bool tC,.slice yC mC dC] f.cap/\dG 2 w [.bool sI,.slice pI nI cI,.bool tI,.slice yI mI dI] f.itr/\dG 2 w [.bool sF,.slice pF nF cF,.bool tF,.slice yF mF dF] f.flo/\aC (KlE 2) 6 64 B w (.slice pc Nc cc) f.cls/\aC oo 1 9 B w (.slice pe Ne ce) f.fE/\∃ ycs,aC (CE 6) 6 99 B w (.slice py Ny cy) ycs/\ycs.length=f.xw.length/\∀ (i:Nat) (cs:List Value) (y:YrR),ycs[i]? =some cs->f.xw[i]? =some y->YrN B w cs y
abbrev TFil:TypeId->Bool:=λt=>(Nat.beq t 127 || (Nat.beq t 64 || (Nat.beq t 9 || (Nat.beq t 99 || (Nat.beq t 218 || (Nat.beq t 103 || (Nat.beq t 222 || (Nat.beq t 226 || Nat.beq t 230))))))))
set_option maxRecDepth 4000
def ez:FilR:={ name:=⟨#[83]⟩,parent:=⟨#[80]⟩,brs:=[((Rw.of (Rat.divInt 0 100)),(Rw.of (Rat.divInt 2500 10000)))],thr:=(Rw.of (Rat.divInt 7500 10000)),cap:=(Rw.of (Rat.divInt 5000 10000)),bk:=1,fw:=2,itr:=(Rw.of (Rat.divInt 3000 10000)),flo:=(Rw.of (Rat.divInt 0 100)),kp:=1,cls:=[],fE:=[⟨#[80]⟩],xw:=[⟨2020,[],[],[],[],[]⟩] }
set_option maxRecDepth 8000 in
theorem EB (w:World):Calls Tryz.prog 56 #[] w λo w'=>∃ r,o=.returned r/\FilN w.heap.size w' r ez/\ax w w':=by
 refine ah (C:=bC Tryz.prog w _) (args:=[]) Tryz.func56 rfl Tryz.ntmps56 (bR rfl) ?_
 refine ae ?_
 refine VO.cR rfl rfl (fk Tryz.func106) (λbM dp cq=>vG 0 bM aa aa) (λbM dp cq w1 s1 p1 n1 c1 t1 y1 m1 d1 q1 aQ eF _ bb1=>wV rfl ?_)
 refine ae ?_
 refine VO.cR rfl rfl (fk Tryz.func107) (λcE ed da=>lV 2500 cE aa aa) (λcE ed da w2 s2 p2 n2 c2 t2 y2 m2 d2 q2 ba fG _ bb2=>wV rfl ?_)
 refine ae ?_
 refine VO.cR rfl rfl (fk Tryz.func107) (λfc fC gf=>lV 7500 fc aa aa) (λfc fC gf w3 s3 p3 n3 c3 t3 y3 m3 d3 q3 cH kB _ bb3=>wV rfl ?_)
 refine ae ?_
 refine VO.cR rfl rfl (fk Tryz.func107) (λjZ lQ ll=>lV 5000 jZ aa aa) (λjZ lQ ll w4 s4 p4 n4 c4 t4 y4 m4 d4 q4 iq qy _ CC=>wV rfl ?_)
 refine ae ?_
 refine VO.cR rfl rfl (fk Tryz.func107) (λja kc ke=>lV 3000 ja aa aa) (λja kc ke w5 s5 p5 n5 c5 t5 y5 m5 d5 q5 iW nW _ Af=>wV rfl ?_)
 refine ae ?_
 refine VO.cR rfl rfl (fk Tryz.func106) (λsX qQ wG=>vG 0 sX aa aa) (λsX qQ wG w6 s6 p6 n6 c6 t6 y6 m6 d6 q6 ud vu _ GU=>wV rfl ?_)
 refine ae ?_
 refine VS.pJ (bZ _ _) rfl (λwz β kz bz en=> ?_)
 exact⟨_,rfl,⟨_,_,_,_,_,_,_,_,_,_,_,_,_,_,_,_,_,_,_,_,_,_,_,_,_,_,_,_,_,_,_,_,_,_,_,_,_,_,_,_,_,_,_,_,rfl,
  jP (E:=BrE 2) (vs:=[[.bool s1,.slice p1 n1 c1,.bool t1,.slice y1 m1 d1,.bool s2,.slice p2 n2 c2,.bool t2,.slice y2 m2 d2]]) (spare:=[]) (en.own 4 _ _ rfl) (.cons (BrE.mk' (dG.of q1.kr (cK aa aa aa aa)) (dG.of q2.kr (cK aa aa aa aa))) .nil) rfl (Nat.le_refl _) ck rfl (λ_ _ h=>h),
  (dG.of q3.kr (cK aa aa aa aa)),(dG.of q4.kr (cK aa aa aa aa)),(dG.of q5.kr (cK aa aa aa aa)),(dG.of q6.kr (cK aa aa aa aa)),aC.nil',
  jP (E:=oo) (vs:=[[.string ⟨#[80]⟩]]) (spare:=[]) (en.own 9 _ _ rfl) (.cons rfl .nil) rfl (Nat.le_refl _) ck rfl (λ_ _ h=>h),
  [[.int .i64 2020,.slice none 0 0,.slice none 0 0,.slice none 0 0,.slice none 0 0,.slice none 0 0]],jP (E:=CE 6) (vs:=[[.int .i64 2020,.slice none 0 0,.slice none 0 0,.slice none 0 0,.slice none 0 0,.slice none 0 0]]) (spare:=[]) (en.own 11 _ _ rfl) (.cons ⟨rfl,rfl,rfl⟩ .nil) rfl (Nat.le_refl _) ck rfl (λ_ _ h=>h),rfl,λi cs y hi hy=>by
    match i,hi,hy with
    | 0,hi,hy=>
      cases hi;cases hy
      exact⟨_,_,_,_,_,rfl,aC.nil',aC.nil',aC.nil',aC.nil',aC.nil'⟩
    | i+1,hi,_=>simp at hi⟩,bz⟩
section
variable {F F':Fr} {H H':Hp} {w w1:World} {N:Nat} {l':List Oper} {Q:Exit->Act->World->Prop} {k:List It} {id:Nat} {ops:Array Oper}
end
set_option maxRecDepth 4000
theorem tB {w:World} {b:Nat} {cs:List Value} (h:∀ (j:Nat) (u:Value),cs[j]? =some u->w.cell? ⟨b,j,none⟩=some u):∀ (j:Nat) (u:Value),cs[j]? =some u->w.cell? ((⟨b,0,none⟩:Addr).add j)=some u:=λj u hj=>by
 rw[Addr.add_mid,Nat.zero_add];exact h j u hj
def pX {α:Type} (E:World->List Value->α->Prop) (t1 t2:TypeId) (B:Nat) (w:World) (v:Value) (t:List (List α)):Prop:=∃ us,aC VE 1 t1 B w v us/\us.length=t.length/\(∀ (i:Nat) (u:Value) (r:List α),us[i]? =some u->t[i]? =some r->aC E 4 t2 B w u r)/\tr us
section
variable {α:Type} {E E':World->List Value->α->Prop} {t1 t2:TypeId} {B:Nat} {w w':World} {v:Value} {t:List (List α)}
theorem pX.kp {T:TypeId->Bool} (hE:eg E 4) (h:pX E t1 t2 B w v t) (k:xu T w w') (h1:T t1=true) (h2:T t2=true):pX E t1 t2 B w' v t:=by
 obtain⟨us,g1,g2,g3,g4⟩:=h
 exact⟨us,g1.kp dm k h1,g2,λi u r hi hr=>(g3 i u r hi hr).kp hE k h2,g4⟩
theorem pX.form (h:pX E t1 t2 B w v t):∃ p c,v=.slice p t.length c:=by
 obtain⟨us,g1,g2,_⟩:=h
 rw[<-g2];exact g1.form
end
def jt {α:Type} (E:World->List Value->α->Prop) (w:World) (cs:List Value) (r:List α):Prop:=∃ v,cs=[v]/\bj E 4 w v r
theorem xk {α:Type} {E:World->List Value->α->Prop} (hE:eg E 4):ElB (jt E):=λh hb=>by
 obtain⟨v,hv,h1⟩:=h
 exact⟨v,hv,h1.aG hE hb⟩
theorem pX.rows {α:Type} {E:World->List Value->α->Prop} {t1 t2:TypeId} {B:Nat} {w:World} {v:Value} {t:List (List α)} (hE:eg E 4) (h:pX E t1 t2 B w v t):bj (jt E) 1 w v t:=by
 obtain⟨us,g1,g2,g3,_⟩:=h
 exact CN (g1.sl dm) g2 (λi u r hi hr=>⟨u,rfl,(g3 i u r hi hr).sl hE⟩)
theorem pX.o {kk B:Nat} {w:World} {v:Value} {t:mc} (h:pX (qH B kk) 105 27 B w v t):fA kk B w v t:=h
set_option maxRecDepth 8000 in
theorem zX (v:Value) (t:mc) (kk:Nat) (w:World) (hv:bj (im kk) 1 w v t) (qN:1<=kk) (hk:kk<=1000) (hb:t.length<=100000) (ba:∀ r∈t,r.length<=100000):
  Calls Tryz.prog 77 #[.agg #[v]] w λo w'=>∃ r,o=.returned (.agg #[r])/\pX (qH w.heap.size kk) 105 27 w.heap.size w' r t/\ax w w':=by
 obtain⟨p,c,rfl⟩:=hv.sl
 obtain⟨R,hR⟩:∃ R,R=t.length:=⟨_,rfl⟩
 rw[<-hR] at hv hb
 rw[<-hR]
 refine ah (C:=bC Tryz.prog w _) (args:=[_]) Tryz.func77 rfl Tryz.ntmps77 (bR rfl) ?_
 refine ae ?_
 refine VS.zH (J:=λm L W=>∃ (e g4 g:Nat) (rv:Value) (us:List Value),e<=R/\m=R-e/\L=[(10,.slice p R c),(11,.int .i64 (R:Int)),(2,.pointer (some ⟨g4,0,none⟩)),(3,.pointer (some ⟨g,0,none⟩)),(12,.int .i64 (e:Int))]/\ax w W/\w.heap.size<=g4/\w.heap.size<=g/\g4≠g/\aI W g4 52 #[.slice none 0 0]/\aI W g 52 #[rv]/\aC VE 1 105 w.heap.size W rv us/\us.length=e/\(∀ (i:Nat) (u:Value) (r:List Rat),us[i]? =some u->t[i]? =some r->aC (qH w.heap.size kk) 4 27 w.heap.size W u r)/\tr us)
  (λW=>bC Tryz.prog W 37) (λ_=>rfl) (λ_=>rfl) (λ_=>ax.refl _) R (λw' β k' o en=>⟨[(10,.slice p R c),(11,.int .i64 (R:Int)),(2,.pointer (some ⟨β 2,0,none⟩)),(3,.pointer (some ⟨β 3,0,none⟩)),(12,.int .i64 ((0:Nat):Int))],⟨⟨_,_,rfl,rfl,rfl⟩,⟨_,_,rfl,rfl,rfl⟩,⟨_,_,rfl,rfl,rfl⟩,⟨_,_,rfl,rfl,rfl⟩,⟨_,_,rfl,rfl,rfl⟩,trivial⟩,0,β 2,β 3,.slice none 0 0,[],by omega,rfl,rfl,o,(en.own 2 _ _ rfl).new,(en.own 3 _ _ rfl).new,(λh=>absurd (en.apart 2 3 (by intro h;cases h) (by intro h;cases h) h) ck),(en.own 2 _ _ rfl).cls,(en.own 3 _ _ rfl).cls,.inl ⟨rfl,rfl⟩,rfl,λi u r hi=>(by simp at hi),λi j u v b hi=>(by simp at hi)⟩) ?_
 rintro m L W ⟨e,g4,g,rv,us,he,rfl,rfl,ng,mY,hgW,lC,kI,Ah,Ht,hul,zN,hap⟩
 have hvW:bj (im kk) 1 W (.slice p R c) t:=hv.lz (gp kk) ng
 refine ae ?_
 by_cases heR:e<R
 ·refine VS.bu rfl (decide_eq_true (Int.ofNat_lt.2 heR)) ?_
  obtain⟨ru,xm⟩:∃ r,t[e]? =some r:=⟨_,List.getElem?_eq_getElem aa⟩
  obtain⟨br,ux,csr,rfl,HF,⟨xv,rfl,oD⟩⟩:=hvW.at xm
  obtain⟨pc,cc,rfl⟩:=oD.sl
  obtain⟨K,hK⟩:∃ K,K=ru.length:=⟨_,rfl⟩
  rw[<-hK] at oD HF
  have hKb:K<=100000:=by rw[hK];exact ba ru (List.mem_of_getElem? xm)
  refine ae ?_
  refine VO.cond rfl dU ?_
  refine wV rfl ?_
  refine ae ?_
  refine VO.read rfl [.slice pc K cc] rfl (cW HF) (wV rfl ?_)
  refine ae ?_
  refine VS.loop (J:=λm L M w'=>∃ (z:Nat) (X:AV) (Mi:List (Nat×(TypeId×List AV))),z<=K/\m=K-z/\L=[(10,.val (.slice (some ⟨br,ux,none⟩) R c)),(11,.val (.int .i64 (R:Int))),(2,.val (.pointer (some ⟨g4,0,none⟩))),(3,.val (.pointer (some ⟨g,0,none⟩))),(12,.val (.int .i64 (e:Int))),(16,.val (.slice pc K cc)),(17,.val (.int .i64 (K:Int))),(6,X),(18,.val (.int .i64 (z:Int)))]/\M=Mi/\gg (qH w.heap.size kk) 4 27 27 X Mi w' (ru.take z)) K ⟨_,_,?_,?_,?_,?_,⟨0,_,[],by omega,rfl,rfl,rfl,.inl ⟨rfl,rfl,rfl⟩⟩⟩ ?_
  ·exact fx
  ·exact fx
  ·rfl
  ·exact qR
  rintro m L Mi wI ⟨z,X,Mi2,hz,rfl,rfl,rfl,hI⟩
  refine VS.now (λwX kN bN=> ?_)
  replace hI:=hI.kp (bE w.heap.size kk) (aH.gw kN)
  refine VS.mask [8,24,26] (by rcases hI with ⟨_,rfl,rfl⟩|⟨_,_,_,_,rfl,rfl,_⟩ <;> (repeat first|exact trivial|refine⟨rfl,?_⟩)) ?_
  refine ae ?_
  by_cases hzK:z<K
  ·obtain⟨y,hy⟩:∃ y,ru[z]? =some y:=⟨_,List.getElem?_eq_getElem aa⟩
   obtain⟨bx,offx,csx,rfl,jy,⟨s0,p0,n0,c0,t0,y0,m0,d0,rfl,ra⟩⟩:=oD.at hy
   refine VS.bu rfl (decide_eq_true (Int.ofNat_lt.2 hzK)) ?_
   refine ae ?_
   refine VO.cond rfl dU ?_
   refine wV rfl ?_
   refine ae ?_
   refine VO.read rfl [.bool s0,.slice p0 n0 c0,.bool t0,.slice y0 m0 d0] rfl (bH jy 0 _ ⟨[],rfl⟩) (wV rfl ?_)
   refine ae ?_
   refine VO.sH rfl (fk Tryz.func39) (λbM β dp cq ho=>(jO _ [y] kk bM (lS (ho.own 24 (.base (List.mem_singleton.2 rfl)) _ _ rfl) [] (vs:=[[.bool s0,.slice p0 n0 c0,.bool t0,.slice y0 m0 d0]]) (by rfl) rfl (ew.cons (ra.kp (Kp.of (U:=UU) cq)) ew.nil) (bR rfl) ck) (by unfold dV sZ;simp;omega)).mono ?_)
   rintro o w1 ⟨r1,rfl,q1,-,aQ⟩
   rw[oh] at q1
   obtain⟨s1,p1,n1,c1,t1,y1,m1,d1,rfl⟩:=q1.form
   refine bo aQ ?_
   intro eF _ bb1
   have gz:qH w.heap.size kk w1 [.bool s1,.slice p1 n1 c1,.bool t1,.slice y1 m1 d1] y:=.mk (q1.mono (ng.ay cq).size) (ra.sz qN)
   rcases hI with ⟨iT,rfl,rfl⟩|⟨n',c',vs,sp,rfl,rfl,uw⟩
   ·refine VO.oe (bZ _ _) (bE w.heap.size kk) (t:=105) (e:=27) (s:=26) (a:=y) (cs:=[.bool s1,.slice p1 n1 c1,.bool t1,.slice y1 m1 d1]) rfl rfl rfl rfl rfl rfl rfl rfl (bR rfl) rfl rfl rfl gz aa (λw9 cap sp k9 b9 ky=>wV rfl ?_)
    refine ae ?_
    refine VS.back (K-(z+1)) aa ⟨_,_,?_,?_,?_,?_,⟨z+1,_,_,by omega,rfl,rfl,rfl,.inr ⟨1,cap,_,sp,rfl,rfl,by rw[bI hy,iT];exact ky⟩⟩⟩
    ·(refine⟨rfl,rfl,rfl,rfl,rfl,rfl,rfl,rfl,?_,trivial⟩;rw[<-aZ (i:=z) aa];rfl)
    ·(repeat first|exact trivial|refine⟨rfl,?_⟩|refine⟨congrArg (λl=>some (_,l)) (dS (by first|exact eh.cY (by assumption)|exact ak _|(rw[<-List.map_append];exact ak _)) _ _),?_⟩)
    ·rfl
    ·(repeat first|exact trivial|refine⟨aJ.lit rfl,?_⟩|refine⟨eh.EW (by assumption),?_⟩|refine⟨aJ.append (.vals _) (.vals _),?_⟩|refine⟨aJ.vals _,?_⟩)
   ·have tZ:=uw.len
    refine VO.og (bZ _ _) (bE w.heap.size kk) (t:=105) (e:=27) (s:=26) (i:=27) (n:=n') (c:=c') (vs:=vs) (sp:=sp) (es:=ru.take z) (a:=y) (cs:=[.bool s1,.slice p1 n1 c1,.bool t1,.slice y1 m1 d1]) rfl rfl rfl rfl rfl rfl rfl rfl (bR rfl) rfl (.inr rfl) rfl (uw.kp (bE w.heap.size kk) iZ) rfl gz (by rw[List.length_take] at tZ;omega) (λw9 tw Ag ρ k9 b9 eO ky=>wV rfl ?_)
    refine ae ?_
    refine VS.back (K-(z+1)) aa ⟨_,_,?_,?_,?_,?_,⟨z+1,_,_,by omega,rfl,rfl,rfl,.inr ⟨n' +1,tw,_,Ag,rfl,rfl,by rw[bI hy];exact ky⟩⟩⟩
    ·(refine⟨rfl,rfl,rfl,rfl,rfl,rfl,rfl,rfl,?_,trivial⟩;rw[<-aZ (i:=z) aa];rfl)
    ·(repeat first|exact trivial|refine⟨rfl,?_⟩|refine⟨congrArg (λl=>some (_,l)) (dS (by first|exact eh.cY (by assumption)|exact ak _|(rw[<-List.map_append];exact ak _)) _ _),?_⟩)
    ·rfl
    ·(repeat first|exact trivial|refine⟨aJ.lit rfl,?_⟩|refine⟨eh.EW (by assumption),?_⟩|refine⟨aJ.append (.vals _) (.vals _),?_⟩|refine⟨aJ.vals _,?_⟩)
  refine VS.bt rfl (decide_eq_false (λe=>hzK (Int.ofNat_lt.1 e))) ?_
  obtain rfl:K=z:=by omega
  rw[List.take_of_length_le aa] at hI
  subst hul
  refine VS.eQ vE (λt=>Nat.beq t 23) table (λ_ _ _=>trivial) (λea qq k1 xg BK=> ?_)
  have bB:ax W ea:=xg
  have eu:=hI.told (bE w.heap.size kk) BK (by intro q hq;rcases hI with ⟨_,rfl,rfl⟩|⟨_,_,_,_,rfl,rfl,_⟩ <;> first|(cases hq;done)|(cases List.mem_singleton.1 hq;rfl)) k1.gw W.heap.size (λh=>h)
  have ow:=Ah.aG bB
  have CO:=ng.size
  have zO:=bB.size
  rcases Ht with ⟨rfl,rfl⟩|⟨b0,cB,CP,CQ,rfl,hBg,ox,zP,zQ,Hu,Hv,Hw⟩
  ·have oy:eL vE 37 [g] [(52,[.val (.slice none 0 0)])] ea:=by
    refine⟨rfl,by simp,λj g' c' hj hc=> ?_,λc' hc=> ?_,λc' hc k hk=> ?_⟩
    ·match j,hj,hc with
     | 0,hj,hc=>cases hj;cases hc;exact ow
     | j+1,hj,_=>simp at hj
    ·cases List.mem_singleton.1 hc
     exact⟨rfl,rfl⟩
    ·cases List.mem_singleton.1 hc
     cases hk
   refine⟨[g],[(52,[.val (.slice none 0 0)])],oy,[(10,.val (.slice (some ⟨br,ux,none⟩) R c)),(11,.val (.int .i64 (R:Int))),(2,.val (.pointer (some ⟨g4,0,none⟩))),(3,.box 74 0),(12,.val (.int .i64 (([]:List Value).length:Int))),(6,.val (X.aE qq))],⟨⟨_,rfl,rfl,λi hi=>(by cases hi)⟩,⟨_,rfl,rfl,λi hi=>(by cases hi)⟩,⟨_,rfl,rfl,λi hi=>(by cases hi)⟩,⟨_,rfl,rfl,λi hi=>by rw[(by simpa [AV.ids] using hi:i=74)];exact⟨(by show 74<=74;omega),(by show 74<2*37+1;omega)⟩⟩,⟨_,rfl,rfl,λi hi=>(by cases hi)⟩,⟨_,rfl,rfl,λi hi=>(by cases hi)⟩,trivial⟩,?_⟩
   generalize X.aE qq=vv at eu ⊢
   obtain⟨oz,oA,rfl⟩:=eu.form
   refine lB ?_
   refine VO.oe (ou _ _) dm (t:=50) (e:=105) (s:=32) (a:=.slice oz ru.length oA) (cs:=[.slice oz ru.length oA]) rfl rfl rfl rfl rfl rfl rfl rfl (bR rfl) rfl rfl rfl ⟨rfl,_,_,_,rfl⟩ aa (λur cap sp k13 b13 ky=>wV rfl ?_)
   refine lB ?_
   refine VS.om rfl (R-(([]:List Value).length+1)) aa (λw' bn k' o' xh=> ?_)
   have uf:aH vE ea w':=(show aH vE ea ur from iZ).ay k'
   have zR:ax w w':=iG.aG (ng.ay bB) o'.1 (λx hx=>by rw[List.mem_singleton.1 hx];omega)
   have hst:gg VE 1 105 33 (.row 33 0 1 cap) [(33,(105,_))] ur ([.slice oz ru.length oA]):=.inr ⟨_,cap,_,sp,rfl,rfl,ky⟩
   have lZ:=hst.told dm xh (λx hx=>by cases List.mem_singleton.1 hx;rfl) k'.gw w.heap.size (λh=>(dR (show gD 37 [g] ea 33 (bn 33) from h)).elim (λq=>Nat.le_trans CO (Nat.le_trans zO q)) (λq=>by rw[List.mem_singleton.1 q];omega))
   have tK:=xh.own 74 _ _ rfl
   have jS:bn 74=g:=(th tK 0 g rfl rfl).1
   refine⟨[(10,.slice (some ⟨br,ux,none⟩) R c),(11,.int .i64 (R:Int)),(2,.pointer (some ⟨g4,0,none⟩)),(3,.pointer (some ⟨bn 74,0,none⟩)),(12,.int .i64 ((([]:List Value).length+1:Nat):Int))],⟨⟨_,_,rfl,rfl,rfl⟩,⟨_,_,rfl,rfl,rfl⟩,⟨_,_,rfl,rfl,rfl⟩,⟨_,_,rfl,rfl,rfl⟩,⟨_,_,rfl,congrArg (λz=>Value.int .i64 z) (aZ (i:=([]:List Value).length) aa),rfl⟩,trivial⟩,([]:List Value).length+1,g4,bn 74,.slice (some ⟨bn 33,0,none⟩) 1 cap,[Value.slice oz ru.length oA],by omega,rfl,rfl,zR,mY,by rw[jS];exact hgW,by rw[jS];exact lC,(kI.aG bB).but o'.1 (by simp[lC]),tK.cls,lZ,by simp,?_,?_⟩
   ·exact rB (vs:=([]:List Value)) (l:=t) (P:=λu r=>aC (qH w.heap.size kk) 4 27 w.heap.size w' u r) (λi u r hi hr=>((zN i u r hi hr).aG (bE w.heap.size kk) bB).kp (bE w.heap.size kk) uf rfl) xm ((eu.kp (bE w.heap.size kk) uf rfl).mono CO)
   ·exact fL (us:=([]:List Value)) (λi j u v b hi=>(by simp at hi)) (λi v b hi hb=>by
     obtain⟨r,hr⟩:∃ r,t[i]? =some r:=⟨_,List.getElem?_eq_getElem (by have:=(List.getElem?_eq_some_iff.1 hi).1;simp at this)⟩
     exact ((zN i v r hi hr).iX hb).2) (λb hb=>(eu.iX hb).1)
  ·have zS:=ox.aG bB
   have hgb:g≠b0:=λh=>by rw[h] at ow;exact absurd (ek ow zS) ck
   have Hx:g4≠b0:=λh=>by rw[h] at kI;exact absurd (ek kI ox) ck
   have oy:eL vE 37 [g,b0] [(52,[.row 75 0 us.length cB]),(105,CP.flatten.map .val++CQ.map .val)] ea:=by
    refine⟨rfl,by simp[hgb],λj g' c' hj hc=> ?_,λc' hc=> ?_,λc' hc k hk=> ?_⟩
    ·match j,hj,hc with
     | 0,hj,hc=>cases hj;cases hc;exact ow
     | 1,hj,hc=>cases hj;cases hc;rw[<-List.map_append,aU];exact zS
     | j+2,hj,_=>simp at hj
    ·rcases List.mem_cons.1 hc with rfl|hc
     ·exact⟨rfl,rfl⟩
     ·cases List.mem_singleton.1 hc
      exact⟨rfl,by rw[<-List.map_append];exact cV (by rw[List.all_append,(zP.ok dm).1,zQ];rfl)⟩
    ·rcases List.mem_cons.1 hc with rfl|hc
     ·have:k=75:=by simpa [aA,AV.cY] using hk
      subst this;exact⟨by omega,by show 75<2*37+2;omega⟩
     ·cases List.mem_singleton.1 hc
      rw[<-List.map_append,ak] at hk;cases hk
   have hNB:eh VE 1 ea us.length cB CP (CQ.map .val) us:=⟨rfl,zP.kp dm (Kp.of (U:=UU) bB),cV zQ,ak _,Hu,Hv,by rw[<-List.map_append,List.length_map];exact Hw⟩
   refine⟨[g,b0],[(52,[.row 75 0 us.length cB]),(105,CP.flatten.map .val++CQ.map .val)],oy,[(10,.val (.slice (some ⟨br,ux,none⟩) R c)),(11,.val (.int .i64 (R:Int))),(2,.val (.pointer (some ⟨g4,0,none⟩))),(3,.box 74 0),(12,.val (.int .i64 (us.length:Int))),(6,.val (X.aE qq))],⟨⟨_,rfl,rfl,λi hi=>(by cases hi)⟩,⟨_,rfl,rfl,λi hi=>(by cases hi)⟩,⟨_,rfl,rfl,λi hi=>(by cases hi)⟩,⟨_,rfl,rfl,λi hi=>by rw[(by simpa [AV.ids] using hi:i=74)];exact⟨(by show 74<=74;omega),(by show 74<2*37+2;omega)⟩⟩,⟨_,rfl,rfl,λi hi=>(by cases hi)⟩,⟨_,rfl,rfl,λi hi=>(by cases hi)⟩,trivial⟩,?_⟩
   generalize X.aE qq=vv at eu ⊢
   obtain⟨oz,oA,rfl⟩:=eu.form
   refine lB ?_
   refine VO.og (ou _ _) dm (t:=50) (e:=105) (s:=32) (i:=75) (n:=us.length) (c:=cB) (vs:=CP) (sp:=CQ.map .val) (es:=us) (a:=.slice oz ru.length oA) (cs:=[.slice oz ru.length oA]) rfl rfl rfl rfl rfl rfl rfl rfl (bR rfl) rfl (.inl rfl) rfl (hNB.kp dm (aH.gw (show aH vE ea _ from iZ))) rfl ⟨rfl,_,_,_,rfl⟩ aa (λur cap sp ρ k13 b13 eO ky=>wV rfl ?_)
   refine lB ?_
   refine VS.om rfl (R-(us.length+1)) aa (λw' bn k' o' xh=> ?_)
   have uf:aH vE ea w':=(show aH vE ea ur from iZ).ay k'
   have zR:ax w w':=iG.aG (ng.ay bB) o'.1 (λx hx=>by
    rcases List.mem_cons.1 hx with rfl|hx
    ·omega
    ·rw[List.mem_singleton.1 hx];omega)
   have hst:gg VE 1 105 33 (.row 33 0 (us.length+1) cap) [(33,(105,_))] ur (us++[.slice oz ru.length oA]):=.inr ⟨_,cap,_,sp,rfl,rfl,ky⟩
   have lZ:=hst.told dm xh (λx hx=>by cases List.mem_singleton.1 hx;rfl) k'.gw w.heap.size (λh=>(dR (show gD 37 [g,b0] ea 33 (bn 33) from h)).elim (λq=>Nat.le_trans CO (Nat.le_trans zO q)) (λq=>by
    rcases List.mem_cons.1 q with h|h
    ·rw[h];omega
    ·rw[List.mem_singleton.1 h];omega))
   have tK:=xh.own 74 _ _ rfl
   have jS:bn 74=g:=(th tK 0 g rfl rfl).1
   refine⟨[(10,.slice (some ⟨br,ux,none⟩) R c),(11,.int .i64 (R:Int)),(2,.pointer (some ⟨g4,0,none⟩)),(3,.pointer (some ⟨bn 74,0,none⟩)),(12,.int .i64 ((us.length+1:Nat):Int))],⟨⟨_,_,rfl,rfl,rfl⟩,⟨_,_,rfl,rfl,rfl⟩,⟨_,_,rfl,rfl,rfl⟩,⟨_,_,rfl,rfl,rfl⟩,⟨_,_,rfl,congrArg (λz=>Value.int .i64 z) (aZ (i:=us.length) aa),rfl⟩,trivial⟩,us.length+1,g4,bn 74,.slice (some ⟨bn 33,0,none⟩) (us.length+1) cap,us++[Value.slice oz ru.length oA],by omega,rfl,rfl,zR,mY,by rw[jS];exact hgW,by rw[jS];exact lC,(kI.aG bB).but o'.1 (by simp[lC,Hx]),tK.cls,lZ,by simp,?_,?_⟩
   ·exact rB (vs:=us) (l:=t) (P:=λu r=>aC (qH w.heap.size kk) 4 27 w.heap.size w' u r) (λi u r hi hr=>((zN i u r hi hr).aG (bE w.heap.size kk) bB).kp (bE w.heap.size kk) uf rfl) xm ((eu.kp (bE w.heap.size kk) uf rfl).mono CO)
   ·exact fL (us:=us) hap (λi v b hi hb=>by
     obtain⟨r,hr⟩:∃ r,t[i]? =some r:=⟨_,List.getElem?_eq_getElem (by have:=(List.getElem?_eq_some_iff.1 hi).1;omega)⟩
     exact ((zN i v r hi hr).iX hb).2) (λb hb=>(eu.iX hb).1)
 refine VS.bt rfl (decide_eq_false (λh=>heR (Int.ofNat_lt.1 h))) ?_
 obtain rfl:R=e:=by omega
 (repeat (first|refine wN ?_|refine wP rfl ?_|refine wO rfl rfl ?_))
 obtain⟨pv,cv,rfl⟩:=Ht.form
 refine VS.eQ tN (λt=>Nat.beq t 23) table (λ_ _ _=>trivial) (λea qq k1 xg BK=> ?_)
 have bB:ax W ea:=xg
 have oy:eL tN 37 [g4] [(52,[.val (.slice none 0 0)])] ea:=by
  refine⟨rfl,by simp,λj g' c' hj hc=> ?_,λc' hc=> ?_,λc' hc k hk=> ?_⟩
  ·match j,hj,hc with
   | 0,hj,hc=>cases hj;cases hc;exact kI.aG bB
   | j+1,hj,_=>simp at hj
  ·cases List.mem_singleton.1 hc
   exact⟨rfl,rfl⟩
  ·cases List.mem_singleton.1 hc
   cases hk
 refine⟨[g4],[(52,[.val (.slice none 0 0)])],oy,[(2,.box 74 0),(3,.val (.pointer (some ⟨g,0,none⟩)))],⟨⟨_,rfl,rfl,λi hi=>by rw[(by simpa [AV.ids] using hi:i=74)];exact⟨(by show 74<=74;omega),(by show 74<2*37+1;omega)⟩⟩,⟨_,rfl,rfl,λi hi=>(by cases hi)⟩,trivial⟩,?_⟩
 refine bV ?_
 refine VO.gn rfl [.slice pv us.length cv] rfl (at_one (pQ (λh=>lC h.symm) ((Ah.aG bB).cell (j:=0) rfl))) (wV rfl ?_)
 refine bV ?_
 refine VS.pJ (gJ _ _) rfl (λwz β kz bz en=> ?_)
 have zR:ax w wz:=iG.aG (ng.ay bB) bz.1 (λx hx=>by rw[List.mem_singleton.1 hx];exact mY)
 have hT:pX (qH w.heap.size kk) 105 27 w.heap.size W (.slice pv us.length cv) t:=⟨us,Ht,by omega,zN,hap⟩
 exact⟨_,rfl,hT.kp (bE w.heap.size kk) (T:=λt=> !Nat.beq t 52) ((aH.of bB).ay (iG.kp bz.1 (λx hx=>⟨52,[.slice none 0 0],by rw[List.mem_singleton.1 hx];exact kI.aG bB,rfl,rfl⟩))) rfl rfl,zR⟩
def tD (t:mc) (e c:Int) (x:Rat):mc:=if ot t e c=true then uv t e.toNat c.toNat x else t
def uy (t:mc) (e c:Int):Rat:=if ot t e c=true then (t.getD e.toNat []).getD c.toNat 0 else 0
theorem tget_at {t:mc} {E K:Nat} {xs:List Rat} {y:Rat} (hx:t[E]? =some xs) (hy:xs[K]? =some y):uy t (E:Int) (K:Int)=y:=by
 have h1:=(List.getElem?_eq_some_iff.1 hx).1
 have h2:=(List.getElem?_eq_some_iff.1 hy).1
 have hh:ot t (E:Int) (K:Int)=true:=by
  unfold ot
  rw[Int.toNat_natCast,List.getD_eq_getElem?_getD,hx]
  exact decide_eq_true ⟨by omega,by omega,by omega,by simpa using h2⟩
 unfold uy
 rw[if_pos hh,Int.toNat_natCast,Int.toNat_natCast]
 simp[List.getD_eq_getElem?_getD,hx,hy]
set_option maxRecDepth 4000 in
theorem oG (v:Value) (t:mc) (e c:Int) (kk:Nat) (w:World) (hv:bj (im kk) 1 w v t) (hk:kk<=1000):
  Calls Tryz.prog 30 #[.agg #[v],.int .i64 e,.int .i64 c] w λo w'=>∃ r,o=.returned r/\aM w' w.heap.size r (uy t e c)/\ax w w':=by
 cases hh:ot t e c with
 | true=>
   obtain⟨E,K,xs,y,rfl,rfl,hx,hy⟩:=pW hh
   rw[tget_at hx hy]
   exact at_any v t xs y E K kk w hv hx hy hk
 | false=>
   have hz:uy t e c=0:=by unfold uy;rw[hh];rfl
   rw[hz]
   obtain⟨p,cp,rfl⟩:=hv.sl
   refine ah (C:=bC Tryz.prog w _) (args:=[_,_,_]) Tryz.func30 rfl Tryz.ntmps30 (bR rfl) ?_
   refine ae ?_
   refine VO.call rfl rfl (fk Tryz.func63) (λbM dp cq=>(tp _ t e c kk bM (hv.lz (gp kk) cq)).mono ?_)
   rintro o w1 ⟨rfl,aQ⟩
   rw[hh]
   refine bo aQ ?_
   intro eF _ bb1
   refine VO.cR rfl rfl (fk Tryz.func37) (λcE ed da=>jN 0 cE aa aa) (λcE ed da w2 s2 p2 n2 c2 t2 y2 m2 d2 q2 ba fG _ bb2=>wV rfl ?_)
   refine ae ?_
   refine bg ?_;intro wz kz bz
   exact⟨_,rfl,(q2.kp kz).mono da.size,bz⟩
theorem EC {t:mc} {e c:Int} {x:Rat} (h:ot t e c=false):tD t e c x=t:=by unfold tD;rw[h];rfl
abbrev KQA:KC:=⟨UU,λ_=>True,λt=>TQ t⟩
abbrev HI (P:Program) (w:World) (N:Nat) (ad:List Nat) (hd:ad.Nodup) (ha:gA KQA ad w):Cx:=wE P w N KQA (λt=>Nat.beq t 23) table (λ_ _=>trivial) ad hd ha
theorem CV (w:World) (N:Nat) {ad:List Nat} {hd:ad.Nodup} {ha:gA KQA ad w}:(HI Tryz.prog w N ad hd ha).Ok:=eK
section
variable {F F':Fr} {H H':Hp} {w w1:World} {N:Nat} {l':List Oper} {Q:Exit->Act->World->Prop} {k:List It} {id:Nat} {ops:Array Oper}
theorem cxQA_r {ad:List Nat} {hd:ad.Nodup} {ha:gA KQA ad w1} (e:iu (HI Tryz.prog w1 N ad hd ha) ops 80 ops.toList F H=(l',F',H')) (h:aq (HI Tryz.prog w1 N ad hd ha) none ops l' (VS (HI Tryz.prog w1 N ad hd ha) Q k) F' H' w):VS (HI Tryz.prog w1 N ad hd ha) Q (.code (.region id ops false)::k) F H w:=VS.region (CV _ _) (VO.run 80 e h)
end
theorem HQ {P Q:Prop} (h:Q) (i:Q->P:=by intro h;(repeat first|refine wN ?_|refine wP rfl ?_|refine cxQA_r rfl ?_|refine cxQA_d rfl ?_|refine wO rfl rfl ?_);exact h):P:=i h
theorem HT {P Q X:Prop} (hb:X) (h:Q) (i:X->Q->P:=by intro hb h;refine⟨_,rfl,hb,λa b c=>wV rfl ?_⟩;refine HQ ?_;revert a b c;exact h):P:=i hb h
set_option maxRecDepth 4000 in
theorem ED (v u:Value) (t:mc) (e c:Int) (x:Rat) (kk k:Nat) (w:World) (hv:bj (im kk) 1 w v t) (hu:bS w u x k) (qN:1<=kk) (hk2:1<=k) (hk:kk<=1000) (hk3:k<=1000) (hb:t.length<=100000) (ba:∀ r∈t,r.length<=100000):
  Calls Tryz.prog 28 #[.agg #[v],.int .i64 e,.int .i64 c,u] w λo w'=>∃ r,o=.returned (.agg #[r])/\fA (kk+k+1) w.heap.size w' r (tD t e c x)/\ax w w':=by
 obtain⟨p,cp,rfl⟩:=hv.sl
 obtain⟨s0,p0,n0,c0,t0,y0,m0,d0,rfl⟩:=hu.form
 refine ah (C:=bC Tryz.prog w _) (args:=[_,_,_,_]) Tryz.func28 rfl Tryz.ntmps28 (bR rfl) ?_
 (repeat (first|refine wN ?_|refine wP rfl ?_|refine wO rfl rfl ?_))
 refine cx_r rfl ?_
 (repeat (first|refine wN ?_|refine wP rfl ?_|refine wO rfl rfl ?_))
 refine VS.eQ KQA (λt=>Nat.beq t 23) table (λ_ _ _=>trivial) (λw0' HW k0 b0' Ia=> ?_)
 have hb0':ax w w0':=b0'
 have h4:=(Ia.own 4 _ _ rfl).cls
 have h7:=(Ia.own 7 _ _ rfl).cls
 have h8:=(Ia.own 8 _ _ rfl).cls
 have hn4:=(Ia.own 4 _ _ rfl).new
 have hn8:=(Ia.own 8 _ _ rfl).new
 have h48:HW 4≠HW 8:=λh=>absurd (Ia.apart 4 8 (by intro h;cases h) (by intro h;cases h) h) ck
 have h47:HW 4≠HW 7:=λh=>absurd (Ia.apart 4 7 (by intro h;cases h) (by intro h;cases h) h) ck
 have h78:HW 7≠HW 8:=λh=>absurd (Ia.apart 7 8 (by intro h;cases h) (by intro h;cases h) h) ck
 obtain⟨g4,e4⟩:∃ g,g=HW 4:=⟨_,rfl⟩
 obtain⟨g7,e7⟩:∃ g,g=HW 7:=⟨_,rfl⟩
 obtain⟨g8,e8⟩:∃ g,g=HW 8:=⟨_,rfl⟩
 rw[<-e4] at h4 hn4 h48 h47
 rw[<-e7] at h7 h47 h78
 rw[<-e8] at h8 hn8 h48 h78
 have oy:eL KQA 23 [g4,g8] [(52,[.val (.slice p t.length cp)]),(52,[.val (.slice none 0 0)])] w0':=by
  refine⟨rfl,by simp[h48],λj g' c' hj hc=> ?_,λc' hc=> ?_,λc' hc k hk=> ?_⟩
  ·match j,hj,hc with
   | 0,hj,hc=>cases hj;cases hc;exact h4
   | 1,hj,hc=>cases hj;cases hc;exact h8
   | j+2,hj,_=>simp at hj
  ·rcases List.mem_cons.1 hc with rfl|hc
   ·exact⟨rfl,rfl⟩
   ·cases List.mem_singleton.1 hc
    exact⟨rfl,rfl⟩
  ·rcases List.mem_cons.1 hc with rfl|hc
   ·cases hk
   ·cases List.mem_singleton.1 hc
    cases hk
 refine⟨[g4,g8],[(52,[.val (.slice p t.length cp)]),(52,[.val (.slice none 0 0)])],oy,[(1,.val (.int .i64 e)),(2,.val (.int .i64 c)),(4,.box 46 0),(7,.val (.pointer (some ⟨g7,0,none⟩))),(8,.box 47 0)],⟨⟨_,rfl,rfl,λi hi=>(by cases hi)⟩,⟨_,rfl,rfl,λi hi=>(by cases hi)⟩,⟨_,rfl,congrArg (λb=>Value.pointer (some ⟨b,0,none⟩)) e4,λi hi=>by rw[(by simpa [AV.ids] using hi:i=46)];exact⟨(by show 46<=46;omega),(by show 46<2*23+2;omega)⟩⟩,⟨_,rfl,congrArg (λb=>Value.pointer (some ⟨b,0,none⟩)) e7,λi hi=>(by cases hi)⟩,⟨_,rfl,congrArg (λb=>Value.pointer (some ⟨b,0,none⟩)) e8,λi hi=>by rw[(by simpa [AV.ids] using hi:i=47)];exact⟨(by show 46<=47;omega),(by show 47<2*23+2;omega)⟩⟩,trivial⟩,?_⟩
 have hm:∀ q∈[g4,g8],w.heap.size<=q:=λq hq=>by
  rcases List.mem_cons.1 hq with rfl|hq
  ·exact hn4
  ·rw[List.mem_singleton.1 hq];exact hn8
 have tE:∀ (w1:World),iG [g4,g8] w0' w1->ax w w1:=λw1 h=>iG.aG hb0' h hm
 refine HQ ?_
 refine VO.call rfl rfl (fk Tryz.func77) (λbM dp cq=>(zX _ t kk bM (hv.lz (gp kk) (tE _ cq.1)) qN hk hb ba).mono ?_)
 rintro o w1 ⟨r1,rfl,q1,aQ⟩
 obtain⟨p1,c1,rfl⟩:=q1.form
 refine HT aQ ?_
 intro eF _ bb1
 refine VO.call rfl rfl (fk Tryz.func63) (λcE ed da=>(tp _ t e c kk cE ((q1.o.kp (show xu TQ w1 cE from iZ) rfl rfl).tab)).mono ?_)
 rintro o w2 ⟨rfl,ba⟩
 cases hh:ot t e c with
 | false=>
   refine HT ba ?_
   intro fG _ bb2
   refine VS.ret (CV _ _) rfl rfl (λwz kz bz=> ?_)
   rw[EC hh]
   exact⟨_,rfl,((q1.o.kp (show xu TQ w1 wz from iZ) rfl rfl).up aa).mono (tE _ cq.1).size,tE _ bz.1⟩
 | true=>
   obtain⟨E,K,xs,y,rfl,rfl,hx,hy⟩:=pW hh
   refine⟨_,rfl,ba,λfG _ bb2=>wV rfl ?_⟩
   (repeat (first|refine wN ?_|refine wP rfl ?_|refine wO rfl rfl ?_))
   refine VS.xa (λw=>xj Tryz.prog w 23) (λ_=>rfl) (λ_=>rfl) (λ_=>ax.refl _) (λw9 β k9 b9 en=> ?_)
   have jf:ax w w9:=tE _ b9.1
   have hT9:=((q1.o.kp (show xu TQ w1 w9 from iZ) rfl rfl).up (show kk<=kk+k+1 by omega)).mono (tE _ cq.1).size
   have hu9:=hu.kp (Kp.of (U:=UU) jf)
   have o46:=th (en.own 46 _ _ rfl) 0 g4 rfl rfl
   have o47:=th (en.own 47 _ _ rfl) 1 g8 rfl rfl
   have h4:aI w9 g4 52 #[.slice p1 t.length c1]:=o46.2
   have h8:aI w9 g8 52 #[.slice none 0 0]:=o47.2
   have h7:=h7.but b9.1 (by simp[h47.symm,h78])
   have h9:=(en.own 9 _ _ rfl).cls
   refine⟨[(4,.val (.pointer (some ⟨g4,0,none⟩))),(7,.val (.pointer (some ⟨g7,0,none⟩))),(8,.val (.pointer (some ⟨g8,0,none⟩))),(9,.val (.pointer (some ⟨β 9,0,none⟩)))],⟨⟨_,_,rfl,congrArg (λb=>Value.pointer (some ⟨b,0,none⟩)) o46.1,rfl⟩,⟨_,_,rfl,rfl,rfl⟩,⟨_,_,rfl,congrArg (λb=>Value.pointer (some ⟨b,0,none⟩)) o47.1,rfl⟩,⟨_,_,rfl,rfl,rfl⟩,trivial⟩,?_⟩
   generalize β 9=g9 at h9 ⊢
   have h9:aI w9 g9 _ #[.int .i64 (E:Int),.int .i64 (K:Int)]:=h9
   have h7:aI w9 g7 _ #[.bool s0,.slice p0 n0 c0,.bool t0,.slice y0 m0 d0]:=h7
   have hy2:kt y kk:=by
    obtain⟨b,off,cs,_,_,⟨xv,rfl,oD⟩⟩:=(show bj (im kk) 1 w (.slice p t.length cp) t from hv).at hx
    obtain⟨p3,c3,rfl⟩:=oD.sl
    obtain⟨b2,tk,cs2,_,_,⟨_,_,_,_,_,_,_,_,rfl,hr⟩⟩:=oD.at hy
    exact hr.sz qN
   refine VS.xb (mZ _ _) 3 rfl rfl rfl (VO.run 80 rfl ?_)
   refine VO.read rfl [.slice p1 t.length c1] rfl (cL (h4.cell (j:=0) rfl)) (VO.run 80 rfl ?_)
   refine VO.read rfl [.int .i64 (E:Int),.int .i64 (K:Int)] rfl (tB (λj u hj=>h9.cell (by simpa using hj))) (VO.run 80 rfl ?_)
   refine VO.read rfl [.bool s0,.slice p0 n0 c0,.bool t0,.slice y0 m0 d0] rfl (tB (λj u hj=>h7.cell (by simpa using hj))) (VO.run 80 rfl ?_)
   refine VO.nil ⟨_,_,_,λw=>xj Tryz.prog w 23,rfl,rfl,fk Tryz.func64,λ_=>rfl,λ_=>rfl,λ_=>ax.refl _,λw6 k6 b6=> ?_⟩
   have b6':ax w9 w6:=b6
   refine (zT _ _ t xs y x E K w.heap.size (kk+k+1) k w6 (hT9.aG b6') (hu9.kp (Kp.of (U:=UU) b6')) hx hy aa aa (hy2.add (hu.sz hk2))).mono ?_
   rintro o w7 ⟨rfl,hT7,hkx,hold⟩
   refine⟨_,[(4,.pointer (some ⟨g4,0,none⟩)),(8,.pointer (some ⟨g8,0,none⟩))],rfl,⟨rfl,rfl,trivial⟩,(λp hp e=>by
    simp only[List.mem_cons,List.not_mem_nil,or_false] at hp
    rcases hp with rfl|rfl <;> cases e),?_⟩
   have kx:xu TX w9 w7:=(aH.of b6').ay hkx
   have h4':aI w7 g4 52 #[.slice p1 t.length c1]:=kx.block _ g4 _ rfl trivial h4
   have h8':aI w7 g8 52 #[.slice none 0 0]:=kx.block _ g8 _ rfl trivial h8
   (repeat (first|refine wN ?_|refine wP rfl ?_|refine wO rfl rfl ?_))
   refine VS.eQ tN (λt=>Nat.beq t 23) table (λ_ _ _=>trivial) (λea qq k1 xg BK=> ?_)
   have bB:ax w7 ea:=xg
   have oy:eL tN 23 [g8] [(52,[.val (.slice none 0 0)])] ea:=by
    refine⟨rfl,by simp,λj g' c' hj hc=> ?_,λc' hc=> ?_,λc' hc k hk=> ?_⟩
    ·match j,hj,hc with
     | 0,hj,hc=>cases hj;cases hc;exact h8'.aG bB
     | j+1,hj,_=>simp at hj
    ·cases List.mem_singleton.1 hc
     exact⟨rfl,rfl⟩
    ·cases List.mem_singleton.1 hc
     cases hk
   refine⟨[g8],[(52,[.val (.slice none 0 0)])],oy,[(8,.box 46 0),(4,.val (.pointer (some ⟨g4,0,none⟩)))],⟨⟨_,rfl,rfl,λi hi=>by rw[(by simpa [AV.ids] using hi:i=46)];exact⟨(by show 46<=46;omega),(by show 46<2*23+1;omega)⟩⟩,⟨_,rfl,rfl,λi hi=>(by cases hi)⟩,trivial⟩,?_⟩
   refine bV ?_
   refine VO.gn rfl [.slice p1 t.length c1] rfl (at_one (pQ h48 ((h4'.aG bB).cell (j:=0) rfl))) (wV rfl ?_)
   refine bV ?_
   refine VS.pJ (gJ _ _) rfl (λwz β kz bz en=> ?_)
   have hBz:ax w wz:=iG.aG ((hold w (jf.ay b6') (Nat.le_refl _)).ay bB) bz.1 (λx hx=>by rw[List.mem_singleton.1 hx];exact hn8)
   have hwt:tD t (E:Int) (K:Int) x=uv t E K x:=by unfold tD;rw[if_pos hh,Int.toNat_natCast,Int.toNat_natCast]
   rw[hwt]
   exact⟨_,rfl,hT7.kp (T:=λt=> !Nat.beq t 52) ((aH.of bB).ay (iG.kp bz.1 (λx hx=>⟨52,[.slice none 0 0],by rw[List.mem_singleton.1 hx];exact h8'.aG bB,rfl,rfl⟩))) rfl rfl,hBz⟩
set_option maxRecDepth 4000
theorem Ib {ss l:List ByteArray} (h1:l.Perm ss) (h2:l.Pairwise λx y=>x.data.toList<=y.data.toList):dW ss=l:=by
 have key:l.map (·.data.toList)=(ss.map (·.data.toList)).mergeSort λx y=>decide (x<=y):=by
  refine List.Perm.eq_of_pairwise (le:=λx y:List UInt8=>x<=y) (λa b _ _ h h'=>List.le_antisymm h h') (List.pairwise_map.2 h2) ?_ ((h1.map _).trans (List.mergeSort_perm _ _).symm)
  refine (List.pairwise_mergeSort (le:=λx y:List UInt8=>decide (x<=y)) (λa b c h h'=>decide_eq_true (List.le_trans (of_decide_eq_true h) (of_decide_eq_true h'))) (λa b=> ?_) _).imp (λh=>of_decide_eq_true h)
  rcases List.le_total a b with h|h
  ·simp[h]
  ·simp[h]
 unfold dW
 rw[<-key,List.map_map]
 exact (List.map_congr_left λx _=>by simp).trans (List.map_id l)
def wks:List ma:=[(⟨#[115,97,108,101,115]⟩,1,Rat.divInt 0 1),(⟨#[99,111,115,116]⟩,2,Rat.divInt 0 1)]
def wbk:List Ew:=[(⟨#[80]⟩,⟨#[115,97,108,101,115]⟩,Rat.divInt 5 1),(⟨#[80]⟩,⟨#[115,97,108,101,115]⟩,Rat.divInt 7 1),(⟨#[65]⟩,⟨#[99,111,115,116]⟩,Rat.divInt 3 1)]
def gK:mc:=[[0,3],[12,0]]
theorem wtot:tz [⟨#[80]⟩,⟨#[65]⟩] wks [wbk] 0=some gK:=by
 unfold tz
 rw[if_neg ck,Ib (l:=[⟨#[65]⟩,⟨#[80]⟩]) (List.Perm.swap _ _ _) (by decide+kernel)]
 show pV _ wks wbk=some gK
 decide+kernel
theorem kQw {w0 w w':World} {N:Nat} (h:aH (xj Tryz.prog w0 N).K w w':=by exact iZ):Kp UU w w':=h.gw
theorem at_ads {P:Program} {w:World} {N:Nat} {K:KC} {SU:TypeId->Bool} {ti:TypeId->Option TI} {keep:∀ b,b<w.heap.size->K.S b} {g:Nat} {ha:gA K [g] w} {b off:Nat} {cs:List Value} (hb:b≠g) (h:∀ (j:Nat) (u:Value),cs[j]? =some u->w.cell? ⟨b,off+j,none⟩=some u):∀ (j:Nat) (u:Value),cs[j]? =some u->Cx.At (wE P w N K SU ti keep [g] (ve g) ha) ((⟨b,off,none⟩:Addr).add j) u:=λj u hj=>by
 rw[Addr.add_mid]
 exact pQ hb (h j u hj)
abbrev EE (P:Program) (w:World) (N:Nat):Cx:={ P:=P,w0:=w,N:=N,K:=⟨UU,λ_=>True,λt=>TFil t⟩,SU:=λt=>Nat.beq t 23,ti:=table,keep:=λ_ _=>trivial }
theorem cxFw_ok (w:World) (N:Nat):(EE Tryz.prog w N).Ok:=eK
section
variable {F F':Fr} {H H':Hp} {w w1:World} {N:Nat} {l':List Oper} {Q:Exit->Act->World->Prop} {k:List It} {id:Nat} {ops:Array Oper}
theorem Ic (e:iu (EE Tryz.prog w1 N) ops 80 ops.toList F H=(l',F',H')) (h:aq (EE Tryz.prog w1 N) none ops l' (VS (EE Tryz.prog w1 N) Q k) F' H' w):VS (EE Tryz.prog w1 N) Q (.code (.region id ops false)::k) F H w:=VS.region (cxFw_ok _ _) (VO.run 80 e h)
end
set_option maxRecDepth 8000 in
theorem gh (w:World):Calls Tryz.prog 10 #[] w λo w'=>o=.returned (.bool true)/\ax w w':=by
 refine ah (C:=EE Tryz.prog w _) (args:=[]) Tryz.func10 rfl Tryz.ntmps10 (bR rfl) ?_
 (repeat (first|refine wN ?_|refine wP rfl ?_|refine wO rfl rfl ?_))
 refine Ic rfl ?_
 (repeat (first|refine wN ?_|refine wP rfl ?_|refine wO rfl rfl ?_))
 refine Ic rfl ?_
 refine VO.call rfl rfl (fk Tryz.func56) (λbM dp cq=>(EB bM).mono ?_)
 rintro o w1 ⟨_,rfl,⟨pB,nB,cB,sT,pT,nT,cT,tT,yT,mT,dT,sC,pC,nC,cC,tC,yC,mC,dC,sI,pI,nI,cI,tI,yI,mI,dI,sF,pF,nF,cF,tF,yF,mF,dF,pc,Nc,cc,pe,Ne,ce,py,Ny,cy,rfl,hS1,hS2,hS3,hS4,hS5,hS6,hS7,ycs,hS8,hS9,hS10⟩,aQ⟩
 refine⟨_,rfl,aQ,λeF _ bb1=>wV rfl ?_⟩
 (repeat (first|refine wN ?_|refine wP rfl ?_|refine wO rfl rfl ?_))
 refine VS.eQ tN (λt=>Nat.beq t 23) table (λ_ _ _=>trivial) (λw0' HW k0 b0' Ia=> ?_)
 have hb0':ax w w0':=b0'
 have k0':xu (λt=>TFil t) w1 w0':=by exact iZ
 obtain⟨cy,rfl⟩:∃ cy,ycs=[cy]:=List.length_eq_one_iff.1 hS9
 obtain⟨pz1,nz1,cz1,pz2,nz2,cz2,pz3,nz3,cz3,pz4,nz4,cz4,pz5,nz5,cz5,rfl⟩:=(hS10 0 cy _ rfl rfl).six
 have hyr:=(hS8.kp (CU 6) k0' rfl).sl (CU 6)
 obtain⟨bY,oY,csY,rfl,hcY,⟨rfl,-,-⟩⟩:=hyr.at (i:=0) rfl
 have h1:=(Ia.own 1 _ _ rfl).cls
 have Fs:=(Ia.own 1 _ _ rfl).new
 obtain⟨g1,e1⟩:∃ g,g=HW 1:=⟨_,rfl⟩
 rw[<-e1] at h1 Fs
 obtain⟨_,_,hNy,-,-⟩:=hyr.form
 obtain rfl:Ny=1:=by injection hNy
 have aQ:bY≠g1:=λh=>by
  obtain⟨b,c,vs,sp,hp,_,fB,_⟩:=(hS8.kp (CU 6) k0' rfl).resolve_left (λh=>by cases h.2)
  cases hp
  rw[h] at fB
  exact absurd (ek fB h1) ck
 have oy:eL tN 103 [g1] [(32,[.val (.string ez.name),.val (.string ez.parent),.val (.slice pB nB cB),.val (.bool sT),.val (.slice pT nT cT),.val (.bool tT),.val (.slice yT mT dT),.val (.bool sC),.val (.slice pC nC cC),.val (.bool tC),.val (.slice yC mC dC),.val (.int .i64 ez.bk),.val (.int .i64 ez.fw),.val (.bool sI),.val (.slice pI nI cI),.val (.bool tI),.val (.slice yI mI dI),.val (.bool sF),.val (.slice pF nF cF),.val (.bool tF),.val (.slice yF mF dF),.val (.int .i64 ez.kp),.val (.slice pc Nc cc),.val (.slice pe Ne ce),.val (.slice (some ⟨bY,oY,none⟩) 1 cy)])] w0':=by
  refine⟨rfl,by simp,λj g' c' hj hc=> ?_,λc' hc=> ?_,λc' hc k hk=> ?_⟩
  ·match j,hj,hc with
   | 0,hj,hc=>cases hj;cases hc;exact h1
   | j+1,hj,_=>simp at hj
  ·cases List.mem_singleton.1 hc
   exact⟨rfl,rfl⟩
  ·cases List.mem_singleton.1 hc
   cases hk
 refine⟨[g1],_,oy,[(0,.val (.bool false)),(1,.box 206 0)],⟨⟨_,rfl,rfl,λi hi=>(by cases hi)⟩,⟨_,rfl,congrArg (λb=>Value.pointer (some ⟨b,0,none⟩)) e1,λi hi=>by rw[(by simpa [AV.ids] using hi:i=206)];exact⟨(by show 206<=206;omega),(by show 206<2*103+1;omega)⟩⟩,trivial⟩,?_⟩
 have tE:∀ (w1:World),iG [g1] w0' w1->ax w w1:=λw1 h=>iG.aG hb0' h (λq hq=>by rw[List.mem_singleton.1 hq];exact Fs)
 refine bV ?_
 refine VO.cR rfl rfl (fk Tryz.func45) (λcE ed da=>dk 0 1 cE aa aa aa aa) (λcE ed da w2 s2 p2 n2 c2 t2 y2 m2 d2 q2 ba fG _ bb2=>wV rfl ?_)
 refine bV ?_
 refine VO.cR rfl rfl (fk Tryz.func45) (λfc fC gf=>dk 0 1 fc aa aa aa aa) (λfc fC gf w3 s3 p3 n3 c3 t3 y3 m3 d3 q3 cH kB _ bb3=>wV rfl ?_)
 refine bV ?_
 refine VO.cond rfl ck (wV rfl ?_)
 refine VO.gn rfl [.int .i64 2020,.slice pz1 nz1 cz1,.slice pz2 nz2 cz2,.slice pz3 nz3 cz3,.slice pz4 nz4 cz4,.slice pz5 nz5 cz5] rfl (at_ads (off:=oY+((0:Nat):Int).toNat*6) aQ (λj u hj=>hcY j u hj)) (wV rfl ?_)
 refine bV ?_
 refine VO.cR rfl rfl (fk Tryz.func45) (λjZ lQ ll=>dk 5 1 jZ aa aa aa aa) (λjZ lQ ll w4 s4 p4 n4 c4 t4 y4 m4 d4 q4 iq qy _ CC=>wV rfl ?_)
 refine bV ?_
 refine VO.cR rfl rfl (fk Tryz.func45) (λja kc ke=>dk 7 1 ja aa aa aa aa) (λja kc ke w5 s5 p5 n5 c5 t5 y5 m5 d5 q5 iW nW _ Af=>wV rfl ?_)
 refine bV ?_
 refine VO.cR rfl rfl (fk Tryz.func45) (λsX qQ wG=>dk 3 1 sX aa aa aa aa) (λsX qQ wG w6 s6 p6 n6 c6 t6 y6 m6 d6 q6 ud vu _ GU=>wV rfl ?_)
 (repeat (first|refine wN ?_|refine wP rfl ?_|refine wO rfl rfl ?_))
 refine Hq rfl ?_
 (repeat (first|refine wN ?_|refine wP rfl ?_|refine wO rfl rfl ?_))
 refine VS.xa (λw=>xj Tryz.prog w 103) (λ_=>rfl) (λ_=>rfl) (λ_=>ax.refl _) (λw9 β k9 b9 en=> ?_)
 have jf:ax w w9:=tE _ b9.1
 have o1:=th (en.own 206 _ _ rfl) 0 g1 rfl rfl
 have oE:=(en.own 8 _ _ rfl).cls
 have oC:=(en.own 16 _ _ rfl).cls
 have oB:=(en.own 31 _ _ rfl).cls
 have oYr:=(en.own 34 _ _ rfl).cls
 obtain⟨gE,eE⟩:∃ g,g=β 8:=⟨_,rfl⟩
 obtain⟨gC,eC⟩:∃ g,g=β 16:=⟨_,rfl⟩
 obtain⟨gB,eB⟩:∃ g,g=β 31:=⟨_,rfl⟩
 obtain⟨gY,eY⟩:∃ g,g=β 34:=⟨_,rfl⟩
 have h1:aI w9 g1 32 #[.string ez.name,.string ez.parent,.slice pB nB cB,.bool sT,.slice pT nT cT,.bool tT,.slice yT mT dT,.bool sC,.slice pC nC cC,.bool tC,.slice yC mC dC,.int .i64 ez.bk,.int .i64 ez.fw,.bool sI,.slice pI nI cI,.bool tI,.slice yI mI dI,.bool sF,.slice pF nF cF,.bool tF,.slice yF mF dF,.int .i64 ez.kp,.slice (some ⟨gC,0,none⟩) 2 2,.slice (some ⟨gE,0,none⟩) 2 2,.slice (some ⟨gY,0,none⟩) 1 1]:=by
  rw[eC,eE,eY];exact o1.2
 have hE:aI w9 gE 9 #[.string ⟨#[80]⟩,.string ⟨#[65]⟩]:=by rw[eE];exact oE
 have hC:aI w9 gC 64 #[.string ⟨#[115,97,108,101,115]⟩,.int .u8 1,.bool s2,.slice p2 n2 c2,.bool t2,.slice y2 m2 d2,.string ⟨#[99,111,115,116]⟩,.int .u8 2,.bool s3,.slice p3 n3 c3,.bool t3,.slice y3 m3 d3]:=by rw[eC];exact oC
 have hB:aI w9 gB 103 #[.string ⟨#[80]⟩,.string ⟨#[115,97,108,101,115]⟩,.bool s4,.slice p4 n4 c4,.bool t4,.slice y4 m4 d4,.string ⟨#[80]⟩,.string ⟨#[115,97,108,101,115]⟩,.bool s5,.slice p5 n5 c5,.bool t5,.slice y5 m5 d5,.string ⟨#[65]⟩,.string ⟨#[99,111,115,116]⟩,.bool s6,.slice p6 n6 c6,.bool t6,.slice y6 m6 d6]:=by rw[eB];exact oB
 have hY:aI w9 gY 99 #[.int .i64 2020,.slice pz1 nz1 cz1,.slice (some ⟨gB,0,none⟩) 3 3,.slice pz3 nz3 cz3,.slice pz4 nz4 cz4,.slice pz5 nz5 cz5]:=by rw[eY,eB];exact oYr
 have fB:bj (qG 2) 6 w9 (.slice (some ⟨gC,0,none⟩) 2 2) wks:=jq (lU 2) (vs:=[[.string ⟨#[115,97,108,101,115]⟩,.int .u8 1,.bool s2,.slice p2 n2 c2,.bool t2,.slice y2 m2 d2],[.string ⟨#[99,111,115,116]⟩,.int .u8 2,.bool s3,.slice p3 n3 c3,.bool t3,.slice y3 m3 d3]]) (spare:=[]) hC (.cons ⟨_,_,_,_,_,_,_,_,rfl,ck,q2.ki (cK aa aa aa aa)⟩ (.cons ⟨_,_,_,_,_,_,_,_,rfl,ck,q3.ki (cK aa aa aa aa)⟩ .nil)) rfl (Nat.le_refl _) ck
 have hen:bj oo 1 w9 (.slice (some ⟨gE,0,none⟩) 2 2) [⟨#[80]⟩,⟨#[65]⟩]:=jq jR (vs:=[[.string ⟨#[80]⟩],[.string ⟨#[65]⟩]]) (spare:=[]) hE (.cons rfl (.cons rfl .nil)) rfl (Nat.le_refl _) ck
 have hbk:bj (BkE 2) 6 w9 (.slice (some ⟨gB,0,none⟩) 3 3) wbk:=jq (Hy 2) (vs:=[[.string ⟨#[80]⟩,.string ⟨#[115,97,108,101,115]⟩,.bool s4,.slice p4 n4 c4,.bool t4,.slice y4 m4 d4],[.string ⟨#[80]⟩,.string ⟨#[115,97,108,101,115]⟩,.bool s5,.slice p5 n5 c5,.bool t5,.slice y5 m5 d5],[.string ⟨#[65]⟩,.string ⟨#[99,111,115,116]⟩,.bool s6,.slice p6 n6 c6,.bool t6,.slice y6 m6 d6]]) (spare:=[]) hB (.cons ⟨_,_,_,_,_,_,_,_,rfl,q4.ki (cK aa aa aa aa)⟩ (.cons ⟨_,_,_,_,_,_,_,_,rfl,q5.ki (cK aa aa aa aa)⟩ (.cons ⟨_,_,_,_,_,_,_,_,rfl,q6.ki (cK aa aa aa aa)⟩ .nil))) rfl (Nat.le_refl _) ck
 have hyr2:bj (YbE 2) 6 w9 (.slice (some ⟨gY,0,none⟩) 1 1) [wbk]:=slin_ce (jq (CU 6) (vs:=[[.int .i64 2020,.slice pz1 nz1 cz1,.slice (some ⟨gB,0,none⟩) 3 3,.slice pz3 nz3 cz3,.slice pz4 nz4 cz4,.slice pz5 nz5 cz5]]) (spare:=[]) (es:=[[.int .i64 2020,.slice pz1 nz1 cz1,.slice (some ⟨gB,0,none⟩) 3 3,.slice pz3 nz3 cz3,.slice pz4 nz4 cz4,.slice pz5 nz5 cz5]]) hY (.cons ⟨rfl,rfl,rfl⟩ .nil) rfl (Nat.le_refl _) ck) rfl (λi u a hi ha=>by
  match i,hi,ha with
  | 0,hi,ha=>cases hi;cases ha;exact⟨_,_,_,_,_,_,rfl,hbk⟩
  | i+1,hi,_=>simp at hi)
 refine⟨[(0,.val (.bool false)),(1,.val (.pointer (some ⟨g1,0,none⟩))),(2,.val (.func (.func 45) #[] #[]))],⟨⟨_,_,rfl,rfl,rfl⟩,⟨_,_,rfl,congrArg (λb=>Value.pointer (some ⟨b,0,none⟩)) o1.1,rfl⟩,⟨_,_,rfl,rfl,rfl⟩,trivial⟩,?_⟩
 clear o1 oE oC oB oYr eE eC eB eY hE hC hB hY hbk en k9 b9 q2 q3 q4 q5 q6 hS1 hS2 hS3 hS4 hS5 hS6 hS7 hS8 hS9 hS10
 refine bL ?_
 refine VO.read rfl [.string ez.name,.string ez.parent,.slice pB nB cB,.bool sT,.slice pT nT cT,.bool tT,.slice yT mT dT,.bool sC,.slice pC nC cC,.bool tC,.slice yC mC dC,.int .i64 ez.bk,.int .i64 ez.fw,.bool sI,.slice pI nI cI,.bool tI,.slice yI mI dI,.bool sF,.slice pF nF cF,.bool tF,.slice yF mF dF,.int .i64 ez.kp,.slice (some ⟨gC,0,none⟩) 2 2,.slice (some ⟨gE,0,none⟩) 2 2,.slice (some ⟨gY,0,none⟩) 1 1] rfl (tB (λj u hj=>h1.cell (by simpa using hj))) (wV rfl ?_)
 refine bL ?_
 refine VO.call rfl rfl (fk Tryz.func13) (λBm CI vw=>(zV _ _ _ _ _ _ _ _ _ _ _ _ _ _ _ _ _ _ _ _ _ _ _ _ _ _ _ _ _ _ _ _ _ _ _ _ _ _ _ _ _ _ _ _ _ _ _ _ _ 0 [⟨#[80]⟩,⟨#[65]⟩] wks [wbk] 2 4 Bm (fB.aG (lU 2) vw) (hen.aG jR vw) (hyr2.lz (yb_b 2) vw) ck ck ck ck ck ck).mono ?_)
 rintro o w7 ⟨r7,rfl,q7,ES⟩
 rw[wtot] at q7 ⊢
 rw[show totE (some gK)=0 from rfl]
 have q7:fA 13 Bm.heap.size w7 r7 gK:=q7
 obtain⟨pT,cT,rfl⟩:=q7.form
 refine⟨_,rfl,ES,λCJ _ bb7=>wV rfl ?_⟩
 (repeat (first|refine wN ?_|refine wP rfl ?_|refine wO rfl rfl ?_))
 refine VS.xa (λw=>xj Tryz.prog w 103) (λ_=>rfl) (λ_=>rfl) (λ_=>ax.refl _) (λw10 qq k10 b10 BK=> ?_)
 have hbw1:ax w w10:=jf.ay b10
 have hT:=q7.kp (show xu TQ w7 w10 from iZ) rfl rfl
 have h4:=(BK.own 4 _ _ rfl).cls
 refine⟨[(0,.val (.bool false)),(2,.val (.func (.func 45) #[] #[])),(4,.val (.pointer (some ⟨qq 4,0,none⟩))),(5,.val (.int .i64 0))],⟨⟨_,_,rfl,rfl,rfl⟩,⟨_,_,rfl,rfl,rfl⟩,⟨_,_,rfl,rfl,rfl⟩,⟨_,_,rfl,rfl,rfl⟩,trivial⟩,?_⟩
 generalize qq 4=g4 at h4 ⊢
 obtain⟨bT,oT,cs0,rfl,hc0,⟨x0,rfl,kh⟩⟩:=hT.tab.at (i:=0) (a:=[0,3]) rfl
 obtain⟨b',o',cs1,hp,mw,⟨x1,rfl,hx1⟩⟩:=hT.tab.at (i:=1) (a:=[12,0]) rfl
 cases hp
 obtain⟨px0,cx0,rfl⟩:=kh.sl
 obtain⟨px1,cx1,rfl⟩:=hx1.sl
 have h4:aI w10 g4 52 #[.slice (some ⟨bT,oT,none⟩) gK.length cT]:=h4
 clear BK k10 b10 CJ bb7 q7 h1 fB hen hyr2
 refine bL ?_
 refine VO.read rfl [.slice (some ⟨bT,oT,none⟩) gK.length cT] rfl (cL (h4.cell (j:=0) rfl)) (wV rfl ?_)
 refine bL ?_
 refine VO.read rfl [.slice (some ⟨bT,oT,none⟩) gK.length cT] rfl (cL (h4.cell (j:=0) rfl)) (wV rfl ?_)
 refine bL ?_
 refine VO.cond rfl ck (wV rfl ?_)
 refine VO.read rfl [.slice px0 [0,3].length cx0] rfl (cW hc0) (wV rfl ?_)
 refine bL ?_
 refine VO.read rfl [.slice (some ⟨bT,oT,none⟩) gK.length cT] rfl (cL (h4.cell (j:=0) rfl)) (wV rfl ?_)
 refine bL ?_
 refine VO.cond rfl ck (wV rfl ?_)
 refine VO.read rfl [.slice px1 [12,0].length cx1] rfl (cW mw) (wV rfl ?_)
 refine bL ?_
 refine VO.read rfl [.slice (some ⟨bT,oT,none⟩) gK.length cT] rfl (cL (h4.cell (j:=0) rfl)) (wV rfl ?_)
 refine bL ?_
 refine VO.cR rfl rfl (fk Tryz.func45) (λwa8 ka8 ba8=>dk (-2) 1 wa8 aa aa aa aa) (λwa8 ka8 ba8 w8 s8 p8 n8 c8 t8 y8 m8 d8 q8 hb8 EU _ bb8=>wV rfl ?_)
 refine bL ?_
 refine VO.call rfl rfl (fk Tryz.func28) (λwa9 ka9 ba9=>(ED _ _ gK 1 0 (Rat.divInt (-2) 1) 13 2 wa9 ((hT.tab).lz (gp 13) ba9) (q8.ki (cK aa aa aa aa) kQw) ck ck ck ck ck ck).mono ?_)
 rintro o w9' ⟨r9,rfl,q9,hb9⟩
 obtain⟨pU,cU,rfl⟩:=q9.form
 refine CT hb9 ?_
 intro Eg _ bb9
 refine VO.read rfl [.slice (some ⟨bT,oT,none⟩) gK.length cT] rfl (cL (h4.cell (j:=0) rfl)) (wV rfl ?_)
 refine bL ?_
 refine VO.cR rfl rfl (fk Tryz.func30) (λum wH Eh=>oG _ gK 0 0 13 um ((hT.tab).lz (gp 13) Eh) ck) (λum wH Eh w11 s11 p11 n11 c11 t11 y11 m11 d11 q11 zn ku _ bb11=>wV rfl ?_)
 refine bL ?_
 replace q11:=q11.cast (show uy gK 0 0=0 by decide+kernel)
 refine VO.cB rfl rfl (fk Tryz.func57) (λuq wK GW=>tc _ 0 1 uq (q11.ki kt.zero kQw) ck 0 (by decide+kernel)) (λuq wK GW w12 zo oc _ bb12=>wV rfl ?_)
 refine bL ?_
 refine VO.read rfl [.slice (some ⟨bT,oT,none⟩) gK.length cT] rfl (cL (h4.cell (j:=0) rfl)) (wV rfl ?_)
 refine bL ?_
 refine VO.cR rfl rfl (fk Tryz.func30) (λzp GX Ei=>oG _ gK 0 1 13 zp ((hT.tab).lz (gp 13) Ei) ck) (λzp GX Ei ur s13 p13 n13 c13 t13 y13 m13 d13 q13 hb13 zt _ bb13=>wV rfl ?_)
 refine bL ?_
 replace q13:=q13.cast (show uy gK 0 1=Rat.divInt 3 1 by decide+kernel)
 refine VO.cR rfl rfl (fk Tryz.func45) (λzu wL Bn=>dk 3 1 zu aa aa aa aa) (λzu wL Bn w14 s14 p14 n14 c14 t14 y14 m14 d14 q14 hb14 Ej _ bb14=>wV rfl ?_)
 refine bL ?_
 refine VO.cB rfl rfl (fk Tryz.func43) (λzv wQ Bo=>pO _ _ (Rat.divInt 3 1) (Rat.divInt 3 1) 2 2 zv (q13.ki (cK aa aa aa aa) kQw) (q14.ki (cK aa aa aa aa) kQw) ck ck 0 (by decide+kernel)) (λzv wQ Bo w15 hb15 kb15 _ bb15=>wV rfl ?_)
 refine bL ?_
 refine VO.read rfl [.slice (some ⟨bT,oT,none⟩) gK.length cT] rfl (cL (h4.cell (j:=0) rfl)) (wV rfl ?_)
 refine bL ?_
 refine VO.cR rfl rfl (fk Tryz.func30) (λwa16 ka16 ba16=>oG _ gK 1 0 13 wa16 ((hT.tab).lz (gp 13) ba16) ck) (λwa16 ka16 ba16 w16 s16 p16 n16 c16 t16 y16 m16 d16 q16 hb16 kb16 _ bb16=>wV rfl ?_)
 refine bL ?_
 replace q16:=q16.cast (show uy gK 1 0=Rat.divInt 12 1 by decide+kernel)
 refine VO.cR rfl rfl (fk Tryz.func45) (λwa17 ka17 ba17=>dk 12 1 wa17 aa aa aa aa) (λwa17 ka17 ba17 w17 s17 p17 n17 c17 t17 y17 m17 d17 q17 hb17 kb17 _ bb17=>wV rfl ?_)
 refine bL ?_
 refine VO.cB rfl rfl (fk Tryz.func43) (λwa18 ka18 ba18=>pO _ _ (Rat.divInt 12 1) (Rat.divInt 12 1) 2 2 wa18 (q16.ki (cK aa aa aa aa) kQw) (q17.ki (cK aa aa aa aa) kQw) ck ck 0 (by decide+kernel)) (λwa18 ka18 ba18 w18 hb18 kb18 _ bb18=>wV rfl ?_)
 refine bL ?_
 refine VO.cR rfl rfl (fk Tryz.func30) (λwa19 ka19 ba19=>oG _ (tD gK 1 0 (Rat.divInt (-2) 1)) 1 0 16 wa19 ((q9.kp (show xu TQ w9' wa19 from iZ) rfl rfl).tab) ck) (λwa19 ka19 ba19 w19 s19 p19 n19 c19 t19 y19 m19 d19 q19 hb19 kb19 _ bb19=>wV rfl ?_)
 refine bL ?_
 replace q19:=q19.cast (show uy (tD gK 1 0 (Rat.divInt (-2) 1)) 1 0=Rat.divInt 10 1 by decide+kernel)
 refine VO.cR rfl rfl (fk Tryz.func45) (λwa20 ka20 ba20=>dk 10 1 wa20 aa aa aa aa) (λwa20 ka20 ba20 w20 s20 p20 n20 c20 t20 y20 m20 d20 q20 hb20 kb20 _ bb20=>wV rfl ?_)
 refine bL ?_
 refine VO.cB rfl rfl (fk Tryz.func43) (λwa21 ka21 ba21=>pO _ _ (Rat.divInt 10 1) (Rat.divInt 10 1) 2 2 wa21 (q19.ki (cK aa aa aa aa) kQw) (q20.ki (cK aa aa aa aa) kQw) ck ck 0 (by decide+kernel)) (λwa21 ka21 ba21 w21 hb21 kb21 _ bb21=>wV rfl ?_)
 refine bL ?_
 refine VO.read rfl [.slice (some ⟨bT,oT,none⟩) gK.length cT] rfl (cL (h4.cell (j:=0) rfl)) (wV rfl ?_)
 refine bL ?_
 refine VO.cR rfl rfl (fk Tryz.func30) (λwa22 ka22 ba22=>oG _ gK 2 0 13 wa22 ((hT.tab).lz (gp 13) ba22) ck) (λwa22 ka22 ba22 w22 s22 p22 n22 c22 t22 y22 m22 d22 q22 hb22 kb22 _ bb22=>wV rfl ?_)
 refine bL ?_
 replace q22:=q22.cast (show uy gK 2 0=0 by decide+kernel)
 refine VO.cB rfl rfl (fk Tryz.func57) (λwa23 ka23 ba23=>tc _ 0 1 wa23 (q22.ki kt.zero kQw) ck 0 (by decide+kernel)) (λwa23 ka23 ba23 w23 hb23 kb23 _ bb23=>wV rfl ?_)
 refine bL ?_
 refine VS.ret (mZ _ _) rfl rfl (λwz kz bz=> ?_)
 exact⟨rfl,hbw1.ay bz⟩
set_option maxRecDepth 4000
def na (x:Rw):Prop:=x.xs.length<=4/\x.ys.length<=4
def okRow (r:List Rw):Prop:=r.length<=12/\∀ x∈r,na x
def smallT (t:List (List Rw)):Prop:=t.length<=8/\∀ r∈t,okRow r
theorem dG.form {kk:Nat} {w:World} {cs:List Value} {x:Rw} (h:dG kk w cs x):∃ s p c t y d,cs=[.bool s,.slice p x.xs.length c,.bool t,.slice y x.ys.length d]/\cN w (.agg #[.bool s,.slice p x.xs.length c,.bool t,.slice y x.ys.length d]) x.s x.xs x.t x.ys:=by
 obtain⟨s,p,n,c,t,y,m,d,rfl,hr,_⟩:=h
 have rI:=hr
 obtain⟨p',c',r',d',hv,_,_⟩:=hr
 cases hv
 exact⟨_,_,_,_,_,_,rfl,rI⟩
theorem dG.to {kk j:Nat} {w:World} {cs:List Value} {x:Rw} (h:dG kk w cs x) (h1:x.xs.length<=j) (h2:x.ys.length<=j):dG j w cs x:=by
 obtain⟨s,p,n,c,t,y,m,d,hv,hr,_⟩:=h
 exact⟨_,_,_,_,_,_,_,_,hv,hr,h1,h2⟩
theorem rows_to {kk j:Nat} {w:World} {v:Value} {t:List (List Rw)} (h:bj (jt (dG kk)) 1 w v t) (hs:∀ r∈t,∀ x∈r,x.xs.length<=j/\x.ys.length<=j):bj (jt (dG j)) 1 w v t:=h.mono (λi r cs hr hb=>by
 obtain⟨u,rfl,h1⟩:=hb
 exact⟨u,rfl,h1.mono (λk x cs hx hb=>hb.to (hs r (List.mem_of_getElem? hr) x (List.mem_of_getElem? hx)).1 (hs r (List.mem_of_getElem? hr) x (List.mem_of_getElem? hx)).2)⟩)
set_option maxRecDepth 4000 in
theorem qI (cs:List Value) (x:Rw) (kk:Nat) (w:World) (hv:dG kk w cs x):
  Calls Tryz.prog 20 #[.agg cs.toArray] w λe w'=>∃ b,e=.returned (.bool b)/\(b=true->na x)/\ax w w':=by
 obtain⟨s,p,c,t,y,d,rfl,hr⟩:=hv.form
 have tS:=hr.CK.choose_spec
 obtain⟨p',c',r',d',hv',h1,h2⟩:=hr
 clear tS
 have aQ:=h1.CL.1.u32
 have ba:=h2.CL.1.u32
 refine ah (C:=bC Tryz.prog w _) (args:=[_]) Tryz.func20 rfl Tryz.ntmps20 (bR rfl) ?_
 refine ae ?_
 by_cases hx:x.xs.length<=4
 ·refine VO.fix 8 rfl (congrArg (λb=>AV.val (.bool b)) (decide_eq_true (show (x.xs.length:Int)<=4 by omega))) ?_
  refine ae ?_
  refine bg ?_;intro wz kz bz
  refine⟨_,rfl,λhb=>⟨hx,?_⟩,bz⟩
  have:=of_decide_eq_true hb
  omega
 ·refine VO.fix 8 rfl (congrArg (λb=>AV.val (.bool b)) (decide_eq_false (show ¬ (x.xs.length:Int)<=4 by omega))) ?_
  refine ae ?_
  refine bg ?_;intro wz kz bz
  exact⟨_,rfl,λhb=>(by cases hb),bz⟩
set_option maxRecDepth 4000 in
theorem zY (v:Value) (t:List (List Rw)) (kk:Nat) (w:World) (hv:bj (jt (dG kk)) 1 w v t):
  Calls Tryz.prog 19 #[.agg #[v]] w λe w'=>∃ b,e=.returned (.bool b)/\(b=true->smallT t)/\ax w w':=by
 obtain⟨p,c,rfl,eD,eZ⟩:=hv.form
 obtain⟨R,hR⟩:∃ R,R=t.length:=⟨_,rfl⟩
 rw[<-hR] at hv eD
 rw[<-hR]
 refine ah (C:=bC Tryz.prog w _) (args:=[_]) Tryz.func19 rfl Tryz.ntmps19 (bR rfl) ?_
 refine ae ?_
 by_cases h8:(R:Int)>8
 ·refine VS.bu rfl (decide_eq_true h8) ?_
  refine ae ?_
  refine bg ?_;intro wz kz bz
  exact⟨_,rfl,λh=>(by cases h),bz⟩
 refine VS.bt rfl (decide_eq_false h8) ?_
 refine ae ?_
 refine VS.loop (J:=λm L M w'=>∃ e:Nat,e<=R/\m=R-e/\L=[(1,.box 1 0),(3,.val (.int .i64 (e:Int)))]/\M=[(1,(52,[.val (.slice p R c)]))]/\(∀ (i:Nat) (r:List Rw),i<e->t[i]? =some r->okRow r)) R ⟨_,_,?_,?_,?_,?_,⟨0,by omega,rfl,rfl,rfl,λi r hi=>by omega⟩⟩ ?_
 ·exact fx
 ·exact fx
 ·rfl
 ·exact qR
 rintro m L M wJ ⟨e,he,rfl,rfl,rfl,hup⟩
 refine ae ?_
 by_cases hle:e<R
 ·obtain⟨rw0,hrw⟩:∃ x,t[e]? =some x:=⟨_,List.getElem?_eq_getElem aa⟩
  obtain⟨br,ux,csr,rfl,HF,⟨rv,rfl,oD⟩⟩:=hv.at hrw
  obtain⟨pc,cc,rfl,hKc,hcc⟩:=oD.form
  obtain⟨K,hK⟩:∃ K,K=rw0.length:=⟨_,rfl⟩
  rw[<-hK] at oD HF hKc
  refine VS.bu rfl (decide_eq_true (Int.ofNat_lt.2 hle)) ?_
  refine ae ?_
  refine VO.cond rfl dU ?_
  refine wV rfl ?_
  refine ae ?_
  refine VO.read rfl [.slice pc K cc] rfl (cW HF) (wV rfl ?_)
  refine ae ?_
  by_cases h12:(K:Int)>12
  ·refine VS.bu rfl (decide_eq_true h12) ?_
   refine ae ?_
   refine bg ?_;intro wz kz bz
   exact⟨_,rfl,λh=>(by cases h),bz⟩
  refine VS.bt rfl (decide_eq_false h12) ?_
  refine ae ?_
  refine VS.loop (J:=λm L M w'=>∃ q:Nat,q<=K/\m=K-q/\L=[(1,.box 1 0),(3,.val (.int .i64 (e:Int))),(4,.val (.int .i64 (q:Int)))]/\M=[(1,(52,[.val (.slice (some ⟨br,ux,none⟩) R c)]))]/\(∀ (i:Nat) (x:Rw),i<q->rw0[i]? =some x->na x)) K ⟨_,_,?_,?_,?_,?_,⟨0,by omega,rfl,rfl,rfl,λi r hi=>by omega⟩⟩ ?_
  ·exact fx
  ·exact fx
  ·rfl
  ·exact qR
  rintro m L M wM ⟨q,hq,rfl,rfl,rfl,hupc⟩
  refine ae ?_
  refine VO.cond rfl dU ?_
  refine wV rfl ?_
  refine ae ?_
  refine VO.read rfl [.slice pc K cc] rfl (cW HF) (wV rfl ?_)
  refine ae ?_
  by_cases hlq:q<K
  ·refine VS.bu rfl (decide_eq_true (Int.ofNat_lt.2 hlq)) ?_
   refine ae ?_
   obtain⟨x,hx⟩:∃ x,rw0[q]? =some x:=⟨_,List.getElem?_eq_getElem aa⟩
   obtain⟨bx,offx,csx,rfl,jy,gz⟩:=oD.at hx
   have Ie:=gz
   obtain⟨s,pp,n,cx,t2,y,mm,d,rfl,_⟩:=gz
   refine VO.cond rfl dU ?_
   refine wV rfl ?_
   refine ae ?_
   refine VO.read rfl [.slice (some ⟨bx,offx,none⟩) K cc] rfl (cW HF) (wV rfl ?_)
   refine ae ?_
   refine VO.cond rfl dU ?_
   refine wV rfl ?_
   refine ae ?_
   refine VO.read rfl [.bool s,.slice pp n cx,.bool t2,.slice y mm d] rfl (bH jy 0 _ ⟨[],rfl⟩) (wV rfl ?_)
   refine ae ?_
   refine VO.call rfl rfl (fk Tryz.func20) (λbM dp cq=>(qI _ x kk bM (Ie.kp (Kp.of (U:=UU) cq))).mono ?_)
   rintro e1 w2 ⟨b1,rfl,l1,aQ⟩
   cases b1 with
   | false=>
     refine bo aQ ?_
     intro eF _ bb1
     refine bg ?_;intro wz kz bz
     exact⟨_,rfl,λh=>(by cases h),bz⟩
   | true=>
     refine bo aQ ?_
     intro eF _ bb1
     refine VS.back (K-(q+1)) aa ⟨_,_,?_,?_,?_,?_,⟨q+1,by omega,rfl,rfl,rfl,λi z hi hz=> ?_⟩⟩
     ·refine⟨rfl,rfl,?_,trivial⟩
      rw[<-aZ (i:=q) aa];rfl
     ·exact fx
     ·rfl
     ·exact qR
     ·by_cases hiq:i=q
      ·subst hiq;rw[hx] at hz;cases hz;exact l1 rfl
      ·exact hupc i z aa hz
  ·refine VS.bt rfl (decide_eq_false (λe=>hlq (Int.ofNat_lt.1 e))) ?_
   obtain rfl:q=K:=by omega
   refine ae ?_
   refine VS.back (R-(e+1)) aa ⟨_,_,?_,?_,?_,?_,⟨e+1,by omega,rfl,rfl,rfl,λi z hi hz=> ?_⟩⟩
   ·refine⟨rfl,?_,trivial⟩
    rw[<-aZ (i:=e) aa];rfl
   ·exact fx
   ·rfl
   ·exact qR
   ·by_cases tL:i=e
    ·subst tL;rw[hrw] at hz;cases hz
     refine⟨by omega,λx hx=> ?_⟩
     obtain⟨j,hj⟩:=List.getElem?_of_mem hx
     exact hupc j x (by have:=(List.getElem?_eq_some_iff.1 hj).1;omega) hj
    ·exact hup i z aa hz
 ·refine VS.bt rfl (decide_eq_false (λe=>hle (Int.ofNat_lt.1 e))) ?_
  obtain rfl:e=R:=by omega
  refine ae ?_
  refine bg ?_;intro wz kz bz
  refine⟨_,rfl,λ_=>⟨by omega,λr hr=> ?_⟩,bz⟩
  obtain⟨j,hj⟩:=List.getElem?_of_mem hr
  exact hup j r (by have:=(List.getElem?_eq_some_iff.1 hj).1;omega) hj
theorem CW {P Q:Prop} (h:Q) (i:Q->P:=by intro h;(repeat first|refine wN ?_|refine wP rfl ?_|refine cxU_r rfl ?_|refine cxU_d rfl ?_|refine wO rfl rfl ?_);exact h):P:=i h
set_option maxRecDepth 8000 in
theorem EF (v:Value) (t:List (List Rw)) (kk:Nat) (w:World) (hv:bj (jt (dG kk)) 1 w v t) (hk:kk<=1000) (hb:t.length<=100000) (ba:∀ r∈t,r.length<=100000):
  Calls Tryz.prog 22 #[.agg #[v]] w λo w'=>∃ r,o=.returned (.agg #[r])/\pX (dG kk) 147 38 w.heap.size w' r t/\ax w w':=by
 obtain⟨p,c,rfl⟩:=hv.sl
 obtain⟨R,hR⟩:∃ R,R=t.length:=⟨_,rfl⟩
 rw[<-hR] at hv hb
 rw[<-hR]
 refine ah (C:=bC Tryz.prog w _) (args:=[_]) Tryz.func22 rfl Tryz.ntmps22 (bR rfl) ?_
 refine ae ?_
 refine VS.zH (J:=λm L W=>∃ (e g4 g g1:Nat) (rv:Value) (us:List Value),e<=R/\m=R-e/\L=[(1,.pointer (some ⟨g1,0,none⟩)),(2,.pointer (some ⟨g4,0,none⟩)),(3,.pointer (some ⟨g,0,none⟩)),(4,.int .i64 (e:Int))]/\ax w W/\w.heap.size<=g4/\w.heap.size<=g/\g4≠g/\aI W g4 46 #[.slice none 0 0]/\aI W g 46 #[rv]/\aC VE 1 147 w.heap.size W rv us/\us.length=e/\(∀ (i:Nat) (u:Value) (r:List Rw),us[i]? =some u->t[i]? =some r->aC (dG kk) 4 38 w.heap.size W u r)/\tr us/\w.heap.size<=g1/\g1≠g/\aI W g1 52 #[.slice p R c])
  (λW=>bC Tryz.prog W 43) (λ_=>rfl) (λ_=>rfl) (λ_=>ax.refl _) R (λw' β k' o en=>⟨[(1,.pointer (some ⟨β 1,0,none⟩)),(2,.pointer (some ⟨β 2,0,none⟩)),(3,.pointer (some ⟨β 3,0,none⟩)),(4,.int .i64 ((0:Nat):Int))],⟨⟨_,_,rfl,rfl,rfl⟩,⟨_,_,rfl,rfl,rfl⟩,⟨_,_,rfl,rfl,rfl⟩,⟨_,_,rfl,rfl,rfl⟩,trivial⟩,0,β 2,β 3,β 1,.slice none 0 0,[],by omega,rfl,rfl,o,(en.own 2 _ _ rfl).new,(en.own 3 _ _ rfl).new,(λh=>absurd (en.apart 2 3 (by intro h;cases h) (by intro h;cases h) h) ck),(en.own 2 _ _ rfl).cls,(en.own 3 _ _ rfl).cls,.inl ⟨rfl,rfl⟩,rfl,λi u r hi=>(by simp at hi),λi j u v b hi=>(by simp at hi),(en.own 1 _ _ rfl).new,(λh=>absurd (en.apart 1 3 (by intro h;cases h) (by intro h;cases h) h) ck),(en.own 1 _ _ rfl).cls⟩) ?_
 rintro m L W ⟨e,g4,g,g1,rv,us,he,rfl,rfl,ng,mY,hgW,lC,kI,Ah,Ht,hul,zN,hap,hg1W,hg1n,hg1⟩
 have hvW:bj (jt (dG kk)) 1 W (.slice p R c) t:=hv.lz (xk (dG.el kk)) ng
 refine ae ?_
 refine VO.read rfl [.slice p R c] rfl (cL (hg1.cell (j:=0) rfl)) (wV rfl ?_)
 refine ae ?_
 by_cases heR:e<R
 ·refine VS.bu rfl (decide_eq_true (Int.ofNat_lt.2 heR)) ?_
  obtain⟨ru,xm⟩:∃ r,t[e]? =some r:=⟨_,List.getElem?_eq_getElem aa⟩
  obtain⟨br,ux,csr,rfl,HF,⟨xv,rfl,oD⟩⟩:=hvW.at xm
  obtain⟨pc,cc,rfl⟩:=oD.sl
  obtain⟨K,hK⟩:∃ K,K=ru.length:=⟨_,rfl⟩
  rw[<-hK] at oD HF
  have hKb:K<=100000:=by rw[hK];exact ba ru (List.mem_of_getElem? xm)
  refine ae ?_
  refine VS.loop (J:=λm L M w'=>∃ (z:Nat) (X:AV) (Mi:List (Nat×(TypeId×List AV))),z<=K/\m=K-z/\L=[(1,.val (.pointer (some ⟨g1,0,none⟩))),(2,.val (.pointer (some ⟨g4,0,none⟩))),(3,.val (.pointer (some ⟨g,0,none⟩))),(4,.val (.int .i64 (e:Int))),(5,X),(6,.val (.int .i64 (z:Int)))]/\M=Mi/\gg (dG kk) 4 38 35 X Mi w' (ru.take z)) K ⟨_,_,?_,?_,?_,?_,⟨0,_,[],by omega,rfl,rfl,rfl,.inl ⟨rfl,rfl,rfl⟩⟩⟩ ?_
  ·exact fx
  ·exact fx
  ·rfl
  ·exact qR
  rintro m L Mi wI ⟨z,X,Mi2,hz,rfl,rfl,rfl,hI⟩
  refine VS.now (λwX kN bN=> ?_)
  replace hI:=hI.kp (dG.el kk) (aH.gw kN)
  refine VS.mask [34] (by rcases hI with ⟨_,rfl,rfl⟩|⟨_,_,_,_,rfl,rfl,_⟩ <;> (repeat first|exact trivial|refine⟨rfl,?_⟩)) ?_
  refine ae ?_
  refine VO.read rfl [.slice (some ⟨br,ux,none⟩) R c] rfl (cL (hg1.cell (j:=0) rfl)) (wV rfl ?_)
  refine ae ?_
  refine VO.cond rfl dU ?_
  refine wV rfl ?_
  refine ae ?_
  refine VO.read rfl [.slice pc K cc] rfl (cW HF) (wV rfl ?_)
  refine ae ?_
  by_cases hzK:z<K
  ·obtain⟨y,hy⟩:∃ y,ru[z]? =some y:=⟨_,List.getElem?_eq_getElem aa⟩
   obtain⟨bx,offx,csx,rfl,jy,Ie⟩:=oD.at hy
   have hel1:=Ie
   obtain⟨s0,p0,n0,c0,t0,y0,m0,d0,rfl,mJ,gO,tH⟩:=Ie
   refine VS.bu rfl (decide_eq_true (Int.ofNat_lt.2 hzK)) ?_
   refine ae ?_
   refine VO.read rfl [.slice (some ⟨br,ux,none⟩) R c] rfl (cL (hg1.cell (j:=0) rfl)) (wV rfl ?_)
   refine ae ?_
   refine VO.cond rfl dU ?_
   refine wV rfl ?_
   refine ae ?_
   refine VO.read rfl [.slice (some ⟨bx,offx,none⟩) K cc] rfl (cW HF) (wV rfl ?_)
   refine ae ?_
   refine VO.cond rfl dU ?_
   refine wV rfl ?_
   refine ae ?_
   refine VO.read rfl [.bool s0,.slice p0 n0 c0,.bool t0,.slice y0 m0 d0] rfl (bH jy 0 _ ⟨[],rfl⟩) (wV rfl ?_)
   refine ae ?_
   refine VO.call rfl rfl (fk Tryz.func21) (λbM dp cq=>(td _ _ _ _ _ bM (mJ.kp (Kp.of (U:=UU) cq)) aa aa).mono ?_)
   rintro o w1 ⟨r1,rfl,q1,aQ⟩
   obtain⟨p1,c1,y1,d1,rfl,_⟩:=q1.raw.CK
   refine bo aQ ?_
   intro eF _ bb1
   have gz:dG kk w1 [.bool y.s,.slice p1 y.xs.length c1,.bool y.t,.slice y1 y.ys.length d1] y:=.mk q1.raw gO tH
   rcases hI with ⟨iT,rfl,rfl⟩|⟨n',c',vs,sp,rfl,rfl,uw⟩
   ·refine VO.oe (bZ _ _) (dG.el kk) (t:=147) (e:=38) (s:=34) (a:=y) (cs:=[.bool y.s,.slice p1 y.xs.length c1,.bool y.t,.slice y1 y.ys.length d1]) rfl rfl rfl rfl rfl rfl rfl rfl (bR rfl) rfl rfl rfl gz aa (λw9 cap sp k9 b9 ky=>wV rfl ?_)
    refine ae ?_
    refine VS.back (K-(z+1)) aa ⟨_,_,?_,?_,?_,?_,⟨z+1,_,_,by omega,rfl,rfl,rfl,.inr ⟨1,cap,_,sp,rfl,rfl,by rw[bI hy,iT];exact ky⟩⟩⟩
    ·(refine⟨rfl,rfl,rfl,rfl,rfl,?_,trivial⟩;rw[<-aZ (i:=z) aa];rfl)
    ·(repeat first|exact trivial|refine⟨rfl,?_⟩|refine⟨congrArg (λl=>some (_,l)) (dS (by first|exact eh.cY (by assumption)|exact ak _|(rw[<-List.map_append];exact ak _)) _ _),?_⟩)
    ·rfl
    ·(repeat first|exact trivial|refine⟨aJ.lit rfl,?_⟩|refine⟨eh.EW (by assumption),?_⟩|refine⟨aJ.append (.vals _) (.vals _),?_⟩|refine⟨aJ.vals _,?_⟩)
   ·have tZ:=uw.len
    refine VO.og (bZ _ _) (dG.el kk) (t:=147) (e:=38) (s:=34) (i:=35) (n:=n') (c:=c') (vs:=vs) (sp:=sp) (es:=ru.take z) (a:=y) (cs:=[.bool y.s,.slice p1 y.xs.length c1,.bool y.t,.slice y1 y.ys.length d1]) rfl rfl rfl rfl rfl rfl rfl rfl (bR rfl) rfl (.inr rfl) rfl (uw.kp (dG.el kk) iZ) rfl gz (by rw[List.length_take] at tZ;omega) (λw9 tw Ag ρ k9 b9 eO ky=>wV rfl ?_)
    refine ae ?_
    refine VS.back (K-(z+1)) aa ⟨_,_,?_,?_,?_,?_,⟨z+1,_,_,by omega,rfl,rfl,rfl,.inr ⟨n' +1,tw,_,Ag,rfl,rfl,by rw[bI hy];exact ky⟩⟩⟩
    ·(refine⟨rfl,rfl,rfl,rfl,rfl,?_,trivial⟩;rw[<-aZ (i:=z) aa];rfl)
    ·(repeat first|exact trivial|refine⟨rfl,?_⟩|refine⟨congrArg (λl=>some (_,l)) (dS (by first|exact eh.cY (by assumption)|exact ak _|(rw[<-List.map_append];exact ak _)) _ _),?_⟩)
    ·rfl
    ·(repeat first|exact trivial|refine⟨aJ.lit rfl,?_⟩|refine⟨eh.EW (by assumption),?_⟩|refine⟨aJ.append (.vals _) (.vals _),?_⟩|refine⟨aJ.vals _,?_⟩)
  refine VS.bt rfl (decide_eq_false (λe=>hzK (Int.ofNat_lt.1 e))) ?_
  obtain rfl:K=z:=by omega
  rw[List.take_of_length_le aa] at hI
  subst hul
  refine VS.eQ EY (λt=>Nat.beq t 23) table (λ_ _ _=>trivial) (λea qq k1 xg BK=> ?_)
  have bB:ax W ea:=xg
  have eu:=hI.told (dG.el kk) BK (by intro q hq;rcases hI with ⟨_,rfl,rfl⟩|⟨_,_,_,_,rfl,rfl,_⟩ <;> first|(cases hq;done)|(cases List.mem_singleton.1 hq;rfl)) k1.gw W.heap.size (λh=>h)
  have ow:=Ah.aG bB
  have CO:=ng.size
  have zO:=bB.size
  rcases Ht with ⟨rfl,rfl⟩|⟨b0,cB,CP,CQ,rfl,hBg,ox,zP,zQ,Hu,Hv,Hw⟩
  ·have oy:eL EY 43 [g] [(46,[.val (.slice none 0 0)])] ea:=by
    refine⟨rfl,by simp,λj g' c' hj hc=> ?_,λc' hc=> ?_,λc' hc k hk=> ?_⟩
    ·match j,hj,hc with
     | 0,hj,hc=>cases hj;cases hc;exact ow
     | j+1,hj,_=>simp at hj
    ·cases List.mem_singleton.1 hc
     exact⟨rfl,rfl⟩
    ·cases List.mem_singleton.1 hc
     cases hk
   refine⟨[g],[(46,[.val (.slice none 0 0)])],oy,[(1,.val (.pointer (some ⟨g1,0,none⟩))),(2,.val (.pointer (some ⟨g4,0,none⟩))),(3,.box 86 0),(4,.val (.int .i64 (([]:List Value).length:Int))),(5,.val (X.aE qq))],⟨⟨_,rfl,rfl,λi hi=>(by cases hi)⟩,⟨_,rfl,rfl,λi hi=>(by cases hi)⟩,⟨_,rfl,rfl,λi hi=>by rw[(by simpa [AV.ids] using hi:i=86)];exact⟨(by show 86<=86;omega),(by show 86<2*43+1;omega)⟩⟩,⟨_,rfl,rfl,λi hi=>(by cases hi)⟩,⟨_,rfl,rfl,λi hi=>(by cases hi)⟩,trivial⟩,?_⟩
   generalize X.aE qq=vv at eu ⊢
   obtain⟨oz,oA,rfl⟩:=eu.form
   refine CW ?_
   refine VO.oe (Bz _ _) dm (t:=44) (e:=147) (s:=39) (a:=.slice oz ru.length oA) (cs:=[.slice oz ru.length oA]) rfl rfl rfl rfl rfl rfl rfl rfl (bR rfl) rfl rfl rfl ⟨rfl,_,_,_,rfl⟩ aa (λur cap sp k13 b13 ky=>wV rfl ?_)
   refine CW ?_
   refine VS.om rfl (R-(([]:List Value).length+1)) aa (λw' bn k' o' xh=> ?_)
   have uf:aH EY ea w':=(show aH EY ea ur from iZ).ay k'
   have zR:ax w w':=iG.aG (ng.ay bB) o'.1 (λx hx=>by rw[List.mem_singleton.1 hx];omega)
   have hst:gg VE 1 147 40 (.row 40 0 1 cap) [(40,(147,_))] ur ([.slice oz ru.length oA]):=.inr ⟨_,cap,_,sp,rfl,rfl,ky⟩
   have lZ:=hst.told dm xh (λx hx=>by cases List.mem_singleton.1 hx;rfl) k'.gw w.heap.size (λh=>(dR (show gD 43 [g] ea 40 (bn 40) from h)).elim (λq=>Nat.le_trans CO (Nat.le_trans zO q)) (λq=>by rw[List.mem_singleton.1 q];omega))
   have tK:=xh.own 86 _ _ rfl
   have jS:bn 86=g:=(th tK 0 g rfl rfl).1
   refine⟨[(1,.pointer (some ⟨g1,0,none⟩)),(2,.pointer (some ⟨g4,0,none⟩)),(3,.pointer (some ⟨bn 86,0,none⟩)),(4,.int .i64 ((([]:List Value).length+1:Nat):Int))],⟨⟨_,_,rfl,rfl,rfl⟩,⟨_,_,rfl,rfl,rfl⟩,⟨_,_,rfl,rfl,rfl⟩,⟨_,_,rfl,congrArg (λz=>Value.int .i64 z) (aZ (i:=([]:List Value).length) aa),rfl⟩,trivial⟩,([]:List Value).length+1,g4,bn 86,g1,.slice (some ⟨bn 40,0,none⟩) 1 cap,[Value.slice oz ru.length oA],by omega,rfl,rfl,zR,mY,by rw[jS];exact hgW,by rw[jS];exact lC,(kI.aG bB).but o'.1 (by simp[lC]),tK.cls,lZ,by simp,?_,?_,hg1W,by rw[jS];exact hg1n,(hg1.aG bB).but o'.1 (by simp[hg1n])⟩
   ·exact rB (vs:=([]:List Value)) (l:=t) (P:=λu r=>aC (dG kk) 4 38 w.heap.size w' u r) (λi u r hi hr=>((zN i u r hi hr).aG (dG.el kk) bB).kp (dG.el kk) uf rfl) xm ((eu.kp (dG.el kk) uf rfl).mono CO)
   ·exact fL (us:=([]:List Value)) (λi j u v b hi=>(by simp at hi)) (λi v b hi hb=>by
     obtain⟨r,hr⟩:∃ r,t[i]? =some r:=⟨_,List.getElem?_eq_getElem (by have:=(List.getElem?_eq_some_iff.1 hi).1;simp at this)⟩
     exact ((zN i v r hi hr).iX hb).2) (λb hb=>(eu.iX hb).1)
  ·have zS:=ox.aG bB
   have hgb:g≠b0:=λh=>by rw[h] at ow;exact absurd (ek ow zS) ck
   have Hx:g4≠b0:=λh=>by rw[h] at kI;exact absurd (ek kI ox) ck
   have hg1b:g1≠b0:=λh=>by rw[h] at hg1;exact absurd (ek hg1 ox) ck
   have oy:eL EY 43 [g,b0] [(46,[.row 87 0 us.length cB]),(147,CP.flatten.map .val++CQ.map .val)] ea:=by
    refine⟨rfl,by simp[hgb],λj g' c' hj hc=> ?_,λc' hc=> ?_,λc' hc k hk=> ?_⟩
    ·match j,hj,hc with
     | 0,hj,hc=>cases hj;cases hc;exact ow
     | 1,hj,hc=>cases hj;cases hc;rw[<-List.map_append,aU];exact zS
     | j+2,hj,_=>simp at hj
    ·rcases List.mem_cons.1 hc with rfl|hc
     ·exact⟨rfl,rfl⟩
     ·cases List.mem_singleton.1 hc
      exact⟨rfl,by rw[<-List.map_append];exact cV (by rw[List.all_append,(zP.ok dm).1,zQ];rfl)⟩
    ·rcases List.mem_cons.1 hc with rfl|hc
     ·have:k=87:=by simpa [aA,AV.cY] using hk
      subst this;exact⟨by omega,by show 87<2*43+2;omega⟩
     ·cases List.mem_singleton.1 hc
      rw[<-List.map_append,ak] at hk;cases hk
   have hNB:eh VE 1 ea us.length cB CP (CQ.map .val) us:=⟨rfl,zP.kp dm (Kp.of (U:=UU) bB),cV zQ,ak _,Hu,Hv,by rw[<-List.map_append,List.length_map];exact Hw⟩
   refine⟨[g,b0],[(46,[.row 87 0 us.length cB]),(147,CP.flatten.map .val++CQ.map .val)],oy,[(1,.val (.pointer (some ⟨g1,0,none⟩))),(2,.val (.pointer (some ⟨g4,0,none⟩))),(3,.box 86 0),(4,.val (.int .i64 (us.length:Int))),(5,.val (X.aE qq))],⟨⟨_,rfl,rfl,λi hi=>(by cases hi)⟩,⟨_,rfl,rfl,λi hi=>(by cases hi)⟩,⟨_,rfl,rfl,λi hi=>by rw[(by simpa [AV.ids] using hi:i=86)];exact⟨(by show 86<=86;omega),(by show 86<2*43+2;omega)⟩⟩,⟨_,rfl,rfl,λi hi=>(by cases hi)⟩,⟨_,rfl,rfl,λi hi=>(by cases hi)⟩,trivial⟩,?_⟩
   generalize X.aE qq=vv at eu ⊢
   obtain⟨oz,oA,rfl⟩:=eu.form
   refine CW ?_
   refine VO.og (Bz _ _) dm (t:=44) (e:=147) (s:=39) (i:=87) (n:=us.length) (c:=cB) (vs:=CP) (sp:=CQ.map .val) (es:=us) (a:=.slice oz ru.length oA) (cs:=[.slice oz ru.length oA]) rfl rfl rfl rfl rfl rfl rfl rfl (bR rfl) rfl (.inl rfl) rfl (hNB.kp dm (aH.gw (show aH EY ea _ from iZ))) rfl ⟨rfl,_,_,_,rfl⟩ aa (λur cap sp ρ k13 b13 eO ky=>wV rfl ?_)
   refine CW ?_
   refine VS.om rfl (R-(us.length+1)) aa (λw' bn k' o' xh=> ?_)
   have uf:aH EY ea w':=(show aH EY ea ur from iZ).ay k'
   have zR:ax w w':=iG.aG (ng.ay bB) o'.1 (λx hx=>by
    rcases List.mem_cons.1 hx with rfl|hx
    ·omega
    ·rw[List.mem_singleton.1 hx];omega)
   have hst:gg VE 1 147 40 (.row 40 0 (us.length+1) cap) [(40,(147,_))] ur (us++[.slice oz ru.length oA]):=.inr ⟨_,cap,_,sp,rfl,rfl,ky⟩
   have lZ:=hst.told dm xh (λx hx=>by cases List.mem_singleton.1 hx;rfl) k'.gw w.heap.size (λh=>(dR (show gD 43 [g,b0] ea 40 (bn 40) from h)).elim (λq=>Nat.le_trans CO (Nat.le_trans zO q)) (λq=>by
    rcases List.mem_cons.1 q with h|h
    ·rw[h];omega
    ·rw[List.mem_singleton.1 h];omega))
   have tK:=xh.own 86 _ _ rfl
   have jS:bn 86=g:=(th tK 0 g rfl rfl).1
   refine⟨[(1,.pointer (some ⟨g1,0,none⟩)),(2,.pointer (some ⟨g4,0,none⟩)),(3,.pointer (some ⟨bn 86,0,none⟩)),(4,.int .i64 ((us.length+1:Nat):Int))],⟨⟨_,_,rfl,rfl,rfl⟩,⟨_,_,rfl,rfl,rfl⟩,⟨_,_,rfl,rfl,rfl⟩,⟨_,_,rfl,congrArg (λz=>Value.int .i64 z) (aZ (i:=us.length) aa),rfl⟩,trivial⟩,us.length+1,g4,bn 86,g1,.slice (some ⟨bn 40,0,none⟩) (us.length+1) cap,us++[Value.slice oz ru.length oA],by omega,rfl,rfl,zR,mY,by rw[jS];exact hgW,by rw[jS];exact lC,(kI.aG bB).but o'.1 (by simp[lC,Hx]),tK.cls,lZ,by simp,?_,?_,hg1W,by rw[jS];exact hg1n,(hg1.aG bB).but o'.1 (by simp[hg1n,hg1b])⟩
   ·exact rB (vs:=us) (l:=t) (P:=λu r=>aC (dG kk) 4 38 w.heap.size w' u r) (λi u r hi hr=>((zN i u r hi hr).aG (dG.el kk) bB).kp (dG.el kk) uf rfl) xm ((eu.kp (dG.el kk) uf rfl).mono CO)
   ·exact fL (us:=us) hap (λi v b hi hb=>by
     obtain⟨r,hr⟩:∃ r,t[i]? =some r:=⟨_,List.getElem?_eq_getElem (by have:=(List.getElem?_eq_some_iff.1 hi).1;omega)⟩
     exact ((zN i v r hi hr).iX hb).2) (λb hb=>(eu.iX hb).1)
 refine VS.bt rfl (decide_eq_false (λh=>heR (Int.ofNat_lt.1 h))) ?_
 obtain rfl:R=e:=by omega
 (repeat (first|refine wN ?_|refine wP rfl ?_|refine wO rfl rfl ?_))
 obtain⟨pv,cv,rfl⟩:=Ht.form
 refine VS.eQ tN (λt=>Nat.beq t 23) table (λ_ _ _=>trivial) (λea qq k1 xg BK=> ?_)
 have bB:ax W ea:=xg
 have oy:eL tN 43 [g4] [(46,[.val (.slice none 0 0)])] ea:=by
  refine⟨rfl,by simp,λj g' c' hj hc=> ?_,λc' hc=> ?_,λc' hc k hk=> ?_⟩
  ·match j,hj,hc with
   | 0,hj,hc=>cases hj;cases hc;exact kI.aG bB
   | j+1,hj,_=>simp at hj
  ·cases List.mem_singleton.1 hc
   exact⟨rfl,rfl⟩
  ·cases List.mem_singleton.1 hc
   cases hk
 refine⟨[g4],[(46,[.val (.slice none 0 0)])],oy,[(2,.box 86 0),(3,.val (.pointer (some ⟨g,0,none⟩)))],⟨⟨_,rfl,rfl,λi hi=>by rw[(by simpa [AV.ids] using hi:i=86)];exact⟨(by show 86<=86;omega),(by show 86<2*43+1;omega)⟩⟩,⟨_,rfl,rfl,λi hi=>(by cases hi)⟩,trivial⟩,?_⟩
 refine bV ?_
 refine VO.gn rfl [.slice pv us.length cv] rfl (at_one (pQ (λh=>lC h.symm) ((Ah.aG bB).cell (j:=0) rfl))) (wV rfl ?_)
 refine bV ?_
 refine VS.pJ (gJ _ _) rfl (λwz β kz bz en=> ?_)
 have zR:ax w wz:=iG.aG (ng.ay bB) bz.1 (λx hx=>by rw[List.mem_singleton.1 hx];exact mY)
 have hT:pX (dG kk) 147 38 w.heap.size W (.slice pv us.length cv) t:=⟨us,Ht,by omega,zN,hap⟩
 exact⟨_,rfl,hT.kp (dG.el kk) (T:=λt=> !Nat.beq t 46) ((aH.of bB).ay (iG.kp bz.1 (λx hx=>⟨46,[.slice none 0 0],by rw[List.mem_singleton.1 hx];exact kI.aG bB,rfl,rfl⟩))) rfl rfl,zR⟩
abbrev ItW:=Itm×Nat×Nat
def ItO (w:World) (cs:List Value) (x:ItW):Prop:=∃ s1 p1 n1 c1 t1 y1 m1 d1 s2 p2 n2 c2 t2 y2 m2 d2,
 cs=[.int .u8 (x.1.1:Int),.bool s1,.slice p1 n1 c1,.bool t1,.slice y1 m1 d1,.bool s2,.slice p2 n2 c2,.bool t2,.slice y2 m2 d2]/\x.1.1<256/\
 aM w x.2.1 (.agg #[.bool s1,.slice p1 n1 c1,.bool t1,.slice y1 m1 d1]) x.1.2.1/\aM w x.2.1 (.agg #[.bool s2,.slice p2 n2 c2,.bool t2,.slice y2 m2 d2]) x.1.2.2/\lx (λb=>b<x.2.2) y2 m2
theorem jT:eg ItO 9 where
 kp:=λh k=>by
  obtain⟨s1,p1,n1,c1,t1,y1,m1,d1,s2,p2,n2,c2,t2,y2,m2,d2,hv,h0,h1,h2,h3⟩:=h
  exact⟨_,_,_,_,_,_,_,_,_,_,_,_,_,_,_,_,hv,h0,h1.kp k,h2.kp k,h3⟩
 len:=λh=>by
  obtain⟨s1,p1,n1,c1,t1,y1,m1,d1,s2,p2,n2,c2,t2,y2,m2,d2,rfl,_⟩:=h
  rfl
 ok:=λh=>by
  obtain⟨s1,p1,n1,c1,t1,y1,m1,d1,s2,p2,n2,c2,t2,y2,m2,d2,rfl,_⟩:=h
  rfl
def ItQ (w:World) (cs:List Value) (x:Itm):Prop:=∃ s1 p1 n1 c1 t1 y1 m1 d1 s2 p2 n2 c2 t2 y2 m2 d2,
 cs=[.int .u8 (x.1:Int),.bool s1,.slice p1 n1 c1,.bool t1,.slice y1 m1 d1,.bool s2,.slice p2 n2 c2,.bool t2,.slice y2 m2 d2]/\x.1<256/\
 cM w (.agg #[.bool s1,.slice p1 n1 c1,.bool t1,.slice y1 m1 d1]) x.2.1/\cM w (.agg #[.bool s2,.slice p2 n2 c2,.bool t2,.slice y2 m2 d2]) x.2.2
theorem lE:eg ItQ 9 where
 kp:=λh k=>by
  obtain⟨s1,p1,n1,c1,t1,y1,m1,d1,s2,p2,n2,c2,t2,y2,m2,d2,hv,h0,h1,h2⟩:=h
  exact⟨_,_,_,_,_,_,_,_,_,_,_,_,_,_,_,_,hv,h0,h1.kp k,h2.kp k⟩
 len:=λh=>by
  obtain⟨s1,p1,n1,c1,t1,y1,m1,d1,s2,p2,n2,c2,t2,y2,m2,d2,rfl,_⟩:=h
  rfl
 ok:=λh=>by
  obtain⟨s1,p1,n1,c1,t1,y1,m1,d1,s2,p2,n2,c2,t2,y2,m2,d2,rfl,_⟩:=h
  rfl
def eR (B:Nat) (es:List ItW) (top:Nat):Prop:=es.Pairwise (λa b=>a.2.2<=b.2.1)/\∀ a∈es,B<=a.2.1/\a.2.1<=a.2.2/\a.2.2<=top
theorem eR.nil (B top:Nat):eR B [] top:=⟨.nil,λa h=>by cases h⟩
theorem eR.snoc {B top Ig:Nat} {es:List ItW} {x:ItW} (h:eR B es top) (h1:top<=x.2.1) (h2:B<=top) (h3:x.2.1<=x.2.2) (h4:x.2.2<=Ig):eR B (es++[x]) Ig:=by
 refine⟨List.pairwise_append.2 ⟨h.1,List.pairwise_singleton _ _,λa ha b hb=> ?_⟩,λa ha=> ?_⟩
 ·rw[List.mem_singleton.1 hb];have:=(h.2 a ha).2.2;omega
 ·rcases List.mem_append.1 ha with ha|ha
  ·have:=h.2 a ha;omega
  ·rw[List.mem_singleton.1 ha];omega
theorem eR.up {B top Ig:Nat} {es:List ItW} (h:eR B es top) (h1:top<=Ig):eR B es Ig:=⟨h.1,λa ha=>by have:=h.2 a ha;omega⟩
theorem aM.lies {w:World} {B:Nat} {s t:Bool} {p y:Option Addr} {n c m d:Nat} {q:Rat} (h:aM w B (.agg #[.bool s,.slice p n c,.bool t,.slice y m d]) q):lx (λb=>b<w.heap.size) y m:=by
 obtain⟨_,_,_,_,_,_,_,_,hv,_,h2⟩:=h
 cases hv
 exact h2.rd.lies
def lF (cs:List EX) (t:List (List Rat)) (e:Int):List Itm:=if 0<=e/\e.toNat<t.length/\(t.getD e.toNat []).length=cs.length then ey cs (t.getD e.toNat []) else []
set_option maxRecDepth 4000 in
theorem zZ (v u:Value) (cs:List EX) (xs:List Rat) (t:List (List Rat)) (e:Int) (kk:Nat) (w:World) (hu:bj (uu kk) 6 w u cs) (hv:bj (im kk) 1 w v t) (he:0<=e) (hx:t[e.toNat]? =some xs) (hlen:xs.length=cs.length) (hk:kk<=1000) (hn:cs.length<=1000):
  Calls Tryz.prog 24 #[.agg #[v],u,.int .i64 e] w λo w'=>∃ r es,o=.returned r/\aC ItO 9 74 w.heap.size w' r es/\es.map (λx=>x.1)=ey cs xs/\eR w.heap.size es w'.heap.size/\ax w w':=by
 obtain⟨p,c,rfl,eD,eZ⟩:=hu.form
 obtain⟨p2,c2,rfl⟩:=hv.sl
 obtain⟨N,hN⟩:∃ N,N=cs.length:=⟨_,rfl⟩
 rw[<-hN] at hu eD hlen hn ⊢
 have gz:e.toNat<t.length:=(List.getElem?_eq_some_iff.1 hx).1
 obtain⟨pb,po,pc,rfl,hpc,⟨pv,rfl,pk⟩⟩:=hv.at hx
 obtain⟨p3,c3,rfl⟩:=pk.sl
 have hE:((e.toNat:Nat):Int)=e:=by omega
 obtain⟨M0,hM0⟩:∃ M0,M0=t.length:=⟨_,rfl⟩
 rw[<-hM0] at hv gz
 rw[<-hM0]
 refine ah (C:=bC Tryz.prog w _) (args:=[_,_,_]) Tryz.func24 rfl Tryz.ntmps24 (bR rfl) ?_
 refine ae ?_
 refine VO.fix 12 rfl (congrArg (λb=>AV.val (.bool b)) (decide_eq_false (show ¬ e<0 by omega))) ?_
 refine ae ?_
 refine VO.fix 19 rfl (congrArg (λb=>AV.val (.bool b)) (decide_eq_false (show ¬ e>=(M0:Int) by omega))) ?_
 refine ae ?_
 refine VO.cond rfl dU (wV rfl ?_)
 refine VO.read rfl [.slice p3 xs.length c3] rfl (λj u hj=>by rw[Addr.add_mid];exact hpc j u hj) (wV rfl ?_)
 refine ae ?_
 refine VS.bt rfl (CM aa) ?_
 refine ae ?_
 refine VS.loop (J:=λm L M w'=>∃ (z:Nat) (X:AV) (Mi:List (Nat×(TypeId×List AV))) (es:List ItW),z<=N/\m=N-z/\L=[(1,.val (.slice p N c)),(2,.val (.int .i64 e)),(3,.box 3 0),(7,X),(30,.val (.slice p N c)),(31,.val (.int .i64 (N:Int))),(32,.val (.int .i64 (z:Int)))]/\
  M=(3,(52,[.val (.slice (some ⟨pb,po,none⟩) M0 c2)]))::Mi/\gg ItO 9 74 56 X Mi w' es/\es.map (λx=>x.1)=(ey cs xs).take z/\eR w.heap.size es w'.heap.size/\ax w w') N ⟨_,_,?_,?_,?_,?_,⟨0,_,[],[],by omega,rfl,rfl,rfl,.inl ⟨rfl,rfl,rfl⟩,rfl,.nil _ _,ax.refl _⟩⟩ ?_
 ·exact fx
 ·exact fx
 ·rfl
 ·exact qR
 rintro m L M wJ ⟨z,X,Mi,es,hz,rfl,rfl,rfl,hst,uz,hch,hbJ⟩
 have hlen:es.length=min z (ey cs xs).length:=by rw[<-List.length_map (f:=λx:ItW=>x.1),uz,List.length_take]
 refine VS.mask [9,42,52,55] (by rcases hst with ⟨_,_,rfl⟩|⟨_,_,_,_,_,rfl,_⟩ <;> (repeat first|exact trivial|refine⟨rfl,?_⟩)) ?_
 refine ae ?_
 by_cases hlt:z<N
 ·obtain⟨k,qN⟩:∃ k,cs[z]? =some k:=⟨_,List.getElem?_eq_getElem aa⟩
  obtain⟨x,hk2⟩:∃ x,xs[z]? =some x:=⟨_,List.getElem?_eq_getElem aa⟩
  obtain⟨b,off,gl,rfl,hc,⟨nm,s0,p0,n0,c0,t0,y0,m0,d0,rfl,EG,ra⟩⟩:=hu.at qN
  obtain⟨b2,tk,cs2,rfl,nZ,⟨s1,p1,n1,c1,t1,y1,m1,d1,rfl,hin2⟩⟩:=pk.at hk2
  refine VS.bu rfl (decide_eq_true (Int.ofNat_lt.2 hlt)) ?_
  refine ae ?_
  refine VO.cond rfl dU ?_
  refine wV rfl ?_
  refine ae ?_
  refine VO.read rfl [.string nm,.int .u8 (k.1:Int),.bool s0,.slice p0 n0 c0,.bool t0,.slice y0 m0 d0] rfl (bH hc 0 _ ⟨[],rfl⟩) (wV rfl ?_)
  refine ae ?_
  refine VO.sH rfl (fk Tryz.func39) (λbM β dp cq ho=>(jO _ [k.2] kk bM (lS (ho.own 42 (.base (List.mem_singleton.2 rfl)) _ _ rfl) [] (vs:=[[.bool s0,.slice p0 n0 c0,.bool t0,.slice y0 m0 d0]]) (by rfl) rfl (ew.cons (ra.kp (Kp.of (U:=UU) cq)) ew.nil) (bR rfl) ck) (by unfold dV sZ;simp;omega)).mono ?_)
  rintro o w1 ⟨r1,rfl,q1,-,aQ⟩
  rw[oh] at q1
  obtain⟨s2,p4,n2,c4,t2,y2,m2,d2,rfl⟩:=q1.form
  refine bo aQ ?_
  intro eF _ bb1
  refine VO.cond rfl dU (wV rfl ?_)
  refine VO.read rfl [.slice (some ⟨b2,tk,none⟩) xs.length c3] rfl (λj u hj=>by rw[Addr.add_mid];exact hpc j u hj) (wV rfl ?_)
  refine ae ?_
  refine VO.cond rfl dU (wV rfl ?_)
  refine VO.read rfl [.bool s1,.slice p1 n1 c1,.bool t1,.slice y1 m1 d1] rfl (bH nZ 0 _ ⟨[],rfl⟩) (wV rfl ?_)
  refine ae ?_
  refine VO.sH rfl (fk Tryz.func39) (λcE β ed da ho=>(jO _ [x] kk cE (lS (ho.own 52 (.base (List.mem_singleton.2 rfl)) _ _ rfl) [] (vs:=[[.bool s1,.slice p1 n1 c1,.bool t1,.slice y1 m1 d1]]) (by rfl) rfl (ew.cons (hin2.kp (Kp.of (U:=UU) da)) ew.nil) (bR rfl) ck) (by unfold dV sZ;simp;omega)).mono ?_)
  rintro o w2 ⟨r2,rfl,q2,-,ba⟩
  rw[oh] at q2
  obtain⟨s3,p5,n3,c5,t3,y3,m3,d3,rfl⟩:=q2.form
  refine bo ba ?_
  intro fG _ bb2
  have wC:=vC qN hk2
  have hs12:bM.heap.size<=cE.heap.size:=Nat.le_trans aQ.size (show aH _ w1 cE from ed).size
  have Aa:ItO w2 [.int .u8 (k.1:Int),.bool s2,.slice p4 n2 c4,.bool t2,.slice y2 m2 d2,.bool s3,.slice p5 n3 c5,.bool t3,.slice y3 m3 d3] ((k.1,k.2,x),bM.heap.size,w2.heap.size):=⟨_,_,_,_,_,_,_,_,_,_,_,_,_,_,_,_,rfl,EG,aM.kp q1 iZ,q2.mono hs12,q2.lies⟩
  have hch9:∀ (es':List ItW) (top:Nat),w2.heap.size<=top->eR w.heap.size (es++[((k.1,k.2,x),bM.heap.size,w2.heap.size)]) top:=λ_ top ht=>hch.snoc (show aH _ wJ bM from dp).size hbJ.size (Nat.le_trans hs12 ba.size) ht
  rcases hst with ⟨iT,rfl,rfl⟩|⟨n',c',vs,sp,rfl,rfl,uw⟩
  ·refine VO.oe (bZ _ _) jT (t:=71) (e:=74) (s:=55) (a:=((k.1,k.2,x),bM.heap.size,w2.heap.size)) (cs:=[.int .u8 (k.1:Int),.bool s2,.slice p4 n2 c4,.bool t2,.slice y2 m2 d2,.bool s3,.slice p5 n3 c5,.bool t3,.slice y3 m3 d3]) rfl rfl rfl rfl rfl rfl rfl rfl (bR rfl) rfl rfl rfl Aa aa (λw8 cap sp k8 b8 ky=>wV rfl ?_)
   refine ae ?_
   refine VS.back (N-(z+1)) aa ⟨_,_,?_,?_,?_,?_,⟨z+1,_,_,[((k.1,k.2,x),bM.heap.size,w2.heap.size)],by omega,rfl,rfl,rfl,.inr ⟨1,cap,_,sp,rfl,rfl,ky⟩,by rw[bI wC,<-uz,iT];rfl,by rw[iT] at hch9;exact hch9 [] _ (show aH _ w2 w8 from iZ).size,by assumption⟩⟩
   ·refine⟨rfl,rfl,rfl,rfl,rfl,rfl,?_,trivial⟩
    rw[<-aZ (i:=z) aa];rfl
   ·exact fx
   ·rfl
   ·exact⟨.lit rfl,ky.EW,trivial⟩
  ·have tZ:=uw.len
   rw[hlen] at tZ
   refine VO.og (bZ _ _) jT (t:=71) (e:=74) (s:=55) (i:=56) (n:=n') (c:=c') (vs:=vs) (sp:=sp) (es:=es) (a:=((k.1,k.2,x),bM.heap.size,w2.heap.size)) (cs:=[.int .u8 (k.1:Int),.bool s2,.slice p4 n2 c4,.bool t2,.slice y2 m2 d2,.bool s3,.slice p5 n3 c5,.bool t3,.slice y3 m3 d3]) rfl rfl rfl rfl rfl rfl rfl rfl (bR rfl) rfl (.inr rfl) rfl (uw.kp jT iZ) rfl Aa aa (λw8 tw Ag ρ k8 b8 eO ky=>wV rfl ?_)
   refine ae ?_
   refine VS.back (N-(z+1)) aa ⟨_,_,?_,?_,?_,?_,⟨z+1,_,_,es++[((k.1,k.2,x),bM.heap.size,w2.heap.size)],by omega,rfl,rfl,rfl,.inr ⟨n' +1,tw,_,Ag,rfl,rfl,ky⟩,by rw[bI wC,List.map_append,uz];rfl,hch9 [] _ (show aH _ w2 w8 from iZ).size,by assumption⟩⟩
   ·refine⟨rfl,rfl,rfl,rfl,rfl,rfl,?_,trivial⟩
    rw[<-aZ (i:=z) aa];rfl
   ·exact fx
   ·rfl
   ·exact⟨.lit rfl,ky.EW,trivial⟩
 ·refine VS.bt rfl (decide_eq_false (λe=>hlt (Int.ofNat_lt.1 e))) ?_
  obtain rfl:z=N:=by omega
  have hal:(ey cs xs).take z=ey cs xs:=List.take_of_length_le (by unfold ey;rw[List.length_map,List.length_zip];omega)
  rw[hal] at uz
  rcases hst with ⟨iT,rfl,rfl⟩|⟨n',c',vs,sp,rfl,rfl,uw⟩
  ·refine ae ?_
   refine bg ?_;intro wz kz bz
   exact⟨_,es,rfl,.inl ⟨rfl,iT⟩,uz,hch.up kz.size,bz⟩
  ·refine ae ?_
   refine VS.pJ (bZ _ _) rfl (λwz β kz bz en=> ?_)
   exact⟨_,es,rfl,uw.new jT (en.own 56 _ _ rfl) kz,uz,hch.up kz.size,bz⟩
theorem qJ {cs:List EX} {t:List (List Rat)} {e:Int} (h:¬ (0<=e/\e.toNat<t.length/\(t.getD e.toNat []).length=cs.length)):lF cs t e=[]:=if_neg h
set_option maxRecDepth 4000 in
theorem BL (v u:Value) (cs:List EX) (t:List (List Rat)) (e:Int) (kk:Nat) (w:World) (hu:bj (uu kk) 6 w u cs) (hv:bj (im kk) 1 w v t) (hk:kk<=1000) (hn:cs.length<=1000):
  Calls Tryz.prog 24 #[.agg #[v],u,.int .i64 e] w λo w'=>∃ r es,o=.returned r/\aC ItO 9 74 w.heap.size w' r es/\es.map (λx=>x.1)=lF cs t e/\eR w.heap.size es w'.heap.size/\ax w w':=by
 by_cases hg:0<=e/\e.toNat<t.length/\(t.getD e.toNat []).length=cs.length
 ·obtain⟨xs,hx⟩:∃ xs,t[e.toNat]? =some xs:=⟨_,List.getElem?_eq_getElem hg.2.1⟩
  have pk:t.getD e.toNat []=xs:=by rw[List.getD_eq_getElem?_getD,hx];rfl
  have hgi:lF cs t e=ey cs xs:=by unfold lF;rw[if_pos hg,pk]
  rw[hgi]
  exact zZ v u cs xs t e kk w hu hv hg.1 hx (by rw[<-pk];exact hg.2.2) hk hn
 rw[qJ hg]
 obtain⟨p,c,rfl,eD,eZ⟩:=hu.form
 obtain⟨p2,c2,rfl,hnc2,hcm2⟩:=hv.form
 obtain⟨N,hN⟩:∃ N,N=cs.length:=⟨_,rfl⟩
 obtain⟨M0,hM0⟩:∃ M0,M0=t.length:=⟨_,rfl⟩
 rw[<-hN] at eD hg
 rw[<-hM0] at hnc2 hg hv
 rw[<-hN,<-hM0]
 refine ah (C:=bC Tryz.prog w _) (args:=[_,_,_]) Tryz.func24 rfl Tryz.ntmps24 (bR rfl) ?_
 refine ae ?_
 by_cases h0:e<0
 ·refine VO.fix 12 rfl (congrArg (λb=>AV.val (.bool b)) (decide_eq_true h0)) ?_
  refine ae ?_
  refine bg ?_;intro wz kz bz
  exact⟨_,[],rfl,.inl ⟨rfl,rfl⟩,rfl,.nil _ _,bz⟩
 refine VO.fix 12 rfl (congrArg (λb=>AV.val (.bool b)) (decide_eq_false h0)) ?_
 refine ae ?_
 by_cases h1:e>=(M0:Int)
 ·refine VO.fix 19 rfl (congrArg (λb=>AV.val (.bool b)) (decide_eq_true h1)) ?_
  refine ae ?_
  refine bg ?_;intro wz kz bz
  exact⟨_,[],rfl,.inl ⟨rfl,rfl⟩,rfl,.nil _ _,bz⟩
 refine VO.fix 19 rfl (congrArg (λb=>AV.val (.bool b)) (decide_eq_false h1)) ?_
 refine ae ?_
 obtain⟨xs,hx⟩:∃ xs,t[e.toNat]? =some xs:=⟨_,List.getElem?_eq_getElem aa⟩
 have pk:t.getD e.toNat []=xs:=by rw[List.getD_eq_getElem?_getD,hx];rfl
 obtain⟨pb,po,pc,rfl,hpc,⟨pv,rfl,htv⟩⟩:=hv.at hx
 obtain⟨p3,c3,rfl⟩:=htv.sl
 rw[pk] at hg
 have hE:((e.toNat:Nat):Int)=e:=by omega
 refine VO.cond rfl dU (wV rfl ?_)
 refine VO.read rfl [.slice p3 xs.length c3] rfl (λj u hj=>by rw[Addr.add_mid];exact hpc j u hj) (wV rfl ?_)
 refine ae ?_
 refine VS.bu rfl (bne_y aa) ?_
 refine ae ?_
 refine bg ?_;intro wz kz bz
 exact⟨_,[],rfl,.inl ⟨rfl,rfl⟩,rfl,.nil _ _,bz⟩
set_option maxRecDepth 4000 in
theorem BM (v u:Value) (cs:List EX) (t:List (List Rat)) (e:Int) (kk:Nat) (w:World) (hu:bj (uu kk) 6 w u cs) (hv:bj (im kk) 1 w v t) (hk:kk<=1000) (hn:cs.length<=1000):
  Calls Tryz.prog 23 #[.agg #[v],u,.int .i64 e] w λo w'=>∃ r,o=.returned r/\aC ItQ 9 76 w.heap.size w' r (lF cs t e)/\ax w w':=by
 obtain⟨p,c,rfl,eD,eZ⟩:=hu.form
 obtain⟨p2,c2,rfl,hnc2,hcm2⟩:=hv.form
 obtain⟨N,hN⟩:∃ N,N=cs.length:=⟨_,rfl⟩
 obtain⟨M0,hM0⟩:∃ M0,M0=t.length:=⟨_,rfl⟩
 have hgn:¬ (0<=e/\e.toNat<M0/\(t.getD e.toNat []).length=N)->lF cs t e=[]:=λh=>qJ (by rw[hM0,hN] at h;exact h)
 have hgy:(0<=e/\e.toNat<M0/\(t.getD e.toNat []).length=N)->lF cs t e=ey cs (t.getD e.toNat []):=λh=>if_pos (by rw[hM0,hN] at h;exact h)
 rw[<-hN] at hu eD hn
 rw[<-hM0] at hnc2 hv
 rw[<-hN,<-hM0]
 refine ah (C:=bC Tryz.prog w _) (args:=[_,_,_]) Tryz.func23 rfl Tryz.ntmps23 (bR rfl) ?_
 refine ae ?_
 by_cases h0:e<0
 ·refine VO.fix 11 rfl (congrArg (λb=>AV.val (.bool b)) (decide_eq_true h0)) ?_
  refine ae ?_
  refine bg ?_;intro wz kz bz
  exact⟨_,rfl,.inl ⟨rfl,hgn aa⟩,bz⟩
 refine VO.fix 11 rfl (congrArg (λb=>AV.val (.bool b)) (decide_eq_false h0)) ?_
 refine ae ?_
 by_cases h1:e>=(M0:Int)
 ·refine VO.fix 18 rfl (congrArg (λb=>AV.val (.bool b)) (decide_eq_true h1)) ?_
  refine ae ?_
  refine bg ?_;intro wz kz bz
  exact⟨_,rfl,.inl ⟨rfl,hgn aa⟩,bz⟩
 refine VO.fix 18 rfl (congrArg (λb=>AV.val (.bool b)) (decide_eq_false h1)) ?_
 refine ae ?_
 obtain⟨xs,hx⟩:∃ xs,t[e.toNat]? =some xs:=⟨_,List.getElem?_eq_getElem aa⟩
 have pk:t.getD e.toNat []=xs:=by rw[List.getD_eq_getElem?_getD,hx];rfl
 have hv0:=hv
 obtain⟨pb,po,pc,rfl,hpc,⟨pv,rfl,htv⟩⟩:=hv.at hx
 obtain⟨p3,c3,rfl⟩:=htv.sl
 rw[pk] at hgn hgy
 have hE:((e.toNat:Nat):Int)=e:=by omega
 refine VO.cond rfl dU (wV rfl ?_)
 refine VO.read rfl [.slice p3 xs.length c3] rfl (λj u hj=>by rw[Addr.add_mid];exact hpc j u hj) (wV rfl ?_)
 refine ae ?_
 by_cases hlen:xs.length=N
 rotate_left
 ·refine VS.bu rfl (bne_y aa) ?_
  refine ae ?_
  refine bg ?_;intro wz kz bz
  exact⟨_,rfl,.inl ⟨rfl,hgn aa⟩,bz⟩
 have hgi:=hgy ⟨by omega,by omega,hlen⟩
 rw[hgi]
 refine VS.bt rfl (CM aa) ?_
 refine ae ?_
 refine VS.loop (J:=λm L M w'=>∃ (z:Nat) (X:AV) (Mi:List (Nat×(TypeId×List AV))),z<=N/\m=N-z/\L=[(1,.val (.slice p N c)),(2,.val (.int .i64 e)),(3,.box 3 0),(7,X),(8,.val (.int .i64 (z:Int)))]/\
  M=(3,(46,[.val (.slice (some ⟨pb,po,none⟩) M0 c2)]))::Mi/\gg ItQ 9 76 54 X Mi w' ((ey cs xs).take z)) N ⟨_,_,?_,?_,?_,?_,⟨0,_,[],by omega,rfl,rfl,rfl,.inl ⟨rfl,rfl,rfl⟩⟩⟩ ?_
 ·exact fx
 ·exact fx
 ·rfl
 ·exact qR
 rintro m L M wJ ⟨z,X,Mi,hz,rfl,rfl,rfl,hst⟩
 refine VS.mask [53] (by rcases hst with ⟨_,_,rfl⟩|⟨_,_,_,_,_,rfl,_⟩ <;> (repeat first|exact trivial|refine⟨rfl,?_⟩)) ?_
 refine ae ?_
 by_cases hlt:z<N
 ·obtain⟨k,qN⟩:∃ k,cs[z]? =some k:=⟨_,List.getElem?_eq_getElem aa⟩
  obtain⟨x,hk2⟩:∃ x,xs[z]? =some x:=⟨_,List.getElem?_eq_getElem aa⟩
  obtain⟨b,off,gl,rfl,hc,⟨nm,s0,p0,n0,c0,t0,y0,m0,d0,rfl,EG,ra⟩⟩:=hu.at qN
  refine VS.bu rfl (decide_eq_true (Int.ofNat_lt.2 hlt)) ?_
  refine ae ?_
  refine VO.cond rfl dU ?_
  refine wV rfl ?_
  refine ae ?_
  refine VO.read rfl [.int .u8 (k.1:Int)] rfl (bH hc 1 _ ⟨_,rfl⟩) (wV rfl ?_)
  refine ae ?_
  refine VO.cond rfl dU ?_
  refine wV rfl ?_
  refine ae ?_
  refine VO.read rfl [.bool s0,.slice p0 n0 c0,.bool t0,.slice y0 m0 d0] rfl (bH hc 2 _ ⟨[],rfl⟩) (wV rfl ?_)
  refine ae ?_
  refine VO.call rfl rfl (fk Tryz.func70) (λbM dp cq=>(od _ k.2 kk bM (ra.kp (Kp.of (U:=UU) cq)) aa).mono ?_)
  rintro o w1 ⟨r1,rfl,q1,aQ⟩
  obtain⟨s2,p4,n2,c4,t2,y2,m2,d2,rfl⟩:=q1.form
  refine bo aQ ?_
  intro eF _ bb1
  refine VO.call rfl rfl (fk Tryz.func31) (λcE ed da=>(?_:Calls _ _ _ _ _))
  have re:=Eu _ t xs x e.toNat z kk cE (hv0.lz (gp kk) da) hx hk2 hk
  rw[hE] at re
  refine re.mono ?_
  rintro o w2 ⟨r2,rfl,q2,ba⟩
  obtain⟨s3,p5,n3,c5,t3,y3,m3,d3,rfl⟩:=q2.form
  refine bo ba ?_
  intro fG _ bb2
  have wC:=vC qN hk2
  have Aa:ItQ w2 [.int .u8 (k.1:Int),.bool s2,.slice p4 n2 c4,.bool t2,.slice y2 m2 d2,.bool s3,.slice p5 n3 c5,.bool t3,.slice y3 m3 d3] (k.1,k.2,x):=⟨_,_,_,_,_,_,_,_,_,_,_,_,_,_,_,_,rfl,EG,cM.kp q1 iZ,q2⟩
  rcases hst with ⟨iT,rfl,rfl⟩|⟨n',c',vs,sp,rfl,rfl,uw⟩
  ·refine VO.oe (bZ _ _) lE (t:=68) (e:=76) (s:=53) (a:=(k.1,k.2,x)) (cs:=[.int .u8 (k.1:Int),.bool s2,.slice p4 n2 c4,.bool t2,.slice y2 m2 d2,.bool s3,.slice p5 n3 c5,.bool t3,.slice y3 m3 d3]) rfl rfl rfl rfl rfl rfl rfl rfl (bR rfl) rfl rfl rfl Aa aa (λw8 cap sp k8 b8 ky=>wV rfl ?_)
   refine ae ?_
   refine VS.back (N-(z+1)) aa ⟨_,_,?_,?_,?_,?_,⟨z+1,_,_,by omega,rfl,rfl,rfl,.inr ⟨1,cap,_,sp,rfl,rfl,by rw[bI wC,iT];exact ky⟩⟩⟩
   ·(refine⟨rfl,rfl,rfl,rfl,?_,trivial⟩;rw[<-aZ (i:=z) aa];rfl)
   ·(repeat first|exact trivial|refine⟨rfl,?_⟩|refine⟨congrArg (λl=>some (_,l)) (dS (by first|exact eh.cY (by assumption)|exact ak _|(rw[<-List.map_append];exact ak _)) _ _),?_⟩)
   ·rfl
   ·(repeat first|exact trivial|refine⟨aJ.lit rfl,?_⟩|refine⟨eh.EW (by assumption),?_⟩|refine⟨aJ.append (.vals _) (.vals _),?_⟩|refine⟨aJ.vals _,?_⟩)
  ·have tZ:=uw.len
   rw[List.length_take] at tZ
   refine VO.og (bZ _ _) lE (t:=68) (e:=76) (s:=53) (i:=54) (n:=n') (c:=c') (vs:=vs) (sp:=sp) (es:=(ey cs xs).take z) (a:=(k.1,k.2,x)) (cs:=[.int .u8 (k.1:Int),.bool s2,.slice p4 n2 c4,.bool t2,.slice y2 m2 d2,.bool s3,.slice p5 n3 c5,.bool t3,.slice y3 m3 d3]) rfl rfl rfl rfl rfl rfl rfl rfl (bR rfl) rfl (.inr rfl) rfl (uw.kp lE iZ) rfl Aa aa (λw8 tw Ag ρ k8 b8 eO ky=>wV rfl ?_)
   refine ae ?_
   refine VS.back (N-(z+1)) aa ⟨_,_,?_,?_,?_,?_,⟨z+1,_,_,by omega,rfl,rfl,rfl,.inr ⟨n' +1,tw,_,Ag,rfl,rfl,by rw[bI wC];exact ky⟩⟩⟩
   ·(refine⟨rfl,rfl,rfl,rfl,?_,trivial⟩;rw[<-aZ (i:=z) aa];rfl)
   ·(repeat first|exact trivial|refine⟨rfl,?_⟩|refine⟨congrArg (λl=>some (_,l)) (dS (by first|exact eh.cY (by assumption)|exact ak _|(rw[<-List.map_append];exact ak _)) _ _),?_⟩)
   ·rfl
   ·(repeat first|exact trivial|refine⟨aJ.lit rfl,?_⟩|refine⟨eh.EW (by assumption),?_⟩|refine⟨aJ.append (.vals _) (.vals _),?_⟩|refine⟨aJ.vals _,?_⟩)
 ·refine VS.bt rfl (decide_eq_false (λe=>hlt (Int.ofNat_lt.1 e))) ?_
  obtain rfl:z=N:=by omega
  have hal:(ey cs xs).take z=ey cs xs:=List.take_of_length_le (by unfold ey;rw[List.length_map,List.length_zip];omega)
  rw[hal] at hst
  rcases hst with ⟨iT,rfl,rfl⟩|⟨n',c',vs,sp,rfl,rfl,uw⟩
  ·refine ae ?_
   refine bg ?_;intro wz kz bz
   exact⟨_,rfl,.inl ⟨rfl,iT⟩,bz⟩
  ·refine ae ?_
   refine VS.pJ (bZ _ _) rfl (λwz β kz bz en=> ?_)
   exact⟨_,rfl,uw.new lE (en.own 54 _ _ rfl) kz,bz⟩
end
set_option maxRecDepth 4000
section
open Go.RowKit
attribute [local irreducible] aq VS
abbrev TIt:TypeId->Bool:=λt=>(Nat.beq t 74 || (Nat.beq t 76 || (Nat.beq t 67 || (Nat.beq t 147 || Nat.beq t 38))))
abbrev pY (P:Program) (w:World) (N:Nat):Cx:={ P:=P,w0:=w,N:=N,K:=⟨UU,λ_=>True,λt=>TIt t⟩,SU:=λt=>Nat.beq t 23,ti:=table,keep:=λ_ _=>trivial }
theorem rC (w:World) (N:Nat):(pY Tryz.prog w N).Ok:=eK
theorem BN (w:World) (N:Nat):(pY Tryz.prog w N).P.follows .mixedOrders=true:=by show Tryz.prog.follows .mixedOrders=true;kernel_rfl
section
variable {F F':Fr} {H H':Hp} {w w1:World} {N:Nat} {l':List Oper} {Q:Exit->Act->World->Prop} {k:List It} {id:Nat} {ops:Array Oper}
theorem cxE2_r (e:iu (pY Tryz.prog w1 N) ops 80 ops.toList F H=(l',F',H')) (h:aq (pY Tryz.prog w1 N) none ops l' (VS (pY Tryz.prog w1 N) Q k) F' H' w):VS (pY Tryz.prog w1 N) Q (.code (.region id ops false)::k) F H w:=VS.region (rC _ _) (VO.run 80 e h)
theorem cxE2R (h:∀ wS hw,aH (pY Tryz.prog w1 N).K w wS->aq (Gm (pY Tryz.prog w1 N) wS hw (λ_=>trivial) (λw2 a u h1 hn hc=>qo hw h1 (Nat.lt_of_not_le (hn 0)) hc)) (some []) ops ops.toList (VS (pY Tryz.prog w1 N) Q k) F H wS) (jm:ig (pY Tryz.prog w1 N).SU [] ops=true):VS (pY Tryz.prog w1 N) Q (.code (.region id ops true)::k) F H w:=
 VS.drawR (rC _ _) (BN _ _) (λ_=>trivial) (λwS hw w2 a u h1 hn hc=>qo hw h1 (Nat.lt_of_not_le (hn 0)) hc) [] jm h
end
def vF.q (x:vF):EX:=(x.2.1,x.2.2.q)
theorem KlE.c {kk:Nat} {w:World} {cs:List Value} {x:vF} (h:KlE kk w cs x) (hs:na x.2.2):uu 4 w cs x.q:=by
 obtain⟨s,p,n,c,t,y,m,d,rfl,h0,hx⟩:=h
 exact⟨_,_,_,_,_,_,_,_,_,rfl,hx,h0.raw.1.in hs.1 hs.2⟩
theorem kls_c {kk:Nat} {w:World} {v:Value} {ls:List vF} (h:bj (KlE kk) 6 w v ls) (hs:∀ (i:Nat) (x:vF),ls[i]? =some x->na x.2.2):bj (uu 4) 6 w v (ls.map vF.q):=by
 obtain⟨p,c,rfl,h1,h2,h3⟩:=h
 refine⟨p,c,by rw[List.length_map],by rw[List.length_map];exact h1,h2,λi a ha=> ?_⟩
 rw[List.getElem?_map] at ha
 obtain⟨x,hx,rfl⟩:=Option.map_eq_some_iff.1 ha
 obtain⟨b,off,cs,hp,hc,hE⟩:=h3 i x hx
 exact⟨b,off,cs,hp,hc,hE.c (hs i x hx)⟩
def rtab (t:List (List Rw)):mc:=t.map λr=>r.map Rw.q
theorem Ih {kk:Nat} {w:World} {v:Value} {t:List (List Rw)} (h:bj (jt (dG kk)) 1 w v t):bj (im kk) 1 w v (rtab t):=zW h (λcs r hr=>by
 obtain⟨u,rfl,h1⟩:=hr
 refine⟨u,rfl,zW h1 (λcs x hx=> ?_)⟩
 have kh:=hx
 obtain⟨s,p,n,c,t,y,m,d,rfl,_⟩:=hx
 exact⟨_,_,_,_,_,_,_,_,rfl,kh.in⟩)
theorem aM.He {U:TypeId} {S:Nat->Prop} {T:TypeId->Bool} {w w':World} {H:Nat} {v:Value} {q:Rat} (h:aM w H v q) (k:aH ⟨U,S,T⟩ w w') (hs:∀ b,H<=b->S b):cM w' v q:=by
 obtain⟨s,p,n,c,t,r,m,d,hv,h1,h2⟩:=h
 exact⟨s,p,n,c,t,r,m,d,hv,h1.rd.He k (h1.lies.imp hs),h2.rd.He k (h2.lies.imp hs)⟩
theorem aM.huk {w:World} {B:Nat} {s t:Bool} {p y:Option Addr} {n c m d:Nat} {q:Rat} (h:aM w B (.agg #[.bool s,.slice p n c,.bool t,.slice y m d]) q):Er w y m/\lx (λb=>B<=b) y m/\m<=9223372036854775807:=by
 obtain⟨_,_,_,_,_,_,_,_,hv,_,h2⟩:=h
 cases hv
 refine⟨h2.huk,h2.lies,?_⟩
 obtain⟨_,_,hv,ho⟩:=h2
 simp only[Value.agg.injEq,Array.mk.injEq,List.cons.injEq,and_true,Value.slice.injEq] at hv
 obtain⟨_,rfl,rfl,rfl⟩:=hv
 obtain⟨_,_,hv,h1,h2,_⟩:=(Rd.own ho).u32
 omega
theorem blk_at {α:Type} {E:World->List Value->α->Prop} {sz:Nat} (hE:eg E sz) {w w1:World} {g i:Nat} {t:TypeId} {vs:List (List Value)} {sp cs:List Value} {es:List α} (gz:dy E w es vs) (hc:aI w1 g t (vs.flatten++sp).toArray) (hi:vs[i]? =some cs):∀ (j:Nat) (u:Value),cs[j]? =some u->w1.cell? ⟨g,0+i*sz+j,none⟩=some u:=λj u hj=>by
 refine hc.cell ?_
 have:=gz.cell hE i cs hi j u hj
 rw[List.getElem?_toArray,List.getElem?_append_left (List.getElem?_eq_some_iff.1 (by rw[Nat.zero_add];exact this)).1,Nat.zero_add]
 exact this
theorem lG {α:Type} {E:World->List Value->α->Prop} {sz:Nat} (hE:eg E sz) {w w1:World} {g i:Nat} {t:TypeId} {vs:List (List Value)} {sp cs:List Value} {es:List α} (gz:dy E w es vs) (hc:aI w1 g t (vs.flatten++sp).toArray) (hi:vs[i]? =some cs) (k:Nat) (ds:List Value) (hd:ds <+:cs.drop k):∀ (j:Nat) (u:Value),ds[j]? =some u->w1.cell? ((⟨g,0+((i:Nat):Int).toNat*sz+k,none⟩:Addr).add j)=some u:=
 bH (blk_at hE gz hc hi) k ds hd
theorem set_kpS {S:Nat->Prop} {T:TypeId->Bool} {w0 w:World} {b o:Nat} {vs:List Value} {cur:Array Value} {ty:TypeId} (h:aH ⟨UU,S,T⟩ w0 w) (hc:w.heap[b]? =some (Obj.cells cur ty (0,0))) (hb:¬ S b):aH ⟨UU,S,T⟩ w0 (w.setCells b o vs):=
 h.ay ((qE (K:=⟨UU,λ_=>True,T⟩) hc).less (λg hg e=>hb (e▸hg)) (λ_ h=>h))
theorem bJ {P Q:Prop} (h:Q) (i:Q->P:=by intro h;(repeat first|refine wN ?_|refine wP rfl ?_|refine cxE2_r rfl ?_|refine cxE2_d rfl ?_|refine wO rfl rfl ?_);exact h):P:=i h
theorem BO {P Q X:Prop} (hb:X) (h:Q) (i:X->Q->P:=by intro hb h;refine⟨_,rfl,hb,λa b c=>wV rfl ?_⟩;refine bJ ?_;revert a b c;exact h):P:=i hb h
set_option maxRecDepth 8000 in
theorem tG (v u:Value) (t:List (List Rw)) (ls:List vF) (e:Int) (kk:Nat) (w:World) (hv:bj (jt (dG kk)) 1 w v t) (hu:bj (KlE kk) 6 w u ls):
  Calls Tryz.prog 4 #[.agg #[v],u,.int .i64 e] w λo w'=>o=.returned (.bool true)/\ax w w':=by
 obtain⟨p,c,rfl,eD,eZ⟩:=hu.form
 obtain⟨pt,ct,rfl,hntc,hctm⟩:=hv.form
 obtain⟨N,hN⟩:∃ N,N=ls.length:=⟨_,rfl⟩
 obtain⟨R,hR⟩:∃ R,R=t.length:=⟨_,rfl⟩
 rw[<-hN] at hu eD
 rw[<-hR] at hv hntc
 rw[<-hN,<-hR]
 refine ah (C:=bC Tryz.prog w _) (args:=[_,_,_]) Tryz.func4 rfl Tryz.ntmps4 (bR rfl) ?_
 refine ae ?_
 refine VO.call rfl rfl (fk Tryz.func19) (λbM dp cq=>(zY _ t kk bM (hv.lz (xk (dG.el kk)) cq)).mono ?_)
 rintro o w1 ⟨b1,rfl,l1,aQ⟩
 cases b1 with
 | false=>
   refine bo aQ ?_
   intro eF _ bb1
   refine VO.cB rfl rfl (fk Tryz.func10) (λcE ed da=>gh cE) (λcE ed da w2 ba fG _ bb2=>wV rfl ?_)
   refine ae ?_
   refine bg ?_;intro wz kz bz
   exact⟨rfl,bz⟩
 | true=>
 refine bo aQ ?_
 intro eF _ bb1
 have hsm:=l1 rfl
 clear l1
 by_cases h20:(N:Int)>20
 ·refine VS.bu rfl (decide_eq_true h20) ?_
  refine ae ?_
  refine VO.cB rfl rfl (fk Tryz.func10) (λcE ed da=>gh cE) (λcE ed da w2 ba fG _ bb2=>wV rfl ?_)
  refine ae ?_
  refine bg ?_;intro wz kz bz
  exact⟨rfl,bz⟩
 refine VS.bt rfl (decide_eq_false h20) ?_
 refine ae ?_
 refine VS.loop (J:=λm L M w'=>∃ (z:Nat) (X:AV) (Mi:List (Nat×(TypeId×List AV))),z<=N/\m=N-z/\L=[(1,.val (.slice p N c)),(2,.val (.int .i64 e)),(3,.box 3 0),(7,X),(8,.val (.int .i64 (z:Int)))]/\M=(3,(52,[.val (.slice pt R ct)]))::Mi/\gg (uu 4) 6 67 65 X Mi w' ((ls.map vF.q).take z)/\∀ (i:Nat) (x:vF),i<z->ls[i]? =some x->na x.2.2) N ⟨_,_,?_,?_,?_,?_,⟨0,_,[],by omega,rfl,rfl,rfl,.inl ⟨rfl,rfl,rfl⟩,λi x hi=>by omega⟩⟩ ?_
 ·exact fx
 ·exact fx
 ·rfl
 ·exact qR
 rintro m L M wJ ⟨z,X,Mi,hz,rfl,rfl,rfl,hR0,hsh⟩
 refine VS.mask [64] (by rcases hR0 with ⟨_,rfl,rfl⟩|⟨_,_,_,_,rfl,rfl,_⟩ <;> (repeat first|exact trivial|refine⟨rfl,?_⟩)) ?_
 refine ae ?_
 by_cases hlt:z<N
 ·obtain⟨k,hx⟩:∃ k,ls[z]? =some k:=⟨_,List.getElem?_eq_getElem aa⟩
  obtain⟨b,off,gl,rfl,hc,gz⟩:=hu.at hx
  have Ie:=gz
  obtain⟨s0,p0,n0,c0,t0,y0,m0,d0,rfl,hrw,EG⟩:=gz
  refine VS.bu rfl (decide_eq_true (Int.ofNat_lt.2 hlt)) ?_
  refine ae ?_
  refine VO.cond rfl dU ?_
  refine wV rfl ?_
  refine ae ?_
  refine VO.read rfl [.bool s0,.slice p0 n0 c0,.bool t0,.slice y0 m0 d0] rfl (bH hc 2 _ ⟨[],rfl⟩) (wV rfl ?_)
  refine ae ?_
  refine VO.call rfl rfl (fk Tryz.func20) (λcE ed da=>(qI _ _ kk cE (hrw.kp (Kp.of (U:=UU) da))).mono ?_)
  rintro o w2 ⟨b2,rfl,l2,ba⟩
  cases b2 with
  | false=>
    refine bo ba ?_
    intro fG _ bb2
    refine VO.cB rfl rfl (fk Tryz.func10) (λfc fC gf=>gh fc) (λfc fC gf w3 cH kB _ bb3=>wV rfl ?_)
    refine ae ?_
    refine bg ?_;intro wz kz bz
    exact⟨rfl,bz⟩
  | true=>
  have hs4:=l2 rfl
  refine bo ba ?_
  intro fG _ bb2
  refine VO.cond rfl dU ?_
  refine wV rfl ?_
  refine ae ?_
  refine VO.read rfl [.string k.1] rfl (bH hc 0 _ ⟨_,rfl⟩) (wV rfl ?_)
  refine ae ?_
  by_cases h70:((k.1.size:Nat):Int)>70
  ·refine VS.bu rfl (decide_eq_true h70) ?_
   refine ae ?_
   refine VO.cB rfl rfl (fk Tryz.func10) (λfc fC gf=>gh fc) (λfc fC gf w3 cH kB _ bb3=>wV rfl ?_)
   refine ae ?_
   refine bg ?_;intro wz kz bz
   exact⟨rfl,bz⟩
  refine VS.bt rfl (decide_eq_false h70) ?_
  refine ae ?_
  refine VO.cond rfl dU ?_
  refine wV rfl ?_
  refine ae ?_
  refine VO.read rfl [.string k.1] rfl (bH hc 0 _ ⟨_,rfl⟩) (wV rfl ?_)
  refine ae ?_
  refine VO.cond rfl dU ?_
  refine wV rfl ?_
  refine ae ?_
  refine VO.read rfl [.int .u8 (k.2.1:Int)] rfl (bH hc 1 _ ⟨_,rfl⟩) (wV rfl ?_)
  refine ae ?_
  refine VO.cond rfl dU ?_
  refine wV rfl ?_
  refine ae ?_
  refine VO.read rfl [.bool s0,.slice p0 n0 c0,.bool t0,.slice y0 m0 d0] rfl (bH hc 2 _ ⟨[],rfl⟩) (wV rfl ?_)
  refine ae ?_
  refine VO.call rfl rfl (fk Tryz.func21) (λfc fC gf=>(td _ _ _ _ _ fc (hrw.raw.1.kp (Kp.of (U:=UU) gf)) (by have:=hs4.1;omega) (by have:=hs4.2;omega)).mono ?_)
  rintro o w3 ⟨r3,rfl,q3,cH⟩
  obtain⟨p1,c1,y1,d1,rfl,_⟩:=q3.raw.CK
  refine bo cH ?_
  intro kB _ bb3
  have Aa:uu 4 w3 [.string k.1,.int .u8 (k.2.1:Int),.bool k.2.2.s,.slice p1 k.2.2.xs.length c1,.bool k.2.2.t,.slice y1 k.2.2.ys.length d1] k.q:=.mk EG (q3.raw.in hs4.1 hs4.2)
  have hxq:(ls.map vF.q)[z]? =some k.q:=by rw[List.getElem?_map,hx];rfl
  have hsh2:∀ (i:Nat) (x:vF),i<z+1->ls[i]? =some x->na x.2.2:=λi x hi hx2=>by
   by_cases hiz:i=z
   ·subst hiz;rw[hx] at hx2;cases hx2;exact hs4
   ·exact hsh i x aa hx2
  rcases hR0 with ⟨iT,rfl,rfl⟩|⟨n',c',vs,sp,rfl,rfl,uw⟩
  ·refine VO.oe (bZ _ _) (mW 4) (t:=39) (e:=67) (s:=64) (a:=k.q) (cs:=[.string k.1,.int .u8 (k.2.1:Int),.bool k.2.2.s,.slice p1 k.2.2.xs.length c1,.bool k.2.2.t,.slice y1 k.2.2.ys.length d1]) rfl rfl rfl rfl rfl rfl rfl rfl (bR rfl) rfl rfl rfl Aa aa (λw9 cap sp k9 b9 ky=>wV rfl ?_)
   refine ae ?_
   refine VS.back (N-(z+1)) aa ⟨_,_,?_,?_,?_,?_,⟨z+1,_,_,by omega,rfl,rfl,rfl,.inr ⟨1,cap,_,sp,rfl,rfl,by rw[bI hxq,iT];exact ky⟩,hsh2⟩⟩
   ·(refine⟨rfl,rfl,rfl,rfl,?_,trivial⟩;rw[<-aZ (i:=z) aa];rfl)
   ·(repeat first|exact trivial|refine⟨rfl,?_⟩|refine⟨congrArg (λl=>some (_,l)) (dS (by first|exact eh.cY (by assumption)|exact ak _|(rw[<-List.map_append];exact ak _)) _ _),?_⟩)
   ·rfl
   ·(repeat first|exact trivial|refine⟨aJ.lit rfl,?_⟩|refine⟨eh.EW (by assumption),?_⟩|refine⟨aJ.append (.vals _) (.vals _),?_⟩|refine⟨aJ.vals _,?_⟩)
  ·have tZ:=uw.len
   rw[List.length_take] at tZ
   refine VO.og (bZ _ _) (mW 4) (t:=39) (e:=67) (s:=64) (i:=65) (n:=n') (c:=c') (vs:=vs) (sp:=sp) (es:=(ls.map vF.q).take z) (a:=k.q) (cs:=[.string k.1,.int .u8 (k.2.1:Int),.bool k.2.2.s,.slice p1 k.2.2.xs.length c1,.bool k.2.2.t,.slice y1 k.2.2.ys.length d1]) rfl rfl rfl rfl rfl rfl rfl rfl (bR rfl) rfl (.inr rfl) rfl (uw.kp (mW 4) iZ) rfl Aa aa (λw9 tw Ag ρ k9 b9 eO ky=>wV rfl ?_)
   refine ae ?_
   refine VS.back (N-(z+1)) aa ⟨_,_,?_,?_,?_,?_,⟨z+1,_,_,by omega,rfl,rfl,rfl,.inr ⟨n' +1,tw,_,Ag,rfl,rfl,by rw[bI hxq];exact ky⟩,hsh2⟩⟩
   ·(refine⟨rfl,rfl,rfl,rfl,?_,trivial⟩;rw[<-aZ (i:=z) aa];rfl)
   ·(repeat first|exact trivial|refine⟨rfl,?_⟩|refine⟨congrArg (λl=>some (_,l)) (dS (by first|exact eh.cY (by assumption)|exact ak _|(rw[<-List.map_append];exact ak _)) _ _),?_⟩)
   ·rfl
   ·(repeat first|exact trivial|refine⟨aJ.lit rfl,?_⟩|refine⟨eh.EW (by assumption),?_⟩|refine⟨aJ.append (.vals _) (.vals _),?_⟩|refine⟨aJ.vals _,?_⟩)
 refine VS.bt rfl (decide_eq_false (λe=>hlt (Int.ofNat_lt.1 e))) ?_
 obtain rfl:z=N:=by omega
 rw[List.take_of_length_le (by rw[List.length_map];omega)] at hR0
 have hu4:=kls_c hu (λi x hx=>hsh i x (by rw[hN];exact (List.getElem?_eq_some_iff.1 hx).1) hx)
 have hv4:=rows_to (j:=4) hv (λr hr x hx=>(hsm.2 r hr).2 x hx)
 (repeat (first|refine wN ?_|refine wP rfl ?_|refine wO rfl rfl ?_))
 refine VS.xa (λw=>pY Tryz.prog w 151) (λ_=>rfl) (λ_=>rfl) (λ_=>ax.refl _) (λw9 β k9 b9 en=> ?_)
 have hb9:ax w w9:=b9
 have fB:=hR0.told (mW 4) en (by intro q hq;rcases hR0 with ⟨_,rfl,rfl⟩|⟨_,_,_,_,rfl,rfl,_⟩ <;> first|(cases hq;done)|(cases List.mem_singleton.1 hq;rfl)) iZ w.heap.size (λh=>h)
 have h3:aI w9 (β 3) 52 #[.slice pt R ct]:=(en.own 3 _ _ rfl).cls
 refine⟨[(1,.val (.slice p z c)),(2,.val (.int .i64 e)),(3,.val (.pointer (some ⟨β 3,0,none⟩))),(7,.val (X.aE β))],⟨⟨_,_,rfl,rfl,rfl⟩,⟨_,_,rfl,rfl,rfl⟩,⟨_,_,rfl,rfl,rfl⟩,⟨_,_,rfl,rfl,rfl⟩,trivial⟩,?_⟩
 generalize β 3=g3 at h3 ⊢
 generalize X.aE β=xv at fB ⊢
 have hz20:(ls.map vF.q).length<=1000:=by rw[List.length_map];omega
 refine bJ ?_
 refine VO.read rfl [.slice pt R ct] rfl (cL (h3.cell (j:=0) rfl)) (wV rfl ?_)
 refine bJ ?_
 refine VO.call rfl rfl (fk Tryz.func22) (λfc fC gf=>(EF _ t 4 fc (hv4.lz (xk (dG.el 4)) (hb9.ay gf)) aa (Nat.le_trans hsm.1 aa) (λr hr=>Nat.le_trans (hsm.2 r hr).1 aa)).mono ?_)
 rintro o w3 ⟨r3,rfl,q3,cH⟩
 obtain⟨p3,c3,rfl⟩:=q3.form
 refine BO cH ?_
 intro kB _ bb3
 refine VO.call rfl rfl (fk Tryz.func23) (λjZ lQ ll=>(BM _ _ (ls.map vF.q) (rtab t) e 4 jZ ((fB.aG (mW 4) ll).sl (mW 4)) (Ih ((q3.kp (dG.el 4) (show xu TIt w3 jZ from iZ) rfl rfl).rows (dG.el 4))) aa hz20).mono ?_)
 rintro o w4 ⟨r4,rfl,q4,iq⟩
 obtain⟨G,hG⟩:∃ G,G=lF (ls.map vF.q) (rtab t) e:=⟨_,rfl⟩
 rw[<-hG] at q4
 obtain⟨p4,c4,rfl⟩:=q4.form
 refine BO iq ?_
 intro qy _ CC
 refine VS.zH (J:=λm L W=>∃ n:Nat,n<=2/\m=2-n/\L=[(1,.slice p z c),(2,.int .i64 e),(3,.pointer (some ⟨g3,0,none⟩)),(9,.slice p4 G.length c4),(10,.int .i64 (n:Int))]/\ax w W/\aI W g3 52 #[.slice pt R ct]/\bj ItQ 9 W (.slice p4 G.length c4) G)
  (λW=>pY Tryz.prog W 151) (λ_=>rfl) (λ_=>rfl) (λ_=>ax.refl _) 2 (λw' β k' o' en=>⟨[(1,.slice p z c),(2,.int .i64 e),(3,.pointer (some ⟨g3,0,none⟩)),(9,.slice p4 G.length c4),(10,.int .i64 ((0:Nat):Int))],⟨⟨_,_,rfl,rfl,rfl⟩,⟨_,_,rfl,rfl,rfl⟩,⟨_,_,rfl,rfl,rfl⟩,⟨_,_,rfl,rfl,rfl⟩,⟨_,_,rfl,rfl,rfl⟩,trivial⟩,0,by omega,rfl,rfl,hb9.ay o',h3.aG o',(q4.kp lE (show xu TIt w4 w' from iZ) rfl).sl lE⟩) ?_
 rintro m L W ⟨n,hn,rfl,rfl,ng,h3W,hQ⟩
 refine bJ ?_
 by_cases xq:n<2
 rotate_left
 ·refine VS.bt rfl (decide_eq_false (show ¬ (n:Int)<2 by omega)) ?_
  refine bJ ?_
  refine VO.cB rfl rfl (fk Tryz.func10) (λwa9 ka9 ba9=>gh wa9) (λwa9 ka9 ba9 w9 hb9 Eg _ bb9=>wV rfl ?_)
  refine bJ ?_
  refine VS.ret (rC _ _) rfl rfl (λwz kz bz=> ?_)
  exact⟨rfl,ng.ay bz⟩
 refine VS.bu rfl (decide_eq_true (show (n:Int)<2 by omega)) ?_
 refine bJ ?_
 refine VO.read rfl [.slice pt R ct] rfl (cL (h3W.cell (j:=0) rfl)) (wV rfl ?_)
 refine bJ ?_
 refine VO.call rfl rfl (fk Tryz.func24) (λja kc ke=>(BL _ _ (ls.map vF.q) (rtab t) e 4 ja (hu4.aG (mW 4) (ng.ay ke)) ((Ih hv4).lz (gp 4) (ng.ay ke)) aa hz20).mono ?_)
 rintro o w5 ⟨r5,es,rfl,q5,uz,hch,iW⟩
 rw[<-hG] at uz
 have gz:es.length=G.length:=by rw[<-uz,List.length_map]
 obtain⟨p5,c5,rfl⟩:=q5.form
 refine BO iW ?_
 intro nW _ Af
 refine VS.bt rfl (CM aa) ?_
 refine bJ ?_
 rcases q5 with ⟨hpv,hes⟩|⟨gI,cI,vI,sI,hpv,hBI,hcI,heI,hoI,hlI,hmI,hfI⟩
 ·subst hes
  cases hpv
  refine VS.loop (J:=λm L M w'=>m=0/\L=[(1,.val (.slice p z c)),(2,.val (.int .i64 e)),(3,.val (.pointer (some ⟨g3,0,none⟩))),(9,.val (.slice p4 G.length c4)),(10,.val (.int .i64 (n:Int))),(11,.val (.slice none 0 0)),(12,.val (.int .i64 0))]/\M=[]) 0 ⟨_,_,?_,?_,?_,?_,rfl,rfl,rfl⟩ ?_
  ·exact fx
  ·exact fx
  ·rfl
  ·exact qR
  rintro m L M wJ2 ⟨rfl,rfl,rfl⟩
  refine bJ ?_
  refine VS.om rfl (2-(n+1)) aa (λw' bn k' o' xh=> ?_)
  exact⟨[(1,.slice p z c),(2,.int .i64 e),(3,.pointer (some ⟨g3,0,none⟩)),(9,.slice p4 G.length c4),(10,.int .i64 ((n+1:Nat):Int))],⟨⟨_,_,rfl,rfl,rfl⟩,⟨_,_,rfl,rfl,rfl⟩,⟨_,_,rfl,rfl,rfl⟩,⟨_,_,rfl,rfl,rfl⟩,⟨_,_,rfl,congrArg (λz=>Value.int .i64 z) (aZ (i:=n) aa),rfl⟩,trivial⟩,n+1,by omega,rfl,rfl,ng.ay o',h3W.aG o',hQ.aG lE o'⟩
 cases hpv
 refine VS.loop (J:=λm L M w'=>∃ i:Nat,i<=es.length/\m=es.length-i/\L=[(1,.val (.slice p z c)),(2,.val (.int .i64 e)),(3,.val (.pointer (some ⟨g3,0,none⟩))),(9,.val (.slice p4 G.length c4)),(10,.val (.int .i64 (n:Int))),(11,.val (.slice (some ⟨gI,0,none⟩) es.length c5)),(12,.val (.int .i64 (i:Int)))]/\M=[]/\aH ⟨UU,λg=>(∃ x,es[i]? =some x/\x.2.1<=g)\/g=gI,TIt⟩ w5 w') es.length ⟨_,_,?_,?_,?_,?_,⟨0,by omega,rfl,rfl,rfl,(show aH ⟨UU,λ_=>True,TIt⟩ w5 _ from iZ).less (λ_ _=>trivial) (λ_ h=>h)⟩⟩ ?_
 ·exact fx
 ·exact fx
 ·rfl
 ·exact qR
 rintro m L M wi ⟨i,hi,rfl,rfl,rfl,hK0⟩
 refine VS.now (λwX kX bX=> ?_)
 have hK:=hK0.ay (kX.less (λ_ _=>trivial) (λ_ h=>h))
 have bW:ax W wX:=bX
 clear hK0
 refine bJ ?_
 by_cases hli:i<es.length
 rotate_left
 ·refine VS.bt rfl (decide_eq_false (λe=>hli (Int.ofNat_lt.1 e))) ?_
  refine bJ ?_
  refine VS.om rfl (2-(n+1)) aa (λw' bn k' o' xh=> ?_)
  exact⟨[(1,.slice p z c),(2,.int .i64 e),(3,.pointer (some ⟨g3,0,none⟩)),(9,.slice p4 G.length c4),(10,.int .i64 ((n+1:Nat):Int))],⟨⟨_,_,rfl,rfl,rfl⟩,⟨_,_,rfl,rfl,rfl⟩,⟨_,_,rfl,rfl,rfl⟩,⟨_,_,rfl,rfl,rfl⟩,⟨_,_,rfl,congrArg (λz=>Value.int .i64 z) (aZ (i:=n) aa),rfl⟩,trivial⟩,n+1,by omega,rfl,rfl,ng.ay o',h3W.aG o',hQ.aG lE o'⟩
 obtain⟨x,hx⟩:∃ x,es[i]? =some x:=⟨_,List.getElem?_eq_getElem hli⟩
 obtain⟨csI,Ii,wC⟩:=heI.at i x hx
 obtain⟨s1,p1,n1,c1,t1,y1,m1,d1,s2,p2,n2,c2,t2,y2,m2,d2,rfl,EG,nR,yS,kj⟩:=wC
 have hgx:G[i]? =some x.1:=by rw[<-uz,List.getElem?_map,hx];rfl
 obtain⟨bq,oq,csq,rfl,hcq,⟨s3,p3,n3,c3,t3,y3,m3,d3,s6,p6,n6,c6,t6,y6,m6,d6,rfl,h256',oM,oJ⟩⟩:=hQ.at hgx
 have hS:∀ b,x.2.1<=b->((∃ x,es[i]? =some x/\x.2.1<=b)\/b=gI):=λb hb=>.inl ⟨x,hx,hb⟩
 have hA:=nR.He hK hS
 have hB:=yS.He hK hS
 have hI1:aI wX gI 74 _:=hK.block _ gI _ rfl (.inr rfl) hcI
 refine VS.bu rfl (decide_eq_true (Int.ofNat_lt.2 hli)) ?_
 (repeat (first|refine wN ?_|refine wP rfl ?_|refine wO rfl rfl ?_))
 refine cxE2R (λwS hwS kS=>wV rfl ?_) (by kernel_rfl)
 refine VO.cond rfl dU (wV rfl ?_)
 refine VO.gn rfl [.int .u8 (x.1.1:Int)] rfl (λj u hj w1 h1=>lG jT heI ((kS.ay h1.2).block _ gI _ rfl trivial hI1) Ii 0 _ ⟨_,rfl⟩ j u hj) (wV rfl ?_)
 refine bJ ?_
 refine VO.cond rfl dU ?_
 refine wV rfl ?_
 refine bJ ?_
 refine VO.gn rfl [.int .u8 (x.1.1:Int)] rfl (λj u hj w1 h1=>(show ax W w1 from h1.1).cell (bH hcq 0 _ ⟨_,rfl⟩ j u hj)) (wV rfl ?_)
 refine bJ ?_
 refine VO.fix 101 rfl (congrArg (λb=>AV.val (.bool b)) (CM rfl)) ?_
 refine bJ ?_
 refine VO.cond rfl dU ?_
 refine wV rfl ?_
 refine bJ ?_
 refine VO.gn rfl [.bool s1,.slice p1 n1 c1,.bool t1,.slice y1 m1 d1] rfl (λj u hj w1 h1=>lG jT heI ((kS.ay h1.2).block _ gI _ rfl trivial hI1) Ii 1 _ ⟨_,rfl⟩ j u hj) (wV rfl ?_)
 refine bJ ?_
 refine VO.cond rfl dU ?_
 refine wV rfl ?_
 refine bJ ?_
 refine VO.gn rfl [.bool s3,.slice p3 n3 c3,.bool t3,.slice y3 m3 d3] rfl (λj u hj w1 h1=>(show ax W w1 from h1.1).cell (bH hcq 1 _ ⟨_,rfl⟩ j u hj)) (wV rfl ?_)
 refine bJ ?_
 refine VO.cB rfl rfl (fk Tryz.func25) (λsX qQ wG=>vA _ _ _ sX (hA.kp (kS.ay wG.2)) (oM.kp (Kp.of (U:=UU) wG.1))) (λsX qQ wG w6 ud vu _ GU=>wV rfl ?_)
 refine bJ ?_
 refine bJ ?_
 refine VO.cond rfl dU ?_
 refine wV rfl ?_
 refine bJ ?_
 refine VO.gn rfl [.bool s2,.slice p2 n2 c2,.bool t2,.slice y2 m2 d2] rfl (λj u hj w1 h1=>lG jT heI ((kS.ay h1.2).block _ gI _ rfl trivial hI1) Ii 5 _ ⟨_,rfl⟩ j u hj) (wV rfl ?_)
 refine bJ ?_
 refine VO.cond rfl dU ?_
 refine wV rfl ?_
 refine bJ ?_
 refine VO.gn rfl [.bool s6,.slice p6 n6 c6,.bool t6,.slice y6 m6 d6] rfl (λj u hj w1 h1=>(show ax W w1 from h1.1).cell (bH hcq 5 _ ⟨_,rfl⟩ j u hj)) (wV rfl ?_)
 refine bJ ?_
 refine VO.cB rfl rfl (fk Tryz.func25) (λBm CI vw=>vA _ _ _ Bm (hB.kp (kS.ay vw.2)) (oJ.kp (Kp.of (U:=UU) vw.1))) (λBm CI vw w7 ES CJ _ bb7=>wV rfl ?_)
 refine bJ ?_
 obtain⟨hkD,hlD,hmD⟩:=yS.huk
 have hLW:W.heap.size<=ja.heap.size:=(show aH _ W ja from kc).size
 have hxc:=hch.2 x (List.mem_of_getElem? hx)
 refine VS.loop (J:=λm L M w'=>∃ q:Nat,q<=m2/\m=m2-q/\L=[(1,.val (.slice p z c)),(2,.val (.int .i64 e)),(3,.val (.pointer (some ⟨g3,0,none⟩))),(9,.val (.slice (some ⟨bq,oq,none⟩) G.length c4)),(10,.val (.int .i64 (n:Int))),(11,.val (.slice (some ⟨gI,0,none⟩) es.length c5)),(12,.val (.int .i64 (i:Int))),(13,.val (.int .i64 (q:Int)))]/\M=[]/\aH ⟨UU,λg=>x.2.2<=g\/g=gI,TIt⟩ w5 w'/\Er w' y2 m2) m2 ⟨_,_,?_,?_,?_,?_,⟨0,by omega,rfl,rfl,rfl,?_,?_⟩⟩ ?_
 ·exact fx
 ·exact fx
 ·rfl
 ·exact qR
 ·refine (hK.ay ((show aH ⟨UU,λ_=>True,TIt⟩ wX _ from iZ).less (λ_ _=>trivial) (λ_ h=>h))).less (λg hg=> ?_) (λ_ h=>h)
  exact hg.imp (λh=>⟨x,hx,Nat.le_trans hxc.2.1 h⟩) id
 ·exact (hkD.He hK (hlD.imp hS)).He (show aH ⟨UU,λ_=>True,TIt⟩ wX _ from iZ) (λ_ _ _ _ _=>trivial)
 rintro m L M wk ⟨q,hq,rfl,rfl,rfl,hKk,hHk⟩
 refine bJ ?_
 refine VO.cond rfl dU (wV rfl ?_)
 refine VO.Cr rfl [.slice y2 m2 d2] rfl (λw1 k1 o1=>lG jT heI ((hKk.ay (k1.less (λ_ _=>trivial) (λ_ h=>h))).block _ gI _ rfl (.inr rfl) hcI) Ii 8 _ ⟨[],rfl⟩) (wV rfl ?_)
 refine bJ ?_
 by_cases hqm:q<m2
 rotate_left
 ·refine VS.bt rfl (decide_eq_false (λe=>hqm (Int.ofNat_lt.1 e))) ?_
  refine bJ ?_
  refine VS.back (es.length-(i+1)) aa ⟨_,_,?_,?_,?_,?_,⟨i+1,by omega,rfl,rfl,rfl,hKk.less (λg hg=> ?_) (λ_ h=>h)⟩⟩
  ·(refine⟨rfl,rfl,rfl,rfl,rfl,rfl,?_,trivial⟩;rw[<-aZ (i:=i) aa];rfl)
  ·exact fx
  ·rfl
  ·exact qR
  ·refine hg.imp (λ⟨x',ER,h⟩=>Nat.le_trans ?_ h) id
   have h1:=(List.getElem?_eq_some_iff.1 hx)
   have h2:=(List.getElem?_eq_some_iff.1 ER)
   have:=List.pairwise_iff_getElem.1 hch.1 i (i+1) h1.1 h2.1 aa
   rw[h1.2,h2.2] at this
   exact this
 obtain⟨gy,cur,hpy,Hl,hsz⟩:=hHk aa
 subst hpy
 have hgy1:x.2.1<=gy:=hlD aa gy 0 none rfl
 have hgy2:gy<x.2.2:=kj aa gy 0 none rfl
 have hgI:gy≠gI:=λh=>by
  have h1:aI wk gI 74 _:=hKk.block _ gI _ rfl (.inr rfl) hcI
  rw[h] at Hl
  exact absurd (ek h1 Hl) ck
 refine VS.bu rfl (decide_eq_true (Int.ofNat_lt.2 hqm)) ?_
 (repeat (first|refine wN ?_|refine wP rfl ?_))
 refine VS.Hc (rC _ _) (λ_=>Iff.rfl) rfl ?_
 refine wV rfl ?_
 refine VO.cond rfl dU (wV rfl ?_)
 refine VO.Cr rfl [.slice (some ⟨gy,0,none⟩) m2 d2] rfl (λw1 k1 o1=>lG jT heI ((hKk.ay (k1.less (λ_ _=>trivial) (λ_ h=>h))).block _ gI _ rfl (.inr rfl) hcI) Ii 8 _ ⟨[],rfl⟩) (wV rfl ?_)
 refine VO.cond rfl dU (wV rfl ?_)
 refine wN ?_
 refine⟨_,_,_,gy,0+(q:Int).toNat*1,_,.int .u32 55,rfl,rfl,rfl,rfl,rfl,rfl,rfl,rfl,?_,λw1 k1 bo1=> ?_⟩
 ·exact Nat.le_trans hLW (Nat.le_trans hxc.1 hgy1)
 have Ij:=k1.block UU gy cur (by simp[KC.fz]) trivial Hl
 refine⟨cur,UU,Ij,by rw[Int.toNat_natCast];show 0+q*1+1<=_;omega,by simp[KC.fz],λbo2=> ?_⟩
 have hK2:aH ⟨UU,λg=>x.2.2<=g\/g=gI,TIt⟩ w5 (w1.setCells gy (0+(q:Int).toNat*1) (Value.cells (.int .u32 55)).toList):=set_kpS (hKk.ay (k1.less (λ_ _=>trivial) (λ_ h=>h))) Ij (λh=>h.elim (λh=>by omega) hgI)
 have hH2:Er (w1.setCells gy (0+(q:Int).toNat*1) (Value.cells (.int .u32 55)).toList) (some ⟨gy,0,none⟩) m2:=(hHk.He k1 (λ_ _ _ _ _=>trivial)).over (Over.set (T:=λ_=>false) Ij)
 generalize w1.setCells gy (0+(q:Int).toNat*1) (Value.cells (.int .u32 55)).toList=w2' at*
 refine bJ ?_
 refine VS.back (m2-(q+1)) aa ⟨_,_,?_,?_,?_,?_,⟨q+1,by omega,rfl,rfl,rfl,hK2,hH2⟩⟩
 ·(refine⟨rfl,rfl,rfl,rfl,rfl,rfl,rfl,?_,trivial⟩;rw[<-aZ (i:=q) aa];rfl)
 ·exact fx
 ·rfl
 ·exact qR
end
section
open Go.RowKit
section
variable {H:Type} {enc:TypeId×Value->H} {w:World} {held:Bool}
def TabW (kk:Nat) (w:World) (cs:List Value) (t:List (List Rw)):Prop:=∃ v,cs=[v]/\bj (jt (dG kk)) 1 w v t
set_option maxRecDepth 100000 in
theorem CX {fuel:Nat} {cs:List Value} {x:DataW H×List MemPlace} (h:DataW.trod enc Tryz.prog w 0 (λ_=>true) held fuel 27 cs=some x):∃ a:Rw,dG kf w cs a:=by
 obtain⟨s,p,n,c,t,r,m,d,xs,ys,rfl,hr⟩:=Hb h
 have xD:=hr
 obtain⟨p',c',r',d',hv,h1,h2⟩:=hr
 simp only[Value.agg.injEq,Array.mk.injEq,List.cons.injEq,and_true,Value.slice.injEq,Value.bool.injEq] at hv
 obtain⟨_,⟨rfl,rfl,rfl⟩,_,rfl,rfl,rfl⟩:=hv
 obtain⟨_,_,_,oM,_⟩:=h1
 obtain⟨_,_,_,oJ,_⟩:=h2
 obtain⟨_,_,_,a1,a2,_⟩:=oM.u32
 obtain⟨_,_,_,b1,b2,_⟩:=oJ.u32
 exact⟨⟨s,xs,t,ys⟩,_,_,_,_,_,_,_,_,rfl,xD,(show xs.length<=kf by unfold kf;omega),(show ys.length<=kf by unfold kf;omega)⟩
set_option maxRecDepth 100000 in
theorem BP {fuel:Nat} {cs:List Value} {x:DataW H×List MemPlace} (h:DataW.trod enc Tryz.prog w 0 (λ_=>true) held fuel 105 cs=some x):∃ r:List Rw,jt (dG kf) w cs r:=by
 obtain⟨p,n,c,es,rfl,hs⟩:=zG (E:=dG kf) (sz:=4) Tryz.underlying105 (by kernel_rfl) aa (λh=>CX h) h
 exact⟨es,_,rfl,hs⟩
set_option maxRecDepth 100000 in
theorem EH {fuel:Nat} {cs:List Value} {x:DataW H×List MemPlace} (h:DataW.trod enc Tryz.prog w 0 (λ_=>true) held fuel 52 cs=some x):∃ e:List (List Rw),TabW kf w cs e:=by
 obtain⟨zs,n,rfl,rfl,hl,gN,hf⟩:=DataW.trod_struct Tryz.underlying52 h
 have uY:cs.length=1:=by
  have c:Tryz.prog.cellsOf 52=1:=by kernel_rfl
  rw[c] at hl;exact hl
 have hy2:zs.length=1:=gN
 obtain⟨z0,iU⟩:∃ z,zs[0]? =some z:=⟨_,List.getElem?_eq_getElem aa⟩
 have cc0:Tryz.prog.cellsOf 50=1:=by kernel_rfl
 have h0:=hf 0 _ rfl
 rw[iU] at h0
 change DataW.trod enc Tryz.prog w 0 (λ_=>true) held n 50 ((cs.drop 0).take (Tryz.prog.cellsOf 50))=some z0 at h0
 rw[cc0] at h0
 obtain⟨p0,n0,d0,es0,e0,g0⟩:=zG (E:=jt (dG kf)) (sz:=1) Tryz.underlying50 (by kernel_rfl) aa (λh=>BP h) h0
 have a0:cs.drop 0=(cs.drop 0).take 1:=by rw[List.take_of_length_le];rw[List.length_drop];omega
 have ecs:cs=(cs.drop 0).take 1:=by
  have a:cs=cs.drop 0:=rfl
  rw[a0] at a
  exact a
 rw[ecs,e0]
 exact⟨es0,_,rfl,g0⟩
set_option maxRecDepth 100000 in
theorem uA {v:Value} {d:DataW H} {ps:List MemPlace} {r:_root_.Go.Reach} {b0:Nat} (hv:Value.okWide Tryz.prog w r b0 52 v) (h:DataW.Trod enc Tryz.prog w 0 (λ_=>true) held 52 v d ps):∃ (u:Value) (t:List (List Rw)),v=.agg #[u]/\bj (jt (dG kf)) 1 w u t:=by
 obtain⟨cs,rfl,_⟩:=WideShapes.okWide_struct Tryz.underlying52 hv
 obtain⟨fuel,hf⟩:=h
 obtain⟨e,u,he,hs⟩:=EH hf
 have he2:cs=#[u]:=Array.toList_inj.1 (by simpa [Value.cells] using he)
 exact⟨u,e,by rw[he2],hs⟩
set_option maxRecDepth 100000 in
theorem Ik {fuel:Nat} {cs:List Value} {x:DataW H×List MemPlace} (h:DataW.trod enc Tryz.prog w 0 (λ_=>true) held fuel 64 cs=some x):∃ e:vF,KlE kf w cs e:=by
 obtain⟨zs,n,rfl,rfl,hl,gN,hf⟩:=DataW.trod_struct Tryz.underlying64 h
 have uY:cs.length=6:=by
  have c:Tryz.prog.cellsOf 64=6:=by kernel_rfl
  rw[c] at hl;exact hl
 have hy2:zs.length=3:=gN
 obtain⟨z0,iU⟩:∃ z,zs[0]? =some z:=⟨_,List.getElem?_eq_getElem aa⟩
 obtain⟨z1,jx⟩:∃ z,zs[1]? =some z:=⟨_,List.getElem?_eq_getElem aa⟩
 obtain⟨z2,km⟩:∃ z,zs[2]? =some z:=⟨_,List.getElem?_eq_getElem aa⟩
 have cc0:Tryz.prog.cellsOf 9=1:=by kernel_rfl
 have h0:=hf 0 _ rfl
 rw[iU] at h0
 change DataW.trod enc Tryz.prog w 0 (λ_=>true) held n 9 ((cs.drop 0).take (Tryz.prog.cellsOf 9))=some z0 at h0
 rw[cc0] at h0
 have cc1:Tryz.prog.cellsOf 5=1:=by kernel_rfl
 have h1:=hf 1 _ rfl
 rw[jx] at h1
 change DataW.trod enc Tryz.prog w 0 (λ_=>true) held n 5 ((cs.drop 1).take (Tryz.prog.cellsOf 5))=some z1 at h1
 rw[cc1] at h1
 have cc2:Tryz.prog.cellsOf 27=4:=by kernel_rfl
 have h2:=hf 2 _ rfl
 rw[km] at h2
 change DataW.trod enc Tryz.prog w 0 (λ_=>true) held n 27 ((cs.drop 2).take (Tryz.prog.cellsOf 27))=some z2 at h2
 rw[cc2] at h2
 obtain⟨nm0,e0,_,_⟩:=DataW.trod_string Tryz.underlying9 h0
 obtain⟨k1,e1,_,qN⟩:=DataW.trod_int Tryz.underlying5 h1
 obtain⟨x2,hx2⟩:=CX h2
 have a0:cs.drop 0=(cs.drop 0).take 1++cs.drop 1:=tj cs 0 1 1 rfl
 have a1:cs.drop 1=(cs.drop 1).take 1++cs.drop 2:=tj cs 1 1 2 rfl
 have a2:cs.drop 2=(cs.drop 2).take 4:=by rw[List.take_of_length_le];rw[List.length_drop];omega
 have ecs:cs=(cs.drop 0).take 1++((cs.drop 1).take 1++((cs.drop 2).take 4)):=by
  have a:cs=cs.drop 0:=rfl
  rw[a0] at a
  rw[a1] at a
  rw[a2] at a
  exact a
 have hk':=u8_wf qN
 obtain⟨k,rfl⟩:=Int.eq_ofNat_of_zero_le hk'.1
 have hx3:=hx2
 obtain⟨s,p,n,c,t,y,m,d,e2,h⟩:=hx2
 rw[e2] at hx3
 rw[ecs,e0,e1,e2]
 exact⟨(nm0,k,x2),_,_,_,_,_,_,_,_,rfl,hx3,(show k<256 by omega)⟩
set_option maxRecDepth 100000 in
theorem uB {v:Value} {d:DataW H} {ps:List MemPlace} {r:_root_.Go.Reach} {b0:Nat} (hv:Value.okWide Tryz.prog w r b0 28 v) (h:DataW.Trod enc Tryz.prog w 0 (λ_=>true) held 28 v d ps):∃ es:List vF,bj (KlE kf) 6 w v es:=
 open_sl Tryz.underlying28 (by kernel_rfl) aa (λh=>Ik h) hv h
end
end
end Go.Proofs.YtlifeokjcgngjaaGreat
