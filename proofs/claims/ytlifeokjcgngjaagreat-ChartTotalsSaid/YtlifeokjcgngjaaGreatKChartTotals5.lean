/-yV of the proof,laid behind one another. -/
import Derived.Test.YtlifeokjcgngjaaGreatKChartTotals4
import Derived.Shelf.Sort.Plain
import Derived.Shelf.Slices.In.SortNone
import Derived.Sort.OwnSorted
import Derived.Test.YtlifeokjcgngjaaGreatProg
set_option linter.all false
set_option maxHeartbeats 64000000
namespace Go.Proofs.YtlifeokjcgngjaaGreat
section
open Go.Shelf
def Np:Go.Shelf.Ren:=⟨λ|190=>130|125=>189|258=>188|128=>257|129=>258|302=>248|303=>249|304=>250|305=>251|306=>252|307=>253|308=>254|309=>255|310=>256|333=>290|329=>291|330=>292|334=>293|335=>294|336=>295|344=>312|n=>n,λ|31=>29|9=>9|3=>3|46=>251|0=>0|51=>78|53=>250|4=>4|183=>356|182=>355|131=>361|5=>5|218=>390|222=>394|228=>409|229=>410|n=>n,λ|n=>n⟩
theorem zP:Go.Proofs.Lays.n190 Tryz.prog Np:={
 mixed:=by kernel_rfl
 f125:=Tryz.func189.trans (congrArg some (by kernel_rfl))
 f128:=Tryz.func257.trans (congrArg some (by kernel_rfl))
 f129:=Tryz.func258.trans (congrArg some (by kernel_rfl))
 f190:=Tryz.func130.trans (congrArg some (by kernel_rfl))
 f258:=Tryz.func188.trans (congrArg some (by kernel_rfl))
 f302:=Tryz.func248.trans (congrArg some (by kernel_rfl))
 f303:=Tryz.func249.trans (congrArg some (by kernel_rfl))
 f304:=Tryz.func250.trans (congrArg some (by kernel_rfl))
 f305:=Tryz.func251.trans (congrArg some (by kernel_rfl))
 f306:=Tryz.func252.trans (congrArg some (by kernel_rfl))
 f307:=Tryz.func253.trans (congrArg some (by kernel_rfl))
 f308:=Tryz.func254.trans (congrArg some (by kernel_rfl))
 f309:=Tryz.func255.trans (congrArg some (by kernel_rfl))
 f310:=Tryz.func256.trans (congrArg some (by kernel_rfl))
 f329:=Tryz.func291.trans (congrArg some (by kernel_rfl))
 f330:=Tryz.func292.trans (congrArg some (by kernel_rfl))
 f333:=Tryz.func290.trans (congrArg some (by kernel_rfl))
 f334:=Tryz.func293.trans (congrArg some (by kernel_rfl))
 f335:=Tryz.func294.trans (congrArg some (by kernel_rfl))
 f336:=Tryz.func295.trans (congrArg some (by kernel_rfl))
 f344:=Tryz.func312.trans (congrArg some (by kernel_rfl))
 t0:=Tryz.underlying0
 a0:=Tryz.isAgg0
 z0:=Tryz.sizeOf0
 v0:=Tryz.zeroValue0
 t3:=Tryz.underlying3
 a3:=Tryz.isAgg3
 z3:=Tryz.sizeOf3
 v3:=Tryz.zeroValue3
 t4:=Tryz.underlying4
 a4:=Tryz.isAgg4
 z4:=Tryz.sizeOf4
 v4:=Tryz.zeroValue4
 t5:=Tryz.underlying5
 a5:=Tryz.isAgg5
 z5:=Tryz.sizeOf5
 v5:=Tryz.zeroValue5
 t9:=Tryz.underlying9
 a9:=Tryz.isAgg9
 z9:=Tryz.sizeOf9
 v9:=Tryz.zeroValue9
 t31:=Tryz.underlying29
 a31:=Tryz.isAgg29
 z31:=Tryz.sizeOf29
 v31:=Tryz.zeroValue29
 t46:=Tryz.underlying251
 a46:=Tryz.isAgg251
 z46:=Tryz.sizeOf251
 v46:=Tryz.zeroValue251
 t51:=Tryz.underlying78
 a51:=Tryz.isAgg78
 z51:=Tryz.sizeOf78
 v51:=Tryz.zeroValue78
 t53:=Tryz.underlying250
 a53:=Tryz.isAgg250
 z53:=Tryz.sizeOf250
 v53:=Tryz.zeroValue250
 t131:=Tryz.underlying361
 a131:=Tryz.isAgg361
 z131:=Tryz.sizeOf361
 v131:=Tryz.zeroValue361
 t182:=Tryz.underlying355
 a182:=Tryz.isAgg355
 z182:=Tryz.sizeOf355
 v182:=Tryz.zeroValue355
 t183:=Tryz.underlying356
 a183:=Tryz.isAgg356
 z183:=Tryz.sizeOf356
 v183:=Tryz.zeroValue356
 t218:=Tryz.underlying390
 a218:=Tryz.isAgg390
 z218:=Tryz.sizeOf390
 v218:=Tryz.zeroValue390
 t222:=Tryz.underlying394
 a222:=Tryz.isAgg394
 z222:=Tryz.sizeOf394
 v222:=Tryz.zeroValue394
 t228:=Tryz.underlying409
 a228:=Tryz.isAgg409
 z228:=Tryz.sizeOf409
 v228:=Tryz.zeroValue409
 t229:=Tryz.underlying410
 a229:=Tryz.isAgg410
 z229:=Tryz.sizeOf410
 v229:=Tryz.zeroValue410 }
end
set_option maxRecDepth 4000
section
open Go.RowKit Go.Sort
attribute [local irreducible] aB VS
def dv (_:World) (cs:List Value) (s:ByteArray):Prop:=cs=[.string s]
theorem aJ:fD dv 1 where
 kp:=λh _=>h
 len:=λh=>by rw[show _=_ from h];rfl
 ok:=λh=>by rw[show _=_ from h];rfl
theorem jI:∀ (ss:List ByteArray),(ss.map λs=>[Value.string s]).flatten=ss.map Value.string
 | []=>rfl
 | x::r=>by rw[List.map_cons,List.flatten_cons,jI r];rfl
theorem pV (w:World):∀ (ss:List ByteArray),cJ dv w ss (ss.map λs=>[Value.string s])
 | []=>.nil
 | x::r=>.cons rfl (pV w r)
def dt (ss:List ByteArray):List ByteArray:=((ss.map (·.data.toList)).mergeSort λx y=>decide (x<=y)).map λl=>⟨l.toArray⟩
theorem kA (ss:List ByteArray):(dt ss).length=ss.length:=by unfold dt;simp
theorem Bc {d:List (List UInt8)} {X sp:List Value} (h:X.length=d.length):putCells encStr 0 d.toArray (X++sp).toArray=(d.map encStr++sp).toArray:=by
 apply Array.ext_getElem?
 intro k
 by_cases hk:k<d.length
 ·simp[putCells,hk,h,List.getElem?_append_left]
 ·simp[putCells,hk,List.getElem?_append_right,h,Nat.not_lt.1 hk]
theorem Kj (b c:Nat) (ss:List ByteArray) (sp:List Value) (w:World) (hb:aL w b 9 (ss.map Value.string++sp).toArray) (hn:ss.length<4611686018427387904):
  Calls Tryz.prog 130 #[.slice (some ⟨b,0,none⟩) ss.length c] w λe w'=>e=.returned (.tuple #[])/\eJ [b] w w'/\aL w' b 9 ((dt ss).map Value.string++sp).toArray:=by
 obtain⟨ls,hls⟩:∃ ls:List (List UInt8),ls=ss.map (·.data.toList):=⟨_,rfl⟩
 have hl:ls.length=ss.length:=by rw[hls,List.length_map]
 have he:ls.map encStr=ss.map Value.string:=by rw[hls,List.map_map];exact List.map_congr_left λs _=>by simp
 have hcur:((ss.map Value.string++sp).toArray).toList.take ls.length=ls.map encStr:=by
  rw[he,List.take_left' (by rw[List.length_map,hl])]
 have h:=Any.slices_Sort_string zP b 0 c ls w (Go.holds_of_block hb hcur) hb.lt aa
 rw[hl] at h
 refine h.mono ?_
 rintro e w' ⟨rfl,n,os,rfl⟩
 have hg:=Go.grownBy_sorted (w:=w) (g:=b) (n:=n) (os:=os) (ls.mergeSort λx y=>decide (x<=y)).toArray
 refine⟨rfl,⟨rfl,rfl,rfl,by simp,λg Bu hn=> ?_⟩,?_⟩
 ·rw[heap_grow_old _ _ (by simpa using Bu)]
  have:b≠g:=λe=>hn (by rw[e];exact List.mem_singleton.2 rfl)
  simp[putRow,mapBlock,Sort.ahead,Array.getElem?_modify,this]
 ·have:=Go.heap_sorted (n:=n) (os:=os) (ls.mergeSort λx y=>decide (x<=y)).toArray hb
  rw[Bc (by rw[List.length_map,List.length_mergeSort,hl])] at this
  refine Eq.trans this ?_
  unfold dt
  rw[<-hls,List.map_map]
  rfl
set_option maxRecDepth 4000 in
theorem Gh (p:Option Addr) (N c:Nat) (ss:List ByteArray) (w:World) (hv:cj dv 1 w (.slice p N c) ss) (hN:N=ss.length) (hn:N<=1000000):
  Calls Tryz.prog 96 #[.slice p N c] w λo w'=>∃ r,o=.returned r/\aE dv 1 9 w.heap.size w' r ss/\ax w w':=by
 refine ai (C:=bj Tryz.prog w _) (args:=[_]) Tryz.func96 rfl Tryz.ntmps96 (cr rfl) ?_
 refine ae ?_
 cases p with
 | none=>
   have:ss=[]:=by
    cases ss with
    | nil=>rfl
    | cons x r=>
      obtain⟨_,_,_,h,_⟩:=hv.at (i:=0) (a:=x) rfl
      cases h
   subst this
   refine ae ?_
   refine bV ?_;intro wz kz bz
   exact⟨_,rfl,.inl ⟨rfl,rfl⟩,bz⟩
 | some a=>
   obtain⟨ab,ao,asl⟩:=a
   have hcell:∀ (j:Nat) (u:Value),(ss.map Value.string)[j]? =some u->w.cell? ⟨ab,ao+j,none⟩=some u/\asl=none:=λj u hj=>by
    rw[List.getElem?_map] at hj
    obtain⟨x,hx,rfl⟩:=Option.map_eq_some_iff.1 hj
    obtain⟨b,off,cs,hp,hc,rfl⟩:=hv.at hx
    cases hp
    have:=hc 0 _ rfl
    rw[Nat.mul_one,Nat.add_zero] at this
    exact⟨this,rfl⟩
   refine VS.aN rfl rfl ?_
   refine ae ?_
   refine VO.app (cV _ _) (t:=29) (e:=9) (sz:=1) (n:=0) (c:=0) (mm:=N) (known:=[]) (spare:=[]) (del:=some 5) (news:=(ss.map Value.string).map .val) (dst:=7) rfl rfl rfl rfl rfl rfl rfl rfl (cr rfl) rfl (.inr ⟨5,rfl,rfl,rfl⟩) (.inl rfl) rfl rfl (Nat.le_refl _) aa ⟨rfl,rfl,af _⟩ ⟨rfl,rfl,bc (List.all_eq_true.2 λx hx=>by obtain⟨y,_,rfl⟩:=List.mem_map.1 hx;rfl)⟩ (by rw[List.length_map,List.length_map,hN,Nat.mul_one]) aa
    (λw1 β k1 b1 ho=>⟨_,_,rfl,by
     cases ss with
     | nil=>exact .inl hN
     | cons x r=>
       have h0:=hcell 0 _ rfl
       obtain⟨_,rfl⟩:=h0
       exact .inr ⟨ab,ao,rfl,λj u hj=>ax.cell b1 (hcell j u (by rwa [aP] at hj)).1⟩⟩)
    (λgm cap bq ρ vK vL dY ik jl hlen2 hok' hlid'=>wV rfl ?_)
   refine ae ?_
   refine VS.qh (cV _ _) rfl (λwz β kz bz en=> ?_)
   have o:=en.own 7 _ _ rfl
   have da:=o.cls
   rw[List.nil_append,List.map_append,aP] at da
   rw[List.nil_append,List.length_append,List.length_map,List.length_map,Nat.mul_one] at hlen2
   refine⟨_,rfl,.inr ⟨β 7,cap,ss.map λs=>[.string s],bq.map (AV.leaf β),by rw[<-hN,Nat.zero_add];rfl,o.new,?_,?_,fe hok',by omega,jl,?_⟩,bz⟩
   ·rw[jI]
    exact da
   ·exact pV _ _
   ·rw[jI]
    rw[List.length_append,List.length_map,List.length_map];omega
abbrev cxW (P:Program) (w:World) (N:Nat):Cx:={ P:=P,w0:=w,N:=N,K:=⟨UU,λ_=>True,λt=>Nat.beq t 9⟩,SU:=λt=>Nat.beq t 23,ti:=table,keep:=λ_ _=>trivial }
theorem Gi (w:World) (N:Nat):(cxW Tryz.prog w N).Ok:=eD
section
variable {F F':Fr} {H H':Hp} {w w1:World} {N:Nat} {l':List Oper} {Q:Exit->Act->World->Prop} {k:List It} {id:Nat} {ops:Array Oper}
theorem cxW_r (e:im (cxW Tryz.prog w1 N) ops 80 ops.toList F H=(l',F',H')) (h:aB (cxW Tryz.prog w1 N) none ops l' (VS (cxW Tryz.prog w1 N) Q k) F' H' w):VS (cxW Tryz.prog w1 N) Q (.code (.region id ops false)::k) F H w:=VS.region (Gi _ _) (VO.run 80 e h)
end
theorem Eo {w:World}:∀ {es:List ByteArray} {vs:List (List Value)},cJ dv w es vs->vs=es.map λs=>[.string s]
 | [],_,.nil=>rfl
 | x::r,_,.cons h t=>by rw[show _=_ from h,Eo t];rfl
theorem Nr {P Q:Prop} (h:Q) (i:Q->P:=by intro h;(repeat first|refine wN ?_|refine wP rfl ?_|refine cxW_r rfl ?_|refine cxW_d rfl ?_|refine wO rfl rfl ?_);exact h):P:=i h
theorem cTcxW {P Q X:Prop} (hb:X) (h:Q) (i:X->Q->P:=by intro hb h;refine⟨_,rfl,hb,λa b c=>wV rfl ?_⟩;refine Nr ?_;revert a b c;exact h):P:=i hb h
set_option maxRecDepth 4000 in
theorem Gj (nm pa pB nB cB sT pT nT cT tT yT mT dT sC pC nC cC tC yC mC dC bk fw sI pI nI cI tI yI mI dI sF pF nF cF tF yF mF dF kp pc Nc cc pe Ne ce py Ny cy:_) (es:List ByteArray) (w:World) (hv:cj dv 1 w (.slice pe Ne ce) es) (hN:Ne=es.length) (hn:Ne<=1000000):
  Calls Tryz.prog 61 #[.agg #[.string nm,.string pa,.slice pB nB cB,.bool sT,.slice pT nT cT,.bool tT,.slice yT mT dT,.bool sC,.slice pC nC cC,.bool tC,.slice yC mC dC,.int .i64 bk,.int .i64 fw,.bool sI,.slice pI nI cI,.bool tI,.slice yI mI dI,.bool sF,.slice pF nF cF,.bool tF,.slice yF mF dF,.int .i64 kp,.slice pc Nc cc,.slice pe Ne ce,.slice py Ny cy]] w λo w'=>∃ r,o=.returned r/\aE dv 1 9 w.heap.size w' r (dt es)/\ax w w':=by
 refine ai (C:=cxW Tryz.prog w _) (args:=[_]) Tryz.func61 rfl Tryz.ntmps61 (cr rfl) ?_
 refine Nr ?_
 refine VO.call rfl rfl (fk Tryz.func96) (λbL dw bX=>(Gh pe Ne ce es bL (hv.az aJ bX) hN hn).mono ?_)
 rintro o w1 ⟨r1,rfl,q1,bl⟩
 rcases q1 with ⟨rfl,rfl⟩|⟨b,cap,vs,sp,rfl,hBg,da,dE,ld,hle,gF,jM⟩
 ·refine cTcxW bl ?_
  intro eM _ bb1
  refine VO.call rfl rfl (fk Tryz.func130) (λdh eU dQ=>(Any.slices_Sort_string_none zP none 0 dh).mono ?_)
  rintro o w2 ⟨rfl,rfl⟩
  refine⟨_,rfl,ax.refl _,λgr _ bb2=>wV rfl ?_⟩
  refine Nr ?_
  refine VS.ret (Gi _ _) rfl rfl (λwz kz bz=> ?_)
  exact⟨_,rfl,.inl ⟨rfl,by unfold dt;simp⟩,bz⟩
 ·refine⟨_,rfl,bl,λeM _ bb1=>wV rfl ?_⟩
  (repeat (first|refine wN ?_|refine wP rfl ?_|refine wO rfl rfl ?_))
  refine VS.vJ (Gi _ _) 1 rfl rfl rfl (VO.run 80 rfl ?_)
  refine VO.nil ⟨_,_,_,λw=>bj Tryz.prog w 10,rfl,rfl,fk Tryz.func130,λ_=>rfl,λ_=>rfl,λ_=>ax.refl _,λw2 k2 b2=> ?_⟩
  have HF:=Eo dE
  rw[HF,jI] at da jM
  have hcl2:aL w2 b 9 (es.map Value.string++sp).toArray:=k2.block _ b _ rfl trivial da
  refine (Kj b cap es sp w2 hcl2 aa).mono ?_
  rintro o w3 ⟨rfl,hbut,hcl3⟩
  have dU:ax w w3:=eJ.az b2 hbut (λx hx=>by rw[List.mem_singleton.1 hx];have:=bX.size;omega)
  refine⟨_,[(3,.slice (some ⟨b,0,none⟩) es.length cap)],rfl,⟨rfl,trivial⟩,λp hp e=> ?_,?_⟩
  ·rw[List.mem_singleton.1 hp] at e;cases e
  refine ae ?_
  refine bV ?_;intro wz kz bz
  have ar:=bX.size
  refine⟨_,rfl,.inr ⟨b,cap,(dt es).map λs=>[.string s],sp,by rw[kA];rfl,by omega,by rw[jI];exact hcl3.az bz,pV _ _,ld,by rw[kA];exact hle,gF,?_⟩,dU.aH bz⟩
  rw[jI,List.length_append,List.length_map,kA]
  rw[List.length_append,List.length_map] at jM
  exact jM
def jJ {α:Type} (P:α->Bool):List α->Int
 | []=> -1
 | x::r=>if P x=true then 0 else (if jJ P r<0 then-1 else jJ P r+1)
theorem sj {α:Type} {P:α->Bool}:∀ {l:List α} {z:Nat} {x:α},l[z]? =some x->(∀ (i:Nat) (y:α),i<z->l[i]? =some y->P y=false)->P x=true->jJ P l=z
 | [],_,_,h,_,_=>by cases h
 | y::r,0,x,h,_,hx=>by
   cases h
   unfold jJ
   rw[if_pos hx];rfl
 | y::r,z+1,x,h,hn,hx=>by
   have h0:=hn 0 y aa rfl
   have:=sj (l:=r) (z:=z) (x:=x) h (λi u hi hu=>hn (i+1) u aa hu) hx
   unfold jJ
   rw[if_neg (by rw[h0];simp),this,if_neg aa]
   omega
theorem mr {α:Type} {P:α->Bool}:∀ {l:List α},(∀ (i:Nat) (y:α),l[i]? =some y->P y=false)->jJ P l= -1
 | [],_=>rfl
 | y::r,hn=>by
   have h0:=hn 0 y rfl
   have:=mr (l:=r) (λi u hu=>hn (i+1) u hu)
   unfold jJ
   rw[if_neg (by rw[h0];simp),this,if_pos aa]
theorem Gk (v:Value) (ss:List ByteArray) (s:ByteArray) (w:World) (hv:cj dv 1 w v ss):
  Calls Tryz.prog 131 #[v,.string s] w λo w'=>o=.returned (.int .i64 (jJ (λx=>s.toList == x.toList) ss))/\ax w w':=by
 obtain⟨p,c,rfl,gg,gF⟩:=hv.form
 obtain⟨N,hN⟩:∃ N,N=ss.length:=⟨_,rfl⟩
 rw[<-hN] at hv gg ⊢
 refine ai (C:=bj Tryz.prog w _) (args:=[_,_]) Tryz.func131 rfl Tryz.ntmps131 (cr rfl) ?_
 refine ae ?_
 refine VS.loop (J:=λmm L M w'=>∃ z:Nat,z<=N/\mm=N-z/\L=[(0,.val (.slice p N c)),(1,.val (.string s)),(7,.val (.int .i64 (N:Int))),(8,.val (.int .i64 (z:Int)))]/\M=[]/\∀ (i:Nat) (y:ByteArray),i<z->ss[i]? =some y->(s.toList == y.toList)=false) N ⟨_,_,?_,?_,?_,?_,⟨0,by omega,rfl,rfl,rfl,λi y hi=>aa⟩⟩ ?_
 ·exact du
 ·exact du
 ·rfl
 ·exact iq
 rintro mm L M wJ ⟨z,hz,rfl,rfl,rfl,hno⟩
 refine ae ?_
 by_cases hlt:z<N
 ·obtain⟨x,hx⟩:∃ x,ss[z]? =some x:=⟨_,List.getElem?_eq_getElem aa⟩
  obtain⟨b,off,cs,rfl,hc,rfl⟩:=hv.at hx
  refine VS.aU rfl (decide_eq_true (Int.ofNat_lt.2 hlt)) ?_
  refine ae ?_
  refine VO.cond rfl cW ?_
  refine wV rfl ?_
  refine ae ?_
  refine VO.read rfl [.string x] rfl (cN hc) (wV rfl ?_)
  refine ae ?_
  cases hs:(s.toList == x.toList) with
  | true=>
    refine VS.aU rfl rfl ?_
    refine ae ?_
    refine bV ?_;intro wz kz bz
    exact⟨by rw[sj (P:=λx=>s.toList == x.toList) hx hno hs];rfl,bz⟩
  | false=>
    refine VS.aN rfl rfl ?_
    refine ae ?_
    refine VS.back (N-(z+1)) aa ⟨_,_,?_,?_,?_,?_,⟨z+1,by omega,rfl,rfl,rfl,λi y hi hy=>(by
     by_cases Kk:i<z
     ·exact hno i y Kk hy
     ·rw[show i=z by omega,hx] at hy;cases hy;exact hs)⟩⟩
    ·refine⟨rfl,rfl,rfl,?_,trivial⟩
     rw[<-ay aa];rfl
    ·exact du
    ·rfl
    ·exact iq
 ·refine VS.aN rfl (decide_eq_false (λe=>hlt (Int.ofNat_lt.1 e))) ?_
  obtain rfl:z=N:=by omega
  refine ae ?_
  refine bV ?_;intro wz kz bz
  exact⟨by rw[mr (P:=λx=>s.toList == x.toList) (λi y hy=>hno i y (by have:=(List.getElem?_eq_some_iff.1 hy).1;omega) hy)];rfl,bz⟩
theorem Gl (v:Value) (ss:List ByteArray) (s:ByteArray) (w:World) (hv:cj dv 1 w v ss):
  Calls Tryz.prog 62 #[v,.string s] w λo w'=>o=.returned (.int .i64 (jJ (λx=>s.toList == x.toList) ss))/\ax w w':=by
 obtain⟨p,c,rfl⟩:=hv.sl
 refine ai (C:=bj Tryz.prog w _) (args:=[_,_]) Tryz.func62 rfl Tryz.ntmps62 (cr rfl) ?_
 refine ae ?_
 refine VO.cB rfl rfl (fk Tryz.func131) (λbL dw bX=>Gk _ ss s bL (hv.az aJ bX)) (λbL dw bX w1 bl eM _ bb1=>wV rfl ?_)
 refine ae ?_
 refine bV ?_;intro wz kz bz
 exact⟨rfl,bz⟩
abbrev nt:=ByteArray×Kls
def sk (kk:Nat) (w:World) (cs:List Value) (x:nt):Prop:=∃ s p n c t y m d,cs=[.string x.1,.int .u8 (x.2.1:Int),.bool s,.slice p n c,.bool t,.slice y m d]/\x.2.1<256/\df w (.agg #[.bool s,.slice p n c,.bool t,.slice y m d]) x.2.2 kk
theorem pW (kk:Nat):fD (sk kk) 6 where
 kp:=λh k=>by
  obtain⟨s,p,n,c,t,y,m,d,hv,h1,h2⟩:=h
  exact⟨_,_,_,_,_,_,_,_,hv,h1,h2.kp k⟩
 len:=λh=>by
  obtain⟨s,p,n,c,t,y,m,d,rfl,_⟩:=h
  rfl
 ok:=λh=>by
  obtain⟨s,p,n,c,t,y,m,d,rfl,_⟩:=h
  rfl
theorem Nt (g:FuncId) (c1:Value) (P:nt->Bool) (kk:Nat) (kg:wR Tryz.prog g) (v:Value) (es:List nt) (w:World) (hv:cj (sk kk) 6 w v es) (hg:∀ (cs:List Value) (a:nt) (w1:World),ax w w1->sk kk w1 cs a->Calls Tryz.prog g #[.agg cs.toArray,c1] w1 λe w'=>e=.returned (.bool (P a))/\ax w1 w'):
  Calls Tryz.prog 65 #[v,.func (.func g) #[] #[c1]] w λe w'=>e=.returned (.int .i64 (jJ P es))/\ax w w':=by
 obtain⟨p,c,rfl,gg,gF⟩:=hv.form
 obtain⟨N,hN⟩:∃ N,N=es.length:=⟨_,rfl⟩
 rw[<-hN] at hv gg ⊢
 refine ai (C:=bj Tryz.prog w _) (args:=[_,_]) Tryz.func65 rfl Tryz.ntmps65 (cr rfl) ?_
 refine ae ?_
 refine VS.loop (J:=λmm L M w'=>∃ z:Nat,z<=N/\mm=N-z/\L=[(0,.val (.slice p N c)),(1,.val (.func (.func g) #[] #[c1])),(7,.val (.int .i64 (N:Int))),(8,.val (.int .i64 (z:Int)))]/\M=[]/\∀ (i:Nat) (y:nt),i<z->es[i]? =some y->P y=false) N ⟨_,_,?_,?_,?_,?_,⟨0,by omega,rfl,rfl,rfl,λi y hi=>aa⟩⟩ ?_
 ·exact du
 ·exact du
 ·rfl
 ·exact iq
 rintro mm L M wJ ⟨z,hz,rfl,rfl,rfl,hno⟩
 refine ae ?_
 by_cases hlt:z<N
 ·obtain⟨a,hx⟩:∃ x,es[z]? =some x:=⟨_,List.getElem?_eq_getElem aa⟩
  obtain⟨b,off,cs,rfl,hc,he⟩:=hv.at hx
  have he':=he
  obtain⟨s0,p0,n0,c0,t0,y0,m0,d0,rfl,-⟩:=he'
  refine VS.aU rfl (decide_eq_true (Int.ofNat_lt.2 hlt)) ?_
  refine ae ?_
  refine VO.cond rfl cW ?_
  refine wV rfl ?_
  refine ae ?_
  refine VO.read rfl [.string a.1,.int .u8 (a.2.1:Int),.bool s0,.slice p0 n0 c0,.bool t0,.slice y0 m0 d0] rfl (aC hc 0 _ ⟨[],rfl⟩) (wV rfl ?_)
  refine VO.call rfl rfl kg (λbL dw bX=>(hg _ a bL bX ((pW kk).b he bX)).mono ?_)
  rintro e w1 ⟨rfl,bl⟩
  cases hP:P a with
  | true=>
    refine cP bl ?_
    intro eM _ bb1
    refine bV ?_;intro wz kz bz
    exact⟨by rw[sj hx hno hP];rfl,bz⟩
  | false=>
    refine cP bl ?_
    intro eM _ bb1
    refine VS.back (N-(z+1)) aa ⟨_,_,?_,?_,?_,?_,⟨z+1,by omega,rfl,rfl,rfl,λi y hi hy=>(by
     by_cases Kk:i<z
     ·exact hno i y Kk hy
     ·rw[show i=z by omega,hx] at hy;cases hy;exact hP)⟩⟩
    ·refine⟨rfl,rfl,rfl,?_,trivial⟩
     rw[<-ay aa];rfl
    ·exact du
    ·rfl
    ·exact iq
 ·refine VS.aN rfl (decide_eq_false (λe=>hlt (Int.ofNat_lt.1 e))) ?_
  obtain rfl:z=N:=by omega
  refine ae ?_
  refine bV ?_;intro wz kz bz
  exact⟨by rw[mr (λi y hy=>hno i y (by have:=(List.getElem?_eq_some_iff.1 hy).1;omega) hy)];rfl,bz⟩
theorem Ep (cs:List Value) (x:nt) (b:Nat) (s:ByteArray) (kk:Nat) (w:World) (hv:sk kk w cs x) (h1:w.cell? ⟨b,0,none⟩=some (.string s)):
  Calls Tryz.prog 66 #[.agg cs.toArray,.pointer (some ⟨b,0,none⟩)] w λo w'=>o=.returned (.bool (x.1.toList == s.toList))/\ax w w':=by
 obtain⟨s0,p0,n0,c0,t0,y0,m0,d0,rfl,-⟩:=hv
 refine ai (C:=bj Tryz.prog w _) (args:=[_,_]) Tryz.func66 rfl Tryz.ntmps66 (cr rfl) ?_
 refine ae ?_
 refine VO.read rfl [.string s] rfl (aG h1) (wV rfl ?_)
 refine ae ?_
 refine bV ?_;intro wz kz bz
 exact⟨rfl,bz⟩
theorem xN (v:Value) (es:List nt) (s:ByteArray) (kk:Nat) (w:World) (hv:cj (sk kk) 6 w v es):
  Calls Tryz.prog 16 #[v,.string s] w λo w'=>o=.returned (.int .i64 (jJ (λx=>x.1.toList == s.toList) es))/\ax w w':=by
 obtain⟨p,c,rfl⟩:=hv.sl
 refine ai (C:=bj Tryz.prog w _) (args:=[_,_]) Tryz.func16 rfl Tryz.ntmps16 (cr rfl) ?_
 refine ae ?_
 refine VO.Du rfl (fk Tryz.func65) (λbL β dw bX ho=>(Nt 66 (.pointer (some ⟨β 3,0,none⟩)) (λx=>x.1.toList == s.toList) kk (fk Tryz.func66) _ es bL (hv.az (pW kk) bX) (λcs a w1 hb hE=>Ep cs a (β 3) s kk w1 hE (hb.cell ((ho.own 3 (.base (List.mem_singleton.2 rfl)) _ _ rfl).cls.cell (j:=0) rfl)))).mono ?_)
 rintro o w1 ⟨rfl,bl⟩
 refine cP bl ?_
 intro eM _ bb1
 refine bV ?_;intro wz kz bz
 exact⟨rfl,bz⟩
def mv (t:List (List Rat)) (e c:Int):Bool:=decide (0<=e/\e<t.length/\0<=c/\c<(t.getD e.toNat []).length)
theorem xO (v:Value) (t:List (List Rat)) (e c:Int) (kk:Nat) (w:World) (hv:cj (lE kk) 1 w v t):
  Calls Tryz.prog 63 #[.agg #[v],.agg #[.int .i64 e,.int .i64 c]] w λo w'=>o=.returned (.bool (mv t e c))/\ax w w':=by
 obtain⟨p,cp,rfl⟩:=hv.sl
 refine ai (C:=bj Tryz.prog w _) (args:=[_,_]) Tryz.func63 rfl Tryz.ntmps63 (cr rfl) ?_
 refine ae ?_
 by_cases h1:e>=0
 ·refine VO.fix 8 rfl (congrArg (λb=>AV.val (.bool b)) (decide_eq_true h1)) ?_
  refine ae ?_
  by_cases h2:e<(t.length:Int)
  ·refine VO.fix 16 rfl (congrArg (λb=>AV.val (.bool b)) (decide_eq_true h2)) ?_
   refine ae ?_
   by_cases h3:c>=0
   ·refine VO.fix 21 rfl (congrArg (λb=>AV.val (.bool b)) (decide_eq_true h3)) ?_
    obtain⟨E,rfl⟩:=Int.eq_ofNat_of_zero_le (show 0<=e by omega)
    obtain⟨xs,hx⟩:∃ xs,t[E]? =some xs:=⟨_,List.getElem?_eq_getElem aa⟩
    obtain⟨b,off,uG,rfl,hcc,⟨xv,rfl,CY⟩⟩:=hv.at hx
    obtain⟨p3,c3,rfl⟩:=CY.sl
    refine ae ?_
    refine VO.cond rfl cW (wV rfl ?_)
    refine ae ?_
    refine VO.read rfl [.slice p3 xs.length c3] rfl (cN hcc) (wV rfl ?_)
    refine ae ?_
    refine bV ?_;intro wz kz bz
    refine⟨congrArg (λb=>Ending.returned (.bool b)) ?_,bz⟩
    unfold mv
    rw[Int.toNat_natCast,List.getD_eq_getElem?_getD,hx]
    show decide (c<(xs.length:Int))=decide (0<=(E:Int)/\(E:Int)<t.length/\0<=c/\c<(xs.length:Int))
    by_cases h4:c<(xs.length:Int)
    ·rw[decide_eq_true h4,decide_eq_true ⟨h1,h2,h3,h4⟩]
    ·rw[decide_eq_false h4,decide_eq_false (λh=>h4 h.2.2.2)]
   ·refine VO.fix 21 rfl (congrArg (λb=>AV.val (.bool b)) (decide_eq_false h3)) ?_
    refine ae ?_
    refine bV ?_;intro wz kz bz
    exact⟨congrArg (λb=>Ending.returned (.bool b)) (decide_eq_false (λh=>h3 h.2.2.1)).symm,bz⟩
  ·refine VO.fix 16 rfl (congrArg (λb=>AV.val (.bool b)) (decide_eq_false h2)) ?_
   refine ae ?_
   refine bV ?_;intro wz kz bz
   exact⟨congrArg (λb=>Ending.returned (.bool b)) (decide_eq_false (λh=>h2 h.2.1)).symm,bz⟩
 ·refine VO.fix 8 rfl (congrArg (λb=>AV.val (.bool b)) (decide_eq_false h1)) ?_
  refine ae ?_
  refine bV ?_;intro wz kz bz
  exact⟨congrArg (λb=>Ending.returned (.bool b)) (decide_eq_false (λh=>h1 h.1)).symm,bz⟩
end
set_option maxRecDepth 4000
section
open Go.RowKit
attribute [local irreducible] aB VS
abbrev kL:=List (List Rat)
def qU (t:kL) (e c:Nat) (x:Rat):kL:=t.modify e λr=>r.modify c (·+x)
def ft (n k:Nat):kL:=List.replicate n (List.replicate k 0)
theorem sm (t:kL) (e c:Nat) (x:Rat):(qU t e c x).length=t.length:=by unfold qU;rw[List.length_modify]
theorem sn {t:kL} {e c i:Nat} {x:Rat} {r:List Rat} (h:t[i]? =some r):(qU t e c x)[i]? =some (if i=e then r.modify c (·+x) else r):=by
 unfold qU
 rw[List.getElem?_modify,h]
 by_cases he:e=i
 ·subst he;simp
 ·simp[he,Ne.symm he]
theorem Kl (t:kL) (e c:Nat) (x:Rat):(qU t e c x).map List.length=t.map List.length:=by
 apply List.ext_getElem?
 intro i
 rw[List.getElem?_map,List.getElem?_map]
 cases h:t[i]? with
 | none=>rw[List.getElem?_eq_none (by rw[sm];exact List.getElem?_eq_none_iff.1 h)]
 | some r=>rw[sn h];by_cases he:i=e <;> simp[he]
def xP:Value->Option Nat
 | .slice (some a) _ _=>some a.block
 | _=>none
def uI (us:List Value):Prop:=∀ (i j:Nat) (u v:Value) (b:Nat),us[i]? =some u->us[j]? =some v->xP u=some b->xP v=some b->i=j
def uJ (B kk:Nat) (w:World) (cs:List Value) (q:Rat):Prop:=∃ s p n c t y m d,cs=[.bool s,.slice p n c,.bool t,.slice y m d]/\bQ w B (.agg #[.bool s,.slice p n c,.bool t,.slice y m d]) q/\lM q kk
theorem uJ.mk {B kk:Nat} {w:World} {s t:Bool} {p y:Option Addr} {n c m d:Nat} {q:Rat} (h:bQ w B (.agg #[.bool s,.slice p n c,.bool t,.slice y m d]) q) (hs:lM q kk):uJ B kk w [.bool s,.slice p n c,.bool t,.slice y m d] q:=⟨_,_,_,_,_,_,_,_,rfl,h,hs⟩
theorem cO (B kk:Nat):fD (uJ B kk) 4 where
 kp:=λh k=>by
  obtain⟨s,p,n,c,t,y,m,d,hv,h1,h2⟩:=h
  exact⟨_,_,_,_,_,_,_,_,hv,h1.kp k,h2⟩
 len:=λh=>by
  obtain⟨s,p,n,c,t,y,m,d,rfl,_⟩:=h
  rfl
 ok:=λh=>by
  obtain⟨s,p,n,c,t,y,m,d,rfl,_⟩:=h
  rfl
theorem uJ.q {B kk:Nat} {w:World} {cs:List Value} {q:Rat} (h:uJ B kk w cs q):qT kk w cs q:=by
 obtain⟨s,p,n,c,t,y,m,d,hv,h1,h2⟩:=h
 exact⟨_,_,_,_,_,_,_,_,hv,h1.rd,h2⟩
theorem uJ.up {B j k:Nat} {w:World} {cs:List Value} {q:Rat} (h:uJ B j w cs q) (hk:j<=k):uJ B k w cs q:=by
 obtain⟨s,p,n,c,t,y,m,d,hv,h1,h2⟩:=h
 exact⟨_,_,_,_,_,_,_,_,hv,h1,h2.mono hk⟩
theorem uJ.mono {B B' k:Nat} {w:World} {cs:List Value} {q:Rat} (h:uJ B k w cs q) (hB:B'<=B):uJ B' k w cs q:=by
 obtain⟨s,p,n,c,t,y,m,d,hv,h1,h2⟩:=h
 exact⟨_,_,_,_,_,_,_,_,hv,h1.mono hB,h2⟩
def fF (kk B:Nat) (w:World) (v:Value) (t:kL):Prop:=∃ us,aE VE 1 105 B w v us/\us.length=t.length/\(∀ (i:Nat) (u:Value) (r:List Rat),us[i]? =some u->t[i]? =some r->aE (uJ B kk) 4 27 B w u r)/\uI us
theorem fF.kp {kk B:Nat} {w w':World} {v:Value} {t:kL} {T:TypeId->Bool} (h:fF kk B w v t) (k:jH T w w') (h1:T 105=true) (h2:T 27=true):fF kk B w' v t:=by
 obtain⟨us,g1,g2,g3,g4⟩:=h
 exact⟨us,g1.kp db k h1,g2,λi u r hi hr=>(g3 i u r hi hr).kp (cO B kk) k h2,g4⟩
theorem fF.az {kk B:Nat} {w w':World} {v:Value} {t:kL} (h:fF kk B w v t) (hb:ax w w'):fF kk B w' v t:=h.kp (T:=λ_=>true) (aK.of hb) rfl rfl
theorem qT.up {j k:Nat} {w:World} {cs:List Value} {q:Rat} (h:qT j w cs q) (hk:j<=k):qT k w cs q:=by
 obtain⟨s,p,n,c,t,y,m,d,h1,h2,h3⟩:=h
 exact⟨_,_,_,_,_,_,_,_,h1,h2,h3.mono hk⟩
theorem aE.imp {α:Type} {E E':World->List Value->α->Prop} {sz B:Nat} {t:TypeId} {w:World} {v:Value} {es:List α} (h:aE E sz t B w v es) (hm:∀ (cs:List Value) (a:α),E w cs a->E' w cs a):aE E' sz t B w v es:=by
 rcases h with h|⟨b,c,vs,sp,g1,g2,g3,g4,g5,g6,g7,g8⟩
 ·exact .inl h
 ·exact .inr ⟨b,c,vs,sp,g1,g2,g3,g4.mono hm,g5,g6,g7,g8⟩
theorem fF.up {j k B:Nat} {w:World} {v:Value} {t:kL} (h:fF j B w v t) (hk:j<=k):fF k B w v t:=by
 obtain⟨us,g1,g2,g3,g4⟩:=h
 exact⟨us,g1,g2,λi u r hi hr=>(g3 i u r hi hr).imp (λ_ _ h=>h.up hk),g4⟩
theorem fF.mono {k B B':Nat} {w:World} {v:Value} {t:kL} (h:fF k B w v t) (hB:B'<=B):fF k B' w v t:=by
 obtain⟨us,g1,g2,g3,g4⟩:=h
 exact⟨us,g1.mono hB,g2,λi u r hi hr=>((g3 i u r hi hr).imp (λ_ _ h=>h.mono hB)).mono hB,g4⟩
theorem fF.tab {kk B:Nat} {w:World} {v:Value} {t:kL} (h:fF kk B w v t):cj (lE kk) 1 w v t:=by
 obtain⟨us,g1,g2,g3,_⟩:=h
 exact Bb (g1.sl db) g2 (λi u r hi hr=>⟨u,rfl,((g3 i u r hi hr).imp (λ_ _ h=>h.q.yN)).sl (Ng kk)⟩)
theorem fF.nil (kk B:Nat) (w:World):fF kk B w (.slice none 0 0) []:=⟨[],.inl ⟨rfl,rfl⟩,rfl,λi u r hi=>(by simp at hi),λi j u v b hi=>(by simp at hi)⟩
theorem fF.form {kk B:Nat} {w:World} {v:Value} {t:kL} (h:fF kk B w v t):∃ p c,v=.slice p t.length c:=by
 obtain⟨us,g1,g2,_⟩:=h
 rw[<-g2];exact g1.form
theorem fZ {us:List Value} {u:Value} (h:uI us) {W:Nat} (ho:∀ (i:Nat) (v:Value) (b:Nat),us[i]? =some v->xP v=some b->b<W) (hn:∀ b,xP u=some b->W<=b):uI (us++[u]):=λi j a c b hi hj ha hc=>by
 have key:∀ (i:Nat) (a:Value),(us++[u])[i]? =some a->(us[i]? =some a)\/(i=us.length/\a=u):=λi a hi=>by
  by_cases hil:i<us.length
  ·rw[List.getElem?_append_left hil] at hi;exact .inl hi
  ·rw[List.getElem?_append_right aa] at hi
   have:=(List.getElem?_eq_some_iff.1 hi).1
   rw[List.length_singleton] at this
   obtain rfl:i=us.length:=by omega
   rw[Nat.sub_self] at hi
   cases hi
   exact .inr ⟨rfl,rfl⟩
 rcases key i a hi with h1|⟨rfl,rfl⟩ <;> rcases key j c hj with h2|⟨rfl,rfl⟩
 ·exact h i j a c b h1 h2 ha hc
 ·have:=ho i a b h1 ha;have:=hn b hc;omega
 ·have:=ho j c b h2 hc;have:=hn b ha;omega
 ·rfl
theorem aE.gv {α:Type} {E:World->List Value->α->Prop} {sz B:Nat} {t:TypeId} {w:World} {v:Value} {es:List α} (h:aE E sz t B w v es) {b:Nat} (hb:xP v=some b):B<=b/\b<w.heap.size:=by
 rcases h with ⟨rfl,_⟩|⟨b',c,vs,sp,rfl,hB,hc,_⟩
 ·cases hb
 ·cases hb
  exact⟨hB,hc.lt⟩
theorem cJ.put {α:Type} {E:World->List Value->α->Prop} {w:World}:∀ {es:List α} {vs:List (List Value)} {i:Nat} {a:α} {cs:List Value},cJ E w es vs->E w cs a->cJ E w (es.set i a) (vs.set i cs)
 | _,_,i,_,_,.nil,_=>.nil
 | _,_,0,_,_,.cons _ h2,h=>.cons h h2
 | _,_,i+1,_,_,.cons h1 h2,h=>.cons h1 (cJ.put h2 h)
theorem row_put {vs:List (List Value)} {sz i:Nat} {new:List Value} {sp:List AV} (h:∀ x∈vs,x.length=sz) (hi:i<vs.length) (ho:new.length=sz):
  (vs.flatten.map AV.val++sp).take (0+((i:Nat):Int).toNat*sz)++(new.map AV.val++(vs.flatten.map AV.val++sp).drop (0+((i:Nat):Int).toNat*sz+sz))=(vs.set i new).flatten.map AV.val++sp:=by
 obtain⟨x,hx⟩:∃ x,vs[i]? =some x:=⟨_,List.getElem?_eq_getElem hi⟩
 have fc:=h x (List.mem_of_getElem? hx)
 rw[Kg h hx 0 new aa sp _ (by rw[Int.toNat_natCast];omega) sz ho.symm]
 rw[show x.take 0++(new++x.drop (0+new.length))=new by rw[List.take_zero,List.nil_append,List.drop_of_length_le aa,List.append_nil]]
theorem Gm {α:Type} {l:List α} {i:Nat} {a:α} {f:α->α} (h:l[i]? =some a):l.modify i f=l.set i (f a):=by
 apply List.ext_getElem?
 intro j
 rw[List.getElem?_modify,List.getElem?_set]
 by_cases e:i=j
 ·subst e
  rw[if_pos rfl,if_pos (List.getElem?_eq_some_iff.1 h).1,h];simp
 ·rw[if_neg e]
  cases l[j]? <;> simp[e]
theorem aL.but {ad:List Nat} {w w':World} {g:Nat} {t:TypeId} {cs:Array Value} (h:aL w g t cs) (k:eJ ad w w') (hg:g∉ad):aL w' g t cs:=(k.gv g h.lt hg).trans h
theorem cM.az {K:KC} {N:Nat} {ad:List Nat} {l:List (TypeId×List AV)} {w w':World} (h:cM K N ad l w) (hb:ax w w'):cM K N ad l w':=⟨h.len,h.nodup,λj g c hj hc=>(h.cls j g c hj hc).az hb,h.ok,h.ids⟩
theorem at_one {C:Cx} {b o:Nat} {u:Value} (h:C.At ⟨b,o,none⟩ u):∀ j x,[u][j]? =some x->C.At ((⟨b,o,none⟩:Addr).add j) x:=λj x hj=>by
 match j,hj with
 | 0,hj=>cases hj;exact h
theorem aE.but {α:Type} {E:World->List Value->α->Prop} {sz B:Nat} {t:TypeId} {ad:List Nat} {w w':World} {v:Value} {es:List α} (hE:fD E sz) (h:aE E sz t B w v es) (k:eJ ad w w') (kw:Kp UU w w') (hn:∀ b,xP v=some b->b∉ad):aE E sz t B w' v es:=by
 rcases h with h|⟨b,c,vs,sp,rfl,g2,g3,g4,g5,g6,g7,g8⟩
 ·exact .inl h
 ·exact .inr ⟨b,c,vs,sp,rfl,g2,g3.but k (hn b rfl),g4.kp hE kw,g5,g6,g7,g8⟩
theorem Er {vs:List Value} {P:Value->Prop} {u:Value} (h:∀ (i:Nat) (v:Value),vs[i]? =some v->P v) (hu:P u):∀ (i:Nat) (v:Value),(vs++[u])[i]? =some v->P v:=λi v hi=>by
 rcases List.mem_append.1 (List.mem_of_getElem? hi) with h1|h1
 ·obtain⟨j,hj⟩:=List.getElem?_of_mem h1
  exact h j v hj
 ·rw[List.mem_singleton.1 h1];exact hu
abbrev zQ:KC:=⟨UU,λ_=>True,λt=>Nat.beq t 27⟩
abbrev Nu (P:Program) (w:World) (N:Nat) (ad:List Nat) (hd:ad.Nodup) (ha:iH zQ ad w):Cx:=yD P w N zQ (λt=>Nat.beq t 23) table (λ_ _=>trivial) ad hd ha
theorem sq (w:World) (N:Nat) {ad:List Nat} {hd:ad.Nodup} {ha:iH zQ ad w}:(Nu Tryz.prog w N ad hd ha).Ok:=eD
section
variable {F F':Fr} {H H':Hp} {w w1:World} {N:Nat} {l':List Oper} {Q:Exit->Act->World->Prop} {k:List It} {id:Nat} {ops:Array Oper}
theorem cxT4_r {ad:List Nat} {hd:ad.Nodup} {ha:iH zQ ad w1} (e:im (Nu Tryz.prog w1 N ad hd ha) ops 80 ops.toList F H=(l',F',H')) (h:aB (Nu Tryz.prog w1 N ad hd ha) none ops l' (VS (Nu Tryz.prog w1 N ad hd ha) Q k) F' H' w):VS (Nu Tryz.prog w1 N ad hd ha) Q (.code (.region id ops false)::k) F H w:=VS.region (sq _ _) (VO.run 80 e h)
end
abbrev di:KC:=⟨UU,λ_=>True,λt=>false⟩
abbrev gV (P:Program) (w:World) (N:Nat) (ad:List Nat) (hd:ad.Nodup) (ha:iH di ad w):Cx:=yD P w N di (λt=>Nat.beq t 23) table (λ_ _=>trivial) ad hd ha
theorem bA (w:World) (N:Nat) {ad:List Nat} {hd:ad.Nodup} {ha:iH di ad w}:(gV Tryz.prog w N ad hd ha).Ok:=eD
theorem Gn (w:World) (N:Nat) {ad:List Nat} {hd:ad.Nodup} {ha:iH di ad w}:(gV Tryz.prog w N ad hd ha).P.follows .mixedOrders=true:=by show Tryz.prog.follows .mixedOrders=true;kernel_rfl
section
variable {F F':Fr} {H H':Hp} {w w1:World} {N:Nat} {l':List Oper} {Q:Exit->Act->World->Prop} {k:List It} {id:Nat} {ops:Array Oper}
theorem Nv {ad:List Nat} {hd:ad.Nodup} {ha:iH di ad w1} (e:im (gV Tryz.prog w1 N ad hd ha) ops 80 ops.toList F H=(l',F',H')) (h:aB (gV Tryz.prog w1 N ad hd ha) none ops l' (VS (gV Tryz.prog w1 N ad hd ha) Q k) F' H' w):VS (gV Tryz.prog w1 N ad hd ha) Q (.code (.region id ops false)::k) F H w:=VS.region (bA _ _) (VO.run 80 e h)
theorem cxZ0_d {ad:List Nat} {hd:ad.Nodup} {ha:iH di ad w1} (e:im (gV Tryz.prog w1 N ad hd ha) ops 80 ops.toList F H=(l',F',H')) (h:aB (gV Tryz.prog w1 N ad hd ha) (some []) ops l' (VS (gV Tryz.prog w1 N ad hd ha) Q k) F' H' w) (iY:jO (gV Tryz.prog w1 N ad hd ha).SU [] ops=true:=by kernel_rfl):VS (gV Tryz.prog w1 N ad hd ha) Q (.code (.region id ops true)::k) F H w:=VS.draw (bA _ _) (Gn _ _) [] iY (VO.run 80 e h)
end
theorem Es (n:Int):nQ 0 [n]=((n.toNat:Nat):Int):=by
 unfold nQ nQ
 split <;> omega
theorem oV {P Q:Prop} (h:Q) (i:Q->P:=by intro h;(repeat first|refine wN ?_|refine wP rfl ?_|refine cxT4_r rfl ?_|refine cxT4_d rfl ?_|refine wO rfl rfl ?_);exact h):P:=i h
theorem ag {P Q:Prop} (h:Q) (i:Q->P:=by intro h;(repeat first|refine wN ?_|refine wP rfl ?_|refine Nv rfl ?_|refine cxZ0_d rfl ?_|refine wO rfl rfl ?_);exact h):P:=i h
set_option maxRecDepth 4000 in
theorem Gp (n k:Int) (w:World) (hn:n<=100000) (hk:k<=100000):
  Calls Tryz.prog 34 #[.int .i64 n,.int .i64 k] w λo w'=>∃ r,o=.returned (.agg #[r])/\fF 1 w.heap.size w' r (ft n.toNat k.toNat)/\ax w w':=by
 obtain⟨N,hN⟩:∃ N,N=n.toNat:=⟨_,rfl⟩
 obtain⟨K,hK⟩:∃ K,K=k.toNat:=⟨_,rfl⟩
 have hmN:nQ 0 [n]=(N:Int):=by rw[Es,hN]
 have hmK:nQ 0 [k]=(K:Int):=by rw[Es,hK]
 rw[<-hN,<-hK]
 have hNb:N<=100000:=by omega
 have hKb:K<=100000:=by omega
 refine ai (C:=bj Tryz.prog w _) (args:=[_,_]) Tryz.func34 rfl Tryz.ntmps34 (cr rfl) ?_
 refine ae ?_
 refine VS.fY (J:=λm L W=>∃ (e g4 g:Nat) (rv:Value) (us:List Value),e<=N/\m=N-e/\L=[(0,.int .i64 n),(1,.int .i64 k),(4,.pointer (some ⟨g4,0,none⟩)),(5,.pointer (some ⟨g,0,none⟩)),(8,.int .i64 (N:Int)),(9,.int .i64 (e:Int))]/\ax w W/\w.heap.size<=g4/\w.heap.size<=g/\g4≠g/\aL W g4 52 #[.slice none 0 0]/\aL W g 52 #[rv]/\aE VE 1 105 w.heap.size W rv us/\us.length=e/\(∀ (i:Nat) (u:Value),us[i]? =some u->aE (uJ w.heap.size 1) 4 27 w.heap.size W u (List.replicate K 0))/\uI us)
  (λW=>bj Tryz.prog W 28) (λ_=>rfl) (λ_=>rfl) (λ_=>ax.refl _) N (λw' β k' o en=>⟨[(0,.int .i64 n),(1,.int .i64 k),(4,.pointer (some ⟨β 4,0,none⟩)),(5,.pointer (some ⟨β 5,0,none⟩)),(8,.int .i64 (N:Int)),(9,.int .i64 ((0:Nat):Int))],⟨⟨_,_,rfl,rfl,rfl⟩,⟨_,_,rfl,rfl,rfl⟩,⟨_,_,rfl,rfl,rfl⟩,⟨_,_,rfl,rfl,rfl⟩,⟨_,_,rfl,congrArg (λz=>Value.int .i64 z) hmN,rfl⟩,⟨_,_,rfl,rfl,rfl⟩,trivial⟩,0,β 4,β 5,.slice none 0 0,[],by omega,rfl,rfl,o,(en.own 4 _ _ rfl).new,(en.own 5 _ _ rfl).new,(λh=>absurd (en.apart 4 5 (by intro h;cases h) (by intro h;cases h) h) cH),(en.own 4 _ _ rfl).cls,(en.own 5 _ _ rfl).cls,.inl ⟨rfl,rfl⟩,rfl,λi u hi=>(by simp at hi),λi j u v b hi=>(by simp at hi)⟩) ?_
 rintro m L W ⟨e,g4,g,rv,us,he,rfl,rfl,lQ,nu,Nw,kM,lS,zR,Gq,ze,sw,Nx⟩
 refine ae ?_
 by_cases heN:e<N
 ·refine VS.aU rfl (decide_eq_true (Int.ofNat_lt.2 heN)) ?_
  refine ae ?_
  refine VS.fix 12 rfl (congrArg (λz=>AV.val (.int .i64 z)) hmK) ?_
  refine VS.loop (J:=λm L M w'=>∃ (z:Nat) (X:AV) (Mi:List (Nat×(TypeId×List AV))),z<=K/\m=K-z/\L=[(0,.val (.int .i64 n)),(1,.val (.int .i64 k)),(4,.val (.pointer (some ⟨g4,0,none⟩))),(5,.val (.pointer (some ⟨g,0,none⟩))),(6,X),(8,.val (.int .i64 (N:Int))),(9,.val (.int .i64 (e:Int))),(12,.val (.int .i64 (K:Int))),(13,.val (.int .i64 (z:Int)))]/\M=Mi/\dD (uJ w.heap.size 1) 4 27 18 X Mi w' (List.replicate z 0)) K ⟨_,_,?_,?_,?_,?_,⟨0,_,[],by omega,rfl,rfl,rfl,.inl ⟨rfl,rfl,rfl⟩⟩⟩ ?_
  ·exact du
  ·exact du
  ·rfl
  ·exact iq
  rintro m L Mi wI ⟨z,X,Nz,hz,rfl,rfl,rfl,hI⟩
  refine VS.now (λwX kN bN=> ?_)
  replace hI:=hI.kp (cO w.heap.size 1) (aK.dN kN)
  refine VS.mask [17] (by rcases hI with ⟨_,rfl,rfl⟩|⟨_,_,_,_,rfl,rfl,_⟩ <;> (repeat first|exact trivial|refine⟨rfl,?_⟩)) ?_
  refine ae ?_
  by_cases hzK:z<K
  ·refine VS.aU rfl (decide_eq_true (Int.ofNat_lt.2 hzK)) ?_
   refine ae ?_
   refine VO.cR rfl rfl (fk Tryz.func37) (λbL dw bX=>nk 0 bL aa aa) (λbL dw bX w1 s1 p1 n1 c1 t1 y1 m1 d1 q1 bl eM _ bb1=>wV rfl ?_)
   refine ae ?_
   have dE:uJ w.heap.size 1 w1 [.bool s1,.slice p1 n1 c1,.bool t1,.slice y1 m1 d1] 0:=.mk ((q1.cast (show ((0:Int):Rat)=0 from rfl)).mono (lQ.aH bX).size) lM.zero
   rcases hI with ⟨dc,rfl,rfl⟩|⟨n',c',vs,sp,rfl,rfl,mw⟩
   ·refine VO.iM (cV _ _) (cO w.heap.size 1) (t:=105) (e:=27) (s:=17) (a:=0) (cs:=[.bool s1,.slice p1 n1 c1,.bool t1,.slice y1 m1 d1]) rfl rfl rfl rfl rfl rfl rfl rfl (cr rfl) rfl rfl rfl dE aa (λw9 cap sp k9 b9 dR=>wV rfl ?_)
    refine ae ?_
    refine VS.back (K-(z+1)) aa ⟨_,_,?_,?_,?_,?_,⟨z+1,_,_,by omega,rfl,rfl,rfl,.inr ⟨1,cap,_,sp,rfl,rfl,by rw[List.replicate_succ',dc];exact dR⟩⟩⟩
    ·(refine⟨rfl,rfl,rfl,rfl,rfl,rfl,rfl,rfl,?_,trivial⟩;rw[<-ay (i:=z) aa];rfl)
    ·(repeat first|exact trivial|refine⟨rfl,?_⟩|refine⟨congrArg (λl=>some (_,l)) (bU (by first|exact bO.dm (by assumption)|exact af _|(rw[<-List.map_append];exact af _)) _ _),?_⟩)
    ·rfl
    ·(repeat first|exact trivial|refine⟨aw.lit rfl,?_⟩|refine⟨bO.oO (by assumption),?_⟩|refine⟨aw.append (.vals _) (.vals _),?_⟩|refine⟨aw.vals _,?_⟩)
   ·have nW:=mw.len
    refine VO.iP (cV _ _) (cO w.heap.size 1) (t:=105) (e:=27) (s:=17) (i:=18) (n:=n') (c:=c') (vs:=vs) (sp:=sp) (es:=List.replicate z 0) (a:=0) (cs:=[.bool s1,.slice p1 n1 c1,.bool t1,.slice y1 m1 d1]) rfl rfl rfl rfl rfl rfl rfl rfl (cr rfl) rfl (.inr rfl) rfl (mw.kp (cO w.heap.size 1) dz) rfl dE (by rw[List.length_replicate] at nW;omega) (λw9 ir fx ρ k9 b9 dY dR=>wV rfl ?_)
    refine ae ?_
    refine VS.back (K-(z+1)) aa ⟨_,_,?_,?_,?_,?_,⟨z+1,_,_,by omega,rfl,rfl,rfl,.inr ⟨n' +1,ir,_,fx,rfl,rfl,by rw[List.replicate_succ'];exact dR⟩⟩⟩
    ·(refine⟨rfl,rfl,rfl,rfl,rfl,rfl,rfl,rfl,?_,trivial⟩;rw[<-ay (i:=z) aa];rfl)
    ·(repeat first|exact trivial|refine⟨rfl,?_⟩|refine⟨congrArg (λl=>some (_,l)) (bU (by first|exact bO.dm (by assumption)|exact af _|(rw[<-List.map_append];exact af _)) _ _),?_⟩)
    ·rfl
    ·(repeat first|exact trivial|refine⟨aw.lit rfl,?_⟩|refine⟨bO.oO (by assumption),?_⟩|refine⟨aw.append (.vals _) (.vals _),?_⟩|refine⟨aw.vals _,?_⟩)
  refine VS.aN rfl (decide_eq_false (λe=>hzK (Int.ofNat_lt.1 e))) ?_
  obtain rfl:K=z:=by omega
  subst ze
  refine VS.bI zQ (λt=>Nat.beq t 23) table (λ_ _ _=>trivial) (λbm jk k1 fG jZ=> ?_)
  have ar:ax W bm:=fG
  have aQ:=hI.told (cO w.heap.size 1) jZ (by intro q hq;rcases hI with ⟨_,rfl,rfl⟩|⟨_,_,_,_,rfl,rfl,_⟩ <;> first|(cases hq;done)|(cases List.mem_singleton.1 hq;rfl)) k1.dN W.heap.size (λh=>h)
  have nw:=zR.az ar
  have iu:=lQ.size
  have fL:=ar.size
  rcases Gq with ⟨rfl,rfl⟩|⟨b0,cB,Bd,Be,rfl,hBg,my,xQ,xR,Gr,Gs,Gt⟩
  ·have cZ:cM zQ 28 [g] [(52,[.val (.slice none 0 0)])] bm:=by
    refine⟨rfl,by simp,λj g' c' hj hc=> ?_,λc' hc=> ?_,λc' hc k hk=> ?_⟩
    ·match j,hj,hc with
     | 0,hj,hc=>cases hj;cases hc;exact nw
     | j+1,hj,_=>simp at hj
    ·cases List.mem_singleton.1 hc
     exact⟨rfl,rfl⟩
    ·cases List.mem_singleton.1 hc
     cases hk
   refine⟨[g],[(52,[.val (.slice none 0 0)])],cZ,[(0,.val (.int .i64 n)),(1,.val (.int .i64 k)),(4,.val (.pointer (some ⟨g4,0,none⟩))),(5,.box 56 0),(8,.val (.int .i64 (N:Int))),(9,.val (.int .i64 (([]:List Value).length:Int))),(6,.val (X.aM jk))],⟨⟨_,rfl,rfl,λi hi=>(by cases hi)⟩,⟨_,rfl,rfl,λi hi=>(by cases hi)⟩,⟨_,rfl,rfl,λi hi=>(by cases hi)⟩,⟨_,rfl,rfl,λi hi=>by rw[(by simpa [AV.ids] using hi:i=56)];exact⟨(by show 56<=56;omega),(by show 56<2*28+1;omega)⟩⟩,⟨_,rfl,rfl,λi hi=>(by cases hi)⟩,⟨_,rfl,rfl,λi hi=>(by cases hi)⟩,⟨_,rfl,rfl,λi hi=>(by cases hi)⟩,trivial⟩,?_⟩
   generalize X.aM jk=vv at aQ ⊢
   obtain⟨nx,ny,rfl⟩:=aQ.form
   refine oV ?_
   refine VO.iM (sq _ _) db (t:=50) (e:=105) (s:=23) (a:=.slice nx (List.replicate K (0:Rat)).length ny) (cs:=[.slice nx (List.replicate K (0:Rat)).length ny]) rfl rfl rfl rfl rfl rfl rfl rfl (cr rfl) rfl rfl rfl ⟨rfl,_,_,_,rfl⟩ aa (λgm cap sp vK vL dR=>wV rfl ?_)
   refine oV ?_
   refine VS.fq rfl (N-(([]:List Value).length+1)) aa (λw' bn k' o' jx=> ?_)
   have rh:aK zQ bm w':=(show aK zQ bm gm from dz).aH k'
   have kc:ax w w':=eJ.az (lQ.aH ar) o'.1 (λx hx=>by rw[List.mem_singleton.1 hx];omega)
   have hst:dD VE 1 105 24 (.row 24 0 1 cap) [(24,(105,_))] gm ([.slice nx (List.replicate K (0:Rat)).length ny]):=.inr ⟨_,cap,_,sp,rfl,rfl,dR⟩
   have eI:=hst.told db jx (λx hx=>by cases List.mem_singleton.1 hx;rfl) k'.dN w.heap.size (λh=>(ba (show ez 28 [g] bm 24 (bn 24) from h)).elim (λq=>Nat.le_trans iu (Nat.le_trans fL q)) (λq=>by rw[List.mem_singleton.1 q];omega))
   have sP:=jx.own 56 _ _ rfl
   have jm:bn 56=g:=(lP sP 0 g rfl rfl).1
   refine⟨[(0,.int .i64 n),(1,.int .i64 k),(4,.pointer (some ⟨g4,0,none⟩)),(5,.pointer (some ⟨bn 56,0,none⟩)),(8,.int .i64 (N:Int)),(9,.int .i64 ((([]:List Value).length+1:Nat):Int))],⟨⟨_,_,rfl,rfl,rfl⟩,⟨_,_,rfl,rfl,rfl⟩,⟨_,_,rfl,rfl,rfl⟩,⟨_,_,rfl,rfl,rfl⟩,⟨_,_,rfl,rfl,rfl⟩,⟨_,_,rfl,congrArg (λz=>Value.int .i64 z) (ay (i:=([]:List Value).length) aa),rfl⟩,trivial⟩,([]:List Value).length+1,g4,bn 56,.slice (some ⟨bn 24,0,none⟩) 1 cap,[Value.slice nx (List.replicate K (0:Rat)).length ny],by omega,rfl,rfl,kc,nu,by rw[jm];exact Nw,by rw[jm];exact kM,(lS.az ar).but o'.1 (by simp[kM]),sP.cls,eI,by simp,?_,?_⟩
   ·exact Er (vs:=([]:List Value)) (P:=λu=>aE (uJ w.heap.size 1) 4 27 w.heap.size w' u (List.replicate K 0)) (λi u hi=>((sw i u hi).az (cO w.heap.size 1) ar).kp (cO w.heap.size 1) rh rfl) ((aQ.kp (cO w.heap.size 1) rh rfl).mono iu)
   ·exact fZ (us:=([]:List Value)) (λi j u v b hi=>(by simp at hi)) (λi v b hi hb=>((sw i v hi).gv hb).2) (λb hb=>(aQ.gv hb).1)
  ·have xS:=my.az ar
   have hgb:g≠b0:=λh=>by rw[h] at nw;exact absurd (bt nw xS) cH
   have Gu:g4≠b0:=λh=>by rw[h] at lS;exact absurd (bt lS my) cH
   have cZ:cM zQ 28 [g,b0] [(52,[.row 57 0 us.length cB]),(105,Bd.flatten.map .val++Be.map .val)] bm:=by
    refine⟨rfl,by simp[hgb],λj g' c' hj hc=> ?_,λc' hc=> ?_,λc' hc k hk=> ?_⟩
    ·match j,hj,hc with
     | 0,hj,hc=>cases hj;cases hc;exact nw
     | 1,hj,hc=>cases hj;cases hc;rw[<-List.map_append,aP];exact xS
     | j+2,hj,_=>simp at hj
    ·rcases List.mem_cons.1 hc with rfl|hc
     ·exact⟨rfl,rfl⟩
     ·cases List.mem_singleton.1 hc
      exact⟨rfl,by rw[<-List.map_append];exact bc (by rw[List.all_append,(xQ.ok db).1,xR];rfl)⟩
    ·rcases List.mem_cons.1 hc with rfl|hc
     ·have:k=57:=by simpa [aW,AV.dm] using hk
      subst this;exact⟨by omega,by show 57<2*28+2;omega⟩
     ·cases List.mem_singleton.1 hc
      rw[<-List.map_append,af] at hk;cases hk
   have qj:bO VE 1 bm us.length cB Bd (Be.map .val) us:=⟨rfl,xQ.kp db (Kp.of (U:=UU) ar),bc xR,af _,Gr,Gs,by rw[<-List.map_append,List.length_map];exact Gt⟩
   refine⟨[g,b0],[(52,[.row 57 0 us.length cB]),(105,Bd.flatten.map .val++Be.map .val)],cZ,[(0,.val (.int .i64 n)),(1,.val (.int .i64 k)),(4,.val (.pointer (some ⟨g4,0,none⟩))),(5,.box 56 0),(8,.val (.int .i64 (N:Int))),(9,.val (.int .i64 (us.length:Int))),(6,.val (X.aM jk))],⟨⟨_,rfl,rfl,λi hi=>(by cases hi)⟩,⟨_,rfl,rfl,λi hi=>(by cases hi)⟩,⟨_,rfl,rfl,λi hi=>(by cases hi)⟩,⟨_,rfl,rfl,λi hi=>by rw[(by simpa [AV.ids] using hi:i=56)];exact⟨(by show 56<=56;omega),(by show 56<2*28+2;omega)⟩⟩,⟨_,rfl,rfl,λi hi=>(by cases hi)⟩,⟨_,rfl,rfl,λi hi=>(by cases hi)⟩,⟨_,rfl,rfl,λi hi=>(by cases hi)⟩,trivial⟩,?_⟩
   generalize X.aM jk=vv at aQ ⊢
   obtain⟨nx,ny,rfl⟩:=aQ.form
   refine oV ?_
   refine VO.iP (sq _ _) db (t:=50) (e:=105) (s:=23) (i:=57) (n:=us.length) (c:=cB) (vs:=Bd) (sp:=Be.map .val) (es:=us) (a:=.slice nx (List.replicate K (0:Rat)).length ny) (cs:=[.slice nx (List.replicate K (0:Rat)).length ny]) rfl rfl rfl rfl rfl rfl rfl rfl (cr rfl) rfl (.inl rfl) rfl (qj.kp db (aK.dN (show aK zQ bm _ from dz))) rfl ⟨rfl,_,_,_,rfl⟩ aa (λgm cap sp ρ vK vL dY dR=>wV rfl ?_)
   refine oV ?_
   refine VS.fq rfl (N-(us.length+1)) aa (λw' bn k' o' jx=> ?_)
   have rh:aK zQ bm w':=(show aK zQ bm gm from dz).aH k'
   have kc:ax w w':=eJ.az (lQ.aH ar) o'.1 (λx hx=>by
    rcases List.mem_cons.1 hx with rfl|hx
    ·omega
    ·rw[List.mem_singleton.1 hx];omega)
   have hst:dD VE 1 105 24 (.row 24 0 (us.length+1) cap) [(24,(105,_))] gm (us++[.slice nx (List.replicate K (0:Rat)).length ny]):=.inr ⟨_,cap,_,sp,rfl,rfl,dR⟩
   have eI:=hst.told db jx (λx hx=>by cases List.mem_singleton.1 hx;rfl) k'.dN w.heap.size (λh=>(ba (show ez 28 [g,b0] bm 24 (bn 24) from h)).elim (λq=>Nat.le_trans iu (Nat.le_trans fL q)) (λq=>by
    rcases List.mem_cons.1 q with h|h
    ·rw[h];omega
    ·rw[List.mem_singleton.1 h];omega))
   have sP:=jx.own 56 _ _ rfl
   have jm:bn 56=g:=(lP sP 0 g rfl rfl).1
   refine⟨[(0,.int .i64 n),(1,.int .i64 k),(4,.pointer (some ⟨g4,0,none⟩)),(5,.pointer (some ⟨bn 56,0,none⟩)),(8,.int .i64 (N:Int)),(9,.int .i64 ((us.length+1:Nat):Int))],⟨⟨_,_,rfl,rfl,rfl⟩,⟨_,_,rfl,rfl,rfl⟩,⟨_,_,rfl,rfl,rfl⟩,⟨_,_,rfl,rfl,rfl⟩,⟨_,_,rfl,rfl,rfl⟩,⟨_,_,rfl,congrArg (λz=>Value.int .i64 z) (ay (i:=us.length) aa),rfl⟩,trivial⟩,us.length+1,g4,bn 56,.slice (some ⟨bn 24,0,none⟩) (us.length+1) cap,us++[Value.slice nx (List.replicate K (0:Rat)).length ny],by omega,rfl,rfl,kc,nu,by rw[jm];exact Nw,by rw[jm];exact kM,(lS.az ar).but o'.1 (by simp[kM,Gu]),sP.cls,eI,by simp,?_,?_⟩
   ·exact Er (vs:=us) (P:=λu=>aE (uJ w.heap.size 1) 4 27 w.heap.size w' u (List.replicate K 0)) (λi u hi=>((sw i u hi).az (cO w.heap.size 1) ar).kp (cO w.heap.size 1) rh rfl) ((aQ.kp (cO w.heap.size 1) rh rfl).mono iu)
   ·exact fZ (us:=us) Nx (λi v b hi hb=>((sw i v hi).gv hb).2) (λb hb=>(aQ.gv hb).1)
 refine VS.aN rfl (decide_eq_false (λh=>heN (Int.ofNat_lt.1 h))) ?_
 obtain rfl:e=N:=by omega
 (repeat (first|refine wN ?_|refine wP rfl ?_|refine wO rfl rfl ?_))
 refine VS.bI di (λt=>Nat.beq t 23) table (λ_ _ _=>trivial) (λbm jk k1 fG jZ=> ?_)
 have ar:ax W bm:=fG
 have cZ:cM di 28 [g4] [(52,[.val (.slice none 0 0)])] bm:=by
  refine⟨rfl,by simp,λj g' c' hj hc=> ?_,λc' hc=> ?_,λc' hc k hk=> ?_⟩
  ·match j,hj,hc with
   | 0,hj,hc=>cases hj;cases hc;exact lS.az ar
   | j+1,hj,_=>simp at hj
  ·cases List.mem_singleton.1 hc
   exact⟨rfl,rfl⟩
  ·cases List.mem_singleton.1 hc
   cases hk
 refine⟨[g4],[(52,[.val (.slice none 0 0)])],cZ,[(4,.box 56 0),(5,.val (.pointer (some ⟨g,0,none⟩)))],⟨⟨_,rfl,rfl,λi hi=>by rw[(by simpa [AV.ids] using hi:i=56)];exact⟨(by show 56<=56;omega),(by show 56<2*28+1;omega)⟩⟩,⟨_,rfl,rfl,λi hi=>(by cases hi)⟩,trivial⟩,?_⟩
 refine ag ?_
 obtain⟨pv,cv,rfl⟩:=Gq.form
 refine VO.aO rfl [.slice pv us.length cv] rfl (at_one (aY (λh=>kM h.symm) ((zR.az ar).cell (j:=0) rfl))) (wV rfl ?_)
 refine ag ?_
 refine VS.qh (bA _ _) rfl (λwz β kz bz en=> ?_)
 have kc:ax w wz:=eJ.az (lQ.aH ar) bz.1 (λx hx=>by rw[List.mem_singleton.1 hx];exact nu)
 have hT:fF 1 w.heap.size W (.slice pv us.length cv) (ft e K):=⟨us,Gq,by unfold ft;rw[List.length_replicate,ze],λi u r hi hr=>by
  unfold ft at hr
  rw[(List.mem_replicate.1 (List.mem_of_getElem? hr)).2];exact sw i u hi,Nx⟩
 exact⟨_,rfl,hT.kp (T:=λt=> !Nat.beq t 52) ((aK.of ar).aH (eJ.kp bz.1 (λx hx=>⟨52,[.slice none 0 0],by rw[List.mem_singleton.1 hx];exact lS.az ar,rfl,rfl⟩))) rfl rfl,kc⟩
abbrev TX:TypeId->Bool:=λt=> !(Nat.beq t 105 || Nat.beq t 27)
theorem ves {w:World}:∀ {us:List Value} {vs:List (List Value)},cJ VE w us vs->vs=us.map λu=>[u]
 | [],_,.nil=>rfl
 | u::r,_,.cons h t=>by rw[h.1,ves t];rfl
theorem oW:∀ (us:List Value),(us.map λu=>[u]).flatten=us
 | []=>rfl
 | u::r=>by rw[List.map_cons,List.flatten_cons,oW r];rfl
set_option maxRecDepth 4000 in
theorem Km (v u:Value) (t:kL) (xs:List Rat) (y x:Rat) (e c B kk k:Nat) (w:World) (hv:fF kk B w v t) (hu:df w u x k) (hx:t[e]? =some xs) (hy:xs[c]? =some y) (rh:kk<=1000000) (hk:k<=1000000) (hs:lM (y+x) kk):
  Calls Tryz.prog 64 #[.agg #[v],.agg #[.int .i64 (e:Int),.int .i64 (c:Int)],u] w λo w'=>o=.returned (.tuple #[])/\fF kk B w' v (qU t e c x)/\jH TX w w'/\(∀ W,ax W w->W.heap.size<=B->ax W w')/\Cb w w':=by
 obtain⟨us,g1,g2,g3,g4⟩:=hv
 have dE:e<us.length:=by rw[g2];exact (List.getElem?_eq_some_iff.1 hx).1
 obtain⟨ue,hue⟩:∃ z,us[e]? =some z:=⟨_,List.getElem?_eq_getElem dE⟩
 have da:c<xs.length:=(List.getElem?_eq_some_iff.1 hy).1
 rcases g1 with ⟨rfl,rfl⟩|⟨g,cg,vg,sg,rfl,hBg,zR,hge,hgo,Bu,hgm,hgf⟩
 ·exact absurd dE (Nat.not_lt_zero _)
 rcases g3 e ue xs hue hx with ⟨rfl,rfl⟩|⟨b,cb,vb,sb,rfl,hBb,Bx,JQ,hbo,hbl,hbm,hbf⟩
 ·exact absurd da (Nat.not_lt_zero _)
 obtain rfl:=ves hge
 rw[oW] at zR hgf
 obtain⟨s0,p0,n0,c0,t0,y0,m0,d0,rfl⟩:=hu.form
 have hgb:g≠b:=λh=>by rw[h] at zR;exact absurd (bt zR Bx) cH
 have hsetl:((us.map AV.val).set e (AV.row 55 0 xs.length cb)++sg.map AV.val).map (AV.leaf (adB 27 [g,b]))=us++sg:=by
  rw[List.map_append,aP,List.map_set,aP]
  congr 1
  apply List.ext_getElem?
  intro j
  rw[List.getElem?_set]
  by_cases h:e=j
  ·subst h;rw[if_pos rfl,if_pos dE,hue];rfl
  ·rw[if_neg h]
 have hok1:(us++sg).all bf=true:=by
  rw[List.all_append,hgo,Bool.and_true]
  have:=(hge.ok db).1
  rwa [oW] at this
 have cZ:cM di 27 [g,b] [(105,(us.map AV.val).set e (.row 55 0 xs.length cb)++sg.map .val),(27,vb.flatten.map .val++sb.map .val)] w:=by
  refine⟨rfl,by simp[hgb],λj g' c' hj hc=> ?_,λc' hc=> ?_,λc' hc k hk=> ?_⟩
  ·match j,hj,hc with
   | 0,hj,hc=>cases hj;cases hc;rw[hsetl];exact zR
   | 1,hj,hc=>cases hj;cases hc;rw[<-List.map_append,aP];exact Bx
   | j+2,hj,_=>simp at hj
  ·rcases List.mem_cons.1 hc with rfl|hc
   ·refine⟨rfl,List.all_eq_true.2 λq hq=> ?_⟩
    rcases List.mem_append.1 hq with h1|h1
    ·rcases List.mem_or_eq_of_mem_set h1 with h2|rfl
     ·obtain⟨z,hz,rfl⟩:=List.mem_map.1 h2
      exact List.all_eq_true.1 hok1 z (List.mem_append_left _ hz)
     ·rfl
    ·obtain⟨z,hz,rfl⟩:=List.mem_map.1 h1
     exact List.all_eq_true.1 hok1 z (List.mem_append_right _ hz)
   ·cases List.mem_singleton.1 hc
    exact⟨rfl,by rw[<-List.map_append];exact bc (by rw[List.all_append,(JQ.ok (cO B kk)).1,hbo];rfl)⟩
  ·rcases List.mem_cons.1 hc with rfl|hc
   ·have:k=55:=by
     obtain⟨q,hq,hk'⟩:=bH.1 hk
     rcases List.mem_append.1 hq with h1|h1
     ·rcases List.mem_or_eq_of_mem_set h1 with h2|rfl
      ·obtain⟨z,hz,rfl⟩:=List.mem_map.1 h2
       cases hk'
      ·simpa [AV.dm] using hk'
     ·obtain⟨z,hz,rfl⟩:=List.mem_map.1 h1
      cases hk'
    subst this;exact⟨by omega,by show 55<2*27+2;omega⟩
   ·cases List.mem_singleton.1 hc
    rw[<-List.map_append,af] at hk;cases hk
 refine ai (C:=bj Tryz.prog w _) (args:=[_,_,_]) Tryz.func64 rfl Tryz.ntmps64 (cr rfl) ?_
 refine VS.bI di (λt=>Nat.beq t 23) table (λ_ _ _=>trivial) (λbm jk k1 fG jZ=> ?_)
 have ar:ax w bm:=fG
 have hsl1:=cZ.az ar
 refine⟨[g,b],_,hsl1,[(0,.agg [.row 54 0 us.length cg]),(1,.val (.agg #[.int .i64 (e:Int),.int .i64 (c:Int)])),(2,.val (.agg #[.bool s0,.slice p0 n0 c0,.bool t0,.slice y0 m0 d0]))],⟨⟨_,rfl,rfl,λi hi=>by rw[(by simpa [AV.ids,aW,AV.dm] using hi:i=54)];exact⟨(by show 54<=54;omega),(by show 54<2*27+2;omega)⟩⟩,⟨_,rfl,rfl,λi hi=>(by cases hi)⟩,⟨_,rfl,rfl,λi hi=>(by cases hi)⟩,trivial⟩,?_⟩
 refine ag ?_
 refine VO.cond rfl cW ?_
 refine wV rfl ?_
 refine ag ?_
 have hpk:∀ (j:Nat) (q:AV),[AV.row 55 0 xs.length cb][j]? =some q->((us.map AV.val).set e (.row 55 0 xs.length cb)++sg.map .val)[0+((e:Nat):Int).toNat*1+j]? =some q:=λj q hj=>by
  match j,hj with
  | 0,hj=>
    cases hj
    rw[Int.toNat_natCast,Nat.mul_one,Nat.zero_add,Nat.add_zero,List.getElem?_append_left (by rw[List.length_set,List.length_map];exact dE),List.getElem?_set,if_pos rfl,if_pos (by rw[List.length_map];exact dE)]
 refine VO.il rfl [.row 55 0 xs.length cb] rfl hpk (wV rfl ?_)
 refine ag ?_
 refine VO.cond rfl cW ?_
 refine wV rfl ?_
 refine ag ?_
 refine VO.il rfl [.row 55 0 xs.length cb] rfl hpk (wV rfl ?_)
 refine ag ?_
 refine VO.cond rfl cW ?_
 refine wV rfl ?_
 refine ag ?_
 obtain⟨cy,qA,hEy⟩:=JQ.at c y hy
 obtain⟨s9,p9,n9,c9,t9,y9,m9,d9,rfl,hr9,hz9⟩:=hEy
 refine VO.il rfl [.val (.bool s9),.val (.slice p9 n9 c9),.val (.bool t9),.val (.slice y9 m9 d9)] rfl (Gf (JQ.lens (cO B kk)) _ qA 0 [.bool s9,.slice p9 n9 c9,.bool t9,.slice y9 m9 d9] ⟨[],rfl⟩ _ (by rw[Int.toNat_natCast];omega)) (wV rfl ?_)
 refine ag ?_
 refine VO.cR rfl rfl (fk Tryz.func38) (λbL dw bX=>Gb _ _ y x kk k bL ((hr9.rd.to hz9).kp (T:=λ_=>false) dz) (hu.kp (T:=λ_=>false) dz) aa aa) (λbL dw bX w1 s1 p1 n1 c1 t1 y1 m1 d1 q1 bl eM _ bb1=>wV rfl ?_)
 refine ag ?_
 refine VO.cond rfl cW ?_
 refine wV rfl ?_
 refine ag ?_
 refine VO.cond rfl ?_ (wV rfl ?_)
 ·rw[List.length_append,List.length_map,List.length_map,<-List.length_append,hbf,Int.toNat_natCast]
  have:(c+1)*4<=cb*4:=Nat.mul_le_mul_right _ aa
  show 0+c*4+4<=cb*4
  omega
 refine ag ?_
 refine VS.fin (bA _ _) rfl (λwz β kz bz en=> ?_)
 have hB1:eJ [g,b] w wz:=(eJ.of ar).aH bz.1
 have o54:=lP (en.own 54 _ _ rfl) 0 g rfl rfl
 have o55:=lP (en.own 55 _ _ rfl) 1 b rfl rfl
 have kz':aK ⟨UU,λ_=>True,λ_=>false⟩ w1 wz:=by exact dz
 have kw:aK ⟨UU,λ_=>True,λ_=>false⟩ w wz:=by exact dz
 have hgn:∀ q∈[g,b],B<=q:=λq hq=>by
  rcases List.mem_cons.1 hq with rfl|hq
  ·exact hBg
  ·rw[List.mem_singleton.1 hq];exact hBb
 have hset2:((us.map AV.val).set e (AV.row 55 0 xs.length cb)++sg.map AV.val).map (AV.leaf β)=us++sg:=by
  rw[List.map_append,aP,List.map_set,aP]
  congr 1
  apply List.ext_getElem?
  intro j
  rw[List.getElem?_set]
  by_cases h:e=j
  ·subst h;rw[if_pos rfl,if_pos dE,hue]
   show some (Value.slice (some ⟨β 55,0,none⟩) xs.length cb)=_
   rw[o55.1]
  ·rw[if_neg h]
 have c54:aL wz g 105 (us++sg).toArray:=by have:=o54.2;rwa [hset2] at this
 have c55:aL wz b 27 (((vb.set c [.bool s1,.slice p1 n1 c1,.bool t1,.slice y1 m1 d1]).flatten.map AV.val++sb.map AV.val).map (AV.leaf β)).toArray:=Eq.mp (congrArg (λl=>aL wz b 27 (List.map (AV.leaf β) l).toArray) (row_put (JQ.lens (cO B kk)) (by rw[JQ.len];exact da) rfl)) o55.2
 rw[<-List.map_append,aP] at c55
 have eI:uJ B kk wz [.bool s1,.slice p1 n1 c1,.bool t1,.slice y1 m1 d1] (y+x):=.mk ((q1.mono (Nat.le_trans hBg (Nat.le_trans (Nat.le_of_lt zR.lt) (show aK ⟨UU,λ_=>True,λ_=>false⟩ w bL from dz).size))).kp kz') hs
 refine⟨rfl,⟨us,.inr ⟨g,cg,us.map λu=>[u],sg,rfl,hBg,by rw[oW];exact c54,hge.kp db kw,hgo,Bu,hgm,by rw[oW];exact hgf⟩,by rw[sm];exact g2,λi u r hi hr=> ?_,g4⟩,?_,λW hW hWB=>eJ.az hW hB1 (λq hq=>Nat.le_trans hWB (hgn q hq)),Cb.but hB1 ?_⟩
 ·by_cases qI:i=e
  ·subst qI
   rw[hue] at hi
   cases hi
   rw[sn hx,if_pos rfl,Gm hy] at hr
   cases hr
   refine .inr ⟨b,cb,vb.set c [.bool s1,.slice p1 n1 c1,.bool t1,.slice y1 m1 d1],sb,by rw[List.length_set],hBb,c55,(JQ.kp (cO B kk) kw).put eI,hbo,by rw[List.length_set];exact hbl,hbm,?_⟩
   rw[List.length_append,oQ _ 4 (((JQ.kp (cO B kk) kw).put eI).lens (cO B kk)),List.length_set,<-oQ _ 4 (JQ.lens (cO B kk)),<-List.length_append]
   exact hbf
  ·obtain⟨r0,h0⟩:∃ r0,t[i]? =some r0:=⟨_,List.getElem?_eq_getElem (by rw[<-g2];exact (List.getElem?_eq_some_iff.1 hi).1)⟩
   rw[sn h0,if_neg qI] at hr
   cases hr
   refine (g3 i u r hi h0).but (cO B kk) hB1 kw (λq hq hm=> ?_)
   rcases List.mem_cons.1 hm with rfl|hm
   ·rcases g3 i u r hi h0 with ⟨rfl,_⟩|⟨b',c',vs,sp,rfl,_,hcl',_⟩
    ·cases hq
    ·cases hq
     exact absurd (bt zR hcl') cH
   ·rw[List.mem_singleton.1 hm] at hq
    exact qI (g4 i e u _ b hi hue hq rfl)
 ·refine eJ.kp hB1 (λq hq=> ?_)
  rcases List.mem_cons.1 hq with rfl|hq
  ·exact⟨105,us++sg,zR,rfl,hok1⟩
  ·rw[List.mem_singleton.1 hq]
   exact⟨27,vb.flatten++sb,Bx,rfl,by rw[List.all_append,(JQ.ok (cO B kk)).1,hbo];rfl⟩
 ·intro q hq
  rcases List.mem_cons.1 hq with rfl|hq
  ·exact⟨_,_,zR⟩
  ·rw[List.mem_singleton.1 hq]
   exact⟨_,_,Bx⟩
theorem Et (v u:Value) (t:kL) (xs:List Rat) (y x:Rat) (e c B kk k:Nat) (w:World) (hv:fF kk B w v t) (hu:df w u x k) (hx:t[e]? =some xs) (hy:xs[c]? =some y) (rh:kk<=1000000) (hk:k<=1000000) (hs:lM (y+x) kk):
 Calls Tryz.prog 64 #[.agg #[v],.agg #[.int .i64 (e:Int),.int .i64 (c:Int)],u] w λo w'=>o=.returned (.tuple #[])/\fF kk B w' v (qU t e c x)/\jH TX w w'/\∀ W,ax W w->W.heap.size<=B->ax W w':=(Km v u t xs y x e c B kk k w hv hu hx hy rh hk hs).mono (λo w' ⟨h1,h2,h3,h4,_⟩=>⟨h1,h2,h3,h4⟩)
set_option maxRecDepth 4000
abbrev Ix:=ByteArray×ByteArray×Rat
def BkE (kk:Nat) (w:World) (cs:List Value) (b:Ix):Prop:=∃ s p n c t y m d,cs=[.string b.1,.string b.2.1,.bool s,.slice p n c,.bool t,.slice y m d]/\df w (.agg #[.bool s,.slice p n c,.bool t,.slice y m d]) b.2.2 kk
theorem NA (kk:Nat):fD (BkE kk) 6 where
 kp:=λh k=>by
  obtain⟨s,p,n,c,t,y,m,d,hv,h2⟩:=h
  exact⟨_,_,_,_,_,_,_,_,hv,h2.kp k⟩
 len:=λh=>by
  obtain⟨s,p,n,c,t,y,m,d,rfl,_⟩:=h
  rfl
 ok:=λh=>by
  obtain⟨s,p,n,c,t,y,m,d,rfl,_⟩:=h
  rfl
def YbE (kk:Nat) (w:World) (cs:List Value) (l:List Ix):Prop:=∃ n h b d s q,cs=[n,h,b,d,s,q]/\cj (BkE kk) 6 w b l
theorem yb_b (kk:Nat):ElB (YbE kk):=λh hb=>by
 obtain⟨n,h,b,d,s,q,hv,h2⟩:=h
 exact⟨_,_,_,_,_,_,hv,h2.az (NA kk) hb⟩
def bkP (names:List ByteArray) (b:Ix):Int:=jJ (λx=>b.1.toList == x.toList) names
def bkK (cls:List nt) (b:Ix):Int:=jJ (λx=>x.1.toList == b.2.1.toList) cls
def Iy (names:List ByteArray) (cls:List nt) (o:Option kL) (b:Ix):Option kL:=o.bind λt=>if mv t (bkP names b) (bkK cls b)=true then some (qU t (bkP names b).toNat (bkK cls b).toNat b.2.2) else none
def oX (names:List ByteArray) (cls:List nt) (l:List Ix):Option kL:=l.foldl (Iy names cls) (some (ft names.length cls.length))
theorem zS {names:List ByteArray} {cls:List nt} {l:List Ix} {z:Nat} {b:Ix} (h:l[z]? =some b):oX names cls (l.take (z+1))=Iy names cls (oX names cls (l.take z)) b:=by
 unfold oX
 rw[aR h,List.foldl_append];rfl
theorem xT {names:List ByteArray} {cls:List nt}:∀ (l:List Ix),l.foldl (Iy names cls) none=none
 | []=>rfl
 | _::r=>xT r
theorem zT {names:List ByteArray} {cls:List nt} {l:List Ix} {z:Nat} (h:oX names cls (l.take z)=none):oX names cls l=none:=by
 have:oX names cls l=(l.drop z).foldl (Iy names cls) (oX names cls (l.take z)):=by
  unfold oX
  rw[<-List.foldl_append,List.take_append_drop]
 rw[this,h,xT]
def qV (bu:List ByteArray) (cls:List nt) (iy:List (List Ix)) (year:Int):Option kL:=if year<0\/(iy.length:Int)<=year then none else oX (dt bu) cls (iy.getD year.toNat [])
def xU (o:Option kL):Int:=if o.isSome then 0 else 2
def Iz (t:kL) (n:Nat):Prop:=∀ r∈t,∀ x∈r,lM x n
theorem Eu (a b:Nat):Iz (ft a b) 1:=λr hr x hx=>by
 rw[(List.mem_replicate.1 hr).2] at hx
 rw[(List.mem_replicate.1 hx).2];exact lM.zero
theorem Kn {t:kL} {n k e c:Nat} {x:Rat} (h:Iz t n) (hx:lM x k):Iz (qU t e c x) (n+k+1):=λr hr y hy=>by
 obtain⟨i,hi⟩:=List.getElem?_of_mem hr
 obtain⟨r0,h0⟩:∃ r0,t[i]? =some r0:=⟨_,List.getElem?_eq_getElem (by rw[<-sm t e c x];exact (List.getElem?_eq_some_iff.1 hi).1)⟩
 rw[sn h0] at hi
 have hm:=h r0 (List.mem_of_getElem? h0)
 by_cases he:i=e
 ·rw[if_pos he] at hi
  cases hi
  obtain⟨j,hj⟩:=List.getElem?_of_mem hy
  rw[List.getElem?_modify] at hj
  obtain⟨y0,yl,rfl⟩:=Option.map_eq_some_iff.1 hj
  have h2:=hm y0 (List.mem_of_getElem? yl)
  by_cases hc:c=j
  ·simp only[hc,if_true];exact h2.add hx
  ·simp only[hc,if_false];exact h2.mono aa
 ·rw[if_neg he] at hi
  cases hi
  exact (hm y hy).mono aa
theorem pY {t:kL} {e c:Int} (h:mv t e c=true):∃ (E K:Nat) (xs:List Rat) (y:Rat),e=E/\c=K/\t[E]? =some xs/\xs[K]? =some y:=by
 unfold mv at h
 obtain⟨h1,h2,h3,h4⟩:=of_decide_eq_true h
 obtain⟨E,rfl⟩:=Int.eq_ofNat_of_zero_le h1
 obtain⟨K,rfl⟩:=Int.eq_ofNat_of_zero_le h3
 rw[Int.toNat_natCast] at h4
 have h5:t[E]? =some (t[E]'aa):=List.getElem?_eq_getElem aa
 rw[List.getD_eq_getElem?_getD,h5] at h4
 exact⟨E,K,_,_,rfl,rfl,h5,List.getElem?_eq_getElem (by simpa using h4)⟩
abbrev TQ:TypeId->Bool:=λt=>(Nat.beq t 9 || (Nat.beq t 105 || Nat.beq t 27))
abbrev Bf (P:Program) (w:World) (N:Nat):Cx:={ P:=P,w0:=w,N:=N,K:=⟨UU,λ_=>True,λt=>TQ t⟩,SU:=λt=>Nat.beq t 23,ti:=table,keep:=λ_ _=>trivial }
theorem qW (w:World) (N:Nat):(Bf Tryz.prog w N).Ok:=eD
theorem Ko (w:World) (N:Nat):(Bf Tryz.prog w N).P.follows .mixedOrders=true:=by show Tryz.prog.follows .mixedOrders=true;kernel_rfl
section
variable {F F':Fr} {H H':Hp} {w w1:World} {N:Nat} {l':List Oper} {Q:Exit->Act->World->Prop} {k:List It} {id:Nat} {ops:Array Oper}
theorem NB (e:im (Bf Tryz.prog w1 N) ops 80 ops.toList F H=(l',F',H')) (h:aB (Bf Tryz.prog w1 N) none ops l' (VS (Bf Tryz.prog w1 N) Q k) F' H' w):VS (Bf Tryz.prog w1 N) Q (.code (.region id ops false)::k) F H w:=VS.region (qW _ _) (VO.run 80 e h)
theorem cxQ_d (e:im (Bf Tryz.prog w1 N) ops 80 ops.toList F H=(l',F',H')) (h:aB (Bf Tryz.prog w1 N) (some []) ops l' (VS (Bf Tryz.prog w1 N) Q k) F' H' w) (iY:jO (Bf Tryz.prog w1 N).SU [] ops=true:=by kernel_rfl):VS (Bf Tryz.prog w1 N) Q (.code (.region id ops true)::k) F H w:=VS.draw (qW _ _) (Ko _ _) [] iY (VO.run 80 e h)
end
theorem dk {P Q:Prop} (h:Q) (i:Q->P:=by intro h;(repeat first|refine wN ?_|refine wP rfl ?_|refine NB rfl ?_|refine cxQ_d rfl ?_|refine wO rfl rfl ?_);exact h):P:=i h
theorem IA {P Q X:Prop} (hb:X) (h:Q) (i:X->Q->P:=by intro hb h;refine⟨_,rfl,hb,λa b c=>wV rfl ?_⟩;refine dk ?_;revert a b c;exact h):P:=i hb h
set_option maxRecDepth 8000 in
theorem uK (nm pa pB nB cB sT pT nT cT tT yT mT dT sC pC nC cC tC yC mC dC bk fw sI pI nI cI tI yI mI dI sF pF nF cF tF yF mF dF kp pc Nc cc pe Ne ce py Ny cy:_) (year:Int) (bu:List ByteArray) (cls:List nt) (iy:List (List Ix)) (kk nb:Nat) (w:World) (hc:cj (sk kk) 6 w (.slice pc Nc cc) cls) (he:cj dv 1 w (.slice pe Ne ce) bu) (hy:cj (YbE kk) 6 w (.slice py Ny cy) iy) (hk:1<=kk) (tw:kk<=1000) (Aj:∀ l∈iy,l.length<=nb) (hnb1:nb<=100) (NC:bu.length<=10000) (Ev:cls.length<=10000):
  Calls Tryz.prog 13 #[.agg #[.string nm,.string pa,.slice pB nB cB,.bool sT,.slice pT nT cT,.bool tT,.slice yT mT dT,.bool sC,.slice pC nC cC,.bool tC,.slice yC mC dC,.int .i64 bk,.int .i64 fw,.bool sI,.slice pI nI cI,.bool tI,.slice yI mI dI,.bool sF,.slice pF nF cF,.bool tF,.slice yF mF dF,.int .i64 kp,.slice pc Nc cc,.slice pe Ne ce,.slice py Ny cy],.int .i64 year] w λo w'=>∃ r,o=.returned (.tuple #[.agg #[r],.int .i64 (xU (qV bu cls iy year))])/\fF (1+nb*(kk+1)) w.heap.size w' r ((qV bu cls iy year).getD [])/\ax w w':=by
 obtain⟨KK,hKK⟩:∃ KK,KK=1+nb*(kk+1):=⟨_,rfl⟩
 have hKb:KK<=1000000:=by
  have:nb*(kk+1)<=100*1001:=Nat.mul_le_mul hnb1 aa
  omega
 rw[<-hKK]
 obtain⟨p',c',e1,hce,hce2⟩:=he.form
 cases e1
 obtain⟨p',c',e1,hcc,hcc2⟩:=hc.form
 cases e1
 obtain⟨p',c',e1,hyc,hyc2⟩:=hy.form
 cases e1
 refine ai (C:=Bf Tryz.prog w _) (args:=[_,_]) Tryz.func13 rfl Tryz.ntmps13 (cr rfl) ?_
 refine dk ?_
 have bad:∀ (W:World) (hB:ax w W),(qV bu cls iy year)=none->∃ r,(Ending.returned (.tuple #[.agg #[.slice none 0 0],.int .i64 2]))=.returned (.tuple #[.agg #[r],.int .i64 (xU (qV bu cls iy year))])/\fF KK w.heap.size W r ((qV bu cls iy year).getD [])/\ax w W:=λW hB hn=>by
  rw[hn]
  exact⟨_,rfl,fF.nil _ _ _,hB⟩
 by_cases Al:year<0
 ·refine VO.fix 13 rfl (congrArg (λb=>AV.val (.bool b)) (decide_eq_true Al)) ?_
  refine dk ?_
  refine VS.ret (qW _ _) rfl rfl (λwz kz bz=> ?_)
  exact bad _ bz (by unfold qV;rw[if_pos (.inl Al)])
 refine VO.fix 13 rfl (congrArg (λb=>AV.val (.bool b)) (decide_eq_false Al)) ?_
 refine dk ?_
 by_cases Ak:(iy.length:Int)<=year
 ·refine VS.aU rfl (decide_eq_true Ak) ?_
  refine dk ?_
  refine VS.ret (qW _ _) rfl rfl (λwz kz bz=> ?_)
  exact bad _ bz (by unfold qV;rw[if_pos (.inr Ak)])
 refine VS.aN rfl (decide_eq_false Ak) ?_
 obtain⟨Y,rfl⟩:=Int.eq_ofNat_of_zero_le (show 0<=year by omega)
 obtain⟨bks,hbks⟩:∃ l,iy[Y]? =some l:=⟨_,List.getElem?_eq_getElem aa⟩
 have hR:qV bu cls iy (Y:Int)=oX (dt bu) cls bks:=by
  unfold qV
  rw[if_neg aa,Int.toNat_natCast,List.getD_eq_getElem?_getD,hbks];rfl
 have hnbk:=Aj bks (List.mem_of_getElem? hbks)
 obtain⟨BC,BD,csy,rfl,qA,⟨yn,yh,yb,yd,ys,yq,rfl,Kq⟩⟩:=hy.at hbks
 obtain⟨pb,cb,rfl,Bx,hbc2⟩:=Kq.form
 refine dk ?_
 refine VO.call rfl rfl (fk Tryz.func61) (λbL dw bX=>(Gj _ _ _ _ _ _ _ _ _ _ _ _ _ _ _ _ _ _ _ _ _ _ _ _ _ _ _ _ _ _ _ _ _ _ _ _ _ _ _ _ _ _ _ _ _ _ _ _ _ bu bL (he.az aJ bX) rfl aa).mono ?_)
 rintro o w1 ⟨r1,rfl,q1,bl⟩
 obtain⟨pn,cn,rfl⟩:=q1.form
 refine IA bl ?_
 intro eM _ bb1
 refine VO.call rfl rfl (fk Tryz.func34) (λdh eU dQ=>(Gp _ _ dh (by rw[kA];omega) aa).mono ?_)
 rintro o w2 ⟨r2,rfl,q2,bM⟩
 obtain⟨p2,c2,rfl⟩:=q2.form
 refine IA bM ?_
 intro gr _ bb2
 refine VO.cond rfl cW ?_
 refine wV rfl ?_
 refine dk ?_
 refine VO.read rfl [.slice pb bks.length cb] rfl (aC qA 2 _ ⟨_,rfl⟩) (wV rfl ?_)
 refine dk ?_
 obtain⟨N,hN⟩:∃ N,N=bks.length:=⟨_,rfl⟩
 rw[<-hN] at Kq Bx hnbk ⊢
 have hpbk:=Kq
 refine VS.fY (J:=λm L W=>∃ (z g2 g4 g7:Nat) (tv nv:Value) (t:kL),z<=N/\m=N-z/\L=[(1,.int .i64 (Y:Int)),(2,.pointer (some ⟨g2,0,none⟩)),(4,.pointer (some ⟨g4,0,none⟩)),(6,nv),(7,.pointer (some ⟨g7,0,none⟩)),(34,.slice pb N cb),(35,.int .i64 (N:Int)),(36,.int .i64 (z:Int))]/\ax w W/\w.heap.size<=g4/\g4≠g7/\aL W g2 32 #[.string nm,.string pa,.slice pB nB cB,.bool sT,.slice pT nT cT,.bool tT,.slice yT mT dT,.bool sC,.slice pC nC cC,.bool tC,.slice yC mC dC,.int .i64 bk,.int .i64 fw,.bool sI,.slice pI nI cI,.bool tI,.slice yI mI dI,.bool sF,.slice pF nF cF,.bool tF,.slice yF mF dF,.int .i64 kp,.slice pc cls.length cc,.slice pe bu.length ce,.slice (some ⟨BC,BD,none⟩) iy.length cy]/\aL W g4 52 #[.slice none 0 0]/\aL W g7 52 #[tv]/\aE dv 1 9 w.heap.size W nv (dt bu)/\fF KK w.heap.size W tv t/\oX (dt bu) cls (bks.take z)=some t/\Iz t (1+z*(kk+1)))
  (λW=>Bf Tryz.prog W 62) (λ_=>rfl) (λ_=>rfl) (λ_=>ax.refl _) N (λw' β k' o en=> ?_) ?_
 ·refine⟨[(1,.int .i64 (Y:Int)),(2,.pointer (some ⟨β 2,0,none⟩)),(4,.pointer (some ⟨β 4,0,none⟩)),(6,.slice pn (dt bu).length cn),(7,.pointer (some ⟨β 7,0,none⟩)),(34,.slice pb N cb),(35,.int .i64 (N:Int)),(36,.int .i64 ((0:Nat):Int))],⟨⟨_,_,rfl,rfl,rfl⟩,⟨_,_,rfl,rfl,rfl⟩,⟨_,_,rfl,rfl,rfl⟩,⟨_,_,rfl,rfl,rfl⟩,⟨_,_,rfl,rfl,rfl⟩,⟨_,_,rfl,rfl,rfl⟩,⟨_,_,rfl,by rw[hN];rfl,rfl⟩,⟨_,_,rfl,rfl,rfl⟩,trivial⟩,0,β 2,β 4,β 7,_,_,_,by omega,rfl,rfl,o,(en.own 4 _ _ rfl).new,(λh=>absurd (en.apart 4 7 (by intro h;cases h) (by intro h;cases h) h) cH),(en.own 2 _ _ rfl).cls,(en.own 4 _ _ rfl).cls,(en.own 7 _ _ rfl).cls,?_,?_,rfl,by rw[Nat.zero_mul];exact Eu _ _⟩
  ·exact (q1.kp aJ (show jH TQ w1 w' from dz) rfl).mono bX.size
  ·exact ((q2.kp (show jH TQ w2 w' from dz) rfl rfl).up aa).mono dQ.size
 rintro m L W ⟨z,g2,g4,g7,tv,nv,t,hz,rfl,rfl,lQ,nu,hg47,Ci,lS,Li,hnv,hT,hF,hS⟩
 obtain⟨pn2,cn2,rfl⟩:=hnv.form
 refine dk ?_
 by_cases hlt:z<N
 ·obtain⟨bk,hbz⟩:∃ x,bks[z]? =some x:=⟨_,List.getElem?_eq_getElem aa⟩
  have hbkW:cj (BkE kk) 6 W (.slice pb N cb) bks:=hpbk.az (NA kk) lQ
  obtain⟨bb,ob,csb,rfl,hcb,⟨s9,p9,n9,c9,t9,y9,m9,d9,rfl,hin9⟩⟩:=hbkW.at hbz
  have hcW:cj (sk kk) 6 W (.slice pc cls.length cc) cls:=hc.az (pW kk) lQ
  have Bu:∀ (b:Nat) (v:Value),xP tv=some b->g7≠b/\g4≠b:=λb v hb=>by
   obtain⟨us,h1,_⟩:=hT
   rcases h1 with ⟨rfl,_⟩|⟨b',c',vs,sp,rfl,hB,da,_⟩
   ·cases hb
   ·cases hb
    exact⟨λh=>by rw[h] at Li;exact absurd (bt Li da) cH,λh=>by rw[h] at lS;exact absurd (bt lS da) cH⟩
  refine VS.aU rfl (decide_eq_true (Int.ofNat_lt.2 hlt)) ?_
  refine dk ?_
  refine VO.cond rfl cW ?_
  refine wV rfl ?_
  refine dk ?_
  refine VO.read rfl [.string bk.1,.string bk.2.1,.bool s9,.slice p9 n9 c9,.bool t9,.slice y9 m9 d9] rfl (aC hcb 0 _ ⟨[],rfl⟩) (wV rfl ?_)
  refine dk ?_
  refine VO.call rfl rfl (fk Tryz.func62) (λgz gJ iL=>(Gl _ (dt bu) bk.1 gz ((hnv.sl aJ).az aJ iL)).mono ?_)
  rintro o w3 ⟨rfl,dU⟩
  have hst:oX (dt bu) cls (bks.take (z+1))=if mv t (bkP (dt bu) bk) (bkK cls bk)=true then some (qU t (bkP (dt bu) bk).toNat (bkK cls bk).toNat bk.2.2) else none:=by rw[zS hbz,hF];rfl
  have he0:jJ (λx=>bk.1.toList == x.toList) (dt bu)=bkP (dt bu) bk:=rfl
  rw[he0]
  generalize bkP (dt bu) bk=ei at hst ⊢
  refine⟨_,rfl,dU,λlN _ bb3=>wV rfl ?_⟩
  (repeat (first|refine wN ?_|refine wP rfl ?_|refine NB rfl ?_|refine wO rfl rfl ?_))
  refine VO.read rfl [.slice pc cls.length cc] rfl (aG (Ci.cell (j:=22) rfl)) (wV rfl ?_)
  (repeat (first|refine wN ?_|refine wP rfl ?_|refine NB rfl ?_|refine wO rfl rfl ?_))
  refine VO.call rfl rfl (fk Tryz.func16) (λjw kX kY=>(xN _ cls bk.2.1 kk jw (hcW.az (pW kk) kY)).mono ?_)
  rintro o w4 ⟨rfl,iX⟩
  have Lc:jJ (λx=>x.1.toList == bk.2.1.toList) cls=bkK cls bk:=rfl
  rw[Lc]
  generalize bkK cls bk=ci at hst ⊢
  refine IA iX ?_
  intro oK _ zJ
  refine VO.read rfl [tv] rfl (aG (Li.cell (j:=0) rfl)) (wV rfl ?_)
  refine dk ?_
  refine VO.call rfl rfl (fk Tryz.func63) (λjU kZ lO=>(xO _ t ei ci KK jU (hT.tab.oU (jQ KK) lO)).mono ?_)
  rintro o w5 ⟨rfl,kj⟩
  cases hh:mv t ei ci with
  | false=>
    refine⟨_,rfl,kj,λpQ _ AM=>wV rfl ?_⟩
    (repeat (first|refine wN ?_|refine wP rfl ?_|refine wO rfl rfl ?_))
    refine VS.bI di (λt=>Nat.beq t 23) table (λ_ _ _=>trivial) (λbm jk k1 fG jZ=> ?_)
    have ar:ax W bm:=fG
    have cZ:cM di 62 [g4] [(52,[.val (.slice none 0 0)])] bm:=by
     refine⟨rfl,by simp,λj g' c' hj hc=> ?_,λc' hc=> ?_,λc' hc k hk=> ?_⟩
     ·match j,hj,hc with
      | 0,hj,hc=>cases hj;cases hc;exact lS.az ar
      | j+1,hj,_=>simp at hj
     ·cases List.mem_singleton.1 hc
      exact⟨rfl,rfl⟩
     ·cases List.mem_singleton.1 hc
      cases hk
    refine⟨[g4],[(52,[.val (.slice none 0 0)])],cZ,[(4,.box 124 0)],⟨⟨_,rfl,rfl,λi hi=>by rw[(by simpa [AV.ids] using hi:i=124)];exact⟨(by show 124<=124;omega),(by show 124<2*62+1;omega)⟩⟩,trivial⟩,?_⟩
    refine ag ?_
    refine VS.ret (bA _ _) rfl rfl (λwz kz bz=> ?_)
    exact bad _ (eJ.az (lQ.aH ar) bz.1 (λx hx=>by rw[List.mem_singleton.1 hx];exact nu)) (by rw[hR];exact zT (z:=z+1) (by rw[hst,hh];rfl))
  | true=>
    obtain⟨E,Kc,xs,y,rfl,rfl,hx,hy'⟩:=pY hh
    rw[hh,if_pos rfl,Int.toNat_natCast,Int.toNat_natCast] at hst
    have hRS:lM (y+bk.2.2) (1+z*(kk+1)+kk+1):=(hS xs (List.mem_of_getElem? hx) y (List.mem_of_getElem? hy')).add (hin9.sz hk)
    have hstep:1+z*(kk+1)+kk+1=1+(z+1)*(kk+1):=by rw[Nat.succ_mul];omega
    have hle:1+(z+1)*(kk+1)<=KK:=by
     have:(z+1)*(kk+1)<=nb*(kk+1):=Nat.mul_le_mul_right _ aa
     omega
    refine⟨_,rfl,kj,λpQ _ AM=>wV rfl ?_⟩
    (repeat (first|refine wN ?_|refine wP rfl ?_|refine wO rfl rfl ?_))
    refine VS.vJ (qW _ _) 4 rfl rfl rfl (VO.run 80 rfl ?_)
    refine VO.read rfl [tv] rfl (aG (Li.cell (j:=0) rfl)) (VO.run 80 rfl ?_)
    refine VO.nil ⟨_,_,_,λw=>Bf Tryz.prog w 62,rfl,rfl,fk Tryz.func64,λ_=>rfl,λ_=>rfl,λ_=>ax.refl _,λw6 k6 b6=> ?_⟩
    have b6':ax W w6:=b6
    refine (Et tv _ t xs y bk.2.2 E Kc w.heap.size KK kk w6 (hT.az b6') (hin9.kp (Kp.of (U:=UU) b6')) hx hy' hKb aa (hRS.mono aa)).mono ?_
    rintro o w7 ⟨rfl,hT7,hkx,hold⟩
    refine⟨_,[(1,.int .i64 (Y:Int)),(2,.pointer (some ⟨g2,0,none⟩)),(4,.pointer (some ⟨g4,0,none⟩)),(6,.slice pn2 (dt bu).length cn2),(7,.pointer (some ⟨g7,0,none⟩)),(34,.slice (some ⟨bb,ob,none⟩) N cb),(35,.int .i64 (N:Int)),(36,.int .i64 (z:Int))],rfl,⟨rfl,rfl,rfl,rfl,rfl,rfl,rfl,rfl,trivial⟩,(λp hp e=>by
     simp only[List.mem_cons,List.not_mem_nil,or_false] at hp
     rcases hp with rfl|rfl|rfl|rfl|rfl|rfl|rfl|rfl <;> cases e),?_⟩
    refine dk ?_
    refine VS.fq rfl (N-(z+1)) aa (λw' β k' o' en=> ?_)
    have o'':ax w7 w':=o'
    have kx':jH TX W w':=(aK.of b6').aH (hkx.aH (aK.of o''))
    refine⟨[(1,.int .i64 (Y:Int)),(2,.pointer (some ⟨g2,0,none⟩)),(4,.pointer (some ⟨g4,0,none⟩)),(6,.slice pn2 (dt bu).length cn2),(7,.pointer (some ⟨g7,0,none⟩)),(34,.slice (some ⟨bb,ob,none⟩) N cb),(35,.int .i64 (N:Int)),(36,.int .i64 ((z+1:Nat):Int))],⟨⟨_,_,rfl,rfl,rfl⟩,⟨_,_,rfl,rfl,rfl⟩,⟨_,_,rfl,rfl,rfl⟩,⟨_,_,rfl,rfl,rfl⟩,⟨_,_,rfl,rfl,rfl⟩,⟨_,_,rfl,rfl,rfl⟩,⟨_,_,rfl,rfl,rfl⟩,⟨_,_,rfl,congrArg (λz=>Value.int .i64 z) (ay (i:=z) aa),rfl⟩,trivial⟩,z+1,g2,g4,g7,tv,_,_,by omega,rfl,rfl,(hold w (lQ.aH b6') (Nat.le_refl _)).aH o'',nu,hg47,kx'.block _ g2 _ rfl trivial Ci,kx'.block _ g4 _ rfl trivial lS,kx'.block _ g7 _ rfl trivial Li,hnv.kp aJ kx' rfl,hT7.az o'',hst,hstep▸Kn hS (hin9.sz hk)⟩
 refine VS.aN rfl (decide_eq_false (λh=>hlt (Int.ofNat_lt.1 h))) ?_
 obtain rfl:N=z:=by omega
 rw[List.take_of_length_le aa] at hF
 obtain⟨ptv,ctv,rfl⟩:=hT.form
 have hg74:g7≠g4:=λh=>hg47 h.symm
 (repeat (first|refine wN ?_|refine wP rfl ?_|refine wO rfl rfl ?_))
 refine VS.bI di (λt=>Nat.beq t 23) table (λ_ _ _=>trivial) (λbm jk k1 fG jZ=> ?_)
 have ar:ax W bm:=fG
 have cZ:cM di 62 [g4] [(52,[.val (.slice none 0 0)])] bm:=by
  refine⟨rfl,by simp,λj g' c' hj hc=> ?_,λc' hc=> ?_,λc' hc k hk=> ?_⟩
  ·match j,hj,hc with
   | 0,hj,hc=>cases hj;cases hc;exact lS.az ar
   | j+1,hj,_=>simp at hj
  ·cases List.mem_singleton.1 hc
   exact⟨rfl,rfl⟩
  ·cases List.mem_singleton.1 hc
   cases hk
 refine⟨[g4],[(52,[.val (.slice none 0 0)])],cZ,[(4,.box 124 0),(7,.val (.pointer (some ⟨g7,0,none⟩)))],⟨⟨_,rfl,rfl,λi hi=>by rw[(by simpa [AV.ids] using hi:i=124)];exact⟨(by show 124<=124;omega),(by show 124<2*62+1;omega)⟩⟩,⟨_,rfl,rfl,λi hi=>(by cases hi)⟩,trivial⟩,?_⟩
 refine ag ?_
 refine VO.aO rfl [.slice ptv t.length ctv] rfl (at_one (aY hg74 ((Li.az ar).cell (j:=0) rfl))) (wV rfl ?_)
 refine ag ?_
 refine VS.qh (bA _ _) rfl (λwz β kz bz en=> ?_)
 rw[hR,hF]
 exact⟨_,rfl,hT.kp (T:=λt=> !Nat.beq t 52) ((aK.of ar).aH (eJ.kp bz.1 (λx hx=>⟨52,[.slice none 0 0],by rw[List.mem_singleton.1 hx];exact lS.az ar,rfl,rfl⟩))) rfl rfl,eJ.az (lQ.aH ar) bz.1 (λx hx=>by rw[List.mem_singleton.1 hx];exact nu)⟩
structure Rw where
 s:Bool
 xs:List Nat
 t:Bool
 ys:List Nat
def Rw.q (r:Rw):Rat:=rq r.s r.xs r.t r.ys
def Rw.of (q:Rat):Rw:=⟨decide (q.num<0),limbs q.num.natAbs,decide ((q.den:Int)<0),limbs (q.den:Int).natAbs⟩
def bZ (kk:Nat) (w:World) (cs:List Value) (r:Rw):Prop:=∃ s p n c t y m d,cs=[.bool s,.slice p n c,.bool t,.slice y m d]/\dZ w (.agg #[.bool s,.slice p n c,.bool t,.slice y m d]) r.s r.xs r.t r.ys/\r.xs.length<=kk/\r.ys.length<=kk
theorem bZ.kp {kk:Nat} {U:TypeId} {T:TypeId->Bool} {w w':World} {cs:List Value} {r:Rw} (h:bZ kk w cs r) (k:aK ⟨U,λ_=>True,T⟩ w w'):bZ kk w' cs r:=by
 obtain⟨s,p,n,c,t,y,m,d,h1,h2,h3,h4⟩:=h
 exact⟨_,_,_,_,_,_,_,_,h1,h2.kp k,h3,h4⟩
theorem bZ.el (kk:Nat):fD (bZ kk) 4 where
 kp:=λh k=>h.kp k
 len:=λh=>by
  obtain⟨s,p,n,c,t,y,m,d,rfl,_⟩:=h
  rfl
 ok:=λh=>by
  obtain⟨s,p,n,c,t,y,m,d,rfl,_⟩:=h
  rfl
theorem bZ.raw {kk:Nat} {w:World} {s t:Bool} {p y:Option Addr} {n c m d:Nat} {r:Rw} (h:bZ kk w [.bool s,.slice p n c,.bool t,.slice y m d] r):dZ w (.agg #[.bool s,.slice p n c,.bool t,.slice y m d]) r.s r.xs r.t r.ys/\r.xs.length<=kk/\r.ys.length<=kk:=by
 obtain⟨_,_,_,_,_,_,_,_,h1,h2⟩:=h
 cases h1;exact h2
theorem bZ.in {kk:Nat} {w:World} {s t:Bool} {p y:Option Addr} {n c m d:Nat} {r:Rw} (h:bZ kk w [.bool s,.slice p n c,.bool t,.slice y m d] r):df w (.agg #[.bool s,.slice p n c,.bool t,.slice y m d]) r.q kk:=h.raw.1.in h.raw.2.1 h.raw.2.2
theorem bZ.of {kk:Nat} {w:World} {s t:Bool} {p y:Option Addr} {n c m d:Nat} {q:Rat} (h:fm w (.agg #[.bool s,.slice p n c,.bool t,.slice y m d]) q) (hs:lM q kk):bZ kk w [.bool s,.slice p n c,.bool t,.slice y m d] (Rw.of q):=⟨_,_,_,_,_,_,_,_,rfl,h.raw,hs.1,hs.2⟩
theorem bZ.mk {kk:Nat} {w:World} {s t:Bool} {p y:Option Addr} {n c m d:Nat} {r:Rw} (h:dZ w (.agg #[.bool s,.slice p n c,.bool t,.slice y m d]) r.s r.xs r.t r.ys) (h1:r.xs.length<=kk) (h2:r.ys.length<=kk):bZ kk w [.bool s,.slice p n c,.bool t,.slice y m d] r:=⟨_,_,_,_,_,_,_,_,rfl,h,h1,h2⟩
abbrev BrR:=Rw×Rw
abbrev vM:=ByteArray×Nat×Rw
abbrev Ew:=ByteArray×ByteArray×Rw
abbrev SkR:=ByteArray×Rw×Rw
abbrev SdR:=ByteArray×Rw
structure DlR where
 Ex:Bool
 id:ByteArray
 kind:Nat
 kO:ByteArray
 kP:ByteArray
 cls:ByteArray
 zU:Rw
def qX (kk:Nat) (w:World) (cs:List Value) (x:BrR):Prop:=∃ s0 p0 n0 c0 t0 y0 m0 d0 s1 p1 n1 c1 t1 y1 m1 d1,cs=[.bool s0,.slice p0 n0 c0,.bool t0,.slice y0 m0 d0,.bool s1,.slice p1 n1 c1,.bool t1,.slice y1 m1 d1]/\bZ kk w [.bool s0,.slice p0 n0 c0,.bool t0,.slice y0 m0 d0] x.1/\bZ kk w [.bool s1,.slice p1 n1 c1,.bool t1,.slice y1 m1 d1] x.2
theorem qX.el (kk:Nat):fD (qX kk) 8 where
 kp:=λh k=>by
  obtain⟨s0,p0,n0,c0,t0,y0,m0,d0,s1,p1,n1,c1,t1,y1,m1,d1,hv,h0,h1⟩:=h
  exact⟨_,_,_,_,_,_,_,_,_,_,_,_,_,_,_,_,hv,h0.kp k,h1.kp k⟩
 len:=λh=>by
  obtain⟨s0,p0,n0,c0,t0,y0,m0,d0,s1,p1,n1,c1,t1,y1,m1,d1,rfl,_⟩:=h
  rfl
 ok:=λh=>by
  obtain⟨s0,p0,n0,c0,t0,y0,m0,d0,s1,p1,n1,c1,t1,y1,m1,d1,rfl,_⟩:=h
  rfl
def oZ (kk:Nat) (w:World) (cs:List Value) (x:vM):Prop:=∃ s0 p0 n0 c0 t0 y0 m0 d0,cs=[.string x.1,.int .u8 (x.2.1:Int),.bool s0,.slice p0 n0 c0,.bool t0,.slice y0 m0 d0]/\bZ kk w [.bool s0,.slice p0 n0 c0,.bool t0,.slice y0 m0 d0] x.2.2/\x.2.1<256
theorem oZ.el (kk:Nat):fD (oZ kk) 6 where
 kp:=λh k=>by
  obtain⟨s0,p0,n0,c0,t0,y0,m0,d0,hv,h0,hx⟩:=h
  exact⟨_,_,_,_,_,_,_,_,hv,h0.kp k,hx⟩
 len:=λh=>by
  obtain⟨s0,p0,n0,c0,t0,y0,m0,d0,rfl,_⟩:=h
  rfl
 ok:=λh=>by
  obtain⟨s0,p0,n0,c0,t0,y0,m0,d0,rfl,_⟩:=h
  rfl
def iT (kk:Nat) (w:World) (cs:List Value) (x:Ew):Prop:=∃ s0 p0 n0 c0 t0 y0 m0 d0,cs=[.string x.1,.string x.2.1,.bool s0,.slice p0 n0 c0,.bool t0,.slice y0 m0 d0]/\bZ kk w [.bool s0,.slice p0 n0 c0,.bool t0,.slice y0 m0 d0] x.2.2
theorem iT.el (kk:Nat):fD (iT kk) 6 where
 kp:=λh k=>by
  obtain⟨s0,p0,n0,c0,t0,y0,m0,d0,hv,h0⟩:=h
  exact⟨_,_,_,_,_,_,_,_,hv,h0.kp k⟩
 len:=λh=>by
  obtain⟨s0,p0,n0,c0,t0,y0,m0,d0,rfl,_⟩:=h
  rfl
 ok:=λh=>by
  obtain⟨s0,p0,n0,c0,t0,y0,m0,d0,rfl,_⟩:=h
  rfl
def sx (kk:Nat) (w:World) (cs:List Value) (x:DlR):Prop:=∃ s0 p0 n0 c0 t0 y0 m0 d0,cs=[.bool x.Ex,.string x.id,.int .u8 (x.kind:Int),.string x.kO,.string x.kP,.string x.cls,.bool s0,.slice p0 n0 c0,.bool t0,.slice y0 m0 d0]/\bZ kk w [.bool s0,.slice p0 n0 c0,.bool t0,.slice y0 m0 d0] x.zU/\x.kind<256
theorem sx.el (kk:Nat):fD (sx kk) 10 where
 kp:=λh k=>by
  obtain⟨s0,p0,n0,c0,t0,y0,m0,d0,hv,h0,hx⟩:=h
  exact⟨_,_,_,_,_,_,_,_,hv,h0.kp k,hx⟩
 len:=λh=>by
  obtain⟨s0,p0,n0,c0,t0,y0,m0,d0,rfl,_⟩:=h
  rfl
 ok:=λh=>by
  obtain⟨s0,p0,n0,c0,t0,y0,m0,d0,rfl,_⟩:=h
  rfl
def tN (kk:Nat) (w:World) (cs:List Value) (x:SkR):Prop:=∃ s0 p0 n0 c0 t0 y0 m0 d0 s1 p1 n1 c1 t1 y1 m1 d1,cs=[.string x.1,.bool s0,.slice p0 n0 c0,.bool t0,.slice y0 m0 d0,.bool s1,.slice p1 n1 c1,.bool t1,.slice y1 m1 d1]/\bZ kk w [.bool s0,.slice p0 n0 c0,.bool t0,.slice y0 m0 d0] x.2.1/\bZ kk w [.bool s1,.slice p1 n1 c1,.bool t1,.slice y1 m1 d1] x.2.2
theorem tN.el (kk:Nat):fD (tN kk) 9 where
 kp:=λh k=>by
  obtain⟨s0,p0,n0,c0,t0,y0,m0,d0,s1,p1,n1,c1,t1,y1,m1,d1,hv,h0,h1⟩:=h
  exact⟨_,_,_,_,_,_,_,_,_,_,_,_,_,_,_,_,hv,h0.kp k,h1.kp k⟩
 len:=λh=>by
  obtain⟨s0,p0,n0,c0,t0,y0,m0,d0,s1,p1,n1,c1,t1,y1,m1,d1,rfl,_⟩:=h
  rfl
 ok:=λh=>by
  obtain⟨s0,p0,n0,c0,t0,y0,m0,d0,s1,p1,n1,c1,t1,y1,m1,d1,rfl,_⟩:=h
  rfl
def uW (kk:Nat) (w:World) (cs:List Value) (x:SdR):Prop:=∃ s0 p0 n0 c0 t0 y0 m0 d0,cs=[.string x.1,.bool s0,.slice p0 n0 c0,.bool t0,.slice y0 m0 d0]/\bZ kk w [.bool s0,.slice p0 n0 c0,.bool t0,.slice y0 m0 d0] x.2
theorem uW.el (kk:Nat):fD (uW kk) 5 where
 kp:=λh k=>by
  obtain⟨s0,p0,n0,c0,t0,y0,m0,d0,hv,h0⟩:=h
  exact⟨_,_,_,_,_,_,_,_,hv,h0.kp k⟩
 len:=λh=>by
  obtain⟨s0,p0,n0,c0,t0,y0,m0,d0,rfl,_⟩:=h
  rfl
 ok:=λh=>by
  obtain⟨s0,p0,n0,c0,t0,y0,m0,d0,rfl,_⟩:=h
  rfl
structure yO where
 num:Int
 holds:List Ew
 cf:List Ew
 dG:List DlR
 dp:List SkR
 gf:List SdR
def Bg (kk:Nat) (w:World) (cs:List Value) (y:yO):Prop:=∃ h b d s q,cs=[.int .i64 y.num,h,b,d,s,q]/\cj (iT kk) 6 w h y.holds/\cj (iT kk) 6 w b y.cf/\cj (sx kk) 10 w d y.dG/\cj (tN kk) 9 w s y.dp/\cj (uW kk) 5 w q y.gf
theorem Bg.b (kk:Nat):ElB (Bg kk):=λh hb=>by
 obtain⟨h,b,d,s,q,hv,h1,h2,h3,h4,h5⟩:=h
 exact⟨_,_,_,_,_,hv,h1.az (iT.el kk) hb,h2.az (iT.el kk) hb,h3.az (sx.el kk) hb,h4.az (tN.el kk) hb,h5.az (uW.el kk) hb⟩
structure iU where
 name:ByteArray
 parent:ByteArray
 pZ:List BrR
 eW:Rw
 cap:Rw
 bk:Int
 fw:Int
 eX:Rw
 eZ:Rw
 kp:Int
 cls:List vM
 bu:List ByteArray
 iy:List yO
def mz (kk:Nat) (w:World) (v:Value) (f:iU):Prop:=∃ pB nB cB sT pT nT cT tT yT mT dT sC pC nC cC tC yC mC dC sI pI nI cI tI yI mI dI sF pF nF cF tF yF mF dF pc Nc cc pe Ne ce py Ny cy,v=.agg #[.string f.name,.string f.parent,.slice pB nB cB,.bool sT,.slice pT nT cT,.bool tT,.slice yT mT dT,.bool sC,.slice pC nC cC,.bool tC,.slice yC mC dC,.int .i64 f.bk,.int .i64 f.fw,.bool sI,.slice pI nI cI,.bool tI,.slice yI mI dI,.bool sF,.slice pF nF cF,.bool tF,.slice yF mF dF,.int .i64 f.kp,.slice pc Nc cc,.slice pe Ne ce,.slice py Ny cy]/\cj (qX kk) 8 w (.slice pB nB cB) f.pZ/\bZ kk w [.bool sT,.slice pT nT cT,.bool tT,.slice yT mT dT] f.eW/\bZ kk w [.bool sC,.slice pC nC cC,.bool tC,.slice yC mC dC] f.cap/\bZ kk w [.bool sI,.slice pI nI cI,.bool tI,.slice yI mI dI] f.eX/\bZ kk w [.bool sF,.slice pF nF cF,.bool tF,.slice yF mF dF] f.eZ/\cj (oZ kk) 6 w (.slice pc Nc cc) f.cls/\cj dv 1 w (.slice pe Ne ce) f.bu/\cj (Bg kk) 6 w (.slice py Ny cy) f.iy
theorem mz.az {kk:Nat} {w w':World} {v:Value} {f:iU} (h:mz kk w v f) (hb:ax w w'):mz kk w' v f:=by
 obtain⟨pB,nB,cB,sT,pT,nT,cT,tT,yT,mT,dT,sC,pC,nC,cC,tC,yC,mC,dC,sI,pI,nI,cI,tI,yI,mI,dI,sF,pF,nF,cF,tF,yF,mF,dF,pc,Nc,cc,pe,Ne,ce,py,Ny,cy,hv,h1,h2,h3,h4,h5,h6,h7,h8⟩:=h
 have k:Kp UU w w':=Kp.of hb
 exact⟨_,_,_,_,_,_,_,_,_,_,_,_,_,_,_,_,_,_,_,_,_,_,_,_,_,_,_,_,_,_,_,_,_,_,_,_,_,_,_,_,_,_,_,_,hv,h1.az (qX.el kk) hb,h2.kp k,h3.kp k,h4.kp k,h5.kp k,h6.az (oZ.el kk) hb,h7.az aJ hb,h8.oU (Bg.b kk) hb⟩
def vM.k (x:vM):nt:=(x.1,x.2.1,x.2.2.q)
def Ew.b (x:Ew):Ix:=(x.1,x.2.1,x.2.2.q)
theorem mA {α β:Type} {E:World->List Value->α->Prop} {E':World->List Value->β->Prop} {sz:Nat} {w:World} {v:Value} {es:List α} {g:α->β} (h:cj E sz w v es) (hm:∀ (cs:List Value) (a:α),E w cs a->E' w cs (g a)):cj E' sz w v (es.map g):=by
 obtain⟨p,c,rfl,h1,h2,h3⟩:=h
 refine⟨p,c,by rw[List.length_map],by rw[List.length_map];exact h1,h2,λi a ha=> ?_⟩
 rw[List.getElem?_map] at ha
 obtain⟨x,hx,rfl⟩:=Option.map_eq_some_iff.1 ha
 obtain⟨b,off,cs,hp,hc,hE⟩:=h3 i x hx
 exact⟨b,off,cs,hp,hc,hm _ _ hE⟩
theorem oZ.n {kk:Nat} {w:World} {cs:List Value} {x:vM} (h:oZ kk w cs x):sk kk w cs x.k:=by
 obtain⟨s,p,n,c,t,y,m,d,rfl,h0,hx⟩:=h
 exact⟨_,_,_,_,_,_,_,_,rfl,hx,h0.in⟩
theorem iT.bk {kk:Nat} {w:World} {cs:List Value} {x:Ew} (h:iT kk w cs x):BkE kk w cs x.b:=by
 obtain⟨s,p,n,c,t,y,m,d,rfl,h0⟩:=h
 exact⟨_,_,_,_,_,_,_,_,rfl,h0.in⟩
theorem Bg.yb {kk:Nat} {w:World} {cs:List Value} {y:yO} (h:Bg kk w cs y):YbE kk w cs (y.cf.map Ew.b):=by
 obtain⟨h,b,d,s,q,rfl,h1,h2,h3,h4,h5⟩:=h
 exact⟨_,_,_,_,_,_,rfl,mA h2 (λ_ _ h=>h.bk)⟩
def iU.yN (f:iU) (year:Int):Option kL:=qV f.bu (f.cls.map vM.k) (f.iy.map λy=>y.cf.map Ew.b) year
theorem Gv (v:Value) (f:iU) (year:Int) (kk nb:Nat) (w:World) (hv:mz kk w v f) (hk:1<=kk) (tw:kk<=1000) (Aj:∀ y∈f.iy,y.cf.length<=nb) (hnb1:nb<=100) (NC:f.bu.length<=10000) (Ev:f.cls.length<=10000):
  Calls Tryz.prog 13 #[v,.int .i64 year] w λo w'=>∃ r,o=.returned (.tuple #[.agg #[r],.int .i64 (xU (f.yN year))])/\fF (1+nb*(kk+1)) w.heap.size w' r ((f.yN year).getD [])/\ax w w':=by
 obtain⟨pB,nB,cB,sT,pT,nT,cT,tT,yT,mT,dT,sC,pC,nC,cC,tC,yC,mC,dC,sI,pI,nI,cI,tI,yI,mI,dI,sF,pF,nF,cF,tF,yF,mF,dF,pc,Nc,cc,pe,Ne,ce,py,Ny,cy,rfl,h1,h2,h3,h4,h5,h6,h7,h8⟩:=hv
 exact uK _ _ _ _ _ _ _ _ _ _ _ _ _ _ _ _ _ _ _ _ _ _ _ _ _ _ _ _ _ _ _ _ _ _ _ _ _ _ _ _ _ _ _ _ _ _ _ _ _ year f.bu (f.cls.map vM.k) (f.iy.map λy=>y.cf.map Ew.b) kk nb w (mA h6 (λ_ _ h=>h.n)) h7 (mA h8 (λ_ _ h=>h.yb)) hk tw (λl hl=>by
  obtain⟨y,hy,rfl⟩:=List.mem_map.1 hl
  rw[List.length_map];exact Aj y hy) hnb1 NC (by rw[List.length_map];exact Ev)
set_option maxRecDepth 4000
theorem zV (n:Int) (w:World) (h0: -9223372036854775808<=n) (h1:n<=9223372036854775807):Calls Tryz.prog 106 #[.int .i64 n] w λe w'=>∃ r,e=.returned r/\bQ w' w.heap.size r (Rat.divInt n 100)/\ax w w':=by
 refine ai (C:=bj Tryz.prog w _) (args:=[_]) Tryz.func106 rfl Tryz.ntmps106 (cr rfl) ?_
 refine ae ?_
 refine VO.cR rfl rfl (fk Tryz.func45) (λbL dw bX=>fp n 100 bL h0 h1 aa aa) (λbL dw bX w1 s1 p1 n1 c1 t1 y1 m1 d1 q1 bl eM _ bb1=>wV rfl ?_)
 refine ae ?_
 refine bV ?_;intro wz kz bz
 exact⟨_,rfl,(q1.k).mono bX.size,bz⟩
theorem qa (n:Int) (w:World) (h0: -9223372036854775808<=n) (h1:n<=9223372036854775807):Calls Tryz.prog 107 #[.int .i64 n] w λe w'=>∃ r,e=.returned r/\bQ w' w.heap.size r (Rat.divInt n 10000)/\ax w w':=by
 refine ai (C:=bj Tryz.prog w _) (args:=[_]) Tryz.func107 rfl Tryz.ntmps107 (cr rfl) ?_
 refine ae ?_
 refine VO.cR rfl rfl (fk Tryz.func45) (λbL dw bX=>fp n 10000 bL h0 h1 aa aa) (λbL dw bX w1 s1 p1 n1 c1 t1 y1 m1 d1 q1 bl eM _ bb1=>wV rfl ?_)
 refine ae ?_
 refine bV ?_;intro wz kz bz
 exact⟨_,rfl,(q1.k).mono bX.size,bz⟩
theorem iT.mk' {kk:Nat} {w:World} {a b:ByteArray} {r:Rw} {s0 t0:Bool} {p0 y0:Option Addr} {n0 c0 m0 d0:Nat} (h:bZ kk w [.bool s0,.slice p0 n0 c0,.bool t0,.slice y0 m0 d0] r):iT kk w [.string a,.string b,.bool s0,.slice p0 n0 c0,.bool t0,.slice y0 m0 d0] (a,b,r):=⟨_,_,_,_,_,_,_,_,rfl,h⟩
theorem tN.mk' {kk:Nat} {w:World} {a:ByteArray} {r u:Rw} {s0 t0:Bool} {p0 y0:Option Addr} {n0 c0 m0 d0:Nat} {s1 t1:Bool} {p1 y1:Option Addr} {n1 c1 m1 d1:Nat} (h:bZ kk w [.bool s0,.slice p0 n0 c0,.bool t0,.slice y0 m0 d0] r) (h':bZ kk w [.bool s1,.slice p1 n1 c1,.bool t1,.slice y1 m1 d1] u):tN kk w [.string a,.bool s0,.slice p0 n0 c0,.bool t0,.slice y0 m0 d0,.bool s1,.slice p1 n1 c1,.bool t1,.slice y1 m1 d1] (a,r,u):=⟨_,_,_,_,_,_,_,_,_,_,_,_,_,_,_,_,rfl,h,h'⟩
theorem qX.mk' {kk:Nat} {w:World} {r u:Rw} {s0 t0:Bool} {p0 y0:Option Addr} {n0 c0 m0 d0:Nat} {s1 t1:Bool} {p1 y1:Option Addr} {n1 c1 m1 d1:Nat} (h:bZ kk w [.bool s0,.slice p0 n0 c0,.bool t0,.slice y0 m0 d0] r) (h':bZ kk w [.bool s1,.slice p1 n1 c1,.bool t1,.slice y1 m1 d1] u):qX kk w [.bool s0,.slice p0 n0 c0,.bool t0,.slice y0 m0 d0,.bool s1,.slice p1 n1 c1,.bool t1,.slice y1 m1 d1] (r,u):=⟨_,_,_,_,_,_,_,_,_,_,_,_,_,_,_,_,rfl,h,h'⟩
theorem uW.mk' {kk:Nat} {w:World} {a:ByteArray} {r:Rw} {s0 t0:Bool} {p0 y0:Option Addr} {n0 c0 m0 d0:Nat} (h:bZ kk w [.bool s0,.slice p0 n0 c0,.bool t0,.slice y0 m0 d0] r):uW kk w [.string a,.bool s0,.slice p0 n0 c0,.bool t0,.slice y0 m0 d0] (a,r):=⟨_,_,_,_,_,_,_,_,rfl,h⟩
theorem oZ.mk' {kk k:Nat} {w:World} {a:ByteArray} {r:Rw} {s0 t0:Bool} {p0 y0:Option Addr} {n0 c0 m0 d0:Nat} (h:bZ kk w [.bool s0,.slice p0 n0 c0,.bool t0,.slice y0 m0 d0] r) (hk:k<256):oZ kk w [.string a,.int .u8 (k:Int),.bool s0,.slice p0 n0 c0,.bool t0,.slice y0 m0 d0] (a,k,r):=⟨_,_,_,_,_,_,_,_,rfl,h,hk⟩
theorem sx.mk' {kk k:Nat} {w:World} {g:Bool} {a b c d:ByteArray} {r:Rw} {s0 t0:Bool} {p0 y0:Option Addr} {n0 c0 m0 d0:Nat} (h:bZ kk w [.bool s0,.slice p0 n0 c0,.bool t0,.slice y0 m0 d0] r) (hk:k<256):sx kk w [.bool g,.string a,.int .u8 (k:Int),.string b,.string c,.string d,.bool s0,.slice p0 n0 c0,.bool t0,.slice y0 m0 d0] ⟨g,a,k,b,c,d,r⟩:=⟨_,_,_,_,_,_,_,_,rfl,h,hk⟩
def YrN (B:Nat) (w:World) (cs:List Value) (y:yO):Prop:=∃ h b d s q,cs=[.int .i64 y.num,h,b,d,s,q]/\aE (iT 2) 6 218 B w h y.holds/\aE (iT 2) 6 103 B w b y.cf/\aE (sx 2) 10 222 B w d y.dG/\aE (tN 2) 9 226 B w s y.dp/\aE (uW 2) 5 230 B w q y.gf
theorem YrN.six {B:Nat} {w:World} {cs:List Value} {y:yO} (h:YrN B w cs y):∃ p1 n1 c1 p2 n2 c2 p3 n3 c3 p4 n4 c4 p5 n5 c5,cs=[.int .i64 y.num,.slice p1 n1 c1,.slice p2 n2 c2,.slice p3 n3 c3,.slice p4 n4 c4,.slice p5 n5 c5]:=by
 obtain⟨h,b,d,s,q,rfl,g1,g2,g3,g4,g5⟩:=h
 obtain⟨p1,c1,rfl⟩:=g1.form
 obtain⟨p2,c2,rfl⟩:=g2.form
 obtain⟨p3,c3,rfl⟩:=g3.form
 obtain⟨p4,c4,rfl⟩:=g4.form
 obtain⟨p5,c5,rfl⟩:=g5.form
 exact⟨_,_,_,_,_,_,_,_,_,_,_,_,_,_,_,rfl⟩
def CE (n:Nat) (_:World) (cs:List Value) (x:List Value):Prop:=cs=x/\x.length=n/\x.all bf=true
theorem mB (n:Nat):fD (CE n) n where
 kp:=λh _=>h
 len:=λh=>by rw[h.1];exact h.2.1
 ok:=λh=>by rw[h.1];exact h.2.2
theorem IB {α:Type} {E:World->List Value->α->Prop} {n:Nat} {w:World} {v:Value} {vs:List (List Value)} {es:List α} (h:cj (CE n) n w v vs) (hl:vs.length=es.length) (hg:∀ (i:Nat) (u:List Value) (a:α),vs[i]? =some u->es[i]? =some a->E w u a):cj E n w v es:=by
 obtain⟨p,c,rfl,h1,h2,h3⟩:=h
 refine⟨p,c,by rw[hl],by rw[<-hl];exact h1,h2,λi a ha=> ?_⟩
 obtain⟨u,hu⟩:∃ u,vs[i]? =some u:=⟨_,List.getElem?_eq_getElem (by rw[hl];exact (List.getElem?_eq_some_iff.1 ha).1)⟩
 obtain⟨b,off,cs,hp,hc,hE⟩:=h3 i u hu
 obtain⟨rfl,-⟩:=hE
 exact⟨b,off,_,hp,hc,hg i _ a hu ha⟩
def FilN (B:Nat) (w:World) (v:Value) (f:iU):Prop:=∃ pB nB cB sT pT nT cT tT yT mT dT sC pC nC cC tC yC mC dC sI pI nI cI tI yI mI dI sF pF nF cF tF yF mF dF pc Nc cc pe Ne ce py Ny cy,v=.agg #[.string f.name,.string f.parent,.slice pB nB cB,.bool sT,.slice pT nT cT,.bool tT,.slice yT mT dT,.bool sC,.slice pC nC cC,.bool tC,.slice yC mC dC,.int .i64 f.bk,.int .i64 f.fw,.bool sI,.slice pI nI cI,.bool tI,.slice yI mI dI,.bool sF,.slice pF nF cF,.bool tF,.slice yF mF dF,.int .i64 f.kp,.slice pc Nc cc,.slice pe Ne ce,.slice py Ny cy]/\aE (qX 2) 8 127 B w (.slice pB nB cB) f.pZ/\bZ 2 w [.bool sT,.slice pT nT cT,.bool tT,.slice yT mT dT] f.eW/\bZ 2 w [.bool sC,.slice pC nC cC,.bool tC,.slice yC mC dC] f.cap/\bZ 2 w [.bool sI,.slice pI nI cI,.bool tI,.slice yI mI dI] f.eX/\bZ 2 w [.bool sF,.slice pF nF cF,.bool tF,.slice yF mF dF] f.eZ/\aE (oZ 2) 6 64 B w (.slice pc Nc cc) f.cls/\aE dv 1 9 B w (.slice pe Ne ce) f.bu/\∃ Lj,aE (CE 6) 6 99 B w (.slice py Ny cy) Lj/\Lj.length=f.iy.length/\∀ (i:Nat) (cs:List Value) (y:yO),Lj[i]? =some cs->f.iy[i]? =some y->YrN B w cs y
abbrev TFil:TypeId->Bool:=λt=>(Nat.beq t 127 || (Nat.beq t 64 || (Nat.beq t 9 || (Nat.beq t 99 || (Nat.beq t 218 || (Nat.beq t 103 || (Nat.beq t 222 || (Nat.beq t 226 || Nat.beq t 230))))))))
set_option maxRecDepth 4000
def gA:iU:={ name:=⟨#[83]⟩,parent:=⟨#[80]⟩,pZ:=[((Rw.of (Rat.divInt 0 100)),(Rw.of (Rat.divInt 2500 10000)))],eW:=(Rw.of (Rat.divInt 7500 10000)),cap:=(Rw.of (Rat.divInt 5000 10000)),bk:=1,fw:=2,eX:=(Rw.of (Rat.divInt 3000 10000)),eZ:=(Rw.of (Rat.divInt 0 100)),kp:=1,cls:=[],bu:=[⟨#[80]⟩],iy:=[⟨2020,[],[],[],[],[]⟩] }
set_option maxRecDepth 8000 in
theorem Kr (w:World):Calls Tryz.prog 56 #[] w λo w'=>∃ r,o=.returned r/\FilN w.heap.size w' r gA/\ax w w':=by
 refine ai (C:=bj Tryz.prog w _) (args:=[]) Tryz.func56 rfl Tryz.ntmps56 (cr rfl) ?_
 refine ae ?_
 refine VO.cR rfl rfl (fk Tryz.func106) (λbL dw bX=>zV 0 bL aa aa) (λbL dw bX w1 s1 p1 n1 c1 t1 y1 m1 d1 q1 bl eM _ bb1=>wV rfl ?_)
 refine ae ?_
 refine VO.cR rfl rfl (fk Tryz.func107) (λdh eU dQ=>qa 2500 dh aa aa) (λdh eU dQ w2 s2 p2 n2 c2 t2 y2 m2 d2 q2 bM gr _ bb2=>wV rfl ?_)
 refine ae ?_
 refine VO.cR rfl rfl (fk Tryz.func107) (λgz gJ iL=>qa 7500 gz aa aa) (λgz gJ iL w3 s3 p3 n3 c3 t3 y3 m3 d3 q3 dU lN _ bb3=>wV rfl ?_)
 refine ae ?_
 refine VO.cR rfl rfl (fk Tryz.func107) (λjw kX kY=>qa 5000 jw aa aa) (λjw kX kY w4 s4 p4 n4 c4 t4 y4 m4 d4 q4 iX oK _ zJ=>wV rfl ?_)
 refine ae ?_
 refine VO.cR rfl rfl (fk Tryz.func107) (λjU kZ lO=>qa 3000 jU aa aa) (λjU kZ lO w5 s5 p5 n5 c5 t5 y5 m5 d5 q5 kj pQ _ AM=>wV rfl ?_)
 refine ae ?_
 refine VO.cR rfl rfl (fk Tryz.func106) (λuV sc BA=>zV 0 uV aa aa) (λuV sc BA w6 s6 p6 n6 c6 t6 y6 m6 d6 q6 uT yp _ Le=>wV rfl ?_)
 refine ae ?_
 refine VS.qh (cV _ _) rfl (λwz β kz bz en=> ?_)
 exact⟨_,rfl,⟨_,_,_,_,_,_,_,_,_,_,_,_,_,_,_,_,_,_,_,_,_,_,_,_,_,_,_,_,_,_,_,_,_,_,_,_,_,_,_,_,_,_,_,_,rfl,
  kK (E:=qX 2) (vs:=[[.bool s1,.slice p1 n1 c1,.bool t1,.slice y1 m1 d1,.bool s2,.slice p2 n2 c2,.bool t2,.slice y2 m2 d2]]) (spare:=[]) (en.own 4 _ _ rfl) (.cons (qX.mk' (bZ.of q1.kr (eH aa aa aa aa)) (bZ.of q2.kr (eH aa aa aa aa))) .nil) rfl (Nat.le_refl _) cH rfl (λ_ _ h=>h),
  (bZ.of q3.kr (eH aa aa aa aa)),(bZ.of q4.kr (eH aa aa aa aa)),(bZ.of q5.kr (eH aa aa aa aa)),(bZ.of q6.kr (eH aa aa aa aa)),aE.nil',
  kK (E:=dv) (vs:=[[.string ⟨#[80]⟩]]) (spare:=[]) (en.own 9 _ _ rfl) (.cons rfl .nil) rfl (Nat.le_refl _) cH rfl (λ_ _ h=>h),
  [[.int .i64 2020,.slice none 0 0,.slice none 0 0,.slice none 0 0,.slice none 0 0,.slice none 0 0]],kK (E:=CE 6) (vs:=[[.int .i64 2020,.slice none 0 0,.slice none 0 0,.slice none 0 0,.slice none 0 0,.slice none 0 0]]) (spare:=[]) (en.own 11 _ _ rfl) (.cons ⟨rfl,rfl,rfl⟩ .nil) rfl (Nat.le_refl _) cH rfl (λ_ _ h=>h),rfl,λi cs y hi hy=>by
    match i,hi,hy with
    | 0,hi,hy=>
      cases hi;cases hy
      exact⟨_,_,_,_,_,rfl,aE.nil',aE.nil',aE.nil',aE.nil',aE.nil'⟩
    | i+1,hi,_=>simp at hi⟩,bz⟩
section
variable {F F':Fr} {H H':Hp} {w w1:World} {N:Nat} {l':List Oper} {Q:Exit->Act->World->Prop} {k:List It} {id:Nat} {ops:Array Oper}
end
set_option maxRecDepth 4000
theorem pg {w:World} {b:Nat} {cs:List Value} (h:∀ (j:Nat) (u:Value),cs[j]? =some u->w.cell? ⟨b,j,none⟩=some u):∀ (j:Nat) (u:Value),cs[j]? =some u->w.cell? ((⟨b,0,none⟩:Addr).add j)=some u:=λj u hj=>by
 rw[Addr.add_mid,Nat.zero_add];exact h j u hj
section
variable {F F':Fr} {H H':Hp} {w w1:World} {N:Nat} {l':List Oper} {Q:Exit->Act->World->Prop} {k:List It} {id:Nat} {ops:Array Oper}
end
section
variable {F F':Fr} {H H':Hp} {w w1:World} {N:Nat} {l':List Oper} {Q:Exit->Act->World->Prop} {k:List It} {id:Nat} {ops:Array Oper}
end
set_option maxRecDepth 4000
def jn {α:Type} (E:World->List Value->α->Prop) (t1 t2:TypeId) (B:Nat) (w:World) (v:Value) (t:List (List α)):Prop:=∃ us,aE VE 1 t1 B w v us/\us.length=t.length/\(∀ (i:Nat) (u:Value) (r:List α),us[i]? =some u->t[i]? =some r->aE E 4 t2 B w u r)/\uI us
section
variable {α:Type} {E E':World->List Value->α->Prop} {t1 t2:TypeId} {B:Nat} {w w':World} {v:Value} {t:List (List α)}
theorem jn.kp {T:TypeId->Bool} (hE:fD E 4) (h:jn E t1 t2 B w v t) (k:jH T w w') (h1:T t1=true) (h2:T t2=true):jn E t1 t2 B w' v t:=by
 obtain⟨us,g1,g2,g3,g4⟩:=h
 exact⟨us,g1.kp db k h1,g2,λi u r hi hr=>(g3 i u r hi hr).kp hE k h2,g4⟩
theorem jn.imp (h:jn E t1 t2 B w v t) (hm:∀ (cs:List Value) (a:α),E w cs a->E' w cs a):jn E' t1 t2 B w v t:=by
 obtain⟨us,g1,g2,g3,g4⟩:=h
 exact⟨us,g1,g2,λi u r hi hr=>(g3 i u r hi hr).imp hm,g4⟩
theorem jn.mono {B':Nat} (h:jn E t1 t2 B w v t) (hB:B'<=B):jn E t1 t2 B' w v t:=by
 obtain⟨us,g1,g2,g3,g4⟩:=h
 exact⟨us,g1.mono hB,g2,λi u r hi hr=>(g3 i u r hi hr).mono hB,g4⟩
theorem jn.form (h:jn E t1 t2 B w v t):∃ p c,v=.slice p t.length c:=by
 obtain⟨us,g1,g2,_⟩:=h
 rw[<-g2];exact g1.form
theorem jn.nil:jn E t1 t2 B w (.slice none 0 0) ([]:List (List α)):=⟨[],.inl ⟨rfl,rfl⟩,rfl,λi u r hi=>(by simp at hi),λi j u v b hi=>(by simp at hi)⟩
end
def pj {α:Type} (E:World->List Value->α->Prop) (w:World) (cs:List Value) (r:List α):Prop:=∃ v,cs=[v]/\cj E 4 w v r
theorem IC {α:Type} {E:World->List Value->α->Prop} (hE:fD E 4):ElB (pj E):=λh hb=>by
 obtain⟨v,hv,h1⟩:=h
 exact⟨v,hv,h1.az hE hb⟩
theorem jn.rows {α:Type} {E:World->List Value->α->Prop} {t1 t2:TypeId} {B:Nat} {w:World} {v:Value} {t:List (List α)} (hE:fD E 4) (h:jn E t1 t2 B w v t):cj (pj E) 1 w v t:=by
 obtain⟨us,g1,g2,g3,_⟩:=h
 exact Bb (g1.sl db) g2 (λi u r hi hr=>⟨u,rfl,(g3 i u r hi hr).sl hE⟩)
theorem jn.o {kk B:Nat} {w:World} {v:Value} {t:kL} (h:jn (uJ B kk) 105 27 B w v t):fF kk B w v t:=h
set_option maxRecDepth 8000 in
theorem Ey (v:Value) (t:kL) (kk:Nat) (w:World) (hv:cj (lE kk) 1 w v t) (tw:1<=kk) (hk:kk<=1000) (hb:t.length<=100000) (bM:∀ r∈t,r.length<=100000):
  Calls Tryz.prog 77 #[.agg #[v]] w λo w'=>∃ r,o=.returned (.agg #[r])/\jn (uJ w.heap.size kk) 105 27 w.heap.size w' r t/\ax w w':=by
 obtain⟨p,c,rfl⟩:=hv.sl
 obtain⟨R,hR⟩:∃ R,R=t.length:=⟨_,rfl⟩
 rw[<-hR] at hv hb
 rw[<-hR]
 refine ai (C:=bj Tryz.prog w _) (args:=[_]) Tryz.func77 rfl Tryz.ntmps77 (cr rfl) ?_
 refine ae ?_
 refine VS.fY (J:=λm L W=>∃ (e g4 g:Nat) (rv:Value) (us:List Value),e<=R/\m=R-e/\L=[(10,.slice p R c),(11,.int .i64 (R:Int)),(2,.pointer (some ⟨g4,0,none⟩)),(3,.pointer (some ⟨g,0,none⟩)),(12,.int .i64 (e:Int))]/\ax w W/\w.heap.size<=g4/\w.heap.size<=g/\g4≠g/\aL W g4 52 #[.slice none 0 0]/\aL W g 52 #[rv]/\aE VE 1 105 w.heap.size W rv us/\us.length=e/\(∀ (i:Nat) (u:Value) (r:List Rat),us[i]? =some u->t[i]? =some r->aE (uJ w.heap.size kk) 4 27 w.heap.size W u r)/\uI us)
  (λW=>bj Tryz.prog W 37) (λ_=>rfl) (λ_=>rfl) (λ_=>ax.refl _) R (λw' β k' o en=>⟨[(10,.slice p R c),(11,.int .i64 (R:Int)),(2,.pointer (some ⟨β 2,0,none⟩)),(3,.pointer (some ⟨β 3,0,none⟩)),(12,.int .i64 ((0:Nat):Int))],⟨⟨_,_,rfl,rfl,rfl⟩,⟨_,_,rfl,rfl,rfl⟩,⟨_,_,rfl,rfl,rfl⟩,⟨_,_,rfl,rfl,rfl⟩,⟨_,_,rfl,rfl,rfl⟩,trivial⟩,0,β 2,β 3,.slice none 0 0,[],by omega,rfl,rfl,o,(en.own 2 _ _ rfl).new,(en.own 3 _ _ rfl).new,(λh=>absurd (en.apart 2 3 (by intro h;cases h) (by intro h;cases h) h) cH),(en.own 2 _ _ rfl).cls,(en.own 3 _ _ rfl).cls,.inl ⟨rfl,rfl⟩,rfl,λi u r hi=>(by simp at hi),λi j u v b hi=>(by simp at hi)⟩) ?_
 rintro m L W ⟨e,g4,g,rv,us,he,rfl,rfl,lQ,nu,Nw,kM,lS,zR,Gq,ze,sw,Nx⟩
 have hvW:cj (lE kk) 1 W (.slice p R c) t:=hv.oU (jQ kk) lQ
 refine ae ?_
 by_cases heR:e<R
 ·refine VS.aU rfl (decide_eq_true (Int.ofNat_lt.2 heR)) ?_
  obtain⟨ru,uR⟩:∃ r,t[e]? =some r:=⟨_,List.getElem?_eq_getElem aa⟩
  obtain⟨br,Ez,csr,rfl,hcr,⟨xv,rfl,yP⟩⟩:=hvW.at uR
  obtain⟨pc,cc,rfl⟩:=yP.sl
  obtain⟨K,hK⟩:∃ K,K=ru.length:=⟨_,rfl⟩
  rw[<-hK] at yP hcr
  have hKb:K<=100000:=by rw[hK];exact bM ru (List.mem_of_getElem? uR)
  refine ae ?_
  refine VO.cond rfl cW ?_
  refine wV rfl ?_
  refine ae ?_
  refine VO.read rfl [.slice pc K cc] rfl (cN hcr) (wV rfl ?_)
  refine ae ?_
  refine VS.loop (J:=λm L M w'=>∃ (z:Nat) (X:AV) (Mi:List (Nat×(TypeId×List AV))),z<=K/\m=K-z/\L=[(10,.val (.slice (some ⟨br,Ez,none⟩) R c)),(11,.val (.int .i64 (R:Int))),(2,.val (.pointer (some ⟨g4,0,none⟩))),(3,.val (.pointer (some ⟨g,0,none⟩))),(12,.val (.int .i64 (e:Int))),(16,.val (.slice pc K cc)),(17,.val (.int .i64 (K:Int))),(6,X),(18,.val (.int .i64 (z:Int)))]/\M=Mi/\dD (uJ w.heap.size kk) 4 27 27 X Mi w' (ru.take z)) K ⟨_,_,?_,?_,?_,?_,⟨0,_,[],by omega,rfl,rfl,rfl,.inl ⟨rfl,rfl,rfl⟩⟩⟩ ?_
  ·exact du
  ·exact du
  ·rfl
  ·exact iq
  rintro m L Mi wI ⟨z,X,Nz,hz,rfl,rfl,rfl,hI⟩
  refine VS.now (λwX kN bN=> ?_)
  replace hI:=hI.kp (cO w.heap.size kk) (aK.dN kN)
  refine VS.mask [8,24,26] (by rcases hI with ⟨_,rfl,rfl⟩|⟨_,_,_,_,rfl,rfl,_⟩ <;> (repeat first|exact trivial|refine⟨rfl,?_⟩)) ?_
  refine ae ?_
  by_cases hzK:z<K
  ·obtain⟨y,hy⟩:∃ y,ru[z]? =some y:=⟨_,List.getElem?_eq_getElem aa⟩
   obtain⟨bx,offx,uG,rfl,nN,⟨s0,p0,n0,c0,t0,y0,m0,d0,rfl,vo⟩⟩:=yP.at hy
   refine VS.aU rfl (decide_eq_true (Int.ofNat_lt.2 hzK)) ?_
   refine ae ?_
   refine VO.cond rfl cW ?_
   refine wV rfl ?_
   refine ae ?_
   refine VO.read rfl [.bool s0,.slice p0 n0 c0,.bool t0,.slice y0 m0 d0] rfl (aC nN 0 _ ⟨[],rfl⟩) (wV rfl ?_)
   refine ae ?_
   refine VO.Du rfl (fk Tryz.func39) (λbL β dw bX ho=>(xE _ [y] kk bL (zM (ho.own 24 (.base (List.mem_singleton.2 rfl)) _ _ rfl) [] (vs:=[[.bool s0,.slice p0 n0 c0,.bool t0,.slice y0 m0 d0]]) (by rfl) rfl (jP.cons (vo.kp (Kp.of (U:=UU) bX)) jP.nil) (cr rfl) cH) (by unfold gU oM;simp;omega)).mono ?_)
   rintro o w1 ⟨r1,rfl,q1,-,bl⟩
   rw[En] at q1
   obtain⟨s1,p1,n1,c1,t1,y1,m1,d1,rfl⟩:=q1.form
   refine cP bl ?_
   intro eM _ bb1
   have dE:uJ w.heap.size kk w1 [.bool s1,.slice p1 n1 c1,.bool t1,.slice y1 m1 d1] y:=.mk (q1.mono (lQ.aH bX).size) (vo.sz tw)
   rcases hI with ⟨dc,rfl,rfl⟩|⟨n',c',vs,sp,rfl,rfl,mw⟩
   ·refine VO.iM (cV _ _) (cO w.heap.size kk) (t:=105) (e:=27) (s:=26) (a:=y) (cs:=[.bool s1,.slice p1 n1 c1,.bool t1,.slice y1 m1 d1]) rfl rfl rfl rfl rfl rfl rfl rfl (cr rfl) rfl rfl rfl dE aa (λw9 cap sp k9 b9 dR=>wV rfl ?_)
    refine ae ?_
    refine VS.back (K-(z+1)) aa ⟨_,_,?_,?_,?_,?_,⟨z+1,_,_,by omega,rfl,rfl,rfl,.inr ⟨1,cap,_,sp,rfl,rfl,by rw[aR hy,dc];exact dR⟩⟩⟩
    ·(refine⟨rfl,rfl,rfl,rfl,rfl,rfl,rfl,rfl,?_,trivial⟩;rw[<-ay (i:=z) aa];rfl)
    ·(repeat first|exact trivial|refine⟨rfl,?_⟩|refine⟨congrArg (λl=>some (_,l)) (bU (by first|exact bO.dm (by assumption)|exact af _|(rw[<-List.map_append];exact af _)) _ _),?_⟩)
    ·rfl
    ·(repeat first|exact trivial|refine⟨aw.lit rfl,?_⟩|refine⟨bO.oO (by assumption),?_⟩|refine⟨aw.append (.vals _) (.vals _),?_⟩|refine⟨aw.vals _,?_⟩)
   ·have nW:=mw.len
    refine VO.iP (cV _ _) (cO w.heap.size kk) (t:=105) (e:=27) (s:=26) (i:=27) (n:=n') (c:=c') (vs:=vs) (sp:=sp) (es:=ru.take z) (a:=y) (cs:=[.bool s1,.slice p1 n1 c1,.bool t1,.slice y1 m1 d1]) rfl rfl rfl rfl rfl rfl rfl rfl (cr rfl) rfl (.inr rfl) rfl (mw.kp (cO w.heap.size kk) dz) rfl dE (by rw[List.length_take] at nW;omega) (λw9 ir fx ρ k9 b9 dY dR=>wV rfl ?_)
    refine ae ?_
    refine VS.back (K-(z+1)) aa ⟨_,_,?_,?_,?_,?_,⟨z+1,_,_,by omega,rfl,rfl,rfl,.inr ⟨n' +1,ir,_,fx,rfl,rfl,by rw[aR hy];exact dR⟩⟩⟩
    ·(refine⟨rfl,rfl,rfl,rfl,rfl,rfl,rfl,rfl,?_,trivial⟩;rw[<-ay (i:=z) aa];rfl)
    ·(repeat first|exact trivial|refine⟨rfl,?_⟩|refine⟨congrArg (λl=>some (_,l)) (bU (by first|exact bO.dm (by assumption)|exact af _|(rw[<-List.map_append];exact af _)) _ _),?_⟩)
    ·rfl
    ·(repeat first|exact trivial|refine⟨aw.lit rfl,?_⟩|refine⟨bO.oO (by assumption),?_⟩|refine⟨aw.append (.vals _) (.vals _),?_⟩|refine⟨aw.vals _,?_⟩)
  refine VS.aN rfl (decide_eq_false (λe=>hzK (Int.ofNat_lt.1 e))) ?_
  obtain rfl:K=z:=by omega
  rw[List.take_of_length_le aa] at hI
  subst ze
  refine VS.bI zQ (λt=>Nat.beq t 23) table (λ_ _ _=>trivial) (λbm jk k1 fG jZ=> ?_)
  have ar:ax W bm:=fG
  have aQ:=hI.told (cO w.heap.size kk) jZ (by intro q hq;rcases hI with ⟨_,rfl,rfl⟩|⟨_,_,_,_,rfl,rfl,_⟩ <;> first|(cases hq;done)|(cases List.mem_singleton.1 hq;rfl)) k1.dN W.heap.size (λh=>h)
  have nw:=zR.az ar
  have iu:=lQ.size
  have fL:=ar.size
  rcases Gq with ⟨rfl,rfl⟩|⟨b0,cB,Bd,Be,rfl,hBg,my,xQ,xR,Gr,Gs,Gt⟩
  ·have cZ:cM zQ 37 [g] [(52,[.val (.slice none 0 0)])] bm:=by
    refine⟨rfl,by simp,λj g' c' hj hc=> ?_,λc' hc=> ?_,λc' hc k hk=> ?_⟩
    ·match j,hj,hc with
     | 0,hj,hc=>cases hj;cases hc;exact nw
     | j+1,hj,_=>simp at hj
    ·cases List.mem_singleton.1 hc
     exact⟨rfl,rfl⟩
    ·cases List.mem_singleton.1 hc
     cases hk
   refine⟨[g],[(52,[.val (.slice none 0 0)])],cZ,[(10,.val (.slice (some ⟨br,Ez,none⟩) R c)),(11,.val (.int .i64 (R:Int))),(2,.val (.pointer (some ⟨g4,0,none⟩))),(3,.box 74 0),(12,.val (.int .i64 (([]:List Value).length:Int))),(6,.val (X.aM jk))],⟨⟨_,rfl,rfl,λi hi=>(by cases hi)⟩,⟨_,rfl,rfl,λi hi=>(by cases hi)⟩,⟨_,rfl,rfl,λi hi=>(by cases hi)⟩,⟨_,rfl,rfl,λi hi=>by rw[(by simpa [AV.ids] using hi:i=74)];exact⟨(by show 74<=74;omega),(by show 74<2*37+1;omega)⟩⟩,⟨_,rfl,rfl,λi hi=>(by cases hi)⟩,⟨_,rfl,rfl,λi hi=>(by cases hi)⟩,trivial⟩,?_⟩
   generalize X.aM jk=vv at aQ ⊢
   obtain⟨nx,ny,rfl⟩:=aQ.form
   refine oV ?_
   refine VO.iM (sq _ _) db (t:=50) (e:=105) (s:=32) (a:=.slice nx ru.length ny) (cs:=[.slice nx ru.length ny]) rfl rfl rfl rfl rfl rfl rfl rfl (cr rfl) rfl rfl rfl ⟨rfl,_,_,_,rfl⟩ aa (λgm cap sp vK vL dR=>wV rfl ?_)
   refine oV ?_
   refine VS.fq rfl (R-(([]:List Value).length+1)) aa (λw' bn k' o' jx=> ?_)
   have rh:aK zQ bm w':=(show aK zQ bm gm from dz).aH k'
   have kc:ax w w':=eJ.az (lQ.aH ar) o'.1 (λx hx=>by rw[List.mem_singleton.1 hx];omega)
   have hst:dD VE 1 105 33 (.row 33 0 1 cap) [(33,(105,_))] gm ([.slice nx ru.length ny]):=.inr ⟨_,cap,_,sp,rfl,rfl,dR⟩
   have eI:=hst.told db jx (λx hx=>by cases List.mem_singleton.1 hx;rfl) k'.dN w.heap.size (λh=>(ba (show ez 37 [g] bm 33 (bn 33) from h)).elim (λq=>Nat.le_trans iu (Nat.le_trans fL q)) (λq=>by rw[List.mem_singleton.1 q];omega))
   have sP:=jx.own 74 _ _ rfl
   have jm:bn 74=g:=(lP sP 0 g rfl rfl).1
   refine⟨[(10,.slice (some ⟨br,Ez,none⟩) R c),(11,.int .i64 (R:Int)),(2,.pointer (some ⟨g4,0,none⟩)),(3,.pointer (some ⟨bn 74,0,none⟩)),(12,.int .i64 ((([]:List Value).length+1:Nat):Int))],⟨⟨_,_,rfl,rfl,rfl⟩,⟨_,_,rfl,rfl,rfl⟩,⟨_,_,rfl,rfl,rfl⟩,⟨_,_,rfl,rfl,rfl⟩,⟨_,_,rfl,congrArg (λz=>Value.int .i64 z) (ay (i:=([]:List Value).length) aa),rfl⟩,trivial⟩,([]:List Value).length+1,g4,bn 74,.slice (some ⟨bn 33,0,none⟩) 1 cap,[Value.slice nx ru.length ny],by omega,rfl,rfl,kc,nu,by rw[jm];exact Nw,by rw[jm];exact kM,(lS.az ar).but o'.1 (by simp[kM]),sP.cls,eI,by simp,?_,?_⟩
   ·exact pS (vs:=([]:List Value)) (l:=t) (P:=λu r=>aE (uJ w.heap.size kk) 4 27 w.heap.size w' u r) (λi u r hi hr=>((sw i u r hi hr).az (cO w.heap.size kk) ar).kp (cO w.heap.size kk) rh rfl) uR ((aQ.kp (cO w.heap.size kk) rh rfl).mono iu)
   ·exact fZ (us:=([]:List Value)) (λi j u v b hi=>(by simp at hi)) (λi v b hi hb=>by
     obtain⟨r,hr⟩:∃ r,t[i]? =some r:=⟨_,List.getElem?_eq_getElem (by have:=(List.getElem?_eq_some_iff.1 hi).1;simp at this)⟩
     exact ((sw i v r hi hr).gv hb).2) (λb hb=>(aQ.gv hb).1)
  ·have xS:=my.az ar
   have hgb:g≠b0:=λh=>by rw[h] at nw;exact absurd (bt nw xS) cH
   have Gu:g4≠b0:=λh=>by rw[h] at lS;exact absurd (bt lS my) cH
   have cZ:cM zQ 37 [g,b0] [(52,[.row 75 0 us.length cB]),(105,Bd.flatten.map .val++Be.map .val)] bm:=by
    refine⟨rfl,by simp[hgb],λj g' c' hj hc=> ?_,λc' hc=> ?_,λc' hc k hk=> ?_⟩
    ·match j,hj,hc with
     | 0,hj,hc=>cases hj;cases hc;exact nw
     | 1,hj,hc=>cases hj;cases hc;rw[<-List.map_append,aP];exact xS
     | j+2,hj,_=>simp at hj
    ·rcases List.mem_cons.1 hc with rfl|hc
     ·exact⟨rfl,rfl⟩
     ·cases List.mem_singleton.1 hc
      exact⟨rfl,by rw[<-List.map_append];exact bc (by rw[List.all_append,(xQ.ok db).1,xR];rfl)⟩
    ·rcases List.mem_cons.1 hc with rfl|hc
     ·have:k=75:=by simpa [aW,AV.dm] using hk
      subst this;exact⟨by omega,by show 75<2*37+2;omega⟩
     ·cases List.mem_singleton.1 hc
      rw[<-List.map_append,af] at hk;cases hk
   have qj:bO VE 1 bm us.length cB Bd (Be.map .val) us:=⟨rfl,xQ.kp db (Kp.of (U:=UU) ar),bc xR,af _,Gr,Gs,by rw[<-List.map_append,List.length_map];exact Gt⟩
   refine⟨[g,b0],[(52,[.row 75 0 us.length cB]),(105,Bd.flatten.map .val++Be.map .val)],cZ,[(10,.val (.slice (some ⟨br,Ez,none⟩) R c)),(11,.val (.int .i64 (R:Int))),(2,.val (.pointer (some ⟨g4,0,none⟩))),(3,.box 74 0),(12,.val (.int .i64 (us.length:Int))),(6,.val (X.aM jk))],⟨⟨_,rfl,rfl,λi hi=>(by cases hi)⟩,⟨_,rfl,rfl,λi hi=>(by cases hi)⟩,⟨_,rfl,rfl,λi hi=>(by cases hi)⟩,⟨_,rfl,rfl,λi hi=>by rw[(by simpa [AV.ids] using hi:i=74)];exact⟨(by show 74<=74;omega),(by show 74<2*37+2;omega)⟩⟩,⟨_,rfl,rfl,λi hi=>(by cases hi)⟩,⟨_,rfl,rfl,λi hi=>(by cases hi)⟩,trivial⟩,?_⟩
   generalize X.aM jk=vv at aQ ⊢
   obtain⟨nx,ny,rfl⟩:=aQ.form
   refine oV ?_
   refine VO.iP (sq _ _) db (t:=50) (e:=105) (s:=32) (i:=75) (n:=us.length) (c:=cB) (vs:=Bd) (sp:=Be.map .val) (es:=us) (a:=.slice nx ru.length ny) (cs:=[.slice nx ru.length ny]) rfl rfl rfl rfl rfl rfl rfl rfl (cr rfl) rfl (.inl rfl) rfl (qj.kp db (aK.dN (show aK zQ bm _ from dz))) rfl ⟨rfl,_,_,_,rfl⟩ aa (λgm cap sp ρ vK vL dY dR=>wV rfl ?_)
   refine oV ?_
   refine VS.fq rfl (R-(us.length+1)) aa (λw' bn k' o' jx=> ?_)
   have rh:aK zQ bm w':=(show aK zQ bm gm from dz).aH k'
   have kc:ax w w':=eJ.az (lQ.aH ar) o'.1 (λx hx=>by
    rcases List.mem_cons.1 hx with rfl|hx
    ·omega
    ·rw[List.mem_singleton.1 hx];omega)
   have hst:dD VE 1 105 33 (.row 33 0 (us.length+1) cap) [(33,(105,_))] gm (us++[.slice nx ru.length ny]):=.inr ⟨_,cap,_,sp,rfl,rfl,dR⟩
   have eI:=hst.told db jx (λx hx=>by cases List.mem_singleton.1 hx;rfl) k'.dN w.heap.size (λh=>(ba (show ez 37 [g,b0] bm 33 (bn 33) from h)).elim (λq=>Nat.le_trans iu (Nat.le_trans fL q)) (λq=>by
    rcases List.mem_cons.1 q with h|h
    ·rw[h];omega
    ·rw[List.mem_singleton.1 h];omega))
   have sP:=jx.own 74 _ _ rfl
   have jm:bn 74=g:=(lP sP 0 g rfl rfl).1
   refine⟨[(10,.slice (some ⟨br,Ez,none⟩) R c),(11,.int .i64 (R:Int)),(2,.pointer (some ⟨g4,0,none⟩)),(3,.pointer (some ⟨bn 74,0,none⟩)),(12,.int .i64 ((us.length+1:Nat):Int))],⟨⟨_,_,rfl,rfl,rfl⟩,⟨_,_,rfl,rfl,rfl⟩,⟨_,_,rfl,rfl,rfl⟩,⟨_,_,rfl,rfl,rfl⟩,⟨_,_,rfl,congrArg (λz=>Value.int .i64 z) (ay (i:=us.length) aa),rfl⟩,trivial⟩,us.length+1,g4,bn 74,.slice (some ⟨bn 33,0,none⟩) (us.length+1) cap,us++[Value.slice nx ru.length ny],by omega,rfl,rfl,kc,nu,by rw[jm];exact Nw,by rw[jm];exact kM,(lS.az ar).but o'.1 (by simp[kM,Gu]),sP.cls,eI,by simp,?_,?_⟩
   ·exact pS (vs:=us) (l:=t) (P:=λu r=>aE (uJ w.heap.size kk) 4 27 w.heap.size w' u r) (λi u r hi hr=>((sw i u r hi hr).az (cO w.heap.size kk) ar).kp (cO w.heap.size kk) rh rfl) uR ((aQ.kp (cO w.heap.size kk) rh rfl).mono iu)
   ·exact fZ (us:=us) Nx (λi v b hi hb=>by
     obtain⟨r,hr⟩:∃ r,t[i]? =some r:=⟨_,List.getElem?_eq_getElem (by have:=(List.getElem?_eq_some_iff.1 hi).1;omega)⟩
     exact ((sw i v r hi hr).gv hb).2) (λb hb=>(aQ.gv hb).1)
 refine VS.aN rfl (decide_eq_false (λh=>heR (Int.ofNat_lt.1 h))) ?_
 obtain rfl:R=e:=by omega
 (repeat (first|refine wN ?_|refine wP rfl ?_|refine wO rfl rfl ?_))
 obtain⟨pv,cv,rfl⟩:=Gq.form
 refine VS.bI di (λt=>Nat.beq t 23) table (λ_ _ _=>trivial) (λbm jk k1 fG jZ=> ?_)
 have ar:ax W bm:=fG
 have cZ:cM di 37 [g4] [(52,[.val (.slice none 0 0)])] bm:=by
  refine⟨rfl,by simp,λj g' c' hj hc=> ?_,λc' hc=> ?_,λc' hc k hk=> ?_⟩
  ·match j,hj,hc with
   | 0,hj,hc=>cases hj;cases hc;exact lS.az ar
   | j+1,hj,_=>simp at hj
  ·cases List.mem_singleton.1 hc
   exact⟨rfl,rfl⟩
  ·cases List.mem_singleton.1 hc
   cases hk
 refine⟨[g4],[(52,[.val (.slice none 0 0)])],cZ,[(2,.box 74 0),(3,.val (.pointer (some ⟨g,0,none⟩)))],⟨⟨_,rfl,rfl,λi hi=>by rw[(by simpa [AV.ids] using hi:i=74)];exact⟨(by show 74<=74;omega),(by show 74<2*37+1;omega)⟩⟩,⟨_,rfl,rfl,λi hi=>(by cases hi)⟩,trivial⟩,?_⟩
 refine ag ?_
 refine VO.aO rfl [.slice pv us.length cv] rfl (at_one (aY (λh=>kM h.symm) ((zR.az ar).cell (j:=0) rfl))) (wV rfl ?_)
 refine ag ?_
 refine VS.qh (bA _ _) rfl (λwz β kz bz en=> ?_)
 have kc:ax w wz:=eJ.az (lQ.aH ar) bz.1 (λx hx=>by rw[List.mem_singleton.1 hx];exact nu)
 have hT:jn (uJ w.heap.size kk) 105 27 w.heap.size W (.slice pv us.length cv) t:=⟨us,Gq,by omega,sw,Nx⟩
 exact⟨_,rfl,hT.kp (cO w.heap.size kk) (T:=λt=> !Nat.beq t 52) ((aK.of ar).aH (eJ.kp bz.1 (λx hx=>⟨52,[.slice none 0 0],by rw[List.mem_singleton.1 hx];exact lS.az ar,rfl,rfl⟩))) rfl rfl,kc⟩
def mD (t:kL) (e c:Int) (x:Rat):kL:=if mv t e c=true then qU t e.toNat c.toNat x else t
def yQ (t:kL) (e c:Int):Rat:=if mv t e c=true then (t.getD e.toNat []).getD c.toNat 0 else 0
theorem tget_at {t:kL} {E K:Nat} {xs:List Rat} {y:Rat} (hx:t[E]? =some xs) (hy:xs[K]? =some y):yQ t (E:Int) (K:Int)=y:=by
 have h1:=(List.getElem?_eq_some_iff.1 hx).1
 have h2:=(List.getElem?_eq_some_iff.1 hy).1
 have hh:mv t (E:Int) (K:Int)=true:=by
  unfold mv
  rw[Int.toNat_natCast,List.getD_eq_getElem?_getD,hx]
  exact decide_eq_true ⟨by omega,by omega,by omega,by simpa using h2⟩
 unfold yQ
 rw[if_pos hh,Int.toNat_natCast,Int.toNat_natCast]
 simp[List.getD_eq_getElem?_getD,hx,hy]
set_option maxRecDepth 4000 in
theorem sA (v:Value) (t:kL) (e c:Int) (kk:Nat) (w:World) (hv:cj (lE kk) 1 w v t) (hk:kk<=1000):
  Calls Tryz.prog 30 #[.agg #[v],.int .i64 e,.int .i64 c] w λo w'=>∃ r,o=.returned r/\bQ w' w.heap.size r (yQ t e c)/\ax w w':=by
 cases hh:mv t e c with
 | true=>
   obtain⟨E,K,xs,y,rfl,rfl,hx,hy⟩:=pY hh
   rw[tget_at hx hy]
   exact at_any v t xs y E K kk w hv hx hy hk
 | false=>
   have hz:yQ t e c=0:=by unfold yQ;rw[hh];rfl
   rw[hz]
   obtain⟨p,cp,rfl⟩:=hv.sl
   refine ai (C:=bj Tryz.prog w _) (args:=[_,_,_]) Tryz.func30 rfl Tryz.ntmps30 (cr rfl) ?_
   refine ae ?_
   refine VO.call rfl rfl (fk Tryz.func63) (λbL dw bX=>(xO _ t e c kk bL (hv.oU (jQ kk) bX)).mono ?_)
   rintro o w1 ⟨rfl,bl⟩
   rw[hh]
   refine cP bl ?_
   intro eM _ bb1
   refine VO.cR rfl rfl (fk Tryz.func37) (λdh eU dQ=>nk 0 dh aa aa) (λdh eU dQ w2 s2 p2 n2 c2 t2 y2 m2 d2 q2 bM gr _ bb2=>wV rfl ?_)
   refine ae ?_
   refine bV ?_;intro wz kz bz
   exact⟨_,rfl,(q2.kp kz).mono dQ.size,bz⟩
theorem Ks {t:kL} {e c:Int} {x:Rat} (h:mv t e c=false):mD t e c x=t:=by unfold mD;rw[h];rfl
abbrev KQA:KC:=⟨UU,λ_=>True,λt=>TQ t⟩
abbrev ND (P:Program) (w:World) (N:Nat) (ad:List Nat) (hd:ad.Nodup) (ha:iH KQA ad w):Cx:=yD P w N KQA (λt=>Nat.beq t 23) table (λ_ _=>trivial) ad hd ha
theorem ID (w:World) (N:Nat) {ad:List Nat} {hd:ad.Nodup} {ha:iH KQA ad w}:(ND Tryz.prog w N ad hd ha).Ok:=eD
section
variable {F F':Fr} {H H':Hp} {w w1:World} {N:Nat} {l':List Oper} {Q:Exit->Act->World->Prop} {k:List It} {id:Nat} {ops:Array Oper}
theorem cxQA_r {ad:List Nat} {hd:ad.Nodup} {ha:iH KQA ad w1} (e:im (ND Tryz.prog w1 N ad hd ha) ops 80 ops.toList F H=(l',F',H')) (h:aB (ND Tryz.prog w1 N ad hd ha) none ops l' (VS (ND Tryz.prog w1 N ad hd ha) Q k) F' H' w):VS (ND Tryz.prog w1 N ad hd ha) Q (.code (.region id ops false)::k) F H w:=VS.region (ID _ _) (VO.run 80 e h)
end
theorem NF {P Q:Prop} (h:Q) (i:Q->P:=by intro h;(repeat first|refine wN ?_|refine wP rfl ?_|refine cxQA_r rfl ?_|refine cxQA_d rfl ?_|refine wO rfl rfl ?_);exact h):P:=i h
theorem NG {P Q X:Prop} (hb:X) (h:Q) (i:X->Q->P:=by intro hb h;refine⟨_,rfl,hb,λa b c=>wV rfl ?_⟩;refine NF ?_;revert a b c;exact h):P:=i hb h
set_option maxRecDepth 4000 in
theorem Kt (v u:Value) (t:kL) (e c:Int) (x:Rat) (kk k:Nat) (w:World) (hv:cj (lE kk) 1 w v t) (hu:df w u x k) (tw:1<=kk) (hk2:1<=k) (hk:kk<=1000) (hk3:k<=1000) (hb:t.length<=100000) (bM:∀ r∈t,r.length<=100000):
  Calls Tryz.prog 28 #[.agg #[v],.int .i64 e,.int .i64 c,u] w λo w'=>∃ r,o=.returned (.agg #[r])/\fF (kk+k+1) w.heap.size w' r (mD t e c x)/\ax w w':=by
 obtain⟨p,cp,rfl⟩:=hv.sl
 obtain⟨s0,p0,n0,c0,t0,y0,m0,d0,rfl⟩:=hu.form
 refine ai (C:=bj Tryz.prog w _) (args:=[_,_,_,_]) Tryz.func28 rfl Tryz.ntmps28 (cr rfl) ?_
 (repeat (first|refine wN ?_|refine wP rfl ?_|refine wO rfl rfl ?_))
 refine cx_r rfl ?_
 (repeat (first|refine wN ?_|refine wP rfl ?_|refine wO rfl rfl ?_))
 refine VS.bI KQA (λt=>Nat.beq t 23) table (λ_ _ _=>trivial) (λw0' NH k0 iZ NI=> ?_)
 have hb0':ax w w0':=iZ
 have h4:=(NI.own 4 _ _ rfl).cls
 have h7:=(NI.own 7 _ _ rfl).cls
 have h8:=(NI.own 8 _ _ rfl).cls
 have hn4:=(NI.own 4 _ _ rfl).new
 have hn8:=(NI.own 8 _ _ rfl).new
 have h48:NH 4≠NH 8:=λh=>absurd (NI.apart 4 8 (by intro h;cases h) (by intro h;cases h) h) cH
 have h47:NH 4≠NH 7:=λh=>absurd (NI.apart 4 7 (by intro h;cases h) (by intro h;cases h) h) cH
 have h78:NH 7≠NH 8:=λh=>absurd (NI.apart 7 8 (by intro h;cases h) (by intro h;cases h) h) cH
 obtain⟨g4,e4⟩:∃ g,g=NH 4:=⟨_,rfl⟩
 obtain⟨g7,e7⟩:∃ g,g=NH 7:=⟨_,rfl⟩
 obtain⟨g8,e8⟩:∃ g,g=NH 8:=⟨_,rfl⟩
 rw[<-e4] at h4 hn4 h48 h47
 rw[<-e7] at h7 h47 h78
 rw[<-e8] at h8 hn8 h48 h78
 have cZ:cM KQA 23 [g4,g8] [(52,[.val (.slice p t.length cp)]),(52,[.val (.slice none 0 0)])] w0':=by
  refine⟨rfl,by simp[h48],λj g' c' hj hc=> ?_,λc' hc=> ?_,λc' hc k hk=> ?_⟩
  ·match j,hj,hc with
   | 0,hj,hc=>cases hj;cases hc;exact h4
   | 1,hj,hc=>cases hj;cases hc;exact h8
   | j+2,hj,_=>simp at hj
  ·rcases List.mem_cons.1 hc with rfl|hc
   ·exact⟨rfl,rfl⟩
   ·cases List.mem_singleton.1 hc
    exact⟨rfl,rfl⟩
  ·rcases List.mem_cons.1 hc with rfl|hc
   ·cases hk
   ·cases List.mem_singleton.1 hc
    cases hk
 refine⟨[g4,g8],[(52,[.val (.slice p t.length cp)]),(52,[.val (.slice none 0 0)])],cZ,[(1,.val (.int .i64 e)),(2,.val (.int .i64 c)),(4,.box 46 0),(7,.val (.pointer (some ⟨g7,0,none⟩))),(8,.box 47 0)],⟨⟨_,rfl,rfl,λi hi=>(by cases hi)⟩,⟨_,rfl,rfl,λi hi=>(by cases hi)⟩,⟨_,rfl,congrArg (λb=>Value.pointer (some ⟨b,0,none⟩)) e4,λi hi=>by rw[(by simpa [AV.ids] using hi:i=46)];exact⟨(by show 46<=46;omega),(by show 46<2*23+2;omega)⟩⟩,⟨_,rfl,congrArg (λb=>Value.pointer (some ⟨b,0,none⟩)) e7,λi hi=>(by cases hi)⟩,⟨_,rfl,congrArg (λb=>Value.pointer (some ⟨b,0,none⟩)) e8,λi hi=>by rw[(by simpa [AV.ids] using hi:i=47)];exact⟨(by show 46<=47;omega),(by show 47<2*23+2;omega)⟩⟩,trivial⟩,?_⟩
 have hm:∀ q∈[g4,g8],w.heap.size<=q:=λq hq=>by
  rcases List.mem_cons.1 hq with rfl|hq
  ·exact hn4
  ·rw[List.mem_singleton.1 hq];exact hn8
 have xV:∀ (w1:World),eJ [g4,g8] w0' w1->ax w w1:=λw1 h=>eJ.az hb0' h hm
 refine NF ?_
 refine VO.call rfl rfl (fk Tryz.func77) (λbL dw bX=>(Ey _ t kk bL (hv.oU (jQ kk) (xV _ bX.1)) tw hk hb bM).mono ?_)
 rintro o w1 ⟨r1,rfl,q1,bl⟩
 obtain⟨p1,c1,rfl⟩:=q1.form
 refine NG bl ?_
 intro eM _ bb1
 refine VO.call rfl rfl (fk Tryz.func63) (λdh eU dQ=>(xO _ t e c kk dh ((q1.o.kp (show jH TQ w1 dh from dz) rfl rfl).tab)).mono ?_)
 rintro o w2 ⟨rfl,bM⟩
 cases hh:mv t e c with
 | false=>
   refine NG bM ?_
   intro gr _ bb2
   refine VS.ret (ID _ _) rfl rfl (λwz kz bz=> ?_)
   rw[Ks hh]
   exact⟨_,rfl,((q1.o.kp (show jH TQ w1 wz from dz) rfl rfl).up aa).mono (xV _ bX.1).size,xV _ bz.1⟩
 | true=>
   obtain⟨E,K,xs,y,rfl,rfl,hx,hy⟩:=pY hh
   refine⟨_,rfl,bM,λgr _ bb2=>wV rfl ?_⟩
   (repeat (first|refine wN ?_|refine wP rfl ?_|refine wO rfl rfl ?_))
   refine VS.eV (λw=>Bf Tryz.prog w 23) (λ_=>rfl) (λ_=>rfl) (λ_=>ax.refl _) (λw9 β k9 b9 en=> ?_)
   have lZ:ax w w9:=xV _ b9.1
   have hT9:=((q1.o.kp (show jH TQ w1 w9 from dz) rfl rfl).up (show kk<=kk+k+1 by omega)).mono (xV _ bX.1).size
   have hu9:=hu.kp (Kp.of (U:=UU) lZ)
   have o46:=lP (en.own 46 _ _ rfl) 0 g4 rfl rfl
   have o47:=lP (en.own 47 _ _ rfl) 1 g8 rfl rfl
   have h4:aL w9 g4 52 #[.slice p1 t.length c1]:=o46.2
   have h8:aL w9 g8 52 #[.slice none 0 0]:=o47.2
   have h7:=h7.but b9.1 (by simp[h47.symm,h78])
   have h9:=(en.own 9 _ _ rfl).cls
   refine⟨[(4,.val (.pointer (some ⟨g4,0,none⟩))),(7,.val (.pointer (some ⟨g7,0,none⟩))),(8,.val (.pointer (some ⟨g8,0,none⟩))),(9,.val (.pointer (some ⟨β 9,0,none⟩)))],⟨⟨_,_,rfl,congrArg (λb=>Value.pointer (some ⟨b,0,none⟩)) o46.1,rfl⟩,⟨_,_,rfl,rfl,rfl⟩,⟨_,_,rfl,congrArg (λb=>Value.pointer (some ⟨b,0,none⟩)) o47.1,rfl⟩,⟨_,_,rfl,rfl,rfl⟩,trivial⟩,?_⟩
   generalize β 9=g9 at h9 ⊢
   have h9:aL w9 g9 _ #[.int .i64 (E:Int),.int .i64 (K:Int)]:=h9
   have h7:aL w9 g7 _ #[.bool s0,.slice p0 n0 c0,.bool t0,.slice y0 m0 d0]:=h7
   have xI:lM y kk:=by
    obtain⟨b,off,cs,_,_,⟨xv,rfl,yP⟩⟩:=(show cj (lE kk) 1 w (.slice p t.length cp) t from hv).at hx
    obtain⟨p3,c3,rfl⟩:=yP.sl
    obtain⟨b2,xK,Iw,_,_,⟨_,_,_,_,_,_,_,_,rfl,hr⟩⟩:=yP.at hy
    exact hr.sz tw
   refine VS.vJ (qW _ _) 3 rfl rfl rfl (VO.run 80 rfl ?_)
   refine VO.read rfl [.slice p1 t.length c1] rfl (aG (h4.cell (j:=0) rfl)) (VO.run 80 rfl ?_)
   refine VO.read rfl [.int .i64 (E:Int),.int .i64 (K:Int)] rfl (pg (λj u hj=>h9.cell (by simpa using hj))) (VO.run 80 rfl ?_)
   refine VO.read rfl [.bool s0,.slice p0 n0 c0,.bool t0,.slice y0 m0 d0] rfl (pg (λj u hj=>h7.cell (by simpa using hj))) (VO.run 80 rfl ?_)
   refine VO.nil ⟨_,_,_,λw=>Bf Tryz.prog w 23,rfl,rfl,fk Tryz.func64,λ_=>rfl,λ_=>rfl,λ_=>ax.refl _,λw6 k6 b6=> ?_⟩
   have b6':ax w9 w6:=b6
   refine (Et _ _ t xs y x E K w.heap.size (kk+k+1) k w6 (hT9.az b6') (hu9.kp (Kp.of (U:=UU) b6')) hx hy aa aa (xI.add (hu.sz hk2))).mono ?_
   rintro o w7 ⟨rfl,hT7,hkx,hold⟩
   refine⟨_,[(4,.pointer (some ⟨g4,0,none⟩)),(8,.pointer (some ⟨g8,0,none⟩))],rfl,⟨rfl,rfl,trivial⟩,(λp hp e=>by
    simp only[List.mem_cons,List.not_mem_nil,or_false] at hp
    rcases hp with rfl|rfl <;> cases e),?_⟩
   have kx:jH TX w9 w7:=(aK.of b6').aH hkx
   have h4':aL w7 g4 52 #[.slice p1 t.length c1]:=kx.block _ g4 _ rfl trivial h4
   have h8':aL w7 g8 52 #[.slice none 0 0]:=kx.block _ g8 _ rfl trivial h8
   (repeat (first|refine wN ?_|refine wP rfl ?_|refine wO rfl rfl ?_))
   refine VS.bI di (λt=>Nat.beq t 23) table (λ_ _ _=>trivial) (λbm jk k1 fG jZ=> ?_)
   have ar:ax w7 bm:=fG
   have cZ:cM di 23 [g8] [(52,[.val (.slice none 0 0)])] bm:=by
    refine⟨rfl,by simp,λj g' c' hj hc=> ?_,λc' hc=> ?_,λc' hc k hk=> ?_⟩
    ·match j,hj,hc with
     | 0,hj,hc=>cases hj;cases hc;exact h8'.az ar
     | j+1,hj,_=>simp at hj
    ·cases List.mem_singleton.1 hc
     exact⟨rfl,rfl⟩
    ·cases List.mem_singleton.1 hc
     cases hk
   refine⟨[g8],[(52,[.val (.slice none 0 0)])],cZ,[(8,.box 46 0),(4,.val (.pointer (some ⟨g4,0,none⟩)))],⟨⟨_,rfl,rfl,λi hi=>by rw[(by simpa [AV.ids] using hi:i=46)];exact⟨(by show 46<=46;omega),(by show 46<2*23+1;omega)⟩⟩,⟨_,rfl,rfl,λi hi=>(by cases hi)⟩,trivial⟩,?_⟩
   refine ag ?_
   refine VO.aO rfl [.slice p1 t.length c1] rfl (at_one (aY h48 ((h4'.az ar).cell (j:=0) rfl))) (wV rfl ?_)
   refine ag ?_
   refine VS.qh (bA _ _) rfl (λwz β kz bz en=> ?_)
   have hBz:ax w wz:=eJ.az ((hold w (lZ.aH b6') (Nat.le_refl _)).aH ar) bz.1 (λx hx=>by rw[List.mem_singleton.1 hx];exact hn8)
   have hwt:mD t (E:Int) (K:Int) x=qU t E K x:=by unfold mD;rw[if_pos hh,Int.toNat_natCast,Int.toNat_natCast]
   rw[hwt]
   exact⟨_,rfl,hT7.kp (T:=λt=> !Nat.beq t 52) ((aK.of ar).aH (eJ.kp bz.1 (λx hx=>⟨52,[.slice none 0 0],by rw[List.mem_singleton.1 hx];exact h8'.az ar,rfl,rfl⟩))) rfl rfl,hBz⟩
set_option maxRecDepth 4000
theorem EA {ss l:List ByteArray} (h1:l.Perm ss) (h2:l.Pairwise λx y=>x.data.toList<=y.data.toList):dt ss=l:=by
 have key:l.map (·.data.toList)=(ss.map (·.data.toList)).mergeSort λx y=>decide (x<=y):=by
  refine List.Perm.eq_of_pairwise (le:=λx y:List UInt8=>x<=y) (λa b _ _ h h'=>List.le_antisymm h h') (List.pairwise_map.2 h2) ?_ ((h1.map _).trans (List.mergeSort_perm _ _).symm)
  refine (List.pairwise_mergeSort (le:=λx y:List UInt8=>decide (x<=y)) (λa b c h h'=>decide_eq_true (List.le_trans (of_decide_eq_true h) (of_decide_eq_true h'))) (λa b=> ?_) _).imp (λh=>of_decide_eq_true h)
  rcases List.le_total a b with h|h
  ·simp[h]
  ·simp[h]
 unfold dt
 rw[<-key,List.map_map]
 exact (List.map_congr_left λx _=>by simp).trans (List.map_id l)
def wks:List nt:=[(⟨#[115,97,108,101,115]⟩,1,Rat.divInt 0 1),(⟨#[99,111,115,116]⟩,2,Rat.divInt 0 1)]
def wbk:List Ix:=[(⟨#[80]⟩,⟨#[115,97,108,101,115]⟩,Rat.divInt 5 1),(⟨#[80]⟩,⟨#[115,97,108,101,115]⟩,Rat.divInt 7 1),(⟨#[65]⟩,⟨#[99,111,115,116]⟩,Rat.divInt 3 1)]
def ke:kL:=[[0,3],[12,0]]
theorem wtot:qV [⟨#[80]⟩,⟨#[65]⟩] wks [wbk] 0=some ke:=by
 unfold qV
 rw[if_neg cH,EA (l:=[⟨#[65]⟩,⟨#[80]⟩]) (List.Perm.swap _ _ _) (by decide+kernel)]
 show oX _ wks wbk=some ke
 decide+kernel
theorem kQw {w0 w w':World} {N:Nat} (h:aK (Bf Tryz.prog w0 N).K w w':=by exact dz):Kp UU w w':=h.dN
theorem at_ads {P:Program} {w:World} {N:Nat} {K:KC} {SU:TypeId->Bool} {ti:TypeId->Option TI} {keep:∀ b,b<w.heap.size->K.S b} {g:Nat} {ha:iH K [g] w} {b off:Nat} {cs:List Value} (hb:b≠g) (h:∀ (j:Nat) (u:Value),cs[j]? =some u->w.cell? ⟨b,off+j,none⟩=some u):∀ (j:Nat) (u:Value),cs[j]? =some u->Cx.At (yD P w N K SU ti keep [g] (zA g) ha) ((⟨b,off,none⟩:Addr).add j) u:=λj u hj=>by
 rw[Addr.add_mid]
 exact aY hb (h j u hj)
abbrev Ku (P:Program) (w:World) (N:Nat):Cx:={ P:=P,w0:=w,N:=N,K:=⟨UU,λ_=>True,λt=>TFil t⟩,SU:=λt=>Nat.beq t 23,ti:=table,keep:=λ_ _=>trivial }
theorem cxFw_ok (w:World) (N:Nat):(Ku Tryz.prog w N).Ok:=eD
section
variable {F F':Fr} {H H':Hp} {w w1:World} {N:Nat} {l':List Oper} {Q:Exit->Act->World->Prop} {k:List It} {id:Nat} {ops:Array Oper}
theorem NJ (e:im (Ku Tryz.prog w1 N) ops 80 ops.toList F H=(l',F',H')) (h:aB (Ku Tryz.prog w1 N) none ops l' (VS (Ku Tryz.prog w1 N) Q k) F' H' w):VS (Ku Tryz.prog w1 N) Q (.code (.region id ops false)::k) F H w:=VS.region (cxFw_ok _ _) (VO.run 80 e h)
end
set_option maxRecDepth 8000 in
theorem po (w:World):Calls Tryz.prog 10 #[] w λo w'=>o=.returned (.bool true)/\ax w w':=by
 refine ai (C:=Ku Tryz.prog w _) (args:=[]) Tryz.func10 rfl Tryz.ntmps10 (cr rfl) ?_
 (repeat (first|refine wN ?_|refine wP rfl ?_|refine wO rfl rfl ?_))
 refine NJ rfl ?_
 (repeat (first|refine wN ?_|refine wP rfl ?_|refine wO rfl rfl ?_))
 refine NJ rfl ?_
 refine VO.call rfl rfl (fk Tryz.func56) (λbL dw bX=>(Kr bL).mono ?_)
 rintro o w1 ⟨_,rfl,⟨pB,nB,cB,sT,pT,nT,cT,tT,yT,mT,dT,sC,pC,nC,cC,tC,yC,mC,dC,sI,pI,nI,cI,tI,yI,mI,dI,sF,pF,nF,cF,tF,yF,mF,dF,pc,Nc,cc,pe,Ne,ce,py,Ny,cy,rfl,hS1,hS2,hS3,hS4,hS5,hS6,hS7,Lj,hS8,hS9,hS10⟩,bl⟩
 refine⟨_,rfl,bl,λeM _ bb1=>wV rfl ?_⟩
 (repeat (first|refine wN ?_|refine wP rfl ?_|refine wO rfl rfl ?_))
 refine VS.bI di (λt=>Nat.beq t 23) table (λ_ _ _=>trivial) (λw0' NH k0 iZ NI=> ?_)
 have hb0':ax w w0':=iZ
 have k0':jH (λt=>TFil t) w1 w0':=by exact dz
 obtain⟨cy,rfl⟩:∃ cy,Lj=[cy]:=List.length_eq_one_iff.1 hS9
 obtain⟨pz1,nz1,cz1,pz2,nz2,cz2,pz3,nz3,cz3,pz4,nz4,cz4,pz5,nz5,cz5,rfl⟩:=(hS10 0 cy _ rfl rfl).six
 have hyr:=(hS8.kp (mB 6) k0' rfl).sl (mB 6)
 obtain⟨bY,oY,csY,rfl,hcY,⟨rfl,-,-⟩⟩:=hyr.at (i:=0) rfl
 have h1:=(NI.own 1 _ _ rfl).cls
 have nP:=(NI.own 1 _ _ rfl).new
 obtain⟨g1,e1⟩:∃ g,g=NH 1:=⟨_,rfl⟩
 rw[<-e1] at h1 nP
 obtain⟨_,_,Lk,-,-⟩:=hyr.form
 obtain rfl:Ny=1:=by injection Lk
 have bl:bY≠g1:=λh=>by
  obtain⟨b,c,vs,sp,hp,_,da,_⟩:=(hS8.kp (mB 6) k0' rfl).resolve_left (λh=>by cases h.2)
  cases hp
  rw[h] at da
  exact absurd (bt da h1) cH
 have cZ:cM di 103 [g1] [(32,[.val (.string gA.name),.val (.string gA.parent),.val (.slice pB nB cB),.val (.bool sT),.val (.slice pT nT cT),.val (.bool tT),.val (.slice yT mT dT),.val (.bool sC),.val (.slice pC nC cC),.val (.bool tC),.val (.slice yC mC dC),.val (.int .i64 gA.bk),.val (.int .i64 gA.fw),.val (.bool sI),.val (.slice pI nI cI),.val (.bool tI),.val (.slice yI mI dI),.val (.bool sF),.val (.slice pF nF cF),.val (.bool tF),.val (.slice yF mF dF),.val (.int .i64 gA.kp),.val (.slice pc Nc cc),.val (.slice pe Ne ce),.val (.slice (some ⟨bY,oY,none⟩) 1 cy)])] w0':=by
  refine⟨rfl,by simp,λj g' c' hj hc=> ?_,λc' hc=> ?_,λc' hc k hk=> ?_⟩
  ·match j,hj,hc with
   | 0,hj,hc=>cases hj;cases hc;exact h1
   | j+1,hj,_=>simp at hj
  ·cases List.mem_singleton.1 hc
   exact⟨rfl,rfl⟩
  ·cases List.mem_singleton.1 hc
   cases hk
 refine⟨[g1],_,cZ,[(0,.val (.bool false)),(1,.box 206 0)],⟨⟨_,rfl,rfl,λi hi=>(by cases hi)⟩,⟨_,rfl,congrArg (λb=>Value.pointer (some ⟨b,0,none⟩)) e1,λi hi=>by rw[(by simpa [AV.ids] using hi:i=206)];exact⟨(by show 206<=206;omega),(by show 206<2*103+1;omega)⟩⟩,trivial⟩,?_⟩
 have xV:∀ (w1:World),eJ [g1] w0' w1->ax w w1:=λw1 h=>eJ.az hb0' h (λq hq=>by rw[List.mem_singleton.1 hq];exact nP)
 refine ag ?_
 refine VO.cR rfl rfl (fk Tryz.func45) (λdh eU dQ=>fp 0 1 dh aa aa aa aa) (λdh eU dQ w2 s2 p2 n2 c2 t2 y2 m2 d2 q2 bM gr _ bb2=>wV rfl ?_)
 refine ag ?_
 refine VO.cR rfl rfl (fk Tryz.func45) (λgz gJ iL=>fp 0 1 gz aa aa aa aa) (λgz gJ iL w3 s3 p3 n3 c3 t3 y3 m3 d3 q3 dU lN _ bb3=>wV rfl ?_)
 refine ag ?_
 refine VO.cond rfl cH (wV rfl ?_)
 refine VO.aO rfl [.int .i64 2020,.slice pz1 nz1 cz1,.slice pz2 nz2 cz2,.slice pz3 nz3 cz3,.slice pz4 nz4 cz4,.slice pz5 nz5 cz5] rfl (at_ads (off:=oY+((0:Nat):Int).toNat*6) bl (λj u hj=>hcY j u hj)) (wV rfl ?_)
 refine ag ?_
 refine VO.cR rfl rfl (fk Tryz.func45) (λjw kX kY=>fp 5 1 jw aa aa aa aa) (λjw kX kY w4 s4 p4 n4 c4 t4 y4 m4 d4 q4 iX oK _ zJ=>wV rfl ?_)
 refine ag ?_
 refine VO.cR rfl rfl (fk Tryz.func45) (λjU kZ lO=>fp 7 1 jU aa aa aa aa) (λjU kZ lO w5 s5 p5 n5 c5 t5 y5 m5 d5 q5 kj pQ _ AM=>wV rfl ?_)
 refine ag ?_
 refine VO.cR rfl rfl (fk Tryz.func45) (λuV sc BA=>fp 3 1 uV aa aa aa aa) (λuV sc BA w6 s6 p6 n6 c6 t6 y6 m6 d6 q6 uT yp _ Le=>wV rfl ?_)
 (repeat (first|refine wN ?_|refine wP rfl ?_|refine wO rfl rfl ?_))
 refine Nv rfl ?_
 (repeat (first|refine wN ?_|refine wP rfl ?_|refine wO rfl rfl ?_))
 refine VS.eV (λw=>Bf Tryz.prog w 103) (λ_=>rfl) (λ_=>rfl) (λ_=>ax.refl _) (λw9 β k9 b9 en=> ?_)
 have lZ:ax w w9:=xV _ b9.1
 have o1:=lP (en.own 206 _ _ rfl) 0 g1 rfl rfl
 have oE:=(en.own 8 _ _ rfl).cls
 have oC:=(en.own 16 _ _ rfl).cls
 have oB:=(en.own 31 _ _ rfl).cls
 have oYr:=(en.own 34 _ _ rfl).cls
 obtain⟨gE,eE⟩:∃ g,g=β 8:=⟨_,rfl⟩
 obtain⟨gC,eC⟩:∃ g,g=β 16:=⟨_,rfl⟩
 obtain⟨gB,eB⟩:∃ g,g=β 31:=⟨_,rfl⟩
 obtain⟨gY,eY⟩:∃ g,g=β 34:=⟨_,rfl⟩
 have h1:aL w9 g1 32 #[.string gA.name,.string gA.parent,.slice pB nB cB,.bool sT,.slice pT nT cT,.bool tT,.slice yT mT dT,.bool sC,.slice pC nC cC,.bool tC,.slice yC mC dC,.int .i64 gA.bk,.int .i64 gA.fw,.bool sI,.slice pI nI cI,.bool tI,.slice yI mI dI,.bool sF,.slice pF nF cF,.bool tF,.slice yF mF dF,.int .i64 gA.kp,.slice (some ⟨gC,0,none⟩) 2 2,.slice (some ⟨gE,0,none⟩) 2 2,.slice (some ⟨gY,0,none⟩) 1 1]:=by
  rw[eC,eE,eY];exact o1.2
 have hE:aL w9 gE 9 #[.string ⟨#[80]⟩,.string ⟨#[65]⟩]:=by rw[eE];exact oE
 have hC:aL w9 gC 64 #[.string ⟨#[115,97,108,101,115]⟩,.int .u8 1,.bool s2,.slice p2 n2 c2,.bool t2,.slice y2 m2 d2,.string ⟨#[99,111,115,116]⟩,.int .u8 2,.bool s3,.slice p3 n3 c3,.bool t3,.slice y3 m3 d3]:=by rw[eC];exact oC
 have hB:aL w9 gB 103 #[.string ⟨#[80]⟩,.string ⟨#[115,97,108,101,115]⟩,.bool s4,.slice p4 n4 c4,.bool t4,.slice y4 m4 d4,.string ⟨#[80]⟩,.string ⟨#[115,97,108,101,115]⟩,.bool s5,.slice p5 n5 c5,.bool t5,.slice y5 m5 d5,.string ⟨#[65]⟩,.string ⟨#[99,111,115,116]⟩,.bool s6,.slice p6 n6 c6,.bool t6,.slice y6 m6 d6]:=by rw[eB];exact oB
 have hY:aL w9 gY 99 #[.int .i64 2020,.slice pz1 nz1 cz1,.slice (some ⟨gB,0,none⟩) 3 3,.slice pz3 nz3 cz3,.slice pz4 nz4 cz4,.slice pz5 nz5 cz5]:=by rw[eY,eB];exact oYr
 have da:cj (sk 2) 6 w9 (.slice (some ⟨gC,0,none⟩) 2 2) wks:=mn (pW 2) (vs:=[[.string ⟨#[115,97,108,101,115]⟩,.int .u8 1,.bool s2,.slice p2 n2 c2,.bool t2,.slice y2 m2 d2],[.string ⟨#[99,111,115,116]⟩,.int .u8 2,.bool s3,.slice p3 n3 c3,.bool t3,.slice y3 m3 d3]]) (spare:=[]) hC (.cons ⟨_,_,_,_,_,_,_,_,rfl,cH,q2.ki (eH aa aa aa aa)⟩ (.cons ⟨_,_,_,_,_,_,_,_,rfl,cH,q3.ki (eH aa aa aa aa)⟩ .nil)) rfl (Nat.le_refl _) cH
 have hen:cj dv 1 w9 (.slice (some ⟨gE,0,none⟩) 2 2) [⟨#[80]⟩,⟨#[65]⟩]:=mn aJ (vs:=[[.string ⟨#[80]⟩],[.string ⟨#[65]⟩]]) (spare:=[]) hE (.cons rfl (.cons rfl .nil)) rfl (Nat.le_refl _) cH
 have Kq:cj (BkE 2) 6 w9 (.slice (some ⟨gB,0,none⟩) 3 3) wbk:=mn (NA 2) (vs:=[[.string ⟨#[80]⟩,.string ⟨#[115,97,108,101,115]⟩,.bool s4,.slice p4 n4 c4,.bool t4,.slice y4 m4 d4],[.string ⟨#[80]⟩,.string ⟨#[115,97,108,101,115]⟩,.bool s5,.slice p5 n5 c5,.bool t5,.slice y5 m5 d5],[.string ⟨#[65]⟩,.string ⟨#[99,111,115,116]⟩,.bool s6,.slice p6 n6 c6,.bool t6,.slice y6 m6 d6]]) (spare:=[]) hB (.cons ⟨_,_,_,_,_,_,_,_,rfl,q4.ki (eH aa aa aa aa)⟩ (.cons ⟨_,_,_,_,_,_,_,_,rfl,q5.ki (eH aa aa aa aa)⟩ (.cons ⟨_,_,_,_,_,_,_,_,rfl,q6.ki (eH aa aa aa aa)⟩ .nil))) rfl (Nat.le_refl _) cH
 have hyr2:cj (YbE 2) 6 w9 (.slice (some ⟨gY,0,none⟩) 1 1) [wbk]:=IB (mn (mB 6) (vs:=[[.int .i64 2020,.slice pz1 nz1 cz1,.slice (some ⟨gB,0,none⟩) 3 3,.slice pz3 nz3 cz3,.slice pz4 nz4 cz4,.slice pz5 nz5 cz5]]) (spare:=[]) (es:=[[.int .i64 2020,.slice pz1 nz1 cz1,.slice (some ⟨gB,0,none⟩) 3 3,.slice pz3 nz3 cz3,.slice pz4 nz4 cz4,.slice pz5 nz5 cz5]]) hY (.cons ⟨rfl,rfl,rfl⟩ .nil) rfl (Nat.le_refl _) cH) rfl (λi u a hi ha=>by
  match i,hi,ha with
  | 0,hi,ha=>cases hi;cases ha;exact⟨_,_,_,_,_,_,rfl,Kq⟩
  | i+1,hi,_=>simp at hi)
 refine⟨[(0,.val (.bool false)),(1,.val (.pointer (some ⟨g1,0,none⟩))),(2,.val (.func (.func 45) #[] #[]))],⟨⟨_,_,rfl,rfl,rfl⟩,⟨_,_,rfl,congrArg (λb=>Value.pointer (some ⟨b,0,none⟩)) o1.1,rfl⟩,⟨_,_,rfl,rfl,rfl⟩,trivial⟩,?_⟩
 clear o1 oE oC oB oYr eE eC eB eY hE hC hB hY Kq en k9 b9 q2 q3 q4 q5 q6 hS1 hS2 hS3 hS4 hS5 hS6 hS7 hS8 hS9 hS10
 refine dk ?_
 refine VO.read rfl [.string gA.name,.string gA.parent,.slice pB nB cB,.bool sT,.slice pT nT cT,.bool tT,.slice yT mT dT,.bool sC,.slice pC nC cC,.bool tC,.slice yC mC dC,.int .i64 gA.bk,.int .i64 gA.fw,.bool sI,.slice pI nI cI,.bool tI,.slice yI mI dI,.bool sF,.slice pF nF cF,.bool tF,.slice yF mF dF,.int .i64 gA.kp,.slice (some ⟨gC,0,none⟩) 2 2,.slice (some ⟨gE,0,none⟩) 2 2,.slice (some ⟨gY,0,none⟩) 1 1] rfl (pg (λj u hj=>h1.cell (by simpa using hj))) (wV rfl ?_)
 refine dk ?_
 refine VO.call rfl rfl (fk Tryz.func13) (λDV BB yG=>(uK _ _ _ _ _ _ _ _ _ _ _ _ _ _ _ _ _ _ _ _ _ _ _ _ _ _ _ _ _ _ _ _ _ _ _ _ _ _ _ _ _ _ _ _ _ _ _ _ _ 0 [⟨#[80]⟩,⟨#[65]⟩] wks [wbk] 2 4 DV (da.az (pW 2) yG) (hen.az aJ yG) (hyr2.oU (yb_b 2) yG) cH cH cH cH cH cH).mono ?_)
 rintro o w7 ⟨r7,rfl,q7,Ig⟩
 rw[wtot] at q7 ⊢
 rw[show xU (some ke)=0 from rfl]
 have q7:fF 13 DV.heap.size w7 r7 ke:=q7
 obtain⟨pT,cT,rfl⟩:=q7.form
 refine⟨_,rfl,Ig,λFV _ bb7=>wV rfl ?_⟩
 (repeat (first|refine wN ?_|refine wP rfl ?_|refine wO rfl rfl ?_))
 refine VS.eV (λw=>Bf Tryz.prog w 103) (λ_=>rfl) (λ_=>rfl) (λ_=>ax.refl _) (λDW jk k10 b10 jZ=> ?_)
 have ea:ax w DW:=lZ.aH b10
 have hT:=q7.kp (show jH TQ w7 DW from dz) rfl rfl
 have h4:=(jZ.own 4 _ _ rfl).cls
 refine⟨[(0,.val (.bool false)),(2,.val (.func (.func 45) #[] #[])),(4,.val (.pointer (some ⟨jk 4,0,none⟩))),(5,.val (.int .i64 0))],⟨⟨_,_,rfl,rfl,rfl⟩,⟨_,_,rfl,rfl,rfl⟩,⟨_,_,rfl,rfl,rfl⟩,⟨_,_,rfl,rfl,rfl⟩,trivial⟩,?_⟩
 generalize jk 4=g4 at h4 ⊢
 obtain⟨bT,oT,cs0,rfl,Lc,⟨x0,rfl,nG⟩⟩:=hT.tab.at (i:=0) (a:=[0,3]) rfl
 obtain⟨b',o',cs1,hp,ik,⟨x1,rfl,FI⟩⟩:=hT.tab.at (i:=1) (a:=[12,0]) rfl
 cases hp
 obtain⟨px0,cx0,rfl⟩:=nG.sl
 obtain⟨px1,cx1,rfl⟩:=FI.sl
 have h4:aL DW g4 52 #[.slice (some ⟨bT,oT,none⟩) ke.length cT]:=h4
 clear jZ k10 b10 FV bb7 q7 h1 da hen hyr2
 refine dk ?_
 refine VO.read rfl [.slice (some ⟨bT,oT,none⟩) ke.length cT] rfl (aG (h4.cell (j:=0) rfl)) (wV rfl ?_)
 refine dk ?_
 refine VO.read rfl [.slice (some ⟨bT,oT,none⟩) ke.length cT] rfl (aG (h4.cell (j:=0) rfl)) (wV rfl ?_)
 refine dk ?_
 refine VO.cond rfl cH (wV rfl ?_)
 refine VO.read rfl [.slice px0 [0,3].length cx0] rfl (cN Lc) (wV rfl ?_)
 refine dk ?_
 refine VO.read rfl [.slice (some ⟨bT,oT,none⟩) ke.length cT] rfl (aG (h4.cell (j:=0) rfl)) (wV rfl ?_)
 refine dk ?_
 refine VO.cond rfl cH (wV rfl ?_)
 refine VO.read rfl [.slice px1 [12,0].length cx1] rfl (cN ik) (wV rfl ?_)
 refine dk ?_
 refine VO.read rfl [.slice (some ⟨bT,oT,none⟩) ke.length cT] rfl (aG (h4.cell (j:=0) rfl)) (wV rfl ?_)
 refine dk ?_
 refine VO.cR rfl rfl (fk Tryz.func45) (λwa8 ka8 ba8=>fp (-2) 1 wa8 aa aa aa aa) (λwa8 ka8 ba8 w8 s8 p8 n8 c8 t8 y8 m8 d8 q8 hb8 Lf _ bb8=>wV rfl ?_)
 refine dk ?_
 refine VO.call rfl rfl (fk Tryz.func28) (λwa9 ka9 ba9=>(Kt _ _ ke 1 0 (Rat.divInt (-2) 1) 13 2 wa9 ((hT.tab).oU (jQ 13) ba9) (q8.ki (eH aa aa aa aa) kQw) cH cH cH cH cH cH).mono ?_)
 rintro o w9' ⟨r9,rfl,q9,Jv⟩
 obtain⟨pU,cU,rfl⟩:=q9.form
 refine IA Jv ?_
 intro Lg _ bb9
 refine VO.read rfl [.slice (some ⟨bT,oT,none⟩) ke.length cT] rfl (aG (h4.cell (j:=0) rfl)) (wV rfl ?_)
 refine dk ?_
 refine VO.cR rfl rfl (fk Tryz.func30) (λyK AP JW=>sA _ ke 0 0 13 yK ((hT.tab).oU (jQ 13) JW) cH) (λyK AP JW w11 BF Gw Gx IE t11 IG IH d11 q11 DY nR _ bb11=>wV rfl ?_)
 refine dk ?_
 replace q11:=q11.cast (show yQ ke 0 0=0 by decide+kernel)
 refine VO.cB rfl rfl (fk Tryz.func57) (λyL AQ MT=>xG _ 0 1 yL (q11.ki lM.zero kQw) cH 0 (by decide+kernel)) (λyL AQ MT w12 yM se _ bb12=>wV rfl ?_)
 refine dk ?_
 refine VO.read rfl [.slice (some ⟨bT,oT,none⟩) ke.length cT] rfl (aG (h4.cell (j:=0) rfl)) (wV rfl ?_)
 refine dk ?_
 refine VO.cR rfl rfl (fk Tryz.func30) (λDZ MU JX=>sA _ ke 0 1 13 DZ ((hT.tab).oU (jQ 13) JX) cH) (λDZ MU JX gm s13 p13 n13 c13 t13 y13 m13 d13 q13 hb13 Ea _ bb13=>wV rfl ?_)
 refine dk ?_
 replace q13:=q13.cast (show yQ ke 0 1=Rat.divInt 3 1 by decide+kernel)
 refine VO.cR rfl rfl (fk Tryz.func45) (λEb AR FX=>fp 3 1 Eb aa aa aa aa) (λEb AR FX w14 s14 p14 n14 c14 t14 y14 m14 d14 q14 hb14 JY _ bb14=>wV rfl ?_)
 refine dk ?_
 refine VO.cB rfl rfl (fk Tryz.func43) (λEc AU FY=>tL _ _ (Rat.divInt 3 1) (Rat.divInt 3 1) 2 2 Ec (q13.ki (eH aa aa aa aa) kQw) (q14.ki (eH aa aa aa aa) kQw) cH cH 0 (by decide+kernel)) (λEc AU FY w15 hb15 kb15 _ bb15=>wV rfl ?_)
 refine dk ?_
 refine VO.read rfl [.slice (some ⟨bT,oT,none⟩) ke.length cT] rfl (aG (h4.cell (j:=0) rfl)) (wV rfl ?_)
 refine dk ?_
 refine VO.cR rfl rfl (fk Tryz.func30) (λwa16 ka16 ba16=>sA _ ke 1 0 13 wa16 ((hT.tab).oU (jQ 13) ba16) cH) (λwa16 ka16 ba16 w16 s16 p16 n16 c16 t16 y16 m16 d16 q16 hb16 kb16 _ bb16=>wV rfl ?_)
 refine dk ?_
 replace q16:=q16.cast (show yQ ke 1 0=Rat.divInt 12 1 by decide+kernel)
 refine VO.cR rfl rfl (fk Tryz.func45) (λwa17 ka17 ba17=>fp 12 1 wa17 aa aa aa aa) (λwa17 ka17 ba17 w17 s17 p17 n17 c17 t17 y17 m17 d17 q17 hb17 kb17 _ bb17=>wV rfl ?_)
 refine dk ?_
 refine VO.cB rfl rfl (fk Tryz.func43) (λwa18 ka18 ba18=>tL _ _ (Rat.divInt 12 1) (Rat.divInt 12 1) 2 2 wa18 (q16.ki (eH aa aa aa aa) kQw) (q17.ki (eH aa aa aa aa) kQw) cH cH 0 (by decide+kernel)) (λwa18 ka18 ba18 w18 hb18 kb18 _ bb18=>wV rfl ?_)
 refine dk ?_
 refine VO.cR rfl rfl (fk Tryz.func30) (λwa19 ka19 ba19=>sA _ (mD ke 1 0 (Rat.divInt (-2) 1)) 1 0 16 wa19 ((q9.kp (show jH TQ w9' wa19 from dz) rfl rfl).tab) cH) (λwa19 ka19 ba19 w19 s19 p19 n19 c19 t19 y19 m19 d19 q19 hb19 kb19 _ bb19=>wV rfl ?_)
 refine dk ?_
 replace q19:=q19.cast (show yQ (mD ke 1 0 (Rat.divInt (-2) 1)) 1 0=Rat.divInt 10 1 by decide+kernel)
 refine VO.cR rfl rfl (fk Tryz.func45) (λwa20 ka20 ba20=>fp 10 1 wa20 aa aa aa aa) (λwa20 ka20 ba20 w20 s20 p20 n20 c20 t20 y20 m20 d20 q20 hb20 kb20 _ bb20=>wV rfl ?_)
 refine dk ?_
 refine VO.cB rfl rfl (fk Tryz.func43) (λwa21 ka21 ba21=>tL _ _ (Rat.divInt 10 1) (Rat.divInt 10 1) 2 2 wa21 (q19.ki (eH aa aa aa aa) kQw) (q20.ki (eH aa aa aa aa) kQw) cH cH 0 (by decide+kernel)) (λwa21 ka21 ba21 w21 hb21 kb21 _ bb21=>wV rfl ?_)
 refine dk ?_
 refine VO.read rfl [.slice (some ⟨bT,oT,none⟩) ke.length cT] rfl (aG (h4.cell (j:=0) rfl)) (wV rfl ?_)
 refine dk ?_
 refine VO.cR rfl rfl (fk Tryz.func30) (λwa22 ka22 ba22=>sA _ ke 2 0 13 wa22 ((hT.tab).oU (jQ 13) ba22) cH) (λwa22 ka22 ba22 w22 s22 p22 n22 c22 t22 y22 m22 d22 q22 hb22 kb22 _ bb22=>wV rfl ?_)
 refine dk ?_
 replace q22:=q22.cast (show yQ ke 2 0=0 by decide+kernel)
 refine VO.cB rfl rfl (fk Tryz.func57) (λwa23 ka23 ba23=>xG _ 0 1 wa23 (q22.ki lM.zero kQw) cH 0 (by decide+kernel)) (λwa23 ka23 ba23 w23 hb23 kb23 _ bb23=>wV rfl ?_)
 refine dk ?_
 refine VS.ret (qW _ _) rfl rfl (λwz kz bz=> ?_)
 exact⟨rfl,ea.aH bz⟩
set_option maxRecDepth 4000
theorem bZ.form {kk:Nat} {w:World} {cs:List Value} {x:Rw} (h:bZ kk w cs x):∃ s p c t y d,cs=[.bool s,.slice p x.xs.length c,.bool t,.slice y x.ys.length d]/\dZ w (.agg #[.bool s,.slice p x.xs.length c,.bool t,.slice y x.ys.length d]) x.s x.xs x.t x.ys:=by
 obtain⟨s,p,n,c,t,y,m,d,rfl,hr,_⟩:=h
 have sL:=hr
 obtain⟨p',c',r',d',hv,_,_⟩:=hr
 cases hv
 exact⟨_,_,_,_,_,_,rfl,sL⟩
theorem bZ.to {kk j:Nat} {w:World} {cs:List Value} {x:Rw} (h:bZ kk w cs x) (h1:x.xs.length<=j) (h2:x.ys.length<=j):bZ j w cs x:=by
 obtain⟨s,p,n,c,t,y,m,d,hv,hr,_⟩:=h
 exact⟨_,_,_,_,_,_,_,_,hv,hr,h1,h2⟩
set_option maxRecDepth 4000
theorem qT.raw {kk:Nat} {w:World} {cs:List Value} {q:Rat} (h:qT kk w cs q):bZ kk w cs (Rw.of q):=by
 obtain⟨s,p,n,c,t,y,m,d,rfl,h1,h2⟩:=h
 exact bZ.of h1 h2
def rawT (t:kL):List (List Rw):=t.map λr=>r.map Rw.of
theorem EB {kk:Nat} {w:World} {v:Value} {t:kL} (h:cj (pj (qT kk)) 1 w v t):cj (pj (bZ kk)) 1 w v (rawT t):=mA h (λcs r hr=>by
 obtain⟨u,rfl,h1⟩:=hr
 exact⟨u,rfl,mA h1 (λcs x hx=>hx.raw)⟩)
theorem fF.raw {kk B:Nat} {w:World} {v:Value} {t:kL} (h:fF kk B w v t):cj (pj (bZ kk)) 1 w v (rawT t):=by
 obtain⟨us,g1,g2,g3,_⟩:=h
 exact EB (Bb (g1.sl db) g2 (λi u r hi hr=>⟨u,rfl,((g3 i u r hi hr).imp (λ_ _ h=>h.q)).sl (cE kk)⟩))
set_option maxRecDepth 4000 in
theorem NK (v u:Value) (t:List (List Rw)) (j k:Nat) (w:World) (hv:cj (pj (bZ j)) 1 w v t) (hu:cj (pj (bZ k)) 1 w u t):
  Calls Tryz.prog 14 #[.agg #[v],.agg #[u]] w λo w'=>o=.returned (.bool true)/\ax w w':=by
 obtain⟨p,c,rfl,gg,gF⟩:=hv.form
 obtain⟨p2,c2,rfl⟩:=hu.sl
 obtain⟨R,hR⟩:∃ R,R=t.length:=⟨_,rfl⟩
 rw[<-hR] at hv hu gg
 rw[<-hR]
 refine ai (C:=bj Tryz.prog w _) (args:=[_,_]) Tryz.func14 rfl Tryz.ntmps14 (cr rfl) ?_
 refine ae ?_
 refine VS.aN rfl (ig aa) ?_
 refine ae ?_
 refine VS.loop (J:=λm L M w'=>∃ e:Nat,e<=R/\m=R-e/\L=[(2,.box 2 0),(3,.box 3 0),(5,.val (.int .i64 (e:Int)))]/\M=[(2,(52,[.val (.slice p R c)])),(3,(46,[.val (.slice p2 R c2)]))]) R ⟨_,_,?_,?_,?_,?_,⟨0,by omega,rfl,rfl,rfl⟩⟩ ?_
 ·exact du
 ·exact du
 ·rfl
 ·exact iq
 rintro m L M wJ ⟨e,he,rfl,rfl,rfl⟩
 refine ae ?_
 by_cases hle:e<R
 rotate_left
 ·refine VS.aN rfl (decide_eq_false (λe=>hle (Int.ofNat_lt.1 e))) ?_
  refine ae ?_
  refine bV ?_;intro wz kz bz
  exact⟨rfl,bz⟩
 obtain⟨ru,uR⟩:∃ x,t[e]? =some x:=⟨_,List.getElem?_eq_getElem aa⟩
 obtain⟨b,off,cs,rfl,hc,⟨rv,rfl,sR⟩⟩:=hv.at uR
 obtain⟨b2,xK,Iw,rfl,jl,⟨rv2,rfl,qe⟩⟩:=hu.at uR
 obtain⟨p3,c3,rfl,hKc,hcc⟩:=sR.form
 obtain⟨p4,c4,rfl⟩:=qe.sl
 obtain⟨K,hK⟩:∃ K,K=ru.length:=⟨_,rfl⟩
 rw[<-hK] at sR qe hc jl hKc
 refine VS.aU rfl (decide_eq_true (Int.ofNat_lt.2 hle)) ?_
 refine ae ?_
 refine VO.cond rfl cW ?_
 refine wV rfl ?_
 refine ae ?_
 refine VO.read rfl [.slice p3 K c3] rfl (cN hc) (wV rfl ?_)
 refine ae ?_
 refine VO.cond rfl cW ?_
 refine wV rfl ?_
 refine ae ?_
 refine VO.read rfl [.slice p4 K c4] rfl (cN jl) (wV rfl ?_)
 refine ae ?_
 refine VS.aN rfl (ig aa) ?_
 refine ae ?_
 refine VS.loop (J:=λm L M w'=>∃ q:Nat,q<=K/\m=K-q/\L=[(2,.box 2 0),(3,.box 3 0),(5,.val (.int .i64 (e:Int))),(6,.val (.int .i64 (q:Int)))]/\M=[(2,(52,[.val (.slice (some ⟨b,off,none⟩) R c)])),(3,(46,[.val (.slice (some ⟨b2,xK,none⟩) R c2)]))]) K ⟨_,_,?_,?_,?_,?_,⟨0,by omega,rfl,rfl,rfl⟩⟩ ?_
 ·exact du
 ·exact du
 ·rfl
 ·exact iq
 rintro m L M wM ⟨q,hq,rfl,rfl,rfl⟩
 refine ae ?_
 refine VO.cond rfl cW ?_
 refine wV rfl ?_
 refine ae ?_
 refine VO.read rfl [.slice p3 K c3] rfl (cN hc) (wV rfl ?_)
 refine ae ?_
 by_cases hlq:q<K
 rotate_left
 ·refine VS.aN rfl (decide_eq_false (λe=>hlq (Int.ofNat_lt.1 e))) ?_
  refine ae ?_
  refine VS.back (R-(e+1)) aa ⟨_,_,?_,?_,?_,?_,⟨e+1,by omega,rfl,rfl,rfl⟩⟩
  ·refine⟨rfl,rfl,?_,trivial⟩
   rw[<-ay (i:=e) aa];rfl
  ·exact du
  ·rfl
  ·exact iq
 obtain⟨x,hx⟩:∃ x,ru[q]? =some x:=⟨_,List.getElem?_eq_getElem aa⟩
 obtain⟨b5,off5,cs5,rfl,hc5,hel5⟩:=sR.at hx
 obtain⟨b6,off6,cs6,rfl,hc6,hel6⟩:=qe.at hx
 obtain⟨s5,p5,c5,t5,y5,d5,rfl,hw5⟩:=hel5.form
 obtain⟨s6,p6,c6,t6,y6,d6,rfl,hw6⟩:=hel6.form
 refine VS.aU rfl (decide_eq_true (Int.ofNat_lt.2 hlq)) ?_
 refine ae ?_
 refine VO.cond rfl cW ?_
 refine wV rfl ?_
 refine ae ?_
 refine VO.read rfl [.slice (some ⟨b5,off5,none⟩) K c3] rfl (cN hc) (wV rfl ?_)
 refine ae ?_
 refine VO.cond rfl cW ?_
 refine wV rfl ?_
 refine ae ?_
 refine VO.read rfl [.bool s5,.slice p5 x.xs.length c5,.bool t5,.slice y5 x.ys.length d5] rfl (aC hc5 0 _ ⟨[],rfl⟩) (wV rfl ?_)
 refine ae ?_
 refine VO.cond rfl cW ?_
 refine wV rfl ?_
 refine ae ?_
 refine VO.read rfl [.slice (some ⟨b6,off6,none⟩) K c4] rfl (cN jl) (wV rfl ?_)
 refine ae ?_
 refine VO.cond rfl cW ?_
 refine wV rfl ?_
 refine ae ?_
 refine VO.read rfl [.bool s6,.slice p6 x.xs.length c6,.bool t6,.slice y6 x.ys.length d6] rfl (aC hc6 0 _ ⟨[],rfl⟩) (wV rfl ?_)
 refine ae ?_
 refine VO.cB rfl rfl (fk Tryz.func25) (λbL dw bX=>Ke _ _ _ _ _ _ bL (hw5.kp (Kp.of (U:=UU) bX)) (hw6.kp (Kp.of (U:=UU) bX))) (λbL dw bX w1 bl eM _ bb1=>wV rfl ?_)
 refine ae ?_
 refine VS.back (K-(q+1)) aa ⟨_,_,?_,?_,?_,?_,⟨q+1,by omega,rfl,rfl,rfl⟩⟩
 ·refine⟨rfl,rfl,rfl,?_,trivial⟩
  rw[<-ay (i:=q) aa];rfl
 ·exact du
 ·rfl
 ·exact iq
end
section
open Go.RowKit
def jy (w:World) (B:Nat) (p:Option Addr) (n:Nat):Prop:=n=0\/∃ g cur,p=some ⟨g,0,none⟩/\B<=g/\w.heap[g]? =some (Obj.cells cur UU (0,0))/\n<=cur.size
def Husk (w:World) (B:Nat) (v:Value):Prop:=∃ s p n c t r m d,v=.agg #[.bool s,.slice p n c,.bool t,.slice r m d]/\jy w B p n/\n<=9223372036854775807/\jy w B r m/\m<=9223372036854775807
theorem jy.own {w:World} {B n:Nat} {p:Option Addr} {c:Nat} {xs:List Value} (h:w.ownsRow B UU 1 (.slice p n c) n xs):jy w B p n:=by
 rcases h.2 with ⟨h1,_⟩|⟨g,cap,cur,hv,hb,hg,h1,h2,h3,_⟩
 ·simp only[Value.slice.injEq] at h1
  exact .inl h1.2.1
 ·simp only[Value.slice.injEq,true_and] at hv
  obtain⟨Bv,_⟩:=hv
  exact .inr ⟨g,cur,Bv,hb,hg,by omega⟩
theorem aF.row {w:World} {B:Nat} {s:Bool} {p:Option Addr} {n c:Nat} {X:Int} (h:aF w B (.agg #[.bool s,.slice p n c]) X):jy w B p n/\n<=9223372036854775807:=by
 obtain⟨p',c',hv,ho⟩:=h
 simp only[Value.agg.injEq,Array.mk.injEq,List.cons.injEq,and_true,Value.slice.injEq] at hv
 obtain⟨_,rfl,rfl,rfl⟩:=hv
 obtain⟨_,_,hv,h1,h2,_⟩:=(Rd.own ho).u32
 exact⟨.own ho,by omega⟩
theorem bQ.husk {w:World} {B:Nat} {v:Value} {q:Rat} (h:bQ w B v q):Husk w B v:=by
 obtain⟨s,p,n,c,t,r,m,d,rfl,h1,h2⟩:=h
 exact⟨s,p,n,c,t,r,m,d,rfl,h1.row.1,h1.row.2,h2.row.1,h2.row.2⟩
def Hk (w w':World):Prop:=∀ (g:Nat) (cur:Array Value),w.heap[g]? =some (Obj.cells cur UU (0,0))->∃ sf,w'.heap[g]? =some (Obj.cells sf UU (0,0))/\sf.size=cur.size
theorem Hk.aH {a b c:World} (h:Hk a b) (k:Hk b c):Hk a c:=λg cur hg=>by
 obtain⟨c1,h1,e1⟩:=h g cur hg
 obtain⟨c2,h2,e2⟩:=k g c1 h1
 exact⟨c2,h2,e2.trans e1⟩
theorem Hk.kp {w w':World} (h:Kp UU w w'):Hk w w':=λg cur hg=>⟨cur,h.block UU g cur rfl trivial hg,rfl⟩
theorem jy.hk {B:Nat} {w w':World} {p:Option Addr} {n:Nat} (h:jy w B p n) (k:Hk w w'):jy w' B p n:=by
 rcases h with h|⟨g,cur,hp,hb,hg,hn⟩
 ·exact .inl h
 ·obtain⟨c1,h1,e1⟩:=k g cur hg
  exact .inr ⟨g,c1,hp,hb,h1,by omega⟩
section
variable {C:Cx} {Q:Exit->Act->World->Prop} {k:List It} {F:Fr} {H:Hp} {w:World}
end
def Zb (w:World) (B g:Nat):Prop:=B<=g/\∃ cur:Array Value,w.heap[g]? =some (Obj.cells cur UU (0,0))
structure sB (B:Nat) (w w':World):Prop where
 os:w'.os=w.os
 tape:w'.tape=w.tape
 output:w'.output=w.output
 size:w.heap.size<=w'.heap.size
 gv:∀ b:Nat,b<w.heap.size->¬ Zb w B b->w'.heap[b]? =w.heap[b]?
theorem sB.refl (B:Nat) (w:World):sB B w w:=⟨rfl,rfl,rfl,Nat.le_refl _,λ_ _ _=>rfl⟩
theorem sB.aH {B:Nat} {w a b:World} (h:sB B w a) (k:ax a b):sB B w b:=
 ⟨k.os.trans h.os,k.tape.trans h.tape,k.output.trans h.output,Nat.le_trans h.size k.size,λx hx hz=>(Below.block k x (Nat.lt_of_lt_of_le hx h.size)).trans (h.gv x hx hz)⟩
theorem sB.set {B:Nat} {w a:World} (h:sB B w a) {b o:Nat} {vs:List Value} (hb:w.heap.size<=b\/Zb w B b):sB B w (a.setCells b o vs):=by
 obtain⟨e1,e2,e3,e4⟩:=gI (b:=b) vs o a
 refine⟨e1.trans h.os,e2.trans h.tape,e3.trans h.output,Nat.le_trans h.size e4,λx hx hz=>(dy vs o a x (λe=> ?_)).trans (h.gv x hx hz)⟩
 subst e
 rcases hb with hb|hb
 ·omega
 ·exact hz hb
abbrev cxS (P:Program) (w:World) (N:Nat) (B:Nat):Cx:={ P:=P,w0:=w,N:=N,K:=KU UU,SU:=λt=>Nat.beq t 23,ti:=table,keep:=λ_ _=>trivial
                                                       vu:=λ_ g=>w.heap.size<=g\/Zb w B g
                                                       Old:=λw'=>sB B w w'
                                                       zi:=λ_ _ _ h=>.inl h
                                                       Hu:=λ_ _ _ h _=>h
                                                       ll:=λ_ h=>h.size
                                                       mU:=sB.refl _ _
                                                       pJ:=λa b h _ _ s=>⟨s.os.trans h.os,s.tape.trans h.tape,s.output.trans h.output,Nat.le_trans h.size s.size,λx hx hz=>by
                                                        rcases s.gv x (Nat.lt_of_lt_of_le hx h.size) with e|⟨⟨_,hi⟩,_⟩|e
                                                        ·exact e.trans (h.gv x hx hz)
                                                        ·rcases hi with hi|hi
                                                         ·omega
                                                         ·exact absurd hi hz
                                                        ·exact absurd trivial e⟩
                                                       vw:=λa ad u h hn hc=>by
                                                        have hb:=gL hc
                                                        rw[World.cell?_of_block (w:=w) (h.gv ad.block hb (λhz=>hn 0 (.inr hz)))]
                                                        exact hc
                                                       lay:=λw1 H h _ hf=>by
                                                        obtain⟨β,w2,h1,h2,h3,h4⟩:=tc (K:=KU UU) (ax.refl w1) H hf
                                                        exact⟨β,w2,h1,h.aH h2,λi t cs hi=>⟨.inl (Nat.le_trans h.size (h3 i t cs hi).1),(h3 i t cs hi).2⟩,h4⟩ }
theorem NL (w:World) (N B:Nat):(cxS Tryz.prog w N B).Ok:=eD
section
variable {Q:Exit->Act->World->Prop} {F F':Fr} {H H':Hp} {w w1:World} {N B:Nat} {l':List Oper} {k:List It} {id:Nat} {ops:Array Oper}
theorem cxS_r (e:im (cxS Tryz.prog w1 N B) ops 80 ops.toList F H=(l',F',H')) (h:aB (cxS Tryz.prog w1 N B) none ops l' (VS (cxS Tryz.prog w1 N B) Q k) F' H' w):VS (cxS Tryz.prog w1 N B) Q (.code (.region id ops false)::k) F H w:=VS.region (NL _ _ _) (VO.run 80 e h)
theorem at_sp {b off:Nat} {cs:List Value} {t:TypeId} {cur:Array Value} (hc:aL w b t cur) (ht:t≠UU) (h:∀ (j:Nat) (u:Value),cs[j]? =some u->w.cell? ((⟨b,off,none⟩:Addr).add j)=some u):∀ (j:Nat) (u:Value),cs[j]? =some u->(cxS Tryz.prog w N B).At ((⟨b,off,none⟩:Addr).add j) u:=by
 intro j u hj w1 sO
 have h0:=h j u hj
 rw[Addr.add_mid] at h0 ⊢
 rw[World.cell?_of_block (w:=w) (a:=⟨b,off+j,none⟩) (sO.gv b hc.lt (λhz=>by
  obtain⟨_,c,hz⟩:=hz
  have:=hc.symm.trans hz
  cases this
  exact ht rfl))]
 exact h0
end
section
variable {C:Cx} {β:Nat->Nat} {F:Fr} {H:Hp} {a:Act} {w:World} {Q:Exit->Act->World->Prop} {k:List It}
theorem uL (hC:C.Ok) {m:Option (List FuncId)} {full:Array Oper} {K:Fr->Hp->World->Prop} {q:Act->World->Prop} {tl:List Oper} (hQ:∀ β F H w a w',K F H w->Rel C β F H a w'->aK C.K w w'->wpList C.P full Q tl a w'):
  ∀ (l:List Oper) (β:Nat->Nat) (F:Fr) (H:Hp) (w:World) (a:Act) (w':World),aB C m full l K F H w->Rel C β F H a w'->aK C.K w w'->wpList C.P full Q (l++tl) a w'
 | [],β,F,H,w,a,w',h,hr,hk=>hQ β F H w a w' h hr hk
 | o::r,β,F,H,w,a,w',h,hr,hk=>by
   refine wpList_step λK' hK'=> ?_
   exact km hC (k:=aB C m full r K) h hr hk λbn F' H' w1 a' bm h1 h2 h3=>hK' _ _ (uL hC (q:=q) hQ r bn F' H' w1 a' bm h1 h2 h3)
theorem Rel.overV (hr:Rel C β F H a w) {b o:Nat} {vs:List Value} {cur:Array Value} {ty:TypeId} (hO:C.Old (w.setCells b o vs)) (hc:w.heap[b]? =some (Obj.cells cur ty (0,0))) (ht:C.K.fz ty=true):Rel C β F H a (w.setCells b o vs):=by
 refine⟨hr.defers,hr.size,hr.tmp,λi t cs h=> ?_,hr.apart,hr.closed,hr.fits,hr.hp,hO⟩
 obtain⟨h1,h2,h3,h4⟩:=hr.own i t cs h
 refine⟨h1,h2,(dy vs o w _ (λe=> ?_)).trans h3,h4⟩
 rw[e] at h3
 have:=hc.symm.trans h3
 cases this
 rw[h2] at ht
 cases ht
def StoV (C:Cx) (Q:Exit->Act->World->Prop) (k:List It) (full:Array Oper) (o:Oper) (F:Fr) (H:Hp) (w:World):Prop:=
 ∃ t x y b off i v,o.op=.store t x y/\jC C.N o.dst=true/\wants full F o=some true/\ev F x=some (.val (.pointer (some ⟨b,off,none⟩)))/\jK F y=some v/\C.ti t=some i/\v.cells.size=i.size/\v.cells.toList.all Value.oneCell'=true/\
   ∀ w1,aK C.K w w1->C.Old w1->∃ cur ty,w1.heap[b]? =some (Obj.cells cur ty (0,0))/\off+i.size<=cur.size/\C.K.fz ty=true/\C.Old (w1.setCells b off v.cells.toList)/\VS C Q k (F.bo o.dst (.val undef)) H (w1.setCells b off v.cells.toList)
theorem VS.II (hC:C.Ok) {id:Nat} {ops:Array Oper} {o:Oper} (hl:ops.toList.getLast? =some o) (h:aB C none ops ops.toList.dropLast (StoV C Q k ops o) F H w):VS C Q (.code (.region id ops false)::k) F H w:=λβ a w' hr hk=>by
 have hops:ops.toList=ops.toList.dropLast++[o]:=by
  obtain⟨l,hl⟩:=List.getLast?_eq_some_iff.1 hl
  rw[hl];simp
 generalize ops.toList.dropLast=pre at*
 refine wp_region_list ?_
 rw[hops]
 refine uL hC (q:=λ_ _=>True) (λβ F H w a w' h hr hk=> ?_) pre β F H w a w' h hr hk
 obtain⟨t,x,y,b,off,i,v,hop,hd,hw,hx,hy,hi,hsz,tx,hc⟩:=h
 obtain⟨cur,ty,h1,h2,h3,h5,h4⟩:=hc w' hk hr.old
 refine wpList_step λK' hK'=> ?_
 rw[lp hr hw,if_pos rfl]
 have qe:=hr.overV (o:=off) (vs:=v.cells.toList) h5 h1 h3
 have hx':a.eval x=.pointer (some ⟨b,off,none⟩):=hr.ev hx
 have hy':a.eval y=v:=hr.jK hy
 have hz:=(hC t i hi).size
 refine Oper.wp_skip (w':=w'.setCells b off v.cells.toList) ?_ (hK' _ _ (h4 β _ _ (qe.put hd (v:=.val undef) (λ_ hi=>by cases hi)) (aK.refl _ _)))
 cases hq:C.P.info? t with
 | none=>rw[hq] at hz;simp at hz
 | some ti=>
   rw[hq] at hz
   simp at hz
   have:=run_storeCells_cells (P:=C.P) b off v.cells.toList 0 w' (λj hj=>by
     obtain⟨z,hz⟩:∃ z,cur[off+j]? =some z:=⟨_,Array.getElem?_eq_getElem (by rw[Array.length_toList] at hj;omega)⟩
     rw[Nat.add_zero,aL.cell (b:=b) h1 hz];rfl)
    (λj _=>aL.frozen (b:=b) h1 _) (λz hz=>List.all_eq_true.1 tx z hz)
   rw[Nat.add_zero] at this
   have hst:(Instr.storeAt t (.pointer (some ⟨b,off,none⟩)) v).run C.P w'=.ok () (w'.setCells b off v.cells.toList):=by
    simp only[Instr.storeAt,Instr.sureAddr,storeVar,sizeOf,typeInfo,Sem.run_bind,Sem.run_pure,Result.andThen_ok]
    simp[hq,hz,hsz,this]
   simp[execOp,hop,hx',hy',hst]
end
theorem Hk.set {w a:World} (h:Hk w a) {b o:Nat} {vs:List Value} {cur:Array Value} (hc:a.heap[b]? =some (Obj.cells cur UU (0,0))):Hk w (a.setCells b o vs):=λg c hg=>by
 obtain⟨c1,h1,e1⟩:=h g c hg
 by_cases e:g=b
 ·subst e
  obtain⟨c2,h2,e2⟩:=oP vs o a c1 h1
  exact⟨c2,h2,e2.trans e1⟩
 ·exact⟨c1,(dy vs o a g e).trans h1,e1⟩
end
set_option maxRecDepth 4000
section
open Go.RowKit
attribute [local irreducible] aB VS
abbrev pz:TypeId:=27
def Zx (w:World) (B g:Nat):Prop:=B<=g/\∃ (cur:Array Value) (t:TypeId),(t=UU\/t=pz)/\w.heap[g]? =some (Obj.cells cur t (0,0))
structure pA (B:Nat) (w w':World):Prop where
 os:w'.os=w.os
 tape:w'.tape=w.tape
 output:w'.output=w.output
 size:w.heap.size<=w'.heap.size
 gv:∀ b:Nat,b<w.heap.size->¬ Zx w B b->w'.heap[b]? =w.heap[b]?
theorem pA.refl (B:Nat) (w:World):pA B w w:=⟨rfl,rfl,rfl,Nat.le_refl _,λ_ _ _=>rfl⟩
theorem pA.aH {B:Nat} {w a b:World} (h:pA B w a) (k:ax a b):pA B w b:=
 ⟨k.os.trans h.os,k.tape.trans h.tape,k.output.trans h.output,Nat.le_trans h.size k.size,λx hx hz=>(Below.block k x (Nat.lt_of_lt_of_le hx h.size)).trans (h.gv x hx hz)⟩
theorem pA.set {B:Nat} {w a:World} (h:pA B w a) {b o:Nat} {vs:List Value} (hb:w.heap.size<=b\/Zx w B b):pA B w (a.setCells b o vs):=by
 obtain⟨e1,e2,e3,e4⟩:=gI (b:=b) vs o a
 refine⟨e1.trans h.os,e2.trans h.tape,e3.trans h.output,Nat.le_trans h.size e4,λx hx hz=>(dy vs o a x (λe=> ?_)).trans (h.gv x hx hz)⟩
 subst e
 rcases hb with hb|hb
 ·omega
 ·exact hz hb
theorem pA.below {B:Nat} {w0 w w':World} (h0:Below B w0 w) (hB:B<=w.heap.size) (h:pA B w w'):Below B w0 w':=Below.trans h0 ⟨h.os,h.tape,h.output,h.size,λb hb=>h.gv b (Nat.lt_of_lt_of_le hb hB) (λhz=>by have:=hz.1;omega)⟩
abbrev KX4:KC:=⟨UU,λ_=>True,λt=>Nat.beq t pz⟩
abbrev cxX (P:Program) (w:World) (N:Nat) (B:Nat):Cx:={ P:=P,w0:=w,N:=N,K:=KX4,SU:=λt=>Nat.beq t 23,ti:=table,keep:=λ_ _=>trivial
                                                       vu:=λ_ g=>w.heap.size<=g\/Zx w B g
                                                       Old:=λw'=>pA B w w'
                                                       zi:=λ_ _ _ h=>.inl h
                                                       Hu:=λ_ _ _ h _=>h
                                                       ll:=λ_ h=>h.size
                                                       mU:=pA.refl _ _
                                                       pJ:=λa b h _ _ s=>⟨s.os.trans h.os,s.tape.trans h.tape,s.output.trans h.output,Nat.le_trans h.size s.size,λx hx hz=>by
                                                        rcases s.gv x (Nat.lt_of_lt_of_le hx h.size) with e|⟨⟨_,hi⟩,_⟩|e
                                                        ·exact e.trans (h.gv x hx hz)
                                                        ·rcases hi with hi|hi
                                                         ·omega
                                                         ·exact absurd hi hz
                                                        ·exact absurd trivial e⟩
                                                       vw:=λa ad u h hn hc=>by
                                                        have hb:=gL hc
                                                        rw[World.cell?_of_block (w:=w) (h.gv ad.block hb (λhz=>hn 0 (.inr hz)))]
                                                        exact hc
                                                       lay:=λw1 H h _ hf=>by
                                                        obtain⟨β,w2,h1,h2,h3,h4⟩:=tc (K:=KX4) (ax.refl w1) H hf
                                                        exact⟨β,w2,h1,h.aH h2,λi t cs hi=>⟨.inl (Nat.le_trans h.size (h3 i t cs hi).1),(h3 i t cs hi).2⟩,h4⟩ }
theorem NM (w:World) (N B:Nat):(cxX Tryz.prog w N B).Ok:=eD
section
variable {Q:Exit->Act->World->Prop} {F F':Fr} {H H':Hp} {w w1:World} {N B:Nat} {l':List Oper} {k:List It} {id:Nat} {ops:Array Oper}
theorem cxX_r (e:im (cxX Tryz.prog w1 N B) ops 80 ops.toList F H=(l',F',H')) (h:aB (cxX Tryz.prog w1 N B) none ops l' (VS (cxX Tryz.prog w1 N B) Q k) F' H' w):VS (cxX Tryz.prog w1 N B) Q (.code (.region id ops false)::k) F H w:=VS.region (NM _ _ _) (VO.run 80 e h)
theorem at_sx {b off:Nat} {cs:List Value} {t:TypeId} {cur:Array Value} (hc:aL w b t cur) (ht:t≠UU) (hr:t≠pz) (h:∀ (j:Nat) (u:Value),cs[j]? =some u->w.cell? ((⟨b,off,none⟩:Addr).add j)=some u):∀ (j:Nat) (u:Value),cs[j]? =some u->(cxX Tryz.prog w N B).At ((⟨b,off,none⟩:Addr).add j) u:=by
 intro j u hj w1 sO
 have h0:=h j u hj
 rw[Addr.add_mid] at h0 ⊢
 rw[World.cell?_of_block (w:=w) (a:=⟨b,off+j,none⟩) (sO.gv b hc.lt (λhz=>by
  obtain⟨_,c,t',ht',hz⟩:=hz
  have:=hc.symm.trans hz
  cases this
  exact ht'.elim ht hr))]
 exact h0
end
theorem uM {b:Nat} {t:TypeId}:∀ (vs:List Value) (o:Nat) (w:World) (cur:Array Value),aL w b t cur->o+vs.length<=cur.size->∃ sf,aL (w.setCells b o vs) b t sf/\sf.size=cur.size/\(∀ j,(j<o\/o+vs.length<=j)->sf[j]? =cur[j]?)/\(∀ (j:Nat) (x:Value),vs[j]? =some x->sf[o+j]? =some x)
 | [],o,w,cur,h,_=>⟨cur,h,rfl,λ_ _=>rfl,λj x hj=>by simp at hj⟩
 | v::r,o,w,cur,h,hl=>by
   rw[List.length_cons] at hl
   obtain⟨sf,h1,h2,h3,h4⟩:=uM r (o+1) (w.setCell ⟨b,o,none⟩ v) (cur.setIfInBounds o v) (aL.set (b:=b) (t:=t) (cs:=cur) h v) (by simp;omega)
   refine⟨sf,h1,by rw[h2];simp,λj hj=> ?_,λj x hj=> ?_⟩
   ·rw[List.length_cons] at hj
    rw[h3 j aa,Array.getElem?_setIfInBounds,if_neg aa]
   ·cases j with
    | zero=>
      cases hj
      rw[Nat.add_zero,h3 o aa,Array.getElem?_setIfInBounds,if_pos rfl,if_pos aa]
    | succ j=>
      have:=h4 j x (by simpa using hj)
      rw[show o+(j+1)=o+1+j by omega];exact this
def kQ (B:Nat) (w:World) (u:Value):Prop:=∃ p n c,u=.slice p n c/\n<=c/\c<=9223372036854775807/\(0<n->∃ b cur,p=some ⟨b,0,none⟩/\B<=b/\aL w b pz cur/\n*4<=cur.size/\∀ i,i<n->∃ s q k l t y m d,(∀ (j:Nat) (x:Value),[Value.bool s,.slice q k l,.bool t,.slice y m d][j]? =some x->cur[i*4+j]? =some x)/\jy w B y m/\m<=9223372036854775807)
def SpTab (B:Nat) (w:World) (v:Value):Prop:=∃ us,aE VE 1 105 0 w v us/\∀ u∈us,kQ B w u
theorem kQ.keep {B:Nat} {w w':World} {u:Value} (h:kQ B w u) (h1:∀ (b:Nat) (cur:Array Value),aL w b pz cur->aL w' b pz cur) (h2:Hk w w'):kQ B w' u:=by
 obtain⟨p,n,c,hu,a1,a2,h⟩:=h
 refine⟨p,n,c,hu,a1,a2,λhn=> ?_⟩
 obtain⟨b,cur,g1,g2,g3,g4,g5⟩:=h hn
 refine⟨b,cur,g1,g2,h1 b cur g3,g4,λi hi=> ?_⟩
 obtain⟨s,q,k,l,t,y,m,d,e1,e2,e3⟩:=g5 i hi
 exact⟨s,q,k,l,t,y,m,d,e1,e2.hk h2,e3⟩
theorem kQ.put {B:Nat} {w:World} {u:Value} {b0 c0:Nat} {cur0:Array Value} (h:kQ B w u) (hc:aL w b0 pz cur0) (hl:c0*4+4<=cur0.size):kQ B (w.setCells b0 (c0*4) [.bool false,.slice none 0 0,.bool false,.slice none 0 0]) u:=by
 obtain⟨p,n,c,hu,a1,a2,h⟩:=h
 obtain⟨sf,k1,k2,k3,k4⟩:=uM (t:=pz) [.bool false,.slice none 0 0,.bool false,.slice none 0 0] (c0*4) w cur0 hc hl
 have hk:Hk w (w.setCells b0 (c0*4) [.bool false,.slice none 0 0,.bool false,.slice none 0 0]):=λg cur hg=>⟨cur,(dy _ _ w g (λe=>by
  subst e
  have:=hc.symm.trans hg
  injection this with this
  injection this with _ h2
  exact absurd h2 cH)).trans hg,rfl⟩
 refine⟨p,n,c,hu,a1,a2,λhn=> ?_⟩
 obtain⟨b,cur,g1,g2,g3,g4,g5⟩:=h hn
 by_cases hb:b=b0
 ·subst hb
  have:=g3.symm.trans hc
  cases this
  refine⟨b,sf,g1,g2,k1,by rw[k2];exact g4,λi hi=> ?_⟩
  by_cases hic:i=c0
  ·subst hic
   exact⟨false,none,0,0,false,none,0,0,λj x hj=>k4 j x hj,.inl rfl,by omega⟩
  ·obtain⟨s,q,k,l,t,y,m,d,e1,e2,e3⟩:=g5 i hi
   refine⟨s,q,k,l,t,y,m,d,λj x hj=> ?_,e2.hk hk,e3⟩
   have hj4:=(List.getElem?_eq_some_iff.1 hj).1
   rw[k3 _ (by simp at hj4 ⊢;omega)]
   exact e1 j x hj
 ·refine⟨b,cur,g1,g2,(dy _ _ w b hb).trans g3,g4,λi hi=> ?_⟩
  obtain⟨s,q,k,l,t,y,m,d,e1,e2,e3⟩:=g5 i hi
  exact⟨s,q,k,l,t,y,m,d,e1,e2.hk hk,e3⟩
theorem mE {B:Nat} {w w':World} (h:ax w w') (hB:B<=w.heap.size):Below B w w':=⟨h.os,h.tape,h.output,h.size,λb hb=>Below.block h b (Nat.lt_of_lt_of_le hb hB)⟩
theorem kQ.az {B:Nat} {w w':World} {u:Value} (h:kQ B w u) (hb:ax w w'):kQ B w' u:=h.keep (λb cur hc=>hc.az hb) (Hk.kp (Kp.of (U:=UU) hb))
theorem sB.cls {B:Nat} {w w':World} {b:Nat} {t:TypeId} {cur:Array Value} (h:sB B w w') (hc:aL w b t cur) (ht:t≠UU):aL w' b t cur:=(h.gv b hc.lt (λhz=>by
 obtain⟨_,c,hz⟩:=hz
 have:=hc.symm.trans hz
 cases this
 exact ht rfl)).trans hc
theorem pA.cls {B:Nat} {w w':World} {b:Nat} {t:TypeId} {cur:Array Value} (h:pA B w w') (hc:aL w b t cur) (ht:t≠UU) (hr:t≠pz):aL w' b t cur:=(h.gv b hc.lt (λhz=>by
 obtain⟨_,c,t',ht',hz⟩:=hz
 have:=hc.symm.trans hz
 cases this
 exact ht'.elim ht hr)).trans hc
theorem cJ.ve {w w':World}:∀ {us:List Value} {vs:List (List Value)},cJ VE w us vs->cJ VE w' us vs
 | _,_,.nil=>.nil
 | _,_,.cons h t=>.cons h t.ve
theorem aE.ve {w w':World} {t:TypeId} {B:Nat} {v:Value} {us:List Value} (h:aE VE 1 t B w v us) (hc:∀ (b:Nat) (cur:Array Value),aL w b t cur->aL w' b t cur):aE VE 1 t B w' v us:=by
 rcases h with h|⟨b,c,vs,sp,g1,g2,g3,g4,g5⟩
 ·exact .inl h
 ·exact .inr ⟨b,c,vs,sp,g1,g2,hc _ _ g3,g4.ve,g5⟩
theorem NN {P Q:Prop} (h:Q) (i:Q->P:=by intro h;(repeat first|refine wN ?_|refine wP rfl ?_|refine cxS_r rfl ?_|refine cxS_d rfl ?_|refine wO rfl rfl ?_);exact h):P:=i h
theorem wWcxX {P Q:Prop} (h:Q) (i:Q->P:=by intro h;(repeat first|refine wN ?_|refine wP rfl ?_|refine cxX_r rfl ?_|refine cxX_d rfl ?_|refine wO rfl rfl ?_);exact h):P:=i h
set_option maxRecDepth 4000 in
theorem EC (v:Value) (B:Nat) (w:World) (hB:B<=w.heap.size) (hv:SpTab B w v):
  Calls Tryz.prog 15 #[.agg #[v]] w λo w'=>o=.returned (.tuple #[])/\Below B w w':=by
 obtain⟨us,aQ,sw⟩:=hv
 obtain⟨pv,cv,rfl⟩:=aQ.form
 have hR63:us.length<=9223372036854775807:=by
  obtain⟨p,c,hv,h1,h2⟩:=(aQ.sl db).form
  omega
 obtain⟨R,hR⟩:∃ R,R=us.length:=⟨_,rfl⟩
 rw[<-hR] at aQ hR63
 rw[<-hR]
 refine ai (C:=bj Tryz.prog w _) (args:=[_]) Tryz.func15 rfl Tryz.ntmps15 (cr rfl) ?_
 refine ae ?_
 refine VS.fY (J:=λm L W=>∃ (e g1:Nat),e<=R/\m=R-e/\L=[(1,.pointer (some ⟨g1,0,none⟩)),(2,.int .i64 (e:Int))]/\Below B w W/\aL W g1 52 #[.slice pv R cv]/\aE VE 1 105 0 W (.slice pv R cv) us/\∀ u∈us,kQ B W u)
  (λW=>bj Tryz.prog W 52) (λ_=>rfl) (λ_=>rfl) (λ_=>ax.refl _) R (λw' β k' o en=>⟨[(1,.pointer (some ⟨β 1,0,none⟩)),(2,.int .i64 ((0:Nat):Int))],⟨⟨_,_,rfl,rfl,rfl⟩,⟨_,_,rfl,rfl,rfl⟩,trivial⟩,0,β 1,by omega,rfl,rfl,mE o hB,(en.own 1 _ _ rfl).cls,aQ.az db o,λu hu=>(sw u hu).az o⟩) ?_
 rintro m L W ⟨e,g1,he,rfl,rfl,lQ,Ji,hrW,huW⟩
 have hBs:B<=W.heap.size:=Nat.le_trans hB lQ.size
 refine ae ?_
 refine VO.read rfl [.slice pv R cv] rfl (aG (Ji.cell (j:=0) rfl)) (wV rfl ?_)
 refine ae ?_
 by_cases heR:e<R
 rotate_left
 ·refine VS.aN rfl (decide_eq_false (λh=>heR (Int.ofNat_lt.1 h))) ?_
  refine ae ?_
  refine VS.fin (cV _ _) rfl (λwz β kz bz en=> ?_)
  exact⟨rfl,Below.trans lQ (mE bz hBs)⟩
 refine VS.aU rfl (decide_eq_true (Int.ofNat_lt.2 heR)) ?_
 refine ae ?_
 obtain⟨ue,hue⟩:∃ u,us[e]? =some u:=⟨_,List.getElem?_eq_getElem aa⟩
 have Dh:=List.mem_of_getElem? hue
 obtain⟨pu,n,cu,rfl,gg,gF,-⟩:=huW ue Dh
 refine VS.fY (J:=λm L W=>∃ c:Nat,c<=n/\m=n-c/\L=[(1,.pointer (some ⟨g1,0,none⟩)),(2,.int .i64 (e:Int)),(3,.int .i64 (c:Int))]/\Below B w W/\aL W g1 52 #[.slice pv R cv]/\aE VE 1 105 0 W (.slice pv R cv) us/\∀ u∈us,kQ B W u)
  (λW=>bj Tryz.prog W 52) (λ_=>rfl) (λ_=>rfl) (λ_=>ax.refl _) n (λw' β k' o en=>⟨[(1,.pointer (some ⟨g1,0,none⟩)),(2,.int .i64 (e:Int)),(3,.int .i64 ((0:Nat):Int))],⟨⟨_,_,rfl,rfl,rfl⟩,⟨_,_,rfl,rfl,rfl⟩,⟨_,_,rfl,rfl,rfl⟩,trivial⟩,0,by omega,rfl,rfl,Below.trans lQ (mE o hBs),Ji.az o,hrW.az db o,λu hu=>(huW u hu).az o⟩) ?_
 rintro m L W2 ⟨c,hc,rfl,rfl,hBW2,Ci,qe,ym⟩
 have hBs2:B<=W2.heap.size:=Nat.le_trans hB hBW2.size
 obtain⟨bR,oR,csR,rfl,hcR,hVE⟩:=(qe.sl db).at hue
 obtain⟨rfl,-⟩:=hVE
 refine ae ?_
 refine VO.read rfl [.slice (some ⟨bR,oR,none⟩) R cv] rfl (aG (Ci.cell (j:=0) rfl)) (wV rfl ?_)
 refine ae ?_
 refine VO.cond rfl cW ?_
 refine wV rfl ?_
 refine ae ?_
 refine VO.read rfl [.slice pu n cu] rfl (cN hcR) (wV rfl ?_)
 refine ae ?_
 by_cases hcn:c<n
 rotate_left
 ·refine VS.aN rfl (decide_eq_false (λh=>hcn (Int.ofNat_lt.1 h))) ?_
  refine ae ?_
  refine VS.fq rfl (R-(e+1)) aa (λw' bn k' o' jx=> ?_)
  exact⟨[(1,.pointer (some ⟨g1,0,none⟩)),(2,.int .i64 ((e+1:Nat):Int))],⟨⟨_,_,rfl,rfl,rfl⟩,⟨_,_,rfl,congrArg (λz=>Value.int .i64 z) (ay (i:=e) aa),rfl⟩,trivial⟩,e+1,g1,by omega,rfl,rfl,Below.trans hBW2 (mE o' hBs2),Ci.az o',qe.az db o',λu hu=>(ym u hu).az o'⟩
 refine VS.aU rfl (decide_eq_true (Int.ofNat_lt.2 hcn)) ?_
 obtain⟨_,_,_,hpu,_,_,hrw⟩:=ym _ Dh
 cases hpu
 obtain⟨b,cur,rfl,hBb,hcb,hsz,dE⟩:=hrw aa
 obtain⟨s,q0,k0,l0,t0,y,m,d,hcell,hhk,yw⟩:=dE c hcn
 have hce:∀ (j:Nat) (u:Value),[Value.bool s,.slice q0 k0 l0,.bool t0,.slice y m d][j]? =some u->W2.cell? ⟨b,0+c*4+j,none⟩=some u:=λj u hj=>by rw[Nat.zero_add];exact hcb.cell (hcell j u hj)
 refine ae ?_
 refine VO.read rfl [.slice (some ⟨bR,oR,none⟩) R cv] rfl (aG (Ci.cell (j:=0) rfl)) (wV rfl ?_)
 refine ae ?_
 refine VO.cond rfl cW ?_
 refine wV rfl ?_
 refine ae ?_
 refine VO.read rfl [.slice (some ⟨b,0,none⟩) n cu] rfl (cN hcR) (wV rfl ?_)
 refine ae ?_
 refine VO.cond rfl cW ?_
 refine wV rfl ?_
 refine ae ?_
 refine VO.read rfl [.bool s,.slice q0 k0 l0,.bool t0,.slice y m d] rfl (aC hce 0 _ ⟨[],rfl⟩) (wV rfl ?_)
 refine ae ?_
 refine VS.eV (λw=>cxS Tryz.prog w 52 B) (λ_=>rfl) (λ_=>rfl) (λ_=>sB.refl _ _) (λw9 β k9 b9 en=> ?_)
 have Jv:ax W2 w9:=b9
 have h4:aL w9 (β 4) pz #[.bool s,.slice q0 k0 l0,.bool t0,.slice y m d]:=(en.own 4 _ _ rfl).cls
 refine⟨[(1,.val (.pointer (some ⟨g1,0,none⟩))),(2,.val (.int .i64 (e:Int))),(3,.val (.int .i64 (c:Int))),(4,.val (.pointer (some ⟨β 4,0,none⟩))),(5,.val (.int .i64 0))],⟨⟨_,_,rfl,rfl,rfl⟩,⟨_,_,rfl,rfl,rfl⟩,⟨_,_,rfl,rfl,rfl⟩,⟨_,_,rfl,rfl,rfl⟩,⟨_,_,rfl,rfl,rfl⟩,trivial⟩,?_⟩
 generalize β 4=g4 at h4 ⊢
 have hg9:=Ci.az Jv
 have hr9:=qe.az db Jv
 have hu9:∀ u∈us,kQ B w9 u:=λu hu=>(ym u hu).az Jv
 have hhk9:jy w9 B y m:=hhk.hk (Hk.kp (Kp.of (U:=UU) Jv))
 have hBW9:Below B w w9:=Below.trans hBW2 (mE Jv hBs2)
 have tZ:∀ (j:Nat) (u:Value),[Value.slice y m d][j]? =some u->w9.cell? ((⟨g4,3,none⟩:Addr).add j)=some u:=λj u hj=>by
  cases j with
  | zero=>cases hj;exact h4.cell (j:=3) rfl
  | succ j=>cases hj
 refine VS.loop (J:=λm' L M w'=>∃ k:Nat,k<=m/\m'=m-k/\L=[(1,.val (.pointer (some ⟨g1,0,none⟩))),(2,.val (.int .i64 (e:Int))),(3,.val (.int .i64 (c:Int))),(4,.val (.pointer (some ⟨g4,0,none⟩))),(5,.val (.int .i64 (k:Int)))]/\M=[]/\Hk w9 w') m ⟨_,_,?_,?_,?_,?_,⟨0,by omega,rfl,rfl,rfl,Hk.kp dz⟩⟩ ?_
 ·exact du
 ·exact du
 ·rfl
 ·exact iq
 rintro m' L M wK ⟨k,hk,rfl,rfl,rfl,hkK⟩
 refine NN ?_
 refine VO.aO rfl [.slice y m d] rfl (at_sp h4 cH tZ) (wV rfl ?_)
 refine NN ?_
 by_cases LJ:k<m
 ·refine VS.aU rfl (decide_eq_true (Int.ofNat_lt.2 LJ)) ?_
  obtain⟨g,curg,hpq,hBg,hcg,AL⟩:∃ g cur,y=some ⟨g,0,none⟩/\B<=g/\w9.heap[g]? =some (Obj.cells cur UU (0,0))/\m<=cur.size:=by
   rcases hhk9 with h|h
   ·omega
   ·exact h
  subst hpq
  (repeat (first|refine wN ?_|refine wP rfl ?_))
  refine VS.II (NL _ _ _) rfl ?_
  refine wV rfl ?_
  refine VO.aO rfl [.slice (some ⟨g,0,none⟩) m d] rfl (at_sp h4 cH tZ) (wV rfl ?_)
  refine VO.cond rfl cW ?_
  refine wV rfl ?_
  refine wN ?_
  refine⟨_,_,_,g,0+(k:Int).toNat*1,_,.int .u32 77,rfl,rfl,rfl,rfl,rfl,rfl,rfl,rfl,λw1 k1 bo1=> ?_⟩
  obtain⟨cur1,ik,Mo⟩:=(hkK.aH (Hk.kp k1)) g curg hcg
  refine⟨cur1,UU,ik,by rw[Int.toNat_natCast];show 0+k*1+1<=_;omega,by simp[KC.fz],bo1.set (.inr ⟨hBg,curg,hcg⟩),?_⟩
  have hk2:Hk w9 (w1.setCells g (0+(k:Int).toNat*1) (Value.cells (.int .u32 77)).toList):=(hkK.aH (Hk.kp k1)).set ik
  generalize w1.setCells g (0+(k:Int).toNat*1) (Value.cells (.int .u32 77)).toList=w2 at*
  refine NN ?_
  refine VS.back (m-(k+1)) aa ⟨_,_,?_,?_,?_,?_,⟨k+1,by omega,rfl,rfl,rfl,hk2⟩⟩
  ·refine⟨rfl,rfl,rfl,rfl,?_,trivial⟩
   rw[<-ay (i:=k) aa];rfl
  ·exact du
  ·rfl
  ·exact iq
 refine VS.aN rfl (decide_eq_false (λe=>LJ (Int.ofNat_lt.1 e))) ?_
 (repeat (first|refine wN ?_|refine wP rfl ?_|refine wO rfl rfl ?_))
 refine VS.eV (λw=>cxX Tryz.prog w 52 B) (λ_=>rfl) (λ_=>rfl) (λ_=>pA.refl _ _) (λDW β k10 b10 en=> ?_)
 have s10:sB B w9 DW:=b10
 have hk10:Hk w9 DW:=hkK.aH (Hk.kp dz)
 refine⟨[(1,.val (.pointer (some ⟨g1,0,none⟩))),(2,.val (.int .i64 (e:Int))),(3,.val (.int .i64 (c:Int)))],⟨⟨_,_,rfl,rfl,rfl⟩,⟨_,_,rfl,rfl,rfl⟩,⟨_,_,rfl,rfl,rfl⟩,trivial⟩,?_⟩
 have hg10:=s10.cls hg9 cH
 have hr10:=hr9.ve (λb cur h=>s10.cls h cH)
 have hu10:∀ u∈us,kQ B DW u:=λu hu=>(hu9 u hu).keep (λb cur h=>s10.cls h cH) hk10
 have hcb10:aL DW b pz cur:=s10.cls (hcb.az Jv) cH
 have hBs9:B<=w9.heap.size:=Nat.le_trans hBs2 Jv.size
 have hBW10:Below B w DW:=Below.trans hBW9 ⟨s10.os,s10.tape,s10.output,s10.size,λb hb=>s10.gv b (Nat.lt_of_lt_of_le hb hBs9) (λhz=>by have:=hz.1;omega)⟩
 have hBs10:B<=DW.heap.size:=Nat.le_trans hBs9 s10.size
 obtain⟨curR,hclR⟩:∃ cur,aL DW bR 105 cur:=by
  rcases hr10 with ⟨h,_⟩|⟨b',c',vs,sp,h,_,h3,_⟩
  ·cases h
  ·cases h;exact⟨_,h3⟩
 obtain⟨bR',oR',csR',hpR,hcR',hVE'⟩:=(hr10.sl db).at hue
 cases hpR
 obtain⟨rfl,-⟩:=hVE'
 (repeat (first|refine wN ?_|refine wP rfl ?_))
 refine VS.II (NM _ _ _) rfl ?_
 refine wV rfl ?_
 refine VO.aO rfl [.slice (some ⟨bR,oR,none⟩) R cv] rfl (at_sx hg10 cH cH (aG (hg10.cell (j:=0) rfl))) (wV rfl ?_)
 refine VO.cond rfl cW ?_
 refine wV rfl ?_
 refine VO.aO rfl [.slice (some ⟨b,0,none⟩) n cu] rfl (at_sx hclR cH cH (cN hcR')) (wV rfl ?_)
 refine VO.cond rfl cW ?_
 refine wV rfl ?_
 refine wN ?_
 refine⟨_,_,_,b,0+(c:Int).toNat*4,_,.agg #[.bool false,.slice none 0 0,.bool false,.slice none 0 0],rfl,rfl,rfl,rfl,rfl,rfl,rfl,rfl,λw1 k1 bo1=> ?_⟩
 have ik:aL w1 b pz cur:=k1.block pz b cur rfl trivial hcb10
 refine⟨cur,pz,ik,by rw[Int.toNat_natCast];show 0+c*4+4<=_;omega,rfl,bo1.set (.inr ⟨hBb,cur,pz,.inr rfl,hcb10⟩),?_⟩
 have hu11:∀ u∈us,kQ B (w1.setCells b (c*4) [.bool false,.slice none 0 0,.bool false,.slice none 0 0]) u:=λu hu=>((hu10 u hu).keep (λb cur h=>k1.block pz b cur rfl trivial h) (Hk.kp k1.dN)).put ik aa
 rw[show w1.setCells b (0+(c:Int).toNat*4) (Value.cells (.agg #[.bool false,.slice none 0 0,.bool false,.slice none 0 0])).toList=w1.setCells b (c*4) [.bool false,.slice none 0 0,.bool false,.slice none 0 0] by rw[Int.toNat_natCast,Nat.zero_add];rfl]
 generalize w1.setCells b (c*4) [.bool false,.slice none 0 0,.bool false,.slice none 0 0]=w2 at*
 refine wWcxX ?_
 refine VS.fq rfl (n-(c+1)) aa (λw' bn k' o' jx=> ?_)
 have BF:pA B DW w':=o'
 exact⟨[(1,.pointer (some ⟨g1,0,none⟩)),(2,.int .i64 (e:Int)),(3,.int .i64 ((c+1:Nat):Int))],⟨⟨_,_,rfl,rfl,rfl⟩,⟨_,_,rfl,rfl,rfl⟩,⟨_,_,rfl,congrArg (λz=>Value.int .i64 z) (ay (i:=c) aa),rfl⟩,trivial⟩,c+1,by omega,rfl,rfl,pA.below hBW10 hBs10 BF,BF.cls hg10 cH cH,hr10.ve (λb cur h=>BF.cls h cH cH),λu hu=>(hu11 u hu).keep (λb cur h=>(show aK KX4 w2 w' from dz).block pz b cur rfl trivial h) (Hk.kp (show aK KX4 w2 w' from dz).dN)⟩
set_option maxRecDepth 4000
theorem Kv {n k e:Nat} {r:List Rat} (h:(ft n k)[e]? =some r):r=List.replicate k 0:=by
 unfold ft at h
 exact (List.mem_replicate.1 (List.mem_of_getElem? h)).2
theorem uN {P Q:Prop} (h:Q) (i:Q->P:=by intro h;(repeat first|refine wN ?_|refine wP rfl ?_|refine cxU_r rfl ?_|refine cxU_d rfl ?_|refine wO rfl rfl ?_);exact h):P:=i h
set_option maxRecDepth 8000 in
theorem Gy (n k:Int) (w:World) (hn:n<=100000) (hk:k<=100000):
  Calls Tryz.prog 35 #[.int .i64 n,.int .i64 k] w λo w'=>∃ r,o=.returned (.agg #[r])/\jn (qT 1) 147 38 w.heap.size w' r (ft n.toNat k.toNat)/\ax w w':=by
 obtain⟨N,hN⟩:∃ N,N=n.toNat:=⟨_,rfl⟩
 obtain⟨K,hK⟩:∃ K,K=k.toNat:=⟨_,rfl⟩
 rw[<-hN,<-hK]
 have hNb:N<=100000:=by omega
 have hKb:K<=100000:=by omega
 have hbl:(ft N K).length=N:=by unfold ft;rw[List.length_replicate]
 refine ai (C:=bj Tryz.prog w _) (args:=[_,_]) Tryz.func35 rfl Tryz.ntmps35 (cr rfl) ?_
 refine ae ?_
 refine VS.fY (J:=λm L W=>∃ (e g4 g:Nat) (rv:Value) (us:List Value),e<=N/\m=N-e/\L=[(0,.int .i64 n),(1,.int .i64 k),(4,.pointer (some ⟨g4,0,none⟩)),(5,.pointer (some ⟨g,0,none⟩)),(6,.int .i64 (e:Int))]/\ax w W/\w.heap.size<=g4/\w.heap.size<=g/\g4≠g/\aL W g4 46 #[.slice none 0 0]/\aL W g 46 #[rv]/\aE VE 1 147 w.heap.size W rv us/\us.length=e/\(∀ (i:Nat) (u:Value) (r:List Rat),us[i]? =some u->(ft N K)[i]? =some r->aE (qT 1) 4 38 w.heap.size W u r)/\uI us)
  (λW=>bj Tryz.prog W 30) (λ_=>rfl) (λ_=>rfl) (λ_=>ax.refl _) N (λw' β k' o en=>⟨[(0,.int .i64 n),(1,.int .i64 k),(4,.pointer (some ⟨β 4,0,none⟩)),(5,.pointer (some ⟨β 5,0,none⟩)),(6,.int .i64 ((0:Nat):Int))],⟨⟨_,_,rfl,rfl,rfl⟩,⟨_,_,rfl,rfl,rfl⟩,⟨_,_,rfl,rfl,rfl⟩,⟨_,_,rfl,rfl,rfl⟩,⟨_,_,rfl,rfl,rfl⟩,trivial⟩,0,β 4,β 5,.slice none 0 0,[],by omega,rfl,rfl,o,(en.own 4 _ _ rfl).new,(en.own 5 _ _ rfl).new,(λh=>absurd (en.apart 4 5 (by intro h;cases h) (by intro h;cases h) h) cH),(en.own 4 _ _ rfl).cls,(en.own 5 _ _ rfl).cls,.inl ⟨rfl,rfl⟩,rfl,λi u r hi=>(by simp at hi),λi j u v b hi=>(by simp at hi)⟩) ?_
 rintro m L W ⟨e,g4,g,rv,us,he,rfl,rfl,lQ,nu,Nw,kM,lS,zR,Gq,ze,sw,Nx⟩
 refine ae ?_
 by_cases heR:e<N
 ·refine VS.aU rfl (decide_eq_true (show (e:Int)<n by omega)) ?_
  obtain⟨ru,uR⟩:∃ r,(ft N K)[e]? =some r:=⟨_,List.getElem?_eq_getElem aa⟩
  have hrk:=Kv uR
  have hrl:ru.length=K:=by rw[hrk,List.length_replicate]
  refine ae ?_
  refine VS.loop (J:=λm L M w'=>∃ (z:Nat) (X:AV) (Mi:List (Nat×(TypeId×List AV))),z<=K/\m=K-z/\L=[(0,.val (.int .i64 n)),(1,.val (.int .i64 k)),(4,.val (.pointer (some ⟨g4,0,none⟩))),(5,.val (.pointer (some ⟨g,0,none⟩))),(6,.val (.int .i64 (e:Int))),(7,X),(8,.val (.int .i64 (z:Int)))]/\M=Mi/\dD (qT 1) 4 38 22 X Mi w' (ru.take z)) K ⟨_,_,?_,?_,?_,?_,⟨0,_,[],by omega,rfl,rfl,rfl,.inl ⟨rfl,rfl,rfl⟩⟩⟩ ?_
  ·exact du
  ·exact du
  ·rfl
  ·exact iq
  rintro m L Mi wI ⟨z,X,Nz,hz,rfl,rfl,rfl,hI⟩
  refine VS.now (λwX kN bN=> ?_)
  replace hI:=hI.kp (cE 1) (aK.dN kN)
  refine VS.mask [21] (by rcases hI with ⟨_,rfl,rfl⟩|⟨_,_,_,_,rfl,rfl,_⟩ <;> (repeat first|exact trivial|refine⟨rfl,?_⟩)) ?_
  refine ae ?_
  by_cases hzK:z<K
  ·obtain⟨y,hy⟩:∃ y,ru[z]? =some y:=⟨_,List.getElem?_eq_getElem aa⟩
   have yl:y=0:=by
    rw[hrk] at hy
    exact (List.mem_replicate.1 (List.mem_of_getElem? hy)).2
   refine VS.aU rfl (decide_eq_true (show (z:Int)<k by omega)) ?_
   refine ae ?_
   refine VO.cR rfl rfl (fk Tryz.func80) (λbL dw bX=>oN bL) (λbL dw bX w1 s1 p1 n1 c1 t1 y1 m1 d1 q1 bl eM _ bb1=>wV rfl ?_)
   refine ae ?_
   have dE:qT 1 w1 [.bool s1,.slice p1 n1 c1,.bool t1,.slice y1 m1 d1] y:=by rw[yl];exact .mk q1.rd lM.zero
   rcases hI with ⟨dc,rfl,rfl⟩|⟨n',c',vs,sp,rfl,rfl,mw⟩
   ·refine VO.iM (cV _ _) (cE 1) (t:=147) (e:=38) (s:=21) (a:=y) (cs:=[.bool s1,.slice p1 n1 c1,.bool t1,.slice y1 m1 d1]) rfl rfl rfl rfl rfl rfl rfl rfl (cr rfl) rfl rfl rfl dE aa (λw9 cap sp k9 b9 dR=>wV rfl ?_)
    refine ae ?_
    refine VS.back (K-(z+1)) aa ⟨_,_,?_,?_,?_,?_,⟨z+1,_,_,by omega,rfl,rfl,rfl,.inr ⟨1,cap,_,sp,rfl,rfl,by rw[aR hy,dc];exact dR⟩⟩⟩
    ·(refine⟨rfl,rfl,rfl,rfl,rfl,rfl,?_,trivial⟩;rw[<-ay (i:=z) aa];rfl)
    ·(repeat first|exact trivial|refine⟨rfl,?_⟩|refine⟨congrArg (λl=>some (_,l)) (bU (by first|exact bO.dm (by assumption)|exact af _|(rw[<-List.map_append];exact af _)) _ _),?_⟩)
    ·rfl
    ·(repeat first|exact trivial|refine⟨aw.lit rfl,?_⟩|refine⟨bO.oO (by assumption),?_⟩|refine⟨aw.append (.vals _) (.vals _),?_⟩|refine⟨aw.vals _,?_⟩)
   ·have nW:=mw.len
    refine VO.iP (cV _ _) (cE 1) (t:=147) (e:=38) (s:=21) (i:=22) (n:=n') (c:=c') (vs:=vs) (sp:=sp) (es:=ru.take z) (a:=y) (cs:=[.bool s1,.slice p1 n1 c1,.bool t1,.slice y1 m1 d1]) rfl rfl rfl rfl rfl rfl rfl rfl (cr rfl) rfl (.inr rfl) rfl (mw.kp (cE 1) dz) rfl dE (by rw[List.length_take] at nW;omega) (λw9 ir fx ρ k9 b9 dY dR=>wV rfl ?_)
    refine ae ?_
    refine VS.back (K-(z+1)) aa ⟨_,_,?_,?_,?_,?_,⟨z+1,_,_,by omega,rfl,rfl,rfl,.inr ⟨n' +1,ir,_,fx,rfl,rfl,by rw[aR hy];exact dR⟩⟩⟩
    ·(refine⟨rfl,rfl,rfl,rfl,rfl,rfl,?_,trivial⟩;rw[<-ay (i:=z) aa];rfl)
    ·(repeat first|exact trivial|refine⟨rfl,?_⟩|refine⟨congrArg (λl=>some (_,l)) (bU (by first|exact bO.dm (by assumption)|exact af _|(rw[<-List.map_append];exact af _)) _ _),?_⟩)
    ·rfl
    ·(repeat first|exact trivial|refine⟨aw.lit rfl,?_⟩|refine⟨bO.oO (by assumption),?_⟩|refine⟨aw.append (.vals _) (.vals _),?_⟩|refine⟨aw.vals _,?_⟩)
  refine VS.aN rfl (decide_eq_false (show ¬ (z:Int)<k by omega)) ?_
  obtain rfl:K=z:=by omega
  rw[List.take_of_length_le aa] at hI
  subst ze
  refine VS.bI zO (λt=>Nat.beq t 23) table (λ_ _ _=>trivial) (λbm jk k1 fG jZ=> ?_)
  have ar:ax W bm:=fG
  have aQ:=hI.told (cE 1) jZ (by intro q hq;rcases hI with ⟨_,rfl,rfl⟩|⟨_,_,_,_,rfl,rfl,_⟩ <;> first|(cases hq;done)|(cases List.mem_singleton.1 hq;rfl)) k1.dN W.heap.size (λh=>h)
  have nw:=zR.az ar
  have iu:=lQ.size
  have fL:=ar.size
  rcases Gq with ⟨rfl,rfl⟩|⟨b0,cB,Bd,Be,rfl,hBg,my,xQ,xR,Gr,Gs,Gt⟩
  ·have cZ:cM zO 30 [g] [(46,[.val (.slice none 0 0)])] bm:=by
    refine⟨rfl,by simp,λj g' c' hj hc=> ?_,λc' hc=> ?_,λc' hc k hk=> ?_⟩
    ·match j,hj,hc with
     | 0,hj,hc=>cases hj;cases hc;exact nw
     | j+1,hj,_=>simp at hj
    ·cases List.mem_singleton.1 hc
     exact⟨rfl,rfl⟩
    ·cases List.mem_singleton.1 hc
     cases hk
   refine⟨[g],[(46,[.val (.slice none 0 0)])],cZ,[(0,.val (.int .i64 n)),(1,.val (.int .i64 k)),(4,.val (.pointer (some ⟨g4,0,none⟩))),(5,.box 60 0),(6,.val (.int .i64 (([]:List Value).length:Int))),(7,.val (X.aM jk))],⟨⟨_,rfl,rfl,λi hi=>(by cases hi)⟩,⟨_,rfl,rfl,λi hi=>(by cases hi)⟩,⟨_,rfl,rfl,λi hi=>(by cases hi)⟩,⟨_,rfl,rfl,λi hi=>by rw[(by simpa [AV.ids] using hi:i=60)];exact⟨(by show 60<=60;omega),(by show 60<2*30+1;omega)⟩⟩,⟨_,rfl,rfl,λi hi=>(by cases hi)⟩,⟨_,rfl,rfl,λi hi=>(by cases hi)⟩,trivial⟩,?_⟩
   generalize X.aM jk=vv at aQ ⊢
   obtain⟨nx,ny,rfl⟩:=aQ.form
   refine uN ?_
   refine VO.iM (xM _ _) db (t:=44) (e:=147) (s:=26) (a:=.slice nx ru.length ny) (cs:=[.slice nx ru.length ny]) rfl rfl rfl rfl rfl rfl rfl rfl (cr rfl) rfl rfl rfl ⟨rfl,_,_,_,rfl⟩ aa (λgm cap sp vK vL dR=>wV rfl ?_)
   refine uN ?_
   refine VS.fq rfl (N-(([]:List Value).length+1)) aa (λw' bn k' o' jx=> ?_)
   have rh:aK zO bm w':=(show aK zO bm gm from dz).aH k'
   have kc:ax w w':=eJ.az (lQ.aH ar) o'.1 (λx hx=>by rw[List.mem_singleton.1 hx];omega)
   have hst:dD VE 1 147 27 (.row 27 0 1 cap) [(27,(147,_))] gm ([.slice nx ru.length ny]):=.inr ⟨_,cap,_,sp,rfl,rfl,dR⟩
   have eI:=hst.told db jx (λx hx=>by cases List.mem_singleton.1 hx;rfl) k'.dN w.heap.size (λh=>(ba (show ez 30 [g] bm 27 (bn 27) from h)).elim (λq=>Nat.le_trans iu (Nat.le_trans fL q)) (λq=>by rw[List.mem_singleton.1 q];omega))
   have sP:=jx.own 60 _ _ rfl
   have jm:bn 60=g:=(lP sP 0 g rfl rfl).1
   refine⟨[(0,.int .i64 n),(1,.int .i64 k),(4,.pointer (some ⟨g4,0,none⟩)),(5,.pointer (some ⟨bn 60,0,none⟩)),(6,.int .i64 ((([]:List Value).length+1:Nat):Int))],⟨⟨_,_,rfl,rfl,rfl⟩,⟨_,_,rfl,rfl,rfl⟩,⟨_,_,rfl,rfl,rfl⟩,⟨_,_,rfl,rfl,rfl⟩,⟨_,_,rfl,congrArg (λz=>Value.int .i64 z) (ay (i:=([]:List Value).length) aa),rfl⟩,trivial⟩,([]:List Value).length+1,g4,bn 60,.slice (some ⟨bn 27,0,none⟩) 1 cap,[Value.slice nx ru.length ny],by omega,rfl,rfl,kc,nu,by rw[jm];exact Nw,by rw[jm];exact kM,(lS.az ar).but o'.1 (by simp[kM]),sP.cls,eI,by simp,?_,?_⟩
   ·exact pS (vs:=([]:List Value)) (l:=(ft N K)) (P:=λu r=>aE (qT 1) 4 38 w.heap.size w' u r) (λi u r hi hr=>((sw i u r hi hr).az (cE 1) ar).kp (cE 1) rh rfl) uR ((aQ.kp (cE 1) rh rfl).mono iu)
   ·exact fZ (us:=([]:List Value)) (λi j u v b hi=>(by simp at hi)) (λi v b hi hb=>by
     obtain⟨r,hr⟩:∃ r,(ft N K)[i]? =some r:=⟨_,List.getElem?_eq_getElem (by have:=(List.getElem?_eq_some_iff.1 hi).1;simp at this)⟩
     exact ((sw i v r hi hr).gv hb).2) (λb hb=>(aQ.gv hb).1)
  ·have xS:=my.az ar
   have hgb:g≠b0:=λh=>by rw[h] at nw;exact absurd (bt nw xS) cH
   have Gu:g4≠b0:=λh=>by rw[h] at lS;exact absurd (bt lS my) cH
   have cZ:cM zO 30 [g,b0] [(46,[.row 61 0 us.length cB]),(147,Bd.flatten.map .val++Be.map .val)] bm:=by
    refine⟨rfl,by simp[hgb],λj g' c' hj hc=> ?_,λc' hc=> ?_,λc' hc k hk=> ?_⟩
    ·match j,hj,hc with
     | 0,hj,hc=>cases hj;cases hc;exact nw
     | 1,hj,hc=>cases hj;cases hc;rw[<-List.map_append,aP];exact xS
     | j+2,hj,_=>simp at hj
    ·rcases List.mem_cons.1 hc with rfl|hc
     ·exact⟨rfl,rfl⟩
     ·cases List.mem_singleton.1 hc
      exact⟨rfl,by rw[<-List.map_append];exact bc (by rw[List.all_append,(xQ.ok db).1,xR];rfl)⟩
    ·rcases List.mem_cons.1 hc with rfl|hc
     ·have:k=61:=by simpa [aW,AV.dm] using hk
      subst this;exact⟨by omega,by show 61<2*30+2;omega⟩
     ·cases List.mem_singleton.1 hc
      rw[<-List.map_append,af] at hk;cases hk
   have qj:bO VE 1 bm us.length cB Bd (Be.map .val) us:=⟨rfl,xQ.kp db (Kp.of (U:=UU) ar),bc xR,af _,Gr,Gs,by rw[<-List.map_append,List.length_map];exact Gt⟩
   refine⟨[g,b0],[(46,[.row 61 0 us.length cB]),(147,Bd.flatten.map .val++Be.map .val)],cZ,[(0,.val (.int .i64 n)),(1,.val (.int .i64 k)),(4,.val (.pointer (some ⟨g4,0,none⟩))),(5,.box 60 0),(6,.val (.int .i64 (us.length:Int))),(7,.val (X.aM jk))],⟨⟨_,rfl,rfl,λi hi=>(by cases hi)⟩,⟨_,rfl,rfl,λi hi=>(by cases hi)⟩,⟨_,rfl,rfl,λi hi=>(by cases hi)⟩,⟨_,rfl,rfl,λi hi=>by rw[(by simpa [AV.ids] using hi:i=60)];exact⟨(by show 60<=60;omega),(by show 60<2*30+2;omega)⟩⟩,⟨_,rfl,rfl,λi hi=>(by cases hi)⟩,⟨_,rfl,rfl,λi hi=>(by cases hi)⟩,trivial⟩,?_⟩
   generalize X.aM jk=vv at aQ ⊢
   obtain⟨nx,ny,rfl⟩:=aQ.form
   refine uN ?_
   refine VO.iP (xM _ _) db (t:=44) (e:=147) (s:=26) (i:=61) (n:=us.length) (c:=cB) (vs:=Bd) (sp:=Be.map .val) (es:=us) (a:=.slice nx ru.length ny) (cs:=[.slice nx ru.length ny]) rfl rfl rfl rfl rfl rfl rfl rfl (cr rfl) rfl (.inl rfl) rfl (qj.kp db (aK.dN (show aK zO bm _ from dz))) rfl ⟨rfl,_,_,_,rfl⟩ aa (λgm cap sp ρ vK vL dY dR=>wV rfl ?_)
   refine uN ?_
   refine VS.fq rfl (N-(us.length+1)) aa (λw' bn k' o' jx=> ?_)
   have rh:aK zO bm w':=(show aK zO bm gm from dz).aH k'
   have kc:ax w w':=eJ.az (lQ.aH ar) o'.1 (λx hx=>by
    rcases List.mem_cons.1 hx with rfl|hx
    ·omega
    ·rw[List.mem_singleton.1 hx];omega)
   have hst:dD VE 1 147 27 (.row 27 0 (us.length+1) cap) [(27,(147,_))] gm (us++[.slice nx ru.length ny]):=.inr ⟨_,cap,_,sp,rfl,rfl,dR⟩
   have eI:=hst.told db jx (λx hx=>by cases List.mem_singleton.1 hx;rfl) k'.dN w.heap.size (λh=>(ba (show ez 30 [g,b0] bm 27 (bn 27) from h)).elim (λq=>Nat.le_trans iu (Nat.le_trans fL q)) (λq=>by
    rcases List.mem_cons.1 q with h|h
    ·rw[h];omega
    ·rw[List.mem_singleton.1 h];omega))
   have sP:=jx.own 60 _ _ rfl
   have jm:bn 60=g:=(lP sP 0 g rfl rfl).1
   refine⟨[(0,.int .i64 n),(1,.int .i64 k),(4,.pointer (some ⟨g4,0,none⟩)),(5,.pointer (some ⟨bn 60,0,none⟩)),(6,.int .i64 ((us.length+1:Nat):Int))],⟨⟨_,_,rfl,rfl,rfl⟩,⟨_,_,rfl,rfl,rfl⟩,⟨_,_,rfl,rfl,rfl⟩,⟨_,_,rfl,rfl,rfl⟩,⟨_,_,rfl,congrArg (λz=>Value.int .i64 z) (ay (i:=us.length) aa),rfl⟩,trivial⟩,us.length+1,g4,bn 60,.slice (some ⟨bn 27,0,none⟩) (us.length+1) cap,us++[Value.slice nx ru.length ny],by omega,rfl,rfl,kc,nu,by rw[jm];exact Nw,by rw[jm];exact kM,(lS.az ar).but o'.1 (by simp[kM,Gu]),sP.cls,eI,by simp,?_,?_⟩
   ·exact pS (vs:=us) (l:=(ft N K)) (P:=λu r=>aE (qT 1) 4 38 w.heap.size w' u r) (λi u r hi hr=>((sw i u r hi hr).az (cE 1) ar).kp (cE 1) rh rfl) uR ((aQ.kp (cE 1) rh rfl).mono iu)
   ·exact fZ (us:=us) Nx (λi v b hi hb=>by
     obtain⟨r,hr⟩:∃ r,(ft N K)[i]? =some r:=⟨_,List.getElem?_eq_getElem (by have:=(List.getElem?_eq_some_iff.1 hi).1;omega)⟩
     exact ((sw i v r hi hr).gv hb).2) (λb hb=>(aQ.gv hb).1)
 refine VS.aN rfl (decide_eq_false (show ¬ (e:Int)<n by omega)) ?_
 obtain rfl:N=e:=by omega
 (repeat (first|refine wN ?_|refine wP rfl ?_|refine wO rfl rfl ?_))
 obtain⟨pv,cv,rfl⟩:=Gq.form
 refine VS.bI di (λt=>Nat.beq t 23) table (λ_ _ _=>trivial) (λbm jk k1 fG jZ=> ?_)
 have ar:ax W bm:=fG
 have cZ:cM di 30 [g4] [(46,[.val (.slice none 0 0)])] bm:=by
  refine⟨rfl,by simp,λj g' c' hj hc=> ?_,λc' hc=> ?_,λc' hc k hk=> ?_⟩
  ·match j,hj,hc with
   | 0,hj,hc=>cases hj;cases hc;exact lS.az ar
   | j+1,hj,_=>simp at hj
  ·cases List.mem_singleton.1 hc
   exact⟨rfl,rfl⟩
  ·cases List.mem_singleton.1 hc
   cases hk
 refine⟨[g4],[(46,[.val (.slice none 0 0)])],cZ,[(4,.box 60 0),(5,.val (.pointer (some ⟨g,0,none⟩)))],⟨⟨_,rfl,rfl,λi hi=>by rw[(by simpa [AV.ids] using hi:i=60)];exact⟨(by show 60<=60;omega),(by show 60<2*30+1;omega)⟩⟩,⟨_,rfl,rfl,λi hi=>(by cases hi)⟩,trivial⟩,?_⟩
 refine ag ?_
 refine VO.aO rfl [.slice pv us.length cv] rfl (at_one (aY (λh=>kM h.symm) ((zR.az ar).cell (j:=0) rfl))) (wV rfl ?_)
 refine ag ?_
 refine VS.qh (bA _ _) rfl (λwz β kz bz en=> ?_)
 have kc:ax w wz:=eJ.az (lQ.aH ar) bz.1 (λx hx=>by rw[List.mem_singleton.1 hx];exact nu)
 have hT:jn (qT 1) 147 38 w.heap.size W (.slice pv us.length cv) (ft N K):=⟨us,Gq,by omega,sw,Nx⟩
 exact⟨_,rfl,hT.kp (cE 1) (T:=λt=> !Nat.beq t 46) ((aK.of ar).aH (eJ.kp bz.1 (λx hx=>⟨46,[.slice none 0 0],by rw[List.mem_singleton.1 hx];exact lS.az ar,rfl,rfl⟩))) rfl rfl,kc⟩
def ED (e c:Int) (x:Rat) (i:Nat) (r:List Rat):List Rat:=r.mapIdx (λj y=>if (i:Int)=e/\(j:Int)=c then y+x else y)
def lF (t:kL) (e c:Int) (x:Rat):kL:=t.mapIdx (ED e c x)
theorem EE {t:kL} {e c:Int} {x:Rat} {i:Nat} {r:List Rat} (h:t[i]? =some r):(lF t e c x)[i]? =some (ED e c x i r):=by
 unfold lF;rw[List.getElem?_mapIdx,h];rfl
theorem Bh {e c:Int} {x y:Rat} {i j:Nat} {r:List Rat} (h:r[j]? =some y):(ED e c x i r)[j]? =some (if (i:Int)=e/\(j:Int)=c then y+x else y):=by
 unfold ED;rw[List.getElem?_mapIdx,h];rfl
theorem Gz (t:kL) (e c:Int) (x:Rat):lF t e c x=mD t e c x:=by
 have hl:(lF t e c x).length=t.length:=by unfold lF;rw[List.length_mapIdx]
 apply List.ext_getElem?
 intro i
 cases hi:t[i]? with
 | none=>
   have h1:=List.getElem?_eq_none_iff.1 hi
   rw[List.getElem?_eq_none aa,List.getElem?_eq_none (by unfold mD;split <;> (try rw[sm]) <;> omega)]
 | some r=>
   rw[EE hi]
   unfold mD
   by_cases hh:mv t e c=true
   ·rw[if_pos hh]
    obtain⟨E,K,xs,y,rfl,rfl,hx,hy⟩:=pY hh
    rw[Int.toNat_natCast,Int.toNat_natCast,sn hi]
    congr 1
    apply List.ext_getElem?
    intro j
    cases hj:r[j]? with
    | none=>
      have h2:=List.getElem?_eq_none_iff.1 hj
      rw[List.getElem?_eq_none (by unfold ED;rw[List.length_mapIdx];exact h2),List.getElem?_eq_none (by split <;> (try rw[List.length_modify]) <;> omega)]
    | some z=>
      rw[Bh hj]
      by_cases qI:i=E
      ·subst qI
       rw[if_pos rfl,List.getElem?_modify,hj]
       by_cases hjk:K=j
       ·subst hjk;simp
       ·have:¬ ((j:Int)=(K:Int)):=by omega
        rw[if_neg (λh=>this h.2)]
        simp[hjk]
      ·have:¬ ((i:Int)=(E:Int)):=by omega
       rw[if_neg qI,hj]
       simp[this]
   ·rw[if_neg hh,hi]
    congr 1
    apply List.ext_getElem?
    intro j
    cases hj:r[j]? with
    | none=>rw[List.getElem?_eq_none (by unfold ED;rw[List.length_mapIdx];exact List.getElem?_eq_none_iff.1 hj)]
    | some z=>
      rw[Bh hj,if_neg]
      rintro⟨h1,h2⟩
      apply hh
      have h3:=(List.getElem?_eq_some_iff.1 hi).1
      have h4:=(List.getElem?_eq_some_iff.1 hj).1
      unfold mv
      rw[<-h1,Int.toNat_natCast,List.getD_eq_getElem?_getD,hi]
      exact decide_eq_true ⟨by omega,by omega,by omega,by simp;omega⟩
set_option maxRecDepth 8000 in
theorem Kw (v u:Value) (t:kL) (ec cc:Int) (x:Rat) (kk k:Nat) (w:World) (hv:cj (lE kk) 1 w v t) (hu:df w u x k) (tw:1<=kk) (hk2:1<=k) (hk:kk<=1000) (hk3:k<=1000) (hb:t.length<=100000) (bM:∀ r∈t,r.length<=100000):
  Calls Tryz.prog 29 #[.agg #[v],.int .i64 ec,.int .i64 cc,u] w λo w'=>∃ r,o=.returned (.agg #[r])/\jn (qT (kk+k+1)) 147 38 w.heap.size w' r (mD t ec cc x)/\ax w w':=by
 rw[<-Gz]
 obtain⟨p,c,rfl⟩:=hv.sl
 obtain⟨sX,pX,nX,cX,tX,yX,mX,dX,rfl⟩:=hu.form
 obtain⟨R,hR⟩:∃ R,R=t.length:=⟨_,rfl⟩
 have htl:(lF t ec cc x).length=R:=by unfold lF;rw[List.length_mapIdx,hR]
 rw[<-hR] at hv hb
 rw[<-hR]
 refine ai (C:=bj Tryz.prog w _) (args:=[_,_,_,_]) Tryz.func29 rfl Tryz.ntmps29 (cr rfl) ?_
 refine ae ?_
 refine VS.fY (J:=λm L W=>∃ (e g4 g g1 g7:Nat) (rv:Value) (us:List Value),e<=R/\m=R-e/\L=[(1,.int .i64 ec),(2,.int .i64 cc),(4,.pointer (some ⟨g1,0,none⟩)),(7,.pointer (some ⟨g7,0,none⟩)),(8,.pointer (some ⟨g4,0,none⟩)),(9,.pointer (some ⟨g,0,none⟩)),(10,.int .i64 (e:Int))]/\ax w W/\w.heap.size<=g4/\w.heap.size<=g/\g4≠g/\aL W g4 46 #[.slice none 0 0]/\aL W g 46 #[rv]/\aE VE 1 147 w.heap.size W rv us/\us.length=e/\(∀ (i:Nat) (u:Value) (r:List Rat),us[i]? =some u->(lF t ec cc x)[i]? =some r->aE (qT (kk+k+1)) 4 38 w.heap.size W u r)/\uI us/\w.heap.size<=g1/\g1≠g/\aL W g1 46 #[.slice p R c]/\w.heap.size<=g7/\g7≠g/\aL W g7 38 #[.bool sX,.slice pX nX cX,.bool tX,.slice yX mX dX])
  (λW=>bj Tryz.prog W 57) (λ_=>rfl) (λ_=>rfl) (λ_=>ax.refl _) R (λw' β k' o en=>⟨[(1,.int .i64 ec),(2,.int .i64 cc),(4,.pointer (some ⟨β 4,0,none⟩)),(7,.pointer (some ⟨β 7,0,none⟩)),(8,.pointer (some ⟨β 8,0,none⟩)),(9,.pointer (some ⟨β 9,0,none⟩)),(10,.int .i64 ((0:Nat):Int))],⟨⟨_,_,rfl,rfl,rfl⟩,⟨_,_,rfl,rfl,rfl⟩,⟨_,_,rfl,rfl,rfl⟩,⟨_,_,rfl,rfl,rfl⟩,⟨_,_,rfl,rfl,rfl⟩,⟨_,_,rfl,rfl,rfl⟩,⟨_,_,rfl,rfl,rfl⟩,trivial⟩,0,β 8,β 9,β 4,β 7,.slice none 0 0,[],by omega,rfl,rfl,o,(en.own 8 _ _ rfl).new,(en.own 9 _ _ rfl).new,(λh=>absurd (en.apart 8 9 (by intro h;cases h) (by intro h;cases h) h) cH),(en.own 8 _ _ rfl).cls,(en.own 9 _ _ rfl).cls,.inl ⟨rfl,rfl⟩,rfl,λi u r hi=>(by simp at hi),λi j u v b hi=>(by simp at hi),(en.own 4 _ _ rfl).new,(λh=>absurd (en.apart 4 9 (by intro h;cases h) (by intro h;cases h) h) cH),(en.own 4 _ _ rfl).cls,(en.own 7 _ _ rfl).new,(λh=>absurd (en.apart 7 9 (by intro h;cases h) (by intro h;cases h) h) cH),(en.own 7 _ _ rfl).cls⟩) ?_
 rintro m L W ⟨e,g4,g,g1,g7,rv,us,he,rfl,rfl,lQ,nu,Nw,kM,lS,zR,Gq,ze,sw,Nx,hg1W,hg1n,Ji,hg7W,hg7n,Li⟩
 have hvW:cj (lE kk) 1 W (.slice p R c) t:=hv.oU (jQ kk) lQ
 have huW:df W _ x k:=hu.kp (Kp.of (U:=UU) lQ)
 refine ae ?_
 refine VO.read rfl [.slice p R c] rfl (aG (Ji.cell (j:=0) rfl)) (wV rfl ?_)
 refine ae ?_
 by_cases heR:e<R
 ·refine VS.aU rfl (decide_eq_true (Int.ofNat_lt.2 heR)) ?_
  obtain⟨ru,uR⟩:∃ r,(lF t ec cc x)[e]? =some r:=⟨_,List.getElem?_eq_getElem aa⟩
  obtain⟨r0,sL⟩:∃ r,t[e]? =some r:=⟨_,List.getElem?_eq_getElem aa⟩
  have hrw:ru=ED ec cc x e r0:=by rw[EE sL] at uR;exact (Option.some.inj uR).symm
  have hrl:ru.length=r0.length:=by rw[hrw];unfold ED;rw[List.length_mapIdx]
  obtain⟨br,Ez,csr,rfl,hcr,⟨xv,rfl,yP⟩⟩:=hvW.at sL
  obtain⟨pc,cq,rfl⟩:=yP.sl
  obtain⟨K,hK⟩:∃ K,K=r0.length:=⟨_,rfl⟩
  rw[<-hK] at yP hcr hrl
  have hKb:K<=100000:=by rw[hK];exact bM r0 (List.mem_of_getElem? sL)
  refine ae ?_
  refine VS.loop (J:=λm L M w'=>∃ (z:Nat) (X:AV) (Mi:List (Nat×(TypeId×List AV))),z<=K/\m=K-z/\L=[(1,.val (.int .i64 ec)),(2,.val (.int .i64 cc)),(4,.val (.pointer (some ⟨g1,0,none⟩))),(7,.val (.pointer (some ⟨g7,0,none⟩))),(8,.val (.pointer (some ⟨g4,0,none⟩))),(9,.val (.pointer (some ⟨g,0,none⟩))),(10,.val (.int .i64 (e:Int))),(11,X),(12,.val (.int .i64 (z:Int)))]/\M=Mi/\dD (qT (kk+k+1)) 4 38 49 X Mi w' (ru.take z)) K ⟨_,_,?_,?_,?_,?_,⟨0,_,[],by omega,rfl,rfl,rfl,.inl ⟨rfl,rfl,rfl⟩⟩⟩ ?_
  ·exact du
  ·exact du
  ·rfl
  ·exact iq
  rintro m L Mi wI ⟨z,X,Nz,hz,rfl,rfl,rfl,hI⟩
  refine VS.now (λwX kN bN=> ?_)
  replace hI:=hI.kp (cE (kk+k+1)) (aK.dN kN)
  refine VS.mask [13,48] (by rcases hI with ⟨_,rfl,rfl⟩|⟨_,_,_,_,rfl,rfl,_⟩ <;> (repeat first|exact trivial|refine⟨rfl,?_⟩)) ?_
  refine ae ?_
  refine VO.read rfl [.slice (some ⟨br,Ez,none⟩) R c] rfl (aG (Ji.cell (j:=0) rfl)) (wV rfl ?_)
  refine ae ?_
  refine VO.cond rfl cW ?_
  refine wV rfl ?_
  refine ae ?_
  refine VO.read rfl [.slice pc K cq] rfl (cN hcr) (wV rfl ?_)
  refine ae ?_
  by_cases hzK:z<K
  ·obtain⟨y,hy⟩:∃ y,ru[z]? =some y:=⟨_,List.getElem?_eq_getElem aa⟩
   obtain⟨y0,yl⟩:∃ q,r0[z]? =some q:=⟨_,List.getElem?_eq_getElem aa⟩
   have hyy:y=if (e:Int)=ec/\(z:Int)=cc then y0+x else y0:=by
    rw[hrw,Bh yl] at hy;exact (Option.some.inj hy).symm
   have hsz0:lM y0 kk:=by
    obtain⟨bx,offx,uG,_,_,⟨_,_,_,_,_,_,_,_,_,hr⟩⟩:=yP.at yl
    exact hr.sz tw
   have hszx:lM x k:=hu.sz hk2
   refine VS.aU rfl (decide_eq_true (Int.ofNat_lt.2 hzK)) ?_
   refine ae ?_
   refine VO.read rfl [.slice (some ⟨br,Ez,none⟩) R c] rfl (aG (Ji.cell (j:=0) rfl)) (wV rfl ?_)
   refine ae ?_
   refine VO.call rfl rfl (fk Tryz.func31) (λbL dw bX=>(Ki _ t r0 y0 e z kk bL (hvW.oU (jQ kk) bX) sL yl hk).mono ?_)
   rintro o w1 ⟨r1,rfl,q1,bl⟩
   obtain⟨s1,p1,n1,c1,t1,y1,m1,d1,rfl⟩:=q1.form
   refine cP bl ?_
   intro eM _ bb1
   have hno:¬ ((e:Int)=ec/\(z:Int)=cc)->qT (kk+k+1) w1 [.bool s1,.slice p1 n1 c1,.bool t1,.slice y1 m1 d1] y:=λh=>by
    rw[hyy,if_neg h]
    exact .mk q1 (hsz0.mono aa)
   by_cases nz:(e:Int)=ec
   rotate_left
   ·refine VO.fix 38 rfl (congrArg (λb=>AV.val (.bool b)) (beq_n nz)) ?_
    refine ae ?_
    have dE:=hno (λh=>nz h.1)
    rcases hI with ⟨dc,rfl,rfl⟩|⟨n',c',vs,sp,rfl,rfl,mw⟩
    ·refine VO.iM (cV _ _) (cE (kk+k+1)) (t:=147) (e:=38) (s:=48) (a:=y) (cs:=[.bool s1,.slice p1 n1 c1,.bool t1,.slice y1 m1 d1]) rfl rfl rfl rfl rfl rfl rfl rfl (cr rfl) rfl rfl rfl dE aa (λw9 cap sp k9 b9 dR=>wV rfl ?_)
     refine ae ?_
     refine VS.back (K-(z+1)) aa ⟨_,_,?_,?_,?_,?_,⟨z+1,_,_,by omega,rfl,rfl,rfl,.inr ⟨1,cap,_,sp,rfl,rfl,by rw[aR hy,dc];exact dR⟩⟩⟩
     ·(refine⟨rfl,rfl,rfl,rfl,rfl,rfl,rfl,rfl,?_,trivial⟩;rw[<-ay (i:=z) aa];rfl)
     ·(repeat first|exact trivial|refine⟨rfl,?_⟩|refine⟨congrArg (λl=>some (_,l)) (bU (by first|exact bO.dm (by assumption)|exact af _|(rw[<-List.map_append];exact af _)) _ _),?_⟩)
     ·rfl
     ·(repeat first|exact trivial|refine⟨aw.lit rfl,?_⟩|refine⟨bO.oO (by assumption),?_⟩|refine⟨aw.append (.vals _) (.vals _),?_⟩|refine⟨aw.vals _,?_⟩)
    ·have nW:=mw.len
     refine VO.iP (cV _ _) (cE (kk+k+1)) (t:=147) (e:=38) (s:=48) (i:=49) (n:=n') (c:=c') (vs:=vs) (sp:=sp) (es:=ru.take z) (a:=y) (cs:=[.bool s1,.slice p1 n1 c1,.bool t1,.slice y1 m1 d1]) rfl rfl rfl rfl rfl rfl rfl rfl (cr rfl) rfl (.inr rfl) rfl (mw.kp (cE (kk+k+1)) dz) rfl dE (by rw[List.length_take] at nW;omega) (λw9 ir fx ρ k9 b9 dY dR=>wV rfl ?_)
     refine ae ?_
     refine VS.back (K-(z+1)) aa ⟨_,_,?_,?_,?_,?_,⟨z+1,_,_,by omega,rfl,rfl,rfl,.inr ⟨n' +1,ir,_,fx,rfl,rfl,by rw[aR hy];exact dR⟩⟩⟩
     ·(refine⟨rfl,rfl,rfl,rfl,rfl,rfl,rfl,rfl,?_,trivial⟩;rw[<-ay (i:=z) aa];rfl)
     ·(repeat first|exact trivial|refine⟨rfl,?_⟩|refine⟨congrArg (λl=>some (_,l)) (bU (by first|exact bO.dm (by assumption)|exact af _|(rw[<-List.map_append];exact af _)) _ _),?_⟩)
     ·rfl
     ·(repeat first|exact trivial|refine⟨aw.lit rfl,?_⟩|refine⟨bO.oO (by assumption),?_⟩|refine⟨aw.append (.vals _) (.vals _),?_⟩|refine⟨aw.vals _,?_⟩)
   refine VO.fix 38 rfl (congrArg (λb=>AV.val (.bool b)) (MX nz)) ?_
   refine ae ?_
   by_cases IJ:(z:Int)=cc
   rotate_left
   ·refine VS.aN rfl (beq_n IJ) ?_
    refine ae ?_
    have dE:=hno (λh=>IJ h.2)
    rcases hI with ⟨dc,rfl,rfl⟩|⟨n',c',vs,sp,rfl,rfl,mw⟩
    ·refine VO.iM (cV _ _) (cE (kk+k+1)) (t:=147) (e:=38) (s:=48) (a:=y) (cs:=[.bool s1,.slice p1 n1 c1,.bool t1,.slice y1 m1 d1]) rfl rfl rfl rfl rfl rfl rfl rfl (cr rfl) rfl rfl rfl dE aa (λw9 cap sp k9 b9 dR=>wV rfl ?_)
     refine ae ?_
     refine VS.back (K-(z+1)) aa ⟨_,_,?_,?_,?_,?_,⟨z+1,_,_,by omega,rfl,rfl,rfl,.inr ⟨1,cap,_,sp,rfl,rfl,by rw[aR hy,dc];exact dR⟩⟩⟩
     ·(refine⟨rfl,rfl,rfl,rfl,rfl,rfl,rfl,rfl,?_,trivial⟩;rw[<-ay (i:=z) aa];rfl)
     ·(repeat first|exact trivial|refine⟨rfl,?_⟩|refine⟨congrArg (λl=>some (_,l)) (bU (by first|exact bO.dm (by assumption)|exact af _|(rw[<-List.map_append];exact af _)) _ _),?_⟩)
     ·rfl
     ·(repeat first|exact trivial|refine⟨aw.lit rfl,?_⟩|refine⟨bO.oO (by assumption),?_⟩|refine⟨aw.append (.vals _) (.vals _),?_⟩|refine⟨aw.vals _,?_⟩)
    ·have nW:=mw.len
     refine VO.iP (cV _ _) (cE (kk+k+1)) (t:=147) (e:=38) (s:=48) (i:=49) (n:=n') (c:=c') (vs:=vs) (sp:=sp) (es:=ru.take z) (a:=y) (cs:=[.bool s1,.slice p1 n1 c1,.bool t1,.slice y1 m1 d1]) rfl rfl rfl rfl rfl rfl rfl rfl (cr rfl) rfl (.inr rfl) rfl (mw.kp (cE (kk+k+1)) dz) rfl dE (by rw[List.length_take] at nW;omega) (λw9 ir fx ρ k9 b9 dY dR=>wV rfl ?_)
     refine ae ?_
     refine VS.back (K-(z+1)) aa ⟨_,_,?_,?_,?_,?_,⟨z+1,_,_,by omega,rfl,rfl,rfl,.inr ⟨n' +1,ir,_,fx,rfl,rfl,by rw[aR hy];exact dR⟩⟩⟩
     ·(refine⟨rfl,rfl,rfl,rfl,rfl,rfl,rfl,rfl,?_,trivial⟩;rw[<-ay (i:=z) aa];rfl)
     ·(repeat first|exact trivial|refine⟨rfl,?_⟩|refine⟨congrArg (λl=>some (_,l)) (bU (by first|exact bO.dm (by assumption)|exact af _|(rw[<-List.map_append];exact af _)) _ _),?_⟩)
     ·rfl
     ·(repeat first|exact trivial|refine⟨aw.lit rfl,?_⟩|refine⟨bO.oO (by assumption),?_⟩|refine⟨aw.append (.vals _) (.vals _),?_⟩|refine⟨aw.vals _,?_⟩)
   refine VS.aU rfl (MX IJ) ?_
   refine ae ?_
   refine VO.read rfl [.bool sX,.slice pX nX cX,.bool tX,.slice yX mX dX] rfl (pg (λj u hj=>Li.cell (by simpa using hj))) (wV rfl ?_)
   refine ae ?_
   refine VO.call rfl rfl (fk Tryz.func79) (λdh eU dQ=>(Gd _ _ y0 x kk k dh ((q1.kp (T:=λ_=>false) dz).to hsz0) (huW.kp (Kp.of (U:=UU) dQ)) aa aa).mono ?_)
   rintro o w2 ⟨r2,rfl,q2,bM⟩
   obtain⟨s2,p2,n2,c2,t2,y2,m2,d2,rfl⟩:=q2.form
   refine cP bM ?_
   intro gr _ bb2
   have dE:qT (kk+k+1) w2 [.bool s2,.slice p2 n2 c2,.bool t2,.slice y2 m2 d2] y:=by
    rw[hyy,if_pos ⟨nz,IJ⟩]
    exact .mk q2.rd ((hsz0.add hszx).mono aa)
   rcases hI with ⟨dc,rfl,rfl⟩|⟨n',c',vs,sp,rfl,rfl,mw⟩
   ·refine VO.iM (cV _ _) (cE (kk+k+1)) (t:=147) (e:=38) (s:=48) (a:=y) (cs:=[.bool s2,.slice p2 n2 c2,.bool t2,.slice y2 m2 d2]) rfl rfl rfl rfl rfl rfl rfl rfl (cr rfl) rfl rfl rfl dE aa (λw9 cap sp k9 b9 dR=>wV rfl ?_)
    refine ae ?_
    refine VS.back (K-(z+1)) aa ⟨_,_,?_,?_,?_,?_,⟨z+1,_,_,by omega,rfl,rfl,rfl,.inr ⟨1,cap,_,sp,rfl,rfl,by rw[aR hy,dc];exact dR⟩⟩⟩
    ·(refine⟨rfl,rfl,rfl,rfl,rfl,rfl,rfl,rfl,?_,trivial⟩;rw[<-ay (i:=z) aa];rfl)
    ·(repeat first|exact trivial|refine⟨rfl,?_⟩|refine⟨congrArg (λl=>some (_,l)) (bU (by first|exact bO.dm (by assumption)|exact af _|(rw[<-List.map_append];exact af _)) _ _),?_⟩)
    ·rfl
    ·(repeat first|exact trivial|refine⟨aw.lit rfl,?_⟩|refine⟨bO.oO (by assumption),?_⟩|refine⟨aw.append (.vals _) (.vals _),?_⟩|refine⟨aw.vals _,?_⟩)
   ·have nW:=mw.len
    refine VO.iP (cV _ _) (cE (kk+k+1)) (t:=147) (e:=38) (s:=48) (i:=49) (n:=n') (c:=c') (vs:=vs) (sp:=sp) (es:=ru.take z) (a:=y) (cs:=[.bool s2,.slice p2 n2 c2,.bool t2,.slice y2 m2 d2]) rfl rfl rfl rfl rfl rfl rfl rfl (cr rfl) rfl (.inr rfl) rfl (mw.kp (cE (kk+k+1)) dz) rfl dE (by rw[List.length_take] at nW;omega) (λw9 ir fx ρ k9 b9 dY dR=>wV rfl ?_)
    refine ae ?_
    refine VS.back (K-(z+1)) aa ⟨_,_,?_,?_,?_,?_,⟨z+1,_,_,by omega,rfl,rfl,rfl,.inr ⟨n' +1,ir,_,fx,rfl,rfl,by rw[aR hy];exact dR⟩⟩⟩
    ·(refine⟨rfl,rfl,rfl,rfl,rfl,rfl,rfl,rfl,?_,trivial⟩;rw[<-ay (i:=z) aa];rfl)
    ·(repeat first|exact trivial|refine⟨rfl,?_⟩|refine⟨congrArg (λl=>some (_,l)) (bU (by first|exact bO.dm (by assumption)|exact af _|(rw[<-List.map_append];exact af _)) _ _),?_⟩)
    ·rfl
    ·(repeat first|exact trivial|refine⟨aw.lit rfl,?_⟩|refine⟨bO.oO (by assumption),?_⟩|refine⟨aw.append (.vals _) (.vals _),?_⟩|refine⟨aw.vals _,?_⟩)
  refine VS.aN rfl (decide_eq_false (λe=>hzK (Int.ofNat_lt.1 e))) ?_
  obtain rfl:K=z:=by omega
  rw[List.take_of_length_le aa] at hI
  subst ze
  refine VS.bI zO (λt=>Nat.beq t 23) table (λ_ _ _=>trivial) (λbm jk k1 fG jZ=> ?_)
  have ar:ax W bm:=fG
  have aQ:=hI.told (cE (kk+k+1)) jZ (by intro q hq;rcases hI with ⟨_,rfl,rfl⟩|⟨_,_,_,_,rfl,rfl,_⟩ <;> first|(cases hq;done)|(cases List.mem_singleton.1 hq;rfl)) k1.dN W.heap.size (λh=>h)
  have nw:=zR.az ar
  have iu:=lQ.size
  have fL:=ar.size
  rcases Gq with ⟨rfl,rfl⟩|⟨b0,cB,Bd,Be,rfl,hBg,my,xQ,xR,Gr,Gs,Gt⟩
  ·have cZ:cM zO 57 [g] [(46,[.val (.slice none 0 0)])] bm:=by
    refine⟨rfl,by simp,λj g' c' hj hc=> ?_,λc' hc=> ?_,λc' hc k hk=> ?_⟩
    ·match j,hj,hc with
     | 0,hj,hc=>cases hj;cases hc;exact nw
     | j+1,hj,_=>simp at hj
    ·cases List.mem_singleton.1 hc
     exact⟨rfl,rfl⟩
    ·cases List.mem_singleton.1 hc
     cases hk
   refine⟨[g],[(46,[.val (.slice none 0 0)])],cZ,[(1,.val (.int .i64 ec)),(2,.val (.int .i64 cc)),(4,.val (.pointer (some ⟨g1,0,none⟩))),(7,.val (.pointer (some ⟨g7,0,none⟩))),(8,.val (.pointer (some ⟨g4,0,none⟩))),(9,.box 114 0),(10,.val (.int .i64 (([]:List Value).length:Int))),(11,.val (X.aM jk))],⟨⟨_,rfl,rfl,λi hi=>(by cases hi)⟩,⟨_,rfl,rfl,λi hi=>(by cases hi)⟩,⟨_,rfl,rfl,λi hi=>(by cases hi)⟩,⟨_,rfl,rfl,λi hi=>(by cases hi)⟩,⟨_,rfl,rfl,λi hi=>(by cases hi)⟩,⟨_,rfl,rfl,λi hi=>by rw[(by simpa [AV.ids] using hi:i=114)];exact⟨(by show 114<=114;omega),(by show 114<2*57+1;omega)⟩⟩,⟨_,rfl,rfl,λi hi=>(by cases hi)⟩,⟨_,rfl,rfl,λi hi=>(by cases hi)⟩,trivial⟩,?_⟩
   generalize X.aM jk=vv at aQ ⊢
   obtain⟨nx,ny,rfl⟩:=aQ.form
   refine uN ?_
   refine VO.iM (xM _ _) db (t:=44) (e:=147) (s:=53) (a:=.slice nx ru.length ny) (cs:=[.slice nx ru.length ny]) rfl rfl rfl rfl rfl rfl rfl rfl (cr rfl) rfl rfl rfl ⟨rfl,_,_,_,rfl⟩ aa (λgm cap sp vK vL dR=>wV rfl ?_)
   refine uN ?_
   refine VS.fq rfl (R-(([]:List Value).length+1)) aa (λw' bn k' o' jx=> ?_)
   have rh:aK zO bm w':=(show aK zO bm gm from dz).aH k'
   have kc:ax w w':=eJ.az (lQ.aH ar) o'.1 (λx hx=>by rw[List.mem_singleton.1 hx];omega)
   have hst:dD VE 1 147 54 (.row 54 0 1 cap) [(54,(147,_))] gm ([.slice nx ru.length ny]):=.inr ⟨_,cap,_,sp,rfl,rfl,dR⟩
   have eI:=hst.told db jx (λx hx=>by cases List.mem_singleton.1 hx;rfl) k'.dN w.heap.size (λh=>(ba (show ez 57 [g] bm 54 (bn 54) from h)).elim (λq=>Nat.le_trans iu (Nat.le_trans fL q)) (λq=>by rw[List.mem_singleton.1 q];omega))
   have sP:=jx.own 114 _ _ rfl
   have jm:bn 114=g:=(lP sP 0 g rfl rfl).1
   refine⟨[(1,.int .i64 ec),(2,.int .i64 cc),(4,.pointer (some ⟨g1,0,none⟩)),(7,.pointer (some ⟨g7,0,none⟩)),(8,.pointer (some ⟨g4,0,none⟩)),(9,.pointer (some ⟨bn 114,0,none⟩)),(10,.int .i64 ((([]:List Value).length+1:Nat):Int))],⟨⟨_,_,rfl,rfl,rfl⟩,⟨_,_,rfl,rfl,rfl⟩,⟨_,_,rfl,rfl,rfl⟩,⟨_,_,rfl,rfl,rfl⟩,⟨_,_,rfl,rfl,rfl⟩,⟨_,_,rfl,rfl,rfl⟩,⟨_,_,rfl,congrArg (λz=>Value.int .i64 z) (ay (i:=([]:List Value).length) aa),rfl⟩,trivial⟩,([]:List Value).length+1,g4,bn 114,g1,g7,.slice (some ⟨bn 54,0,none⟩) 1 cap,[Value.slice nx ru.length ny],by omega,rfl,rfl,kc,nu,by rw[jm];exact Nw,by rw[jm];exact kM,(lS.az ar).but o'.1 (by simp[kM]),sP.cls,eI,by simp,?_,?_,hg1W,by rw[jm];exact hg1n,(Ji.az ar).but o'.1 (by simp[hg1n]),hg7W,by rw[jm];exact hg7n,(Li.az ar).but o'.1 (by simp[hg7n])⟩
   ·exact pS (vs:=([]:List Value)) (l:=(lF t ec cc x)) (P:=λu r=>aE (qT (kk+k+1)) 4 38 w.heap.size w' u r) (λi u r hi hr=>((sw i u r hi hr).az (cE (kk+k+1)) ar).kp (cE (kk+k+1)) rh rfl) uR ((aQ.kp (cE (kk+k+1)) rh rfl).mono iu)
   ·exact fZ (us:=([]:List Value)) (λi j u v b hi=>(by simp at hi)) (λi v b hi hb=>by
     obtain⟨r,hr⟩:∃ r,(lF t ec cc x)[i]? =some r:=⟨_,List.getElem?_eq_getElem (by have:=(List.getElem?_eq_some_iff.1 hi).1;simp at this)⟩
     exact ((sw i v r hi hr).gv hb).2) (λb hb=>(aQ.gv hb).1)
  ·have xS:=my.az ar
   have hgb:g≠b0:=λh=>by rw[h] at nw;exact absurd (bt nw xS) cH
   have Gu:g4≠b0:=λh=>by rw[h] at lS;exact absurd (bt lS my) cH
   have hg1b:g1≠b0:=λh=>by rw[h] at Ji;exact absurd (bt Ji my) cH
   have hg7b:g7≠b0:=λh=>by rw[h] at Li;exact absurd (bt Li my) cH
   have cZ:cM zO 57 [g,b0] [(46,[.row 115 0 us.length cB]),(147,Bd.flatten.map .val++Be.map .val)] bm:=by
    refine⟨rfl,by simp[hgb],λj g' c' hj hc=> ?_,λc' hc=> ?_,λc' hc k hk=> ?_⟩
    ·match j,hj,hc with
     | 0,hj,hc=>cases hj;cases hc;exact nw
     | 1,hj,hc=>cases hj;cases hc;rw[<-List.map_append,aP];exact xS
     | j+2,hj,_=>simp at hj
    ·rcases List.mem_cons.1 hc with rfl|hc
     ·exact⟨rfl,rfl⟩
     ·cases List.mem_singleton.1 hc
      exact⟨rfl,by rw[<-List.map_append];exact bc (by rw[List.all_append,(xQ.ok db).1,xR];rfl)⟩
    ·rcases List.mem_cons.1 hc with rfl|hc
     ·have:k=115:=by simpa [aW,AV.dm] using hk
      subst this;exact⟨by omega,by show 115<2*57+2;omega⟩
     ·cases List.mem_singleton.1 hc
      rw[<-List.map_append,af] at hk;cases hk
   have qj:bO VE 1 bm us.length cB Bd (Be.map .val) us:=⟨rfl,xQ.kp db (Kp.of (U:=UU) ar),bc xR,af _,Gr,Gs,by rw[<-List.map_append,List.length_map];exact Gt⟩
   refine⟨[g,b0],[(46,[.row 115 0 us.length cB]),(147,Bd.flatten.map .val++Be.map .val)],cZ,[(1,.val (.int .i64 ec)),(2,.val (.int .i64 cc)),(4,.val (.pointer (some ⟨g1,0,none⟩))),(7,.val (.pointer (some ⟨g7,0,none⟩))),(8,.val (.pointer (some ⟨g4,0,none⟩))),(9,.box 114 0),(10,.val (.int .i64 (us.length:Int))),(11,.val (X.aM jk))],⟨⟨_,rfl,rfl,λi hi=>(by cases hi)⟩,⟨_,rfl,rfl,λi hi=>(by cases hi)⟩,⟨_,rfl,rfl,λi hi=>(by cases hi)⟩,⟨_,rfl,rfl,λi hi=>(by cases hi)⟩,⟨_,rfl,rfl,λi hi=>(by cases hi)⟩,⟨_,rfl,rfl,λi hi=>by rw[(by simpa [AV.ids] using hi:i=114)];exact⟨(by show 114<=114;omega),(by show 114<2*57+2;omega)⟩⟩,⟨_,rfl,rfl,λi hi=>(by cases hi)⟩,⟨_,rfl,rfl,λi hi=>(by cases hi)⟩,trivial⟩,?_⟩
   generalize X.aM jk=vv at aQ ⊢
   obtain⟨nx,ny,rfl⟩:=aQ.form
   refine uN ?_
   refine VO.iP (xM _ _) db (t:=44) (e:=147) (s:=53) (i:=115) (n:=us.length) (c:=cB) (vs:=Bd) (sp:=Be.map .val) (es:=us) (a:=.slice nx ru.length ny) (cs:=[.slice nx ru.length ny]) rfl rfl rfl rfl rfl rfl rfl rfl (cr rfl) rfl (.inl rfl) rfl (qj.kp db (aK.dN (show aK zO bm _ from dz))) rfl ⟨rfl,_,_,_,rfl⟩ aa (λgm cap sp ρ vK vL dY dR=>wV rfl ?_)
   refine uN ?_
   refine VS.fq rfl (R-(us.length+1)) aa (λw' bn k' o' jx=> ?_)
   have rh:aK zO bm w':=(show aK zO bm gm from dz).aH k'
   have kc:ax w w':=eJ.az (lQ.aH ar) o'.1 (λx hx=>by
    rcases List.mem_cons.1 hx with rfl|hx
    ·omega
    ·rw[List.mem_singleton.1 hx];omega)
   have hst:dD VE 1 147 54 (.row 54 0 (us.length+1) cap) [(54,(147,_))] gm (us++[.slice nx ru.length ny]):=.inr ⟨_,cap,_,sp,rfl,rfl,dR⟩
   have eI:=hst.told db jx (λx hx=>by cases List.mem_singleton.1 hx;rfl) k'.dN w.heap.size (λh=>(ba (show ez 57 [g,b0] bm 54 (bn 54) from h)).elim (λq=>Nat.le_trans iu (Nat.le_trans fL q)) (λq=>by
    rcases List.mem_cons.1 q with h|h
    ·rw[h];omega
    ·rw[List.mem_singleton.1 h];omega))
   have sP:=jx.own 114 _ _ rfl
   have jm:bn 114=g:=(lP sP 0 g rfl rfl).1
   refine⟨[(1,.int .i64 ec),(2,.int .i64 cc),(4,.pointer (some ⟨g1,0,none⟩)),(7,.pointer (some ⟨g7,0,none⟩)),(8,.pointer (some ⟨g4,0,none⟩)),(9,.pointer (some ⟨bn 114,0,none⟩)),(10,.int .i64 ((us.length+1:Nat):Int))],⟨⟨_,_,rfl,rfl,rfl⟩,⟨_,_,rfl,rfl,rfl⟩,⟨_,_,rfl,rfl,rfl⟩,⟨_,_,rfl,rfl,rfl⟩,⟨_,_,rfl,rfl,rfl⟩,⟨_,_,rfl,rfl,rfl⟩,⟨_,_,rfl,congrArg (λz=>Value.int .i64 z) (ay (i:=us.length) aa),rfl⟩,trivial⟩,us.length+1,g4,bn 114,g1,g7,.slice (some ⟨bn 54,0,none⟩) (us.length+1) cap,us++[Value.slice nx ru.length ny],by omega,rfl,rfl,kc,nu,by rw[jm];exact Nw,by rw[jm];exact kM,(lS.az ar).but o'.1 (by simp[kM,Gu]),sP.cls,eI,by simp,?_,?_,hg1W,by rw[jm];exact hg1n,(Ji.az ar).but o'.1 (by simp[hg1n,hg1b]),hg7W,by rw[jm];exact hg7n,(Li.az ar).but o'.1 (by simp[hg7n,hg7b])⟩
   ·exact pS (vs:=us) (l:=(lF t ec cc x)) (P:=λu r=>aE (qT (kk+k+1)) 4 38 w.heap.size w' u r) (λi u r hi hr=>((sw i u r hi hr).az (cE (kk+k+1)) ar).kp (cE (kk+k+1)) rh rfl) uR ((aQ.kp (cE (kk+k+1)) rh rfl).mono iu)
   ·exact fZ (us:=us) Nx (λi v b hi hb=>by
     obtain⟨r,hr⟩:∃ r,(lF t ec cc x)[i]? =some r:=⟨_,List.getElem?_eq_getElem (by have:=(List.getElem?_eq_some_iff.1 hi).1;omega)⟩
     exact ((sw i v r hi hr).gv hb).2) (λb hb=>(aQ.gv hb).1)
 refine VS.aN rfl (decide_eq_false (λh=>heR (Int.ofNat_lt.1 h))) ?_
 obtain rfl:R=e:=by omega
 (repeat (first|refine wN ?_|refine wP rfl ?_|refine wO rfl rfl ?_))
 obtain⟨pv,cv,rfl⟩:=Gq.form
 refine VS.bI di (λt=>Nat.beq t 23) table (λ_ _ _=>trivial) (λbm jk k1 fG jZ=> ?_)
 have ar:ax W bm:=fG
 have cZ:cM di 57 [g4] [(46,[.val (.slice none 0 0)])] bm:=by
  refine⟨rfl,by simp,λj g' c' hj hc=> ?_,λc' hc=> ?_,λc' hc k hk=> ?_⟩
  ·match j,hj,hc with
   | 0,hj,hc=>cases hj;cases hc;exact lS.az ar
   | j+1,hj,_=>simp at hj
  ·cases List.mem_singleton.1 hc
   exact⟨rfl,rfl⟩
  ·cases List.mem_singleton.1 hc
   cases hk
 refine⟨[g4],[(46,[.val (.slice none 0 0)])],cZ,[(8,.box 114 0),(9,.val (.pointer (some ⟨g,0,none⟩)))],⟨⟨_,rfl,rfl,λi hi=>by rw[(by simpa [AV.ids] using hi:i=114)];exact⟨(by show 114<=114;omega),(by show 114<2*57+1;omega)⟩⟩,⟨_,rfl,rfl,λi hi=>(by cases hi)⟩,trivial⟩,?_⟩
 refine ag ?_
 refine VO.aO rfl [.slice pv us.length cv] rfl (at_one (aY (λh=>kM h.symm) ((zR.az ar).cell (j:=0) rfl))) (wV rfl ?_)
 refine ag ?_
 refine VS.qh (bA _ _) rfl (λwz β kz bz en=> ?_)
 have kc:ax w wz:=eJ.az (lQ.aH ar) bz.1 (λx hx=>by rw[List.mem_singleton.1 hx];exact nu)
 have hT:jn (qT (kk+k+1)) 147 38 w.heap.size W (.slice pv us.length cv) (lF t ec cc x):=⟨us,Gq,by omega,sw,Nx⟩
 exact⟨_,rfl,hT.kp (cE (kk+k+1)) (T:=λt=> !Nat.beq t 46) ((aK.of ar).aH (eJ.kp bz.1 (λx hx=>⟨46,[.slice none 0 0],by rw[List.mem_singleton.1 hx];exact lS.az ar,rfl,rfl⟩))) rfl rfl,kc⟩
end
section
open Go.RowKit
section
variable {H:Type} {enc:TypeId×Value->H} {w:World} {held:Bool}
set_option maxRecDepth 100000 in
theorem gp {fuel:Nat} {cs:List Value} {x:DataW H×List MemPlace} (h:DataW.trod enc Tryz.prog w 0 (λ_=>true) held fuel 27 cs=some x):∃ a:Rw,bZ fX w cs a:=by
 obtain⟨s,p,n,c,t,r,m,d,xs,ys,rfl,hr⟩:=MZ h
 have Cj:=hr
 obtain⟨p',c',r',d',hv,h1,h2⟩:=hr
 simp only[Value.agg.injEq,Array.mk.injEq,List.cons.injEq,and_true,Value.slice.injEq,Value.bool.injEq] at hv
 obtain⟨_,⟨rfl,rfl,rfl⟩,_,rfl,rfl,rfl⟩:=hv
 obtain⟨_,_,_,sR,_⟩:=h1
 obtain⟨_,_,_,qe,_⟩:=h2
 obtain⟨_,_,_,a1,a2,_⟩:=sR.u32
 obtain⟨_,_,_,b1,b2,_⟩:=qe.u32
 exact⟨⟨s,xs,t,ys⟩,_,_,_,_,_,_,_,_,rfl,Cj,(show xs.length<=fX by unfold fX;omega),(show ys.length<=fX by unfold fX;omega)⟩
set_option maxRecDepth 100000 in
theorem NP {fuel:Nat} {cs:List Value} {x:DataW H×List MemPlace} (h:DataW.trod enc Tryz.prog w 0 (λ_=>true) held fuel 64 cs=some x):∃ e:vM,oZ fX w cs e:=by
 obtain⟨zs,n,rfl,rfl,hl,gX,hf⟩:=DataW.trod_struct Tryz.underlying64 h
 have rQ:cs.length=6:=by
  have c:Tryz.prog.cellsOf 64=6:=by kernel_rfl
  rw[c] at hl;exact hl
 have xI:zs.length=3:=gX
 obtain⟨z0,iW⟩:∃ z,zs[0]? =some z:=⟨_,List.getElem?_eq_getElem aa⟩
 obtain⟨z1,fI⟩:∃ z,zs[1]? =some z:=⟨_,List.getElem?_eq_getElem aa⟩
 obtain⟨z2,jf⟩:∃ z,zs[2]? =some z:=⟨_,List.getElem?_eq_getElem aa⟩
 have EF:Tryz.prog.cellsOf 9=1:=by kernel_rfl
 have h0:=hf 0 _ rfl
 rw[iW] at h0
 change DataW.trod enc Tryz.prog w 0 (λ_=>true) held n 9 ((cs.drop 0).take (Tryz.prog.cellsOf 9))=some z0 at h0
 rw[EF] at h0
 have EG:Tryz.prog.cellsOf 5=1:=by kernel_rfl
 have h1:=hf 1 _ rfl
 rw[fI] at h1
 change DataW.trod enc Tryz.prog w 0 (λ_=>true) held n 5 ((cs.drop 1).take (Tryz.prog.cellsOf 5))=some z1 at h1
 rw[EG] at h1
 have Ky:Tryz.prog.cellsOf 27=4:=by kernel_rfl
 have h2:=hf 2 _ rfl
 rw[jf] at h2
 change DataW.trod enc Tryz.prog w 0 (λ_=>true) held n 27 ((cs.drop 2).take (Tryz.prog.cellsOf 27))=some z2 at h2
 rw[Ky] at h2
 obtain⟨nm0,e0,_,_⟩:=DataW.trod_string Tryz.underlying9 h0
 obtain⟨k1,e1,_,tw⟩:=DataW.trod_int Tryz.underlying5 h1
 obtain⟨x2,Im⟩:=gp h2
 have a0:cs.drop 0=(cs.drop 0).take 1++cs.drop 1:=aX cs 0 1 1 rfl
 have a1:cs.drop 1=(cs.drop 1).take 1++cs.drop 2:=aX cs 1 1 2 rfl
 have a2:cs.drop 2=(cs.drop 2).take 4:=by rw[List.take_of_length_le];rw[List.length_drop];omega
 have EH:cs=(cs.drop 0).take 1++((cs.drop 1).take 1++((cs.drop 2).take 4)):=by
  have a:cs=cs.drop 0:=rfl
  rw[a0] at a
  rw[a1] at a
  rw[a2] at a
  exact a
 have hk':=u8_wf tw
 obtain⟨k,rfl⟩:=Int.eq_ofNat_of_zero_le hk'.1
 have hx3:=Im
 obtain⟨s,p,n,c,t,y,m,d,e2,h⟩:=Im
 rw[e2] at hx3
 rw[EH,e0,e1,e2]
 exact⟨(nm0,k,x2),_,_,_,_,_,_,_,_,rfl,hx3,(show k<256 by omega)⟩
end
end
end Go.Proofs.YtlifeokjcgngjaaGreat
