/-AU of the proof,laid behind one another. -/
import Derived.Test.YtlifeokjcgngjaaGreatKChartTables4
import Derived.Shelf.Sort.Plain
import Derived.Shelf.Slices.In.SortNone
import Derived.Sort.OwnSorted
import Derived.Test.YtlifeokjcgngjaaGreatProg
set_option linter.all false
set_option maxHeartbeats 64000000
namespace Go.Proofs.YtlifeokjcgngjaaGreat
section
open Go.Shelf
def LV:Go.Shelf.Ren:=⟨λ|190=>130|125=>189|258=>188|128=>257|129=>258|302=>248|303=>249|304=>250|305=>251|306=>252|307=>253|308=>254|309=>255|310=>256|333=>290|329=>291|330=>292|334=>293|335=>294|336=>295|344=>312|n=>n,λ|31=>29|9=>9|3=>3|46=>251|0=>0|51=>78|53=>250|4=>4|183=>356|182=>355|131=>361|5=>5|218=>390|222=>394|228=>409|229=>410|n=>n,λ|n=>n⟩
theorem zm:Go.Proofs.Lays.n190 Tryz.prog LV:={
 mixed:=by kernel_rfl
 f125:=Tryz.func189.trans (congrArg some (by kernel_rfl))
 f128:=Tryz.func257.trans (congrArg some (by kernel_rfl))
 f129:=Tryz.func258.trans (congrArg some (by kernel_rfl))
 f190:=Tryz.func130.trans (congrArg some (by kernel_rfl))
 f258:=Tryz.func188.trans (congrArg some (by kernel_rfl))
 f302:=Tryz.func248.trans (congrArg some (by kernel_rfl))
 f303:=Tryz.func249.trans (congrArg some (by kernel_rfl))
 f304:=Tryz.func250.trans (congrArg some (by kernel_rfl))
 f305:=Tryz.func251.trans (congrArg some (by kernel_rfl))
 f306:=Tryz.func252.trans (congrArg some (by kernel_rfl))
 f307:=Tryz.func253.trans (congrArg some (by kernel_rfl))
 f308:=Tryz.func254.trans (congrArg some (by kernel_rfl))
 f309:=Tryz.func255.trans (congrArg some (by kernel_rfl))
 f310:=Tryz.func256.trans (congrArg some (by kernel_rfl))
 f329:=Tryz.func291.trans (congrArg some (by kernel_rfl))
 f330:=Tryz.func292.trans (congrArg some (by kernel_rfl))
 f333:=Tryz.func290.trans (congrArg some (by kernel_rfl))
 f334:=Tryz.func293.trans (congrArg some (by kernel_rfl))
 f335:=Tryz.func294.trans (congrArg some (by kernel_rfl))
 f336:=Tryz.func295.trans (congrArg some (by kernel_rfl))
 f344:=Tryz.func312.trans (congrArg some (by kernel_rfl))
 t0:=Tryz.underlying0
 a0:=Tryz.isAgg0
 z0:=Tryz.sizeOf0
 v0:=Tryz.zeroValue0
 t3:=Tryz.underlying3
 a3:=Tryz.isAgg3
 z3:=Tryz.sizeOf3
 v3:=Tryz.zeroValue3
 t4:=Tryz.underlying4
 a4:=Tryz.isAgg4
 z4:=Tryz.sizeOf4
 v4:=Tryz.zeroValue4
 t5:=Tryz.underlying5
 a5:=Tryz.isAgg5
 z5:=Tryz.sizeOf5
 v5:=Tryz.zeroValue5
 t9:=Tryz.underlying9
 a9:=Tryz.isAgg9
 z9:=Tryz.sizeOf9
 v9:=Tryz.zeroValue9
 t31:=Tryz.underlying29
 a31:=Tryz.isAgg29
 z31:=Tryz.sizeOf29
 v31:=Tryz.zeroValue29
 t46:=Tryz.underlying251
 a46:=Tryz.isAgg251
 z46:=Tryz.sizeOf251
 v46:=Tryz.zeroValue251
 t51:=Tryz.underlying78
 a51:=Tryz.isAgg78
 z51:=Tryz.sizeOf78
 v51:=Tryz.zeroValue78
 t53:=Tryz.underlying250
 a53:=Tryz.isAgg250
 z53:=Tryz.sizeOf250
 v53:=Tryz.zeroValue250
 t131:=Tryz.underlying361
 a131:=Tryz.isAgg361
 z131:=Tryz.sizeOf361
 v131:=Tryz.zeroValue361
 t182:=Tryz.underlying355
 a182:=Tryz.isAgg355
 z182:=Tryz.sizeOf355
 v182:=Tryz.zeroValue355
 t183:=Tryz.underlying356
 a183:=Tryz.isAgg356
 z183:=Tryz.sizeOf356
 v183:=Tryz.zeroValue356
 t218:=Tryz.underlying390
 a218:=Tryz.isAgg390
 z218:=Tryz.sizeOf390
 v218:=Tryz.zeroValue390
 t222:=Tryz.underlying394
 a222:=Tryz.isAgg394
 z222:=Tryz.sizeOf394
 v222:=Tryz.zeroValue394
 t228:=Tryz.underlying409
 a228:=Tryz.isAgg409
 z228:=Tryz.sizeOf409
 v228:=Tryz.zeroValue409
 t229:=Tryz.underlying410
 a229:=Tryz.isAgg410
 z229:=Tryz.sizeOf410
 v229:=Tryz.zeroValue410 }
end
set_option maxRecDepth 4000
section
open Go.RowKit Go.Sort
attribute [local irreducible] ar VS
def rC (_:World) (cs:List Value) (s:ByteArray):Prop:=cs=[.string s]
theorem mg:gp rC 1 where
 kp:=λh _=>h
 len:=λh=>by rw[show _=_ from h];rfl
 ok:=λh=>by rw[show _=_ from h];rfl
theorem lp:∀ (ss:List ByteArray),(ss.map λs=>[Value.string s]).flatten=ss.map Value.string
 | []=>rfl
 | x::r=>by rw[List.map_cons,List.flatten_cons,lp r];rfl
theorem Aw (w:World):∀ (ss:List ByteArray),dW rC w ss (ss.map λs=>[Value.string s])
 | []=>.nil
 | x::r=>.cons rfl (Aw w r)
def fi (ss:List ByteArray):List ByteArray:=((ss.map (·.data.toList)).mergeSort λx y=>decide (x<=y)).map λl=>⟨l.toArray⟩
theorem om (ss:List ByteArray):(fi ss).length=ss.length:=by unfold fi;simp
theorem Ax {d:List (List UInt8)} {X sp:List Value} (h:X.length=d.length):putCells encStr 0 d.toArray (X++sp).toArray=(d.map encStr++sp).toArray:=by
 apply Array.ext_getElem?
 intro k
 by_cases hk:k<d.length
 ·simp[putCells,hk,h,List.getElem?_append_left]
 ·simp[putCells,hk,List.getElem?_append_right,h,Nat.not_lt.1 hk]
theorem IV (b c:Nat) (ss:List ByteArray) (sp:List Value) (w:World) (hb:aE w b 9 (ss.map Value.string++sp).toArray) (hn:ss.length<4611686018427387904):
  Calls Tryz.prog 130 #[.slice (some ⟨b,0,none⟩) ss.length c] w λe w'=>e=.returned (.tuple #[])/\eK [b] w w'/\aE w' b 9 ((fi ss).map Value.string++sp).toArray:=by
 obtain⟨ls,hls⟩:∃ ls:List (List UInt8),ls=ss.map (·.data.toList):=⟨_,rfl⟩
 have hl:ls.length=ss.length:=by rw[hls,List.length_map]
 have he:ls.map encStr=ss.map Value.string:=by rw[hls,List.map_map];exact List.map_congr_left λs _=>by simp
 have LW:((ss.map Value.string++sp).toArray).toList.take ls.length=ls.map encStr:=by
  rw[he,List.take_left' (by rw[List.length_map,hl])]
 have h:=Any.slices_Sort_string zm b 0 c ls w (Go.holds_of_block hb LW) hb.lt aa
 rw[hl] at h
 refine h.mono ?_
 rintro e w' ⟨rfl,n,os,rfl⟩
 have hg:=Go.grownBy_sorted (w:=w) (g:=b) (n:=n) (os:=os) (ls.mergeSort λx y=>decide (x<=y)).toArray
 refine⟨rfl,⟨rfl,rfl,rfl,by simp,λg xy hn=> ?_⟩,?_⟩
 ·rw[heap_grow_old _ _ (by simpa using xy)]
  have:b≠g:=λe=>hn (by rw[e];exact List.mem_singleton.2 rfl)
  simp[putRow,mapBlock,Sort.ahead,Array.getElem?_modify,this]
 ·have:=Go.heap_sorted (n:=n) (os:=os) (ls.mergeSort λx y=>decide (x<=y)).toArray hb
  rw[Ax (by rw[List.length_map,List.length_mergeSort,hl])] at this
  refine Eq.trans this ?_
  unfold fi
  rw[<-hls,List.map_map]
  rfl
set_option maxRecDepth 4000 in
theorem Fl (p:Option Addr) (N c:Nat) (ss:List ByteArray) (w:World) (hv:aO rC 1 w (.slice p N c) ss) (hN:N=ss.length) (hn:N<=1000000):
  Calls Tryz.prog 96 #[.slice p N c] w λo w'=>∃ r,o=.returned r/\aC rC 1 9 w.heap.size w' r ss/\ak w w':=by
 refine af (C:=aW Tryz.prog w _) (args:=[_]) Tryz.func96 rfl Tryz.ntmps96 (bP rfl) ?_
 refine ae ?_
 cases p with
 | none=>
   have:ss=[]:=by
    cases ss with
    | nil=>rfl
    | cons x r=>
      obtain⟨_,_,_,h,_⟩:=hv.at (i:=0) (a:=x) rfl
      cases h
   subst this
   refine ae ?_
   refine aX ?_;intro wz kz bz
   exact⟨_,rfl,.inl ⟨rfl,rfl⟩,bz⟩
 | some a=>
   obtain⟨ab,ao,asl⟩:=a
   have hcell:∀ (j:Nat) (u:Value),(ss.map Value.string)[j]? =some u->w.cell? ⟨ab,ao+j,none⟩=some u/\asl=none:=λj u hj=>by
    rw[List.getElem?_map] at hj
    obtain⟨x,hx,rfl⟩:=Option.map_eq_some_iff.1 hj
    obtain⟨b,off,cs,hp,hc,rfl⟩:=hv.at hx
    cases hp
    have:=hc 0 _ rfl
    rw[Nat.mul_one,Nat.add_zero] at this
    exact⟨this,rfl⟩
   refine VS.aP rfl rfl ?_
   refine ae ?_
   refine VO.app (bO _ _) (t:=29) (e:=9) (sz:=1) (n:=0) (c:=0) (mm:=N) (known:=[]) (spare:=[]) (del:=some 5) (news:=(ss.map Value.string).map .val) (dst:=7) rfl rfl rfl rfl rfl rfl rfl rfl (bP rfl) rfl (.inr ⟨5,rfl,rfl,rfl⟩) (.inl rfl) rfl rfl (Nat.le_refl _) aa ⟨rfl,rfl,ah _⟩ ⟨rfl,rfl,cE (List.all_eq_true.2 λx hx=>by obtain⟨y,_,rfl⟩:=List.mem_map.1 hx;rfl)⟩ (by rw[List.length_map,List.length_map,hN,Nat.mul_one]) aa
    (λw1 β k1 b1 ho=>⟨_,_,rfl,by
     cases ss with
     | nil=>exact .inl hN
     | cons x r=>
       have h0:=hcell 0 _ rfl
       obtain⟨_,rfl⟩:=h0
       exact .inr ⟨ab,ao,rfl,λj u hj=>ak.cell b1 (hcell j u (by rwa [aV] at hj)).1⟩⟩)
    (λmH cap aU ρ LX Jy fv kS nG hlen2 hok' hlid'=>wV rfl ?_)
   refine ae ?_
   refine VS.pP (bO _ _) rfl (λwz β kz bz en=> ?_)
   have o:=en.own 7 _ _ rfl
   have gU:=o.cls
   rw[List.nil_append,List.map_append,aV] at gU
   rw[List.nil_append,List.length_append,List.length_map,List.length_map,Nat.mul_one] at hlen2
   refine⟨_,rfl,.inr ⟨β 7,cap,ss.map λs=>[.string s],aU.map (AV.leaf β),by rw[<-hN,Nat.zero_add];rfl,o.new,?_,?_,dZ hok',by omega,nG,?_⟩,bz⟩
   ·rw[lp]
    exact gU
   ·exact Aw _ _
   ·rw[lp]
    rw[List.length_append,List.length_map,List.length_map];omega
abbrev cxW (P:Program) (w:World) (N:Nat):Cx:={ P:=P,w0:=w,N:=N,K:=⟨UU,λ_=>True,λt=>Nat.beq t 9⟩,SU:=λt=>Nat.beq t 23,ti:=table,keep:=λ_ _=>trivial }
theorem Fm (w:World) (N:Nat):(cxW Tryz.prog w N).Ok:=dA
section
variable {F F':Fr} {H H':Hp} {w w1:World} {N:Nat} {l':List Oper} {Q:Exit->Act->World->Prop} {k:List It} {id:Nat} {ops:Array Oper}
theorem cxW_r (e:gl (cxW Tryz.prog w1 N) ops 80 ops.toList F H=(l',F',H')) (h:ar (cxW Tryz.prog w1 N) none ops l' (VS (cxW Tryz.prog w1 N) Q k) F' H' w):VS (cxW Tryz.prog w1 N) Q (.code (.region id ops false)::k) F H w:=VS.region (Fm _ _) (VO.run 80 e h)
end
theorem Dg {w:World}:∀ {es:List ByteArray} {vs:List (List Value)},dW rC w es vs->vs=es.map λs=>[.string s]
 | [],_,.nil=>rfl
 | x::r,_,.cons h t=>by rw[show _=_ from h,Dg t];rfl
theorem LY {P Q:Prop} (h:Q) (i:Q->P:=by intro h;(repeat first|refine wN ?_|refine wP rfl ?_|refine cxW_r rfl ?_|refine cxW_d rfl ?_|refine wO rfl rfl ?_);exact h):P:=i h
theorem cTcxW {P Q X:Prop} (hb:X) (h:Q) (i:X->Q->P:=by intro hb h;refine⟨_,rfl,hb,λa b c=>wV rfl ?_⟩;refine LY ?_;revert a b c;exact h):P:=i hb h
set_option maxRecDepth 4000 in
theorem Fo (nm pa pB nB cB sT pT nT cT tT yT mT dT sC pC nC cC tC yC mC dC bk fw sI pI nI cI tI yI mI dI sF pF nF cF tF yF mF dF kp pc Nc cc pe Ne ce py Ny cy:_) (es:List ByteArray) (w:World) (hv:aO rC 1 w (.slice pe Ne ce) es) (hN:Ne=es.length) (hn:Ne<=1000000):
  Calls Tryz.prog 61 #[.agg #[.string nm,.string pa,.slice pB nB cB,.bool sT,.slice pT nT cT,.bool tT,.slice yT mT dT,.bool sC,.slice pC nC cC,.bool tC,.slice yC mC dC,.int .i64 bk,.int .i64 fw,.bool sI,.slice pI nI cI,.bool tI,.slice yI mI dI,.bool sF,.slice pF nF cF,.bool tF,.slice yF mF dF,.int .i64 kp,.slice pc Nc cc,.slice pe Ne ce,.slice py Ny cy]] w λo w'=>∃ r,o=.returned r/\aC rC 1 9 w.heap.size w' r (fi es)/\ak w w':=by
 refine af (C:=cxW Tryz.prog w _) (args:=[_]) Tryz.func61 rfl Tryz.ntmps61 (bP rfl) ?_
 refine LY ?_
 refine VO.call rfl rfl (fk Tryz.func96) (λbo cj bD=>(Fl pe Ne ce es bo (hv.aB mg bD) hN hn).mono ?_)
 rintro o w1 ⟨r1,rfl,q1,aL⟩
 rcases q1 with ⟨rfl,rfl⟩|⟨b,cap,vs,sp,rfl,LZ,gU,gr,jO,hle,fm,uu⟩
 ·refine cTcxW aL ?_
  intro dh _ bb1
  refine VO.call rfl rfl (fk Tryz.func130) (λcA dG cV=>(Any.slices_Sort_string_none zm none 0 cA).mono ?_)
  rintro o w2 ⟨rfl,rfl⟩
  refine⟨_,rfl,ak.refl _,λeU _ bb2=>wV rfl ?_⟩
  refine LY ?_
  refine VS.ret (Fm _ _) rfl rfl (λwz kz bz=> ?_)
  exact⟨_,rfl,.inl ⟨rfl,by unfold fi;simp⟩,bz⟩
 ·refine⟨_,rfl,aL,λdh _ bb1=>wV rfl ?_⟩
  (repeat (first|refine wN ?_|refine wP rfl ?_|refine wO rfl rfl ?_))
  refine VS.ry (Fm _ _) 1 rfl rfl rfl (VO.run 80 rfl ?_)
  refine VO.nil ⟨_,_,_,λw=>aW Tryz.prog w 10,rfl,rfl,fk Tryz.func130,λ_=>rfl,λ_=>rfl,λ_=>ak.refl _,λw2 k2 b2=> ?_⟩
  have Ju:=Dg gr
  rw[Ju,lp] at gU uu
  have hcl2:aE w2 b 9 (es.map Value.string++sp).toArray:=k2.block _ b _ rfl trivial gU
  refine (IV b cap es sp w2 hcl2 aa).mono ?_
  rintro o w3 ⟨rfl,hbut,hcl3⟩
  have cK:ak w w3:=eK.aB b2 hbut (λx hx=>by rw[List.mem_singleton.1 hx];have:=bD.size;omega)
  refine⟨_,[(3,.slice (some ⟨b,0,none⟩) es.length cap)],rfl,⟨rfl,trivial⟩,λp hp e=> ?_,?_⟩
  ·rw[List.mem_singleton.1 hp] at e;cases e
  refine ae ?_
  refine aX ?_;intro wz kz bz
  have aQ:=bD.size
  refine⟨_,rfl,.inr ⟨b,cap,(fi es).map λs=>[.string s],sp,by rw[om];rfl,by omega,by rw[lp];exact hcl3.aB bz,Aw _ _,jO,by rw[om];exact hle,fm,?_⟩,cK.aw bz⟩
  rw[lp,List.length_append,List.length_map,om]
  rw[List.length_append,List.length_map] at uu
  exact uu
def mK {α:Type} (P:α->Bool):List α->Int
 | []=> -1
 | x::r=>if P x=true then 0 else (if mK P r<0 then-1 else mK P r+1)
theorem oo {α:Type} {P:α->Bool}:∀ {l:List α} {z:Nat} {x:α},l[z]? =some x->(∀ (i:Nat) (y:α),i<z->l[i]? =some y->P y=false)->P x=true->mK P l=z
 | [],_,_,h,_,_=>by cases h
 | y::r,0,x,h,_,hx=>by
   cases h
   unfold mK
   rw[if_pos hx];rfl
 | y::r,z+1,x,h,hn,hx=>by
   have h0:=hn 0 y aa rfl
   have:=oo (l:=r) (z:=z) (x:=x) h (λi u hi hu=>hn (i+1) u aa hu) hx
   unfold mK
   rw[if_neg (by rw[h0];simp),this,if_neg aa]
   omega
theorem jC {α:Type} {P:α->Bool}:∀ {l:List α},(∀ (i:Nat) (y:α),l[i]? =some y->P y=false)->mK P l= -1
 | [],_=>rfl
 | y::r,hn=>by
   have h0:=hn 0 y rfl
   have:=jC (l:=r) (λi u hu=>hn (i+1) u hu)
   unfold mK
   rw[if_neg (by rw[h0];simp),this,if_pos aa]
theorem Fp (v:Value) (ss:List ByteArray) (s:ByteArray) (w:World) (hv:aO rC 1 w v ss):
  Calls Tryz.prog 131 #[v,.string s] w λo w'=>o=.returned (.int .i64 (mK (λx=>s.toList == x.toList) ss))/\ak w w':=by
 obtain⟨p,c,rfl,eV,fm⟩:=hv.form
 obtain⟨N,hN⟩:∃ N,N=ss.length:=⟨_,rfl⟩
 rw[<-hN] at hv eV ⊢
 refine af (C:=aW Tryz.prog w _) (args:=[_,_]) Tryz.func131 rfl Tryz.ntmps131 (bP rfl) ?_
 refine ae ?_
 refine VS.loop (J:=λmm L M w'=>∃ z:Nat,z<=N/\mm=N-z/\L=[(0,.val (.slice p N c)),(1,.val (.string s)),(7,.val (.int .i64 (N:Int))),(8,.val (.int .i64 (z:Int)))]/\M=[]/\∀ (i:Nat) (y:ByteArray),i<z->ss[i]? =some y->(s.toList == y.toList)=false) N ⟨_,_,?_,?_,?_,?_,⟨0,by omega,rfl,rfl,rfl,λi y hi=>aa⟩⟩ ?_
 ·exact ew
 ·exact ew
 ·rfl
 ·exact kH
 rintro mm L M wJ ⟨z,hz,rfl,rfl,rfl,hno⟩
 refine ae ?_
 by_cases hlt:z<N
 ·obtain⟨x,hx⟩:∃ x,ss[z]? =some x:=⟨_,List.getElem?_eq_getElem aa⟩
  obtain⟨b,off,cs,rfl,hc,rfl⟩:=hv.at hx
  refine VS.aR rfl (decide_eq_true (Int.ofNat_lt.2 hlt)) ?_
  refine ae ?_
  refine VO.cond rfl dc ?_
  refine wV rfl ?_
  refine ae ?_
  refine VO.read rfl [.string x] rfl (ax hc) (wV rfl ?_)
  refine ae ?_
  cases hs:(s.toList == x.toList) with
  | true=>
    refine VS.aR rfl rfl ?_
    refine ae ?_
    refine aX ?_;intro wz kz bz
    exact⟨by rw[oo (P:=λx=>s.toList == x.toList) hx hno hs];rfl,bz⟩
  | false=>
    refine VS.aP rfl rfl ?_
    refine ae ?_
    refine VS.back (N-(z+1)) aa ⟨_,_,?_,?_,?_,?_,⟨z+1,by omega,rfl,rfl,rfl,λi y hi hy=>(by
     by_cases Ma:i<z
     ·exact hno i y Ma hy
     ·rw[show i=z by omega,hx] at hy;cases hy;exact hs)⟩⟩
    ·refine⟨rfl,rfl,rfl,?_,trivial⟩
     rw[<-aD aa];rfl
    ·exact ew
    ·rfl
    ·exact kH
 ·refine VS.aP rfl (decide_eq_false (λe=>hlt (Int.ofNat_lt.1 e))) ?_
  obtain rfl:z=N:=by omega
  refine ae ?_
  refine aX ?_;intro wz kz bz
  exact⟨by rw[jC (P:=λx=>s.toList == x.toList) (λi y hy=>hno i y (by have:=(List.getElem?_eq_some_iff.1 hy).1;omega) hy)];rfl,bz⟩
theorem Fq (v:Value) (ss:List ByteArray) (s:ByteArray) (w:World) (hv:aO rC 1 w v ss):
  Calls Tryz.prog 62 #[v,.string s] w λo w'=>o=.returned (.int .i64 (mK (λx=>s.toList == x.toList) ss))/\ak w w':=by
 obtain⟨p,c,rfl⟩:=hv.sl
 refine af (C:=aW Tryz.prog w _) (args:=[_,_]) Tryz.func62 rfl Tryz.ntmps62 (bP rfl) ?_
 refine ae ?_
 refine VO.cB rfl rfl (fk Tryz.func131) (λbo cj bD=>Fp _ ss s bo (hv.aB mg bD)) (λbo cj bD w1 aL dh _ bb1=>wV rfl ?_)
 refine ae ?_
 refine aX ?_;intro wz kz bz
 exact⟨rfl,bz⟩
abbrev oL:=ByteArray×Kls
def tU (kk:Nat) (w:World) (cs:List Value) (x:oL):Prop:=∃ s p n c t y m d,cs=[.string x.1,.int .u8 (x.2.1:Int),.bool s,.slice p n c,.bool t,.slice y m d]/\x.2.1<256/\bE w (.agg #[.bool s,.slice p n c,.bool t,.slice y m d]) x.2.2 kk
theorem ot (kk:Nat):gp (tU kk) 6 where
 kp:=λh k=>by
  obtain⟨s,p,n,c,t,y,m,d,hv,h1,h2⟩:=h
  exact⟨_,_,_,_,_,_,_,_,hv,h1,h2.kp k⟩
 len:=λh=>by
  obtain⟨s,p,n,c,t,y,m,d,rfl,_⟩:=h
  rfl
 ok:=λh=>by
  obtain⟨s,p,n,c,t,y,m,d,rfl,_⟩:=h
  rfl
theorem Mb (g:FuncId) (c1:Value) (P:oL->Bool) (kk:Nat) (kg:ng Tryz.prog g) (v:Value) (es:List oL) (w:World) (hv:aO (tU kk) 6 w v es) (hg:∀ (cs:List Value) (a:oL) (w1:World),ak w w1->tU kk w1 cs a->Calls Tryz.prog g #[.agg cs.toArray,c1] w1 λe w'=>e=.returned (.bool (P a))/\ak w1 w'):
  Calls Tryz.prog 65 #[v,.func (.func g) #[] #[c1]] w λe w'=>e=.returned (.int .i64 (mK P es))/\ak w w':=by
 obtain⟨p,c,rfl,eV,fm⟩:=hv.form
 obtain⟨N,hN⟩:∃ N,N=es.length:=⟨_,rfl⟩
 rw[<-hN] at hv eV ⊢
 refine af (C:=aW Tryz.prog w _) (args:=[_,_]) Tryz.func65 rfl Tryz.ntmps65 (bP rfl) ?_
 refine ae ?_
 refine VS.loop (J:=λmm L M w'=>∃ z:Nat,z<=N/\mm=N-z/\L=[(0,.val (.slice p N c)),(1,.val (.func (.func g) #[] #[c1])),(7,.val (.int .i64 (N:Int))),(8,.val (.int .i64 (z:Int)))]/\M=[]/\∀ (i:Nat) (y:oL),i<z->es[i]? =some y->P y=false) N ⟨_,_,?_,?_,?_,?_,⟨0,by omega,rfl,rfl,rfl,λi y hi=>aa⟩⟩ ?_
 ·exact ew
 ·exact ew
 ·rfl
 ·exact kH
 rintro mm L M wJ ⟨z,hz,rfl,rfl,rfl,hno⟩
 refine ae ?_
 by_cases hlt:z<N
 ·obtain⟨a,hx⟩:∃ x,es[z]? =some x:=⟨_,List.getElem?_eq_getElem aa⟩
  obtain⟨b,off,cs,rfl,hc,he⟩:=hv.at hx
  have he':=he
  obtain⟨s0,p0,n0,c0,t0,y0,m0,d0,rfl,-⟩:=he'
  refine VS.aR rfl (decide_eq_true (Int.ofNat_lt.2 hlt)) ?_
  refine ae ?_
  refine VO.cond rfl dc ?_
  refine wV rfl ?_
  refine ae ?_
  refine VO.read rfl [.string a.1,.int .u8 (a.2.1:Int),.bool s0,.slice p0 n0 c0,.bool t0,.slice y0 m0 d0] rfl (er hc 0 _ ⟨[],rfl⟩) (wV rfl ?_)
  refine VO.call rfl rfl kg (λbo cj bD=>(hg _ a bo bD ((ot kk).b he bD)).mono ?_)
  rintro e w1 ⟨rfl,aL⟩
  cases hP:P a with
  | true=>
    refine bA aL ?_
    intro dh _ bb1
    refine aX ?_;intro wz kz bz
    exact⟨by rw[oo hx hno hP];rfl,bz⟩
  | false=>
    refine bA aL ?_
    intro dh _ bb1
    refine VS.back (N-(z+1)) aa ⟨_,_,?_,?_,?_,?_,⟨z+1,by omega,rfl,rfl,rfl,λi y hi hy=>(by
     by_cases Ma:i<z
     ·exact hno i y Ma hy
     ·rw[show i=z by omega,hx] at hy;cases hy;exact hP)⟩⟩
    ·refine⟨rfl,rfl,rfl,?_,trivial⟩
     rw[<-aD aa];rfl
    ·exact ew
    ·rfl
    ·exact kH
 ·refine VS.aP rfl (decide_eq_false (λe=>hlt (Int.ofNat_lt.1 e))) ?_
  obtain rfl:z=N:=by omega
  refine ae ?_
  refine aX ?_;intro wz kz bz
  exact⟨by rw[jC (λi y hy=>hno i y (by have:=(List.getElem?_eq_some_iff.1 hy).1;omega) hy)];rfl,bz⟩
theorem Dh (cs:List Value) (x:oL) (b:Nat) (s:ByteArray) (kk:Nat) (w:World) (hv:tU kk w cs x) (h1:w.cell? ⟨b,0,none⟩=some (.string s)):
  Calls Tryz.prog 66 #[.agg cs.toArray,.pointer (some ⟨b,0,none⟩)] w λo w'=>o=.returned (.bool (x.1.toList == s.toList))/\ak w w':=by
 obtain⟨s0,p0,n0,c0,t0,y0,m0,d0,rfl,-⟩:=hv
 refine af (C:=aW Tryz.prog w _) (args:=[_,_]) Tryz.func66 rfl Tryz.ntmps66 (bP rfl) ?_
 refine ae ?_
 refine VO.read rfl [.string s] rfl (bQ h1) (wV rfl ?_)
 refine ae ?_
 refine aX ?_;intro wz kz bz
 exact⟨rfl,bz⟩
theorem Fs (v:Value) (es:List oL) (s:ByteArray) (kk:Nat) (w:World) (hv:aO (tU kk) 6 w v es):
  Calls Tryz.prog 16 #[v,.string s] w λo w'=>o=.returned (.int .i64 (mK (λx=>x.1.toList == s.toList) es))/\ak w w':=by
 obtain⟨p,c,rfl⟩:=hv.sl
 refine af (C:=aW Tryz.prog w _) (args:=[_,_]) Tryz.func16 rfl Tryz.ntmps16 (bP rfl) ?_
 refine ae ?_
 refine VO.wq rfl (fk Tryz.func65) (λbo β cj bD ho=>(Mb 66 (.pointer (some ⟨β 3,0,none⟩)) (λx=>x.1.toList == s.toList) kk (fk Tryz.func66) _ es bo (hv.aB (ot kk) bD) (λcs a w1 hb hE=>Dh cs a (β 3) s kk w1 hE (hb.cell ((ho.own 3 (.base (List.mem_singleton.2 rfl)) _ _ rfl).cls.cell (j:=0) rfl)))).mono ?_)
 rintro o w1 ⟨rfl,aL⟩
 refine bA aL ?_
 intro dh _ bb1
 refine aX ?_;intro wz kz bz
 exact⟨rfl,bz⟩
def mh (t:List (List Rat)) (e c:Int):Bool:=decide (0<=e/\e<t.length/\0<=c/\c<(t.getD e.toNat []).length)
theorem xf (v:Value) (t:List (List Rat)) (e c:Int) (kk:Nat) (w:World) (hv:aO (cM kk) 1 w v t):
  Calls Tryz.prog 63 #[.agg #[v],.agg #[.int .i64 e,.int .i64 c]] w λo w'=>o=.returned (.bool (mh t e c))/\ak w w':=by
 obtain⟨p,cp,rfl⟩:=hv.sl
 refine af (C:=aW Tryz.prog w _) (args:=[_,_]) Tryz.func63 rfl Tryz.ntmps63 (bP rfl) ?_
 refine ae ?_
 by_cases h1:e>=0
 ·refine VO.fix 8 rfl (congrArg (λb=>AV.val (.bool b)) (decide_eq_true h1)) ?_
  refine ae ?_
  by_cases h2:e<(t.length:Int)
  ·refine VO.fix 16 rfl (congrArg (λb=>AV.val (.bool b)) (decide_eq_true h2)) ?_
   refine ae ?_
   by_cases h3:c>=0
   ·refine VO.fix 21 rfl (congrArg (λb=>AV.val (.bool b)) (decide_eq_true h3)) ?_
    obtain⟨E,rfl⟩:=Int.eq_ofNat_of_zero_le (show 0<=e by omega)
    obtain⟨xs,hx⟩:∃ xs,t[E]? =some xs:=⟨_,List.getElem?_eq_getElem aa⟩
    obtain⟨b,off,Jx,rfl,hcc,⟨xv,rfl,xP⟩⟩:=hv.at hx
    obtain⟨p3,c3,rfl⟩:=xP.sl
    refine ae ?_
    refine VO.cond rfl dc (wV rfl ?_)
    refine ae ?_
    refine VO.read rfl [.slice p3 xs.length c3] rfl (ax hcc) (wV rfl ?_)
    refine ae ?_
    refine aX ?_;intro wz kz bz
    refine⟨congrArg (λb=>Ending.returned (.bool b)) ?_,bz⟩
    unfold mh
    rw[Int.toNat_natCast,List.getD_eq_getElem?_getD,hx]
    show decide (c<(xs.length:Int))=decide (0<=(E:Int)/\(E:Int)<t.length/\0<=c/\c<(xs.length:Int))
    by_cases h4:c<(xs.length:Int)
    ·rw[decide_eq_true h4,decide_eq_true ⟨h1,h2,h3,h4⟩]
    ·rw[decide_eq_false h4,decide_eq_false (λh=>h4 h.2.2.2)]
   ·refine VO.fix 21 rfl (congrArg (λb=>AV.val (.bool b)) (decide_eq_false h3)) ?_
    refine ae ?_
    refine aX ?_;intro wz kz bz
    exact⟨congrArg (λb=>Ending.returned (.bool b)) (decide_eq_false (λh=>h3 h.2.2.1)).symm,bz⟩
  ·refine VO.fix 16 rfl (congrArg (λb=>AV.val (.bool b)) (decide_eq_false h2)) ?_
   refine ae ?_
   refine aX ?_;intro wz kz bz
   exact⟨congrArg (λb=>Ending.returned (.bool b)) (decide_eq_false (λh=>h2 h.2.1)).symm,bz⟩
 ·refine VO.fix 8 rfl (congrArg (λb=>AV.val (.bool b)) (decide_eq_false h1)) ?_
  refine ae ?_
  refine aX ?_;intro wz kz bz
  exact⟨congrArg (λb=>Ending.returned (.bool b)) (decide_eq_false (λh=>h1 h.1)).symm,bz⟩
end
set_option maxRecDepth 4000
section
open Go.RowKit
attribute [local irreducible] ar VS
abbrev db:=List (List Rat)
def qh (t:db) (e c:Nat) (x:Rat):db:=t.modify e λr=>r.modify c (·+x)
def dK (n k:Nat):db:=List.replicate n (List.replicate k 0)
theorem lx (t:db) (e c:Nat) (x:Rat):(qh t e c x).length=t.length:=by unfold qh;rw[List.length_modify]
theorem ou {t:db} {e c i:Nat} {x:Rat} {r:List Rat} (h:t[i]? =some r):(qh t e c x)[i]? =some (if i=e then r.modify c (·+x) else r):=by
 unfold qh
 rw[List.getElem?_modify,h]
 by_cases he:e=i
 ·subst he;simp
 ·simp[he,Ne.symm he]
theorem IW (t:db) (e c:Nat) (x:Rat):(qh t e c x).map List.length=t.map List.length:=by
 apply List.ext_getElem?
 intro i
 rw[List.getElem?_map,List.getElem?_map]
 cases h:t[i]? with
 | none=>rw[List.getElem?_eq_none (by rw[lx];exact List.getElem?_eq_none_iff.1 h)]
 | some r=>rw[ou h];by_cases he:i=e <;> simp[he]
def xg:Value->Option Nat
 | .slice (some a) _ _=>some a.block
 | _=>none
def rD (us:List Value):Prop:=∀ (i j:Nat) (u v:Value) (b:Nat),us[i]? =some u->us[j]? =some v->xg u=some b->xg v=some b->i=j
def tV (B kk:Nat) (w:World) (cs:List Value) (q:Rat):Prop:=∃ s p n c t y m d,cs=[.bool s,.slice p n c,.bool t,.slice y m d]/\bh w B (.agg #[.bool s,.slice p n c,.bool t,.slice y m d]) q/\gn q kk
theorem tV.mk {B kk:Nat} {w:World} {s t:Bool} {p y:Option Addr} {n c m d:Nat} {q:Rat} (h:bh w B (.agg #[.bool s,.slice p n c,.bool t,.slice y m d]) q) (hs:gn q kk):tV B kk w [.bool s,.slice p n c,.bool t,.slice y m d] q:=⟨_,_,_,_,_,_,_,_,rfl,h,hs⟩
theorem bU (B kk:Nat):gp (tV B kk) 4 where
 kp:=λh k=>by
  obtain⟨s,p,n,c,t,y,m,d,hv,h1,h2⟩:=h
  exact⟨_,_,_,_,_,_,_,_,hv,h1.kp k,h2⟩
 len:=λh=>by
  obtain⟨s,p,n,c,t,y,m,d,rfl,_⟩:=h
  rfl
 ok:=λh=>by
  obtain⟨s,p,n,c,t,y,m,d,rfl,_⟩:=h
  rfl
theorem tV.q {B kk:Nat} {w:World} {cs:List Value} {q:Rat} (h:tV B kk w cs q):mJ kk w cs q:=by
 obtain⟨s,p,n,c,t,y,m,d,hv,h1,h2⟩:=h
 exact⟨_,_,_,_,_,_,_,_,hv,h1.rd,h2⟩
theorem tV.up {B j k:Nat} {w:World} {cs:List Value} {q:Rat} (h:tV B j w cs q) (hk:j<=k):tV B k w cs q:=by
 obtain⟨s,p,n,c,t,y,m,d,hv,h1,h2⟩:=h
 exact⟨_,_,_,_,_,_,_,_,hv,h1,h2.mono hk⟩
theorem tV.mono {B B' k:Nat} {w:World} {cs:List Value} {q:Rat} (h:tV B k w cs q) (hB:B'<=B):tV B' k w cs q:=by
 obtain⟨s,p,n,c,t,y,m,d,hv,h1,h2⟩:=h
 exact⟨_,_,_,_,_,_,_,_,hv,h1.mono hB,h2⟩
def di (kk B:Nat) (w:World) (v:Value) (t:db):Prop:=∃ us,aC VE 1 105 B w v us/\us.length=t.length/\(∀ (i:Nat) (u:Value) (r:List Rat),us[i]? =some u->t[i]? =some r->aC (tV B kk) 4 27 B w u r)/\rD us
theorem di.kp {kk B:Nat} {w w':World} {v:Value} {t:db} {T:TypeId->Bool} (h:di kk B w v t) (k:jB T w w') (h1:T 105=true) (h2:T 27=true):di kk B w' v t:=by
 obtain⟨us,g1,g2,g3,g4⟩:=h
 exact⟨us,g1.kp bB k h1,g2,λi u r hi hr=>(g3 i u r hi hr).kp (bU B kk) k h2,g4⟩
theorem di.aB {kk B:Nat} {w w':World} {v:Value} {t:db} (h:di kk B w v t) (hb:ak w w'):di kk B w' v t:=h.kp (T:=λ_=>true) (aF.of hb) rfl rfl
theorem mJ.up {j k:Nat} {w:World} {cs:List Value} {q:Rat} (h:mJ j w cs q) (hk:j<=k):mJ k w cs q:=by
 obtain⟨s,p,n,c,t,y,m,d,h1,h2,h3⟩:=h
 exact⟨_,_,_,_,_,_,_,_,h1,h2,h3.mono hk⟩
theorem aC.imp {α:Type} {E E':World->List Value->α->Prop} {sz B:Nat} {t:TypeId} {w:World} {v:Value} {es:List α} (h:aC E sz t B w v es) (hm:∀ (cs:List Value) (a:α),E w cs a->E' w cs a):aC E' sz t B w v es:=by
 rcases h with h|⟨b,c,vs,sp,g1,g2,g3,g4,g5,g6,g7,g8⟩
 ·exact .inl h
 ·exact .inr ⟨b,c,vs,sp,g1,g2,g3,g4.mono hm,g5,g6,g7,g8⟩
theorem di.up {j k B:Nat} {w:World} {v:Value} {t:db} (h:di j B w v t) (hk:j<=k):di k B w v t:=by
 obtain⟨us,g1,g2,g3,g4⟩:=h
 exact⟨us,g1,g2,λi u r hi hr=>(g3 i u r hi hr).imp (λ_ _ h=>h.up hk),g4⟩
theorem di.mono {k B B':Nat} {w:World} {v:Value} {t:db} (h:di k B w v t) (hB:B'<=B):di k B' w v t:=by
 obtain⟨us,g1,g2,g3,g4⟩:=h
 exact⟨us,g1.mono hB,g2,λi u r hi hr=>((g3 i u r hi hr).imp (λ_ _ h=>h.mono hB)).mono hB,g4⟩
theorem di.Mc {kk B:Nat} {w:World} {v:Value} {t:db} (h:di kk B w v t):aO (cM kk) 1 w v t:=by
 obtain⟨us,g1,g2,g3,_⟩:=h
 exact uY (g1.sl bB) g2 (λi u r hi hr=>⟨u,rfl,((g3 i u r hi hr).imp (λ_ _ h=>h.q.tot)).sl (xc kk)⟩)
theorem di.nil (kk B:Nat) (w:World):di kk B w (.slice none 0 0) []:=⟨[],.inl ⟨rfl,rfl⟩,rfl,λi u r hi=>(by simp at hi),λi j u v b hi=>(by simp at hi)⟩
theorem di.form {kk B:Nat} {w:World} {v:Value} {t:db} (h:di kk B w v t):∃ p c,v=.slice p t.length c:=by
 obtain⟨us,g1,g2,_⟩:=h
 rw[<-g2];exact g1.form
theorem dY {us:List Value} {u:Value} (h:rD us) {W:Nat} (ho:∀ (i:Nat) (v:Value) (b:Nat),us[i]? =some v->xg v=some b->b<W) (hn:∀ b,xg u=some b->W<=b):rD (us++[u]):=λi j a c b hi hj ha hc=>by
 have key:∀ (i:Nat) (a:Value),(us++[u])[i]? =some a->(us[i]? =some a)\/(i=us.length/\a=u):=λi a hi=>by
  by_cases hil:i<us.length
  ·rw[List.getElem?_append_left hil] at hi;exact .inl hi
  ·rw[List.getElem?_append_right aa] at hi
   have:=(List.getElem?_eq_some_iff.1 hi).1
   rw[List.length_singleton] at this
   obtain rfl:i=us.length:=by omega
   rw[Nat.sub_self] at hi
   cases hi
   exact .inr ⟨rfl,rfl⟩
 rcases key i a hi with h1|⟨rfl,rfl⟩ <;> rcases key j c hj with h2|⟨rfl,rfl⟩
 ·exact h i j a c b h1 h2 ha hc
 ·have:=ho i a b h1 ha;have:=hn b hc;omega
 ·have:=ho j c b h2 hc;have:=hn b ha;omega
 ·rfl
theorem aC.du {α:Type} {E:World->List Value->α->Prop} {sz B:Nat} {t:TypeId} {w:World} {v:Value} {es:List α} (h:aC E sz t B w v es) {b:Nat} (hb:xg v=some b):B<=b/\b<w.heap.size:=by
 rcases h with ⟨rfl,_⟩|⟨b',c,vs,sp,rfl,hB,hc,_⟩
 ·cases hb
 ·cases hb
  exact⟨hB,hc.lt⟩
theorem dW.put {α:Type} {E:World->List Value->α->Prop} {w:World}:∀ {es:List α} {vs:List (List Value)} {i:Nat} {a:α} {cs:List Value},dW E w es vs->E w cs a->dW E w (es.set i a) (vs.set i cs)
 | _,_,i,_,_,.nil,_=>.nil
 | _,_,0,_,_,.cons _ h2,h=>.cons h h2
 | _,_,i+1,_,_,.cons h1 h2,h=>.cons h1 (dW.put h2 h)
theorem row_put {vs:List (List Value)} {sz i:Nat} {new:List Value} {sp:List AV} (h:∀ x∈vs,x.length=sz) (hi:i<vs.length) (ho:new.length=sz):
  (vs.flatten.map AV.val++sp).take (0+((i:Nat):Int).toNat*sz)++(new.map AV.val++(vs.flatten.map AV.val++sp).drop (0+((i:Nat):Int).toNat*sz+sz))=(vs.set i new).flatten.map AV.val++sp:=by
 obtain⟨x,hx⟩:∃ x,vs[i]? =some x:=⟨_,List.getElem?_eq_getElem hi⟩
 have ed:=h x (List.mem_of_getElem? hx)
 rw[IQ h hx 0 new aa sp _ (by rw[Int.toNat_natCast];omega) sz ho.symm]
 rw[show x.take 0++(new++x.drop (0+new.length))=new by rw[List.take_zero,List.nil_append,List.drop_of_length_le aa,List.append_nil]]
theorem Ft {α:Type} {l:List α} {i:Nat} {a:α} {f:α->α} (h:l[i]? =some a):l.modify i f=l.set i (f a):=by
 apply List.ext_getElem?
 intro j
 rw[List.getElem?_modify,List.getElem?_set]
 by_cases e:i=j
 ·subst e
  rw[if_pos rfl,if_pos (List.getElem?_eq_some_iff.1 h).1,h];simp
 ·rw[if_neg e]
  cases l[j]? <;> simp[e]
theorem aE.but {ad:List Nat} {w w':World} {g:Nat} {t:TypeId} {cs:Array Value} (h:aE w g t cs) (k:eK ad w w') (hg:g∉ad):aE w' g t cs:=(k.du g h.lt hg).trans h
theorem et.aB {K:KC} {N:Nat} {ad:List Nat} {l:List (TypeId×List AV)} {w w':World} (h:et K N ad l w) (hb:ak w w'):et K N ad l w':=⟨h.len,h.nodup,λj g c hj hc=>(h.cls j g c hj hc).aB hb,h.ok,h.ids⟩
theorem at_one {C:Cx} {b o:Nat} {u:Value} (h:C.At ⟨b,o,none⟩ u):∀ j x,[u][j]? =some x->C.At ((⟨b,o,none⟩:Addr).add j) x:=λj x hj=>by
 match j,hj with
 | 0,hj=>cases hj;exact h
theorem aC.but {α:Type} {E:World->List Value->α->Prop} {sz B:Nat} {t:TypeId} {ad:List Nat} {w w':World} {v:Value} {es:List α} (hE:gp E sz) (h:aC E sz t B w v es) (k:eK ad w w') (kw:Kp UU w w') (hn:∀ b,xg v=some b->b∉ad):aC E sz t B w' v es:=by
 rcases h with h|⟨b,c,vs,sp,rfl,g2,g3,g4,g5,g6,g7,g8⟩
 ·exact .inl h
 ·exact .inr ⟨b,c,vs,sp,rfl,g2,g3.but k (hn b rfl),g4.kp hE kw,g5,g6,g7,g8⟩
theorem Di {vs:List Value} {P:Value->Prop} {u:Value} (h:∀ (i:Nat) (v:Value),vs[i]? =some v->P v) (hu:P u):∀ (i:Nat) (v:Value),(vs++[u])[i]? =some v->P v:=λi v hi=>by
 rcases List.mem_append.1 (List.mem_of_getElem? hi) with h1|h1
 ·obtain⟨j,hj⟩:=List.getElem?_of_mem h1
  exact h j v hj
 ·rw[List.mem_singleton.1 h1];exact hu
abbrev zn:KC:=⟨UU,λ_=>True,λt=>Nat.beq t 27⟩
abbrev Md (P:Program) (w:World) (N:Nat) (ad:List Nat) (hd:ad.Nodup) (ha:gm zn ad w):Cx:=pQ P w N zn (λt=>Nat.beq t 23) table (λ_ _=>trivial) ad hd ha
theorem rE (w:World) (N:Nat) {ad:List Nat} {hd:ad.Nodup} {ha:gm zn ad w}:(Md Tryz.prog w N ad hd ha).Ok:=dA
section
variable {F F':Fr} {H H':Hp} {w w1:World} {N:Nat} {l':List Oper} {Q:Exit->Act->World->Prop} {k:List It} {id:Nat} {ops:Array Oper}
theorem cxT4_r {ad:List Nat} {hd:ad.Nodup} {ha:gm zn ad w1} (e:gl (Md Tryz.prog w1 N ad hd ha) ops 80 ops.toList F H=(l',F',H')) (h:ar (Md Tryz.prog w1 N ad hd ha) none ops l' (VS (Md Tryz.prog w1 N ad hd ha) Q k) F' H' w):VS (Md Tryz.prog w1 N ad hd ha) Q (.code (.region id ops false)::k) F H w:=VS.region (rE _ _) (VO.run 80 e h)
end
abbrev tW:KC:=⟨UU,λ_=>True,λt=>false⟩
abbrev xh (P:Program) (w:World) (N:Nat) (ad:List Nat) (hd:ad.Nodup) (ha:gm tW ad w):Cx:=pQ P w N tW (λt=>Nat.beq t 23) table (λ_ _=>trivial) ad hd ha
theorem gP (w:World) (N:Nat) {ad:List Nat} {hd:ad.Nodup} {ha:gm tW ad w}:(xh Tryz.prog w N ad hd ha).Ok:=dA
theorem Fu (w:World) (N:Nat) {ad:List Nat} {hd:ad.Nodup} {ha:gm tW ad w}:(xh Tryz.prog w N ad hd ha).P.follows .mixedOrders=true:=by show Tryz.prog.follows .mixedOrders=true;kernel_rfl
section
variable {F F':Fr} {H H':Hp} {w w1:World} {N:Nat} {l':List Oper} {Q:Exit->Act->World->Prop} {k:List It} {id:Nat} {ops:Array Oper}
theorem Me {ad:List Nat} {hd:ad.Nodup} {ha:gm tW ad w1} (e:gl (xh Tryz.prog w1 N ad hd ha) ops 80 ops.toList F H=(l',F',H')) (h:ar (xh Tryz.prog w1 N ad hd ha) none ops l' (VS (xh Tryz.prog w1 N ad hd ha) Q k) F' H' w):VS (xh Tryz.prog w1 N ad hd ha) Q (.code (.region id ops false)::k) F H w:=VS.region (gP _ _) (VO.run 80 e h)
theorem cxZ0_d {ad:List Nat} {hd:ad.Nodup} {ha:gm tW ad w1} (e:gl (xh Tryz.prog w1 N ad hd ha) ops 80 ops.toList F H=(l',F',H')) (h:ar (xh Tryz.prog w1 N ad hd ha) (some []) ops l' (VS (xh Tryz.prog w1 N ad hd ha) Q k) F' H' w) (jh:ij (xh Tryz.prog w1 N ad hd ha).SU [] ops=true:=by kernel_rfl):VS (xh Tryz.prog w1 N ad hd ha) Q (.code (.region id ops true)::k) F H w:=VS.draw (gP _ _) (Fu _ _) [] jh (VO.run 80 e h)
end
theorem Dj (n:Int):mD 0 [n]=((n.toNat:Nat):Int):=by
 unfold mD mD
 split <;> omega
theorem nN {P Q:Prop} (h:Q) (i:Q->P:=by intro h;(repeat first|refine wN ?_|refine wP rfl ?_|refine cxT4_r rfl ?_|refine cxT4_d rfl ?_|refine wO rfl rfl ?_);exact h):P:=i h
theorem ck {P Q:Prop} (h:Q) (i:Q->P:=by intro h;(repeat first|refine wN ?_|refine wP rfl ?_|refine Me rfl ?_|refine cxZ0_d rfl ?_|refine wO rfl rfl ?_);exact h):P:=i h
set_option maxRecDepth 4000 in
theorem xj (n k:Int) (w:World) (hn:n<=100000) (hk:k<=100000):
  Calls Tryz.prog 34 #[.int .i64 n,.int .i64 k] w λo w'=>∃ r,o=.returned (.agg #[r])/\di 1 w.heap.size w' r (dK n.toNat k.toNat)/\ak w w':=by
 obtain⟨N,hN⟩:∃ N,N=n.toNat:=⟨_,rfl⟩
 obtain⟨K,hK⟩:∃ K,K=k.toNat:=⟨_,rfl⟩
 have hmN:mD 0 [n]=(N:Int):=by rw[Dj,hN]
 have hmK:mD 0 [k]=(K:Int):=by rw[Dj,hK]
 rw[<-hN,<-hK]
 have hNb:N<=100000:=by omega
 have hKb:K<=100000:=by omega
 refine af (C:=aW Tryz.prog w _) (args:=[_,_]) Tryz.func34 rfl Tryz.ntmps34 (bP rfl) ?_
 refine ae ?_
 refine VS.rA (J:=λm L W=>∃ (e g4 g:Nat) (rv:Value) (us:List Value),e<=N/\m=N-e/\L=[(0,.int .i64 n),(1,.int .i64 k),(4,.pointer (some ⟨g4,0,none⟩)),(5,.pointer (some ⟨g,0,none⟩)),(8,.int .i64 (N:Int)),(9,.int .i64 (e:Int))]/\ak w W/\w.heap.size<=g4/\w.heap.size<=g/\g4≠g/\aE W g4 52 #[.slice none 0 0]/\aE W g 52 #[rv]/\aC VE 1 105 w.heap.size W rv us/\us.length=e/\(∀ (i:Nat) (u:Value),us[i]? =some u->aC (tV w.heap.size 1) 4 27 w.heap.size W u (List.replicate K 0))/\rD us)
  (λW=>aW Tryz.prog W 28) (λ_=>rfl) (λ_=>rfl) (λ_=>ak.refl _) N (λw' β k' o en=>⟨[(0,.int .i64 n),(1,.int .i64 k),(4,.pointer (some ⟨β 4,0,none⟩)),(5,.pointer (some ⟨β 5,0,none⟩)),(8,.int .i64 (N:Int)),(9,.int .i64 ((0:Nat):Int))],⟨⟨_,_,rfl,rfl,rfl⟩,⟨_,_,rfl,rfl,rfl⟩,⟨_,_,rfl,rfl,rfl⟩,⟨_,_,rfl,rfl,rfl⟩,⟨_,_,rfl,congrArg (λz=>Value.int .i64 z) hmN,rfl⟩,⟨_,_,rfl,rfl,rfl⟩,trivial⟩,0,β 4,β 5,.slice none 0 0,[],by omega,rfl,rfl,o,(en.own 4 _ _ rfl).new,(en.own 5 _ _ rfl).new,(λh=>absurd (en.apart 4 5 (by intro h;cases h) (by intro h;cases h) h) bZ),(en.own 4 _ _ rfl).cls,(en.own 5 _ _ rfl).cls,.inl ⟨rfl,rfl⟩,rfl,λi u hi=>(by simp at hi),λi j u v b hi=>(by simp at hi)⟩) ?_
 rintro m L W ⟨e,g4,g,rv,us,he,rfl,rfl,fT,fI,GG,gQ,jd,xk,Ay,zQ,lz,GH⟩
 refine ae ?_
 by_cases heN:e<N
 ·refine VS.aR rfl (decide_eq_true (Int.ofNat_lt.2 heN)) ?_
  refine ae ?_
  refine VS.fix 12 rfl (congrArg (λz=>AV.val (.int .i64 z)) hmK) ?_
  refine VS.loop (J:=λm L M w'=>∃ (z:Nat) (X:AV) (Mi:List (Nat×(TypeId×List AV))),z<=K/\m=K-z/\L=[(0,.val (.int .i64 n)),(1,.val (.int .i64 k)),(4,.val (.pointer (some ⟨g4,0,none⟩))),(5,.val (.pointer (some ⟨g,0,none⟩))),(6,X),(8,.val (.int .i64 (N:Int))),(9,.val (.int .i64 (e:Int))),(12,.val (.int .i64 (K:Int))),(13,.val (.int .i64 (z:Int)))]/\M=Mi/\fH (tV w.heap.size 1) 4 27 18 X Mi w' (List.replicate z 0)) K ⟨_,_,?_,?_,?_,?_,⟨0,_,[],by omega,rfl,rfl,rfl,.inl ⟨rfl,rfl,rfl⟩⟩⟩ ?_
  ·exact ew
  ·exact ew
  ·rfl
  ·exact kH
  rintro m L Mi wI ⟨z,X,Mi2,hz,rfl,rfl,rfl,hI⟩
  refine VS.now (λwX kN bN=> ?_)
  replace hI:=hI.kp (bU w.heap.size 1) (aF.eH kN)
  refine VS.mask [17] (by rcases hI with ⟨_,rfl,rfl⟩|⟨_,_,_,_,rfl,rfl,_⟩ <;> (repeat first|exact trivial|refine⟨rfl,?_⟩)) ?_
  refine ae ?_
  by_cases Jz:z<K
  ·refine VS.aR rfl (decide_eq_true (Int.ofNat_lt.2 Jz)) ?_
   refine ae ?_
   refine VO.cR rfl rfl (fk Tryz.func37) (λbo cj bD=>me 0 bo aa aa) (λbo cj bD w1 s1 p1 n1 c1 t1 y1 m1 d1 q1 aL dh _ bb1=>wV rfl ?_)
   refine ae ?_
   have gr:tV w.heap.size 1 w1 [.bool s1,.slice p1 n1 c1,.bool t1,.slice y1 m1 d1] 0:=.mk ((q1.cast (show ((0:Int):Rat)=0 from rfl)).mono (fT.aw bD).size) gn.zero
   rcases hI with ⟨kO,rfl,rfl⟩|⟨n',c',vs,sp,rfl,rfl,sW⟩
   ·refine VO.lh (bO _ _) (bU w.heap.size 1) (t:=105) (e:=27) (s:=17) (a:=0) (cs:=[.bool s1,.slice p1 n1 c1,.bool t1,.slice y1 m1 d1]) rfl rfl rfl rfl rfl rfl rfl rfl (bP rfl) rfl rfl rfl gr aa (λw9 cap sp k9 b9 iV=>wV rfl ?_)
    refine ae ?_
    refine VS.back (K-(z+1)) aa ⟨_,_,?_,?_,?_,?_,⟨z+1,_,_,by omega,rfl,rfl,rfl,.inr ⟨1,cap,_,sp,rfl,rfl,by rw[List.replicate_succ',kO];exact iV⟩⟩⟩
    ·(refine⟨rfl,rfl,rfl,rfl,rfl,rfl,rfl,rfl,?_,trivial⟩;rw[<-aD (i:=z) aa];rfl)
    ·(repeat first|exact trivial|refine⟨rfl,?_⟩|refine⟨congrArg (λl=>some (_,l)) (cQ (by first|exact dE.de (by assumption)|exact ah _|(rw[<-List.map_append];exact ah _)) _ _),?_⟩)
    ·rfl
    ·(repeat first|exact trivial|refine⟨aA.lit rfl,?_⟩|refine⟨dE.DN (by assumption),?_⟩|refine⟨aA.append (.vals _) (.vals _),?_⟩|refine⟨aA.vals _,?_⟩)
   ·have rW:=sW.len
    refine VO.lj (bO _ _) (bU w.heap.size 1) (t:=105) (e:=27) (s:=17) (i:=18) (n:=n') (c:=c') (vs:=vs) (sp:=sp) (es:=List.replicate z 0) (a:=0) (cs:=[.bool s1,.slice p1 n1 c1,.bool t1,.slice y1 m1 d1]) rfl rfl rfl rfl rfl rfl rfl rfl (bP rfl) rfl (.inr rfl) rfl (sW.kp (bU w.heap.size 1) eS) rfl gr (by rw[List.length_replicate] at rW;omega) (λw9 qi zj ρ k9 b9 fv iV=>wV rfl ?_)
    refine ae ?_
    refine VS.back (K-(z+1)) aa ⟨_,_,?_,?_,?_,?_,⟨z+1,_,_,by omega,rfl,rfl,rfl,.inr ⟨n' +1,qi,_,zj,rfl,rfl,by rw[List.replicate_succ'];exact iV⟩⟩⟩
    ·(refine⟨rfl,rfl,rfl,rfl,rfl,rfl,rfl,rfl,?_,trivial⟩;rw[<-aD (i:=z) aa];rfl)
    ·(repeat first|exact trivial|refine⟨rfl,?_⟩|refine⟨congrArg (λl=>some (_,l)) (cQ (by first|exact dE.de (by assumption)|exact ah _|(rw[<-List.map_append];exact ah _)) _ _),?_⟩)
    ·rfl
    ·(repeat first|exact trivial|refine⟨aA.lit rfl,?_⟩|refine⟨dE.DN (by assumption),?_⟩|refine⟨aA.append (.vals _) (.vals _),?_⟩|refine⟨aA.vals _,?_⟩)
  refine VS.aP rfl (decide_eq_false (λe=>Jz (Int.ofNat_lt.1 e))) ?_
  obtain rfl:K=z:=by omega
  subst zQ
  refine VS.ea zn (λt=>Nat.beq t 23) table (λ_ _ _=>trivial) (λdp mw k1 sY yj=> ?_)
  have aQ:ak W dp:=sY
  have cf:=hI.told (bU w.heap.size 1) yj (by intro q hq;rcases hI with ⟨_,rfl,rfl⟩|⟨_,_,_,_,rfl,rfl,_⟩ <;> first|(cases hq;done)|(cases List.mem_singleton.1 hq;rfl)) k1.eH W.heap.size (λh=>h)
  have jo:=xk.aB aQ
  have uZ:=fT.size
  have rF:=aQ.size
  rcases Ay with ⟨rfl,rfl⟩|⟨b0,cB,vc,vd,rfl,LZ,iK,rG,rH,Az,AA,AB⟩
  ·have lB:et zn 28 [g] [(52,[.val (.slice none 0 0)])] dp:=by
    refine⟨rfl,by simp,λj g' c' hj hc=> ?_,λc' hc=> ?_,λc' hc k hk=> ?_⟩
    ·match j,hj,hc with
     | 0,hj,hc=>cases hj;cases hc;exact jo
     | j+1,hj,_=>simp at hj
    ·cases List.mem_singleton.1 hc
     exact⟨rfl,rfl⟩
    ·cases List.mem_singleton.1 hc
     cases hk
   refine⟨[g],[(52,[.val (.slice none 0 0)])],lB,[(0,.val (.int .i64 n)),(1,.val (.int .i64 k)),(4,.val (.pointer (some ⟨g4,0,none⟩))),(5,.box 56 0),(8,.val (.int .i64 (N:Int))),(9,.val (.int .i64 (([]:List Value).length:Int))),(6,.val (X.aI mw))],⟨⟨_,rfl,rfl,λi hi=>(by cases hi)⟩,⟨_,rfl,rfl,λi hi=>(by cases hi)⟩,⟨_,rfl,rfl,λi hi=>(by cases hi)⟩,⟨_,rfl,rfl,λi hi=>by rw[(by simpa [AV.ids] using hi:i=56)];exact⟨(by show 56<=56;omega),(by show 56<2*28+1;omega)⟩⟩,⟨_,rfl,rfl,λi hi=>(by cases hi)⟩,⟨_,rfl,rfl,λi hi=>(by cases hi)⟩,⟨_,rfl,rfl,λi hi=>(by cases hi)⟩,trivial⟩,?_⟩
   generalize X.aI mw=vv at cf ⊢
   obtain⟨jb,iW,rfl⟩:=cf.form
   refine nN ?_
   refine VO.lh (rE _ _) bB (t:=50) (e:=105) (s:=23) (a:=.slice jb (List.replicate K (0:Rat)).length iW) (cs:=[.slice jb (List.replicate K (0:Rat)).length iW]) rfl rfl rfl rfl rfl rfl rfl rfl (bP rfl) rfl rfl rfl ⟨rfl,_,_,_,rfl⟩ aa (λmH cap sp LX Jy iV=>wV rfl ?_)
   refine nN ?_
   refine VS.kc rfl (N-(([]:List Value).length+1)) aa (λw' bu k' o' oy=> ?_)
   have nA:aF zn dp w':=(show aF zn dp mH from eS).aw k'
   have rI:ak w w':=eK.aB (fT.aw aQ) o'.1 (λx hx=>by rw[List.mem_singleton.1 hx];omega)
   have hst:fH VE 1 105 24 (.row 24 0 1 cap) [(24,(105,_))] mH ([.slice jb (List.replicate K (0:Rat)).length iW]):=.inr ⟨_,cap,_,sp,rfl,rfl,iV⟩
   have ji:=hst.told bB oy (λx hx=>by cases List.mem_singleton.1 hx;rfl) k'.eH w.heap.size (λh=>(da (show fG 28 [g] dp 24 (bu 24) from h)).elim (λq=>Nat.le_trans uZ (Nat.le_trans rF q)) (λq=>by rw[List.mem_singleton.1 q];omega))
   have nS:=oy.own 56 _ _ rfl
   have fj:bu 56=g:=(qe nS 0 g rfl rfl).1
   refine⟨[(0,.int .i64 n),(1,.int .i64 k),(4,.pointer (some ⟨g4,0,none⟩)),(5,.pointer (some ⟨bu 56,0,none⟩)),(8,.int .i64 (N:Int)),(9,.int .i64 ((([]:List Value).length+1:Nat):Int))],⟨⟨_,_,rfl,rfl,rfl⟩,⟨_,_,rfl,rfl,rfl⟩,⟨_,_,rfl,rfl,rfl⟩,⟨_,_,rfl,rfl,rfl⟩,⟨_,_,rfl,rfl,rfl⟩,⟨_,_,rfl,congrArg (λz=>Value.int .i64 z) (aD (i:=([]:List Value).length) aa),rfl⟩,trivial⟩,([]:List Value).length+1,g4,bu 56,.slice (some ⟨bu 24,0,none⟩) 1 cap,[Value.slice jb (List.replicate K (0:Rat)).length iW],by omega,rfl,rfl,rI,fI,by rw[fj];exact GG,by rw[fj];exact gQ,(jd.aB aQ).but o'.1 (by simp[gQ]),nS.cls,ji,by simp,?_,?_⟩
   ·exact Di (vs:=([]:List Value)) (P:=λu=>aC (tV w.heap.size 1) 4 27 w.heap.size w' u (List.replicate K 0)) (λi u hi=>((lz i u hi).aB (bU w.heap.size 1) aQ).kp (bU w.heap.size 1) nA rfl) ((cf.kp (bU w.heap.size 1) nA rfl).mono uZ)
   ·exact dY (us:=([]:List Value)) (λi j u v b hi=>(by simp at hi)) (λi v b hi hb=>((lz i v hi).du hb).2) (λb hb=>(cf.du hb).1)
  ·have rJ:=iK.aB aQ
   have Mf:g≠b0:=λh=>by rw[h] at jo;exact absurd (cZ jo rJ) bZ
   have AD:g4≠b0:=λh=>by rw[h] at jd;exact absurd (cZ jd iK) bZ
   have lB:et zn 28 [g,b0] [(52,[.row 57 0 us.length cB]),(105,vc.flatten.map .val++vd.map .val)] dp:=by
    refine⟨rfl,by simp[Mf],λj g' c' hj hc=> ?_,λc' hc=> ?_,λc' hc k hk=> ?_⟩
    ·match j,hj,hc with
     | 0,hj,hc=>cases hj;cases hc;exact jo
     | 1,hj,hc=>cases hj;cases hc;rw[<-List.map_append,aV];exact rJ
     | j+2,hj,_=>simp at hj
    ·rcases List.mem_cons.1 hc with rfl|hc
     ·exact⟨rfl,rfl⟩
     ·cases List.mem_singleton.1 hc
      exact⟨rfl,by rw[<-List.map_append];exact cE (by rw[List.all_append,(rG.ok bB).1,rH];rfl)⟩
    ·rcases List.mem_cons.1 hc with rfl|hc
     ·have:k=57:=by simpa [aH,AV.de] using hk
      subst this;exact⟨by omega,by show 57<2*28+2;omega⟩
     ·cases List.mem_singleton.1 hc
      rw[<-List.map_append,ah] at hk;cases hk
   have hNB:dE VE 1 dp us.length cB vc (vd.map .val) us:=⟨rfl,rG.kp bB (Kp.of (U:=UU) aQ),cE rH,ah _,Az,AA,by rw[<-List.map_append,List.length_map];exact AB⟩
   refine⟨[g,b0],[(52,[.row 57 0 us.length cB]),(105,vc.flatten.map .val++vd.map .val)],lB,[(0,.val (.int .i64 n)),(1,.val (.int .i64 k)),(4,.val (.pointer (some ⟨g4,0,none⟩))),(5,.box 56 0),(8,.val (.int .i64 (N:Int))),(9,.val (.int .i64 (us.length:Int))),(6,.val (X.aI mw))],⟨⟨_,rfl,rfl,λi hi=>(by cases hi)⟩,⟨_,rfl,rfl,λi hi=>(by cases hi)⟩,⟨_,rfl,rfl,λi hi=>(by cases hi)⟩,⟨_,rfl,rfl,λi hi=>by rw[(by simpa [AV.ids] using hi:i=56)];exact⟨(by show 56<=56;omega),(by show 56<2*28+2;omega)⟩⟩,⟨_,rfl,rfl,λi hi=>(by cases hi)⟩,⟨_,rfl,rfl,λi hi=>(by cases hi)⟩,⟨_,rfl,rfl,λi hi=>(by cases hi)⟩,trivial⟩,?_⟩
   generalize X.aI mw=vv at cf ⊢
   obtain⟨jb,iW,rfl⟩:=cf.form
   refine nN ?_
   refine VO.lj (rE _ _) bB (t:=50) (e:=105) (s:=23) (i:=57) (n:=us.length) (c:=cB) (vs:=vc) (sp:=vd.map .val) (es:=us) (a:=.slice jb (List.replicate K (0:Rat)).length iW) (cs:=[.slice jb (List.replicate K (0:Rat)).length iW]) rfl rfl rfl rfl rfl rfl rfl rfl (bP rfl) rfl (.inl rfl) rfl (hNB.kp bB (aF.eH (show aF zn dp _ from eS))) rfl ⟨rfl,_,_,_,rfl⟩ aa (λmH cap sp ρ LX Jy fv iV=>wV rfl ?_)
   refine nN ?_
   refine VS.kc rfl (N-(us.length+1)) aa (λw' bu k' o' oy=> ?_)
   have nA:aF zn dp w':=(show aF zn dp mH from eS).aw k'
   have rI:ak w w':=eK.aB (fT.aw aQ) o'.1 (λx hx=>by
    rcases List.mem_cons.1 hx with rfl|hx
    ·omega
    ·rw[List.mem_singleton.1 hx];omega)
   have hst:fH VE 1 105 24 (.row 24 0 (us.length+1) cap) [(24,(105,_))] mH (us++[.slice jb (List.replicate K (0:Rat)).length iW]):=.inr ⟨_,cap,_,sp,rfl,rfl,iV⟩
   have ji:=hst.told bB oy (λx hx=>by cases List.mem_singleton.1 hx;rfl) k'.eH w.heap.size (λh=>(da (show fG 28 [g,b0] dp 24 (bu 24) from h)).elim (λq=>Nat.le_trans uZ (Nat.le_trans rF q)) (λq=>by
    rcases List.mem_cons.1 q with h|h
    ·rw[h];omega
    ·rw[List.mem_singleton.1 h];omega))
   have nS:=oy.own 56 _ _ rfl
   have fj:bu 56=g:=(qe nS 0 g rfl rfl).1
   refine⟨[(0,.int .i64 n),(1,.int .i64 k),(4,.pointer (some ⟨g4,0,none⟩)),(5,.pointer (some ⟨bu 56,0,none⟩)),(8,.int .i64 (N:Int)),(9,.int .i64 ((us.length+1:Nat):Int))],⟨⟨_,_,rfl,rfl,rfl⟩,⟨_,_,rfl,rfl,rfl⟩,⟨_,_,rfl,rfl,rfl⟩,⟨_,_,rfl,rfl,rfl⟩,⟨_,_,rfl,rfl,rfl⟩,⟨_,_,rfl,congrArg (λz=>Value.int .i64 z) (aD (i:=us.length) aa),rfl⟩,trivial⟩,us.length+1,g4,bu 56,.slice (some ⟨bu 24,0,none⟩) (us.length+1) cap,us++[Value.slice jb (List.replicate K (0:Rat)).length iW],by omega,rfl,rfl,rI,fI,by rw[fj];exact GG,by rw[fj];exact gQ,(jd.aB aQ).but o'.1 (by simp[gQ,AD]),nS.cls,ji,by simp,?_,?_⟩
   ·exact Di (vs:=us) (P:=λu=>aC (tV w.heap.size 1) 4 27 w.heap.size w' u (List.replicate K 0)) (λi u hi=>((lz i u hi).aB (bU w.heap.size 1) aQ).kp (bU w.heap.size 1) nA rfl) ((cf.kp (bU w.heap.size 1) nA rfl).mono uZ)
   ·exact dY (us:=us) GH (λi v b hi hb=>((lz i v hi).du hb).2) (λb hb=>(cf.du hb).1)
 refine VS.aP rfl (decide_eq_false (λh=>heN (Int.ofNat_lt.1 h))) ?_
 obtain rfl:e=N:=by omega
 (repeat (first|refine wN ?_|refine wP rfl ?_|refine wO rfl rfl ?_))
 refine VS.ea tW (λt=>Nat.beq t 23) table (λ_ _ _=>trivial) (λdp mw k1 sY yj=> ?_)
 have aQ:ak W dp:=sY
 have lB:et tW 28 [g4] [(52,[.val (.slice none 0 0)])] dp:=by
  refine⟨rfl,by simp,λj g' c' hj hc=> ?_,λc' hc=> ?_,λc' hc k hk=> ?_⟩
  ·match j,hj,hc with
   | 0,hj,hc=>cases hj;cases hc;exact jd.aB aQ
   | j+1,hj,_=>simp at hj
  ·cases List.mem_singleton.1 hc
   exact⟨rfl,rfl⟩
  ·cases List.mem_singleton.1 hc
   cases hk
 refine⟨[g4],[(52,[.val (.slice none 0 0)])],lB,[(4,.box 56 0),(5,.val (.pointer (some ⟨g,0,none⟩)))],⟨⟨_,rfl,rfl,λi hi=>by rw[(by simpa [AV.ids] using hi:i=56)];exact⟨(by show 56<=56;omega),(by show 56<2*28+1;omega)⟩⟩,⟨_,rfl,rfl,λi hi=>(by cases hi)⟩,trivial⟩,?_⟩
 refine ck ?_
 obtain⟨pv,cv,rfl⟩:=Ay.form
 refine VO.eJ rfl [.slice pv us.length cv] rfl (at_one (ik (λh=>gQ h.symm) ((xk.aB aQ).cell (j:=0) rfl))) (wV rfl ?_)
 refine ck ?_
 refine VS.pP (gP _ _) rfl (λwz β kz bz en=> ?_)
 have rI:ak w wz:=eK.aB (fT.aw aQ) bz.1 (λx hx=>by rw[List.mem_singleton.1 hx];exact fI)
 have hT:di 1 w.heap.size W (.slice pv us.length cv) (dK e K):=⟨us,Ay,by unfold dK;rw[List.length_replicate,zQ],λi u r hi hr=>by
  unfold dK at hr
  rw[(List.mem_replicate.1 (List.mem_of_getElem? hr)).2];exact lz i u hi,GH⟩
 exact⟨_,rfl,hT.kp (T:=λt=> !Nat.beq t 52) ((aF.of aQ).aw (eK.kp bz.1 (λx hx=>⟨52,[.slice none 0 0],by rw[List.mem_singleton.1 hx];exact jd.aB aQ,rfl,rfl⟩))) rfl rfl,rI⟩
abbrev TX:TypeId->Bool:=λt=> !(Nat.beq t 105 || Nat.beq t 27)
theorem ves {w:World}:∀ {us:List Value} {vs:List (List Value)},dW VE w us vs->vs=us.map λu=>[u]
 | [],_,.nil=>rfl
 | u::r,_,.cons h t=>by rw[h.1,ves t];rfl
theorem nO:∀ (us:List Value),(us.map λu=>[u]).flatten=us
 | []=>rfl
 | u::r=>by rw[List.map_cons,List.flatten_cons,nO r];rfl
set_option maxRecDepth 4000 in
theorem zo (v u:Value) (t:db) (xs:List Rat) (y x:Rat) (e c B kk k:Nat) (w:World) (hv:di kk B w v t) (hu:bE w u x k) (hx:t[e]? =some xs) (hy:xs[c]? =some y) (nA:kk<=1000000) (hk:k<=1000000) (hs:gn (y+x) kk):
  Calls Tryz.prog 64 #[.agg #[v],.agg #[.int .i64 (e:Int),.int .i64 (c:Int)],u] w λo w'=>o=.returned (.tuple #[])/\di kk B w' v (qh t e c x)/\jB TX w w'/\(∀ W,ak W w->W.heap.size<=B->ak W w')/\Cb w w':=by
 obtain⟨us,g1,g2,g3,g4⟩:=hv
 have gr:e<us.length:=by rw[g2];exact (List.getElem?_eq_some_iff.1 hx).1
 obtain⟨ue,hue⟩:∃ z,us[e]? =some z:=⟨_,List.getElem?_eq_getElem gr⟩
 have gU:c<xs.length:=(List.getElem?_eq_some_iff.1 hy).1
 rcases g1 with ⟨rfl,rfl⟩|⟨g,cg,vg,sg,rfl,LZ,xk,hge,hgo,xy,hgm,hgf⟩
 ·exact absurd gr (Nat.not_lt_zero _)
 rcases g3 e ue xs hue hx with ⟨rfl,rfl⟩|⟨b,cb,vb,sb,rfl,hBb,DJ,Iy,hbo,hbl,hbm,hbf⟩
 ·exact absurd gU (Nat.not_lt_zero _)
 obtain rfl:=ves hge
 rw[nO] at xk hgf
 obtain⟨s0,p0,n0,c0,t0,y0,m0,d0,rfl⟩:=hu.form
 have Mf:g≠b:=λh=>by rw[h] at xk;exact absurd (cZ xk DJ) bZ
 have hsetl:((us.map AV.val).set e (AV.row 55 0 xs.length cb)++sg.map AV.val).map (AV.leaf (adB 27 [g,b]))=us++sg:=by
  rw[List.map_append,aV,List.map_set,aV]
  congr 1
  apply List.ext_getElem?
  intro j
  rw[List.getElem?_set]
  by_cases h:e=j
  ·subst h;rw[if_pos rfl,if_pos gr,hue];rfl
  ·rw[if_neg h]
 have hok1:(us++sg).all aZ=true:=by
  rw[List.all_append,hgo,Bool.and_true]
  have:=(hge.ok bB).1
  rwa [nO] at this
 have lB:et tW 27 [g,b] [(105,(us.map AV.val).set e (.row 55 0 xs.length cb)++sg.map .val),(27,vb.flatten.map .val++sb.map .val)] w:=by
  refine⟨rfl,by simp[Mf],λj g' c' hj hc=> ?_,λc' hc=> ?_,λc' hc k hk=> ?_⟩
  ·match j,hj,hc with
   | 0,hj,hc=>cases hj;cases hc;rw[hsetl];exact xk
   | 1,hj,hc=>cases hj;cases hc;rw[<-List.map_append,aV];exact DJ
   | j+2,hj,_=>simp at hj
  ·rcases List.mem_cons.1 hc with rfl|hc
   ·refine⟨rfl,List.all_eq_true.2 λq hq=> ?_⟩
    rcases List.mem_append.1 hq with h1|h1
    ·rcases List.mem_or_eq_of_mem_set h1 with h2|rfl
     ·obtain⟨z,hz,rfl⟩:=List.mem_map.1 h2
      exact List.all_eq_true.1 hok1 z (List.mem_append_left _ hz)
     ·rfl
    ·obtain⟨z,hz,rfl⟩:=List.mem_map.1 h1
     exact List.all_eq_true.1 hok1 z (List.mem_append_right _ hz)
   ·cases List.mem_singleton.1 hc
    exact⟨rfl,by rw[<-List.map_append];exact cE (by rw[List.all_append,(Iy.ok (bU B kk)).1,hbo];rfl)⟩
  ·rcases List.mem_cons.1 hc with rfl|hc
   ·have:k=55:=by
     obtain⟨q,hq,xA⟩:=bg.1 hk
     rcases List.mem_append.1 hq with h1|h1
     ·rcases List.mem_or_eq_of_mem_set h1 with h2|rfl
      ·obtain⟨z,hz,rfl⟩:=List.mem_map.1 h2
       cases xA
      ·simpa [AV.de] using xA
     ·obtain⟨z,hz,rfl⟩:=List.mem_map.1 h1
      cases xA
    subst this;exact⟨by omega,by show 55<2*27+2;omega⟩
   ·cases List.mem_singleton.1 hc
    rw[<-List.map_append,ah] at hk;cases hk
 refine af (C:=aW Tryz.prog w _) (args:=[_,_,_]) Tryz.func64 rfl Tryz.ntmps64 (bP rfl) ?_
 refine VS.ea tW (λt=>Nat.beq t 23) table (λ_ _ _=>trivial) (λdp mw k1 sY yj=> ?_)
 have aQ:ak w dp:=sY
 have hsl1:=lB.aB aQ
 refine⟨[g,b],_,hsl1,[(0,.agg [.row 54 0 us.length cg]),(1,.val (.agg #[.int .i64 (e:Int),.int .i64 (c:Int)])),(2,.val (.agg #[.bool s0,.slice p0 n0 c0,.bool t0,.slice y0 m0 d0]))],⟨⟨_,rfl,rfl,λi hi=>by rw[(by simpa [AV.ids,aH,AV.de] using hi:i=54)];exact⟨(by show 54<=54;omega),(by show 54<2*27+2;omega)⟩⟩,⟨_,rfl,rfl,λi hi=>(by cases hi)⟩,⟨_,rfl,rfl,λi hi=>(by cases hi)⟩,trivial⟩,?_⟩
 refine ck ?_
 refine VO.cond rfl dc ?_
 refine wV rfl ?_
 refine ck ?_
 have hpk:∀ (j:Nat) (q:AV),[AV.row 55 0 xs.length cb][j]? =some q->((us.map AV.val).set e (.row 55 0 xs.length cb)++sg.map .val)[0+((e:Nat):Int).toNat*1+j]? =some q:=λj q hj=>by
  match j,hj with
  | 0,hj=>
    cases hj
    rw[Int.toNat_natCast,Nat.mul_one,Nat.zero_add,Nat.add_zero,List.getElem?_append_left (by rw[List.length_set,List.length_map];exact gr),List.getElem?_set,if_pos rfl,if_pos (by rw[List.length_map];exact gr)]
 refine VO.iE rfl [.row 55 0 xs.length cb] rfl hpk (wV rfl ?_)
 refine ck ?_
 refine VO.cond rfl dc ?_
 refine wV rfl ?_
 refine ck ?_
 refine VO.iE rfl [.row 55 0 xs.length cb] rfl hpk (wV rfl ?_)
 refine ck ?_
 refine VO.cond rfl dc ?_
 refine wV rfl ?_
 refine ck ?_
 obtain⟨cy,xH,hEy⟩:=Iy.at c y hy
 obtain⟨s9,p9,n9,c9,t9,y9,m9,d9,rfl,hr9,hz9⟩:=hEy
 refine VO.iE rfl [.val (.bool s9),.val (.slice p9 n9 c9),.val (.bool t9),.val (.slice y9 m9 d9)] rfl (Fi (Iy.lens (bU B kk)) _ xH 0 [.bool s9,.slice p9 n9 c9,.bool t9,.slice y9 m9 d9] ⟨[],rfl⟩ _ (by rw[Int.toNat_natCast];omega)) (wV rfl ?_)
 refine ck ?_
 refine VO.cR rfl rfl (fk Tryz.func38) (λbo cj bD=>EY _ _ y x kk k bo ((hr9.rd.to hz9).kp (T:=λ_=>false) eS) (hu.kp (T:=λ_=>false) eS) aa aa) (λbo cj bD w1 s1 p1 n1 c1 t1 y1 m1 d1 q1 aL dh _ bb1=>wV rfl ?_)
 refine ck ?_
 refine VO.cond rfl dc ?_
 refine wV rfl ?_
 refine ck ?_
 refine VO.cond rfl ?_ (wV rfl ?_)
 ·rw[List.length_append,List.length_map,List.length_map,<-List.length_append,hbf,Int.toNat_natCast]
  have:(c+1)*4<=cb*4:=Nat.mul_le_mul_right _ aa
  show 0+c*4+4<=cb*4
  omega
 refine ck ?_
 refine VS.fin (gP _ _) rfl (λwz β kz bz en=> ?_)
 have Mg:eK [g,b] w wz:=(eK.of aQ).aw bz.1
 have o54:=qe (en.own 54 _ _ rfl) 0 g rfl rfl
 have o55:=qe (en.own 55 _ _ rfl) 1 b rfl rfl
 have kz':aF ⟨UU,λ_=>True,λ_=>false⟩ w1 wz:=by exact eS
 have kw:aF ⟨UU,λ_=>True,λ_=>false⟩ w wz:=by exact eS
 have hgn:∀ q∈[g,b],B<=q:=λq hq=>by
  rcases List.mem_cons.1 hq with rfl|hq
  ·exact LZ
  ·rw[List.mem_singleton.1 hq];exact hBb
 have hset2:((us.map AV.val).set e (AV.row 55 0 xs.length cb)++sg.map AV.val).map (AV.leaf β)=us++sg:=by
  rw[List.map_append,aV,List.map_set,aV]
  congr 1
  apply List.ext_getElem?
  intro j
  rw[List.getElem?_set]
  by_cases h:e=j
  ·subst h;rw[if_pos rfl,if_pos gr,hue]
   show some (Value.slice (some ⟨β 55,0,none⟩) xs.length cb)=_
   rw[o55.1]
  ·rw[if_neg h]
 have c54:aE wz g 105 (us++sg).toArray:=by have:=o54.2;rwa [hset2] at this
 have c55:aE wz b 27 (((vb.set c [.bool s1,.slice p1 n1 c1,.bool t1,.slice y1 m1 d1]).flatten.map AV.val++sb.map AV.val).map (AV.leaf β)).toArray:=Eq.mp (congrArg (λl=>aE wz b 27 (List.map (AV.leaf β) l).toArray) (row_put (Iy.lens (bU B kk)) (by rw[Iy.len];exact gU) rfl)) o55.2
 rw[<-List.map_append,aV] at c55
 have ji:tV B kk wz [.bool s1,.slice p1 n1 c1,.bool t1,.slice y1 m1 d1] (y+x):=.mk ((q1.mono (Nat.le_trans LZ (Nat.le_trans (Nat.le_of_lt xk.lt) (show aF ⟨UU,λ_=>True,λ_=>false⟩ w bo from eS).size))).kp kz') hs
 refine⟨rfl,⟨us,.inr ⟨g,cg,us.map λu=>[u],sg,rfl,LZ,by rw[nO];exact c54,hge.kp bB kw,hgo,xy,hgm,by rw[nO];exact hgf⟩,by rw[lx];exact g2,λi u r hi hr=> ?_,g4⟩,?_,λW hW hWB=>eK.aB hW Mg (λq hq=>Nat.le_trans hWB (hgn q hq)),Cb.but Mg ?_⟩
 ·by_cases pK:i=e
  ·subst pK
   rw[hue] at hi
   cases hi
   rw[ou hx,if_pos rfl,Ft hy] at hr
   cases hr
   refine .inr ⟨b,cb,vb.set c [.bool s1,.slice p1 n1 c1,.bool t1,.slice y1 m1 d1],sb,by rw[List.length_set],hBb,c55,(Iy.kp (bU B kk) kw).put ji,hbo,by rw[List.length_set];exact hbl,hbm,?_⟩
   rw[List.length_append,nK _ 4 (((Iy.kp (bU B kk) kw).put ji).lens (bU B kk)),List.length_set,<-nK _ 4 (Iy.lens (bU B kk)),<-List.length_append]
   exact hbf
  ·obtain⟨r0,h0⟩:∃ r0,t[i]? =some r0:=⟨_,List.getElem?_eq_getElem (by rw[<-g2];exact (List.getElem?_eq_some_iff.1 hi).1)⟩
   rw[ou h0,if_neg pK] at hr
   cases hr
   refine (g3 i u r hi h0).but (bU B kk) Mg kw (λq hq hm=> ?_)
   rcases List.mem_cons.1 hm with rfl|hm
   ·rcases g3 i u r hi h0 with ⟨rfl,_⟩|⟨b',c',vs,sp,rfl,_,hcl',_⟩
    ·cases hq
    ·cases hq
     exact absurd (cZ xk hcl') bZ
   ·rw[List.mem_singleton.1 hm] at hq
    exact pK (g4 i e u _ b hi hue hq rfl)
 ·refine eK.kp Mg (λq hq=> ?_)
  rcases List.mem_cons.1 hq with rfl|hq
  ·exact⟨105,us++sg,xk,rfl,hok1⟩
  ·rw[List.mem_singleton.1 hq]
   exact⟨27,vb.flatten++sb,DJ,rfl,by rw[List.all_append,(Iy.ok (bU B kk)).1,hbo];rfl⟩
 ·intro q hq
  rcases List.mem_cons.1 hq with rfl|hq
  ·exact⟨_,_,xk⟩
  ·rw[List.mem_singleton.1 hq]
   exact⟨_,_,DJ⟩
theorem Dk (v u:Value) (t:db) (xs:List Rat) (y x:Rat) (e c B kk k:Nat) (w:World) (hv:di kk B w v t) (hu:bE w u x k) (hx:t[e]? =some xs) (hy:xs[c]? =some y) (nA:kk<=1000000) (hk:k<=1000000) (hs:gn (y+x) kk):
 Calls Tryz.prog 64 #[.agg #[v],.agg #[.int .i64 (e:Int),.int .i64 (c:Int)],u] w λo w'=>o=.returned (.tuple #[])/\di kk B w' v (qh t e c x)/\jB TX w w'/\∀ W,ak W w->W.heap.size<=B->ak W w':=(zo v u t xs y x e c B kk k w hv hu hx hy nA hk hs).mono (λo w' ⟨h1,h2,h3,h4,_⟩=>⟨h1,h2,h3,h4⟩)
set_option maxRecDepth 4000
abbrev IX:=ByteArray×ByteArray×Rat
def BkE (kk:Nat) (w:World) (cs:List Value) (b:IX):Prop:=∃ s p n c t y m d,cs=[.string b.1,.string b.2.1,.bool s,.slice p n c,.bool t,.slice y m d]/\bE w (.agg #[.bool s,.slice p n c,.bool t,.slice y m d]) b.2.2 kk
theorem Mh (kk:Nat):gp (BkE kk) 6 where
 kp:=λh k=>by
  obtain⟨s,p,n,c,t,y,m,d,hv,h2⟩:=h
  exact⟨_,_,_,_,_,_,_,_,hv,h2.kp k⟩
 len:=λh=>by
  obtain⟨s,p,n,c,t,y,m,d,rfl,_⟩:=h
  rfl
 ok:=λh=>by
  obtain⟨s,p,n,c,t,y,m,d,rfl,_⟩:=h
  rfl
def YbE (kk:Nat) (w:World) (cs:List Value) (l:List IX):Prop:=∃ n h b d s q,cs=[n,h,b,d,s,q]/\aO (BkE kk) 6 w b l
theorem yb_b (kk:Nat):ElB (YbE kk):=λh hb=>by
 obtain⟨n,h,b,d,s,q,hv,h2⟩:=h
 exact⟨_,_,_,_,_,_,hv,h2.aB (Mh kk) hb⟩
def bkP (names:List ByteArray) (b:IX):Int:=mK (λx=>b.1.toList == x.toList) names
def bkK (cls:List oL) (b:IX):Int:=mK (λx=>x.1.toList == b.2.1.toList) cls
def GI (names:List ByteArray) (cls:List oL) (o:Option db) (b:IX):Option db:=o.bind λt=>if mh t (bkP names b) (bkK cls b)=true then some (qh t (bkP names b).toNat (bkK cls b).toNat b.2.2) else none
def sZ (names:List ByteArray) (cls:List oL) (l:List IX):Option db:=l.foldl (GI names cls) (some (dK names.length cls.length))
theorem IY {names:List ByteArray} {cls:List oL} {l:List IX} {z:Nat} {b:IX} (h:l[z]? =some b):sZ names cls (l.take (z+1))=GI names cls (sZ names cls (l.take z)) b:=by
 unfold sZ
 rw[bJ h,List.foldl_append];rfl
theorem xl {names:List ByteArray} {cls:List oL}:∀ (l:List IX),l.foldl (GI names cls) none=none
 | []=>rfl
 | _::r=>xl r
theorem IZ {names:List ByteArray} {cls:List oL} {l:List IX} {z:Nat} (h:sZ names cls (l.take z)=none):sZ names cls l=none:=by
 have:sZ names cls l=(l.drop z).foldl (GI names cls) (sZ names cls (l.take z)):=by
  unfold sZ
  rw[<-List.foldl_append,List.take_append_drop]
 rw[this,h,xl]
def xm (gW:List ByteArray) (cls:List oL) (AQ:List (List IX)) (year:Int):Option db:=if year<0\/(AQ.length:Int)<=year then none else sZ (fi gW) cls (AQ.getD year.toNat [])
def Mj (o:Option db):Int:=if o.isSome then 0 else 2
def my (t:db) (n:Nat):Prop:=∀ r∈t,∀ x∈r,gn x n
theorem Dl (a b:Nat):my (dK a b) 1:=λr hr x hx=>by
 rw[(List.mem_replicate.1 hr).2] at hx
 rw[(List.mem_replicate.1 hx).2];exact gn.zero
theorem Ja {t:db} {n k e c:Nat} {x:Rat} (h:my t n) (hx:gn x k):my (qh t e c x) (n+k+1):=λr hr y hy=>by
 obtain⟨i,hi⟩:=List.getElem?_of_mem hr
 obtain⟨r0,h0⟩:∃ r0,t[i]? =some r0:=⟨_,List.getElem?_eq_getElem (by rw[<-lx t e c x];exact (List.getElem?_eq_some_iff.1 hi).1)⟩
 rw[ou h0] at hi
 have hm:=h r0 (List.mem_of_getElem? h0)
 by_cases he:i=e
 ·rw[if_pos he] at hi
  cases hi
  obtain⟨j,hj⟩:=List.getElem?_of_mem hy
  rw[List.getElem?_modify] at hj
  obtain⟨y0,xE,rfl⟩:=Option.map_eq_some_iff.1 hj
  have h2:=hm y0 (List.mem_of_getElem? xE)
  by_cases hc:c=j
  ·simp only[hc,if_true];exact h2.add hx
  ·simp only[hc,if_false];exact h2.mono aa
 ·rw[if_neg he] at hi
  cases hi
  exact (hm y hy).mono aa
theorem lC {t:db} {e c:Int} (h:mh t e c=true):∃ (E K:Nat) (xs:List Rat) (y:Rat),e=E/\c=K/\t[E]? =some xs/\xs[K]? =some y:=by
 unfold mh at h
 obtain⟨h1,h2,h3,h4⟩:=of_decide_eq_true h
 obtain⟨E,rfl⟩:=Int.eq_ofNat_of_zero_le h1
 obtain⟨K,rfl⟩:=Int.eq_ofNat_of_zero_le h3
 rw[Int.toNat_natCast] at h4
 have h5:t[E]? =some (t[E]'aa):=List.getElem?_eq_getElem aa
 rw[List.getD_eq_getElem?_getD,h5] at h4
 exact⟨E,K,_,_,rfl,rfl,h5,List.getElem?_eq_getElem (by simpa using h4)⟩
abbrev TQ:TypeId->Bool:=λt=>(Nat.beq t 9 || (Nat.beq t 105 || Nat.beq t 27))
abbrev yk (P:Program) (w:World) (N:Nat):Cx:={ P:=P,w0:=w,N:=N,K:=⟨UU,λ_=>True,λt=>TQ t⟩,SU:=λt=>Nat.beq t 23,ti:=table,keep:=λ_ _=>trivial }
theorem kE (w:World) (N:Nat):(yk Tryz.prog w N).Ok:=dA
theorem Jb (w:World) (N:Nat):(yk Tryz.prog w N).P.follows .mixedOrders=true:=by show Tryz.prog.follows .mixedOrders=true;kernel_rfl
section
variable {F F':Fr} {H H':Hp} {w w1:World} {N:Nat} {l':List Oper} {Q:Exit->Act->World->Prop} {k:List It} {id:Nat} {ops:Array Oper}
theorem Mk (e:gl (yk Tryz.prog w1 N) ops 80 ops.toList F H=(l',F',H')) (h:ar (yk Tryz.prog w1 N) none ops l' (VS (yk Tryz.prog w1 N) Q k) F' H' w):VS (yk Tryz.prog w1 N) Q (.code (.region id ops false)::k) F H w:=VS.region (kE _ _) (VO.run 80 e h)
theorem cxQ_d (e:gl (yk Tryz.prog w1 N) ops 80 ops.toList F H=(l',F',H')) (h:ar (yk Tryz.prog w1 N) (some []) ops l' (VS (yk Tryz.prog w1 N) Q k) F' H' w) (jh:ij (yk Tryz.prog w1 N).SU [] ops=true:=by kernel_rfl):VS (yk Tryz.prog w1 N) Q (.code (.region id ops true)::k) F H w:=VS.draw (kE _ _) (Jb _ _) [] jh (VO.run 80 e h)
end
theorem bL {P Q:Prop} (h:Q) (i:Q->P:=by intro h;(repeat first|refine wN ?_|refine wP rfl ?_|refine Mk rfl ?_|refine cxQ_d rfl ?_|refine wO rfl rfl ?_);exact h):P:=i h
theorem xn {P Q X:Prop} (hb:X) (h:Q) (i:X->Q->P:=by intro hb h;refine⟨_,rfl,hb,λa b c=>wV rfl ?_⟩;refine bL ?_;revert a b c;exact h):P:=i hb h
set_option maxRecDepth 8000 in
theorem Dm (nm pa pB nB cB sT pT nT cT tT yT mT dT sC pC nC cC tC yC mC dC bk fw sI pI nI cI tI yI mI dI sF pF nF cF tF yF mF dF kp pc Nc cc pe Ne ce py Ny cy:_) (year:Int) (gW:List ByteArray) (cls:List oL) (AQ:List (List IX)) (kk nb:Nat) (w:World) (hc:aO (tU kk) 6 w (.slice pc Nc cc) cls) (he:aO rC 1 w (.slice pe Ne ce) gW) (hy:aO (YbE kk) 6 w (.slice py Ny cy) AQ) (hk:1<=kk) (qn:kk<=1000) (hnb:∀ l∈AQ,l.length<=nb) (hnb1:nb<=100) (hNe:gW.length<=10000) (hNc:cls.length<=10000):
  Calls Tryz.prog 13 #[.agg #[.string nm,.string pa,.slice pB nB cB,.bool sT,.slice pT nT cT,.bool tT,.slice yT mT dT,.bool sC,.slice pC nC cC,.bool tC,.slice yC mC dC,.int .i64 bk,.int .i64 fw,.bool sI,.slice pI nI cI,.bool tI,.slice yI mI dI,.bool sF,.slice pF nF cF,.bool tF,.slice yF mF dF,.int .i64 kp,.slice pc Nc cc,.slice pe Ne ce,.slice py Ny cy],.int .i64 year] w λo w'=>∃ r,o=.returned (.tuple #[.agg #[r],.int .i64 (Mj (xm gW cls AQ year))])/\di (1+nb*(kk+1)) w.heap.size w' r ((xm gW cls AQ year).getD [])/\ak w w':=by
 obtain⟨KK,Ml⟩:∃ KK,KK=1+nb*(kk+1):=⟨_,rfl⟩
 have hKb:KK<=1000000:=by
  have:nb*(kk+1)<=100*1001:=Nat.mul_le_mul hnb1 aa
  omega
 rw[<-Ml]
 obtain⟨p',c',e1,hce,hce2⟩:=he.form
 cases e1
 obtain⟨p',c',e1,hcc,hcc2⟩:=hc.form
 cases e1
 obtain⟨p',c',e1,hyc,hyc2⟩:=hy.form
 cases e1
 refine af (C:=yk Tryz.prog w _) (args:=[_,_]) Tryz.func13 rfl Tryz.ntmps13 (bP rfl) ?_
 refine bL ?_
 have bad:∀ (W:World) (hB:ak w W),(xm gW cls AQ year)=none->∃ r,(Ending.returned (.tuple #[.agg #[.slice none 0 0],.int .i64 2]))=.returned (.tuple #[.agg #[r],.int .i64 (Mj (xm gW cls AQ year))])/\di KK w.heap.size W r ((xm gW cls AQ year).getD [])/\ak w W:=λW hB hn=>by
  rw[hn]
  exact⟨_,rfl,di.nil _ _ _,hB⟩
 by_cases JY:year<0
 ·refine VO.fix 13 rfl (congrArg (λb=>AV.val (.bool b)) (decide_eq_true JY)) ?_
  refine bL ?_
  refine VS.ret (kE _ _) rfl rfl (λwz kz bz=> ?_)
  exact bad _ bz (by unfold xm;rw[if_pos (.inl JY)])
 refine VO.fix 13 rfl (congrArg (λb=>AV.val (.bool b)) (decide_eq_false JY)) ?_
 refine bL ?_
 by_cases JW:(AQ.length:Int)<=year
 ·refine VS.aR rfl (decide_eq_true JW) ?_
  refine bL ?_
  refine VS.ret (kE _ _) rfl rfl (λwz kz bz=> ?_)
  exact bad _ bz (by unfold xm;rw[if_pos (.inr JW)])
 refine VS.aP rfl (decide_eq_false JW) ?_
 obtain⟨Y,rfl⟩:=Int.eq_ofNat_of_zero_le (show 0<=year by omega)
 obtain⟨bks,hbks⟩:∃ l,AQ[Y]? =some l:=⟨_,List.getElem?_eq_getElem aa⟩
 have hR:xm gW cls AQ (Y:Int)=sZ (fi gW) cls bks:=by
  unfold xm
  rw[if_neg aa,Int.toNat_natCast,List.getD_eq_getElem?_getD,hbks];rfl
 have hnbk:=hnb bks (List.mem_of_getElem? hbks)
 obtain⟨by0,oy0,csy,rfl,xH,⟨yn,yh,yb,yd,ys,yq,rfl,hbk⟩⟩:=hy.at hbks
 obtain⟨pb,cb,rfl,DJ,hbc2⟩:=hbk.form
 refine bL ?_
 refine VO.call rfl rfl (fk Tryz.func61) (λbo cj bD=>(Fo _ _ _ _ _ _ _ _ _ _ _ _ _ _ _ _ _ _ _ _ _ _ _ _ _ _ _ _ _ _ _ _ _ _ _ _ _ _ _ _ _ _ _ _ _ _ _ _ _ gW bo (he.aB mg bD) rfl aa).mono ?_)
 rintro o w1 ⟨r1,rfl,q1,aL⟩
 obtain⟨pn,cn,rfl⟩:=q1.form
 refine xn aL ?_
 intro dh _ bb1
 refine VO.call rfl rfl (fk Tryz.func34) (λcA dG cV=>(xj _ _ cA (by rw[om];omega) aa).mono ?_)
 rintro o w2 ⟨r2,rfl,q2,aY⟩
 obtain⟨p2,c2,rfl⟩:=q2.form
 refine xn aY ?_
 intro eU _ bb2
 refine VO.cond rfl dc ?_
 refine wV rfl ?_
 refine bL ?_
 refine VO.read rfl [.slice pb bks.length cb] rfl (er xH 2 _ ⟨_,rfl⟩) (wV rfl ?_)
 refine bL ?_
 obtain⟨N,hN⟩:∃ N,N=bks.length:=⟨_,rfl⟩
 rw[<-hN] at hbk DJ hnbk ⊢
 have hpbk:=hbk
 refine VS.rA (J:=λm L W=>∃ (z g2 g4 g7:Nat) (tv nv:Value) (t:db),z<=N/\m=N-z/\L=[(1,.int .i64 (Y:Int)),(2,.pointer (some ⟨g2,0,none⟩)),(4,.pointer (some ⟨g4,0,none⟩)),(6,nv),(7,.pointer (some ⟨g7,0,none⟩)),(34,.slice pb N cb),(35,.int .i64 (N:Int)),(36,.int .i64 (z:Int))]/\ak w W/\w.heap.size<=g4/\g4≠g7/\aE W g2 32 #[.string nm,.string pa,.slice pB nB cB,.bool sT,.slice pT nT cT,.bool tT,.slice yT mT dT,.bool sC,.slice pC nC cC,.bool tC,.slice yC mC dC,.int .i64 bk,.int .i64 fw,.bool sI,.slice pI nI cI,.bool tI,.slice yI mI dI,.bool sF,.slice pF nF cF,.bool tF,.slice yF mF dF,.int .i64 kp,.slice pc cls.length cc,.slice pe gW.length ce,.slice (some ⟨by0,oy0,none⟩) AQ.length cy]/\aE W g4 52 #[.slice none 0 0]/\aE W g7 52 #[tv]/\aC rC 1 9 w.heap.size W nv (fi gW)/\di KK w.heap.size W tv t/\sZ (fi gW) cls (bks.take z)=some t/\my t (1+z*(kk+1)))
  (λW=>yk Tryz.prog W 62) (λ_=>rfl) (λ_=>rfl) (λ_=>ak.refl _) N (λw' β k' o en=> ?_) ?_
 ·refine⟨[(1,.int .i64 (Y:Int)),(2,.pointer (some ⟨β 2,0,none⟩)),(4,.pointer (some ⟨β 4,0,none⟩)),(6,.slice pn (fi gW).length cn),(7,.pointer (some ⟨β 7,0,none⟩)),(34,.slice pb N cb),(35,.int .i64 (N:Int)),(36,.int .i64 ((0:Nat):Int))],⟨⟨_,_,rfl,rfl,rfl⟩,⟨_,_,rfl,rfl,rfl⟩,⟨_,_,rfl,rfl,rfl⟩,⟨_,_,rfl,rfl,rfl⟩,⟨_,_,rfl,rfl,rfl⟩,⟨_,_,rfl,rfl,rfl⟩,⟨_,_,rfl,by rw[hN];rfl,rfl⟩,⟨_,_,rfl,rfl,rfl⟩,trivial⟩,0,β 2,β 4,β 7,_,_,_,by omega,rfl,rfl,o,(en.own 4 _ _ rfl).new,(λh=>absurd (en.apart 4 7 (by intro h;cases h) (by intro h;cases h) h) bZ),(en.own 2 _ _ rfl).cls,(en.own 4 _ _ rfl).cls,(en.own 7 _ _ rfl).cls,?_,?_,rfl,by rw[Nat.zero_mul];exact Dl _ _⟩
  ·exact (q1.kp mg (show jB TQ w1 w' from eS) rfl).mono bD.size
  ·exact ((q2.kp (show jB TQ w2 w' from eS) rfl rfl).up aa).mono cV.size
 rintro m L W ⟨z,g2,g4,g7,tv,nv,t,hz,rfl,rfl,fT,fI,hg47,DD,jd,JA,hnv,hT,hF,hS⟩
 obtain⟨pn2,cn2,rfl⟩:=hnv.form
 refine bL ?_
 by_cases hlt:z<N
 ·obtain⟨bk,hbz⟩:∃ x,bks[z]? =some x:=⟨_,List.getElem?_eq_getElem aa⟩
  have hbkW:aO (BkE kk) 6 W (.slice pb N cb) bks:=hpbk.aB (Mh kk) fT
  obtain⟨bb,ob,csb,rfl,hcb,⟨s9,p9,n9,c9,t9,y9,m9,d9,rfl,hin9⟩⟩:=hbkW.at hbz
  have hcW:aO (tU kk) 6 W (.slice pc cls.length cc) cls:=hc.aB (ot kk) fT
  have xy:∀ (b:Nat) (v:Value),xg tv=some b->g7≠b/\g4≠b:=λb v hb=>by
   obtain⟨us,h1,_⟩:=hT
   rcases h1 with ⟨rfl,_⟩|⟨b',c',vs,sp,rfl,hB,gU,_⟩
   ·cases hb
   ·cases hb
    exact⟨λh=>by rw[h] at JA;exact absurd (cZ JA gU) bZ,λh=>by rw[h] at jd;exact absurd (cZ jd gU) bZ⟩
  refine VS.aR rfl (decide_eq_true (Int.ofNat_lt.2 hlt)) ?_
  refine bL ?_
  refine VO.cond rfl dc ?_
  refine wV rfl ?_
  refine bL ?_
  refine VO.read rfl [.string bk.1,.string bk.2.1,.bool s9,.slice p9 n9 c9,.bool t9,.slice y9 m9 d9] rfl (er hcb 0 _ ⟨[],rfl⟩) (wV rfl ?_)
  refine bL ?_
  refine VO.call rfl rfl (fk Tryz.func62) (λeD eW fN=>(Fq _ (fi gW) bk.1 eD ((hnv.sl mg).aB mg fN)).mono ?_)
  rintro o w3 ⟨rfl,cK⟩
  have hst:sZ (fi gW) cls (bks.take (z+1))=if mh t (bkP (fi gW) bk) (bkK cls bk)=true then some (qh t (bkP (fi gW) bk).toNat (bkK cls bk).toNat bk.2.2) else none:=by rw[IY hbz,hF];rfl
  have he0:mK (λx=>bk.1.toList == x.toList) (fi gW)=bkP (fi gW) bk:=rfl
  rw[he0]
  generalize bkP (fi gW) bk=ei at hst ⊢
  refine⟨_,rfl,cK,λiM _ bb3=>wV rfl ?_⟩
  (repeat (first|refine wN ?_|refine wP rfl ?_|refine Mk rfl ?_|refine wO rfl rfl ?_))
  refine VO.read rfl [.slice pc cls.length cc] rfl (bQ (DD.cell (j:=22) rfl)) (wV rfl ?_)
  (repeat (first|refine wN ?_|refine wP rfl ?_|refine Mk rfl ?_|refine wO rfl rfl ?_))
  refine VO.call rfl rfl (fk Tryz.func16) (λiP jA jX=>(Fs _ cls bk.2.1 kk iP (hcW.aB (ot kk) jX)).mono ?_)
  rintro o w4 ⟨rfl,gj⟩
  have Lp:mK (λx=>x.1.toList == bk.2.1.toList) cls=bkK cls bk:=rfl
  rw[Lp]
  generalize bkK cls bk=ci at hst ⊢
  refine xn gj ?_
  intro nD _ Ah
  refine VO.read rfl [tv] rfl (bQ (JA.cell (j:=0) rfl)) (wV rfl ?_)
  refine bL ?_
  refine VO.call rfl rfl (fk Tryz.func63) (λjj jk kD=>(xf _ t ei ci KK jj (hT.Mc.cP (bG KK) kD)).mono ?_)
  rintro o w5 ⟨rfl,iR⟩
  cases hh:mh t ei ci with
  | false=>
    refine⟨_,rfl,iR,λmE _ xT=>wV rfl ?_⟩
    (repeat (first|refine wN ?_|refine wP rfl ?_|refine wO rfl rfl ?_))
    refine VS.ea tW (λt=>Nat.beq t 23) table (λ_ _ _=>trivial) (λdp mw k1 sY yj=> ?_)
    have aQ:ak W dp:=sY
    have lB:et tW 62 [g4] [(52,[.val (.slice none 0 0)])] dp:=by
     refine⟨rfl,by simp,λj g' c' hj hc=> ?_,λc' hc=> ?_,λc' hc k hk=> ?_⟩
     ·match j,hj,hc with
      | 0,hj,hc=>cases hj;cases hc;exact jd.aB aQ
      | j+1,hj,_=>simp at hj
     ·cases List.mem_singleton.1 hc
      exact⟨rfl,rfl⟩
     ·cases List.mem_singleton.1 hc
      cases hk
    refine⟨[g4],[(52,[.val (.slice none 0 0)])],lB,[(4,.box 124 0)],⟨⟨_,rfl,rfl,λi hi=>by rw[(by simpa [AV.ids] using hi:i=124)];exact⟨(by show 124<=124;omega),(by show 124<2*62+1;omega)⟩⟩,trivial⟩,?_⟩
    refine ck ?_
    refine VS.ret (gP _ _) rfl rfl (λwz kz bz=> ?_)
    exact bad _ (eK.aB (fT.aw aQ) bz.1 (λx hx=>by rw[List.mem_singleton.1 hx];exact fI)) (by rw[hR];exact IZ (z:=z+1) (by rw[hst,hh];rfl))
  | true=>
    obtain⟨E,Kc,xs,y,rfl,rfl,hx,hy'⟩:=lC hh
    rw[hh,if_pos rfl,Int.toNat_natCast,Int.toNat_natCast] at hst
    have hRS:gn (y+bk.2.2) (1+z*(kk+1)+kk+1):=(hS xs (List.mem_of_getElem? hx) y (List.mem_of_getElem? hy')).add (hin9.sz hk)
    have hstep:1+z*(kk+1)+kk+1=1+(z+1)*(kk+1):=by rw[Nat.succ_mul];omega
    have hle:1+(z+1)*(kk+1)<=KK:=by
     have:(z+1)*(kk+1)<=nb*(kk+1):=Nat.mul_le_mul_right _ aa
     omega
    refine⟨_,rfl,iR,λmE _ xT=>wV rfl ?_⟩
    (repeat (first|refine wN ?_|refine wP rfl ?_|refine wO rfl rfl ?_))
    refine VS.ry (kE _ _) 4 rfl rfl rfl (VO.run 80 rfl ?_)
    refine VO.read rfl [tv] rfl (bQ (JA.cell (j:=0) rfl)) (VO.run 80 rfl ?_)
    refine VO.nil ⟨_,_,_,λw=>yk Tryz.prog w 62,rfl,rfl,fk Tryz.func64,λ_=>rfl,λ_=>rfl,λ_=>ak.refl _,λw6 k6 b6=> ?_⟩
    have b6':ak W w6:=b6
    refine (Dk tv _ t xs y bk.2.2 E Kc w.heap.size KK kk w6 (hT.aB b6') (hin9.kp (Kp.of (U:=UU) b6')) hx hy' hKb aa (hRS.mono aa)).mono ?_
    rintro o w7 ⟨rfl,hT7,hkx,hold⟩
    refine⟨_,[(1,.int .i64 (Y:Int)),(2,.pointer (some ⟨g2,0,none⟩)),(4,.pointer (some ⟨g4,0,none⟩)),(6,.slice pn2 (fi gW).length cn2),(7,.pointer (some ⟨g7,0,none⟩)),(34,.slice (some ⟨bb,ob,none⟩) N cb),(35,.int .i64 (N:Int)),(36,.int .i64 (z:Int))],rfl,⟨rfl,rfl,rfl,rfl,rfl,rfl,rfl,rfl,trivial⟩,(λp hp e=>by
     simp only[List.mem_cons,List.not_mem_nil,or_false] at hp
     rcases hp with rfl|rfl|rfl|rfl|rfl|rfl|rfl|rfl <;> cases e),?_⟩
    refine bL ?_
    refine VS.kc rfl (N-(z+1)) aa (λw' β k' o' en=> ?_)
    have o'':ak w7 w':=o'
    have kx':jB TX W w':=(aF.of b6').aw (hkx.aw (aF.of o''))
    refine⟨[(1,.int .i64 (Y:Int)),(2,.pointer (some ⟨g2,0,none⟩)),(4,.pointer (some ⟨g4,0,none⟩)),(6,.slice pn2 (fi gW).length cn2),(7,.pointer (some ⟨g7,0,none⟩)),(34,.slice (some ⟨bb,ob,none⟩) N cb),(35,.int .i64 (N:Int)),(36,.int .i64 ((z+1:Nat):Int))],⟨⟨_,_,rfl,rfl,rfl⟩,⟨_,_,rfl,rfl,rfl⟩,⟨_,_,rfl,rfl,rfl⟩,⟨_,_,rfl,rfl,rfl⟩,⟨_,_,rfl,rfl,rfl⟩,⟨_,_,rfl,rfl,rfl⟩,⟨_,_,rfl,rfl,rfl⟩,⟨_,_,rfl,congrArg (λz=>Value.int .i64 z) (aD (i:=z) aa),rfl⟩,trivial⟩,z+1,g2,g4,g7,tv,_,_,by omega,rfl,rfl,(hold w (fT.aw b6') (Nat.le_refl _)).aw o'',fI,hg47,kx'.block _ g2 _ rfl trivial DD,kx'.block _ g4 _ rfl trivial jd,kx'.block _ g7 _ rfl trivial JA,hnv.kp mg kx' rfl,hT7.aB o'',hst,hstep▸Ja hS (hin9.sz hk)⟩
 refine VS.aP rfl (decide_eq_false (λh=>hlt (Int.ofNat_lt.1 h))) ?_
 obtain rfl:N=z:=by omega
 rw[List.take_of_length_le aa] at hF
 obtain⟨ptv,ctv,rfl⟩:=hT.form
 have hg74:g7≠g4:=λh=>hg47 h.symm
 (repeat (first|refine wN ?_|refine wP rfl ?_|refine wO rfl rfl ?_))
 refine VS.ea tW (λt=>Nat.beq t 23) table (λ_ _ _=>trivial) (λdp mw k1 sY yj=> ?_)
 have aQ:ak W dp:=sY
 have lB:et tW 62 [g4] [(52,[.val (.slice none 0 0)])] dp:=by
  refine⟨rfl,by simp,λj g' c' hj hc=> ?_,λc' hc=> ?_,λc' hc k hk=> ?_⟩
  ·match j,hj,hc with
   | 0,hj,hc=>cases hj;cases hc;exact jd.aB aQ
   | j+1,hj,_=>simp at hj
  ·cases List.mem_singleton.1 hc
   exact⟨rfl,rfl⟩
  ·cases List.mem_singleton.1 hc
   cases hk
 refine⟨[g4],[(52,[.val (.slice none 0 0)])],lB,[(4,.box 124 0),(7,.val (.pointer (some ⟨g7,0,none⟩)))],⟨⟨_,rfl,rfl,λi hi=>by rw[(by simpa [AV.ids] using hi:i=124)];exact⟨(by show 124<=124;omega),(by show 124<2*62+1;omega)⟩⟩,⟨_,rfl,rfl,λi hi=>(by cases hi)⟩,trivial⟩,?_⟩
 refine ck ?_
 refine VO.eJ rfl [.slice ptv t.length ctv] rfl (at_one (ik hg74 ((JA.aB aQ).cell (j:=0) rfl))) (wV rfl ?_)
 refine ck ?_
 refine VS.pP (gP _ _) rfl (λwz β kz bz en=> ?_)
 rw[hR,hF]
 exact⟨_,rfl,hT.kp (T:=λt=> !Nat.beq t 52) ((aF.of aQ).aw (eK.kp bz.1 (λx hx=>⟨52,[.slice none 0 0],by rw[List.mem_singleton.1 hx];exact jd.aB aQ,rfl,rfl⟩))) rfl rfl,eK.aB (fT.aw aQ) bz.1 (λx hx=>by rw[List.mem_singleton.1 hx];exact fI)⟩
structure Rw where
 s:Bool
 xs:List Nat
 t:Bool
 ys:List Nat
def Rw.q (r:Rw):Rat:=rq r.s r.xs r.t r.ys
def Rw.of (q:Rat):Rw:=⟨decide (q.num<0),limbs q.num.natAbs,decide ((q.den:Int)<0),limbs (q.den:Int).natAbs⟩
def dk (kk:Nat) (w:World) (cs:List Value) (r:Rw):Prop:=∃ s p n c t y m d,cs=[.bool s,.slice p n c,.bool t,.slice y m d]/\dJ w (.agg #[.bool s,.slice p n c,.bool t,.slice y m d]) r.s r.xs r.t r.ys/\r.xs.length<=kk/\r.ys.length<=kk
theorem dk.kp {kk:Nat} {U:TypeId} {T:TypeId->Bool} {w w':World} {cs:List Value} {r:Rw} (h:dk kk w cs r) (k:aF ⟨U,λ_=>True,T⟩ w w'):dk kk w' cs r:=by
 obtain⟨s,p,n,c,t,y,m,d,h1,h2,h3,h4⟩:=h
 exact⟨_,_,_,_,_,_,_,_,h1,h2.kp k,h3,h4⟩
theorem dk.el (kk:Nat):gp (dk kk) 4 where
 kp:=λh k=>h.kp k
 len:=λh=>by
  obtain⟨s,p,n,c,t,y,m,d,rfl,_⟩:=h
  rfl
 ok:=λh=>by
  obtain⟨s,p,n,c,t,y,m,d,rfl,_⟩:=h
  rfl
theorem dk.raw {kk:Nat} {w:World} {s t:Bool} {p y:Option Addr} {n c m d:Nat} {r:Rw} (h:dk kk w [.bool s,.slice p n c,.bool t,.slice y m d] r):dJ w (.agg #[.bool s,.slice p n c,.bool t,.slice y m d]) r.s r.xs r.t r.ys/\r.xs.length<=kk/\r.ys.length<=kk:=by
 obtain⟨_,_,_,_,_,_,_,_,h1,h2⟩:=h
 cases h1;exact h2
theorem dk.in {kk:Nat} {w:World} {s t:Bool} {p y:Option Addr} {n c m d:Nat} {r:Rw} (h:dk kk w [.bool s,.slice p n c,.bool t,.slice y m d] r):bE w (.agg #[.bool s,.slice p n c,.bool t,.slice y m d]) r.q kk:=h.raw.1.in h.raw.2.1 h.raw.2.2
theorem dk.of {kk:Nat} {w:World} {s t:Bool} {p y:Option Addr} {n c m d:Nat} {q:Rat} (h:dB w (.agg #[.bool s,.slice p n c,.bool t,.slice y m d]) q) (hs:gn q kk):dk kk w [.bool s,.slice p n c,.bool t,.slice y m d] (Rw.of q):=⟨_,_,_,_,_,_,_,_,rfl,h.raw,hs.1,hs.2⟩
theorem dk.mk {kk:Nat} {w:World} {s t:Bool} {p y:Option Addr} {n c m d:Nat} {r:Rw} (h:dJ w (.agg #[.bool s,.slice p n c,.bool t,.slice y m d]) r.s r.xs r.t r.ys) (h1:r.xs.length<=kk) (h2:r.ys.length<=kk):dk kk w [.bool s,.slice p n c,.bool t,.slice y m d] r:=⟨_,_,_,_,_,_,_,_,rfl,h,h1,h2⟩
abbrev BrR:=Rw×Rw
abbrev KlR:=ByteArray×Nat×Rw
abbrev HbR:=ByteArray×ByteArray×Rw
abbrev SkR:=ByteArray×Rw×Rw
abbrev SdR:=ByteArray×Rw
structure DlR where
 give:Bool
 id:ByteArray
 kind:Nat
 payee:ByteArray
 payer:ByteArray
 cls:ByteArray
 amt:Rw
def BrE (kk:Nat) (w:World) (cs:List Value) (x:BrR):Prop:=∃ s0 p0 n0 c0 t0 y0 m0 d0 s1 p1 n1 c1 t1 y1 m1 d1,cs=[.bool s0,.slice p0 n0 c0,.bool t0,.slice y0 m0 d0,.bool s1,.slice p1 n1 c1,.bool t1,.slice y1 m1 d1]/\dk kk w [.bool s0,.slice p0 n0 c0,.bool t0,.slice y0 m0 d0] x.1/\dk kk w [.bool s1,.slice p1 n1 c1,.bool t1,.slice y1 m1 d1] x.2
def KlE (kk:Nat) (w:World) (cs:List Value) (x:KlR):Prop:=∃ s0 p0 n0 c0 t0 y0 m0 d0,cs=[.string x.1,.int .u8 (x.2.1:Int),.bool s0,.slice p0 n0 c0,.bool t0,.slice y0 m0 d0]/\dk kk w [.bool s0,.slice p0 n0 c0,.bool t0,.slice y0 m0 d0] x.2.2/\x.2.1<256
def HbE (kk:Nat) (w:World) (cs:List Value) (x:HbR):Prop:=∃ s0 p0 n0 c0 t0 y0 m0 d0,cs=[.string x.1,.string x.2.1,.bool s0,.slice p0 n0 c0,.bool t0,.slice y0 m0 d0]/\dk kk w [.bool s0,.slice p0 n0 c0,.bool t0,.slice y0 m0 d0] x.2.2
def DlE (kk:Nat) (w:World) (cs:List Value) (x:DlR):Prop:=∃ s0 p0 n0 c0 t0 y0 m0 d0,cs=[.bool x.give,.string x.id,.int .u8 (x.kind:Int),.string x.payee,.string x.payer,.string x.cls,.bool s0,.slice p0 n0 c0,.bool t0,.slice y0 m0 d0]/\dk kk w [.bool s0,.slice p0 n0 c0,.bool t0,.slice y0 m0 d0] x.amt/\x.kind<256
def SkE (kk:Nat) (w:World) (cs:List Value) (x:SkR):Prop:=∃ s0 p0 n0 c0 t0 y0 m0 d0 s1 p1 n1 c1 t1 y1 m1 d1,cs=[.string x.1,.bool s0,.slice p0 n0 c0,.bool t0,.slice y0 m0 d0,.bool s1,.slice p1 n1 c1,.bool t1,.slice y1 m1 d1]/\dk kk w [.bool s0,.slice p0 n0 c0,.bool t0,.slice y0 m0 d0] x.2.1/\dk kk w [.bool s1,.slice p1 n1 c1,.bool t1,.slice y1 m1 d1] x.2.2
def SdE (kk:Nat) (w:World) (cs:List Value) (x:SdR):Prop:=∃ s0 p0 n0 c0 t0 y0 m0 d0,cs=[.string x.1,.bool s0,.slice p0 n0 c0,.bool t0,.slice y0 m0 d0]/\dk kk w [.bool s0,.slice p0 n0 c0,.bool t0,.slice y0 m0 d0] x.2
structure YrR where
 num:Int
 holds:List HbR
 books:List HbR
 deals:List DlR
 stocks:List SkR
 solds:List SdR
structure FilR where
 name:ByteArray
 parent:ByteArray
 brs:List BrR
 thr:Rw
 cap:Rw
 bk:Int
 fw:Int
 itr:Rw
 flo:Rw
 kp:Int
 cls:List KlR
 gW:List ByteArray
 AQ:List YrR
theorem rK {α β:Type} {E:World->List Value->α->Prop} {E':World->List Value->β->Prop} {sz:Nat} {w:World} {v:Value} {es:List α} {g:α->β} (h:aO E sz w v es) (hm:∀ (cs:List Value) (a:α),E w cs a->E' w cs (g a)):aO E' sz w v (es.map g):=by
 obtain⟨p,c,rfl,h1,h2,h3⟩:=h
 refine⟨p,c,by rw[List.length_map],by rw[List.length_map];exact h1,h2,λi a ha=> ?_⟩
 rw[List.getElem?_map] at ha
 obtain⟨x,hx,rfl⟩:=Option.map_eq_some_iff.1 ha
 obtain⟨b,off,cs,hp,hc,hE⟩:=h3 i x hx
 exact⟨b,off,cs,hp,hc,hm _ _ hE⟩
set_option maxRecDepth 4000
theorem zp (n:Int) (w:World) (h0: -9223372036854775808<=n) (h1:n<=9223372036854775807):Calls Tryz.prog 106 #[.int .i64 n] w λe w'=>∃ r,e=.returned r/\bh w' w.heap.size r (Rat.divInt n 100)/\ak w w':=by
 refine af (C:=aW Tryz.prog w _) (args:=[_]) Tryz.func106 rfl Tryz.ntmps106 (bP rfl) ?_
 refine ae ?_
 refine VO.cR rfl rfl (fk Tryz.func45) (λbo cj bD=>ek n 100 bo h0 h1 aa aa) (λbo cj bD w1 s1 p1 n1 c1 t1 y1 m1 d1 q1 aL dh _ bb1=>wV rfl ?_)
 refine ae ?_
 refine aX ?_;intro wz kz bz
 exact⟨_,rfl,(q1.k).mono bD.size,bz⟩
theorem oA (n:Int) (w:World) (h0: -9223372036854775808<=n) (h1:n<=9223372036854775807):Calls Tryz.prog 107 #[.int .i64 n] w λe w'=>∃ r,e=.returned r/\bh w' w.heap.size r (Rat.divInt n 10000)/\ak w w':=by
 refine af (C:=aW Tryz.prog w _) (args:=[_]) Tryz.func107 rfl Tryz.ntmps107 (bP rfl) ?_
 refine ae ?_
 refine VO.cR rfl rfl (fk Tryz.func45) (λbo cj bD=>ek n 10000 bo h0 h1 aa aa) (λbo cj bD w1 s1 p1 n1 c1 t1 y1 m1 d1 q1 aL dh _ bb1=>wV rfl ?_)
 refine ae ?_
 refine aX ?_;intro wz kz bz
 exact⟨_,rfl,(q1.k).mono bD.size,bz⟩
theorem BrE.mk' {kk:Nat} {w:World} {r u:Rw} {s0 t0:Bool} {p0 y0:Option Addr} {n0 c0 m0 d0:Nat} {s1 t1:Bool} {p1 y1:Option Addr} {n1 c1 m1 d1:Nat} (h:dk kk w [.bool s0,.slice p0 n0 c0,.bool t0,.slice y0 m0 d0] r) (h':dk kk w [.bool s1,.slice p1 n1 c1,.bool t1,.slice y1 m1 d1] u):BrE kk w [.bool s0,.slice p0 n0 c0,.bool t0,.slice y0 m0 d0,.bool s1,.slice p1 n1 c1,.bool t1,.slice y1 m1 d1] (r,u):=⟨_,_,_,_,_,_,_,_,_,_,_,_,_,_,_,_,rfl,h,h'⟩
def YrN (B:Nat) (w:World) (cs:List Value) (y:YrR):Prop:=∃ h b d s q,cs=[.int .i64 y.num,h,b,d,s,q]/\aC (HbE 2) 6 218 B w h y.holds/\aC (HbE 2) 6 103 B w b y.books/\aC (DlE 2) 10 222 B w d y.deals/\aC (SkE 2) 9 226 B w s y.stocks/\aC (SdE 2) 5 230 B w q y.solds
theorem YrN.six {B:Nat} {w:World} {cs:List Value} {y:YrR} (h:YrN B w cs y):∃ p1 n1 c1 p2 n2 c2 p3 n3 c3 p4 n4 c4 p5 n5 c5,cs=[.int .i64 y.num,.slice p1 n1 c1,.slice p2 n2 c2,.slice p3 n3 c3,.slice p4 n4 c4,.slice p5 n5 c5]:=by
 obtain⟨h,b,d,s,q,rfl,g1,g2,g3,g4,g5⟩:=h
 obtain⟨p1,c1,rfl⟩:=g1.form
 obtain⟨p2,c2,rfl⟩:=g2.form
 obtain⟨p3,c3,rfl⟩:=g3.form
 obtain⟨p4,c4,rfl⟩:=g4.form
 obtain⟨p5,c5,rfl⟩:=g5.form
 exact⟨_,_,_,_,_,_,_,_,_,_,_,_,_,_,_,rfl⟩
def CE (n:Nat) (_:World) (cs:List Value) (x:List Value):Prop:=cs=x/\x.length=n/\x.all aZ=true
theorem GJ (n:Nat):gp (CE n) n where
 kp:=λh _=>h
 len:=λh=>by rw[h.1];exact h.2.1
 ok:=λh=>by rw[h.1];exact h.2.2
theorem slin_ce {α:Type} {E:World->List Value->α->Prop} {n:Nat} {w:World} {v:Value} {vs:List (List Value)} {es:List α} (h:aO (CE n) n w v vs) (hl:vs.length=es.length) (hg:∀ (i:Nat) (u:List Value) (a:α),vs[i]? =some u->es[i]? =some a->E w u a):aO E n w v es:=by
 obtain⟨p,c,rfl,h1,h2,h3⟩:=h
 refine⟨p,c,by rw[hl],by rw[<-hl];exact h1,h2,λi a ha=> ?_⟩
 obtain⟨u,hu⟩:∃ u,vs[i]? =some u:=⟨_,List.getElem?_eq_getElem (by rw[hl];exact (List.getElem?_eq_some_iff.1 ha).1)⟩
 obtain⟨b,off,cs,hp,hc,hE⟩:=h3 i u hu
 obtain⟨rfl,-⟩:=hE
 exact⟨b,off,_,hp,hc,hg i _ a hu ha⟩
def FilN (B:Nat) (w:World) (v:Value) (f:FilR):Prop:=∃ pB nB cB sT pT nT cT tT yT mT dT sC pC nC cC tC yC mC dC sI pI nI cI tI yI mI dI sF pF nF cF tF yF mF dF pc Nc cc pe Ne ce py Ny cy,v=.agg #[.string f.name,.string f.parent,.slice pB nB cB,.bool sT,.slice pT nT cT,.bool tT,.slice yT mT dT,.bool sC,.slice pC nC cC,.bool tC,.slice yC mC dC,.int .i64 f.bk,.int .i64 f.fw,.bool sI,.slice pI nI cI,.bool tI,.slice yI mI dI,.bool sF,.slice pF nF cF,.bool tF,.slice yF mF dF,.int .i64 f.kp,.slice pc Nc cc,.slice pe Ne ce,.slice py Ny cy]/\aC (BrE 2) 8 127 B w (.slice pB nB cB) f.brs/\dk 2 w [.bool sT,.slice pT nT cT,.bool tT,.slice yT mT dT] f.thr/\dk 2 w [.bool sC,.slice pC nC cC,.bool tC,.slice yC mC dC] f.cap/\dk 2 w [.bool sI,.slice pI nI cI,.bool tI,.slice yI mI dI] f.itr/\dk 2 w [.bool sF,.slice pF nF cF,.bool tF,.slice yF mF dF] f.flo/\aC (KlE 2) 6 64 B w (.slice pc Nc cc) f.cls/\aC rC 1 9 B w (.slice pe Ne ce) f.gW/\∃ ycs,aC (CE 6) 6 99 B w (.slice py Ny cy) ycs/\ycs.length=f.AQ.length/\∀ (i:Nat) (cs:List Value) (y:YrR),ycs[i]? =some cs->f.AQ[i]? =some y->YrN B w cs y
abbrev TFil:TypeId->Bool:=λt=>(Nat.beq t 127 || (Nat.beq t 64 || (Nat.beq t 9 || (Nat.beq t 99 || (Nat.beq t 218 || (Nat.beq t 103 || (Nat.beq t 222 || (Nat.beq t 226 || Nat.beq t 230))))))))
set_option maxRecDepth 4000
def fA:FilR:={ name:=⟨#[83]⟩,parent:=⟨#[80]⟩,brs:=[((Rw.of (Rat.divInt 0 100)),(Rw.of (Rat.divInt 2500 10000)))],thr:=(Rw.of (Rat.divInt 7500 10000)),cap:=(Rw.of (Rat.divInt 5000 10000)),bk:=1,fw:=2,itr:=(Rw.of (Rat.divInt 3000 10000)),flo:=(Rw.of (Rat.divInt 0 100)),kp:=1,cls:=[],gW:=[⟨#[80]⟩],AQ:=[⟨2020,[],[],[],[],[]⟩] }
set_option maxRecDepth 8000 in
theorem Jc (w:World):Calls Tryz.prog 56 #[] w λo w'=>∃ r,o=.returned r/\FilN w.heap.size w' r fA/\ak w w':=by
 refine af (C:=aW Tryz.prog w _) (args:=[]) Tryz.func56 rfl Tryz.ntmps56 (bP rfl) ?_
 refine ae ?_
 refine VO.cR rfl rfl (fk Tryz.func106) (λbo cj bD=>zp 0 bo aa aa) (λbo cj bD w1 s1 p1 n1 c1 t1 y1 m1 d1 q1 aL dh _ bb1=>wV rfl ?_)
 refine ae ?_
 refine VO.cR rfl rfl (fk Tryz.func107) (λcA dG cV=>oA 2500 cA aa aa) (λcA dG cV w2 s2 p2 n2 c2 t2 y2 m2 d2 q2 aY eU _ bb2=>wV rfl ?_)
 refine ae ?_
 refine VO.cR rfl rfl (fk Tryz.func107) (λeD eW fN=>oA 7500 eD aa aa) (λeD eW fN w3 s3 p3 n3 c3 t3 y3 m3 d3 q3 cK iM _ bb3=>wV rfl ?_)
 refine ae ?_
 refine VO.cR rfl rfl (fk Tryz.func107) (λiP jA jX=>oA 5000 iP aa aa) (λiP jA jX w4 s4 p4 n4 c4 t4 y4 m4 d4 q4 gj nD _ Ah=>wV rfl ?_)
 refine ae ?_
 refine VO.cR rfl rfl (fk Tryz.func107) (λjj jk kD=>oA 3000 jj aa aa) (λjj jk kD w5 s5 p5 n5 c5 t5 y5 m5 d5 q5 iR mE _ xT=>wV rfl ?_)
 refine ae ?_
 refine VO.cR rfl rfl (fk Tryz.func106) (λpZ oZ zd=>zp 0 pZ aa aa) (λpZ oZ zd w6 s6 p6 n6 c6 t6 y6 m6 d6 q6 og uy _ Gw=>wV rfl ?_)
 refine ae ?_
 refine VS.pP (bO _ _) rfl (λwz β kz bz en=> ?_)
 exact⟨_,rfl,⟨_,_,_,_,_,_,_,_,_,_,_,_,_,_,_,_,_,_,_,_,_,_,_,_,_,_,_,_,_,_,_,_,_,_,_,_,_,_,_,_,_,_,_,_,rfl,
  qd (E:=BrE 2) (vs:=[[.bool s1,.slice p1 n1 c1,.bool t1,.slice y1 m1 d1,.bool s2,.slice p2 n2 c2,.bool t2,.slice y2 m2 d2]]) (spare:=[]) (en.own 4 _ _ rfl) (.cons (BrE.mk' (dk.of q1.kr (dD aa aa aa aa)) (dk.of q2.kr (dD aa aa aa aa))) .nil) rfl (Nat.le_refl _) bZ rfl (λ_ _ h=>h),
  (dk.of q3.kr (dD aa aa aa aa)),(dk.of q4.kr (dD aa aa aa aa)),(dk.of q5.kr (dD aa aa aa aa)),(dk.of q6.kr (dD aa aa aa aa)),aC.nil',
  qd (E:=rC) (vs:=[[.string ⟨#[80]⟩]]) (spare:=[]) (en.own 9 _ _ rfl) (.cons rfl .nil) rfl (Nat.le_refl _) bZ rfl (λ_ _ h=>h),
  [[.int .i64 2020,.slice none 0 0,.slice none 0 0,.slice none 0 0,.slice none 0 0,.slice none 0 0]],qd (E:=CE 6) (vs:=[[.int .i64 2020,.slice none 0 0,.slice none 0 0,.slice none 0 0,.slice none 0 0,.slice none 0 0]]) (spare:=[]) (en.own 11 _ _ rfl) (.cons ⟨rfl,rfl,rfl⟩ .nil) rfl (Nat.le_refl _) bZ rfl (λ_ _ h=>h),rfl,λi cs y hi hy=>by
    match i,hi,hy with
    | 0,hi,hy=>
      cases hi;cases hy
      exact⟨_,_,_,_,_,rfl,aC.nil',aC.nil',aC.nil',aC.nil',aC.nil'⟩
    | i+1,hi,_=>simp at hi⟩,bz⟩
section
variable {F F':Fr} {H H':Hp} {w w1:World} {N:Nat} {l':List Oper} {Q:Exit->Act->World->Prop} {k:List It} {id:Nat} {ops:Array Oper}
end
set_option maxRecDepth 4000
theorem rL {w:World} {b:Nat} {cs:List Value} (h:∀ (j:Nat) (u:Value),cs[j]? =some u->w.cell? ⟨b,j,none⟩=some u):∀ (j:Nat) (u:Value),cs[j]? =some u->w.cell? ((⟨b,0,none⟩:Addr).add j)=some u:=λj u hj=>by
 rw[Addr.add_mid,Nat.zero_add];exact h j u hj
def eu {α:Type} (E:World->List Value->α->Prop) (t1 t2:TypeId) (B:Nat) (w:World) (v:Value) (t:List (List α)):Prop:=∃ us,aC VE 1 t1 B w v us/\us.length=t.length/\(∀ (i:Nat) (u:Value) (r:List α),us[i]? =some u->t[i]? =some r->aC E 4 t2 B w u r)/\rD us
section
variable {α:Type} {E E':World->List Value->α->Prop} {t1 t2:TypeId} {B:Nat} {w w':World} {v:Value} {t:List (List α)}
theorem eu.kp {T:TypeId->Bool} (hE:gp E 4) (h:eu E t1 t2 B w v t) (k:jB T w w') (h1:T t1=true) (h2:T t2=true):eu E t1 t2 B w' v t:=by
 obtain⟨us,g1,g2,g3,g4⟩:=h
 exact⟨us,g1.kp bB k h1,g2,λi u r hi hr=>(g3 i u r hi hr).kp hE k h2,g4⟩
theorem eu.aB (hE:gp E 4) (h:eu E t1 t2 B w v t) (hb:ak w w'):eu E t1 t2 B w' v t:=h.kp hE (T:=λ_=>true) (aF.of hb) rfl rfl
theorem eu.imp (h:eu E t1 t2 B w v t) (hm:∀ (cs:List Value) (a:α),E w cs a->E' w cs a):eu E' t1 t2 B w v t:=by
 obtain⟨us,g1,g2,g3,g4⟩:=h
 exact⟨us,g1,g2,λi u r hi hr=>(g3 i u r hi hr).imp hm,g4⟩
theorem eu.mono {B':Nat} (h:eu E t1 t2 B w v t) (hB:B'<=B):eu E t1 t2 B' w v t:=by
 obtain⟨us,g1,g2,g3,g4⟩:=h
 exact⟨us,g1.mono hB,g2,λi u r hi hr=>(g3 i u r hi hr).mono hB,g4⟩
theorem eu.form (h:eu E t1 t2 B w v t):∃ p c,v=.slice p t.length c:=by
 obtain⟨us,g1,g2,_⟩:=h
 rw[<-g2];exact g1.form
theorem eu.nil:eu E t1 t2 B w (.slice none 0 0) ([]:List (List α)):=⟨[],.inl ⟨rfl,rfl⟩,rfl,λi u r hi=>(by simp at hi),λi j u v b hi=>(by simp at hi)⟩
end
def iL {α:Type} (E:World->List Value->α->Prop) (w:World) (cs:List Value) (r:List α):Prop:=∃ v,cs=[v]/\aO E 4 w v r
theorem rM {α:Type} {E:World->List Value->α->Prop} (hE:gp E 4):ElB (iL E):=λh hb=>by
 obtain⟨v,hv,h1⟩:=h
 exact⟨v,hv,h1.aB hE hb⟩
theorem eu.rows {α:Type} {E:World->List Value->α->Prop} {t1 t2:TypeId} {B:Nat} {w:World} {v:Value} {t:List (List α)} (hE:gp E 4) (h:eu E t1 t2 B w v t):aO (iL E) 1 w v t:=by
 obtain⟨us,g1,g2,g3,_⟩:=h
 exact uY (g1.sl bB) g2 (λi u r hi hr=>⟨u,rfl,(g3 i u r hi hr).sl hE⟩)
theorem eu.o {kk B:Nat} {w:World} {v:Value} {t:db} (h:eu (tV B kk) 105 27 B w v t):di kk B w v t:=h
set_option maxRecDepth 8000 in
theorem tY (v:Value) (t:db) (kk:Nat) (w:World) (hv:aO (cM kk) 1 w v t) (qn:1<=kk) (hk:kk<=1000) (hb:t.length<=100000) (aY:∀ r∈t,r.length<=100000):
  Calls Tryz.prog 77 #[.agg #[v]] w λo w'=>∃ r,o=.returned (.agg #[r])/\eu (tV w.heap.size kk) 105 27 w.heap.size w' r t/\ak w w':=by
 obtain⟨p,c,rfl⟩:=hv.sl
 obtain⟨R,hR⟩:∃ R,R=t.length:=⟨_,rfl⟩
 rw[<-hR] at hv hb
 rw[<-hR]
 refine af (C:=aW Tryz.prog w _) (args:=[_]) Tryz.func77 rfl Tryz.ntmps77 (bP rfl) ?_
 refine ae ?_
 refine VS.rA (J:=λm L W=>∃ (e g4 g:Nat) (rv:Value) (us:List Value),e<=R/\m=R-e/\L=[(10,.slice p R c),(11,.int .i64 (R:Int)),(2,.pointer (some ⟨g4,0,none⟩)),(3,.pointer (some ⟨g,0,none⟩)),(12,.int .i64 (e:Int))]/\ak w W/\w.heap.size<=g4/\w.heap.size<=g/\g4≠g/\aE W g4 52 #[.slice none 0 0]/\aE W g 52 #[rv]/\aC VE 1 105 w.heap.size W rv us/\us.length=e/\(∀ (i:Nat) (u:Value) (r:List Rat),us[i]? =some u->t[i]? =some r->aC (tV w.heap.size kk) 4 27 w.heap.size W u r)/\rD us)
  (λW=>aW Tryz.prog W 37) (λ_=>rfl) (λ_=>rfl) (λ_=>ak.refl _) R (λw' β k' o en=>⟨[(10,.slice p R c),(11,.int .i64 (R:Int)),(2,.pointer (some ⟨β 2,0,none⟩)),(3,.pointer (some ⟨β 3,0,none⟩)),(12,.int .i64 ((0:Nat):Int))],⟨⟨_,_,rfl,rfl,rfl⟩,⟨_,_,rfl,rfl,rfl⟩,⟨_,_,rfl,rfl,rfl⟩,⟨_,_,rfl,rfl,rfl⟩,⟨_,_,rfl,rfl,rfl⟩,trivial⟩,0,β 2,β 3,.slice none 0 0,[],by omega,rfl,rfl,o,(en.own 2 _ _ rfl).new,(en.own 3 _ _ rfl).new,(λh=>absurd (en.apart 2 3 (by intro h;cases h) (by intro h;cases h) h) bZ),(en.own 2 _ _ rfl).cls,(en.own 3 _ _ rfl).cls,.inl ⟨rfl,rfl⟩,rfl,λi u r hi=>(by simp at hi),λi j u v b hi=>(by simp at hi)⟩) ?_
 rintro m L W ⟨e,g4,g,rv,us,he,rfl,rfl,fT,fI,GG,gQ,jd,xk,Ay,zQ,lz,GH⟩
 have hvW:aO (cM kk) 1 W (.slice p R c) t:=hv.cP (bG kk) fT
 refine ae ?_
 by_cases JB:e<R
 ·refine VS.aR rfl (decide_eq_true (Int.ofNat_lt.2 JB)) ?_
  obtain⟨ru,mO⟩:∃ r,t[e]? =some r:=⟨_,List.getElem?_eq_getElem aa⟩
  obtain⟨br,ta,csr,rfl,xD,⟨xv,rfl,mL⟩⟩:=hvW.at mO
  obtain⟨pc,cc,rfl⟩:=mL.sl
  obtain⟨K,hK⟩:∃ K,K=ru.length:=⟨_,rfl⟩
  rw[<-hK] at mL xD
  have hKb:K<=100000:=by rw[hK];exact aY ru (List.mem_of_getElem? mO)
  refine ae ?_
  refine VO.cond rfl dc ?_
  refine wV rfl ?_
  refine ae ?_
  refine VO.read rfl [.slice pc K cc] rfl (ax xD) (wV rfl ?_)
  refine ae ?_
  refine VS.loop (J:=λm L M w'=>∃ (z:Nat) (X:AV) (Mi:List (Nat×(TypeId×List AV))),z<=K/\m=K-z/\L=[(10,.val (.slice (some ⟨br,ta,none⟩) R c)),(11,.val (.int .i64 (R:Int))),(2,.val (.pointer (some ⟨g4,0,none⟩))),(3,.val (.pointer (some ⟨g,0,none⟩))),(12,.val (.int .i64 (e:Int))),(16,.val (.slice pc K cc)),(17,.val (.int .i64 (K:Int))),(6,X),(18,.val (.int .i64 (z:Int)))]/\M=Mi/\fH (tV w.heap.size kk) 4 27 27 X Mi w' (ru.take z)) K ⟨_,_,?_,?_,?_,?_,⟨0,_,[],by omega,rfl,rfl,rfl,.inl ⟨rfl,rfl,rfl⟩⟩⟩ ?_
  ·exact ew
  ·exact ew
  ·rfl
  ·exact kH
  rintro m L Mi wI ⟨z,X,Mi2,hz,rfl,rfl,rfl,hI⟩
  refine VS.now (λwX kN bN=> ?_)
  replace hI:=hI.kp (bU w.heap.size kk) (aF.eH kN)
  refine VS.mask [8,24,26] (by rcases hI with ⟨_,rfl,rfl⟩|⟨_,_,_,_,rfl,rfl,_⟩ <;> (repeat first|exact trivial|refine⟨rfl,?_⟩)) ?_
  refine ae ?_
  by_cases Jz:z<K
  ·obtain⟨y,hy⟩:∃ y,ru[z]? =some y:=⟨_,List.getElem?_eq_getElem aa⟩
   obtain⟨bx,Mm,Jx,rfl,ku,⟨s0,p0,n0,c0,t0,y0,m0,d0,rfl,tp⟩⟩:=mL.at hy
   refine VS.aR rfl (decide_eq_true (Int.ofNat_lt.2 Jz)) ?_
   refine ae ?_
   refine VO.cond rfl dc ?_
   refine wV rfl ?_
   refine ae ?_
   refine VO.read rfl [.bool s0,.slice p0 n0 c0,.bool t0,.slice y0 m0 d0] rfl (er ku 0 _ ⟨[],rfl⟩) (wV rfl ?_)
   refine ae ?_
   refine VO.wq rfl (fk Tryz.func39) (λbo β cj bD ho=>(wR _ [y] kk bo (zh (ho.own 24 (.base (List.mem_singleton.2 rfl)) _ _ rfl) [] (vs:=[[.bool s0,.slice p0 n0 c0,.bool t0,.slice y0 m0 d0]]) (by rfl) rfl (iU.cons (tp.kp (Kp.of (U:=UU) bD)) iU.nil) (bP rfl) bZ) (by unfold fS jm;simp;omega)).mono ?_)
   rintro o w1 ⟨r1,rfl,q1,-,aL⟩
   rw[Dc] at q1
   obtain⟨s1,p1,n1,c1,t1,y1,m1,d1,rfl⟩:=q1.form
   refine bA aL ?_
   intro dh _ bb1
   have gr:tV w.heap.size kk w1 [.bool s1,.slice p1 n1 c1,.bool t1,.slice y1 m1 d1] y:=.mk (q1.mono (fT.aw bD).size) (tp.sz qn)
   rcases hI with ⟨kO,rfl,rfl⟩|⟨n',c',vs,sp,rfl,rfl,sW⟩
   ·refine VO.lh (bO _ _) (bU w.heap.size kk) (t:=105) (e:=27) (s:=26) (a:=y) (cs:=[.bool s1,.slice p1 n1 c1,.bool t1,.slice y1 m1 d1]) rfl rfl rfl rfl rfl rfl rfl rfl (bP rfl) rfl rfl rfl gr aa (λw9 cap sp k9 b9 iV=>wV rfl ?_)
    refine ae ?_
    refine VS.back (K-(z+1)) aa ⟨_,_,?_,?_,?_,?_,⟨z+1,_,_,by omega,rfl,rfl,rfl,.inr ⟨1,cap,_,sp,rfl,rfl,by rw[bJ hy,kO];exact iV⟩⟩⟩
    ·(refine⟨rfl,rfl,rfl,rfl,rfl,rfl,rfl,rfl,?_,trivial⟩;rw[<-aD (i:=z) aa];rfl)
    ·(repeat first|exact trivial|refine⟨rfl,?_⟩|refine⟨congrArg (λl=>some (_,l)) (cQ (by first|exact dE.de (by assumption)|exact ah _|(rw[<-List.map_append];exact ah _)) _ _),?_⟩)
    ·rfl
    ·(repeat first|exact trivial|refine⟨aA.lit rfl,?_⟩|refine⟨dE.DN (by assumption),?_⟩|refine⟨aA.append (.vals _) (.vals _),?_⟩|refine⟨aA.vals _,?_⟩)
   ·have rW:=sW.len
    refine VO.lj (bO _ _) (bU w.heap.size kk) (t:=105) (e:=27) (s:=26) (i:=27) (n:=n') (c:=c') (vs:=vs) (sp:=sp) (es:=ru.take z) (a:=y) (cs:=[.bool s1,.slice p1 n1 c1,.bool t1,.slice y1 m1 d1]) rfl rfl rfl rfl rfl rfl rfl rfl (bP rfl) rfl (.inr rfl) rfl (sW.kp (bU w.heap.size kk) eS) rfl gr (by rw[List.length_take] at rW;omega) (λw9 qi zj ρ k9 b9 fv iV=>wV rfl ?_)
    refine ae ?_
    refine VS.back (K-(z+1)) aa ⟨_,_,?_,?_,?_,?_,⟨z+1,_,_,by omega,rfl,rfl,rfl,.inr ⟨n' +1,qi,_,zj,rfl,rfl,by rw[bJ hy];exact iV⟩⟩⟩
    ·(refine⟨rfl,rfl,rfl,rfl,rfl,rfl,rfl,rfl,?_,trivial⟩;rw[<-aD (i:=z) aa];rfl)
    ·(repeat first|exact trivial|refine⟨rfl,?_⟩|refine⟨congrArg (λl=>some (_,l)) (cQ (by first|exact dE.de (by assumption)|exact ah _|(rw[<-List.map_append];exact ah _)) _ _),?_⟩)
    ·rfl
    ·(repeat first|exact trivial|refine⟨aA.lit rfl,?_⟩|refine⟨dE.DN (by assumption),?_⟩|refine⟨aA.append (.vals _) (.vals _),?_⟩|refine⟨aA.vals _,?_⟩)
  refine VS.aP rfl (decide_eq_false (λe=>Jz (Int.ofNat_lt.1 e))) ?_
  obtain rfl:K=z:=by omega
  rw[List.take_of_length_le aa] at hI
  subst zQ
  refine VS.ea zn (λt=>Nat.beq t 23) table (λ_ _ _=>trivial) (λdp mw k1 sY yj=> ?_)
  have aQ:ak W dp:=sY
  have cf:=hI.told (bU w.heap.size kk) yj (by intro q hq;rcases hI with ⟨_,rfl,rfl⟩|⟨_,_,_,_,rfl,rfl,_⟩ <;> first|(cases hq;done)|(cases List.mem_singleton.1 hq;rfl)) k1.eH W.heap.size (λh=>h)
  have jo:=xk.aB aQ
  have uZ:=fT.size
  have rF:=aQ.size
  rcases Ay with ⟨rfl,rfl⟩|⟨b0,cB,vc,vd,rfl,LZ,iK,rG,rH,Az,AA,AB⟩
  ·have lB:et zn 37 [g] [(52,[.val (.slice none 0 0)])] dp:=by
    refine⟨rfl,by simp,λj g' c' hj hc=> ?_,λc' hc=> ?_,λc' hc k hk=> ?_⟩
    ·match j,hj,hc with
     | 0,hj,hc=>cases hj;cases hc;exact jo
     | j+1,hj,_=>simp at hj
    ·cases List.mem_singleton.1 hc
     exact⟨rfl,rfl⟩
    ·cases List.mem_singleton.1 hc
     cases hk
   refine⟨[g],[(52,[.val (.slice none 0 0)])],lB,[(10,.val (.slice (some ⟨br,ta,none⟩) R c)),(11,.val (.int .i64 (R:Int))),(2,.val (.pointer (some ⟨g4,0,none⟩))),(3,.box 74 0),(12,.val (.int .i64 (([]:List Value).length:Int))),(6,.val (X.aI mw))],⟨⟨_,rfl,rfl,λi hi=>(by cases hi)⟩,⟨_,rfl,rfl,λi hi=>(by cases hi)⟩,⟨_,rfl,rfl,λi hi=>(by cases hi)⟩,⟨_,rfl,rfl,λi hi=>by rw[(by simpa [AV.ids] using hi:i=74)];exact⟨(by show 74<=74;omega),(by show 74<2*37+1;omega)⟩⟩,⟨_,rfl,rfl,λi hi=>(by cases hi)⟩,⟨_,rfl,rfl,λi hi=>(by cases hi)⟩,trivial⟩,?_⟩
   generalize X.aI mw=vv at cf ⊢
   obtain⟨jb,iW,rfl⟩:=cf.form
   refine nN ?_
   refine VO.lh (rE _ _) bB (t:=50) (e:=105) (s:=32) (a:=.slice jb ru.length iW) (cs:=[.slice jb ru.length iW]) rfl rfl rfl rfl rfl rfl rfl rfl (bP rfl) rfl rfl rfl ⟨rfl,_,_,_,rfl⟩ aa (λmH cap sp LX Jy iV=>wV rfl ?_)
   refine nN ?_
   refine VS.kc rfl (R-(([]:List Value).length+1)) aa (λw' bu k' o' oy=> ?_)
   have nA:aF zn dp w':=(show aF zn dp mH from eS).aw k'
   have rI:ak w w':=eK.aB (fT.aw aQ) o'.1 (λx hx=>by rw[List.mem_singleton.1 hx];omega)
   have hst:fH VE 1 105 33 (.row 33 0 1 cap) [(33,(105,_))] mH ([.slice jb ru.length iW]):=.inr ⟨_,cap,_,sp,rfl,rfl,iV⟩
   have ji:=hst.told bB oy (λx hx=>by cases List.mem_singleton.1 hx;rfl) k'.eH w.heap.size (λh=>(da (show fG 37 [g] dp 33 (bu 33) from h)).elim (λq=>Nat.le_trans uZ (Nat.le_trans rF q)) (λq=>by rw[List.mem_singleton.1 q];omega))
   have nS:=oy.own 74 _ _ rfl
   have fj:bu 74=g:=(qe nS 0 g rfl rfl).1
   refine⟨[(10,.slice (some ⟨br,ta,none⟩) R c),(11,.int .i64 (R:Int)),(2,.pointer (some ⟨g4,0,none⟩)),(3,.pointer (some ⟨bu 74,0,none⟩)),(12,.int .i64 ((([]:List Value).length+1:Nat):Int))],⟨⟨_,_,rfl,rfl,rfl⟩,⟨_,_,rfl,rfl,rfl⟩,⟨_,_,rfl,rfl,rfl⟩,⟨_,_,rfl,rfl,rfl⟩,⟨_,_,rfl,congrArg (λz=>Value.int .i64 z) (aD (i:=([]:List Value).length) aa),rfl⟩,trivial⟩,([]:List Value).length+1,g4,bu 74,.slice (some ⟨bu 33,0,none⟩) 1 cap,[Value.slice jb ru.length iW],by omega,rfl,rfl,rI,fI,by rw[fj];exact GG,by rw[fj];exact gQ,(jd.aB aQ).but o'.1 (by simp[gQ]),nS.cls,ji,by simp,?_,?_⟩
   ·exact iy (vs:=([]:List Value)) (l:=t) (P:=λu r=>aC (tV w.heap.size kk) 4 27 w.heap.size w' u r) (λi u r hi hr=>((lz i u r hi hr).aB (bU w.heap.size kk) aQ).kp (bU w.heap.size kk) nA rfl) mO ((cf.kp (bU w.heap.size kk) nA rfl).mono uZ)
   ·exact dY (us:=([]:List Value)) (λi j u v b hi=>(by simp at hi)) (λi v b hi hb=>by
     obtain⟨r,hr⟩:∃ r,t[i]? =some r:=⟨_,List.getElem?_eq_getElem (by have:=(List.getElem?_eq_some_iff.1 hi).1;simp at this)⟩
     exact ((lz i v r hi hr).du hb).2) (λb hb=>(cf.du hb).1)
  ·have rJ:=iK.aB aQ
   have Mf:g≠b0:=λh=>by rw[h] at jo;exact absurd (cZ jo rJ) bZ
   have AD:g4≠b0:=λh=>by rw[h] at jd;exact absurd (cZ jd iK) bZ
   have lB:et zn 37 [g,b0] [(52,[.row 75 0 us.length cB]),(105,vc.flatten.map .val++vd.map .val)] dp:=by
    refine⟨rfl,by simp[Mf],λj g' c' hj hc=> ?_,λc' hc=> ?_,λc' hc k hk=> ?_⟩
    ·match j,hj,hc with
     | 0,hj,hc=>cases hj;cases hc;exact jo
     | 1,hj,hc=>cases hj;cases hc;rw[<-List.map_append,aV];exact rJ
     | j+2,hj,_=>simp at hj
    ·rcases List.mem_cons.1 hc with rfl|hc
     ·exact⟨rfl,rfl⟩
     ·cases List.mem_singleton.1 hc
      exact⟨rfl,by rw[<-List.map_append];exact cE (by rw[List.all_append,(rG.ok bB).1,rH];rfl)⟩
    ·rcases List.mem_cons.1 hc with rfl|hc
     ·have:k=75:=by simpa [aH,AV.de] using hk
      subst this;exact⟨by omega,by show 75<2*37+2;omega⟩
     ·cases List.mem_singleton.1 hc
      rw[<-List.map_append,ah] at hk;cases hk
   have hNB:dE VE 1 dp us.length cB vc (vd.map .val) us:=⟨rfl,rG.kp bB (Kp.of (U:=UU) aQ),cE rH,ah _,Az,AA,by rw[<-List.map_append,List.length_map];exact AB⟩
   refine⟨[g,b0],[(52,[.row 75 0 us.length cB]),(105,vc.flatten.map .val++vd.map .val)],lB,[(10,.val (.slice (some ⟨br,ta,none⟩) R c)),(11,.val (.int .i64 (R:Int))),(2,.val (.pointer (some ⟨g4,0,none⟩))),(3,.box 74 0),(12,.val (.int .i64 (us.length:Int))),(6,.val (X.aI mw))],⟨⟨_,rfl,rfl,λi hi=>(by cases hi)⟩,⟨_,rfl,rfl,λi hi=>(by cases hi)⟩,⟨_,rfl,rfl,λi hi=>(by cases hi)⟩,⟨_,rfl,rfl,λi hi=>by rw[(by simpa [AV.ids] using hi:i=74)];exact⟨(by show 74<=74;omega),(by show 74<2*37+2;omega)⟩⟩,⟨_,rfl,rfl,λi hi=>(by cases hi)⟩,⟨_,rfl,rfl,λi hi=>(by cases hi)⟩,trivial⟩,?_⟩
   generalize X.aI mw=vv at cf ⊢
   obtain⟨jb,iW,rfl⟩:=cf.form
   refine nN ?_
   refine VO.lj (rE _ _) bB (t:=50) (e:=105) (s:=32) (i:=75) (n:=us.length) (c:=cB) (vs:=vc) (sp:=vd.map .val) (es:=us) (a:=.slice jb ru.length iW) (cs:=[.slice jb ru.length iW]) rfl rfl rfl rfl rfl rfl rfl rfl (bP rfl) rfl (.inl rfl) rfl (hNB.kp bB (aF.eH (show aF zn dp _ from eS))) rfl ⟨rfl,_,_,_,rfl⟩ aa (λmH cap sp ρ LX Jy fv iV=>wV rfl ?_)
   refine nN ?_
   refine VS.kc rfl (R-(us.length+1)) aa (λw' bu k' o' oy=> ?_)
   have nA:aF zn dp w':=(show aF zn dp mH from eS).aw k'
   have rI:ak w w':=eK.aB (fT.aw aQ) o'.1 (λx hx=>by
    rcases List.mem_cons.1 hx with rfl|hx
    ·omega
    ·rw[List.mem_singleton.1 hx];omega)
   have hst:fH VE 1 105 33 (.row 33 0 (us.length+1) cap) [(33,(105,_))] mH (us++[.slice jb ru.length iW]):=.inr ⟨_,cap,_,sp,rfl,rfl,iV⟩
   have ji:=hst.told bB oy (λx hx=>by cases List.mem_singleton.1 hx;rfl) k'.eH w.heap.size (λh=>(da (show fG 37 [g,b0] dp 33 (bu 33) from h)).elim (λq=>Nat.le_trans uZ (Nat.le_trans rF q)) (λq=>by
    rcases List.mem_cons.1 q with h|h
    ·rw[h];omega
    ·rw[List.mem_singleton.1 h];omega))
   have nS:=oy.own 74 _ _ rfl
   have fj:bu 74=g:=(qe nS 0 g rfl rfl).1
   refine⟨[(10,.slice (some ⟨br,ta,none⟩) R c),(11,.int .i64 (R:Int)),(2,.pointer (some ⟨g4,0,none⟩)),(3,.pointer (some ⟨bu 74,0,none⟩)),(12,.int .i64 ((us.length+1:Nat):Int))],⟨⟨_,_,rfl,rfl,rfl⟩,⟨_,_,rfl,rfl,rfl⟩,⟨_,_,rfl,rfl,rfl⟩,⟨_,_,rfl,rfl,rfl⟩,⟨_,_,rfl,congrArg (λz=>Value.int .i64 z) (aD (i:=us.length) aa),rfl⟩,trivial⟩,us.length+1,g4,bu 74,.slice (some ⟨bu 33,0,none⟩) (us.length+1) cap,us++[Value.slice jb ru.length iW],by omega,rfl,rfl,rI,fI,by rw[fj];exact GG,by rw[fj];exact gQ,(jd.aB aQ).but o'.1 (by simp[gQ,AD]),nS.cls,ji,by simp,?_,?_⟩
   ·exact iy (vs:=us) (l:=t) (P:=λu r=>aC (tV w.heap.size kk) 4 27 w.heap.size w' u r) (λi u r hi hr=>((lz i u r hi hr).aB (bU w.heap.size kk) aQ).kp (bU w.heap.size kk) nA rfl) mO ((cf.kp (bU w.heap.size kk) nA rfl).mono uZ)
   ·exact dY (us:=us) GH (λi v b hi hb=>by
     obtain⟨r,hr⟩:∃ r,t[i]? =some r:=⟨_,List.getElem?_eq_getElem (by have:=(List.getElem?_eq_some_iff.1 hi).1;omega)⟩
     exact ((lz i v r hi hr).du hb).2) (λb hb=>(cf.du hb).1)
 refine VS.aP rfl (decide_eq_false (λh=>JB (Int.ofNat_lt.1 h))) ?_
 obtain rfl:R=e:=by omega
 (repeat (first|refine wN ?_|refine wP rfl ?_|refine wO rfl rfl ?_))
 obtain⟨pv,cv,rfl⟩:=Ay.form
 refine VS.ea tW (λt=>Nat.beq t 23) table (λ_ _ _=>trivial) (λdp mw k1 sY yj=> ?_)
 have aQ:ak W dp:=sY
 have lB:et tW 37 [g4] [(52,[.val (.slice none 0 0)])] dp:=by
  refine⟨rfl,by simp,λj g' c' hj hc=> ?_,λc' hc=> ?_,λc' hc k hk=> ?_⟩
  ·match j,hj,hc with
   | 0,hj,hc=>cases hj;cases hc;exact jd.aB aQ
   | j+1,hj,_=>simp at hj
  ·cases List.mem_singleton.1 hc
   exact⟨rfl,rfl⟩
  ·cases List.mem_singleton.1 hc
   cases hk
 refine⟨[g4],[(52,[.val (.slice none 0 0)])],lB,[(2,.box 74 0),(3,.val (.pointer (some ⟨g,0,none⟩)))],⟨⟨_,rfl,rfl,λi hi=>by rw[(by simpa [AV.ids] using hi:i=74)];exact⟨(by show 74<=74;omega),(by show 74<2*37+1;omega)⟩⟩,⟨_,rfl,rfl,λi hi=>(by cases hi)⟩,trivial⟩,?_⟩
 refine ck ?_
 refine VO.eJ rfl [.slice pv us.length cv] rfl (at_one (ik (λh=>gQ h.symm) ((xk.aB aQ).cell (j:=0) rfl))) (wV rfl ?_)
 refine ck ?_
 refine VS.pP (gP _ _) rfl (λwz β kz bz en=> ?_)
 have rI:ak w wz:=eK.aB (fT.aw aQ) bz.1 (λx hx=>by rw[List.mem_singleton.1 hx];exact fI)
 have hT:eu (tV w.heap.size kk) 105 27 w.heap.size W (.slice pv us.length cv) t:=⟨us,Ay,by omega,lz,GH⟩
 exact⟨_,rfl,hT.kp (bU w.heap.size kk) (T:=λt=> !Nat.beq t 52) ((aF.of aQ).aw (eK.kp bz.1 (λx hx=>⟨52,[.slice none 0 0],by rw[List.mem_singleton.1 hx];exact jd.aB aQ,rfl,rfl⟩))) rfl rfl,rI⟩
def ia (t:db) (e c:Int) (x:Rat):db:=if mh t e c=true then qh t e.toNat c.toNat x else t
def rN (t:db) (e c:Int):Rat:=if mh t e c=true then (t.getD e.toNat []).getD c.toNat 0 else 0
theorem GK {t:db} {E K:Nat} {xs:List Rat} {y:Rat} (hx:t[E]? =some xs) (hy:xs[K]? =some y):rN t (E:Int) (K:Int)=y:=by
 have h1:=(List.getElem?_eq_some_iff.1 hx).1
 have h2:=(List.getElem?_eq_some_iff.1 hy).1
 have hh:mh t (E:Int) (K:Int)=true:=by
  unfold mh
  rw[Int.toNat_natCast,List.getD_eq_getElem?_getD,hx]
  exact decide_eq_true ⟨by omega,by omega,by omega,by simpa using h2⟩
 unfold rN
 rw[if_pos hh,Int.toNat_natCast,Int.toNat_natCast]
 simp[List.getD_eq_getElem?_getD,hx,hy]
set_option maxRecDepth 4000 in
theorem oD (v:Value) (t:db) (e c:Int) (kk:Nat) (w:World) (hv:aO (cM kk) 1 w v t) (hk:kk<=1000):
  Calls Tryz.prog 30 #[.agg #[v],.int .i64 e,.int .i64 c] w λo w'=>∃ r,o=.returned r/\bh w' w.heap.size r (rN t e c)/\ak w w':=by
 cases hh:mh t e c with
 | true=>
   obtain⟨E,K,xs,y,rfl,rfl,hx,hy⟩:=lC hh
   rw[GK hx hy]
   exact at_any v t xs y E K kk w hv hx hy hk
 | false=>
   have hz:rN t e c=0:=by unfold rN;rw[hh];rfl
   rw[hz]
   obtain⟨p,cp,rfl⟩:=hv.sl
   refine af (C:=aW Tryz.prog w _) (args:=[_,_,_]) Tryz.func30 rfl Tryz.ntmps30 (bP rfl) ?_
   refine ae ?_
   refine VO.call rfl rfl (fk Tryz.func63) (λbo cj bD=>(xf _ t e c kk bo (hv.cP (bG kk) bD)).mono ?_)
   rintro o w1 ⟨rfl,aL⟩
   rw[hh]
   refine bA aL ?_
   intro dh _ bb1
   refine VO.cR rfl rfl (fk Tryz.func37) (λcA dG cV=>me 0 cA aa aa) (λcA dG cV w2 s2 p2 n2 c2 t2 y2 m2 d2 q2 aY eU _ bb2=>wV rfl ?_)
   refine ae ?_
   refine aX ?_;intro wz kz bz
   exact⟨_,rfl,(q2.kp kz).mono cV.size,bz⟩
theorem Jd {t:db} {e c:Int} {x:Rat} (h:mh t e c=false):ia t e c x=t:=by unfold ia;rw[h];rfl
abbrev KQA:KC:=⟨UU,λ_=>True,λt=>TQ t⟩
abbrev Mn (P:Program) (w:World) (N:Nat) (ad:List Nat) (hd:ad.Nodup) (ha:gm KQA ad w):Cx:=pQ P w N KQA (λt=>Nat.beq t 23) table (λ_ _=>trivial) ad hd ha
theorem GL (w:World) (N:Nat) {ad:List Nat} {hd:ad.Nodup} {ha:gm KQA ad w}:(Mn Tryz.prog w N ad hd ha).Ok:=dA
section
variable {F F':Fr} {H H':Hp} {w w1:World} {N:Nat} {l':List Oper} {Q:Exit->Act->World->Prop} {k:List It} {id:Nat} {ops:Array Oper}
theorem cxQA_r {ad:List Nat} {hd:ad.Nodup} {ha:gm KQA ad w1} (e:gl (Mn Tryz.prog w1 N ad hd ha) ops 80 ops.toList F H=(l',F',H')) (h:ar (Mn Tryz.prog w1 N ad hd ha) none ops l' (VS (Mn Tryz.prog w1 N ad hd ha) Q k) F' H' w):VS (Mn Tryz.prog w1 N ad hd ha) Q (.code (.region id ops false)::k) F H w:=VS.region (GL _ _) (VO.run 80 e h)
end
theorem Mo {P Q:Prop} (h:Q) (i:Q->P:=by intro h;(repeat first|refine wN ?_|refine wP rfl ?_|refine cxQA_r rfl ?_|refine cxQA_d rfl ?_|refine wO rfl rfl ?_);exact h):P:=i h
theorem Mp {P Q X:Prop} (hb:X) (h:Q) (i:X->Q->P:=by intro hb h;refine⟨_,rfl,hb,λa b c=>wV rfl ?_⟩;refine Mo ?_;revert a b c;exact h):P:=i hb h
set_option maxRecDepth 4000 in
theorem zt (v u:Value) (t:db) (e c:Int) (x:Rat) (kk k:Nat) (w:World) (hv:aO (cM kk) 1 w v t) (hu:bE w u x k) (qn:1<=kk) (Gu:1<=k) (hk:kk<=1000) (hk3:k<=1000) (hb:t.length<=100000) (aY:∀ r∈t,r.length<=100000):
  Calls Tryz.prog 28 #[.agg #[v],.int .i64 e,.int .i64 c,u] w λo w'=>∃ r,o=.returned (.agg #[r])/\di (kk+k+1) w.heap.size w' r (ia t e c x)/\ak w w':=by
 obtain⟨p,cp,rfl⟩:=hv.sl
 obtain⟨s0,p0,n0,c0,t0,y0,m0,d0,rfl⟩:=hu.form
 refine af (C:=aW Tryz.prog w _) (args:=[_,_,_,_]) Tryz.func28 rfl Tryz.ntmps28 (bP rfl) ?_
 (repeat (first|refine wN ?_|refine wP rfl ?_|refine wO rfl rfl ?_))
 refine cx_r rfl ?_
 (repeat (first|refine wN ?_|refine wP rfl ?_|refine wO rfl rfl ?_))
 refine VS.ea KQA (λt=>Nat.beq t 23) table (λ_ _ _=>trivial) (λw0' Mq k0 b0' Mr=> ?_)
 have hb0':ak w w0':=b0'
 have h4:=(Mr.own 4 _ _ rfl).cls
 have h7:=(Mr.own 7 _ _ rfl).cls
 have h8:=(Mr.own 8 _ _ rfl).cls
 have hn4:=(Mr.own 4 _ _ rfl).new
 have hn8:=(Mr.own 8 _ _ rfl).new
 have h48:Mq 4≠Mq 8:=λh=>absurd (Mr.apart 4 8 (by intro h;cases h) (by intro h;cases h) h) bZ
 have h47:Mq 4≠Mq 7:=λh=>absurd (Mr.apart 4 7 (by intro h;cases h) (by intro h;cases h) h) bZ
 have h78:Mq 7≠Mq 8:=λh=>absurd (Mr.apart 7 8 (by intro h;cases h) (by intro h;cases h) h) bZ
 obtain⟨g4,e4⟩:∃ g,g=Mq 4:=⟨_,rfl⟩
 obtain⟨g7,e7⟩:∃ g,g=Mq 7:=⟨_,rfl⟩
 obtain⟨g8,e8⟩:∃ g,g=Mq 8:=⟨_,rfl⟩
 rw[<-e4] at h4 hn4 h48 h47
 rw[<-e7] at h7 h47 h78
 rw[<-e8] at h8 hn8 h48 h78
 have lB:et KQA 23 [g4,g8] [(52,[.val (.slice p t.length cp)]),(52,[.val (.slice none 0 0)])] w0':=by
  refine⟨rfl,by simp[h48],λj g' c' hj hc=> ?_,λc' hc=> ?_,λc' hc k hk=> ?_⟩
  ·match j,hj,hc with
   | 0,hj,hc=>cases hj;cases hc;exact h4
   | 1,hj,hc=>cases hj;cases hc;exact h8
   | j+2,hj,_=>simp at hj
  ·rcases List.mem_cons.1 hc with rfl|hc
   ·exact⟨rfl,rfl⟩
   ·cases List.mem_singleton.1 hc
    exact⟨rfl,rfl⟩
  ·rcases List.mem_cons.1 hc with rfl|hc
   ·cases hk
   ·cases List.mem_singleton.1 hc
    cases hk
 refine⟨[g4,g8],[(52,[.val (.slice p t.length cp)]),(52,[.val (.slice none 0 0)])],lB,[(1,.val (.int .i64 e)),(2,.val (.int .i64 c)),(4,.box 46 0),(7,.val (.pointer (some ⟨g7,0,none⟩))),(8,.box 47 0)],⟨⟨_,rfl,rfl,λi hi=>(by cases hi)⟩,⟨_,rfl,rfl,λi hi=>(by cases hi)⟩,⟨_,rfl,congrArg (λb=>Value.pointer (some ⟨b,0,none⟩)) e4,λi hi=>by rw[(by simpa [AV.ids] using hi:i=46)];exact⟨(by show 46<=46;omega),(by show 46<2*23+2;omega)⟩⟩,⟨_,rfl,congrArg (λb=>Value.pointer (some ⟨b,0,none⟩)) e7,λi hi=>(by cases hi)⟩,⟨_,rfl,congrArg (λb=>Value.pointer (some ⟨b,0,none⟩)) e8,λi hi=>by rw[(by simpa [AV.ids] using hi:i=47)];exact⟨(by show 46<=47;omega),(by show 47<2*23+2;omega)⟩⟩,trivial⟩,?_⟩
 have hm:∀ q∈[g4,g8],w.heap.size<=q:=λq hq=>by
  rcases List.mem_cons.1 hq with rfl|hq
  ·exact hn4
  ·rw[List.mem_singleton.1 hq];exact hn8
 have xo:∀ (w1:World),eK [g4,g8] w0' w1->ak w w1:=λw1 h=>eK.aB hb0' h hm
 refine Mo ?_
 refine VO.call rfl rfl (fk Tryz.func77) (λbo cj bD=>(tY _ t kk bo (hv.cP (bG kk) (xo _ bD.1)) qn hk hb aY).mono ?_)
 rintro o w1 ⟨r1,rfl,q1,aL⟩
 obtain⟨p1,c1,rfl⟩:=q1.form
 refine Mp aL ?_
 intro dh _ bb1
 refine VO.call rfl rfl (fk Tryz.func63) (λcA dG cV=>(xf _ t e c kk cA ((q1.o.kp (show jB TQ w1 cA from eS) rfl rfl).Mc)).mono ?_)
 rintro o w2 ⟨rfl,aY⟩
 cases hh:mh t e c with
 | false=>
   refine Mp aY ?_
   intro eU _ bb2
   refine VS.ret (GL _ _) rfl rfl (λwz kz bz=> ?_)
   rw[Jd hh]
   exact⟨_,rfl,((q1.o.kp (show jB TQ w1 wz from eS) rfl rfl).up aa).mono (xo _ bD.1).size,xo _ bz.1⟩
 | true=>
   obtain⟨E,K,xs,y,rfl,rfl,hx,hy⟩:=lC hh
   refine⟨_,rfl,aY,λeU _ bb2=>wV rfl ?_⟩
   (repeat (first|refine wN ?_|refine wP rfl ?_|refine wO rfl rfl ?_))
   refine VS.nL (λw=>yk Tryz.prog w 23) (λ_=>rfl) (λ_=>rfl) (λ_=>ak.refl _) (λw9 β k9 b9 en=> ?_)
   have iX:ak w w9:=xo _ b9.1
   have hT9:=((q1.o.kp (show jB TQ w1 w9 from eS) rfl rfl).up (show kk<=kk+k+1 by omega)).mono (xo _ bD.1).size
   have hu9:=hu.kp (Kp.of (U:=UU) iX)
   have o46:=qe (en.own 46 _ _ rfl) 0 g4 rfl rfl
   have o47:=qe (en.own 47 _ _ rfl) 1 g8 rfl rfl
   have h4:aE w9 g4 52 #[.slice p1 t.length c1]:=o46.2
   have h8:aE w9 g8 52 #[.slice none 0 0]:=o47.2
   have h7:=h7.but b9.1 (by simp[h47.symm,h78])
   have h9:=(en.own 9 _ _ rfl).cls
   refine⟨[(4,.val (.pointer (some ⟨g4,0,none⟩))),(7,.val (.pointer (some ⟨g7,0,none⟩))),(8,.val (.pointer (some ⟨g8,0,none⟩))),(9,.val (.pointer (some ⟨β 9,0,none⟩)))],⟨⟨_,_,rfl,congrArg (λb=>Value.pointer (some ⟨b,0,none⟩)) o46.1,rfl⟩,⟨_,_,rfl,rfl,rfl⟩,⟨_,_,rfl,congrArg (λb=>Value.pointer (some ⟨b,0,none⟩)) o47.1,rfl⟩,⟨_,_,rfl,rfl,rfl⟩,trivial⟩,?_⟩
   generalize β 9=g9 at h9 ⊢
   have h9:aE w9 g9 _ #[.int .i64 (E:Int),.int .i64 (K:Int)]:=h9
   have h7:aE w9 g7 _ #[.bool s0,.slice p0 n0 c0,.bool t0,.slice y0 m0 d0]:=h7
   have LL:gn y kk:=by
    obtain⟨b,off,cs,_,_,⟨xv,rfl,mL⟩⟩:=(show aO (cM kk) 1 w (.slice p t.length cp) t from hv).at hx
    obtain⟨p3,c3,rfl⟩:=mL.sl
    obtain⟨b2,rj,cs2,_,_,⟨_,_,_,_,_,_,_,_,rfl,hr⟩⟩:=mL.at hy
    exact hr.sz qn
   refine VS.ry (kE _ _) 3 rfl rfl rfl (VO.run 80 rfl ?_)
   refine VO.read rfl [.slice p1 t.length c1] rfl (bQ (h4.cell (j:=0) rfl)) (VO.run 80 rfl ?_)
   refine VO.read rfl [.int .i64 (E:Int),.int .i64 (K:Int)] rfl (rL (λj u hj=>h9.cell (by simpa using hj))) (VO.run 80 rfl ?_)
   refine VO.read rfl [.bool s0,.slice p0 n0 c0,.bool t0,.slice y0 m0 d0] rfl (rL (λj u hj=>h7.cell (by simpa using hj))) (VO.run 80 rfl ?_)
   refine VO.nil ⟨_,_,_,λw=>yk Tryz.prog w 23,rfl,rfl,fk Tryz.func64,λ_=>rfl,λ_=>rfl,λ_=>ak.refl _,λw6 k6 b6=> ?_⟩
   have b6':ak w9 w6:=b6
   refine (Dk _ _ t xs y x E K w.heap.size (kk+k+1) k w6 (hT9.aB b6') (hu9.kp (Kp.of (U:=UU) b6')) hx hy aa aa (LL.add (hu.sz Gu))).mono ?_
   rintro o w7 ⟨rfl,hT7,hkx,hold⟩
   refine⟨_,[(4,.pointer (some ⟨g4,0,none⟩)),(8,.pointer (some ⟨g8,0,none⟩))],rfl,⟨rfl,rfl,trivial⟩,(λp hp e=>by
    simp only[List.mem_cons,List.not_mem_nil,or_false] at hp
    rcases hp with rfl|rfl <;> cases e),?_⟩
   have kx:jB TX w9 w7:=(aF.of b6').aw hkx
   have h4':aE w7 g4 52 #[.slice p1 t.length c1]:=kx.block _ g4 _ rfl trivial h4
   have h8':aE w7 g8 52 #[.slice none 0 0]:=kx.block _ g8 _ rfl trivial h8
   (repeat (first|refine wN ?_|refine wP rfl ?_|refine wO rfl rfl ?_))
   refine VS.ea tW (λt=>Nat.beq t 23) table (λ_ _ _=>trivial) (λdp mw k1 sY yj=> ?_)
   have aQ:ak w7 dp:=sY
   have lB:et tW 23 [g8] [(52,[.val (.slice none 0 0)])] dp:=by
    refine⟨rfl,by simp,λj g' c' hj hc=> ?_,λc' hc=> ?_,λc' hc k hk=> ?_⟩
    ·match j,hj,hc with
     | 0,hj,hc=>cases hj;cases hc;exact h8'.aB aQ
     | j+1,hj,_=>simp at hj
    ·cases List.mem_singleton.1 hc
     exact⟨rfl,rfl⟩
    ·cases List.mem_singleton.1 hc
     cases hk
   refine⟨[g8],[(52,[.val (.slice none 0 0)])],lB,[(8,.box 46 0),(4,.val (.pointer (some ⟨g4,0,none⟩)))],⟨⟨_,rfl,rfl,λi hi=>by rw[(by simpa [AV.ids] using hi:i=46)];exact⟨(by show 46<=46;omega),(by show 46<2*23+1;omega)⟩⟩,⟨_,rfl,rfl,λi hi=>(by cases hi)⟩,trivial⟩,?_⟩
   refine ck ?_
   refine VO.eJ rfl [.slice p1 t.length c1] rfl (at_one (ik h48 ((h4'.aB aQ).cell (j:=0) rfl))) (wV rfl ?_)
   refine ck ?_
   refine VS.pP (gP _ _) rfl (λwz β kz bz en=> ?_)
   have hBz:ak w wz:=eK.aB ((hold w (iX.aw b6') (Nat.le_refl _)).aw aQ) bz.1 (λx hx=>by rw[List.mem_singleton.1 hx];exact hn8)
   have hwt:ia t (E:Int) (K:Int) x=qh t E K x:=by unfold ia;rw[if_pos hh,Int.toNat_natCast,Int.toNat_natCast]
   rw[hwt]
   exact⟨_,rfl,hT7.kp (T:=λt=> !Nat.beq t 52) ((aF.of aQ).aw (eK.kp bz.1 (λx hx=>⟨52,[.slice none 0 0],by rw[List.mem_singleton.1 hx];exact h8'.aB aQ,rfl,rfl⟩))) rfl rfl,hBz⟩
set_option maxRecDepth 4000
theorem Ms {ss l:List ByteArray} (h1:l.Perm ss) (h2:l.Pairwise λx y=>x.data.toList<=y.data.toList):fi ss=l:=by
 have key:l.map (·.data.toList)=(ss.map (·.data.toList)).mergeSort λx y=>decide (x<=y):=by
  refine List.Perm.eq_of_pairwise (le:=λx y:List UInt8=>x<=y) (λa b _ _ h h'=>List.le_antisymm h h') (List.pairwise_map.2 h2) ?_ ((h1.map _).trans (List.mergeSort_perm _ _).symm)
  refine (List.pairwise_mergeSort (le:=λx y:List UInt8=>decide (x<=y)) (λa b c h h'=>decide_eq_true (List.le_trans (of_decide_eq_true h) (of_decide_eq_true h'))) (λa b=> ?_) _).imp (λh=>of_decide_eq_true h)
  rcases List.le_total a b with h|h
  ·simp[h]
  ·simp[h]
 unfold fi
 rw[<-key,List.map_map]
 exact (List.map_congr_left λx _=>by simp).trans (List.map_id l)
def wks:List oL:=[(⟨#[115,97,108,101,115]⟩,1,Rat.divInt 0 1),(⟨#[99,111,115,116]⟩,2,Rat.divInt 0 1)]
def wbk:List IX:=[(⟨#[80]⟩,⟨#[115,97,108,101,115]⟩,Rat.divInt 5 1),(⟨#[80]⟩,⟨#[115,97,108,101,115]⟩,Rat.divInt 7 1),(⟨#[65]⟩,⟨#[99,111,115,116]⟩,Rat.divInt 3 1)]
def jq:db:=[[0,3],[12,0]]
theorem wtot:xm [⟨#[80]⟩,⟨#[65]⟩] wks [wbk] 0=some jq:=by
 unfold xm
 rw[if_neg bZ,Ms (l:=[⟨#[65]⟩,⟨#[80]⟩]) (List.Perm.swap _ _ _) (by decide+kernel)]
 show sZ _ wks wbk=some jq
 decide+kernel
theorem kQw {w0 w w':World} {N:Nat} (h:aF (yk Tryz.prog w0 N).K w w':=by exact eS):Kp UU w w':=h.eH
theorem at_ads {P:Program} {w:World} {N:Nat} {K:KC} {SU:TypeId->Bool} {ti:TypeId->Option TI} {keep:∀ b,b<w.heap.size->K.S b} {g:Nat} {ha:gm K [g] w} {b off:Nat} {cs:List Value} (hb:b≠g) (h:∀ (j:Nat) (u:Value),cs[j]? =some u->w.cell? ⟨b,off+j,none⟩=some u):∀ (j:Nat) (u:Value),cs[j]? =some u->Cx.At (pQ P w N K SU ti keep [g] (fX g) ha) ((⟨b,off,none⟩:Addr).add j) u:=λj u hj=>by
 rw[Addr.add_mid]
 exact ik hb (h j u hj)
abbrev Je (P:Program) (w:World) (N:Nat):Cx:={ P:=P,w0:=w,N:=N,K:=⟨UU,λ_=>True,λt=>TFil t⟩,SU:=λt=>Nat.beq t 23,ti:=table,keep:=λ_ _=>trivial }
theorem cxFw_ok (w:World) (N:Nat):(Je Tryz.prog w N).Ok:=dA
section
variable {F F':Fr} {H H':Hp} {w w1:World} {N:Nat} {l':List Oper} {Q:Exit->Act->World->Prop} {k:List It} {id:Nat} {ops:Array Oper}
theorem Mt (e:gl (Je Tryz.prog w1 N) ops 80 ops.toList F H=(l',F',H')) (h:ar (Je Tryz.prog w1 N) none ops l' (VS (Je Tryz.prog w1 N) Q k) F' H' w):VS (Je Tryz.prog w1 N) Q (.code (.region id ops false)::k) F H w:=VS.region (cxFw_ok _ _) (VO.run 80 e h)
end
set_option maxRecDepth 8000 in
theorem ke (w:World):Calls Tryz.prog 10 #[] w λo w'=>o=.returned (.bool true)/\ak w w':=by
 refine af (C:=Je Tryz.prog w _) (args:=[]) Tryz.func10 rfl Tryz.ntmps10 (bP rfl) ?_
 (repeat (first|refine wN ?_|refine wP rfl ?_|refine wO rfl rfl ?_))
 refine Mt rfl ?_
 (repeat (first|refine wN ?_|refine wP rfl ?_|refine wO rfl rfl ?_))
 refine Mt rfl ?_
 refine VO.call rfl rfl (fk Tryz.func56) (λbo cj bD=>(Jc bo).mono ?_)
 rintro o w1 ⟨_,rfl,⟨pB,nB,cB,sT,pT,nT,cT,tT,yT,mT,dT,sC,pC,nC,cC,tC,yC,mC,dC,sI,pI,nI,cI,tI,yI,mI,dI,sF,pF,nF,cF,tF,yF,mF,dF,pc,Nc,cc,pe,Ne,ce,py,Ny,cy,rfl,hS1,hS2,hS3,hS4,hS5,hS6,hS7,ycs,hS8,hS9,hS10⟩,aL⟩
 refine⟨_,rfl,aL,λdh _ bb1=>wV rfl ?_⟩
 (repeat (first|refine wN ?_|refine wP rfl ?_|refine wO rfl rfl ?_))
 refine VS.ea tW (λt=>Nat.beq t 23) table (λ_ _ _=>trivial) (λw0' Mq k0 b0' Mr=> ?_)
 have hb0':ak w w0':=b0'
 have k0':jB (λt=>TFil t) w1 w0':=by exact eS
 obtain⟨cy,rfl⟩:∃ cy,ycs=[cy]:=List.length_eq_one_iff.1 hS9
 obtain⟨pz1,nz1,cz1,pz2,nz2,cz2,pz3,nz3,cz3,pz4,nz4,cz4,pz5,nz5,cz5,rfl⟩:=(hS10 0 cy _ rfl rfl).six
 have hyr:=(hS8.kp (GJ 6) k0' rfl).sl (GJ 6)
 obtain⟨bY,oY,csY,rfl,hcY,⟨rfl,-,-⟩⟩:=hyr.at (i:=0) rfl
 have h1:=(Mr.own 1 _ _ rfl).cls
 have JU:=(Mr.own 1 _ _ rfl).new
 obtain⟨g1,e1⟩:∃ g,g=Mq 1:=⟨_,rfl⟩
 rw[<-e1] at h1 JU
 obtain⟨_,_,hNy,-,-⟩:=hyr.form
 obtain rfl:Ny=1:=by injection hNy
 have aL:bY≠g1:=λh=>by
  obtain⟨b,c,vs,sp,hp,_,gU,_⟩:=(hS8.kp (GJ 6) k0' rfl).resolve_left (λh=>by cases h.2)
  cases hp
  rw[h] at gU
  exact absurd (cZ gU h1) bZ
 have lB:et tW 103 [g1] [(32,[.val (.string fA.name),.val (.string fA.parent),.val (.slice pB nB cB),.val (.bool sT),.val (.slice pT nT cT),.val (.bool tT),.val (.slice yT mT dT),.val (.bool sC),.val (.slice pC nC cC),.val (.bool tC),.val (.slice yC mC dC),.val (.int .i64 fA.bk),.val (.int .i64 fA.fw),.val (.bool sI),.val (.slice pI nI cI),.val (.bool tI),.val (.slice yI mI dI),.val (.bool sF),.val (.slice pF nF cF),.val (.bool tF),.val (.slice yF mF dF),.val (.int .i64 fA.kp),.val (.slice pc Nc cc),.val (.slice pe Ne ce),.val (.slice (some ⟨bY,oY,none⟩) 1 cy)])] w0':=by
  refine⟨rfl,by simp,λj g' c' hj hc=> ?_,λc' hc=> ?_,λc' hc k hk=> ?_⟩
  ·match j,hj,hc with
   | 0,hj,hc=>cases hj;cases hc;exact h1
   | j+1,hj,_=>simp at hj
  ·cases List.mem_singleton.1 hc
   exact⟨rfl,rfl⟩
  ·cases List.mem_singleton.1 hc
   cases hk
 refine⟨[g1],_,lB,[(0,.val (.bool false)),(1,.box 206 0)],⟨⟨_,rfl,rfl,λi hi=>(by cases hi)⟩,⟨_,rfl,congrArg (λb=>Value.pointer (some ⟨b,0,none⟩)) e1,λi hi=>by rw[(by simpa [AV.ids] using hi:i=206)];exact⟨(by show 206<=206;omega),(by show 206<2*103+1;omega)⟩⟩,trivial⟩,?_⟩
 have xo:∀ (w1:World),eK [g1] w0' w1->ak w w1:=λw1 h=>eK.aB hb0' h (λq hq=>by rw[List.mem_singleton.1 hq];exact JU)
 refine ck ?_
 refine VO.cR rfl rfl (fk Tryz.func45) (λcA dG cV=>ek 0 1 cA aa aa aa aa) (λcA dG cV w2 s2 p2 n2 c2 t2 y2 m2 d2 q2 aY eU _ bb2=>wV rfl ?_)
 refine ck ?_
 refine VO.cR rfl rfl (fk Tryz.func45) (λeD eW fN=>ek 0 1 eD aa aa aa aa) (λeD eW fN w3 s3 p3 n3 c3 t3 y3 m3 d3 q3 cK iM _ bb3=>wV rfl ?_)
 refine ck ?_
 refine VO.cond rfl bZ (wV rfl ?_)
 refine VO.eJ rfl [.int .i64 2020,.slice pz1 nz1 cz1,.slice pz2 nz2 cz2,.slice pz3 nz3 cz3,.slice pz4 nz4 cz4,.slice pz5 nz5 cz5] rfl (at_ads (off:=oY+((0:Nat):Int).toNat*6) aL (λj u hj=>hcY j u hj)) (wV rfl ?_)
 refine ck ?_
 refine VO.cR rfl rfl (fk Tryz.func45) (λiP jA jX=>ek 5 1 iP aa aa aa aa) (λiP jA jX w4 s4 p4 n4 c4 t4 y4 m4 d4 q4 gj nD _ Ah=>wV rfl ?_)
 refine ck ?_
 refine VO.cR rfl rfl (fk Tryz.func45) (λjj jk kD=>ek 7 1 jj aa aa aa aa) (λjj jk kD w5 s5 p5 n5 c5 t5 y5 m5 d5 q5 iR mE _ xT=>wV rfl ?_)
 refine ck ?_
 refine VO.cR rfl rfl (fk Tryz.func45) (λpZ oZ zd=>ek 3 1 pZ aa aa aa aa) (λpZ oZ zd w6 s6 p6 n6 c6 t6 y6 m6 d6 q6 og uy _ Gw=>wV rfl ?_)
 (repeat (first|refine wN ?_|refine wP rfl ?_|refine wO rfl rfl ?_))
 refine Me rfl ?_
 (repeat (first|refine wN ?_|refine wP rfl ?_|refine wO rfl rfl ?_))
 refine VS.nL (λw=>yk Tryz.prog w 103) (λ_=>rfl) (λ_=>rfl) (λ_=>ak.refl _) (λw9 β k9 b9 en=> ?_)
 have iX:ak w w9:=xo _ b9.1
 have o1:=qe (en.own 206 _ _ rfl) 0 g1 rfl rfl
 have oE:=(en.own 8 _ _ rfl).cls
 have oC:=(en.own 16 _ _ rfl).cls
 have oB:=(en.own 31 _ _ rfl).cls
 have oYr:=(en.own 34 _ _ rfl).cls
 obtain⟨gE,eE⟩:∃ g,g=β 8:=⟨_,rfl⟩
 obtain⟨gC,eC⟩:∃ g,g=β 16:=⟨_,rfl⟩
 obtain⟨gB,eB⟩:∃ g,g=β 31:=⟨_,rfl⟩
 obtain⟨gY,eY⟩:∃ g,g=β 34:=⟨_,rfl⟩
 have h1:aE w9 g1 32 #[.string fA.name,.string fA.parent,.slice pB nB cB,.bool sT,.slice pT nT cT,.bool tT,.slice yT mT dT,.bool sC,.slice pC nC cC,.bool tC,.slice yC mC dC,.int .i64 fA.bk,.int .i64 fA.fw,.bool sI,.slice pI nI cI,.bool tI,.slice yI mI dI,.bool sF,.slice pF nF cF,.bool tF,.slice yF mF dF,.int .i64 fA.kp,.slice (some ⟨gC,0,none⟩) 2 2,.slice (some ⟨gE,0,none⟩) 2 2,.slice (some ⟨gY,0,none⟩) 1 1]:=by
  rw[eC,eE,eY];exact o1.2
 have hE:aE w9 gE 9 #[.string ⟨#[80]⟩,.string ⟨#[65]⟩]:=by rw[eE];exact oE
 have hC:aE w9 gC 64 #[.string ⟨#[115,97,108,101,115]⟩,.int .u8 1,.bool s2,.slice p2 n2 c2,.bool t2,.slice y2 m2 d2,.string ⟨#[99,111,115,116]⟩,.int .u8 2,.bool s3,.slice p3 n3 c3,.bool t3,.slice y3 m3 d3]:=by rw[eC];exact oC
 have hB:aE w9 gB 103 #[.string ⟨#[80]⟩,.string ⟨#[115,97,108,101,115]⟩,.bool s4,.slice p4 n4 c4,.bool t4,.slice y4 m4 d4,.string ⟨#[80]⟩,.string ⟨#[115,97,108,101,115]⟩,.bool s5,.slice p5 n5 c5,.bool t5,.slice y5 m5 d5,.string ⟨#[65]⟩,.string ⟨#[99,111,115,116]⟩,.bool s6,.slice p6 n6 c6,.bool t6,.slice y6 m6 d6]:=by rw[eB];exact oB
 have hY:aE w9 gY 99 #[.int .i64 2020,.slice pz1 nz1 cz1,.slice (some ⟨gB,0,none⟩) 3 3,.slice pz3 nz3 cz3,.slice pz4 nz4 cz4,.slice pz5 nz5 cz5]:=by rw[eY,eB];exact oYr
 have gU:aO (tU 2) 6 w9 (.slice (some ⟨gC,0,none⟩) 2 2) wks:=lg (ot 2) (vs:=[[.string ⟨#[115,97,108,101,115]⟩,.int .u8 1,.bool s2,.slice p2 n2 c2,.bool t2,.slice y2 m2 d2],[.string ⟨#[99,111,115,116]⟩,.int .u8 2,.bool s3,.slice p3 n3 c3,.bool t3,.slice y3 m3 d3]]) (spare:=[]) hC (.cons ⟨_,_,_,_,_,_,_,_,rfl,bZ,q2.ki (dD aa aa aa aa)⟩ (.cons ⟨_,_,_,_,_,_,_,_,rfl,bZ,q3.ki (dD aa aa aa aa)⟩ .nil)) rfl (Nat.le_refl _) bZ
 have hen:aO rC 1 w9 (.slice (some ⟨gE,0,none⟩) 2 2) [⟨#[80]⟩,⟨#[65]⟩]:=lg mg (vs:=[[.string ⟨#[80]⟩],[.string ⟨#[65]⟩]]) (spare:=[]) hE (.cons rfl (.cons rfl .nil)) rfl (Nat.le_refl _) bZ
 have hbk:aO (BkE 2) 6 w9 (.slice (some ⟨gB,0,none⟩) 3 3) wbk:=lg (Mh 2) (vs:=[[.string ⟨#[80]⟩,.string ⟨#[115,97,108,101,115]⟩,.bool s4,.slice p4 n4 c4,.bool t4,.slice y4 m4 d4],[.string ⟨#[80]⟩,.string ⟨#[115,97,108,101,115]⟩,.bool s5,.slice p5 n5 c5,.bool t5,.slice y5 m5 d5],[.string ⟨#[65]⟩,.string ⟨#[99,111,115,116]⟩,.bool s6,.slice p6 n6 c6,.bool t6,.slice y6 m6 d6]]) (spare:=[]) hB (.cons ⟨_,_,_,_,_,_,_,_,rfl,q4.ki (dD aa aa aa aa)⟩ (.cons ⟨_,_,_,_,_,_,_,_,rfl,q5.ki (dD aa aa aa aa)⟩ (.cons ⟨_,_,_,_,_,_,_,_,rfl,q6.ki (dD aa aa aa aa)⟩ .nil))) rfl (Nat.le_refl _) bZ
 have hyr2:aO (YbE 2) 6 w9 (.slice (some ⟨gY,0,none⟩) 1 1) [wbk]:=slin_ce (lg (GJ 6) (vs:=[[.int .i64 2020,.slice pz1 nz1 cz1,.slice (some ⟨gB,0,none⟩) 3 3,.slice pz3 nz3 cz3,.slice pz4 nz4 cz4,.slice pz5 nz5 cz5]]) (spare:=[]) (es:=[[.int .i64 2020,.slice pz1 nz1 cz1,.slice (some ⟨gB,0,none⟩) 3 3,.slice pz3 nz3 cz3,.slice pz4 nz4 cz4,.slice pz5 nz5 cz5]]) hY (.cons ⟨rfl,rfl,rfl⟩ .nil) rfl (Nat.le_refl _) bZ) rfl (λi u a hi ha=>by
  match i,hi,ha with
  | 0,hi,ha=>cases hi;cases ha;exact⟨_,_,_,_,_,_,rfl,hbk⟩
  | i+1,hi,_=>simp at hi)
 refine⟨[(0,.val (.bool false)),(1,.val (.pointer (some ⟨g1,0,none⟩))),(2,.val (.func (.func 45) #[] #[]))],⟨⟨_,_,rfl,rfl,rfl⟩,⟨_,_,rfl,congrArg (λb=>Value.pointer (some ⟨b,0,none⟩)) o1.1,rfl⟩,⟨_,_,rfl,rfl,rfl⟩,trivial⟩,?_⟩
 clear o1 oE oC oB oYr eE eC eB eY hE hC hB hY hbk en k9 b9 q2 q3 q4 q5 q6 hS1 hS2 hS3 hS4 hS5 hS6 hS7 hS8 hS9 hS10
 refine bL ?_
 refine VO.read rfl [.string fA.name,.string fA.parent,.slice pB nB cB,.bool sT,.slice pT nT cT,.bool tT,.slice yT mT dT,.bool sC,.slice pC nC cC,.bool tC,.slice yC mC dC,.int .i64 fA.bk,.int .i64 fA.fw,.bool sI,.slice pI nI cI,.bool tI,.slice yI mI dI,.bool sF,.slice pF nF cF,.bool tF,.slice yF mF dF,.int .i64 fA.kp,.slice (some ⟨gC,0,none⟩) 2 2,.slice (some ⟨gE,0,none⟩) 2 2,.slice (some ⟨gY,0,none⟩) 1 1] rfl (rL (λj u hj=>h1.cell (by simpa using hj))) (wV rfl ?_)
 refine bL ?_
 refine VO.call rfl rfl (fk Tryz.func13) (λAj Ak uW=>(Dm _ _ _ _ _ _ _ _ _ _ _ _ _ _ _ _ _ _ _ _ _ _ _ _ _ _ _ _ _ _ _ _ _ _ _ _ _ _ _ _ _ _ _ _ _ _ _ _ _ 0 [⟨#[80]⟩,⟨#[65]⟩] wks [wbk] 2 4 Aj (gU.aB (ot 2) uW) (hen.aB mg uW) (hyr2.cP (yb_b 2) uW) bZ bZ bZ bZ bZ bZ).mono ?_)
 rintro o w7 ⟨r7,rfl,q7,DK⟩
 rw[wtot] at q7 ⊢
 rw[show Mj (some jq)=0 from rfl]
 have q7:di 13 Aj.heap.size w7 r7 jq:=q7
 obtain⟨pT,cT,rfl⟩:=q7.form
 refine⟨_,rfl,DK,λDL _ bb7=>wV rfl ?_⟩
 (repeat (first|refine wN ?_|refine wP rfl ?_|refine wO rfl rfl ?_))
 refine VS.nL (λw=>yk Tryz.prog w 103) (λ_=>rfl) (λ_=>rfl) (λ_=>ak.refl _) (λoK mw k10 b10 yj=> ?_)
 have hbw1:ak w oK:=iX.aw b10
 have hT:=q7.kp (show jB TQ w7 oK from eS) rfl rfl
 have h4:=(yj.own 4 _ _ rfl).cls
 refine⟨[(0,.val (.bool false)),(2,.val (.func (.func 45) #[] #[])),(4,.val (.pointer (some ⟨mw 4,0,none⟩))),(5,.val (.int .i64 0))],⟨⟨_,_,rfl,rfl,rfl⟩,⟨_,_,rfl,rfl,rfl⟩,⟨_,_,rfl,rfl,rfl⟩,⟨_,_,rfl,rfl,rfl⟩,trivial⟩,?_⟩
 generalize mw 4=g4 at h4 ⊢
 obtain⟨bT,oT,cs0,rfl,Lp,⟨x0,rfl,lG⟩⟩:=hT.Mc.at (i:=0) (a:=[0,3]) rfl
 obtain⟨b',o',cs1,hp,kS,⟨x1,rfl,hx1⟩⟩:=hT.Mc.at (i:=1) (a:=[12,0]) rfl
 cases hp
 obtain⟨px0,cx0,rfl⟩:=lG.sl
 obtain⟨px1,cx1,rfl⟩:=hx1.sl
 have h4:aE oK g4 52 #[.slice (some ⟨bT,oT,none⟩) jq.length cT]:=h4
 clear yj k10 b10 DL bb7 q7 h1 gU hen hyr2
 refine bL ?_
 refine VO.read rfl [.slice (some ⟨bT,oT,none⟩) jq.length cT] rfl (bQ (h4.cell (j:=0) rfl)) (wV rfl ?_)
 refine bL ?_
 refine VO.read rfl [.slice (some ⟨bT,oT,none⟩) jq.length cT] rfl (bQ (h4.cell (j:=0) rfl)) (wV rfl ?_)
 refine bL ?_
 refine VO.cond rfl bZ (wV rfl ?_)
 refine VO.read rfl [.slice px0 [0,3].length cx0] rfl (ax Lp) (wV rfl ?_)
 refine bL ?_
 refine VO.read rfl [.slice (some ⟨bT,oT,none⟩) jq.length cT] rfl (bQ (h4.cell (j:=0) rfl)) (wV rfl ?_)
 refine bL ?_
 refine VO.cond rfl bZ (wV rfl ?_)
 refine VO.read rfl [.slice px1 [12,0].length cx1] rfl (ax kS) (wV rfl ?_)
 refine bL ?_
 refine VO.read rfl [.slice (some ⟨bT,oT,none⟩) jq.length cT] rfl (bQ (h4.cell (j:=0) rfl)) (wV rfl ?_)
 refine bL ?_
 refine VO.cR rfl rfl (fk Tryz.func45) (λwa8 ka8 ba8=>ek (-2) 1 wa8 aa aa aa aa) (λwa8 ka8 ba8 w8 s8 p8 n8 c8 t8 y8 m8 d8 q8 Ko ID _ bb8=>wV rfl ?_)
 refine bL ?_
 refine VO.call rfl rfl (fk Tryz.func28) (λwa9 ka9 ba9=>(zt _ _ jq 1 0 (Rat.divInt (-2) 1) 13 2 wa9 ((hT.Mc).cP (bG 13) ba9) (q8.ki (dD aa aa aa aa) kQw) bZ bZ bZ bZ bZ bZ).mono ?_)
 rintro o w9' ⟨r9,rfl,q9,AL⟩
 obtain⟨pU,cU,rfl⟩:=q9.form
 refine xn AL ?_
 intro IE _ bb9
 refine VO.read rfl [.slice (some ⟨bT,oT,none⟩) jq.length cT] rfl (bQ (h4.cell (j:=0) rfl)) (wV rfl ?_)
 refine bL ?_
 refine VO.cR rfl rfl (fk Tryz.func30) (λsO xX EU=>oD _ jq 0 0 13 sO ((hT.Mc).cP (bG 13) EU) bZ) (λsO xX EU w11 s11 p11 n11 c11 t11 y11 m11 d11 q11 xY mc _ LC=>wV rfl ?_)
 refine bL ?_
 replace q11:=q11.cast (show rN jq 0 0=0 by decide+kernel)
 refine VO.cB rfl rfl (fk Tryz.func57) (λsP xZ EW=>wU _ 0 1 sP (q11.ki gn.zero kQw) bZ 0 (by decide+kernel)) (λsP xZ EW w12 ya qa _ LD=>wV rfl ?_)
 refine bL ?_
 refine VO.read rfl [.slice (some ⟨bT,oT,none⟩) jq.length cT] rfl (bQ (h4.cell (j:=0) rfl)) (wV rfl ?_)
 refine bL ?_
 refine VO.cR rfl rfl (fk Tryz.func30) (λCL LF IG=>oD _ jq 0 1 13 CL ((hT.Mc).cP (bG 13) IG) bZ) (λCL LF IG mH s13 p13 n13 c13 t13 y13 m13 d13 q13 hb13 CM _ bb13=>wV rfl ?_)
 refine bL ?_
 replace q13:=q13.cast (show rN jq 0 1=Rat.divInt 3 1 by decide+kernel)
 refine VO.cR rfl rfl (fk Tryz.func45) (λCN Al EX=>ek 3 1 CN aa aa aa aa) (λCN Al EX w14 s14 p14 n14 c14 t14 y14 m14 d14 q14 hb14 IH _ bb14=>wV rfl ?_)
 refine bL ?_
 refine VO.cB rfl rfl (fk Tryz.func43) (λyc ye yf=>sS _ _ (Rat.divInt 3 1) (Rat.divInt 3 1) 2 2 yc (q13.ki (dD aa aa aa aa) kQw) (q14.ki (dD aa aa aa aa) kQw) bZ bZ 0 (by decide+kernel)) (λyc ye yf w15 hb15 LG _ bb15=>wV rfl ?_)
 refine bL ?_
 refine VO.read rfl [.slice (some ⟨bT,oT,none⟩) jq.length cT] rfl (bQ (h4.cell (j:=0) rfl)) (wV rfl ?_)
 refine bL ?_
 refine VO.cR rfl rfl (fk Tryz.func30) (λwa16 ka16 ba16=>oD _ jq 1 0 13 wa16 ((hT.Mc).cP (bG 13) ba16) bZ) (λwa16 ka16 ba16 w16 s16 p16 n16 c16 t16 y16 m16 d16 q16 hb16 kb16 _ bb16=>wV rfl ?_)
 refine bL ?_
 replace q16:=q16.cast (show rN jq 1 0=Rat.divInt 12 1 by decide+kernel)
 refine VO.cR rfl rfl (fk Tryz.func45) (λwa17 ka17 ba17=>ek 12 1 wa17 aa aa aa aa) (λwa17 ka17 ba17 w17 s17 p17 n17 c17 t17 y17 m17 d17 q17 hb17 kb17 _ bb17=>wV rfl ?_)
 refine bL ?_
 refine VO.cB rfl rfl (fk Tryz.func43) (λwa18 ka18 ba18=>sS _ _ (Rat.divInt 12 1) (Rat.divInt 12 1) 2 2 wa18 (q16.ki (dD aa aa aa aa) kQw) (q17.ki (dD aa aa aa aa) kQw) bZ bZ 0 (by decide+kernel)) (λwa18 ka18 ba18 w18 hb18 kb18 _ bb18=>wV rfl ?_)
 refine bL ?_
 refine VO.cR rfl rfl (fk Tryz.func30) (λwa19 ka19 ba19=>oD _ (ia jq 1 0 (Rat.divInt (-2) 1)) 1 0 16 wa19 ((q9.kp (show jB TQ w9' wa19 from eS) rfl rfl).Mc) bZ) (λwa19 ka19 ba19 w19 s19 p19 n19 c19 t19 y19 m19 d19 q19 hb19 kb19 _ bb19=>wV rfl ?_)
 refine bL ?_
 replace q19:=q19.cast (show rN (ia jq 1 0 (Rat.divInt (-2) 1)) 1 0=Rat.divInt 10 1 by decide+kernel)
 refine VO.cR rfl rfl (fk Tryz.func45) (λwa20 ka20 ba20=>ek 10 1 wa20 aa aa aa aa) (λwa20 ka20 ba20 w20 s20 p20 n20 c20 t20 y20 m20 d20 q20 hb20 kb20 _ bb20=>wV rfl ?_)
 refine bL ?_
 refine VO.cB rfl rfl (fk Tryz.func43) (λwa21 ka21 ba21=>sS _ _ (Rat.divInt 10 1) (Rat.divInt 10 1) 2 2 wa21 (q19.ki (dD aa aa aa aa) kQw) (q20.ki (dD aa aa aa aa) kQw) bZ bZ 0 (by decide+kernel)) (λwa21 ka21 ba21 w21 hb21 kb21 _ bb21=>wV rfl ?_)
 refine bL ?_
 refine VO.read rfl [.slice (some ⟨bT,oT,none⟩) jq.length cT] rfl (bQ (h4.cell (j:=0) rfl)) (wV rfl ?_)
 refine bL ?_
 refine VO.cR rfl rfl (fk Tryz.func30) (λwa22 ka22 ba22=>oD _ jq 2 0 13 wa22 ((hT.Mc).cP (bG 13) ba22) bZ) (λwa22 ka22 ba22 w22 s22 p22 n22 c22 t22 y22 m22 d22 q22 hb22 kb22 _ bb22=>wV rfl ?_)
 refine bL ?_
 replace q22:=q22.cast (show rN jq 2 0=0 by decide+kernel)
 refine VO.cB rfl rfl (fk Tryz.func57) (λwa23 ka23 ba23=>wU _ 0 1 wa23 (q22.ki gn.zero kQw) bZ 0 (by decide+kernel)) (λwa23 ka23 ba23 w23 hb23 kb23 _ bb23=>wV rfl ?_)
 refine bL ?_
 refine VS.ret (kE _ _) rfl rfl (λwz kz bz=> ?_)
 exact⟨rfl,hbw1.aw bz⟩
set_option maxRecDepth 4000
def Fv (x:Rw):Prop:=x.xs.length<=4/\x.ys.length<=4
def okRow (r:List Rw):Prop:=r.length<=12/\∀ x∈r,Fv x
def tc (t:List (List Rw)):Prop:=t.length<=8/\∀ r∈t,okRow r
theorem dk.form {kk:Nat} {w:World} {cs:List Value} {x:Rw} (h:dk kk w cs x):∃ s p c t y d,cs=[.bool s,.slice p x.xs.length c,.bool t,.slice y x.ys.length d]/\dJ w (.agg #[.bool s,.slice p x.xs.length c,.bool t,.slice y x.ys.length d]) x.s x.xs x.t x.ys:=by
 obtain⟨s,p,n,c,t,y,m,d,rfl,hr,_⟩:=h
 have mM:=hr
 obtain⟨p',c',r',d',hv,_,_⟩:=hr
 cases hv
 exact⟨_,_,_,_,_,_,rfl,mM⟩
theorem dk.to {kk j:Nat} {w:World} {cs:List Value} {x:Rw} (h:dk kk w cs x) (h1:x.xs.length<=j) (h2:x.ys.length<=j):dk j w cs x:=by
 obtain⟨s,p,n,c,t,y,m,d,hv,hr,_⟩:=h
 exact⟨_,_,_,_,_,_,_,_,hv,hr,h1,h2⟩
theorem vf {kk j:Nat} {w:World} {v:Value} {t:List (List Rw)} (h:aO (iL (dk kk)) 1 w v t) (hs:∀ r∈t,∀ x∈r,x.xs.length<=j/\x.ys.length<=j):aO (iL (dk j)) 1 w v t:=h.mono (λi r cs hr hb=>by
 obtain⟨u,rfl,h1⟩:=hb
 exact⟨u,rfl,h1.mono (λk x cs hx hb=>hb.to (hs r (List.mem_of_getElem? hr) x (List.mem_of_getElem? hx)).1 (hs r (List.mem_of_getElem? hr) x (List.mem_of_getElem? hx)).2)⟩)
set_option maxRecDepth 4000 in
theorem tZ (cs:List Value) (x:Rw) (kk:Nat) (w:World) (hv:dk kk w cs x):
  Calls Tryz.prog 20 #[.agg cs.toArray] w λe w'=>∃ b,e=.returned (.bool b)/\(b=true->Fv x)/\ak w w':=by
 obtain⟨s,p,c,t,y,d,rfl,hr⟩:=hv.form
 have vD:=hr.Gz.choose_spec
 obtain⟨p',c',r',d',hv',h1,h2⟩:=hr
 clear vD
 have aL:=h1.GA.1.u32
 have aY:=h2.GA.1.u32
 refine af (C:=aW Tryz.prog w _) (args:=[_]) Tryz.func20 rfl Tryz.ntmps20 (bP rfl) ?_
 refine ae ?_
 by_cases hx:x.xs.length<=4
 ·refine VO.fix 8 rfl (congrArg (λb=>AV.val (.bool b)) (decide_eq_true (show (x.xs.length:Int)<=4 by omega))) ?_
  refine ae ?_
  refine aX ?_;intro wz kz bz
  refine⟨_,rfl,λhb=>⟨hx,?_⟩,bz⟩
  have:=of_decide_eq_true hb
  omega
 ·refine VO.fix 8 rfl (congrArg (λb=>AV.val (.bool b)) (decide_eq_false (show ¬ (x.xs.length:Int)<=4 by omega))) ?_
  refine ae ?_
  refine aX ?_;intro wz kz bz
  exact⟨_,rfl,λhb=>(by cases hb),bz⟩
set_option maxRecDepth 4000 in
theorem Dn (v:Value) (t:List (List Rw)) (kk:Nat) (w:World) (hv:aO (iL (dk kk)) 1 w v t):
  Calls Tryz.prog 19 #[.agg #[v]] w λe w'=>∃ b,e=.returned (.bool b)/\(b=true->tc t)/\ak w w':=by
 obtain⟨p,c,rfl,eV,fm⟩:=hv.form
 obtain⟨R,hR⟩:∃ R,R=t.length:=⟨_,rfl⟩
 rw[<-hR] at hv eV
 rw[<-hR]
 refine af (C:=aW Tryz.prog w _) (args:=[_]) Tryz.func19 rfl Tryz.ntmps19 (bP rfl) ?_
 refine ae ?_
 by_cases h8:(R:Int)>8
 ·refine VS.aR rfl (decide_eq_true h8) ?_
  refine ae ?_
  refine aX ?_;intro wz kz bz
  exact⟨_,rfl,λh=>(by cases h),bz⟩
 refine VS.aP rfl (decide_eq_false h8) ?_
 refine ae ?_
 refine VS.loop (J:=λm L M w'=>∃ e:Nat,e<=R/\m=R-e/\L=[(1,.box 1 0),(3,.val (.int .i64 (e:Int)))]/\M=[(1,(52,[.val (.slice p R c)]))]/\(∀ (i:Nat) (r:List Rw),i<e->t[i]? =some r->okRow r)) R ⟨_,_,?_,?_,?_,?_,⟨0,by omega,rfl,rfl,rfl,λi r hi=>by omega⟩⟩ ?_
 ·exact ew
 ·exact ew
 ·rfl
 ·exact kH
 rintro m L M wJ ⟨e,he,rfl,rfl,rfl,hup⟩
 refine ae ?_
 by_cases hle:e<R
 ·obtain⟨rw0,hrw⟩:∃ x,t[e]? =some x:=⟨_,List.getElem?_eq_getElem aa⟩
  obtain⟨br,ta,csr,rfl,xD,⟨rv,rfl,mL⟩⟩:=hv.at hrw
  obtain⟨pc,cc,rfl,hKc,hcc⟩:=mL.form
  obtain⟨K,hK⟩:∃ K,K=rw0.length:=⟨_,rfl⟩
  rw[<-hK] at mL xD hKc
  refine VS.aR rfl (decide_eq_true (Int.ofNat_lt.2 hle)) ?_
  refine ae ?_
  refine VO.cond rfl dc ?_
  refine wV rfl ?_
  refine ae ?_
  refine VO.read rfl [.slice pc K cc] rfl (ax xD) (wV rfl ?_)
  refine ae ?_
  by_cases h12:(K:Int)>12
  ·refine VS.aR rfl (decide_eq_true h12) ?_
   refine ae ?_
   refine aX ?_;intro wz kz bz
   exact⟨_,rfl,λh=>(by cases h),bz⟩
  refine VS.aP rfl (decide_eq_false h12) ?_
  refine ae ?_
  refine VS.loop (J:=λm L M w'=>∃ q:Nat,q<=K/\m=K-q/\L=[(1,.box 1 0),(3,.val (.int .i64 (e:Int))),(4,.val (.int .i64 (q:Int)))]/\M=[(1,(52,[.val (.slice (some ⟨br,ta,none⟩) R c)]))]/\(∀ (i:Nat) (x:Rw),i<q->rw0[i]? =some x->Fv x)) K ⟨_,_,?_,?_,?_,?_,⟨0,by omega,rfl,rfl,rfl,λi r hi=>by omega⟩⟩ ?_
  ·exact ew
  ·exact ew
  ·rfl
  ·exact kH
  rintro m L M wM ⟨q,hq,rfl,rfl,rfl,hupc⟩
  refine ae ?_
  refine VO.cond rfl dc ?_
  refine wV rfl ?_
  refine ae ?_
  refine VO.read rfl [.slice pc K cc] rfl (ax xD) (wV rfl ?_)
  refine ae ?_
  by_cases EF:q<K
  ·refine VS.aR rfl (decide_eq_true (Int.ofNat_lt.2 EF)) ?_
   refine ae ?_
   obtain⟨x,hx⟩:∃ x,rw0[q]? =some x:=⟨_,List.getElem?_eq_getElem aa⟩
   obtain⟨bx,Mm,Jx,rfl,ku,gr⟩:=mL.at hx
   have Jf:=gr
   obtain⟨s,pp,n,cx,t2,y,mm,d,rfl,_⟩:=gr
   refine VO.cond rfl dc ?_
   refine wV rfl ?_
   refine ae ?_
   refine VO.read rfl [.slice (some ⟨bx,Mm,none⟩) K cc] rfl (ax xD) (wV rfl ?_)
   refine ae ?_
   refine VO.cond rfl dc ?_
   refine wV rfl ?_
   refine ae ?_
   refine VO.read rfl [.bool s,.slice pp n cx,.bool t2,.slice y mm d] rfl (er ku 0 _ ⟨[],rfl⟩) (wV rfl ?_)
   refine ae ?_
   refine VO.call rfl rfl (fk Tryz.func20) (λbo cj bD=>(tZ _ x kk bo (Jf.kp (Kp.of (U:=UU) bD))).mono ?_)
   rintro e1 w2 ⟨b1,rfl,l1,aL⟩
   cases b1 with
   | false=>
     refine bA aL ?_
     intro dh _ bb1
     refine aX ?_;intro wz kz bz
     exact⟨_,rfl,λh=>(by cases h),bz⟩
   | true=>
     refine bA aL ?_
     intro dh _ bb1
     refine VS.back (K-(q+1)) aa ⟨_,_,?_,?_,?_,?_,⟨q+1,by omega,rfl,rfl,rfl,λi z hi hz=> ?_⟩⟩
     ·refine⟨rfl,rfl,?_,trivial⟩
      rw[<-aD (i:=q) aa];rfl
     ·exact ew
     ·rfl
     ·exact kH
     ·by_cases hiq:i=q
      ·subst hiq;rw[hx] at hz;cases hz;exact l1 rfl
      ·exact hupc i z aa hz
  ·refine VS.aP rfl (decide_eq_false (λe=>EF (Int.ofNat_lt.1 e))) ?_
   obtain rfl:q=K:=by omega
   refine ae ?_
   refine VS.back (R-(e+1)) aa ⟨_,_,?_,?_,?_,?_,⟨e+1,by omega,rfl,rfl,rfl,λi z hi hz=> ?_⟩⟩
   ·refine⟨rfl,?_,trivial⟩
    rw[<-aD (i:=e) aa];rfl
   ·exact ew
   ·rfl
   ·exact kH
   ·by_cases pK:i=e
    ·subst pK;rw[hrw] at hz;cases hz
     refine⟨by omega,λx hx=> ?_⟩
     obtain⟨j,hj⟩:=List.getElem?_of_mem hx
     exact hupc j x (by have:=(List.getElem?_eq_some_iff.1 hj).1;omega) hj
    ·exact hup i z aa hz
 ·refine VS.aP rfl (decide_eq_false (λe=>hle (Int.ofNat_lt.1 e))) ?_
  obtain rfl:e=R:=by omega
  refine ae ?_
  refine aX ?_;intro wz kz bz
  refine⟨_,rfl,λ_=>⟨by omega,λr hr=> ?_⟩,bz⟩
  obtain⟨j,hj⟩:=List.getElem?_of_mem hr
  exact hup j r (by have:=(List.getElem?_eq_some_iff.1 hj).1;omega) hj
theorem mz {P Q:Prop} (h:Q) (i:Q->P:=by intro h;(repeat first|refine wN ?_|refine wP rfl ?_|refine cxU_r rfl ?_|refine cxU_d rfl ?_|refine wO rfl rfl ?_);exact h):P:=i h
set_option maxRecDepth 8000 in
theorem zu (v:Value) (t:List (List Rw)) (kk:Nat) (w:World) (hv:aO (iL (dk kk)) 1 w v t) (hk:kk<=1000) (hb:t.length<=100000) (aY:∀ r∈t,r.length<=100000):
  Calls Tryz.prog 22 #[.agg #[v]] w λo w'=>∃ r,o=.returned (.agg #[r])/\eu (dk kk) 147 38 w.heap.size w' r t/\ak w w':=by
 obtain⟨p,c,rfl⟩:=hv.sl
 obtain⟨R,hR⟩:∃ R,R=t.length:=⟨_,rfl⟩
 rw[<-hR] at hv hb
 rw[<-hR]
 refine af (C:=aW Tryz.prog w _) (args:=[_]) Tryz.func22 rfl Tryz.ntmps22 (bP rfl) ?_
 refine ae ?_
 refine VS.rA (J:=λm L W=>∃ (e g4 g g1:Nat) (rv:Value) (us:List Value),e<=R/\m=R-e/\L=[(1,.pointer (some ⟨g1,0,none⟩)),(2,.pointer (some ⟨g4,0,none⟩)),(3,.pointer (some ⟨g,0,none⟩)),(4,.int .i64 (e:Int))]/\ak w W/\w.heap.size<=g4/\w.heap.size<=g/\g4≠g/\aE W g4 46 #[.slice none 0 0]/\aE W g 46 #[rv]/\aC VE 1 147 w.heap.size W rv us/\us.length=e/\(∀ (i:Nat) (u:Value) (r:List Rw),us[i]? =some u->t[i]? =some r->aC (dk kk) 4 38 w.heap.size W u r)/\rD us/\w.heap.size<=g1/\g1≠g/\aE W g1 52 #[.slice p R c])
  (λW=>aW Tryz.prog W 43) (λ_=>rfl) (λ_=>rfl) (λ_=>ak.refl _) R (λw' β k' o en=>⟨[(1,.pointer (some ⟨β 1,0,none⟩)),(2,.pointer (some ⟨β 2,0,none⟩)),(3,.pointer (some ⟨β 3,0,none⟩)),(4,.int .i64 ((0:Nat):Int))],⟨⟨_,_,rfl,rfl,rfl⟩,⟨_,_,rfl,rfl,rfl⟩,⟨_,_,rfl,rfl,rfl⟩,⟨_,_,rfl,rfl,rfl⟩,trivial⟩,0,β 2,β 3,β 1,.slice none 0 0,[],by omega,rfl,rfl,o,(en.own 2 _ _ rfl).new,(en.own 3 _ _ rfl).new,(λh=>absurd (en.apart 2 3 (by intro h;cases h) (by intro h;cases h) h) bZ),(en.own 2 _ _ rfl).cls,(en.own 3 _ _ rfl).cls,.inl ⟨rfl,rfl⟩,rfl,λi u r hi=>(by simp at hi),λi j u v b hi=>(by simp at hi),(en.own 1 _ _ rfl).new,(λh=>absurd (en.apart 1 3 (by intro h;cases h) (by intro h;cases h) h) bZ),(en.own 1 _ _ rfl).cls⟩) ?_
 rintro m L W ⟨e,g4,g,g1,rv,us,he,rfl,rfl,fT,fI,GG,gQ,jd,xk,Ay,zQ,lz,GH,Mu,AE,xG⟩
 have hvW:aO (iL (dk kk)) 1 W (.slice p R c) t:=hv.cP (rM (dk.el kk)) fT
 refine ae ?_
 refine VO.read rfl [.slice p R c] rfl (bQ (xG.cell (j:=0) rfl)) (wV rfl ?_)
 refine ae ?_
 by_cases JB:e<R
 ·refine VS.aR rfl (decide_eq_true (Int.ofNat_lt.2 JB)) ?_
  obtain⟨ru,mO⟩:∃ r,t[e]? =some r:=⟨_,List.getElem?_eq_getElem aa⟩
  obtain⟨br,ta,csr,rfl,xD,⟨xv,rfl,mL⟩⟩:=hvW.at mO
  obtain⟨pc,cc,rfl⟩:=mL.sl
  obtain⟨K,hK⟩:∃ K,K=ru.length:=⟨_,rfl⟩
  rw[<-hK] at mL xD
  have hKb:K<=100000:=by rw[hK];exact aY ru (List.mem_of_getElem? mO)
  refine ae ?_
  refine VS.loop (J:=λm L M w'=>∃ (z:Nat) (X:AV) (Mi:List (Nat×(TypeId×List AV))),z<=K/\m=K-z/\L=[(1,.val (.pointer (some ⟨g1,0,none⟩))),(2,.val (.pointer (some ⟨g4,0,none⟩))),(3,.val (.pointer (some ⟨g,0,none⟩))),(4,.val (.int .i64 (e:Int))),(5,X),(6,.val (.int .i64 (z:Int)))]/\M=Mi/\fH (dk kk) 4 38 35 X Mi w' (ru.take z)) K ⟨_,_,?_,?_,?_,?_,⟨0,_,[],by omega,rfl,rfl,rfl,.inl ⟨rfl,rfl,rfl⟩⟩⟩ ?_
  ·exact ew
  ·exact ew
  ·rfl
  ·exact kH
  rintro m L Mi wI ⟨z,X,Mi2,hz,rfl,rfl,rfl,hI⟩
  refine VS.now (λwX kN bN=> ?_)
  replace hI:=hI.kp (dk.el kk) (aF.eH kN)
  refine VS.mask [34] (by rcases hI with ⟨_,rfl,rfl⟩|⟨_,_,_,_,rfl,rfl,_⟩ <;> (repeat first|exact trivial|refine⟨rfl,?_⟩)) ?_
  refine ae ?_
  refine VO.read rfl [.slice (some ⟨br,ta,none⟩) R c] rfl (bQ (xG.cell (j:=0) rfl)) (wV rfl ?_)
  refine ae ?_
  refine VO.cond rfl dc ?_
  refine wV rfl ?_
  refine ae ?_
  refine VO.read rfl [.slice pc K cc] rfl (ax xD) (wV rfl ?_)
  refine ae ?_
  by_cases Jz:z<K
  ·obtain⟨y,hy⟩:∃ y,ru[z]? =some y:=⟨_,List.getElem?_eq_getElem aa⟩
   obtain⟨bx,Mm,Jx,rfl,ku,Jf⟩:=mL.at hy
   have hel1:=Jf
   obtain⟨s0,p0,n0,c0,t0,y0,m0,d0,rfl,lS,jv,uq⟩:=Jf
   refine VS.aR rfl (decide_eq_true (Int.ofNat_lt.2 Jz)) ?_
   refine ae ?_
   refine VO.read rfl [.slice (some ⟨br,ta,none⟩) R c] rfl (bQ (xG.cell (j:=0) rfl)) (wV rfl ?_)
   refine ae ?_
   refine VO.cond rfl dc ?_
   refine wV rfl ?_
   refine ae ?_
   refine VO.read rfl [.slice (some ⟨bx,Mm,none⟩) K cc] rfl (ax xD) (wV rfl ?_)
   refine ae ?_
   refine VO.cond rfl dc ?_
   refine wV rfl ?_
   refine ae ?_
   refine VO.read rfl [.bool s0,.slice p0 n0 c0,.bool t0,.slice y0 m0 d0] rfl (er ku 0 _ ⟨[],rfl⟩) (wV rfl ?_)
   refine ae ?_
   refine VO.call rfl rfl (fk Tryz.func21) (λbo cj bD=>(wW _ _ _ _ _ bo (lS.kp (Kp.of (U:=UU) bD)) aa aa).mono ?_)
   rintro o w1 ⟨r1,rfl,q1,aL⟩
   obtain⟨p1,c1,y1,d1,rfl,_⟩:=q1.raw.Gz
   refine bA aL ?_
   intro dh _ bb1
   have gr:dk kk w1 [.bool y.s,.slice p1 y.xs.length c1,.bool y.t,.slice y1 y.ys.length d1] y:=.mk q1.raw jv uq
   rcases hI with ⟨kO,rfl,rfl⟩|⟨n',c',vs,sp,rfl,rfl,sW⟩
   ·refine VO.lh (bO _ _) (dk.el kk) (t:=147) (e:=38) (s:=34) (a:=y) (cs:=[.bool y.s,.slice p1 y.xs.length c1,.bool y.t,.slice y1 y.ys.length d1]) rfl rfl rfl rfl rfl rfl rfl rfl (bP rfl) rfl rfl rfl gr aa (λw9 cap sp k9 b9 iV=>wV rfl ?_)
    refine ae ?_
    refine VS.back (K-(z+1)) aa ⟨_,_,?_,?_,?_,?_,⟨z+1,_,_,by omega,rfl,rfl,rfl,.inr ⟨1,cap,_,sp,rfl,rfl,by rw[bJ hy,kO];exact iV⟩⟩⟩
    ·(refine⟨rfl,rfl,rfl,rfl,rfl,?_,trivial⟩;rw[<-aD (i:=z) aa];rfl)
    ·(repeat first|exact trivial|refine⟨rfl,?_⟩|refine⟨congrArg (λl=>some (_,l)) (cQ (by first|exact dE.de (by assumption)|exact ah _|(rw[<-List.map_append];exact ah _)) _ _),?_⟩)
    ·rfl
    ·(repeat first|exact trivial|refine⟨aA.lit rfl,?_⟩|refine⟨dE.DN (by assumption),?_⟩|refine⟨aA.append (.vals _) (.vals _),?_⟩|refine⟨aA.vals _,?_⟩)
   ·have rW:=sW.len
    refine VO.lj (bO _ _) (dk.el kk) (t:=147) (e:=38) (s:=34) (i:=35) (n:=n') (c:=c') (vs:=vs) (sp:=sp) (es:=ru.take z) (a:=y) (cs:=[.bool y.s,.slice p1 y.xs.length c1,.bool y.t,.slice y1 y.ys.length d1]) rfl rfl rfl rfl rfl rfl rfl rfl (bP rfl) rfl (.inr rfl) rfl (sW.kp (dk.el kk) eS) rfl gr (by rw[List.length_take] at rW;omega) (λw9 qi zj ρ k9 b9 fv iV=>wV rfl ?_)
    refine ae ?_
    refine VS.back (K-(z+1)) aa ⟨_,_,?_,?_,?_,?_,⟨z+1,_,_,by omega,rfl,rfl,rfl,.inr ⟨n' +1,qi,_,zj,rfl,rfl,by rw[bJ hy];exact iV⟩⟩⟩
    ·(refine⟨rfl,rfl,rfl,rfl,rfl,?_,trivial⟩;rw[<-aD (i:=z) aa];rfl)
    ·(repeat first|exact trivial|refine⟨rfl,?_⟩|refine⟨congrArg (λl=>some (_,l)) (cQ (by first|exact dE.de (by assumption)|exact ah _|(rw[<-List.map_append];exact ah _)) _ _),?_⟩)
    ·rfl
    ·(repeat first|exact trivial|refine⟨aA.lit rfl,?_⟩|refine⟨dE.DN (by assumption),?_⟩|refine⟨aA.append (.vals _) (.vals _),?_⟩|refine⟨aA.vals _,?_⟩)
  refine VS.aP rfl (decide_eq_false (λe=>Jz (Int.ofNat_lt.1 e))) ?_
  obtain rfl:K=z:=by omega
  rw[List.take_of_length_le aa] at hI
  subst zQ
  refine VS.ea rX (λt=>Nat.beq t 23) table (λ_ _ _=>trivial) (λdp mw k1 sY yj=> ?_)
  have aQ:ak W dp:=sY
  have cf:=hI.told (dk.el kk) yj (by intro q hq;rcases hI with ⟨_,rfl,rfl⟩|⟨_,_,_,_,rfl,rfl,_⟩ <;> first|(cases hq;done)|(cases List.mem_singleton.1 hq;rfl)) k1.eH W.heap.size (λh=>h)
  have jo:=xk.aB aQ
  have uZ:=fT.size
  have rF:=aQ.size
  rcases Ay with ⟨rfl,rfl⟩|⟨b0,cB,vc,vd,rfl,LZ,iK,rG,rH,Az,AA,AB⟩
  ·have lB:et rX 43 [g] [(46,[.val (.slice none 0 0)])] dp:=by
    refine⟨rfl,by simp,λj g' c' hj hc=> ?_,λc' hc=> ?_,λc' hc k hk=> ?_⟩
    ·match j,hj,hc with
     | 0,hj,hc=>cases hj;cases hc;exact jo
     | j+1,hj,_=>simp at hj
    ·cases List.mem_singleton.1 hc
     exact⟨rfl,rfl⟩
    ·cases List.mem_singleton.1 hc
     cases hk
   refine⟨[g],[(46,[.val (.slice none 0 0)])],lB,[(1,.val (.pointer (some ⟨g1,0,none⟩))),(2,.val (.pointer (some ⟨g4,0,none⟩))),(3,.box 86 0),(4,.val (.int .i64 (([]:List Value).length:Int))),(5,.val (X.aI mw))],⟨⟨_,rfl,rfl,λi hi=>(by cases hi)⟩,⟨_,rfl,rfl,λi hi=>(by cases hi)⟩,⟨_,rfl,rfl,λi hi=>by rw[(by simpa [AV.ids] using hi:i=86)];exact⟨(by show 86<=86;omega),(by show 86<2*43+1;omega)⟩⟩,⟨_,rfl,rfl,λi hi=>(by cases hi)⟩,⟨_,rfl,rfl,λi hi=>(by cases hi)⟩,trivial⟩,?_⟩
   generalize X.aI mw=vv at cf ⊢
   obtain⟨jb,iW,rfl⟩:=cf.form
   refine mz ?_
   refine VO.lh (qg _ _) bB (t:=44) (e:=147) (s:=39) (a:=.slice jb ru.length iW) (cs:=[.slice jb ru.length iW]) rfl rfl rfl rfl rfl rfl rfl rfl (bP rfl) rfl rfl rfl ⟨rfl,_,_,_,rfl⟩ aa (λmH cap sp LX Jy iV=>wV rfl ?_)
   refine mz ?_
   refine VS.kc rfl (R-(([]:List Value).length+1)) aa (λw' bu k' o' oy=> ?_)
   have nA:aF rX dp w':=(show aF rX dp mH from eS).aw k'
   have rI:ak w w':=eK.aB (fT.aw aQ) o'.1 (λx hx=>by rw[List.mem_singleton.1 hx];omega)
   have hst:fH VE 1 147 40 (.row 40 0 1 cap) [(40,(147,_))] mH ([.slice jb ru.length iW]):=.inr ⟨_,cap,_,sp,rfl,rfl,iV⟩
   have ji:=hst.told bB oy (λx hx=>by cases List.mem_singleton.1 hx;rfl) k'.eH w.heap.size (λh=>(da (show fG 43 [g] dp 40 (bu 40) from h)).elim (λq=>Nat.le_trans uZ (Nat.le_trans rF q)) (λq=>by rw[List.mem_singleton.1 q];omega))
   have nS:=oy.own 86 _ _ rfl
   have fj:bu 86=g:=(qe nS 0 g rfl rfl).1
   refine⟨[(1,.pointer (some ⟨g1,0,none⟩)),(2,.pointer (some ⟨g4,0,none⟩)),(3,.pointer (some ⟨bu 86,0,none⟩)),(4,.int .i64 ((([]:List Value).length+1:Nat):Int))],⟨⟨_,_,rfl,rfl,rfl⟩,⟨_,_,rfl,rfl,rfl⟩,⟨_,_,rfl,rfl,rfl⟩,⟨_,_,rfl,congrArg (λz=>Value.int .i64 z) (aD (i:=([]:List Value).length) aa),rfl⟩,trivial⟩,([]:List Value).length+1,g4,bu 86,g1,.slice (some ⟨bu 40,0,none⟩) 1 cap,[Value.slice jb ru.length iW],by omega,rfl,rfl,rI,fI,by rw[fj];exact GG,by rw[fj];exact gQ,(jd.aB aQ).but o'.1 (by simp[gQ]),nS.cls,ji,by simp,?_,?_,Mu,by rw[fj];exact AE,(xG.aB aQ).but o'.1 (by simp[AE])⟩
   ·exact iy (vs:=([]:List Value)) (l:=t) (P:=λu r=>aC (dk kk) 4 38 w.heap.size w' u r) (λi u r hi hr=>((lz i u r hi hr).aB (dk.el kk) aQ).kp (dk.el kk) nA rfl) mO ((cf.kp (dk.el kk) nA rfl).mono uZ)
   ·exact dY (us:=([]:List Value)) (λi j u v b hi=>(by simp at hi)) (λi v b hi hb=>by
     obtain⟨r,hr⟩:∃ r,t[i]? =some r:=⟨_,List.getElem?_eq_getElem (by have:=(List.getElem?_eq_some_iff.1 hi).1;simp at this)⟩
     exact ((lz i v r hi hr).du hb).2) (λb hb=>(cf.du hb).1)
  ·have rJ:=iK.aB aQ
   have Mf:g≠b0:=λh=>by rw[h] at jo;exact absurd (cZ jo rJ) bZ
   have AD:g4≠b0:=λh=>by rw[h] at jd;exact absurd (cZ jd iK) bZ
   have hg1b:g1≠b0:=λh=>by rw[h] at xG;exact absurd (cZ xG iK) bZ
   have lB:et rX 43 [g,b0] [(46,[.row 87 0 us.length cB]),(147,vc.flatten.map .val++vd.map .val)] dp:=by
    refine⟨rfl,by simp[Mf],λj g' c' hj hc=> ?_,λc' hc=> ?_,λc' hc k hk=> ?_⟩
    ·match j,hj,hc with
     | 0,hj,hc=>cases hj;cases hc;exact jo
     | 1,hj,hc=>cases hj;cases hc;rw[<-List.map_append,aV];exact rJ
     | j+2,hj,_=>simp at hj
    ·rcases List.mem_cons.1 hc with rfl|hc
     ·exact⟨rfl,rfl⟩
     ·cases List.mem_singleton.1 hc
      exact⟨rfl,by rw[<-List.map_append];exact cE (by rw[List.all_append,(rG.ok bB).1,rH];rfl)⟩
    ·rcases List.mem_cons.1 hc with rfl|hc
     ·have:k=87:=by simpa [aH,AV.de] using hk
      subst this;exact⟨by omega,by show 87<2*43+2;omega⟩
     ·cases List.mem_singleton.1 hc
      rw[<-List.map_append,ah] at hk;cases hk
   have hNB:dE VE 1 dp us.length cB vc (vd.map .val) us:=⟨rfl,rG.kp bB (Kp.of (U:=UU) aQ),cE rH,ah _,Az,AA,by rw[<-List.map_append,List.length_map];exact AB⟩
   refine⟨[g,b0],[(46,[.row 87 0 us.length cB]),(147,vc.flatten.map .val++vd.map .val)],lB,[(1,.val (.pointer (some ⟨g1,0,none⟩))),(2,.val (.pointer (some ⟨g4,0,none⟩))),(3,.box 86 0),(4,.val (.int .i64 (us.length:Int))),(5,.val (X.aI mw))],⟨⟨_,rfl,rfl,λi hi=>(by cases hi)⟩,⟨_,rfl,rfl,λi hi=>(by cases hi)⟩,⟨_,rfl,rfl,λi hi=>by rw[(by simpa [AV.ids] using hi:i=86)];exact⟨(by show 86<=86;omega),(by show 86<2*43+2;omega)⟩⟩,⟨_,rfl,rfl,λi hi=>(by cases hi)⟩,⟨_,rfl,rfl,λi hi=>(by cases hi)⟩,trivial⟩,?_⟩
   generalize X.aI mw=vv at cf ⊢
   obtain⟨jb,iW,rfl⟩:=cf.form
   refine mz ?_
   refine VO.lj (qg _ _) bB (t:=44) (e:=147) (s:=39) (i:=87) (n:=us.length) (c:=cB) (vs:=vc) (sp:=vd.map .val) (es:=us) (a:=.slice jb ru.length iW) (cs:=[.slice jb ru.length iW]) rfl rfl rfl rfl rfl rfl rfl rfl (bP rfl) rfl (.inl rfl) rfl (hNB.kp bB (aF.eH (show aF rX dp _ from eS))) rfl ⟨rfl,_,_,_,rfl⟩ aa (λmH cap sp ρ LX Jy fv iV=>wV rfl ?_)
   refine mz ?_
   refine VS.kc rfl (R-(us.length+1)) aa (λw' bu k' o' oy=> ?_)
   have nA:aF rX dp w':=(show aF rX dp mH from eS).aw k'
   have rI:ak w w':=eK.aB (fT.aw aQ) o'.1 (λx hx=>by
    rcases List.mem_cons.1 hx with rfl|hx
    ·omega
    ·rw[List.mem_singleton.1 hx];omega)
   have hst:fH VE 1 147 40 (.row 40 0 (us.length+1) cap) [(40,(147,_))] mH (us++[.slice jb ru.length iW]):=.inr ⟨_,cap,_,sp,rfl,rfl,iV⟩
   have ji:=hst.told bB oy (λx hx=>by cases List.mem_singleton.1 hx;rfl) k'.eH w.heap.size (λh=>(da (show fG 43 [g,b0] dp 40 (bu 40) from h)).elim (λq=>Nat.le_trans uZ (Nat.le_trans rF q)) (λq=>by
    rcases List.mem_cons.1 q with h|h
    ·rw[h];omega
    ·rw[List.mem_singleton.1 h];omega))
   have nS:=oy.own 86 _ _ rfl
   have fj:bu 86=g:=(qe nS 0 g rfl rfl).1
   refine⟨[(1,.pointer (some ⟨g1,0,none⟩)),(2,.pointer (some ⟨g4,0,none⟩)),(3,.pointer (some ⟨bu 86,0,none⟩)),(4,.int .i64 ((us.length+1:Nat):Int))],⟨⟨_,_,rfl,rfl,rfl⟩,⟨_,_,rfl,rfl,rfl⟩,⟨_,_,rfl,rfl,rfl⟩,⟨_,_,rfl,congrArg (λz=>Value.int .i64 z) (aD (i:=us.length) aa),rfl⟩,trivial⟩,us.length+1,g4,bu 86,g1,.slice (some ⟨bu 40,0,none⟩) (us.length+1) cap,us++[Value.slice jb ru.length iW],by omega,rfl,rfl,rI,fI,by rw[fj];exact GG,by rw[fj];exact gQ,(jd.aB aQ).but o'.1 (by simp[gQ,AD]),nS.cls,ji,by simp,?_,?_,Mu,by rw[fj];exact AE,(xG.aB aQ).but o'.1 (by simp[AE,hg1b])⟩
   ·exact iy (vs:=us) (l:=t) (P:=λu r=>aC (dk kk) 4 38 w.heap.size w' u r) (λi u r hi hr=>((lz i u r hi hr).aB (dk.el kk) aQ).kp (dk.el kk) nA rfl) mO ((cf.kp (dk.el kk) nA rfl).mono uZ)
   ·exact dY (us:=us) GH (λi v b hi hb=>by
     obtain⟨r,hr⟩:∃ r,t[i]? =some r:=⟨_,List.getElem?_eq_getElem (by have:=(List.getElem?_eq_some_iff.1 hi).1;omega)⟩
     exact ((lz i v r hi hr).du hb).2) (λb hb=>(cf.du hb).1)
 refine VS.aP rfl (decide_eq_false (λh=>JB (Int.ofNat_lt.1 h))) ?_
 obtain rfl:R=e:=by omega
 (repeat (first|refine wN ?_|refine wP rfl ?_|refine wO rfl rfl ?_))
 obtain⟨pv,cv,rfl⟩:=Ay.form
 refine VS.ea tW (λt=>Nat.beq t 23) table (λ_ _ _=>trivial) (λdp mw k1 sY yj=> ?_)
 have aQ:ak W dp:=sY
 have lB:et tW 43 [g4] [(46,[.val (.slice none 0 0)])] dp:=by
  refine⟨rfl,by simp,λj g' c' hj hc=> ?_,λc' hc=> ?_,λc' hc k hk=> ?_⟩
  ·match j,hj,hc with
   | 0,hj,hc=>cases hj;cases hc;exact jd.aB aQ
   | j+1,hj,_=>simp at hj
  ·cases List.mem_singleton.1 hc
   exact⟨rfl,rfl⟩
  ·cases List.mem_singleton.1 hc
   cases hk
 refine⟨[g4],[(46,[.val (.slice none 0 0)])],lB,[(2,.box 86 0),(3,.val (.pointer (some ⟨g,0,none⟩)))],⟨⟨_,rfl,rfl,λi hi=>by rw[(by simpa [AV.ids] using hi:i=86)];exact⟨(by show 86<=86;omega),(by show 86<2*43+1;omega)⟩⟩,⟨_,rfl,rfl,λi hi=>(by cases hi)⟩,trivial⟩,?_⟩
 refine ck ?_
 refine VO.eJ rfl [.slice pv us.length cv] rfl (at_one (ik (λh=>gQ h.symm) ((xk.aB aQ).cell (j:=0) rfl))) (wV rfl ?_)
 refine ck ?_
 refine VS.pP (gP _ _) rfl (λwz β kz bz en=> ?_)
 have rI:ak w wz:=eK.aB (fT.aw aQ) bz.1 (λx hx=>by rw[List.mem_singleton.1 hx];exact fI)
 have hT:eu (dk kk) 147 38 w.heap.size W (.slice pv us.length cv) t:=⟨us,Ay,by omega,lz,GH⟩
 exact⟨_,rfl,hT.kp (dk.el kk) (T:=λt=> !Nat.beq t 46) ((aF.of aQ).aw (eK.kp bz.1 (λx hx=>⟨46,[.slice none 0 0],by rw[List.mem_singleton.1 hx];exact jd.aB aQ,rfl,rfl⟩))) rfl rfl,rI⟩
set_option maxRecDepth 4000
abbrev AR:TypeId->Bool:=λt=>(Nat.beq t 74 || (Nat.beq t 76 || (Nat.beq t 67 || (Nat.beq t 147 || Nat.beq t 38))))
abbrev rO (P:Program) (w:World) (N:Nat):Cx:={ P:=P,w0:=w,N:=N,K:=⟨UU,λ_=>True,λt=>AR t⟩,SU:=λt=>Nat.beq t 23,ti:=table,keep:=λ_ _=>trivial }
theorem gR (w:World) (N:Nat):(rO Tryz.prog w N).Ok:=dA
theorem Fw (w:World) (N:Nat):(rO Tryz.prog w N).P.follows .mixedOrders=true:=by show Tryz.prog.follows .mixedOrders=true;kernel_rfl
section
variable {F F':Fr} {H H':Hp} {w w1:World} {N:Nat} {l':List Oper} {Q:Exit->Act->World->Prop} {k:List It} {id:Nat} {ops:Array Oper}
theorem cxE2_r (e:gl (rO Tryz.prog w1 N) ops 80 ops.toList F H=(l',F',H')) (h:ar (rO Tryz.prog w1 N) none ops l' (VS (rO Tryz.prog w1 N) Q k) F' H' w):VS (rO Tryz.prog w1 N) Q (.code (.region id ops false)::k) F H w:=VS.region (gR _ _) (VO.run 80 e h)
theorem cxE2_d (e:gl (rO Tryz.prog w1 N) ops 80 ops.toList F H=(l',F',H')) (h:ar (rO Tryz.prog w1 N) (some []) ops l' (VS (rO Tryz.prog w1 N) Q k) F' H' w) (jh:ij (rO Tryz.prog w1 N).SU [] ops=true:=by kernel_rfl):VS (rO Tryz.prog w1 N) Q (.code (.region id ops true)::k) F H w:=VS.draw (gR _ _) (Fw _ _) [] jh (VO.run 80 e h)
end
theorem kE2 {w0 w w':World} {N:Nat} (h:aF (rO Tryz.prog w0 N).K w w':=by exact eS):Kp UU w w':=h.eH
def gS (t:List (List Rw)):db:=t.map λr=>r.map Rw.q
theorem qj {kk:Nat} {w:World} {v:Value} {t:List (List Rw)} (h:aO (iL (dk kk)) 1 w v t):aO (cM kk) 1 w v (gS t):=rK h (λcs r hr=>by
 obtain⟨u,rfl,h1⟩:=hr
 refine⟨u,rfl,rK h1 (λcs x hx=> ?_)⟩
 have lG:=hx
 obtain⟨s,p,n,c,t,y,m,d,rfl,_⟩:=hx
 exact⟨_,_,_,_,_,_,_,_,rfl,lG.in⟩)
set_option maxRecDepth 4000
theorem mJ.raw {kk:Nat} {w:World} {cs:List Value} {q:Rat} (h:mJ kk w cs q):dk kk w cs (Rw.of q):=by
 obtain⟨s,p,n,c,t,y,m,d,rfl,h1,h2⟩:=h
 exact dk.of h1 h2
def yl (t:db):List (List Rw):=t.map λr=>r.map Rw.of
theorem rP {kk:Nat} {w:World} {v:Value} {t:db} (h:aO (iL (mJ kk)) 1 w v t):aO (iL (dk kk)) 1 w v (yl t):=rK h (λcs r hr=>by
 obtain⟨u,rfl,h1⟩:=hr
 exact⟨u,rfl,rK h1 (λcs x hx=>hx.raw)⟩)
theorem di.raw {kk B:Nat} {w:World} {v:Value} {t:db} (h:di kk B w v t):aO (iL (dk kk)) 1 w v (yl t):=by
 obtain⟨us,g1,g2,g3,_⟩:=h
 exact rP (uY (g1.sl bB) g2 (λi u r hi hr=>⟨u,rfl,((g3 i u r hi hr).imp (λ_ _ h=>h.q)).sl (ba kk)⟩))
set_option maxRecDepth 4000 in
theorem rQ (v u:Value) (t:List (List Rw)) (j k:Nat) (w:World) (hv:aO (iL (dk j)) 1 w v t) (hu:aO (iL (dk k)) 1 w u t):
  Calls Tryz.prog 14 #[.agg #[v],.agg #[u]] w λo w'=>o=.returned (.bool true)/\ak w w':=by
 obtain⟨p,c,rfl,eV,fm⟩:=hv.form
 obtain⟨p2,c2,rfl⟩:=hu.sl
 obtain⟨R,hR⟩:∃ R,R=t.length:=⟨_,rfl⟩
 rw[<-hR] at hv hu eV
 rw[<-hR]
 refine af (C:=aW Tryz.prog w _) (args:=[_,_]) Tryz.func14 rfl Tryz.ntmps14 (bP rfl) ?_
 refine ae ?_
 refine VS.aP rfl (tQ aa) ?_
 refine ae ?_
 refine VS.loop (J:=λm L M w'=>∃ e:Nat,e<=R/\m=R-e/\L=[(2,.box 2 0),(3,.box 3 0),(5,.val (.int .i64 (e:Int)))]/\M=[(2,(52,[.val (.slice p R c)])),(3,(46,[.val (.slice p2 R c2)]))]) R ⟨_,_,?_,?_,?_,?_,⟨0,by omega,rfl,rfl,rfl⟩⟩ ?_
 ·exact ew
 ·exact ew
 ·rfl
 ·exact kH
 rintro m L M wJ ⟨e,he,rfl,rfl,rfl⟩
 refine ae ?_
 by_cases hle:e<R
 rotate_left
 ·refine VS.aP rfl (decide_eq_false (λe=>hle (Int.ofNat_lt.1 e))) ?_
  refine ae ?_
  refine aX ?_;intro wz kz bz
  exact⟨rfl,bz⟩
 obtain⟨ru,mO⟩:∃ x,t[e]? =some x:=⟨_,List.getElem?_eq_getElem aa⟩
 obtain⟨b,off,cs,rfl,hc,⟨rv,rfl,pk⟩⟩:=hv.at mO
 obtain⟨b2,rj,cs2,rfl,nG,⟨rv2,rfl,ky⟩⟩:=hu.at mO
 obtain⟨p3,c3,rfl,hKc,hcc⟩:=pk.form
 obtain⟨p4,c4,rfl⟩:=ky.sl
 obtain⟨K,hK⟩:∃ K,K=ru.length:=⟨_,rfl⟩
 rw[<-hK] at pk ky hc nG hKc
 refine VS.aR rfl (decide_eq_true (Int.ofNat_lt.2 hle)) ?_
 refine ae ?_
 refine VO.cond rfl dc ?_
 refine wV rfl ?_
 refine ae ?_
 refine VO.read rfl [.slice p3 K c3] rfl (ax hc) (wV rfl ?_)
 refine ae ?_
 refine VO.cond rfl dc ?_
 refine wV rfl ?_
 refine ae ?_
 refine VO.read rfl [.slice p4 K c4] rfl (ax nG) (wV rfl ?_)
 refine ae ?_
 refine VS.aP rfl (tQ aa) ?_
 refine ae ?_
 refine VS.loop (J:=λm L M w'=>∃ q:Nat,q<=K/\m=K-q/\L=[(2,.box 2 0),(3,.box 3 0),(5,.val (.int .i64 (e:Int))),(6,.val (.int .i64 (q:Int)))]/\M=[(2,(52,[.val (.slice (some ⟨b,off,none⟩) R c)])),(3,(46,[.val (.slice (some ⟨b2,rj,none⟩) R c2)]))]) K ⟨_,_,?_,?_,?_,?_,⟨0,by omega,rfl,rfl,rfl⟩⟩ ?_
 ·exact ew
 ·exact ew
 ·rfl
 ·exact kH
 rintro m L M wM ⟨q,hq,rfl,rfl,rfl⟩
 refine ae ?_
 refine VO.cond rfl dc ?_
 refine wV rfl ?_
 refine ae ?_
 refine VO.read rfl [.slice p3 K c3] rfl (ax hc) (wV rfl ?_)
 refine ae ?_
 by_cases EF:q<K
 rotate_left
 ·refine VS.aP rfl (decide_eq_false (λe=>EF (Int.ofNat_lt.1 e))) ?_
  refine ae ?_
  refine VS.back (R-(e+1)) aa ⟨_,_,?_,?_,?_,?_,⟨e+1,by omega,rfl,rfl,rfl⟩⟩
  ·refine⟨rfl,rfl,?_,trivial⟩
   rw[<-aD (i:=e) aa];rfl
  ·exact ew
  ·rfl
  ·exact kH
 obtain⟨x,hx⟩:∃ x,ru[q]? =some x:=⟨_,List.getElem?_eq_getElem aa⟩
 obtain⟨b5,off5,cs5,rfl,ET,hel5⟩:=pk.at hx
 obtain⟨b6,off6,cs6,rfl,hc6,hel6⟩:=ky.at hx
 obtain⟨s5,p5,c5,t5,y5,d5,rfl,hw5⟩:=hel5.form
 obtain⟨s6,p6,c6,t6,y6,d6,rfl,hw6⟩:=hel6.form
 refine VS.aR rfl (decide_eq_true (Int.ofNat_lt.2 EF)) ?_
 refine ae ?_
 refine VO.cond rfl dc ?_
 refine wV rfl ?_
 refine ae ?_
 refine VO.read rfl [.slice (some ⟨b5,off5,none⟩) K c3] rfl (ax hc) (wV rfl ?_)
 refine ae ?_
 refine VO.cond rfl dc ?_
 refine wV rfl ?_
 refine ae ?_
 refine VO.read rfl [.bool s5,.slice p5 x.xs.length c5,.bool t5,.slice y5 x.ys.length d5] rfl (er ET 0 _ ⟨[],rfl⟩) (wV rfl ?_)
 refine ae ?_
 refine VO.cond rfl dc ?_
 refine wV rfl ?_
 refine ae ?_
 refine VO.read rfl [.slice (some ⟨b6,off6,none⟩) K c4] rfl (ax nG) (wV rfl ?_)
 refine ae ?_
 refine VO.cond rfl dc ?_
 refine wV rfl ?_
 refine ae ?_
 refine VO.read rfl [.bool s6,.slice p6 x.xs.length c6,.bool t6,.slice y6 x.ys.length d6] rfl (er hc6 0 _ ⟨[],rfl⟩) (wV rfl ?_)
 refine ae ?_
 refine VO.cB rfl rfl (fk Tryz.func25) (λbo cj bD=>zi _ _ _ _ _ _ bo (hw5.kp (Kp.of (U:=UU) bD)) (hw6.kp (Kp.of (U:=UU) bD))) (λbo cj bD w1 aL dh _ bb1=>wV rfl ?_)
 refine ae ?_
 refine VS.back (K-(q+1)) aa ⟨_,_,?_,?_,?_,?_,⟨q+1,by omega,rfl,rfl,rfl⟩⟩
 ·refine⟨rfl,rfl,rfl,?_,trivial⟩
  rw[<-aD (i:=q) aa];rfl
 ·exact ew
 ·rfl
 ·exact kH
end
section
open Go.RowKit
def iz (w:World) (B:Nat) (p:Option Addr) (n:Nat):Prop:=n=0\/∃ g cur,p=some ⟨g,0,none⟩/\B<=g/\w.heap[g]? =some (Obj.cells cur UU (0,0))/\n<=cur.size
def Husk (w:World) (B:Nat) (v:Value):Prop:=∃ s p n c t r m d,v=.agg #[.bool s,.slice p n c,.bool t,.slice r m d]/\iz w B p n/\n<=9223372036854775807/\iz w B r m/\m<=9223372036854775807
theorem iz.own {w:World} {B n:Nat} {p:Option Addr} {c:Nat} {xs:List Value} (h:w.ownsRow B UU 1 (.slice p n c) n xs):iz w B p n:=by
 rcases h.2 with ⟨h1,_⟩|⟨g,cap,cur,hv,hb,hg,h1,h2,h3,_⟩
 ·simp only[Value.slice.injEq] at h1
  exact .inl h1.2.1
 ·simp only[Value.slice.injEq,true_and] at hv
  obtain⟨xz,_⟩:=hv
  exact .inr ⟨g,cur,xz,hb,hg,by omega⟩
theorem au.row {w:World} {B:Nat} {s:Bool} {p:Option Addr} {n c:Nat} {X:Int} (h:au w B (.agg #[.bool s,.slice p n c]) X):iz w B p n/\n<=9223372036854775807:=by
 obtain⟨p',c',hv,ho⟩:=h
 simp only[Value.agg.injEq,Array.mk.injEq,List.cons.injEq,and_true,Value.slice.injEq] at hv
 obtain⟨_,rfl,rfl,rfl⟩:=hv
 obtain⟨_,_,hv,h1,h2,_⟩:=(Rd.own ho).u32
 exact⟨.own ho,by omega⟩
theorem bh.husk {w:World} {B:Nat} {v:Value} {q:Rat} (h:bh w B v q):Husk w B v:=by
 obtain⟨s,p,n,c,t,r,m,d,rfl,h1,h2⟩:=h
 exact⟨s,p,n,c,t,r,m,d,rfl,h1.row.1,h1.row.2,h2.row.1,h2.row.2⟩
def Hk (w w':World):Prop:=∀ (g:Nat) (cur:Array Value),w.heap[g]? =some (Obj.cells cur UU (0,0))->∃ rh,w'.heap[g]? =some (Obj.cells rh UU (0,0))/\rh.size=cur.size
theorem Hk.aw {a b c:World} (h:Hk a b) (k:Hk b c):Hk a c:=λg cur hg=>by
 obtain⟨c1,h1,e1⟩:=h g cur hg
 obtain⟨c2,h2,e2⟩:=k g c1 h1
 exact⟨c2,h2,e2.trans e1⟩
theorem Hk.kp {w w':World} (h:Kp UU w w'):Hk w w':=λg cur hg=>⟨cur,h.block UU g cur rfl trivial hg,rfl⟩
theorem iz.hk {B:Nat} {w w':World} {p:Option Addr} {n:Nat} (h:iz w B p n) (k:Hk w w'):iz w' B p n:=by
 rcases h with h|⟨g,cur,hp,hb,hg,hn⟩
 ·exact .inl h
 ·obtain⟨c1,h1,e1⟩:=k g cur hg
  exact .inr ⟨g,c1,hp,hb,h1,by omega⟩
section
variable {C:Cx} {Q:Exit->Act->World->Prop} {k:List It} {F:Fr} {H:Hp} {w:World}
end
def Zb (w:World) (B g:Nat):Prop:=B<=g/\∃ cur:Array Value,w.heap[g]? =some (Obj.cells cur UU (0,0))
structure rR (B:Nat) (w w':World):Prop where
 os:w'.os=w.os
 tape:w'.tape=w.tape
 output:w'.output=w.output
 size:w.heap.size<=w'.heap.size
 du:∀ b:Nat,b<w.heap.size->¬ Zb w B b->w'.heap[b]? =w.heap[b]?
theorem rR.refl (B:Nat) (w:World):rR B w w:=⟨rfl,rfl,rfl,Nat.le_refl _,λ_ _ _=>rfl⟩
theorem rR.aw {B:Nat} {w a b:World} (h:rR B w a) (k:ak a b):rR B w b:=
 ⟨k.os.trans h.os,k.tape.trans h.tape,k.output.trans h.output,Nat.le_trans h.size k.size,λx hx hz=>(Below.block k x (Nat.lt_of_lt_of_le hx h.size)).trans (h.du x hx hz)⟩
theorem rR.set {B:Nat} {w a:World} (h:rR B w a) {b o:Nat} {vs:List Value} (hb:w.heap.size<=b\/Zb w B b):rR B w (a.setCells b o vs):=by
 obtain⟨e1,e2,e3,e4⟩:=fF (b:=b) vs o a
 refine⟨e1.trans h.os,e2.trans h.tape,e3.trans h.output,Nat.le_trans h.size e4,λx hx hz=>(cD vs o a x (λe=> ?_)).trans (h.du x hx hz)⟩
 subst e
 rcases hb with hb|hb
 ·omega
 ·exact hz hb
abbrev cxS (P:Program) (w:World) (N:Nat) (B:Nat):Cx:={ P:=P,w0:=w,N:=N,K:=KU UU,SU:=λt=>Nat.beq t 23,ti:=table,keep:=λ_ _=>trivial
                                                       uM:=λ_ g=>w.heap.size<=g\/Zb w B g
                                                       Old:=λw'=>rR B w w'
                                                       vP:=λ_ _ _ h=>.inl h
                                                       BB:=λ_ _ _ h _=>h
                                                       jf:=λ_ h=>h.size
                                                       jg:=rR.refl _ _
                                                       lP:=λa b h _ _ s=>⟨s.os.trans h.os,s.tape.trans h.tape,s.output.trans h.output,Nat.le_trans h.size s.size,λx hx hz=>by
                                                        rcases s.du x (Nat.lt_of_lt_of_le hx h.size) with e|⟨⟨_,hi⟩,_⟩|e
                                                        ·exact e.trans (h.du x hx hz)
                                                        ·rcases hi with hi|hi
                                                         ·omega
                                                         ·exact absurd hi hz
                                                        ·exact absurd trivial e⟩
                                                       qJ:=λa ad u h hn hc=>by
                                                        have hb:=fJ hc
                                                        rw[World.cell?_of_block (w:=w) (h.du ad.block hb (λhz=>hn 0 (.inr hz)))]
                                                        exact hc
                                                       lay:=λw1 H h _ hf=>by
                                                        obtain⟨β,w2,h1,h2,h3,h4⟩:=nU (K:=KU UU) (ak.refl w1) H hf
                                                        exact⟨β,w2,h1,h.aw h2,λi t cs hi=>⟨.inl (Nat.le_trans h.size (h3 i t cs hi).1),(h3 i t cs hi).2⟩,h4⟩ }
theorem Mw (w:World) (N B:Nat):(cxS Tryz.prog w N B).Ok:=dA
section
variable {Q:Exit->Act->World->Prop} {F F':Fr} {H H':Hp} {w w1:World} {N B:Nat} {l':List Oper} {k:List It} {id:Nat} {ops:Array Oper}
theorem cxS_r (e:gl (cxS Tryz.prog w1 N B) ops 80 ops.toList F H=(l',F',H')) (h:ar (cxS Tryz.prog w1 N B) none ops l' (VS (cxS Tryz.prog w1 N B) Q k) F' H' w):VS (cxS Tryz.prog w1 N B) Q (.code (.region id ops false)::k) F H w:=VS.region (Mw _ _ _) (VO.run 80 e h)
theorem at_sp {b off:Nat} {cs:List Value} {t:TypeId} {cur:Array Value} (hc:aE w b t cur) (ht:t≠UU) (h:∀ (j:Nat) (u:Value),cs[j]? =some u->w.cell? ((⟨b,off,none⟩:Addr).add j)=some u):∀ (j:Nat) (u:Value),cs[j]? =some u->(cxS Tryz.prog w N B).At ((⟨b,off,none⟩:Addr).add j) u:=by
 intro j u hj w1 rV
 have h0:=h j u hj
 rw[Addr.add_mid] at h0 ⊢
 rw[World.cell?_of_block (w:=w) (a:=⟨b,off+j,none⟩) (rV.du b hc.lt (λhz=>by
  obtain⟨_,c,hz⟩:=hz
  have:=hc.symm.trans hz
  cases this
  exact ht rfl))]
 exact h0
end
section
variable {C:Cx} {β:Nat->Nat} {F:Fr} {H:Hp} {a:Act} {w:World} {Q:Exit->Act->World->Prop} {k:List It}
theorem uc (hC:C.Ok) {m:Option (List FuncId)} {full:Array Oper} {K:Fr->Hp->World->Prop} {q:Act->World->Prop} {tl:List Oper} (hQ:∀ β F H w a w',K F H w->Rel C β F H a w'->aF C.K w w'->wpList C.P full Q tl a w'):
  ∀ (l:List Oper) (β:Nat->Nat) (F:Fr) (H:Hp) (w:World) (a:Act) (w':World),ar C m full l K F H w->Rel C β F H a w'->aF C.K w w'->wpList C.P full Q (l++tl) a w'
 | [],β,F,H,w,a,w',h,hr,hk=>hQ β F H w a w' h hr hk
 | o::r,β,F,H,w,a,w',h,hr,hk=>by
   refine wpList_step λK' hK'=> ?_
   exact ld hC (k:=ar C m full r K) h hr hk λbu F' H' w1 a' dp h1 h2 h3=>hK' _ _ (uc hC (q:=q) hQ r bu F' H' w1 a' dp h1 h2 h3)
theorem Rel.overV (hr:Rel C β F H a w) {b o:Nat} {vs:List Value} {cur:Array Value} {ty:TypeId} (hO:C.Old (w.setCells b o vs)) (hc:w.heap[b]? =some (Obj.cells cur ty (0,0))) (ht:C.K.fz ty=true):Rel C β F H a (w.setCells b o vs):=by
 refine⟨hr.defers,hr.size,hr.tmp,λi t cs h=> ?_,hr.apart,hr.closed,hr.fits,hr.hp,hO⟩
 obtain⟨h1,h2,h3,h4⟩:=hr.own i t cs h
 refine⟨h1,h2,(cD vs o w _ (λe=> ?_)).trans h3,h4⟩
 rw[e] at h3
 have:=hc.symm.trans h3
 cases this
 rw[h2] at ht
 cases ht
def StoV (C:Cx) (Q:Exit->Act->World->Prop) (k:List It) (full:Array Oper) (o:Oper) (F:Fr) (H:Hp) (w:World):Prop:=
 ∃ t x y b off i v,o.op=.store t x y/\iZ C.N o.dst=true/\wants full F o=some true/\ev F x=some (.val (.pointer (some ⟨b,off,none⟩)))/\gV F y=some v/\C.ti t=some i/\v.cells.size=i.size/\v.cells.toList.all Value.oneCell'=true/\
   ∀ w1,aF C.K w w1->C.Old w1->∃ cur ty,w1.heap[b]? =some (Obj.cells cur ty (0,0))/\off+i.size<=cur.size/\C.K.fz ty=true/\C.Old (w1.setCells b off v.cells.toList)/\VS C Q k (F.bC o.dst (.val undef)) H (w1.setCells b off v.cells.toList)
theorem VS.GM (hC:C.Ok) {id:Nat} {ops:Array Oper} {o:Oper} (hl:ops.toList.getLast? =some o) (h:ar C none ops ops.toList.dropLast (StoV C Q k ops o) F H w):VS C Q (.code (.region id ops false)::k) F H w:=λβ a w' hr hk=>by
 have hops:ops.toList=ops.toList.dropLast++[o]:=by
  obtain⟨l,hl⟩:=List.getLast?_eq_some_iff.1 hl
  rw[hl];simp
 generalize ops.toList.dropLast=pre at*
 refine wp_region_list ?_
 rw[hops]
 refine uc hC (q:=λ_ _=>True) (λβ F H w a w' h hr hk=> ?_) pre β F H w a w' h hr hk
 obtain⟨t,x,y,b,off,i,v,hop,hd,hw,hx,hy,hi,hsz,Aa,hc⟩:=h
 obtain⟨cur,ty,h1,h2,h3,h5,h4⟩:=hc w' hk hr.old
 refine wpList_step λK' hK'=> ?_
 rw[fW hr hw,if_pos rfl]
 have ky:=hr.overV (o:=off) (vs:=v.cells.toList) h5 h1 h3
 have Jv:a.eval x=.pointer (some ⟨b,off,none⟩):=hr.ev hx
 have hy':a.eval y=v:=hr.gV hy
 have hz:=(hC t i hi).size
 refine Oper.wp_skip (w':=w'.setCells b off v.cells.toList) ?_ (hK' _ _ (h4 β _ _ (ky.put hd (v:=.val undef) (λ_ hi=>by cases hi)) (aF.refl _ _)))
 cases hq:C.P.info? t with
 | none=>rw[hq] at hz;simp at hz
 | some ti=>
   rw[hq] at hz
   simp at hz
   have:=run_storeCells_cells (P:=C.P) b off v.cells.toList 0 w' (λj hj=>by
     obtain⟨z,hz⟩:∃ z,cur[off+j]? =some z:=⟨_,Array.getElem?_eq_getElem (by rw[Array.length_toList] at hj;omega)⟩
     rw[Nat.add_zero,aE.cell (b:=b) h1 hz];rfl)
    (λj _=>aE.frozen (b:=b) h1 _) (λz hz=>List.all_eq_true.1 Aa z hz)
   rw[Nat.add_zero] at this
   have hst:(Instr.storeAt t (.pointer (some ⟨b,off,none⟩)) v).run C.P w'=.ok () (w'.setCells b off v.cells.toList):=by
    simp only[Instr.storeAt,Instr.sureAddr,storeVar,sizeOf,typeInfo,Sem.run_bind,Sem.run_pure,Result.andThen_ok]
    simp[hq,hz,hsz,this]
   simp[execOp,hop,Jv,hy',hst]
end
theorem Hk.set {w a:World} (h:Hk w a) {b o:Nat} {vs:List Value} {cur:Array Value} (hc:a.heap[b]? =some (Obj.cells cur UU (0,0))):Hk w (a.setCells b o vs):=λg c hg=>by
 obtain⟨c1,h1,e1⟩:=h g c hg
 by_cases e:g=b
 ·subst e
  obtain⟨c2,h2,e2⟩:=nJ vs o a c1 h1
  exact⟨c2,h2,e2.trans e1⟩
 ·exact⟨c1,(cD vs o a g e).trans h1,e1⟩
end
set_option maxRecDepth 4000
section
open Go.RowKit
attribute [local irreducible] ar VS
abbrev nP:TypeId:=27
def Zx (w:World) (B g:Nat):Prop:=B<=g/\∃ (cur:Array Value) (t:TypeId),(t=UU\/t=nP)/\w.heap[g]? =some (Obj.cells cur t (0,0))
structure nQ (B:Nat) (w w':World):Prop where
 os:w'.os=w.os
 tape:w'.tape=w.tape
 output:w'.output=w.output
 size:w.heap.size<=w'.heap.size
 du:∀ b:Nat,b<w.heap.size->¬ Zx w B b->w'.heap[b]? =w.heap[b]?
theorem nQ.refl (B:Nat) (w:World):nQ B w w:=⟨rfl,rfl,rfl,Nat.le_refl _,λ_ _ _=>rfl⟩
theorem nQ.aw {B:Nat} {w a b:World} (h:nQ B w a) (k:ak a b):nQ B w b:=
 ⟨k.os.trans h.os,k.tape.trans h.tape,k.output.trans h.output,Nat.le_trans h.size k.size,λx hx hz=>(Below.block k x (Nat.lt_of_lt_of_le hx h.size)).trans (h.du x hx hz)⟩
theorem nQ.set {B:Nat} {w a:World} (h:nQ B w a) {b o:Nat} {vs:List Value} (hb:w.heap.size<=b\/Zx w B b):nQ B w (a.setCells b o vs):=by
 obtain⟨e1,e2,e3,e4⟩:=fF (b:=b) vs o a
 refine⟨e1.trans h.os,e2.trans h.tape,e3.trans h.output,Nat.le_trans h.size e4,λx hx hz=>(cD vs o a x (λe=> ?_)).trans (h.du x hx hz)⟩
 subst e
 rcases hb with hb|hb
 ·omega
 ·exact hz hb
theorem nQ.below {B:Nat} {w0 w w':World} (h0:Below B w0 w) (hB:B<=w.heap.size) (h:nQ B w w'):Below B w0 w':=Below.trans h0 ⟨h.os,h.tape,h.output,h.size,λb hb=>h.du b (Nat.lt_of_lt_of_le hb hB) (λhz=>by have:=hz.1;omega)⟩
abbrev KX4:KC:=⟨UU,λ_=>True,λt=>Nat.beq t nP⟩
abbrev cxX (P:Program) (w:World) (N:Nat) (B:Nat):Cx:={ P:=P,w0:=w,N:=N,K:=KX4,SU:=λt=>Nat.beq t 23,ti:=table,keep:=λ_ _=>trivial
                                                       uM:=λ_ g=>w.heap.size<=g\/Zx w B g
                                                       Old:=λw'=>nQ B w w'
                                                       vP:=λ_ _ _ h=>.inl h
                                                       BB:=λ_ _ _ h _=>h
                                                       jf:=λ_ h=>h.size
                                                       jg:=nQ.refl _ _
                                                       lP:=λa b h _ _ s=>⟨s.os.trans h.os,s.tape.trans h.tape,s.output.trans h.output,Nat.le_trans h.size s.size,λx hx hz=>by
                                                        rcases s.du x (Nat.lt_of_lt_of_le hx h.size) with e|⟨⟨_,hi⟩,_⟩|e
                                                        ·exact e.trans (h.du x hx hz)
                                                        ·rcases hi with hi|hi
                                                         ·omega
                                                         ·exact absurd hi hz
                                                        ·exact absurd trivial e⟩
                                                       qJ:=λa ad u h hn hc=>by
                                                        have hb:=fJ hc
                                                        rw[World.cell?_of_block (w:=w) (h.du ad.block hb (λhz=>hn 0 (.inr hz)))]
                                                        exact hc
                                                       lay:=λw1 H h _ hf=>by
                                                        obtain⟨β,w2,h1,h2,h3,h4⟩:=nU (K:=KX4) (ak.refl w1) H hf
                                                        exact⟨β,w2,h1,h.aw h2,λi t cs hi=>⟨.inl (Nat.le_trans h.size (h3 i t cs hi).1),(h3 i t cs hi).2⟩,h4⟩ }
theorem Mx (w:World) (N B:Nat):(cxX Tryz.prog w N B).Ok:=dA
section
variable {Q:Exit->Act->World->Prop} {F F':Fr} {H H':Hp} {w w1:World} {N B:Nat} {l':List Oper} {k:List It} {id:Nat} {ops:Array Oper}
theorem cxX_r (e:gl (cxX Tryz.prog w1 N B) ops 80 ops.toList F H=(l',F',H')) (h:ar (cxX Tryz.prog w1 N B) none ops l' (VS (cxX Tryz.prog w1 N B) Q k) F' H' w):VS (cxX Tryz.prog w1 N B) Q (.code (.region id ops false)::k) F H w:=VS.region (Mx _ _ _) (VO.run 80 e h)
theorem at_sx {b off:Nat} {cs:List Value} {t:TypeId} {cur:Array Value} (hc:aE w b t cur) (ht:t≠UU) (hr:t≠nP) (h:∀ (j:Nat) (u:Value),cs[j]? =some u->w.cell? ((⟨b,off,none⟩:Addr).add j)=some u):∀ (j:Nat) (u:Value),cs[j]? =some u->(cxX Tryz.prog w N B).At ((⟨b,off,none⟩:Addr).add j) u:=by
 intro j u hj w1 rV
 have h0:=h j u hj
 rw[Addr.add_mid] at h0 ⊢
 rw[World.cell?_of_block (w:=w) (a:=⟨b,off+j,none⟩) (rV.du b hc.lt (λhz=>by
  obtain⟨_,c,t',ht',hz⟩:=hz
  have:=hc.symm.trans hz
  cases this
  exact ht'.elim ht hr))]
 exact h0
end
theorem ud {b:Nat} {t:TypeId}:∀ (vs:List Value) (o:Nat) (w:World) (cur:Array Value),aE w b t cur->o+vs.length<=cur.size->∃ rh,aE (w.setCells b o vs) b t rh/\rh.size=cur.size/\(∀ j,(j<o\/o+vs.length<=j)->rh[j]? =cur[j]?)/\(∀ (j:Nat) (x:Value),vs[j]? =some x->rh[o+j]? =some x)
 | [],o,w,cur,h,_=>⟨cur,h,rfl,λ_ _=>rfl,λj x hj=>by simp at hj⟩
 | v::r,o,w,cur,h,hl=>by
   rw[List.length_cons] at hl
   obtain⟨rh,h1,h2,h3,h4⟩:=ud r (o+1) (w.setCell ⟨b,o,none⟩ v) (cur.setIfInBounds o v) (aE.set (b:=b) (t:=t) (cs:=cur) h v) (by simp;omega)
   refine⟨rh,h1,by rw[h2];simp,λj hj=> ?_,λj x hj=> ?_⟩
   ·rw[List.length_cons] at hj
    rw[h3 j aa,Array.getElem?_setIfInBounds,if_neg aa]
   ·cases j with
    | zero=>
      cases hj
      rw[Nat.add_zero,h3 o aa,Array.getElem?_setIfInBounds,if_pos rfl,if_pos aa]
    | succ j=>
      have:=h4 j x (by simpa using hj)
      rw[show o+(j+1)=o+1+j by omega];exact this
def jN (B:Nat) (w:World) (u:Value):Prop:=∃ p n c,u=.slice p n c/\n<=c/\c<=9223372036854775807/\(0<n->∃ b cur,p=some ⟨b,0,none⟩/\B<=b/\aE w b nP cur/\n*4<=cur.size/\∀ i,i<n->∃ s q k l t y m d,(∀ (j:Nat) (x:Value),[Value.bool s,.slice q k l,.bool t,.slice y m d][j]? =some x->cur[i*4+j]? =some x)/\iz w B y m/\m<=9223372036854775807)
def SpTab (B:Nat) (w:World) (v:Value):Prop:=∃ us,aC VE 1 105 0 w v us/\∀ u∈us,jN B w u
theorem jN.keep {B:Nat} {w w':World} {u:Value} (h:jN B w u) (h1:∀ (b:Nat) (cur:Array Value),aE w b nP cur->aE w' b nP cur) (h2:Hk w w'):jN B w' u:=by
 obtain⟨p,n,c,hu,a1,a2,h⟩:=h
 refine⟨p,n,c,hu,a1,a2,λhn=> ?_⟩
 obtain⟨b,cur,g1,g2,g3,g4,g5⟩:=h hn
 refine⟨b,cur,g1,g2,h1 b cur g3,g4,λi hi=> ?_⟩
 obtain⟨s,q,k,l,t,y,m,d,e1,e2,e3⟩:=g5 i hi
 exact⟨s,q,k,l,t,y,m,d,e1,e2.hk h2,e3⟩
theorem jN.put {B:Nat} {w:World} {u:Value} {b0 c0:Nat} {cur0:Array Value} (h:jN B w u) (hc:aE w b0 nP cur0) (hl:c0*4+4<=cur0.size):jN B (w.setCells b0 (c0*4) [.bool false,.slice none 0 0,.bool false,.slice none 0 0]) u:=by
 obtain⟨p,n,c,hu,a1,a2,h⟩:=h
 obtain⟨rh,k1,k2,k3,k4⟩:=ud (t:=nP) [.bool false,.slice none 0 0,.bool false,.slice none 0 0] (c0*4) w cur0 hc hl
 have hk:Hk w (w.setCells b0 (c0*4) [.bool false,.slice none 0 0,.bool false,.slice none 0 0]):=λg cur hg=>⟨cur,(cD _ _ w g (λe=>by
  subst e
  have:=hc.symm.trans hg
  injection this with this
  injection this with _ h2
  exact absurd h2 bZ)).trans hg,rfl⟩
 refine⟨p,n,c,hu,a1,a2,λhn=> ?_⟩
 obtain⟨b,cur,g1,g2,g3,g4,g5⟩:=h hn
 by_cases hb:b=b0
 ·subst hb
  have:=g3.symm.trans hc
  cases this
  refine⟨b,rh,g1,g2,k1,by rw[k2];exact g4,λi hi=> ?_⟩
  by_cases hic:i=c0
  ·subst hic
   exact⟨false,none,0,0,false,none,0,0,λj x hj=>k4 j x hj,.inl rfl,by omega⟩
  ·obtain⟨s,q,k,l,t,y,m,d,e1,e2,e3⟩:=g5 i hi
   refine⟨s,q,k,l,t,y,m,d,λj x hj=> ?_,e2.hk hk,e3⟩
   have hj4:=(List.getElem?_eq_some_iff.1 hj).1
   rw[k3 _ (by simp at hj4 ⊢;omega)]
   exact e1 j x hj
 ·refine⟨b,cur,g1,g2,(cD _ _ w b hb).trans g3,g4,λi hi=> ?_⟩
  obtain⟨s,q,k,l,t,y,m,d,e1,e2,e3⟩:=g5 i hi
  exact⟨s,q,k,l,t,y,m,d,e1,e2.hk hk,e3⟩
theorem lD {B:Nat} {w w':World} (h:ak w w') (hB:B<=w.heap.size):Below B w w':=⟨h.os,h.tape,h.output,h.size,λb hb=>Below.block h b (Nat.lt_of_lt_of_le hb hB)⟩
theorem jN.aB {B:Nat} {w w':World} {u:Value} (h:jN B w u) (hb:ak w w'):jN B w' u:=h.keep (λb cur hc=>hc.aB hb) (Hk.kp (Kp.of (U:=UU) hb))
theorem rR.cls {B:Nat} {w w':World} {b:Nat} {t:TypeId} {cur:Array Value} (h:rR B w w') (hc:aE w b t cur) (ht:t≠UU):aE w' b t cur:=(h.du b hc.lt (λhz=>by
 obtain⟨_,c,hz⟩:=hz
 have:=hc.symm.trans hz
 cases this
 exact ht rfl)).trans hc
theorem nQ.cls {B:Nat} {w w':World} {b:Nat} {t:TypeId} {cur:Array Value} (h:nQ B w w') (hc:aE w b t cur) (ht:t≠UU) (hr:t≠nP):aE w' b t cur:=(h.du b hc.lt (λhz=>by
 obtain⟨_,c,t',ht',hz⟩:=hz
 have:=hc.symm.trans hz
 cases this
 exact ht'.elim ht hr)).trans hc
theorem dW.ve {w w':World}:∀ {us:List Value} {vs:List (List Value)},dW VE w us vs->dW VE w' us vs
 | _,_,.nil=>.nil
 | _,_,.cons h t=>.cons h t.ve
theorem aC.ve {w w':World} {t:TypeId} {B:Nat} {v:Value} {us:List Value} (h:aC VE 1 t B w v us) (hc:∀ (b:Nat) (cur:Array Value),aE w b t cur->aE w' b t cur):aC VE 1 t B w' v us:=by
 rcases h with h|⟨b,c,vs,sp,g1,g2,g3,g4,g5⟩
 ·exact .inl h
 ·exact .inr ⟨b,c,vs,sp,g1,g2,hc _ _ g3,g4.ve,g5⟩
theorem My {P Q:Prop} (h:Q) (i:Q->P:=by intro h;(repeat first|refine wN ?_|refine wP rfl ?_|refine cxS_r rfl ?_|refine cxS_d rfl ?_|refine wO rfl rfl ?_);exact h):P:=i h
theorem wWcxX {P Q:Prop} (h:Q) (i:Q->P:=by intro h;(repeat first|refine wN ?_|refine wP rfl ?_|refine cxX_r rfl ?_|refine cxX_d rfl ?_|refine wO rfl rfl ?_);exact h):P:=i h
set_option maxRecDepth 4000 in
theorem uf (v:Value) (B:Nat) (w:World) (hB:B<=w.heap.size) (hv:SpTab B w v):
  Calls Tryz.prog 15 #[.agg #[v]] w λo w'=>o=.returned (.tuple #[])/\Below B w w':=by
 obtain⟨us,cf,lz⟩:=hv
 obtain⟨pv,cv,rfl⟩:=cf.form
 have hR63:us.length<=9223372036854775807:=by
  obtain⟨p,c,hv,h1,h2⟩:=(cf.sl bB).form
  omega
 obtain⟨R,hR⟩:∃ R,R=us.length:=⟨_,rfl⟩
 rw[<-hR] at cf hR63
 rw[<-hR]
 refine af (C:=aW Tryz.prog w _) (args:=[_]) Tryz.func15 rfl Tryz.ntmps15 (bP rfl) ?_
 refine ae ?_
 refine VS.rA (J:=λm L W=>∃ (e g1:Nat),e<=R/\m=R-e/\L=[(1,.pointer (some ⟨g1,0,none⟩)),(2,.int .i64 (e:Int))]/\Below B w W/\aE W g1 52 #[.slice pv R cv]/\aC VE 1 105 0 W (.slice pv R cv) us/\∀ u∈us,jN B W u)
  (λW=>aW Tryz.prog W 52) (λ_=>rfl) (λ_=>rfl) (λ_=>ak.refl _) R (λw' β k' o en=>⟨[(1,.pointer (some ⟨β 1,0,none⟩)),(2,.int .i64 ((0:Nat):Int))],⟨⟨_,_,rfl,rfl,rfl⟩,⟨_,_,rfl,rfl,rfl⟩,trivial⟩,0,β 1,by omega,rfl,rfl,lD o hB,(en.own 1 _ _ rfl).cls,cf.aB bB o,λu hu=>(lz u hu).aB o⟩) ?_
 rintro m L W ⟨e,g1,he,rfl,rfl,fT,xG,hrW,huW⟩
 have hBs:B<=W.heap.size:=Nat.le_trans hB fT.size
 refine ae ?_
 refine VO.read rfl [.slice pv R cv] rfl (bQ (xG.cell (j:=0) rfl)) (wV rfl ?_)
 refine ae ?_
 by_cases JB:e<R
 rotate_left
 ·refine VS.aP rfl (decide_eq_false (λh=>JB (Int.ofNat_lt.1 h))) ?_
  refine ae ?_
  refine VS.fin (bO _ _) rfl (λwz β kz bz en=> ?_)
  exact⟨rfl,Below.trans fT (lD bz hBs)⟩
 refine VS.aR rfl (decide_eq_true (Int.ofNat_lt.2 JB)) ?_
 refine ae ?_
 obtain⟨ue,hue⟩:∃ u,us[e]? =some u:=⟨_,List.getElem?_eq_getElem aa⟩
 have BZ:=List.mem_of_getElem? hue
 obtain⟨pu,n,cu,rfl,eV,fm,-⟩:=huW ue BZ
 refine VS.rA (J:=λm L W=>∃ c:Nat,c<=n/\m=n-c/\L=[(1,.pointer (some ⟨g1,0,none⟩)),(2,.int .i64 (e:Int)),(3,.int .i64 (c:Int))]/\Below B w W/\aE W g1 52 #[.slice pv R cv]/\aC VE 1 105 0 W (.slice pv R cv) us/\∀ u∈us,jN B W u)
  (λW=>aW Tryz.prog W 52) (λ_=>rfl) (λ_=>rfl) (λ_=>ak.refl _) n (λw' β k' o en=>⟨[(1,.pointer (some ⟨g1,0,none⟩)),(2,.int .i64 (e:Int)),(3,.int .i64 ((0:Nat):Int))],⟨⟨_,_,rfl,rfl,rfl⟩,⟨_,_,rfl,rfl,rfl⟩,⟨_,_,rfl,rfl,rfl⟩,trivial⟩,0,by omega,rfl,rfl,Below.trans fT (lD o hBs),xG.aB o,hrW.aB bB o,λu hu=>(huW u hu).aB o⟩) ?_
 rintro m L W2 ⟨c,hc,rfl,rfl,hBW2,DD,ky,xB⟩
 have hBs2:B<=W2.heap.size:=Nat.le_trans hB hBW2.size
 obtain⟨bR,oR,csR,rfl,hcR,hVE⟩:=(ky.sl bB).at hue
 obtain⟨rfl,-⟩:=hVE
 refine ae ?_
 refine VO.read rfl [.slice (some ⟨bR,oR,none⟩) R cv] rfl (bQ (DD.cell (j:=0) rfl)) (wV rfl ?_)
 refine ae ?_
 refine VO.cond rfl dc ?_
 refine wV rfl ?_
 refine ae ?_
 refine VO.read rfl [.slice pu n cu] rfl (ax hcR) (wV rfl ?_)
 refine ae ?_
 by_cases hcn:c<n
 rotate_left
 ·refine VS.aP rfl (decide_eq_false (λh=>hcn (Int.ofNat_lt.1 h))) ?_
  refine ae ?_
  refine VS.kc rfl (R-(e+1)) aa (λw' bu k' o' oy=> ?_)
  exact⟨[(1,.pointer (some ⟨g1,0,none⟩)),(2,.int .i64 ((e+1:Nat):Int))],⟨⟨_,_,rfl,rfl,rfl⟩,⟨_,_,rfl,congrArg (λz=>Value.int .i64 z) (aD (i:=e) aa),rfl⟩,trivial⟩,e+1,g1,by omega,rfl,rfl,Below.trans hBW2 (lD o' hBs2),DD.aB o',ky.aB bB o',λu hu=>(xB u hu).aB o'⟩
 refine VS.aR rfl (decide_eq_true (Int.ofNat_lt.2 hcn)) ?_
 obtain⟨_,_,_,hpu,_,_,hrw⟩:=xB _ BZ
 cases hpu
 obtain⟨b,cur,rfl,hBb,hcb,hsz,gr⟩:=hrw aa
 obtain⟨s,q0,k0,l0,t0,y,m,d,hcell,hhk,xL⟩:=gr c hcn
 have hce:∀ (j:Nat) (u:Value),[Value.bool s,.slice q0 k0 l0,.bool t0,.slice y m d][j]? =some u->W2.cell? ⟨b,0+c*4+j,none⟩=some u:=λj u hj=>by rw[Nat.zero_add];exact hcb.cell (hcell j u hj)
 refine ae ?_
 refine VO.read rfl [.slice (some ⟨bR,oR,none⟩) R cv] rfl (bQ (DD.cell (j:=0) rfl)) (wV rfl ?_)
 refine ae ?_
 refine VO.cond rfl dc ?_
 refine wV rfl ?_
 refine ae ?_
 refine VO.read rfl [.slice (some ⟨b,0,none⟩) n cu] rfl (ax hcR) (wV rfl ?_)
 refine ae ?_
 refine VO.cond rfl dc ?_
 refine wV rfl ?_
 refine ae ?_
 refine VO.read rfl [.bool s,.slice q0 k0 l0,.bool t0,.slice y m d] rfl (er hce 0 _ ⟨[],rfl⟩) (wV rfl ?_)
 refine ae ?_
 refine VS.nL (λw=>cxS Tryz.prog w 52 B) (λ_=>rfl) (λ_=>rfl) (λ_=>rR.refl _ _) (λw9 β k9 b9 en=> ?_)
 have AL:ak W2 w9:=b9
 have h4:aE w9 (β 4) nP #[.bool s,.slice q0 k0 l0,.bool t0,.slice y m d]:=(en.own 4 _ _ rfl).cls
 refine⟨[(1,.val (.pointer (some ⟨g1,0,none⟩))),(2,.val (.int .i64 (e:Int))),(3,.val (.int .i64 (c:Int))),(4,.val (.pointer (some ⟨β 4,0,none⟩))),(5,.val (.int .i64 0))],⟨⟨_,_,rfl,rfl,rfl⟩,⟨_,_,rfl,rfl,rfl⟩,⟨_,_,rfl,rfl,rfl⟩,⟨_,_,rfl,rfl,rfl⟩,⟨_,_,rfl,rfl,rfl⟩,trivial⟩,?_⟩
 generalize β 4=g4 at h4 ⊢
 have hg9:=DD.aB AL
 have hr9:=ky.aB bB AL
 have hu9:∀ u∈us,jN B w9 u:=λu hu=>(xB u hu).aB AL
 have hhk9:iz w9 B y m:=hhk.hk (Hk.kp (Kp.of (U:=UU) AL))
 have hBW9:Below B w w9:=Below.trans hBW2 (lD AL hBs2)
 have uq:∀ (j:Nat) (u:Value),[Value.slice y m d][j]? =some u->w9.cell? ((⟨g4,3,none⟩:Addr).add j)=some u:=λj u hj=>by
  cases j with
  | zero=>cases hj;exact h4.cell (j:=3) rfl
  | succ j=>cases hj
 refine VS.loop (J:=λm' L M w'=>∃ k:Nat,k<=m/\m'=m-k/\L=[(1,.val (.pointer (some ⟨g1,0,none⟩))),(2,.val (.int .i64 (e:Int))),(3,.val (.int .i64 (c:Int))),(4,.val (.pointer (some ⟨g4,0,none⟩))),(5,.val (.int .i64 (k:Int)))]/\M=[]/\Hk w9 w') m ⟨_,_,?_,?_,?_,?_,⟨0,by omega,rfl,rfl,rfl,Hk.kp eS⟩⟩ ?_
 ·exact ew
 ·exact ew
 ·rfl
 ·exact kH
 rintro m' L M wK ⟨k,hk,rfl,rfl,rfl,hkK⟩
 refine My ?_
 refine VO.eJ rfl [.slice y m d] rfl (at_sp h4 bZ uq) (wV rfl ?_)
 refine My ?_
 by_cases Kg:k<m
 ·refine VS.aR rfl (decide_eq_true (Int.ofNat_lt.2 Kg)) ?_
  obtain⟨g,curg,hpq,LZ,hcg,Ag⟩:∃ g cur,y=some ⟨g,0,none⟩/\B<=g/\w9.heap[g]? =some (Obj.cells cur UU (0,0))/\m<=cur.size:=by
   rcases hhk9 with h|h
   ·omega
   ·exact h
  subst hpq
  (repeat (first|refine wN ?_|refine wP rfl ?_))
  refine VS.GM (Mw _ _ _) rfl ?_
  refine wV rfl ?_
  refine VO.eJ rfl [.slice (some ⟨g,0,none⟩) m d] rfl (at_sp h4 bZ uq) (wV rfl ?_)
  refine VO.cond rfl dc ?_
  refine wV rfl ?_
  refine wN ?_
  refine⟨_,_,_,g,0+(k:Int).toNat*1,_,.int .u32 77,rfl,rfl,rfl,rfl,rfl,rfl,rfl,rfl,λw1 k1 bo1=> ?_⟩
  obtain⟨cur1,kS,KV⟩:=(hkK.aw (Hk.kp k1)) g curg hcg
  refine⟨cur1,UU,kS,by rw[Int.toNat_natCast];show 0+k*1+1<=_;omega,by simp[KC.fz],bo1.set (.inr ⟨LZ,curg,hcg⟩),?_⟩
  have Gu:Hk w9 (w1.setCells g (0+(k:Int).toNat*1) (Value.cells (.int .u32 77)).toList):=(hkK.aw (Hk.kp k1)).set kS
  generalize w1.setCells g (0+(k:Int).toNat*1) (Value.cells (.int .u32 77)).toList=w2 at*
  refine My ?_
  refine VS.back (m-(k+1)) aa ⟨_,_,?_,?_,?_,?_,⟨k+1,by omega,rfl,rfl,rfl,Gu⟩⟩
  ·refine⟨rfl,rfl,rfl,rfl,?_,trivial⟩
   rw[<-aD (i:=k) aa];rfl
  ·exact ew
  ·rfl
  ·exact kH
 refine VS.aP rfl (decide_eq_false (λe=>Kg (Int.ofNat_lt.1 e))) ?_
 (repeat (first|refine wN ?_|refine wP rfl ?_|refine wO rfl rfl ?_))
 refine VS.nL (λw=>cxX Tryz.prog w 52 B) (λ_=>rfl) (λ_=>rfl) (λ_=>nQ.refl _ _) (λoK β k10 b10 en=> ?_)
 have s10:rR B w9 oK:=b10
 have hk10:Hk w9 oK:=hkK.aw (Hk.kp eS)
 refine⟨[(1,.val (.pointer (some ⟨g1,0,none⟩))),(2,.val (.int .i64 (e:Int))),(3,.val (.int .i64 (c:Int)))],⟨⟨_,_,rfl,rfl,rfl⟩,⟨_,_,rfl,rfl,rfl⟩,⟨_,_,rfl,rfl,rfl⟩,trivial⟩,?_⟩
 have hg10:=s10.cls hg9 bZ
 have hr10:=hr9.ve (λb cur h=>s10.cls h bZ)
 have hu10:∀ u∈us,jN B oK u:=λu hu=>(hu9 u hu).keep (λb cur h=>s10.cls h bZ) hk10
 have hcb10:aE oK b nP cur:=s10.cls (hcb.aB AL) bZ
 have hBs9:B<=w9.heap.size:=Nat.le_trans hBs2 AL.size
 have hBW10:Below B w oK:=Below.trans hBW9 ⟨s10.os,s10.tape,s10.output,s10.size,λb hb=>s10.du b (Nat.lt_of_lt_of_le hb hBs9) (λhz=>by have:=hz.1;omega)⟩
 have hBs10:B<=oK.heap.size:=Nat.le_trans hBs9 s10.size
 obtain⟨curR,hclR⟩:∃ cur,aE oK bR 105 cur:=by
  rcases hr10 with ⟨h,_⟩|⟨b',c',vs,sp,h,_,h3,_⟩
  ·cases h
  ·cases h;exact⟨_,h3⟩
 obtain⟨bR',oR',csR',hpR,hcR',hVE'⟩:=(hr10.sl bB).at hue
 cases hpR
 obtain⟨rfl,-⟩:=hVE'
 (repeat (first|refine wN ?_|refine wP rfl ?_))
 refine VS.GM (Mx _ _ _) rfl ?_
 refine wV rfl ?_
 refine VO.eJ rfl [.slice (some ⟨bR,oR,none⟩) R cv] rfl (at_sx hg10 bZ bZ (bQ (hg10.cell (j:=0) rfl))) (wV rfl ?_)
 refine VO.cond rfl dc ?_
 refine wV rfl ?_
 refine VO.eJ rfl [.slice (some ⟨b,0,none⟩) n cu] rfl (at_sx hclR bZ bZ (ax hcR')) (wV rfl ?_)
 refine VO.cond rfl dc ?_
 refine wV rfl ?_
 refine wN ?_
 refine⟨_,_,_,b,0+(c:Int).toNat*4,_,.agg #[.bool false,.slice none 0 0,.bool false,.slice none 0 0],rfl,rfl,rfl,rfl,rfl,rfl,rfl,rfl,λw1 k1 bo1=> ?_⟩
 have kS:aE w1 b nP cur:=k1.block nP b cur rfl trivial hcb10
 refine⟨cur,nP,kS,by rw[Int.toNat_natCast];show 0+c*4+4<=_;omega,rfl,bo1.set (.inr ⟨hBb,cur,nP,.inr rfl,hcb10⟩),?_⟩
 have hu11:∀ u∈us,jN B (w1.setCells b (c*4) [.bool false,.slice none 0 0,.bool false,.slice none 0 0]) u:=λu hu=>((hu10 u hu).keep (λb cur h=>k1.block nP b cur rfl trivial h) (Hk.kp k1.eH)).put kS aa
 rw[show w1.setCells b (0+(c:Int).toNat*4) (Value.cells (.agg #[.bool false,.slice none 0 0,.bool false,.slice none 0 0])).toList=w1.setCells b (c*4) [.bool false,.slice none 0 0,.bool false,.slice none 0 0] by rw[Int.toNat_natCast,Nat.zero_add];rfl]
 generalize w1.setCells b (c*4) [.bool false,.slice none 0 0,.bool false,.slice none 0 0]=w2 at*
 refine wWcxX ?_
 refine VS.kc rfl (n-(c+1)) aa (λw' bu k' o' oy=> ?_)
 have s11:nQ B oK w':=o'
 exact⟨[(1,.pointer (some ⟨g1,0,none⟩)),(2,.int .i64 (e:Int)),(3,.int .i64 ((c+1:Nat):Int))],⟨⟨_,_,rfl,rfl,rfl⟩,⟨_,_,rfl,rfl,rfl⟩,⟨_,_,rfl,congrArg (λz=>Value.int .i64 z) (aD (i:=c) aa),rfl⟩,trivial⟩,c+1,by omega,rfl,rfl,nQ.below hBW10 hBs10 s11,s11.cls hg10 bZ bZ,hr10.ve (λb cur h=>s11.cls h bZ bZ),λu hu=>(hu11 u hu).keep (λb cur h=>(show aF KX4 w2 w' from eS).block nP b cur rfl trivial h) (Hk.kp (show aF KX4 w2 w' from eS).eH)⟩
set_option maxRecDepth 4000
theorem Jg {n k e:Nat} {r:List Rat} (h:(dK n k)[e]? =some r):r=List.replicate k 0:=by
 unfold dK at h
 exact (List.mem_replicate.1 (List.mem_of_getElem? h)).2
set_option maxRecDepth 8000 in
theorem xp (n k:Int) (w:World) (hn:n<=100000) (hk:k<=100000):
  Calls Tryz.prog 35 #[.int .i64 n,.int .i64 k] w λo w'=>∃ r,o=.returned (.agg #[r])/\eu (mJ 1) 147 38 w.heap.size w' r (dK n.toNat k.toNat)/\ak w w':=by
 obtain⟨N,hN⟩:∃ N,N=n.toNat:=⟨_,rfl⟩
 obtain⟨K,hK⟩:∃ K,K=k.toNat:=⟨_,rfl⟩
 rw[<-hN,<-hK]
 have hNb:N<=100000:=by omega
 have hKb:K<=100000:=by omega
 have hbl:(dK N K).length=N:=by unfold dK;rw[List.length_replicate]
 refine af (C:=aW Tryz.prog w _) (args:=[_,_]) Tryz.func35 rfl Tryz.ntmps35 (bP rfl) ?_
 refine ae ?_
 refine VS.rA (J:=λm L W=>∃ (e g4 g:Nat) (rv:Value) (us:List Value),e<=N/\m=N-e/\L=[(0,.int .i64 n),(1,.int .i64 k),(4,.pointer (some ⟨g4,0,none⟩)),(5,.pointer (some ⟨g,0,none⟩)),(6,.int .i64 (e:Int))]/\ak w W/\w.heap.size<=g4/\w.heap.size<=g/\g4≠g/\aE W g4 46 #[.slice none 0 0]/\aE W g 46 #[rv]/\aC VE 1 147 w.heap.size W rv us/\us.length=e/\(∀ (i:Nat) (u:Value) (r:List Rat),us[i]? =some u->(dK N K)[i]? =some r->aC (mJ 1) 4 38 w.heap.size W u r)/\rD us)
  (λW=>aW Tryz.prog W 30) (λ_=>rfl) (λ_=>rfl) (λ_=>ak.refl _) N (λw' β k' o en=>⟨[(0,.int .i64 n),(1,.int .i64 k),(4,.pointer (some ⟨β 4,0,none⟩)),(5,.pointer (some ⟨β 5,0,none⟩)),(6,.int .i64 ((0:Nat):Int))],⟨⟨_,_,rfl,rfl,rfl⟩,⟨_,_,rfl,rfl,rfl⟩,⟨_,_,rfl,rfl,rfl⟩,⟨_,_,rfl,rfl,rfl⟩,⟨_,_,rfl,rfl,rfl⟩,trivial⟩,0,β 4,β 5,.slice none 0 0,[],by omega,rfl,rfl,o,(en.own 4 _ _ rfl).new,(en.own 5 _ _ rfl).new,(λh=>absurd (en.apart 4 5 (by intro h;cases h) (by intro h;cases h) h) bZ),(en.own 4 _ _ rfl).cls,(en.own 5 _ _ rfl).cls,.inl ⟨rfl,rfl⟩,rfl,λi u r hi=>(by simp at hi),λi j u v b hi=>(by simp at hi)⟩) ?_
 rintro m L W ⟨e,g4,g,rv,us,he,rfl,rfl,fT,fI,GG,gQ,jd,xk,Ay,zQ,lz,GH⟩
 refine ae ?_
 by_cases JB:e<N
 ·refine VS.aR rfl (decide_eq_true (show (e:Int)<n by omega)) ?_
  obtain⟨ru,mO⟩:∃ r,(dK N K)[e]? =some r:=⟨_,List.getElem?_eq_getElem aa⟩
  have hrk:=Jg mO
  have hrl:ru.length=K:=by rw[hrk,List.length_replicate]
  refine ae ?_
  refine VS.loop (J:=λm L M w'=>∃ (z:Nat) (X:AV) (Mi:List (Nat×(TypeId×List AV))),z<=K/\m=K-z/\L=[(0,.val (.int .i64 n)),(1,.val (.int .i64 k)),(4,.val (.pointer (some ⟨g4,0,none⟩))),(5,.val (.pointer (some ⟨g,0,none⟩))),(6,.val (.int .i64 (e:Int))),(7,X),(8,.val (.int .i64 (z:Int)))]/\M=Mi/\fH (mJ 1) 4 38 22 X Mi w' (ru.take z)) K ⟨_,_,?_,?_,?_,?_,⟨0,_,[],by omega,rfl,rfl,rfl,.inl ⟨rfl,rfl,rfl⟩⟩⟩ ?_
  ·exact ew
  ·exact ew
  ·rfl
  ·exact kH
  rintro m L Mi wI ⟨z,X,Mi2,hz,rfl,rfl,rfl,hI⟩
  refine VS.now (λwX kN bN=> ?_)
  replace hI:=hI.kp (ba 1) (aF.eH kN)
  refine VS.mask [21] (by rcases hI with ⟨_,rfl,rfl⟩|⟨_,_,_,_,rfl,rfl,_⟩ <;> (repeat first|exact trivial|refine⟨rfl,?_⟩)) ?_
  refine ae ?_
  by_cases Jz:z<K
  ·obtain⟨y,hy⟩:∃ y,ru[z]? =some y:=⟨_,List.getElem?_eq_getElem aa⟩
   have xE:y=0:=by
    rw[hrk] at hy
    exact (List.mem_replicate.1 (List.mem_of_getElem? hy)).2
   refine VS.aR rfl (decide_eq_true (show (z:Int)<k by omega)) ?_
   refine ae ?_
   refine VO.cR rfl rfl (fk Tryz.func80) (λbo cj bD=>fh bo) (λbo cj bD w1 s1 p1 n1 c1 t1 y1 m1 d1 q1 aL dh _ bb1=>wV rfl ?_)
   refine ae ?_
   have gr:mJ 1 w1 [.bool s1,.slice p1 n1 c1,.bool t1,.slice y1 m1 d1] y:=by rw[xE];exact .mk q1.rd gn.zero
   rcases hI with ⟨kO,rfl,rfl⟩|⟨n',c',vs,sp,rfl,rfl,sW⟩
   ·refine VO.lh (bO _ _) (ba 1) (t:=147) (e:=38) (s:=21) (a:=y) (cs:=[.bool s1,.slice p1 n1 c1,.bool t1,.slice y1 m1 d1]) rfl rfl rfl rfl rfl rfl rfl rfl (bP rfl) rfl rfl rfl gr aa (λw9 cap sp k9 b9 iV=>wV rfl ?_)
    refine ae ?_
    refine VS.back (K-(z+1)) aa ⟨_,_,?_,?_,?_,?_,⟨z+1,_,_,by omega,rfl,rfl,rfl,.inr ⟨1,cap,_,sp,rfl,rfl,by rw[bJ hy,kO];exact iV⟩⟩⟩
    ·(refine⟨rfl,rfl,rfl,rfl,rfl,rfl,?_,trivial⟩;rw[<-aD (i:=z) aa];rfl)
    ·(repeat first|exact trivial|refine⟨rfl,?_⟩|refine⟨congrArg (λl=>some (_,l)) (cQ (by first|exact dE.de (by assumption)|exact ah _|(rw[<-List.map_append];exact ah _)) _ _),?_⟩)
    ·rfl
    ·(repeat first|exact trivial|refine⟨aA.lit rfl,?_⟩|refine⟨dE.DN (by assumption),?_⟩|refine⟨aA.append (.vals _) (.vals _),?_⟩|refine⟨aA.vals _,?_⟩)
   ·have rW:=sW.len
    refine VO.lj (bO _ _) (ba 1) (t:=147) (e:=38) (s:=21) (i:=22) (n:=n') (c:=c') (vs:=vs) (sp:=sp) (es:=ru.take z) (a:=y) (cs:=[.bool s1,.slice p1 n1 c1,.bool t1,.slice y1 m1 d1]) rfl rfl rfl rfl rfl rfl rfl rfl (bP rfl) rfl (.inr rfl) rfl (sW.kp (ba 1) eS) rfl gr (by rw[List.length_take] at rW;omega) (λw9 qi zj ρ k9 b9 fv iV=>wV rfl ?_)
    refine ae ?_
    refine VS.back (K-(z+1)) aa ⟨_,_,?_,?_,?_,?_,⟨z+1,_,_,by omega,rfl,rfl,rfl,.inr ⟨n' +1,qi,_,zj,rfl,rfl,by rw[bJ hy];exact iV⟩⟩⟩
    ·(refine⟨rfl,rfl,rfl,rfl,rfl,rfl,?_,trivial⟩;rw[<-aD (i:=z) aa];rfl)
    ·(repeat first|exact trivial|refine⟨rfl,?_⟩|refine⟨congrArg (λl=>some (_,l)) (cQ (by first|exact dE.de (by assumption)|exact ah _|(rw[<-List.map_append];exact ah _)) _ _),?_⟩)
    ·rfl
    ·(repeat first|exact trivial|refine⟨aA.lit rfl,?_⟩|refine⟨dE.DN (by assumption),?_⟩|refine⟨aA.append (.vals _) (.vals _),?_⟩|refine⟨aA.vals _,?_⟩)
  refine VS.aP rfl (decide_eq_false (show ¬ (z:Int)<k by omega)) ?_
  obtain rfl:K=z:=by omega
  rw[List.take_of_length_le aa] at hI
  subst zQ
  refine VS.ea rX (λt=>Nat.beq t 23) table (λ_ _ _=>trivial) (λdp mw k1 sY yj=> ?_)
  have aQ:ak W dp:=sY
  have cf:=hI.told (ba 1) yj (by intro q hq;rcases hI with ⟨_,rfl,rfl⟩|⟨_,_,_,_,rfl,rfl,_⟩ <;> first|(cases hq;done)|(cases List.mem_singleton.1 hq;rfl)) k1.eH W.heap.size (λh=>h)
  have jo:=xk.aB aQ
  have uZ:=fT.size
  have rF:=aQ.size
  rcases Ay with ⟨rfl,rfl⟩|⟨b0,cB,vc,vd,rfl,LZ,iK,rG,rH,Az,AA,AB⟩
  ·have lB:et rX 30 [g] [(46,[.val (.slice none 0 0)])] dp:=by
    refine⟨rfl,by simp,λj g' c' hj hc=> ?_,λc' hc=> ?_,λc' hc k hk=> ?_⟩
    ·match j,hj,hc with
     | 0,hj,hc=>cases hj;cases hc;exact jo
     | j+1,hj,_=>simp at hj
    ·cases List.mem_singleton.1 hc
     exact⟨rfl,rfl⟩
    ·cases List.mem_singleton.1 hc
     cases hk
   refine⟨[g],[(46,[.val (.slice none 0 0)])],lB,[(0,.val (.int .i64 n)),(1,.val (.int .i64 k)),(4,.val (.pointer (some ⟨g4,0,none⟩))),(5,.box 60 0),(6,.val (.int .i64 (([]:List Value).length:Int))),(7,.val (X.aI mw))],⟨⟨_,rfl,rfl,λi hi=>(by cases hi)⟩,⟨_,rfl,rfl,λi hi=>(by cases hi)⟩,⟨_,rfl,rfl,λi hi=>(by cases hi)⟩,⟨_,rfl,rfl,λi hi=>by rw[(by simpa [AV.ids] using hi:i=60)];exact⟨(by show 60<=60;omega),(by show 60<2*30+1;omega)⟩⟩,⟨_,rfl,rfl,λi hi=>(by cases hi)⟩,⟨_,rfl,rfl,λi hi=>(by cases hi)⟩,trivial⟩,?_⟩
   generalize X.aI mw=vv at cf ⊢
   obtain⟨jb,iW,rfl⟩:=cf.form
   refine mz ?_
   refine VO.lh (qg _ _) bB (t:=44) (e:=147) (s:=26) (a:=.slice jb ru.length iW) (cs:=[.slice jb ru.length iW]) rfl rfl rfl rfl rfl rfl rfl rfl (bP rfl) rfl rfl rfl ⟨rfl,_,_,_,rfl⟩ aa (λmH cap sp LX Jy iV=>wV rfl ?_)
   refine mz ?_
   refine VS.kc rfl (N-(([]:List Value).length+1)) aa (λw' bu k' o' oy=> ?_)
   have nA:aF rX dp w':=(show aF rX dp mH from eS).aw k'
   have rI:ak w w':=eK.aB (fT.aw aQ) o'.1 (λx hx=>by rw[List.mem_singleton.1 hx];omega)
   have hst:fH VE 1 147 27 (.row 27 0 1 cap) [(27,(147,_))] mH ([.slice jb ru.length iW]):=.inr ⟨_,cap,_,sp,rfl,rfl,iV⟩
   have ji:=hst.told bB oy (λx hx=>by cases List.mem_singleton.1 hx;rfl) k'.eH w.heap.size (λh=>(da (show fG 30 [g] dp 27 (bu 27) from h)).elim (λq=>Nat.le_trans uZ (Nat.le_trans rF q)) (λq=>by rw[List.mem_singleton.1 q];omega))
   have nS:=oy.own 60 _ _ rfl
   have fj:bu 60=g:=(qe nS 0 g rfl rfl).1
   refine⟨[(0,.int .i64 n),(1,.int .i64 k),(4,.pointer (some ⟨g4,0,none⟩)),(5,.pointer (some ⟨bu 60,0,none⟩)),(6,.int .i64 ((([]:List Value).length+1:Nat):Int))],⟨⟨_,_,rfl,rfl,rfl⟩,⟨_,_,rfl,rfl,rfl⟩,⟨_,_,rfl,rfl,rfl⟩,⟨_,_,rfl,rfl,rfl⟩,⟨_,_,rfl,congrArg (λz=>Value.int .i64 z) (aD (i:=([]:List Value).length) aa),rfl⟩,trivial⟩,([]:List Value).length+1,g4,bu 60,.slice (some ⟨bu 27,0,none⟩) 1 cap,[Value.slice jb ru.length iW],by omega,rfl,rfl,rI,fI,by rw[fj];exact GG,by rw[fj];exact gQ,(jd.aB aQ).but o'.1 (by simp[gQ]),nS.cls,ji,by simp,?_,?_⟩
   ·exact iy (vs:=([]:List Value)) (l:=(dK N K)) (P:=λu r=>aC (mJ 1) 4 38 w.heap.size w' u r) (λi u r hi hr=>((lz i u r hi hr).aB (ba 1) aQ).kp (ba 1) nA rfl) mO ((cf.kp (ba 1) nA rfl).mono uZ)
   ·exact dY (us:=([]:List Value)) (λi j u v b hi=>(by simp at hi)) (λi v b hi hb=>by
     obtain⟨r,hr⟩:∃ r,(dK N K)[i]? =some r:=⟨_,List.getElem?_eq_getElem (by have:=(List.getElem?_eq_some_iff.1 hi).1;simp at this)⟩
     exact ((lz i v r hi hr).du hb).2) (λb hb=>(cf.du hb).1)
  ·have rJ:=iK.aB aQ
   have Mf:g≠b0:=λh=>by rw[h] at jo;exact absurd (cZ jo rJ) bZ
   have AD:g4≠b0:=λh=>by rw[h] at jd;exact absurd (cZ jd iK) bZ
   have lB:et rX 30 [g,b0] [(46,[.row 61 0 us.length cB]),(147,vc.flatten.map .val++vd.map .val)] dp:=by
    refine⟨rfl,by simp[Mf],λj g' c' hj hc=> ?_,λc' hc=> ?_,λc' hc k hk=> ?_⟩
    ·match j,hj,hc with
     | 0,hj,hc=>cases hj;cases hc;exact jo
     | 1,hj,hc=>cases hj;cases hc;rw[<-List.map_append,aV];exact rJ
     | j+2,hj,_=>simp at hj
    ·rcases List.mem_cons.1 hc with rfl|hc
     ·exact⟨rfl,rfl⟩
     ·cases List.mem_singleton.1 hc
      exact⟨rfl,by rw[<-List.map_append];exact cE (by rw[List.all_append,(rG.ok bB).1,rH];rfl)⟩
    ·rcases List.mem_cons.1 hc with rfl|hc
     ·have:k=61:=by simpa [aH,AV.de] using hk
      subst this;exact⟨by omega,by show 61<2*30+2;omega⟩
     ·cases List.mem_singleton.1 hc
      rw[<-List.map_append,ah] at hk;cases hk
   have hNB:dE VE 1 dp us.length cB vc (vd.map .val) us:=⟨rfl,rG.kp bB (Kp.of (U:=UU) aQ),cE rH,ah _,Az,AA,by rw[<-List.map_append,List.length_map];exact AB⟩
   refine⟨[g,b0],[(46,[.row 61 0 us.length cB]),(147,vc.flatten.map .val++vd.map .val)],lB,[(0,.val (.int .i64 n)),(1,.val (.int .i64 k)),(4,.val (.pointer (some ⟨g4,0,none⟩))),(5,.box 60 0),(6,.val (.int .i64 (us.length:Int))),(7,.val (X.aI mw))],⟨⟨_,rfl,rfl,λi hi=>(by cases hi)⟩,⟨_,rfl,rfl,λi hi=>(by cases hi)⟩,⟨_,rfl,rfl,λi hi=>(by cases hi)⟩,⟨_,rfl,rfl,λi hi=>by rw[(by simpa [AV.ids] using hi:i=60)];exact⟨(by show 60<=60;omega),(by show 60<2*30+2;omega)⟩⟩,⟨_,rfl,rfl,λi hi=>(by cases hi)⟩,⟨_,rfl,rfl,λi hi=>(by cases hi)⟩,trivial⟩,?_⟩
   generalize X.aI mw=vv at cf ⊢
   obtain⟨jb,iW,rfl⟩:=cf.form
   refine mz ?_
   refine VO.lj (qg _ _) bB (t:=44) (e:=147) (s:=26) (i:=61) (n:=us.length) (c:=cB) (vs:=vc) (sp:=vd.map .val) (es:=us) (a:=.slice jb ru.length iW) (cs:=[.slice jb ru.length iW]) rfl rfl rfl rfl rfl rfl rfl rfl (bP rfl) rfl (.inl rfl) rfl (hNB.kp bB (aF.eH (show aF rX dp _ from eS))) rfl ⟨rfl,_,_,_,rfl⟩ aa (λmH cap sp ρ LX Jy fv iV=>wV rfl ?_)
   refine mz ?_
   refine VS.kc rfl (N-(us.length+1)) aa (λw' bu k' o' oy=> ?_)
   have nA:aF rX dp w':=(show aF rX dp mH from eS).aw k'
   have rI:ak w w':=eK.aB (fT.aw aQ) o'.1 (λx hx=>by
    rcases List.mem_cons.1 hx with rfl|hx
    ·omega
    ·rw[List.mem_singleton.1 hx];omega)
   have hst:fH VE 1 147 27 (.row 27 0 (us.length+1) cap) [(27,(147,_))] mH (us++[.slice jb ru.length iW]):=.inr ⟨_,cap,_,sp,rfl,rfl,iV⟩
   have ji:=hst.told bB oy (λx hx=>by cases List.mem_singleton.1 hx;rfl) k'.eH w.heap.size (λh=>(da (show fG 30 [g,b0] dp 27 (bu 27) from h)).elim (λq=>Nat.le_trans uZ (Nat.le_trans rF q)) (λq=>by
    rcases List.mem_cons.1 q with h|h
    ·rw[h];omega
    ·rw[List.mem_singleton.1 h];omega))
   have nS:=oy.own 60 _ _ rfl
   have fj:bu 60=g:=(qe nS 0 g rfl rfl).1
   refine⟨[(0,.int .i64 n),(1,.int .i64 k),(4,.pointer (some ⟨g4,0,none⟩)),(5,.pointer (some ⟨bu 60,0,none⟩)),(6,.int .i64 ((us.length+1:Nat):Int))],⟨⟨_,_,rfl,rfl,rfl⟩,⟨_,_,rfl,rfl,rfl⟩,⟨_,_,rfl,rfl,rfl⟩,⟨_,_,rfl,rfl,rfl⟩,⟨_,_,rfl,congrArg (λz=>Value.int .i64 z) (aD (i:=us.length) aa),rfl⟩,trivial⟩,us.length+1,g4,bu 60,.slice (some ⟨bu 27,0,none⟩) (us.length+1) cap,us++[Value.slice jb ru.length iW],by omega,rfl,rfl,rI,fI,by rw[fj];exact GG,by rw[fj];exact gQ,(jd.aB aQ).but o'.1 (by simp[gQ,AD]),nS.cls,ji,by simp,?_,?_⟩
   ·exact iy (vs:=us) (l:=(dK N K)) (P:=λu r=>aC (mJ 1) 4 38 w.heap.size w' u r) (λi u r hi hr=>((lz i u r hi hr).aB (ba 1) aQ).kp (ba 1) nA rfl) mO ((cf.kp (ba 1) nA rfl).mono uZ)
   ·exact dY (us:=us) GH (λi v b hi hb=>by
     obtain⟨r,hr⟩:∃ r,(dK N K)[i]? =some r:=⟨_,List.getElem?_eq_getElem (by have:=(List.getElem?_eq_some_iff.1 hi).1;omega)⟩
     exact ((lz i v r hi hr).du hb).2) (λb hb=>(cf.du hb).1)
 refine VS.aP rfl (decide_eq_false (show ¬ (e:Int)<n by omega)) ?_
 obtain rfl:N=e:=by omega
 (repeat (first|refine wN ?_|refine wP rfl ?_|refine wO rfl rfl ?_))
 obtain⟨pv,cv,rfl⟩:=Ay.form
 refine VS.ea tW (λt=>Nat.beq t 23) table (λ_ _ _=>trivial) (λdp mw k1 sY yj=> ?_)
 have aQ:ak W dp:=sY
 have lB:et tW 30 [g4] [(46,[.val (.slice none 0 0)])] dp:=by
  refine⟨rfl,by simp,λj g' c' hj hc=> ?_,λc' hc=> ?_,λc' hc k hk=> ?_⟩
  ·match j,hj,hc with
   | 0,hj,hc=>cases hj;cases hc;exact jd.aB aQ
   | j+1,hj,_=>simp at hj
  ·cases List.mem_singleton.1 hc
   exact⟨rfl,rfl⟩
  ·cases List.mem_singleton.1 hc
   cases hk
 refine⟨[g4],[(46,[.val (.slice none 0 0)])],lB,[(4,.box 60 0),(5,.val (.pointer (some ⟨g,0,none⟩)))],⟨⟨_,rfl,rfl,λi hi=>by rw[(by simpa [AV.ids] using hi:i=60)];exact⟨(by show 60<=60;omega),(by show 60<2*30+1;omega)⟩⟩,⟨_,rfl,rfl,λi hi=>(by cases hi)⟩,trivial⟩,?_⟩
 refine ck ?_
 refine VO.eJ rfl [.slice pv us.length cv] rfl (at_one (ik (λh=>gQ h.symm) ((xk.aB aQ).cell (j:=0) rfl))) (wV rfl ?_)
 refine ck ?_
 refine VS.pP (gP _ _) rfl (λwz β kz bz en=> ?_)
 have rI:ak w wz:=eK.aB (fT.aw aQ) bz.1 (λx hx=>by rw[List.mem_singleton.1 hx];exact fI)
 have hT:eu (mJ 1) 147 38 w.heap.size W (.slice pv us.length cv) (dK N K):=⟨us,Ay,by omega,lz,GH⟩
 exact⟨_,rfl,hT.kp (ba 1) (T:=λt=> !Nat.beq t 46) ((aF.of aQ).aw (eK.kp bz.1 (λx hx=>⟨46,[.slice none 0 0],by rw[List.mem_singleton.1 hx];exact jd.aB aQ,rfl,rfl⟩))) rfl rfl,rI⟩
set_option maxRecDepth 4000 in
theorem Mz (v:Value) (t:db) (e c:Int) (kk:Nat) (w:World) (hv:aO (cM kk) 1 w v t) (hk:kk<=1000):
  Calls Tryz.prog 31 #[.agg #[v],.int .i64 e,.int .i64 c] w λo w'=>∃ r,o=.returned r/\dB w' r (rN t e c)/\ak w w':=by
 cases hh:mh t e c with
 | true=>
   obtain⟨E,K,xs,y,rfl,rfl,hx,hy⟩:=lC hh
   rw[GK hx hy]
   exact ll v t xs y E K kk w hv hx hy hk
 | false=>
   have hz:rN t e c=0:=by unfold rN;rw[hh];rfl
   rw[hz]
   have hno:¬ (0<=e/\e<t.length/\0<=c/\c<(t.getD e.toNat []).length):=of_decide_eq_false hh
   obtain⟨p,cp,rfl,hcp,fm⟩:=hv.form
   obtain⟨R,hR⟩:∃ R,R=t.length:=⟨_,rfl⟩
   rw[<-hR] at hv hno hcp
   rw[<-hR]
   refine af (C:=aW Tryz.prog w _) (args:=[_,_,_]) Tryz.func31 rfl Tryz.ntmps31 (bP rfl) ?_
   refine ae ?_
   by_cases h0:e<0
   ·refine VO.fix 9 rfl (congrArg (λb=>AV.val (.bool b)) (decide_eq_true h0)) ?_
    refine ae ?_
    refine VO.cR rfl rfl (fk Tryz.func80) (λbo cj bD=>fh bo) (λbo cj bD w1 s1 p1 n1 c1 t1 y1 m1 d1 q1 aL dh _ bb1=>wV rfl ?_)
    refine ae ?_
    refine aX ?_;intro wz kz bz
    exact⟨_,rfl,(q1.kp kz).rd,bz⟩
   refine VO.fix 9 rfl (congrArg (λb=>AV.val (.bool b)) (decide_eq_false h0)) ?_
   refine ae ?_
   by_cases h1:e>=(R:Int)
   ·refine VO.fix 16 rfl (congrArg (λb=>AV.val (.bool b)) (decide_eq_true h1)) ?_
    refine ae ?_
    refine VO.cR rfl rfl (fk Tryz.func80) (λbo cj bD=>fh bo) (λbo cj bD w1 s1 p1 n1 c1 t1 y1 m1 d1 q1 aL dh _ bb1=>wV rfl ?_)
    refine ae ?_
    refine aX ?_;intro wz kz bz
    exact⟨_,rfl,(q1.kp kz).rd,bz⟩
   refine VO.fix 16 rfl (congrArg (λb=>AV.val (.bool b)) (decide_eq_false h1)) ?_
   refine ae ?_
   by_cases h2:c<0
   ·refine VO.fix 20 rfl (congrArg (λb=>AV.val (.bool b)) (decide_eq_true h2)) ?_
    refine ae ?_
    refine VO.cR rfl rfl (fk Tryz.func80) (λbo cj bD=>fh bo) (λbo cj bD w1 s1 p1 n1 c1 t1 y1 m1 d1 q1 aL dh _ bb1=>wV rfl ?_)
    refine ae ?_
    refine aX ?_;intro wz kz bz
    exact⟨_,rfl,(q1.kp kz).rd,bz⟩
   refine VO.fix 20 rfl (congrArg (λb=>AV.val (.bool b)) (decide_eq_false h2)) ?_
   refine ae ?_
   obtain⟨xs,hx⟩:∃ xs,t[e.toNat]? =some xs:=⟨_,List.getElem?_eq_getElem aa⟩
   have xP:t.getD e.toNat []=xs:=by rw[List.getD_eq_getElem?_getD,hx];rfl
   rw[xP] at hno
   obtain⟨pb,po,pc,rfl,hpc,⟨pv,rfl,htv⟩⟩:=hv.at hx
   obtain⟨p3,c3,rfl⟩:=htv.sl
   have hE:((e.toNat:Nat):Int)=e:=by omega
   refine VO.cond rfl dc (wV rfl ?_)
   refine VO.read rfl [.slice p3 xs.length c3] rfl (λj u hj=>by rw[Addr.add_mid];exact hpc j u hj) (wV rfl ?_)
   refine ae ?_
   refine VS.aR rfl (decide_eq_true (show c>=(xs.length:Int) by omega)) ?_
   refine ae ?_
   refine VO.cR rfl rfl (fk Tryz.func80) (λbo cj bD=>fh bo) (λbo cj bD w1 s1 p1 n1 c1 t1 y1 m1 d1 q1 aL dh _ bb1=>wV rfl ?_)
   refine ae ?_
   refine aX ?_;intro wz kz bz
   exact⟨_,rfl,(q1.kp kz).rd,bz⟩
def Dp (e c:Int) (x:Rat) (i:Nat) (r:List Rat):List Rat:=r.mapIdx (λj y=>if (i:Int)=e/\(j:Int)=c then y+x else y)
def kf (t:db) (e c:Int) (x:Rat):db:=t.mapIdx (Dp e c x)
theorem Dq {t:db} {e c:Int} {x:Rat} {i:Nat} {r:List Rat} (h:t[i]? =some r):(kf t e c x)[i]? =some (Dp e c x i r):=by
 unfold kf;rw[List.getElem?_mapIdx,h];rfl
theorem AG {e c:Int} {x y:Rat} {i j:Nat} {r:List Rat} (h:r[j]? =some y):(Dp e c x i r)[j]? =some (if (i:Int)=e/\(j:Int)=c then y+x else y):=by
 unfold Dp;rw[List.getElem?_mapIdx,h];rfl
theorem Fx (t:db) (e c:Int) (x:Rat):kf t e c x=ia t e c x:=by
 have hl:(kf t e c x).length=t.length:=by unfold kf;rw[List.length_mapIdx]
 apply List.ext_getElem?
 intro i
 cases hi:t[i]? with
 | none=>
   have h1:=List.getElem?_eq_none_iff.1 hi
   rw[List.getElem?_eq_none aa,List.getElem?_eq_none (by unfold ia;split <;> (try rw[lx]) <;> omega)]
 | some r=>
   rw[Dq hi]
   unfold ia
   by_cases hh:mh t e c=true
   ·rw[if_pos hh]
    obtain⟨E,K,xs,y,rfl,rfl,hx,hy⟩:=lC hh
    rw[Int.toNat_natCast,Int.toNat_natCast,ou hi]
    congr 1
    apply List.ext_getElem?
    intro j
    cases hj:r[j]? with
    | none=>
      have h2:=List.getElem?_eq_none_iff.1 hj
      rw[List.getElem?_eq_none (by unfold Dp;rw[List.length_mapIdx];exact h2),List.getElem?_eq_none (by split <;> (try rw[List.length_modify]) <;> omega)]
    | some z=>
      rw[AG hj]
      by_cases pK:i=E
      ·subst pK
       rw[if_pos rfl,List.getElem?_modify,hj]
       by_cases hjk:K=j
       ·subst hjk;simp
       ·have:¬ ((j:Int)=(K:Int)):=by omega
        rw[if_neg (λh=>this h.2)]
        simp[hjk]
      ·have:¬ ((i:Int)=(E:Int)):=by omega
       rw[if_neg pK,hj]
       simp[this]
   ·rw[if_neg hh,hi]
    congr 1
    apply List.ext_getElem?
    intro j
    cases hj:r[j]? with
    | none=>rw[List.getElem?_eq_none (by unfold Dp;rw[List.length_mapIdx];exact List.getElem?_eq_none_iff.1 hj)]
    | some z=>
      rw[AG hj,if_neg]
      rintro⟨h1,h2⟩
      apply hh
      have h3:=(List.getElem?_eq_some_iff.1 hi).1
      have h4:=(List.getElem?_eq_some_iff.1 hj).1
      unfold mh
      rw[<-h1,Int.toNat_natCast,List.getD_eq_getElem?_getD,hi]
      exact decide_eq_true ⟨by omega,by omega,by omega,by simp;omega⟩
set_option maxRecDepth 8000 in
theorem zv (v u:Value) (t:db) (ec cc:Int) (x:Rat) (kk k:Nat) (w:World) (hv:aO (cM kk) 1 w v t) (hu:bE w u x k) (qn:1<=kk) (Gu:1<=k) (hk:kk<=1000) (hk3:k<=1000) (hb:t.length<=100000) (aY:∀ r∈t,r.length<=100000):
  Calls Tryz.prog 29 #[.agg #[v],.int .i64 ec,.int .i64 cc,u] w λo w'=>∃ r,o=.returned (.agg #[r])/\eu (mJ (kk+k+1)) 147 38 w.heap.size w' r (ia t ec cc x)/\ak w w':=by
 rw[<-Fx]
 obtain⟨p,c,rfl⟩:=hv.sl
 obtain⟨sX,pX,nX,cX,tX,yX,mX,dX,rfl⟩:=hu.form
 obtain⟨R,hR⟩:∃ R,R=t.length:=⟨_,rfl⟩
 have htl:(kf t ec cc x).length=R:=by unfold kf;rw[List.length_mapIdx,hR]
 rw[<-hR] at hv hb
 rw[<-hR]
 refine af (C:=aW Tryz.prog w _) (args:=[_,_,_,_]) Tryz.func29 rfl Tryz.ntmps29 (bP rfl) ?_
 refine ae ?_
 refine VS.rA (J:=λm L W=>∃ (e g4 g g1 g7:Nat) (rv:Value) (us:List Value),e<=R/\m=R-e/\L=[(1,.int .i64 ec),(2,.int .i64 cc),(4,.pointer (some ⟨g1,0,none⟩)),(7,.pointer (some ⟨g7,0,none⟩)),(8,.pointer (some ⟨g4,0,none⟩)),(9,.pointer (some ⟨g,0,none⟩)),(10,.int .i64 (e:Int))]/\ak w W/\w.heap.size<=g4/\w.heap.size<=g/\g4≠g/\aE W g4 46 #[.slice none 0 0]/\aE W g 46 #[rv]/\aC VE 1 147 w.heap.size W rv us/\us.length=e/\(∀ (i:Nat) (u:Value) (r:List Rat),us[i]? =some u->(kf t ec cc x)[i]? =some r->aC (mJ (kk+k+1)) 4 38 w.heap.size W u r)/\rD us/\w.heap.size<=g1/\g1≠g/\aE W g1 46 #[.slice p R c]/\w.heap.size<=g7/\g7≠g/\aE W g7 38 #[.bool sX,.slice pX nX cX,.bool tX,.slice yX mX dX])
  (λW=>aW Tryz.prog W 57) (λ_=>rfl) (λ_=>rfl) (λ_=>ak.refl _) R (λw' β k' o en=>⟨[(1,.int .i64 ec),(2,.int .i64 cc),(4,.pointer (some ⟨β 4,0,none⟩)),(7,.pointer (some ⟨β 7,0,none⟩)),(8,.pointer (some ⟨β 8,0,none⟩)),(9,.pointer (some ⟨β 9,0,none⟩)),(10,.int .i64 ((0:Nat):Int))],⟨⟨_,_,rfl,rfl,rfl⟩,⟨_,_,rfl,rfl,rfl⟩,⟨_,_,rfl,rfl,rfl⟩,⟨_,_,rfl,rfl,rfl⟩,⟨_,_,rfl,rfl,rfl⟩,⟨_,_,rfl,rfl,rfl⟩,⟨_,_,rfl,rfl,rfl⟩,trivial⟩,0,β 8,β 9,β 4,β 7,.slice none 0 0,[],by omega,rfl,rfl,o,(en.own 8 _ _ rfl).new,(en.own 9 _ _ rfl).new,(λh=>absurd (en.apart 8 9 (by intro h;cases h) (by intro h;cases h) h) bZ),(en.own 8 _ _ rfl).cls,(en.own 9 _ _ rfl).cls,.inl ⟨rfl,rfl⟩,rfl,λi u r hi=>(by simp at hi),λi j u v b hi=>(by simp at hi),(en.own 4 _ _ rfl).new,(λh=>absurd (en.apart 4 9 (by intro h;cases h) (by intro h;cases h) h) bZ),(en.own 4 _ _ rfl).cls,(en.own 7 _ _ rfl).new,(λh=>absurd (en.apart 7 9 (by intro h;cases h) (by intro h;cases h) h) bZ),(en.own 7 _ _ rfl).cls⟩) ?_
 rintro m L W ⟨e,g4,g,g1,g7,rv,us,he,rfl,rfl,fT,fI,GG,gQ,jd,xk,Ay,zQ,lz,GH,Mu,AE,xG,hg7W,hg7n,JA⟩
 have hvW:aO (cM kk) 1 W (.slice p R c) t:=hv.cP (bG kk) fT
 have huW:bE W _ x k:=hu.kp (Kp.of (U:=UU) fT)
 refine ae ?_
 refine VO.read rfl [.slice p R c] rfl (bQ (xG.cell (j:=0) rfl)) (wV rfl ?_)
 refine ae ?_
 by_cases JB:e<R
 ·refine VS.aR rfl (decide_eq_true (Int.ofNat_lt.2 JB)) ?_
  obtain⟨ru,mO⟩:∃ r,(kf t ec cc x)[e]? =some r:=⟨_,List.getElem?_eq_getElem aa⟩
  obtain⟨r0,mM⟩:∃ r,t[e]? =some r:=⟨_,List.getElem?_eq_getElem aa⟩
  have hrw:ru=Dp ec cc x e r0:=by rw[Dq mM] at mO;exact (Option.some.inj mO).symm
  have hrl:ru.length=r0.length:=by rw[hrw];unfold Dp;rw[List.length_mapIdx]
  obtain⟨br,ta,csr,rfl,xD,⟨xv,rfl,mL⟩⟩:=hvW.at mM
  obtain⟨pc,cq,rfl⟩:=mL.sl
  obtain⟨K,hK⟩:∃ K,K=r0.length:=⟨_,rfl⟩
  rw[<-hK] at mL xD hrl
  have hKb:K<=100000:=by rw[hK];exact aY r0 (List.mem_of_getElem? mM)
  refine ae ?_
  refine VS.loop (J:=λm L M w'=>∃ (z:Nat) (X:AV) (Mi:List (Nat×(TypeId×List AV))),z<=K/\m=K-z/\L=[(1,.val (.int .i64 ec)),(2,.val (.int .i64 cc)),(4,.val (.pointer (some ⟨g1,0,none⟩))),(7,.val (.pointer (some ⟨g7,0,none⟩))),(8,.val (.pointer (some ⟨g4,0,none⟩))),(9,.val (.pointer (some ⟨g,0,none⟩))),(10,.val (.int .i64 (e:Int))),(11,X),(12,.val (.int .i64 (z:Int)))]/\M=Mi/\fH (mJ (kk+k+1)) 4 38 49 X Mi w' (ru.take z)) K ⟨_,_,?_,?_,?_,?_,⟨0,_,[],by omega,rfl,rfl,rfl,.inl ⟨rfl,rfl,rfl⟩⟩⟩ ?_
  ·exact ew
  ·exact ew
  ·rfl
  ·exact kH
  rintro m L Mi wI ⟨z,X,Mi2,hz,rfl,rfl,rfl,hI⟩
  refine VS.now (λwX kN bN=> ?_)
  replace hI:=hI.kp (ba (kk+k+1)) (aF.eH kN)
  refine VS.mask [13,48] (by rcases hI with ⟨_,rfl,rfl⟩|⟨_,_,_,_,rfl,rfl,_⟩ <;> (repeat first|exact trivial|refine⟨rfl,?_⟩)) ?_
  refine ae ?_
  refine VO.read rfl [.slice (some ⟨br,ta,none⟩) R c] rfl (bQ (xG.cell (j:=0) rfl)) (wV rfl ?_)
  refine ae ?_
  refine VO.cond rfl dc ?_
  refine wV rfl ?_
  refine ae ?_
  refine VO.read rfl [.slice pc K cq] rfl (ax xD) (wV rfl ?_)
  refine ae ?_
  by_cases Jz:z<K
  ·obtain⟨y,hy⟩:∃ y,ru[z]? =some y:=⟨_,List.getElem?_eq_getElem aa⟩
   obtain⟨y0,xE⟩:∃ q,r0[z]? =some q:=⟨_,List.getElem?_eq_getElem aa⟩
   have hyy:y=if (e:Int)=ec/\(z:Int)=cc then y0+x else y0:=by
    rw[hrw,AG xE] at hy;exact (Option.some.inj hy).symm
   have hsz0:gn y0 kk:=by
    obtain⟨bx,Mm,Jx,_,_,⟨_,_,_,_,_,_,_,_,_,hr⟩⟩:=mL.at xE
    exact hr.sz qn
   have hszx:gn x k:=hu.sz Gu
   refine VS.aR rfl (decide_eq_true (Int.ofNat_lt.2 Jz)) ?_
   refine ae ?_
   refine VO.read rfl [.slice (some ⟨br,ta,none⟩) R c] rfl (bQ (xG.cell (j:=0) rfl)) (wV rfl ?_)
   refine ae ?_
   refine VO.call rfl rfl (fk Tryz.func31) (λbo cj bD=>(ll _ t r0 y0 e z kk bo (hvW.cP (bG kk) bD) mM xE hk).mono ?_)
   rintro o w1 ⟨r1,rfl,q1,aL⟩
   obtain⟨s1,p1,n1,c1,t1,y1,m1,d1,rfl⟩:=q1.form
   refine bA aL ?_
   intro dh _ bb1
   have hno:¬ ((e:Int)=ec/\(z:Int)=cc)->mJ (kk+k+1) w1 [.bool s1,.slice p1 n1 c1,.bool t1,.slice y1 m1 d1] y:=λh=>by
    rw[hyy,if_neg h]
    exact .mk q1 (hsz0.mono aa)
   by_cases he1:(e:Int)=ec
   rotate_left
   ·refine VO.fix 38 rfl (congrArg (λb=>AV.val (.bool b)) (GC he1)) ?_
    refine ae ?_
    have gr:=hno (λh=>he1 h.1)
    rcases hI with ⟨kO,rfl,rfl⟩|⟨n',c',vs,sp,rfl,rfl,sW⟩
    ·refine VO.lh (bO _ _) (ba (kk+k+1)) (t:=147) (e:=38) (s:=48) (a:=y) (cs:=[.bool s1,.slice p1 n1 c1,.bool t1,.slice y1 m1 d1]) rfl rfl rfl rfl rfl rfl rfl rfl (bP rfl) rfl rfl rfl gr aa (λw9 cap sp k9 b9 iV=>wV rfl ?_)
     refine ae ?_
     refine VS.back (K-(z+1)) aa ⟨_,_,?_,?_,?_,?_,⟨z+1,_,_,by omega,rfl,rfl,rfl,.inr ⟨1,cap,_,sp,rfl,rfl,by rw[bJ hy,kO];exact iV⟩⟩⟩
     ·(refine⟨rfl,rfl,rfl,rfl,rfl,rfl,rfl,rfl,?_,trivial⟩;rw[<-aD (i:=z) aa];rfl)
     ·(repeat first|exact trivial|refine⟨rfl,?_⟩|refine⟨congrArg (λl=>some (_,l)) (cQ (by first|exact dE.de (by assumption)|exact ah _|(rw[<-List.map_append];exact ah _)) _ _),?_⟩)
     ·rfl
     ·(repeat first|exact trivial|refine⟨aA.lit rfl,?_⟩|refine⟨dE.DN (by assumption),?_⟩|refine⟨aA.append (.vals _) (.vals _),?_⟩|refine⟨aA.vals _,?_⟩)
    ·have rW:=sW.len
     refine VO.lj (bO _ _) (ba (kk+k+1)) (t:=147) (e:=38) (s:=48) (i:=49) (n:=n') (c:=c') (vs:=vs) (sp:=sp) (es:=ru.take z) (a:=y) (cs:=[.bool s1,.slice p1 n1 c1,.bool t1,.slice y1 m1 d1]) rfl rfl rfl rfl rfl rfl rfl rfl (bP rfl) rfl (.inr rfl) rfl (sW.kp (ba (kk+k+1)) eS) rfl gr (by rw[List.length_take] at rW;omega) (λw9 qi zj ρ k9 b9 fv iV=>wV rfl ?_)
     refine ae ?_
     refine VS.back (K-(z+1)) aa ⟨_,_,?_,?_,?_,?_,⟨z+1,_,_,by omega,rfl,rfl,rfl,.inr ⟨n' +1,qi,_,zj,rfl,rfl,by rw[bJ hy];exact iV⟩⟩⟩
     ·(refine⟨rfl,rfl,rfl,rfl,rfl,rfl,rfl,rfl,?_,trivial⟩;rw[<-aD (i:=z) aa];rfl)
     ·(repeat first|exact trivial|refine⟨rfl,?_⟩|refine⟨congrArg (λl=>some (_,l)) (cQ (by first|exact dE.de (by assumption)|exact ah _|(rw[<-List.map_append];exact ah _)) _ _),?_⟩)
     ·rfl
     ·(repeat first|exact trivial|refine⟨aA.lit rfl,?_⟩|refine⟨dE.DN (by assumption),?_⟩|refine⟨aA.append (.vals _) (.vals _),?_⟩|refine⟨aA.vals _,?_⟩)
   refine VO.fix 38 rfl (congrArg (λb=>AV.val (.bool b)) (GB he1)) ?_
   refine ae ?_
   by_cases he2:(z:Int)=cc
   rotate_left
   ·refine VS.aP rfl (GC he2) ?_
    refine ae ?_
    have gr:=hno (λh=>he2 h.2)
    rcases hI with ⟨kO,rfl,rfl⟩|⟨n',c',vs,sp,rfl,rfl,sW⟩
    ·refine VO.lh (bO _ _) (ba (kk+k+1)) (t:=147) (e:=38) (s:=48) (a:=y) (cs:=[.bool s1,.slice p1 n1 c1,.bool t1,.slice y1 m1 d1]) rfl rfl rfl rfl rfl rfl rfl rfl (bP rfl) rfl rfl rfl gr aa (λw9 cap sp k9 b9 iV=>wV rfl ?_)
     refine ae ?_
     refine VS.back (K-(z+1)) aa ⟨_,_,?_,?_,?_,?_,⟨z+1,_,_,by omega,rfl,rfl,rfl,.inr ⟨1,cap,_,sp,rfl,rfl,by rw[bJ hy,kO];exact iV⟩⟩⟩
     ·(refine⟨rfl,rfl,rfl,rfl,rfl,rfl,rfl,rfl,?_,trivial⟩;rw[<-aD (i:=z) aa];rfl)
     ·(repeat first|exact trivial|refine⟨rfl,?_⟩|refine⟨congrArg (λl=>some (_,l)) (cQ (by first|exact dE.de (by assumption)|exact ah _|(rw[<-List.map_append];exact ah _)) _ _),?_⟩)
     ·rfl
     ·(repeat first|exact trivial|refine⟨aA.lit rfl,?_⟩|refine⟨dE.DN (by assumption),?_⟩|refine⟨aA.append (.vals _) (.vals _),?_⟩|refine⟨aA.vals _,?_⟩)
    ·have rW:=sW.len
     refine VO.lj (bO _ _) (ba (kk+k+1)) (t:=147) (e:=38) (s:=48) (i:=49) (n:=n') (c:=c') (vs:=vs) (sp:=sp) (es:=ru.take z) (a:=y) (cs:=[.bool s1,.slice p1 n1 c1,.bool t1,.slice y1 m1 d1]) rfl rfl rfl rfl rfl rfl rfl rfl (bP rfl) rfl (.inr rfl) rfl (sW.kp (ba (kk+k+1)) eS) rfl gr (by rw[List.length_take] at rW;omega) (λw9 qi zj ρ k9 b9 fv iV=>wV rfl ?_)
     refine ae ?_
     refine VS.back (K-(z+1)) aa ⟨_,_,?_,?_,?_,?_,⟨z+1,_,_,by omega,rfl,rfl,rfl,.inr ⟨n' +1,qi,_,zj,rfl,rfl,by rw[bJ hy];exact iV⟩⟩⟩
     ·(refine⟨rfl,rfl,rfl,rfl,rfl,rfl,rfl,rfl,?_,trivial⟩;rw[<-aD (i:=z) aa];rfl)
     ·(repeat first|exact trivial|refine⟨rfl,?_⟩|refine⟨congrArg (λl=>some (_,l)) (cQ (by first|exact dE.de (by assumption)|exact ah _|(rw[<-List.map_append];exact ah _)) _ _),?_⟩)
     ·rfl
     ·(repeat first|exact trivial|refine⟨aA.lit rfl,?_⟩|refine⟨dE.DN (by assumption),?_⟩|refine⟨aA.append (.vals _) (.vals _),?_⟩|refine⟨aA.vals _,?_⟩)
   refine VS.aR rfl (GB he2) ?_
   refine ae ?_
   refine VO.read rfl [.bool sX,.slice pX nX cX,.bool tX,.slice yX mX dX] rfl (rL (λj u hj=>JA.cell (by simpa using hj))) (wV rfl ?_)
   refine ae ?_
   refine VO.call rfl rfl (fk Tryz.func79) (λcA dG cV=>(wT _ _ y0 x kk k cA ((q1.kp (T:=λ_=>false) eS).to hsz0) (huW.kp (Kp.of (U:=UU) cV)) aa aa).mono ?_)
   rintro o w2 ⟨r2,rfl,q2,aY⟩
   obtain⟨s2,p2,n2,c2,t2,y2,m2,d2,rfl⟩:=q2.form
   refine bA aY ?_
   intro eU _ bb2
   have gr:mJ (kk+k+1) w2 [.bool s2,.slice p2 n2 c2,.bool t2,.slice y2 m2 d2] y:=by
    rw[hyy,if_pos ⟨he1,he2⟩]
    exact .mk q2.rd ((hsz0.add hszx).mono aa)
   rcases hI with ⟨kO,rfl,rfl⟩|⟨n',c',vs,sp,rfl,rfl,sW⟩
   ·refine VO.lh (bO _ _) (ba (kk+k+1)) (t:=147) (e:=38) (s:=48) (a:=y) (cs:=[.bool s2,.slice p2 n2 c2,.bool t2,.slice y2 m2 d2]) rfl rfl rfl rfl rfl rfl rfl rfl (bP rfl) rfl rfl rfl gr aa (λw9 cap sp k9 b9 iV=>wV rfl ?_)
    refine ae ?_
    refine VS.back (K-(z+1)) aa ⟨_,_,?_,?_,?_,?_,⟨z+1,_,_,by omega,rfl,rfl,rfl,.inr ⟨1,cap,_,sp,rfl,rfl,by rw[bJ hy,kO];exact iV⟩⟩⟩
    ·(refine⟨rfl,rfl,rfl,rfl,rfl,rfl,rfl,rfl,?_,trivial⟩;rw[<-aD (i:=z) aa];rfl)
    ·(repeat first|exact trivial|refine⟨rfl,?_⟩|refine⟨congrArg (λl=>some (_,l)) (cQ (by first|exact dE.de (by assumption)|exact ah _|(rw[<-List.map_append];exact ah _)) _ _),?_⟩)
    ·rfl
    ·(repeat first|exact trivial|refine⟨aA.lit rfl,?_⟩|refine⟨dE.DN (by assumption),?_⟩|refine⟨aA.append (.vals _) (.vals _),?_⟩|refine⟨aA.vals _,?_⟩)
   ·have rW:=sW.len
    refine VO.lj (bO _ _) (ba (kk+k+1)) (t:=147) (e:=38) (s:=48) (i:=49) (n:=n') (c:=c') (vs:=vs) (sp:=sp) (es:=ru.take z) (a:=y) (cs:=[.bool s2,.slice p2 n2 c2,.bool t2,.slice y2 m2 d2]) rfl rfl rfl rfl rfl rfl rfl rfl (bP rfl) rfl (.inr rfl) rfl (sW.kp (ba (kk+k+1)) eS) rfl gr (by rw[List.length_take] at rW;omega) (λw9 qi zj ρ k9 b9 fv iV=>wV rfl ?_)
    refine ae ?_
    refine VS.back (K-(z+1)) aa ⟨_,_,?_,?_,?_,?_,⟨z+1,_,_,by omega,rfl,rfl,rfl,.inr ⟨n' +1,qi,_,zj,rfl,rfl,by rw[bJ hy];exact iV⟩⟩⟩
    ·(refine⟨rfl,rfl,rfl,rfl,rfl,rfl,rfl,rfl,?_,trivial⟩;rw[<-aD (i:=z) aa];rfl)
    ·(repeat first|exact trivial|refine⟨rfl,?_⟩|refine⟨congrArg (λl=>some (_,l)) (cQ (by first|exact dE.de (by assumption)|exact ah _|(rw[<-List.map_append];exact ah _)) _ _),?_⟩)
    ·rfl
    ·(repeat first|exact trivial|refine⟨aA.lit rfl,?_⟩|refine⟨dE.DN (by assumption),?_⟩|refine⟨aA.append (.vals _) (.vals _),?_⟩|refine⟨aA.vals _,?_⟩)
  refine VS.aP rfl (decide_eq_false (λe=>Jz (Int.ofNat_lt.1 e))) ?_
  obtain rfl:K=z:=by omega
  rw[List.take_of_length_le aa] at hI
  subst zQ
  refine VS.ea rX (λt=>Nat.beq t 23) table (λ_ _ _=>trivial) (λdp mw k1 sY yj=> ?_)
  have aQ:ak W dp:=sY
  have cf:=hI.told (ba (kk+k+1)) yj (by intro q hq;rcases hI with ⟨_,rfl,rfl⟩|⟨_,_,_,_,rfl,rfl,_⟩ <;> first|(cases hq;done)|(cases List.mem_singleton.1 hq;rfl)) k1.eH W.heap.size (λh=>h)
  have jo:=xk.aB aQ
  have uZ:=fT.size
  have rF:=aQ.size
  rcases Ay with ⟨rfl,rfl⟩|⟨b0,cB,vc,vd,rfl,LZ,iK,rG,rH,Az,AA,AB⟩
  ·have lB:et rX 57 [g] [(46,[.val (.slice none 0 0)])] dp:=by
    refine⟨rfl,by simp,λj g' c' hj hc=> ?_,λc' hc=> ?_,λc' hc k hk=> ?_⟩
    ·match j,hj,hc with
     | 0,hj,hc=>cases hj;cases hc;exact jo
     | j+1,hj,_=>simp at hj
    ·cases List.mem_singleton.1 hc
     exact⟨rfl,rfl⟩
    ·cases List.mem_singleton.1 hc
     cases hk
   refine⟨[g],[(46,[.val (.slice none 0 0)])],lB,[(1,.val (.int .i64 ec)),(2,.val (.int .i64 cc)),(4,.val (.pointer (some ⟨g1,0,none⟩))),(7,.val (.pointer (some ⟨g7,0,none⟩))),(8,.val (.pointer (some ⟨g4,0,none⟩))),(9,.box 114 0),(10,.val (.int .i64 (([]:List Value).length:Int))),(11,.val (X.aI mw))],⟨⟨_,rfl,rfl,λi hi=>(by cases hi)⟩,⟨_,rfl,rfl,λi hi=>(by cases hi)⟩,⟨_,rfl,rfl,λi hi=>(by cases hi)⟩,⟨_,rfl,rfl,λi hi=>(by cases hi)⟩,⟨_,rfl,rfl,λi hi=>(by cases hi)⟩,⟨_,rfl,rfl,λi hi=>by rw[(by simpa [AV.ids] using hi:i=114)];exact⟨(by show 114<=114;omega),(by show 114<2*57+1;omega)⟩⟩,⟨_,rfl,rfl,λi hi=>(by cases hi)⟩,⟨_,rfl,rfl,λi hi=>(by cases hi)⟩,trivial⟩,?_⟩
   generalize X.aI mw=vv at cf ⊢
   obtain⟨jb,iW,rfl⟩:=cf.form
   refine mz ?_
   refine VO.lh (qg _ _) bB (t:=44) (e:=147) (s:=53) (a:=.slice jb ru.length iW) (cs:=[.slice jb ru.length iW]) rfl rfl rfl rfl rfl rfl rfl rfl (bP rfl) rfl rfl rfl ⟨rfl,_,_,_,rfl⟩ aa (λmH cap sp LX Jy iV=>wV rfl ?_)
   refine mz ?_
   refine VS.kc rfl (R-(([]:List Value).length+1)) aa (λw' bu k' o' oy=> ?_)
   have nA:aF rX dp w':=(show aF rX dp mH from eS).aw k'
   have rI:ak w w':=eK.aB (fT.aw aQ) o'.1 (λx hx=>by rw[List.mem_singleton.1 hx];omega)
   have hst:fH VE 1 147 54 (.row 54 0 1 cap) [(54,(147,_))] mH ([.slice jb ru.length iW]):=.inr ⟨_,cap,_,sp,rfl,rfl,iV⟩
   have ji:=hst.told bB oy (λx hx=>by cases List.mem_singleton.1 hx;rfl) k'.eH w.heap.size (λh=>(da (show fG 57 [g] dp 54 (bu 54) from h)).elim (λq=>Nat.le_trans uZ (Nat.le_trans rF q)) (λq=>by rw[List.mem_singleton.1 q];omega))
   have nS:=oy.own 114 _ _ rfl
   have fj:bu 114=g:=(qe nS 0 g rfl rfl).1
   refine⟨[(1,.int .i64 ec),(2,.int .i64 cc),(4,.pointer (some ⟨g1,0,none⟩)),(7,.pointer (some ⟨g7,0,none⟩)),(8,.pointer (some ⟨g4,0,none⟩)),(9,.pointer (some ⟨bu 114,0,none⟩)),(10,.int .i64 ((([]:List Value).length+1:Nat):Int))],⟨⟨_,_,rfl,rfl,rfl⟩,⟨_,_,rfl,rfl,rfl⟩,⟨_,_,rfl,rfl,rfl⟩,⟨_,_,rfl,rfl,rfl⟩,⟨_,_,rfl,rfl,rfl⟩,⟨_,_,rfl,rfl,rfl⟩,⟨_,_,rfl,congrArg (λz=>Value.int .i64 z) (aD (i:=([]:List Value).length) aa),rfl⟩,trivial⟩,([]:List Value).length+1,g4,bu 114,g1,g7,.slice (some ⟨bu 54,0,none⟩) 1 cap,[Value.slice jb ru.length iW],by omega,rfl,rfl,rI,fI,by rw[fj];exact GG,by rw[fj];exact gQ,(jd.aB aQ).but o'.1 (by simp[gQ]),nS.cls,ji,by simp,?_,?_,Mu,by rw[fj];exact AE,(xG.aB aQ).but o'.1 (by simp[AE]),hg7W,by rw[fj];exact hg7n,(JA.aB aQ).but o'.1 (by simp[hg7n])⟩
   ·exact iy (vs:=([]:List Value)) (l:=(kf t ec cc x)) (P:=λu r=>aC (mJ (kk+k+1)) 4 38 w.heap.size w' u r) (λi u r hi hr=>((lz i u r hi hr).aB (ba (kk+k+1)) aQ).kp (ba (kk+k+1)) nA rfl) mO ((cf.kp (ba (kk+k+1)) nA rfl).mono uZ)
   ·exact dY (us:=([]:List Value)) (λi j u v b hi=>(by simp at hi)) (λi v b hi hb=>by
     obtain⟨r,hr⟩:∃ r,(kf t ec cc x)[i]? =some r:=⟨_,List.getElem?_eq_getElem (by have:=(List.getElem?_eq_some_iff.1 hi).1;simp at this)⟩
     exact ((lz i v r hi hr).du hb).2) (λb hb=>(cf.du hb).1)
  ·have rJ:=iK.aB aQ
   have Mf:g≠b0:=λh=>by rw[h] at jo;exact absurd (cZ jo rJ) bZ
   have AD:g4≠b0:=λh=>by rw[h] at jd;exact absurd (cZ jd iK) bZ
   have hg1b:g1≠b0:=λh=>by rw[h] at xG;exact absurd (cZ xG iK) bZ
   have hg7b:g7≠b0:=λh=>by rw[h] at JA;exact absurd (cZ JA iK) bZ
   have lB:et rX 57 [g,b0] [(46,[.row 115 0 us.length cB]),(147,vc.flatten.map .val++vd.map .val)] dp:=by
    refine⟨rfl,by simp[Mf],λj g' c' hj hc=> ?_,λc' hc=> ?_,λc' hc k hk=> ?_⟩
    ·match j,hj,hc with
     | 0,hj,hc=>cases hj;cases hc;exact jo
     | 1,hj,hc=>cases hj;cases hc;rw[<-List.map_append,aV];exact rJ
     | j+2,hj,_=>simp at hj
    ·rcases List.mem_cons.1 hc with rfl|hc
     ·exact⟨rfl,rfl⟩
     ·cases List.mem_singleton.1 hc
      exact⟨rfl,by rw[<-List.map_append];exact cE (by rw[List.all_append,(rG.ok bB).1,rH];rfl)⟩
    ·rcases List.mem_cons.1 hc with rfl|hc
     ·have:k=115:=by simpa [aH,AV.de] using hk
      subst this;exact⟨by omega,by show 115<2*57+2;omega⟩
     ·cases List.mem_singleton.1 hc
      rw[<-List.map_append,ah] at hk;cases hk
   have hNB:dE VE 1 dp us.length cB vc (vd.map .val) us:=⟨rfl,rG.kp bB (Kp.of (U:=UU) aQ),cE rH,ah _,Az,AA,by rw[<-List.map_append,List.length_map];exact AB⟩
   refine⟨[g,b0],[(46,[.row 115 0 us.length cB]),(147,vc.flatten.map .val++vd.map .val)],lB,[(1,.val (.int .i64 ec)),(2,.val (.int .i64 cc)),(4,.val (.pointer (some ⟨g1,0,none⟩))),(7,.val (.pointer (some ⟨g7,0,none⟩))),(8,.val (.pointer (some ⟨g4,0,none⟩))),(9,.box 114 0),(10,.val (.int .i64 (us.length:Int))),(11,.val (X.aI mw))],⟨⟨_,rfl,rfl,λi hi=>(by cases hi)⟩,⟨_,rfl,rfl,λi hi=>(by cases hi)⟩,⟨_,rfl,rfl,λi hi=>(by cases hi)⟩,⟨_,rfl,rfl,λi hi=>(by cases hi)⟩,⟨_,rfl,rfl,λi hi=>(by cases hi)⟩,⟨_,rfl,rfl,λi hi=>by rw[(by simpa [AV.ids] using hi:i=114)];exact⟨(by show 114<=114;omega),(by show 114<2*57+2;omega)⟩⟩,⟨_,rfl,rfl,λi hi=>(by cases hi)⟩,⟨_,rfl,rfl,λi hi=>(by cases hi)⟩,trivial⟩,?_⟩
   generalize X.aI mw=vv at cf ⊢
   obtain⟨jb,iW,rfl⟩:=cf.form
   refine mz ?_
   refine VO.lj (qg _ _) bB (t:=44) (e:=147) (s:=53) (i:=115) (n:=us.length) (c:=cB) (vs:=vc) (sp:=vd.map .val) (es:=us) (a:=.slice jb ru.length iW) (cs:=[.slice jb ru.length iW]) rfl rfl rfl rfl rfl rfl rfl rfl (bP rfl) rfl (.inl rfl) rfl (hNB.kp bB (aF.eH (show aF rX dp _ from eS))) rfl ⟨rfl,_,_,_,rfl⟩ aa (λmH cap sp ρ LX Jy fv iV=>wV rfl ?_)
   refine mz ?_
   refine VS.kc rfl (R-(us.length+1)) aa (λw' bu k' o' oy=> ?_)
   have nA:aF rX dp w':=(show aF rX dp mH from eS).aw k'
   have rI:ak w w':=eK.aB (fT.aw aQ) o'.1 (λx hx=>by
    rcases List.mem_cons.1 hx with rfl|hx
    ·omega
    ·rw[List.mem_singleton.1 hx];omega)
   have hst:fH VE 1 147 54 (.row 54 0 (us.length+1) cap) [(54,(147,_))] mH (us++[.slice jb ru.length iW]):=.inr ⟨_,cap,_,sp,rfl,rfl,iV⟩
   have ji:=hst.told bB oy (λx hx=>by cases List.mem_singleton.1 hx;rfl) k'.eH w.heap.size (λh=>(da (show fG 57 [g,b0] dp 54 (bu 54) from h)).elim (λq=>Nat.le_trans uZ (Nat.le_trans rF q)) (λq=>by
    rcases List.mem_cons.1 q with h|h
    ·rw[h];omega
    ·rw[List.mem_singleton.1 h];omega))
   have nS:=oy.own 114 _ _ rfl
   have fj:bu 114=g:=(qe nS 0 g rfl rfl).1
   refine⟨[(1,.int .i64 ec),(2,.int .i64 cc),(4,.pointer (some ⟨g1,0,none⟩)),(7,.pointer (some ⟨g7,0,none⟩)),(8,.pointer (some ⟨g4,0,none⟩)),(9,.pointer (some ⟨bu 114,0,none⟩)),(10,.int .i64 ((us.length+1:Nat):Int))],⟨⟨_,_,rfl,rfl,rfl⟩,⟨_,_,rfl,rfl,rfl⟩,⟨_,_,rfl,rfl,rfl⟩,⟨_,_,rfl,rfl,rfl⟩,⟨_,_,rfl,rfl,rfl⟩,⟨_,_,rfl,rfl,rfl⟩,⟨_,_,rfl,congrArg (λz=>Value.int .i64 z) (aD (i:=us.length) aa),rfl⟩,trivial⟩,us.length+1,g4,bu 114,g1,g7,.slice (some ⟨bu 54,0,none⟩) (us.length+1) cap,us++[Value.slice jb ru.length iW],by omega,rfl,rfl,rI,fI,by rw[fj];exact GG,by rw[fj];exact gQ,(jd.aB aQ).but o'.1 (by simp[gQ,AD]),nS.cls,ji,by simp,?_,?_,Mu,by rw[fj];exact AE,(xG.aB aQ).but o'.1 (by simp[AE,hg1b]),hg7W,by rw[fj];exact hg7n,(JA.aB aQ).but o'.1 (by simp[hg7n,hg7b])⟩
   ·exact iy (vs:=us) (l:=(kf t ec cc x)) (P:=λu r=>aC (mJ (kk+k+1)) 4 38 w.heap.size w' u r) (λi u r hi hr=>((lz i u r hi hr).aB (ba (kk+k+1)) aQ).kp (ba (kk+k+1)) nA rfl) mO ((cf.kp (ba (kk+k+1)) nA rfl).mono uZ)
   ·exact dY (us:=us) GH (λi v b hi hb=>by
     obtain⟨r,hr⟩:∃ r,(kf t ec cc x)[i]? =some r:=⟨_,List.getElem?_eq_getElem (by have:=(List.getElem?_eq_some_iff.1 hi).1;omega)⟩
     exact ((lz i v r hi hr).du hb).2) (λb hb=>(cf.du hb).1)
 refine VS.aP rfl (decide_eq_false (λh=>JB (Int.ofNat_lt.1 h))) ?_
 obtain rfl:R=e:=by omega
 (repeat (first|refine wN ?_|refine wP rfl ?_|refine wO rfl rfl ?_))
 obtain⟨pv,cv,rfl⟩:=Ay.form
 refine VS.ea tW (λt=>Nat.beq t 23) table (λ_ _ _=>trivial) (λdp mw k1 sY yj=> ?_)
 have aQ:ak W dp:=sY
 have lB:et tW 57 [g4] [(46,[.val (.slice none 0 0)])] dp:=by
  refine⟨rfl,by simp,λj g' c' hj hc=> ?_,λc' hc=> ?_,λc' hc k hk=> ?_⟩
  ·match j,hj,hc with
   | 0,hj,hc=>cases hj;cases hc;exact jd.aB aQ
   | j+1,hj,_=>simp at hj
  ·cases List.mem_singleton.1 hc
   exact⟨rfl,rfl⟩
  ·cases List.mem_singleton.1 hc
   cases hk
 refine⟨[g4],[(46,[.val (.slice none 0 0)])],lB,[(8,.box 114 0),(9,.val (.pointer (some ⟨g,0,none⟩)))],⟨⟨_,rfl,rfl,λi hi=>by rw[(by simpa [AV.ids] using hi:i=114)];exact⟨(by show 114<=114;omega),(by show 114<2*57+1;omega)⟩⟩,⟨_,rfl,rfl,λi hi=>(by cases hi)⟩,trivial⟩,?_⟩
 refine ck ?_
 refine VO.eJ rfl [.slice pv us.length cv] rfl (at_one (ik (λh=>gQ h.symm) ((xk.aB aQ).cell (j:=0) rfl))) (wV rfl ?_)
 refine ck ?_
 refine VS.pP (gP _ _) rfl (λwz β kz bz en=> ?_)
 have rI:ak w wz:=eK.aB (fT.aw aQ) bz.1 (λx hx=>by rw[List.mem_singleton.1 hx];exact fI)
 have hT:eu (mJ (kk+k+1)) 147 38 w.heap.size W (.slice pv us.length cv) (kf t ec cc x):=⟨us,Ay,by omega,lz,GH⟩
 exact⟨_,rfl,hT.kp (ba (kk+k+1)) (T:=λt=> !Nat.beq t 46) ((aF.of aQ).aw (eK.kp bz.1 (λx hx=>⟨46,[.slice none 0 0],by rw[List.mem_singleton.1 hx];exact jd.aB aQ,rfl,rfl⟩))) rfl rfl,rI⟩
set_option maxRecDepth 4000
theorem ne_len {t u:db} (h:t.length≠u.length):decide (t=u)=false:=decide_eq_false (λe=>h (by rw[e]))
theorem MA {t u:db} {e:Nat} {r s:List Rat} (h1:t[e]? =some r) (h2:u[e]? =some s) (h:r≠s):decide (t=u)=false:=decide_eq_false (λe=>h (by rw[e,h2] at h1;exact (Option.some.inj h1).symm))
theorem eq_rows {t u:db} (hl:t.length=u.length) (h:∀ i,i<t.length->t[i]? =u[i]?):decide (t=u)=true:=decide_eq_true (List.ext_getElem? λi=>by
 by_cases hi:i<t.length
 ·exact h i hi
 ·rw[List.getElem?_eq_none aa,List.getElem?_eq_none aa])
theorem MB {r s:List Rat} (hl:r.length=s.length) (h:∀ i,i<r.length->r[i]? =s[i]?):r=s:=List.ext_getElem? λi=>by
 by_cases hi:i<r.length
 ·exact h i hi
 ·rw[List.getElem?_eq_none aa,List.getElem?_eq_none aa]
set_option maxRecDepth 4000 in
theorem ug (v u:Value) (t t2:db) (j k:Nat) (w:World) (hv:aO (cM j) 1 w v t) (hu:aO (cM k) 1 w u t2) (hj1:1<=j) (qn:1<=k) (hj:j<=1000) (hk:k<=1000):
  Calls Tryz.prog 33 #[.agg #[v],.agg #[u]] w λo w'=>o=.returned (.bool (decide (t=t2)))/\ak w w':=by
 obtain⟨p,c,rfl,eV,fm⟩:=hv.form
 obtain⟨p2,c2,rfl,hnc2,hcm2⟩:=hu.form
 obtain⟨R,hR⟩:∃ R,R=t.length:=⟨_,rfl⟩
 obtain⟨R2,hR2⟩:∃ R,R=t2.length:=⟨_,rfl⟩
 rw[<-hR] at hv eV
 rw[<-hR2] at hu hnc2
 rw[<-hR,<-hR2]
 refine af (C:=aW Tryz.prog w _) (args:=[_,_]) Tryz.func33 rfl Tryz.ntmps33 (bP rfl) ?_
 refine ae ?_
 by_cases hRR:R=R2
 rotate_left
 ·refine VS.aR rfl (CZ aa) ?_
  refine ae ?_
  refine aX ?_;intro wz kz bz
  exact⟨by rw[ne_len aa];rfl,bz⟩
 subst hRR
 refine VS.aP rfl (tQ aa) ?_
 refine ae ?_
 refine VS.loop (J:=λm L M w'=>∃ e:Nat,e<=R/\m=R-e/\L=[(2,.box 2 0),(3,.box 3 0),(5,.val (.int .i64 (e:Int)))]/\M=[(2,(46,[.val (.slice p R c)])),(3,(46,[.val (.slice p2 R c2)]))]/\∀ i,i<e->t[i]? =t2[i]?) R ⟨_,_,?_,?_,?_,?_,⟨0,by omega,rfl,rfl,rfl,λi hi=>by omega⟩⟩ ?_
 ·exact ew
 ·exact ew
 ·rfl
 ·exact kH
 rintro m L M wJ ⟨e,he,rfl,rfl,rfl,hup⟩
 refine ae ?_
 by_cases hle:e<R
 rotate_left
 ·refine VS.aP rfl (decide_eq_false (λe=>hle (Int.ofNat_lt.1 e))) ?_
  refine ae ?_
  refine aX ?_;intro wz kz bz
  exact⟨by rw[eq_rows aa (λi hi=>hup i aa)];rfl,bz⟩
 obtain⟨ru,mO⟩:∃ x,t[e]? =some x:=⟨_,List.getElem?_eq_getElem aa⟩
 obtain⟨rs,hrs⟩:∃ x,t2[e]? =some x:=⟨_,List.getElem?_eq_getElem aa⟩
 have xJ:=hv
 have Kh:=hu
 obtain⟨b,off,cs,rfl,hc,⟨rv,rfl,pk⟩⟩:=hv.at mO
 obtain⟨b2,rj,cs2,rfl,nG,⟨rv2,rfl,ky⟩⟩:=hu.at hrs
 obtain⟨p3,c3,rfl,hKc,hcc⟩:=pk.form
 obtain⟨p4,c4,rfl,hKc2,hcc2⟩:=ky.form
 refine VS.aR rfl (decide_eq_true (Int.ofNat_lt.2 hle)) ?_
 refine ae ?_
 refine VO.cond rfl dc ?_
 refine wV rfl ?_
 refine ae ?_
 refine VO.read rfl [.slice p3 ru.length c3] rfl (ax hc) (wV rfl ?_)
 refine ae ?_
 refine VO.cond rfl dc ?_
 refine wV rfl ?_
 refine ae ?_
 refine VO.read rfl [.slice p4 rs.length c4] rfl (ax nG) (wV rfl ?_)
 refine ae ?_
 by_cases Ml:ru.length=rs.length
 rotate_left
 ·refine VS.aR rfl (CZ aa) ?_
  refine ae ?_
  refine aX ?_;intro wz kz bz
  exact⟨by rw[MA mO hrs (λh=>Ml (by rw[h]))];rfl,bz⟩
 refine VS.aP rfl (tQ aa) ?_
 refine ae ?_
 obtain⟨K,hK⟩:∃ K,K=ru.length:=⟨_,rfl⟩
 refine VS.loop (J:=λm L M w'=>∃ q:Nat,q<=K/\m=K-q/\L=[(2,.box 2 0),(3,.box 3 0),(5,.val (.int .i64 (e:Int))),(6,.val (.int .i64 (q:Int)))]/\M=[(2,(46,[.val (.slice (some ⟨b,off,none⟩) R c)])),(3,(46,[.val (.slice (some ⟨b2,rj,none⟩) R c2)]))]/\∀ i,i<q->ru[i]? =rs[i]?) K ⟨_,_,?_,?_,?_,?_,⟨0,by omega,rfl,rfl,rfl,λi hi=>by omega⟩⟩ ?_
 ·exact ew
 ·exact ew
 ·rfl
 ·exact kH
 rintro m L M wM ⟨q,hq,rfl,rfl,rfl,hupq⟩
 rw[<-hK] at pk hc hKc
 refine ae ?_
 refine VO.cond rfl dc ?_
 refine wV rfl ?_
 refine ae ?_
 refine VO.read rfl [.slice p3 K c3] rfl (ax hc) (wV rfl ?_)
 refine ae ?_
 by_cases EF:q<K
 rotate_left
 ·refine VS.aP rfl (decide_eq_false (λe=>EF (Int.ofNat_lt.1 e))) ?_
  refine ae ?_
  refine VS.back (R-(e+1)) aa ⟨_,_,?_,?_,?_,?_,⟨e+1,by omega,rfl,rfl,rfl,λi hi=> ?_⟩⟩
  ·refine⟨rfl,rfl,?_,trivial⟩
   rw[<-aD (i:=e) aa];rfl
  ·exact ew
  ·rfl
  ·exact kH
  ·by_cases pK:i=e
   ·subst pK
    rw[mO,hrs,MB Ml (λi hi=>hupq i aa)]
   ·exact hup i aa
 obtain⟨x,hx⟩:∃ x,ru[q]? =some x:=⟨_,List.getElem?_eq_getElem aa⟩
 obtain⟨y,hy⟩:∃ x,rs[q]? =some x:=⟨_,List.getElem?_eq_getElem aa⟩
 have hsx:gn x j:=by
  obtain⟨_,_,_,_,_,⟨_,_,_,_,_,_,_,_,_,hr⟩⟩:=pk.at hx
  exact hr.sz hj1
 have hsy:gn y k:=by
  obtain⟨_,_,_,_,_,⟨_,_,_,_,_,_,_,_,_,hr⟩⟩:=ky.at hy
  exact hr.sz qn
 refine VS.aR rfl (decide_eq_true (Int.ofNat_lt.2 EF)) ?_
 refine ae ?_
 refine VO.call rfl rfl (fk Tryz.func31) (λbo cj bD=>(ll _ t ru x e q j bo (xJ.cP (bG j) bD) mO hx hj).mono ?_)
 rintro o w1 ⟨r1,rfl,q1,aL⟩
 obtain⟨s1,p1,n1,c1,t1,y1,m1,d1,rfl⟩:=q1.form
 refine bA aL ?_
 intro dh _ bb1
 refine VO.call rfl rfl (fk Tryz.func31) (λcA dG cV=>(ll _ t2 rs y e q k cA (Kh.cP (bG k) cV) hrs hy hk).mono ?_)
 rintro o w2 ⟨r2,rfl,q2,aY⟩
 obtain⟨s2,p5,n2,c5,t5,y2,m2,d2,rfl⟩:=q2.form
 refine bA aY ?_
 intro eU _ bb2
 refine VO.call rfl rfl (fk Tryz.func82) (λeD eW fN=>(CY _ _ x y j k eD ((q1.kp (T:=λ_=>false) eS).to hsx) ((q2.kp (T:=λ_=>false) eS).to hsy) aa aa).mono ?_)
 rintro o w3 ⟨rfl,cK⟩
 by_cases uG:x=y
 rotate_left
 ·rw[decide_eq_false uG]
  refine bA cK ?_
  intro iM _ bb3
  refine aX ?_;intro wz kz bz
  exact⟨by rw[MA mO hrs (λh=>uG (by rw[h,hy] at hx;exact (Option.some.inj hx).symm))];rfl,bz⟩
 rw[decide_eq_true uG]
 refine bA cK ?_
 intro iM _ bb3
 refine VS.back (K-(q+1)) aa ⟨_,_,?_,?_,?_,?_,⟨q+1,by omega,rfl,rfl,rfl,λi hi=> ?_⟩⟩
 ·refine⟨rfl,rfl,rfl,?_,trivial⟩
  rw[<-aD (i:=q) aa];rfl
 ·exact ew
 ·rfl
 ·exact kH
 ·by_cases hiq:i=q
  ·subst hiq;rw[hx,hy,uG]
  ·exact hupq i aa
end
section
open Go.RowKit
def kh (n k:Nat) (f:Nat->Nat->Rat):db:=(List.range n).map λe=>(List.range k).map (f e)
def kj (t:db) (e c:Nat):Rat:=(t.getD e []).getD c 0
def lE (n k:Nat) (t:db):Prop:=t.length=n/\∀ r∈t,r.length=k
section
variable {n k e c:Nat} {f g:Nat->Nat->Rat} {x:Rat} {t:db} {l:List db} {i:Nat}
theorem km:(kh n k f).length=n:=by unfold kh;rw[List.length_map,List.length_range]
theorem td (he:e<n):(kh n k f)[e]? =some ((List.range k).map (f e)):=by
 unfold kh;rw[List.getElem?_map,List.getElem?_range he];rfl
theorem xq (hc:c<k):((List.range k).map (f e))[c]? =some (f e c):=by
 rw[List.getElem?_map,List.getElem?_range hc];rfl
theorem jD (h:∀ e c,e<n->c<k->f e c=g e c):kh n k f=kh n k g:=by
 unfold kh
 refine List.map_congr_left λe he=>List.map_congr_left λc hc=>h e c (List.mem_range.1 he) (List.mem_range.1 hc)
theorem GN {r:List Rat} (h:r∈kh n k f):r.length=k/\∀ x∈r,∃ e c,e<n/\c<k/\x=f e c:=by
 unfold kh at h
 obtain⟨e,he,rfl⟩:=List.mem_map.1 h
 refine⟨by rw[List.length_map,List.length_range],λx hx=> ?_⟩
 obtain⟨c,hc,rfl⟩:=List.mem_map.1 hx
 exact⟨e,c,List.mem_range.1 he,List.mem_range.1 hc,rfl⟩
theorem xr (he:e<n) (hc:c<k):qh (kh n k f) e c x=kh n k (λe' c'=>if e'=e/\c'=c then f e' c' +x else f e' c'):=by
 apply List.ext_getElem?
 intro i
 by_cases hi:i<n
 ·rw[ou (td hi),td hi]
  congr 1
  by_cases pK:i=e
  ·subst pK
   rw[if_pos rfl]
   apply List.ext_getElem?
   intro j
   rw[List.getElem?_modify]
   by_cases hj:j<k
   ·rw[xq hj,xq (f:=λe' c'=>if e'=i/\c'=c then f e' c' +x else f e' c') hj]
    by_cases hjc:c=j
    ·subst hjc;simp
    ·have:¬ (j=c):=λh=>hjc h.symm
     simp[hjc,this]
   ·rw[List.getElem?_eq_none (by rw[List.length_map,List.length_range];omega),List.getElem?_eq_none (by rw[List.length_map,List.length_range];omega)]
    rfl
  ·rw[if_neg pK]
   refine List.map_congr_left λc' _=> ?_
   rw[if_neg (λh=>pK h.1)]
 ·rw[List.getElem?_eq_none (by rw[lx,km];omega),List.getElem?_eq_none (by rw[km];omega)]
theorem MC (he:e<n) (hc:c<k):mh (kh n k f) (e:Int) (c:Int)=true:=by
 unfold mh
 rw[Int.toNat_natCast,List.getD_eq_getElem?_getD,td he,km]
 refine decide_eq_true ⟨by omega,by omega,by omega,?_⟩
 rw[Option.getD_some,List.length_map,List.length_range];omega
theorem Jh (he:e<n) (hc:c<k):ia (kh n k f) (e:Int) (c:Int) x=kh n k (λe' c'=>if e'=e/\c'=c then f e' c' +x else f e' c'):=by
 unfold ia
 rw[if_pos (MC he hc),Int.toNat_natCast,Int.toNat_natCast,xr he hc]
theorem Ji:dK n k=kh n k (λ_ _=>0):=by
 unfold dK kh
 apply List.ext_getElem?
 intro i
 by_cases hi:i<n
 ·rw[List.getElem?_map,List.getElem?_range hi,List.getElem?_replicate,if_pos hi]
  simp only[Option.map_some]
  congr 1
  apply List.ext_getElem?
  intro j
  by_cases hj:j<k
  ·rw[List.getElem?_map,List.getElem?_range hj,List.getElem?_replicate,if_pos hj];rfl
  ·rw[List.getElem?_eq_none (by simp;omega),List.getElem?_eq_none (by simp;omega)]
 ·rw[List.getElem?_eq_none (by simp;omega),List.getElem?_eq_none (by simp;omega)]
theorem MD (h:lE n k t):t=kh n k (kj t):=by
 apply List.ext_getElem?
 intro i
 by_cases hi:i<n
 ·obtain⟨r,hr⟩:∃ r,t[i]? =some r:=⟨_,List.getElem?_eq_getElem (by rw[h.1];exact hi)⟩
  rw[td hi,hr]
  congr 1
  have hk:=h.2 r (List.mem_of_getElem? hr)
  apply List.ext_getElem?
  intro j
  by_cases hj:j<k
  ·rw[xq hj]
   unfold kj
   rw[List.getD_eq_getElem?_getD,List.getD_eq_getElem?_getD,hr,Option.getD_some,List.getElem?_eq_getElem aa];rfl
  ·rw[List.getElem?_eq_none aa,List.getElem?_eq_none (by simp;omega)]
 ·rw[List.getElem?_eq_none (by rw[h.1];omega),List.getElem?_eq_none (by rw[km];omega)]
theorem xt {r:List Rat} (h1:t[e]? =some r) (h2:r[c]? =some x):kj t e c=x:=by
 unfold kj
 rw[List.getD_eq_getElem?_getD,List.getD_eq_getElem?_getD,h1,Option.getD_some,h2];rfl
def AH (l:List db) (e c:Nat):Rat:=l.foldl (λa t=>a+kj t e c) 0
theorem tf (h:l[i]? =some t):AH (l.take (i+1)) e c=AH (l.take i) e c+kj t e c:=by
 unfold AH
 rw[bJ h,List.foldl_append];rfl
def fu (l:List db) (i e c:Nat):Nat->Nat->Rat:=λe' c'=>AH (l.take i) e' c' +if e' <e\/(e'=e/\c' <c) then kj (l.getD i []) e' c' else 0
theorem GO {l:List db} (h:l[i]? =some t):l.getD i []=t:=by rw[List.getD_eq_getElem?_getD,h];rfl
theorem Dr (h:l[i]? =some t):kh n k (λe' c'=>if e'=e/\c'=c then fu l i e c e' c' +kj t e c else fu l i e c e' c')=kh n k (fu l i e (c+1)):=by
 refine jD λe' c' _ _=> ?_
 unfold fu
 rw[GO h]
 by_cases h1:e'=e/\c'=c
 ·obtain⟨rfl,rfl⟩:=h1
  rw[if_pos ⟨rfl,rfl⟩,if_neg aa,if_pos aa]
  grind
 ·rw[if_neg h1]
  by_cases h2:e' <e\/(e'=e/\c' <c)
  ·rw[if_pos h2,if_pos aa]
  ·rw[if_neg h2,if_neg aa]
theorem GP:kh n k (fu l i e k)=kh n k (fu l i (e+1) 0):=by
 refine jD λe' c' _ hc=> ?_
 unfold fu
 by_cases h2:e' <e\/(e'=e/\c' <k)
 ·rw[if_pos h2,if_pos aa]
 ·rw[if_neg h2,if_neg aa]
theorem GQ (h:l[i]? =some t):kh n k (fu l i n 0)=kh n k (fu l (i+1) 0 0):=by
 refine jD λe' c' he hc=> ?_
 unfold fu
 rw[if_pos aa,if_neg aa,tf h,GO h]
 grind
theorem ME:kh n k (fu l 0 0 0)=dK n k:=by
 rw[Ji]
 refine jD λe' c' he hc=> ?_
 unfold fu
 rw[if_neg aa,List.take_zero]
 show (0:Rat)+0=0
 grind
theorem Dt:kh n k (fu l l.length 0 0)=kh n k (AH l):=by
 refine jD λe' c' he hc=> ?_
 unfold fu
 rw[if_neg aa,List.take_length]
 grind
theorem mid_one (h:l[0]? =some t) (ht:lE n k t):kh n k (fu l 1 0 0)=t:=by
 conv=>rhs;rw[MD ht]
 refine jD λe' c' he hc=> ?_
 unfold fu
 rw[if_neg aa,tf h,List.take_zero]
 show (0:Rat)+kj t e' c' +0=kj t e' c'
 grind
def MF (n k:Nat) (t:db):Bool:=t.length == n && t.all (λr=>r.length == k)
theorem zw:MF n k t=true↔lE n k t:=by
 unfold MF lE
 rw[Bool.and_eq_true,beq_iff_eq,List.all_eq_true]
 exact⟨λ⟨a,b⟩=>⟨a,λr hr=>by simpa using b r hr⟩,λ⟨a,b⟩=>⟨a,λr hr=>by simpa using b r hr⟩⟩
def szN (l:List db):Nat:=(l.headD []).length
def szK (l:List db):Nat:=((l.headD []).headD []).length
def uz (l:List db):Option db:=if l.all (MF (szN l) (szK l))=true then some (kh (szN l) (szK l) (AH l)) else none
theorem oG (h:l[i]? =some t) (hn:¬ lE (szN l) (szK l) t):uz l=none:=by
 unfold uz
 rw[if_neg]
 intro ha
 exact hn (zw.1 (List.all_eq_true.1 ha t (List.mem_of_getElem? h)))
theorem zx (h:∀ (i:Nat) (t:db),l[i]? =some t->lE (szN l) (szK l) t):uz l=some (kh (szN l) (szK l) (AH l)):=by
 unfold uz
 rw[if_pos (List.all_eq_true.2 λt ht=>by
  obtain⟨i,hi⟩:=List.getElem?_of_mem ht
  exact zw.2 (h i t hi))]
theorem Du {j:Nat} (h:my t j) (hj:1<=j):gn (kj t e c) j:=by
 cases h1:t[e]? with
 | none=>
   unfold kj
   rw[List.getD_eq_getElem?_getD,List.getD_eq_getElem?_getD,h1]
   exact gn.zero.mono hj
 | some r=>
   cases h2:r[c]? with
   | none=>
     unfold kj
     rw[List.getD_eq_getElem?_getD,List.getD_eq_getElem?_getD,h1,Option.getD_some,h2]
     exact gn.zero.mono hj
   | some x=>
     rw[xt h1 h2]
     exact h r (List.mem_of_getElem? h1) x (List.mem_of_getElem? h2)
theorem GR {j:Nat} (h:∀ t∈l,my t j) (hj:1<=j):∀ i,i<=l.length->gn (AH (l.take i) e c) (1+i*(j+1))
 | 0,_=>gn.zero.mono aa
 | i+1,hi=>by
   obtain⟨t,ht⟩:∃ t,l[i]? =some t:=⟨_,List.getElem?_eq_getElem aa⟩
   rw[tf ht]
   refine ((GR h hj i aa).add (Du (h t (List.mem_of_getElem? ht)) hj)).mono ?_
   rw[Nat.succ_mul];omega
theorem MG {j:Nat} (h:∀ t∈l,my t j) (hj:1<=j) (hi:i<=l.length):my (kh n k (fu l i e c)) (1+(i+1)*(j+1)):=λr hr x hx=>by
 obtain⟨e',c',_,_,rfl⟩:=(GN hr).2 x hx
 unfold fu
 have h1:=GR (e:=e') (c:=c') h hj i hi
 have h2:(i+1)*(j+1)=i*(j+1)+(j+1):=Nat.succ_mul ..
 split
 ·refine (h1.add (Du ?_ hj)).mono aa
  rw[List.getD_eq_getElem?_getD]
  cases hq:l[i]? with
  | none=>intro r hr;cases hr
  | some t=>exact h t (List.mem_of_getElem? hq)
 ·refine (h1.add gn.zero).mono aa
end
end
end Go.Proofs.YtlifeokjcgngjaaGreat
