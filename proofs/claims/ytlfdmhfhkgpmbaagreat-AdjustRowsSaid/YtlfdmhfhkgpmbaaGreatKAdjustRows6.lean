/-AP of the proof,laid behind one another. -/
import Derived.Test.YtlfdmhfhkgpmbaaGreatKAdjustRows5
set_option linter.all false
set_option maxHeartbeats 64000000
namespace Go.Proofs.YtlfdmhfhkgpmbaaGreat
open Go.RowKit
attribute [local irreducible] ao VS
section
variable {F F':Fr} {H H':Hp} {w w1:World} {N:Nat} {l':List Oper} {Q:Exit->Act->World->Prop} {k:List It} {id:Nat} {ops:Array Oper}
end
theorem ew.told {α:Type} {E:World->List Value->α->Prop} {sz i:Nat} {t:TypeId} {es:List α} {C:Cx} {β:Nat->Nat} {H:Hp} {w w1:World} {X:AV} {M:List (Nat×(TypeId×List AV))} (h:ew E sz t i X M w es) (hE:fU E sz) (en:Ends C β H w1) (hM:∀ x∈M,H x.1=some x.2) (k:Kp UU w w1) (B:Nat) (hB:C.uu i (β i)->B<=β i):bk E sz t B w1 (X.aU β) es:=by
 rcases h with ⟨rfl,rfl,rfl⟩|⟨n,c,vs,sp,rfl,rfl,h3⟩
 ·exact .inl ⟨rfl,rfl⟩
 ·have o:=en.own i _ _ (hM _ (List.mem_singleton.2 rfl))
  have hk:=o.ok
  rw[List.all_append,Bool.and_eq_true] at hk
  have hn:=h3.len
  subst hn
  refine .inr ⟨β i,c,vs,sp.map (AV.leaf β),rfl,hB o.new,?_,h3.el.kp hE k,dX hk.2,h3.le,h3.cm,by rw[<-h3.fl];simp only[List.length_append,List.length_map]⟩
  have:=o.cls
  rw[List.map_append,aW] at this
  exact this
set_option maxRecDepth 4000
set_option maxRecDepth 4000 in
theorem xN (v:Value) (cs:List fE) (kk:Nat) (w:World) (hv:bM (fC kk) 6 w v cs) (hk:kk<=1000000) (hn:cs.length<=1000000):
  Calls Tryz.prog 19 #[v] w λo w'=>∃ r,o=.returned r/\bk (fC kk) 6 127 w.heap.size w' r cs/\aw w w':=by
 obtain⟨p,c,rfl,dL,eH⟩:=hv.form
 obtain⟨N,hN⟩:∃ N,N=cs.length:=⟨_,rfl⟩
 rw[<-hN] at hv dL hn
 rw[<-hN]
 refine ae (C:=aM Tryz.prog w _) (args:=[_]) Tryz.func19 rfl Tryz.ntmps19 (bl rfl) ?_
 refine aa ?_
 refine VS.loop (J:=λm L M w'=>∃ (z:Nat) (X:AV) (Mi:List (Nat×(TypeId×List AV))),z<=N/\m=N-z/\L=[(0,.val (.slice p N c)),(3,X),(4,.val (.int .i64 (z:Int)))]/\M=Mi/\ew (fC kk) 6 127 30 X Mi w' (cs.take z)) N ⟨_,_,?_,?_,?_,?_,⟨0,_,[],by omega,rfl,rfl,rfl,.inl ⟨rfl,rfl,rfl⟩⟩⟩ ?_
 ·exact cW
 ·exact cW
 ·rfl
 ·exact fR
 rintro m L M wJ ⟨z,X,Mi,hz,rfl,rfl,rfl,hR⟩
 refine VS.mask [29] (by rcases hR with ⟨_,rfl,rfl⟩|⟨_,_,_,_,rfl,rfl,_⟩ <;> (repeat first|exact trivial|refine⟨rfl,?_⟩)) ?_
 refine aa ?_
 by_cases hlt:z<N
 ·obtain⟨k,hx⟩:∃ k,cs[z]? =some k:=⟨_,List.getElem?_eq_getElem ab⟩
  obtain⟨b,off,gM,rfl,hc,⟨nm,s0,p0,n0,c0,t0,y0,m0,d0,rfl,oX,jf⟩⟩:=hv.at hx
  refine VS.aJ rfl (decide_eq_true (Int.ofNat_lt.2 hlt)) ?_
  refine aa ?_
  refine VO.cond rfl dz ?_
  refine wV rfl ?_
  refine aa ?_
  refine VO.read rfl [.string nm] rfl (bX hc 0 _ ⟨_,rfl⟩) (wV rfl ?_)
  refine aa ?_
  refine VO.cond rfl dz ?_
  refine wV rfl ?_
  refine aa ?_
  refine VO.read rfl [.int .u8 (k.1:Int)] rfl (bX hc 1 _ ⟨_,rfl⟩) (wV rfl ?_)
  refine aa ?_
  refine VO.cond rfl dz ?_
  refine wV rfl ?_
  refine aa ?_
  refine VO.read rfl [.bool s0,.slice p0 n0 c0,.bool t0,.slice y0 m0 d0] rfl (bX hc 2 _ ⟨[],rfl⟩) (wV rfl ?_)
  refine aa ?_
  refine VO.cR rfl rfl (fk Tryz.func53) (λaC aY aH=>xa _ k.2 kk aC (jf.kp (Kp.of (U:=UU) aH)) ab) (λaC aY aH w1 s1 p1 n1 c1 t1 y1 m1 d1 q1 aD bQ _ bb1=>wV rfl ?_)
  refine aa ?_
  have kX:fC kk w1 [.string nm,.int .u8 (k.1:Int),.bool s1,.slice p1 n1 c1,.bool t1,.slice y1 m1 d1] k:=.mk oX q1.k
  rcases hR with ⟨dk,rfl,rfl⟩|⟨n',c',vs,sp,rfl,rfl,kf⟩
  ·refine VO.na (cH _ _) (dU kk) (t:=62) (e:=127) (s:=29) (a:=k) (cs:=[.string nm,.int .u8 (k.1:Int),.bool s1,.slice p1 n1 c1,.bool t1,.slice y1 m1 d1]) rfl rfl rfl rfl rfl rfl rfl rfl (bl rfl) rfl rfl rfl kX ab (λw9 cap sp k9 b9 jv=>wV rfl ?_)
   refine aa ?_
   refine VS.back (N-(z+1)) ab ⟨_,_,?_,?_,?_,?_,⟨z+1,_,_,by omega,rfl,rfl,rfl,.inr ⟨1,cap,_,sp,rfl,rfl,by rw[ba hx,dk];exact jv⟩⟩⟩
   ·refine⟨rfl,rfl,?_,trivial⟩
    rw[<-aB (i:=z) ab];rfl
   ·(repeat first|exact trivial|refine⟨rfl,?_⟩|refine⟨congrArg (λl=>some (_,l)) (bu (by first|exact bU.cV (by assumption)|exact af _|(rw[<-List.map_append];exact af _)) _ _),?_⟩)
   ·rfl
   ·(repeat first|exact trivial|refine⟨ai.lit rfl,?_⟩|refine⟨bU.oU (by assumption),?_⟩|refine⟨ai.append (.vals _) (.vals _),?_⟩|refine⟨ai.vals _,?_⟩)
  ·have qe:=kf.len
   rw[List.length_take] at qe
   refine VO.nb (cH _ _) (dU kk) (t:=62) (e:=127) (s:=29) (i:=30) (n:=n') (c:=c') (vs:=vs) (sp:=sp) (es:=cs.take z) (a:=k) (cs:=[.string nm,.int .u8 (k.1:Int),.bool s1,.slice p1 n1 c1,.bool t1,.slice y1 m1 d1]) rfl rfl rfl rfl rfl rfl rfl rfl (bl rfl) rfl (.inr rfl) rfl (kf.kp (dU kk) bg) rfl kX ab (λw9 kS uJ ρ k9 b9 eV jv=>wV rfl ?_)
   refine aa ?_
   refine VS.back (N-(z+1)) ab ⟨_,_,?_,?_,?_,?_,⟨z+1,_,_,by omega,rfl,rfl,rfl,.inr ⟨n' +1,kS,_,uJ,rfl,rfl,by rw[ba hx];exact jv⟩⟩⟩
   ·refine⟨rfl,rfl,?_,trivial⟩
    rw[<-aB (i:=z) ab];rfl
   ·(repeat first|exact trivial|refine⟨rfl,?_⟩|refine⟨congrArg (λl=>some (_,l)) (bu (by first|exact bU.cV (by assumption)|exact af _|(rw[<-List.map_append];exact af _)) _ _),?_⟩)
   ·rfl
   ·(repeat first|exact trivial|refine⟨ai.lit rfl,?_⟩|refine⟨bU.oU (by assumption),?_⟩|refine⟨ai.append (.vals _) (.vals _),?_⟩|refine⟨ai.vals _,?_⟩)
 ·refine VS.aK rfl (decide_eq_false (λe=>hlt (Int.ofNat_lt.1 e))) ?_
  obtain rfl:z=N:=by omega
  rw[List.take_of_length_le ab] at hR
  rcases hR with ⟨dk,rfl,rfl⟩|⟨n',c',vs,sp,rfl,rfl,kf⟩
  ·refine aa ?_
   refine au ?_;intro wz kz bz
   exact⟨_,rfl,.inl ⟨rfl,dk⟩,bz⟩
  ·refine aa ?_
   refine VS.mh (cH _ _) rfl (λwz β kz bz en=> ?_)
   exact⟨_,rfl,kf.new (dU kk) (en.own 30 _ _ rfl) kz,bz⟩
set_option maxRecDepth 4000 in
theorem xd (v u:Value) (l:List Dh) (j k:Nat) (w:World) (hv:bM (eG j) 28 w v l) (hu:bM (eG k) 28 w u l):
  Calls Tryz.prog 24 #[v,u] w λo w'=>o=.returned (.bool true)/\aw w w':=by
 obtain⟨p,c,rfl,dL,eH⟩:=hv.form
 obtain⟨p',c',rfl,hnc',hcm'⟩:=hu.form
 obtain⟨N,hN⟩:∃ N,N=l.length:=⟨_,rfl⟩
 rw[<-hN] at hv dL hu hnc' ⊢
 refine ae (C:=aM Tryz.prog w _) (args:=[_,_]) Tryz.func24 rfl Tryz.ntmps24 (bl rfl) ?_
 refine aa ?_
 refine VS.aK rfl dw ?_
 refine aa ?_
 refine VS.loop (J:=λm L M w'=>∃ z:Nat,z<=N/\m=N-z/\L=[(0,.val (.slice p N c)),(1,.val (.slice p' N c')),(5,.val (.int .i64 (z:Int)))]/\M=[]) N ⟨_,_,?_,?_,?_,?_,⟨0,by omega,rfl,rfl,rfl⟩⟩ ?_
 ·exact cW
 ·exact cW
 ·rfl
 ·exact fR
 rintro m L M wJ ⟨z,hz,rfl,rfl,rfl⟩
 refine aa ?_
 by_cases hlt:z<N
 ·obtain⟨x,hx⟩:∃ x,l[z]? =some x:=⟨_,List.getElem?_eq_getElem ab⟩
  obtain⟨bA,offA,csA,rfl,hcA,⟨_,_,_,_,_,_,_,rfl,⟨slA,plA,nlA,clA,tlA,ylA,mlA,dlA,rfl,glA⟩,⟨slB,plB,nlB,clB,tlB,ylB,mlB,dlB,rfl,glB⟩,⟨slC,plC,nlC,clC,tlC,ylC,mlC,dlC,rfl,glC⟩,⟨slD,plD,nlD,clD,tlD,ylD,mlD,dlD,rfl,glD⟩,⟨slE,plE,nlE,clE,tlE,ylE,mlE,dlE,rfl,glE⟩,⟨slF,plF,nlF,clF,tlF,ylF,mlF,dlF,rfl,glF⟩,⟨slG,plG,nlG,clG,tlG,ylG,mlG,dlG,rfl,glG⟩⟩⟩:=hv.at hx
  obtain⟨bB,offB,csB,rfl,hcB,⟨_,_,_,_,_,_,_,rfl,⟨sqA,pqA,nqA,cqA,tqA,yqA,mqA,dqA,rfl,gqA⟩,⟨sqB,pqB,nqB,cqB,tqB,yqB,mqB,dqB,rfl,gqB⟩,⟨sqC,pqC,nqC,cqC,tqC,yqC,mqC,dqC,rfl,gqC⟩,⟨sqD,pqD,nqD,cqD,tqD,yqD,mqD,dqD,rfl,gqD⟩,⟨sqE,pqE,nqE,cqE,tqE,yqE,mqE,dqE,rfl,gqE⟩,⟨sqF,pqF,nqF,cqF,tqF,yqF,mqF,dqF,rfl,gqF⟩,⟨sqG,pqG,nqG,cqG,tqG,yqG,mqG,dqG,rfl,gqG⟩⟩⟩:=hu.at hx
  refine VS.aJ rfl (decide_eq_true (Int.ofNat_lt.2 hlt)) ?_
  refine aa ?_
  refine VO.cond rfl dz ?_
  refine wV rfl ?_
  refine aa ?_
  refine VO.read rfl [.bool slA,.slice plA nlA clA,.bool tlA,.slice ylA mlA dlA,.bool slB,.slice plB nlB clB,.bool tlB,.slice ylB mlB dlB,.bool slC,.slice plC nlC clC,.bool tlC,.slice ylC mlC dlC,.bool slD,.slice plD nlD clD,.bool tlD,.slice ylD mlD dlD,.bool slE,.slice plE nlE clE,.bool tlE,.slice ylE mlE dlE,.bool slF,.slice plF nlF clF,.bool tlF,.slice ylF mlF dlF,.bool slG,.slice plG nlG clG,.bool tlG,.slice ylG mlG dlG] rfl (bX hcA 0 _ ⟨[],rfl⟩) (wV rfl ?_)
  refine aa ?_
  refine VO.cond rfl dz ?_
  refine wV rfl ?_
  refine aa ?_
  refine VO.read rfl [.bool sqA,.slice pqA nqA cqA,.bool tqA,.slice yqA mqA dqA,.bool sqB,.slice pqB nqB cqB,.bool tqB,.slice yqB mqB dqB,.bool sqC,.slice pqC nqC cqC,.bool tqC,.slice yqC mqC dqC,.bool sqD,.slice pqD nqD cqD,.bool tqD,.slice yqD mqD dqD,.bool sqE,.slice pqE nqE cqE,.bool tqE,.slice yqE mqE dqE,.bool sqF,.slice pqF nqF cqF,.bool tqF,.slice yqF mqF dqF,.bool sqG,.slice pqG nqG cqG,.bool tqG,.slice yqG mqG dqG] rfl (bX hcB 0 _ ⟨[],rfl⟩) (wV rfl ?_)
  refine aa ?_
  refine VO.cB rfl rfl (fk Tryz.func17) (λaC aY aH=>MM _ _ x _ _ aC ⟨_,rfl,(bh j).b ⟨_,_,_,_,_,_,_,rfl,.mk glA.1 glA.2,.mk glB.1 glB.2,.mk glC.1 glC.2,.mk glD.1 glD.2,.mk glE.1 glE.2,.mk glF.1 glF.2,.mk glG.1 glG.2⟩ aH⟩ ⟨_,rfl,(bh k).b ⟨_,_,_,_,_,_,_,rfl,.mk gqA.1 gqA.2,.mk gqB.1 gqB.2,.mk gqC.1 gqC.2,.mk gqD.1 gqD.2,.mk gqE.1 gqE.2,.mk gqF.1 gqF.2,.mk gqG.1 gqG.2⟩ aH⟩) (λaC aY aH w1 aD bQ _ bb1=>wV rfl ?_)
  refine aa ?_
  refine VS.back (N-(z+1)) ab ⟨_,_,?_,?_,?_,?_,⟨z+1,by omega,rfl,rfl,rfl⟩⟩
  ·refine⟨rfl,rfl,?_,trivial⟩
   rw[<-aB (i:=z) ab];rfl
  ·exact cW
  ·rfl
  ·exact fR
 ·refine VS.aK rfl (decide_eq_false (λe=>hlt (Int.ofNat_lt.1 e))) ?_
  refine aa ?_
  refine au ?_;intro wz kz bz
  exact⟨rfl,bz⟩
set_option maxRecDepth 4000 in
theorem zp (v:Value) (t:List (List Rat)) (xs:List Rat) (x:Rat) (e c:Nat) (kk:Nat) (w:World) (hv:bM (nc kk) 1 w v t) (hx:t[e]? =some xs) (hc:xs[c]? =some x) (hk:kk<=1000):
  Calls Tryz.prog 55 #[.agg #[v],.int .i64 (e:Int),.int .i64 (c:Int)] w λo w'=>∃ r,o=.returned r/\aG w' r x/\aw w w':=by
 obtain⟨p,cp,rfl⟩:=hv.sl
 have kX:e<t.length:=(List.getElem?_eq_some_iff.1 hx).1
 have nr:c<xs.length:=(List.getElem?_eq_some_iff.1 hc).1
 obtain⟨b,off,csx,rfl,hcc,⟨xv,rfl,rY⟩⟩:=hv.at hx
 obtain⟨b2,JB,csx2,hp3,oP,⟨s,pp,n,cx,tt,y,mm,d,rfl,hrt⟩⟩:∃ b off cs,xv=.slice (some ⟨b,off,none⟩) xs.length (match xv with | .slice _ _ c=>c|_=>0)/\(∀ (j:Nat) (u:Value),cs[j]? =some u->w.cell? ⟨b,off+c*4+j,none⟩=some u)/\oW kk w cs x:=by
  obtain⟨p3,c3,rfl⟩:=rY.sl
  obtain⟨b2,JB,cs2,rfl,h1,h2⟩:=rY.at hc
  exact⟨b2,JB,cs2,rfl,h1,h2⟩
 rw[hp3] at hcc
 generalize (match xv with | .slice _ _ c=>c|_=>0)=c3 at hcc hp3
 refine ae (C:=aM Tryz.prog w _) (args:=[_,_,_]) Tryz.func55 rfl Tryz.ntmps55 (bl rfl) ?_
 refine aa ?_
 refine VO.fix 9 rfl (congrArg (λb=>AV.val (.bool b)) (decide_eq_false (show ¬ (e:Int)<0 by omega))) ?_
 refine aa ?_
 refine VO.fix 16 rfl (congrArg (λb=>AV.val (.bool b)) (decide_eq_false (show ¬ (e:Int)>=(t.length:Int) by omega))) ?_
 refine aa ?_
 refine VO.fix 20 rfl (congrArg (λb=>AV.val (.bool b)) (decide_eq_false (show ¬ (c:Int)<0 by omega))) ?_
 refine aa ?_
 refine VO.cond rfl dz (wV rfl ?_)
 refine VO.read rfl [.slice (some ⟨b2,JB,none⟩) xs.length c3] rfl (cS hcc) (wV rfl ?_)
 refine aa ?_
 refine VS.aK rfl (decide_eq_false (show ¬ (c:Int)>=(xs.length:Int) by omega)) ?_
 refine aa ?_
 refine VO.cond rfl dz (wV rfl ?_)
 refine VO.read rfl [.slice (some ⟨b2,JB,none⟩) xs.length c3] rfl (cS hcc) (wV rfl ?_)
 refine aa ?_
 refine VO.cond rfl dz (wV rfl ?_)
 refine VO.read rfl [.bool s,.slice pp n cx,.bool tt,.slice y mm d] rfl (bX oP 0 _ ⟨[],rfl⟩) (wV rfl ?_)
 refine aa ?_
 refine VO.call rfl rfl (fk Tryz.func120) (λaN bD bf=>(cd _ x kk aN (hrt.kp (Kp.of (U:=UU) bf)) ab).mono ?_)
 rintro o w2 ⟨r2,rfl,q2,aQ⟩
 obtain⟨s2,p2,n2,c2,t2,y2,m2,d2,rfl⟩:=q2.form
 refine aF aQ ?_
 intro cL _ bb2
 refine au ?_;intro wz kz bz
 exact⟨_,rfl,q2.kp kz,bz⟩
theorem JK {q:Rat} (h:q.den=1):q=((q.num:Int):Rat):=Rat.ext dw (by simp[h])
theorem JL {a:Bool×Rat} {q:Rat} (h2:a.2=q) (h1:a.1=false->q=0) (h:∀ i:Nat,1<=i->i<41->dK a=true->q≠((i:Int):Rat)):fb q=0:=by
 unfold fb
 rw[if_neg]
 rintro⟨hd,g1,g2⟩
 have hw:dK a=true:=by
  cases hh:dK a with
  | true=>rfl
  | false=>
    have:=zm h2 h1 hh
    unfold fb at this
    rw[if_pos ⟨hd,g1,g2⟩] at this
    omega
 refine h q.num.toNat ab ab hw ?_
 rw[Int.toNat_of_nonneg ab]
 exact JK hd
theorem ayrs_is {q:Rat} {n:Nat} (h:q=((n:Int):Rat)) (h1:1<=n) (h40:n<=40):fb q=n:=by
 subst h
 unfold fb
 rw[if_pos ⟨by simp,by simp;omega,by simp;omega⟩]
 simp
set_option maxRecDepth 4000 in
theorem xe (cs:List Value) (x:fE) (kk:Nat) (w:World) (hv:fC kk w cs x) (hk:kk<=1000000):
  Calls Tryz.prog 54 #[.agg cs.toArray] w λe w'=>e=.returned (.int .i64 (fb x.2:Int))/\aw w w':=by
 obtain⟨nm,s0,p0,n0,c0,t0,y0,m0,d0,rfl,oX,jf⟩:=hv
 obtain⟨a,s,p,c,t,r,d,xs,ys,he,dZ,ha2,ha1⟩:=jf.raw
 injection he with he
 have zV:=congrArg Array.toList he
 simp only[List.cons.injEq,Value.bool.injEq,Value.slice.injEq,and_true] at zV
 obtain⟨rfl,⟨rfl,rfl,rfl⟩,rfl,rfl,rfl,rfl⟩:=zV
 refine ae (C:=aM Tryz.prog w _) (args:=[_]) Tryz.func54 rfl Tryz.ntmps54 (bl rfl) ?_
 refine aa ?_
 refine VS.loop (J:=λm L M w'=>∃ z:Nat,1<=z/\z<=41/\m=41-z/\L=[(1,.box 1 0),(3,.val (.int .i64 (z:Int)))]/\M=[(1,(127,([.string nm,.int .u8 (x.1:Int),.bool s0,.slice p0 xs.length c0,.bool t0,.slice y0 ys.length d0]:List Value).map .val))]/\∀ i:Nat,1<=i->i<z->dK a=true->x.2≠((i:Int):Rat)) 40 ⟨_,_,?_,?_,?_,?_,⟨1,by omega,by omega,rfl,rfl,rfl,λi h1 h2=>ab⟩⟩ ?_
 ·exact cW
 ·exact cW
 ·rfl
 ·exact fR
 rintro m L M wJ ⟨z,lj,hz,rfl,rfl,rfl,hno⟩
 refine aa ?_
 by_cases hlt:z<41
 ·refine VS.aJ rfl (decide_eq_true (show (z:Int)<=40 by omega)) ?_
  refine aa ?_
  refine VO.fq rfl (fk Tryz.func116) (λaC β aY aH ho=>(wx _ [a] kk aC (js (mM kk) (ho.own 10 (.base (List.mem_singleton.2 rfl)) _ _ rfl) [] (vs:=[[.bool s0,.slice p0 xs.length c0,.bool t0,.slice y0 ys.length d0]]) (by rfl) (.cons ((mM kk).kp dZ (Kp.of (U:=UU) aH)) .nil) rfl (Nat.le_refl _) (show (1:Nat)<=9223372036854775807 by omega)) ab).mono ?_)
  rintro e w1 ⟨rfl,aD⟩
  cases hw:dK a with
  | false=>
    rw[show [a].all dK=false by simp[hw]]
    refine aF aD ?_
    intro bQ _ bb1
    refine VS.back (41-(z+1)) ab ⟨_,_,?_,?_,?_,?_,⟨z+1,by omega,by omega,rfl,rfl,rfl,λi h1 h2 h3=>(by cases h3)⟩⟩
    ·refine⟨rfl,?_,trivial⟩
     rw[<-aB (i:=z) ab];rfl
    ·exact cW
    ·rfl
    ·exact fR
  | true=>
    rw[show [a].all dK=true by simp[hw]]
    refine aF aD ?_
    intro bQ _ bb1
    refine VO.cR rfl rfl (fk Tryz.func118) (λaN bD bf=>mH (z:Int) aN ab ab) (λaN bD bf w2 s2 p2 n2 c2 t2 y2 m2 d2 q2 aQ cL _ bb2=>wV rfl ?_)
    refine aa ?_
    refine VO.call rfl rfl (fk Tryz.func117) (λcu cM cX=>(CM _ _ x.2 ((z:Int):Rat) kk 1 cu (jf.kp (Kp.of (U:=UU) cX)) (q2.ki (zj ab ab)) ab ab).mono ?_)
    rintro e w3 ⟨rfl,ck⟩
    by_cases hq:x.2=((z:Int):Rat)
    ·rw[decide_eq_true hq]
     refine aF ck ?_
     intro dR _ bb3
     refine au ?_;intro wz kz bz
     exact⟨by rw[ayrs_is hq lj ab];rfl,bz⟩
    ·rw[decide_eq_false hq]
     refine aF ck ?_
     intro dR _ bb3
     refine VS.back (41-(z+1)) ab ⟨_,_,?_,?_,?_,?_,⟨z+1,by omega,by omega,rfl,rfl,rfl,λi h1 h2 h3=>(by
      by_cases hi:i<z
      ·exact hno i h1 hi hw
      ·rw[show i=z by omega];exact hq)⟩⟩
     ·refine⟨rfl,?_,trivial⟩
      rw[<-aB (i:=z) ab];rfl
     ·exact cW
     ·rfl
     ·exact fR
 ·refine VS.aK rfl (decide_eq_false (show ¬ (z:Int)<=40 by omega)) ?_
  obtain rfl:z=41:=by omega
  refine aa ?_
  refine au ?_;intro wz kz bz
  exact⟨by rw[JL ha2 ha1 hno];rfl,bz⟩
set_option maxRecDepth 4000
theorem rD {cs:List fE} {e:Int} {ts:List (List (List Rat))} (h1:ts.length<=40) (h:e<0\/ts.any (eF e cs.length)=true\/cs.any ke=true):gL cs e ts=2/\bn cs e ts=[]:=by
 have hm:gL cs e ts=2:=by
  unfold gL
  rw[if_neg ab]
  by_cases h2:e<0
  ·rw[if_pos h2]
  rw[if_neg h2]
  by_cases h3:ts.any (eF e cs.length)=true
  ·rw[if_pos h3]
  rw[if_neg h3]
  rw[if_pos ((h.resolve_left h2).resolve_left h3)]
 exact⟨hm,if_neg (by rw[hm];decide)⟩
theorem JM {cs:List fE} {e:Int} {ts:List (List (List Rat))} (h1:ts.length<=40) (h2:¬ e<0) (h3:∀ (i:Nat) (t:List (List Rat)),ts[i]? =some t->eF e cs.length t=false) (h4:∀ (i:Nat) (k:fE),cs[i]? =some k->ke k=false):gL cs e ts=0:=by
 unfold gL
 rw[if_neg ab,if_neg h2,if_neg (λh=> ?_),if_neg (λh=> ?_)]
 ·obtain⟨k,hk,hh⟩:=List.any_eq_true.1 h
  obtain⟨i,hi⟩:=List.getElem?_of_mem hk
  rw[h4 i k hi] at hh;cases hh
 ·obtain⟨t,hk,hh⟩:=List.any_eq_true.1 h
  obtain⟨i,hi⟩:=List.getElem?_of_mem hk
  rw[h3 i t hi] at hh;cases hh
theorem sR {α:Type} {f:α->Rat}:∀ {l:List α},(∀ e∈l,f e=0)->eb (l.map f)=0
 | [],_=>rfl
 | x::r,h=>by rw[List.map_cons,jE,h x (List.mem_cons_self ..),sR (λe he=>h e (List.mem_cons_of_mem _ he)),Rat.add_zero]
theorem Dp {cs:List fE} {xss:List (List Rat)} {y:Nat}:∀ {n:Nat},y+1<=n->eE (cT cs xss n) (y:Int)=eE (cT cs xss (y+1)) (y:Int)/\fA (cT cs xss n) (y:Int)=fA (cT cs xss (y+1)) (y:Int)
 | 0,h=>by omega
 | n+1,h=>by
   by_cases hn:n=y
   ·subst hn;exact⟨rfl,rfl⟩
   obtain⟨h1,h2⟩:=Dp (cs:=cs) (xss:=xss) (y:=y) (n:=n) ab
   have he:∀ e∈jm n (cs.zip (xss.getD n [])),(cj.exp e).1=(n:Int):=λe he=>by
    obtain⟨q,hq,rfl⟩:=List.mem_map.1 he
    rw[mS,wE]
   have z1:eE (jm n (cs.zip (xss.getD n []))) (y:Int)=0:=sR (λe hm=>if_pos (.inr (.inl (by rw[he e hm];omega))))
   have z2:fA (jm n (cs.zip (xss.getD n []))) (y:Int)=0:=sR (λe hm=>if_pos (by rw[he e hm];omega))
   refine⟨?_,?_⟩
   ·rw[<-h1]
    show eb ((cT cs xss n++_).map _)=_
    rw[List.map_append,tI]
    exact (congrArg (_ + ·) z1).trans (Rat.add_zero _)
   ·rw[<-h2]
    show eb ((cT cs xss n++_).map _)=_
    rw[List.map_append,tI]
    exact (congrArg (_ + ·) z2).trans (Rat.add_zero _)
theorem FI {cs:List fE} {xss:List (List Rat)} (h:∀ (i:Nat) (k:fE),cs[i]? =some k->ke k=false) (n:Nat) (hn:n<=9999):∀ e∈cT cs xss n,cN e.exp=false:=sO (λk hk h6=>by
 obtain⟨i,hi⟩:=List.getElem?_of_mem hk
 have:=h i k hi
 unfold ke at this
 rw[h6] at this
 simp at this
 omega) n hn
set_option maxRecDepth 4000 in
theorem zt (v u:Value) (e:Int) (cs:List fE) (ts:List (List (List Rat))) (kk:Nat) (w:World) (hv:bM (fC kk) 6 w v cs) (hu:bM (jW kk) 1 w u ts) (hk:kk<=64) (jo:1<=kk) (hn:cs.length<=64) (hd:ts.length*cs.length<=128\/40<ts.length):
  Calls Tryz.prog 21 #[v,.int .i64 e,u] w λo w'=>∃ r,o=.returned (.tuple #[r,.int .i64 (gL cs e ts)])/\bk (eG AK) 28 59 w.heap.size w' r (bn cs e ts)/\aw w w':=by
 obtain⟨p,c,rfl,dL,eH⟩:=hv.form
 obtain⟨p2,c2,rfl,JF,hcm2⟩:=hu.form
 obtain⟨N,hN⟩:∃ N,N=cs.length:=⟨_,rfl⟩
 obtain⟨T,hT⟩:∃ T,T=ts.length:=⟨_,rfl⟩
 rw[<-hN] at hv dL hn hd
 rw[<-hT] at hu JF hd
 rw[<-hN,<-hT]
 refine ae (C:=aM Tryz.prog w _) (args:=[_,_,_]) Tryz.func21 rfl Tryz.ntmps21 (bl rfl) ?_
 refine aa ?_
 by_cases hT40:T>40
 ·refine VS.aJ rfl (decide_eq_true (show (T:Int)>40 by omega)) ?_
  have hm:gL cs e ts=3:=by unfold gL;rw[if_pos ab]
  refine aa ?_
  refine au ?_;intro wz kz bz
  exact⟨_,by rw[hm];rfl,.inl ⟨rfl,if_neg (by rw[hm];decide)⟩,bz⟩
 refine VS.aK rfl (decide_eq_false (show ¬ (T:Int)>40 by omega)) ?_
 refine aa ?_
 by_cases he0:e<0
 ·refine VS.aJ rfl (decide_eq_true he0) ?_
  obtain⟨hm,har⟩:=rD (cs:=cs) (ts:=ts) ab (.inl he0)
  refine aa ?_
  refine au ?_;intro wz kz bz
  exact⟨_,by rw[hm];rfl,.inl ⟨rfl,har⟩,bz⟩
 refine VS.aK rfl (decide_eq_false he0) ?_
 obtain⟨E,rfl⟩:=Int.eq_ofNat_of_zero_le (show 0<=e by omega)
 have hTN:T*N<=128:=hd.resolve_right ab
 refine aa ?_
 refine VS.loop (J:=λm L M w'=>∃ z:Nat,z<=N/\m=N-z/\L=[(0,.val (.slice p N c)),(1,.val (.int .i64 (E:Int))),(2,.val (.slice p2 T c2)),(8,.val (.int .i64 (z:Int)))]/\M=[]/\∀ (i:Nat) (k:fE),i<z->cs[i]? =some k->ke k=false) N ⟨_,_,?_,?_,?_,?_,⟨0,by omega,rfl,rfl,rfl,λi k hi=>ab⟩⟩ ?_
 ·exact cW
 ·exact cW
 ·rfl
 ·exact fR
 rintro m L M wJ ⟨z,hz,rfl,rfl,rfl,hno⟩
 refine aa ?_
 by_cases hlt:z<N
 ·obtain⟨k,xO⟩:∃ k,cs[z]? =some k:=⟨_,List.getElem?_eq_getElem ab⟩
  obtain⟨b,off,gM,rfl,hc,hE⟩:=hv.at xO
  have hE':=hE
  obtain⟨nm,s0,p0,n0,c0,t0,y0,m0,d0,rfl,oX,jf⟩:=hE'
  refine VS.aJ rfl (decide_eq_true (Int.ofNat_lt.2 hlt)) ?_
  have hnext:ke k=false->∀ (i:Nat) (k':fE),i<z+1->cs[i]? =some k'->ke k'=false:=λh0 i k' hi hk'=>by
   by_cases hiz:i<z
   ·exact hno i k' hiz hk'
   ·rw[show i=z by omega,xO] at hk';cases hk';exact h0
  refine aa ?_
  refine VO.cond rfl dz ?_
  refine wV rfl ?_
  refine aa ?_
  refine VO.read rfl [.int .u8 (k.1:Int)] rfl (bX hc 1 _ ⟨_,rfl⟩) (wV rfl ?_)
  refine aa ?_
  by_cases h6:k.1=6
  ·refine VO.fix 35 rfl (congrArg (λb=>AV.val (.bool b)) (CN (show (k.1:Int)=6 by omega))) ?_
   refine aa ?_
   refine VO.cond rfl dz ?_
   refine wV rfl ?_
   refine aa ?_
   refine VO.read rfl [.string nm,.int .u8 (k.1:Int),.bool s0,.slice p0 n0 c0,.bool t0,.slice y0 m0 d0] rfl (bX hc 0 _ ⟨[],rfl⟩) (wV rfl ?_)
   refine aa ?_
   refine VO.cB rfl rfl (fk Tryz.func54) (λaC aY aH=>xe _ k kk aC ((dU kk).b hE aH) ab) (λaC aY aH w1 aD bQ _ bb1=>wV rfl ?_)
   refine aa ?_
   by_cases h0:fb k.2=0
   ·refine VS.aJ rfl (CN (show (fb k.2:Int)=0 by omega)) ?_
    obtain⟨hm,har⟩:=rD (cs:=cs) (e:=(E:Int)) (ts:=ts) ab (.inr (.inr (List.any_eq_true.2 ⟨k,List.mem_of_getElem? xO,by unfold ke;rw[h6,h0];rfl⟩)))
    refine aa ?_
    refine au ?_;intro wz kz bz
    exact⟨_,by rw[hm];rfl,.inl ⟨rfl,har⟩,bz⟩
   ·refine VS.aK rfl (yK (show (fb k.2:Int)≠0 by omega)) ?_
    have hnx:=hnext (by unfold ke;rw[h6];simp;omega)
    refine aa ?_
    refine VS.back (N-(z+1)) ab ⟨_,_,?_,?_,?_,?_,⟨z+1,by omega,rfl,rfl,rfl,hnx⟩⟩
    ·(refine⟨rfl,rfl,rfl,?_,trivial⟩;rw[<-aB (i:=z) ab];rfl)
    ·(repeat first|exact trivial|refine⟨rfl,?_⟩|refine⟨congrArg (λl=>some (_,l)) (bu (by first|exact bU.cV (by assumption)|exact af _|(rw[<-List.map_append];exact af _)) _ _),?_⟩)
    ·rfl
    ·(repeat first|exact trivial|refine⟨ai.lit rfl,?_⟩|refine⟨bU.oU (by assumption),?_⟩|refine⟨ai.append (.vals _) (.vals _),?_⟩|refine⟨ai.vals _,?_⟩)
  ·refine VO.fix 35 rfl (congrArg (λb=>AV.val (.bool b)) (yK (show (k.1:Int)≠6 by omega))) ?_
   have hnx:=hnext (by unfold ke;simp[h6])
   refine aa ?_
   refine VS.back (N-(z+1)) ab ⟨_,_,?_,?_,?_,?_,⟨z+1,by omega,rfl,rfl,rfl,hnx⟩⟩
   ·(refine⟨rfl,rfl,rfl,?_,trivial⟩;rw[<-aB (i:=z) ab];rfl)
   ·(repeat first|exact trivial|refine⟨rfl,?_⟩|refine⟨congrArg (λl=>some (_,l)) (bu (by first|exact bU.cV (by assumption)|exact af _|(rw[<-List.map_append];exact af _)) _ _),?_⟩)
   ·rfl
   ·(repeat first|exact trivial|refine⟨ai.lit rfl,?_⟩|refine⟨bU.oU (by assumption),?_⟩|refine⟨ai.append (.vals _) (.vals _),?_⟩|refine⟨ai.vals _,?_⟩)
 refine VS.aK rfl (decide_eq_false (λe=>hlt (Int.ofNat_lt.1 e))) ?_
 obtain⟨xss,FE⟩:∃ xss:List (List Rat),xss=ts.map (λt=>t.getD E []):=⟨_,rfl⟩
 have ey:xss.length=T:=by rw[FE,List.length_map,hT]
 have hxa:∀ y t,ts[y]? =some t->xss.getD y []=t.getD E []:=λy t h=>by rw[FE,List.getD_eq_getElem?_getD,List.getElem?_map,h];rfl
 replace hno:∀ (i:Nat) (k:fE),cs[i]? =some k->ke k=false:=λi k hi=>hno i k (by have:=(List.getElem?_eq_some_iff.1 hi).1;omega) hi
 have hsz:∀ (y:Nat) (t:List (List Rat)) (i:Nat) (l:List Rat),ts[y]? =some t->t[i]? =some l->∀ x∈l,bW x kk:=λy t i l ht hl x hx=>by
  obtain⟨_,_,_,_,_,⟨tv,rfl,DD⟩⟩:=hu.at ht
  obtain⟨_,_,rfl⟩:=DD.sl
  obtain⟨_,_,_,_,_,⟨xv,rfl,hxl2⟩⟩:=DD.at hl
  obtain⟨_,⟨_,_,_,_,_,_,_,_,rfl,hq⟩⟩:=hxl2.mem hx
  exact hq.sz ab
 clear dL JF eH hcm2 hlt hz hd
 refine aa ?_
 refine VS.loop (J:=λm L M w'=>∃ (y:Nat) (Xl:AV) (Ml:List (Nat×(TypeId×List AV))),y<=T/\m=T-y/\L=[(0,.val (.slice p N c)),(1,.val (.int .i64 (E:Int))),(2,.val (.slice p2 T c2)),(9,Xl),(10,.val (.int .i64 (y:Int)))]/\M=Ml/\ew (ju kk) 6 136 99 Xl Ml w' (cT cs xss y)/\∀ (i:Nat) (t:List (List Rat)),i<y->ts[i]? =some t->eF (E:Int) N t=false) T ⟨_,_,?_,?_,?_,?_,⟨0,_,[],by omega,rfl,rfl,rfl,.inl ⟨rfl,rfl,rfl⟩,λi t hi=>ab⟩⟩ ?_
 ·exact cW
 ·exact cW
 ·rfl
 ·exact fR
 rintro m L Ml wK ⟨y,Xl,Ml2,hy,rfl,rfl,rfl,hL,hlk⟩
 refine VS.mask [98] (by rcases hL with ⟨_,rfl,rfl⟩|⟨_,_,_,_,rfl,rfl,_⟩ <;> (repeat first|exact trivial|refine⟨rfl,?_⟩)) ?_
 refine aa ?_
 by_cases hyT:y<T
 ·obtain⟨t,ht⟩:∃ t,ts[y]? =some t:=⟨_,List.getElem?_eq_getElem ab⟩
  obtain⟨bT,oY,csT,rfl,hcT,⟨tv,rfl,DD⟩⟩:=hu.at ht
  obtain⟨pt,ct,rfl⟩:=DD.sl
  have xt:=hxa y t ht
  refine VS.aJ rfl (decide_eq_true (Int.ofNat_lt.2 hyT)) ?_
  refine aa ?_
  refine VO.cond rfl dz ?_
  refine wV rfl ?_
  refine aa ?_
  refine VO.read rfl [.slice pt t.length ct] rfl (cS hcT) (wV rfl ?_)
  refine aa ?_
  by_cases Ln:(E:Int)>=(t.length:Int)
  ·refine VO.fix 57 rfl (congrArg (λb=>AV.val (.bool b)) (decide_eq_true Ln)) ?_
   obtain⟨hm,har⟩:=rD (cs:=cs) (e:=(E:Int)) (ts:=ts) ab (.inr (.inl (List.any_eq_true.2 ⟨t,List.mem_of_getElem? ht,by unfold eF;rw[decide_eq_true Ln];rfl⟩)))
   refine aa ?_
   refine au ?_;intro wz kz bz
   exact⟨_,by rw[hm];rfl,.inl ⟨rfl,har⟩,bz⟩
  refine VO.fix 57 rfl (congrArg (λb=>AV.val (.bool b)) (decide_eq_false Ln)) ?_
  obtain⟨xs,rY⟩:∃ xs,t[E]? =some xs:=⟨_,List.getElem?_eq_getElem ab⟩
  obtain⟨b1,off1,cs1,rfl,nH,⟨xv,rfl,hxv⟩⟩:=DD.at rY
  obtain⟨px,cx,rfl⟩:=hxv.sl
  have wY:xss.getD y []=xs:=by rw[xt,List.getD_eq_getElem?_getD,rY];rfl
  have AL:eF (E:Int) N t=(xs.length != N):=by
   unfold eF
   rw[decide_eq_false Ln,Bool.false_or,Int.toNat_natCast,List.getD_eq_getElem?_getD,rY];rfl
  refine aa ?_
  refine VO.cond rfl dz ?_
  refine wV rfl ?_
  refine aa ?_
  refine VO.read rfl [.slice (some ⟨b1,off1,none⟩) t.length ct] rfl (cS hcT) (wV rfl ?_)
  refine aa ?_
  refine VO.cond rfl dz ?_
  refine wV rfl ?_
  refine aa ?_
  refine VO.read rfl [.slice px xs.length cx] rfl (cS nH) (wV rfl ?_)
  refine aa ?_
  by_cases hxn:xs.length=N
  ·refine VS.aK rfl (wm (show (xs.length:Int)=(N:Int) by omega)) ?_
   have hlk':∀ (i:Nat) (t:List (List Rat)),i<y+1->ts[i]? =some t->eF (E:Int) N t=false:=λi t' hi ht'=>by
    by_cases hiy:i<y
    ·exact hlk i t' hiy ht'
    ·rw[show i=y by omega,ht] at ht';cases ht';rw[AL,hxn];simp
   refine aa ?_
   refine VS.loop (J:=λm L M w'=>∃ (z:Nat) (Xl:AV) (Ml:List (Nat×(TypeId×List AV))),z<=N/\m=N-z/\L=[(0,.val (.slice p N c)),(1,.val (.int .i64 (E:Int))),(2,.val (.slice (some ⟨bT,oY,none⟩) T c2)),(9,Xl),(10,.val (.int .i64 (y:Int))),(11,.val (.int .i64 (z:Int)))]/\M=Ml/\ew (ju kk) 6 136 99 Xl Ml w' (ik cs xss y z)) N ⟨_,_,?_,?_,?_,?_,⟨0,Xl,Ml,by omega,rfl,rfl,rfl,by rw[show ik cs xss y 0=cT cs xss y from List.append_nil _];exact hL.kp (dm kk) bg⟩⟩ ?_
   ·rcases hL with ⟨_,rfl,rfl⟩|⟨_,_,_,_,rfl,rfl,_⟩ <;> (repeat first|exact trivial|refine⟨rfl,?_⟩)
   ·rcases hL with ⟨_,rfl,rfl⟩|⟨_,_,_,_,rfl,rfl,_⟩ <;> (repeat first|exact trivial|refine⟨rfl,?_⟩|refine⟨congrArg (λl=>some (_,l)) (bu (by first|exact bU.cV (by assumption)|exact af _|(rw[<-List.map_append];exact af _)) _ _),?_⟩)
   ·rcases hL with ⟨_,rfl,rfl⟩|⟨_,_,_,_,rfl,rfl,_⟩ <;> rfl
   ·rcases hL with ⟨_,rfl,rfl⟩|⟨_,_,_,_,rfl,rfl,_⟩ <;> (repeat first|exact trivial|refine⟨ai.lit rfl,?_⟩|refine⟨bU.oU (by assumption),?_⟩|refine⟨ai.append (.vals _) (.vals _),?_⟩|refine⟨ai.vals _,?_⟩)
   clear hL
   rintro m L Ml wI ⟨z,Xl,Ml2,hz,rfl,rfl,rfl,hL⟩
   refine VS.mask [98] (by rcases hL with ⟨_,rfl,rfl⟩|⟨_,_,_,_,rfl,rfl,_⟩ <;> (repeat first|exact trivial|refine⟨rfl,?_⟩)) ?_
   refine aa ?_
   by_cases hzt:z<N
   ·obtain⟨k,xO⟩:∃ k,cs[z]? =some k:=⟨_,List.getElem?_eq_getElem ab⟩
    obtain⟨x,Cv⟩:∃ x,xs[z]? =some x:=⟨_,List.getElem?_eq_getElem ab⟩
    obtain⟨b,off,gM,rfl,hc,hE⟩:=hv.at xO
    have hE':=hE
    obtain⟨nm,s0,p0,n0,c0,t0,y0,m0,d0,rfl,oX,jf⟩:=hE'
    refine VS.aJ rfl (decide_eq_true (Int.ofNat_lt.2 hzt)) ?_
    refine aa ?_
    refine VO.cond rfl dz ?_
    refine wV rfl ?_
    refine aa ?_
    refine VO.read rfl [.int .u8 (k.1:Int)] rfl (bX hc 1 _ ⟨_,rfl⟩) (wV rfl ?_)
    refine aa ?_
    by_cases h6:k.1=6
    ·have FG:rA (k,x)=true:=by unfold rA;rw[show (k,x).1.1=6 from h6];rfl
     have xK:ik cs xss y (z+1)=ik cs xss y z++[mS y (k,x)]:=by rw[oK xO (by rw[wY];exact Cv),if_pos FG]
     have rB:(ik cs xss y z).length<=128:=wW hyT (hN▸hTN)
     have hayl:=AB k.2
     refine VS.aJ rfl (CN (show (k.1:Int)=6 by omega)) ?_
     refine aa ?_
     refine VO.cond rfl dz ?_
     refine wV rfl ?_
     refine aa ?_
     refine VO.read rfl [.string nm,.int .u8 (k.1:Int),.bool s0,.slice p0 n0 c0,.bool t0,.slice y0 m0 d0] rfl (bX hc 0 _ ⟨[],rfl⟩) (wV rfl ?_)
     refine aa ?_
     refine VO.cB rfl rfl (fk Tryz.func54) (λaC aY aH=>xe _ k kk aC ((dU kk).b hE aH) ab) (λaC aY aH w1 aD bQ _ bb1=>wV rfl ?_)
     refine aa ?_
     refine VO.cond rfl dz ?_
     refine wV rfl ?_
     refine aa ?_
     refine VO.read rfl [.slice (some ⟨b1,off1,none⟩) t.length ct] rfl (cS hcT) (wV rfl ?_)
     refine aa ?_
     refine VO.call rfl rfl (fk Tryz.func55) (λaN bD bf=>(zp _ t xs x E z kk aN (DD.oV (wH kk) bf) rY Cv ab).mono ?_)
     rintro o w2 ⟨r2,rfl,q2,aQ⟩
     obtain⟨pq,cq,rq,dq,rfl,-⟩:=q2.raw.wi
     refine aF aQ ?_
     intro cL _ bb2
     have hxz:=hsz y t E xs ht rY x (List.mem_of_getElem? Cv)
     have kX:ju kk w2 [.int .i64 (y:Int),.int .i64 (fb k.2:Int),.bool (decide (x.num<0)),.slice pq (limbs x.num.natAbs).length cq,.bool (decide ((x.den:Int)<0)),.slice rq (limbs (x.den:Int).natAbs).length dq] (mS y (k,x)):=⟨_,_,_,_,rfl,⟨by show _<=(y:Int);omega,by show (y:Int)<=_;omega⟩,⟨by show _<=(fb k.2:Int);omega,by show (fb k.2:Int)<=_;omega⟩,q2.raw,hxz.1,hxz.2⟩
     rcases hL with ⟨dk,rfl,rfl⟩|⟨n',c',vs,sp,rfl,rfl,kf⟩
     ·refine VO.na (cH _ _) (dm kk) (t:=133) (e:=136) (s:=98) (a:=mS y (k,x)) (cs:=[.int .i64 (y:Int),.int .i64 (fb k.2:Int),.bool (decide (x.num<0)),.slice pq (limbs x.num.natAbs).length cq,.bool (decide ((x.den:Int)<0)),.slice rq (limbs (x.den:Int).natAbs).length dq]) rfl rfl rfl rfl rfl rfl rfl rfl (bl rfl) rfl rfl rfl kX ab (λw9 cap sp k9 b9 jv=>wV rfl ?_)
      refine aa ?_
      refine VS.back (N-(z+1)) ab ⟨_,_,?_,?_,?_,?_,⟨z+1,_,_,by omega,rfl,rfl,rfl,.inr ⟨1,cap,_,sp,rfl,rfl,by rw[xK,dk];exact jv⟩⟩⟩
      ·(refine⟨rfl,rfl,rfl,rfl,rfl,?_,trivial⟩;rw[<-aB (i:=z) ab];rfl)
      ·(repeat first|exact trivial|refine⟨rfl,?_⟩|refine⟨congrArg (λl=>some (_,l)) (bu (by first|exact bU.cV (by assumption)|exact af _|(rw[<-List.map_append];exact af _)) _ _),?_⟩)
      ·rfl
      ·(repeat first|exact trivial|refine⟨ai.lit rfl,?_⟩|refine⟨bU.oU (by assumption),?_⟩|refine⟨ai.append (.vals _) (.vals _),?_⟩|refine⟨ai.vals _,?_⟩)
     ·have qe:=kf.len
      refine VO.nb (cH _ _) (dm kk) (t:=133) (e:=136) (s:=98) (i:=99) (n:=n') (c:=c') (vs:=vs) (sp:=sp) (es:=ik cs xss y z) (a:=mS y (k,x)) (cs:=[.int .i64 (y:Int),.int .i64 (fb k.2:Int),.bool (decide (x.num<0)),.slice pq (limbs x.num.natAbs).length cq,.bool (decide ((x.den:Int)<0)),.slice rq (limbs (x.den:Int).natAbs).length dq]) rfl rfl rfl rfl rfl rfl rfl rfl (bl rfl) rfl (.inr rfl) rfl (kf.kp (dm kk) bg) rfl kX ab (λw9 kS uJ ρ k9 b9 eV jv=>wV rfl ?_)
      refine aa ?_
      refine VS.back (N-(z+1)) ab ⟨_,_,?_,?_,?_,?_,⟨z+1,_,_,by omega,rfl,rfl,rfl,.inr ⟨n' +1,kS,_,uJ,rfl,rfl,by rw[xK];exact jv⟩⟩⟩
      ·(refine⟨rfl,rfl,rfl,rfl,rfl,?_,trivial⟩;rw[<-aB (i:=z) ab];rfl)
      ·(repeat first|exact trivial|refine⟨rfl,?_⟩|refine⟨congrArg (λl=>some (_,l)) (bu (by first|exact bU.cV (by assumption)|exact af _|(rw[<-List.map_append];exact af _)) _ _),?_⟩)
      ·rfl
      ·(repeat first|exact trivial|refine⟨ai.lit rfl,?_⟩|refine⟨bU.oU (by assumption),?_⟩|refine⟨ai.append (.vals _) (.vals _),?_⟩|refine⟨ai.vals _,?_⟩)
    ·have FG:¬ rA (k,x)=true:=by unfold rA;intro h;exact h6 (eq_of_beq h)
     have xK:ik cs xss y (z+1)=ik cs xss y z:=by rw[oK xO (by rw[wY];exact Cv),if_neg FG,List.append_nil]
     refine VS.aK rfl (yK (show (k.1:Int)≠6 by omega)) ?_
     refine aa ?_
     refine VS.back (N-(z+1)) ab ⟨_,_,?_,?_,?_,?_,⟨z+1,Xl,Ml,by omega,rfl,rfl,rfl,by rw[xK];exact hL.kp (dm kk) bg⟩⟩
     ·rcases hL with ⟨_,rfl,rfl⟩|⟨_,_,_,_,rfl,rfl,_⟩ <;> (refine⟨rfl,rfl,rfl,rfl,rfl,?_,trivial⟩;rw[<-aB (i:=z) ab];rfl)
     ·rcases hL with ⟨_,rfl,rfl⟩|⟨_,_,_,_,rfl,rfl,_⟩ <;> (repeat first|exact trivial|refine⟨rfl,?_⟩|refine⟨congrArg (λl=>some (_,l)) (bu (by first|exact bU.cV (by assumption)|exact af _|(rw[<-List.map_append];exact af _)) _ _),?_⟩)
     ·rcases hL with ⟨_,rfl,rfl⟩|⟨_,_,_,_,rfl,rfl,_⟩ <;> rfl
     ·rcases hL with ⟨_,rfl,rfl⟩|⟨_,_,_,_,rfl,rfl,_⟩ <;> (repeat first|exact trivial|refine⟨ai.lit rfl,?_⟩|refine⟨bU.oU (by assumption),?_⟩|refine⟨ai.append (.vals _) (.vals _),?_⟩|refine⟨ai.vals _,?_⟩)
   ·refine VS.aK rfl (decide_eq_false (λe=>hzt (Int.ofNat_lt.1 e))) ?_
    obtain rfl:z=N:=by omega
    have hlN:ik cs xss y z=cT cs xss (y+1):=by
     unfold ik
     rw[List.take_of_length_le (by rw[List.length_zip,wY];omega)];rfl
    rw[hlN] at hL
    refine aa ?_
    refine VS.back (T-(y+1)) ab ⟨_,_,?_,?_,?_,?_,⟨y+1,Xl,Ml,by omega,rfl,rfl,rfl,hL.kp (dm kk) bg,hlk'⟩⟩
    ·rcases hL with ⟨_,rfl,rfl⟩|⟨_,_,_,_,rfl,rfl,_⟩ <;> (refine⟨rfl,rfl,rfl,rfl,?_,trivial⟩;rw[<-aB (i:=y) ab];rfl)
    ·rcases hL with ⟨_,rfl,rfl⟩|⟨_,_,_,_,rfl,rfl,_⟩ <;> (repeat first|exact trivial|refine⟨rfl,?_⟩|refine⟨congrArg (λl=>some (_,l)) (bu (by first|exact bU.cV (by assumption)|exact af _|(rw[<-List.map_append];exact af _)) _ _),?_⟩)
    ·rcases hL with ⟨_,rfl,rfl⟩|⟨_,_,_,_,rfl,rfl,_⟩ <;> rfl
    ·rcases hL with ⟨_,rfl,rfl⟩|⟨_,_,_,_,rfl,rfl,_⟩ <;> (repeat first|exact trivial|refine⟨ai.lit rfl,?_⟩|refine⟨bU.oU (by assumption),?_⟩|refine⟨ai.append (.vals _) (.vals _),?_⟩|refine⟨ai.vals _,?_⟩)
  ·refine VS.aJ rfl (GH (show (xs.length:Int)≠(N:Int) by omega)) ?_
   obtain⟨hm,har⟩:=rD (cs:=cs) (e:=(E:Int)) (ts:=ts) ab (.inr (.inl (List.any_eq_true.2 ⟨t,List.mem_of_getElem? ht,by rw[<-hN,AL];simp[hxn]⟩)))
   refine aa ?_
   refine au ?_;intro wz kz bz
   exact⟨_,by rw[hm];rfl,.inl ⟨rfl,har⟩,bz⟩
 refine VS.aK rfl (decide_eq_false (λe=>hyT (Int.ofNat_lt.1 e))) ?_
 obtain rfl:y=T:=by omega
 replace hlk:∀ (i:Nat) (t:List (List Rat)),ts[i]? =some t->eF (E:Int) N t=false:=λi t hi=>hlk i t (by have:=(List.getElem?_eq_some_iff.1 hi).1;omega) hi
 have hm:gL cs (E:Int) ts=0:=JM ab ab (by rw[<-hN];exact hlk) hno
 have harr:bn cs (E:Int) ts=ij cs xss:=by rw[FE];exact if_pos hm
 rw[hm,harr]
 obtain⟨T,hTy⟩:∃ T,T=y:=⟨_,rfl⟩
 subst hTy
 have rB:(cT cs xss T).length<=128:=Nat.le_trans (wF cs xss T) (hN▸hTN)
 have hlw:=FI (xss:=xss) hno T ab
 refine aa ?_
 refine VS.loop (J:=λm L M w'=>∃ (y:Nat) (Xo:AV) (Mo:List (Nat×(TypeId×List AV))),y<=T/\m=T-y/\L=[(0,.val (.slice p N c)),(1,.val (.int .i64 (E:Int))),(2,.val (.slice p2 T c2)),(9,Xl),(12,Xo),(13,.val (.int .i64 (y:Int)))]/\M=Ml++Mo/\ew (eG AK) 28 59 156 Xo Mo w' ((ij cs xss).take y)/\ew (ju kk) 6 136 99 Xl Ml w' (cT cs xss T)) T ⟨_,_,?_,?_,?_,?_,⟨0,_,[],by omega,rfl,rfl,(List.append_nil _).symm,.inl ⟨rfl,rfl,rfl⟩,hL.kp (dm kk) bg⟩⟩ ?_
 ·rcases hL with ⟨_,rfl,rfl⟩|⟨_,_,_,_,rfl,rfl,_⟩ <;> (repeat first|exact trivial|refine⟨rfl,?_⟩)
 ·rcases hL with ⟨_,rfl,rfl⟩|⟨_,_,_,_,rfl,rfl,_⟩ <;> (repeat first|exact trivial|refine⟨rfl,?_⟩|refine⟨congrArg (λl=>some (_,l)) (bu (by first|exact bU.cV (by assumption)|exact af _|(rw[<-List.map_append];exact af _)) _ _),?_⟩)
 ·rcases hL with ⟨_,rfl,rfl⟩|⟨_,_,_,_,rfl,rfl,_⟩ <;> rfl
 ·rcases hL with ⟨_,rfl,rfl⟩|⟨_,_,_,_,rfl,rfl,_⟩ <;> (repeat first|exact trivial|refine⟨ai.lit rfl,?_⟩|refine⟨bU.oU (by assumption),?_⟩|refine⟨ai.append (.vals _) (.vals _),?_⟩|refine⟨ai.vals _,?_⟩)
 clear hL
 rintro m L M wG ⟨y,Xo,Mo,hy,rfl,rfl,rfl,hO,hL⟩
 refine VS.mask [16,17,131,132,155] (by rcases hO with ⟨_,rfl,rfl⟩|⟨_,_,_,_,rfl,rfl,_⟩ <;> rcases hL with ⟨_,rfl,rfl⟩|⟨_,_,_,_,rfl,rfl,_⟩ <;> (repeat first|exact trivial|refine⟨rfl,?_⟩)) ?_
 refine aa ?_
 by_cases hyT:y<T
 ·obtain⟨t,ht⟩:∃ t,ts[y]? =some t:=⟨_,List.getElem?_eq_getElem ab⟩
  obtain⟨bT,oY,csT,rfl,hcT,⟨tv,rfl,DD⟩⟩:=hu.at ht
  obtain⟨pt,ct,rfl⟩:=DD.sl
  have xt:=hxa y t ht
  have AL:=hlk y t ht
  unfold eF at AL
  rw[Bool.or_eq_false_iff,decide_eq_false_iff_not,bne_eq_false_iff_eq,Int.toNat_natCast] at AL
  obtain⟨xs,rY⟩:∃ xs,t[E]? =some xs:=⟨_,List.getElem?_eq_getElem ab⟩
  have wY:xss.getD y []=xs:=by rw[xt,List.getD_eq_getElem?_getD,rY];rfl
  have hxn:xs.length=N:=by rw[<-AL.2,<-xt,wY]
  have haln:(bL cs xs).length=N:=by unfold bL;rw[List.length_map,List.length_zip];omega
  refine VS.aJ rfl (decide_eq_true (Int.ofNat_lt.2 hyT)) ?_
  refine aa ?_
  refine VS.loop (J:=λm L M w'=>∃ (z:Nat) (Xi:AV) (Mi:List (Nat×(TypeId×List AV))),z<=N/\m=N-z/\L=[(0,.val (.slice p N c)),(1,.val (.int .i64 (E:Int))),(2,.val (.slice (some ⟨bT,oY,none⟩) T c2)),(9,Xl),(12,Xo),(13,.val (.int .i64 (y:Int))),(14,Xi),(15,.val (.int .i64 (z:Int)))]/\M=Mi++(Ml++Mo)/\ew (mP kk) 9 139 132 Xi Mi w' ((bL cs xs).take z)/\ew (eG AK) 28 59 156 Xo Mo w' ((ij cs xss).take y)/\ew (ju kk) 6 136 99 Xl Ml w' (cT cs xss T)) N ⟨_,_,?_,?_,?_,?_,⟨0,_,[],by omega,rfl,rfl,rfl,.inl ⟨rfl,rfl,rfl⟩,hO.kp (bh AK) bg,hL.kp (dm kk) bg⟩⟩ ?_
  ·rcases hO with ⟨_,rfl,rfl⟩|⟨_,_,_,_,rfl,rfl,_⟩ <;> rcases hL with ⟨_,rfl,rfl⟩|⟨_,_,_,_,rfl,rfl,_⟩ <;> (repeat first|exact trivial|refine⟨rfl,?_⟩)
  ·rcases hO with ⟨_,rfl,rfl⟩|⟨_,_,_,_,rfl,rfl,_⟩ <;> rcases hL with ⟨_,rfl,rfl⟩|⟨_,_,_,_,rfl,rfl,_⟩ <;> (repeat first|exact trivial|refine⟨rfl,?_⟩|refine⟨congrArg (λl=>some (_,l)) (bu (by first|exact bU.cV (by assumption)|exact af _|(rw[<-List.map_append];exact af _)) _ _),?_⟩)
  ·rcases hO with ⟨_,rfl,rfl⟩|⟨_,_,_,_,rfl,rfl,_⟩ <;> rcases hL with ⟨_,rfl,rfl⟩|⟨_,_,_,_,rfl,rfl,_⟩ <;> rfl
  ·rcases hO with ⟨_,rfl,rfl⟩|⟨_,_,_,_,rfl,rfl,_⟩ <;> rcases hL with ⟨_,rfl,rfl⟩|⟨_,_,_,_,rfl,rfl,_⟩ <;> (repeat first|exact trivial|refine⟨ai.lit rfl,?_⟩|refine⟨bU.oU (by assumption),?_⟩|refine⟨ai.append (.vals _) (.vals _),?_⟩|refine⟨ai.vals _,?_⟩)
  clear hO hL
  rintro m L M wI ⟨z,Xi,Mi,hz,rfl,rfl,rfl,hI,hO,hL⟩
  refine VS.mask [16,17,131,155] (by rcases hI with ⟨_,rfl,rfl⟩|⟨_,_,_,_,rfl,rfl,_⟩ <;> rcases hO with ⟨_,rfl,rfl⟩|⟨_,_,_,_,rfl,rfl,_⟩ <;> rcases hL with ⟨_,rfl,rfl⟩|⟨_,_,_,_,rfl,rfl,_⟩ <;> (repeat first|exact trivial|refine⟨rfl,?_⟩)) ?_
  refine aa ?_
  by_cases hzt:z<N
  ·obtain⟨k,xO⟩:∃ k,cs[z]? =some k:=⟨_,List.getElem?_eq_getElem ab⟩
   obtain⟨x,Cv⟩:∃ x,xs[z]? =some x:=⟨_,List.getElem?_eq_getElem ab⟩
   have xD:=sN xO Cv
   obtain⟨b,off,gM,rfl,hc,⟨nm,s0,p0,n0,c0,t0,y0,m0,d0,rfl,oX,jf⟩⟩:=hv.at xO
   refine VS.aJ rfl (decide_eq_true (Int.ofNat_lt.2 hzt)) ?_
   refine aa ?_
   refine VO.cond rfl dz ?_
   refine wV rfl ?_
   refine aa ?_
   refine VO.read rfl [.int .u8 (k.1:Int)] rfl (bX hc 1 _ ⟨_,rfl⟩) (wV rfl ?_)
   refine aa ?_
   refine VO.cond rfl dz ?_
   refine wV rfl ?_
   refine aa ?_
   refine VO.read rfl [.bool s0,.slice p0 n0 c0,.bool t0,.slice y0 m0 d0] rfl (bX hc 2 _ ⟨[],rfl⟩) (wV rfl ?_)
   refine aa ?_
   refine VO.cond rfl dz ?_
   refine wV rfl ?_
   refine aa ?_
   refine VO.read rfl [.slice pt t.length ct] rfl (cS hcT) (wV rfl ?_)
   refine aa ?_
   refine VO.call rfl rfl (fk Tryz.func55) (λaN bD bf=>(zp _ t xs x E z kk aN (DD.oV (wH kk) bf) rY Cv ab).mono ?_)
   rintro o w2 ⟨r2,rfl,q2,aQ⟩
   obtain⟨s2,p2,n2,c2',t2,y2,m2,d2,rfl⟩:=q2.form
   refine aF aQ ?_
   intro cL _ bb2
   have hxz:=hsz y t E xs ht rY x (List.mem_of_getElem? Cv)
   have kX:mP kk w2 [.int .u8 (k.1:Int),.bool s0,.slice p0 n0 c0,.bool t0,.slice y0 m0 d0,.bool s2,.slice p2 n2 c2',.bool t2,.slice y2 m2 d2] (k.1,k.2,x):=⟨_,_,_,_,_,_,_,_,_,_,_,_,_,_,_,_,rfl,oX,jf.k,q2.in hxz⟩
   rcases hI with ⟨dk,rfl,rfl⟩|⟨n',c',vs,sp,rfl,rfl,kf⟩
   ·refine VO.na (cH _ _) (dc kk) (t:=137) (e:=139) (s:=131) (a:=(k.1,k.2,x)) (cs:=[.int .u8 (k.1:Int),.bool s0,.slice p0 n0 c0,.bool t0,.slice y0 m0 d0,.bool s2,.slice p2 n2 c2',.bool t2,.slice y2 m2 d2]) rfl rfl rfl rfl rfl rfl rfl rfl (bl rfl) rfl (by rcases hO with ⟨_,rfl,rfl⟩|⟨_,_,_,_,rfl,rfl,_⟩ <;> rcases hL with ⟨_,rfl,rfl⟩|⟨_,_,_,_,rfl,rfl,_⟩ <;> rfl) rfl kX ab (λw9 cap sp k9 b9 jv=>wV rfl ?_)
    refine aa ?_
    refine VS.back (N-(z+1)) ab ⟨_,_,?_,?_,?_,?_,⟨z+1,(.row 132 0 1 cap),[(132,_)],by omega,rfl,rfl,rfl,.inr ⟨1,cap,_,sp,rfl,rfl,by rw[ba xD,dk];exact jv⟩,hO.kp (bh AK) bg,hL.kp (dm kk) bg⟩⟩
    ·rcases hO with ⟨_,rfl,rfl⟩|⟨_,_,_,_,rfl,rfl,_⟩ <;> rcases hL with ⟨_,rfl,rfl⟩|⟨_,_,_,_,rfl,rfl,_⟩ <;> (refine⟨rfl,rfl,rfl,rfl,rfl,rfl,rfl,?_,trivial⟩;rw[<-aB (i:=z) ab];rfl)
    ·rcases hO with ⟨_,rfl,rfl⟩|⟨_,_,_,_,rfl,rfl,_⟩ <;> rcases hL with ⟨_,rfl,rfl⟩|⟨_,_,_,_,rfl,rfl,_⟩ <;> (repeat first|exact trivial|refine⟨rfl,?_⟩|refine⟨congrArg (λl=>some (_,l)) (bu (by first|exact bU.cV (by assumption)|exact af _|(rw[<-List.map_append];exact af _)) _ _),?_⟩)
    ·rcases hO with ⟨_,rfl,rfl⟩|⟨_,_,_,_,rfl,rfl,_⟩ <;> rcases hL with ⟨_,rfl,rfl⟩|⟨_,_,_,_,rfl,rfl,_⟩ <;> rfl
    ·rcases hO with ⟨_,rfl,rfl⟩|⟨_,_,_,_,rfl,rfl,_⟩ <;> rcases hL with ⟨_,rfl,rfl⟩|⟨_,_,_,_,rfl,rfl,_⟩ <;> (repeat first|exact trivial|refine⟨ai.lit rfl,?_⟩|refine⟨bU.oU (by assumption),?_⟩|refine⟨ai.append (.vals _) (.vals _),?_⟩|refine⟨ai.vals _,?_⟩)
   ·have qe:=kf.len
    refine VO.nb (cH _ _) (dc kk) (t:=137) (e:=139) (s:=131) (i:=132) (n:=n') (c:=c') (vs:=vs) (sp:=sp) (es:=(bL cs xs).take z) (a:=(k.1,k.2,x)) (cs:=[.int .u8 (k.1:Int),.bool s0,.slice p0 n0 c0,.bool t0,.slice y0 m0 d0,.bool s2,.slice p2 n2 c2',.bool t2,.slice y2 m2 d2]) rfl rfl rfl rfl rfl rfl rfl rfl (bl rfl) rfl (.inr rfl) (by rcases hO with ⟨_,rfl,rfl⟩|⟨_,_,_,_,rfl,rfl,_⟩ <;> rcases hL with ⟨_,rfl,rfl⟩|⟨_,_,_,_,rfl,rfl,_⟩ <;> rfl) (kf.kp (dc kk) bg) rfl kX (by rw[List.length_take] at qe;omega) (λw9 kS uJ ρ k9 b9 eV jv=>wV rfl ?_)
    refine aa ?_
    refine VS.back (N-(z+1)) ab ⟨_,_,?_,?_,?_,?_,⟨z+1,(.row 132 0 (n' +1) kS),[(132,_)],by omega,rfl,rfl,rfl,.inr ⟨n' +1,kS,_,uJ,rfl,rfl,by rw[ba xD];exact jv⟩,hO.kp (bh AK) bg,hL.kp (dm kk) bg⟩⟩
    ·rcases hO with ⟨_,rfl,rfl⟩|⟨_,_,_,_,rfl,rfl,_⟩ <;> rcases hL with ⟨_,rfl,rfl⟩|⟨_,_,_,_,rfl,rfl,_⟩ <;> (refine⟨rfl,rfl,rfl,rfl,rfl,rfl,rfl,?_,trivial⟩;rw[<-aB (i:=z) ab];rfl)
    ·rcases hO with ⟨_,rfl,rfl⟩|⟨_,_,_,_,rfl,rfl,_⟩ <;> rcases hL with ⟨_,rfl,rfl⟩|⟨_,_,_,_,rfl,rfl,_⟩ <;> (repeat first|exact trivial|refine⟨rfl,?_⟩|refine⟨congrArg (λl=>some (_,l)) (bu (by first|exact bU.cV (by assumption)|exact af _|(rw[<-List.map_append];exact af _)) _ _),?_⟩)
    ·rcases hO with ⟨_,rfl,rfl⟩|⟨_,_,_,_,rfl,rfl,_⟩ <;> rcases hL with ⟨_,rfl,rfl⟩|⟨_,_,_,_,rfl,rfl,_⟩ <;> rfl
    ·rcases hO with ⟨_,rfl,rfl⟩|⟨_,_,_,_,rfl,rfl,_⟩ <;> rcases hL with ⟨_,rfl,rfl⟩|⟨_,_,_,_,rfl,rfl,_⟩ <;> (repeat first|exact trivial|refine⟨ai.lit rfl,?_⟩|refine⟨bU.oU (by assumption),?_⟩|refine⟨ai.append (.vals _) (.vals _),?_⟩|refine⟨ai.vals _,?_⟩)
  ·refine VS.aK rfl (decide_eq_false (λe=>hzt (Int.ofNat_lt.1 e))) ?_
   obtain rfl:z=N:=by omega
   rw[List.take_of_length_le ab] at hI
   obtain⟨hd1,Mb⟩:=Dp (cs:=cs) (xss:=xss) (y:=y) (n:=T) ab
   have hrs:eg kk (bL cs xs).length<=13000:=by
    rw[haln]
    have:z*(3*kk+2)<=64*(3*64+2):=Nat.mul_le_mul ab ab
    unfold eg;omega
   have xR:bo (bd kk+1) (cT cs xss T).length<=9000:=by
    have h1:bd (bd kk+1)+1<=68:=by unfold bd at*;omega
    have:(cT cs xss T).length*(bd (bd kk+1)+1)<=128*68:=Nat.mul_le_mul rB h1
    unfold bo;omega
   refine aa ?_
   refine VO.fq rfl (fk Tryz.func56) (λEN β ka8 ba8 ho=>(Jq _ (bL cs xs) kk EN (hI.slin (dc kk) ho (by intro q hq;rcases hI with ⟨_,rfl,rfl⟩|⟨_,_,_,_,rfl,rfl,_⟩ <;> first|(cases hq;done)|(cases List.mem_singleton.1 hq;rcases hO with ⟨_,rfl,rfl⟩|⟨_,_,_,_,rfl,rfl,_⟩ <;> rcases hL with ⟨_,rfl,rfl⟩|⟨_,_,_,_,rfl,rfl,_⟩ <;> rfl)) bg) ab ab ab).mono ?_)
   rintro o w8 ⟨r8,rfl,q8,Gd⟩
   have FH:Ax (bS (bL cs xs)) 13000:=by
    have pN:∀ x∈bL cs xs,bW x.2.1 kk/\bW x.2.2 kk:=by
     rcases hI with ⟨dk,_,_⟩|⟨n',c',vs,sp,_,_,kf⟩
     ·rw[dk];intro x hx;cases hx
     ·intro x hx
      obtain⟨i,hi⟩:=List.getElem?_of_mem hx
      obtain⟨cs0,_,h2,_⟩:=kf.cell (dc kk) hi
      exact mP.sz h2 ab
    exact (mO ab _ pN).mono hrs
   obtain⟨s8a,p8a,n8a,c8a,t8a,y8a,m8a,d8a,s8b,p8b,n8b,c8b,t8b,y8b,m8b,d8b,s8c,p8c,n8c,c8c,t8c,y8c,m8c,d8c,s8d,p8d,n8d,c8d,t8d,y8d,m8d,d8d,rfl,g1,g2,g3,g4⟩:=q8
   refine aF Gd ?_
   intro DC _ bb8
   refine VO.fq rfl (fk Tryz.func57) (λwa9 β ka9 ba9 ho=>(Ft _ (cT cs xss T) kk (y:Int) wa9 (hL.slin (dm kk) ho (by intro q hq;rcases hL with ⟨_,rfl,rfl⟩|⟨_,_,_,_,rfl,rfl,_⟩ <;> first|(cases hq;done)|(cases List.mem_singleton.1 hq;rcases hI with ⟨_,rfl,rfl⟩|⟨_,_,_,_,rfl,rfl,_⟩ <;> rcases hO with ⟨_,rfl,rfl⟩|⟨_,_,_,_,rfl,rfl,_⟩ <;> rfl)) bg) ab ⟨by omega,by omega⟩ rB).mono ?_)
   rintro o w9 ⟨r9,rfl,q9,z9,hb9⟩
   obtain⟨s9,p9,n9,c9,t9,y9,m9,d9,rfl⟩:=q9.form
   rw[hd1] at q9 z9
   have zd:bW (eE (cT cs xss (y+1)) (y:Int)) 9000:=z9.mono xR
   refine aF hb9 ?_
   intro GC _ bb9
   refine VO.cR rfl rfl (fk Tryz.func58) (λjZ oc rk=>gj _ _ (bS (bL cs xs)).s (eE (cT cs xss (y+1)) (y:Int)) 13000 9000 jZ (g2.ki FH.s) (q9.ki zd) ab ab) (λjZ oc rk w11 s11 p11 n11 c11 t11 y11 m11 d11 q11 tY kc _ CC=>wV rfl ?_)
   refine aa ?_
   have zs:=FH.s.sub zd
   refine VO.fq rfl (fk Tryz.func59) (λlI β oQ sH ho=>(wC _ (cT cs xss T) kk (y:Int) lI (hL.slin (dm kk) ho (by intro q hq;rcases hL with ⟨_,rfl,rfl⟩|⟨_,_,_,_,rfl,rfl,_⟩ <;> first|(cases hq;done)|(cases List.mem_singleton.1 hq;rcases hI with ⟨_,rfl,rfl⟩|⟨_,_,_,_,rfl,rfl,_⟩ <;> rcases hO with ⟨_,rfl,rfl⟩|⟨_,_,_,_,rfl,rfl,_⟩ <;> rfl)) bg) hlw ab ⟨by omega,by omega⟩ rB).mono ?_)
   rintro o w10 ⟨r10,rfl,JW,z10,rj⟩
   obtain⟨s10,p10,n10,c10,t10,y10,m10,d10,rfl⟩:=JW.form
   rw[Mb] at JW z10
   have zb:bW (fA (cT cs xss (y+1)) (y:Int)) 9000:=z10.mono xR
   refine aF rj ?_
   intro iq _ CB
   refine VO.cR rfl rfl (fk Tryz.func58) (λmw qk vT=>gj _ _ ((bS (bL cs xs)).s-eE (cT cs xss (y+1)) (y:Int)) (bS (bL cs xs)).i 22001 13000 mw (q11.ki zs) (g4.ki FH.i) ab ab) (λmw qk vT w12 s12 p12 n12 c12 t12 y12 m12 d12 q12 sI od _ EO=>wV rfl ?_)
   refine aa ?_
   have zo:=zs.sub FH.i
   have hya:(ij cs xss)[y]? =some (xL (bS (bL cs xs)) (eE (cT cs xss (y+1)) y) (fA (cT cs xss (y+1)) y)):=by
    rw[oo ab];unfold sL;rw[wY]
   have kX:eG AK w12 [.bool s8a,.slice p8a n8a c8a,.bool t8a,.slice y8a m8a d8a,.bool s11,.slice p11 n11 c11,.bool t11,.slice y11 m11 d11,.bool s8c,.slice p8c n8c c8c,.bool t8c,.slice y8c m8c d8c,.bool s8d,.slice p8d n8d c8d,.bool t8d,.slice y8d m8d d8d,.bool s9,.slice p9 n9 c9,.bool t9,.slice y9 m9 d9,.bool s10,.slice p10 n10 c10,.bool t10,.slice y10 m10 d10,.bool s12,.slice p12 n12 c12,.bool t12,.slice y12 m12 d12] (xL (bS (bL cs xs)) (eE (cT cs xss (y+1)) y) (fA (cT cs xss (y+1)) y)):=
    ⟨_,_,_,_,_,_,_,rfl,.mk g1.k (FH.b.mono (by unfold AK;omega)),.mk q11.kr (zs.mono (by unfold AK;omega)),.mk g3.k (FH.d.mono (by unfold AK;omega)),.mk g4.k (FH.i.mono (by unfold AK;omega)),.mk q9.kr (zd.mono (by unfold AK;omega)),.mk JW.kr (zb.mono (by unfold AK;omega)),.mk q12.rd (zo.mono (by unfold AK;omega))⟩
   rcases hO with ⟨dk,rfl,rfl⟩|⟨n',c',vs,sp,rfl,rfl,kf⟩
   ·refine VO.na (cH _ _) (bh AK) (t:=66) (e:=59) (s:=155) (a:=(xL (bS (bL cs xs)) (eE (cT cs xss (y+1)) y) (fA (cT cs xss (y+1)) y))) (cs:=[.bool s8a,.slice p8a n8a c8a,.bool t8a,.slice y8a m8a d8a,.bool s11,.slice p11 n11 c11,.bool t11,.slice y11 m11 d11,.bool s8c,.slice p8c n8c c8c,.bool t8c,.slice y8c m8c d8c,.bool s8d,.slice p8d n8d c8d,.bool t8d,.slice y8d m8d d8d,.bool s9,.slice p9 n9 c9,.bool t9,.slice y9 m9 d9,.bool s10,.slice p10 n10 c10,.bool t10,.slice y10 m10 d10,.bool s12,.slice p12 n12 c12,.bool t12,.slice y12 m12 d12]) rfl rfl rfl rfl rfl rfl rfl rfl (bl rfl) rfl (by rcases hI with ⟨_,rfl,rfl⟩|⟨_,_,_,_,rfl,rfl,_⟩ <;> rcases hL with ⟨_,rfl,rfl⟩|⟨_,_,_,_,rfl,rfl,_⟩ <;> rfl) rfl kX ab (λw9 cap sp k9 b9 jv=>wV rfl ?_)
    refine aa ?_
    refine VS.back (T-(y+1)) ab ⟨_,_,?_,?_,?_,?_,⟨y+1,(.row 156 0 1 cap),[(156,_)],by omega,rfl,rfl,rfl,.inr ⟨1,cap,_,sp,rfl,rfl,by rw[ba hya,dk];exact jv⟩,hL.kp (dm kk) bg⟩⟩
    ·rcases hI with ⟨_,rfl,rfl⟩|⟨_,_,_,_,rfl,rfl,_⟩ <;> rcases hL with ⟨_,rfl,rfl⟩|⟨_,_,_,_,rfl,rfl,_⟩ <;> (refine⟨rfl,rfl,rfl,rfl,rfl,?_,trivial⟩;rw[<-aB (i:=y) ab];rfl)
    ·rcases hI with ⟨_,rfl,rfl⟩|⟨_,_,_,_,rfl,rfl,_⟩ <;> rcases hL with ⟨_,rfl,rfl⟩|⟨_,_,_,_,rfl,rfl,_⟩ <;> (repeat first|exact trivial|refine⟨rfl,?_⟩|refine⟨congrArg (λl=>some (_,l)) (bu (by first|exact bU.cV (by assumption)|exact af _|(rw[<-List.map_append];exact af _)) _ _),?_⟩)
    ·rcases hI with ⟨_,rfl,rfl⟩|⟨_,_,_,_,rfl,rfl,_⟩ <;> rcases hL with ⟨_,rfl,rfl⟩|⟨_,_,_,_,rfl,rfl,_⟩ <;> rfl
    ·rcases hI with ⟨_,rfl,rfl⟩|⟨_,_,_,_,rfl,rfl,_⟩ <;> rcases hL with ⟨_,rfl,rfl⟩|⟨_,_,_,_,rfl,rfl,_⟩ <;> (repeat first|exact trivial|refine⟨ai.lit rfl,?_⟩|refine⟨bU.oU (by assumption),?_⟩|refine⟨ai.append (.vals _) (.vals _),?_⟩|refine⟨ai.vals _,?_⟩)
   ·have qe:=kf.len
    refine VO.nb (cH _ _) (bh AK) (t:=66) (e:=59) (s:=155) (i:=156) (n:=n') (c:=c') (vs:=vs) (sp:=sp) (es:=(ij cs xss).take y) (a:=(xL (bS (bL cs xs)) (eE (cT cs xss (y+1)) y) (fA (cT cs xss (y+1)) y))) (cs:=[.bool s8a,.slice p8a n8a c8a,.bool t8a,.slice y8a m8a d8a,.bool s11,.slice p11 n11 c11,.bool t11,.slice y11 m11 d11,.bool s8c,.slice p8c n8c c8c,.bool t8c,.slice y8c m8c d8c,.bool s8d,.slice p8d n8d c8d,.bool t8d,.slice y8d m8d d8d,.bool s9,.slice p9 n9 c9,.bool t9,.slice y9 m9 d9,.bool s10,.slice p10 n10 c10,.bool t10,.slice y10 m10 d10,.bool s12,.slice p12 n12 c12,.bool t12,.slice y12 m12 d12]) rfl rfl rfl rfl rfl rfl rfl rfl (bl rfl) rfl (.inr rfl) (by rcases hI with ⟨_,rfl,rfl⟩|⟨_,_,_,_,rfl,rfl,_⟩ <;> rcases hL with ⟨_,rfl,rfl⟩|⟨_,_,_,_,rfl,rfl,_⟩ <;> rfl) (kf.kp (bh AK) bg) rfl kX (by rw[List.length_take] at qe;omega) (λw9 kS uJ ρ k9 b9 eV jv=>wV rfl ?_)
    refine aa ?_
    refine VS.back (T-(y+1)) ab ⟨_,_,?_,?_,?_,?_,⟨y+1,(.row 156 0 (n' +1) kS),[(156,_)],by omega,rfl,rfl,rfl,.inr ⟨n' +1,kS,_,uJ,rfl,rfl,by rw[ba hya];exact jv⟩,hL.kp (dm kk) bg⟩⟩
    ·rcases hI with ⟨_,rfl,rfl⟩|⟨_,_,_,_,rfl,rfl,_⟩ <;> rcases hL with ⟨_,rfl,rfl⟩|⟨_,_,_,_,rfl,rfl,_⟩ <;> (refine⟨rfl,rfl,rfl,rfl,rfl,?_,trivial⟩;rw[<-aB (i:=y) ab];rfl)
    ·rcases hI with ⟨_,rfl,rfl⟩|⟨_,_,_,_,rfl,rfl,_⟩ <;> rcases hL with ⟨_,rfl,rfl⟩|⟨_,_,_,_,rfl,rfl,_⟩ <;> (repeat first|exact trivial|refine⟨rfl,?_⟩|refine⟨congrArg (λl=>some (_,l)) (bu (by first|exact bU.cV (by assumption)|exact af _|(rw[<-List.map_append];exact af _)) _ _),?_⟩)
    ·rcases hI with ⟨_,rfl,rfl⟩|⟨_,_,_,_,rfl,rfl,_⟩ <;> rcases hL with ⟨_,rfl,rfl⟩|⟨_,_,_,_,rfl,rfl,_⟩ <;> rfl
    ·rcases hI with ⟨_,rfl,rfl⟩|⟨_,_,_,_,rfl,rfl,_⟩ <;> rcases hL with ⟨_,rfl,rfl⟩|⟨_,_,_,_,rfl,rfl,_⟩ <;> (repeat first|exact trivial|refine⟨ai.lit rfl,?_⟩|refine⟨bU.oU (by assumption),?_⟩|refine⟨ai.append (.vals _) (.vals _),?_⟩|refine⟨ai.vals _,?_⟩)
 ·refine VS.aK rfl (decide_eq_false (λe=>hyT (Int.ofNat_lt.1 e))) ?_
  obtain rfl:y=T:=by omega
  rw[List.take_of_length_le (by unfold ij;rw[List.length_map,List.length_range];omega)] at hO
  rcases hO with ⟨dk,rfl,rfl⟩|⟨n',c',vs,sp,rfl,rfl,kf⟩
  ·refine aa ?_
   rcases hL with ⟨_,rfl,rfl⟩|⟨_,_,_,_,rfl,rfl,_⟩
   ·refine au ?_;intro wz kz bz
    exact⟨_,rfl,.inl ⟨rfl,dk⟩,bz⟩
   ·refine au ?_;intro wz kz bz
    exact⟨_,rfl,.inl ⟨rfl,dk⟩,bz⟩
  ·refine aa ?_
   refine VS.mh (cH _ _) rfl (λwz β kz bz en=> ?_)
   exact⟨_,rfl,kf.new (bh AK) (en.own 156 _ _ (by rcases hL with ⟨_,rfl,rfl⟩|⟨_,_,_,_,rfl,rfl,_⟩ <;> rfl)) kz,bz⟩
set_option maxRecDepth 4000
def VE (_:World) (cs:List Value) (v:Value):Prop:=cs=[v]/\∃ p n c,v=.slice p n c
theorem dv:fU VE 1 where
 kp:=λh _=>h
 len:=λh=>by rw[h.1];rfl
 ok:=λh=>by
  obtain⟨rfl,p,n,c,rfl⟩:=h
  rfl
theorem bk.nil' {α:Type} {E:World->List Value->α->Prop} {sz B:Nat} {t:TypeId} {w:World}:bk E sz t B w (.slice none 0 0) []:=.inl ⟨rfl,rfl⟩
theorem mU {vs:List Value} {P:Nat->Value->Prop} {u:Value} (h:∀ i v,vs[i]? =some v->P i v) (hu:P vs.length u):∀ i v,(vs++[u])[i]? =some v->P i v:=λi v hi=>by
 by_cases hil:i<vs.length
 ·rw[List.getElem?_append_left hil] at hi;exact h i v hi
 ·rw[List.getElem?_append_right ab] at hi
  have:=(List.getElem?_eq_some_iff.1 hi).1
  rw[List.length_singleton] at this
  obtain rfl:i=vs.length:=by omega
  rw[Nat.sub_self] at hi
  cases hi;exact hu
def jX (cs:List fE) (ts:List (List (List Rat))):Nat->Int
 | 0=>0
 | n+1=>if jX cs ts n=0 then gL cs (n:Int) ts else jX cs ts n
def xf (cs:List fE) (ts:List (List (List Rat))) (n:Int):Int:=if n<0 then 2 else jX cs ts n.toNat
def GU (cs:List fE) (ts:List (List (List Rat))) (n:Int):Nat:=if xf cs ts n=0 then n.toNat else 0
theorem xg {cs:List fE} {ts:List (List (List Rat))} {z:Nat} (h0:jX cs ts z=0) (h1:gL cs (z:Int) ts≠0):∀ {n:Nat},z<n->jX cs ts n=gL cs (z:Int) ts
 | 0,h=>by omega
 | n+1,h=>by
   by_cases hn:n=z
   ·subst hn;unfold jX;rw[if_pos h0]
   ·have:=xg h0 h1 (n:=n) ab
    unfold jX
    rw[if_neg (by rw[this];exact h1),this]
theorem zu {cs:List fE} {ts:List (List (List Rat))} {z n:Nat} (h0:jX cs ts z=0) (h1:gL cs (z:Int) ts≠0) (h:z<n):xf cs ts (n:Int)=gL cs (z:Int) ts/\GU cs ts (n:Int)=0:=by
 have h2:xf cs ts (n:Int)=gL cs (z:Int) ts:=by
  unfold xf
  rw[if_neg ab,Int.toNat_natCast];exact xg h0 h1 h
 exact⟨h2,if_neg (by rw[h2];exact h1)⟩
theorem GV {cs:List fE} {ts:List (List (List Rat))} {n:Nat} (h0:jX cs ts n=0):xf cs ts (n:Int)=0/\GU cs ts (n:Int)=n:=by
 have h2:xf cs ts (n:Int)=0:=by
  unfold xf
  rw[if_neg ab,Int.toNat_natCast];exact h0
 exact⟨h2,if_pos h2⟩
theorem Dq {cs:List fE} {ts:List (List (List Rat))} {n:Int} (h:n<0):xf cs ts n=2/\GU cs ts n=0:=by
 have h2:xf cs ts n=2:=if_pos h
 exact⟨h2,if_neg (by rw[h2];decide)⟩
def AllIn (t1 t2:TypeId) (cs:List fE) (ts:List (List (List Rat))) (n:Int) (w:World) (r:Value):Prop:=∃ vs,bk VE 1 t1 0 w r vs/\vs.length=GU cs ts n/\∀ (i:Nat) (v:Value),vs[i]? =some v->bk (eG AK) 28 t2 0 w v (bn cs (i:Int) ts)
set_option maxRecDepth 4000 in
theorem MS (v u:Value) (n:Int) (cs:List fE) (ts:List (List (List Rat))) (kk:Nat) (w:World) (hv:bM (fC kk) 6 w v cs) (hu:bM (jW kk) 1 w u ts) (hk:kk<=64) (jo:1<=kk) (hn:cs.length<=64) (hd:ts.length*cs.length<=128\/40<ts.length) (Hv:n<=1000):
  Calls Tryz.prog 22 #[v,.int .i64 n,u] w λo w'=>∃ r,o=.returned (.tuple #[r,.int .i64 (xf cs ts n)])/\AllIn 26 49 cs ts n w' r/\aw w w':=by
 obtain⟨p,c,rfl⟩:=hv.sl
 obtain⟨p2,c2,rfl⟩:=hu.sl
 obtain⟨N,hN⟩:∃ N,N=cs.length:=⟨_,rfl⟩
 obtain⟨T,hT⟩:∃ T,T=ts.length:=⟨_,rfl⟩
 rw[<-hN] at hv
 rw[<-hT] at hu
 rw[<-hN,<-hT]
 refine ae (C:=tM Tryz.prog w _) (args:=[_,_,_]) Tryz.func22 rfl Tryz.ntmps22 (bl rfl) ?_
 refine cg ?_
 by_cases oM:n<0
 ·obtain⟨g1,g2⟩:=Dq (cs:=cs) (ts:=ts) oM
  refine VS.aJ rfl (decide_eq_true oM) ?_
  refine cg ?_
  refine VS.ret (gl _ _) rfl rfl (λwz kz bz=> ?_)
  exact⟨_,by rw[g1];rfl,⟨[],bk.nil',g2.symm,λi v hi=>(by simp at hi)⟩,bz⟩
 refine VS.aK rfl (decide_eq_false oM) ?_
 obtain⟨Z,rfl⟩:=Int.eq_ofNat_of_zero_le (show 0<=n by omega)
 refine cg ?_
 refine VS.loop (J:=λm L M w'=>∃ (z:Nat) (X:AV) (Mi:List (Nat×(TypeId×List AV))) (vs:List Value),z<=Z/\m=Z-z/\L=[(0,.val (.slice p N c)),(2,.val (.slice p2 T c2)),(8,X),(14,.val (.int .i64 (Z:Int))),(15,.val (.int .i64 (z:Int)))]/\M=Mi/\ew VE 1 26 31 X Mi w' vs/\vs.length=z/\jX cs ts z=0/\∀ (i:Nat) (v:Value),vs[i]? =some v->bk (eG AK) 28 49 0 w' v (bn cs (i:Int) ts)) Z ⟨_,_,?_,?_,?_,?_,⟨0,_,[],[],by omega,rfl,rfl,rfl,.inl ⟨rfl,rfl,rfl⟩,rfl,rfl,λi v hi=>(by simp at hi)⟩⟩ ?_
 ·exact cW
 ·exact cW
 ·rfl
 ·exact fR
 rintro m L Mi wJ ⟨z,X,Mi2,DF,hz,rfl,rfl,rfl,hR,hlen,iT,hF⟩
 refine VS.now (λwX kN bN=> ?_)
 replace hF:∀ (i:Nat) (v:Value),DF[i]? =some v->bk (eG AK) 28 49 0 wX v (bn cs (i:Int) ts):=λi v hi=>(hF i v hi).kp (bh AK) kN rfl
 replace hR:=hR.kp dv (aV.iD kN)
 refine VS.mask [30] (by rcases hR with ⟨_,rfl,rfl⟩|⟨_,_,_,_,rfl,rfl,_⟩ <;> (repeat first|exact trivial|refine⟨rfl,?_⟩)) ?_
 refine cg ?_
 by_cases hlt:z<Z
 ·refine VS.aJ rfl (decide_eq_true (Int.ofNat_lt.2 hlt)) ?_
  refine cg ?_
  refine VO.call rfl rfl (fk Tryz.func10) (λaC aY aH=>(AD _ _ (z:Int) cs ts kk aC (hv.bq (dU kk) aH) (hu.oV (pK kk) aH) ab ab hd).mono ?_)
  rintro o w1 ⟨r1,rfl,q1,aD⟩
  obtain⟨pr,cr,rfl⟩:=q1.form
  refine wZ aD ?_
  intro bQ _ bb1
  by_cases hm:gL cs (z:Int) ts≠0
  ·obtain⟨g1,g2⟩:=zu iT hm hlt
   refine VS.aJ rfl (GH hm) ?_
   refine cg ?_
   refine VS.ret (gl _ _) rfl rfl (λwz kz bz=> ?_)
   exact⟨_,by rw[g1];rfl,⟨[],bk.nil',g2.symm,λi v hi=>(by simp at hi)⟩,bz⟩
  refine VS.aK rfl (wm (Decidable.not_not.1 hm)) ?_
  refine cg ?_
  have kX:VE w1 [.slice pr (bn cs (z:Int) ts).length cr] (.slice pr (bn cs (z:Int) ts).length cr):=⟨rfl,_,_,_,rfl⟩
  rcases hR with ⟨dk,rfl,rfl⟩|⟨n',c',vs,sp,rfl,rfl,kf⟩
  ·refine VO.na (gl _ _) dv (t:=69) (e:=26) (s:=30) (a:=.slice pr (bn cs (z:Int) ts).length cr) (cs:=[.slice pr (bn cs (z:Int) ts).length cr]) rfl rfl rfl rfl rfl rfl rfl rfl (bl rfl) rfl rfl rfl kX ab (λw9 cap sp k9 b9 jv=>wV rfl ?_)
   refine cg ?_
   refine VS.back (Z-(z+1)) ab ⟨_,_,?_,?_,?_,?_,⟨z+1,_,_,DF++[.slice pr (bn cs (z:Int) ts).length cr],by omega,rfl,rfl,rfl,by rw[dk];exact .inr ⟨1,cap,_,sp,rfl,rfl,jv⟩,by rw[List.length_append,hlen];rfl,by unfold jX;rw[if_pos iT,Decidable.not_not.1 hm],mU (P:=λi v=>bk (eG AK) 28 49 0 w9 v (bn cs (i:Int) ts)) (λi v hi=>(hF i v hi).kp (bh AK) (show aV (tM Tryz.prog w 34).K wX _ from bg) rfl) ((hlen▸(q1.mono (Nat.zero_le _)).kp (bh AK) (show aV (tM Tryz.prog w 34).K w1 w9 from bg) rfl:bk (eG AK) 28 49 0 w9 _ (bn cs (DF.length:Int) ts)))⟩⟩
   ·refine⟨rfl,rfl,rfl,rfl,?_,trivial⟩
    rw[<-aB (i:=z) ab];rfl
   ·(repeat first|exact trivial|refine⟨rfl,?_⟩|refine⟨congrArg (λl=>some (_,l)) (bu (by first|exact bU.cV (by assumption)|exact af _|(rw[<-List.map_append];exact af _)) _ _),?_⟩)
   ·rfl
   ·(repeat first|exact trivial|refine⟨ai.lit rfl,?_⟩|refine⟨bU.oU (by assumption),?_⟩|refine⟨ai.append (.vals _) (.vals _),?_⟩|refine⟨ai.vals _,?_⟩)
  ·have qe:=kf.len
   refine VO.nb (gl _ _) dv (t:=69) (e:=26) (s:=30) (i:=31) (n:=n') (c:=c') (vs:=vs) (sp:=sp) (es:=DF) (a:=.slice pr (bn cs (z:Int) ts).length cr) (cs:=[.slice pr (bn cs (z:Int) ts).length cr]) rfl rfl rfl rfl rfl rfl rfl rfl (bl rfl) rfl (.inr rfl) rfl (kf.kp dv (aV.iD (show aV (tM Tryz.prog w 34).K wX w1 from bg))) rfl kX ab (λw9 kS uJ ρ k9 b9 eV jv=>wV rfl ?_)
   refine cg ?_
   refine VS.back (Z-(z+1)) ab ⟨_,_,?_,?_,?_,?_,⟨z+1,_,_,DF++[.slice pr (bn cs (z:Int) ts).length cr],by omega,rfl,rfl,rfl,.inr ⟨n' +1,kS,_,uJ,rfl,rfl,jv⟩,by rw[List.length_append,hlen];rfl,by unfold jX;rw[if_pos iT,Decidable.not_not.1 hm],mU (P:=λi v=>bk (eG AK) 28 49 0 w9 v (bn cs (i:Int) ts)) (λi v hi=>(hF i v hi).kp (bh AK) (show aV (tM Tryz.prog w 34).K wX _ from bg) rfl) ((hlen▸(q1.mono (Nat.zero_le _)).kp (bh AK) (show aV (tM Tryz.prog w 34).K w1 w9 from bg) rfl:bk (eG AK) 28 49 0 w9 _ (bn cs (DF.length:Int) ts)))⟩⟩
   ·refine⟨rfl,rfl,rfl,rfl,?_,trivial⟩
    rw[<-aB (i:=z) ab];rfl
   ·(repeat first|exact trivial|refine⟨rfl,?_⟩|refine⟨congrArg (λl=>some (_,l)) (bu (by first|exact bU.cV (by assumption)|exact af _|(rw[<-List.map_append];exact af _)) _ _),?_⟩)
   ·rfl
   ·(repeat first|exact trivial|refine⟨ai.lit rfl,?_⟩|refine⟨bU.oU (by assumption),?_⟩|refine⟨ai.append (.vals _) (.vals _),?_⟩|refine⟨ai.vals _,?_⟩)
 ·refine VS.aK rfl (decide_eq_false (λe=>hlt (Int.ofNat_lt.1 e))) ?_
  obtain rfl:z=Z:=by omega
  obtain⟨g1,g2⟩:=GV iT
  rcases hR with ⟨dk,rfl,rfl⟩|⟨n',c',vs,sp,rfl,rfl,kf⟩
  ·refine cg ?_
   refine VS.ret (gl _ _) rfl rfl (λwz kz bz=> ?_)
   subst dk
   exact⟨_,by rw[g1];rfl,⟨[],bk.nil',by rw[g2];exact hlen,λi v hi=>(by simp at hi)⟩,bz⟩
  ·refine cg ?_
   refine VS.mh (gl _ _) rfl (λwz β kz bz en=> ?_)
   exact⟨_,by rw[g1];rfl,⟨DF,(kf.new dv (en.own 31 _ _ rfl) kz.iD).mono (Nat.zero_le _),by rw[g2];exact hlen,λi v hi=>(hF i v hi).kp (bh AK) kz rfl⟩,bz⟩
set_option maxRecDepth 4000 in
theorem MT (v u:Value) (n:Int) (cs:List fE) (ts:List (List (List Rat))) (kk:Nat) (w:World) (hv:bM (fC kk) 6 w v cs) (hu:bM (jW kk) 1 w u ts) (hk:kk<=64) (jo:1<=kk) (hn:cs.length<=64) (hd:ts.length*cs.length<=128\/40<ts.length) (Hv:n<=1000):
  Calls Tryz.prog 23 #[v,.int .i64 n,u] w λo w'=>∃ r,o=.returned (.tuple #[r,.int .i64 (xf cs ts n)])/\AllIn 66 59 cs ts n w' r/\aw w w':=by
 obtain⟨p,c,rfl⟩:=hv.sl
 obtain⟨p2,c2,rfl⟩:=hu.sl
 obtain⟨N,hN⟩:∃ N,N=cs.length:=⟨_,rfl⟩
 obtain⟨T,hT⟩:∃ T,T=ts.length:=⟨_,rfl⟩
 rw[<-hN] at hv
 rw[<-hT] at hu
 rw[<-hN,<-hT]
 refine ae (C:=tM Tryz.prog w _) (args:=[_,_,_]) Tryz.func23 rfl Tryz.ntmps23 (bl rfl) ?_
 refine cg ?_
 by_cases oM:n<0
 ·obtain⟨g1,g2⟩:=Dq (cs:=cs) (ts:=ts) oM
  refine VS.aJ rfl (decide_eq_true oM) ?_
  refine cg ?_
  refine VS.ret (gl _ _) rfl rfl (λwz kz bz=> ?_)
  exact⟨_,by rw[g1];rfl,⟨[],bk.nil',g2.symm,λi v hi=>(by simp at hi)⟩,bz⟩
 refine VS.aK rfl (decide_eq_false oM) ?_
 obtain⟨Z,rfl⟩:=Int.eq_ofNat_of_zero_le (show 0<=n by omega)
 refine cg ?_
 refine VS.loop (J:=λm L M w'=>∃ (z:Nat) (X:AV) (Mi:List (Nat×(TypeId×List AV))) (vs:List Value),z<=Z/\m=Z-z/\L=[(0,.val (.slice p N c)),(1,.val (.int .i64 (Z:Int))),(2,.val (.slice p2 T c2)),(8,X),(9,.val (.int .i64 (z:Int)))]/\M=Mi/\ew VE 1 66 32 X Mi w' vs/\vs.length=z/\jX cs ts z=0/\∀ (i:Nat) (v:Value),vs[i]? =some v->bk (eG AK) 28 59 0 w' v (bn cs (i:Int) ts)) Z ⟨_,_,?_,?_,?_,?_,⟨0,_,[],[],by omega,rfl,rfl,rfl,.inl ⟨rfl,rfl,rfl⟩,rfl,rfl,λi v hi=>(by simp at hi)⟩⟩ ?_
 ·exact cW
 ·exact cW
 ·rfl
 ·exact fR
 rintro m L Mi wJ ⟨z,X,Mi2,DF,hz,rfl,rfl,rfl,hR,hlen,iT,hF⟩
 refine VS.now (λwX kN bN=> ?_)
 replace hF:∀ (i:Nat) (v:Value),DF[i]? =some v->bk (eG AK) 28 59 0 wX v (bn cs (i:Int) ts):=λi v hi=>(hF i v hi).kp (bh AK) kN rfl
 replace hR:=hR.kp dv (aV.iD kN)
 refine VS.mask [31] (by rcases hR with ⟨_,rfl,rfl⟩|⟨_,_,_,_,rfl,rfl,_⟩ <;> (repeat first|exact trivial|refine⟨rfl,?_⟩)) ?_
 refine cg ?_
 by_cases hlt:z<Z
 ·refine VS.aJ rfl (decide_eq_true (Int.ofNat_lt.2 hlt)) ?_
  refine cg ?_
  refine VO.call rfl rfl (fk Tryz.func21) (λaC aY aH=>(zt _ _ (z:Int) cs ts kk aC (hv.bq (dU kk) aH) (hu.oV (pK kk) aH) ab ab ab hd).mono ?_)
  rintro o w1 ⟨r1,rfl,q1,aD⟩
  obtain⟨pr,cr,rfl⟩:=q1.form
  refine wZ aD ?_
  intro bQ _ bb1
  by_cases hm:gL cs (z:Int) ts≠0
  ·obtain⟨g1,g2⟩:=zu iT hm hlt
   refine VS.aJ rfl (GH hm) ?_
   refine cg ?_
   refine VS.ret (gl _ _) rfl rfl (λwz kz bz=> ?_)
   exact⟨_,by rw[g1];rfl,⟨[],bk.nil',g2.symm,λi v hi=>(by simp at hi)⟩,bz⟩
  refine VS.aK rfl (wm (Decidable.not_not.1 hm)) ?_
  refine cg ?_
  have kX:VE w1 [.slice pr (bn cs (z:Int) ts).length cr] (.slice pr (bn cs (z:Int) ts).length cr):=⟨rfl,_,_,_,rfl⟩
  rcases hR with ⟨dk,rfl,rfl⟩|⟨n',c',vs,sp,rfl,rfl,kf⟩
  ·refine VO.na (gl _ _) dv (t:=72) (e:=66) (s:=31) (a:=.slice pr (bn cs (z:Int) ts).length cr) (cs:=[.slice pr (bn cs (z:Int) ts).length cr]) rfl rfl rfl rfl rfl rfl rfl rfl (bl rfl) rfl rfl rfl kX ab (λw9 cap sp k9 b9 jv=>wV rfl ?_)
   refine cg ?_
   refine VS.back (Z-(z+1)) ab ⟨_,_,?_,?_,?_,?_,⟨z+1,_,_,DF++[.slice pr (bn cs (z:Int) ts).length cr],by omega,rfl,rfl,rfl,by rw[dk];exact .inr ⟨1,cap,_,sp,rfl,rfl,jv⟩,by rw[List.length_append,hlen];rfl,by unfold jX;rw[if_pos iT,Decidable.not_not.1 hm],mU (P:=λi v=>bk (eG AK) 28 59 0 w9 v (bn cs (i:Int) ts)) (λi v hi=>(hF i v hi).kp (bh AK) (show aV (tM Tryz.prog w 34).K wX _ from bg) rfl) ((hlen▸(q1.mono (Nat.zero_le _)).kp (bh AK) (show aV (tM Tryz.prog w 34).K w1 w9 from bg) rfl:bk (eG AK) 28 59 0 w9 _ (bn cs (DF.length:Int) ts)))⟩⟩
   ·refine⟨rfl,rfl,rfl,rfl,?_,trivial⟩
    rw[<-aB (i:=z) ab];rfl
   ·(repeat first|exact trivial|refine⟨rfl,?_⟩|refine⟨congrArg (λl=>some (_,l)) (bu (by first|exact bU.cV (by assumption)|exact af _|(rw[<-List.map_append];exact af _)) _ _),?_⟩)
   ·rfl
   ·(repeat first|exact trivial|refine⟨ai.lit rfl,?_⟩|refine⟨bU.oU (by assumption),?_⟩|refine⟨ai.append (.vals _) (.vals _),?_⟩|refine⟨ai.vals _,?_⟩)
  ·have qe:=kf.len
   refine VO.nb (gl _ _) dv (t:=72) (e:=66) (s:=31) (i:=32) (n:=n') (c:=c') (vs:=vs) (sp:=sp) (es:=DF) (a:=.slice pr (bn cs (z:Int) ts).length cr) (cs:=[.slice pr (bn cs (z:Int) ts).length cr]) rfl rfl rfl rfl rfl rfl rfl rfl (bl rfl) rfl (.inr rfl) rfl (kf.kp dv (aV.iD (show aV (tM Tryz.prog w 34).K wX w1 from bg))) rfl kX ab (λw9 kS uJ ρ k9 b9 eV jv=>wV rfl ?_)
   refine cg ?_
   refine VS.back (Z-(z+1)) ab ⟨_,_,?_,?_,?_,?_,⟨z+1,_,_,DF++[.slice pr (bn cs (z:Int) ts).length cr],by omega,rfl,rfl,rfl,.inr ⟨n' +1,kS,_,uJ,rfl,rfl,jv⟩,by rw[List.length_append,hlen];rfl,by unfold jX;rw[if_pos iT,Decidable.not_not.1 hm],mU (P:=λi v=>bk (eG AK) 28 59 0 w9 v (bn cs (i:Int) ts)) (λi v hi=>(hF i v hi).kp (bh AK) (show aV (tM Tryz.prog w 34).K wX _ from bg) rfl) ((hlen▸(q1.mono (Nat.zero_le _)).kp (bh AK) (show aV (tM Tryz.prog w 34).K w1 w9 from bg) rfl:bk (eG AK) 28 59 0 w9 _ (bn cs (DF.length:Int) ts)))⟩⟩
   ·refine⟨rfl,rfl,rfl,rfl,?_,trivial⟩
    rw[<-aB (i:=z) ab];rfl
   ·(repeat first|exact trivial|refine⟨rfl,?_⟩|refine⟨congrArg (λl=>some (_,l)) (bu (by first|exact bU.cV (by assumption)|exact af _|(rw[<-List.map_append];exact af _)) _ _),?_⟩)
   ·rfl
   ·(repeat first|exact trivial|refine⟨ai.lit rfl,?_⟩|refine⟨bU.oU (by assumption),?_⟩|refine⟨ai.append (.vals _) (.vals _),?_⟩|refine⟨ai.vals _,?_⟩)
 ·refine VS.aK rfl (decide_eq_false (λe=>hlt (Int.ofNat_lt.1 e))) ?_
  obtain rfl:z=Z:=by omega
  obtain⟨g1,g2⟩:=GV iT
  rcases hR with ⟨dk,rfl,rfl⟩|⟨n',c',vs,sp,rfl,rfl,kf⟩
  ·refine cg ?_
   refine VS.ret (gl _ _) rfl rfl (λwz kz bz=> ?_)
   subst dk
   exact⟨_,by rw[g1];rfl,⟨[],bk.nil',by rw[g2];exact hlen,λi v hi=>(by simp at hi)⟩,bz⟩
  ·refine cg ?_
   refine VS.mh (gl _ _) rfl (λwz β kz bz en=> ?_)
   exact⟨_,by rw[g1];rfl,⟨DF,(kf.new dv (en.own 32 _ _ rfl) kz.iD).mono (Nat.zero_le _),by rw[g2];exact hlen,λi v hi=>(hF i v hi).kp (bh AK) kz rfl⟩,bz⟩
set_option maxRecDepth 4000
def RowsB (w:World) (cs:List Value) (r:List Rat):Prop:=nc 4 w cs r/\r.length<=12
def TabB (w:World) (cs:List Value) (t:List (List Rat)):Prop:=∃ v,cs=[v]/\bM RowsB 1 w v t/\t.length<=5
def FewB (w:World) (u v:Value) (cs:List fE) (ts:List (List (List Rat))):Prop:=bM (fC 4) 6 w u cs/\bM TabB 1 w v ts/\cs.length<=12/\(ts.length<=6\/40<ts.length/\ts.length<50)
theorem MU {w:World} {v:Value} {ts:List (List (List Rat))} (h:bM TabB 1 w v ts):bM (jW 4) 1 w v ts/\∀ t∈ts,t.length<=5/\∀ r∈t,r.length<=12:=by
 refine⟨h.mono (λi a cs _ hb=> ?_),λt ht=> ?_⟩
 ·obtain⟨v,rfl,h1,_⟩:=hb
  exact⟨v,rfl,h1.mono (λ_ _ _ _ hr=>hr.1)⟩
 ·obtain⟨cs,v,rfl,h1,h2⟩:=h.mem ht
  refine⟨h2,λr hr=> ?_⟩
  obtain⟨cs,h3,h4⟩:=h1.mem hr
  exact h4
set_option maxRecDepth 4000 in
theorem FJ (u v:Value) (cs:List fE) (ts:List (List (List Rat))) (kk:Nat) (w0 w:World) (hu:bM (fC kk) 6 w0 u cs) (hv:bM (jW kk) 1 w0 v ts) (h0:aw w0 w):
  Calls Tryz.prog 8 #[u,v] w λe w'=>∃ b,e=.returned (.bool b)/\(b=true->FewB w0 u v cs ts)/\aw w w':=by
 obtain⟨p,c,rfl,dL,eH⟩:=hu.form
 obtain⟨p2,c2,rfl,JF,hcm2⟩:=hv.form
 obtain⟨N,hN⟩:∃ N,N=cs.length:=⟨_,rfl⟩
 obtain⟨T,hT⟩:∃ T,T=ts.length:=⟨_,rfl⟩
 rw[<-hN] at hu dL
 rw[<-hT] at hv JF
 rw[<-hN,<-hT]
 refine ae (C:=aM Tryz.prog w _) (args:=[_,_]) Tryz.func8 rfl Tryz.ntmps8 (bl rfl) ?_
 refine aa ?_
 refine VS.loop (J:=λm L M w'=>∃ z:Nat,z<=N/\z<=13/\m=N-z/\L=[(0,.val (.slice p N c)),(1,.val (.slice p2 T c2)),(5,.val (.int .i64 (z:Int)))]/\M=[]/\nk (fC 4) 6 w0 p cs z) N ⟨_,_,?_,?_,?_,?_,⟨0,by omega,by omega,rfl,rfl,rfl,nk.zero⟩⟩ ?_
 ·exact cW
 ·exact cW
 ·rfl
 ·exact fR
 rintro m L M wJ ⟨z,hz,hz13,rfl,rfl,rfl,hup⟩
 apply VS.hop (P:=λF' H' w'=>Entry (λm L M w'=>∃ i:Nat,i<=T/\i<=50/\m=T-i/\L=[(0,.val (.slice p N c)),(1,.val (.slice p2 T c2)),(6,.val (.int .i64 (i:Int)))]/\M=[]/\nk TabB 1 w0 p2 ts i) T F' H' w'/\(N<=12->bM (fC 4) 6 w0 (.slice p N c) cs))
 ·intro cont
  refine aa ?_
  by_cases hlt:z<N
  ·refine VO.fix 13 rfl (congrArg (λb=>AV.val (.bool b)) (decide_eq_true (Int.ofNat_lt.2 hlt))) ?_
   refine aa ?_
   by_cases h13:(z:Int)<13
   ·refine VS.aJ rfl (decide_eq_true h13) ?_
    obtain⟨x,hx⟩:∃ x,cs[z]? =some x:=⟨_,List.getElem?_eq_getElem ab⟩
    obtain⟨b,off,csx,rfl,hc,⟨nm,s,pp,n,cc,t,y,mm,d,rfl,oX,hr⟩⟩:=hu.at hx
    refine aa ?_
    refine VO.cond rfl dz ?_
    refine wV rfl ?_
    refine aa ?_
    refine VO.read rfl [.bool s,.slice pp n cc,.bool t,.slice y mm d] rfl (bX (λj u hj=>h0.cell (hc j u hj)) 2 _ ⟨[],rfl⟩) (wV rfl ?_)
    refine aa ?_
    refine VO.call rfl rfl (fk Tryz.func25) (λaC aY aH=>(tN _ x.2 kk aC (hr.kp (Kp.of (U:=UU) (h0.aA aH)))).mono ?_)
    rintro e w1 ⟨b1,rfl,l1,aD⟩
    cases b1 with
    | false=>
      refine aF aD ?_
      intro bQ _ bb1
      refine au ?_;intro wz kz bz
      exact⟨_,rfl,λh=>(by cases h),bz⟩
    | true=>
      refine aF aD ?_
      intro bQ _ bb1
      refine VS.back (N-(z+1)) ab ⟨_,_,?_,?_,?_,?_,⟨z+1,by omega,by omega,rfl,rfl,rfl,hup.snoc hx hc (fC.le oX hr (l1 rfl))⟩⟩
      ·refine⟨rfl,rfl,?_,trivial⟩
       rw[<-aB (i:=z) ab];rfl
      ·exact cW
      ·rfl
      ·exact fR
   ·refine VS.aK rfl (decide_eq_false h13) ?_
    refine aa ?_
    refine cont _ _ _ ⟨⟨_,_,?_,?_,?_,?_,⟨0,by omega,by omega,rfl,rfl,rfl,nk.zero⟩⟩,λh=>absurd h ab⟩
    ·exact cW
    ·exact cW
    ·rfl
    ·exact fR
  ·refine VO.fix 13 rfl (congrArg (λb=>AV.val (.bool b)) (decide_eq_false (λe=>hlt (Int.ofNat_lt.1 e)))) ?_
   refine aa ?_
   refine cont _ _ _ ⟨⟨_,_,?_,?_,?_,?_,⟨0,by omega,by omega,rfl,rfl,rfl,nk.zero⟩⟩,λ_=>nk.all (show nk (fC 4) 6 w0 p cs N from (show z=N by omega)▸hup) hu⟩
   ·exact cW
   ·exact cW
   ·rfl
   ·exact fR
 rintro F1 H1 w1 ⟨hent,nr⟩
 clear hup
 refine VS.loop T hent ?_
 rintro m L M wK ⟨i,hi,hi50,rfl,rfl,rfl,hup⟩
 refine aa ?_
 by_cases hex:i<T/\i<50
 ·obtain⟨hlt,hl5⟩:=hex
  refine VO.fix 30 rfl (congrArg (λb=>AV.val (.bool b)) (decide_eq_true (Int.ofNat_lt.2 hlt))) ?_
  refine aa ?_
  refine VS.aJ rfl (decide_eq_true (show (i:Int)<50 by omega)) ?_
  obtain⟨tb,ht⟩:∃ x,ts[i]? =some x:=⟨_,List.getElem?_eq_getElem ab⟩
  obtain⟨b,off,csx,rfl,hc,⟨tv,rfl,GW⟩⟩:=hv.at ht
  obtain⟨pr,cr,rfl⟩:=GW.sl
  obtain⟨R,hR⟩:∃ R,R=tb.length:=⟨_,rfl⟩
  rw[<-hR] at GW hc
  refine aa ?_
  refine VS.loop (J:=λm L M w'=>∃ e:Nat,e<=R/\e<=5/\m=R-e/\L=[(0,.val (.slice p N c)),(1,.val (.slice (some ⟨b,off,none⟩) T c2)),(6,.val (.int .i64 (i:Int))),(7,.val (.int .i64 (e:Int)))]/\M=[]/\nk RowsB 1 w0 pr tb e) R ⟨_,_,?_,?_,?_,?_,⟨0,by omega,by omega,rfl,rfl,rfl,nk.zero⟩⟩ ?_
  ·exact cW
  ·exact cW
  ·rfl
  ·exact fR
  rintro m L M wL ⟨e,he,he5,rfl,rfl,rfl,hupr⟩
  refine aa ?_
  refine VO.cond rfl dz ?_
  refine wV rfl ?_
  refine aa ?_
  refine VO.read rfl [.slice pr R cr] rfl (cS (λj u hj=>h0.cell (hc j u hj))) (wV rfl ?_)
  refine aa ?_
  by_cases hle:e<R
  ·refine VS.aJ rfl (decide_eq_true (Int.ofNat_lt.2 hle)) ?_
   refine aa ?_
   by_cases h4:(e:Int)>4
   ·refine VO.fix 48 rfl (congrArg (λb=>AV.val (.bool b)) (decide_eq_true h4)) ?_
    refine aa ?_
    refine au ?_;intro wz kz bz
    exact⟨_,rfl,λh=>(by cases h),bz⟩
   refine VO.fix 48 rfl (congrArg (λb=>AV.val (.bool b)) (decide_eq_false h4)) ?_
   refine aa ?_
   obtain⟨Dr,hrw⟩:∃ x,tb[e]? =some x:=⟨_,List.getElem?_eq_getElem ab⟩
   obtain⟨br,JN,csr,rfl,hcr,⟨rv,rfl,Ds⟩⟩:=GW.at hrw
   obtain⟨pc,cc,rfl⟩:=Ds.sl
   obtain⟨K,hK⟩:∃ K,K=Dr.length:=⟨_,rfl⟩
   rw[<-hK] at Ds hcr
   refine VO.cond rfl dz ?_
   refine wV rfl ?_
   refine aa ?_
   refine VO.read rfl [.slice (some ⟨br,JN,none⟩) R cr] rfl (cS (λj u hj=>h0.cell (hc j u hj))) (wV rfl ?_)
   refine aa ?_
   refine VO.cond rfl dz ?_
   refine wV rfl ?_
   refine aa ?_
   refine VO.read rfl [.slice pc K cc] rfl (cS (λj u hj=>h0.cell (hcr j u hj))) (wV rfl ?_)
   refine aa ?_
   by_cases h12:(K:Int)>12
   ·refine VS.aJ rfl (decide_eq_true h12) ?_
    refine aa ?_
    refine au ?_;intro wz kz bz
    exact⟨_,rfl,λh=>(by cases h),bz⟩
   refine VS.aK rfl (decide_eq_false h12) ?_
   refine aa ?_
   refine VS.loop (J:=λm L M w'=>∃ q:Nat,q<=K/\m=K-q/\L=[(0,.val (.slice p N c)),(1,.val (.slice (some ⟨b,off,none⟩) T c2)),(6,.val (.int .i64 (i:Int))),(7,.val (.int .i64 (e:Int))),(8,.val (.int .i64 (q:Int)))]/\M=[]/\nk (oW 4) 4 w0 pc Dr q) K ⟨_,_,?_,?_,?_,?_,⟨0,by omega,rfl,rfl,rfl,nk.zero⟩⟩ ?_
   ·exact cW
   ·exact cW
   ·rfl
   ·exact fR
   rintro m L M wM ⟨q,hq,rfl,rfl,rfl,hupc⟩
   refine aa ?_
   refine VO.cond rfl dz ?_
   refine wV rfl ?_
   refine aa ?_
   refine VO.read rfl [.slice (some ⟨br,JN,none⟩) R cr] rfl (cS (λj u hj=>h0.cell (hc j u hj))) (wV rfl ?_)
   refine aa ?_
   refine VO.cond rfl dz ?_
   refine wV rfl ?_
   refine aa ?_
   refine VO.read rfl [.slice pc K cc] rfl (cS (λj u hj=>h0.cell (hcr j u hj))) (wV rfl ?_)
   refine aa ?_
   by_cases hlq:q<K
   ·refine VS.aJ rfl (decide_eq_true (Int.ofNat_lt.2 hlq)) ?_
    refine aa ?_
    obtain⟨x,hx⟩:∃ x,Dr[q]? =some x:=⟨_,List.getElem?_eq_getElem ab⟩
    obtain⟨bx,offx,csx,rfl,kG,⟨s,pp,n,cx,t,y,mm,d,rfl,hrt⟩⟩:=Ds.at hx
    refine VO.cond rfl dz ?_
    refine wV rfl ?_
    refine aa ?_
    refine VO.read rfl [.slice (some ⟨br,JN,none⟩) R cr] rfl (cS (λj u hj=>h0.cell (hc j u hj))) (wV rfl ?_)
    refine aa ?_
    refine VO.cond rfl dz ?_
    refine wV rfl ?_
    refine aa ?_
    refine VO.read rfl [.slice (some ⟨bx,offx,none⟩) K cc] rfl (cS (λj u hj=>h0.cell (hcr j u hj))) (wV rfl ?_)
    refine aa ?_
    refine VO.cond rfl dz ?_
    refine wV rfl ?_
    refine aa ?_
    refine VO.read rfl [.bool s,.slice pp n cx,.bool t,.slice y mm d] rfl (bX (λj u hj=>h0.cell (kG j u hj)) 0 _ ⟨[],rfl⟩) (wV rfl ?_)
    refine aa ?_
    refine VO.call rfl rfl (fk Tryz.func25) (λaC aY aH=>(tN _ x kk aC (hrt.kp (Kp.of (U:=UU) (h0.aA aH)))).mono ?_)
    rintro e1 w2 ⟨b1,rfl,l1,aD⟩
    cases b1 with
    | false=>
      refine aF aD ?_
      intro bQ _ bb1
      refine au ?_;intro wz kz bz
      exact⟨_,rfl,λh=>(by cases h),bz⟩
    | true=>
      refine aF aD ?_
      intro bQ _ bb1
      refine VS.back (K-(q+1)) ab ⟨_,_,?_,?_,?_,?_,⟨q+1,by omega,rfl,rfl,rfl,hupc.snoc hx kG (oW.mk (hrt.le (l1 rfl)))⟩⟩
      ·refine⟨rfl,rfl,rfl,rfl,?_,trivial⟩
       rw[<-aB (i:=q) ab];rfl
      ·exact cW
      ·rfl
      ·exact fR
   ·refine VS.aK rfl (decide_eq_false (λe=>hlq (Int.ofNat_lt.1 e))) ?_
    obtain rfl:q=K:=by omega
    refine aa ?_
    refine VS.back (R-(e+1)) ab ⟨_,_,?_,?_,?_,?_,⟨e+1,by omega,by omega,rfl,rfl,rfl,hupr.snoc hrw hcr ⟨⟨_,rfl,hupc.all Ds⟩,by omega⟩⟩⟩
    ·refine⟨rfl,rfl,rfl,?_,trivial⟩
     rw[<-aB (i:=e) ab];rfl
    ·exact cW
    ·rfl
    ·exact fR
  ·refine VS.aK rfl (decide_eq_false (λe=>hle (Int.ofNat_lt.1 e))) ?_
   obtain rfl:e=R:=by omega
   refine aa ?_
   refine VS.back (T-(i+1)) ab ⟨_,_,?_,?_,?_,?_,⟨i+1,by omega,by omega,rfl,rfl,rfl,hup.snoc ht hc ⟨_,rfl,hupr.all GW,by omega⟩⟩⟩
   ·refine⟨rfl,rfl,?_,trivial⟩
    rw[<-aB (i:=i) ab];rfl
   ·exact cW
   ·rfl
   ·exact fR
 ·apply VO.via (P:=λF' H' w'=>Entry (λ_ L M w'=>L=[(0,.val (.slice p N c)),(1,.val (.slice p2 T c2))]/\M=[]) 0 F' H' w')
  ·intro cont
   by_cases hlt:i<T
   ·refine VO.fix 30 rfl (congrArg (λb=>AV.val (.bool b)) (decide_eq_true (Int.ofNat_lt.2 hlt))) ?_
    refine aa ?_
    refine VS.aK rfl (decide_eq_false (show ¬ (i:Int)<50 by omega)) ?_
    (repeat (first|refine wN ?_|refine wP rfl ?_|refine wO rfl rfl ?_))
    refine cont _ _ _ ⟨_,_,?_,?_,?_,?_,rfl,rfl⟩
    ·exact cW
    ·exact cW
    ·rfl
    ·exact fR
   ·refine VO.fix 30 rfl (congrArg (λb=>AV.val (.bool b)) (decide_eq_false (λe=>hlt (Int.ofNat_lt.1 e)))) ?_
    (repeat (first|refine wN ?_|refine wP rfl ?_|refine wO rfl rfl ?_))
    refine cont _ _ _ ⟨_,_,?_,?_,?_,?_,rfl,rfl⟩
    ·exact cW
    ·exact cW
    ·rfl
    ·exact fR
  ·rintro F2 H2 w2 ⟨_,_,e1,e2,e3,e4,rfl,rfl⟩
   refine VS.narrow _ _ e1 e2 e3 e4 ?_
   refine aa ?_
   by_cases hN12:(N:Int)<=12
   ·refine VO.fix 89 rfl (congrArg (λb=>AV.val (.bool b)) (decide_eq_true hN12)) ?_
    refine aa ?_
    by_cases hT6:(T:Int)<=6
    ·refine VO.fix 93 rfl (congrArg (λb=>AV.val (.bool b)) (decide_eq_true hT6)) ?_
     refine aa ?_
     refine au ?_;intro wz kz bz
     obtain rfl:i=T:=by omega
     exact⟨_,rfl,λ_=>⟨nr ab,hup.all hv,by omega,.inl ab⟩,bz⟩
    ·refine VO.fix 93 rfl (congrArg (λb=>AV.val (.bool b)) (decide_eq_false hT6)) ?_
     refine aa ?_
     by_cases h40:(T:Int)>40
     ·refine VO.fix 97 rfl (congrArg (λb=>AV.val (.bool b)) (decide_eq_true h40)) ?_
      refine aa ?_
      refine au ?_;intro wz kz bz
      refine⟨_,rfl,λh=> ?_,bz⟩
      have h50:(T:Int)<50:=of_decide_eq_true h
      obtain rfl:i=T:=by omega
      exact⟨nr ab,hup.all hv,by omega,.inr ⟨by omega,by omega⟩⟩
     ·refine VO.fix 97 rfl (congrArg (λb=>AV.val (.bool b)) (decide_eq_false h40)) ?_
      refine aa ?_
      refine au ?_;intro wz kz bz
      exact⟨_,rfl,λh=>(by cases h),bz⟩
   ·refine VO.fix 89 rfl (congrArg (λb=>AV.val (.bool b)) (decide_eq_false hN12)) ?_
    refine aa ?_
    refine au ?_;intro wz kz bz
    exact⟨_,rfl,λh=>(by cases h),bz⟩
set_option maxRecDepth 4000
abbrev Ka:KC:=⟨UU,λ_=>True,λt=>Nat.beq t 55⟩
abbrev cxU (P:Program) (w:World) (N:Nat) (ad:List Nat) (hd:ad.Nodup) (ha:ja Ka ad w):Cx:=tV P w N Ka (λt=>Nat.beq t 30) table (λ_ _=>trivial) ad hd ha
theorem FK (w:World) (N:Nat) {ad:List Nat} {hd:ad.Nodup} {ha:ja Ka ad w}:(cxU Tryz.prog w N ad hd ha).Ok:=jb
section
variable {F F':Fr} {H H':Hp} {w w1:World} {N:Nat} {l':List Oper} {Q:Exit->Act->World->Prop} {k:List It} {id:Nat} {ops:Array Oper}
theorem cxU_r {ad:List Nat} {hd:ad.Nodup} {ha:ja Ka ad w1} (e:kO (cxU Tryz.prog w1 N ad hd ha) ops 80 ops.toList F H=(l',F',H')) (h:ao (cxU Tryz.prog w1 N ad hd ha) none ops l' (VS (cxU Tryz.prog w1 N ad hd ha) Q k) F' H' w):VS (cxU Tryz.prog w1 N ad hd ha) Q (.code (.region id ops false)::k) F H w:=VS.region (FK _ _) (VO.run 80 e h)
end
abbrev Kb:KC:=⟨UU,λ_=>True,λt=>(Nat.beq t 55 || Nat.beq t 131)⟩
abbrev cxY (P:Program) (w:World) (N:Nat) (ad:List Nat) (hd:ad.Nodup) (ha:ja Kb ad w):Cx:=tV P w N Kb (λt=>Nat.beq t 30) table (λ_ _=>trivial) ad hd ha
theorem FL (w:World) (N:Nat) {ad:List Nat} {hd:ad.Nodup} {ha:ja Kb ad w}:(cxY Tryz.prog w N ad hd ha).Ok:=jb
section
variable {F F':Fr} {H H':Hp} {w w1:World} {N:Nat} {l':List Oper} {Q:Exit->Act->World->Prop} {k:List It} {id:Nat} {ops:Array Oper}
theorem cxY_r {ad:List Nat} {hd:ad.Nodup} {ha:ja Kb ad w1} (e:kO (cxY Tryz.prog w1 N ad hd ha) ops 80 ops.toList F H=(l',F',H')) (h:ao (cxY Tryz.prog w1 N ad hd ha) none ops l' (VS (cxY Tryz.prog w1 N ad hd ha) Q k) F' H' w):VS (cxY Tryz.prog w1 N ad hd ha) Q (.code (.region id ops false)::k) F H w:=VS.region (FL _ _) (VO.run 80 e h)
end
theorem cls_ty4 {w:World} {g:Nat} {t t':TypeId} {a b:Array Value} (h:bj w g t a) (k:bj w g t' b):t=t':=by
 have:=(show w.heap[g]? =_ from h).symm.trans (show w.heap[g]? =_ from k)
 injection this with this
 injection this
theorem GX {α:Type} {E:World->List Value->α->Prop} {w:World} {v:Value} {vs:List Value} {es:List α} (h:bM VE 1 w v vs) (hl:vs.length=es.length) (hg:∀ (i:Nat) (u:Value) (a:α),vs[i]? =some u->es[i]? =some a->E w [u] a):bM E 1 w v es:=by
 obtain⟨p,c,rfl,h1,h2,h3⟩:=h
 refine⟨p,c,by rw[hl],by rw[<-hl];exact h1,h2,λi a ha=> ?_⟩
 obtain⟨u,hu⟩:∃ u,vs[i]? =some u:=⟨_,List.getElem?_eq_getElem (by rw[hl];exact (List.getElem?_eq_some_iff.1 ha).1)⟩
 obtain⟨b,off,cs,hp,hc,hE⟩:=h3 i u hu
 obtain⟨rfl,-⟩:=hE
 exact⟨b,off,_,hp,hc,hg i u a hu ha⟩
def rE (kk:Nat) (w:World) (v:Value) (t:List (List Rat)):Prop:=∃ vs,bk VE 1 131 0 w v vs/\vs.length=t.length/\∀ (i:Nat) (u:Value) (r:List Rat),vs[i]? =some u->t[i]? =some r->bk (oW kk) 4 55 0 w u r
theorem rE.kp {kk:Nat} {w w':World} {v:Value} {t:List (List Rat)} {T:TypeId->Bool} (h:rE kk w v t) (k:KpT T w w') (h1:T 131=true) (h2:T 55=true):rE kk w' v t:=by
 obtain⟨vs,g1,g2,g3⟩:=h
 exact⟨vs,g1.kp dv k h1,g2,λi u r hi hr=>(g3 i u r hi hr).kp (fD kk) k h2⟩
theorem rE.bq {kk:Nat} {w w':World} {v:Value} {t:List (List Rat)} (h:rE kk w v t) (hb:aw w w'):rE kk w' v t:=h.kp (T:=λ_=>true) (aV.of hb) rfl rfl
theorem rE.tab {kk:Nat} {w:World} {v:Value} {t:List (List Rat)} (h:rE kk w v t):jW kk w [v] t:=by
 obtain⟨vs,g1,g2,g3⟩:=h
 exact⟨v,rfl,GX (g1.sl dv) g2 (λi u r hi hr=>⟨u,rfl,(g3 i u r hi hr).sl (fD kk)⟩)⟩
def xh (kk:Nat) (w:World) (v:Value) (ts:List (List (List Rat))):Prop:=∃ vs,bk VE 1 130 0 w v vs/\vs.length=ts.length/\∀ (i:Nat) (u:Value) (t:List (List Rat)),vs[i]? =some u->ts[i]? =some t->rE kk w u t
theorem xh.kp {kk:Nat} {w w':World} {v:Value} {ts:List (List (List Rat))} {T:TypeId->Bool} (h:xh kk w v ts) (k:KpT T w w') (h0:T 130=true) (h1:T 131=true) (h2:T 55=true):xh kk w' v ts:=by
 obtain⟨vs,g1,g2,g3⟩:=h
 exact⟨vs,g1.kp dv k h0,g2,λi u r hi hr=>(g3 i u r hi hr).kp k h1 h2⟩
theorem xh.tabs {kk:Nat} {w:World} {v:Value} {ts:List (List (List Rat))} (h:xh kk w v ts):bM (jW kk) 1 w v ts:=by
 obtain⟨vs,g1,g2,g3⟩:=h
 exact GX (g1.sl dv) g2 (λi u t hi ht=>(g3 i u t hi ht).tab)
theorem bk.bq {α:Type} {E:World->List Value->α->Prop} {sz B:Nat} {t:TypeId} {w w':World} {v:Value} {es:List α} (hE:fU E sz) (h:bk E sz t B w v es) (hb:aw w w'):bk E sz t B w' v es:=h.kp hE (T:=λ_=>true) (aV.of hb) rfl
theorem uL {α:Type} {vs:List Value} {l:List α} {P:Value->α->Prop} {u:Value} {a:α} (h:∀ (i:Nat) (v:Value) (x:α),vs[i]? =some v->l[i]? =some x->P v x) (ha:l[vs.length]? =some a) (hu:P u a):∀ (i:Nat) (v:Value) (x:α),(vs++[u])[i]? =some v->l[i]? =some x->P v x:=λi v x hi hx=>by
 by_cases hil:i<vs.length
 ·rw[List.getElem?_append_left hil] at hi;exact h i v x hi hx
 ·rw[List.getElem?_append_right ab] at hi
  have:=(List.getElem?_eq_some_iff.1 hi).1
  rw[List.length_singleton] at this
  obtain rfl:i=vs.length:=by omega
  rw[Nat.sub_self] at hi
  cases hi
  rw[ha] at hx
  cases hx;exact hu
theorem GY {P Q:Prop} (h:Q) (i:Q->P:=by intro h;(repeat first|refine wN ?_|refine wP rfl ?_|refine cxU_r rfl ?_|refine cxU_d rfl ?_|refine wO rfl rfl ?_);exact h):P:=i h
theorem GZ {P Q:Prop} (h:Q) (i:Q->P:=by intro h;(repeat first|refine wN ?_|refine wP rfl ?_|refine cxY_r rfl ?_|refine cxY_d rfl ?_|refine wO rfl rfl ?_);exact h):P:=i h
set_option maxRecDepth 4000 in
theorem FM (v:Value) (ts:List (List (List Rat))) (kk:Nat) (w:World) (hv:bM (jW kk) 1 w v ts) (hk:kk<=1000) (hb:∀ t∈ts,t.length<=5/\∀ r∈t,r.length<=12) (hn:ts.length<=1000):
  Calls Tryz.prog 20 #[v] w λo w'=>∃ r,o=.returned r/\xh kk w' r ts/\aw w w':=by
 obtain⟨p,c,rfl⟩:=hv.sl
 obtain⟨T,hT⟩:∃ T,T=ts.length:=⟨_,rfl⟩
 rw[<-hT] at hv hn
 rw[<-hT]
 refine ae (C:=aM Tryz.prog w _) (args:=[_]) Tryz.func20 rfl Tryz.ntmps20 (bl rfl) ?_
 refine aa ?_
 refine VS.loopE (J:=λm L W=>∃ (y:Nat) (ov:Value) (vs:List Value),y<=T/\m=T-y/\L=[(0,.slice p T c),(3,ov),(4,.int .i64 (y:Int))]/\aw w W/\bk VE 1 130 w.heap.size W ov vs/\vs.length=y/\∀ (i:Nat) (u:Value) (t:List (List Rat)),vs[i]? =some u->ts[i]? =some t->rE kk W u t)
  (λW=>aM Tryz.prog W 64) (λ_=>rfl) (λ_=>rfl) (λ_=>aw.refl _) T (λw' β k o en=>⟨[(0,.slice p T c),(3,.slice none 0 0),(4,.int .i64 ((0:Nat):Int))],⟨⟨_,_,rfl,rfl,rfl⟩,⟨_,_,rfl,rfl,rfl⟩,⟨_,_,rfl,rfl,rfl⟩,trivial⟩,0,_,[],by omega,rfl,rfl,o,.inl ⟨rfl,rfl⟩,rfl,λi u t hi=>(by simp at hi)⟩) ?_
 rintro m L W ⟨y,ov,vs,hy,rfl,rfl,hBW,hout,hvl,htab⟩
 have hvW:bM (jW kk) 1 W (.slice p T c) ts:=hv.oV (pK kk) hBW
 refine aa ?_
 by_cases hyT:y<T
 ·obtain⟨tb,ht⟩:∃ t,ts[y]? =some t:=⟨_,List.getElem?_eq_getElem ab⟩
  obtain⟨il,sI⟩:=hb tb (List.mem_of_getElem? ht)
  obtain⟨bT,oY,csT,rfl,hcT,⟨tv,rfl,DD⟩⟩:=hvW.at ht
  obtain⟨pr,cr,rfl⟩:=DD.sl
  obtain⟨R,hR⟩:∃ R,R=tb.length:=⟨_,rfl⟩
  rw[<-hR] at DD hcT il
  refine VS.aJ rfl (decide_eq_true (Int.ofNat_lt.2 hyT)) ?_
  refine aa ?_
  refine VS.loopE (J:=λm L W2=>∃ (e g:Nat) (rv:Value) (us:List Value),e<=R/\m=R-e/\L=[(0,.slice (some ⟨bT,oY,none⟩) T c),(3,ov),(4,.int .i64 (y:Int)),(5,.pointer (some ⟨g,0,none⟩)),(6,.int .i64 (e:Int))]/\aw W W2/\W.heap.size<=g/\bj W2 g 130 #[rv]/\bk VE 1 131 W.heap.size W2 rv us/\us.length=e/\∀ (i:Nat) (u:Value) (r:List Rat),us[i]? =some u->tb[i]? =some r->bk (oW kk) 4 55 0 W2 u r)
   (λW=>aM Tryz.prog W 64) (λ_=>rfl) (λ_=>rfl) (λ_=>aw.refl _) R (λw' β k o en=>⟨[(0,.slice (some ⟨bT,oY,none⟩) T c),(3,ov),(4,.int .i64 (y:Int)),(5,.pointer (some ⟨β 5,0,none⟩)),(6,.int .i64 ((0:Nat):Int))],⟨⟨_,_,rfl,rfl,rfl⟩,⟨_,_,rfl,rfl,rfl⟩,⟨_,_,rfl,rfl,rfl⟩,⟨_,_,rfl,rfl,rfl⟩,⟨_,_,rfl,rfl,rfl⟩,trivial⟩,0,β 5,.slice none 0 0,[],by omega,rfl,rfl,o,(en.own 5 _ _ rfl).new,(en.own 5 _ _ rfl).cls,.inl ⟨rfl,rfl⟩,rfl,λi u r hi=>(by simp at hi)⟩) ?_
  rintro m L W2 ⟨e,g,rv,us,he,rfl,rfl,uc,hgW,hgc,hrv,hul,hus⟩
  have htv2:bM (nc kk) 1 W2 (.slice pr R cr) tb:=DD.oV (wH kk) uc
  have hcT2:∀ (j:Nat) (u:Value),[Value.slice pr R cr][j]? =some u->W2.cell? ⟨bT,oY+y*1+j,none⟩=some u:=λj u hj=>uc.cell (hcT j u hj)
  refine aa ?_
  refine VO.cond rfl dz ?_
  refine wV rfl ?_
  refine aa ?_
  refine VO.read rfl [.slice pr R cr] rfl (cS hcT2) (wV rfl ?_)
  refine aa ?_
  by_cases heR:e<R
  ·obtain⟨Dr,hrw⟩:∃ x,tb[e]? =some x:=⟨_,List.getElem?_eq_getElem ab⟩
   have hr12:=sI Dr (List.mem_of_getElem? hrw)
   obtain⟨br,JN,csr,rfl,hcr,⟨xv,rfl,Ds⟩⟩:=htv2.at hrw
   obtain⟨pc,cc,rfl⟩:=Ds.sl
   obtain⟨K,hK⟩:∃ K,K=Dr.length:=⟨_,rfl⟩
   rw[<-hK] at Ds hcr hr12
   refine VS.aJ rfl (decide_eq_true (Int.ofNat_lt.2 heR)) ?_
   refine aa ?_
   refine VS.loop (J:=λm L M w'=>∃ (z:Nat) (X:AV) (Mi:List (Nat×(TypeId×List AV))),z<=K/\m=K-z/\L=[(0,.val (.slice (some ⟨bT,oY,none⟩) T c)),(3,.val ov),(4,.val (.int .i64 (y:Int))),(5,.val (.pointer (some ⟨g,0,none⟩))),(6,.val (.int .i64 (e:Int))),(7,X),(8,.val (.int .i64 (z:Int)))]/\M=Mi/\ew (oW kk) 4 55 52 X Mi w' (Dr.take z)) K ⟨_,_,?_,?_,?_,?_,⟨0,_,[],by omega,rfl,rfl,rfl,.inl ⟨rfl,rfl,rfl⟩⟩⟩ ?_
   ·exact cW
   ·exact cW
   ·rfl
   ·exact fR
   rintro m L Mi wI ⟨z,X,Mi2,hz,rfl,rfl,rfl,hI⟩
   refine VS.now (λwX kN bN=> ?_)
   replace hI:=hI.kp (fD kk) (aV.iD kN)
   refine VS.mask [51] (by rcases hI with ⟨_,rfl,rfl⟩|⟨_,_,_,_,rfl,rfl,_⟩ <;> (repeat first|exact trivial|refine⟨rfl,?_⟩)) ?_
   refine aa ?_
   refine VO.cond rfl dz ?_
   refine wV rfl ?_
   refine aa ?_
   refine VO.read rfl [.slice (some ⟨br,JN,none⟩) R cr] rfl (cS hcT2) (wV rfl ?_)
   refine aa ?_
   refine VO.cond rfl dz ?_
   refine wV rfl ?_
   refine aa ?_
   refine VO.read rfl [.slice pc K cc] rfl (cS hcr) (wV rfl ?_)
   refine aa ?_
   by_cases hzK:z<K
   ·obtain⟨x,hx⟩:∃ x,Dr[z]? =some x:=⟨_,List.getElem?_eq_getElem ab⟩
    obtain⟨bx,offx,csx,rfl,kG,⟨s0,p0,n0,c0,t0,y0,m0,d0,rfl,jf⟩⟩:=Ds.at hx
    refine VS.aJ rfl (decide_eq_true (Int.ofNat_lt.2 hzK)) ?_
    refine aa ?_
    refine VO.cond rfl dz ?_
    refine wV rfl ?_
    refine aa ?_
    refine VO.read rfl [.slice (some ⟨br,JN,none⟩) R cr] rfl (cS hcT2) (wV rfl ?_)
    refine aa ?_
    refine VO.cond rfl dz ?_
    refine wV rfl ?_
    refine aa ?_
    refine VO.read rfl [.slice (some ⟨bx,offx,none⟩) K cc] rfl (cS hcr) (wV rfl ?_)
    refine aa ?_
    refine VO.cond rfl dz ?_
    refine wV rfl ?_
    refine aa ?_
    refine VO.read rfl [.bool s0,.slice p0 n0 c0,.bool t0,.slice y0 m0 d0] rfl (bX kG 0 _ ⟨[],rfl⟩) (wV rfl ?_)
    refine aa ?_
    refine VO.cR rfl rfl (fk Tryz.func53) (λaC aY aH=>xa _ x kk aC (jf.kp (Kp.of (U:=UU) aH)) ab) (λaC aY aH w1 s1 p1 n1 c1 t1 y1 m1 d1 q1 aD bQ _ bb1=>wV rfl ?_)
    refine aa ?_
    have kX:oW kk w1 [.bool s1,.slice p1 n1 c1,.bool t1,.slice y1 m1 d1] x:=.mk q1.k
    rcases hI with ⟨dk,rfl,rfl⟩|⟨n',c',vs,sp,rfl,rfl,kf⟩
    ·refine VO.na (cH _ _) (fD kk) (t:=131) (e:=55) (s:=51) (a:=x) (cs:=[.bool s1,.slice p1 n1 c1,.bool t1,.slice y1 m1 d1]) rfl rfl rfl rfl rfl rfl rfl rfl (bl rfl) rfl rfl rfl kX ab (λw9 cap sp k9 b9 jv=>wV rfl ?_)
     refine aa ?_
     refine VS.back (K-(z+1)) ab ⟨_,_,?_,?_,?_,?_,⟨z+1,_,_,by omega,rfl,rfl,rfl,.inr ⟨1,cap,_,sp,rfl,rfl,by rw[ba hx,dk];exact jv⟩⟩⟩
     ·(refine⟨rfl,rfl,rfl,rfl,rfl,rfl,?_,trivial⟩;rw[<-aB (i:=z) ab];rfl)
     ·(repeat first|exact trivial|refine⟨rfl,?_⟩|refine⟨congrArg (λl=>some (_,l)) (bu (by first|exact bU.cV (by assumption)|exact af _|(rw[<-List.map_append];exact af _)) _ _),?_⟩)
     ·rfl
     ·(repeat first|exact trivial|refine⟨ai.lit rfl,?_⟩|refine⟨bU.oU (by assumption),?_⟩|refine⟨ai.append (.vals _) (.vals _),?_⟩|refine⟨ai.vals _,?_⟩)
    ·have qe:=kf.len
     refine VO.nb (cH _ _) (fD kk) (t:=131) (e:=55) (s:=51) (i:=52) (n:=n') (c:=c') (vs:=vs) (sp:=sp) (es:=Dr.take z) (a:=x) (cs:=[.bool s1,.slice p1 n1 c1,.bool t1,.slice y1 m1 d1]) rfl rfl rfl rfl rfl rfl rfl rfl (bl rfl) rfl (.inr rfl) rfl (kf.kp (fD kk) bg) rfl kX (by rw[List.length_take] at qe;omega) (λw9 kS uJ ρ k9 b9 eV jv=>wV rfl ?_)
     refine aa ?_
     refine VS.back (K-(z+1)) ab ⟨_,_,?_,?_,?_,?_,⟨z+1,_,_,by omega,rfl,rfl,rfl,.inr ⟨n' +1,kS,_,uJ,rfl,rfl,by rw[ba hx];exact jv⟩⟩⟩
     ·(refine⟨rfl,rfl,rfl,rfl,rfl,rfl,?_,trivial⟩;rw[<-aB (i:=z) ab];rfl)
     ·(repeat first|exact trivial|refine⟨rfl,?_⟩|refine⟨congrArg (λl=>some (_,l)) (bu (by first|exact bU.cV (by assumption)|exact af _|(rw[<-List.map_append];exact af _)) _ _),?_⟩)
     ·rfl
     ·(repeat first|exact trivial|refine⟨ai.lit rfl,?_⟩|refine⟨bU.oU (by assumption),?_⟩|refine⟨ai.append (.vals _) (.vals _),?_⟩|refine⟨ai.vals _,?_⟩)
   refine VS.aK rfl (decide_eq_false (λe=>hzK (Int.ofNat_lt.1 e))) ?_
   obtain rfl:z=K:=by omega
   rw[List.take_of_length_le ab] at hI
   subst hul
   refine VS.GR Ka (λt=>Nat.beq t 30) table (λ_ _ _=>trivial) (λoy β1 k1 b1' en1=> ?_)
   have kV:aw W2 oy:=b1'
   have jQ:=hI.told (fD kk) en1 (by intro q hq;rcases hI with ⟨_,rfl,rfl⟩|⟨_,_,_,_,rfl,rfl,_⟩ <;> first|(cases hq;done)|(cases List.mem_singleton.1 hq;rfl)) k1.iD 0 (λ_=>Nat.zero_le _)
   have FN:=hgc.bq kV
   have hWs:=uc.size
   have MV:=kV.size
   rcases hrv with ⟨rfl,rfl⟩|⟨b0,cB,vsB,spB,rfl,hBg,Ha,MW,MX,hBle,hBcm,hBfl⟩
   ·have Fs:pJ Ka 64 [g] [(130,[.val (.slice none 0 0)])] oy:=by
     refine⟨rfl,by simp,λj g' c' hj hc=> ?_,λc' hc=> ?_,λc' hc k hk=> ?_⟩
     ·match j,hj,hc with
      | 0,hj,hc=>cases hj;cases hc;exact FN
      | j+1,hj,_=>simp at hj
     ·cases List.mem_singleton.1 hc
      exact⟨rfl,rfl⟩
     ·cases List.mem_singleton.1 hc
      cases hk
    refine⟨[g],[(130,[.val (.slice none 0 0)])],Fs,[(0,.val (.slice (some ⟨bT,oY,none⟩) T c)),(3,.val ov),(4,.val (.int .i64 (y:Int))),(5,.box 128 0),(6,.val (.int .i64 (([]:List Value).length:Int))),(7,.val (X.aU β1))],⟨⟨_,rfl,rfl,λi hi=>(by cases hi)⟩,⟨_,rfl,rfl,λi hi=>(by cases hi)⟩,⟨_,rfl,rfl,λi hi=>(by cases hi)⟩,⟨_,rfl,rfl,λi hi=>by rw[(by simpa [AV.ids] using hi:i=128)];exact⟨(by show 128<=128;omega),(by show 128<2*64+1;omega)⟩⟩,⟨_,rfl,rfl,λi hi=>(by cases hi)⟩,⟨_,rfl,rfl,λi hi=>(by cases hi)⟩,trivial⟩,?_⟩
    generalize X.aU β1=vv at jQ ⊢
    obtain⟨pr2,cr2,rfl⟩:=jQ.form
    refine GY ?_
    refine VO.na (FK _ _) dv (t:=128) (e:=131) (s:=56) (a:=.slice pr2 Dr.length cr2) (cs:=[.slice pr2 Dr.length cr2]) rfl rfl rfl rfl rfl rfl rfl rfl (bl rfl) rfl rfl rfl ⟨rfl,_,_,_,rfl⟩ ab (λAl cap sp k13 b13 jv=>wV rfl ?_)
    refine GY ?_
    refine VS.GS rfl (R-(([]:List Value).length+1)) ab (λw' cf k' o' en'=> ?_)
    have qY:aV Ka oy w':=(show aV Ka oy Al from bg).aA k'
    have hB':aw W w':=uA.bq (uc.aA kV) o'.1 (λx hx=>by rw[List.mem_singleton.1 hx];omega)
    have hst:ew VE 1 131 57 (.row 57 0 1 cap) [(57,(131,_))] Al ([.slice pr2 Dr.length cr2]):=.inr ⟨_,cap,_,sp,rfl,rfl,jv⟩
    have Ab:=hst.told dv en' (λx hx=>by cases List.mem_singleton.1 hx;rfl) k'.iD W.heap.size (λh=>(ft (show gK 64 [g] oy 57 (cf 57) from h)).elim (λq=>Nat.le_trans hWs (Nat.le_trans MV q)) (λq=>by rw[List.mem_singleton.1 q];omega))
    have hbx:=en'.own 128 _ _ rfl
    have hgβ:cf 128=g:=(xJ hbx 0 g rfl rfl).1
    refine⟨[(0,.slice (some ⟨bT,oY,none⟩) T c),(3,ov),(4,.int .i64 (y:Int)),(5,.pointer (some ⟨cf 128,0,none⟩)),(6,.int .i64 ((([]:List Value).length+1:Nat):Int))],⟨⟨_,_,rfl,rfl,rfl⟩,⟨_,_,rfl,rfl,rfl⟩,⟨_,_,rfl,rfl,rfl⟩,⟨_,_,rfl,rfl,rfl⟩,⟨_,_,rfl,congrArg (λz=>Value.int .i64 z) (aB (i:=([]:List Value).length) ab),rfl⟩,trivial⟩,([]:List Value).length+1,cf 128,.slice (some ⟨cf 57,0,none⟩) 1 cap,[Value.slice pr2 Dr.length cr2],by omega,rfl,rfl,hB',by rw[hgβ];exact hgW,hbx.cls,Ab,by simp,?_⟩
    refine uL (vs:=([]:List Value)) (l:=tb) (P:=λu r=>bk (oW kk) 4 55 0 w' u r) (λi u r hi hr=>((hus i u r hi hr).bq (fD kk) kV).kp (fD kk) qY rfl) hrw (jQ.kp (fD kk) qY rfl)
   ·have hBc1:=Ha.bq kV
    have hgb:g≠b0:=λh=>by rw[h] at FN;exact absurd (cls_ty4 FN hBc1) fc
    have Fs:pJ Ka 64 [g,b0] [(130,[.row 129 0 us.length cB]),(131,vsB.flatten.map .val++spB.map .val)] oy:=by
     refine⟨rfl,by simp[hgb],λj g' c' hj hc=> ?_,λc' hc=> ?_,λc' hc k hk=> ?_⟩
     ·match j,hj,hc with
      | 0,hj,hc=>cases hj;cases hc;exact FN
      | 1,hj,hc=>cases hj;cases hc;rw[<-List.map_append,aW];exact hBc1
      | j+2,hj,_=>simp at hj
     ·rcases List.mem_cons.1 hc with rfl|hc
      ·exact⟨rfl,rfl⟩
      ·cases List.mem_singleton.1 hc
       exact⟨rfl,by rw[<-List.map_append];exact cU (by rw[List.all_append,(MW.ok dv).1,MX];rfl)⟩
     ·rcases List.mem_cons.1 hc with rfl|hc
      ·have:k=129:=by simpa [aO,AV.cV] using hk
       subst this;exact⟨by omega,by show 129<2*64+2;omega⟩
      ·cases List.mem_singleton.1 hc
       rw[<-List.map_append,af] at hk;cases hk
    have hNB:bU VE 1 oy us.length cB vsB (spB.map .val) us:=⟨rfl,MW.kp dv (Kp.of (U:=UU) kV),cU MX,af _,hBle,hBcm,by rw[<-List.map_append,List.length_map];exact hBfl⟩
    refine⟨[g,b0],[(130,[.row 129 0 us.length cB]),(131,vsB.flatten.map .val++spB.map .val)],Fs,[(0,.val (.slice (some ⟨bT,oY,none⟩) T c)),(3,.val ov),(4,.val (.int .i64 (y:Int))),(5,.box 128 0),(6,.val (.int .i64 (us.length:Int))),(7,.val (X.aU β1))],⟨⟨_,rfl,rfl,λi hi=>(by cases hi)⟩,⟨_,rfl,rfl,λi hi=>(by cases hi)⟩,⟨_,rfl,rfl,λi hi=>(by cases hi)⟩,⟨_,rfl,rfl,λi hi=>by rw[(by simpa [AV.ids] using hi:i=128)];exact⟨(by show 128<=128;omega),(by show 128<2*64+2;omega)⟩⟩,⟨_,rfl,rfl,λi hi=>(by cases hi)⟩,⟨_,rfl,rfl,λi hi=>(by cases hi)⟩,trivial⟩,?_⟩
    generalize X.aU β1=vv at jQ ⊢
    obtain⟨pr2,cr2,rfl⟩:=jQ.form
    refine GY ?_
    refine VO.nb (FK _ _) dv (t:=128) (e:=131) (s:=56) (i:=129) (n:=us.length) (c:=cB) (vs:=vsB) (sp:=spB.map .val) (es:=us) (a:=.slice pr2 Dr.length cr2) (cs:=[.slice pr2 Dr.length cr2]) rfl rfl rfl rfl rfl rfl rfl rfl (bl rfl) rfl (.inl rfl) rfl (hNB.kp dv (aV.iD (show aV Ka oy _ from bg))) rfl ⟨rfl,_,_,_,rfl⟩ ab (λAl cap sp ρ k13 b13 eV jv=>wV rfl ?_)
    refine GY ?_
    refine VS.GS rfl (R-(us.length+1)) ab (λw' cf k' o' en'=> ?_)
    have qY:aV Ka oy w':=(show aV Ka oy Al from bg).aA k'
    have hB':aw W w':=uA.bq (uc.aA kV) o'.1 (λx hx=>by
     rcases List.mem_cons.1 hx with rfl|hx
     ·omega
     ·rw[List.mem_singleton.1 hx];omega)
    have hst:ew VE 1 131 57 (.row 57 0 (us.length+1) cap) [(57,(131,_))] Al (us++[.slice pr2 Dr.length cr2]):=.inr ⟨_,cap,_,sp,rfl,rfl,jv⟩
    have Ab:=hst.told dv en' (λx hx=>by cases List.mem_singleton.1 hx;rfl) k'.iD W.heap.size (λh=>(ft (show gK 64 [g,b0] oy 57 (cf 57) from h)).elim (λq=>Nat.le_trans hWs (Nat.le_trans MV q)) (λq=>by
     rcases List.mem_cons.1 q with h|h
     ·rw[h];omega
     ·rw[List.mem_singleton.1 h];omega))
    have hbx:=en'.own 128 _ _ rfl
    have hgβ:cf 128=g:=(xJ hbx 0 g rfl rfl).1
    refine⟨[(0,.slice (some ⟨bT,oY,none⟩) T c),(3,ov),(4,.int .i64 (y:Int)),(5,.pointer (some ⟨cf 128,0,none⟩)),(6,.int .i64 ((us.length+1:Nat):Int))],⟨⟨_,_,rfl,rfl,rfl⟩,⟨_,_,rfl,rfl,rfl⟩,⟨_,_,rfl,rfl,rfl⟩,⟨_,_,rfl,rfl,rfl⟩,⟨_,_,rfl,congrArg (λz=>Value.int .i64 z) (aB (i:=us.length) ab),rfl⟩,trivial⟩,us.length+1,cf 128,.slice (some ⟨cf 57,0,none⟩) (us.length+1) cap,us++[Value.slice pr2 Dr.length cr2],by omega,rfl,rfl,hB',by rw[hgβ];exact hgW,hbx.cls,Ab,by simp,?_⟩
    refine uL (vs:=us) (l:=tb) (P:=λu r=>bk (oW kk) 4 55 0 w' u r) (λi u r hi hr=>((hus i u r hi hr).bq (fD kk) kV).kp (fD kk) qY rfl) hrw (jQ.kp (fD kk) qY rfl)
  refine VS.aK rfl (decide_eq_false (λh=>heR (Int.ofNat_lt.1 h))) ?_
  obtain rfl:e=R:=by omega
  subst hvl
  (repeat (first|refine wN ?_|refine wP rfl ?_|refine wO rfl rfl ?_))
  refine VS.GR Kb (λt=>Nat.beq t 30) table (λ_ _ _=>trivial) (λoy β1 k1 b1' en1=> ?_)
  have kV:aw W2 oy:=b1'
  have FN:=hgc.bq kV
  have hWs:=uc.size
  have hWs0:=hBW.size
  have MV:=kV.size
  obtain⟨Kc,Kd,rfl⟩:=hrv.form
  rcases hout with ⟨rfl,rfl⟩|⟨b0,cB,vsB,spB,rfl,hBg,Ha,MW,MX,hBle,hBcm,hBfl⟩
  ·have Fs:pJ Kb 64 [g] [(130,[.val (.slice Kc us.length Kd)])] oy:=by
    refine⟨rfl,by simp,λj g' c' hj hc=> ?_,λc' hc=> ?_,λc' hc k hk=> ?_⟩
    ·match j,hj,hc with
     | 0,hj,hc=>cases hj;cases hc;exact FN
     | j+1,hj,_=>simp at hj
    ·cases List.mem_singleton.1 hc
     exact⟨rfl,rfl⟩
    ·cases List.mem_singleton.1 hc
     cases hk
   refine⟨[g],[(130,[.val (.slice Kc us.length Kd)])],Fs,[(0,.val (.slice (some ⟨bT,oY,none⟩) T c)),(3,.val (.slice none 0 0)),(4,.val (.int .i64 (([]:List Value).length:Int))),(5,.box 128 0)],⟨⟨_,rfl,rfl,λi hi=>(by cases hi)⟩,⟨_,rfl,rfl,λi hi=>(by cases hi)⟩,⟨_,rfl,rfl,λi hi=>(by cases hi)⟩,⟨_,rfl,rfl,λi hi=>by rw[(by simpa [AV.ids] using hi:i=128)];exact⟨(by show 128<=128;omega),(by show 128<2*64+1;omega)⟩⟩,trivial⟩,?_⟩
   refine GZ ?_
   refine VO.na (FL _ _) dv (t:=64) (e:=130) (s:=61) (a:=.slice Kc us.length Kd) (cs:=[.slice Kc us.length Kd]) rfl rfl rfl rfl rfl rfl rfl rfl (bl rfl) rfl rfl rfl ⟨rfl,_,_,_,rfl⟩ ab (λAl cap sp k13 b13 jv=>wV rfl ?_)
   refine GZ ?_
   refine VS.GS rfl (T-(([]:List Value).length+1)) ab (λw' cf k' o' en'=> ?_)
   have qY:aV Kb oy w':=(show aV Kb oy Al from bg).aA k'
   have hB':aw w w':=uA.bq (hBW.aA (uc.aA kV)) o'.1 (λx hx=>by rw[List.mem_singleton.1 hx];omega)
   have hst:ew VE 1 130 62 (.row 62 0 1 cap) [(62,(130,_))] Al ([.slice Kc us.length Kd]):=.inr ⟨_,cap,_,sp,rfl,rfl,jv⟩
   have Ab:=hst.told dv en' (λx hx=>by cases List.mem_singleton.1 hx;rfl) k'.iD w.heap.size (λh=>(ft (show gK 64 [g] oy 62 (cf 62) from h)).elim (λq=>Nat.le_trans hWs0 (Nat.le_trans hWs (Nat.le_trans MV q))) (λq=>by rw[List.mem_singleton.1 q];omega))
   refine⟨[(0,.slice (some ⟨bT,oY,none⟩) T c),(3,.slice (some ⟨cf 62,0,none⟩) 1 cap),(4,.int .i64 ((([]:List Value).length+1:Nat):Int))],⟨⟨_,_,rfl,rfl,rfl⟩,⟨_,_,rfl,rfl,rfl⟩,⟨_,_,rfl,congrArg (λz=>Value.int .i64 z) (aB (i:=([]:List Value).length) ab),rfl⟩,trivial⟩,([]:List Value).length+1,.slice (some ⟨cf 62,0,none⟩) 1 cap,[Value.slice Kc us.length Kd],by omega,rfl,rfl,hB',Ab,by simp,?_⟩
   refine uL (vs:=([]:List Value)) (l:=ts) (P:=λu t=>rE kk w' u t) (λi u t hi ht'=>((htab i u t hi ht').bq (uc.aA kV)).kp qY rfl rfl) ht (rE.kp ⟨us,(hrv.mono (Nat.zero_le _)).bq dv kV,by omega,λi u r hi hr=>(hus i u r hi hr).bq (fD kk) kV⟩ qY rfl rfl)
  ·have hBc1:=Ha.bq (uc.aA kV)
   have hgb:g≠b0:=λh=>by have:=Ha.lt;omega
   have Fs:pJ Kb 64 [g,b0] [(130,[.val (.slice Kc us.length Kd)]),(130,vsB.flatten.map .val++spB.map .val)] oy:=by
    refine⟨rfl,by simp[hgb],λj g' c' hj hc=> ?_,λc' hc=> ?_,λc' hc k hk=> ?_⟩
    ·match j,hj,hc with
     | 0,hj,hc=>cases hj;cases hc;exact FN
     | 1,hj,hc=>cases hj;cases hc;rw[<-List.map_append,aW];exact hBc1
     | j+2,hj,_=>simp at hj
    ·rcases List.mem_cons.1 hc with rfl|hc
     ·exact⟨rfl,rfl⟩
     ·cases List.mem_singleton.1 hc
      exact⟨rfl,by rw[<-List.map_append];exact cU (by rw[List.all_append,(MW.ok dv).1,MX];rfl)⟩
    ·rcases List.mem_cons.1 hc with rfl|hc
     ·cases hk
     ·cases List.mem_singleton.1 hc
      rw[<-List.map_append,af] at hk;cases hk
   have hNB:bU VE 1 oy vs.length cB vsB (spB.map .val) vs:=⟨rfl,MW.kp dv (Kp.of (U:=UU) (uc.aA kV)),cU MX,af _,hBle,hBcm,by rw[<-List.map_append,List.length_map];exact hBfl⟩
   refine⟨[g,b0],[(130,[.val (.slice Kc us.length Kd)]),(130,vsB.flatten.map .val++spB.map .val)],Fs,[(0,.val (.slice (some ⟨bT,oY,none⟩) T c)),(3,.row 129 0 vs.length cB),(4,.val (.int .i64 (vs.length:Int))),(5,.box 128 0)],⟨⟨_,rfl,rfl,λi hi=>(by cases hi)⟩,⟨_,rfl,rfl,λi hi=>by rw[(by simpa [AV.ids] using hi:i=129)];exact⟨(by show 128<=129;omega),(by show 129<2*64+2;omega)⟩⟩,⟨_,rfl,rfl,λi hi=>(by cases hi)⟩,⟨_,rfl,rfl,λi hi=>by rw[(by simpa [AV.ids] using hi:i=128)];exact⟨(by show 128<=128;omega),(by show 128<2*64+2;omega)⟩⟩,trivial⟩,?_⟩
   refine GZ ?_
   refine VO.nb (FL _ _) dv (t:=64) (e:=130) (s:=61) (i:=129) (n:=vs.length) (c:=cB) (vs:=vsB) (sp:=spB.map .val) (es:=vs) (a:=.slice Kc us.length Kd) (cs:=[.slice Kc us.length Kd]) rfl rfl rfl rfl rfl rfl rfl rfl (bl rfl) rfl (.inl rfl) rfl (hNB.kp dv (aV.iD (show aV Kb oy _ from bg))) rfl ⟨rfl,_,_,_,rfl⟩ ab (λAl cap sp ρ k13 b13 eV jv=>wV rfl ?_)
   refine GZ ?_
   refine VS.GS rfl (T-(vs.length+1)) ab (λw' cf k' o' en'=> ?_)
   have qY:aV Kb oy w':=(show aV Kb oy Al from bg).aA k'
   have hB':aw w w':=uA.bq (hBW.aA (uc.aA kV)) o'.1 (λx hx=>by
    rcases List.mem_cons.1 hx with rfl|hx
    ·omega
    ·rw[List.mem_singleton.1 hx];omega)
   have hst:ew VE 1 130 62 (.row 62 0 (vs.length+1) cap) [(62,(130,_))] Al (vs++[.slice Kc us.length Kd]):=.inr ⟨_,cap,_,sp,rfl,rfl,jv⟩
   have Ab:=hst.told dv en' (λx hx=>by cases List.mem_singleton.1 hx;rfl) k'.iD w.heap.size (λh=>(ft (show gK 64 [g,b0] oy 62 (cf 62) from h)).elim (λq=>Nat.le_trans hWs0 (Nat.le_trans hWs (Nat.le_trans MV q))) (λq=>by
    rcases List.mem_cons.1 q with h|h
    ·rw[h];omega
    ·rw[List.mem_singleton.1 h];omega))
   refine⟨[(0,.slice (some ⟨bT,oY,none⟩) T c),(3,.slice (some ⟨cf 62,0,none⟩) (vs.length+1) cap),(4,.int .i64 ((vs.length+1:Nat):Int))],⟨⟨_,_,rfl,rfl,rfl⟩,⟨_,_,rfl,rfl,rfl⟩,⟨_,_,rfl,congrArg (λz=>Value.int .i64 z) (aB (i:=vs.length) ab),rfl⟩,trivial⟩,vs.length+1,.slice (some ⟨cf 62,0,none⟩) (vs.length+1) cap,vs++[Value.slice Kc us.length Kd],by omega,rfl,rfl,hB',Ab,by simp,?_⟩
   refine uL (vs:=vs) (l:=ts) (P:=λu t=>rE kk w' u t) (λi u t hi ht'=>((htab i u t hi ht').bq (uc.aA kV)).kp qY rfl rfl) ht (rE.kp ⟨us,(hrv.mono (Nat.zero_le _)).bq dv kV,by omega,λi u r hi hr=>(hus i u r hi hr).bq (fD kk) kV⟩ qY rfl rfl)
 ·refine VS.aK rfl (decide_eq_false (λe=>hyT (Int.ofNat_lt.1 e))) ?_
  obtain rfl:y=T:=by omega
  refine aa ?_
  refine au ?_;intro wz kz bz
  exact⟨_,rfl,xh.kp (T:=λ_=>true) ⟨vs,hout.mono (Nat.zero_le _),by omega,htab⟩ (aV.of bz) rfl rfl rfl,hBW.aA bz⟩
set_option maxRecDepth 4000
abbrev Hb (P:Program) (w:World) (N:Nat):Cx:={ P:=P,w0:=w,N:=N,K:=⟨UU,λ_=>True,λt=>(Nat.beq t 55 || (Nat.beq t 131 || (Nat.beq t 130 || (Nat.beq t 127 || (Nat.beq t 49 || (Nat.beq t 59 || (Nat.beq t 26 || Nat.beq t 66)))))))⟩,SU:=λt=>Nat.beq t 30,ti:=table,keep:=λ_ _=>trivial }
theorem FO (w:World) (N:Nat):(Hb Tryz.prog w N).Ok:=jb
section
variable {F F':Fr} {H H':Hp} {w w1:World} {N:Nat} {l':List Oper} {Q:Exit->Act->World->Prop} {k:List It} {id:Nat} {ops:Array Oper}
theorem cxZ_r (e:kO (Hb Tryz.prog w1 N) ops 80 ops.toList F H=(l',F',H')) (h:ao (Hb Tryz.prog w1 N) none ops l' (VS (Hb Tryz.prog w1 N) Q k) F' H' w):VS (Hb Tryz.prog w1 N) Q (.code (.region id ops false)::k) F H w:=VS.region (FO _ _) (VO.run 80 e h)
end
theorem pL {P Q:Prop} (h:Q) (i:Q->P:=by intro h;(repeat first|refine wN ?_|refine wP rfl ?_|refine cxZ_r rfl ?_|refine cxZ_d rfl ?_|refine wO rfl rfl ?_);exact h):P:=i h
theorem xj {P Q X:Prop} (hb:X) (h:Q) (i:X->Q->P:=by intro hb h;refine⟨_,rfl,hb,λa b c=>wV rfl ?_⟩;refine pL ?_;revert a b c;exact h):P:=i hb h
set_option maxRecDepth 4000 in
theorem xk (u v:Value) (e:Int) (cs:List fE) (ts:List (List (List Rat))) (kk:Nat) (w:World) (hu:bM (fC kk) 6 w u cs) (hv:bM (jW kk) 1 w v ts):
  Calls Tryz.prog 4 #[u,.int .i64 e,v] w λo w'=>o=.returned (.bool true)/\aw w w':=by
 obtain⟨p,c,rfl⟩:=hu.sl
 obtain⟨p2,c2,rfl⟩:=hv.sl
 obtain⟨N,hN⟩:∃ N,N=cs.length:=⟨_,rfl⟩
 obtain⟨T,hT⟩:∃ T,T=ts.length:=⟨_,rfl⟩
 rw[<-hN] at hu
 rw[<-hT] at hv
 rw[<-hN,<-hT]
 refine ae (C:=Hb Tryz.prog w _) (args:=[_,_,_]) Tryz.func4 rfl Tryz.ntmps4 (bl rfl) ?_
 refine pL ?_
 refine VO.call rfl rfl (fk Tryz.func8) (λaC aY aH=>(FJ _ _ cs ts kk w aC hu hv aH).mono ?_)
 rintro o w1 ⟨b1,rfl,hfew,aD⟩
 cases b1 with
 | false=>
   refine xj aD ?_
   intro bQ _ bb1
   refine VO.cB rfl rfl (fk Tryz.func9) (λaN bD bf=>oq aN) (λaN bD bf w2 aQ cL _ bb2=>wV rfl ?_)
   refine pL ?_
   refine VS.ret (FO _ _) rfl rfl (λwz kz bz=> ?_)
   exact⟨rfl,bz⟩
 | true=>
   refine⟨_,rfl,aD,λbQ _ bb1=>wV rfl ?_⟩
   obtain⟨hu4,hvB,h12,hT6⟩:=hfew rfl
   obtain⟨hv4,hlen⟩:=MU hvB
   rw[<-hN] at h12
   rw[<-hT] at hT6
   have hTN:ts.length*cs.length<=128\/40<ts.length:=by
    rw[<-hN,<-hT]
    rcases hT6 with h|h
    ·exact .inl (Nat.le_trans (Nat.mul_le_mul h h12) ab)
    ·exact .inr h.1
   refine pL ?_
   by_cases h100:e>100
   ·refine VS.aJ rfl (decide_eq_true h100) ?_
    refine pL ?_
    refine VO.cB rfl rfl (fk Tryz.func9) (λaN bD bf=>oq aN) (λaN bD bf w2 aQ cL _ bb2=>wV rfl ?_)
    refine pL ?_
    refine VS.ret (FO _ _) rfl rfl (λwz kz bz=> ?_)
    exact⟨rfl,bz⟩
   refine VS.aK rfl (decide_eq_false h100) ?_
   refine pL ?_
   refine VO.call rfl rfl (fk Tryz.func19) (λaN bD bf=>(xN _ cs 4 aN (hu4.bq (dU 4) bf) ab ab).mono ?_)
   rintro e w2 ⟨r2,rfl,q2,aQ⟩
   obtain⟨pc,cc,rfl⟩:=q2.form
   refine xj aQ ?_
   intro cL _ bb2
   refine VO.call rfl rfl (fk Tryz.func20) (λcu cM cX=>(FM _ ts 4 cu (hv4.oV (pK 4) cX) ab hlen ab).mono ?_)
   rintro e w3 ⟨r3,rfl,q3,ck⟩
   obtain⟨pt,ct,rfl⟩:=q3.tabs.sl
   refine xj ck ?_
   intro dR _ bb3
   refine VO.call rfl rfl (fk Tryz.func10) (λdJ eu eO=>(AD _ _ e cs ts 4 dJ (hu4.bq (dU 4) eO) (hv4.oV (pK 4) eO) ab ab hTN).mono ?_)
   rintro o w4 ⟨r4,rfl,q4,fe⟩
   obtain⟨pa,ca,rfl⟩:=q4.form
   refine xj fe ?_
   intro ir _ nu
   have nr:∀ w',aV (Hb Tryz.prog w 97).K w2 w'->bM (fC 4) 6 w' (.slice pc cs.length cc) cs:=λw' k=>(q2.kp (dU 4) k rfl).sl (dU 4)
   have htb:∀ w',aV (Hb Tryz.prog w 97).K w3 w'->bM (jW 4) 1 w' (.slice pt ts.length ct) ts:=λw' k=>(q3.kp k rfl rfl rfl).tabs
   refine VO.call rfl rfl (fk Tryz.func21) (λfI fY im=>(zt _ _ e cs ts 4 fI (nr fI bg) (htb fI bg) ab ab ab hTN).mono ?_)
   rintro o w5 ⟨r5,rfl,q5,il⟩
   obtain⟨px,cx',rfl⟩:=q5.form
   refine xj il ?_
   intro lG _ tW
   refine VO.call rfl rfl (fk Tryz.func22) (λni nv rI=>(MS _ _ e cs ts 4 ni (hu4.bq (dU 4) rI) (hv4.oV (pK 4) rI) ab ab ab hTN ab).mono ?_)
   rintro o w6 ⟨r6,rfl,⟨vb,q6,LQ,hf6⟩,pw⟩
   obtain⟨pb,cb,rfl⟩:=q6.form
   refine xj pw ?_
   intro rJ _ AO
   refine VO.call rfl rfl (fk Tryz.func23) (λuH xq vS=>(MT _ _ e cs ts 4 uH (nr uH bg) (htb uH bg) ab ab ab hTN ab).mono ?_)
   rintro o w7 ⟨r7,rfl,⟨vy,q7,hl7,hf7⟩,DB⟩
   obtain⟨py,cy,rfl⟩:=q7.form
   refine xj DB ?_
   intro CA _ bb7
   refine VO.fix 62 rfl (congrArg (λb=>AV.val (.bool b)) (wm rfl)) ?_
   refine pL ?_
   refine VO.fix 67 rfl (congrArg (λb=>AV.val (.bool b)) (wm rfl)) ?_
   refine pL ?_
   refine VO.cB rfl rfl (fk Tryz.func24) (λEN ka8 ba8=>xd _ _ (bn cs e ts) AK AK EN ((q4.kp (bh AK) (show aV (Hb Tryz.prog w 97).K w4 EN from bg) rfl).sl (bh AK)) ((q5.kp (bh AK) (show aV (Hb Tryz.prog w 97).K w5 EN from bg) rfl).sl (bh AK))) (λEN ka8 ba8 w8 Gd DC _ bb8=>wV rfl ?_)
   refine pL ?_
   refine VS.aK rfl (wm (show (vb.length:Int)=(vy.length:Int) by rw[LQ,hl7])) ?_
   obtain⟨Z,hZ⟩:∃ Z,Z=vb.length:=⟨_,rfl⟩
   have hZy:vy.length=Z:=by rw[hZ,LQ,hl7]
   rw[<-hZ]
   rw[hZy]
   refine VS.MB (λw=>aM Tryz.prog w 97) (λ_=>rfl) (λ_=>rfl) (λ_=>aw.refl _) (λw9 β k9 b9 en=> ?_)
   have hb9:aw w w9:=b9
   have qb:bM VE 1 w9 (.slice pb Z cb) vb:=hZ▸(q6.kp dv (show aV (Hb Tryz.prog w 97).K w6 w9 from bg) rfl).sl dv
   have qy:bM VE 1 w9 (.slice py Z cy) vy:=hZy▸(q7.kp dv (show aV (Hb Tryz.prog w 97).K w7 w9 from bg) rfl).sl dv
   have gb:∀ (i:Nat) (x:Value),vb[i]? =some x->bM (eG AK) 28 w9 x (bn cs (i:Int) ts):=λi x hi=>((hf6 i x hi).kp (bh AK) (show aV (Hb Tryz.prog w 97).K w6 w9 from bg) rfl).sl (bh AK)
   have gy:∀ (i:Nat) (x:Value),vy[i]? =some x->bM (eG AK) 28 w9 x (bn cs (i:Int) ts):=λi x hi=>((hf7 i x hi).kp (bh AK) (show aV (Hb Tryz.prog w 97).K w7 w9 from bg) rfl).sl (bh AK)
   refine⟨[(13,.val (.slice pb Z cb)),(15,.val (.slice py Z cy))],⟨⟨_,_,rfl,rfl,rfl⟩,⟨_,_,rfl,rfl,rfl⟩,trivial⟩,?_⟩
   have hZm:Z<=9223372036854775807:=by
    obtain⟨_,_,_,g1,g2⟩:=qb.form
    omega
   clear hf6 hf7 q2 q3 q4 q5 q6 q7 nr htb hu hv hu4 hv4 hvB
   refine aa ?_
   refine VS.loop (J:=λm L M w'=>∃ z:Nat,z<=Z/\m=Z-z/\L=[(13,.val (.slice pb Z cb)),(15,.val (.slice py Z cy)),(17,.val (.int .i64 (z:Int)))]/\M=[]) Z ⟨_,_,?_,?_,?_,?_,⟨0,by omega,rfl,rfl,rfl⟩⟩ ?_
   ·exact cW
   ·exact cW
   ·rfl
   ·exact fR
   rintro m L M wL ⟨z,hz,rfl,rfl,rfl⟩
   refine aa ?_
   by_cases hlt:z<Z
   ·obtain⟨x,hx⟩:∃ x,vb[z]? =some x:=⟨_,List.getElem?_eq_getElem ab⟩
    obtain⟨y,hy⟩:∃ x,vy[z]? =some x:=⟨_,List.getElem?_eq_getElem ab⟩
    obtain⟨b0,off0,cs0,rfl,hc0,rfl,p0,n0,c0,rfl⟩:=qb.at hx
    obtain⟨b3,off3,cs3,rfl,hc3,rfl,p3,n3,c3,rfl⟩:=qy.at hy
    refine VS.aJ rfl (decide_eq_true (Int.ofNat_lt.2 hlt)) ?_
    refine aa ?_
    refine VO.cond rfl dz ?_
    refine wV rfl ?_
    refine aa ?_
    refine VO.read rfl [.slice p0 n0 c0] rfl (cS hc0) (wV rfl ?_)
    refine aa ?_
    refine VO.cond rfl dz ?_
    refine wV rfl ?_
    refine aa ?_
    refine VO.read rfl [.slice p3 n3 c3] rfl (cS hc3) (wV rfl ?_)
    refine aa ?_
    refine VO.cB rfl rfl (fk Tryz.func24) (λlI oQ sH=>xd _ _ (bn cs (z:Int) ts) AK AK lI ((gb z _ hx).bq (bh AK) sH) ((gy z _ hy).bq (bh AK) sH)) (λlI oQ sH w10 rj iq _ CB=>wV rfl ?_)
    refine aa ?_
    refine VS.back (Z-(z+1)) ab ⟨_,_,?_,?_,?_,?_,⟨z+1,by omega,rfl,rfl,rfl⟩⟩
    ·refine⟨rfl,rfl,?_,trivial⟩
     rw[<-aB (i:=z) ab];rfl
    ·exact cW
    ·rfl
    ·exact fR
   ·refine VS.aK rfl (decide_eq_false (λe=>hlt (Int.ofNat_lt.1 e))) ?_
    refine aa ?_
    refine VO.cB rfl rfl (fk Tryz.func9) (λjZ oc rk=>oq jZ) (λjZ oc rk w11 tY kc _ CC=>wV rfl ?_)
    refine aa ?_
    refine au ?_;intro wz kz bz
    exact⟨rfl,hb9.aA bz⟩
end Go.Proofs.YtlfdmhfhkgpmbaaGreat
