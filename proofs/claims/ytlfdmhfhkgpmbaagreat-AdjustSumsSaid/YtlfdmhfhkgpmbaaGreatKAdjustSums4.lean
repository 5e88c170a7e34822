/-Dz of the proof,laid behind one another. -/
import Derived.Test.YtlfdmhfhkgpmbaaGreatKAdjustSums3
set_option linter.all false
set_option maxHeartbeats 64000000
set_option maxRecDepth 4000
namespace Go.Proofs.YtlfdmhfhkgpmbaaGreat
section
open Go.RowKit
attribute [local irreducible] ao VS
theorem fZ {w:World} {b off k:Nat} {u:Value} {z:Int} (hz:z=(k:Int)) (h:w.cell? ⟨b,off+k,none⟩=some u):∀ j v,[u][j]? =some v->w.cell? ((⟨b,off+z.toNat*1,none⟩:Addr).add j)=some v:=by
 subst hz
 intro j v hj
 rw[Addr.add_mid,Int.toNat_natCast,Nat.mul_one]
 cases j with
 | zero=>cases hj;exact h
 | succ j=>cases hj
theorem FN {i k:Nat} {os xs ys:List Nat} {x:Nat} (hx:xs[i]? =some x) (hk:ys.length<=k) (h:hval os+65536^(i+k)*0=hval (xs.take i)*hval ys+65536^i*(x*hval (ys.take k))):hval os=hval (xs.take (i+1))*hval ys:=by
 have e:hval (xs.take (i+1))=hval (xs.take i)+65536^i*x:=by
  rw[bc hx,iI,List.length_take,Nat.min_eq_left (by have:=(List.getElem?_eq_some_iff.1 hx).1;omega)]
 rw[Nat.mul_zero,Nat.add_zero,List.take_of_length_le hk] at h
 rw[e,Nat.add_mul,h,Nat.mul_assoc]
theorem CO {i k n m c:Nat} {os xs ys:List Nat} {x:Nat} (hxh:eP xs) (hyh:eP ys) (hx:xs[i]? =some x) (hn:xs.length=n) (hm:ys.length=m) (hk:m<=k) (hc:0<c) (h:hval os+65536^(i+k)*c=hval (xs.take i)*hval ys+65536^i*(x*hval (ys.take k))):i+k<n+m+1:=by
 have hi:=(List.getElem?_eq_some_iff.1 hx).1
 have e:hval (xs.take (i+1))=hval (xs.take i)+65536^i*x:=by
  rw[bc hx,iI,List.length_take,Nat.min_eq_left aa]
 have e3:ys.take k=ys:=List.take_of_length_le aa
 have e2:hval os+65536^(i+k)*c=hval (xs.take (i+1))*hval ys:=by
  rw[e,Nat.add_mul,h,e3,Nat.mul_assoc]
 have b1:hval (xs.take (i+1))<65536^(i+1):=by
  have:=pZ (xs:=xs.take (i+1)) (dc.take hxh _)
  rwa [List.length_take,Nat.min_eq_left aa] at this
 have b2:hval ys<65536^m:=by have:=pZ hyh;rwa [hm] at this
 have b3:hval (xs.take (i+1))*hval ys<65536^(i+1+m):=by
  rw[Nat.pow_add];exact Nat.mul_lt_mul'' b1 b2
 have b4:65536^(i+k)<=65536^(i+k)*c:=Nat.le_mul_of_pos_right _ hc
 have:65536^(i+k)<65536^(i+1+m):=by omega
 have:=(Nat.pow_lt_pow_iff_right (show 1<65536 by omega)).1 this
 omega
theorem CP {x y o c:Nat} (hx:x<65536) (hy:y<65536) (ho:o<65536) (hc:c<65536):x*y+o+c<4294967296:=by
 have h1:x*y<=65535*65535:=Nat.mul_le_mul aa aa
 omega
theorem dX {P:Prop} (h:P:=by (repeat first|exact trivial|refine⟨rfl,?_⟩)):P:=h
theorem fw {A B:Prop} (h:A/\B:=by constructor <;> omega):A/\B:=h
theorem sj (va vb:Value) (n m:Nat) (xs ys:List Nat) (w:World) (hr:Rd w 1 va n (ints .i64 xs)) (hs:Rd w 1 vb m (ints .i64 ys)) (hx:eP xs) (hy:eP ys) (hn:n<=2147483656) (hm:m<=2147483656):
  Calls Tryz.prog 190 #[va,vb] w λe w'=>∃ v',e=.returned v'/\dM w' w.heap.size v' (halves (hval xs*hval ys)).length (halves (hval xs*hval ys))/\ax w w':=by
 obtain⟨p,c,rfl,dk,dY,dK⟩:=hr.i64
 obtain⟨q,d,rfl,EO,BC,iD⟩:=hs.i64
 obtain⟨N,hN⟩:∃ N,N=n+m+1:=⟨_,rfl⟩
 have hwN:IntKind.i64.wrap (IntKind.i64.wrap ((n:Int)+(m:Int))+1)=(N:Int):=by
  rw[IntWalk.i64_in ((n:Int)+(m:Int)) aa,IntWalk.i64_in _ aa];omega
 refine ae (C:=aR Tryz.prog w _) (args:=[_,_]) Tryz.func190 rfl Tryz.ntmps190 (bt rfl) ?_
 refine ab ?_
 refine VO.fix 15 rfl (congrArg (λz=>AV.val (.int .i64 z)) hwN) ?_
 refine VO.cond rfl ⟨rfl,by omega,by show (N:Int)*(24*1)<=_;omega⟩ (VO.sO 16 rfl (uN _) (wV rfl ?_))
 rw[Int.toNat_natCast]
 refine ab ?_
 refine VS.loop (J:=λms L M w'=>∃ (i:Nat) (os:List Nat),i<=n/\ms=n-i/\L=[(0,.val (.slice p n c)),(1,.val (.slice q m d)),(5,.row 16 0 N N),(6,.val (.int .i64 (i:Int)))]/\M=[(16,(3,iv os))]/\
  os.length=N/\eP os/\hval os=hval (xs.take i)*hval ys) n ⟨_,_,?_,?_,?_,?_,⟨0,List.replicate N 0,by omega,by omega,rfl,rfl,by simp,dc.replicate aa _,by rw[List.take_zero];show val 65536 _=val 65536 []*_;rw[fp,val_nil,Nat.zero_mul]⟩⟩ ?_
 ·exact dX
 ·exact dX
 ·rfl
 ·exact⟨.none (bb _),trivial⟩
 rintro ms L M w' ⟨i,os,hi,rfl,rfl,rfl,hol,hoh,hov⟩
 refine ab ?_
 by_cases jg:i<n
 ·refine VS.bo rfl (decide_eq_true (Int.ofNat_lt.2 jg)) ?_
  refine ab ?_
  obtain⟨b1,o1,x,rfl,aC,ea,lO⟩:=hr.cellAt jg
  have jf:=hx.at ea
  refine VS.loop (J:=λms L M w'=>∃ (k c':Nat) (os':List Nat),ms=N-(i+k)/\L=[(0,.val (.slice (some ⟨b1,o1,none⟩) n c)),(1,.val (.slice q m d)),(5,.row 16 0 N N),(6,.val (.int .i64 (i:Int))),(7,.val (.int .i64 (c':Int))),(8,.val (.int .i64 (k:Int)))]/\M=[(16,(3,iv os'))]/\
   os'.length=N/\eP os'/\c' <65536/\k<=N/\hval os' +65536^(i+k)*c'=hval (xs.take i)*hval ys+65536^i*(x*hval (ys.take k))) (N-i) ⟨_,_,?_,?_,?_,?_,⟨0,0,os,by omega,rfl,rfl,hol,hoh,by omega,by omega,by rw[List.take_zero,Nat.mul_zero,hov];show _=_+65536^i*(x*0);simp⟩⟩ ?_
  ·exact dX
  ·exact dX
  ·rfl
  ·exact⟨.none (bb _),trivial⟩
  rintro ms L M w'' ⟨k,c',os',rfl,rfl,rfl,hol',hoh',hc',hkN,hv⟩
  refine ab ?_
  have step:∀ (hik:i+k<N),True:=λ_=>trivial
  by_cases hgo:k<m\/0<c'
  ·have hik:i+k<N:=by
    rcases Nat.lt_or_ge k m with e|e
    ·omega
    ·rw[hN];exact CO hx hy ea dK iD e aa hv
   obtain⟨o,ho⟩:∃ o,os'[i+k]? =some o:=⟨_,List.getElem?_eq_getElem aa⟩
   have ho4:=hoh'.at ho
   have EX:IntKind.i64.wrap ((i:Int)+(k:Int))=((i+k:Nat):Int):=by rw[IntWalk.i64_in _ aa];omega
   have hwk1:IntKind.i64.wrap ((k:Int)+1)=((k+1:Nat):Int):=by rw[IntWalk.i64_in _ aa];omega
   have hwoc:IntKind.i64.wrap ((o:Int)+(c':Int))=((o+c':Nat):Int):=by rw[IntWalk.i64_in _ aa];omega
   by_cases BQ:k<m
   ·obtain⟨b2,o2,y,rfl,aQ,lP,yT⟩:=hs.cellAt BQ
    have wB:=hy.at lP
    have pQ:=CP jf wB ho4 hc'
    obtain⟨s,hsd⟩:∃ s,s=x*y+o+c':=⟨_,rfl⟩
    have BD:(x:Int)*(y:Int)=((x*y:Nat):Int):=by simp
    have hws:IntKind.i64.wrap (IntKind.i64.wrap ((o:Int)+(c':Int))+IntKind.i64.wrap ((x:Int)*(y:Int)))=(s:Int):=by
     rw[hwoc,BD,IntWalk.i64_in ((x*y:Nat):Int) aa,IntWalk.i64_in _ aa];omega
    have hst:=qd ho hsd hv
    have hyt:hval (ys.take (k+1))=hval (ys.take k)+65536^k*y:=by
     rw[bc lP,iI,List.length_take,Nat.min_eq_left (by have:=(List.getElem?_eq_some_iff.1 lP).1;omega)]
    rw[<-hyt] at hst
    have hwc:IntKind.i64.wrap ((s:Int).tdiv 65536)=((s/65536:Nat):Int):=by
     rw[Int.tdiv_eq_ediv_of_nonneg aa,IntWalk.i64_in _ aa];simp
    have hwm:(s:Int).tmod 65536=((s%65536:Nat):Int):=by rw[Int.tmod_eq_emod_of_nonneg aa];simp
    refine VO.fix 27 rfl (congrArg (λb=>AV.val (.bool b)) (decide_eq_true (Int.ofNat_lt.2 BQ))) ?_
    refine ab ?_
    refine VO.fix 36 rfl (congrArg (λz=>AV.val (.int .i64 z)) EX) ?_
    refine VO.cond rfl fw (wV rfl ?_)
    refine VO.iw rfl [.val (.int .i64 (o:Int))] rfl (qe ho (by rw[Int.toNat_natCast];omega)) (wV rfl ?_)
    refine ab ?_
    refine VS.bo rfl (decide_eq_true (Int.ofNat_lt.2 BQ)) ?_
    refine ab ?_
    refine VO.cond rfl fw (wV rfl ?_)
    refine VO.read rfl [.int .i64 (x:Int)] rfl (fZ rfl lO) (wV rfl ?_)
    refine VO.cond rfl fw (wV rfl ?_)
    refine VO.read rfl [.int .i64 (y:Int)] rfl (fZ rfl yT) (wV rfl ?_)
    refine ab ?_
    refine VO.fix 59 rfl (congrArg (λz=>AV.val (.int .i64 z)) EX) ?_
    refine VO.fix 61 rfl (congrArg (λz=>AV.val (.int .i64 z)) (by rw[hws,hwm])) ?_
    refine VO.cond rfl fw (wV rfl ?_)
    refine VO.cond rfl (by show 0+((i+k:Nat):Int).toNat*1+1<=_;rw[Int.toNat_natCast,bE];omega) (wV rfl ?_)
    refine ab ?_
    refine VS.back (N-(i+(k+1))) aa ⟨_,_,?_,?_,?_,?_,⟨k+1,s/65536,os'.set (i+k) (s%65536),rfl,rfl,rfl,by simp[hol'],hoh'.set (Nat.mod_lt _ aa) _,by omega,by omega,hst⟩⟩
    ·refine⟨rfl,rfl,rfl,rfl,congrArg (λz=>some (AV.val (.int .i64 z))) (by rw[hws,hwc]),congrArg (λz=>some (AV.val (.int .i64 z))) hwk1,trivial⟩
    ·exact⟨congrArg (λl=>some (_,l)) (tu aa (by rw[Int.toNat_natCast];omega)),trivial⟩
    ·rfl
    ·exact⟨.none (bb _),trivial⟩
   ·have hc0:0<c':=by omega
    obtain⟨s,hsd⟩:∃ s,s=x*0+o+c':=⟨_,rfl⟩
    have hws:IntKind.i64.wrap ((o:Int)+(c':Int))=(s:Int):=by rw[hwoc];omega
    have hst:=qd ho hsd hv
    have hyt:hval (ys.take k)+65536^k*0=hval (ys.take (k+1)):=by rw[List.take_of_length_le aa,List.take_of_length_le aa];rfl
    rw[hyt] at hst
    have hwc:IntKind.i64.wrap ((s:Int).tdiv 65536)=((s/65536:Nat):Int):=by
     rw[Int.tdiv_eq_ediv_of_nonneg aa,IntWalk.i64_in _ aa];simp
    have hwm:(s:Int).tmod 65536=((s%65536:Nat):Int):=by rw[Int.tmod_eq_emod_of_nonneg aa];simp
    refine VO.fix 27 rfl (congrArg (λb=>AV.val (.bool b)) (decide_eq_false (λe=>BQ (Int.ofNat_lt.1 e)))) ?_
    refine ab ?_
    refine VS.bo rfl (decide_eq_true aa) ?_
    refine ab ?_
    refine VO.fix 36 rfl (congrArg (λz=>AV.val (.int .i64 z)) EX) ?_
    refine VO.cond rfl fw (wV rfl ?_)
    refine VO.iw rfl [.val (.int .i64 (o:Int))] rfl (qe ho (by rw[Int.toNat_natCast];omega)) (wV rfl ?_)
    refine ab ?_
    refine VS.bB rfl (decide_eq_false (λe=>BQ (Int.ofNat_lt.1 e))) ?_
    refine ab ?_
    refine VO.fix 59 rfl (congrArg (λz=>AV.val (.int .i64 z)) EX) ?_
    refine VO.fix 61 rfl (congrArg (λz=>AV.val (.int .i64 z)) (by rw[hws,hwm])) ?_
    refine VO.cond rfl fw (wV rfl ?_)
    refine VO.cond rfl (by show 0+((i+k:Nat):Int).toNat*1+1<=_;rw[Int.toNat_natCast,bE];omega) (wV rfl ?_)
    refine ab ?_
    refine VS.back (N-(i+(k+1))) aa ⟨_,_,?_,?_,?_,?_,⟨k+1,s/65536,os'.set (i+k) (s%65536),rfl,rfl,rfl,by simp[hol'],hoh'.set (Nat.mod_lt _ aa) _,by omega,by omega,hst⟩⟩
    ·refine⟨rfl,rfl,rfl,rfl,congrArg (λz=>some (AV.val (.int .i64 z))) (by rw[hws,hwc]),congrArg (λz=>some (AV.val (.int .i64 z))) hwk1,trivial⟩
    ·exact⟨congrArg (λl=>some (_,l)) (tu aa (by rw[Int.toNat_natCast];omega)),trivial⟩
    ·rfl
    ·exact⟨.none (bb _),trivial⟩
  ·have BQ:¬ (k<m):=by omega
   have hc0:c'=0:=by omega
   subst hc0
   refine VO.fix 27 rfl (congrArg (λb=>AV.val (.bool b)) (decide_eq_false (λe=>BQ (Int.ofNat_lt.1 e)))) ?_
   refine ab ?_
   have vZ:IntKind.i64.wrap ((i:Int)+1)=((i+1:Nat):Int):=by rw[IntWalk.i64_in _ aa];omega
   refine VS.back (n-(i+1)) aa ⟨_,_,?_,?_,?_,?_,⟨i+1,os',by omega,rfl,rfl,rfl,hol',hoh',FN ea aa hv⟩⟩
   ·exact⟨rfl,rfl,rfl,congrArg (λz=>some (AV.val (.int .i64 z))) vZ,trivial⟩
   ·exact dX
   ·rfl
   ·exact⟨.none (bb _),trivial⟩
 ·obtain rfl:i=n:=by omega
  refine VS.bB rfl (decide_eq_false (λe=>jg (Int.ofNat_lt.1 e))) ?_
  refine ab ?_
  rw[List.take_of_length_le aa] at hov
  refine VO.xg rfl (fk Tryz.func220) (λw1 β k1 b1 ho=>(fE (some ⟨β 16,0,none⟩) N N os w1 (js (spare:=[]) (by rw[List.append_nil];exact ho.own 16 (.base (List.mem_singleton.2 rfl)) _ _ rfl) hol (Nat.le_refl _) (by simp only[maxLen];omega)) hoh).mono ?_)
  rintro e w2 ⟨⟨mm,wH,rfl,hcut⟩,rfl⟩
  refine⟨.row 16 0 mm N,rfl,λi hi=>⟨hi,by cases List.mem_singleton.1 hi;exact Option.some_ne_none _⟩,ax.refl _,λk2 _ b2=>wV rfl ?_⟩
  refine ab ?_
  refine VS.oy (bQ _ _) rfl (λwz β kz bz he=> ?_)
  have qH:=tw hcut wH hol
  rw[hov] at hcut qH
  refine⟨_,rfl,?_,bz⟩
  have:=mQ (spare:=[]) (by rw[List.append_nil];exact he.own 16 _ _ rfl) hol wH (Nat.le_refl _) (by simp only[maxLen];omega) (by simpa using hol)
  rw[<-hcut] at this
  show dM wz w.heap.size (.slice (some ⟨β 16,0,none⟩) mm N) _ _
  rw[<-qH]
  exact this
set_option maxRecDepth 4000
theorem nU {A B:Nat} (h:(halves A).length<(halves B).length):A<B:=by
 rcases Nat.lt_or_ge A B with e|e
 ·exact e
 ·have:(halves B).length<=(halves A).length:=cM aa e
  omega
theorem nV {A B k a b:Nat} (ha:(halves A)[k]? =some a) (hb:(halves B)[k]? =some b) (sT:a<b) (hh:(halves A).drop (k+1)=(halves B).drop (k+1)):A<B:=by
 have:=iQ (B:=65536) (bh A) ha hb sT hh
 have e1:val 65536 (halves A)=A:=aL A
 have e2:val 65536 (halves B)=B:=aL B
 omega
theorem FO {xs ys:List Nat} {k x:Nat} (hx:xs[k]? =some x) (hy:ys[k]? =some x) (h:xs.drop (k+1)=ys.drop (k+1)):xs.drop k=ys.drop k:=by
 obtain⟨l1,e1⟩:=List.getElem?_eq_some_iff.1 hx
 obtain⟨l2,e2⟩:=List.getElem?_eq_some_iff.1 hy
 rw[List.drop_eq_getElem_cons l1,List.drop_eq_getElem_cons l2,e1,e2,h]
theorem CQ (va vb:Value) (n m A B:Nat) (w:World) (hr:Rd w 1 va n (ints .i64 (halves A))) (hs:Rd w 1 vb m (ints .i64 (halves B))):
  Calls Tryz.prog 237 #[va,vb] w λe w'=>e=.returned (.bool (decide (A<B)))/\ax w w':=by
 obtain⟨p,c,rfl,dk,dY,dK⟩:=hr.i64
 obtain⟨q,d,rfl,EO,BC,iD⟩:=hs.i64
 refine ae (C:=aR Tryz.prog w _) (args:=[_,_]) Tryz.func237 rfl Tryz.ntmps237 (bt rfl) ?_
 refine ab ?_
 by_cases hnm:n=m
 ·subst hnm
  refine VS.bB rfl cU ?_
  refine ab ?_
  have hw0:IntKind.i64.wrap ((n:Int)-1)=(n:Int)-1:=IntWalk.i64_in _ aa
  refine VS.loop (J:=λms L M w'=>∃ (k:Nat),k<=n/\ms=k/\L=[(0,.val (.slice p n c)),(1,.val (.slice q n d)),(5,.val (.int .i64 ((k:Int)-1)))]/\M=[]/\(halves A).drop k=(halves B).drop k) n ⟨_,_,?_,?_,?_,?_,⟨n,Nat.le_refl _,rfl,rfl,rfl,by rw[List.drop_of_length_le aa,List.drop_of_length_le aa]⟩⟩ ?_
  ·exact⟨rfl,rfl,congrArg (λz=>some (AV.val (.int .i64 z))) hw0,trivial⟩
  ·exact dX
  ·rfl
  ·exact trivial
  rintro ms L M w' ⟨k,hk,hms,rfl,rfl,hd⟩
  refine ab ?_
  by_cases Hv:k=0
  ·subst Hv
   refine VS.bB rfl (decide_eq_false aa) ?_
   refine ab ?_
   refine az ?_;intro wz kz bz
   have:A=B:=CH (by simpa using hd)
   exact⟨by rw[this,decide_eq_false (Nat.lt_irrefl _)];rfl,bz⟩
  ·obtain⟨j,rfl⟩:∃ j,k=j+1:=⟨k-1,by omega⟩
   have hj:((j+1:Nat):Int)-1=(j:Int):=by omega
   refine VS.bo rfl (decide_eq_true aa) ?_
   refine VS.fix 5 rfl (congrArg (λz=>AV.val (.int .i64 z)) hj) ?_
   refine ab ?_
   obtain⟨b1,o1,x,rfl,aC,ea,lO⟩:=hr.cellAt (show j<n by omega)
   obtain⟨b2,o2,y,rfl,aQ,lP,yT⟩:=hs.cellAt (show j<n by omega)
   refine VO.cond rfl fw (wV rfl ?_)
   refine VO.read rfl [.int .i64 (x:Int)] rfl (fZ rfl lO) (wV rfl ?_)
   refine VO.cond rfl fw (wV rfl ?_)
   refine VO.read rfl [.int .i64 (y:Int)] rfl (fZ rfl yT) (wV rfl ?_)
   refine ab ?_
   by_cases BD:x=y
   ·subst BD
    refine VS.bB rfl cU ?_
    refine ab ?_
    have vG:IntKind.i64.wrap ((j:Int)-1)=(j:Int)-1:=IntWalk.i64_in _ aa
    refine VS.back j aa ⟨_,_,?_,?_,?_,?_,⟨j,by omega,rfl,rfl,rfl,FO ea lP hd⟩⟩
    ·exact⟨rfl,rfl,congrArg (λz=>some (AV.val (.int .i64 z))) vG,trivial⟩
    ·exact dX
    ·rfl
    ·exact trivial
   ·refine VS.bo rfl (by rw[bne_iff_ne];omega) ?_
    refine ab ?_
    refine VO.cond rfl fw (wV rfl ?_)
    refine VO.read rfl [.int .i64 (x:Int)] rfl (fZ rfl lO) (wV rfl ?_)
    refine VO.cond rfl fw (wV rfl ?_)
    refine VO.read rfl [.int .i64 (y:Int)] rfl (fZ rfl yT) (wV rfl ?_)
    refine ab ?_
    refine az ?_;intro wz kz bz
    refine⟨?_,bz⟩
    rcases Nat.lt_or_gt_of_ne BD with e|e
    ·rw[decide_eq_true (nV ea lP e hd)]
     exact congrArg (λb=>Ending.returned (.bool b)) (decide_eq_true (Int.ofNat_lt.2 e))
    ·have:=nV lP ea e hd.symm
     have hAB:decide (A<B)=false:=decide_eq_false aa
     rw[hAB]
     exact congrArg (λb=>Ending.returned (.bool b)) (decide_eq_false aa)
 ·refine VS.bo rfl (by rw[bne_iff_ne];omega) ?_
  refine ab ?_
  refine az ?_;intro wz kz bz
  refine⟨?_,bz⟩
  rcases Nat.lt_or_gt_of_ne hnm with e|e
  ·rw[decide_eq_true (nU aa)]
   exact congrArg (λb=>Ending.returned (.bool b)) (decide_eq_true (Int.ofNat_lt.2 e))
  ·have:=nU (A:=B) (B:=A) aa
   have hAB:decide (A<B)=false:=decide_eq_false aa
   rw[hAB]
   exact congrArg (λb=>Ending.returned (.bool b)) (decide_eq_false aa)
theorem FP {ds us bs:List Nat} {i t br a b d mc:Nat} (hl:ds.length=i) (ha:us.getD i 0=a) (hb:bs.getD i 0=b) (hs:d+(t*b+br)=a+65536*mc)
  (h:hval ds+t*hval (bs.take i)=hval (us.take i)+65536^i*br):hval (ds++[d])+t*hval (bs.take (i+1))=hval (us.take (i+1))+65536^(i+1)*mc:=by
 have e1:hval (us.take (i+1))=hval (us.take i)+65536^i*a:=by rw[<-ha];exact bx _ _ _
 have e2:hval (bs.take (i+1))=hval (bs.take i)+65536^i*b:=by rw[<-hb];exact bx _ _ _
 have e3:65536^i*d+(65536^i*(t*b)+65536^i*br)=65536^i*a+65536^i*(65536*mc):=by rw[<-Nat.mul_add,<-Nat.mul_add,hs,Nat.mul_add]
 have e4:t*(65536^i*b)=65536^i*(t*b):=Nat.mul_left_comm _ _ _
 rw[iI,hl,e1,e2,Nat.mul_add t,e4,Nat.pow_succ,Nat.mul_assoc]
 omega
theorem JN {ds us bs:List Nat} {n t br:Nat} (hh:eP ds) (hl:ds.length=n) (ha:us.length=n) (hle:t*hval bs<=hval us) (hb:t=0\/bs.length<=n)
  (h:hval ds+t*hval (bs.take n)=hval (us.take n)+65536^n*br):hval ds=hval us-t*hval bs:=by
 have e1:us.take n=us:=List.take_of_length_le aa
 have e2:t*hval (bs.take n)=t*hval bs:=by
  rcases hb with e|e
  ·rw[e,Nat.zero_mul,Nat.zero_mul]
  ·rw[List.take_of_length_le e]
 rw[e1,e2] at h
 have hlt:=pZ hh
 rw[hl] at hlt
 have:br=0:=by
  rcases Nat.eq_zero_or_pos br with e|e
  ·exact e
  ·have:=Nat.le_mul_of_pos_right (65536^n) e
   omega
 rw[this,Nat.mul_zero] at h
 omega
def RowAt (d:Nat) (xs:List Nat) (v:AV) (M:List (Nat×(TypeId×List AV))):Prop:=
 (xs=[]/\v=.val (.slice none 0 0)/\M=[])\/∃ cap spare,v=.row d 0 xs.length cap/\M=[(d,(3,iv xs++spare))]/\xs.length<=cap/\cap<=9223372036854775807/\xs.length+spare.length=cap/\spare.all aE=true/\aI spare=[]
theorem uO (va vb:Value) (n m t A B:Nat) (w:World) (hr:Rd w 1 va n (ints .i64 (halves A))) (hs:Rd w 1 vb m (ints .i64 (halves B))) (ht:t<65536) (hle:t*B<=A) (hn:n<=2147483656):
  Calls Tryz.prog 228 #[va,vb,.int .i64 (t:Int)] w λe w'=>∃ v',e=.returned v'/\dM w' w.heap.size v' (halves (A-t*B)).length (halves (A-t*B))/\ax w w':=by
 obtain⟨p,c,rfl,dk,dY,dK⟩:=hr.i64
 obtain⟨q,d,rfl,EO,BC,iD⟩:=hs.i64
 refine ae (C:=aR Tryz.prog w _) (args:=[_,_,_]) Tryz.func228 rfl Tryz.ntmps228 (bt rfl) ?_
 refine ab ?_
 refine VS.loop (J:=λms L M w'=>∃ (i br:Nat) (ds:List Nat) (v:AV),i<=n/\ms=n-i/\L=[(0,.val (.slice p n c)),(1,.val (.slice q m d)),(2,.val (.int .i64 (t:Int))),(7,v),(8,.val (.int .i64 (br:Int))),(9,.val (.int .i64 (i:Int)))]/\
  RowAt 47 ds v M/\ds.length=i/\eP ds/\br<=t/\hval ds+t*hval ((halves B).take i)=hval ((halves A).take i)+65536^i*br) n ⟨_,_,?_,?_,?_,?_,⟨0,0,[],.val (.slice none 0 0),by omega,by omega,rfl,.inl ⟨rfl,rfl,rfl⟩,rfl,dc.nil _,by omega,by simp[hval,val]⟩⟩ ?_
 ·exact dX
 ·exact dX
 ·rfl
 ·exact trivial
 rintro ms L M w' ⟨i,br,ds,v,hi,rfl,rfl,lX,sL,hdh,hbr,hv⟩
 by_cases jg:i<n
 ·obtain⟨b1,o1,x,rfl,aC,ea,lO⟩:=hr.cellAt jg
  have jf:=(bh A).at ea
  have hxg:(halves A).getD i 0=x:=by rw[List.getD_eq_getElem?_getD,ea];rfl
  obtain⟨y,hyg⟩:∃ y,(halves B).getD i 0=y:=⟨_,rfl⟩
  have wB:y<65536:=hyg▸iJ (bh B) i
  have hty:t*y<=65535*65535:=Nat.mul_le_mul aa aa
  obtain⟨X,hX⟩:∃ X:Int,X=(x:Int)-br-(t*y:Nat):=⟨_,rfl⟩
  obtain⟨mc,lh⟩:∃ mc:Nat,(mc:Int)=(if X<0 then (65535-X)/65536 else 0)/\mc<=t:=by
   by_cases h0:X<0
   ·refine⟨((65535-X)/65536).toNat,by rw[if_pos h0];omega,?_⟩
    have:t*y<=t*65535:=Nat.mul_le_mul_left _ aa
    omega
   ·exact⟨0,by rw[if_neg h0];rfl,by omega⟩
  obtain⟨dg,HF⟩:∃ dg:Nat,(dg:Int)=X+65536*mc/\dg<65536:=by
   refine⟨(X+65536*mc).toNat,?_,?_⟩
   ·by_cases h0:X<0
    ·rw[if_pos h0] at lh;omega
    ·omega
   ·by_cases h0:X<0
    ·rw[if_pos h0] at lh;omega
    ·rw[if_neg h0] at lh;omega
  have hsum:dg+(t*y+br)=x+65536*mc:=by omega
  have hst:=FP sL hxg hyg hsum hv
  have vG:IntKind.i64.wrap ((x:Int)-(br:Int))=(x:Int)-br:=IntWalk.i64_in _ aa
  have vZ:IntKind.i64.wrap ((i:Int)+1)=((i+1:Nat):Int):=by rw[IntWalk.i64_in _ aa];omega
  have vT:t*y<=t*65535:=Nat.mul_le_mul_left _ aa
  rcases lX with ⟨rfl,rfl,rfl⟩|⟨cap,spare,rfl,rfl,h1,h2,h3,h4,h5⟩
  all_goals refine ab ?_
  ·by_cases him:i<m
   ·obtain⟨b2,o2,y',rfl,aQ,lP,yT⟩:=hs.cellAt him
    obtain rfl:y'=y:=by rw[List.getD_eq_getElem?_getD,lP] at hyg;exact hyg
    have hwX:IntKind.i64.wrap (IntKind.i64.wrap ((x:Int)-(br:Int))-IntKind.i64.wrap ((t:Int)*(y':Int)))=X:=by
     rw[vG,show (t:Int)*(y':Int)=((t*y':Nat):Int) by simp,IntWalk.i64_in ((t*y':Nat):Int) aa,IntWalk.i64_in _ aa];omega
    refine VS.bo rfl (decide_eq_true (Int.ofNat_lt.2 jg)) ?_
    refine ab ?_
    refine VO.cond rfl fw (wV rfl ?_)
    refine VO.read rfl [.int .i64 (x:Int)] rfl (fZ rfl lO) (wV rfl ?_)
    refine ab ?_
    refine VS.bo rfl (decide_eq_true (Int.ofNat_lt.2 him)) ?_
    refine ab ?_
    refine VO.cond rfl fw (wV rfl ?_)
    refine VO.read rfl [.int .i64 (y':Int)] rfl (fZ rfl yT) (wV rfl ?_)
    refine VO.fix 10 rfl (congrArg (λz=>AV.val (.int .i64 z)) hwX) ?_
    refine ab ?_
    by_cases h0:X<0
    ·rw[if_pos h0] at lh
     have JO:IntKind.i64.wrap ((IntKind.i64.wrap (65535-X)).tdiv 65536)=(mc:Int):=by
      rw[IntWalk.i64_in (65535-X) aa,Int.tdiv_eq_ediv_of_nonneg aa,IntWalk.i64_in _ aa,lh.1]
     have hwd:IntKind.i64.wrap (X+IntKind.i64.wrap (65536*(mc:Int)))=(dg:Int):=by
      rw[IntWalk.i64_in (65536*(mc:Int)) aa,IntWalk.i64_in _ aa,HF.1]
     refine VS.bo rfl (decide_eq_true h0) ?_
     refine ab ?_
     ·refine VO.sO 46 rfl (congrArg (λz=>[AV.val (.int .i64 z)]) (show _=(dg:Int) by rw[JO,hwd])) ?_
      refine VO.app (bQ _ _) (t:=272) (e:=3) (sz:=1) (n:=0) (c:=0) (mm:=1) (known:=[]) (spare:=[]) (news:=iv [dg]) (dst:=47) (del:=none) rfl rfl rfl rfl rfl rfl rfl rfl (bt rfl) rfl (.inl ⟨rfl,rfl,rfl,rfl,rfl,rfl,by omega⟩) (.inl rfl) rfl rfl aa aa ⟨rfl,rfl,bb _⟩ ⟨rfl,rfl,ke _⟩ rfl aa
       (λw1 β k1 b1 ho=>⟨_,_,rfl,.inr ⟨β 46,0,rfl,eQ (rest:=[]) (ho.own 46 (.base (List.mem_append_right _ (List.mem_singleton.2 rfl))) _ _ rfl) rfl⟩⟩)
       (λw2 cap' aG ρ k2 b2 eH nw oJ hlen ig eX=>wV rfl ?_)
      refine ab ?_
      refine VS.back (n-(i+1)) aa ⟨_,_,?_,?_,?_,?_,⟨i+1,mc,[dg],.row 47 0 ([dg]).length cap',by omega,rfl,rfl,.inr ⟨cap',aG,rfl,rfl,by simp;omega,oJ,?_,ig,eX⟩,by simp at sL ⊢;omega,dc.cons HF.2 (dc.nil _),lh.2,hst⟩⟩
      ·exact⟨rfl,rfl,rfl,rfl,congrArg (λz=>some (AV.val (.int .i64 z))) JO,congrArg (λz=>some (AV.val (.int .i64 z))) vZ,trivial⟩
      ·exact⟨rfl,trivial⟩
      ·rfl
      ·exact⟨.append (.none (bb _)) (.none eX),trivial⟩
      ·simpa [bE,Nat.add_assoc] using hlen
    ·rw[if_neg h0] at lh
     have jR:mc=0:=by omega
     subst jR
     refine VS.bB rfl (decide_eq_false h0) ?_
     refine ab ?_
     ·refine VO.sO 46 rfl (congrArg (λz=>[AV.val (.int .i64 z)]) (show X=(dg:Int) by omega)) ?_
      refine VO.app (bQ _ _) (t:=272) (e:=3) (sz:=1) (n:=0) (c:=0) (mm:=1) (known:=[]) (spare:=[]) (news:=iv [dg]) (dst:=47) (del:=none) rfl rfl rfl rfl rfl rfl rfl rfl (bt rfl) rfl (.inl ⟨rfl,rfl,rfl,rfl,rfl,rfl,by omega⟩) (.inl rfl) rfl rfl aa aa ⟨rfl,rfl,bb _⟩ ⟨rfl,rfl,ke _⟩ rfl aa
       (λw1 β k1 b1 ho=>⟨_,_,rfl,.inr ⟨β 46,0,rfl,eQ (rest:=[]) (ho.own 46 (.base (List.mem_append_right _ (List.mem_singleton.2 rfl))) _ _ rfl) rfl⟩⟩)
       (λw2 cap' aG ρ k2 b2 eH nw oJ hlen ig eX=>wV rfl ?_)
      refine ab ?_
      refine VS.back (n-(i+1)) aa ⟨_,_,?_,?_,?_,?_,⟨i+1,0,[dg],.row 47 0 ([dg]).length cap',by omega,rfl,rfl,.inr ⟨cap',aG,rfl,rfl,by simp;omega,oJ,?_,ig,eX⟩,by simp at sL ⊢;omega,dc.cons HF.2 (dc.nil _),Nat.zero_le _,hst⟩⟩
      ·exact⟨rfl,rfl,rfl,rfl,rfl,congrArg (λz=>some (AV.val (.int .i64 z))) vZ,trivial⟩
      ·exact⟨rfl,trivial⟩
      ·rfl
      ·exact⟨.append (.none (bb _)) (.none eX),trivial⟩
      ·simpa [bE,Nat.add_assoc] using hlen
   ·have HW:y=0:=by rw[fC aa] at hyg;omega
    have hwX:IntKind.i64.wrap ((x:Int)-(br:Int))=X:=by rw[vG,hX,HW,Nat.mul_zero];omega
    refine VS.bo rfl (decide_eq_true (Int.ofNat_lt.2 jg)) ?_
    refine ab ?_
    refine VO.cond rfl fw (wV rfl ?_)
    refine VO.read rfl [.int .i64 (x:Int)] rfl (fZ rfl lO) (wV rfl ?_)
    refine VO.fix 10 rfl (congrArg (λz=>AV.val (.int .i64 z)) hwX) ?_
    refine ab ?_
    refine VS.bB rfl (decide_eq_false (λe=>him (Int.ofNat_lt.1 e))) ?_
    refine ab ?_
    by_cases h0:X<0
    ·rw[if_pos h0] at lh
     have JO:IntKind.i64.wrap ((IntKind.i64.wrap (65535-X)).tdiv 65536)=(mc:Int):=by
      rw[IntWalk.i64_in (65535-X) aa,Int.tdiv_eq_ediv_of_nonneg aa,IntWalk.i64_in _ aa,lh.1]
     have hwd:IntKind.i64.wrap (X+IntKind.i64.wrap (65536*(mc:Int)))=(dg:Int):=by
      rw[IntWalk.i64_in (65536*(mc:Int)) aa,IntWalk.i64_in _ aa,HF.1]
     refine VS.bo rfl (decide_eq_true h0) ?_
     refine ab ?_
     ·refine VO.sO 46 rfl (congrArg (λz=>[AV.val (.int .i64 z)]) (show _=(dg:Int) by rw[JO,hwd])) ?_
      refine VO.app (bQ _ _) (t:=272) (e:=3) (sz:=1) (n:=0) (c:=0) (mm:=1) (known:=[]) (spare:=[]) (news:=iv [dg]) (dst:=47) (del:=none) rfl rfl rfl rfl rfl rfl rfl rfl (bt rfl) rfl (.inl ⟨rfl,rfl,rfl,rfl,rfl,rfl,by omega⟩) (.inl rfl) rfl rfl aa aa ⟨rfl,rfl,bb _⟩ ⟨rfl,rfl,ke _⟩ rfl aa
       (λw1 β k1 b1 ho=>⟨_,_,rfl,.inr ⟨β 46,0,rfl,eQ (rest:=[]) (ho.own 46 (.base (List.mem_append_right _ (List.mem_singleton.2 rfl))) _ _ rfl) rfl⟩⟩)
       (λw2 cap' aG ρ k2 b2 eH nw oJ hlen ig eX=>wV rfl ?_)
      refine ab ?_
      refine VS.back (n-(i+1)) aa ⟨_,_,?_,?_,?_,?_,⟨i+1,mc,[dg],.row 47 0 ([dg]).length cap',by omega,rfl,rfl,.inr ⟨cap',aG,rfl,rfl,by simp;omega,oJ,?_,ig,eX⟩,by simp at sL ⊢;omega,dc.cons HF.2 (dc.nil _),lh.2,hst⟩⟩
      ·exact⟨rfl,rfl,rfl,rfl,congrArg (λz=>some (AV.val (.int .i64 z))) JO,congrArg (λz=>some (AV.val (.int .i64 z))) vZ,trivial⟩
      ·exact⟨rfl,trivial⟩
      ·rfl
      ·exact⟨.append (.none (bb _)) (.none eX),trivial⟩
      ·simpa [bE,Nat.add_assoc] using hlen
    ·rw[if_neg h0] at lh
     have jR:mc=0:=by omega
     subst jR
     refine VS.bB rfl (decide_eq_false h0) ?_
     refine ab ?_
     ·refine VO.sO 46 rfl (congrArg (λz=>[AV.val (.int .i64 z)]) (show X=(dg:Int) by omega)) ?_
      refine VO.app (bQ _ _) (t:=272) (e:=3) (sz:=1) (n:=0) (c:=0) (mm:=1) (known:=[]) (spare:=[]) (news:=iv [dg]) (dst:=47) (del:=none) rfl rfl rfl rfl rfl rfl rfl rfl (bt rfl) rfl (.inl ⟨rfl,rfl,rfl,rfl,rfl,rfl,by omega⟩) (.inl rfl) rfl rfl aa aa ⟨rfl,rfl,bb _⟩ ⟨rfl,rfl,ke _⟩ rfl aa
       (λw1 β k1 b1 ho=>⟨_,_,rfl,.inr ⟨β 46,0,rfl,eQ (rest:=[]) (ho.own 46 (.base (List.mem_append_right _ (List.mem_singleton.2 rfl))) _ _ rfl) rfl⟩⟩)
       (λw2 cap' aG ρ k2 b2 eH nw oJ hlen ig eX=>wV rfl ?_)
      refine ab ?_
      refine VS.back (n-(i+1)) aa ⟨_,_,?_,?_,?_,?_,⟨i+1,0,[dg],.row 47 0 ([dg]).length cap',by omega,rfl,rfl,.inr ⟨cap',aG,rfl,rfl,by simp;omega,oJ,?_,ig,eX⟩,by simp at sL ⊢;omega,dc.cons HF.2 (dc.nil _),Nat.zero_le _,hst⟩⟩
      ·exact⟨rfl,rfl,rfl,rfl,rfl,congrArg (λz=>some (AV.val (.int .i64 z))) vZ,trivial⟩
      ·exact⟨rfl,trivial⟩
      ·rfl
      ·exact⟨.append (.none (bb _)) (.none eX),trivial⟩
      ·simpa [bE,Nat.add_assoc] using hlen
  ·by_cases him:i<m
   ·obtain⟨b2,o2,y',rfl,aQ,lP,yT⟩:=hs.cellAt him
    obtain rfl:y'=y:=by rw[List.getD_eq_getElem?_getD,lP] at hyg;exact hyg
    have hwX:IntKind.i64.wrap (IntKind.i64.wrap ((x:Int)-(br:Int))-IntKind.i64.wrap ((t:Int)*(y':Int)))=X:=by
     rw[vG,show (t:Int)*(y':Int)=((t*y':Nat):Int) by simp,IntWalk.i64_in ((t*y':Nat):Int) aa,IntWalk.i64_in _ aa];omega
    refine VS.bo rfl (decide_eq_true (Int.ofNat_lt.2 jg)) ?_
    refine ab ?_
    refine VO.cond rfl fw (wV rfl ?_)
    refine VO.read rfl [.int .i64 (x:Int)] rfl (fZ rfl lO) (wV rfl ?_)
    refine ab ?_
    refine VS.bo rfl (decide_eq_true (Int.ofNat_lt.2 him)) ?_
    refine ab ?_
    refine VO.cond rfl fw (wV rfl ?_)
    refine VO.read rfl [.int .i64 (y':Int)] rfl (fZ rfl yT) (wV rfl ?_)
    refine VO.fix 10 rfl (congrArg (λz=>AV.val (.int .i64 z)) hwX) ?_
    refine ab ?_
    by_cases h0:X<0
    ·rw[if_pos h0] at lh
     have JO:IntKind.i64.wrap ((IntKind.i64.wrap (65535-X)).tdiv 65536)=(mc:Int):=by
      rw[IntWalk.i64_in (65535-X) aa,Int.tdiv_eq_ediv_of_nonneg aa,IntWalk.i64_in _ aa,lh.1]
     have hwd:IntKind.i64.wrap (X+IntKind.i64.wrap (65536*(mc:Int)))=(dg:Int):=by
      rw[IntWalk.i64_in (65536*(mc:Int)) aa,IntWalk.i64_in _ aa,HF.1]
     refine VS.bo rfl (decide_eq_true h0) ?_
     refine ab ?_
     ·refine VO.sO 46 rfl (congrArg (λz=>[AV.val (.int .i64 z)]) (show _=(dg:Int) by rw[JO,hwd])) ?_
      refine VO.app (bQ _ _) (t:=272) (e:=3) (sz:=1) (n:=ds.length) (c:=cap) (mm:=1) (known:=iv ds) (spare:=spare) (news:=iv [dg]) (dst:=47) (del:=some 47) rfl rfl rfl rfl rfl rfl rfl rfl (bt rfl) rfl (.inr ⟨47,rfl,rfl,rfl⟩) (.inr rfl) (by rw[bE];omega) (by rw[List.length_append,bE];omega) h1 h2 ⟨bb _,h5,bb _⟩ ⟨ke _,h4,ke _⟩ rfl aa
       (λw1 β k1 b1 ho=>⟨_,_,rfl,.inr ⟨β 46,0,rfl,eQ (rest:=[]) (ho.own 46 (.base (List.mem_append_right _ (List.mem_singleton.2 rfl))) _ _ rfl) rfl⟩⟩)
       (λw2 cap' aG ρ k2 b2 eH nw oJ hlen ig eX=>wV rfl ?_)
      refine ab ?_
      refine VS.back (n-(i+1)) aa ⟨_,_,?_,?_,?_,?_,⟨i+1,mc,ds++[dg],.row 47 0 (ds++[dg]).length cap',by omega,rfl,rfl,.inr ⟨cap',aG,rfl,rfl,by simp;omega,oJ,?_,ig,eX⟩,by simp[sL],dc.append hdh (dc.cons HF.2 (dc.nil _)),lh.2,hst⟩⟩
      ·exact⟨rfl,rfl,rfl,congrArg (λz=>some (AV.row 47 0 z cap')) cU,congrArg (λz=>some (AV.val (.int .i64 z))) JO,congrArg (λz=>some (AV.val (.int .i64 z))) vZ,trivial⟩
      ·exact⟨congrArg (λl=>some (_,l++aG)) (nj _ _).symm,trivial⟩
      ·rfl
      ·exact⟨.append (.none (bb _)) (.none eX),trivial⟩
      ·simpa [bE,Nat.add_assoc] using hlen
    ·rw[if_neg h0] at lh
     have jR:mc=0:=by omega
     subst jR
     refine VS.bB rfl (decide_eq_false h0) ?_
     refine ab ?_
     ·refine VO.sO 46 rfl (congrArg (λz=>[AV.val (.int .i64 z)]) (show X=(dg:Int) by omega)) ?_
      refine VO.app (bQ _ _) (t:=272) (e:=3) (sz:=1) (n:=ds.length) (c:=cap) (mm:=1) (known:=iv ds) (spare:=spare) (news:=iv [dg]) (dst:=47) (del:=some 47) rfl rfl rfl rfl rfl rfl rfl rfl (bt rfl) rfl (.inr ⟨47,rfl,rfl,rfl⟩) (.inr rfl) (by rw[bE];omega) (by rw[List.length_append,bE];omega) h1 h2 ⟨bb _,h5,bb _⟩ ⟨ke _,h4,ke _⟩ rfl aa
       (λw1 β k1 b1 ho=>⟨_,_,rfl,.inr ⟨β 46,0,rfl,eQ (rest:=[]) (ho.own 46 (.base (List.mem_append_right _ (List.mem_singleton.2 rfl))) _ _ rfl) rfl⟩⟩)
       (λw2 cap' aG ρ k2 b2 eH nw oJ hlen ig eX=>wV rfl ?_)
      refine ab ?_
      refine VS.back (n-(i+1)) aa ⟨_,_,?_,?_,?_,?_,⟨i+1,0,ds++[dg],.row 47 0 (ds++[dg]).length cap',by omega,rfl,rfl,.inr ⟨cap',aG,rfl,rfl,by simp;omega,oJ,?_,ig,eX⟩,by simp[sL],dc.append hdh (dc.cons HF.2 (dc.nil _)),Nat.zero_le _,hst⟩⟩
      ·exact⟨rfl,rfl,rfl,congrArg (λz=>some (AV.row 47 0 z cap')) cU,rfl,congrArg (λz=>some (AV.val (.int .i64 z))) vZ,trivial⟩
      ·exact⟨congrArg (λl=>some (_,l++aG)) (nj _ _).symm,trivial⟩
      ·rfl
      ·exact⟨.append (.none (bb _)) (.none eX),trivial⟩
      ·simpa [bE,Nat.add_assoc] using hlen
   ·have HW:y=0:=by rw[fC aa] at hyg;omega
    have hwX:IntKind.i64.wrap ((x:Int)-(br:Int))=X:=by rw[vG,hX,HW,Nat.mul_zero];omega
    refine VS.bo rfl (decide_eq_true (Int.ofNat_lt.2 jg)) ?_
    refine ab ?_
    refine VO.cond rfl fw (wV rfl ?_)
    refine VO.read rfl [.int .i64 (x:Int)] rfl (fZ rfl lO) (wV rfl ?_)
    refine VO.fix 10 rfl (congrArg (λz=>AV.val (.int .i64 z)) hwX) ?_
    refine ab ?_
    refine VS.bB rfl (decide_eq_false (λe=>him (Int.ofNat_lt.1 e))) ?_
    refine ab ?_
    by_cases h0:X<0
    ·rw[if_pos h0] at lh
     have JO:IntKind.i64.wrap ((IntKind.i64.wrap (65535-X)).tdiv 65536)=(mc:Int):=by
      rw[IntWalk.i64_in (65535-X) aa,Int.tdiv_eq_ediv_of_nonneg aa,IntWalk.i64_in _ aa,lh.1]
     have hwd:IntKind.i64.wrap (X+IntKind.i64.wrap (65536*(mc:Int)))=(dg:Int):=by
      rw[IntWalk.i64_in (65536*(mc:Int)) aa,IntWalk.i64_in _ aa,HF.1]
     refine VS.bo rfl (decide_eq_true h0) ?_
     refine ab ?_
     ·refine VO.sO 46 rfl (congrArg (λz=>[AV.val (.int .i64 z)]) (show _=(dg:Int) by rw[JO,hwd])) ?_
      refine VO.app (bQ _ _) (t:=272) (e:=3) (sz:=1) (n:=ds.length) (c:=cap) (mm:=1) (known:=iv ds) (spare:=spare) (news:=iv [dg]) (dst:=47) (del:=some 47) rfl rfl rfl rfl rfl rfl rfl rfl (bt rfl) rfl (.inr ⟨47,rfl,rfl,rfl⟩) (.inr rfl) (by rw[bE];omega) (by rw[List.length_append,bE];omega) h1 h2 ⟨bb _,h5,bb _⟩ ⟨ke _,h4,ke _⟩ rfl aa
       (λw1 β k1 b1 ho=>⟨_,_,rfl,.inr ⟨β 46,0,rfl,eQ (rest:=[]) (ho.own 46 (.base (List.mem_append_right _ (List.mem_singleton.2 rfl))) _ _ rfl) rfl⟩⟩)
       (λw2 cap' aG ρ k2 b2 eH nw oJ hlen ig eX=>wV rfl ?_)
      refine ab ?_
      refine VS.back (n-(i+1)) aa ⟨_,_,?_,?_,?_,?_,⟨i+1,mc,ds++[dg],.row 47 0 (ds++[dg]).length cap',by omega,rfl,rfl,.inr ⟨cap',aG,rfl,rfl,by simp;omega,oJ,?_,ig,eX⟩,by simp[sL],dc.append hdh (dc.cons HF.2 (dc.nil _)),lh.2,hst⟩⟩
      ·exact⟨rfl,rfl,rfl,congrArg (λz=>some (AV.row 47 0 z cap')) cU,congrArg (λz=>some (AV.val (.int .i64 z))) JO,congrArg (λz=>some (AV.val (.int .i64 z))) vZ,trivial⟩
      ·exact⟨congrArg (λl=>some (_,l++aG)) (nj _ _).symm,trivial⟩
      ·rfl
      ·exact⟨.append (.none (bb _)) (.none eX),trivial⟩
      ·simpa [bE,Nat.add_assoc] using hlen
    ·rw[if_neg h0] at lh
     have jR:mc=0:=by omega
     subst jR
     refine VS.bB rfl (decide_eq_false h0) ?_
     refine ab ?_
     ·refine VO.sO 46 rfl (congrArg (λz=>[AV.val (.int .i64 z)]) (show X=(dg:Int) by omega)) ?_
      refine VO.app (bQ _ _) (t:=272) (e:=3) (sz:=1) (n:=ds.length) (c:=cap) (mm:=1) (known:=iv ds) (spare:=spare) (news:=iv [dg]) (dst:=47) (del:=some 47) rfl rfl rfl rfl rfl rfl rfl rfl (bt rfl) rfl (.inr ⟨47,rfl,rfl,rfl⟩) (.inr rfl) (by rw[bE];omega) (by rw[List.length_append,bE];omega) h1 h2 ⟨bb _,h5,bb _⟩ ⟨ke _,h4,ke _⟩ rfl aa
       (λw1 β k1 b1 ho=>⟨_,_,rfl,.inr ⟨β 46,0,rfl,eQ (rest:=[]) (ho.own 46 (.base (List.mem_append_right _ (List.mem_singleton.2 rfl))) _ _ rfl) rfl⟩⟩)
       (λw2 cap' aG ρ k2 b2 eH nw oJ hlen ig eX=>wV rfl ?_)
      refine ab ?_
      refine VS.back (n-(i+1)) aa ⟨_,_,?_,?_,?_,?_,⟨i+1,0,ds++[dg],.row 47 0 (ds++[dg]).length cap',by omega,rfl,rfl,.inr ⟨cap',aG,rfl,rfl,by simp;omega,oJ,?_,ig,eX⟩,by simp[sL],dc.append hdh (dc.cons HF.2 (dc.nil _)),Nat.zero_le _,hst⟩⟩
      ·exact⟨rfl,rfl,rfl,congrArg (λz=>some (AV.row 47 0 z cap')) cU,rfl,congrArg (λz=>some (AV.val (.int .i64 z))) vZ,trivial⟩
      ·exact⟨congrArg (λl=>some (_,l++aG)) (nj _ _).symm,trivial⟩
      ·rfl
      ·exact⟨.append (.none (bb _)) (.none eX),trivial⟩
      ·simpa [bE,Nat.add_assoc] using hlen
 ·obtain rfl:i=n:=by omega
  have hend:=JN hdh sL dK (show t*hval (halves B)<=hval (halves A) by rw[aL,aL];exact hle) (by
   rcases Nat.eq_zero_or_pos t with e|e
   ·exact .inl e
   ·right
    rw[<-dK]
    exact cM aa (Nat.le_trans (Nat.le_mul_of_pos_left B e) hle)) hv
  rw[aL,aL] at hend
  rcases lX with ⟨rfl,rfl,rfl⟩|⟨cap,spare,rfl,rfl,h1,h2,h3,h4,h5⟩
  all_goals
   refine ab ?_
   refine VS.bB rfl (decide_eq_false (λe=>jg (Int.ofNat_lt.1 e))) ?_
   refine ab ?_
  ·refine VO.call rfl rfl (fk Tryz.func220) (λaK bn aU=>(fE none 0 0 [] aK (Rd.own (World.ownsRow_nil _ 0 0 _)) (dc.nil _)).mono ?_)
   rintro e w1 ⟨⟨mm,wH,rfl,hcut⟩,rfl⟩
   obtain rfl:mm=0:=by omega
   refine⟨_,rfl,ax.refl _,λbL _ bb1=>wV rfl ?_⟩
   refine ab ?_
   refine az ?_;intro wz kz bz
   have e0:A-t*B=0:=by rw[<-hend];rfl
   exact⟨_,rfl,by rw[e0,jr];exact dM.nil _ _,bz⟩
  ·refine VO.xg rfl (fk Tryz.func220) (λw1 β k1 b1 ho=>(fE (some ⟨β 47,0,none⟩) ds.length cap ds w1 (js (ho.own 47 (.base (List.mem_singleton.2 rfl)) _ _ rfl) rfl h1 (by simpa [maxLen] using h2)) hdh).mono ?_)
   rintro e w2 ⟨⟨mm,wH,rfl,hcut⟩,rfl⟩
   refine⟨.row 47 0 mm cap,rfl,λi hi=>⟨hi,by cases List.mem_singleton.1 hi;exact Option.some_ne_none _⟩,ax.refl _,λk2 _ b2=>wV rfl ?_⟩
   refine ab ?_
   refine VS.oy (bQ _ _) rfl (λwz β kz bz he=> ?_)
   have qH:=tw hcut wH rfl
   rw[hend] at hcut qH
   refine⟨_,rfl,?_,bz⟩
   have:=mQ (he.own 47 _ _ rfl) rfl wH h1 (by simpa [maxLen] using h2) h3
   rw[<-hcut] at this
   show dM wz w.heap.size (.slice (some ⟨β 47,0,none⟩) mm cap) _ _
   rw[<-qH]
   exact this
set_option maxRecDepth 4000
theorem dM.gi {w w':World} {B:Nat} {v:Value} {n:Nat} {xs:List Nat} (h:dM w B v n xs) (k:aY KI w w'):dM w' B v n xs:=by
 obtain⟨hn,e|⟨b,c,spare,e,hb,hc,r⟩⟩:=h
 ·exact⟨hn,.inl e⟩
 ·exact⟨hn,.inr ⟨b,c,spare,e,hb,k.block _ b _ rfl trivial hc,r⟩⟩
theorem sP.kp {w w':World} {B n:Nat} {v:Value} {cs:List Value} (h:w.ownsRow B 3 1 v n cs) (k:aY KI w w'):w'.ownsRow B 3 1 v n cs:=by
 refine⟨h.1,?_⟩
 rcases h.2 with h2|⟨g,cap,cur,hv,hb,hg,r⟩
 ·exact .inl h2
 ·exact .inr ⟨g,cap,cur,hv,hb,k.block _ g cur rfl trivial hg,r⟩
theorem dM.form {w:World} {B:Nat} {v:Value} {n:Nat} {xs:List Nat} (h:dM w B v n xs):∃ p c,v=.slice p n c:=by
 obtain⟨hn,⟨rfl,rfl⟩|⟨b,c,spare,rfl,_⟩⟩:=h
 ·exact⟨none,0,rfl⟩
 ·exact⟨_,c,rfl⟩
theorem AG (x:Nat):hval [x]=x:=by show x+65536*0=x;omega
theorem dt {P Q:Prop} (h:Q) (i:Q->P:=by intro h;(repeat first|refine wN ?_|refine wP rfl ?_|refine xh rfl ?_|refine cxI_d rfl ?_|refine wO rfl rfl ?_);exact h):P:=i h
theorem di {P Q X:Prop} (hb:X) (h:Q) (i:X->Q->P:=by intro hb h;refine⟨_,rfl,hb,λa b c=>wV rfl ?_⟩;refine dt ?_;revert a b c;exact h):P:=i hb h
theorem qf {P Q:Prop} (h:Q) (i:Q->P:=by intro h;exact VS.ret (kY _ _) rfl rfl h):P:=i h
theorem sk (va vb:Value) (n m A B:Nat) (w:World) (hr:Rd w 1 va n (ints .i64 (halves A))) (hs:Rd w 1 vb m (ints .i64 (halves B))) (hB:A<65536*B) (hm:m<=2147483656):
  Calls Tryz.prog 227 #[va,vb] w λe w'=>e=.returned (.int .i64 ((A/B:Nat):Int))/\ax w w':=by
 obtain⟨p,c,rfl,dk,dY,dK⟩:=hr.i64
 obtain⟨q,d,rfl,EO,BC,iD⟩:=hs.i64
 refine ae (C:=CE Tryz.prog w _) (args:=[_,_]) Tryz.func227 rfl Tryz.ntmps227 (bt rfl) ?_
 refine dt ?_
 refine VS.loop (J:=λms L M w'=>∃ (lo hi:Nat),lo<hi/\hi<=65536/\ms=hi-lo/\L=[(0,.val (.slice p n c)),(1,.val (.slice q m d)),(5,.val (.int .i64 (lo:Int))),(6,.val (.int .i64 (hi:Int)))]/\M=[]/\lo*B<=A/\A<hi*B) 65536 ⟨_,_,?_,?_,?_,?_,⟨0,65536,by omega,by omega,rfl,rfl,rfl,by omega,hB⟩⟩ ?_
 ·exact dX
 ·exact dX
 ·rfl
 ·exact trivial
 rintro ms L M w' ⟨lo,hi,hlh,hh,rfl,rfl,rfl,h1,h2⟩
 have vG:IntKind.i64.wrap ((hi:Int)-(lo:Int))=(hi:Int)-lo:=IntWalk.i64_in _ aa
 refine dt ?_
 by_cases hgo:1<hi-lo
 ·obtain⟨mid,kE⟩:∃ mid,mid=(lo+hi)/2:=⟨_,rfl⟩
  have hwm:IntKind.i64.wrap ((IntKind.i64.wrap ((lo:Int)+(hi:Int))).tdiv 2)=(mid:Int):=by
   rw[IntWalk.i64_in ((lo:Int)+(hi:Int)) aa,Int.tdiv_eq_ediv_of_nonneg aa,IntWalk.i64_in _ aa];omega
  refine VS.bo rfl (decide_eq_true (by rw[vG];omega)) ?_
  refine dt ?_
  refine VO.lit (kY _ _) [.int .i64 (mid:Int)] rfl (by rw[hwm];rfl) rfl rfl rfl rfl rfl rfl rfl aa (λw2 b k2 b2 ho=>wV rfl ?_)
  have hmid4:mid<65536:=by omega
  refine VO.call rfl rfl (fk Tryz.func190) (λaK bn aU=>(sj _ _ m 1 (halves B) [mid] aK (hs.below aU) (Rd.own (sP.kp (cs:=ints .i64 [mid]) ho bn)) (bh B) (dc.cons hmid4 (dc.nil _)) hm aa).mono ?_)
  rintro e w1 ⟨v1,rfl,q1,aC⟩
  rw[aL,AG] at q1
  obtain⟨p1,c1,rfl⟩:=q1.form
  refine di aC ?_
  intro bL _ bb1
  refine VO.cB rfl rfl (fk Tryz.func237) (λck cJ da=>CQ _ _ n _ A (B*mid) ck (hr.below da) (Rd.own (q1.gi cJ).own)) (λck cJ da w3 bM dP _ bb3=>wV rfl ?_)
  refine dt ?_
  by_cases hlt:A<B*mid
  ·refine VS.bo rfl (decide_eq_true hlt) ?_
   refine dt ?_
   refine VS.back (mid-lo) aa ⟨_,_,?_,?_,?_,?_,⟨lo,mid,by omega,by omega,rfl,rfl,rfl,h1,by rw[Nat.mul_comm];exact hlt⟩⟩
   ·exact⟨rfl,rfl,rfl,congrArg (λz=>some (AV.val (.int .i64 z))) hwm,trivial⟩
   ·exact dX
   ·rfl
   ·exact trivial
  ·refine VS.bB rfl (decide_eq_false hlt) ?_
   refine dt ?_
   refine VS.back (hi-mid) aa ⟨_,_,?_,?_,?_,?_,⟨mid,hi,by omega,by omega,rfl,rfl,rfl,by rw[Nat.mul_comm];omega,h2⟩⟩
   ·exact⟨rfl,rfl,congrArg (λz=>some (AV.val (.int .i64 z))) hwm,rfl,trivial⟩
   ·exact dX
   ·rfl
   ·exact trivial
 ·refine VS.bB rfl (decide_eq_false (by rw[vG];omega)) ?_
  refine dt ?_
  refine qf ?_;intro wz kz bz
  refine⟨?_,bz⟩
  have hBp:0<B:=by
   rcases Nat.eq_zero_or_pos B with e|e
   ·rw[e] at hB;omega
   ·exact e
  have:A/B=lo:=by
   have e1:hi=lo+1:=by omega
   rw[e1,Nat.add_mul] at h2
   exact Nat.div_eq_of_lt_le h1 (by rw[Nat.add_mul];exact h2)
  rw[this];rfl
theorem uP {A B k x R V:Nat} {qs:List Nat} (hx:(halves A)[k]? =some x) (hR:R<B) (hV:V=x+65536*R) (h:hval qs*B+R=hval ((halves A).drop (k+1))):
  hval ((V/B)::qs)*B+(V-V/B*B)=hval ((halves A).drop k)/\V<65536*B/\V-V/B*B<B/\V/B<65536:=by
 have jf:=(bh A).at hx
 have e1:hval ((halves A).drop k)=x+65536*hval ((halves A).drop (k+1)):=nO hx
 have e2:hval ((V/B)::qs)=V/B+65536*hval qs:=rfl
 have e3:=Nat.div_add_mod V B
 have e4:=Nat.mod_lt V (show 0<B by omega)
 rw[Nat.mul_comm] at e3
 have hlt:V<65536*B:=by
  have:65536*R+65536<=65536*B:=by
   have:=Nat.mul_le_mul_left 65536 (show R+1<=B by omega)
   rw[Nat.mul_add] at this;omega
  omega
 refine⟨?_,hlt,by omega,Nat.div_lt_of_lt_mul (by rw[Nat.mul_comm];exact hlt)⟩
 rw[e1,<-h,e2,Nat.add_mul,Nat.mul_add,Nat.mul_assoc]
 omega
theorem AH (va vb:Value) (n m A B:Nat) (w:World) (hr:Rd w 1 va n (ints .i64 (halves A))) (hs:Rd w 1 vb m (ints .i64 (halves B))) (hB:0<B) (hn:n<=1073741824) (hm:m<=1073741824):
  Calls Tryz.prog 204 #[va,vb] w λe w'=>∃ v u,e=.returned (.tuple #[v,u])/\dM w' w.heap.size v (halves (A/B)).length (halves (A/B))/\dM w' w.heap.size u (halves (A%B)).length (halves (A%B))/\ax w w':=by
 obtain⟨p,c,rfl,dk,dY,dK⟩:=hr.i64
 obtain⟨q,d,rfl,EO,BC,iD⟩:=hs.i64
 refine ae (C:=aR Tryz.prog w _) (args:=[_,_]) Tryz.func204 rfl Tryz.ntmps204 (bt rfl) ?_
 refine ab ?_
 refine VO.cond rfl ⟨rfl,by omega,by show (n:Int)*(24*1)<=_;omega⟩ (VO.sO 12 rfl (uN _) (wV rfl ?_))
 rw[Int.toNat_natCast]
 refine ab ?_
 have hw0:IntKind.i64.wrap ((n:Int)-1)=(n:Int)-1:=IntWalk.i64_in _ aa
 refine VS.loop (J:=λms L M w'=>∃ (k R:Nat) (qs:List Nat) (v:AV) (M1:List (Nat×(TypeId×List AV))),k<=n/\ms=k/\L=[(0,.val (.slice p n c)),(1,.val (.slice q m d)),(6,.row 12 0 n n),(7,v),(8,.val (.int .i64 ((k:Int)-1)))]/\
  M=(12,(3,iv (List.replicate k 0++qs)))::M1/\RowAt 41 (halves R) v M1/\qs.length=n-k/\eP qs/\R<B/\hval qs*B+R=hval ((halves A).drop k)) n ⟨_,_,?_,?_,?_,?_,⟨n,0,[],.val (.slice none 0 0),[],Nat.le_refl _,rfl,rfl,rfl,.inl ⟨jr,rfl,rfl⟩,by simp,dc.nil _,hB,by rw[List.drop_of_length_le aa];simp[hval,val]⟩⟩ ?_
 ·exact⟨rfl,rfl,rfl,rfl,congrArg (λz=>some (AV.val (.int .i64 z))) hw0,trivial⟩
 ·exact⟨congrArg (λl=>some (_,l)) (by rw[List.append_nil]),trivial⟩
 ·rfl
 ·exact⟨.none (bb _),trivial⟩
 rintro ms L M w' ⟨k,R,qs,v,M1,hk,hms,rfl,rfl,lX,hql,hqh,hRB,hv⟩
 have hz:(List.replicate k 0++qs).length=n:=by simp;omega
 rcases lX with ⟨hR0,rfl,rfl⟩|⟨cap,spare,rfl,rfl,g1,g2,g3,g4,g5⟩
 all_goals
  by_cases Hv:k=0
 ·subst Hv
  refine ab ?_
  refine VO.xg rfl (fk Tryz.func220) (λw1 β k1 bw ho=>(fE (some ⟨β 12,0,none⟩) n n qs w1 (js (spare:=[]) (by rw[List.append_nil];exact ho.own 12 (.base (List.mem_singleton.2 rfl)) _ _ rfl) (by simpa using hz) (Nat.le_refl _) (by simp only[maxLen];omega)) hqh).mono ?_)
  rintro e w2 ⟨⟨mm,wH,rfl,hcut⟩,rfl⟩
  refine⟨.row 12 0 mm n,rfl,λi hi=>⟨hi,by cases List.mem_singleton.1 hi;exact Option.some_ne_none _⟩,ax.refl _,λk2 _ b2=>wV rfl ?_⟩
  refine ab ?_
  refine VS.oy (bQ _ _) rfl (λwz β kz bz he=> ?_)
  have yx:qs.length=n:=by simpa using hz
  have qH:=tw hcut wH yx
  rw[List.drop_zero,aL] at hv
  have hA:A/B=hval qs:=by rw[<-hv,Nat.add_comm,Nat.add_mul_div_right _ _ hB,Nat.div_eq_of_lt hRB,Nat.zero_add]
  have hM:A%B=R:=by rw[<-hv,Nat.add_comm,Nat.add_mul_mod_self_right,Nat.mod_eq_of_lt hRB]
  rw[<-hA] at hcut qH
  have e12:=mQ (spare:=[]) (by rw[List.append_nil];exact he.own 12 _ _ rfl) yx wH (Nat.le_refl _) (by simp only[maxLen];omega) (by simpa using yx)
  rw[<-hcut] at e12
  refine⟨.slice (some ⟨β 12,0,none⟩) mm n,.slice none 0 0,rfl,by rw[<-qH];exact e12,?_,bz⟩
  rw[hM,hR0];exact dM.nil _ _
 ·obtain⟨j,rfl⟩:∃ j,k=j+1:=⟨k-1,by omega⟩
  have hj:((j+1:Nat):Int)-1=(j:Int):=by omega
  obtain⟨b1,o1,x,rfl,aC,ea,lO⟩:=hr.cellAt (show j<n by omega)
  have jf:=(bh A).at ea
  obtain⟨V,hV⟩:∃ V,V=x+65536*R:=⟨_,rfl⟩
  obtain⟨s1,s2,s3,s4⟩:=uP ea hRB hV hv
  have hRl:(halves R).length<=m:=by rw[<-iD];exact cM aa aa
  have hXS:hval [x]=V:=by have hR0':R=0:=(by have:=congrArg hval hR0;rw[aL] at this;exact this);rw[hV,hR0'];exact AG x
  have hXH:eP [x]:=dc.cons jf (dc.nil _)
  have hXL:[x].length=(1+0):=rfl
  refine VS.fix 8 rfl (congrArg (λz=>AV.val (.int .i64 z)) hj) ?_
  refine ab ?_
  refine VO.cond rfl fw (wV rfl ?_)
  refine VO.read rfl [.int .i64 (x:Int)] rfl (fZ rfl lO) (wV rfl ?_)
  refine ab ?_
  refine VO.app (bQ _ _) (t:=272) (e:=3) (sz:=1) (n:=1) (c:=1) (mm:=0) (known:=iv [x]) (spare:=[]) (news:=[]) (dst:=27) (del:=some 24) rfl rfl rfl rfl rfl rfl rfl rfl (bt rfl) rfl (.inr ⟨24,rfl,rfl,rfl⟩) (.inl rfl) rfl rfl aa aa ⟨rfl,rfl,rfl⟩ ⟨rfl,rfl,rfl⟩ rfl aa
   (λw1 β k1 bw ho=>⟨_,_,rfl,.inl rfl⟩)
   (λw2 cap' aG ρ k2 b2 eH nw oJ hlen ig eX=>VO.sO 12 rfl (JM 24 ρ _) (wV rfl ?_))
  have CR:(iv [x]++[])++aG=iv [x]++aG:=rfl
  refine VO.xg rfl (fk Tryz.func220) (λw1 β k1 bw ho=>(fE (some ⟨β 27,0,none⟩) (1+0) cap' [x] w1 (js (ho.own 27 (.base (List.mem_singleton.2 rfl)) _ _ rfl) hXL nw (by simpa [maxLen] using oJ)) hXH).mono ?_)
  rintro e w3 ⟨⟨m',hm',rfl,hcut⟩,rfl⟩
  rw[hXS] at hcut
  have hm'l:m'=(halves V).length:=by rw[hcut,List.length_take];omega
  have qz:∀ {C:Cx} {β:Nat->Nat} {w:World},iV C β w 27 3 (iv [x]++aG)->Rd w 1 (.slice (some ⟨β 27,0,none⟩) m' cap') m' (ints .i64 (halves V)):=λh=>by
   have:=Rd.Ay (js h hXL nw (by simpa [maxLen] using oJ)) hm'
   rwa [<-hcut] at this
  refine⟨.row 27 0 m' cap',rfl,λi hi=>⟨hi,by cases List.mem_singleton.1 hi;exact Option.some_ne_none _⟩,ax.refl _,λk3 _ b3=>wV rfl ?_⟩
  refine ab ?_
  refine VO.fh rfl (fk Tryz.func227) (λw1 β k1 bw ho=>(sk _ _ m' m V B w1 (qz (ho.own 27 (.base (List.mem_append_left _ (List.mem_singleton.2 rfl))) _ _ rfl)) (hs.below bw) s2 aa).mono ?_)
  rintro e w4 ⟨rfl,fb⟩
  refine⟨_,rfl,fb,λk4 _ b4=>wV rfl ?_⟩
  refine VO.cond rfl fw (wV rfl ?_)
  refine VO.cond rfl (by show 0+(j:Int).toNat*1+1<=_;rw[Int.toNat_natCast,bE];omega) (wV rfl ?_)
  refine wN ?_
  refine VS.narrow [(0,.val (.slice (some ⟨b1,o1,none⟩) n c)),(1,.val (.slice q m d)),(6,.row 12 0 n n),(7,.row 27 0 m' cap'),(8,.val (.int .i64 (j:Int)))] [(12,(3,iv (List.replicate j 0++(V/B)::qs))),(27,(3,iv [x]++aG))] ?_ ?_ rfl ?_ ?_
  ·exact dX
  ·exact⟨congrArg (λl=>some (_,l)) ((tu (j:=j) (x:=V/B) (by rw[hz];omega) (by rw[Int.toNat_natCast];omega)).trans (by rw[si])),rfl,trivial⟩
  ·exact⟨.none (bb _),.append (.none (bb _)) (.none eX),trivial⟩
  refine ab ?_
  refine VO.cond rfl fw (wV rfl ?_)
  refine VO.iw rfl [.val (.int .i64 ((V/B:Nat):Int))] rfl (qe (j:=j) (by rw[List.getElem?_append_right cU];simp) (by rw[Int.toNat_natCast];omega)) (wV rfl ?_)
  have vG:IntKind.i64.wrap ((j:Int)-1)=(j:Int)-1:=IntWalk.i64_in _ aa
  refine VO.callN (dst:=41) (n:=(halves (V-V/B*B)).length) (t:=3) (sz:=1) (xs:=ints .i64 (halves (V-V/B*B))) rfl rfl rfl (bt rfl) (by show 1<=2;omega) rfl (λw1 β k1 bw ho=>⟨(fk Tryz.func228),(uO _ _ m' m (V/B) V B w1 (qz (ho.own 27 (.base (List.mem_append_left _ (List.mem_singleton.2 rfl))) _ _ rfl)) (hs.below bw) s4 (Nat.div_mul_le_self _ _) aa).mono ?_⟩)
  rintro e w5 ⟨v5,rfl,AJ,gW⟩
  refine⟨v5,rfl,gW,AJ.new,λ_ _ _ hv5=>wV rfl ?_,λc5 sp5 _ _ _ hv5 hok5 hl5 hc5 Ij=>wV rfl ?_⟩
  ·have dZ:halves (V-V/B*B)=[]:=by
    subst hv5
    obtain⟨e1,⟨_,e2⟩|⟨_,_,_,e2,_⟩⟩:=AJ
    ·exact List.eq_nil_of_length_eq_zero e2
    ·cases e2
   refine ab ?_
   refine VS.back j aa ⟨_,_,?_,?_,?_,?_,⟨j,V-V/B*B,(V/B)::qs,.val (.slice none 0 0),[],by omega,rfl,rfl,rfl,.inl ⟨dZ,rfl,rfl⟩,by simp;omega,dc.cons s4 hqh,s3,s1⟩⟩
   ·exact⟨rfl,rfl,rfl,rfl,congrArg (λz=>some (AV.val (.int .i64 z))) vG,trivial⟩
   ·exact⟨rfl,trivial⟩
   ·rfl
   ·exact⟨.none (bb _),trivial⟩
  ·have hln':(halves (V-V/B*B)).length+sp5.length=c5:=by simpa using Ij
   refine ab ?_
   refine VS.back j aa ⟨_,_,?_,?_,?_,?_,⟨j,V-V/B*B,(V/B)::qs,.row 41 0 _ c5,_,by omega,rfl,rfl,rfl,.inr ⟨c5,sp5.map .val,rfl,rfl,hl5,hc5,by simpa using hln',cQ hok5,af _⟩,by simp;omega,dc.cons s4 hqh,s3,s1⟩⟩
   ·exact⟨rfl,rfl,rfl,rfl,congrArg (λz=>some (AV.val (.int .i64 z))) vG,trivial⟩
   ·exact⟨rfl,congrArg (λl=>some (_,l)) (List.map_append),trivial⟩
   ·rfl
   ·exact⟨.none (bb _),.append (.none (bb _)) (.none (af _)),trivial⟩
 ·subst Hv
  refine ab ?_
  refine VO.xg rfl (fk Tryz.func220) (λw1 β k1 bw ho=>(fE (some ⟨β 12,0,none⟩) n n qs w1 (js (spare:=[]) (by rw[List.append_nil];exact ho.own 12 (.base (List.mem_singleton.2 rfl)) _ _ rfl) (by simpa using hz) (Nat.le_refl _) (by simp only[maxLen];omega)) hqh).mono ?_)
  rintro e w2 ⟨⟨mm,wH,rfl,hcut⟩,rfl⟩
  refine⟨.row 12 0 mm n,rfl,λi hi=>⟨hi,by cases List.mem_singleton.1 hi;exact Option.some_ne_none _⟩,ax.refl _,λk2 _ b2=>wV rfl ?_⟩
  refine ab ?_
  refine VS.oy (bQ _ _) rfl (λwz β kz bz he=> ?_)
  have yx:qs.length=n:=by simpa using hz
  have qH:=tw hcut wH yx
  rw[List.drop_zero,aL] at hv
  have hA:A/B=hval qs:=by rw[<-hv,Nat.add_comm,Nat.add_mul_div_right _ _ hB,Nat.div_eq_of_lt hRB,Nat.zero_add]
  have hM:A%B=R:=by rw[<-hv,Nat.add_comm,Nat.add_mul_mod_self_right,Nat.mod_eq_of_lt hRB]
  rw[<-hA] at hcut qH
  have e12:=mQ (spare:=[]) (by rw[List.append_nil];exact he.own 12 _ _ rfl) yx wH (Nat.le_refl _) (by simp only[maxLen];omega) (by simpa using yx)
  rw[<-hcut] at e12
  have e41:=mQ (he.own 41 _ _ rfl) rfl (Nat.le_refl _) g1 (by simpa [maxLen] using g2) g3
  rw[List.take_length] at e41
  refine⟨.slice (some ⟨β 12,0,none⟩) mm n,.slice (some ⟨β 41,0,none⟩) (halves R).length cap,rfl,by rw[<-qH];exact e12,?_,bz⟩
  rw[hM];exact e41
 ·obtain⟨j,rfl⟩:∃ j,k=j+1:=⟨k-1,by omega⟩
  have hj:((j+1:Nat):Int)-1=(j:Int):=by omega
  obtain⟨b1,o1,x,rfl,aC,ea,lO⟩:=hr.cellAt (show j<n by omega)
  have jf:=(bh A).at ea
  obtain⟨V,hV⟩:∃ V,V=x+65536*R:=⟨_,rfl⟩
  obtain⟨s1,s2,s3,s4⟩:=uP ea hRB hV hv
  have hRl:(halves R).length<=m:=by rw[<-iD];exact cM aa aa
  have hXS:hval (x::halves R)=V:=by rw[hV];show x+65536*hval (halves R)=_;rw[aL]
  have hXH:eP (x::halves R):=dc.cons jf (bh R)
  have hXL:(x::halves R).length=(1+(halves R).length):=by simp;omega
  refine VS.fix 8 rfl (congrArg (λz=>AV.val (.int .i64 z)) hj) ?_
  refine ab ?_
  refine VO.cond rfl fw (wV rfl ?_)
  refine VO.read rfl [.int .i64 (x:Int)] rfl (fZ rfl lO) (wV rfl ?_)
  refine ab ?_
  refine VO.app (bQ _ _) (t:=272) (e:=3) (sz:=1) (n:=1) (c:=1) (mm:=(halves R).length) (known:=iv [x]) (spare:=[]) (news:=iv (halves R)) (dst:=27) (del:=some 24) rfl rfl rfl rfl rfl rfl rfl rfl (bt rfl) rfl (.inr ⟨24,rfl,rfl,rfl⟩) (.inl rfl) rfl rfl aa aa ⟨rfl,rfl,bb _⟩ ⟨rfl,rfl,ke _⟩ (by rw[bE];omega) aa
   (λw1 β k1 bw ho=>⟨_,_,rfl,.inr ⟨β 41,0,rfl,eQ (rest:=spare) (ho.own 41 (.base (List.mem_append_right _ (List.mem_singleton.2 rfl))) _ _ rfl) rfl⟩⟩)
   (λw2 cap' aG ρ k2 b2 eH nw oJ hlen ig eX=>VO.sO 12 rfl (JM 24 ρ _) (wV rfl ?_))
  have CR:(iv [x]++iv (halves R))++aG=iv (x::halves R)++aG:=rfl
  refine VO.xg rfl (fk Tryz.func220) (λw1 β k1 bw ho=>(fE (some ⟨β 27,0,none⟩) (1+(halves R).length) cap' (x::halves R) w1 (js (ho.own 27 (.base (List.mem_singleton.2 rfl)) _ _ rfl) hXL nw (by simpa [maxLen] using oJ)) hXH).mono ?_)
  rintro e w3 ⟨⟨m',hm',rfl,hcut⟩,rfl⟩
  rw[hXS] at hcut
  have hm'l:m'=(halves V).length:=by rw[hcut,List.length_take];omega
  have qz:∀ {C:Cx} {β:Nat->Nat} {w:World},iV C β w 27 3 (iv (x::halves R)++aG)->Rd w 1 (.slice (some ⟨β 27,0,none⟩) m' cap') m' (ints .i64 (halves V)):=λh=>by
   have:=Rd.Ay (js h hXL nw (by simpa [maxLen] using oJ)) hm'
   rwa [<-hcut] at this
  refine⟨.row 27 0 m' cap',rfl,λi hi=>⟨hi,by cases List.mem_singleton.1 hi;exact Option.some_ne_none _⟩,ax.refl _,λk3 _ b3=>wV rfl ?_⟩
  refine ab ?_
  refine VO.fh rfl (fk Tryz.func227) (λw1 β k1 bw ho=>(sk _ _ m' m V B w1 (qz (ho.own 27 (.base (List.mem_append_left _ (List.mem_singleton.2 rfl))) _ _ rfl)) (hs.below bw) s2 aa).mono ?_)
  rintro e w4 ⟨rfl,fb⟩
  refine⟨_,rfl,fb,λk4 _ b4=>wV rfl ?_⟩
  refine VO.cond rfl fw (wV rfl ?_)
  refine VO.cond rfl (by show 0+(j:Int).toNat*1+1<=_;rw[Int.toNat_natCast,bE];omega) (wV rfl ?_)
  refine wN ?_
  refine VS.narrow [(0,.val (.slice (some ⟨b1,o1,none⟩) n c)),(1,.val (.slice q m d)),(6,.row 12 0 n n),(7,.row 27 0 m' cap'),(8,.val (.int .i64 (j:Int)))] [(12,(3,iv (List.replicate j 0++(V/B)::qs))),(27,(3,iv (x::halves R)++aG))] ?_ ?_ rfl ?_ ?_
  ·exact dX
  ·exact⟨congrArg (λl=>some (_,l)) ((tu (j:=j) (x:=V/B) (by rw[hz];omega) (by rw[Int.toNat_natCast];omega)).trans (by rw[si])),rfl,trivial⟩
  ·exact⟨.none (bb _),.append (.none (bb _)) (.none eX),trivial⟩
  refine ab ?_
  refine VO.cond rfl fw (wV rfl ?_)
  refine VO.iw rfl [.val (.int .i64 ((V/B:Nat):Int))] rfl (qe (j:=j) (by rw[List.getElem?_append_right cU];simp) (by rw[Int.toNat_natCast];omega)) (wV rfl ?_)
  have vG:IntKind.i64.wrap ((j:Int)-1)=(j:Int)-1:=IntWalk.i64_in _ aa
  refine VO.callN (dst:=41) (n:=(halves (V-V/B*B)).length) (t:=3) (sz:=1) (xs:=ints .i64 (halves (V-V/B*B))) rfl rfl rfl (bt rfl) (by show 1<=2;omega) rfl (λw1 β k1 bw ho=>⟨(fk Tryz.func228),(uO _ _ m' m (V/B) V B w1 (qz (ho.own 27 (.base (List.mem_append_left _ (List.mem_singleton.2 rfl))) _ _ rfl)) (hs.below bw) s4 (Nat.div_mul_le_self _ _) aa).mono ?_⟩)
  rintro e w5 ⟨v5,rfl,AJ,gW⟩
  refine⟨v5,rfl,gW,AJ.new,λ_ _ _ hv5=>wV rfl ?_,λc5 sp5 _ _ _ hv5 hok5 hl5 hc5 Ij=>wV rfl ?_⟩
  ·have dZ:halves (V-V/B*B)=[]:=by
    subst hv5
    obtain⟨e1,⟨_,e2⟩|⟨_,_,_,e2,_⟩⟩:=AJ
    ·exact List.eq_nil_of_length_eq_zero e2
    ·cases e2
   refine ab ?_
   refine VS.back j aa ⟨_,_,?_,?_,?_,?_,⟨j,V-V/B*B,(V/B)::qs,.val (.slice none 0 0),[],by omega,rfl,rfl,rfl,.inl ⟨dZ,rfl,rfl⟩,by simp;omega,dc.cons s4 hqh,s3,s1⟩⟩
   ·exact⟨rfl,rfl,rfl,rfl,congrArg (λz=>some (AV.val (.int .i64 z))) vG,trivial⟩
   ·exact⟨rfl,trivial⟩
   ·rfl
   ·exact⟨.none (bb _),trivial⟩
  ·have hln':(halves (V-V/B*B)).length+sp5.length=c5:=by simpa using Ij
   refine ab ?_
   refine VS.back j aa ⟨_,_,?_,?_,?_,?_,⟨j,V-V/B*B,(V/B)::qs,.row 41 0 _ c5,_,by omega,rfl,rfl,rfl,.inr ⟨c5,sp5.map .val,rfl,rfl,hl5,hc5,by simpa using hln',cQ hok5,af _⟩,by simp;omega,dc.cons s4 hqh,s3,s1⟩⟩
   ·exact⟨rfl,rfl,rfl,rfl,congrArg (λz=>some (AV.val (.int .i64 z))) vG,trivial⟩
   ·exact⟨rfl,congrArg (λl=>some (_,l)) (List.map_append),trivial⟩
   ·rfl
   ·exact⟨.none (bb _),.append (.none (bb _)) (.none (af _)),trivial⟩
set_option maxRecDepth 4000
theorem bk.gi {w w':World} {v:Value} {X:Int} {j:Nat} (h:bk w v X j) (k:aY KI w w'):bk w' v X j:=h.kp (U:=UU) k.qQ
theorem bf.gi {w w':World} {v:Value} {X:Int} (h:bf w v X) (k:aY KI w w'):bf w' v X:=h.kp (U:=UU) k.qQ
theorem aj.gi {w w':World} {B:Nat} {v:Value} {X:Int} (h:aj w B v X) (k:aY KI w w'):aj w' B v X:=h.kp k.qQ
theorem Rd.gi {w w':World} {v:Value} {n:Nat} {xs:List Nat} (h:Rd w 1 v n (ints .u32 xs)) (k:aY KI w w'):Rd w' 1 v n (ints .u32 xs):=h.kp (U:=UU) k.qQ
theorem OwnU.gi {w w':World} {B n:Nat} {v:Value} {cs:List Value} (h:w.ownsRow B UU 1 v n cs) (k:aY KI w w'):w'.ownsRow B UU 1 v n cs:=Own.kp h k.qQ
theorem eJ (a:Nat):(halves a).length<=2*(limbs a).length:=by
 have:=cw (ai a)
 rwa [ah] at this
theorem fF (va:Value) (n a:Nat) (w:World) (hr:Rd w 1 va n (ints .u32 (limbs a))) (hn:n<=1073741824):
  Calls Tryz.prog 191 #[va] w λe w'=>∃ p c,e=.returned (.slice p (halves a).length c)/\w'.ownsRow w.heap.size 3 1 (.slice p (halves a).length c) (halves a).length (ints .i64 (halves a))/\ax w w':=
 (yl va n _ w hr (ai a) hn).mono λe w' ⟨v',he,ho,hb⟩=>by
  rw[ah] at ho
  obtain⟨p,c,rfl,_⟩:=Own.form ho
  exact⟨p,c,he,ho,hb⟩
theorem lj (va:Value) (n a:Nat) (w:World) (hr:Rd w 1 va n (ints .i64 (halves a))) (hn:n<=2147483646):
  Calls Tryz.prog 189 #[va] w λe w'=>∃ p c xs,e=.returned (.slice p ((n+1)/2) c)/\w'.ownsRow w.heap.size UU 1 (.slice p ((n+1)/2) c) ((n+1)/2) (ints .u32 xs)/\ag xs=a/\bH xs/\ax w w':=
 (AE va n _ w hr (bh a) aa).mono λe w' ⟨v',xs,he,hl,ho,hv,hx,hb⟩=>by
  obtain⟨p,c,rfl,_⟩:=Own.form ho
  exact⟨p,c,xs,he,ho,by rw[hv,aL],hx,hb⟩
theorem uQ (va vb:Value) (n m A B:Nat) (w:World) (hr:Rd w 1 va n (ints .i64 (halves A))) (hs:Rd w 1 vb m (ints .i64 (halves B))) (hB:0<B) (hn:n<=1073741824) (hm:m<=1073741824):
  Calls Tryz.prog 204 #[va,vb] w λe w'=>∃ p c q d,e=.returned (.tuple #[.slice p (halves (A/B)).length c,.slice q (halves (A%B)).length d])/\w'.ownsRow w.heap.size 3 1 (.slice p (halves (A/B)).length c) (halves (A/B)).length (ints .i64 (halves (A/B)))/\w'.ownsRow w.heap.size 3 1 (.slice q (halves (A%B)).length d) (halves (A%B)).length (ints .i64 (halves (A%B)))/\ax w w':=
 (AH va vb n m A B w hr hs hB hn hm).mono λe w' ⟨v,u,he,h1,h2,hb⟩=>by
  obtain⟨p,c,rfl⟩:=h1.form
  obtain⟨q,d,rfl⟩:=h2.form
  exact⟨p,c,q,d,he,h1.own,h2.own,hb⟩
theorem JP {X Y:Int} {s t:Bool} (hX:X=if s=true then-(X.natAbs:Int) else X.natAbs) (hY:Y=if t=true then-(Y.natAbs:Int) else Y.natAbs):(if (!(s == t))=true then-((X.natAbs*Y.natAbs:Nat):Int) else ((X.natAbs*Y.natAbs:Nat):Int))=X*Y:=by
 generalize X.natAbs=a at*
 generalize Y.natAbs=b at*
 subst hX hY
 cases s <;> cases t <;> simp[Int.neg_mul,Int.mul_neg]
theorem uR (v u:Value) (X Y:Int) (j k:Nat) (w:World) (hv:bk w v X j) (hu:bk w u Y k) (hj:j<=268435456) (hk:k<=268435456):
  Calls Tryz.prog 160 #[v,u] w λe w'=>∃ r,e=.returned r/\aj w' w.heap.size r (X*Y)/\ax w w':=by
 obtain⟨s,p,n,c,rfl⟩:=hv.form
 obtain⟨t,q,m,d,rfl⟩:=hu.form
 have oU:=hv.len
 have lU:=hu.len
 refine ae (C:=CE Tryz.prog w _) (args:=[_,_]) Tryz.func160 rfl Tryz.ntmps160 (bt rfl) ?_
 refine dt ?_
 refine VO.call rfl rfl (fk Tryz.func186) (λaK bn aU=>(gT _ X j aK (hv.gi bn)).mono ?_)
 rintro e w1 ⟨r1,rfl,h1,aC⟩
 obtain⟨s1,p1,n1,c1,rfl⟩:=h1.eD
 refine di aC ?_
 intro bL _ bb1
 refine VO.call rfl rfl (fk Tryz.func186) (λaZ bI bu=>(gT _ Y k aZ (hu.gi (bL.aA bI))).mono ?_)
 rintro e w2 ⟨r2,rfl,h2,aQ⟩
 obtain⟨s2,p2,n2,c2,rfl⟩:=h2.eD
 refine di aQ ?_
 intro cH _ bb2
 have e1:=lg h1.Fj
 have e2:=lg h2.Fj
 have l1:=eJ X.natAbs
 have l2:=eJ Y.natAbs
 refine VO.call rfl rfl (fk Tryz.func191) (λck cJ da=>(fF _ n1 X.natAbs ck (h1.row.gi (bI.aA ((aY.of aQ).aA cJ))) (by rw[h1.n];omega)).mono ?_)
 rintro e w3 ⟨p3,c3,rfl,h3,bM⟩
 skip
 refine di bM ?_
 intro dP _ bb3
 refine VO.call rfl rfl (fk Tryz.func191) (λdW eT fD=>(fF _ n2 Y.natAbs dW (h2.row.gi (cJ.aA ((aY.of bM).aA eT))) (by rw[h2.n];omega)).mono ?_)
 rintro e w4 ⟨p4,c4,rfl,h4,fb⟩
 skip
 refine di fb ?_
 intro iK _ oY
 refine VO.call rfl rfl (fk Tryz.func190) (λfv gh gv=>(sj _ _ _ _ (halves X.natAbs) (halves Y.natAbs) fv (Rd.own (sP.kp h3 (eT.aA ((aY.of fb).aA gh)))) (Rd.own (sP.kp h4 gh)) (bh _) (bh _) aa aa).mono ?_)
 rintro e w5 ⟨v5,rfl,h5,gW⟩
 rw[aL,aL] at h5
 obtain⟨p5,c5,rfl⟩:=h5.form
 have l5:(halves (X.natAbs*Y.natAbs)).length<=1073741824:=by
  refine Nat.le_trans (eJ _) ?_
  have:=Sz.mul (X:=X) (Y:=Y) oU lU
  unfold Sz at this
  rw[Int.natAbs_mul] at this
  omega
 refine di gW ?_
 intro ky _ tt
 refine VO.call rfl rfl (fk Tryz.func189) (λlR lZ qJ=>(lj _ _ (X.natAbs*Y.natAbs) lR (Rd.own (h5.gi lZ).own) aa).mono ?_)
 rintro e w6 ⟨p6,c6,xs6,rfl,h6,hx6,hl6,oG⟩
 skip
 refine di oG ?_
 intro qK _ yL
 refine VO.cI rfl rfl (fk Tryz.func171) (λxp wh vK=>fY (!(s1 == s2)) _ _ xs6 xp (Rd.own (OwnU.gi h6 wh)) hl6 aa) (λxp wh vK w7 s7 p7 n7 c7 h7 Ef BL _ bb7=>wV rfl ?_)
 refine dt ?_
 refine qf ?_;intro wz kz bz
 refine⟨_,rfl,aj.cast ((h7.gi kz).mono vK.size) ?_,bz⟩
 rw[hx6]
 exact JP e1 e2
theorem En {s:Bool} {n:Nat} (h:n≠0):(if s=true then-(n:Int) else n).sign=if s=true then-1 else 1:=by
 cases s
 ·exact cW (by simp;omega)
 ·exact sign_neg (by simp;omega)
theorem div_len {a b:Nat}:(halves (a/b)).length<=(halves a).length:=cM aa (Nat.div_le_self _ _)
theorem mod_len {a b:Nat}:(halves (a%b)).length<=(halves a).length:=cM aa (Nat.mod_le _ _)
theorem Eo {xs:List Nat} {a:Nat} {s:Bool} (hl:bH xs) (hv:ag xs=a):Sz (if s=true then-((ag xs:Nat):Int) else ag xs) xs.length:=by
 unfold Sz
 have:(if s=true then-((ag xs:Nat):Int) else ag xs).natAbs=ag xs:=by cases s <;> simp
 rw[this]
 exact fP hl
theorem jt (v u:Value) (X Y:Int) (j k:Nat) (w:World) (hv:bk w v X j) (hu:bk w u Y k) (hj:j<=134217728) (hk:k<=134217728):
  Calls Tryz.prog 170 #[v,u] w λe w'=>uH w w' X Y e/\ax w w':=by
 obtain⟨s,p,n,c,rfl⟩:=hv.form
 obtain⟨t,q,m,d,rfl⟩:=hu.form
 have oU:=hv.len
 have lU:=hu.len
 refine ae (C:=CE Tryz.prog w _) (args:=[_,_]) Tryz.func170 rfl Tryz.ntmps170 (bt rfl) ?_
 refine dt ?_
 refine VO.call rfl rfl (fk Tryz.func186) (λaK bn aU=>(gT _ X j aK (hv.gi bn)).mono ?_)
 rintro e w1 ⟨r1,rfl,h1,aC⟩
 obtain⟨s1,p1,n1,c1,rfl⟩:=h1.eD
 refine di aC ?_
 intro bL _ bb1
 refine VO.call rfl rfl (fk Tryz.func186) (λaZ bI bu=>(gT _ Y k aZ (hu.gi (bL.aA bI))).mono ?_)
 rintro e w2 ⟨r2,rfl,h2,aQ⟩
 obtain⟨s2,p2,n2,c2,rfl⟩:=h2.eD
 refine di aQ ?_
 intro cH _ bb2
 have e1:=lg h1.Fj
 have e2:=lg h2.Fj
 have l1:=eJ X.natAbs
 have l2:=eJ Y.natAbs
 by_cases hY:Y=0
 ·have hn0:n2=0:=by rw[h2.n,hY];exact congrArg List.length bd
  refine VS.bo rfl (by rw[beq_iff_eq];omega) ?_
  refine dt ?_
  refine qf ?_;intro wz kz bz
  exact⟨.inl ⟨hY,_,_,rfl,aj.zero _ _,aj.zero _ _⟩,bz⟩
 ·have hY0:Y.natAbs≠0:=by omega
  have hn0:n2≠0:=by rw[h2.n];intro e;exact hY0 (mg e)
  refine VS.bB rfl (by rw[beq_eq_false_iff_ne];omega) ?_
  refine dt ?_
  refine VO.call rfl rfl (fk Tryz.func191) (λck cJ da=>(fF _ n1 X.natAbs ck (h1.row.gi (bI.aA ((aY.of aQ).aA cJ))) (by rw[h1.n];omega)).mono ?_)
  rintro e w3 ⟨p3,c3,rfl,h3,bM⟩
  skip
  refine di bM ?_
  intro dP _ bb3
  refine VO.call rfl rfl (fk Tryz.func191) (λdW eT fD=>(fF _ n2 Y.natAbs dW (h2.row.gi (cJ.aA ((aY.of bM).aA eT))) (by rw[h2.n];omega)).mono ?_)
  rintro e w4 ⟨p4,c4,rfl,h4,fb⟩
  skip
  refine di fb ?_
  intro iK _ oY
  refine VO.call rfl rfl (fk Tryz.func204) (λfv gh gv=>(uQ _ _ _ _ X.natAbs Y.natAbs fv (Rd.own (sP.kp h3 (eT.aA ((aY.of fb).aA gh)))) (Rd.own (sP.kp h4 gh)) aa aa aa).mono ?_)
  rintro e w5 ⟨p5,c5,q5,d5,rfl,h5,h5',gW⟩
  skip
  refine di gW ?_
  intro ky _ tt
  have l5:(halves (X.natAbs/Y.natAbs)).length<=(halves X.natAbs).length:=div_len
  have l5':(halves (X.natAbs%Y.natAbs)).length<=(halves X.natAbs).length:=mod_len
  refine VO.call rfl rfl (fk Tryz.func189) (λlR lZ qJ=>(lj _ _ (X.natAbs/Y.natAbs) lR (Rd.own (sP.kp h5 lZ)) aa).mono ?_)
  rintro e w6 ⟨p6,c6,xs6,rfl,h6,hx6,hl6,oG⟩
  skip
  refine di oG ?_
  intro qK _ yL
  refine VO.cI rfl rfl (fk Tryz.func171) (λxp wh vK=>fY (!(s1 == s2)) _ _ xs6 xp (Rd.own (OwnU.gi h6 wh)) hl6 aa) (λxp wh vK w7 s7 p7 n7 c7 h7 Ef BL _ bb7=>wV rfl ?_)
  refine dt ?_
  refine VO.call rfl rfl (fk Tryz.func189) (λHI ka8 HQ=>(lj _ _ (X.natAbs%Y.natAbs) HI (Rd.own (sP.kp h5' (lZ.aA ((aY.of oG).aA (wh.aA ((aY.of Ef).aA ka8)))))) aa).mono ?_)
  rintro e w8 ⟨p8,c8,xs8,rfl,h8,hx8,hl8,Ci⟩
  skip
  refine di Ci ?_
  intro BM _ bb8
  refine VO.cI rfl rfl (fk Tryz.func171) (λJQ ka9 JR=>fY s1 _ _ xs8 JQ (Rd.own (OwnU.gi h8 ka9)) hl8 aa) (λJQ ka9 JR w9 s9 p9 n9 c9 h9 hb9 CS _ bb9=>wV rfl ?_)
  refine dt ?_
  have z7:Sz (if (!(s1 == s2))=true then-((ag xs6:Nat):Int) else ag xs6) xs6.length:=Eo hl6 hx6
  have z9:Sz (if s1=true then-((ag xs8:Nat):Int) else ag xs8) xs8.length:=Eo hl8 hx8
  have lx6:xs6.length<=268435457:=by have:=h6.1;simp at this;omega
  have lx8:xs8.length<=268435457:=by have:=h8.1;simp at this;omega
  rw[hx6] at h7 z7
  rw[hx8] at h9 z9
  have law:=@ni X Y X.natAbs Y.natAbs
  by_cases sY:X.natAbs%Y.natAbs=0
  ·have s0:(if s1=true then-((X.natAbs%Y.natAbs:Nat):Int) else ((X.natAbs%Y.natAbs:Nat):Int))=0:=by rw[sY];cases s1 <;> rfl
   rw[s0] at h9 z9
   refine VO.cB rfl rfl (fk Tryz.func168) (λma oK uS=>cd _ 0 _ ma ((h9.gi oK).in z9) aa) (λma oK uS w10 sQ gw _ CT=>wV rfl ?_)
   (repeat (first|refine wN ?_|refine wP rfl ?_|refine xh rfl ?_|refine wO rfl rfl ?_))
   refine VS.uA (kY _ _) (iG _ _) 5 rfl ?_
   (repeat' (first|refine VA.go rfl ?_|refine VA.fin rfl ?_|refine VA.dp _ rfl rfl ?_|refine VA.cons rfl ?_ ?_|exact VA.nil rfl))
   all_goals
    refine dt ?_
    refine qf ?_;intro wz kz bz
    obtain⟨g1,g2⟩:=law e1 e2 hY0 (.inl ⟨.inr sY,rfl,rfl⟩)
    refine⟨.inr ⟨hY,_,_,rfl,aj.cast ((h7.gi (BM.aA (CS.aA (gw.aA kz)))).mono vK.size) g1.symm,aj.cast ((h9.gi (gw.aA kz)).mono JR.size) ?_⟩,bz⟩
    rw[g2,sY]
    cases s2 <;> rfl
  ·have sy:=En (s:=s2) hY0
   rw[<-e2] at sy
   have sr:=En (s:=s1) sY
   rcases hs12:(s1,s2) with ⟨_|_,_|_⟩ <;> cases hs12
   ·replace sr:(if false=true then-((X.natAbs%Y.natAbs:Nat):Int) else ((X.natAbs%Y.natAbs:Nat):Int)).sign=1:=sr
    replace sy:Y.sign=1:=sy
    refine VO.call rfl rfl (fk Tryz.func168) (λma oK uS=>(cd _ _ _ ma ((h9.gi oK).in z9) aa).mono ?_)
    rintro e w10 ⟨rfl,sQ⟩
    rw[sr]
    refine di sQ ?_
    intro gw _ CT
    refine VO.call rfl rfl (fk Tryz.func168) (λnz rC wi=>(cd _ _ _ nz ((h9.gi (gw.aA rC)).in z9) aa).mono ?_)
    rintro e w11 ⟨rfl,wj⟩
    rw[sr]
    refine di wj ?_
    intro kf _ FQ
    refine VO.call rfl rfl (fk Tryz.func168) (λnH rD wk=>(cd _ Y k nH ((h2.gi (dP.aA (iK.aA (ky.aA (qK.aA (BL.aA (BM.aA (CS.aA (gw.aA (kf.aA rD)))))))))).to lU) aa).mono ?_)
    rintro e w12 ⟨rfl,wm⟩
    rw[sy]
    refine⟨_,rfl,wm,λnI _ FR=>wV rfl ?_⟩
    (repeat (first|refine wN ?_|refine wP rfl ?_|refine xh rfl ?_|refine wO rfl rfl ?_))
    refine VS.uA (kY _ _) (iG _ _) 5 rfl ?_
    (repeat' (first|refine VA.go rfl ?_|refine VA.fin rfl ?_|refine VA.dp _ rfl rfl ?_|refine VA.cons rfl ?_ ?_|exact VA.nil rfl))
    all_goals
     refine dt ?_
     refine qf ?_;intro wz kz bz
     obtain⟨g1,g2⟩:=law e1 e2 hY0 (.inl ⟨.inl rfl,rfl,rfl⟩)
     exact⟨.inr ⟨hY,_,_,rfl,aj.cast ((h7.gi (BM.aA (CS.aA (gw.aA (kf.aA (nI.aA kz)))))).mono vK.size) g1.symm,aj.cast ((h9.gi (gw.aA (kf.aA (nI.aA kz)))).mono JR.size) g2.symm⟩,bz⟩
   ·replace sr:(if false=true then-((X.natAbs%Y.natAbs:Nat):Int) else ((X.natAbs%Y.natAbs:Nat):Int)).sign=1:=sr
    replace sy:Y.sign= -1:=sy
    refine VO.call rfl rfl (fk Tryz.func168) (λma oK uS=>(cd _ _ _ ma ((h9.gi oK).in z9) aa).mono ?_)
    rintro e w10 ⟨rfl,sQ⟩
    rw[sr]
    refine di sQ ?_
    intro gw _ CT
    refine VO.call rfl rfl (fk Tryz.func168) (λnz rC wi=>(cd _ _ _ nz ((h9.gi (gw.aA rC)).in z9) aa).mono ?_)
    rintro e w11 ⟨rfl,wj⟩
    rw[sr]
    refine di wj ?_
    intro kf _ FQ
    refine VO.call rfl rfl (fk Tryz.func168) (λnH rD wk=>(cd _ Y k nH ((h2.gi (dP.aA (iK.aA (ky.aA (qK.aA (BL.aA (BM.aA (CS.aA (gw.aA (kf.aA rD)))))))))).to lU) aa).mono ?_)
    rintro e w12 ⟨rfl,wm⟩
    rw[sy]
    refine di wm ?_
    intro nI _ FR
    refine VO.cI rfl rfl (fk Tryz.func136) (λAL JS JT=>iz 1 AL aa aa) (λAL JS JT w13 s13 p13 n13 c13 h13 hb13 AM _ bb13=>wV rfl ?_)
    refine dt ?_
    refine VO.cI rfl rfl (fk Tryz.func205) (λuT uU wq=>AD _ _ _ 1 _ 1 uT (((h7.gi (BM.aA (CS.aA (gw.aA (kf.aA (nI.aA (AM.aA uU))))))).in z7)) ((h13.gi uU).in (Sz.small ff)) aa aa) (λuT uU wq w14 s14 p14 n14 c14 h14 hb14 CU _ bb14=>wV rfl ?_)
    refine dt ?_
    refine VO.cI rfl rfl (fk Tryz.func159) (λAO ym CV=>qb _ _ _ Y _ k AO ((h9.gi (gw.aA (kf.aA (nI.aA (AM.aA (CU.aA ym)))))).in z9) ((h2.gi (dP.aA (iK.aA (ky.aA (qK.aA (BL.aA (BM.aA (CS.aA (gw.aA (kf.aA (nI.aA (AM.aA (CU.aA ym))))))))))))).to lU) aa aa) (λAO ym CV w15 s15 p15 n15 c15 h15 hb15 kb15 _ bb15=>wV rfl ?_)
    (repeat (first|refine wN ?_|refine wP rfl ?_|refine xh rfl ?_|refine wO rfl rfl ?_))
    refine VS.uA (kY _ _) (iG _ _) 5 rfl ?_
    (repeat' (first|refine VA.go rfl ?_|refine VA.fin rfl ?_|refine VA.dp _ rfl rfl ?_|refine VA.cons rfl ?_ ?_|exact VA.nil rfl))
    all_goals
     refine dt ?_
     refine qf ?_;intro wz kz bz
     have hlt:=Nat.mod_lt X.natAbs (show 0<Y.natAbs by omega)
     obtain⟨g1,g2⟩:=law e1 e2 hY0 (.inr ⟨by simp,sY,rfl,rfl⟩)
     refine⟨.inr ⟨hY,_,_,rfl,aj.cast ((h14.gi (kb15.aA kz)).mono wq.size) ?_,aj.cast ((h15.gi kz).mono CV.size) ?_⟩,bz⟩
     ·rw[g1];simp;omega
     ·rw[g2];simp at e1 e2 ⊢;omega
   ·replace sr:(if true=true then-((X.natAbs%Y.natAbs:Nat):Int) else ((X.natAbs%Y.natAbs:Nat):Int)).sign= -1:=sr
    replace sy:Y.sign=1:=sy
    refine VO.call rfl rfl (fk Tryz.func168) (λma oK uS=>(cd _ _ _ ma ((h9.gi oK).in z9) aa).mono ?_)
    rintro e w10 ⟨rfl,sQ⟩
    rw[sr]
    refine di sQ ?_
    intro gw _ CT
    refine VO.call rfl rfl (fk Tryz.func168) (λnz rC wi=>(cd _ _ _ nz ((h9.gi (gw.aA rC)).in z9) aa).mono ?_)
    rintro e w11 ⟨rfl,wj⟩
    rw[sr]
    refine di wj ?_
    intro kf _ FQ
    refine VO.call rfl rfl (fk Tryz.func168) (λnH rD wk=>(cd _ Y k nH ((h2.gi (dP.aA (iK.aA (ky.aA (qK.aA (BL.aA (BM.aA (CS.aA (gw.aA (kf.aA rD)))))))))).to lU) aa).mono ?_)
    rintro e w12 ⟨rfl,wm⟩
    rw[sy]
    refine di wm ?_
    intro nI _ FR
    refine VO.cI rfl rfl (fk Tryz.func136) (λAL JS JT=>iz 1 AL aa aa) (λAL JS JT w13 s13 p13 n13 c13 h13 hb13 AM _ bb13=>wV rfl ?_)
    refine dt ?_
    refine VO.cI rfl rfl (fk Tryz.func205) (λuT uU wq=>AD _ _ _ 1 _ 1 uT (((h7.gi (BM.aA (CS.aA (gw.aA (kf.aA (nI.aA (AM.aA uU))))))).in z7)) ((h13.gi uU).in (Sz.small ff)) aa aa) (λuT uU wq w14 s14 p14 n14 c14 h14 hb14 CU _ bb14=>wV rfl ?_)
    refine dt ?_
    refine VO.cI rfl rfl (fk Tryz.func159) (λAO ym CV=>qb _ _ _ Y _ k AO ((h9.gi (gw.aA (kf.aA (nI.aA (AM.aA (CU.aA ym)))))).in z9) ((h2.gi (dP.aA (iK.aA (ky.aA (qK.aA (BL.aA (BM.aA (CS.aA (gw.aA (kf.aA (nI.aA (AM.aA (CU.aA ym))))))))))))).to lU) aa aa) (λAO ym CV w15 s15 p15 n15 c15 h15 hb15 kb15 _ bb15=>wV rfl ?_)
    (repeat (first|refine wN ?_|refine wP rfl ?_|refine xh rfl ?_|refine wO rfl rfl ?_))
    refine VS.uA (kY _ _) (iG _ _) 5 rfl ?_
    (repeat' (first|refine VA.go rfl ?_|refine VA.fin rfl ?_|refine VA.dp _ rfl rfl ?_|refine VA.cons rfl ?_ ?_|exact VA.nil rfl))
    all_goals
     refine dt ?_
     refine qf ?_;intro wz kz bz
     have hlt:=Nat.mod_lt X.natAbs (show 0<Y.natAbs by omega)
     obtain⟨g1,g2⟩:=law e1 e2 hY0 (.inr ⟨by simp,sY,rfl,rfl⟩)
     refine⟨.inr ⟨hY,_,_,rfl,aj.cast ((h14.gi (kb15.aA kz)).mono wq.size) ?_,aj.cast ((h15.gi kz).mono CV.size) ?_⟩,bz⟩
     ·rw[g1];simp;omega
     ·rw[g2];simp at e1 e2 ⊢;omega
   ·replace sr:(if true=true then-((X.natAbs%Y.natAbs:Nat):Int) else ((X.natAbs%Y.natAbs:Nat):Int)).sign= -1:=sr
    replace sy:Y.sign= -1:=sy
    refine VO.call rfl rfl (fk Tryz.func168) (λma oK uS=>(cd _ _ _ ma ((h9.gi oK).in z9) aa).mono ?_)
    rintro e w10 ⟨rfl,sQ⟩
    rw[sr]
    refine di sQ ?_
    intro gw _ CT
    refine VO.call rfl rfl (fk Tryz.func168) (λnz rC wi=>(cd _ _ _ nz ((h9.gi (gw.aA rC)).in z9) aa).mono ?_)
    rintro e w11 ⟨rfl,wj⟩
    rw[sr]
    refine di wj ?_
    intro kf _ FQ
    refine VO.call rfl rfl (fk Tryz.func168) (λnH rD wk=>(cd _ Y k nH ((h2.gi (dP.aA (iK.aA (ky.aA (qK.aA (BL.aA (BM.aA (CS.aA (gw.aA (kf.aA rD)))))))))).to lU) aa).mono ?_)
    rintro e w12 ⟨rfl,wm⟩
    rw[sy]
    refine⟨_,rfl,wm,λnI _ FR=>wV rfl ?_⟩
    (repeat (first|refine wN ?_|refine wP rfl ?_|refine xh rfl ?_|refine wO rfl rfl ?_))
    refine VS.uA (kY _ _) (iG _ _) 5 rfl ?_
    (repeat' (first|refine VA.go rfl ?_|refine VA.fin rfl ?_|refine VA.dp _ rfl rfl ?_|refine VA.cons rfl ?_ ?_|exact VA.nil rfl))
    all_goals
     refine dt ?_
     refine qf ?_;intro wz kz bz
     obtain⟨g1,g2⟩:=law e1 e2 hY0 (.inl ⟨.inl rfl,rfl,rfl⟩)
     exact⟨.inr ⟨hY,_,_,rfl,aj.cast ((h7.gi (BM.aA (CS.aA (gw.aA (kf.aA (nI.aA kz)))))).mono vK.size) g1.symm,aj.cast ((h9.gi (gw.aA (kf.aA (nI.aA kz)))).mono JR.size) g2.symm⟩,bz⟩
set_option maxRecDepth 4000
theorem gcd_len {a b N:Nat} (hb:b≠0) (ha:(halves a).length<=N) (hbl:(halves b).length<=N):(halves (a%b)).length<=N:=Nat.le_trans (cM aa (Nat.le_of_lt (Nat.mod_lt a (Nat.pos_of_ne_zero hb)))) hbl
theorem ll {P:Prop} (h:P:=by (repeat first|exact trivial|refine⟨aq.lit rfl,?_⟩|refine⟨aq.vals _,?_⟩)):P:=h
theorem uV (v u:Value) (X Y:Int) (j k:Nat) (w:World) (hv:bk w v X j) (hu:bk w u Y k) (hj:j<=268435456) (hk:k<=268435456):
  Calls Tryz.prog 169 #[v,u] w λe w'=>∃ r,e=.returned r/\aj w' w.heap.size r (Int.gcd X Y:Int)/\ax w w':=by
 obtain⟨s,p,n,c,rfl⟩:=hv.form
 obtain⟨t,q,m,d,rfl⟩:=hu.form
 have oU:=hv.len
 have lU:=hu.len
 have l1:=eJ X.natAbs
 have l2:=eJ Y.natAbs
 refine ae (C:=CE Tryz.prog w _) (args:=[_,_]) Tryz.func169 rfl Tryz.ntmps169 (bt rfl) ?_
 refine dt ?_
 refine VO.call rfl rfl (fk Tryz.func186) (λaK bn aU=>(gT _ X j aK (hv.gi bn)).mono ?_)
 rintro e w1 ⟨r1,rfl,h1,aC⟩
 obtain⟨s1,p1,n1,c1,rfl⟩:=h1.eD
 refine di aC ?_
 intro bL _ bb1
 refine VO.call rfl rfl (fk Tryz.func191) (λck cJ da=>(fF _ n1 X.natAbs ck (h1.row.gi cJ) (by rw[h1.n];omega)).mono ?_)
 rintro e w3 ⟨p3,c3,rfl,h3,bM⟩
 skip
 refine di bM ?_
 intro dP _ bb3
 refine VO.call rfl rfl (fk Tryz.func186) (λaZ bI bu=>(gT _ Y k aZ (hu.gi (bL.aA (dP.aA bI)))).mono ?_)
 rintro e w2 ⟨r2,rfl,h2,aQ⟩
 obtain⟨s2,p2,n2,c2,rfl⟩:=h2.eD
 refine di aQ ?_
 intro cH _ bb2
 refine VO.call rfl rfl (fk Tryz.func191) (λdW eT fD=>(fF _ n2 Y.natAbs dW (h2.row.gi eT) (by rw[h2.n];omega)).mono ?_)
 rintro e w4 ⟨p4,c4,rfl,h4,fb⟩
 skip
 refine di fb ?_
 intro iK _ oY
 refine VS.loop (J:=λms L M w'=>∃ (a b:Nat) (px:Option Addr) (cx:Nat) (py:Option Addr) (cy:Nat),ms=b/\Nat.gcd a b=Int.gcd X Y/\L=[(4,.box 4 0),(5,.val (.slice px (halves a).length cx)),(6,.val (.slice py (halves b).length cy))]/\M=[(4,(53,([.bool false,.slice none 0 0]:List Value).map .val))]/\
  (halves a).length<=536870912/\(halves b).length<=536870912/\w'.ownsRow w.heap.size 3 1 (.slice px (halves a).length cx) (halves a).length (ints .i64 (halves a))/\w'.ownsRow w.heap.size 3 1 (.slice py (halves b).length cy) (halves b).length (ints .i64 (halves b))) Y.natAbs
  ⟨_,_,?_,?_,?_,?_,⟨X.natAbs,Y.natAbs,p3,c3,p4,c4,rfl,rfl,rfl,rfl,by omega,by omega,sP.kp (Own.mono h3 da.size) (cH.aA iK),Own.mono h4 fD.size⟩⟩ ?_
 ·exact dX
 ·exact dX
 ·rfl
 ·exact ll
 rintro ms L M w' ⟨a,b,px,cx,py,cy,hms,hg,rfl,rfl,la,lb,oa,ob⟩
 refine dt ?_
 by_cases jR:b=0
 ·subst jR
  have hl0:(halves 0).length=0:=by rw[jr];rfl
  refine VS.bB rfl (decide_eq_false (by rw[hl0];omega)) ?_
  refine dt ?_
  refine VO.call rfl rfl (fk Tryz.func189) (λlR lZ qJ=>(lj _ _ a lR (Rd.own (sP.kp oa lZ)) aa).mono ?_)
  rintro e w6 ⟨p6,c6,xs6,rfl,h6,hx6,hl6,oG⟩
  skip
  refine di oG ?_
  intro qK _ yL
  refine VO.cI rfl rfl (fk Tryz.func171) (λxp wh vK=>fY false _ _ xs6 xp (Rd.own (OwnU.gi h6 wh)) hl6 aa) (λxp wh vK w7 s7 p7 n7 c7 h7 Ef BL _ bb7=>wV rfl ?_)
  refine dt ?_
  refine qf ?_;intro wz kz bz
  refine⟨_,rfl,aj.cast ((h7.gi kz).mono vK.size) ?_,bz⟩
  rw[hx6,<-hg,Nat.gcd_zero_right];rfl
 ·have hlp:0<(halves b).length:=lM aa jR
  refine VS.bo rfl (decide_eq_true aa) ?_
  refine dt ?_
  refine VO.call rfl rfl (fk Tryz.func204) (λfv gh gv=>(uQ _ _ _ _ a b fv (Rd.own (sP.kp oa gh)) (Rd.own (sP.kp ob gh)) aa aa aa).mono ?_)
  rintro e w5 ⟨p5,c5,q5,d5,rfl,h5,h5',gW⟩
  skip
  refine di gW ?_
  intro ky _ tt
  refine VS.back (a%b) (by rw[hms];exact Nat.mod_lt _ aa) ⟨_,_,?_,?_,?_,?_,⟨b,a%b,py,cy,q5,d5,rfl,by rw[<-hg,Nat.gcd_comm a b,Nat.gcd_comm b (a%b)];exact (Nat.gcd_rec b a).symm,rfl,rfl,lb,gcd_len jR la lb,sP.kp ob ky,Own.mono h5' gv.size⟩⟩
  ·exact dX
  ·exact dX
  ·rfl
  ·exact ll
end
set_option maxRecDepth 4000
section
open Go.RowKit
attribute [local irreducible] ao VS
theorem ln (w:World):Calls Tryz.prog 41 #[] w λe w'=>∃ r,e=.returned r/\aj w' w.heap.size r 1/\ax w w':=by
 refine ae (C:=aR Tryz.prog w _) (args:=[]) Tryz.func41 rfl Tryz.ntmps41 (bt rfl) ?_
 refine ab ?_
 refine VO.cI rfl rfl (fk Tryz.func40) (λaK bn aU=>kZ 1 aK aa aa) (λaK bn aU w1 s1 p1 n1 c1 h1 aC bL _ bb1=>wV rfl ?_)
 refine ab ?_
 refine az ?_;intro wz kz bz
 exact⟨_,rfl,(h1.kp kz).mono aU.size,bz⟩
def nW (s:Bool) (xs:List Nat) (t:Bool) (ys:List Nat):Bool:=cK s xs && (cK t ys && (decide (0<numOf t ys) && decide (Int.gcd (numOf s xs) (numOf t ys)=1)))
theorem qg {s t:Bool} {xs ys:List Nat} (h:nW s xs t ys=false):rq s xs t ys=0:=by
 unfold rq CM
 split
 ·rename_i hc
  cases h1:cK s xs with
  | false=>unfold numOf;rw[if_neg (by simp[h1])];simp
  | true=>
    cases h2:cK t ys with
    | false=>
      have:numOf t ys=0:=by unfold numOf;rw[if_neg (by simp[h2])]
      omega
    | true=>
      unfold nW at h
      rw[h1,h2,decide_eq_true hc.1,decide_eq_true hc.2] at h
      cases h
 ·rfl
theorem Ep {s t:Bool} {xs ys:List Nat} (h:nW s xs t ys=true):cK s xs=true/\cK t ys=true/\0<numOf t ys/\Int.gcd (numOf s xs) (numOf t ys)=1:=by
 unfold nW at h
 simp only[Bool.and_eq_true,decide_eq_true_eq] at h
 exact h
theorem eb.lim {w:World} {v:Value} {s:Bool} {xs:List Nat} (h:eb w v s xs):bH xs:=by
 obtain⟨_,_,_,_,l⟩:=h
 exact l
theorem qh {w:World} {v:Value} {s t:Bool} {xs ys:List Nat} (hv:bP w v s xs t ys) (h:nW s xs t ys=true):aX w v (rq s xs t ys):=by
 obtain⟨h1,h2,h3,h4⟩:=Ep h
 obtain⟨p,c,r,d,rfl,a1,a2⟩:=hv
 obtain⟨e1,e2⟩:=ld ⟨h3,h4⟩
 refine⟨s,p,_,c,t,r,_,d,rfl,?_,?_⟩
 ·unfold rq;rw[e1]
  have l:=a1.lim
  unfold numOf
  rw[if_pos h1]
  obtain⟨c1,c2⟩:=canon l h1
  show eb _ _ _ _
  rw[<-c1,<-c2]
  assumption
 ·unfold rq;rw[e2]
  have l:=a2.lim
  unfold numOf
  rw[if_pos h2]
  obtain⟨c1,c2⟩:=canon l h2
  show eb _ _ _ _
  rw[<-c1,<-c2]
  assumption
theorem eb.in {w:World} {v:Value} {s:Bool} {xs:List Nat} {k:Nat} (h:eb w v s xs) (hk:xs.length<=k):bk w v (numOf s xs) k:=⟨s,xs,h,rfl,hk⟩
theorem iA (s t:Bool) (xs ys:List Nat) (v:Value) (w:World) (h:bP w v s xs t ys) (hx:xs.length<=536870912) (hy:ys.length<=536870912):
  Calls Tryz.prog 97 #[v] w λe w'=>e=.returned (.bool (nW s xs t ys))/\ax w w':=by
 obtain⟨p,c,r,d,rfl,h1,h2⟩:=h
 refine ae (C:=aR Tryz.prog w _) (args:=[_]) Tryz.func97 rfl Tryz.ntmps97 (bt rfl) ?_
 refine ab ?_
 refine VO.call rfl rfl (fk Tryz.func150) (λaK bn aU=>(oB s xs _ aK (h1.bq aU)).mono ?_)
 rintro e w1 ⟨rfl,aC⟩
 cases q1:cK s xs
 ·refine aB aC ?_
  intro bL _ bb1
  refine az ?_;intro wz kz bz
  exact⟨by simp[nW,q1,iu],bz⟩
 refine aB aC ?_
 intro bL _ bb1
 refine VO.call rfl rfl (fk Tryz.func150) (λaZ bI bu=>(oB t ys _ aZ (h2.bq bu)).mono ?_)
 rintro e w2 ⟨rfl,aQ⟩
 cases q2:cK t ys
 ·refine aB aQ ?_
  intro cH _ bb2
  refine az ?_;intro wz kz bz
  exact⟨by simp[nW,q1,q2,iu],bz⟩
 refine aB aQ ?_
 intro cH _ bb2
 refine VO.call rfl rfl (fk Tryz.func112) (λck cJ da=>(iH _ (numOf t ys) _ ck ((h2.in (Nat.le_refl _)).bq da)).mono ?_)
 rintro e w3 ⟨rfl,bM⟩
 by_cases q3:0<numOf t ys
 ·rw[cW q3]
  refine aB bM ?_
  intro dP _ bb3
  refine VO.cI rfl rfl (fk Tryz.func146) (λdW eT fD=>Av _ _ (numOf s xs) (numOf t ys) _ _ dW ((h1.in (Nat.le_refl _)).bq fD) ((h2.in (Nat.le_refl _)).bq fD) hx hy) (λdW eT fD w4 s4 p4 n4 c4 h4 fb iK _ oY=>wV rfl ?_)
  refine ab ?_
  refine VO.cI rfl rfl (fk Tryz.func41) (λfv gh gv=>ln fv) (λfv gh gv w5 s5 p5 n5 c5 h5 gW ky _ tt=>wV rfl ?_)
  refine ab ?_
  have hg:Sz (Int.gcd (numOf s xs) (numOf t ys):Int) ys.length:=by
   obtain⟨_,_,_,_,l2⟩:=h2
   refine Sz.le (Y:=numOf t ys) (qa l2 (Nat.le_refl _)) ?_
   rw[Int.natAbs_natCast,<-Int.natAbs_natCast (Int.gcd (numOf s xs) (numOf t ys))]
   have:=Int.gcd_dvd_right (numOf s xs) (numOf t ys)
   have:=Int.natAbs_dvd_natAbs.2 this
   exact Nat.le_of_dvd aa this
  refine VO.call rfl rfl (fk Tryz.func51) (λlR lZ qJ=>(kc _ _ (Int.gcd (numOf s xs) (numOf t ys):Int) 1 _ 1 lR ((h4.kp (gh.aA ((Kp.of gW).aA lZ))).in hg) ((h5.kp lZ).in (Sz.small ff)) aa aa).mono ?_)
  rintro e w6 ⟨rfl,oG⟩
  by_cases q4:Int.gcd (numOf s xs) (numOf t ys)=1
  ·rw[show ((Int.gcd (numOf s xs) (numOf t ys):Int)-1).sign=0 by rw[q4];rfl]
   refine aB oG ?_
   intro qK _ yL
   refine az ?_;intro wz kz bz
   exact⟨by simp[nW,q1,q2,q3,q4,iu],bz⟩
  ·have hne:(((Int.gcd (numOf s xs) (numOf t ys):Int)-1).sign == 0)=false:=by
    rw[beq_eq_false_iff_ne]
    intro e
    have:=Int.sign_eq_zero_iff_zero.1 e
    omega
   refine aB oG ?_
   intro qK _ yL
   refine az ?_;intro wz kz bz
   exact⟨by simp only[nW,q1,q2,q3,q4,iu,Bool.true_and,decide_true,decide_false,hne],bz⟩
 ·have q4:(numOf t ys).sign=0\/(numOf t ys).sign= -1:=by
   rcases Int.lt_trichotomy (numOf t ys) 0 with e|e|e
   ·exact .inr (sign_neg e)
   ·rw[e];exact .inl rfl
   ·exact absurd e q3
  rcases q4 with q4|q4
  all_goals
   rw[q4]
   refine aB bM ?_
   intro dP _ bb3
   refine az ?_;intro wz kz bz
   exact⟨by simp[nW,q1,q2,q3,iu],bz⟩
theorem aX.zero {w:World} {p:Option Addr} {n c:Nat} {s:Bool} (h:bf w (.agg #[.bool s,.slice p n c]) 1):aX w (.agg #[.bool false,.slice none 0 0,.bool s,.slice p n c]) 0:=⟨_,_,_,_,_,_,_,_,rfl,bf.zero _,h⟩
theorem aH.zero {w:World} {B:Nat} {p:Option Addr} {n c:Nat} {s:Bool} (h:aj w B (.agg #[.bool s,.slice p n c]) 1):aH w B (.agg #[.bool false,.slice none 0 0,.bool s,.slice p n c]) 0:=⟨_,_,_,_,_,_,_,_,rfl,aj.zero _ _,h⟩
theorem bJ (v:Value) (q:Rat) (k:Nat) (w:World) (h:ay w v q k) (hk:k<=536870912):
  Calls Tryz.prog 45 #[v] w λe w'=>∃ r,e=.returned r/\aX w' r q/\ax w w':=by
 obtain⟨s,xs,t,ys,eW,rfl,hx,hy⟩:=h
 have sm:=eW
 obtain⟨p,c,r,d,rfl,_,_⟩:=eW
 refine ae (C:=aR Tryz.prog w _) (args:=[_]) Tryz.func45 rfl Tryz.ntmps45 (bt rfl) ?_
 refine ab ?_
 refine VO.call rfl rfl (fk Tryz.func97) (λaK bn aU=>(iA s t xs ys _ aK (sm.kp bn) aa aa).mono ?_)
 rintro e w1 ⟨rfl,aC⟩
 cases hq:nW s xs t ys
 ·refine aB aC ?_
  intro bL _ bb1
  refine VO.cI rfl rfl (fk Tryz.func41) (λaZ bI bu=>ln aZ) (λaZ bI bu w2 s2 p2 n2 c2 h2 aQ cH _ bb2=>wV rfl ?_)
  refine ab ?_
  refine az ?_;intro wz kz bz
  exact⟨_,rfl,by rw[qg hq];exact aX.zero (h2.kp kz).rd,bz⟩
 ·refine aB aC ?_
  intro bL _ bb1
  refine az ?_;intro wz kz bz
  exact⟨_,rfl,(qh sm hq).kp (bL.aA kz),bz⟩
theorem yn {X Y:Int} {k:Nat} (hY:Sz Y k) (h:Y≠0):Sz (Int.gcd X Y:Int) k:=by
 refine Sz.le (Y:=Y) hY ?_
 rw[Int.natAbs_natCast,<-Int.natAbs_natCast (Int.gcd X Y)]
 exact Nat.le_of_dvd aa (Int.natAbs_dvd_natAbs.2 (Int.gcd_dvd_right X Y))
theorem du {w w':World} {X Y:Int} {e:Ending} (h:uH w w' X Y e) (hY:Y≠0):∃ v u,e=.returned (.tuple #[v,u,.int .i64 0])/\aj w' w.heap.size v (X.fdiv Y)/\aj w' w.heap.size u (X.fmod Y):=by
 rcases h with ⟨h0,_⟩|⟨_,h⟩
 ·exact absurd h0 hY
 ·exact h
theorem ju (v u:Value) (X Y:Int) (j k:Nat) (w:World) (hv:bk w v X j) (hu:bk w u Y k) (hj:j<=268435456) (hk:k<=268435456) (hY:Y≠0):
  Calls Tryz.prog 94 #[v,u] w λe w'=>∃ r,e=.returned r/\aH w' w.heap.size r (Rat.divInt X Y)/\ax w w':=by
 obtain⟨s,p,n,c,rfl⟩:=hv.form
 obtain⟨t,r,m,d,rfl⟩:=hu.form
 refine ae (C:=aR Tryz.prog w _) (args:=[_,_]) Tryz.func94 rfl Tryz.ntmps94 (bt rfl) ?_
 refine ab ?_
 refine VO.cI rfl rfl (fk Tryz.func146) (λaK bn aU=>Av _ _ X Y j k aK (hv.kp bn) (hu.kp bn) aa aa) (λaK bn aU w1 s1 p1 n1 c1 h1 aC bL _ bb1=>wV rfl ?_)
 refine ab ?_
 refine VO.call rfl rfl (fk Tryz.func112) (λaZ bI bu=>(iH _ Y k aZ (hu.bq bu)).mono ?_)
 rintro e w2 ⟨rfl,aQ⟩
 have JU:Sz (Int.gcd X Y:Int) k:=yn hu.len hY
 have Jx:(Int.gcd X Y:Int)≠0:=by
  intro e
  have:=(Int.gcd_eq_zero_iff.1 (show Int.gcd X Y=0 by omega)).2
  exact hY this
 rcases Int.lt_or_lt_of_ne hY with q|q
 ·rw[sign_neg q]
  obtain⟨l1,l2⟩:=low_neg (X:=X) q
  refine aB aQ ?_
  intro cH _ bb2
  refine VO.cI rfl rfl (fk Tryz.func98) (λck cJ da=>Au _ (Int.gcd X Y:Int) k ck ((h1.kp (cH.aA cJ)).in JU) aa) (λck cJ da w3 s3 p3 n3 c3 h3 bM dP _ bb3=>wV rfl ?_)
  refine ab ?_
  refine VO.call rfl rfl (fk Tryz.func147) (λdW eT fD=>(ic _ _ X (-(Int.gcd X Y:Int)) j k dW (hv.bq fD) ((h3.kp eT).in JU.neg) aa aa).mono ?_)
  rintro e w4 ⟨hd4,fb⟩
  obtain⟨v4,u4,rfl,h4,h4'⟩:=du hd4 aa
  obtain⟨s4,p4,n4,c4,rfl⟩:=h4.form
  obtain⟨t4,r4,m4,d4,rfl⟩:=h4'.form
  refine aB fb ?_
  intro iK _ oY
  refine VO.call rfl rfl (fk Tryz.func147) (λfv gh gv=>(ic _ _ Y (-(Int.gcd X Y:Int)) k k fv (hu.bq gv) ((h3.kp (iK.aA gh)).in JU.neg) aa aa).mono ?_)
  rintro e w5 ⟨hd5,gW⟩
  obtain⟨v5,u5,rfl,h5,h5'⟩:=du hd5 aa
  obtain⟨s5,p5,n5,c5,rfl⟩:=h5.form
  obtain⟨t5,r5,m5,d5,rfl⟩:=h5'.form
  refine aB gW ?_
  intro ky _ tt
  refine az ?_;intro wz kz bz
  exact⟨_,rfl,⟨_,_,_,_,_,_,_,_,rfl,aj.cast ((h4.kp (ky.aA kz)).mono fD.size) l1,aj.cast ((h5.kp kz).mono gv.size) l2⟩,bz⟩
 ·rw[cW q]
  obtain⟨l1,l2⟩:=tr (X:=X) q
  refine aB aQ ?_
  intro cH _ bb2
  refine VO.call rfl rfl (fk Tryz.func147) (λdW eT fD=>(ic _ _ X (Int.gcd X Y:Int) j k dW (hv.bq fD) ((h1.kp (cH.aA eT)).in JU) aa aa).mono ?_)
  rintro e w4 ⟨hd4,fb⟩
  obtain⟨v4,u4,rfl,h4,h4'⟩:=du hd4 aa
  obtain⟨s4,p4,n4,c4,rfl⟩:=h4.form
  obtain⟨t4,r4,m4,d4,rfl⟩:=h4'.form
  refine aB fb ?_
  intro iK _ oY
  refine VO.call rfl rfl (fk Tryz.func147) (λfv gh gv=>(ic _ _ Y (Int.gcd X Y:Int) k k fv (hu.bq gv) ((h1.kp (cH.aA (iK.aA gh))).in JU) aa aa).mono ?_)
  rintro e w5 ⟨hd5,gW⟩
  obtain⟨v5,u5,rfl,h5,h5'⟩:=du hd5 aa
  obtain⟨s5,p5,n5,c5,rfl⟩:=h5.form
  obtain⟨t5,r5,m5,d5,rfl⟩:=h5'.form
  refine aB gW ?_
  intro ky _ tt
  refine az ?_;intro wz kz bz
  exact⟨_,rfl,⟨_,_,_,_,_,_,_,_,rfl,aj.cast ((h4.kp (ky.aA kz)).mono fD.size) l1,aj.cast ((h5.kp kz).mono gv.size) l2⟩,bz⟩
end
section
open Go.RowKit
attribute [local irreducible] ao VS
theorem tz (q r:Rat):q+r=Rat.divInt (q.num*r.den+r.num*q.den) ((q.den:Int)*r.den):=by
 rw[Rat.add_def',<-Rat.divInt_ofNat];simp
theorem add_same {q r:Rat} (h:(q.den:Int)=r.den):q+r=Rat.divInt (q.num+r.num) q.den:=by
 rw[tz,<-h]
 have hd:(q.den:Int)≠0:=by have:=q.den_nz;omega
 rw[<-Int.add_mul,Rat.divInt_mul_right hd]
theorem Er (q r:Rat):q*r=Rat.divInt (q.num*r.num) ((q.den:Int)*r.den):=by
 rw[Rat.mul_def',<-Rat.divInt_ofNat];simp
theorem kh {X Y:Int} {k l:Nat} (hX:Sz X k) (hY:Sz Y l) (h:Y≠0):Sz (Rat.divInt X Y).num k/\Sz ((Rat.divInt X Y).den:Int) l:=by
 constructor
 ·refine Sz.le hX ?_
  rw[Rat.num_divInt]
  have h1:(Y.sign*X/(Y.gcd X:Int)).natAbs<=(Y.sign*X).natAbs:=Int.natAbs_ediv_le_natAbs _ _
  rw[Int.natAbs_mul] at h1
  have h2:Y.sign.natAbs=1:=by
   rcases Int.lt_or_lt_of_ne h with e|e
   ·rw[sign_neg e];rfl
   ·rw[cW e];rfl
  rw[h2,Nat.one_mul] at h1
  exact h1
 ·refine Sz.le hY ?_
  rw[Rat.den_divInt,if_neg h,Int.natAbs_natCast]
  exact Nat.div_le_self _ _
theorem bS.add {q r:Rat} {k l:Nat} (hq:bS q k) (hr:bS r l):bS (q+r) (k+l+1):=by
 rw[tz]
 have hd:(q.den:Int)*r.den≠0:=Int.mul_ne_zero (by have:=q.den_nz;omega) (by have:=r.den_nz;omega)
 obtain⟨h1,h2⟩:=kh (Sz.add (hq.1.mul hr.2) (hr.1.mul hq.2) (m:=k+l) aa aa) (hq.2.mul hr.2) hd
 exact⟨h1,h2.mono aa⟩
theorem bS.mul {q r:Rat} {k l:Nat} (hq:bS q k) (hr:bS r l):bS (q*r) (k+l):=by
 rw[Er]
 have hd:(q.den:Int)*r.den≠0:=Int.mul_ne_zero (by have:=q.den_nz;omega) (by have:=r.den_nz;omega)
 exact kh (hq.1.mul hr.1) (hq.2.mul hr.2) hd
theorem bS.neg {q:Rat} {k:Nat} (hq:bS q k):bS (-q) k:=⟨by rw[Rat.neg_num];exact hq.1.neg,by rw[Rat.neg_den];exact hq.2⟩
theorem bS.sub {q r:Rat} {k l:Nat} (hq:bS q k) (hr:bS r l):bS (q-r) (k+l+1):=by rw[Rat.sub_eq_add_neg];exact hq.add hr.neg
def jh (q r:Rat):Int:=if q<r then-1 else if q=r then 0 else 1
theorem AP (q r:Rat):(q.num*r.den-r.num*q.den).sign=jh q r:=by
 unfold jh
 by_cases h1:q<r
 ·rw[if_pos h1];exact sign_neg (by have:=(Rat.lt_iff q r).1 h1;omega)
 ·rw[if_neg h1]
  by_cases h2:q=r
  ·subst h2;rw[if_pos rfl,Int.sub_self];rfl
  ·rw[if_neg h2]
   refine cW ?_
   have a:=mt (Rat.lt_iff q r).2 h1
   have b:=mt Rat.eq_iff_mul_eq_mul.2 h2
   omega
theorem FU (q:Rat):q.num.sign=jh q 0:=by
 have:=AP q 0
 simpa using this
def mR (Y:Int):Int:=if Y=0 then 20 else 0
theorem CW (v u:Value) (X Y:Int) (j k:Nat) (w:World) (hv:bk w v X j) (hu:bk w u Y k) (hj:j<=268435456) (hk:k<=268435456):
  Calls Tryz.prog 174 #[v,u] w λe w'=>∃ r,e=.returned (.tuple #[r,.int .i64 (mR Y)])/\aH w' w.heap.size r (Rat.divInt X Y)/\ax w w':=by
 obtain⟨s,p,n,c,rfl⟩:=hv.form
 obtain⟨t,r,m,d,rfl⟩:=hu.form
 refine ae (C:=aR Tryz.prog w _) (args:=[_,_]) Tryz.func174 rfl Tryz.ntmps174 (bt rfl) ?_
 refine ab ?_
 refine VO.call rfl rfl (fk Tryz.func112) (λaK bn aU=>(iH _ Y k aK (hu.bq aU)).mono ?_)
 rintro e w1 ⟨rfl,aC⟩
 by_cases hY:Y=0
 ·rw[show Y.sign=0 by rw[hY];rfl]
  refine aB aC ?_
  intro bL _ bb1
  refine VO.cI rfl rfl (fk Tryz.func41) (λaZ bI bu=>ln aZ) (λaZ bI bu w2 s2 p2 n2 c2 h2 aQ cH _ bb2=>wV rfl ?_)
  refine ab ?_
  refine az ?_;intro wz kz bz
  refine⟨_,by rw[mR,if_pos hY];rfl,?_,bz⟩
  rw[hY,Rat.divInt_zero]
  exact aH.zero ((h2.kp kz).mono bu.size)
 ·have hs:(Y.sign == 0)=false:=by
   rw[beq_eq_false_iff_ne]
   exact λe=>hY (Int.sign_eq_zero_iff_zero.1 e)
  rcases Int.lt_or_lt_of_ne hY with q|q
  all_goals
   first|rw[sign_neg q]|rw[cW q]
   refine aB aC ?_
   intro bL _ bb1
   refine VO.cR rfl rfl (fk Tryz.func94) (λaZ bI bu=>ju _ _ X Y j k aZ (hv.bq bu) (hu.bq bu) hj hk hY) (λaZ bI bu w2 s2 p2 n2 c2 t2 r2 m2 d2 h2 aQ cH _ bb2=>wV rfl ?_)
   refine ab ?_
   refine az ?_;intro wz kz bz
   exact⟨_,by rw[mR,if_neg hY];rfl,(h2.kp kz).mono bu.size,bz⟩
theorem FV (n d:Int) (w:World) (h0: -9223372036854775808<=n) (h1:n<=9223372036854775807) (g0: -9223372036854775808<=d) (g1:d<=9223372036854775807):
  Calls Tryz.prog 143 #[.int .i64 n,.int .i64 d] w λe w'=>∃ r,e=.returned (.tuple #[r,.int .i64 (mR d)])/\aH w' w.heap.size r (Rat.divInt n d)/\ax w w':=by
 refine ae (C:=aR Tryz.prog w _) (args:=[_,_]) Tryz.func143 rfl Tryz.ntmps143 (bt rfl) ?_
 refine ab ?_
 refine VO.cI rfl rfl (fk Tryz.func40) (λaK bn aU=>kZ n aK h0 h1) (λaK bn aU w1 s1 p1 n1 c1 q1 aC bL _ bb1=>wV rfl ?_)
 refine ab ?_
 refine VO.cI rfl rfl (fk Tryz.func40) (λaZ bI bu=>kZ d aZ g0 g1) (λaZ bI bu w2 s2 p2 n2 c2 q2 aQ cH _ bb2=>wV rfl ?_)
 refine ab ?_
 refine VO.call rfl rfl (fk Tryz.func174) (λck cJ da=>(CW _ _ n d 2 2 ck ((q1.kp (cH.aA cJ)).in (Sz.of_lt aa)) ((q2.kp cJ).in (Sz.of_lt aa)) aa aa).mono ?_)
 rintro e w3 ⟨r3,rfl,q3,bM⟩
 obtain⟨s3,p3,n3,c3,t3,x3,m3,d3,rfl⟩:=q3.form
 refine aB bM ?_
 intro dP _ bb3
 refine az ?_;intro wz kz bz
 exact⟨_,rfl,(q3.kp kz).mono da.size,bz⟩
theorem bK (n:Int) (w:World) (h0: -9223372036854775808<=n) (h1:n<=9223372036854775807):
  Calls Tryz.prog 11 #[.int .i64 n] w λe w'=>∃ r,e=.returned r/\aH w' w.heap.size r (n:Rat)/\ax w w':=by
 refine ae (C:=aR Tryz.prog w _) (args:=[_]) Tryz.func11 rfl Tryz.ntmps11 (bt rfl) ?_
 refine ab ?_
 refine VO.cI rfl rfl (fk Tryz.func40) (λaK bn aU=>kZ n aK h0 h1) (λaK bn aU w1 s1 p1 n1 c1 q1 aC bL _ bb1=>wV rfl ?_)
 refine ab ?_
 refine VO.cI rfl rfl (fk Tryz.func41) (λaZ bI bu=>ln aZ) (λaZ bI bu w2 s2 p2 n2 c2 q2 aQ cH _ bb2=>wV rfl ?_)
 refine ab ?_
 refine az ?_;intro wz kz bz
 exact⟨_,rfl,⟨_,_,_,_,_,_,_,_,rfl,(q1.kp (cH.aA kz)).mono aU.size,(q2.kp kz).mono bu.size⟩,bz⟩
theorem kj (v u:Value) (q r:Rat) (k l:Nat) (w:World) (hv:aX w v q) (hu:aX w u r) (hq:bS q k) (hr:bS r l) (hk:k<=67108864) (hl:l<=67108864):
  Calls Tryz.prog 44 #[v,u] w λe w'=>∃ x,e=.returned x/\aH w' w.heap.size x (q+r)/\ax w w':=by
 obtain⟨s,p,n,c,t,y,m,d,rfl⟩:=hv.form
 obtain⟨s',p',n',c',t',y',m',d',rfl⟩:=hu.form
 obtain⟨v1,v2⟩:=hv.parts
 obtain⟨u1,u2⟩:=hu.parts
 have dq:(q.den:Int)≠0:=by have:=q.den_nz;omega
 have dr:(r.den:Int)≠0:=by have:=r.den_nz;omega
 refine ae (C:=aR Tryz.prog w _) (args:=[_,_]) Tryz.func44 rfl Tryz.ntmps44 (bt rfl) ?_
 refine ab ?_
 refine VO.call rfl rfl (fk Tryz.func51) (λaK bn aU=>(kc _ _ (q.den:Int) r.den k l aK ((v2.bq aU).to hq.2) ((u2.bq aU).to hr.2) aa aa).mono ?_)
 rintro e w1 ⟨rfl,aC⟩
 by_cases hd:(q.den:Int)=r.den
 ·rw[show ((q.den:Int)-r.den).sign=0 by rw[hd,Int.sub_self];rfl]
  refine aB aC ?_
  intro bL _ bb1
  refine VO.cI rfl rfl (fk Tryz.func95) (λaZ bI bu=>uG _ _ q.num r.num k l aZ ((v1.bq bu).to hq.1) ((u1.bq bu).to hr.1) aa aa) (λaZ bI bu w2 s2 p2 n2 c2 q2 aQ cH _ bb2=>wV rfl ?_)
  refine ab ?_
  refine VO.cR rfl rfl (fk Tryz.func94) (λck cJ da=>ju _ _ (q.num+r.num) q.den (k+l+1) k ck ((q2.kp cJ).in (Sz.add hq.1 hr.1 aa aa)) ((v2.bq da).to hq.2) aa aa dq) (λck cJ da w3 s3 p3 n3 c3 t3 y3 m3 d3 q3 bM dP _ bb3=>wV rfl ?_)
  refine ab ?_
  refine az ?_;intro wz kz bz
  exact⟨_,rfl,aH.cast ((q3.kp kz).mono da.size) (add_same hd).symm,bz⟩
 ·have hs:((((q.den:Int)-r.den).sign == 0))=false:=by
   rw[beq_eq_false_iff_ne]
   intro e
   have:=Int.sign_eq_zero_iff_zero.1 e
   omega
  rcases Int.lt_or_lt_of_ne (show (q.den:Int)-r.den≠0 by omega) with e|e
  all_goals
   first|rw[sign_neg e]|rw[cW e]
   refine aB aC ?_
   intro bL _ bb1
   refine VO.cI rfl rfl (fk Tryz.func96) (λaZ bI bu=>jb _ _ q.num r.den k l aZ ((v1.bq bu).to hq.1) ((u2.bq bu).to hr.2) aa aa) (λaZ bI bu w2 s2 p2 n2 c2 q2 aQ cH _ bb2=>wV rfl ?_)
   refine ab ?_
   refine VO.cI rfl rfl (fk Tryz.func96) (λck cJ da=>jb _ _ r.num q.den l k ck ((u1.bq da).to hr.1) ((v2.bq da).to hq.2) aa aa) (λck cJ da w3 s3 p3 n3 c3 q3 bM dP _ bb3=>wV rfl ?_)
   refine ab ?_
   refine VO.cI rfl rfl (fk Tryz.func95) (λdW eT fD=>uG _ _ (q.num*r.den) (r.num*q.den) (k+l) (l+k) dW ((q2.kp (dP.aA eT)).in (hq.1.mul hr.2)) ((q3.kp eT).in (hr.1.mul hq.2)) aa aa) (λdW eT fD w4 s4 p4 n4 c4 q4 fb iK _ oY=>wV rfl ?_)
   refine ab ?_
   refine VO.cI rfl rfl (fk Tryz.func96) (λfv gh gv=>jb _ _ q.den r.den k l fv ((v2.bq gv).to hq.2) ((u2.bq gv).to hr.2) aa aa) (λfv gh gv w5 s5 p5 n5 c5 q5 gW ky _ tt=>wV rfl ?_)
   refine ab ?_
   refine VO.cR rfl rfl (fk Tryz.func94) (λlR lZ qJ=>ju _ _ (q.num*r.den+r.num*q.den) ((q.den:Int)*r.den) (k+l+1) (k+l) lR ((q4.kp (ky.aA lZ)).in (Sz.add (hq.1.mul hr.2) (hr.1.mul hq.2) aa aa)) ((q5.kp lZ).in (hq.2.mul hr.2)) aa aa (Int.mul_ne_zero dq dr)) (λlR lZ qJ w6 s6 p6 n6 c6 t6 y6 m6 d6 q6 oG qK _ yL=>wV rfl ?_)
   refine ab ?_
   refine az ?_;intro wz kz bz
   exact⟨_,rfl,aH.cast ((q6.kp kz).mono qJ.size) (tz q r).symm,bz⟩
end
section
open Go.RowKit
attribute [local irreducible] ao VS
def bF (k:Nat):Nat:=max k 1
theorem ay.oZ {w:World} {v:Value} {q:Rat} {k:Nat} (h:ay w v q k):bS q (bF k):=by
 obtain⟨s,xs,t,ys,h1,h2,h3,h4⟩:=h
 exact ay.sz (k:=bF k) ⟨s,xs,t,ys,h1,h2,by unfold bF;omega,by unfold bF;omega⟩ (by unfold bF;omega)
theorem df (v u:Value) (q r:Rat) (k l:Nat) (w:World) (hv:ay w v q k) (hu:ay w u r l) (hk:k<=67108864) (hl:l<=67108864):
  Calls Tryz.prog 13 #[v,u] w λe w'=>∃ x,e=.returned x/\aH w' w.heap.size x (q+r)/\ax w w':=by
 obtain⟨s,p,n,c,t,y,m,d,rfl⟩:=hv.form
 obtain⟨s',p',n',c',t',y',m',d',rfl⟩:=hu.form
 refine ae (C:=aR Tryz.prog w _) (args:=[_,_]) Tryz.func13 rfl Tryz.ntmps13 (bt rfl) ?_
 refine ab ?_
 refine VO.cR rfl rfl (fk Tryz.func45) (λaK bn aU=>bJ _ q k aK (hv.kp bn) aa) (λaK bn aU w1 s1 p1 n1 c1 t1 y1 m1 d1 q1 aC bL _ bb1=>wV rfl ?_)
 refine ab ?_
 refine VO.cR rfl rfl (fk Tryz.func45) (λaZ bI bu=>bJ _ r l aZ (hu.kp (bL.aA bI)) aa) (λaZ bI bu w2 s2 p2 n2 c2 t2 y2 m2 d2 q2 aQ cH _ bb2=>wV rfl ?_)
 refine ab ?_
 refine VO.cR rfl rfl (fk Tryz.func44) (λck cJ da=>kj _ _ q r _ _ ck (q1.kp (cH.aA cJ)) (q2.kp cJ) hv.oZ hu.oZ (by unfold bF;omega) (by unfold bF;omega)) (λck cJ da w3 s3 p3 n3 c3 t3 y3 m3 d3 q3 bM dP _ bb3=>wV rfl ?_)
 refine ab ?_
 refine az ?_;intro wz kz bz
 exact⟨_,rfl,(q3.kp kz).mono da.size,bz⟩
theorem dU (v:Value) (q:Rat) (k:Nat) (w:World) (hv:ay w v q k) (hk:k<=536870912):
  Calls Tryz.prog 46 #[v] w λe w'=>∃ x,e=.returned x/\aH w' w.heap.size x (-q)/\ax w w':=by
 obtain⟨s,p,n,c,t,y,m,d,rfl⟩:=hv.form
 refine ae (C:=aR Tryz.prog w _) (args:=[_]) Tryz.func46 rfl Tryz.ntmps46 (bt rfl) ?_
 refine ab ?_
 refine VO.cR rfl rfl (fk Tryz.func45) (λaK bn aU=>bJ _ q k aK (hv.kp bn) hk) (λaK bn aU w1 s1 p1 n1 c1 t1 y1 m1 d1 q1 aC bL _ bb1=>wV rfl ?_)
 refine ab ?_
 obtain⟨a1,a2⟩:=q1.parts
 refine VO.cI rfl rfl (fk Tryz.func98) (λaZ bI bu=>Au _ q.num _ aZ ((a1.kp bI).to hv.oZ.1) (by unfold bF;omega)) (λaZ bI bu w2 s2 p2 n2 c2 q2 aQ cH _ bb2=>wV rfl ?_)
 refine ab ?_
 refine VO.cI rfl rfl (fk Tryz.func99) (λck cJ da=>Ju _ q.den _ ck ((a2.kp (cH.aA cJ)).to hv.oZ.2) (by unfold bF;omega)) (λck cJ da w3 s3 p3 n3 c3 q3 bM dP _ bb3=>wV rfl ?_)
 refine ab ?_
 refine az ?_;intro wz kz bz
 exact⟨_,rfl,⟨_,_,_,_,_,_,_,_,rfl,aj.cast ((q2.kp (dP.aA kz)).mono bu.size) (Rat.neg_num q).symm,aj.cast ((q3.kp kz).mono da.size) (by rw[Rat.neg_den,Int.natAbs_natCast])⟩,bz⟩
theorem oL (v u:Value) (q r:Rat) (k l:Nat) (w:World) (hv:ay w v q k) (hu:ay w u r l) (hk:k<=67108864) (hl:l<=67108864):
  Calls Tryz.prog 14 #[v,u] w λe w'=>∃ x,e=.returned x/\aH w' w.heap.size x (q-r)/\ax w w':=by
 obtain⟨s,p,n,c,t,y,m,d,rfl⟩:=hv.form
 obtain⟨s',p',n',c',t',y',m',d',rfl⟩:=hu.form
 refine ae (C:=aR Tryz.prog w _) (args:=[_,_]) Tryz.func14 rfl Tryz.ntmps14 (bt rfl) ?_
 refine ab ?_
 refine VO.cR rfl rfl (fk Tryz.func45) (λaK bn aU=>bJ _ q k aK (hv.kp bn) aa) (λaK bn aU w1 s1 p1 n1 c1 t1 y1 m1 d1 q1 aC bL _ bb1=>wV rfl ?_)
 refine ab ?_
 refine VO.cR rfl rfl (fk Tryz.func46) (λaZ bI bu=>dU _ r l aZ (hu.kp (bL.aA bI)) aa) (λaZ bI bu w2 s2 p2 n2 c2 t2 y2 m2 d2 q2 aQ cH _ bb2=>wV rfl ?_)
 refine ab ?_
 refine VO.cR rfl rfl (fk Tryz.func44) (λck cJ da=>kj _ _ q (-r) _ _ ck (q1.kp (cH.aA cJ)) (q2.kp cJ).rd hv.oZ hu.oZ.neg (by unfold bF;omega) (by unfold bF;omega)) (λck cJ da w3 s3 p3 n3 c3 t3 y3 m3 d3 q3 bM dP _ bb3=>wV rfl ?_)
 refine ab ?_
 refine az ?_;intro wz kz bz
 exact⟨_,rfl,aH.cast ((q3.kp kz).mono da.size) (Rat.sub_eq_add_neg q r).symm,bz⟩
theorem uW (v u:Value) (q r:Rat) (k l:Nat) (w:World) (hv:ay w v q k) (hu:ay w u r l) (hk:k<=67108864) (hl:l<=67108864):
  Calls Tryz.prog 106 #[v,u] w λe w'=>∃ x,e=.returned x/\aH w' w.heap.size x (q*r)/\ax w w':=by
 obtain⟨s,p,n,c,t,y,m,d,rfl⟩:=hv.form
 obtain⟨s',p',n',c',t',y',m',d',rfl⟩:=hu.form
 have dq:(q.den:Int)*r.den≠0:=Int.mul_ne_zero (by have:=q.den_nz;omega) (by have:=r.den_nz;omega)
 have zq:=hv.oZ
 have zr:=hu.oZ
 have uk:bF k<=67108864:=by unfold bF;omega
 have ul:bF l<=67108864:=by unfold bF;omega
 refine ae (C:=aR Tryz.prog w _) (args:=[_,_]) Tryz.func106 rfl Tryz.ntmps106 (bt rfl) ?_
 refine ab ?_
 refine VO.cR rfl rfl (fk Tryz.func45) (λaK bn aU=>bJ _ q k aK (hv.kp bn) aa) (λaK bn aU w1 s1 p1 n1 c1 t1 y1 m1 d1 q1 aC bL _ bb1=>wV rfl ?_)
 refine ab ?_
 refine VO.cR rfl rfl (fk Tryz.func45) (λaZ bI bu=>bJ _ r l aZ (hu.kp (bL.aA bI)) aa) (λaZ bI bu w2 s2 p2 n2 c2 t2 y2 m2 d2 q2 aQ cH _ bb2=>wV rfl ?_)
 refine ab ?_
 obtain⟨a1,a2⟩:=q1.parts
 obtain⟨b1,b2⟩:=q2.parts
 refine VO.cI rfl rfl (fk Tryz.func96) (λck cJ da=>jb _ _ q.num r.num _ _ ck ((a1.kp (cH.aA cJ)).to zq.1) ((b1.kp cJ).to zr.1) aa aa) (λck cJ da w3 s3 p3 n3 c3 q3 bM dP _ bb3=>wV rfl ?_)
 refine ab ?_
 refine VO.cI rfl rfl (fk Tryz.func96) (λdW eT fD=>jb _ _ q.den r.den _ _ dW ((a2.kp (cH.aA (dP.aA eT))).to zq.2) ((b2.kp (dP.aA eT)).to zr.2) aa aa) (λdW eT fD w4 s4 p4 n4 c4 q4 fb iK _ oY=>wV rfl ?_)
 refine ab ?_
 refine VO.cR rfl rfl (fk Tryz.func94) (λfv gh gv=>ju _ _ (q.num*r.num) ((q.den:Int)*r.den) _ _ fv ((q3.kp (iK.aA gh)).in (zq.1.mul zr.1)) ((q4.kp gh).in (zq.2.mul zr.2)) aa aa dq) (λfv gh gv w5 s5 p5 n5 c5 t5 y5 m5 d5 q5 gW ky _ tt=>wV rfl ?_)
 refine ab ?_
 refine az ?_;intro wz kz bz
 exact⟨_,rfl,aH.cast ((q5.kp kz).mono gv.size) (Er q r).symm,bz⟩
theorem AQ (v:Value) (q:Rat) (k:Nat) (w:World) (hv:ay w v q k) (hk:k<=536870912):
  Calls Tryz.prog 82 #[v] w λe w'=>e=.returned (.int .i64 (jh q 0))/\ax w w':=by
 obtain⟨s,p,n,c,t,y,m,d,rfl⟩:=hv.form
 refine ae (C:=aR Tryz.prog w _) (args:=[_]) Tryz.func82 rfl Tryz.ntmps82 (bt rfl) ?_
 refine ab ?_
 refine VO.cR rfl rfl (fk Tryz.func45) (λaK bn aU=>bJ _ q k aK (hv.kp bn) hk) (λaK bn aU w1 s1 p1 n1 c1 t1 y1 m1 d1 q1 aC bL _ bb1=>wV rfl ?_)
 refine ab ?_
 refine VO.call rfl rfl (fk Tryz.func112) (λaZ bI bu=>(iH _ q.num _ aZ ((q1.parts.1.kp bI).to hv.oZ.1)).mono ?_)
 rintro e w2 ⟨rfl,aQ⟩
 rw[FU]
 refine aB aQ ?_
 intro cH _ bb2
 refine az ?_;intro wz kz bz
 exact⟨rfl,bz⟩
theorem CX (v u:Value) (q r:Rat) (k l:Nat) (w:World) (hv:ay w v q k) (hu:ay w u r l) (hk:k<=67108864) (hl:l<=67108864):
  Calls Tryz.prog 180 #[v,u] w λe w'=>e=.returned (.int .i64 (jh q r))/\ax w w':=by
 obtain⟨s,p,n,c,t,y,m,d,rfl⟩:=hv.form
 obtain⟨s',p',n',c',t',y',m',d',rfl⟩:=hu.form
 have zq:=hv.oZ
 have zr:=hu.oZ
 have uk:bF k<=67108864:=by unfold bF;omega
 have ul:bF l<=67108864:=by unfold bF;omega
 refine ae (C:=aR Tryz.prog w _) (args:=[_,_]) Tryz.func180 rfl Tryz.ntmps180 (bt rfl) ?_
 refine ab ?_
 refine VO.cR rfl rfl (fk Tryz.func45) (λaK bn aU=>bJ _ q k aK (hv.kp bn) aa) (λaK bn aU w1 s1 p1 n1 c1 t1 y1 m1 d1 q1 aC bL _ bb1=>wV rfl ?_)
 refine ab ?_
 refine VO.cR rfl rfl (fk Tryz.func45) (λaZ bI bu=>bJ _ r l aZ (hu.kp (bL.aA bI)) aa) (λaZ bI bu w2 s2 p2 n2 c2 t2 y2 m2 d2 q2 aQ cH _ bb2=>wV rfl ?_)
 refine ab ?_
 obtain⟨a1,a2⟩:=q1.parts
 obtain⟨b1,b2⟩:=q2.parts
 refine VO.cI rfl rfl (fk Tryz.func96) (λck cJ da=>jb _ _ q.num r.den _ _ ck ((a1.kp (cH.aA cJ)).to zq.1) ((b2.kp cJ).to zr.2) aa aa) (λck cJ da w3 s3 p3 n3 c3 q3 bM dP _ bb3=>wV rfl ?_)
 refine ab ?_
 refine VO.cI rfl rfl (fk Tryz.func96) (λdW eT fD=>jb _ _ r.num q.den _ _ dW ((b1.kp (dP.aA eT)).to zr.1) ((a2.kp (cH.aA (dP.aA eT))).to zq.2) aa aa) (λdW eT fD w4 s4 p4 n4 c4 q4 fb iK _ oY=>wV rfl ?_)
 refine ab ?_
 refine VO.call rfl rfl (fk Tryz.func51) (λfv gh gv=>(kc _ _ (q.num*r.den) (r.num*q.den) _ _ fv ((q3.kp (iK.aA gh)).in (zq.1.mul zr.2)) ((q4.kp gh).in (zr.1.mul zq.2)) aa aa).mono ?_)
 rintro e w5 ⟨rfl,gW⟩
 rw[AP]
 refine aB gW ?_
 intro ky _ tt
 refine az ?_;intro wz kz bz
 exact⟨rfl,bz⟩
theorem mS (a b:Int):(a=b/\(a-b).sign=0)\/(a≠b/\((a-b).sign=1\/(a-b).sign= -1)):=by
 rcases Int.lt_trichotomy a b with e|e|e
 ·exact .inr ⟨by omega,.inr (sign_neg aa)⟩
 ·exact .inl ⟨e,by rw[e,Int.sub_self];rfl⟩
 ·exact .inr ⟨by omega,.inl (cW aa)⟩
theorem AR (v u:Value) (q r:Rat) (k l:Nat) (w:World) (hv:ay w v q k) (hu:ay w u r l) (hk:k<=67108864) (hl:l<=67108864):
  Calls Tryz.prog 16 #[v,u] w λe w'=>e=.returned (.bool (decide (q=r)))/\ax w w':=by
 obtain⟨s,p,n,c,t,y,m,d,rfl⟩:=hv.form
 obtain⟨s',p',n',c',t',y',m',d',rfl⟩:=hu.form
 have zq:=hv.oZ
 have zr:=hu.oZ
 have uk:bF k<=67108864:=by unfold bF;omega
 have ul:bF l<=67108864:=by unfold bF;omega
 refine ae (C:=aR Tryz.prog w _) (args:=[_,_]) Tryz.func16 rfl Tryz.ntmps16 (bt rfl) ?_
 refine ab ?_
 refine VO.cR rfl rfl (fk Tryz.func45) (λaK bn aU=>bJ _ q k aK (hv.kp bn) aa) (λaK bn aU w1 s1 p1 n1 c1 t1 y1 m1 d1 q1 aC bL _ bb1=>wV rfl ?_)
 refine ab ?_
 refine VO.cR rfl rfl (fk Tryz.func45) (λaZ bI bu=>bJ _ r l aZ (hu.kp (bL.aA bI)) aa) (λaZ bI bu w2 s2 p2 n2 c2 t2 y2 m2 d2 q2 aQ cH _ bb2=>wV rfl ?_)
 refine ab ?_
 obtain⟨a1,a2⟩:=q1.parts
 obtain⟨b1,b2⟩:=q2.parts
 refine VO.call rfl rfl (fk Tryz.func51) (λck cJ da=>(kc _ _ q.num r.num _ _ ck ((a1.kp (cH.aA cJ)).to zq.1) ((b1.kp cJ).to zr.1) aa aa).mono ?_)
 rintro e w3 ⟨rfl,bM⟩
 rcases mS q.num r.num with ⟨hn,e⟩|⟨hn,e|e⟩
 ·rw[e]
  refine aB bM ?_
  intro dP _ bb3
  refine VO.call rfl rfl (fk Tryz.func51) (λdW eT fD=>(kc _ _ (q.den:Int) r.den _ _ dW ((a2.kp (cH.aA (dP.aA eT))).to zq.2) ((b2.kp (dP.aA eT)).to zr.2) aa aa).mono ?_)
  rintro e w4 ⟨rfl,fb⟩
  rcases mS (q.den:Int) r.den with ⟨hd,e⟩|⟨hd,e|e⟩
  all_goals
   rw[e]
   refine aB fb ?_
   intro iK _ oY
   refine az ?_;intro wz kz bz
  ·exact⟨by rw[decide_eq_true (Rat.ext hn aa)];rfl,bz⟩
  ·exact⟨by rw[decide_eq_false (λe=>hd (by rw[e]))];rfl,bz⟩
  ·exact⟨by rw[decide_eq_false (λe=>hd (by rw[e]))];rfl,bz⟩
 ·rw[e]
  refine aB bM ?_
  intro dP _ bb3
  refine az ?_;intro wz kz bz
  exact⟨by rw[decide_eq_false (λe=>hn (by rw[e]))];rfl,bz⟩
 ·rw[e]
  refine aB bM ?_
  intro dP _ bb3
  refine az ?_;intro wz kz bz
  exact⟨by rw[decide_eq_false (λe=>hn (by rw[e]))];rfl,bz⟩
end
section
open Go.RowKit
attribute [local irreducible] ao VS
def gH (w:World) (v:Value) (qs:List Rat) (k:Nat):Prop:=
 ∃ p c,v=.slice p qs.length c/\qs.length<=c/\c<=maxLen/\∀ i q,qs[i]? =some q->∃ b off s p' n c' t r m d,p=some ⟨b,off,none⟩/\
   (∀ j u,[Value.bool s,.slice p' n c',.bool t,.slice r m d][j]? =some u->w.cell? ⟨b,off+i*4+j,none⟩=some u)/\ay w (.agg #[.bool s,.slice p' n c',.bool t,.slice r m d]) q k
theorem gH.form {w:World} {v:Value} {qs:List Rat} {k:Nat} (h:gH w v qs k):∃ p c,v=.slice p qs.length c/\qs.length<=c/\c<=maxLen:=by
 obtain⟨p,c,hv,h1,h2,_⟩:=h
 exact⟨p,c,hv,h1,h2⟩
theorem gH.at {w:World} {p:Option Addr} {n c:Nat} {qs:List Rat} {k i:Nat} {q:Rat} (h:gH w (.slice p n c) qs k) (hq:qs[i]? =some q):∃ b off s p' n' c' t r m d,p=some ⟨b,off,none⟩/\
  (∀ j u,[Value.bool s,.slice p' n' c',.bool t,.slice r m d][j]? =some u->w.cell? ⟨b,off+i*4+j,none⟩=some u)/\ay w (.agg #[.bool s,.slice p' n' c',.bool t,.slice r m d]) q k:=by
 obtain⟨p',c',hv,h1,h2,h3⟩:=h
 cases hv
 exact h3 i q hq
theorem gH.bq {w w':World} {v:Value} {qs:List Rat} {k:Nat} (h:gH w v qs k) (hb:ax w w'):gH w' v qs k:=by
 obtain⟨p,c,hv,h1,h2,h3⟩:=h
 refine⟨p,c,hv,h1,h2,λi q hq=> ?_⟩
 obtain⟨b,off,s,p',n,c',t,r,m,d,hp,hc,hr⟩:=h3 i q hq
 exact⟨b,off,s,p',n,c',t,r,m,d,hp,λj u hj=>hb.cell (hc j u hj),hr.kp (Kp.of (U:=UU) hb)⟩
theorem bD {i:Nat} (h:i<9223372036854775807):IntKind.i64.wrap ((i:Int)+1)=((i+1:Nat):Int):=by
 rw[IntWalk.i64_in _ aa];omega
def eg (qs:List Rat):Rat:=qs.foldl (·+ ·) 0
theorem aF {α:Type} {l:List α} {i:Nat} {x:α} (h:l[i]? =some x):l.take (i+1)=l.take i++[x]:=by
 obtain⟨hi,rfl⟩:=List.getElem?_eq_some_iff.1 h
 exact List.take_succ_eq_append_getElem hi
theorem iL {qs:List Rat} {i:Nat} {q:Rat} (h:qs[i]? =some q):eg (qs.take (i+1))=eg (qs.take i)+q:=by
 rw[aF h];simp[eg,List.foldl_append]
def ba (k i:Nat):Nat:=1+i*(bF k+1)
theorem mU (k i:Nat):ba k (i+1)=ba k i+bF k+1:=by unfold ba;rw[Nat.add_mul,Nat.one_mul];omega
theorem km {k i n:Nat} (h:i<=n):ba k i<=ba k n:=by unfold ba;have:=Nat.mul_le_mul_right (bF k+1) h;omega
theorem lp (v:Value) (qs:List Rat) (k:Nat) (w:World) (hv:gH w v qs k) (hk:ba k qs.length<=67108864):
  Calls Tryz.prog 43 #[v] w λe w'=>∃ x,e=.returned x/\aH w' w.heap.size x (eg qs)/\bS (eg qs) (ba k qs.length)/\ax w w':=by
 obtain⟨p,c,rfl,dk,dY⟩:=hv.form
 obtain⟨N,hN⟩:∃ N,N=qs.length:=⟨_,rfl⟩
 rw[<-hN] at hv hk dk ⊢
 have hNm:N<9223372036854775807:=by unfold ba at hk;have:=Nat.le_mul_of_pos_right N (show 0<bF k+1 by omega);omega
 have huk:bF k<=67108864\/N=0:=by
  rcases Nat.eq_zero_or_pos N with e|e
  ·exact .inr e
  ·left;unfold ba at hk;have:=Nat.le_mul_of_pos_left (bF k+1) e;omega
 refine ae (C:=aR Tryz.prog w _) (args:=[_]) Tryz.func43 rfl Tryz.ntmps43 (bt rfl) ?_
 refine ab ?_
 refine VO.cR rfl rfl (fk Tryz.func11) (λaK bn aU=>bK 0 aK aa aa) (λaK bn aU w1 s1 p1 n1 c1 t1 y1 m1 d1 q1 aC bL _ bb1=>wV rfl ?_)
 refine ab ?_
 refine VS.loop (J:=λn L M w'=>∃ i s p' n' c' t r m d,i<=N/\n=N-i/\L=[(7,.val (.slice p N c)),(8,.val (.int .i64 (N:Int))),(9,.val (.int .i64 (i:Int))),(3,.box 3 0),(2,.box 2 0)]/\
  M=[(2,(34,([.bool false,.slice none 0 0,.bool false,.slice none 0 0]:List Value).map .val)),(3,(34,([.bool s,.slice p' n' c',.bool t,.slice r m d]:List Value).map .val))]/\aH w' w.heap.size (.agg #[.bool s,.slice p' n' c',.bool t,.slice r m d]) (eg (qs.take i))/\bS (eg (qs.take i)) (ba k i)) N ⟨_,_,?_,?_,?_,?_,⟨0,s1,p1,n1,c1,t1,y1,m1,d1,by omega,by omega,rfl,rfl,(q1.mono aU.size).cast (by simp[eg]),by simp only[List.take_zero,eg,List.foldl_nil,ba,Nat.zero_mul,Nat.add_zero];exact bS.zero⟩⟩ ?_
 ·exact dX
 ·exact dX
 ·rfl
 ·exact ll
 rintro n L M w' ⟨i,s,p',n',c',t,r,m,d,hi,rfl,rfl,rfl,ho,hz⟩
 refine ab ?_
 by_cases hlt:i<N
 ·obtain⟨q,hq⟩:∃ q,qs[i]? =some q:=⟨_,List.getElem?_eq_getElem aa⟩
  obtain⟨b,off,s2,p2,n2,c2,t2,r2,m2,d2,rfl,hc,jg⟩:=hv.at hq
  refine VS.bo rfl (decide_eq_true (Int.ofNat_lt.2 hlt)) ?_
  refine ab ?_
  refine VO.cond rfl fw (wV rfl ?_)
  refine VO.read rfl [.bool s2,.slice p2 n2 c2,.bool t2,.slice r2 m2 d2] rfl (λj u hj=>by rw[Addr.add_mid,Int.toNat_natCast];exact hc j u hj) (wV rfl ?_)
  refine ab ?_
  refine VO.call rfl rfl (fk Tryz.func45) (λaZ bI bu=>(bJ _ q k aZ ((jg.kp (Kp.of (U:=UU) bu))) (by have:=hk;unfold bF at*;omega)).mono ?_)
  rintro e w2 ⟨r2',rfl,q2,aQ⟩
  obtain⟨s3,p3,n3,c3,t3,y3,m3,d3,rfl⟩:=q2.form
  refine aB aQ ?_
  intro cH _ bb2
  refine VO.call rfl rfl (fk Tryz.func44) (λck cJ da=>(kj _ _ (eg (qs.take i)) q (ba k i) (bF k) ck ((ho.kp (cH.aA cJ)).rd) (q2.kp cJ) hz jg.oZ (by have:=km (k:=k) hi;omega) aa).mono ?_)
  rintro e w3 ⟨r3',rfl,q3,bM⟩
  obtain⟨s4,p4,n4,c4,t4,y4,m4,d4,rfl⟩:=q3.form
  refine aB bM ?_
  intro dP _ bb3
  refine VS.back (N-(i+1)) aa ⟨_,_,?_,?_,?_,?_,⟨i+1,s4,p4,n4,c4,t4,y4,m4,d4,by omega,rfl,rfl,rfl,(q3.mono da.size).cast (iL hq).symm,by rw[iL hq,mU];exact hz.add jg.oZ⟩⟩
  ·refine⟨rfl,rfl,?_,rfl,rfl,trivial⟩
   rw[<-bD aa];rfl
  ·exact dX
  ·rfl
  ·exact ll
 ·refine VS.bB rfl (decide_eq_false (λe=>hlt (Int.ofNat_lt.1 e))) ?_
  refine ab ?_
  refine az ?_;intro wz kz bz
  obtain rfl:i=N:=by omega
  rw[List.take_of_length_le aa] at ho hz
  exact⟨_,rfl,ho.kp kz,hz,bz⟩
def jv (y x:Rat):Bool:=decide (jh y x<0)
def JV (y x:Rat):Bool:=decide (jh y x>0)
theorem AU (v u:Value) (x y:Rat) (k l:Nat) (w:World) (hv:ay w v x k) (hu:ay w u y l) (hk:k<=67108864) (hl:l<=67108864):
  Calls Tryz.prog 154 #[v,u] w λe w'=>e=.returned (.bool (jv y x))/\ax w w':=by
 obtain⟨s,p,n,c,t,z,m,d,rfl⟩:=hv.form
 obtain⟨s',p',n',c',t',z',m',d',rfl⟩:=hu.form
 refine ae (C:=aR Tryz.prog w _) (args:=[_,_]) Tryz.func154 rfl Tryz.ntmps154 (bt rfl) ?_
 refine ab ?_
 refine VO.cB rfl rfl (fk Tryz.func180) (λaK bn aU=>CX _ _ y x l k aK (hu.kp bn) (hv.kp bn) hl hk) (λaK bn aU w1 aC bL _ bb1=>wV rfl ?_)
 refine ab ?_
 refine az ?_;intro wz kz bz
 exact⟨rfl,bz⟩
theorem AW (s:Bool) (p:Option Addr) (n c:Nat) (t:Bool) (r:Option Addr) (m d:Nat) (w:World):
  Calls Tryz.prog 153 #[.agg #[.bool s,.slice p n c,.bool t,.slice r m d]] w λe w'=>e=.returned (.func (.func 154) #[.agg #[.bool s,.slice p n c,.bool t,.slice r m d]] #[])/\ax w w':=by
 refine ae (C:=aR Tryz.prog w _) (args:=[_]) Tryz.func153 rfl Tryz.ntmps153 (bt rfl) ?_
 refine ab ?_
 refine az ?_;intro wz kz bz
 exact⟨rfl,bz⟩
def gj (better:Rat->Rat->Bool) (q:Rat) (qs:List Rat):Rat:=qs.foldl (λo y=>if better y o=true then y else o) q
theorem CY {better:Rat->Rat->Bool} {x:Rat} {qs:List Rat} {i:Nat} {q:Rat} (h:qs[i]? =some q):gj better x (qs.take (i+1))=if better q (gj better x (qs.take i))=true then q else gj better x (qs.take i):=by
 rw[aF h];unfold gj;rw[List.foldl_append];rfl
theorem AX (fB fL:FuncId) (better:Rat->Rat->Bool) (kB:iU Tryz.prog fB) (kL:iU Tryz.prog fL)
  (hB:∀ (s:Bool) (p:Option Addr) (n c:Nat) (t:Bool) (r:Option Addr) (m d:Nat) (w:World),Calls Tryz.prog fB #[.agg #[.bool s,.slice p n c,.bool t,.slice r m d]] w λe w'=>e=.returned (.func (.func fL) #[.agg #[.bool s,.slice p n c,.bool t,.slice r m d]] #[])/\ax w w')
  (hL:∀ (v u:Value) (x y:Rat) (k l:Nat) (w:World),ay w v x k->ay w u y l->k<=67108864->l<=67108864->Calls Tryz.prog fL #[v,u] w λe w'=>e=.returned (.bool (better y x))/\ax w w')
  (u v:Value) (q0:Rat) (qs:List Rat) (k:Nat) (w:World) (hu:ay w u q0 k) (hv:gH w v qs k) (hk:k<=67108863) (hlen:qs.length<9223372036854775807):
  Calls Tryz.prog 152 #[u,v,.func (.func fB) #[] #[]] w λe w'=>∃ x,e=.returned x/\aH w' w.heap.size x (gj better q0 qs)/\bS (gj better q0 qs) (bF k)/\ax w w':=by
 obtain⟨s,p,n,c,t,y,m,d,rfl⟩:=hu.form
 obtain⟨P,cc,rfl,dk,dY⟩:=hv.form
 obtain⟨N,hN⟩:∃ N,N=qs.length:=⟨_,rfl⟩
 rw[<-hN] at hv hlen dk ⊢
 have zk:bF k<=67108864:=by unfold bF;omega
 refine ae (C:=aR Tryz.prog w _) (args:=[_,_,_]) Tryz.func152 rfl Tryz.ntmps152 (bt rfl) ?_
 refine ab ?_
 refine VO.cR rfl rfl (fk Tryz.func45) (λaK bn aU=>bJ _ q0 k aK (hu.kp bn) aa) (λaK bn aU w1 s1 p1 n1 c1 t1 y1 m1 d1 q1 aC bL _ bb1=>wV rfl ?_)
 refine ab ?_
 refine VO.cR rfl rfl (fk Tryz.func11) (λaZ bI bu=>bK 0 aZ aa aa) (λaZ bI bu w2 s2 p2 n2 c2 t2 y2 m2 d2 q2 aQ cH _ bb2=>wV rfl ?_)
 refine ab ?_
 refine VO.cR rfl rfl (fk Tryz.func44) (λck cJ da=>kj _ _ q0 ((0:Int):Rat) (bF k) 1 ck (q1.kp (cH.aA cJ)) (q2.kp cJ).rd hu.oZ bS.zero zk aa) (λck cJ da w3 s3 p3 n3 c3 t3 y3 m3 d3 q3 bM dP _ bb3=>wV rfl ?_)
 refine ab ?_
 refine VS.loop (J:=λn' L M w'=>∃ i s p' n c' t r m d,i<=N/\n'=N-i/\L=[(14,.val (.slice P N cc)),(15,.val (.int .i64 (N:Int))),(16,.val (.int .i64 (i:Int))),(2,.val (.func (.func fB) #[] #[])),(7,.box 7 0),(6,.box 6 0)]/\
  M=[(6,(34,([.bool false,.slice none 0 0,.bool false,.slice none 0 0]:List Value).map .val)),(7,(34,([.bool s,.slice p' n c',.bool t,.slice r m d]:List Value).map .val))]/\aH w' w.heap.size (.agg #[.bool s,.slice p' n c',.bool t,.slice r m d]) (gj better q0 (qs.take i))/\bS (gj better q0 (qs.take i)) (bF k)) N ⟨_,_,?_,?_,?_,?_,⟨0,s3,p3,n3,c3,t3,y3,m3,d3,by omega,by omega,rfl,rfl,(q3.mono da.size).cast (Rat.add_zero _),hu.oZ⟩⟩ ?_
 ·exact dX
 ·exact dX
 ·rfl
 ·exact ll
 rintro n' L M w' ⟨i,s,p',n,c',t,r,m,d,hi,rfl,rfl,rfl,ho,hz⟩
 refine ab ?_
 by_cases hlt:i<N
 ·obtain⟨q,hq⟩:∃ q,qs[i]? =some q:=⟨_,List.getElem?_eq_getElem aa⟩
  obtain⟨b,off,s2,p2,n2,c2,t2,r2,m2,d2,rfl,hc,jg⟩:=hv.at hq
  refine VS.bo rfl (decide_eq_true (Int.ofNat_lt.2 hlt)) ?_
  refine ab ?_
  refine VO.cond rfl fw (wV rfl ?_)
  refine VO.read rfl [.bool s2,.slice p2 n2 c2,.bool t2,.slice r2 m2 d2] rfl (λj u hj=>by rw[Addr.add_mid,Int.toNat_natCast];exact hc j u hj) (wV rfl ?_)
  refine ab ?_
  refine VO.call rfl rfl kB (λdW eT fD=>(hB s p' n c' t r m d dW).mono ?_)
  rintro e w4 ⟨rfl,fb⟩
  refine aB fb ?_
  intro iK _ oY
  refine VO.call rfl rfl kL (λfv gh gv=>(hL _ _ (gj better q0 (qs.take i)) q _ k fv ((ho.kp (iK.aA gh)).in hz) (jg.kp (Kp.of (U:=UU) gv)) zk aa).mono ?_)
  rintro e w5 ⟨rfl,gW⟩
  refine aB gW ?_
  intro ky _ tt
  have hsn:=CY (better:=better) (x:=q0) hq
  cases hbt:better q (gj better q0 (qs.take i))
  ·rw[hbt] at hsn
   refine VS.bB rfl rfl ?_
   refine ab ?_
   refine VS.back (N-(i+1)) aa ⟨_,_,?_,?_,?_,?_,⟨i+1,s,p',n,c',t,r,m,d,by omega,rfl,rfl,rfl,(ho.kp (iK.aA ky)).cast hsn.symm,by rw[hsn];exact hz⟩⟩
   ·refine⟨rfl,rfl,?_,rfl,rfl,rfl,trivial⟩
    rw[<-bD aa];rfl
   ·exact dX
   ·rfl
   ·exact ll
  ·rw[hbt] at hsn
   refine VS.bo rfl rfl ?_
   refine ab ?_
   refine VO.cR rfl rfl (fk Tryz.func45) (λlR lZ qJ=>bJ _ q k lR (jg.kp (Kp.of (U:=UU) qJ)) aa) (λlR lZ qJ w6 s6 p6 n6 c6 t6 y6 m6 d6 q6 oG qK _ yL=>wV rfl ?_)
   refine ab ?_
   refine VO.cR rfl rfl (fk Tryz.func11) (λxp wh vK=>bK 0 xp aa aa) (λxp wh vK w7 s7 p7 n7 c7 t7 y7 m7 d7 q7 Ef BL _ bb7=>wV rfl ?_)
   refine ab ?_
   refine VO.cR rfl rfl (fk Tryz.func44) (λHI ka8 HQ=>kj _ _ q ((0:Int):Rat) (bF k) 1 HI (q6.kp (BL.aA ka8)) (q7.kp ka8).rd jg.oZ bS.zero zk aa) (λHI ka8 HQ w8 s8 p8 n8 c8 t8 y8 m8 d8 q8 Ci BM _ bb8=>wV rfl ?_)
   refine ab ?_
   refine VS.back (N-(i+1)) aa ⟨_,_,?_,?_,?_,?_,⟨i+1,s8,p8,n8,c8,t8,y8,m8,d8,by omega,rfl,rfl,rfl,(q8.mono HQ.size).cast ((Rat.add_zero _).trans hsn.symm),by rw[hsn];exact jg.oZ⟩⟩
   ·refine⟨rfl,rfl,?_,rfl,rfl,rfl,trivial⟩
    rw[<-bD aa];rfl
   ·exact dX
   ·rfl
   ·exact ll
 ·refine VS.bB rfl (decide_eq_false (λe=>hlt (Int.ofNat_lt.1 e))) ?_
  refine ab ?_
  refine az ?_;intro wz kz bz
  obtain rfl:i=N:=by omega
  rw[List.take_of_length_le aa] at ho hz
  exact⟨_,rfl,ho.kp kz,hz,bz⟩
theorem CZ (u v:Value) (q0:Rat) (qs:List Rat) (k:Nat) (w:World) (hu:ay w u q0 k) (hv:gH w v qs k) (hk:k<=67108863) (hlen:qs.length<9223372036854775807):
  Calls Tryz.prog 108 #[u,v] w λe w'=>∃ x,e=.returned x/\aH w' w.heap.size x (gj jv q0 qs)/\bS (gj jv q0 qs) (bF k)/\ax w w':=by
 obtain⟨s,p,n,c,t,y,m,d,rfl⟩:=hu.form
 obtain⟨P,cc,rfl,dk,dY⟩:=hv.form
 refine ae (C:=aR Tryz.prog w _) (args:=[_,_]) Tryz.func108 rfl Tryz.ntmps108 (bt rfl) ?_
 refine ab ?_
 refine VO.call rfl rfl (fk Tryz.func152) (λaK bn aU=>(AX 153 154 jv (fk Tryz.func153) (fk Tryz.func154) AW AU _ _ q0 qs k aK (hu.kp bn) (hv.bq aU) hk hlen).mono ?_)
 rintro e w1 ⟨r1,rfl,q1,z1,aC⟩
 obtain⟨s1,p1,n1,c1,t1,y1,m1,d1,rfl⟩:=q1.form
 refine aB aC ?_
 intro bL _ bb1
 refine az ?_;intro wz kz bz
 exact⟨_,rfl,(q1.kp kz).mono aU.size,z1,bz⟩
end
set_option maxRecDepth 4000
section
open Go.RowKit
attribute [local irreducible] ao VS
theorem AY (v u:Value) (X Y:Int) (j k:Nat) (w:World) (hv:bk w v X j) (hu:bk w u Y k) (hj:j<=1073741824) (hk:k<=1073741824):
  Calls Tryz.prog 182 #[v,u] w λe w'=>e=.returned (.bool (decide (X=Y)))/\ax w w':=by
 obtain⟨s,p,n,c,rfl⟩:=hv.form
 obtain⟨t,q,m,d,rfl⟩:=hu.form
 refine ae (C:=aR Tryz.prog w _) (args:=[_,_]) Tryz.func182 rfl Tryz.ntmps182 (bt rfl) ?_
 refine ab ?_
 refine VO.cB rfl rfl (fk Tryz.func203) (λaK bn aU=>AB _ _ X Y j k aK (hv.kp bn) (hu.kp bn) hj hk) (λaK bn aU w1 aC bL _ bb1=>wV rfl ?_)
 refine ab ?_
 refine az ?_;intro wz kz bz
 refine⟨?_,bz⟩
 show Ending.returned (.bool (uL X Y == 0))=_
 unfold uL
 by_cases h:X=Y
 ·rw[h,decide_eq_true rfl,Int.sub_self];rfl
 ·rw[decide_eq_false h]
  have:((X-Y).sign == 0)=false:=by
   rw[beq_eq_false_iff_ne]
   intro e
   have:=Int.sign_eq_zero_iff_zero.1 e
   omega
  rw[this]
theorem yo (s t:Bool) (xs ys:List Nat) (v:Value) (w:World) (h:bP w v s xs t ys) (hx:xs.length<=134217728) (hy:ys.length<=134217728):
  Calls Tryz.prog 155 #[v] w λe w'=>e=.returned (.bool (nW s xs t ys))/\ax w w':=by
 obtain⟨p,c,r,d,rfl,h1,h2⟩:=h
 refine ae (C:=aR Tryz.prog w _) (args:=[_]) Tryz.func155 rfl Tryz.ntmps155 (bt rfl) ?_
 refine ab ?_
 refine VO.call rfl rfl (fk Tryz.func181) (λaK bn aU=>(oH s xs _ aK (h1.bq aU)).mono ?_)
 rintro e w1 ⟨rfl,aC⟩
 cases q1:cK s xs
 ·refine aB aC ?_
  intro bL _ bb1
  refine az ?_;intro wz kz bz
  exact⟨by simp[nW,q1,iu],bz⟩
 refine aB aC ?_
 intro bL _ bb1
 refine VO.call rfl rfl (fk Tryz.func181) (λaZ bI bu=>(oH t ys _ aZ (h2.bq bu)).mono ?_)
 rintro e w2 ⟨rfl,aQ⟩
 cases q2:cK t ys
 ·refine aB aQ ?_
  intro cH _ bb2
  refine az ?_;intro wz kz bz
  exact⟨by simp[nW,q1,q2,iu],bz⟩
 refine aB aQ ?_
 intro cH _ bb2
 refine VO.call rfl rfl (fk Tryz.func168) (λck cJ da=>(cd _ (numOf t ys) _ ck ((h2.in (Nat.le_refl _)).bq da) aa).mono ?_)
 rintro e w3 ⟨rfl,bM⟩
 by_cases q3:0<numOf t ys
 ·rw[cW q3]
  refine aB bM ?_
  intro dP _ bb3
  refine VO.cI rfl rfl (fk Tryz.func169) (λdW eT fD=>uV _ _ (numOf s xs) (numOf t ys) _ _ dW ((h1.in (Nat.le_refl _)).bq fD) ((h2.in (Nat.le_refl _)).bq fD) aa aa) (λdW eT fD w4 s4 p4 n4 c4 h4 fb iK _ oY=>wV rfl ?_)
  refine ab ?_
  refine VO.cI rfl rfl (fk Tryz.func136) (λfv gh gv=>iz 1 fv aa aa) (λfv gh gv w5 s5 p5 n5 c5 h5 gW ky _ tt=>wV rfl ?_)
  refine ab ?_
  have hg:Sz (Int.gcd (numOf s xs) (numOf t ys):Int) ys.length:=yn (qa h2.lim (Nat.le_refl _)) aa
  refine VO.call rfl rfl (fk Tryz.func182) (λlR lZ qJ=>(AY _ _ (Int.gcd (numOf s xs) (numOf t ys):Int) 1 _ 1 lR ((h4.kp (ky.aA lZ)).in hg) ((h5.kp lZ).in (Sz.small ff)) aa aa).mono ?_)
  rintro e w6 ⟨rfl,oG⟩
  by_cases q4:Int.gcd (numOf s xs) (numOf t ys)=1
  ·rw[show decide ((Int.gcd (numOf s xs) (numOf t ys):Int)=1)=true from decide_eq_true aa]
   refine aB oG ?_
   intro qK _ yL
   refine az ?_;intro wz kz bz
   exact⟨by simp[nW,q1,q2,q3,q4,iu],bz⟩
  ·rw[show decide ((Int.gcd (numOf s xs) (numOf t ys):Int)=1)=false from decide_eq_false aa]
   refine aB oG ?_
   intro qK _ yL
   refine az ?_;intro wz kz bz
   exact⟨by simp[nW,q1,q2,q3,q4,iu],bz⟩
 ·have q4:(numOf t ys).sign=0\/(numOf t ys).sign= -1:=by
   rcases Int.lt_trichotomy (numOf t ys) 0 with e|e|e
   ·exact .inr (sign_neg e)
   ·rw[e];exact .inl rfl
   ·exact absurd e q3
  rcases q4 with q4|q4
  all_goals
   rw[q4]
   refine aB bM ?_
   intro dP _ bb3
   refine az ?_;intro wz kz bz
   exact⟨by simp[nW,q1,q2,q3,iu],bz⟩
theorem yp (n:Int) (w:World) (h0: -9223372036854775808<=n) (h1:n<=9223372036854775807):
  Calls Tryz.prog 118 #[.int .i64 n] w λe w'=>∃ r,e=.returned r/\aH w' w.heap.size r (n:Rat)/\ax w w':=by
 refine ae (C:=aR Tryz.prog w _) (args:=[_]) Tryz.func118 rfl Tryz.ntmps118 (bt rfl) ?_
 refine ab ?_
 refine VO.cI rfl rfl (fk Tryz.func136) (λaK bn aU=>iz n aK h0 h1) (λaK bn aU w1 s1 p1 n1 c1 q1 aC bL _ bb1=>wV rfl ?_)
 refine ab ?_
 refine VO.cI rfl rfl (fk Tryz.func136) (λaZ bI bu=>iz 1 aZ aa aa) (λaZ bI bu w2 s2 p2 n2 c2 q2 aQ cH _ bb2=>wV rfl ?_)
 refine ab ?_
 refine az ?_;intro wz kz bz
 exact⟨_,rfl,⟨_,_,_,_,_,_,_,_,rfl,(q1.kp (cH.aA kz)).mono aU.size,(q2.kp kz).mono bu.size⟩,bz⟩
theorem mV (w:World):Calls Tryz.prog 119 #[] w λe w'=>∃ r,e=.returned r/\aH w' w.heap.size r 0/\ax w w':=by
 refine ae (C:=aR Tryz.prog w _) (args:=[]) Tryz.func119 rfl Tryz.ntmps119 (bt rfl) ?_
 refine ab ?_
 refine VO.cI rfl rfl (fk Tryz.func136) (λaK bn aU=>iz 0 aK aa aa) (λaK bn aU w1 s1 p1 n1 c1 q1 aC bL _ bb1=>wV rfl ?_)
 refine ab ?_
 refine VO.cI rfl rfl (fk Tryz.func136) (λaZ bI bu=>iz 1 aZ aa aa) (λaZ bI bu w2 s2 p2 n2 c2 q2 aQ cH _ bb2=>wV rfl ?_)
 refine ab ?_
 refine az ?_;intro wz kz bz
 exact⟨_,rfl,⟨_,_,_,_,_,_,_,_,rfl,(q1.kp (cH.aA kz)).mono aU.size,(q2.kp kz).mono bu.size⟩,bz⟩
theorem qi (v:Value) (q:Rat) (k:Nat) (w:World) (h:ay w v q k) (hk:k<=134217728):
  Calls Tryz.prog 120 #[v] w λe w'=>∃ r,e=.returned r/\aX w' r q/\ax w w':=by
 obtain⟨s,xs,t,ys,eW,rfl,hx,hy⟩:=h
 have sm:=eW
 obtain⟨p,c,r,d,rfl,_,_⟩:=eW
 refine ae (C:=aR Tryz.prog w _) (args:=[_]) Tryz.func120 rfl Tryz.ntmps120 (bt rfl) ?_
 refine ab ?_
 refine VO.call rfl rfl (fk Tryz.func155) (λaK bn aU=>(yo s t xs ys _ aK (sm.kp bn) aa aa).mono ?_)
 rintro e w1 ⟨rfl,aC⟩
 cases hq:nW s xs t ys
 ·refine aB aC ?_
  intro bL _ bb1
  refine VO.cR rfl rfl (fk Tryz.func119) (λaZ bI bu=>mV aZ) (λaZ bI bu w2 s2 p2 n2 c2 t2 y2 m2 d2 h2 aQ cH _ bb2=>wV rfl ?_)
  refine ab ?_
  refine az ?_;intro wz kz bz
  exact⟨_,rfl,by rw[qg hq];exact (h2.kp kz).rd,bz⟩
 ·refine aB aC ?_
  intro bL _ bb1
  refine az ?_;intro wz kz bz
  exact⟨_,rfl,(qh sm hq).kp (bL.aA kz),bz⟩
theorem JW {X Y:Int}:Rat.divInt X Y=Rat.divInt (-X) (-Y):=(Rat.neg_divInt_neg X Y).symm
theorem uX (v u:Value) (X Y:Int) (j k:Nat) (w:World) (hv:bk w v X j) (hu:bk w u Y k) (hj:j<=134217728) (hk:k<=134217728):
  Calls Tryz.prog 135 #[v,u] w λe w'=>∃ r,e=.returned (.tuple #[r,.int .i64 (mR Y)])/\aH w' w.heap.size r (Rat.divInt X Y)/\ax w w':=by
 obtain⟨s,p,n,c,rfl⟩:=hv.form
 obtain⟨t,r,m,d,rfl⟩:=hu.form
 refine ae (C:=aR Tryz.prog w _) (args:=[_,_]) Tryz.func135 rfl Tryz.ntmps135 (bt rfl) ?_
 refine ab ?_
 refine VO.call rfl rfl (fk Tryz.func168) (λaK bn aU=>(cd _ Y k aK (hu.bq aU) aa).mono ?_)
 rintro e w1 ⟨rfl,aC⟩
 by_cases hY:Y=0
 ·rw[show Y.sign=0 by rw[hY];rfl]
  refine aB aC ?_
  intro bL _ bb1
  refine VO.cR rfl rfl (fk Tryz.func119) (λaZ bI bu=>mV aZ) (λaZ bI bu w2 s2 p2 n2 c2 t2 y2 m2 d2 h2 aQ cH _ bb2=>wV rfl ?_)
  refine ab ?_
  refine az ?_;intro wz kz bz
  refine⟨_,by rw[mR,if_pos hY];rfl,?_,bz⟩
  rw[hY,Rat.divInt_zero]
  exact (h2.kp kz).mono bu.size
 ·rcases Int.lt_or_lt_of_ne hY with q|q
  ·rw[sign_neg q]
   refine aB aC ?_
   intro bL _ bb1
   refine VO.call rfl rfl (fk Tryz.func168) (λaZ bI bu=>(cd _ Y k aZ (hu.bq bu) aa).mono ?_)
   rintro e w2 ⟨rfl,aQ⟩
   rw[sign_neg q]
   refine aB aQ ?_
   intro cH _ bb2
   refine VO.cI rfl rfl (fk Tryz.func165) (λck cJ da=>uM _ X j ck (hv.bq da) aa) (λck cJ da w3 s3 p3 n3 c3 h3 bM dP _ bb3=>wV rfl ?_)
   refine ab ?_
   refine VO.cI rfl rfl (fk Tryz.func165) (λdW eT fD=>uM _ Y k dW (hu.bq fD) aa) (λdW eT fD w4 s4 p4 n4 c4 h4 fb iK _ oY=>wV rfl ?_)
   refine ab ?_
   have z3:Sz (-X) j:=Sz.neg hv.len
   have z4:Sz (-Y) k:=Sz.neg hu.len
   obtain⟨l1,l2⟩:=tr (X:= -X) (Y:= -Y) aa
   have JU:Sz (Int.gcd (-X) (-Y):Int) k:=yn z4 aa
   have Jx:(Int.gcd (-X) (-Y):Int)≠0:=by
    intro e
    have:=(Int.gcd_eq_zero_iff.1 (show Int.gcd (-X) (-Y)=0 by omega)).2
    omega
   refine VO.cI rfl rfl (fk Tryz.func169) (λfv gh gv=>uV _ _ (-X) (-Y) j k fv ((h3.kp (iK.aA gh)).in z3) ((h4.kp gh).in z4) aa aa) (λfv gh gv w5 s5 p5 n5 c5 h5 gW ky _ tt=>wV rfl ?_)
   refine ab ?_
   refine VO.call rfl rfl (fk Tryz.func170) (λlR lZ qJ=>(jt _ _ (-X) (Int.gcd (-X) (-Y):Int) j k lR ((h3.kp (iK.aA (ky.aA lZ))).in z3) ((h5.kp lZ).in JU) aa aa).mono ?_)
   rintro e w6 ⟨hd6,oG⟩
   obtain⟨v6,u6,rfl,h6,h6'⟩:=du hd6 Jx
   obtain⟨s6,p6,n6,c6,rfl⟩:=h6.form
   obtain⟨t6,r6,m6,d6,rfl⟩:=h6'.form
   refine aB oG ?_
   intro qK _ yL
   refine VO.call rfl rfl (fk Tryz.func170) (λxp wh vK=>(jt _ _ (-Y) (Int.gcd (-X) (-Y):Int) k k xp ((h4.kp (ky.aA (qK.aA wh))).in z4) ((h5.kp (qK.aA wh)).in JU) aa aa).mono ?_)
   rintro e w7 ⟨hd7,Ef⟩
   obtain⟨v7,u7,rfl,h7,h7'⟩:=du hd7 Jx
   obtain⟨s7,p7,n7,c7,rfl⟩:=h7.form
   obtain⟨t7,r7,m7,d7,rfl⟩:=h7'.form
   refine aB Ef ?_
   intro BL _ bb7
   refine az ?_;intro wz kz bz
   rw[JW]
   exact⟨_,by rw[mR,if_neg hY];rfl,⟨_,_,_,_,_,_,_,_,rfl,aj.cast ((h6.kp (BL.aA kz)).mono qJ.size) l1,aj.cast ((h7.kp kz).mono vK.size) l2⟩,bz⟩
  ·rw[cW q]
   refine aB aC ?_
   intro bL _ bb1
   refine VO.call rfl rfl (fk Tryz.func168) (λaZ bI bu=>(cd _ Y k aZ (hu.bq bu) aa).mono ?_)
   rintro e w2 ⟨rfl,aQ⟩
   rw[cW q]
   refine aB aQ ?_
   intro cH _ bb2
   obtain⟨l1,l2⟩:=tr (X:=X) (Y:=Y) q
   have JU:Sz (Int.gcd X Y:Int) k:=yn hu.len hY
   have Jx:(Int.gcd X Y:Int)≠0:=by
    intro e
    have:=(Int.gcd_eq_zero_iff.1 (show Int.gcd X Y=0 by omega)).2
    omega
   refine VO.cI rfl rfl (fk Tryz.func169) (λfv gh gv=>uV _ _ X Y j k fv (hv.bq gv) (hu.bq gv) aa aa) (λfv gh gv w5 s5 p5 n5 c5 h5 gW ky _ tt=>wV rfl ?_)
   refine ab ?_
   refine VO.call rfl rfl (fk Tryz.func170) (λlR lZ qJ=>(jt _ _ X (Int.gcd X Y:Int) j k lR (hv.bq qJ) ((h5.kp lZ).in JU) aa aa).mono ?_)
   rintro e w6 ⟨hd6,oG⟩
   obtain⟨v6,u6,rfl,h6,h6'⟩:=du hd6 Jx
   obtain⟨s6,p6,n6,c6,rfl⟩:=h6.form
   obtain⟨t6,r6,m6,d6,rfl⟩:=h6'.form
   refine aB oG ?_
   intro qK _ yL
   refine VO.call rfl rfl (fk Tryz.func170) (λxp wh vK=>(jt _ _ Y (Int.gcd X Y:Int) k k xp (hu.bq vK) ((h5.kp (qK.aA wh)).in JU) aa aa).mono ?_)
   rintro e w7 ⟨hd7,Ef⟩
   obtain⟨v7,u7,rfl,h7,h7'⟩:=du hd7 Jx
   obtain⟨s7,p7,n7,c7,rfl⟩:=h7.form
   obtain⟨t7,r7,m7,d7,rfl⟩:=h7'.form
   refine aB Ef ?_
   intro BL _ bb7
   refine az ?_;intro wz kz bz
   exact⟨_,by rw[mR,if_neg hY];rfl,⟨_,_,_,_,_,_,_,_,rfl,aj.cast ((h6.kp (BL.aA kz)).mono qJ.size) l1,aj.cast ((h7.kp kz).mono vK.size) l2⟩,bz⟩
theorem FX (n d:Int) (w:World) (h0: -9223372036854775808<=n) (h1:n<=9223372036854775807) (g0: -9223372036854775808<=d) (g1:d<=9223372036854775807):
  Calls Tryz.prog 75 #[.int .i64 n,.int .i64 d] w λe w'=>∃ r,e=.returned (.tuple #[r,.int .i64 (mR d)])/\aH w' w.heap.size r (Rat.divInt n d)/\ax w w':=by
 refine ae (C:=aR Tryz.prog w _) (args:=[_,_]) Tryz.func75 rfl Tryz.ntmps75 (bt rfl) ?_
 refine ab ?_
 refine VO.cI rfl rfl (fk Tryz.func136) (λaK bn aU=>iz n aK h0 h1) (λaK bn aU w1 s1 p1 n1 c1 q1 aC bL _ bb1=>wV rfl ?_)
 refine ab ?_
 refine VO.cI rfl rfl (fk Tryz.func136) (λaZ bI bu=>iz d aZ g0 g1) (λaZ bI bu w2 s2 p2 n2 c2 q2 aQ cH _ bb2=>wV rfl ?_)
 refine ab ?_
 refine VO.call rfl rfl (fk Tryz.func135) (λck cJ da=>(uX _ _ n d 2 2 ck ((q1.kp (cH.aA cJ)).in (Sz.of_lt aa)) ((q2.kp cJ).in (Sz.of_lt aa)) aa aa).mono ?_)
 rintro e w3 ⟨r3,rfl,q3,bM⟩
 obtain⟨s3,p3,n3,c3,t3,x3,m3,d3,rfl⟩:=q3.form
 refine aB bM ?_
 intro dP _ bb3
 refine az ?_;intro wz kz bz
 exact⟨_,rfl,(q3.kp kz).mono da.size,bz⟩
theorem jc (v u:Value) (q r:Rat) (k l:Nat) (w:World) (hv:ay w v q k) (hu:ay w u r l) (hk:k<=33554432) (hl:l<=33554432):
  Calls Tryz.prog 122 #[v,u] w λe w'=>∃ x,e=.returned x/\aH w' w.heap.size x (q+r)/\ax w w':=by
 obtain⟨s,p,n,c,t,y,m,d,rfl⟩:=hv.form
 obtain⟨s',p',n',c',t',y',m',d',rfl⟩:=hu.form
 have zq:=hv.oZ
 have zr:=hu.oZ
 have uk:bF k<=33554432:=by unfold bF;omega
 have ul:bF l<=33554432:=by unfold bF;omega
 refine ae (C:=aR Tryz.prog w _) (args:=[_,_]) Tryz.func122 rfl Tryz.ntmps122 (bt rfl) ?_
 refine ab ?_
 refine VO.cR rfl rfl (fk Tryz.func120) (λaK bn aU=>qi _ q k aK (hv.kp bn) aa) (λaK bn aU w1 s1 p1 n1 c1 t1 y1 m1 d1 q1 aC bL _ bb1=>wV rfl ?_)
 refine ab ?_
 refine VO.cR rfl rfl (fk Tryz.func120) (λaZ bI bu=>qi _ r l aZ (hu.kp (bL.aA bI)) aa) (λaZ bI bu w2 s2 p2 n2 c2 t2 y2 m2 d2 q2 aQ cH _ bb2=>wV rfl ?_)
 refine ab ?_
 obtain⟨a1,a2⟩:=q1.parts
 obtain⟨b1,b2⟩:=q2.parts
 refine VO.cI rfl rfl (fk Tryz.func160) (λck cJ da=>uR _ _ q.num r.den _ _ ck ((a1.kp (cH.aA cJ)).to zq.1) ((b2.kp cJ).to zr.2) aa aa) (λck cJ da w3 s3 p3 n3 c3 q3 bM dP _ bb3=>wV rfl ?_)
 refine ab ?_
 refine VO.cI rfl rfl (fk Tryz.func160) (λdW eT fD=>uR _ _ r.num q.den _ _ dW ((b1.kp (dP.aA eT)).to zr.1) ((a2.kp (cH.aA (dP.aA eT))).to zq.2) aa aa) (λdW eT fD w4 s4 p4 n4 c4 q4 fb iK _ oY=>wV rfl ?_)
 refine ab ?_
 refine VO.cI rfl rfl (fk Tryz.func159) (λfv gh gv=>qb _ _ (q.num*r.den) (r.num*q.den) (bF k+bF l) (bF l+bF k) fv ((q3.kp (iK.aA gh)).in (zq.1.mul zr.2)) ((q4.kp gh).in (zr.1.mul zq.2)) aa aa) (λfv gh gv w5 s5 p5 n5 c5 q5 gW ky _ tt=>wV rfl ?_)
 refine ab ?_
 refine VO.cI rfl rfl (fk Tryz.func160) (λlR lZ qJ=>uR _ _ q.den r.den _ _ lR ((a2.kp (cH.aA (dP.aA (iK.aA (ky.aA lZ))))).to zq.2) ((b2.kp (dP.aA (iK.aA (ky.aA lZ)))).to zr.2) aa aa) (λlR lZ qJ w6 s6 p6 n6 c6 q6 oG qK _ yL=>wV rfl ?_)
 refine ab ?_
 refine VO.call rfl rfl (fk Tryz.func135) (λxp wh vK=>(uX _ _ (q.num*r.den+r.num*q.den) ((q.den:Int)*r.den) (bF k+bF l+1) (bF k+bF l) xp ((q5.kp (qK.aA wh)).in (Sz.add (zq.1.mul zr.2) (zr.1.mul zq.2) (m:=bF k+bF l) aa aa)) ((q6.kp wh).in (zq.2.mul zr.2)) aa aa).mono ?_)
 rintro e w7 ⟨r7,rfl,q7,Ef⟩
 obtain⟨s7,p7,n7,c7,t7,y7,m7,d7,rfl⟩:=q7.form
 refine aB Ef ?_
 intro BL _ bb7
 refine az ?_;intro wz kz bz
 exact⟨_,rfl,aH.cast ((q7.kp kz).mono vK.size) (tz q r).symm,bz⟩
set_option maxRecDepth 4000
theorem oM (v:Value) (qs:List Rat) (k:Nat) (w:World) (hv:gH w v qs k) (hk:ba k qs.length<=33554432):
  Calls Tryz.prog 62 #[v] w λe w'=>∃ x,e=.returned x/\aH w' w.heap.size x (eg qs)/\bS (eg qs) (ba k qs.length)/\ax w w':=by
 obtain⟨p,c,rfl,dk,dY⟩:=hv.form
 obtain⟨N,hN⟩:∃ N,N=qs.length:=⟨_,rfl⟩
 rw[<-hN] at hv hk dk ⊢
 have hNm:N<9223372036854775807:=by unfold ba at hk;have:=Nat.le_mul_of_pos_right N (show 0<bF k+1 by omega);omega
 have huk:bF k<=33554432\/N=0:=by
  rcases Nat.eq_zero_or_pos N with e|e
  ·exact .inr e
  ·left;unfold ba at hk;have:=Nat.le_mul_of_pos_left (bF k+1) e;omega
 refine ae (C:=aR Tryz.prog w _) (args:=[_]) Tryz.func62 rfl Tryz.ntmps62 (bt rfl) ?_
 refine ab ?_
 refine VO.cR rfl rfl (fk Tryz.func119) (λaK bn aU=>mV aK) (λaK bn aU w1 s1 p1 n1 c1 t1 y1 m1 d1 q1 aC bL _ bb1=>wV rfl ?_)
 refine ab ?_
 refine VS.loop (J:=λn L M w'=>∃ i s p' n' c' t r m d,i<=N/\n=N-i/\L=[(0,.val (.slice p N c)),(4,.val (.int .i64 (i:Int))),(3,.box 3 0),(2,.box 2 0)]/\
  M=[(2,(55,([.bool false,.slice none 0 0,.bool false,.slice none 0 0]:List Value).map .val)),(3,(55,([.bool s,.slice p' n' c',.bool t,.slice r m d]:List Value).map .val))]/\aH w' w.heap.size (.agg #[.bool s,.slice p' n' c',.bool t,.slice r m d]) (eg (qs.take i))/\bS (eg (qs.take i)) (ba k i)) N ⟨_,_,?_,?_,?_,?_,⟨0,s1,p1,n1,c1,t1,y1,m1,d1,by omega,by omega,rfl,rfl,(q1.mono aU.size).cast (by simp[eg]),by simp only[List.take_zero,eg,List.foldl_nil,ba,Nat.zero_mul,Nat.add_zero];exact bS.zero⟩⟩ ?_
 ·exact dX
 ·exact dX
 ·rfl
 ·exact ll
 rintro n L M w' ⟨i,s,p',n',c',t,r,m,d,hi,rfl,rfl,rfl,ho,hz⟩
 refine ab ?_
 by_cases hlt:i<N
 ·obtain⟨q,hq⟩:∃ q,qs[i]? =some q:=⟨_,List.getElem?_eq_getElem aa⟩
  obtain⟨b,off,s2,p2,n2,c2,t2,r2,m2,d2,rfl,hc,jg⟩:=hv.at hq
  refine VS.bo rfl (decide_eq_true (Int.ofNat_lt.2 hlt)) ?_
  refine ab ?_
  refine VO.cond rfl fw (wV rfl ?_)
  refine VO.read rfl [.bool s2,.slice p2 n2 c2,.bool t2,.slice r2 m2 d2] rfl (λj u hj=>by rw[Addr.add_mid,Int.toNat_natCast];exact hc j u hj) (wV rfl ?_)
  refine ab ?_
  refine VO.call rfl rfl (fk Tryz.func122) (λck cJ da=>(jc _ _ (eg (qs.take i)) q (ba k i) k ck ((ho.kp cJ).in hz) (jg.kp (Kp.of (U:=UU) da)) (by have:=km (k:=k) hi;omega) (by unfold bF at*;omega)).mono ?_)
  rintro e w3 ⟨r3',rfl,q3,bM⟩
  obtain⟨s4,p4,n4,c4,t4,y4,m4,d4,rfl⟩:=q3.form
  refine aB bM ?_
  intro dP _ bb3
  refine VS.back (N-(i+1)) aa ⟨_,_,?_,?_,?_,?_,⟨i+1,s4,p4,n4,c4,t4,y4,m4,d4,by omega,rfl,rfl,rfl,(q3.mono da.size).cast (iL hq).symm,by rw[iL hq,mU];exact hz.add jg.oZ⟩⟩
  ·refine⟨rfl,?_,rfl,rfl,trivial⟩
   rw[<-bD aa];rfl
  ·exact dX
  ·rfl
  ·exact ll
 ·refine VS.bB rfl (decide_eq_false (λe=>hlt (Int.ofNat_lt.1 e))) ?_
  refine ab ?_
  refine az ?_;intro wz kz bz
  obtain rfl:i=N:=by omega
  rw[List.take_of_length_le aa] at ho hz
  exact⟨_,rfl,ho.kp kz,hz,bz⟩
theorem ay.Es {w:World} {v:Value} {q:Rat} {j k:Nat} (h:ay w v q j) (hjk:j<=k):ay w v q k:=by
 obtain⟨s,xs,t,ys,h1,h2,h3,h4⟩:=h
 exact⟨s,xs,t,ys,h1,h2,Nat.le_trans h3 hjk,Nat.le_trans h4 hjk⟩
theorem JX (n d:Int) (w:World) (h0: -9223372036854775808<=n) (h1:n<=9223372036854775807) (g0: -9223372036854775808<=d) (g1:d<=9223372036854775807) (c:Int) (hc:mR d=c):
 Calls Tryz.prog 143 #[.int .i64 n,.int .i64 d] w λe w'=>∃ r,e=.returned (.tuple #[r,.int .i64 c])/\aH w' w.heap.size r (Rat.divInt n d)/\ax w w':=hc▸FV n d w h0 h1 g0 g1
theorem bS.of {n d:Int} (hn:n.natAbs<4294967296) (hd:d.natAbs<4294967296):bS (Rat.divInt n d) 1:=by
 by_cases h:d=0
 ·rw[h,Rat.divInt_zero];exact bS.zero
 ·exact kh (Sz.small hn) (Sz.small hd) h
theorem aX.cast {w:World} {v:Value} {q q':Rat} (h:aX w v q) (e:q'=q):aX w v q':=e▸h
inductive ey (w:World) (k:Nat):List Rat->List (List Value)->Prop
 | nil:ey w k [] []
 | cons {s:Bool} {p:Option Addr} {n c:Nat} {t:Bool} {r:Option Addr} {m d:Nat} {q:Rat} {qs:List Rat} {vs:List (List Value)}:ay w (.agg #[.bool s,.slice p n c,.bool t,.slice r m d]) q k->ey w k qs vs->ey w k (q::qs) ([.bool s,.slice p n c,.bool t,.slice r m d]::vs)
theorem ey.four {w:World} {k:Nat} {qs:List Rat} {vs:List (List Value)} (h:ey w k qs vs):∀ v∈vs,v.length=4:=by
 induction h with
 | nil=>intro v hv;cases hv
 | cons _ _ ih=>
   intro v hv
   rcases List.mem_cons.1 hv with rfl|e
   ·rfl
   ·exact ih v e
theorem ey.at {w:World} {k:Nat} {qs:List Rat} {vs:List (List Value)} (h:ey w k qs vs):∀ (j:Nat) (q:Rat),qs[j]? =some q->∃ s p' n' c' t r m d,vs[j]? =some [Value.bool s,.slice p' n' c',.bool t,.slice r m d]/\ay w (.agg #[.bool s,.slice p' n' c',.bool t,.slice r m d]) q k:=by
 induction h with
 | nil=>intro j q hq;simp at hq
 | cons h1 _ ih=>
   intro j q hq
   cases j with
   | zero=>cases hq;exact⟨_,_,_,_,_,_,_,_,rfl,h1⟩
   | succ j=>exact ih j q (by simpa using hq)
theorem flat_at:∀ (vs:List (List Value)) (j:Nat) (v:List Value),(∀ v∈vs,v.length=4)->vs[j]? =some v->∀ (o:Nat) (u:Value),v[o]? =some u->vs.flatten[j*4+o]? =some u:=by
 intro vs
 induction vs with
 | nil=>intro j v _ h;simp at h
 | cons x r ih=>
   intro j v hl h o u hu
   have hx:x.length=4:=hl x cU
   cases j with
   | zero=>
     simp at h
     subst h
     have ho:o<4:=by have:=(List.getElem?_eq_some_iff.1 hu).1;omega
     rw[List.flatten_cons,List.getElem?_append_left aa]
     simpa using hu
   | succ j=>
     have h':r[j]? =some v:=by simpa using h
     rw[List.flatten_cons,List.getElem?_append_right aa,hx,show (j+1)*4+o-4=j*4+o by omega]
     exact ih j v (λv hv=>hl v (by simp[hv])) h' o u hu
theorem kn {C:Cx} {β:Nat->Nat} {w:World} {i:Nat} {t:TypeId} {cs:List AV} {qs:List Rat} {k:Nat} {vs:List (List Value)} {n c:Nat} (h:iV C β w i t cs) (spare:List AV) (hcs:cs=vs.flatten.map .val++spare) (hn:n=qs.length) (hq:ey w k qs vs) (hc:n<=c) (dY:c<=maxLen):
  gH w (.slice (some ⟨β i,0,none⟩) n c) qs k:=by
 subst hn
 refine⟨_,_,rfl,hc,dY,λj q hj=> ?_⟩
 obtain⟨s,p',n',c',t',r,m,d,hvj,jg⟩:=hq.at j q hj
 refine⟨β i,0,s,p',n',c',t',r,m,d,rfl,λo u hu=> ?_,jg⟩
 refine h.cls.cell ?_
 have:=flat_at vs j _ hq.four hvj o u hu
 rw[hcs,List.map_append,aO,List.getElem?_toArray,Nat.zero_add,List.getElem?_append_left (List.getElem?_eq_some_iff.1 this).1]
 exact this
theorem lz (v:Value) (q:Rat) (k:Nat) (w:World) (hv:ay w v q k) (hk:k<=536870912) (c:Int) (hc:jh q 0=c):
 Calls Tryz.prog 82 #[v] w λe w'=>e=.returned (.int .i64 c)/\ax w w':=hc▸AQ v q k w hv hk
theorem oN (v u:Value) (q r:Rat) (k l:Nat) (w:World) (hv:ay w v q k) (hu:ay w u r l) (hk:k<=67108864) (hl:l<=67108864) (b:Bool) (hb:decide (q=r)=b):
 Calls Tryz.prog 16 #[v,u] w λe w'=>e=.returned (.bool b)/\ax w w':=hb▸AR v u q r k l w hv hu hk hl
theorem bP.in {w:World} {v:Value} {s t:Bool} {xs ys:List Nat} {k:Nat} (h:bP w v s xs t ys) (hx:xs.length<=k) (hy:ys.length<=k):ay w v (rq s xs t ys) k:=⟨s,xs,t,ys,h,rfl,hx,hy⟩
theorem bP.xq {w:World} {v:Value} {s t:Bool} {xs ys:List Nat} (h:bP w v s xs t ys):∃ p c r d,v=.agg #[.bool s,.slice p xs.length c,.bool t,.slice r ys.length d]/\True:=by
 obtain⟨p,c,r,d,rfl,_⟩:=h
 exact⟨_,_,_,_,rfl,trivial⟩
theorem Et {a b:Rat}:jh a b<=0↔a<=b:=by
 unfold jh
 split
 ·rename_i h;exact⟨λ_=>Rat.le_of_lt h,λ_=>by omega⟩
 ·split
  ·rename_i h;exact⟨λ_=>by rw[h];exact Rat.le_refl,λ_=>by omega⟩
  ·rename_i h1 h2;exact⟨λh=>by omega,λh=>absurd (Rat.not_lt.1 h1) (λh3=>h2 (Rat.le_antisymm h h3))⟩
theorem rcmp_eq {a b:Rat} (h:a=b):jh a b=0:=by subst h;unfold jh;rw[if_neg (by exact Rat.lt_irrefl),if_pos rfl]
theorem Eu {b:Rat} (h:b≠0):jh b 0≠0:=by
 unfold jh
 split
 ·omega
 ·first|omega|(rw[if_neg h];omega)
theorem uY {b:Rat} (h:b=0):jh b 0=0:=rcmp_eq h
theorem xr {y x:Rat}:jv y x=true↔y<x:=by
 unfold jv jh
 by_cases h:y<x
 ·simp[h]
 ·simp only[h,if_false,iff_false];split <;> simp
theorem nk {y x:Rat}:JV y x=true↔x<y:=by
 unfold JV
 rw[decide_eq_true_iff]
 constructor
 ·intro h
  exact Rat.not_le.1 (λe=>by have:=Et.2 e;omega)
 ·intro h
  have:=mt Et.1 (Rat.not_le.2 h)
  omega
theorem ay.inv {w:World} {v:Value} {q:Rat} {k:Nat} (h:ay w v q k):∃ s xs t ys,bP w v s xs t ys/\q=rq s xs t ys/\xs.length<=k/\ys.length<=k:=h
end
section
open Go.RowKit
abbrev KpT (T:TypeId->Bool) (w w':World):Prop:=aY ⟨UU,λ_=>True,T⟩ w w'
structure fJ {α:Type} (E:World->List Value->α->Prop) (sz:Nat):Prop where
 kp:∀ {w w':World} {cs:List Value} {a:α},E w cs a->Kp UU w w'->E w' cs a
 len:∀ {w:World} {cs:List Value} {a:α},E w cs a->cs.length=sz
 ok:∀ {w:World} {cs:List Value} {a:α},E w cs a->cs.all aN=true
theorem KpT.plain {T:TypeId->Bool} {w w':World} (h:KpT T w w'):Kp UU w w':=h.qQ
inductive fK {α:Type} (E:World->List Value->α->Prop) (w:World):List α->List (List Value)->Prop
 | nil:fK E w [] []
 | cons {a:α} {es:List α} {cs:List Value} {vs:List (List Value)}:E w cs a->fK E w es vs->fK E w (a::es) (cs::vs)
section
variable {α:Type} {E:World->List Value->α->Prop} {sz:Nat} {w w':World} {es:List α} {vs:List (List Value)}
theorem fK.kp (hE:fJ E sz) (h:fK E w es vs) (k:Kp UU w w'):fK E w' es vs:=by
 induction h with
 | nil=>exact .nil
 | cons h1 _ ih=>exact .cons (hE.kp h1 k) ih
theorem fK.at (h:fK E w es vs):∀ (j:Nat) (a:α),es[j]? =some a->∃ cs,vs[j]? =some cs/\E w cs a:=by
 induction h with
 | nil=>intro j q hq;simp at hq
 | cons h1 _ ih=>
   intro j q hq
   cases j with
   | zero=>cases hq;exact⟨_,rfl,h1⟩
   | succ j=>exact ih j q (by simpa using hq)
theorem fK.append {es':List α} {FY:List (List Value)} (h:fK E w es vs) (h':fK E w es' FY):fK E w (es++es') (vs++FY):=by
 induction h with
 | nil=>exact h'
 | cons h1 _ ih=>exact .cons h1 ih
theorem fK.snoc {a:α} {cs:List Value} (h:fK E w es vs) (h':E w cs a):fK E w (es++[a]) (vs++[cs]):=h.append (.cons h' .nil)
theorem fK.ok (hE:fJ E sz) (h:fK E w es vs):vs.flatten.all aN=true/\vs.flatten.length=es.length*sz:=by
 induction h with
 | nil=>exact⟨rfl,by simp⟩
 | cons h1 _ ih=>
   refine⟨?_,?_⟩
   ·rw[List.flatten_cons,List.all_append,ih.1,hE.ok h1];rfl
   ·rw[List.flatten_cons,List.length_append,ih.2,hE.len h1,List.length_cons,Nat.add_mul,Nat.one_mul,Nat.add_comm]
theorem fK.cell (hE:fJ E sz) (h:fK E w es vs):∀ (j:Nat) (cs:List Value),vs[j]? =some cs->∀ (o:Nat) (u:Value),cs[o]? =some u->vs.flatten[j*sz+o]? =some u:=by
 induction h with
 | nil=>intro j v h;simp at h
 | @cons a es cs vs h1 _ ih=>
   intro j v h o u hu
   have hx:=hE.len h1
   cases j with
   | zero=>
     simp at h
     subst h
     have ho:o<sz:=by have:=(List.getElem?_eq_some_iff.1 hu).1;omega
     rw[List.flatten_cons,Nat.zero_mul,Nat.zero_add,List.getElem?_append_left aa]
     exact hu
   | succ j=>
     rw[List.flatten_cons,List.getElem?_append_right (by rw[Nat.add_mul];omega)]
     have:=ih j v (by simpa using h) o u hu
     rw[<-this]
     congr 1
     rw[Nat.add_mul]
     omega
def cf (E:World->List Value->α->Prop) (sz:Nat) (w:World) (v:Value) (es:List α):Prop:=
 ∃ p c,v=.slice p es.length c/\es.length<=c/\c<=maxLen/\∀ (i:Nat) (a:α),es[i]? =some a->∃ b off cs,p=some ⟨b,off,none⟩/\(∀ (j:Nat) (u:Value),cs[j]? =some u->w.cell? ⟨b,off+i*sz+j,none⟩=some u)/\E w cs a
theorem cf.form {v:Value} (h:cf E sz w v es):∃ p c,v=.slice p es.length c/\es.length<=c/\c<=9223372036854775807:=by
 obtain⟨p,c,hv,h1,h2,_⟩:=h
 exact⟨p,c,hv,h1,by simpa [maxLen] using h2⟩
theorem cf.at {p:Option Addr} {n c i:Nat} {a:α} (h:cf E sz w (.slice p n c) es) (hq:es[i]? =some a):∃ b off cs,p=some ⟨b,off,none⟩/\(∀ (j:Nat) (u:Value),cs[j]? =some u->w.cell? ⟨b,off+i*sz+j,none⟩=some u)/\E w cs a:=by
 obtain⟨p',c',hv,h1,h2,h3⟩:=h
 cases hv
 exact h3 i a hq
theorem cf.bq (hE:fJ E sz) {v:Value} (h:cf E sz w v es) (hb:ax w w'):cf E sz w' v es:=by
 obtain⟨p,c,hv,h1,h2,h3⟩:=h
 refine⟨p,c,hv,h1,h2,λi q hq=> ?_⟩
 obtain⟨b,off,cs,hp,hc,hr⟩:=h3 i q hq
 exact⟨b,off,cs,hp,λj u hj=>hb.cell (hc j u hj),hE.kp hr (Kp.of hb)⟩
theorem cf.mono {E':World->List Value->α->Prop} {v:Value} (h:cf E sz w v es) (hm:∀ (i:Nat) (a:α) (cs:List Value),es[i]? =some a->E w cs a->E' w cs a):cf E' sz w v es:=by
 obtain⟨p,c,hv,h1,h2,h3⟩:=h
 refine⟨p,c,hv,h1,h2,λi q hq=> ?_⟩
 obtain⟨b,off,cs,hp,hc,hr⟩:=h3 i q hq
 exact⟨b,off,cs,hp,hc,hm i q cs hq hr⟩
theorem cf.nil (w:World) (E:World->List Value->α->Prop) (sz:Nat):cf E sz w (.slice none 0 0) []:=⟨none,0,rfl,Nat.le_refl _,by decide,λi q hq=>by simp at hq⟩
theorem np (hE:fJ E sz) {b n c:Nat} {t:TypeId} {spare:List Value} (h:aW w b t (vs.flatten++spare).toArray) (hr:fK E w es vs) (hn:n=es.length) (hc:n<=c) (hm:c<=9223372036854775807):cf E sz w (.slice (some ⟨b,0,none⟩) n c) es:=by
 subst hn
 refine⟨_,_,rfl,hc,by simpa [maxLen] using hm,λi a ha=> ?_⟩
 obtain⟨cs,h1,h2⟩:=hr.at i a ha
 refine⟨b,0,cs,rfl,λj u hj=> ?_,h2⟩
 have:=hr.cell hE i cs h1 j u hj
 refine h.cell ?_
 rw[List.getElem?_toArray,Nat.zero_add,List.getElem?_append_left (List.getElem?_eq_some_iff.1 this).1]
 exact this
theorem qj (hE:fJ E sz) {C:Cx} {β:Nat->Nat} {i n c:Nat} {t:TypeId} {cs:List AV} (h:iV C β w i t cs) (spare:List AV) (hcs:cs=vs.flatten.map .val++spare) (hr:fK E w es vs) (hn:n=es.length) (hc:n<=c) (hm:c<=9223372036854775807):
  cf E sz w (.slice (some ⟨β i,0,none⟩) n c) es:=by
 refine np hE (spare:=spare.map (AV.leaf β)) (t:=t) ?_ hr hn hc hm
 have:=h.cls
 rw[hcs,List.map_append,aO] at this
 exact this
def gI (E:World->List Value->α->Prop) (sz:Nat) (t:TypeId) (B:Nat) (w:World) (v:Value) (es:List α):Prop:=
 (v=.slice none 0 0/\es=[])\/∃ b c vs spare,v=.slice (some ⟨b,0,none⟩) es.length c/\B<=b/\aW w b t (vs.flatten++spare).toArray/\fK E w es vs/\spare.all aN=true/\es.length<=c/\c<=9223372036854775807/\(vs.flatten++spare).length=c*sz
theorem gI.sl (hE:fJ E sz) {t:TypeId} {B:Nat} {v:Value} (h:gI E sz t B w v es):cf E sz w v es:=by
 rcases h with ⟨rfl,rfl⟩|⟨b,c,vs,spare,rfl,_,h1,h2,_,h3,h4,_⟩
 ·exact cf.nil _ _ _
 ·exact np hE h1 h2 rfl h3 h4
theorem gI.form {t:TypeId} {B:Nat} {v:Value} (h:gI E sz t B w v es):∃ p c,v=.slice p es.length c:=by
 rcases h with ⟨rfl,rfl⟩|⟨b,c,vs,spare,rfl,_⟩
 ·exact⟨_,_,rfl⟩
 ·exact⟨_,_,rfl⟩
theorem gI.kp (hE:fJ E sz) {t:TypeId} {B:Nat} {v:Value} {T:TypeId->Bool} (h:gI E sz t B w v es) (k:KpT T w w') (ht:T t=true):gI E sz t B w' v es:=by
 rcases h with ⟨rfl,rfl⟩|⟨b,c,vs,spare,rfl,h0,h1,h2,h3⟩
 ·exact .inl ⟨rfl,rfl⟩
 ·refine .inr ⟨b,c,vs,spare,rfl,h0,k.block t b _ ?_ trivial h1,h2.kp hE k.plain,h3⟩
  show (Nat.beq t UU || T t)=true
  rw[ht]
  simp
end
section
variable {C:Cx} {F:Fr} {H:Hp} {w:World} {m:Option (List FuncId)} {full:Array Oper} {K:Fr->Hp->World->Prop} {o:Oper} {r:List Oper}
theorem VO.callX {α:Type} {E:World->List Value->α->Prop} {sz:Nat} (hE:fJ E sz) {d:fI} {dst:Nat} {t:TypeId} {es:List α} (e:stepOf C full F H o=.call d) (hd:o.dst=some dst) (h0:H dst=none) (hN:dst<C.N) (hl:1<=lvl C.SU m o) (ht:C.K.fz t=false)
  (h:∀ w1 β,aY C.K w w1->C.Old w1->gY C β H d.ids w1->qS C.P d β w1 λe w2=>∃ v,e=.returned v/\ax w1 w2/\gI E sz t w1.heap.size w2 v es/\
   (aY C.K w w2->aY C.K w1 w2->C.Old w2->es=[]->ao C m full r K (F.bm o.dst (.val (.slice none 0 0))) H w2)/\
   (∀ c vs spare,aY C.K w w2->aY C.K w1 w2->C.Old w2->fK E w2 es vs->spare.all aN=true->es.length<=c->c<=9223372036854775807->(vs.flatten++spare).length=c*sz->ao C m full r K (F.bm o.dst (.row dst 0 es.length c)) (H.put dst (t,vs.flatten.map .val++spare.map .val)) w2)):ao C m full (o::r) K F H w:=by
 show one C m full o (ao C m full r K) F H w
 unfold one
 rw[e]
 refine λw1 β h1 h2 h3=>(h w1 β h1 h2 h3).mono ?_
 rintro e w2 ⟨v,rfl,hb,hn,k1,k2⟩
 rcases hn with ⟨rfl,rfl⟩|⟨b,c,vs,spare,rfl,q1,q2,q3,q4,q5,q6,q7⟩
 ·exact⟨β,.val (.slice none 0 0),none,[],rfl,λi hi=>(by cases hi),.inr rfl,.inr rfl,vS.none hb,λa b c _ _=>k1 a b c rfl⟩
 ·let bZ:Nat->Nat:=λi=>if i=dst then b else β i
  have pQ:bZ dst=b:=if_pos rfl
  have nJ:vs.flatten.map AV.val++spare.map AV.val=(vs.flatten++spare).map AV.val:=by rw[List.map_append]
  have ig:(vs.flatten.map AV.val++spare.map AV.val).all aE=true:=by rw[nJ];exact cQ (by rw[List.all_append,(q3.ok hE).1,q4];rfl)
  refine⟨bZ,.row dst 0 es.length c,none,[(dst,(t,vs.flatten.map AV.val++spare.map AV.val))],?_,λi hi=>.inl (by simpa [AV.ids] using hi),.inl hl,.inr rfl,?_,λa1 a2 a3 _ _=>k2 c vs spare a1 a2 a3 q3 q4 q5 q6 q7⟩
  ·show Ending.returned _=.returned (Value.slice (some ⟨bZ dst,0,none⟩) es.length c);rw[pQ]
  ·refine⟨hb.os,hb.tape,hb.output,hb.size,λk hk _ _ _=>Below.block hb k hk,λi hi=>if_neg (by simpa using hi),λi hi=>(by cases hi),λi hi=>(by cases hi),λx hx=> ?_,λx hx=> ?_,by simp,λx hx y hy _=> ?_,λx hx j hj=> ?_⟩
   ·cases List.mem_singleton.1 hx
    refine⟨by rw[pQ];exact C.rU _ _ aa (by have:=C.gR _ h2;omega),ht,?_,ig⟩
    rw[pQ,nJ,aO];exact q2
   ·cases List.mem_singleton.1 hx
    exact .inr ⟨.inl h0,by omega,.inl (by rw[pQ];exact q1)⟩
   ·cases List.mem_singleton.1 hx;cases List.mem_singleton.1 hy;rfl
   ·cases List.mem_singleton.1 hx
    rw[nJ,af] at hj;cases hj
end
def yq {α:Type} (E:World->List Value->α->Prop) (sz:Nat) (w:World) (p:Option Addr) (es:List α) (n:Nat):Prop:=
 ∀ (i:Nat) (a:α),i<n->es[i]? =some a->∃ b off cs,p=some ⟨b,off,none⟩/\(∀ (j:Nat) (u:Value),cs[j]? =some u->w.cell? ⟨b,off+i*sz+j,none⟩=some u)/\E w cs a
theorem yq.zero {α:Type} {E:World->List Value->α->Prop} {sz:Nat} {w:World} {p:Option Addr} {es:List α}:yq E sz w p es 0:=λi a hi=>absurd hi (Nat.not_lt_zero i)
theorem yq.snoc {α:Type} {E:World->List Value->α->Prop} {sz:Nat} {w:World} {b off:Nat} {es:List α} {n:Nat} {a:α} {cs:List Value} (h:yq E sz w (some ⟨b,off,none⟩) es n) (ha:es[n]? =some a) (hc:∀ (j:Nat) (u:Value),cs[j]? =some u->w.cell? ⟨b,off+n*sz+j,none⟩=some u) (he:E w cs a):yq E sz w (some ⟨b,off,none⟩) es (n+1):=λi x hi hx=>by
 rcases Nat.lt_succ_iff_lt_or_eq.1 hi with h' |h'
 ·exact h i x h' hx
 ·subst h';rw[ha] at hx;cases hx;exact⟨b,off,cs,rfl,hc,he⟩
theorem yq.all {α:Type} {E E':World->List Value->α->Prop} {sz:Nat} {w:World} {p:Option Addr} {es:List α} {n c:Nat} (h:yq E sz w p es n) (h':cf E' sz w (.slice p n c) es):cf E sz w (.slice p n c) es:=by
 obtain⟨p',c',hv,h1,h2,_⟩:=h'
 cases hv
 exact⟨p,c,rfl,h1,h2,λi a ha=>h i a (List.getElem?_eq_some_iff.1 ha).1 ha⟩
theorem uZ {α:Type} {E:World->List Value->α->Prop} {sz:Nat} {C:Cx} {β:Nat->Nat} {w:World} {i n c:Nat} {t:TypeId} {es:List α} {vs:List (List Value)} {spare:List AV} (h:iV C β w i t (vs.flatten.map .val++spare)) (hr:fK E w es vs) (hn:n=es.length) (hc:n<=c) (hm:c<=9223372036854775807) (hl:(vs.flatten.map AV.val++spare).length=c*sz)
  (hnw:∀ i g,C.uh i g->C.w0.heap.size<=g:=by exact λ_ _ h=>h):gI E sz t C.w0.heap.size w (.slice (some ⟨β i,0,none⟩) n c) es:=by
 subst hn
 have hk:=h.ok
 rw[List.all_append,Bool.and_eq_true] at hk
 refine .inr ⟨β i,c,vs,spare.map (AV.leaf β),rfl,hnw _ _ h.new,?_,hr,dH hk.2,hc,hm,by rw[<-hl];simp only[List.length_append,List.length_map]⟩
 have:=h.cls
 rw[List.map_append,aO] at this
 exact this
theorem lH {n d:Int} (h0: -9223372036854775808<=n) (h1:n<=9223372036854775807) (g0: -9223372036854775808<=d) (g1:d<=9223372036854775807):bS (Rat.divInt n d) 2:=by
 by_cases hd:d=0
 ·rw[hd,Rat.divInt_zero];exact bS.zero.mono aa
 ·exact kh (Sz.of_lt aa) (Sz.of_lt aa) hd
end
set_option maxRecDepth 4000
section
open Go.RowKit
attribute [local irreducible] ao VS
theorem iB (xs:List Nat) (v:Value) (n:Nat) (w:World) (hr:Rd w 1 v n (ints .u32 xs)) (hn:n<=1073741824):
  Calls Tryz.prog 115 #[v] w λe w'=>∃ p c,e=.returned (.slice p n c)/\w'.ownsRow w.heap.size UU 1 (.slice p n c) n (ints .u32 xs)/\ax w w':=by
 obtain⟨p,c,rfl,kG⟩:∃ p c,v=.slice p n c/\True:=by
  obtain⟨p,c,hv,_⟩:=hr
  exact⟨p,c,hv,trivial⟩
 refine ae (C:=aR Tryz.prog w _) (args:=[_]) Tryz.func115 rfl Tryz.ntmps115 (bt rfl) ?_
 refine ab ?_
 refine VO.appU (bQ _ _) (t:=30) (e:=191) (n:=n) (news:=ints .u32 xs) rfl rfl rfl rfl rfl (jN .u32 xs) aa (λw1 k1 b1=>hr.below b1) (λw2 p2 c2 k2 b2 ho=>wV rfl ?_)
 refine ab ?_
 refine az ?_;intro wz kz bz
 exact⟨_,_,rfl,Own.kp ho kz,bz⟩
theorem eb.HT {w:World} {s:Bool} {p:Option Addr} {xs:List Nat} {c:Nat} (h:eb w (.agg #[.bool s,.slice p xs.length c]) s xs):Rd w 1 (.slice p xs.length c) xs.length (ints .u32 xs)/\bH xs:=by
 obtain⟨p',c',hv,hr,hl⟩:=h
 simp only[Value.agg.injEq,Array.mk.injEq,List.cons.injEq,and_true,true_and,Value.slice.injEq] at hv
 obtain⟨rfl,rfl⟩:=hv
 exact⟨hr,hl⟩
def lI (w:World) (B:Nat) (v:Value) (s:Bool) (xs:List Nat) (t:Bool) (ys:List Nat):Prop:=
 ∃ p c r d,v=.agg #[.bool s,.slice p xs.length c,.bool t,.slice r ys.length d]/\w.ownsRow B UU 1 (.slice p xs.length c) xs.length (ints .u32 xs)/\w.ownsRow B UU 1 (.slice r ys.length d) ys.length (ints .u32 ys)/\bH xs/\bH ys
theorem lI.raw {w:World} {B:Nat} {v:Value} {s:Bool} {xs:List Nat} {t:Bool} {ys:List Nat} (h:lI w B v s xs t ys):bP w v s xs t ys:=by
 obtain⟨p,c,r,d,hv,h1,h2,h3,h4⟩:=h
 exact⟨p,c,r,d,hv,⟨_,_,rfl,Rd.own h1,h3⟩,⟨_,_,rfl,Rd.own h2,h4⟩⟩
theorem lI.kp {T:TypeId->Bool} {w w':World} {B:Nat} {v:Value} {s:Bool} {xs:List Nat} {t:Bool} {ys:List Nat} (h:lI w B v s xs t ys) (k:aY ⟨UU,λ_=>True,T⟩ w w'):lI w' B v s xs t ys:=by
 obtain⟨p,c,r,d,hv,h1,h2,h3,h4⟩:=h
 exact⟨p,c,r,d,hv,Own.kp h1 k,Own.kp h2 k,h3,h4⟩
theorem lI.own {w:World} {B:Nat} {v:Value} {q:Rat} (h:lI w B v (decide (q.num<0)) (limbs q.num.natAbs) (decide ((q.den:Int)<0)) (limbs (q.den:Int).natAbs)):aH w B v q:=by
 obtain⟨p,c,r,d,rfl,h1,h2,h3,h4⟩:=h
 exact⟨_,p,_,c,_,r,_,d,rfl,⟨_,_,rfl,h1⟩,⟨_,_,rfl,h2⟩⟩
theorem Da (s t:Bool) (xs ys:List Nat) (v:Value) (w:World) (h:bP w v s xs t ys) (hx:xs.length<=1073741824) (hy:ys.length<=1073741824):
  Calls Tryz.prog 53 #[v] w λe w'=>∃ r,e=.returned r/\lI w' w.heap.size r s xs t ys/\ax w w':=by
 obtain⟨p,c,r,d,rfl,h1,h2⟩:=h
 refine ae (C:=aR Tryz.prog w _) (args:=[_]) Tryz.func53 rfl Tryz.ntmps53 (bt rfl) ?_
 refine ab ?_
 refine VO.call rfl rfl (fk Tryz.func115) (λaK bn aU=>(iB xs _ _ aK (h1.bq aU).HT.1 hx).mono ?_)
 rintro e w1 ⟨p1,c1,rfl,q1,aC⟩
 skip
 refine aB aC ?_
 intro bL _ bb1
 refine VO.call rfl rfl (fk Tryz.func115) (λaZ bI bu=>(iB ys _ _ aZ (h2.bq bu).HT.1 hy).mono ?_)
 rintro e w2 ⟨p2,c2,rfl,q2,aQ⟩
 skip
 refine aB aQ ?_
 intro cH _ bb2
 refine az ?_;intro wz kz bz
 exact⟨_,rfl,⟨_,_,_,_,rfl,Own.kp (Own.mono q1 aU.size) (cH.aA kz),Own.kp (Own.mono q2 bu.size) kz,h1.HT.2,h2.HT.2⟩,bz⟩
theorem Ga (s t:Bool) (xs ys:List Nat) (v:Value) (w:World) (h:bP w v s xs t ys) (hx:xs.length<=1073741824) (hy:ys.length<=1073741824):
  Calls Tryz.prog 76 #[v] w λe w'=>∃ r,e=.returned r/\lI w' w.heap.size r s xs t ys/\ax w w':=by
 obtain⟨p,c,r,d,rfl,h1,h2⟩:=h
 refine ae (C:=aR Tryz.prog w _) (args:=[_]) Tryz.func76 rfl Tryz.ntmps76 (bt rfl) ?_
 refine ab ?_
 refine VO.call rfl rfl (fk Tryz.func115) (λaK bn aU=>(iB xs _ _ aK (h1.bq aU).HT.1 hx).mono ?_)
 rintro e w1 ⟨p1,c1,rfl,q1,aC⟩
 skip
 refine aB aC ?_
 intro bL _ bb1
 refine VO.call rfl rfl (fk Tryz.func115) (λaZ bI bu=>(iB ys _ _ aZ (h2.bq bu).HT.1 hy).mono ?_)
 rintro e w2 ⟨p2,c2,rfl,q2,aQ⟩
 skip
 refine aB aQ ?_
 intro cH _ bb2
 refine az ?_;intro wz kz bz
 exact⟨_,rfl,⟨_,_,_,_,rfl,Own.kp (Own.mono q1 aU.size) (cH.aA kz),Own.kp (Own.mono q2 bu.size) kz,h1.HT.2,h2.HT.2⟩,bz⟩
theorem JY {d:Int} (h:d≠0):mR d=0:=if_neg h
theorem bG {K:KC} {w w':World} (h:aY K w w':=by (with_reducible (repeat (first|assumption|exact kU _|exact kR _|exact Kp.of (U:=UU) (by assumption)|exact aY.of (by assumption)|refine kT ?_ (by assumption))))):aY K w w':=h
theorem gJ (n d:Int) (w:World) (h0: -9223372036854775808<=n) (h1:n<=9223372036854775807) (g0: -9223372036854775808<=d) (g1:d<=9223372036854775807):
  Calls Tryz.prog 31 #[.int .i64 n,.int .i64 d] w λe w'=>∃ r,e=.returned r/\aH w' w.heap.size r (Rat.divInt n d)/\ax w w':=by
 refine ae (C:=aR Tryz.prog w _) (args:=[_,_]) Tryz.func31 rfl Tryz.ntmps31 (bt rfl) ?_
 refine ab ?_
 refine VO.call rfl rfl (fk Tryz.func75) (λaK bn aU=>(FX n d aK h0 h1 g0 g1).mono ?_)
 rintro e w1 ⟨r1,rfl,q1,aC⟩
 obtain⟨s1,p1,n1,c1,t1,y1,m1,d1,rfl⟩:=q1.form
 refine aB aC ?_
 intro bL _ bb1
 have hsz:(limbs (Rat.divInt n d).num.natAbs).length<=4/\(limbs ((Rat.divInt n d).den:Int).natAbs).length<=4:=by
  by_cases hd:d=0
  ·rw[hd,Rat.divInt_zero];exact⟨bS.zero.1.mono aa,bS.zero.2.mono aa⟩
  ·have h:=kh (X:=n) (Y:=d) (k:=2) (l:=2) (Sz.of_lt aa) (Sz.of_lt aa) hd
   exact⟨h.1.mono aa,h.2.mono aa⟩
 refine VO.call rfl rfl (fk Tryz.func76) (λaZ bI bu=>(Ga _ _ _ _ _ aZ (q1.kp bG).rd.raw aa aa).mono ?_)
 rintro e w2 ⟨r2,rfl,q2,aQ⟩
 obtain⟨p2,c2,y2,d2,rfl,_⟩:=q2.raw.xq
 refine aB aQ ?_
 intro cH _ bb2
 refine az ?_;intro wz kz bz
 exact⟨_,rfl,((q2.kp kz).own).mono bu.size,bz⟩
theorem vc (xs:List Nat) (v u:Value) (n:Nat) (w:World) (hr:Rd w 1 v n (ints .u32 xs)) (hs:Rd w 1 u n (ints .u32 xs)) (oX:n=xs.length):
  Calls Tryz.prog 114 #[v,u] w λe w'=>e=.returned (.bool true)/\ax w w':=by
 subst oX
 obtain⟨n,hn⟩:∃ n,n=xs.length:=⟨_,rfl⟩
 rw[<-hn] at hr hs
 obtain⟨p,c,rfl,dk,dY,dK⟩:=hr.u32
 obtain⟨q,d,rfl,EO,BC,_⟩:=hs.u32
 refine ae (C:=aR Tryz.prog w _) (args:=[_,_]) Tryz.func114 rfl Tryz.ntmps114 (bt rfl) ?_
 refine ab ?_
 refine VS.bB rfl cU ?_
 refine ab ?_
 refine VS.loop (J:=λms L M w'=>∃ (k:Nat),k<=n/\ms=n-k/\L=[(0,.val (.slice p n c)),(1,.val (.slice q n d)),(5,.val (.int .i64 (k:Int)))]/\M=[]) n ⟨_,_,?_,?_,?_,?_,⟨0,by omega,rfl,rfl,rfl⟩⟩ ?_
 ·exact dX
 ·exact dX
 ·rfl
 ·exact ll
 rintro ms L M w' ⟨k,hk,hms,rfl,rfl⟩
 refine ab ?_
 by_cases sM:k<n
 ·refine VS.bo rfl (decide_eq_true (Int.ofNat_lt.2 sM)) ?_
  refine ab ?_
  obtain⟨b1,o1,x,rfl,aC,ea,lO⟩:=hr.cellAt sM
  obtain⟨b2,o2,y,rfl,aQ,lP,yT⟩:=hs.cellAt sM
  obtain rfl:x=y:=by rw[ea] at lP;exact Option.some.inj lP
  refine VO.cond rfl fw (wV rfl ?_)
  refine VO.read rfl [.int .u32 (x:Int)] rfl (fZ rfl lO) (wV rfl ?_)
  refine VO.cond rfl fw (wV rfl ?_)
  refine VO.read rfl [.int .u32 (x:Int)] rfl (fZ rfl yT) (wV rfl ?_)
  refine ab ?_
  refine VS.bB rfl cU ?_
  refine ab ?_
  refine VS.back (n-(k+1)) aa ⟨_,_,?_,?_,?_,?_,⟨k+1,by omega,rfl,rfl,rfl⟩⟩
  ·refine⟨rfl,rfl,?_,trivial⟩
   rw[<-bD aa];rfl
  ·exact dX
  ·rfl
  ·exact ll
 ·refine VS.bB rfl (decide_eq_false (λe=>sM (Int.ofNat_lt.1 e))) ?_
  refine ab ?_
  refine az ?_;intro wz kz bz
  exact⟨rfl,bz⟩
theorem Gb (s t:Bool) (xs ys:List Nat) (v u:Value) (w:World) (hv:bP w v s xs t ys) (hu:bP w u s xs t ys):
  Calls Tryz.prog 52 #[v,u] w λe w'=>e=.returned (.bool true)/\ax w w':=by
 obtain⟨p,c,r,d,rfl,v1,v2⟩:=hv
 obtain⟨p',c',r',d',rfl,u1,u2⟩:=hu
 refine ae (C:=aR Tryz.prog w _) (args:=[_,_]) Tryz.func52 rfl Tryz.ntmps52 (bt rfl) ?_
 refine ab ?_
 refine VO.fix 12 rfl (congrArg (λb=>AV.val (.bool b)) (show (s == s)=true by simp)) ?_
 refine ab ?_
 refine VO.fix 21 rfl (congrArg (λb=>AV.val (.bool b)) (show (t == t)=true by simp)) ?_
 refine ab ?_
 refine VO.cB rfl rfl (fk Tryz.func114) (λaK bn aU=>vc xs _ _ _ aK (v1.bq aU).HT.1 (u1.bq aU).HT.1 rfl) (λaK bn aU w1 aC bL _ bb1=>wV rfl ?_)
 refine ab ?_
 refine VO.cB rfl rfl (fk Tryz.func114) (λaZ bI bu=>vc ys _ _ _ aZ (v2.bq bu).HT.1 (u2.bq bu).HT.1 rfl) (λaZ bI bu w2 aQ cH _ bb2=>wV rfl ?_)
 refine ab ?_
 refine az ?_;intro wz kz bz
 exact⟨rfl,bz⟩
theorem gK (q:Rat) (v u:Value) (w:World) (hv:aX w v q) (hu:aX w u q):
 Calls Tryz.prog 52 #[v,u] w λe w'=>e=.returned (.bool true)/\ax w w':=Gb _ _ _ _ v u w hv.raw hu.raw
end
section
open Go.RowKit
section
variable {T:TypeId->Bool} {w w':World} {v:Value} {q:Rat} {X:Int} {B n:Nat}
theorem ay.k (h:ay w v q n) (k:aY ⟨UU,λ_=>True,T⟩ w w':=by exact bG):ay w' v q n:=h.kp k
theorem aX.k (h:aX w v q) (k:aY ⟨UU,λ_=>True,T⟩ w w':=by exact bG):aX w' v q:=h.kp k
theorem aH.k (h:aH w B v q) (k:aY ⟨UU,λ_=>True,T⟩ w w':=by exact bG):aH w' B v q:=h.kp k
theorem aH.kr (h:aH w B v q) (k:aY ⟨UU,λ_=>True,T⟩ w w':=by exact bG):aX w' v q:=(h.kp k).rd
theorem aH.ki (h:aH w B v q) (hs:bS q n) (k:aY ⟨UU,λ_=>True,T⟩ w w':=by exact bG):ay w' v q n:=(h.kp k).in hs
theorem aX.ki (h:aX w v q) (hs:bS q n) (k:aY ⟨UU,λ_=>True,T⟩ w w':=by exact bG):ay w' v q n:=(h.kp k).to hs
theorem bf.k (h:bf w v X) (k:aY ⟨UU,λ_=>True,T⟩ w w':=by exact bG):bf w' v X:=h.kp k
theorem aj.k (h:aj w B v X) (k:aY ⟨UU,λ_=>True,T⟩ w w':=by exact bG):aj w' B v X:=h.kp k
theorem aj.kr (h:aj w B v X) (k:aY ⟨UU,λ_=>True,T⟩ w w':=by exact bG):bf w' v X:=(h.kp k).rd
theorem aj.ki (h:aj w B v X) (hs:Sz X n) (k:aY ⟨UU,λ_=>True,T⟩ w w':=by exact bG):bk w' v X n:=(h.kp k).in hs
theorem bf.ki (h:bf w v X) (hs:Sz X n) (k:aY ⟨UU,λ_=>True,T⟩ w w':=by exact bG):bk w' v X n:=(h.kp k).to hs
end
theorem Sz.floor {q:Rat} {k:Nat} (h:bS q k):Sz q.floor k:=by
 refine Sz.le h.1 ?_
 rw[Rat.floor_def]
 exact Int.natAbs_ediv_le_natAbs _ _
end
section
open Go.RowKit
attribute [local irreducible] ao VS
theorem bne_y {a b:Int} (h:a≠b):(a != b)=true:=by simpa using h
theorem bne_n {a b:Int} (h:a=b):(a != b)=false:=by simpa using h
theorem beq_y {a b:Int} (h:a=b):(a == b)=true:=by simpa using h
theorem JZ {a b:Int} (h:a≠b):(a == b)=false:=by simpa using h
structure cg {α:Type} (E:World->List Value->α->Prop) (sz:Nat) (w:World) (n c:Nat) (vs:List (List Value)) (sp:List AV) (es:List α):Prop where
 len:n=es.length
 el:fK E w es vs
 so:sp.all aE=true
 sl:aI sp=[]
 le:n<=c
 cm:c<=9223372036854775807
 fl:(vs.flatten.map AV.val++sp).length=c*sz
section
variable {α:Type} {E:World->List Value->α->Prop} {sz n c:Nat} {w w':World} {vs:List (List Value)} {sp:List AV} {es:List α}
theorem cg.kp (hE:fJ E sz) (h:cg E sz w n c vs sp es) (k:Kp UU w w'):cg E sz w' n c vs sp es:=⟨h.len,h.el.kp hE k,h.so,h.sl,h.le,h.cm,h.fl⟩
theorem cg.vd {M:List (Nat×(TypeId×List AV))} (h:cg E sz w n c vs sp es):aq M (vs.flatten.map AV.val++sp):=.append (.vals _) (.none h.sl)
theorem cg.cX (h:cg E sz w n c vs sp es):aI (vs.flatten.map AV.val++sp)=[]:=by rw[ek,af,h.sl];rfl
theorem cg.new {C:Cx} {β:Nat->Nat} {i:Nat} {t:TypeId} (hE:fJ E sz) (h:cg E sz w n c vs sp es) (o:iV C β w' i t (vs.flatten.map .val++sp)) (k:Kp UU w w') (hnw:∀ i g,C.uh i g->C.w0.heap.size<=g:=by exact λ_ _ h=>h):
 gI E sz t C.w0.heap.size w' (.slice (some ⟨β i,0,none⟩) n c) es:=uZ o (h.el.kp hE k) h.len h.le h.cm h.fl hnw
theorem cg.sl' {C:Cx} {β:Nat->Nat} {i:Nat} {t:TypeId} (hE:fJ E sz) (h:cg E sz w n c vs sp es) (o:iV C β w' i t (vs.flatten.map .val++sp)) (k:Kp UU w w'):
 cf E sz w' (.slice (some ⟨β i,0,none⟩) n c) es:=qj hE o sp rfl (h.el.kp hE k) h.len h.le h.cm
theorem cg.cell (hE:fJ E sz) (h:cg E sz w n c vs sp es) {i:Nat} {a:α} (ha:es[i]? =some a):∃ cs,vs[i]? =some cs/\E w cs a/\cs.length=sz/\∀ (k:Nat) (ds:List Value),ds <+:cs.drop k->∀ (j:Nat) (u:AV),(ds.map AV.val)[j]? =some u->(vs.flatten.map AV.val++sp)[0+((i:Nat):Int).toNat*sz+k+j]? =some u:=by
 obtain⟨cs,h1,h2⟩:=h.el.at i a ha
 refine⟨cs,h1,h2,hE.len h2,λk ds hd j u hj=> ?_⟩
 obtain⟨t,ht⟩:=hd
 rw[List.getElem?_map] at hj
 obtain⟨x,hx,rfl⟩:=Option.map_eq_some_iff.1 hj
 have hx':cs[k+j]? =some x:=by
  rw[<-List.getElem?_drop,<-ht,List.getElem?_append_left (List.getElem?_eq_some_iff.1 hx).1];exact hx
 have:=h.el.cell hE i cs h1 (k+j) x hx'
 rw[Int.toNat_natCast,Nat.zero_add,Nat.add_assoc,List.getElem?_append_left (by rw[List.length_map];exact (List.getElem?_eq_some_iff.1 this).1),List.getElem?_map,this]
 rfl
end
section
variable {C:Cx} {F:Fr} {H:Hp} {w:World} {m:Option (List FuncId)} {full:Array Oper} {K:Fr->Hp->World->Prop} {o:Oper} {r:List Oper}
theorem VO.sn (hC:C.Ok) {α:Type} {E:World->List Value->α->Prop} {sz:Nat} (hE:fJ E sz) {t e te:TypeId} {it ie:TI} {x y:Operand} {s:Nat} {cs:List Value} {a:α} {dst:Nat}
  (e0:stepOf C full F H o=.call (.op o [.val (.slice none 0 0),.row s 0 1 1])) (ho:o.op=.call { callee:=.builtin .append,args:=#[x,y],argTypes:=#[t,t] })
  (yH:C.ti t=some it) (ny:it.elem=some (e,sz)) (BJ:C.ti e=some ie) (hU:C.K.fz e=false) (hzo:ie.zero.cells.toList.all aN=true)
  (hd:o.dst=some dst) (hN:dst<C.N) (hl:lvl C.SU m o=2) (ft:H dst=none) (hs:H s=some (te,cs.map .val)) (hcs:E w cs a) (fQ:24*sz<=140737488355328)
  (hK:∀ w2 cap sp,aY C.K w w2->C.Old w2->cg E sz w2 1 cap [cs] sp [a]->ao C m full r K (F.bm o.dst (.row dst 0 1 cap)) (H.put dst (e,[cs].flatten.map AV.val++sp)) w2)
  (hkp:∀ w w',aY C.K w w'->Kp UU w w':=by first|exact λ_ _ h=>h|exact λ_ _ h=>h.qQ):ao C m full (o::r) K F H w:=by
 have hlen:=hE.len hcs
 refine VO.app hC e0 ho yH ny BJ hU hzo hd hN hl (known:=[]) (spare:=[]) (del:=none) (n:=0) (c:=0) (mm:=1) (news:=cs.map .val) (.inl ⟨rfl,rfl,rfl,rfl,rfl,rfl,by omega⟩) (.inl ft) cU cU aa aa ⟨rfl,rfl,af _⟩ ⟨rfl,rfl,cQ (hE.ok hcs)⟩ (by rw[List.length_map,hlen];omega) aa
  (λw1 β k1 b1 ho=>⟨_,_,rfl,.inr ⟨β s,0,rfl,eQ (rest:=[]) (ho.own s (.base (List.mem_append_right _ (List.mem_singleton.2 rfl))) _ _ hs) (by rw[List.append_nil])⟩⟩) (λw2 cap sp ρ k2 b2 eH h1 h2 h3 h4 h5=> ?_)
 have:=hK w2 cap sp k2 b2 ⟨rfl,.cons (hE.kp hcs (hkp _ _ k2)) .nil,h4,h5,by omega,h2,by simpa using h3⟩
 have e':([cs].flatten.map AV.val++sp)=([]++cs.map .val)++sp:=by simp
 rw[e'] at this
 exact this
theorem VO.sq (hC:C.Ok) {α:Type} {E:World->List Value->α->Prop} {sz:Nat} (hE:fJ E sz) {t e te:TypeId} {it ie:TI} {x y:Operand} {s i n c:Nat} {cs:List Value} {a:α} {vs:List (List Value)} {sp:List AV} {es:List α} {dst:Nat}
  (e0:stepOf C full F H o=.call (.op o [.row i 0 n c,.row s 0 1 1])) (ho:o.op=.call { callee:=.builtin .append,args:=#[x,y],argTypes:=#[t,t] })
  (yH:C.ti t=some it) (ny:it.elem=some (e,sz)) (BJ:C.ti e=some ie) (hU:C.K.fz e=false) (hzo:ie.zero.cells.toList.all aN=true)
  (hd:o.dst=some dst) (hN:dst<C.N) (hl:lvl C.SU m o=2) (ft:H dst=none\/some i=some dst) (hi:H i=some (e,vs.flatten.map .val++sp)) (hr:cg E sz w n c vs sp es) (hs:H s=some (te,cs.map .val)) (hcs:E w cs a) (fQ:(n+1)*(24*sz)<=140737488355328)
  (hK:∀ w2 cap xt ρ,aY C.K w w2->C.Old w2->(∀ x,aN (ρ x)=true)->cg E sz w2 (n+1) cap (vs++[cs]) xt (es++[a])->ao C m full r K ((F.forget (some i) ρ).bm o.dst (.row dst 0 (n+1) cap)) ((H.forget (some i) ρ).put dst (e,(vs++[cs]).flatten.map AV.val++xt)) w2)
  (hkp:∀ w w',aY C.K w w'->Kp UU w w':=by first|exact λ_ _ h=>h|exact λ_ _ h=>h.qQ):ao C m full (o::r) K F H w:=by
 have hlen:=hE.len hcs
 obtain⟨k1,k2⟩:=hr.el.ok hE
 have BZ:=hr.len
 refine VO.app hC e0 ho yH ny BJ hU hzo hd hN hl (known:=vs.flatten.map .val) (spare:=sp) (del:=some i) (n:=n) (c:=c) (mm:=1) (news:=cs.map .val) (.inr ⟨i,rfl,hi,rfl⟩) ft (by rw[List.length_map,k2,BZ]) hr.fl hr.le hr.cm ⟨af _,hr.sl,af _⟩ ⟨cQ k1,hr.so,cQ (hE.ok hcs)⟩ (by rw[List.length_map,hlen];omega) fQ
  (λw1 β k1 b1 ho=>⟨_,_,rfl,.inr ⟨β s,0,rfl,eQ (rest:=[]) (ho.own s (.base (List.mem_append_right _ (List.mem_singleton.2 rfl))) _ _ hs) (by rw[List.append_nil])⟩⟩) (λw2 cap xt ρ k2 b2 eH h1 h2 h3 h4 h5=> ?_)
 have e:(vs.flatten.map AV.val++cs.map .val)=(vs++[cs]).flatten.map AV.val:=by simp
 have:=hK w2 cap xt ρ k2 b2 eH ⟨by rw[List.length_append,hr.len];rfl,(hr.el.kp hE (hkp _ _ k2)).snoc (hE.kp hcs (hkp _ _ k2)),h4,h5,by omega,h2,by rw[<-e];exact h3⟩
 rw[<-e] at this
 exact this
end
end
section
open Go.RowKit
theorem Gc {w:World} {a:Option Addr} {len cap:Nat} {zs:List Int}
  (h:(a=none/\len=0/\cap=0/\zs=[])\/∃ x,a=some x/\len<=cap/\cap<=maxLen/\zs.length=cap/\(∀ i,i<zs.length->w.cell? (x.add i)=some (.int .u32 (zs.getD i 0)))/\∀ n∈zs,(Lit.int .u32 n).wf=true):
  ∃ xs:List Nat,bH xs/\Rd w 1 (.slice a len cap) len (ints .u32 xs):=by
 rcases h with ⟨rfl,rfl,rfl,rfl⟩|⟨x,rfl,h1,h2,h3,h4,h5⟩
 ·exact⟨[],bH.nil,Rd.nil w 1⟩
 ·have hb:∀ n∈zs,0<=n/\n<4294967296:=λn hn=>by
   have:=h5 n hn
   simp[Lit.wf,IntKind.min,IntKind.max,IntKind.signed,IntKind.bits] at this
   omega
  refine⟨(zs.take len).map Int.toNat,?_,?_⟩
  ·intro y hy
   obtain⟨z,hz,rfl⟩:=List.mem_map.1 hy
   have:=hb z (List.mem_of_mem_take hz)
   omega
  ·refine⟨_,cap,rfl,h1,h2,by simp;omega,λhn=> ?_⟩
   have jz:0<zs.length:=by omega
   have h0:=h4 0 jz
   have hsp:x.spot=none:=by
    have:x.add 0=x:=by simp[Addr.add]
    rw[this] at h0
    unfold World.cell? at h0
    split at h0
    ·split at h0
     ·cases h0
     ·rename_i hs;simpa using hs
    ·cases h0
   obtain⟨b,off,sp⟩:=x
   simp only at hsp
   subst hsp
   refine⟨b,off,rfl,λj u hj=> ?_⟩
   simp only[ints,List.map_map,List.getElem?_map,List.getElem?_take] at hj
   split at hj
   ·rename_i hjl
    have hjz:j<zs.length:=by omega
    rw[List.getElem?_eq_getElem hjz] at hj
    simp at hj
    subst hj
    have h6:=h4 j hjz
    have h7:=hb _ (List.getElem_mem hjz)
    rw[show (⟨b,off,none⟩:Addr).add j=⟨b,off+j,none⟩ by unfold Addr.add;split <;> simp_all] at h6
    rw[h6]
    simp[List.getD,hjz]
    omega
   ·cases hj
theorem yr {α:Type} {l:List α} (h:l.length=2):∃ a b,l=[a,b]:=by
 match l,h with
 | [a,b],_=>exact⟨a,b,rfl⟩
theorem Ka {α:Type} {l:List α} (h:l.length=4):∃ a b c d,l=[a,b,c,d]:=by
 match l,h with
 | [a,b,c,d],_=>exact⟨a,b,c,d,rfl⟩
section
variable {H:Type} {enc:TypeId×Value->H} {w:World} {held:Bool}
theorem Db {fuel:Nat} {cs:List Value} {x:DataW H×List MemPlace} (h:DataW.trod enc Tryz.prog w 0 (λ_=>true) held fuel 30 cs=some x):∃ p n c xs,cs=[.slice p n c]/\Rd w 1 (.slice p n c) n (ints .u32 xs)/\bH xs:=by
 rcases ChangeShapes.open_ints Tryz.underlying30 Tryz.underlying191 (by kernel_rfl) h with ⟨rfl,_⟩|⟨a,len,cap,zs,rfl,_,hl,hc,hz,_,hcell,hwf⟩
 ·exact⟨none,0,0,[],rfl,Rd.nil w 1,bH.nil⟩
 ·rw[if_pos rfl] at hz
  obtain⟨xs,DX,qz⟩:=Gc (w:=w) (.inr ⟨a,rfl,hl,hc,hz,hcell,hwf⟩)
  exact⟨some a,len,cap,xs,rfl,qz,DX⟩
theorem AZ {fuel:Nat} {cs:List Value} {x:DataW H×List MemPlace} (h:DataW.trod enc Tryz.prog w 0 (λ_=>true) held fuel 32 cs=some x):∃ s p c xs,cs=[.bool s,.slice p xs.length c]/\eb w (.agg #[.bool s,.slice p xs.length c]) s xs:=by
 obtain⟨ys,n,rfl,rfl,hl,iD,hf⟩:=DataW.trod_struct Tryz.underlying32 h
 have vH:cs.length=2:=by
  have c:Tryz.prog.cellsOf 32=2:=by kernel_rfl
  rw[c] at hl;exact hl
 have hy2:ys.length=2:=iD
 obtain⟨a,b,rfl⟩:∃ a b,cs=[a,b]:=by
  exact yr vH
 obtain⟨y0,y1,rfl⟩:∃ a b,ys=[a,b]:=by
  exact yr hy2
 have c0:Tryz.prog.cellsOf 4=1:=by kernel_rfl
 have c1:Tryz.prog.cellsOf 30=1:=by kernel_rfl
 have h0:=hf 0 _ rfl
 have h1:=hf 1 _ rfl
 change DataW.trod enc Tryz.prog w 0 (λ_=>true) held n 4 (([a,b].drop 0).take (Tryz.prog.cellsOf 4))=some y0 at h0
 change DataW.trod enc Tryz.prog w 0 (λ_=>true) held n 30 (([a,b].drop 1).take (Tryz.prog.cellsOf 30))=some y1 at h1
 rw[c0] at h0
 rw[c1] at h1
 obtain⟨s,hs,_⟩:=DataW.trod_bool Tryz.underlying4 h0
 obtain⟨p,m,c,xs,hp,hr,hx⟩:=Db h1
 simp only[List.drop_zero,List.take_succ_cons,List.take_zero,List.cons.injEq,and_true] at hs
 simp only[List.drop_succ_cons,List.drop_zero,List.take_succ_cons,List.take_zero,List.cons.injEq,and_true] at hp
 subst hs hp
 obtain⟨_,_,hv,_,_,dK⟩:=hr.u32
 subst dK
 exact⟨s,p,c,xs,rfl,p,c,rfl,hr,hx⟩
theorem mW {fuel:Nat} {cs:List Value} {x:DataW H×List MemPlace} (h:DataW.trod enc Tryz.prog w 0 (λ_=>true) held fuel 34 cs=some x):∃ s p n c t r m d xs ys,cs=[.bool s,.slice p n c,.bool t,.slice r m d]/\bP w (.agg #[.bool s,.slice p n c,.bool t,.slice r m d]) s xs t ys:=by
 obtain⟨zs,n,rfl,rfl,hl,iD,hf⟩:=DataW.trod_struct Tryz.underlying34 h
 have vH:cs.length=4:=by
  have c:Tryz.prog.cellsOf 34=4:=by kernel_rfl
  rw[c] at hl;exact hl
 have hy2:zs.length=2:=iD
 obtain⟨a,b,a',b',rfl⟩:∃ a b a' b',cs=[a,b,a',b']:=by
  exact Ka vH
 obtain⟨y0,y1,rfl⟩:∃ a b,zs=[a,b]:=by
  exact yr hy2
 have c0:Tryz.prog.cellsOf 32=2:=by kernel_rfl
 have h0:=hf 0 _ rfl
 have h1:=hf 1 _ rfl
 change DataW.trod enc Tryz.prog w 0 (λ_=>true) held n 32 (([a,b,a',b'].drop 0).take (Tryz.prog.cellsOf 32))=some y0 at h0
 change DataW.trod enc Tryz.prog w 0 (λ_=>true) held n 32 (([a,b,a',b'].drop 2).take (Tryz.prog.cellsOf 32))=some y1 at h1
 rw[c0] at h0 h1
 obtain⟨s,p,c,xs,e0,n0⟩:=AZ h0
 obtain⟨t,r,d,ys,e1,n1⟩:=AZ h1
 simp only[List.drop_zero,List.take_succ_cons,List.take_zero,List.cons.injEq,and_true] at e0
 simp only[List.drop_succ_cons,List.drop_zero,List.take_succ_cons,List.take_zero,List.cons.injEq,and_true] at e1
 obtain⟨rfl,rfl⟩:=e0
 obtain⟨rfl,rfl⟩:=e1
 exact⟨_,_,_,_,_,_,_,_,xs,ys,rfl,_,_,_,_,rfl,n0,n1⟩
theorem bP.wide {v:Value} {s t:Bool} {xs ys:List Nat} (h:bP w v s xs t ys):ay w v (rq s xs t ys) 9223372036854775807:=by
 obtain⟨p,c,r,d,rfl,h1,h2⟩:=id h
 obtain⟨_,_,_,jK,_⟩:=h1
 obtain⟨_,_,_,kG,_⟩:=h2
 obtain⟨_,_,_,a1,a2,_⟩:=jK.u32
 obtain⟨_,_,_,b1,b2,_⟩:=kG.u32
 exact⟨s,xs,t,ys,h,rfl,by omega,by omega⟩
theorem Kb {α:Type} {p:Nat->α->Prop}:∀ (n:Nat),(∀ i,i<n->∃ q,p i q)->∃ qs:List α,qs.length=n/\∀ (i:Nat) (q:α),qs[i]? =some q->p i q
 | 0,_=>⟨[],rfl,λi q h=>by simp at h⟩
 | n+1,h=>by
   obtain⟨qs,hl,hq⟩:=Kb n (λi hi=>h i aa)
   obtain⟨q,hqn⟩:=h n aa
   refine⟨qs++[q],by simp[hl],λi x hx=> ?_⟩
   by_cases hi:i<n
   ·rw[List.getElem?_append_left aa] at hx
    exact hq i x hx
   ·rw[List.getElem?_append_right aa,hl] at hx
    have:i=n:=by
     have:=(List.getElem?_eq_some_iff.1 hx).1
     simp at this
     omega
    subst this
    simp at hx
    subst hx
    exact hqn
end
section
variable {H:Type} {enc:TypeId×Value->H} {w:World} {held:Bool}
set_option maxRecDepth 100000 in
theorem open_sl {α:Type} {E:World->List Value->α->Prop} {sz:Nat} {t e:TypeId} (hu:Tryz.prog.underlying t=some (.slice e)) (hc:Tryz.prog.cellsOf e=sz) (tL:0<sz)
  (ny:∀ {fuel:Nat} {cs:List Value} {x:DataW H×List MemPlace},DataW.trod enc Tryz.prog w 0 (λ_=>true) held fuel e cs=some x->∃ a,E w cs a)
  {v:Value} {d:DataW H} {ps:List MemPlace} {r:_root_.Go.Reach} {b0:Nat} (hv:Value.okWide Tryz.prog w r b0 t v) (h:DataW.Trod enc Tryz.prog w 0 (λ_=>true) held t v d ps):∃ es:List α,cf E sz w v es:=by
 obtain⟨p,len,cap,rfl⟩:=WideShapes.okWide_slice hu hv
 obtain⟨fuel,hf⟩:=h
 rcases DataW.trod_slice hu hf with ⟨e,_⟩|⟨a,len',cap',elems,rest,n,_,e,_,_,hl,hm,hle,zp,_⟩
 ·simp[Value.cells] at e
  obtain⟨rfl,rfl,rfl⟩:=e
  exact⟨[],cf.nil _ _ _⟩
 ·simp[Value.cells] at e
  obtain⟨rfl,rfl,rfl⟩:=e
  rw[hc] at zp
  have each:∀ i,i<len->∃ q,∃ b off cs,some a=some ⟨b,off,none⟩/\(∀ (j:Nat) (u:Value),cs[j]? =some u->w.cell? ⟨b,off+i*sz+j,none⟩=some u)/\E w cs q:=by
   intro i hi
   obtain⟨y,hy⟩:∃ y,elems[i]? =some y:=⟨_,List.getElem?_eq_getElem aa⟩
   have hb:=zp i hi
   rw[hy,Option.bind_eq_some_iff] at hb
   obtain⟨cs,hcs,ht⟩:=hb
   obtain⟨q,hq⟩:=ny ht
   obtain⟨_,hlen,hcell⟩:=World.cells?_some hcs
   obtain⟨b,off,spot⟩:=a
   have hspot:spot=none:=by
    obtain⟨y0,HW⟩:∃ y,elems[0]? =some y:=⟨_,List.getElem?_eq_getElem aa⟩
    have jR:=zp 0 aa
    rw[HW,Option.bind_eq_some_iff] at jR
    obtain⟨cs0,hcs0,ht0⟩:=jR
    obtain⟨_,hlen0,hcell0⟩:=World.cells?_some hcs0
    have h00:=hcell0 0 tL
    rw[List.getElem?_eq_getElem aa] at h00
    have g0:=World.cell?_spot h00
    simpa [Addr.add] using g0
   subst hspot
   refine⟨q,b,off,cs,rfl,λj u hj=> ?_,hq⟩
   have hjl:j<sz:=by have:=(List.getElem?_eq_some_iff.1 hj).1;omega
   have:=hcell j hjl
   rw[WideShapes.add_plain,WideShapes.add_plain] at this
   rw[this]
   exact hj
  obtain⟨qs,hql,hqs⟩:=Kb len each
  subst hql
  exact⟨qs,_,_,rfl,hl,hm,λi q hq=>hqs i q hq⟩
end
def lf (q:Rat):Int:=q.num.fmod q.den
theorem den_pos (q:Rat):(0:Int)<q.den:=by have:=q.den_nz;omega
theorem fl_eq (q:Rat):q.num.fdiv q.den=q.floor:=by
 rw[Rat.floor_def,Int.fdiv_eq_ediv_of_nonneg _ (Int.le_of_lt (den_pos q))]
theorem xu (q:Rat):0<=lf q:=by
 unfold lf
 rw[Int.fmod_eq_emod_of_nonneg _ (Int.le_of_lt (den_pos q))]
 exact Int.emod_nonneg _ (by have:=den_pos q;omega)
theorem lf_lt (q:Rat):lf q<q.den:=by
 unfold lf
 rw[Int.fmod_eq_emod_of_nonneg _ (Int.le_of_lt (den_pos q))]
 exact Int.emod_lt_of_pos _ (den_pos q)
end
set_option maxRecDepth 4000
section
open Go.RowKit
attribute [local irreducible] ao VS
theorem Sz.left {q:Rat} {k:Nat} (h:bS q k):Sz (lf q) k:=Sz.le h.2 (by have:=xu q;have:=lf_lt q;omega)
theorem Dc:(0:Rat).floor=0/\lf 0=0/\((0:Rat).den:Int)=1:=by decide+kernel
theorem Ba (v:Value) (q:Rat) (k:Nat) (w:World) (hv:ay w v q k) (hk:k<=67108864):
  Calls Tryz.prog 173 #[v] w λe w'=>∃ s1 p1 n1 c1 s2 p2 n2 c2 s3 p3 n3 c3,e=.returned (.tuple #[.agg #[.bool s1,.slice p1 n1 c1],.agg #[.bool s2,.slice p2 n2 c2],.agg #[.bool s3,.slice p3 n3 c3]])/\
   aj w' w.heap.size (.agg #[.bool s1,.slice p1 n1 c1]) q.floor/\bf w' (.agg #[.bool s2,.slice p2 n2 c2]) (lf q)/\bf w' (.agg #[.bool s3,.slice p3 n3 c3]) (q.den:Int)/\ax w w':=by
 have hs:=hv.oZ
 obtain⟨s,xs,t,ys,eW,rfl,hx,hy⟩:=hv
 have sm:=eW
 obtain⟨p,c,r,d,rfl,_,_⟩:=eW
 have hu:bF k<=67108864:=by unfold bF;omega
 refine ae (C:=aR Tryz.prog w _) (args:=[_]) Tryz.func173 rfl Tryz.ntmps173 (bt rfl) ?_
 refine ab ?_
 refine VO.call rfl rfl (fk Tryz.func97) (λaK bn aU=>(iA s t xs ys _ aK (sm.kp bn) aa aa).mono ?_)
 rintro e w1 ⟨rfl,aC⟩
 cases hq:nW s xs t ys
 ·refine aB aC ?_
  intro bL _ bb1
  refine VO.cI rfl rfl (fk Tryz.func40) (λaZ bI bu=>kZ 1 aZ aa aa) (λaZ bI bu w2 s2 p2 n2 c2 q2 aQ cH _ bb2=>wV rfl ?_)
  refine ab ?_
  refine az ?_;intro wz kz bz
  obtain⟨z1,z2,z3⟩:=Dc
  rw[qg hq,z1,z2,z3]
  exact⟨_,_,_,_,_,_,_,_,_,_,_,_,rfl,aj.zero _ _,bf.zero _,q2.kr,bz⟩
 ·refine aB aC ?_
  intro bL _ bb1
  have hr:=qh sm hq
  refine VO.call rfl rfl (fk Tryz.func147) (λaZ bI bu=>(ic _ _ (rq s xs t ys).num ((rq s xs t ys).den:Int) _ _ aZ (hr.parts.1.ki hs.1) (hr.parts.2.ki hs.2) aa aa).mono ?_)
  rintro e w2 ⟨hd2,aQ⟩
  obtain⟨v2,u2,rfl,h2,h2'⟩:=du hd2 (by have:=den_pos (rq s xs t ys);omega)
  obtain⟨s2,p2,n2,c2,rfl⟩:=h2.form
  obtain⟨t2,r2,m2,d2,rfl⟩:=h2'.form
  refine⟨_,rfl,aQ,λcH _ bb2=>wV rfl ?_⟩
  (repeat (first|refine wN ?_|refine wP rfl ?_|refine FH rfl ?_|refine wO rfl rfl ?_))
  refine VS.uA (bQ _ _) (mO _ _) 7 rfl ?_
  (repeat' (first|refine VA.go rfl ?_|refine VA.fin rfl ?_|refine VA.dp _ rfl rfl ?_|refine VA.cons rfl ?_ ?_|exact VA.nil rfl))
  all_goals
   refine ab ?_
   refine az ?_;intro wz kz bz
   exact⟨_,_,_,_,_,_,_,_,_,_,_,_,rfl,((h2.k).cast (fl_eq _)).mono bu.size,h2'.kr,hr.parts.2.k,bz⟩
theorem Kc (f:FuncId) (b:Bool) (v:Value) (q:Rat) (k:Nat) (w:World) (hf:iU Tryz.prog f) (hv:ay w v q k) (hk:k<=67108864)
  (hF:∀ (s1:Bool) (p1:Option Addr) (n1 c1:Nat) (s2:Bool) (p2:Option Addr) (n2 c2:Nat) (s3:Bool) (p3:Option Addr) (n3 c3:Nat) (w:World),bf w (.agg #[.bool s1,.slice p1 n1 c1]) q.floor->bf w (.agg #[.bool s2,.slice p2 n2 c2]) (lf q)->bf w (.agg #[.bool s3,.slice p3 n3 c3]) (q.den:Int)->
   Calls Tryz.prog f #[.agg #[.bool s1,.slice p1 n1 c1],.agg #[.bool s2,.slice p2 n2 c2],.agg #[.bool s3,.slice p3 n3 c3]] w λe w'=>e=.returned (.bool b)/\ax w w'):
  Calls Tryz.prog 141 #[v,.func (.func f) #[] #[]] w λe w'=>∃ r,e=.returned r/\aj w' w.heap.size r (if lf q≠0/\b=true then q.floor+1 else q.floor)/\ax w w':=by
 obtain⟨s,p,n,c,t,y,m,d,rfl⟩:=hv.form
 have hs:=hv.oZ
 have hu:bF k<=67108864:=by unfold bF;omega
 refine ae (C:=aR Tryz.prog w _) (args:=[_,_]) Tryz.func141 rfl Tryz.ntmps141 (bt rfl) ?_
 refine ab ?_
 refine VO.call rfl rfl (fk Tryz.func173) (λaK bn aU=>(Ba _ q k aK hv.k hk).mono ?_)
 rintro e w1 ⟨s1,p1,n1,c1,s2,p2,n2,c2,s3,p3,n3,c3,rfl,q1,q2,q3,aC⟩
 skip
 refine aB aC ?_
 intro bL _ bb1
 refine VO.call rfl rfl (fk Tryz.func112) (λaZ bI bu=>(iH _ (lf q) (bF k) aZ (q2.ki (Sz.left hs))).mono ?_)
 rintro e w2 ⟨rfl,aQ⟩
 by_cases h0:lf q=0
 ·rw[show (lf q).sign=0 by rw[h0];rfl,if_neg (λe=>e.1 h0)]
  refine aB aQ ?_
  intro cH _ bb2
  refine az ?_;intro wz kz bz
  exact⟨_,rfl,(q1.k).mono aU.size,bz⟩
 ·rw[cW (show 0<lf q by have:=xu q;omega)]
  refine aB aQ ?_
  intro cH _ bb2
  refine VO.call rfl rfl hf (λck cJ da=>(hF _ _ _ _ _ _ _ _ _ _ _ _ ck q1.kr q2.k q3.k).mono ?_)
  rintro e w3 ⟨rfl,bM⟩
  cases b with
  | false=>
    rw[if_neg (λe=>by cases e.2)]
    refine aB bM ?_
    intro dP _ bb3
    refine az ?_;intro wz kz bz
    exact⟨_,rfl,(q1.k).mono aU.size,bz⟩
  | true=>
    rw[if_pos ⟨h0,rfl⟩]
    refine aB bM ?_
    intro dP _ bb3
    refine VO.cI rfl rfl (fk Tryz.func40) (λdW eT fD=>kZ 1 dW aa aa) (λdW eT fD w4 s4 p4 n4 c4 q4 fb iK _ oY=>wV rfl ?_)
    refine ab ?_
    refine VO.cI rfl rfl (fk Tryz.func95) (λfv gh gv=>uG _ _ q.floor 1 (bF k) 1 fv (q1.ki (Sz.floor hs)) (q4.ki (Sz.small ff)) aa aa) (λfv gh gv w5 s5 p5 n5 c5 q5 gW ky _ tt=>wV rfl ?_)
    refine ab ?_
    refine az ?_;intro wz kz bz
    exact⟨_,rfl,(q5.k).mono gv.size,bz⟩
theorem yt (s1:Bool) (p1:Option Addr) (n1 c1:Nat) (s2:Bool) (p2:Option Addr) (n2 c2:Nat) (s3:Bool) (p3:Option Addr) (n3 c3:Nat) (w:World):
  Calls Tryz.prog 142 #[.agg #[.bool s1,.slice p1 n1 c1],.agg #[.bool s2,.slice p2 n2 c2],.agg #[.bool s3,.slice p3 n3 c3]] w λe w'=>e=.returned (.bool false)/\ax w w':=by
 refine ae (C:=aR Tryz.prog w _) (args:=[_,_,_]) Tryz.func142 rfl Tryz.ntmps142 (bt rfl) ?_
 refine ab ?_
 refine az ?_;intro wz kz bz
 exact⟨rfl,bz⟩
theorem Bb (v:Value) (q:Rat) (k:Nat) (w:World) (hv:ay w v q k) (hk:k<=67108864):
  Calls Tryz.prog 85 #[v] w λe w'=>∃ r,e=.returned r/\aj w' w.heap.size r q.floor/\ax w w':=by
 obtain⟨s,p,n,c,t,y,m,d,rfl⟩:=hv.form
 refine ae (C:=aR Tryz.prog w _) (args:=[_]) Tryz.func85 rfl Tryz.ntmps85 (bt rfl) ?_
 refine ab ?_
 refine VO.cI rfl rfl (fk Tryz.func141) (λaK bn aU=>Kc 142 false _ q k aK (fk Tryz.func142) hv.k hk (λs1 p1 n1 c1 s2 p2 n2 c2 s3 p3 n3 c3 w _ _ _=>yt s1 p1 n1 c1 s2 p2 n2 c2 s3 p3 n3 c3 w)) (λaK bn aU w1 s1 p1 n1 c1 q1 aC bL _ bb1=>wV rfl ?_)
 refine ab ?_
 refine az ?_;intro wz kz bz
 exact⟨_,rfl,((q1.k).cast (if_neg (λe=>by cases e.2))).mono aU.size,bz⟩
end
section
open Go.RowKit
theorem Ev (x:Int) (h0:0<=x) (h1:x<18446744073709551616):bits .or .u64 0 x=x:=by
 rw[u64_orv0 0 x aa aa h0 aa h1];omega
section
variable {P:Program}
end
section
variable {C:Cx} {F:Fr} {H:Hp} {w:World} {m:Option (List FuncId)} {full:Array Oper} {K:Fr->Hp->World->Prop} {o:Oper} {r:List Oper}
end
set_option maxRecDepth 4000
theorem Kd {X:Int} (h:X.natAbs<4294967296):limbs X.natAbs=if X=0 then [] else [X.natAbs]:=by
 split
 ·rename_i e;rw[e];exact bd
 ·rename_i e
  have:=kC (xs:=[X.natAbs]) (bH.cons h bH.nil) (λx hx=>by simp at hx;omega)
  rw[dJ,cV] at this
  simpa using this
theorem u64_neg (a:Nat) (h:a<4294967296):IntKind.i64.wrap (IntKind.u64.wrap (0-(a:Int)))= -(a:Int):=by
 rw[IntKind.wrap_i64,IntKind.wrap_u64];omega
theorem Ke {xs:List Nat} (hl:bH xs) {z x:Nat} (hx:xs[z]? =some x) (hz:z<2):
  bits .or .u64 ((ag (xs.take z):Nat):Int) (IntKind.u64.wrap (IntKind.u64.wrap (x:Int)*2^min (IntKind.i64.wrap (32*(z:Int))).toNat 64))=((ag (xs.take (z+1)):Nat):Int):=by
 have hxb:=hl.at hx
 have e1:IntKind.u64.wrap (x:Int)=x:=IntWalk.u64_in _ aa
 rw[aF hx,cO,List.length_take,e1]
 have hzl:z<xs.length:=(List.getElem?_eq_some_iff.1 hx).1
 rw[Nat.min_eq_left (show z<=xs.length by omega)]
 match z,hz with
 | 0,_=>
   rw[show IntKind.i64.wrap (32*((0:Nat):Int))=0 by decide]
   simp only[Int.toNat_zero,Nat.zero_min,Int.pow_zero,Int.mul_one,List.take_zero]
   rw[e1,cV,Int.natCast_zero,Ev _ aa aa]
   simp
 | 1,_=>
   have hlow:ag (xs.take 1)<4294967296:=by
    have:=fi (hl.take 1)
    rw[List.length_take,Nat.min_eq_left aa] at this
    simpa using this
   rw[show (IntKind.i64.wrap (32*((1:Nat):Int))).toNat=32 by decide,Nat.pow_one]
   show bits BinOp.or IntKind.u64 ((ag (List.take 1 xs):Nat):Int) (IntKind.u64.wrap ((x:Int)*2^32))=_
   have e2:(x:Int)*2^32=((x*4294967296:Nat):Int):=by simp
   rw[e2,IntWalk.u64_in _ aa]
   rw[u64_or_nat _ _ aa aa,Nat.or_comm,nat_join 32 _ _ aa aa]
   congr 1;omega
attribute [local irreducible] ao VS
set_option maxRecDepth 10000 in
theorem Dd (v:Value) (X:Int) (k:Nat) (w:World) (hv:bk w v X k) (hX:X.natAbs<4294967296):
  Calls Tryz.prog 84 #[v] w λe w'=>e=.returned (.tuple #[.int .i64 X,.bool true])/\ax w w':=by
 obtain⟨s,p,n,c,rfl⟩:=hv.form
 refine ae (C:=aR Tryz.prog w _) (args:=[_]) Tryz.func84 rfl Tryz.ntmps84 (bt rfl) ?_
 refine ab ?_
 refine VO.call rfl rfl (fk Tryz.func140) (λaK bn aU=>(dS _ X k w aK hv aU).mono ?_)
 rintro e w1 ⟨r1,rfl,q1,aC⟩
 obtain⟨s1,p1,n1,c1,rfl⟩:=q1.eD
 refine aB aC ?_
 intro bL _ bb1
 obtain⟨Iw,jK,-⟩:=q1.parts
 have vI:=q1.Fj
 have hl:=Kd hX
 obtain⟨a,ha⟩:∃ a,a=X.natAbs:=⟨_,rfl⟩
 rw[<-ha] at hl hX
 have hn:n1<=1/\(n1=0->a=0):=by
  rw[Iw,<-ha,hl]
  split
  ·rename_i e;rw[e] at ha;exact⟨by simp,λ_=>ha⟩
  ·exact⟨by simp,λe=>by simp at e⟩
 refine VS.bB rfl (decide_eq_false (show ¬ (n1:Int)>2 by omega)) ?_
 refine ab ?_
 refine VS.loop (J:=λm L M w'=>∃ z:Nat,z<=n1/\m=n1-z/\L=[(4,.box 4 0),(5,.val (.int .u64 ((if z=0 then 0 else a:Nat):Int))),(17,.val (.slice p1 n1 c1)),(18,.val (.int .i64 (n1:Int))),(19,.val (.int .i64 (z:Int)))]/\
  M=[(4,(222,([.bool s1,.slice p1 n1 c1]:List Value).map .val))]) n1 ⟨_,_,?_,?_,?_,?_,⟨0,by omega,rfl,rfl,rfl⟩⟩ ?_
 ·exact dX
 ·exact dX
 ·rfl
 ·exact ll
 rintro m L M wJ ⟨z,hz,rfl,rfl,rfl⟩
 refine ab ?_
 by_cases hlt:z<n1
 ·obtain⟨b2,o2,x,rfl,aQ,ea,lO⟩:=jK.cellAt hlt
  obtain rfl:z=0:=by omega
  obtain rfl:x=a:=by
   rw[<-ha,hl] at ea
   split at ea
   ·simp at ea
   ·simpa using ea.symm
  refine VS.bo rfl (decide_eq_true (Int.ofNat_lt.2 hlt)) ?_
  refine ab ?_
  refine VO.cond rfl fw (wV rfl ?_)
  refine VO.read rfl [.int .u32 (x:Int)] rfl (fZ rfl lO) (wV rfl ?_)
  refine ab ?_
  refine VS.back (n1-(0+1)) aa ⟨_,_,?_,?_,?_,?_,⟨0+1,by omega,rfl,rfl,rfl⟩⟩
  ·refine⟨rfl,congrArg (λz=>some (AV.val (.int .u64 z))) ?_,rfl,rfl,?_,trivial⟩
   ·have e1:IntKind.u64.wrap (x:Int)=x:=IntWalk.u64_in _ aa
    show bits .or .u64 0 (IntKind.u64.wrap (IntKind.u64.wrap (x:Int)*2^min (IntKind.i64.wrap (32*0)).toNat 64))=(x:Int)
    rw[show IntKind.i64.wrap (32*0)=0 by decide,e1]
    simp only[Int.toNat_zero,Nat.zero_min,Int.pow_zero,Int.mul_one]
    rw[e1,Ev _ aa aa]
   ·rfl
  ·exact dX
  ·rfl
  ·exact ll
 ·obtain rfl:z=n1:=by omega
  refine VS.bB rfl (decide_eq_false (λe=>hlt (Int.ofNat_lt.1 e))) ?_
  rw[show (if z=0 then 0 else a)=a by split;exact (hn.2 ‹_›).symm;rfl]
  obtain⟨A,hA⟩:∃ A:Int,A=(a:Int):=⟨_,rfl⟩
  rw[<-hA]
  cases s1 with
  | true=>
    have hx:X<0:=of_decide_eq_true vI.symm
    refine ab ?_
    refine VS.bo rfl (decide_eq_true (show A<=9223372036854775808 by omega)) ?_
    refine ab ?_
    refine az ?_;intro wz kz bz
    refine⟨congrArg (λz=>Ending.returned (.tuple #[.int .i64 z,.bool true])) ?_,bz⟩
    rw[hA]
    exact (u64_neg a hX).trans aa
  | false=>
    have hx:¬ X<0:=of_decide_eq_false vI.symm
    refine ab ?_
    refine VS.bo rfl (decide_eq_true (show A<9223372036854775808 by omega)) ?_
    refine ab ?_
    refine az ?_;intro wz kz bz
    refine⟨congrArg (λz=>Ending.returned (.tuple #[.int .i64 z,.bool true])) ?_,bz⟩
    exact (IntWalk.i64_in _ aa).trans aa
set_option maxRecDepth 10000 in
theorem De (v:Value) (X:Int) (k:Nat) (w:World) (hv:bk w v X k):
  Calls Tryz.prog 84 #[v] w λe w'=>∃ n b,e=.returned (.tuple #[.int .i64 n,.bool b])/\(b=true->n=X)/\ax w w':=by
 obtain⟨s,p,n,c,rfl⟩:=hv.form
 refine ae (C:=aR Tryz.prog w _) (args:=[_]) Tryz.func84 rfl Tryz.ntmps84 (bt rfl) ?_
 refine ab ?_
 refine VO.call rfl rfl (fk Tryz.func140) (λaK bn aU=>(dS _ X k w aK hv aU).mono ?_)
 rintro e w1 ⟨r1,rfl,q1,aC⟩
 obtain⟨s1,p1,n1,c1,rfl⟩:=q1.eD
 refine aB aC ?_
 intro bL _ bb1
 obtain⟨Iw,jK,-⟩:=q1.parts
 have vI:=q1.Fj
 by_cases ET:(n1:Int)>2
 ·refine VS.bo rfl (decide_eq_true ET) ?_
  refine ab ?_
  refine az ?_;intro wz kz bz
  exact⟨_,_,rfl,λh=>(by cases h),bz⟩
 refine VS.bB rfl (decide_eq_false ET) ?_
 refine ab ?_
 have nZ:=ai X.natAbs
 refine VS.loop (J:=λm L M w'=>∃ z:Nat,z<=n1/\m=n1-z/\L=[(4,.box 4 0),(5,.val (.int .u64 ((ag ((limbs X.natAbs).take z):Nat):Int))),(17,.val (.slice p1 n1 c1)),(18,.val (.int .i64 (n1:Int))),(19,.val (.int .i64 (z:Int)))]/\
  M=[(4,(222,([.bool s1,.slice p1 n1 c1]:List Value).map .val))]) n1 ⟨_,_,?_,?_,?_,?_,⟨0,by omega,rfl,rfl,rfl⟩⟩ ?_
 ·exact dX
 ·exact dX
 ·rfl
 ·exact ll
 rintro m L M wJ ⟨z,hz,rfl,rfl,rfl⟩
 refine ab ?_
 by_cases hlt:z<n1
 ·obtain⟨b2,o2,x,rfl,aQ,ea,lO⟩:=jK.cellAt hlt
  rcases (show z=0\/z=1 by omega) with rfl|rfl
  ·refine VS.bo rfl (decide_eq_true (Int.ofNat_lt.2 hlt)) ?_
   refine ab ?_
   refine VO.cond rfl fw (wV rfl ?_)
   refine VO.read rfl [.int .u32 (x:Int)] rfl (fZ rfl lO) (wV rfl ?_)
   refine ab ?_
   refine VS.back (n1-(0+1)) aa ⟨_,_,?_,?_,?_,?_,⟨0+1,by omega,rfl,rfl,rfl⟩⟩
   ·refine⟨rfl,congrArg (λz=>some (AV.val (.int .u64 z))) (Ke nZ ea aa),rfl,rfl,?_,trivial⟩
    rfl
   ·exact dX
   ·rfl
   ·exact ll
  ·refine VS.bo rfl (decide_eq_true (Int.ofNat_lt.2 hlt)) ?_
   refine ab ?_
   refine VO.cond rfl fw (wV rfl ?_)
   refine VO.read rfl [.int .u32 (x:Int)] rfl (fZ rfl lO) (wV rfl ?_)
   refine ab ?_
   refine VS.back (n1-(1+1)) aa ⟨_,_,?_,?_,?_,?_,⟨1+1,by omega,rfl,rfl,rfl⟩⟩
   ·refine⟨rfl,congrArg (λz=>some (AV.val (.int .u64 z))) (Ke nZ ea aa),rfl,rfl,?_,trivial⟩
    rfl
   ·exact dX
   ·rfl
   ·exact ll
 ·obtain rfl:z=n1:=by omega
  refine VS.bB rfl (decide_eq_false (λe=>hlt (Int.ofNat_lt.1 e))) ?_
  have nY:ag ((limbs X.natAbs).take z)=X.natAbs:=by rw[aV aa,ah]
  have hmax:X.natAbs<18446744073709551616:=by
   have:=fi nZ
   rw[ah] at this
   refine Nat.lt_of_lt_of_le this (Nat.le_trans (Nat.pow_le_pow_right aa (show (limbs X.natAbs).length<=2 by omega)) ff)
  obtain⟨A,hA⟩:∃ A:Int,A=((ag ((limbs X.natAbs).take z):Nat):Int):=⟨_,rfl⟩
  rw[<-hA]
  rw[nY] at hA
  cases s1 with
  | true=>
    have hx:X<0:=of_decide_eq_true vI.symm
    refine ab ?_
    by_cases hc:A<=9223372036854775808
    ·refine VS.bo rfl (decide_eq_true hc) ?_
     refine ab ?_
     refine az ?_;intro wz kz bz
     refine⟨_,_,rfl,λ_=> ?_,bz⟩
     rw[IntKind.wrap_i64,IntKind.wrap_u64];omega
    ·refine VS.bB rfl (decide_eq_false hc) ?_
     refine ab ?_
     refine az ?_;intro wz kz bz
     exact⟨_,_,rfl,λh=>(by cases h),bz⟩
  | false=>
    have hx:¬ X<0:=of_decide_eq_false vI.symm
    refine ab ?_
    by_cases hc:A<9223372036854775808
    ·refine VS.bo rfl (decide_eq_true hc) ?_
     refine ab ?_
     refine az ?_;intro wz kz bz
     exact⟨_,_,rfl,λ_=>(IntWalk.i64_in _ aa).trans aa,bz⟩
    ·refine VS.bB rfl (decide_eq_false hc) ?_
     refine ab ?_
     refine az ?_;intro wz kz bz
     exact⟨_,_,rfl,λh=>(by cases h),bz⟩
end
set_option maxRecDepth 4000
section
open Go.RowKit
attribute [local irreducible] ao VS
def Bc (kk:Nat) (w:World) (cs:List Value) (a:Bool×Rat):Prop:=∃ s p c t r d xs ys,cs=[Value.bool s,.slice p (List.length xs) c,.bool t,.slice r (List.length ys) d]/\
 bP w (.agg #[.bool s,.slice p xs.length c,.bool t,.slice r ys.length d]) s xs t ys/\a=(nW s xs t ys,rq s xs t ys)/\xs.length<=kk/\ys.length<=kk
theorem qk (kk:Nat):fJ (Bc kk) 4 where
 kp:=λ⟨s,p,c,t,r,d,xs,ys,e,h,r'⟩ k=>⟨s,p,c,t,r,d,xs,ys,e,h.kp k,r'⟩
 len:=λ⟨_,_,_,_,_,_,_,_,e,_⟩=>by rw[e];rfl
 ok:=λ⟨_,_,_,_,_,_,_,_,e,_⟩=>by rw[e];rfl
def jd (a:Bool×Rat):Bool:=a.1 && decide (a.2.den=1)
theorem sign_ne {z:Int}:(z.sign != 0)= !decide (z=0):=by
 by_cases h:z=0
 ·rw[h,decide_eq_true rfl];rfl
 ·rw[decide_eq_false h]
  have:z.sign≠0:=λe=>h (Int.sign_eq_zero_iff_zero.1 e)
  simpa using this
theorem Gd (kk:Nat) (hkk:kk<=1000000) (cs:List Value) (a:Bool×Rat) (w:World) (h:Bc kk w cs a):
  Calls Tryz.prog 139 #[.agg cs.toArray] w λe w'=>e=.returned (.bool (!jd a))/\ax w w':=by
 obtain⟨s,p,c,t,r,d,xs,ys,rfl,eW,rfl,hx,hy⟩:=h
 refine ae (C:=aR Tryz.prog w _) (args:=[_]) Tryz.func139 rfl Tryz.ntmps139 (bt rfl) ?_
 refine ab ?_
 refine VO.call rfl rfl (fk Tryz.func97) (λaK bn aU=>(iA s t xs ys _ aK (eW.kp bn) aa aa).mono ?_)
 rintro e w1 ⟨rfl,aC⟩
 cases hq:nW s xs t ys
 ·refine aB aC ?_
  intro bL _ bb1
  refine az ?_;intro wz kz bz
  exact⟨rfl,bz⟩
 ·refine aB aC ?_
  intro bL _ bb1
  have hr:=qh eW hq
  have hs:bS (rq s xs t ys) (bF kk):=(eW.in hx hy).oZ
  have hu:bF kk<=1000000:=by unfold bF;omega
  refine VO.cI rfl rfl (fk Tryz.func40) (λaZ bI bu=>kZ 1 aZ aa aa) (λaZ bI bu w2 s2 p2 n2 c2 q2 aQ cH _ bb2=>wV rfl ?_)
  refine ab ?_
  refine VO.cB rfl rfl (fk Tryz.func51) (λck cJ da=>kc _ _ ((rq s xs t ys).den:Int) 1 (bF kk) 1 ck (hr.parts.2.ki hs.2) (q2.ki (Sz.small ff)) aa aa) (λck cJ da w3 bM dP _ bb3=>wV rfl ?_)
  refine ab ?_
  refine az ?_;intro wz kz bz
  refine⟨congrArg (λb=>Ending.returned (.bool b)) ?_,bz⟩
  show ((((rq s xs t ys).den:Int)-1).sign != 0)=(!(true && decide ((rq s xs t ys).den=1)))
  rw[sign_ne,Bool.true_and]
  congr 1
  rw[decide_eq_decide];omega
theorem Df (g:FuncId) (P:Bool×Rat->Bool) (kk:Nat) (kg:iU Tryz.prog g) (hg:∀ (cs:List Value) (a:Bool×Rat) (w:World),Bc kk w cs a->Calls Tryz.prog g #[.agg cs.toArray] w λe w'=>e=.returned (.bool (P a))/\ax w w') (v:Value) (es:List (Bool×Rat)) (w:World) (hv:cf (Bc kk) 4 w v es):
  Calls Tryz.prog 172 #[v,.func (.func g) #[] #[]] w λe w'=>∃ r,e=.returned (.int .i64 r)/\decide (r>=0)=es.any P/\ax w w':=by
 obtain⟨p,c,rfl,dk,dY⟩:=hv.form
 obtain⟨N,hN⟩:∃ N,N=es.length:=⟨_,rfl⟩
 rw[<-hN] at hv dk ⊢
 refine ae (C:=aR Tryz.prog w _) (args:=[_,_]) Tryz.func172 rfl Tryz.ntmps172 (bt rfl) ?_
 refine ab ?_
 refine VS.loop (J:=λmm L M w'=>∃ z:Nat,z<=N/\mm=N-z/\L=[(0,.val (.slice p N c)),(1,.val (.func (.func g) #[] #[])),(7,.val (.int .i64 (N:Int))),(8,.val (.int .i64 (z:Int)))]/\M=[]/\(es.take z).any P=false) N ⟨_,_,?_,?_,?_,?_,⟨0,by omega,rfl,rfl,rfl,rfl⟩⟩ ?_
 ·exact dX
 ·exact dX
 ·rfl
 ·exact ll
 rintro mm L M wJ ⟨z,hz,rfl,rfl,rfl,hno⟩
 refine ab ?_
 by_cases hlt:z<N
 ·obtain⟨a,hx⟩:∃ x,es[z]? =some x:=⟨_,List.getElem?_eq_getElem aa⟩
  obtain⟨b,off,cs,rfl,hc,he⟩:=hv.at hx
  have yz:=he
  obtain⟨s,p1,c1,t,r,d,xs,ys,rfl,-⟩:=yz
  refine VS.bo rfl (decide_eq_true (Int.ofNat_lt.2 hlt)) ?_
  refine ab ?_
  refine VO.cond rfl fw ?_
  refine wV rfl ?_
  refine ab ?_
  refine VO.read rfl [.bool s,.slice p1 xs.length c1,.bool t,.slice r ys.length d] rfl (λj u hj=>by rw[Addr.add_mid,Int.toNat_natCast];exact hc j u hj) (wV rfl ?_)
  refine VO.call rfl rfl kg (λaK bn aU=>(hg _ a aK ((qk kk).kp he (Kp.of (U:=UU) aU))).mono ?_)
  rintro e w1 ⟨rfl,aC⟩
  cases hP:P a with
  | true=>
    refine aB aC ?_
    intro bL _ bb1
    refine az ?_;intro wz kz bz
    refine⟨_,rfl,?_,bz⟩
    rw[List.any_eq_true.2 ⟨a,List.mem_of_getElem? hx,hP⟩,decide_eq_true aa]
  | false=>
    refine aB aC ?_
    intro bL _ bb1
    refine VS.back (N-(z+1)) aa ⟨_,_,?_,?_,?_,?_,⟨z+1,by omega,rfl,rfl,rfl,?_⟩⟩
    ·refine⟨rfl,rfl,rfl,?_,trivial⟩
     rw[<-bD aa];rfl
    ·exact dX
    ·rfl
    ·exact ll
    ·rw[aF hx,List.any_append,hno];simp[hP]
 ·refine VS.bB rfl (decide_eq_false (λe=>hlt (Int.ofNat_lt.1 e))) ?_
  obtain rfl:z=N:=by omega
  refine ab ?_
  refine az ?_;intro wz kz bz
  rw[List.take_of_length_le aa] at hno
  exact⟨_,rfl,by rw[hno];rfl,bz⟩
theorem ve (g:FuncId) (P:Bool×Rat->Bool) (kk:Nat) (kg:iU Tryz.prog g) (hg:∀ (cs:List Value) (a:Bool×Rat) (w:World),Bc kk w cs a->Calls Tryz.prog g #[.agg cs.toArray] w λe w'=>e=.returned (.bool (P a))/\ax w w') (v:Value) (es:List (Bool×Rat)) (w:World) (hv:cf (Bc kk) 4 w v es):
  Calls Tryz.prog 138 #[v,.func (.func g) #[] #[]] w λe w'=>e=.returned (.bool (es.any P))/\ax w w':=by
 obtain⟨p,c,rfl,dk,dY⟩:=hv.form
 refine ae (C:=aR Tryz.prog w _) (args:=[_,_]) Tryz.func138 rfl Tryz.ntmps138 (bt rfl) ?_
 refine ab ?_
 refine VO.call rfl rfl (fk Tryz.func172) (λaK bn aU=>(Df g P kk kg hg _ es aK (hv.bq (qk kk) aU)).mono ?_)
 rintro e w1 ⟨r1,rfl,h1,aC⟩
 refine aB aC ?_
 intro bL _ bb1
 refine az ?_;intro wz kz bz
 exact⟨congrArg (λb=>Ending.returned (.bool b)) h1,bz⟩
theorem Bd {α:Type} (l:List α) (f:α->Bool):(!l.any λa=> !f a)=l.all f:=by
 induction l with
 | nil=>rfl
 | cons x r ih=>rw[List.any_cons,List.all_cons,<-ih];cases f x <;> simp
theorem wu (v:Value) (es:List (Bool×Rat)) (kk:Nat) (w:World) (hv:cf (Bc kk) 4 w v es) (hkk:kk<=1000000):
  Calls Tryz.prog 83 #[v] w λe w'=>e=.returned (.bool (es.all jd))/\ax w w':=by
 obtain⟨p,c,rfl,dk,dY⟩:=hv.form
 refine ae (C:=aR Tryz.prog w _) (args:=[_]) Tryz.func83 rfl Tryz.ntmps83 (bt rfl) ?_
 refine ab ?_
 refine VO.cB rfl rfl (fk Tryz.func138) (λaK bn aU=>ve 139 (λa=> !jd a) kk (fk Tryz.func139) (Gd kk hkk) _ es aK (hv.bq (qk kk) aU)) (λaK bn aU w1 aC bL _ bb1=>wV rfl ?_)
 refine ab ?_
 refine az ?_;intro wz kz bz
 exact⟨congrArg (λb=>Ending.returned (.bool b)) (Bd es jd),bz⟩
end
section
open Go.RowKit
structure Pt where
 b:Rat
 s:Rat
 d:Rat
 i:Rat
theorem Pt.ext' {x y:Pt} (h1:x.b=y.b) (h2:x.s=y.s) (h3:x.d=y.d) (h4:x.i=y.i):x=y:=by
 cases x;cases y;simp_all
def Pt.zero:Pt:=⟨0,0,0,0⟩
def Pt.add (x y:Pt):Pt:=⟨x.b+y.b,x.s+y.s,x.d+y.d,x.i+y.i⟩
def Be (k:Nat) (t:Rat):Rat:=if k=1\/k=3\/k=8\/k=10 then t else if k=2\/k=4\/k=5\/k=6\/k=7\/k=9\/k=11 then-t else 0
def Bf (k:Nat) (t a:Rat):Rat:=if k=1 then t else if k=10 then t else if k=2 then-t else if k=7 then-t else if k=4 then t*a-t else if k=5 then (if jh t a>0 then-a else-t) else 0
def Kf (k:Nat) (t:Rat):Rat:=if k=7 then t else 0
def Kg (k:Nat) (t:Rat):Rat:=if k=8 then-t else if k=9 then t else 0
def xw (k:Nat) (t a:Rat):Pt:=⟨Be k t,Bf k t a,Kf k t,Kg k t⟩
abbrev Kh:=Nat×Rat×Rat
def Ki (x:Kh):Pt:=xw x.1 x.2.2 x.2.1
def jG (l:List Pt):Pt:=l.foldl Pt.add Pt.zero
def cz (l:List Kh):Pt:=jG (l.map Ki)
theorem xx (l:List Pt) (x:Pt):jG (l++[x])=(jG l).add x:=by unfold jG;rw[List.foldl_append];rfl
theorem xy {l:List Pt} {i:Nat} {x:Pt} (h:l[i]? =some x):jG (l.take (i+1))=(jG (l.take i)).add x:=by rw[aF h,xx]
theorem ql {l:List Kh} {i:Nat} {x:Kh} (h:l[i]? =some x):cz (l.take (i+1))=(cz (l.take i)).add (Ki x):=by
 unfold cz;rw[aF h,List.map_append];exact xx _ _
theorem add_zero' (x:Pt):x.add Pt.zero=x:=Pt.ext' (Rat.add_zero _) (Rat.add_zero _) (Rat.add_zero _) (Rat.add_zero _)
theorem rE (x:Pt):Pt.zero.add x=x:=Pt.ext' (Rat.zero_add _) (Rat.zero_add _) (Rat.zero_add _) (Rat.zero_add _)
theorem Dg (x y z:Pt):(x.add y).add z=x.add (y.add z):=Pt.ext' (Rat.add_assoc _ _ _) (Rat.add_assoc _ _ _) (Rat.add_assoc _ _ _) (Rat.add_assoc _ _ _)
theorem Ge (l:List Pt):∀ x,l.foldl Pt.add x=x.add (jG l):=by
 induction l with
 | nil=>intro x;exact (add_zero' x).symm
 | cons y r ih=>
   intro x
   show r.foldl Pt.add (x.add y)=x.add (r.foldl Pt.add (Pt.zero.add y))
   rw[ih,ih (Pt.zero.add y),rE,Dg]
theorem xz (x:Pt) (l:List Pt):jG (x::l)=x.add (jG l):=by
 show l.foldl Pt.add (Pt.zero.add x)=_
 rw[Ge,rE]
theorem Bg (x y:Pt):jG [x,y]=x.add y:=by show (Pt.zero.add x).add y=_;rw[rE]
structure sR (x:Pt) (k:Nat):Prop where
 b:bS x.b k
 s:bS x.s k
 d:bS x.d k
 i:bS x.i k
theorem sR.mono {x:Pt} {k l:Nat} (h:sR x k) (hk:k<=l):sR x l:=⟨h.b.mono hk,h.s.mono hk,h.d.mono hk,h.i.mono hk⟩
theorem sR.zero:sR Pt.zero 1:=⟨bS.zero,bS.zero,bS.zero,bS.zero⟩
theorem sR.add {x y:Pt} {k l:Nat} (h:sR x k) (h':sR y l):sR (x.add y) (k+l+1):=⟨h.b.add h'.b,h.s.add h'.s,h.d.add h'.d,h.i.add h'.i⟩
theorem Ew {k:Nat} {t a:Rat} {j:Nat} (ht:bS t j) (ha:bS a j) (hj:1<=j):sR (xw k t a) (3*j+1):=by
 have h0:bS 0 (3*j+1):=bS.zero.mono aa
 have h1:bS t (3*j+1):=ht.mono aa
 have h2:bS (-t) (3*j+1):=h1.neg
 have h3:bS (-a) (3*j+1):=(ha.mono aa).neg
 have h4:bS (t*a-t) (3*j+1):=((ht.mul ha).sub ht).mono aa
 refine⟨?_,?_,?_,?_⟩
 ·show bS (Be k t) _;unfold Be;split <;> first|assumption|(split <;> assumption)
 ·show bS (Bf k t a) _;unfold Bf;repeat' (split <;> first|assumption|skip)
 ·show bS (Kf k t) _;unfold Kf;split <;> assumption
 ·show bS (Kg k t) _;unfold Kg;split <;> first|assumption|(split <;> assumption)
def gL (j n:Nat):Nat:=1+n*(3*j+2)
theorem Bh (j n:Nat):gL j (n+1)=gL j n+(3*j+1)+1:=by unfold gL;rw[Nat.add_mul,Nat.one_mul];omega
theorem Gf {j m n:Nat} (h:m<=n):gL j m<=gL j n:=by unfold gL;have:=Nat.mul_le_mul_right (3*j+2) h;omega
def bX (j n:Nat):Nat:=1+n*(j+1)
theorem vf (j n:Nat):bX j (n+1)=bX j n+j+1:=by unfold bX;rw[Nat.add_mul,Nat.one_mul];omega
theorem Bi {j m n:Nat} (h:m<=n):bX j m<=bX j n:=by unfold bX;have:=Nat.mul_le_mul_right (j+1) h;omega
theorem vg {j:Nat} (hj:1<=j):∀ (l:List Kh),(∀ x∈l,bS x.2.1 j/\bS x.2.2 j)->sR (cz l) (gL j l.length):=by
 intro l
 induction l with
 | nil=>intro _;exact sR.zero.mono (by simp[gL])
 | cons x r ih=>
   intro h
   have e:cz (x::r)=(Ki x).add (cz r):=xz _ _
   rw[e,List.length_cons,Bh]
   have h1:sR (Ki x) (3*j+1):=Ew (h x cU).2 (h x cU).1 hj
   exact (h1.add (ih λy hy=>h y (by simp[hy]))).mono aa
theorem yu {j:Nat}:∀ (l:List Pt),(∀ x∈l,sR x j)->sR (jG l) (bX j l.length):=by
 intro l
 induction l with
 | nil=>intro _;exact sR.zero.mono (by simp[bX])
 | cons x r ih=>
   intro h
   rw[xz,List.length_cons,vf]
   exact ((h x cU).add (ih λy hy=>h y (by simp[hy]))).mono aa
def cT (w:World) (v:Value) (P:Pt):Prop:=∃ s1 p1 n1 c1 t1 y1 m1 d1 s2 p2 n2 c2 t2 y2 m2 d2 s3 p3 n3 c3 t3 y3 m3 d3 s4 p4 n4 c4 t4 y4 m4 d4,
 v=.agg #[.bool s1,.slice p1 n1 c1,.bool t1,.slice y1 m1 d1,.bool s2,.slice p2 n2 c2,.bool t2,.slice y2 m2 d2,.bool s3,.slice p3 n3 c3,.bool t3,.slice y3 m3 d3,.bool s4,.slice p4 n4 c4,.bool t4,.slice y4 m4 d4]/\
 aX w (.agg #[.bool s1,.slice p1 n1 c1,.bool t1,.slice y1 m1 d1]) P.b/\aX w (.agg #[.bool s2,.slice p2 n2 c2,.bool t2,.slice y2 m2 d2]) P.s/\aX w (.agg #[.bool s3,.slice p3 n3 c3,.bool t3,.slice y3 m3 d3]) P.d/\aX w (.agg #[.bool s4,.slice p4 n4 c4,.bool t4,.slice y4 m4 d4]) P.i
def nK (w:World) (v:Value) (P:Pt) (k:Nat):Prop:=∃ s1 p1 n1 c1 t1 y1 m1 d1 s2 p2 n2 c2 t2 y2 m2 d2 s3 p3 n3 c3 t3 y3 m3 d3 s4 p4 n4 c4 t4 y4 m4 d4,
 v=.agg #[.bool s1,.slice p1 n1 c1,.bool t1,.slice y1 m1 d1,.bool s2,.slice p2 n2 c2,.bool t2,.slice y2 m2 d2,.bool s3,.slice p3 n3 c3,.bool t3,.slice y3 m3 d3,.bool s4,.slice p4 n4 c4,.bool t4,.slice y4 m4 d4]/\
 ay w (.agg #[.bool s1,.slice p1 n1 c1,.bool t1,.slice y1 m1 d1]) P.b k/\ay w (.agg #[.bool s2,.slice p2 n2 c2,.bool t2,.slice y2 m2 d2]) P.s k/\ay w (.agg #[.bool s3,.slice p3 n3 c3,.bool t3,.slice y3 m3 d3]) P.d k/\ay w (.agg #[.bool s4,.slice p4 n4 c4,.bool t4,.slice y4 m4 d4]) P.i k
theorem cT.kp {U:TypeId} {T:TypeId->Bool} {w w':World} {v:Value} {P:Pt} (h:cT w v P) (k:aY ⟨U,λ_=>True,T⟩ w w'):cT w' v P:=by
 obtain⟨s1,p1,n1,c1,t1,y1,m1,d1,s2,p2,n2,c2,t2,y2,m2,d2,s3,p3,n3,c3,t3,y3,m3,d3,s4,p4,n4,c4,t4,y4,m4,d4,hv,h1,h2,h3,h4⟩:=h
 exact⟨_,_,_,_,_,_,_,_,_,_,_,_,_,_,_,_,_,_,_,_,_,_,_,_,_,_,_,_,_,_,_,_,hv,h1.kp k,h2.kp k,h3.kp k,h4.kp k⟩
theorem nK.kp {U:TypeId} {T:TypeId->Bool} {w w':World} {v:Value} {P:Pt} {j:Nat} (h:nK w v P j) (k:aY ⟨U,λ_=>True,T⟩ w w'):nK w' v P j:=by
 obtain⟨s1,p1,n1,c1,t1,y1,m1,d1,s2,p2,n2,c2,t2,y2,m2,d2,s3,p3,n3,c3,t3,y3,m3,d3,s4,p4,n4,c4,t4,y4,m4,d4,hv,h1,h2,h3,h4⟩:=h
 exact⟨_,_,_,_,_,_,_,_,_,_,_,_,_,_,_,_,_,_,_,_,_,_,_,_,_,_,_,_,_,_,_,_,hv,h1.kp k,h2.kp k,h3.kp k,h4.kp k⟩
theorem cT.to {w:World} {v:Value} {P:Pt} {j:Nat} (h:cT w v P) (hs:sR P j):nK w v P j:=by
 obtain⟨s1,p1,n1,c1,t1,y1,m1,d1,s2,p2,n2,c2,t2,y2,m2,d2,s3,p3,n3,c3,t3,y3,m3,d3,s4,p4,n4,c4,t4,y4,m4,d4,hv,h1,h2,h3,h4⟩:=h
 exact⟨_,_,_,_,_,_,_,_,_,_,_,_,_,_,_,_,_,_,_,_,_,_,_,_,_,_,_,_,_,_,_,_,hv,h1.to hs.b,h2.to hs.s,h3.to hs.d,h4.to hs.i⟩
theorem nK.sz {w:World} {v:Value} {P:Pt} {j:Nat} (h:nK w v P j) (hj:1<=j):sR P j:=by
 obtain⟨s1,p1,n1,c1,t1,y1,m1,d1,s2,p2,n2,c2,t2,y2,m2,d2,s3,p3,n3,c3,t3,y3,m3,d3,s4,p4,n4,c4,t4,y4,m4,d4,hv,h1,h2,h3,h4⟩:=h
 exact⟨h1.sz hj,h2.sz hj,h3.sz hj,h4.sz hj⟩
theorem cT.cast {w:World} {v:Value} {P P':Pt} (h:cT w v P) (e:P=P'):cT w v P':=e▸h
theorem cT.mk {w:World} {s1 t1 s2 t2 s3 t3 s4 t4:Bool} {p1 y1 p2 y2 p3 y3 p4 y4:Option Addr} {n1 c1 m1 d1 n2 c2 m2 d2 n3 c3 m3 d3 n4 c4 m4 d4:Nat} {b s d i:Rat}
  (h1:aX w (.agg #[.bool s1,.slice p1 n1 c1,.bool t1,.slice y1 m1 d1]) b) (h2:aX w (.agg #[.bool s2,.slice p2 n2 c2,.bool t2,.slice y2 m2 d2]) s) (h3:aX w (.agg #[.bool s3,.slice p3 n3 c3,.bool t3,.slice y3 m3 d3]) d) (h4:aX w (.agg #[.bool s4,.slice p4 n4 c4,.bool t4,.slice y4 m4 d4]) i):
  cT w (.agg #[.bool s1,.slice p1 n1 c1,.bool t1,.slice y1 m1 d1,.bool s2,.slice p2 n2 c2,.bool t2,.slice y2 m2 d2,.bool s3,.slice p3 n3 c3,.bool t3,.slice y3 m3 d3,.bool s4,.slice p4 n4 c4,.bool t4,.slice y4 m4 d4]) ⟨b,s,d,i⟩:=
 ⟨_,_,_,_,_,_,_,_,_,_,_,_,_,_,_,_,_,_,_,_,_,_,_,_,_,_,_,_,_,_,_,_,rfl,h1,h2,h3,h4⟩
theorem nK.mk {w:World} {s1 t1 s2 t2 s3 t3 s4 t4:Bool} {p1 y1 p2 y2 p3 y3 p4 y4:Option Addr} {n1 c1 m1 d1 n2 c2 m2 d2 n3 c3 m3 d3 n4 c4 m4 d4:Nat} {b s d i:Rat} {k:Nat}
  (h1:ay w (.agg #[.bool s1,.slice p1 n1 c1,.bool t1,.slice y1 m1 d1]) b k) (h2:ay w (.agg #[.bool s2,.slice p2 n2 c2,.bool t2,.slice y2 m2 d2]) s k) (h3:ay w (.agg #[.bool s3,.slice p3 n3 c3,.bool t3,.slice y3 m3 d3]) d k) (h4:ay w (.agg #[.bool s4,.slice p4 n4 c4,.bool t4,.slice y4 m4 d4]) i k):
  nK w (.agg #[.bool s1,.slice p1 n1 c1,.bool t1,.slice y1 m1 d1,.bool s2,.slice p2 n2 c2,.bool t2,.slice y2 m2 d2,.bool s3,.slice p3 n3 c3,.bool t3,.slice y3 m3 d3,.bool s4,.slice p4 n4 c4,.bool t4,.slice y4 m4 d4]) ⟨b,s,d,i⟩ k:=
 ⟨_,_,_,_,_,_,_,_,_,_,_,_,_,_,_,_,_,_,_,_,_,_,_,_,_,_,_,_,_,_,_,_,rfl,h1,h2,h3,h4⟩
def qm (kk:Nat) (w:World) (cs:List Value) (x:Kh):Prop:=∃ s1 p1 n1 c1 t1 y1 m1 d1 s2 p2 n2 c2 t2 y2 m2 d2,
 cs=[.int .u8 (x.1:Int),.bool s1,.slice p1 n1 c1,.bool t1,.slice y1 m1 d1,.bool s2,.slice p2 n2 c2,.bool t2,.slice y2 m2 d2]/\x.1<256/\
 ay w (.agg #[.bool s1,.slice p1 n1 c1,.bool t1,.slice y1 m1 d1]) x.2.1 kk/\ay w (.agg #[.bool s2,.slice p2 n2 c2,.bool t2,.slice y2 m2 d2]) x.2.2 kk
theorem dV (kk:Nat):fJ (qm kk) 9 where
 kp:=λh k=>by
  obtain⟨s1,p1,n1,c1,t1,y1,m1,d1,s2,p2,n2,c2,t2,y2,m2,d2,hv,h0,h1,h2⟩:=h
  exact⟨_,_,_,_,_,_,_,_,_,_,_,_,_,_,_,_,hv,h0,h1.kp k,h2.kp k⟩
 len:=λh=>by
  obtain⟨s1,p1,n1,c1,t1,y1,m1,d1,s2,p2,n2,c2,t2,y2,m2,d2,rfl,_⟩:=h
  rfl
 ok:=λh=>by
  obtain⟨s1,p1,n1,c1,t1,y1,m1,d1,s2,p2,n2,c2,t2,y2,m2,d2,rfl,_⟩:=h
  rfl
theorem qm.sz {kk:Nat} {w:World} {cs:List Value} {x:Kh} (h:qm kk w cs x) (hk:1<=kk):bS x.2.1 kk/\bS x.2.2 kk:=by
 obtain⟨s1,p1,n1,c1,t1,y1,m1,d1,s2,p2,n2,c2,t2,y2,m2,d2,rfl,h0,h1,h2⟩:=h
 exact⟨h1.sz hk,h2.sz hk⟩
def PtE (kk:Nat) (w:World) (cs:List Value) (x:Pt):Prop:=nK w (.agg cs.toArray) x kk
theorem ss (kk:Nat):fJ (PtE kk) 16 where
 kp:=λh k=>nK.kp h k
 len:=λ{w cs a} h=>by
  obtain⟨s1,p1,n1,c1,t1,y1,m1,d1,s2,p2,n2,c2,t2,y2,m2,d2,s3,p3,n3,c3,t3,y3,m3,d3,s4,p4,n4,c4,t4,y4,m4,d4,hv,_⟩:=h
  injection hv with hv
  have:=congrArg Array.size hv
  simpa using this
 ok:=λ{w cs a} h=>by
  obtain⟨s1,p1,n1,c1,t1,y1,m1,d1,s2,p2,n2,c2,t2,y2,m2,d2,s3,p3,n3,c3,t3,y3,m3,d3,s4,p4,n4,c4,t4,y4,m4,d4,hv,_⟩:=h
  injection hv with hv
  have:=congrArg Array.toList hv
  simp only[List.toList_toArray] at this
  rw[this];rfl
theorem slin_sz {kk:Nat} {w:World} {v:Value} {l:List Kh} (h:cf (qm kk) 9 w v l) (hk:1<=kk):∀ x∈l,bS x.2.1 kk/\bS x.2.2 kk:=λx hx=>by
 obtain⟨i,hi⟩:=List.getElem?_of_mem hx
 obtain⟨p,c,rfl,_⟩:=h.form
 obtain⟨b,off,cs,_,_,he⟩:=h.at hi
 exact he.sz hk
theorem Ex {kk:Nat} {w:World} {v:Value} {l:List Pt} (h:cf (PtE kk) 16 w v l) (hk:1<=kk):∀ x∈l,sR x kk:=λx hx=>by
 obtain⟨i,hi⟩:=List.getElem?_of_mem hx
 obtain⟨p,c,rfl,_⟩:=h.form
 obtain⟨b,off,cs,_,_,he⟩:=h.at hi
 exact nK.sz he hk
end
set_option maxRecDepth 4000
section
open Go.RowKit
attribute [local irreducible] ao VS
theorem eR (w:World):Calls Tryz.prog 50 #[] w λe w'=>∃ r,e=.returned r/\aH w' w.heap.size r 0/\ax w w':=by
 refine ae (C:=aR Tryz.prog w _) (args:=[]) Tryz.func50 rfl Tryz.ntmps50 (bt rfl) ?_
 refine ab ?_
 refine VO.cR rfl rfl (fk Tryz.func11) (λaK bn aU=>bK 0 aK aa aa) (λaK bn aU w1 s1 p1 n1 c1 t1 y1 m1 d1 q1 aC bL _ bb1=>wV rfl ?_)
 refine ab ?_
 refine az ?_;intro wz kz bz
 exact⟨_,rfl,((q1.kp kz).mono aU.size).cast rfl,bz⟩
theorem rF (w:World):Calls Tryz.prog 47 #[] w λe w'=>∃ r,e=.returned r/\cT w' r Pt.zero/\ax w w':=by
 refine ae (C:=aR Tryz.prog w _) (args:=[]) Tryz.func47 rfl Tryz.ntmps47 (bt rfl) ?_
 refine ab ?_
 refine VO.cR rfl rfl (fk Tryz.func50) (λaK bn aU=>eR aK) (λaK bn aU w1 s1 p1 n1 c1 t1 y1 m1 d1 q1 aC bL _ bb1=>wV rfl ?_)
 refine ab ?_
 refine VO.cR rfl rfl (fk Tryz.func50) (λaZ bI bu=>eR aZ) (λaZ bI bu w2 s2 p2 n2 c2 t2 y2 m2 d2 q2 aQ cH _ bb2=>wV rfl ?_)
 refine ab ?_
 refine VO.cR rfl rfl (fk Tryz.func50) (λck cJ da=>eR ck) (λck cJ da w3 s3 p3 n3 c3 t3 y3 m3 d3 q3 bM dP _ bb3=>wV rfl ?_)
 refine ab ?_
 refine VO.cR rfl rfl (fk Tryz.func50) (λdW eT fD=>eR dW) (λdW eT fD w4 s4 p4 n4 c4 t4 y4 m4 d4 q4 fb iK _ oY=>wV rfl ?_)
 refine ab ?_
 refine az ?_;intro wz kz bz
 exact⟨_,rfl,cT.mk (q1.kp bG).rd (q2.kp bG).rd (q3.kp bG).rd (q4.kp bG).rd,bz⟩
theorem gM (v u:Value) (T A:Rat) (w:World) (hv:aX w v T) (hu:aX w u A):
  Calls Tryz.prog 104 #[v,u] w λe w'=>∃ r,e=.returned r/\cT w' r ⟨T,A,0,0⟩/\ax w w':=by
 obtain⟨s8,p8,n8,c8,t8,y8,m8,d8,rfl⟩:=hv.form
 obtain⟨s9,p9,n9,c9,t9,y9,m9,d9,rfl⟩:=hu.form
 refine ae (C:=aR Tryz.prog w _) (args:=[_,_]) Tryz.func104 rfl Tryz.ntmps104 (bt rfl) ?_
 refine ab ?_
 refine VO.call rfl rfl (fk Tryz.func47) (λaK bn aU=>(rF aK).mono ?_)
 rintro e w1 ⟨r1,rfl,q1,aC⟩
 obtain⟨Gg,Gh,Gi,Gj,Gk,Gl,Gm,Gn,Gp,Gq,Gr,Gs,Gt,Gu,Gv,Gw,Gx,Gy,Gz,GA,GB,GC,GD,GF,GG,GH,GI,GJ,GK,GL,GM,GN,rfl,q1A,q1B,q1C,q1D⟩:=q1
 refine⟨_,rfl,aC,λbL _ bb1=>wV rfl ?_⟩
 (repeat (first|refine wN ?_|refine wP rfl ?_|refine FH rfl ?_|refine wO rfl rfl ?_))
 refine VS.uA (bQ _ _) (mO _ _) 6 rfl ?_
 (repeat' (first|refine VA.go rfl ?_|refine VA.fin rfl ?_|refine VA.dp _ rfl rfl ?_|refine VA.cons rfl ?_ ?_|exact VA.nil rfl))
 all_goals
  refine ab ?_
  refine az ?_;intro wz kz bz
  exact⟨_,rfl,cT.mk (hv.kp (Kp.of (U:=UU) bz)) (hu.kp (Kp.of (U:=UU) bz)) (q1C.kp bG) (q1D.kp bG),bz⟩
theorem sw (v u:Value) (T A:Rat) (j:Nat) (w:World) (hv:aX w v T) (hu:aX w u A) (hs:bS T j) (ha:bS A j) (hj:j<=1000000):
  Calls Tryz.prog 100 #[v,u] w λe w'=>∃ r,e=.returned r/\cT w' r ⟨T,T,0,0⟩/\ax w w':=by
 obtain⟨s8,p8,n8,c8,t8,y8,m8,d8,rfl⟩:=hv.form
 obtain⟨s9,p9,n9,c9,t9,y9,m9,d9,rfl⟩:=hu.form
 have hT:ay w (.agg #[.bool s8,.slice p8 n8 c8,.bool t8,.slice y8 m8 d8]) T j:=hv.to hs
 have hA:ay w (.agg #[.bool s9,.slice p9 n9 c9,.bool t9,.slice y9 m9 d9]) A j:=hu.to ha
 refine ae (C:=aR Tryz.prog w _) (args:=[_,_]) Tryz.func100 rfl Tryz.ntmps100 (bt rfl) ?_
 refine ab ?_
 refine VO.call rfl rfl (fk Tryz.func104) (λaK bn aU=>(gM _ _ _ _ aK (hv.kp (Kp.of (U:=UU) aU)) (hv.kp (Kp.of (U:=UU) aU))).mono ?_)
 rintro e w1 ⟨r1,rfl,q1,aC⟩
 obtain⟨Gg,Gh,Gi,Gj,Gk,Gl,Gm,Gn,Gp,Gq,Gr,Gs,Gt,Gu,Gv,Gw,Gx,Gy,Gz,GA,GB,GC,GD,GF,GG,GH,GI,GJ,GK,GL,GM,GN,rfl,q1A,q1B,q1C,q1D⟩:=q1
 refine aB aC ?_
 intro bL _ bb1
 refine az ?_;intro wz kz bz
 exact⟨_,rfl,cT.mk (q1A.kp bG) (q1B.kp bG) (q1C.kp bG) (q1D.kp bG),bz⟩
theorem vh (v u:Value) (T A:Rat) (j:Nat) (w:World) (hv:aX w v T) (hu:aX w u A) (hs:bS T j) (ha:bS A j) (hj:j<=1000000):
  Calls Tryz.prog 101 #[v,u] w λe w'=>∃ r,e=.returned r/\cT w' r ⟨-T,-T,0,0⟩/\ax w w':=by
 obtain⟨s8,p8,n8,c8,t8,y8,m8,d8,rfl⟩:=hv.form
 obtain⟨s9,p9,n9,c9,t9,y9,m9,d9,rfl⟩:=hu.form
 have hT:ay w (.agg #[.bool s8,.slice p8 n8 c8,.bool t8,.slice y8 m8 d8]) T j:=hv.to hs
 have hA:ay w (.agg #[.bool s9,.slice p9 n9 c9,.bool t9,.slice y9 m9 d9]) A j:=hu.to ha
 refine ae (C:=aR Tryz.prog w _) (args:=[_,_]) Tryz.func101 rfl Tryz.ntmps101 (bt rfl) ?_
 refine ab ?_
 refine VO.cR rfl rfl (fk Tryz.func46) (λaK bn aU=>dU _ _ _ aK (hT.kp (Kp.of (U:=UU) aU)) aa) (λaK bn aU w1 s1 p1 n1 c1 t1 y1 m1 d1 q1 aC bL _ bb1=>wV rfl ?_)
 refine ab ?_
 refine VO.cR rfl rfl (fk Tryz.func46) (λaZ bI bu=>dU _ _ _ aZ (hT.kp (Kp.of (U:=UU) bu)) aa) (λaZ bI bu w2 s2 p2 n2 c2 t2 y2 m2 d2 q2 aQ cH _ bb2=>wV rfl ?_)
 refine ab ?_
 refine VO.call rfl rfl (fk Tryz.func104) (λck cJ da=>(gM _ _ _ _ ck ((q1.kp bG).rd) ((q2.kp bG).rd)).mono ?_)
 rintro e w3 ⟨r3,rfl,q3,bM⟩
 obtain⟨s3a,p3a,n3a,c3a,t3a,y3a,m3a,d3a,s3b,p3b,n3b,c3b,t3b,y3b,m3b,d3b,s3c,p3c,n3c,c3c,t3c,y3c,m3c,d3c,s3d,p3d,n3d,c3d,t3d,y3d,m3d,d3d,rfl,q3A,q3B,q3C,q3D⟩:=q3
 refine aB bM ?_
 intro dP _ bb3
 refine az ?_;intro wz kz bz
 exact⟨_,rfl,cT.mk (q3A.kp bG) (q3B.kp bG) (q3C.kp bG) (q3D.kp bG),bz⟩
theorem mX (v u:Value) (T A:Rat) (j:Nat) (w:World) (hv:aX w v T) (hu:aX w u A) (hs:bS T j) (ha:bS A j) (hj:j<=1000000):
  Calls Tryz.prog 102 #[v,u] w λe w'=>∃ r,e=.returned r/\cT w' r ⟨-T,0,0,0⟩/\ax w w':=by
 obtain⟨s8,p8,n8,c8,t8,y8,m8,d8,rfl⟩:=hv.form
 obtain⟨s9,p9,n9,c9,t9,y9,m9,d9,rfl⟩:=hu.form
 have hT:ay w (.agg #[.bool s8,.slice p8 n8 c8,.bool t8,.slice y8 m8 d8]) T j:=hv.to hs
 have hA:ay w (.agg #[.bool s9,.slice p9 n9 c9,.bool t9,.slice y9 m9 d9]) A j:=hu.to ha
 refine ae (C:=aR Tryz.prog w _) (args:=[_,_]) Tryz.func102 rfl Tryz.ntmps102 (bt rfl) ?_
 refine ab ?_
 refine VO.cR rfl rfl (fk Tryz.func46) (λaK bn aU=>dU _ _ _ aK (hT.kp (Kp.of (U:=UU) aU)) aa) (λaK bn aU w1 s1 p1 n1 c1 t1 y1 m1 d1 q1 aC bL _ bb1=>wV rfl ?_)
 refine ab ?_
 refine VO.cR rfl rfl (fk Tryz.func50) (λaZ bI bu=>eR aZ) (λaZ bI bu w2 s2 p2 n2 c2 t2 y2 m2 d2 q2 aQ cH _ bb2=>wV rfl ?_)
 refine ab ?_
 refine VO.call rfl rfl (fk Tryz.func104) (λck cJ da=>(gM _ _ _ _ ck ((q1.kp bG).rd) ((q2.kp bG).rd)).mono ?_)
 rintro e w3 ⟨r3,rfl,q3,bM⟩
 obtain⟨s3a,p3a,n3a,c3a,t3a,y3a,m3a,d3a,s3b,p3b,n3b,c3b,t3b,y3b,m3b,d3b,s3c,p3c,n3c,c3c,t3c,y3c,m3c,d3c,s3d,p3d,n3d,c3d,t3d,y3d,m3d,d3d,rfl,q3A,q3B,q3C,q3D⟩:=q3
 refine aB bM ?_
 intro dP _ bb3
 refine az ?_;intro wz kz bz
 exact⟨_,rfl,cT.mk (q3A.kp bG) (q3B.kp bG) (q3C.kp bG) (q3D.kp bG),bz⟩
theorem Bj (v u:Value) (T A:Rat) (j:Nat) (w:World) (hv:aX w v T) (hu:aX w u A) (hs:bS T j) (ha:bS A j) (hj:j<=1000000):
  Calls Tryz.prog 103 #[v,u] w λe w'=>∃ r,e=.returned r/\cT w' r ⟨T,0,0,0⟩/\ax w w':=by
 obtain⟨s8,p8,n8,c8,t8,y8,m8,d8,rfl⟩:=hv.form
 obtain⟨s9,p9,n9,c9,t9,y9,m9,d9,rfl⟩:=hu.form
 have hT:ay w (.agg #[.bool s8,.slice p8 n8 c8,.bool t8,.slice y8 m8 d8]) T j:=hv.to hs
 have hA:ay w (.agg #[.bool s9,.slice p9 n9 c9,.bool t9,.slice y9 m9 d9]) A j:=hu.to ha
 refine ae (C:=aR Tryz.prog w _) (args:=[_,_]) Tryz.func103 rfl Tryz.ntmps103 (bt rfl) ?_
 refine ab ?_
 refine VO.cR rfl rfl (fk Tryz.func50) (λaK bn aU=>eR aK) (λaK bn aU w1 s1 p1 n1 c1 t1 y1 m1 d1 q1 aC bL _ bb1=>wV rfl ?_)
 refine ab ?_
 refine VO.call rfl rfl (fk Tryz.func104) (λaZ bI bu=>(gM _ _ _ _ aZ (hv.kp (Kp.of (U:=UU) bu)) ((q1.kp bG).rd)).mono ?_)
 rintro e w2 ⟨r2,rfl,q2,aQ⟩
 obtain⟨s2a,p2a,n2a,c2a,t2a,y2a,m2a,d2a,s2b,p2b,n2b,c2b,t2b,y2b,m2b,d2b,s2c,p2c,n2c,c2c,t2c,y2c,m2c,d2c,s2d,p2d,n2d,c2d,t2d,y2d,m2d,d2d,rfl,q2A,q2B,q2C,q2D⟩:=q2
 refine aB aQ ?_
 intro cH _ bb2
 refine az ?_;intro wz kz bz
 exact⟨_,rfl,cT.mk (q2A.kp bG) (q2B.kp bG) (q2C.kp bG) (q2D.kp bG),bz⟩
theorem Bk (v u:Value) (T A:Rat) (j:Nat) (w:World) (hv:aX w v T) (hu:aX w u A) (hs:bS T j) (ha:bS A j) (hj:j<=1000000):
  Calls Tryz.prog 105 #[v,u] w λe w'=>∃ r,e=.returned r/\cT w' r ⟨-T,-(T*(1-A)),0,0⟩/\ax w w':=by
 obtain⟨s8,p8,n8,c8,t8,y8,m8,d8,rfl⟩:=hv.form
 obtain⟨s9,p9,n9,c9,t9,y9,m9,d9,rfl⟩:=hu.form
 have hT:ay w (.agg #[.bool s8,.slice p8 n8 c8,.bool t8,.slice y8 m8 d8]) T j:=hv.to hs
 have hA:ay w (.agg #[.bool s9,.slice p9 n9 c9,.bool t9,.slice y9 m9 d9]) A j:=hu.to ha
 refine ae (C:=aR Tryz.prog w _) (args:=[_,_]) Tryz.func105 rfl Tryz.ntmps105 (bt rfl) ?_
 refine ab ?_
 refine VO.cR rfl rfl (fk Tryz.func46) (λaK bn aU=>dU _ _ _ aK (hT.kp (Kp.of (U:=UU) aU)) aa) (λaK bn aU w1 s1 p1 n1 c1 t1 y1 m1 d1 q1 aC bL _ bb1=>wV rfl ?_)
 refine ab ?_
 refine VO.cR rfl rfl (fk Tryz.func11) (λaZ bI bu=>bK 1 aZ aa aa) (λaZ bI bu w2 s2 p2 n2 c2 t2 y2 m2 d2 q2 aQ cH _ bb2=>wV rfl ?_)
 refine ab ?_
 have z2:bS ((1:Int):Rat) 1:=bS.one
 refine VO.cR rfl rfl (fk Tryz.func14) (λck cJ da=>oL _ _ _ _ 1 j ck ((q2.kp bG).in z2) (hA.kp (Kp.of (U:=UU) da)) aa aa) (λck cJ da w3 s3 p3 n3 c3 t3 y3 m3 d3 q3 bM dP _ bb3=>wV rfl ?_)
 refine ab ?_
 have z3:bS (((1:Int):Rat)-A) (1+j+1):=z2.sub ha
 refine VO.cR rfl rfl (fk Tryz.func106) (λdW eT fD=>uW _ _ _ _ j (1+j+1) dW (hT.kp (Kp.of (U:=UU) fD)) ((q3.kp bG).in z3) aa aa) (λdW eT fD w4 s4 p4 n4 c4 t4 y4 m4 d4 q4 fb iK _ oY=>wV rfl ?_)
 refine ab ?_
 have z4:bS (T*(((1:Int):Rat)-A)) (j+(1+j+1)):=hs.mul z3
 refine VO.cR rfl rfl (fk Tryz.func46) (λfv gh gv=>dU _ _ (j+(1+j+1)) fv ((q4.kp bG).in z4) aa) (λfv gh gv w5 s5 p5 n5 c5 t5 y5 m5 d5 q5 gW ky _ tt=>wV rfl ?_)
 refine ab ?_
 refine VO.call rfl rfl (fk Tryz.func104) (λlR lZ qJ=>(gM _ _ _ _ lR ((q1.kp bG).rd) ((q5.kp bG).rd)).mono ?_)
 rintro e w6 ⟨r6,rfl,q6,oG⟩
 obtain⟨s6a,p6a,n6a,c6a,t6a,y6a,m6a,d6a,s6b,p6b,n6b,c6b,t6b,y6b,m6b,d6b,s6c,p6c,n6c,c6c,t6c,y6c,m6c,d6c,s6d,p6d,n6d,c6d,t6d,y6d,m6d,d6d,rfl,q6A,q6B,q6C,q6D⟩:=q6
 refine aB oG ?_
 intro qK _ yL
 refine az ?_;intro wz kz bz
 exact⟨_,rfl,cT.cast (cT.mk (q6A.kp bG) (q6B.kp bG) (q6C.kp bG) (q6D.kp bG)) rfl,bz⟩
theorem Bl (v u:Value) (T A:Rat) (j:Nat) (w:World) (hv:aX w v T) (hu:aX w u A) (hs:bS T j) (ha:bS A j) (hj:j<=1000000):
  Calls Tryz.prog 107 #[v,u] w λe w'=>∃ r,e=.returned r/\cT w' r ⟨-T,-(gj jv T [A]),0,0⟩/\ax w w':=by
 obtain⟨s8,p8,n8,c8,t8,y8,m8,d8,rfl⟩:=hv.form
 obtain⟨s9,p9,n9,c9,t9,y9,m9,d9,rfl⟩:=hu.form
 have hT:ay w (.agg #[.bool s8,.slice p8 n8 c8,.bool t8,.slice y8 m8 d8]) T j:=hv.to hs
 have hA:ay w (.agg #[.bool s9,.slice p9 n9 c9,.bool t9,.slice y9 m9 d9]) A j:=hu.to ha
 refine ae (C:=aR Tryz.prog w _) (args:=[_,_]) Tryz.func107 rfl Tryz.ntmps107 (bt rfl) ?_
 refine ab ?_
 refine VO.cR rfl rfl (fk Tryz.func46) (λaK bn aU=>dU _ _ _ aK (hT.kp (Kp.of (U:=UU) aU)) aa) (λaK bn aU w1 s1 p1 n1 c1 t1 y1 m1 d1 q1 aC bL _ bb1=>wV rfl ?_)
 refine ab ?_
 refine VO.fh rfl (fk Tryz.func108) (λaZ β bI bu ho=>(CZ _ _ T [A] j aZ (hT.kp (Kp.of (U:=UU) bu)) (kn (ho.own 9 (.base (List.mem_singleton.2 rfl)) _ _ rfl) [] (vs:=[[.bool s9,.slice p9 n9 c9,.bool t9,.slice y9 m9 d9]]) (by rfl) rfl (ey.cons (hA.kp (Kp.of (U:=UU) bu)) ey.nil) (bt rfl) ff) aa (bt rfl)).mono ?_)
 rintro e w2 ⟨r2,rfl,q2,z2,aQ⟩
 obtain⟨s2,p2,n2,c2,t2,y2,m2,d2,rfl⟩:=q2.form
 refine aB aQ ?_
 intro cH _ bb2
 have z2':bS (gj jv T [A]) j:=by
  have e:gj jv T [A]=if jv A T=true then A else T:=rfl
  rw[e];split <;> assumption
 refine VO.cR rfl rfl (fk Tryz.func46) (λck cJ da=>dU _ _ j ck ((q2.kp bG).in z2') aa) (λck cJ da w3 s3 p3 n3 c3 t3 y3 m3 d3 q3 bM dP _ bb3=>wV rfl ?_)
 refine ab ?_
 refine VO.call rfl rfl (fk Tryz.func104) (λdW eT fD=>(gM _ _ _ _ dW ((q1.kp bG).rd) ((q3.kp bG).rd)).mono ?_)
 rintro e w4 ⟨r4,rfl,q4,fb⟩
 obtain⟨s4a,p4a,n4a,c4a,t4a,y4a,m4a,d4a,s4b,p4b,n4b,c4b,t4b,y4b,m4b,d4b,s4c,p4c,n4c,c4c,t4c,y4c,m4c,d4c,s4d,p4d,n4d,c4d,t4d,y4d,m4d,d4d,rfl,q4A,q4B,q4C,q4D⟩:=q4
 refine aB fb ?_
 intro iK _ oY
 refine az ?_;intro wz kz bz
 exact⟨_,rfl,cT.mk (q4A.kp bG) (q4B.kp bG) (q4C.kp bG) (q4D.kp bG),bz⟩
theorem Kj (v u:Value) (T A:Rat) (j:Nat) (w:World) (hv:aX w v T) (hu:aX w u A) (hs:bS T j) (ha:bS A j) (hj:j<=1000000):
  Calls Tryz.prog 109 #[v,u] w λe w'=>∃ r,e=.returned r/\cT w' r ⟨-T,-T,T,0⟩/\ax w w':=by
 obtain⟨s8,p8,n8,c8,t8,y8,m8,d8,rfl⟩:=hv.form
 obtain⟨s9,p9,n9,c9,t9,y9,m9,d9,rfl⟩:=hu.form
 have hT:ay w (.agg #[.bool s8,.slice p8 n8 c8,.bool t8,.slice y8 m8 d8]) T j:=hv.to hs
 have hA:ay w (.agg #[.bool s9,.slice p9 n9 c9,.bool t9,.slice y9 m9 d9]) A j:=hu.to ha
 refine ae (C:=aR Tryz.prog w _) (args:=[_,_]) Tryz.func109 rfl Tryz.ntmps109 (bt rfl) ?_
 refine ab ?_
 refine VO.call rfl rfl (fk Tryz.func101) (λaK bn aU=>(vh _ _ _ _ j aK (hv.kp (Kp.of (U:=UU) aU)) (hu.kp (Kp.of (U:=UU) aU)) hs ha hj).mono ?_)
 rintro e w1 ⟨r1,rfl,q1,aC⟩
 obtain⟨Gg,Gh,Gi,Gj,Gk,Gl,Gm,Gn,Gp,Gq,Gr,Gs,Gt,Gu,Gv,Gw,Gx,Gy,Gz,GA,GB,GC,GD,GF,GG,GH,GI,GJ,GK,GL,GM,GN,rfl,q1A,q1B,q1C,q1D⟩:=q1
 refine aB aC ?_
 intro bL _ bb1
 refine az ?_;intro wz kz bz
 exact⟨_,rfl,cT.mk (q1A.kp bG) (q1B.kp bG) (hv.kp (Kp.of (U:=UU) bz)) (q1D.kp bG),bz⟩
theorem Dh (v u:Value) (T A:Rat) (j:Nat) (w:World) (hv:aX w v T) (hu:aX w u A) (hs:bS T j) (ha:bS A j) (hj:j<=1000000):
  Calls Tryz.prog 110 #[v,u] w λe w'=>∃ r,e=.returned r/\cT w' r ⟨T,0,0,-T⟩/\ax w w':=by
 obtain⟨s8,p8,n8,c8,t8,y8,m8,d8,rfl⟩:=hv.form
 obtain⟨s9,p9,n9,c9,t9,y9,m9,d9,rfl⟩:=hu.form
 have hT:ay w (.agg #[.bool s8,.slice p8 n8 c8,.bool t8,.slice y8 m8 d8]) T j:=hv.to hs
 have hA:ay w (.agg #[.bool s9,.slice p9 n9 c9,.bool t9,.slice y9 m9 d9]) A j:=hu.to ha
 refine ae (C:=aR Tryz.prog w _) (args:=[_,_]) Tryz.func110 rfl Tryz.ntmps110 (bt rfl) ?_
 refine ab ?_
 refine VO.cR rfl rfl (fk Tryz.func50) (λaK bn aU=>eR aK) (λaK bn aU w1 s1 p1 n1 c1 t1 y1 m1 d1 q1 aC bL _ bb1=>wV rfl ?_)
 refine ab ?_
 refine VO.call rfl rfl (fk Tryz.func104) (λaZ bI bu=>(gM _ _ _ _ aZ (hv.kp (Kp.of (U:=UU) bu)) ((q1.kp bG).rd)).mono ?_)
 rintro e w2 ⟨r2,rfl,q2,aQ⟩
 obtain⟨s2a,p2a,n2a,c2a,t2a,y2a,m2a,d2a,s2b,p2b,n2b,c2b,t2b,y2b,m2b,d2b,s2c,p2c,n2c,c2c,t2c,y2c,m2c,d2c,s2d,p2d,n2d,c2d,t2d,y2d,m2d,d2d,rfl,q2A,q2B,q2C,q2D⟩:=q2
 refine aB aQ ?_
 intro cH _ bb2
 refine VO.cR rfl rfl (fk Tryz.func46) (λck cJ da=>dU _ _ _ ck (hT.kp (Kp.of (U:=UU) da)) aa) (λck cJ da w3 s3 p3 n3 c3 t3 y3 m3 d3 q3 bM dP _ bb3=>wV rfl ?_)
 refine ab ?_
 refine az ?_;intro wz kz bz
 exact⟨_,rfl,cT.mk (q2A.kp bG) (q2B.kp bG) (q2C.kp bG) (q3.kp bG).rd,bz⟩
theorem Bm (v u:Value) (T A:Rat) (j:Nat) (w:World) (hv:aX w v T) (hu:aX w u A) (hs:bS T j) (ha:bS A j) (hj:j<=1000000):
  Calls Tryz.prog 111 #[v,u] w λe w'=>∃ r,e=.returned r/\cT w' r ⟨-T,0,0,T⟩/\ax w w':=by
 obtain⟨s8,p8,n8,c8,t8,y8,m8,d8,rfl⟩:=hv.form
 obtain⟨s9,p9,n9,c9,t9,y9,m9,d9,rfl⟩:=hu.form
 have hT:ay w (.agg #[.bool s8,.slice p8 n8 c8,.bool t8,.slice y8 m8 d8]) T j:=hv.to hs
 have hA:ay w (.agg #[.bool s9,.slice p9 n9 c9,.bool t9,.slice y9 m9 d9]) A j:=hu.to ha
 refine ae (C:=aR Tryz.prog w _) (args:=[_,_]) Tryz.func111 rfl Tryz.ntmps111 (bt rfl) ?_
 refine ab ?_
 refine VO.call rfl rfl (fk Tryz.func102) (λaK bn aU=>(mX _ _ _ _ j aK (hv.kp (Kp.of (U:=UU) aU)) (hu.kp (Kp.of (U:=UU) aU)) hs ha hj).mono ?_)
 rintro e w1 ⟨r1,rfl,q1,aC⟩
 obtain⟨Gg,Gh,Gi,Gj,Gk,Gl,Gm,Gn,Gp,Gq,Gr,Gs,Gt,Gu,Gv,Gw,Gx,Gy,Gz,GA,GB,GC,GD,GF,GG,GH,GI,GJ,GK,GL,GM,GN,rfl,q1A,q1B,q1C,q1D⟩:=q1
 refine aB aC ?_
 intro bL _ bb1
 refine az ?_;intro wz kz bz
 exact⟨_,rfl,cT.mk (q1A.kp bG) (q1B.kp bG) (q1C.kp bG) (hv.kp (Kp.of (U:=UU) bz)),bz⟩
set_option maxRecDepth 4000
def yv:List (Value×FuncId):=[(.int .u8 1,100),(.int .u8 10,100),(.int .u8 2,101),(.int .u8 6,102),(.int .u8 11,102),(.int .u8 3,103),(.int .u8 4,105),(.int .u8 5,107),(.int .u8 7,109),(.int .u8 8,110),(.int .u8 9,111)]
abbrev mY:List MapEntry:=mM 0 yv
theorem Di (w:World):Calls Tryz.prog 48 #[] w λe w'=>∃ b,e=.returned (.map (some b))/\w'.heap[b]? =some (.map mY.toArray 11)/\ax w w':=by
 refine ae (C:=aR Tryz.prog w _) (args:=[]) Tryz.func48 rfl Tryz.ntmps48 (bt rfl) ?_
 refine wQ ?_
 refine FH rfl ?_
 refine wN ?_
 refine wQ ?_
 refine VS.mapLitN (bQ _ _) (t:=116) (kt:=5) (d:=.int .u8) 11 yv (by rfl) (by rfl) (by rfl) (by rfl) (by exact bt rfl) Tryz.underlying116 Tryz.underlying5 ?_ ?_ (λw1 b k1 b1 h1=>wV rfl ?_)
 ·repeat' (first|exact trivial|refine⟨rfl,rfl,rfl,?_⟩)
 ·repeat' (first|exact trivial|refine⟨rfl,rfl,?_⟩)
 refine ab ?_
 refine az ?_;intro wz kz bz
 exact⟨b,rfl,kz.map b _ _ h1,bz⟩
def gf (g:FuncId) (k:Nat):Prop:=∀ (v u:Value) (T A:Rat) (j:Nat) (w:World),aX w v T->aX w u A->bS T j->bS A j->j<=1000000->
    Calls Tryz.prog g #[v,u] w λe w'=>∃ r,e=.returned r/\cT w' r (xw k T A)/\ax w w'
theorem gf.of {g:FuncId} {k:Nat} (P:Rat->Rat->Pt) (e:∀ T A,P T A=xw k T A) (h:∀ (v u:Value) (T A:Rat) (j:Nat) (w:World),aX w v T->aX w u A->bS T j->bS A j->j<=1000000->
 Calls Tryz.prog g #[v,u] w λe w'=>∃ r,e=.returned r/\cT w' r (P T A)/\ax w w'):gf g k:=λv u T A j w h1 h2 h3 h4 h5=>by rw[<-e];exact h v u T A j w h1 h2 h3 h4 h5
theorem GO (T A:Rat): -(T*(1-A))=T*A-T:=by grind
theorem GP (T A:Rat): -(gj jv T [A])=if jh T A>0 then-A else-T:=by
 have e:gj jv T [A]=if jv A T=true then A else T:=rfl
 rw[e]
 by_cases h:A<T
 ·have h2:jh T A>0:=nk.1 (show JV T A=true from nk.2 h) |> λ_=>of_decide_eq_true (nk.2 h)
  rw[if_pos (xr.2 h),if_pos h2]
 ·have h2:¬ jh T A>0:=λe=>h (nk.1 (decide_eq_true e))
  rw[if_neg (λe=>h (xr.1 e)),if_neg h2]
theorem GQ (k:Nat):(∃ idx g,Instr.findNow (.int .u8) (.int .u8 (k:Int)) mY.toArray.toList 0=some (some (idx,.func (.func g) #[] #[]))/\iU Tryz.prog g/\gf g k)\/(Instr.findNow (.int .u8) (.int .u8 (k:Int)) mY.toArray.toList 0=some none/\∀ t a,xw k t a=Pt.zero):=by
 have h:k=1\/k=10\/k=2\/k=6\/k=11\/k=3\/k=4\/k=5\/k=7\/k=8\/k=9\/¬ (k=1\/k=10\/k=2\/k=6\/k=11\/k=3\/k=4\/k=5\/k=7\/k=8\/k=9):=by omega
 rcases h with rfl|rfl|rfl|rfl|rfl|rfl|rfl|rfl|rfl|rfl|rfl|h
 ·exact .inl ⟨_,_,rfl,(fk Tryz.func100),gf.of (λT A=>⟨T,T,0,0⟩) (λT A=>rfl) sw⟩
 ·exact .inl ⟨_,_,rfl,(fk Tryz.func100),gf.of (λT A=>⟨T,T,0,0⟩) (λT A=>rfl) sw⟩
 ·exact .inl ⟨_,_,rfl,(fk Tryz.func101),gf.of (λT A=>⟨-T,-T,0,0⟩) (λT A=>rfl) vh⟩
 ·exact .inl ⟨_,_,rfl,(fk Tryz.func102),gf.of (λT A=>⟨-T,0,0,0⟩) (λT A=>rfl) mX⟩
 ·exact .inl ⟨_,_,rfl,(fk Tryz.func102),gf.of (λT A=>⟨-T,0,0,0⟩) (λT A=>rfl) mX⟩
 ·exact .inl ⟨_,_,rfl,(fk Tryz.func103),gf.of (λT A=>⟨T,0,0,0⟩) (λT A=>rfl) Bj⟩
 ·exact .inl ⟨_,_,rfl,(fk Tryz.func105),gf.of (λT A=>⟨-T,-(T*(1-A)),0,0⟩) (λT A=>Pt.ext' rfl (GO T A) rfl rfl) Bk⟩
 ·exact .inl ⟨_,_,rfl,(fk Tryz.func107),gf.of (λT A=>⟨-T,-(gj jv T [A]),0,0⟩) (λT A=>Pt.ext' rfl (GP T A) rfl rfl) Bl⟩
 ·exact .inl ⟨_,_,rfl,(fk Tryz.func109),gf.of (λT A=>⟨-T,-T,T,0⟩) (λT A=>rfl) Kj⟩
 ·exact .inl ⟨_,_,rfl,(fk Tryz.func110),gf.of (λT A=>⟨T,0,0,-T⟩) (λT A=>rfl) Dh⟩
 ·exact .inl ⟨_,_,rfl,(fk Tryz.func111),gf.of (λT A=>⟨-T,0,0,T⟩) (λT A=>rfl) Bm⟩
 ·refine .inr ⟨?_,λt a=> ?_⟩
  ·have n1:((k:Int) == 1)=false:=by rw[beq_eq_false_iff_ne];omega
   have n2:((k:Int) == 2)=false:=by rw[beq_eq_false_iff_ne];omega
   have n3:((k:Int) == 3)=false:=by rw[beq_eq_false_iff_ne];omega
   have n4:((k:Int) == 4)=false:=by rw[beq_eq_false_iff_ne];omega
   have n5:((k:Int) == 5)=false:=by rw[beq_eq_false_iff_ne];omega
   have n6:((k:Int) == 6)=false:=by rw[beq_eq_false_iff_ne];omega
   have n7:((k:Int) == 7)=false:=by rw[beq_eq_false_iff_ne];omega
   have n8:((k:Int) == 8)=false:=by rw[beq_eq_false_iff_ne];omega
   have n9:((k:Int) == 9)=false:=by rw[beq_eq_false_iff_ne];omega
   have n10:((k:Int) == 10)=false:=by rw[beq_eq_false_iff_ne];omega
   have n11:((k:Int) == 11)=false:=by rw[beq_eq_false_iff_ne];omega
   simp only[mY,yv,mM,List.toList_toArray,Instr.findNow,Instr.sameNow,if_true,n1,n2,n3,n4,n5,n6,n7,n8,n9,n10,n11]
  ·refine Pt.ext' ?_ ?_ ?_ ?_
   ·show Be k t=0;unfold Be;rw[if_neg aa,if_neg aa]
   ·show Bf k t a=0;unfold Bf;rw[if_neg aa,if_neg aa,if_neg aa,if_neg aa,if_neg aa,if_neg aa]
   ·show Kf k t=0;unfold Kf;rw[if_neg aa]
   ·show Kg k t=0;unfold Kg;rw[if_neg aa,if_neg aa]
theorem mZ {cs l:List Value} (h:Value.agg cs.toArray=.agg l.toArray):cs=l:=by
 injection h with h
 simpa using congrArg Array.toList h
theorem Bn {P Q:Prop} (h:Q) (i:Q->P:=by intro h;(repeat first|refine wN ?_|refine wP rfl ?_|refine cxA_r rfl ?_|refine cxA_d rfl ?_|refine wO rfl rfl ?_);exact h):P:=i h
set_option maxRecDepth 4000 in
theorem vi (g:Nat) (cs:List Value) (v:Value) (A P:Pt) (k l:Nat) (w:World) (hc:aW w g 115 cs.toArray) (hA:cT w (.agg cs.toArray) A) (hP:nK w v P l) (hs:sR A k) (hk:k<=67108864) (hl:l<=67108864):
  Calls Tryz.prog 49 #[.pointer (some ⟨g,0,none⟩),v] w λe w'=>∃ ds:List Value,e=.returned (.tuple #[])/\yI [g] w w'/\aW w' g 115 ds.toArray/\ds.all aN=true/\cT w' (.agg ds.toArray) (A.add P):=by
 obtain⟨s8a,p8a,n8a,c8a,t8a,y8a,m8a,d8a,s8b,p8b,n8b,c8b,t8b,y8b,m8b,d8b,s8c,p8c,n8c,c8c,t8c,y8c,m8c,d8c,s8d,p8d,n8d,c8d,t8d,y8d,m8d,d8d,hcs,q8A,q8B,q8C,q8D⟩:=hA
 obtain rfl:=mZ hcs
 obtain⟨s9a,p9a,n9a,c9a,t9a,y9a,m9a,d9a,s9b,p9b,n9b,c9b,t9b,y9b,m9b,d9b,s9c,p9c,n9c,c9c,t9c,y9c,m9c,d9c,s9d,p9d,n9d,c9d,t9d,y9d,m9d,d9d,rfl,q9A,q9B,q9C,q9D⟩:=hP
 refine Aq Tryz.prog w _ (KU UU) (λt=>Nat.beq t 30) table (λ_ _=>trivial) (us:=[_]) Tryz.func49 rfl Tryz.ntmps49 (bt rfl) hc rfl rfl ?_
 refine Bn ?_
 refine VO.cR rfl rfl (fk Tryz.func13) (λaK bn aU=>df _ _ A.b P.b k l aK ((q8A.kp bG).to hs.b) (q9A.kp bG) hk hl) (λaK bn aU w1 s1 p1 n1 c1 t1 y1 m1 d1 q1 aC bL _ bb1=>wV rfl ?_)
 refine Bn ?_
 refine VO.cR rfl rfl (fk Tryz.func13) (λaZ bI bu=>df _ _ A.s P.s k l aZ ((q8B.kp bG).to hs.s) (q9B.kp bG) hk hl) (λaZ bI bu w2 s2 p2 n2 c2 t2 y2 m2 d2 q2 aQ cH _ bb2=>wV rfl ?_)
 refine Bn ?_
 refine VO.cR rfl rfl (fk Tryz.func13) (λck cJ da=>df _ _ A.d P.d k l ck ((q8C.kp bG).to hs.d) (q9C.kp bG) hk hl) (λck cJ da w3 s3 p3 n3 c3 t3 y3 m3 d3 q3 bM dP _ bb3=>wV rfl ?_)
 refine Bn ?_
 refine VO.cR rfl rfl (fk Tryz.func13) (λdW eT fD=>df _ _ A.i P.i k l dW ((q8D.kp bG).to hs.i) (q9D.kp bG) hk hl) (λdW eT fD w4 s4 p4 n4 c4 t4 y4 m4 d4 q4 fb iK _ oY=>wV rfl ?_)
 refine Bn ?_
 refine VS.fin (CF _ _) rfl (λwz β kz oz en=> ?_)
 exact⟨_,rfl,oz.1,own1 (en.own 104 _ _ rfl) rfl,rfl,cT.mk (q1.kp bG).rd (q2.kp bG).rd (q3.kp bG).rd (q4.kp bG).rd⟩
set_option maxRecDepth 4000
theorem PtE.form {kk:Nat} {w:World} {cs:List Value} {P:Pt} (h:PtE kk w cs P):∃ Gg Gh Gi Gj Gk Gl Gm Gn Gp Gq Gr Gs Gt Gu Gv Gw Gx Gy Gz GA GB GC GD GF GG GH GI GJ GK GL GM GN,cs=[.bool Gg,.slice Gh Gi Gj,.bool Gk,.slice Gl Gm Gn,.bool Gp,.slice Gq Gr Gs,.bool Gt,.slice Gu Gv Gw,.bool Gx,.slice Gy Gz GA,.bool GB,.slice GC GD GF,.bool GG,.slice GH GI GJ,.bool GK,.slice GL GM GN]/\
 ay w (.agg #[.bool Gg,.slice Gh Gi Gj,.bool Gk,.slice Gl Gm Gn]) P.b kk/\ay w (.agg #[.bool Gp,.slice Gq Gr Gs,.bool Gt,.slice Gu Gv Gw]) P.s kk/\ay w (.agg #[.bool Gx,.slice Gy Gz GA,.bool GB,.slice GC GD GF]) P.d kk/\ay w (.agg #[.bool GG,.slice GH GI GJ,.bool GK,.slice GL GM GN]) P.i kk:=by
 obtain⟨Gg,Gh,Gi,Gj,Gk,Gl,Gm,Gn,Gp,Gq,Gr,Gs,Gt,Gu,Gv,Gw,Gx,Gy,Gz,GA,GB,GC,GD,GF,GG,GH,GI,GJ,GK,GL,GM,GN,hv,h1,h2,h3,h4⟩:=h
 exact⟨_,_,_,_,_,_,_,_,_,_,_,_,_,_,_,_,_,_,_,_,_,_,_,_,_,_,_,_,_,_,_,_,mZ hv,h1,h2,h3,h4⟩
set_option maxRecDepth 4000 in
theorem GR (v:Value) (l:List Kh) (kk:Nat) (w:World) (hv:cf (qm kk) 9 w v l) (jF:1<=kk) (hkk:kk<=1000000) (hsz:gL kk l.length<=60000000):
  Calls Tryz.prog 15 #[v] w λe w'=>∃ r,e=.returned r/\cT w' r (cz l)/\ax w w':=by
 obtain⟨p,c,rfl,dk,dY⟩:=hv.form
 have GS:=slin_sz hv jF
 obtain⟨N,hN⟩:∃ N,N=l.length:=⟨_,rfl⟩
 rw[<-hN] at hv dk hsz ⊢
 refine ae (C:=aR Tryz.prog w _) (args:=[_]) Tryz.func15 rfl Tryz.ntmps15 (bt rfl) ?_
 refine ab ?_
 refine VO.call rfl rfl (fk Tryz.func47) (λaK bn aU=>(rF aK).mono ?_)
 rintro e w1 ⟨r1,rfl,q1,aC⟩
 obtain⟨Gg,Gh,Gi,Gj,Gk,Gl,Gm,Gn,Gp,Gq,Gr,Gs,Gt,Gu,Gv,Gw,Gx,Gy,Gz,GA,GB,GC,GD,GF,GG,GH,GI,GJ,GK,GL,GM,GN,rfl,q1r⟩:=q1;have q1:=cT.mk q1r.1 q1r.2.1 q1r.2.2.1 q1r.2.2.2
 refine aB aC ?_
 intro bL _ bb1
 refine VO.call rfl rfl (fk Tryz.func48) (λaZ bI bu=>(Di aZ).mono ?_)
 rintro e w2 ⟨b2,rfl,m2,aQ⟩
 skip
 refine aB aQ ?_
 intro cH _ bb2
 refine VS.loop (J:=λm L M w'=>∃ (z:Nat) (cs:List Value),z<=N/\m=N-z/\L=[(2,.box 2 0),(3,.box 11 0),(4,.val (.map (some b2))),(13,.val (.slice p N c)),(14,.val (.int .i64 (N:Int))),(15,.val (.int .i64 (z:Int)))]/\
  M=[(2,(47,([.bool false,.slice none 0 0,.bool false,.slice none 0 0,.bool false,.slice none 0 0,.bool false,.slice none 0 0,.bool false,.slice none 0 0,.bool false,.slice none 0 0,.bool false,.slice none 0 0,.bool false,.slice none 0 0]:List Value).map .val)),(11,(115,cs.map .val))]/\cs.all aN=true/\cT w' (.agg cs.toArray) (cz (l.take z))/\w'.heap[b2]? =some (.map mY.toArray 11)) N
  ⟨_,_,?_,?_,?_,?_,⟨0,[.bool Gg,.slice Gh Gi Gj,.bool Gk,.slice Gl Gm Gn,.bool Gp,.slice Gq Gr Gs,.bool Gt,.slice Gu Gv Gw,.bool Gx,.slice Gy Gz GA,.bool GB,.slice GC GD GF,.bool GG,.slice GH GI GJ,.bool GK,.slice GL GM GN],by omega,rfl,rfl,rfl,rfl,q1.kp bG,m2⟩⟩ ?_
 ·exact dX
 ·exact dX
 ·rfl
 ·exact ll
 rintro m L M wJ ⟨z,cs,hz,rfl,rfl,rfl,ig,Kk,nJ⟩
 refine ab ?_
 by_cases hlt:z<N
 ·obtain⟨x,hx⟩:∃ x,l[z]? =some x:=⟨_,List.getElem?_eq_getElem aa⟩
  obtain⟨b,off,fM,rfl,hc,he⟩:=hv.at hx
  obtain⟨s9a,p9a,n9a,c9a,t9a,y9a,m9a,d9a,s9b,p9b,n9b,c9b,t9b,y9b,m9b,d9b,rfl,hkd,hAr,hTo⟩:=he
  obtain⟨kd,ar,tx⟩:=x
  replace hAr:ay w (.agg #[.bool s9a,.slice p9a n9a c9a,.bool t9a,.slice y9a m9a d9a]) ar kk:=hAr
  replace hTo:ay w (.agg #[.bool s9b,.slice p9b n9b c9b,.bool t9b,.slice y9b m9b d9b]) tx kk:=hTo
  obtain⟨hsa,hst⟩:=GS _ (List.mem_of_getElem? hx)
  have hst:bS tx kk:=hst
  have hsa:bS ar kk:=hsa
  have Bo:sR (cz (l.take z)) (gL kk N):=(vg jF (l.take z) (λy hy=>GS y (List.mem_of_mem_take hy))).mono (Gf (by rw[List.length_take];omega))
  refine VS.bo rfl (decide_eq_true (Int.ofNat_lt.2 hlt)) ?_
  refine ab ?_
  refine VO.cond rfl fw (wV rfl ?_)
  refine VO.read rfl [.int .u8 (kd:Int),.bool s9a,.slice p9a n9a c9a,.bool t9a,.slice y9a m9a d9a,.bool s9b,.slice p9b n9b c9b,.bool t9b,.slice y9b m9b d9b] rfl (λj u hj=>by rw[Addr.add_mid,Int.toNat_natCast];exact hc j u hj) (wV rfl ?_)
  refine ab ?_
  have hd0:MapKept.IsKey (.int .u8) (.int .u8 (kd:Int)):=rfl
  rcases GQ kd with ⟨idx,g,Kl,hg,hrule⟩|⟨Kl,hzero⟩
  ·refine VO.look (t:=116) (kt:=5) (d:=.int .u8) (z:=.nilFunc) rfl rfl Tryz.underlying116 Tryz.underlying5 hd0 (λw=>by kernel_rfl) (λw1 k1 _=>k1.map _ _ _ nJ) Kl (λw3 dP bb3=>wV rfl ?_)
   (repeat (first|refine wN ?_|refine wP rfl ?_|refine FH rfl ?_|refine wO rfl rfl ?_))
   refine VS.draw (bQ _ _) (mO _ _) [49] (by kernel_rfl) ?_
   refine wV rfl ?_
   refine VO.cR rfl rfl (fk Tryz.func50) (λdW eT fD=>eR dW) (λdW eT fD w4 s4 p4 n4 c4 t4 y4 m4 d4 q4 fb iK _ oY=>wV rfl ?_)
   refine ab ?_
   refine VO.cR rfl rfl (fk Tryz.func13) (λfv gh gv=>df _ _ tx 0 kk 1 fv (hTo.kp (Kp.of (U:=UU) gv)) ((q4.kp bG).in bS.zero) aa aa) (λfv gh gv w5 s5 p5 n5 c5 t5 y5 m5 d5 q5 gW ky _ tt=>wV rfl ?_)
   refine ab ?_
   refine VO.cR rfl rfl (fk Tryz.func50) (λlR lZ qJ=>eR lR) (λlR lZ qJ w6 s6 p6 n6 c6 t6 y6 m6 d6 q6 oG qK _ yL=>wV rfl ?_)
   refine ab ?_
   refine VO.cR rfl rfl (fk Tryz.func13) (λxp wh vK=>df _ _ ar 0 kk 1 xp (hAr.kp (Kp.of (U:=UU) vK)) ((q6.kp bG).in bS.zero) aa aa) (λxp wh vK w7 s7 p7 n7 c7 t7 y7 m7 d7 q7 Ef BL _ bb7=>wV rfl ?_)
   refine ab ?_
   have q5':=aX.cast q5.rd (Rat.add_zero tx).symm
   have q7':=aX.cast q7.rd (Rat.add_zero ar).symm
   refine VO.call rfl rfl hg (λHI ka8 HQ=>(hrule _ _ tx ar kk HI (q5'.kp bG) (q7'.kp bG) hst hsa hkk).mono ?_)
   rintro e w8 ⟨r8,rfl,q8,Ci⟩
   have q8':=q8
   obtain⟨s8a,p8a,n8a,c8a,t8a,y8a,m8a,d8a,s8b,p8b,n8b,c8b,t8b,y8b,m8b,d8b,s8c,p8c,n8c,c8c,t8c,y8c,m8c,d8c,s8d,p8d,n8d,c8d,t8d,y8d,m8d,d8d,rfl,_⟩:=q8'
   refine aB Ci ?_
   intro BM _ bb8
   refine VO.callM (i:=11) rfl rfl (List.mem_append_left _ (List.mem_singleton.2 rfl)) (fk Tryz.func49) (bt rfl) (λJQ β ka9 JR ho=>(vi (β 11) cs _ (cz (l.take z)) (xw kd tx ar) (gL kk N) (3*kk+1) JQ ?_ (Kk.kp bG) ((q8.kp bG).to (Ew hst hsa jF)) Bo aa aa).mono ?_)
   ·have:=(ho.own 11 (.base (List.mem_append_left _ (List.mem_singleton.2 rfl))) _ _ rfl).cls
    rw[aO] at this
    exact this
   rintro e w9 ⟨ds,rfl,hbut,hcls,Km,hptd⟩
   refine⟨_,ds,rfl,hbut,hcls,Km,λCS kc9 bb9=>wV rfl ?_⟩
   refine ab ?_
   have Kn:cT w9 (.agg ds.toArray) (cz (l.take (z+1))):=hptd.cast (ql hx).symm
   refine VS.back (N-(z+1)) aa ⟨_,_,?_,?_,?_,?_,⟨z+1,ds,by omega,rfl,rfl,rfl,Km,Kn,aY.map (K:=KU UU) (w:=wJ) bG _ _ _ nJ⟩⟩
   ·refine⟨rfl,rfl,rfl,rfl,rfl,?_,trivial⟩
    rw[<-bD aa];rfl
   ·exact dX
   ·rfl
   ·exact ll
  ·refine VO.look (t:=116) (kt:=5) (d:=.int .u8) (z:=.nilFunc) rfl rfl Tryz.underlying116 Tryz.underlying5 hd0 (λw=>by kernel_rfl) (λw1 k1 _=>k1.map _ _ _ nJ) Kl (λw3 dP bb3=>wV rfl ?_)
   refine ab ?_
   have Kn:cT w3 (.agg cs.toArray) (cz (l.take (z+1))):=(Kk.kp dP).cast (by rw[ql hx,show Ki (kd,ar,tx)=Pt.zero from hzero _ _,add_zero'])
   refine VS.back (N-(z+1)) aa ⟨_,_,?_,?_,?_,?_,⟨z+1,cs,by omega,rfl,rfl,rfl,ig,Kn,dP.map _ _ _ nJ⟩⟩
   ·refine⟨rfl,rfl,rfl,rfl,rfl,?_,trivial⟩
    rw[<-bD aa];rfl
   ·exact dX
   ·rfl
   ·exact ll
 ·refine VS.bB rfl (decide_eq_false (λe=>hlt (Int.ofNat_lt.1 e))) ?_
  obtain rfl:z=N:=by omega
  have Ko:=Kk
  obtain⟨s3a,p3a,n3a,c3a,t3a,y3a,m3a,d3a,s3b,p3b,n3b,c3b,t3b,y3b,m3b,d3b,s3c,p3c,n3c,c3c,t3c,y3c,m3c,d3c,s3d,p3d,n3d,c3d,t3d,y3d,m3d,d3d,hcs,_⟩:=Ko
  obtain rfl:=mZ hcs
  refine ab ?_
  refine az ?_;intro wz kz bz
  exact⟨_,rfl,(Kk.kp kz).cast (by rw[List.take_of_length_le aa]),bz⟩
set_option maxRecDepth 4000 in
theorem vm (v:Value) (l:List Pt) (kk:Nat) (w:World) (hv:cf (PtE kk) 16 w v l) (jF:1<=kk) (hkk:kk<=1000000) (hsz:bX kk l.length<=60000000):
  Calls Tryz.prog 60 #[v] w λe w'=>∃ r,e=.returned r/\cT w' r (jG l)/\ax w w':=by
 obtain⟨p,c,rfl,dk,dY⟩:=hv.form
 have GS:=Ex hv jF
 obtain⟨N,hN⟩:∃ N,N=l.length:=⟨_,rfl⟩
 rw[<-hN] at hv dk hsz ⊢
 refine ae (C:=aR Tryz.prog w _) (args:=[_]) Tryz.func60 rfl Tryz.ntmps60 (bt rfl) ?_
 refine ab ?_
 refine VO.call rfl rfl (fk Tryz.func47) (λaK bn aU=>(rF aK).mono ?_)
 rintro e w1 ⟨r1,rfl,q1,aC⟩
 obtain⟨Gg,Gh,Gi,Gj,Gk,Gl,Gm,Gn,Gp,Gq,Gr,Gs,Gt,Gu,Gv,Gw,Gx,Gy,Gz,GA,GB,GC,GD,GF,GG,GH,GI,GJ,GK,GL,GM,GN,rfl,q1r⟩:=q1;have q1:=cT.mk q1r.1 q1r.2.1 q1r.2.2.1 q1r.2.2.2
 refine aB aC ?_
 intro bL _ bb1
 refine VS.loop (J:=λm L M w'=>∃ (z:Nat) (cs:List Value),z<=N/\m=N-z/\L=[(2,.box 2 0),(3,.box 8 0),(9,.val (.slice p N c)),(10,.val (.int .i64 (N:Int))),(11,.val (.int .i64 (z:Int)))]/\
  M=[(2,(47,([.bool false,.slice none 0 0,.bool false,.slice none 0 0,.bool false,.slice none 0 0,.bool false,.slice none 0 0,.bool false,.slice none 0 0,.bool false,.slice none 0 0,.bool false,.slice none 0 0,.bool false,.slice none 0 0]:List Value).map .val)),(8,(115,cs.map .val))]/\cs.all aN=true/\cT w' (.agg cs.toArray) (jG (l.take z))) N
  ⟨_,_,?_,?_,?_,?_,⟨0,[.bool Gg,.slice Gh Gi Gj,.bool Gk,.slice Gl Gm Gn,.bool Gp,.slice Gq Gr Gs,.bool Gt,.slice Gu Gv Gw,.bool Gx,.slice Gy Gz GA,.bool GB,.slice GC GD GF,.bool GG,.slice GH GI GJ,.bool GK,.slice GL GM GN],by omega,rfl,rfl,rfl,rfl,q1⟩⟩ ?_
 ·exact dX
 ·exact dX
 ·rfl
 ·exact ll
 rintro m L M wJ ⟨z,cs,hz,rfl,rfl,rfl,ig,Kk⟩
 refine ab ?_
 by_cases hlt:z<N
 ·obtain⟨x,hx⟩:∃ x,l[z]? =some x:=⟨_,List.getElem?_eq_getElem aa⟩
  obtain⟨b,off,fM,rfl,hc,he⟩:=hv.at hx
  have yz:=he
  obtain⟨s9a,p9a,n9a,c9a,t9a,y9a,m9a,d9a,s9b,p9b,n9b,c9b,t9b,y9b,m9b,d9b,s9c,p9c,n9c,c9c,t9c,y9c,m9c,d9c,s9d,p9d,n9d,c9d,t9d,y9d,m9d,d9d,rfl,q9A,q9B,q9C,q9D⟩:=yz.form
  have Bo:sR (jG (l.take z)) (bX kk N):=(yu (l.take z) (λy hy=>GS y (List.mem_of_mem_take hy))).mono (Bi (by rw[List.length_take];omega))
  refine VS.bo rfl (decide_eq_true (Int.ofNat_lt.2 hlt)) ?_
  refine ab ?_
  refine VO.cond rfl fw (wV rfl ?_)
  refine VO.read rfl [.bool s9a,.slice p9a n9a c9a,.bool t9a,.slice y9a m9a d9a,.bool s9b,.slice p9b n9b c9b,.bool t9b,.slice y9b m9b d9b,.bool s9c,.slice p9c n9c c9c,.bool t9c,.slice y9c m9c d9c,.bool s9d,.slice p9d n9d c9d,.bool t9d,.slice y9d m9d d9d] rfl (λj u hj=>by rw[Addr.add_mid,Int.toNat_natCast];exact hc j u hj) (wV rfl ?_)
  refine ab ?_
  refine VO.callM (i:=8) rfl rfl (List.mem_append_left _ (List.mem_singleton.2 rfl)) (fk Tryz.func49) (bt rfl) (λJQ β ka9 JR ho=>(vi (β 8) cs _ (jG (l.take z)) x (bX kk N) kk JQ ?_ (Kk.kp bG) ((ss kk).kp he (Kp.of (U:=UU) JR)) Bo aa aa).mono ?_)
  ·have:=(ho.own 8 (.base (List.mem_append_left _ (List.mem_singleton.2 rfl))) _ _ rfl).cls
   rw[aO] at this
   exact this
  rintro e w9 ⟨ds,rfl,hbut,hcls,Km,hptd⟩
  refine⟨_,ds,rfl,hbut,hcls,Km,λCS kc9 bb9=>wV rfl ?_⟩
  refine ab ?_
  have Kn:cT w9 (.agg ds.toArray) (jG (l.take (z+1))):=hptd.cast (xy hx).symm
  refine VS.back (N-(z+1)) aa ⟨_,_,?_,?_,?_,?_,⟨z+1,ds,by omega,rfl,rfl,rfl,Km,Kn⟩⟩
  ·refine⟨rfl,rfl,rfl,rfl,?_,trivial⟩
   rw[<-bD aa];rfl
  ·exact dX
  ·rfl
  ·exact ll
 ·refine VS.bB rfl (decide_eq_false (λe=>hlt (Int.ofNat_lt.1 e))) ?_
  obtain rfl:z=N:=by omega
  have Ko:=Kk
  obtain⟨s3a,p3a,n3a,c3a,t3a,y3a,m3a,d3a,s3b,p3b,n3b,c3b,t3b,y3b,m3b,d3b,s3c,p3c,n3c,c3c,t3c,y3c,m3c,d3c,s3d,p3d,n3d,c3d,t3d,y3d,m3d,d3d,hcs,_⟩:=Ko
  obtain rfl:=mZ hcs
  refine ab ?_
  refine az ?_;intro wz kz bz
  exact⟨_,rfl,(Kk.kp kz).cast (by rw[List.take_of_length_le aa]),bz⟩
set_option maxRecDepth 4000
theorem nr {w:World} {b o:Nat} {cs:List Value} (hc:∀ (j:Nat) (u:Value),cs[j]? =some u->w.cell? ⟨b,o+j,none⟩=some u) (k:Nat) (ds:List Value) (hd:ds <+:cs.drop k):∀ (j:Nat) (u:Value),ds[j]? =some u->w.cell? ((⟨b,o+k,none⟩:Addr).add j)=some u:=λj u hj=>by
 obtain⟨t,ht⟩:=hd
 rw[Addr.add_mid,Nat.add_assoc]
 refine hc (k+j) u ?_
 rw[<-List.getElem?_drop,<-ht,List.getElem?_append_left (List.getElem?_eq_some_iff.1 hj).1]
 exact hj
theorem nu (w:World):Calls Tryz.prog 121 #[] w λe w'=>∃ r,e=.returned r/\aH w' w.heap.size r 0/\ax w w':=by
 refine ae (C:=aR Tryz.prog w _) (args:=[]) Tryz.func121 rfl Tryz.ntmps121 (bt rfl) ?_
 refine ab ?_
 refine VO.cR rfl rfl (fk Tryz.func118) (λaK bn aU=>yp 0 aK aa aa) (λaK bn aU w1 s1 p1 n1 c1 t1 y1 m1 d1 q1 aC bL _ bb1=>wV rfl ?_)
 refine ab ?_
 refine az ?_;intro wz kz bz
 exact⟨_,rfl,((q1.kp kz).mono aU.size).cast rfl,bz⟩
set_option maxRecDepth 4000 in
theorem Dj (v:Value) (l:List Pt) (kk:Nat) (w:World) (hv:cf (PtE kk) 16 w v l) (jF:1<=kk) (hkk:kk<=1000000) (hsz:bX kk l.length<=30000000):
  Calls Tryz.prog 61 #[v] w λe w'=>∃ r,e=.returned r/\cT w' r (jG l)/\ax w w':=by
 obtain⟨p,c,rfl,dk,dY⟩:=hv.form
 have GS:=Ex hv jF
 obtain⟨N,hN⟩:∃ N,N=l.length:=⟨_,rfl⟩
 rw[<-hN] at hv dk hsz ⊢
 refine ae (C:=aR Tryz.prog w _) (args:=[_]) Tryz.func61 rfl Tryz.ntmps61 (bt rfl) ?_
 refine ab ?_
 refine VO.cR rfl rfl (fk Tryz.func121) (λaK bn aU=>nu aK) (λaK bn aU w1 s1 p1 n1 c1 t1 y1 m1 d1 q1 aC bL _ bb1=>wV rfl ?_)
 refine ab ?_
 refine VO.cR rfl rfl (fk Tryz.func121) (λaZ bI bu=>nu aZ) (λaZ bI bu w2 s2 p2 n2 c2 t2 y2 m2 d2 q2 aQ cH _ bb2=>wV rfl ?_)
 refine ab ?_
 refine VO.cR rfl rfl (fk Tryz.func121) (λck cJ da=>nu ck) (λck cJ da w3 s3 p3 n3 c3 t3 y3 m3 d3 q3 bM dP _ bb3=>wV rfl ?_)
 refine ab ?_
 refine VO.cR rfl rfl (fk Tryz.func121) (λdW eT fD=>nu dW) (λdW eT fD w4 s4 p4 n4 c4 t4 y4 m4 d4 q4 fb iK _ oY=>wV rfl ?_)
 refine ab ?_
 refine VS.loop (J:=λm L M w'=>∃ (z:Nat) (cs:List Value),z<=N/\m=N-z/\L=[(0,.val (.slice p N c)),(2,.box 2 0),(3,.box 3 0),(4,.val (.int .i64 (z:Int)))]/\
  M=[(2,(57,([.bool false,.slice none 0 0,.bool false,.slice none 0 0,.bool false,.slice none 0 0,.bool false,.slice none 0 0,.bool false,.slice none 0 0,.bool false,.slice none 0 0,.bool false,.slice none 0 0,.bool false,.slice none 0 0]:List Value).map .val)),(3,(57,cs.map .val))]/\cT w' (.agg cs.toArray) (jG (l.take z))) N
  ⟨_,_,?_,?_,?_,?_,⟨0,[.bool s1,.slice p1 n1 c1,.bool t1,.slice y1 m1 d1,.bool s2,.slice p2 n2 c2,.bool t2,.slice y2 m2 d2,.bool s3,.slice p3 n3 c3,.bool t3,.slice y3 m3 d3,.bool s4,.slice p4 n4 c4,.bool t4,.slice y4 m4 d4],by omega,rfl,rfl,rfl,cT.mk (q1.kp bG).rd (q2.kp bG).rd (q3.kp bG).rd q4.rd⟩⟩ ?_
 ·exact dX
 ·exact dX
 ·rfl
 ·exact ll
 rintro m L M wJ ⟨z,cs,hz,rfl,rfl,rfl,Kk⟩
 have Ko:=Kk
 obtain⟨s8a,p8a,n8a,c8a,t8a,y8a,m8a,d8a,s8b,p8b,n8b,c8b,t8b,y8b,m8b,d8b,s8c,p8c,n8c,c8c,t8c,y8c,m8c,d8c,s8d,p8d,n8d,c8d,t8d,y8d,m8d,d8d,hcs,q8A,q8B,q8C,q8D⟩:=Ko
 obtain rfl:=mZ hcs
 refine ab ?_
 by_cases hlt:z<N
 ·obtain⟨x,hx⟩:∃ x,l[z]? =some x:=⟨_,List.getElem?_eq_getElem aa⟩
  obtain⟨b,off,fM,rfl,hc,he⟩:=hv.at hx
  obtain⟨s9a,p9a,n9a,c9a,t9a,y9a,m9a,d9a,s9b,p9b,n9b,c9b,t9b,y9b,m9b,d9b,s9c,p9c,n9c,c9c,t9c,y9c,m9c,d9c,s9d,p9d,n9d,c9d,t9d,y9d,m9d,d9d,rfl,q9A,q9B,q9C,q9D⟩:=he.form
  have Bo:sR (jG (l.take z)) (bX kk N):=(yu (l.take z) (λy hy=>GS y (List.mem_of_mem_take hy))).mono (Bi (by rw[List.length_take];omega))
  refine VS.bo rfl (decide_eq_true (Int.ofNat_lt.2 hlt)) ?_
  refine ab ?_
  refine VO.cond rfl fw (wV rfl ?_)
  refine VO.read rfl [.bool s9a,.slice p9a n9a c9a,.bool t9a,.slice y9a m9a d9a] rfl (nr (o:=off+z*16) hc 0 _ ⟨_,rfl⟩) (wV rfl ?_)
  refine VO.cR rfl rfl (fk Tryz.func122) (λnH rD wk=>jc _ _ _ _ (bX kk N) kk nH ((q8A.kp bG).to Bo.b) (q9A.kp (Kp.of (U:=UU) wk)) aa aa) (λnH rD wk w12 s12 p12 n12 c12 t12 y12 m12 d12 q12 wm nI _ FR=>wV rfl ?_)
  refine ab ?_
  refine VO.cond rfl fw (wV rfl ?_)
  refine VO.read rfl [.bool s9b,.slice p9b n9b c9b,.bool t9b,.slice y9b m9b d9b] rfl (nr (o:=off+z*16) hc 4 _ ⟨_,rfl⟩) (wV rfl ?_)
  refine VO.cR rfl rfl (fk Tryz.func122) (λuT uU wq=>jc _ _ _ _ (bX kk N) kk uT ((q8B.kp bG).to Bo.s) (q9B.kp (Kp.of (U:=UU) wq)) aa aa) (λuT uU wq w14 s14 p14 n14 c14 t14 y14 m14 d14 q14 hb14 CU _ bb14=>wV rfl ?_)
  refine ab ?_
  refine VO.cond rfl fw (wV rfl ?_)
  refine VO.read rfl [.bool s9c,.slice p9c n9c c9c,.bool t9c,.slice y9c m9c d9c] rfl (nr (o:=off+z*16) hc 8 _ ⟨_,rfl⟩) (wV rfl ?_)
  refine VO.cR rfl rfl (fk Tryz.func122) (λwa16 ka16 ba16=>jc _ _ _ _ (bX kk N) kk wa16 ((q8C.kp bG).to Bo.d) (q9C.kp (Kp.of (U:=UU) ba16)) aa aa) (λwa16 ka16 ba16 w16 s16 p16 n16 c16 t16 y16 m16 d16 q16 hb16 kb16 _ bb16=>wV rfl ?_)
  refine ab ?_
  refine VO.cond rfl fw (wV rfl ?_)
  refine VO.read rfl [.bool s9d,.slice p9d n9d c9d,.bool t9d,.slice y9d m9d d9d] rfl (nr (o:=off+z*16) hc 12 _ ⟨_,rfl⟩) (wV rfl ?_)
  refine VO.cR rfl rfl (fk Tryz.func122) (λwa18 ka18 ba18=>jc _ _ _ _ (bX kk N) kk wa18 ((q8D.kp bG).to Bo.i) (q9D.kp (Kp.of (U:=UU) ba18)) aa aa) (λwa18 ka18 ba18 w18 s18 p18 n18 c18 t18 y18 m18 d18 q18 hb18 kb18 _ bb18=>wV rfl ?_)
  refine ab ?_
  refine VS.back (N-(z+1)) aa ⟨_,_,?_,?_,?_,?_,⟨z+1,[.bool s12,.slice p12 n12 c12,.bool t12,.slice y12 m12 d12,.bool s14,.slice p14 n14 c14,.bool t14,.slice y14 m14 d14,.bool s16,.slice p16 n16 c16,.bool t16,.slice y16 m16 d16,.bool s18,.slice p18 n18 c18,.bool t18,.slice y18 m18 d18],by omega,rfl,rfl,rfl,(cT.mk (q12.kp bG).rd (q14.kp bG).rd (q16.kp bG).rd (q18.kp bG).rd).cast (xy hx).symm⟩⟩
  ·refine⟨rfl,rfl,rfl,?_,trivial⟩
   rw[<-bD aa];rfl
  ·exact dX
  ·rfl
  ·exact ll
 ·refine VS.bB rfl (decide_eq_false (λe=>hlt (Int.ofNat_lt.1 e))) ?_
  obtain rfl:z=N:=by omega
  refine ab ?_
  refine az ?_;intro wz kz bz
  exact⟨_,rfl,(Kk.kp kz).cast (by rw[List.take_of_length_le aa]),bz⟩
end
end Go.Proofs.YtlfdmhfhkgpmbaaGreat
