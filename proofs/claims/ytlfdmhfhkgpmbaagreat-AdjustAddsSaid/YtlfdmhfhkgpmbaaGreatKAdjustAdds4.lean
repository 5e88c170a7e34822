/-Ek of the proof,laid behind one another. -/
import Derived.Test.YtlfdmhfhkgpmbaaGreatKAdjustAdds3
set_option linter.all false
set_option maxHeartbeats 64000000
set_option maxRecDepth 4000
namespace Go.Proofs.YtlfdmhfhkgpmbaaGreat
section
open Go.RowKit
attribute [local irreducible] ak VS
theorem gj {w:World} {b off k:Nat} {u:Value} {z:Int} (hz:z=(k:Int)) (h:w.cell? ⟨b,off+k,none⟩=some u):∀ j v,[u][j]? =some v->w.cell? ((⟨b,off+z.toNat*1,none⟩:Addr).add j)=some v:=by
 subst hz
 intro j v hj
 rw[Addr.add_mid,Int.toNat_natCast,Nat.mul_one]
 cases j with
 | zero=>cases hj;exact h
 | succ j=>cases hj
theorem GD {i k:Nat} {os xs ys:List Nat} {x:Nat} (hx:xs[i]? =some x) (hk:ys.length<=k) (h:hval os+65536^(i+k)*0=hval (xs.take i)*hval ys+65536^i*(x*hval (ys.take k))):hval os=hval (xs.take (i+1))*hval ys:=by
 have e:hval (xs.take (i+1))=hval (xs.take i)+65536^i*x:=by
  rw[bb hx,iW,List.length_take,Nat.min_eq_left (by have:=(List.getElem?_eq_some_iff.1 hx).1;omega)]
 rw[Nat.mul_zero,Nat.add_zero,List.take_of_length_le hk] at h
 rw[e,Nat.add_mul,h,Nat.mul_assoc]
theorem Dq {i k n m c:Nat} {os xs ys:List Nat} {x:Nat} (hxh:eW xs) (hyh:eW ys) (hx:xs[i]? =some x) (hn:xs.length=n) (hm:ys.length=m) (hk:m<=k) (hc:0<c) (h:hval os+65536^(i+k)*c=hval (xs.take i)*hval ys+65536^i*(x*hval (ys.take k))):i+k<n+m+1:=by
 have hi:=(List.getElem?_eq_some_iff.1 hx).1
 have e:hval (xs.take (i+1))=hval (xs.take i)+65536^i*x:=by
  rw[bb hx,iW,List.length_take,Nat.min_eq_left aa]
 have e3:ys.take k=ys:=List.take_of_length_le aa
 have e2:hval os+65536^(i+k)*c=hval (xs.take (i+1))*hval ys:=by
  rw[e,Nat.add_mul,h,e3,Nat.mul_assoc]
 have b1:hval (xs.take (i+1))<65536^(i+1):=by
  have:=qi (xs:=xs.take (i+1)) (dp.take hxh _)
  rwa [List.length_take,Nat.min_eq_left aa] at this
 have b2:hval ys<65536^m:=by have:=qi hyh;rwa [hm] at this
 have b3:hval (xs.take (i+1))*hval ys<65536^(i+1+m):=by
  rw[Nat.pow_add];exact Nat.mul_lt_mul'' b1 b2
 have b4:65536^(i+k)<=65536^(i+k)*c:=Nat.le_mul_of_pos_right _ hc
 have:65536^(i+k)<65536^(i+1+m):=by omega
 have:=(Nat.pow_lt_pow_iff_right (show 1<65536 by omega)).1 this
 omega
theorem Dr {x y o c:Nat} (hx:x<65536) (hy:y<65536) (ho:o<65536) (hc:c<65536):x*y+o+c<4294967296:=by
 have h1:x*y<=65535*65535:=Nat.mul_le_mul aa aa
 omega
theorem dw {P:Prop} (h:P:=by (repeat first|exact trivial|refine⟨rfl,?_⟩)):P:=h
theorem eP {A B:Prop} (h:A/\B:=by constructor <;> omega):A/\B:=h
theorem Bd (va vb:Value) (n m:Nat) (xs ys:List Nat) (w:World) (hr:Rd w 1 va n (ints .i64 xs)) (hs:Rd w 1 vb m (ints .i64 ys)) (hx:eW xs) (hy:eW ys) (hn:n<=2147483656) (hm:m<=2147483656):
  Calls Tryz.prog 190 #[va,vb] w λe w'=>∃ v',e=.returned v'/\dW w' w.heap.size v' (halves (hval xs*hval ys)).length (halves (hval xs*hval ys))/\au w w':=by
 obtain⟨p,c,rfl,dK,eE,dT⟩:=hr.i64
 obtain⟨q,d,rfl,FH,Ci,iR⟩:=hs.i64
 obtain⟨N,hN⟩:∃ N,N=n+m+1:=⟨_,rfl⟩
 have hwN:IntKind.i64.wrap (IntKind.i64.wrap ((n:Int)+(m:Int))+1)=(N:Int):=by
  rw[IntWalk.i64_in ((n:Int)+(m:Int)) aa,IntWalk.i64_in _ aa];omega
 refine ae (C:=aV Tryz.prog w _) (args:=[_,_]) Tryz.func190 rfl Tryz.ntmps190 (bD rfl) ?_
 refine ab ?_
 refine VO.fix 15 rfl (congrArg (λz=>AV.val (.int .i64 z)) hwN) ?_
 refine VO.cond rfl ⟨rfl,by omega,by show (N:Int)*(24*1)<=_;omega⟩ (VO.sX 16 rfl (vf _) (wV rfl ?_))
 rw[Int.toNat_natCast]
 refine ab ?_
 refine VS.loop (J:=λms L M w'=>∃ (i:Nat) (os:List Nat),i<=n/\ms=n-i/\L=[(0,.val (.slice p n c)),(1,.val (.slice q m d)),(5,.row 16 0 N N),(6,.val (.int .i64 (i:Int)))]/\M=[(16,(3,iv os))]/\
  os.length=N/\eW os/\hval os=hval (xs.take i)*hval ys) n ⟨_,_,?_,?_,?_,?_,⟨0,List.replicate N 0,by omega,by omega,rfl,rfl,by simp,dp.replicate aa _,by rw[List.take_zero];show val 65536 _=val 65536 []*_;rw[fy,val_nil,Nat.zero_mul]⟩⟩ ?_
 ·exact dw
 ·exact dw
 ·rfl
 ·exact⟨.none (ba _),trivial⟩
 rintro ms L M w' ⟨i,os,hi,rfl,rfl,rfl,hol,hoh,hov⟩
 refine ab ?_
 by_cases lh:i<n
 ·refine VS.aY rfl (decide_eq_true (Int.ofNat_lt.2 lh)) ?_
  refine ab ?_
  obtain⟨b1,o1,x,rfl,aB,ew,kD⟩:=hr.cellAt lh
  have jz:=hx.at ew
  refine VS.loop (J:=λms L M w'=>∃ (k c':Nat) (os':List Nat),ms=N-(i+k)/\L=[(0,.val (.slice (some ⟨b1,o1,none⟩) n c)),(1,.val (.slice q m d)),(5,.row 16 0 N N),(6,.val (.int .i64 (i:Int))),(7,.val (.int .i64 (c':Int))),(8,.val (.int .i64 (k:Int)))]/\M=[(16,(3,iv os'))]/\
   os'.length=N/\eW os'/\c' <65536/\k<=N/\hval os' +65536^(i+k)*c'=hval (xs.take i)*hval ys+65536^i*(x*hval (ys.take k))) (N-i) ⟨_,_,?_,?_,?_,?_,⟨0,0,os,by omega,rfl,rfl,hol,hoh,by omega,by omega,by rw[List.take_zero,Nat.mul_zero,hov];show _=_+65536^i*(x*0);simp⟩⟩ ?_
  ·exact dw
  ·exact dw
  ·rfl
  ·exact⟨.none (ba _),trivial⟩
  rintro ms L M w'' ⟨k,c',os',rfl,rfl,rfl,hol',hoh',hc',hkN,hv⟩
  refine ab ?_
  have step:∀ (hik:i+k<N),True:=λ_=>trivial
  by_cases hgo:k<m\/0<c'
  ·have hik:i+k<N:=by
    rcases Nat.lt_or_ge k m with e|e
    ·omega
    ·rw[hN];exact Dq hx hy ew dT iR e aa hv
   obtain⟨o,ho⟩:∃ o,os'[i+k]? =some o:=⟨_,List.getElem?_eq_getElem aa⟩
   have ho4:=hoh'.at ho
   have FO:IntKind.i64.wrap ((i:Int)+(k:Int))=((i+k:Nat):Int):=by rw[IntWalk.i64_in _ aa];omega
   have hwk1:IntKind.i64.wrap ((k:Int)+1)=((k+1:Nat):Int):=by rw[IntWalk.i64_in _ aa];omega
   have hwoc:IntKind.i64.wrap ((o:Int)+(c':Int))=((o+c':Nat):Int):=by rw[IntWalk.i64_in _ aa];omega
   by_cases Cu:k<m
   ·obtain⟨b2,o2,y,rfl,aQ,mg,zx⟩:=hs.cellAt Cu
    have wT:=hy.at mg
    have pY:=Dr jz wT ho4 hc'
    obtain⟨s,hsd⟩:∃ s,s=x*y+o+c':=⟨_,rfl⟩
    have Cj:(x:Int)*(y:Int)=((x*y:Nat):Int):=by simp
    have hws:IntKind.i64.wrap (IntKind.i64.wrap ((o:Int)+(c':Int))+IntKind.i64.wrap ((x:Int)*(y:Int)))=(s:Int):=by
     rw[hwoc,Cj,IntWalk.i64_in ((x*y:Nat):Int) aa,IntWalk.i64_in _ aa];omega
    have hst:=qk ho hsd hv
    have hyt:hval (ys.take (k+1))=hval (ys.take k)+65536^k*y:=by
     rw[bb mg,iW,List.length_take,Nat.min_eq_left (by have:=(List.getElem?_eq_some_iff.1 mg).1;omega)]
    rw[<-hyt] at hst
    have hwc:IntKind.i64.wrap ((s:Int).tdiv 65536)=((s/65536:Nat):Int):=by
     rw[Int.tdiv_eq_ediv_of_nonneg aa,IntWalk.i64_in _ aa];simp
    have hwm:(s:Int).tmod 65536=((s%65536:Nat):Int):=by rw[Int.tmod_eq_emod_of_nonneg aa];simp
    refine VO.fix 27 rfl (congrArg (λb=>AV.val (.bool b)) (decide_eq_true (Int.ofNat_lt.2 Cu))) ?_
    refine ab ?_
    refine VO.fix 36 rfl (congrArg (λz=>AV.val (.int .i64 z)) FO) ?_
    refine VO.cond rfl eP (wV rfl ?_)
    refine VO.iI rfl [.val (.int .i64 (o:Int))] rfl (ql ho (by rw[Int.toNat_natCast];omega)) (wV rfl ?_)
    refine ab ?_
    refine VS.aY rfl (decide_eq_true (Int.ofNat_lt.2 Cu)) ?_
    refine ab ?_
    refine VO.cond rfl eP (wV rfl ?_)
    refine VO.read rfl [.int .i64 (x:Int)] rfl (gj rfl kD) (wV rfl ?_)
    refine VO.cond rfl eP (wV rfl ?_)
    refine VO.read rfl [.int .i64 (y:Int)] rfl (gj rfl zx) (wV rfl ?_)
    refine ab ?_
    refine VO.fix 59 rfl (congrArg (λz=>AV.val (.int .i64 z)) FO) ?_
    refine VO.fix 61 rfl (congrArg (λz=>AV.val (.int .i64 z)) (by rw[hws,hwm])) ?_
    refine VO.cond rfl eP (wV rfl ?_)
    refine VO.cond rfl (by show 0+((i+k:Nat):Int).toNat*1+1<=_;rw[Int.toNat_natCast,bF];omega) (wV rfl ?_)
    refine ab ?_
    refine VS.back (N-(i+(k+1))) aa ⟨_,_,?_,?_,?_,?_,⟨k+1,s/65536,os'.set (i+k) (s%65536),rfl,rfl,rfl,by simp[hol'],hoh'.set (Nat.mod_lt _ aa) _,by omega,by omega,hst⟩⟩
    ·refine⟨rfl,rfl,rfl,rfl,congrArg (λz=>some (AV.val (.int .i64 z))) (by rw[hws,hwc]),congrArg (λz=>some (AV.val (.int .i64 z))) hwk1,trivial⟩
    ·exact⟨congrArg (λl=>some (_,l)) (tT aa (by rw[Int.toNat_natCast];omega)),trivial⟩
    ·rfl
    ·exact⟨.none (ba _),trivial⟩
   ·have hc0:0<c':=by omega
    obtain⟨s,hsd⟩:∃ s,s=x*0+o+c':=⟨_,rfl⟩
    have hws:IntKind.i64.wrap ((o:Int)+(c':Int))=(s:Int):=by rw[hwoc];omega
    have hst:=qk ho hsd hv
    have hyt:hval (ys.take k)+65536^k*0=hval (ys.take (k+1)):=by rw[List.take_of_length_le aa,List.take_of_length_le aa];rfl
    rw[hyt] at hst
    have hwc:IntKind.i64.wrap ((s:Int).tdiv 65536)=((s/65536:Nat):Int):=by
     rw[Int.tdiv_eq_ediv_of_nonneg aa,IntWalk.i64_in _ aa];simp
    have hwm:(s:Int).tmod 65536=((s%65536:Nat):Int):=by rw[Int.tmod_eq_emod_of_nonneg aa];simp
    refine VO.fix 27 rfl (congrArg (λb=>AV.val (.bool b)) (decide_eq_false (λe=>Cu (Int.ofNat_lt.1 e)))) ?_
    refine ab ?_
    refine VS.aY rfl (decide_eq_true aa) ?_
    refine ab ?_
    refine VO.fix 36 rfl (congrArg (λz=>AV.val (.int .i64 z)) FO) ?_
    refine VO.cond rfl eP (wV rfl ?_)
    refine VO.iI rfl [.val (.int .i64 (o:Int))] rfl (ql ho (by rw[Int.toNat_natCast];omega)) (wV rfl ?_)
    refine ab ?_
    refine VS.bk rfl (decide_eq_false (λe=>Cu (Int.ofNat_lt.1 e))) ?_
    refine ab ?_
    refine VO.fix 59 rfl (congrArg (λz=>AV.val (.int .i64 z)) FO) ?_
    refine VO.fix 61 rfl (congrArg (λz=>AV.val (.int .i64 z)) (by rw[hws,hwm])) ?_
    refine VO.cond rfl eP (wV rfl ?_)
    refine VO.cond rfl (by show 0+((i+k:Nat):Int).toNat*1+1<=_;rw[Int.toNat_natCast,bF];omega) (wV rfl ?_)
    refine ab ?_
    refine VS.back (N-(i+(k+1))) aa ⟨_,_,?_,?_,?_,?_,⟨k+1,s/65536,os'.set (i+k) (s%65536),rfl,rfl,rfl,by simp[hol'],hoh'.set (Nat.mod_lt _ aa) _,by omega,by omega,hst⟩⟩
    ·refine⟨rfl,rfl,rfl,rfl,congrArg (λz=>some (AV.val (.int .i64 z))) (by rw[hws,hwc]),congrArg (λz=>some (AV.val (.int .i64 z))) hwk1,trivial⟩
    ·exact⟨congrArg (λl=>some (_,l)) (tT aa (by rw[Int.toNat_natCast];omega)),trivial⟩
    ·rfl
    ·exact⟨.none (ba _),trivial⟩
  ·have Cu:¬ (k<m):=by omega
   have hc0:c'=0:=by omega
   subst hc0
   refine VO.fix 27 rfl (congrArg (λb=>AV.val (.bool b)) (decide_eq_false (λe=>Cu (Int.ofNat_lt.1 e)))) ?_
   refine ab ?_
   have wA:IntKind.i64.wrap ((i:Int)+1)=((i+1:Nat):Int):=by rw[IntWalk.i64_in _ aa];omega
   refine VS.back (n-(i+1)) aa ⟨_,_,?_,?_,?_,?_,⟨i+1,os',by omega,rfl,rfl,rfl,hol',hoh',GD ew aa hv⟩⟩
   ·exact⟨rfl,rfl,rfl,congrArg (λz=>some (AV.val (.int .i64 z))) wA,trivial⟩
   ·exact dw
   ·rfl
   ·exact⟨.none (ba _),trivial⟩
 ·obtain rfl:i=n:=by omega
  refine VS.bk rfl (decide_eq_false (λe=>lh (Int.ofNat_lt.1 e))) ?_
  refine ab ?_
  rw[List.take_of_length_le aa] at hov
  refine VO.xy rfl (fk Tryz.func220) (λw1 β k1 b1 ho=>(fI (some ⟨β 16,0,none⟩) N N os w1 (jN (spare:=[]) (by rw[List.append_nil];exact ho.own 16 (.base (List.mem_singleton.2 rfl)) _ _ rfl) hol (Nat.le_refl _) (by simp only[maxLen];omega)) hoh).mono ?_)
  rintro e w2 ⟨⟨mm,xd,rfl,hcut⟩,rfl⟩
  refine⟨.row 16 0 mm N,rfl,λi hi=>⟨hi,by cases List.mem_singleton.1 hi;exact Option.some_ne_none _⟩,au.refl _,λk2 _ b2=>wV rfl ?_⟩
  refine ab ?_
  refine VS.oP (cQ _ _) rfl (λwz β kz bz he=> ?_)
  have qM:=tU hcut xd hol
  rw[hov] at hcut qM
  refine⟨_,rfl,?_,bz⟩
  have:=nb (spare:=[]) (by rw[List.append_nil];exact he.own 16 _ _ rfl) hol xd (Nat.le_refl _) (by simp only[maxLen];omega) (by simpa using hol)
  rw[<-hcut] at this
  show dW wz w.heap.size (.slice (some ⟨β 16,0,none⟩) mm N) _ _
  rw[<-qM]
  exact this
set_option maxRecDepth 4000
theorem oq {A B:Nat} (h:(halves A).length<(halves B).length):A<B:=by
 rcases Nat.lt_or_ge A B with e|e
 ·exact e
 ·have:(halves B).length<=(halves A).length:=cN aa e
  omega
theorem ot {A B k a b:Nat} (ha:(halves A)[k]? =some a) (hb:(halves B)[k]? =some b) (tf:a<b) (hh:(halves A).drop (k+1)=(halves B).drop (k+1)):A<B:=by
 have:=jd (B:=65536) (bt A) ha hb tf hh
 have e1:val 65536 (halves A)=A:=aO A
 have e2:val 65536 (halves B)=B:=aO B
 omega
theorem GF {xs ys:List Nat} {k x:Nat} (hx:xs[k]? =some x) (hy:ys[k]? =some x) (h:xs.drop (k+1)=ys.drop (k+1)):xs.drop k=ys.drop k:=by
 obtain⟨l1,e1⟩:=List.getElem?_eq_some_iff.1 hx
 obtain⟨l2,e2⟩:=List.getElem?_eq_some_iff.1 hy
 rw[List.drop_eq_getElem_cons l1,List.drop_eq_getElem_cons l2,e1,e2,h]
theorem Ds (va vb:Value) (n m A B:Nat) (w:World) (hr:Rd w 1 va n (ints .i64 (halves A))) (hs:Rd w 1 vb m (ints .i64 (halves B))):
  Calls Tryz.prog 237 #[va,vb] w λe w'=>e=.returned (.bool (decide (A<B)))/\au w w':=by
 obtain⟨p,c,rfl,dK,eE,dT⟩:=hr.i64
 obtain⟨q,d,rfl,FH,Ci,iR⟩:=hs.i64
 refine ae (C:=aV Tryz.prog w _) (args:=[_,_]) Tryz.func237 rfl Tryz.ntmps237 (bD rfl) ?_
 refine ab ?_
 by_cases hnm:n=m
 ·subst hnm
  refine VS.bk rfl cS ?_
  refine ab ?_
  have hw0:IntKind.i64.wrap ((n:Int)-1)=(n:Int)-1:=IntWalk.i64_in _ aa
  refine VS.loop (J:=λms L M w'=>∃ (k:Nat),k<=n/\ms=k/\L=[(0,.val (.slice p n c)),(1,.val (.slice q n d)),(5,.val (.int .i64 ((k:Int)-1)))]/\M=[]/\(halves A).drop k=(halves B).drop k) n ⟨_,_,?_,?_,?_,?_,⟨n,Nat.le_refl _,rfl,rfl,rfl,by rw[List.drop_of_length_le aa,List.drop_of_length_le aa]⟩⟩ ?_
  ·exact⟨rfl,rfl,congrArg (λz=>some (AV.val (.int .i64 z))) hw0,trivial⟩
  ·exact dw
  ·rfl
  ·exact trivial
  rintro ms L M w' ⟨k,hk,hms,rfl,rfl,hd⟩
  refine ab ?_
  by_cases Ic:k=0
  ·subst Ic
   refine VS.bk rfl (decide_eq_false aa) ?_
   refine ab ?_
   refine az ?_;intro wz kz bz
   have:A=B:=Dh (by simpa using hd)
   exact⟨by rw[this,decide_eq_false (Nat.lt_irrefl _)];rfl,bz⟩
  ·obtain⟨j,rfl⟩:∃ j,k=j+1:=⟨k-1,by omega⟩
   have hj:((j+1:Nat):Int)-1=(j:Int):=by omega
   refine VS.aY rfl (decide_eq_true aa) ?_
   refine VS.fix 5 rfl (congrArg (λz=>AV.val (.int .i64 z)) hj) ?_
   refine ab ?_
   obtain⟨b1,o1,x,rfl,aB,ew,kD⟩:=hr.cellAt (show j<n by omega)
   obtain⟨b2,o2,y,rfl,aQ,mg,zx⟩:=hs.cellAt (show j<n by omega)
   refine VO.cond rfl eP (wV rfl ?_)
   refine VO.read rfl [.int .i64 (x:Int)] rfl (gj rfl kD) (wV rfl ?_)
   refine VO.cond rfl eP (wV rfl ?_)
   refine VO.read rfl [.int .i64 (y:Int)] rfl (gj rfl zx) (wV rfl ?_)
   refine ab ?_
   by_cases Cj:x=y
   ·subst Cj
    refine VS.bk rfl cS ?_
    refine ab ?_
    have vT:IntKind.i64.wrap ((j:Int)-1)=(j:Int)-1:=IntWalk.i64_in _ aa
    refine VS.back j aa ⟨_,_,?_,?_,?_,?_,⟨j,by omega,rfl,rfl,rfl,GF ew mg hd⟩⟩
    ·exact⟨rfl,rfl,congrArg (λz=>some (AV.val (.int .i64 z))) vT,trivial⟩
    ·exact dw
    ·rfl
    ·exact trivial
   ·refine VS.aY rfl (by rw[bne_iff_ne];omega) ?_
    refine ab ?_
    refine VO.cond rfl eP (wV rfl ?_)
    refine VO.read rfl [.int .i64 (x:Int)] rfl (gj rfl kD) (wV rfl ?_)
    refine VO.cond rfl eP (wV rfl ?_)
    refine VO.read rfl [.int .i64 (y:Int)] rfl (gj rfl zx) (wV rfl ?_)
    refine ab ?_
    refine az ?_;intro wz kz bz
    refine⟨?_,bz⟩
    rcases Nat.lt_or_gt_of_ne Cj with e|e
    ·rw[decide_eq_true (ot ew mg e hd)]
     exact congrArg (λb=>Ending.returned (.bool b)) (decide_eq_true (Int.ofNat_lt.2 e))
    ·have:=ot mg ew e hd.symm
     have hAB:decide (A<B)=false:=decide_eq_false aa
     rw[hAB]
     exact congrArg (λb=>Ending.returned (.bool b)) (decide_eq_false aa)
 ·refine VS.aY rfl (by rw[bne_iff_ne];omega) ?_
  refine ab ?_
  refine az ?_;intro wz kz bz
  refine⟨?_,bz⟩
  rcases Nat.lt_or_gt_of_ne hnm with e|e
  ·rw[decide_eq_true (oq aa)]
   exact congrArg (λb=>Ending.returned (.bool b)) (decide_eq_true (Int.ofNat_lt.2 e))
  ·have:=oq (A:=B) (B:=A) aa
   have hAB:decide (A<B)=false:=decide_eq_false aa
   rw[hAB]
   exact congrArg (λb=>Ending.returned (.bool b)) (decide_eq_false aa)
theorem GG {ds us bs:List Nat} {i t br a b d mv:Nat} (hl:ds.length=i) (ha:us.getD i 0=a) (hb:bs.getD i 0=b) (hs:d+(t*b+br)=a+65536*mv)
  (h:hval ds+t*hval (bs.take i)=hval (us.take i)+65536^i*br):hval (ds++[d])+t*hval (bs.take (i+1))=hval (us.take (i+1))+65536^(i+1)*mv:=by
 have e1:hval (us.take (i+1))=hval (us.take i)+65536^i*a:=by rw[<-ha];exact bu _ _ _
 have e2:hval (bs.take (i+1))=hval (bs.take i)+65536^i*b:=by rw[<-hb];exact bu _ _ _
 have e3:65536^i*d+(65536^i*(t*b)+65536^i*br)=65536^i*a+65536^i*(65536*mv):=by rw[<-Nat.mul_add,<-Nat.mul_add,hs,Nat.mul_add]
 have e4:t*(65536^i*b)=65536^i*(t*b):=Nat.mul_left_comm _ _ _
 rw[iW,hl,e1,e2,Nat.mul_add t,e4,Nat.pow_succ,Nat.mul_assoc]
 omega
theorem Kf {ds us bs:List Nat} {n t br:Nat} (hh:eW ds) (hl:ds.length=n) (ha:us.length=n) (hle:t*hval bs<=hval us) (hb:t=0\/bs.length<=n)
  (h:hval ds+t*hval (bs.take n)=hval (us.take n)+65536^n*br):hval ds=hval us-t*hval bs:=by
 have e1:us.take n=us:=List.take_of_length_le aa
 have e2:t*hval (bs.take n)=t*hval bs:=by
  rcases hb with e|e
  ·rw[e,Nat.zero_mul,Nat.zero_mul]
  ·rw[List.take_of_length_le e]
 rw[e1,e2] at h
 have hlt:=qi hh
 rw[hl] at hlt
 have:br=0:=by
  rcases Nat.eq_zero_or_pos br with e|e
  ·exact e
  ·have:=Nat.le_mul_of_pos_right (65536^n) e
   omega
 rw[this,Nat.mul_zero] at h
 omega
def RowAt (d:Nat) (xs:List Nat) (v:AV) (M:List (Nat×(TypeId×List AV))):Prop:=
 (xs=[]/\v=.val (.slice none 0 0)/\M=[])\/∃ cap spare,v=.row d 0 xs.length cap/\M=[(d,(3,iv xs++spare))]/\xs.length<=cap/\cap<=9223372036854775807/\xs.length+spare.length=cap/\spare.all aC=true/\aE spare=[]
theorem vg (va vb:Value) (n m t A B:Nat) (w:World) (hr:Rd w 1 va n (ints .i64 (halves A))) (hs:Rd w 1 vb m (ints .i64 (halves B))) (ht:t<65536) (hle:t*B<=A) (hn:n<=2147483656):
  Calls Tryz.prog 228 #[va,vb,.int .i64 (t:Int)] w λe w'=>∃ v',e=.returned v'/\dW w' w.heap.size v' (halves (A-t*B)).length (halves (A-t*B))/\au w w':=by
 obtain⟨p,c,rfl,dK,eE,dT⟩:=hr.i64
 obtain⟨q,d,rfl,FH,Ci,iR⟩:=hs.i64
 refine ae (C:=aV Tryz.prog w _) (args:=[_,_,_]) Tryz.func228 rfl Tryz.ntmps228 (bD rfl) ?_
 refine ab ?_
 refine VS.loop (J:=λms L M w'=>∃ (i br:Nat) (ds:List Nat) (v:AV),i<=n/\ms=n-i/\L=[(0,.val (.slice p n c)),(1,.val (.slice q m d)),(2,.val (.int .i64 (t:Int))),(7,v),(8,.val (.int .i64 (br:Int))),(9,.val (.int .i64 (i:Int)))]/\
  RowAt 47 ds v M/\ds.length=i/\eW ds/\br<=t/\hval ds+t*hval ((halves B).take i)=hval ((halves A).take i)+65536^i*br) n ⟨_,_,?_,?_,?_,?_,⟨0,0,[],.val (.slice none 0 0),by omega,by omega,rfl,.inl ⟨rfl,rfl,rfl⟩,rfl,dp.nil _,by omega,by simp[hval,val]⟩⟩ ?_
 ·exact dw
 ·exact dw
 ·rfl
 ·exact trivial
 rintro ms L M w' ⟨i,br,ds,v,hi,rfl,rfl,gN,sT,hdh,hbr,hv⟩
 by_cases lh:i<n
 ·obtain⟨b1,o1,x,rfl,aB,ew,kD⟩:=hr.cellAt lh
  have jz:=(bt A).at ew
  have hxg:(halves A).getD i 0=x:=by rw[List.getD_eq_getElem?_getD,ew];rfl
  obtain⟨y,hyg⟩:∃ y,(halves B).getD i 0=y:=⟨_,rfl⟩
  have wT:y<65536:=hyg▸iX (bt B) i
  have hty:t*y<=65535*65535:=Nat.mul_le_mul aa aa
  obtain⟨X,hX⟩:∃ X:Int,X=(x:Int)-br-(t*y:Nat):=⟨_,rfl⟩
  obtain⟨mv,lS⟩:∃ mv:Nat,(mv:Int)=(if X<0 then (65535-X)/65536 else 0)/\mv<=t:=by
   by_cases h0:X<0
   ·refine⟨((65535-X)/65536).toNat,by rw[if_pos h0];omega,?_⟩
    have:t*y<=t*65535:=Nat.mul_le_mul_left _ aa
    omega
   ·exact⟨0,by rw[if_neg h0];rfl,by omega⟩
  obtain⟨dg,Ik⟩:∃ dg:Nat,(dg:Int)=X+65536*mv/\dg<65536:=by
   refine⟨(X+65536*mv).toNat,?_,?_⟩
   ·by_cases h0:X<0
    ·rw[if_pos h0] at lS;omega
    ·omega
   ·by_cases h0:X<0
    ·rw[if_pos h0] at lS;omega
    ·rw[if_neg h0] at lS;omega
  have hsum:dg+(t*y+br)=x+65536*mv:=by omega
  have hst:=GG sT hxg hyg hsum hv
  have vT:IntKind.i64.wrap ((x:Int)-(br:Int))=(x:Int)-br:=IntWalk.i64_in _ aa
  have wA:IntKind.i64.wrap ((i:Int)+1)=((i+1:Nat):Int):=by rw[IntWalk.i64_in _ aa];omega
  have sU:t*y<=t*65535:=Nat.mul_le_mul_left _ aa
  rcases gN with ⟨rfl,rfl,rfl⟩|⟨cap,spare,rfl,rfl,h1,h2,h3,h4,h5⟩
  all_goals refine ab ?_
  ·by_cases him:i<m
   ·obtain⟨b2,o2,y',rfl,aQ,mg,zx⟩:=hs.cellAt him
    obtain rfl:y'=y:=by rw[List.getD_eq_getElem?_getD,mg] at hyg;exact hyg
    have hwX:IntKind.i64.wrap (IntKind.i64.wrap ((x:Int)-(br:Int))-IntKind.i64.wrap ((t:Int)*(y':Int)))=X:=by
     rw[vT,show (t:Int)*(y':Int)=((t*y':Nat):Int) by simp,IntWalk.i64_in ((t*y':Nat):Int) aa,IntWalk.i64_in _ aa];omega
    refine VS.aY rfl (decide_eq_true (Int.ofNat_lt.2 lh)) ?_
    refine ab ?_
    refine VO.cond rfl eP (wV rfl ?_)
    refine VO.read rfl [.int .i64 (x:Int)] rfl (gj rfl kD) (wV rfl ?_)
    refine ab ?_
    refine VS.aY rfl (decide_eq_true (Int.ofNat_lt.2 him)) ?_
    refine ab ?_
    refine VO.cond rfl eP (wV rfl ?_)
    refine VO.read rfl [.int .i64 (y':Int)] rfl (gj rfl zx) (wV rfl ?_)
    refine VO.fix 10 rfl (congrArg (λz=>AV.val (.int .i64 z)) hwX) ?_
    refine ab ?_
    by_cases h0:X<0
    ·rw[if_pos h0] at lS
     have Kg:IntKind.i64.wrap ((IntKind.i64.wrap (65535-X)).tdiv 65536)=(mv:Int):=by
      rw[IntWalk.i64_in (65535-X) aa,Int.tdiv_eq_ediv_of_nonneg aa,IntWalk.i64_in _ aa,lS.1]
     have hwd:IntKind.i64.wrap (X+IntKind.i64.wrap (65536*(mv:Int)))=(dg:Int):=by
      rw[IntWalk.i64_in (65536*(mv:Int)) aa,IntWalk.i64_in _ aa,Ik.1]
     refine VS.aY rfl (decide_eq_true h0) ?_
     refine ab ?_
     ·refine VO.sX 46 rfl (congrArg (λz=>[AV.val (.int .i64 z)]) (show _=(dg:Int) by rw[Kg,hwd])) ?_
      refine VO.app (cQ _ _) (t:=272) (e:=3) (sz:=1) (n:=0) (c:=0) (mm:=1) (known:=[]) (spare:=[]) (news:=iv [dg]) (dst:=47) (del:=none) rfl rfl rfl rfl rfl rfl rfl rfl (bD rfl) rfl (.inl ⟨rfl,rfl,rfl,rfl,rfl,rfl,by omega⟩) (.inl rfl) rfl rfl aa aa ⟨rfl,rfl,ba _⟩ ⟨rfl,rfl,kP _⟩ rfl aa
       (λw1 β k1 b1 ho=>⟨_,_,rfl,.inr ⟨β 46,0,rfl,eX (rest:=[]) (ho.own 46 (.base (List.mem_append_right _ (List.mem_singleton.2 rfl))) _ _ rfl) rfl⟩⟩)
       (λw2 cap' aD ρ k2 b2 eM nR nV hlen iu fi=>wV rfl ?_)
      refine ab ?_
      refine VS.back (n-(i+1)) aa ⟨_,_,?_,?_,?_,?_,⟨i+1,mv,[dg],.row 47 0 ([dg]).length cap',by omega,rfl,rfl,.inr ⟨cap',aD,rfl,rfl,by simp;omega,nV,?_,iu,fi⟩,by simp at sT ⊢;omega,dp.cons Ik.2 (dp.nil _),lS.2,hst⟩⟩
      ·exact⟨rfl,rfl,rfl,rfl,congrArg (λz=>some (AV.val (.int .i64 z))) Kg,congrArg (λz=>some (AV.val (.int .i64 z))) wA,trivial⟩
      ·exact⟨rfl,trivial⟩
      ·rfl
      ·exact⟨.append (.none (ba _)) (.none fi),trivial⟩
      ·simpa [bF,Nat.add_assoc] using hlen
    ·rw[if_neg h0] at lS
     have lg:mv=0:=by omega
     subst lg
     refine VS.bk rfl (decide_eq_false h0) ?_
     refine ab ?_
     ·refine VO.sX 46 rfl (congrArg (λz=>[AV.val (.int .i64 z)]) (show X=(dg:Int) by omega)) ?_
      refine VO.app (cQ _ _) (t:=272) (e:=3) (sz:=1) (n:=0) (c:=0) (mm:=1) (known:=[]) (spare:=[]) (news:=iv [dg]) (dst:=47) (del:=none) rfl rfl rfl rfl rfl rfl rfl rfl (bD rfl) rfl (.inl ⟨rfl,rfl,rfl,rfl,rfl,rfl,by omega⟩) (.inl rfl) rfl rfl aa aa ⟨rfl,rfl,ba _⟩ ⟨rfl,rfl,kP _⟩ rfl aa
       (λw1 β k1 b1 ho=>⟨_,_,rfl,.inr ⟨β 46,0,rfl,eX (rest:=[]) (ho.own 46 (.base (List.mem_append_right _ (List.mem_singleton.2 rfl))) _ _ rfl) rfl⟩⟩)
       (λw2 cap' aD ρ k2 b2 eM nR nV hlen iu fi=>wV rfl ?_)
      refine ab ?_
      refine VS.back (n-(i+1)) aa ⟨_,_,?_,?_,?_,?_,⟨i+1,0,[dg],.row 47 0 ([dg]).length cap',by omega,rfl,rfl,.inr ⟨cap',aD,rfl,rfl,by simp;omega,nV,?_,iu,fi⟩,by simp at sT ⊢;omega,dp.cons Ik.2 (dp.nil _),Nat.zero_le _,hst⟩⟩
      ·exact⟨rfl,rfl,rfl,rfl,rfl,congrArg (λz=>some (AV.val (.int .i64 z))) wA,trivial⟩
      ·exact⟨rfl,trivial⟩
      ·rfl
      ·exact⟨.append (.none (ba _)) (.none fi),trivial⟩
      ·simpa [bF,Nat.add_assoc] using hlen
   ·have Fv:y=0:=by rw[fH aa] at hyg;omega
    have hwX:IntKind.i64.wrap ((x:Int)-(br:Int))=X:=by rw[vT,hX,Fv,Nat.mul_zero];omega
    refine VS.aY rfl (decide_eq_true (Int.ofNat_lt.2 lh)) ?_
    refine ab ?_
    refine VO.cond rfl eP (wV rfl ?_)
    refine VO.read rfl [.int .i64 (x:Int)] rfl (gj rfl kD) (wV rfl ?_)
    refine VO.fix 10 rfl (congrArg (λz=>AV.val (.int .i64 z)) hwX) ?_
    refine ab ?_
    refine VS.bk rfl (decide_eq_false (λe=>him (Int.ofNat_lt.1 e))) ?_
    refine ab ?_
    by_cases h0:X<0
    ·rw[if_pos h0] at lS
     have Kg:IntKind.i64.wrap ((IntKind.i64.wrap (65535-X)).tdiv 65536)=(mv:Int):=by
      rw[IntWalk.i64_in (65535-X) aa,Int.tdiv_eq_ediv_of_nonneg aa,IntWalk.i64_in _ aa,lS.1]
     have hwd:IntKind.i64.wrap (X+IntKind.i64.wrap (65536*(mv:Int)))=(dg:Int):=by
      rw[IntWalk.i64_in (65536*(mv:Int)) aa,IntWalk.i64_in _ aa,Ik.1]
     refine VS.aY rfl (decide_eq_true h0) ?_
     refine ab ?_
     ·refine VO.sX 46 rfl (congrArg (λz=>[AV.val (.int .i64 z)]) (show _=(dg:Int) by rw[Kg,hwd])) ?_
      refine VO.app (cQ _ _) (t:=272) (e:=3) (sz:=1) (n:=0) (c:=0) (mm:=1) (known:=[]) (spare:=[]) (news:=iv [dg]) (dst:=47) (del:=none) rfl rfl rfl rfl rfl rfl rfl rfl (bD rfl) rfl (.inl ⟨rfl,rfl,rfl,rfl,rfl,rfl,by omega⟩) (.inl rfl) rfl rfl aa aa ⟨rfl,rfl,ba _⟩ ⟨rfl,rfl,kP _⟩ rfl aa
       (λw1 β k1 b1 ho=>⟨_,_,rfl,.inr ⟨β 46,0,rfl,eX (rest:=[]) (ho.own 46 (.base (List.mem_append_right _ (List.mem_singleton.2 rfl))) _ _ rfl) rfl⟩⟩)
       (λw2 cap' aD ρ k2 b2 eM nR nV hlen iu fi=>wV rfl ?_)
      refine ab ?_
      refine VS.back (n-(i+1)) aa ⟨_,_,?_,?_,?_,?_,⟨i+1,mv,[dg],.row 47 0 ([dg]).length cap',by omega,rfl,rfl,.inr ⟨cap',aD,rfl,rfl,by simp;omega,nV,?_,iu,fi⟩,by simp at sT ⊢;omega,dp.cons Ik.2 (dp.nil _),lS.2,hst⟩⟩
      ·exact⟨rfl,rfl,rfl,rfl,congrArg (λz=>some (AV.val (.int .i64 z))) Kg,congrArg (λz=>some (AV.val (.int .i64 z))) wA,trivial⟩
      ·exact⟨rfl,trivial⟩
      ·rfl
      ·exact⟨.append (.none (ba _)) (.none fi),trivial⟩
      ·simpa [bF,Nat.add_assoc] using hlen
    ·rw[if_neg h0] at lS
     have lg:mv=0:=by omega
     subst lg
     refine VS.bk rfl (decide_eq_false h0) ?_
     refine ab ?_
     ·refine VO.sX 46 rfl (congrArg (λz=>[AV.val (.int .i64 z)]) (show X=(dg:Int) by omega)) ?_
      refine VO.app (cQ _ _) (t:=272) (e:=3) (sz:=1) (n:=0) (c:=0) (mm:=1) (known:=[]) (spare:=[]) (news:=iv [dg]) (dst:=47) (del:=none) rfl rfl rfl rfl rfl rfl rfl rfl (bD rfl) rfl (.inl ⟨rfl,rfl,rfl,rfl,rfl,rfl,by omega⟩) (.inl rfl) rfl rfl aa aa ⟨rfl,rfl,ba _⟩ ⟨rfl,rfl,kP _⟩ rfl aa
       (λw1 β k1 b1 ho=>⟨_,_,rfl,.inr ⟨β 46,0,rfl,eX (rest:=[]) (ho.own 46 (.base (List.mem_append_right _ (List.mem_singleton.2 rfl))) _ _ rfl) rfl⟩⟩)
       (λw2 cap' aD ρ k2 b2 eM nR nV hlen iu fi=>wV rfl ?_)
      refine ab ?_
      refine VS.back (n-(i+1)) aa ⟨_,_,?_,?_,?_,?_,⟨i+1,0,[dg],.row 47 0 ([dg]).length cap',by omega,rfl,rfl,.inr ⟨cap',aD,rfl,rfl,by simp;omega,nV,?_,iu,fi⟩,by simp at sT ⊢;omega,dp.cons Ik.2 (dp.nil _),Nat.zero_le _,hst⟩⟩
      ·exact⟨rfl,rfl,rfl,rfl,rfl,congrArg (λz=>some (AV.val (.int .i64 z))) wA,trivial⟩
      ·exact⟨rfl,trivial⟩
      ·rfl
      ·exact⟨.append (.none (ba _)) (.none fi),trivial⟩
      ·simpa [bF,Nat.add_assoc] using hlen
  ·by_cases him:i<m
   ·obtain⟨b2,o2,y',rfl,aQ,mg,zx⟩:=hs.cellAt him
    obtain rfl:y'=y:=by rw[List.getD_eq_getElem?_getD,mg] at hyg;exact hyg
    have hwX:IntKind.i64.wrap (IntKind.i64.wrap ((x:Int)-(br:Int))-IntKind.i64.wrap ((t:Int)*(y':Int)))=X:=by
     rw[vT,show (t:Int)*(y':Int)=((t*y':Nat):Int) by simp,IntWalk.i64_in ((t*y':Nat):Int) aa,IntWalk.i64_in _ aa];omega
    refine VS.aY rfl (decide_eq_true (Int.ofNat_lt.2 lh)) ?_
    refine ab ?_
    refine VO.cond rfl eP (wV rfl ?_)
    refine VO.read rfl [.int .i64 (x:Int)] rfl (gj rfl kD) (wV rfl ?_)
    refine ab ?_
    refine VS.aY rfl (decide_eq_true (Int.ofNat_lt.2 him)) ?_
    refine ab ?_
    refine VO.cond rfl eP (wV rfl ?_)
    refine VO.read rfl [.int .i64 (y':Int)] rfl (gj rfl zx) (wV rfl ?_)
    refine VO.fix 10 rfl (congrArg (λz=>AV.val (.int .i64 z)) hwX) ?_
    refine ab ?_
    by_cases h0:X<0
    ·rw[if_pos h0] at lS
     have Kg:IntKind.i64.wrap ((IntKind.i64.wrap (65535-X)).tdiv 65536)=(mv:Int):=by
      rw[IntWalk.i64_in (65535-X) aa,Int.tdiv_eq_ediv_of_nonneg aa,IntWalk.i64_in _ aa,lS.1]
     have hwd:IntKind.i64.wrap (X+IntKind.i64.wrap (65536*(mv:Int)))=(dg:Int):=by
      rw[IntWalk.i64_in (65536*(mv:Int)) aa,IntWalk.i64_in _ aa,Ik.1]
     refine VS.aY rfl (decide_eq_true h0) ?_
     refine ab ?_
     ·refine VO.sX 46 rfl (congrArg (λz=>[AV.val (.int .i64 z)]) (show _=(dg:Int) by rw[Kg,hwd])) ?_
      refine VO.app (cQ _ _) (t:=272) (e:=3) (sz:=1) (n:=ds.length) (c:=cap) (mm:=1) (known:=iv ds) (spare:=spare) (news:=iv [dg]) (dst:=47) (del:=some 47) rfl rfl rfl rfl rfl rfl rfl rfl (bD rfl) rfl (.inr ⟨47,rfl,rfl,rfl⟩) (.inr rfl) (by rw[bF];omega) (by rw[List.length_append,bF];omega) h1 h2 ⟨ba _,h5,ba _⟩ ⟨kP _,h4,kP _⟩ rfl aa
       (λw1 β k1 b1 ho=>⟨_,_,rfl,.inr ⟨β 46,0,rfl,eX (rest:=[]) (ho.own 46 (.base (List.mem_append_right _ (List.mem_singleton.2 rfl))) _ _ rfl) rfl⟩⟩)
       (λw2 cap' aD ρ k2 b2 eM nR nV hlen iu fi=>wV rfl ?_)
      refine ab ?_
      refine VS.back (n-(i+1)) aa ⟨_,_,?_,?_,?_,?_,⟨i+1,mv,ds++[dg],.row 47 0 (ds++[dg]).length cap',by omega,rfl,rfl,.inr ⟨cap',aD,rfl,rfl,by simp;omega,nV,?_,iu,fi⟩,by simp[sT],dp.append hdh (dp.cons Ik.2 (dp.nil _)),lS.2,hst⟩⟩
      ·exact⟨rfl,rfl,rfl,congrArg (λz=>some (AV.row 47 0 z cap')) cS,congrArg (λz=>some (AV.val (.int .i64 z))) Kg,congrArg (λz=>some (AV.val (.int .i64 z))) wA,trivial⟩
      ·exact⟨congrArg (λl=>some (_,l++aD)) (nK _ _).symm,trivial⟩
      ·rfl
      ·exact⟨.append (.none (ba _)) (.none fi),trivial⟩
      ·simpa [bF,Nat.add_assoc] using hlen
    ·rw[if_neg h0] at lS
     have lg:mv=0:=by omega
     subst lg
     refine VS.bk rfl (decide_eq_false h0) ?_
     refine ab ?_
     ·refine VO.sX 46 rfl (congrArg (λz=>[AV.val (.int .i64 z)]) (show X=(dg:Int) by omega)) ?_
      refine VO.app (cQ _ _) (t:=272) (e:=3) (sz:=1) (n:=ds.length) (c:=cap) (mm:=1) (known:=iv ds) (spare:=spare) (news:=iv [dg]) (dst:=47) (del:=some 47) rfl rfl rfl rfl rfl rfl rfl rfl (bD rfl) rfl (.inr ⟨47,rfl,rfl,rfl⟩) (.inr rfl) (by rw[bF];omega) (by rw[List.length_append,bF];omega) h1 h2 ⟨ba _,h5,ba _⟩ ⟨kP _,h4,kP _⟩ rfl aa
       (λw1 β k1 b1 ho=>⟨_,_,rfl,.inr ⟨β 46,0,rfl,eX (rest:=[]) (ho.own 46 (.base (List.mem_append_right _ (List.mem_singleton.2 rfl))) _ _ rfl) rfl⟩⟩)
       (λw2 cap' aD ρ k2 b2 eM nR nV hlen iu fi=>wV rfl ?_)
      refine ab ?_
      refine VS.back (n-(i+1)) aa ⟨_,_,?_,?_,?_,?_,⟨i+1,0,ds++[dg],.row 47 0 (ds++[dg]).length cap',by omega,rfl,rfl,.inr ⟨cap',aD,rfl,rfl,by simp;omega,nV,?_,iu,fi⟩,by simp[sT],dp.append hdh (dp.cons Ik.2 (dp.nil _)),Nat.zero_le _,hst⟩⟩
      ·exact⟨rfl,rfl,rfl,congrArg (λz=>some (AV.row 47 0 z cap')) cS,rfl,congrArg (λz=>some (AV.val (.int .i64 z))) wA,trivial⟩
      ·exact⟨congrArg (λl=>some (_,l++aD)) (nK _ _).symm,trivial⟩
      ·rfl
      ·exact⟨.append (.none (ba _)) (.none fi),trivial⟩
      ·simpa [bF,Nat.add_assoc] using hlen
   ·have Fv:y=0:=by rw[fH aa] at hyg;omega
    have hwX:IntKind.i64.wrap ((x:Int)-(br:Int))=X:=by rw[vT,hX,Fv,Nat.mul_zero];omega
    refine VS.aY rfl (decide_eq_true (Int.ofNat_lt.2 lh)) ?_
    refine ab ?_
    refine VO.cond rfl eP (wV rfl ?_)
    refine VO.read rfl [.int .i64 (x:Int)] rfl (gj rfl kD) (wV rfl ?_)
    refine VO.fix 10 rfl (congrArg (λz=>AV.val (.int .i64 z)) hwX) ?_
    refine ab ?_
    refine VS.bk rfl (decide_eq_false (λe=>him (Int.ofNat_lt.1 e))) ?_
    refine ab ?_
    by_cases h0:X<0
    ·rw[if_pos h0] at lS
     have Kg:IntKind.i64.wrap ((IntKind.i64.wrap (65535-X)).tdiv 65536)=(mv:Int):=by
      rw[IntWalk.i64_in (65535-X) aa,Int.tdiv_eq_ediv_of_nonneg aa,IntWalk.i64_in _ aa,lS.1]
     have hwd:IntKind.i64.wrap (X+IntKind.i64.wrap (65536*(mv:Int)))=(dg:Int):=by
      rw[IntWalk.i64_in (65536*(mv:Int)) aa,IntWalk.i64_in _ aa,Ik.1]
     refine VS.aY rfl (decide_eq_true h0) ?_
     refine ab ?_
     ·refine VO.sX 46 rfl (congrArg (λz=>[AV.val (.int .i64 z)]) (show _=(dg:Int) by rw[Kg,hwd])) ?_
      refine VO.app (cQ _ _) (t:=272) (e:=3) (sz:=1) (n:=ds.length) (c:=cap) (mm:=1) (known:=iv ds) (spare:=spare) (news:=iv [dg]) (dst:=47) (del:=some 47) rfl rfl rfl rfl rfl rfl rfl rfl (bD rfl) rfl (.inr ⟨47,rfl,rfl,rfl⟩) (.inr rfl) (by rw[bF];omega) (by rw[List.length_append,bF];omega) h1 h2 ⟨ba _,h5,ba _⟩ ⟨kP _,h4,kP _⟩ rfl aa
       (λw1 β k1 b1 ho=>⟨_,_,rfl,.inr ⟨β 46,0,rfl,eX (rest:=[]) (ho.own 46 (.base (List.mem_append_right _ (List.mem_singleton.2 rfl))) _ _ rfl) rfl⟩⟩)
       (λw2 cap' aD ρ k2 b2 eM nR nV hlen iu fi=>wV rfl ?_)
      refine ab ?_
      refine VS.back (n-(i+1)) aa ⟨_,_,?_,?_,?_,?_,⟨i+1,mv,ds++[dg],.row 47 0 (ds++[dg]).length cap',by omega,rfl,rfl,.inr ⟨cap',aD,rfl,rfl,by simp;omega,nV,?_,iu,fi⟩,by simp[sT],dp.append hdh (dp.cons Ik.2 (dp.nil _)),lS.2,hst⟩⟩
      ·exact⟨rfl,rfl,rfl,congrArg (λz=>some (AV.row 47 0 z cap')) cS,congrArg (λz=>some (AV.val (.int .i64 z))) Kg,congrArg (λz=>some (AV.val (.int .i64 z))) wA,trivial⟩
      ·exact⟨congrArg (λl=>some (_,l++aD)) (nK _ _).symm,trivial⟩
      ·rfl
      ·exact⟨.append (.none (ba _)) (.none fi),trivial⟩
      ·simpa [bF,Nat.add_assoc] using hlen
    ·rw[if_neg h0] at lS
     have lg:mv=0:=by omega
     subst lg
     refine VS.bk rfl (decide_eq_false h0) ?_
     refine ab ?_
     ·refine VO.sX 46 rfl (congrArg (λz=>[AV.val (.int .i64 z)]) (show X=(dg:Int) by omega)) ?_
      refine VO.app (cQ _ _) (t:=272) (e:=3) (sz:=1) (n:=ds.length) (c:=cap) (mm:=1) (known:=iv ds) (spare:=spare) (news:=iv [dg]) (dst:=47) (del:=some 47) rfl rfl rfl rfl rfl rfl rfl rfl (bD rfl) rfl (.inr ⟨47,rfl,rfl,rfl⟩) (.inr rfl) (by rw[bF];omega) (by rw[List.length_append,bF];omega) h1 h2 ⟨ba _,h5,ba _⟩ ⟨kP _,h4,kP _⟩ rfl aa
       (λw1 β k1 b1 ho=>⟨_,_,rfl,.inr ⟨β 46,0,rfl,eX (rest:=[]) (ho.own 46 (.base (List.mem_append_right _ (List.mem_singleton.2 rfl))) _ _ rfl) rfl⟩⟩)
       (λw2 cap' aD ρ k2 b2 eM nR nV hlen iu fi=>wV rfl ?_)
      refine ab ?_
      refine VS.back (n-(i+1)) aa ⟨_,_,?_,?_,?_,?_,⟨i+1,0,ds++[dg],.row 47 0 (ds++[dg]).length cap',by omega,rfl,rfl,.inr ⟨cap',aD,rfl,rfl,by simp;omega,nV,?_,iu,fi⟩,by simp[sT],dp.append hdh (dp.cons Ik.2 (dp.nil _)),Nat.zero_le _,hst⟩⟩
      ·exact⟨rfl,rfl,rfl,congrArg (λz=>some (AV.row 47 0 z cap')) cS,rfl,congrArg (λz=>some (AV.val (.int .i64 z))) wA,trivial⟩
      ·exact⟨congrArg (λl=>some (_,l++aD)) (nK _ _).symm,trivial⟩
      ·rfl
      ·exact⟨.append (.none (ba _)) (.none fi),trivial⟩
      ·simpa [bF,Nat.add_assoc] using hlen
 ·obtain rfl:i=n:=by omega
  have hend:=Kf hdh sT dT (show t*hval (halves B)<=hval (halves A) by rw[aO,aO];exact hle) (by
   rcases Nat.eq_zero_or_pos t with e|e
   ·exact .inl e
   ·right
    rw[<-dT]
    exact cN aa (Nat.le_trans (Nat.le_mul_of_pos_left B e) hle)) hv
  rw[aO,aO] at hend
  rcases gN with ⟨rfl,rfl,rfl⟩|⟨cap,spare,rfl,rfl,h1,h2,h3,h4,h5⟩
  all_goals
   refine ab ?_
   refine VS.bk rfl (decide_eq_false (λe=>lh (Int.ofNat_lt.1 e))) ?_
   refine ab ?_
  ·refine VO.call rfl rfl (fk Tryz.func220) (λaP bG aZ=>(fI none 0 0 [] aP (Rd.own (World.ownsRow_nil _ 0 0 _)) (dp.nil _)).mono ?_)
   rintro e w1 ⟨⟨mm,xd,rfl,hcut⟩,rfl⟩
   obtain rfl:mm=0:=by omega
   refine⟨_,rfl,au.refl _,λcj _ bb1=>wV rfl ?_⟩
   refine ab ?_
   refine az ?_;intro wz kz bz
   have e0:A-t*B=0:=by rw[<-hend];rfl
   exact⟨_,rfl,by rw[e0,jL];exact dW.nil _ _,bz⟩
  ·refine VO.xy rfl (fk Tryz.func220) (λw1 β k1 b1 ho=>(fI (some ⟨β 47,0,none⟩) ds.length cap ds w1 (jN (ho.own 47 (.base (List.mem_singleton.2 rfl)) _ _ rfl) rfl h1 (by simpa [maxLen] using h2)) hdh).mono ?_)
   rintro e w2 ⟨⟨mm,xd,rfl,hcut⟩,rfl⟩
   refine⟨.row 47 0 mm cap,rfl,λi hi=>⟨hi,by cases List.mem_singleton.1 hi;exact Option.some_ne_none _⟩,au.refl _,λk2 _ b2=>wV rfl ?_⟩
   refine ab ?_
   refine VS.oP (cQ _ _) rfl (λwz β kz bz he=> ?_)
   have qM:=tU hcut xd rfl
   rw[hend] at hcut qM
   refine⟨_,rfl,?_,bz⟩
   have:=nb (he.own 47 _ _ rfl) rfl xd h1 (by simpa [maxLen] using h2) h3
   rw[<-hcut] at this
   show dW wz w.heap.size (.slice (some ⟨β 47,0,none⟩) mm cap) _ _
   rw[<-qM]
   exact this
set_option maxRecDepth 4000
theorem dW.iJ {w w':World} {B:Nat} {v:Value} {n:Nat} {xs:List Nat} (h:dW w B v n xs) (k:aN KI w w'):dW w' B v n xs:=by
 obtain⟨hn,e|⟨b,c,spare,e,hb,hc,r⟩⟩:=h
 ·exact⟨hn,.inl e⟩
 ·exact⟨hn,.inr ⟨b,c,spare,e,hb,k.block _ b _ rfl trivial hc,r⟩⟩
theorem wB.kp {w w':World} {B n:Nat} {v:Value} {cs:List Value} (h:w.ownsRow B 3 1 v n cs) (k:aN KI w w'):w'.ownsRow B 3 1 v n cs:=by
 refine⟨h.1,?_⟩
 rcases h.2 with h2|⟨g,cap,cur,hv,hb,hg,r⟩
 ·exact .inl h2
 ·exact .inr ⟨g,cap,cur,hv,hb,k.block _ g cur rfl trivial hg,r⟩
theorem dW.form {w:World} {B:Nat} {v:Value} {n:Nat} {xs:List Nat} (h:dW w B v n xs):∃ p c,v=.slice p n c:=by
 obtain⟨hn,⟨rfl,rfl⟩|⟨b,c,spare,rfl,_⟩⟩:=h
 ·exact⟨none,0,rfl⟩
 ·exact⟨_,c,rfl⟩
theorem Be (x:Nat):hval [x]=x:=by show x+65536*0=x;omega
theorem dY {P Q:Prop} (h:Q) (i:Q->P:=by intro h;(repeat first|refine wN ?_|refine wP rfl ?_|refine xz rfl ?_|refine cxI_d rfl ?_|refine wO rfl rfl ?_);exact h):P:=i h
theorem eH {P Q X:Prop} (hb:X) (h:Q) (i:X->Q->P:=by intro hb h;refine⟨_,rfl,hb,λa b c=>wV rfl ?_⟩;refine dY ?_;revert a b c;exact h):P:=i hb h
theorem sH {P Q:Prop} (h:Q) (i:Q->P:=by intro h;exact VS.ret (lP _ _) rfl rfl h):P:=i h
theorem sI (va vb:Value) (n m A B:Nat) (w:World) (hr:Rd w 1 va n (ints .i64 (halves A))) (hs:Rd w 1 vb m (ints .i64 (halves B))) (hB:A<65536*B) (hm:m<=2147483656):
  Calls Tryz.prog 227 #[va,vb] w λe w'=>e=.returned (.int .i64 ((A/B:Nat):Int))/\au w w':=by
 obtain⟨p,c,rfl,dK,eE,dT⟩:=hr.i64
 obtain⟨q,d,rfl,FH,Ci,iR⟩:=hs.i64
 refine ae (C:=EJ Tryz.prog w _) (args:=[_,_]) Tryz.func227 rfl Tryz.ntmps227 (bD rfl) ?_
 refine dY ?_
 refine VS.loop (J:=λms L M w'=>∃ (lo hi:Nat),lo<hi/\hi<=65536/\ms=hi-lo/\L=[(0,.val (.slice p n c)),(1,.val (.slice q m d)),(5,.val (.int .i64 (lo:Int))),(6,.val (.int .i64 (hi:Int)))]/\M=[]/\lo*B<=A/\A<hi*B) 65536 ⟨_,_,?_,?_,?_,?_,⟨0,65536,by omega,by omega,rfl,rfl,rfl,by omega,hB⟩⟩ ?_
 ·exact dw
 ·exact dw
 ·rfl
 ·exact trivial
 rintro ms L M w' ⟨lo,hi,hlh,hh,rfl,rfl,rfl,h1,h2⟩
 have vT:IntKind.i64.wrap ((hi:Int)-(lo:Int))=(hi:Int)-lo:=IntWalk.i64_in _ aa
 refine dY ?_
 by_cases hgo:1<hi-lo
 ·obtain⟨mid,lz⟩:∃ mid,mid=(lo+hi)/2:=⟨_,rfl⟩
  have hwm:IntKind.i64.wrap ((IntKind.i64.wrap ((lo:Int)+(hi:Int))).tdiv 2)=(mid:Int):=by
   rw[IntWalk.i64_in ((lo:Int)+(hi:Int)) aa,Int.tdiv_eq_ediv_of_nonneg aa,IntWalk.i64_in _ aa];omega
  refine VS.aY rfl (decide_eq_true (by rw[vT];omega)) ?_
  refine dY ?_
  refine VO.lit (lP _ _) [.int .i64 (mid:Int)] rfl (by rw[hwm];rfl) rfl rfl rfl rfl rfl rfl rfl aa (λw2 b k2 b2 ho=>wV rfl ?_)
  have hmid4:mid<65536:=by omega
  refine VO.call rfl rfl (fk Tryz.func190) (λaP bG aZ=>(Bd _ _ m 1 (halves B) [mid] aP (hs.below aZ) (Rd.own (wB.kp (cs:=ints .i64 [mid]) ho bG)) (bt B) (dp.cons hmid4 (dp.nil _)) hm aa).mono ?_)
  rintro e w1 ⟨v1,rfl,q1,aB⟩
  rw[aO,Be] at q1
  obtain⟨p1,c1,rfl⟩:=q1.form
  refine eH aB ?_
  intro cj _ bb1
  refine VO.cB rfl rfl (fk Tryz.func237) (λcY di dQ=>Ds _ _ n _ A (B*mid) cY (hr.below dQ) (Rd.own (q1.iJ di).own)) (λcY di dQ w3 cu fj _ bb3=>wV rfl ?_)
  refine dY ?_
  by_cases hlt:A<B*mid
  ·refine VS.aY rfl (decide_eq_true hlt) ?_
   refine dY ?_
   refine VS.back (mid-lo) aa ⟨_,_,?_,?_,?_,?_,⟨lo,mid,by omega,by omega,rfl,rfl,rfl,h1,by rw[Nat.mul_comm];exact hlt⟩⟩
   ·exact⟨rfl,rfl,rfl,congrArg (λz=>some (AV.val (.int .i64 z))) hwm,trivial⟩
   ·exact dw
   ·rfl
   ·exact trivial
  ·refine VS.bk rfl (decide_eq_false hlt) ?_
   refine dY ?_
   refine VS.back (hi-mid) aa ⟨_,_,?_,?_,?_,?_,⟨mid,hi,by omega,by omega,rfl,rfl,rfl,by rw[Nat.mul_comm];omega,h2⟩⟩
   ·exact⟨rfl,rfl,congrArg (λz=>some (AV.val (.int .i64 z))) hwm,rfl,trivial⟩
   ·exact dw
   ·rfl
   ·exact trivial
 ·refine VS.bk rfl (decide_eq_false (by rw[vT];omega)) ?_
  refine dY ?_
  refine sH ?_;intro wz kz bz
  refine⟨?_,bz⟩
  have hBp:0<B:=by
   rcases Nat.eq_zero_or_pos B with e|e
   ·rw[e] at hB;omega
   ·exact e
  have:A/B=lo:=by
   have e1:hi=lo+1:=by omega
   rw[e1,Nat.add_mul] at h2
   exact Nat.div_eq_of_lt_le h1 (by rw[Nat.add_mul];exact h2)
  rw[this];rfl
theorem vh {A B k x R V:Nat} {qs:List Nat} (hx:(halves A)[k]? =some x) (hR:R<B) (hV:V=x+65536*R) (h:hval qs*B+R=hval ((halves A).drop (k+1))):
  hval ((V/B)::qs)*B+(V-V/B*B)=hval ((halves A).drop k)/\V<65536*B/\V-V/B*B<B/\V/B<65536:=by
 have jz:=(bt A).at hx
 have e1:hval ((halves A).drop k)=x+65536*hval ((halves A).drop (k+1)):=oe hx
 have e2:hval ((V/B)::qs)=V/B+65536*hval qs:=rfl
 have e3:=Nat.div_add_mod V B
 have e4:=Nat.mod_lt V (show 0<B by omega)
 rw[Nat.mul_comm] at e3
 have hlt:V<65536*B:=by
  have:65536*R+65536<=65536*B:=by
   have:=Nat.mul_le_mul_left 65536 (show R+1<=B by omega)
   rw[Nat.mul_add] at this;omega
  omega
 refine⟨?_,hlt,by omega,Nat.div_lt_of_lt_mul (by rw[Nat.mul_comm];exact hlt)⟩
 rw[e1,<-h,e2,Nat.add_mul,Nat.mul_add,Nat.mul_assoc]
 omega
theorem Bf (va vb:Value) (n m A B:Nat) (w:World) (hr:Rd w 1 va n (ints .i64 (halves A))) (hs:Rd w 1 vb m (ints .i64 (halves B))) (hB:0<B) (hn:n<=1073741824) (hm:m<=1073741824):
  Calls Tryz.prog 204 #[va,vb] w λe w'=>∃ v u,e=.returned (.tuple #[v,u])/\dW w' w.heap.size v (halves (A/B)).length (halves (A/B))/\dW w' w.heap.size u (halves (A%B)).length (halves (A%B))/\au w w':=by
 obtain⟨p,c,rfl,dK,eE,dT⟩:=hr.i64
 obtain⟨q,d,rfl,FH,Ci,iR⟩:=hs.i64
 refine ae (C:=aV Tryz.prog w _) (args:=[_,_]) Tryz.func204 rfl Tryz.ntmps204 (bD rfl) ?_
 refine ab ?_
 refine VO.cond rfl ⟨rfl,by omega,by show (n:Int)*(24*1)<=_;omega⟩ (VO.sX 12 rfl (vf _) (wV rfl ?_))
 rw[Int.toNat_natCast]
 refine ab ?_
 have hw0:IntKind.i64.wrap ((n:Int)-1)=(n:Int)-1:=IntWalk.i64_in _ aa
 refine VS.loop (J:=λms L M w'=>∃ (k R:Nat) (qs:List Nat) (v:AV) (M1:List (Nat×(TypeId×List AV))),k<=n/\ms=k/\L=[(0,.val (.slice p n c)),(1,.val (.slice q m d)),(6,.row 12 0 n n),(7,v),(8,.val (.int .i64 ((k:Int)-1)))]/\
  M=(12,(3,iv (List.replicate k 0++qs)))::M1/\RowAt 41 (halves R) v M1/\qs.length=n-k/\eW qs/\R<B/\hval qs*B+R=hval ((halves A).drop k)) n ⟨_,_,?_,?_,?_,?_,⟨n,0,[],.val (.slice none 0 0),[],Nat.le_refl _,rfl,rfl,rfl,.inl ⟨jL,rfl,rfl⟩,by simp,dp.nil _,hB,by rw[List.drop_of_length_le aa];simp[hval,val]⟩⟩ ?_
 ·exact⟨rfl,rfl,rfl,rfl,congrArg (λz=>some (AV.val (.int .i64 z))) hw0,trivial⟩
 ·exact⟨congrArg (λl=>some (_,l)) (by rw[List.append_nil]),trivial⟩
 ·rfl
 ·exact⟨.none (ba _),trivial⟩
 rintro ms L M w' ⟨k,R,qs,v,M1,hk,hms,rfl,rfl,gN,hql,hqh,hRB,hv⟩
 have hz:(List.replicate k 0++qs).length=n:=by simp;omega
 rcases gN with ⟨hR0,rfl,rfl⟩|⟨cap,spare,rfl,rfl,g1,g2,g3,g4,g5⟩
 all_goals
  by_cases Ic:k=0
 ·subst Ic
  refine ab ?_
  refine VO.xy rfl (fk Tryz.func220) (λw1 β k1 bw ho=>(fI (some ⟨β 12,0,none⟩) n n qs w1 (jN (spare:=[]) (by rw[List.append_nil];exact ho.own 12 (.base (List.mem_singleton.2 rfl)) _ _ rfl) (by simpa using hz) (Nat.le_refl _) (by simp only[maxLen];omega)) hqh).mono ?_)
  rintro e w2 ⟨⟨mm,xd,rfl,hcut⟩,rfl⟩
  refine⟨.row 12 0 mm n,rfl,λi hi=>⟨hi,by cases List.mem_singleton.1 hi;exact Option.some_ne_none _⟩,au.refl _,λk2 _ b2=>wV rfl ?_⟩
  refine ab ?_
  refine VS.oP (cQ _ _) rfl (λwz β kz bz he=> ?_)
  have zc:qs.length=n:=by simpa using hz
  have qM:=tU hcut xd zc
  rw[List.drop_zero,aO] at hv
  have hA:A/B=hval qs:=by rw[<-hv,Nat.add_comm,Nat.add_mul_div_right _ _ hB,Nat.div_eq_of_lt hRB,Nat.zero_add]
  have hM:A%B=R:=by rw[<-hv,Nat.add_comm,Nat.add_mul_mod_self_right,Nat.mod_eq_of_lt hRB]
  rw[<-hA] at hcut qM
  have e12:=nb (spare:=[]) (by rw[List.append_nil];exact he.own 12 _ _ rfl) zc xd (Nat.le_refl _) (by simp only[maxLen];omega) (by simpa using zc)
  rw[<-hcut] at e12
  refine⟨.slice (some ⟨β 12,0,none⟩) mm n,.slice none 0 0,rfl,by rw[<-qM];exact e12,?_,bz⟩
  rw[hM,hR0];exact dW.nil _ _
 ·obtain⟨j,rfl⟩:∃ j,k=j+1:=⟨k-1,by omega⟩
  have hj:((j+1:Nat):Int)-1=(j:Int):=by omega
  obtain⟨b1,o1,x,rfl,aB,ew,kD⟩:=hr.cellAt (show j<n by omega)
  have jz:=(bt A).at ew
  obtain⟨V,hV⟩:∃ V,V=x+65536*R:=⟨_,rfl⟩
  obtain⟨s1,s2,s3,s4⟩:=vh ew hRB hV hv
  have hRl:(halves R).length<=m:=by rw[<-iR];exact cN aa aa
  have hXS:hval [x]=V:=by have hR0':R=0:=(by have:=congrArg hval hR0;rw[aO] at this;exact this);rw[hV,hR0'];exact Be x
  have hXH:eW [x]:=dp.cons jz (dp.nil _)
  have hXL:[x].length=(1+0):=rfl
  refine VS.fix 8 rfl (congrArg (λz=>AV.val (.int .i64 z)) hj) ?_
  refine ab ?_
  refine VO.cond rfl eP (wV rfl ?_)
  refine VO.read rfl [.int .i64 (x:Int)] rfl (gj rfl kD) (wV rfl ?_)
  refine ab ?_
  refine VO.app (cQ _ _) (t:=272) (e:=3) (sz:=1) (n:=1) (c:=1) (mm:=0) (known:=iv [x]) (spare:=[]) (news:=[]) (dst:=27) (del:=some 24) rfl rfl rfl rfl rfl rfl rfl rfl (bD rfl) rfl (.inr ⟨24,rfl,rfl,rfl⟩) (.inl rfl) rfl rfl aa aa ⟨rfl,rfl,rfl⟩ ⟨rfl,rfl,rfl⟩ rfl aa
   (λw1 β k1 bw ho=>⟨_,_,rfl,.inl rfl⟩)
   (λw2 cap' aD ρ k2 b2 eM nR nV hlen iu fi=>VO.sX 12 rfl (Ke 24 ρ _) (wV rfl ?_))
  have Dt:(iv [x]++[])++aD=iv [x]++aD:=rfl
  refine VO.xy rfl (fk Tryz.func220) (λw1 β k1 bw ho=>(fI (some ⟨β 27,0,none⟩) (1+0) cap' [x] w1 (jN (ho.own 27 (.base (List.mem_singleton.2 rfl)) _ _ rfl) hXL nR (by simpa [maxLen] using nV)) hXH).mono ?_)
  rintro e w3 ⟨⟨m',hm',rfl,hcut⟩,rfl⟩
  rw[hXS] at hcut
  have hm'l:m'=(halves V).length:=by rw[hcut,List.length_take];omega
  have qL:∀ {C:Cx} {β:Nat->Nat} {w:World},ji C β w 27 3 (iv [x]++aD)->Rd w 1 (.slice (some ⟨β 27,0,none⟩) m' cap') m' (ints .i64 (halves V)):=λh=>by
   have:=Rd.AY (jN h hXL nR (by simpa [maxLen] using nV)) hm'
   rwa [<-hcut] at this
  refine⟨.row 27 0 m' cap',rfl,λi hi=>⟨hi,by cases List.mem_singleton.1 hi;exact Option.some_ne_none _⟩,au.refl _,λk3 _ b3=>wV rfl ?_⟩
  refine ab ?_
  refine VO.gw rfl (fk Tryz.func227) (λw1 β k1 bw ho=>(sI _ _ m' m V B w1 (qL (ho.own 27 (.base (List.mem_append_left _ (List.mem_singleton.2 rfl))) _ _ rfl)) (hs.below bw) s2 aa).mono ?_)
  rintro e w4 ⟨rfl,fW⟩
  refine⟨_,rfl,fW,λk4 _ b4=>wV rfl ?_⟩
  refine VO.cond rfl eP (wV rfl ?_)
  refine VO.cond rfl (by show 0+(j:Int).toNat*1+1<=_;rw[Int.toNat_natCast,bF];omega) (wV rfl ?_)
  refine wN ?_
  refine VS.narrow [(0,.val (.slice (some ⟨b1,o1,none⟩) n c)),(1,.val (.slice q m d)),(6,.row 12 0 n n),(7,.row 27 0 m' cap'),(8,.val (.int .i64 (j:Int)))] [(12,(3,iv (List.replicate j 0++(V/B)::qs))),(27,(3,iv [x]++aD))] ?_ ?_ rfl ?_ ?_
  ·exact dw
  ·exact⟨congrArg (λl=>some (_,l)) ((tT (j:=j) (x:=V/B) (by rw[hz];omega) (by rw[Int.toNat_natCast];omega)).trans (by rw[sx])),rfl,trivial⟩
  ·exact⟨.none (ba _),.append (.none (ba _)) (.none fi),trivial⟩
  refine ab ?_
  refine VO.cond rfl eP (wV rfl ?_)
  refine VO.iI rfl [.val (.int .i64 ((V/B:Nat):Int))] rfl (ql (j:=j) (by rw[List.getElem?_append_right cS];simp) (by rw[Int.toNat_natCast];omega)) (wV rfl ?_)
  have vT:IntKind.i64.wrap ((j:Int)-1)=(j:Int)-1:=IntWalk.i64_in _ aa
  refine VO.callN (dst:=41) (n:=(halves (V-V/B*B)).length) (t:=3) (sz:=1) (xs:=ints .i64 (halves (V-V/B*B))) rfl rfl rfl (bD rfl) (by show 1<=2;omega) rfl (λw1 β k1 bw ho=>⟨(fk Tryz.func228),(vg _ _ m' m (V/B) V B w1 (qL (ho.own 27 (.base (List.mem_append_left _ (List.mem_singleton.2 rfl))) _ _ rfl)) (hs.below bw) s4 (Nat.div_mul_le_self _ _) aa).mono ?_⟩)
  rintro e w5 ⟨v5,rfl,Bg,jf⟩
  refine⟨v5,rfl,jf,Bg.new,λ_ _ _ hv5=>wV rfl ?_,λc5 sp5 _ _ _ hv5 hok5 hl5 hc5 IB=>wV rfl ?_⟩
  ·have fK:halves (V-V/B*B)=[]:=by
    subst hv5
    obtain⟨e1,⟨_,e2⟩|⟨_,_,_,e2,_⟩⟩:=Bg
    ·exact List.eq_nil_of_length_eq_zero e2
    ·cases e2
   refine ab ?_
   refine VS.back j aa ⟨_,_,?_,?_,?_,?_,⟨j,V-V/B*B,(V/B)::qs,.val (.slice none 0 0),[],by omega,rfl,rfl,rfl,.inl ⟨fK,rfl,rfl⟩,by simp;omega,dp.cons s4 hqh,s3,s1⟩⟩
   ·exact⟨rfl,rfl,rfl,rfl,congrArg (λz=>some (AV.val (.int .i64 z))) vT,trivial⟩
   ·exact⟨rfl,trivial⟩
   ·rfl
   ·exact⟨.none (ba _),trivial⟩
  ·have hln':(halves (V-V/B*B)).length+sp5.length=c5:=by simpa using IB
   refine ab ?_
   refine VS.back j aa ⟨_,_,?_,?_,?_,?_,⟨j,V-V/B*B,(V/B)::qs,.row 41 0 _ c5,_,by omega,rfl,rfl,rfl,.inr ⟨c5,sp5.map .val,rfl,rfl,hl5,hc5,by simpa using hln',cM hok5,ah _⟩,by simp;omega,dp.cons s4 hqh,s3,s1⟩⟩
   ·exact⟨rfl,rfl,rfl,rfl,congrArg (λz=>some (AV.val (.int .i64 z))) vT,trivial⟩
   ·exact⟨rfl,congrArg (λl=>some (_,l)) (List.map_append),trivial⟩
   ·rfl
   ·exact⟨.none (ba _),.append (.none (ba _)) (.none (ah _)),trivial⟩
 ·subst Ic
  refine ab ?_
  refine VO.xy rfl (fk Tryz.func220) (λw1 β k1 bw ho=>(fI (some ⟨β 12,0,none⟩) n n qs w1 (jN (spare:=[]) (by rw[List.append_nil];exact ho.own 12 (.base (List.mem_singleton.2 rfl)) _ _ rfl) (by simpa using hz) (Nat.le_refl _) (by simp only[maxLen];omega)) hqh).mono ?_)
  rintro e w2 ⟨⟨mm,xd,rfl,hcut⟩,rfl⟩
  refine⟨.row 12 0 mm n,rfl,λi hi=>⟨hi,by cases List.mem_singleton.1 hi;exact Option.some_ne_none _⟩,au.refl _,λk2 _ b2=>wV rfl ?_⟩
  refine ab ?_
  refine VS.oP (cQ _ _) rfl (λwz β kz bz he=> ?_)
  have zc:qs.length=n:=by simpa using hz
  have qM:=tU hcut xd zc
  rw[List.drop_zero,aO] at hv
  have hA:A/B=hval qs:=by rw[<-hv,Nat.add_comm,Nat.add_mul_div_right _ _ hB,Nat.div_eq_of_lt hRB,Nat.zero_add]
  have hM:A%B=R:=by rw[<-hv,Nat.add_comm,Nat.add_mul_mod_self_right,Nat.mod_eq_of_lt hRB]
  rw[<-hA] at hcut qM
  have e12:=nb (spare:=[]) (by rw[List.append_nil];exact he.own 12 _ _ rfl) zc xd (Nat.le_refl _) (by simp only[maxLen];omega) (by simpa using zc)
  rw[<-hcut] at e12
  have e41:=nb (he.own 41 _ _ rfl) rfl (Nat.le_refl _) g1 (by simpa [maxLen] using g2) g3
  rw[List.take_length] at e41
  refine⟨.slice (some ⟨β 12,0,none⟩) mm n,.slice (some ⟨β 41,0,none⟩) (halves R).length cap,rfl,by rw[<-qM];exact e12,?_,bz⟩
  rw[hM];exact e41
 ·obtain⟨j,rfl⟩:∃ j,k=j+1:=⟨k-1,by omega⟩
  have hj:((j+1:Nat):Int)-1=(j:Int):=by omega
  obtain⟨b1,o1,x,rfl,aB,ew,kD⟩:=hr.cellAt (show j<n by omega)
  have jz:=(bt A).at ew
  obtain⟨V,hV⟩:∃ V,V=x+65536*R:=⟨_,rfl⟩
  obtain⟨s1,s2,s3,s4⟩:=vh ew hRB hV hv
  have hRl:(halves R).length<=m:=by rw[<-iR];exact cN aa aa
  have hXS:hval (x::halves R)=V:=by rw[hV];show x+65536*hval (halves R)=_;rw[aO]
  have hXH:eW (x::halves R):=dp.cons jz (bt R)
  have hXL:(x::halves R).length=(1+(halves R).length):=by simp;omega
  refine VS.fix 8 rfl (congrArg (λz=>AV.val (.int .i64 z)) hj) ?_
  refine ab ?_
  refine VO.cond rfl eP (wV rfl ?_)
  refine VO.read rfl [.int .i64 (x:Int)] rfl (gj rfl kD) (wV rfl ?_)
  refine ab ?_
  refine VO.app (cQ _ _) (t:=272) (e:=3) (sz:=1) (n:=1) (c:=1) (mm:=(halves R).length) (known:=iv [x]) (spare:=[]) (news:=iv (halves R)) (dst:=27) (del:=some 24) rfl rfl rfl rfl rfl rfl rfl rfl (bD rfl) rfl (.inr ⟨24,rfl,rfl,rfl⟩) (.inl rfl) rfl rfl aa aa ⟨rfl,rfl,ba _⟩ ⟨rfl,rfl,kP _⟩ (by rw[bF];omega) aa
   (λw1 β k1 bw ho=>⟨_,_,rfl,.inr ⟨β 41,0,rfl,eX (rest:=spare) (ho.own 41 (.base (List.mem_append_right _ (List.mem_singleton.2 rfl))) _ _ rfl) rfl⟩⟩)
   (λw2 cap' aD ρ k2 b2 eM nR nV hlen iu fi=>VO.sX 12 rfl (Ke 24 ρ _) (wV rfl ?_))
  have Dt:(iv [x]++iv (halves R))++aD=iv (x::halves R)++aD:=rfl
  refine VO.xy rfl (fk Tryz.func220) (λw1 β k1 bw ho=>(fI (some ⟨β 27,0,none⟩) (1+(halves R).length) cap' (x::halves R) w1 (jN (ho.own 27 (.base (List.mem_singleton.2 rfl)) _ _ rfl) hXL nR (by simpa [maxLen] using nV)) hXH).mono ?_)
  rintro e w3 ⟨⟨m',hm',rfl,hcut⟩,rfl⟩
  rw[hXS] at hcut
  have hm'l:m'=(halves V).length:=by rw[hcut,List.length_take];omega
  have qL:∀ {C:Cx} {β:Nat->Nat} {w:World},ji C β w 27 3 (iv (x::halves R)++aD)->Rd w 1 (.slice (some ⟨β 27,0,none⟩) m' cap') m' (ints .i64 (halves V)):=λh=>by
   have:=Rd.AY (jN h hXL nR (by simpa [maxLen] using nV)) hm'
   rwa [<-hcut] at this
  refine⟨.row 27 0 m' cap',rfl,λi hi=>⟨hi,by cases List.mem_singleton.1 hi;exact Option.some_ne_none _⟩,au.refl _,λk3 _ b3=>wV rfl ?_⟩
  refine ab ?_
  refine VO.gw rfl (fk Tryz.func227) (λw1 β k1 bw ho=>(sI _ _ m' m V B w1 (qL (ho.own 27 (.base (List.mem_append_left _ (List.mem_singleton.2 rfl))) _ _ rfl)) (hs.below bw) s2 aa).mono ?_)
  rintro e w4 ⟨rfl,fW⟩
  refine⟨_,rfl,fW,λk4 _ b4=>wV rfl ?_⟩
  refine VO.cond rfl eP (wV rfl ?_)
  refine VO.cond rfl (by show 0+(j:Int).toNat*1+1<=_;rw[Int.toNat_natCast,bF];omega) (wV rfl ?_)
  refine wN ?_
  refine VS.narrow [(0,.val (.slice (some ⟨b1,o1,none⟩) n c)),(1,.val (.slice q m d)),(6,.row 12 0 n n),(7,.row 27 0 m' cap'),(8,.val (.int .i64 (j:Int)))] [(12,(3,iv (List.replicate j 0++(V/B)::qs))),(27,(3,iv (x::halves R)++aD))] ?_ ?_ rfl ?_ ?_
  ·exact dw
  ·exact⟨congrArg (λl=>some (_,l)) ((tT (j:=j) (x:=V/B) (by rw[hz];omega) (by rw[Int.toNat_natCast];omega)).trans (by rw[sx])),rfl,trivial⟩
  ·exact⟨.none (ba _),.append (.none (ba _)) (.none fi),trivial⟩
  refine ab ?_
  refine VO.cond rfl eP (wV rfl ?_)
  refine VO.iI rfl [.val (.int .i64 ((V/B:Nat):Int))] rfl (ql (j:=j) (by rw[List.getElem?_append_right cS];simp) (by rw[Int.toNat_natCast];omega)) (wV rfl ?_)
  have vT:IntKind.i64.wrap ((j:Int)-1)=(j:Int)-1:=IntWalk.i64_in _ aa
  refine VO.callN (dst:=41) (n:=(halves (V-V/B*B)).length) (t:=3) (sz:=1) (xs:=ints .i64 (halves (V-V/B*B))) rfl rfl rfl (bD rfl) (by show 1<=2;omega) rfl (λw1 β k1 bw ho=>⟨(fk Tryz.func228),(vg _ _ m' m (V/B) V B w1 (qL (ho.own 27 (.base (List.mem_append_left _ (List.mem_singleton.2 rfl))) _ _ rfl)) (hs.below bw) s4 (Nat.div_mul_le_self _ _) aa).mono ?_⟩)
  rintro e w5 ⟨v5,rfl,Bg,jf⟩
  refine⟨v5,rfl,jf,Bg.new,λ_ _ _ hv5=>wV rfl ?_,λc5 sp5 _ _ _ hv5 hok5 hl5 hc5 IB=>wV rfl ?_⟩
  ·have fK:halves (V-V/B*B)=[]:=by
    subst hv5
    obtain⟨e1,⟨_,e2⟩|⟨_,_,_,e2,_⟩⟩:=Bg
    ·exact List.eq_nil_of_length_eq_zero e2
    ·cases e2
   refine ab ?_
   refine VS.back j aa ⟨_,_,?_,?_,?_,?_,⟨j,V-V/B*B,(V/B)::qs,.val (.slice none 0 0),[],by omega,rfl,rfl,rfl,.inl ⟨fK,rfl,rfl⟩,by simp;omega,dp.cons s4 hqh,s3,s1⟩⟩
   ·exact⟨rfl,rfl,rfl,rfl,congrArg (λz=>some (AV.val (.int .i64 z))) vT,trivial⟩
   ·exact⟨rfl,trivial⟩
   ·rfl
   ·exact⟨.none (ba _),trivial⟩
  ·have hln':(halves (V-V/B*B)).length+sp5.length=c5:=by simpa using IB
   refine ab ?_
   refine VS.back j aa ⟨_,_,?_,?_,?_,?_,⟨j,V-V/B*B,(V/B)::qs,.row 41 0 _ c5,_,by omega,rfl,rfl,rfl,.inr ⟨c5,sp5.map .val,rfl,rfl,hl5,hc5,by simpa using hln',cM hok5,ah _⟩,by simp;omega,dp.cons s4 hqh,s3,s1⟩⟩
   ·exact⟨rfl,rfl,rfl,rfl,congrArg (λz=>some (AV.val (.int .i64 z))) vT,trivial⟩
   ·exact⟨rfl,congrArg (λl=>some (_,l)) (List.map_append),trivial⟩
   ·rfl
   ·exact⟨.none (ba _),.append (.none (ba _)) (.none (ah _)),trivial⟩
set_option maxRecDepth 4000
theorem bq.iJ {w w':World} {v:Value} {X:Int} {j:Nat} (h:bq w v X j) (k:aN KI w w'):bq w' v X j:=h.kp (U:=UU) k.lJ
theorem bd.iJ {w w':World} {v:Value} {X:Int} (h:bd w v X) (k:aN KI w w'):bd w' v X:=h.kp (U:=UU) k.lJ
theorem aj.iJ {w w':World} {B:Nat} {v:Value} {X:Int} (h:aj w B v X) (k:aN KI w w'):aj w' B v X:=h.kp k.lJ
theorem Rd.iJ {w w':World} {v:Value} {n:Nat} {xs:List Nat} (h:Rd w 1 v n (ints .u32 xs)) (k:aN KI w w'):Rd w' 1 v n (ints .u32 xs):=h.kp (U:=UU) k.lJ
theorem OwnU.iJ {w w':World} {B n:Nat} {v:Value} {cs:List Value} (h:w.ownsRow B UU 1 v n cs) (k:aN KI w w'):w'.ownsRow B UU 1 v n cs:=Own.kp h k.lJ
theorem jO (a:Nat):(halves a).length<=2*(limbs a).length:=by
 have:=cL (ai a)
 rwa [ag] at this
theorem jP (va:Value) (n a:Nat) (w:World) (hr:Rd w 1 va n (ints .u32 (limbs a))) (hn:n<=1073741824):
  Calls Tryz.prog 191 #[va] w λe w'=>∃ p c,e=.returned (.slice p (halves a).length c)/\w'.ownsRow w.heap.size 3 1 (.slice p (halves a).length c) (halves a).length (ints .i64 (halves a))/\au w w':=
 (yM va n _ w hr (ai a) hn).mono λe w' ⟨v',he,ho,hb⟩=>by
  rw[ag] at ho
  obtain⟨p,c,rfl,_⟩:=Own.form ho
  exact⟨p,c,he,ho,hb⟩
theorem oW (va:Value) (n a:Nat) (w:World) (hr:Rd w 1 va n (ints .i64 (halves a))) (hn:n<=2147483646):
  Calls Tryz.prog 189 #[va] w λe w'=>∃ p c xs,e=.returned (.slice p ((n+1)/2) c)/\w'.ownsRow w.heap.size UU 1 (.slice p ((n+1)/2) c) ((n+1)/2) (ints .u32 xs)/\af xs=a/\bI xs/\au w w':=
 (Bc va n _ w hr (bt a) aa).mono λe w' ⟨v',xs,he,hl,ho,hv,hx,hb⟩=>by
  obtain⟨p,c,rfl,_⟩:=Own.form ho
  exact⟨p,c,xs,he,ho,by rw[hv,aO],hx,hb⟩
theorem vi (va vb:Value) (n m A B:Nat) (w:World) (hr:Rd w 1 va n (ints .i64 (halves A))) (hs:Rd w 1 vb m (ints .i64 (halves B))) (hB:0<B) (hn:n<=1073741824) (hm:m<=1073741824):
  Calls Tryz.prog 204 #[va,vb] w λe w'=>∃ p c q d,e=.returned (.tuple #[.slice p (halves (A/B)).length c,.slice q (halves (A%B)).length d])/\w'.ownsRow w.heap.size 3 1 (.slice p (halves (A/B)).length c) (halves (A/B)).length (ints .i64 (halves (A/B)))/\w'.ownsRow w.heap.size 3 1 (.slice q (halves (A%B)).length d) (halves (A%B)).length (ints .i64 (halves (A%B)))/\au w w':=
 (Bf va vb n m A B w hr hs hB hn hm).mono λe w' ⟨v,u,he,h1,h2,hb⟩=>by
  obtain⟨p,c,rfl⟩:=h1.form
  obtain⟨q,d,rfl⟩:=h2.form
  exact⟨p,c,q,d,he,h1.own,h2.own,hb⟩
theorem EW {s:Bool} {n:Nat} (h:n≠0):(if s=true then-(n:Int) else n).sign=if s=true then-1 else 1:=by
 cases s
 ·exact dt (by simp;omega)
 ·exact sign_neg (by simp;omega)
theorem div_len {a b:Nat}:(halves (a/b)).length<=(halves a).length:=cN aa (Nat.div_le_self _ _)
theorem mod_len {a b:Nat}:(halves (a%b)).length<=(halves a).length:=cN aa (Nat.mod_le _ _)
theorem EX {xs:List Nat} {a:Nat} {s:Bool} (hl:bI xs) (hv:af xs=a):Sz (if s=true then-((af xs:Nat):Int) else af xs) xs.length:=by
 unfold Sz
 have:(if s=true then-((af xs:Nat):Int) else af xs).natAbs=af xs:=by cases s <;> simp
 rw[this]
 exact fT hl
theorem jQ (v u:Value) (X Y:Int) (j k:Nat) (w:World) (hv:bq w v X j) (hu:bq w u Y k) (hj:j<=134217728) (hk:k<=134217728):
  Calls Tryz.prog 170 #[v,u] w λe w'=>uW w w' X Y e/\au w w':=by
 obtain⟨s,p,n,c,rfl⟩:=hv.form
 obtain⟨t,q,m,d,rfl⟩:=hu.form
 have qK:=hv.len
 have mz:=hu.len
 refine ae (C:=EJ Tryz.prog w _) (args:=[_,_]) Tryz.func170 rfl Tryz.ntmps170 (bD rfl) ?_
 refine dY ?_
 refine VO.call rfl rfl (fk Tryz.func186) (λaP bG aZ=>(jM _ X j aP (hv.iJ bG)).mono ?_)
 rintro e w1 ⟨r1,rfl,h1,aB⟩
 obtain⟨s1,p1,n1,c1,rfl⟩:=h1.ft
 refine eH aB ?_
 intro cj _ bb1
 refine VO.call rfl rfl (fk Tryz.func186) (λbh bQ bE=>(jM _ Y k bh (hu.iJ (cj.ay bQ))).mono ?_)
 rintro e w2 ⟨r2,rfl,h2,aQ⟩
 obtain⟨s2,p2,n2,c2,rfl⟩:=h2.ft
 refine eH aQ ?_
 intro db _ bb2
 have e1:=qj h1.Je
 have e2:=qj h2.Je
 have l1:=jO X.natAbs
 have l2:=jO Y.natAbs
 by_cases hY:Y=0
 ·have hn0:n2=0:=by rw[h2.n,hY];exact congrArg List.length bc
  refine VS.aY rfl (by rw[beq_iff_eq];omega) ?_
  refine dY ?_
  refine sH ?_;intro wz kz bz
  exact⟨.inl ⟨hY,_,_,rfl,aj.zero _ _,aj.zero _ _⟩,bz⟩
 ·have hY0:Y.natAbs≠0:=by omega
  have hn0:n2≠0:=by rw[h2.n];intro e;exact hY0 (mH e)
  refine VS.bk rfl (by rw[beq_eq_false_iff_ne];omega) ?_
  refine dY ?_
  refine VO.call rfl rfl (fk Tryz.func191) (λcY di dQ=>(jP _ n1 X.natAbs cY (h1.row.iJ (bQ.ay ((aN.of aQ).ay di))) (by rw[h1.n];omega)).mono ?_)
  rintro e w3 ⟨p3,c3,rfl,h3,cu⟩
  skip
  refine eH cu ?_
  intro fj _ bb3
  refine VO.call rfl rfl (fk Tryz.func191) (λfm gv iw=>(jP _ n2 Y.natAbs fm (h2.row.iJ (di.ay ((aN.of cu).ay gv))) (by rw[h2.n];omega)).mono ?_)
  rintro e w4 ⟨p4,c4,rfl,h4,fW⟩
  skip
  refine eH fW ?_
  intro lj _ sZ
  refine VO.call rfl rfl (fk Tryz.func204) (λiy jt ju=>(vi _ _ _ _ X.natAbs Y.natAbs iy (Rd.own (wB.kp h3 (gv.ay ((aN.of fW).ay jt)))) (Rd.own (wB.kp h4 jt)) aa aa aa).mono ?_)
  rintro e w5 ⟨p5,c5,q5,d5,rfl,h5,h5',jf⟩
  skip
  refine eH jf ?_
  intro oo _ yL
  have l5:(halves (X.natAbs/Y.natAbs)).length<=(halves X.natAbs).length:=div_len
  have l5':(halves (X.natAbs%Y.natAbs)).length<=(halves X.natAbs).length:=mod_len
  refine VO.call rfl rfl (fk Tryz.func189) (λoX qN tV=>(oW _ _ (X.natAbs/Y.natAbs) oX (Rd.own (wB.kp h5 qN)) aa).mono ?_)
  rintro e w6 ⟨p6,c6,xs6,rfl,h6,hx6,hl6,tQ⟩
  skip
  refine eH tQ ?_
  intro vY _ GH
  refine VO.cI rfl rfl (fk Tryz.func171) (λzj Bh xG=>im (!(s1 == s2)) _ _ xs6 zj (Rd.own (OwnU.iJ h6 Bh)) hl6 aa) (λzj Bh xG w7 s7 p7 n7 c7 h7 Ij Du _ bb7=>wV rfl ?_)
  refine dY ?_
  refine VO.call rfl rfl (fk Tryz.func189) (λGI ka8 Il=>(oW _ _ (X.natAbs%Y.natAbs) GI (Rd.own (wB.kp h5' (qN.ay ((aN.of tQ).ay (Bh.ay ((aN.of Ij).ay ka8)))))) aa).mono ?_)
  rintro e w8 ⟨p8,c8,xs8,rfl,h8,hx8,hl8,Ew⟩
  skip
  refine eH Ew ?_
  intro Cq _ bb8
  refine VO.cI rfl rfl (fk Tryz.func171) (λKh ka9 Ki=>im s1 _ _ xs8 Kh (Rd.own (OwnU.iJ h8 ka9)) hl8 aa) (λKh ka9 Ki w9 s9 p9 n9 c9 h9 hb9 Dv _ bb9=>wV rfl ?_)
  refine dY ?_
  have z7:Sz (if (!(s1 == s2))=true then-((af xs6:Nat):Int) else af xs6) xs6.length:=EX hl6 hx6
  have z9:Sz (if s1=true then-((af xs8:Nat):Int) else af xs8) xs8.length:=EX hl8 hx8
  have lx6:xs6.length<=268435457:=by have:=h6.1;simp at this;omega
  have lx8:xs8.length<=268435457:=by have:=h8.1;simp at this;omega
  rw[hx6] at h7 z7
  rw[hx8] at h9 z9
  have law:=@nI X Y X.natAbs Y.natAbs
  by_cases tp:X.natAbs%Y.natAbs=0
  ·have s0:(if s1=true then-((X.natAbs%Y.natAbs:Nat):Int) else ((X.natAbs%Y.natAbs:Nat):Int))=0:=by rw[tp];cases s1 <;> rfl
   rw[s0] at h9 z9
   refine VO.cB rfl rfl (fk Tryz.func168) (λmn oY vm=>cJ _ 0 _ mn ((h9.iJ oY).in z9) aa) (λmn oY vm w10 ta gP _ Dw=>wV rfl ?_)
   (repeat (first|refine wN ?_|refine wP rfl ?_|refine xz rfl ?_|refine wO rfl rfl ?_))
   refine VS.uN (lP _ _) (iU _ _) 5 rfl ?_
   (repeat' (first|refine VA.go rfl ?_|refine VA.fin rfl ?_|refine VA.dz _ rfl rfl ?_|refine VA.cons rfl ?_ ?_|exact VA.nil rfl))
   all_goals
    refine dY ?_
    refine sH ?_;intro wz kz bz
    obtain⟨g1,g2⟩:=law e1 e2 hY0 (.inl ⟨.inr tp,rfl,rfl⟩)
    refine⟨.inr ⟨hY,_,_,rfl,aj.cast ((h7.iJ (Cq.ay (Dv.ay (gP.ay kz)))).mono xG.size) g1.symm,aj.cast ((h9.iJ (gP.ay kz)).mono Ki.size) ?_⟩,bz⟩
    rw[g2,tp]
    cases s2 <;> rfl
  ·have sy:=EW (s:=s2) hY0
   rw[<-e2] at sy
   have sr:=EW (s:=s1) tp
   rcases hs12:(s1,s2) with ⟨_|_,_|_⟩ <;> cases hs12
   ·replace sr:(if false=true then-((X.natAbs%Y.natAbs:Nat):Int) else ((X.natAbs%Y.natAbs:Nat):Int)).sign=1:=sr
    replace sy:Y.sign=1:=sy
    refine VO.call rfl rfl (fk Tryz.func168) (λmn oY vm=>(cJ _ _ _ mn ((h9.iJ oY).in z9) aa).mono ?_)
    rintro e w10 ⟨rfl,ta⟩
    rw[sr]
    refine eH ta ?_
    intro gP _ Dw
    refine VO.call rfl rfl (fk Tryz.func168) (λnW rH wC=>(cJ _ _ _ nW ((h9.iJ (gP.ay rH)).in z9) aa).mono ?_)
    rintro e w11 ⟨rfl,wD⟩
    rw[sr]
    refine eH wD ?_
    intro kQ _ GJ
    refine VO.call rfl rfl (fk Tryz.func168) (λrI vn Dx=>(cJ _ Y k rI ((h2.iJ (fj.ay (lj.ay (oo.ay (vY.ay (Du.ay (Cq.ay (Dv.ay (gP.ay (kQ.ay vn)))))))))).to mz) aa).mono ?_)
    rintro e Bi ⟨rfl,yN⟩
    rw[sy]
    refine⟨_,rfl,yN,λoZ _ Kj=>wV rfl ?_⟩
    (repeat (first|refine wN ?_|refine wP rfl ?_|refine xz rfl ?_|refine wO rfl rfl ?_))
    refine VS.uN (lP _ _) (iU _ _) 5 rfl ?_
    (repeat' (first|refine VA.go rfl ?_|refine VA.fin rfl ?_|refine VA.dz _ rfl rfl ?_|refine VA.cons rfl ?_ ?_|exact VA.nil rfl))
    all_goals
     refine dY ?_
     refine sH ?_;intro wz kz bz
     obtain⟨g1,g2⟩:=law e1 e2 hY0 (.inl ⟨.inl rfl,rfl,rfl⟩)
     exact⟨.inr ⟨hY,_,_,rfl,aj.cast ((h7.iJ (Cq.ay (Dv.ay (gP.ay (kQ.ay (oZ.ay kz)))))).mono xG.size) g1.symm,aj.cast ((h9.iJ (gP.ay (kQ.ay (oZ.ay kz)))).mono Ki.size) g2.symm⟩,bz⟩
   ·replace sr:(if false=true then-((X.natAbs%Y.natAbs:Nat):Int) else ((X.natAbs%Y.natAbs:Nat):Int)).sign=1:=sr
    replace sy:Y.sign= -1:=sy
    refine VO.call rfl rfl (fk Tryz.func168) (λmn oY vm=>(cJ _ _ _ mn ((h9.iJ oY).in z9) aa).mono ?_)
    rintro e w10 ⟨rfl,ta⟩
    rw[sr]
    refine eH ta ?_
    intro gP _ Dw
    refine VO.call rfl rfl (fk Tryz.func168) (λnW rH wC=>(cJ _ _ _ nW ((h9.iJ (gP.ay rH)).in z9) aa).mono ?_)
    rintro e w11 ⟨rfl,wD⟩
    rw[sr]
    refine eH wD ?_
    intro kQ _ GJ
    refine VO.call rfl rfl (fk Tryz.func168) (λrI vn Dx=>(cJ _ Y k rI ((h2.iJ (fj.ay (lj.ay (oo.ay (vY.ay (Du.ay (Cq.ay (Dv.ay (gP.ay (kQ.ay vn)))))))))).to mz) aa).mono ?_)
    rintro e Bi ⟨rfl,yN⟩
    rw[sy]
    refine eH yN ?_
    intro oZ _ Kj
    refine VO.cI rfl rfl (fk Tryz.func136) (λBj Kk Kl=>nJ 1 Bj aa aa) (λBj Kk Kl Im s13 p13 n13 c13 h13 hb13 Bk _ bb13=>wV rfl ?_)
    refine dY ?_
    refine VO.cI rfl rfl (fk Tryz.func205) (λBl yO Dy=>Bb _ _ _ 1 _ 1 Bl (((h7.iJ (Cq.ay (Dv.ay (gP.ay (kQ.ay (oZ.ay (Bk.ay yO))))))).in z7)) ((h13.iJ yO).in (Sz.small ff)) aa aa) (λBl yO Dy w14 s14 p14 n14 c14 h14 hb14 GK _ bb14=>wV rfl ?_)
    refine dY ?_
    refine VO.cI rfl rfl (fk Tryz.func159) (λBm yP Dz=>ve _ _ _ Y _ k Bm ((h9.iJ (gP.ay (kQ.ay (oZ.ay (Bk.ay (GK.ay yP)))))).in z9) ((h2.iJ (fj.ay (lj.ay (oo.ay (vY.ay (Du.ay (Cq.ay (Dv.ay (gP.ay (kQ.ay (oZ.ay (Bk.ay (GK.ay yP))))))))))))).to mz) aa aa) (λBm yP Dz w15 s15 p15 n15 c15 h15 hb15 kb15 _ bb15=>wV rfl ?_)
    (repeat (first|refine wN ?_|refine wP rfl ?_|refine xz rfl ?_|refine wO rfl rfl ?_))
    refine VS.uN (lP _ _) (iU _ _) 5 rfl ?_
    (repeat' (first|refine VA.go rfl ?_|refine VA.fin rfl ?_|refine VA.dz _ rfl rfl ?_|refine VA.cons rfl ?_ ?_|exact VA.nil rfl))
    all_goals
     refine dY ?_
     refine sH ?_;intro wz kz bz
     have hlt:=Nat.mod_lt X.natAbs (show 0<Y.natAbs by omega)
     obtain⟨g1,g2⟩:=law e1 e2 hY0 (.inr ⟨by simp,tp,rfl,rfl⟩)
     refine⟨.inr ⟨hY,_,_,rfl,aj.cast ((h14.iJ (kb15.ay kz)).mono Dy.size) ?_,aj.cast ((h15.iJ kz).mono Dz.size) ?_⟩,bz⟩
     ·rw[g1];simp;omega
     ·rw[g2];simp at e1 e2 ⊢;omega
   ·replace sr:(if true=true then-((X.natAbs%Y.natAbs:Nat):Int) else ((X.natAbs%Y.natAbs:Nat):Int)).sign= -1:=sr
    replace sy:Y.sign=1:=sy
    refine VO.call rfl rfl (fk Tryz.func168) (λmn oY vm=>(cJ _ _ _ mn ((h9.iJ oY).in z9) aa).mono ?_)
    rintro e w10 ⟨rfl,ta⟩
    rw[sr]
    refine eH ta ?_
    intro gP _ Dw
    refine VO.call rfl rfl (fk Tryz.func168) (λnW rH wC=>(cJ _ _ _ nW ((h9.iJ (gP.ay rH)).in z9) aa).mono ?_)
    rintro e w11 ⟨rfl,wD⟩
    rw[sr]
    refine eH wD ?_
    intro kQ _ GJ
    refine VO.call rfl rfl (fk Tryz.func168) (λrI vn Dx=>(cJ _ Y k rI ((h2.iJ (fj.ay (lj.ay (oo.ay (vY.ay (Du.ay (Cq.ay (Dv.ay (gP.ay (kQ.ay vn)))))))))).to mz) aa).mono ?_)
    rintro e Bi ⟨rfl,yN⟩
    rw[sy]
    refine eH yN ?_
    intro oZ _ Kj
    refine VO.cI rfl rfl (fk Tryz.func136) (λBj Kk Kl=>nJ 1 Bj aa aa) (λBj Kk Kl Im s13 p13 n13 c13 h13 hb13 Bk _ bb13=>wV rfl ?_)
    refine dY ?_
    refine VO.cI rfl rfl (fk Tryz.func205) (λBl yO Dy=>Bb _ _ _ 1 _ 1 Bl (((h7.iJ (Cq.ay (Dv.ay (gP.ay (kQ.ay (oZ.ay (Bk.ay yO))))))).in z7)) ((h13.iJ yO).in (Sz.small ff)) aa aa) (λBl yO Dy w14 s14 p14 n14 c14 h14 hb14 GK _ bb14=>wV rfl ?_)
    refine dY ?_
    refine VO.cI rfl rfl (fk Tryz.func159) (λBm yP Dz=>ve _ _ _ Y _ k Bm ((h9.iJ (gP.ay (kQ.ay (oZ.ay (Bk.ay (GK.ay yP)))))).in z9) ((h2.iJ (fj.ay (lj.ay (oo.ay (vY.ay (Du.ay (Cq.ay (Dv.ay (gP.ay (kQ.ay (oZ.ay (Bk.ay (GK.ay yP))))))))))))).to mz) aa aa) (λBm yP Dz w15 s15 p15 n15 c15 h15 hb15 kb15 _ bb15=>wV rfl ?_)
    (repeat (first|refine wN ?_|refine wP rfl ?_|refine xz rfl ?_|refine wO rfl rfl ?_))
    refine VS.uN (lP _ _) (iU _ _) 5 rfl ?_
    (repeat' (first|refine VA.go rfl ?_|refine VA.fin rfl ?_|refine VA.dz _ rfl rfl ?_|refine VA.cons rfl ?_ ?_|exact VA.nil rfl))
    all_goals
     refine dY ?_
     refine sH ?_;intro wz kz bz
     have hlt:=Nat.mod_lt X.natAbs (show 0<Y.natAbs by omega)
     obtain⟨g1,g2⟩:=law e1 e2 hY0 (.inr ⟨by simp,tp,rfl,rfl⟩)
     refine⟨.inr ⟨hY,_,_,rfl,aj.cast ((h14.iJ (kb15.ay kz)).mono Dy.size) ?_,aj.cast ((h15.iJ kz).mono Dz.size) ?_⟩,bz⟩
     ·rw[g1];simp;omega
     ·rw[g2];simp at e1 e2 ⊢;omega
   ·replace sr:(if true=true then-((X.natAbs%Y.natAbs:Nat):Int) else ((X.natAbs%Y.natAbs:Nat):Int)).sign= -1:=sr
    replace sy:Y.sign= -1:=sy
    refine VO.call rfl rfl (fk Tryz.func168) (λmn oY vm=>(cJ _ _ _ mn ((h9.iJ oY).in z9) aa).mono ?_)
    rintro e w10 ⟨rfl,ta⟩
    rw[sr]
    refine eH ta ?_
    intro gP _ Dw
    refine VO.call rfl rfl (fk Tryz.func168) (λnW rH wC=>(cJ _ _ _ nW ((h9.iJ (gP.ay rH)).in z9) aa).mono ?_)
    rintro e w11 ⟨rfl,wD⟩
    rw[sr]
    refine eH wD ?_
    intro kQ _ GJ
    refine VO.call rfl rfl (fk Tryz.func168) (λrI vn Dx=>(cJ _ Y k rI ((h2.iJ (fj.ay (lj.ay (oo.ay (vY.ay (Du.ay (Cq.ay (Dv.ay (gP.ay (kQ.ay vn)))))))))).to mz) aa).mono ?_)
    rintro e Bi ⟨rfl,yN⟩
    rw[sy]
    refine⟨_,rfl,yN,λoZ _ Kj=>wV rfl ?_⟩
    (repeat (first|refine wN ?_|refine wP rfl ?_|refine xz rfl ?_|refine wO rfl rfl ?_))
    refine VS.uN (lP _ _) (iU _ _) 5 rfl ?_
    (repeat' (first|refine VA.go rfl ?_|refine VA.fin rfl ?_|refine VA.dz _ rfl rfl ?_|refine VA.cons rfl ?_ ?_|exact VA.nil rfl))
    all_goals
     refine dY ?_
     refine sH ?_;intro wz kz bz
     obtain⟨g1,g2⟩:=law e1 e2 hY0 (.inl ⟨.inl rfl,rfl,rfl⟩)
     exact⟨.inr ⟨hY,_,_,rfl,aj.cast ((h7.iJ (Cq.ay (Dv.ay (gP.ay (kQ.ay (oZ.ay kz)))))).mono xG.size) g1.symm,aj.cast ((h9.iJ (gP.ay (kQ.ay (oZ.ay kz)))).mono Ki.size) g2.symm⟩,bz⟩
set_option maxRecDepth 4000
theorem gcd_len {a b N:Nat} (hb:b≠0) (ha:(halves a).length<=N) (hbl:(halves b).length<=N):(halves (a%b)).length<=N:=Nat.le_trans (cN aa (Nat.le_of_lt (Nat.mod_lt a (Nat.pos_of_ne_zero hb)))) hbl
theorem iK {P:Prop} (h:P:=by (repeat first|exact trivial|refine⟨aF.lit rfl,?_⟩|refine⟨aF.vals _,?_⟩)):P:=h
theorem Bn (v u:Value) (X Y:Int) (j k:Nat) (w:World) (hv:bq w v X j) (hu:bq w u Y k) (hj:j<=268435456) (hk:k<=268435456):
  Calls Tryz.prog 169 #[v,u] w λe w'=>∃ r,e=.returned r/\aj w' w.heap.size r (Int.gcd X Y:Int)/\au w w':=by
 obtain⟨s,p,n,c,rfl⟩:=hv.form
 obtain⟨t,q,m,d,rfl⟩:=hu.form
 have qK:=hv.len
 have mz:=hu.len
 have l1:=jO X.natAbs
 have l2:=jO Y.natAbs
 refine ae (C:=EJ Tryz.prog w _) (args:=[_,_]) Tryz.func169 rfl Tryz.ntmps169 (bD rfl) ?_
 refine dY ?_
 refine VO.call rfl rfl (fk Tryz.func186) (λaP bG aZ=>(jM _ X j aP (hv.iJ bG)).mono ?_)
 rintro e w1 ⟨r1,rfl,h1,aB⟩
 obtain⟨s1,p1,n1,c1,rfl⟩:=h1.ft
 refine eH aB ?_
 intro cj _ bb1
 refine VO.call rfl rfl (fk Tryz.func191) (λcY di dQ=>(jP _ n1 X.natAbs cY (h1.row.iJ di) (by rw[h1.n];omega)).mono ?_)
 rintro e w3 ⟨p3,c3,rfl,h3,cu⟩
 skip
 refine eH cu ?_
 intro fj _ bb3
 refine VO.call rfl rfl (fk Tryz.func186) (λbh bQ bE=>(jM _ Y k bh (hu.iJ (cj.ay (fj.ay bQ)))).mono ?_)
 rintro e w2 ⟨r2,rfl,h2,aQ⟩
 obtain⟨s2,p2,n2,c2,rfl⟩:=h2.ft
 refine eH aQ ?_
 intro db _ bb2
 refine VO.call rfl rfl (fk Tryz.func191) (λfm gv iw=>(jP _ n2 Y.natAbs fm (h2.row.iJ gv) (by rw[h2.n];omega)).mono ?_)
 rintro e w4 ⟨p4,c4,rfl,h4,fW⟩
 skip
 refine eH fW ?_
 intro lj _ sZ
 refine VS.loop (J:=λms L M w'=>∃ (a b:Nat) (px:Option Addr) (cx:Nat) (py:Option Addr) (cy:Nat),ms=b/\Nat.gcd a b=Int.gcd X Y/\L=[(4,.box 4 0),(5,.val (.slice px (halves a).length cx)),(6,.val (.slice py (halves b).length cy))]/\M=[(4,(53,([.bool false,.slice none 0 0]:List Value).map .val))]/\
  (halves a).length<=536870912/\(halves b).length<=536870912/\w'.ownsRow w.heap.size 3 1 (.slice px (halves a).length cx) (halves a).length (ints .i64 (halves a))/\w'.ownsRow w.heap.size 3 1 (.slice py (halves b).length cy) (halves b).length (ints .i64 (halves b))) Y.natAbs
  ⟨_,_,?_,?_,?_,?_,⟨X.natAbs,Y.natAbs,p3,c3,p4,c4,rfl,rfl,rfl,rfl,by omega,by omega,wB.kp (Own.mono h3 dQ.size) (db.ay lj),Own.mono h4 iw.size⟩⟩ ?_
 ·exact dw
 ·exact dw
 ·rfl
 ·exact iK
 rintro ms L M w' ⟨a,b,px,cx,py,cy,hms,hg,rfl,rfl,la,lb,oa,ob⟩
 refine dY ?_
 by_cases lg:b=0
 ·subst lg
  have hl0:(halves 0).length=0:=by rw[jL];rfl
  refine VS.bk rfl (decide_eq_false (by rw[hl0];omega)) ?_
  refine dY ?_
  refine VO.call rfl rfl (fk Tryz.func189) (λoX qN tV=>(oW _ _ a oX (Rd.own (wB.kp oa qN)) aa).mono ?_)
  rintro e w6 ⟨p6,c6,xs6,rfl,h6,hx6,hl6,tQ⟩
  skip
  refine eH tQ ?_
  intro vY _ GH
  refine VO.cI rfl rfl (fk Tryz.func171) (λzj Bh xG=>im false _ _ xs6 zj (Rd.own (OwnU.iJ h6 Bh)) hl6 aa) (λzj Bh xG w7 s7 p7 n7 c7 h7 Ij Du _ bb7=>wV rfl ?_)
  refine dY ?_
  refine sH ?_;intro wz kz bz
  refine⟨_,rfl,aj.cast ((h7.iJ kz).mono xG.size) ?_,bz⟩
  rw[hx6,<-hg,Nat.gcd_zero_right];rfl
 ·have hlp:0<(halves b).length:=me aa lg
  refine VS.aY rfl (decide_eq_true aa) ?_
  refine dY ?_
  refine VO.call rfl rfl (fk Tryz.func204) (λiy jt ju=>(vi _ _ _ _ a b iy (Rd.own (wB.kp oa jt)) (Rd.own (wB.kp ob jt)) aa aa aa).mono ?_)
  rintro e w5 ⟨p5,c5,q5,d5,rfl,h5,h5',jf⟩
  skip
  refine eH jf ?_
  intro oo _ yL
  refine VS.back (a%b) (by rw[hms];exact Nat.mod_lt _ aa) ⟨_,_,?_,?_,?_,?_,⟨b,a%b,py,cy,q5,d5,rfl,by rw[<-hg,Nat.gcd_comm a b,Nat.gcd_comm b (a%b)];exact (Nat.gcd_rec b a).symm,rfl,rfl,lb,gcd_len lg la lb,wB.kp ob oo,Own.mono h5' ju.size⟩⟩
  ·exact dw
  ·exact dw
  ·rfl
  ·exact iK
end
set_option maxRecDepth 4000
section
open Go.RowKit
attribute [local irreducible] ak VS
theorem lT (w:World):Calls Tryz.prog 41 #[] w λe w'=>∃ r,e=.returned r/\aj w' w.heap.size r 1/\au w w':=by
 refine ae (C:=aV Tryz.prog w _) (args:=[]) Tryz.func41 rfl Tryz.ntmps41 (bD rfl) ?_
 refine ab ?_
 refine VO.cI rfl rfl (fk Tryz.func40) (λaP bG aZ=>lQ 1 aP aa aa) (λaP bG aZ w1 s1 p1 n1 c1 h1 aB cj _ bb1=>wV rfl ?_)
 refine ab ?_
 refine az ?_;intro wz kz bz
 exact⟨_,rfl,(h1.kp kz).mono aZ.size,bz⟩
def tc (s:Bool) (xs:List Nat) (t:Bool) (ys:List Nat):Bool:=cX s xs && (cX t ys && (decide (0<numOf t ys) && decide (Int.gcd (numOf s xs) (numOf t ys)=1)))
theorem vo {s t:Bool} {xs ys:List Nat} (h:tc s xs t ys=false):rq s xs t ys=0:=by
 unfold rq Dn
 split
 ·rename_i hc
  cases h1:cX s xs with
  | false=>unfold numOf;rw[if_neg (by simp[h1])];simp
  | true=>
    cases h2:cX t ys with
    | false=>
      have:numOf t ys=0:=by unfold numOf;rw[if_neg (by simp[h2])]
      omega
    | true=>
      unfold tc at h
      rw[h1,h2,decide_eq_true hc.1,decide_eq_true hc.2] at h
      cases h
 ·rfl
theorem EY {s t:Bool} {xs ys:List Nat} (h:tc s xs t ys=true):cX s xs=true/\cX t ys=true/\0<numOf t ys/\Int.gcd (numOf s xs) (numOf t ys)=1:=by
 unfold tc at h
 simp only[Bool.and_eq_true,decide_eq_true_eq] at h
 exact h
theorem ey.lim {w:World} {v:Value} {s:Bool} {xs:List Nat} (h:ey w v s xs):bI xs:=by
 obtain⟨_,_,_,_,l⟩:=h
 exact l
theorem vp {w:World} {v:Value} {s t:Bool} {xs ys:List Nat} (hv:bV w v s xs t ys) (h:tc s xs t ys=true):aW w v (rq s xs t ys):=by
 obtain⟨h1,h2,h3,h4⟩:=EY h
 obtain⟨p,c,r,d,rfl,a1,a2⟩:=hv
 obtain⟨e1,e2⟩:=lR ⟨h3,h4⟩
 refine⟨s,p,_,c,t,r,_,d,rfl,?_,?_⟩
 ·unfold rq;rw[e1]
  have l:=a1.lim
  unfold numOf
  rw[if_pos h1]
  obtain⟨c1,c2⟩:=canon l h1
  show ey _ _ _ _
  rw[<-c1,<-c2]
  assumption
 ·unfold rq;rw[e2]
  have l:=a2.lim
  unfold numOf
  rw[if_pos h2]
  obtain⟨c1,c2⟩:=canon l h2
  show ey _ _ _ _
  rw[<-c1,<-c2]
  assumption
theorem ey.in {w:World} {v:Value} {s:Bool} {xs:List Nat} {k:Nat} (h:ey w v s xs) (hk:xs.length<=k):bq w v (numOf s xs) k:=⟨s,xs,h,rfl,hk⟩
theorem iL (s t:Bool) (xs ys:List Nat) (v:Value) (w:World) (h:bV w v s xs t ys) (hx:xs.length<=536870912) (hy:ys.length<=536870912):
  Calls Tryz.prog 97 #[v] w λe w'=>e=.returned (.bool (tc s xs t ys))/\au w w':=by
 obtain⟨p,c,r,d,rfl,h1,h2⟩:=h
 refine ae (C:=aV Tryz.prog w _) (args:=[_]) Tryz.func97 rfl Tryz.ntmps97 (bD rfl) ?_
 refine ab ?_
 refine VO.call rfl rfl (fk Tryz.func150) (λaP bG aZ=>(oT s xs _ aP (h1.bo aZ)).mono ?_)
 rintro e w1 ⟨rfl,aB⟩
 cases q1:cX s xs
 ·refine aG aB ?_
  intro cj _ bb1
  refine az ?_;intro wz kz bz
  exact⟨by simp[tc,q1,jG],bz⟩
 refine aG aB ?_
 intro cj _ bb1
 refine VO.call rfl rfl (fk Tryz.func150) (λbh bQ bE=>(oT t ys _ bh (h2.bo bE)).mono ?_)
 rintro e w2 ⟨rfl,aQ⟩
 cases q2:cX t ys
 ·refine aG aQ ?_
  intro db _ bb2
  refine az ?_;intro wz kz bz
  exact⟨by simp[tc,q1,q2,jG],bz⟩
 refine aG aQ ?_
 intro db _ bb2
 refine VO.call rfl rfl (fk Tryz.func112) (λcY di dQ=>(iV _ (numOf t ys) _ cY ((h2.in (Nat.le_refl _)).bo dQ)).mono ?_)
 rintro e w3 ⟨rfl,cu⟩
 by_cases q3:0<numOf t ys
 ·rw[dt q3]
  refine aG cu ?_
  intro fj _ bb3
  refine VO.cI rfl rfl (fk Tryz.func146) (λfm gv iw=>AU _ _ (numOf s xs) (numOf t ys) _ _ fm ((h1.in (Nat.le_refl _)).bo iw) ((h2.in (Nat.le_refl _)).bo iw) hx hy) (λfm gv iw w4 s4 p4 n4 c4 h4 fW lj _ sZ=>wV rfl ?_)
  refine ab ?_
  refine VO.cI rfl rfl (fk Tryz.func41) (λiy jt ju=>lT iy) (λiy jt ju w5 s5 p5 n5 c5 h5 jf oo _ yL=>wV rfl ?_)
  refine ab ?_
  have hg:Sz (Int.gcd (numOf s xs) (numOf t ys):Int) ys.length:=by
   obtain⟨_,_,_,_,l2⟩:=h2
   refine Sz.le (Y:=numOf t ys) (vc l2 (Nat.le_refl _)) ?_
   rw[Int.natAbs_natCast,<-Int.natAbs_natCast (Int.gcd (numOf s xs) (numOf t ys))]
   have:=Int.gcd_dvd_right (numOf s xs) (numOf t ys)
   have:=Int.natAbs_dvd_natAbs.2 this
   exact Nat.le_of_dvd aa this
  refine VO.call rfl rfl (fk Tryz.func51) (λoX qN tV=>(kO _ _ (Int.gcd (numOf s xs) (numOf t ys):Int) 1 _ 1 oX ((h4.kp (jt.ay ((Kp.of jf).ay qN))).in hg) ((h5.kp qN).in (Sz.small ff)) aa aa).mono ?_)
  rintro e w6 ⟨rfl,tQ⟩
  by_cases q4:Int.gcd (numOf s xs) (numOf t ys)=1
  ·rw[show ((Int.gcd (numOf s xs) (numOf t ys):Int)-1).sign=0 by rw[q4];rfl]
   refine aG tQ ?_
   intro vY _ GH
   refine az ?_;intro wz kz bz
   exact⟨by simp[tc,q1,q2,q3,q4,jG],bz⟩
  ·have hne:(((Int.gcd (numOf s xs) (numOf t ys):Int)-1).sign == 0)=false:=by
    rw[beq_eq_false_iff_ne]
    intro e
    have:=Int.sign_eq_zero_iff_zero.1 e
    omega
   refine aG tQ ?_
   intro vY _ GH
   refine az ?_;intro wz kz bz
   exact⟨by simp only[tc,q1,q2,q3,q4,jG,Bool.true_and,decide_true,decide_false,hne],bz⟩
 ·have q4:(numOf t ys).sign=0\/(numOf t ys).sign= -1:=by
   rcases Int.lt_trichotomy (numOf t ys) 0 with e|e|e
   ·exact .inr (sign_neg e)
   ·rw[e];exact .inl rfl
   ·exact absurd e q3
  rcases q4 with q4|q4
  all_goals
   rw[q4]
   refine aG cu ?_
   intro fj _ bb3
   refine az ?_;intro wz kz bz
   exact⟨by simp[tc,q1,q2,q3,jG],bz⟩
theorem aW.zero {w:World} {p:Option Addr} {n c:Nat} {s:Bool} (h:bd w (.agg #[.bool s,.slice p n c]) 1):aW w (.agg #[.bool false,.slice none 0 0,.bool s,.slice p n c]) 0:=⟨_,_,_,_,_,_,_,_,rfl,bd.zero _,h⟩
theorem aK.zero {w:World} {B:Nat} {p:Option Addr} {n c:Nat} {s:Bool} (h:aj w B (.agg #[.bool s,.slice p n c]) 1):aK w B (.agg #[.bool false,.slice none 0 0,.bool s,.slice p n c]) 0:=⟨_,_,_,_,_,_,_,_,rfl,aj.zero _ _,h⟩
theorem bJ (v:Value) (q:Rat) (k:Nat) (w:World) (h:ax w v q k) (hk:k<=536870912):
  Calls Tryz.prog 45 #[v] w λe w'=>∃ r,e=.returned r/\aW w' r q/\au w w':=by
 obtain⟨s,xs,t,ys,fN,rfl,hx,hy⟩:=h
 have Bo:=fN
 obtain⟨p,c,r,d,rfl,_,_⟩:=fN
 refine ae (C:=aV Tryz.prog w _) (args:=[_]) Tryz.func45 rfl Tryz.ntmps45 (bD rfl) ?_
 refine ab ?_
 refine VO.call rfl rfl (fk Tryz.func97) (λaP bG aZ=>(iL s t xs ys _ aP (Bo.kp bG) aa aa).mono ?_)
 rintro e w1 ⟨rfl,aB⟩
 cases hq:tc s xs t ys
 ·refine aG aB ?_
  intro cj _ bb1
  refine VO.cI rfl rfl (fk Tryz.func41) (λbh bQ bE=>lT bh) (λbh bQ bE w2 s2 p2 n2 c2 h2 aQ db _ bb2=>wV rfl ?_)
  refine ab ?_
  refine az ?_;intro wz kz bz
  exact⟨_,rfl,by rw[vo hq];exact aW.zero (h2.kp kz).rd,bz⟩
 ·refine aG aB ?_
  intro cj _ bb1
  refine az ?_;intro wz kz bz
  exact⟨_,rfl,(vp Bo hq).kp (cj.ay kz),bz⟩
theorem DA {X Y:Int} {k:Nat} (hY:Sz Y k) (h:Y≠0):Sz (Int.gcd X Y:Int) k:=by
 refine Sz.le (Y:=Y) hY ?_
 rw[Int.natAbs_natCast,<-Int.natAbs_natCast (Int.gcd X Y)]
 exact Nat.le_of_dvd aa (Int.natAbs_dvd_natAbs.2 (Int.gcd_dvd_right X Y))
theorem dH {w w':World} {X Y:Int} {e:Ending} (h:uW w w' X Y e) (hY:Y≠0):∃ v u,e=.returned (.tuple #[v,u,.int .i64 0])/\aj w' w.heap.size v (X.fdiv Y)/\aj w' w.heap.size u (X.fmod Y):=by
 rcases h with ⟨h0,_⟩|⟨_,h⟩
 ·exact absurd h0 hY
 ·exact h
theorem jR (v u:Value) (X Y:Int) (j k:Nat) (w:World) (hv:bq w v X j) (hu:bq w u Y k) (hj:j<=268435456) (hk:k<=268435456) (hY:Y≠0):
  Calls Tryz.prog 94 #[v,u] w λe w'=>∃ r,e=.returned r/\aK w' w.heap.size r (Rat.divInt X Y)/\au w w':=by
 obtain⟨s,p,n,c,rfl⟩:=hv.form
 obtain⟨t,r,m,d,rfl⟩:=hu.form
 refine ae (C:=aV Tryz.prog w _) (args:=[_,_]) Tryz.func94 rfl Tryz.ntmps94 (bD rfl) ?_
 refine ab ?_
 refine VO.cI rfl rfl (fk Tryz.func146) (λaP bG aZ=>AU _ _ X Y j k aP (hv.kp bG) (hu.kp bG) aa aa) (λaP bG aZ w1 s1 p1 n1 c1 h1 aB cj _ bb1=>wV rfl ?_)
 refine ab ?_
 refine VO.call rfl rfl (fk Tryz.func112) (λbh bQ bE=>(iV _ Y k bh (hu.bo bE)).mono ?_)
 rintro e w2 ⟨rfl,aQ⟩
 have Km:Sz (Int.gcd X Y:Int) k:=DA hu.len hY
 have JN:(Int.gcd X Y:Int)≠0:=by
  intro e
  have:=(Int.gcd_eq_zero_iff.1 (show Int.gcd X Y=0 by omega)).2
  exact hY this
 rcases Int.lt_or_lt_of_ne hY with q|q
 ·rw[sign_neg q]
  obtain⟨l1,l2⟩:=low_neg (X:=X) q
  refine aG aQ ?_
  intro db _ bb2
  refine VO.cI rfl rfl (fk Tryz.func98) (λcY di dQ=>AR _ (Int.gcd X Y:Int) k cY ((h1.kp (db.ay di)).in Km) aa) (λcY di dQ w3 s3 p3 n3 c3 h3 cu fj _ bb3=>wV rfl ?_)
  refine ab ?_
  refine VO.call rfl rfl (fk Tryz.func147) (λfm gv iw=>(il _ _ X (-(Int.gcd X Y:Int)) j k fm (hv.bo iw) ((h3.kp gv).in Km.neg) aa aa).mono ?_)
  rintro e w4 ⟨hd4,fW⟩
  obtain⟨v4,u4,rfl,h4,h4'⟩:=dH hd4 aa
  obtain⟨s4,p4,n4,c4,rfl⟩:=h4.form
  obtain⟨t4,r4,m4,d4,rfl⟩:=h4'.form
  refine aG fW ?_
  intro lj _ sZ
  refine VO.call rfl rfl (fk Tryz.func147) (λiy jt ju=>(il _ _ Y (-(Int.gcd X Y:Int)) k k iy (hu.bo ju) ((h3.kp (lj.ay jt)).in Km.neg) aa aa).mono ?_)
  rintro e w5 ⟨hd5,jf⟩
  obtain⟨v5,u5,rfl,h5,h5'⟩:=dH hd5 aa
  obtain⟨s5,p5,n5,c5,rfl⟩:=h5.form
  obtain⟨t5,r5,m5,d5,rfl⟩:=h5'.form
  refine aG jf ?_
  intro oo _ yL
  refine az ?_;intro wz kz bz
  exact⟨_,rfl,⟨_,_,_,_,_,_,_,_,rfl,aj.cast ((h4.kp (oo.ay kz)).mono iw.size) l1,aj.cast ((h5.kp kz).mono ju.size) l2⟩,bz⟩
 ·rw[dt q]
  obtain⟨l1,l2⟩:=tS (X:=X) q
  refine aG aQ ?_
  intro db _ bb2
  refine VO.call rfl rfl (fk Tryz.func147) (λfm gv iw=>(il _ _ X (Int.gcd X Y:Int) j k fm (hv.bo iw) ((h1.kp (db.ay gv)).in Km) aa aa).mono ?_)
  rintro e w4 ⟨hd4,fW⟩
  obtain⟨v4,u4,rfl,h4,h4'⟩:=dH hd4 aa
  obtain⟨s4,p4,n4,c4,rfl⟩:=h4.form
  obtain⟨t4,r4,m4,d4,rfl⟩:=h4'.form
  refine aG fW ?_
  intro lj _ sZ
  refine VO.call rfl rfl (fk Tryz.func147) (λiy jt ju=>(il _ _ Y (Int.gcd X Y:Int) k k iy (hu.bo ju) ((h1.kp (db.ay (lj.ay jt))).in Km) aa aa).mono ?_)
  rintro e w5 ⟨hd5,jf⟩
  obtain⟨v5,u5,rfl,h5,h5'⟩:=dH hd5 aa
  obtain⟨s5,p5,n5,c5,rfl⟩:=h5.form
  obtain⟨t5,r5,m5,d5,rfl⟩:=h5'.form
  refine aG jf ?_
  intro oo _ yL
  refine az ?_;intro wz kz bz
  exact⟨_,rfl,⟨_,_,_,_,_,_,_,_,rfl,aj.cast ((h4.kp (oo.ay kz)).mono iw.size) l1,aj.cast ((h5.kp kz).mono ju.size) l2⟩,bz⟩
end
section
open Go.RowKit
attribute [local irreducible] ak VS
theorem yQ (q r:Rat):q+r=Rat.divInt (q.num*r.den+r.num*q.den) ((q.den:Int)*r.den):=by
 rw[Rat.add_def',<-Rat.divInt_ofNat];simp
theorem add_same {q r:Rat} (h:(q.den:Int)=r.den):q+r=Rat.divInt (q.num+r.num) q.den:=by
 rw[yQ,<-h]
 have hd:(q.den:Int)≠0:=by have:=q.den_nz;omega
 rw[<-Int.add_mul,Rat.divInt_mul_right hd]
theorem EZ (q r:Rat):q*r=Rat.divInt (q.num*r.num) ((q.den:Int)*r.den):=by
 rw[Rat.mul_def',<-Rat.divInt_ofNat];simp
theorem kS {X Y:Int} {k l:Nat} (hX:Sz X k) (hY:Sz Y l) (h:Y≠0):Sz (Rat.divInt X Y).num k/\Sz ((Rat.divInt X Y).den:Int) l:=by
 constructor
 ·refine Sz.le hX ?_
  rw[Rat.num_divInt]
  have h1:(Y.sign*X/(Y.gcd X:Int)).natAbs<=(Y.sign*X).natAbs:=Int.natAbs_ediv_le_natAbs _ _
  rw[Int.natAbs_mul] at h1
  have h2:Y.sign.natAbs=1:=by
   rcases Int.lt_or_lt_of_ne h with e|e
   ·rw[sign_neg e];rfl
   ·rw[dt e];rfl
  rw[h2,Nat.one_mul] at h1
  exact h1
 ·refine Sz.le hY ?_
  rw[Rat.den_divInt,if_neg h,Int.natAbs_natCast]
  exact Nat.div_le_self _ _
theorem bW.add {q r:Rat} {k l:Nat} (hq:bW q k) (hr:bW r l):bW (q+r) (k+l+1):=by
 rw[yQ]
 have hd:(q.den:Int)*r.den≠0:=Int.mul_ne_zero (by have:=q.den_nz;omega) (by have:=r.den_nz;omega)
 obtain⟨h1,h2⟩:=kS (Sz.add (hq.1.mul hr.2) (hr.1.mul hq.2) (m:=k+l) aa aa) (hq.2.mul hr.2) hd
 exact⟨h1,h2.mono aa⟩
theorem bW.mul {q r:Rat} {k l:Nat} (hq:bW q k) (hr:bW r l):bW (q*r) (k+l):=by
 rw[EZ]
 have hd:(q.den:Int)*r.den≠0:=Int.mul_ne_zero (by have:=q.den_nz;omega) (by have:=r.den_nz;omega)
 exact kS (hq.1.mul hr.1) (hq.2.mul hr.2) hd
theorem bW.neg {q:Rat} {k:Nat} (hq:bW q k):bW (-q) k:=⟨by rw[Rat.neg_num];exact hq.1.neg,by rw[Rat.neg_den];exact hq.2⟩
theorem bW.sub {q r:Rat} {k l:Nat} (hq:bW q k) (hr:bW r l):bW (q-r) (k+l+1):=by rw[Rat.sub_eq_add_neg];exact hq.add hr.neg
def jB (q r:Rat):Int:=if q<r then-1 else if q=r then 0 else 1
theorem Bp (q r:Rat):(q.num*r.den-r.num*q.den).sign=jB q r:=by
 unfold jB
 by_cases h1:q<r
 ·rw[if_pos h1];exact sign_neg (by have:=(Rat.lt_iff q r).1 h1;omega)
 ·rw[if_neg h1]
  by_cases h2:q=r
  ·subst h2;rw[if_pos rfl,Int.sub_self];rfl
  ·rw[if_neg h2]
   refine dt ?_
   have a:=mt (Rat.lt_iff q r).2 h1
   have b:=mt Rat.eq_iff_mul_eq_mul.2 h2
   omega
theorem GL (q:Rat):q.num.sign=jB q 0:=by
 have:=Bp q 0
 simpa using this
def nc (Y:Int):Int:=if Y=0 then 20 else 0
theorem DB (v u:Value) (X Y:Int) (j k:Nat) (w:World) (hv:bq w v X j) (hu:bq w u Y k) (hj:j<=268435456) (hk:k<=268435456):
  Calls Tryz.prog 174 #[v,u] w λe w'=>∃ r,e=.returned (.tuple #[r,.int .i64 (nc Y)])/\aK w' w.heap.size r (Rat.divInt X Y)/\au w w':=by
 obtain⟨s,p,n,c,rfl⟩:=hv.form
 obtain⟨t,r,m,d,rfl⟩:=hu.form
 refine ae (C:=aV Tryz.prog w _) (args:=[_,_]) Tryz.func174 rfl Tryz.ntmps174 (bD rfl) ?_
 refine ab ?_
 refine VO.call rfl rfl (fk Tryz.func112) (λaP bG aZ=>(iV _ Y k aP (hu.bo aZ)).mono ?_)
 rintro e w1 ⟨rfl,aB⟩
 by_cases hY:Y=0
 ·rw[show Y.sign=0 by rw[hY];rfl]
  refine aG aB ?_
  intro cj _ bb1
  refine VO.cI rfl rfl (fk Tryz.func41) (λbh bQ bE=>lT bh) (λbh bQ bE w2 s2 p2 n2 c2 h2 aQ db _ bb2=>wV rfl ?_)
  refine ab ?_
  refine az ?_;intro wz kz bz
  refine⟨_,by rw[nc,if_pos hY];rfl,?_,bz⟩
  rw[hY,Rat.divInt_zero]
  exact aK.zero ((h2.kp kz).mono bE.size)
 ·have hs:(Y.sign == 0)=false:=by
   rw[beq_eq_false_iff_ne]
   exact λe=>hY (Int.sign_eq_zero_iff_zero.1 e)
  rcases Int.lt_or_lt_of_ne hY with q|q
  all_goals
   first|rw[sign_neg q]|rw[dt q]
   refine aG aB ?_
   intro cj _ bb1
   refine VO.cR rfl rfl (fk Tryz.func94) (λbh bQ bE=>jR _ _ X Y j k bh (hv.bo bE) (hu.bo bE) hj hk hY) (λbh bQ bE w2 s2 p2 n2 c2 t2 r2 m2 d2 h2 aQ db _ bb2=>wV rfl ?_)
   refine ab ?_
   refine az ?_;intro wz kz bz
   exact⟨_,by rw[nc,if_neg hY];rfl,(h2.kp kz).mono bE.size,bz⟩
theorem GM (n d:Int) (w:World) (h0: -9223372036854775808<=n) (h1:n<=9223372036854775807) (g0: -9223372036854775808<=d) (g1:d<=9223372036854775807):
  Calls Tryz.prog 143 #[.int .i64 n,.int .i64 d] w λe w'=>∃ r,e=.returned (.tuple #[r,.int .i64 (nc d)])/\aK w' w.heap.size r (Rat.divInt n d)/\au w w':=by
 refine ae (C:=aV Tryz.prog w _) (args:=[_,_]) Tryz.func143 rfl Tryz.ntmps143 (bD rfl) ?_
 refine ab ?_
 refine VO.cI rfl rfl (fk Tryz.func40) (λaP bG aZ=>lQ n aP h0 h1) (λaP bG aZ w1 s1 p1 n1 c1 q1 aB cj _ bb1=>wV rfl ?_)
 refine ab ?_
 refine VO.cI rfl rfl (fk Tryz.func40) (λbh bQ bE=>lQ d bh g0 g1) (λbh bQ bE w2 s2 p2 n2 c2 q2 aQ db _ bb2=>wV rfl ?_)
 refine ab ?_
 refine VO.call rfl rfl (fk Tryz.func174) (λcY di dQ=>(DB _ _ n d 2 2 cY ((q1.kp (db.ay di)).in (Sz.of_lt aa)) ((q2.kp di).in (Sz.of_lt aa)) aa aa).mono ?_)
 rintro e w3 ⟨r3,rfl,q3,cu⟩
 obtain⟨s3,p3,n3,c3,t3,x3,m3,d3,rfl⟩:=q3.form
 refine aG cu ?_
 intro fj _ bb3
 refine az ?_;intro wz kz bz
 exact⟨_,rfl,(q3.kp kz).mono dQ.size,bz⟩
theorem bK (n:Int) (w:World) (h0: -9223372036854775808<=n) (h1:n<=9223372036854775807):
  Calls Tryz.prog 11 #[.int .i64 n] w λe w'=>∃ r,e=.returned r/\aK w' w.heap.size r (n:Rat)/\au w w':=by
 refine ae (C:=aV Tryz.prog w _) (args:=[_]) Tryz.func11 rfl Tryz.ntmps11 (bD rfl) ?_
 refine ab ?_
 refine VO.cI rfl rfl (fk Tryz.func40) (λaP bG aZ=>lQ n aP h0 h1) (λaP bG aZ w1 s1 p1 n1 c1 q1 aB cj _ bb1=>wV rfl ?_)
 refine ab ?_
 refine VO.cI rfl rfl (fk Tryz.func41) (λbh bQ bE=>lT bh) (λbh bQ bE w2 s2 p2 n2 c2 q2 aQ db _ bb2=>wV rfl ?_)
 refine ab ?_
 refine az ?_;intro wz kz bz
 exact⟨_,rfl,⟨_,_,_,_,_,_,_,_,rfl,(q1.kp (db.ay kz)).mono aZ.size,(q2.kp kz).mono bE.size⟩,bz⟩
theorem kV (v u:Value) (q r:Rat) (k l:Nat) (w:World) (hv:aW w v q) (hu:aW w u r) (hq:bW q k) (hr:bW r l) (hk:k<=67108864) (hl:l<=67108864):
  Calls Tryz.prog 44 #[v,u] w λe w'=>∃ x,e=.returned x/\aK w' w.heap.size x (q+r)/\au w w':=by
 obtain⟨s,p,n,c,t,y,m,d,rfl⟩:=hv.form
 obtain⟨s',p',n',c',t',y',m',d',rfl⟩:=hu.form
 obtain⟨v1,v2⟩:=hv.parts
 obtain⟨u1,u2⟩:=hu.parts
 have dq:(q.den:Int)≠0:=by have:=q.den_nz;omega
 have dr:(r.den:Int)≠0:=by have:=r.den_nz;omega
 refine ae (C:=aV Tryz.prog w _) (args:=[_,_]) Tryz.func44 rfl Tryz.ntmps44 (bD rfl) ?_
 refine ab ?_
 refine VO.call rfl rfl (fk Tryz.func51) (λaP bG aZ=>(kO _ _ (q.den:Int) r.den k l aP ((v2.bo aZ).to hq.2) ((u2.bo aZ).to hr.2) aa aa).mono ?_)
 rintro e w1 ⟨rfl,aB⟩
 by_cases hd:(q.den:Int)=r.den
 ·rw[show ((q.den:Int)-r.den).sign=0 by rw[hd,Int.sub_self];rfl]
  refine aG aB ?_
  intro cj _ bb1
  refine VO.cI rfl rfl (fk Tryz.func95) (λbh bQ bE=>uV _ _ q.num r.num k l bh ((v1.bo bE).to hq.1) ((u1.bo bE).to hr.1) aa aa) (λbh bQ bE w2 s2 p2 n2 c2 q2 aQ db _ bb2=>wV rfl ?_)
  refine ab ?_
  refine VO.cR rfl rfl (fk Tryz.func94) (λcY di dQ=>jR _ _ (q.num+r.num) q.den (k+l+1) k cY ((q2.kp di).in (Sz.add hq.1 hr.1 aa aa)) ((v2.bo dQ).to hq.2) aa aa dq) (λcY di dQ w3 s3 p3 n3 c3 t3 y3 m3 d3 q3 cu fj _ bb3=>wV rfl ?_)
  refine ab ?_
  refine az ?_;intro wz kz bz
  exact⟨_,rfl,aK.cast ((q3.kp kz).mono dQ.size) (add_same hd).symm,bz⟩
 ·have hs:((((q.den:Int)-r.den).sign == 0))=false:=by
   rw[beq_eq_false_iff_ne]
   intro e
   have:=Int.sign_eq_zero_iff_zero.1 e
   omega
  rcases Int.lt_or_lt_of_ne (show (q.den:Int)-r.den≠0 by omega) with e|e
  all_goals
   first|rw[sign_neg e]|rw[dt e]
   refine aG aB ?_
   intro cj _ bb1
   refine VO.cI rfl rfl (fk Tryz.func96) (λbh bQ bE=>js _ _ q.num r.den k l bh ((v1.bo bE).to hq.1) ((u2.bo bE).to hr.2) aa aa) (λbh bQ bE w2 s2 p2 n2 c2 q2 aQ db _ bb2=>wV rfl ?_)
   refine ab ?_
   refine VO.cI rfl rfl (fk Tryz.func96) (λcY di dQ=>js _ _ r.num q.den l k cY ((u1.bo dQ).to hr.1) ((v2.bo dQ).to hq.2) aa aa) (λcY di dQ w3 s3 p3 n3 c3 q3 cu fj _ bb3=>wV rfl ?_)
   refine ab ?_
   refine VO.cI rfl rfl (fk Tryz.func95) (λfm gv iw=>uV _ _ (q.num*r.den) (r.num*q.den) (k+l) (l+k) fm ((q2.kp (fj.ay gv)).in (hq.1.mul hr.2)) ((q3.kp gv).in (hr.1.mul hq.2)) aa aa) (λfm gv iw w4 s4 p4 n4 c4 q4 fW lj _ sZ=>wV rfl ?_)
   refine ab ?_
   refine VO.cI rfl rfl (fk Tryz.func96) (λiy jt ju=>js _ _ q.den r.den k l iy ((v2.bo ju).to hq.2) ((u2.bo ju).to hr.2) aa aa) (λiy jt ju w5 s5 p5 n5 c5 q5 jf oo _ yL=>wV rfl ?_)
   refine ab ?_
   refine VO.cR rfl rfl (fk Tryz.func94) (λoX qN tV=>jR _ _ (q.num*r.den+r.num*q.den) ((q.den:Int)*r.den) (k+l+1) (k+l) oX ((q4.kp (oo.ay qN)).in (Sz.add (hq.1.mul hr.2) (hr.1.mul hq.2) aa aa)) ((q5.kp qN).in (hq.2.mul hr.2)) aa aa (Int.mul_ne_zero dq dr)) (λoX qN tV w6 s6 p6 n6 c6 t6 y6 m6 d6 q6 tQ vY _ GH=>wV rfl ?_)
   refine ab ?_
   refine az ?_;intro wz kz bz
   exact⟨_,rfl,aK.cast ((q6.kp kz).mono tV.size) (yQ q r).symm,bz⟩
end
section
open Go.RowKit
attribute [local irreducible] ak VS
def bU (k:Nat):Nat:=max k 1
theorem ax.rJ {w:World} {v:Value} {q:Rat} {k:Nat} (h:ax w v q k):bW q (bU k):=by
 obtain⟨s,xs,t,ys,h1,h2,h3,h4⟩:=h
 exact ax.sz (k:=bU k) ⟨s,xs,t,ys,h1,h2,by unfold bU;omega,by unfold bU;omega⟩ (by unfold bU;omega)
theorem cZ (v u:Value) (q r:Rat) (k l:Nat) (w:World) (hv:ax w v q k) (hu:ax w u r l) (hk:k<=67108864) (hl:l<=67108864):
  Calls Tryz.prog 13 #[v,u] w λe w'=>∃ x,e=.returned x/\aK w' w.heap.size x (q+r)/\au w w':=by
 obtain⟨s,p,n,c,t,y,m,d,rfl⟩:=hv.form
 obtain⟨s',p',n',c',t',y',m',d',rfl⟩:=hu.form
 refine ae (C:=aV Tryz.prog w _) (args:=[_,_]) Tryz.func13 rfl Tryz.ntmps13 (bD rfl) ?_
 refine ab ?_
 refine VO.cR rfl rfl (fk Tryz.func45) (λaP bG aZ=>bJ _ q k aP (hv.kp bG) aa) (λaP bG aZ w1 s1 p1 n1 c1 t1 y1 m1 d1 q1 aB cj _ bb1=>wV rfl ?_)
 refine ab ?_
 refine VO.cR rfl rfl (fk Tryz.func45) (λbh bQ bE=>bJ _ r l bh (hu.kp (cj.ay bQ)) aa) (λbh bQ bE w2 s2 p2 n2 c2 t2 y2 m2 d2 q2 aQ db _ bb2=>wV rfl ?_)
 refine ab ?_
 refine VO.cR rfl rfl (fk Tryz.func44) (λcY di dQ=>kV _ _ q r _ _ cY (q1.kp (db.ay di)) (q2.kp di) hv.rJ hu.rJ (by unfold bU;omega) (by unfold bU;omega)) (λcY di dQ w3 s3 p3 n3 c3 t3 y3 m3 d3 q3 cu fj _ bb3=>wV rfl ?_)
 refine ab ?_
 refine az ?_;intro wz kz bz
 exact⟨_,rfl,(q3.kp kz).mono dQ.size,bz⟩
theorem ek (v:Value) (q:Rat) (k:Nat) (w:World) (hv:ax w v q k) (hk:k<=536870912):
  Calls Tryz.prog 46 #[v] w λe w'=>∃ x,e=.returned x/\aK w' w.heap.size x (-q)/\au w w':=by
 obtain⟨s,p,n,c,t,y,m,d,rfl⟩:=hv.form
 refine ae (C:=aV Tryz.prog w _) (args:=[_]) Tryz.func46 rfl Tryz.ntmps46 (bD rfl) ?_
 refine ab ?_
 refine VO.cR rfl rfl (fk Tryz.func45) (λaP bG aZ=>bJ _ q k aP (hv.kp bG) hk) (λaP bG aZ w1 s1 p1 n1 c1 t1 y1 m1 d1 q1 aB cj _ bb1=>wV rfl ?_)
 refine ab ?_
 obtain⟨a1,a2⟩:=q1.parts
 refine VO.cI rfl rfl (fk Tryz.func98) (λbh bQ bE=>AR _ q.num _ bh ((a1.kp bQ).to hv.rJ.1) (by unfold bU;omega)) (λbh bQ bE w2 s2 p2 n2 c2 q2 aQ db _ bb2=>wV rfl ?_)
 refine ab ?_
 refine VO.cI rfl rfl (fk Tryz.func99) (λcY di dQ=>JK _ q.den _ cY ((a2.kp (db.ay di)).to hv.rJ.2) (by unfold bU;omega)) (λcY di dQ w3 s3 p3 n3 c3 q3 cu fj _ bb3=>wV rfl ?_)
 refine ab ?_
 refine az ?_;intro wz kz bz
 exact⟨_,rfl,⟨_,_,_,_,_,_,_,_,rfl,aj.cast ((q2.kp (fj.ay kz)).mono bE.size) (Rat.neg_num q).symm,aj.cast ((q3.kp kz).mono dQ.size) (by rw[Rat.neg_den,Int.natAbs_natCast])⟩,bz⟩
theorem pd (v u:Value) (q r:Rat) (k l:Nat) (w:World) (hv:ax w v q k) (hu:ax w u r l) (hk:k<=67108864) (hl:l<=67108864):
  Calls Tryz.prog 14 #[v,u] w λe w'=>∃ x,e=.returned x/\aK w' w.heap.size x (q-r)/\au w w':=by
 obtain⟨s,p,n,c,t,y,m,d,rfl⟩:=hv.form
 obtain⟨s',p',n',c',t',y',m',d',rfl⟩:=hu.form
 refine ae (C:=aV Tryz.prog w _) (args:=[_,_]) Tryz.func14 rfl Tryz.ntmps14 (bD rfl) ?_
 refine ab ?_
 refine VO.cR rfl rfl (fk Tryz.func45) (λaP bG aZ=>bJ _ q k aP (hv.kp bG) aa) (λaP bG aZ w1 s1 p1 n1 c1 t1 y1 m1 d1 q1 aB cj _ bb1=>wV rfl ?_)
 refine ab ?_
 refine VO.cR rfl rfl (fk Tryz.func46) (λbh bQ bE=>ek _ r l bh (hu.kp (cj.ay bQ)) aa) (λbh bQ bE w2 s2 p2 n2 c2 t2 y2 m2 d2 q2 aQ db _ bb2=>wV rfl ?_)
 refine ab ?_
 refine VO.cR rfl rfl (fk Tryz.func44) (λcY di dQ=>kV _ _ q (-r) _ _ cY (q1.kp (db.ay di)) (q2.kp di).rd hv.rJ hu.rJ.neg (by unfold bU;omega) (by unfold bU;omega)) (λcY di dQ w3 s3 p3 n3 c3 t3 y3 m3 d3 q3 cu fj _ bb3=>wV rfl ?_)
 refine ab ?_
 refine az ?_;intro wz kz bz
 exact⟨_,rfl,aK.cast ((q3.kp kz).mono dQ.size) (Rat.sub_eq_add_neg q r).symm,bz⟩
theorem vt (v u:Value) (q r:Rat) (k l:Nat) (w:World) (hv:ax w v q k) (hu:ax w u r l) (hk:k<=67108864) (hl:l<=67108864):
  Calls Tryz.prog 106 #[v,u] w λe w'=>∃ x,e=.returned x/\aK w' w.heap.size x (q*r)/\au w w':=by
 obtain⟨s,p,n,c,t,y,m,d,rfl⟩:=hv.form
 obtain⟨s',p',n',c',t',y',m',d',rfl⟩:=hu.form
 have dq:(q.den:Int)*r.den≠0:=Int.mul_ne_zero (by have:=q.den_nz;omega) (by have:=r.den_nz;omega)
 have zq:=hv.rJ
 have zr:=hu.rJ
 have uk:bU k<=67108864:=by unfold bU;omega
 have ul:bU l<=67108864:=by unfold bU;omega
 refine ae (C:=aV Tryz.prog w _) (args:=[_,_]) Tryz.func106 rfl Tryz.ntmps106 (bD rfl) ?_
 refine ab ?_
 refine VO.cR rfl rfl (fk Tryz.func45) (λaP bG aZ=>bJ _ q k aP (hv.kp bG) aa) (λaP bG aZ w1 s1 p1 n1 c1 t1 y1 m1 d1 q1 aB cj _ bb1=>wV rfl ?_)
 refine ab ?_
 refine VO.cR rfl rfl (fk Tryz.func45) (λbh bQ bE=>bJ _ r l bh (hu.kp (cj.ay bQ)) aa) (λbh bQ bE w2 s2 p2 n2 c2 t2 y2 m2 d2 q2 aQ db _ bb2=>wV rfl ?_)
 refine ab ?_
 obtain⟨a1,a2⟩:=q1.parts
 obtain⟨b1,b2⟩:=q2.parts
 refine VO.cI rfl rfl (fk Tryz.func96) (λcY di dQ=>js _ _ q.num r.num _ _ cY ((a1.kp (db.ay di)).to zq.1) ((b1.kp di).to zr.1) aa aa) (λcY di dQ w3 s3 p3 n3 c3 q3 cu fj _ bb3=>wV rfl ?_)
 refine ab ?_
 refine VO.cI rfl rfl (fk Tryz.func96) (λfm gv iw=>js _ _ q.den r.den _ _ fm ((a2.kp (db.ay (fj.ay gv))).to zq.2) ((b2.kp (fj.ay gv)).to zr.2) aa aa) (λfm gv iw w4 s4 p4 n4 c4 q4 fW lj _ sZ=>wV rfl ?_)
 refine ab ?_
 refine VO.cR rfl rfl (fk Tryz.func94) (λiy jt ju=>jR _ _ (q.num*r.num) ((q.den:Int)*r.den) _ _ iy ((q3.kp (lj.ay jt)).in (zq.1.mul zr.1)) ((q4.kp jt).in (zq.2.mul zr.2)) aa aa dq) (λiy jt ju w5 s5 p5 n5 c5 t5 y5 m5 d5 q5 jf oo _ yL=>wV rfl ?_)
 refine ab ?_
 refine az ?_;intro wz kz bz
 exact⟨_,rfl,aK.cast ((q5.kp kz).mono ju.size) (EZ q r).symm,bz⟩
theorem Bq (v:Value) (q:Rat) (k:Nat) (w:World) (hv:ax w v q k) (hk:k<=536870912):
  Calls Tryz.prog 82 #[v] w λe w'=>e=.returned (.int .i64 (jB q 0))/\au w w':=by
 obtain⟨s,p,n,c,t,y,m,d,rfl⟩:=hv.form
 refine ae (C:=aV Tryz.prog w _) (args:=[_]) Tryz.func82 rfl Tryz.ntmps82 (bD rfl) ?_
 refine ab ?_
 refine VO.cR rfl rfl (fk Tryz.func45) (λaP bG aZ=>bJ _ q k aP (hv.kp bG) hk) (λaP bG aZ w1 s1 p1 n1 c1 t1 y1 m1 d1 q1 aB cj _ bb1=>wV rfl ?_)
 refine ab ?_
 refine VO.call rfl rfl (fk Tryz.func112) (λbh bQ bE=>(iV _ q.num _ bh ((q1.parts.1.kp bQ).to hv.rJ.1)).mono ?_)
 rintro e w2 ⟨rfl,aQ⟩
 rw[GL]
 refine aG aQ ?_
 intro db _ bb2
 refine az ?_;intro wz kz bz
 exact⟨rfl,bz⟩
theorem DC (v u:Value) (q r:Rat) (k l:Nat) (w:World) (hv:ax w v q k) (hu:ax w u r l) (hk:k<=67108864) (hl:l<=67108864):
  Calls Tryz.prog 180 #[v,u] w λe w'=>e=.returned (.int .i64 (jB q r))/\au w w':=by
 obtain⟨s,p,n,c,t,y,m,d,rfl⟩:=hv.form
 obtain⟨s',p',n',c',t',y',m',d',rfl⟩:=hu.form
 have zq:=hv.rJ
 have zr:=hu.rJ
 have uk:bU k<=67108864:=by unfold bU;omega
 have ul:bU l<=67108864:=by unfold bU;omega
 refine ae (C:=aV Tryz.prog w _) (args:=[_,_]) Tryz.func180 rfl Tryz.ntmps180 (bD rfl) ?_
 refine ab ?_
 refine VO.cR rfl rfl (fk Tryz.func45) (λaP bG aZ=>bJ _ q k aP (hv.kp bG) aa) (λaP bG aZ w1 s1 p1 n1 c1 t1 y1 m1 d1 q1 aB cj _ bb1=>wV rfl ?_)
 refine ab ?_
 refine VO.cR rfl rfl (fk Tryz.func45) (λbh bQ bE=>bJ _ r l bh (hu.kp (cj.ay bQ)) aa) (λbh bQ bE w2 s2 p2 n2 c2 t2 y2 m2 d2 q2 aQ db _ bb2=>wV rfl ?_)
 refine ab ?_
 obtain⟨a1,a2⟩:=q1.parts
 obtain⟨b1,b2⟩:=q2.parts
 refine VO.cI rfl rfl (fk Tryz.func96) (λcY di dQ=>js _ _ q.num r.den _ _ cY ((a1.kp (db.ay di)).to zq.1) ((b2.kp di).to zr.2) aa aa) (λcY di dQ w3 s3 p3 n3 c3 q3 cu fj _ bb3=>wV rfl ?_)
 refine ab ?_
 refine VO.cI rfl rfl (fk Tryz.func96) (λfm gv iw=>js _ _ r.num q.den _ _ fm ((b1.kp (fj.ay gv)).to zr.1) ((a2.kp (db.ay (fj.ay gv))).to zq.2) aa aa) (λfm gv iw w4 s4 p4 n4 c4 q4 fW lj _ sZ=>wV rfl ?_)
 refine ab ?_
 refine VO.call rfl rfl (fk Tryz.func51) (λiy jt ju=>(kO _ _ (q.num*r.den) (r.num*q.den) _ _ iy ((q3.kp (lj.ay jt)).in (zq.1.mul zr.2)) ((q4.kp jt).in (zr.1.mul zq.2)) aa aa).mono ?_)
 rintro e w5 ⟨rfl,jf⟩
 rw[Bp]
 refine aG jf ?_
 intro oo _ yL
 refine az ?_;intro wz kz bz
 exact⟨rfl,bz⟩
theorem nd (a b:Int):(a=b/\(a-b).sign=0)\/(a≠b/\((a-b).sign=1\/(a-b).sign= -1)):=by
 rcases Int.lt_trichotomy a b with e|e|e
 ·exact .inr ⟨by omega,.inr (sign_neg aa)⟩
 ·exact .inl ⟨e,by rw[e,Int.sub_self];rfl⟩
 ·exact .inr ⟨by omega,.inl (dt aa)⟩
theorem Br (v u:Value) (q r:Rat) (k l:Nat) (w:World) (hv:ax w v q k) (hu:ax w u r l) (hk:k<=67108864) (hl:l<=67108864):
  Calls Tryz.prog 16 #[v,u] w λe w'=>e=.returned (.bool (decide (q=r)))/\au w w':=by
 obtain⟨s,p,n,c,t,y,m,d,rfl⟩:=hv.form
 obtain⟨s',p',n',c',t',y',m',d',rfl⟩:=hu.form
 have zq:=hv.rJ
 have zr:=hu.rJ
 have uk:bU k<=67108864:=by unfold bU;omega
 have ul:bU l<=67108864:=by unfold bU;omega
 refine ae (C:=aV Tryz.prog w _) (args:=[_,_]) Tryz.func16 rfl Tryz.ntmps16 (bD rfl) ?_
 refine ab ?_
 refine VO.cR rfl rfl (fk Tryz.func45) (λaP bG aZ=>bJ _ q k aP (hv.kp bG) aa) (λaP bG aZ w1 s1 p1 n1 c1 t1 y1 m1 d1 q1 aB cj _ bb1=>wV rfl ?_)
 refine ab ?_
 refine VO.cR rfl rfl (fk Tryz.func45) (λbh bQ bE=>bJ _ r l bh (hu.kp (cj.ay bQ)) aa) (λbh bQ bE w2 s2 p2 n2 c2 t2 y2 m2 d2 q2 aQ db _ bb2=>wV rfl ?_)
 refine ab ?_
 obtain⟨a1,a2⟩:=q1.parts
 obtain⟨b1,b2⟩:=q2.parts
 refine VO.call rfl rfl (fk Tryz.func51) (λcY di dQ=>(kO _ _ q.num r.num _ _ cY ((a1.kp (db.ay di)).to zq.1) ((b1.kp di).to zr.1) aa aa).mono ?_)
 rintro e w3 ⟨rfl,cu⟩
 rcases nd q.num r.num with ⟨hn,e⟩|⟨hn,e|e⟩
 ·rw[e]
  refine aG cu ?_
  intro fj _ bb3
  refine VO.call rfl rfl (fk Tryz.func51) (λfm gv iw=>(kO _ _ (q.den:Int) r.den _ _ fm ((a2.kp (db.ay (fj.ay gv))).to zq.2) ((b2.kp (fj.ay gv)).to zr.2) aa aa).mono ?_)
  rintro e w4 ⟨rfl,fW⟩
  rcases nd (q.den:Int) r.den with ⟨hd,e⟩|⟨hd,e|e⟩
  all_goals
   rw[e]
   refine aG fW ?_
   intro lj _ sZ
   refine az ?_;intro wz kz bz
  ·exact⟨by rw[decide_eq_true (Rat.ext hn aa)];rfl,bz⟩
  ·exact⟨by rw[decide_eq_false (λe=>hd (by rw[e]))];rfl,bz⟩
  ·exact⟨by rw[decide_eq_false (λe=>hd (by rw[e]))];rfl,bz⟩
 ·rw[e]
  refine aG cu ?_
  intro fj _ bb3
  refine az ?_;intro wz kz bz
  exact⟨by rw[decide_eq_false (λe=>hn (by rw[e]))];rfl,bz⟩
 ·rw[e]
  refine aG cu ?_
  intro fj _ bb3
  refine az ?_;intro wz kz bz
  exact⟨by rw[decide_eq_false (λe=>hn (by rw[e]))];rfl,bz⟩
end
section
open Go.RowKit
attribute [local irreducible] ak VS
def jv (w:World) (v:Value) (qs:List Rat) (k:Nat):Prop:=
 ∃ p c,v=.slice p qs.length c/\qs.length<=c/\c<=maxLen/\∀ i q,qs[i]? =some q->∃ b off s p' n c' t r m d,p=some ⟨b,off,none⟩/\
   (∀ j u,[Value.bool s,.slice p' n c',.bool t,.slice r m d][j]? =some u->w.cell? ⟨b,off+i*4+j,none⟩=some u)/\ax w (.agg #[.bool s,.slice p' n c',.bool t,.slice r m d]) q k
theorem jv.form {w:World} {v:Value} {qs:List Rat} {k:Nat} (h:jv w v qs k):∃ p c,v=.slice p qs.length c/\qs.length<=c/\c<=maxLen:=by
 obtain⟨p,c,hv,h1,h2,_⟩:=h
 exact⟨p,c,hv,h1,h2⟩
theorem jv.at {w:World} {p:Option Addr} {n c:Nat} {qs:List Rat} {k i:Nat} {q:Rat} (h:jv w (.slice p n c) qs k) (hq:qs[i]? =some q):∃ b off s p' n' c' t r m d,p=some ⟨b,off,none⟩/\
  (∀ j u,[Value.bool s,.slice p' n' c',.bool t,.slice r m d][j]? =some u->w.cell? ⟨b,off+i*4+j,none⟩=some u)/\ax w (.agg #[.bool s,.slice p' n' c',.bool t,.slice r m d]) q k:=by
 obtain⟨p',c',hv,h1,h2,h3⟩:=h
 cases hv
 exact h3 i q hq
theorem jv.bo {w w':World} {v:Value} {qs:List Rat} {k:Nat} (h:jv w v qs k) (hb:au w w'):jv w' v qs k:=by
 obtain⟨p,c,hv,h1,h2,h3⟩:=h
 refine⟨p,c,hv,h1,h2,λi q hq=> ?_⟩
 obtain⟨b,off,s,p',n,c',t,r,m,d,hp,hc,hr⟩:=h3 i q hq
 exact⟨b,off,s,p',n,c',t,r,m,d,hp,λj u hj=>hb.cell (hc j u hj),hr.kp (Kp.of (U:=UU) hb)⟩
theorem bf {i:Nat} (h:i<9223372036854775807):IntKind.i64.wrap ((i:Int)+1)=((i+1:Nat):Int):=by
 rw[IntWalk.i64_in _ aa];omega
def dm (qs:List Rat):Rat:=qs.foldl (·+ ·) 0
theorem aX {α:Type} {l:List α} {i:Nat} {x:α} (h:l[i]? =some x):l.take (i+1)=l.take i++[x]:=by
 obtain⟨hi,rfl⟩:=List.getElem?_eq_some_iff.1 h
 exact List.take_succ_eq_append_getElem hi
theorem nL {qs:List Rat} {i:Nat} {q:Rat} (h:qs[i]? =some q):dm (qs.take (i+1))=dm (qs.take i)+q:=by
 rw[aX h];simp[dm,List.foldl_append]
def bM (k i:Nat):Nat:=1+i*(bU k+1)
theorem sJ (k i:Nat):bM k (i+1)=bM k i+bU k+1:=by unfold bM;rw[Nat.add_mul,Nat.one_mul];omega
theorem nM {k i n:Nat} (h:i<=n):bM k i<=bM k n:=by unfold bM;have:=Nat.mul_le_mul_right (bU k+1) h;omega
theorem jw (v:Value) (qs:List Rat) (k:Nat) (w:World) (hv:jv w v qs k) (hk:bM k qs.length<=67108864):
  Calls Tryz.prog 43 #[v] w λe w'=>∃ x,e=.returned x/\aK w' w.heap.size x (dm qs)/\bW (dm qs) (bM k qs.length)/\au w w':=by
 obtain⟨p,c,rfl,dK,eE⟩:=hv.form
 obtain⟨N,hN⟩:∃ N,N=qs.length:=⟨_,rfl⟩
 rw[<-hN] at hv hk dK ⊢
 have hNm:N<9223372036854775807:=by unfold bM at hk;have:=Nat.le_mul_of_pos_right N (show 0<bU k+1 by omega);omega
 have huk:bU k<=67108864\/N=0:=by
  rcases Nat.eq_zero_or_pos N with e|e
  ·exact .inr e
  ·left;unfold bM at hk;have:=Nat.le_mul_of_pos_left (bU k+1) e;omega
 refine ae (C:=aV Tryz.prog w _) (args:=[_]) Tryz.func43 rfl Tryz.ntmps43 (bD rfl) ?_
 refine ab ?_
 refine VO.cR rfl rfl (fk Tryz.func11) (λaP bG aZ=>bK 0 aP aa aa) (λaP bG aZ w1 s1 p1 n1 c1 t1 y1 m1 d1 q1 aB cj _ bb1=>wV rfl ?_)
 refine ab ?_
 refine VS.loop (J:=λn L M w'=>∃ i s p' n' c' t r m d,i<=N/\n=N-i/\L=[(7,.val (.slice p N c)),(8,.val (.int .i64 (N:Int))),(9,.val (.int .i64 (i:Int))),(3,.box 3 0),(2,.box 2 0)]/\
  M=[(2,(34,([.bool false,.slice none 0 0,.bool false,.slice none 0 0]:List Value).map .val)),(3,(34,([.bool s,.slice p' n' c',.bool t,.slice r m d]:List Value).map .val))]/\aK w' w.heap.size (.agg #[.bool s,.slice p' n' c',.bool t,.slice r m d]) (dm (qs.take i))/\bW (dm (qs.take i)) (bM k i)) N ⟨_,_,?_,?_,?_,?_,⟨0,s1,p1,n1,c1,t1,y1,m1,d1,by omega,by omega,rfl,rfl,(q1.mono aZ.size).cast (by simp[dm]),by simp only[List.take_zero,dm,List.foldl_nil,bM,Nat.zero_mul,Nat.add_zero];exact bW.zero⟩⟩ ?_
 ·exact dw
 ·exact dw
 ·rfl
 ·exact iK
 rintro n L M w' ⟨i,s,p',n',c',t,r,m,d,hi,rfl,rfl,rfl,ho,hz⟩
 refine ab ?_
 by_cases hlt:i<N
 ·obtain⟨q,hq⟩:∃ q,qs[i]? =some q:=⟨_,List.getElem?_eq_getElem aa⟩
  obtain⟨b,off,s2,p2,n2,c2,t2,r2,m2,d2,rfl,hc,lh⟩:=hv.at hq
  refine VS.aY rfl (decide_eq_true (Int.ofNat_lt.2 hlt)) ?_
  refine ab ?_
  refine VO.cond rfl eP (wV rfl ?_)
  refine VO.read rfl [.bool s2,.slice p2 n2 c2,.bool t2,.slice r2 m2 d2] rfl (λj u hj=>by rw[Addr.add_mid,Int.toNat_natCast];exact hc j u hj) (wV rfl ?_)
  refine ab ?_
  refine VO.call rfl rfl (fk Tryz.func45) (λbh bQ bE=>(bJ _ q k bh ((lh.kp (Kp.of (U:=UU) bE))) (by have:=hk;unfold bU at*;omega)).mono ?_)
  rintro e w2 ⟨r2',rfl,q2,aQ⟩
  obtain⟨s3,p3,n3,c3,t3,y3,m3,d3,rfl⟩:=q2.form
  refine aG aQ ?_
  intro db _ bb2
  refine VO.call rfl rfl (fk Tryz.func44) (λcY di dQ=>(kV _ _ (dm (qs.take i)) q (bM k i) (bU k) cY ((ho.kp (db.ay di)).rd) (q2.kp di) hz lh.rJ (by have:=nM (k:=k) hi;omega) aa).mono ?_)
  rintro e w3 ⟨r3',rfl,q3,cu⟩
  obtain⟨s4,p4,n4,c4,t4,y4,m4,d4,rfl⟩:=q3.form
  refine aG cu ?_
  intro fj _ bb3
  refine VS.back (N-(i+1)) aa ⟨_,_,?_,?_,?_,?_,⟨i+1,s4,p4,n4,c4,t4,y4,m4,d4,by omega,rfl,rfl,rfl,(q3.mono dQ.size).cast (nL hq).symm,by rw[nL hq,sJ];exact hz.add lh.rJ⟩⟩
  ·refine⟨rfl,rfl,?_,rfl,rfl,trivial⟩
   rw[<-bf aa];rfl
  ·exact dw
  ·rfl
  ·exact iK
 ·refine VS.bk rfl (decide_eq_false (λe=>hlt (Int.ofNat_lt.1 e))) ?_
  refine ab ?_
  refine az ?_;intro wz kz bz
  obtain rfl:i=N:=by omega
  rw[List.take_of_length_le aa] at ho hz
  exact⟨_,rfl,ho.kp kz,hz,bz⟩
def jS (y x:Rat):Bool:=decide (jB y x<0)
def Kn (y x:Rat):Bool:=decide (jB y x>0)
theorem Bs (v u:Value) (x y:Rat) (k l:Nat) (w:World) (hv:ax w v x k) (hu:ax w u y l) (hk:k<=67108864) (hl:l<=67108864):
  Calls Tryz.prog 154 #[v,u] w λe w'=>e=.returned (.bool (jS y x))/\au w w':=by
 obtain⟨s,p,n,c,t,z,m,d,rfl⟩:=hv.form
 obtain⟨s',p',n',c',t',z',m',d',rfl⟩:=hu.form
 refine ae (C:=aV Tryz.prog w _) (args:=[_,_]) Tryz.func154 rfl Tryz.ntmps154 (bD rfl) ?_
 refine ab ?_
 refine VO.cB rfl rfl (fk Tryz.func180) (λaP bG aZ=>DC _ _ y x l k aP (hu.kp bG) (hv.kp bG) hl hk) (λaP bG aZ w1 aB cj _ bb1=>wV rfl ?_)
 refine ab ?_
 refine az ?_;intro wz kz bz
 exact⟨rfl,bz⟩
theorem Bt (s:Bool) (p:Option Addr) (n c:Nat) (t:Bool) (r:Option Addr) (m d:Nat) (w:World):
  Calls Tryz.prog 153 #[.agg #[.bool s,.slice p n c,.bool t,.slice r m d]] w λe w'=>e=.returned (.func (.func 154) #[.agg #[.bool s,.slice p n c,.bool t,.slice r m d]] #[])/\au w w':=by
 refine ae (C:=aV Tryz.prog w _) (args:=[_]) Tryz.func153 rfl Tryz.ntmps153 (bD rfl) ?_
 refine ab ?_
 refine az ?_;intro wz kz bz
 exact⟨rfl,bz⟩
def gH (better:Rat->Rat->Bool) (q:Rat) (qs:List Rat):Rat:=qs.foldl (λo y=>if better y o=true then y else o) q
theorem DD {better:Rat->Rat->Bool} {x:Rat} {qs:List Rat} {i:Nat} {q:Rat} (h:qs[i]? =some q):gH better x (qs.take (i+1))=if better q (gH better x (qs.take i))=true then q else gH better x (qs.take i):=by
 rw[aX h];unfold gH;rw[List.foldl_append];rfl
theorem Bu (fB fL:FuncId) (better:Rat->Rat->Bool) (kB:jh Tryz.prog fB) (kL:jh Tryz.prog fL)
  (hB:∀ (s:Bool) (p:Option Addr) (n c:Nat) (t:Bool) (r:Option Addr) (m d:Nat) (w:World),Calls Tryz.prog fB #[.agg #[.bool s,.slice p n c,.bool t,.slice r m d]] w λe w'=>e=.returned (.func (.func fL) #[.agg #[.bool s,.slice p n c,.bool t,.slice r m d]] #[])/\au w w')
  (hL:∀ (v u:Value) (x y:Rat) (k l:Nat) (w:World),ax w v x k->ax w u y l->k<=67108864->l<=67108864->Calls Tryz.prog fL #[v,u] w λe w'=>e=.returned (.bool (better y x))/\au w w')
  (u v:Value) (q0:Rat) (qs:List Rat) (k:Nat) (w:World) (hu:ax w u q0 k) (hv:jv w v qs k) (hk:k<=67108863) (hlen:qs.length<9223372036854775807):
  Calls Tryz.prog 152 #[u,v,.func (.func fB) #[] #[]] w λe w'=>∃ x,e=.returned x/\aK w' w.heap.size x (gH better q0 qs)/\bW (gH better q0 qs) (bU k)/\au w w':=by
 obtain⟨s,p,n,c,t,y,m,d,rfl⟩:=hu.form
 obtain⟨P,cc,rfl,dK,eE⟩:=hv.form
 obtain⟨N,hN⟩:∃ N,N=qs.length:=⟨_,rfl⟩
 rw[<-hN] at hv hlen dK ⊢
 have zk:bU k<=67108864:=by unfold bU;omega
 refine ae (C:=aV Tryz.prog w _) (args:=[_,_,_]) Tryz.func152 rfl Tryz.ntmps152 (bD rfl) ?_
 refine ab ?_
 refine VO.cR rfl rfl (fk Tryz.func45) (λaP bG aZ=>bJ _ q0 k aP (hu.kp bG) aa) (λaP bG aZ w1 s1 p1 n1 c1 t1 y1 m1 d1 q1 aB cj _ bb1=>wV rfl ?_)
 refine ab ?_
 refine VO.cR rfl rfl (fk Tryz.func11) (λbh bQ bE=>bK 0 bh aa aa) (λbh bQ bE w2 s2 p2 n2 c2 t2 y2 m2 d2 q2 aQ db _ bb2=>wV rfl ?_)
 refine ab ?_
 refine VO.cR rfl rfl (fk Tryz.func44) (λcY di dQ=>kV _ _ q0 ((0:Int):Rat) (bU k) 1 cY (q1.kp (db.ay di)) (q2.kp di).rd hu.rJ bW.zero zk aa) (λcY di dQ w3 s3 p3 n3 c3 t3 y3 m3 d3 q3 cu fj _ bb3=>wV rfl ?_)
 refine ab ?_
 refine VS.loop (J:=λn' L M w'=>∃ i s p' n c' t r m d,i<=N/\n'=N-i/\L=[(14,.val (.slice P N cc)),(15,.val (.int .i64 (N:Int))),(16,.val (.int .i64 (i:Int))),(2,.val (.func (.func fB) #[] #[])),(7,.box 7 0),(6,.box 6 0)]/\
  M=[(6,(34,([.bool false,.slice none 0 0,.bool false,.slice none 0 0]:List Value).map .val)),(7,(34,([.bool s,.slice p' n c',.bool t,.slice r m d]:List Value).map .val))]/\aK w' w.heap.size (.agg #[.bool s,.slice p' n c',.bool t,.slice r m d]) (gH better q0 (qs.take i))/\bW (gH better q0 (qs.take i)) (bU k)) N ⟨_,_,?_,?_,?_,?_,⟨0,s3,p3,n3,c3,t3,y3,m3,d3,by omega,by omega,rfl,rfl,(q3.mono dQ.size).cast (Rat.add_zero _),hu.rJ⟩⟩ ?_
 ·exact dw
 ·exact dw
 ·rfl
 ·exact iK
 rintro n' L M w' ⟨i,s,p',n,c',t,r,m,d,hi,rfl,rfl,rfl,ho,hz⟩
 refine ab ?_
 by_cases hlt:i<N
 ·obtain⟨q,hq⟩:∃ q,qs[i]? =some q:=⟨_,List.getElem?_eq_getElem aa⟩
  obtain⟨b,off,s2,p2,n2,c2,t2,r2,m2,d2,rfl,hc,lh⟩:=hv.at hq
  refine VS.aY rfl (decide_eq_true (Int.ofNat_lt.2 hlt)) ?_
  refine ab ?_
  refine VO.cond rfl eP (wV rfl ?_)
  refine VO.read rfl [.bool s2,.slice p2 n2 c2,.bool t2,.slice r2 m2 d2] rfl (λj u hj=>by rw[Addr.add_mid,Int.toNat_natCast];exact hc j u hj) (wV rfl ?_)
  refine ab ?_
  refine VO.call rfl rfl kB (λfm gv iw=>(hB s p' n c' t r m d fm).mono ?_)
  rintro e w4 ⟨rfl,fW⟩
  refine aG fW ?_
  intro lj _ sZ
  refine VO.call rfl rfl kL (λiy jt ju=>(hL _ _ (gH better q0 (qs.take i)) q _ k iy ((ho.kp (lj.ay jt)).in hz) (lh.kp (Kp.of (U:=UU) ju)) zk aa).mono ?_)
  rintro e w5 ⟨rfl,jf⟩
  refine aG jf ?_
  intro oo _ yL
  have hsn:=DD (better:=better) (x:=q0) hq
  cases hbt:better q (gH better q0 (qs.take i))
  ·rw[hbt] at hsn
   refine VS.bk rfl rfl ?_
   refine ab ?_
   refine VS.back (N-(i+1)) aa ⟨_,_,?_,?_,?_,?_,⟨i+1,s,p',n,c',t,r,m,d,by omega,rfl,rfl,rfl,(ho.kp (lj.ay oo)).cast hsn.symm,by rw[hsn];exact hz⟩⟩
   ·refine⟨rfl,rfl,?_,rfl,rfl,rfl,trivial⟩
    rw[<-bf aa];rfl
   ·exact dw
   ·rfl
   ·exact iK
  ·rw[hbt] at hsn
   refine VS.aY rfl rfl ?_
   refine ab ?_
   refine VO.cR rfl rfl (fk Tryz.func45) (λoX qN tV=>bJ _ q k oX (lh.kp (Kp.of (U:=UU) tV)) aa) (λoX qN tV w6 s6 p6 n6 c6 t6 y6 m6 d6 q6 tQ vY _ GH=>wV rfl ?_)
   refine ab ?_
   refine VO.cR rfl rfl (fk Tryz.func11) (λzj Bh xG=>bK 0 zj aa aa) (λzj Bh xG w7 s7 p7 n7 c7 t7 y7 m7 d7 q7 Ij Du _ bb7=>wV rfl ?_)
   refine ab ?_
   refine VO.cR rfl rfl (fk Tryz.func44) (λGI ka8 Il=>kV _ _ q ((0:Int):Rat) (bU k) 1 GI (q6.kp (Du.ay ka8)) (q7.kp ka8).rd lh.rJ bW.zero zk aa) (λGI ka8 Il w8 s8 p8 n8 c8 t8 y8 m8 d8 q8 Ew Cq _ bb8=>wV rfl ?_)
   refine ab ?_
   refine VS.back (N-(i+1)) aa ⟨_,_,?_,?_,?_,?_,⟨i+1,s8,p8,n8,c8,t8,y8,m8,d8,by omega,rfl,rfl,rfl,(q8.mono Il.size).cast ((Rat.add_zero _).trans hsn.symm),by rw[hsn];exact lh.rJ⟩⟩
   ·refine⟨rfl,rfl,?_,rfl,rfl,rfl,trivial⟩
    rw[<-bf aa];rfl
   ·exact dw
   ·rfl
   ·exact iK
 ·refine VS.bk rfl (decide_eq_false (λe=>hlt (Int.ofNat_lt.1 e))) ?_
  refine ab ?_
  refine az ?_;intro wz kz bz
  obtain rfl:i=N:=by omega
  rw[List.take_of_length_le aa] at ho hz
  exact⟨_,rfl,ho.kp kz,hz,bz⟩
theorem DF (u v:Value) (q0:Rat) (qs:List Rat) (k:Nat) (w:World) (hu:ax w u q0 k) (hv:jv w v qs k) (hk:k<=67108863) (hlen:qs.length<9223372036854775807):
  Calls Tryz.prog 108 #[u,v] w λe w'=>∃ x,e=.returned x/\aK w' w.heap.size x (gH jS q0 qs)/\bW (gH jS q0 qs) (bU k)/\au w w':=by
 obtain⟨s,p,n,c,t,y,m,d,rfl⟩:=hu.form
 obtain⟨P,cc,rfl,dK,eE⟩:=hv.form
 refine ae (C:=aV Tryz.prog w _) (args:=[_,_]) Tryz.func108 rfl Tryz.ntmps108 (bD rfl) ?_
 refine ab ?_
 refine VO.call rfl rfl (fk Tryz.func152) (λaP bG aZ=>(Bu 153 154 jS (fk Tryz.func153) (fk Tryz.func154) Bt Bs _ _ q0 qs k aP (hu.kp bG) (hv.bo aZ) hk hlen).mono ?_)
 rintro e w1 ⟨r1,rfl,q1,z1,aB⟩
 obtain⟨s1,p1,n1,c1,t1,y1,m1,d1,rfl⟩:=q1.form
 refine aG aB ?_
 intro cj _ bb1
 refine az ?_;intro wz kz bz
 exact⟨_,rfl,(q1.kp kz).mono aZ.size,z1,bz⟩
end
set_option maxRecDepth 4000
section
open Go.RowKit
attribute [local irreducible] ak VS
theorem Bv (w:World):Calls Tryz.prog 119 #[] w λe w'=>∃ r,e=.returned r/\aK w' w.heap.size r 0/\au w w':=by
 refine ae (C:=aV Tryz.prog w _) (args:=[]) Tryz.func119 rfl Tryz.ntmps119 (bD rfl) ?_
 refine ab ?_
 refine VO.cI rfl rfl (fk Tryz.func136) (λaP bG aZ=>nJ 0 aP aa aa) (λaP bG aZ w1 s1 p1 n1 c1 q1 aB cj _ bb1=>wV rfl ?_)
 refine ab ?_
 refine VO.cI rfl rfl (fk Tryz.func136) (λbh bQ bE=>nJ 1 bh aa aa) (λbh bQ bE w2 s2 p2 n2 c2 q2 aQ db _ bb2=>wV rfl ?_)
 refine ab ?_
 refine az ?_;intro wz kz bz
 exact⟨_,rfl,⟨_,_,_,_,_,_,_,_,rfl,(q1.kp (db.ay kz)).mono aZ.size,(q2.kp kz).mono bE.size⟩,bz⟩
theorem Ko {X Y:Int}:Rat.divInt X Y=Rat.divInt (-X) (-Y):=(Rat.neg_divInt_neg X Y).symm
theorem DG (v u:Value) (X Y:Int) (j k:Nat) (w:World) (hv:bq w v X j) (hu:bq w u Y k) (hj:j<=134217728) (hk:k<=134217728):
  Calls Tryz.prog 135 #[v,u] w λe w'=>∃ r,e=.returned (.tuple #[r,.int .i64 (nc Y)])/\aK w' w.heap.size r (Rat.divInt X Y)/\au w w':=by
 obtain⟨s,p,n,c,rfl⟩:=hv.form
 obtain⟨t,r,m,d,rfl⟩:=hu.form
 refine ae (C:=aV Tryz.prog w _) (args:=[_,_]) Tryz.func135 rfl Tryz.ntmps135 (bD rfl) ?_
 refine ab ?_
 refine VO.call rfl rfl (fk Tryz.func168) (λaP bG aZ=>(cJ _ Y k aP (hu.bo aZ) aa).mono ?_)
 rintro e w1 ⟨rfl,aB⟩
 by_cases hY:Y=0
 ·rw[show Y.sign=0 by rw[hY];rfl]
  refine aG aB ?_
  intro cj _ bb1
  refine VO.cR rfl rfl (fk Tryz.func119) (λbh bQ bE=>Bv bh) (λbh bQ bE w2 s2 p2 n2 c2 t2 y2 m2 d2 h2 aQ db _ bb2=>wV rfl ?_)
  refine ab ?_
  refine az ?_;intro wz kz bz
  refine⟨_,by rw[nc,if_pos hY];rfl,?_,bz⟩
  rw[hY,Rat.divInt_zero]
  exact (h2.kp kz).mono bE.size
 ·rcases Int.lt_or_lt_of_ne hY with q|q
  ·rw[sign_neg q]
   refine aG aB ?_
   intro cj _ bb1
   refine VO.call rfl rfl (fk Tryz.func168) (λbh bQ bE=>(cJ _ Y k bh (hu.bo bE) aa).mono ?_)
   rintro e w2 ⟨rfl,aQ⟩
   rw[sign_neg q]
   refine aG aQ ?_
   intro db _ bb2
   refine VO.cI rfl rfl (fk Tryz.func165) (λcY di dQ=>vd _ X j cY (hv.bo dQ) aa) (λcY di dQ w3 s3 p3 n3 c3 h3 cu fj _ bb3=>wV rfl ?_)
   refine ab ?_
   refine VO.cI rfl rfl (fk Tryz.func165) (λfm gv iw=>vd _ Y k fm (hu.bo iw) aa) (λfm gv iw w4 s4 p4 n4 c4 h4 fW lj _ sZ=>wV rfl ?_)
   refine ab ?_
   have z3:Sz (-X) j:=Sz.neg hv.len
   have z4:Sz (-Y) k:=Sz.neg hu.len
   obtain⟨l1,l2⟩:=tS (X:= -X) (Y:= -Y) aa
   have Km:Sz (Int.gcd (-X) (-Y):Int) k:=DA z4 aa
   have JN:(Int.gcd (-X) (-Y):Int)≠0:=by
    intro e
    have:=(Int.gcd_eq_zero_iff.1 (show Int.gcd (-X) (-Y)=0 by omega)).2
    omega
   refine VO.cI rfl rfl (fk Tryz.func169) (λiy jt ju=>Bn _ _ (-X) (-Y) j k iy ((h3.kp (lj.ay jt)).in z3) ((h4.kp jt).in z4) aa aa) (λiy jt ju w5 s5 p5 n5 c5 h5 jf oo _ yL=>wV rfl ?_)
   refine ab ?_
   refine VO.call rfl rfl (fk Tryz.func170) (λoX qN tV=>(jQ _ _ (-X) (Int.gcd (-X) (-Y):Int) j k oX ((h3.kp (lj.ay (oo.ay qN))).in z3) ((h5.kp qN).in Km) aa aa).mono ?_)
   rintro e w6 ⟨hd6,tQ⟩
   obtain⟨v6,u6,rfl,h6,h6'⟩:=dH hd6 JN
   obtain⟨s6,p6,n6,c6,rfl⟩:=h6.form
   obtain⟨t6,r6,m6,d6,rfl⟩:=h6'.form
   refine aG tQ ?_
   intro vY _ GH
   refine VO.call rfl rfl (fk Tryz.func170) (λzj Bh xG=>(jQ _ _ (-Y) (Int.gcd (-X) (-Y):Int) k k zj ((h4.kp (oo.ay (vY.ay Bh))).in z4) ((h5.kp (vY.ay Bh)).in Km) aa aa).mono ?_)
   rintro e w7 ⟨hd7,Ij⟩
   obtain⟨v7,u7,rfl,h7,h7'⟩:=dH hd7 JN
   obtain⟨s7,p7,n7,c7,rfl⟩:=h7.form
   obtain⟨t7,r7,m7,d7,rfl⟩:=h7'.form
   refine aG Ij ?_
   intro Du _ bb7
   refine az ?_;intro wz kz bz
   rw[Ko]
   exact⟨_,by rw[nc,if_neg hY];rfl,⟨_,_,_,_,_,_,_,_,rfl,aj.cast ((h6.kp (Du.ay kz)).mono tV.size) l1,aj.cast ((h7.kp kz).mono xG.size) l2⟩,bz⟩
  ·rw[dt q]
   refine aG aB ?_
   intro cj _ bb1
   refine VO.call rfl rfl (fk Tryz.func168) (λbh bQ bE=>(cJ _ Y k bh (hu.bo bE) aa).mono ?_)
   rintro e w2 ⟨rfl,aQ⟩
   rw[dt q]
   refine aG aQ ?_
   intro db _ bb2
   obtain⟨l1,l2⟩:=tS (X:=X) (Y:=Y) q
   have Km:Sz (Int.gcd X Y:Int) k:=DA hu.len hY
   have JN:(Int.gcd X Y:Int)≠0:=by
    intro e
    have:=(Int.gcd_eq_zero_iff.1 (show Int.gcd X Y=0 by omega)).2
    omega
   refine VO.cI rfl rfl (fk Tryz.func169) (λiy jt ju=>Bn _ _ X Y j k iy (hv.bo ju) (hu.bo ju) aa aa) (λiy jt ju w5 s5 p5 n5 c5 h5 jf oo _ yL=>wV rfl ?_)
   refine ab ?_
   refine VO.call rfl rfl (fk Tryz.func170) (λoX qN tV=>(jQ _ _ X (Int.gcd X Y:Int) j k oX (hv.bo tV) ((h5.kp qN).in Km) aa aa).mono ?_)
   rintro e w6 ⟨hd6,tQ⟩
   obtain⟨v6,u6,rfl,h6,h6'⟩:=dH hd6 JN
   obtain⟨s6,p6,n6,c6,rfl⟩:=h6.form
   obtain⟨t6,r6,m6,d6,rfl⟩:=h6'.form
   refine aG tQ ?_
   intro vY _ GH
   refine VO.call rfl rfl (fk Tryz.func170) (λzj Bh xG=>(jQ _ _ Y (Int.gcd X Y:Int) k k zj (hu.bo xG) ((h5.kp (vY.ay Bh)).in Km) aa aa).mono ?_)
   rintro e w7 ⟨hd7,Ij⟩
   obtain⟨v7,u7,rfl,h7,h7'⟩:=dH hd7 JN
   obtain⟨s7,p7,n7,c7,rfl⟩:=h7.form
   obtain⟨t7,r7,m7,d7,rfl⟩:=h7'.form
   refine aG Ij ?_
   intro Du _ bb7
   refine az ?_;intro wz kz bz
   exact⟨_,by rw[nc,if_neg hY];rfl,⟨_,_,_,_,_,_,_,_,rfl,aj.cast ((h6.kp (Du.ay kz)).mono tV.size) l1,aj.cast ((h7.kp kz).mono xG.size) l2⟩,bz⟩
theorem GN (n d:Int) (w:World) (h0: -9223372036854775808<=n) (h1:n<=9223372036854775807) (g0: -9223372036854775808<=d) (g1:d<=9223372036854775807):
  Calls Tryz.prog 75 #[.int .i64 n,.int .i64 d] w λe w'=>∃ r,e=.returned (.tuple #[r,.int .i64 (nc d)])/\aK w' w.heap.size r (Rat.divInt n d)/\au w w':=by
 refine ae (C:=aV Tryz.prog w _) (args:=[_,_]) Tryz.func75 rfl Tryz.ntmps75 (bD rfl) ?_
 refine ab ?_
 refine VO.cI rfl rfl (fk Tryz.func136) (λaP bG aZ=>nJ n aP h0 h1) (λaP bG aZ w1 s1 p1 n1 c1 q1 aB cj _ bb1=>wV rfl ?_)
 refine ab ?_
 refine VO.cI rfl rfl (fk Tryz.func136) (λbh bQ bE=>nJ d bh g0 g1) (λbh bQ bE w2 s2 p2 n2 c2 q2 aQ db _ bb2=>wV rfl ?_)
 refine ab ?_
 refine VO.call rfl rfl (fk Tryz.func135) (λcY di dQ=>(DG _ _ n d 2 2 cY ((q1.kp (db.ay di)).in (Sz.of_lt aa)) ((q2.kp di).in (Sz.of_lt aa)) aa aa).mono ?_)
 rintro e w3 ⟨r3,rfl,q3,cu⟩
 obtain⟨s3,p3,n3,c3,t3,x3,m3,d3,rfl⟩:=q3.form
 refine aG cu ?_
 intro fj _ bb3
 refine az ?_;intro wz kz bz
 exact⟨_,rfl,(q3.kp kz).mono dQ.size,bz⟩
theorem ax.Bw {w:World} {v:Value} {q:Rat} {j k:Nat} (h:ax w v q j) (hjk:j<=k):ax w v q k:=by
 obtain⟨s,xs,t,ys,h1,h2,h3,h4⟩:=h
 exact⟨s,xs,t,ys,h1,h2,Nat.le_trans h3 hjk,Nat.le_trans h4 hjk⟩
theorem Kq (n d:Int) (w:World) (h0: -9223372036854775808<=n) (h1:n<=9223372036854775807) (g0: -9223372036854775808<=d) (g1:d<=9223372036854775807) (c:Int) (hc:nc d=c):
 Calls Tryz.prog 143 #[.int .i64 n,.int .i64 d] w λe w'=>∃ r,e=.returned (.tuple #[r,.int .i64 c])/\aK w' w.heap.size r (Rat.divInt n d)/\au w w':=hc▸GM n d w h0 h1 g0 g1
theorem bW.of {n d:Int} (hn:n.natAbs<4294967296) (hd:d.natAbs<4294967296):bW (Rat.divInt n d) 1:=by
 by_cases h:d=0
 ·rw[h,Rat.divInt_zero];exact bW.zero
 ·exact kS (Sz.small hn) (Sz.small hd) h
theorem aW.cast {w:World} {v:Value} {q q':Rat} (h:aW w v q) (e:q'=q):aW w v q':=e▸h
inductive dZ (w:World) (k:Nat):List Rat->List (List Value)->Prop
 | nil:dZ w k [] []
 | cons {s:Bool} {p:Option Addr} {n c:Nat} {t:Bool} {r:Option Addr} {m d:Nat} {q:Rat} {qs:List Rat} {vs:List (List Value)}:ax w (.agg #[.bool s,.slice p n c,.bool t,.slice r m d]) q k->dZ w k qs vs->dZ w k (q::qs) ([.bool s,.slice p n c,.bool t,.slice r m d]::vs)
theorem dZ.four {w:World} {k:Nat} {qs:List Rat} {vs:List (List Value)} (h:dZ w k qs vs):∀ v∈vs,v.length=4:=by
 induction h with
 | nil=>intro v hv;cases hv
 | cons _ _ ih=>
   intro v hv
   rcases List.mem_cons.1 hv with rfl|e
   ·rfl
   ·exact ih v e
theorem dZ.at {w:World} {k:Nat} {qs:List Rat} {vs:List (List Value)} (h:dZ w k qs vs):∀ (j:Nat) (q:Rat),qs[j]? =some q->∃ s p' n' c' t r m d,vs[j]? =some [Value.bool s,.slice p' n' c',.bool t,.slice r m d]/\ax w (.agg #[.bool s,.slice p' n' c',.bool t,.slice r m d]) q k:=by
 induction h with
 | nil=>intro j q hq;simp at hq
 | cons h1 _ ih=>
   intro j q hq
   cases j with
   | zero=>cases hq;exact⟨_,_,_,_,_,_,_,_,rfl,h1⟩
   | succ j=>exact ih j q (by simpa using hq)
theorem flat_at:∀ (vs:List (List Value)) (j:Nat) (v:List Value),(∀ v∈vs,v.length=4)->vs[j]? =some v->∀ (o:Nat) (u:Value),v[o]? =some u->vs.flatten[j*4+o]? =some u:=by
 intro vs
 induction vs with
 | nil=>intro j v _ h;simp at h
 | cons x r ih=>
   intro j v hl h o u hu
   have hx:x.length=4:=hl x cS
   cases j with
   | zero=>
     simp at h
     subst h
     have ho:o<4:=by have:=(List.getElem?_eq_some_iff.1 hu).1;omega
     rw[List.flatten_cons,List.getElem?_append_left aa]
     simpa using hu
   | succ j=>
     have h':r[j]? =some v:=by simpa using h
     rw[List.flatten_cons,List.getElem?_append_right aa,hx,show (j+1)*4+o-4=j*4+o by omega]
     exact ih j v (λv hv=>hl v (by simp[hv])) h' o u hu
theorem iY {C:Cx} {β:Nat->Nat} {w:World} {i:Nat} {t:TypeId} {cs:List AV} {qs:List Rat} {k:Nat} {vs:List (List Value)} {n c:Nat} (h:ji C β w i t cs) (spare:List AV) (hcs:cs=vs.flatten.map .val++spare) (hn:n=qs.length) (hq:dZ w k qs vs) (hc:n<=c) (eE:c<=maxLen):
  jv w (.slice (some ⟨β i,0,none⟩) n c) qs k:=by
 subst hn
 refine⟨_,_,rfl,hc,eE,λj q hj=> ?_⟩
 obtain⟨s,p',n',c',t',r,m,d,hvj,lh⟩:=hq.at j q hj
 refine⟨β i,0,s,p',n',c',t',r,m,d,rfl,λo u hu=> ?_,lh⟩
 refine h.cls.cell ?_
 have:=flat_at vs j _ hq.four hvj o u hu
 rw[hcs,List.map_append,aJ,List.getElem?_toArray,Nat.zero_add,List.getElem?_append_left (List.getElem?_eq_some_iff.1 this).1]
 exact this
theorem lU (v:Value) (q:Rat) (k:Nat) (w:World) (hv:ax w v q k) (hk:k<=536870912) (c:Int) (hc:jB q 0=c):
 Calls Tryz.prog 82 #[v] w λe w'=>e=.returned (.int .i64 c)/\au w w':=hc▸Bq v q k w hv hk
theorem pe (v u:Value) (q r:Rat) (k l:Nat) (w:World) (hv:ax w v q k) (hu:ax w u r l) (hk:k<=67108864) (hl:l<=67108864) (b:Bool) (hb:decide (q=r)=b):
 Calls Tryz.prog 16 #[v,u] w λe w'=>e=.returned (.bool b)/\au w w':=hb▸Br v u q r k l w hv hu hk hl
theorem bV.in {w:World} {v:Value} {s t:Bool} {xs ys:List Nat} {k:Nat} (h:bV w v s xs t ys) (hx:xs.length<=k) (hy:ys.length<=k):ax w v (rq s xs t ys) k:=⟨s,xs,t,ys,h,rfl,hx,hy⟩
theorem bV.xH {w:World} {v:Value} {s t:Bool} {xs ys:List Nat} (h:bV w v s xs t ys):∃ p c r d,v=.agg #[.bool s,.slice p xs.length c,.bool t,.slice r ys.length d]/\True:=by
 obtain⟨p,c,r,d,rfl,_⟩:=h
 exact⟨_,_,_,_,rfl,trivial⟩
theorem Fa {a b:Rat}:jB a b<=0↔a<=b:=by
 unfold jB
 split
 ·rename_i h;exact⟨λ_=>Rat.le_of_lt h,λ_=>by omega⟩
 ·split
  ·rename_i h;exact⟨λ_=>by rw[h];exact Rat.le_refl,λ_=>by omega⟩
  ·rename_i h1 h2;exact⟨λh=>by omega,λh=>absurd (Rat.not_lt.1 h1) (λh3=>h2 (Rat.le_antisymm h h3))⟩
theorem rcmp_eq {a b:Rat} (h:a=b):jB a b=0:=by subst h;unfold jB;rw[if_neg (by exact Rat.lt_irrefl),if_pos rfl]
theorem Fb {b:Rat} (h:b≠0):jB b 0≠0:=by
 unfold jB
 split
 ·omega
 ·first|omega|(rw[if_neg h];omega)
theorem vu {b:Rat} (h:b=0):jB b 0=0:=rcmp_eq h
theorem xI {y x:Rat}:jS y x=true↔y<x:=by
 unfold jS jB
 by_cases h:y<x
 ·simp[h]
 ·simp only[h,if_false,iff_false];split <;> simp
theorem nN {y x:Rat}:Kn y x=true↔x<y:=by
 unfold Kn
 rw[decide_eq_true_iff]
 constructor
 ·intro h
  exact Rat.not_le.1 (λe=>by have:=Fa.2 e;omega)
 ·intro h
  have:=mt Fa.1 (Rat.not_le.2 h)
  omega
theorem ax.inv {w:World} {v:Value} {q:Rat} {k:Nat} (h:ax w v q k):∃ s xs t ys,bV w v s xs t ys/\q=rq s xs t ys/\xs.length<=k/\ys.length<=k:=h
end
section
open Go.RowKit
abbrev KpT (T:TypeId->Bool) (w w':World):Prop:=aN ⟨UU,λ_=>True,T⟩ w w'
structure fu {α:Type} (E:World->List Value->α->Prop) (sz:Nat):Prop where
 kp:∀ {w w':World} {cs:List Value} {a:α},E w cs a->Kp UU w w'->E w' cs a
 len:∀ {w:World} {cs:List Value} {a:α},E w cs a->cs.length=sz
 ok:∀ {w:World} {cs:List Value} {a:α},E w cs a->cs.all aM=true
theorem KpT.plain {T:TypeId->Bool} {w w':World} (h:KpT T w w'):Kp UU w w':=h.lJ
inductive fO {α:Type} (E:World->List Value->α->Prop) (w:World):List α->List (List Value)->Prop
 | nil:fO E w [] []
 | cons {a:α} {es:List α} {cs:List Value} {vs:List (List Value)}:E w cs a->fO E w es vs->fO E w (a::es) (cs::vs)
section
variable {α:Type} {E:World->List Value->α->Prop} {sz:Nat} {w w':World} {es:List α} {vs:List (List Value)}
theorem fO.kp (hE:fu E sz) (h:fO E w es vs) (k:Kp UU w w'):fO E w' es vs:=by
 induction h with
 | nil=>exact .nil
 | cons h1 _ ih=>exact .cons (hE.kp h1 k) ih
theorem fO.at (h:fO E w es vs):∀ (j:Nat) (a:α),es[j]? =some a->∃ cs,vs[j]? =some cs/\E w cs a:=by
 induction h with
 | nil=>intro j q hq;simp at hq
 | cons h1 _ ih=>
   intro j q hq
   cases j with
   | zero=>cases hq;exact⟨_,rfl,h1⟩
   | succ j=>exact ih j q (by simpa using hq)
theorem fO.append {es':List α} {GO:List (List Value)} (h:fO E w es vs) (h':fO E w es' GO):fO E w (es++es') (vs++GO):=by
 induction h with
 | nil=>exact h'
 | cons h1 _ ih=>exact .cons h1 ih
theorem fO.snoc {a:α} {cs:List Value} (h:fO E w es vs) (h':E w cs a):fO E w (es++[a]) (vs++[cs]):=h.append (.cons h' .nil)
theorem fO.ok (hE:fu E sz) (h:fO E w es vs):vs.flatten.all aM=true/\vs.flatten.length=es.length*sz:=by
 induction h with
 | nil=>exact⟨rfl,by simp⟩
 | cons h1 _ ih=>
   refine⟨?_,?_⟩
   ·rw[List.flatten_cons,List.all_append,ih.1,hE.ok h1];rfl
   ·rw[List.flatten_cons,List.length_append,ih.2,hE.len h1,List.length_cons,Nat.add_mul,Nat.one_mul,Nat.add_comm]
theorem fO.cell (hE:fu E sz) (h:fO E w es vs):∀ (j:Nat) (cs:List Value),vs[j]? =some cs->∀ (o:Nat) (u:Value),cs[o]? =some u->vs.flatten[j*sz+o]? =some u:=by
 induction h with
 | nil=>intro j v h;simp at h
 | @cons a es cs vs h1 _ ih=>
   intro j v h o u hu
   have hx:=hE.len h1
   cases j with
   | zero=>
     simp at h
     subst h
     have ho:o<sz:=by have:=(List.getElem?_eq_some_iff.1 hu).1;omega
     rw[List.flatten_cons,Nat.zero_mul,Nat.zero_add,List.getElem?_append_left aa]
     exact hu
   | succ j=>
     rw[List.flatten_cons,List.getElem?_append_right (by rw[Nat.add_mul];omega)]
     have:=ih j v (by simpa using h) o u hu
     rw[<-this]
     congr 1
     rw[Nat.add_mul]
     omega
def bL (E:World->List Value->α->Prop) (sz:Nat) (w:World) (v:Value) (es:List α):Prop:=
 ∃ p c,v=.slice p es.length c/\es.length<=c/\c<=maxLen/\∀ (i:Nat) (a:α),es[i]? =some a->∃ b off cs,p=some ⟨b,off,none⟩/\(∀ (j:Nat) (u:Value),cs[j]? =some u->w.cell? ⟨b,off+i*sz+j,none⟩=some u)/\E w cs a
theorem bL.form {v:Value} (h:bL E sz w v es):∃ p c,v=.slice p es.length c/\es.length<=c/\c<=9223372036854775807:=by
 obtain⟨p,c,hv,h1,h2,_⟩:=h
 exact⟨p,c,hv,h1,by simpa [maxLen] using h2⟩
theorem bL.at {p:Option Addr} {n c i:Nat} {a:α} (h:bL E sz w (.slice p n c) es) (hq:es[i]? =some a):∃ b off cs,p=some ⟨b,off,none⟩/\(∀ (j:Nat) (u:Value),cs[j]? =some u->w.cell? ⟨b,off+i*sz+j,none⟩=some u)/\E w cs a:=by
 obtain⟨p',c',hv,h1,h2,h3⟩:=h
 cases hv
 exact h3 i a hq
theorem bL.bo (hE:fu E sz) {v:Value} (h:bL E sz w v es) (hb:au w w'):bL E sz w' v es:=by
 obtain⟨p,c,hv,h1,h2,h3⟩:=h
 refine⟨p,c,hv,h1,h2,λi q hq=> ?_⟩
 obtain⟨b,off,cs,hp,hc,hr⟩:=h3 i q hq
 exact⟨b,off,cs,hp,λj u hj=>hb.cell (hc j u hj),hE.kp hr (Kp.of hb)⟩
theorem bL.mono {E':World->List Value->α->Prop} {v:Value} (h:bL E sz w v es) (hm:∀ (i:Nat) (a:α) (cs:List Value),es[i]? =some a->E w cs a->E' w cs a):bL E' sz w v es:=by
 obtain⟨p,c,hv,h1,h2,h3⟩:=h
 refine⟨p,c,hv,h1,h2,λi q hq=> ?_⟩
 obtain⟨b,off,cs,hp,hc,hr⟩:=h3 i q hq
 exact⟨b,off,cs,hp,hc,hm i q cs hq hr⟩
theorem bL.nil (w:World) (E:World->List Value->α->Prop) (sz:Nat):bL E sz w (.slice none 0 0) []:=⟨none,0,rfl,Nat.le_refl _,by decide,λi q hq=>by simp at hq⟩
theorem kW (hE:fu E sz) {b n c:Nat} {t:TypeId} {spare:List Value} (h:aR w b t (vs.flatten++spare).toArray) (hr:fO E w es vs) (hn:n=es.length) (hc:n<=c) (hm:c<=9223372036854775807):bL E sz w (.slice (some ⟨b,0,none⟩) n c) es:=by
 subst hn
 refine⟨_,_,rfl,hc,by simpa [maxLen] using hm,λi a ha=> ?_⟩
 obtain⟨cs,h1,h2⟩:=hr.at i a ha
 refine⟨b,0,cs,rfl,λj u hj=> ?_,h2⟩
 have:=hr.cell hE i cs h1 j u hj
 refine h.cell ?_
 rw[List.getElem?_toArray,Nat.zero_add,List.getElem?_append_left (List.getElem?_eq_some_iff.1 this).1]
 exact this
theorem nO (hE:fu E sz) {C:Cx} {β:Nat->Nat} {i n c:Nat} {t:TypeId} {cs:List AV} (h:ji C β w i t cs) (spare:List AV) (hcs:cs=vs.flatten.map .val++spare) (hr:fO E w es vs) (hn:n=es.length) (hc:n<=c) (hm:c<=9223372036854775807):
  bL E sz w (.slice (some ⟨β i,0,none⟩) n c) es:=by
 refine kW hE (spare:=spare.map (AV.leaf β)) (t:=t) ?_ hr hn hc hm
 have:=h.cls
 rw[hcs,List.map_append,aJ] at this
 exact this
def fo (E:World->List Value->α->Prop) (sz:Nat) (t:TypeId) (B:Nat) (w:World) (v:Value) (es:List α):Prop:=
 (v=.slice none 0 0/\es=[])\/∃ b c vs spare,v=.slice (some ⟨b,0,none⟩) es.length c/\B<=b/\aR w b t (vs.flatten++spare).toArray/\fO E w es vs/\spare.all aM=true/\es.length<=c/\c<=9223372036854775807/\(vs.flatten++spare).length=c*sz
theorem fo.sl (hE:fu E sz) {t:TypeId} {B:Nat} {v:Value} (h:fo E sz t B w v es):bL E sz w v es:=by
 rcases h with ⟨rfl,rfl⟩|⟨b,c,vs,spare,rfl,_,h1,h2,_,h3,h4,_⟩
 ·exact bL.nil _ _ _
 ·exact kW hE h1 h2 rfl h3 h4
theorem fo.form {t:TypeId} {B:Nat} {v:Value} (h:fo E sz t B w v es):∃ p c,v=.slice p es.length c:=by
 rcases h with ⟨rfl,rfl⟩|⟨b,c,vs,spare,rfl,_⟩
 ·exact⟨_,_,rfl⟩
 ·exact⟨_,_,rfl⟩
theorem fo.kp (hE:fu E sz) {t:TypeId} {B:Nat} {v:Value} {T:TypeId->Bool} (h:fo E sz t B w v es) (k:KpT T w w') (ht:T t=true):fo E sz t B w' v es:=by
 rcases h with ⟨rfl,rfl⟩|⟨b,c,vs,spare,rfl,h0,h1,h2,h3⟩
 ·exact .inl ⟨rfl,rfl⟩
 ·refine .inr ⟨b,c,vs,spare,rfl,h0,k.block t b _ ?_ trivial h1,h2.kp hE k.plain,h3⟩
  show (Nat.beq t UU || T t)=true
  rw[ht]
  simp
end
section
variable {C:Cx} {F:Fr} {H:Hp} {w:World} {m:Option (List FuncId)} {full:Array Oper} {K:Fr->Hp->World->Prop} {o:Oper} {r:List Oper}
theorem VO.callX {α:Type} {E:World->List Value->α->Prop} {sz:Nat} (hE:fu E sz) {d:fM} {dst:Nat} {t:TypeId} {es:List α} (e:stepOf C full F H o=.call d) (hd:o.dst=some dst) (h0:H dst=none) (hN:dst<C.N) (hl:1<=lvl C.SU m o) (ht:C.K.fz t=false)
  (h:∀ w1 β,aN C.K w w1->C.Old w1->ic C β H d.ids w1->qX C.P d β w1 λe w2=>∃ v,e=.returned v/\au w1 w2/\fo E sz t w1.heap.size w2 v es/\
   (aN C.K w w2->aN C.K w1 w2->C.Old w2->es=[]->ak C m full r K (F.bn o.dst (.val (.slice none 0 0))) H w2)/\
   (∀ c vs spare,aN C.K w w2->aN C.K w1 w2->C.Old w2->fO E w2 es vs->spare.all aM=true->es.length<=c->c<=9223372036854775807->(vs.flatten++spare).length=c*sz->ak C m full r K (F.bn o.dst (.row dst 0 es.length c)) (H.put dst (t,vs.flatten.map .val++spare.map .val)) w2)):ak C m full (o::r) K F H w:=by
 show one C m full o (ak C m full r K) F H w
 unfold one
 rw[e]
 refine λw1 β h1 h2 h3=>(h w1 β h1 h2 h3).mono ?_
 rintro e w2 ⟨v,rfl,hb,hn,k1,k2⟩
 rcases hn with ⟨rfl,rfl⟩|⟨b,c,vs,spare,rfl,q1,q2,q3,q4,q5,q6,q7⟩
 ·exact⟨β,.val (.slice none 0 0),none,[],rfl,λi hi=>(by cases hi),.inr rfl,.inr rfl,wu.none hb,λa b c _ _=>k1 a b c rfl⟩
 ·let bO:Nat->Nat:=λi=>if i=dst then b else β i
  have pY:bO dst=b:=if_pos rfl
  have nX:vs.flatten.map AV.val++spare.map AV.val=(vs.flatten++spare).map AV.val:=by rw[List.map_append]
  have iu:(vs.flatten.map AV.val++spare.map AV.val).all aC=true:=by rw[nX];exact cM (by rw[List.all_append,(q3.ok hE).1,q4];rfl)
  refine⟨bO,.row dst 0 es.length c,none,[(dst,(t,vs.flatten.map AV.val++spare.map AV.val))],?_,λi hi=>.inl (by simpa [AV.ids] using hi),.inl hl,.inr rfl,?_,λa1 a2 a3 _ _=>k2 c vs spare a1 a2 a3 q3 q4 q5 q6 q7⟩
  ·show Ending.returned _=.returned (Value.slice (some ⟨bO dst,0,none⟩) es.length c);rw[pY]
  ·refine⟨hb.os,hb.tape,hb.output,hb.size,λk hk _ _ _=>Below.block hb k hk,λi hi=>if_neg (by simpa using hi),λi hi=>(by cases hi),λi hi=>(by cases hi),λx hx=> ?_,λx hx=> ?_,by simp,λx hx y hy _=> ?_,λx hx j hj=> ?_⟩
   ·cases List.mem_singleton.1 hx
    refine⟨by rw[pY];exact C.sa _ _ aa (by have:=C.fX _ h2;omega),ht,?_,iu⟩
    rw[pY,nX,aJ];exact q2
   ·cases List.mem_singleton.1 hx
    exact .inr ⟨.inl h0,by omega,.inl (by rw[pY];exact q1)⟩
   ·cases List.mem_singleton.1 hx;cases List.mem_singleton.1 hy;rfl
   ·cases List.mem_singleton.1 hx
    rw[nX,ah] at hj;cases hj
end
def mo {α:Type} (E:World->List Value->α->Prop) (sz:Nat) (w:World) (p:Option Addr) (es:List α) (n:Nat):Prop:=
 ∀ (i:Nat) (a:α),i<n->es[i]? =some a->∃ b off cs,p=some ⟨b,off,none⟩/\(∀ (j:Nat) (u:Value),cs[j]? =some u->w.cell? ⟨b,off+i*sz+j,none⟩=some u)/\E w cs a
theorem mo.zero {α:Type} {E:World->List Value->α->Prop} {sz:Nat} {w:World} {p:Option Addr} {es:List α}:mo E sz w p es 0:=λi a hi=>absurd hi (Nat.not_lt_zero i)
theorem mo.snoc {α:Type} {E:World->List Value->α->Prop} {sz:Nat} {w:World} {b off:Nat} {es:List α} {n:Nat} {a:α} {cs:List Value} (h:mo E sz w (some ⟨b,off,none⟩) es n) (ha:es[n]? =some a) (hc:∀ (j:Nat) (u:Value),cs[j]? =some u->w.cell? ⟨b,off+n*sz+j,none⟩=some u) (he:E w cs a):mo E sz w (some ⟨b,off,none⟩) es (n+1):=λi x hi hx=>by
 rcases Nat.lt_succ_iff_lt_or_eq.1 hi with h' |h'
 ·exact h i x h' hx
 ·subst h';rw[ha] at hx;cases hx;exact⟨b,off,cs,rfl,hc,he⟩
theorem mo.all {α:Type} {E E':World->List Value->α->Prop} {sz:Nat} {w:World} {p:Option Addr} {es:List α} {n c:Nat} (h:mo E sz w p es n) (h':bL E' sz w (.slice p n c) es):bL E sz w (.slice p n c) es:=by
 obtain⟨p',c',hv,h1,h2,_⟩:=h'
 cases hv
 exact⟨p,c,rfl,h1,h2,λi a ha=>h i a (List.getElem?_eq_some_iff.1 ha).1 ha⟩
theorem vw {α:Type} {E:World->List Value->α->Prop} {sz:Nat} {C:Cx} {β:Nat->Nat} {w:World} {i n c:Nat} {t:TypeId} {es:List α} {vs:List (List Value)} {spare:List AV} (h:ji C β w i t (vs.flatten.map .val++spare)) (hr:fO E w es vs) (hn:n=es.length) (hc:n<=c) (hm:c<=9223372036854775807) (hl:(vs.flatten.map AV.val++spare).length=c*sz)
  (hnw:∀ i g,C.tz i g->C.w0.heap.size<=g:=by exact λ_ _ h=>h):fo E sz t C.w0.heap.size w (.slice (some ⟨β i,0,none⟩) n c) es:=by
 subst hn
 have hk:=h.ok
 rw[List.all_append,Bool.and_eq_true] at hk
 refine .inr ⟨β i,c,vs,spare.map (AV.leaf β),rfl,hnw _ _ h.new,?_,hr,dy hk.2,hc,hm,by rw[<-hl];simp only[List.length_append,List.length_map]⟩
 have:=h.cls
 rw[List.map_append,aJ] at this
 exact this
theorem lV {n d:Int} (h0: -9223372036854775808<=n) (h1:n<=9223372036854775807) (g0: -9223372036854775808<=d) (g1:d<=9223372036854775807):bW (Rat.divInt n d) 2:=by
 by_cases hd:d=0
 ·rw[hd,Rat.divInt_zero];exact bW.zero.mono aa
 ·exact kS (Sz.of_lt aa) (Sz.of_lt aa) hd
end
set_option maxRecDepth 4000
section
open Go.RowKit
attribute [local irreducible] ak VS
theorem iM (xs:List Nat) (v:Value) (n:Nat) (w:World) (hr:Rd w 1 v n (ints .u32 xs)) (hn:n<=1073741824):
  Calls Tryz.prog 115 #[v] w λe w'=>∃ p c,e=.returned (.slice p n c)/\w'.ownsRow w.heap.size UU 1 (.slice p n c) n (ints .u32 xs)/\au w w':=by
 obtain⟨p,c,rfl,lC⟩:∃ p c,v=.slice p n c/\True:=by
  obtain⟨p,c,hv,_⟩:=hr
  exact⟨p,c,hv,trivial⟩
 refine ae (C:=aV Tryz.prog w _) (args:=[_]) Tryz.func115 rfl Tryz.ntmps115 (bD rfl) ?_
 refine ab ?_
 refine VO.appU (cQ _ _) (t:=30) (e:=191) (n:=n) (news:=ints .u32 xs) rfl rfl rfl rfl rfl (ky .u32 xs) aa (λw1 k1 b1=>hr.below b1) (λw2 p2 c2 k2 b2 ho=>wV rfl ?_)
 refine ab ?_
 refine az ?_;intro wz kz bz
 exact⟨_,_,rfl,Own.kp ho kz,bz⟩
theorem ey.Ip {w:World} {s:Bool} {p:Option Addr} {xs:List Nat} {c:Nat} (h:ey w (.agg #[.bool s,.slice p xs.length c]) s xs):Rd w 1 (.slice p xs.length c) xs.length (ints .u32 xs)/\bI xs:=by
 obtain⟨p',c',hv,hr,hl⟩:=h
 simp only[Value.agg.injEq,Array.mk.injEq,List.cons.injEq,and_true,true_and,Value.slice.injEq] at hv
 obtain⟨rfl,rfl⟩:=hv
 exact⟨hr,hl⟩
def lW (w:World) (B:Nat) (v:Value) (s:Bool) (xs:List Nat) (t:Bool) (ys:List Nat):Prop:=
 ∃ p c r d,v=.agg #[.bool s,.slice p xs.length c,.bool t,.slice r ys.length d]/\w.ownsRow B UU 1 (.slice p xs.length c) xs.length (ints .u32 xs)/\w.ownsRow B UU 1 (.slice r ys.length d) ys.length (ints .u32 ys)/\bI xs/\bI ys
theorem lW.raw {w:World} {B:Nat} {v:Value} {s:Bool} {xs:List Nat} {t:Bool} {ys:List Nat} (h:lW w B v s xs t ys):bV w v s xs t ys:=by
 obtain⟨p,c,r,d,hv,h1,h2,h3,h4⟩:=h
 exact⟨p,c,r,d,hv,⟨_,_,rfl,Rd.own h1,h3⟩,⟨_,_,rfl,Rd.own h2,h4⟩⟩
theorem lW.kp {T:TypeId->Bool} {w w':World} {B:Nat} {v:Value} {s:Bool} {xs:List Nat} {t:Bool} {ys:List Nat} (h:lW w B v s xs t ys) (k:aN ⟨UU,λ_=>True,T⟩ w w'):lW w' B v s xs t ys:=by
 obtain⟨p,c,r,d,hv,h1,h2,h3,h4⟩:=h
 exact⟨p,c,r,d,hv,Own.kp h1 k,Own.kp h2 k,h3,h4⟩
theorem lW.own {w:World} {B:Nat} {v:Value} {q:Rat} (h:lW w B v (decide (q.num<0)) (limbs q.num.natAbs) (decide ((q.den:Int)<0)) (limbs (q.den:Int).natAbs)):aK w B v q:=by
 obtain⟨p,c,r,d,rfl,h1,h2,h3,h4⟩:=h
 exact⟨_,p,_,c,_,r,_,d,rfl,⟨_,_,rfl,h1⟩,⟨_,_,rfl,h2⟩⟩
theorem fE (s t:Bool) (xs ys:List Nat) (v:Value) (w:World) (h:bV w v s xs t ys) (hx:xs.length<=1073741824) (hy:ys.length<=1073741824):
  Calls Tryz.prog 53 #[v] w λe w'=>∃ r,e=.returned r/\lW w' w.heap.size r s xs t ys/\au w w':=by
 obtain⟨p,c,r,d,rfl,h1,h2⟩:=h
 refine ae (C:=aV Tryz.prog w _) (args:=[_]) Tryz.func53 rfl Tryz.ntmps53 (bD rfl) ?_
 refine ab ?_
 refine VO.call rfl rfl (fk Tryz.func115) (λaP bG aZ=>(iM xs _ _ aP (h1.bo aZ).Ip.1 hx).mono ?_)
 rintro e w1 ⟨p1,c1,rfl,q1,aB⟩
 skip
 refine aG aB ?_
 intro cj _ bb1
 refine VO.call rfl rfl (fk Tryz.func115) (λbh bQ bE=>(iM ys _ _ bh (h2.bo bE).Ip.1 hy).mono ?_)
 rintro e w2 ⟨p2,c2,rfl,q2,aQ⟩
 skip
 refine aG aQ ?_
 intro db _ bb2
 refine az ?_;intro wz kz bz
 exact⟨_,rfl,⟨_,_,_,_,rfl,Own.kp (Own.mono q1 aZ.size) (db.ay kz),Own.kp (Own.mono q2 bE.size) kz,h1.Ip.2,h2.Ip.2⟩,bz⟩
theorem GP (s t:Bool) (xs ys:List Nat) (v:Value) (w:World) (h:bV w v s xs t ys) (hx:xs.length<=1073741824) (hy:ys.length<=1073741824):
  Calls Tryz.prog 76 #[v] w λe w'=>∃ r,e=.returned r/\lW w' w.heap.size r s xs t ys/\au w w':=by
 obtain⟨p,c,r,d,rfl,h1,h2⟩:=h
 refine ae (C:=aV Tryz.prog w _) (args:=[_]) Tryz.func76 rfl Tryz.ntmps76 (bD rfl) ?_
 refine ab ?_
 refine VO.call rfl rfl (fk Tryz.func115) (λaP bG aZ=>(iM xs _ _ aP (h1.bo aZ).Ip.1 hx).mono ?_)
 rintro e w1 ⟨p1,c1,rfl,q1,aB⟩
 skip
 refine aG aB ?_
 intro cj _ bb1
 refine VO.call rfl rfl (fk Tryz.func115) (λbh bQ bE=>(iM ys _ _ bh (h2.bo bE).Ip.1 hy).mono ?_)
 rintro e w2 ⟨p2,c2,rfl,q2,aQ⟩
 skip
 refine aG aQ ?_
 intro db _ bb2
 refine az ?_;intro wz kz bz
 exact⟨_,rfl,⟨_,_,_,_,rfl,Own.kp (Own.mono q1 aZ.size) (db.ay kz),Own.kp (Own.mono q2 bE.size) kz,h1.Ip.2,h2.Ip.2⟩,bz⟩
theorem Kr {d:Int} (h:d≠0):nc d=0:=if_neg h
theorem bX {K:KC} {w w':World} (h:aN K w w':=by (with_reducible (repeat (first|assumption|exact kU _|exact kR _|exact Kp.of (U:=UU) (by assumption)|exact aN.of (by assumption)|refine kT ?_ (by assumption))))):aN K w w':=h
theorem gQ (n d:Int) (w:World) (h0: -9223372036854775808<=n) (h1:n<=9223372036854775807) (g0: -9223372036854775808<=d) (g1:d<=9223372036854775807):
  Calls Tryz.prog 31 #[.int .i64 n,.int .i64 d] w λe w'=>∃ r,e=.returned r/\aK w' w.heap.size r (Rat.divInt n d)/\au w w':=by
 refine ae (C:=aV Tryz.prog w _) (args:=[_,_]) Tryz.func31 rfl Tryz.ntmps31 (bD rfl) ?_
 refine ab ?_
 refine VO.call rfl rfl (fk Tryz.func75) (λaP bG aZ=>(GN n d aP h0 h1 g0 g1).mono ?_)
 rintro e w1 ⟨r1,rfl,q1,aB⟩
 obtain⟨s1,p1,n1,c1,t1,y1,m1,d1,rfl⟩:=q1.form
 refine aG aB ?_
 intro cj _ bb1
 have hsz:(limbs (Rat.divInt n d).num.natAbs).length<=4/\(limbs ((Rat.divInt n d).den:Int).natAbs).length<=4:=by
  by_cases hd:d=0
  ·rw[hd,Rat.divInt_zero];exact⟨bW.zero.1.mono aa,bW.zero.2.mono aa⟩
  ·have h:=kS (X:=n) (Y:=d) (k:=2) (l:=2) (Sz.of_lt aa) (Sz.of_lt aa) hd
   exact⟨h.1.mono aa,h.2.mono aa⟩
 refine VO.call rfl rfl (fk Tryz.func76) (λbh bQ bE=>(GP _ _ _ _ _ bh (q1.kp bX).rd.raw aa aa).mono ?_)
 rintro e w2 ⟨r2,rfl,q2,aQ⟩
 obtain⟨p2,c2,y2,d2,rfl,_⟩:=q2.raw.xH
 refine aG aQ ?_
 intro db _ bb2
 refine az ?_;intro wz kz bz
 exact⟨_,rfl,((q2.kp kz).own).mono bE.size,bz⟩
theorem vx (xs:List Nat) (v u:Value) (n:Nat) (w:World) (hr:Rd w 1 v n (ints .u32 xs)) (hs:Rd w 1 u n (ints .u32 xs)) (vV:n=xs.length):
  Calls Tryz.prog 114 #[v,u] w λe w'=>e=.returned (.bool true)/\au w w':=by
 subst vV
 obtain⟨n,hn⟩:∃ n,n=xs.length:=⟨_,rfl⟩
 rw[<-hn] at hr hs
 obtain⟨p,c,rfl,dK,eE,dT⟩:=hr.u32
 obtain⟨q,d,rfl,FH,Ci,_⟩:=hs.u32
 refine ae (C:=aV Tryz.prog w _) (args:=[_,_]) Tryz.func114 rfl Tryz.ntmps114 (bD rfl) ?_
 refine ab ?_
 refine VS.bk rfl cS ?_
 refine ab ?_
 refine VS.loop (J:=λms L M w'=>∃ (k:Nat),k<=n/\ms=n-k/\L=[(0,.val (.slice p n c)),(1,.val (.slice q n d)),(5,.val (.int .i64 (k:Int)))]/\M=[]) n ⟨_,_,?_,?_,?_,?_,⟨0,by omega,rfl,rfl,rfl⟩⟩ ?_
 ·exact dw
 ·exact dw
 ·rfl
 ·exact iK
 rintro ms L M w' ⟨k,hk,hms,rfl,rfl⟩
 refine ab ?_
 by_cases qP:k<n
 ·refine VS.aY rfl (decide_eq_true (Int.ofNat_lt.2 qP)) ?_
  refine ab ?_
  obtain⟨b1,o1,x,rfl,aB,ew,kD⟩:=hr.cellAt qP
  obtain⟨b2,o2,y,rfl,aQ,mg,zx⟩:=hs.cellAt qP
  obtain rfl:x=y:=by rw[ew] at mg;exact Option.some.inj mg
  refine VO.cond rfl eP (wV rfl ?_)
  refine VO.read rfl [.int .u32 (x:Int)] rfl (gj rfl kD) (wV rfl ?_)
  refine VO.cond rfl eP (wV rfl ?_)
  refine VO.read rfl [.int .u32 (x:Int)] rfl (gj rfl zx) (wV rfl ?_)
  refine ab ?_
  refine VS.bk rfl cS ?_
  refine ab ?_
  refine VS.back (n-(k+1)) aa ⟨_,_,?_,?_,?_,?_,⟨k+1,by omega,rfl,rfl,rfl⟩⟩
  ·refine⟨rfl,rfl,?_,trivial⟩
   rw[<-bf aa];rfl
  ·exact dw
  ·rfl
  ·exact iK
 ·refine VS.bk rfl (decide_eq_false (λe=>qP (Int.ofNat_lt.1 e))) ?_
  refine ab ?_
  refine az ?_;intro wz kz bz
  exact⟨rfl,bz⟩
theorem GQ (s t:Bool) (xs ys:List Nat) (v u:Value) (w:World) (hv:bV w v s xs t ys) (hu:bV w u s xs t ys):
  Calls Tryz.prog 52 #[v,u] w λe w'=>e=.returned (.bool true)/\au w w':=by
 obtain⟨p,c,r,d,rfl,v1,v2⟩:=hv
 obtain⟨p',c',r',d',rfl,u1,u2⟩:=hu
 refine ae (C:=aV Tryz.prog w _) (args:=[_,_]) Tryz.func52 rfl Tryz.ntmps52 (bD rfl) ?_
 refine ab ?_
 refine VO.fix 12 rfl (congrArg (λb=>AV.val (.bool b)) (show (s == s)=true by simp)) ?_
 refine ab ?_
 refine VO.fix 21 rfl (congrArg (λb=>AV.val (.bool b)) (show (t == t)=true by simp)) ?_
 refine ab ?_
 refine VO.cB rfl rfl (fk Tryz.func114) (λaP bG aZ=>vx xs _ _ _ aP (v1.bo aZ).Ip.1 (u1.bo aZ).Ip.1 rfl) (λaP bG aZ w1 aB cj _ bb1=>wV rfl ?_)
 refine ab ?_
 refine VO.cB rfl rfl (fk Tryz.func114) (λbh bQ bE=>vx ys _ _ _ bh (v2.bo bE).Ip.1 (u2.bo bE).Ip.1 rfl) (λbh bQ bE w2 aQ db _ bb2=>wV rfl ?_)
 refine ab ?_
 refine az ?_;intro wz kz bz
 exact⟨rfl,bz⟩
theorem gR (q:Rat) (v u:Value) (w:World) (hv:aW w v q) (hu:aW w u q):
 Calls Tryz.prog 52 #[v,u] w λe w'=>e=.returned (.bool true)/\au w w':=GQ _ _ _ _ v u w hv.raw hu.raw
end
section
open Go.RowKit
section
variable {T:TypeId->Bool} {w w':World} {v:Value} {q:Rat} {X:Int} {B n:Nat}
theorem ax.k (h:ax w v q n) (k:aN ⟨UU,λ_=>True,T⟩ w w':=by exact bX):ax w' v q n:=h.kp k
theorem aW.k (h:aW w v q) (k:aN ⟨UU,λ_=>True,T⟩ w w':=by exact bX):aW w' v q:=h.kp k
theorem aK.k (h:aK w B v q) (k:aN ⟨UU,λ_=>True,T⟩ w w':=by exact bX):aK w' B v q:=h.kp k
theorem aK.kr (h:aK w B v q) (k:aN ⟨UU,λ_=>True,T⟩ w w':=by exact bX):aW w' v q:=(h.kp k).rd
theorem aK.ki (h:aK w B v q) (hs:bW q n) (k:aN ⟨UU,λ_=>True,T⟩ w w':=by exact bX):ax w' v q n:=(h.kp k).in hs
theorem aW.ki (h:aW w v q) (hs:bW q n) (k:aN ⟨UU,λ_=>True,T⟩ w w':=by exact bX):ax w' v q n:=(h.kp k).to hs
theorem bd.k (h:bd w v X) (k:aN ⟨UU,λ_=>True,T⟩ w w':=by exact bX):bd w' v X:=h.kp k
theorem aj.k (h:aj w B v X) (k:aN ⟨UU,λ_=>True,T⟩ w w':=by exact bX):aj w' B v X:=h.kp k
theorem aj.kr (h:aj w B v X) (k:aN ⟨UU,λ_=>True,T⟩ w w':=by exact bX):bd w' v X:=(h.kp k).rd
theorem aj.ki (h:aj w B v X) (hs:Sz X n) (k:aN ⟨UU,λ_=>True,T⟩ w w':=by exact bX):bq w' v X n:=(h.kp k).in hs
theorem bd.ki (h:bd w v X) (hs:Sz X n) (k:aN ⟨UU,λ_=>True,T⟩ w w':=by exact bX):bq w' v X n:=(h.kp k).to hs
end
theorem Sz.floor {q:Rat} {k:Nat} (h:bW q k):Sz q.floor k:=by
 refine Sz.le h.1 ?_
 rw[Rat.floor_def]
 exact Int.natAbs_ediv_le_natAbs _ _
end
section
open Go.RowKit
attribute [local irreducible] ak VS
theorem Ks {a b:Int} (h:a≠b):(a != b)=true:=by simpa using h
theorem xJ {a b:Int} (h:a=b):(a != b)=false:=by simpa using h
theorem Kt {a b:Int} (h:a=b):(a == b)=true:=by simpa using h
theorem Fc {a b:Int} (h:a≠b):(a == b)=false:=by simpa using h
structure dM {α:Type} (E:World->List Value->α->Prop) (sz:Nat) (w:World) (n c:Nat) (vs:List (List Value)) (sp:List AV) (es:List α):Prop where
 len:n=es.length
 el:fO E w es vs
 so:sp.all aC=true
 sl:aE sp=[]
 le:n<=c
 cm:c<=9223372036854775807
 fl:(vs.flatten.map AV.val++sp).length=c*sz
section
variable {α:Type} {E:World->List Value->α->Prop} {sz n c:Nat} {w w':World} {vs:List (List Value)} {sp:List AV} {es:List α}
theorem dM.kp (hE:fu E sz) (h:dM E sz w n c vs sp es) (k:Kp UU w w'):dM E sz w' n c vs sp es:=⟨h.len,h.el.kp hE k,h.so,h.sl,h.le,h.cm,h.fl⟩
theorem dM.Ff {M:List (Nat×(TypeId×List AV))} (h:dM E sz w n c vs sp es):aF M (vs.flatten.map AV.val++sp):=.append (.vals _) (.none h.sl)
theorem dM.dU (h:dM E sz w n c vs sp es):aE (vs.flatten.map AV.val++sp)=[]:=by rw[eB,ah,h.sl];rfl
theorem dM.new {C:Cx} {β:Nat->Nat} {i:Nat} {t:TypeId} (hE:fu E sz) (h:dM E sz w n c vs sp es) (o:ji C β w' i t (vs.flatten.map .val++sp)) (k:Kp UU w w') (hnw:∀ i g,C.tz i g->C.w0.heap.size<=g:=by exact λ_ _ h=>h):
 fo E sz t C.w0.heap.size w' (.slice (some ⟨β i,0,none⟩) n c) es:=vw o (h.el.kp hE k) h.len h.le h.cm h.fl hnw
theorem dM.sl' {C:Cx} {β:Nat->Nat} {i:Nat} {t:TypeId} (hE:fu E sz) (h:dM E sz w n c vs sp es) (o:ji C β w' i t (vs.flatten.map .val++sp)) (k:Kp UU w w'):
 bL E sz w' (.slice (some ⟨β i,0,none⟩) n c) es:=nO hE o sp rfl (h.el.kp hE k) h.len h.le h.cm
theorem dM.cell (hE:fu E sz) (h:dM E sz w n c vs sp es) {i:Nat} {a:α} (ha:es[i]? =some a):∃ cs,vs[i]? =some cs/\E w cs a/\cs.length=sz/\∀ (k:Nat) (ds:List Value),ds <+:cs.drop k->∀ (j:Nat) (u:AV),(ds.map AV.val)[j]? =some u->(vs.flatten.map AV.val++sp)[0+((i:Nat):Int).toNat*sz+k+j]? =some u:=by
 obtain⟨cs,h1,h2⟩:=h.el.at i a ha
 refine⟨cs,h1,h2,hE.len h2,λk ds hd j u hj=> ?_⟩
 obtain⟨t,ht⟩:=hd
 rw[List.getElem?_map] at hj
 obtain⟨x,hx,rfl⟩:=Option.map_eq_some_iff.1 hj
 have hx':cs[k+j]? =some x:=by
  rw[<-List.getElem?_drop,<-ht,List.getElem?_append_left (List.getElem?_eq_some_iff.1 hx).1];exact hx
 have:=h.el.cell hE i cs h1 (k+j) x hx'
 rw[Int.toNat_natCast,Nat.zero_add,Nat.add_assoc,List.getElem?_append_left (by rw[List.length_map];exact (List.getElem?_eq_some_iff.1 this).1),List.getElem?_map,this]
 rfl
end
section
variable {C:Cx} {F:Fr} {H:Hp} {w:World} {m:Option (List FuncId)} {full:Array Oper} {K:Fr->Hp->World->Prop} {o:Oper} {r:List Oper}
theorem VO.Bx (hC:C.Ok) {α:Type} {E:World->List Value->α->Prop} {sz:Nat} (hE:fu E sz) {t e te:TypeId} {it ie:TI} {x y:Operand} {s:Nat} {cs:List Value} {a:α} {dst:Nat}
  (e0:stepOf C full F H o=.call (.op o [.val (.slice none 0 0),.row s 0 1 1])) (ho:o.op=.call { callee:=.builtin .append,args:=#[x,y],argTypes:=#[t,t] })
  (uQ:C.ti t=some it) (rA:it.elem=some (e,sz)) (xn:C.ti e=some ie) (hU:C.K.fz e=false) (hzo:ie.zero.cells.toList.all aM=true)
  (hd:o.dst=some dst) (hN:dst<C.N) (hl:lvl C.SU m o=2) (fC:H dst=none) (hs:H s=some (te,cs.map .val)) (hcs:E w cs a) (fU:24*sz<=140737488355328)
  (hK:∀ w2 cap sp,aN C.K w w2->C.Old w2->dM E sz w2 1 cap [cs] sp [a]->ak C m full r K (F.bn o.dst (.row dst 0 1 cap)) (H.put dst (e,[cs].flatten.map AV.val++sp)) w2)
  (hkp:∀ w w',aN C.K w w'->Kp UU w w':=by first|exact λ_ _ h=>h|exact λ_ _ h=>h.lJ):ak C m full (o::r) K F H w:=by
 have hlen:=hE.len hcs
 refine VO.app hC e0 ho uQ rA xn hU hzo hd hN hl (known:=[]) (spare:=[]) (del:=none) (n:=0) (c:=0) (mm:=1) (news:=cs.map .val) (.inl ⟨rfl,rfl,rfl,rfl,rfl,rfl,by omega⟩) (.inl fC) cS cS aa aa ⟨rfl,rfl,ah _⟩ ⟨rfl,rfl,cM (hE.ok hcs)⟩ (by rw[List.length_map,hlen];omega) aa
  (λw1 β k1 b1 ho=>⟨_,_,rfl,.inr ⟨β s,0,rfl,eX (rest:=[]) (ho.own s (.base (List.mem_append_right _ (List.mem_singleton.2 rfl))) _ _ hs) (by rw[List.append_nil])⟩⟩) (λw2 cap sp ρ k2 b2 eM h1 h2 h3 h4 h5=> ?_)
 have:=hK w2 cap sp k2 b2 ⟨rfl,.cons (hE.kp hcs (hkp _ _ k2)) .nil,h4,h5,by omega,h2,by simpa using h3⟩
 have e':([cs].flatten.map AV.val++sp)=([]++cs.map .val)++sp:=by simp
 rw[e'] at this
 exact this
theorem VO.Bz (hC:C.Ok) {α:Type} {E:World->List Value->α->Prop} {sz:Nat} (hE:fu E sz) {t e te:TypeId} {it ie:TI} {x y:Operand} {s i n c:Nat} {cs:List Value} {a:α} {vs:List (List Value)} {sp:List AV} {es:List α} {dst:Nat}
  (e0:stepOf C full F H o=.call (.op o [.row i 0 n c,.row s 0 1 1])) (ho:o.op=.call { callee:=.builtin .append,args:=#[x,y],argTypes:=#[t,t] })
  (uQ:C.ti t=some it) (rA:it.elem=some (e,sz)) (xn:C.ti e=some ie) (hU:C.K.fz e=false) (hzo:ie.zero.cells.toList.all aM=true)
  (hd:o.dst=some dst) (hN:dst<C.N) (hl:lvl C.SU m o=2) (fC:H dst=none\/some i=some dst) (hi:H i=some (e,vs.flatten.map .val++sp)) (hr:dM E sz w n c vs sp es) (hs:H s=some (te,cs.map .val)) (hcs:E w cs a) (fU:(n+1)*(24*sz)<=140737488355328)
  (hK:∀ w2 cap Iq ρ,aN C.K w w2->C.Old w2->(∀ x,aM (ρ x)=true)->dM E sz w2 (n+1) cap (vs++[cs]) Iq (es++[a])->ak C m full r K ((F.forget (some i) ρ).bn o.dst (.row dst 0 (n+1) cap)) ((H.forget (some i) ρ).put dst (e,(vs++[cs]).flatten.map AV.val++Iq)) w2)
  (hkp:∀ w w',aN C.K w w'->Kp UU w w':=by first|exact λ_ _ h=>h|exact λ_ _ h=>h.lJ):ak C m full (o::r) K F H w:=by
 have hlen:=hE.len hcs
 obtain⟨k1,k2⟩:=hr.el.ok hE
 have CD:=hr.len
 refine VO.app hC e0 ho uQ rA xn hU hzo hd hN hl (known:=vs.flatten.map .val) (spare:=sp) (del:=some i) (n:=n) (c:=c) (mm:=1) (news:=cs.map .val) (.inr ⟨i,rfl,hi,rfl⟩) fC (by rw[List.length_map,k2,CD]) hr.fl hr.le hr.cm ⟨ah _,hr.sl,ah _⟩ ⟨cM k1,hr.so,cM (hE.ok hcs)⟩ (by rw[List.length_map,hlen];omega) fU
  (λw1 β k1 b1 ho=>⟨_,_,rfl,.inr ⟨β s,0,rfl,eX (rest:=[]) (ho.own s (.base (List.mem_append_right _ (List.mem_singleton.2 rfl))) _ _ hs) (by rw[List.append_nil])⟩⟩) (λw2 cap Iq ρ k2 b2 eM h1 h2 h3 h4 h5=> ?_)
 have e:(vs.flatten.map AV.val++cs.map .val)=(vs++[cs]).flatten.map AV.val:=by simp
 have:=hK w2 cap Iq ρ k2 b2 eM ⟨by rw[List.length_append,hr.len];rfl,(hr.el.kp hE (hkp _ _ k2)).snoc (hE.kp hcs (hkp _ _ k2)),h4,h5,by omega,h2,by rw[<-e];exact h3⟩
 rw[<-e] at this
 exact this
end
end
section
open Go.RowKit
theorem GR {w:World} {a:Option Addr} {len cap:Nat} {zs:List Int}
  (h:(a=none/\len=0/\cap=0/\zs=[])\/∃ x,a=some x/\len<=cap/\cap<=maxLen/\zs.length=cap/\(∀ i,i<zs.length->w.cell? (x.add i)=some (.int .u32 (zs.getD i 0)))/\∀ n∈zs,(Lit.int .u32 n).wf=true):
  ∃ xs:List Nat,bI xs/\Rd w 1 (.slice a len cap) len (ints .u32 xs):=by
 rcases h with ⟨rfl,rfl,rfl,rfl⟩|⟨x,rfl,h1,h2,h3,h4,h5⟩
 ·exact⟨[],bI.nil,Rd.nil w 1⟩
 ·have hb:∀ n∈zs,0<=n/\n<4294967296:=λn hn=>by
   have:=h5 n hn
   simp[Lit.wf,IntKind.min,IntKind.max,IntKind.signed,IntKind.bits] at this
   omega
  refine⟨(zs.take len).map Int.toNat,?_,?_⟩
  ·intro y hy
   obtain⟨z,hz,rfl⟩:=List.mem_map.1 hy
   have:=hb z (List.mem_of_mem_take hz)
   omega
  ·refine⟨_,cap,rfl,h1,h2,by simp;omega,λhn=> ?_⟩
   have jA:0<zs.length:=by omega
   have h0:=h4 0 jA
   have hsp:x.spot=none:=by
    have:x.add 0=x:=by simp[Addr.add]
    rw[this] at h0
    unfold World.cell? at h0
    split at h0
    ·split at h0
     ·cases h0
     ·rename_i hs;simpa using hs
    ·cases h0
   obtain⟨b,off,sp⟩:=x
   simp only at hsp
   subst hsp
   refine⟨b,off,rfl,λj u hj=> ?_⟩
   simp only[ints,List.map_map,List.getElem?_map,List.getElem?_take] at hj
   split at hj
   ·rename_i hjl
    have hjz:j<zs.length:=by omega
    rw[List.getElem?_eq_getElem hjz] at hj
    simp at hj
    subst hj
    have h6:=h4 j hjz
    have h7:=hb _ (List.getElem_mem hjz)
    rw[show (⟨b,off,none⟩:Addr).add j=⟨b,off+j,none⟩ by unfold Addr.add;split <;> simp_all] at h6
    rw[h6]
    simp[List.getD,hjz]
    omega
   ·cases hj
theorem yR {α:Type} {l:List α} (h:l.length=2):∃ a b,l=[a,b]:=by
 match l,h with
 | [a,b],_=>exact⟨a,b,rfl⟩
theorem Ku {α:Type} {l:List α} (h:l.length=4):∃ a b c d,l=[a,b,c,d]:=by
 match l,h with
 | [a,b,c,d],_=>exact⟨a,b,c,d,rfl⟩
section
variable {H:Type} {enc:TypeId×Value->H} {w:World} {held:Bool}
theorem DI {fuel:Nat} {cs:List Value} {x:DataW H×List MemPlace} (h:DataW.trod enc Tryz.prog w 0 (λ_=>true) held fuel 30 cs=some x):∃ p n c xs,cs=[.slice p n c]/\Rd w 1 (.slice p n c) n (ints .u32 xs)/\bI xs:=by
 rcases ChangeShapes.open_ints Tryz.underlying30 Tryz.underlying191 (by kernel_rfl) h with ⟨rfl,_⟩|⟨a,len,cap,zs,rfl,_,hl,hc,hz,_,hcell,hwf⟩
 ·exact⟨none,0,0,[],rfl,Rd.nil w 1,bI.nil⟩
 ·rw[if_pos rfl] at hz
  obtain⟨xs,tL,qL⟩:=GR (w:=w) (.inr ⟨a,rfl,hl,hc,hz,hcell,hwf⟩)
  exact⟨some a,len,cap,xs,rfl,qL,tL⟩
theorem BA {fuel:Nat} {cs:List Value} {x:DataW H×List MemPlace} (h:DataW.trod enc Tryz.prog w 0 (λ_=>true) held fuel 32 cs=some x):∃ s p c xs,cs=[.bool s,.slice p xs.length c]/\ey w (.agg #[.bool s,.slice p xs.length c]) s xs:=by
 obtain⟨ys,n,rfl,rfl,hl,iR,hf⟩:=DataW.trod_struct Tryz.underlying32 h
 have vU:cs.length=2:=by
  have c:Tryz.prog.cellsOf 32=2:=by kernel_rfl
  rw[c] at hl;exact hl
 have hy2:ys.length=2:=iR
 obtain⟨a,b,rfl⟩:∃ a b,cs=[a,b]:=by
  exact yR vU
 obtain⟨y0,y1,rfl⟩:∃ a b,ys=[a,b]:=by
  exact yR hy2
 have c0:Tryz.prog.cellsOf 4=1:=by kernel_rfl
 have c1:Tryz.prog.cellsOf 30=1:=by kernel_rfl
 have h0:=hf 0 _ rfl
 have h1:=hf 1 _ rfl
 change DataW.trod enc Tryz.prog w 0 (λ_=>true) held n 4 (([a,b].drop 0).take (Tryz.prog.cellsOf 4))=some y0 at h0
 change DataW.trod enc Tryz.prog w 0 (λ_=>true) held n 30 (([a,b].drop 1).take (Tryz.prog.cellsOf 30))=some y1 at h1
 rw[c0] at h0
 rw[c1] at h1
 obtain⟨s,hs,_⟩:=DataW.trod_bool Tryz.underlying4 h0
 obtain⟨p,m,c,xs,hp,hr,hx⟩:=DI h1
 simp only[List.drop_zero,List.take_succ_cons,List.take_zero,List.cons.injEq,and_true] at hs
 simp only[List.drop_succ_cons,List.drop_zero,List.take_succ_cons,List.take_zero,List.cons.injEq,and_true] at hp
 subst hs hp
 obtain⟨_,_,hv,_,_,dT⟩:=hr.u32
 subst dT
 exact⟨s,p,c,xs,rfl,p,c,rfl,hr,hx⟩
theorem Kv {fuel:Nat} {cs:List Value} {x:DataW H×List MemPlace} (h:DataW.trod enc Tryz.prog w 0 (λ_=>true) held fuel 34 cs=some x):∃ s p n c t r m d xs ys,cs=[.bool s,.slice p n c,.bool t,.slice r m d]/\bV w (.agg #[.bool s,.slice p n c,.bool t,.slice r m d]) s xs t ys:=by
 obtain⟨zs,n,rfl,rfl,hl,iR,hf⟩:=DataW.trod_struct Tryz.underlying34 h
 have vU:cs.length=4:=by
  have c:Tryz.prog.cellsOf 34=4:=by kernel_rfl
  rw[c] at hl;exact hl
 have hy2:zs.length=2:=iR
 obtain⟨a,b,a',b',rfl⟩:∃ a b a' b',cs=[a,b,a',b']:=by
  exact Ku vU
 obtain⟨y0,y1,rfl⟩:∃ a b,zs=[a,b]:=by
  exact yR hy2
 have c0:Tryz.prog.cellsOf 32=2:=by kernel_rfl
 have h0:=hf 0 _ rfl
 have h1:=hf 1 _ rfl
 change DataW.trod enc Tryz.prog w 0 (λ_=>true) held n 32 (([a,b,a',b'].drop 0).take (Tryz.prog.cellsOf 32))=some y0 at h0
 change DataW.trod enc Tryz.prog w 0 (λ_=>true) held n 32 (([a,b,a',b'].drop 2).take (Tryz.prog.cellsOf 32))=some y1 at h1
 rw[c0] at h0 h1
 obtain⟨s,p,c,xs,e0,n0⟩:=BA h0
 obtain⟨t,r,d,ys,e1,n1⟩:=BA h1
 simp only[List.drop_zero,List.take_succ_cons,List.take_zero,List.cons.injEq,and_true] at e0
 simp only[List.drop_succ_cons,List.drop_zero,List.take_succ_cons,List.take_zero,List.cons.injEq,and_true] at e1
 obtain⟨rfl,rfl⟩:=e0
 obtain⟨rfl,rfl⟩:=e1
 exact⟨_,_,_,_,_,_,_,_,xs,ys,rfl,_,_,_,_,rfl,n0,n1⟩
theorem bV.wide {v:Value} {s t:Bool} {xs ys:List Nat} (h:bV w v s xs t ys):ax w v (rq s xs t ys) 9223372036854775807:=by
 obtain⟨p,c,r,d,rfl,h1,h2⟩:=id h
 obtain⟨_,_,_,jF,_⟩:=h1
 obtain⟨_,_,_,lC,_⟩:=h2
 obtain⟨_,_,_,a1,a2,_⟩:=jF.u32
 obtain⟨_,_,_,b1,b2,_⟩:=lC.u32
 exact⟨s,xs,t,ys,h,rfl,by omega,by omega⟩
theorem DJ {α:Type} {p:Nat->α->Prop}:∀ (n:Nat),(∀ i,i<n->∃ q,p i q)->∃ qs:List α,qs.length=n/\∀ (i:Nat) (q:α),qs[i]? =some q->p i q
 | 0,_=>⟨[],rfl,λi q h=>by simp at h⟩
 | n+1,h=>by
   obtain⟨qs,hl,hq⟩:=DJ n (λi hi=>h i aa)
   obtain⟨q,hqn⟩:=h n aa
   refine⟨qs++[q],by simp[hl],λi x hx=> ?_⟩
   by_cases hi:i<n
   ·rw[List.getElem?_append_left aa] at hx
    exact hq i x hx
   ·rw[List.getElem?_append_right aa,hl] at hx
    have:i=n:=by
     have:=(List.getElem?_eq_some_iff.1 hx).1
     simp at this
     omega
    subst this
    simp at hx
    subst hx
    exact hqn
end
section
variable {H:Type} {enc:TypeId×Value->H} {w:World} {held:Bool}
set_option maxRecDepth 100000 in
theorem Fg {α:Type} {E:World->List Value->α->Prop} {sz:Nat} {t e:TypeId} (hu:Tryz.prog.underlying t=some (.slice e)) (hc:Tryz.prog.cellsOf e=sz) (qO:0<sz)
  (rA:∀ {fuel:Nat} {cs:List Value} {x:DataW H×List MemPlace},DataW.trod enc Tryz.prog w 0 (λ_=>true) held fuel e cs=some x->∃ a,E w cs a)
  {v:Value} {d:DataW H} {ps:List MemPlace} {r:_root_.Go.Reach} {b0:Nat} (hv:Value.okWide Tryz.prog w r b0 t v) (h:DataW.Trod enc Tryz.prog w 0 (λ_=>true) held t v d ps):∃ es:List α,bL E sz w v es:=by
 obtain⟨p,len,cap,rfl⟩:=WideShapes.okWide_slice hu hv
 obtain⟨fuel,hf⟩:=h
 rcases DataW.trod_slice hu hf with ⟨e,_⟩|⟨a,len',cap',elems,rest,n,_,e,_,_,hl,hm,hle,rW,_⟩
 ·simp[Value.cells] at e
  obtain⟨rfl,rfl,rfl⟩:=e
  exact⟨[],bL.nil _ _ _⟩
 ·simp[Value.cells] at e
  obtain⟨rfl,rfl,rfl⟩:=e
  rw[hc] at rW
  have each:∀ i,i<len->∃ q,∃ b off cs,some a=some ⟨b,off,none⟩/\(∀ (j:Nat) (u:Value),cs[j]? =some u->w.cell? ⟨b,off+i*sz+j,none⟩=some u)/\E w cs q:=by
   intro i hi
   obtain⟨y,hy⟩:∃ y,elems[i]? =some y:=⟨_,List.getElem?_eq_getElem aa⟩
   have hb:=rW i hi
   rw[hy,Option.bind_eq_some_iff] at hb
   obtain⟨cs,hcs,ht⟩:=hb
   obtain⟨q,hq⟩:=rA ht
   obtain⟨_,hlen,hcell⟩:=World.cells?_some hcs
   obtain⟨b,off,spot⟩:=a
   have hspot:spot=none:=by
    obtain⟨y0,Fv⟩:∃ y,elems[0]? =some y:=⟨_,List.getElem?_eq_getElem aa⟩
    have lg:=rW 0 aa
    rw[Fv,Option.bind_eq_some_iff] at lg
    obtain⟨cs0,hcs0,ht0⟩:=lg
    obtain⟨_,hlen0,DK⟩:=World.cells?_some hcs0
    have h00:=DK 0 qO
    rw[List.getElem?_eq_getElem aa] at h00
    have g0:=World.cell?_spot h00
    simpa [Addr.add] using g0
   subst hspot
   refine⟨q,b,off,cs,rfl,λj u hj=> ?_,hq⟩
   have hjl:j<sz:=by have:=(List.getElem?_eq_some_iff.1 hj).1;omega
   have:=hcell j hjl
   rw[WideShapes.add_plain,WideShapes.add_plain] at this
   rw[this]
   exact hj
  obtain⟨qs,hql,hqs⟩:=DJ len each
  subst hql
  exact⟨qs,_,_,rfl,hl,hm,λi q hq=>hqs i q hq⟩
end
def lf (q:Rat):Int:=q.num.fmod q.den
theorem den_pos (q:Rat):(0:Int)<q.den:=by have:=q.den_nz;omega
theorem fl_eq (q:Rat):q.num.fdiv q.den=q.floor:=by
 rw[Rat.floor_def,Int.fdiv_eq_ediv_of_nonneg _ (Int.le_of_lt (den_pos q))]
theorem xK (q:Rat):0<=lf q:=by
 unfold lf
 rw[Int.fmod_eq_emod_of_nonneg _ (Int.le_of_lt (den_pos q))]
 exact Int.emod_nonneg _ (by have:=den_pos q;omega)
theorem lf_lt (q:Rat):lf q<q.den:=by
 unfold lf
 rw[Int.fmod_eq_emod_of_nonneg _ (Int.le_of_lt (den_pos q))]
 exact Int.emod_lt_of_pos _ (den_pos q)
end
set_option maxRecDepth 4000
section
open Go.RowKit
attribute [local irreducible] ak VS
theorem Sz.left {q:Rat} {k:Nat} (h:bW q k):Sz (lf q) k:=Sz.le h.2 (by have:=xK q;have:=lf_lt q;omega)
theorem DL:(0:Rat).floor=0/\lf 0=0/\((0:Rat).den:Int)=1:=by decide+kernel
theorem BB (v:Value) (q:Rat) (k:Nat) (w:World) (hv:ax w v q k) (hk:k<=67108864):
  Calls Tryz.prog 173 #[v] w λe w'=>∃ s1 p1 n1 c1 s2 p2 n2 c2 s3 p3 n3 c3,e=.returned (.tuple #[.agg #[.bool s1,.slice p1 n1 c1],.agg #[.bool s2,.slice p2 n2 c2],.agg #[.bool s3,.slice p3 n3 c3]])/\
   aj w' w.heap.size (.agg #[.bool s1,.slice p1 n1 c1]) q.floor/\bd w' (.agg #[.bool s2,.slice p2 n2 c2]) (lf q)/\bd w' (.agg #[.bool s3,.slice p3 n3 c3]) (q.den:Int)/\au w w':=by
 have hs:=hv.rJ
 obtain⟨s,xs,t,ys,fN,rfl,hx,hy⟩:=hv
 have Bo:=fN
 obtain⟨p,c,r,d,rfl,_,_⟩:=fN
 have hu:bU k<=67108864:=by unfold bU;omega
 refine ae (C:=aV Tryz.prog w _) (args:=[_]) Tryz.func173 rfl Tryz.ntmps173 (bD rfl) ?_
 refine ab ?_
 refine VO.call rfl rfl (fk Tryz.func97) (λaP bG aZ=>(iL s t xs ys _ aP (Bo.kp bG) aa aa).mono ?_)
 rintro e w1 ⟨rfl,aB⟩
 cases hq:tc s xs t ys
 ·refine aG aB ?_
  intro cj _ bb1
  refine VO.cI rfl rfl (fk Tryz.func40) (λbh bQ bE=>lQ 1 bh aa aa) (λbh bQ bE w2 s2 p2 n2 c2 q2 aQ db _ bb2=>wV rfl ?_)
  refine ab ?_
  refine az ?_;intro wz kz bz
  obtain⟨z1,z2,z3⟩:=DL
  rw[vo hq,z1,z2,z3]
  exact⟨_,_,_,_,_,_,_,_,_,_,_,_,rfl,aj.zero _ _,bd.zero _,q2.kr,bz⟩
 ·refine aG aB ?_
  intro cj _ bb1
  have hr:=vp Bo hq
  refine VO.call rfl rfl (fk Tryz.func147) (λbh bQ bE=>(il _ _ (rq s xs t ys).num ((rq s xs t ys).den:Int) _ _ bh (hr.parts.1.ki hs.1) (hr.parts.2.ki hs.2) aa aa).mono ?_)
  rintro e w2 ⟨hd2,aQ⟩
  obtain⟨v2,u2,rfl,h2,h2'⟩:=dH hd2 (by have:=den_pos (rq s xs t ys);omega)
  obtain⟨s2,p2,n2,c2,rfl⟩:=h2.form
  obtain⟨t2,r2,m2,d2,rfl⟩:=h2'.form
  refine⟨_,rfl,aQ,λdb _ bb2=>wV rfl ?_⟩
  (repeat (first|refine wN ?_|refine wP rfl ?_|refine Gx rfl ?_|refine wO rfl rfl ?_))
  refine VS.uN (cQ _ _) (mZ _ _) 7 rfl ?_
  (repeat' (first|refine VA.go rfl ?_|refine VA.fin rfl ?_|refine VA.dz _ rfl rfl ?_|refine VA.cons rfl ?_ ?_|exact VA.nil rfl))
  all_goals
   refine ab ?_
   refine az ?_;intro wz kz bz
   exact⟨_,_,_,_,_,_,_,_,_,_,_,_,rfl,((h2.k).cast (fl_eq _)).mono bE.size,h2'.kr,hr.parts.2.k,bz⟩
theorem Kw (f:FuncId) (b:Bool) (v:Value) (q:Rat) (k:Nat) (w:World) (hf:jh Tryz.prog f) (hv:ax w v q k) (hk:k<=67108864)
  (hF:∀ (s1:Bool) (p1:Option Addr) (n1 c1:Nat) (s2:Bool) (p2:Option Addr) (n2 c2:Nat) (s3:Bool) (p3:Option Addr) (n3 c3:Nat) (w:World),bd w (.agg #[.bool s1,.slice p1 n1 c1]) q.floor->bd w (.agg #[.bool s2,.slice p2 n2 c2]) (lf q)->bd w (.agg #[.bool s3,.slice p3 n3 c3]) (q.den:Int)->
   Calls Tryz.prog f #[.agg #[.bool s1,.slice p1 n1 c1],.agg #[.bool s2,.slice p2 n2 c2],.agg #[.bool s3,.slice p3 n3 c3]] w λe w'=>e=.returned (.bool b)/\au w w'):
  Calls Tryz.prog 141 #[v,.func (.func f) #[] #[]] w λe w'=>∃ r,e=.returned r/\aj w' w.heap.size r (if lf q≠0/\b=true then q.floor+1 else q.floor)/\au w w':=by
 obtain⟨s,p,n,c,t,y,m,d,rfl⟩:=hv.form
 have hs:=hv.rJ
 have hu:bU k<=67108864:=by unfold bU;omega
 refine ae (C:=aV Tryz.prog w _) (args:=[_,_]) Tryz.func141 rfl Tryz.ntmps141 (bD rfl) ?_
 refine ab ?_
 refine VO.call rfl rfl (fk Tryz.func173) (λaP bG aZ=>(BB _ q k aP hv.k hk).mono ?_)
 rintro e w1 ⟨s1,p1,n1,c1,s2,p2,n2,c2,s3,p3,n3,c3,rfl,q1,q2,q3,aB⟩
 skip
 refine aG aB ?_
 intro cj _ bb1
 refine VO.call rfl rfl (fk Tryz.func112) (λbh bQ bE=>(iV _ (lf q) (bU k) bh (q2.ki (Sz.left hs))).mono ?_)
 rintro e w2 ⟨rfl,aQ⟩
 by_cases h0:lf q=0
 ·rw[show (lf q).sign=0 by rw[h0];rfl,if_neg (λe=>e.1 h0)]
  refine aG aQ ?_
  intro db _ bb2
  refine az ?_;intro wz kz bz
  exact⟨_,rfl,(q1.k).mono aZ.size,bz⟩
 ·rw[dt (show 0<lf q by have:=xK q;omega)]
  refine aG aQ ?_
  intro db _ bb2
  refine VO.call rfl rfl hf (λcY di dQ=>(hF _ _ _ _ _ _ _ _ _ _ _ _ cY q1.kr q2.k q3.k).mono ?_)
  rintro e w3 ⟨rfl,cu⟩
  cases b with
  | false=>
    rw[if_neg (λe=>by cases e.2)]
    refine aG cu ?_
    intro fj _ bb3
    refine az ?_;intro wz kz bz
    exact⟨_,rfl,(q1.k).mono aZ.size,bz⟩
  | true=>
    rw[if_pos ⟨h0,rfl⟩]
    refine aG cu ?_
    intro fj _ bb3
    refine VO.cI rfl rfl (fk Tryz.func40) (λfm gv iw=>lQ 1 fm aa aa) (λfm gv iw w4 s4 p4 n4 c4 q4 fW lj _ sZ=>wV rfl ?_)
    refine ab ?_
    refine VO.cI rfl rfl (fk Tryz.func95) (λiy jt ju=>uV _ _ q.floor 1 (bU k) 1 iy (q1.ki (Sz.floor hs)) (q4.ki (Sz.small ff)) aa aa) (λiy jt ju w5 s5 p5 n5 c5 q5 jf oo _ yL=>wV rfl ?_)
    refine ab ?_
    refine az ?_;intro wz kz bz
    exact⟨_,rfl,(q5.k).mono ju.size,bz⟩
theorem yS (s1:Bool) (p1:Option Addr) (n1 c1:Nat) (s2:Bool) (p2:Option Addr) (n2 c2:Nat) (s3:Bool) (p3:Option Addr) (n3 c3:Nat) (w:World):
  Calls Tryz.prog 142 #[.agg #[.bool s1,.slice p1 n1 c1],.agg #[.bool s2,.slice p2 n2 c2],.agg #[.bool s3,.slice p3 n3 c3]] w λe w'=>e=.returned (.bool false)/\au w w':=by
 refine ae (C:=aV Tryz.prog w _) (args:=[_,_,_]) Tryz.func142 rfl Tryz.ntmps142 (bD rfl) ?_
 refine ab ?_
 refine az ?_;intro wz kz bz
 exact⟨rfl,bz⟩
theorem BC (v:Value) (q:Rat) (k:Nat) (w:World) (hv:ax w v q k) (hk:k<=67108864):
  Calls Tryz.prog 85 #[v] w λe w'=>∃ r,e=.returned r/\aj w' w.heap.size r q.floor/\au w w':=by
 obtain⟨s,p,n,c,t,y,m,d,rfl⟩:=hv.form
 refine ae (C:=aV Tryz.prog w _) (args:=[_]) Tryz.func85 rfl Tryz.ntmps85 (bD rfl) ?_
 refine ab ?_
 refine VO.cI rfl rfl (fk Tryz.func141) (λaP bG aZ=>Kw 142 false _ q k aP (fk Tryz.func142) hv.k hk (λs1 p1 n1 c1 s2 p2 n2 c2 s3 p3 n3 c3 w _ _ _=>yS s1 p1 n1 c1 s2 p2 n2 c2 s3 p3 n3 c3 w)) (λaP bG aZ w1 s1 p1 n1 c1 q1 aB cj _ bb1=>wV rfl ?_)
 refine ab ?_
 refine az ?_;intro wz kz bz
 exact⟨_,rfl,((q1.k).cast (if_neg (λe=>by cases e.2))).mono aZ.size,bz⟩
end
section
open Go.RowKit
theorem Fh (x:Int) (h0:0<=x) (h1:x<18446744073709551616):bits .or .u64 0 x=x:=by
 rw[u64_orv0 0 x aa aa h0 aa h1];omega
section
variable {P:Program}
end
section
variable {C:Cx} {F:Fr} {H:Hp} {w:World} {m:Option (List FuncId)} {full:Array Oper} {K:Fr->Hp->World->Prop} {o:Oper} {r:List Oper}
end
set_option maxRecDepth 4000
theorem Ky {X:Int} (h:X.natAbs<4294967296):limbs X.natAbs=if X=0 then [] else [X.natAbs]:=by
 split
 ·rename_i e;rw[e];exact bc
 ·rename_i e
  have:=ln (xs:=[X.natAbs]) (bI.cons h bI.nil) (λx hx=>by simp at hx;omega)
  rw[dS,da] at this
  simpa using this
theorem u64_neg (a:Nat) (h:a<4294967296):IntKind.i64.wrap (IntKind.u64.wrap (0-(a:Int)))= -(a:Int):=by
 rw[IntKind.wrap_i64,IntKind.wrap_u64];omega
theorem Kz {xs:List Nat} (hl:bI xs) {z x:Nat} (hx:xs[z]? =some x) (hz:z<2):
  bits .or .u64 ((af (xs.take z):Nat):Int) (IntKind.u64.wrap (IntKind.u64.wrap (x:Int)*2^min (IntKind.i64.wrap (32*(z:Int))).toNat 64))=((af (xs.take (z+1)):Nat):Int):=by
 have hxb:=hl.at hx
 have e1:IntKind.u64.wrap (x:Int)=x:=IntWalk.u64_in _ aa
 rw[aX hx,cT,List.length_take,e1]
 have hzl:z<xs.length:=(List.getElem?_eq_some_iff.1 hx).1
 rw[Nat.min_eq_left (show z<=xs.length by omega)]
 match z,hz with
 | 0,_=>
   rw[show IntKind.i64.wrap (32*((0:Nat):Int))=0 by decide]
   simp only[Int.toNat_zero,Nat.zero_min,Int.pow_zero,Int.mul_one,List.take_zero]
   rw[e1,da,Int.natCast_zero,Fh _ aa aa]
   simp
 | 1,_=>
   have hlow:af (xs.take 1)<4294967296:=by
    have:=fv (hl.take 1)
    rw[List.length_take,Nat.min_eq_left aa] at this
    simpa using this
   rw[show (IntKind.i64.wrap (32*((1:Nat):Int))).toNat=32 by decide,Nat.pow_one]
   show bits BinOp.or IntKind.u64 ((af (List.take 1 xs):Nat):Int) (IntKind.u64.wrap ((x:Int)*2^32))=_
   have e2:(x:Int)*2^32=((x*4294967296:Nat):Int):=by simp
   rw[e2,IntWalk.u64_in _ aa]
   rw[u64_or_nat _ _ aa aa,Nat.or_comm,nat_join 32 _ _ aa aa]
   congr 1;omega
attribute [local irreducible] ak VS
set_option maxRecDepth 10000 in
theorem DM (v:Value) (X:Int) (k:Nat) (w:World) (hv:bq w v X k) (hX:X.natAbs<4294967296):
  Calls Tryz.prog 84 #[v] w λe w'=>e=.returned (.tuple #[.int .i64 X,.bool true])/\au w w':=by
 obtain⟨s,p,n,c,rfl⟩:=hv.form
 refine ae (C:=aV Tryz.prog w _) (args:=[_]) Tryz.func84 rfl Tryz.ntmps84 (bD rfl) ?_
 refine ab ?_
 refine VO.call rfl rfl (fk Tryz.func140) (λaP bG aZ=>(eg _ X k w aP hv aZ).mono ?_)
 rintro e w1 ⟨r1,rfl,q1,aB⟩
 obtain⟨s1,p1,n1,c1,rfl⟩:=q1.ft
 refine aG aB ?_
 intro cj _ bb1
 obtain⟨IK,jF,-⟩:=q1.parts
 have sY:=q1.Je
 have hl:=Ky hX
 obtain⟨a,ha⟩:∃ a,a=X.natAbs:=⟨_,rfl⟩
 rw[<-ha] at hl hX
 have hn:n1<=1/\(n1=0->a=0):=by
  rw[IK,<-ha,hl]
  split
  ·rename_i e;rw[e] at ha;exact⟨by simp,λ_=>ha⟩
  ·exact⟨by simp,λe=>by simp at e⟩
 refine VS.bk rfl (decide_eq_false (show ¬ (n1:Int)>2 by omega)) ?_
 refine ab ?_
 refine VS.loop (J:=λm L M w'=>∃ z:Nat,z<=n1/\m=n1-z/\L=[(4,.box 4 0),(5,.val (.int .u64 ((if z=0 then 0 else a:Nat):Int))),(17,.val (.slice p1 n1 c1)),(18,.val (.int .i64 (n1:Int))),(19,.val (.int .i64 (z:Int)))]/\
  M=[(4,(222,([.bool s1,.slice p1 n1 c1]:List Value).map .val))]) n1 ⟨_,_,?_,?_,?_,?_,⟨0,by omega,rfl,rfl,rfl⟩⟩ ?_
 ·exact dw
 ·exact dw
 ·rfl
 ·exact iK
 rintro m L M wJ ⟨z,hz,rfl,rfl,rfl⟩
 refine ab ?_
 by_cases hlt:z<n1
 ·obtain⟨b2,o2,x,rfl,aQ,ew,kD⟩:=jF.cellAt hlt
  obtain rfl:z=0:=by omega
  obtain rfl:x=a:=by
   rw[<-ha,hl] at ew
   split at ew
   ·simp at ew
   ·simpa using ew.symm
  refine VS.aY rfl (decide_eq_true (Int.ofNat_lt.2 hlt)) ?_
  refine ab ?_
  refine VO.cond rfl eP (wV rfl ?_)
  refine VO.read rfl [.int .u32 (x:Int)] rfl (gj rfl kD) (wV rfl ?_)
  refine ab ?_
  refine VS.back (n1-(0+1)) aa ⟨_,_,?_,?_,?_,?_,⟨0+1,by omega,rfl,rfl,rfl⟩⟩
  ·refine⟨rfl,congrArg (λz=>some (AV.val (.int .u64 z))) ?_,rfl,rfl,?_,trivial⟩
   ·have e1:IntKind.u64.wrap (x:Int)=x:=IntWalk.u64_in _ aa
    show bits .or .u64 0 (IntKind.u64.wrap (IntKind.u64.wrap (x:Int)*2^min (IntKind.i64.wrap (32*0)).toNat 64))=(x:Int)
    rw[show IntKind.i64.wrap (32*0)=0 by decide,e1]
    simp only[Int.toNat_zero,Nat.zero_min,Int.pow_zero,Int.mul_one]
    rw[e1,Fh _ aa aa]
   ·rfl
  ·exact dw
  ·rfl
  ·exact iK
 ·obtain rfl:z=n1:=by omega
  refine VS.bk rfl (decide_eq_false (λe=>hlt (Int.ofNat_lt.1 e))) ?_
  rw[show (if z=0 then 0 else a)=a by split;exact (hn.2 ‹_›).symm;rfl]
  obtain⟨A,hA⟩:∃ A:Int,A=(a:Int):=⟨_,rfl⟩
  rw[<-hA]
  cases s1 with
  | true=>
    have hx:X<0:=of_decide_eq_true sY.symm
    refine ab ?_
    refine VS.aY rfl (decide_eq_true (show A<=9223372036854775808 by omega)) ?_
    refine ab ?_
    refine az ?_;intro wz kz bz
    refine⟨congrArg (λz=>Ending.returned (.tuple #[.int .i64 z,.bool true])) ?_,bz⟩
    rw[hA]
    exact (u64_neg a hX).trans aa
  | false=>
    have hx:¬ X<0:=of_decide_eq_false sY.symm
    refine ab ?_
    refine VS.aY rfl (decide_eq_true (show A<9223372036854775808 by omega)) ?_
    refine ab ?_
    refine az ?_;intro wz kz bz
    refine⟨congrArg (λz=>Ending.returned (.tuple #[.int .i64 z,.bool true])) ?_,bz⟩
    exact (IntWalk.i64_in _ aa).trans aa
set_option maxRecDepth 10000 in
theorem DN (v:Value) (X:Int) (k:Nat) (w:World) (hv:bq w v X k):
  Calls Tryz.prog 84 #[v] w λe w'=>∃ n b,e=.returned (.tuple #[.int .i64 n,.bool b])/\(b=true->n=X)/\au w w':=by
 obtain⟨s,p,n,c,rfl⟩:=hv.form
 refine ae (C:=aV Tryz.prog w _) (args:=[_]) Tryz.func84 rfl Tryz.ntmps84 (bD rfl) ?_
 refine ab ?_
 refine VO.call rfl rfl (fk Tryz.func140) (λaP bG aZ=>(eg _ X k w aP hv aZ).mono ?_)
 rintro e w1 ⟨r1,rfl,q1,aB⟩
 obtain⟨s1,p1,n1,c1,rfl⟩:=q1.ft
 refine aG aB ?_
 intro cj _ bb1
 obtain⟨IK,jF,-⟩:=q1.parts
 have sY:=q1.Je
 by_cases FL:(n1:Int)>2
 ·refine VS.aY rfl (decide_eq_true FL) ?_
  refine ab ?_
  refine az ?_;intro wz kz bz
  exact⟨_,_,rfl,λh=>(by cases h),bz⟩
 refine VS.bk rfl (decide_eq_false FL) ?_
 refine ab ?_
 have ow:=ai X.natAbs
 refine VS.loop (J:=λm L M w'=>∃ z:Nat,z<=n1/\m=n1-z/\L=[(4,.box 4 0),(5,.val (.int .u64 ((af ((limbs X.natAbs).take z):Nat):Int))),(17,.val (.slice p1 n1 c1)),(18,.val (.int .i64 (n1:Int))),(19,.val (.int .i64 (z:Int)))]/\
  M=[(4,(222,([.bool s1,.slice p1 n1 c1]:List Value).map .val))]) n1 ⟨_,_,?_,?_,?_,?_,⟨0,by omega,rfl,rfl,rfl⟩⟩ ?_
 ·exact dw
 ·exact dw
 ·rfl
 ·exact iK
 rintro m L M wJ ⟨z,hz,rfl,rfl,rfl⟩
 refine ab ?_
 by_cases hlt:z<n1
 ·obtain⟨b2,o2,x,rfl,aQ,ew,kD⟩:=jF.cellAt hlt
  rcases (show z=0\/z=1 by omega) with rfl|rfl
  ·refine VS.aY rfl (decide_eq_true (Int.ofNat_lt.2 hlt)) ?_
   refine ab ?_
   refine VO.cond rfl eP (wV rfl ?_)
   refine VO.read rfl [.int .u32 (x:Int)] rfl (gj rfl kD) (wV rfl ?_)
   refine ab ?_
   refine VS.back (n1-(0+1)) aa ⟨_,_,?_,?_,?_,?_,⟨0+1,by omega,rfl,rfl,rfl⟩⟩
   ·refine⟨rfl,congrArg (λz=>some (AV.val (.int .u64 z))) (Kz ow ew aa),rfl,rfl,?_,trivial⟩
    rfl
   ·exact dw
   ·rfl
   ·exact iK
  ·refine VS.aY rfl (decide_eq_true (Int.ofNat_lt.2 hlt)) ?_
   refine ab ?_
   refine VO.cond rfl eP (wV rfl ?_)
   refine VO.read rfl [.int .u32 (x:Int)] rfl (gj rfl kD) (wV rfl ?_)
   refine ab ?_
   refine VS.back (n1-(1+1)) aa ⟨_,_,?_,?_,?_,?_,⟨1+1,by omega,rfl,rfl,rfl⟩⟩
   ·refine⟨rfl,congrArg (λz=>some (AV.val (.int .u64 z))) (Kz ow ew aa),rfl,rfl,?_,trivial⟩
    rfl
   ·exact dw
   ·rfl
   ·exact iK
 ·obtain rfl:z=n1:=by omega
  refine VS.bk rfl (decide_eq_false (λe=>hlt (Int.ofNat_lt.1 e))) ?_
  have qT:af ((limbs X.natAbs).take z)=X.natAbs:=by rw[aU aa,ag]
  have hmax:X.natAbs<18446744073709551616:=by
   have:=fv ow
   rw[ag] at this
   refine Nat.lt_of_lt_of_le this (Nat.le_trans (Nat.pow_le_pow_right aa (show (limbs X.natAbs).length<=2 by omega)) ff)
  obtain⟨A,hA⟩:∃ A:Int,A=((af ((limbs X.natAbs).take z):Nat):Int):=⟨_,rfl⟩
  rw[<-hA]
  rw[qT] at hA
  cases s1 with
  | true=>
    have hx:X<0:=of_decide_eq_true sY.symm
    refine ab ?_
    by_cases hc:A<=9223372036854775808
    ·refine VS.aY rfl (decide_eq_true hc) ?_
     refine ab ?_
     refine az ?_;intro wz kz bz
     refine⟨_,_,rfl,λ_=> ?_,bz⟩
     rw[IntKind.wrap_i64,IntKind.wrap_u64];omega
    ·refine VS.bk rfl (decide_eq_false hc) ?_
     refine ab ?_
     refine az ?_;intro wz kz bz
     exact⟨_,_,rfl,λh=>(by cases h),bz⟩
  | false=>
    have hx:¬ X<0:=of_decide_eq_false sY.symm
    refine ab ?_
    by_cases hc:A<9223372036854775808
    ·refine VS.aY rfl (decide_eq_true hc) ?_
     refine ab ?_
     refine az ?_;intro wz kz bz
     exact⟨_,_,rfl,λ_=>(IntWalk.i64_in _ aa).trans aa,bz⟩
    ·refine VS.bk rfl (decide_eq_false hc) ?_
     refine ab ?_
     refine az ?_;intro wz kz bz
     exact⟨_,_,rfl,λh=>(by cases h),bz⟩
end
set_option maxRecDepth 4000
section
open Go.RowKit
attribute [local irreducible] ak VS
def BD (kk:Nat) (w:World) (cs:List Value) (a:Bool×Rat):Prop:=∃ s p c t r d xs ys,cs=[Value.bool s,.slice p (List.length xs) c,.bool t,.slice r (List.length ys) d]/\
 bV w (.agg #[.bool s,.slice p xs.length c,.bool t,.slice r ys.length d]) s xs t ys/\a=(tc s xs t ys,rq s xs t ys)/\xs.length<=kk/\ys.length<=kk
theorem qm (kk:Nat):fu (BD kk) 4 where
 kp:=λ⟨s,p,c,t,r,d,xs,ys,e,h,r'⟩ k=>⟨s,p,c,t,r,d,xs,ys,e,h.kp k,r'⟩
 len:=λ⟨_,_,_,_,_,_,_,_,e,_⟩=>by rw[e];rfl
 ok:=λ⟨_,_,_,_,_,_,_,_,e,_⟩=>by rw[e];rfl
def jx (a:Bool×Rat):Bool:=a.1 && decide (a.2.den=1)
theorem sign_ne {z:Int}:(z.sign != 0)= !decide (z=0):=by
 by_cases h:z=0
 ·rw[h,decide_eq_true rfl];rfl
 ·rw[decide_eq_false h]
  have:z.sign≠0:=λe=>h (Int.sign_eq_zero_iff_zero.1 e)
  simpa using this
theorem GS (kk:Nat) (EP:kk<=1000000) (cs:List Value) (a:Bool×Rat) (w:World) (h:BD kk w cs a):
  Calls Tryz.prog 139 #[.agg cs.toArray] w λe w'=>e=.returned (.bool (!jx a))/\au w w':=by
 obtain⟨s,p,c,t,r,d,xs,ys,rfl,fN,rfl,hx,hy⟩:=h
 refine ae (C:=aV Tryz.prog w _) (args:=[_]) Tryz.func139 rfl Tryz.ntmps139 (bD rfl) ?_
 refine ab ?_
 refine VO.call rfl rfl (fk Tryz.func97) (λaP bG aZ=>(iL s t xs ys _ aP (fN.kp bG) aa aa).mono ?_)
 rintro e w1 ⟨rfl,aB⟩
 cases hq:tc s xs t ys
 ·refine aG aB ?_
  intro cj _ bb1
  refine az ?_;intro wz kz bz
  exact⟨rfl,bz⟩
 ·refine aG aB ?_
  intro cj _ bb1
  have hr:=vp fN hq
  have hs:bW (rq s xs t ys) (bU kk):=(fN.in hx hy).rJ
  have hu:bU kk<=1000000:=by unfold bU;omega
  refine VO.cI rfl rfl (fk Tryz.func40) (λbh bQ bE=>lQ 1 bh aa aa) (λbh bQ bE w2 s2 p2 n2 c2 q2 aQ db _ bb2=>wV rfl ?_)
  refine ab ?_
  refine VO.cB rfl rfl (fk Tryz.func51) (λcY di dQ=>kO _ _ ((rq s xs t ys).den:Int) 1 (bU kk) 1 cY (hr.parts.2.ki hs.2) (q2.ki (Sz.small ff)) aa aa) (λcY di dQ w3 cu fj _ bb3=>wV rfl ?_)
  refine ab ?_
  refine az ?_;intro wz kz bz
  refine⟨congrArg (λb=>Ending.returned (.bool b)) ?_,bz⟩
  show ((((rq s xs t ys).den:Int)-1).sign != 0)=(!(true && decide ((rq s xs t ys).den=1)))
  rw[sign_ne,Bool.true_and]
  congr 1
  rw[decide_eq_decide];omega
theorem DR (g:FuncId) (P:Bool×Rat->Bool) (kk:Nat) (kg:jh Tryz.prog g) (hg:∀ (cs:List Value) (a:Bool×Rat) (w:World),BD kk w cs a->Calls Tryz.prog g #[.agg cs.toArray] w λe w'=>e=.returned (.bool (P a))/\au w w') (v:Value) (es:List (Bool×Rat)) (w:World) (hv:bL (BD kk) 4 w v es):
  Calls Tryz.prog 172 #[v,.func (.func g) #[] #[]] w λe w'=>∃ r,e=.returned (.int .i64 r)/\decide (r>=0)=es.any P/\au w w':=by
 obtain⟨p,c,rfl,dK,eE⟩:=hv.form
 obtain⟨N,hN⟩:∃ N,N=es.length:=⟨_,rfl⟩
 rw[<-hN] at hv dK ⊢
 refine ae (C:=aV Tryz.prog w _) (args:=[_,_]) Tryz.func172 rfl Tryz.ntmps172 (bD rfl) ?_
 refine ab ?_
 refine VS.loop (J:=λmm L M w'=>∃ z:Nat,z<=N/\mm=N-z/\L=[(0,.val (.slice p N c)),(1,.val (.func (.func g) #[] #[])),(7,.val (.int .i64 (N:Int))),(8,.val (.int .i64 (z:Int)))]/\M=[]/\(es.take z).any P=false) N ⟨_,_,?_,?_,?_,?_,⟨0,by omega,rfl,rfl,rfl,rfl⟩⟩ ?_
 ·exact dw
 ·exact dw
 ·rfl
 ·exact iK
 rintro mm L M wJ ⟨z,hz,rfl,rfl,rfl,hno⟩
 refine ab ?_
 by_cases hlt:z<N
 ·obtain⟨a,hx⟩:∃ x,es[z]? =some x:=⟨_,List.getElem?_eq_getElem aa⟩
  obtain⟨b,off,cs,rfl,hc,he⟩:=hv.at hx
  have zf:=he
  obtain⟨s,p1,c1,t,r,d,xs,ys,rfl,-⟩:=zf
  refine VS.aY rfl (decide_eq_true (Int.ofNat_lt.2 hlt)) ?_
  refine ab ?_
  refine VO.cond rfl eP ?_
  refine wV rfl ?_
  refine ab ?_
  refine VO.read rfl [.bool s,.slice p1 xs.length c1,.bool t,.slice r ys.length d] rfl (λj u hj=>by rw[Addr.add_mid,Int.toNat_natCast];exact hc j u hj) (wV rfl ?_)
  refine VO.call rfl rfl kg (λaP bG aZ=>(hg _ a aP ((qm kk).kp he (Kp.of (U:=UU) aZ))).mono ?_)
  rintro e w1 ⟨rfl,aB⟩
  cases hP:P a with
  | true=>
    refine aG aB ?_
    intro cj _ bb1
    refine az ?_;intro wz kz bz
    refine⟨_,rfl,?_,bz⟩
    rw[List.any_eq_true.2 ⟨a,List.mem_of_getElem? hx,hP⟩,decide_eq_true aa]
  | false=>
    refine aG aB ?_
    intro cj _ bb1
    refine VS.back (N-(z+1)) aa ⟨_,_,?_,?_,?_,?_,⟨z+1,by omega,rfl,rfl,rfl,?_⟩⟩
    ·refine⟨rfl,rfl,rfl,?_,trivial⟩
     rw[<-bf aa];rfl
    ·exact dw
    ·rfl
    ·exact iK
    ·rw[aX hx,List.any_append,hno];simp[hP]
 ·refine VS.bk rfl (decide_eq_false (λe=>hlt (Int.ofNat_lt.1 e))) ?_
  obtain rfl:z=N:=by omega
  refine ab ?_
  refine az ?_;intro wz kz bz
  rw[List.take_of_length_le aa] at hno
  exact⟨_,rfl,by rw[hno];rfl,bz⟩
theorem vz (g:FuncId) (P:Bool×Rat->Bool) (kk:Nat) (kg:jh Tryz.prog g) (hg:∀ (cs:List Value) (a:Bool×Rat) (w:World),BD kk w cs a->Calls Tryz.prog g #[.agg cs.toArray] w λe w'=>e=.returned (.bool (P a))/\au w w') (v:Value) (es:List (Bool×Rat)) (w:World) (hv:bL (BD kk) 4 w v es):
  Calls Tryz.prog 138 #[v,.func (.func g) #[] #[]] w λe w'=>e=.returned (.bool (es.any P))/\au w w':=by
 obtain⟨p,c,rfl,dK,eE⟩:=hv.form
 refine ae (C:=aV Tryz.prog w _) (args:=[_,_]) Tryz.func138 rfl Tryz.ntmps138 (bD rfl) ?_
 refine ab ?_
 refine VO.call rfl rfl (fk Tryz.func172) (λaP bG aZ=>(DR g P kk kg hg _ es aP (hv.bo (qm kk) aZ)).mono ?_)
 rintro e w1 ⟨r1,rfl,h1,aB⟩
 refine aG aB ?_
 intro cj _ bb1
 refine az ?_;intro wz kz bz
 exact⟨congrArg (λb=>Ending.returned (.bool b)) h1,bz⟩
theorem BF {α:Type} (l:List α) (f:α->Bool):(!l.any λa=> !f a)=l.all f:=by
 induction l with
 | nil=>rfl
 | cons x r ih=>rw[List.any_cons,List.all_cons,<-ih];cases f x <;> simp
theorem wE (v:Value) (es:List (Bool×Rat)) (kk:Nat) (w:World) (hv:bL (BD kk) 4 w v es) (EP:kk<=1000000):
  Calls Tryz.prog 83 #[v] w λe w'=>e=.returned (.bool (es.all jx))/\au w w':=by
 obtain⟨p,c,rfl,dK,eE⟩:=hv.form
 refine ae (C:=aV Tryz.prog w _) (args:=[_]) Tryz.func83 rfl Tryz.ntmps83 (bD rfl) ?_
 refine ab ?_
 refine VO.cB rfl rfl (fk Tryz.func138) (λaP bG aZ=>vz 139 (λa=> !jx a) kk (fk Tryz.func139) (GS kk EP) _ es aP (hv.bo (qm kk) aZ)) (λaP bG aZ w1 aB cj _ bb1=>wV rfl ?_)
 refine ab ?_
 refine az ?_;intro wz kz bz
 exact⟨congrArg (λb=>Ending.returned (.bool b)) (BF es jx),bz⟩
end
section
open Go.RowKit
structure Pt where
 b:Rat
 s:Rat
 d:Rat
 i:Rat
theorem Pt.ext' {x y:Pt} (h1:x.b=y.b) (h2:x.s=y.s) (h3:x.d=y.d) (h4:x.i=y.i):x=y:=by
 cases x;cases y;simp_all
def Pt.zero:Pt:=⟨0,0,0,0⟩
def Pt.add (x y:Pt):Pt:=⟨x.b+y.b,x.s+y.s,x.d+y.d,x.i+y.i⟩
def qn (k:Nat) (t:Rat):Rat:=if k=1\/k=3\/k=8\/k=10 then t else if k=2\/k=4\/k=5\/k=6\/k=7\/k=9\/k=11 then-t else 0
def qo (k:Nat) (t a:Rat):Rat:=if k=1 then t else if k=10 then t else if k=2 then-t else if k=7 then-t else if k=4 then t*a-t else if k=5 then (if jB t a>0 then-a else-t) else 0
def yT (k:Nat) (t:Rat):Rat:=if k=7 then t else 0
def yU (k:Nat) (t:Rat):Rat:=if k=8 then-t else if k=9 then t else 0
def qq (k:Nat) (t a:Rat):Pt:=⟨qn k t,qo k t a,yT k t,yU k t⟩
abbrev GU:=Nat×Rat×Rat
def yV (x:GU):Pt:=qq x.1 x.2.2 x.2.1
def nY (l:List Pt):Pt:=l.foldl Pt.add Pt.zero
def bl (l:List GU):Pt:=nY (l.map yV)
theorem xL (l:List Pt) (x:Pt):nY (l++[x])=(nY l).add x:=by unfold nY;rw[List.foldl_append];rfl
theorem GV {l:List Pt} {i:Nat} {x:Pt} (h:l[i]? =some x):nY (l.take (i+1))=(nY (l.take i)).add x:=by rw[aX h,xL]
theorem qu {l:List GU} {i:Nat} {x:GU} (h:l[i]? =some x):bl (l.take (i+1))=(bl (l.take i)).add (yV x):=by
 unfold bl;rw[aX h,List.map_append];exact xL _ _
theorem add_zero' (x:Pt):x.add Pt.zero=x:=Pt.ext' (Rat.add_zero _) (Rat.add_zero _) (Rat.add_zero _) (Rat.add_zero _)
theorem kX (x:Pt):Pt.zero.add x=x:=Pt.ext' (Rat.zero_add _) (Rat.zero_add _) (Rat.zero_add _) (Rat.zero_add _)
theorem DT (x y z:Pt):(x.add y).add z=x.add (y.add z):=Pt.ext' (Rat.add_assoc _ _ _) (Rat.add_assoc _ _ _) (Rat.add_assoc _ _ _) (Rat.add_assoc _ _ _)
theorem GW (l:List Pt):∀ x,l.foldl Pt.add x=x.add (nY l):=by
 induction l with
 | nil=>intro x;exact (add_zero' x).symm
 | cons y r ih=>
   intro x
   show r.foldl Pt.add (x.add y)=x.add (r.foldl Pt.add (Pt.zero.add y))
   rw[ih,ih (Pt.zero.add y),kX,DT]
theorem rK (x:Pt) (l:List Pt):nY (x::l)=x.add (nY l):=by
 show l.foldl Pt.add (Pt.zero.add x)=_
 rw[GW,kX]
theorem BG (x y:Pt):nY [x,y]=x.add y:=by show (Pt.zero.add x).add y=_;rw[kX]
structure vA (x:Pt) (k:Nat):Prop where
 b:bW x.b k
 s:bW x.s k
 d:bW x.d k
 i:bW x.i k
theorem vA.mono {x:Pt} {k l:Nat} (h:vA x k) (hk:k<=l):vA x l:=⟨h.b.mono hk,h.s.mono hk,h.d.mono hk,h.i.mono hk⟩
theorem vA.zero:vA Pt.zero 1:=⟨bW.zero,bW.zero,bW.zero,bW.zero⟩
theorem vA.add {x y:Pt} {k l:Nat} (h:vA x k) (h':vA y l):vA (x.add y) (k+l+1):=⟨h.b.add h'.b,h.s.add h'.s,h.d.add h'.d,h.i.add h'.i⟩
theorem Fi {k:Nat} {t a:Rat} {j:Nat} (ht:bW t j) (ha:bW a j) (hj:1<=j):vA (qq k t a) (3*j+1):=by
 have h0:bW 0 (3*j+1):=bW.zero.mono aa
 have h1:bW t (3*j+1):=ht.mono aa
 have h2:bW (-t) (3*j+1):=h1.neg
 have h3:bW (-a) (3*j+1):=(ha.mono aa).neg
 have h4:bW (t*a-t) (3*j+1):=((ht.mul ha).sub ht).mono aa
 refine⟨?_,?_,?_,?_⟩
 ·show bW (qn k t) _;unfold qn;split <;> first|assumption|(split <;> assumption)
 ·show bW (qo k t a) _;unfold qo;repeat' (split <;> first|assumption|skip)
 ·show bW (yT k t) _;unfold yT;split <;> assumption
 ·show bW (yU k t) _;unfold yU;split <;> first|assumption|(split <;> assumption)
def gS (j n:Nat):Nat:=1+n*(3*j+2)
theorem BH (j n:Nat):gS j (n+1)=gS j n+(3*j+1)+1:=by unfold gS;rw[Nat.add_mul,Nat.one_mul];omega
theorem GX {j m n:Nat} (h:m<=n):gS j m<=gS j n:=by unfold gS;have:=Nat.mul_le_mul_right (3*j+2) h;omega
def cW (j n:Nat):Nat:=1+n*(j+1)
theorem vB (j n:Nat):cW j (n+1)=cW j n+j+1:=by unfold cW;rw[Nat.add_mul,Nat.one_mul];omega
theorem KA {j m n:Nat} (h:m<=n):cW j m<=cW j n:=by unfold cW;have:=Nat.mul_le_mul_right (j+1) h;omega
theorem vC {j:Nat} (hj:1<=j):∀ (l:List GU),(∀ x∈l,bW x.2.1 j/\bW x.2.2 j)->vA (bl l) (gS j l.length):=by
 intro l
 induction l with
 | nil=>intro _;exact vA.zero.mono (by simp[gS])
 | cons x r ih=>
   intro h
   have e:bl (x::r)=(yV x).add (bl r):=rK _ _
   rw[e,List.length_cons,BH]
   have h1:vA (yV x) (3*j+1):=Fi (h x cS).2 (h x cS).1 hj
   exact (h1.add (ih λy hy=>h y (by simp[hy]))).mono aa
theorem psum_sz {j:Nat}:∀ (l:List Pt),(∀ x∈l,vA x j)->vA (nY l) (cW j l.length):=by
 intro l
 induction l with
 | nil=>intro _;exact vA.zero.mono (by simp[cW])
 | cons x r ih=>
   intro h
   rw[rK,List.length_cons,vB]
   exact ((h x cS).add (ih λy hy=>h y (by simp[hy]))).mono aa
def dv (w:World) (v:Value) (P:Pt):Prop:=∃ s1 p1 n1 c1 t1 y1 m1 d1 s2 p2 n2 c2 t2 y2 m2 d2 s3 p3 n3 c3 t3 y3 m3 d3 s4 p4 n4 c4 t4 y4 m4 d4,
 v=.agg #[.bool s1,.slice p1 n1 c1,.bool t1,.slice y1 m1 d1,.bool s2,.slice p2 n2 c2,.bool t2,.slice y2 m2 d2,.bool s3,.slice p3 n3 c3,.bool t3,.slice y3 m3 d3,.bool s4,.slice p4 n4 c4,.bool t4,.slice y4 m4 d4]/\
 aW w (.agg #[.bool s1,.slice p1 n1 c1,.bool t1,.slice y1 m1 d1]) P.b/\aW w (.agg #[.bool s2,.slice p2 n2 c2,.bool t2,.slice y2 m2 d2]) P.s/\aW w (.agg #[.bool s3,.slice p3 n3 c3,.bool t3,.slice y3 m3 d3]) P.d/\aW w (.agg #[.bool s4,.slice p4 n4 c4,.bool t4,.slice y4 m4 d4]) P.i
def qw (w:World) (v:Value) (P:Pt) (k:Nat):Prop:=∃ s1 p1 n1 c1 t1 y1 m1 d1 s2 p2 n2 c2 t2 y2 m2 d2 s3 p3 n3 c3 t3 y3 m3 d3 s4 p4 n4 c4 t4 y4 m4 d4,
 v=.agg #[.bool s1,.slice p1 n1 c1,.bool t1,.slice y1 m1 d1,.bool s2,.slice p2 n2 c2,.bool t2,.slice y2 m2 d2,.bool s3,.slice p3 n3 c3,.bool t3,.slice y3 m3 d3,.bool s4,.slice p4 n4 c4,.bool t4,.slice y4 m4 d4]/\
 ax w (.agg #[.bool s1,.slice p1 n1 c1,.bool t1,.slice y1 m1 d1]) P.b k/\ax w (.agg #[.bool s2,.slice p2 n2 c2,.bool t2,.slice y2 m2 d2]) P.s k/\ax w (.agg #[.bool s3,.slice p3 n3 c3,.bool t3,.slice y3 m3 d3]) P.d k/\ax w (.agg #[.bool s4,.slice p4 n4 c4,.bool t4,.slice y4 m4 d4]) P.i k
theorem dv.kp {U:TypeId} {T:TypeId->Bool} {w w':World} {v:Value} {P:Pt} (h:dv w v P) (k:aN ⟨U,λ_=>True,T⟩ w w'):dv w' v P:=by
 obtain⟨s1,p1,n1,c1,t1,y1,m1,d1,s2,p2,n2,c2,t2,y2,m2,d2,s3,p3,n3,c3,t3,y3,m3,d3,s4,p4,n4,c4,t4,y4,m4,d4,hv,h1,h2,h3,h4⟩:=h
 exact⟨_,_,_,_,_,_,_,_,_,_,_,_,_,_,_,_,_,_,_,_,_,_,_,_,_,_,_,_,_,_,_,_,hv,h1.kp k,h2.kp k,h3.kp k,h4.kp k⟩
theorem qw.kp {U:TypeId} {T:TypeId->Bool} {w w':World} {v:Value} {P:Pt} {j:Nat} (h:qw w v P j) (k:aN ⟨U,λ_=>True,T⟩ w w'):qw w' v P j:=by
 obtain⟨s1,p1,n1,c1,t1,y1,m1,d1,s2,p2,n2,c2,t2,y2,m2,d2,s3,p3,n3,c3,t3,y3,m3,d3,s4,p4,n4,c4,t4,y4,m4,d4,hv,h1,h2,h3,h4⟩:=h
 exact⟨_,_,_,_,_,_,_,_,_,_,_,_,_,_,_,_,_,_,_,_,_,_,_,_,_,_,_,_,_,_,_,_,hv,h1.kp k,h2.kp k,h3.kp k,h4.kp k⟩
theorem dv.to {w:World} {v:Value} {P:Pt} {j:Nat} (h:dv w v P) (hs:vA P j):qw w v P j:=by
 obtain⟨s1,p1,n1,c1,t1,y1,m1,d1,s2,p2,n2,c2,t2,y2,m2,d2,s3,p3,n3,c3,t3,y3,m3,d3,s4,p4,n4,c4,t4,y4,m4,d4,hv,h1,h2,h3,h4⟩:=h
 exact⟨_,_,_,_,_,_,_,_,_,_,_,_,_,_,_,_,_,_,_,_,_,_,_,_,_,_,_,_,_,_,_,_,hv,h1.to hs.b,h2.to hs.s,h3.to hs.d,h4.to hs.i⟩
theorem qw.sz {w:World} {v:Value} {P:Pt} {j:Nat} (h:qw w v P j) (hj:1<=j):vA P j:=by
 obtain⟨s1,p1,n1,c1,t1,y1,m1,d1,s2,p2,n2,c2,t2,y2,m2,d2,s3,p3,n3,c3,t3,y3,m3,d3,s4,p4,n4,c4,t4,y4,m4,d4,hv,h1,h2,h3,h4⟩:=h
 exact⟨h1.sz hj,h2.sz hj,h3.sz hj,h4.sz hj⟩
theorem dv.cast {w:World} {v:Value} {P P':Pt} (h:dv w v P) (e:P=P'):dv w v P':=e▸h
theorem dv.mk {w:World} {s1 t1 s2 t2 s3 t3 s4 t4:Bool} {p1 y1 p2 y2 p3 y3 p4 y4:Option Addr} {n1 c1 m1 d1 n2 c2 m2 d2 n3 c3 m3 d3 n4 c4 m4 d4:Nat} {b s d i:Rat}
  (h1:aW w (.agg #[.bool s1,.slice p1 n1 c1,.bool t1,.slice y1 m1 d1]) b) (h2:aW w (.agg #[.bool s2,.slice p2 n2 c2,.bool t2,.slice y2 m2 d2]) s) (h3:aW w (.agg #[.bool s3,.slice p3 n3 c3,.bool t3,.slice y3 m3 d3]) d) (h4:aW w (.agg #[.bool s4,.slice p4 n4 c4,.bool t4,.slice y4 m4 d4]) i):
  dv w (.agg #[.bool s1,.slice p1 n1 c1,.bool t1,.slice y1 m1 d1,.bool s2,.slice p2 n2 c2,.bool t2,.slice y2 m2 d2,.bool s3,.slice p3 n3 c3,.bool t3,.slice y3 m3 d3,.bool s4,.slice p4 n4 c4,.bool t4,.slice y4 m4 d4]) ⟨b,s,d,i⟩:=
 ⟨_,_,_,_,_,_,_,_,_,_,_,_,_,_,_,_,_,_,_,_,_,_,_,_,_,_,_,_,_,_,_,_,rfl,h1,h2,h3,h4⟩
theorem qw.mk {w:World} {s1 t1 s2 t2 s3 t3 s4 t4:Bool} {p1 y1 p2 y2 p3 y3 p4 y4:Option Addr} {n1 c1 m1 d1 n2 c2 m2 d2 n3 c3 m3 d3 n4 c4 m4 d4:Nat} {b s d i:Rat} {k:Nat}
  (h1:ax w (.agg #[.bool s1,.slice p1 n1 c1,.bool t1,.slice y1 m1 d1]) b k) (h2:ax w (.agg #[.bool s2,.slice p2 n2 c2,.bool t2,.slice y2 m2 d2]) s k) (h3:ax w (.agg #[.bool s3,.slice p3 n3 c3,.bool t3,.slice y3 m3 d3]) d k) (h4:ax w (.agg #[.bool s4,.slice p4 n4 c4,.bool t4,.slice y4 m4 d4]) i k):
  qw w (.agg #[.bool s1,.slice p1 n1 c1,.bool t1,.slice y1 m1 d1,.bool s2,.slice p2 n2 c2,.bool t2,.slice y2 m2 d2,.bool s3,.slice p3 n3 c3,.bool t3,.slice y3 m3 d3,.bool s4,.slice p4 n4 c4,.bool t4,.slice y4 m4 d4]) ⟨b,s,d,i⟩ k:=
 ⟨_,_,_,_,_,_,_,_,_,_,_,_,_,_,_,_,_,_,_,_,_,_,_,_,_,_,_,_,_,_,_,_,rfl,h1,h2,h3,h4⟩
def qx (kk:Nat) (w:World) (cs:List Value) (x:GU):Prop:=∃ s1 p1 n1 c1 t1 y1 m1 d1 s2 p2 n2 c2 t2 y2 m2 d2,
 cs=[.int .u8 (x.1:Int),.bool s1,.slice p1 n1 c1,.bool t1,.slice y1 m1 d1,.bool s2,.slice p2 n2 c2,.bool t2,.slice y2 m2 d2]/\x.1<256/\
 ax w (.agg #[.bool s1,.slice p1 n1 c1,.bool t1,.slice y1 m1 d1]) x.2.1 kk/\ax w (.agg #[.bool s2,.slice p2 n2 c2,.bool t2,.slice y2 m2 d2]) x.2.2 kk
theorem eu (kk:Nat):fu (qx kk) 9 where
 kp:=λh k=>by
  obtain⟨s1,p1,n1,c1,t1,y1,m1,d1,s2,p2,n2,c2,t2,y2,m2,d2,hv,h0,h1,h2⟩:=h
  exact⟨_,_,_,_,_,_,_,_,_,_,_,_,_,_,_,_,hv,h0,h1.kp k,h2.kp k⟩
 len:=λh=>by
  obtain⟨s1,p1,n1,c1,t1,y1,m1,d1,s2,p2,n2,c2,t2,y2,m2,d2,rfl,_⟩:=h
  rfl
 ok:=λh=>by
  obtain⟨s1,p1,n1,c1,t1,y1,m1,d1,s2,p2,n2,c2,t2,y2,m2,d2,rfl,_⟩:=h
  rfl
theorem qx.sz {kk:Nat} {w:World} {cs:List Value} {x:GU} (h:qx kk w cs x) (hk:1<=kk):bW x.2.1 kk/\bW x.2.2 kk:=by
 obtain⟨s1,p1,n1,c1,t1,y1,m1,d1,s2,p2,n2,c2,t2,y2,m2,d2,rfl,h0,h1,h2⟩:=h
 exact⟨h1.sz hk,h2.sz hk⟩
def PtE (kk:Nat) (w:World) (cs:List Value) (x:Pt):Prop:=qw w (.agg cs.toArray) x kk
theorem pt_ok (kk:Nat):fu (PtE kk) 16 where
 kp:=λh k=>qw.kp h k
 len:=λ{w cs a} h=>by
  obtain⟨s1,p1,n1,c1,t1,y1,m1,d1,s2,p2,n2,c2,t2,y2,m2,d2,s3,p3,n3,c3,t3,y3,m3,d3,s4,p4,n4,c4,t4,y4,m4,d4,hv,_⟩:=h
  injection hv with hv
  have:=congrArg Array.size hv
  simpa using this
 ok:=λ{w cs a} h=>by
  obtain⟨s1,p1,n1,c1,t1,y1,m1,d1,s2,p2,n2,c2,t2,y2,m2,d2,s3,p3,n3,c3,t3,y3,m3,d3,s4,p4,n4,c4,t4,y4,m4,d4,hv,_⟩:=h
  injection hv with hv
  have:=congrArg Array.toList hv
  simp only[List.toList_toArray] at this
  rw[this];rfl
theorem slin_sz {kk:Nat} {w:World} {v:Value} {l:List GU} (h:bL (qx kk) 9 w v l) (hk:1<=kk):∀ x∈l,bW x.2.1 kk/\bW x.2.2 kk:=λx hx=>by
 obtain⟨i,hi⟩:=List.getElem?_of_mem hx
 obtain⟨p,c,rfl,_⟩:=h.form
 obtain⟨b,off,cs,_,_,he⟩:=h.at hi
 exact he.sz hk
theorem slpt_sz {kk:Nat} {w:World} {v:Value} {l:List Pt} (h:bL (PtE kk) 16 w v l) (hk:1<=kk):∀ x∈l,vA x kk:=λx hx=>by
 obtain⟨i,hi⟩:=List.getElem?_of_mem hx
 obtain⟨p,c,rfl,_⟩:=h.form
 obtain⟨b,off,cs,_,_,he⟩:=h.at hi
 exact qw.sz he hk
end
set_option maxRecDepth 4000
section
open Go.RowKit
attribute [local irreducible] ak VS
theorem eZ (w:World):Calls Tryz.prog 50 #[] w λe w'=>∃ r,e=.returned r/\aK w' w.heap.size r 0/\au w w':=by
 refine ae (C:=aV Tryz.prog w _) (args:=[]) Tryz.func50 rfl Tryz.ntmps50 (bD rfl) ?_
 refine ab ?_
 refine VO.cR rfl rfl (fk Tryz.func11) (λaP bG aZ=>bK 0 aP aa aa) (λaP bG aZ w1 s1 p1 n1 c1 t1 y1 m1 d1 q1 aB cj _ bb1=>wV rfl ?_)
 refine ab ?_
 refine az ?_;intro wz kz bz
 exact⟨_,rfl,((q1.kp kz).mono aZ.size).cast rfl,bz⟩
theorem rL (w:World):Calls Tryz.prog 47 #[] w λe w'=>∃ r,e=.returned r/\dv w' r Pt.zero/\au w w':=by
 refine ae (C:=aV Tryz.prog w _) (args:=[]) Tryz.func47 rfl Tryz.ntmps47 (bD rfl) ?_
 refine ab ?_
 refine VO.cR rfl rfl (fk Tryz.func50) (λaP bG aZ=>eZ aP) (λaP bG aZ w1 s1 p1 n1 c1 t1 y1 m1 d1 q1 aB cj _ bb1=>wV rfl ?_)
 refine ab ?_
 refine VO.cR rfl rfl (fk Tryz.func50) (λbh bQ bE=>eZ bh) (λbh bQ bE w2 s2 p2 n2 c2 t2 y2 m2 d2 q2 aQ db _ bb2=>wV rfl ?_)
 refine ab ?_
 refine VO.cR rfl rfl (fk Tryz.func50) (λcY di dQ=>eZ cY) (λcY di dQ w3 s3 p3 n3 c3 t3 y3 m3 d3 q3 cu fj _ bb3=>wV rfl ?_)
 refine ab ?_
 refine VO.cR rfl rfl (fk Tryz.func50) (λfm gv iw=>eZ fm) (λfm gv iw w4 s4 p4 n4 c4 t4 y4 m4 d4 q4 fW lj _ sZ=>wV rfl ?_)
 refine ab ?_
 refine az ?_;intro wz kz bz
 exact⟨_,rfl,dv.mk (q1.kp bX).rd (q2.kp bX).rd (q3.kp bX).rd (q4.kp bX).rd,bz⟩
theorem gT (v u:Value) (T A:Rat) (w:World) (hv:aW w v T) (hu:aW w u A):
  Calls Tryz.prog 104 #[v,u] w λe w'=>∃ r,e=.returned r/\dv w' r ⟨T,A,0,0⟩/\au w w':=by
 obtain⟨s8,p8,n8,c8,t8,y8,m8,d8,rfl⟩:=hv.form
 obtain⟨s9,p9,n9,c9,t9,y9,m9,d9,rfl⟩:=hu.form
 refine ae (C:=aV Tryz.prog w _) (args:=[_,_]) Tryz.func104 rfl Tryz.ntmps104 (bD rfl) ?_
 refine ab ?_
 refine VO.call rfl rfl (fk Tryz.func47) (λaP bG aZ=>(rL aP).mono ?_)
 rintro e w1 ⟨r1,rfl,q1,aB⟩
 obtain⟨KB,KD,KE,KF,KG,KH,KJ,KL,KM,KO,KQ,KR,KS,KT,KV,KW,KX,KY,KZ,La,Lb,Lc,Ld,Le,Lf,Lg,Lh,Li,Lj,Lk,Ll,Lm,rfl,q1A,q1B,q1C,q1D⟩:=q1
 refine⟨_,rfl,aB,λcj _ bb1=>wV rfl ?_⟩
 (repeat (first|refine wN ?_|refine wP rfl ?_|refine Gx rfl ?_|refine wO rfl rfl ?_))
 refine VS.uN (cQ _ _) (mZ _ _) 6 rfl ?_
 (repeat' (first|refine VA.go rfl ?_|refine VA.fin rfl ?_|refine VA.dz _ rfl rfl ?_|refine VA.cons rfl ?_ ?_|exact VA.nil rfl))
 all_goals
  refine ab ?_
  refine az ?_;intro wz kz bz
  exact⟨_,rfl,dv.mk (hv.kp (Kp.of (U:=UU) bz)) (hu.kp (Kp.of (U:=UU) bz)) (q1C.kp bX) (q1D.kp bX),bz⟩
theorem sK (v u:Value) (T A:Rat) (j:Nat) (w:World) (hv:aW w v T) (hu:aW w u A) (hs:bW T j) (ha:bW A j) (hj:j<=1000000):
  Calls Tryz.prog 100 #[v,u] w λe w'=>∃ r,e=.returned r/\dv w' r ⟨T,T,0,0⟩/\au w w':=by
 obtain⟨s8,p8,n8,c8,t8,y8,m8,d8,rfl⟩:=hv.form
 obtain⟨s9,p9,n9,c9,t9,y9,m9,d9,rfl⟩:=hu.form
 have hT:ax w (.agg #[.bool s8,.slice p8 n8 c8,.bool t8,.slice y8 m8 d8]) T j:=hv.to hs
 have hA:ax w (.agg #[.bool s9,.slice p9 n9 c9,.bool t9,.slice y9 m9 d9]) A j:=hu.to ha
 refine ae (C:=aV Tryz.prog w _) (args:=[_,_]) Tryz.func100 rfl Tryz.ntmps100 (bD rfl) ?_
 refine ab ?_
 refine VO.call rfl rfl (fk Tryz.func104) (λaP bG aZ=>(gT _ _ _ _ aP (hv.kp (Kp.of (U:=UU) aZ)) (hv.kp (Kp.of (U:=UU) aZ))).mono ?_)
 rintro e w1 ⟨r1,rfl,q1,aB⟩
 obtain⟨KB,KD,KE,KF,KG,KH,KJ,KL,KM,KO,KQ,KR,KS,KT,KV,KW,KX,KY,KZ,La,Lb,Lc,Ld,Le,Lf,Lg,Lh,Li,Lj,Lk,Ll,Lm,rfl,q1A,q1B,q1C,q1D⟩:=q1
 refine aG aB ?_
 intro cj _ bb1
 refine az ?_;intro wz kz bz
 exact⟨_,rfl,dv.mk (q1A.kp bX) (q1B.kp bX) (q1C.kp bX) (q1D.kp bX),bz⟩
theorem vD (v u:Value) (T A:Rat) (j:Nat) (w:World) (hv:aW w v T) (hu:aW w u A) (hs:bW T j) (ha:bW A j) (hj:j<=1000000):
  Calls Tryz.prog 101 #[v,u] w λe w'=>∃ r,e=.returned r/\dv w' r ⟨-T,-T,0,0⟩/\au w w':=by
 obtain⟨s8,p8,n8,c8,t8,y8,m8,d8,rfl⟩:=hv.form
 obtain⟨s9,p9,n9,c9,t9,y9,m9,d9,rfl⟩:=hu.form
 have hT:ax w (.agg #[.bool s8,.slice p8 n8 c8,.bool t8,.slice y8 m8 d8]) T j:=hv.to hs
 have hA:ax w (.agg #[.bool s9,.slice p9 n9 c9,.bool t9,.slice y9 m9 d9]) A j:=hu.to ha
 refine ae (C:=aV Tryz.prog w _) (args:=[_,_]) Tryz.func101 rfl Tryz.ntmps101 (bD rfl) ?_
 refine ab ?_
 refine VO.cR rfl rfl (fk Tryz.func46) (λaP bG aZ=>ek _ _ _ aP (hT.kp (Kp.of (U:=UU) aZ)) aa) (λaP bG aZ w1 s1 p1 n1 c1 t1 y1 m1 d1 q1 aB cj _ bb1=>wV rfl ?_)
 refine ab ?_
 refine VO.cR rfl rfl (fk Tryz.func46) (λbh bQ bE=>ek _ _ _ bh (hT.kp (Kp.of (U:=UU) bE)) aa) (λbh bQ bE w2 s2 p2 n2 c2 t2 y2 m2 d2 q2 aQ db _ bb2=>wV rfl ?_)
 refine ab ?_
 refine VO.call rfl rfl (fk Tryz.func104) (λcY di dQ=>(gT _ _ _ _ cY ((q1.kp bX).rd) ((q2.kp bX).rd)).mono ?_)
 rintro e w3 ⟨r3,rfl,q3,cu⟩
 obtain⟨s3a,p3a,n3a,c3a,t3a,y3a,m3a,d3a,s3b,p3b,n3b,c3b,t3b,y3b,m3b,d3b,s3c,p3c,n3c,c3c,t3c,y3c,m3c,d3c,s3d,p3d,n3d,c3d,t3d,y3d,m3d,d3d,rfl,q3A,q3B,q3C,q3D⟩:=q3
 refine aG cu ?_
 intro fj _ bb3
 refine az ?_;intro wz kz bz
 exact⟨_,rfl,dv.mk (q3A.kp bX) (q3B.kp bX) (q3C.kp bX) (q3D.kp bX),bz⟩
theorem ng (v u:Value) (T A:Rat) (j:Nat) (w:World) (hv:aW w v T) (hu:aW w u A) (hs:bW T j) (ha:bW A j) (hj:j<=1000000):
  Calls Tryz.prog 102 #[v,u] w λe w'=>∃ r,e=.returned r/\dv w' r ⟨-T,0,0,0⟩/\au w w':=by
 obtain⟨s8,p8,n8,c8,t8,y8,m8,d8,rfl⟩:=hv.form
 obtain⟨s9,p9,n9,c9,t9,y9,m9,d9,rfl⟩:=hu.form
 have hT:ax w (.agg #[.bool s8,.slice p8 n8 c8,.bool t8,.slice y8 m8 d8]) T j:=hv.to hs
 have hA:ax w (.agg #[.bool s9,.slice p9 n9 c9,.bool t9,.slice y9 m9 d9]) A j:=hu.to ha
 refine ae (C:=aV Tryz.prog w _) (args:=[_,_]) Tryz.func102 rfl Tryz.ntmps102 (bD rfl) ?_
 refine ab ?_
 refine VO.cR rfl rfl (fk Tryz.func46) (λaP bG aZ=>ek _ _ _ aP (hT.kp (Kp.of (U:=UU) aZ)) aa) (λaP bG aZ w1 s1 p1 n1 c1 t1 y1 m1 d1 q1 aB cj _ bb1=>wV rfl ?_)
 refine ab ?_
 refine VO.cR rfl rfl (fk Tryz.func50) (λbh bQ bE=>eZ bh) (λbh bQ bE w2 s2 p2 n2 c2 t2 y2 m2 d2 q2 aQ db _ bb2=>wV rfl ?_)
 refine ab ?_
 refine VO.call rfl rfl (fk Tryz.func104) (λcY di dQ=>(gT _ _ _ _ cY ((q1.kp bX).rd) ((q2.kp bX).rd)).mono ?_)
 rintro e w3 ⟨r3,rfl,q3,cu⟩
 obtain⟨s3a,p3a,n3a,c3a,t3a,y3a,m3a,d3a,s3b,p3b,n3b,c3b,t3b,y3b,m3b,d3b,s3c,p3c,n3c,c3c,t3c,y3c,m3c,d3c,s3d,p3d,n3d,c3d,t3d,y3d,m3d,d3d,rfl,q3A,q3B,q3C,q3D⟩:=q3
 refine aG cu ?_
 intro fj _ bb3
 refine az ?_;intro wz kz bz
 exact⟨_,rfl,dv.mk (q3A.kp bX) (q3B.kp bX) (q3C.kp bX) (q3D.kp bX),bz⟩
theorem BI (v u:Value) (T A:Rat) (j:Nat) (w:World) (hv:aW w v T) (hu:aW w u A) (hs:bW T j) (ha:bW A j) (hj:j<=1000000):
  Calls Tryz.prog 103 #[v,u] w λe w'=>∃ r,e=.returned r/\dv w' r ⟨T,0,0,0⟩/\au w w':=by
 obtain⟨s8,p8,n8,c8,t8,y8,m8,d8,rfl⟩:=hv.form
 obtain⟨s9,p9,n9,c9,t9,y9,m9,d9,rfl⟩:=hu.form
 have hT:ax w (.agg #[.bool s8,.slice p8 n8 c8,.bool t8,.slice y8 m8 d8]) T j:=hv.to hs
 have hA:ax w (.agg #[.bool s9,.slice p9 n9 c9,.bool t9,.slice y9 m9 d9]) A j:=hu.to ha
 refine ae (C:=aV Tryz.prog w _) (args:=[_,_]) Tryz.func103 rfl Tryz.ntmps103 (bD rfl) ?_
 refine ab ?_
 refine VO.cR rfl rfl (fk Tryz.func50) (λaP bG aZ=>eZ aP) (λaP bG aZ w1 s1 p1 n1 c1 t1 y1 m1 d1 q1 aB cj _ bb1=>wV rfl ?_)
 refine ab ?_
 refine VO.call rfl rfl (fk Tryz.func104) (λbh bQ bE=>(gT _ _ _ _ bh (hv.kp (Kp.of (U:=UU) bE)) ((q1.kp bX).rd)).mono ?_)
 rintro e w2 ⟨r2,rfl,q2,aQ⟩
 obtain⟨s2a,p2a,n2a,c2a,t2a,y2a,m2a,d2a,s2b,p2b,n2b,c2b,t2b,y2b,m2b,d2b,s2c,p2c,n2c,c2c,t2c,y2c,m2c,d2c,s2d,p2d,n2d,c2d,t2d,y2d,m2d,d2d,rfl,q2A,q2B,q2C,q2D⟩:=q2
 refine aG aQ ?_
 intro db _ bb2
 refine az ?_;intro wz kz bz
 exact⟨_,rfl,dv.mk (q2A.kp bX) (q2B.kp bX) (q2C.kp bX) (q2D.kp bX),bz⟩
theorem BJ (v u:Value) (T A:Rat) (j:Nat) (w:World) (hv:aW w v T) (hu:aW w u A) (hs:bW T j) (ha:bW A j) (hj:j<=1000000):
  Calls Tryz.prog 105 #[v,u] w λe w'=>∃ r,e=.returned r/\dv w' r ⟨-T,-(T*(1-A)),0,0⟩/\au w w':=by
 obtain⟨s8,p8,n8,c8,t8,y8,m8,d8,rfl⟩:=hv.form
 obtain⟨s9,p9,n9,c9,t9,y9,m9,d9,rfl⟩:=hu.form
 have hT:ax w (.agg #[.bool s8,.slice p8 n8 c8,.bool t8,.slice y8 m8 d8]) T j:=hv.to hs
 have hA:ax w (.agg #[.bool s9,.slice p9 n9 c9,.bool t9,.slice y9 m9 d9]) A j:=hu.to ha
 refine ae (C:=aV Tryz.prog w _) (args:=[_,_]) Tryz.func105 rfl Tryz.ntmps105 (bD rfl) ?_
 refine ab ?_
 refine VO.cR rfl rfl (fk Tryz.func46) (λaP bG aZ=>ek _ _ _ aP (hT.kp (Kp.of (U:=UU) aZ)) aa) (λaP bG aZ w1 s1 p1 n1 c1 t1 y1 m1 d1 q1 aB cj _ bb1=>wV rfl ?_)
 refine ab ?_
 refine VO.cR rfl rfl (fk Tryz.func11) (λbh bQ bE=>bK 1 bh aa aa) (λbh bQ bE w2 s2 p2 n2 c2 t2 y2 m2 d2 q2 aQ db _ bb2=>wV rfl ?_)
 refine ab ?_
 have z2:bW ((1:Int):Rat) 1:=bW.one
 refine VO.cR rfl rfl (fk Tryz.func14) (λcY di dQ=>pd _ _ _ _ 1 j cY ((q2.kp bX).in z2) (hA.kp (Kp.of (U:=UU) dQ)) aa aa) (λcY di dQ w3 s3 p3 n3 c3 t3 y3 m3 d3 q3 cu fj _ bb3=>wV rfl ?_)
 refine ab ?_
 have z3:bW (((1:Int):Rat)-A) (1+j+1):=z2.sub ha
 refine VO.cR rfl rfl (fk Tryz.func106) (λfm gv iw=>vt _ _ _ _ j (1+j+1) fm (hT.kp (Kp.of (U:=UU) iw)) ((q3.kp bX).in z3) aa aa) (λfm gv iw w4 s4 p4 n4 c4 t4 y4 m4 d4 q4 fW lj _ sZ=>wV rfl ?_)
 refine ab ?_
 have z4:bW (T*(((1:Int):Rat)-A)) (j+(1+j+1)):=hs.mul z3
 refine VO.cR rfl rfl (fk Tryz.func46) (λiy jt ju=>ek _ _ (j+(1+j+1)) iy ((q4.kp bX).in z4) aa) (λiy jt ju w5 s5 p5 n5 c5 t5 y5 m5 d5 q5 jf oo _ yL=>wV rfl ?_)
 refine ab ?_
 refine VO.call rfl rfl (fk Tryz.func104) (λoX qN tV=>(gT _ _ _ _ oX ((q1.kp bX).rd) ((q5.kp bX).rd)).mono ?_)
 rintro e w6 ⟨r6,rfl,q6,tQ⟩
 obtain⟨s6a,p6a,n6a,c6a,t6a,y6a,m6a,d6a,s6b,p6b,n6b,c6b,t6b,y6b,m6b,d6b,s6c,p6c,n6c,c6c,t6c,y6c,m6c,d6c,s6d,p6d,n6d,c6d,t6d,y6d,m6d,d6d,rfl,q6A,q6B,q6C,q6D⟩:=q6
 refine aG tQ ?_
 intro vY _ GH
 refine az ?_;intro wz kz bz
 exact⟨_,rfl,dv.cast (dv.mk (q6A.kp bX) (q6B.kp bX) (q6C.kp bX) (q6D.kp bX)) rfl,bz⟩
theorem BK (v u:Value) (T A:Rat) (j:Nat) (w:World) (hv:aW w v T) (hu:aW w u A) (hs:bW T j) (ha:bW A j) (hj:j<=1000000):
  Calls Tryz.prog 107 #[v,u] w λe w'=>∃ r,e=.returned r/\dv w' r ⟨-T,-(gH jS T [A]),0,0⟩/\au w w':=by
 obtain⟨s8,p8,n8,c8,t8,y8,m8,d8,rfl⟩:=hv.form
 obtain⟨s9,p9,n9,c9,t9,y9,m9,d9,rfl⟩:=hu.form
 have hT:ax w (.agg #[.bool s8,.slice p8 n8 c8,.bool t8,.slice y8 m8 d8]) T j:=hv.to hs
 have hA:ax w (.agg #[.bool s9,.slice p9 n9 c9,.bool t9,.slice y9 m9 d9]) A j:=hu.to ha
 refine ae (C:=aV Tryz.prog w _) (args:=[_,_]) Tryz.func107 rfl Tryz.ntmps107 (bD rfl) ?_
 refine ab ?_
 refine VO.cR rfl rfl (fk Tryz.func46) (λaP bG aZ=>ek _ _ _ aP (hT.kp (Kp.of (U:=UU) aZ)) aa) (λaP bG aZ w1 s1 p1 n1 c1 t1 y1 m1 d1 q1 aB cj _ bb1=>wV rfl ?_)
 refine ab ?_
 refine VO.gw rfl (fk Tryz.func108) (λbh β bQ bE ho=>(DF _ _ T [A] j bh (hT.kp (Kp.of (U:=UU) bE)) (iY (ho.own 9 (.base (List.mem_singleton.2 rfl)) _ _ rfl) [] (vs:=[[.bool s9,.slice p9 n9 c9,.bool t9,.slice y9 m9 d9]]) (by rfl) rfl (dZ.cons (hA.kp (Kp.of (U:=UU) bE)) dZ.nil) (bD rfl) ff) aa (bD rfl)).mono ?_)
 rintro e w2 ⟨r2,rfl,q2,z2,aQ⟩
 obtain⟨s2,p2,n2,c2,t2,y2,m2,d2,rfl⟩:=q2.form
 refine aG aQ ?_
 intro db _ bb2
 have z2':bW (gH jS T [A]) j:=by
  have e:gH jS T [A]=if jS A T=true then A else T:=rfl
  rw[e];split <;> assumption
 refine VO.cR rfl rfl (fk Tryz.func46) (λcY di dQ=>ek _ _ j cY ((q2.kp bX).in z2') aa) (λcY di dQ w3 s3 p3 n3 c3 t3 y3 m3 d3 q3 cu fj _ bb3=>wV rfl ?_)
 refine ab ?_
 refine VO.call rfl rfl (fk Tryz.func104) (λfm gv iw=>(gT _ _ _ _ fm ((q1.kp bX).rd) ((q3.kp bX).rd)).mono ?_)
 rintro e w4 ⟨r4,rfl,q4,fW⟩
 obtain⟨s4a,p4a,n4a,c4a,t4a,y4a,m4a,d4a,s4b,p4b,n4b,c4b,t4b,y4b,m4b,d4b,s4c,p4c,n4c,c4c,t4c,y4c,m4c,d4c,s4d,p4d,n4d,c4d,t4d,y4d,m4d,d4d,rfl,q4A,q4B,q4C,q4D⟩:=q4
 refine aG fW ?_
 intro lj _ sZ
 refine az ?_;intro wz kz bz
 exact⟨_,rfl,dv.mk (q4A.kp bX) (q4B.kp bX) (q4C.kp bX) (q4D.kp bX),bz⟩
theorem Ln (v u:Value) (T A:Rat) (j:Nat) (w:World) (hv:aW w v T) (hu:aW w u A) (hs:bW T j) (ha:bW A j) (hj:j<=1000000):
  Calls Tryz.prog 109 #[v,u] w λe w'=>∃ r,e=.returned r/\dv w' r ⟨-T,-T,T,0⟩/\au w w':=by
 obtain⟨s8,p8,n8,c8,t8,y8,m8,d8,rfl⟩:=hv.form
 obtain⟨s9,p9,n9,c9,t9,y9,m9,d9,rfl⟩:=hu.form
 have hT:ax w (.agg #[.bool s8,.slice p8 n8 c8,.bool t8,.slice y8 m8 d8]) T j:=hv.to hs
 have hA:ax w (.agg #[.bool s9,.slice p9 n9 c9,.bool t9,.slice y9 m9 d9]) A j:=hu.to ha
 refine ae (C:=aV Tryz.prog w _) (args:=[_,_]) Tryz.func109 rfl Tryz.ntmps109 (bD rfl) ?_
 refine ab ?_
 refine VO.call rfl rfl (fk Tryz.func101) (λaP bG aZ=>(vD _ _ _ _ j aP (hv.kp (Kp.of (U:=UU) aZ)) (hu.kp (Kp.of (U:=UU) aZ)) hs ha hj).mono ?_)
 rintro e w1 ⟨r1,rfl,q1,aB⟩
 obtain⟨KB,KD,KE,KF,KG,KH,KJ,KL,KM,KO,KQ,KR,KS,KT,KV,KW,KX,KY,KZ,La,Lb,Lc,Ld,Le,Lf,Lg,Lh,Li,Lj,Lk,Ll,Lm,rfl,q1A,q1B,q1C,q1D⟩:=q1
 refine aG aB ?_
 intro cj _ bb1
 refine az ?_;intro wz kz bz
 exact⟨_,rfl,dv.mk (q1A.kp bX) (q1B.kp bX) (hv.kp (Kp.of (U:=UU) bz)) (q1D.kp bX),bz⟩
theorem DU (v u:Value) (T A:Rat) (j:Nat) (w:World) (hv:aW w v T) (hu:aW w u A) (hs:bW T j) (ha:bW A j) (hj:j<=1000000):
  Calls Tryz.prog 110 #[v,u] w λe w'=>∃ r,e=.returned r/\dv w' r ⟨T,0,0,-T⟩/\au w w':=by
 obtain⟨s8,p8,n8,c8,t8,y8,m8,d8,rfl⟩:=hv.form
 obtain⟨s9,p9,n9,c9,t9,y9,m9,d9,rfl⟩:=hu.form
 have hT:ax w (.agg #[.bool s8,.slice p8 n8 c8,.bool t8,.slice y8 m8 d8]) T j:=hv.to hs
 have hA:ax w (.agg #[.bool s9,.slice p9 n9 c9,.bool t9,.slice y9 m9 d9]) A j:=hu.to ha
 refine ae (C:=aV Tryz.prog w _) (args:=[_,_]) Tryz.func110 rfl Tryz.ntmps110 (bD rfl) ?_
 refine ab ?_
 refine VO.cR rfl rfl (fk Tryz.func50) (λaP bG aZ=>eZ aP) (λaP bG aZ w1 s1 p1 n1 c1 t1 y1 m1 d1 q1 aB cj _ bb1=>wV rfl ?_)
 refine ab ?_
 refine VO.call rfl rfl (fk Tryz.func104) (λbh bQ bE=>(gT _ _ _ _ bh (hv.kp (Kp.of (U:=UU) bE)) ((q1.kp bX).rd)).mono ?_)
 rintro e w2 ⟨r2,rfl,q2,aQ⟩
 obtain⟨s2a,p2a,n2a,c2a,t2a,y2a,m2a,d2a,s2b,p2b,n2b,c2b,t2b,y2b,m2b,d2b,s2c,p2c,n2c,c2c,t2c,y2c,m2c,d2c,s2d,p2d,n2d,c2d,t2d,y2d,m2d,d2d,rfl,q2A,q2B,q2C,q2D⟩:=q2
 refine aG aQ ?_
 intro db _ bb2
 refine VO.cR rfl rfl (fk Tryz.func46) (λcY di dQ=>ek _ _ _ cY (hT.kp (Kp.of (U:=UU) dQ)) aa) (λcY di dQ w3 s3 p3 n3 c3 t3 y3 m3 d3 q3 cu fj _ bb3=>wV rfl ?_)
 refine ab ?_
 refine az ?_;intro wz kz bz
 exact⟨_,rfl,dv.mk (q2A.kp bX) (q2B.kp bX) (q2C.kp bX) (q3.kp bX).rd,bz⟩
theorem BL (v u:Value) (T A:Rat) (j:Nat) (w:World) (hv:aW w v T) (hu:aW w u A) (hs:bW T j) (ha:bW A j) (hj:j<=1000000):
  Calls Tryz.prog 111 #[v,u] w λe w'=>∃ r,e=.returned r/\dv w' r ⟨-T,0,0,T⟩/\au w w':=by
 obtain⟨s8,p8,n8,c8,t8,y8,m8,d8,rfl⟩:=hv.form
 obtain⟨s9,p9,n9,c9,t9,y9,m9,d9,rfl⟩:=hu.form
 have hT:ax w (.agg #[.bool s8,.slice p8 n8 c8,.bool t8,.slice y8 m8 d8]) T j:=hv.to hs
 have hA:ax w (.agg #[.bool s9,.slice p9 n9 c9,.bool t9,.slice y9 m9 d9]) A j:=hu.to ha
 refine ae (C:=aV Tryz.prog w _) (args:=[_,_]) Tryz.func111 rfl Tryz.ntmps111 (bD rfl) ?_
 refine ab ?_
 refine VO.call rfl rfl (fk Tryz.func102) (λaP bG aZ=>(ng _ _ _ _ j aP (hv.kp (Kp.of (U:=UU) aZ)) (hu.kp (Kp.of (U:=UU) aZ)) hs ha hj).mono ?_)
 rintro e w1 ⟨r1,rfl,q1,aB⟩
 obtain⟨KB,KD,KE,KF,KG,KH,KJ,KL,KM,KO,KQ,KR,KS,KT,KV,KW,KX,KY,KZ,La,Lb,Lc,Ld,Le,Lf,Lg,Lh,Li,Lj,Lk,Ll,Lm,rfl,q1A,q1B,q1C,q1D⟩:=q1
 refine aG aB ?_
 intro cj _ bb1
 refine az ?_;intro wz kz bz
 exact⟨_,rfl,dv.mk (q1A.kp bX) (q1B.kp bX) (q1C.kp bX) (hv.kp (Kp.of (U:=UU) bz)),bz⟩
set_option maxRecDepth 4000
def yW:List (Value×FuncId):=[(.int .u8 1,100),(.int .u8 10,100),(.int .u8 2,101),(.int .u8 6,102),(.int .u8 11,102),(.int .u8 3,103),(.int .u8 4,105),(.int .u8 5,107),(.int .u8 7,109),(.int .u8 8,110),(.int .u8 9,111)]
abbrev nh:List MapEntry:=mY 0 yW
theorem DV (w:World):Calls Tryz.prog 48 #[] w λe w'=>∃ b,e=.returned (.map (some b))/\w'.heap[b]? =some (.map nh.toArray 11)/\au w w':=by
 refine ae (C:=aV Tryz.prog w _) (args:=[]) Tryz.func48 rfl Tryz.ntmps48 (bD rfl) ?_
 refine wQ ?_
 refine Gx rfl ?_
 refine wN ?_
 refine wQ ?_
 refine VS.mapLitN (cQ _ _) (t:=116) (kt:=5) (d:=.int .u8) 11 yW (by rfl) (by rfl) (by rfl) (by rfl) (by exact bD rfl) Tryz.underlying116 Tryz.underlying5 ?_ ?_ (λw1 b k1 b1 h1=>wV rfl ?_)
 ·repeat' (first|exact trivial|refine⟨rfl,rfl,rfl,?_⟩)
 ·repeat' (first|exact trivial|refine⟨rfl,rfl,?_⟩)
 refine ab ?_
 refine az ?_;intro wz kz bz
 exact⟨b,rfl,kz.map b _ _ h1,bz⟩
def gl (g:FuncId) (k:Nat):Prop:=∀ (v u:Value) (T A:Rat) (j:Nat) (w:World),aW w v T->aW w u A->bW T j->bW A j->j<=1000000->
    Calls Tryz.prog g #[v,u] w λe w'=>∃ r,e=.returned r/\dv w' r (qq k T A)/\au w w'
theorem gl.of {g:FuncId} {k:Nat} (P:Rat->Rat->Pt) (e:∀ T A,P T A=qq k T A) (h:∀ (v u:Value) (T A:Rat) (j:Nat) (w:World),aW w v T->aW w u A->bW T j->bW A j->j<=1000000->
 Calls Tryz.prog g #[v,u] w λe w'=>∃ r,e=.returned r/\dv w' r (P T A)/\au w w'):gl g k:=λv u T A j w h1 h2 h3 h4 h5=>by rw[<-e];exact h v u T A j w h1 h2 h3 h4 h5
theorem GY (T A:Rat): -(T*(1-A))=T*A-T:=by grind
theorem GZ (T A:Rat): -(gH jS T [A])=if jB T A>0 then-A else-T:=by
 have e:gH jS T [A]=if jS A T=true then A else T:=rfl
 rw[e]
 by_cases h:A<T
 ·have h2:jB T A>0:=nN.1 (show Kn T A=true from nN.2 h) |> λ_=>of_decide_eq_true (nN.2 h)
  rw[if_pos (xI.2 h),if_pos h2]
 ·have h2:¬ jB T A>0:=λe=>h (nN.1 (decide_eq_true e))
  rw[if_neg (λe=>h (xI.1 e)),if_neg h2]
theorem Ha (k:Nat):(∃ idx g,Instr.findNow (.int .u8) (.int .u8 (k:Int)) nh.toArray.toList 0=some (some (idx,.func (.func g) #[] #[]))/\jh Tryz.prog g/\gl g k)\/(Instr.findNow (.int .u8) (.int .u8 (k:Int)) nh.toArray.toList 0=some none/\∀ t a,qq k t a=Pt.zero):=by
 have h:k=1\/k=10\/k=2\/k=6\/k=11\/k=3\/k=4\/k=5\/k=7\/k=8\/k=9\/¬ (k=1\/k=10\/k=2\/k=6\/k=11\/k=3\/k=4\/k=5\/k=7\/k=8\/k=9):=by omega
 rcases h with rfl|rfl|rfl|rfl|rfl|rfl|rfl|rfl|rfl|rfl|rfl|h
 ·exact .inl ⟨_,_,rfl,(fk Tryz.func100),gl.of (λT A=>⟨T,T,0,0⟩) (λT A=>rfl) sK⟩
 ·exact .inl ⟨_,_,rfl,(fk Tryz.func100),gl.of (λT A=>⟨T,T,0,0⟩) (λT A=>rfl) sK⟩
 ·exact .inl ⟨_,_,rfl,(fk Tryz.func101),gl.of (λT A=>⟨-T,-T,0,0⟩) (λT A=>rfl) vD⟩
 ·exact .inl ⟨_,_,rfl,(fk Tryz.func102),gl.of (λT A=>⟨-T,0,0,0⟩) (λT A=>rfl) ng⟩
 ·exact .inl ⟨_,_,rfl,(fk Tryz.func102),gl.of (λT A=>⟨-T,0,0,0⟩) (λT A=>rfl) ng⟩
 ·exact .inl ⟨_,_,rfl,(fk Tryz.func103),gl.of (λT A=>⟨T,0,0,0⟩) (λT A=>rfl) BI⟩
 ·exact .inl ⟨_,_,rfl,(fk Tryz.func105),gl.of (λT A=>⟨-T,-(T*(1-A)),0,0⟩) (λT A=>Pt.ext' rfl (GY T A) rfl rfl) BJ⟩
 ·exact .inl ⟨_,_,rfl,(fk Tryz.func107),gl.of (λT A=>⟨-T,-(gH jS T [A]),0,0⟩) (λT A=>Pt.ext' rfl (GZ T A) rfl rfl) BK⟩
 ·exact .inl ⟨_,_,rfl,(fk Tryz.func109),gl.of (λT A=>⟨-T,-T,T,0⟩) (λT A=>rfl) Ln⟩
 ·exact .inl ⟨_,_,rfl,(fk Tryz.func110),gl.of (λT A=>⟨T,0,0,-T⟩) (λT A=>rfl) DU⟩
 ·exact .inl ⟨_,_,rfl,(fk Tryz.func111),gl.of (λT A=>⟨-T,0,0,T⟩) (λT A=>rfl) BL⟩
 ·refine .inr ⟨?_,λt a=> ?_⟩
  ·have n1:((k:Int) == 1)=false:=by rw[beq_eq_false_iff_ne];omega
   have n2:((k:Int) == 2)=false:=by rw[beq_eq_false_iff_ne];omega
   have n3:((k:Int) == 3)=false:=by rw[beq_eq_false_iff_ne];omega
   have n4:((k:Int) == 4)=false:=by rw[beq_eq_false_iff_ne];omega
   have n5:((k:Int) == 5)=false:=by rw[beq_eq_false_iff_ne];omega
   have n6:((k:Int) == 6)=false:=by rw[beq_eq_false_iff_ne];omega
   have n7:((k:Int) == 7)=false:=by rw[beq_eq_false_iff_ne];omega
   have n8:((k:Int) == 8)=false:=by rw[beq_eq_false_iff_ne];omega
   have n9:((k:Int) == 9)=false:=by rw[beq_eq_false_iff_ne];omega
   have n10:((k:Int) == 10)=false:=by rw[beq_eq_false_iff_ne];omega
   have n11:((k:Int) == 11)=false:=by rw[beq_eq_false_iff_ne];omega
   simp only[nh,yW,mY,List.toList_toArray,Instr.findNow,Instr.sameNow,if_true,n1,n2,n3,n4,n5,n6,n7,n8,n9,n10,n11]
  ·refine Pt.ext' ?_ ?_ ?_ ?_
   ·show qn k t=0;unfold qn;rw[if_neg aa,if_neg aa]
   ·show qo k t a=0;unfold qo;rw[if_neg aa,if_neg aa,if_neg aa,if_neg aa,if_neg aa,if_neg aa]
   ·show yT k t=0;unfold yT;rw[if_neg aa]
   ·show yU k t=0;unfold yU;rw[if_neg aa,if_neg aa]
theorem qy {cs l:List Value} (h:Value.agg cs.toArray=.agg l.toArray):cs=l:=by
 injection h with h
 simpa using congrArg Array.toList h
theorem BM {P Q:Prop} (h:Q) (i:Q->P:=by intro h;(repeat first|refine wN ?_|refine wP rfl ?_|refine cxA_r rfl ?_|refine cxA_d rfl ?_|refine wO rfl rfl ?_);exact h):P:=i h
set_option maxRecDepth 4000 in
theorem vE (g:Nat) (cs:List Value) (v:Value) (A P:Pt) (k l:Nat) (w:World) (hc:aR w g 115 cs.toArray) (hA:dv w (.agg cs.toArray) A) (hP:qw w v P l) (hs:vA A k) (hk:k<=67108864) (hl:l<=67108864):
  Calls Tryz.prog 49 #[.pointer (some ⟨g,0,none⟩),v] w λe w'=>∃ ds:List Value,e=.returned (.tuple #[])/\vW [g] w w'/\aR w' g 115 ds.toArray/\ds.all aM=true/\dv w' (.agg ds.toArray) (A.add P):=by
 obtain⟨s8a,p8a,n8a,c8a,t8a,y8a,m8a,d8a,s8b,p8b,n8b,c8b,t8b,y8b,m8b,d8b,s8c,p8c,n8c,c8c,t8c,y8c,m8c,d8c,s8d,p8d,n8d,c8d,t8d,y8d,m8d,d8d,hcs,q8A,q8B,q8C,q8D⟩:=hA
 obtain rfl:=qy hcs
 obtain⟨s9a,p9a,n9a,c9a,t9a,y9a,m9a,d9a,s9b,p9b,n9b,c9b,t9b,y9b,m9b,d9b,s9c,p9c,n9c,c9c,t9c,y9c,m9c,d9c,s9d,p9d,n9d,c9d,t9d,y9d,m9d,d9d,rfl,q9A,q9B,q9C,q9D⟩:=hP
 refine AP Tryz.prog w _ (KU UU) (λt=>Nat.beq t 30) table (λ_ _=>trivial) (us:=[_]) Tryz.func49 rfl Tryz.ntmps49 (bD rfl) hc rfl rfl ?_
 refine BM ?_
 refine VO.cR rfl rfl (fk Tryz.func13) (λaP bG aZ=>cZ _ _ A.b P.b k l aP ((q8A.kp bX).to hs.b) (q9A.kp bX) hk hl) (λaP bG aZ w1 s1 p1 n1 c1 t1 y1 m1 d1 q1 aB cj _ bb1=>wV rfl ?_)
 refine BM ?_
 refine VO.cR rfl rfl (fk Tryz.func13) (λbh bQ bE=>cZ _ _ A.s P.s k l bh ((q8B.kp bX).to hs.s) (q9B.kp bX) hk hl) (λbh bQ bE w2 s2 p2 n2 c2 t2 y2 m2 d2 q2 aQ db _ bb2=>wV rfl ?_)
 refine BM ?_
 refine VO.cR rfl rfl (fk Tryz.func13) (λcY di dQ=>cZ _ _ A.d P.d k l cY ((q8C.kp bX).to hs.d) (q9C.kp bX) hk hl) (λcY di dQ w3 s3 p3 n3 c3 t3 y3 m3 d3 q3 cu fj _ bb3=>wV rfl ?_)
 refine BM ?_
 refine VO.cR rfl rfl (fk Tryz.func13) (λfm gv iw=>cZ _ _ A.i P.i k l fm ((q8D.kp bX).to hs.i) (q9D.kp bX) hk hl) (λfm gv iw w4 s4 p4 n4 c4 t4 y4 m4 d4 q4 fW lj _ sZ=>wV rfl ?_)
 refine BM ?_
 refine VS.fin (Df _ _) rfl (λwz β kz oz en=> ?_)
 exact⟨_,rfl,oz.1,own1 (en.own 104 _ _ rfl) rfl,rfl,dv.mk (q1.kp bX).rd (q2.kp bX).rd (q3.kp bX).rd (q4.kp bX).rd⟩
set_option maxRecDepth 4000
theorem PtE.form {kk:Nat} {w:World} {cs:List Value} {P:Pt} (h:PtE kk w cs P):∃ KB KD KE KF KG KH KJ KL KM KO KQ KR KS KT KV KW KX KY KZ La Lb Lc Ld Le Lf Lg Lh Li Lj Lk Ll Lm,cs=[.bool KB,.slice KD KE KF,.bool KG,.slice KH KJ KL,.bool KM,.slice KO KQ KR,.bool KS,.slice KT KV KW,.bool KX,.slice KY KZ La,.bool Lb,.slice Lc Ld Le,.bool Lf,.slice Lg Lh Li,.bool Lj,.slice Lk Ll Lm]/\
 ax w (.agg #[.bool KB,.slice KD KE KF,.bool KG,.slice KH KJ KL]) P.b kk/\ax w (.agg #[.bool KM,.slice KO KQ KR,.bool KS,.slice KT KV KW]) P.s kk/\ax w (.agg #[.bool KX,.slice KY KZ La,.bool Lb,.slice Lc Ld Le]) P.d kk/\ax w (.agg #[.bool Lf,.slice Lg Lh Li,.bool Lj,.slice Lk Ll Lm]) P.i kk:=by
 obtain⟨KB,KD,KE,KF,KG,KH,KJ,KL,KM,KO,KQ,KR,KS,KT,KV,KW,KX,KY,KZ,La,Lb,Lc,Ld,Le,Lf,Lg,Lh,Li,Lj,Lk,Ll,Lm,hv,h1,h2,h3,h4⟩:=h
 exact⟨_,_,_,_,_,_,_,_,_,_,_,_,_,_,_,_,_,_,_,_,_,_,_,_,_,_,_,_,_,_,_,_,qy hv,h1,h2,h3,h4⟩
set_option maxRecDepth 4000 in
theorem Hb (v:Value) (l:List GU) (kk:Nat) (w:World) (hv:bL (qx kk) 9 w v l) (kh:1<=kk) (EP:kk<=1000000) (hsz:gS kk l.length<=60000000):
  Calls Tryz.prog 15 #[v] w λe w'=>∃ r,e=.returned r/\dv w' r (bl l)/\au w w':=by
 obtain⟨p,c,rfl,dK,eE⟩:=hv.form
 have hszs:=slin_sz hv kh
 obtain⟨N,hN⟩:∃ N,N=l.length:=⟨_,rfl⟩
 rw[<-hN] at hv dK hsz ⊢
 refine ae (C:=aV Tryz.prog w _) (args:=[_]) Tryz.func15 rfl Tryz.ntmps15 (bD rfl) ?_
 refine ab ?_
 refine VO.call rfl rfl (fk Tryz.func47) (λaP bG aZ=>(rL aP).mono ?_)
 rintro e w1 ⟨r1,rfl,q1,aB⟩
 obtain⟨KB,KD,KE,KF,KG,KH,KJ,KL,KM,KO,KQ,KR,KS,KT,KV,KW,KX,KY,KZ,La,Lb,Lc,Ld,Le,Lf,Lg,Lh,Li,Lj,Lk,Ll,Lm,rfl,q1r⟩:=q1;have q1:=dv.mk q1r.1 q1r.2.1 q1r.2.2.1 q1r.2.2.2
 refine aG aB ?_
 intro cj _ bb1
 refine VO.call rfl rfl (fk Tryz.func48) (λbh bQ bE=>(DV bh).mono ?_)
 rintro e w2 ⟨b2,rfl,m2,aQ⟩
 skip
 refine aG aQ ?_
 intro db _ bb2
 refine VS.loop (J:=λm L M w'=>∃ (z:Nat) (cs:List Value),z<=N/\m=N-z/\L=[(2,.box 2 0),(3,.box 11 0),(4,.val (.map (some b2))),(13,.val (.slice p N c)),(14,.val (.int .i64 (N:Int))),(15,.val (.int .i64 (z:Int)))]/\
  M=[(2,(47,([.bool false,.slice none 0 0,.bool false,.slice none 0 0,.bool false,.slice none 0 0,.bool false,.slice none 0 0,.bool false,.slice none 0 0,.bool false,.slice none 0 0,.bool false,.slice none 0 0,.bool false,.slice none 0 0]:List Value).map .val)),(11,(115,cs.map .val))]/\cs.all aM=true/\dv w' (.agg cs.toArray) (bl (l.take z))/\w'.heap[b2]? =some (.map nh.toArray 11)) N
  ⟨_,_,?_,?_,?_,?_,⟨0,[.bool KB,.slice KD KE KF,.bool KG,.slice KH KJ KL,.bool KM,.slice KO KQ KR,.bool KS,.slice KT KV KW,.bool KX,.slice KY KZ La,.bool Lb,.slice Lc Ld Le,.bool Lf,.slice Lg Lh Li,.bool Lj,.slice Lk Ll Lm],by omega,rfl,rfl,rfl,rfl,q1.kp bX,m2⟩⟩ ?_
 ·exact dw
 ·exact dw
 ·rfl
 ·exact iK
 rintro m L M wJ ⟨z,cs,hz,rfl,rfl,rfl,iu,hpt,nX⟩
 refine ab ?_
 by_cases hlt:z<N
 ·obtain⟨x,hx⟩:∃ x,l[z]? =some x:=⟨_,List.getElem?_eq_getElem aa⟩
  obtain⟨b,off,gr,rfl,hc,he⟩:=hv.at hx
  obtain⟨s9a,p9a,n9a,c9a,t9a,y9a,m9a,d9a,s9b,p9b,n9b,c9b,t9b,y9b,m9b,d9b,rfl,hkd,hAr,hTo⟩:=he
  obtain⟨kd,ar,tx⟩:=x
  replace hAr:ax w (.agg #[.bool s9a,.slice p9a n9a c9a,.bool t9a,.slice y9a m9a d9a]) ar kk:=hAr
  replace hTo:ax w (.agg #[.bool s9b,.slice p9b n9b c9b,.bool t9b,.slice y9b m9b d9b]) tx kk:=hTo
  obtain⟨hsa,hst⟩:=hszs _ (List.mem_of_getElem? hx)
  have hst:bW tx kk:=hst
  have hsa:bW ar kk:=hsa
  have hpsz:vA (bl (l.take z)) (gS kk N):=(vC kh (l.take z) (λy hy=>hszs y (List.mem_of_mem_take hy))).mono (GX (by rw[List.length_take];omega))
  refine VS.aY rfl (decide_eq_true (Int.ofNat_lt.2 hlt)) ?_
  refine ab ?_
  refine VO.cond rfl eP (wV rfl ?_)
  refine VO.read rfl [.int .u8 (kd:Int),.bool s9a,.slice p9a n9a c9a,.bool t9a,.slice y9a m9a d9a,.bool s9b,.slice p9b n9b c9b,.bool t9b,.slice y9b m9b d9b] rfl (λj u hj=>by rw[Addr.add_mid,Int.toNat_natCast];exact hc j u hj) (wV rfl ?_)
  refine ab ?_
  have hd0:MapKept.IsKey (.int .u8) (.int .u8 (kd:Int)):=rfl
  rcases Ha kd with ⟨idx,g,Lp,hg,hrule⟩|⟨Lp,hzero⟩
  ·refine VO.look (t:=116) (kt:=5) (d:=.int .u8) (z:=.nilFunc) rfl rfl Tryz.underlying116 Tryz.underlying5 hd0 (λw=>by kernel_rfl) (λw1 k1 _=>k1.map _ _ _ nX) Lp (λw3 fj bb3=>wV rfl ?_)
   (repeat (first|refine wN ?_|refine wP rfl ?_|refine Gx rfl ?_|refine wO rfl rfl ?_))
   refine VS.draw (cQ _ _) (mZ _ _) [49] (by kernel_rfl) ?_
   refine wV rfl ?_
   refine VO.cR rfl rfl (fk Tryz.func50) (λfm gv iw=>eZ fm) (λfm gv iw w4 s4 p4 n4 c4 t4 y4 m4 d4 q4 fW lj _ sZ=>wV rfl ?_)
   refine ab ?_
   refine VO.cR rfl rfl (fk Tryz.func13) (λiy jt ju=>cZ _ _ tx 0 kk 1 iy (hTo.kp (Kp.of (U:=UU) ju)) ((q4.kp bX).in bW.zero) aa aa) (λiy jt ju w5 s5 p5 n5 c5 t5 y5 m5 d5 q5 jf oo _ yL=>wV rfl ?_)
   refine ab ?_
   refine VO.cR rfl rfl (fk Tryz.func50) (λoX qN tV=>eZ oX) (λoX qN tV w6 s6 p6 n6 c6 t6 y6 m6 d6 q6 tQ vY _ GH=>wV rfl ?_)
   refine ab ?_
   refine VO.cR rfl rfl (fk Tryz.func13) (λzj Bh xG=>cZ _ _ ar 0 kk 1 zj (hAr.kp (Kp.of (U:=UU) xG)) ((q6.kp bX).in bW.zero) aa aa) (λzj Bh xG w7 s7 p7 n7 c7 t7 y7 m7 d7 q7 Ij Du _ bb7=>wV rfl ?_)
   refine ab ?_
   have q5':=aW.cast q5.rd (Rat.add_zero tx).symm
   have q7':=aW.cast q7.rd (Rat.add_zero ar).symm
   refine VO.call rfl rfl hg (λGI ka8 Il=>(hrule _ _ tx ar kk GI (q5'.kp bX) (q7'.kp bX) hst hsa EP).mono ?_)
   rintro e w8 ⟨r8,rfl,q8,Ew⟩
   have q8':=q8
   obtain⟨s8a,p8a,n8a,c8a,t8a,y8a,m8a,d8a,s8b,p8b,n8b,c8b,t8b,y8b,m8b,d8b,s8c,p8c,n8c,c8c,t8c,y8c,m8c,d8c,s8d,p8d,n8d,c8d,t8d,y8d,m8d,d8d,rfl,_⟩:=q8'
   refine aG Ew ?_
   intro Cq _ bb8
   refine VO.callM (i:=11) rfl rfl (List.mem_append_left _ (List.mem_singleton.2 rfl)) (fk Tryz.func49) (bD rfl) (λKh β ka9 Ki ho=>(vE (β 11) cs _ (bl (l.take z)) (qq kd tx ar) (gS kk N) (3*kk+1) Kh ?_ (hpt.kp bX) ((q8.kp bX).to (Fi hst hsa kh)) hpsz aa aa).mono ?_)
   ·have:=(ho.own 11 (.base (List.mem_append_left _ (List.mem_singleton.2 rfl))) _ _ rfl).cls
    rw[aJ] at this
    exact this
   rintro e w9 ⟨ds,rfl,hbut,hcls,Lq,hptd⟩
   refine⟨_,ds,rfl,hbut,hcls,Lq,λDv kc9 bb9=>wV rfl ?_⟩
   refine ab ?_
   have Lr:dv w9 (.agg ds.toArray) (bl (l.take (z+1))):=hptd.cast (qu hx).symm
   refine VS.back (N-(z+1)) aa ⟨_,_,?_,?_,?_,?_,⟨z+1,ds,by omega,rfl,rfl,rfl,Lq,Lr,aN.map (K:=KU UU) (w:=wJ) bX _ _ _ nX⟩⟩
   ·refine⟨rfl,rfl,rfl,rfl,rfl,?_,trivial⟩
    rw[<-bf aa];rfl
   ·exact dw
   ·rfl
   ·exact iK
  ·refine VO.look (t:=116) (kt:=5) (d:=.int .u8) (z:=.nilFunc) rfl rfl Tryz.underlying116 Tryz.underlying5 hd0 (λw=>by kernel_rfl) (λw1 k1 _=>k1.map _ _ _ nX) Lp (λw3 fj bb3=>wV rfl ?_)
   refine ab ?_
   have Lr:dv w3 (.agg cs.toArray) (bl (l.take (z+1))):=(hpt.kp fj).cast (by rw[qu hx,show yV (kd,ar,tx)=Pt.zero from hzero _ _,add_zero'])
   refine VS.back (N-(z+1)) aa ⟨_,_,?_,?_,?_,?_,⟨z+1,cs,by omega,rfl,rfl,rfl,iu,Lr,fj.map _ _ _ nX⟩⟩
   ·refine⟨rfl,rfl,rfl,rfl,rfl,?_,trivial⟩
    rw[<-bf aa];rfl
   ·exact dw
   ·rfl
   ·exact iK
 ·refine VS.bk rfl (decide_eq_false (λe=>hlt (Int.ofNat_lt.1 e))) ?_
  obtain rfl:z=N:=by omega
  have hpt0:=hpt
  obtain⟨s3a,p3a,n3a,c3a,t3a,y3a,m3a,d3a,s3b,p3b,n3b,c3b,t3b,y3b,m3b,d3b,s3c,p3c,n3c,c3c,t3c,y3c,m3c,d3c,s3d,p3d,n3d,c3d,t3d,y3d,m3d,d3d,hcs,_⟩:=hpt0
  obtain rfl:=qy hcs
  refine ab ?_
  refine az ?_;intro wz kz bz
  exact⟨_,rfl,(hpt.kp kz).cast (by rw[List.take_of_length_le aa]),bz⟩
set_option maxRecDepth 4000 in
theorem vF (v:Value) (l:List Pt) (kk:Nat) (w:World) (hv:bL (PtE kk) 16 w v l) (kh:1<=kk) (EP:kk<=1000000) (hsz:cW kk l.length<=60000000):
  Calls Tryz.prog 60 #[v] w λe w'=>∃ r,e=.returned r/\dv w' r (nY l)/\au w w':=by
 obtain⟨p,c,rfl,dK,eE⟩:=hv.form
 have hszs:=slpt_sz hv kh
 obtain⟨N,hN⟩:∃ N,N=l.length:=⟨_,rfl⟩
 rw[<-hN] at hv dK hsz ⊢
 refine ae (C:=aV Tryz.prog w _) (args:=[_]) Tryz.func60 rfl Tryz.ntmps60 (bD rfl) ?_
 refine ab ?_
 refine VO.call rfl rfl (fk Tryz.func47) (λaP bG aZ=>(rL aP).mono ?_)
 rintro e w1 ⟨r1,rfl,q1,aB⟩
 obtain⟨KB,KD,KE,KF,KG,KH,KJ,KL,KM,KO,KQ,KR,KS,KT,KV,KW,KX,KY,KZ,La,Lb,Lc,Ld,Le,Lf,Lg,Lh,Li,Lj,Lk,Ll,Lm,rfl,q1r⟩:=q1;have q1:=dv.mk q1r.1 q1r.2.1 q1r.2.2.1 q1r.2.2.2
 refine aG aB ?_
 intro cj _ bb1
 refine VS.loop (J:=λm L M w'=>∃ (z:Nat) (cs:List Value),z<=N/\m=N-z/\L=[(2,.box 2 0),(3,.box 8 0),(9,.val (.slice p N c)),(10,.val (.int .i64 (N:Int))),(11,.val (.int .i64 (z:Int)))]/\
  M=[(2,(47,([.bool false,.slice none 0 0,.bool false,.slice none 0 0,.bool false,.slice none 0 0,.bool false,.slice none 0 0,.bool false,.slice none 0 0,.bool false,.slice none 0 0,.bool false,.slice none 0 0,.bool false,.slice none 0 0]:List Value).map .val)),(8,(115,cs.map .val))]/\cs.all aM=true/\dv w' (.agg cs.toArray) (nY (l.take z))) N
  ⟨_,_,?_,?_,?_,?_,⟨0,[.bool KB,.slice KD KE KF,.bool KG,.slice KH KJ KL,.bool KM,.slice KO KQ KR,.bool KS,.slice KT KV KW,.bool KX,.slice KY KZ La,.bool Lb,.slice Lc Ld Le,.bool Lf,.slice Lg Lh Li,.bool Lj,.slice Lk Ll Lm],by omega,rfl,rfl,rfl,rfl,q1⟩⟩ ?_
 ·exact dw
 ·exact dw
 ·rfl
 ·exact iK
 rintro m L M wJ ⟨z,cs,hz,rfl,rfl,rfl,iu,hpt⟩
 refine ab ?_
 by_cases hlt:z<N
 ·obtain⟨x,hx⟩:∃ x,l[z]? =some x:=⟨_,List.getElem?_eq_getElem aa⟩
  obtain⟨b,off,gr,rfl,hc,he⟩:=hv.at hx
  have zf:=he
  obtain⟨s9a,p9a,n9a,c9a,t9a,y9a,m9a,d9a,s9b,p9b,n9b,c9b,t9b,y9b,m9b,d9b,s9c,p9c,n9c,c9c,t9c,y9c,m9c,d9c,s9d,p9d,n9d,c9d,t9d,y9d,m9d,d9d,rfl,q9A,q9B,q9C,q9D⟩:=zf.form
  have hpsz:vA (nY (l.take z)) (cW kk N):=(psum_sz (l.take z) (λy hy=>hszs y (List.mem_of_mem_take hy))).mono (KA (by rw[List.length_take];omega))
  refine VS.aY rfl (decide_eq_true (Int.ofNat_lt.2 hlt)) ?_
  refine ab ?_
  refine VO.cond rfl eP (wV rfl ?_)
  refine VO.read rfl [.bool s9a,.slice p9a n9a c9a,.bool t9a,.slice y9a m9a d9a,.bool s9b,.slice p9b n9b c9b,.bool t9b,.slice y9b m9b d9b,.bool s9c,.slice p9c n9c c9c,.bool t9c,.slice y9c m9c d9c,.bool s9d,.slice p9d n9d c9d,.bool t9d,.slice y9d m9d d9d] rfl (λj u hj=>by rw[Addr.add_mid,Int.toNat_natCast];exact hc j u hj) (wV rfl ?_)
  refine ab ?_
  refine VO.callM (i:=8) rfl rfl (List.mem_append_left _ (List.mem_singleton.2 rfl)) (fk Tryz.func49) (bD rfl) (λKh β ka9 Ki ho=>(vE (β 8) cs _ (nY (l.take z)) x (cW kk N) kk Kh ?_ (hpt.kp bX) ((pt_ok kk).kp he (Kp.of (U:=UU) Ki)) hpsz aa aa).mono ?_)
  ·have:=(ho.own 8 (.base (List.mem_append_left _ (List.mem_singleton.2 rfl))) _ _ rfl).cls
   rw[aJ] at this
   exact this
  rintro e w9 ⟨ds,rfl,hbut,hcls,Lq,hptd⟩
  refine⟨_,ds,rfl,hbut,hcls,Lq,λDv kc9 bb9=>wV rfl ?_⟩
  refine ab ?_
  have Lr:dv w9 (.agg ds.toArray) (nY (l.take (z+1))):=hptd.cast (GV hx).symm
  refine VS.back (N-(z+1)) aa ⟨_,_,?_,?_,?_,?_,⟨z+1,ds,by omega,rfl,rfl,rfl,Lq,Lr⟩⟩
  ·refine⟨rfl,rfl,rfl,rfl,?_,trivial⟩
   rw[<-bf aa];rfl
  ·exact dw
  ·rfl
  ·exact iK
 ·refine VS.bk rfl (decide_eq_false (λe=>hlt (Int.ofNat_lt.1 e))) ?_
  obtain rfl:z=N:=by omega
  have hpt0:=hpt
  obtain⟨s3a,p3a,n3a,c3a,t3a,y3a,m3a,d3a,s3b,p3b,n3b,c3b,t3b,y3b,m3b,d3b,s3c,p3c,n3c,c3c,t3c,y3c,m3c,d3c,s3d,p3d,n3d,c3d,t3d,y3d,m3d,d3d,hcs,_⟩:=hpt0
  obtain rfl:=qy hcs
  refine ab ?_
  refine az ?_;intro wz kz bz
  exact⟨_,rfl,(hpt.kp kz).cast (by rw[List.take_of_length_le aa]),bz⟩
end
set_option maxRecDepth 4000
section
open Go.RowKit
abbrev Fj:=Int×Int×Bool×Rat
def cH (e:Fj):Bool:=decide (e.1<0) || (decide (e.1>9999) || (decide (e.2.1<1) || (decide (e.2.1>40) || !e.2.2.1)))
theorem iZ {e:Fj} (h:cH e=false):0<=e.1/\e.1<=9999/\1<=e.2.1/\e.2.1<=40/\e.2.2.1=true:=by
 unfold cH at h
 simp only[Bool.or_eq_false_iff,decide_eq_false_iff_not,Bool.not_eq_false'] at h
 obtain⟨a,b,c,d,f⟩:=h
 exact⟨by omega,by omega,by omega,by omega,f⟩
def iq (e:Fj) (y:Int):Rat:=if cH e=true\/y<=e.1\/y>e.1+e.2.1 then 0 else e.2.2.2*Rat.divInt 1 e.2.1
def lX (e:Fj) (y:Int):Int:=if y<=e.1 then 0 else if y>=e.1+e.2.1 then e.2.1 else y-e.1
def nZ (e:Fj) (y:Int):Rat:=if e.1>y then 0 else e.2.2.2*Rat.divInt (e.2.1-lX e y) e.2.1
theorem ja (x:Rat) (l:List Rat):dm (x::l)=x+dm l:=by
 have key:∀ (l:List Rat) (a:Rat),l.foldl (·+ ·) a=a+l.foldl (·+ ·) 0:=by
  intro l
  induction l with
  | nil=>intro a;show a=a+0;grind
  | cons y r ih=>intro a;rw[List.foldl_cons,List.foldl_cons,ih (a+y),ih (0+y)];grind
 show List.foldl (·+ ·) (0+x) l=_
 rw[key]
 show 0+x+dm l=x+dm l
 grind
theorem vG:dm []=0:=rfl
theorem BN (l m:List Rat):dm (l++m)=dm l+dm m:=by
 induction l with
 | nil=>rw[List.nil_append,vG];grind
 | cons x r ih=>rw[List.cons_append,ja,ja,ih];grind
end
section
open Go.RowKit
attribute [local irreducible] ak VS
abbrev bS:=Int×Int×Bool×List Nat×Bool×List Nat
def bS.exp (e:bS):Fj:=(e.1,e.2.1,tc e.2.2.1 e.2.2.2.1 e.2.2.2.2.1 e.2.2.2.2.2,rq e.2.2.1 e.2.2.2.1 e.2.2.2.2.1 e.2.2.2.2.2)
def oc (x:Int):Prop:= -9223372036854775808<=x/\x<=9223372036854775807
def ni (kk:Nat) (w:World) (cs:List Value) (e:bS):Prop:=
 ∃ p c r d,cs=[.int .i64 e.1,.int .i64 e.2.1,.bool e.2.2.1,.slice p e.2.2.2.1.length c,.bool e.2.2.2.2.1,.slice r e.2.2.2.2.2.length d]/\oc e.1/\oc e.2.1/\
   bV w (.agg #[.bool e.2.2.1,.slice p e.2.2.2.1.length c,.bool e.2.2.2.2.1,.slice r e.2.2.2.2.2.length d]) e.2.2.1 e.2.2.2.1 e.2.2.2.2.1 e.2.2.2.2.2/\e.2.2.2.1.length<=kk/\e.2.2.2.2.2.length<=kk
def rM (kk:Nat) (w:World) (v:Value) (e:bS):Prop:=∃ cs:List Value,v=.agg cs.toArray/\ni kk w cs e
theorem ni.kp {kk:Nat} {T:TypeId->Bool} {w w':World} {cs:List Value} {e:bS} (h:ni kk w cs e) (k:aN ⟨UU,λ_=>True,T⟩ w w'):ni kk w' cs e:=by
 obtain⟨p,c,r,d,h1,h2,h3,h4,h5⟩:=h
 exact⟨p,c,r,d,h1,h2,h3,h4.kp k,h5⟩
theorem rM.kp {kk:Nat} {T:TypeId->Bool} {w w':World} {v:Value} {e:bS} (h:rM kk w v e) (k:aN ⟨UU,λ_=>True,T⟩ w w'):rM kk w' v e:=by
 obtain⟨cs,h1,h2⟩:=h
 exact⟨cs,h1,h2.kp k⟩
theorem rM.k {kk:Nat} {T:TypeId->Bool} {w w':World} {v:Value} {e:bS} (h:rM kk w v e) (k:aN ⟨UU,λ_=>True,T⟩ w w':=by exact bX):rM kk w' v e:=h.kp k
theorem iB (kk:Nat):fu (ni kk) 6 where
 kp:=λh k=>h.kp k
 len:=λh=>by obtain⟨p,c,r,d,rfl,_⟩:=h;rfl
 ok:=λh=>by obtain⟨p,c,r,d,rfl,_⟩:=h;rfl
theorem bV.k {T:TypeId->Bool} {w w':World} {v:Value} {s t:Bool} {xs ys:List Nat} (h:bV w v s xs t ys) (k:aN ⟨UU,λ_=>True,T⟩ w w':=by exact bX):bV w' v s xs t ys:=h.kp k
theorem eQ (v:Value) (e:bS) (kk:Nat) (w:World) (hv:rM kk w v e) (hk:kk<=134217728) (c:Int) (hc:(if cH e.exp=true then 2 else 0)=c):
  Calls Tryz.prog 81 #[v] w λo w'=>o=.returned (.int .i64 c)/\au w w':=by
 obtain⟨cs,rfl,p,cp,r,d,rfl,hy,hn,hq,h1,h2⟩:=hv
 obtain⟨y,n,s,xs,t,ys⟩:=e
 have hew:cH (bS.exp (y,n,s,xs,t,ys))=(decide (y<0) || (decide (y>9999) || (decide (n<1) || (decide (n>40) || !tc s xs t ys)))):=rfl
 rw[hew] at hc
 replace hq:bV w (.agg #[.bool s,.slice p xs.length cp,.bool t,.slice r ys.length d]) s xs t ys:=hq
 replace h1:xs.length<=kk:=h1
 replace h2:ys.length<=kk:=h2
 refine ae (C:=aV Tryz.prog w _) (args:=[_]) Tryz.func81 rfl Tryz.ntmps81 (bD rfl) ?_
 refine ab ?_
 by_cases a1:y<0
 ·refine VO.fix 6 rfl (congrArg (λb=>AV.val (.bool b)) (decide_eq_true a1)) ?_
  refine ab ?_
  refine az ?_;intro wz kz bz
  exact⟨by rw[<-hc,decide_eq_true a1];rfl,bz⟩
 refine VO.fix 6 rfl (congrArg (λb=>AV.val (.bool b)) (decide_eq_false a1)) ?_
 refine ab ?_
 by_cases a2:y>9999
 ·refine VO.fix 11 rfl (congrArg (λb=>AV.val (.bool b)) (decide_eq_true a2)) ?_
  refine ab ?_
  refine az ?_;intro wz kz bz
  exact⟨by rw[<-hc,decide_eq_true a2,Bool.true_or,Bool.or_true];rfl,bz⟩
 refine VO.fix 11 rfl (congrArg (λb=>AV.val (.bool b)) (decide_eq_false a2)) ?_
 refine ab ?_
 by_cases a3:n<1
 ·refine VO.fix 16 rfl (congrArg (λb=>AV.val (.bool b)) (decide_eq_true a3)) ?_
  refine ab ?_
  refine az ?_;intro wz kz bz
  exact⟨by rw[<-hc,decide_eq_true a3];simp[jG],bz⟩
 refine VO.fix 16 rfl (congrArg (λb=>AV.val (.bool b)) (decide_eq_false a3)) ?_
 refine ab ?_
 by_cases a4:n>40
 ·refine VO.fix 21 rfl (congrArg (λb=>AV.val (.bool b)) (decide_eq_true a4)) ?_
  refine ab ?_
  refine az ?_;intro wz kz bz
  exact⟨by rw[<-hc,decide_eq_true a4];simp[jG],bz⟩
 refine VO.fix 21 rfl (congrArg (λb=>AV.val (.bool b)) (decide_eq_false a4)) ?_
 refine ab ?_
 refine VO.call rfl rfl (fk Tryz.func97) (λaP bG aZ=>(iL s t xs ys _ aP (hq.k) aa aa).mono ?_)
 rintro e w1 ⟨rfl,aB⟩
 rw[decide_eq_false a1,decide_eq_false a2,decide_eq_false a3,decide_eq_false a4] at hc
 cases hr:tc s xs t ys with
 | true=>
   rw[hr] at hc
   refine aG aB ?_
   intro cj _ bb1
   refine az ?_;intro wz kz bz
   exact⟨by rw[<-hc];rfl,bz⟩
 | false=>
   rw[hr] at hc
   refine aG aB ?_
   intro cj _ bb1
   refine az ?_;intro wz kz bz
   exact⟨by rw[<-hc];rfl,bz⟩
theorem nP {e:bS} (h:cH e.exp=false):0<=e.1/\e.1<=9999/\1<=e.2.1/\e.2.1<=40:=by
 obtain⟨a,b,c,d,_⟩:=iZ h
 exact⟨a,b,c,d⟩
theorem DW (v:Value) (e:bS) (kk:Nat) (z:Int) (w:World) (hv:rM kk w v e) (hw:cH e.exp=false) (hz:oc z):
  Calls Tryz.prog 91 #[v,.int .i64 z] w λo w'=>o=.returned (.int .i64 (lX e.exp z))/\au w w':=by
 obtain⟨g1,g2,g3,g4⟩:=nP hw
 obtain⟨cs,rfl,p,cp,r,d,rfl,hy,hn,hq,h1,h2⟩:=hv
 obtain⟨y,n,s,xs,t,ys⟩:=e
 replace g1:0<=y:=g1
 replace g2:y<=9999:=g2
 replace g3:1<=n:=g3
 replace g4:n<=40:=g4
 obtain⟨z1,z2⟩:=hz
 have hec:lX (bS.exp (y,n,s,xs,t,ys)) z=if z<=y then 0 else if z>=y+n then n else z-y:=rfl
 rw[hec]
 refine ae (C:=aV Tryz.prog w _) (args:=[_,_]) Tryz.func91 rfl Tryz.ntmps91 (bD rfl) ?_
 refine ab ?_
 by_cases a1:z<=y
 ·refine VS.aY rfl (decide_eq_true a1) ?_
  refine ab ?_
  refine az ?_;intro wz kz bz
  exact⟨by rw[if_pos a1];rfl,bz⟩
 refine VS.bk rfl (decide_eq_false a1) ?_
 refine ab ?_
 have e1:IntKind.i64.wrap (y+n)=y+n:=IntWalk.i64_in _ aa
 by_cases a2:z>=y+n
 ·refine VS.aY rfl (decide_eq_true (by rw[e1];exact a2)) ?_
  refine ab ?_
  refine az ?_;intro wz kz bz
  exact⟨by rw[if_neg a1,if_pos a2];rfl,bz⟩
 ·refine VS.bk rfl (decide_eq_false (by rw[e1];exact a2)) ?_
  refine ab ?_
  refine az ?_;intro wz kz bz
  exact⟨by rw[if_neg a1,if_neg a2,IntWalk.i64_in (z-y) aa];rfl,bz⟩
theorem Fk (v:Value) (e:bS) (kk:Nat) (k:Int) (w:World) (hv:rM kk w v e) (hw:cH e.exp=false) (hk:kk<=1048576) (k0:0<=k) (k1:k<=40):
  Calls Tryz.prog 90 #[v,.int .i64 k] w λo w'=>∃ x,o=.returned x/\aK w' w.heap.size x (e.exp.2.2.2*Rat.divInt k e.2.1)/\au w w':=by
 obtain⟨g1,g2,g3,g4⟩:=nP hw
 obtain⟨cs,rfl,p,cp,r,d,rfl,hy,hn,hq,h1,h2⟩:=hv
 obtain⟨y,n,s,xs,t,ys⟩:=e
 replace g3:1<=n:=g3
 replace g4:n<=40:=g4
 replace hq:bV w (.agg #[.bool s,.slice p xs.length cp,.bool t,.slice r ys.length d]) s xs t ys:=hq
 replace h1:xs.length<=kk:=h1
 replace h2:ys.length<=kk:=h2
 have lh:=hq.in h1 h2
 refine ae (C:=aV Tryz.prog w _) (args:=[_,_]) Tryz.func90 rfl Tryz.ntmps90 (bD rfl) ?_
 refine ab ?_
 refine VO.call rfl rfl (fk Tryz.func143) (λaP bG aZ=>(Kq k n aP aa aa aa aa 0 (Kr aa)).mono ?_)
 rintro e w1 ⟨r1,rfl,q1,aB⟩
 obtain⟨s1,p1,n1,c1,t1,y1,m1,d1,rfl⟩:=q1.form
 refine aG aB ?_
 intro cj _ bb1
 refine VO.cR rfl rfl (fk Tryz.func106) (λbh bQ bE=>vt _ _ (rq s xs t ys) (Rat.divInt k n) kk 1 bh (lh.k) (q1.ki (bW.of aa aa)) aa aa) (λbh bQ bE w2 s2 p2 n2 c2 t2 y2 m2 d2 q2 aQ db _ bb2=>wV rfl ?_)
 refine ab ?_
 refine az ?_;intro wz kz bz
 exact⟨_,rfl,(q2.kp kz).mono bE.size,bz⟩
theorem Hc (v:Value) (e:bS) (kk:Nat) (z:Int) (w:World) (hv:rM kk w v e) (hk:kk<=1048576) (hz:oc z):
  Calls Tryz.prog 88 #[v,.int .i64 z] w λo w'=>∃ x,o=.returned x/\aK w' w.heap.size x (iq e.exp z)/\au w w':=by
 have FQ:=hv
 obtain⟨cs,rfl,p,cp,r,d,rfl,hy,hn,hq,h1,h2⟩:=hv
 obtain⟨z1,z2⟩:=hz
 obtain⟨C,hC⟩:∃ C,C=iq e.exp z:=⟨_,rfl⟩
 rw[<-hC]
 unfold iq at hC
 refine ae (C:=aV Tryz.prog w _) (args:=[_,_]) Tryz.func88 rfl Tryz.ntmps88 (bD rfl) ?_
 refine ab ?_
 cases hw:cH e.exp with
 | true=>
   rw[hw,if_pos (.inl rfl)] at hC
   subst hC
   refine VO.cB rfl rfl (fk Tryz.func81) (λaP bG aZ=>eQ _ e kk aP (FQ.k) aa 2 (by rw[hw];rfl)) (λaP bG aZ w1 aB cj _ bb1=>wV rfl ?_)
   refine ab ?_
   refine VO.cR rfl rfl (fk Tryz.func11) (λbh bQ bE=>bK 0 bh aa aa) (λbh bQ bE w2 s2 p2 n2 c2 t2 y2 m2 d2 q2 aQ db _ bb2=>wV rfl ?_)
   refine ab ?_
   refine az ?_;intro wz kz bz
   exact⟨_,rfl,(q2.kp kz).mono bE.size,bz⟩
 | false=>
   obtain⟨g1,g2,g3,g4⟩:=nP hw
   have e1:IntKind.i64.wrap (e.1+e.2.1)=e.1+e.2.1:=IntWalk.i64_in _ aa
   rw[hw] at hC
   refine VO.cB rfl rfl (fk Tryz.func81) (λaP bG aZ=>eQ _ e kk aP (FQ.k) aa 0 (by rw[hw];rfl)) (λaP bG aZ w1 aB cj _ bb1=>wV rfl ?_)
   refine ab ?_
   by_cases a1:z<=e.1
   ·rw[if_pos (.inr (.inl a1))] at hC
    subst hC
    refine VO.fix 14 rfl (congrArg (λb=>AV.val (.bool b)) (decide_eq_true a1)) ?_
    refine ab ?_
    refine VO.cR rfl rfl (fk Tryz.func11) (λbh bQ bE=>bK 0 bh aa aa) (λbh bQ bE w2 s2 p2 n2 c2 t2 y2 m2 d2 q2 aQ db _ bb2=>wV rfl ?_)
    refine ab ?_
    refine az ?_;intro wz kz bz
    exact⟨_,rfl,(q2.kp kz).mono bE.size,bz⟩
   refine VO.fix 14 rfl (congrArg (λb=>AV.val (.bool b)) (decide_eq_false a1)) ?_
   refine ab ?_
   by_cases a2:z>e.1+e.2.1
   ·rw[if_pos (.inr (.inr a2))] at hC
    subst hC
    refine VS.aY rfl (decide_eq_true (show z>IntKind.i64.wrap (e.1+e.2.1) by rw[e1];exact a2)) ?_
    refine ab ?_
    refine VO.cR rfl rfl (fk Tryz.func11) (λbh bQ bE=>bK 0 bh aa aa) (λbh bQ bE w2 s2 p2 n2 c2 t2 y2 m2 d2 q2 aQ db _ bb2=>wV rfl ?_)
    refine ab ?_
    refine az ?_;intro wz kz bz
    exact⟨_,rfl,(q2.kp kz).mono bE.size,bz⟩
   ·rw[if_neg (by rintro (h|h|h);exact Bool.noConfusion h;exact a1 h;exact a2 h)] at hC
    subst hC
    refine VS.bk rfl (decide_eq_false (show ¬ z>IntKind.i64.wrap (e.1+e.2.1) by rw[e1];exact a2)) ?_
    refine ab ?_
    refine VO.cR rfl rfl (fk Tryz.func90) (λbh bQ bE=>Fk _ e kk 1 bh (FQ.k) hw hk aa aa) (λbh bQ bE w2 s2 p2 n2 c2 t2 y2 m2 d2 q2 aQ db _ bb2=>wV rfl ?_)
    refine ab ?_
    refine az ?_;intro wz kz bz
    exact⟨_,rfl,(q2.kp kz).mono bE.size,bz⟩
end
section
open Go.RowKit
theorem BO {s t:Bool} {xs ys:List Nat} (h:tc s xs t ys=true) (lx:bI xs) (ly:bI ys):
  decide ((rq s xs t ys).num<0)=s/\limbs (rq s xs t ys).num.natAbs=xs/\decide (((rq s xs t ys).den:Int)<0)=t/\limbs ((rq s xs t ys).den:Int).natAbs=ys:=by
 obtain⟨h1,h2,h3,h4⟩:=EY h
 obtain⟨e1,e2⟩:=lR ⟨h3,h4⟩
 unfold rq
 rw[e1,e2]
 unfold numOf
 rw[if_pos h1,if_pos h2]
 obtain⟨c1,c2⟩:=canon lx h1
 obtain⟨c3,c4⟩:=canon ly h2
 exact⟨c1.symm,c2.symm,c3.symm,c4.symm⟩
section
variable {α:Type} {E:World->List Value->α->Prop} {sz:Nat} {w w':World} {es:List α} {vs:List (List Value)}
end
end
section
open Go.RowKit
attribute [local irreducible] ak VS
theorem fb {w:World} {b o:Nat} {u:Value} (h:w.cell? ⟨b,o,none⟩=some u):∀ j x,[u][j]? =some x->w.cell? ((⟨b,o,none⟩:Addr).add j)=some x:=by
 intro j x hj
 cases j with
 | zero=>cases hj;rw[Addr.add_mid,Nat.add_zero];exact h
 | succ j=>simp at hj
theorem Hd (v:Value) (b:Nat) (e:bS) (kk:Nat) (z:Int) (w:World) (hv:rM kk w v e) (hc:w.cell? ⟨b,0,none⟩=some (.int .i64 z)) (hk:kk<=1048576) (hz:oc z):
  Calls Tryz.prog 87 #[v,.pointer (some ⟨b,0,none⟩)] w λo w'=>∃ x,o=.returned x/\aK w' w.heap.size x (iq e.exp z)/\au w w':=by
 have FQ:=hv
 obtain⟨cs,rfl,p,cp,r,d,rfl,hy,hn,hq,h1,h2⟩:=hv
 refine ae (C:=aV Tryz.prog w _) (args:=[_,_]) Tryz.func87 rfl Tryz.ntmps87 (bD rfl) ?_
 refine ab ?_
 refine VO.read rfl [.int .i64 z] rfl (fb hc) (wV rfl ?_)
 refine VO.cR rfl rfl (fk Tryz.func88) (λaP bG aZ=>Hc _ e kk z aP (FQ.k) hk hz) (λaP bG aZ w1 s1 p1 n1 c1 t1 y1 m1 d1 q1 aB cj _ bb1=>wV rfl ?_)
 refine ab ?_
 refine az ?_;intro wz kz bz
 exact⟨_,rfl,(q1.kp kz).mono aZ.size,bz⟩
theorem xM {e:Fj} (h:cH e=false) (z:Int):0<=lX e z/\lX e z<=e.2.1:=by
 obtain⟨h0,h1,h2,h3,_⟩:=iZ h
 unfold lX
 split
 ·omega
 ·split <;> omega
theorem He (v:Value) (b:Nat) (e:bS) (kk:Nat) (z:Int) (w:World) (hv:rM kk w v e) (hw:cH e.exp=false) (hc:w.cell? ⟨b,0,none⟩=some (.int .i64 z)) (hk:kk<=1048576) (hz:oc z):
  Calls Tryz.prog 89 #[v,.pointer (some ⟨b,0,none⟩)] w λo w'=>∃ x,o=.returned x/\aK w' w.heap.size x (nZ e.exp z)/\au w w':=by
 have FQ:=hv
 obtain⟨g1,g2,g3,g4⟩:=nP hw
 obtain⟨k1,k2⟩:=xM hw z
 obtain⟨N,hN⟩:∃ N,N=lX e.exp z:=⟨_,rfl⟩
 have hN2:N<=e.2.1:=by rw[hN];exact k2
 have e1:IntKind.i64.wrap (e.2.1-N)=e.2.1-N:=IntWalk.i64_in _ aa
 have hb:nZ e.exp z=if e.1>z then 0 else e.exp.2.2.2*Rat.divInt (e.2.1-N) e.2.1:=by rw[hN];rfl
 obtain⟨Q,hQ⟩:∃ Q,Q=nZ e.exp z:=⟨_,rfl⟩
 rw[<-hQ] at hb ⊢
 obtain⟨cs,rfl,p,cp,r,d,rfl,hy,hn,hq,h1,h2⟩:=hv
 refine ae (C:=aV Tryz.prog w _) (args:=[_,_]) Tryz.func89 rfl Tryz.ntmps89 (bD rfl) ?_
 refine ab ?_
 refine VO.read rfl [.int .i64 z] rfl (fb hc) (wV rfl ?_)
 refine ab ?_
 by_cases a1:e.1>z
 ·rw[if_pos a1] at hb
  subst hb
  refine VS.aY rfl (decide_eq_true a1) ?_
  refine ab ?_
  refine VO.cR rfl rfl (fk Tryz.func11) (λaP bG aZ=>bK 0 aP aa aa) (λaP bG aZ w1 s1 p1 n1 c1 t1 y1 m1 d1 q1 aB cj _ bb1=>wV rfl ?_)
  refine ab ?_
  refine az ?_;intro wz kz bz
  exact⟨_,rfl,(q1.kp kz).mono aZ.size,bz⟩
 ·rw[if_neg a1] at hb
  subst hb
  refine VS.bk rfl (decide_eq_false a1) ?_
  refine ab ?_
  refine VO.read rfl [.int .i64 z] rfl (fb hc) (wV rfl ?_)
  refine VO.cB rfl rfl (fk Tryz.func91) (λaP bG aZ=>DW _ e kk z aP (FQ.k) hw hz) (λaP bG aZ w1 aB cj _ bb1=>wV rfl ?_)
  refine ab ?_
  rw[<-hN,e1]
  refine VO.cR rfl rfl (fk Tryz.func90) (λbh bQ bE=>Fk _ e kk (e.2.1-N) bh (FQ.k) hw hk aa aa) (λbh bQ bE w2 s2 p2 n2 c2 t2 y2 m2 d2 q2 aQ db _ bb2=>wV rfl ?_)
  refine ab ?_
  refine az ?_;intro wz kz bz
  exact⟨_,rfl,(q2.kp kz).mono bE.size,bz⟩
def vH (kk:Nat) (w:World) (g:Nat) (l:List bS):Prop:=∃ u,w.cell? ⟨g,0,none⟩=some u/\bL (ni kk) 6 w u l
theorem vH.bo {kk:Nat} {w w':World} {g:Nat} {l:List bS} (h:vH kk w g l) (hb:au w w'):vH kk w' g l:=by
 obtain⟨u,h1,h2⟩:=h
 exact⟨u,hb.cell h1,h2.bo (iB kk) hb⟩
def EachOk (kk K:Nat) (w:World) (fid:FuncId) (cap:Value) (f:bS->Rat) (l:List bS):Prop:=
 jh Tryz.prog fid/\(∀ e∈l,bW (f e) K)/\∀ (w1:World) (u:Value) (e:bS),au w w1->e∈l->rM kk w1 u e->Calls Tryz.prog fid #[u,cap] w1 λo w2=>∃ x,o=.returned x/\aK w2 w1.heap.size x (f e)/\au w1 w2
theorem BP (g:Nat) (fid:FuncId) (cap:Value) (f:bS->Rat) (l:List bS) (kk K:Nat) (w:World) (hl:vH kk w g l) (hf:EachOk kk K w fid cap f l) (hK:bM K l.length<=1048576):
  Calls Tryz.prog 86 #[.pointer (some ⟨g,0,none⟩),.func (.func fid) #[] #[cap]] w λo w'=>∃ x,o=.returned x/\aK w' w.heap.size x (dm (l.map f))/\bW (dm (l.map f)) (bM K l.length)/\au w w':=by
 obtain⟨hfn,Ia,hfc⟩:=hf
 obtain⟨u,hu,Ls⟩:=hl
 obtain⟨p,c,rfl,dK,eE⟩:=Ls.form
 obtain⟨N,hN⟩:∃ N,N=l.length:=⟨_,rfl⟩
 rw[<-hN] at Ls hK dK ⊢
 rw[<-hN] at hu
 have hNm:N<9223372036854775807:=by unfold bM at hK;have:=Nat.le_mul_of_pos_right N (show 0<bU K+1 by omega);omega
 refine ae (C:=aV Tryz.prog w _) (args:=[_,_]) Tryz.func86 rfl Tryz.ntmps86 (bD rfl) ?_
 refine ab ?_
 refine VO.cR rfl rfl (fk Tryz.func11) (λaP bG aZ=>bK 0 aP aa aa) (λaP bG aZ w1 s1 p1 n1 c1 t1 y1 m1 d1 q1 aB cj _ bb1=>wV rfl ?_)
 refine ab ?_
 refine VO.read rfl [.slice p N c] rfl (fb hu) (wV rfl ?_)
 refine ab ?_
 refine VS.loop (J:=λn L M w'=>∃ i s p' n' c' t r m d,i<=N/\n=N-i/\L=[(1,.val (.func (.func fid) #[] #[cap])),(12,.val (.slice p N c)),(13,.val (.int .i64 (N:Int))),(14,.val (.int .i64 (i:Int))),(5,.box 5 0),(4,.box 4 0)]/\
  M=[(4,(34,([.bool false,.slice none 0 0,.bool false,.slice none 0 0]:List Value).map .val)),(5,(34,([.bool s,.slice p' n' c',.bool t,.slice r m d]:List Value).map .val))]/\aK w' w.heap.size (.agg #[.bool s,.slice p' n' c',.bool t,.slice r m d]) (dm ((l.map f).take i))/\bW (dm ((l.map f).take i)) (bM K i)) N
  ⟨_,_,?_,?_,?_,?_,⟨0,_,_,_,_,_,_,_,_,by omega,rfl,rfl,rfl,q1.k.mono aZ.size,bW.zero.mono (by unfold bM;omega)⟩⟩ ?_
 ·exact dw
 ·exact dw
 ·rfl
 ·exact iK
 rintro n L M w' ⟨i,s,p',n',c',t,r,m,d,hi,rfl,rfl,rfl,ho,hz⟩
 refine ab ?_
 by_cases hlt:i<N
 ·obtain⟨e,he⟩:∃ e,l[i]? =some e:=⟨_,List.getElem?_eq_getElem aa⟩
  have hfe:(l.map f)[i]? =some (f e):=by rw[List.getElem?_map,he];rfl
  obtain⟨b,off,cs,rfl,hc,hE⟩:=Ls.at he
  have hE0:=hE
  obtain⟨ep,ec,er,ed,rfl,-⟩:=hE
  refine VS.aY rfl (decide_eq_true (Int.ofNat_lt.2 hlt)) ?_
  refine ab ?_
  refine VO.cond rfl eP (wV rfl ?_)
  refine VO.read rfl [.int .i64 e.1,.int .i64 e.2.1,.bool e.2.2.1,.slice ep e.2.2.2.1.length ec,.bool e.2.2.2.2.1,.slice er e.2.2.2.2.2.length ed] rfl (λj u hj=>by rw[Addr.add_mid,Int.toNat_natCast];exact hc j u hj) (wV rfl ?_)
  refine ab ?_
  refine VO.call rfl rfl hfn (λbh bQ bE=>(hfc bh _ e bE (List.mem_of_getElem? he) ⟨_,rfl,hE0.kp (Kp.of (U:=UU) bE)⟩).mono ?_)
  rintro o w2 ⟨r2,rfl,q2,aQ⟩
  obtain⟨s2,p2,n2,c2,t2,y2,m2,d2,rfl⟩:=q2.form
  refine aG aQ ?_
  intro db _ bb2
  have hfz:=Ia e (List.mem_of_getElem? he)
  refine VO.cR rfl rfl (fk Tryz.func13) (λcY di dQ=>cZ _ _ (dm ((l.map f).take i)) (f e) (bM K i) (bU K) cY (ho.ki hz) (q2.ki (hfz.mono (by unfold bU;omega))) (by have:=nM (k:=K) hi;omega) (by unfold bM at hK;have:=Nat.le_mul_of_pos_left (bU K+1) (show 0<N by omega);omega)) (λcY di dQ w3 s3 p3 n3 c3 t3 y3 m3 d3 q3 cu fj _ bb3=>wV rfl ?_)
  refine ab ?_
  refine VS.back (N-(i+1)) aa ⟨_,_,?_,?_,?_,?_,⟨i+1,_,_,_,_,_,_,_,_,by omega,rfl,rfl,rfl,((q3.k).mono dQ.size).cast (nL hfe).symm,by rw[nL hfe,sJ];exact hz.add (hfz.mono (by unfold bU;omega))⟩⟩
  ·refine⟨rfl,rfl,rfl,?_,rfl,rfl,trivial⟩
   rw[<-bf (i:=i) aa];rfl
  ·exact dw
  ·rfl
  ·exact iK
 ·refine VS.bk rfl (decide_eq_false (λe=>hlt (Int.ofNat_lt.1 e))) ?_
  refine ab ?_
  refine az ?_;intro wz kz bz
  obtain rfl:i=N:=by omega
  rw[List.take_of_length_le (by rw[List.length_map];omega)] at ho hz
  exact⟨_,rfl,ho.kp kz,hz,bz⟩
end
section
open Go.RowKit
attribute [local irreducible] ak VS
theorem ni.sz {kk:Nat} {w:World} {cs:List Value} {e:bS} (h:ni kk w cs e):bW e.exp.2.2.2 (bU kk):=by
 obtain⟨p,c,r,d,-,-,-,h4,h5,h6⟩:=h
 exact (h4.in h5 h6).rJ
theorem Lt {e:Fj} {k:Nat} (h:bW e.2.2.2 k) (z:Int):bW (iq e z) (k+1):=by
 unfold iq
 split
 ·exact bW.zero.mono aa
 ·rename_i hn
  cases hw:cH e with
  | true=>exact absurd (.inl hw) hn
  | false=>
    obtain⟨a,b,c,d,_⟩:=iZ hw
    exact h.mul (bW.of aa aa)
theorem ebal_sz {e:Fj} {k:Nat} (h:bW e.2.2.2 k) (hw:cH e=false) (z:Int):bW (nZ e z) (k+1):=by
 obtain⟨a,b,c,d,_⟩:=iZ hw
 obtain⟨k1,k2⟩:=xM hw z
 unfold nZ
 split
 ·exact bW.zero.mono aa
 ·exact h.mul (bW.of aa aa)
theorem bL.mem {α:Type} {E:World->List Value->α->Prop} {sz:Nat} {w:World} {v:Value} {l:List α} {a:α} (h:bL E sz w v l) (ha:a∈l):∃ cs,E w cs a:=by
 obtain⟨i,hi⟩:=List.getElem?_of_mem ha
 obtain⟨p,c,rfl,_⟩:=h.form
 obtain⟨b,off,cs,_,_,he⟩:=h.at hi
 exact⟨cs,he⟩
theorem kY {w:World} {b:Nat} {t:TypeId} {u:Value} (h:aR w b t #[u]):w.cell? ⟨b,0,none⟩=some u:=h.cell (by rfl)
def jT (l:List bS) (z:Int):Rat:=dm (l.map λe=>iq e.exp z)
def mi (l:List bS) (z:Int):Rat:=dm (l.map λe=>nZ e.exp z)
theorem Lu (g:Nat) (l:List bS) (kk:Nat) (z:Int) (w:World) (hl:vH kk w g l) (hk:kk<=1024) (hz:oc z) (hn:l.length<=128):
  Calls Tryz.prog 38 #[.pointer (some ⟨g,0,none⟩),.int .i64 z] w λo w'=>∃ x,o=.returned x/\aK w' w.heap.size x (jT l z)/\bW (jT l z) (bM (bU kk+1) l.length)/\au w w':=by
 have Ia:∀ e∈l,bW (iq e.exp z) (bU kk+1):=λe he=>by
  obtain⟨u,_,h⟩:=hl
  obtain⟨cs,h⟩:=h.mem he
  exact Lt h.sz z
 have hK:bM (bU kk+1) l.length<=1048576:=by
  have:=nM (k:=bU kk+1) hn
  have:bU (bU kk+1)<=2000:=by unfold bU;omega
  have h2:bM (bU kk+1) 128<=1048576:=by unfold bM;omega
  omega
 refine ae (C:=aV Tryz.prog w _) (args:=[_,_]) Tryz.func38 rfl Tryz.ntmps38 (bD rfl) ?_
 refine ab ?_
 refine VO.gw rfl (fk Tryz.func86) (λaP β bG aZ ho=>(BP g _ (.pointer (some ⟨β 3,0,none⟩)) (λe=>iq e.exp z) l kk (bU kk+1) aP (hl.bo aZ)
  ⟨fk Tryz.func87,Ia,λw1 u e hb he hv=>Hd u (β 3) e kk z w1 hv (hb.cell (kY (ho.own 3 (.base (List.mem_singleton.2 rfl)) _ _ rfl).cls)) aa hz⟩ hK).mono ?_)
 rintro o w1 ⟨r1,rfl,q1,sY,aB⟩
 obtain⟨s1,p1,n1,c1,t1,y1,m1,d1,rfl⟩:=q1.form
 refine aG aB ?_
 intro cj _ bb1
 refine az ?_;intro wz kz bz
 exact⟨_,rfl,(q1.kp kz).mono aZ.size,sY,bz⟩
theorem yX (g:Nat) (l:List bS) (kk:Nat) (z:Int) (w:World) (hl:vH kk w g l) (hw:∀ e∈l,cH e.exp=false) (hk:kk<=1024) (hz:oc z) (hn:l.length<=128):
  Calls Tryz.prog 39 #[.pointer (some ⟨g,0,none⟩),.int .i64 z] w λo w'=>∃ x,o=.returned x/\aK w' w.heap.size x (mi l z)/\bW (mi l z) (bM (bU kk+1) l.length)/\au w w':=by
 have Ia:∀ e∈l,bW (nZ e.exp z) (bU kk+1):=λe he=>by
  obtain⟨u,_,h⟩:=hl
  obtain⟨cs,h⟩:=h.mem he
  exact ebal_sz h.sz (hw e he) z
 have hK:bM (bU kk+1) l.length<=1048576:=by
  have:=nM (k:=bU kk+1) hn
  have:bU (bU kk+1)<=2000:=by unfold bU;omega
  have h2:bM (bU kk+1) 128<=1048576:=by unfold bM;omega
  omega
 refine ae (C:=aV Tryz.prog w _) (args:=[_,_]) Tryz.func39 rfl Tryz.ntmps39 (bD rfl) ?_
 refine ab ?_
 refine VO.gw rfl (fk Tryz.func86) (λaP β bG aZ ho=>(BP g _ (.pointer (some ⟨β 3,0,none⟩)) (λe=>nZ e.exp z) l kk (bU kk+1) aP (hl.bo aZ)
  ⟨fk Tryz.func89,Ia,λw1 u e hb he hv=>He u (β 3) e kk z w1 hv (hw e he) (hb.cell (kY (ho.own 3 (.base (List.mem_singleton.2 rfl)) _ _ rfl).cls)) aa hz⟩ hK).mono ?_)
 rintro o w1 ⟨r1,rfl,q1,sY,aB⟩
 obtain⟨s1,p1,n1,c1,t1,y1,m1,d1,rfl⟩:=q1.form
 refine aG aB ?_
 intro cj _ bb1
 refine az ?_;intro wz kz bz
 exact⟨_,rfl,(q1.kp kz).mono aZ.size,sY,bz⟩
end
section
open Go.RowKit
attribute [local irreducible] ak VS
theorem bV.lims {w:World} {v:Value} {s t:Bool} {xs ys:List Nat} (h:bV w v s xs t ys):bI xs/\bI ys:=by
 obtain⟨_,_,_,_,_,h1,h2⟩:=h
 exact⟨h1.lim,h2.lim⟩
theorem nj (q:Rat):dm [q]=q:=by show 0+q=q;grind
end
set_option maxRecDepth 4000
section
open Go.RowKit
attribute [local irreducible] ak VS
end
section
open Go.RowKit
attribute [local irreducible] ak VS
theorem dI {w:World} {b off i sz:Nat} {cs:List Value} (hc:∀ (j:Nat) (u:Value),cs[j]? =some u->w.cell? ⟨b,off+i*sz+j,none⟩=some u) (k:Nat) (ds:List Value) (hd:ds <+:cs.drop k):∀ (j:Nat) (u:Value),ds[j]? =some u->w.cell? ((⟨b,off+((i:Nat):Int).toNat*sz+k,none⟩:Addr).add j)=some u:=by
 intro j u hj
 obtain⟨t,ht⟩:=hd
 rw[Addr.add_mid,Int.toNat_natCast,Nat.add_assoc]
 refine hc (k+j) u ?_
 rw[<-List.getElem?_drop,<-ht,List.getElem?_append_left (List.getElem?_eq_some_iff.1 hj).1]
 exact hj
end
section
open Go.RowKit
attribute [local irreducible] ak VS
def enz (e:bS):Bool:=decide (e.exp.2.2.2≠0)
def dN (l:List bS):List bS:=l.filter enz
end
section
open Go.RowKit
attribute [local irreducible] ak VS
end
section
open Go.RowKit
attribute [local irreducible] ak VS
end
section
open Go.RowKit
def Hp.Hf:Nat->List (TypeId×List AV)->Hp
 | _,[]=>λ_=>none
 | i,c::r=>λn=>bif Nat.beq n i then some c else Hp.Hf (i+1) r n
theorem Hp.lZ:∀ (l:List (TypeId×List AV)) (i n:Nat),Hp.Hf i l n=if i<=n then l[n-i]? else none
 | [],i,n=>by unfold Hp.Hf;simp
 | c::r,i,n=>by
   unfold Hp.Hf
   rw[Hp.lZ r (i+1) n]
   by_cases h:n=i
   ·subst h;simp
   ·have hb:Nat.beq n i=false:=by rw[<-Bool.not_eq_true,Nat.beq_eq];exact h
    rw[hb,cond_false]
    by_cases h1:i<=n
    ·rw[if_pos h1,if_pos aa,show n-i=(n-(i+1))+1 by omega];rfl
    ·rw[if_neg h1,if_neg aa]
def adB (N:Nat) (ad:List Nat):Nat->Nat:=λi=>ad.getD (i-2*N) 0
structure sL (K:KC) (N:Nat) (ad:List Nat) (l:List (TypeId×List AV)) (w:World):Prop where
 len:ad.length=l.length
 nodup:ad.Nodup
 cls:∀ (j:Nat) (g:Nat) (c:TypeId×List AV),ad[j]? =some g->l[j]? =some c->aR w g c.1 (c.2.map (AV.leaf (adB N ad))).toArray
 ok:∀ c∈l,K.fz c.1=false/\c.2.all aC=true
 ids:∀ c∈l,∀ k∈aE c.2,2*N<=k/\k<2*N+l.length
theorem sL.ad {K:KC} {N:Nat} {ad:List Nat} {l:List (TypeId×List AV)} {w:World} (h:sL K N ad l w):jo K ad w:=λg hg=>by
 obtain⟨j,hj⟩:=List.mem_iff_getElem?.1 hg
 have hlt:=(List.getElem?_eq_some_iff.1 hj).1
 obtain⟨c,hc⟩:∃ c,l[j]? =some c:=⟨_,List.getElem?_eq_getElem (by rw[<-h.len];exact hlt)⟩
 obtain⟨h1,h2⟩:=h.ok c (List.mem_of_getElem? hc)
 exact⟨c.1,_,h.cls j g c hj hc,h1,dy h2⟩
theorem sM (P:Program) (w:World) (N:Nat) (K:KC) (SU:TypeId->Bool) (ti:TypeId->Option TI) (keep:∀ b,b<w.heap.size->K.S b) {ad:List Nat} {l:List (TypeId×List AV)} {us:List Value} {f:FuncId} {fn:Func} {c:Code} {R:Ending->World->Prop} (hf:P.funcs[f]? =some fn) (hb:fn.body=some c) (hN:fn.ntmps=N) (ha:us.length+1<=N)
  (hl:sL K N ad l w) (h0:0<l.length)
  (h:VS (uR P w N K SU ti keep ad hl.nodup hl.ad) (bodyPost P fn R) [.code c] (Fr.Gu 0 (.box (2*N) 0::us.map .val)) (Hp.Hf (2*N) l) w):Calls P f (Value.pointer (some ⟨ad.getD 0 0,0,none⟩)::us).toArray w R:=by
 have rW:∀ i c,Hp.Hf (2*N) l i=some c->2*N<=i/\l[i-2*N]? =some c:=λi c hi=>by
  rw[Hp.lZ] at hi
  split at hi
  ·exact⟨by assumption,hi⟩
  ·cases hi
 have hsome:∀ i,Hp.Hf (2*N) l i≠none->2*N<=i/\i-2*N<l.length:=λi hi=>by
  cases hh:Hp.Hf (2*N) l i with
  | none=>exact absurd hh hi
  | some c=>
    obtain⟨h1,h2⟩:=rW i c hh
    exact⟨h1,(List.getElem?_eq_some_iff.1 h2).1⟩
 have hval:∀ k,k<ad.length->ad[k]? =some (ad.getD k 0):=λk hk=>by simp[List.getD_eq_getElem?_getD,hk]
 have:=sq (C:=uR P w N K SU ti keep ad hl.nodup hl.ad) (R:=R) (args:=.box (2*N) 0::us.map .val) (β:=adB N ad) (H:=Hp.Hf (2*N) l) hf hb hN (by simpa using ha) (λi t cs hi=> ?_) (λi j hi hj e=> ?_) ⟨λi t cs hi=> ?_,λi t cs hi=> ?_,λi hi=> ?_⟩ (λv hv i hi=> ?_) h
 ·have e:(AV.box (2*N) 0::us.map AV.val).map (AV.aI (adB N ad))=Value.pointer (some ⟨ad.getD 0 0,0,none⟩)::us:=by
   rw[List.map_cons,eV]
   show Value.pointer (some ⟨ad.getD (2*N-2*N) 0,0,none⟩)::us=_
   rw[Nat.sub_self]
  rw[e] at this
  exact this
 ·obtain⟨h1,h2⟩:=rW i _ hi
  have hlt:=(List.getElem?_eq_some_iff.1 h2).1
  obtain⟨g1,g2⟩:=hl.ok _ (List.mem_of_getElem? h2)
  have hv:=hval (i-2*N) (by rw[hl.len];exact hlt)
  refine⟨?_,g1,hl.cls _ _ _ hv h2,g2⟩
  show gu N ad w i (adB N ad i)
  unfold gu
  rw[if_pos h1]
  exact hv
 ·obtain⟨h1,h2⟩:=hsome i hi
  obtain⟨h3,h4⟩:=hsome j hj
  have e1:=hval (i-2*N) (by rw[hl.len];exact h2)
  have e2:=hval (j-2*N) (by rw[hl.len];exact h4)
  have e':ad.getD (i-2*N) 0=ad.getD (j-2*N) 0:=e
  rw[<-e'] at e2
  have:=(List.getElem?_inj (by rw[hl.len];exact h2) hl.nodup).1 (e1.trans e2.symm)
  omega
 ·obtain⟨h1,h2⟩:=rW i _ hi
  exact hl.ok _ (List.mem_of_getElem? h2)
 ·obtain⟨h1,h2⟩:=rW i _ hi
  intro j hj
  obtain⟨h3,h4⟩:=hl.ids _ (List.mem_of_getElem? h2) j hj
  rw[Hp.lZ,if_pos h3,List.getElem?_eq_getElem aa]
  simp
 ·have oI:2*N+ad.length<=i:=hi
  rw[Hp.lZ]
  split
  ·exact List.getElem?_eq_none (by rw[<-hl.len];omega)
  ·rfl
 ·rcases List.mem_cons.1 hv with rfl|hv
  ·have:i=2*N:=by simpa [AV.ids] using hi
   rw[this,Hp.lZ,if_pos (Nat.le_refl _),Nat.sub_self,List.getElem?_eq_getElem h0];simp
  ·obtain⟨u,_,rfl⟩:=List.mem_map.1 hv
   cases hi
theorem BQ {P:Program} {w w':World} {N:Nat} {K:KC} {SU:TypeId->Bool} {ti:TypeId->Option TI} {keep:∀ b,b<w.heap.size->K.S b} {ad:List Nat} {hd:ad.Nodup} {ha:jo K ad w} {β:Nat->Nat} {i:Nat} {t:TypeId} {cs:List AV} (h:ji (uR P w N K SU ti keep ad hd ha) β w' i t cs) (j g:Nat) (hi:i=2*N+j) (hj:ad[j]? =some g):β i=g/\aR w' g t (cs.map (AV.leaf β)).toArray:=by
 have h1:gu N ad w i (β i):=h.new
 unfold gu at h1
 rw[if_pos aa,hi,Nat.add_sub_cancel_left,hj] at h1
 have h2:g=β i:=by rw[hi];simpa using h1
 exact⟨h2.symm,h2▸h.cls⟩
end
end Go.Proofs.YtlfdmhfhkgpmbaaGreat
