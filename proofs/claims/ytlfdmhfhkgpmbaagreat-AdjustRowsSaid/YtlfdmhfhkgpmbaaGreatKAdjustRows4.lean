/-AP of the proof,laid behind one another. -/
import Derived.Test.YtlfdmhfhkgpmbaaGreatKAdjustRows3
set_option linter.all false
set_option maxHeartbeats 64000000
set_option maxRecDepth 4000
namespace Go.Proofs.YtlfdmhfhkgpmbaaGreat
section
open Go.RowKit
attribute [local irreducible] ao VS
theorem ia {w:World} {b off k:Nat} {u:Value} {z:Int} (hz:z=(k:Int)) (h:w.cell? ⟨b,off+k,none⟩=some u):∀ j v,[u][j]? =some v->w.cell? ((⟨b,off+z.toNat*1,none⟩:Addr).add j)=some v:=by
 subst hz
 intro j v hj
 rw[Addr.add_mid,Int.toNat_natCast,Nat.mul_one]
 cases j with
 | zero=>cases hj;exact h
 | succ j=>cases hj
theorem IL {i k:Nat} {os xs ys:List Nat} {x:Nat} (hx:xs[i]? =some x) (hk:ys.length<=k) (h:hval os+65536^(i+k)*0=hval (xs.take i)*hval ys+65536^i*(x*hval (ys.take k))):hval os=hval (xs.take (i+1))*hval ys:=by
 have e:hval (xs.take (i+1))=hval (xs.take i)+65536^i*x:=by
  rw[bF hx,jB,List.length_take,Nat.min_eq_left (by have:=(List.getElem?_eq_some_iff.1 hx).1;omega)]
 rw[Nat.mul_zero,Nat.add_zero,List.take_of_length_le hk] at h
 rw[e,Nat.add_mul,h,Nat.mul_assoc]
theorem EJ {i k n m c:Nat} {os xs ys:List Nat} {x:Nat} (hxh:fH xs) (hyh:fH ys) (hx:xs[i]? =some x) (hn:xs.length=n) (hm:ys.length=m) (hk:m<=k) (hc:0<c) (h:hval os+65536^(i+k)*c=hval (xs.take i)*hval ys+65536^i*(x*hval (ys.take k))):i+k<n+m+1:=by
 have hi:=(List.getElem?_eq_some_iff.1 hx).1
 have e:hval (xs.take (i+1))=hval (xs.take i)+65536^i*x:=by
  rw[bF hx,jB,List.length_take,Nat.min_eq_left ab]
 have e3:ys.take k=ys:=List.take_of_length_le ab
 have e2:hval os+65536^(i+k)*c=hval (xs.take (i+1))*hval ys:=by
  rw[e,Nat.add_mul,h,e3,Nat.mul_assoc]
 have b1:hval (xs.take (i+1))<65536^(i+1):=by
  have:=qX (xs:=xs.take (i+1)) (dP.take hxh _)
  rwa [List.length_take,Nat.min_eq_left ab] at this
 have b2:hval ys<65536^m:=by have:=qX hyh;rwa [hm] at this
 have b3:hval (xs.take (i+1))*hval ys<65536^(i+1+m):=by
  rw[Nat.pow_add];exact Nat.mul_lt_mul'' b1 b2
 have b4:65536^(i+k)<=65536^(i+k)*c:=Nat.le_mul_of_pos_right _ hc
 have:65536^(i+k)<65536^(i+1+m):=by omega
 have:=(Nat.pow_lt_pow_iff_right (show 1<65536 by omega)).1 this
 omega
theorem EK {x y o c:Nat} (hx:x<65536) (hy:y<65536) (ho:o<65536) (hc:c<65536):x*y+o+c<4294967296:=by
 have h1:x*y<=65535*65535:=Nat.mul_le_mul ab ab
 omega
theorem cW {P:Prop} (h:P:=by (repeat first|exact trivial|refine⟨rfl,?_⟩)):P:=h
theorem dz {A B:Prop} (h:A/\B:=by constructor <;> omega):A/\B:=h
theorem tu (va vb:Value) (n m:Nat) (xs ys:List Nat) (w:World) (hr:Rd w 1 va n (ints .i64 xs)) (hs:Rd w 1 vb m (ints .i64 ys)) (hx:fH xs) (hy:fH ys) (hn:n<=2147483656) (hm:m<=2147483656):
  Calls Tryz.prog 190 #[va,vb] w λe w'=>∃ v',e=.returned v'/\eD w' w.heap.size v' (halves (hval xs*hval ys)).length (halves (hval xs*hval ys))/\aw w w':=by
 obtain⟨p,c,rfl,dL,eH,ey⟩:=hr.i64
 obtain⟨q,d,rfl,Hn,Dt,jx⟩:=hs.i64
 obtain⟨N,hN⟩:∃ N,N=n+m+1:=⟨_,rfl⟩
 have hwN:IntKind.i64.wrap (IntKind.i64.wrap ((n:Int)+(m:Int))+1)=(N:Int):=by
  rw[IntWalk.i64_in ((n:Int)+(m:Int)) ab,IntWalk.i64_in _ ab];omega
 refine ae (C:=aM Tryz.prog w _) (args:=[_,_]) Tryz.func190 rfl Tryz.ntmps190 (bl rfl) ?_
 refine aa ?_
 refine VO.fix 15 rfl (congrArg (λz=>AV.val (.int .i64 z)) hwN) ?_
 refine VO.cond rfl ⟨rfl,by omega,by show (N:Int)*(24*1)<=_;omega⟩ (VO.tU 16 rfl (vO _) (wV rfl ?_))
 rw[Int.toNat_natCast]
 refine aa ?_
 refine VS.loop (J:=λms L M w'=>∃ (i:Nat) (os:List Nat),i<=n/\ms=n-i/\L=[(0,.val (.slice p n c)),(1,.val (.slice q m d)),(5,.row 16 0 N N),(6,.val (.int .i64 (i:Int)))]/\M=[(16,(3,iv os))]/\
  os.length=N/\fH os/\hval os=hval (xs.take i)*hval ys) n ⟨_,_,?_,?_,?_,?_,⟨0,List.replicate N 0,by omega,by omega,rfl,rfl,by simp,dP.replicate ab _,by rw[List.take_zero];show val 65536 _=val 65536 []*_;rw[fZ,val_nil,Nat.zero_mul]⟩⟩ ?_
 ·exact cW
 ·exact cW
 ·rfl
 ·exact⟨.none (bE _),trivial⟩
 rintro ms L M w' ⟨i,os,hi,rfl,rfl,rfl,hol,hoh,hov⟩
 refine aa ?_
 by_cases jf:i<n
 ·refine VS.aJ rfl (decide_eq_true (Int.ofNat_lt.2 jf)) ?_
  refine aa ?_
  obtain⟨b1,o1,x,rfl,aD,eI,kG⟩:=hr.cellAt jf
  have jY:=hx.at eI
  refine VS.loop (J:=λms L M w'=>∃ (k c':Nat) (os':List Nat),ms=N-(i+k)/\L=[(0,.val (.slice (some ⟨b1,o1,none⟩) n c)),(1,.val (.slice q m d)),(5,.row 16 0 N N),(6,.val (.int .i64 (i:Int))),(7,.val (.int .i64 (c':Int))),(8,.val (.int .i64 (k:Int)))]/\M=[(16,(3,iv os'))]/\
   os'.length=N/\fH os'/\c' <65536/\k<=N/\hval os' +65536^(i+k)*c'=hval (xs.take i)*hval ys+65536^i*(x*hval (ys.take k))) (N-i) ⟨_,_,?_,?_,?_,?_,⟨0,0,os,by omega,rfl,rfl,hol,hoh,by omega,by omega,by rw[List.take_zero,Nat.mul_zero,hov];show _=_+65536^i*(x*0);simp⟩⟩ ?_
  ·exact cW
  ·exact cW
  ·rfl
  ·exact⟨.none (bE _),trivial⟩
  rintro ms L M w'' ⟨k,c',os',rfl,rfl,rfl,hol',hoh',hc',hkN,hv⟩
  refine aa ?_
  have step:∀ (hik:i+k<N),True:=λ_=>trivial
  by_cases hgo:k<m\/0<c'
  ·have hik:i+k<N:=by
    rcases Nat.lt_or_ge k m with e|e
    ·omega
    ·rw[hN];exact EJ hx hy eI ey jx e ab hv
   obtain⟨o,ho⟩:∃ o,os'[i+k]? =some o:=⟨_,List.getElem?_eq_getElem ab⟩
   have ho4:=hoh'.at ho
   have Hz:IntKind.i64.wrap ((i:Int)+(k:Int))=((i+k:Nat):Int):=by rw[IntWalk.i64_in _ ab];omega
   have hwk1:IntKind.i64.wrap ((k:Int)+1)=((k+1:Nat):Int):=by rw[IntWalk.i64_in _ ab];omega
   have hwoc:IntKind.i64.wrap ((o:Int)+(c':Int))=((o+c':Nat):Int):=by rw[IntWalk.i64_in _ ab];omega
   by_cases DK:k<m
   ·obtain⟨b2,o2,y,rfl,aQ,mY,Ba⟩:=hs.cellAt DK
    have xS:=hy.at mY
    have qO:=EK jY xS ho4 hc'
    obtain⟨s,hsd⟩:∃ s,s=x*y+o+c':=⟨_,rfl⟩
    have xt:(x:Int)*(y:Int)=((x*y:Nat):Int):=by simp
    have hws:IntKind.i64.wrap (IntKind.i64.wrap ((o:Int)+(c':Int))+IntKind.i64.wrap ((x:Int)*(y:Int)))=(s:Int):=by
     rw[hwoc,xt,IntWalk.i64_in ((x*y:Nat):Int) ab,IntWalk.i64_in _ ab];omega
    have hst:=re ho hsd hv
    have hyt:hval (ys.take (k+1))=hval (ys.take k)+65536^k*y:=by
     rw[bF mY,jB,List.length_take,Nat.min_eq_left (by have:=(List.getElem?_eq_some_iff.1 mY).1;omega)]
    rw[<-hyt] at hst
    have hwc:IntKind.i64.wrap ((s:Int).tdiv 65536)=((s/65536:Nat):Int):=by
     rw[Int.tdiv_eq_ediv_of_nonneg ab,IntWalk.i64_in _ ab];simp
    have hwm:(s:Int).tmod 65536=((s%65536:Nat):Int):=by rw[Int.tmod_eq_emod_of_nonneg ab];simp
    refine VO.fix 27 rfl (congrArg (λb=>AV.val (.bool b)) (decide_eq_true (Int.ofNat_lt.2 DK))) ?_
    refine aa ?_
    refine VO.fix 36 rfl (congrArg (λz=>AV.val (.int .i64 z)) Hz) ?_
    refine VO.cond rfl dz (wV rfl ?_)
    refine VO.jn rfl [.val (.int .i64 (o:Int))] rfl (rf ho (by rw[Int.toNat_natCast];omega)) (wV rfl ?_)
    refine aa ?_
    refine VS.aJ rfl (decide_eq_true (Int.ofNat_lt.2 DK)) ?_
    refine aa ?_
    refine VO.cond rfl dz (wV rfl ?_)
    refine VO.read rfl [.int .i64 (x:Int)] rfl (ia rfl kG) (wV rfl ?_)
    refine VO.cond rfl dz (wV rfl ?_)
    refine VO.read rfl [.int .i64 (y:Int)] rfl (ia rfl Ba) (wV rfl ?_)
    refine aa ?_
    refine VO.fix 59 rfl (congrArg (λz=>AV.val (.int .i64 z)) Hz) ?_
    refine VO.fix 61 rfl (congrArg (λz=>AV.val (.int .i64 z)) (by rw[hws,hwm])) ?_
    refine VO.cond rfl dz (wV rfl ?_)
    refine VO.cond rfl (by show 0+((i+k:Nat):Int).toNat*1+1<=_;rw[Int.toNat_natCast,bZ];omega) (wV rfl ?_)
    refine aa ?_
    refine VS.back (N-(i+(k+1))) ab ⟨_,_,?_,?_,?_,?_,⟨k+1,s/65536,os'.set (i+k) (s%65536),rfl,rfl,rfl,by simp[hol'],hoh'.set (Nat.mod_lt _ ab) _,by omega,by omega,hst⟩⟩
    ·refine⟨rfl,rfl,rfl,rfl,congrArg (λz=>some (AV.val (.int .i64 z))) (by rw[hws,hwc]),congrArg (λz=>some (AV.val (.int .i64 z))) hwk1,trivial⟩
    ·exact⟨congrArg (λl=>some (_,l)) (uF ab (by rw[Int.toNat_natCast];omega)),trivial⟩
    ·rfl
    ·exact⟨.none (bE _),trivial⟩
   ·have hc0:0<c':=by omega
    obtain⟨s,hsd⟩:∃ s,s=x*0+o+c':=⟨_,rfl⟩
    have hws:IntKind.i64.wrap ((o:Int)+(c':Int))=(s:Int):=by rw[hwoc];omega
    have hst:=re ho hsd hv
    have hyt:hval (ys.take k)+65536^k*0=hval (ys.take (k+1)):=by rw[List.take_of_length_le ab,List.take_of_length_le ab];rfl
    rw[hyt] at hst
    have hwc:IntKind.i64.wrap ((s:Int).tdiv 65536)=((s/65536:Nat):Int):=by
     rw[Int.tdiv_eq_ediv_of_nonneg ab,IntWalk.i64_in _ ab];simp
    have hwm:(s:Int).tmod 65536=((s%65536:Nat):Int):=by rw[Int.tmod_eq_emod_of_nonneg ab];simp
    refine VO.fix 27 rfl (congrArg (λb=>AV.val (.bool b)) (decide_eq_false (λe=>DK (Int.ofNat_lt.1 e)))) ?_
    refine aa ?_
    refine VS.aJ rfl (decide_eq_true ab) ?_
    refine aa ?_
    refine VO.fix 36 rfl (congrArg (λz=>AV.val (.int .i64 z)) Hz) ?_
    refine VO.cond rfl dz (wV rfl ?_)
    refine VO.jn rfl [.val (.int .i64 (o:Int))] rfl (rf ho (by rw[Int.toNat_natCast];omega)) (wV rfl ?_)
    refine aa ?_
    refine VS.aK rfl (decide_eq_false (λe=>DK (Int.ofNat_lt.1 e))) ?_
    refine aa ?_
    refine VO.fix 59 rfl (congrArg (λz=>AV.val (.int .i64 z)) Hz) ?_
    refine VO.fix 61 rfl (congrArg (λz=>AV.val (.int .i64 z)) (by rw[hws,hwm])) ?_
    refine VO.cond rfl dz (wV rfl ?_)
    refine VO.cond rfl (by show 0+((i+k:Nat):Int).toNat*1+1<=_;rw[Int.toNat_natCast,bZ];omega) (wV rfl ?_)
    refine aa ?_
    refine VS.back (N-(i+(k+1))) ab ⟨_,_,?_,?_,?_,?_,⟨k+1,s/65536,os'.set (i+k) (s%65536),rfl,rfl,rfl,by simp[hol'],hoh'.set (Nat.mod_lt _ ab) _,by omega,by omega,hst⟩⟩
    ·refine⟨rfl,rfl,rfl,rfl,congrArg (λz=>some (AV.val (.int .i64 z))) (by rw[hws,hwc]),congrArg (λz=>some (AV.val (.int .i64 z))) hwk1,trivial⟩
    ·exact⟨congrArg (λl=>some (_,l)) (uF ab (by rw[Int.toNat_natCast];omega)),trivial⟩
    ·rfl
    ·exact⟨.none (bE _),trivial⟩
  ·have DK:¬ (k<m):=by omega
   have hc0:c'=0:=by omega
   subst hc0
   refine VO.fix 27 rfl (congrArg (λb=>AV.val (.bool b)) (decide_eq_false (λe=>DK (Int.ofNat_lt.1 e)))) ?_
   refine aa ?_
   have xG:IntKind.i64.wrap ((i:Int)+1)=((i+1:Nat):Int):=by rw[IntWalk.i64_in _ ab];omega
   refine VS.back (n-(i+1)) ab ⟨_,_,?_,?_,?_,?_,⟨i+1,os',by omega,rfl,rfl,rfl,hol',hoh',IL eI ab hv⟩⟩
   ·exact⟨rfl,rfl,rfl,congrArg (λz=>some (AV.val (.int .i64 z))) xG,trivial⟩
   ·exact cW
   ·rfl
   ·exact⟨.none (bE _),trivial⟩
 ·obtain rfl:i=n:=by omega
  refine VS.aK rfl (decide_eq_false (λe=>jf (Int.ofNat_lt.1 e))) ?_
  refine aa ?_
  rw[List.take_of_length_le ab] at hov
  refine VO.yp rfl (fk Tryz.func220) (λw1 β k1 b1 ho=>(gr (some ⟨β 16,0,none⟩) N N os w1 (kA (spare:=[]) (by rw[List.append_nil];exact ho.own 16 (.base (List.mem_singleton.2 rfl)) _ _ rfl) hol (Nat.le_refl _) (by simp only[maxLen];omega)) hoh).mono ?_)
  rintro e w2 ⟨⟨mm,xY,rfl,hcut⟩,rfl⟩
  refine⟨.row 16 0 mm N,rfl,λi hi=>⟨hi,by cases List.mem_singleton.1 hi;exact Option.some_ne_none _⟩,aw.refl _,λk2 _ b2=>wV rfl ?_⟩
  refine aa ?_
  refine VS.mh (cH _ _) rfl (λwz β kz bz he=> ?_)
  have rG:=uG hcut xY hol
  rw[hov] at hcut rG
  refine⟨_,rfl,?_,bz⟩
  have:=nZ (spare:=[]) (by rw[List.append_nil];exact he.own 16 _ _ rfl) hol xY (Nat.le_refl _) (by simp only[maxLen];omega) (by simpa using hol)
  rw[<-hcut] at this
  show eD wz w.heap.size (.slice (some ⟨β 16,0,none⟩) mm N) _ _
  rw[<-rG]
  exact this
set_option maxRecDepth 4000
theorem pz {A B:Nat} (h:(halves A).length<(halves B).length):A<B:=by
 rcases Nat.lt_or_ge A B with e|e
 ·exact e
 ·have:(halves B).length<=(halves A).length:=dh ab e
  omega
theorem pH {A B k a b:Nat} (ha:(halves A)[k]? =some a) (hb:(halves B)[k]? =some b) (ud:a<b) (hh:(halves A).drop (k+1)=(halves B).drop (k+1)):A<B:=by
 have:=jH (B:=65536) (bJ A) ha hb ud hh
 have e1:val 65536 (halves A)=A:=aX A
 have e2:val 65536 (halves B)=B:=aX B
 omega
theorem IM {xs ys:List Nat} {k x:Nat} (hx:xs[k]? =some x) (hy:ys[k]? =some x) (h:xs.drop (k+1)=ys.drop (k+1)):xs.drop k=ys.drop k:=by
 obtain⟨l1,e1⟩:=List.getElem?_eq_some_iff.1 hx
 obtain⟨l2,e2⟩:=List.getElem?_eq_some_iff.1 hy
 rw[List.drop_eq_getElem_cons l1,List.drop_eq_getElem_cons l2,e1,e2,h]
theorem EL (va vb:Value) (n m A B:Nat) (w:World) (hr:Rd w 1 va n (ints .i64 (halves A))) (hs:Rd w 1 vb m (ints .i64 (halves B))):
  Calls Tryz.prog 237 #[va,vb] w λe w'=>e=.returned (.bool (decide (A<B)))/\aw w w':=by
 obtain⟨p,c,rfl,dL,eH,ey⟩:=hr.i64
 obtain⟨q,d,rfl,Hn,Dt,jx⟩:=hs.i64
 refine ae (C:=aM Tryz.prog w _) (args:=[_,_]) Tryz.func237 rfl Tryz.ntmps237 (bl rfl) ?_
 refine aa ?_
 by_cases hnm:n=m
 ·subst hnm
  refine VS.aK rfl dw ?_
  refine aa ?_
  have hw0:IntKind.i64.wrap ((n:Int)-1)=(n:Int)-1:=IntWalk.i64_in _ ab
  refine VS.loop (J:=λms L M w'=>∃ (k:Nat),k<=n/\ms=k/\L=[(0,.val (.slice p n c)),(1,.val (.slice q n d)),(5,.val (.int .i64 ((k:Int)-1)))]/\M=[]/\(halves A).drop k=(halves B).drop k) n ⟨_,_,?_,?_,?_,?_,⟨n,Nat.le_refl _,rfl,rfl,rfl,by rw[List.drop_of_length_le ab,List.drop_of_length_le ab]⟩⟩ ?_
  ·exact⟨rfl,rfl,congrArg (λz=>some (AV.val (.int .i64 z))) hw0,trivial⟩
  ·exact cW
  ·rfl
  ·exact trivial
  rintro ms L M w' ⟨k,hk,hms,rfl,rfl,hd⟩
  refine aa ?_
  by_cases JR:k=0
  ·subst JR
   refine VS.aK rfl (decide_eq_false ab) ?_
   refine aa ?_
   refine au ?_;intro wz kz bz
   have:A=B:=EC (by simpa using hd)
   exact⟨by rw[this,decide_eq_false (Nat.lt_irrefl _)];rfl,bz⟩
  ·obtain⟨j,rfl⟩:∃ j,k=j+1:=⟨k-1,by omega⟩
   have hj:((j+1:Nat):Int)-1=(j:Int):=by omega
   refine VS.aJ rfl (decide_eq_true ab) ?_
   refine VS.fix 5 rfl (congrArg (λz=>AV.val (.int .i64 z)) hj) ?_
   refine aa ?_
   obtain⟨b1,o1,x,rfl,aD,eI,kG⟩:=hr.cellAt (show j<n by omega)
   obtain⟨b2,o2,y,rfl,aQ,mY,Ba⟩:=hs.cellAt (show j<n by omega)
   refine VO.cond rfl dz (wV rfl ?_)
   refine VO.read rfl [.int .i64 (x:Int)] rfl (ia rfl kG) (wV rfl ?_)
   refine VO.cond rfl dz (wV rfl ?_)
   refine VO.read rfl [.int .i64 (y:Int)] rfl (ia rfl Ba) (wV rfl ?_)
   refine aa ?_
   by_cases xt:x=y
   ·subst xt
    refine VS.aK rfl dw ?_
    refine aa ?_
    have xl:IntKind.i64.wrap ((j:Int)-1)=(j:Int)-1:=IntWalk.i64_in _ ab
    refine VS.back j ab ⟨_,_,?_,?_,?_,?_,⟨j,by omega,rfl,rfl,rfl,IM eI mY hd⟩⟩
    ·exact⟨rfl,rfl,congrArg (λz=>some (AV.val (.int .i64 z))) xl,trivial⟩
    ·exact cW
    ·rfl
    ·exact trivial
   ·refine VS.aJ rfl (by rw[bne_iff_ne];omega) ?_
    refine aa ?_
    refine VO.cond rfl dz (wV rfl ?_)
    refine VO.read rfl [.int .i64 (x:Int)] rfl (ia rfl kG) (wV rfl ?_)
    refine VO.cond rfl dz (wV rfl ?_)
    refine VO.read rfl [.int .i64 (y:Int)] rfl (ia rfl Ba) (wV rfl ?_)
    refine aa ?_
    refine au ?_;intro wz kz bz
    refine⟨?_,bz⟩
    rcases Nat.lt_or_gt_of_ne xt with e|e
    ·rw[decide_eq_true (pH eI mY e hd)]
     exact congrArg (λb=>Ending.returned (.bool b)) (decide_eq_true (Int.ofNat_lt.2 e))
    ·have:=pH mY eI e hd.symm
     have hAB:decide (A<B)=false:=decide_eq_false ab
     rw[hAB]
     exact congrArg (λb=>Ending.returned (.bool b)) (decide_eq_false ab)
 ·refine VS.aJ rfl (by rw[bne_iff_ne];omega) ?_
  refine aa ?_
  refine au ?_;intro wz kz bz
  refine⟨?_,bz⟩
  rcases Nat.lt_or_gt_of_ne hnm with e|e
  ·rw[decide_eq_true (pz ab)]
   exact congrArg (λb=>Ending.returned (.bool b)) (decide_eq_true (Int.ofNat_lt.2 e))
  ·have:=pz (A:=B) (B:=A) ab
   have hAB:decide (A<B)=false:=decide_eq_false ab
   rw[hAB]
   exact congrArg (λb=>Ending.returned (.bool b)) (decide_eq_false ab)
theorem IP {ds us bs:List Nat} {i t br a b d np:Nat} (hl:ds.length=i) (ha:us.getD i 0=a) (hb:bs.getD i 0=b) (hs:d+(t*b+br)=a+65536*np)
  (h:hval ds+t*hval (bs.take i)=hval (us.take i)+65536^i*br):hval (ds++[d])+t*hval (bs.take (i+1))=hval (us.take (i+1))+65536^(i+1)*np:=by
 have e1:hval (us.take (i+1))=hval (us.take i)+65536^i*a:=by rw[<-ha];exact bV _ _ _
 have e2:hval (bs.take (i+1))=hval (bs.take i)+65536^i*b:=by rw[<-hb];exact bV _ _ _
 have e3:65536^i*d+(65536^i*(t*b)+65536^i*br)=65536^i*a+65536^i*(65536*np):=by rw[<-Nat.mul_add,<-Nat.mul_add,hs,Nat.mul_add]
 have e4:t*(65536^i*b)=65536^i*(t*b):=Nat.mul_left_comm _ _ _
 rw[jB,hl,e1,e2,Nat.mul_add t,e4,Nat.pow_succ,Nat.mul_assoc]
 omega
theorem LN {ds us bs:List Nat} {n t br:Nat} (hh:fH ds) (hl:ds.length=n) (ha:us.length=n) (hle:t*hval bs<=hval us) (hb:t=0\/bs.length<=n)
  (h:hval ds+t*hval (bs.take n)=hval (us.take n)+65536^n*br):hval ds=hval us-t*hval bs:=by
 have e1:us.take n=us:=List.take_of_length_le ab
 have e2:t*hval (bs.take n)=t*hval bs:=by
  rcases hb with e|e
  ·rw[e,Nat.zero_mul,Nat.zero_mul]
  ·rw[List.take_of_length_le e]
 rw[e1,e2] at h
 have hlt:=qX hh
 rw[hl] at hlt
 have:br=0:=by
  rcases Nat.eq_zero_or_pos br with e|e
  ·exact e
  ·have:=Nat.le_mul_of_pos_right (65536^n) e
   omega
 rw[this,Nat.mul_zero] at h
 omega
def RowAt (d:Nat) (xs:List Nat) (v:AV) (M:List (Nat×(TypeId×List AV))):Prop:=
 (xs=[]/\v=.val (.slice none 0 0)/\M=[])\/∃ cap spare,v=.row d 0 xs.length cap/\M=[(d,(3,iv xs++spare))]/\xs.length<=cap/\cap<=9223372036854775807/\xs.length+spare.length=cap/\spare.all aL=true/\aO spare=[]
theorem vP (va vb:Value) (n m t A B:Nat) (w:World) (hr:Rd w 1 va n (ints .i64 (halves A))) (hs:Rd w 1 vb m (ints .i64 (halves B))) (ht:t<65536) (hle:t*B<=A) (hn:n<=2147483656):
  Calls Tryz.prog 228 #[va,vb,.int .i64 (t:Int)] w λe w'=>∃ v',e=.returned v'/\eD w' w.heap.size v' (halves (A-t*B)).length (halves (A-t*B))/\aw w w':=by
 obtain⟨p,c,rfl,dL,eH,ey⟩:=hr.i64
 obtain⟨q,d,rfl,Hn,Dt,jx⟩:=hs.i64
 refine ae (C:=aM Tryz.prog w _) (args:=[_,_,_]) Tryz.func228 rfl Tryz.ntmps228 (bl rfl) ?_
 refine aa ?_
 refine VS.loop (J:=λms L M w'=>∃ (i br:Nat) (ds:List Nat) (v:AV),i<=n/\ms=n-i/\L=[(0,.val (.slice p n c)),(1,.val (.slice q m d)),(2,.val (.int .i64 (t:Int))),(7,v),(8,.val (.int .i64 (br:Int))),(9,.val (.int .i64 (i:Int)))]/\
  RowAt 47 ds v M/\ds.length=i/\fH ds/\br<=t/\hval ds+t*hval ((halves B).take i)=hval ((halves A).take i)+65536^i*br) n ⟨_,_,?_,?_,?_,?_,⟨0,0,[],.val (.slice none 0 0),by omega,by omega,rfl,.inl ⟨rfl,rfl,rfl⟩,rfl,dP.nil _,by omega,by simp[hval,val]⟩⟩ ?_
 ·exact cW
 ·exact cW
 ·rfl
 ·exact trivial
 rintro ms L M w' ⟨i,br,ds,v,hi,rfl,rfl,jQ,tS,hdh,hbr,hv⟩
 by_cases jf:i<n
 ·obtain⟨b1,o1,x,rfl,aD,eI,kG⟩:=hr.cellAt jf
  have jY:=(bJ A).at eI
  have hxg:(halves A).getD i 0=x:=by rw[List.getD_eq_getElem?_getD,eI];rfl
  obtain⟨y,hyg⟩:∃ y,(halves B).getD i 0=y:=⟨_,rfl⟩
  have xS:y<65536:=hyg▸jC (bJ B) i
  have hty:t*y<=65535*65535:=Nat.mul_le_mul ab ab
  obtain⟨X,hX⟩:∃ X:Int,X=(x:Int)-br-(t*y:Nat):=⟨_,rfl⟩
  obtain⟨np,mr⟩:∃ np:Nat,(np:Int)=(if X<0 then (65535-X)/65536 else 0)/\np<=t:=by
   by_cases h0:X<0
   ·refine⟨((65535-X)/65536).toNat,by rw[if_pos h0];omega,?_⟩
    have:t*y<=t*65535:=Nat.mul_le_mul_left _ ab
    omega
   ·exact⟨0,by rw[if_neg h0];rfl,by omega⟩
  obtain⟨dg,JX⟩:∃ dg:Nat,(dg:Int)=X+65536*np/\dg<65536:=by
   refine⟨(X+65536*np).toNat,?_,?_⟩
   ·by_cases h0:X<0
    ·rw[if_pos h0] at mr;omega
    ·omega
   ·by_cases h0:X<0
    ·rw[if_pos h0] at mr;omega
    ·rw[if_neg h0] at mr;omega
  have hsum:dg+(t*y+br)=x+65536*np:=by omega
  have hst:=IP tS hxg hyg hsum hv
  have xl:IntKind.i64.wrap ((x:Int)-(br:Int))=(x:Int)-br:=IntWalk.i64_in _ ab
  have xG:IntKind.i64.wrap ((i:Int)+1)=((i+1:Nat):Int):=by rw[IntWalk.i64_in _ ab];omega
  have xC:t*y<=t*65535:=Nat.mul_le_mul_left _ ab
  rcases jQ with ⟨rfl,rfl,rfl⟩|⟨cap,spare,rfl,rfl,h1,h2,h3,h4,h5⟩
  all_goals refine aa ?_
  ·by_cases him:i<m
   ·obtain⟨b2,o2,y',rfl,aQ,mY,Ba⟩:=hs.cellAt him
    obtain rfl:y'=y:=by rw[List.getD_eq_getElem?_getD,mY] at hyg;exact hyg
    have hwX:IntKind.i64.wrap (IntKind.i64.wrap ((x:Int)-(br:Int))-IntKind.i64.wrap ((t:Int)*(y':Int)))=X:=by
     rw[xl,show (t:Int)*(y':Int)=((t*y':Nat):Int) by simp,IntWalk.i64_in ((t*y':Nat):Int) ab,IntWalk.i64_in _ ab];omega
    refine VS.aJ rfl (decide_eq_true (Int.ofNat_lt.2 jf)) ?_
    refine aa ?_
    refine VO.cond rfl dz (wV rfl ?_)
    refine VO.read rfl [.int .i64 (x:Int)] rfl (ia rfl kG) (wV rfl ?_)
    refine aa ?_
    refine VS.aJ rfl (decide_eq_true (Int.ofNat_lt.2 him)) ?_
    refine aa ?_
    refine VO.cond rfl dz (wV rfl ?_)
    refine VO.read rfl [.int .i64 (y':Int)] rfl (ia rfl Ba) (wV rfl ?_)
    refine VO.fix 10 rfl (congrArg (λz=>AV.val (.int .i64 z)) hwX) ?_
    refine aa ?_
    by_cases h0:X<0
    ·rw[if_pos h0] at mr
     have LO:IntKind.i64.wrap ((IntKind.i64.wrap (65535-X)).tdiv 65536)=(np:Int):=by
      rw[IntWalk.i64_in (65535-X) ab,Int.tdiv_eq_ediv_of_nonneg ab,IntWalk.i64_in _ ab,mr.1]
     have hwd:IntKind.i64.wrap (X+IntKind.i64.wrap (65536*(np:Int)))=(dg:Int):=by
      rw[IntWalk.i64_in (65536*(np:Int)) ab,IntWalk.i64_in _ ab,JX.1]
     refine VS.aJ rfl (decide_eq_true h0) ?_
     refine aa ?_
     ·refine VO.tU 46 rfl (congrArg (λz=>[AV.val (.int .i64 z)]) (show _=(dg:Int) by rw[LO,hwd])) ?_
      refine VO.app (cH _ _) (t:=272) (e:=3) (sz:=1) (n:=0) (c:=0) (mm:=1) (known:=[]) (spare:=[]) (news:=iv [dg]) (dst:=47) (del:=none) rfl rfl rfl rfl rfl rfl rfl rfl (bl rfl) rfl (.inl ⟨rfl,rfl,rfl,rfl,rfl,rfl,by omega⟩) (.inl rfl) rfl rfl ab ab ⟨rfl,rfl,bE _⟩ ⟨rfl,rfl,lH _⟩ rfl ab
       (λw1 β k1 b1 ho=>⟨_,_,rfl,.inr ⟨β 46,0,rfl,fJ (rest:=[]) (ho.own 46 (.base (List.mem_append_right _ (List.mem_singleton.2 rfl))) _ _ rfl) rfl⟩⟩)
       (λw2 cap' aP ρ k2 b2 eV nH oP hlen ji fQ=>wV rfl ?_)
      refine aa ?_
      refine VS.back (n-(i+1)) ab ⟨_,_,?_,?_,?_,?_,⟨i+1,np,[dg],.row 47 0 ([dg]).length cap',by omega,rfl,rfl,.inr ⟨cap',aP,rfl,rfl,by simp;omega,oP,?_,ji,fQ⟩,by simp at tS ⊢;omega,dP.cons JX.2 (dP.nil _),mr.2,hst⟩⟩
      ·exact⟨rfl,rfl,rfl,rfl,congrArg (λz=>some (AV.val (.int .i64 z))) LO,congrArg (λz=>some (AV.val (.int .i64 z))) xG,trivial⟩
      ·exact⟨rfl,trivial⟩
      ·rfl
      ·exact⟨.append (.none (bE _)) (.none fQ),trivial⟩
      ·simpa [bZ,Nat.add_assoc] using hlen
    ·rw[if_neg h0] at mr
     have mX:np=0:=by omega
     subst mX
     refine VS.aK rfl (decide_eq_false h0) ?_
     refine aa ?_
     ·refine VO.tU 46 rfl (congrArg (λz=>[AV.val (.int .i64 z)]) (show X=(dg:Int) by omega)) ?_
      refine VO.app (cH _ _) (t:=272) (e:=3) (sz:=1) (n:=0) (c:=0) (mm:=1) (known:=[]) (spare:=[]) (news:=iv [dg]) (dst:=47) (del:=none) rfl rfl rfl rfl rfl rfl rfl rfl (bl rfl) rfl (.inl ⟨rfl,rfl,rfl,rfl,rfl,rfl,by omega⟩) (.inl rfl) rfl rfl ab ab ⟨rfl,rfl,bE _⟩ ⟨rfl,rfl,lH _⟩ rfl ab
       (λw1 β k1 b1 ho=>⟨_,_,rfl,.inr ⟨β 46,0,rfl,fJ (rest:=[]) (ho.own 46 (.base (List.mem_append_right _ (List.mem_singleton.2 rfl))) _ _ rfl) rfl⟩⟩)
       (λw2 cap' aP ρ k2 b2 eV nH oP hlen ji fQ=>wV rfl ?_)
      refine aa ?_
      refine VS.back (n-(i+1)) ab ⟨_,_,?_,?_,?_,?_,⟨i+1,0,[dg],.row 47 0 ([dg]).length cap',by omega,rfl,rfl,.inr ⟨cap',aP,rfl,rfl,by simp;omega,oP,?_,ji,fQ⟩,by simp at tS ⊢;omega,dP.cons JX.2 (dP.nil _),Nat.zero_le _,hst⟩⟩
      ·exact⟨rfl,rfl,rfl,rfl,rfl,congrArg (λz=>some (AV.val (.int .i64 z))) xG,trivial⟩
      ·exact⟨rfl,trivial⟩
      ·rfl
      ·exact⟨.append (.none (bE _)) (.none fQ),trivial⟩
      ·simpa [bZ,Nat.add_assoc] using hlen
   ·have Hd:y=0:=by rw[gp ab] at hyg;omega
    have hwX:IntKind.i64.wrap ((x:Int)-(br:Int))=X:=by rw[xl,hX,Hd,Nat.mul_zero];omega
    refine VS.aJ rfl (decide_eq_true (Int.ofNat_lt.2 jf)) ?_
    refine aa ?_
    refine VO.cond rfl dz (wV rfl ?_)
    refine VO.read rfl [.int .i64 (x:Int)] rfl (ia rfl kG) (wV rfl ?_)
    refine VO.fix 10 rfl (congrArg (λz=>AV.val (.int .i64 z)) hwX) ?_
    refine aa ?_
    refine VS.aK rfl (decide_eq_false (λe=>him (Int.ofNat_lt.1 e))) ?_
    refine aa ?_
    by_cases h0:X<0
    ·rw[if_pos h0] at mr
     have LO:IntKind.i64.wrap ((IntKind.i64.wrap (65535-X)).tdiv 65536)=(np:Int):=by
      rw[IntWalk.i64_in (65535-X) ab,Int.tdiv_eq_ediv_of_nonneg ab,IntWalk.i64_in _ ab,mr.1]
     have hwd:IntKind.i64.wrap (X+IntKind.i64.wrap (65536*(np:Int)))=(dg:Int):=by
      rw[IntWalk.i64_in (65536*(np:Int)) ab,IntWalk.i64_in _ ab,JX.1]
     refine VS.aJ rfl (decide_eq_true h0) ?_
     refine aa ?_
     ·refine VO.tU 46 rfl (congrArg (λz=>[AV.val (.int .i64 z)]) (show _=(dg:Int) by rw[LO,hwd])) ?_
      refine VO.app (cH _ _) (t:=272) (e:=3) (sz:=1) (n:=0) (c:=0) (mm:=1) (known:=[]) (spare:=[]) (news:=iv [dg]) (dst:=47) (del:=none) rfl rfl rfl rfl rfl rfl rfl rfl (bl rfl) rfl (.inl ⟨rfl,rfl,rfl,rfl,rfl,rfl,by omega⟩) (.inl rfl) rfl rfl ab ab ⟨rfl,rfl,bE _⟩ ⟨rfl,rfl,lH _⟩ rfl ab
       (λw1 β k1 b1 ho=>⟨_,_,rfl,.inr ⟨β 46,0,rfl,fJ (rest:=[]) (ho.own 46 (.base (List.mem_append_right _ (List.mem_singleton.2 rfl))) _ _ rfl) rfl⟩⟩)
       (λw2 cap' aP ρ k2 b2 eV nH oP hlen ji fQ=>wV rfl ?_)
      refine aa ?_
      refine VS.back (n-(i+1)) ab ⟨_,_,?_,?_,?_,?_,⟨i+1,np,[dg],.row 47 0 ([dg]).length cap',by omega,rfl,rfl,.inr ⟨cap',aP,rfl,rfl,by simp;omega,oP,?_,ji,fQ⟩,by simp at tS ⊢;omega,dP.cons JX.2 (dP.nil _),mr.2,hst⟩⟩
      ·exact⟨rfl,rfl,rfl,rfl,congrArg (λz=>some (AV.val (.int .i64 z))) LO,congrArg (λz=>some (AV.val (.int .i64 z))) xG,trivial⟩
      ·exact⟨rfl,trivial⟩
      ·rfl
      ·exact⟨.append (.none (bE _)) (.none fQ),trivial⟩
      ·simpa [bZ,Nat.add_assoc] using hlen
    ·rw[if_neg h0] at mr
     have mX:np=0:=by omega
     subst mX
     refine VS.aK rfl (decide_eq_false h0) ?_
     refine aa ?_
     ·refine VO.tU 46 rfl (congrArg (λz=>[AV.val (.int .i64 z)]) (show X=(dg:Int) by omega)) ?_
      refine VO.app (cH _ _) (t:=272) (e:=3) (sz:=1) (n:=0) (c:=0) (mm:=1) (known:=[]) (spare:=[]) (news:=iv [dg]) (dst:=47) (del:=none) rfl rfl rfl rfl rfl rfl rfl rfl (bl rfl) rfl (.inl ⟨rfl,rfl,rfl,rfl,rfl,rfl,by omega⟩) (.inl rfl) rfl rfl ab ab ⟨rfl,rfl,bE _⟩ ⟨rfl,rfl,lH _⟩ rfl ab
       (λw1 β k1 b1 ho=>⟨_,_,rfl,.inr ⟨β 46,0,rfl,fJ (rest:=[]) (ho.own 46 (.base (List.mem_append_right _ (List.mem_singleton.2 rfl))) _ _ rfl) rfl⟩⟩)
       (λw2 cap' aP ρ k2 b2 eV nH oP hlen ji fQ=>wV rfl ?_)
      refine aa ?_
      refine VS.back (n-(i+1)) ab ⟨_,_,?_,?_,?_,?_,⟨i+1,0,[dg],.row 47 0 ([dg]).length cap',by omega,rfl,rfl,.inr ⟨cap',aP,rfl,rfl,by simp;omega,oP,?_,ji,fQ⟩,by simp at tS ⊢;omega,dP.cons JX.2 (dP.nil _),Nat.zero_le _,hst⟩⟩
      ·exact⟨rfl,rfl,rfl,rfl,rfl,congrArg (λz=>some (AV.val (.int .i64 z))) xG,trivial⟩
      ·exact⟨rfl,trivial⟩
      ·rfl
      ·exact⟨.append (.none (bE _)) (.none fQ),trivial⟩
      ·simpa [bZ,Nat.add_assoc] using hlen
  ·by_cases him:i<m
   ·obtain⟨b2,o2,y',rfl,aQ,mY,Ba⟩:=hs.cellAt him
    obtain rfl:y'=y:=by rw[List.getD_eq_getElem?_getD,mY] at hyg;exact hyg
    have hwX:IntKind.i64.wrap (IntKind.i64.wrap ((x:Int)-(br:Int))-IntKind.i64.wrap ((t:Int)*(y':Int)))=X:=by
     rw[xl,show (t:Int)*(y':Int)=((t*y':Nat):Int) by simp,IntWalk.i64_in ((t*y':Nat):Int) ab,IntWalk.i64_in _ ab];omega
    refine VS.aJ rfl (decide_eq_true (Int.ofNat_lt.2 jf)) ?_
    refine aa ?_
    refine VO.cond rfl dz (wV rfl ?_)
    refine VO.read rfl [.int .i64 (x:Int)] rfl (ia rfl kG) (wV rfl ?_)
    refine aa ?_
    refine VS.aJ rfl (decide_eq_true (Int.ofNat_lt.2 him)) ?_
    refine aa ?_
    refine VO.cond rfl dz (wV rfl ?_)
    refine VO.read rfl [.int .i64 (y':Int)] rfl (ia rfl Ba) (wV rfl ?_)
    refine VO.fix 10 rfl (congrArg (λz=>AV.val (.int .i64 z)) hwX) ?_
    refine aa ?_
    by_cases h0:X<0
    ·rw[if_pos h0] at mr
     have LO:IntKind.i64.wrap ((IntKind.i64.wrap (65535-X)).tdiv 65536)=(np:Int):=by
      rw[IntWalk.i64_in (65535-X) ab,Int.tdiv_eq_ediv_of_nonneg ab,IntWalk.i64_in _ ab,mr.1]
     have hwd:IntKind.i64.wrap (X+IntKind.i64.wrap (65536*(np:Int)))=(dg:Int):=by
      rw[IntWalk.i64_in (65536*(np:Int)) ab,IntWalk.i64_in _ ab,JX.1]
     refine VS.aJ rfl (decide_eq_true h0) ?_
     refine aa ?_
     ·refine VO.tU 46 rfl (congrArg (λz=>[AV.val (.int .i64 z)]) (show _=(dg:Int) by rw[LO,hwd])) ?_
      refine VO.app (cH _ _) (t:=272) (e:=3) (sz:=1) (n:=ds.length) (c:=cap) (mm:=1) (known:=iv ds) (spare:=spare) (news:=iv [dg]) (dst:=47) (del:=some 47) rfl rfl rfl rfl rfl rfl rfl rfl (bl rfl) rfl (.inr ⟨47,rfl,rfl,rfl⟩) (.inr rfl) (by rw[bZ];omega) (by rw[List.length_append,bZ];omega) h1 h2 ⟨bE _,h5,bE _⟩ ⟨lH _,h4,lH _⟩ rfl ab
       (λw1 β k1 b1 ho=>⟨_,_,rfl,.inr ⟨β 46,0,rfl,fJ (rest:=[]) (ho.own 46 (.base (List.mem_append_right _ (List.mem_singleton.2 rfl))) _ _ rfl) rfl⟩⟩)
       (λw2 cap' aP ρ k2 b2 eV nH oP hlen ji fQ=>wV rfl ?_)
      refine aa ?_
      refine VS.back (n-(i+1)) ab ⟨_,_,?_,?_,?_,?_,⟨i+1,np,ds++[dg],.row 47 0 (ds++[dg]).length cap',by omega,rfl,rfl,.inr ⟨cap',aP,rfl,rfl,by simp;omega,oP,?_,ji,fQ⟩,by simp[tS],dP.append hdh (dP.cons JX.2 (dP.nil _)),mr.2,hst⟩⟩
      ·exact⟨rfl,rfl,rfl,congrArg (λz=>some (AV.row 47 0 z cap')) dw,congrArg (λz=>some (AV.val (.int .i64 z))) LO,congrArg (λz=>some (AV.val (.int .i64 z))) xG,trivial⟩
      ·exact⟨congrArg (λl=>some (_,l++aP)) (oG _ _).symm,trivial⟩
      ·rfl
      ·exact⟨.append (.none (bE _)) (.none fQ),trivial⟩
      ·simpa [bZ,Nat.add_assoc] using hlen
    ·rw[if_neg h0] at mr
     have mX:np=0:=by omega
     subst mX
     refine VS.aK rfl (decide_eq_false h0) ?_
     refine aa ?_
     ·refine VO.tU 46 rfl (congrArg (λz=>[AV.val (.int .i64 z)]) (show X=(dg:Int) by omega)) ?_
      refine VO.app (cH _ _) (t:=272) (e:=3) (sz:=1) (n:=ds.length) (c:=cap) (mm:=1) (known:=iv ds) (spare:=spare) (news:=iv [dg]) (dst:=47) (del:=some 47) rfl rfl rfl rfl rfl rfl rfl rfl (bl rfl) rfl (.inr ⟨47,rfl,rfl,rfl⟩) (.inr rfl) (by rw[bZ];omega) (by rw[List.length_append,bZ];omega) h1 h2 ⟨bE _,h5,bE _⟩ ⟨lH _,h4,lH _⟩ rfl ab
       (λw1 β k1 b1 ho=>⟨_,_,rfl,.inr ⟨β 46,0,rfl,fJ (rest:=[]) (ho.own 46 (.base (List.mem_append_right _ (List.mem_singleton.2 rfl))) _ _ rfl) rfl⟩⟩)
       (λw2 cap' aP ρ k2 b2 eV nH oP hlen ji fQ=>wV rfl ?_)
      refine aa ?_
      refine VS.back (n-(i+1)) ab ⟨_,_,?_,?_,?_,?_,⟨i+1,0,ds++[dg],.row 47 0 (ds++[dg]).length cap',by omega,rfl,rfl,.inr ⟨cap',aP,rfl,rfl,by simp;omega,oP,?_,ji,fQ⟩,by simp[tS],dP.append hdh (dP.cons JX.2 (dP.nil _)),Nat.zero_le _,hst⟩⟩
      ·exact⟨rfl,rfl,rfl,congrArg (λz=>some (AV.row 47 0 z cap')) dw,rfl,congrArg (λz=>some (AV.val (.int .i64 z))) xG,trivial⟩
      ·exact⟨congrArg (λl=>some (_,l++aP)) (oG _ _).symm,trivial⟩
      ·rfl
      ·exact⟨.append (.none (bE _)) (.none fQ),trivial⟩
      ·simpa [bZ,Nat.add_assoc] using hlen
   ·have Hd:y=0:=by rw[gp ab] at hyg;omega
    have hwX:IntKind.i64.wrap ((x:Int)-(br:Int))=X:=by rw[xl,hX,Hd,Nat.mul_zero];omega
    refine VS.aJ rfl (decide_eq_true (Int.ofNat_lt.2 jf)) ?_
    refine aa ?_
    refine VO.cond rfl dz (wV rfl ?_)
    refine VO.read rfl [.int .i64 (x:Int)] rfl (ia rfl kG) (wV rfl ?_)
    refine VO.fix 10 rfl (congrArg (λz=>AV.val (.int .i64 z)) hwX) ?_
    refine aa ?_
    refine VS.aK rfl (decide_eq_false (λe=>him (Int.ofNat_lt.1 e))) ?_
    refine aa ?_
    by_cases h0:X<0
    ·rw[if_pos h0] at mr
     have LO:IntKind.i64.wrap ((IntKind.i64.wrap (65535-X)).tdiv 65536)=(np:Int):=by
      rw[IntWalk.i64_in (65535-X) ab,Int.tdiv_eq_ediv_of_nonneg ab,IntWalk.i64_in _ ab,mr.1]
     have hwd:IntKind.i64.wrap (X+IntKind.i64.wrap (65536*(np:Int)))=(dg:Int):=by
      rw[IntWalk.i64_in (65536*(np:Int)) ab,IntWalk.i64_in _ ab,JX.1]
     refine VS.aJ rfl (decide_eq_true h0) ?_
     refine aa ?_
     ·refine VO.tU 46 rfl (congrArg (λz=>[AV.val (.int .i64 z)]) (show _=(dg:Int) by rw[LO,hwd])) ?_
      refine VO.app (cH _ _) (t:=272) (e:=3) (sz:=1) (n:=ds.length) (c:=cap) (mm:=1) (known:=iv ds) (spare:=spare) (news:=iv [dg]) (dst:=47) (del:=some 47) rfl rfl rfl rfl rfl rfl rfl rfl (bl rfl) rfl (.inr ⟨47,rfl,rfl,rfl⟩) (.inr rfl) (by rw[bZ];omega) (by rw[List.length_append,bZ];omega) h1 h2 ⟨bE _,h5,bE _⟩ ⟨lH _,h4,lH _⟩ rfl ab
       (λw1 β k1 b1 ho=>⟨_,_,rfl,.inr ⟨β 46,0,rfl,fJ (rest:=[]) (ho.own 46 (.base (List.mem_append_right _ (List.mem_singleton.2 rfl))) _ _ rfl) rfl⟩⟩)
       (λw2 cap' aP ρ k2 b2 eV nH oP hlen ji fQ=>wV rfl ?_)
      refine aa ?_
      refine VS.back (n-(i+1)) ab ⟨_,_,?_,?_,?_,?_,⟨i+1,np,ds++[dg],.row 47 0 (ds++[dg]).length cap',by omega,rfl,rfl,.inr ⟨cap',aP,rfl,rfl,by simp;omega,oP,?_,ji,fQ⟩,by simp[tS],dP.append hdh (dP.cons JX.2 (dP.nil _)),mr.2,hst⟩⟩
      ·exact⟨rfl,rfl,rfl,congrArg (λz=>some (AV.row 47 0 z cap')) dw,congrArg (λz=>some (AV.val (.int .i64 z))) LO,congrArg (λz=>some (AV.val (.int .i64 z))) xG,trivial⟩
      ·exact⟨congrArg (λl=>some (_,l++aP)) (oG _ _).symm,trivial⟩
      ·rfl
      ·exact⟨.append (.none (bE _)) (.none fQ),trivial⟩
      ·simpa [bZ,Nat.add_assoc] using hlen
    ·rw[if_neg h0] at mr
     have mX:np=0:=by omega
     subst mX
     refine VS.aK rfl (decide_eq_false h0) ?_
     refine aa ?_
     ·refine VO.tU 46 rfl (congrArg (λz=>[AV.val (.int .i64 z)]) (show X=(dg:Int) by omega)) ?_
      refine VO.app (cH _ _) (t:=272) (e:=3) (sz:=1) (n:=ds.length) (c:=cap) (mm:=1) (known:=iv ds) (spare:=spare) (news:=iv [dg]) (dst:=47) (del:=some 47) rfl rfl rfl rfl rfl rfl rfl rfl (bl rfl) rfl (.inr ⟨47,rfl,rfl,rfl⟩) (.inr rfl) (by rw[bZ];omega) (by rw[List.length_append,bZ];omega) h1 h2 ⟨bE _,h5,bE _⟩ ⟨lH _,h4,lH _⟩ rfl ab
       (λw1 β k1 b1 ho=>⟨_,_,rfl,.inr ⟨β 46,0,rfl,fJ (rest:=[]) (ho.own 46 (.base (List.mem_append_right _ (List.mem_singleton.2 rfl))) _ _ rfl) rfl⟩⟩)
       (λw2 cap' aP ρ k2 b2 eV nH oP hlen ji fQ=>wV rfl ?_)
      refine aa ?_
      refine VS.back (n-(i+1)) ab ⟨_,_,?_,?_,?_,?_,⟨i+1,0,ds++[dg],.row 47 0 (ds++[dg]).length cap',by omega,rfl,rfl,.inr ⟨cap',aP,rfl,rfl,by simp;omega,oP,?_,ji,fQ⟩,by simp[tS],dP.append hdh (dP.cons JX.2 (dP.nil _)),Nat.zero_le _,hst⟩⟩
      ·exact⟨rfl,rfl,rfl,congrArg (λz=>some (AV.row 47 0 z cap')) dw,rfl,congrArg (λz=>some (AV.val (.int .i64 z))) xG,trivial⟩
      ·exact⟨congrArg (λl=>some (_,l++aP)) (oG _ _).symm,trivial⟩
      ·rfl
      ·exact⟨.append (.none (bE _)) (.none fQ),trivial⟩
      ·simpa [bZ,Nat.add_assoc] using hlen
 ·obtain rfl:i=n:=by omega
  have hend:=LN hdh tS ey (show t*hval (halves B)<=hval (halves A) by rw[aX,aX];exact hle) (by
   rcases Nat.eq_zero_or_pos t with e|e
   ·exact .inl e
   ·right
    rw[<-ey]
    exact dh ab (Nat.le_trans (Nat.le_mul_of_pos_left B e) hle)) hv
  rw[aX,aX] at hend
  rcases jQ with ⟨rfl,rfl,rfl⟩|⟨cap,spare,rfl,rfl,h1,h2,h3,h4,h5⟩
  all_goals
   refine aa ?_
   refine VS.aK rfl (decide_eq_false (λe=>jf (Int.ofNat_lt.1 e))) ?_
   refine aa ?_
  ·refine VO.call rfl rfl (fk Tryz.func220) (λaC aY aH=>(gr none 0 0 [] aC (Rd.own (World.ownsRow_nil _ 0 0 _)) (dP.nil _)).mono ?_)
   rintro e w1 ⟨⟨mm,xY,rfl,hcut⟩,rfl⟩
   obtain rfl:mm=0:=by omega
   refine⟨_,rfl,aw.refl _,λbQ _ bb1=>wV rfl ?_⟩
   refine aa ?_
   refine au ?_;intro wz kz bz
   have e0:A-t*B=0:=by rw[<-hend];rfl
   exact⟨_,rfl,by rw[e0,ky];exact eD.nil _ _,bz⟩
  ·refine VO.yp rfl (fk Tryz.func220) (λw1 β k1 b1 ho=>(gr (some ⟨β 47,0,none⟩) ds.length cap ds w1 (kA (ho.own 47 (.base (List.mem_singleton.2 rfl)) _ _ rfl) rfl h1 (by simpa [maxLen] using h2)) hdh).mono ?_)
   rintro e w2 ⟨⟨mm,xY,rfl,hcut⟩,rfl⟩
   refine⟨.row 47 0 mm cap,rfl,λi hi=>⟨hi,by cases List.mem_singleton.1 hi;exact Option.some_ne_none _⟩,aw.refl _,λk2 _ b2=>wV rfl ?_⟩
   refine aa ?_
   refine VS.mh (cH _ _) rfl (λwz β kz bz he=> ?_)
   have rG:=uG hcut xY rfl
   rw[hend] at hcut rG
   refine⟨_,rfl,?_,bz⟩
   have:=nZ (he.own 47 _ _ rfl) rfl xY h1 (by simpa [maxLen] using h2) h3
   rw[<-hcut] at this
   show eD wz w.heap.size (.slice (some ⟨β 47,0,none⟩) mm cap) _ _
   rw[<-rG]
   exact this
set_option maxRecDepth 4000
theorem eD.iu {w w':World} {B:Nat} {v:Value} {n:Nat} {xs:List Nat} (h:eD w B v n xs) (k:aV KI w w'):eD w' B v n xs:=by
 obtain⟨hn,e|⟨b,c,spare,e,hb,hc,r⟩⟩:=h
 ·exact⟨hn,.inl e⟩
 ·exact⟨hn,.inr ⟨b,c,spare,e,hb,k.block _ b _ rfl trivial hc,r⟩⟩
theorem tX.kp {w w':World} {B n:Nat} {v:Value} {cs:List Value} (h:w.ownsRow B 3 1 v n cs) (k:aV KI w w'):w'.ownsRow B 3 1 v n cs:=by
 refine⟨h.1,?_⟩
 rcases h.2 with h2|⟨g,cap,cur,hv,hb,hg,r⟩
 ·exact .inl h2
 ·exact .inr ⟨g,cap,cur,hv,hb,k.block _ g cur rfl trivial hg,r⟩
theorem eD.form {w:World} {B:Nat} {v:Value} {n:Nat} {xs:List Nat} (h:eD w B v n xs):∃ p c,v=.slice p n c:=by
 obtain⟨hn,⟨rfl,rfl⟩|⟨b,c,spare,rfl,_⟩⟩:=h
 ·exact⟨none,0,rfl⟩
 ·exact⟨_,c,rfl⟩
theorem Cw (x:Nat):hval [x]=x:=by show x+65536*0=x;omega
theorem ea {P Q:Prop} (h:Q) (i:Q->P:=by intro h;(repeat first|refine wN ?_|refine wP rfl ?_|refine yq rfl ?_|refine cxI_d rfl ?_|refine wO rfl rfl ?_);exact h):P:=i h
theorem dT {P Q X:Prop} (hb:X) (h:Q) (i:X->Q->P:=by intro hb h;refine⟨_,rfl,hb,λa b c=>wV rfl ?_⟩;refine ea ?_;revert a b c;exact h):P:=i hb h
theorem rh {P Q:Prop} (h:Q) (i:Q->P:=by intro h;exact VS.ret (mi _ _) rfl rfl h):P:=i h
theorem tw (va vb:Value) (n m A B:Nat) (w:World) (hr:Rd w 1 va n (ints .i64 (halves A))) (hs:Rd w 1 vb m (ints .i64 (halves B))) (hB:A<65536*B) (hm:m<=2147483656):
  Calls Tryz.prog 227 #[va,vb] w λe w'=>e=.returned (.int .i64 ((A/B:Nat):Int))/\aw w w':=by
 obtain⟨p,c,rfl,dL,eH,ey⟩:=hr.i64
 obtain⟨q,d,rfl,Hn,Dt,jx⟩:=hs.i64
 refine ae (C:=Ez Tryz.prog w _) (args:=[_,_]) Tryz.func227 rfl Tryz.ntmps227 (bl rfl) ?_
 refine ea ?_
 refine VS.loop (J:=λms L M w'=>∃ (lo hi:Nat),lo<hi/\hi<=65536/\ms=hi-lo/\L=[(0,.val (.slice p n c)),(1,.val (.slice q m d)),(5,.val (.int .i64 (lo:Int))),(6,.val (.int .i64 (hi:Int)))]/\M=[]/\lo*B<=A/\A<hi*B) 65536 ⟨_,_,?_,?_,?_,?_,⟨0,65536,by omega,by omega,rfl,rfl,rfl,by omega,hB⟩⟩ ?_
 ·exact cW
 ·exact cW
 ·rfl
 ·exact trivial
 rintro ms L M w' ⟨lo,hi,hlh,hh,rfl,rfl,rfl,h1,h2⟩
 have xl:IntKind.i64.wrap ((hi:Int)-(lo:Int))=(hi:Int)-lo:=IntWalk.i64_in _ ab
 refine ea ?_
 by_cases hgo:1<hi-lo
 ·obtain⟨mid,lR⟩:∃ mid,mid=(lo+hi)/2:=⟨_,rfl⟩
  have hwm:IntKind.i64.wrap ((IntKind.i64.wrap ((lo:Int)+(hi:Int))).tdiv 2)=(mid:Int):=by
   rw[IntWalk.i64_in ((lo:Int)+(hi:Int)) ab,Int.tdiv_eq_ediv_of_nonneg ab,IntWalk.i64_in _ ab];omega
  refine VS.aJ rfl (decide_eq_true (by rw[xl];omega)) ?_
  refine ea ?_
  refine VO.lit (mi _ _) [.int .i64 (mid:Int)] rfl (by rw[hwm];rfl) rfl rfl rfl rfl rfl rfl rfl ab (λw2 b k2 b2 ho=>wV rfl ?_)
  have hmid4:mid<65536:=by omega
  refine VO.call rfl rfl (fk Tryz.func190) (λaC aY aH=>(tu _ _ m 1 (halves B) [mid] aC (hs.below aH) (Rd.own (tX.kp (cs:=ints .i64 [mid]) ho aY)) (bJ B) (dP.cons hmid4 (dP.nil _)) hm ab).mono ?_)
  rintro e w1 ⟨v1,rfl,q1,aD⟩
  rw[aX,Cw] at q1
  obtain⟨p1,c1,rfl⟩:=q1.form
  refine dT aD ?_
  intro bQ _ bb1
  refine VO.cB rfl rfl (fk Tryz.func237) (λcu cM cX=>EL _ _ n _ A (B*mid) cu (hr.below cX) (Rd.own (q1.iu cM).own)) (λcu cM cX w3 ck dR _ bb3=>wV rfl ?_)
  refine ea ?_
  by_cases hlt:A<B*mid
  ·refine VS.aJ rfl (decide_eq_true hlt) ?_
   refine ea ?_
   refine VS.back (mid-lo) ab ⟨_,_,?_,?_,?_,?_,⟨lo,mid,by omega,by omega,rfl,rfl,rfl,h1,by rw[Nat.mul_comm];exact hlt⟩⟩
   ·exact⟨rfl,rfl,rfl,congrArg (λz=>some (AV.val (.int .i64 z))) hwm,trivial⟩
   ·exact cW
   ·rfl
   ·exact trivial
  ·refine VS.aK rfl (decide_eq_false hlt) ?_
   refine ea ?_
   refine VS.back (hi-mid) ab ⟨_,_,?_,?_,?_,?_,⟨mid,hi,by omega,by omega,rfl,rfl,rfl,by rw[Nat.mul_comm];omega,h2⟩⟩
   ·exact⟨rfl,rfl,congrArg (λz=>some (AV.val (.int .i64 z))) hwm,rfl,trivial⟩
   ·exact cW
   ·rfl
   ·exact trivial
 ·refine VS.aK rfl (decide_eq_false (by rw[xl];omega)) ?_
  refine ea ?_
  refine rh ?_;intro wz kz bz
  refine⟨?_,bz⟩
  have hBp:0<B:=by
   rcases Nat.eq_zero_or_pos B with e|e
   ·rw[e] at hB;omega
   ·exact e
  have:A/B=lo:=by
   have e1:hi=lo+1:=by omega
   rw[e1,Nat.add_mul] at h2
   exact Nat.div_eq_of_lt_le h1 (by rw[Nat.add_mul];exact h2)
  rw[this];rfl
theorem vQ {A B k x R V:Nat} {qs:List Nat} (hx:(halves A)[k]? =some x) (hR:R<B) (hV:V=x+65536*R) (h:hval qs*B+R=hval ((halves A).drop (k+1))):
  hval ((V/B)::qs)*B+(V-V/B*B)=hval ((halves A).drop k)/\V<65536*B/\V-V/B*B<B/\V/B<65536:=by
 have jY:=(bJ A).at hx
 have e1:hval ((halves A).drop k)=x+65536*hval ((halves A).drop (k+1)):=pd hx
 have e2:hval ((V/B)::qs)=V/B+65536*hval qs:=rfl
 have e3:=Nat.div_add_mod V B
 have e4:=Nat.mod_lt V (show 0<B by omega)
 rw[Nat.mul_comm] at e3
 have hlt:V<65536*B:=by
  have:65536*R+65536<=65536*B:=by
   have:=Nat.mul_le_mul_left 65536 (show R+1<=B by omega)
   rw[Nat.mul_add] at this;omega
  omega
 refine⟨?_,hlt,by omega,Nat.div_lt_of_lt_mul (by rw[Nat.mul_comm];exact hlt)⟩
 rw[e1,<-h,e2,Nat.add_mul,Nat.mul_add,Nat.mul_assoc]
 omega
theorem Cy (va vb:Value) (n m A B:Nat) (w:World) (hr:Rd w 1 va n (ints .i64 (halves A))) (hs:Rd w 1 vb m (ints .i64 (halves B))) (hB:0<B) (hn:n<=1073741824) (hm:m<=1073741824):
  Calls Tryz.prog 204 #[va,vb] w λe w'=>∃ v u,e=.returned (.tuple #[v,u])/\eD w' w.heap.size v (halves (A/B)).length (halves (A/B))/\eD w' w.heap.size u (halves (A%B)).length (halves (A%B))/\aw w w':=by
 obtain⟨p,c,rfl,dL,eH,ey⟩:=hr.i64
 obtain⟨q,d,rfl,Hn,Dt,jx⟩:=hs.i64
 refine ae (C:=aM Tryz.prog w _) (args:=[_,_]) Tryz.func204 rfl Tryz.ntmps204 (bl rfl) ?_
 refine aa ?_
 refine VO.cond rfl ⟨rfl,by omega,by show (n:Int)*(24*1)<=_;omega⟩ (VO.tU 12 rfl (vO _) (wV rfl ?_))
 rw[Int.toNat_natCast]
 refine aa ?_
 have hw0:IntKind.i64.wrap ((n:Int)-1)=(n:Int)-1:=IntWalk.i64_in _ ab
 refine VS.loop (J:=λms L M w'=>∃ (k R:Nat) (qs:List Nat) (v:AV) (M1:List (Nat×(TypeId×List AV))),k<=n/\ms=k/\L=[(0,.val (.slice p n c)),(1,.val (.slice q m d)),(6,.row 12 0 n n),(7,v),(8,.val (.int .i64 ((k:Int)-1)))]/\
  M=(12,(3,iv (List.replicate k 0++qs)))::M1/\RowAt 41 (halves R) v M1/\qs.length=n-k/\fH qs/\R<B/\hval qs*B+R=hval ((halves A).drop k)) n ⟨_,_,?_,?_,?_,?_,⟨n,0,[],.val (.slice none 0 0),[],Nat.le_refl _,rfl,rfl,rfl,.inl ⟨ky,rfl,rfl⟩,by simp,dP.nil _,hB,by rw[List.drop_of_length_le ab];simp[hval,val]⟩⟩ ?_
 ·exact⟨rfl,rfl,rfl,rfl,congrArg (λz=>some (AV.val (.int .i64 z))) hw0,trivial⟩
 ·exact⟨congrArg (λl=>some (_,l)) (by rw[List.append_nil]),trivial⟩
 ·rfl
 ·exact⟨.none (bE _),trivial⟩
 rintro ms L M w' ⟨k,R,qs,v,M1,hk,hms,rfl,rfl,jQ,hql,hqh,hRB,hv⟩
 have hz:(List.replicate k 0++qs).length=n:=by simp;omega
 rcases jQ with ⟨hR0,rfl,rfl⟩|⟨cap,spare,rfl,rfl,g1,g2,g3,g4,g5⟩
 all_goals
  by_cases JR:k=0
 ·subst JR
  refine aa ?_
  refine VO.yp rfl (fk Tryz.func220) (λw1 β k1 bw ho=>(gr (some ⟨β 12,0,none⟩) n n qs w1 (kA (spare:=[]) (by rw[List.append_nil];exact ho.own 12 (.base (List.mem_singleton.2 rfl)) _ _ rfl) (by simpa using hz) (Nat.le_refl _) (by simp only[maxLen];omega)) hqh).mono ?_)
  rintro e w2 ⟨⟨mm,xY,rfl,hcut⟩,rfl⟩
  refine⟨.row 12 0 mm n,rfl,λi hi=>⟨hi,by cases List.mem_singleton.1 hi;exact Option.some_ne_none _⟩,aw.refl _,λk2 _ b2=>wV rfl ?_⟩
  refine aa ?_
  refine VS.mh (cH _ _) rfl (λwz β kz bz he=> ?_)
  have AG:qs.length=n:=by simpa using hz
  have rG:=uG hcut xY AG
  rw[List.drop_zero,aX] at hv
  have hA:A/B=hval qs:=by rw[<-hv,Nat.add_comm,Nat.add_mul_div_right _ _ hB,Nat.div_eq_of_lt hRB,Nat.zero_add]
  have hM:A%B=R:=by rw[<-hv,Nat.add_comm,Nat.add_mul_mod_self_right,Nat.mod_eq_of_lt hRB]
  rw[<-hA] at hcut rG
  have e12:=nZ (spare:=[]) (by rw[List.append_nil];exact he.own 12 _ _ rfl) AG xY (Nat.le_refl _) (by simp only[maxLen];omega) (by simpa using AG)
  rw[<-hcut] at e12
  refine⟨.slice (some ⟨β 12,0,none⟩) mm n,.slice none 0 0,rfl,by rw[<-rG];exact e12,?_,bz⟩
  rw[hM,hR0];exact eD.nil _ _
 ·obtain⟨j,rfl⟩:∃ j,k=j+1:=⟨k-1,by omega⟩
  have hj:((j+1:Nat):Int)-1=(j:Int):=by omega
  obtain⟨b1,o1,x,rfl,aD,eI,kG⟩:=hr.cellAt (show j<n by omega)
  have jY:=(bJ A).at eI
  obtain⟨V,hV⟩:∃ V,V=x+65536*R:=⟨_,rfl⟩
  obtain⟨s1,s2,s3,s4⟩:=vQ eI hRB hV hv
  have hRl:(halves R).length<=m:=by rw[<-jx];exact dh ab ab
  have hXS:hval [x]=V:=by have hR0':R=0:=(by have:=congrArg hval hR0;rw[aX] at this;exact this);rw[hV,hR0'];exact Cw x
  have hXH:fH [x]:=dP.cons jY (dP.nil _)
  have hXL:[x].length=(1+0):=rfl
  refine VS.fix 8 rfl (congrArg (λz=>AV.val (.int .i64 z)) hj) ?_
  refine aa ?_
  refine VO.cond rfl dz (wV rfl ?_)
  refine VO.read rfl [.int .i64 (x:Int)] rfl (ia rfl kG) (wV rfl ?_)
  refine aa ?_
  refine VO.app (cH _ _) (t:=272) (e:=3) (sz:=1) (n:=1) (c:=1) (mm:=0) (known:=iv [x]) (spare:=[]) (news:=[]) (dst:=27) (del:=some 24) rfl rfl rfl rfl rfl rfl rfl rfl (bl rfl) rfl (.inr ⟨24,rfl,rfl,rfl⟩) (.inl rfl) rfl rfl ab ab ⟨rfl,rfl,rfl⟩ ⟨rfl,rfl,rfl⟩ rfl ab
   (λw1 β k1 bw ho=>⟨_,_,rfl,.inl rfl⟩)
   (λw2 cap' aP ρ k2 b2 eV nH oP hlen ji fQ=>VO.tU 12 rfl (LM 24 ρ _) (wV rfl ?_))
  have EM:(iv [x]++[])++aP=iv [x]++aP:=rfl
  refine VO.yp rfl (fk Tryz.func220) (λw1 β k1 bw ho=>(gr (some ⟨β 27,0,none⟩) (1+0) cap' [x] w1 (kA (ho.own 27 (.base (List.mem_singleton.2 rfl)) _ _ rfl) hXL nH (by simpa [maxLen] using oP)) hXH).mono ?_)
  rintro e w3 ⟨⟨m',hm',rfl,hcut⟩,rfl⟩
  rw[hXS] at hcut
  have hm'l:m'=(halves V).length:=by rw[hcut,List.length_take];omega
  have rF:∀ {C:Cx} {β:Nat->Nat} {w:World},jL C β w 27 3 (iv [x]++aP)->Rd w 1 (.slice (some ⟨β 27,0,none⟩) m' cap') m' (ints .i64 (halves V)):=λh=>by
   have:=Rd.Cp (kA h hXL nH (by simpa [maxLen] using oP)) hm'
   rwa [<-hcut] at this
  refine⟨.row 27 0 m' cap',rfl,λi hi=>⟨hi,by cases List.mem_singleton.1 hi;exact Option.some_ne_none _⟩,aw.refl _,λk3 _ b3=>wV rfl ?_⟩
  refine aa ?_
  refine VO.fq rfl (fk Tryz.func227) (λw1 β k1 bw ho=>(tw _ _ m' m V B w1 (rF (ho.own 27 (.base (List.mem_append_left _ (List.mem_singleton.2 rfl))) _ _ rfl)) (hs.below bw) s2 ab).mono ?_)
  rintro e w4 ⟨rfl,fe⟩
  refine⟨_,rfl,fe,λk4 _ b4=>wV rfl ?_⟩
  refine VO.cond rfl dz (wV rfl ?_)
  refine VO.cond rfl (by show 0+(j:Int).toNat*1+1<=_;rw[Int.toNat_natCast,bZ];omega) (wV rfl ?_)
  refine wN ?_
  refine VS.narrow [(0,.val (.slice (some ⟨b1,o1,none⟩) n c)),(1,.val (.slice q m d)),(6,.row 12 0 n n),(7,.row 27 0 m' cap'),(8,.val (.int .i64 (j:Int)))] [(12,(3,iv (List.replicate j 0++(V/B)::qs))),(27,(3,iv [x]++aP))] ?_ ?_ rfl ?_ ?_
  ·exact cW
  ·exact⟨congrArg (λl=>some (_,l)) ((uF (j:=j) (x:=V/B) (by rw[hz];omega) (by rw[Int.toNat_natCast];omega)).trans (by rw[tr])),rfl,trivial⟩
  ·exact⟨.none (bE _),.append (.none (bE _)) (.none fQ),trivial⟩
  refine aa ?_
  refine VO.cond rfl dz (wV rfl ?_)
  refine VO.jn rfl [.val (.int .i64 ((V/B:Nat):Int))] rfl (rf (j:=j) (by rw[List.getElem?_append_right dw];simp) (by rw[Int.toNat_natCast];omega)) (wV rfl ?_)
  have xl:IntKind.i64.wrap ((j:Int)-1)=(j:Int)-1:=IntWalk.i64_in _ ab
  refine VO.callN (dst:=41) (n:=(halves (V-V/B*B)).length) (t:=3) (sz:=1) (xs:=ints .i64 (halves (V-V/B*B))) rfl rfl rfl (bl rfl) (by show 1<=2;omega) rfl (λw1 β k1 bw ho=>⟨(fk Tryz.func228),(vP _ _ m' m (V/B) V B w1 (rF (ho.own 27 (.base (List.mem_append_left _ (List.mem_singleton.2 rfl))) _ _ rfl)) (hs.below bw) s4 (Nat.div_mul_le_self _ _) ab).mono ?_⟩)
  rintro e w5 ⟨v5,rfl,Cz,il⟩
  refine⟨v5,rfl,il,Cz.new,λ_ _ _ hv5=>wV rfl ?_,λc5 sp5 _ _ _ hv5 hok5 hl5 hc5 Kl=>wV rfl ?_⟩
  ·have dk:halves (V-V/B*B)=[]:=by
    subst hv5
    obtain⟨e1,⟨_,e2⟩|⟨_,_,_,e2,_⟩⟩:=Cz
    ·exact List.eq_nil_of_length_eq_zero e2
    ·cases e2
   refine aa ?_
   refine VS.back j ab ⟨_,_,?_,?_,?_,?_,⟨j,V-V/B*B,(V/B)::qs,.val (.slice none 0 0),[],by omega,rfl,rfl,rfl,.inl ⟨dk,rfl,rfl⟩,by simp;omega,dP.cons s4 hqh,s3,s1⟩⟩
   ·exact⟨rfl,rfl,rfl,rfl,congrArg (λz=>some (AV.val (.int .i64 z))) xl,trivial⟩
   ·exact⟨rfl,trivial⟩
   ·rfl
   ·exact⟨.none (bE _),trivial⟩
  ·have hln':(halves (V-V/B*B)).length+sp5.length=c5:=by simpa using Kl
   refine aa ?_
   refine VS.back j ab ⟨_,_,?_,?_,?_,?_,⟨j,V-V/B*B,(V/B)::qs,.row 41 0 _ c5,_,by omega,rfl,rfl,rfl,.inr ⟨c5,sp5.map .val,rfl,rfl,hl5,hc5,by simpa using hln',cU hok5,af _⟩,by simp;omega,dP.cons s4 hqh,s3,s1⟩⟩
   ·exact⟨rfl,rfl,rfl,rfl,congrArg (λz=>some (AV.val (.int .i64 z))) xl,trivial⟩
   ·exact⟨rfl,congrArg (λl=>some (_,l)) (List.map_append),trivial⟩
   ·rfl
   ·exact⟨.none (bE _),.append (.none (bE _)) (.none (af _)),trivial⟩
 ·subst JR
  refine aa ?_
  refine VO.yp rfl (fk Tryz.func220) (λw1 β k1 bw ho=>(gr (some ⟨β 12,0,none⟩) n n qs w1 (kA (spare:=[]) (by rw[List.append_nil];exact ho.own 12 (.base (List.mem_singleton.2 rfl)) _ _ rfl) (by simpa using hz) (Nat.le_refl _) (by simp only[maxLen];omega)) hqh).mono ?_)
  rintro e w2 ⟨⟨mm,xY,rfl,hcut⟩,rfl⟩
  refine⟨.row 12 0 mm n,rfl,λi hi=>⟨hi,by cases List.mem_singleton.1 hi;exact Option.some_ne_none _⟩,aw.refl _,λk2 _ b2=>wV rfl ?_⟩
  refine aa ?_
  refine VS.mh (cH _ _) rfl (λwz β kz bz he=> ?_)
  have AG:qs.length=n:=by simpa using hz
  have rG:=uG hcut xY AG
  rw[List.drop_zero,aX] at hv
  have hA:A/B=hval qs:=by rw[<-hv,Nat.add_comm,Nat.add_mul_div_right _ _ hB,Nat.div_eq_of_lt hRB,Nat.zero_add]
  have hM:A%B=R:=by rw[<-hv,Nat.add_comm,Nat.add_mul_mod_self_right,Nat.mod_eq_of_lt hRB]
  rw[<-hA] at hcut rG
  have e12:=nZ (spare:=[]) (by rw[List.append_nil];exact he.own 12 _ _ rfl) AG xY (Nat.le_refl _) (by simp only[maxLen];omega) (by simpa using AG)
  rw[<-hcut] at e12
  have e41:=nZ (he.own 41 _ _ rfl) rfl (Nat.le_refl _) g1 (by simpa [maxLen] using g2) g3
  rw[List.take_length] at e41
  refine⟨.slice (some ⟨β 12,0,none⟩) mm n,.slice (some ⟨β 41,0,none⟩) (halves R).length cap,rfl,by rw[<-rG];exact e12,?_,bz⟩
  rw[hM];exact e41
 ·obtain⟨j,rfl⟩:∃ j,k=j+1:=⟨k-1,by omega⟩
  have hj:((j+1:Nat):Int)-1=(j:Int):=by omega
  obtain⟨b1,o1,x,rfl,aD,eI,kG⟩:=hr.cellAt (show j<n by omega)
  have jY:=(bJ A).at eI
  obtain⟨V,hV⟩:∃ V,V=x+65536*R:=⟨_,rfl⟩
  obtain⟨s1,s2,s3,s4⟩:=vQ eI hRB hV hv
  have hRl:(halves R).length<=m:=by rw[<-jx];exact dh ab ab
  have hXS:hval (x::halves R)=V:=by rw[hV];show x+65536*hval (halves R)=_;rw[aX]
  have hXH:fH (x::halves R):=dP.cons jY (bJ R)
  have hXL:(x::halves R).length=(1+(halves R).length):=by simp;omega
  refine VS.fix 8 rfl (congrArg (λz=>AV.val (.int .i64 z)) hj) ?_
  refine aa ?_
  refine VO.cond rfl dz (wV rfl ?_)
  refine VO.read rfl [.int .i64 (x:Int)] rfl (ia rfl kG) (wV rfl ?_)
  refine aa ?_
  refine VO.app (cH _ _) (t:=272) (e:=3) (sz:=1) (n:=1) (c:=1) (mm:=(halves R).length) (known:=iv [x]) (spare:=[]) (news:=iv (halves R)) (dst:=27) (del:=some 24) rfl rfl rfl rfl rfl rfl rfl rfl (bl rfl) rfl (.inr ⟨24,rfl,rfl,rfl⟩) (.inl rfl) rfl rfl ab ab ⟨rfl,rfl,bE _⟩ ⟨rfl,rfl,lH _⟩ (by rw[bZ];omega) ab
   (λw1 β k1 bw ho=>⟨_,_,rfl,.inr ⟨β 41,0,rfl,fJ (rest:=spare) (ho.own 41 (.base (List.mem_append_right _ (List.mem_singleton.2 rfl))) _ _ rfl) rfl⟩⟩)
   (λw2 cap' aP ρ k2 b2 eV nH oP hlen ji fQ=>VO.tU 12 rfl (LM 24 ρ _) (wV rfl ?_))
  have EM:(iv [x]++iv (halves R))++aP=iv (x::halves R)++aP:=rfl
  refine VO.yp rfl (fk Tryz.func220) (λw1 β k1 bw ho=>(gr (some ⟨β 27,0,none⟩) (1+(halves R).length) cap' (x::halves R) w1 (kA (ho.own 27 (.base (List.mem_singleton.2 rfl)) _ _ rfl) hXL nH (by simpa [maxLen] using oP)) hXH).mono ?_)
  rintro e w3 ⟨⟨m',hm',rfl,hcut⟩,rfl⟩
  rw[hXS] at hcut
  have hm'l:m'=(halves V).length:=by rw[hcut,List.length_take];omega
  have rF:∀ {C:Cx} {β:Nat->Nat} {w:World},jL C β w 27 3 (iv (x::halves R)++aP)->Rd w 1 (.slice (some ⟨β 27,0,none⟩) m' cap') m' (ints .i64 (halves V)):=λh=>by
   have:=Rd.Cp (kA h hXL nH (by simpa [maxLen] using oP)) hm'
   rwa [<-hcut] at this
  refine⟨.row 27 0 m' cap',rfl,λi hi=>⟨hi,by cases List.mem_singleton.1 hi;exact Option.some_ne_none _⟩,aw.refl _,λk3 _ b3=>wV rfl ?_⟩
  refine aa ?_
  refine VO.fq rfl (fk Tryz.func227) (λw1 β k1 bw ho=>(tw _ _ m' m V B w1 (rF (ho.own 27 (.base (List.mem_append_left _ (List.mem_singleton.2 rfl))) _ _ rfl)) (hs.below bw) s2 ab).mono ?_)
  rintro e w4 ⟨rfl,fe⟩
  refine⟨_,rfl,fe,λk4 _ b4=>wV rfl ?_⟩
  refine VO.cond rfl dz (wV rfl ?_)
  refine VO.cond rfl (by show 0+(j:Int).toNat*1+1<=_;rw[Int.toNat_natCast,bZ];omega) (wV rfl ?_)
  refine wN ?_
  refine VS.narrow [(0,.val (.slice (some ⟨b1,o1,none⟩) n c)),(1,.val (.slice q m d)),(6,.row 12 0 n n),(7,.row 27 0 m' cap'),(8,.val (.int .i64 (j:Int)))] [(12,(3,iv (List.replicate j 0++(V/B)::qs))),(27,(3,iv (x::halves R)++aP))] ?_ ?_ rfl ?_ ?_
  ·exact cW
  ·exact⟨congrArg (λl=>some (_,l)) ((uF (j:=j) (x:=V/B) (by rw[hz];omega) (by rw[Int.toNat_natCast];omega)).trans (by rw[tr])),rfl,trivial⟩
  ·exact⟨.none (bE _),.append (.none (bE _)) (.none fQ),trivial⟩
  refine aa ?_
  refine VO.cond rfl dz (wV rfl ?_)
  refine VO.jn rfl [.val (.int .i64 ((V/B:Nat):Int))] rfl (rf (j:=j) (by rw[List.getElem?_append_right dw];simp) (by rw[Int.toNat_natCast];omega)) (wV rfl ?_)
  have xl:IntKind.i64.wrap ((j:Int)-1)=(j:Int)-1:=IntWalk.i64_in _ ab
  refine VO.callN (dst:=41) (n:=(halves (V-V/B*B)).length) (t:=3) (sz:=1) (xs:=ints .i64 (halves (V-V/B*B))) rfl rfl rfl (bl rfl) (by show 1<=2;omega) rfl (λw1 β k1 bw ho=>⟨(fk Tryz.func228),(vP _ _ m' m (V/B) V B w1 (rF (ho.own 27 (.base (List.mem_append_left _ (List.mem_singleton.2 rfl))) _ _ rfl)) (hs.below bw) s4 (Nat.div_mul_le_self _ _) ab).mono ?_⟩)
  rintro e w5 ⟨v5,rfl,Cz,il⟩
  refine⟨v5,rfl,il,Cz.new,λ_ _ _ hv5=>wV rfl ?_,λc5 sp5 _ _ _ hv5 hok5 hl5 hc5 Kl=>wV rfl ?_⟩
  ·have dk:halves (V-V/B*B)=[]:=by
    subst hv5
    obtain⟨e1,⟨_,e2⟩|⟨_,_,_,e2,_⟩⟩:=Cz
    ·exact List.eq_nil_of_length_eq_zero e2
    ·cases e2
   refine aa ?_
   refine VS.back j ab ⟨_,_,?_,?_,?_,?_,⟨j,V-V/B*B,(V/B)::qs,.val (.slice none 0 0),[],by omega,rfl,rfl,rfl,.inl ⟨dk,rfl,rfl⟩,by simp;omega,dP.cons s4 hqh,s3,s1⟩⟩
   ·exact⟨rfl,rfl,rfl,rfl,congrArg (λz=>some (AV.val (.int .i64 z))) xl,trivial⟩
   ·exact⟨rfl,trivial⟩
   ·rfl
   ·exact⟨.none (bE _),trivial⟩
  ·have hln':(halves (V-V/B*B)).length+sp5.length=c5:=by simpa using Kl
   refine aa ?_
   refine VS.back j ab ⟨_,_,?_,?_,?_,?_,⟨j,V-V/B*B,(V/B)::qs,.row 41 0 _ c5,_,by omega,rfl,rfl,rfl,.inr ⟨c5,sp5.map .val,rfl,rfl,hl5,hc5,by simpa using hln',cU hok5,af _⟩,by simp;omega,dP.cons s4 hqh,s3,s1⟩⟩
   ·exact⟨rfl,rfl,rfl,rfl,congrArg (λz=>some (AV.val (.int .i64 z))) xl,trivial⟩
   ·exact⟨rfl,congrArg (λl=>some (_,l)) (List.map_append),trivial⟩
   ·rfl
   ·exact⟨.none (bE _),.append (.none (bE _)) (.none (af _)),trivial⟩
set_option maxRecDepth 4000
theorem bt.iu {w w':World} {v:Value} {X:Int} {j:Nat} (h:bt w v X j) (k:aV KI w w'):bt w' v X j:=h.kp (U:=UU) k.iD
theorem bH.iu {w w':World} {v:Value} {X:Int} (h:bH w v X) (k:aV KI w w'):bH w' v X:=h.kp (U:=UU) k.iD
theorem aj.iu {w w':World} {B:Nat} {v:Value} {X:Int} (h:aj w B v X) (k:aV KI w w'):aj w' B v X:=h.kp k.iD
theorem Rd.iu {w w':World} {v:Value} {n:Nat} {xs:List Nat} (h:Rd w 1 v n (ints .u32 xs)) (k:aV KI w w'):Rd w' 1 v n (ints .u32 xs):=h.kp (U:=UU) k.iD
theorem OwnU.iu {w w':World} {B n:Nat} {v:Value} {cs:List Value} (h:w.ownsRow B UU 1 v n cs) (k:aV KI w w'):w'.ownsRow B UU 1 v n cs:=Own.kp h k.iD
theorem fu (a:Nat):(halves a).length<=2*(limbs a).length:=by
 have:=db (ak a)
 rwa [ah] at this
theorem gu (va:Value) (n a:Nat) (w:World) (hr:Rd w 1 va n (ints .u32 (limbs a))) (hn:n<=1073741824):
  Calls Tryz.prog 191 #[va] w λe w'=>∃ p c,e=.returned (.slice p (halves a).length c)/\w'.ownsRow w.heap.size 3 1 (.slice p (halves a).length c) (halves a).length (ints .i64 (halves a))/\aw w w':=
 (Ak va n _ w hr (ak a) hn).mono λe w' ⟨v',he,ho,hb⟩=>by
  rw[ah] at ho
  obtain⟨p,c,rfl,_⟩:=Own.form ho
  exact⟨p,c,he,ho,hb⟩
theorem mv (va:Value) (n a:Nat) (w:World) (hr:Rd w 1 va n (ints .i64 (halves a))) (hn:n<=2147483646):
  Calls Tryz.prog 189 #[va] w λe w'=>∃ p c xs,e=.returned (.slice p ((n+1)/2) c)/\w'.ownsRow w.heap.size UU 1 (.slice p ((n+1)/2) c) ((n+1)/2) (ints .u32 xs)/\ag xs=a/\cw xs/\aw w w':=
 (Cu va n _ w hr (bJ a) ab).mono λe w' ⟨v',xs,he,hl,ho,hv,hx,hb⟩=>by
  obtain⟨p,c,rfl,_⟩:=Own.form ho
  exact⟨p,c,xs,he,ho,by rw[hv,aX],hx,hb⟩
theorem vR (va vb:Value) (n m A B:Nat) (w:World) (hr:Rd w 1 va n (ints .i64 (halves A))) (hs:Rd w 1 vb m (ints .i64 (halves B))) (hB:0<B) (hn:n<=1073741824) (hm:m<=1073741824):
  Calls Tryz.prog 204 #[va,vb] w λe w'=>∃ p c q d,e=.returned (.tuple #[.slice p (halves (A/B)).length c,.slice q (halves (A%B)).length d])/\w'.ownsRow w.heap.size 3 1 (.slice p (halves (A/B)).length c) (halves (A/B)).length (ints .i64 (halves (A/B)))/\w'.ownsRow w.heap.size 3 1 (.slice q (halves (A%B)).length d) (halves (A%B)).length (ints .i64 (halves (A%B)))/\aw w w':=
 (Cy va vb n m A B w hr hs hB hn hm).mono λe w' ⟨v,u,he,h1,h2,hb⟩=>by
  obtain⟨p,c,rfl⟩:=h1.form
  obtain⟨q,d,rfl⟩:=h2.form
  exact⟨p,c,q,d,he,h1.own,h2.own,hb⟩
theorem LP {X Y:Int} {s t:Bool} (hX:X=if s=true then-(X.natAbs:Int) else X.natAbs) (hY:Y=if t=true then-(Y.natAbs:Int) else Y.natAbs):(if (!(s == t))=true then-((X.natAbs*Y.natAbs:Nat):Int) else ((X.natAbs*Y.natAbs:Nat):Int))=X*Y:=by
 generalize X.natAbs=a at*
 generalize Y.natAbs=b at*
 subst hX hY
 cases s <;> cases t <;> simp[Int.neg_mul,Int.mul_neg]
theorem jT (v u:Value) (X Y:Int) (j k:Nat) (w:World) (hv:bt w v X j) (hu:bt w u Y k) (hj:j<=268435456) (hk:k<=268435456):
  Calls Tryz.prog 160 #[v,u] w λe w'=>∃ r,e=.returned r/\aj w' w.heap.size r (X*Y)/\aw w w':=by
 obtain⟨s,p,n,c,rfl⟩:=hv.form
 obtain⟨t,q,m,d,rfl⟩:=hu.form
 have qq:=hv.len
 have nd:=hu.len
 refine ae (C:=Ez Tryz.prog w _) (args:=[_,_]) Tryz.func160 rfl Tryz.ntmps160 (bl rfl) ?_
 refine ea ?_
 refine VO.call rfl rfl (fk Tryz.func186) (λaC aY aH=>(iQ _ X j aC (hv.iu aY)).mono ?_)
 rintro e w1 ⟨r1,rfl,h1,aD⟩
 obtain⟨s1,p1,n1,c1,rfl⟩:=h1.fh
 refine dT aD ?_
 intro bQ _ bb1
 refine VO.call rfl rfl (fk Tryz.func186) (λaN bD bf=>(iQ _ Y k aN (hu.iu (bQ.aA bD))).mono ?_)
 rintro e w2 ⟨r2,rfl,h2,aQ⟩
 obtain⟨s2,p2,n2,c2,rfl⟩:=h2.fh
 refine dT aQ ?_
 intro cL _ bb2
 have e1:=mo h1.Ig
 have e2:=mo h2.Ig
 have l1:=fu X.natAbs
 have l2:=fu Y.natAbs
 refine VO.call rfl rfl (fk Tryz.func191) (λcu cM cX=>(gu _ n1 X.natAbs cu (h1.row.iu (bD.aA ((aV.of aQ).aA cM))) (by rw[h1.n];omega)).mono ?_)
 rintro e w3 ⟨p3,c3,rfl,h3,ck⟩
 skip
 refine dT ck ?_
 intro dR _ bb3
 refine VO.call rfl rfl (fk Tryz.func191) (λdJ eu eO=>(gu _ n2 Y.natAbs dJ (h2.row.iu (cM.aA ((aV.of ck).aA eu))) (by rw[h2.n];omega)).mono ?_)
 rintro e w4 ⟨p4,c4,rfl,h4,fe⟩
 skip
 refine dT fe ?_
 intro ir _ nu
 refine VO.call rfl rfl (fk Tryz.func190) (λfI fY im=>(tu _ _ _ _ (halves X.natAbs) (halves Y.natAbs) fI (Rd.own (tX.kp h3 (eu.aA ((aV.of fe).aA fY)))) (Rd.own (tX.kp h4 fY)) (bJ _) (bJ _) ab ab).mono ?_)
 rintro e w5 ⟨v5,rfl,h5,il⟩
 rw[aX,aX] at h5
 obtain⟨p5,c5,rfl⟩:=h5.form
 have l5:(halves (X.natAbs*Y.natAbs)).length<=1073741824:=by
  refine Nat.le_trans (fu _) ?_
  have:=Sz.mul (X:=X) (Y:=Y) qq nd
  unfold Sz at this
  rw[Int.natAbs_mul] at this
  omega
 refine dT il ?_
 intro lG _ tW
 refine VO.call rfl rfl (fk Tryz.func189) (λni nv rI=>(mv _ _ (X.natAbs*Y.natAbs) ni (Rd.own (h5.iu nv).own) ab).mono ?_)
 rintro e w6 ⟨p6,c6,xs6,rfl,h6,hx6,LQ,pw⟩
 skip
 refine dT pw ?_
 intro rJ _ AO
 refine VO.cI rfl rfl (fk Tryz.func171) (λuH xq vS=>gY (!(s1 == s2)) _ _ xs6 uH (Rd.own (OwnU.iu h6 xq)) LQ ab) (λuH xq vS w7 s7 p7 n7 c7 h7 DB CA _ bb7=>wV rfl ?_)
 refine ea ?_
 refine rh ?_;intro wz kz bz
 refine⟨_,rfl,aj.cast ((h7.iu kz).mono vS.size) ?_,bz⟩
 rw[hx6]
 exact LP e1 e2
theorem GA {s:Bool} {n:Nat} (h:n≠0):(if s=true then-(n:Int) else n).sign=if s=true then-1 else 1:=by
 cases s
 ·exact dy (by simp;omega)
 ·exact sign_neg (by simp;omega)
theorem div_len {a b:Nat}:(halves (a/b)).length<=(halves a).length:=dh ab (Nat.div_le_self _ _)
theorem mod_len {a b:Nat}:(halves (a%b)).length<=(halves a).length:=dh ab (Nat.mod_le _ _)
theorem GB {xs:List Nat} {a:Nat} {s:Bool} (hl:cw xs) (hv:ag xs=a):Sz (if s=true then-((ag xs:Nat):Int) else ag xs) xs.length:=by
 unfold Sz
 have:(if s=true then-((ag xs:Nat):Int) else ag xs).natAbs=ag xs:=by cases s <;> simp
 rw[this]
 exact gP hl
theorem jd (v u:Value) (X Y:Int) (j k:Nat) (w:World) (hv:bt w v X j) (hu:bt w u Y k) (hj:j<=134217728) (hk:k<=134217728):
  Calls Tryz.prog 170 #[v,u] w λe w'=>vJ w w' X Y e/\aw w w':=by
 obtain⟨s,p,n,c,rfl⟩:=hv.form
 obtain⟨t,q,m,d,rfl⟩:=hu.form
 have qq:=hv.len
 have nd:=hu.len
 refine ae (C:=Ez Tryz.prog w _) (args:=[_,_]) Tryz.func170 rfl Tryz.ntmps170 (bl rfl) ?_
 refine ea ?_
 refine VO.call rfl rfl (fk Tryz.func186) (λaC aY aH=>(iQ _ X j aC (hv.iu aY)).mono ?_)
 rintro e w1 ⟨r1,rfl,h1,aD⟩
 obtain⟨s1,p1,n1,c1,rfl⟩:=h1.fh
 refine dT aD ?_
 intro bQ _ bb1
 refine VO.call rfl rfl (fk Tryz.func186) (λaN bD bf=>(iQ _ Y k aN (hu.iu (bQ.aA bD))).mono ?_)
 rintro e w2 ⟨r2,rfl,h2,aQ⟩
 obtain⟨s2,p2,n2,c2,rfl⟩:=h2.fh
 refine dT aQ ?_
 intro cL _ bb2
 have e1:=mo h1.Ig
 have e2:=mo h2.Ig
 have l1:=fu X.natAbs
 have l2:=fu Y.natAbs
 by_cases hY:Y=0
 ·have hn0:n2=0:=by rw[h2.n,hY];exact congrArg List.length bG
  refine VS.aJ rfl (by rw[beq_iff_eq];omega) ?_
  refine ea ?_
  refine rh ?_;intro wz kz bz
  exact⟨.inl ⟨hY,_,_,rfl,aj.zero _ _,aj.zero _ _⟩,bz⟩
 ·have hY0:Y.natAbs≠0:=by omega
  have hn0:n2≠0:=by rw[h2.n];intro e;exact hY0 (ny e)
  refine VS.aK rfl (by rw[beq_eq_false_iff_ne];omega) ?_
  refine ea ?_
  refine VO.call rfl rfl (fk Tryz.func191) (λcu cM cX=>(gu _ n1 X.natAbs cu (h1.row.iu (bD.aA ((aV.of aQ).aA cM))) (by rw[h1.n];omega)).mono ?_)
  rintro e w3 ⟨p3,c3,rfl,h3,ck⟩
  skip
  refine dT ck ?_
  intro dR _ bb3
  refine VO.call rfl rfl (fk Tryz.func191) (λdJ eu eO=>(gu _ n2 Y.natAbs dJ (h2.row.iu (cM.aA ((aV.of ck).aA eu))) (by rw[h2.n];omega)).mono ?_)
  rintro e w4 ⟨p4,c4,rfl,h4,fe⟩
  skip
  refine dT fe ?_
  intro ir _ nu
  refine VO.call rfl rfl (fk Tryz.func204) (λfI fY im=>(vR _ _ _ _ X.natAbs Y.natAbs fI (Rd.own (tX.kp h3 (eu.aA ((aV.of fe).aA fY)))) (Rd.own (tX.kp h4 fY)) ab ab ab).mono ?_)
  rintro e w5 ⟨p5,c5,q5,d5,rfl,h5,h5',il⟩
  skip
  refine dT il ?_
  intro lG _ tW
  have l5:(halves (X.natAbs/Y.natAbs)).length<=(halves X.natAbs).length:=div_len
  have l5':(halves (X.natAbs%Y.natAbs)).length<=(halves X.natAbs).length:=mod_len
  refine VO.call rfl rfl (fk Tryz.func189) (λni nv rI=>(mv _ _ (X.natAbs/Y.natAbs) ni (Rd.own (tX.kp h5 nv)) ab).mono ?_)
  rintro e w6 ⟨p6,c6,xs6,rfl,h6,hx6,LQ,pw⟩
  skip
  refine dT pw ?_
  intro rJ _ AO
  refine VO.cI rfl rfl (fk Tryz.func171) (λuH xq vS=>gY (!(s1 == s2)) _ _ xs6 uH (Rd.own (OwnU.iu h6 xq)) LQ ab) (λuH xq vS w7 s7 p7 n7 c7 h7 DB CA _ bb7=>wV rfl ?_)
  refine ea ?_
  refine VO.call rfl rfl (fk Tryz.func189) (λEN ka8 ba8=>(mv _ _ (X.natAbs%Y.natAbs) EN (Rd.own (tX.kp h5' (nv.aA ((aV.of pw).aA (xq.aA ((aV.of DB).aA ka8)))))) ab).mono ?_)
  rintro e w8 ⟨p8,c8,xs8,rfl,h8,hx8,hl8,Gd⟩
  skip
  refine dT Gd ?_
  intro DC _ bb8
  refine VO.cI rfl rfl (fk Tryz.func171) (λwa9 ka9 ba9=>gY s1 _ _ xs8 wa9 (Rd.own (OwnU.iu h8 ka9)) hl8 ab) (λwa9 ka9 ba9 w9 s9 p9 n9 c9 h9 hb9 GC _ bb9=>wV rfl ?_)
  refine ea ?_
  have z7:Sz (if (!(s1 == s2))=true then-((ag xs6:Nat):Int) else ag xs6) xs6.length:=GB LQ hx6
  have z9:Sz (if s1=true then-((ag xs8:Nat):Int) else ag xs8) xs8.length:=GB hl8 hx8
  have lx6:xs6.length<=268435457:=by have:=h6.1;simp at this;omega
  have lx8:xs8.length<=268435457:=by have:=h8.1;simp at this;omega
  rw[hx6] at h7 z7
  rw[hx8] at h9 z9
  have law:=@oD X Y X.natAbs Y.natAbs
  by_cases ui:X.natAbs%Y.natAbs=0
  ·have s0:(if s1=true then-((X.natAbs%Y.natAbs:Nat):Int) else ((X.natAbs%Y.natAbs:Nat):Int))=0:=by rw[ui];cases s1 <;> rfl
   rw[s0] at h9 z9
   refine VO.cB rfl rfl (fk Tryz.func168) (λlI oQ sH=>cO _ 0 _ lI ((h9.iu oQ).in z9) ab) (λlI oQ sH w10 rj iq _ CB=>wV rfl ?_)
   (repeat (first|refine wN ?_|refine wP rfl ?_|refine yq rfl ?_|refine wO rfl rfl ?_))
   refine VS.vC (mi _ _) (jz _ _) 5 rfl ?_
   (repeat' (first|refine VA.go rfl ?_|refine VA.fin rfl ?_|refine VA.dY _ rfl rfl ?_|refine VA.cons rfl ?_ ?_|exact VA.nil rfl))
   all_goals
    refine ea ?_
    refine rh ?_;intro wz kz bz
    obtain⟨g1,g2⟩:=law e1 e2 hY0 (.inl ⟨.inr ui,rfl,rfl⟩)
    refine⟨.inr ⟨hY,_,_,rfl,aj.cast ((h7.iu (DC.aA (GC.aA (iq.aA kz)))).mono vS.size) g1.symm,aj.cast ((h9.iu (iq.aA kz)).mono ba9.size) ?_⟩,bz⟩
    rw[g2,ui]
    cases s2 <;> rfl
  ·have sy:=GA (s:=s2) hY0
   rw[<-e2] at sy
   have sr:=GA (s:=s1) ui
   rcases hs12:(s1,s2) with ⟨_|_,_|_⟩ <;> cases hs12
   ·replace sr:(if false=true then-((X.natAbs%Y.natAbs:Nat):Int) else ((X.natAbs%Y.natAbs:Nat):Int)).sign=1:=sr
    replace sy:Y.sign=1:=sy
    refine VO.call rfl rfl (fk Tryz.func168) (λlI oQ sH=>(cO _ _ _ lI ((h9.iu oQ).in z9) ab).mono ?_)
    rintro e w10 ⟨rfl,rj⟩
    rw[sr]
    refine dT rj ?_
    intro iq _ CB
    refine VO.call rfl rfl (fk Tryz.func168) (λjZ oc rk=>(cO _ _ _ jZ ((h9.iu (iq.aA oc)).in z9) ab).mono ?_)
    rintro e w11 ⟨rfl,tY⟩
    rw[sr]
    refine dT tY ?_
    intro kc _ CC
    refine VO.call rfl rfl (fk Tryz.func168) (λmw qk vT=>(cO _ Y k mw ((h2.iu (dR.aA (ir.aA (lG.aA (rJ.aA (CA.aA (DC.aA (GC.aA (iq.aA (kc.aA qk)))))))))).to nd) ab).mono ?_)
    rintro e w12 ⟨rfl,sI⟩
    rw[sy]
    refine⟨_,rfl,sI,λod _ EO=>wV rfl ?_⟩
    (repeat (first|refine wN ?_|refine wP rfl ?_|refine yq rfl ?_|refine wO rfl rfl ?_))
    refine VS.vC (mi _ _) (jz _ _) 5 rfl ?_
    (repeat' (first|refine VA.go rfl ?_|refine VA.fin rfl ?_|refine VA.dY _ rfl rfl ?_|refine VA.cons rfl ?_ ?_|exact VA.nil rfl))
    all_goals
     refine ea ?_
     refine rh ?_;intro wz kz bz
     obtain⟨g1,g2⟩:=law e1 e2 hY0 (.inl ⟨.inl rfl,rfl,rfl⟩)
     exact⟨.inr ⟨hY,_,_,rfl,aj.cast ((h7.iu (DC.aA (GC.aA (iq.aA (kc.aA (od.aA kz)))))).mono vS.size) g1.symm,aj.cast ((h9.iu (iq.aA (kc.aA (od.aA kz)))).mono ba9.size) g2.symm⟩,bz⟩
   ·replace sr:(if false=true then-((X.natAbs%Y.natAbs:Nat):Int) else ((X.natAbs%Y.natAbs:Nat):Int)).sign=1:=sr
    replace sy:Y.sign= -1:=sy
    refine VO.call rfl rfl (fk Tryz.func168) (λlI oQ sH=>(cO _ _ _ lI ((h9.iu oQ).in z9) ab).mono ?_)
    rintro e w10 ⟨rfl,rj⟩
    rw[sr]
    refine dT rj ?_
    intro iq _ CB
    refine VO.call rfl rfl (fk Tryz.func168) (λjZ oc rk=>(cO _ _ _ jZ ((h9.iu (iq.aA oc)).in z9) ab).mono ?_)
    rintro e w11 ⟨rfl,tY⟩
    rw[sr]
    refine dT tY ?_
    intro kc _ CC
    refine VO.call rfl rfl (fk Tryz.func168) (λmw qk vT=>(cO _ Y k mw ((h2.iu (dR.aA (ir.aA (lG.aA (rJ.aA (CA.aA (DC.aA (GC.aA (iq.aA (kc.aA qk)))))))))).to nd) ab).mono ?_)
    rintro e w12 ⟨rfl,sI⟩
    rw[sy]
    refine dT sI ?_
    intro od _ EO
    refine VO.cI rfl rfl (fk Tryz.func136) (λvU EP CD=>gZ 1 vU ab ab) (λvU EP CD Al s13 p13 n13 c13 h13 hb13 Am _ bb13=>wV rfl ?_)
    refine ea ?_
    refine VO.cI rfl rfl (fk Tryz.func205) (λvV vW Ao=>Ct _ _ _ 1 _ 1 vV (((h7.iu (DC.aA (GC.aA (iq.aA (kc.aA (od.aA (Am.aA vW))))))).in z7)) ((h13.iu vW).in (Sz.small fc)) ab ab) (λvV vW Ao w14 s14 p14 n14 c14 h14 hb14 ER _ bb14=>wV rfl ?_)
    refine ea ?_
    refine VO.cI rfl rfl (fk Tryz.func159) (λvX vY xH=>rb _ _ _ Y _ k vX ((h9.iu (iq.aA (kc.aA (od.aA (Am.aA (ER.aA vY)))))).in z9) ((h2.iu (dR.aA (ir.aA (lG.aA (rJ.aA (CA.aA (DC.aA (GC.aA (iq.aA (kc.aA (od.aA (Am.aA (ER.aA vY))))))))))))).to nd) ab ab) (λvX vY xH w15 s15 p15 n15 c15 h15 hb15 LR _ bb15=>wV rfl ?_)
    (repeat (first|refine wN ?_|refine wP rfl ?_|refine yq rfl ?_|refine wO rfl rfl ?_))
    refine VS.vC (mi _ _) (jz _ _) 5 rfl ?_
    (repeat' (first|refine VA.go rfl ?_|refine VA.fin rfl ?_|refine VA.dY _ rfl rfl ?_|refine VA.cons rfl ?_ ?_|exact VA.nil rfl))
    all_goals
     refine ea ?_
     refine rh ?_;intro wz kz bz
     have hlt:=Nat.mod_lt X.natAbs (show 0<Y.natAbs by omega)
     obtain⟨g1,g2⟩:=law e1 e2 hY0 (.inr ⟨by simp,ui,rfl,rfl⟩)
     refine⟨.inr ⟨hY,_,_,rfl,aj.cast ((h14.iu (LR.aA kz)).mono Ao.size) ?_,aj.cast ((h15.iu kz).mono xH.size) ?_⟩,bz⟩
     ·rw[g1];simp;omega
     ·rw[g2];simp at e1 e2 ⊢;omega
   ·replace sr:(if true=true then-((X.natAbs%Y.natAbs:Nat):Int) else ((X.natAbs%Y.natAbs:Nat):Int)).sign= -1:=sr
    replace sy:Y.sign=1:=sy
    refine VO.call rfl rfl (fk Tryz.func168) (λlI oQ sH=>(cO _ _ _ lI ((h9.iu oQ).in z9) ab).mono ?_)
    rintro e w10 ⟨rfl,rj⟩
    rw[sr]
    refine dT rj ?_
    intro iq _ CB
    refine VO.call rfl rfl (fk Tryz.func168) (λjZ oc rk=>(cO _ _ _ jZ ((h9.iu (iq.aA oc)).in z9) ab).mono ?_)
    rintro e w11 ⟨rfl,tY⟩
    rw[sr]
    refine dT tY ?_
    intro kc _ CC
    refine VO.call rfl rfl (fk Tryz.func168) (λmw qk vT=>(cO _ Y k mw ((h2.iu (dR.aA (ir.aA (lG.aA (rJ.aA (CA.aA (DC.aA (GC.aA (iq.aA (kc.aA qk)))))))))).to nd) ab).mono ?_)
    rintro e w12 ⟨rfl,sI⟩
    rw[sy]
    refine dT sI ?_
    intro od _ EO
    refine VO.cI rfl rfl (fk Tryz.func136) (λvU EP CD=>gZ 1 vU ab ab) (λvU EP CD Al s13 p13 n13 c13 h13 hb13 Am _ bb13=>wV rfl ?_)
    refine ea ?_
    refine VO.cI rfl rfl (fk Tryz.func205) (λvV vW Ao=>Ct _ _ _ 1 _ 1 vV (((h7.iu (DC.aA (GC.aA (iq.aA (kc.aA (od.aA (Am.aA vW))))))).in z7)) ((h13.iu vW).in (Sz.small fc)) ab ab) (λvV vW Ao w14 s14 p14 n14 c14 h14 hb14 ER _ bb14=>wV rfl ?_)
    refine ea ?_
    refine VO.cI rfl rfl (fk Tryz.func159) (λvX vY xH=>rb _ _ _ Y _ k vX ((h9.iu (iq.aA (kc.aA (od.aA (Am.aA (ER.aA vY)))))).in z9) ((h2.iu (dR.aA (ir.aA (lG.aA (rJ.aA (CA.aA (DC.aA (GC.aA (iq.aA (kc.aA (od.aA (Am.aA (ER.aA vY))))))))))))).to nd) ab ab) (λvX vY xH w15 s15 p15 n15 c15 h15 hb15 LR _ bb15=>wV rfl ?_)
    (repeat (first|refine wN ?_|refine wP rfl ?_|refine yq rfl ?_|refine wO rfl rfl ?_))
    refine VS.vC (mi _ _) (jz _ _) 5 rfl ?_
    (repeat' (first|refine VA.go rfl ?_|refine VA.fin rfl ?_|refine VA.dY _ rfl rfl ?_|refine VA.cons rfl ?_ ?_|exact VA.nil rfl))
    all_goals
     refine ea ?_
     refine rh ?_;intro wz kz bz
     have hlt:=Nat.mod_lt X.natAbs (show 0<Y.natAbs by omega)
     obtain⟨g1,g2⟩:=law e1 e2 hY0 (.inr ⟨by simp,ui,rfl,rfl⟩)
     refine⟨.inr ⟨hY,_,_,rfl,aj.cast ((h14.iu (LR.aA kz)).mono Ao.size) ?_,aj.cast ((h15.iu kz).mono xH.size) ?_⟩,bz⟩
     ·rw[g1];simp;omega
     ·rw[g2];simp at e1 e2 ⊢;omega
   ·replace sr:(if true=true then-((X.natAbs%Y.natAbs:Nat):Int) else ((X.natAbs%Y.natAbs:Nat):Int)).sign= -1:=sr
    replace sy:Y.sign= -1:=sy
    refine VO.call rfl rfl (fk Tryz.func168) (λlI oQ sH=>(cO _ _ _ lI ((h9.iu oQ).in z9) ab).mono ?_)
    rintro e w10 ⟨rfl,rj⟩
    rw[sr]
    refine dT rj ?_
    intro iq _ CB
    refine VO.call rfl rfl (fk Tryz.func168) (λjZ oc rk=>(cO _ _ _ jZ ((h9.iu (iq.aA oc)).in z9) ab).mono ?_)
    rintro e w11 ⟨rfl,tY⟩
    rw[sr]
    refine dT tY ?_
    intro kc _ CC
    refine VO.call rfl rfl (fk Tryz.func168) (λmw qk vT=>(cO _ Y k mw ((h2.iu (dR.aA (ir.aA (lG.aA (rJ.aA (CA.aA (DC.aA (GC.aA (iq.aA (kc.aA qk)))))))))).to nd) ab).mono ?_)
    rintro e w12 ⟨rfl,sI⟩
    rw[sy]
    refine⟨_,rfl,sI,λod _ EO=>wV rfl ?_⟩
    (repeat (first|refine wN ?_|refine wP rfl ?_|refine yq rfl ?_|refine wO rfl rfl ?_))
    refine VS.vC (mi _ _) (jz _ _) 5 rfl ?_
    (repeat' (first|refine VA.go rfl ?_|refine VA.fin rfl ?_|refine VA.dY _ rfl rfl ?_|refine VA.cons rfl ?_ ?_|exact VA.nil rfl))
    all_goals
     refine ea ?_
     refine rh ?_;intro wz kz bz
     obtain⟨g1,g2⟩:=law e1 e2 hY0 (.inl ⟨.inl rfl,rfl,rfl⟩)
     exact⟨.inr ⟨hY,_,_,rfl,aj.cast ((h7.iu (DC.aA (GC.aA (iq.aA (kc.aA (od.aA kz)))))).mono vS.size) g1.symm,aj.cast ((h9.iu (iq.aA (kc.aA (od.aA kz)))).mono ba9.size) g2.symm⟩,bz⟩
set_option maxRecDepth 4000
theorem gcd_len {a b N:Nat} (hb:b≠0) (ha:(halves a).length<=N) (hbl:(halves b).length<=N):(halves (a%b)).length<=N:=Nat.le_trans (dh ab (Nat.le_of_lt (Nat.mod_lt a (Nat.pos_of_ne_zero hb)))) hbl
theorem fR {P:Prop} (h:P:=by (repeat first|exact trivial|refine⟨ai.lit rfl,?_⟩|refine⟨ai.vals _,?_⟩)):P:=h
theorem vZ (v u:Value) (X Y:Int) (j k:Nat) (w:World) (hv:bt w v X j) (hu:bt w u Y k) (hj:j<=268435456) (hk:k<=268435456):
  Calls Tryz.prog 169 #[v,u] w λe w'=>∃ r,e=.returned r/\aj w' w.heap.size r (Int.gcd X Y:Int)/\aw w w':=by
 obtain⟨s,p,n,c,rfl⟩:=hv.form
 obtain⟨t,q,m,d,rfl⟩:=hu.form
 have qq:=hv.len
 have nd:=hu.len
 have l1:=fu X.natAbs
 have l2:=fu Y.natAbs
 refine ae (C:=Ez Tryz.prog w _) (args:=[_,_]) Tryz.func169 rfl Tryz.ntmps169 (bl rfl) ?_
 refine ea ?_
 refine VO.call rfl rfl (fk Tryz.func186) (λaC aY aH=>(iQ _ X j aC (hv.iu aY)).mono ?_)
 rintro e w1 ⟨r1,rfl,h1,aD⟩
 obtain⟨s1,p1,n1,c1,rfl⟩:=h1.fh
 refine dT aD ?_
 intro bQ _ bb1
 refine VO.call rfl rfl (fk Tryz.func191) (λcu cM cX=>(gu _ n1 X.natAbs cu (h1.row.iu cM) (by rw[h1.n];omega)).mono ?_)
 rintro e w3 ⟨p3,c3,rfl,h3,ck⟩
 skip
 refine dT ck ?_
 intro dR _ bb3
 refine VO.call rfl rfl (fk Tryz.func186) (λaN bD bf=>(iQ _ Y k aN (hu.iu (bQ.aA (dR.aA bD)))).mono ?_)
 rintro e w2 ⟨r2,rfl,h2,aQ⟩
 obtain⟨s2,p2,n2,c2,rfl⟩:=h2.fh
 refine dT aQ ?_
 intro cL _ bb2
 refine VO.call rfl rfl (fk Tryz.func191) (λdJ eu eO=>(gu _ n2 Y.natAbs dJ (h2.row.iu eu) (by rw[h2.n];omega)).mono ?_)
 rintro e w4 ⟨p4,c4,rfl,h4,fe⟩
 skip
 refine dT fe ?_
 intro ir _ nu
 refine VS.loop (J:=λms L M w'=>∃ (a b:Nat) (px:Option Addr) (cx:Nat) (py:Option Addr) (cy:Nat),ms=b/\Nat.gcd a b=Int.gcd X Y/\L=[(4,.box 4 0),(5,.val (.slice px (halves a).length cx)),(6,.val (.slice py (halves b).length cy))]/\M=[(4,(53,([.bool false,.slice none 0 0]:List Value).map .val))]/\
  (halves a).length<=536870912/\(halves b).length<=536870912/\w'.ownsRow w.heap.size 3 1 (.slice px (halves a).length cx) (halves a).length (ints .i64 (halves a))/\w'.ownsRow w.heap.size 3 1 (.slice py (halves b).length cy) (halves b).length (ints .i64 (halves b))) Y.natAbs
  ⟨_,_,?_,?_,?_,?_,⟨X.natAbs,Y.natAbs,p3,c3,p4,c4,rfl,rfl,rfl,rfl,by omega,by omega,tX.kp (Own.mono h3 cX.size) (cL.aA ir),Own.mono h4 eO.size⟩⟩ ?_
 ·exact cW
 ·exact cW
 ·rfl
 ·exact fR
 rintro ms L M w' ⟨a,b,px,cx,py,cy,hms,hg,rfl,rfl,la,lb,oa,ob⟩
 refine ea ?_
 by_cases mX:b=0
 ·subst mX
  have hl0:(halves 0).length=0:=by rw[ky];rfl
  refine VS.aK rfl (decide_eq_false (by rw[hl0];omega)) ?_
  refine ea ?_
  refine VO.call rfl rfl (fk Tryz.func189) (λni nv rI=>(mv _ _ a ni (Rd.own (tX.kp oa nv)) ab).mono ?_)
  rintro e w6 ⟨p6,c6,xs6,rfl,h6,hx6,LQ,pw⟩
  skip
  refine dT pw ?_
  intro rJ _ AO
  refine VO.cI rfl rfl (fk Tryz.func171) (λuH xq vS=>gY false _ _ xs6 uH (Rd.own (OwnU.iu h6 xq)) LQ ab) (λuH xq vS w7 s7 p7 n7 c7 h7 DB CA _ bb7=>wV rfl ?_)
  refine ea ?_
  refine rh ?_;intro wz kz bz
  refine⟨_,rfl,aj.cast ((h7.iu kz).mono vS.size) ?_,bz⟩
  rw[hx6,<-hg,Nat.gcd_zero_right];rfl
 ·have hlp:0<(halves b).length:=mV ab mX
  refine VS.aJ rfl (decide_eq_true ab) ?_
  refine ea ?_
  refine VO.call rfl rfl (fk Tryz.func204) (λfI fY im=>(vR _ _ _ _ a b fI (Rd.own (tX.kp oa fY)) (Rd.own (tX.kp ob fY)) ab ab ab).mono ?_)
  rintro e w5 ⟨p5,c5,q5,d5,rfl,h5,h5',il⟩
  skip
  refine dT il ?_
  intro lG _ tW
  refine VS.back (a%b) (by rw[hms];exact Nat.mod_lt _ ab) ⟨_,_,?_,?_,?_,?_,⟨b,a%b,py,cy,q5,d5,rfl,by rw[<-hg,Nat.gcd_comm a b,Nat.gcd_comm b (a%b)];exact (Nat.gcd_rec b a).symm,rfl,rfl,lb,gcd_len mX la lb,tX.kp ob lG,Own.mono h5' im.size⟩⟩
  ·exact cW
  ·exact cW
  ·rfl
  ·exact fR
end
set_option maxRecDepth 4000
section
open Go.RowKit
attribute [local irreducible] ao VS
theorem my (w:World):Calls Tryz.prog 41 #[] w λe w'=>∃ r,e=.returned r/\aj w' w.heap.size r 1/\aw w w':=by
 refine ae (C:=aM Tryz.prog w _) (args:=[]) Tryz.func41 rfl Tryz.ntmps41 (bl rfl) ?_
 refine aa ?_
 refine VO.cI rfl rfl (fk Tryz.func40) (λaC aY aH=>mj 1 aC ab ab) (λaC aY aH w1 s1 p1 n1 c1 h1 aD bQ _ bb1=>wV rfl ?_)
 refine aa ?_
 refine au ?_;intro wz kz bz
 exact⟨_,rfl,(h1.kp kz).mono aH.size,bz⟩
def nj (s:Bool) (xs:List Nat) (t:Bool) (ys:List Nat):Bool:=df s xs && (df t ys && (decide (0<numOf t ys) && decide (Int.gcd (numOf s xs) (numOf t ys)=1)))
theorem oe {s t:Bool} {xs ys:List Nat} (h:nj s xs t ys=false):rq s xs t ys=0:=by
 unfold rq EH
 split
 ·rename_i hc
  cases h1:df s xs with
  | false=>unfold numOf;rw[if_neg (by simp[h1])];simp
  | true=>
    cases h2:df t ys with
    | false=>
      have:numOf t ys=0:=by unfold numOf;rw[if_neg (by simp[h2])]
      omega
    | true=>
      unfold nj at h
      rw[h1,h2,decide_eq_true hc.1,decide_eq_true hc.2] at h
      cases h
 ·rfl
theorem GD {s t:Bool} {xs ys:List Nat} (h:nj s xs t ys=true):df s xs=true/\df t ys=true/\0<numOf t ys/\Int.gcd (numOf s xs) (numOf t ys)=1:=by
 unfold nj at h
 simp only[Bool.and_eq_true,decide_eq_true_eq] at h
 exact h
theorem eQ.lim {w:World} {v:Value} {s:Bool} {xs:List Nat} (h:eQ w v s xs):cw xs:=by
 obtain⟨_,_,_,_,l⟩:=h
 exact l
theorem lJ {w:World} {v:Value} {s t:Bool} {xs ys:List Nat} (hv:cJ w v s xs t ys) (h:nj s xs t ys=true):aG w v (rq s xs t ys):=by
 obtain⟨h1,h2,h3,h4⟩:=GD h
 obtain⟨p,c,r,d,rfl,a1,a2⟩:=hv
 obtain⟨e1,e2⟩:=mn ⟨h3,h4⟩
 refine⟨s,p,_,c,t,r,_,d,rfl,?_,?_⟩
 ·unfold rq;rw[e1]
  have l:=a1.lim
  unfold numOf
  rw[if_pos h1]
  obtain⟨c1,c2⟩:=canon l h1
  show eQ _ _ _ _
  rw[<-c1,<-c2]
  assumption
 ·unfold rq;rw[e2]
  have l:=a2.lim
  unfold numOf
  rw[if_pos h2]
  obtain⟨c1,c2⟩:=canon l h2
  show eQ _ _ _ _
  rw[<-c1,<-c2]
  assumption
theorem eQ.in {w:World} {v:Value} {s:Bool} {xs:List Nat} {k:Nat} (h:eQ w v s xs) (hk:xs.length<=k):bt w v (numOf s xs) k:=⟨s,xs,h,rfl,hk⟩
theorem jq (s t:Bool) (xs ys:List Nat) (v:Value) (w:World) (h:cJ w v s xs t ys) (hx:xs.length<=536870912) (hy:ys.length<=536870912):
  Calls Tryz.prog 97 #[v] w λe w'=>e=.returned (.bool (nj s xs t ys))/\aw w w':=by
 obtain⟨p,c,r,d,rfl,h1,h2⟩:=h
 refine ae (C:=aM Tryz.prog w _) (args:=[_]) Tryz.func97 rfl Tryz.ntmps97 (bl rfl) ?_
 refine aa ?_
 refine VO.call rfl rfl (fk Tryz.func150) (λaC aY aH=>(qg s xs _ aC (h1.bq aH)).mono ?_)
 rintro e w1 ⟨rfl,aD⟩
 cases q1:df s xs
 ·refine aF aD ?_
  intro bQ _ bb1
  refine au ?_;intro wz kz bz
  exact⟨by simp[nj,q1,jg],bz⟩
 refine aF aD ?_
 intro bQ _ bb1
 refine VO.call rfl rfl (fk Tryz.func150) (λaN bD bf=>(qg t ys _ aN (h2.bq bf)).mono ?_)
 rintro e w2 ⟨rfl,aQ⟩
 cases q2:df t ys
 ·refine aF aQ ?_
  intro cL _ bb2
  refine au ?_;intro wz kz bz
  exact⟨by simp[nj,q1,q2,jg],bz⟩
 refine aF aQ ?_
 intro cL _ bb2
 refine VO.call rfl rfl (fk Tryz.func112) (λcu cM cX=>(jA _ (numOf t ys) _ cu ((h2.in (Nat.le_refl _)).bq cX)).mono ?_)
 rintro e w3 ⟨rfl,ck⟩
 by_cases q3:0<numOf t ys
 ·rw[dy q3]
  refine aF ck ?_
  intro dR _ bb3
  refine VO.cI rfl rfl (fk Tryz.func146) (λdJ eu eO=>Cm _ _ (numOf s xs) (numOf t ys) _ _ dJ ((h1.in (Nat.le_refl _)).bq eO) ((h2.in (Nat.le_refl _)).bq eO) hx hy) (λdJ eu eO w4 s4 p4 n4 c4 h4 fe ir _ nu=>wV rfl ?_)
  refine aa ?_
  refine VO.cI rfl rfl (fk Tryz.func41) (λfI fY im=>my fI) (λfI fY im w5 s5 p5 n5 c5 h5 il lG _ tW=>wV rfl ?_)
  refine aa ?_
  have hg:Sz (Int.gcd (numOf s xs) (numOf t ys):Int) ys.length:=by
   obtain⟨_,_,_,_,l2⟩:=h2
   refine Sz.le (Y:=numOf t ys) (qZ l2 (Nat.le_refl _)) ?_
   rw[Int.natAbs_natCast,<-Int.natAbs_natCast (Int.gcd (numOf s xs) (numOf t ys))]
   have:=Int.gcd_dvd_right (numOf s xs) (numOf t ys)
   have:=Int.natAbs_dvd_natAbs.2 this
   exact Nat.le_of_dvd ab this
  refine VO.call rfl rfl (fk Tryz.func51) (λni nv rI=>(lF _ _ (Int.gcd (numOf s xs) (numOf t ys):Int) 1 _ 1 ni ((h4.kp (fY.aA ((Kp.of il).aA nv))).in hg) ((h5.kp nv).in (Sz.small fc)) ab ab).mono ?_)
  rintro e w6 ⟨rfl,pw⟩
  by_cases q4:Int.gcd (numOf s xs) (numOf t ys)=1
  ·rw[show ((Int.gcd (numOf s xs) (numOf t ys):Int)-1).sign=0 by rw[q4];rfl]
   refine aF pw ?_
   intro rJ _ AO
   refine au ?_;intro wz kz bz
   exact⟨by simp[nj,q1,q2,q3,q4,jg],bz⟩
  ·have hne:(((Int.gcd (numOf s xs) (numOf t ys):Int)-1).sign == 0)=false:=by
    rw[beq_eq_false_iff_ne]
    intro e
    have:=Int.sign_eq_zero_iff_zero.1 e
    omega
   refine aF pw ?_
   intro rJ _ AO
   refine au ?_;intro wz kz bz
   exact⟨by simp only[nj,q1,q2,q3,q4,jg,Bool.true_and,decide_true,decide_false,hne],bz⟩
 ·have q4:(numOf t ys).sign=0\/(numOf t ys).sign= -1:=by
   rcases Int.lt_trichotomy (numOf t ys) 0 with e|e|e
   ·exact .inr (sign_neg e)
   ·rw[e];exact .inl rfl
   ·exact absurd e q3
  rcases q4 with q4|q4
  all_goals
   rw[q4]
   refine aF ck ?_
   intro dR _ bb3
   refine au ?_;intro wz kz bz
   exact⟨by simp[nj,q1,q2,q3,jg],bz⟩
theorem aG.zero {w:World} {p:Option Addr} {n c:Nat} {s:Bool} (h:bH w (.agg #[.bool s,.slice p n c]) 1):aG w (.agg #[.bool false,.slice none 0 0,.bool s,.slice p n c]) 0:=⟨_,_,_,_,_,_,_,_,rfl,bH.zero _,h⟩
theorem aE.zero {w:World} {B:Nat} {p:Option Addr} {n c:Nat} {s:Bool} (h:aj w B (.agg #[.bool s,.slice p n c]) 1):aE w B (.agg #[.bool false,.slice none 0 0,.bool s,.slice p n c]) 0:=⟨_,_,_,_,_,_,_,_,rfl,aj.zero _ _,h⟩
theorem cz (v:Value) (q:Rat) (k:Nat) (w:World) (h:ax w v q k) (hk:k<=536870912):
  Calls Tryz.prog 45 #[v] w λe w'=>∃ r,e=.returned r/\aG w' r q/\aw w w':=by
 obtain⟨s,xs,t,ys,dZ,rfl,hx,hy⟩:=h
 have og:=dZ
 obtain⟨p,c,r,d,rfl,_,_⟩:=dZ
 refine ae (C:=aM Tryz.prog w _) (args:=[_]) Tryz.func45 rfl Tryz.ntmps45 (bl rfl) ?_
 refine aa ?_
 refine VO.call rfl rfl (fk Tryz.func97) (λaC aY aH=>(jq s t xs ys _ aC (og.kp aY) ab ab).mono ?_)
 rintro e w1 ⟨rfl,aD⟩
 cases hq:nj s xs t ys
 ·refine aF aD ?_
  intro bQ _ bb1
  refine VO.cI rfl rfl (fk Tryz.func41) (λaN bD bf=>my aN) (λaN bD bf w2 s2 p2 n2 c2 h2 aQ cL _ bb2=>wV rfl ?_)
  refine aa ?_
  refine au ?_;intro wz kz bz
  exact⟨_,rfl,by rw[oe hq];exact aG.zero (h2.kp kz).rd,bz⟩
 ·refine aF aD ?_
  intro bQ _ bb1
  refine au ?_;intro wz kz bz
  exact⟨_,rfl,(lJ og hq).kp (bQ.aA kz),bz⟩
theorem Ap {X Y:Int} {k:Nat} (hY:Sz Y k) (h:Y≠0):Sz (Int.gcd X Y:Int) k:=by
 refine Sz.le (Y:=Y) hY ?_
 rw[Int.natAbs_natCast,<-Int.natAbs_natCast (Int.gcd X Y)]
 exact Nat.le_of_dvd ab (Int.natAbs_dvd_natAbs.2 (Int.gcd_dvd_right X Y))
theorem dM {w w':World} {X Y:Int} {e:Ending} (h:vJ w w' X Y e) (hY:Y≠0):∃ v u,e=.returned (.tuple #[v,u,.int .i64 0])/\aj w' w.heap.size v (X.fdiv Y)/\aj w' w.heap.size u (X.fmod Y):=by
 rcases h with ⟨h0,_⟩|⟨_,h⟩
 ·exact absurd h0 hY
 ·exact h
theorem kC (v u:Value) (X Y:Int) (j k:Nat) (w:World) (hv:bt w v X j) (hu:bt w u Y k) (hj:j<=268435456) (hk:k<=268435456) (hY:Y≠0):
  Calls Tryz.prog 94 #[v,u] w λe w'=>∃ r,e=.returned r/\aE w' w.heap.size r (Rat.divInt X Y)/\aw w w':=by
 obtain⟨s,p,n,c,rfl⟩:=hv.form
 obtain⟨t,r,m,d,rfl⟩:=hu.form
 refine ae (C:=aM Tryz.prog w _) (args:=[_,_]) Tryz.func94 rfl Tryz.ntmps94 (bl rfl) ?_
 refine aa ?_
 refine VO.cI rfl rfl (fk Tryz.func146) (λaC aY aH=>Cm _ _ X Y j k aC (hv.kp aY) (hu.kp aY) ab ab) (λaC aY aH w1 s1 p1 n1 c1 h1 aD bQ _ bb1=>wV rfl ?_)
 refine aa ?_
 refine VO.call rfl rfl (fk Tryz.func112) (λaN bD bf=>(jA _ Y k aN (hu.bq bf)).mono ?_)
 rintro e w2 ⟨rfl,aQ⟩
 have LS:Sz (Int.gcd X Y:Int) k:=Ap hu.len hY
 have Lw:(Int.gcd X Y:Int)≠0:=by
  intro e
  have:=(Int.gcd_eq_zero_iff.1 (show Int.gcd X Y=0 by omega)).2
  exact hY this
 rcases Int.lt_or_lt_of_ne hY with q|q
 ·rw[sign_neg q]
  obtain⟨l1,l2⟩:=low_neg (X:=X) q
  refine aF aQ ?_
  intro cL _ bb2
  refine VO.cI rfl rfl (fk Tryz.func98) (λcu cM cX=>Cl _ (Int.gcd X Y:Int) k cu ((h1.kp (cL.aA cM)).in LS) ab) (λcu cM cX w3 s3 p3 n3 c3 h3 ck dR _ bb3=>wV rfl ?_)
  refine aa ?_
  refine VO.call rfl rfl (fk Tryz.func147) (λdJ eu eO=>(jc _ _ X (-(Int.gcd X Y:Int)) j k dJ (hv.bq eO) ((h3.kp eu).in LS.neg) ab ab).mono ?_)
  rintro e w4 ⟨hd4,fe⟩
  obtain⟨v4,u4,rfl,h4,h4'⟩:=dM hd4 ab
  obtain⟨s4,p4,n4,c4,rfl⟩:=h4.form
  obtain⟨t4,r4,m4,d4,rfl⟩:=h4'.form
  refine aF fe ?_
  intro ir _ nu
  refine VO.call rfl rfl (fk Tryz.func147) (λfI fY im=>(jc _ _ Y (-(Int.gcd X Y:Int)) k k fI (hu.bq im) ((h3.kp (ir.aA fY)).in LS.neg) ab ab).mono ?_)
  rintro e w5 ⟨hd5,il⟩
  obtain⟨v5,u5,rfl,h5,h5'⟩:=dM hd5 ab
  obtain⟨s5,p5,n5,c5,rfl⟩:=h5.form
  obtain⟨t5,r5,m5,d5,rfl⟩:=h5'.form
  refine aF il ?_
  intro lG _ tW
  refine au ?_;intro wz kz bz
  exact⟨_,rfl,⟨_,_,_,_,_,_,_,_,rfl,aj.cast ((h4.kp (lG.aA kz)).mono eO.size) l1,aj.cast ((h5.kp kz).mono im.size) l2⟩,bz⟩
 ·rw[dy q]
  obtain⟨l1,l2⟩:=uE (X:=X) q
  refine aF aQ ?_
  intro cL _ bb2
  refine VO.call rfl rfl (fk Tryz.func147) (λdJ eu eO=>(jc _ _ X (Int.gcd X Y:Int) j k dJ (hv.bq eO) ((h1.kp (cL.aA eu)).in LS) ab ab).mono ?_)
  rintro e w4 ⟨hd4,fe⟩
  obtain⟨v4,u4,rfl,h4,h4'⟩:=dM hd4 ab
  obtain⟨s4,p4,n4,c4,rfl⟩:=h4.form
  obtain⟨t4,r4,m4,d4,rfl⟩:=h4'.form
  refine aF fe ?_
  intro ir _ nu
  refine VO.call rfl rfl (fk Tryz.func147) (λfI fY im=>(jc _ _ Y (Int.gcd X Y:Int) k k fI (hu.bq im) ((h1.kp (cL.aA (ir.aA fY))).in LS) ab ab).mono ?_)
  rintro e w5 ⟨hd5,il⟩
  obtain⟨v5,u5,rfl,h5,h5'⟩:=dM hd5 ab
  obtain⟨s5,p5,n5,c5,rfl⟩:=h5.form
  obtain⟨t5,r5,m5,d5,rfl⟩:=h5'.form
  refine aF il ?_
  intro lG _ tW
  refine au ?_;intro wz kz bz
  exact⟨_,rfl,⟨_,_,_,_,_,_,_,_,rfl,aj.cast ((h4.kp (lG.aA kz)).mono eO.size) l1,aj.cast ((h5.kp kz).mono im.size) l2⟩,bz⟩
end
section
open Go.RowKit
attribute [local irreducible] ao VS
theorem uI (q r:Rat):q+r=Rat.divInt (q.num*r.den+r.num*q.den) ((q.den:Int)*r.den):=by
 rw[Rat.add_def',<-Rat.divInt_ofNat];simp
theorem add_same {q r:Rat} (h:(q.den:Int)=r.den):q+r=Rat.divInt (q.num+r.num) q.den:=by
 rw[uI,<-h]
 have hd:(q.den:Int)≠0:=by have:=q.den_nz;omega
 rw[<-Int.add_mul,Rat.divInt_mul_right hd]
theorem Aq (q r:Rat):q*r=Rat.divInt (q.num*r.num) ((q.den:Int)*r.den):=by
 rw[Rat.mul_def',<-Rat.divInt_ofNat];simp
theorem div_raw (q r:Rat):q/r=Rat.divInt (q.num*r.den) ((q.den:Int)*r.num):=by
 rw[Rat.div_def,Rat.inv_def]
 conv=>lhs;lhs;rw[<-Rat.num_divInt_den q]
 rw[Rat.divInt_mul_divInt]
theorem jD {X Y:Int} {k l:Nat} (hX:Sz X k) (hY:Sz Y l) (h:Y≠0):Sz (Rat.divInt X Y).num k/\Sz ((Rat.divInt X Y).den:Int) l:=by
 constructor
 ·refine Sz.le hX ?_
  rw[Rat.num_divInt]
  have h1:(Y.sign*X/(Y.gcd X:Int)).natAbs<=(Y.sign*X).natAbs:=Int.natAbs_ediv_le_natAbs _ _
  rw[Int.natAbs_mul] at h1
  have h2:Y.sign.natAbs=1:=by
   rcases Int.lt_or_lt_of_ne h with e|e
   ·rw[sign_neg e];rfl
   ·rw[dy e];rfl
  rw[h2,Nat.one_mul] at h1
  exact h1
 ·refine Sz.le hY ?_
  rw[Rat.den_divInt,if_neg h,Int.natAbs_natCast]
  exact Nat.div_le_self _ _
theorem bW.add {q r:Rat} {k l:Nat} (hq:bW q k) (hr:bW r l):bW (q+r) (k+l+1):=by
 rw[uI]
 have hd:(q.den:Int)*r.den≠0:=Int.mul_ne_zero (by have:=q.den_nz;omega) (by have:=r.den_nz;omega)
 obtain⟨h1,h2⟩:=jD (Sz.add (hq.1.mul hr.2) (hr.1.mul hq.2) (m:=k+l) ab ab) (hq.2.mul hr.2) hd
 exact⟨h1,h2.mono ab⟩
theorem bW.mul {q r:Rat} {k l:Nat} (hq:bW q k) (hr:bW r l):bW (q*r) (k+l):=by
 rw[Aq]
 have hd:(q.den:Int)*r.den≠0:=Int.mul_ne_zero (by have:=q.den_nz;omega) (by have:=r.den_nz;omega)
 exact jD (hq.1.mul hr.1) (hq.2.mul hr.2) hd
theorem bW.neg {q:Rat} {k:Nat} (hq:bW q k):bW (-q) k:=⟨by rw[Rat.neg_num];exact hq.1.neg,by rw[Rat.neg_den];exact hq.2⟩
theorem bW.sub {q r:Rat} {k l:Nat} (hq:bW q k) (hr:bW r l):bW (q-r) (k+l+1):=by rw[Rat.sub_eq_add_neg];exact hq.add hr.neg
def fK (q r:Rat):Int:=if q<r then-1 else if q=r then 0 else 1
theorem CE (q r:Rat):(q.num*r.den-r.num*q.den).sign=fK q r:=by
 unfold fK
 by_cases h1:q<r
 ·rw[if_pos h1];exact sign_neg (by have:=(Rat.lt_iff q r).1 h1;omega)
 ·rw[if_neg h1]
  by_cases h2:q=r
  ·subst h2;rw[if_pos rfl,Int.sub_self];rfl
  ·rw[if_neg h2]
   refine dy ?_
   have a:=mt (Rat.lt_iff q r).2 h1
   have b:=mt Rat.eq_iff_mul_eq_mul.2 h2
   omega
theorem yH (q:Rat):q.num.sign=fK q 0:=by
 have:=CE q 0
 simpa using this
theorem LU (q r:Rat):fK (q-r) 0=fK q r:=by
 unfold fK
 have h1:q-r<0↔q<r:=by grind
 have h2:q-r=0↔q=r:=by grind
 simp only[h1,h2]
def lK (Y:Int):Int:=if Y=0 then 20 else 0
theorem ES (v u:Value) (X Y:Int) (j k:Nat) (w:World) (hv:bt w v X j) (hu:bt w u Y k) (hj:j<=268435456) (hk:k<=268435456):
  Calls Tryz.prog 174 #[v,u] w λe w'=>∃ r,e=.returned (.tuple #[r,.int .i64 (lK Y)])/\aE w' w.heap.size r (Rat.divInt X Y)/\aw w w':=by
 obtain⟨s,p,n,c,rfl⟩:=hv.form
 obtain⟨t,r,m,d,rfl⟩:=hu.form
 refine ae (C:=aM Tryz.prog w _) (args:=[_,_]) Tryz.func174 rfl Tryz.ntmps174 (bl rfl) ?_
 refine aa ?_
 refine VO.call rfl rfl (fk Tryz.func112) (λaC aY aH=>(jA _ Y k aC (hu.bq aH)).mono ?_)
 rintro e w1 ⟨rfl,aD⟩
 by_cases hY:Y=0
 ·rw[show Y.sign=0 by rw[hY];rfl]
  refine aF aD ?_
  intro bQ _ bb1
  refine VO.cI rfl rfl (fk Tryz.func41) (λaN bD bf=>my aN) (λaN bD bf w2 s2 p2 n2 c2 h2 aQ cL _ bb2=>wV rfl ?_)
  refine aa ?_
  refine au ?_;intro wz kz bz
  refine⟨_,by rw[lK,if_pos hY];rfl,?_,bz⟩
  rw[hY,Rat.divInt_zero]
  exact aE.zero ((h2.kp kz).mono bf.size)
 ·have hs:(Y.sign == 0)=false:=by
   rw[beq_eq_false_iff_ne]
   exact λe=>hY (Int.sign_eq_zero_iff_zero.1 e)
  rcases Int.lt_or_lt_of_ne hY with q|q
  all_goals
   first|rw[sign_neg q]|rw[dy q]
   refine aF aD ?_
   intro bQ _ bb1
   refine VO.cR rfl rfl (fk Tryz.func94) (λaN bD bf=>kC _ _ X Y j k aN (hv.bq bf) (hu.bq bf) hj hk hY) (λaN bD bf w2 s2 p2 n2 c2 t2 r2 m2 d2 h2 aQ cL _ bb2=>wV rfl ?_)
   refine aa ?_
   refine au ?_;intro wz kz bz
   exact⟨_,by rw[lK,if_neg hY];rfl,(h2.kp kz).mono bf.size,bz⟩
theorem IQ (n d:Int) (w:World) (h0: -9223372036854775808<=n) (h1:n<=9223372036854775807) (g0: -9223372036854775808<=d) (g1:d<=9223372036854775807):
  Calls Tryz.prog 143 #[.int .i64 n,.int .i64 d] w λe w'=>∃ r,e=.returned (.tuple #[r,.int .i64 (lK d)])/\aE w' w.heap.size r (Rat.divInt n d)/\aw w w':=by
 refine ae (C:=aM Tryz.prog w _) (args:=[_,_]) Tryz.func143 rfl Tryz.ntmps143 (bl rfl) ?_
 refine aa ?_
 refine VO.cI rfl rfl (fk Tryz.func40) (λaC aY aH=>mj n aC h0 h1) (λaC aY aH w1 s1 p1 n1 c1 q1 aD bQ _ bb1=>wV rfl ?_)
 refine aa ?_
 refine VO.cI rfl rfl (fk Tryz.func40) (λaN bD bf=>mj d aN g0 g1) (λaN bD bf w2 s2 p2 n2 c2 q2 aQ cL _ bb2=>wV rfl ?_)
 refine aa ?_
 refine VO.call rfl rfl (fk Tryz.func174) (λcu cM cX=>(ES _ _ n d 2 2 cu ((q1.kp (cL.aA cM)).in (Sz.of_lt ab)) ((q2.kp cM).in (Sz.of_lt ab)) ab ab).mono ?_)
 rintro e w3 ⟨r3,rfl,q3,ck⟩
 obtain⟨s3,p3,n3,c3,t3,x3,m3,d3,rfl⟩:=q3.form
 refine aF ck ?_
 intro dR _ bb3
 refine au ?_;intro wz kz bz
 exact⟨_,rfl,(q3.kp kz).mono cX.size,bz⟩
theorem cZ (n:Int) (w:World) (h0: -9223372036854775808<=n) (h1:n<=9223372036854775807):
  Calls Tryz.prog 11 #[.int .i64 n] w λe w'=>∃ r,e=.returned r/\aE w' w.heap.size r (n:Rat)/\aw w w':=by
 refine ae (C:=aM Tryz.prog w _) (args:=[_]) Tryz.func11 rfl Tryz.ntmps11 (bl rfl) ?_
 refine aa ?_
 refine VO.cI rfl rfl (fk Tryz.func40) (λaC aY aH=>mj n aC h0 h1) (λaC aY aH w1 s1 p1 n1 c1 q1 aD bQ _ bb1=>wV rfl ?_)
 refine aa ?_
 refine VO.cI rfl rfl (fk Tryz.func41) (λaN bD bf=>my aN) (λaN bD bf w2 s2 p2 n2 c2 q2 aQ cL _ bb2=>wV rfl ?_)
 refine aa ?_
 refine au ?_;intro wz kz bz
 exact⟨_,rfl,⟨_,_,_,_,_,_,_,_,rfl,(q1.kp (cL.aA kz)).mono aH.size,(q2.kp kz).mono bf.size⟩,bz⟩
theorem lL (v u:Value) (q r:Rat) (k l:Nat) (w:World) (hv:aG w v q) (hu:aG w u r) (hq:bW q k) (hr:bW r l) (hk:k<=67108864) (hl:l<=67108864):
  Calls Tryz.prog 44 #[v,u] w λe w'=>∃ x,e=.returned x/\aE w' w.heap.size x (q+r)/\aw w w':=by
 obtain⟨s,p,n,c,t,y,m,d,rfl⟩:=hv.form
 obtain⟨s',p',n',c',t',y',m',d',rfl⟩:=hu.form
 obtain⟨v1,v2⟩:=hv.parts
 obtain⟨u1,u2⟩:=hu.parts
 have dq:(q.den:Int)≠0:=by have:=q.den_nz;omega
 have dr:(r.den:Int)≠0:=by have:=r.den_nz;omega
 refine ae (C:=aM Tryz.prog w _) (args:=[_,_]) Tryz.func44 rfl Tryz.ntmps44 (bl rfl) ?_
 refine aa ?_
 refine VO.call rfl rfl (fk Tryz.func51) (λaC aY aH=>(lF _ _ (q.den:Int) r.den k l aC ((v2.bq aH).to hq.2) ((u2.bq aH).to hr.2) ab ab).mono ?_)
 rintro e w1 ⟨rfl,aD⟩
 by_cases hd:(q.den:Int)=r.den
 ·rw[show ((q.den:Int)-r.den).sign=0 by rw[hd,Int.sub_self];rfl]
  refine aF aD ?_
  intro bQ _ bb1
  refine VO.cI rfl rfl (fk Tryz.func95) (λaN bD bf=>vI _ _ q.num r.num k l aN ((v1.bq bf).to hq.1) ((u1.bq bf).to hr.1) ab ab) (λaN bD bf w2 s2 p2 n2 c2 q2 aQ cL _ bb2=>wV rfl ?_)
  refine aa ?_
  refine VO.cR rfl rfl (fk Tryz.func94) (λcu cM cX=>kC _ _ (q.num+r.num) q.den (k+l+1) k cu ((q2.kp cM).in (Sz.add hq.1 hr.1 ab ab)) ((v2.bq cX).to hq.2) ab ab dq) (λcu cM cX w3 s3 p3 n3 c3 t3 y3 m3 d3 q3 ck dR _ bb3=>wV rfl ?_)
  refine aa ?_
  refine au ?_;intro wz kz bz
  exact⟨_,rfl,aE.cast ((q3.kp kz).mono cX.size) (add_same hd).symm,bz⟩
 ·have hs:((((q.den:Int)-r.den).sign == 0))=false:=by
   rw[beq_eq_false_iff_ne]
   intro e
   have:=Int.sign_eq_zero_iff_zero.1 e
   omega
  rcases Int.lt_or_lt_of_ne (show (q.den:Int)-r.den≠0 by omega) with e|e
  all_goals
   first|rw[sign_neg e]|rw[dy e]
   refine aF aD ?_
   intro bQ _ bb1
   refine VO.cI rfl rfl (fk Tryz.func96) (λaN bD bf=>jS _ _ q.num r.den k l aN ((v1.bq bf).to hq.1) ((u2.bq bf).to hr.2) ab ab) (λaN bD bf w2 s2 p2 n2 c2 q2 aQ cL _ bb2=>wV rfl ?_)
   refine aa ?_
   refine VO.cI rfl rfl (fk Tryz.func96) (λcu cM cX=>jS _ _ r.num q.den l k cu ((u1.bq cX).to hr.1) ((v2.bq cX).to hq.2) ab ab) (λcu cM cX w3 s3 p3 n3 c3 q3 ck dR _ bb3=>wV rfl ?_)
   refine aa ?_
   refine VO.cI rfl rfl (fk Tryz.func95) (λdJ eu eO=>vI _ _ (q.num*r.den) (r.num*q.den) (k+l) (l+k) dJ ((q2.kp (dR.aA eu)).in (hq.1.mul hr.2)) ((q3.kp eu).in (hr.1.mul hq.2)) ab ab) (λdJ eu eO w4 s4 p4 n4 c4 q4 fe ir _ nu=>wV rfl ?_)
   refine aa ?_
   refine VO.cI rfl rfl (fk Tryz.func96) (λfI fY im=>jS _ _ q.den r.den k l fI ((v2.bq im).to hq.2) ((u2.bq im).to hr.2) ab ab) (λfI fY im w5 s5 p5 n5 c5 q5 il lG _ tW=>wV rfl ?_)
   refine aa ?_
   refine VO.cR rfl rfl (fk Tryz.func94) (λni nv rI=>kC _ _ (q.num*r.den+r.num*q.den) ((q.den:Int)*r.den) (k+l+1) (k+l) ni ((q4.kp (lG.aA nv)).in (Sz.add (hq.1.mul hr.2) (hr.1.mul hq.2) ab ab)) ((q5.kp nv).in (hq.2.mul hr.2)) ab ab (Int.mul_ne_zero dq dr)) (λni nv rI w6 s6 p6 n6 c6 t6 y6 m6 d6 q6 pw rJ _ AO=>wV rfl ?_)
   refine aa ?_
   refine au ?_;intro wz kz bz
   exact⟨_,rfl,aE.cast ((q6.kp kz).mono rI.size) (uI q r).symm,bz⟩
end
section
open Go.RowKit
attribute [local irreducible] ao VS
def bd (k:Nat):Nat:=max k 1
theorem ax.lM {w:World} {v:Value} {q:Rat} {k:Nat} (h:ax w v q k):bW q (bd k):=by
 obtain⟨s,xs,t,ys,h1,h2,h3,h4⟩:=h
 exact ax.sz (k:=bd k) ⟨s,xs,t,ys,h1,h2,by unfold bd;omega,by unfold bd;omega⟩ (by unfold bd;omega)
theorem fv (v u:Value) (q r:Rat) (k l:Nat) (w:World) (hv:ax w v q k) (hu:ax w u r l) (hk:k<=67108864) (hl:l<=67108864):
  Calls Tryz.prog 13 #[v,u] w λe w'=>∃ x,e=.returned x/\aE w' w.heap.size x (q+r)/\aw w w':=by
 obtain⟨s,p,n,c,t,y,m,d,rfl⟩:=hv.form
 obtain⟨s',p',n',c',t',y',m',d',rfl⟩:=hu.form
 refine ae (C:=aM Tryz.prog w _) (args:=[_,_]) Tryz.func13 rfl Tryz.ntmps13 (bl rfl) ?_
 refine aa ?_
 refine VO.cR rfl rfl (fk Tryz.func45) (λaC aY aH=>cz _ q k aC (hv.kp aY) ab) (λaC aY aH w1 s1 p1 n1 c1 t1 y1 m1 d1 q1 aD bQ _ bb1=>wV rfl ?_)
 refine aa ?_
 refine VO.cR rfl rfl (fk Tryz.func45) (λaN bD bf=>cz _ r l aN (hu.kp (bQ.aA bD)) ab) (λaN bD bf w2 s2 p2 n2 c2 t2 y2 m2 d2 q2 aQ cL _ bb2=>wV rfl ?_)
 refine aa ?_
 refine VO.cR rfl rfl (fk Tryz.func44) (λcu cM cX=>lL _ _ q r _ _ cu (q1.kp (cL.aA cM)) (q2.kp cM) hv.lM hu.lM (by unfold bd;omega) (by unfold bd;omega)) (λcu cM cX w3 s3 p3 n3 c3 t3 y3 m3 d3 q3 ck dR _ bb3=>wV rfl ?_)
 refine aa ?_
 refine au ?_;intro wz kz bz
 exact⟨_,rfl,(q3.kp kz).mono cX.size,bz⟩
theorem eP (v:Value) (q:Rat) (k:Nat) (w:World) (hv:ax w v q k) (hk:k<=536870912):
  Calls Tryz.prog 46 #[v] w λe w'=>∃ x,e=.returned x/\aE w' w.heap.size x (-q)/\aw w w':=by
 obtain⟨s,p,n,c,t,y,m,d,rfl⟩:=hv.form
 refine ae (C:=aM Tryz.prog w _) (args:=[_]) Tryz.func46 rfl Tryz.ntmps46 (bl rfl) ?_
 refine aa ?_
 refine VO.cR rfl rfl (fk Tryz.func45) (λaC aY aH=>cz _ q k aC (hv.kp aY) hk) (λaC aY aH w1 s1 p1 n1 c1 t1 y1 m1 d1 q1 aD bQ _ bb1=>wV rfl ?_)
 refine aa ?_
 obtain⟨a1,a2⟩:=q1.parts
 refine VO.cI rfl rfl (fk Tryz.func98) (λaN bD bf=>Cl _ q.num _ aN ((a1.kp bD).to hv.lM.1) (by unfold bd;omega)) (λaN bD bf w2 s2 p2 n2 c2 q2 aQ cL _ bb2=>wV rfl ?_)
 refine aa ?_
 refine VO.cI rfl rfl (fk Tryz.func99) (λcu cM cX=>Lt _ q.den _ cu ((a2.kp (cL.aA cM)).to hv.lM.2) (by unfold bd;omega)) (λcu cM cX w3 s3 p3 n3 c3 q3 ck dR _ bb3=>wV rfl ?_)
 refine aa ?_
 refine au ?_;intro wz kz bz
 exact⟨_,rfl,⟨_,_,_,_,_,_,_,_,rfl,aj.cast ((q2.kp (dR.aA kz)).mono bf.size) (Rat.neg_num q).symm,aj.cast ((q3.kp kz).mono cX.size) (by rw[Rat.neg_den,Int.natAbs_natCast])⟩,bz⟩
theorem ql (v u:Value) (q r:Rat) (k l:Nat) (w:World) (hv:ax w v q k) (hu:ax w u r l) (hk:k<=67108864) (hl:l<=67108864):
  Calls Tryz.prog 14 #[v,u] w λe w'=>∃ x,e=.returned x/\aE w' w.heap.size x (q-r)/\aw w w':=by
 obtain⟨s,p,n,c,t,y,m,d,rfl⟩:=hv.form
 obtain⟨s',p',n',c',t',y',m',d',rfl⟩:=hu.form
 refine ae (C:=aM Tryz.prog w _) (args:=[_,_]) Tryz.func14 rfl Tryz.ntmps14 (bl rfl) ?_
 refine aa ?_
 refine VO.cR rfl rfl (fk Tryz.func45) (λaC aY aH=>cz _ q k aC (hv.kp aY) ab) (λaC aY aH w1 s1 p1 n1 c1 t1 y1 m1 d1 q1 aD bQ _ bb1=>wV rfl ?_)
 refine aa ?_
 refine VO.cR rfl rfl (fk Tryz.func46) (λaN bD bf=>eP _ r l aN (hu.kp (bQ.aA bD)) ab) (λaN bD bf w2 s2 p2 n2 c2 t2 y2 m2 d2 q2 aQ cL _ bb2=>wV rfl ?_)
 refine aa ?_
 refine VO.cR rfl rfl (fk Tryz.func44) (λcu cM cX=>lL _ _ q (-r) _ _ cu (q1.kp (cL.aA cM)) (q2.kp cM).rd hv.lM hu.lM.neg (by unfold bd;omega) (by unfold bd;omega)) (λcu cM cX w3 s3 p3 n3 c3 t3 y3 m3 d3 q3 ck dR _ bb3=>wV rfl ?_)
 refine aa ?_
 refine au ?_;intro wz kz bz
 exact⟨_,rfl,aE.cast ((q3.kp kz).mono cX.size) (Rat.sub_eq_add_neg q r).symm,bz⟩
theorem wh (v u:Value) (q r:Rat) (k l:Nat) (w:World) (hv:ax w v q k) (hu:ax w u r l) (hk:k<=67108864) (hl:l<=67108864):
  Calls Tryz.prog 106 #[v,u] w λe w'=>∃ x,e=.returned x/\aE w' w.heap.size x (q*r)/\aw w w':=by
 obtain⟨s,p,n,c,t,y,m,d,rfl⟩:=hv.form
 obtain⟨s',p',n',c',t',y',m',d',rfl⟩:=hu.form
 have dq:(q.den:Int)*r.den≠0:=Int.mul_ne_zero (by have:=q.den_nz;omega) (by have:=r.den_nz;omega)
 have zq:=hv.lM
 have zr:=hu.lM
 have uk:bd k<=67108864:=by unfold bd;omega
 have ul:bd l<=67108864:=by unfold bd;omega
 refine ae (C:=aM Tryz.prog w _) (args:=[_,_]) Tryz.func106 rfl Tryz.ntmps106 (bl rfl) ?_
 refine aa ?_
 refine VO.cR rfl rfl (fk Tryz.func45) (λaC aY aH=>cz _ q k aC (hv.kp aY) ab) (λaC aY aH w1 s1 p1 n1 c1 t1 y1 m1 d1 q1 aD bQ _ bb1=>wV rfl ?_)
 refine aa ?_
 refine VO.cR rfl rfl (fk Tryz.func45) (λaN bD bf=>cz _ r l aN (hu.kp (bQ.aA bD)) ab) (λaN bD bf w2 s2 p2 n2 c2 t2 y2 m2 d2 q2 aQ cL _ bb2=>wV rfl ?_)
 refine aa ?_
 obtain⟨a1,a2⟩:=q1.parts
 obtain⟨b1,b2⟩:=q2.parts
 refine VO.cI rfl rfl (fk Tryz.func96) (λcu cM cX=>jS _ _ q.num r.num _ _ cu ((a1.kp (cL.aA cM)).to zq.1) ((b1.kp cM).to zr.1) ab ab) (λcu cM cX w3 s3 p3 n3 c3 q3 ck dR _ bb3=>wV rfl ?_)
 refine aa ?_
 refine VO.cI rfl rfl (fk Tryz.func96) (λdJ eu eO=>jS _ _ q.den r.den _ _ dJ ((a2.kp (cL.aA (dR.aA eu))).to zq.2) ((b2.kp (dR.aA eu)).to zr.2) ab ab) (λdJ eu eO w4 s4 p4 n4 c4 q4 fe ir _ nu=>wV rfl ?_)
 refine aa ?_
 refine VO.cR rfl rfl (fk Tryz.func94) (λfI fY im=>kC _ _ (q.num*r.num) ((q.den:Int)*r.den) _ _ fI ((q3.kp (ir.aA fY)).in (zq.1.mul zr.1)) ((q4.kp fY).in (zq.2.mul zr.2)) ab ab dq) (λfI fY im w5 s5 p5 n5 c5 t5 y5 m5 d5 q5 il lG _ tW=>wV rfl ?_)
 refine aa ?_
 refine au ?_;intro wz kz bz
 exact⟨_,rfl,aE.cast ((q5.kp kz).mono im.size) (Aq q r).symm,bz⟩
def yI (r:Rat):Int:=if r=0 then 20 else 0
theorem IU (q r:Rat):lK ((q.den:Int)*r.num)=yI r:=by
 unfold lK yI
 have:((q.den:Int)*r.num=0)↔r=0:=by
  rw[Int.mul_eq_zero,Rat.num_eq_zero]
  have:=q.den_nz
  exact⟨λh=>h.resolve_left ab,.inr⟩
 simp only[this]
theorem CF (v:Value) (q:Rat) (k:Nat) (w:World) (hv:ax w v q k) (hk:k<=536870912):
  Calls Tryz.prog 82 #[v] w λe w'=>e=.returned (.int .i64 (fK q 0))/\aw w w':=by
 obtain⟨s,p,n,c,t,y,m,d,rfl⟩:=hv.form
 refine ae (C:=aM Tryz.prog w _) (args:=[_]) Tryz.func82 rfl Tryz.ntmps82 (bl rfl) ?_
 refine aa ?_
 refine VO.cR rfl rfl (fk Tryz.func45) (λaC aY aH=>cz _ q k aC (hv.kp aY) hk) (λaC aY aH w1 s1 p1 n1 c1 t1 y1 m1 d1 q1 aD bQ _ bb1=>wV rfl ?_)
 refine aa ?_
 refine VO.call rfl rfl (fk Tryz.func112) (λaN bD bf=>(jA _ q.num _ aN ((q1.parts.1.kp bD).to hv.lM.1)).mono ?_)
 rintro e w2 ⟨rfl,aQ⟩
 rw[yH]
 refine aF aQ ?_
 intro cL _ bb2
 refine au ?_;intro wz kz bz
 exact⟨rfl,bz⟩
theorem ET (v u:Value) (q r:Rat) (k l:Nat) (w:World) (hv:ax w v q k) (hu:ax w u r l) (hk:k<=67108864) (hl:l<=67108864):
  Calls Tryz.prog 180 #[v,u] w λe w'=>e=.returned (.int .i64 (fK q r))/\aw w w':=by
 obtain⟨s,p,n,c,t,y,m,d,rfl⟩:=hv.form
 obtain⟨s',p',n',c',t',y',m',d',rfl⟩:=hu.form
 have zq:=hv.lM
 have zr:=hu.lM
 have uk:bd k<=67108864:=by unfold bd;omega
 have ul:bd l<=67108864:=by unfold bd;omega
 refine ae (C:=aM Tryz.prog w _) (args:=[_,_]) Tryz.func180 rfl Tryz.ntmps180 (bl rfl) ?_
 refine aa ?_
 refine VO.cR rfl rfl (fk Tryz.func45) (λaC aY aH=>cz _ q k aC (hv.kp aY) ab) (λaC aY aH w1 s1 p1 n1 c1 t1 y1 m1 d1 q1 aD bQ _ bb1=>wV rfl ?_)
 refine aa ?_
 refine VO.cR rfl rfl (fk Tryz.func45) (λaN bD bf=>cz _ r l aN (hu.kp (bQ.aA bD)) ab) (λaN bD bf w2 s2 p2 n2 c2 t2 y2 m2 d2 q2 aQ cL _ bb2=>wV rfl ?_)
 refine aa ?_
 obtain⟨a1,a2⟩:=q1.parts
 obtain⟨b1,b2⟩:=q2.parts
 refine VO.cI rfl rfl (fk Tryz.func96) (λcu cM cX=>jS _ _ q.num r.den _ _ cu ((a1.kp (cL.aA cM)).to zq.1) ((b2.kp cM).to zr.2) ab ab) (λcu cM cX w3 s3 p3 n3 c3 q3 ck dR _ bb3=>wV rfl ?_)
 refine aa ?_
 refine VO.cI rfl rfl (fk Tryz.func96) (λdJ eu eO=>jS _ _ r.num q.den _ _ dJ ((b1.kp (dR.aA eu)).to zr.1) ((a2.kp (cL.aA (dR.aA eu))).to zq.2) ab ab) (λdJ eu eO w4 s4 p4 n4 c4 q4 fe ir _ nu=>wV rfl ?_)
 refine aa ?_
 refine VO.call rfl rfl (fk Tryz.func51) (λfI fY im=>(lF _ _ (q.num*r.den) (r.num*q.den) _ _ fI ((q3.kp (ir.aA fY)).in (zq.1.mul zr.2)) ((q4.kp fY).in (zr.1.mul zq.2)) ab ab).mono ?_)
 rintro e w5 ⟨rfl,il⟩
 rw[CE]
 refine aF il ?_
 intro lG _ tW
 refine au ?_;intro wz kz bz
 exact⟨rfl,bz⟩
theorem oh (a b:Int):(a=b/\(a-b).sign=0)\/(a≠b/\((a-b).sign=1\/(a-b).sign= -1)):=by
 rcases Int.lt_trichotomy a b with e|e|e
 ·exact .inr ⟨by omega,.inr (sign_neg ab)⟩
 ·exact .inl ⟨e,by rw[e,Int.sub_self];rfl⟩
 ·exact .inr ⟨by omega,.inl (dy ab)⟩
theorem CG (v u:Value) (q r:Rat) (k l:Nat) (w:World) (hv:ax w v q k) (hu:ax w u r l) (hk:k<=67108864) (hl:l<=67108864):
  Calls Tryz.prog 16 #[v,u] w λe w'=>e=.returned (.bool (decide (q=r)))/\aw w w':=by
 obtain⟨s,p,n,c,t,y,m,d,rfl⟩:=hv.form
 obtain⟨s',p',n',c',t',y',m',d',rfl⟩:=hu.form
 have zq:=hv.lM
 have zr:=hu.lM
 have uk:bd k<=67108864:=by unfold bd;omega
 have ul:bd l<=67108864:=by unfold bd;omega
 refine ae (C:=aM Tryz.prog w _) (args:=[_,_]) Tryz.func16 rfl Tryz.ntmps16 (bl rfl) ?_
 refine aa ?_
 refine VO.cR rfl rfl (fk Tryz.func45) (λaC aY aH=>cz _ q k aC (hv.kp aY) ab) (λaC aY aH w1 s1 p1 n1 c1 t1 y1 m1 d1 q1 aD bQ _ bb1=>wV rfl ?_)
 refine aa ?_
 refine VO.cR rfl rfl (fk Tryz.func45) (λaN bD bf=>cz _ r l aN (hu.kp (bQ.aA bD)) ab) (λaN bD bf w2 s2 p2 n2 c2 t2 y2 m2 d2 q2 aQ cL _ bb2=>wV rfl ?_)
 refine aa ?_
 obtain⟨a1,a2⟩:=q1.parts
 obtain⟨b1,b2⟩:=q2.parts
 refine VO.call rfl rfl (fk Tryz.func51) (λcu cM cX=>(lF _ _ q.num r.num _ _ cu ((a1.kp (cL.aA cM)).to zq.1) ((b1.kp cM).to zr.1) ab ab).mono ?_)
 rintro e w3 ⟨rfl,ck⟩
 rcases oh q.num r.num with ⟨hn,e⟩|⟨hn,e|e⟩
 ·rw[e]
  refine aF ck ?_
  intro dR _ bb3
  refine VO.call rfl rfl (fk Tryz.func51) (λdJ eu eO=>(lF _ _ (q.den:Int) r.den _ _ dJ ((a2.kp (cL.aA (dR.aA eu))).to zq.2) ((b2.kp (dR.aA eu)).to zr.2) ab ab).mono ?_)
  rintro e w4 ⟨rfl,fe⟩
  rcases oh (q.den:Int) r.den with ⟨hd,e⟩|⟨hd,e|e⟩
  all_goals
   rw[e]
   refine aF fe ?_
   intro ir _ nu
   refine au ?_;intro wz kz bz
  ·exact⟨by rw[decide_eq_true (Rat.ext hn ab)];rfl,bz⟩
  ·exact⟨by rw[decide_eq_false (λe=>hd (by rw[e]))];rfl,bz⟩
  ·exact⟨by rw[decide_eq_false (λe=>hd (by rw[e]))];rfl,bz⟩
 ·rw[e]
  refine aF ck ?_
  intro dR _ bb3
  refine au ?_;intro wz kz bz
  exact⟨by rw[decide_eq_false (λe=>hn (by rw[e]))];rfl,bz⟩
 ·rw[e]
  refine aF ck ?_
  intro dR _ bb3
  refine au ?_;intro wz kz bz
  exact⟨by rw[decide_eq_false (λe=>hn (by rw[e]))];rfl,bz⟩
end
section
open Go.RowKit
attribute [local irreducible] ao VS
def jU (w:World) (v:Value) (qs:List Rat) (k:Nat):Prop:=
 ∃ p c,v=.slice p qs.length c/\qs.length<=c/\c<=maxLen/\∀ i q,qs[i]? =some q->∃ b off s p' n c' t r m d,p=some ⟨b,off,none⟩/\
   (∀ j u,[Value.bool s,.slice p' n c',.bool t,.slice r m d][j]? =some u->w.cell? ⟨b,off+i*4+j,none⟩=some u)/\ax w (.agg #[.bool s,.slice p' n c',.bool t,.slice r m d]) q k
theorem jU.form {w:World} {v:Value} {qs:List Rat} {k:Nat} (h:jU w v qs k):∃ p c,v=.slice p qs.length c/\qs.length<=c/\c<=maxLen:=by
 obtain⟨p,c,hv,h1,h2,_⟩:=h
 exact⟨p,c,hv,h1,h2⟩
theorem jU.at {w:World} {p:Option Addr} {n c:Nat} {qs:List Rat} {k i:Nat} {q:Rat} (h:jU w (.slice p n c) qs k) (hq:qs[i]? =some q):∃ b off s p' n' c' t r m d,p=some ⟨b,off,none⟩/\
  (∀ j u,[Value.bool s,.slice p' n' c',.bool t,.slice r m d][j]? =some u->w.cell? ⟨b,off+i*4+j,none⟩=some u)/\ax w (.agg #[.bool s,.slice p' n' c',.bool t,.slice r m d]) q k:=by
 obtain⟨p',c',hv,h1,h2,h3⟩:=h
 cases hv
 exact h3 i q hq
theorem jU.bq {w w':World} {v:Value} {qs:List Rat} {k:Nat} (h:jU w v qs k) (hb:aw w w'):jU w' v qs k:=by
 obtain⟨p,c,hv,h1,h2,h3⟩:=h
 refine⟨p,c,hv,h1,h2,λi q hq=> ?_⟩
 obtain⟨b,off,s,p',n,c',t,r,m,d,hp,hc,hr⟩:=h3 i q hq
 exact⟨b,off,s,p',n,c',t,r,m,d,hp,λj u hj=>hb.cell (hc j u hj),hr.kp (Kp.of (U:=UU) hb)⟩
theorem aB {i:Nat} (h:i<9223372036854775807):IntKind.i64.wrap ((i:Int)+1)=((i+1:Nat):Int):=by
 rw[IntWalk.i64_in _ ab];omega
def eb (qs:List Rat):Rat:=qs.foldl (·+ ·) 0
theorem ba {α:Type} {l:List α} {i:Nat} {x:α} (h:l[i]? =some x):l.take (i+1)=l.take i++[x]:=by
 obtain⟨hi,rfl⟩:=List.getElem?_eq_some_iff.1 h
 exact List.take_succ_eq_append_getElem hi
theorem dV {qs:List Rat} {i:Nat} {q:Rat} (h:qs[i]? =some q):eb (qs.take (i+1))=eb (qs.take i)+q:=by
 rw[ba h];simp[eb,List.foldl_append]
def bo (k i:Nat):Nat:=1+i*(bd k+1)
theorem gv (k i:Nat):bo k (i+1)=bo k i+bd k+1:=by unfold bo;rw[Nat.add_mul,Nat.one_mul];omega
theorem gw {k i n:Nat} (h:i<=n):bo k i<=bo k n:=by unfold bo;have:=Nat.mul_le_mul_right (bd k+1) h;omega
theorem mz (v:Value) (qs:List Rat) (k:Nat) (w:World) (hv:jU w v qs k) (hk:bo k qs.length<=67108864):
  Calls Tryz.prog 43 #[v] w λe w'=>∃ x,e=.returned x/\aE w' w.heap.size x (eb qs)/\bW (eb qs) (bo k qs.length)/\aw w w':=by
 obtain⟨p,c,rfl,dL,eH⟩:=hv.form
 obtain⟨N,hN⟩:∃ N,N=qs.length:=⟨_,rfl⟩
 rw[<-hN] at hv hk dL ⊢
 have hNm:N<9223372036854775807:=by unfold bo at hk;have:=Nat.le_mul_of_pos_right N (show 0<bd k+1 by omega);omega
 have huk:bd k<=67108864\/N=0:=by
  rcases Nat.eq_zero_or_pos N with e|e
  ·exact .inr e
  ·left;unfold bo at hk;have:=Nat.le_mul_of_pos_left (bd k+1) e;omega
 refine ae (C:=aM Tryz.prog w _) (args:=[_]) Tryz.func43 rfl Tryz.ntmps43 (bl rfl) ?_
 refine aa ?_
 refine VO.cR rfl rfl (fk Tryz.func11) (λaC aY aH=>cZ 0 aC ab ab) (λaC aY aH w1 s1 p1 n1 c1 t1 y1 m1 d1 q1 aD bQ _ bb1=>wV rfl ?_)
 refine aa ?_
 refine VS.loop (J:=λn L M w'=>∃ i s p' n' c' t r m d,i<=N/\n=N-i/\L=[(7,.val (.slice p N c)),(8,.val (.int .i64 (N:Int))),(9,.val (.int .i64 (i:Int))),(3,.box 3 0),(2,.box 2 0)]/\
  M=[(2,(34,([.bool false,.slice none 0 0,.bool false,.slice none 0 0]:List Value).map .val)),(3,(34,([.bool s,.slice p' n' c',.bool t,.slice r m d]:List Value).map .val))]/\aE w' w.heap.size (.agg #[.bool s,.slice p' n' c',.bool t,.slice r m d]) (eb (qs.take i))/\bW (eb (qs.take i)) (bo k i)) N ⟨_,_,?_,?_,?_,?_,⟨0,s1,p1,n1,c1,t1,y1,m1,d1,by omega,by omega,rfl,rfl,(q1.mono aH.size).cast (by simp[eb]),by simp only[List.take_zero,eb,List.foldl_nil,bo,Nat.zero_mul,Nat.add_zero];exact bW.zero⟩⟩ ?_
 ·exact cW
 ·exact cW
 ·rfl
 ·exact fR
 rintro n L M w' ⟨i,s,p',n',c',t,r,m,d,hi,rfl,rfl,rfl,ho,hz⟩
 refine aa ?_
 by_cases hlt:i<N
 ·obtain⟨q,hq⟩:∃ q,qs[i]? =some q:=⟨_,List.getElem?_eq_getElem ab⟩
  obtain⟨b,off,s2,p2,n2,c2,t2,r2,m2,d2,rfl,hc,jf⟩:=hv.at hq
  refine VS.aJ rfl (decide_eq_true (Int.ofNat_lt.2 hlt)) ?_
  refine aa ?_
  refine VO.cond rfl dz (wV rfl ?_)
  refine VO.read rfl [.bool s2,.slice p2 n2 c2,.bool t2,.slice r2 m2 d2] rfl (λj u hj=>by rw[Addr.add_mid,Int.toNat_natCast];exact hc j u hj) (wV rfl ?_)
  refine aa ?_
  refine VO.call rfl rfl (fk Tryz.func45) (λaN bD bf=>(cz _ q k aN ((jf.kp (Kp.of (U:=UU) bf))) (by have:=hk;unfold bd at*;omega)).mono ?_)
  rintro e w2 ⟨r2',rfl,q2,aQ⟩
  obtain⟨s3,p3,n3,c3,t3,y3,m3,d3,rfl⟩:=q2.form
  refine aF aQ ?_
  intro cL _ bb2
  refine VO.call rfl rfl (fk Tryz.func44) (λcu cM cX=>(lL _ _ (eb (qs.take i)) q (bo k i) (bd k) cu ((ho.kp (cL.aA cM)).rd) (q2.kp cM) hz jf.lM (by have:=gw (k:=k) hi;omega) ab).mono ?_)
  rintro e w3 ⟨r3',rfl,q3,ck⟩
  obtain⟨s4,p4,n4,c4,t4,y4,m4,d4,rfl⟩:=q3.form
  refine aF ck ?_
  intro dR _ bb3
  refine VS.back (N-(i+1)) ab ⟨_,_,?_,?_,?_,?_,⟨i+1,s4,p4,n4,c4,t4,y4,m4,d4,by omega,rfl,rfl,rfl,(q3.mono cX.size).cast (dV hq).symm,by rw[dV hq,gv];exact hz.add jf.lM⟩⟩
  ·refine⟨rfl,rfl,?_,rfl,rfl,trivial⟩
   rw[<-aB ab];rfl
  ·exact cW
  ·rfl
  ·exact fR
 ·refine VS.aK rfl (decide_eq_false (λe=>hlt (Int.ofNat_lt.1 e))) ?_
  refine aa ?_
  refine au ?_;intro wz kz bz
  obtain rfl:i=N:=by omega
  rw[List.take_of_length_le ab] at ho hz
  exact⟨_,rfl,ho.kp kz,hz,bz⟩
def kD (y x:Rat):Bool:=decide (fK y x<0)
def LV (y x:Rat):Bool:=decide (fK y x>0)
theorem CH (v u:Value) (x y:Rat) (k l:Nat) (w:World) (hv:ax w v x k) (hu:ax w u y l) (hk:k<=67108864) (hl:l<=67108864):
  Calls Tryz.prog 154 #[v,u] w λe w'=>e=.returned (.bool (kD y x))/\aw w w':=by
 obtain⟨s,p,n,c,t,z,m,d,rfl⟩:=hv.form
 obtain⟨s',p',n',c',t',z',m',d',rfl⟩:=hu.form
 refine ae (C:=aM Tryz.prog w _) (args:=[_,_]) Tryz.func154 rfl Tryz.ntmps154 (bl rfl) ?_
 refine aa ?_
 refine VO.cB rfl rfl (fk Tryz.func180) (λaC aY aH=>ET _ _ y x l k aC (hu.kp aY) (hv.kp aY) hl hk) (λaC aY aH w1 aD bQ _ bb1=>wV rfl ?_)
 refine aa ?_
 refine au ?_;intro wz kz bz
 exact⟨rfl,bz⟩
theorem CI (s:Bool) (p:Option Addr) (n c:Nat) (t:Bool) (r:Option Addr) (m d:Nat) (w:World):
  Calls Tryz.prog 153 #[.agg #[.bool s,.slice p n c,.bool t,.slice r m d]] w λe w'=>e=.returned (.func (.func 154) #[.agg #[.bool s,.slice p n c,.bool t,.slice r m d]] #[])/\aw w w':=by
 refine ae (C:=aM Tryz.prog w _) (args:=[_]) Tryz.func153 rfl Tryz.ntmps153 (bl rfl) ?_
 refine aa ?_
 refine au ?_;intro wz kz bz
 exact⟨rfl,bz⟩
def iw (better:Rat->Rat->Bool) (q:Rat) (qs:List Rat):Rat:=qs.foldl (λo y=>if better y o=true then y else o) q
theorem EU {better:Rat->Rat->Bool} {x:Rat} {qs:List Rat} {i:Nat} {q:Rat} (h:qs[i]? =some q):iw better x (qs.take (i+1))=if better q (iw better x (qs.take i))=true then q else iw better x (qs.take i):=by
 rw[ba h];unfold iw;rw[List.foldl_append];rfl
theorem CJ (fB fL:FuncId) (better:Rat->Rat->Bool) (kB:jK Tryz.prog fB) (kL:jK Tryz.prog fL)
  (hB:∀ (s:Bool) (p:Option Addr) (n c:Nat) (t:Bool) (r:Option Addr) (m d:Nat) (w:World),Calls Tryz.prog fB #[.agg #[.bool s,.slice p n c,.bool t,.slice r m d]] w λe w'=>e=.returned (.func (.func fL) #[.agg #[.bool s,.slice p n c,.bool t,.slice r m d]] #[])/\aw w w')
  (hL:∀ (v u:Value) (x y:Rat) (k l:Nat) (w:World),ax w v x k->ax w u y l->k<=67108864->l<=67108864->Calls Tryz.prog fL #[v,u] w λe w'=>e=.returned (.bool (better y x))/\aw w w')
  (u v:Value) (q0:Rat) (qs:List Rat) (k:Nat) (w:World) (hu:ax w u q0 k) (hv:jU w v qs k) (hk:k<=67108863) (hlen:qs.length<9223372036854775807):
  Calls Tryz.prog 152 #[u,v,.func (.func fB) #[] #[]] w λe w'=>∃ x,e=.returned x/\aE w' w.heap.size x (iw better q0 qs)/\bW (iw better q0 qs) (bd k)/\aw w w':=by
 obtain⟨s,p,n,c,t,y,m,d,rfl⟩:=hu.form
 obtain⟨P,cc,rfl,dL,eH⟩:=hv.form
 obtain⟨N,hN⟩:∃ N,N=qs.length:=⟨_,rfl⟩
 rw[<-hN] at hv hlen dL ⊢
 have zk:bd k<=67108864:=by unfold bd;omega
 refine ae (C:=aM Tryz.prog w _) (args:=[_,_,_]) Tryz.func152 rfl Tryz.ntmps152 (bl rfl) ?_
 refine aa ?_
 refine VO.cR rfl rfl (fk Tryz.func45) (λaC aY aH=>cz _ q0 k aC (hu.kp aY) ab) (λaC aY aH w1 s1 p1 n1 c1 t1 y1 m1 d1 q1 aD bQ _ bb1=>wV rfl ?_)
 refine aa ?_
 refine VO.cR rfl rfl (fk Tryz.func11) (λaN bD bf=>cZ 0 aN ab ab) (λaN bD bf w2 s2 p2 n2 c2 t2 y2 m2 d2 q2 aQ cL _ bb2=>wV rfl ?_)
 refine aa ?_
 refine VO.cR rfl rfl (fk Tryz.func44) (λcu cM cX=>lL _ _ q0 ((0:Int):Rat) (bd k) 1 cu (q1.kp (cL.aA cM)) (q2.kp cM).rd hu.lM bW.zero zk ab) (λcu cM cX w3 s3 p3 n3 c3 t3 y3 m3 d3 q3 ck dR _ bb3=>wV rfl ?_)
 refine aa ?_
 refine VS.loop (J:=λn' L M w'=>∃ i s p' n c' t r m d,i<=N/\n'=N-i/\L=[(14,.val (.slice P N cc)),(15,.val (.int .i64 (N:Int))),(16,.val (.int .i64 (i:Int))),(2,.val (.func (.func fB) #[] #[])),(7,.box 7 0),(6,.box 6 0)]/\
  M=[(6,(34,([.bool false,.slice none 0 0,.bool false,.slice none 0 0]:List Value).map .val)),(7,(34,([.bool s,.slice p' n c',.bool t,.slice r m d]:List Value).map .val))]/\aE w' w.heap.size (.agg #[.bool s,.slice p' n c',.bool t,.slice r m d]) (iw better q0 (qs.take i))/\bW (iw better q0 (qs.take i)) (bd k)) N ⟨_,_,?_,?_,?_,?_,⟨0,s3,p3,n3,c3,t3,y3,m3,d3,by omega,by omega,rfl,rfl,(q3.mono cX.size).cast (Rat.add_zero _),hu.lM⟩⟩ ?_
 ·exact cW
 ·exact cW
 ·rfl
 ·exact fR
 rintro n' L M w' ⟨i,s,p',n,c',t,r,m,d,hi,rfl,rfl,rfl,ho,hz⟩
 refine aa ?_
 by_cases hlt:i<N
 ·obtain⟨q,hq⟩:∃ q,qs[i]? =some q:=⟨_,List.getElem?_eq_getElem ab⟩
  obtain⟨b,off,s2,p2,n2,c2,t2,r2,m2,d2,rfl,hc,jf⟩:=hv.at hq
  refine VS.aJ rfl (decide_eq_true (Int.ofNat_lt.2 hlt)) ?_
  refine aa ?_
  refine VO.cond rfl dz (wV rfl ?_)
  refine VO.read rfl [.bool s2,.slice p2 n2 c2,.bool t2,.slice r2 m2 d2] rfl (λj u hj=>by rw[Addr.add_mid,Int.toNat_natCast];exact hc j u hj) (wV rfl ?_)
  refine aa ?_
  refine VO.call rfl rfl kB (λdJ eu eO=>(hB s p' n c' t r m d dJ).mono ?_)
  rintro e w4 ⟨rfl,fe⟩
  refine aF fe ?_
  intro ir _ nu
  refine VO.call rfl rfl kL (λfI fY im=>(hL _ _ (iw better q0 (qs.take i)) q _ k fI ((ho.kp (ir.aA fY)).in hz) (jf.kp (Kp.of (U:=UU) im)) zk ab).mono ?_)
  rintro e w5 ⟨rfl,il⟩
  refine aF il ?_
  intro lG _ tW
  have hsn:=EU (better:=better) (x:=q0) hq
  cases hbt:better q (iw better q0 (qs.take i))
  ·rw[hbt] at hsn
   refine VS.aK rfl rfl ?_
   refine aa ?_
   refine VS.back (N-(i+1)) ab ⟨_,_,?_,?_,?_,?_,⟨i+1,s,p',n,c',t,r,m,d,by omega,rfl,rfl,rfl,(ho.kp (ir.aA lG)).cast hsn.symm,by rw[hsn];exact hz⟩⟩
   ·refine⟨rfl,rfl,?_,rfl,rfl,rfl,trivial⟩
    rw[<-aB ab];rfl
   ·exact cW
   ·rfl
   ·exact fR
  ·rw[hbt] at hsn
   refine VS.aJ rfl rfl ?_
   refine aa ?_
   refine VO.cR rfl rfl (fk Tryz.func45) (λni nv rI=>cz _ q k ni (jf.kp (Kp.of (U:=UU) rI)) ab) (λni nv rI w6 s6 p6 n6 c6 t6 y6 m6 d6 q6 pw rJ _ AO=>wV rfl ?_)
   refine aa ?_
   refine VO.cR rfl rfl (fk Tryz.func11) (λuH xq vS=>cZ 0 uH ab ab) (λuH xq vS w7 s7 p7 n7 c7 t7 y7 m7 d7 q7 DB CA _ bb7=>wV rfl ?_)
   refine aa ?_
   refine VO.cR rfl rfl (fk Tryz.func44) (λEN ka8 ba8=>lL _ _ q ((0:Int):Rat) (bd k) 1 EN (q6.kp (CA.aA ka8)) (q7.kp ka8).rd jf.lM bW.zero zk ab) (λEN ka8 ba8 w8 s8 p8 n8 c8 t8 y8 m8 d8 q8 Gd DC _ bb8=>wV rfl ?_)
   refine aa ?_
   refine VS.back (N-(i+1)) ab ⟨_,_,?_,?_,?_,?_,⟨i+1,s8,p8,n8,c8,t8,y8,m8,d8,by omega,rfl,rfl,rfl,(q8.mono ba8.size).cast ((Rat.add_zero _).trans hsn.symm),by rw[hsn];exact jf.lM⟩⟩
   ·refine⟨rfl,rfl,?_,rfl,rfl,rfl,trivial⟩
    rw[<-aB ab];rfl
   ·exact cW
   ·rfl
   ·exact fR
 ·refine VS.aK rfl (decide_eq_false (λe=>hlt (Int.ofNat_lt.1 e))) ?_
  refine aa ?_
  refine au ?_;intro wz kz bz
  obtain rfl:i=N:=by omega
  rw[List.take_of_length_le ab] at ho hz
  exact⟨_,rfl,ho.kp kz,hz,bz⟩
theorem EW (u v:Value) (q0:Rat) (qs:List Rat) (k:Nat) (w:World) (hu:ax w u q0 k) (hv:jU w v qs k) (hk:k<=67108863) (hlen:qs.length<9223372036854775807):
  Calls Tryz.prog 108 #[u,v] w λe w'=>∃ x,e=.returned x/\aE w' w.heap.size x (iw kD q0 qs)/\bW (iw kD q0 qs) (bd k)/\aw w w':=by
 obtain⟨s,p,n,c,t,y,m,d,rfl⟩:=hu.form
 obtain⟨P,cc,rfl,dL,eH⟩:=hv.form
 refine ae (C:=aM Tryz.prog w _) (args:=[_,_]) Tryz.func108 rfl Tryz.ntmps108 (bl rfl) ?_
 refine aa ?_
 refine VO.call rfl rfl (fk Tryz.func152) (λaC aY aH=>(CJ 153 154 kD (fk Tryz.func153) (fk Tryz.func154) CI CH _ _ q0 qs k aC (hu.kp aY) (hv.bq aH) hk hlen).mono ?_)
 rintro e w1 ⟨r1,rfl,q1,z1,aD⟩
 obtain⟨s1,p1,n1,c1,t1,y1,m1,d1,rfl⟩:=q1.form
 refine aF aD ?_
 intro bQ _ bb1
 refine au ?_;intro wz kz bz
 exact⟨_,rfl,(q1.kp kz).mono aH.size,z1,bz⟩
end
set_option maxRecDepth 4000
section
open Go.RowKit
attribute [local irreducible] ao VS
theorem CK (v u:Value) (X Y:Int) (j k:Nat) (w:World) (hv:bt w v X j) (hu:bt w u Y k) (hj:j<=1073741824) (hk:k<=1073741824):
  Calls Tryz.prog 182 #[v,u] w λe w'=>e=.returned (.bool (decide (X=Y)))/\aw w w':=by
 obtain⟨s,p,n,c,rfl⟩:=hv.form
 obtain⟨t,q,m,d,rfl⟩:=hu.form
 refine ae (C:=aM Tryz.prog w _) (args:=[_,_]) Tryz.func182 rfl Tryz.ntmps182 (bl rfl) ?_
 refine aa ?_
 refine VO.cB rfl rfl (fk Tryz.func203) (λaC aY aH=>Cs _ _ X Y j k aC (hv.kp aY) (hu.kp aY) hj hk) (λaC aY aH w1 aD bQ _ bb1=>wV rfl ?_)
 refine aa ?_
 refine au ?_;intro wz kz bz
 refine⟨?_,bz⟩
 show Ending.returned (.bool (vN X Y == 0))=_
 unfold vN
 by_cases h:X=Y
 ·rw[h,decide_eq_true rfl,Int.sub_self];rfl
 ·rw[decide_eq_false h]
  have:((X-Y).sign == 0)=false:=by
   rw[beq_eq_false_iff_ne]
   intro e
   have:=Int.sign_eq_zero_iff_zero.1 e
   omega
  rw[this]
theorem jr (s t:Bool) (xs ys:List Nat) (v:Value) (w:World) (h:cJ w v s xs t ys) (hx:xs.length<=134217728) (hy:ys.length<=134217728):
  Calls Tryz.prog 155 #[v] w λe w'=>e=.returned (.bool (nj s xs t ys))/\aw w w':=by
 obtain⟨p,c,r,d,rfl,h1,h2⟩:=h
 refine ae (C:=aM Tryz.prog w _) (args:=[_]) Tryz.func155 rfl Tryz.ntmps155 (bl rfl) ?_
 refine aa ?_
 refine VO.call rfl rfl (fk Tryz.func181) (λaC aY aH=>(qi s xs _ aC (h1.bq aH)).mono ?_)
 rintro e w1 ⟨rfl,aD⟩
 cases q1:df s xs
 ·refine aF aD ?_
  intro bQ _ bb1
  refine au ?_;intro wz kz bz
  exact⟨by simp[nj,q1,jg],bz⟩
 refine aF aD ?_
 intro bQ _ bb1
 refine VO.call rfl rfl (fk Tryz.func181) (λaN bD bf=>(qi t ys _ aN (h2.bq bf)).mono ?_)
 rintro e w2 ⟨rfl,aQ⟩
 cases q2:df t ys
 ·refine aF aQ ?_
  intro cL _ bb2
  refine au ?_;intro wz kz bz
  exact⟨by simp[nj,q1,q2,jg],bz⟩
 refine aF aQ ?_
 intro cL _ bb2
 refine VO.call rfl rfl (fk Tryz.func168) (λcu cM cX=>(cO _ (numOf t ys) _ cu ((h2.in (Nat.le_refl _)).bq cX) ab).mono ?_)
 rintro e w3 ⟨rfl,ck⟩
 by_cases q3:0<numOf t ys
 ·rw[dy q3]
  refine aF ck ?_
  intro dR _ bb3
  refine VO.cI rfl rfl (fk Tryz.func169) (λdJ eu eO=>vZ _ _ (numOf s xs) (numOf t ys) _ _ dJ ((h1.in (Nat.le_refl _)).bq eO) ((h2.in (Nat.le_refl _)).bq eO) ab ab) (λdJ eu eO w4 s4 p4 n4 c4 h4 fe ir _ nu=>wV rfl ?_)
  refine aa ?_
  refine VO.cI rfl rfl (fk Tryz.func136) (λfI fY im=>gZ 1 fI ab ab) (λfI fY im w5 s5 p5 n5 c5 h5 il lG _ tW=>wV rfl ?_)
  refine aa ?_
  have hg:Sz (Int.gcd (numOf s xs) (numOf t ys):Int) ys.length:=Ap (qZ h2.lim (Nat.le_refl _)) ab
  refine VO.call rfl rfl (fk Tryz.func182) (λni nv rI=>(CK _ _ (Int.gcd (numOf s xs) (numOf t ys):Int) 1 _ 1 ni ((h4.kp (lG.aA nv)).in hg) ((h5.kp nv).in (Sz.small fc)) ab ab).mono ?_)
  rintro e w6 ⟨rfl,pw⟩
  by_cases q4:Int.gcd (numOf s xs) (numOf t ys)=1
  ·rw[show decide ((Int.gcd (numOf s xs) (numOf t ys):Int)=1)=true from decide_eq_true ab]
   refine aF pw ?_
   intro rJ _ AO
   refine au ?_;intro wz kz bz
   exact⟨by simp[nj,q1,q2,q3,q4,jg],bz⟩
  ·rw[show decide ((Int.gcd (numOf s xs) (numOf t ys):Int)=1)=false from decide_eq_false ab]
   refine aF pw ?_
   intro rJ _ AO
   refine au ?_;intro wz kz bz
   exact⟨by simp[nj,q1,q2,q3,q4,jg],bz⟩
 ·have q4:(numOf t ys).sign=0\/(numOf t ys).sign= -1:=by
   rcases Int.lt_trichotomy (numOf t ys) 0 with e|e|e
   ·exact .inr (sign_neg e)
   ·rw[e];exact .inl rfl
   ·exact absurd e q3
  rcases q4 with q4|q4
  all_goals
   rw[q4]
   refine aF ck ?_
   intro dR _ bb3
   refine au ?_;intro wz kz bz
   exact⟨by simp[nj,q1,q2,q3,jg],bz⟩
theorem mH (n:Int) (w:World) (h0: -9223372036854775808<=n) (h1:n<=9223372036854775807):
  Calls Tryz.prog 118 #[.int .i64 n] w λe w'=>∃ r,e=.returned r/\aE w' w.heap.size r (n:Rat)/\aw w w':=by
 refine ae (C:=aM Tryz.prog w _) (args:=[_]) Tryz.func118 rfl Tryz.ntmps118 (bl rfl) ?_
 refine aa ?_
 refine VO.cI rfl rfl (fk Tryz.func136) (λaC aY aH=>gZ n aC h0 h1) (λaC aY aH w1 s1 p1 n1 c1 q1 aD bQ _ bb1=>wV rfl ?_)
 refine aa ?_
 refine VO.cI rfl rfl (fk Tryz.func136) (λaN bD bf=>gZ 1 aN ab ab) (λaN bD bf w2 s2 p2 n2 c2 q2 aQ cL _ bb2=>wV rfl ?_)
 refine aa ?_
 refine au ?_;intro wz kz bz
 exact⟨_,rfl,⟨_,_,_,_,_,_,_,_,rfl,(q1.kp (cL.aA kz)).mono aH.size,(q2.kp kz).mono bf.size⟩,bz⟩
theorem fw (w:World):Calls Tryz.prog 119 #[] w λe w'=>∃ r,e=.returned r/\aE w' w.heap.size r 0/\aw w w':=by
 refine ae (C:=aM Tryz.prog w _) (args:=[]) Tryz.func119 rfl Tryz.ntmps119 (bl rfl) ?_
 refine aa ?_
 refine VO.cI rfl rfl (fk Tryz.func136) (λaC aY aH=>gZ 0 aC ab ab) (λaC aY aH w1 s1 p1 n1 c1 q1 aD bQ _ bb1=>wV rfl ?_)
 refine aa ?_
 refine VO.cI rfl rfl (fk Tryz.func136) (λaN bD bf=>gZ 1 aN ab ab) (λaN bD bf w2 s2 p2 n2 c2 q2 aQ cL _ bb2=>wV rfl ?_)
 refine aa ?_
 refine au ?_;intro wz kz bz
 exact⟨_,rfl,⟨_,_,_,_,_,_,_,_,rfl,(q1.kp (cL.aA kz)).mono aH.size,(q2.kp kz).mono bf.size⟩,bz⟩
theorem cd (v:Value) (q:Rat) (k:Nat) (w:World) (h:ax w v q k) (hk:k<=134217728):
  Calls Tryz.prog 120 #[v] w λe w'=>∃ r,e=.returned r/\aG w' r q/\aw w w':=by
 obtain⟨s,xs,t,ys,dZ,rfl,hx,hy⟩:=h
 have og:=dZ
 obtain⟨p,c,r,d,rfl,_,_⟩:=dZ
 refine ae (C:=aM Tryz.prog w _) (args:=[_]) Tryz.func120 rfl Tryz.ntmps120 (bl rfl) ?_
 refine aa ?_
 refine VO.call rfl rfl (fk Tryz.func155) (λaC aY aH=>(jr s t xs ys _ aC (og.kp aY) ab ab).mono ?_)
 rintro e w1 ⟨rfl,aD⟩
 cases hq:nj s xs t ys
 ·refine aF aD ?_
  intro bQ _ bb1
  refine VO.cR rfl rfl (fk Tryz.func119) (λaN bD bf=>fw aN) (λaN bD bf w2 s2 p2 n2 c2 t2 y2 m2 d2 h2 aQ cL _ bb2=>wV rfl ?_)
  refine aa ?_
  refine au ?_;intro wz kz bz
  exact⟨_,rfl,by rw[oe hq];exact (h2.kp kz).rd,bz⟩
 ·refine aF aD ?_
  intro bQ _ bb1
  refine au ?_;intro wz kz bz
  exact⟨_,rfl,(lJ og hq).kp (bQ.aA kz),bz⟩
theorem LW {X Y:Int}:Rat.divInt X Y=Rat.divInt (-X) (-Y):=(Rat.neg_divInt_neg X Y).symm
theorem jV (v u:Value) (X Y:Int) (j k:Nat) (w:World) (hv:bt w v X j) (hu:bt w u Y k) (hj:j<=134217728) (hk:k<=134217728):
  Calls Tryz.prog 135 #[v,u] w λe w'=>∃ r,e=.returned (.tuple #[r,.int .i64 (lK Y)])/\aE w' w.heap.size r (Rat.divInt X Y)/\aw w w':=by
 obtain⟨s,p,n,c,rfl⟩:=hv.form
 obtain⟨t,r,m,d,rfl⟩:=hu.form
 refine ae (C:=aM Tryz.prog w _) (args:=[_,_]) Tryz.func135 rfl Tryz.ntmps135 (bl rfl) ?_
 refine aa ?_
 refine VO.call rfl rfl (fk Tryz.func168) (λaC aY aH=>(cO _ Y k aC (hu.bq aH) ab).mono ?_)
 rintro e w1 ⟨rfl,aD⟩
 by_cases hY:Y=0
 ·rw[show Y.sign=0 by rw[hY];rfl]
  refine aF aD ?_
  intro bQ _ bb1
  refine VO.cR rfl rfl (fk Tryz.func119) (λaN bD bf=>fw aN) (λaN bD bf w2 s2 p2 n2 c2 t2 y2 m2 d2 h2 aQ cL _ bb2=>wV rfl ?_)
  refine aa ?_
  refine au ?_;intro wz kz bz
  refine⟨_,by rw[lK,if_pos hY];rfl,?_,bz⟩
  rw[hY,Rat.divInt_zero]
  exact (h2.kp kz).mono bf.size
 ·rcases Int.lt_or_lt_of_ne hY with q|q
  ·rw[sign_neg q]
   refine aF aD ?_
   intro bQ _ bb1
   refine VO.call rfl rfl (fk Tryz.func168) (λaN bD bf=>(cO _ Y k aN (hu.bq bf) ab).mono ?_)
   rintro e w2 ⟨rfl,aQ⟩
   rw[sign_neg q]
   refine aF aQ ?_
   intro cL _ bb2
   refine VO.cI rfl rfl (fk Tryz.func165) (λcu cM cX=>ra _ X j cu (hv.bq cX) ab) (λcu cM cX w3 s3 p3 n3 c3 h3 ck dR _ bb3=>wV rfl ?_)
   refine aa ?_
   refine VO.cI rfl rfl (fk Tryz.func165) (λdJ eu eO=>ra _ Y k dJ (hu.bq eO) ab) (λdJ eu eO w4 s4 p4 n4 c4 h4 fe ir _ nu=>wV rfl ?_)
   refine aa ?_
   have z3:Sz (-X) j:=Sz.neg hv.len
   have z4:Sz (-Y) k:=Sz.neg hu.len
   obtain⟨l1,l2⟩:=uE (X:= -X) (Y:= -Y) ab
   have LS:Sz (Int.gcd (-X) (-Y):Int) k:=Ap z4 ab
   have Lw:(Int.gcd (-X) (-Y):Int)≠0:=by
    intro e
    have:=(Int.gcd_eq_zero_iff.1 (show Int.gcd (-X) (-Y)=0 by omega)).2
    omega
   refine VO.cI rfl rfl (fk Tryz.func169) (λfI fY im=>vZ _ _ (-X) (-Y) j k fI ((h3.kp (ir.aA fY)).in z3) ((h4.kp fY).in z4) ab ab) (λfI fY im w5 s5 p5 n5 c5 h5 il lG _ tW=>wV rfl ?_)
   refine aa ?_
   refine VO.call rfl rfl (fk Tryz.func170) (λni nv rI=>(jd _ _ (-X) (Int.gcd (-X) (-Y):Int) j k ni ((h3.kp (ir.aA (lG.aA nv))).in z3) ((h5.kp nv).in LS) ab ab).mono ?_)
   rintro e w6 ⟨hd6,pw⟩
   obtain⟨v6,u6,rfl,h6,h6'⟩:=dM hd6 Lw
   obtain⟨s6,p6,n6,c6,rfl⟩:=h6.form
   obtain⟨t6,r6,m6,d6,rfl⟩:=h6'.form
   refine aF pw ?_
   intro rJ _ AO
   refine VO.call rfl rfl (fk Tryz.func170) (λuH xq vS=>(jd _ _ (-Y) (Int.gcd (-X) (-Y):Int) k k uH ((h4.kp (lG.aA (rJ.aA xq))).in z4) ((h5.kp (rJ.aA xq)).in LS) ab ab).mono ?_)
   rintro e w7 ⟨hd7,DB⟩
   obtain⟨v7,u7,rfl,h7,h7'⟩:=dM hd7 Lw
   obtain⟨s7,p7,n7,c7,rfl⟩:=h7.form
   obtain⟨t7,r7,m7,d7,rfl⟩:=h7'.form
   refine aF DB ?_
   intro CA _ bb7
   refine au ?_;intro wz kz bz
   rw[LW]
   exact⟨_,by rw[lK,if_neg hY];rfl,⟨_,_,_,_,_,_,_,_,rfl,aj.cast ((h6.kp (CA.aA kz)).mono rI.size) l1,aj.cast ((h7.kp kz).mono vS.size) l2⟩,bz⟩
  ·rw[dy q]
   refine aF aD ?_
   intro bQ _ bb1
   refine VO.call rfl rfl (fk Tryz.func168) (λaN bD bf=>(cO _ Y k aN (hu.bq bf) ab).mono ?_)
   rintro e w2 ⟨rfl,aQ⟩
   rw[dy q]
   refine aF aQ ?_
   intro cL _ bb2
   obtain⟨l1,l2⟩:=uE (X:=X) (Y:=Y) q
   have LS:Sz (Int.gcd X Y:Int) k:=Ap hu.len hY
   have Lw:(Int.gcd X Y:Int)≠0:=by
    intro e
    have:=(Int.gcd_eq_zero_iff.1 (show Int.gcd X Y=0 by omega)).2
    omega
   refine VO.cI rfl rfl (fk Tryz.func169) (λfI fY im=>vZ _ _ X Y j k fI (hv.bq im) (hu.bq im) ab ab) (λfI fY im w5 s5 p5 n5 c5 h5 il lG _ tW=>wV rfl ?_)
   refine aa ?_
   refine VO.call rfl rfl (fk Tryz.func170) (λni nv rI=>(jd _ _ X (Int.gcd X Y:Int) j k ni (hv.bq rI) ((h5.kp nv).in LS) ab ab).mono ?_)
   rintro e w6 ⟨hd6,pw⟩
   obtain⟨v6,u6,rfl,h6,h6'⟩:=dM hd6 Lw
   obtain⟨s6,p6,n6,c6,rfl⟩:=h6.form
   obtain⟨t6,r6,m6,d6,rfl⟩:=h6'.form
   refine aF pw ?_
   intro rJ _ AO
   refine VO.call rfl rfl (fk Tryz.func170) (λuH xq vS=>(jd _ _ Y (Int.gcd X Y:Int) k k uH (hu.bq vS) ((h5.kp (rJ.aA xq)).in LS) ab ab).mono ?_)
   rintro e w7 ⟨hd7,DB⟩
   obtain⟨v7,u7,rfl,h7,h7'⟩:=dM hd7 Lw
   obtain⟨s7,p7,n7,c7,rfl⟩:=h7.form
   obtain⟨t7,r7,m7,d7,rfl⟩:=h7'.form
   refine aF DB ?_
   intro CA _ bb7
   refine au ?_;intro wz kz bz
   exact⟨_,by rw[lK,if_neg hY];rfl,⟨_,_,_,_,_,_,_,_,rfl,aj.cast ((h6.kp (CA.aA kz)).mono rI.size) l1,aj.cast ((h7.kp kz).mono vS.size) l2⟩,bz⟩
theorem IV (n d:Int) (w:World) (h0: -9223372036854775808<=n) (h1:n<=9223372036854775807) (g0: -9223372036854775808<=d) (g1:d<=9223372036854775807):
  Calls Tryz.prog 75 #[.int .i64 n,.int .i64 d] w λe w'=>∃ r,e=.returned (.tuple #[r,.int .i64 (lK d)])/\aE w' w.heap.size r (Rat.divInt n d)/\aw w w':=by
 refine ae (C:=aM Tryz.prog w _) (args:=[_,_]) Tryz.func75 rfl Tryz.ntmps75 (bl rfl) ?_
 refine aa ?_
 refine VO.cI rfl rfl (fk Tryz.func136) (λaC aY aH=>gZ n aC h0 h1) (λaC aY aH w1 s1 p1 n1 c1 q1 aD bQ _ bb1=>wV rfl ?_)
 refine aa ?_
 refine VO.cI rfl rfl (fk Tryz.func136) (λaN bD bf=>gZ d aN g0 g1) (λaN bD bf w2 s2 p2 n2 c2 q2 aQ cL _ bb2=>wV rfl ?_)
 refine aa ?_
 refine VO.call rfl rfl (fk Tryz.func135) (λcu cM cX=>(jV _ _ n d 2 2 cu ((q1.kp (cL.aA cM)).in (Sz.of_lt ab)) ((q2.kp cM).in (Sz.of_lt ab)) ab ab).mono ?_)
 rintro e w3 ⟨r3,rfl,q3,ck⟩
 obtain⟨s3,p3,n3,c3,t3,x3,m3,d3,rfl⟩:=q3.form
 refine aF ck ?_
 intro dR _ bb3
 refine au ?_;intro wz kz bz
 exact⟨_,rfl,(q3.kp kz).mono cX.size,bz⟩
theorem fx (v u:Value) (q r:Rat) (k l:Nat) (w:World) (hv:ax w v q k) (hu:ax w u r l) (hk:k<=33554432) (hl:l<=33554432):
  Calls Tryz.prog 122 #[v,u] w λe w'=>∃ x,e=.returned x/\aE w' w.heap.size x (q+r)/\aw w w':=by
 obtain⟨s,p,n,c,t,y,m,d,rfl⟩:=hv.form
 obtain⟨s',p',n',c',t',y',m',d',rfl⟩:=hu.form
 have zq:=hv.lM
 have zr:=hu.lM
 have uk:bd k<=33554432:=by unfold bd;omega
 have ul:bd l<=33554432:=by unfold bd;omega
 refine ae (C:=aM Tryz.prog w _) (args:=[_,_]) Tryz.func122 rfl Tryz.ntmps122 (bl rfl) ?_
 refine aa ?_
 refine VO.cR rfl rfl (fk Tryz.func120) (λaC aY aH=>cd _ q k aC (hv.kp aY) ab) (λaC aY aH w1 s1 p1 n1 c1 t1 y1 m1 d1 q1 aD bQ _ bb1=>wV rfl ?_)
 refine aa ?_
 refine VO.cR rfl rfl (fk Tryz.func120) (λaN bD bf=>cd _ r l aN (hu.kp (bQ.aA bD)) ab) (λaN bD bf w2 s2 p2 n2 c2 t2 y2 m2 d2 q2 aQ cL _ bb2=>wV rfl ?_)
 refine aa ?_
 obtain⟨a1,a2⟩:=q1.parts
 obtain⟨b1,b2⟩:=q2.parts
 refine VO.cI rfl rfl (fk Tryz.func160) (λcu cM cX=>jT _ _ q.num r.den _ _ cu ((a1.kp (cL.aA cM)).to zq.1) ((b2.kp cM).to zr.2) ab ab) (λcu cM cX w3 s3 p3 n3 c3 q3 ck dR _ bb3=>wV rfl ?_)
 refine aa ?_
 refine VO.cI rfl rfl (fk Tryz.func160) (λdJ eu eO=>jT _ _ r.num q.den _ _ dJ ((b1.kp (dR.aA eu)).to zr.1) ((a2.kp (cL.aA (dR.aA eu))).to zq.2) ab ab) (λdJ eu eO w4 s4 p4 n4 c4 q4 fe ir _ nu=>wV rfl ?_)
 refine aa ?_
 refine VO.cI rfl rfl (fk Tryz.func159) (λfI fY im=>rb _ _ (q.num*r.den) (r.num*q.den) (bd k+bd l) (bd l+bd k) fI ((q3.kp (ir.aA fY)).in (zq.1.mul zr.2)) ((q4.kp fY).in (zr.1.mul zq.2)) ab ab) (λfI fY im w5 s5 p5 n5 c5 q5 il lG _ tW=>wV rfl ?_)
 refine aa ?_
 refine VO.cI rfl rfl (fk Tryz.func160) (λni nv rI=>jT _ _ q.den r.den _ _ ni ((a2.kp (cL.aA (dR.aA (ir.aA (lG.aA nv))))).to zq.2) ((b2.kp (dR.aA (ir.aA (lG.aA nv)))).to zr.2) ab ab) (λni nv rI w6 s6 p6 n6 c6 q6 pw rJ _ AO=>wV rfl ?_)
 refine aa ?_
 refine VO.call rfl rfl (fk Tryz.func135) (λuH xq vS=>(jV _ _ (q.num*r.den+r.num*q.den) ((q.den:Int)*r.den) (bd k+bd l+1) (bd k+bd l) uH ((q5.kp (rJ.aA xq)).in (Sz.add (zq.1.mul zr.2) (zr.1.mul zq.2) (m:=bd k+bd l) ab ab)) ((q6.kp xq).in (zq.2.mul zr.2)) ab ab).mono ?_)
 rintro e w7 ⟨r7,rfl,q7,DB⟩
 obtain⟨s7,p7,n7,c7,t7,y7,m7,d7,rfl⟩:=q7.form
 refine aF DB ?_
 intro CA _ bb7
 refine au ?_;intro wz kz bz
 exact⟨_,rfl,aE.cast ((q7.kp kz).mono vS.size) (uI q r).symm,bz⟩
theorem gi (v:Value) (q:Rat) (k:Nat) (w:World) (hv:ax w v q k) (hk:k<=134217728):
  Calls Tryz.prog 128 #[v] w λe w'=>∃ x,e=.returned x/\aG w' x (-q)/\aw w w':=by
 obtain⟨s,p,n,c,t,y,m,d,rfl⟩:=hv.form
 refine ae (C:=aM Tryz.prog w _) (args:=[_]) Tryz.func128 rfl Tryz.ntmps128 (bl rfl) ?_
 refine aa ?_
 refine VO.cR rfl rfl (fk Tryz.func120) (λaC aY aH=>cd _ q k aC (hv.kp aY) hk) (λaC aY aH w1 s1 p1 n1 c1 t1 y1 m1 d1 q1 aD bQ _ bb1=>wV rfl ?_)
 refine aa ?_
 obtain⟨a1,a2⟩:=q1.parts
 refine VO.cI rfl rfl (fk Tryz.func165) (λaN bD bf=>ra _ q.num _ aN ((a1.kp bD).to hv.lM.1) (by unfold bd;omega)) (λaN bD bf w2 s2 p2 n2 c2 q2 aQ cL _ bb2=>wV rfl ?_)
 refine aa ?_
 refine au ?_;intro wz kz bz
 refine⟨_,rfl,⟨_,_,_,_,_,_,_,_,rfl,?_,?_⟩,bz⟩
 ·rw[Rat.neg_num];exact (q2.kp kz).rd
 ·rw[Rat.neg_den];exact a2.kp (cL.aA kz)
theorem gj (v u:Value) (q r:Rat) (k l:Nat) (w:World) (hv:ax w v q k) (hu:ax w u r l) (hk:k<=33554432) (hl:l<=33554431):
  Calls Tryz.prog 58 #[v,u] w λe w'=>∃ x,e=.returned x/\aE w' w.heap.size x (q-r)/\aw w w':=by
 obtain⟨s,p,n,c,t,y,m,d,rfl⟩:=hv.form
 obtain⟨s',p',n',c',t',y',m',d',rfl⟩:=hu.form
 refine ae (C:=aM Tryz.prog w _) (args:=[_,_]) Tryz.func58 rfl Tryz.ntmps58 (bl rfl) ?_
 refine aa ?_
 refine VO.cR rfl rfl (fk Tryz.func128) (λaC aY aH=>gi _ r l aC (hu.kp aY) ab) (λaC aY aH w1 s1 p1 n1 c1 t1 y1 m1 d1 q1 aD bQ _ bb1=>wV rfl ?_)
 refine aa ?_
 refine VO.cR rfl rfl (fk Tryz.func122) (λaN bD bf=>fx _ _ q (-r) k (bd l) aN (hv.kp (bQ.aA bD)) ((q1.kp bD).to hu.lM.neg) hk (by unfold bd;omega)) (λaN bD bf w2 s2 p2 n2 c2 t2 y2 m2 d2 q2 aQ cL _ bb2=>wV rfl ?_)
 refine aa ?_
 refine au ?_;intro wz kz bz
 exact⟨_,rfl,aE.cast ((q2.kp kz).mono bf.size) (Rat.sub_eq_add_neg q r).symm,bz⟩
theorem EX (v u:Value) (q r:Rat) (k l:Nat) (w:World) (hv:ax w v q k) (hu:ax w u r l) (hk:k<=33554432) (hl:l<=33554432):
  Calls Tryz.prog 162 #[v,u] w λe w'=>∃ x,e=.returned x/\aE w' w.heap.size x (q*r)/\aw w w':=by
 obtain⟨s,p,n,c,t,y,m,d,rfl⟩:=hv.form
 obtain⟨s',p',n',c',t',y',m',d',rfl⟩:=hu.form
 have zq:=hv.lM
 have zr:=hu.lM
 have uk:bd k<=33554432:=by unfold bd;omega
 have ul:bd l<=33554432:=by unfold bd;omega
 refine ae (C:=aM Tryz.prog w _) (args:=[_,_]) Tryz.func162 rfl Tryz.ntmps162 (bl rfl) ?_
 refine aa ?_
 refine VO.cR rfl rfl (fk Tryz.func120) (λaC aY aH=>cd _ q k aC (hv.kp aY) ab) (λaC aY aH w1 s1 p1 n1 c1 t1 y1 m1 d1 q1 aD bQ _ bb1=>wV rfl ?_)
 refine aa ?_
 refine VO.cR rfl rfl (fk Tryz.func120) (λaN bD bf=>cd _ r l aN (hu.kp (bQ.aA bD)) ab) (λaN bD bf w2 s2 p2 n2 c2 t2 y2 m2 d2 q2 aQ cL _ bb2=>wV rfl ?_)
 refine aa ?_
 obtain⟨a1,a2⟩:=q1.parts
 obtain⟨b1,b2⟩:=q2.parts
 refine VO.cI rfl rfl (fk Tryz.func160) (λcu cM cX=>jT _ _ q.num r.num _ _ cu ((a1.kp (cL.aA cM)).to zq.1) ((b1.kp cM).to zr.1) ab ab) (λcu cM cX w3 s3 p3 n3 c3 q3 ck dR _ bb3=>wV rfl ?_)
 refine aa ?_
 refine VO.cI rfl rfl (fk Tryz.func160) (λdJ eu eO=>jT _ _ q.den r.den _ _ dJ ((a2.kp (cL.aA (dR.aA eu))).to zq.2) ((b2.kp (dR.aA eu)).to zr.2) ab ab) (λdJ eu eO w4 s4 p4 n4 c4 q4 fe ir _ nu=>wV rfl ?_)
 refine aa ?_
 refine VO.call rfl rfl (fk Tryz.func135) (λfI fY im=>(jV _ _ (q.num*r.num) ((q.den:Int)*r.den) (bd k+bd l) (bd k+bd l) fI ((q3.kp (ir.aA fY)).in (zq.1.mul zr.1)) ((q4.kp fY).in (zq.2.mul zr.2)) ab ab).mono ?_)
 rintro e w5 ⟨r5,rfl,q5,il⟩
 obtain⟨s5,p5,n5,c5,t5,y5,m5,d5,rfl⟩:=q5.form
 refine aF il ?_
 intro lG _ tW
 refine au ?_;intro wz kz bz
 exact⟨_,rfl,aE.cast ((q5.kp kz).mono im.size) (Aq q r).symm,bz⟩
theorem EY (v u:Value) (q r:Rat) (k l:Nat) (w:World) (hv:ax w v q k) (hu:ax w u r l) (hk:k<=33554432) (hl:l<=33554432):
  Calls Tryz.prog 164 #[v,u] w λe w'=>∃ x,e=.returned (.tuple #[x,.int .i64 (yI r)])/\aE w' w.heap.size x (q/r)/\aw w w':=by
 obtain⟨s,p,n,c,t,y,m,d,rfl⟩:=hv.form
 obtain⟨s',p',n',c',t',y',m',d',rfl⟩:=hu.form
 have zq:=hv.lM
 have zr:=hu.lM
 have uk:bd k<=33554432:=by unfold bd;omega
 have ul:bd l<=33554432:=by unfold bd;omega
 refine ae (C:=aM Tryz.prog w _) (args:=[_,_]) Tryz.func164 rfl Tryz.ntmps164 (bl rfl) ?_
 refine aa ?_
 refine VO.cR rfl rfl (fk Tryz.func120) (λaC aY aH=>cd _ q k aC (hv.kp aY) ab) (λaC aY aH w1 s1 p1 n1 c1 t1 y1 m1 d1 q1 aD bQ _ bb1=>wV rfl ?_)
 refine aa ?_
 refine VO.cR rfl rfl (fk Tryz.func120) (λaN bD bf=>cd _ r l aN (hu.kp (bQ.aA bD)) ab) (λaN bD bf w2 s2 p2 n2 c2 t2 y2 m2 d2 q2 aQ cL _ bb2=>wV rfl ?_)
 refine aa ?_
 obtain⟨a1,a2⟩:=q1.parts
 obtain⟨b1,b2⟩:=q2.parts
 refine VO.cI rfl rfl (fk Tryz.func160) (λcu cM cX=>jT _ _ q.num r.den _ _ cu ((a1.kp (cL.aA cM)).to zq.1) ((b2.kp cM).to zr.2) ab ab) (λcu cM cX w3 s3 p3 n3 c3 q3 ck dR _ bb3=>wV rfl ?_)
 refine aa ?_
 refine VO.cI rfl rfl (fk Tryz.func160) (λdJ eu eO=>jT _ _ q.den r.num _ _ dJ ((a2.kp (cL.aA (dR.aA eu))).to zq.2) ((b1.kp (dR.aA eu)).to zr.1) ab ab) (λdJ eu eO w4 s4 p4 n4 c4 q4 fe ir _ nu=>wV rfl ?_)
 refine aa ?_
 refine VO.call rfl rfl (fk Tryz.func135) (λfI fY im=>(jV _ _ (q.num*r.den) ((q.den:Int)*r.num) (bd k+bd l) (bd k+bd l) fI ((q3.kp (ir.aA fY)).in (zq.1.mul zr.2)) ((q4.kp fY).in (zq.2.mul zr.1)) ab ab).mono ?_)
 rintro e w5 ⟨r5,rfl,q5,il⟩
 obtain⟨s5,p5,n5,c5,t5,y5,m5,d5,rfl⟩:=q5.form
 refine aF il ?_
 intro lG _ tW
 refine au ?_;intro wz kz bz
 exact⟨_,by rw[<-IU q r];rfl,aE.cast ((q5.kp kz).mono im.size) (div_raw q r).symm,bz⟩
theorem CL (v:Value) (q:Rat) (k:Nat) (w:World) (hv:ax w v q k) (hk:k<=134217728):
  Calls Tryz.prog 183 #[v] w λe w'=>e=.returned (.int .i64 (fK q 0))/\aw w w':=by
 obtain⟨s,p,n,c,t,y,m,d,rfl⟩:=hv.form
 refine ae (C:=aM Tryz.prog w _) (args:=[_]) Tryz.func183 rfl Tryz.ntmps183 (bl rfl) ?_
 refine aa ?_
 refine VO.cR rfl rfl (fk Tryz.func120) (λaC aY aH=>cd _ q k aC (hv.kp aY) hk) (λaC aY aH w1 s1 p1 n1 c1 t1 y1 m1 d1 q1 aD bQ _ bb1=>wV rfl ?_)
 refine aa ?_
 refine VO.call rfl rfl (fk Tryz.func168) (λaN bD bf=>(cO _ q.num _ aN ((q1.parts.1.kp bD).to hv.lM.1) (by unfold bd;omega)).mono ?_)
 rintro e w2 ⟨rfl,aQ⟩
 rw[yH]
 refine aF aQ ?_
 intro cL _ bb2
 refine au ?_;intro wz kz bz
 exact⟨rfl,bz⟩
theorem mI (v u:Value) (q r:Rat) (k l:Nat) (w:World) (hv:ax w v q k) (hu:ax w u r l) (hk:k<=33554431) (hl:l<=33554431):
  Calls Tryz.prog 156 #[v,u] w λe w'=>e=.returned (.int .i64 (fK q r))/\aw w w':=by
 obtain⟨s,p,n,c,t,y,m,d,rfl⟩:=hv.form
 obtain⟨s',p',n',c',t',y',m',d',rfl⟩:=hu.form
 have uk:bd k<=33554431:=by unfold bd;omega
 have ul:bd l<=33554431:=by unfold bd;omega
 refine ae (C:=aM Tryz.prog w _) (args:=[_,_]) Tryz.func156 rfl Tryz.ntmps156 (bl rfl) ?_
 refine aa ?_
 refine VO.cR rfl rfl (fk Tryz.func58) (λaC aY aH=>gj _ _ q r k l aC (hv.kp aY) (hu.kp aY) ab hl) (λaC aY aH w1 s1 p1 n1 c1 t1 y1 m1 d1 q1 aD bQ _ bb1=>wV rfl ?_)
 refine aa ?_
 refine VO.call rfl rfl (fk Tryz.func183) (λaN bD bf=>(CL _ (q-r) (bd k+bd l+1) aN ((q1.kp bD).in (hv.lM.sub hu.lM)) ab).mono ?_)
 rintro e w2 ⟨rfl,aQ⟩
 rw[LU]
 refine aF aQ ?_
 intro cL _ bb2
 refine au ?_;intro wz kz bz
 exact⟨rfl,bz⟩
theorem IW {q r:Rat}:(fK q r == 0)=decide (q=r):=by
 unfold fK
 by_cases h1:q<r
 ·rw[if_pos h1,decide_eq_false (λe=>by rw[e] at h1;exact absurd h1 Rat.lt_irrefl)];rfl
 ·rw[if_neg h1]
  by_cases h2:q=r
  ·rw[if_pos h2,decide_eq_true h2];rfl
  ·rw[if_neg h2,decide_eq_false h2];rfl
theorem CM (v u:Value) (q r:Rat) (k l:Nat) (w:World) (hv:ax w v q k) (hu:ax w u r l) (hk:k<=33554431) (hl:l<=33554431):
  Calls Tryz.prog 117 #[v,u] w λe w'=>e=.returned (.bool (decide (q=r)))/\aw w w':=by
 obtain⟨s,p,n,c,t,y,m,d,rfl⟩:=hv.form
 obtain⟨s',p',n',c',t',y',m',d',rfl⟩:=hu.form
 refine ae (C:=aM Tryz.prog w _) (args:=[_,_]) Tryz.func117 rfl Tryz.ntmps117 (bl rfl) ?_
 refine aa ?_
 refine VO.cB rfl rfl (fk Tryz.func156) (λaC aY aH=>mI _ _ q r k l aC (hv.kp aY) (hu.kp aY) hk hl) (λaC aY aH w1 aD bQ _ bb1=>wV rfl ?_)
 refine aa ?_
 refine au ?_;intro wz kz bz
 exact⟨by rw[<-IW];rfl,bz⟩
theorem LX (n d:Int) (w:World) (h0: -9223372036854775808<=n) (h1:n<=9223372036854775807) (g0: -9223372036854775808<=d) (g1:d<=9223372036854775807) (c:Int) (hc:lK d=c):
 Calls Tryz.prog 143 #[.int .i64 n,.int .i64 d] w λe w'=>∃ r,e=.returned (.tuple #[r,.int .i64 c])/\aE w' w.heap.size r (Rat.divInt n d)/\aw w w':=hc▸IQ n d w h0 h1 g0 g1
theorem bW.of {n d:Int} (hn:n.natAbs<4294967296) (hd:d.natAbs<4294967296):bW (Rat.divInt n d) 1:=by
 by_cases h:d=0
 ·rw[h,Rat.divInt_zero];exact bW.zero
 ·exact jD (Sz.small hn) (Sz.small hd) h
theorem aG.cast {w:World} {v:Value} {q q':Rat} (h:aG w v q) (e:q'=q):aG w v q':=e▸h
inductive eW (w:World) (k:Nat):List Rat->List (List Value)->Prop
 | nil:eW w k [] []
 | cons {s:Bool} {p:Option Addr} {n c:Nat} {t:Bool} {r:Option Addr} {m d:Nat} {q:Rat} {qs:List Rat} {vs:List (List Value)}:ax w (.agg #[.bool s,.slice p n c,.bool t,.slice r m d]) q k->eW w k qs vs->eW w k (q::qs) ([.bool s,.slice p n c,.bool t,.slice r m d]::vs)
theorem eW.four {w:World} {k:Nat} {qs:List Rat} {vs:List (List Value)} (h:eW w k qs vs):∀ v∈vs,v.length=4:=by
 induction h with
 | nil=>intro v hv;cases hv
 | cons _ _ ih=>
   intro v hv
   rcases List.mem_cons.1 hv with rfl|e
   ·rfl
   ·exact ih v e
theorem eW.at {w:World} {k:Nat} {qs:List Rat} {vs:List (List Value)} (h:eW w k qs vs):∀ (j:Nat) (q:Rat),qs[j]? =some q->∃ s p' n' c' t r m d,vs[j]? =some [Value.bool s,.slice p' n' c',.bool t,.slice r m d]/\ax w (.agg #[.bool s,.slice p' n' c',.bool t,.slice r m d]) q k:=by
 induction h with
 | nil=>intro j q hq;simp at hq
 | cons h1 _ ih=>
   intro j q hq
   cases j with
   | zero=>cases hq;exact⟨_,_,_,_,_,_,_,_,rfl,h1⟩
   | succ j=>exact ih j q (by simpa using hq)
theorem flat_at:∀ (vs:List (List Value)) (j:Nat) (v:List Value),(∀ v∈vs,v.length=4)->vs[j]? =some v->∀ (o:Nat) (u:Value),v[o]? =some u->vs.flatten[j*4+o]? =some u:=by
 intro vs
 induction vs with
 | nil=>intro j v _ h;simp at h
 | cons x r ih=>
   intro j v hl h o u hu
   have hx:x.length=4:=hl x dw
   cases j with
   | zero=>
     simp at h
     subst h
     have ho:o<4:=by have:=(List.getElem?_eq_some_iff.1 hu).1;omega
     rw[List.flatten_cons,List.getElem?_append_left ab]
     simpa using hu
   | succ j=>
     have h':r[j]? =some v:=by simpa using h
     rw[List.flatten_cons,List.getElem?_append_right ab,hx,show (j+1)*4+o-4=j*4+o by omega]
     exact ih j v (λv hv=>hl v (by simp[hv])) h' o u hu
theorem lN {C:Cx} {β:Nat->Nat} {w:World} {i:Nat} {t:TypeId} {cs:List AV} {qs:List Rat} {k:Nat} {vs:List (List Value)} {n c:Nat} (h:jL C β w i t cs) (spare:List AV) (hcs:cs=vs.flatten.map .val++spare) (hn:n=qs.length) (hq:eW w k qs vs) (hc:n<=c) (eH:c<=maxLen):
  jU w (.slice (some ⟨β i,0,none⟩) n c) qs k:=by
 subst hn
 refine⟨_,_,rfl,hc,eH,λj q hj=> ?_⟩
 obtain⟨s,p',n',c',t',r,m,d,hvj,jf⟩:=hq.at j q hj
 refine⟨β i,0,s,p',n',c',t',r,m,d,rfl,λo u hu=> ?_,jf⟩
 refine h.cls.cell ?_
 have:=flat_at vs j _ hq.four hvj o u hu
 rw[hcs,List.map_append,aW,List.getElem?_toArray,Nat.zero_add,List.getElem?_append_left (List.getElem?_eq_some_iff.1 this).1]
 exact this
theorem mJ (v:Value) (q:Rat) (k:Nat) (w:World) (hv:ax w v q k) (hk:k<=536870912) (c:Int) (hc:fK q 0=c):
 Calls Tryz.prog 82 #[v] w λe w'=>e=.returned (.int .i64 c)/\aw w w':=hc▸CF v q k w hv hk
theorem qm (v u:Value) (q r:Rat) (k l:Nat) (w:World) (hv:ax w v q k) (hu:ax w u r l) (hk:k<=67108864) (hl:l<=67108864) (b:Bool) (hb:decide (q=r)=b):
 Calls Tryz.prog 16 #[v,u] w λe w'=>e=.returned (.bool b)/\aw w w':=hb▸CG v u q r k l w hv hu hk hl
theorem IX (v u:Value) (q r:Rat) (k l:Nat) (w:World) (hv:ax w v q k) (hu:ax w u r l) (hk:k<=33554432) (hl:l<=33554432) (c:Int) (hc:yI r=c):
 Calls Tryz.prog 164 #[v,u] w λe w'=>∃ x,e=.returned (.tuple #[x,.int .i64 c])/\aE w' w.heap.size x (q/r)/\aw w w':=hc▸EY v u q r k l w hv hu hk hl
theorem cJ.in {w:World} {v:Value} {s t:Bool} {xs ys:List Nat} {k:Nat} (h:cJ w v s xs t ys) (hx:xs.length<=k) (hy:ys.length<=k):ax w v (rq s xs t ys) k:=⟨s,xs,t,ys,h,rfl,hx,hy⟩
theorem cJ.wi {w:World} {v:Value} {s t:Bool} {xs ys:List Nat} (h:cJ w v s xs t ys):∃ p c r d,v=.agg #[.bool s,.slice p xs.length c,.bool t,.slice r ys.length d]/\True:=by
 obtain⟨p,c,r,d,rfl,_⟩:=h
 exact⟨_,_,_,_,rfl,trivial⟩
theorem GF {a b:Rat}:fK a b<=0↔a<=b:=by
 unfold fK
 split
 ·rename_i h;exact⟨λ_=>Rat.le_of_lt h,λ_=>by omega⟩
 ·split
  ·rename_i h;exact⟨λ_=>by rw[h];exact Rat.le_refl,λ_=>by omega⟩
  ·rename_i h1 h2;exact⟨λh=>by omega,λh=>absurd (Rat.not_lt.1 h1) (λh3=>h2 (Rat.le_antisymm h h3))⟩
theorem rcmp_eq {a b:Rat} (h:a=b):fK a b=0:=by subst h;unfold fK;rw[if_neg (by exact Rat.lt_irrefl),if_pos rfl]
theorem GG {b:Rat} (h:b≠0):fK b 0≠0:=by
 unfold fK
 split
 ·omega
 ·first|omega|(rw[if_neg h];omega)
theorem qn {b:Rat} (h:b=0):fK b 0=0:=rcmp_eq h
theorem yJ {y x:Rat}:kD y x=true↔y<x:=by
 unfold kD fK
 by_cases h:y<x
 ·simp[h]
 ·simp only[h,if_false,iff_false];split <;> simp
theorem oH {y x:Rat}:LV y x=true↔x<y:=by
 unfold LV
 rw[decide_eq_true_iff]
 constructor
 ·intro h
  exact Rat.not_le.1 (λe=>by have:=GF.2 e;omega)
 ·intro h
  have:=mt GF.1 (Rat.not_le.2 h)
  omega
theorem ax.inv {w:World} {v:Value} {q:Rat} {k:Nat} (h:ax w v q k):∃ s xs t ys,cJ w v s xs t ys/\q=rq s xs t ys/\xs.length<=k/\ys.length<=k:=h
end
section
open Go.RowKit
abbrev KpT (T:TypeId->Bool) (w w':World):Prop:=aV ⟨UU,λ_=>True,T⟩ w w'
structure fU {α:Type} (E:World->List Value->α->Prop) (sz:Nat):Prop where
 kp:∀ {w w':World} {cs:List Value} {a:α},E w cs a->Kp UU w w'->E w' cs a
 len:∀ {w:World} {cs:List Value} {a:α},E w cs a->cs.length=sz
 ok:∀ {w:World} {cs:List Value} {a:α},E w cs a->cs.all bc=true
theorem KpT.plain {T:TypeId->Bool} {w w':World} (h:KpT T w w'):Kp UU w w':=h.iD
inductive de {α:Type} (E:World->List Value->α->Prop) (w:World):List α->List (List Value)->Prop
 | nil:de E w [] []
 | cons {a:α} {es:List α} {cs:List Value} {vs:List (List Value)}:E w cs a->de E w es vs->de E w (a::es) (cs::vs)
section
variable {α:Type} {E:World->List Value->α->Prop} {sz:Nat} {w w':World} {es:List α} {vs:List (List Value)}
theorem de.kp (hE:fU E sz) (h:de E w es vs) (k:Kp UU w w'):de E w' es vs:=by
 induction h with
 | nil=>exact .nil
 | cons h1 _ ih=>exact .cons (hE.kp h1 k) ih
theorem de.at (h:de E w es vs):∀ (j:Nat) (a:α),es[j]? =some a->∃ cs,vs[j]? =some cs/\E w cs a:=by
 induction h with
 | nil=>intro j q hq;simp at hq
 | cons h1 _ ih=>
   intro j q hq
   cases j with
   | zero=>cases hq;exact⟨_,rfl,h1⟩
   | succ j=>exact ih j q (by simpa using hq)
theorem de.append {es':List α} {IY:List (List Value)} (h:de E w es vs) (h':de E w es' IY):de E w (es++es') (vs++IY):=by
 induction h with
 | nil=>exact h'
 | cons h1 _ ih=>exact .cons h1 ih
theorem de.snoc {a:α} {cs:List Value} (h:de E w es vs) (h':E w cs a):de E w (es++[a]) (vs++[cs]):=h.append (.cons h' .nil)
theorem de.ok (hE:fU E sz) (h:de E w es vs):vs.flatten.all bc=true/\vs.flatten.length=es.length*sz:=by
 induction h with
 | nil=>exact⟨rfl,by simp⟩
 | cons h1 _ ih=>
   refine⟨?_,?_⟩
   ·rw[List.flatten_cons,List.all_append,ih.1,hE.ok h1];rfl
   ·rw[List.flatten_cons,List.length_append,ih.2,hE.len h1,List.length_cons,Nat.add_mul,Nat.one_mul,Nat.add_comm]
theorem de.cell (hE:fU E sz) (h:de E w es vs):∀ (j:Nat) (cs:List Value),vs[j]? =some cs->∀ (o:Nat) (u:Value),cs[o]? =some u->vs.flatten[j*sz+o]? =some u:=by
 induction h with
 | nil=>intro j v h;simp at h
 | @cons a es cs vs h1 _ ih=>
   intro j v h o u hu
   have hx:=hE.len h1
   cases j with
   | zero=>
     simp at h
     subst h
     have ho:o<sz:=by have:=(List.getElem?_eq_some_iff.1 hu).1;omega
     rw[List.flatten_cons,Nat.zero_mul,Nat.zero_add,List.getElem?_append_left ab]
     exact hu
   | succ j=>
     rw[List.flatten_cons,List.getElem?_append_right (by rw[Nat.add_mul];omega)]
     have:=ih j v (by simpa using h) o u hu
     rw[<-this]
     congr 1
     rw[Nat.add_mul]
     omega
def bM (E:World->List Value->α->Prop) (sz:Nat) (w:World) (v:Value) (es:List α):Prop:=
 ∃ p c,v=.slice p es.length c/\es.length<=c/\c<=maxLen/\∀ (i:Nat) (a:α),es[i]? =some a->∃ b off cs,p=some ⟨b,off,none⟩/\(∀ (j:Nat) (u:Value),cs[j]? =some u->w.cell? ⟨b,off+i*sz+j,none⟩=some u)/\E w cs a
theorem bM.form {v:Value} (h:bM E sz w v es):∃ p c,v=.slice p es.length c/\es.length<=c/\c<=9223372036854775807:=by
 obtain⟨p,c,hv,h1,h2,_⟩:=h
 exact⟨p,c,hv,h1,by simpa [maxLen] using h2⟩
theorem bM.at {p:Option Addr} {n c i:Nat} {a:α} (h:bM E sz w (.slice p n c) es) (hq:es[i]? =some a):∃ b off cs,p=some ⟨b,off,none⟩/\(∀ (j:Nat) (u:Value),cs[j]? =some u->w.cell? ⟨b,off+i*sz+j,none⟩=some u)/\E w cs a:=by
 obtain⟨p',c',hv,h1,h2,h3⟩:=h
 cases hv
 exact h3 i a hq
theorem bM.bq (hE:fU E sz) {v:Value} (h:bM E sz w v es) (hb:aw w w'):bM E sz w' v es:=by
 obtain⟨p,c,hv,h1,h2,h3⟩:=h
 refine⟨p,c,hv,h1,h2,λi q hq=> ?_⟩
 obtain⟨b,off,cs,hp,hc,hr⟩:=h3 i q hq
 exact⟨b,off,cs,hp,λj u hj=>hb.cell (hc j u hj),hE.kp hr (Kp.of hb)⟩
theorem bM.mono {E':World->List Value->α->Prop} {v:Value} (h:bM E sz w v es) (hm:∀ (i:Nat) (a:α) (cs:List Value),es[i]? =some a->E w cs a->E' w cs a):bM E' sz w v es:=by
 obtain⟨p,c,hv,h1,h2,h3⟩:=h
 refine⟨p,c,hv,h1,h2,λi q hq=> ?_⟩
 obtain⟨b,off,cs,hp,hc,hr⟩:=h3 i q hq
 exact⟨b,off,cs,hp,hc,hm i q cs hq hr⟩
theorem bM.nil (w:World) (E:World->List Value->α->Prop) (sz:Nat):bM E sz w (.slice none 0 0) []:=⟨none,0,rfl,Nat.le_refl _,by decide,λi q hq=>by simp at hq⟩
theorem oI (hE:fU E sz) {b n c:Nat} {t:TypeId} {spare:List Value} (h:bj w b t (vs.flatten++spare).toArray) (hr:de E w es vs) (hn:n=es.length) (hc:n<=c) (hm:c<=9223372036854775807):bM E sz w (.slice (some ⟨b,0,none⟩) n c) es:=by
 subst hn
 refine⟨_,_,rfl,hc,by simpa [maxLen] using hm,λi a ha=> ?_⟩
 obtain⟨cs,h1,h2⟩:=hr.at i a ha
 refine⟨b,0,cs,rfl,λj u hj=> ?_,h2⟩
 have:=hr.cell hE i cs h1 j u hj
 refine h.cell ?_
 rw[List.getElem?_toArray,Nat.zero_add,List.getElem?_append_left (List.getElem?_eq_some_iff.1 this).1]
 exact this
theorem js (hE:fU E sz) {C:Cx} {β:Nat->Nat} {i n c:Nat} {t:TypeId} {cs:List AV} (h:jL C β w i t cs) (spare:List AV) (hcs:cs=vs.flatten.map .val++spare) (hr:de E w es vs) (hn:n=es.length) (hc:n<=c) (hm:c<=9223372036854775807):
  bM E sz w (.slice (some ⟨β i,0,none⟩) n c) es:=by
 refine oI hE (spare:=spare.map (AV.leaf β)) (t:=t) ?_ hr hn hc hm
 have:=h.cls
 rw[hcs,List.map_append,aW] at this
 exact this
def bk (E:World->List Value->α->Prop) (sz:Nat) (t:TypeId) (B:Nat) (w:World) (v:Value) (es:List α):Prop:=
 (v=.slice none 0 0/\es=[])\/∃ b c vs spare,v=.slice (some ⟨b,0,none⟩) es.length c/\B<=b/\bj w b t (vs.flatten++spare).toArray/\de E w es vs/\spare.all bc=true/\es.length<=c/\c<=9223372036854775807/\(vs.flatten++spare).length=c*sz
theorem bk.sl (hE:fU E sz) {t:TypeId} {B:Nat} {v:Value} (h:bk E sz t B w v es):bM E sz w v es:=by
 rcases h with ⟨rfl,rfl⟩|⟨b,c,vs,spare,rfl,_,h1,h2,_,h3,h4,_⟩
 ·exact bM.nil _ _ _
 ·exact oI hE h1 h2 rfl h3 h4
theorem bk.form {t:TypeId} {B:Nat} {v:Value} (h:bk E sz t B w v es):∃ p c,v=.slice p es.length c:=by
 rcases h with ⟨rfl,rfl⟩|⟨b,c,vs,spare,rfl,_⟩
 ·exact⟨_,_,rfl⟩
 ·exact⟨_,_,rfl⟩
theorem bk.kp (hE:fU E sz) {t:TypeId} {B:Nat} {v:Value} {T:TypeId->Bool} (h:bk E sz t B w v es) (k:KpT T w w') (ht:T t=true):bk E sz t B w' v es:=by
 rcases h with ⟨rfl,rfl⟩|⟨b,c,vs,spare,rfl,h0,h1,h2,h3⟩
 ·exact .inl ⟨rfl,rfl⟩
 ·refine .inr ⟨b,c,vs,spare,rfl,h0,k.block t b _ ?_ trivial h1,h2.kp hE k.plain,h3⟩
  show (Nat.beq t UU || T t)=true
  rw[ht]
  simp
theorem bk.mono {t:TypeId} {B B':Nat} {v:Value} (h:bk E sz t B w v es) (hB:B'<=B):bk E sz t B' w v es:=by
 rcases h with h|⟨b,c,vs,spare,hv,h0,h1⟩
 ·exact .inl h
 ·exact .inr ⟨b,c,vs,spare,hv,Nat.le_trans hB h0,h1⟩
end
section
variable {C:Cx} {F:Fr} {H:Hp} {w:World} {m:Option (List FuncId)} {full:Array Oper} {K:Fr->Hp->World->Prop} {o:Oper} {r:List Oper}
theorem VO.callX {α:Type} {E:World->List Value->α->Prop} {sz:Nat} (hE:fU E sz) {d:gJ} {dst:Nat} {t:TypeId} {es:List α} (e:stepOf C full F H o=.call d) (hd:o.dst=some dst) (h0:H dst=none) (hN:dst<C.N) (hl:1<=lvl C.SU m o) (ht:C.K.fz t=false)
  (h:∀ w1 β,aV C.K w w1->C.Old w1->iW C β H d.ids w1->rS C.P d β w1 λe w2=>∃ v,e=.returned v/\aw w1 w2/\bk E sz t w1.heap.size w2 v es/\
   (aV C.K w w2->aV C.K w1 w2->C.Old w2->es=[]->ao C m full r K (F.bP o.dst (.val (.slice none 0 0))) H w2)/\
   (∀ c vs spare,aV C.K w w2->aV C.K w1 w2->C.Old w2->de E w2 es vs->spare.all bc=true->es.length<=c->c<=9223372036854775807->(vs.flatten++spare).length=c*sz->ao C m full r K (F.bP o.dst (.row dst 0 es.length c)) (H.put dst (t,vs.flatten.map .val++spare.map .val)) w2)):ao C m full (o::r) K F H w:=by
 show one C m full o (ao C m full r K) F H w
 unfold one
 rw[e]
 refine λw1 β h1 h2 h3=>(h w1 β h1 h2 h3).mono ?_
 rintro e w2 ⟨v,rfl,hb,hn,k1,k2⟩
 rcases hn with ⟨rfl,rfl⟩|⟨b,c,vs,spare,rfl,q1,q2,q3,q4,q5,q6,q7⟩
 ·exact⟨β,.val (.slice none 0 0),none,[],rfl,λi hi=>(by cases hi),.inr rfl,.inr rfl,xB.none hb,λa b c _ _=>k1 a b c rfl⟩
 ·let cf:Nat->Nat:=λi=>if i=dst then b else β i
  have qO:cf dst=b:=if_pos rfl
  have oT:vs.flatten.map AV.val++spare.map AV.val=(vs.flatten++spare).map AV.val:=by rw[List.map_append]
  have ji:(vs.flatten.map AV.val++spare.map AV.val).all aL=true:=by rw[oT];exact cU (by rw[List.all_append,(q3.ok hE).1,q4];rfl)
  refine⟨cf,.row dst 0 es.length c,none,[(dst,(t,vs.flatten.map AV.val++spare.map AV.val))],?_,λi hi=>.inl (by simpa [AV.ids] using hi),.inl hl,.inr rfl,?_,λa1 a2 a3 _ _=>k2 c vs spare a1 a2 a3 q3 q4 q5 q6 q7⟩
  ·show Ending.returned _=.returned (Value.slice (some ⟨cf dst,0,none⟩) es.length c);rw[qO]
  ·refine⟨hb.os,hb.tape,hb.output,hb.size,λk hk _ _ _=>Below.block hb k hk,λi hi=>if_neg (by simpa using hi),λi hi=>(by cases hi),λi hi=>(by cases hi),λx hx=> ?_,λx hx=> ?_,by simp,λx hx y hy _=> ?_,λx hx j hj=> ?_⟩
   ·cases List.mem_singleton.1 hx
    refine⟨by rw[qO];exact C.ta _ _ ab (by have:=C.iM _ h2;omega),ht,?_,ji⟩
    rw[qO,oT,aW];exact q2
   ·cases List.mem_singleton.1 hx
    exact .inr ⟨.inl h0,by omega,.inl (by rw[qO];exact q1)⟩
   ·cases List.mem_singleton.1 hx;cases List.mem_singleton.1 hy;rfl
   ·cases List.mem_singleton.1 hx
    rw[oT,af] at hj;cases hj
end
def nk {α:Type} (E:World->List Value->α->Prop) (sz:Nat) (w:World) (p:Option Addr) (es:List α) (n:Nat):Prop:=
 ∀ (i:Nat) (a:α),i<n->es[i]? =some a->∃ b off cs,p=some ⟨b,off,none⟩/\(∀ (j:Nat) (u:Value),cs[j]? =some u->w.cell? ⟨b,off+i*sz+j,none⟩=some u)/\E w cs a
theorem nk.zero {α:Type} {E:World->List Value->α->Prop} {sz:Nat} {w:World} {p:Option Addr} {es:List α}:nk E sz w p es 0:=λi a hi=>absurd hi (Nat.not_lt_zero i)
theorem nk.snoc {α:Type} {E:World->List Value->α->Prop} {sz:Nat} {w:World} {b off:Nat} {es:List α} {n:Nat} {a:α} {cs:List Value} (h:nk E sz w (some ⟨b,off,none⟩) es n) (ha:es[n]? =some a) (hc:∀ (j:Nat) (u:Value),cs[j]? =some u->w.cell? ⟨b,off+n*sz+j,none⟩=some u) (he:E w cs a):nk E sz w (some ⟨b,off,none⟩) es (n+1):=λi x hi hx=>by
 rcases Nat.lt_succ_iff_lt_or_eq.1 hi with h' |h'
 ·exact h i x h' hx
 ·subst h';rw[ha] at hx;cases hx;exact⟨b,off,cs,rfl,hc,he⟩
theorem nk.all {α:Type} {E E':World->List Value->α->Prop} {sz:Nat} {w:World} {p:Option Addr} {es:List α} {n c:Nat} (h:nk E sz w p es n) (h':bM E' sz w (.slice p n c) es):bM E sz w (.slice p n c) es:=by
 obtain⟨p',c',hv,h1,h2,_⟩:=h'
 cases hv
 exact⟨p,c,rfl,h1,h2,λi a ha=>h i a (List.getElem?_eq_some_iff.1 ha).1 ha⟩
theorem wj {α:Type} {E:World->List Value->α->Prop} {sz:Nat} {C:Cx} {β:Nat->Nat} {w:World} {i n c:Nat} {t:TypeId} {es:List α} {vs:List (List Value)} {spare:List AV} (h:jL C β w i t (vs.flatten.map .val++spare)) (hr:de E w es vs) (hn:n=es.length) (hc:n<=c) (hm:c<=9223372036854775807) (hl:(vs.flatten.map AV.val++spare).length=c*sz)
  (hnw:∀ i g,C.uu i g->C.w0.heap.size<=g:=by exact λ_ _ h=>h):bk E sz t C.w0.heap.size w (.slice (some ⟨β i,0,none⟩) n c) es:=by
 subst hn
 have hk:=h.ok
 rw[List.all_append,Bool.and_eq_true] at hk
 refine .inr ⟨β i,c,vs,spare.map (AV.leaf β),rfl,hnw _ _ h.new,?_,hr,dX hk.2,hc,hm,by rw[<-hl];simp only[List.length_append,List.length_map]⟩
 have:=h.cls
 rw[List.map_append,aW] at this
 exact this
theorem mK {n d:Int} (h0: -9223372036854775808<=n) (h1:n<=9223372036854775807) (g0: -9223372036854775808<=d) (g1:d<=9223372036854775807):bW (Rat.divInt n d) 2:=by
 by_cases hd:d=0
 ·rw[hd,Rat.divInt_zero];exact bW.zero.mono ab
 ·exact jD (Sz.of_lt ab) (Sz.of_lt ab) hd
end
set_option maxRecDepth 4000
section
open Go.RowKit
attribute [local irreducible] ao VS
theorem jt (xs:List Nat) (v:Value) (n:Nat) (w:World) (hr:Rd w 1 v n (ints .u32 xs)) (hn:n<=1073741824):
  Calls Tryz.prog 115 #[v] w λe w'=>∃ p c,e=.returned (.slice p n c)/\w'.ownsRow w.heap.size UU 1 (.slice p n c) n (ints .u32 xs)/\aw w w':=by
 obtain⟨p,c,rfl,ll⟩:∃ p c,v=.slice p n c/\True:=by
  obtain⟨p,c,hv,_⟩:=hr
  exact⟨p,c,hv,trivial⟩
 refine ae (C:=aM Tryz.prog w _) (args:=[_]) Tryz.func115 rfl Tryz.ntmps115 (bl rfl) ?_
 refine aa ?_
 refine VO.appU (cH _ _) (t:=30) (e:=191) (n:=n) (news:=ints .u32 xs) rfl rfl rfl rfl rfl (ld .u32 xs) ab (λw1 k1 b1=>hr.below b1) (λw2 p2 c2 k2 b2 ho=>wV rfl ?_)
 refine aa ?_
 refine au ?_;intro wz kz bz
 exact⟨_,_,rfl,Own.kp ho kz,bz⟩
theorem eQ.JY {w:World} {s:Bool} {p:Option Addr} {xs:List Nat} {c:Nat} (h:eQ w (.agg #[.bool s,.slice p xs.length c]) s xs):Rd w 1 (.slice p xs.length c) xs.length (ints .u32 xs)/\cw xs:=by
 obtain⟨p',c',hv,hr,hl⟩:=h
 simp only[Value.agg.injEq,Array.mk.injEq,List.cons.injEq,and_true,true_and,Value.slice.injEq] at hv
 obtain⟨rfl,rfl⟩:=hv
 exact⟨hr,hl⟩
def mL (w:World) (B:Nat) (v:Value) (s:Bool) (xs:List Nat) (t:Bool) (ys:List Nat):Prop:=
 ∃ p c r d,v=.agg #[.bool s,.slice p xs.length c,.bool t,.slice r ys.length d]/\w.ownsRow B UU 1 (.slice p xs.length c) xs.length (ints .u32 xs)/\w.ownsRow B UU 1 (.slice r ys.length d) ys.length (ints .u32 ys)/\cw xs/\cw ys
theorem mL.raw {w:World} {B:Nat} {v:Value} {s:Bool} {xs:List Nat} {t:Bool} {ys:List Nat} (h:mL w B v s xs t ys):cJ w v s xs t ys:=by
 obtain⟨p,c,r,d,hv,h1,h2,h3,h4⟩:=h
 exact⟨p,c,r,d,hv,⟨_,_,rfl,Rd.own h1,h3⟩,⟨_,_,rfl,Rd.own h2,h4⟩⟩
theorem mL.kp {T:TypeId->Bool} {w w':World} {B:Nat} {v:Value} {s:Bool} {xs:List Nat} {t:Bool} {ys:List Nat} (h:mL w B v s xs t ys) (k:aV ⟨UU,λ_=>True,T⟩ w w'):mL w' B v s xs t ys:=by
 obtain⟨p,c,r,d,hv,h1,h2,h3,h4⟩:=h
 exact⟨p,c,r,d,hv,Own.kp h1 k,Own.kp h2 k,h3,h4⟩
theorem mL.own {w:World} {B:Nat} {v:Value} {q:Rat} (h:mL w B v (decide (q.num<0)) (limbs q.num.natAbs) (decide ((q.den:Int)<0)) (limbs (q.den:Int).natAbs)):aE w B v q:=by
 obtain⟨p,c,r,d,rfl,h1,h2,h3,h4⟩:=h
 exact⟨_,p,_,c,_,r,_,d,rfl,⟨_,_,rfl,h1⟩,⟨_,_,rfl,h2⟩⟩
theorem EZ (s t:Bool) (xs ys:List Nat) (v:Value) (w:World) (h:cJ w v s xs t ys) (hx:xs.length<=1073741824) (hy:ys.length<=1073741824):
  Calls Tryz.prog 53 #[v] w λe w'=>∃ r,e=.returned r/\mL w' w.heap.size r s xs t ys/\aw w w':=by
 obtain⟨p,c,r,d,rfl,h1,h2⟩:=h
 refine ae (C:=aM Tryz.prog w _) (args:=[_]) Tryz.func53 rfl Tryz.ntmps53 (bl rfl) ?_
 refine aa ?_
 refine VO.call rfl rfl (fk Tryz.func115) (λaC aY aH=>(jt xs _ _ aC (h1.bq aH).JY.1 hx).mono ?_)
 rintro e w1 ⟨p1,c1,rfl,q1,aD⟩
 skip
 refine aF aD ?_
 intro bQ _ bb1
 refine VO.call rfl rfl (fk Tryz.func115) (λaN bD bf=>(jt ys _ _ aN (h2.bq bf).JY.1 hy).mono ?_)
 rintro e w2 ⟨p2,c2,rfl,q2,aQ⟩
 skip
 refine aF aQ ?_
 intro cL _ bb2
 refine au ?_;intro wz kz bz
 exact⟨_,rfl,⟨_,_,_,_,rfl,Own.kp (Own.mono q1 aH.size) (cL.aA kz),Own.kp (Own.mono q2 bf.size) kz,h1.JY.2,h2.JY.2⟩,bz⟩
theorem IZ (s t:Bool) (xs ys:List Nat) (v:Value) (w:World) (h:cJ w v s xs t ys) (hx:xs.length<=1073741824) (hy:ys.length<=1073741824):
  Calls Tryz.prog 76 #[v] w λe w'=>∃ r,e=.returned r/\mL w' w.heap.size r s xs t ys/\aw w w':=by
 obtain⟨p,c,r,d,rfl,h1,h2⟩:=h
 refine ae (C:=aM Tryz.prog w _) (args:=[_]) Tryz.func76 rfl Tryz.ntmps76 (bl rfl) ?_
 refine aa ?_
 refine VO.call rfl rfl (fk Tryz.func115) (λaC aY aH=>(jt xs _ _ aC (h1.bq aH).JY.1 hx).mono ?_)
 rintro e w1 ⟨p1,c1,rfl,q1,aD⟩
 skip
 refine aF aD ?_
 intro bQ _ bb1
 refine VO.call rfl rfl (fk Tryz.func115) (λaN bD bf=>(jt ys _ _ aN (h2.bq bf).JY.1 hy).mono ?_)
 rintro e w2 ⟨p2,c2,rfl,q2,aQ⟩
 skip
 refine aF aQ ?_
 intro cL _ bb2
 refine au ?_;intro wz kz bz
 exact⟨_,rfl,⟨_,_,_,_,rfl,Own.kp (Own.mono q1 aH.size) (cL.aA kz),Own.kp (Own.mono q2 bf.size) kz,h1.JY.2,h2.JY.2⟩,bz⟩
theorem LY {d:Int} (h:d≠0):lK d=0:=if_neg h
theorem bg {K:KC} {w w':World} (h:aV K w w':=by (with_reducible (repeat (first|assumption|exact kU _|exact kR _|exact Kp.of (U:=UU) (by assumption)|exact aV.of (by assumption)|refine kT ?_ (by assumption))))):aV K w w':=h
theorem iE (n d:Int) (w:World) (h0: -9223372036854775808<=n) (h1:n<=9223372036854775807) (g0: -9223372036854775808<=d) (g1:d<=9223372036854775807):
  Calls Tryz.prog 31 #[.int .i64 n,.int .i64 d] w λe w'=>∃ r,e=.returned r/\aE w' w.heap.size r (Rat.divInt n d)/\aw w w':=by
 refine ae (C:=aM Tryz.prog w _) (args:=[_,_]) Tryz.func31 rfl Tryz.ntmps31 (bl rfl) ?_
 refine aa ?_
 refine VO.call rfl rfl (fk Tryz.func75) (λaC aY aH=>(IV n d aC h0 h1 g0 g1).mono ?_)
 rintro e w1 ⟨r1,rfl,q1,aD⟩
 obtain⟨s1,p1,n1,c1,t1,y1,m1,d1,rfl⟩:=q1.form
 refine aF aD ?_
 intro bQ _ bb1
 have hsz:(limbs (Rat.divInt n d).num.natAbs).length<=4/\(limbs ((Rat.divInt n d).den:Int).natAbs).length<=4:=by
  by_cases hd:d=0
  ·rw[hd,Rat.divInt_zero];exact⟨bW.zero.1.mono ab,bW.zero.2.mono ab⟩
  ·have h:=jD (X:=n) (Y:=d) (k:=2) (l:=2) (Sz.of_lt ab) (Sz.of_lt ab) hd
   exact⟨h.1.mono ab,h.2.mono ab⟩
 refine VO.call rfl rfl (fk Tryz.func76) (λaN bD bf=>(IZ _ _ _ _ _ aN (q1.kp bg).rd.raw ab ab).mono ?_)
 rintro e w2 ⟨r2,rfl,q2,aQ⟩
 obtain⟨p2,c2,y2,d2,rfl,_⟩:=q2.raw.wi
 refine aF aQ ?_
 intro cL _ bb2
 refine au ?_;intro wz kz bz
 exact⟨_,rfl,((q2.kp kz).own).mono bf.size,bz⟩
theorem wk (xs:List Nat) (v u:Value) (n:Nat) (w:World) (hr:Rd w 1 v n (ints .u32 xs)) (hs:Rd w 1 u n (ints .u32 xs)) (qe:n=xs.length):
  Calls Tryz.prog 114 #[v,u] w λe w'=>e=.returned (.bool true)/\aw w w':=by
 subst qe
 obtain⟨n,hn⟩:∃ n,n=xs.length:=⟨_,rfl⟩
 rw[<-hn] at hr hs
 obtain⟨p,c,rfl,dL,eH,ey⟩:=hr.u32
 obtain⟨q,d,rfl,Hn,Dt,_⟩:=hs.u32
 refine ae (C:=aM Tryz.prog w _) (args:=[_,_]) Tryz.func114 rfl Tryz.ntmps114 (bl rfl) ?_
 refine aa ?_
 refine VS.aK rfl dw ?_
 refine aa ?_
 refine VS.loop (J:=λms L M w'=>∃ (k:Nat),k<=n/\ms=n-k/\L=[(0,.val (.slice p n c)),(1,.val (.slice q n d)),(5,.val (.int .i64 (k:Int)))]/\M=[]) n ⟨_,_,?_,?_,?_,?_,⟨0,by omega,rfl,rfl,rfl⟩⟩ ?_
 ·exact cW
 ·exact cW
 ·rfl
 ·exact fR
 rintro ms L M w' ⟨k,hk,hms,rfl,rfl⟩
 refine aa ?_
 by_cases rL:k<n
 ·refine VS.aJ rfl (decide_eq_true (Int.ofNat_lt.2 rL)) ?_
  refine aa ?_
  obtain⟨b1,o1,x,rfl,aD,eI,kG⟩:=hr.cellAt rL
  obtain⟨b2,o2,y,rfl,aQ,mY,Ba⟩:=hs.cellAt rL
  obtain rfl:x=y:=by rw[eI] at mY;exact Option.some.inj mY
  refine VO.cond rfl dz (wV rfl ?_)
  refine VO.read rfl [.int .u32 (x:Int)] rfl (ia rfl kG) (wV rfl ?_)
  refine VO.cond rfl dz (wV rfl ?_)
  refine VO.read rfl [.int .u32 (x:Int)] rfl (ia rfl Ba) (wV rfl ?_)
  refine aa ?_
  refine VS.aK rfl dw ?_
  refine aa ?_
  refine VS.back (n-(k+1)) ab ⟨_,_,?_,?_,?_,?_,⟨k+1,by omega,rfl,rfl,rfl⟩⟩
  ·refine⟨rfl,rfl,?_,trivial⟩
   rw[<-aB ab];rfl
  ·exact cW
  ·rfl
  ·exact fR
 ·refine VS.aK rfl (decide_eq_false (λe=>rL (Int.ofNat_lt.1 e))) ?_
  refine aa ?_
  refine au ?_;intro wz kz bz
  exact⟨rfl,bz⟩
theorem Ja (s t:Bool) (xs ys:List Nat) (v u:Value) (w:World) (hv:cJ w v s xs t ys) (hu:cJ w u s xs t ys):
  Calls Tryz.prog 52 #[v,u] w λe w'=>e=.returned (.bool true)/\aw w w':=by
 obtain⟨p,c,r,d,rfl,v1,v2⟩:=hv
 obtain⟨p',c',r',d',rfl,u1,u2⟩:=hu
 refine ae (C:=aM Tryz.prog w _) (args:=[_,_]) Tryz.func52 rfl Tryz.ntmps52 (bl rfl) ?_
 refine aa ?_
 refine VO.fix 12 rfl (congrArg (λb=>AV.val (.bool b)) (show (s == s)=true by simp)) ?_
 refine aa ?_
 refine VO.fix 21 rfl (congrArg (λb=>AV.val (.bool b)) (show (t == t)=true by simp)) ?_
 refine aa ?_
 refine VO.cB rfl rfl (fk Tryz.func114) (λaC aY aH=>wk xs _ _ _ aC (v1.bq aH).JY.1 (u1.bq aH).JY.1 rfl) (λaC aY aH w1 aD bQ _ bb1=>wV rfl ?_)
 refine aa ?_
 refine VO.cB rfl rfl (fk Tryz.func114) (λaN bD bf=>wk ys _ _ _ aN (v2.bq bf).JY.1 (u2.bq bf).JY.1 rfl) (λaN bD bf w2 aQ cL _ bb2=>wV rfl ?_)
 refine aa ?_
 refine au ?_;intro wz kz bz
 exact⟨rfl,bz⟩
theorem iG (q:Rat) (v u:Value) (w:World) (hv:aG w v q) (hu:aG w u q):
 Calls Tryz.prog 52 #[v,u] w λe w'=>e=.returned (.bool true)/\aw w w':=Ja _ _ _ _ v u w hv.raw hu.raw
end
section
open Go.RowKit
section
variable {T:TypeId->Bool} {w w':World} {v:Value} {q:Rat} {X:Int} {B n:Nat}
theorem ax.k (h:ax w v q n) (k:aV ⟨UU,λ_=>True,T⟩ w w':=by exact bg):ax w' v q n:=h.kp k
theorem aG.k (h:aG w v q) (k:aV ⟨UU,λ_=>True,T⟩ w w':=by exact bg):aG w' v q:=h.kp k
theorem aE.k (h:aE w B v q) (k:aV ⟨UU,λ_=>True,T⟩ w w':=by exact bg):aE w' B v q:=h.kp k
theorem aE.kr (h:aE w B v q) (k:aV ⟨UU,λ_=>True,T⟩ w w':=by exact bg):aG w' v q:=(h.kp k).rd
theorem aE.ki (h:aE w B v q) (hs:bW q n) (k:aV ⟨UU,λ_=>True,T⟩ w w':=by exact bg):ax w' v q n:=(h.kp k).in hs
theorem aG.ki (h:aG w v q) (hs:bW q n) (k:aV ⟨UU,λ_=>True,T⟩ w w':=by exact bg):ax w' v q n:=(h.kp k).to hs
theorem bt.k (h:bt w v X n) (k:aV ⟨UU,λ_=>True,T⟩ w w':=by exact bg):bt w' v X n:=h.kp k
theorem bH.k (h:bH w v X) (k:aV ⟨UU,λ_=>True,T⟩ w w':=by exact bg):bH w' v X:=h.kp k
theorem aj.k (h:aj w B v X) (k:aV ⟨UU,λ_=>True,T⟩ w w':=by exact bg):aj w' B v X:=h.kp k
theorem aj.kr (h:aj w B v X) (k:aV ⟨UU,λ_=>True,T⟩ w w':=by exact bg):bH w' v X:=(h.kp k).rd
theorem aj.ki (h:aj w B v X) (hs:Sz X n) (k:aV ⟨UU,λ_=>True,T⟩ w w':=by exact bg):bt w' v X n:=(h.kp k).in hs
theorem bH.ki (h:bH w v X) (hs:Sz X n) (k:aV ⟨UU,λ_=>True,T⟩ w w':=by exact bg):bt w' v X n:=(h.kp k).to hs
end
theorem Sz.floor {q:Rat} {k:Nat} (h:bW q k):Sz q.floor k:=by
 refine Sz.le h.1 ?_
 rw[Rat.floor_def]
 exact Int.natAbs_ediv_le_natAbs _ _
end
section
open Go.RowKit
attribute [local irreducible] ao VS
theorem GH {a b:Int} (h:a≠b):(a != b)=true:=by simpa using h
theorem wm {a b:Int} (h:a=b):(a != b)=false:=by simpa using h
theorem CN {a b:Int} (h:a=b):(a == b)=true:=by simpa using h
theorem yK {a b:Int} (h:a≠b):(a == b)=false:=by simpa using h
structure bU {α:Type} (E:World->List Value->α->Prop) (sz:Nat) (w:World) (n c:Nat) (vs:List (List Value)) (sp:List AV) (es:List α):Prop where
 len:n=es.length
 el:de E w es vs
 so:sp.all aL=true
 sl:aO sp=[]
 le:n<=c
 cm:c<=9223372036854775807
 fl:(vs.flatten.map AV.val++sp).length=c*sz
section
variable {α:Type} {E:World->List Value->α->Prop} {sz n c:Nat} {w w':World} {vs:List (List Value)} {sp:List AV} {es:List α}
theorem bU.kp (hE:fU E sz) (h:bU E sz w n c vs sp es) (k:Kp UU w w'):bU E sz w' n c vs sp es:=⟨h.len,h.el.kp hE k,h.so,h.sl,h.le,h.cm,h.fl⟩
theorem bU.oU {M:List (Nat×(TypeId×List AV))} (h:bU E sz w n c vs sp es):ai M (vs.flatten.map AV.val++sp):=.append (.vals _) (.none h.sl)
theorem bU.cV (h:bU E sz w n c vs sp es):aO (vs.flatten.map AV.val++sp)=[]:=by rw[eS,af,h.sl];rfl
theorem bU.new {C:Cx} {β:Nat->Nat} {i:Nat} {t:TypeId} (hE:fU E sz) (h:bU E sz w n c vs sp es) (o:jL C β w' i t (vs.flatten.map .val++sp)) (k:Kp UU w w') (hnw:∀ i g,C.uu i g->C.w0.heap.size<=g:=by exact λ_ _ h=>h):
 bk E sz t C.w0.heap.size w' (.slice (some ⟨β i,0,none⟩) n c) es:=wj o (h.el.kp hE k) h.len h.le h.cm h.fl hnw
theorem bU.sl' {C:Cx} {β:Nat->Nat} {i:Nat} {t:TypeId} (hE:fU E sz) (h:bU E sz w n c vs sp es) (o:jL C β w' i t (vs.flatten.map .val++sp)) (k:Kp UU w w'):
 bM E sz w' (.slice (some ⟨β i,0,none⟩) n c) es:=js hE o sp rfl (h.el.kp hE k) h.len h.le h.cm
theorem bU.cell (hE:fU E sz) (h:bU E sz w n c vs sp es) {i:Nat} {a:α} (ha:es[i]? =some a):∃ cs,vs[i]? =some cs/\E w cs a/\cs.length=sz/\∀ (k:Nat) (ds:List Value),ds <+:cs.drop k->∀ (j:Nat) (u:AV),(ds.map AV.val)[j]? =some u->(vs.flatten.map AV.val++sp)[0+((i:Nat):Int).toNat*sz+k+j]? =some u:=by
 obtain⟨cs,h1,h2⟩:=h.el.at i a ha
 refine⟨cs,h1,h2,hE.len h2,λk ds hd j u hj=> ?_⟩
 obtain⟨t,ht⟩:=hd
 rw[List.getElem?_map] at hj
 obtain⟨x,hx,rfl⟩:=Option.map_eq_some_iff.1 hj
 have hx':cs[k+j]? =some x:=by
  rw[<-List.getElem?_drop,<-ht,List.getElem?_append_left (List.getElem?_eq_some_iff.1 hx).1];exact hx
 have:=h.el.cell hE i cs h1 (k+j) x hx'
 rw[Int.toNat_natCast,Nat.zero_add,Nat.add_assoc,List.getElem?_append_left (by rw[List.length_map];exact (List.getElem?_eq_some_iff.1 this).1),List.getElem?_map,this]
 rfl
end
section
variable {C:Cx} {F:Fr} {H:Hp} {w:World} {m:Option (List FuncId)} {full:Array Oper} {K:Fr->Hp->World->Prop} {o:Oper} {r:List Oper}
theorem VO.na (hC:C.Ok) {α:Type} {E:World->List Value->α->Prop} {sz:Nat} (hE:fU E sz) {t e te:TypeId} {it ie:TI} {x y:Operand} {s:Nat} {cs:List Value} {a:α} {dst:Nat}
  (e0:stepOf C full F H o=.call (.op o [.val (.slice none 0 0),.row s 0 1 1])) (ho:o.op=.call { callee:=.builtin .append,args:=#[x,y],argTypes:=#[t,t] })
  (xD:C.ti t=some it) (kX:it.elem=some (e,sz)) (Dz:C.ti e=some ie) (hU:C.K.fz e=false) (hzo:ie.zero.cells.toList.all bc=true)
  (hd:o.dst=some dst) (hN:dst<C.N) (hl:lvl C.SU m o=2) (gg:H dst=none) (hs:H s=some (te,cs.map .val)) (hcs:E w cs a) (gQ:24*sz<=140737488355328)
  (hK:∀ w2 cap sp,aV C.K w w2->C.Old w2->bU E sz w2 1 cap [cs] sp [a]->ao C m full r K (F.bP o.dst (.row dst 0 1 cap)) (H.put dst (e,[cs].flatten.map AV.val++sp)) w2)
  (hkp:∀ w w',aV C.K w w'->Kp UU w w':=by first|exact λ_ _ h=>h|exact λ_ _ h=>h.iD):ao C m full (o::r) K F H w:=by
 have hlen:=hE.len hcs
 refine VO.app hC e0 ho xD kX Dz hU hzo hd hN hl (known:=[]) (spare:=[]) (del:=none) (n:=0) (c:=0) (mm:=1) (news:=cs.map .val) (.inl ⟨rfl,rfl,rfl,rfl,rfl,rfl,by omega⟩) (.inl gg) dw dw ab ab ⟨rfl,rfl,af _⟩ ⟨rfl,rfl,cU (hE.ok hcs)⟩ (by rw[List.length_map,hlen];omega) ab
  (λw1 β k1 b1 ho=>⟨_,_,rfl,.inr ⟨β s,0,rfl,fJ (rest:=[]) (ho.own s (.base (List.mem_append_right _ (List.mem_singleton.2 rfl))) _ _ hs) (by rw[List.append_nil])⟩⟩) (λw2 cap sp ρ k2 b2 eV h1 h2 h3 h4 h5=> ?_)
 have:=hK w2 cap sp k2 b2 ⟨rfl,.cons (hE.kp hcs (hkp _ _ k2)) .nil,h4,h5,by omega,h2,by simpa using h3⟩
 have e':([cs].flatten.map AV.val++sp)=([]++cs.map .val)++sp:=by simp
 rw[e'] at this
 exact this
theorem VO.nb (hC:C.Ok) {α:Type} {E:World->List Value->α->Prop} {sz:Nat} (hE:fU E sz) {t e te:TypeId} {it ie:TI} {x y:Operand} {s i n c:Nat} {cs:List Value} {a:α} {vs:List (List Value)} {sp:List AV} {es:List α} {dst:Nat}
  (e0:stepOf C full F H o=.call (.op o [.row i 0 n c,.row s 0 1 1])) (ho:o.op=.call { callee:=.builtin .append,args:=#[x,y],argTypes:=#[t,t] })
  (xD:C.ti t=some it) (kX:it.elem=some (e,sz)) (Dz:C.ti e=some ie) (hU:C.K.fz e=false) (hzo:ie.zero.cells.toList.all bc=true)
  (hd:o.dst=some dst) (hN:dst<C.N) (hl:lvl C.SU m o=2) (gg:H dst=none\/some i=some dst) (hi:H i=some (e,vs.flatten.map .val++sp)) (hr:bU E sz w n c vs sp es) (hs:H s=some (te,cs.map .val)) (hcs:E w cs a) (gQ:(n+1)*(24*sz)<=140737488355328)
  (hK:∀ w2 cap uJ ρ,aV C.K w w2->C.Old w2->(∀ x,bc (ρ x)=true)->bU E sz w2 (n+1) cap (vs++[cs]) uJ (es++[a])->ao C m full r K ((F.forget (some i) ρ).bP o.dst (.row dst 0 (n+1) cap)) ((H.forget (some i) ρ).put dst (e,(vs++[cs]).flatten.map AV.val++uJ)) w2)
  (hkp:∀ w w',aV C.K w w'->Kp UU w w':=by first|exact λ_ _ h=>h|exact λ_ _ h=>h.iD):ao C m full (o::r) K F H w:=by
 have hlen:=hE.len hcs
 obtain⟨k1,k2⟩:=hr.el.ok hE
 have DV:=hr.len
 refine VO.app hC e0 ho xD kX Dz hU hzo hd hN hl (known:=vs.flatten.map .val) (spare:=sp) (del:=some i) (n:=n) (c:=c) (mm:=1) (news:=cs.map .val) (.inr ⟨i,rfl,hi,rfl⟩) gg (by rw[List.length_map,k2,DV]) hr.fl hr.le hr.cm ⟨af _,hr.sl,af _⟩ ⟨cU k1,hr.so,cU (hE.ok hcs)⟩ (by rw[List.length_map,hlen];omega) gQ
  (λw1 β k1 b1 ho=>⟨_,_,rfl,.inr ⟨β s,0,rfl,fJ (rest:=[]) (ho.own s (.base (List.mem_append_right _ (List.mem_singleton.2 rfl))) _ _ hs) (by rw[List.append_nil])⟩⟩) (λw2 cap uJ ρ k2 b2 eV h1 h2 h3 h4 h5=> ?_)
 have e:(vs.flatten.map AV.val++cs.map .val)=(vs++[cs]).flatten.map AV.val:=by simp
 have:=hK w2 cap uJ ρ k2 b2 eV ⟨by rw[List.length_append,hr.len];rfl,(hr.el.kp hE (hkp _ _ k2)).snoc (hE.kp hcs (hkp _ _ k2)),h4,h5,by omega,h2,by rw[<-e];exact h3⟩
 rw[<-e] at this
 exact this
end
end
section
open Go.RowKit
theorem Jb {w:World} {a:Option Addr} {len cap:Nat} {zs:List Int}
  (h:(a=none/\len=0/\cap=0/\zs=[])\/∃ x,a=some x/\len<=cap/\cap<=maxLen/\zs.length=cap/\(∀ i,i<zs.length->w.cell? (x.add i)=some (.int .u32 (zs.getD i 0)))/\∀ n∈zs,(Lit.int .u32 n).wf=true):
  ∃ xs:List Nat,cw xs/\Rd w 1 (.slice a len cap) len (ints .u32 xs):=by
 rcases h with ⟨rfl,rfl,rfl,rfl⟩|⟨x,rfl,h1,h2,h3,h4,h5⟩
 ·exact⟨[],cw.nil,Rd.nil w 1⟩
 ·have hb:∀ n∈zs,0<=n/\n<4294967296:=λn hn=>by
   have:=h5 n hn
   simp[Lit.wf,IntKind.min,IntKind.max,IntKind.signed,IntKind.bits] at this
   omega
  refine⟨(zs.take len).map Int.toNat,?_,?_⟩
  ·intro y hy
   obtain⟨z,hz,rfl⟩:=List.mem_map.1 hy
   have:=hb z (List.mem_of_mem_take hz)
   omega
  ·refine⟨_,cap,rfl,h1,h2,by simp;omega,λhn=> ?_⟩
   have iT:0<zs.length:=by omega
   have h0:=h4 0 iT
   have hsp:x.spot=none:=by
    have:x.add 0=x:=by simp[Addr.add]
    rw[this] at h0
    unfold World.cell? at h0
    split at h0
    ·split at h0
     ·cases h0
     ·rename_i hs;simpa using hs
    ·cases h0
   obtain⟨b,off,sp⟩:=x
   simp only at hsp
   subst hsp
   refine⟨b,off,rfl,λj u hj=> ?_⟩
   simp only[ints,List.map_map,List.getElem?_map,List.getElem?_take] at hj
   split at hj
   ·rename_i hjl
    have hjz:j<zs.length:=by omega
    rw[List.getElem?_eq_getElem hjz] at hj
    simp at hj
    subst hj
    have h6:=h4 j hjz
    have h7:=hb _ (List.getElem_mem hjz)
    rw[show (⟨b,off,none⟩:Addr).add j=⟨b,off+j,none⟩ by unfold Addr.add;split <;> simp_all] at h6
    rw[h6]
    simp[List.getD,hjz]
    omega
   ·cases hj
theorem Ar {α:Type} {l:List α} (h:l.length=2):∃ a b,l=[a,b]:=by
 match l,h with
 | [a,b],_=>exact⟨a,b,rfl⟩
theorem LZ {α:Type} {l:List α} (h:l.length=4):∃ a b c d,l=[a,b,c,d]:=by
 match l,h with
 | [a,b,c,d],_=>exact⟨a,b,c,d,rfl⟩
section
variable {H:Type} {enc:TypeId×Value->H} {w:World} {held:Bool}
theorem Fa {fuel:Nat} {cs:List Value} {x:DataW H×List MemPlace} (h:DataW.trod enc Tryz.prog w 0 (λ_=>true) held fuel 30 cs=some x):∃ p n c xs,cs=[.slice p n c]/\Rd w 1 (.slice p n c) n (ints .u32 xs)/\cw xs:=by
 rcases ChangeShapes.open_ints Tryz.underlying30 Tryz.underlying191 (by kernel_rfl) h with ⟨rfl,_⟩|⟨a,len,cap,zs,rfl,_,hl,hc,hz,_,hcell,hwf⟩
 ·exact⟨none,0,0,[],rfl,Rd.nil w 1,cw.nil⟩
 ·rw[if_pos rfl] at hz
  obtain⟨xs,rY,rF⟩:=Jb (w:=w) (.inr ⟨a,rfl,hl,hc,hz,hcell,hwf⟩)
  exact⟨some a,len,cap,xs,rfl,rF,rY⟩
theorem CO {fuel:Nat} {cs:List Value} {x:DataW H×List MemPlace} (h:DataW.trod enc Tryz.prog w 0 (λ_=>true) held fuel 32 cs=some x):∃ s p c xs,cs=[.bool s,.slice p xs.length c]/\eQ w (.agg #[.bool s,.slice p xs.length c]) s xs:=by
 obtain⟨ys,n,rfl,rfl,hl,jx,hf⟩:=DataW.trod_struct Tryz.underlying32 h
 have xm:cs.length=2:=by
  have c:Tryz.prog.cellsOf 32=2:=by kernel_rfl
  rw[c] at hl;exact hl
 have hy2:ys.length=2:=jx
 obtain⟨a,b,rfl⟩:∃ a b,cs=[a,b]:=by
  exact Ar xm
 obtain⟨y0,y1,rfl⟩:∃ a b,ys=[a,b]:=by
  exact Ar hy2
 have c0:Tryz.prog.cellsOf 4=1:=by kernel_rfl
 have c1:Tryz.prog.cellsOf 30=1:=by kernel_rfl
 have h0:=hf 0 _ rfl
 have h1:=hf 1 _ rfl
 change DataW.trod enc Tryz.prog w 0 (λ_=>true) held n 4 (([a,b].drop 0).take (Tryz.prog.cellsOf 4))=some y0 at h0
 change DataW.trod enc Tryz.prog w 0 (λ_=>true) held n 30 (([a,b].drop 1).take (Tryz.prog.cellsOf 30))=some y1 at h1
 rw[c0] at h0
 rw[c1] at h1
 obtain⟨s,hs,_⟩:=DataW.trod_bool Tryz.underlying4 h0
 obtain⟨p,m,c,xs,hp,hr,hx⟩:=Fa h1
 simp only[List.drop_zero,List.take_succ_cons,List.take_zero,List.cons.injEq,and_true] at hs
 simp only[List.drop_succ_cons,List.drop_zero,List.take_succ_cons,List.take_zero,List.cons.injEq,and_true] at hp
 subst hs hp
 obtain⟨_,_,hv,_,_,ey⟩:=hr.u32
 subst ey
 exact⟨s,p,c,xs,rfl,p,c,rfl,hr,hx⟩
theorem Ma {fuel:Nat} {cs:List Value} {x:DataW H×List MemPlace} (h:DataW.trod enc Tryz.prog w 0 (λ_=>true) held fuel 34 cs=some x):∃ s p n c t r m d xs ys,cs=[.bool s,.slice p n c,.bool t,.slice r m d]/\cJ w (.agg #[.bool s,.slice p n c,.bool t,.slice r m d]) s xs t ys:=by
 obtain⟨zs,n,rfl,rfl,hl,jx,hf⟩:=DataW.trod_struct Tryz.underlying34 h
 have xm:cs.length=4:=by
  have c:Tryz.prog.cellsOf 34=4:=by kernel_rfl
  rw[c] at hl;exact hl
 have hy2:zs.length=2:=jx
 obtain⟨a,b,a',b',rfl⟩:∃ a b a' b',cs=[a,b,a',b']:=by
  exact LZ xm
 obtain⟨y0,y1,rfl⟩:∃ a b,zs=[a,b]:=by
  exact Ar hy2
 have c0:Tryz.prog.cellsOf 32=2:=by kernel_rfl
 have h0:=hf 0 _ rfl
 have h1:=hf 1 _ rfl
 change DataW.trod enc Tryz.prog w 0 (λ_=>true) held n 32 (([a,b,a',b'].drop 0).take (Tryz.prog.cellsOf 32))=some y0 at h0
 change DataW.trod enc Tryz.prog w 0 (λ_=>true) held n 32 (([a,b,a',b'].drop 2).take (Tryz.prog.cellsOf 32))=some y1 at h1
 rw[c0] at h0 h1
 obtain⟨s,p,c,xs,e0,n0⟩:=CO h0
 obtain⟨t,r,d,ys,e1,n1⟩:=CO h1
 simp only[List.drop_zero,List.take_succ_cons,List.take_zero,List.cons.injEq,and_true] at e0
 simp only[List.drop_succ_cons,List.drop_zero,List.take_succ_cons,List.take_zero,List.cons.injEq,and_true] at e1
 obtain⟨rfl,rfl⟩:=e0
 obtain⟨rfl,rfl⟩:=e1
 exact⟨_,_,_,_,_,_,_,_,xs,ys,rfl,_,_,_,_,rfl,n0,n1⟩
theorem cJ.wide {v:Value} {s t:Bool} {xs ys:List Nat} (h:cJ w v s xs t ys):ax w v (rq s xs t ys) 9223372036854775807:=by
 obtain⟨p,c,r,d,rfl,h1,h2⟩:=id h
 obtain⟨_,_,_,kW,_⟩:=h1
 obtain⟨_,_,_,ll,_⟩:=h2
 obtain⟨_,_,_,a1,a2,_⟩:=kW.u32
 obtain⟨_,_,_,b1,b2,_⟩:=ll.u32
 exact⟨s,xs,t,ys,h,rfl,by omega,by omega⟩
theorem Fb {α:Type} {p:Nat->α->Prop}:∀ (n:Nat),(∀ i,i<n->∃ q,p i q)->∃ qs:List α,qs.length=n/\∀ (i:Nat) (q:α),qs[i]? =some q->p i q
 | 0,_=>⟨[],rfl,λi q h=>by simp at h⟩
 | n+1,h=>by
   obtain⟨qs,hl,hq⟩:=Fb n (λi hi=>h i ab)
   obtain⟨q,hqn⟩:=h n ab
   refine⟨qs++[q],by simp[hl],λi x hx=> ?_⟩
   by_cases hi:i<n
   ·rw[List.getElem?_append_left ab] at hx
    exact hq i x hx
   ·rw[List.getElem?_append_right ab,hl] at hx
    have:i=n:=by
     have:=(List.getElem?_eq_some_iff.1 hx).1
     simp at this
     omega
    subst this
    simp at hx
    subst hx
    exact hqn
end
section
variable {H:Type} {enc:TypeId×Value->H} {w:World} {held:Bool}
set_option maxRecDepth 100000 in
theorem GI {α:Type} {E:World->List Value->α->Prop} {sz:Nat} {t e:TypeId} (hu:Tryz.prog.underlying t=some (.slice e)) (hc:Tryz.prog.cellsOf e=sz) (rK:0<sz)
  (kX:∀ {fuel:Nat} {cs:List Value} {x:DataW H×List MemPlace},DataW.trod enc Tryz.prog w 0 (λ_=>true) held fuel e cs=some x->∃ a,E w cs a)
  {v:Value} {d:DataW H} {ps:List MemPlace} {r:_root_.Go.Reach} {b0:Nat} (hv:Value.okWide Tryz.prog w r b0 t v) (h:DataW.Trod enc Tryz.prog w 0 (λ_=>true) held t v d ps):∃ es:List α,bM E sz w v es:=by
 obtain⟨p,len,cap,rfl⟩:=WideShapes.okWide_slice hu hv
 obtain⟨fuel,hf⟩:=h
 rcases DataW.trod_slice hu hf with ⟨e,_⟩|⟨a,len',cap',elems,rest,n,_,e,_,_,hl,hm,hle,sW,_⟩
 ·simp[Value.cells] at e
  obtain⟨rfl,rfl,rfl⟩:=e
  exact⟨[],bM.nil _ _ _⟩
 ·simp[Value.cells] at e
  obtain⟨rfl,rfl,rfl⟩:=e
  rw[hc] at sW
  have each:∀ i,i<len->∃ q,∃ b off cs,some a=some ⟨b,off,none⟩/\(∀ (j:Nat) (u:Value),cs[j]? =some u->w.cell? ⟨b,off+i*sz+j,none⟩=some u)/\E w cs q:=by
   intro i hi
   obtain⟨y,hy⟩:∃ y,elems[i]? =some y:=⟨_,List.getElem?_eq_getElem ab⟩
   have hb:=sW i hi
   rw[hy,Option.bind_eq_some_iff] at hb
   obtain⟨cs,hcs,ht⟩:=hb
   obtain⟨q,hq⟩:=kX ht
   obtain⟨_,hlen,hcell⟩:=World.cells?_some hcs
   obtain⟨b,off,spot⟩:=a
   have hspot:spot=none:=by
    obtain⟨y0,Hd⟩:∃ y,elems[0]? =some y:=⟨_,List.getElem?_eq_getElem ab⟩
    have mX:=sW 0 ab
    rw[Hd,Option.bind_eq_some_iff] at mX
    obtain⟨cs0,hcs0,ht0⟩:=mX
    obtain⟨_,hlen0,Fc⟩:=World.cells?_some hcs0
    have h00:=Fc 0 rK
    rw[List.getElem?_eq_getElem ab] at h00
    have g0:=World.cell?_spot h00
    simpa [Addr.add] using g0
   subst hspot
   refine⟨q,b,off,cs,rfl,λj u hj=> ?_,hq⟩
   have hjl:j<sz:=by have:=(List.getElem?_eq_some_iff.1 hj).1;omega
   have:=hcell j hjl
   rw[WideShapes.add_plain,WideShapes.add_plain] at this
   rw[this]
   exact hj
  obtain⟨qs,hql,hqs⟩:=Fb len each
  subst hql
  exact⟨qs,_,_,rfl,hl,hm,λi q hq=>hqs i q hq⟩
end
def lf (q:Rat):Int:=q.num.fmod q.den
def tZ (q:Rat):Rat:=q-(q.floor:Rat)
theorem den_pos (q:Rat):(0:Int)<q.den:=by have:=q.den_nz;omega
theorem CP (q:Rat):(0:Rat)<((q.den:Int):Rat):=by
 have:=den_pos q
 exact Rat.intCast_lt_intCast.2 this
theorem fl_eq (q:Rat):q.num.fdiv q.den=q.floor:=by
 rw[Rat.floor_def,Int.fdiv_eq_ediv_of_nonneg _ (Int.le_of_lt (den_pos q))]
theorem lf_eq (q:Rat):lf q=q.num-q.den*q.floor:=by
 unfold lf
 rw[Int.fmod_eq_emod_of_nonneg _ (Int.le_of_lt (den_pos q)),Int.emod_def,Rat.floor_def]
theorem yL (q:Rat):0<=lf q:=by
 unfold lf
 rw[Int.fmod_eq_emod_of_nonneg _ (Int.le_of_lt (den_pos q))]
 exact Int.emod_nonneg _ (by have:=den_pos q;omega)
theorem lf_lt (q:Rat):lf q<q.den:=by
 unfold lf
 rw[Int.fmod_eq_emod_of_nonneg _ (Int.le_of_lt (den_pos q))]
 exact Int.emod_lt_of_pos _ (den_pos q)
theorem gRn {P:Prop} (h:P:=by grind):P:=h
theorem num_eq (q:Rat):(q.num:Rat)=q*((q.den:Int):Rat):=by
 have h:q=(q.num:Rat)/((q.den:Int):Rat):=by rw[<-Rat.divInt_eq_div];exact (Rat.num_divInt_den q).symm
 have hd:=CP q
 rw[Rat.div_def] at h
 have h2:q*((q.den:Int):Rat)=(q.num:Rat)*(((q.den:Int):Rat)⁻¹*((q.den:Int):Rat)):=by rw[<-Rat.mul_assoc,<-h]
 rw[h2,Rat.inv_mul_cancel _ gRn,Rat.mul_one]
theorem GJ (q:Rat):(lf q:Rat)=tZ q*((q.den:Int):Rat):=by
 have h:=lf_eq q
 have h2:(lf q:Rat)=(q.num:Rat)-((q.den:Int):Rat)*(q.floor:Rat):=by rw[h,Rat.intCast_sub,Rat.intCast_mul]
 rw[h2,num_eq]
 unfold tZ
 grind
theorem CQ (q:Rat):0<=tZ q:=by
 have:=Rat.floor_le q
 unfold tZ;grind
theorem CR (q:Rat):Rat.divInt (lf q) q.den=tZ q:=by
 rw[Rat.divInt_eq_div,GJ,Rat.div_def,Rat.mul_assoc,Rat.mul_inv_cancel _ (by have:=CP q;grind),Rat.mul_one]
theorem lf_zero {q:Rat}:lf q=0↔tZ q=0:=by
 constructor
 ·intro h;rw[<-CR,h,Rat.zero_divInt]
 ·intro h
  have:=GJ q
  rw[h,Rat.zero_mul] at this
  exact Rat.intCast_inj.1 this
theorem Jc (n:Int):Rat.divInt n 1=(n:Rat):=by rw[Rat.divInt_eq_div];show (n:Rat)/1=_;rw[Rat.div_def];grind
theorem wq {q:Rat}:tZ q=0↔q.den=1:=by
 rw[<-lf_zero,lf_eq]
 constructor
 ·intro h
  have h1:((q.den:Int))∣q.num:=⟨q.floor,by omega⟩
  have h2:=q.reduced
  have h3:q.den∣q.num.natAbs:=by have:=Int.natAbs_dvd_natAbs.2 h1;simpa using this
  have h4:Nat.gcd q.num.natAbs q.den=q.den:=Nat.gcd_eq_right h3
  unfold Nat.Coprime at h2
  omega
 ·intro h
  rw[Rat.floor_def,h]
  simp
end
set_option maxRecDepth 4000
section
open Go.RowKit
attribute [local irreducible] ao VS
theorem Sz.left {q:Rat} {k:Nat} (h:bW q k):Sz (lf q) k:=Sz.le h.2 (by have:=yL q;have:=lf_lt q;omega)
theorem Ff:(0:Rat).floor=0/\lf 0=0/\((0:Rat).den:Int)=1:=by decide+kernel
theorem CS (v:Value) (q:Rat) (k:Nat) (w:World) (hv:ax w v q k) (hk:k<=67108864):
  Calls Tryz.prog 173 #[v] w λe w'=>∃ s1 p1 n1 c1 s2 p2 n2 c2 s3 p3 n3 c3,e=.returned (.tuple #[.agg #[.bool s1,.slice p1 n1 c1],.agg #[.bool s2,.slice p2 n2 c2],.agg #[.bool s3,.slice p3 n3 c3]])/\
   aj w' w.heap.size (.agg #[.bool s1,.slice p1 n1 c1]) q.floor/\bH w' (.agg #[.bool s2,.slice p2 n2 c2]) (lf q)/\bH w' (.agg #[.bool s3,.slice p3 n3 c3]) (q.den:Int)/\aw w w':=by
 have hs:=hv.lM
 obtain⟨s,xs,t,ys,dZ,rfl,hx,hy⟩:=hv
 have og:=dZ
 obtain⟨p,c,r,d,rfl,_,_⟩:=dZ
 have hu:bd k<=67108864:=by unfold bd;omega
 refine ae (C:=aM Tryz.prog w _) (args:=[_]) Tryz.func173 rfl Tryz.ntmps173 (bl rfl) ?_
 refine aa ?_
 refine VO.call rfl rfl (fk Tryz.func97) (λaC aY aH=>(jq s t xs ys _ aC (og.kp aY) ab ab).mono ?_)
 rintro e w1 ⟨rfl,aD⟩
 cases hq:nj s xs t ys
 ·refine aF aD ?_
  intro bQ _ bb1
  refine VO.cI rfl rfl (fk Tryz.func40) (λaN bD bf=>mj 1 aN ab ab) (λaN bD bf w2 s2 p2 n2 c2 q2 aQ cL _ bb2=>wV rfl ?_)
  refine aa ?_
  refine au ?_;intro wz kz bz
  obtain⟨z1,z2,z3⟩:=Ff
  rw[oe hq,z1,z2,z3]
  exact⟨_,_,_,_,_,_,_,_,_,_,_,_,rfl,aj.zero _ _,bH.zero _,q2.kr,bz⟩
 ·refine aF aD ?_
  intro bQ _ bb1
  have hr:=lJ og hq
  refine VO.call rfl rfl (fk Tryz.func147) (λaN bD bf=>(jc _ _ (rq s xs t ys).num ((rq s xs t ys).den:Int) _ _ aN (hr.parts.1.ki hs.1) (hr.parts.2.ki hs.2) ab ab).mono ?_)
  rintro e w2 ⟨Mb,aQ⟩
  obtain⟨v2,u2,rfl,h2,h2'⟩:=dM Mb (by have:=den_pos (rq s xs t ys);omega)
  obtain⟨s2,p2,n2,c2,rfl⟩:=h2.form
  obtain⟨t2,r2,m2,d2,rfl⟩:=h2'.form
  refine⟨_,rfl,aQ,λcL _ bb2=>wV rfl ?_⟩
  (repeat (first|refine wN ?_|refine wP rfl ?_|refine IE rfl ?_|refine wO rfl rfl ?_))
  refine VS.vC (cH _ _) (nX _ _) 7 rfl ?_
  (repeat' (first|refine VA.go rfl ?_|refine VA.fin rfl ?_|refine VA.dY _ rfl rfl ?_|refine VA.cons rfl ?_ ?_|exact VA.nil rfl))
  all_goals
   refine aa ?_
   refine au ?_;intro wz kz bz
   exact⟨_,_,_,_,_,_,_,_,_,_,_,_,rfl,((h2.k).cast (fl_eq _)).mono bf.size,h2'.kr,hr.parts.2.k,bz⟩
theorem Mc (f:FuncId) (b:Bool) (v:Value) (q:Rat) (k:Nat) (w:World) (hf:jK Tryz.prog f) (hv:ax w v q k) (hk:k<=67108864)
  (hF:∀ (s1:Bool) (p1:Option Addr) (n1 c1:Nat) (s2:Bool) (p2:Option Addr) (n2 c2:Nat) (s3:Bool) (p3:Option Addr) (n3 c3:Nat) (w:World),bH w (.agg #[.bool s1,.slice p1 n1 c1]) q.floor->bH w (.agg #[.bool s2,.slice p2 n2 c2]) (lf q)->bH w (.agg #[.bool s3,.slice p3 n3 c3]) (q.den:Int)->
   Calls Tryz.prog f #[.agg #[.bool s1,.slice p1 n1 c1],.agg #[.bool s2,.slice p2 n2 c2],.agg #[.bool s3,.slice p3 n3 c3]] w λe w'=>e=.returned (.bool b)/\aw w w'):
  Calls Tryz.prog 141 #[v,.func (.func f) #[] #[]] w λe w'=>∃ r,e=.returned r/\aj w' w.heap.size r (if lf q≠0/\b=true then q.floor+1 else q.floor)/\aw w w':=by
 obtain⟨s,p,n,c,t,y,m,d,rfl⟩:=hv.form
 have hs:=hv.lM
 have hu:bd k<=67108864:=by unfold bd;omega
 refine ae (C:=aM Tryz.prog w _) (args:=[_,_]) Tryz.func141 rfl Tryz.ntmps141 (bl rfl) ?_
 refine aa ?_
 refine VO.call rfl rfl (fk Tryz.func173) (λaC aY aH=>(CS _ q k aC hv.k hk).mono ?_)
 rintro e w1 ⟨s1,p1,n1,c1,s2,p2,n2,c2,s3,p3,n3,c3,rfl,q1,q2,q3,aD⟩
 skip
 refine aF aD ?_
 intro bQ _ bb1
 refine VO.call rfl rfl (fk Tryz.func112) (λaN bD bf=>(jA _ (lf q) (bd k) aN (q2.ki (Sz.left hs))).mono ?_)
 rintro e w2 ⟨rfl,aQ⟩
 by_cases h0:lf q=0
 ·rw[show (lf q).sign=0 by rw[h0];rfl,if_neg (λe=>e.1 h0)]
  refine aF aQ ?_
  intro cL _ bb2
  refine au ?_;intro wz kz bz
  exact⟨_,rfl,(q1.k).mono aH.size,bz⟩
 ·rw[dy (show 0<lf q by have:=yL q;omega)]
  refine aF aQ ?_
  intro cL _ bb2
  refine VO.call rfl rfl hf (λcu cM cX=>(hF _ _ _ _ _ _ _ _ _ _ _ _ cu q1.kr q2.k q3.k).mono ?_)
  rintro e w3 ⟨rfl,ck⟩
  cases b with
  | false=>
    rw[if_neg (λe=>by cases e.2)]
    refine aF ck ?_
    intro dR _ bb3
    refine au ?_;intro wz kz bz
    exact⟨_,rfl,(q1.k).mono aH.size,bz⟩
  | true=>
    rw[if_pos ⟨h0,rfl⟩]
    refine aF ck ?_
    intro dR _ bb3
    refine VO.cI rfl rfl (fk Tryz.func40) (λdJ eu eO=>mj 1 dJ ab ab) (λdJ eu eO w4 s4 p4 n4 c4 q4 fe ir _ nu=>wV rfl ?_)
    refine aa ?_
    refine VO.cI rfl rfl (fk Tryz.func95) (λfI fY im=>vI _ _ q.floor 1 (bd k) 1 fI (q1.ki (Sz.floor hs)) (q4.ki (Sz.small fc)) ab ab) (λfI fY im w5 s5 p5 n5 c5 q5 il lG _ tW=>wV rfl ?_)
    refine aa ?_
    refine au ?_;intro wz kz bz
    exact⟨_,rfl,(q5.k).mono im.size,bz⟩
theorem Au (s1:Bool) (p1:Option Addr) (n1 c1:Nat) (s2:Bool) (p2:Option Addr) (n2 c2:Nat) (s3:Bool) (p3:Option Addr) (n3 c3:Nat) (w:World):
  Calls Tryz.prog 142 #[.agg #[.bool s1,.slice p1 n1 c1],.agg #[.bool s2,.slice p2 n2 c2],.agg #[.bool s3,.slice p3 n3 c3]] w λe w'=>e=.returned (.bool false)/\aw w w':=by
 refine ae (C:=aM Tryz.prog w _) (args:=[_,_,_]) Tryz.func142 rfl Tryz.ntmps142 (bl rfl) ?_
 refine aa ?_
 refine au ?_;intro wz kz bz
 exact⟨rfl,bz⟩
theorem CT (v:Value) (q:Rat) (k:Nat) (w:World) (hv:ax w v q k) (hk:k<=67108864):
  Calls Tryz.prog 85 #[v] w λe w'=>∃ r,e=.returned r/\aj w' w.heap.size r q.floor/\aw w w':=by
 obtain⟨s,p,n,c,t,y,m,d,rfl⟩:=hv.form
 refine ae (C:=aM Tryz.prog w _) (args:=[_]) Tryz.func85 rfl Tryz.ntmps85 (bl rfl) ?_
 refine aa ?_
 refine VO.cI rfl rfl (fk Tryz.func141) (λaC aY aH=>Mc 142 false _ q k aC (fk Tryz.func142) hv.k hk (λs1 p1 n1 c1 s2 p2 n2 c2 s3 p3 n3 c3 w _ _ _=>Au s1 p1 n1 c1 s2 p2 n2 c2 s3 p3 n3 c3 w)) (λaC aY aH w1 s1 p1 n1 c1 q1 aD bQ _ bb1=>wV rfl ?_)
 refine aa ?_
 refine au ?_;intro wz kz bz
 exact⟨_,rfl,((q1.k).cast (if_neg (λe=>by cases e.2))).mono aH.size,bz⟩
set_option maxRecDepth 4000
theorem bW.whole {X:Int} {k:Nat} (h:Sz X k):bW (X:Rat) (bd k):=⟨h.mono (by unfold bd;omega),Sz.mono (Sz.small fc:Sz ((1:Nat):Int) 1) (by unfold bd;omega)⟩
theorem Av (v:Value) (q:Rat) (k:Nat) (w:World) (hv:ax w v q k) (hk:k<=100000000):
  Calls Tryz.prog 185 #[v] w λe w'=>∃ r,e=.returned r/\aj w' w.heap.size r q.floor/\aw w w':=by
 have hs:=hv.lM
 obtain⟨s,xs,t,ys,dZ,rfl,hx,hy⟩:=hv
 have og:=dZ
 obtain⟨p,c,r,d,rfl,_,_⟩:=dZ
 have hu:bd k<=100000000:=by unfold bd;omega
 refine ae (C:=aM Tryz.prog w _) (args:=[_]) Tryz.func185 rfl Tryz.ntmps185 (bl rfl) ?_
 refine aa ?_
 refine VO.call rfl rfl (fk Tryz.func155) (λaC aY aH=>(jr s t xs ys _ aC (og.kp aY) ab ab).mono ?_)
 rintro e w1 ⟨rfl,aD⟩
 cases hq:nj s xs t ys
 ·refine aF aD ?_
  intro bQ _ bb1
  refine au ?_;intro wz kz bz
  rw[oe hq]
  exact⟨_,rfl,aj.zero _ _,bz⟩
 ·refine aF aD ?_
  intro bQ _ bb1
  have hr:=lJ og hq
  refine VO.call rfl rfl (fk Tryz.func170) (λaN bD bf=>(jd _ _ (rq s xs t ys).num ((rq s xs t ys).den:Int) _ _ aN (hr.parts.1.ki hs.1) (hr.parts.2.ki hs.2) ab ab).mono ?_)
  rintro e w2 ⟨Mb,aQ⟩
  obtain⟨v2,u2,rfl,h2,h2'⟩:=dM Mb (by have:=den_pos (rq s xs t ys);omega)
  obtain⟨s2,p2,n2,c2,rfl⟩:=h2.form
  obtain⟨t2,r2,m2,d2,rfl⟩:=h2'.form
  refine aF aQ ?_
  intro cL _ bb2
  refine au ?_;intro wz kz bz
  exact⟨_,rfl,((h2.k).cast (fl_eq _)).mono bf.size,bz⟩
theorem rn (v:Value) (X:Int) (k:Nat) (w:World) (hv:bt w v X k) (hk:k<=100000000):
  Calls Tryz.prog 184 #[v] w λe w'=>∃ r,e=.returned r/\aE w' w.heap.size r (X:Rat)/\aw w w':=by
 obtain⟨s,p,n,c,rfl⟩:=hv.form
 refine ae (C:=aM Tryz.prog w _) (args:=[_]) Tryz.func184 rfl Tryz.ntmps184 (bl rfl) ?_
 refine aa ?_
 refine VO.cI rfl rfl (fk Tryz.func136) (λaC aY aH=>gZ 1 aC ab ab) (λaC aY aH w1 s1 p1 n1 c1 q1 aD bQ _ bb1=>wV rfl ?_)
 refine aa ?_
 refine VO.call rfl rfl (fk Tryz.func135) (λaN bD bf=>(jV _ _ X 1 k 1 aN hv.k (q1.ki (Sz.small fc)) ab ab).mono ?_)
 rintro e w2 ⟨r2,rfl,q2,aQ⟩
 obtain⟨s2,p2,n2,c2,t2,y2,m2,d2,rfl⟩:=q2.form
 refine aF aQ ?_
 intro cL _ bb2
 refine au ?_;intro wz kz bz
 exact⟨_,rfl,((q2.k).cast (Jc X)).mono bf.size,bz⟩
theorem wu (w:World):
  Calls Tryz.prog 158 #[] w λe w'=>∃ r,e=.returned r/\aE w' w.heap.size r ((1:Int):Rat)/\aw w w':=by
 refine ae (C:=aM Tryz.prog w _) (args:=[]) Tryz.func158 rfl Tryz.ntmps158 (bl rfl) ?_
 refine aa ?_
 refine VO.cI rfl rfl (fk Tryz.func136) (λaC aY aH=>gZ 1 aC ab ab) (λaC aY aH w1 s1 p1 n1 c1 q1 aD bQ _ bb1=>wV rfl ?_)
 refine aa ?_
 refine VO.cR rfl rfl (fk Tryz.func184) (λaN bD bf=>rn _ 1 1 aN (q1.ki (Sz.small fc)) ab) (λaN bD bf w2 s2 p2 n2 c2 t2 y2 m2 d2 q2 aQ cL _ bb2=>wV rfl ?_)
 refine aa ?_
 refine au ?_;intro wz kz bz
 exact⟨_,rfl,(q2.k).mono bf.size,bz⟩
theorem CU (v:Value) (q:Rat) (k:Nat) (w:World) (hv:ax w v q k) (hk:k<=30000000):
  Calls Tryz.prog 157 #[v] w λe w'=>∃ r,e=.returned r/\aE w' w.heap.size r (tZ q)/\aw w w':=by
 have hs:=hv.lM
 obtain⟨s,p,n,c,t,y,m,d,rfl⟩:=hv.form
 have hu:bd k<=30000000:=by unfold bd;omega
 have yt:bd (bd k)=bd k:=by unfold bd;omega
 refine ae (C:=aM Tryz.prog w _) (args:=[_]) Tryz.func157 rfl Tryz.ntmps157 (bl rfl) ?_
 refine aa ?_
 refine VO.cI rfl rfl (fk Tryz.func185) (λaC aY aH=>Av _ q k aC hv.k ab) (λaC aY aH w1 s1 p1 n1 c1 q1 aD bQ _ bb1=>wV rfl ?_)
 refine aa ?_
 refine VO.cR rfl rfl (fk Tryz.func184) (λaN bD bf=>rn _ q.floor (bd k) aN (q1.ki (Sz.floor hs)) ab) (λaN bD bf w2 s2 p2 n2 c2 t2 y2 m2 d2 q2 aQ cL _ bb2=>wV rfl ?_)
 refine aa ?_
 refine VO.cR rfl rfl (fk Tryz.func58) (λcu cM cX=>gj _ _ q (q.floor:Rat) k (bd k) cu hv.k (q2.ki (yt▸bW.whole (Sz.floor hs))) ab ab) (λcu cM cX w3 s3 p3 n3 c3 t3 y3 m3 d3 q3 ck dR _ bb3=>wV rfl ?_)
 refine aa ?_
 refine au ?_;intro wz kz bz
 exact⟨_,rfl,(q3.k).mono cX.size,bz⟩
end
section
open Go.RowKit
theorem GK (x:Int) (h0:0<=x) (h1:x<18446744073709551616):bits .or .u64 0 x=x:=by
 rw[u64_orv0 0 x ab ab h0 ab h1];omega
section
variable {P:Program}
end
section
variable {C:Cx} {F:Fr} {H:Hp} {w:World} {m:Option (List FuncId)} {full:Array Oper} {K:Fr->Hp->World->Prop} {o:Oper} {r:List Oper}
end
set_option maxRecDepth 4000
theorem Md {X:Int} (h:X.natAbs<4294967296):limbs X.natAbs=if X=0 then [] else [X.natAbs]:=by
 split
 ·rename_i e;rw[e];exact bG
 ·rename_i e
  have:=lQ (xs:=[X.natAbs]) (cw.cons h cw.nil) (λx hx=>by simp at hx;omega)
  rw[eB,dx] at this
  simpa using this
theorem u64_neg (a:Nat) (h:a<4294967296):IntKind.i64.wrap (IntKind.u64.wrap (0-(a:Int)))= -(a:Int):=by
 rw[IntKind.wrap_i64,IntKind.wrap_u64];omega
theorem Me {xs:List Nat} (hl:cw xs) {z x:Nat} (hx:xs[z]? =some x) (hz:z<2):
  bits .or .u64 ((ag (xs.take z):Nat):Int) (IntKind.u64.wrap (IntKind.u64.wrap (x:Int)*2^min (IntKind.i64.wrap (32*(z:Int))).toNat 64))=((ag (xs.take (z+1)):Nat):Int):=by
 have hxb:=hl.at hx
 have e1:IntKind.u64.wrap (x:Int)=x:=IntWalk.u64_in _ ab
 rw[ba hx,dp,List.length_take,e1]
 have hzl:z<xs.length:=(List.getElem?_eq_some_iff.1 hx).1
 rw[Nat.min_eq_left (show z<=xs.length by omega)]
 match z,hz with
 | 0,_=>
   rw[show IntKind.i64.wrap (32*((0:Nat):Int))=0 by decide]
   simp only[Int.toNat_zero,Nat.zero_min,Int.pow_zero,Int.mul_one,List.take_zero]
   rw[e1,dx,Int.natCast_zero,GK _ ab ab]
   simp
 | 1,_=>
   have hlow:ag (xs.take 1)<4294967296:=by
    have:=fV (hl.take 1)
    rw[List.length_take,Nat.min_eq_left ab] at this
    simpa using this
   rw[show (IntKind.i64.wrap (32*((1:Nat):Int))).toNat=32 by decide,Nat.pow_one]
   show bits BinOp.or IntKind.u64 ((ag (List.take 1 xs):Nat):Int) (IntKind.u64.wrap ((x:Int)*2^32))=_
   have e2:(x:Int)*2^32=((x*4294967296:Nat):Int):=by simp
   rw[e2,IntWalk.u64_in _ ab]
   rw[u64_or_nat _ _ ab ab,Nat.or_comm,nat_join 32 _ _ ab ab]
   congr 1;omega
attribute [local irreducible] ao VS
set_option maxRecDepth 10000 in
theorem Fg (v:Value) (X:Int) (k:Nat) (w:World) (hv:bt w v X k) (hX:X.natAbs<4294967296):
  Calls Tryz.prog 84 #[v] w λe w'=>e=.returned (.tuple #[.int .i64 X,.bool true])/\aw w w':=by
 obtain⟨s,p,n,c,rfl⟩:=hv.form
 refine ae (C:=aM Tryz.prog w _) (args:=[_]) Tryz.func84 rfl Tryz.ntmps84 (bl rfl) ?_
 refine aa ?_
 refine VO.call rfl rfl (fk Tryz.func140) (λaC aY aH=>(eM _ X k w aC hv aH).mono ?_)
 rintro e w1 ⟨r1,rfl,q1,aD⟩
 obtain⟨s1,p1,n1,c1,rfl⟩:=q1.fh
 refine aF aD ?_
 intro bQ _ bb1
 obtain⟨Hv,kW,-⟩:=q1.parts
 have xo:=q1.Ig
 have hl:=Md hX
 obtain⟨a,ha⟩:∃ a,a=X.natAbs:=⟨_,rfl⟩
 rw[<-ha] at hl hX
 have hn:n1<=1/\(n1=0->a=0):=by
  rw[Hv,<-ha,hl]
  split
  ·rename_i e;rw[e] at ha;exact⟨by simp,λ_=>ha⟩
  ·exact⟨by simp,λe=>by simp at e⟩
 refine VS.aK rfl (decide_eq_false (show ¬ (n1:Int)>2 by omega)) ?_
 refine aa ?_
 refine VS.loop (J:=λm L M w'=>∃ z:Nat,z<=n1/\m=n1-z/\L=[(4,.box 4 0),(5,.val (.int .u64 ((if z=0 then 0 else a:Nat):Int))),(17,.val (.slice p1 n1 c1)),(18,.val (.int .i64 (n1:Int))),(19,.val (.int .i64 (z:Int)))]/\
  M=[(4,(222,([.bool s1,.slice p1 n1 c1]:List Value).map .val))]) n1 ⟨_,_,?_,?_,?_,?_,⟨0,by omega,rfl,rfl,rfl⟩⟩ ?_
 ·exact cW
 ·exact cW
 ·rfl
 ·exact fR
 rintro m L M wJ ⟨z,hz,rfl,rfl,rfl⟩
 refine aa ?_
 by_cases hlt:z<n1
 ·obtain⟨b2,o2,x,rfl,aQ,eI,kG⟩:=kW.cellAt hlt
  obtain rfl:z=0:=by omega
  obtain rfl:x=a:=by
   rw[<-ha,hl] at eI
   split at eI
   ·simp at eI
   ·simpa using eI.symm
  refine VS.aJ rfl (decide_eq_true (Int.ofNat_lt.2 hlt)) ?_
  refine aa ?_
  refine VO.cond rfl dz (wV rfl ?_)
  refine VO.read rfl [.int .u32 (x:Int)] rfl (ia rfl kG) (wV rfl ?_)
  refine aa ?_
  refine VS.back (n1-(0+1)) ab ⟨_,_,?_,?_,?_,?_,⟨0+1,by omega,rfl,rfl,rfl⟩⟩
  ·refine⟨rfl,congrArg (λz=>some (AV.val (.int .u64 z))) ?_,rfl,rfl,?_,trivial⟩
   ·have e1:IntKind.u64.wrap (x:Int)=x:=IntWalk.u64_in _ ab
    show bits .or .u64 0 (IntKind.u64.wrap (IntKind.u64.wrap (x:Int)*2^min (IntKind.i64.wrap (32*0)).toNat 64))=(x:Int)
    rw[show IntKind.i64.wrap (32*0)=0 by decide,e1]
    simp only[Int.toNat_zero,Nat.zero_min,Int.pow_zero,Int.mul_one]
    rw[e1,GK _ ab ab]
   ·rfl
  ·exact cW
  ·rfl
  ·exact fR
 ·obtain rfl:z=n1:=by omega
  refine VS.aK rfl (decide_eq_false (λe=>hlt (Int.ofNat_lt.1 e))) ?_
  rw[show (if z=0 then 0 else a)=a by split;exact (hn.2 ‹_›).symm;rfl]
  obtain⟨A,hA⟩:∃ A:Int,A=(a:Int):=⟨_,rfl⟩
  rw[<-hA]
  cases s1 with
  | true=>
    have hx:X<0:=of_decide_eq_true xo.symm
    refine aa ?_
    refine VS.aJ rfl (decide_eq_true (show A<=9223372036854775808 by omega)) ?_
    refine aa ?_
    refine au ?_;intro wz kz bz
    refine⟨congrArg (λz=>Ending.returned (.tuple #[.int .i64 z,.bool true])) ?_,bz⟩
    rw[hA]
    exact (u64_neg a hX).trans ab
  | false=>
    have hx:¬ X<0:=of_decide_eq_false xo.symm
    refine aa ?_
    refine VS.aJ rfl (decide_eq_true (show A<9223372036854775808 by omega)) ?_
    refine aa ?_
    refine au ?_;intro wz kz bz
    refine⟨congrArg (λz=>Ending.returned (.tuple #[.int .i64 z,.bool true])) ?_,bz⟩
    exact (IntWalk.i64_in _ ab).trans ab
set_option maxRecDepth 10000 in
theorem Fh (v:Value) (X:Int) (k:Nat) (w:World) (hv:bt w v X k):
  Calls Tryz.prog 84 #[v] w λe w'=>∃ n b,e=.returned (.tuple #[.int .i64 n,.bool b])/\(b=true->n=X)/\aw w w':=by
 obtain⟨s,p,n,c,rfl⟩:=hv.form
 refine ae (C:=aM Tryz.prog w _) (args:=[_]) Tryz.func84 rfl Tryz.ntmps84 (bl rfl) ?_
 refine aa ?_
 refine VO.call rfl rfl (fk Tryz.func140) (λaC aY aH=>(eM _ X k w aC hv aH).mono ?_)
 rintro e w1 ⟨r1,rfl,q1,aD⟩
 obtain⟨s1,p1,n1,c1,rfl⟩:=q1.fh
 refine aF aD ?_
 intro bQ _ bb1
 obtain⟨Hv,kW,-⟩:=q1.parts
 have xo:=q1.Ig
 by_cases Hw:(n1:Int)>2
 ·refine VS.aJ rfl (decide_eq_true Hw) ?_
  refine aa ?_
  refine au ?_;intro wz kz bz
  exact⟨_,_,rfl,λh=>(by cases h),bz⟩
 refine VS.aK rfl (decide_eq_false Hw) ?_
 refine aa ?_
 have pO:=ak X.natAbs
 refine VS.loop (J:=λm L M w'=>∃ z:Nat,z<=n1/\m=n1-z/\L=[(4,.box 4 0),(5,.val (.int .u64 ((ag ((limbs X.natAbs).take z):Nat):Int))),(17,.val (.slice p1 n1 c1)),(18,.val (.int .i64 (n1:Int))),(19,.val (.int .i64 (z:Int)))]/\
  M=[(4,(222,([.bool s1,.slice p1 n1 c1]:List Value).map .val))]) n1 ⟨_,_,?_,?_,?_,?_,⟨0,by omega,rfl,rfl,rfl⟩⟩ ?_
 ·exact cW
 ·exact cW
 ·rfl
 ·exact fR
 rintro m L M wJ ⟨z,hz,rfl,rfl,rfl⟩
 refine aa ?_
 by_cases hlt:z<n1
 ·obtain⟨b2,o2,x,rfl,aQ,eI,kG⟩:=kW.cellAt hlt
  rcases (show z=0\/z=1 by omega) with rfl|rfl
  ·refine VS.aJ rfl (decide_eq_true (Int.ofNat_lt.2 hlt)) ?_
   refine aa ?_
   refine VO.cond rfl dz (wV rfl ?_)
   refine VO.read rfl [.int .u32 (x:Int)] rfl (ia rfl kG) (wV rfl ?_)
   refine aa ?_
   refine VS.back (n1-(0+1)) ab ⟨_,_,?_,?_,?_,?_,⟨0+1,by omega,rfl,rfl,rfl⟩⟩
   ·refine⟨rfl,congrArg (λz=>some (AV.val (.int .u64 z))) (Me pO eI ab),rfl,rfl,?_,trivial⟩
    rfl
   ·exact cW
   ·rfl
   ·exact fR
  ·refine VS.aJ rfl (decide_eq_true (Int.ofNat_lt.2 hlt)) ?_
   refine aa ?_
   refine VO.cond rfl dz (wV rfl ?_)
   refine VO.read rfl [.int .u32 (x:Int)] rfl (ia rfl kG) (wV rfl ?_)
   refine aa ?_
   refine VS.back (n1-(1+1)) ab ⟨_,_,?_,?_,?_,?_,⟨1+1,by omega,rfl,rfl,rfl⟩⟩
   ·refine⟨rfl,congrArg (λz=>some (AV.val (.int .u64 z))) (Me pO eI ab),rfl,rfl,?_,trivial⟩
    rfl
   ·exact cW
   ·rfl
   ·exact fR
 ·obtain rfl:z=n1:=by omega
  refine VS.aK rfl (decide_eq_false (λe=>hlt (Int.ofNat_lt.1 e))) ?_
  have pN:ag ((limbs X.natAbs).take z)=X.natAbs:=by rw[bm ab,ah]
  have hmax:X.natAbs<18446744073709551616:=by
   have:=fV pO
   rw[ah] at this
   refine Nat.lt_of_lt_of_le this (Nat.le_trans (Nat.pow_le_pow_right ab (show (limbs X.natAbs).length<=2 by omega)) fc)
  obtain⟨A,hA⟩:∃ A:Int,A=((ag ((limbs X.natAbs).take z):Nat):Int):=⟨_,rfl⟩
  rw[<-hA]
  rw[pN] at hA
  cases s1 with
  | true=>
    have hx:X<0:=of_decide_eq_true xo.symm
    refine aa ?_
    by_cases hc:A<=9223372036854775808
    ·refine VS.aJ rfl (decide_eq_true hc) ?_
     refine aa ?_
     refine au ?_;intro wz kz bz
     refine⟨_,_,rfl,λ_=> ?_,bz⟩
     rw[IntKind.wrap_i64,IntKind.wrap_u64];omega
    ·refine VS.aK rfl (decide_eq_false hc) ?_
     refine aa ?_
     refine au ?_;intro wz kz bz
     exact⟨_,_,rfl,λh=>(by cases h),bz⟩
  | false=>
    have hx:¬ X<0:=of_decide_eq_false xo.symm
    refine aa ?_
    by_cases hc:A<9223372036854775808
    ·refine VS.aJ rfl (decide_eq_true hc) ?_
     refine aa ?_
     refine au ?_;intro wz kz bz
     exact⟨_,_,rfl,λ_=>(IntWalk.i64_in _ ab).trans ab,bz⟩
    ·refine VS.aK rfl (decide_eq_false hc) ?_
     refine aa ?_
     refine au ?_;intro wz kz bz
     exact⟨_,_,rfl,λh=>(by cases h),bz⟩
end
set_option maxRecDepth 4000
section
open Go.RowKit
attribute [local irreducible] ao VS
def Aw (kk:Nat) (w:World) (cs:List Value) (a:Bool×Rat):Prop:=∃ s p c t r d xs ys,cs=[Value.bool s,.slice p (List.length xs) c,.bool t,.slice r (List.length ys) d]/\
 cJ w (.agg #[.bool s,.slice p xs.length c,.bool t,.slice r ys.length d]) s xs t ys/\a=(nj s xs t ys,rq s xs t ys)/\xs.length<=kk/\ys.length<=kk
theorem mM (kk:Nat):fU (Aw kk) 4 where
 kp:=λ⟨s,p,c,t,r,d,xs,ys,e,h,r'⟩ k=>⟨s,p,c,t,r,d,xs,ys,e,h.kp k,r'⟩
 len:=λ⟨_,_,_,_,_,_,_,_,e,_⟩=>by rw[e];rfl
 ok:=λ⟨_,_,_,_,_,_,_,_,e,_⟩=>by rw[e];rfl
def dK (a:Bool×Rat):Bool:=a.1 && decide (a.2.den=1)
theorem sign_ne {z:Int}:(z.sign != 0)= !decide (z=0):=by
 by_cases h:z=0
 ·rw[h,decide_eq_true rfl];rfl
 ·rw[decide_eq_false h]
  have:z.sign≠0:=λe=>h (Int.sign_eq_zero_iff_zero.1 e)
  simpa using this
theorem Jd (kk:Nat) (qY:kk<=1000000) (cs:List Value) (a:Bool×Rat) (w:World) (h:Aw kk w cs a):
  Calls Tryz.prog 139 #[.agg cs.toArray] w λe w'=>e=.returned (.bool (!dK a))/\aw w w':=by
 obtain⟨s,p,c,t,r,d,xs,ys,rfl,dZ,rfl,hx,hy⟩:=h
 refine ae (C:=aM Tryz.prog w _) (args:=[_]) Tryz.func139 rfl Tryz.ntmps139 (bl rfl) ?_
 refine aa ?_
 refine VO.call rfl rfl (fk Tryz.func97) (λaC aY aH=>(jq s t xs ys _ aC (dZ.kp aY) ab ab).mono ?_)
 rintro e w1 ⟨rfl,aD⟩
 cases hq:nj s xs t ys
 ·refine aF aD ?_
  intro bQ _ bb1
  refine au ?_;intro wz kz bz
  exact⟨rfl,bz⟩
 ·refine aF aD ?_
  intro bQ _ bb1
  have hr:=lJ dZ hq
  have hs:bW (rq s xs t ys) (bd kk):=(dZ.in hx hy).lM
  have hu:bd kk<=1000000:=by unfold bd;omega
  refine VO.cI rfl rfl (fk Tryz.func40) (λaN bD bf=>mj 1 aN ab ab) (λaN bD bf w2 s2 p2 n2 c2 q2 aQ cL _ bb2=>wV rfl ?_)
  refine aa ?_
  refine VO.cB rfl rfl (fk Tryz.func51) (λcu cM cX=>lF _ _ ((rq s xs t ys).den:Int) 1 (bd kk) 1 cu (hr.parts.2.ki hs.2) (q2.ki (Sz.small fc)) ab ab) (λcu cM cX w3 ck dR _ bb3=>wV rfl ?_)
  refine aa ?_
  refine au ?_;intro wz kz bz
  refine⟨congrArg (λb=>Ending.returned (.bool b)) ?_,bz⟩
  show ((((rq s xs t ys).den:Int)-1).sign != 0)=(!(true && decide ((rq s xs t ys).den=1)))
  rw[sign_ne,Bool.true_and]
  congr 1
  rw[decide_eq_decide];omega
theorem Fi (g:FuncId) (P:Bool×Rat->Bool) (kk:Nat) (kg:jK Tryz.prog g) (hg:∀ (cs:List Value) (a:Bool×Rat) (w:World),Aw kk w cs a->Calls Tryz.prog g #[.agg cs.toArray] w λe w'=>e=.returned (.bool (P a))/\aw w w') (v:Value) (es:List (Bool×Rat)) (w:World) (hv:bM (Aw kk) 4 w v es):
  Calls Tryz.prog 172 #[v,.func (.func g) #[] #[]] w λe w'=>∃ r,e=.returned (.int .i64 r)/\decide (r>=0)=es.any P/\aw w w':=by
 obtain⟨p,c,rfl,dL,eH⟩:=hv.form
 obtain⟨N,hN⟩:∃ N,N=es.length:=⟨_,rfl⟩
 rw[<-hN] at hv dL ⊢
 refine ae (C:=aM Tryz.prog w _) (args:=[_,_]) Tryz.func172 rfl Tryz.ntmps172 (bl rfl) ?_
 refine aa ?_
 refine VS.loop (J:=λmm L M w'=>∃ z:Nat,z<=N/\mm=N-z/\L=[(0,.val (.slice p N c)),(1,.val (.func (.func g) #[] #[])),(7,.val (.int .i64 (N:Int))),(8,.val (.int .i64 (z:Int)))]/\M=[]/\(es.take z).any P=false) N ⟨_,_,?_,?_,?_,?_,⟨0,by omega,rfl,rfl,rfl,rfl⟩⟩ ?_
 ·exact cW
 ·exact cW
 ·rfl
 ·exact fR
 rintro mm L M wJ ⟨z,hz,rfl,rfl,rfl,hno⟩
 refine aa ?_
 by_cases hlt:z<N
 ·obtain⟨a,hx⟩:∃ x,es[z]? =some x:=⟨_,List.getElem?_eq_getElem ab⟩
  obtain⟨b,off,cs,rfl,hc,he⟩:=hv.at hx
  have zV:=he
  obtain⟨s,p1,c1,t,r,d,xs,ys,rfl,-⟩:=zV
  refine VS.aJ rfl (decide_eq_true (Int.ofNat_lt.2 hlt)) ?_
  refine aa ?_
  refine VO.cond rfl dz ?_
  refine wV rfl ?_
  refine aa ?_
  refine VO.read rfl [.bool s,.slice p1 xs.length c1,.bool t,.slice r ys.length d] rfl (λj u hj=>by rw[Addr.add_mid,Int.toNat_natCast];exact hc j u hj) (wV rfl ?_)
  refine VO.call rfl rfl kg (λaC aY aH=>(hg _ a aC ((mM kk).kp he (Kp.of (U:=UU) aH))).mono ?_)
  rintro e w1 ⟨rfl,aD⟩
  cases hP:P a with
  | true=>
    refine aF aD ?_
    intro bQ _ bb1
    refine au ?_;intro wz kz bz
    refine⟨_,rfl,?_,bz⟩
    rw[List.any_eq_true.2 ⟨a,List.mem_of_getElem? hx,hP⟩,decide_eq_true ab]
  | false=>
    refine aF aD ?_
    intro bQ _ bb1
    refine VS.back (N-(z+1)) ab ⟨_,_,?_,?_,?_,?_,⟨z+1,by omega,rfl,rfl,rfl,?_⟩⟩
    ·refine⟨rfl,rfl,rfl,?_,trivial⟩
     rw[<-aB ab];rfl
    ·exact cW
    ·rfl
    ·exact fR
    ·rw[ba hx,List.any_append,hno];simp[hP]
 ·refine VS.aK rfl (decide_eq_false (λe=>hlt (Int.ofNat_lt.1 e))) ?_
  obtain rfl:z=N:=by omega
  refine aa ?_
  refine au ?_;intro wz kz bz
  rw[List.take_of_length_le ab] at hno
  exact⟨_,rfl,by rw[hno];rfl,bz⟩
theorem wv (g:FuncId) (P:Bool×Rat->Bool) (kk:Nat) (kg:jK Tryz.prog g) (hg:∀ (cs:List Value) (a:Bool×Rat) (w:World),Aw kk w cs a->Calls Tryz.prog g #[.agg cs.toArray] w λe w'=>e=.returned (.bool (P a))/\aw w w') (v:Value) (es:List (Bool×Rat)) (w:World) (hv:bM (Aw kk) 4 w v es):
  Calls Tryz.prog 138 #[v,.func (.func g) #[] #[]] w λe w'=>e=.returned (.bool (es.any P))/\aw w w':=by
 obtain⟨p,c,rfl,dL,eH⟩:=hv.form
 refine ae (C:=aM Tryz.prog w _) (args:=[_,_]) Tryz.func138 rfl Tryz.ntmps138 (bl rfl) ?_
 refine aa ?_
 refine VO.call rfl rfl (fk Tryz.func172) (λaC aY aH=>(Fi g P kk kg hg _ es aC (hv.bq (mM kk) aH)).mono ?_)
 rintro e w1 ⟨r1,rfl,h1,aD⟩
 refine aF aD ?_
 intro bQ _ bb1
 refine au ?_;intro wz kz bz
 exact⟨congrArg (λb=>Ending.returned (.bool b)) h1,bz⟩
theorem CV {α:Type} (l:List α) (f:α->Bool):(!l.any λa=> !f a)=l.all f:=by
 induction l with
 | nil=>rfl
 | cons x r ih=>rw[List.any_cons,List.all_cons,<-ih];cases f x <;> simp
theorem xI (v:Value) (es:List (Bool×Rat)) (kk:Nat) (w:World) (hv:bM (Aw kk) 4 w v es) (qY:kk<=1000000):
  Calls Tryz.prog 83 #[v] w λe w'=>e=.returned (.bool (es.all dK))/\aw w w':=by
 obtain⟨p,c,rfl,dL,eH⟩:=hv.form
 refine ae (C:=aM Tryz.prog w _) (args:=[_]) Tryz.func83 rfl Tryz.ntmps83 (bl rfl) ?_
 refine aa ?_
 refine VO.cB rfl rfl (fk Tryz.func138) (λaC aY aH=>wv 139 (λa=> !dK a) kk (fk Tryz.func139) (Jd kk qY) _ es aC (hv.bq (mM kk) aH)) (λaC aY aH w1 aD bQ _ bb1=>wV rfl ?_)
 refine aa ?_
 refine au ?_;intro wz kz bz
 exact⟨congrArg (λb=>Ending.returned (.bool b)) (CV es dK),bz⟩
theorem wx (v:Value) (es:List (Bool×Rat)) (kk:Nat) (w:World) (hv:bM (Aw kk) 4 w v es) (qY:kk<=1000000):
  Calls Tryz.prog 116 #[v] w λe w'=>e=.returned (.bool (es.all dK))/\aw w w':=by
 obtain⟨p,c,rfl,dL,eH⟩:=hv.form
 obtain⟨N,hN⟩:∃ N,N=es.length:=⟨_,rfl⟩
 rw[<-hN] at hv dL ⊢
 refine ae (C:=aM Tryz.prog w _) (args:=[_]) Tryz.func116 rfl Tryz.ntmps116 (bl rfl) ?_
 refine aa ?_
 refine VS.loop (J:=λmm L M w'=>∃ z:Nat,z<=N/\mm=N-z/\L=[(0,.val (.slice p N c)),(3,.val (.int .i64 (z:Int)))]/\M=[]/\(es.take z).all dK=true) N ⟨_,_,?_,?_,?_,?_,⟨0,by omega,rfl,rfl,rfl,rfl⟩⟩ ?_
 ·exact cW
 ·exact cW
 ·rfl
 ·exact fR
 rintro mm L M wJ ⟨z,hz,rfl,rfl,rfl,hno⟩
 refine aa ?_
 by_cases hlt:z<N
 ·obtain⟨a,hx⟩:∃ x,es[z]? =some x:=⟨_,List.getElem?_eq_getElem ab⟩
  obtain⟨b,off,cs,rfl,hc,he⟩:=hv.at hx
  obtain⟨s,p1,c1,t,r,d,xs,ys,rfl,dZ,rfl,yr,hy1⟩:=he
  have hs:bW (rq s xs t ys) (bd kk):=(dZ.in yr hy1).lM
  have hu:bd kk<=1000000:=by unfold bd;omega
  have hsnoc:=ba hx
  have hbad:dK (nj s xs t ys,rq s xs t ys)=false->es.all dK=false:=λh=>by
   rw[<-Bool.not_eq_true,List.all_eq_true]
   intro h2
   have:=h2 _ (List.mem_of_getElem? hx)
   rw[h] at this;cases this
  refine VS.aJ rfl (decide_eq_true (Int.ofNat_lt.2 hlt)) ?_
  refine aa ?_
  refine VO.cond rfl dz ?_
  refine wV rfl ?_
  refine aa ?_
  refine VO.read rfl [.bool s,.slice p1 xs.length c1,.bool t,.slice r ys.length d] rfl (λj u hj=>by rw[Addr.add_mid,Int.toNat_natCast];exact hc j u hj) (wV rfl ?_)
  refine aa ?_
  refine VO.call rfl rfl (fk Tryz.func155) (λaC aY aH=>(jr s t xs ys _ aC (dZ.kp (Kp.of (U:=UU) aH)) ab ab).mono ?_)
  rintro e w1 ⟨rfl,aD⟩
  cases hq:nj s xs t ys
  ·rw[hq] at hbad
   refine aF aD ?_
   intro bQ _ bb1
   refine au ?_;intro wz kz bz
   exact⟨by rw[hbad rfl];rfl,bz⟩
  rw[hq] at hbad
  refine aF aD ?_
  intro bQ _ bb1
  refine VO.cond rfl dz ?_
  refine wV rfl ?_
  refine aa ?_
  refine VO.read rfl [.bool s,.slice p1 xs.length c1,.bool t,.slice r ys.length d] rfl (λj u hj=>by rw[Addr.add_mid,Int.toNat_natCast];exact hc j u hj) (wV rfl ?_)
  refine aa ?_
  refine VO.cR rfl rfl (fk Tryz.func157) (λaN bD bf=>CU _ (rq s xs t ys) kk aN ((dZ.in yr hy1).kp (Kp.of (U:=UU) bf)) ab) (λaN bD bf w2 s2 p2 n2 c2 t2 y2 m2 d2 q2 aQ cL _ bb2=>wV rfl ?_)
  refine aa ?_
  refine VO.cR rfl rfl (fk Tryz.func158) (λcu cM cX=>wu cu) (λcu cM cX w3 s3 p3 n3 c3 t3 y3 m3 d3 q3 ck dR _ bb3=>wV rfl ?_)
  refine aa ?_
  refine VO.cR rfl rfl (fk Tryz.func158) (λdJ eu eO=>wu dJ) (λdJ eu eO w4 s4 p4 n4 c4 t4 y4 m4 d4 q4 fe ir _ nu=>wV rfl ?_)
  refine aa ?_
  refine VO.cR rfl rfl (fk Tryz.func58) (λfI fY im=>gj _ _ ((1:Int):Rat) ((1:Int):Rat) 1 1 fI (q3.ki bW.one) (q4.ki bW.one) ab ab) (λfI fY im w5 s5 p5 n5 c5 t5 y5 m5 d5 q5 il lG _ tW=>wV rfl ?_)
  refine aa ?_
  have h11:((1:Int):Rat)-((1:Int):Rat)=0:=by rw[Rat.sub_self]
  have hfr:bW (tZ (rq s xs t ys)) (bd kk):=by
   rw[<-CR]
   exact jD (Sz.left hs) hs.2 (by have:=den_pos (rq s xs t ys);omega)
  refine VO.call rfl rfl (fk Tryz.func156) (λni nv rI=>(mI _ _ (tZ (rq s xs t ys)) 0 (bd kk) 1 ni (q2.ki hfr) ((q5.cast h11).ki bW.zero) ab ab).mono ?_)
  rintro e w6 ⟨rfl,pw⟩
  by_cases hw:(rq s xs t ys).den=1
  ·rw[qn (wq.2 hw)]
   refine aF pw ?_
   intro rJ _ AO
   refine VS.back (N-(z+1)) ab ⟨_,_,?_,?_,?_,?_,⟨z+1,by omega,rfl,rfl,rfl,?_⟩⟩
   ·refine⟨rfl,?_,trivial⟩
    rw[<-aB ab];rfl
   ·exact cW
   ·rfl
   ·exact fR
   ·rw[hsnoc,List.all_append,hno,hq];simp[dK,hw]
  ·have hne:fK (tZ (rq s xs t ys)) 0=1:=by
    have h1:=CQ (rq s xs t ys)
    have h2:tZ (rq s xs t ys)≠0:=λe=>hw (wq.1 e)
    unfold fK
    rw[if_neg (Rat.not_lt.2 h1),if_neg h2]
   rw[hne]
   refine aF pw ?_
   intro rJ _ AO
   refine au ?_;intro wz kz bz
   exact⟨by rw[hbad (by simp[dK,hw])];rfl,bz⟩
 ·refine VS.aK rfl (decide_eq_false (λe=>hlt (Int.ofNat_lt.1 e))) ?_
  obtain rfl:z=N:=by omega
  refine aa ?_
  refine au ?_;intro wz kz bz
  rw[List.take_of_length_le ab] at hno
  exact⟨by rw[hno];rfl,bz⟩
end
section
open Go.RowKit
structure Pt where
 b:Rat
 s:Rat
 d:Rat
 i:Rat
theorem Pt.ext' {x y:Pt} (h1:x.b=y.b) (h2:x.s=y.s) (h3:x.d=y.d) (h4:x.i=y.i):x=y:=by
 cases x;cases y;simp_all
def Pt.zero:Pt:=⟨0,0,0,0⟩
def Pt.add (x y:Pt):Pt:=⟨x.b+y.b,x.s+y.s,x.d+y.d,x.i+y.i⟩
def pI (k:Nat) (t:Rat):Rat:=if k=1\/k=3\/k=8\/k=10 then t else if k=2\/k=4\/k=5\/k=6\/k=7\/k=9\/k=11 then-t else 0
def tz (k:Nat) (t a:Rat):Rat:=if k=1 then t else if k=10 then t else if k=2 then-t else if k=7 then-t else if k=4 then t*a-t else if k=5 then (if fK t a>0 then-a else-t) else 0
def Je (k:Nat) (t:Rat):Rat:=if k=7 then t else 0
def Jf (k:Nat) (t:Rat):Rat:=if k=8 then-t else if k=9 then t else 0
def yM (k:Nat) (t a:Rat):Pt:=⟨pI k t,tz k t a,Je k t,Jf k t⟩
abbrev CW:=Nat×Rat×Rat
def Mf (x:CW):Pt:=yM x.1 x.2.2 x.2.1
def Fj (l:List Pt):Pt:=l.foldl Pt.add Pt.zero
def bS (l:List CW):Pt:=Fj (l.map Mf)
theorem Jg (l:List Pt) (x:Pt):Fj (l++[x])=(Fj l).add x:=by unfold Fj;rw[List.foldl_append];rfl
theorem mN {l:List CW} {i:Nat} {x:CW} (h:l[i]? =some x):bS (l.take (i+1))=(bS (l.take i)).add (Mf x):=by
 unfold bS;rw[ba h,List.map_append];exact Jg _ _
theorem add_zero' (x:Pt):x.add Pt.zero=x:=Pt.ext' (Rat.add_zero _) (Rat.add_zero _) (Rat.add_zero _) (Rat.add_zero _)
theorem yN (x:Pt):Pt.zero.add x=x:=Pt.ext' (Rat.zero_add _) (Rat.zero_add _) (Rat.zero_add _) (Rat.zero_add _)
theorem Fk (x y z:Pt):(x.add y).add z=x.add (y.add z):=Pt.ext' (Rat.add_assoc _ _ _) (Rat.add_assoc _ _ _) (Rat.add_assoc _ _ _) (Rat.add_assoc _ _ _)
theorem Jh (l:List Pt):∀ x,l.foldl Pt.add x=x.add (Fj l):=by
 induction l with
 | nil=>intro x;exact (add_zero' x).symm
 | cons y r ih=>
   intro x
   show r.foldl Pt.add (x.add y)=x.add (r.foldl Pt.add (Pt.zero.add y))
   rw[ih,ih (Pt.zero.add y),yN,Fk]
theorem Ji (x:Pt) (l:List Pt):Fj (x::l)=x.add (Fj l):=by
 show l.foldl Pt.add (Pt.zero.add x)=_
 rw[Jh,yN]
structure Ax (x:Pt) (k:Nat):Prop where
 b:bW x.b k
 s:bW x.s k
 d:bW x.d k
 i:bW x.i k
theorem Ax.mono {x:Pt} {k l:Nat} (h:Ax x k) (hk:k<=l):Ax x l:=⟨h.b.mono hk,h.s.mono hk,h.d.mono hk,h.i.mono hk⟩
theorem Ax.zero:Ax Pt.zero 1:=⟨bW.zero,bW.zero,bW.zero,bW.zero⟩
theorem Ax.add {x y:Pt} {k l:Nat} (h:Ax x k) (h':Ax y l):Ax (x.add y) (k+l+1):=⟨h.b.add h'.b,h.s.add h'.s,h.d.add h'.d,h.i.add h'.i⟩
theorem Ay {k:Nat} {t a:Rat} {j:Nat} (ht:bW t j) (ha:bW a j) (hj:1<=j):Ax (yM k t a) (3*j+1):=by
 have h0:bW 0 (3*j+1):=bW.zero.mono ab
 have h1:bW t (3*j+1):=ht.mono ab
 have h2:bW (-t) (3*j+1):=h1.neg
 have h3:bW (-a) (3*j+1):=(ha.mono ab).neg
 have h4:bW (t*a-t) (3*j+1):=((ht.mul ha).sub ht).mono ab
 refine⟨?_,?_,?_,?_⟩
 ·show bW (pI k t) _;unfold pI;split <;> first|assumption|(split <;> assumption)
 ·show bW (tz k t a) _;unfold tz;repeat' (split <;> first|assumption|skip)
 ·show bW (Je k t) _;unfold Je;split <;> assumption
 ·show bW (Jf k t) _;unfold Jf;split <;> first|assumption|(split <;> assumption)
def eg (j n:Nat):Nat:=1+n*(3*j+2)
theorem CX (j n:Nat):eg j (n+1)=eg j n+(3*j+1)+1:=by unfold eg;rw[Nat.add_mul,Nat.one_mul];omega
theorem yO {j m n:Nat} (h:m<=n):eg j m<=eg j n:=by unfold eg;have:=Nat.mul_le_mul_right (3*j+2) h;omega
theorem mO {j:Nat} (hj:1<=j):∀ (l:List CW),(∀ x∈l,bW x.2.1 j/\bW x.2.2 j)->Ax (bS l) (eg j l.length):=by
 intro l
 induction l with
 | nil=>intro _;exact Ax.zero.mono (by simp[eg])
 | cons x r ih=>
   intro h
   have e:bS (x::r)=(Mf x).add (bS r):=Ji _ _
   rw[e,List.length_cons,CX]
   have h1:Ax (Mf x) (3*j+1):=Ay (h x dw).2 (h x dw).1 hj
   exact (h1.add (ih λy hy=>h y (by simp[hy]))).mono ab
def dS (w:World) (v:Value) (P:Pt):Prop:=∃ s1 p1 n1 c1 t1 y1 m1 d1 s2 p2 n2 c2 t2 y2 m2 d2 s3 p3 n3 c3 t3 y3 m3 d3 s4 p4 n4 c4 t4 y4 m4 d4,
 v=.agg #[.bool s1,.slice p1 n1 c1,.bool t1,.slice y1 m1 d1,.bool s2,.slice p2 n2 c2,.bool t2,.slice y2 m2 d2,.bool s3,.slice p3 n3 c3,.bool t3,.slice y3 m3 d3,.bool s4,.slice p4 n4 c4,.bool t4,.slice y4 m4 d4]/\
 aG w (.agg #[.bool s1,.slice p1 n1 c1,.bool t1,.slice y1 m1 d1]) P.b/\aG w (.agg #[.bool s2,.slice p2 n2 c2,.bool t2,.slice y2 m2 d2]) P.s/\aG w (.agg #[.bool s3,.slice p3 n3 c3,.bool t3,.slice y3 m3 d3]) P.d/\aG w (.agg #[.bool s4,.slice p4 n4 c4,.bool t4,.slice y4 m4 d4]) P.i
def PtIn (w:World) (v:Value) (P:Pt) (k:Nat):Prop:=∃ s1 p1 n1 c1 t1 y1 m1 d1 s2 p2 n2 c2 t2 y2 m2 d2 s3 p3 n3 c3 t3 y3 m3 d3 s4 p4 n4 c4 t4 y4 m4 d4,
 v=.agg #[.bool s1,.slice p1 n1 c1,.bool t1,.slice y1 m1 d1,.bool s2,.slice p2 n2 c2,.bool t2,.slice y2 m2 d2,.bool s3,.slice p3 n3 c3,.bool t3,.slice y3 m3 d3,.bool s4,.slice p4 n4 c4,.bool t4,.slice y4 m4 d4]/\
 ax w (.agg #[.bool s1,.slice p1 n1 c1,.bool t1,.slice y1 m1 d1]) P.b k/\ax w (.agg #[.bool s2,.slice p2 n2 c2,.bool t2,.slice y2 m2 d2]) P.s k/\ax w (.agg #[.bool s3,.slice p3 n3 c3,.bool t3,.slice y3 m3 d3]) P.d k/\ax w (.agg #[.bool s4,.slice p4 n4 c4,.bool t4,.slice y4 m4 d4]) P.i k
theorem dS.kp {U:TypeId} {T:TypeId->Bool} {w w':World} {v:Value} {P:Pt} (h:dS w v P) (k:aV ⟨U,λ_=>True,T⟩ w w'):dS w' v P:=by
 obtain⟨s1,p1,n1,c1,t1,y1,m1,d1,s2,p2,n2,c2,t2,y2,m2,d2,s3,p3,n3,c3,t3,y3,m3,d3,s4,p4,n4,c4,t4,y4,m4,d4,hv,h1,h2,h3,h4⟩:=h
 exact⟨_,_,_,_,_,_,_,_,_,_,_,_,_,_,_,_,_,_,_,_,_,_,_,_,_,_,_,_,_,_,_,_,hv,h1.kp k,h2.kp k,h3.kp k,h4.kp k⟩
theorem dS.to {w:World} {v:Value} {P:Pt} {j:Nat} (h:dS w v P) (hs:Ax P j):PtIn w v P j:=by
 obtain⟨s1,p1,n1,c1,t1,y1,m1,d1,s2,p2,n2,c2,t2,y2,m2,d2,s3,p3,n3,c3,t3,y3,m3,d3,s4,p4,n4,c4,t4,y4,m4,d4,hv,h1,h2,h3,h4⟩:=h
 exact⟨_,_,_,_,_,_,_,_,_,_,_,_,_,_,_,_,_,_,_,_,_,_,_,_,_,_,_,_,_,_,_,_,hv,h1.to hs.b,h2.to hs.s,h3.to hs.d,h4.to hs.i⟩
theorem dS.cast {w:World} {v:Value} {P P':Pt} (h:dS w v P) (e:P=P'):dS w v P':=e▸h
theorem dS.mk {w:World} {s1 t1 s2 t2 s3 t3 s4 t4:Bool} {p1 y1 p2 y2 p3 y3 p4 y4:Option Addr} {n1 c1 m1 d1 n2 c2 m2 d2 n3 c3 m3 d3 n4 c4 m4 d4:Nat} {b s d i:Rat}
  (h1:aG w (.agg #[.bool s1,.slice p1 n1 c1,.bool t1,.slice y1 m1 d1]) b) (h2:aG w (.agg #[.bool s2,.slice p2 n2 c2,.bool t2,.slice y2 m2 d2]) s) (h3:aG w (.agg #[.bool s3,.slice p3 n3 c3,.bool t3,.slice y3 m3 d3]) d) (h4:aG w (.agg #[.bool s4,.slice p4 n4 c4,.bool t4,.slice y4 m4 d4]) i):
  dS w (.agg #[.bool s1,.slice p1 n1 c1,.bool t1,.slice y1 m1 d1,.bool s2,.slice p2 n2 c2,.bool t2,.slice y2 m2 d2,.bool s3,.slice p3 n3 c3,.bool t3,.slice y3 m3 d3,.bool s4,.slice p4 n4 c4,.bool t4,.slice y4 m4 d4]) ⟨b,s,d,i⟩:=
 ⟨_,_,_,_,_,_,_,_,_,_,_,_,_,_,_,_,_,_,_,_,_,_,_,_,_,_,_,_,_,_,_,_,rfl,h1,h2,h3,h4⟩
def mP (kk:Nat) (w:World) (cs:List Value) (x:CW):Prop:=∃ s1 p1 n1 c1 t1 y1 m1 d1 s2 p2 n2 c2 t2 y2 m2 d2,
 cs=[.int .u8 (x.1:Int),.bool s1,.slice p1 n1 c1,.bool t1,.slice y1 m1 d1,.bool s2,.slice p2 n2 c2,.bool t2,.slice y2 m2 d2]/\x.1<256/\
 ax w (.agg #[.bool s1,.slice p1 n1 c1,.bool t1,.slice y1 m1 d1]) x.2.1 kk/\ax w (.agg #[.bool s2,.slice p2 n2 c2,.bool t2,.slice y2 m2 d2]) x.2.2 kk
theorem dc (kk:Nat):fU (mP kk) 9 where
 kp:=λh k=>by
  obtain⟨s1,p1,n1,c1,t1,y1,m1,d1,s2,p2,n2,c2,t2,y2,m2,d2,hv,h0,h1,h2⟩:=h
  exact⟨_,_,_,_,_,_,_,_,_,_,_,_,_,_,_,_,hv,h0,h1.kp k,h2.kp k⟩
 len:=λh=>by
  obtain⟨s1,p1,n1,c1,t1,y1,m1,d1,s2,p2,n2,c2,t2,y2,m2,d2,rfl,_⟩:=h
  rfl
 ok:=λh=>by
  obtain⟨s1,p1,n1,c1,t1,y1,m1,d1,s2,p2,n2,c2,t2,y2,m2,d2,rfl,_⟩:=h
  rfl
theorem mP.sz {kk:Nat} {w:World} {cs:List Value} {x:CW} (h:mP kk w cs x) (hk:1<=kk):bW x.2.1 kk/\bW x.2.2 kk:=by
 obtain⟨s1,p1,n1,c1,t1,y1,m1,d1,s2,p2,n2,c2,t2,y2,m2,d2,rfl,h0,h1,h2⟩:=h
 exact⟨h1.sz hk,h2.sz hk⟩
theorem GL {kk:Nat} {w:World} {v:Value} {l:List CW} (h:bM (mP kk) 9 w v l) (hk:1<=kk):∀ x∈l,bW x.2.1 kk/\bW x.2.2 kk:=λx hx=>by
 obtain⟨i,hi⟩:=List.getElem?_of_mem hx
 obtain⟨p,c,rfl,_⟩:=h.form
 obtain⟨b,off,cs,_,_,he⟩:=h.at hi
 exact he.sz hk
end
end Go.Proofs.YtlfdmhfhkgpmbaaGreat
