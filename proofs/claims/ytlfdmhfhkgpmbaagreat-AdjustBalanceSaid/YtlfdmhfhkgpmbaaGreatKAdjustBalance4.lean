/-Ea of the proof,laid behind one another. -/
import Derived.Test.YtlfdmhfhkgpmbaaGreatKAdjustBalance3
set_option linter.all false
set_option maxHeartbeats 64000000
set_option maxRecDepth 4000
namespace Go.Proofs.YtlfdmhfhkgpmbaaGreat
section
open Go.RowKit
attribute [local irreducible] ak VS
theorem gf {w:World} {b off k:Nat} {u:Value} {z:Int} (hz:z=(k:Int)) (h:w.cell? ⟨b,off+k,none⟩=some u):∀ j v,[u][j]? =some v->w.cell? ((⟨b,off+z.toNat*1,none⟩:Addr).add j)=some v:=by
 subst hz
 intro j v hj
 rw[Addr.add_mid,Int.toNat_natCast,Nat.mul_one]
 cases j with
 | zero=>cases hj;exact h
 | succ j=>cases hj
theorem Gm {i k:Nat} {os xs ys:List Nat} {x:Nat} (hx:xs[i]? =some x) (hk:ys.length<=k) (h:hval os+65536^(i+k)*0=hval (xs.take i)*hval ys+65536^i*(x*hval (ys.take k))):hval os=hval (xs.take (i+1))*hval ys:=by
 have e:hval (xs.take (i+1))=hval (xs.take i)+65536^i*x:=by
  rw[bb hx,iT,List.length_take,Nat.min_eq_left (by have:=(List.getElem?_eq_some_iff.1 hx).1;omega)]
 rw[Nat.mul_zero,Nat.add_zero,List.take_of_length_le hk] at h
 rw[e,Nat.add_mul,h,Nat.mul_assoc]
theorem CY {i k n m c:Nat} {os xs ys:List Nat} {x:Nat} (hxh:eW xs) (hyh:eW ys) (hx:xs[i]? =some x) (hn:xs.length=n) (hm:ys.length=m) (hk:m<=k) (hc:0<c) (h:hval os+65536^(i+k)*c=hval (xs.take i)*hval ys+65536^i*(x*hval (ys.take k))):i+k<n+m+1:=by
 have hi:=(List.getElem?_eq_some_iff.1 hx).1
 have e:hval (xs.take (i+1))=hval (xs.take i)+65536^i*x:=by
  rw[bb hx,iT,List.length_take,Nat.min_eq_left aa]
 have e3:ys.take k=ys:=List.take_of_length_le aa
 have e2:hval os+65536^(i+k)*c=hval (xs.take (i+1))*hval ys:=by
  rw[e,Nat.add_mul,h,e3,Nat.mul_assoc]
 have b1:hval (xs.take (i+1))<65536^(i+1):=by
  have:=pX (xs:=xs.take (i+1)) (dm.take hxh _)
  rwa [List.length_take,Nat.min_eq_left aa] at this
 have b2:hval ys<65536^m:=by have:=pX hyh;rwa [hm] at this
 have b3:hval (xs.take (i+1))*hval ys<65536^(i+1+m):=by
  rw[Nat.pow_add];exact Nat.mul_lt_mul'' b1 b2
 have b4:65536^(i+k)<=65536^(i+k)*c:=Nat.le_mul_of_pos_right _ hc
 have:65536^(i+k)<65536^(i+1+m):=by omega
 have:=(Nat.pow_lt_pow_iff_right (show 1<65536 by omega)).1 this
 omega
theorem CZ {x y o c:Nat} (hx:x<65536) (hy:y<65536) (ho:o<65536) (hc:c<65536):x*y+o+c<4294967296:=by
 have h1:x*y<=65535*65535:=Nat.mul_le_mul aa aa
 omega
theorem dy {P:Prop} (h:P:=by (repeat first|exact trivial|refine⟨rfl,?_⟩)):P:=h
theorem ew {A B:Prop} (h:A/\B:=by constructor <;> omega):A/\B:=h
theorem AD (va vb:Value) (n m:Nat) (xs ys:List Nat) (w:World) (hr:Rd w 1 va n (ints .i64 xs)) (hs:Rd w 1 vb m (ints .i64 ys)) (hx:eW xs) (hy:eW ys) (hn:n<=2147483656) (hm:m<=2147483656):
  Calls Tryz.prog 190 #[va,vb] w λe w'=>∃ v',e=.returned v'/\dY w' w.heap.size v' (halves (hval xs*hval ys)).length (halves (hval xs*hval ys))/\aw w w':=by
 obtain⟨p,c,rfl,dW,eJ,dR⟩:=hr.i64
 obtain⟨q,d,rfl,Fo,BM,iM⟩:=hs.i64
 obtain⟨N,hN⟩:∃ N,N=n+m+1:=⟨_,rfl⟩
 have hwN:IntKind.i64.wrap (IntKind.i64.wrap ((n:Int)+(m:Int))+1)=(N:Int):=by
  rw[IntWalk.i64_in ((n:Int)+(m:Int)) aa,IntWalk.i64_in _ aa];omega
 refine ae (C:=aX Tryz.prog w _) (args:=[_,_]) Tryz.func190 rfl Tryz.ntmps190 (bG rfl) ?_
 refine ab ?_
 refine VO.fix 15 rfl (congrArg (λz=>AV.val (.int .i64 z)) hwN) ?_
 refine VO.cond rfl ⟨rfl,by omega,by show (N:Int)*(24*1)<=_;omega⟩ (VO.sH 16 rfl (uJ _) (wV rfl ?_))
 rw[Int.toNat_natCast]
 refine ab ?_
 refine VS.loop (J:=λms L M w'=>∃ (i:Nat) (os:List Nat),i<=n/\ms=n-i/\L=[(0,.val (.slice p n c)),(1,.val (.slice q m d)),(5,.row 16 0 N N),(6,.val (.int .i64 (i:Int)))]/\M=[(16,(3,iv os))]/\
  os.length=N/\eW os/\hval os=hval (xs.take i)*hval ys) n ⟨_,_,?_,?_,?_,?_,⟨0,List.replicate N 0,by omega,by omega,rfl,rfl,by simp,dm.replicate aa _,by rw[List.take_zero];show val 65536 _=val 65536 []*_;rw[fv,val_nil,Nat.zero_mul]⟩⟩ ?_
 ·exact dy
 ·exact dy
 ·rfl
 ·exact⟨.none (aZ _),trivial⟩
 rintro ms L M w' ⟨i,os,hi,rfl,rfl,rfl,hol,hoh,hov⟩
 refine ab ?_
 by_cases kW:i<n
 ·refine VS.bg rfl (decide_eq_true (Int.ofNat_lt.2 kW)) ?_
  refine ab ?_
  obtain⟨b1,o1,x,rfl,aD,ey,kj⟩:=hr.cellAt kW
  have ju:=hx.at ey
  refine VS.loop (J:=λms L M w'=>∃ (k c':Nat) (os':List Nat),ms=N-(i+k)/\L=[(0,.val (.slice (some ⟨b1,o1,none⟩) n c)),(1,.val (.slice q m d)),(5,.row 16 0 N N),(6,.val (.int .i64 (i:Int))),(7,.val (.int .i64 (c':Int))),(8,.val (.int .i64 (k:Int)))]/\M=[(16,(3,iv os'))]/\
   os'.length=N/\eW os'/\c' <65536/\k<=N/\hval os' +65536^(i+k)*c'=hval (xs.take i)*hval ys+65536^i*(x*hval (ys.take k))) (N-i) ⟨_,_,?_,?_,?_,?_,⟨0,0,os,by omega,rfl,rfl,hol,hoh,by omega,by omega,by rw[List.take_zero,Nat.mul_zero,hov];show _=_+65536^i*(x*0);simp⟩⟩ ?_
  ·exact dy
  ·exact dy
  ·rfl
  ·exact⟨.none (aZ _),trivial⟩
  rintro ms L M w'' ⟨k,c',os',rfl,rfl,rfl,hol',hoh',hc',hkN,hv⟩
  refine ab ?_
  have step:∀ (hik:i+k<N),True:=λ_=>trivial
  by_cases hgo:k<m\/0<c'
  ·have hik:i+k<N:=by
    rcases Nat.lt_or_ge k m with e|e
    ·omega
    ·rw[hN];exact CY hx hy ey dR iM e aa hv
   obtain⟨o,ho⟩:∃ o,os'[i+k]? =some o:=⟨_,List.getElem?_eq_getElem aa⟩
   have ho4:=hoh'.at ho
   have Fw:IntKind.i64.wrap ((i:Int)+(k:Int))=((i+k:Nat):Int):=by rw[IntWalk.i64_in _ aa];omega
   have hwk1:IntKind.i64.wrap ((k:Int)+1)=((k+1:Nat):Int):=by rw[IntWalk.i64_in _ aa];omega
   have hwoc:IntKind.i64.wrap ((o:Int)+(c':Int))=((o+c':Nat):Int):=by rw[IntWalk.i64_in _ aa];omega
   by_cases Cb:k<m
   ·obtain⟨b2,o2,y,rfl,aP,lU,yT⟩:=hs.cellAt Cb
    have vX:=hy.at lU
    have pO:=CZ ju vX ho4 hc'
    obtain⟨s,hsd⟩:∃ s,s=x*y+o+c':=⟨_,rfl⟩
    have yx:(x:Int)*(y:Int)=((x*y:Nat):Int):=by simp
    have hws:IntKind.i64.wrap (IntKind.i64.wrap ((o:Int)+(c':Int))+IntKind.i64.wrap ((x:Int)*(y:Int)))=(s:Int):=by
     rw[hwoc,yx,IntWalk.i64_in ((x*y:Nat):Int) aa,IntWalk.i64_in _ aa];omega
    have hst:=pZ ho hsd hv
    have hyt:hval (ys.take (k+1))=hval (ys.take k)+65536^k*y:=by
     rw[bb lU,iT,List.length_take,Nat.min_eq_left (by have:=(List.getElem?_eq_some_iff.1 lU).1;omega)]
    rw[<-hyt] at hst
    have hwc:IntKind.i64.wrap ((s:Int).tdiv 65536)=((s/65536:Nat):Int):=by
     rw[Int.tdiv_eq_ediv_of_nonneg aa,IntWalk.i64_in _ aa];simp
    have hwm:(s:Int).tmod 65536=((s%65536:Nat):Int):=by rw[Int.tmod_eq_emod_of_nonneg aa];simp
    refine VO.fix 27 rfl (congrArg (λb=>AV.val (.bool b)) (decide_eq_true (Int.ofNat_lt.2 Cb))) ?_
    refine ab ?_
    refine VO.fix 36 rfl (congrArg (λz=>AV.val (.int .i64 z)) Fw) ?_
    refine VO.cond rfl ew (wV rfl ?_)
    refine VO.iE rfl [.val (.int .i64 (o:Int))] rfl (qa ho (by rw[Int.toNat_natCast];omega)) (wV rfl ?_)
    refine ab ?_
    refine VS.bg rfl (decide_eq_true (Int.ofNat_lt.2 Cb)) ?_
    refine ab ?_
    refine VO.cond rfl ew (wV rfl ?_)
    refine VO.read rfl [.int .i64 (x:Int)] rfl (gf rfl kj) (wV rfl ?_)
    refine VO.cond rfl ew (wV rfl ?_)
    refine VO.read rfl [.int .i64 (y:Int)] rfl (gf rfl yT) (wV rfl ?_)
    refine ab ?_
    refine VO.fix 59 rfl (congrArg (λz=>AV.val (.int .i64 z)) Fw) ?_
    refine VO.fix 61 rfl (congrArg (λz=>AV.val (.int .i64 z)) (by rw[hws,hwm])) ?_
    refine VO.cond rfl ew (wV rfl ?_)
    refine VO.cond rfl (by show 0+((i+k:Nat):Int).toNat*1+1<=_;rw[Int.toNat_natCast,bD];omega) (wV rfl ?_)
    refine ab ?_
    refine VS.back (N-(i+(k+1))) aa ⟨_,_,?_,?_,?_,?_,⟨k+1,s/65536,os'.set (i+k) (s%65536),rfl,rfl,rfl,by simp[hol'],hoh'.set (Nat.mod_lt _ aa) _,by omega,by omega,hst⟩⟩
    ·refine⟨rfl,rfl,rfl,rfl,congrArg (λz=>some (AV.val (.int .i64 z))) (by rw[hws,hwc]),congrArg (λz=>some (AV.val (.int .i64 z))) hwk1,trivial⟩
    ·exact⟨congrArg (λl=>some (_,l)) (th aa (by rw[Int.toNat_natCast];omega)),trivial⟩
    ·rfl
    ·exact⟨.none (aZ _),trivial⟩
   ·have hc0:0<c':=by omega
    obtain⟨s,hsd⟩:∃ s,s=x*0+o+c':=⟨_,rfl⟩
    have hws:IntKind.i64.wrap ((o:Int)+(c':Int))=(s:Int):=by rw[hwoc];omega
    have hst:=pZ ho hsd hv
    have hyt:hval (ys.take k)+65536^k*0=hval (ys.take (k+1)):=by rw[List.take_of_length_le aa,List.take_of_length_le aa];rfl
    rw[hyt] at hst
    have hwc:IntKind.i64.wrap ((s:Int).tdiv 65536)=((s/65536:Nat):Int):=by
     rw[Int.tdiv_eq_ediv_of_nonneg aa,IntWalk.i64_in _ aa];simp
    have hwm:(s:Int).tmod 65536=((s%65536:Nat):Int):=by rw[Int.tmod_eq_emod_of_nonneg aa];simp
    refine VO.fix 27 rfl (congrArg (λb=>AV.val (.bool b)) (decide_eq_false (λe=>Cb (Int.ofNat_lt.1 e)))) ?_
    refine ab ?_
    refine VS.bg rfl (decide_eq_true aa) ?_
    refine ab ?_
    refine VO.fix 36 rfl (congrArg (λz=>AV.val (.int .i64 z)) Fw) ?_
    refine VO.cond rfl ew (wV rfl ?_)
    refine VO.iE rfl [.val (.int .i64 (o:Int))] rfl (qa ho (by rw[Int.toNat_natCast];omega)) (wV rfl ?_)
    refine ab ?_
    refine VS.bo rfl (decide_eq_false (λe=>Cb (Int.ofNat_lt.1 e))) ?_
    refine ab ?_
    refine VO.fix 59 rfl (congrArg (λz=>AV.val (.int .i64 z)) Fw) ?_
    refine VO.fix 61 rfl (congrArg (λz=>AV.val (.int .i64 z)) (by rw[hws,hwm])) ?_
    refine VO.cond rfl ew (wV rfl ?_)
    refine VO.cond rfl (by show 0+((i+k:Nat):Int).toNat*1+1<=_;rw[Int.toNat_natCast,bD];omega) (wV rfl ?_)
    refine ab ?_
    refine VS.back (N-(i+(k+1))) aa ⟨_,_,?_,?_,?_,?_,⟨k+1,s/65536,os'.set (i+k) (s%65536),rfl,rfl,rfl,by simp[hol'],hoh'.set (Nat.mod_lt _ aa) _,by omega,by omega,hst⟩⟩
    ·refine⟨rfl,rfl,rfl,rfl,congrArg (λz=>some (AV.val (.int .i64 z))) (by rw[hws,hwc]),congrArg (λz=>some (AV.val (.int .i64 z))) hwk1,trivial⟩
    ·exact⟨congrArg (λl=>some (_,l)) (th aa (by rw[Int.toNat_natCast];omega)),trivial⟩
    ·rfl
    ·exact⟨.none (aZ _),trivial⟩
  ·have Cb:¬ (k<m):=by omega
   have hc0:c'=0:=by omega
   subst hc0
   refine VO.fix 27 rfl (congrArg (λb=>AV.val (.bool b)) (decide_eq_false (λe=>Cb (Int.ofNat_lt.1 e)))) ?_
   refine ab ?_
   have vN:IntKind.i64.wrap ((i:Int)+1)=((i+1:Nat):Int):=by rw[IntWalk.i64_in _ aa];omega
   refine VS.back (n-(i+1)) aa ⟨_,_,?_,?_,?_,?_,⟨i+1,os',by omega,rfl,rfl,rfl,hol',hoh',Gm ey aa hv⟩⟩
   ·exact⟨rfl,rfl,rfl,congrArg (λz=>some (AV.val (.int .i64 z))) vN,trivial⟩
   ·exact dy
   ·rfl
   ·exact⟨.none (aZ _),trivial⟩
 ·obtain rfl:i=n:=by omega
  refine VS.bo rfl (decide_eq_false (λe=>kW (Int.ofNat_lt.1 e))) ?_
  refine ab ?_
  rw[List.take_of_length_le aa] at hov
  refine VO.wT rfl (fk Tryz.func220) (λw1 β k1 b1 ho=>(fH (some ⟨β 16,0,none⟩) N N os w1 (jI (spare:=[]) (by rw[List.append_nil];exact ho.own 16 (.base (List.mem_singleton.2 rfl)) _ _ rfl) hol (Nat.le_refl _) (by simp only[maxLen];omega)) hoh).mono ?_)
  rintro e w2 ⟨⟨mm,wk,rfl,hcut⟩,rfl⟩
  refine⟨.row 16 0 mm N,rfl,λi hi=>⟨hi,by cases List.mem_singleton.1 hi;exact Option.some_ne_none _⟩,aw.refl _,λk2 _ b2=>wV rfl ?_⟩
  refine ab ?_
  refine VS.oH (cP _ _) rfl (λwz β kz bz he=> ?_)
  have qk:=tj hcut wk hol
  rw[hov] at hcut qk
  refine⟨_,rfl,?_,bz⟩
  have:=mU (spare:=[]) (by rw[List.append_nil];exact he.own 16 _ _ rfl) hol wk (Nat.le_refl _) (by simp only[maxLen];omega) (by simpa using hol)
  rw[<-hcut] at this
  show dY wz w.heap.size (.slice (some ⟨β 16,0,none⟩) mm N) _ _
  rw[<-qk]
  exact this
set_option maxRecDepth 4000
theorem oc {A B:Nat} (h:(halves A).length<(halves B).length):A<B:=by
 rcases Nat.lt_or_ge A B with e|e
 ·exact e
 ·have:(halves B).length<=(halves A).length:=cN aa e
  omega
theorem od {A B k a b:Nat} (ha:(halves A)[k]? =some a) (hb:(halves B)[k]? =some b) (sL:a<b) (hh:(halves A).drop (k+1)=(halves B).drop (k+1)):A<B:=by
 have:=iY (B:=65536) (bu A) ha hb sL hh
 have e1:val 65536 (halves A)=A:=aM A
 have e2:val 65536 (halves B)=B:=aM B
 omega
theorem Gn {xs ys:List Nat} {k x:Nat} (hx:xs[k]? =some x) (hy:ys[k]? =some x) (h:xs.drop (k+1)=ys.drop (k+1)):xs.drop k=ys.drop k:=by
 obtain⟨l1,e1⟩:=List.getElem?_eq_some_iff.1 hx
 obtain⟨l2,e2⟩:=List.getElem?_eq_some_iff.1 hy
 rw[List.drop_eq_getElem_cons l1,List.drop_eq_getElem_cons l2,e1,e2,h]
theorem Da (va vb:Value) (n m A B:Nat) (w:World) (hr:Rd w 1 va n (ints .i64 (halves A))) (hs:Rd w 1 vb m (ints .i64 (halves B))):
  Calls Tryz.prog 237 #[va,vb] w λe w'=>e=.returned (.bool (decide (A<B)))/\aw w w':=by
 obtain⟨p,c,rfl,dW,eJ,dR⟩:=hr.i64
 obtain⟨q,d,rfl,Fo,BM,iM⟩:=hs.i64
 refine ae (C:=aX Tryz.prog w _) (args:=[_,_]) Tryz.func237 rfl Tryz.ntmps237 (bG rfl) ?_
 refine ab ?_
 by_cases hnm:n=m
 ·subst hnm
  refine VS.bo rfl cS ?_
  refine ab ?_
  have hw0:IntKind.i64.wrap ((n:Int)-1)=(n:Int)-1:=IntWalk.i64_in _ aa
  refine VS.loop (J:=λms L M w'=>∃ (k:Nat),k<=n/\ms=k/\L=[(0,.val (.slice p n c)),(1,.val (.slice q n d)),(5,.val (.int .i64 ((k:Int)-1)))]/\M=[]/\(halves A).drop k=(halves B).drop k) n ⟨_,_,?_,?_,?_,?_,⟨n,Nat.le_refl _,rfl,rfl,rfl,by rw[List.drop_of_length_le aa,List.drop_of_length_le aa]⟩⟩ ?_
  ·exact⟨rfl,rfl,congrArg (λz=>some (AV.val (.int .i64 z))) hw0,trivial⟩
  ·exact dy
  ·rfl
  ·exact trivial
  rintro ms L M w' ⟨k,hk,hms,rfl,rfl,hd⟩
  refine ab ?_
  by_cases Hi:k=0
  ·subst Hi
   refine VS.bo rfl (decide_eq_false aa) ?_
   refine ab ?_
   refine az ?_;intro wz kz bz
   have:A=B:=CQ (by simpa using hd)
   exact⟨by rw[this,decide_eq_false (Nat.lt_irrefl _)];rfl,bz⟩
  ·obtain⟨j,rfl⟩:∃ j,k=j+1:=⟨k-1,by omega⟩
   have hj:((j+1:Nat):Int)-1=(j:Int):=by omega
   refine VS.bg rfl (decide_eq_true aa) ?_
   refine VS.fix 5 rfl (congrArg (λz=>AV.val (.int .i64 z)) hj) ?_
   refine ab ?_
   obtain⟨b1,o1,x,rfl,aD,ey,kj⟩:=hr.cellAt (show j<n by omega)
   obtain⟨b2,o2,y,rfl,aP,lU,yT⟩:=hs.cellAt (show j<n by omega)
   refine VO.cond rfl ew (wV rfl ?_)
   refine VO.read rfl [.int .i64 (x:Int)] rfl (gf rfl kj) (wV rfl ?_)
   refine VO.cond rfl ew (wV rfl ?_)
   refine VO.read rfl [.int .i64 (y:Int)] rfl (gf rfl yT) (wV rfl ?_)
   refine ab ?_
   by_cases yx:x=y
   ·subst yx
    refine VS.bo rfl cS ?_
    refine ab ?_
    have vp:IntKind.i64.wrap ((j:Int)-1)=(j:Int)-1:=IntWalk.i64_in _ aa
    refine VS.back j aa ⟨_,_,?_,?_,?_,?_,⟨j,by omega,rfl,rfl,rfl,Gn ey lU hd⟩⟩
    ·exact⟨rfl,rfl,congrArg (λz=>some (AV.val (.int .i64 z))) vp,trivial⟩
    ·exact dy
    ·rfl
    ·exact trivial
   ·refine VS.bg rfl (by rw[bne_iff_ne];omega) ?_
    refine ab ?_
    refine VO.cond rfl ew (wV rfl ?_)
    refine VO.read rfl [.int .i64 (x:Int)] rfl (gf rfl kj) (wV rfl ?_)
    refine VO.cond rfl ew (wV rfl ?_)
    refine VO.read rfl [.int .i64 (y:Int)] rfl (gf rfl yT) (wV rfl ?_)
    refine ab ?_
    refine az ?_;intro wz kz bz
    refine⟨?_,bz⟩
    rcases Nat.lt_or_gt_of_ne yx with e|e
    ·rw[decide_eq_true (od ey lU e hd)]
     exact congrArg (λb=>Ending.returned (.bool b)) (decide_eq_true (Int.ofNat_lt.2 e))
    ·have:=od lU ey e hd.symm
     have hAB:decide (A<B)=false:=decide_eq_false aa
     rw[hAB]
     exact congrArg (λb=>Ending.returned (.bool b)) (decide_eq_false aa)
 ·refine VS.bg rfl (by rw[bne_iff_ne];omega) ?_
  refine ab ?_
  refine az ?_;intro wz kz bz
  refine⟨?_,bz⟩
  rcases Nat.lt_or_gt_of_ne hnm with e|e
  ·rw[decide_eq_true (oc aa)]
   exact congrArg (λb=>Ending.returned (.bool b)) (decide_eq_true (Int.ofNat_lt.2 e))
  ·have:=oc (A:=B) (B:=A) aa
   have hAB:decide (A<B)=false:=decide_eq_false aa
   rw[hAB]
   exact congrArg (λb=>Ending.returned (.bool b)) (decide_eq_false aa)
theorem Gp {ds us bs:List Nat} {i t br a b d mf:Nat} (hl:ds.length=i) (ha:us.getD i 0=a) (hb:bs.getD i 0=b) (hs:d+(t*b+br)=a+65536*mf)
  (h:hval ds+t*hval (bs.take i)=hval (us.take i)+65536^i*br):hval (ds++[d])+t*hval (bs.take (i+1))=hval (us.take (i+1))+65536^(i+1)*mf:=by
 have e1:hval (us.take (i+1))=hval (us.take i)+65536^i*a:=by rw[<-ha];exact bB _ _ _
 have e2:hval (bs.take (i+1))=hval (bs.take i)+65536^i*b:=by rw[<-hb];exact bB _ _ _
 have e3:65536^i*d+(65536^i*(t*b)+65536^i*br)=65536^i*a+65536^i*(65536*mf):=by rw[<-Nat.mul_add,<-Nat.mul_add,hs,Nat.mul_add]
 have e4:t*(65536^i*b)=65536^i*(t*b):=Nat.mul_left_comm _ _ _
 rw[iT,hl,e1,e2,Nat.mul_add t,e4,Nat.pow_succ,Nat.mul_assoc]
 omega
theorem JF {ds us bs:List Nat} {n t br:Nat} (hh:eW ds) (hl:ds.length=n) (ha:us.length=n) (hle:t*hval bs<=hval us) (hb:t=0\/bs.length<=n)
  (h:hval ds+t*hval (bs.take n)=hval (us.take n)+65536^n*br):hval ds=hval us-t*hval bs:=by
 have e1:us.take n=us:=List.take_of_length_le aa
 have e2:t*hval (bs.take n)=t*hval bs:=by
  rcases hb with e|e
  ·rw[e,Nat.zero_mul,Nat.zero_mul]
  ·rw[List.take_of_length_le e]
 rw[e1,e2] at h
 have hlt:=pX hh
 rw[hl] at hlt
 have:br=0:=by
  rcases Nat.eq_zero_or_pos br with e|e
  ·exact e
  ·have:=Nat.le_mul_of_pos_right (65536^n) e
   omega
 rw[this,Nat.mul_zero] at h
 omega
def RowAt (d:Nat) (xs:List Nat) (v:AV) (M:List (Nat×(TypeId×List AV))):Prop:=
 (xs=[]/\v=.val (.slice none 0 0)/\M=[])\/∃ cap spare,v=.row d 0 xs.length cap/\M=[(d,(3,iv xs++spare))]/\xs.length<=cap/\cap<=9223372036854775807/\xs.length+spare.length=cap/\spare.all aB=true/\aF spare=[]
theorem uK (va vb:Value) (n m t A B:Nat) (w:World) (hr:Rd w 1 va n (ints .i64 (halves A))) (hs:Rd w 1 vb m (ints .i64 (halves B))) (ht:t<65536) (hle:t*B<=A) (hn:n<=2147483656):
  Calls Tryz.prog 228 #[va,vb,.int .i64 (t:Int)] w λe w'=>∃ v',e=.returned v'/\dY w' w.heap.size v' (halves (A-t*B)).length (halves (A-t*B))/\aw w w':=by
 obtain⟨p,c,rfl,dW,eJ,dR⟩:=hr.i64
 obtain⟨q,d,rfl,Fo,BM,iM⟩:=hs.i64
 refine ae (C:=aX Tryz.prog w _) (args:=[_,_,_]) Tryz.func228 rfl Tryz.ntmps228 (bG rfl) ?_
 refine ab ?_
 refine VS.loop (J:=λms L M w'=>∃ (i br:Nat) (ds:List Nat) (v:AV),i<=n/\ms=n-i/\L=[(0,.val (.slice p n c)),(1,.val (.slice q m d)),(2,.val (.int .i64 (t:Int))),(7,v),(8,.val (.int .i64 (br:Int))),(9,.val (.int .i64 (i:Int)))]/\
  RowAt 47 ds v M/\ds.length=i/\eW ds/\br<=t/\hval ds+t*hval ((halves B).take i)=hval ((halves A).take i)+65536^i*br) n ⟨_,_,?_,?_,?_,?_,⟨0,0,[],.val (.slice none 0 0),by omega,by omega,rfl,.inl ⟨rfl,rfl,rfl⟩,rfl,dm.nil _,by omega,by simp[hval,val]⟩⟩ ?_
 ·exact dy
 ·exact dy
 ·rfl
 ·exact trivial
 rintro ms L M w' ⟨i,br,ds,v,hi,rfl,rfl,kE,sq,hdh,hbr,hv⟩
 by_cases kW:i<n
 ·obtain⟨b1,o1,x,rfl,aD,ey,kj⟩:=hr.cellAt kW
  have ju:=(bu A).at ey
  have hxg:(halves A).getD i 0=x:=by rw[List.getD_eq_getElem?_getD,ey];rfl
  obtain⟨y,hyg⟩:∃ y,(halves B).getD i 0=y:=⟨_,rfl⟩
  have vX:y<65536:=hyg▸iU (bu B) i
  have hty:t*y<=65535*65535:=Nat.mul_le_mul aa aa
  obtain⟨X,hX⟩:∃ X:Int,X=(x:Int)-br-(t*y:Nat):=⟨_,rfl⟩
  obtain⟨mf,lK⟩:∃ mf:Nat,(mf:Int)=(if X<0 then (65535-X)/65536 else 0)/\mf<=t:=by
   by_cases h0:X<0
   ·refine⟨((65535-X)/65536).toNat,by rw[if_pos h0];omega,?_⟩
    have:t*y<=t*65535:=Nat.mul_le_mul_left _ aa
    omega
   ·exact⟨0,by rw[if_neg h0];rfl,by omega⟩
  obtain⟨dg,Hq⟩:∃ dg:Nat,(dg:Int)=X+65536*mf/\dg<65536:=by
   refine⟨(X+65536*mf).toNat,?_,?_⟩
   ·by_cases h0:X<0
    ·rw[if_pos h0] at lK;omega
    ·omega
   ·by_cases h0:X<0
    ·rw[if_pos h0] at lK;omega
    ·rw[if_neg h0] at lK;omega
  have hsum:dg+(t*y+br)=x+65536*mf:=by omega
  have hst:=Gp sq hxg hyg hsum hv
  have vp:IntKind.i64.wrap ((x:Int)-(br:Int))=(x:Int)-br:=IntWalk.i64_in _ aa
  have vN:IntKind.i64.wrap ((i:Int)+1)=((i+1:Nat):Int):=by rw[IntWalk.i64_in _ aa];omega
  have vI:t*y<=t*65535:=Nat.mul_le_mul_left _ aa
  rcases kE with ⟨rfl,rfl,rfl⟩|⟨cap,spare,rfl,rfl,h1,h2,h3,h4,h5⟩
  all_goals refine ab ?_
  ·by_cases him:i<m
   ·obtain⟨b2,o2,y',rfl,aP,lU,yT⟩:=hs.cellAt him
    obtain rfl:y'=y:=by rw[List.getD_eq_getElem?_getD,lU] at hyg;exact hyg
    have hwX:IntKind.i64.wrap (IntKind.i64.wrap ((x:Int)-(br:Int))-IntKind.i64.wrap ((t:Int)*(y':Int)))=X:=by
     rw[vp,show (t:Int)*(y':Int)=((t*y':Nat):Int) by simp,IntWalk.i64_in ((t*y':Nat):Int) aa,IntWalk.i64_in _ aa];omega
    refine VS.bg rfl (decide_eq_true (Int.ofNat_lt.2 kW)) ?_
    refine ab ?_
    refine VO.cond rfl ew (wV rfl ?_)
    refine VO.read rfl [.int .i64 (x:Int)] rfl (gf rfl kj) (wV rfl ?_)
    refine ab ?_
    refine VS.bg rfl (decide_eq_true (Int.ofNat_lt.2 him)) ?_
    refine ab ?_
    refine VO.cond rfl ew (wV rfl ?_)
    refine VO.read rfl [.int .i64 (y':Int)] rfl (gf rfl yT) (wV rfl ?_)
    refine VO.fix 10 rfl (congrArg (λz=>AV.val (.int .i64 z)) hwX) ?_
    refine ab ?_
    by_cases h0:X<0
    ·rw[if_pos h0] at lK
     have JG:IntKind.i64.wrap ((IntKind.i64.wrap (65535-X)).tdiv 65536)=(mf:Int):=by
      rw[IntWalk.i64_in (65535-X) aa,Int.tdiv_eq_ediv_of_nonneg aa,IntWalk.i64_in _ aa,lK.1]
     have hwd:IntKind.i64.wrap (X+IntKind.i64.wrap (65536*(mf:Int)))=(dg:Int):=by
      rw[IntWalk.i64_in (65536*(mf:Int)) aa,IntWalk.i64_in _ aa,Hq.1]
     refine VS.bg rfl (decide_eq_true h0) ?_
     refine ab ?_
     ·refine VO.sH 46 rfl (congrArg (λz=>[AV.val (.int .i64 z)]) (show _=(dg:Int) by rw[JG,hwd])) ?_
      refine VO.app (cP _ _) (t:=272) (e:=3) (sz:=1) (n:=0) (c:=0) (mm:=1) (known:=[]) (spare:=[]) (news:=iv [dg]) (dst:=47) (del:=none) rfl rfl rfl rfl rfl rfl rfl rfl (bG rfl) rfl (.inl ⟨rfl,rfl,rfl,rfl,rfl,rfl,by omega⟩) (.inl rfl) rfl rfl aa aa ⟨rfl,rfl,aZ _⟩ ⟨rfl,rfl,kI _⟩ rfl aa
       (λw1 β k1 b1 ho=>⟨_,_,rfl,.inr ⟨β 46,0,rfl,eX (rest:=[]) (ho.own 46 (.base (List.mem_append_right _ (List.mem_singleton.2 rfl))) _ _ rfl) rfl⟩⟩)
       (λw2 cap' aE ρ k2 b2 ff mo mV hlen iu fh=>wV rfl ?_)
      refine ab ?_
      refine VS.back (n-(i+1)) aa ⟨_,_,?_,?_,?_,?_,⟨i+1,mf,[dg],.row 47 0 ([dg]).length cap',by omega,rfl,rfl,.inr ⟨cap',aE,rfl,rfl,by simp;omega,mV,?_,iu,fh⟩,by simp at sq ⊢;omega,dm.cons Hq.2 (dm.nil _),lK.2,hst⟩⟩
      ·exact⟨rfl,rfl,rfl,rfl,congrArg (λz=>some (AV.val (.int .i64 z))) JG,congrArg (λz=>some (AV.val (.int .i64 z))) vN,trivial⟩
      ·exact⟨rfl,trivial⟩
      ·rfl
      ·exact⟨.append (.none (aZ _)) (.none fh),trivial⟩
      ·simpa [bD,Nat.add_assoc] using hlen
    ·rw[if_neg h0] at lK
     have kV:mf=0:=by omega
     subst kV
     refine VS.bo rfl (decide_eq_false h0) ?_
     refine ab ?_
     ·refine VO.sH 46 rfl (congrArg (λz=>[AV.val (.int .i64 z)]) (show X=(dg:Int) by omega)) ?_
      refine VO.app (cP _ _) (t:=272) (e:=3) (sz:=1) (n:=0) (c:=0) (mm:=1) (known:=[]) (spare:=[]) (news:=iv [dg]) (dst:=47) (del:=none) rfl rfl rfl rfl rfl rfl rfl rfl (bG rfl) rfl (.inl ⟨rfl,rfl,rfl,rfl,rfl,rfl,by omega⟩) (.inl rfl) rfl rfl aa aa ⟨rfl,rfl,aZ _⟩ ⟨rfl,rfl,kI _⟩ rfl aa
       (λw1 β k1 b1 ho=>⟨_,_,rfl,.inr ⟨β 46,0,rfl,eX (rest:=[]) (ho.own 46 (.base (List.mem_append_right _ (List.mem_singleton.2 rfl))) _ _ rfl) rfl⟩⟩)
       (λw2 cap' aE ρ k2 b2 ff mo mV hlen iu fh=>wV rfl ?_)
      refine ab ?_
      refine VS.back (n-(i+1)) aa ⟨_,_,?_,?_,?_,?_,⟨i+1,0,[dg],.row 47 0 ([dg]).length cap',by omega,rfl,rfl,.inr ⟨cap',aE,rfl,rfl,by simp;omega,mV,?_,iu,fh⟩,by simp at sq ⊢;omega,dm.cons Hq.2 (dm.nil _),Nat.zero_le _,hst⟩⟩
      ·exact⟨rfl,rfl,rfl,rfl,rfl,congrArg (λz=>some (AV.val (.int .i64 z))) vN,trivial⟩
      ·exact⟨rfl,trivial⟩
      ·rfl
      ·exact⟨.append (.none (aZ _)) (.none fh),trivial⟩
      ·simpa [bD,Nat.add_assoc] using hlen
   ·have Fc:y=0:=by rw[fG aa] at hyg;omega
    have hwX:IntKind.i64.wrap ((x:Int)-(br:Int))=X:=by rw[vp,hX,Fc,Nat.mul_zero];omega
    refine VS.bg rfl (decide_eq_true (Int.ofNat_lt.2 kW)) ?_
    refine ab ?_
    refine VO.cond rfl ew (wV rfl ?_)
    refine VO.read rfl [.int .i64 (x:Int)] rfl (gf rfl kj) (wV rfl ?_)
    refine VO.fix 10 rfl (congrArg (λz=>AV.val (.int .i64 z)) hwX) ?_
    refine ab ?_
    refine VS.bo rfl (decide_eq_false (λe=>him (Int.ofNat_lt.1 e))) ?_
    refine ab ?_
    by_cases h0:X<0
    ·rw[if_pos h0] at lK
     have JG:IntKind.i64.wrap ((IntKind.i64.wrap (65535-X)).tdiv 65536)=(mf:Int):=by
      rw[IntWalk.i64_in (65535-X) aa,Int.tdiv_eq_ediv_of_nonneg aa,IntWalk.i64_in _ aa,lK.1]
     have hwd:IntKind.i64.wrap (X+IntKind.i64.wrap (65536*(mf:Int)))=(dg:Int):=by
      rw[IntWalk.i64_in (65536*(mf:Int)) aa,IntWalk.i64_in _ aa,Hq.1]
     refine VS.bg rfl (decide_eq_true h0) ?_
     refine ab ?_
     ·refine VO.sH 46 rfl (congrArg (λz=>[AV.val (.int .i64 z)]) (show _=(dg:Int) by rw[JG,hwd])) ?_
      refine VO.app (cP _ _) (t:=272) (e:=3) (sz:=1) (n:=0) (c:=0) (mm:=1) (known:=[]) (spare:=[]) (news:=iv [dg]) (dst:=47) (del:=none) rfl rfl rfl rfl rfl rfl rfl rfl (bG rfl) rfl (.inl ⟨rfl,rfl,rfl,rfl,rfl,rfl,by omega⟩) (.inl rfl) rfl rfl aa aa ⟨rfl,rfl,aZ _⟩ ⟨rfl,rfl,kI _⟩ rfl aa
       (λw1 β k1 b1 ho=>⟨_,_,rfl,.inr ⟨β 46,0,rfl,eX (rest:=[]) (ho.own 46 (.base (List.mem_append_right _ (List.mem_singleton.2 rfl))) _ _ rfl) rfl⟩⟩)
       (λw2 cap' aE ρ k2 b2 ff mo mV hlen iu fh=>wV rfl ?_)
      refine ab ?_
      refine VS.back (n-(i+1)) aa ⟨_,_,?_,?_,?_,?_,⟨i+1,mf,[dg],.row 47 0 ([dg]).length cap',by omega,rfl,rfl,.inr ⟨cap',aE,rfl,rfl,by simp;omega,mV,?_,iu,fh⟩,by simp at sq ⊢;omega,dm.cons Hq.2 (dm.nil _),lK.2,hst⟩⟩
      ·exact⟨rfl,rfl,rfl,rfl,congrArg (λz=>some (AV.val (.int .i64 z))) JG,congrArg (λz=>some (AV.val (.int .i64 z))) vN,trivial⟩
      ·exact⟨rfl,trivial⟩
      ·rfl
      ·exact⟨.append (.none (aZ _)) (.none fh),trivial⟩
      ·simpa [bD,Nat.add_assoc] using hlen
    ·rw[if_neg h0] at lK
     have kV:mf=0:=by omega
     subst kV
     refine VS.bo rfl (decide_eq_false h0) ?_
     refine ab ?_
     ·refine VO.sH 46 rfl (congrArg (λz=>[AV.val (.int .i64 z)]) (show X=(dg:Int) by omega)) ?_
      refine VO.app (cP _ _) (t:=272) (e:=3) (sz:=1) (n:=0) (c:=0) (mm:=1) (known:=[]) (spare:=[]) (news:=iv [dg]) (dst:=47) (del:=none) rfl rfl rfl rfl rfl rfl rfl rfl (bG rfl) rfl (.inl ⟨rfl,rfl,rfl,rfl,rfl,rfl,by omega⟩) (.inl rfl) rfl rfl aa aa ⟨rfl,rfl,aZ _⟩ ⟨rfl,rfl,kI _⟩ rfl aa
       (λw1 β k1 b1 ho=>⟨_,_,rfl,.inr ⟨β 46,0,rfl,eX (rest:=[]) (ho.own 46 (.base (List.mem_append_right _ (List.mem_singleton.2 rfl))) _ _ rfl) rfl⟩⟩)
       (λw2 cap' aE ρ k2 b2 ff mo mV hlen iu fh=>wV rfl ?_)
      refine ab ?_
      refine VS.back (n-(i+1)) aa ⟨_,_,?_,?_,?_,?_,⟨i+1,0,[dg],.row 47 0 ([dg]).length cap',by omega,rfl,rfl,.inr ⟨cap',aE,rfl,rfl,by simp;omega,mV,?_,iu,fh⟩,by simp at sq ⊢;omega,dm.cons Hq.2 (dm.nil _),Nat.zero_le _,hst⟩⟩
      ·exact⟨rfl,rfl,rfl,rfl,rfl,congrArg (λz=>some (AV.val (.int .i64 z))) vN,trivial⟩
      ·exact⟨rfl,trivial⟩
      ·rfl
      ·exact⟨.append (.none (aZ _)) (.none fh),trivial⟩
      ·simpa [bD,Nat.add_assoc] using hlen
  ·by_cases him:i<m
   ·obtain⟨b2,o2,y',rfl,aP,lU,yT⟩:=hs.cellAt him
    obtain rfl:y'=y:=by rw[List.getD_eq_getElem?_getD,lU] at hyg;exact hyg
    have hwX:IntKind.i64.wrap (IntKind.i64.wrap ((x:Int)-(br:Int))-IntKind.i64.wrap ((t:Int)*(y':Int)))=X:=by
     rw[vp,show (t:Int)*(y':Int)=((t*y':Nat):Int) by simp,IntWalk.i64_in ((t*y':Nat):Int) aa,IntWalk.i64_in _ aa];omega
    refine VS.bg rfl (decide_eq_true (Int.ofNat_lt.2 kW)) ?_
    refine ab ?_
    refine VO.cond rfl ew (wV rfl ?_)
    refine VO.read rfl [.int .i64 (x:Int)] rfl (gf rfl kj) (wV rfl ?_)
    refine ab ?_
    refine VS.bg rfl (decide_eq_true (Int.ofNat_lt.2 him)) ?_
    refine ab ?_
    refine VO.cond rfl ew (wV rfl ?_)
    refine VO.read rfl [.int .i64 (y':Int)] rfl (gf rfl yT) (wV rfl ?_)
    refine VO.fix 10 rfl (congrArg (λz=>AV.val (.int .i64 z)) hwX) ?_
    refine ab ?_
    by_cases h0:X<0
    ·rw[if_pos h0] at lK
     have JG:IntKind.i64.wrap ((IntKind.i64.wrap (65535-X)).tdiv 65536)=(mf:Int):=by
      rw[IntWalk.i64_in (65535-X) aa,Int.tdiv_eq_ediv_of_nonneg aa,IntWalk.i64_in _ aa,lK.1]
     have hwd:IntKind.i64.wrap (X+IntKind.i64.wrap (65536*(mf:Int)))=(dg:Int):=by
      rw[IntWalk.i64_in (65536*(mf:Int)) aa,IntWalk.i64_in _ aa,Hq.1]
     refine VS.bg rfl (decide_eq_true h0) ?_
     refine ab ?_
     ·refine VO.sH 46 rfl (congrArg (λz=>[AV.val (.int .i64 z)]) (show _=(dg:Int) by rw[JG,hwd])) ?_
      refine VO.app (cP _ _) (t:=272) (e:=3) (sz:=1) (n:=ds.length) (c:=cap) (mm:=1) (known:=iv ds) (spare:=spare) (news:=iv [dg]) (dst:=47) (del:=some 47) rfl rfl rfl rfl rfl rfl rfl rfl (bG rfl) rfl (.inr ⟨47,rfl,rfl,rfl⟩) (.inr rfl) (by rw[bD];omega) (by rw[List.length_append,bD];omega) h1 h2 ⟨aZ _,h5,aZ _⟩ ⟨kI _,h4,kI _⟩ rfl aa
       (λw1 β k1 b1 ho=>⟨_,_,rfl,.inr ⟨β 46,0,rfl,eX (rest:=[]) (ho.own 46 (.base (List.mem_append_right _ (List.mem_singleton.2 rfl))) _ _ rfl) rfl⟩⟩)
       (λw2 cap' aE ρ k2 b2 ff mo mV hlen iu fh=>wV rfl ?_)
      refine ab ?_
      refine VS.back (n-(i+1)) aa ⟨_,_,?_,?_,?_,?_,⟨i+1,mf,ds++[dg],.row 47 0 (ds++[dg]).length cap',by omega,rfl,rfl,.inr ⟨cap',aE,rfl,rfl,by simp;omega,mV,?_,iu,fh⟩,by simp[sq],dm.append hdh (dm.cons Hq.2 (dm.nil _)),lK.2,hst⟩⟩
      ·exact⟨rfl,rfl,rfl,congrArg (λz=>some (AV.row 47 0 z cap')) cS,congrArg (λz=>some (AV.val (.int .i64 z))) JG,congrArg (λz=>some (AV.val (.int .i64 z))) vN,trivial⟩
      ·exact⟨congrArg (λl=>some (_,l++aE)) (nz _ _).symm,trivial⟩
      ·rfl
      ·exact⟨.append (.none (aZ _)) (.none fh),trivial⟩
      ·simpa [bD,Nat.add_assoc] using hlen
    ·rw[if_neg h0] at lK
     have kV:mf=0:=by omega
     subst kV
     refine VS.bo rfl (decide_eq_false h0) ?_
     refine ab ?_
     ·refine VO.sH 46 rfl (congrArg (λz=>[AV.val (.int .i64 z)]) (show X=(dg:Int) by omega)) ?_
      refine VO.app (cP _ _) (t:=272) (e:=3) (sz:=1) (n:=ds.length) (c:=cap) (mm:=1) (known:=iv ds) (spare:=spare) (news:=iv [dg]) (dst:=47) (del:=some 47) rfl rfl rfl rfl rfl rfl rfl rfl (bG rfl) rfl (.inr ⟨47,rfl,rfl,rfl⟩) (.inr rfl) (by rw[bD];omega) (by rw[List.length_append,bD];omega) h1 h2 ⟨aZ _,h5,aZ _⟩ ⟨kI _,h4,kI _⟩ rfl aa
       (λw1 β k1 b1 ho=>⟨_,_,rfl,.inr ⟨β 46,0,rfl,eX (rest:=[]) (ho.own 46 (.base (List.mem_append_right _ (List.mem_singleton.2 rfl))) _ _ rfl) rfl⟩⟩)
       (λw2 cap' aE ρ k2 b2 ff mo mV hlen iu fh=>wV rfl ?_)
      refine ab ?_
      refine VS.back (n-(i+1)) aa ⟨_,_,?_,?_,?_,?_,⟨i+1,0,ds++[dg],.row 47 0 (ds++[dg]).length cap',by omega,rfl,rfl,.inr ⟨cap',aE,rfl,rfl,by simp;omega,mV,?_,iu,fh⟩,by simp[sq],dm.append hdh (dm.cons Hq.2 (dm.nil _)),Nat.zero_le _,hst⟩⟩
      ·exact⟨rfl,rfl,rfl,congrArg (λz=>some (AV.row 47 0 z cap')) cS,rfl,congrArg (λz=>some (AV.val (.int .i64 z))) vN,trivial⟩
      ·exact⟨congrArg (λl=>some (_,l++aE)) (nz _ _).symm,trivial⟩
      ·rfl
      ·exact⟨.append (.none (aZ _)) (.none fh),trivial⟩
      ·simpa [bD,Nat.add_assoc] using hlen
   ·have Fc:y=0:=by rw[fG aa] at hyg;omega
    have hwX:IntKind.i64.wrap ((x:Int)-(br:Int))=X:=by rw[vp,hX,Fc,Nat.mul_zero];omega
    refine VS.bg rfl (decide_eq_true (Int.ofNat_lt.2 kW)) ?_
    refine ab ?_
    refine VO.cond rfl ew (wV rfl ?_)
    refine VO.read rfl [.int .i64 (x:Int)] rfl (gf rfl kj) (wV rfl ?_)
    refine VO.fix 10 rfl (congrArg (λz=>AV.val (.int .i64 z)) hwX) ?_
    refine ab ?_
    refine VS.bo rfl (decide_eq_false (λe=>him (Int.ofNat_lt.1 e))) ?_
    refine ab ?_
    by_cases h0:X<0
    ·rw[if_pos h0] at lK
     have JG:IntKind.i64.wrap ((IntKind.i64.wrap (65535-X)).tdiv 65536)=(mf:Int):=by
      rw[IntWalk.i64_in (65535-X) aa,Int.tdiv_eq_ediv_of_nonneg aa,IntWalk.i64_in _ aa,lK.1]
     have hwd:IntKind.i64.wrap (X+IntKind.i64.wrap (65536*(mf:Int)))=(dg:Int):=by
      rw[IntWalk.i64_in (65536*(mf:Int)) aa,IntWalk.i64_in _ aa,Hq.1]
     refine VS.bg rfl (decide_eq_true h0) ?_
     refine ab ?_
     ·refine VO.sH 46 rfl (congrArg (λz=>[AV.val (.int .i64 z)]) (show _=(dg:Int) by rw[JG,hwd])) ?_
      refine VO.app (cP _ _) (t:=272) (e:=3) (sz:=1) (n:=ds.length) (c:=cap) (mm:=1) (known:=iv ds) (spare:=spare) (news:=iv [dg]) (dst:=47) (del:=some 47) rfl rfl rfl rfl rfl rfl rfl rfl (bG rfl) rfl (.inr ⟨47,rfl,rfl,rfl⟩) (.inr rfl) (by rw[bD];omega) (by rw[List.length_append,bD];omega) h1 h2 ⟨aZ _,h5,aZ _⟩ ⟨kI _,h4,kI _⟩ rfl aa
       (λw1 β k1 b1 ho=>⟨_,_,rfl,.inr ⟨β 46,0,rfl,eX (rest:=[]) (ho.own 46 (.base (List.mem_append_right _ (List.mem_singleton.2 rfl))) _ _ rfl) rfl⟩⟩)
       (λw2 cap' aE ρ k2 b2 ff mo mV hlen iu fh=>wV rfl ?_)
      refine ab ?_
      refine VS.back (n-(i+1)) aa ⟨_,_,?_,?_,?_,?_,⟨i+1,mf,ds++[dg],.row 47 0 (ds++[dg]).length cap',by omega,rfl,rfl,.inr ⟨cap',aE,rfl,rfl,by simp;omega,mV,?_,iu,fh⟩,by simp[sq],dm.append hdh (dm.cons Hq.2 (dm.nil _)),lK.2,hst⟩⟩
      ·exact⟨rfl,rfl,rfl,congrArg (λz=>some (AV.row 47 0 z cap')) cS,congrArg (λz=>some (AV.val (.int .i64 z))) JG,congrArg (λz=>some (AV.val (.int .i64 z))) vN,trivial⟩
      ·exact⟨congrArg (λl=>some (_,l++aE)) (nz _ _).symm,trivial⟩
      ·rfl
      ·exact⟨.append (.none (aZ _)) (.none fh),trivial⟩
      ·simpa [bD,Nat.add_assoc] using hlen
    ·rw[if_neg h0] at lK
     have kV:mf=0:=by omega
     subst kV
     refine VS.bo rfl (decide_eq_false h0) ?_
     refine ab ?_
     ·refine VO.sH 46 rfl (congrArg (λz=>[AV.val (.int .i64 z)]) (show X=(dg:Int) by omega)) ?_
      refine VO.app (cP _ _) (t:=272) (e:=3) (sz:=1) (n:=ds.length) (c:=cap) (mm:=1) (known:=iv ds) (spare:=spare) (news:=iv [dg]) (dst:=47) (del:=some 47) rfl rfl rfl rfl rfl rfl rfl rfl (bG rfl) rfl (.inr ⟨47,rfl,rfl,rfl⟩) (.inr rfl) (by rw[bD];omega) (by rw[List.length_append,bD];omega) h1 h2 ⟨aZ _,h5,aZ _⟩ ⟨kI _,h4,kI _⟩ rfl aa
       (λw1 β k1 b1 ho=>⟨_,_,rfl,.inr ⟨β 46,0,rfl,eX (rest:=[]) (ho.own 46 (.base (List.mem_append_right _ (List.mem_singleton.2 rfl))) _ _ rfl) rfl⟩⟩)
       (λw2 cap' aE ρ k2 b2 ff mo mV hlen iu fh=>wV rfl ?_)
      refine ab ?_
      refine VS.back (n-(i+1)) aa ⟨_,_,?_,?_,?_,?_,⟨i+1,0,ds++[dg],.row 47 0 (ds++[dg]).length cap',by omega,rfl,rfl,.inr ⟨cap',aE,rfl,rfl,by simp;omega,mV,?_,iu,fh⟩,by simp[sq],dm.append hdh (dm.cons Hq.2 (dm.nil _)),Nat.zero_le _,hst⟩⟩
      ·exact⟨rfl,rfl,rfl,congrArg (λz=>some (AV.row 47 0 z cap')) cS,rfl,congrArg (λz=>some (AV.val (.int .i64 z))) vN,trivial⟩
      ·exact⟨congrArg (λl=>some (_,l++aE)) (nz _ _).symm,trivial⟩
      ·rfl
      ·exact⟨.append (.none (aZ _)) (.none fh),trivial⟩
      ·simpa [bD,Nat.add_assoc] using hlen
 ·obtain rfl:i=n:=by omega
  have hend:=JF hdh sq dR (show t*hval (halves B)<=hval (halves A) by rw[aM,aM];exact hle) (by
   rcases Nat.eq_zero_or_pos t with e|e
   ·exact .inl e
   ·right
    rw[<-dR]
    exact cN aa (Nat.le_trans (Nat.le_mul_of_pos_left B e) hle)) hv
  rw[aM,aM] at hend
  rcases kE with ⟨rfl,rfl,rfl⟩|⟨cap,spare,rfl,rfl,h1,h2,h3,h4,h5⟩
  all_goals
   refine ab ?_
   refine VS.bo rfl (decide_eq_false (λe=>kW (Int.ofNat_lt.1 e))) ?_
   refine ab ?_
  ·refine VO.call rfl rfl (fk Tryz.func220) (λaO bE ba=>(fH none 0 0 [] aO (Rd.own (World.ownsRow_nil _ 0 0 _)) (dm.nil _)).mono ?_)
   rintro e w1 ⟨⟨mm,wk,rfl,hcut⟩,rfl⟩
   obtain rfl:mm=0:=by omega
   refine⟨_,rfl,aw.refl _,λcj _ bb1=>wV rfl ?_⟩
   refine ab ?_
   refine az ?_;intro wz kz bz
   have e0:A-t*B=0:=by rw[<-hend];rfl
   exact⟨_,rfl,by rw[e0,jG];exact dY.nil _ _,bz⟩
  ·refine VO.wT rfl (fk Tryz.func220) (λw1 β k1 b1 ho=>(fH (some ⟨β 47,0,none⟩) ds.length cap ds w1 (jI (ho.own 47 (.base (List.mem_singleton.2 rfl)) _ _ rfl) rfl h1 (by simpa [maxLen] using h2)) hdh).mono ?_)
   rintro e w2 ⟨⟨mm,wk,rfl,hcut⟩,rfl⟩
   refine⟨.row 47 0 mm cap,rfl,λi hi=>⟨hi,by cases List.mem_singleton.1 hi;exact Option.some_ne_none _⟩,aw.refl _,λk2 _ b2=>wV rfl ?_⟩
   refine ab ?_
   refine VS.oH (cP _ _) rfl (λwz β kz bz he=> ?_)
   have qk:=tj hcut wk rfl
   rw[hend] at hcut qk
   refine⟨_,rfl,?_,bz⟩
   have:=mU (he.own 47 _ _ rfl) rfl wk h1 (by simpa [maxLen] using h2) h3
   rw[<-hcut] at this
   show dY wz w.heap.size (.slice (some ⟨β 47,0,none⟩) mm cap) _ _
   rw[<-qk]
   exact this
set_option maxRecDepth 4000
theorem dY.iH {w w':World} {B:Nat} {v:Value} {n:Nat} {xs:List Nat} (h:dY w B v n xs) (k:aR KI w w'):dY w' B v n xs:=by
 obtain⟨hn,e|⟨b,c,spare,e,hb,hc,r⟩⟩:=h
 ·exact⟨hn,.inl e⟩
 ·exact⟨hn,.inr ⟨b,c,spare,e,hb,k.block _ b _ rfl trivial hc,r⟩⟩
theorem vO.kp {w w':World} {B n:Nat} {v:Value} {cs:List Value} (h:w.ownsRow B 3 1 v n cs) (k:aR KI w w'):w'.ownsRow B 3 1 v n cs:=by
 refine⟨h.1,?_⟩
 rcases h.2 with h2|⟨g,cap,cur,hv,hb,hg,r⟩
 ·exact .inl h2
 ·exact .inr ⟨g,cap,cur,hv,hb,k.block _ g cur rfl trivial hg,r⟩
theorem dY.form {w:World} {B:Nat} {v:Value} {n:Nat} {xs:List Nat} (h:dY w B v n xs):∃ p c,v=.slice p n c:=by
 obtain⟨hn,⟨rfl,rfl⟩|⟨b,c,spare,rfl,_⟩⟩:=h
 ·exact⟨none,0,rfl⟩
 ·exact⟨_,c,rfl⟩
theorem AE (x:Nat):hval [x]=x:=by show x+65536*0=x;omega
theorem dZ {P Q:Prop} (h:Q) (i:Q->P:=by intro h;(repeat first|refine wN ?_|refine wP rfl ?_|refine wU rfl ?_|refine cxI_d rfl ?_|refine wO rfl rfl ?_);exact h):P:=i h
theorem eH {P Q X:Prop} (hb:X) (h:Q) (i:X->Q->P:=by intro hb h;refine⟨_,rfl,hb,λa b c=>wV rfl ?_⟩;refine dZ ?_;revert a b c;exact h):P:=i hb h
theorem rX {P Q:Prop} (h:Q) (i:Q->P:=by intro h;exact VS.ret (lH _ _) rfl rfl h):P:=i h
theorem rY (va vb:Value) (n m A B:Nat) (w:World) (hr:Rd w 1 va n (ints .i64 (halves A))) (hs:Rd w 1 vb m (ints .i64 (halves B))) (hB:A<65536*B) (hm:m<=2147483656):
  Calls Tryz.prog 227 #[va,vb] w λe w'=>e=.returned (.int .i64 ((A/B:Nat):Int))/\aw w w':=by
 obtain⟨p,c,rfl,dW,eJ,dR⟩:=hr.i64
 obtain⟨q,d,rfl,Fo,BM,iM⟩:=hs.i64
 refine ae (C:=Ey Tryz.prog w _) (args:=[_,_]) Tryz.func227 rfl Tryz.ntmps227 (bG rfl) ?_
 refine dZ ?_
 refine VS.loop (J:=λms L M w'=>∃ (lo hi:Nat),lo<hi/\hi<=65536/\ms=hi-lo/\L=[(0,.val (.slice p n c)),(1,.val (.slice q m d)),(5,.val (.int .i64 (lo:Int))),(6,.val (.int .i64 (hi:Int)))]/\M=[]/\lo*B<=A/\A<hi*B) 65536 ⟨_,_,?_,?_,?_,?_,⟨0,65536,by omega,by omega,rfl,rfl,rfl,by omega,hB⟩⟩ ?_
 ·exact dy
 ·exact dy
 ·rfl
 ·exact trivial
 rintro ms L M w' ⟨lo,hi,hlh,hh,rfl,rfl,rfl,h1,h2⟩
 have vp:IntKind.i64.wrap ((hi:Int)-(lo:Int))=(hi:Int)-lo:=IntWalk.i64_in _ aa
 refine dZ ?_
 by_cases hgo:1<hi-lo
 ·obtain⟨mid,ld⟩:∃ mid,mid=(lo+hi)/2:=⟨_,rfl⟩
  have hwm:IntKind.i64.wrap ((IntKind.i64.wrap ((lo:Int)+(hi:Int))).tdiv 2)=(mid:Int):=by
   rw[IntWalk.i64_in ((lo:Int)+(hi:Int)) aa,Int.tdiv_eq_ediv_of_nonneg aa,IntWalk.i64_in _ aa];omega
  refine VS.bg rfl (decide_eq_true (by rw[vp];omega)) ?_
  refine dZ ?_
  refine VO.lit (lH _ _) [.int .i64 (mid:Int)] rfl (by rw[hwm];rfl) rfl rfl rfl rfl rfl rfl rfl aa (λw2 b k2 b2 ho=>wV rfl ?_)
  have hmid4:mid<65536:=by omega
  refine VO.call rfl rfl (fk Tryz.func190) (λaO bE ba=>(AD _ _ m 1 (halves B) [mid] aO (hs.below ba) (Rd.own (vO.kp (cs:=ints .i64 [mid]) ho bE)) (bu B) (dm.cons hmid4 (dm.nil _)) hm aa).mono ?_)
  rintro e w1 ⟨v1,rfl,q1,aD⟩
  rw[aM,AE] at q1
  obtain⟨p1,c1,rfl⟩:=q1.form
  refine eH aD ?_
  intro cj _ bb1
  refine VO.cB rfl rfl (fk Tryz.func237) (λcX dh dS=>Da _ _ n _ A (B*mid) cX (hr.below dS) (Rd.own (q1.iH dh).own)) (λcX dh dS w3 cw fi _ bb3=>wV rfl ?_)
  refine dZ ?_
  by_cases hlt:A<B*mid
  ·refine VS.bg rfl (decide_eq_true hlt) ?_
   refine dZ ?_
   refine VS.back (mid-lo) aa ⟨_,_,?_,?_,?_,?_,⟨lo,mid,by omega,by omega,rfl,rfl,rfl,h1,by rw[Nat.mul_comm];exact hlt⟩⟩
   ·exact⟨rfl,rfl,rfl,congrArg (λz=>some (AV.val (.int .i64 z))) hwm,trivial⟩
   ·exact dy
   ·rfl
   ·exact trivial
  ·refine VS.bo rfl (decide_eq_false hlt) ?_
   refine dZ ?_
   refine VS.back (hi-mid) aa ⟨_,_,?_,?_,?_,?_,⟨mid,hi,by omega,by omega,rfl,rfl,rfl,by rw[Nat.mul_comm];omega,h2⟩⟩
   ·exact⟨rfl,rfl,congrArg (λz=>some (AV.val (.int .i64 z))) hwm,rfl,trivial⟩
   ·exact dy
   ·rfl
   ·exact trivial
 ·refine VS.bo rfl (decide_eq_false (by rw[vp];omega)) ?_
  refine dZ ?_
  refine rX ?_;intro wz kz bz
  refine⟨?_,bz⟩
  have hBp:0<B:=by
   rcases Nat.eq_zero_or_pos B with e|e
   ·rw[e] at hB;omega
   ·exact e
  have:A/B=lo:=by
   have e1:hi=lo+1:=by omega
   rw[e1,Nat.add_mul] at h2
   exact Nat.div_eq_of_lt_le h1 (by rw[Nat.add_mul];exact h2)
  rw[this];rfl
theorem uL {A B k x R V:Nat} {qs:List Nat} (hx:(halves A)[k]? =some x) (hR:R<B) (hV:V=x+65536*R) (h:hval qs*B+R=hval ((halves A).drop (k+1))):
  hval ((V/B)::qs)*B+(V-V/B*B)=hval ((halves A).drop k)/\V<65536*B/\V-V/B*B<B/\V/B<65536:=by
 have ju:=(bu A).at hx
 have e1:hval ((halves A).drop k)=x+65536*hval ((halves A).drop (k+1)):=nT hx
 have e2:hval ((V/B)::qs)=V/B+65536*hval qs:=rfl
 have e3:=Nat.div_add_mod V B
 have e4:=Nat.mod_lt V (show 0<B by omega)
 rw[Nat.mul_comm] at e3
 have hlt:V<65536*B:=by
  have:65536*R+65536<=65536*B:=by
   have:=Nat.mul_le_mul_left 65536 (show R+1<=B by omega)
   rw[Nat.mul_add] at this;omega
  omega
 refine⟨?_,hlt,by omega,Nat.div_lt_of_lt_mul (by rw[Nat.mul_comm];exact hlt)⟩
 rw[e1,<-h,e2,Nat.add_mul,Nat.mul_add,Nat.mul_assoc]
 omega
theorem AG (va vb:Value) (n m A B:Nat) (w:World) (hr:Rd w 1 va n (ints .i64 (halves A))) (hs:Rd w 1 vb m (ints .i64 (halves B))) (hB:0<B) (hn:n<=1073741824) (hm:m<=1073741824):
  Calls Tryz.prog 204 #[va,vb] w λe w'=>∃ v u,e=.returned (.tuple #[v,u])/\dY w' w.heap.size v (halves (A/B)).length (halves (A/B))/\dY w' w.heap.size u (halves (A%B)).length (halves (A%B))/\aw w w':=by
 obtain⟨p,c,rfl,dW,eJ,dR⟩:=hr.i64
 obtain⟨q,d,rfl,Fo,BM,iM⟩:=hs.i64
 refine ae (C:=aX Tryz.prog w _) (args:=[_,_]) Tryz.func204 rfl Tryz.ntmps204 (bG rfl) ?_
 refine ab ?_
 refine VO.cond rfl ⟨rfl,by omega,by show (n:Int)*(24*1)<=_;omega⟩ (VO.sH 12 rfl (uJ _) (wV rfl ?_))
 rw[Int.toNat_natCast]
 refine ab ?_
 have hw0:IntKind.i64.wrap ((n:Int)-1)=(n:Int)-1:=IntWalk.i64_in _ aa
 refine VS.loop (J:=λms L M w'=>∃ (k R:Nat) (qs:List Nat) (v:AV) (M1:List (Nat×(TypeId×List AV))),k<=n/\ms=k/\L=[(0,.val (.slice p n c)),(1,.val (.slice q m d)),(6,.row 12 0 n n),(7,v),(8,.val (.int .i64 ((k:Int)-1)))]/\
  M=(12,(3,iv (List.replicate k 0++qs)))::M1/\RowAt 41 (halves R) v M1/\qs.length=n-k/\eW qs/\R<B/\hval qs*B+R=hval ((halves A).drop k)) n ⟨_,_,?_,?_,?_,?_,⟨n,0,[],.val (.slice none 0 0),[],Nat.le_refl _,rfl,rfl,rfl,.inl ⟨jG,rfl,rfl⟩,by simp,dm.nil _,hB,by rw[List.drop_of_length_le aa];simp[hval,val]⟩⟩ ?_
 ·exact⟨rfl,rfl,rfl,rfl,congrArg (λz=>some (AV.val (.int .i64 z))) hw0,trivial⟩
 ·exact⟨congrArg (λl=>some (_,l)) (by rw[List.append_nil]),trivial⟩
 ·rfl
 ·exact⟨.none (aZ _),trivial⟩
 rintro ms L M w' ⟨k,R,qs,v,M1,hk,hms,rfl,rfl,kE,hql,hqh,hRB,hv⟩
 have hz:(List.replicate k 0++qs).length=n:=by simp;omega
 rcases kE with ⟨hR0,rfl,rfl⟩|⟨cap,spare,rfl,rfl,g1,g2,g3,g4,g5⟩
 all_goals
  by_cases Hi:k=0
 ·subst Hi
  refine ab ?_
  refine VO.wT rfl (fk Tryz.func220) (λw1 β k1 bw ho=>(fH (some ⟨β 12,0,none⟩) n n qs w1 (jI (spare:=[]) (by rw[List.append_nil];exact ho.own 12 (.base (List.mem_singleton.2 rfl)) _ _ rfl) (by simpa using hz) (Nat.le_refl _) (by simp only[maxLen];omega)) hqh).mono ?_)
  rintro e w2 ⟨⟨mm,wk,rfl,hcut⟩,rfl⟩
  refine⟨.row 12 0 mm n,rfl,λi hi=>⟨hi,by cases List.mem_singleton.1 hi;exact Option.some_ne_none _⟩,aw.refl _,λk2 _ b2=>wV rfl ?_⟩
  refine ab ?_
  refine VS.oH (cP _ _) rfl (λwz β kz bz he=> ?_)
  have yw:qs.length=n:=by simpa using hz
  have qk:=tj hcut wk yw
  rw[List.drop_zero,aM] at hv
  have hA:A/B=hval qs:=by rw[<-hv,Nat.add_comm,Nat.add_mul_div_right _ _ hB,Nat.div_eq_of_lt hRB,Nat.zero_add]
  have hM:A%B=R:=by rw[<-hv,Nat.add_comm,Nat.add_mul_mod_self_right,Nat.mod_eq_of_lt hRB]
  rw[<-hA] at hcut qk
  have e12:=mU (spare:=[]) (by rw[List.append_nil];exact he.own 12 _ _ rfl) yw wk (Nat.le_refl _) (by simp only[maxLen];omega) (by simpa using yw)
  rw[<-hcut] at e12
  refine⟨.slice (some ⟨β 12,0,none⟩) mm n,.slice none 0 0,rfl,by rw[<-qk];exact e12,?_,bz⟩
  rw[hM,hR0];exact dY.nil _ _
 ·obtain⟨j,rfl⟩:∃ j,k=j+1:=⟨k-1,by omega⟩
  have hj:((j+1:Nat):Int)-1=(j:Int):=by omega
  obtain⟨b1,o1,x,rfl,aD,ey,kj⟩:=hr.cellAt (show j<n by omega)
  have ju:=(bu A).at ey
  obtain⟨V,hV⟩:∃ V,V=x+65536*R:=⟨_,rfl⟩
  obtain⟨s1,s2,s3,s4⟩:=uL ey hRB hV hv
  have hRl:(halves R).length<=m:=by rw[<-iM];exact cN aa aa
  have hXS:hval [x]=V:=by have hR0':R=0:=(by have:=congrArg hval hR0;rw[aM] at this;exact this);rw[hV,hR0'];exact AE x
  have hXH:eW [x]:=dm.cons ju (dm.nil _)
  have hXL:[x].length=(1+0):=rfl
  refine VS.fix 8 rfl (congrArg (λz=>AV.val (.int .i64 z)) hj) ?_
  refine ab ?_
  refine VO.cond rfl ew (wV rfl ?_)
  refine VO.read rfl [.int .i64 (x:Int)] rfl (gf rfl kj) (wV rfl ?_)
  refine ab ?_
  refine VO.app (cP _ _) (t:=272) (e:=3) (sz:=1) (n:=1) (c:=1) (mm:=0) (known:=iv [x]) (spare:=[]) (news:=[]) (dst:=27) (del:=some 24) rfl rfl rfl rfl rfl rfl rfl rfl (bG rfl) rfl (.inr ⟨24,rfl,rfl,rfl⟩) (.inl rfl) rfl rfl aa aa ⟨rfl,rfl,rfl⟩ ⟨rfl,rfl,rfl⟩ rfl aa
   (λw1 β k1 bw ho=>⟨_,_,rfl,.inl rfl⟩)
   (λw2 cap' aE ρ k2 b2 ff mo mV hlen iu fh=>VO.sH 12 rfl (JE 24 ρ _) (wV rfl ?_))
  have Db:(iv [x]++[])++aE=iv [x]++aE:=rfl
  refine VO.wT rfl (fk Tryz.func220) (λw1 β k1 bw ho=>(fH (some ⟨β 27,0,none⟩) (1+0) cap' [x] w1 (jI (ho.own 27 (.base (List.mem_singleton.2 rfl)) _ _ rfl) hXL mo (by simpa [maxLen] using mV)) hXH).mono ?_)
  rintro e w3 ⟨⟨m',hm',rfl,hcut⟩,rfl⟩
  rw[hXS] at hcut
  have hm'l:m'=(halves V).length:=by rw[hcut,List.length_take];omega
  have qj:∀ {C:Cx} {β:Nat->Nat} {w:World},jd C β w 27 3 (iv [x]++aE)->Rd w 1 (.slice (some ⟨β 27,0,none⟩) m' cap') m' (ints .i64 (halves V)):=λh=>by
   have:=Rd.Ax (jI h hXL mo (by simpa [maxLen] using mV)) hm'
   rwa [<-hcut] at this
  refine⟨.row 27 0 m' cap',rfl,λi hi=>⟨hi,by cases List.mem_singleton.1 hi;exact Option.some_ne_none _⟩,aw.refl _,λk3 _ b3=>wV rfl ?_⟩
  refine ab ?_
  refine VO.ia rfl (fk Tryz.func227) (λw1 β k1 bw ho=>(rY _ _ m' m V B w1 (qj (ho.own 27 (.base (List.mem_append_left _ (List.mem_singleton.2 rfl))) _ _ rfl)) (hs.below bw) s2 aa).mono ?_)
  rintro e w4 ⟨rfl,gi⟩
  refine⟨_,rfl,gi,λk4 _ b4=>wV rfl ?_⟩
  refine VO.cond rfl ew (wV rfl ?_)
  refine VO.cond rfl (by show 0+(j:Int).toNat*1+1<=_;rw[Int.toNat_natCast,bD];omega) (wV rfl ?_)
  refine wN ?_
  refine VS.narrow [(0,.val (.slice (some ⟨b1,o1,none⟩) n c)),(1,.val (.slice q m d)),(6,.row 12 0 n n),(7,.row 27 0 m' cap'),(8,.val (.int .i64 (j:Int)))] [(12,(3,iv (List.replicate j 0++(V/B)::qs))),(27,(3,iv [x]++aE))] ?_ ?_ rfl ?_ ?_
  ·exact dy
  ·exact⟨congrArg (λl=>some (_,l)) ((th (j:=j) (x:=V/B) (by rw[hz];omega) (by rw[Int.toNat_natCast];omega)).trans (by rw[rW])),rfl,trivial⟩
  ·exact⟨.none (aZ _),.append (.none (aZ _)) (.none fh),trivial⟩
  refine ab ?_
  refine VO.cond rfl ew (wV rfl ?_)
  refine VO.iE rfl [.val (.int .i64 ((V/B:Nat):Int))] rfl (qa (j:=j) (by rw[List.getElem?_append_right cS];simp) (by rw[Int.toNat_natCast];omega)) (wV rfl ?_)
  have vp:IntKind.i64.wrap ((j:Int)-1)=(j:Int)-1:=IntWalk.i64_in _ aa
  refine VO.callN (dst:=41) (n:=(halves (V-V/B*B)).length) (t:=3) (sz:=1) (xs:=ints .i64 (halves (V-V/B*B))) rfl rfl rfl (bG rfl) (by show 1<=2;omega) rfl (λw1 β k1 bw ho=>⟨(fk Tryz.func228),(uK _ _ m' m (V/B) V B w1 (qj (ho.own 27 (.base (List.mem_append_left _ (List.mem_singleton.2 rfl))) _ _ rfl)) (hs.below bw) s4 (Nat.div_mul_le_self _ _) aa).mono ?_⟩)
  rintro e w5 ⟨v5,rfl,AH,ja⟩
  refine⟨v5,rfl,ja,AH.new,λ_ _ _ hv5=>wV rfl ?_,λc5 sp5 _ _ _ hv5 hok5 hl5 hc5 HT=>wV rfl ?_⟩
  ·have eV:halves (V-V/B*B)=[]:=by
    subst hv5
    obtain⟨e1,⟨_,e2⟩|⟨_,_,_,e2,_⟩⟩:=AH
    ·exact List.eq_nil_of_length_eq_zero e2
    ·cases e2
   refine ab ?_
   refine VS.back j aa ⟨_,_,?_,?_,?_,?_,⟨j,V-V/B*B,(V/B)::qs,.val (.slice none 0 0),[],by omega,rfl,rfl,rfl,.inl ⟨eV,rfl,rfl⟩,by simp;omega,dm.cons s4 hqh,s3,s1⟩⟩
   ·exact⟨rfl,rfl,rfl,rfl,congrArg (λz=>some (AV.val (.int .i64 z))) vp,trivial⟩
   ·exact⟨rfl,trivial⟩
   ·rfl
   ·exact⟨.none (aZ _),trivial⟩
  ·have hln':(halves (V-V/B*B)).length+sp5.length=c5:=by simpa using HT
   refine ab ?_
   refine VS.back j aa ⟨_,_,?_,?_,?_,?_,⟨j,V-V/B*B,(V/B)::qs,.row 41 0 _ c5,_,by omega,rfl,rfl,rfl,.inr ⟨c5,sp5.map .val,rfl,rfl,hl5,hc5,by simpa using hln',cV hok5,ah _⟩,by simp;omega,dm.cons s4 hqh,s3,s1⟩⟩
   ·exact⟨rfl,rfl,rfl,rfl,congrArg (λz=>some (AV.val (.int .i64 z))) vp,trivial⟩
   ·exact⟨rfl,congrArg (λl=>some (_,l)) (List.map_append),trivial⟩
   ·rfl
   ·exact⟨.none (aZ _),.append (.none (aZ _)) (.none (ah _)),trivial⟩
 ·subst Hi
  refine ab ?_
  refine VO.wT rfl (fk Tryz.func220) (λw1 β k1 bw ho=>(fH (some ⟨β 12,0,none⟩) n n qs w1 (jI (spare:=[]) (by rw[List.append_nil];exact ho.own 12 (.base (List.mem_singleton.2 rfl)) _ _ rfl) (by simpa using hz) (Nat.le_refl _) (by simp only[maxLen];omega)) hqh).mono ?_)
  rintro e w2 ⟨⟨mm,wk,rfl,hcut⟩,rfl⟩
  refine⟨.row 12 0 mm n,rfl,λi hi=>⟨hi,by cases List.mem_singleton.1 hi;exact Option.some_ne_none _⟩,aw.refl _,λk2 _ b2=>wV rfl ?_⟩
  refine ab ?_
  refine VS.oH (cP _ _) rfl (λwz β kz bz he=> ?_)
  have yw:qs.length=n:=by simpa using hz
  have qk:=tj hcut wk yw
  rw[List.drop_zero,aM] at hv
  have hA:A/B=hval qs:=by rw[<-hv,Nat.add_comm,Nat.add_mul_div_right _ _ hB,Nat.div_eq_of_lt hRB,Nat.zero_add]
  have hM:A%B=R:=by rw[<-hv,Nat.add_comm,Nat.add_mul_mod_self_right,Nat.mod_eq_of_lt hRB]
  rw[<-hA] at hcut qk
  have e12:=mU (spare:=[]) (by rw[List.append_nil];exact he.own 12 _ _ rfl) yw wk (Nat.le_refl _) (by simp only[maxLen];omega) (by simpa using yw)
  rw[<-hcut] at e12
  have e41:=mU (he.own 41 _ _ rfl) rfl (Nat.le_refl _) g1 (by simpa [maxLen] using g2) g3
  rw[List.take_length] at e41
  refine⟨.slice (some ⟨β 12,0,none⟩) mm n,.slice (some ⟨β 41,0,none⟩) (halves R).length cap,rfl,by rw[<-qk];exact e12,?_,bz⟩
  rw[hM];exact e41
 ·obtain⟨j,rfl⟩:∃ j,k=j+1:=⟨k-1,by omega⟩
  have hj:((j+1:Nat):Int)-1=(j:Int):=by omega
  obtain⟨b1,o1,x,rfl,aD,ey,kj⟩:=hr.cellAt (show j<n by omega)
  have ju:=(bu A).at ey
  obtain⟨V,hV⟩:∃ V,V=x+65536*R:=⟨_,rfl⟩
  obtain⟨s1,s2,s3,s4⟩:=uL ey hRB hV hv
  have hRl:(halves R).length<=m:=by rw[<-iM];exact cN aa aa
  have hXS:hval (x::halves R)=V:=by rw[hV];show x+65536*hval (halves R)=_;rw[aM]
  have hXH:eW (x::halves R):=dm.cons ju (bu R)
  have hXL:(x::halves R).length=(1+(halves R).length):=by simp;omega
  refine VS.fix 8 rfl (congrArg (λz=>AV.val (.int .i64 z)) hj) ?_
  refine ab ?_
  refine VO.cond rfl ew (wV rfl ?_)
  refine VO.read rfl [.int .i64 (x:Int)] rfl (gf rfl kj) (wV rfl ?_)
  refine ab ?_
  refine VO.app (cP _ _) (t:=272) (e:=3) (sz:=1) (n:=1) (c:=1) (mm:=(halves R).length) (known:=iv [x]) (spare:=[]) (news:=iv (halves R)) (dst:=27) (del:=some 24) rfl rfl rfl rfl rfl rfl rfl rfl (bG rfl) rfl (.inr ⟨24,rfl,rfl,rfl⟩) (.inl rfl) rfl rfl aa aa ⟨rfl,rfl,aZ _⟩ ⟨rfl,rfl,kI _⟩ (by rw[bD];omega) aa
   (λw1 β k1 bw ho=>⟨_,_,rfl,.inr ⟨β 41,0,rfl,eX (rest:=spare) (ho.own 41 (.base (List.mem_append_right _ (List.mem_singleton.2 rfl))) _ _ rfl) rfl⟩⟩)
   (λw2 cap' aE ρ k2 b2 ff mo mV hlen iu fh=>VO.sH 12 rfl (JE 24 ρ _) (wV rfl ?_))
  have Db:(iv [x]++iv (halves R))++aE=iv (x::halves R)++aE:=rfl
  refine VO.wT rfl (fk Tryz.func220) (λw1 β k1 bw ho=>(fH (some ⟨β 27,0,none⟩) (1+(halves R).length) cap' (x::halves R) w1 (jI (ho.own 27 (.base (List.mem_singleton.2 rfl)) _ _ rfl) hXL mo (by simpa [maxLen] using mV)) hXH).mono ?_)
  rintro e w3 ⟨⟨m',hm',rfl,hcut⟩,rfl⟩
  rw[hXS] at hcut
  have hm'l:m'=(halves V).length:=by rw[hcut,List.length_take];omega
  have qj:∀ {C:Cx} {β:Nat->Nat} {w:World},jd C β w 27 3 (iv (x::halves R)++aE)->Rd w 1 (.slice (some ⟨β 27,0,none⟩) m' cap') m' (ints .i64 (halves V)):=λh=>by
   have:=Rd.Ax (jI h hXL mo (by simpa [maxLen] using mV)) hm'
   rwa [<-hcut] at this
  refine⟨.row 27 0 m' cap',rfl,λi hi=>⟨hi,by cases List.mem_singleton.1 hi;exact Option.some_ne_none _⟩,aw.refl _,λk3 _ b3=>wV rfl ?_⟩
  refine ab ?_
  refine VO.ia rfl (fk Tryz.func227) (λw1 β k1 bw ho=>(rY _ _ m' m V B w1 (qj (ho.own 27 (.base (List.mem_append_left _ (List.mem_singleton.2 rfl))) _ _ rfl)) (hs.below bw) s2 aa).mono ?_)
  rintro e w4 ⟨rfl,gi⟩
  refine⟨_,rfl,gi,λk4 _ b4=>wV rfl ?_⟩
  refine VO.cond rfl ew (wV rfl ?_)
  refine VO.cond rfl (by show 0+(j:Int).toNat*1+1<=_;rw[Int.toNat_natCast,bD];omega) (wV rfl ?_)
  refine wN ?_
  refine VS.narrow [(0,.val (.slice (some ⟨b1,o1,none⟩) n c)),(1,.val (.slice q m d)),(6,.row 12 0 n n),(7,.row 27 0 m' cap'),(8,.val (.int .i64 (j:Int)))] [(12,(3,iv (List.replicate j 0++(V/B)::qs))),(27,(3,iv (x::halves R)++aE))] ?_ ?_ rfl ?_ ?_
  ·exact dy
  ·exact⟨congrArg (λl=>some (_,l)) ((th (j:=j) (x:=V/B) (by rw[hz];omega) (by rw[Int.toNat_natCast];omega)).trans (by rw[rW])),rfl,trivial⟩
  ·exact⟨.none (aZ _),.append (.none (aZ _)) (.none fh),trivial⟩
  refine ab ?_
  refine VO.cond rfl ew (wV rfl ?_)
  refine VO.iE rfl [.val (.int .i64 ((V/B:Nat):Int))] rfl (qa (j:=j) (by rw[List.getElem?_append_right cS];simp) (by rw[Int.toNat_natCast];omega)) (wV rfl ?_)
  have vp:IntKind.i64.wrap ((j:Int)-1)=(j:Int)-1:=IntWalk.i64_in _ aa
  refine VO.callN (dst:=41) (n:=(halves (V-V/B*B)).length) (t:=3) (sz:=1) (xs:=ints .i64 (halves (V-V/B*B))) rfl rfl rfl (bG rfl) (by show 1<=2;omega) rfl (λw1 β k1 bw ho=>⟨(fk Tryz.func228),(uK _ _ m' m (V/B) V B w1 (qj (ho.own 27 (.base (List.mem_append_left _ (List.mem_singleton.2 rfl))) _ _ rfl)) (hs.below bw) s4 (Nat.div_mul_le_self _ _) aa).mono ?_⟩)
  rintro e w5 ⟨v5,rfl,AH,ja⟩
  refine⟨v5,rfl,ja,AH.new,λ_ _ _ hv5=>wV rfl ?_,λc5 sp5 _ _ _ hv5 hok5 hl5 hc5 HT=>wV rfl ?_⟩
  ·have eV:halves (V-V/B*B)=[]:=by
    subst hv5
    obtain⟨e1,⟨_,e2⟩|⟨_,_,_,e2,_⟩⟩:=AH
    ·exact List.eq_nil_of_length_eq_zero e2
    ·cases e2
   refine ab ?_
   refine VS.back j aa ⟨_,_,?_,?_,?_,?_,⟨j,V-V/B*B,(V/B)::qs,.val (.slice none 0 0),[],by omega,rfl,rfl,rfl,.inl ⟨eV,rfl,rfl⟩,by simp;omega,dm.cons s4 hqh,s3,s1⟩⟩
   ·exact⟨rfl,rfl,rfl,rfl,congrArg (λz=>some (AV.val (.int .i64 z))) vp,trivial⟩
   ·exact⟨rfl,trivial⟩
   ·rfl
   ·exact⟨.none (aZ _),trivial⟩
  ·have hln':(halves (V-V/B*B)).length+sp5.length=c5:=by simpa using HT
   refine ab ?_
   refine VS.back j aa ⟨_,_,?_,?_,?_,?_,⟨j,V-V/B*B,(V/B)::qs,.row 41 0 _ c5,_,by omega,rfl,rfl,rfl,.inr ⟨c5,sp5.map .val,rfl,rfl,hl5,hc5,by simpa using hln',cV hok5,ah _⟩,by simp;omega,dm.cons s4 hqh,s3,s1⟩⟩
   ·exact⟨rfl,rfl,rfl,rfl,congrArg (λz=>some (AV.val (.int .i64 z))) vp,trivial⟩
   ·exact⟨rfl,congrArg (λl=>some (_,l)) (List.map_append),trivial⟩
   ·rfl
   ·exact⟨.none (aZ _),.append (.none (aZ _)) (.none (ah _)),trivial⟩
set_option maxRecDepth 4000
theorem bq.iH {w w':World} {v:Value} {X:Int} {j:Nat} (h:bq w v X j) (k:aR KI w w'):bq w' v X j:=h.kp (U:=UU) k.jU
theorem bd.iH {w w':World} {v:Value} {X:Int} (h:bd w v X) (k:aR KI w w'):bd w' v X:=h.kp (U:=UU) k.jU
theorem aj.iH {w w':World} {B:Nat} {v:Value} {X:Int} (h:aj w B v X) (k:aR KI w w'):aj w' B v X:=h.kp k.jU
theorem Rd.iH {w w':World} {v:Value} {n:Nat} {xs:List Nat} (h:Rd w 1 v n (ints .u32 xs)) (k:aR KI w w'):Rd w' 1 v n (ints .u32 xs):=h.kp (U:=UU) k.jU
theorem OwnU.iH {w w':World} {B n:Nat} {v:Value} {cs:List Value} (h:w.ownsRow B UU 1 v n cs) (k:aR KI w w'):w'.ownsRow B UU 1 v n cs:=Own.kp h k.jU
theorem jJ (a:Nat):(halves a).length<=2*(limbs a).length:=by
 have:=cM (ai a)
 rwa [ag] at this
theorem jK (va:Value) (n a:Nat) (w:World) (hr:Rd w 1 va n (ints .u32 (limbs a))) (hn:n<=1073741824):
  Calls Tryz.prog 191 #[va] w λe w'=>∃ p c,e=.returned (.slice p (halves a).length c)/\w'.ownsRow w.heap.size 3 1 (.slice p (halves a).length c) (halves a).length (ints .i64 (halves a))/\aw w w':=
 (yd va n _ w hr (ai a) hn).mono λe w' ⟨v',he,ho,hb⟩=>by
  rw[ag] at ho
  obtain⟨p,c,rfl,_⟩:=Own.form ho
  exact⟨p,c,he,ho,hb⟩
theorem oM (va:Value) (n a:Nat) (w:World) (hr:Rd w 1 va n (ints .i64 (halves a))) (hn:n<=2147483646):
  Calls Tryz.prog 189 #[va] w λe w'=>∃ p c xs,e=.returned (.slice p ((n+1)/2) c)/\w'.ownsRow w.heap.size UU 1 (.slice p ((n+1)/2) c) ((n+1)/2) (ints .u32 xs)/\af xs=a/\bH xs/\aw w w':=
 (AB va n _ w hr (bu a) aa).mono λe w' ⟨v',xs,he,hl,ho,hv,hx,hb⟩=>by
  obtain⟨p,c,rfl,_⟩:=Own.form ho
  exact⟨p,c,xs,he,ho,by rw[hv,aM],hx,hb⟩
theorem uM (va vb:Value) (n m A B:Nat) (w:World) (hr:Rd w 1 va n (ints .i64 (halves A))) (hs:Rd w 1 vb m (ints .i64 (halves B))) (hB:0<B) (hn:n<=1073741824) (hm:m<=1073741824):
  Calls Tryz.prog 204 #[va,vb] w λe w'=>∃ p c q d,e=.returned (.tuple #[.slice p (halves (A/B)).length c,.slice q (halves (A%B)).length d])/\w'.ownsRow w.heap.size 3 1 (.slice p (halves (A/B)).length c) (halves (A/B)).length (ints .i64 (halves (A/B)))/\w'.ownsRow w.heap.size 3 1 (.slice q (halves (A%B)).length d) (halves (A%B)).length (ints .i64 (halves (A%B)))/\aw w w':=
 (AG va vb n m A B w hr hs hB hn hm).mono λe w' ⟨v,u,he,h1,h2,hb⟩=>by
  obtain⟨p,c,rfl⟩:=h1.form
  obtain⟨q,d,rfl⟩:=h2.form
  exact⟨p,c,q,d,he,h1.own,h2.own,hb⟩
theorem EI {s:Bool} {n:Nat} (h:n≠0):(if s=true then-(n:Int) else n).sign=if s=true then-1 else 1:=by
 cases s
 ·exact dp (by simp;omega)
 ·exact sign_neg (by simp;omega)
theorem div_len {a b:Nat}:(halves (a/b)).length<=(halves a).length:=cN aa (Nat.div_le_self _ _)
theorem mod_len {a b:Nat}:(halves (a%b)).length<=(halves a).length:=cN aa (Nat.mod_le _ _)
theorem EJ {xs:List Nat} {a:Nat} {s:Bool} (hl:bH xs) (hv:af xs=a):Sz (if s=true then-((af xs:Nat):Int) else af xs) xs.length:=by
 unfold Sz
 have:(if s=true then-((af xs:Nat):Int) else af xs).natAbs=af xs:=by cases s <;> simp
 rw[this]
 exact fR hl
theorem jL (v u:Value) (X Y:Int) (j k:Nat) (w:World) (hv:bq w v X j) (hu:bq w u Y k) (hj:j<=134217728) (hk:k<=134217728):
  Calls Tryz.prog 170 #[v,u] w λe w'=>uB w w' X Y e/\aw w w':=by
 obtain⟨s,p,n,c,rfl⟩:=hv.form
 obtain⟨t,q,m,d,rfl⟩:=hu.form
 have qi:=hv.len
 have mi:=hu.len
 refine ae (C:=Ey Tryz.prog w _) (args:=[_,_]) Tryz.func170 rfl Tryz.ntmps170 (bG rfl) ?_
 refine dZ ?_
 refine VO.call rfl rfl (fk Tryz.func186) (λaO bE ba=>(jH _ X j aO (hv.iH bE)).mono ?_)
 rintro e w1 ⟨r1,rfl,h1,aD⟩
 obtain⟨s1,p1,n1,c1,rfl⟩:=h1.fo
 refine eH aD ?_
 intro cj _ bb1
 refine VO.call rfl rfl (fk Tryz.func186) (λbk bX bF=>(jH _ Y k bk (hu.iH (cj.ax bX))).mono ?_)
 rintro e w2 ⟨r2,rfl,h2,aP⟩
 obtain⟨s2,p2,n2,c2,rfl⟩:=h2.fo
 refine eH aP ?_
 intro da _ bb2
 have e1:=pY h1.IB
 have e2:=pY h2.IB
 have l1:=jJ X.natAbs
 have l2:=jJ Y.natAbs
 by_cases hY:Y=0
 ·have hn0:n2=0:=by rw[h2.n,hY];exact congrArg List.length bc
  refine VS.bg rfl (by rw[beq_iff_eq];omega) ?_
  refine dZ ?_
  refine rX ?_;intro wz kz bz
  exact⟨.inl ⟨hY,_,_,rfl,aj.zero _ _,aj.zero _ _⟩,bz⟩
 ·have hY0:Y.natAbs≠0:=by omega
  have hn0:n2≠0:=by rw[h2.n];intro e;exact hY0 (mj e)
  refine VS.bo rfl (by rw[beq_eq_false_iff_ne];omega) ?_
  refine dZ ?_
  refine VO.call rfl rfl (fk Tryz.func191) (λcX dh dS=>(jK _ n1 X.natAbs cX (h1.row.iH (bX.ax ((aR.of aP).ax dh))) (by rw[h1.n];omega)).mono ?_)
  rintro e w3 ⟨p3,c3,rfl,h3,cw⟩
  skip
  refine eH cw ?_
  intro fi _ bb3
  refine VO.call rfl rfl (fk Tryz.func191) (λfN ig iV=>(jK _ n2 Y.natAbs fN (h2.row.iH (dh.ax ((aR.of cw).ax ig))) (by rw[h2.n];omega)).mono ?_)
  rintro e w4 ⟨p4,c4,rfl,h4,gi⟩
  skip
  refine eH gi ?_
  intro lW _ uI
  refine VO.call rfl rfl (fk Tryz.func204) (λim jl jm=>(uM _ _ _ _ X.natAbs Y.natAbs im (Rd.own (vO.kp h3 (ig.ax ((aR.of gi).ax jl)))) (Rd.own (vO.kp h4 jl)) aa aa aa).mono ?_)
  rintro e w5 ⟨p5,c5,q5,d5,rfl,h5,h5',ja⟩
  skip
  refine eH ja ?_
  intro nZ _ yc
  have l5:(halves (X.natAbs/Y.natAbs)).length<=(halves X.natAbs).length:=div_len
  have l5':(halves (X.natAbs%Y.natAbs)).length<=(halves X.natAbs).length:=mod_len
  refine VO.call rfl rfl (fk Tryz.func189) (λoN ql tn=>(oM _ _ (X.natAbs/Y.natAbs) oN (Rd.own (vO.kp h5 ql)) aa).mono ?_)
  rintro e w6 ⟨p6,c6,xs6,rfl,h6,hx6,hl6,td⟩
  skip
  refine eH td ?_
  intro vx _ Gq
  refine VO.cI rfl rfl (fk Tryz.func171) (λyK AJ xd=>ic (!(s1 == s2)) _ _ xs6 yK (Rd.own (OwnU.iH h6 AJ)) hl6 aa) (λyK AJ xd w7 s7 p7 n7 c7 h7 Ho Dc _ bb7=>wV rfl ?_)
  refine dZ ?_
  refine VO.call rfl rfl (fk Tryz.func189) (λJH ka8 ba8=>(oM _ _ (X.natAbs%Y.natAbs) JH (Rd.own (vO.kp h5' (ql.ax ((aR.of td).ax (AJ.ax ((aR.of Ho).ax ka8)))))) aa).mono ?_)
  rintro e w8 ⟨p8,c8,xs8,rfl,h8,hx8,hl8,Hn⟩
  skip
  refine eH Hn ?_
  intro Dd _ bb8
  refine VO.cI rfl rfl (fk Tryz.func171) (λwa9 ka9 ba9=>ic s1 _ _ xs8 wa9 (Rd.own (OwnU.iH h8 ka9)) hl8 aa) (λwa9 ka9 ba9 w9 s9 p9 n9 c9 h9 hb9 Gr _ bb9=>wV rfl ?_)
  refine dZ ?_
  have z7:Sz (if (!(s1 == s2))=true then-((af xs6:Nat):Int) else af xs6) xs6.length:=EJ hl6 hx6
  have z9:Sz (if s1=true then-((af xs8:Nat):Int) else af xs8) xs8.length:=EJ hl8 hx8
  have lx6:xs6.length<=268435457:=by have:=h6.1;simp at this;omega
  have lx8:xs8.length<=268435457:=by have:=h8.1;simp at this;omega
  rw[hx6] at h7 z7
  rw[hx8] at h9 z9
  have law:=@nx X Y X.natAbs Y.natAbs
  by_cases sQ:X.natAbs%Y.natAbs=0
  ·have s0:(if s1=true then-((X.natAbs%Y.natAbs:Nat):Int) else ((X.natAbs%Y.natAbs:Nat):Int))=0:=by rw[sQ];cases s1 <;> rfl
   rw[s0] at h9 z9
   refine VO.cB rfl rfl (fk Tryz.func168) (λoO rf AL=>cK _ 0 _ oO ((h9.iH rf).in z9) aa) (λoO rf AL w10 qb ij _ Gs=>wV rfl ?_)
   (repeat (first|refine wN ?_|refine wP rfl ?_|refine wU rfl ?_|refine wO rfl rfl ?_))
   refine VS.uu (lH _ _) (iQ _ _) 5 rfl ?_
   (repeat' (first|refine VA.go rfl ?_|refine VA.fin rfl ?_|refine VA.dH _ rfl rfl ?_|refine VA.cons rfl ?_ ?_|exact VA.nil rfl))
   all_goals
    refine dZ ?_
    refine rX ?_;intro wz kz bz
    obtain⟨g1,g2⟩:=law e1 e2 hY0 (.inl ⟨.inr sQ,rfl,rfl⟩)
    refine⟨.inr ⟨hY,_,_,rfl,aj.cast ((h7.iH (Dd.ax (Gr.ax (ij.ax kz)))).mono xd.size) g1.symm,aj.cast ((h9.iH (ij.ax kz)).mono ba9.size) ?_⟩,bz⟩
    rw[g2,sQ]
    cases s2 <;> rfl
  ·have sy:=EI (s:=s2) hY0
   rw[<-e2] at sy
   have sr:=EI (s:=s1) sQ
   rcases hs12:(s1,s2) with ⟨_|_,_|_⟩ <;> cases hs12
   ·replace sr:(if false=true then-((X.natAbs%Y.natAbs:Nat):Int) else ((X.natAbs%Y.natAbs:Nat):Int)).sign=1:=sr
    replace sy:Y.sign=1:=sy
    refine VO.call rfl rfl (fk Tryz.func168) (λoO rf AL=>(cK _ _ _ oO ((h9.iH rf).in z9) aa).mono ?_)
    rintro e w10 ⟨rfl,qb⟩
    rw[sr]
    refine eH qb ?_
    intro ij _ Gs
    refine VO.call rfl rfl (fk Tryz.func168) (λrh uN De=>(cK _ _ _ rh ((h9.iH (ij.ax uN)).in z9) aa).mono ?_)
    rintro e w11 ⟨rfl,ye⟩
    rw[sr]
    refine eH ye ?_
    intro lL _ JI
    refine VO.call rfl rfl (fk Tryz.func168) (λrj uO Df=>(cK _ Y k rj ((h2.iH (fi.ax (lW.ax (nZ.ax (vx.ax (Dc.ax (Dd.ax (Gr.ax (ij.ax (lL.ax uO)))))))))).to mi) aa).mono ?_)
    rintro e w12 ⟨rfl,yf⟩
    rw[sy]
    refine⟨_,rfl,yf,λoP _ JJ=>wV rfl ?_⟩
    (repeat (first|refine wN ?_|refine wP rfl ?_|refine wU rfl ?_|refine wO rfl rfl ?_))
    refine VS.uu (lH _ _) (iQ _ _) 5 rfl ?_
    (repeat' (first|refine VA.go rfl ?_|refine VA.fin rfl ?_|refine VA.dH _ rfl rfl ?_|refine VA.cons rfl ?_ ?_|exact VA.nil rfl))
    all_goals
     refine dZ ?_
     refine rX ?_;intro wz kz bz
     obtain⟨g1,g2⟩:=law e1 e2 hY0 (.inl ⟨.inl rfl,rfl,rfl⟩)
     exact⟨.inr ⟨hY,_,_,rfl,aj.cast ((h7.iH (Dd.ax (Gr.ax (ij.ax (lL.ax (oP.ax kz)))))).mono xd.size) g1.symm,aj.cast ((h9.iH (ij.ax (lL.ax (oP.ax kz)))).mono ba9.size) g2.symm⟩,bz⟩
   ·replace sr:(if false=true then-((X.natAbs%Y.natAbs:Nat):Int) else ((X.natAbs%Y.natAbs:Nat):Int)).sign=1:=sr
    replace sy:Y.sign= -1:=sy
    refine VO.call rfl rfl (fk Tryz.func168) (λoO rf AL=>(cK _ _ _ oO ((h9.iH rf).in z9) aa).mono ?_)
    rintro e w10 ⟨rfl,qb⟩
    rw[sr]
    refine eH qb ?_
    intro ij _ Gs
    refine VO.call rfl rfl (fk Tryz.func168) (λrh uN De=>(cK _ _ _ rh ((h9.iH (ij.ax uN)).in z9) aa).mono ?_)
    rintro e w11 ⟨rfl,ye⟩
    rw[sr]
    refine eH ye ?_
    intro lL _ JI
    refine VO.call rfl rfl (fk Tryz.func168) (λrj uO Df=>(cK _ Y k rj ((h2.iH (fi.ax (lW.ax (nZ.ax (vx.ax (Dc.ax (Dd.ax (Gr.ax (ij.ax (lL.ax uO)))))))))).to mi) aa).mono ?_)
    rintro e w12 ⟨rfl,yf⟩
    rw[sy]
    refine eH yf ?_
    intro oP _ JJ
    refine VO.cI rfl rfl (fk Tryz.func136) (λAM JK JL=>ny 1 AM aa aa) (λAM JK JL w13 s13 p13 n13 c13 h13 hb13 AO _ bb13=>wV rfl ?_)
    refine dZ ?_
    refine VO.cI rfl rfl (fk Tryz.func205) (λAP yg Dg=>AA _ _ _ 1 _ 1 AP (((h7.iH (Dd.ax (Gr.ax (ij.ax (lL.ax (oP.ax (AO.ax yg))))))).in z7)) ((h13.iH yg).in (Sz.small fq)) aa aa) (λAP yg Dg w14 s14 p14 n14 c14 h14 hb14 Gt _ bb14=>wV rfl ?_)
    refine dZ ?_
    refine VO.cI rfl rfl (fk Tryz.func159) (λAQ yh Dh=>uH _ _ _ Y _ k AQ ((h9.iH (ij.ax (lL.ax (oP.ax (AO.ax (Gt.ax yh)))))).in z9) ((h2.iH (fi.ax (lW.ax (nZ.ax (vx.ax (Dc.ax (Dd.ax (Gr.ax (ij.ax (lL.ax (oP.ax (AO.ax (Gt.ax yh))))))))))))).to mi) aa aa) (λAQ yh Dh w15 s15 p15 n15 c15 h15 hb15 kb15 _ bb15=>wV rfl ?_)
    (repeat (first|refine wN ?_|refine wP rfl ?_|refine wU rfl ?_|refine wO rfl rfl ?_))
    refine VS.uu (lH _ _) (iQ _ _) 5 rfl ?_
    (repeat' (first|refine VA.go rfl ?_|refine VA.fin rfl ?_|refine VA.dH _ rfl rfl ?_|refine VA.cons rfl ?_ ?_|exact VA.nil rfl))
    all_goals
     refine dZ ?_
     refine rX ?_;intro wz kz bz
     have hlt:=Nat.mod_lt X.natAbs (show 0<Y.natAbs by omega)
     obtain⟨g1,g2⟩:=law e1 e2 hY0 (.inr ⟨by simp,sQ,rfl,rfl⟩)
     refine⟨.inr ⟨hY,_,_,rfl,aj.cast ((h14.iH (kb15.ax kz)).mono Dg.size) ?_,aj.cast ((h15.iH kz).mono Dh.size) ?_⟩,bz⟩
     ·rw[g1];simp;omega
     ·rw[g2];simp at e1 e2 ⊢;omega
   ·replace sr:(if true=true then-((X.natAbs%Y.natAbs:Nat):Int) else ((X.natAbs%Y.natAbs:Nat):Int)).sign= -1:=sr
    replace sy:Y.sign=1:=sy
    refine VO.call rfl rfl (fk Tryz.func168) (λoO rf AL=>(cK _ _ _ oO ((h9.iH rf).in z9) aa).mono ?_)
    rintro e w10 ⟨rfl,qb⟩
    rw[sr]
    refine eH qb ?_
    intro ij _ Gs
    refine VO.call rfl rfl (fk Tryz.func168) (λrh uN De=>(cK _ _ _ rh ((h9.iH (ij.ax uN)).in z9) aa).mono ?_)
    rintro e w11 ⟨rfl,ye⟩
    rw[sr]
    refine eH ye ?_
    intro lL _ JI
    refine VO.call rfl rfl (fk Tryz.func168) (λrj uO Df=>(cK _ Y k rj ((h2.iH (fi.ax (lW.ax (nZ.ax (vx.ax (Dc.ax (Dd.ax (Gr.ax (ij.ax (lL.ax uO)))))))))).to mi) aa).mono ?_)
    rintro e w12 ⟨rfl,yf⟩
    rw[sy]
    refine eH yf ?_
    intro oP _ JJ
    refine VO.cI rfl rfl (fk Tryz.func136) (λAM JK JL=>ny 1 AM aa aa) (λAM JK JL w13 s13 p13 n13 c13 h13 hb13 AO _ bb13=>wV rfl ?_)
    refine dZ ?_
    refine VO.cI rfl rfl (fk Tryz.func205) (λAP yg Dg=>AA _ _ _ 1 _ 1 AP (((h7.iH (Dd.ax (Gr.ax (ij.ax (lL.ax (oP.ax (AO.ax yg))))))).in z7)) ((h13.iH yg).in (Sz.small fq)) aa aa) (λAP yg Dg w14 s14 p14 n14 c14 h14 hb14 Gt _ bb14=>wV rfl ?_)
    refine dZ ?_
    refine VO.cI rfl rfl (fk Tryz.func159) (λAQ yh Dh=>uH _ _ _ Y _ k AQ ((h9.iH (ij.ax (lL.ax (oP.ax (AO.ax (Gt.ax yh)))))).in z9) ((h2.iH (fi.ax (lW.ax (nZ.ax (vx.ax (Dc.ax (Dd.ax (Gr.ax (ij.ax (lL.ax (oP.ax (AO.ax (Gt.ax yh))))))))))))).to mi) aa aa) (λAQ yh Dh w15 s15 p15 n15 c15 h15 hb15 kb15 _ bb15=>wV rfl ?_)
    (repeat (first|refine wN ?_|refine wP rfl ?_|refine wU rfl ?_|refine wO rfl rfl ?_))
    refine VS.uu (lH _ _) (iQ _ _) 5 rfl ?_
    (repeat' (first|refine VA.go rfl ?_|refine VA.fin rfl ?_|refine VA.dH _ rfl rfl ?_|refine VA.cons rfl ?_ ?_|exact VA.nil rfl))
    all_goals
     refine dZ ?_
     refine rX ?_;intro wz kz bz
     have hlt:=Nat.mod_lt X.natAbs (show 0<Y.natAbs by omega)
     obtain⟨g1,g2⟩:=law e1 e2 hY0 (.inr ⟨by simp,sQ,rfl,rfl⟩)
     refine⟨.inr ⟨hY,_,_,rfl,aj.cast ((h14.iH (kb15.ax kz)).mono Dg.size) ?_,aj.cast ((h15.iH kz).mono Dh.size) ?_⟩,bz⟩
     ·rw[g1];simp;omega
     ·rw[g2];simp at e1 e2 ⊢;omega
   ·replace sr:(if true=true then-((X.natAbs%Y.natAbs:Nat):Int) else ((X.natAbs%Y.natAbs:Nat):Int)).sign= -1:=sr
    replace sy:Y.sign= -1:=sy
    refine VO.call rfl rfl (fk Tryz.func168) (λoO rf AL=>(cK _ _ _ oO ((h9.iH rf).in z9) aa).mono ?_)
    rintro e w10 ⟨rfl,qb⟩
    rw[sr]
    refine eH qb ?_
    intro ij _ Gs
    refine VO.call rfl rfl (fk Tryz.func168) (λrh uN De=>(cK _ _ _ rh ((h9.iH (ij.ax uN)).in z9) aa).mono ?_)
    rintro e w11 ⟨rfl,ye⟩
    rw[sr]
    refine eH ye ?_
    intro lL _ JI
    refine VO.call rfl rfl (fk Tryz.func168) (λrj uO Df=>(cK _ Y k rj ((h2.iH (fi.ax (lW.ax (nZ.ax (vx.ax (Dc.ax (Dd.ax (Gr.ax (ij.ax (lL.ax uO)))))))))).to mi) aa).mono ?_)
    rintro e w12 ⟨rfl,yf⟩
    rw[sy]
    refine⟨_,rfl,yf,λoP _ JJ=>wV rfl ?_⟩
    (repeat (first|refine wN ?_|refine wP rfl ?_|refine wU rfl ?_|refine wO rfl rfl ?_))
    refine VS.uu (lH _ _) (iQ _ _) 5 rfl ?_
    (repeat' (first|refine VA.go rfl ?_|refine VA.fin rfl ?_|refine VA.dH _ rfl rfl ?_|refine VA.cons rfl ?_ ?_|exact VA.nil rfl))
    all_goals
     refine dZ ?_
     refine rX ?_;intro wz kz bz
     obtain⟨g1,g2⟩:=law e1 e2 hY0 (.inl ⟨.inl rfl,rfl,rfl⟩)
     exact⟨.inr ⟨hY,_,_,rfl,aj.cast ((h7.iH (Dd.ax (Gr.ax (ij.ax (lL.ax (oP.ax kz)))))).mono xd.size) g1.symm,aj.cast ((h9.iH (ij.ax (lL.ax (oP.ax kz)))).mono ba9.size) g2.symm⟩,bz⟩
set_option maxRecDepth 4000
theorem gcd_len {a b N:Nat} (hb:b≠0) (ha:(halves a).length<=N) (hbl:(halves b).length<=N):(halves (a%b)).length<=N:=Nat.le_trans (cN aa (Nat.le_of_lt (Nat.mod_lt a (Nat.pos_of_ne_zero hb)))) hbl
theorem jv {P:Prop} (h:P:=by (repeat first|exact trivial|refine⟨ay.lit rfl,?_⟩|refine⟨ay.vals _,?_⟩)):P:=h
theorem AR (v u:Value) (X Y:Int) (j k:Nat) (w:World) (hv:bq w v X j) (hu:bq w u Y k) (hj:j<=268435456) (hk:k<=268435456):
  Calls Tryz.prog 169 #[v,u] w λe w'=>∃ r,e=.returned r/\aj w' w.heap.size r (Int.gcd X Y:Int)/\aw w w':=by
 obtain⟨s,p,n,c,rfl⟩:=hv.form
 obtain⟨t,q,m,d,rfl⟩:=hu.form
 have qi:=hv.len
 have mi:=hu.len
 have l1:=jJ X.natAbs
 have l2:=jJ Y.natAbs
 refine ae (C:=Ey Tryz.prog w _) (args:=[_,_]) Tryz.func169 rfl Tryz.ntmps169 (bG rfl) ?_
 refine dZ ?_
 refine VO.call rfl rfl (fk Tryz.func186) (λaO bE ba=>(jH _ X j aO (hv.iH bE)).mono ?_)
 rintro e w1 ⟨r1,rfl,h1,aD⟩
 obtain⟨s1,p1,n1,c1,rfl⟩:=h1.fo
 refine eH aD ?_
 intro cj _ bb1
 refine VO.call rfl rfl (fk Tryz.func191) (λcX dh dS=>(jK _ n1 X.natAbs cX (h1.row.iH dh) (by rw[h1.n];omega)).mono ?_)
 rintro e w3 ⟨p3,c3,rfl,h3,cw⟩
 skip
 refine eH cw ?_
 intro fi _ bb3
 refine VO.call rfl rfl (fk Tryz.func186) (λbk bX bF=>(jH _ Y k bk (hu.iH (cj.ax (fi.ax bX)))).mono ?_)
 rintro e w2 ⟨r2,rfl,h2,aP⟩
 obtain⟨s2,p2,n2,c2,rfl⟩:=h2.fo
 refine eH aP ?_
 intro da _ bb2
 refine VO.call rfl rfl (fk Tryz.func191) (λfN ig iV=>(jK _ n2 Y.natAbs fN (h2.row.iH ig) (by rw[h2.n];omega)).mono ?_)
 rintro e w4 ⟨p4,c4,rfl,h4,gi⟩
 skip
 refine eH gi ?_
 intro lW _ uI
 refine VS.loop (J:=λms L M w'=>∃ (a b:Nat) (px:Option Addr) (cx:Nat) (py:Option Addr) (cy:Nat),ms=b/\Nat.gcd a b=Int.gcd X Y/\L=[(4,.box 4 0),(5,.val (.slice px (halves a).length cx)),(6,.val (.slice py (halves b).length cy))]/\M=[(4,(53,([.bool false,.slice none 0 0]:List Value).map .val))]/\
  (halves a).length<=536870912/\(halves b).length<=536870912/\w'.ownsRow w.heap.size 3 1 (.slice px (halves a).length cx) (halves a).length (ints .i64 (halves a))/\w'.ownsRow w.heap.size 3 1 (.slice py (halves b).length cy) (halves b).length (ints .i64 (halves b))) Y.natAbs
  ⟨_,_,?_,?_,?_,?_,⟨X.natAbs,Y.natAbs,p3,c3,p4,c4,rfl,rfl,rfl,rfl,by omega,by omega,vO.kp (Own.mono h3 dS.size) (da.ax lW),Own.mono h4 iV.size⟩⟩ ?_
 ·exact dy
 ·exact dy
 ·rfl
 ·exact jv
 rintro ms L M w' ⟨a,b,px,cx,py,cy,hms,hg,rfl,rfl,la,lb,oa,ob⟩
 refine dZ ?_
 by_cases kV:b=0
 ·subst kV
  have hl0:(halves 0).length=0:=by rw[jG];rfl
  refine VS.bo rfl (decide_eq_false (by rw[hl0];omega)) ?_
  refine dZ ?_
  refine VO.call rfl rfl (fk Tryz.func189) (λoN ql tn=>(oM _ _ a oN (Rd.own (vO.kp oa ql)) aa).mono ?_)
  rintro e w6 ⟨p6,c6,xs6,rfl,h6,hx6,hl6,td⟩
  skip
  refine eH td ?_
  intro vx _ Gq
  refine VO.cI rfl rfl (fk Tryz.func171) (λyK AJ xd=>ic false _ _ xs6 yK (Rd.own (OwnU.iH h6 AJ)) hl6 aa) (λyK AJ xd w7 s7 p7 n7 c7 h7 Ho Dc _ bb7=>wV rfl ?_)
  refine dZ ?_
  refine rX ?_;intro wz kz bz
  refine⟨_,rfl,aj.cast ((h7.iH kz).mono xd.size) ?_,bz⟩
  rw[hx6,<-hg,Nat.gcd_zero_right];rfl
 ·have hlp:0<(halves b).length:=lS aa kV
  refine VS.bg rfl (decide_eq_true aa) ?_
  refine dZ ?_
  refine VO.call rfl rfl (fk Tryz.func204) (λim jl jm=>(uM _ _ _ _ a b im (Rd.own (vO.kp oa jl)) (Rd.own (vO.kp ob jl)) aa aa aa).mono ?_)
  rintro e w5 ⟨p5,c5,q5,d5,rfl,h5,h5',ja⟩
  skip
  refine eH ja ?_
  intro nZ _ yc
  refine VS.back (a%b) (by rw[hms];exact Nat.mod_lt _ aa) ⟨_,_,?_,?_,?_,?_,⟨b,a%b,py,cy,q5,d5,rfl,by rw[<-hg,Nat.gcd_comm a b,Nat.gcd_comm b (a%b)];exact (Nat.gcd_rec b a).symm,rfl,rfl,lb,gcd_len kV la lb,vO.kp ob nZ,Own.mono h5' jm.size⟩⟩
  ·exact dy
  ·exact dy
  ·rfl
  ·exact jv
end
set_option maxRecDepth 4000
section
open Go.RowKit
attribute [local irreducible] ak VS
theorem lM (w:World):Calls Tryz.prog 41 #[] w λe w'=>∃ r,e=.returned r/\aj w' w.heap.size r 1/\aw w w':=by
 refine ae (C:=aX Tryz.prog w _) (args:=[]) Tryz.func41 rfl Tryz.ntmps41 (bG rfl) ?_
 refine ab ?_
 refine VO.cI rfl rfl (fk Tryz.func40) (λaO bE ba=>lI 1 aO aa aa) (λaO bE ba w1 s1 p1 n1 c1 h1 aD cj _ bb1=>wV rfl ?_)
 refine ab ?_
 refine az ?_;intro wz kz bz
 exact⟨_,rfl,(h1.kp kz).mono ba.size,bz⟩
def sJ (s:Bool) (xs:List Nat) (t:Bool) (ys:List Nat):Bool:=cY s xs && (cY t ys && (decide (0<numOf t ys) && decide (Int.gcd (numOf s xs) (numOf t ys)=1)))
theorem uP {s t:Bool} {xs ys:List Nat} (h:sJ s xs t ys=false):rq s xs t ys=0:=by
 unfold rq CW
 split
 ·rename_i hc
  cases h1:cY s xs with
  | false=>unfold numOf;rw[if_neg (by simp[h1])];simp
  | true=>
    cases h2:cY t ys with
    | false=>
      have:numOf t ys=0:=by unfold numOf;rw[if_neg (by simp[h2])]
      omega
    | true=>
      unfold sJ at h
      rw[h1,h2,decide_eq_true hc.1,decide_eq_true hc.2] at h
      cases h
 ·rfl
theorem EK {s t:Bool} {xs ys:List Nat} (h:sJ s xs t ys=true):cY s xs=true/\cY t ys=true/\0<numOf t ys/\Int.gcd (numOf s xs) (numOf t ys)=1:=by
 unfold sJ at h
 simp only[Bool.and_eq_true,decide_eq_true_eq] at h
 exact h
theorem ez.lim {w:World} {v:Value} {s:Bool} {xs:List Nat} (h:ez w v s xs):bH xs:=by
 obtain⟨_,_,_,_,l⟩:=h
 exact l
theorem uQ {w:World} {v:Value} {s t:Bool} {xs ys:List Nat} (hv:bW w v s xs t ys) (h:sJ s xs t ys=true):aQ w v (rq s xs t ys):=by
 obtain⟨h1,h2,h3,h4⟩:=EK h
 obtain⟨p,c,r,d,rfl,a1,a2⟩:=hv
 obtain⟨e1,e2⟩:=lJ ⟨h3,h4⟩
 refine⟨s,p,_,c,t,r,_,d,rfl,?_,?_⟩
 ·unfold rq;rw[e1]
  have l:=a1.lim
  unfold numOf
  rw[if_pos h1]
  obtain⟨c1,c2⟩:=canon l h1
  show ez _ _ _ _
  rw[<-c1,<-c2]
  assumption
 ·unfold rq;rw[e2]
  have l:=a2.lim
  unfold numOf
  rw[if_pos h2]
  obtain⟨c1,c2⟩:=canon l h2
  show ez _ _ _ _
  rw[<-c1,<-c2]
  assumption
theorem ez.in {w:World} {v:Value} {s:Bool} {xs:List Nat} {k:Nat} (h:ez w v s xs) (hk:xs.length<=k):bq w v (numOf s xs) k:=⟨s,xs,h,rfl,hk⟩
theorem iI (s t:Bool) (xs ys:List Nat) (v:Value) (w:World) (h:bW w v s xs t ys) (hx:xs.length<=536870912) (hy:ys.length<=536870912):
  Calls Tryz.prog 97 #[v] w λe w'=>e=.returned (.bool (sJ s xs t ys))/\aw w w':=by
 obtain⟨p,c,r,d,rfl,h1,h2⟩:=h
 refine ae (C:=aX Tryz.prog w _) (args:=[_]) Tryz.func97 rfl Tryz.ntmps97 (bG rfl) ?_
 refine ab ?_
 refine VO.call rfl rfl (fk Tryz.func150) (λaO bE ba=>(oJ s xs _ aO (h1.bt ba)).mono ?_)
 rintro e w1 ⟨rfl,aD⟩
 cases q1:cY s xs
 ·refine aH aD ?_
  intro cj _ bb1
  refine az ?_;intro wz kz bz
  exact⟨by simp[sJ,q1,jB],bz⟩
 refine aH aD ?_
 intro cj _ bb1
 refine VO.call rfl rfl (fk Tryz.func150) (λbk bX bF=>(oJ t ys _ bk (h2.bt bF)).mono ?_)
 rintro e w2 ⟨rfl,aP⟩
 cases q2:cY t ys
 ·refine aH aP ?_
  intro da _ bb2
  refine az ?_;intro wz kz bz
  exact⟨by simp[sJ,q1,q2,jB],bz⟩
 refine aH aP ?_
 intro da _ bb2
 refine VO.call rfl rfl (fk Tryz.func112) (λcX dh dS=>(iR _ (numOf t ys) _ cX ((h2.in (Nat.le_refl _)).bt dS)).mono ?_)
 rintro e w3 ⟨rfl,cw⟩
 by_cases q3:0<numOf t ys
 ·rw[dp q3]
  refine aH cw ?_
  intro fi _ bb3
  refine VO.cI rfl rfl (fk Tryz.func146) (λfN ig iV=>Au _ _ (numOf s xs) (numOf t ys) _ _ fN ((h1.in (Nat.le_refl _)).bt iV) ((h2.in (Nat.le_refl _)).bt iV) hx hy) (λfN ig iV w4 s4 p4 n4 c4 h4 gi lW _ uI=>wV rfl ?_)
  refine ab ?_
  refine VO.cI rfl rfl (fk Tryz.func41) (λim jl jm=>lM im) (λim jl jm w5 s5 p5 n5 c5 h5 ja nZ _ yc=>wV rfl ?_)
  refine ab ?_
  have hg:Sz (Int.gcd (numOf s xs) (numOf t ys):Int) ys.length:=by
   obtain⟨_,_,_,_,l2⟩:=h2
   refine Sz.le (Y:=numOf t ys) (uF l2 (Nat.le_refl _)) ?_
   rw[Int.natAbs_natCast,<-Int.natAbs_natCast (Int.gcd (numOf s xs) (numOf t ys))]
   have:=Int.gcd_dvd_right (numOf s xs) (numOf t ys)
   have:=Int.natAbs_dvd_natAbs.2 this
   exact Nat.le_of_dvd aa this
  refine VO.call rfl rfl (fk Tryz.func51) (λoN ql tn=>(kH _ _ (Int.gcd (numOf s xs) (numOf t ys):Int) 1 _ 1 oN ((h4.kp (jl.ax ((Kp.of ja).ax ql))).in hg) ((h5.kp ql).in (Sz.small fq)) aa aa).mono ?_)
  rintro e w6 ⟨rfl,td⟩
  by_cases q4:Int.gcd (numOf s xs) (numOf t ys)=1
  ·rw[show ((Int.gcd (numOf s xs) (numOf t ys):Int)-1).sign=0 by rw[q4];rfl]
   refine aH td ?_
   intro vx _ Gq
   refine az ?_;intro wz kz bz
   exact⟨by simp[sJ,q1,q2,q3,q4,jB],bz⟩
  ·have hne:(((Int.gcd (numOf s xs) (numOf t ys):Int)-1).sign == 0)=false:=by
    rw[beq_eq_false_iff_ne]
    intro e
    have:=Int.sign_eq_zero_iff_zero.1 e
    omega
   refine aH td ?_
   intro vx _ Gq
   refine az ?_;intro wz kz bz
   exact⟨by simp only[sJ,q1,q2,q3,q4,jB,Bool.true_and,decide_true,decide_false,hne],bz⟩
 ·have q4:(numOf t ys).sign=0\/(numOf t ys).sign= -1:=by
   rcases Int.lt_trichotomy (numOf t ys) 0 with e|e|e
   ·exact .inr (sign_neg e)
   ·rw[e];exact .inl rfl
   ·exact absurd e q3
  rcases q4 with q4|q4
  all_goals
   rw[q4]
   refine aH cw ?_
   intro fi _ bb3
   refine az ?_;intro wz kz bz
   exact⟨by simp[sJ,q1,q2,q3,jB],bz⟩
theorem aQ.zero {w:World} {p:Option Addr} {n c:Nat} {s:Bool} (h:bd w (.agg #[.bool s,.slice p n c]) 1):aQ w (.agg #[.bool false,.slice none 0 0,.bool s,.slice p n c]) 0:=⟨_,_,_,_,_,_,_,_,rfl,bd.zero _,h⟩
theorem aI.zero {w:World} {B:Nat} {p:Option Addr} {n c:Nat} {s:Bool} (h:aj w B (.agg #[.bool s,.slice p n c]) 1):aI w B (.agg #[.bool false,.slice none 0 0,.bool s,.slice p n c]) 0:=⟨_,_,_,_,_,_,_,_,rfl,aj.zero _ _,h⟩
theorem bI (v:Value) (q:Rat) (k:Nat) (w:World) (h:aC w v q k) (hk:k<=536870912):
  Calls Tryz.prog 45 #[v] w λe w'=>∃ r,e=.returned r/\aQ w' r q/\aw w w':=by
 obtain⟨s,xs,t,ys,fM,rfl,hx,hy⟩:=h
 have AU:=fM
 obtain⟨p,c,r,d,rfl,_,_⟩:=fM
 refine ae (C:=aX Tryz.prog w _) (args:=[_]) Tryz.func45 rfl Tryz.ntmps45 (bG rfl) ?_
 refine ab ?_
 refine VO.call rfl rfl (fk Tryz.func97) (λaO bE ba=>(iI s t xs ys _ aO (AU.kp bE) aa aa).mono ?_)
 rintro e w1 ⟨rfl,aD⟩
 cases hq:sJ s xs t ys
 ·refine aH aD ?_
  intro cj _ bb1
  refine VO.cI rfl rfl (fk Tryz.func41) (λbk bX bF=>lM bk) (λbk bX bF w2 s2 p2 n2 c2 h2 aP da _ bb2=>wV rfl ?_)
  refine ab ?_
  refine az ?_;intro wz kz bz
  exact⟨_,rfl,by rw[uP hq];exact aQ.zero (h2.kp kz).rd,bz⟩
 ·refine aH aD ?_
  intro cj _ bb1
  refine az ?_;intro wz kz bz
  exact⟨_,rfl,(uQ AU hq).kp (cj.ax kz),bz⟩
theorem Di {X Y:Int} {k:Nat} (hY:Sz Y k) (h:Y≠0):Sz (Int.gcd X Y:Int) k:=by
 refine Sz.le (Y:=Y) hY ?_
 rw[Int.natAbs_natCast,<-Int.natAbs_natCast (Int.gcd X Y)]
 exact Nat.le_of_dvd aa (Int.natAbs_dvd_natAbs.2 (Int.gcd_dvd_right X Y))
theorem dI {w w':World} {X Y:Int} {e:Ending} (h:uB w w' X Y e) (hY:Y≠0):∃ v u,e=.returned (.tuple #[v,u,.int .i64 0])/\aj w' w.heap.size v (X.fdiv Y)/\aj w' w.heap.size u (X.fmod Y):=by
 rcases h with ⟨h0,_⟩|⟨_,h⟩
 ·exact absurd h0 hY
 ·exact h
theorem jM (v u:Value) (X Y:Int) (j k:Nat) (w:World) (hv:bq w v X j) (hu:bq w u Y k) (hj:j<=268435456) (hk:k<=268435456) (hY:Y≠0):
  Calls Tryz.prog 94 #[v,u] w λe w'=>∃ r,e=.returned r/\aI w' w.heap.size r (Rat.divInt X Y)/\aw w w':=by
 obtain⟨s,p,n,c,rfl⟩:=hv.form
 obtain⟨t,r,m,d,rfl⟩:=hu.form
 refine ae (C:=aX Tryz.prog w _) (args:=[_,_]) Tryz.func94 rfl Tryz.ntmps94 (bG rfl) ?_
 refine ab ?_
 refine VO.cI rfl rfl (fk Tryz.func146) (λaO bE ba=>Au _ _ X Y j k aO (hv.kp bE) (hu.kp bE) aa aa) (λaO bE ba w1 s1 p1 n1 c1 h1 aD cj _ bb1=>wV rfl ?_)
 refine ab ?_
 refine VO.call rfl rfl (fk Tryz.func112) (λbk bX bF=>(iR _ Y k bk (hu.bt bF)).mono ?_)
 rintro e w2 ⟨rfl,aP⟩
 have JM:Sz (Int.gcd X Y:Int) k:=Di hu.len hY
 have Jo:(Int.gcd X Y:Int)≠0:=by
  intro e
  have:=(Int.gcd_eq_zero_iff.1 (show Int.gcd X Y=0 by omega)).2
  exact hY this
 rcases Int.lt_or_lt_of_ne hY with q|q
 ·rw[sign_neg q]
  obtain⟨l1,l2⟩:=low_neg (X:=X) q
  refine aH aP ?_
  intro da _ bb2
  refine VO.cI rfl rfl (fk Tryz.func98) (λcX dh dS=>Ar _ (Int.gcd X Y:Int) k cX ((h1.kp (da.ax dh)).in JM) aa) (λcX dh dS w3 s3 p3 n3 c3 h3 cw fi _ bb3=>wV rfl ?_)
  refine ab ?_
  refine VO.call rfl rfl (fk Tryz.func147) (λfN ig iV=>(ib _ _ X (-(Int.gcd X Y:Int)) j k fN (hv.bt iV) ((h3.kp ig).in JM.neg) aa aa).mono ?_)
  rintro e w4 ⟨hd4,gi⟩
  obtain⟨v4,u4,rfl,h4,h4'⟩:=dI hd4 aa
  obtain⟨s4,p4,n4,c4,rfl⟩:=h4.form
  obtain⟨t4,r4,m4,d4,rfl⟩:=h4'.form
  refine aH gi ?_
  intro lW _ uI
  refine VO.call rfl rfl (fk Tryz.func147) (λim jl jm=>(ib _ _ Y (-(Int.gcd X Y:Int)) k k im (hu.bt jm) ((h3.kp (lW.ax jl)).in JM.neg) aa aa).mono ?_)
  rintro e w5 ⟨hd5,ja⟩
  obtain⟨v5,u5,rfl,h5,h5'⟩:=dI hd5 aa
  obtain⟨s5,p5,n5,c5,rfl⟩:=h5.form
  obtain⟨t5,r5,m5,d5,rfl⟩:=h5'.form
  refine aH ja ?_
  intro nZ _ yc
  refine az ?_;intro wz kz bz
  exact⟨_,rfl,⟨_,_,_,_,_,_,_,_,rfl,aj.cast ((h4.kp (nZ.ax kz)).mono iV.size) l1,aj.cast ((h5.kp kz).mono jm.size) l2⟩,bz⟩
 ·rw[dp q]
  obtain⟨l1,l2⟩:=tg (X:=X) q
  refine aH aP ?_
  intro da _ bb2
  refine VO.call rfl rfl (fk Tryz.func147) (λfN ig iV=>(ib _ _ X (Int.gcd X Y:Int) j k fN (hv.bt iV) ((h1.kp (da.ax ig)).in JM) aa aa).mono ?_)
  rintro e w4 ⟨hd4,gi⟩
  obtain⟨v4,u4,rfl,h4,h4'⟩:=dI hd4 aa
  obtain⟨s4,p4,n4,c4,rfl⟩:=h4.form
  obtain⟨t4,r4,m4,d4,rfl⟩:=h4'.form
  refine aH gi ?_
  intro lW _ uI
  refine VO.call rfl rfl (fk Tryz.func147) (λim jl jm=>(ib _ _ Y (Int.gcd X Y:Int) k k im (hu.bt jm) ((h1.kp (da.ax (lW.ax jl))).in JM) aa aa).mono ?_)
  rintro e w5 ⟨hd5,ja⟩
  obtain⟨v5,u5,rfl,h5,h5'⟩:=dI hd5 aa
  obtain⟨s5,p5,n5,c5,rfl⟩:=h5.form
  obtain⟨t5,r5,m5,d5,rfl⟩:=h5'.form
  refine aH ja ?_
  intro nZ _ yc
  refine az ?_;intro wz kz bz
  exact⟨_,rfl,⟨_,_,_,_,_,_,_,_,rfl,aj.cast ((h4.kp (nZ.ax kz)).mono iV.size) l1,aj.cast ((h5.kp kz).mono jm.size) l2⟩,bz⟩
end
section
open Go.RowKit
attribute [local irreducible] ak VS
theorem yi (q r:Rat):q+r=Rat.divInt (q.num*r.den+r.num*q.den) ((q.den:Int)*r.den):=by
 rw[Rat.add_def',<-Rat.divInt_ofNat];simp
theorem add_same {q r:Rat} (h:(q.den:Int)=r.den):q+r=Rat.divInt (q.num+r.num) q.den:=by
 rw[yi,<-h]
 have hd:(q.den:Int)≠0:=by have:=q.den_nz;omega
 rw[<-Int.add_mul,Rat.divInt_mul_right hd]
theorem EL (q r:Rat):q*r=Rat.divInt (q.num*r.num) ((q.den:Int)*r.den):=by
 rw[Rat.mul_def',<-Rat.divInt_ofNat];simp
theorem kJ {X Y:Int} {k l:Nat} (hX:Sz X k) (hY:Sz Y l) (h:Y≠0):Sz (Rat.divInt X Y).num k/\Sz ((Rat.divInt X Y).den:Int) l:=by
 constructor
 ·refine Sz.le hX ?_
  rw[Rat.num_divInt]
  have h1:(Y.sign*X/(Y.gcd X:Int)).natAbs<=(Y.sign*X).natAbs:=Int.natAbs_ediv_le_natAbs _ _
  rw[Int.natAbs_mul] at h1
  have h2:Y.sign.natAbs=1:=by
   rcases Int.lt_or_lt_of_ne h with e|e
   ·rw[sign_neg e];rfl
   ·rw[dp e];rfl
  rw[h2,Nat.one_mul] at h1
  exact h1
 ·refine Sz.le hY ?_
  rw[Rat.den_divInt,if_neg h,Int.natAbs_natCast]
  exact Nat.div_le_self _ _
theorem bK.add {q r:Rat} {k l:Nat} (hq:bK q k) (hr:bK r l):bK (q+r) (k+l+1):=by
 rw[yi]
 have hd:(q.den:Int)*r.den≠0:=Int.mul_ne_zero (by have:=q.den_nz;omega) (by have:=r.den_nz;omega)
 obtain⟨h1,h2⟩:=kJ (Sz.add (hq.1.mul hr.2) (hr.1.mul hq.2) (m:=k+l) aa aa) (hq.2.mul hr.2) hd
 exact⟨h1,h2.mono aa⟩
theorem bK.mul {q r:Rat} {k l:Nat} (hq:bK q k) (hr:bK r l):bK (q*r) (k+l):=by
 rw[EL]
 have hd:(q.den:Int)*r.den≠0:=Int.mul_ne_zero (by have:=q.den_nz;omega) (by have:=r.den_nz;omega)
 exact kJ (hq.1.mul hr.1) (hq.2.mul hr.2) hd
theorem bK.neg {q:Rat} {k:Nat} (hq:bK q k):bK (-q) k:=⟨by rw[Rat.neg_num];exact hq.1.neg,by rw[Rat.neg_den];exact hq.2⟩
theorem bK.sub {q r:Rat} {k l:Nat} (hq:bK q k) (hr:bK r l):bK (q-r) (k+l+1):=by rw[Rat.sub_eq_add_neg];exact hq.add hr.neg
def jw (q r:Rat):Int:=if q<r then-1 else if q=r then 0 else 1
theorem AW (q r:Rat):(q.num*r.den-r.num*q.den).sign=jw q r:=by
 unfold jw
 by_cases h1:q<r
 ·rw[if_pos h1];exact sign_neg (by have:=(Rat.lt_iff q r).1 h1;omega)
 ·rw[if_neg h1]
  by_cases h2:q=r
  ·subst h2;rw[if_pos rfl,Int.sub_self];rfl
  ·rw[if_neg h2]
   refine dp ?_
   have a:=mt (Rat.lt_iff q r).2 h1
   have b:=mt Rat.eq_iff_mul_eq_mul.2 h2
   omega
theorem Gu (q:Rat):q.num.sign=jw q 0:=by
 have:=AW q 0
 simpa using this
def mW (Y:Int):Int:=if Y=0 then 20 else 0
theorem Dj (v u:Value) (X Y:Int) (j k:Nat) (w:World) (hv:bq w v X j) (hu:bq w u Y k) (hj:j<=268435456) (hk:k<=268435456):
  Calls Tryz.prog 174 #[v,u] w λe w'=>∃ r,e=.returned (.tuple #[r,.int .i64 (mW Y)])/\aI w' w.heap.size r (Rat.divInt X Y)/\aw w w':=by
 obtain⟨s,p,n,c,rfl⟩:=hv.form
 obtain⟨t,r,m,d,rfl⟩:=hu.form
 refine ae (C:=aX Tryz.prog w _) (args:=[_,_]) Tryz.func174 rfl Tryz.ntmps174 (bG rfl) ?_
 refine ab ?_
 refine VO.call rfl rfl (fk Tryz.func112) (λaO bE ba=>(iR _ Y k aO (hu.bt ba)).mono ?_)
 rintro e w1 ⟨rfl,aD⟩
 by_cases hY:Y=0
 ·rw[show Y.sign=0 by rw[hY];rfl]
  refine aH aD ?_
  intro cj _ bb1
  refine VO.cI rfl rfl (fk Tryz.func41) (λbk bX bF=>lM bk) (λbk bX bF w2 s2 p2 n2 c2 h2 aP da _ bb2=>wV rfl ?_)
  refine ab ?_
  refine az ?_;intro wz kz bz
  refine⟨_,by rw[mW,if_pos hY];rfl,?_,bz⟩
  rw[hY,Rat.divInt_zero]
  exact aI.zero ((h2.kp kz).mono bF.size)
 ·have hs:(Y.sign == 0)=false:=by
   rw[beq_eq_false_iff_ne]
   exact λe=>hY (Int.sign_eq_zero_iff_zero.1 e)
  rcases Int.lt_or_lt_of_ne hY with q|q
  all_goals
   first|rw[sign_neg q]|rw[dp q]
   refine aH aD ?_
   intro cj _ bb1
   refine VO.cR rfl rfl (fk Tryz.func94) (λbk bX bF=>jM _ _ X Y j k bk (hv.bt bF) (hu.bt bF) hj hk hY) (λbk bX bF w2 s2 p2 n2 c2 t2 r2 m2 d2 h2 aP da _ bb2=>wV rfl ?_)
   refine ab ?_
   refine az ?_;intro wz kz bz
   exact⟨_,by rw[mW,if_neg hY];rfl,(h2.kp kz).mono bF.size,bz⟩
theorem Gv (n d:Int) (w:World) (h0: -9223372036854775808<=n) (h1:n<=9223372036854775807) (g0: -9223372036854775808<=d) (g1:d<=9223372036854775807):
  Calls Tryz.prog 143 #[.int .i64 n,.int .i64 d] w λe w'=>∃ r,e=.returned (.tuple #[r,.int .i64 (mW d)])/\aI w' w.heap.size r (Rat.divInt n d)/\aw w w':=by
 refine ae (C:=aX Tryz.prog w _) (args:=[_,_]) Tryz.func143 rfl Tryz.ntmps143 (bG rfl) ?_
 refine ab ?_
 refine VO.cI rfl rfl (fk Tryz.func40) (λaO bE ba=>lI n aO h0 h1) (λaO bE ba w1 s1 p1 n1 c1 q1 aD cj _ bb1=>wV rfl ?_)
 refine ab ?_
 refine VO.cI rfl rfl (fk Tryz.func40) (λbk bX bF=>lI d bk g0 g1) (λbk bX bF w2 s2 p2 n2 c2 q2 aP da _ bb2=>wV rfl ?_)
 refine ab ?_
 refine VO.call rfl rfl (fk Tryz.func174) (λcX dh dS=>(Dj _ _ n d 2 2 cX ((q1.kp (da.ax dh)).in (Sz.of_lt aa)) ((q2.kp dh).in (Sz.of_lt aa)) aa aa).mono ?_)
 rintro e w3 ⟨r3,rfl,q3,cw⟩
 obtain⟨s3,p3,n3,c3,t3,x3,m3,d3,rfl⟩:=q3.form
 refine aH cw ?_
 intro fi _ bb3
 refine az ?_;intro wz kz bz
 exact⟨_,rfl,(q3.kp kz).mono dS.size,bz⟩
theorem bO (n:Int) (w:World) (h0: -9223372036854775808<=n) (h1:n<=9223372036854775807):
  Calls Tryz.prog 11 #[.int .i64 n] w λe w'=>∃ r,e=.returned r/\aI w' w.heap.size r (n:Rat)/\aw w w':=by
 refine ae (C:=aX Tryz.prog w _) (args:=[_]) Tryz.func11 rfl Tryz.ntmps11 (bG rfl) ?_
 refine ab ?_
 refine VO.cI rfl rfl (fk Tryz.func40) (λaO bE ba=>lI n aO h0 h1) (λaO bE ba w1 s1 p1 n1 c1 q1 aD cj _ bb1=>wV rfl ?_)
 refine ab ?_
 refine VO.cI rfl rfl (fk Tryz.func41) (λbk bX bF=>lM bk) (λbk bX bF w2 s2 p2 n2 c2 q2 aP da _ bb2=>wV rfl ?_)
 refine ab ?_
 refine az ?_;intro wz kz bz
 exact⟨_,rfl,⟨_,_,_,_,_,_,_,_,rfl,(q1.kp (da.ax kz)).mono ba.size,(q2.kp kz).mono bF.size⟩,bz⟩
theorem kK (v u:Value) (q r:Rat) (k l:Nat) (w:World) (hv:aQ w v q) (hu:aQ w u r) (hq:bK q k) (hr:bK r l) (hk:k<=67108864) (hl:l<=67108864):
  Calls Tryz.prog 44 #[v,u] w λe w'=>∃ x,e=.returned x/\aI w' w.heap.size x (q+r)/\aw w w':=by
 obtain⟨s,p,n,c,t,y,m,d,rfl⟩:=hv.form
 obtain⟨s',p',n',c',t',y',m',d',rfl⟩:=hu.form
 obtain⟨v1,v2⟩:=hv.parts
 obtain⟨u1,u2⟩:=hu.parts
 have dq:(q.den:Int)≠0:=by have:=q.den_nz;omega
 have dr:(r.den:Int)≠0:=by have:=r.den_nz;omega
 refine ae (C:=aX Tryz.prog w _) (args:=[_,_]) Tryz.func44 rfl Tryz.ntmps44 (bG rfl) ?_
 refine ab ?_
 refine VO.call rfl rfl (fk Tryz.func51) (λaO bE ba=>(kH _ _ (q.den:Int) r.den k l aO ((v2.bt ba).to hq.2) ((u2.bt ba).to hr.2) aa aa).mono ?_)
 rintro e w1 ⟨rfl,aD⟩
 by_cases hd:(q.den:Int)=r.den
 ·rw[show ((q.den:Int)-r.den).sign=0 by rw[hd,Int.sub_self];rfl]
  refine aH aD ?_
  intro cj _ bb1
  refine VO.cI rfl rfl (fk Tryz.func95) (λbk bX bF=>uA _ _ q.num r.num k l bk ((v1.bt bF).to hq.1) ((u1.bt bF).to hr.1) aa aa) (λbk bX bF w2 s2 p2 n2 c2 q2 aP da _ bb2=>wV rfl ?_)
  refine ab ?_
  refine VO.cR rfl rfl (fk Tryz.func94) (λcX dh dS=>jM _ _ (q.num+r.num) q.den (k+l+1) k cX ((q2.kp dh).in (Sz.add hq.1 hr.1 aa aa)) ((v2.bt dS).to hq.2) aa aa dq) (λcX dh dS w3 s3 p3 n3 c3 t3 y3 m3 d3 q3 cw fi _ bb3=>wV rfl ?_)
  refine ab ?_
  refine az ?_;intro wz kz bz
  exact⟨_,rfl,aI.cast ((q3.kp kz).mono dS.size) (add_same hd).symm,bz⟩
 ·have hs:((((q.den:Int)-r.den).sign == 0))=false:=by
   rw[beq_eq_false_iff_ne]
   intro e
   have:=Int.sign_eq_zero_iff_zero.1 e
   omega
  rcases Int.lt_or_lt_of_ne (show (q.den:Int)-r.den≠0 by omega) with e|e
  all_goals
   first|rw[sign_neg e]|rw[dp e]
   refine aH aD ?_
   intro cj _ bb1
   refine VO.cI rfl rfl (fk Tryz.func96) (λbk bX bF=>jk _ _ q.num r.den k l bk ((v1.bt bF).to hq.1) ((u2.bt bF).to hr.2) aa aa) (λbk bX bF w2 s2 p2 n2 c2 q2 aP da _ bb2=>wV rfl ?_)
   refine ab ?_
   refine VO.cI rfl rfl (fk Tryz.func96) (λcX dh dS=>jk _ _ r.num q.den l k cX ((u1.bt dS).to hr.1) ((v2.bt dS).to hq.2) aa aa) (λcX dh dS w3 s3 p3 n3 c3 q3 cw fi _ bb3=>wV rfl ?_)
   refine ab ?_
   refine VO.cI rfl rfl (fk Tryz.func95) (λfN ig iV=>uA _ _ (q.num*r.den) (r.num*q.den) (k+l) (l+k) fN ((q2.kp (fi.ax ig)).in (hq.1.mul hr.2)) ((q3.kp ig).in (hr.1.mul hq.2)) aa aa) (λfN ig iV w4 s4 p4 n4 c4 q4 gi lW _ uI=>wV rfl ?_)
   refine ab ?_
   refine VO.cI rfl rfl (fk Tryz.func96) (λim jl jm=>jk _ _ q.den r.den k l im ((v2.bt jm).to hq.2) ((u2.bt jm).to hr.2) aa aa) (λim jl jm w5 s5 p5 n5 c5 q5 ja nZ _ yc=>wV rfl ?_)
   refine ab ?_
   refine VO.cR rfl rfl (fk Tryz.func94) (λoN ql tn=>jM _ _ (q.num*r.den+r.num*q.den) ((q.den:Int)*r.den) (k+l+1) (k+l) oN ((q4.kp (nZ.ax ql)).in (Sz.add (hq.1.mul hr.2) (hr.1.mul hq.2) aa aa)) ((q5.kp ql).in (hq.2.mul hr.2)) aa aa (Int.mul_ne_zero dq dr)) (λoN ql tn w6 s6 p6 n6 c6 t6 y6 m6 d6 q6 td vx _ Gq=>wV rfl ?_)
   refine ab ?_
   refine az ?_;intro wz kz bz
   exact⟨_,rfl,aI.cast ((q6.kp kz).mono tn.size) (yi q r).symm,bz⟩
end
section
open Go.RowKit
attribute [local irreducible] ak VS
def bV (k:Nat):Nat:=max k 1
theorem aC.rk {w:World} {v:Value} {q:Rat} {k:Nat} (h:aC w v q k):bK q (bV k):=by
 obtain⟨s,xs,t,ys,h1,h2,h3,h4⟩:=h
 exact aC.sz (k:=bV k) ⟨s,xs,t,ys,h1,h2,by unfold bV;omega,by unfold bV;omega⟩ (by unfold bV;omega)
theorem dw (v u:Value) (q r:Rat) (k l:Nat) (w:World) (hv:aC w v q k) (hu:aC w u r l) (hk:k<=67108864) (hl:l<=67108864):
  Calls Tryz.prog 13 #[v,u] w λe w'=>∃ x,e=.returned x/\aI w' w.heap.size x (q+r)/\aw w w':=by
 obtain⟨s,p,n,c,t,y,m,d,rfl⟩:=hv.form
 obtain⟨s',p',n',c',t',y',m',d',rfl⟩:=hu.form
 refine ae (C:=aX Tryz.prog w _) (args:=[_,_]) Tryz.func13 rfl Tryz.ntmps13 (bG rfl) ?_
 refine ab ?_
 refine VO.cR rfl rfl (fk Tryz.func45) (λaO bE ba=>bI _ q k aO (hv.kp bE) aa) (λaO bE ba w1 s1 p1 n1 c1 t1 y1 m1 d1 q1 aD cj _ bb1=>wV rfl ?_)
 refine ab ?_
 refine VO.cR rfl rfl (fk Tryz.func45) (λbk bX bF=>bI _ r l bk (hu.kp (cj.ax bX)) aa) (λbk bX bF w2 s2 p2 n2 c2 t2 y2 m2 d2 q2 aP da _ bb2=>wV rfl ?_)
 refine ab ?_
 refine VO.cR rfl rfl (fk Tryz.func44) (λcX dh dS=>kK _ _ q r _ _ cX (q1.kp (da.ax dh)) (q2.kp dh) hv.rk hu.rk (by unfold bV;omega) (by unfold bV;omega)) (λcX dh dS w3 s3 p3 n3 c3 t3 y3 m3 d3 q3 cw fi _ bb3=>wV rfl ?_)
 refine ab ?_
 refine az ?_;intro wz kz bz
 exact⟨_,rfl,(q3.kp kz).mono dS.size,bz⟩
theorem eu (v:Value) (q:Rat) (k:Nat) (w:World) (hv:aC w v q k) (hk:k<=536870912):
  Calls Tryz.prog 46 #[v] w λe w'=>∃ x,e=.returned x/\aI w' w.heap.size x (-q)/\aw w w':=by
 obtain⟨s,p,n,c,t,y,m,d,rfl⟩:=hv.form
 refine ae (C:=aX Tryz.prog w _) (args:=[_]) Tryz.func46 rfl Tryz.ntmps46 (bG rfl) ?_
 refine ab ?_
 refine VO.cR rfl rfl (fk Tryz.func45) (λaO bE ba=>bI _ q k aO (hv.kp bE) hk) (λaO bE ba w1 s1 p1 n1 c1 t1 y1 m1 d1 q1 aD cj _ bb1=>wV rfl ?_)
 refine ab ?_
 obtain⟨a1,a2⟩:=q1.parts
 refine VO.cI rfl rfl (fk Tryz.func98) (λbk bX bF=>Ar _ q.num _ bk ((a1.kp bX).to hv.rk.1) (by unfold bV;omega)) (λbk bX bF w2 s2 p2 n2 c2 q2 aP da _ bb2=>wV rfl ?_)
 refine ab ?_
 refine VO.cI rfl rfl (fk Tryz.func99) (λcX dh dS=>Jl _ q.den _ cX ((a2.kp (da.ax dh)).to hv.rk.2) (by unfold bV;omega)) (λcX dh dS w3 s3 p3 n3 c3 q3 cw fi _ bb3=>wV rfl ?_)
 refine ab ?_
 refine az ?_;intro wz kz bz
 exact⟨_,rfl,⟨_,_,_,_,_,_,_,_,rfl,aj.cast ((q2.kp (fi.ax kz)).mono bF.size) (Rat.neg_num q).symm,aj.cast ((q3.kp kz).mono dS.size) (by rw[Rat.neg_den,Int.natAbs_natCast])⟩,bz⟩
theorem jn (v u:Value) (q r:Rat) (k l:Nat) (w:World) (hv:aC w v q k) (hu:aC w u r l) (hk:k<=67108864) (hl:l<=67108864):
  Calls Tryz.prog 14 #[v,u] w λe w'=>∃ x,e=.returned x/\aI w' w.heap.size x (q-r)/\aw w w':=by
 obtain⟨s,p,n,c,t,y,m,d,rfl⟩:=hv.form
 obtain⟨s',p',n',c',t',y',m',d',rfl⟩:=hu.form
 refine ae (C:=aX Tryz.prog w _) (args:=[_,_]) Tryz.func14 rfl Tryz.ntmps14 (bG rfl) ?_
 refine ab ?_
 refine VO.cR rfl rfl (fk Tryz.func45) (λaO bE ba=>bI _ q k aO (hv.kp bE) aa) (λaO bE ba w1 s1 p1 n1 c1 t1 y1 m1 d1 q1 aD cj _ bb1=>wV rfl ?_)
 refine ab ?_
 refine VO.cR rfl rfl (fk Tryz.func46) (λbk bX bF=>eu _ r l bk (hu.kp (cj.ax bX)) aa) (λbk bX bF w2 s2 p2 n2 c2 t2 y2 m2 d2 q2 aP da _ bb2=>wV rfl ?_)
 refine ab ?_
 refine VO.cR rfl rfl (fk Tryz.func44) (λcX dh dS=>kK _ _ q (-r) _ _ cX (q1.kp (da.ax dh)) (q2.kp dh).rd hv.rk hu.rk.neg (by unfold bV;omega) (by unfold bV;omega)) (λcX dh dS w3 s3 p3 n3 c3 t3 y3 m3 d3 q3 cw fi _ bb3=>wV rfl ?_)
 refine ab ?_
 refine az ?_;intro wz kz bz
 exact⟨_,rfl,aI.cast ((q3.kp kz).mono dS.size) (Rat.sub_eq_add_neg q r).symm,bz⟩
theorem uR (v u:Value) (q r:Rat) (k l:Nat) (w:World) (hv:aC w v q k) (hu:aC w u r l) (hk:k<=67108864) (hl:l<=67108864):
  Calls Tryz.prog 106 #[v,u] w λe w'=>∃ x,e=.returned x/\aI w' w.heap.size x (q*r)/\aw w w':=by
 obtain⟨s,p,n,c,t,y,m,d,rfl⟩:=hv.form
 obtain⟨s',p',n',c',t',y',m',d',rfl⟩:=hu.form
 have dq:(q.den:Int)*r.den≠0:=Int.mul_ne_zero (by have:=q.den_nz;omega) (by have:=r.den_nz;omega)
 have zq:=hv.rk
 have zr:=hu.rk
 have uk:bV k<=67108864:=by unfold bV;omega
 have ul:bV l<=67108864:=by unfold bV;omega
 refine ae (C:=aX Tryz.prog w _) (args:=[_,_]) Tryz.func106 rfl Tryz.ntmps106 (bG rfl) ?_
 refine ab ?_
 refine VO.cR rfl rfl (fk Tryz.func45) (λaO bE ba=>bI _ q k aO (hv.kp bE) aa) (λaO bE ba w1 s1 p1 n1 c1 t1 y1 m1 d1 q1 aD cj _ bb1=>wV rfl ?_)
 refine ab ?_
 refine VO.cR rfl rfl (fk Tryz.func45) (λbk bX bF=>bI _ r l bk (hu.kp (cj.ax bX)) aa) (λbk bX bF w2 s2 p2 n2 c2 t2 y2 m2 d2 q2 aP da _ bb2=>wV rfl ?_)
 refine ab ?_
 obtain⟨a1,a2⟩:=q1.parts
 obtain⟨b1,b2⟩:=q2.parts
 refine VO.cI rfl rfl (fk Tryz.func96) (λcX dh dS=>jk _ _ q.num r.num _ _ cX ((a1.kp (da.ax dh)).to zq.1) ((b1.kp dh).to zr.1) aa aa) (λcX dh dS w3 s3 p3 n3 c3 q3 cw fi _ bb3=>wV rfl ?_)
 refine ab ?_
 refine VO.cI rfl rfl (fk Tryz.func96) (λfN ig iV=>jk _ _ q.den r.den _ _ fN ((a2.kp (da.ax (fi.ax ig))).to zq.2) ((b2.kp (fi.ax ig)).to zr.2) aa aa) (λfN ig iV w4 s4 p4 n4 c4 q4 gi lW _ uI=>wV rfl ?_)
 refine ab ?_
 refine VO.cR rfl rfl (fk Tryz.func94) (λim jl jm=>jM _ _ (q.num*r.num) ((q.den:Int)*r.den) _ _ im ((q3.kp (lW.ax jl)).in (zq.1.mul zr.1)) ((q4.kp jl).in (zq.2.mul zr.2)) aa aa dq) (λim jl jm w5 s5 p5 n5 c5 t5 y5 m5 d5 q5 ja nZ _ yc=>wV rfl ?_)
 refine ab ?_
 refine az ?_;intro wz kz bz
 exact⟨_,rfl,aI.cast ((q5.kp kz).mono jm.size) (EL q r).symm,bz⟩
theorem AX (v:Value) (q:Rat) (k:Nat) (w:World) (hv:aC w v q k) (hk:k<=536870912):
  Calls Tryz.prog 82 #[v] w λe w'=>e=.returned (.int .i64 (jw q 0))/\aw w w':=by
 obtain⟨s,p,n,c,t,y,m,d,rfl⟩:=hv.form
 refine ae (C:=aX Tryz.prog w _) (args:=[_]) Tryz.func82 rfl Tryz.ntmps82 (bG rfl) ?_
 refine ab ?_
 refine VO.cR rfl rfl (fk Tryz.func45) (λaO bE ba=>bI _ q k aO (hv.kp bE) hk) (λaO bE ba w1 s1 p1 n1 c1 t1 y1 m1 d1 q1 aD cj _ bb1=>wV rfl ?_)
 refine ab ?_
 refine VO.call rfl rfl (fk Tryz.func112) (λbk bX bF=>(iR _ q.num _ bk ((q1.parts.1.kp bX).to hv.rk.1)).mono ?_)
 rintro e w2 ⟨rfl,aP⟩
 rw[Gu]
 refine aH aP ?_
 intro da _ bb2
 refine az ?_;intro wz kz bz
 exact⟨rfl,bz⟩
theorem Dk (v u:Value) (q r:Rat) (k l:Nat) (w:World) (hv:aC w v q k) (hu:aC w u r l) (hk:k<=67108864) (hl:l<=67108864):
  Calls Tryz.prog 180 #[v,u] w λe w'=>e=.returned (.int .i64 (jw q r))/\aw w w':=by
 obtain⟨s,p,n,c,t,y,m,d,rfl⟩:=hv.form
 obtain⟨s',p',n',c',t',y',m',d',rfl⟩:=hu.form
 have zq:=hv.rk
 have zr:=hu.rk
 have uk:bV k<=67108864:=by unfold bV;omega
 have ul:bV l<=67108864:=by unfold bV;omega
 refine ae (C:=aX Tryz.prog w _) (args:=[_,_]) Tryz.func180 rfl Tryz.ntmps180 (bG rfl) ?_
 refine ab ?_
 refine VO.cR rfl rfl (fk Tryz.func45) (λaO bE ba=>bI _ q k aO (hv.kp bE) aa) (λaO bE ba w1 s1 p1 n1 c1 t1 y1 m1 d1 q1 aD cj _ bb1=>wV rfl ?_)
 refine ab ?_
 refine VO.cR rfl rfl (fk Tryz.func45) (λbk bX bF=>bI _ r l bk (hu.kp (cj.ax bX)) aa) (λbk bX bF w2 s2 p2 n2 c2 t2 y2 m2 d2 q2 aP da _ bb2=>wV rfl ?_)
 refine ab ?_
 obtain⟨a1,a2⟩:=q1.parts
 obtain⟨b1,b2⟩:=q2.parts
 refine VO.cI rfl rfl (fk Tryz.func96) (λcX dh dS=>jk _ _ q.num r.den _ _ cX ((a1.kp (da.ax dh)).to zq.1) ((b2.kp dh).to zr.2) aa aa) (λcX dh dS w3 s3 p3 n3 c3 q3 cw fi _ bb3=>wV rfl ?_)
 refine ab ?_
 refine VO.cI rfl rfl (fk Tryz.func96) (λfN ig iV=>jk _ _ r.num q.den _ _ fN ((b1.kp (fi.ax ig)).to zr.1) ((a2.kp (da.ax (fi.ax ig))).to zq.2) aa aa) (λfN ig iV w4 s4 p4 n4 c4 q4 gi lW _ uI=>wV rfl ?_)
 refine ab ?_
 refine VO.call rfl rfl (fk Tryz.func51) (λim jl jm=>(kH _ _ (q.num*r.den) (r.num*q.den) _ _ im ((q3.kp (lW.ax jl)).in (zq.1.mul zr.2)) ((q4.kp jl).in (zr.1.mul zq.2)) aa aa).mono ?_)
 rintro e w5 ⟨rfl,ja⟩
 rw[AW]
 refine aH ja ?_
 intro nZ _ yc
 refine az ?_;intro wz kz bz
 exact⟨rfl,bz⟩
theorem mX (a b:Int):(a=b/\(a-b).sign=0)\/(a≠b/\((a-b).sign=1\/(a-b).sign= -1)):=by
 rcases Int.lt_trichotomy a b with e|e|e
 ·exact .inr ⟨by omega,.inr (sign_neg aa)⟩
 ·exact .inl ⟨e,by rw[e,Int.sub_self];rfl⟩
 ·exact .inr ⟨by omega,.inl (dp aa)⟩
theorem AY (v u:Value) (q r:Rat) (k l:Nat) (w:World) (hv:aC w v q k) (hu:aC w u r l) (hk:k<=67108864) (hl:l<=67108864):
  Calls Tryz.prog 16 #[v,u] w λe w'=>e=.returned (.bool (decide (q=r)))/\aw w w':=by
 obtain⟨s,p,n,c,t,y,m,d,rfl⟩:=hv.form
 obtain⟨s',p',n',c',t',y',m',d',rfl⟩:=hu.form
 have zq:=hv.rk
 have zr:=hu.rk
 have uk:bV k<=67108864:=by unfold bV;omega
 have ul:bV l<=67108864:=by unfold bV;omega
 refine ae (C:=aX Tryz.prog w _) (args:=[_,_]) Tryz.func16 rfl Tryz.ntmps16 (bG rfl) ?_
 refine ab ?_
 refine VO.cR rfl rfl (fk Tryz.func45) (λaO bE ba=>bI _ q k aO (hv.kp bE) aa) (λaO bE ba w1 s1 p1 n1 c1 t1 y1 m1 d1 q1 aD cj _ bb1=>wV rfl ?_)
 refine ab ?_
 refine VO.cR rfl rfl (fk Tryz.func45) (λbk bX bF=>bI _ r l bk (hu.kp (cj.ax bX)) aa) (λbk bX bF w2 s2 p2 n2 c2 t2 y2 m2 d2 q2 aP da _ bb2=>wV rfl ?_)
 refine ab ?_
 obtain⟨a1,a2⟩:=q1.parts
 obtain⟨b1,b2⟩:=q2.parts
 refine VO.call rfl rfl (fk Tryz.func51) (λcX dh dS=>(kH _ _ q.num r.num _ _ cX ((a1.kp (da.ax dh)).to zq.1) ((b1.kp dh).to zr.1) aa aa).mono ?_)
 rintro e w3 ⟨rfl,cw⟩
 rcases mX q.num r.num with ⟨hn,e⟩|⟨hn,e|e⟩
 ·rw[e]
  refine aH cw ?_
  intro fi _ bb3
  refine VO.call rfl rfl (fk Tryz.func51) (λfN ig iV=>(kH _ _ (q.den:Int) r.den _ _ fN ((a2.kp (da.ax (fi.ax ig))).to zq.2) ((b2.kp (fi.ax ig)).to zr.2) aa aa).mono ?_)
  rintro e w4 ⟨rfl,gi⟩
  rcases mX (q.den:Int) r.den with ⟨hd,e⟩|⟨hd,e|e⟩
  all_goals
   rw[e]
   refine aH gi ?_
   intro lW _ uI
   refine az ?_;intro wz kz bz
  ·exact⟨by rw[decide_eq_true (Rat.ext hn aa)];rfl,bz⟩
  ·exact⟨by rw[decide_eq_false (λe=>hd (by rw[e]))];rfl,bz⟩
  ·exact⟨by rw[decide_eq_false (λe=>hd (by rw[e]))];rfl,bz⟩
 ·rw[e]
  refine aH cw ?_
  intro fi _ bb3
  refine az ?_;intro wz kz bz
  exact⟨by rw[decide_eq_false (λe=>hn (by rw[e]))];rfl,bz⟩
 ·rw[e]
  refine aH cw ?_
  intro fi _ bb3
  refine az ?_;intro wz kz bz
  exact⟨by rw[decide_eq_false (λe=>hn (by rw[e]))];rfl,bz⟩
end
section
open Go.RowKit
attribute [local irreducible] ak VS
def jo (w:World) (v:Value) (qs:List Rat) (k:Nat):Prop:=
 ∃ p c,v=.slice p qs.length c/\qs.length<=c/\c<=maxLen/\∀ i q,qs[i]? =some q->∃ b off s p' n c' t r m d,p=some ⟨b,off,none⟩/\
   (∀ j u,[Value.bool s,.slice p' n c',.bool t,.slice r m d][j]? =some u->w.cell? ⟨b,off+i*4+j,none⟩=some u)/\aC w (.agg #[.bool s,.slice p' n c',.bool t,.slice r m d]) q k
theorem jo.form {w:World} {v:Value} {qs:List Rat} {k:Nat} (h:jo w v qs k):∃ p c,v=.slice p qs.length c/\qs.length<=c/\c<=maxLen:=by
 obtain⟨p,c,hv,h1,h2,_⟩:=h
 exact⟨p,c,hv,h1,h2⟩
theorem jo.at {w:World} {p:Option Addr} {n c:Nat} {qs:List Rat} {k i:Nat} {q:Rat} (h:jo w (.slice p n c) qs k) (hq:qs[i]? =some q):∃ b off s p' n' c' t r m d,p=some ⟨b,off,none⟩/\
  (∀ j u,[Value.bool s,.slice p' n' c',.bool t,.slice r m d][j]? =some u->w.cell? ⟨b,off+i*4+j,none⟩=some u)/\aC w (.agg #[.bool s,.slice p' n' c',.bool t,.slice r m d]) q k:=by
 obtain⟨p',c',hv,h1,h2,h3⟩:=h
 cases hv
 exact h3 i q hq
theorem jo.bt {w w':World} {v:Value} {qs:List Rat} {k:Nat} (h:jo w v qs k) (hb:aw w w'):jo w' v qs k:=by
 obtain⟨p,c,hv,h1,h2,h3⟩:=h
 refine⟨p,c,hv,h1,h2,λi q hq=> ?_⟩
 obtain⟨b,off,s,p',n,c',t,r,m,d,hp,hc,hr⟩:=h3 i q hq
 exact⟨b,off,s,p',n,c',t,r,m,d,hp,λj u hj=>hb.cell (hc j u hj),hr.kp (Kp.of (U:=UU) hb)⟩
theorem bA {i:Nat} (h:i<9223372036854775807):IntKind.i64.wrap ((i:Int)+1)=((i+1:Nat):Int):=by
 rw[IntWalk.i64_in _ aa];omega
def dJ (qs:List Rat):Rat:=qs.foldl (·+ ·) 0
theorem bm {α:Type} {l:List α} {i:Nat} {x:α} (h:l[i]? =some x):l.take (i+1)=l.take i++[x]:=by
 obtain⟨hi,rfl⟩:=List.getElem?_eq_some_iff.1 h
 exact List.take_succ_eq_append_getElem hi
theorem nH {qs:List Rat} {i:Nat} {q:Rat} (h:qs[i]? =some q):dJ (qs.take (i+1))=dJ (qs.take i)+q:=by
 rw[bm h];simp[dJ,List.foldl_append]
def bJ (k i:Nat):Nat:=1+i*(bV k+1)
theorem rZ (k i:Nat):bJ k (i+1)=bJ k i+bV k+1:=by unfold bJ;rw[Nat.add_mul,Nat.one_mul];omega
theorem nI {k i n:Nat} (h:i<=n):bJ k i<=bJ k n:=by unfold bJ;have:=Nat.mul_le_mul_right (bV k+1) h;omega
theorem jq (v:Value) (qs:List Rat) (k:Nat) (w:World) (hv:jo w v qs k) (hk:bJ k qs.length<=67108864):
  Calls Tryz.prog 43 #[v] w λe w'=>∃ x,e=.returned x/\aI w' w.heap.size x (dJ qs)/\bK (dJ qs) (bJ k qs.length)/\aw w w':=by
 obtain⟨p,c,rfl,dW,eJ⟩:=hv.form
 obtain⟨N,hN⟩:∃ N,N=qs.length:=⟨_,rfl⟩
 rw[<-hN] at hv hk dW ⊢
 have hNm:N<9223372036854775807:=by unfold bJ at hk;have:=Nat.le_mul_of_pos_right N (show 0<bV k+1 by omega);omega
 have huk:bV k<=67108864\/N=0:=by
  rcases Nat.eq_zero_or_pos N with e|e
  ·exact .inr e
  ·left;unfold bJ at hk;have:=Nat.le_mul_of_pos_left (bV k+1) e;omega
 refine ae (C:=aX Tryz.prog w _) (args:=[_]) Tryz.func43 rfl Tryz.ntmps43 (bG rfl) ?_
 refine ab ?_
 refine VO.cR rfl rfl (fk Tryz.func11) (λaO bE ba=>bO 0 aO aa aa) (λaO bE ba w1 s1 p1 n1 c1 t1 y1 m1 d1 q1 aD cj _ bb1=>wV rfl ?_)
 refine ab ?_
 refine VS.loop (J:=λn L M w'=>∃ i s p' n' c' t r m d,i<=N/\n=N-i/\L=[(7,.val (.slice p N c)),(8,.val (.int .i64 (N:Int))),(9,.val (.int .i64 (i:Int))),(3,.box 3 0),(2,.box 2 0)]/\
  M=[(2,(34,([.bool false,.slice none 0 0,.bool false,.slice none 0 0]:List Value).map .val)),(3,(34,([.bool s,.slice p' n' c',.bool t,.slice r m d]:List Value).map .val))]/\aI w' w.heap.size (.agg #[.bool s,.slice p' n' c',.bool t,.slice r m d]) (dJ (qs.take i))/\bK (dJ (qs.take i)) (bJ k i)) N ⟨_,_,?_,?_,?_,?_,⟨0,s1,p1,n1,c1,t1,y1,m1,d1,by omega,by omega,rfl,rfl,(q1.mono ba.size).cast (by simp[dJ]),by simp only[List.take_zero,dJ,List.foldl_nil,bJ,Nat.zero_mul,Nat.add_zero];exact bK.zero⟩⟩ ?_
 ·exact dy
 ·exact dy
 ·rfl
 ·exact jv
 rintro n L M w' ⟨i,s,p',n',c',t,r,m,d,hi,rfl,rfl,rfl,ho,hz⟩
 refine ab ?_
 by_cases hlt:i<N
 ·obtain⟨q,hq⟩:∃ q,qs[i]? =some q:=⟨_,List.getElem?_eq_getElem aa⟩
  obtain⟨b,off,s2,p2,n2,c2,t2,r2,m2,d2,rfl,hc,kW⟩:=hv.at hq
  refine VS.bg rfl (decide_eq_true (Int.ofNat_lt.2 hlt)) ?_
  refine ab ?_
  refine VO.cond rfl ew (wV rfl ?_)
  refine VO.read rfl [.bool s2,.slice p2 n2 c2,.bool t2,.slice r2 m2 d2] rfl (λj u hj=>by rw[Addr.add_mid,Int.toNat_natCast];exact hc j u hj) (wV rfl ?_)
  refine ab ?_
  refine VO.call rfl rfl (fk Tryz.func45) (λbk bX bF=>(bI _ q k bk ((kW.kp (Kp.of (U:=UU) bF))) (by have:=hk;unfold bV at*;omega)).mono ?_)
  rintro e w2 ⟨r2',rfl,q2,aP⟩
  obtain⟨s3,p3,n3,c3,t3,y3,m3,d3,rfl⟩:=q2.form
  refine aH aP ?_
  intro da _ bb2
  refine VO.call rfl rfl (fk Tryz.func44) (λcX dh dS=>(kK _ _ (dJ (qs.take i)) q (bJ k i) (bV k) cX ((ho.kp (da.ax dh)).rd) (q2.kp dh) hz kW.rk (by have:=nI (k:=k) hi;omega) aa).mono ?_)
  rintro e w3 ⟨r3',rfl,q3,cw⟩
  obtain⟨s4,p4,n4,c4,t4,y4,m4,d4,rfl⟩:=q3.form
  refine aH cw ?_
  intro fi _ bb3
  refine VS.back (N-(i+1)) aa ⟨_,_,?_,?_,?_,?_,⟨i+1,s4,p4,n4,c4,t4,y4,m4,d4,by omega,rfl,rfl,rfl,(q3.mono dS.size).cast (nH hq).symm,by rw[nH hq,rZ];exact hz.add kW.rk⟩⟩
  ·refine⟨rfl,rfl,?_,rfl,rfl,trivial⟩
   rw[<-bA aa];rfl
  ·exact dy
  ·rfl
  ·exact jv
 ·refine VS.bo rfl (decide_eq_false (λe=>hlt (Int.ofNat_lt.1 e))) ?_
  refine ab ?_
  refine az ?_;intro wz kz bz
  obtain rfl:i=N:=by omega
  rw[List.take_of_length_le aa] at ho hz
  exact⟨_,rfl,ho.kp kz,hz,bz⟩
def jN (y x:Rat):Bool:=decide (jw y x<0)
def JN (y x:Rat):Bool:=decide (jw y x>0)
theorem AZ (v u:Value) (x y:Rat) (k l:Nat) (w:World) (hv:aC w v x k) (hu:aC w u y l) (hk:k<=67108864) (hl:l<=67108864):
  Calls Tryz.prog 154 #[v,u] w λe w'=>e=.returned (.bool (jN y x))/\aw w w':=by
 obtain⟨s,p,n,c,t,z,m,d,rfl⟩:=hv.form
 obtain⟨s',p',n',c',t',z',m',d',rfl⟩:=hu.form
 refine ae (C:=aX Tryz.prog w _) (args:=[_,_]) Tryz.func154 rfl Tryz.ntmps154 (bG rfl) ?_
 refine ab ?_
 refine VO.cB rfl rfl (fk Tryz.func180) (λaO bE ba=>Dk _ _ y x l k aO (hu.kp bE) (hv.kp bE) hl hk) (λaO bE ba w1 aD cj _ bb1=>wV rfl ?_)
 refine ab ?_
 refine az ?_;intro wz kz bz
 exact⟨rfl,bz⟩
theorem Ba (s:Bool) (p:Option Addr) (n c:Nat) (t:Bool) (r:Option Addr) (m d:Nat) (w:World):
  Calls Tryz.prog 153 #[.agg #[.bool s,.slice p n c,.bool t,.slice r m d]] w λe w'=>e=.returned (.func (.func 154) #[.agg #[.bool s,.slice p n c,.bool t,.slice r m d]] #[])/\aw w w':=by
 refine ae (C:=aX Tryz.prog w _) (args:=[_]) Tryz.func153 rfl Tryz.ntmps153 (bG rfl) ?_
 refine ab ?_
 refine az ?_;intro wz kz bz
 exact⟨rfl,bz⟩
def gm (better:Rat->Rat->Bool) (q:Rat) (qs:List Rat):Rat:=qs.foldl (λo y=>if better y o=true then y else o) q
theorem Dl {better:Rat->Rat->Bool} {x:Rat} {qs:List Rat} {i:Nat} {q:Rat} (h:qs[i]? =some q):gm better x (qs.take (i+1))=if better q (gm better x (qs.take i))=true then q else gm better x (qs.take i):=by
 rw[bm h];unfold gm;rw[List.foldl_append];rfl
theorem Bb (fB fL:FuncId) (better:Rat->Rat->Bool) (kB:jc Tryz.prog fB) (kL:jc Tryz.prog fL)
  (hB:∀ (s:Bool) (p:Option Addr) (n c:Nat) (t:Bool) (r:Option Addr) (m d:Nat) (w:World),Calls Tryz.prog fB #[.agg #[.bool s,.slice p n c,.bool t,.slice r m d]] w λe w'=>e=.returned (.func (.func fL) #[.agg #[.bool s,.slice p n c,.bool t,.slice r m d]] #[])/\aw w w')
  (hL:∀ (v u:Value) (x y:Rat) (k l:Nat) (w:World),aC w v x k->aC w u y l->k<=67108864->l<=67108864->Calls Tryz.prog fL #[v,u] w λe w'=>e=.returned (.bool (better y x))/\aw w w')
  (u v:Value) (q0:Rat) (qs:List Rat) (k:Nat) (w:World) (hu:aC w u q0 k) (hv:jo w v qs k) (hk:k<=67108863) (hlen:qs.length<9223372036854775807):
  Calls Tryz.prog 152 #[u,v,.func (.func fB) #[] #[]] w λe w'=>∃ x,e=.returned x/\aI w' w.heap.size x (gm better q0 qs)/\bK (gm better q0 qs) (bV k)/\aw w w':=by
 obtain⟨s,p,n,c,t,y,m,d,rfl⟩:=hu.form
 obtain⟨P,cc,rfl,dW,eJ⟩:=hv.form
 obtain⟨N,hN⟩:∃ N,N=qs.length:=⟨_,rfl⟩
 rw[<-hN] at hv hlen dW ⊢
 have zk:bV k<=67108864:=by unfold bV;omega
 refine ae (C:=aX Tryz.prog w _) (args:=[_,_,_]) Tryz.func152 rfl Tryz.ntmps152 (bG rfl) ?_
 refine ab ?_
 refine VO.cR rfl rfl (fk Tryz.func45) (λaO bE ba=>bI _ q0 k aO (hu.kp bE) aa) (λaO bE ba w1 s1 p1 n1 c1 t1 y1 m1 d1 q1 aD cj _ bb1=>wV rfl ?_)
 refine ab ?_
 refine VO.cR rfl rfl (fk Tryz.func11) (λbk bX bF=>bO 0 bk aa aa) (λbk bX bF w2 s2 p2 n2 c2 t2 y2 m2 d2 q2 aP da _ bb2=>wV rfl ?_)
 refine ab ?_
 refine VO.cR rfl rfl (fk Tryz.func44) (λcX dh dS=>kK _ _ q0 ((0:Int):Rat) (bV k) 1 cX (q1.kp (da.ax dh)) (q2.kp dh).rd hu.rk bK.zero zk aa) (λcX dh dS w3 s3 p3 n3 c3 t3 y3 m3 d3 q3 cw fi _ bb3=>wV rfl ?_)
 refine ab ?_
 refine VS.loop (J:=λn' L M w'=>∃ i s p' n c' t r m d,i<=N/\n'=N-i/\L=[(14,.val (.slice P N cc)),(15,.val (.int .i64 (N:Int))),(16,.val (.int .i64 (i:Int))),(2,.val (.func (.func fB) #[] #[])),(7,.box 7 0),(6,.box 6 0)]/\
  M=[(6,(34,([.bool false,.slice none 0 0,.bool false,.slice none 0 0]:List Value).map .val)),(7,(34,([.bool s,.slice p' n c',.bool t,.slice r m d]:List Value).map .val))]/\aI w' w.heap.size (.agg #[.bool s,.slice p' n c',.bool t,.slice r m d]) (gm better q0 (qs.take i))/\bK (gm better q0 (qs.take i)) (bV k)) N ⟨_,_,?_,?_,?_,?_,⟨0,s3,p3,n3,c3,t3,y3,m3,d3,by omega,by omega,rfl,rfl,(q3.mono dS.size).cast (Rat.add_zero _),hu.rk⟩⟩ ?_
 ·exact dy
 ·exact dy
 ·rfl
 ·exact jv
 rintro n' L M w' ⟨i,s,p',n,c',t,r,m,d,hi,rfl,rfl,rfl,ho,hz⟩
 refine ab ?_
 by_cases hlt:i<N
 ·obtain⟨q,hq⟩:∃ q,qs[i]? =some q:=⟨_,List.getElem?_eq_getElem aa⟩
  obtain⟨b,off,s2,p2,n2,c2,t2,r2,m2,d2,rfl,hc,kW⟩:=hv.at hq
  refine VS.bg rfl (decide_eq_true (Int.ofNat_lt.2 hlt)) ?_
  refine ab ?_
  refine VO.cond rfl ew (wV rfl ?_)
  refine VO.read rfl [.bool s2,.slice p2 n2 c2,.bool t2,.slice r2 m2 d2] rfl (λj u hj=>by rw[Addr.add_mid,Int.toNat_natCast];exact hc j u hj) (wV rfl ?_)
  refine ab ?_
  refine VO.call rfl rfl kB (λfN ig iV=>(hB s p' n c' t r m d fN).mono ?_)
  rintro e w4 ⟨rfl,gi⟩
  refine aH gi ?_
  intro lW _ uI
  refine VO.call rfl rfl kL (λim jl jm=>(hL _ _ (gm better q0 (qs.take i)) q _ k im ((ho.kp (lW.ax jl)).in hz) (kW.kp (Kp.of (U:=UU) jm)) zk aa).mono ?_)
  rintro e w5 ⟨rfl,ja⟩
  refine aH ja ?_
  intro nZ _ yc
  have hsn:=Dl (better:=better) (x:=q0) hq
  cases hbt:better q (gm better q0 (qs.take i))
  ·rw[hbt] at hsn
   refine VS.bo rfl rfl ?_
   refine ab ?_
   refine VS.back (N-(i+1)) aa ⟨_,_,?_,?_,?_,?_,⟨i+1,s,p',n,c',t,r,m,d,by omega,rfl,rfl,rfl,(ho.kp (lW.ax nZ)).cast hsn.symm,by rw[hsn];exact hz⟩⟩
   ·refine⟨rfl,rfl,?_,rfl,rfl,rfl,trivial⟩
    rw[<-bA aa];rfl
   ·exact dy
   ·rfl
   ·exact jv
  ·rw[hbt] at hsn
   refine VS.bg rfl rfl ?_
   refine ab ?_
   refine VO.cR rfl rfl (fk Tryz.func45) (λoN ql tn=>bI _ q k oN (kW.kp (Kp.of (U:=UU) tn)) aa) (λoN ql tn w6 s6 p6 n6 c6 t6 y6 m6 d6 q6 td vx _ Gq=>wV rfl ?_)
   refine ab ?_
   refine VO.cR rfl rfl (fk Tryz.func11) (λyK AJ xd=>bO 0 yK aa aa) (λyK AJ xd w7 s7 p7 n7 c7 t7 y7 m7 d7 q7 Ho Dc _ bb7=>wV rfl ?_)
   refine ab ?_
   refine VO.cR rfl rfl (fk Tryz.func44) (λJH ka8 ba8=>kK _ _ q ((0:Int):Rat) (bV k) 1 JH (q6.kp (Dc.ax ka8)) (q7.kp ka8).rd kW.rk bK.zero zk aa) (λJH ka8 ba8 w8 s8 p8 n8 c8 t8 y8 m8 d8 q8 Hn Dd _ bb8=>wV rfl ?_)
   refine ab ?_
   refine VS.back (N-(i+1)) aa ⟨_,_,?_,?_,?_,?_,⟨i+1,s8,p8,n8,c8,t8,y8,m8,d8,by omega,rfl,rfl,rfl,(q8.mono ba8.size).cast ((Rat.add_zero _).trans hsn.symm),by rw[hsn];exact kW.rk⟩⟩
   ·refine⟨rfl,rfl,?_,rfl,rfl,rfl,trivial⟩
    rw[<-bA aa];rfl
   ·exact dy
   ·rfl
   ·exact jv
 ·refine VS.bo rfl (decide_eq_false (λe=>hlt (Int.ofNat_lt.1 e))) ?_
  refine ab ?_
  refine az ?_;intro wz kz bz
  obtain rfl:i=N:=by omega
  rw[List.take_of_length_le aa] at ho hz
  exact⟨_,rfl,ho.kp kz,hz,bz⟩
theorem Dm (u v:Value) (q0:Rat) (qs:List Rat) (k:Nat) (w:World) (hu:aC w u q0 k) (hv:jo w v qs k) (hk:k<=67108863) (hlen:qs.length<9223372036854775807):
  Calls Tryz.prog 108 #[u,v] w λe w'=>∃ x,e=.returned x/\aI w' w.heap.size x (gm jN q0 qs)/\bK (gm jN q0 qs) (bV k)/\aw w w':=by
 obtain⟨s,p,n,c,t,y,m,d,rfl⟩:=hu.form
 obtain⟨P,cc,rfl,dW,eJ⟩:=hv.form
 refine ae (C:=aX Tryz.prog w _) (args:=[_,_]) Tryz.func108 rfl Tryz.ntmps108 (bG rfl) ?_
 refine ab ?_
 refine VO.call rfl rfl (fk Tryz.func152) (λaO bE ba=>(Bb 153 154 jN (fk Tryz.func153) (fk Tryz.func154) Ba AZ _ _ q0 qs k aO (hu.kp bE) (hv.bt ba) hk hlen).mono ?_)
 rintro e w1 ⟨r1,rfl,q1,z1,aD⟩
 obtain⟨s1,p1,n1,c1,t1,y1,m1,d1,rfl⟩:=q1.form
 refine aH aD ?_
 intro cj _ bb1
 refine az ?_;intro wz kz bz
 exact⟨_,rfl,(q1.kp kz).mono ba.size,z1,bz⟩
end
set_option maxRecDepth 4000
section
open Go.RowKit
attribute [local irreducible] ak VS
theorem Bc (w:World):Calls Tryz.prog 119 #[] w λe w'=>∃ r,e=.returned r/\aI w' w.heap.size r 0/\aw w w':=by
 refine ae (C:=aX Tryz.prog w _) (args:=[]) Tryz.func119 rfl Tryz.ntmps119 (bG rfl) ?_
 refine ab ?_
 refine VO.cI rfl rfl (fk Tryz.func136) (λaO bE ba=>ny 0 aO aa aa) (λaO bE ba w1 s1 p1 n1 c1 q1 aD cj _ bb1=>wV rfl ?_)
 refine ab ?_
 refine VO.cI rfl rfl (fk Tryz.func136) (λbk bX bF=>ny 1 bk aa aa) (λbk bX bF w2 s2 p2 n2 c2 q2 aP da _ bb2=>wV rfl ?_)
 refine ab ?_
 refine az ?_;intro wz kz bz
 exact⟨_,rfl,⟨_,_,_,_,_,_,_,_,rfl,(q1.kp (da.ax kz)).mono ba.size,(q2.kp kz).mono bF.size⟩,bz⟩
theorem JO {X Y:Int}:Rat.divInt X Y=Rat.divInt (-X) (-Y):=(Rat.neg_divInt_neg X Y).symm
theorem Dn (v u:Value) (X Y:Int) (j k:Nat) (w:World) (hv:bq w v X j) (hu:bq w u Y k) (hj:j<=134217728) (hk:k<=134217728):
  Calls Tryz.prog 135 #[v,u] w λe w'=>∃ r,e=.returned (.tuple #[r,.int .i64 (mW Y)])/\aI w' w.heap.size r (Rat.divInt X Y)/\aw w w':=by
 obtain⟨s,p,n,c,rfl⟩:=hv.form
 obtain⟨t,r,m,d,rfl⟩:=hu.form
 refine ae (C:=aX Tryz.prog w _) (args:=[_,_]) Tryz.func135 rfl Tryz.ntmps135 (bG rfl) ?_
 refine ab ?_
 refine VO.call rfl rfl (fk Tryz.func168) (λaO bE ba=>(cK _ Y k aO (hu.bt ba) aa).mono ?_)
 rintro e w1 ⟨rfl,aD⟩
 by_cases hY:Y=0
 ·rw[show Y.sign=0 by rw[hY];rfl]
  refine aH aD ?_
  intro cj _ bb1
  refine VO.cR rfl rfl (fk Tryz.func119) (λbk bX bF=>Bc bk) (λbk bX bF w2 s2 p2 n2 c2 t2 y2 m2 d2 h2 aP da _ bb2=>wV rfl ?_)
  refine ab ?_
  refine az ?_;intro wz kz bz
  refine⟨_,by rw[mW,if_pos hY];rfl,?_,bz⟩
  rw[hY,Rat.divInt_zero]
  exact (h2.kp kz).mono bF.size
 ·rcases Int.lt_or_lt_of_ne hY with q|q
  ·rw[sign_neg q]
   refine aH aD ?_
   intro cj _ bb1
   refine VO.call rfl rfl (fk Tryz.func168) (λbk bX bF=>(cK _ Y k bk (hu.bt bF) aa).mono ?_)
   rintro e w2 ⟨rfl,aP⟩
   rw[sign_neg q]
   refine aH aP ?_
   intro da _ bb2
   refine VO.cI rfl rfl (fk Tryz.func165) (λcX dh dS=>uG _ X j cX (hv.bt dS) aa) (λcX dh dS w3 s3 p3 n3 c3 h3 cw fi _ bb3=>wV rfl ?_)
   refine ab ?_
   refine VO.cI rfl rfl (fk Tryz.func165) (λfN ig iV=>uG _ Y k fN (hu.bt iV) aa) (λfN ig iV w4 s4 p4 n4 c4 h4 gi lW _ uI=>wV rfl ?_)
   refine ab ?_
   have z3:Sz (-X) j:=Sz.neg hv.len
   have z4:Sz (-Y) k:=Sz.neg hu.len
   obtain⟨l1,l2⟩:=tg (X:= -X) (Y:= -Y) aa
   have JM:Sz (Int.gcd (-X) (-Y):Int) k:=Di z4 aa
   have Jo:(Int.gcd (-X) (-Y):Int)≠0:=by
    intro e
    have:=(Int.gcd_eq_zero_iff.1 (show Int.gcd (-X) (-Y)=0 by omega)).2
    omega
   refine VO.cI rfl rfl (fk Tryz.func169) (λim jl jm=>AR _ _ (-X) (-Y) j k im ((h3.kp (lW.ax jl)).in z3) ((h4.kp jl).in z4) aa aa) (λim jl jm w5 s5 p5 n5 c5 h5 ja nZ _ yc=>wV rfl ?_)
   refine ab ?_
   refine VO.call rfl rfl (fk Tryz.func170) (λoN ql tn=>(jL _ _ (-X) (Int.gcd (-X) (-Y):Int) j k oN ((h3.kp (lW.ax (nZ.ax ql))).in z3) ((h5.kp ql).in JM) aa aa).mono ?_)
   rintro e w6 ⟨hd6,td⟩
   obtain⟨v6,u6,rfl,h6,h6'⟩:=dI hd6 Jo
   obtain⟨s6,p6,n6,c6,rfl⟩:=h6.form
   obtain⟨t6,r6,m6,d6,rfl⟩:=h6'.form
   refine aH td ?_
   intro vx _ Gq
   refine VO.call rfl rfl (fk Tryz.func170) (λyK AJ xd=>(jL _ _ (-Y) (Int.gcd (-X) (-Y):Int) k k yK ((h4.kp (nZ.ax (vx.ax AJ))).in z4) ((h5.kp (vx.ax AJ)).in JM) aa aa).mono ?_)
   rintro e w7 ⟨hd7,Ho⟩
   obtain⟨v7,u7,rfl,h7,h7'⟩:=dI hd7 Jo
   obtain⟨s7,p7,n7,c7,rfl⟩:=h7.form
   obtain⟨t7,r7,m7,d7,rfl⟩:=h7'.form
   refine aH Ho ?_
   intro Dc _ bb7
   refine az ?_;intro wz kz bz
   rw[JO]
   exact⟨_,by rw[mW,if_neg hY];rfl,⟨_,_,_,_,_,_,_,_,rfl,aj.cast ((h6.kp (Dc.ax kz)).mono tn.size) l1,aj.cast ((h7.kp kz).mono xd.size) l2⟩,bz⟩
  ·rw[dp q]
   refine aH aD ?_
   intro cj _ bb1
   refine VO.call rfl rfl (fk Tryz.func168) (λbk bX bF=>(cK _ Y k bk (hu.bt bF) aa).mono ?_)
   rintro e w2 ⟨rfl,aP⟩
   rw[dp q]
   refine aH aP ?_
   intro da _ bb2
   obtain⟨l1,l2⟩:=tg (X:=X) (Y:=Y) q
   have JM:Sz (Int.gcd X Y:Int) k:=Di hu.len hY
   have Jo:(Int.gcd X Y:Int)≠0:=by
    intro e
    have:=(Int.gcd_eq_zero_iff.1 (show Int.gcd X Y=0 by omega)).2
    omega
   refine VO.cI rfl rfl (fk Tryz.func169) (λim jl jm=>AR _ _ X Y j k im (hv.bt jm) (hu.bt jm) aa aa) (λim jl jm w5 s5 p5 n5 c5 h5 ja nZ _ yc=>wV rfl ?_)
   refine ab ?_
   refine VO.call rfl rfl (fk Tryz.func170) (λoN ql tn=>(jL _ _ X (Int.gcd X Y:Int) j k oN (hv.bt tn) ((h5.kp ql).in JM) aa aa).mono ?_)
   rintro e w6 ⟨hd6,td⟩
   obtain⟨v6,u6,rfl,h6,h6'⟩:=dI hd6 Jo
   obtain⟨s6,p6,n6,c6,rfl⟩:=h6.form
   obtain⟨t6,r6,m6,d6,rfl⟩:=h6'.form
   refine aH td ?_
   intro vx _ Gq
   refine VO.call rfl rfl (fk Tryz.func170) (λyK AJ xd=>(jL _ _ Y (Int.gcd X Y:Int) k k yK (hu.bt xd) ((h5.kp (vx.ax AJ)).in JM) aa aa).mono ?_)
   rintro e w7 ⟨hd7,Ho⟩
   obtain⟨v7,u7,rfl,h7,h7'⟩:=dI hd7 Jo
   obtain⟨s7,p7,n7,c7,rfl⟩:=h7.form
   obtain⟨t7,r7,m7,d7,rfl⟩:=h7'.form
   refine aH Ho ?_
   intro Dc _ bb7
   refine az ?_;intro wz kz bz
   exact⟨_,by rw[mW,if_neg hY];rfl,⟨_,_,_,_,_,_,_,_,rfl,aj.cast ((h6.kp (Dc.ax kz)).mono tn.size) l1,aj.cast ((h7.kp kz).mono xd.size) l2⟩,bz⟩
theorem Gw (n d:Int) (w:World) (h0: -9223372036854775808<=n) (h1:n<=9223372036854775807) (g0: -9223372036854775808<=d) (g1:d<=9223372036854775807):
  Calls Tryz.prog 75 #[.int .i64 n,.int .i64 d] w λe w'=>∃ r,e=.returned (.tuple #[r,.int .i64 (mW d)])/\aI w' w.heap.size r (Rat.divInt n d)/\aw w w':=by
 refine ae (C:=aX Tryz.prog w _) (args:=[_,_]) Tryz.func75 rfl Tryz.ntmps75 (bG rfl) ?_
 refine ab ?_
 refine VO.cI rfl rfl (fk Tryz.func136) (λaO bE ba=>ny n aO h0 h1) (λaO bE ba w1 s1 p1 n1 c1 q1 aD cj _ bb1=>wV rfl ?_)
 refine ab ?_
 refine VO.cI rfl rfl (fk Tryz.func136) (λbk bX bF=>ny d bk g0 g1) (λbk bX bF w2 s2 p2 n2 c2 q2 aP da _ bb2=>wV rfl ?_)
 refine ab ?_
 refine VO.call rfl rfl (fk Tryz.func135) (λcX dh dS=>(Dn _ _ n d 2 2 cX ((q1.kp (da.ax dh)).in (Sz.of_lt aa)) ((q2.kp dh).in (Sz.of_lt aa)) aa aa).mono ?_)
 rintro e w3 ⟨r3,rfl,q3,cw⟩
 obtain⟨s3,p3,n3,c3,t3,x3,m3,d3,rfl⟩:=q3.form
 refine aH cw ?_
 intro fi _ bb3
 refine az ?_;intro wz kz bz
 exact⟨_,rfl,(q3.kp kz).mono dS.size,bz⟩
theorem JP (n d:Int) (w:World) (h0: -9223372036854775808<=n) (h1:n<=9223372036854775807) (g0: -9223372036854775808<=d) (g1:d<=9223372036854775807) (c:Int) (hc:mW d=c):
 Calls Tryz.prog 143 #[.int .i64 n,.int .i64 d] w λe w'=>∃ r,e=.returned (.tuple #[r,.int .i64 c])/\aI w' w.heap.size r (Rat.divInt n d)/\aw w w':=hc▸Gv n d w h0 h1 g0 g1
theorem bK.of {n d:Int} (hn:n.natAbs<4294967296) (hd:d.natAbs<4294967296):bK (Rat.divInt n d) 1:=by
 by_cases h:d=0
 ·rw[h,Rat.divInt_zero];exact bK.zero
 ·exact kJ (Sz.small hn) (Sz.small hd) h
theorem aQ.cast {w:World} {v:Value} {q q':Rat} (h:aQ w v q) (e:q'=q):aQ w v q':=e▸h
inductive ea (w:World) (k:Nat):List Rat->List (List Value)->Prop
 | nil:ea w k [] []
 | cons {s:Bool} {p:Option Addr} {n c:Nat} {t:Bool} {r:Option Addr} {m d:Nat} {q:Rat} {qs:List Rat} {vs:List (List Value)}:aC w (.agg #[.bool s,.slice p n c,.bool t,.slice r m d]) q k->ea w k qs vs->ea w k (q::qs) ([.bool s,.slice p n c,.bool t,.slice r m d]::vs)
theorem ea.four {w:World} {k:Nat} {qs:List Rat} {vs:List (List Value)} (h:ea w k qs vs):∀ v∈vs,v.length=4:=by
 induction h with
 | nil=>intro v hv;cases hv
 | cons _ _ ih=>
   intro v hv
   rcases List.mem_cons.1 hv with rfl|e
   ·rfl
   ·exact ih v e
theorem ea.at {w:World} {k:Nat} {qs:List Rat} {vs:List (List Value)} (h:ea w k qs vs):∀ (j:Nat) (q:Rat),qs[j]? =some q->∃ s p' n' c' t r m d,vs[j]? =some [Value.bool s,.slice p' n' c',.bool t,.slice r m d]/\aC w (.agg #[.bool s,.slice p' n' c',.bool t,.slice r m d]) q k:=by
 induction h with
 | nil=>intro j q hq;simp at hq
 | cons h1 _ ih=>
   intro j q hq
   cases j with
   | zero=>cases hq;exact⟨_,_,_,_,_,_,_,_,rfl,h1⟩
   | succ j=>exact ih j q (by simpa using hq)
theorem flat_at:∀ (vs:List (List Value)) (j:Nat) (v:List Value),(∀ v∈vs,v.length=4)->vs[j]? =some v->∀ (o:Nat) (u:Value),v[o]? =some u->vs.flatten[j*4+o]? =some u:=by
 intro vs
 induction vs with
 | nil=>intro j v _ h;simp at h
 | cons x r ih=>
   intro j v hl h o u hu
   have hx:x.length=4:=hl x cS
   cases j with
   | zero=>
     simp at h
     subst h
     have ho:o<4:=by have:=(List.getElem?_eq_some_iff.1 hu).1;omega
     rw[List.flatten_cons,List.getElem?_append_left aa]
     simpa using hu
   | succ j=>
     have h':r[j]? =some v:=by simpa using h
     rw[List.flatten_cons,List.getElem?_append_right aa,hx,show (j+1)*4+o-4=j*4+o by omega]
     exact ih j v (λv hv=>hl v (by simp[hv])) h' o u hu
theorem iW {C:Cx} {β:Nat->Nat} {w:World} {i:Nat} {t:TypeId} {cs:List AV} {qs:List Rat} {k:Nat} {vs:List (List Value)} {n c:Nat} (h:jd C β w i t cs) (spare:List AV) (hcs:cs=vs.flatten.map .val++spare) (hn:n=qs.length) (hq:ea w k qs vs) (hc:n<=c) (eJ:c<=maxLen):
  jo w (.slice (some ⟨β i,0,none⟩) n c) qs k:=by
 subst hn
 refine⟨_,_,rfl,hc,eJ,λj q hj=> ?_⟩
 obtain⟨s,p',n',c',t',r,m,d,hvj,kW⟩:=hq.at j q hj
 refine⟨β i,0,s,p',n',c',t',r,m,d,rfl,λo u hu=> ?_,kW⟩
 refine h.cls.cell ?_
 have:=flat_at vs j _ hq.four hvj o u hu
 rw[hcs,List.map_append,aN,List.getElem?_toArray,Nat.zero_add,List.getElem?_append_left (List.getElem?_eq_some_iff.1 this).1]
 exact this
theorem lN (v:Value) (q:Rat) (k:Nat) (w:World) (hv:aC w v q k) (hk:k<=536870912) (c:Int) (hc:jw q 0=c):
 Calls Tryz.prog 82 #[v] w λe w'=>e=.returned (.int .i64 c)/\aw w w':=hc▸AX v q k w hv hk
theorem fA (v u:Value) (q r:Rat) (k l:Nat) (w:World) (hv:aC w v q k) (hu:aC w u r l) (hk:k<=67108864) (hl:l<=67108864) (b:Bool) (hb:decide (q=r)=b):
 Calls Tryz.prog 16 #[v,u] w λe w'=>e=.returned (.bool b)/\aw w w':=hb▸AY v u q r k l w hv hu hk hl
theorem bW.in {w:World} {v:Value} {s t:Bool} {xs ys:List Nat} {k:Nat} (h:bW w v s xs t ys) (hx:xs.length<=k) (hy:ys.length<=k):aC w v (rq s xs t ys) k:=⟨s,xs,t,ys,h,rfl,hx,hy⟩
theorem bW.xe {w:World} {v:Value} {s t:Bool} {xs ys:List Nat} (h:bW w v s xs t ys):∃ p c r d,v=.agg #[.bool s,.slice p xs.length c,.bool t,.slice r ys.length d]/\True:=by
 obtain⟨p,c,r,d,rfl,_⟩:=h
 exact⟨_,_,_,_,rfl,trivial⟩
theorem EM {a b:Rat}:jw a b<=0↔a<=b:=by
 unfold jw
 split
 ·rename_i h;exact⟨λ_=>Rat.le_of_lt h,λ_=>by omega⟩
 ·split
  ·rename_i h;exact⟨λ_=>by rw[h];exact Rat.le_refl,λ_=>by omega⟩
  ·rename_i h1 h2;exact⟨λh=>by omega,λh=>absurd (Rat.not_lt.1 h1) (λh3=>h2 (Rat.le_antisymm h h3))⟩
theorem rcmp_eq {a b:Rat} (h:a=b):jw a b=0:=by subst h;unfold jw;rw[if_neg (by exact Rat.lt_irrefl),if_pos rfl]
theorem EN {b:Rat} (h:b≠0):jw b 0≠0:=by
 unfold jw
 split
 ·omega
 ·first|omega|(rw[if_neg h];omega)
theorem uS {b:Rat} (h:b=0):jw b 0=0:=rcmp_eq h
theorem xf {y x:Rat}:jN y x=true↔y<x:=by
 unfold jN jw
 by_cases h:y<x
 ·simp[h]
 ·simp only[h,if_false,iff_false];split <;> simp
theorem nJ {y x:Rat}:JN y x=true↔x<y:=by
 unfold JN
 rw[decide_eq_true_iff]
 constructor
 ·intro h
  exact Rat.not_le.1 (λe=>by have:=EM.2 e;omega)
 ·intro h
  have:=mt EM.1 (Rat.not_le.2 h)
  omega
theorem aC.inv {w:World} {v:Value} {q:Rat} {k:Nat} (h:aC w v q k):∃ s xs t ys,bW w v s xs t ys/\q=rq s xs t ys/\xs.length<=k/\ys.length<=k:=h
end
section
open Go.RowKit
abbrev KpT (T:TypeId->Bool) (w w':World):Prop:=aR ⟨UU,λ_=>True,T⟩ w w'
structure gj {α:Type} (E:World->List Value->α->Prop) (sz:Nat):Prop where
 kp:∀ {w w':World} {cs:List Value} {a:α},E w cs a->Kp UU w w'->E w' cs a
 len:∀ {w:World} {cs:List Value} {a:α},E w cs a->cs.length=sz
 ok:∀ {w:World} {cs:List Value} {a:α},E w cs a->cs.all aL=true
theorem KpT.plain {T:TypeId->Bool} {w w':World} (h:KpT T w w'):Kp UU w w':=h.jU
inductive fO {α:Type} (E:World->List Value->α->Prop) (w:World):List α->List (List Value)->Prop
 | nil:fO E w [] []
 | cons {a:α} {es:List α} {cs:List Value} {vs:List (List Value)}:E w cs a->fO E w es vs->fO E w (a::es) (cs::vs)
section
variable {α:Type} {E:World->List Value->α->Prop} {sz:Nat} {w w':World} {es:List α} {vs:List (List Value)}
theorem fO.kp (hE:gj E sz) (h:fO E w es vs) (k:Kp UU w w'):fO E w' es vs:=by
 induction h with
 | nil=>exact .nil
 | cons h1 _ ih=>exact .cons (hE.kp h1 k) ih
theorem fO.at (h:fO E w es vs):∀ (j:Nat) (a:α),es[j]? =some a->∃ cs,vs[j]? =some cs/\E w cs a:=by
 induction h with
 | nil=>intro j q hq;simp at hq
 | cons h1 _ ih=>
   intro j q hq
   cases j with
   | zero=>cases hq;exact⟨_,rfl,h1⟩
   | succ j=>exact ih j q (by simpa using hq)
theorem fO.append {es':List α} {Gx:List (List Value)} (h:fO E w es vs) (h':fO E w es' Gx):fO E w (es++es') (vs++Gx):=by
 induction h with
 | nil=>exact h'
 | cons h1 _ ih=>exact .cons h1 ih
theorem fO.snoc {a:α} {cs:List Value} (h:fO E w es vs) (h':E w cs a):fO E w (es++[a]) (vs++[cs]):=h.append (.cons h' .nil)
theorem fO.ok (hE:gj E sz) (h:fO E w es vs):vs.flatten.all aL=true/\vs.flatten.length=es.length*sz:=by
 induction h with
 | nil=>exact⟨rfl,by simp⟩
 | cons h1 _ ih=>
   refine⟨?_,?_⟩
   ·rw[List.flatten_cons,List.all_append,ih.1,hE.ok h1];rfl
   ·rw[List.flatten_cons,List.length_append,ih.2,hE.len h1,List.length_cons,Nat.add_mul,Nat.one_mul,Nat.add_comm]
theorem fO.cell (hE:gj E sz) (h:fO E w es vs):∀ (j:Nat) (cs:List Value),vs[j]? =some cs->∀ (o:Nat) (u:Value),cs[o]? =some u->vs.flatten[j*sz+o]? =some u:=by
 induction h with
 | nil=>intro j v h;simp at h
 | @cons a es cs vs h1 _ ih=>
   intro j v h o u hu
   have hx:=hE.len h1
   cases j with
   | zero=>
     simp at h
     subst h
     have ho:o<sz:=by have:=(List.getElem?_eq_some_iff.1 hu).1;omega
     rw[List.flatten_cons,Nat.zero_mul,Nat.zero_add,List.getElem?_append_left aa]
     exact hu
   | succ j=>
     rw[List.flatten_cons,List.getElem?_append_right (by rw[Nat.add_mul];omega)]
     have:=ih j v (by simpa using h) o u hu
     rw[<-this]
     congr 1
     rw[Nat.add_mul]
     omega
def bP (E:World->List Value->α->Prop) (sz:Nat) (w:World) (v:Value) (es:List α):Prop:=
 ∃ p c,v=.slice p es.length c/\es.length<=c/\c<=maxLen/\∀ (i:Nat) (a:α),es[i]? =some a->∃ b off cs,p=some ⟨b,off,none⟩/\(∀ (j:Nat) (u:Value),cs[j]? =some u->w.cell? ⟨b,off+i*sz+j,none⟩=some u)/\E w cs a
theorem bP.form {v:Value} (h:bP E sz w v es):∃ p c,v=.slice p es.length c/\es.length<=c/\c<=9223372036854775807:=by
 obtain⟨p,c,hv,h1,h2,_⟩:=h
 exact⟨p,c,hv,h1,by simpa [maxLen] using h2⟩
theorem bP.at {p:Option Addr} {n c i:Nat} {a:α} (h:bP E sz w (.slice p n c) es) (hq:es[i]? =some a):∃ b off cs,p=some ⟨b,off,none⟩/\(∀ (j:Nat) (u:Value),cs[j]? =some u->w.cell? ⟨b,off+i*sz+j,none⟩=some u)/\E w cs a:=by
 obtain⟨p',c',hv,h1,h2,h3⟩:=h
 cases hv
 exact h3 i a hq
theorem bP.bt (hE:gj E sz) {v:Value} (h:bP E sz w v es) (hb:aw w w'):bP E sz w' v es:=by
 obtain⟨p,c,hv,h1,h2,h3⟩:=h
 refine⟨p,c,hv,h1,h2,λi q hq=> ?_⟩
 obtain⟨b,off,cs,hp,hc,hr⟩:=h3 i q hq
 exact⟨b,off,cs,hp,λj u hj=>hb.cell (hc j u hj),hE.kp hr (Kp.of hb)⟩
theorem bP.mono {E':World->List Value->α->Prop} {v:Value} (h:bP E sz w v es) (hm:∀ (i:Nat) (a:α) (cs:List Value),es[i]? =some a->E w cs a->E' w cs a):bP E' sz w v es:=by
 obtain⟨p,c,hv,h1,h2,h3⟩:=h
 refine⟨p,c,hv,h1,h2,λi q hq=> ?_⟩
 obtain⟨b,off,cs,hp,hc,hr⟩:=h3 i q hq
 exact⟨b,off,cs,hp,hc,hm i q cs hq hr⟩
theorem bP.nil (w:World) (E:World->List Value->α->Prop) (sz:Nat):bP E sz w (.slice none 0 0) []:=⟨none,0,rfl,Nat.le_refl _,by decide,λi q hq=>by simp at hq⟩
theorem nK (hE:gj E sz) {b n c:Nat} {t:TypeId} {spare:List Value} (h:aW w b t (vs.flatten++spare).toArray) (hr:fO E w es vs) (hn:n=es.length) (hc:n<=c) (hm:c<=9223372036854775807):bP E sz w (.slice (some ⟨b,0,none⟩) n c) es:=by
 subst hn
 refine⟨_,_,rfl,hc,by simpa [maxLen] using hm,λi a ha=> ?_⟩
 obtain⟨cs,h1,h2⟩:=hr.at i a ha
 refine⟨b,0,cs,rfl,λj u hj=> ?_,h2⟩
 have:=hr.cell hE i cs h1 j u hj
 refine h.cell ?_
 rw[List.getElem?_toArray,Nat.zero_add,List.getElem?_append_left (List.getElem?_eq_some_iff.1 this).1]
 exact this
theorem tp (hE:gj E sz) {C:Cx} {β:Nat->Nat} {i n c:Nat} {t:TypeId} {cs:List AV} (h:jd C β w i t cs) (spare:List AV) (hcs:cs=vs.flatten.map .val++spare) (hr:fO E w es vs) (hn:n=es.length) (hc:n<=c) (hm:c<=9223372036854775807):
  bP E sz w (.slice (some ⟨β i,0,none⟩) n c) es:=by
 refine nK hE (spare:=spare.map (AV.leaf β)) (t:=t) ?_ hr hn hc hm
 have:=h.cls
 rw[hcs,List.map_append,aN] at this
 exact this
def gI (E:World->List Value->α->Prop) (sz:Nat) (t:TypeId) (B:Nat) (w:World) (v:Value) (es:List α):Prop:=
 (v=.slice none 0 0/\es=[])\/∃ b c vs spare,v=.slice (some ⟨b,0,none⟩) es.length c/\B<=b/\aW w b t (vs.flatten++spare).toArray/\fO E w es vs/\spare.all aL=true/\es.length<=c/\c<=9223372036854775807/\(vs.flatten++spare).length=c*sz
theorem gI.sl (hE:gj E sz) {t:TypeId} {B:Nat} {v:Value} (h:gI E sz t B w v es):bP E sz w v es:=by
 rcases h with ⟨rfl,rfl⟩|⟨b,c,vs,spare,rfl,_,h1,h2,_,h3,h4,_⟩
 ·exact bP.nil _ _ _
 ·exact nK hE h1 h2 rfl h3 h4
theorem gI.form {t:TypeId} {B:Nat} {v:Value} (h:gI E sz t B w v es):∃ p c,v=.slice p es.length c:=by
 rcases h with ⟨rfl,rfl⟩|⟨b,c,vs,spare,rfl,_⟩
 ·exact⟨_,_,rfl⟩
 ·exact⟨_,_,rfl⟩
theorem gI.kp (hE:gj E sz) {t:TypeId} {B:Nat} {v:Value} {T:TypeId->Bool} (h:gI E sz t B w v es) (k:KpT T w w') (ht:T t=true):gI E sz t B w' v es:=by
 rcases h with ⟨rfl,rfl⟩|⟨b,c,vs,spare,rfl,h0,h1,h2,h3⟩
 ·exact .inl ⟨rfl,rfl⟩
 ·refine .inr ⟨b,c,vs,spare,rfl,h0,k.block t b _ ?_ trivial h1,h2.kp hE k.plain,h3⟩
  show (Nat.beq t UU || T t)=true
  rw[ht]
  simp
end
section
variable {C:Cx} {F:Fr} {H:Hp} {w:World} {m:Option (List FuncId)} {full:Array Oper} {K:Fr->Hp->World->Prop} {o:Oper} {r:List Oper}
theorem VO.callX {α:Type} {E:World->List Value->α->Prop} {sz:Nat} (hE:gj E sz) {d:fK} {dst:Nat} {t:TypeId} {es:List α} (e:stepOf C full F H o=.call d) (hd:o.dst=some dst) (h0:H dst=none) (hN:dst<C.N) (hl:1<=lvl C.SU m o) (ht:C.K.fz t=false)
  (h:∀ w1 β,aR C.K w w1->C.Old w1->gW C β H d.ids w1->qy C.P d β w1 λe w2=>∃ v,e=.returned v/\aw w1 w2/\gI E sz t w1.heap.size w2 v es/\
   (aR C.K w w2->aR C.K w1 w2->C.Old w2->es=[]->ak C m full r K (F.bl o.dst (.val (.slice none 0 0))) H w2)/\
   (∀ c vs spare,aR C.K w w2->aR C.K w1 w2->C.Old w2->fO E w2 es vs->spare.all aL=true->es.length<=c->c<=9223372036854775807->(vs.flatten++spare).length=c*sz->ak C m full r K (F.bl o.dst (.row dst 0 es.length c)) (H.put dst (t,vs.flatten.map .val++spare.map .val)) w2)):ak C m full (o::r) K F H w:=by
 show one C m full o (ak C m full r K) F H w
 unfold one
 rw[e]
 refine λw1 β h1 h2 h3=>(h w1 β h1 h2 h3).mono ?_
 rintro e w2 ⟨v,rfl,hb,hn,k1,k2⟩
 rcases hn with ⟨rfl,rfl⟩|⟨b,c,vs,spare,rfl,q1,q2,q3,q4,q5,q6,q7⟩
 ·exact⟨β,.val (.slice none 0 0),none,[],rfl,λi hi=>(by cases hi),.inr rfl,.inr rfl,vH.none hb,λa b c _ _=>k1 a b c rfl⟩
 ·let cf:Nat->Nat:=λi=>if i=dst then b else β i
  have pO:cf dst=b:=if_pos rfl
  have nP:vs.flatten.map AV.val++spare.map AV.val=(vs.flatten++spare).map AV.val:=by rw[List.map_append]
  have iu:(vs.flatten.map AV.val++spare.map AV.val).all aB=true:=by rw[nP];exact cV (by rw[List.all_append,(q3.ok hE).1,q4];rfl)
  refine⟨cf,.row dst 0 es.length c,none,[(dst,(t,vs.flatten.map AV.val++spare.map AV.val))],?_,λi hi=>.inl (by simpa [AV.ids] using hi),.inl hl,.inr rfl,?_,λa1 a2 a3 _ _=>k2 c vs spare a1 a2 a3 q3 q4 q5 q6 q7⟩
  ·show Ending.returned _=.returned (Value.slice (some ⟨cf dst,0,none⟩) es.length c);rw[pO]
  ·refine⟨hb.os,hb.tape,hb.output,hb.size,λk hk _ _ _=>Below.block hb k hk,λi hi=>if_neg (by simpa using hi),λi hi=>(by cases hi),λi hi=>(by cases hi),λx hx=> ?_,λx hx=> ?_,by simp,λx hx y hy _=> ?_,λx hx j hj=> ?_⟩
   ·cases List.mem_singleton.1 hx
    refine⟨by rw[pO];exact C.rL _ _ aa (by have:=C.gR _ h2;omega),ht,?_,iu⟩
    rw[pO,nP,aN];exact q2
   ·cases List.mem_singleton.1 hx
    exact .inr ⟨.inl h0,by omega,.inl (by rw[pO];exact q1)⟩
   ·cases List.mem_singleton.1 hx;cases List.mem_singleton.1 hy;rfl
   ·cases List.mem_singleton.1 hx
    rw[nP,ah] at hj;cases hj
end
def ma {α:Type} (E:World->List Value->α->Prop) (sz:Nat) (w:World) (p:Option Addr) (es:List α) (n:Nat):Prop:=
 ∀ (i:Nat) (a:α),i<n->es[i]? =some a->∃ b off cs,p=some ⟨b,off,none⟩/\(∀ (j:Nat) (u:Value),cs[j]? =some u->w.cell? ⟨b,off+i*sz+j,none⟩=some u)/\E w cs a
theorem ma.zero {α:Type} {E:World->List Value->α->Prop} {sz:Nat} {w:World} {p:Option Addr} {es:List α}:ma E sz w p es 0:=λi a hi=>absurd hi (Nat.not_lt_zero i)
theorem ma.snoc {α:Type} {E:World->List Value->α->Prop} {sz:Nat} {w:World} {b off:Nat} {es:List α} {n:Nat} {a:α} {cs:List Value} (h:ma E sz w (some ⟨b,off,none⟩) es n) (ha:es[n]? =some a) (hc:∀ (j:Nat) (u:Value),cs[j]? =some u->w.cell? ⟨b,off+n*sz+j,none⟩=some u) (he:E w cs a):ma E sz w (some ⟨b,off,none⟩) es (n+1):=λi x hi hx=>by
 rcases Nat.lt_succ_iff_lt_or_eq.1 hi with h' |h'
 ·exact h i x h' hx
 ·subst h';rw[ha] at hx;cases hx;exact⟨b,off,cs,rfl,hc,he⟩
theorem ma.all {α:Type} {E E':World->List Value->α->Prop} {sz:Nat} {w:World} {p:Option Addr} {es:List α} {n c:Nat} (h:ma E sz w p es n) (h':bP E' sz w (.slice p n c) es):bP E sz w (.slice p n c) es:=by
 obtain⟨p',c',hv,h1,h2,_⟩:=h'
 cases hv
 exact⟨p,c,rfl,h1,h2,λi a ha=>h i a (List.getElem?_eq_some_iff.1 ha).1 ha⟩
theorem uT {α:Type} {E:World->List Value->α->Prop} {sz:Nat} {C:Cx} {β:Nat->Nat} {w:World} {i n c:Nat} {t:TypeId} {es:List α} {vs:List (List Value)} {spare:List AV} (h:jd C β w i t (vs.flatten.map .val++spare)) (hr:fO E w es vs) (hn:n=es.length) (hc:n<=c) (hm:c<=9223372036854775807) (hl:(vs.flatten.map AV.val++spare).length=c*sz)
  (hnw:∀ i g,C.tZ i g->C.w0.heap.size<=g:=by exact λ_ _ h=>h):gI E sz t C.w0.heap.size w (.slice (some ⟨β i,0,none⟩) n c) es:=by
 subst hn
 have hk:=h.ok
 rw[List.all_append,Bool.and_eq_true] at hk
 refine .inr ⟨β i,c,vs,spare.map (AV.leaf β),rfl,hnw _ _ h.new,?_,hr,dT hk.2,hc,hm,by rw[<-hl];simp only[List.length_append,List.length_map]⟩
 have:=h.cls
 rw[List.map_append,aN] at this
 exact this
theorem lO {n d:Int} (h0: -9223372036854775808<=n) (h1:n<=9223372036854775807) (g0: -9223372036854775808<=d) (g1:d<=9223372036854775807):bK (Rat.divInt n d) 2:=by
 by_cases hd:d=0
 ·rw[hd,Rat.divInt_zero];exact bK.zero.mono aa
 ·exact kJ (Sz.of_lt aa) (Sz.of_lt aa) hd
end
set_option maxRecDepth 4000
section
open Go.RowKit
attribute [local irreducible] ak VS
theorem iJ (xs:List Nat) (v:Value) (n:Nat) (w:World) (hr:Rd w 1 v n (ints .u32 xs)) (hn:n<=1073741824):
  Calls Tryz.prog 115 #[v] w λe w'=>∃ p c,e=.returned (.slice p n c)/\w'.ownsRow w.heap.size UU 1 (.slice p n c) n (ints .u32 xs)/\aw w w':=by
 obtain⟨p,c,rfl,jR⟩:∃ p c,v=.slice p n c/\True:=by
  obtain⟨p,c,hv,_⟩:=hr
  exact⟨p,c,hv,trivial⟩
 refine ae (C:=aX Tryz.prog w _) (args:=[_]) Tryz.func115 rfl Tryz.ntmps115 (bG rfl) ?_
 refine ab ?_
 refine VO.appU (cP _ _) (t:=30) (e:=191) (n:=n) (news:=ints .u32 xs) rfl rfl rfl rfl rfl (ke .u32 xs) aa (λw1 k1 b1=>hr.below b1) (λw2 p2 c2 k2 b2 ho=>wV rfl ?_)
 refine ab ?_
 refine az ?_;intro wz kz bz
 exact⟨_,_,rfl,Own.kp ho kz,bz⟩
theorem ez.Ht {w:World} {s:Bool} {p:Option Addr} {xs:List Nat} {c:Nat} (h:ez w (.agg #[.bool s,.slice p xs.length c]) s xs):Rd w 1 (.slice p xs.length c) xs.length (ints .u32 xs)/\bH xs:=by
 obtain⟨p',c',hv,hr,hl⟩:=h
 simp only[Value.agg.injEq,Array.mk.injEq,List.cons.injEq,and_true,true_and,Value.slice.injEq] at hv
 obtain⟨rfl,rfl⟩:=hv
 exact⟨hr,hl⟩
def lP (w:World) (B:Nat) (v:Value) (s:Bool) (xs:List Nat) (t:Bool) (ys:List Nat):Prop:=
 ∃ p c r d,v=.agg #[.bool s,.slice p xs.length c,.bool t,.slice r ys.length d]/\w.ownsRow B UU 1 (.slice p xs.length c) xs.length (ints .u32 xs)/\w.ownsRow B UU 1 (.slice r ys.length d) ys.length (ints .u32 ys)/\bH xs/\bH ys
theorem lP.raw {w:World} {B:Nat} {v:Value} {s:Bool} {xs:List Nat} {t:Bool} {ys:List Nat} (h:lP w B v s xs t ys):bW w v s xs t ys:=by
 obtain⟨p,c,r,d,hv,h1,h2,h3,h4⟩:=h
 exact⟨p,c,r,d,hv,⟨_,_,rfl,Rd.own h1,h3⟩,⟨_,_,rfl,Rd.own h2,h4⟩⟩
theorem lP.kp {T:TypeId->Bool} {w w':World} {B:Nat} {v:Value} {s:Bool} {xs:List Nat} {t:Bool} {ys:List Nat} (h:lP w B v s xs t ys) (k:aR ⟨UU,λ_=>True,T⟩ w w'):lP w' B v s xs t ys:=by
 obtain⟨p,c,r,d,hv,h1,h2,h3,h4⟩:=h
 exact⟨p,c,r,d,hv,Own.kp h1 k,Own.kp h2 k,h3,h4⟩
theorem lP.own {w:World} {B:Nat} {v:Value} {q:Rat} (h:lP w B v (decide (q.num<0)) (limbs q.num.natAbs) (decide ((q.den:Int)<0)) (limbs (q.den:Int).natAbs)):aI w B v q:=by
 obtain⟨p,c,r,d,rfl,h1,h2,h3,h4⟩:=h
 exact⟨_,p,_,c,_,r,_,d,rfl,⟨_,_,rfl,h1⟩,⟨_,_,rfl,h2⟩⟩
theorem fC (s t:Bool) (xs ys:List Nat) (v:Value) (w:World) (h:bW w v s xs t ys) (hx:xs.length<=1073741824) (hy:ys.length<=1073741824):
  Calls Tryz.prog 53 #[v] w λe w'=>∃ r,e=.returned r/\lP w' w.heap.size r s xs t ys/\aw w w':=by
 obtain⟨p,c,r,d,rfl,h1,h2⟩:=h
 refine ae (C:=aX Tryz.prog w _) (args:=[_]) Tryz.func53 rfl Tryz.ntmps53 (bG rfl) ?_
 refine ab ?_
 refine VO.call rfl rfl (fk Tryz.func115) (λaO bE ba=>(iJ xs _ _ aO (h1.bt ba).Ht.1 hx).mono ?_)
 rintro e w1 ⟨p1,c1,rfl,q1,aD⟩
 skip
 refine aH aD ?_
 intro cj _ bb1
 refine VO.call rfl rfl (fk Tryz.func115) (λbk bX bF=>(iJ ys _ _ bk (h2.bt bF).Ht.1 hy).mono ?_)
 rintro e w2 ⟨p2,c2,rfl,q2,aP⟩
 skip
 refine aH aP ?_
 intro da _ bb2
 refine az ?_;intro wz kz bz
 exact⟨_,rfl,⟨_,_,_,_,rfl,Own.kp (Own.mono q1 ba.size) (da.ax kz),Own.kp (Own.mono q2 bF.size) kz,h1.Ht.2,h2.Ht.2⟩,bz⟩
theorem Gy (s t:Bool) (xs ys:List Nat) (v:Value) (w:World) (h:bW w v s xs t ys) (hx:xs.length<=1073741824) (hy:ys.length<=1073741824):
  Calls Tryz.prog 76 #[v] w λe w'=>∃ r,e=.returned r/\lP w' w.heap.size r s xs t ys/\aw w w':=by
 obtain⟨p,c,r,d,rfl,h1,h2⟩:=h
 refine ae (C:=aX Tryz.prog w _) (args:=[_]) Tryz.func76 rfl Tryz.ntmps76 (bG rfl) ?_
 refine ab ?_
 refine VO.call rfl rfl (fk Tryz.func115) (λaO bE ba=>(iJ xs _ _ aO (h1.bt ba).Ht.1 hx).mono ?_)
 rintro e w1 ⟨p1,c1,rfl,q1,aD⟩
 skip
 refine aH aD ?_
 intro cj _ bb1
 refine VO.call rfl rfl (fk Tryz.func115) (λbk bX bF=>(iJ ys _ _ bk (h2.bt bF).Ht.1 hy).mono ?_)
 rintro e w2 ⟨p2,c2,rfl,q2,aP⟩
 skip
 refine aH aP ?_
 intro da _ bb2
 refine az ?_;intro wz kz bz
 exact⟨_,rfl,⟨_,_,_,_,rfl,Own.kp (Own.mono q1 ba.size) (da.ax kz),Own.kp (Own.mono q2 bF.size) kz,h1.Ht.2,h2.Ht.2⟩,bz⟩
theorem JQ {d:Int} (h:d≠0):mW d=0:=if_neg h
theorem cg {K:KC} {w w':World} (h:aR K w w':=by (with_reducible (repeat (first|assumption|exact kU _|exact kR _|exact Kp.of (U:=UU) (by assumption)|exact aR.of (by assumption)|refine kT ?_ (by assumption))))):aR K w w':=h
theorem gJ (n d:Int) (w:World) (h0: -9223372036854775808<=n) (h1:n<=9223372036854775807) (g0: -9223372036854775808<=d) (g1:d<=9223372036854775807):
  Calls Tryz.prog 31 #[.int .i64 n,.int .i64 d] w λe w'=>∃ r,e=.returned r/\aI w' w.heap.size r (Rat.divInt n d)/\aw w w':=by
 refine ae (C:=aX Tryz.prog w _) (args:=[_,_]) Tryz.func31 rfl Tryz.ntmps31 (bG rfl) ?_
 refine ab ?_
 refine VO.call rfl rfl (fk Tryz.func75) (λaO bE ba=>(Gw n d aO h0 h1 g0 g1).mono ?_)
 rintro e w1 ⟨r1,rfl,q1,aD⟩
 obtain⟨s1,p1,n1,c1,t1,y1,m1,d1,rfl⟩:=q1.form
 refine aH aD ?_
 intro cj _ bb1
 have hsz:(limbs (Rat.divInt n d).num.natAbs).length<=4/\(limbs ((Rat.divInt n d).den:Int).natAbs).length<=4:=by
  by_cases hd:d=0
  ·rw[hd,Rat.divInt_zero];exact⟨bK.zero.1.mono aa,bK.zero.2.mono aa⟩
  ·have h:=kJ (X:=n) (Y:=d) (k:=2) (l:=2) (Sz.of_lt aa) (Sz.of_lt aa) hd
   exact⟨h.1.mono aa,h.2.mono aa⟩
 refine VO.call rfl rfl (fk Tryz.func76) (λbk bX bF=>(Gy _ _ _ _ _ bk (q1.kp cg).rd.raw aa aa).mono ?_)
 rintro e w2 ⟨r2,rfl,q2,aP⟩
 obtain⟨p2,c2,y2,d2,rfl,_⟩:=q2.raw.xe
 refine aH aP ?_
 intro da _ bb2
 refine az ?_;intro wz kz bz
 exact⟨_,rfl,((q2.kp kz).own).mono bF.size,bz⟩
theorem uU (xs:List Nat) (v u:Value) (n:Nat) (w:World) (hr:Rd w 1 v n (ints .u32 xs)) (hs:Rd w 1 u n (ints .u32 xs)) (vu:n=xs.length):
  Calls Tryz.prog 114 #[v,u] w λe w'=>e=.returned (.bool true)/\aw w w':=by
 subst vu
 obtain⟨n,hn⟩:∃ n,n=xs.length:=⟨_,rfl⟩
 rw[<-hn] at hr hs
 obtain⟨p,c,rfl,dW,eJ,dR⟩:=hr.u32
 obtain⟨q,d,rfl,Fo,BM,_⟩:=hs.u32
 refine ae (C:=aX Tryz.prog w _) (args:=[_,_]) Tryz.func114 rfl Tryz.ntmps114 (bG rfl) ?_
 refine ab ?_
 refine VS.bo rfl cS ?_
 refine ab ?_
 refine VS.loop (J:=λms L M w'=>∃ (k:Nat),k<=n/\ms=n-k/\L=[(0,.val (.slice p n c)),(1,.val (.slice q n d)),(5,.val (.int .i64 (k:Int)))]/\M=[]) n ⟨_,_,?_,?_,?_,?_,⟨0,by omega,rfl,rfl,rfl⟩⟩ ?_
 ·exact dy
 ·exact dy
 ·rfl
 ·exact jv
 rintro ms L M w' ⟨k,hk,hms,rfl,rfl⟩
 refine ab ?_
 by_cases ss:k<n
 ·refine VS.bg rfl (decide_eq_true (Int.ofNat_lt.2 ss)) ?_
  refine ab ?_
  obtain⟨b1,o1,x,rfl,aD,ey,kj⟩:=hr.cellAt ss
  obtain⟨b2,o2,y,rfl,aP,lU,yT⟩:=hs.cellAt ss
  obtain rfl:x=y:=by rw[ey] at lU;exact Option.some.inj lU
  refine VO.cond rfl ew (wV rfl ?_)
  refine VO.read rfl [.int .u32 (x:Int)] rfl (gf rfl kj) (wV rfl ?_)
  refine VO.cond rfl ew (wV rfl ?_)
  refine VO.read rfl [.int .u32 (x:Int)] rfl (gf rfl yT) (wV rfl ?_)
  refine ab ?_
  refine VS.bo rfl cS ?_
  refine ab ?_
  refine VS.back (n-(k+1)) aa ⟨_,_,?_,?_,?_,?_,⟨k+1,by omega,rfl,rfl,rfl⟩⟩
  ·refine⟨rfl,rfl,?_,trivial⟩
   rw[<-bA aa];rfl
  ·exact dy
  ·rfl
  ·exact jv
 ·refine VS.bo rfl (decide_eq_false (λe=>ss (Int.ofNat_lt.1 e))) ?_
  refine ab ?_
  refine az ?_;intro wz kz bz
  exact⟨rfl,bz⟩
theorem Gz (s t:Bool) (xs ys:List Nat) (v u:Value) (w:World) (hv:bW w v s xs t ys) (hu:bW w u s xs t ys):
  Calls Tryz.prog 52 #[v,u] w λe w'=>e=.returned (.bool true)/\aw w w':=by
 obtain⟨p,c,r,d,rfl,v1,v2⟩:=hv
 obtain⟨p',c',r',d',rfl,u1,u2⟩:=hu
 refine ae (C:=aX Tryz.prog w _) (args:=[_,_]) Tryz.func52 rfl Tryz.ntmps52 (bG rfl) ?_
 refine ab ?_
 refine VO.fix 12 rfl (congrArg (λb=>AV.val (.bool b)) (show (s == s)=true by simp)) ?_
 refine ab ?_
 refine VO.fix 21 rfl (congrArg (λb=>AV.val (.bool b)) (show (t == t)=true by simp)) ?_
 refine ab ?_
 refine VO.cB rfl rfl (fk Tryz.func114) (λaO bE ba=>uU xs _ _ _ aO (v1.bt ba).Ht.1 (u1.bt ba).Ht.1 rfl) (λaO bE ba w1 aD cj _ bb1=>wV rfl ?_)
 refine ab ?_
 refine VO.cB rfl rfl (fk Tryz.func114) (λbk bX bF=>uU ys _ _ _ bk (v2.bt bF).Ht.1 (u2.bt bF).Ht.1 rfl) (λbk bX bF w2 aP da _ bb2=>wV rfl ?_)
 refine ab ?_
 refine az ?_;intro wz kz bz
 exact⟨rfl,bz⟩
theorem gK (q:Rat) (v u:Value) (w:World) (hv:aQ w v q) (hu:aQ w u q):
 Calls Tryz.prog 52 #[v,u] w λe w'=>e=.returned (.bool true)/\aw w w':=Gz _ _ _ _ v u w hv.raw hu.raw
end
section
open Go.RowKit
section
variable {T:TypeId->Bool} {w w':World} {v:Value} {q:Rat} {X:Int} {B n:Nat}
theorem aC.k (h:aC w v q n) (k:aR ⟨UU,λ_=>True,T⟩ w w':=by exact cg):aC w' v q n:=h.kp k
theorem aQ.k (h:aQ w v q) (k:aR ⟨UU,λ_=>True,T⟩ w w':=by exact cg):aQ w' v q:=h.kp k
theorem aI.k (h:aI w B v q) (k:aR ⟨UU,λ_=>True,T⟩ w w':=by exact cg):aI w' B v q:=h.kp k
theorem aI.kr (h:aI w B v q) (k:aR ⟨UU,λ_=>True,T⟩ w w':=by exact cg):aQ w' v q:=(h.kp k).rd
theorem aI.ki (h:aI w B v q) (hs:bK q n) (k:aR ⟨UU,λ_=>True,T⟩ w w':=by exact cg):aC w' v q n:=(h.kp k).in hs
theorem aQ.ki (h:aQ w v q) (hs:bK q n) (k:aR ⟨UU,λ_=>True,T⟩ w w':=by exact cg):aC w' v q n:=(h.kp k).to hs
theorem bd.k (h:bd w v X) (k:aR ⟨UU,λ_=>True,T⟩ w w':=by exact cg):bd w' v X:=h.kp k
theorem aj.k (h:aj w B v X) (k:aR ⟨UU,λ_=>True,T⟩ w w':=by exact cg):aj w' B v X:=h.kp k
theorem aj.kr (h:aj w B v X) (k:aR ⟨UU,λ_=>True,T⟩ w w':=by exact cg):bd w' v X:=(h.kp k).rd
theorem aj.ki (h:aj w B v X) (hs:Sz X n) (k:aR ⟨UU,λ_=>True,T⟩ w w':=by exact cg):bq w' v X n:=(h.kp k).in hs
theorem bd.ki (h:bd w v X) (hs:Sz X n) (k:aR ⟨UU,λ_=>True,T⟩ w w':=by exact cg):bq w' v X n:=(h.kp k).to hs
end
theorem Sz.floor {q:Rat} {k:Nat} (h:bK q k):Sz q.floor k:=by
 refine Sz.le h.1 ?_
 rw[Rat.floor_def]
 exact Int.natAbs_ediv_le_natAbs _ _
end
section
open Go.RowKit
attribute [local irreducible] ak VS
theorem bne_y {a b:Int} (h:a≠b):(a != b)=true:=by simpa using h
theorem JR {a b:Int} (h:a=b):(a != b)=false:=by simpa using h
theorem JS {a b:Int} (h:a=b):(a == b)=true:=by simpa using h
theorem EO {a b:Int} (h:a≠b):(a == b)=false:=by simpa using h
structure dx {α:Type} (E:World->List Value->α->Prop) (sz:Nat) (w:World) (n c:Nat) (vs:List (List Value)) (sp:List AV) (es:List α):Prop where
 len:n=es.length
 el:fO E w es vs
 so:sp.all aB=true
 sl:aF sp=[]
 le:n<=c
 cm:c<=9223372036854775807
 fl:(vs.flatten.map AV.val++sp).length=c*sz
section
variable {α:Type} {E:World->List Value->α->Prop} {sz n c:Nat} {w w':World} {vs:List (List Value)} {sp:List AV} {es:List α}
theorem dx.kp (hE:gj E sz) (h:dx E sz w n c vs sp es) (k:Kp UU w w'):dx E sz w' n c vs sp es:=⟨h.len,h.el.kp hE k,h.so,h.sl,h.le,h.cm,h.fl⟩
theorem dx.BW {M:List (Nat×(TypeId×List AV))} (h:dx E sz w n c vs sp es):ay M (vs.flatten.map AV.val++sp):=.append (.vals _) (.none h.sl)
theorem dx.dL (h:dx E sz w n c vs sp es):aF (vs.flatten.map AV.val++sp)=[]:=by rw[eC,ah,h.sl];rfl
theorem dx.new {C:Cx} {β:Nat->Nat} {i:Nat} {t:TypeId} (hE:gj E sz) (h:dx E sz w n c vs sp es) (o:jd C β w' i t (vs.flatten.map .val++sp)) (k:Kp UU w w') (hnw:∀ i g,C.tZ i g->C.w0.heap.size<=g:=by exact λ_ _ h=>h):
 gI E sz t C.w0.heap.size w' (.slice (some ⟨β i,0,none⟩) n c) es:=uT o (h.el.kp hE k) h.len h.le h.cm h.fl hnw
theorem dx.sl' {C:Cx} {β:Nat->Nat} {i:Nat} {t:TypeId} (hE:gj E sz) (h:dx E sz w n c vs sp es) (o:jd C β w' i t (vs.flatten.map .val++sp)) (k:Kp UU w w'):
 bP E sz w' (.slice (some ⟨β i,0,none⟩) n c) es:=tp hE o sp rfl (h.el.kp hE k) h.len h.le h.cm
theorem dx.cell (hE:gj E sz) (h:dx E sz w n c vs sp es) {i:Nat} {a:α} (ha:es[i]? =some a):∃ cs,vs[i]? =some cs/\E w cs a/\cs.length=sz/\∀ (k:Nat) (ds:List Value),ds <+:cs.drop k->∀ (j:Nat) (u:AV),(ds.map AV.val)[j]? =some u->(vs.flatten.map AV.val++sp)[0+((i:Nat):Int).toNat*sz+k+j]? =some u:=by
 obtain⟨cs,h1,h2⟩:=h.el.at i a ha
 refine⟨cs,h1,h2,hE.len h2,λk ds hd j u hj=> ?_⟩
 obtain⟨t,ht⟩:=hd
 rw[List.getElem?_map] at hj
 obtain⟨x,hx,rfl⟩:=Option.map_eq_some_iff.1 hj
 have hx':cs[k+j]? =some x:=by
  rw[<-List.getElem?_drop,<-ht,List.getElem?_append_left (List.getElem?_eq_some_iff.1 hx).1];exact hx
 have:=h.el.cell hE i cs h1 (k+j) x hx'
 rw[Int.toNat_natCast,Nat.zero_add,Nat.add_assoc,List.getElem?_append_left (by rw[List.length_map];exact (List.getElem?_eq_some_iff.1 this).1),List.getElem?_map,this]
 rfl
end
section
variable {C:Cx} {F:Fr} {H:Hp} {w:World} {m:Option (List FuncId)} {full:Array Oper} {K:Fr->Hp->World->Prop} {o:Oper} {r:List Oper}
theorem VO.EP (hC:C.Ok) {α:Type} {E:World->List Value->α->Prop} {sz:Nat} (hE:gj E sz) {t e te:TypeId} {it ie:TI} {x y:Operand} {s:Nat} {cs:List Value} {a:α} {dst:Nat}
  (e0:stepOf C full F H o=.call (.op o [.val (.slice none 0 0),.row s 0 1 1])) (ho:o.op=.call { callee:=.builtin .append,args:=#[x,y],argTypes:=#[t,t] })
  (vK:C.ti t=some it) (sI:it.elem=some (e,sz)) (BS:C.ti e=some ie) (hU:C.K.fz e=false) (hzo:ie.zero.cells.toList.all aL=true)
  (hd:o.dst=some dst) (hN:dst<C.N) (hl:lvl C.SU m o=2) (fx:H dst=none) (hs:H s=some (te,cs.map .val)) (hcs:E w cs a) (fS:24*sz<=140737488355328)
  (hK:∀ w2 cap sp,aR C.K w w2->C.Old w2->dx E sz w2 1 cap [cs] sp [a]->ak C m full r K (F.bl o.dst (.row dst 0 1 cap)) (H.put dst (e,[cs].flatten.map AV.val++sp)) w2)
  (hkp:∀ w w',aR C.K w w'->Kp UU w w':=by first|exact λ_ _ h=>h|exact λ_ _ h=>h.jU):ak C m full (o::r) K F H w:=by
 have hlen:=hE.len hcs
 refine VO.app hC e0 ho vK sI BS hU hzo hd hN hl (known:=[]) (spare:=[]) (del:=none) (n:=0) (c:=0) (mm:=1) (news:=cs.map .val) (.inl ⟨rfl,rfl,rfl,rfl,rfl,rfl,by omega⟩) (.inl fx) cS cS aa aa ⟨rfl,rfl,ah _⟩ ⟨rfl,rfl,cV (hE.ok hcs)⟩ (by rw[List.length_map,hlen];omega) aa
  (λw1 β k1 b1 ho=>⟨_,_,rfl,.inr ⟨β s,0,rfl,eX (rest:=[]) (ho.own s (.base (List.mem_append_right _ (List.mem_singleton.2 rfl))) _ _ hs) (by rw[List.append_nil])⟩⟩) (λw2 cap sp ρ k2 b2 ff h1 h2 h3 h4 h5=> ?_)
 have:=hK w2 cap sp k2 b2 ⟨rfl,.cons (hE.kp hcs (hkp _ _ k2)) .nil,h4,h5,by omega,h2,by simpa using h3⟩
 have e':([cs].flatten.map AV.val++sp)=([]++cs.map .val)++sp:=by simp
 rw[e'] at this
 exact this
theorem VO.ER (hC:C.Ok) {α:Type} {E:World->List Value->α->Prop} {sz:Nat} (hE:gj E sz) {t e te:TypeId} {it ie:TI} {x y:Operand} {s i n c:Nat} {cs:List Value} {a:α} {vs:List (List Value)} {sp:List AV} {es:List α} {dst:Nat}
  (e0:stepOf C full F H o=.call (.op o [.row i 0 n c,.row s 0 1 1])) (ho:o.op=.call { callee:=.builtin .append,args:=#[x,y],argTypes:=#[t,t] })
  (vK:C.ti t=some it) (sI:it.elem=some (e,sz)) (BS:C.ti e=some ie) (hU:C.K.fz e=false) (hzo:ie.zero.cells.toList.all aL=true)
  (hd:o.dst=some dst) (hN:dst<C.N) (hl:lvl C.SU m o=2) (fx:H dst=none\/some i=some dst) (hi:H i=some (e,vs.flatten.map .val++sp)) (hr:dx E sz w n c vs sp es) (hs:H s=some (te,cs.map .val)) (hcs:E w cs a) (fS:(n+1)*(24*sz)<=140737488355328)
  (hK:∀ w2 cap Hu ρ,aR C.K w w2->C.Old w2->(∀ x,aL (ρ x)=true)->dx E sz w2 (n+1) cap (vs++[cs]) Hu (es++[a])->ak C m full r K ((F.forget (some i) ρ).bl o.dst (.row dst 0 (n+1) cap)) ((H.forget (some i) ρ).put dst (e,(vs++[cs]).flatten.map AV.val++Hu)) w2)
  (hkp:∀ w w',aR C.K w w'->Kp UU w w':=by first|exact λ_ _ h=>h|exact λ_ _ h=>h.jU):ak C m full (o::r) K F H w:=by
 have hlen:=hE.len hcs
 obtain⟨k1,k2⟩:=hr.el.ok hE
 have Cj:=hr.len
 refine VO.app hC e0 ho vK sI BS hU hzo hd hN hl (known:=vs.flatten.map .val) (spare:=sp) (del:=some i) (n:=n) (c:=c) (mm:=1) (news:=cs.map .val) (.inr ⟨i,rfl,hi,rfl⟩) fx (by rw[List.length_map,k2,Cj]) hr.fl hr.le hr.cm ⟨ah _,hr.sl,ah _⟩ ⟨cV k1,hr.so,cV (hE.ok hcs)⟩ (by rw[List.length_map,hlen];omega) fS
  (λw1 β k1 b1 ho=>⟨_,_,rfl,.inr ⟨β s,0,rfl,eX (rest:=[]) (ho.own s (.base (List.mem_append_right _ (List.mem_singleton.2 rfl))) _ _ hs) (by rw[List.append_nil])⟩⟩) (λw2 cap Hu ρ k2 b2 ff h1 h2 h3 h4 h5=> ?_)
 have e:(vs.flatten.map AV.val++cs.map .val)=(vs++[cs]).flatten.map AV.val:=by simp
 have:=hK w2 cap Hu ρ k2 b2 ff ⟨by rw[List.length_append,hr.len];rfl,(hr.el.kp hE (hkp _ _ k2)).snoc (hE.kp hcs (hkp _ _ k2)),h4,h5,by omega,h2,by rw[<-e];exact h3⟩
 rw[<-e] at this
 exact this
end
end
section
open Go.RowKit
theorem GA {w:World} {a:Option Addr} {len cap:Nat} {zs:List Int}
  (h:(a=none/\len=0/\cap=0/\zs=[])\/∃ x,a=some x/\len<=cap/\cap<=maxLen/\zs.length=cap/\(∀ i,i<zs.length->w.cell? (x.add i)=some (.int .u32 (zs.getD i 0)))/\∀ n∈zs,(Lit.int .u32 n).wf=true):
  ∃ xs:List Nat,bH xs/\Rd w 1 (.slice a len cap) len (ints .u32 xs):=by
 rcases h with ⟨rfl,rfl,rfl,rfl⟩|⟨x,rfl,h1,h2,h3,h4,h5⟩
 ·exact⟨[],bH.nil,Rd.nil w 1⟩
 ·have hb:∀ n∈zs,0<=n/\n<4294967296:=λn hn=>by
   have:=h5 n hn
   simp[Lit.wf,IntKind.min,IntKind.max,IntKind.signed,IntKind.bits] at this
   omega
  refine⟨(zs.take len).map Int.toNat,?_,?_⟩
  ·intro y hy
   obtain⟨z,hz,rfl⟩:=List.mem_map.1 hy
   have:=hb z (List.mem_of_mem_take hz)
   omega
  ·refine⟨_,cap,rfl,h1,h2,by simp;omega,λhn=> ?_⟩
   have jQ:0<zs.length:=by omega
   have h0:=h4 0 jQ
   have hsp:x.spot=none:=by
    have:x.add 0=x:=by simp[Addr.add]
    rw[this] at h0
    unfold World.cell? at h0
    split at h0
    ·split at h0
     ·cases h0
     ·rename_i hs;simpa using hs
    ·cases h0
   obtain⟨b,off,sp⟩:=x
   simp only at hsp
   subst hsp
   refine⟨b,off,rfl,λj u hj=> ?_⟩
   simp only[ints,List.map_map,List.getElem?_map,List.getElem?_take] at hj
   split at hj
   ·rename_i hjl
    have hjz:j<zs.length:=by omega
    rw[List.getElem?_eq_getElem hjz] at hj
    simp at hj
    subst hj
    have h6:=h4 j hjz
    have h7:=hb _ (List.getElem_mem hjz)
    rw[show (⟨b,off,none⟩:Addr).add j=⟨b,off+j,none⟩ by unfold Addr.add;split <;> simp_all] at h6
    rw[h6]
    simp[List.getD,hjz]
    omega
   ·cases hj
theorem yj {α:Type} {l:List α} (h:l.length=2):∃ a b,l=[a,b]:=by
 match l,h with
 | [a,b],_=>exact⟨a,b,rfl⟩
theorem JT {α:Type} {l:List α} (h:l.length=4):∃ a b c d,l=[a,b,c,d]:=by
 match l,h with
 | [a,b,c,d],_=>exact⟨a,b,c,d,rfl⟩
section
variable {H:Type} {enc:TypeId×Value->H} {w:World} {held:Bool}
theorem Dp {fuel:Nat} {cs:List Value} {x:DataW H×List MemPlace} (h:DataW.trod enc Tryz.prog w 0 (λ_=>true) held fuel 30 cs=some x):∃ p n c xs,cs=[.slice p n c]/\Rd w 1 (.slice p n c) n (ints .u32 xs)/\bH xs:=by
 rcases ChangeShapes.open_ints Tryz.underlying30 Tryz.underlying191 (by kernel_rfl) h with ⟨rfl,_⟩|⟨a,len,cap,zs,rfl,_,hl,hc,hz,_,hcell,hwf⟩
 ·exact⟨none,0,0,[],rfl,Rd.nil w 1,bH.nil⟩
 ·rw[if_pos rfl] at hz
  obtain⟨xs,sw,qj⟩:=GA (w:=w) (.inr ⟨a,rfl,hl,hc,hz,hcell,hwf⟩)
  exact⟨some a,len,cap,xs,rfl,qj,sw⟩
theorem Bd {fuel:Nat} {cs:List Value} {x:DataW H×List MemPlace} (h:DataW.trod enc Tryz.prog w 0 (λ_=>true) held fuel 32 cs=some x):∃ s p c xs,cs=[.bool s,.slice p xs.length c]/\ez w (.agg #[.bool s,.slice p xs.length c]) s xs:=by
 obtain⟨ys,n,rfl,rfl,hl,iM,hf⟩:=DataW.trod_struct Tryz.underlying32 h
 have vt:cs.length=2:=by
  have c:Tryz.prog.cellsOf 32=2:=by kernel_rfl
  rw[c] at hl;exact hl
 have hy2:ys.length=2:=iM
 obtain⟨a,b,rfl⟩:∃ a b,cs=[a,b]:=by
  exact yj vt
 obtain⟨y0,y1,rfl⟩:∃ a b,ys=[a,b]:=by
  exact yj hy2
 have c0:Tryz.prog.cellsOf 4=1:=by kernel_rfl
 have c1:Tryz.prog.cellsOf 30=1:=by kernel_rfl
 have h0:=hf 0 _ rfl
 have h1:=hf 1 _ rfl
 change DataW.trod enc Tryz.prog w 0 (λ_=>true) held n 4 (([a,b].drop 0).take (Tryz.prog.cellsOf 4))=some y0 at h0
 change DataW.trod enc Tryz.prog w 0 (λ_=>true) held n 30 (([a,b].drop 1).take (Tryz.prog.cellsOf 30))=some y1 at h1
 rw[c0] at h0
 rw[c1] at h1
 obtain⟨s,hs,_⟩:=DataW.trod_bool Tryz.underlying4 h0
 obtain⟨p,m,c,xs,hp,hr,hx⟩:=Dp h1
 simp only[List.drop_zero,List.take_succ_cons,List.take_zero,List.cons.injEq,and_true] at hs
 simp only[List.drop_succ_cons,List.drop_zero,List.take_succ_cons,List.take_zero,List.cons.injEq,and_true] at hp
 subst hs hp
 obtain⟨_,_,hv,_,_,dR⟩:=hr.u32
 subst dR
 exact⟨s,p,c,xs,rfl,p,c,rfl,hr,hx⟩
theorem JU {fuel:Nat} {cs:List Value} {x:DataW H×List MemPlace} (h:DataW.trod enc Tryz.prog w 0 (λ_=>true) held fuel 34 cs=some x):∃ s p n c t r m d xs ys,cs=[.bool s,.slice p n c,.bool t,.slice r m d]/\bW w (.agg #[.bool s,.slice p n c,.bool t,.slice r m d]) s xs t ys:=by
 obtain⟨zs,n,rfl,rfl,hl,iM,hf⟩:=DataW.trod_struct Tryz.underlying34 h
 have vt:cs.length=4:=by
  have c:Tryz.prog.cellsOf 34=4:=by kernel_rfl
  rw[c] at hl;exact hl
 have hy2:zs.length=2:=iM
 obtain⟨a,b,a',b',rfl⟩:∃ a b a' b',cs=[a,b,a',b']:=by
  exact JT vt
 obtain⟨y0,y1,rfl⟩:∃ a b,zs=[a,b]:=by
  exact yj hy2
 have c0:Tryz.prog.cellsOf 32=2:=by kernel_rfl
 have h0:=hf 0 _ rfl
 have h1:=hf 1 _ rfl
 change DataW.trod enc Tryz.prog w 0 (λ_=>true) held n 32 (([a,b,a',b'].drop 0).take (Tryz.prog.cellsOf 32))=some y0 at h0
 change DataW.trod enc Tryz.prog w 0 (λ_=>true) held n 32 (([a,b,a',b'].drop 2).take (Tryz.prog.cellsOf 32))=some y1 at h1
 rw[c0] at h0 h1
 obtain⟨s,p,c,xs,e0,n0⟩:=Bd h0
 obtain⟨t,r,d,ys,e1,n1⟩:=Bd h1
 simp only[List.drop_zero,List.take_succ_cons,List.take_zero,List.cons.injEq,and_true] at e0
 simp only[List.drop_succ_cons,List.drop_zero,List.take_succ_cons,List.take_zero,List.cons.injEq,and_true] at e1
 obtain⟨rfl,rfl⟩:=e0
 obtain⟨rfl,rfl⟩:=e1
 exact⟨_,_,_,_,_,_,_,_,xs,ys,rfl,_,_,_,_,rfl,n0,n1⟩
theorem bW.wide {v:Value} {s t:Bool} {xs ys:List Nat} (h:bW w v s xs t ys):aC w v (rq s xs t ys) 9223372036854775807:=by
 obtain⟨p,c,r,d,rfl,h1,h2⟩:=id h
 obtain⟨_,_,_,jA,_⟩:=h1
 obtain⟨_,_,_,jR,_⟩:=h2
 obtain⟨_,_,_,a1,a2,_⟩:=jA.u32
 obtain⟨_,_,_,b1,b2,_⟩:=jR.u32
 exact⟨s,xs,t,ys,h,rfl,by omega,by omega⟩
theorem Dq {α:Type} {p:Nat->α->Prop}:∀ (n:Nat),(∀ i,i<n->∃ q,p i q)->∃ qs:List α,qs.length=n/\∀ (i:Nat) (q:α),qs[i]? =some q->p i q
 | 0,_=>⟨[],rfl,λi q h=>by simp at h⟩
 | n+1,h=>by
   obtain⟨qs,hl,hq⟩:=Dq n (λi hi=>h i aa)
   obtain⟨q,hqn⟩:=h n aa
   refine⟨qs++[q],by simp[hl],λi x hx=> ?_⟩
   by_cases hi:i<n
   ·rw[List.getElem?_append_left aa] at hx
    exact hq i x hx
   ·rw[List.getElem?_append_right aa,hl] at hx
    have:i=n:=by
     have:=(List.getElem?_eq_some_iff.1 hx).1
     simp at this
     omega
    subst this
    simp at hx
    subst hx
    exact hqn
end
section
variable {H:Type} {enc:TypeId×Value->H} {w:World} {held:Bool}
set_option maxRecDepth 100000 in
theorem ES {α:Type} {E:World->List Value->α->Prop} {sz:Nat} {t e:TypeId} (hu:Tryz.prog.underlying t=some (.slice e)) (hc:Tryz.prog.cellsOf e=sz) (qm:0<sz)
  (sI:∀ {fuel:Nat} {cs:List Value} {x:DataW H×List MemPlace},DataW.trod enc Tryz.prog w 0 (λ_=>true) held fuel e cs=some x->∃ a,E w cs a)
  {v:Value} {d:DataW H} {ps:List MemPlace} {r:_root_.Go.Reach} {b0:Nat} (hv:Value.okWide Tryz.prog w r b0 t v) (h:DataW.Trod enc Tryz.prog w 0 (λ_=>true) held t v d ps):∃ es:List α,bP E sz w v es:=by
 obtain⟨p,len,cap,rfl⟩:=WideShapes.okWide_slice hu hv
 obtain⟨fuel,hf⟩:=h
 rcases DataW.trod_slice hu hf with ⟨e,_⟩|⟨a,len',cap',elems,rest,n,_,e,_,_,hl,hm,hle,vD,_⟩
 ·simp[Value.cells] at e
  obtain⟨rfl,rfl,rfl⟩:=e
  exact⟨[],bP.nil _ _ _⟩
 ·simp[Value.cells] at e
  obtain⟨rfl,rfl,rfl⟩:=e
  rw[hc] at vD
  have each:∀ i,i<len->∃ q,∃ b off cs,some a=some ⟨b,off,none⟩/\(∀ (j:Nat) (u:Value),cs[j]? =some u->w.cell? ⟨b,off+i*sz+j,none⟩=some u)/\E w cs q:=by
   intro i hi
   obtain⟨y,hy⟩:∃ y,elems[i]? =some y:=⟨_,List.getElem?_eq_getElem aa⟩
   have hb:=vD i hi
   rw[hy,Option.bind_eq_some_iff] at hb
   obtain⟨cs,hcs,ht⟩:=hb
   obtain⟨q,hq⟩:=sI ht
   obtain⟨_,hlen,hcell⟩:=World.cells?_some hcs
   obtain⟨b,off,spot⟩:=a
   have hspot:spot=none:=by
    obtain⟨y0,Fc⟩:∃ y,elems[0]? =some y:=⟨_,List.getElem?_eq_getElem aa⟩
    have kV:=vD 0 aa
    rw[Fc,Option.bind_eq_some_iff] at kV
    obtain⟨cs0,hcs0,ht0⟩:=kV
    obtain⟨_,hlen0,Dr⟩:=World.cells?_some hcs0
    have h00:=Dr 0 qm
    rw[List.getElem?_eq_getElem aa] at h00
    have g0:=World.cell?_spot h00
    simpa [Addr.add] using g0
   subst hspot
   refine⟨q,b,off,cs,rfl,λj u hj=> ?_,hq⟩
   have hjl:j<sz:=by have:=(List.getElem?_eq_some_iff.1 hj).1;omega
   have:=hcell j hjl
   rw[WideShapes.add_plain,WideShapes.add_plain] at this
   rw[this]
   exact hj
  obtain⟨qs,hql,hqs⟩:=Dq len each
  subst hql
  exact⟨qs,_,_,rfl,hl,hm,λi q hq=>hqs i q hq⟩
end
def lf (q:Rat):Int:=q.num.fmod q.den
theorem den_pos (q:Rat):(0:Int)<q.den:=by have:=q.den_nz;omega
theorem fl_eq (q:Rat):q.num.fdiv q.den=q.floor:=by
 rw[Rat.floor_def,Int.fdiv_eq_ediv_of_nonneg _ (Int.le_of_lt (den_pos q))]
theorem xg (q:Rat):0<=lf q:=by
 unfold lf
 rw[Int.fmod_eq_emod_of_nonneg _ (Int.le_of_lt (den_pos q))]
 exact Int.emod_nonneg _ (by have:=den_pos q;omega)
theorem lf_lt (q:Rat):lf q<q.den:=by
 unfold lf
 rw[Int.fmod_eq_emod_of_nonneg _ (Int.le_of_lt (den_pos q))]
 exact Int.emod_lt_of_pos _ (den_pos q)
end
set_option maxRecDepth 4000
section
open Go.RowKit
attribute [local irreducible] ak VS
theorem Sz.left {q:Rat} {k:Nat} (h:bK q k):Sz (lf q) k:=Sz.le h.2 (by have:=xg q;have:=lf_lt q;omega)
theorem Ds:(0:Rat).floor=0/\lf 0=0/\((0:Rat).den:Int)=1:=by decide+kernel
theorem Be (v:Value) (q:Rat) (k:Nat) (w:World) (hv:aC w v q k) (hk:k<=67108864):
  Calls Tryz.prog 173 #[v] w λe w'=>∃ s1 p1 n1 c1 s2 p2 n2 c2 s3 p3 n3 c3,e=.returned (.tuple #[.agg #[.bool s1,.slice p1 n1 c1],.agg #[.bool s2,.slice p2 n2 c2],.agg #[.bool s3,.slice p3 n3 c3]])/\
   aj w' w.heap.size (.agg #[.bool s1,.slice p1 n1 c1]) q.floor/\bd w' (.agg #[.bool s2,.slice p2 n2 c2]) (lf q)/\bd w' (.agg #[.bool s3,.slice p3 n3 c3]) (q.den:Int)/\aw w w':=by
 have hs:=hv.rk
 obtain⟨s,xs,t,ys,fM,rfl,hx,hy⟩:=hv
 have AU:=fM
 obtain⟨p,c,r,d,rfl,_,_⟩:=fM
 have hu:bV k<=67108864:=by unfold bV;omega
 refine ae (C:=aX Tryz.prog w _) (args:=[_]) Tryz.func173 rfl Tryz.ntmps173 (bG rfl) ?_
 refine ab ?_
 refine VO.call rfl rfl (fk Tryz.func97) (λaO bE ba=>(iI s t xs ys _ aO (AU.kp bE) aa aa).mono ?_)
 rintro e w1 ⟨rfl,aD⟩
 cases hq:sJ s xs t ys
 ·refine aH aD ?_
  intro cj _ bb1
  refine VO.cI rfl rfl (fk Tryz.func40) (λbk bX bF=>lI 1 bk aa aa) (λbk bX bF w2 s2 p2 n2 c2 q2 aP da _ bb2=>wV rfl ?_)
  refine ab ?_
  refine az ?_;intro wz kz bz
  obtain⟨z1,z2,z3⟩:=Ds
  rw[uP hq,z1,z2,z3]
  exact⟨_,_,_,_,_,_,_,_,_,_,_,_,rfl,aj.zero _ _,bd.zero _,q2.kr,bz⟩
 ·refine aH aD ?_
  intro cj _ bb1
  have hr:=uQ AU hq
  refine VO.call rfl rfl (fk Tryz.func147) (λbk bX bF=>(ib _ _ (rq s xs t ys).num ((rq s xs t ys).den:Int) _ _ bk (hr.parts.1.ki hs.1) (hr.parts.2.ki hs.2) aa aa).mono ?_)
  rintro e w2 ⟨hd2,aP⟩
  obtain⟨v2,u2,rfl,h2,h2'⟩:=dI hd2 (by have:=den_pos (rq s xs t ys);omega)
  obtain⟨s2,p2,n2,c2,rfl⟩:=h2.form
  obtain⟨t2,r2,m2,d2,rfl⟩:=h2'.form
  refine⟨_,rfl,aP,λda _ bb2=>wV rfl ?_⟩
  (repeat (first|refine wN ?_|refine wP rfl ?_|refine Gh rfl ?_|refine wO rfl rfl ?_))
  refine VS.uu (cP _ _) (mR _ _) 7 rfl ?_
  (repeat' (first|refine VA.go rfl ?_|refine VA.fin rfl ?_|refine VA.dH _ rfl rfl ?_|refine VA.cons rfl ?_ ?_|exact VA.nil rfl))
  all_goals
   refine ab ?_
   refine az ?_;intro wz kz bz
   exact⟨_,_,_,_,_,_,_,_,_,_,_,_,rfl,((h2.k).cast (fl_eq _)).mono bF.size,h2'.kr,hr.parts.2.k,bz⟩
theorem JV (f:FuncId) (b:Bool) (v:Value) (q:Rat) (k:Nat) (w:World) (hf:jc Tryz.prog f) (hv:aC w v q k) (hk:k<=67108864)
  (hF:∀ (s1:Bool) (p1:Option Addr) (n1 c1:Nat) (s2:Bool) (p2:Option Addr) (n2 c2:Nat) (s3:Bool) (p3:Option Addr) (n3 c3:Nat) (w:World),bd w (.agg #[.bool s1,.slice p1 n1 c1]) q.floor->bd w (.agg #[.bool s2,.slice p2 n2 c2]) (lf q)->bd w (.agg #[.bool s3,.slice p3 n3 c3]) (q.den:Int)->
   Calls Tryz.prog f #[.agg #[.bool s1,.slice p1 n1 c1],.agg #[.bool s2,.slice p2 n2 c2],.agg #[.bool s3,.slice p3 n3 c3]] w λe w'=>e=.returned (.bool b)/\aw w w'):
  Calls Tryz.prog 141 #[v,.func (.func f) #[] #[]] w λe w'=>∃ r,e=.returned r/\aj w' w.heap.size r (if lf q≠0/\b=true then q.floor+1 else q.floor)/\aw w w':=by
 obtain⟨s,p,n,c,t,y,m,d,rfl⟩:=hv.form
 have hs:=hv.rk
 have hu:bV k<=67108864:=by unfold bV;omega
 refine ae (C:=aX Tryz.prog w _) (args:=[_,_]) Tryz.func141 rfl Tryz.ntmps141 (bG rfl) ?_
 refine ab ?_
 refine VO.call rfl rfl (fk Tryz.func173) (λaO bE ba=>(Be _ q k aO hv.k hk).mono ?_)
 rintro e w1 ⟨s1,p1,n1,c1,s2,p2,n2,c2,s3,p3,n3,c3,rfl,q1,q2,q3,aD⟩
 skip
 refine aH aD ?_
 intro cj _ bb1
 refine VO.call rfl rfl (fk Tryz.func112) (λbk bX bF=>(iR _ (lf q) (bV k) bk (q2.ki (Sz.left hs))).mono ?_)
 rintro e w2 ⟨rfl,aP⟩
 by_cases h0:lf q=0
 ·rw[show (lf q).sign=0 by rw[h0];rfl,if_neg (λe=>e.1 h0)]
  refine aH aP ?_
  intro da _ bb2
  refine az ?_;intro wz kz bz
  exact⟨_,rfl,(q1.k).mono ba.size,bz⟩
 ·rw[dp (show 0<lf q by have:=xg q;omega)]
  refine aH aP ?_
  intro da _ bb2
  refine VO.call rfl rfl hf (λcX dh dS=>(hF _ _ _ _ _ _ _ _ _ _ _ _ cX q1.kr q2.k q3.k).mono ?_)
  rintro e w3 ⟨rfl,cw⟩
  cases b with
  | false=>
    rw[if_neg (λe=>by cases e.2)]
    refine aH cw ?_
    intro fi _ bb3
    refine az ?_;intro wz kz bz
    exact⟨_,rfl,(q1.k).mono ba.size,bz⟩
  | true=>
    rw[if_pos ⟨h0,rfl⟩]
    refine aH cw ?_
    intro fi _ bb3
    refine VO.cI rfl rfl (fk Tryz.func40) (λfN ig iV=>lI 1 fN aa aa) (λfN ig iV w4 s4 p4 n4 c4 q4 gi lW _ uI=>wV rfl ?_)
    refine ab ?_
    refine VO.cI rfl rfl (fk Tryz.func95) (λim jl jm=>uA _ _ q.floor 1 (bV k) 1 im (q1.ki (Sz.floor hs)) (q4.ki (Sz.small fq)) aa aa) (λim jl jm w5 s5 p5 n5 c5 q5 ja nZ _ yc=>wV rfl ?_)
    refine ab ?_
    refine az ?_;intro wz kz bz
    exact⟨_,rfl,(q5.k).mono jm.size,bz⟩
theorem yl (s1:Bool) (p1:Option Addr) (n1 c1:Nat) (s2:Bool) (p2:Option Addr) (n2 c2:Nat) (s3:Bool) (p3:Option Addr) (n3 c3:Nat) (w:World):
  Calls Tryz.prog 142 #[.agg #[.bool s1,.slice p1 n1 c1],.agg #[.bool s2,.slice p2 n2 c2],.agg #[.bool s3,.slice p3 n3 c3]] w λe w'=>e=.returned (.bool false)/\aw w w':=by
 refine ae (C:=aX Tryz.prog w _) (args:=[_,_,_]) Tryz.func142 rfl Tryz.ntmps142 (bG rfl) ?_
 refine ab ?_
 refine az ?_;intro wz kz bz
 exact⟨rfl,bz⟩
theorem Bf (v:Value) (q:Rat) (k:Nat) (w:World) (hv:aC w v q k) (hk:k<=67108864):
  Calls Tryz.prog 85 #[v] w λe w'=>∃ r,e=.returned r/\aj w' w.heap.size r q.floor/\aw w w':=by
 obtain⟨s,p,n,c,t,y,m,d,rfl⟩:=hv.form
 refine ae (C:=aX Tryz.prog w _) (args:=[_]) Tryz.func85 rfl Tryz.ntmps85 (bG rfl) ?_
 refine ab ?_
 refine VO.cI rfl rfl (fk Tryz.func141) (λaO bE ba=>JV 142 false _ q k aO (fk Tryz.func142) hv.k hk (λs1 p1 n1 c1 s2 p2 n2 c2 s3 p3 n3 c3 w _ _ _=>yl s1 p1 n1 c1 s2 p2 n2 c2 s3 p3 n3 c3 w)) (λaO bE ba w1 s1 p1 n1 c1 q1 aD cj _ bb1=>wV rfl ?_)
 refine ab ?_
 refine az ?_;intro wz kz bz
 exact⟨_,rfl,((q1.k).cast (if_neg (λe=>by cases e.2))).mono ba.size,bz⟩
end
section
open Go.RowKit
theorem ET (x:Int) (h0:0<=x) (h1:x<18446744073709551616):bits .or .u64 0 x=x:=by
 rw[u64_orv0 0 x aa aa h0 aa h1];omega
section
variable {P:Program}
end
section
variable {C:Cx} {F:Fr} {H:Hp} {w:World} {m:Option (List FuncId)} {full:Array Oper} {K:Fr->Hp->World->Prop} {o:Oper} {r:List Oper}
end
set_option maxRecDepth 4000
theorem JW {X:Int} (h:X.natAbs<4294967296):limbs X.natAbs=if X=0 then [] else [X.natAbs]:=by
 split
 ·rename_i e;rw[e];exact bc
 ·rename_i e
  have:=kY (xs:=[X.natAbs]) (bH.cons h bH.nil) (λx hx=>by simp at hx;omega)
  rw[dV,cZ] at this
  simpa using this
theorem u64_neg (a:Nat) (h:a<4294967296):IntKind.i64.wrap (IntKind.u64.wrap (0-(a:Int)))= -(a:Int):=by
 rw[IntKind.wrap_i64,IntKind.wrap_u64];omega
theorem JX {xs:List Nat} (hl:bH xs) {z x:Nat} (hx:xs[z]? =some x) (hz:z<2):
  bits .or .u64 ((af (xs.take z):Nat):Int) (IntKind.u64.wrap (IntKind.u64.wrap (x:Int)*2^min (IntKind.i64.wrap (32*(z:Int))).toNat 64))=((af (xs.take (z+1)):Nat):Int):=by
 have hxb:=hl.at hx
 have e1:IntKind.u64.wrap (x:Int)=x:=IntWalk.u64_in _ aa
 rw[bm hx,cT,List.length_take,e1]
 have hzl:z<xs.length:=(List.getElem?_eq_some_iff.1 hx).1
 rw[Nat.min_eq_left (show z<=xs.length by omega)]
 match z,hz with
 | 0,_=>
   rw[show IntKind.i64.wrap (32*((0:Nat):Int))=0 by decide]
   simp only[Int.toNat_zero,Nat.zero_min,Int.pow_zero,Int.mul_one,List.take_zero]
   rw[e1,cZ,Int.natCast_zero,ET _ aa aa]
   simp
 | 1,_=>
   have hlow:af (xs.take 1)<4294967296:=by
    have:=fp (hl.take 1)
    rw[List.length_take,Nat.min_eq_left aa] at this
    simpa using this
   rw[show (IntKind.i64.wrap (32*((1:Nat):Int))).toNat=32 by decide,Nat.pow_one]
   show bits BinOp.or IntKind.u64 ((af (List.take 1 xs):Nat):Int) (IntKind.u64.wrap ((x:Int)*2^32))=_
   have e2:(x:Int)*2^32=((x*4294967296:Nat):Int):=by simp
   rw[e2,IntWalk.u64_in _ aa]
   rw[u64_or_nat _ _ aa aa,Nat.or_comm,nat_join 32 _ _ aa aa]
   congr 1;omega
attribute [local irreducible] ak VS
set_option maxRecDepth 10000 in
theorem Dt (v:Value) (X:Int) (k:Nat) (w:World) (hv:bq w v X k) (hX:X.natAbs<4294967296):
  Calls Tryz.prog 84 #[v] w λe w'=>e=.returned (.tuple #[.int .i64 X,.bool true])/\aw w w':=by
 obtain⟨s,p,n,c,rfl⟩:=hv.form
 refine ae (C:=aX Tryz.prog w _) (args:=[_]) Tryz.func84 rfl Tryz.ntmps84 (bG rfl) ?_
 refine ab ?_
 refine VO.call rfl rfl (fk Tryz.func140) (λaO bE ba=>(eh _ X k w aO hv ba).mono ?_)
 rintro e w1 ⟨r1,rfl,q1,aD⟩
 obtain⟨s1,p1,n1,c1,rfl⟩:=q1.fo
 refine aH aD ?_
 intro cj _ bb1
 obtain⟨Ij,jA,-⟩:=q1.parts
 have vv:=q1.IB
 have hl:=JW hX
 obtain⟨a,ha⟩:∃ a,a=X.natAbs:=⟨_,rfl⟩
 rw[<-ha] at hl hX
 have hn:n1<=1/\(n1=0->a=0):=by
  rw[Ij,<-ha,hl]
  split
  ·rename_i e;rw[e] at ha;exact⟨by simp,λ_=>ha⟩
  ·exact⟨by simp,λe=>by simp at e⟩
 refine VS.bo rfl (decide_eq_false (show ¬ (n1:Int)>2 by omega)) ?_
 refine ab ?_
 refine VS.loop (J:=λm L M w'=>∃ z:Nat,z<=n1/\m=n1-z/\L=[(4,.box 4 0),(5,.val (.int .u64 ((if z=0 then 0 else a:Nat):Int))),(17,.val (.slice p1 n1 c1)),(18,.val (.int .i64 (n1:Int))),(19,.val (.int .i64 (z:Int)))]/\
  M=[(4,(222,([.bool s1,.slice p1 n1 c1]:List Value).map .val))]) n1 ⟨_,_,?_,?_,?_,?_,⟨0,by omega,rfl,rfl,rfl⟩⟩ ?_
 ·exact dy
 ·exact dy
 ·rfl
 ·exact jv
 rintro m L M wJ ⟨z,hz,rfl,rfl,rfl⟩
 refine ab ?_
 by_cases hlt:z<n1
 ·obtain⟨b2,o2,x,rfl,aP,ey,kj⟩:=jA.cellAt hlt
  obtain rfl:z=0:=by omega
  obtain rfl:x=a:=by
   rw[<-ha,hl] at ey
   split at ey
   ·simp at ey
   ·simpa using ey.symm
  refine VS.bg rfl (decide_eq_true (Int.ofNat_lt.2 hlt)) ?_
  refine ab ?_
  refine VO.cond rfl ew (wV rfl ?_)
  refine VO.read rfl [.int .u32 (x:Int)] rfl (gf rfl kj) (wV rfl ?_)
  refine ab ?_
  refine VS.back (n1-(0+1)) aa ⟨_,_,?_,?_,?_,?_,⟨0+1,by omega,rfl,rfl,rfl⟩⟩
  ·refine⟨rfl,congrArg (λz=>some (AV.val (.int .u64 z))) ?_,rfl,rfl,?_,trivial⟩
   ·have e1:IntKind.u64.wrap (x:Int)=x:=IntWalk.u64_in _ aa
    show bits .or .u64 0 (IntKind.u64.wrap (IntKind.u64.wrap (x:Int)*2^min (IntKind.i64.wrap (32*0)).toNat 64))=(x:Int)
    rw[show IntKind.i64.wrap (32*0)=0 by decide,e1]
    simp only[Int.toNat_zero,Nat.zero_min,Int.pow_zero,Int.mul_one]
    rw[e1,ET _ aa aa]
   ·rfl
  ·exact dy
  ·rfl
  ·exact jv
 ·obtain rfl:z=n1:=by omega
  refine VS.bo rfl (decide_eq_false (λe=>hlt (Int.ofNat_lt.1 e))) ?_
  rw[show (if z=0 then 0 else a)=a by split;exact (hn.2 ‹_›).symm;rfl]
  obtain⟨A,hA⟩:∃ A:Int,A=(a:Int):=⟨_,rfl⟩
  rw[<-hA]
  cases s1 with
  | true=>
    have hx:X<0:=of_decide_eq_true vv.symm
    refine ab ?_
    refine VS.bg rfl (decide_eq_true (show A<=9223372036854775808 by omega)) ?_
    refine ab ?_
    refine az ?_;intro wz kz bz
    refine⟨congrArg (λz=>Ending.returned (.tuple #[.int .i64 z,.bool true])) ?_,bz⟩
    rw[hA]
    exact (u64_neg a hX).trans aa
  | false=>
    have hx:¬ X<0:=of_decide_eq_false vv.symm
    refine ab ?_
    refine VS.bg rfl (decide_eq_true (show A<9223372036854775808 by omega)) ?_
    refine ab ?_
    refine az ?_;intro wz kz bz
    refine⟨congrArg (λz=>Ending.returned (.tuple #[.int .i64 z,.bool true])) ?_,bz⟩
    exact (IntWalk.i64_in _ aa).trans aa
set_option maxRecDepth 10000 in
theorem Du (v:Value) (X:Int) (k:Nat) (w:World) (hv:bq w v X k):
  Calls Tryz.prog 84 #[v] w λe w'=>∃ n b,e=.returned (.tuple #[.int .i64 n,.bool b])/\(b=true->n=X)/\aw w w':=by
 obtain⟨s,p,n,c,rfl⟩:=hv.form
 refine ae (C:=aX Tryz.prog w _) (args:=[_]) Tryz.func84 rfl Tryz.ntmps84 (bG rfl) ?_
 refine ab ?_
 refine VO.call rfl rfl (fk Tryz.func140) (λaO bE ba=>(eh _ X k w aO hv ba).mono ?_)
 rintro e w1 ⟨r1,rfl,q1,aD⟩
 obtain⟨s1,p1,n1,c1,rfl⟩:=q1.fo
 refine aH aD ?_
 intro cj _ bb1
 obtain⟨Ij,jA,-⟩:=q1.parts
 have vv:=q1.IB
 by_cases Ft:(n1:Int)>2
 ·refine VS.bg rfl (decide_eq_true Ft) ?_
  refine ab ?_
  refine az ?_;intro wz kz bz
  exact⟨_,_,rfl,λh=>(by cases h),bz⟩
 refine VS.bo rfl (decide_eq_false Ft) ?_
 refine ab ?_
 have oh:=ai X.natAbs
 refine VS.loop (J:=λm L M w'=>∃ z:Nat,z<=n1/\m=n1-z/\L=[(4,.box 4 0),(5,.val (.int .u64 ((af ((limbs X.natAbs).take z):Nat):Int))),(17,.val (.slice p1 n1 c1)),(18,.val (.int .i64 (n1:Int))),(19,.val (.int .i64 (z:Int)))]/\
  M=[(4,(222,([.bool s1,.slice p1 n1 c1]:List Value).map .val))]) n1 ⟨_,_,?_,?_,?_,?_,⟨0,by omega,rfl,rfl,rfl⟩⟩ ?_
 ·exact dy
 ·exact dy
 ·rfl
 ·exact jv
 rintro m L M wJ ⟨z,hz,rfl,rfl,rfl⟩
 refine ab ?_
 by_cases hlt:z<n1
 ·obtain⟨b2,o2,x,rfl,aP,ey,kj⟩:=jA.cellAt hlt
  rcases (show z=0\/z=1 by omega) with rfl|rfl
  ·refine VS.bg rfl (decide_eq_true (Int.ofNat_lt.2 hlt)) ?_
   refine ab ?_
   refine VO.cond rfl ew (wV rfl ?_)
   refine VO.read rfl [.int .u32 (x:Int)] rfl (gf rfl kj) (wV rfl ?_)
   refine ab ?_
   refine VS.back (n1-(0+1)) aa ⟨_,_,?_,?_,?_,?_,⟨0+1,by omega,rfl,rfl,rfl⟩⟩
   ·refine⟨rfl,congrArg (λz=>some (AV.val (.int .u64 z))) (JX oh ey aa),rfl,rfl,?_,trivial⟩
    rfl
   ·exact dy
   ·rfl
   ·exact jv
  ·refine VS.bg rfl (decide_eq_true (Int.ofNat_lt.2 hlt)) ?_
   refine ab ?_
   refine VO.cond rfl ew (wV rfl ?_)
   refine VO.read rfl [.int .u32 (x:Int)] rfl (gf rfl kj) (wV rfl ?_)
   refine ab ?_
   refine VS.back (n1-(1+1)) aa ⟨_,_,?_,?_,?_,?_,⟨1+1,by omega,rfl,rfl,rfl⟩⟩
   ·refine⟨rfl,congrArg (λz=>some (AV.val (.int .u64 z))) (JX oh ey aa),rfl,rfl,?_,trivial⟩
    rfl
   ·exact dy
   ·rfl
   ·exact jv
 ·obtain rfl:z=n1:=by omega
  refine VS.bo rfl (decide_eq_false (λe=>hlt (Int.ofNat_lt.1 e))) ?_
  have og:af ((limbs X.natAbs).take z)=X.natAbs:=by rw[aV aa,ag]
  have hmax:X.natAbs<18446744073709551616:=by
   have:=fp oh
   rw[ag] at this
   refine Nat.lt_of_lt_of_le this (Nat.le_trans (Nat.pow_le_pow_right aa (show (limbs X.natAbs).length<=2 by omega)) fq)
  obtain⟨A,hA⟩:∃ A:Int,A=((af ((limbs X.natAbs).take z):Nat):Int):=⟨_,rfl⟩
  rw[<-hA]
  rw[og] at hA
  cases s1 with
  | true=>
    have hx:X<0:=of_decide_eq_true vv.symm
    refine ab ?_
    by_cases hc:A<=9223372036854775808
    ·refine VS.bg rfl (decide_eq_true hc) ?_
     refine ab ?_
     refine az ?_;intro wz kz bz
     refine⟨_,_,rfl,λ_=> ?_,bz⟩
     rw[IntKind.wrap_i64,IntKind.wrap_u64];omega
    ·refine VS.bo rfl (decide_eq_false hc) ?_
     refine ab ?_
     refine az ?_;intro wz kz bz
     exact⟨_,_,rfl,λh=>(by cases h),bz⟩
  | false=>
    have hx:¬ X<0:=of_decide_eq_false vv.symm
    refine ab ?_
    by_cases hc:A<9223372036854775808
    ·refine VS.bg rfl (decide_eq_true hc) ?_
     refine ab ?_
     refine az ?_;intro wz kz bz
     exact⟨_,_,rfl,λ_=>(IntWalk.i64_in _ aa).trans aa,bz⟩
    ·refine VS.bo rfl (decide_eq_false hc) ?_
     refine ab ?_
     refine az ?_;intro wz kz bz
     exact⟨_,_,rfl,λh=>(by cases h),bz⟩
end
set_option maxRecDepth 4000
section
open Go.RowKit
attribute [local irreducible] ak VS
def Bg (kk:Nat) (w:World) (cs:List Value) (a:Bool×Rat):Prop:=∃ s p c t r d xs ys,cs=[Value.bool s,.slice p (List.length xs) c,.bool t,.slice r (List.length ys) d]/\
 bW w (.agg #[.bool s,.slice p xs.length c,.bool t,.slice r ys.length d]) s xs t ys/\a=(sJ s xs t ys,rq s xs t ys)/\xs.length<=kk/\ys.length<=kk
theorem qd (kk:Nat):gj (Bg kk) 4 where
 kp:=λ⟨s,p,c,t,r,d,xs,ys,e,h,r'⟩ k=>⟨s,p,c,t,r,d,xs,ys,e,h.kp k,r'⟩
 len:=λ⟨_,_,_,_,_,_,_,_,e,_⟩=>by rw[e];rfl
 ok:=λ⟨_,_,_,_,_,_,_,_,e,_⟩=>by rw[e];rfl
def jr (a:Bool×Rat):Bool:=a.1 && decide (a.2.den=1)
theorem sign_ne {z:Int}:(z.sign != 0)= !decide (z=0):=by
 by_cases h:z=0
 ·rw[h,decide_eq_true rfl];rfl
 ·rw[decide_eq_false h]
  have:z.sign≠0:=λe=>h (Int.sign_eq_zero_iff_zero.1 e)
  simpa using this
theorem GB (kk:Nat) (hkk:kk<=1000000) (cs:List Value) (a:Bool×Rat) (w:World) (h:Bg kk w cs a):
  Calls Tryz.prog 139 #[.agg cs.toArray] w λe w'=>e=.returned (.bool (!jr a))/\aw w w':=by
 obtain⟨s,p,c,t,r,d,xs,ys,rfl,fM,rfl,hx,hy⟩:=h
 refine ae (C:=aX Tryz.prog w _) (args:=[_]) Tryz.func139 rfl Tryz.ntmps139 (bG rfl) ?_
 refine ab ?_
 refine VO.call rfl rfl (fk Tryz.func97) (λaO bE ba=>(iI s t xs ys _ aO (fM.kp bE) aa aa).mono ?_)
 rintro e w1 ⟨rfl,aD⟩
 cases hq:sJ s xs t ys
 ·refine aH aD ?_
  intro cj _ bb1
  refine az ?_;intro wz kz bz
  exact⟨rfl,bz⟩
 ·refine aH aD ?_
  intro cj _ bb1
  have hr:=uQ fM hq
  have hs:bK (rq s xs t ys) (bV kk):=(fM.in hx hy).rk
  have hu:bV kk<=1000000:=by unfold bV;omega
  refine VO.cI rfl rfl (fk Tryz.func40) (λbk bX bF=>lI 1 bk aa aa) (λbk bX bF w2 s2 p2 n2 c2 q2 aP da _ bb2=>wV rfl ?_)
  refine ab ?_
  refine VO.cB rfl rfl (fk Tryz.func51) (λcX dh dS=>kH _ _ ((rq s xs t ys).den:Int) 1 (bV kk) 1 cX (hr.parts.2.ki hs.2) (q2.ki (Sz.small fq)) aa aa) (λcX dh dS w3 cw fi _ bb3=>wV rfl ?_)
  refine ab ?_
  refine az ?_;intro wz kz bz
  refine⟨congrArg (λb=>Ending.returned (.bool b)) ?_,bz⟩
  show ((((rq s xs t ys).den:Int)-1).sign != 0)=(!(true && decide ((rq s xs t ys).den=1)))
  rw[sign_ne,Bool.true_and]
  congr 1
  rw[decide_eq_decide];omega
theorem Dv (g:FuncId) (P:Bool×Rat->Bool) (kk:Nat) (kg:jc Tryz.prog g) (hg:∀ (cs:List Value) (a:Bool×Rat) (w:World),Bg kk w cs a->Calls Tryz.prog g #[.agg cs.toArray] w λe w'=>e=.returned (.bool (P a))/\aw w w') (v:Value) (es:List (Bool×Rat)) (w:World) (hv:bP (Bg kk) 4 w v es):
  Calls Tryz.prog 172 #[v,.func (.func g) #[] #[]] w λe w'=>∃ r,e=.returned (.int .i64 r)/\decide (r>=0)=es.any P/\aw w w':=by
 obtain⟨p,c,rfl,dW,eJ⟩:=hv.form
 obtain⟨N,hN⟩:∃ N,N=es.length:=⟨_,rfl⟩
 rw[<-hN] at hv dW ⊢
 refine ae (C:=aX Tryz.prog w _) (args:=[_,_]) Tryz.func172 rfl Tryz.ntmps172 (bG rfl) ?_
 refine ab ?_
 refine VS.loop (J:=λmm L M w'=>∃ z:Nat,z<=N/\mm=N-z/\L=[(0,.val (.slice p N c)),(1,.val (.func (.func g) #[] #[])),(7,.val (.int .i64 (N:Int))),(8,.val (.int .i64 (z:Int)))]/\M=[]/\(es.take z).any P=false) N ⟨_,_,?_,?_,?_,?_,⟨0,by omega,rfl,rfl,rfl,rfl⟩⟩ ?_
 ·exact dy
 ·exact dy
 ·rfl
 ·exact jv
 rintro mm L M wJ ⟨z,hz,rfl,rfl,rfl,hno⟩
 refine ab ?_
 by_cases hlt:z<N
 ·obtain⟨a,hx⟩:∃ x,es[z]? =some x:=⟨_,List.getElem?_eq_getElem aa⟩
  obtain⟨b,off,cs,rfl,hc,he⟩:=hv.at hx
  have BR:=he
  obtain⟨s,p1,c1,t,r,d,xs,ys,rfl,-⟩:=BR
  refine VS.bg rfl (decide_eq_true (Int.ofNat_lt.2 hlt)) ?_
  refine ab ?_
  refine VO.cond rfl ew ?_
  refine wV rfl ?_
  refine ab ?_
  refine VO.read rfl [.bool s,.slice p1 xs.length c1,.bool t,.slice r ys.length d] rfl (λj u hj=>by rw[Addr.add_mid,Int.toNat_natCast];exact hc j u hj) (wV rfl ?_)
  refine VO.call rfl rfl kg (λaO bE ba=>(hg _ a aO ((qd kk).kp he (Kp.of (U:=UU) ba))).mono ?_)
  rintro e w1 ⟨rfl,aD⟩
  cases hP:P a with
  | true=>
    refine aH aD ?_
    intro cj _ bb1
    refine az ?_;intro wz kz bz
    refine⟨_,rfl,?_,bz⟩
    rw[List.any_eq_true.2 ⟨a,List.mem_of_getElem? hx,hP⟩,decide_eq_true aa]
  | false=>
    refine aH aD ?_
    intro cj _ bb1
    refine VS.back (N-(z+1)) aa ⟨_,_,?_,?_,?_,?_,⟨z+1,by omega,rfl,rfl,rfl,?_⟩⟩
    ·refine⟨rfl,rfl,rfl,?_,trivial⟩
     rw[<-bA aa];rfl
    ·exact dy
    ·rfl
    ·exact jv
    ·rw[bm hx,List.any_append,hno];simp[hP]
 ·refine VS.bo rfl (decide_eq_false (λe=>hlt (Int.ofNat_lt.1 e))) ?_
  obtain rfl:z=N:=by omega
  refine ab ?_
  refine az ?_;intro wz kz bz
  rw[List.take_of_length_le aa] at hno
  exact⟨_,rfl,by rw[hno];rfl,bz⟩
theorem uV (g:FuncId) (P:Bool×Rat->Bool) (kk:Nat) (kg:jc Tryz.prog g) (hg:∀ (cs:List Value) (a:Bool×Rat) (w:World),Bg kk w cs a->Calls Tryz.prog g #[.agg cs.toArray] w λe w'=>e=.returned (.bool (P a))/\aw w w') (v:Value) (es:List (Bool×Rat)) (w:World) (hv:bP (Bg kk) 4 w v es):
  Calls Tryz.prog 138 #[v,.func (.func g) #[] #[]] w λe w'=>e=.returned (.bool (es.any P))/\aw w w':=by
 obtain⟨p,c,rfl,dW,eJ⟩:=hv.form
 refine ae (C:=aX Tryz.prog w _) (args:=[_,_]) Tryz.func138 rfl Tryz.ntmps138 (bG rfl) ?_
 refine ab ?_
 refine VO.call rfl rfl (fk Tryz.func172) (λaO bE ba=>(Dv g P kk kg hg _ es aO (hv.bt (qd kk) ba)).mono ?_)
 rintro e w1 ⟨r1,rfl,h1,aD⟩
 refine aH aD ?_
 intro cj _ bb1
 refine az ?_;intro wz kz bz
 exact⟨congrArg (λb=>Ending.returned (.bool b)) h1,bz⟩
theorem Bh {α:Type} (l:List α) (f:α->Bool):(!l.any λa=> !f a)=l.all f:=by
 induction l with
 | nil=>rfl
 | cons x r ih=>rw[List.any_cons,List.all_cons,<-ih];cases f x <;> simp
theorem vP (v:Value) (es:List (Bool×Rat)) (kk:Nat) (w:World) (hv:bP (Bg kk) 4 w v es) (hkk:kk<=1000000):
  Calls Tryz.prog 83 #[v] w λe w'=>e=.returned (.bool (es.all jr))/\aw w w':=by
 obtain⟨p,c,rfl,dW,eJ⟩:=hv.form
 refine ae (C:=aX Tryz.prog w _) (args:=[_]) Tryz.func83 rfl Tryz.ntmps83 (bG rfl) ?_
 refine ab ?_
 refine VO.cB rfl rfl (fk Tryz.func138) (λaO bE ba=>uV 139 (λa=> !jr a) kk (fk Tryz.func139) (GB kk hkk) _ es aO (hv.bt (qd kk) ba)) (λaO bE ba w1 aD cj _ bb1=>wV rfl ?_)
 refine ab ?_
 refine az ?_;intro wz kz bz
 exact⟨congrArg (λb=>Ending.returned (.bool b)) (Bh es jr),bz⟩
end
section
open Go.RowKit
structure Pt where
 b:Rat
 s:Rat
 d:Rat
 i:Rat
theorem Pt.ext' {x y:Pt} (h1:x.b=y.b) (h2:x.s=y.s) (h3:x.d=y.d) (h4:x.i=y.i):x=y:=by
 cases x;cases y;simp_all
def Pt.zero:Pt:=⟨0,0,0,0⟩
def Pt.add (x y:Pt):Pt:=⟨x.b+y.b,x.s+y.s,x.d+y.d,x.i+y.i⟩
def Bi (k:Nat) (t:Rat):Rat:=if k=1\/k=3\/k=8\/k=10 then t else if k=2\/k=4\/k=5\/k=6\/k=7\/k=9\/k=11 then-t else 0
def Bj (k:Nat) (t a:Rat):Rat:=if k=1 then t else if k=10 then t else if k=2 then-t else if k=7 then-t else if k=4 then t*a-t else if k=5 then (if jw t a>0 then-a else-t) else 0
def JY (k:Nat) (t:Rat):Rat:=if k=7 then t else 0
def JZ (k:Nat) (t:Rat):Rat:=if k=8 then-t else if k=9 then t else 0
def xh (k:Nat) (t a:Rat):Pt:=⟨Bi k t,Bj k t a,JY k t,JZ k t⟩
abbrev Ka:=Nat×Rat×Rat
def Kb (x:Ka):Pt:=xh x.1 x.2.2 x.2.1
def Dw (l:List Pt):Pt:=l.foldl Pt.add Pt.zero
def bn (l:List Ka):Pt:=Dw (l.map Kb)
theorem GC (l:List Pt) (x:Pt):Dw (l++[x])=(Dw l).add x:=by unfold Dw;rw[List.foldl_append];rfl
theorem qe {l:List Ka} {i:Nat} {x:Ka} (h:l[i]? =some x):bn (l.take (i+1))=(bn (l.take i)).add (Kb x):=by
 unfold bn;rw[bm h,List.map_append];exact GC _ _
theorem add_zero' (x:Pt):x.add Pt.zero=x:=Pt.ext' (Rat.add_zero _) (Rat.add_zero _) (Rat.add_zero _) (Rat.add_zero _)
theorem xj (x:Pt):Pt.zero.add x=x:=Pt.ext' (Rat.zero_add _) (Rat.zero_add _) (Rat.zero_add _) (Rat.zero_add _)
theorem Dx (x y z:Pt):(x.add y).add z=x.add (y.add z):=Pt.ext' (Rat.add_assoc _ _ _) (Rat.add_assoc _ _ _) (Rat.add_assoc _ _ _) (Rat.add_assoc _ _ _)
theorem GD (l:List Pt):∀ x,l.foldl Pt.add x=x.add (Dw l):=by
 induction l with
 | nil=>intro x;exact (add_zero' x).symm
 | cons y r ih=>
   intro x
   show r.foldl Pt.add (x.add y)=x.add (r.foldl Pt.add (Pt.zero.add y))
   rw[ih,ih (Pt.zero.add y),xj,Dx]
theorem GF (x:Pt) (l:List Pt):Dw (x::l)=x.add (Dw l):=by
 show l.foldl Pt.add (Pt.zero.add x)=_
 rw[GD,xj]
structure yL (x:Pt) (k:Nat):Prop where
 b:bK x.b k
 s:bK x.s k
 d:bK x.d k
 i:bK x.i k
theorem yL.mono {x:Pt} {k l:Nat} (h:yL x k) (hk:k<=l):yL x l:=⟨h.b.mono hk,h.s.mono hk,h.d.mono hk,h.i.mono hk⟩
theorem yL.zero:yL Pt.zero 1:=⟨bK.zero,bK.zero,bK.zero,bK.zero⟩
theorem yL.add {x y:Pt} {k l:Nat} (h:yL x k) (h':yL y l):yL (x.add y) (k+l+1):=⟨h.b.add h'.b,h.s.add h'.s,h.d.add h'.d,h.i.add h'.i⟩
theorem EU {k:Nat} {t a:Rat} {j:Nat} (ht:bK t j) (ha:bK a j) (hj:1<=j):yL (xh k t a) (3*j+1):=by
 have h0:bK 0 (3*j+1):=bK.zero.mono aa
 have h1:bK t (3*j+1):=ht.mono aa
 have h2:bK (-t) (3*j+1):=h1.neg
 have h3:bK (-a) (3*j+1):=(ha.mono aa).neg
 have h4:bK (t*a-t) (3*j+1):=((ht.mul ha).sub ht).mono aa
 refine⟨?_,?_,?_,?_⟩
 ·show bK (Bi k t) _;unfold Bi;split <;> first|assumption|(split <;> assumption)
 ·show bK (Bj k t a) _;unfold Bj;repeat' (split <;> first|assumption|skip)
 ·show bK (JY k t) _;unfold JY;split <;> assumption
 ·show bK (JZ k t) _;unfold JZ;split <;> first|assumption|(split <;> assumption)
def fD (j n:Nat):Nat:=1+n*(3*j+2)
theorem Bk (j n:Nat):fD j (n+1)=fD j n+(3*j+1)+1:=by unfold fD;rw[Nat.add_mul,Nat.one_mul];omega
theorem GG {j m n:Nat} (h:m<=n):fD j m<=fD j n:=by unfold fD;have:=Nat.mul_le_mul_right (3*j+2) h;omega
theorem oQ {j:Nat} (hj:1<=j):∀ (l:List Ka),(∀ x∈l,bK x.2.1 j/\bK x.2.2 j)->yL (bn l) (fD j l.length):=by
 intro l
 induction l with
 | nil=>intro _;exact yL.zero.mono (by simp[fD])
 | cons x r ih=>
   intro h
   have e:bn (x::r)=(Kb x).add (bn r):=GF _ _
   rw[e,List.length_cons,Bk]
   have h1:yL (Kb x) (3*j+1):=EU (h x cS).2 (h x cS).1 hj
   exact (h1.add (ih λy hy=>h y (by simp[hy]))).mono aa
def dN (w:World) (v:Value) (P:Pt):Prop:=∃ s1 p1 n1 c1 t1 y1 m1 d1 s2 p2 n2 c2 t2 y2 m2 d2 s3 p3 n3 c3 t3 y3 m3 d3 s4 p4 n4 c4 t4 y4 m4 d4,
 v=.agg #[.bool s1,.slice p1 n1 c1,.bool t1,.slice y1 m1 d1,.bool s2,.slice p2 n2 c2,.bool t2,.slice y2 m2 d2,.bool s3,.slice p3 n3 c3,.bool t3,.slice y3 m3 d3,.bool s4,.slice p4 n4 c4,.bool t4,.slice y4 m4 d4]/\
 aQ w (.agg #[.bool s1,.slice p1 n1 c1,.bool t1,.slice y1 m1 d1]) P.b/\aQ w (.agg #[.bool s2,.slice p2 n2 c2,.bool t2,.slice y2 m2 d2]) P.s/\aQ w (.agg #[.bool s3,.slice p3 n3 c3,.bool t3,.slice y3 m3 d3]) P.d/\aQ w (.agg #[.bool s4,.slice p4 n4 c4,.bool t4,.slice y4 m4 d4]) P.i
def PtIn (w:World) (v:Value) (P:Pt) (k:Nat):Prop:=∃ s1 p1 n1 c1 t1 y1 m1 d1 s2 p2 n2 c2 t2 y2 m2 d2 s3 p3 n3 c3 t3 y3 m3 d3 s4 p4 n4 c4 t4 y4 m4 d4,
 v=.agg #[.bool s1,.slice p1 n1 c1,.bool t1,.slice y1 m1 d1,.bool s2,.slice p2 n2 c2,.bool t2,.slice y2 m2 d2,.bool s3,.slice p3 n3 c3,.bool t3,.slice y3 m3 d3,.bool s4,.slice p4 n4 c4,.bool t4,.slice y4 m4 d4]/\
 aC w (.agg #[.bool s1,.slice p1 n1 c1,.bool t1,.slice y1 m1 d1]) P.b k/\aC w (.agg #[.bool s2,.slice p2 n2 c2,.bool t2,.slice y2 m2 d2]) P.s k/\aC w (.agg #[.bool s3,.slice p3 n3 c3,.bool t3,.slice y3 m3 d3]) P.d k/\aC w (.agg #[.bool s4,.slice p4 n4 c4,.bool t4,.slice y4 m4 d4]) P.i k
theorem dN.kp {U:TypeId} {T:TypeId->Bool} {w w':World} {v:Value} {P:Pt} (h:dN w v P) (k:aR ⟨U,λ_=>True,T⟩ w w'):dN w' v P:=by
 obtain⟨s1,p1,n1,c1,t1,y1,m1,d1,s2,p2,n2,c2,t2,y2,m2,d2,s3,p3,n3,c3,t3,y3,m3,d3,s4,p4,n4,c4,t4,y4,m4,d4,hv,h1,h2,h3,h4⟩:=h
 exact⟨_,_,_,_,_,_,_,_,_,_,_,_,_,_,_,_,_,_,_,_,_,_,_,_,_,_,_,_,_,_,_,_,hv,h1.kp k,h2.kp k,h3.kp k,h4.kp k⟩
theorem dN.to {w:World} {v:Value} {P:Pt} {j:Nat} (h:dN w v P) (hs:yL P j):PtIn w v P j:=by
 obtain⟨s1,p1,n1,c1,t1,y1,m1,d1,s2,p2,n2,c2,t2,y2,m2,d2,s3,p3,n3,c3,t3,y3,m3,d3,s4,p4,n4,c4,t4,y4,m4,d4,hv,h1,h2,h3,h4⟩:=h
 exact⟨_,_,_,_,_,_,_,_,_,_,_,_,_,_,_,_,_,_,_,_,_,_,_,_,_,_,_,_,_,_,_,_,hv,h1.to hs.b,h2.to hs.s,h3.to hs.d,h4.to hs.i⟩
theorem dN.cast {w:World} {v:Value} {P P':Pt} (h:dN w v P) (e:P=P'):dN w v P':=e▸h
theorem dN.mk {w:World} {s1 t1 s2 t2 s3 t3 s4 t4:Bool} {p1 y1 p2 y2 p3 y3 p4 y4:Option Addr} {n1 c1 m1 d1 n2 c2 m2 d2 n3 c3 m3 d3 n4 c4 m4 d4:Nat} {b s d i:Rat}
  (h1:aQ w (.agg #[.bool s1,.slice p1 n1 c1,.bool t1,.slice y1 m1 d1]) b) (h2:aQ w (.agg #[.bool s2,.slice p2 n2 c2,.bool t2,.slice y2 m2 d2]) s) (h3:aQ w (.agg #[.bool s3,.slice p3 n3 c3,.bool t3,.slice y3 m3 d3]) d) (h4:aQ w (.agg #[.bool s4,.slice p4 n4 c4,.bool t4,.slice y4 m4 d4]) i):
  dN w (.agg #[.bool s1,.slice p1 n1 c1,.bool t1,.slice y1 m1 d1,.bool s2,.slice p2 n2 c2,.bool t2,.slice y2 m2 d2,.bool s3,.slice p3 n3 c3,.bool t3,.slice y3 m3 d3,.bool s4,.slice p4 n4 c4,.bool t4,.slice y4 m4 d4]) ⟨b,s,d,i⟩:=
 ⟨_,_,_,_,_,_,_,_,_,_,_,_,_,_,_,_,_,_,_,_,_,_,_,_,_,_,_,_,_,_,_,_,rfl,h1,h2,h3,h4⟩
def mc (kk:Nat) (w:World) (cs:List Value) (x:Ka):Prop:=∃ s1 p1 n1 c1 t1 y1 m1 d1 s2 p2 n2 c2 t2 y2 m2 d2,
 cs=[.int .u8 (x.1:Int),.bool s1,.slice p1 n1 c1,.bool t1,.slice y1 m1 d1,.bool s2,.slice p2 n2 c2,.bool t2,.slice y2 m2 d2]/\x.1<256/\
 aC w (.agg #[.bool s1,.slice p1 n1 c1,.bool t1,.slice y1 m1 d1]) x.2.1 kk/\aC w (.agg #[.bool s2,.slice p2 n2 c2,.bool t2,.slice y2 m2 d2]) x.2.2 kk
theorem cQ (kk:Nat):gj (mc kk) 9 where
 kp:=λh k=>by
  obtain⟨s1,p1,n1,c1,t1,y1,m1,d1,s2,p2,n2,c2,t2,y2,m2,d2,hv,h0,h1,h2⟩:=h
  exact⟨_,_,_,_,_,_,_,_,_,_,_,_,_,_,_,_,hv,h0,h1.kp k,h2.kp k⟩
 len:=λh=>by
  obtain⟨s1,p1,n1,c1,t1,y1,m1,d1,s2,p2,n2,c2,t2,y2,m2,d2,rfl,_⟩:=h
  rfl
 ok:=λh=>by
  obtain⟨s1,p1,n1,c1,t1,y1,m1,d1,s2,p2,n2,c2,t2,y2,m2,d2,rfl,_⟩:=h
  rfl
theorem mc.sz {kk:Nat} {w:World} {cs:List Value} {x:Ka} (h:mc kk w cs x) (hk:1<=kk):bK x.2.1 kk/\bK x.2.2 kk:=by
 obtain⟨s1,p1,n1,c1,t1,y1,m1,d1,s2,p2,n2,c2,t2,y2,m2,d2,rfl,h0,h1,h2⟩:=h
 exact⟨h1.sz hk,h2.sz hk⟩
theorem slin_sz {kk:Nat} {w:World} {v:Value} {l:List Ka} (h:bP (mc kk) 9 w v l) (hk:1<=kk):∀ x∈l,bK x.2.1 kk/\bK x.2.2 kk:=λx hx=>by
 obtain⟨i,hi⟩:=List.getElem?_of_mem hx
 obtain⟨p,c,rfl,_⟩:=h.form
 obtain⟨b,off,cs,_,_,he⟩:=h.at hi
 exact he.sz hk
end
set_option maxRecDepth 4000
section
open Go.RowKit
attribute [local irreducible] ak VS
theorem eZ (w:World):Calls Tryz.prog 50 #[] w λe w'=>∃ r,e=.returned r/\aI w' w.heap.size r 0/\aw w w':=by
 refine ae (C:=aX Tryz.prog w _) (args:=[]) Tryz.func50 rfl Tryz.ntmps50 (bG rfl) ?_
 refine ab ?_
 refine VO.cR rfl rfl (fk Tryz.func11) (λaO bE ba=>bO 0 aO aa aa) (λaO bE ba w1 s1 p1 n1 c1 t1 y1 m1 d1 q1 aD cj _ bb1=>wV rfl ?_)
 refine ab ?_
 refine az ?_;intro wz kz bz
 exact⟨_,rfl,((q1.kp kz).mono ba.size).cast rfl,bz⟩
theorem xk (w:World):Calls Tryz.prog 47 #[] w λe w'=>∃ r,e=.returned r/\dN w' r Pt.zero/\aw w w':=by
 refine ae (C:=aX Tryz.prog w _) (args:=[]) Tryz.func47 rfl Tryz.ntmps47 (bG rfl) ?_
 refine ab ?_
 refine VO.cR rfl rfl (fk Tryz.func50) (λaO bE ba=>eZ aO) (λaO bE ba w1 s1 p1 n1 c1 t1 y1 m1 d1 q1 aD cj _ bb1=>wV rfl ?_)
 refine ab ?_
 refine VO.cR rfl rfl (fk Tryz.func50) (λbk bX bF=>eZ bk) (λbk bX bF w2 s2 p2 n2 c2 t2 y2 m2 d2 q2 aP da _ bb2=>wV rfl ?_)
 refine ab ?_
 refine VO.cR rfl rfl (fk Tryz.func50) (λcX dh dS=>eZ cX) (λcX dh dS w3 s3 p3 n3 c3 t3 y3 m3 d3 q3 cw fi _ bb3=>wV rfl ?_)
 refine ab ?_
 refine VO.cR rfl rfl (fk Tryz.func50) (λfN ig iV=>eZ fN) (λfN ig iV w4 s4 p4 n4 c4 t4 y4 m4 d4 q4 gi lW _ uI=>wV rfl ?_)
 refine ab ?_
 refine az ?_;intro wz kz bz
 exact⟨_,rfl,dN.mk (q1.kp cg).rd (q2.kp cg).rd (q3.kp cg).rd (q4.kp cg).rd,bz⟩
theorem gL (v u:Value) (T A:Rat) (w:World) (hv:aQ w v T) (hu:aQ w u A):
  Calls Tryz.prog 104 #[v,u] w λe w'=>∃ r,e=.returned r/\dN w' r ⟨T,A,0,0⟩/\aw w w':=by
 obtain⟨s8,p8,n8,c8,t8,y8,m8,d8,rfl⟩:=hv.form
 obtain⟨s9,p9,n9,c9,t9,y9,m9,d9,rfl⟩:=hu.form
 refine ae (C:=aX Tryz.prog w _) (args:=[_,_]) Tryz.func104 rfl Tryz.ntmps104 (bG rfl) ?_
 refine ab ?_
 refine VO.call rfl rfl (fk Tryz.func47) (λaO bE ba=>(xk aO).mono ?_)
 rintro e w1 ⟨r1,rfl,q1,aD⟩
 obtain⟨s1a,p1a,n1a,c1a,t1a,y1a,m1a,d1a,s1b,p1b,n1b,c1b,t1b,y1b,m1b,d1b,s1c,p1c,n1c,c1c,t1c,y1c,m1c,d1c,s1d,p1d,n1d,c1d,t1d,y1d,m1d,d1d,rfl,q1A,q1B,q1C,q1D⟩:=q1
 refine⟨_,rfl,aD,λcj _ bb1=>wV rfl ?_⟩
 (repeat (first|refine wN ?_|refine wP rfl ?_|refine Gh rfl ?_|refine wO rfl rfl ?_))
 refine VS.uu (cP _ _) (mR _ _) 6 rfl ?_
 (repeat' (first|refine VA.go rfl ?_|refine VA.fin rfl ?_|refine VA.dH _ rfl rfl ?_|refine VA.cons rfl ?_ ?_|exact VA.nil rfl))
 all_goals
  refine ab ?_
  refine az ?_;intro wz kz bz
  exact⟨_,rfl,dN.mk (hv.kp (Kp.of (U:=UU) bz)) (hu.kp (Kp.of (U:=UU) bz)) (q1C.kp cg) (q1D.kp cg),bz⟩
theorem sa (v u:Value) (T A:Rat) (j:Nat) (w:World) (hv:aQ w v T) (hu:aQ w u A) (hs:bK T j) (ha:bK A j) (hj:j<=1000000):
  Calls Tryz.prog 100 #[v,u] w λe w'=>∃ r,e=.returned r/\dN w' r ⟨T,T,0,0⟩/\aw w w':=by
 obtain⟨s8,p8,n8,c8,t8,y8,m8,d8,rfl⟩:=hv.form
 obtain⟨s9,p9,n9,c9,t9,y9,m9,d9,rfl⟩:=hu.form
 have hT:aC w (.agg #[.bool s8,.slice p8 n8 c8,.bool t8,.slice y8 m8 d8]) T j:=hv.to hs
 have hA:aC w (.agg #[.bool s9,.slice p9 n9 c9,.bool t9,.slice y9 m9 d9]) A j:=hu.to ha
 refine ae (C:=aX Tryz.prog w _) (args:=[_,_]) Tryz.func100 rfl Tryz.ntmps100 (bG rfl) ?_
 refine ab ?_
 refine VO.call rfl rfl (fk Tryz.func104) (λaO bE ba=>(gL _ _ _ _ aO (hv.kp (Kp.of (U:=UU) ba)) (hv.kp (Kp.of (U:=UU) ba))).mono ?_)
 rintro e w1 ⟨r1,rfl,q1,aD⟩
 obtain⟨s1a,p1a,n1a,c1a,t1a,y1a,m1a,d1a,s1b,p1b,n1b,c1b,t1b,y1b,m1b,d1b,s1c,p1c,n1c,c1c,t1c,y1c,m1c,d1c,s1d,p1d,n1d,c1d,t1d,y1d,m1d,d1d,rfl,q1A,q1B,q1C,q1D⟩:=q1
 refine aH aD ?_
 intro cj _ bb1
 refine az ?_;intro wz kz bz
 exact⟨_,rfl,dN.mk (q1A.kp cg) (q1B.kp cg) (q1C.kp cg) (q1D.kp cg),bz⟩
theorem uW (v u:Value) (T A:Rat) (j:Nat) (w:World) (hv:aQ w v T) (hu:aQ w u A) (hs:bK T j) (ha:bK A j) (hj:j<=1000000):
  Calls Tryz.prog 101 #[v,u] w λe w'=>∃ r,e=.returned r/\dN w' r ⟨-T,-T,0,0⟩/\aw w w':=by
 obtain⟨s8,p8,n8,c8,t8,y8,m8,d8,rfl⟩:=hv.form
 obtain⟨s9,p9,n9,c9,t9,y9,m9,d9,rfl⟩:=hu.form
 have hT:aC w (.agg #[.bool s8,.slice p8 n8 c8,.bool t8,.slice y8 m8 d8]) T j:=hv.to hs
 have hA:aC w (.agg #[.bool s9,.slice p9 n9 c9,.bool t9,.slice y9 m9 d9]) A j:=hu.to ha
 refine ae (C:=aX Tryz.prog w _) (args:=[_,_]) Tryz.func101 rfl Tryz.ntmps101 (bG rfl) ?_
 refine ab ?_
 refine VO.cR rfl rfl (fk Tryz.func46) (λaO bE ba=>eu _ _ _ aO (hT.kp (Kp.of (U:=UU) ba)) aa) (λaO bE ba w1 s1 p1 n1 c1 t1 y1 m1 d1 q1 aD cj _ bb1=>wV rfl ?_)
 refine ab ?_
 refine VO.cR rfl rfl (fk Tryz.func46) (λbk bX bF=>eu _ _ _ bk (hT.kp (Kp.of (U:=UU) bF)) aa) (λbk bX bF w2 s2 p2 n2 c2 t2 y2 m2 d2 q2 aP da _ bb2=>wV rfl ?_)
 refine ab ?_
 refine VO.call rfl rfl (fk Tryz.func104) (λcX dh dS=>(gL _ _ _ _ cX ((q1.kp cg).rd) ((q2.kp cg).rd)).mono ?_)
 rintro e w3 ⟨r3,rfl,q3,cw⟩
 obtain⟨s3a,p3a,n3a,c3a,t3a,y3a,m3a,d3a,s3b,p3b,n3b,c3b,t3b,y3b,m3b,d3b,s3c,p3c,n3c,c3c,t3c,y3c,m3c,d3c,s3d,p3d,n3d,c3d,t3d,y3d,m3d,d3d,rfl,q3A,q3B,q3C,q3D⟩:=q3
 refine aH cw ?_
 intro fi _ bb3
 refine az ?_;intro wz kz bz
 exact⟨_,rfl,dN.mk (q3A.kp cg) (q3B.kp cg) (q3C.kp cg) (q3D.kp cg),bz⟩
theorem mY (v u:Value) (T A:Rat) (j:Nat) (w:World) (hv:aQ w v T) (hu:aQ w u A) (hs:bK T j) (ha:bK A j) (hj:j<=1000000):
  Calls Tryz.prog 102 #[v,u] w λe w'=>∃ r,e=.returned r/\dN w' r ⟨-T,0,0,0⟩/\aw w w':=by
 obtain⟨s8,p8,n8,c8,t8,y8,m8,d8,rfl⟩:=hv.form
 obtain⟨s9,p9,n9,c9,t9,y9,m9,d9,rfl⟩:=hu.form
 have hT:aC w (.agg #[.bool s8,.slice p8 n8 c8,.bool t8,.slice y8 m8 d8]) T j:=hv.to hs
 have hA:aC w (.agg #[.bool s9,.slice p9 n9 c9,.bool t9,.slice y9 m9 d9]) A j:=hu.to ha
 refine ae (C:=aX Tryz.prog w _) (args:=[_,_]) Tryz.func102 rfl Tryz.ntmps102 (bG rfl) ?_
 refine ab ?_
 refine VO.cR rfl rfl (fk Tryz.func46) (λaO bE ba=>eu _ _ _ aO (hT.kp (Kp.of (U:=UU) ba)) aa) (λaO bE ba w1 s1 p1 n1 c1 t1 y1 m1 d1 q1 aD cj _ bb1=>wV rfl ?_)
 refine ab ?_
 refine VO.cR rfl rfl (fk Tryz.func50) (λbk bX bF=>eZ bk) (λbk bX bF w2 s2 p2 n2 c2 t2 y2 m2 d2 q2 aP da _ bb2=>wV rfl ?_)
 refine ab ?_
 refine VO.call rfl rfl (fk Tryz.func104) (λcX dh dS=>(gL _ _ _ _ cX ((q1.kp cg).rd) ((q2.kp cg).rd)).mono ?_)
 rintro e w3 ⟨r3,rfl,q3,cw⟩
 obtain⟨s3a,p3a,n3a,c3a,t3a,y3a,m3a,d3a,s3b,p3b,n3b,c3b,t3b,y3b,m3b,d3b,s3c,p3c,n3c,c3c,t3c,y3c,m3c,d3c,s3d,p3d,n3d,c3d,t3d,y3d,m3d,d3d,rfl,q3A,q3B,q3C,q3D⟩:=q3
 refine aH cw ?_
 intro fi _ bb3
 refine az ?_;intro wz kz bz
 exact⟨_,rfl,dN.mk (q3A.kp cg) (q3B.kp cg) (q3C.kp cg) (q3D.kp cg),bz⟩
theorem Bl (v u:Value) (T A:Rat) (j:Nat) (w:World) (hv:aQ w v T) (hu:aQ w u A) (hs:bK T j) (ha:bK A j) (hj:j<=1000000):
  Calls Tryz.prog 103 #[v,u] w λe w'=>∃ r,e=.returned r/\dN w' r ⟨T,0,0,0⟩/\aw w w':=by
 obtain⟨s8,p8,n8,c8,t8,y8,m8,d8,rfl⟩:=hv.form
 obtain⟨s9,p9,n9,c9,t9,y9,m9,d9,rfl⟩:=hu.form
 have hT:aC w (.agg #[.bool s8,.slice p8 n8 c8,.bool t8,.slice y8 m8 d8]) T j:=hv.to hs
 have hA:aC w (.agg #[.bool s9,.slice p9 n9 c9,.bool t9,.slice y9 m9 d9]) A j:=hu.to ha
 refine ae (C:=aX Tryz.prog w _) (args:=[_,_]) Tryz.func103 rfl Tryz.ntmps103 (bG rfl) ?_
 refine ab ?_
 refine VO.cR rfl rfl (fk Tryz.func50) (λaO bE ba=>eZ aO) (λaO bE ba w1 s1 p1 n1 c1 t1 y1 m1 d1 q1 aD cj _ bb1=>wV rfl ?_)
 refine ab ?_
 refine VO.call rfl rfl (fk Tryz.func104) (λbk bX bF=>(gL _ _ _ _ bk (hv.kp (Kp.of (U:=UU) bF)) ((q1.kp cg).rd)).mono ?_)
 rintro e w2 ⟨r2,rfl,q2,aP⟩
 obtain⟨s2a,p2a,n2a,c2a,t2a,y2a,m2a,d2a,s2b,p2b,n2b,c2b,t2b,y2b,m2b,d2b,s2c,p2c,n2c,c2c,t2c,y2c,m2c,d2c,s2d,p2d,n2d,c2d,t2d,y2d,m2d,d2d,rfl,q2A,q2B,q2C,q2D⟩:=q2
 refine aH aP ?_
 intro da _ bb2
 refine az ?_;intro wz kz bz
 exact⟨_,rfl,dN.mk (q2A.kp cg) (q2B.kp cg) (q2C.kp cg) (q2D.kp cg),bz⟩
theorem Bm (v u:Value) (T A:Rat) (j:Nat) (w:World) (hv:aQ w v T) (hu:aQ w u A) (hs:bK T j) (ha:bK A j) (hj:j<=1000000):
  Calls Tryz.prog 105 #[v,u] w λe w'=>∃ r,e=.returned r/\dN w' r ⟨-T,-(T*(1-A)),0,0⟩/\aw w w':=by
 obtain⟨s8,p8,n8,c8,t8,y8,m8,d8,rfl⟩:=hv.form
 obtain⟨s9,p9,n9,c9,t9,y9,m9,d9,rfl⟩:=hu.form
 have hT:aC w (.agg #[.bool s8,.slice p8 n8 c8,.bool t8,.slice y8 m8 d8]) T j:=hv.to hs
 have hA:aC w (.agg #[.bool s9,.slice p9 n9 c9,.bool t9,.slice y9 m9 d9]) A j:=hu.to ha
 refine ae (C:=aX Tryz.prog w _) (args:=[_,_]) Tryz.func105 rfl Tryz.ntmps105 (bG rfl) ?_
 refine ab ?_
 refine VO.cR rfl rfl (fk Tryz.func46) (λaO bE ba=>eu _ _ _ aO (hT.kp (Kp.of (U:=UU) ba)) aa) (λaO bE ba w1 s1 p1 n1 c1 t1 y1 m1 d1 q1 aD cj _ bb1=>wV rfl ?_)
 refine ab ?_
 refine VO.cR rfl rfl (fk Tryz.func11) (λbk bX bF=>bO 1 bk aa aa) (λbk bX bF w2 s2 p2 n2 c2 t2 y2 m2 d2 q2 aP da _ bb2=>wV rfl ?_)
 refine ab ?_
 have z2:bK ((1:Int):Rat) 1:=bK.one
 refine VO.cR rfl rfl (fk Tryz.func14) (λcX dh dS=>jn _ _ _ _ 1 j cX ((q2.kp cg).in z2) (hA.kp (Kp.of (U:=UU) dS)) aa aa) (λcX dh dS w3 s3 p3 n3 c3 t3 y3 m3 d3 q3 cw fi _ bb3=>wV rfl ?_)
 refine ab ?_
 have z3:bK (((1:Int):Rat)-A) (1+j+1):=z2.sub ha
 refine VO.cR rfl rfl (fk Tryz.func106) (λfN ig iV=>uR _ _ _ _ j (1+j+1) fN (hT.kp (Kp.of (U:=UU) iV)) ((q3.kp cg).in z3) aa aa) (λfN ig iV w4 s4 p4 n4 c4 t4 y4 m4 d4 q4 gi lW _ uI=>wV rfl ?_)
 refine ab ?_
 have z4:bK (T*(((1:Int):Rat)-A)) (j+(1+j+1)):=hs.mul z3
 refine VO.cR rfl rfl (fk Tryz.func46) (λim jl jm=>eu _ _ (j+(1+j+1)) im ((q4.kp cg).in z4) aa) (λim jl jm w5 s5 p5 n5 c5 t5 y5 m5 d5 q5 ja nZ _ yc=>wV rfl ?_)
 refine ab ?_
 refine VO.call rfl rfl (fk Tryz.func104) (λoN ql tn=>(gL _ _ _ _ oN ((q1.kp cg).rd) ((q5.kp cg).rd)).mono ?_)
 rintro e w6 ⟨r6,rfl,q6,td⟩
 obtain⟨s6a,p6a,n6a,c6a,t6a,y6a,m6a,d6a,s6b,p6b,n6b,c6b,t6b,y6b,m6b,d6b,s6c,p6c,n6c,c6c,t6c,y6c,m6c,d6c,s6d,p6d,n6d,c6d,t6d,y6d,m6d,d6d,rfl,q6A,q6B,q6C,q6D⟩:=q6
 refine aH td ?_
 intro vx _ Gq
 refine az ?_;intro wz kz bz
 exact⟨_,rfl,dN.cast (dN.mk (q6A.kp cg) (q6B.kp cg) (q6C.kp cg) (q6D.kp cg)) rfl,bz⟩
theorem Bn (v u:Value) (T A:Rat) (j:Nat) (w:World) (hv:aQ w v T) (hu:aQ w u A) (hs:bK T j) (ha:bK A j) (hj:j<=1000000):
  Calls Tryz.prog 107 #[v,u] w λe w'=>∃ r,e=.returned r/\dN w' r ⟨-T,-(gm jN T [A]),0,0⟩/\aw w w':=by
 obtain⟨s8,p8,n8,c8,t8,y8,m8,d8,rfl⟩:=hv.form
 obtain⟨s9,p9,n9,c9,t9,y9,m9,d9,rfl⟩:=hu.form
 have hT:aC w (.agg #[.bool s8,.slice p8 n8 c8,.bool t8,.slice y8 m8 d8]) T j:=hv.to hs
 have hA:aC w (.agg #[.bool s9,.slice p9 n9 c9,.bool t9,.slice y9 m9 d9]) A j:=hu.to ha
 refine ae (C:=aX Tryz.prog w _) (args:=[_,_]) Tryz.func107 rfl Tryz.ntmps107 (bG rfl) ?_
 refine ab ?_
 refine VO.cR rfl rfl (fk Tryz.func46) (λaO bE ba=>eu _ _ _ aO (hT.kp (Kp.of (U:=UU) ba)) aa) (λaO bE ba w1 s1 p1 n1 c1 t1 y1 m1 d1 q1 aD cj _ bb1=>wV rfl ?_)
 refine ab ?_
 refine VO.ia rfl (fk Tryz.func108) (λbk β bX bF ho=>(Dm _ _ T [A] j bk (hT.kp (Kp.of (U:=UU) bF)) (iW (ho.own 9 (.base (List.mem_singleton.2 rfl)) _ _ rfl) [] (vs:=[[.bool s9,.slice p9 n9 c9,.bool t9,.slice y9 m9 d9]]) (by rfl) rfl (ea.cons (hA.kp (Kp.of (U:=UU) bF)) ea.nil) (bG rfl) fq) aa (bG rfl)).mono ?_)
 rintro e w2 ⟨r2,rfl,q2,z2,aP⟩
 obtain⟨s2,p2,n2,c2,t2,y2,m2,d2,rfl⟩:=q2.form
 refine aH aP ?_
 intro da _ bb2
 have z2':bK (gm jN T [A]) j:=by
  have e:gm jN T [A]=if jN A T=true then A else T:=rfl
  rw[e];split <;> assumption
 refine VO.cR rfl rfl (fk Tryz.func46) (λcX dh dS=>eu _ _ j cX ((q2.kp cg).in z2') aa) (λcX dh dS w3 s3 p3 n3 c3 t3 y3 m3 d3 q3 cw fi _ bb3=>wV rfl ?_)
 refine ab ?_
 refine VO.call rfl rfl (fk Tryz.func104) (λfN ig iV=>(gL _ _ _ _ fN ((q1.kp cg).rd) ((q3.kp cg).rd)).mono ?_)
 rintro e w4 ⟨r4,rfl,q4,gi⟩
 obtain⟨s4a,p4a,n4a,c4a,t4a,y4a,m4a,d4a,s4b,p4b,n4b,c4b,t4b,y4b,m4b,d4b,s4c,p4c,n4c,c4c,t4c,y4c,m4c,d4c,s4d,p4d,n4d,c4d,t4d,y4d,m4d,d4d,rfl,q4A,q4B,q4C,q4D⟩:=q4
 refine aH gi ?_
 intro lW _ uI
 refine az ?_;intro wz kz bz
 exact⟨_,rfl,dN.mk (q4A.kp cg) (q4B.kp cg) (q4C.kp cg) (q4D.kp cg),bz⟩
theorem Kc (v u:Value) (T A:Rat) (j:Nat) (w:World) (hv:aQ w v T) (hu:aQ w u A) (hs:bK T j) (ha:bK A j) (hj:j<=1000000):
  Calls Tryz.prog 109 #[v,u] w λe w'=>∃ r,e=.returned r/\dN w' r ⟨-T,-T,T,0⟩/\aw w w':=by
 obtain⟨s8,p8,n8,c8,t8,y8,m8,d8,rfl⟩:=hv.form
 obtain⟨s9,p9,n9,c9,t9,y9,m9,d9,rfl⟩:=hu.form
 have hT:aC w (.agg #[.bool s8,.slice p8 n8 c8,.bool t8,.slice y8 m8 d8]) T j:=hv.to hs
 have hA:aC w (.agg #[.bool s9,.slice p9 n9 c9,.bool t9,.slice y9 m9 d9]) A j:=hu.to ha
 refine ae (C:=aX Tryz.prog w _) (args:=[_,_]) Tryz.func109 rfl Tryz.ntmps109 (bG rfl) ?_
 refine ab ?_
 refine VO.call rfl rfl (fk Tryz.func101) (λaO bE ba=>(uW _ _ _ _ j aO (hv.kp (Kp.of (U:=UU) ba)) (hu.kp (Kp.of (U:=UU) ba)) hs ha hj).mono ?_)
 rintro e w1 ⟨r1,rfl,q1,aD⟩
 obtain⟨s1a,p1a,n1a,c1a,t1a,y1a,m1a,d1a,s1b,p1b,n1b,c1b,t1b,y1b,m1b,d1b,s1c,p1c,n1c,c1c,t1c,y1c,m1c,d1c,s1d,p1d,n1d,c1d,t1d,y1d,m1d,d1d,rfl,q1A,q1B,q1C,q1D⟩:=q1
 refine aH aD ?_
 intro cj _ bb1
 refine az ?_;intro wz kz bz
 exact⟨_,rfl,dN.mk (q1A.kp cg) (q1B.kp cg) (hv.kp (Kp.of (U:=UU) bz)) (q1D.kp cg),bz⟩
theorem Dy (v u:Value) (T A:Rat) (j:Nat) (w:World) (hv:aQ w v T) (hu:aQ w u A) (hs:bK T j) (ha:bK A j) (hj:j<=1000000):
  Calls Tryz.prog 110 #[v,u] w λe w'=>∃ r,e=.returned r/\dN w' r ⟨T,0,0,-T⟩/\aw w w':=by
 obtain⟨s8,p8,n8,c8,t8,y8,m8,d8,rfl⟩:=hv.form
 obtain⟨s9,p9,n9,c9,t9,y9,m9,d9,rfl⟩:=hu.form
 have hT:aC w (.agg #[.bool s8,.slice p8 n8 c8,.bool t8,.slice y8 m8 d8]) T j:=hv.to hs
 have hA:aC w (.agg #[.bool s9,.slice p9 n9 c9,.bool t9,.slice y9 m9 d9]) A j:=hu.to ha
 refine ae (C:=aX Tryz.prog w _) (args:=[_,_]) Tryz.func110 rfl Tryz.ntmps110 (bG rfl) ?_
 refine ab ?_
 refine VO.cR rfl rfl (fk Tryz.func50) (λaO bE ba=>eZ aO) (λaO bE ba w1 s1 p1 n1 c1 t1 y1 m1 d1 q1 aD cj _ bb1=>wV rfl ?_)
 refine ab ?_
 refine VO.call rfl rfl (fk Tryz.func104) (λbk bX bF=>(gL _ _ _ _ bk (hv.kp (Kp.of (U:=UU) bF)) ((q1.kp cg).rd)).mono ?_)
 rintro e w2 ⟨r2,rfl,q2,aP⟩
 obtain⟨s2a,p2a,n2a,c2a,t2a,y2a,m2a,d2a,s2b,p2b,n2b,c2b,t2b,y2b,m2b,d2b,s2c,p2c,n2c,c2c,t2c,y2c,m2c,d2c,s2d,p2d,n2d,c2d,t2d,y2d,m2d,d2d,rfl,q2A,q2B,q2C,q2D⟩:=q2
 refine aH aP ?_
 intro da _ bb2
 refine VO.cR rfl rfl (fk Tryz.func46) (λcX dh dS=>eu _ _ _ cX (hT.kp (Kp.of (U:=UU) dS)) aa) (λcX dh dS w3 s3 p3 n3 c3 t3 y3 m3 d3 q3 cw fi _ bb3=>wV rfl ?_)
 refine ab ?_
 refine az ?_;intro wz kz bz
 exact⟨_,rfl,dN.mk (q2A.kp cg) (q2B.kp cg) (q2C.kp cg) (q3.kp cg).rd,bz⟩
theorem Bo (v u:Value) (T A:Rat) (j:Nat) (w:World) (hv:aQ w v T) (hu:aQ w u A) (hs:bK T j) (ha:bK A j) (hj:j<=1000000):
  Calls Tryz.prog 111 #[v,u] w λe w'=>∃ r,e=.returned r/\dN w' r ⟨-T,0,0,T⟩/\aw w w':=by
 obtain⟨s8,p8,n8,c8,t8,y8,m8,d8,rfl⟩:=hv.form
 obtain⟨s9,p9,n9,c9,t9,y9,m9,d9,rfl⟩:=hu.form
 have hT:aC w (.agg #[.bool s8,.slice p8 n8 c8,.bool t8,.slice y8 m8 d8]) T j:=hv.to hs
 have hA:aC w (.agg #[.bool s9,.slice p9 n9 c9,.bool t9,.slice y9 m9 d9]) A j:=hu.to ha
 refine ae (C:=aX Tryz.prog w _) (args:=[_,_]) Tryz.func111 rfl Tryz.ntmps111 (bG rfl) ?_
 refine ab ?_
 refine VO.call rfl rfl (fk Tryz.func102) (λaO bE ba=>(mY _ _ _ _ j aO (hv.kp (Kp.of (U:=UU) ba)) (hu.kp (Kp.of (U:=UU) ba)) hs ha hj).mono ?_)
 rintro e w1 ⟨r1,rfl,q1,aD⟩
 obtain⟨s1a,p1a,n1a,c1a,t1a,y1a,m1a,d1a,s1b,p1b,n1b,c1b,t1b,y1b,m1b,d1b,s1c,p1c,n1c,c1c,t1c,y1c,m1c,d1c,s1d,p1d,n1d,c1d,t1d,y1d,m1d,d1d,rfl,q1A,q1B,q1C,q1D⟩:=q1
 refine aH aD ?_
 intro cj _ bb1
 refine az ?_;intro wz kz bz
 exact⟨_,rfl,dN.mk (q1A.kp cg) (q1B.kp cg) (q1C.kp cg) (hv.kp (Kp.of (U:=UU) bz)),bz⟩
set_option maxRecDepth 4000
def ym:List (Value×FuncId):=[(.int .u8 1,100),(.int .u8 10,100),(.int .u8 2,101),(.int .u8 6,102),(.int .u8 11,102),(.int .u8 3,103),(.int .u8 4,105),(.int .u8 5,107),(.int .u8 7,109),(.int .u8 8,110),(.int .u8 9,111)]
abbrev mZ:List MapEntry:=mQ 0 ym
theorem Dz (w:World):Calls Tryz.prog 48 #[] w λe w'=>∃ b,e=.returned (.map (some b))/\w'.heap[b]? =some (.map mZ.toArray 11)/\aw w w':=by
 refine ae (C:=aX Tryz.prog w _) (args:=[]) Tryz.func48 rfl Tryz.ntmps48 (bG rfl) ?_
 refine wQ ?_
 refine Gh rfl ?_
 refine wN ?_
 refine wQ ?_
 refine VS.mapLitN (cP _ _) (t:=116) (kt:=5) (d:=.int .u8) 11 ym (by rfl) (by rfl) (by rfl) (by rfl) (by exact bG rfl) Tryz.underlying116 Tryz.underlying5 ?_ ?_ (λw1 b k1 b1 h1=>wV rfl ?_)
 ·repeat' (first|exact trivial|refine⟨rfl,rfl,rfl,?_⟩)
 ·repeat' (first|exact trivial|refine⟨rfl,rfl,?_⟩)
 refine ab ?_
 refine az ?_;intro wz kz bz
 exact⟨b,rfl,kz.map b _ _ h1,bz⟩
def gg (g:FuncId) (k:Nat):Prop:=∀ (v u:Value) (T A:Rat) (j:Nat) (w:World),aQ w v T->aQ w u A->bK T j->bK A j->j<=1000000->
    Calls Tryz.prog g #[v,u] w λe w'=>∃ r,e=.returned r/\dN w' r (xh k T A)/\aw w w'
theorem gg.of {g:FuncId} {k:Nat} (P:Rat->Rat->Pt) (e:∀ T A,P T A=xh k T A) (h:∀ (v u:Value) (T A:Rat) (j:Nat) (w:World),aQ w v T->aQ w u A->bK T j->bK A j->j<=1000000->
 Calls Tryz.prog g #[v,u] w λe w'=>∃ r,e=.returned r/\dN w' r (P T A)/\aw w w'):gg g k:=λv u T A j w h1 h2 h3 h4 h5=>by rw[<-e];exact h v u T A j w h1 h2 h3 h4 h5
theorem GH (T A:Rat): -(T*(1-A))=T*A-T:=by grind
theorem GI (T A:Rat): -(gm jN T [A])=if jw T A>0 then-A else-T:=by
 have e:gm jN T [A]=if jN A T=true then A else T:=rfl
 rw[e]
 by_cases h:A<T
 ·have h2:jw T A>0:=nJ.1 (show JN T A=true from nJ.2 h) |> λ_=>of_decide_eq_true (nJ.2 h)
  rw[if_pos (xf.2 h),if_pos h2]
 ·have h2:¬ jw T A>0:=λe=>h (nJ.1 (decide_eq_true e))
  rw[if_neg (λe=>h (xf.1 e)),if_neg h2]
theorem GJ (k:Nat):(∃ idx g,Instr.findNow (.int .u8) (.int .u8 (k:Int)) mZ.toArray.toList 0=some (some (idx,.func (.func g) #[] #[]))/\jc Tryz.prog g/\gg g k)\/(Instr.findNow (.int .u8) (.int .u8 (k:Int)) mZ.toArray.toList 0=some none/\∀ t a,xh k t a=Pt.zero):=by
 have h:k=1\/k=10\/k=2\/k=6\/k=11\/k=3\/k=4\/k=5\/k=7\/k=8\/k=9\/¬ (k=1\/k=10\/k=2\/k=6\/k=11\/k=3\/k=4\/k=5\/k=7\/k=8\/k=9):=by omega
 rcases h with rfl|rfl|rfl|rfl|rfl|rfl|rfl|rfl|rfl|rfl|rfl|h
 ·exact .inl ⟨_,_,rfl,(fk Tryz.func100),gg.of (λT A=>⟨T,T,0,0⟩) (λT A=>rfl) sa⟩
 ·exact .inl ⟨_,_,rfl,(fk Tryz.func100),gg.of (λT A=>⟨T,T,0,0⟩) (λT A=>rfl) sa⟩
 ·exact .inl ⟨_,_,rfl,(fk Tryz.func101),gg.of (λT A=>⟨-T,-T,0,0⟩) (λT A=>rfl) uW⟩
 ·exact .inl ⟨_,_,rfl,(fk Tryz.func102),gg.of (λT A=>⟨-T,0,0,0⟩) (λT A=>rfl) mY⟩
 ·exact .inl ⟨_,_,rfl,(fk Tryz.func102),gg.of (λT A=>⟨-T,0,0,0⟩) (λT A=>rfl) mY⟩
 ·exact .inl ⟨_,_,rfl,(fk Tryz.func103),gg.of (λT A=>⟨T,0,0,0⟩) (λT A=>rfl) Bl⟩
 ·exact .inl ⟨_,_,rfl,(fk Tryz.func105),gg.of (λT A=>⟨-T,-(T*(1-A)),0,0⟩) (λT A=>Pt.ext' rfl (GH T A) rfl rfl) Bm⟩
 ·exact .inl ⟨_,_,rfl,(fk Tryz.func107),gg.of (λT A=>⟨-T,-(gm jN T [A]),0,0⟩) (λT A=>Pt.ext' rfl (GI T A) rfl rfl) Bn⟩
 ·exact .inl ⟨_,_,rfl,(fk Tryz.func109),gg.of (λT A=>⟨-T,-T,T,0⟩) (λT A=>rfl) Kc⟩
 ·exact .inl ⟨_,_,rfl,(fk Tryz.func110),gg.of (λT A=>⟨T,0,0,-T⟩) (λT A=>rfl) Dy⟩
 ·exact .inl ⟨_,_,rfl,(fk Tryz.func111),gg.of (λT A=>⟨-T,0,0,T⟩) (λT A=>rfl) Bo⟩
 ·refine .inr ⟨?_,λt a=> ?_⟩
  ·have n1:((k:Int) == 1)=false:=by rw[beq_eq_false_iff_ne];omega
   have n2:((k:Int) == 2)=false:=by rw[beq_eq_false_iff_ne];omega
   have n3:((k:Int) == 3)=false:=by rw[beq_eq_false_iff_ne];omega
   have n4:((k:Int) == 4)=false:=by rw[beq_eq_false_iff_ne];omega
   have n5:((k:Int) == 5)=false:=by rw[beq_eq_false_iff_ne];omega
   have n6:((k:Int) == 6)=false:=by rw[beq_eq_false_iff_ne];omega
   have n7:((k:Int) == 7)=false:=by rw[beq_eq_false_iff_ne];omega
   have n8:((k:Int) == 8)=false:=by rw[beq_eq_false_iff_ne];omega
   have n9:((k:Int) == 9)=false:=by rw[beq_eq_false_iff_ne];omega
   have n10:((k:Int) == 10)=false:=by rw[beq_eq_false_iff_ne];omega
   have n11:((k:Int) == 11)=false:=by rw[beq_eq_false_iff_ne];omega
   simp only[mZ,ym,mQ,List.toList_toArray,Instr.findNow,Instr.sameNow,if_true,n1,n2,n3,n4,n5,n6,n7,n8,n9,n10,n11]
  ·refine Pt.ext' ?_ ?_ ?_ ?_
   ·show Bi k t=0;unfold Bi;rw[if_neg aa,if_neg aa]
   ·show Bj k t a=0;unfold Bj;rw[if_neg aa,if_neg aa,if_neg aa,if_neg aa,if_neg aa,if_neg aa]
   ·show JY k t=0;unfold JY;rw[if_neg aa]
   ·show JZ k t=0;unfold JZ;rw[if_neg aa,if_neg aa]
theorem Bp {cs l:List Value} (h:Value.agg cs.toArray=.agg l.toArray):cs=l:=by
 injection h with h
 simpa using congrArg Array.toList h
theorem Bq {P Q:Prop} (h:Q) (i:Q->P:=by intro h;(repeat first|refine wN ?_|refine wP rfl ?_|refine cxA_r rfl ?_|refine cxA_d rfl ?_|refine wO rfl rfl ?_);exact h):P:=i h
set_option maxRecDepth 4000 in
theorem DA (g:Nat) (cs:List Value) (v:Value) (A P:Pt) (k l:Nat) (w:World) (hc:aW w g 115 cs.toArray) (hA:dN w (.agg cs.toArray) A) (hP:PtIn w v P l) (hs:yL A k) (hk:k<=67108864) (hl:l<=67108864):
  Calls Tryz.prog 49 #[.pointer (some ⟨g,0,none⟩),v] w λe w'=>∃ ds:List Value,e=.returned (.tuple #[])/\yz [g] w w'/\aW w' g 115 ds.toArray/\ds.all aL=true/\dN w' (.agg ds.toArray) (A.add P):=by
 obtain⟨s8a,p8a,n8a,c8a,t8a,y8a,m8a,d8a,s8b,p8b,n8b,c8b,t8b,y8b,m8b,d8b,s8c,p8c,n8c,c8c,t8c,y8c,m8c,d8c,s8d,p8d,n8d,c8d,t8d,y8d,m8d,d8d,hcs,q8A,q8B,q8C,q8D⟩:=hA
 obtain rfl:=Bp hcs
 obtain⟨s9a,p9a,n9a,c9a,t9a,y9a,m9a,d9a,s9b,p9b,n9b,c9b,t9b,y9b,m9b,d9b,s9c,p9c,n9c,c9c,t9c,y9c,m9c,d9c,s9d,p9d,n9d,c9d,t9d,y9d,m9d,d9d,rfl,q9A,q9B,q9C,q9D⟩:=hP
 refine Ap Tryz.prog w _ (KU UU) (λt=>Nat.beq t 30) table (λ_ _=>trivial) (us:=[_]) Tryz.func49 rfl Tryz.ntmps49 (bG rfl) hc rfl rfl ?_
 refine Bq ?_
 refine VO.cR rfl rfl (fk Tryz.func13) (λaO bE ba=>dw _ _ A.b P.b k l aO ((q8A.kp cg).to hs.b) (q9A.kp cg) hk hl) (λaO bE ba w1 s1 p1 n1 c1 t1 y1 m1 d1 q1 aD cj _ bb1=>wV rfl ?_)
 refine Bq ?_
 refine VO.cR rfl rfl (fk Tryz.func13) (λbk bX bF=>dw _ _ A.s P.s k l bk ((q8B.kp cg).to hs.s) (q9B.kp cg) hk hl) (λbk bX bF w2 s2 p2 n2 c2 t2 y2 m2 d2 q2 aP da _ bb2=>wV rfl ?_)
 refine Bq ?_
 refine VO.cR rfl rfl (fk Tryz.func13) (λcX dh dS=>dw _ _ A.d P.d k l cX ((q8C.kp cg).to hs.d) (q9C.kp cg) hk hl) (λcX dh dS w3 s3 p3 n3 c3 t3 y3 m3 d3 q3 cw fi _ bb3=>wV rfl ?_)
 refine Bq ?_
 refine VO.cR rfl rfl (fk Tryz.func13) (λfN ig iV=>dw _ _ A.i P.i k l fN ((q8D.kp cg).to hs.i) (q9D.kp cg) hk hl) (λfN ig iV w4 s4 p4 n4 c4 t4 y4 m4 d4 q4 gi lW _ uI=>wV rfl ?_)
 refine Bq ?_
 refine VS.fin (CM _ _) rfl (λwz β kz oz en=> ?_)
 exact⟨_,rfl,oz.1,own1 (en.own 104 _ _ rfl) rfl,rfl,dN.mk (q1.kp cg).rd (q2.kp cg).rd (q3.kp cg).rd (q4.kp cg).rd⟩
set_option maxRecDepth 4000
set_option maxRecDepth 4000 in
theorem xl (v:Value) (l:List Ka) (kk:Nat) (w:World) (hv:bP (mc kk) 9 w v l) (oW:1<=kk) (hkk:kk<=1000000) (hsz:fD kk l.length<=60000000):
  Calls Tryz.prog 15 #[v] w λe w'=>∃ r,e=.returned r/\dN w' r (bn l)/\aw w w':=by
 obtain⟨p,c,rfl,dW,eJ⟩:=hv.form
 have hszs:=slin_sz hv oW
 obtain⟨N,hN⟩:∃ N,N=l.length:=⟨_,rfl⟩
 rw[<-hN] at hv dW hsz ⊢
 refine ae (C:=aX Tryz.prog w _) (args:=[_]) Tryz.func15 rfl Tryz.ntmps15 (bG rfl) ?_
 refine ab ?_
 refine VO.call rfl rfl (fk Tryz.func47) (λaO bE ba=>(xk aO).mono ?_)
 rintro e w1 ⟨r1,rfl,q1,aD⟩
 obtain⟨s1a,p1a,n1a,c1a,t1a,y1a,m1a,d1a,s1b,p1b,n1b,c1b,t1b,y1b,m1b,d1b,s1c,p1c,n1c,c1c,t1c,y1c,m1c,d1c,s1d,p1d,n1d,c1d,t1d,y1d,m1d,d1d,rfl,q1r⟩:=q1;have q1:=dN.mk q1r.1 q1r.2.1 q1r.2.2.1 q1r.2.2.2
 refine aH aD ?_
 intro cj _ bb1
 refine VO.call rfl rfl (fk Tryz.func48) (λbk bX bF=>(Dz bk).mono ?_)
 rintro e w2 ⟨b2,rfl,m2,aP⟩
 skip
 refine aH aP ?_
 intro da _ bb2
 refine VS.loop (J:=λm L M w'=>∃ (z:Nat) (cs:List Value),z<=N/\m=N-z/\L=[(2,.box 2 0),(3,.box 11 0),(4,.val (.map (some b2))),(13,.val (.slice p N c)),(14,.val (.int .i64 (N:Int))),(15,.val (.int .i64 (z:Int)))]/\
  M=[(2,(47,([.bool false,.slice none 0 0,.bool false,.slice none 0 0,.bool false,.slice none 0 0,.bool false,.slice none 0 0,.bool false,.slice none 0 0,.bool false,.slice none 0 0,.bool false,.slice none 0 0,.bool false,.slice none 0 0]:List Value).map .val)),(11,(115,cs.map .val))]/\cs.all aL=true/\dN w' (.agg cs.toArray) (bn (l.take z))/\w'.heap[b2]? =some (.map mZ.toArray 11)) N
  ⟨_,_,?_,?_,?_,?_,⟨0,[.bool s1a,.slice p1a n1a c1a,.bool t1a,.slice y1a m1a d1a,.bool s1b,.slice p1b n1b c1b,.bool t1b,.slice y1b m1b d1b,.bool s1c,.slice p1c n1c c1c,.bool t1c,.slice y1c m1c d1c,.bool s1d,.slice p1d n1d c1d,.bool t1d,.slice y1d m1d d1d],by omega,rfl,rfl,rfl,rfl,q1.kp cg,m2⟩⟩ ?_
 ·exact dy
 ·exact dy
 ·rfl
 ·exact jv
 rintro m L M wJ ⟨z,cs,hz,rfl,rfl,rfl,iu,hpt,nP⟩
 refine ab ?_
 by_cases hlt:z<N
 ·obtain⟨x,hx⟩:∃ x,l[z]? =some x:=⟨_,List.getElem?_eq_getElem aa⟩
  obtain⟨b,off,gw,rfl,hc,he⟩:=hv.at hx
  obtain⟨s9a,p9a,n9a,c9a,t9a,y9a,m9a,d9a,s9b,p9b,n9b,c9b,t9b,y9b,m9b,d9b,rfl,hkd,hAr,hTo⟩:=he
  obtain⟨kd,ar,tx⟩:=x
  replace hAr:aC w (.agg #[.bool s9a,.slice p9a n9a c9a,.bool t9a,.slice y9a m9a d9a]) ar kk:=hAr
  replace hTo:aC w (.agg #[.bool s9b,.slice p9b n9b c9b,.bool t9b,.slice y9b m9b d9b]) tx kk:=hTo
  obtain⟨hsa,hst⟩:=hszs _ (List.mem_of_getElem? hx)
  have hst:bK tx kk:=hst
  have hsa:bK ar kk:=hsa
  have hpsz:yL (bn (l.take z)) (fD kk N):=(oQ oW (l.take z) (λy hy=>hszs y (List.mem_of_mem_take hy))).mono (GG (by rw[List.length_take];omega))
  refine VS.bg rfl (decide_eq_true (Int.ofNat_lt.2 hlt)) ?_
  refine ab ?_
  refine VO.cond rfl ew (wV rfl ?_)
  refine VO.read rfl [.int .u8 (kd:Int),.bool s9a,.slice p9a n9a c9a,.bool t9a,.slice y9a m9a d9a,.bool s9b,.slice p9b n9b c9b,.bool t9b,.slice y9b m9b d9b] rfl (λj u hj=>by rw[Addr.add_mid,Int.toNat_natCast];exact hc j u hj) (wV rfl ?_)
  refine ab ?_
  have hd0:MapKept.IsKey (.int .u8) (.int .u8 (kd:Int)):=rfl
  rcases GJ kd with ⟨idx,g,Kd,hg,hrule⟩|⟨Kd,hzero⟩
  ·refine VO.look (t:=116) (kt:=5) (d:=.int .u8) (z:=.nilFunc) rfl rfl Tryz.underlying116 Tryz.underlying5 hd0 (λw=>by kernel_rfl) (λw1 k1 _=>k1.map _ _ _ nP) Kd (λw3 fi bb3=>wV rfl ?_)
   (repeat (first|refine wN ?_|refine wP rfl ?_|refine Gh rfl ?_|refine wO rfl rfl ?_))
   refine VS.draw (cP _ _) (mR _ _) [49] (by kernel_rfl) ?_
   refine wV rfl ?_
   refine VO.cR rfl rfl (fk Tryz.func50) (λfN ig iV=>eZ fN) (λfN ig iV w4 s4 p4 n4 c4 t4 y4 m4 d4 q4 gi lW _ uI=>wV rfl ?_)
   refine ab ?_
   refine VO.cR rfl rfl (fk Tryz.func13) (λim jl jm=>dw _ _ tx 0 kk 1 im (hTo.kp (Kp.of (U:=UU) jm)) ((q4.kp cg).in bK.zero) aa aa) (λim jl jm w5 s5 p5 n5 c5 t5 y5 m5 d5 q5 ja nZ _ yc=>wV rfl ?_)
   refine ab ?_
   refine VO.cR rfl rfl (fk Tryz.func50) (λoN ql tn=>eZ oN) (λoN ql tn w6 s6 p6 n6 c6 t6 y6 m6 d6 q6 td vx _ Gq=>wV rfl ?_)
   refine ab ?_
   refine VO.cR rfl rfl (fk Tryz.func13) (λyK AJ xd=>dw _ _ ar 0 kk 1 yK (hAr.kp (Kp.of (U:=UU) xd)) ((q6.kp cg).in bK.zero) aa aa) (λyK AJ xd w7 s7 p7 n7 c7 t7 y7 m7 d7 q7 Ho Dc _ bb7=>wV rfl ?_)
   refine ab ?_
   have q5':=aQ.cast q5.rd (Rat.add_zero tx).symm
   have q7':=aQ.cast q7.rd (Rat.add_zero ar).symm
   refine VO.call rfl rfl hg (λJH ka8 ba8=>(hrule _ _ tx ar kk JH (q5'.kp cg) (q7'.kp cg) hst hsa hkk).mono ?_)
   rintro e w8 ⟨r8,rfl,q8,Hn⟩
   have q8':=q8
   obtain⟨s8a,p8a,n8a,c8a,t8a,y8a,m8a,d8a,s8b,p8b,n8b,c8b,t8b,y8b,m8b,d8b,s8c,p8c,n8c,c8c,t8c,y8c,m8c,d8c,s8d,p8d,n8d,c8d,t8d,y8d,m8d,d8d,rfl,_⟩:=q8'
   refine aH Hn ?_
   intro Dd _ bb8
   refine VO.callM (i:=11) rfl rfl (List.mem_append_left _ (List.mem_singleton.2 rfl)) (fk Tryz.func49) (bG rfl) (λwa9 β ka9 ba9 ho=>(DA (β 11) cs _ (bn (l.take z)) (xh kd tx ar) (fD kk N) (3*kk+1) wa9 ?_ (hpt.kp cg) ((q8.kp cg).to (EU hst hsa oW)) hpsz aa aa).mono ?_)
   ·have:=(ho.own 11 (.base (List.mem_append_left _ (List.mem_singleton.2 rfl))) _ _ rfl).cls
    rw[aN] at this
    exact this
   rintro e w9 ⟨ds,rfl,hbut,hcls,hokd,hptd⟩
   refine⟨_,ds,rfl,hbut,hcls,hokd,λGr kc9 bb9=>wV rfl ?_⟩
   refine ab ?_
   have hpt':dN w9 (.agg ds.toArray) (bn (l.take (z+1))):=hptd.cast (qe hx).symm
   refine VS.back (N-(z+1)) aa ⟨_,_,?_,?_,?_,?_,⟨z+1,ds,by omega,rfl,rfl,rfl,hokd,hpt',aR.map (K:=KU UU) (w:=wJ) cg _ _ _ nP⟩⟩
   ·refine⟨rfl,rfl,rfl,rfl,rfl,?_,trivial⟩
    rw[<-bA aa];rfl
   ·exact dy
   ·rfl
   ·exact jv
  ·refine VO.look (t:=116) (kt:=5) (d:=.int .u8) (z:=.nilFunc) rfl rfl Tryz.underlying116 Tryz.underlying5 hd0 (λw=>by kernel_rfl) (λw1 k1 _=>k1.map _ _ _ nP) Kd (λw3 fi bb3=>wV rfl ?_)
   refine ab ?_
   have hpt':dN w3 (.agg cs.toArray) (bn (l.take (z+1))):=(hpt.kp fi).cast (by rw[qe hx,show Kb (kd,ar,tx)=Pt.zero from hzero _ _,add_zero'])
   refine VS.back (N-(z+1)) aa ⟨_,_,?_,?_,?_,?_,⟨z+1,cs,by omega,rfl,rfl,rfl,iu,hpt',fi.map _ _ _ nP⟩⟩
   ·refine⟨rfl,rfl,rfl,rfl,rfl,?_,trivial⟩
    rw[<-bA aa];rfl
   ·exact dy
   ·rfl
   ·exact jv
 ·refine VS.bo rfl (decide_eq_false (λe=>hlt (Int.ofNat_lt.1 e))) ?_
  obtain rfl:z=N:=by omega
  have hpt0:=hpt
  obtain⟨s3a,p3a,n3a,c3a,t3a,y3a,m3a,d3a,s3b,p3b,n3b,c3b,t3b,y3b,m3b,d3b,s3c,p3c,n3c,c3c,t3c,y3c,m3c,d3c,s3d,p3d,n3d,c3d,t3d,y3d,m3d,d3d,hcs,_⟩:=hpt0
  obtain rfl:=Bp hcs
  refine ab ?_
  refine az ?_;intro wz kz bz
  exact⟨_,rfl,(hpt.kp kz).cast (by rw[List.take_of_length_le aa]),bz⟩
end
set_option maxRecDepth 4000
section
open Go.RowKit
abbrev yn:=Int×Int×Bool×Rat
def cz (e:yn):Bool:=decide (e.1<0) || (decide (e.1>9999) || (decide (e.2.1<1) || (decide (e.2.1>40) || !e.2.2.1)))
theorem gM {e:yn} (h:cz e=false):0<=e.1/\e.1<=9999/\1<=e.2.1/\e.2.1<=40/\e.2.2.1=true:=by
 unfold cz at h
 simp only[Bool.or_eq_false_iff,decide_eq_false_iff_not,Bool.not_eq_false'] at h
 obtain⟨a,b,c,d,f⟩:=h
 exact⟨by omega,by omega,by omega,by omega,f⟩
def js (e:yn) (y:Int):Rat:=if cz e=true\/y<=e.1\/y>e.1+e.2.1 then 0 else e.2.2.2*Rat.divInt 1 e.2.1
def na (e:yn) (y:Int):Int:=if y<=e.1 then 0 else if y>=e.1+e.2.1 then e.2.1 else y-e.1
def lQ (e:yn) (y:Int):Rat:=if e.1>y then 0 else e.2.2.2*Rat.divInt (e.2.1-na e y) e.2.1
def edue (l:List yn) (y:Int):Rat:=dJ (l.map λe=>js e y)
def kM (l:List yn) (y:Int):Rat:=dJ (l.map λe=>lQ e y)
theorem GK {n:Int} (h:n≠0):Rat.divInt n n=1:=by rw[Rat.divInt_self' h]
theorem div_sub {a b n:Int}:Rat.divInt (a-b) n=Rat.divInt a n-Rat.divInt b n:=by
 rw[Rat.divInt_eq_div,Rat.divInt_eq_div,Rat.divInt_eq_div,Rat.intCast_sub,Rat.div_def,Rat.div_def,Rat.div_def];grind
theorem GL {e:yn} (h:cz e=false) (y:Int):lQ e y=lQ e (y-1)+(if e.1=y then e.2.2.2 else 0)-js e y:=by
 obtain⟨h0,h1,h2,h3,_⟩:=gM h
 have hn:e.2.1≠0:=by omega
 have hs:=GK hn
 unfold lQ js na
 rw[h]
 by_cases a:e.1>y
 ·rw[if_pos a,if_pos (show e.1>y-1 by omega),if_neg (show ¬ e.1=y by omega),if_pos (.inr (.inl aa))]
  grind
 ·rw[if_neg a]
  by_cases b:e.1=y
  ·rw[if_pos (show e.1>y-1 by omega),if_pos b,if_pos (show y<=e.1 by omega),if_pos (.inr (.inl aa)),Int.sub_zero,hs]
   grind
  ·rw[if_neg (show ¬ e.1>y-1 by omega),if_neg b,if_neg (show ¬ y<=e.1 by omega)]
   by_cases c:y>e.1+e.2.1
   ·rw[if_pos (show y>=e.1+e.2.1 by omega),if_neg (show ¬ y-1<=e.1 by omega),if_pos (show y-1>=e.1+e.2.1 by omega),if_pos (.inr (.inr c))]
    grind
   ·rw[if_neg (show ¬ (false=true\/y<=e.1\/y>e.1+e.2.1) by simp;omega)]
    have key:∀ k:Int,e.2.2.2*Rat.divInt (e.2.1-(k+1)) e.2.1=e.2.2.2*Rat.divInt (e.2.1-k) e.2.1-e.2.2.2*Rat.divInt 1 e.2.1:=λk=>by
     rw[show e.2.1-(k+1)=(e.2.1-k)-1 by omega,div_sub];grind
    have mo:(if y>=e.1+e.2.1 then e.2.1 else y-e.1)=y-e.1:=by split <;> omega
    have mV:(if y-1<=e.1 then 0 else if y-1>=e.1+e.2.1 then e.2.1 else y-1-e.1)=y-1-e.1:=by split <;> (try split) <;> omega
    rw[mo,mV]
    have:=key (y-1-e.1)
    rw[show y-1-e.1+1=y-e.1 by omega] at this
    rw[this]
    grind
theorem Br {e:yn} {y:Int} (h:y<e.1):lQ e y=0:=if_pos aa
theorem fI (x:Rat) (l:List Rat):dJ (x::l)=x+dJ l:=by
 have key:∀ (l:List Rat) (a:Rat),l.foldl (·+ ·) a=a+l.foldl (·+ ·) 0:=by
  intro l
  induction l with
  | nil=>intro a;show a=a+0;grind
  | cons y r ih=>intro a;rw[List.foldl_cons,List.foldl_cons,ih (a+y),ih (0+y)];grind
 show List.foldl (·+ ·) (0+x) l=_
 rw[key]
 show 0+x+dJ l=x+dJ l
 grind
theorem Bs:dJ []=0:=rfl
theorem nc (l m:List Rat):dJ (l++m)=dJ l+dJ m:=by
 induction l with
 | nil=>rw[List.nil_append,Bs];grind
 | cons x r ih=>rw[List.cons_append,fI,fI,ih];grind
def vQ (l:List yn) (y:Int):Rat:=dJ (l.map λe=>if e.1=y then e.2.2.2 else 0)
theorem vR {l:List yn} (h:∀ e∈l,cz e=false) (y:Int):kM l y=kM l (y-1)+vQ l y-edue l y:=by
 induction l with
 | nil=>show dJ []=dJ []+dJ []-dJ [];rw[Bs];grind
 | cons e r ih=>
   have h1:=GL (h e cS) y
   have h2:=ih (λx hx=>h x (by simp[hx]))
   unfold kM vQ edue at*
   simp only[List.map_cons,fI]
   grind
theorem sK {l:List yn} {y:Int} (h:∀ e∈l,y<e.1):kM l y=0:=by
 induction l with
 | nil=>rfl
 | cons e r ih=>
   have:=ih (λx hx=>h x (by simp[hx]))
   unfold kM at*
   rw[List.map_cons,fI,Br (h e cS),this];grind
end
section
open Go.RowKit
attribute [local irreducible] ak VS
abbrev bS:=Int×Int×Bool×List Nat×Bool×List Nat
def bS.exp (e:bS):yn:=(e.1,e.2.1,sJ e.2.2.1 e.2.2.2.1 e.2.2.2.2.1 e.2.2.2.2.2,rq e.2.2.1 e.2.2.2.1 e.2.2.2.2.1 e.2.2.2.2.2)
def nQ (x:Int):Prop:= -9223372036854775808<=x/\x<=9223372036854775807
def nd (kk:Nat) (w:World) (cs:List Value) (e:bS):Prop:=
 ∃ p c r d,cs=[.int .i64 e.1,.int .i64 e.2.1,.bool e.2.2.1,.slice p e.2.2.2.1.length c,.bool e.2.2.2.2.1,.slice r e.2.2.2.2.2.length d]/\nQ e.1/\nQ e.2.1/\
   bW w (.agg #[.bool e.2.2.1,.slice p e.2.2.2.1.length c,.bool e.2.2.2.2.1,.slice r e.2.2.2.2.2.length d]) e.2.2.1 e.2.2.2.1 e.2.2.2.2.1 e.2.2.2.2.2/\e.2.2.2.1.length<=kk/\e.2.2.2.2.2.length<=kk
def rn (kk:Nat) (w:World) (v:Value) (e:bS):Prop:=∃ cs:List Value,v=.agg cs.toArray/\nd kk w cs e
theorem nd.kp {kk:Nat} {T:TypeId->Bool} {w w':World} {cs:List Value} {e:bS} (h:nd kk w cs e) (k:aR ⟨UU,λ_=>True,T⟩ w w'):nd kk w' cs e:=by
 obtain⟨p,c,r,d,h1,h2,h3,h4,h5⟩:=h
 exact⟨p,c,r,d,h1,h2,h3,h4.kp k,h5⟩
theorem rn.kp {kk:Nat} {T:TypeId->Bool} {w w':World} {v:Value} {e:bS} (h:rn kk w v e) (k:aR ⟨UU,λ_=>True,T⟩ w w'):rn kk w' v e:=by
 obtain⟨cs,h1,h2⟩:=h
 exact⟨cs,h1,h2.kp k⟩
theorem rn.k {kk:Nat} {T:TypeId->Bool} {w w':World} {v:Value} {e:bS} (h:rn kk w v e) (k:aR ⟨UU,λ_=>True,T⟩ w w':=by exact cg):rn kk w' v e:=h.kp k
theorem iw (kk:Nat):gj (nd kk) 6 where
 kp:=λh k=>h.kp k
 len:=λh=>by obtain⟨p,c,r,d,rfl,_⟩:=h;rfl
 ok:=λh=>by obtain⟨p,c,r,d,rfl,_⟩:=h;rfl
theorem bW.k {T:TypeId->Bool} {w w':World} {v:Value} {s t:Bool} {xs ys:List Nat} (h:bW w v s xs t ys) (k:aR ⟨UU,λ_=>True,T⟩ w w':=by exact cg):bW w' v s xs t ys:=h.kp k
theorem eP (v:Value) (e:bS) (kk:Nat) (w:World) (hv:rn kk w v e) (hk:kk<=134217728) (c:Int) (hc:(if cz e.exp=true then 2 else 0)=c):
  Calls Tryz.prog 81 #[v] w λo w'=>o=.returned (.int .i64 c)/\aw w w':=by
 obtain⟨cs,rfl,p,cp,r,d,rfl,hy,hn,hq,h1,h2⟩:=hv
 obtain⟨y,n,s,xs,t,ys⟩:=e
 have hew:cz (bS.exp (y,n,s,xs,t,ys))=(decide (y<0) || (decide (y>9999) || (decide (n<1) || (decide (n>40) || !sJ s xs t ys)))):=rfl
 rw[hew] at hc
 replace hq:bW w (.agg #[.bool s,.slice p xs.length cp,.bool t,.slice r ys.length d]) s xs t ys:=hq
 replace h1:xs.length<=kk:=h1
 replace h2:ys.length<=kk:=h2
 refine ae (C:=aX Tryz.prog w _) (args:=[_]) Tryz.func81 rfl Tryz.ntmps81 (bG rfl) ?_
 refine ab ?_
 by_cases a1:y<0
 ·refine VO.fix 6 rfl (congrArg (λb=>AV.val (.bool b)) (decide_eq_true a1)) ?_
  refine ab ?_
  refine az ?_;intro wz kz bz
  exact⟨by rw[<-hc,decide_eq_true a1];rfl,bz⟩
 refine VO.fix 6 rfl (congrArg (λb=>AV.val (.bool b)) (decide_eq_false a1)) ?_
 refine ab ?_
 by_cases a2:y>9999
 ·refine VO.fix 11 rfl (congrArg (λb=>AV.val (.bool b)) (decide_eq_true a2)) ?_
  refine ab ?_
  refine az ?_;intro wz kz bz
  exact⟨by rw[<-hc,decide_eq_true a2,Bool.true_or,Bool.or_true];rfl,bz⟩
 refine VO.fix 11 rfl (congrArg (λb=>AV.val (.bool b)) (decide_eq_false a2)) ?_
 refine ab ?_
 by_cases a3:n<1
 ·refine VO.fix 16 rfl (congrArg (λb=>AV.val (.bool b)) (decide_eq_true a3)) ?_
  refine ab ?_
  refine az ?_;intro wz kz bz
  exact⟨by rw[<-hc,decide_eq_true a3];simp[jB],bz⟩
 refine VO.fix 16 rfl (congrArg (λb=>AV.val (.bool b)) (decide_eq_false a3)) ?_
 refine ab ?_
 by_cases a4:n>40
 ·refine VO.fix 21 rfl (congrArg (λb=>AV.val (.bool b)) (decide_eq_true a4)) ?_
  refine ab ?_
  refine az ?_;intro wz kz bz
  exact⟨by rw[<-hc,decide_eq_true a4];simp[jB],bz⟩
 refine VO.fix 21 rfl (congrArg (λb=>AV.val (.bool b)) (decide_eq_false a4)) ?_
 refine ab ?_
 refine VO.call rfl rfl (fk Tryz.func97) (λaO bE ba=>(iI s t xs ys _ aO (hq.k) aa aa).mono ?_)
 rintro e w1 ⟨rfl,aD⟩
 rw[decide_eq_false a1,decide_eq_false a2,decide_eq_false a3,decide_eq_false a4] at hc
 cases hr:sJ s xs t ys with
 | true=>
   rw[hr] at hc
   refine aH aD ?_
   intro cj _ bb1
   refine az ?_;intro wz kz bz
   exact⟨by rw[<-hc];rfl,bz⟩
 | false=>
   rw[hr] at hc
   refine aH aD ?_
   intro cj _ bb1
   refine az ?_;intro wz kz bz
   exact⟨by rw[<-hc];rfl,bz⟩
theorem nL {e:bS} (h:cz e.exp=false):0<=e.1/\e.1<=9999/\1<=e.2.1/\e.2.1<=40:=by
 obtain⟨a,b,c,d,_⟩:=gM h
 exact⟨a,b,c,d⟩
theorem DB (v:Value) (e:bS) (kk:Nat) (z:Int) (w:World) (hv:rn kk w v e) (hw:cz e.exp=false) (hz:nQ z):
  Calls Tryz.prog 91 #[v,.int .i64 z] w λo w'=>o=.returned (.int .i64 (na e.exp z))/\aw w w':=by
 obtain⟨g1,g2,g3,g4⟩:=nL hw
 obtain⟨cs,rfl,p,cp,r,d,rfl,hy,hn,hq,h1,h2⟩:=hv
 obtain⟨y,n,s,xs,t,ys⟩:=e
 replace g1:0<=y:=g1
 replace g2:y<=9999:=g2
 replace g3:1<=n:=g3
 replace g4:n<=40:=g4
 obtain⟨z1,z2⟩:=hz
 have hec:na (bS.exp (y,n,s,xs,t,ys)) z=if z<=y then 0 else if z>=y+n then n else z-y:=rfl
 rw[hec]
 refine ae (C:=aX Tryz.prog w _) (args:=[_,_]) Tryz.func91 rfl Tryz.ntmps91 (bG rfl) ?_
 refine ab ?_
 by_cases a1:z<=y
 ·refine VS.bg rfl (decide_eq_true a1) ?_
  refine ab ?_
  refine az ?_;intro wz kz bz
  exact⟨by rw[if_pos a1];rfl,bz⟩
 refine VS.bo rfl (decide_eq_false a1) ?_
 refine ab ?_
 have e1:IntKind.i64.wrap (y+n)=y+n:=IntWalk.i64_in _ aa
 by_cases a2:z>=y+n
 ·refine VS.bg rfl (decide_eq_true (by rw[e1];exact a2)) ?_
  refine ab ?_
  refine az ?_;intro wz kz bz
  exact⟨by rw[if_neg a1,if_pos a2];rfl,bz⟩
 ·refine VS.bo rfl (decide_eq_false (by rw[e1];exact a2)) ?_
  refine ab ?_
  refine az ?_;intro wz kz bz
  exact⟨by rw[if_neg a1,if_neg a2,IntWalk.i64_in (z-y) aa];rfl,bz⟩
theorem EW (v:Value) (e:bS) (kk:Nat) (k:Int) (w:World) (hv:rn kk w v e) (hw:cz e.exp=false) (hk:kk<=1048576) (k0:0<=k) (k1:k<=40):
  Calls Tryz.prog 90 #[v,.int .i64 k] w λo w'=>∃ x,o=.returned x/\aI w' w.heap.size x (e.exp.2.2.2*Rat.divInt k e.2.1)/\aw w w':=by
 obtain⟨g1,g2,g3,g4⟩:=nL hw
 obtain⟨cs,rfl,p,cp,r,d,rfl,hy,hn,hq,h1,h2⟩:=hv
 obtain⟨y,n,s,xs,t,ys⟩:=e
 replace g3:1<=n:=g3
 replace g4:n<=40:=g4
 replace hq:bW w (.agg #[.bool s,.slice p xs.length cp,.bool t,.slice r ys.length d]) s xs t ys:=hq
 replace h1:xs.length<=kk:=h1
 replace h2:ys.length<=kk:=h2
 have kW:=hq.in h1 h2
 refine ae (C:=aX Tryz.prog w _) (args:=[_,_]) Tryz.func90 rfl Tryz.ntmps90 (bG rfl) ?_
 refine ab ?_
 refine VO.call rfl rfl (fk Tryz.func143) (λaO bE ba=>(JP k n aO aa aa aa aa 0 (JQ aa)).mono ?_)
 rintro e w1 ⟨r1,rfl,q1,aD⟩
 obtain⟨s1,p1,n1,c1,t1,y1,m1,d1,rfl⟩:=q1.form
 refine aH aD ?_
 intro cj _ bb1
 refine VO.cR rfl rfl (fk Tryz.func106) (λbk bX bF=>uR _ _ (rq s xs t ys) (Rat.divInt k n) kk 1 bk (kW.k) (q1.ki (bK.of aa aa)) aa aa) (λbk bX bF w2 s2 p2 n2 c2 t2 y2 m2 d2 q2 aP da _ bb2=>wV rfl ?_)
 refine ab ?_
 refine az ?_;intro wz kz bz
 exact⟨_,rfl,(q2.kp kz).mono bF.size,bz⟩
theorem GM (v:Value) (e:bS) (kk:Nat) (z:Int) (w:World) (hv:rn kk w v e) (hk:kk<=1048576) (hz:nQ z):
  Calls Tryz.prog 88 #[v,.int .i64 z] w λo w'=>∃ x,o=.returned x/\aI w' w.heap.size x (js e.exp z)/\aw w w':=by
 have Fy:=hv
 obtain⟨cs,rfl,p,cp,r,d,rfl,hy,hn,hq,h1,h2⟩:=hv
 obtain⟨z1,z2⟩:=hz
 obtain⟨C,hC⟩:∃ C,C=js e.exp z:=⟨_,rfl⟩
 rw[<-hC]
 unfold js at hC
 refine ae (C:=aX Tryz.prog w _) (args:=[_,_]) Tryz.func88 rfl Tryz.ntmps88 (bG rfl) ?_
 refine ab ?_
 cases hw:cz e.exp with
 | true=>
   rw[hw,if_pos (.inl rfl)] at hC
   subst hC
   refine VO.cB rfl rfl (fk Tryz.func81) (λaO bE ba=>eP _ e kk aO (Fy.k) aa 2 (by rw[hw];rfl)) (λaO bE ba w1 aD cj _ bb1=>wV rfl ?_)
   refine ab ?_
   refine VO.cR rfl rfl (fk Tryz.func11) (λbk bX bF=>bO 0 bk aa aa) (λbk bX bF w2 s2 p2 n2 c2 t2 y2 m2 d2 q2 aP da _ bb2=>wV rfl ?_)
   refine ab ?_
   refine az ?_;intro wz kz bz
   exact⟨_,rfl,(q2.kp kz).mono bF.size,bz⟩
 | false=>
   obtain⟨g1,g2,g3,g4⟩:=nL hw
   have e1:IntKind.i64.wrap (e.1+e.2.1)=e.1+e.2.1:=IntWalk.i64_in _ aa
   rw[hw] at hC
   refine VO.cB rfl rfl (fk Tryz.func81) (λaO bE ba=>eP _ e kk aO (Fy.k) aa 0 (by rw[hw];rfl)) (λaO bE ba w1 aD cj _ bb1=>wV rfl ?_)
   refine ab ?_
   by_cases a1:z<=e.1
   ·rw[if_pos (.inr (.inl a1))] at hC
    subst hC
    refine VO.fix 14 rfl (congrArg (λb=>AV.val (.bool b)) (decide_eq_true a1)) ?_
    refine ab ?_
    refine VO.cR rfl rfl (fk Tryz.func11) (λbk bX bF=>bO 0 bk aa aa) (λbk bX bF w2 s2 p2 n2 c2 t2 y2 m2 d2 q2 aP da _ bb2=>wV rfl ?_)
    refine ab ?_
    refine az ?_;intro wz kz bz
    exact⟨_,rfl,(q2.kp kz).mono bF.size,bz⟩
   refine VO.fix 14 rfl (congrArg (λb=>AV.val (.bool b)) (decide_eq_false a1)) ?_
   refine ab ?_
   by_cases a2:z>e.1+e.2.1
   ·rw[if_pos (.inr (.inr a2))] at hC
    subst hC
    refine VS.bg rfl (decide_eq_true (show z>IntKind.i64.wrap (e.1+e.2.1) by rw[e1];exact a2)) ?_
    refine ab ?_
    refine VO.cR rfl rfl (fk Tryz.func11) (λbk bX bF=>bO 0 bk aa aa) (λbk bX bF w2 s2 p2 n2 c2 t2 y2 m2 d2 q2 aP da _ bb2=>wV rfl ?_)
    refine ab ?_
    refine az ?_;intro wz kz bz
    exact⟨_,rfl,(q2.kp kz).mono bF.size,bz⟩
   ·rw[if_neg (by rintro (h|h|h);exact Bool.noConfusion h;exact a1 h;exact a2 h)] at hC
    subst hC
    refine VS.bo rfl (decide_eq_false (show ¬ z>IntKind.i64.wrap (e.1+e.2.1) by rw[e1];exact a2)) ?_
    refine ab ?_
    refine VO.cR rfl rfl (fk Tryz.func90) (λbk bX bF=>EW _ e kk 1 bk (Fy.k) hw hk aa aa) (λbk bX bF w2 s2 p2 n2 c2 t2 y2 m2 d2 q2 aP da _ bb2=>wV rfl ?_)
    refine ab ?_
    refine az ?_;intro wz kz bz
    exact⟨_,rfl,(q2.kp kz).mono bF.size,bz⟩
end
section
open Go.RowKit
theorem Bt {s t:Bool} {xs ys:List Nat} (h:sJ s xs t ys=true) (lx:bH xs) (ly:bH ys):
  decide ((rq s xs t ys).num<0)=s/\limbs (rq s xs t ys).num.natAbs=xs/\decide (((rq s xs t ys).den:Int)<0)=t/\limbs ((rq s xs t ys).den:Int).natAbs=ys:=by
 obtain⟨h1,h2,h3,h4⟩:=EK h
 obtain⟨e1,e2⟩:=lJ ⟨h3,h4⟩
 unfold rq
 rw[e1,e2]
 unfold numOf
 rw[if_pos h1,if_pos h2]
 obtain⟨c1,c2⟩:=canon lx h1
 obtain⟨c3,c4⟩:=canon ly h2
 exact⟨c1.symm,c2.symm,c3.symm,c4.symm⟩
section
variable {α:Type} {E:World->List Value->α->Prop} {sz:Nat} {w w':World} {es:List α} {vs:List (List Value)}
end
end
section
open Go.RowKit
attribute [local irreducible] ak VS
theorem fb {w:World} {b o:Nat} {u:Value} (h:w.cell? ⟨b,o,none⟩=some u):∀ j x,[u][j]? =some x->w.cell? ((⟨b,o,none⟩:Addr).add j)=some x:=by
 intro j x hj
 cases j with
 | zero=>cases hj;rw[Addr.add_mid,Nat.add_zero];exact h
 | succ j=>simp at hj
theorem GN (v:Value) (b:Nat) (e:bS) (kk:Nat) (z:Int) (w:World) (hv:rn kk w v e) (hc:w.cell? ⟨b,0,none⟩=some (.int .i64 z)) (hk:kk<=1048576) (hz:nQ z):
  Calls Tryz.prog 87 #[v,.pointer (some ⟨b,0,none⟩)] w λo w'=>∃ x,o=.returned x/\aI w' w.heap.size x (js e.exp z)/\aw w w':=by
 have Fy:=hv
 obtain⟨cs,rfl,p,cp,r,d,rfl,hy,hn,hq,h1,h2⟩:=hv
 refine ae (C:=aX Tryz.prog w _) (args:=[_,_]) Tryz.func87 rfl Tryz.ntmps87 (bG rfl) ?_
 refine ab ?_
 refine VO.read rfl [.int .i64 z] rfl (fb hc) (wV rfl ?_)
 refine VO.cR rfl rfl (fk Tryz.func88) (λaO bE ba=>GM _ e kk z aO (Fy.k) hk hz) (λaO bE ba w1 s1 p1 n1 c1 t1 y1 m1 d1 q1 aD cj _ bb1=>wV rfl ?_)
 refine ab ?_
 refine az ?_;intro wz kz bz
 exact⟨_,rfl,(q1.kp kz).mono ba.size,bz⟩
theorem xm {e:yn} (h:cz e=false) (z:Int):0<=na e z/\na e z<=e.2.1:=by
 obtain⟨h0,h1,h2,h3,_⟩:=gM h
 unfold na
 split
 ·omega
 ·split <;> omega
theorem GO (v:Value) (b:Nat) (e:bS) (kk:Nat) (z:Int) (w:World) (hv:rn kk w v e) (hw:cz e.exp=false) (hc:w.cell? ⟨b,0,none⟩=some (.int .i64 z)) (hk:kk<=1048576) (hz:nQ z):
  Calls Tryz.prog 89 #[v,.pointer (some ⟨b,0,none⟩)] w λo w'=>∃ x,o=.returned x/\aI w' w.heap.size x (lQ e.exp z)/\aw w w':=by
 have Fy:=hv
 obtain⟨g1,g2,g3,g4⟩:=nL hw
 obtain⟨k1,k2⟩:=xm hw z
 obtain⟨N,hN⟩:∃ N,N=na e.exp z:=⟨_,rfl⟩
 have hN2:N<=e.2.1:=by rw[hN];exact k2
 have e1:IntKind.i64.wrap (e.2.1-N)=e.2.1-N:=IntWalk.i64_in _ aa
 have hb:lQ e.exp z=if e.1>z then 0 else e.exp.2.2.2*Rat.divInt (e.2.1-N) e.2.1:=by rw[hN];rfl
 obtain⟨Q,hQ⟩:∃ Q,Q=lQ e.exp z:=⟨_,rfl⟩
 rw[<-hQ] at hb ⊢
 obtain⟨cs,rfl,p,cp,r,d,rfl,hy,hn,hq,h1,h2⟩:=hv
 refine ae (C:=aX Tryz.prog w _) (args:=[_,_]) Tryz.func89 rfl Tryz.ntmps89 (bG rfl) ?_
 refine ab ?_
 refine VO.read rfl [.int .i64 z] rfl (fb hc) (wV rfl ?_)
 refine ab ?_
 by_cases a1:e.1>z
 ·rw[if_pos a1] at hb
  subst hb
  refine VS.bg rfl (decide_eq_true a1) ?_
  refine ab ?_
  refine VO.cR rfl rfl (fk Tryz.func11) (λaO bE ba=>bO 0 aO aa aa) (λaO bE ba w1 s1 p1 n1 c1 t1 y1 m1 d1 q1 aD cj _ bb1=>wV rfl ?_)
  refine ab ?_
  refine az ?_;intro wz kz bz
  exact⟨_,rfl,(q1.kp kz).mono ba.size,bz⟩
 ·rw[if_neg a1] at hb
  subst hb
  refine VS.bo rfl (decide_eq_false a1) ?_
  refine ab ?_
  refine VO.read rfl [.int .i64 z] rfl (fb hc) (wV rfl ?_)
  refine VO.cB rfl rfl (fk Tryz.func91) (λaO bE ba=>DB _ e kk z aO (Fy.k) hw hz) (λaO bE ba w1 aD cj _ bb1=>wV rfl ?_)
  refine ab ?_
  rw[<-hN,e1]
  refine VO.cR rfl rfl (fk Tryz.func90) (λbk bX bF=>EW _ e kk (e.2.1-N) bk (Fy.k) hw hk aa aa) (λbk bX bF w2 s2 p2 n2 c2 t2 y2 m2 d2 q2 aP da _ bb2=>wV rfl ?_)
  refine ab ?_
  refine az ?_;intro wz kz bz
  exact⟨_,rfl,(q2.kp kz).mono bF.size,bz⟩
def uX (kk:Nat) (w:World) (g:Nat) (l:List bS):Prop:=∃ u,w.cell? ⟨g,0,none⟩=some u/\bP (nd kk) 6 w u l
theorem uX.bt {kk:Nat} {w w':World} {g:Nat} {l:List bS} (h:uX kk w g l) (hb:aw w w'):uX kk w' g l:=by
 obtain⟨u,h1,h2⟩:=h
 exact⟨u,hb.cell h1,h2.bt (iw kk) hb⟩
def EachOk (kk K:Nat) (w:World) (fid:FuncId) (cap:Value) (f:bS->Rat) (l:List bS):Prop:=
 jc Tryz.prog fid/\(∀ e∈l,bK (f e) K)/\∀ (w1:World) (u:Value) (e:bS),aw w w1->e∈l->rn kk w1 u e->Calls Tryz.prog fid #[u,cap] w1 λo w2=>∃ x,o=.returned x/\aI w2 w1.heap.size x (f e)/\aw w1 w2
theorem Bu (g:Nat) (fid:FuncId) (cap:Value) (f:bS->Rat) (l:List bS) (kk K:Nat) (w:World) (hl:uX kk w g l) (hf:EachOk kk K w fid cap f l) (hK:bJ K l.length<=1048576):
  Calls Tryz.prog 86 #[.pointer (some ⟨g,0,none⟩),.func (.func fid) #[] #[cap]] w λo w'=>∃ x,o=.returned x/\aI w' w.heap.size x (dJ (l.map f))/\bK (dJ (l.map f)) (bJ K l.length)/\aw w w':=by
 obtain⟨hfn,Hg,hfc⟩:=hf
 obtain⟨u,hu,hsl⟩:=hl
 obtain⟨p,c,rfl,dW,eJ⟩:=hsl.form
 obtain⟨N,hN⟩:∃ N,N=l.length:=⟨_,rfl⟩
 rw[<-hN] at hsl hK dW ⊢
 rw[<-hN] at hu
 have hNm:N<9223372036854775807:=by unfold bJ at hK;have:=Nat.le_mul_of_pos_right N (show 0<bV K+1 by omega);omega
 refine ae (C:=aX Tryz.prog w _) (args:=[_,_]) Tryz.func86 rfl Tryz.ntmps86 (bG rfl) ?_
 refine ab ?_
 refine VO.cR rfl rfl (fk Tryz.func11) (λaO bE ba=>bO 0 aO aa aa) (λaO bE ba w1 s1 p1 n1 c1 t1 y1 m1 d1 q1 aD cj _ bb1=>wV rfl ?_)
 refine ab ?_
 refine VO.read rfl [.slice p N c] rfl (fb hu) (wV rfl ?_)
 refine ab ?_
 refine VS.loop (J:=λn L M w'=>∃ i s p' n' c' t r m d,i<=N/\n=N-i/\L=[(1,.val (.func (.func fid) #[] #[cap])),(12,.val (.slice p N c)),(13,.val (.int .i64 (N:Int))),(14,.val (.int .i64 (i:Int))),(5,.box 5 0),(4,.box 4 0)]/\
  M=[(4,(34,([.bool false,.slice none 0 0,.bool false,.slice none 0 0]:List Value).map .val)),(5,(34,([.bool s,.slice p' n' c',.bool t,.slice r m d]:List Value).map .val))]/\aI w' w.heap.size (.agg #[.bool s,.slice p' n' c',.bool t,.slice r m d]) (dJ ((l.map f).take i))/\bK (dJ ((l.map f).take i)) (bJ K i)) N
  ⟨_,_,?_,?_,?_,?_,⟨0,_,_,_,_,_,_,_,_,by omega,rfl,rfl,rfl,q1.k.mono ba.size,bK.zero.mono (by unfold bJ;omega)⟩⟩ ?_
 ·exact dy
 ·exact dy
 ·rfl
 ·exact jv
 rintro n L M w' ⟨i,s,p',n',c',t,r,m,d,hi,rfl,rfl,rfl,ho,hz⟩
 refine ab ?_
 by_cases hlt:i<N
 ·obtain⟨e,he⟩:∃ e,l[i]? =some e:=⟨_,List.getElem?_eq_getElem aa⟩
  have hfe:(l.map f)[i]? =some (f e):=by rw[List.getElem?_map,he];rfl
  obtain⟨b,off,cs,rfl,hc,hE⟩:=hsl.at he
  have hE0:=hE
  obtain⟨ep,ec,er,ed,rfl,-⟩:=hE
  refine VS.bg rfl (decide_eq_true (Int.ofNat_lt.2 hlt)) ?_
  refine ab ?_
  refine VO.cond rfl ew (wV rfl ?_)
  refine VO.read rfl [.int .i64 e.1,.int .i64 e.2.1,.bool e.2.2.1,.slice ep e.2.2.2.1.length ec,.bool e.2.2.2.2.1,.slice er e.2.2.2.2.2.length ed] rfl (λj u hj=>by rw[Addr.add_mid,Int.toNat_natCast];exact hc j u hj) (wV rfl ?_)
  refine ab ?_
  refine VO.call rfl rfl hfn (λbk bX bF=>(hfc bk _ e bF (List.mem_of_getElem? he) ⟨_,rfl,hE0.kp (Kp.of (U:=UU) bF)⟩).mono ?_)
  rintro o w2 ⟨r2,rfl,q2,aP⟩
  obtain⟨s2,p2,n2,c2,t2,y2,m2,d2,rfl⟩:=q2.form
  refine aH aP ?_
  intro da _ bb2
  have hfz:=Hg e (List.mem_of_getElem? he)
  refine VO.cR rfl rfl (fk Tryz.func13) (λcX dh dS=>dw _ _ (dJ ((l.map f).take i)) (f e) (bJ K i) (bV K) cX (ho.ki hz) (q2.ki (hfz.mono (by unfold bV;omega))) (by have:=nI (k:=K) hi;omega) (by unfold bJ at hK;have:=Nat.le_mul_of_pos_left (bV K+1) (show 0<N by omega);omega)) (λcX dh dS w3 s3 p3 n3 c3 t3 y3 m3 d3 q3 cw fi _ bb3=>wV rfl ?_)
  refine ab ?_
  refine VS.back (N-(i+1)) aa ⟨_,_,?_,?_,?_,?_,⟨i+1,_,_,_,_,_,_,_,_,by omega,rfl,rfl,rfl,((q3.k).mono dS.size).cast (nH hfe).symm,by rw[nH hfe,rZ];exact hz.add (hfz.mono (by unfold bV;omega))⟩⟩
  ·refine⟨rfl,rfl,rfl,?_,rfl,rfl,trivial⟩
   rw[<-bA (i:=i) aa];rfl
  ·exact dy
  ·rfl
  ·exact jv
 ·refine VS.bo rfl (decide_eq_false (λe=>hlt (Int.ofNat_lt.1 e))) ?_
  refine ab ?_
  refine az ?_;intro wz kz bz
  obtain rfl:i=N:=by omega
  rw[List.take_of_length_le (by rw[List.length_map];omega)] at ho hz
  exact⟨_,rfl,ho.kp kz,hz,bz⟩
end
section
open Go.RowKit
attribute [local irreducible] ak VS
theorem nd.sz {kk:Nat} {w:World} {cs:List Value} {e:bS} (h:nd kk w cs e):bK e.exp.2.2.2 (bV kk):=by
 obtain⟨p,c,r,d,-,-,-,h4,h5,h6⟩:=h
 exact (h4.in h5 h6).rk
theorem Ke {e:yn} {k:Nat} (h:bK e.2.2.2 k) (z:Int):bK (js e z) (k+1):=by
 unfold js
 split
 ·exact bK.zero.mono aa
 ·rename_i hn
  cases hw:cz e with
  | true=>exact absurd (.inl hw) hn
  | false=>
    obtain⟨a,b,c,d,_⟩:=gM hw
    exact h.mul (bK.of aa aa)
theorem ebal_sz {e:yn} {k:Nat} (h:bK e.2.2.2 k) (hw:cz e=false) (z:Int):bK (lQ e z) (k+1):=by
 obtain⟨a,b,c,d,_⟩:=gM hw
 obtain⟨k1,k2⟩:=xm hw z
 unfold lQ
 split
 ·exact bK.zero.mono aa
 ·exact h.mul (bK.of aa aa)
theorem bP.mem {α:Type} {E:World->List Value->α->Prop} {sz:Nat} {w:World} {v:Value} {l:List α} {a:α} (h:bP E sz w v l) (ha:a∈l):∃ cs,E w cs a:=by
 obtain⟨i,hi⟩:=List.getElem?_of_mem ha
 obtain⟨p,c,rfl,_⟩:=h.form
 obtain⟨b,off,cs,_,_,he⟩:=h.at hi
 exact⟨cs,he⟩
theorem kO {w:World} {b:Nat} {t:TypeId} {u:Value} (h:aW w b t #[u]):w.cell? ⟨b,0,none⟩=some u:=h.cell (by rfl)
def eI (l:List bS) (z:Int):Rat:=dJ (l.map λe=>js e.exp z)
def eQ (l:List bS) (z:Int):Rat:=dJ (l.map λe=>lQ e.exp z)
theorem Kf (g:Nat) (l:List bS) (kk:Nat) (z:Int) (w:World) (hl:uX kk w g l) (hk:kk<=1024) (hz:nQ z) (hn:l.length<=128):
  Calls Tryz.prog 38 #[.pointer (some ⟨g,0,none⟩),.int .i64 z] w λo w'=>∃ x,o=.returned x/\aI w' w.heap.size x (eI l z)/\bK (eI l z) (bJ (bV kk+1) l.length)/\aw w w':=by
 have Hg:∀ e∈l,bK (js e.exp z) (bV kk+1):=λe he=>by
  obtain⟨u,_,h⟩:=hl
  obtain⟨cs,h⟩:=h.mem he
  exact Ke h.sz z
 have hK:bJ (bV kk+1) l.length<=1048576:=by
  have:=nI (k:=bV kk+1) hn
  have:bV (bV kk+1)<=2000:=by unfold bV;omega
  have h2:bJ (bV kk+1) 128<=1048576:=by unfold bJ;omega
  omega
 refine ae (C:=aX Tryz.prog w _) (args:=[_,_]) Tryz.func38 rfl Tryz.ntmps38 (bG rfl) ?_
 refine ab ?_
 refine VO.ia rfl (fk Tryz.func86) (λaO β bE ba ho=>(Bu g _ (.pointer (some ⟨β 3,0,none⟩)) (λe=>js e.exp z) l kk (bV kk+1) aO (hl.bt ba)
  ⟨fk Tryz.func87,Hg,λw1 u e hb he hv=>GN u (β 3) e kk z w1 hv (hb.cell (kO (ho.own 3 (.base (List.mem_singleton.2 rfl)) _ _ rfl).cls)) aa hz⟩ hK).mono ?_)
 rintro o w1 ⟨r1,rfl,q1,vv,aD⟩
 obtain⟨s1,p1,n1,c1,t1,y1,m1,d1,rfl⟩:=q1.form
 refine aH aD ?_
 intro cj _ bb1
 refine az ?_;intro wz kz bz
 exact⟨_,rfl,(q1.kp kz).mono ba.size,vv,bz⟩
theorem yo (g:Nat) (l:List bS) (kk:Nat) (z:Int) (w:World) (hl:uX kk w g l) (hw:∀ e∈l,cz e.exp=false) (hk:kk<=1024) (hz:nQ z) (hn:l.length<=128):
  Calls Tryz.prog 39 #[.pointer (some ⟨g,0,none⟩),.int .i64 z] w λo w'=>∃ x,o=.returned x/\aI w' w.heap.size x (eQ l z)/\bK (eQ l z) (bJ (bV kk+1) l.length)/\aw w w':=by
 have Hg:∀ e∈l,bK (lQ e.exp z) (bV kk+1):=λe he=>by
  obtain⟨u,_,h⟩:=hl
  obtain⟨cs,h⟩:=h.mem he
  exact ebal_sz h.sz (hw e he) z
 have hK:bJ (bV kk+1) l.length<=1048576:=by
  have:=nI (k:=bV kk+1) hn
  have:bV (bV kk+1)<=2000:=by unfold bV;omega
  have h2:bJ (bV kk+1) 128<=1048576:=by unfold bJ;omega
  omega
 refine ae (C:=aX Tryz.prog w _) (args:=[_,_]) Tryz.func39 rfl Tryz.ntmps39 (bG rfl) ?_
 refine ab ?_
 refine VO.ia rfl (fk Tryz.func86) (λaO β bE ba ho=>(Bu g _ (.pointer (some ⟨β 3,0,none⟩)) (λe=>lQ e.exp z) l kk (bV kk+1) aO (hl.bt ba)
  ⟨fk Tryz.func89,Hg,λw1 u e hb he hv=>GO u (β 3) e kk z w1 hv (hw e he) (hb.cell (kO (ho.own 3 (.base (List.mem_singleton.2 rfl)) _ _ rfl).cls)) aa hz⟩ hK).mono ?_)
 rintro o w1 ⟨r1,rfl,q1,vv,aD⟩
 obtain⟨s1,p1,n1,c1,t1,y1,m1,d1,rfl⟩:=q1.form
 refine aH aD ?_
 intro cj _ bb1
 refine az ?_;intro wz kz bz
 exact⟨_,rfl,(q1.kp kz).mono ba.size,vv,bz⟩
end
section
open Go.RowKit
attribute [local irreducible] ak VS
theorem bW.lims {w:World} {v:Value} {s t:Bool} {xs ys:List Nat} (h:bW w v s xs t ys):bH xs/\bH ys:=by
 obtain⟨_,_,_,_,_,h1,h2⟩:=h
 exact⟨h1.lim,h2.lim⟩
theorem kP (q:Rat):dJ [q]=q:=by show 0+q=q;grind
end
set_option maxRecDepth 4000
section
open Go.RowKit
attribute [local irreducible] ak VS
end
section
open Go.RowKit
attribute [local irreducible] ak VS
theorem bU {w:World} {b off i sz:Nat} {cs:List Value} (hc:∀ (j:Nat) (u:Value),cs[j]? =some u->w.cell? ⟨b,off+i*sz+j,none⟩=some u) (k:Nat) (ds:List Value) (hd:ds <+:cs.drop k):∀ (j:Nat) (u:Value),ds[j]? =some u->w.cell? ((⟨b,off+((i:Nat):Int).toNat*sz+k,none⟩:Addr).add j)=some u:=by
 intro j u hj
 obtain⟨t,ht⟩:=hd
 rw[Addr.add_mid,Int.toNat_natCast,Nat.add_assoc]
 refine hc (k+j) u ?_
 rw[<-List.getElem?_drop,<-ht,List.getElem?_append_left (List.getElem?_eq_some_iff.1 hj).1]
 exact hj
end
section
open Go.RowKit
attribute [local irreducible] ak VS
def enz (e:bS):Bool:=decide (e.exp.2.2.2≠0)
def dP (l:List bS):List bS:=l.filter enz
end
section
open Go.RowKit
attribute [local irreducible] ak VS
end
section
open Go.RowKit
attribute [local irreducible] ak VS
end
section
open Go.RowKit
def Hp.ads:Nat->List (TypeId×List AV)->Hp
 | _,[]=>λ_=>none
 | i,c::r=>λn=>bif Nat.beq n i then some c else Hp.ads (i+1) r n
theorem Hp.uY:∀ (l:List (TypeId×List AV)) (i n:Nat),Hp.ads i l n=if i<=n then l[n-i]? else none
 | [],i,n=>by unfold Hp.ads;simp
 | c::r,i,n=>by
   unfold Hp.ads
   rw[Hp.uY r (i+1) n]
   by_cases h:n=i
   ·subst h;simp
   ·have hb:Nat.beq n i=false:=by rw[<-Bool.not_eq_true,Nat.beq_eq];exact h
    rw[hb,cond_false]
    by_cases h1:i<=n
    ·rw[if_pos h1,if_pos aa,show n-i=(n-(i+1))+1 by omega];rfl
    ·rw[if_neg h1,if_neg aa]
def adB (N:Nat) (ad:List Nat):Nat->Nat:=λi=>ad.getD (i-2*N) 0
structure Bv (K:KC) (N:Nat) (ad:List Nat) (l:List (TypeId×List AV)) (w:World):Prop where
 len:ad.length=l.length
 nodup:ad.Nodup
 cls:∀ (j:Nat) (g:Nat) (c:TypeId×List AV),ad[j]? =some g->l[j]? =some c->aW w g c.1 (c.2.map (AV.leaf (adB N ad))).toArray
 ok:∀ c∈l,K.fz c.1=false/\c.2.all aB=true
 ids:∀ c∈l,∀ k∈aF c.2,2*N<=k/\k<2*N+l.length
theorem Bv.ad {K:KC} {N:Nat} {ad:List Nat} {l:List (TypeId×List AV)} {w:World} (h:Bv K N ad l w):kF K ad w:=λg hg=>by
 obtain⟨j,hj⟩:=List.mem_iff_getElem?.1 hg
 have hlt:=(List.getElem?_eq_some_iff.1 hj).1
 obtain⟨c,hc⟩:∃ c,l[j]? =some c:=⟨_,List.getElem?_eq_getElem (by rw[<-h.len];exact hlt)⟩
 obtain⟨h1,h2⟩:=h.ok c (List.mem_of_getElem? hc)
 exact⟨c.1,_,h.cls j g c hj hc,h1,dT h2⟩
theorem sc (P:Program) (w:World) (N:Nat) (K:KC) (SU:TypeId->Bool) (ti:TypeId->Option TI) (keep:∀ b,b<w.heap.size->K.S b) {ad:List Nat} {l:List (TypeId×List AV)} {us:List Value} {f:FuncId} {fn:Func} {c:Code} {R:Ending->World->Prop} (hf:P.funcs[f]? =some fn) (hb:fn.body=some c) (hN:fn.ntmps=N) (ha:us.length+1<=N)
  (hl:Bv K N ad l w) (h0:0<l.length)
  (h:VS (Ao P w N K SU ti keep ad hl.nodup hl.ad) (bodyPost P fn R) [.code c] (Fr.Ge 0 (.box (2*N) 0::us.map .val)) (Hp.ads (2*N) l) w):Calls P f (Value.pointer (some ⟨ad.getD 0 0,0,none⟩)::us).toArray w R:=by
 have vD:∀ i c,Hp.ads (2*N) l i=some c->2*N<=i/\l[i-2*N]? =some c:=λi c hi=>by
  rw[Hp.uY] at hi
  split at hi
  ·exact⟨by assumption,hi⟩
  ·cases hi
 have hsome:∀ i,Hp.ads (2*N) l i≠none->2*N<=i/\i-2*N<l.length:=λi hi=>by
  cases hh:Hp.ads (2*N) l i with
  | none=>exact absurd hh hi
  | some c=>
    obtain⟨h1,h2⟩:=vD i c hh
    exact⟨h1,(List.getElem?_eq_some_iff.1 h2).1⟩
 have hval:∀ k,k<ad.length->ad[k]? =some (ad.getD k 0):=λk hk=>by simp[List.getD_eq_getElem?_getD,hk]
 have:=rT (C:=Ao P w N K SU ti keep ad hl.nodup hl.ad) (R:=R) (args:=.box (2*N) 0::us.map .val) (β:=adB N ad) (H:=Hp.ads (2*N) l) hf hb hN (by simpa using ha) (λi t cs hi=> ?_) (λi j hi hj e=> ?_) ⟨λi t cs hi=> ?_,λi t cs hi=> ?_,λi hi=> ?_⟩ (λv hv i hi=> ?_) h
 ·have e:(AV.box (2*N) 0::us.map AV.val).map (AV.aK (adB N ad))=Value.pointer (some ⟨ad.getD 0 0,0,none⟩)::us:=by
   rw[List.map_cons,fF]
   show Value.pointer (some ⟨ad.getD (2*N-2*N) 0,0,none⟩)::us=_
   rw[Nat.sub_self]
  rw[e] at this
  exact this
 ·obtain⟨h1,h2⟩:=vD i _ hi
  have hlt:=(List.getElem?_eq_some_iff.1 h2).1
  obtain⟨g1,g2⟩:=hl.ok _ (List.mem_of_getElem? h2)
  have hv:=hval (i-2*N) (by rw[hl.len];exact hlt)
  refine⟨?_,g1,hl.cls _ _ _ hv h2,g2⟩
  show iG N ad w i (adB N ad i)
  unfold iG
  rw[if_pos h1]
  exact hv
 ·obtain⟨h1,h2⟩:=hsome i hi
  obtain⟨h3,h4⟩:=hsome j hj
  have e1:=hval (i-2*N) (by rw[hl.len];exact h2)
  have e2:=hval (j-2*N) (by rw[hl.len];exact h4)
  have e':ad.getD (i-2*N) 0=ad.getD (j-2*N) 0:=e
  rw[<-e'] at e2
  have:=(List.getElem?_inj (by rw[hl.len];exact h2) hl.nodup).1 (e1.trans e2.symm)
  omega
 ·obtain⟨h1,h2⟩:=vD i _ hi
  exact hl.ok _ (List.mem_of_getElem? h2)
 ·obtain⟨h1,h2⟩:=vD i _ hi
  intro j hj
  obtain⟨h3,h4⟩:=hl.ids _ (List.mem_of_getElem? h2) j hj
  rw[Hp.uY,if_pos h3,List.getElem?_eq_getElem aa]
  simp
 ·have qM:2*N+ad.length<=i:=hi
  rw[Hp.uY]
  split
  ·exact List.getElem?_eq_none (by rw[<-hl.len];omega)
  ·rfl
 ·rcases List.mem_cons.1 hv with rfl|hv
  ·have:i=2*N:=by simpa [AV.ids] using hi
   rw[this,Hp.uY,if_pos (Nat.le_refl _),Nat.sub_self,List.getElem?_eq_getElem h0];simp
  ·obtain⟨u,_,rfl⟩:=List.mem_map.1 hv
   cases hi
theorem Bw {P:Program} {w w':World} {N:Nat} {K:KC} {SU:TypeId->Bool} {ti:TypeId->Option TI} {keep:∀ b,b<w.heap.size->K.S b} {ad:List Nat} {hd:ad.Nodup} {ha:kF K ad w} {β:Nat->Nat} {i:Nat} {t:TypeId} {cs:List AV} (h:jd (Ao P w N K SU ti keep ad hd ha) β w' i t cs) (j g:Nat) (hi:i=2*N+j) (hj:ad[j]? =some g):β i=g/\aW w' g t (cs.map (AV.leaf β)).toArray:=by
 have h1:iG N ad w i (β i):=h.new
 unfold iG at h1
 rw[if_pos aa,hi,Nat.add_sub_cancel_left,hj] at h1
 have h2:g=β i:=by rw[hi];simpa using h1
 exact⟨h2.symm,h2▸h.cls⟩
end
end Go.Proofs.YtlfdmhfhkgpmbaaGreat
