/-DD of the proof,laid behind one another. -/
import Derived.Test.YtlifeokjcgngjaaGreatKAdjustKnown3
import Derived.OpenShut
import Derived.WideShapes
import Derived.ChangeArms
import Derived.ChangeSlices
import Derived.Lib.VarintBits
set_option linter.all false
set_option maxHeartbeats 64000000
set_option maxRecDepth 4000
namespace Go.Proofs.YtlifeokjcgngjaaGreat
section
open Go.RowKit
attribute [local irreducible] aB VS
variable {w:World}
theorem lO {b off k:Nat} {u:Value} {z:Int} (hz:z=(k:Int)) (h:w.cell? ⟨b,off+k,none⟩=some u):∀ j v,[u][j]? =some v->w.cell? ((⟨b,off+z.toNat*1,none⟩:Addr).add j)=some v:=by
 subst hz;intro j v hj;rw[Addr.add_mid,dV,rB];cases j with
 | zero=>cases hj;exact h
 | succ j=>cases hj
variable {os xs ys:List Nat} {i x:Nat}
theorem Uw {k:Nat} (hx:xs[i]? =some x) (hk:ys.length<=k) (h:hval os+65536^(i+k)*0=hval (xs.take i)*hval ys+65536^i*(x*hval (ys.take k))):hval os=hval (xs.take (i+1))*hval ys:=by
 have e:hval (xs.take (i+1))=hval (xs.take i)+65536^i*x:=by
  rw[dc hx,ot,cw,gW (by have:=(cM.1 hx).1;omega)]
 rw[pY,nP,dM hk] at h;rw[e,ff,h,fX]
variable {c:Nat}
theorem PW {k n m:Nat} (hxh:jA xs) (hyh:jA ys) (hx:xs[i]? =some x) (hn:xs.length=n) (hm:ys.length=m) (hk:m<=k) (hc:0<c) (h:hval os+65536^(i+k)*c=hval (xs.take i)*hval ys+65536^i*(x*hval (ys.take k))):i+k<n+m+1:=by
 have hi:=(cM.1 hx).1
 have e:hval (xs.take (i+1))=hval (xs.take i)+65536^i*x:=by
  rw[dc hx,ot,cw,gW ae]
 have e3:ys.take k=ys:=dM ae
 have e2:hval os+65536^(i+k)*c=hval (xs.take (i+1))*hval ys:=by
  rw[e,ff,h,e3,fX]
 have b1:hval (xs.take (i+1))<65536^(i+1):=by
  have:=yY (xs:=xs.take (i+1)) (gi.take hxh _)
  rwa [cw,gW ae] at this
 have b2:hval ys<65536^m:=by have:=yY hyh;rwa [hm] at this
 have b3:hval (xs.take (i+1))*hval ys<65536^(i+1+m):=by
  rw[tX];exact Nat.mul_lt_mul'' b1 b2
 have b4:65536^(i+k)<=65536^(i+k)*c:=Hg _ hc;have:65536^(i+k)<65536^(i+1+m):=ae;have:=(Nat.pow_lt_pow_iff_right (show 1<65536 by omega)).1 this;omega
theorem PX {y o:Nat} (hx:x<65536) (hy:y<65536) (ho:o<65536) (hc:c<65536):x*y+o+c<4294967296:=by
 have h1:x*y<=65535*65535:=kD ae ae;omega
variable {P:Prop}
theorem di (h:P:=by (repeat first|exact aj|refine⟨rfl,?_⟩)):P:=h
theorem eh {A B:Prop} (h:A/\B:=by constructor <;> omega):A/\B:=h
theorem BO (va vb:Value) (n m:Nat) (xs ys:List Nat) (w:World) (hr:Rd w 1 va n (ints .i64 xs)) (hs:Rd w 1 vb m (ints .i64 ys)) (hx:jA xs) (hy:jA ys) (hn:n<=2147483656) (hm:m<=2147483656):
  Calls Tryz.prog 201 #[va,vb] w λe w'=>∃ v',e=.returned v'/\ic w' w.heap.size v' (halves (hval xs*hval ys)).length (halves (hval xs*hval ys))/\aD w w':=by
 obtain⟨p,c,rfl,eS,gv,gU⟩:=hr.i64;obtain⟨q,d,rfl,Tz,Ov,si⟩:=hs.i64;obtain⟨N,hN⟩:∃ N,N=n+m+1:=⟨_,aa⟩
 have hwN:IntKind.i64.wrap (IntKind.i64.wrap ((n:Int)+(m:Int))+1)=(N:Int):=by
  rw[cO ((n:Int)+(m:Int)) ae,cO _ ae];omega
 refine ai (C:=bd Tryz.prog w _) (args:=[_,_]) Tryz.func201 aa Tryz.ntmps201 (bF aa) ?_;refine af ?_;refine VO.fix 15 aa (ak (λz=>AV.val (.int .i64 z)) hwN) ?_;refine VO.cond aa ⟨aa,ae,by show (N:Int)*(24*1)<=_;omega⟩ (VO.Co 16 aa (EW _) (wV aa ?_));rw[dV];refine af ?_
 refine VS.loop (J:=λms L M w'=>∃ (i:Nat) (os:List Nat),i<=n/\ms=n-i/\L=[(0,.val (.slice p n c)),(1,.val (.slice q m d)),(5,.row 16 0 N N),(6,.val (.int .i64 (i:Int)))]/\M=[(16,(3,iv os))]/\
  os.length=N/\jA os/\hval os=hval (xs.take i)*hval ys) n ⟨_,_,?_,?_,?_,?_,⟨0,List.replicate N 0,ae,ae,rfl,rfl,cZ,gi.replicate ae _,by rw[List.take_zero];show val 65536 _=val 65536 []*_;rw[kf,val_nil,DM]⟩⟩ ?_
 ·exact di
 ·exact di
 ·rfl
 ·exact⟨.none (da _),aj⟩
 rintro ms L M w' ⟨i,os,hi,rfl,rfl,rfl,hol,hoh,hov⟩;refine af ?_;by_cases lV:i<n
 ·refine VS.aR aa (aw (aJ.2 lV)) ?_;refine af ?_;obtain⟨b1,o1,x,rfl,aU,im,pO⟩:=hr.cellAt lV;have pP:=hx.at im
  refine VS.loop (J:=λms L M w'=>∃ (k c':Nat) (os':List Nat),ms=N-(i+k)/\L=[(0,.val (.slice (some ⟨b1,o1,none⟩) n c)),(1,.val (.slice q m d)),(5,.row 16 0 N N),(6,.val (.int .i64 (i:Int))),(7,.val (.int .i64 (c':Int))),(8,.val (.int .i64 (k:Int)))]/\M=[(16,(3,iv os'))]/\
   os'.length=N/\jA os'/\c' <65536/\k<=N/\hval os' +65536^(i+k)*c'=hval (xs.take i)*hval ys+65536^i*(x*hval (ys.take k))) (N-i) ⟨_,_,?_,?_,?_,?_,⟨0,0,os,ae,rfl,rfl,hol,hoh,ae,ae,by rw[List.take_zero,pY,hov];show _=_+65536^i*(x*0);simp⟩⟩ ?_
  ·exact di
  ·exact di
  ·rfl
  ·exact⟨.none (da _),aj⟩
  rintro ms L M w'' ⟨k,c',os',rfl,rfl,rfl,hol',hoh',hc',hkN,hv⟩;refine af ?_;have step:∀ (hik:i+k<N),True:=λ_=>trivial;by_cases hgo:k<m\/0<c'
  ·have hik:i+k<N:=by
    rcases tU k m with e|e
    ·omega
    ·rw[hN];exact PW hx hy im gU si e ae hv
   obtain⟨o,ho⟩:∃ o,os'[i+k]? =some o:=⟨_,bj ae⟩;have ho4:=hoh'.at ho;have TJ:IntKind.i64.wrap ((i:Int)+(k:Int))=((i+k:Nat):Int):=by rw[cO _ ae];omega
   have hwk1:IntKind.i64.wrap ((k:Int)+1)=((k+1:Nat):Int):=by rw[cO _ ae];omega
   have hwoc:IntKind.i64.wrap ((o:Int)+(c':Int))=((o+c':Nat):Int):=by rw[cO _ ae];omega
   by_cases OW:k<m
   ·obtain⟨b2,o2,y,rfl,bu,uf,Gx⟩:=hs.cellAt OW;have Ia:=hy.at uf;have yM:=PX pP Ia ho4 hc';obtain⟨s,hsd⟩:∃ s,s=x*y+o+c':=⟨_,aa⟩;have Eb:(x:Int)*(y:Int)=((x*y:Nat):Int):=cZ
    have hws:IntKind.i64.wrap (IntKind.i64.wrap ((o:Int)+(c':Int))+IntKind.i64.wrap ((x:Int)*(y:Int)))=(s:Int):=by
     rw[hwoc,Eb,cO ((x*y:Nat):Int) ae,cO _ ae];omega
    have hst:=zf ho hsd hv
    have hyt:hval (ys.take (k+1))=hval (ys.take k)+65536^k*y:=by
     rw[dc uf,ot,cw,gW (by have:=(cM.1 uf).1;omega)]
    rw[<-hyt] at hst
    have hwc:IntKind.i64.wrap ((s:Int).tdiv 65536)=((s/65536:Nat):Int):=by
     rw[DF ae,cO _ ae];simp
    have hwm:(s:Int).tmod 65536=((s%65536:Nat):Int):=by rw[He ae];simp
    refine VO.fix 27 aa (ak (λb=>AV.val (.bool b)) (aw (aJ.2 OW))) ?_;refine af ?_;refine VO.fix 36 aa (ak (λz=>AV.val (.int .i64 z)) TJ) ?_;refine VO.cond aa eh (wV aa ?_);refine VO.mv aa [.val (.int .i64 (o:Int))] aa (zg ho (by rw[dV];omega)) (wV aa ?_);refine af ?_;refine VS.aR aa (aw (aJ.2 OW)) ?_;refine af ?_;refine VO.cond aa eh (wV aa ?_);refine VO.read aa [.int .i64 (x:Int)] aa (lO aa pO) (wV aa ?_);refine VO.cond aa eh (wV aa ?_);refine VO.read aa [.int .i64 (y:Int)] aa (lO aa Gx) (wV aa ?_);refine af ?_;refine VO.fix 59 aa (ak (λz=>AV.val (.int .i64 z)) TJ) ?_;refine VO.fix 61 aa (ak (λz=>AV.val (.int .i64 z)) (by rw[hws,hwm])) ?_;refine VO.cond aa eh (wV aa ?_);refine VO.cond aa (by show 0+((i+k:Nat):Int).toNat*1+1<=_;rw[dV,eb];omega) (wV aa ?_);refine af ?_;refine VS.back (N-(i+(k+1))) ae ⟨_,_,?_,?_,?_,?_,⟨k+1,s/65536,os'.set (i+k) (s%65536),aa,aa,aa,by simp[hol'],hoh'.set (fY _ ae) _,ae,ae,hst⟩⟩
    ·refine⟨aa,aa,aa,aa,ak (λz=>some (AV.val (.int .i64 z))) (by rw[hws,hwc]),ak (λz=>some (AV.val (.int .i64 z))) hwk1,aj⟩
    ·exact⟨ak (λl=>some (_,l)) (Dt ae (by rw[dV];omega)),aj⟩
    ·rfl
    ·exact⟨.none (da _),aj⟩
   ·have YI:0<c':=by omega
    obtain⟨s,hsd⟩:∃ s,s=x*0+o+c':=⟨_,aa⟩;have hws:IntKind.i64.wrap ((o:Int)+(c':Int))=(s:Int):=by rw[hwoc];omega
    have hst:=zf ho hsd hv;have hyt:hval (ys.take k)+65536^k*0=hval (ys.take (k+1)):=by rw[dM ae,dM ae];rfl
    rw[hyt] at hst
    have hwc:IntKind.i64.wrap ((s:Int).tdiv 65536)=((s/65536:Nat):Int):=by
     rw[DF ae,cO _ ae];simp
    have hwm:(s:Int).tmod 65536=((s%65536:Nat):Int):=by rw[He ae];simp
    refine VO.fix 27 aa (ak (λb=>AV.val (.bool b)) (az (λe=>OW (aJ.1 e)))) ?_;refine af ?_;refine VS.aR aa (aw ae) ?_;refine af ?_;refine VO.fix 36 aa (ak (λz=>AV.val (.int .i64 z)) TJ) ?_;refine VO.cond aa eh (wV aa ?_);refine VO.mv aa [.val (.int .i64 (o:Int))] aa (zg ho (by rw[dV];omega)) (wV aa ?_);refine af ?_;refine VS.aO aa (az (λe=>OW (aJ.1 e))) ?_;refine af ?_;refine VO.fix 59 aa (ak (λz=>AV.val (.int .i64 z)) TJ) ?_;refine VO.fix 61 aa (ak (λz=>AV.val (.int .i64 z)) (by rw[hws,hwm])) ?_;refine VO.cond aa eh (wV aa ?_);refine VO.cond aa (by show 0+((i+k:Nat):Int).toNat*1+1<=_;rw[dV,eb];omega) (wV aa ?_);refine af ?_;refine VS.back (N-(i+(k+1))) ae ⟨_,_,?_,?_,?_,?_,⟨k+1,s/65536,os'.set (i+k) (s%65536),aa,aa,aa,by simp[hol'],hoh'.set (fY _ ae) _,ae,ae,hst⟩⟩
    ·refine⟨aa,aa,aa,aa,ak (λz=>some (AV.val (.int .i64 z))) (by rw[hws,hwc]),ak (λz=>some (AV.val (.int .i64 z))) hwk1,aj⟩
    ·exact⟨ak (λl=>some (_,l)) (Dt ae (by rw[dV];omega)),aj⟩
    ·rfl
    ·exact⟨.none (da _),aj⟩
  ·have OW:¬ (k<m):=by omega
   have YI:c'=0:=ae;subst YI;refine VO.fix 27 aa (ak (λb=>AV.val (.bool b)) (az (λe=>OW (aJ.1 e)))) ?_;refine af ?_;have GJ:IntKind.i64.wrap ((i:Int)+1)=((i+1:Nat):Int):=by rw[cO _ ae];omega
   refine VS.back (n-(i+1)) ae ⟨_,_,?_,?_,?_,?_,⟨i+1,os',ae,aa,aa,aa,hol',hoh',Uw im ae hv⟩⟩
   ·exact⟨aa,aa,aa,ak (λz=>some (AV.val (.int .i64 z))) GJ,aj⟩
   ·exact di
   ·rfl
   ·exact⟨.none (da _),aj⟩
 ·obtain rfl:i=n:=by omega
  refine VS.aO aa (az (λe=>lV (aJ.1 e))) ?_;refine af ?_;rw[dM ae] at hov;refine VO.IH aa (fk Bi) (λw1 β k1 b1 ho=>(kH (some ⟨β 16,0,none⟩) N N os w1 (qu (spare:=[]) (by rw[jQ];exact ho.own 16 (.base (ay.2 aa)) _ _ aa) hol (bl _) (by simp only[maxLen];omega)) hoh).mono ?_);rintro e w2 ⟨⟨mm,Ik,rfl,hcut⟩,rfl⟩;refine⟨.row 16 0 mm N,aa,λi hi=>⟨hi,by cases ay.1 hi;exact Hj _⟩,aD.refl _,λk2 _ b2=>wV aa ?_⟩;refine af ?_;refine VS.lJ (cS _ _) aa (λwz β kz bz he=> ?_);have zU:=Du hcut Ik hol;rw[hov] at hcut zU;refine⟨_,aa,?_,bz⟩;have:=vm (spare:=[]) (by rw[jQ];exact he.own 16 _ _ aa) hol Ik (bl _) (by simp only[maxLen];omega) (by simpa using hol);rw[<-hcut] at this;show ic wz w.heap.size (.slice (some ⟨β 16,0,none⟩) mm N) _ _;rw[<-zU];exact this
set_option maxRecDepth 4000
variable {A B:Nat}
theorem xe (h:(halves A).length<(halves B).length):A<B:=by
 rcases tU A B with e|e
 ·exact e
 ·have:(halves B).length<=(halves A).length:=fo ae e;omega
variable {a:Nat}
theorem xf {k b:Nat} (ha:(halves A)[k]? =some a) (hb:(halves B)[k]? =some b) (CX:a<b) (hh:(halves A).drop (k+1)=(halves B).drop (k+1)):A<B:=by
 have:=oM (B:=65536) (dt A) ha hb CX hh;have e1:val 65536 (halves A)=A:=cj A;have e2:val 65536 (halves B)=B:=cj B;omega
theorem Ux {k:Nat} (hx:xs[k]? =some x) (hy:ys[k]? =some x) (h:xs.drop (k+1)=ys.drop (k+1)):xs.drop k=ys.drop k:=by
 obtain⟨l1,e1⟩:=cM.1 hx;obtain⟨l2,e2⟩:=cM.1 hy;rw[tN l1,tN l2,e1,e2,h]
theorem PY (va vb:Value) (n m A B:Nat) (w:World) (hr:Rd w 1 va n (ints .i64 (halves A))) (hs:Rd w 1 vb m (ints .i64 (halves B))):
  Calls Tryz.prog 313 #[va,vb] w λe w'=>e=.returned (.bool (decide (A<B)))/\aD w w':=by
 obtain⟨p,c,rfl,eS,gv,gU⟩:=hr.i64;obtain⟨q,d,rfl,Tz,Ov,si⟩:=hs.i64;refine ai (C:=bd Tryz.prog w _) (args:=[_,_]) Tryz.func313 aa Tryz.ntmps313 (bF aa) ?_;refine af ?_;by_cases hnm:n=m
 ·subst hnm;refine VS.aO aa cZ ?_;refine af ?_;have hw0:IntKind.i64.wrap ((n:Int)-1)=(n:Int)-1:=cO _ ae;refine VS.loop (J:=λms L M w'=>∃ (k:Nat),k<=n/\ms=k/\L=[(0,.val (.slice p n c)),(1,.val (.slice q n d)),(5,.val (.int .i64 ((k:Int)-1)))]/\M=[]/\(halves A).drop k=(halves B).drop k) n ⟨_,_,?_,?_,?_,?_,⟨n,bl _,aa,aa,aa,by rw[pU ae,pU ae]⟩⟩ ?_
  ·exact⟨aa,aa,ak (λz=>some (AV.val (.int .i64 z))) hw0,aj⟩
  ·exact di
  ·rfl
  ·exact aj
  rintro ms L M w' ⟨k,hk,hms,rfl,rfl,hd⟩;refine af ?_;by_cases KW:k=0
  ·subst KW;refine VS.aO aa (az ae) ?_;refine af ?_;refine aC ?_;intro wz kz bz;have:A=B:=PO (by simpa using hd);exact⟨by rw[this,az (Nat.lt_irrefl _)];rfl,bz⟩
  ·obtain⟨j,rfl⟩:∃ j,k=j+1:=⟨k-1,ae⟩;have hj:((j+1:Nat):Int)-1=(j:Int):=ae;refine VS.aR aa (aw ae) ?_;refine VS.fix 5 aa (ak (λz=>AV.val (.int .i64 z)) hj) ?_;refine af ?_;obtain⟨b1,o1,x,rfl,aU,im,pO⟩:=hr.cellAt (show j<n by omega);obtain⟨b2,o2,y,rfl,bu,uf,Gx⟩:=hs.cellAt (show j<n by omega);refine VO.cond aa eh (wV aa ?_);refine VO.read aa [.int .i64 (x:Int)] aa (lO aa pO) (wV aa ?_);refine VO.cond aa eh (wV aa ?_);refine VO.read aa [.int .i64 (y:Int)] aa (lO aa Gx) (wV aa ?_);refine af ?_;by_cases Eb:x=y
   ·subst Eb;refine VS.aO aa cZ ?_;refine af ?_;have De:IntKind.i64.wrap ((j:Int)-1)=(j:Int)-1:=cO _ ae;refine VS.back j ae ⟨_,_,?_,?_,?_,?_,⟨j,ae,aa,aa,aa,Ux im uf hd⟩⟩
    ·exact⟨aa,aa,ak (λz=>some (AV.val (.int .i64 z))) De,aj⟩
    ·exact di
    ·rfl
    ·exact aj
   ·refine VS.aR aa (by rw[bne_iff_ne];omega) ?_;refine af ?_;refine VO.cond aa eh (wV aa ?_);refine VO.read aa [.int .i64 (x:Int)] aa (lO aa pO) (wV aa ?_);refine VO.cond aa eh (wV aa ?_);refine VO.read aa [.int .i64 (y:Int)] aa (lO aa Gx) (wV aa ?_);refine af ?_;refine aC ?_;intro wz kz bz;refine⟨?_,bz⟩;rcases Nat.lt_or_gt_of_ne Eb with e|e
    ·rw[aw (xf im uf e hd)];exact ak (λb=>Ending.returned (.bool b)) (aw (aJ.2 e))
    ·have:=xf uf im e hd.symm;have hAB:decide (A<B)=false:=az ae;rw[hAB];exact ak (λb=>Ending.returned (.bool b)) (az ae)
 ·refine VS.aR aa (by rw[bne_iff_ne];omega) ?_;refine af ?_;refine aC ?_;intro wz kz bz;refine⟨?_,bz⟩;rcases Nat.lt_or_gt_of_ne hnm with e|e
  ·rw[aw (xe ae)];exact ak (λb=>Ending.returned (.bool b)) (aw (aJ.2 e))
  ·have:=xe (A:=B) (B:=A) ae;have hAB:decide (A<B)=false:=az ae;rw[hAB];exact ak (λb=>Ending.returned (.bool b)) (az ae)
variable {ds us bs:List Nat} {t br:Nat}
theorem Uy {b d ux:Nat} (hl:ds.length=i) (ha:us.getD i 0=a) (hb:bs.getD i 0=b) (hs:d+(t*b+br)=a+65536*ux)
  (h:hval ds+t*hval (bs.take i)=hval (us.take i)+65536^i*br):hval (ds++[d])+t*hval (bs.take (i+1))=hval (us.take (i+1))+65536^(i+1)*ux:=by
 have e1:hval (us.take (i+1))=hval (us.take i)+65536^i*a:=by rw[<-ha];exact dZ _ _ _
 have e2:hval (bs.take (i+1))=hval (bs.take i)+65536^i*b:=by rw[<-hb];exact dZ _ _ _
 have e3:65536^i*d+(65536^i*(t*b)+65536^i*br)=65536^i*a+65536^i*(65536*ux):=by rw[<-dp,<-dp,hs,dp]
 have e4:t*(65536^i*b)=65536^i*(t*b):=Hm _ _ _;rw[ot,hl,e1,e2,dp t,e4,ir,fX];omega
theorem YQ {n:Nat} (hh:jA ds) (hl:ds.length=n) (ha:us.length=n) (hle:t*hval bs<=hval us) (hb:t=0\/bs.length<=n)
  (h:hval ds+t*hval (bs.take n)=hval (us.take n)+65536^n*br):hval ds=hval us-t*hval bs:=by
 have e1:us.take n=us:=dM ae
 have e2:t*hval (bs.take n)=t*hval bs:=by
  rcases hb with e|e
  ·rw[e,DM,DM]
  ·rw[dM e]
 rw[e1,e2] at h;have hlt:=yY hh;rw[hl] at hlt
 have:br=0:=by
  rcases oH br with e|e
  ·exact e
  ·have:=Hg (65536^n) e;omega
 rw[this,pY] at h;omega
def RowAt (d:Nat) (xs:List Nat) (v:AV) (M:List (Nat×(TypeId×List AV))):Prop:=
 (xs=[]/\v=.val (.slice none 0 0)/\M=[])\/∃ cap spare,v=.row d 0 xs.length cap/\M=[(d,(3,iv xs++spare))]/\xs.length<=cap/\cap<=9223372036854775807/\xs.length+spare.length=cap/\spare.all bO=true/\bM spare=[]
theorem EX (va vb:Value) (n m t A B:Nat) (w:World) (hr:Rd w 1 va n (ints .i64 (halves A))) (hs:Rd w 1 vb m (ints .i64 (halves B))) (ht:t<65536) (hle:t*B<=A) (hn:n<=2147483656):
  Calls Tryz.prog 297 #[va,vb,.int .i64 (t:Int)] w λe w'=>∃ v',e=.returned v'/\ic w' w.heap.size v' (halves (A-t*B)).length (halves (A-t*B))/\aD w w':=by
 obtain⟨p,c,rfl,eS,gv,gU⟩:=hr.i64;obtain⟨q,d,rfl,Tz,Ov,si⟩:=hs.i64;refine ai (C:=bd Tryz.prog w _) (args:=[_,_,_]) Tryz.func297 aa Tryz.ntmps297 (bF aa) ?_;refine af ?_
 refine VS.loop (J:=λms L M w'=>∃ (i br:Nat) (ds:List Nat) (v:AV),i<=n/\ms=n-i/\L=[(0,.val (.slice p n c)),(1,.val (.slice q m d)),(2,.val (.int .i64 (t:Int))),(7,v),(8,.val (.int .i64 (br:Int))),(9,.val (.int .i64 (i:Int)))]/\
  RowAt 47 ds v M/\ds.length=i/\jA ds/\br<=t/\hval ds+t*hval ((halves B).take i)=hval ((halves A).take i)+65536^i*br) n ⟨_,_,?_,?_,?_,?_,⟨0,0,[],.val (.slice none 0 0),ae,ae,rfl,.inl ⟨rfl,rfl,rfl⟩,rfl,gi.nil _,ae,by simp[hval,val]⟩⟩ ?_
 ·exact di
 ·exact di
 ·rfl
 ·exact aj
 rintro ms L M w' ⟨i,br,ds,v,hi,rfl,rfl,fx,Ck,hdh,hbr,hv⟩;by_cases lV:i<n
 ·obtain⟨b1,o1,x,rfl,aU,im,pO⟩:=hr.cellAt lV;have pP:=(dt A).at im;have hxg:(halves A).getD i 0=x:=by rw[fG,im];rfl
  obtain⟨y,hyg⟩:∃ y,(halves B).getD i 0=y:=⟨_,aa⟩;have Ia:y<65536:=hyg▸ou (dt B) i;have hty:t*y<=65535*65535:=kD ae ae;obtain⟨X,hX⟩:∃ X:Int,X=(x:Int)-br-(t*y:Nat):=⟨_,aa⟩
  obtain⟨ux,ta⟩:∃ ux:Nat,(ux:Int)=(if X<0 then (65535-X)/65536 else 0)/\ux<=t:=by
   by_cases h0:X<0
   ·refine⟨((65535-X)/65536).toNat,by rw[if_pos h0];omega,?_⟩;have:t*y<=t*65535:=lZ _ ae;omega
   ·exact⟨0,by rw[if_neg h0];rfl,ae⟩
  obtain⟨dg,WO⟩:∃ dg:Nat,(dg:Int)=X+65536*ux/\dg<65536:=by
   refine⟨(X+65536*ux).toNat,?_,?_⟩
   ·by_cases h0:X<0
    ·rw[if_pos h0] at ta;omega
    ·omega
   ·by_cases h0:X<0
    ·rw[if_pos h0] at ta;omega
    ·rw[if_neg h0] at ta;omega
  have hsum:dg+(t*y+br)=x+65536*ux:=ae;have hst:=Uy Ck hxg hyg hsum hv;have De:IntKind.i64.wrap ((x:Int)-(br:Int))=(x:Int)-br:=cO _ ae;have GJ:IntKind.i64.wrap ((i:Int)+1)=((i+1:Nat):Int):=by rw[cO _ ae];omega
  have Cm:t*y<=t*65535:=lZ _ ae;rcases fx with ⟨rfl,rfl,rfl⟩|⟨cap,spare,rfl,rfl,h1,h2,h3,h4,h5⟩
  all_goals refine af ?_
  ·by_cases him:i<m
   ·obtain⟨b2,o2,y',rfl,bu,uf,Gx⟩:=hs.cellAt him;obtain rfl:y'=y:=by rw[fG,uf] at hyg;exact hyg
    have hwX:IntKind.i64.wrap (IntKind.i64.wrap ((x:Int)-(br:Int))-IntKind.i64.wrap ((t:Int)*(y':Int)))=X:=by
     rw[De,show (t:Int)*(y':Int)=((t*y':Nat):Int) by simp,cO ((t*y':Nat):Int) ae,cO _ ae];omega
    refine VS.aR aa (aw (aJ.2 lV)) ?_;refine af ?_;refine VO.cond aa eh (wV aa ?_);refine VO.read aa [.int .i64 (x:Int)] aa (lO aa pO) (wV aa ?_);refine af ?_;refine VS.aR aa (aw (aJ.2 him)) ?_;refine af ?_;refine VO.cond aa eh (wV aa ?_);refine VO.read aa [.int .i64 (y':Int)] aa (lO aa Gx) (wV aa ?_);refine VO.fix 10 aa (ak (λz=>AV.val (.int .i64 z)) hwX) ?_;refine af ?_;by_cases h0:X<0
    ·rw[if_pos h0] at ta
     have YR:IntKind.i64.wrap ((IntKind.i64.wrap (65535-X)).tdiv 65536)=(ux:Int):=by
      rw[cO (65535-X) ae,DF ae,cO _ ae,ta.1]
     have hwd:IntKind.i64.wrap (X+IntKind.i64.wrap (65536*(ux:Int)))=(dg:Int):=by
      rw[cO (65536*(ux:Int)) ae,cO _ ae,WO.1]
     refine VS.aR aa (aw h0) ?_;refine af ?_
     ·refine VO.Co 46 aa (ak (λz=>[AV.val (.int .i64 z)]) (show _=(dg:Int) by rw[YR,hwd])) ?_
      refine VO.app (cS _ _) (t:=315) (e:=3) (sz:=1) (n:=0) (c:=0) (mm:=1) (known:=[]) (spare:=[]) (news:=iv [dg]) (dst:=47) (del:=none) aa aa aa aa aa aa aa aa (bF aa) aa (.inl ⟨aa,aa,aa,aa,aa,aa,ae⟩) (.inl aa) aa aa ae ae ⟨aa,aa,da _⟩ ⟨aa,aa,rQ _⟩ aa ae
       (λw1 β k1 b1 ho=>⟨_,_,rfl,.inr ⟨β 46,0,rfl,jB (rest:=[]) (ho.own 46 (.base (pV _ (ay.2 rfl))) _ _ rfl) rfl⟩⟩)
       (λw2 cap' bP ρ k2 b2 gH rh pR hlen mQ jK=>wV rfl ?_)
      refine af ?_;refine VS.back (n-(i+1)) ae ⟨_,_,?_,?_,?_,?_,⟨i+1,ux,[dg],.row 47 0 ([dg]).length cap',ae,aa,aa,.inr ⟨cap',bP,aa,aa,by simp;omega,pR,?_,mQ,jK⟩,by simp at Ck ⊢;omega,gi.cons WO.2 (gi.nil _),ta.2,hst⟩⟩
      ·exact⟨aa,aa,aa,aa,ak (λz=>some (AV.val (.int .i64 z))) YR,ak (λz=>some (AV.val (.int .i64 z))) GJ,aj⟩
      ·exact⟨aa,aj⟩
      ·rfl
      ·exact⟨.append (.none (da _)) (.none jK),aj⟩
      ·simpa [eb,Nat.add_assoc] using hlen
    ·rw[if_neg h0] at ta;have sj:ux=0:=ae;subst sj;refine VS.aO aa (az h0) ?_;refine af ?_
     ·refine VO.Co 46 aa (ak (λz=>[AV.val (.int .i64 z)]) (show X=(dg:Int) by omega)) ?_
      refine VO.app (cS _ _) (t:=315) (e:=3) (sz:=1) (n:=0) (c:=0) (mm:=1) (known:=[]) (spare:=[]) (news:=iv [dg]) (dst:=47) (del:=none) aa aa aa aa aa aa aa aa (bF aa) aa (.inl ⟨aa,aa,aa,aa,aa,aa,ae⟩) (.inl aa) aa aa ae ae ⟨aa,aa,da _⟩ ⟨aa,aa,rQ _⟩ aa ae
       (λw1 β k1 b1 ho=>⟨_,_,rfl,.inr ⟨β 46,0,rfl,jB (rest:=[]) (ho.own 46 (.base (pV _ (ay.2 rfl))) _ _ rfl) rfl⟩⟩)
       (λw2 cap' bP ρ k2 b2 gH rh pR hlen mQ jK=>wV rfl ?_)
      refine af ?_;refine VS.back (n-(i+1)) ae ⟨_,_,?_,?_,?_,?_,⟨i+1,0,[dg],.row 47 0 ([dg]).length cap',ae,aa,aa,.inr ⟨cap',bP,aa,aa,by simp;omega,pR,?_,mQ,jK⟩,by simp at Ck ⊢;omega,gi.cons WO.2 (gi.nil _),eK _,hst⟩⟩
      ·exact⟨aa,aa,aa,aa,aa,ak (λz=>some (AV.val (.int .i64 z))) GJ,aj⟩
      ·exact⟨aa,aj⟩
      ·rfl
      ·exact⟨.append (.none (da _)) (.none jK),aj⟩
      ·simpa [eb,Nat.add_assoc] using hlen
   ·have Xk:y=0:=by rw[kF ae] at hyg;omega
    have hwX:IntKind.i64.wrap ((x:Int)-(br:Int))=X:=by rw[De,hX,Xk,pY];omega
    refine VS.aR aa (aw (aJ.2 lV)) ?_;refine af ?_;refine VO.cond aa eh (wV aa ?_);refine VO.read aa [.int .i64 (x:Int)] aa (lO aa pO) (wV aa ?_);refine VO.fix 10 aa (ak (λz=>AV.val (.int .i64 z)) hwX) ?_;refine af ?_;refine VS.aO aa (az (λe=>him (aJ.1 e))) ?_;refine af ?_;by_cases h0:X<0
    ·rw[if_pos h0] at ta
     have YR:IntKind.i64.wrap ((IntKind.i64.wrap (65535-X)).tdiv 65536)=(ux:Int):=by
      rw[cO (65535-X) ae,DF ae,cO _ ae,ta.1]
     have hwd:IntKind.i64.wrap (X+IntKind.i64.wrap (65536*(ux:Int)))=(dg:Int):=by
      rw[cO (65536*(ux:Int)) ae,cO _ ae,WO.1]
     refine VS.aR aa (aw h0) ?_;refine af ?_
     ·refine VO.Co 46 aa (ak (λz=>[AV.val (.int .i64 z)]) (show _=(dg:Int) by rw[YR,hwd])) ?_
      refine VO.app (cS _ _) (t:=315) (e:=3) (sz:=1) (n:=0) (c:=0) (mm:=1) (known:=[]) (spare:=[]) (news:=iv [dg]) (dst:=47) (del:=none) aa aa aa aa aa aa aa aa (bF aa) aa (.inl ⟨aa,aa,aa,aa,aa,aa,ae⟩) (.inl aa) aa aa ae ae ⟨aa,aa,da _⟩ ⟨aa,aa,rQ _⟩ aa ae
       (λw1 β k1 b1 ho=>⟨_,_,rfl,.inr ⟨β 46,0,rfl,jB (rest:=[]) (ho.own 46 (.base (pV _ (ay.2 rfl))) _ _ rfl) rfl⟩⟩)
       (λw2 cap' bP ρ k2 b2 gH rh pR hlen mQ jK=>wV rfl ?_)
      refine af ?_;refine VS.back (n-(i+1)) ae ⟨_,_,?_,?_,?_,?_,⟨i+1,ux,[dg],.row 47 0 ([dg]).length cap',ae,aa,aa,.inr ⟨cap',bP,aa,aa,by simp;omega,pR,?_,mQ,jK⟩,by simp at Ck ⊢;omega,gi.cons WO.2 (gi.nil _),ta.2,hst⟩⟩
      ·exact⟨aa,aa,aa,aa,ak (λz=>some (AV.val (.int .i64 z))) YR,ak (λz=>some (AV.val (.int .i64 z))) GJ,aj⟩
      ·exact⟨aa,aj⟩
      ·rfl
      ·exact⟨.append (.none (da _)) (.none jK),aj⟩
      ·simpa [eb,Nat.add_assoc] using hlen
    ·rw[if_neg h0] at ta;have sj:ux=0:=ae;subst sj;refine VS.aO aa (az h0) ?_;refine af ?_
     ·refine VO.Co 46 aa (ak (λz=>[AV.val (.int .i64 z)]) (show X=(dg:Int) by omega)) ?_
      refine VO.app (cS _ _) (t:=315) (e:=3) (sz:=1) (n:=0) (c:=0) (mm:=1) (known:=[]) (spare:=[]) (news:=iv [dg]) (dst:=47) (del:=none) aa aa aa aa aa aa aa aa (bF aa) aa (.inl ⟨aa,aa,aa,aa,aa,aa,ae⟩) (.inl aa) aa aa ae ae ⟨aa,aa,da _⟩ ⟨aa,aa,rQ _⟩ aa ae
       (λw1 β k1 b1 ho=>⟨_,_,rfl,.inr ⟨β 46,0,rfl,jB (rest:=[]) (ho.own 46 (.base (pV _ (ay.2 rfl))) _ _ rfl) rfl⟩⟩)
       (λw2 cap' bP ρ k2 b2 gH rh pR hlen mQ jK=>wV rfl ?_)
      refine af ?_;refine VS.back (n-(i+1)) ae ⟨_,_,?_,?_,?_,?_,⟨i+1,0,[dg],.row 47 0 ([dg]).length cap',ae,aa,aa,.inr ⟨cap',bP,aa,aa,by simp;omega,pR,?_,mQ,jK⟩,by simp at Ck ⊢;omega,gi.cons WO.2 (gi.nil _),eK _,hst⟩⟩
      ·exact⟨aa,aa,aa,aa,aa,ak (λz=>some (AV.val (.int .i64 z))) GJ,aj⟩
      ·exact⟨aa,aj⟩
      ·rfl
      ·exact⟨.append (.none (da _)) (.none jK),aj⟩
      ·simpa [eb,Nat.add_assoc] using hlen
  ·by_cases him:i<m
   ·obtain⟨b2,o2,y',rfl,bu,uf,Gx⟩:=hs.cellAt him;obtain rfl:y'=y:=by rw[fG,uf] at hyg;exact hyg
    have hwX:IntKind.i64.wrap (IntKind.i64.wrap ((x:Int)-(br:Int))-IntKind.i64.wrap ((t:Int)*(y':Int)))=X:=by
     rw[De,show (t:Int)*(y':Int)=((t*y':Nat):Int) by simp,cO ((t*y':Nat):Int) ae,cO _ ae];omega
    refine VS.aR aa (aw (aJ.2 lV)) ?_;refine af ?_;refine VO.cond aa eh (wV aa ?_);refine VO.read aa [.int .i64 (x:Int)] aa (lO aa pO) (wV aa ?_);refine af ?_;refine VS.aR aa (aw (aJ.2 him)) ?_;refine af ?_;refine VO.cond aa eh (wV aa ?_);refine VO.read aa [.int .i64 (y':Int)] aa (lO aa Gx) (wV aa ?_);refine VO.fix 10 aa (ak (λz=>AV.val (.int .i64 z)) hwX) ?_;refine af ?_;by_cases h0:X<0
    ·rw[if_pos h0] at ta
     have YR:IntKind.i64.wrap ((IntKind.i64.wrap (65535-X)).tdiv 65536)=(ux:Int):=by
      rw[cO (65535-X) ae,DF ae,cO _ ae,ta.1]
     have hwd:IntKind.i64.wrap (X+IntKind.i64.wrap (65536*(ux:Int)))=(dg:Int):=by
      rw[cO (65536*(ux:Int)) ae,cO _ ae,WO.1]
     refine VS.aR aa (aw h0) ?_;refine af ?_
     ·refine VO.Co 46 aa (ak (λz=>[AV.val (.int .i64 z)]) (show _=(dg:Int) by rw[YR,hwd])) ?_
      refine VO.app (cS _ _) (t:=315) (e:=3) (sz:=1) (n:=ds.length) (c:=cap) (mm:=1) (known:=iv ds) (spare:=spare) (news:=iv [dg]) (dst:=47) (del:=some 47) aa aa aa aa aa aa aa aa (bF aa) aa (.inr ⟨47,aa,aa,aa⟩) (.inr aa) (by rw[eb];omega) (by rw[fH,eb];omega) h1 h2 ⟨da _,h5,da _⟩ ⟨rQ _,h4,rQ _⟩ aa ae
       (λw1 β k1 b1 ho=>⟨_,_,rfl,.inr ⟨β 46,0,rfl,jB (rest:=[]) (ho.own 46 (.base (pV _ (ay.2 rfl))) _ _ rfl) rfl⟩⟩)
       (λw2 cap' bP ρ k2 b2 gH rh pR hlen mQ jK=>wV rfl ?_)
      refine af ?_;refine VS.back (n-(i+1)) ae ⟨_,_,?_,?_,?_,?_,⟨i+1,ux,ds++[dg],.row 47 0 (ds++[dg]).length cap',ae,aa,aa,.inr ⟨cap',bP,aa,aa,by simp;omega,pR,?_,mQ,jK⟩,by simp[Ck],gi.append hdh (gi.cons WO.2 (gi.nil _)),ta.2,hst⟩⟩
      ·exact⟨aa,aa,aa,ak (λz=>some (AV.row 47 0 z cap')) cZ,ak (λz=>some (AV.val (.int .i64 z))) YR,ak (λz=>some (AV.val (.int .i64 z))) GJ,aj⟩
      ·exact⟨ak (λl=>some (_,l++bP)) (vS _ _).symm,aj⟩
      ·rfl
      ·exact⟨.append (.none (da _)) (.none jK),aj⟩
      ·simpa [eb,Nat.add_assoc] using hlen
    ·rw[if_neg h0] at ta;have sj:ux=0:=ae;subst sj;refine VS.aO aa (az h0) ?_;refine af ?_
     ·refine VO.Co 46 aa (ak (λz=>[AV.val (.int .i64 z)]) (show X=(dg:Int) by omega)) ?_
      refine VO.app (cS _ _) (t:=315) (e:=3) (sz:=1) (n:=ds.length) (c:=cap) (mm:=1) (known:=iv ds) (spare:=spare) (news:=iv [dg]) (dst:=47) (del:=some 47) aa aa aa aa aa aa aa aa (bF aa) aa (.inr ⟨47,aa,aa,aa⟩) (.inr aa) (by rw[eb];omega) (by rw[fH,eb];omega) h1 h2 ⟨da _,h5,da _⟩ ⟨rQ _,h4,rQ _⟩ aa ae
       (λw1 β k1 b1 ho=>⟨_,_,rfl,.inr ⟨β 46,0,rfl,jB (rest:=[]) (ho.own 46 (.base (pV _ (ay.2 rfl))) _ _ rfl) rfl⟩⟩)
       (λw2 cap' bP ρ k2 b2 gH rh pR hlen mQ jK=>wV rfl ?_)
      refine af ?_;refine VS.back (n-(i+1)) ae ⟨_,_,?_,?_,?_,?_,⟨i+1,0,ds++[dg],.row 47 0 (ds++[dg]).length cap',ae,aa,aa,.inr ⟨cap',bP,aa,aa,by simp;omega,pR,?_,mQ,jK⟩,by simp[Ck],gi.append hdh (gi.cons WO.2 (gi.nil _)),eK _,hst⟩⟩
      ·exact⟨aa,aa,aa,ak (λz=>some (AV.row 47 0 z cap')) cZ,aa,ak (λz=>some (AV.val (.int .i64 z))) GJ,aj⟩
      ·exact⟨ak (λl=>some (_,l++bP)) (vS _ _).symm,aj⟩
      ·rfl
      ·exact⟨.append (.none (da _)) (.none jK),aj⟩
      ·simpa [eb,Nat.add_assoc] using hlen
   ·have Xk:y=0:=by rw[kF ae] at hyg;omega
    have hwX:IntKind.i64.wrap ((x:Int)-(br:Int))=X:=by rw[De,hX,Xk,pY];omega
    refine VS.aR aa (aw (aJ.2 lV)) ?_;refine af ?_;refine VO.cond aa eh (wV aa ?_);refine VO.read aa [.int .i64 (x:Int)] aa (lO aa pO) (wV aa ?_);refine VO.fix 10 aa (ak (λz=>AV.val (.int .i64 z)) hwX) ?_;refine af ?_;refine VS.aO aa (az (λe=>him (aJ.1 e))) ?_;refine af ?_;by_cases h0:X<0
    ·rw[if_pos h0] at ta
     have YR:IntKind.i64.wrap ((IntKind.i64.wrap (65535-X)).tdiv 65536)=(ux:Int):=by
      rw[cO (65535-X) ae,DF ae,cO _ ae,ta.1]
     have hwd:IntKind.i64.wrap (X+IntKind.i64.wrap (65536*(ux:Int)))=(dg:Int):=by
      rw[cO (65536*(ux:Int)) ae,cO _ ae,WO.1]
     refine VS.aR aa (aw h0) ?_;refine af ?_
     ·refine VO.Co 46 aa (ak (λz=>[AV.val (.int .i64 z)]) (show _=(dg:Int) by rw[YR,hwd])) ?_
      refine VO.app (cS _ _) (t:=315) (e:=3) (sz:=1) (n:=ds.length) (c:=cap) (mm:=1) (known:=iv ds) (spare:=spare) (news:=iv [dg]) (dst:=47) (del:=some 47) aa aa aa aa aa aa aa aa (bF aa) aa (.inr ⟨47,aa,aa,aa⟩) (.inr aa) (by rw[eb];omega) (by rw[fH,eb];omega) h1 h2 ⟨da _,h5,da _⟩ ⟨rQ _,h4,rQ _⟩ aa ae
       (λw1 β k1 b1 ho=>⟨_,_,rfl,.inr ⟨β 46,0,rfl,jB (rest:=[]) (ho.own 46 (.base (pV _ (ay.2 rfl))) _ _ rfl) rfl⟩⟩)
       (λw2 cap' bP ρ k2 b2 gH rh pR hlen mQ jK=>wV rfl ?_)
      refine af ?_;refine VS.back (n-(i+1)) ae ⟨_,_,?_,?_,?_,?_,⟨i+1,ux,ds++[dg],.row 47 0 (ds++[dg]).length cap',ae,aa,aa,.inr ⟨cap',bP,aa,aa,by simp;omega,pR,?_,mQ,jK⟩,by simp[Ck],gi.append hdh (gi.cons WO.2 (gi.nil _)),ta.2,hst⟩⟩
      ·exact⟨aa,aa,aa,ak (λz=>some (AV.row 47 0 z cap')) cZ,ak (λz=>some (AV.val (.int .i64 z))) YR,ak (λz=>some (AV.val (.int .i64 z))) GJ,aj⟩
      ·exact⟨ak (λl=>some (_,l++bP)) (vS _ _).symm,aj⟩
      ·rfl
      ·exact⟨.append (.none (da _)) (.none jK),aj⟩
      ·simpa [eb,Nat.add_assoc] using hlen
    ·rw[if_neg h0] at ta;have sj:ux=0:=ae;subst sj;refine VS.aO aa (az h0) ?_;refine af ?_
     ·refine VO.Co 46 aa (ak (λz=>[AV.val (.int .i64 z)]) (show X=(dg:Int) by omega)) ?_
      refine VO.app (cS _ _) (t:=315) (e:=3) (sz:=1) (n:=ds.length) (c:=cap) (mm:=1) (known:=iv ds) (spare:=spare) (news:=iv [dg]) (dst:=47) (del:=some 47) aa aa aa aa aa aa aa aa (bF aa) aa (.inr ⟨47,aa,aa,aa⟩) (.inr aa) (by rw[eb];omega) (by rw[fH,eb];omega) h1 h2 ⟨da _,h5,da _⟩ ⟨rQ _,h4,rQ _⟩ aa ae
       (λw1 β k1 b1 ho=>⟨_,_,rfl,.inr ⟨β 46,0,rfl,jB (rest:=[]) (ho.own 46 (.base (pV _ (ay.2 rfl))) _ _ rfl) rfl⟩⟩)
       (λw2 cap' bP ρ k2 b2 gH rh pR hlen mQ jK=>wV rfl ?_)
      refine af ?_;refine VS.back (n-(i+1)) ae ⟨_,_,?_,?_,?_,?_,⟨i+1,0,ds++[dg],.row 47 0 (ds++[dg]).length cap',ae,aa,aa,.inr ⟨cap',bP,aa,aa,by simp;omega,pR,?_,mQ,jK⟩,by simp[Ck],gi.append hdh (gi.cons WO.2 (gi.nil _)),eK _,hst⟩⟩
      ·exact⟨aa,aa,aa,ak (λz=>some (AV.row 47 0 z cap')) cZ,aa,ak (λz=>some (AV.val (.int .i64 z))) GJ,aj⟩
      ·exact⟨ak (λl=>some (_,l++bP)) (vS _ _).symm,aj⟩
      ·rfl
      ·exact⟨.append (.none (da _)) (.none jK),aj⟩
      ·simpa [eb,Nat.add_assoc] using hlen
 ·obtain rfl:i=n:=by omega
  have Uz:=YQ hdh Ck gU (show t*hval (halves B)<=hval (halves A) by rw[cj,cj];exact hle) (by
   rcases oH t with e|e
   ·exact .inl e
   ·right
    rw[<-gU];exact fo ae (bG (RA B e) hle)) hv
  rw[cj,cj] at Uz;rcases fx with ⟨rfl,rfl,rfl⟩|⟨cap,spare,rfl,rfl,h1,h2,h3,h4,h5⟩
  all_goals
   refine af ?_;refine VS.aO aa (az (λe=>lV (aJ.1 e))) ?_;refine af ?_
  ·refine VO.call aa aa (fk Bi) (λaK bE aX=>(kH none 0 0 [] aK (Rd.own (oI _ 0 0 _)) (gi.nil _)).mono ?_);rintro e w1 ⟨⟨mm,Ik,rfl,hcut⟩,rfl⟩;obtain rfl:mm=0:=ae;refine⟨_,aa,aD.refl _,λcQ _ bb1=>wV aa ?_⟩;refine af ?_;refine aC ?_;intro wz kz bz;have e0:A-t*B=0:=by rw[<-Uz];rfl
   exact⟨_,aa,by rw[e0,qo];exact ic.nil _ _,bz⟩
  ·refine VO.IH aa (fk Bi) (λw1 β k1 b1 ho=>(kH (some ⟨β 47,0,none⟩) ds.length cap ds w1 (qu (ho.own 47 (.base (ay.2 aa)) _ _ aa) aa h1 (by simpa [maxLen] using h2)) hdh).mono ?_);rintro e w2 ⟨⟨mm,Ik,rfl,hcut⟩,rfl⟩;refine⟨.row 47 0 mm cap,aa,λi hi=>⟨hi,by cases ay.1 hi;exact Hj _⟩,aD.refl _,λk2 _ b2=>wV aa ?_⟩;refine af ?_;refine VS.lJ (cS _ _) aa (λwz β kz bz he=> ?_);have zU:=Du hcut Ik aa;rw[Uz] at hcut zU;refine⟨_,aa,?_,bz⟩;have:=vm (he.own 47 _ _ aa) aa Ik h1 (by simpa [maxLen] using h2) h3;rw[<-hcut] at this;show ic wz w.heap.size (.slice (some ⟨β 47,0,none⟩) mm cap) _ _;rw[<-zU];exact this
set_option maxRecDepth 4000
variable {v:Value} {w':World}
theorem ic.me {n:Nat} (h:ic w B v n xs) (k:bg KI w w'):ic w' B v n xs:=by
 obtain⟨hn,e|⟨b,c,spare,e,hb,hc,r⟩⟩:=h
 ·exact⟨hn,.inl e⟩
 ·exact⟨hn,.inr ⟨b,c,spare,e,hb,k.block _ b _ aa aj hc,r⟩⟩
variable {cs:List Value}
theorem Cq.kp {n:Nat} (h:w.ownsRow B 3 1 v n cs) (k:bg KI w w'):w'.ownsRow B 3 1 v n cs:=by
 refine⟨h.1,?_⟩;rcases h.2 with h2|⟨g,cap,cur,hv,hb,hg,r⟩
 ·exact .inl h2
 ·exact .inr ⟨g,cap,cur,hv,hb,k.block _ g cur aa aj hg,r⟩
theorem ic.form {n:Nat} (h:ic w B v n xs):∃ p c,v=.slice p n c:=by
 obtain⟨hn,⟨rfl,rfl⟩|⟨b,c,spare,rfl,_⟩⟩:=h
 ·exact⟨none,0,aa⟩
 ·exact⟨_,c,aa⟩
theorem MZ (x:Nat):hval [x]=x:=by show x+65536*0=x;omega
variable {Q:Prop}
theorem gO (h:Q) (i:Q->P:=by intro h;(repeat first|refine wN ?_|refine wP rfl ?_|refine II rfl ?_|refine cxI_d rfl ?_|refine wO rfl rfl ?_);exact h):P:=i h
theorem gJ {X:Prop} (hb:X) (h:Q) (i:X->Q->P:=by intro hb h;refine⟨_,rfl,hb,λa b c=>wV rfl ?_⟩;refine gO ?_;revert a b c;exact h):P:=i hb h
theorem zh (h:Q) (i:Q->P:=by intro h;exact VS.ret (sW _ _) rfl rfl h):P:=i h
theorem BP (va vb:Value) (n m A B:Nat) (w:World) (hr:Rd w 1 va n (ints .i64 (halves A))) (hs:Rd w 1 vb m (ints .i64 (halves B))) (hB:A<65536*B) (hm:m<=2147483656):
  Calls Tryz.prog 296 #[va,vb] w λe w'=>e=.returned (.int .i64 ((A/B:Nat):Int))/\aD w w':=by
 obtain⟨p,c,rfl,eS,gv,gU⟩:=hr.i64;obtain⟨q,d,rfl,Tz,Ov,si⟩:=hs.i64;refine ai (C:=PK Tryz.prog w _) (args:=[_,_]) Tryz.func296 aa Tryz.ntmps296 (bF aa) ?_;refine gO ?_;refine VS.loop (J:=λms L M w'=>∃ (lo hi:Nat),lo<hi/\hi<=65536/\ms=hi-lo/\L=[(0,.val (.slice p n c)),(1,.val (.slice q m d)),(5,.val (.int .i64 (lo:Int))),(6,.val (.int .i64 (hi:Int)))]/\M=[]/\lo*B<=A/\A<hi*B) 65536 ⟨_,_,?_,?_,?_,?_,⟨0,65536,ae,ae,aa,aa,aa,ae,hB⟩⟩ ?_
 ·exact di
 ·exact di
 ·rfl
 ·exact aj
 rintro ms L M w' ⟨lo,hi,hlh,hh,rfl,rfl,rfl,h1,h2⟩;have De:IntKind.i64.wrap ((hi:Int)-(lo:Int))=(hi:Int)-lo:=cO _ ae;refine gO ?_;by_cases hgo:1<hi-lo
 ·obtain⟨mid,sJ⟩:∃ mid,mid=(lo+hi)/2:=⟨_,aa⟩
  have hwm:IntKind.i64.wrap ((IntKind.i64.wrap ((lo:Int)+(hi:Int))).tdiv 2)=(mid:Int):=by
   rw[cO ((lo:Int)+(hi:Int)) ae,DF ae,cO _ ae];omega
  refine VS.aR aa (aw (by rw[De];omega)) ?_;refine gO ?_;refine VO.lit (sW _ _) [.int .i64 (mid:Int)] aa (by rw[hwm];rfl) aa aa aa aa aa aa aa ae (λw2 b k2 b2 ho=>wV aa ?_);have hmid4:mid<65536:=ae;refine VO.call aa aa (fk Tryz.func201) (λaK bE aX=>(BO _ _ m 1 (halves B) [mid] aK (hs.below aX) (Rd.own (Cq.kp (cs:=ints .i64 [mid]) ho bE)) (dt B) (gi.cons hmid4 (gi.nil _)) hm ae).mono ?_);rintro e w1 ⟨v1,rfl,q1,aU⟩;rw[cj,MZ] at q1;obtain⟨p1,c1,rfl⟩:=q1.form;refine gJ aU ?_;intro cQ _ bb1;refine VO.cB aa aa (fk Tryz.func313) (λcV dS ea=>PY _ _ n _ A (B*mid) cV (hr.below ea) (Rd.own (q1.me dS).own)) (λcV dS ea w3 dH eV _ bb3=>wV aa ?_);refine gO ?_;by_cases hlt:A<B*mid
  ·refine VS.aR aa (aw hlt) ?_;refine gO ?_;refine VS.back (mid-lo) ae ⟨_,_,?_,?_,?_,?_,⟨lo,mid,ae,ae,aa,aa,aa,h1,by rw[iu];exact hlt⟩⟩
   ·exact⟨aa,aa,aa,ak (λz=>some (AV.val (.int .i64 z))) hwm,aj⟩
   ·exact di
   ·rfl
   ·exact aj
  ·refine VS.aO aa (az hlt) ?_;refine gO ?_;refine VS.back (hi-mid) ae ⟨_,_,?_,?_,?_,?_,⟨mid,hi,ae,ae,aa,aa,aa,by rw[iu];omega,h2⟩⟩
   ·exact⟨aa,aa,ak (λz=>some (AV.val (.int .i64 z))) hwm,aa,aj⟩
   ·exact di
   ·rfl
   ·exact aj
 ·refine VS.aO aa (az (by rw[De];omega)) ?_;refine gO ?_;refine zh ?_;intro wz kz bz;refine⟨?_,bz⟩
  have hBp:0<B:=by
   rcases oH B with e|e
   ·rw[e] at hB;omega
   ·exact e
  have:A/B=lo:=by
   have e1:hi=lo+1:=ae;rw[e1,ff] at h2;exact Nat.div_eq_of_lt_le h1 (by rw[ff];exact h2)
  rw[this];rfl
theorem EY {k R V:Nat} {qs:List Nat} (hx:(halves A)[k]? =some x) (hR:R<B) (hV:V=x+65536*R) (h:hval qs*B+R=hval ((halves A).drop (k+1))):
  hval ((V/B)::qs)*B+(V-V/B*B)=hval ((halves A).drop k)/\V<65536*B/\V-V/B*B<B/\V/B<65536:=by
 have pP:=(dt A).at hx;have e1:hval ((halves A).drop k)=x+65536*hval ((halves A).drop (k+1)):=wW hx;have e2:hval ((V/B)::qs)=V/B+65536*hval qs:=aa;have e3:=Ho V B;have e4:=fY V (show 0<B by omega);rw[iu] at e3
 have hlt:V<65536*B:=by
  have:65536*R+65536<=65536*B:=by
   have:=lZ 65536 (show R+1<=B by omega);rw[dp] at this;omega
  omega
 refine⟨?_,hlt,ae,Nat.div_lt_of_lt_mul (by rw[iu];exact hlt)⟩;rw[e1,<-h,e2,ff,dp,fX];omega
theorem Na (va vb:Value) (n m A B:Nat) (w:World) (hr:Rd w 1 va n (ints .i64 (halves A))) (hs:Rd w 1 vb m (ints .i64 (halves B))) (hB:0<B) (hn:n<=1073741824) (hm:m<=1073741824):
  Calls Tryz.prog 260 #[va,vb] w λe w'=>∃ v u,e=.returned (.tuple #[v,u])/\ic w' w.heap.size v (halves (A/B)).length (halves (A/B))/\ic w' w.heap.size u (halves (A%B)).length (halves (A%B))/\aD w w':=by
 obtain⟨p,c,rfl,eS,gv,gU⟩:=hr.i64;obtain⟨q,d,rfl,Tz,Ov,si⟩:=hs.i64;refine ai (C:=bd Tryz.prog w _) (args:=[_,_]) Tryz.func260 aa Tryz.ntmps260 (bF aa) ?_;refine af ?_;refine VO.cond aa ⟨aa,ae,by show (n:Int)*(24*1)<=_;omega⟩ (VO.Co 12 aa (EW _) (wV aa ?_));rw[dV];refine af ?_;have hw0:IntKind.i64.wrap ((n:Int)-1)=(n:Int)-1:=cO _ ae
 refine VS.loop (J:=λms L M w'=>∃ (k R:Nat) (qs:List Nat) (v:AV) (M1:List (Nat×(TypeId×List AV))),k<=n/\ms=k/\L=[(0,.val (.slice p n c)),(1,.val (.slice q m d)),(6,.row 12 0 n n),(7,v),(8,.val (.int .i64 ((k:Int)-1)))]/\
  M=(12,(3,iv (List.replicate k 0++qs)))::M1/\RowAt 41 (halves R) v M1/\qs.length=n-k/\jA qs/\R<B/\hval qs*B+R=hval ((halves A).drop k)) n ⟨_,_,?_,?_,?_,?_,⟨n,0,[],.val (.slice none 0 0),[],bl _,rfl,rfl,rfl,.inl ⟨qo,rfl,rfl⟩,cZ,gi.nil _,hB,by rw[pU ae];simp[hval,val]⟩⟩ ?_
 ·exact⟨aa,aa,aa,aa,ak (λz=>some (AV.val (.int .i64 z))) hw0,aj⟩
 ·exact⟨ak (λl=>some (_,l)) (by rw[jQ]),aj⟩
 ·rfl
 ·exact⟨.none (da _),aj⟩
 rintro ms L M w' ⟨k,R,qs,v,M1,hk,hms,rfl,rfl,fx,hql,hqh,hRB,hv⟩;have hz:(List.replicate k 0++qs).length=n:=by simp;omega
 rcases fx with ⟨hR0,rfl,rfl⟩|⟨cap,spare,rfl,rfl,g1,g2,g3,g4,g5⟩
 all_goals
  by_cases KW:k=0
 ·subst KW;refine af ?_;refine VO.IH aa (fk Bi) (λw1 β k1 bw ho=>(kH (some ⟨β 12,0,none⟩) n n qs w1 (qu (spare:=[]) (by rw[jQ];exact ho.own 12 (.base (ay.2 aa)) _ _ aa) (by simpa using hz) (bl _) (by simp only[maxLen];omega)) hqh).mono ?_);rintro e w2 ⟨⟨mm,Ik,rfl,hcut⟩,rfl⟩;refine⟨.row 12 0 mm n,aa,λi hi=>⟨hi,by cases ay.1 hi;exact Hj _⟩,aD.refl _,λk2 _ b2=>wV aa ?_⟩;refine af ?_;refine VS.lJ (cS _ _) aa (λwz β kz bz he=> ?_);have KT:qs.length=n:=by simpa using hz
  have zU:=Du hcut Ik KT;rw[List.drop_zero,cj] at hv;have hA:A/B=hval qs:=by rw[<-hv,xZ,Nat.add_mul_div_right _ _ hB,Bc hRB,jR]
  have hM:A%B=R:=by rw[<-hv,xZ,Xd,xW hRB]
  rw[<-hA] at hcut zU;have e12:=vm (spare:=[]) (by rw[jQ];exact he.own 12 _ _ aa) KT Ik (bl _) (by simp only[maxLen];omega) (by simpa using KT);rw[<-hcut] at e12;refine⟨.slice (some ⟨β 12,0,none⟩) mm n,.slice none 0 0,aa,by rw[<-zU];exact e12,?_,bz⟩;rw[hM,hR0];exact ic.nil _ _
 ·obtain⟨j,rfl⟩:∃ j,k=j+1:=⟨k-1,ae⟩;have hj:((j+1:Nat):Int)-1=(j:Int):=ae;obtain⟨b1,o1,x,rfl,aU,im,pO⟩:=hr.cellAt (show j<n by omega);have pP:=(dt A).at im;obtain⟨V,hV⟩:∃ V,V=x+65536*R:=⟨_,aa⟩;obtain⟨s1,s2,s3,s4⟩:=EY im hRB hV hv;have hRl:(halves R).length<=m:=by rw[<-si];exact fo ae ae
  have hXS:hval [x]=V:=by have hR0':R=0:=(by have:=ak hval hR0;rw[cj] at this;exact this);rw[hV,hR0'];exact MZ x
  have hXH:jA [x]:=gi.cons pP (gi.nil _);have hXL:[x].length=(1+0):=aa;refine VS.fix 8 aa (ak (λz=>AV.val (.int .i64 z)) hj) ?_;refine af ?_;refine VO.cond aa eh (wV aa ?_);refine VO.read aa [.int .i64 (x:Int)] aa (lO aa pO) (wV aa ?_);refine af ?_
  refine VO.app (cS _ _) (t:=315) (e:=3) (sz:=1) (n:=1) (c:=1) (mm:=0) (known:=iv [x]) (spare:=[]) (news:=[]) (dst:=27) (del:=some 24) aa aa aa aa aa aa aa aa (bF aa) aa (.inr ⟨24,aa,aa,aa⟩) (.inl aa) aa aa ae ae ⟨aa,aa,aa⟩ ⟨aa,aa,aa⟩ aa ae
   (λw1 β k1 bw ho=>⟨_,_,rfl,.inl rfl⟩)
   (λw2 cap' bP ρ k2 b2 gH rh pR hlen mQ jK=>VO.Co 12 rfl (YP 24 ρ _) (wV rfl ?_))
  have PZ:(iv [x]++[])++bP=iv [x]++bP:=aa;refine VO.IH aa (fk Bi) (λw1 β k1 bw ho=>(kH (some ⟨β 27,0,none⟩) (1+0) cap' [x] w1 (qu (ho.own 27 (.base (ay.2 aa)) _ _ aa) hXL rh (by simpa [maxLen] using pR)) hXH).mono ?_);rintro e w3 ⟨⟨m',hm',rfl,hcut⟩,rfl⟩;rw[hXS] at hcut;have hm'l:m'=(halves V).length:=by rw[hcut,cw];omega
  have Bu:∀ {C:Cx} {β:Nat->Nat} {w:World},nX C β w 27 3 (iv [x]++bP)->Rd w 1 (.slice (some ⟨β 27,0,none⟩) m' cap') m' (ints .i64 (halves V)):=λh=>by
   have:=Rd.MT (qu h hXL rh (by simpa [maxLen] using pR)) hm'
   rwa [<-hcut] at this
  refine⟨.row 27 0 m' cap',aa,λi hi=>⟨hi,by cases ay.1 hi;exact Hj _⟩,aD.refl _,λk3 _ b3=>wV aa ?_⟩;refine af ?_;refine VO.eX aa (fk Tryz.func296) (λw1 β k1 bw ho=>(BP _ _ m' m V B w1 (Bu (ho.own 27 (.base (uC _ (ay.2 aa))) _ _ aa)) (hs.below bw) s2 ae).mono ?_);rintro e w4 ⟨rfl,gj⟩;refine⟨_,aa,gj,λk4 _ b4=>wV aa ?_⟩;refine VO.cond aa eh (wV aa ?_);refine VO.cond aa (by show 0+(j:Int).toNat*1+1<=_;rw[dV,eb];omega) (wV aa ?_);refine wN ?_;refine VS.narrow [(0,.val (.slice (some ⟨b1,o1,none⟩) n c)),(1,.val (.slice q m d)),(6,.row 12 0 n n),(7,.row 27 0 m' cap'),(8,.val (.int .i64 (j:Int)))] [(12,(3,iv (List.replicate j 0++(V/B)::qs))),(27,(3,iv [x]++bP))] ?_ ?_ aa ?_ ?_
  ·exact di
  ·exact⟨ak (λl=>some (_,l)) ((Dt (j:=j) (x:=V/B) (by rw[hz];omega) (by rw[dV];omega)).trans (by rw[BN])),aa,aj⟩
  ·exact⟨.none (da _),.append (.none (da _)) (.none jK),aj⟩
  refine af ?_;refine VO.cond aa eh (wV aa ?_);refine VO.mv aa [.val (.int .i64 ((V/B:Nat):Int))] aa (zg (j:=j) (by rw[tM cZ];simp) (by rw[dV];omega)) (wV aa ?_);have De:IntKind.i64.wrap ((j:Int)-1)=(j:Int)-1:=cO _ ae;refine VO.callN (dst:=41) (n:=(halves (V-V/B*B)).length) (t:=3) (sz:=1) (xs:=ints .i64 (halves (V-V/B*B))) aa aa aa (bF aa) (by show 1<=2;omega) aa (λw1 β k1 bw ho=>⟨(fk Tryz.func297),(EX _ _ m' m (V/B) V B w1 (Bu (ho.own 27 (.base (uC _ (ay.2 aa))) _ _ aa)) (hs.below bw) s4 (Lj _ _) ae).mono ?_⟩);rintro e w5 ⟨v5,rfl,Nb,je⟩;refine⟨v5,aa,je,Nb.new,λ_ _ _ hv5=>wV aa ?_,λc5 sp5 _ _ _ hv5 hok5 hl5 hc5 Xv=>wV aa ?_⟩
  ·have dJ:halves (V-V/B*B)=[]:=by
    subst hv5;obtain⟨e1,⟨_,e2⟩|⟨_,_,_,e2,_⟩⟩:=Nb
    ·exact rp e2
    ·cases e2
   refine af ?_;refine VS.back j ae ⟨_,_,?_,?_,?_,?_,⟨j,V-V/B*B,(V/B)::qs,.val (.slice none 0 0),[],ae,aa,aa,aa,.inl ⟨dJ,aa,aa⟩,by simp;omega,gi.cons s4 hqh,s3,s1⟩⟩
   ·exact⟨aa,aa,aa,aa,ak (λz=>some (AV.val (.int .i64 z))) De,aj⟩
   ·exact⟨aa,aj⟩
   ·rfl
   ·exact⟨.none (da _),aj⟩
  ·have hln':(halves (V-V/B*B)).length+sp5.length=c5:=by simpa using Xv
   refine af ?_;refine VS.back j ae ⟨_,_,?_,?_,?_,?_,⟨j,V-V/B*B,(V/B)::qs,.row 41 0 _ c5,_,ae,aa,aa,aa,.inr ⟨c5,sp5.map .val,aa,aa,hl5,hc5,by simpa using hln',dx hok5,ah _⟩,by simp;omega,gi.cons s4 hqh,s3,s1⟩⟩
   ·exact⟨aa,aa,aa,aa,ak (λz=>some (AV.val (.int .i64 z))) De,aj⟩
   ·exact⟨aa,ak (λl=>some (_,l)) (aQ),aj⟩
   ·rfl
   ·exact⟨.none (da _),.append (.none (da _)) (.none (ah _)),aj⟩
 ·subst KW;refine af ?_;refine VO.IH aa (fk Bi) (λw1 β k1 bw ho=>(kH (some ⟨β 12,0,none⟩) n n qs w1 (qu (spare:=[]) (by rw[jQ];exact ho.own 12 (.base (ay.2 aa)) _ _ aa) (by simpa using hz) (bl _) (by simp only[maxLen];omega)) hqh).mono ?_);rintro e w2 ⟨⟨mm,Ik,rfl,hcut⟩,rfl⟩;refine⟨.row 12 0 mm n,aa,λi hi=>⟨hi,by cases ay.1 hi;exact Hj _⟩,aD.refl _,λk2 _ b2=>wV aa ?_⟩;refine af ?_;refine VS.lJ (cS _ _) aa (λwz β kz bz he=> ?_);have KT:qs.length=n:=by simpa using hz
  have zU:=Du hcut Ik KT;rw[List.drop_zero,cj] at hv;have hA:A/B=hval qs:=by rw[<-hv,xZ,Nat.add_mul_div_right _ _ hB,Bc hRB,jR]
  have hM:A%B=R:=by rw[<-hv,xZ,Xd,xW hRB]
  rw[<-hA] at hcut zU;have e12:=vm (spare:=[]) (by rw[jQ];exact he.own 12 _ _ aa) KT Ik (bl _) (by simp only[maxLen];omega) (by simpa using KT);rw[<-hcut] at e12;have e41:=vm (he.own 41 _ _ aa) aa (bl _) g1 (by simpa [maxLen] using g2) g3;rw[List.take_length] at e41;refine⟨.slice (some ⟨β 12,0,none⟩) mm n,.slice (some ⟨β 41,0,none⟩) (halves R).length cap,aa,by rw[<-zU];exact e12,?_,bz⟩;rw[hM];exact e41
 ·obtain⟨j,rfl⟩:∃ j,k=j+1:=⟨k-1,ae⟩;have hj:((j+1:Nat):Int)-1=(j:Int):=ae;obtain⟨b1,o1,x,rfl,aU,im,pO⟩:=hr.cellAt (show j<n by omega);have pP:=(dt A).at im;obtain⟨V,hV⟩:∃ V,V=x+65536*R:=⟨_,aa⟩;obtain⟨s1,s2,s3,s4⟩:=EY im hRB hV hv;have hRl:(halves R).length<=m:=by rw[<-si];exact fo ae ae
  have hXS:hval (x::halves R)=V:=by rw[hV];show x+65536*hval (halves R)=_;rw[cj]
  have hXH:jA (x::halves R):=gi.cons pP (dt R);have hXL:(x::halves R).length=(1+(halves R).length):=by simp;omega
  refine VS.fix 8 aa (ak (λz=>AV.val (.int .i64 z)) hj) ?_;refine af ?_;refine VO.cond aa eh (wV aa ?_);refine VO.read aa [.int .i64 (x:Int)] aa (lO aa pO) (wV aa ?_);refine af ?_
  refine VO.app (cS _ _) (t:=315) (e:=3) (sz:=1) (n:=1) (c:=1) (mm:=(halves R).length) (known:=iv [x]) (spare:=[]) (news:=iv (halves R)) (dst:=27) (del:=some 24) aa aa aa aa aa aa aa aa (bF aa) aa (.inr ⟨24,aa,aa,aa⟩) (.inl aa) aa aa ae ae ⟨aa,aa,da _⟩ ⟨aa,aa,rQ _⟩ (by rw[eb];omega) ae
   (λw1 β k1 bw ho=>⟨_,_,rfl,.inr ⟨β 41,0,rfl,jB (rest:=spare) (ho.own 41 (.base (pV _ (ay.2 rfl))) _ _ rfl) rfl⟩⟩)
   (λw2 cap' bP ρ k2 b2 gH rh pR hlen mQ jK=>VO.Co 12 rfl (YP 24 ρ _) (wV rfl ?_))
  have PZ:(iv [x]++iv (halves R))++bP=iv (x::halves R)++bP:=aa;refine VO.IH aa (fk Bi) (λw1 β k1 bw ho=>(kH (some ⟨β 27,0,none⟩) (1+(halves R).length) cap' (x::halves R) w1 (qu (ho.own 27 (.base (ay.2 aa)) _ _ aa) hXL rh (by simpa [maxLen] using pR)) hXH).mono ?_);rintro e w3 ⟨⟨m',hm',rfl,hcut⟩,rfl⟩;rw[hXS] at hcut;have hm'l:m'=(halves V).length:=by rw[hcut,cw];omega
  have Bu:∀ {C:Cx} {β:Nat->Nat} {w:World},nX C β w 27 3 (iv (x::halves R)++bP)->Rd w 1 (.slice (some ⟨β 27,0,none⟩) m' cap') m' (ints .i64 (halves V)):=λh=>by
   have:=Rd.MT (qu h hXL rh (by simpa [maxLen] using pR)) hm'
   rwa [<-hcut] at this
  refine⟨.row 27 0 m' cap',aa,λi hi=>⟨hi,by cases ay.1 hi;exact Hj _⟩,aD.refl _,λk3 _ b3=>wV aa ?_⟩;refine af ?_;refine VO.eX aa (fk Tryz.func296) (λw1 β k1 bw ho=>(BP _ _ m' m V B w1 (Bu (ho.own 27 (.base (uC _ (ay.2 aa))) _ _ aa)) (hs.below bw) s2 ae).mono ?_);rintro e w4 ⟨rfl,gj⟩;refine⟨_,aa,gj,λk4 _ b4=>wV aa ?_⟩;refine VO.cond aa eh (wV aa ?_);refine VO.cond aa (by show 0+(j:Int).toNat*1+1<=_;rw[dV,eb];omega) (wV aa ?_);refine wN ?_;refine VS.narrow [(0,.val (.slice (some ⟨b1,o1,none⟩) n c)),(1,.val (.slice q m d)),(6,.row 12 0 n n),(7,.row 27 0 m' cap'),(8,.val (.int .i64 (j:Int)))] [(12,(3,iv (List.replicate j 0++(V/B)::qs))),(27,(3,iv (x::halves R)++bP))] ?_ ?_ aa ?_ ?_
  ·exact di
  ·exact⟨ak (λl=>some (_,l)) ((Dt (j:=j) (x:=V/B) (by rw[hz];omega) (by rw[dV];omega)).trans (by rw[BN])),aa,aj⟩
  ·exact⟨.none (da _),.append (.none (da _)) (.none jK),aj⟩
  refine af ?_;refine VO.cond aa eh (wV aa ?_);refine VO.mv aa [.val (.int .i64 ((V/B:Nat):Int))] aa (zg (j:=j) (by rw[tM cZ];simp) (by rw[dV];omega)) (wV aa ?_);have De:IntKind.i64.wrap ((j:Int)-1)=(j:Int)-1:=cO _ ae;refine VO.callN (dst:=41) (n:=(halves (V-V/B*B)).length) (t:=3) (sz:=1) (xs:=ints .i64 (halves (V-V/B*B))) aa aa aa (bF aa) (by show 1<=2;omega) aa (λw1 β k1 bw ho=>⟨(fk Tryz.func297),(EX _ _ m' m (V/B) V B w1 (Bu (ho.own 27 (.base (uC _ (ay.2 aa))) _ _ aa)) (hs.below bw) s4 (Lj _ _) ae).mono ?_⟩);rintro e w5 ⟨v5,rfl,Nb,je⟩;refine⟨v5,aa,je,Nb.new,λ_ _ _ hv5=>wV aa ?_,λc5 sp5 _ _ _ hv5 hok5 hl5 hc5 Xv=>wV aa ?_⟩
  ·have dJ:halves (V-V/B*B)=[]:=by
    subst hv5;obtain⟨e1,⟨_,e2⟩|⟨_,_,_,e2,_⟩⟩:=Nb
    ·exact rp e2
    ·cases e2
   refine af ?_;refine VS.back j ae ⟨_,_,?_,?_,?_,?_,⟨j,V-V/B*B,(V/B)::qs,.val (.slice none 0 0),[],ae,aa,aa,aa,.inl ⟨dJ,aa,aa⟩,by simp;omega,gi.cons s4 hqh,s3,s1⟩⟩
   ·exact⟨aa,aa,aa,aa,ak (λz=>some (AV.val (.int .i64 z))) De,aj⟩
   ·exact⟨aa,aj⟩
   ·rfl
   ·exact⟨.none (da _),aj⟩
  ·have hln':(halves (V-V/B*B)).length+sp5.length=c5:=by simpa using Xv
   refine af ?_;refine VS.back j ae ⟨_,_,?_,?_,?_,?_,⟨j,V-V/B*B,(V/B)::qs,.row 41 0 _ c5,_,ae,aa,aa,aa,.inr ⟨c5,sp5.map .val,aa,aa,hl5,hc5,by simpa using hln',dx hok5,ah _⟩,by simp;omega,gi.cons s4 hqh,s3,s1⟩⟩
   ·exact⟨aa,aa,aa,aa,ak (λz=>some (AV.val (.int .i64 z))) De,aj⟩
   ·exact⟨aa,ak (λl=>some (_,l)) (aQ),aj⟩
   ·rfl
   ·exact⟨.none (da _),.append (.none (da _)) (.none (ah _)),aj⟩
set_option maxRecDepth 4000
variable {X:Int}
theorem cX.me {j:Nat} (h:cX w v X j) (k:bg KI w w'):cX w' v X j:=h.kp (U:=UU) k.fq
theorem df.me (h:df w v X) (k:bg KI w w'):df w' v X:=h.kp (U:=UU) k.fq
theorem aE.me (h:aE w B v X) (k:bg KI w w'):aE w' B v X:=h.kp k.fq
theorem Rd.me {n:Nat} (h:Rd w 1 v n (ints .u32 xs)) (k:bg KI w w'):Rd w' 1 v n (ints .u32 xs):=h.kp (U:=UU) k.fq
theorem OwnU.me {n:Nat} (h:w.ownsRow B UU 1 v n cs) (k:bg KI w w'):w'.ownsRow B UU 1 v n cs:=Own.kp h k.fq
theorem jr (a:Nat):(halves a).length<=2*(limbs a).length:=by
 have:=eZ (aF a)
 rwa [ax] at this
theorem kI (va:Value) (n a:Nat) (w:World) (hr:Rd w 1 va n (ints .u32 (limbs a))) (hn:n<=1073741824):
  Calls Tryz.prog 202 #[va] w λe w'=>∃ p c,e=.returned (.slice p (halves a).length c)/\w'.ownsRow w.heap.size 3 1 (.slice p (halves a).length c) (halves a).length (ints .i64 (halves a))/\aD w w':=
 (Kk va n _ w hr (aF a) hn).mono λe w' ⟨v',he,ho,hb⟩=>by
  rw[ax] at ho;obtain⟨p,c,rfl,_⟩:=Own.form ho;exact⟨p,c,he,ho,hb⟩
theorem tc (va:Value) (n a:Nat) (w:World) (hr:Rd w 1 va n (ints .i64 (halves a))) (hn:n<=2147483646):
  Calls Tryz.prog 200 #[va] w λe w'=>∃ p c xs,e=.returned (.slice p ((n+1)/2) c)/\w'.ownsRow w.heap.size UU 1 (.slice p ((n+1)/2) c) ((n+1)/2) (ints .u32 xs)/\au xs=a/\eB xs/\aD w w':=
 (MY va n _ w hr (dt a) ae).mono λe w' ⟨v',xs,he,hl,ho,hv,hx,hb⟩=>by
  obtain⟨p,c,rfl,_⟩:=Own.form ho;exact⟨p,c,xs,he,ho,by rw[hv,cj],hx,hb⟩
theorem EZ (va vb:Value) (n m A B:Nat) (w:World) (hr:Rd w 1 va n (ints .i64 (halves A))) (hs:Rd w 1 vb m (ints .i64 (halves B))) (hB:0<B) (hn:n<=1073741824) (hm:m<=1073741824):
  Calls Tryz.prog 260 #[va,vb] w λe w'=>∃ p c q d,e=.returned (.tuple #[.slice p (halves (A/B)).length c,.slice q (halves (A%B)).length d])/\w'.ownsRow w.heap.size 3 1 (.slice p (halves (A/B)).length c) (halves (A/B)).length (ints .i64 (halves (A/B)))/\w'.ownsRow w.heap.size 3 1 (.slice q (halves (A%B)).length d) (halves (A%B)).length (ints .i64 (halves (A%B)))/\aD w w':=
 (Na va vb n m A B w hr hs hB hn hm).mono λe w' ⟨v,u,he,h1,h2,hb⟩=>by
  obtain⟨p,c,rfl⟩:=h1.form;obtain⟨q,d,rfl⟩:=h2.form;exact⟨p,c,q,d,he,h1.own,h2.own,hb⟩
variable {s:Bool}
theorem YS {Y:Int} {t:Bool} (hX:X=if s=true then-(X.natAbs:Int) else X.natAbs) (hY:Y=if t=true then-(Y.natAbs:Int) else Y.natAbs):(if (!(s == t))=true then-((X.natAbs*Y.natAbs:Nat):Int) else ((X.natAbs*Y.natAbs:Nat):Int))=X*Y:=by
 generalize X.natAbs=a at*;generalize Y.natAbs=b at*;subst hX hY;cases s <;> cases t <;> simp[Int.neg_mul,Int.mul_neg]
theorem oZ (v u:Value) (X Y:Int) (j k:Nat) (w:World) (hv:cX w v X j) (hu:cX w u Y k) (hj:j<=268435456) (hk:k<=268435456):
  Calls Tryz.prog 141 #[v,u] w λe w'=>∃ r,e=.returned r/\aE w' w.heap.size r (X*Y)/\aD w w':=by
 obtain⟨s,p,n,c,rfl⟩:=hv.form;obtain⟨t,q,m,d,rfl⟩:=hu.form;have uw:=hv.len;have qN:=hu.len;refine ai (C:=PK Tryz.prog w _) (args:=[_,_]) Bj aa Tryz.ntmps141 (bF aa) ?_;refine gO ?_;refine VO.call aa aa (fk uG) (λaK bE aX=>(mS _ X j aK (hv.me bE)).mono ?_);rintro e w1 ⟨r1,rfl,h1,aU⟩;obtain⟨s1,p1,n1,c1,rfl⟩:=h1.jj;refine gJ aU ?_;intro cQ _ bb1;refine VO.call aa aa (fk uG) (λbf cK bK=>(mS _ Y k bf (hu.me (cQ.aN cK))).mono ?_);rintro e w2 ⟨r2,rfl,h2,bu⟩;obtain⟨s2,p2,n2,c2,rfl⟩:=h2.jj;refine gJ bu ?_;intro dW _ bb2;have e1:=sZ h1.TV;have e2:=sZ h2.TV;have l1:=jr X.natAbs;have l2:=jr Y.natAbs;refine VO.call aa aa (fk DN) (λcV dS ea=>(kI _ n1 X.natAbs cV (h1.row.me (cK.aN ((bg.of bu).aN dS))) (by rw[h1.n];omega)).mono ?_);rintro e w3 ⟨p3,c3,rfl,h3,dH⟩
 skip
 refine gJ dH ?_;intro eV _ bb3;refine VO.call aa aa (fk DN) (λey eU fc=>(kI _ n2 Y.natAbs ey (h2.row.me (dS.aN ((bg.of dH).aN eU))) (by rw[h2.n];omega)).mono ?_);rintro e w4 ⟨p4,c4,rfl,h4,gj⟩
 skip
 refine gJ gj ?_;intro jc _ mw;refine VO.call aa aa (fk Tryz.func201) (λgn iz iZ=>(BO _ _ _ _ (halves X.natAbs) (halves Y.natAbs) gn (Rd.own (Cq.kp h3 (eU.aN ((bg.of gj).aN iz)))) (Rd.own (Cq.kp h4 iz)) (dt _) (dt _) ae ae).mono ?_);rintro e w5 ⟨v5,rfl,h5,je⟩;rw[cj,cj] at h5;obtain⟨p5,c5,rfl⟩:=h5.form
 have l5:(halves (X.natAbs*Y.natAbs)).length<=1073741824:=by
  refine bG (jr _) ?_;have:=Sz.mul (X:=X) (Y:=Y) uw qN;unfold Sz at this;rw[Int.natAbs_mul] at this;omega
 refine gJ je ?_;intro nw _ um;refine VO.call aa aa (fk Tryz.func200) (λjL my nV=>(tc _ _ (X.natAbs*Y.natAbs) jL (Rd.own (h5.me my).own) ae).mono ?_);rintro e w6 ⟨p6,c6,xs6,rfl,h6,hx6,YT,oY⟩
 skip
 refine gJ oY ?_;intro sq _ xT;refine VO.cI aa aa (fk wR) (λpS uy rR=>lM (!(s1 == s2)) _ _ xs6 pS (Rd.own (OwnU.me h6 uy)) YT ae) (λpS uy rR w7 s7 p7 n7 c7 h7 ER Dv _ Qa=>wV aa ?_);refine gO ?_;refine zh ?_;intro wz kz bz;refine⟨_,aa,aE.cast ((h7.me kz).mono rR.size) ?_,bz⟩;rw[hx6];exact YS e1 e2
theorem Su {n:Nat} (h:n≠0):(if s=true then-(n:Int) else n).sign=if s=true then-1 else 1:=by
 cases s
 ·exact fR (by simp;omega)
 ·exact sign_neg (by simp;omega)
theorem div_len {b:Nat}:(halves (a/b)).length<=(halves a).length:=fo ae (Lt _ _)
theorem mod_len {b:Nat}:(halves (a%b)).length<=(halves a).length:=fo ae (Nat.mod_le _ _)
theorem Sv (hl:eB xs) (hv:au xs=a):Sz (if s=true then-((au xs:Nat):Int) else au xs) xs.length:=by
 unfold Sz;have:(if s=true then-((au xs:Nat):Int) else au xs).natAbs=au xs:=by cases s <;> simp
 rw[this];exact lg hl
theorem nx (v u:Value) (X Y:Int) (j k:Nat) (w:World) (hv:cX w v X j) (hu:cX w u Y k) (hj:j<=134217728) (hk:k<=134217728):
  Calls Tryz.prog 195 #[v,u] w λe w'=>EO w w' X Y e/\aD w w':=by
 obtain⟨s,p,n,c,rfl⟩:=hv.form;obtain⟨t,q,m,d,rfl⟩:=hu.form;have uw:=hv.len;have qN:=hu.len;refine ai (C:=PK Tryz.prog w _) (args:=[_,_]) Hv aa Tryz.ntmps195 (bF aa) ?_;refine gO ?_;refine VO.call aa aa (fk uG) (λaK bE aX=>(mS _ X j aK (hv.me bE)).mono ?_);rintro e w1 ⟨r1,rfl,h1,aU⟩;obtain⟨s1,p1,n1,c1,rfl⟩:=h1.jj;refine gJ aU ?_;intro cQ _ bb1;refine VO.call aa aa (fk uG) (λbf cK bK=>(mS _ Y k bf (hu.me (cQ.aN cK))).mono ?_);rintro e w2 ⟨r2,rfl,h2,bu⟩;obtain⟨s2,p2,n2,c2,rfl⟩:=h2.jj;refine gJ bu ?_;intro dW _ bb2;have e1:=sZ h1.TV;have e2:=sZ h2.TV;have l1:=jr X.natAbs;have l2:=jr Y.natAbs;by_cases hY:Y=0
 ·have hn0:n2=0:=by rw[h2.n,hY];exact ak List.length de
  refine VS.aR aa (by rw[beq_iff_eq];omega) ?_;refine gO ?_;refine zh ?_;intro wz kz bz;exact⟨.inl ⟨hY,_,_,aa,aE.zero _ _,aE.zero _ _⟩,bz⟩
 ·have hY0:Y.natAbs≠0:=by omega
  have hn0:n2≠0:=by rw[h2.n];intro e;exact hY0 (uL e)
  refine VS.aO aa (by rw[eQ];omega) ?_;refine gO ?_;refine VO.call aa aa (fk DN) (λcV dS ea=>(kI _ n1 X.natAbs cV (h1.row.me (cK.aN ((bg.of bu).aN dS))) (by rw[h1.n];omega)).mono ?_);rintro e w3 ⟨p3,c3,rfl,h3,dH⟩
  skip
  refine gJ dH ?_;intro eV _ bb3;refine VO.call aa aa (fk DN) (λey eU fc=>(kI _ n2 Y.natAbs ey (h2.row.me (dS.aN ((bg.of dH).aN eU))) (by rw[h2.n];omega)).mono ?_);rintro e w4 ⟨p4,c4,rfl,h4,gj⟩
  skip
  refine gJ gj ?_;intro jc _ mw;refine VO.call aa aa (fk Tryz.func260) (λgn iz iZ=>(EZ _ _ _ _ X.natAbs Y.natAbs gn (Rd.own (Cq.kp h3 (eU.aN ((bg.of gj).aN iz)))) (Rd.own (Cq.kp h4 iz)) ae ae ae).mono ?_);rintro e w5 ⟨p5,c5,q5,d5,rfl,h5,h5',je⟩
  skip
  refine gJ je ?_;intro nw _ um;have l5:(halves (X.natAbs/Y.natAbs)).length<=(halves X.natAbs).length:=div_len;have l5':(halves (X.natAbs%Y.natAbs)).length<=(halves X.natAbs).length:=mod_len;refine VO.call aa aa (fk Tryz.func200) (λjL my nV=>(tc _ _ (X.natAbs/Y.natAbs) jL (Rd.own (Cq.kp h5 my)) ae).mono ?_);rintro e w6 ⟨p6,c6,xs6,rfl,h6,hx6,YT,oY⟩
  skip
  refine gJ oY ?_;intro sq _ xT;refine VO.cI aa aa (fk wR) (λpS uy rR=>lM (!(s1 == s2)) _ _ xs6 pS (Rd.own (OwnU.me h6 uy)) YT ae) (λpS uy rR w7 s7 p7 n7 c7 h7 ER Dv _ Qa=>wV aa ?_);refine gO ?_;refine VO.call aa aa (fk Tryz.func200) (λtd Cr xG=>(tc _ _ (X.natAbs%Y.natAbs) td (Rd.own (Cq.kp h5' (my.aN ((bg.of oY).aN (uy.aN ((bg.of ER).aN Cr)))))) ae).mono ?_);rintro e w8 ⟨p8,c8,xs8,rfl,h8,hx8,hl8,Bz⟩
  skip
  refine gJ Bz ?_;intro Cs _ Sw;refine VO.cI aa aa (fk wR) (λAA Nd Dw=>lM s1 _ _ xs8 AA (Rd.own (OwnU.me h8 Nd)) hl8 ae) (λAA Nd Dw w9 s9 p9 n9 c9 h9 Dg GK _ bb9=>wV aa ?_);refine gO ?_;have z7:Sz (if (!(s1 == s2))=true then-((au xs6:Nat):Int) else au xs6) xs6.length:=Sv YT hx6;have z9:Sz (if s1=true then-((au xs8:Nat):Int) else au xs8) xs8.length:=Sv hl8 hx8;have lx6:xs6.length<=268435457:=by have:=h6.1;simp at this;omega
  have lx8:xs8.length<=268435457:=by have:=h8.1;simp at this;omega
  rw[hx6] at h7 z7;rw[hx8] at h9 z9;have law:=@vR X Y X.natAbs Y.natAbs;by_cases Gr:X.natAbs%Y.natAbs=0
  ·have s0:(if s1=true then-((X.natAbs%Y.natAbs:Nat):Int) else ((X.natAbs%Y.natAbs:Nat):Int))=0:=by rw[Gr];cases s1 <;> rfl
   rw[s0] at h9 z9;refine VO.cB aa aa (fk kY) (λjC nM nZ=>eM _ 0 _ jC ((h9.me nM).in z9) ae) (λjC nM nZ BQ km jM _ AB=>wV aa ?_)
   (repeat (first|refine wN ?_|refine wP aa ?_|refine II aa ?_|refine wO aa aa ?_))
   refine VS.EE (sW _ _) (oo _ _) 5 aa ?_
   (repeat' (first|refine VA.go aa ?_|refine VA.fin aa ?_|refine VA.gM _ aa aa ?_|refine VA.cons aa ?_ ?_|exact VA.nil aa))
   all_goals
    refine gO ?_;refine zh ?_;intro wz kz bz;obtain⟨g1,g2⟩:=law e1 e2 hY0 (.inl ⟨.inr Gr,aa,aa⟩);refine⟨.inr ⟨hY,_,_,aa,aE.cast ((h7.me (Cs.aN (GK.aN (jM.aN kz)))).mono rR.size) g1.symm,aE.cast ((h9.me (jM.aN kz)).mono Dw.size) ?_⟩,bz⟩;rw[g2,Gr];cases s2 <;> rfl
  ·have sy:=Su (s:=s2) hY0;rw[<-e2] at sy;have sr:=Su (s:=s1) Gr;rcases hs12:(s1,s2) with ⟨_|_,_|_⟩ <;> cases hs12
   ·replace sr:(if false=true then-((X.natAbs%Y.natAbs:Nat):Int) else ((X.natAbs%Y.natAbs:Nat):Int)).sign=1:=sr;replace sy:Y.sign=1:=sy;refine VO.call aa aa (fk kY) (λjC nM nZ=>(eM _ _ _ jC ((h9.me nM).in z9) ae).mono ?_);rintro e BQ ⟨rfl,km⟩;rw[sr];refine gJ km ?_;intro jM _ AB;refine VO.call aa aa (fk kY) (λjN oc pd=>(eM _ _ _ jN ((h9.me (jM.aN oc)).in z9) ae).mono ?_);rintro e Sx ⟨rfl,vn⟩;rw[sr];refine gJ vn ?_;intro ny _ Ct;refine VO.call aa aa (fk kY) (λlW qX uq=>(eM _ Y k lW ((h2.me (eV.aN (jc.aN (nw.aN (sq.aN (Dv.aN (Cs.aN (GK.aN (jM.aN (ny.aN qX)))))))))).to qN) ae).mono ?_);rintro e Fa ⟨rfl,wm⟩;rw[sy];refine⟨_,aa,wm,λrS _ GL=>wV aa ?_⟩
    (repeat (first|refine wN ?_|refine wP aa ?_|refine II aa ?_|refine wO aa aa ?_))
    refine VS.EE (sW _ _) (oo _ _) 5 aa ?_
    (repeat' (first|refine VA.go aa ?_|refine VA.fin aa ?_|refine VA.gM _ aa aa ?_|refine VA.cons aa ?_ ?_|exact VA.nil aa))
    all_goals
     refine gO ?_;refine zh ?_;intro wz kz bz;obtain⟨g1,g2⟩:=law e1 e2 hY0 (.inl ⟨.inl aa,aa,aa⟩);exact⟨.inr ⟨hY,_,_,aa,aE.cast ((h7.me (Cs.aN (GK.aN (jM.aN (ny.aN (rS.aN kz)))))).mono rR.size) g1.symm,aE.cast ((h9.me (jM.aN (ny.aN (rS.aN kz)))).mono Dw.size) g2.symm⟩,bz⟩
   ·replace sr:(if false=true then-((X.natAbs%Y.natAbs:Nat):Int) else ((X.natAbs%Y.natAbs:Nat):Int)).sign=1:=sr;replace sy:Y.sign= -1:=sy;refine VO.call aa aa (fk kY) (λjC nM nZ=>(eM _ _ _ jC ((h9.me nM).in z9) ae).mono ?_);rintro e BQ ⟨rfl,km⟩;rw[sr];refine gJ km ?_;intro jM _ AB;refine VO.call aa aa (fk kY) (λjN oc pd=>(eM _ _ _ jN ((h9.me (jM.aN oc)).in z9) ae).mono ?_);rintro e Sx ⟨rfl,vn⟩;rw[sr];refine gJ vn ?_;intro ny _ Ct;refine VO.call aa aa (fk kY) (λlW qX uq=>(eM _ Y k lW ((h2.me (eV.aN (jc.aN (nw.aN (sq.aN (Dv.aN (Cs.aN (GK.aN (jM.aN (ny.aN qX)))))))))).to qN) ae).mono ?_);rintro e Fa ⟨rfl,wm⟩;rw[sy];refine gJ wm ?_;intro rS _ GL;refine VO.cI aa aa (fk tV) (λvo Fb Cu=>lN 1 vo ae ae) (λvo Fb Cu uz s13 p13 n13 c13 h13 YU Fc _ YV=>wV aa ?_);refine gO ?_;refine VO.cI aa aa (fk Tryz.func261) (λtf wq xH=>MX _ _ _ 1 _ 1 tf (((h7.me (Cs.aN (GK.aN (jM.aN (ny.aN (rS.aN (Fc.aN wq))))))).in z7)) ((h13.me wq).in (Sz.small eL)) ae ae) (λtf wq xH w14 s14 p14 n14 c14 h14 Qb GM _ UA=>wV aa ?_);refine gO ?_;refine VO.cI aa aa (fk Tryz.func140) (λwu zi AD=>ze _ _ _ Y _ k wu ((h9.me (jM.aN (ny.aN (rS.aN (Fc.aN (GM.aN zi)))))).in z9) ((h2.me (eV.aN (jc.aN (nw.aN (sq.aN (Dv.aN (Cs.aN (GK.aN (jM.aN (ny.aN (rS.aN (Fc.aN (GM.aN zi))))))))))))).to qN) ae ae) (λwu zi AD w15 s15 p15 n15 c15 h15 UB Qc _ YW=>wV aa ?_)
    (repeat (first|refine wN ?_|refine wP aa ?_|refine II aa ?_|refine wO aa aa ?_))
    refine VS.EE (sW _ _) (oo _ _) 5 aa ?_
    (repeat' (first|refine VA.go aa ?_|refine VA.fin aa ?_|refine VA.gM _ aa aa ?_|refine VA.cons aa ?_ ?_|exact VA.nil aa))
    all_goals
     refine gO ?_;refine zh ?_;intro wz kz bz;have hlt:=fY X.natAbs (show 0<Y.natAbs by omega);obtain⟨g1,g2⟩:=law e1 e2 hY0 (.inr ⟨cZ,Gr,aa,aa⟩);refine⟨.inr ⟨hY,_,_,aa,aE.cast ((h14.me (Qc.aN kz)).mono xH.size) ?_,aE.cast ((h15.me kz).mono AD.size) ?_⟩,bz⟩
     ·rw[g1];simp;omega
     ·rw[g2];simp at e1 e2 ⊢;omega
   ·replace sr:(if true=true then-((X.natAbs%Y.natAbs:Nat):Int) else ((X.natAbs%Y.natAbs:Nat):Int)).sign= -1:=sr;replace sy:Y.sign=1:=sy;refine VO.call aa aa (fk kY) (λjC nM nZ=>(eM _ _ _ jC ((h9.me nM).in z9) ae).mono ?_);rintro e BQ ⟨rfl,km⟩;rw[sr];refine gJ km ?_;intro jM _ AB;refine VO.call aa aa (fk kY) (λjN oc pd=>(eM _ _ _ jN ((h9.me (jM.aN oc)).in z9) ae).mono ?_);rintro e Sx ⟨rfl,vn⟩;rw[sr];refine gJ vn ?_;intro ny _ Ct;refine VO.call aa aa (fk kY) (λlW qX uq=>(eM _ Y k lW ((h2.me (eV.aN (jc.aN (nw.aN (sq.aN (Dv.aN (Cs.aN (GK.aN (jM.aN (ny.aN qX)))))))))).to qN) ae).mono ?_);rintro e Fa ⟨rfl,wm⟩;rw[sy];refine gJ wm ?_;intro rS _ GL;refine VO.cI aa aa (fk tV) (λvo Fb Cu=>lN 1 vo ae ae) (λvo Fb Cu uz s13 p13 n13 c13 h13 YU Fc _ YV=>wV aa ?_);refine gO ?_;refine VO.cI aa aa (fk Tryz.func261) (λtf wq xH=>MX _ _ _ 1 _ 1 tf (((h7.me (Cs.aN (GK.aN (jM.aN (ny.aN (rS.aN (Fc.aN wq))))))).in z7)) ((h13.me wq).in (Sz.small eL)) ae ae) (λtf wq xH w14 s14 p14 n14 c14 h14 Qb GM _ UA=>wV aa ?_);refine gO ?_;refine VO.cI aa aa (fk Tryz.func140) (λwu zi AD=>ze _ _ _ Y _ k wu ((h9.me (jM.aN (ny.aN (rS.aN (Fc.aN (GM.aN zi)))))).in z9) ((h2.me (eV.aN (jc.aN (nw.aN (sq.aN (Dv.aN (Cs.aN (GK.aN (jM.aN (ny.aN (rS.aN (Fc.aN (GM.aN zi))))))))))))).to qN) ae ae) (λwu zi AD w15 s15 p15 n15 c15 h15 UB Qc _ YW=>wV aa ?_)
    (repeat (first|refine wN ?_|refine wP aa ?_|refine II aa ?_|refine wO aa aa ?_))
    refine VS.EE (sW _ _) (oo _ _) 5 aa ?_
    (repeat' (first|refine VA.go aa ?_|refine VA.fin aa ?_|refine VA.gM _ aa aa ?_|refine VA.cons aa ?_ ?_|exact VA.nil aa))
    all_goals
     refine gO ?_;refine zh ?_;intro wz kz bz;have hlt:=fY X.natAbs (show 0<Y.natAbs by omega);obtain⟨g1,g2⟩:=law e1 e2 hY0 (.inr ⟨cZ,Gr,aa,aa⟩);refine⟨.inr ⟨hY,_,_,aa,aE.cast ((h14.me (Qc.aN kz)).mono xH.size) ?_,aE.cast ((h15.me kz).mono AD.size) ?_⟩,bz⟩
     ·rw[g1];simp;omega
     ·rw[g2];simp at e1 e2 ⊢;omega
   ·replace sr:(if true=true then-((X.natAbs%Y.natAbs:Nat):Int) else ((X.natAbs%Y.natAbs:Nat):Int)).sign= -1:=sr;replace sy:Y.sign= -1:=sy;refine VO.call aa aa (fk kY) (λjC nM nZ=>(eM _ _ _ jC ((h9.me nM).in z9) ae).mono ?_);rintro e BQ ⟨rfl,km⟩;rw[sr];refine gJ km ?_;intro jM _ AB;refine VO.call aa aa (fk kY) (λjN oc pd=>(eM _ _ _ jN ((h9.me (jM.aN oc)).in z9) ae).mono ?_);rintro e Sx ⟨rfl,vn⟩;rw[sr];refine gJ vn ?_;intro ny _ Ct;refine VO.call aa aa (fk kY) (λlW qX uq=>(eM _ Y k lW ((h2.me (eV.aN (jc.aN (nw.aN (sq.aN (Dv.aN (Cs.aN (GK.aN (jM.aN (ny.aN qX)))))))))).to qN) ae).mono ?_);rintro e Fa ⟨rfl,wm⟩;rw[sy];refine⟨_,aa,wm,λrS _ GL=>wV aa ?_⟩
    (repeat (first|refine wN ?_|refine wP aa ?_|refine II aa ?_|refine wO aa aa ?_))
    refine VS.EE (sW _ _) (oo _ _) 5 aa ?_
    (repeat' (first|refine VA.go aa ?_|refine VA.fin aa ?_|refine VA.gM _ aa aa ?_|refine VA.cons aa ?_ ?_|exact VA.nil aa))
    all_goals
     refine gO ?_;refine zh ?_;intro wz kz bz;obtain⟨g1,g2⟩:=law e1 e2 hY0 (.inl ⟨.inl aa,aa,aa⟩);exact⟨.inr ⟨hY,_,_,aa,aE.cast ((h7.me (Cs.aN (GK.aN (jM.aN (ny.aN (rS.aN kz)))))).mono rR.size) g1.symm,aE.cast ((h9.me (jM.aN (ny.aN (rS.aN kz)))).mono Dw.size) g2.symm⟩,bz⟩
set_option maxRecDepth 4000
theorem gcd_len {b N:Nat} (hb:b≠0) (ha:(halves a).length<=N) (hbl:(halves b).length<=N):(halves (a%b)).length<=N:=bG (fo ae (Nat.le_of_lt (fY a (Nat.pos_of_ne_zero hb)))) hbl
theorem fv (h:P:=by (repeat first|exact aj|refine⟨aq.lit rfl,?_⟩|refine⟨aq.vals _,?_⟩)):P:=h
theorem Ff (v u:Value) (X Y:Int) (j k:Nat) (w:World) (hv:cX w v X j) (hu:cX w u Y k) (hj:j<=268435456) (hk:k<=268435456):
  Calls Tryz.prog 193 #[v,u] w λe w'=>∃ r,e=.returned r/\aE w' w.heap.size r (Int.gcd X Y:Int)/\aD w w':=by
 obtain⟨s,p,n,c,rfl⟩:=hv.form;obtain⟨t,q,m,d,rfl⟩:=hu.form;have uw:=hv.len;have qN:=hu.len;have l1:=jr X.natAbs;have l2:=jr Y.natAbs;refine ai (C:=PK Tryz.prog w _) (args:=[_,_]) Tryz.func193 aa Tryz.ntmps193 (bF aa) ?_;refine gO ?_;refine VO.call aa aa (fk uG) (λaK bE aX=>(mS _ X j aK (hv.me bE)).mono ?_);rintro e w1 ⟨r1,rfl,h1,aU⟩;obtain⟨s1,p1,n1,c1,rfl⟩:=h1.jj;refine gJ aU ?_;intro cQ _ bb1;refine VO.call aa aa (fk DN) (λcV dS ea=>(kI _ n1 X.natAbs cV (h1.row.me dS) (by rw[h1.n];omega)).mono ?_);rintro e w3 ⟨p3,c3,rfl,h3,dH⟩
 skip
 refine gJ dH ?_;intro eV _ bb3;refine VO.call aa aa (fk uG) (λbf cK bK=>(mS _ Y k bf (hu.me (cQ.aN (eV.aN cK)))).mono ?_);rintro e w2 ⟨r2,rfl,h2,bu⟩;obtain⟨s2,p2,n2,c2,rfl⟩:=h2.jj;refine gJ bu ?_;intro dW _ bb2;refine VO.call aa aa (fk DN) (λey eU fc=>(kI _ n2 Y.natAbs ey (h2.row.me eU) (by rw[h2.n];omega)).mono ?_);rintro e w4 ⟨p4,c4,rfl,h4,gj⟩
 skip
 refine gJ gj ?_;intro jc _ mw
 refine VS.loop (J:=λms L M w'=>∃ (a b:Nat) (px:Option Addr) (cx:Nat) (py:Option Addr) (cy:Nat),ms=b/\Nat.gcd a b=Int.gcd X Y/\L=[(4,.box 4 0),(5,.val (.slice px (halves a).length cx)),(6,.val (.slice py (halves b).length cy))]/\M=[(4,(36,([.bool false,.slice none 0 0]:List Value).map .val))]/\
  (halves a).length<=536870912/\(halves b).length<=536870912/\w'.ownsRow w.heap.size 3 1 (.slice px (halves a).length cx) (halves a).length (ints .i64 (halves a))/\w'.ownsRow w.heap.size 3 1 (.slice py (halves b).length cy) (halves b).length (ints .i64 (halves b))) Y.natAbs
  ⟨_,_,?_,?_,?_,?_,⟨X.natAbs,Y.natAbs,p3,c3,p4,c4,rfl,rfl,rfl,rfl,ae,ae,Cq.kp (Own.mono h3 ea.size) (dW.aN jc),Own.mono h4 fc.size⟩⟩ ?_
 ·exact di
 ·exact di
 ·rfl
 ·exact fv
 rintro ms L M w' ⟨a,b,px,cx,py,cy,hms,hg,rfl,rfl,la,lb,oa,ob⟩;refine gO ?_;by_cases sj:b=0
 ·subst sj;have hl0:(halves 0).length=0:=by rw[qo];rfl
  refine VS.aO aa (az (by rw[hl0];omega)) ?_;refine gO ?_;refine VO.call aa aa (fk Tryz.func200) (λjL my nV=>(tc _ _ a jL (Rd.own (Cq.kp oa my)) ae).mono ?_);rintro e w6 ⟨p6,c6,xs6,rfl,h6,hx6,YT,oY⟩
  skip
  refine gJ oY ?_;intro sq _ xT;refine VO.cI aa aa (fk wR) (λpS uy rR=>lM false _ _ xs6 pS (Rd.own (OwnU.me h6 uy)) YT ae) (λpS uy rR w7 s7 p7 n7 c7 h7 ER Dv _ Qa=>wV aa ?_);refine gO ?_;refine zh ?_;intro wz kz bz;refine⟨_,aa,aE.cast ((h7.me kz).mono rR.size) ?_,bz⟩;rw[hx6,<-hg,Nat.gcd_zero_right];rfl
 ·have hlp:0<(halves b).length:=uc ae sj;refine VS.aR aa (aw ae) ?_;refine gO ?_;refine VO.call aa aa (fk Tryz.func260) (λgn iz iZ=>(EZ _ _ _ _ a b gn (Rd.own (Cq.kp oa iz)) (Rd.own (Cq.kp ob iz)) ae ae ae).mono ?_);rintro e w5 ⟨p5,c5,q5,d5,rfl,h5,h5',je⟩
  skip
  refine gJ je ?_;intro nw _ um;refine VS.back (a%b) (by rw[hms];exact fY _ ae) ⟨_,_,?_,?_,?_,?_,⟨b,a%b,py,cy,q5,d5,aa,by rw[<-hg,Nat.gcd_comm a b,Nat.gcd_comm b (a%b)];exact (Nat.gcd_rec b a).symm,aa,aa,lb,gcd_len sj la lb,Cq.kp ob nw,Own.mono h5' iZ.size⟩⟩
  ·exact di
  ·exact di
  ·rfl
  ·exact fv
end
set_option maxRecDepth 4000
section
open Go.RowKit
attribute [local irreducible] aB VS
theorem tg (w:World):Calls Tryz.prog 87 #[] w λe w'=>∃ r,e=.returned r/\aE w' w.heap.size r 1/\aD w w':=by
 refine ai (C:=bd Tryz.prog w _) (args:=[]) Tryz.func87 aa Tryz.ntmps87 (bF aa) ?_;refine af ?_;refine VO.cI aa aa (fk Bo) (λaK bE aX=>sX 1 aK ae ae) (λaK bE aX w1 s1 p1 n1 c1 h1 aU cQ _ bb1=>wV aa ?_);refine af ?_;refine aC ?_;intro wz kz bz;exact⟨_,aa,(h1.kp kz).mono aX.size,bz⟩
def ur (s:Bool) (xs:List Nat) (t:Bool) (ys:List Nat):Bool:=fi s xs && (fi t ys && (decide (0<numOf t ys) && decide (Int.gcd (numOf s xs) (numOf t ys)=1)))
variable {s t:Bool} {xs ys:List Nat}
theorem vp (h:ur s xs t ys=false):rq s xs t ys=0:=by
 unfold rq PU
 split
 ·rename_i hc;cases h1:fi s xs with
  | false=>unfold numOf;rw[if_neg (by simp[h1])];simp
  | true=>
    cases h2:fi t ys with
    | false=>
      have:numOf t ys=0:=by unfold numOf;rw[if_neg (by simp[h2])]
      omega
    | true=>
      unfold ur at h;rw[h1,h2,aw hc.1,aw hc.2] at h;cases h
 ·rfl
theorem Sy (h:ur s xs t ys=true):fi s xs=true/\fi t ys=true/\0<numOf t ys/\Int.gcd (numOf s xs) (numOf t ys)=1:=by
 unfold ur at h;simp only[Bool.and_eq_true,decide_eq_true_eq] at h;exact h
variable {v:Value} {w:World}
theorem iP.lim (h:iP w v s xs):eB xs:=by
 obtain⟨_,_,_,_,l⟩:=h;exact l
theorem rT (hv:eI w v s xs t ys) (h:ur s xs t ys=true):bq w v (rq s xs t ys):=by
 obtain⟨h1,h2,h3,h4⟩:=Sy h;obtain⟨p,c,r,d,rfl,a1,a2⟩:=hv;obtain⟨e1,e2⟩:=sY ⟨h3,h4⟩;refine⟨s,p,_,c,t,r,_,d,aa,?_,?_⟩
 ·unfold rq;rw[e1];have l:=a1.lim;unfold numOf;rw[if_pos h1];obtain⟨c1,c2⟩:=canon l h1;show iP _ _ _ _;rw[<-c1,<-c2]
  assumption
 ·unfold rq;rw[e2];have l:=a2.lim;unfold numOf;rw[if_pos h2];obtain⟨c1,c2⟩:=canon l h2;show iP _ _ _ _;rw[<-c1,<-c2]
  assumption
theorem iP.in {k:Nat} (h:iP w v s xs) (hk:xs.length<=k):cX w v (numOf s xs) k:=⟨s,xs,h,rfl,hk⟩
theorem od (s t:Bool) (xs ys:List Nat) (v:Value) (w:World) (h:eI w v s xs t ys) (hx:xs.length<=536870912) (hy:ys.length<=536870912):
  Calls Tryz.prog 36 #[v] w λe w'=>e=.returned (.bool (ur s xs t ys))/\aD w w':=by
 obtain⟨p,c,r,d,rfl,h1,h2⟩:=h;refine ai (C:=bd Tryz.prog w _) (args:=[_]) Tryz.func36 aa Tryz.ntmps36 (bF aa) ?_;refine af ?_;refine VO.call aa aa (fk Tryz.func83) (λaK bE aX=>(xC s xs _ aK (h1.bS aX)).mono ?_);rintro e w1 ⟨rfl,aU⟩;cases q1:fi s xs
 ·refine aL aU ?_;intro cQ _ bb1;refine aC ?_;intro wz kz bz;exact⟨by simp[ur,q1,nJ],bz⟩
 refine aL aU ?_;intro cQ _ bb1;refine VO.call aa aa (fk Tryz.func83) (λbf cK bK=>(xC t ys _ bf (h2.bS bK)).mono ?_);rintro e w2 ⟨rfl,bu⟩;cases q2:fi t ys
 ·refine aL bu ?_;intro dW _ bb2;refine aC ?_;intro wz kz bz;exact⟨by simp[ur,q1,q2,nJ],bz⟩
 refine aL bu ?_;intro dW _ bb2;refine VO.call aa aa (fk Hy) (λcV dS ea=>(oq _ (numOf t ys) _ cV ((h2.in (bl _)).bS ea)).mono ?_);rintro e w3 ⟨rfl,dH⟩;by_cases q3:0<numOf t ys
 ·rw[fR q3];refine aL dH ?_;intro eV _ bb3;refine VO.cI aa aa (fk Tryz.func86) (λey eU fc=>MP _ _ (numOf s xs) (numOf t ys) _ _ ey ((h1.in (bl _)).bS fc) ((h2.in (bl _)).bS fc) hx hy) (λey eU fc w4 s4 p4 n4 c4 h4 gj jc _ mw=>wV aa ?_);refine af ?_;refine VO.cI aa aa (fk Tryz.func87) (λgn iz iZ=>tg gn) (λgn iz iZ w5 s5 p5 n5 c5 h5 je nw _ um=>wV aa ?_);refine af ?_
  have hg:Sz (Int.gcd (numOf s xs) (numOf t ys):Int) ys.length:=by
   obtain⟨_,_,_,_,l2⟩:=h2;refine Sz.le (Y:=numOf t ys) (yZ l2 (bl _)) ?_;rw[AZ,<-AZ (Int.gcd (numOf s xs) (numOf t ys))];have:=Int.gcd_dvd_right (numOf s xs) (numOf t ys);have:=Int.natAbs_dvd_natAbs.2 this;exact Nat.le_of_dvd ae this
  refine VO.call aa aa (fk DR) (λjL my nV=>(rP _ _ (Int.gcd (numOf s xs) (numOf t ys):Int) 1 _ 1 jL ((h4.kp (iz.aN ((Kp.of je).aN my))).in hg) ((h5.kp my).in (Sz.small eL)) ae ae).mono ?_);rintro e w6 ⟨rfl,oY⟩;by_cases q4:Int.gcd (numOf s xs) (numOf t ys)=1
  ·rw[show ((Int.gcd (numOf s xs) (numOf t ys):Int)-1).sign=0 by rw[q4];rfl];refine aL oY ?_;intro sq _ xT;refine aC ?_;intro wz kz bz;exact⟨by simp[ur,q1,q2,q3,q4,nJ],bz⟩
  ·have hne:(((Int.gcd (numOf s xs) (numOf t ys):Int)-1).sign == 0)=false:=by
    rw[eQ];intro e;have:=Lg.1 e;omega
   refine aL oY ?_;intro sq _ xT;refine aC ?_;intro wz kz bz;exact⟨by simp only[ur,q1,q2,q3,q4,nJ,Bool.true_and,decide_true,decide_false,hne],bz⟩
 ·have q4:(numOf t ys).sign=0\/(numOf t ys).sign= -1:=by
   rcases Int.lt_trichotomy (numOf t ys) 0 with e|e|e
   ·exact .inr (sign_neg e)
   ·rw[e];exact .inl aa
   ·exact absurd e q3
  rcases q4 with q4|q4
  all_goals
   rw[q4];refine aL dH ?_;intro eV _ bb3;refine aC ?_;intro wz kz bz;exact⟨by simp[ur,q1,q2,q3,nJ],bz⟩
variable {c:Nat} {p:Option Addr}
theorem bq.zero {n:Nat} (h:df w (.agg #[.bool s,.slice p n c]) 1):bq w (.agg #[.bool false,.slice none 0 0,.bool s,.slice p n c]) 0:=⟨_,_,_,_,_,_,_,_,rfl,df.zero _,h⟩
theorem aZ.zero {B:Nat} {n:Nat} (h:aE w B (.agg #[.bool s,.slice p n c]) 1):aZ w B (.agg #[.bool false,.slice none 0 0,.bool s,.slice p n c]) 0:=⟨_,_,_,_,_,_,_,_,rfl,aE.zero _ _,h⟩
theorem ez (v:Value) (q:Rat) (k:Nat) (w:World) (h:aG w v q k) (hk:k<=536870912):
  Calls Tryz.prog 90 #[v] w λe w'=>∃ r,e=.returned r/\bq w' r q/\aD w w':=by
 obtain⟨s,xs,t,ys,gN,rfl,hx,hy⟩:=h;have vt:=gN;obtain⟨p,c,r,d,rfl,_,_⟩:=gN;refine ai (C:=bd Tryz.prog w _) (args:=[_]) oK aa Tryz.ntmps90 (bF aa) ?_;refine af ?_;refine VO.call aa aa (fk Tryz.func36) (λaK bE aX=>(od s t xs ys _ aK (vt.kp bE) ae ae).mono ?_);rintro e w1 ⟨rfl,aU⟩;cases hq:ur s xs t ys
 ·refine aL aU ?_;intro cQ _ bb1;refine VO.cI aa aa (fk Tryz.func87) (λbf cK bK=>tg bf) (λbf cK bK w2 s2 p2 n2 c2 h2 bu dW _ bb2=>wV aa ?_);refine af ?_;refine aC ?_;intro wz kz bz;exact⟨_,aa,by rw[vp hq];exact bq.zero (h2.kp kz).rd,bz⟩
 ·refine aL aU ?_;intro cQ _ bb1;refine aC ?_;intro wz kz bz;exact⟨_,aa,(rT vt hq).kp (cQ.aN kz),bz⟩
variable {X Y:Int}
theorem Kl {k:Nat} (hY:Sz Y k) (h:Y≠0):Sz (Int.gcd X Y:Int) k:=by
 refine Sz.le (Y:=Y) hY ?_;rw[AZ,<-AZ (Int.gcd X Y)];exact Nat.le_of_dvd ae (Int.natAbs_dvd_natAbs.2 (Int.gcd_dvd_right X Y))
theorem fZ {w':World} {e:Ending} (h:EO w w' X Y e) (hY:Y≠0):∃ v u,e=.returned (.tuple #[v,u,.int .i64 0])/\aE w' w.heap.size v (X.fdiv Y)/\aE w' w.heap.size u (X.fmod Y):=by
 rcases h with ⟨h0,_⟩|⟨_,h⟩
 ·exact absurd h0 hY
 ·exact h
theorem qw (v u:Value) (X Y:Int) (j k:Nat) (w:World) (hv:cX w v X j) (hu:cX w u Y k) (hj:j<=268435456) (hk:k<=268435456) (hY:Y≠0):
  Calls Tryz.prog 149 #[v,u] w λe w'=>∃ r,e=.returned r/\aZ w' w.heap.size r (Rat.divInt X Y)/\aD w w':=by
 obtain⟨s,p,n,c,rfl⟩:=hv.form;obtain⟨t,r,m,d,rfl⟩:=hu.form;refine ai (C:=bd Tryz.prog w _) (args:=[_,_]) Tryz.func149 aa Tryz.ntmps149 (bF aa) ?_;refine af ?_;refine VO.cI aa aa (fk Tryz.func86) (λaK bE aX=>MP _ _ X Y j k aK (hv.kp bE) (hu.kp bE) ae ae) (λaK bE aX w1 s1 p1 n1 c1 h1 aU cQ _ bb1=>wV aa ?_);refine af ?_;refine VO.call aa aa (fk Hy) (λbf cK bK=>(oq _ Y k bf (hu.bS bK)).mono ?_);rintro e w2 ⟨rfl,bu⟩;have YX:Sz (Int.gcd X Y:Int) k:=Kl hu.len hY
 have Yy:(Int.gcd X Y:Int)≠0:=by
  intro e;have:=(RE.1 (show Int.gcd X Y=0 by omega)).2;exact hY this
 rcases Lm hY with q|q
 ·rw[sign_neg q];obtain⟨l1,l2⟩:=low_neg (X:=X) q;refine aL bu ?_;intro dW _ bb2;refine VO.cI aa aa (fk Tryz.func165) (λcV dS ea=>MO _ (Int.gcd X Y:Int) k cV ((h1.kp (dW.aN dS)).in YX) ae) (λcV dS ea w3 s3 p3 n3 c3 h3 dH eV _ bb3=>wV aa ?_);refine af ?_;refine VO.call aa aa (fk Hu) (λey eU fc=>(nr _ _ X (-(Int.gcd X Y:Int)) j k ey (hv.bS fc) ((h3.kp eU).in YX.neg) ae ae).mono ?_);rintro e w4 ⟨hd4,gj⟩;obtain⟨v4,u4,rfl,h4,h4'⟩:=fZ hd4 ae;obtain⟨s4,p4,n4,c4,rfl⟩:=h4.form;obtain⟨t4,r4,m4,d4,rfl⟩:=h4'.form;refine aL gj ?_;intro jc _ mw;refine VO.call aa aa (fk Hu) (λgn iz iZ=>(nr _ _ Y (-(Int.gcd X Y:Int)) k k gn (hu.bS iZ) ((h3.kp (jc.aN iz)).in YX.neg) ae ae).mono ?_);rintro e w5 ⟨hd5,je⟩;obtain⟨v5,u5,rfl,h5,h5'⟩:=fZ hd5 ae;obtain⟨s5,p5,n5,c5,rfl⟩:=h5.form;obtain⟨t5,r5,m5,d5,rfl⟩:=h5'.form;refine aL je ?_;intro nw _ um;refine aC ?_;intro wz kz bz;exact⟨_,aa,⟨_,_,_,_,_,_,_,_,aa,aE.cast ((h4.kp (nw.aN kz)).mono fc.size) l1,aE.cast ((h5.kp kz).mono iZ.size) l2⟩,bz⟩
 ·rw[fR q];obtain⟨l1,l2⟩:=Ds (X:=X) q;refine aL bu ?_;intro dW _ bb2;refine VO.call aa aa (fk Hu) (λey eU fc=>(nr _ _ X (Int.gcd X Y:Int) j k ey (hv.bS fc) ((h1.kp (dW.aN eU)).in YX) ae ae).mono ?_);rintro e w4 ⟨hd4,gj⟩;obtain⟨v4,u4,rfl,h4,h4'⟩:=fZ hd4 ae;obtain⟨s4,p4,n4,c4,rfl⟩:=h4.form;obtain⟨t4,r4,m4,d4,rfl⟩:=h4'.form;refine aL gj ?_;intro jc _ mw;refine VO.call aa aa (fk Hu) (λgn iz iZ=>(nr _ _ Y (Int.gcd X Y:Int) k k gn (hu.bS iZ) ((h1.kp (dW.aN (jc.aN iz))).in YX) ae ae).mono ?_);rintro e w5 ⟨hd5,je⟩;obtain⟨v5,u5,rfl,h5,h5'⟩:=fZ hd5 ae;obtain⟨s5,p5,n5,c5,rfl⟩:=h5.form;obtain⟨t5,r5,m5,d5,rfl⟩:=h5'.form;refine aL je ?_;intro nw _ um;refine aC ?_;intro wz kz bz;exact⟨_,aa,⟨_,_,_,_,_,_,_,_,aa,aE.cast ((h4.kp (nw.aN kz)).mono fc.size) l1,aE.cast ((h5.kp kz).mono iZ.size) l2⟩,bz⟩
end
section
open Go.RowKit
attribute [local irreducible] aB VS
theorem Dx (q r:Rat):q+r=Rat.divInt (q.num*r.den+r.num*q.den) ((q.den:Int)*r.den):=by
 rw[Rat.add_def',<-Rat.divInt_ofNat];simp
theorem add_same {q r:Rat} (h:(q.den:Int)=r.den):q+r=Rat.divInt (q.num+r.num) q.den:=by
 rw[Dx,<-h];have hd:(q.den:Int)≠0:=by have:=q.den_nz;omega
 rw[<-Int.add_mul,Rat.divInt_mul_right hd]
theorem Km (q r:Rat):q*r=Rat.divInt (q.num*r.num) ((q.den:Int)*r.den):=by
 rw[Rat.mul_def',<-Rat.divInt_ofNat];simp
theorem div_raw (q r:Rat):q/r=Rat.divInt (q.num*r.den) ((q.den:Int)*r.num):=by
 rw[ye,Rat.inv_def]
 conv=>lhs;lhs;rw[<-Rat.num_divInt_den q]
 rw[Rat.divInt_mul_divInt]
theorem ow {X Y:Int} {k l:Nat} (hX:Sz X k) (hY:Sz Y l) (h:Y≠0):Sz (Rat.divInt X Y).num k/\Sz ((Rat.divInt X Y).den:Int) l:=by
 constructor
 ·refine Sz.le hX ?_;rw[Rat.num_divInt];have h1:(Y.sign*X/(Y.gcd X:Int)).natAbs<=(Y.sign*X).natAbs:=Int.natAbs_ediv_le_natAbs _ _;rw[Int.natAbs_mul] at h1
  have h2:Y.sign.natAbs=1:=by
   rcases Lm h with e|e
   ·rw[sign_neg e];rfl
   ·rw[fR e];rfl
  rw[h2,tY] at h1;exact h1
 ·refine Sz.le hY ?_;rw[Rat.den_divInt,if_neg h,AZ];exact Lt _ _
theorem dy.add {q r:Rat} {k l:Nat} (hq:dy q k) (hr:dy r l):dy (q+r) (k+l+1):=by
 rw[Dx];have hd:(q.den:Int)*r.den≠0:=Int.mul_ne_zero (by have:=q.den_nz;omega) (by have:=r.den_nz;omega);obtain⟨h1,h2⟩:=ow (Sz.add (hq.1.mul hr.2) (hr.1.mul hq.2) (m:=k+l) ae ae) (hq.2.mul hr.2) hd;exact⟨h1,h2.mono ae⟩
theorem dy.mul {q r:Rat} {k l:Nat} (hq:dy q k) (hr:dy r l):dy (q*r) (k+l):=by
 rw[Km];have hd:(q.den:Int)*r.den≠0:=Int.mul_ne_zero (by have:=q.den_nz;omega) (by have:=r.den_nz;omega);exact ow (hq.1.mul hr.1) (hq.2.mul hr.2) hd
theorem dy.neg {q:Rat} {k:Nat} (hq:dy q k):dy (-q) k:=⟨by rw[Rat.neg_num];exact hq.1.neg,by rw[Rat.neg_den];exact hq.2⟩
theorem dy.sub {q r:Rat} {k l:Nat} (hq:dy q k) (hr:dy r l):dy (q-r) (k+l+1):=by rw[Rat.sub_eq_add_neg];exact hq.add hr.neg
def jD (q r:Rat):Int:=if q<r then-1 else if q=r then 0 else 1
theorem Nf (q r:Rat):(q.num*r.den-r.num*q.den).sign=jD q r:=by
 unfold jD;by_cases h1:q<r
 ·rw[if_pos h1];exact sign_neg (by have:=(Rat.lt_iff q r).1 h1;omega)
 ·rw[if_neg h1];by_cases h2:q=r
  ·subst h2;rw[if_pos rfl,Int.sub_self];rfl
  ·rw[if_neg h2];refine fR ?_;have a:=mt (Rat.lt_iff q r).2 h1;have b:=mt Rat.eq_iff_mul_eq_mul.2 h2;omega
theorem IW (q:Rat):q.num.sign=jD q 0:=by
 have:=Nf q 0;simpa using this
theorem YY (q r:Rat):jD (q-r) 0=jD q r:=by
 unfold jD;have h1:q-r<0↔q<r:=by grind
 have h2:q-r=0↔q=r:=by grind
 simp only[h1,h2]
def rU (Y:Int):Int:=if Y=0 then 20 else 0
theorem Qd (v u:Value) (X Y:Int) (j k:Nat) (w:World) (hv:cX w v X j) (hu:cX w u Y k) (hj:j<=268435456) (hk:k<=268435456):
  Calls Tryz.prog 309 #[v,u] w λe w'=>∃ r,e=.returned (.tuple #[r,.int .i64 (rU Y)])/\aZ w' w.heap.size r (Rat.divInt X Y)/\aD w w':=by
 obtain⟨s,p,n,c,rfl⟩:=hv.form;obtain⟨t,r,m,d,rfl⟩:=hu.form;refine ai (C:=bd Tryz.prog w _) (args:=[_,_]) Tryz.func309 aa Tryz.ntmps309 (bF aa) ?_;refine af ?_;refine VO.call aa aa (fk Hy) (λaK bE aX=>(oq _ Y k aK (hu.bS aX)).mono ?_);rintro e w1 ⟨rfl,aU⟩;by_cases hY:Y=0
 ·rw[show Y.sign=0 by rw[hY];rfl];refine aL aU ?_;intro cQ _ bb1;refine VO.cI aa aa (fk Tryz.func87) (λbf cK bK=>tg bf) (λbf cK bK w2 s2 p2 n2 c2 h2 bu dW _ bb2=>wV aa ?_);refine af ?_;refine aC ?_;intro wz kz bz;refine⟨_,by rw[rU,if_pos hY];rfl,?_,bz⟩;rw[hY,Lv];exact aZ.zero ((h2.kp kz).mono bK.size)
 ·have hs:(Y.sign == 0)=false:=by
   rw[eQ];exact λe=>hY (Lg.1 e)
  rcases Lm hY with q|q
  all_goals
   first|rw[sign_neg q]|rw[fR q]
   refine aL aU ?_;intro cQ _ bb1;refine VO.cR aa aa (fk Tryz.func149) (λbf cK bK=>qw _ _ X Y j k bf (hv.bS bK) (hu.bS bK) hj hk hY) (λbf cK bK w2 s2 p2 n2 c2 t2 r2 m2 d2 h2 bu dW _ bb2=>wV aa ?_);refine af ?_;refine aC ?_;intro wz kz bz;exact⟨_,by rw[rU,if_neg hY];rfl,(h2.kp kz).mono bK.size,bz⟩
theorem UC (n d:Int) (w:World) (h0: -9223372036854775808<=n) (h1:n<=9223372036854775807) (g0: -9223372036854775808<=d) (g1:d<=9223372036854775807):
  Calls Tryz.prog 280 #[.int .i64 n,.int .i64 d] w λe w'=>∃ r,e=.returned (.tuple #[r,.int .i64 (rU d)])/\aZ w' w.heap.size r (Rat.divInt n d)/\aD w w':=by
 refine ai (C:=bd Tryz.prog w _) (args:=[_,_]) Tryz.func280 aa Tryz.ntmps280 (bF aa) ?_;refine af ?_;refine VO.cI aa aa (fk Bo) (λaK bE aX=>sX n aK h0 h1) (λaK bE aX w1 s1 p1 n1 c1 q1 aU cQ _ bb1=>wV aa ?_);refine af ?_;refine VO.cI aa aa (fk Bo) (λbf cK bK=>sX d bf g0 g1) (λbf cK bK w2 s2 p2 n2 c2 q2 bu dW _ bb2=>wV aa ?_);refine af ?_;refine VO.call aa aa (fk Tryz.func309) (λcV dS ea=>(Qd _ _ n d 2 2 cV ((q1.kp (dW.aN dS)).in (Sz.of_lt ae)) ((q2.kp dS).in (Sz.of_lt ae)) ae ae).mono ?_);rintro e w3 ⟨r3,rfl,q3,dH⟩;obtain⟨s3,p3,n3,c3,t3,x3,m3,d3,rfl⟩:=q3.form;refine aL dH ?_;intro eV _ bb3;refine aC ?_;intro wz kz bz;exact⟨_,aa,(q3.kp kz).mono ea.size,bz⟩
theorem dK (n:Int) (w:World) (h0: -9223372036854775808<=n) (h1:n<=9223372036854775807):
  Calls Tryz.prog 37 #[.int .i64 n] w λe w'=>∃ r,e=.returned r/\aZ w' w.heap.size r (n:Rat)/\aD w w':=by
 refine ai (C:=bd Tryz.prog w _) (args:=[_]) mc aa Tryz.ntmps37 (bF aa) ?_;refine af ?_;refine VO.cI aa aa (fk Bo) (λaK bE aX=>sX n aK h0 h1) (λaK bE aX w1 s1 p1 n1 c1 q1 aU cQ _ bb1=>wV aa ?_);refine af ?_;refine VO.cI aa aa (fk Tryz.func87) (λbf cK bK=>tg bf) (λbf cK bK w2 s2 p2 n2 c2 q2 bu dW _ bb2=>wV aa ?_);refine af ?_;refine aC ?_;intro wz kz bz;exact⟨_,aa,⟨_,_,_,_,_,_,_,_,aa,(q1.kp (dW.aN kz)).mono aX.size,(q2.kp kz).mono bK.size⟩,bz⟩
theorem rV (v u:Value) (q r:Rat) (k l:Nat) (w:World) (hv:bq w v q) (hu:bq w u r) (hq:dy q k) (hr:dy r l) (hk:k<=67108864) (hl:l<=67108864):
  Calls Tryz.prog 89 #[v,u] w λe w'=>∃ x,e=.returned x/\aZ w' w.heap.size x (q+r)/\aD w w':=by
 obtain⟨s,p,n,c,t,y,m,d,rfl⟩:=hv.form;obtain⟨s',p',n',c',t',y',m',d',rfl⟩:=hu.form;obtain⟨v1,v2⟩:=hv.parts;obtain⟨u1,u2⟩:=hu.parts;have dq:(q.den:Int)≠0:=by have:=q.den_nz;omega
 have dr:(r.den:Int)≠0:=by have:=r.den_nz;omega
 refine ai (C:=bd Tryz.prog w _) (args:=[_,_]) Hz aa Tryz.ntmps89 (bF aa) ?_;refine af ?_;refine VO.call aa aa (fk DR) (λaK bE aX=>(rP _ _ (q.den:Int) r.den k l aK ((v2.bS aX).to hq.2) ((u2.bS aX).to hr.2) ae ae).mono ?_);rintro e w1 ⟨rfl,aU⟩;by_cases hd:(q.den:Int)=r.den
 ·rw[show ((q.den:Int)-r.den).sign=0 by rw[hd,Int.sub_self];rfl];refine aL aU ?_;intro cQ _ bb1;refine VO.cI aa aa (fk Tryz.func150) (λbf cK bK=>EM _ _ q.num r.num k l bf ((v1.bS bK).to hq.1) ((u1.bS bK).to hr.1) ae ae) (λbf cK bK w2 s2 p2 n2 c2 q2 bu dW _ bb2=>wV aa ?_);refine af ?_;refine VO.cR aa aa (fk Tryz.func149) (λcV dS ea=>qw _ _ (q.num+r.num) q.den (k+l+1) k cV ((q2.kp dS).in (Sz.add hq.1 hr.1 ae ae)) ((v2.bS ea).to hq.2) ae ae dq) (λcV dS ea w3 s3 p3 n3 c3 t3 y3 m3 d3 q3 dH eV _ bb3=>wV aa ?_);refine af ?_;refine aC ?_;intro wz kz bz;exact⟨_,aa,aZ.cast ((q3.kp kz).mono ea.size) (add_same hd).symm,bz⟩
 ·have hs:((((q.den:Int)-r.den).sign == 0))=false:=by
   rw[eQ];intro e;have:=Lg.1 e;omega
  rcases Lm (show (q.den:Int)-r.den≠0 by omega) with e|e
  all_goals
   first|rw[sign_neg e]|rw[fR e]
   refine aL aU ?_;intro cQ _ bb1;refine VO.cI aa aa (fk Bh) (λbf cK bK=>oX _ _ q.num r.den k l bf ((v1.bS bK).to hq.1) ((u2.bS bK).to hr.2) ae ae) (λbf cK bK w2 s2 p2 n2 c2 q2 bu dW _ bb2=>wV aa ?_);refine af ?_;refine VO.cI aa aa (fk Bh) (λcV dS ea=>oX _ _ r.num q.den l k cV ((u1.bS ea).to hr.1) ((v2.bS ea).to hq.2) ae ae) (λcV dS ea w3 s3 p3 n3 c3 q3 dH eV _ bb3=>wV aa ?_);refine af ?_;refine VO.cI aa aa (fk Tryz.func150) (λey eU fc=>EM _ _ (q.num*r.den) (r.num*q.den) (k+l) (l+k) ey ((q2.kp (eV.aN eU)).in (hq.1.mul hr.2)) ((q3.kp eU).in (hr.1.mul hq.2)) ae ae) (λey eU fc w4 s4 p4 n4 c4 q4 gj jc _ mw=>wV aa ?_);refine af ?_;refine VO.cI aa aa (fk Bh) (λgn iz iZ=>oX _ _ q.den r.den k l gn ((v2.bS iZ).to hq.2) ((u2.bS iZ).to hr.2) ae ae) (λgn iz iZ w5 s5 p5 n5 c5 q5 je nw _ um=>wV aa ?_);refine af ?_;refine VO.cR aa aa (fk Tryz.func149) (λjL my nV=>qw _ _ (q.num*r.den+r.num*q.den) ((q.den:Int)*r.den) (k+l+1) (k+l) jL ((q4.kp (nw.aN my)).in (Sz.add (hq.1.mul hr.2) (hr.1.mul hq.2) ae ae)) ((q5.kp my).in (hq.2.mul hr.2)) ae ae (Int.mul_ne_zero dq dr)) (λjL my nV w6 s6 p6 n6 c6 t6 y6 m6 d6 q6 oY sq _ xT=>wV aa ?_);refine af ?_;refine aC ?_;intro wz kz bz;exact⟨_,aa,aZ.cast ((q6.kp kz).mono nV.size) (Dx q r).symm,bz⟩
end
section
open Go.RowKit
attribute [local irreducible] aB VS
def cL (k:Nat):Nat:=max k 1
theorem aG.rn {w:World} {v:Value} {q:Rat} {k:Nat} (h:aG w v q k):dy q (cL k):=by
 obtain⟨s,xs,t,ys,h1,h2,h3,h4⟩:=h;exact aG.sz (k:=cL k) ⟨s,xs,t,ys,h1,h2,by unfold cL;omega,by unfold cL;omega⟩ (by unfold cL;omega)
theorem eJ (v u:Value) (q r:Rat) (k l:Nat) (w:World) (hv:aG w v q k) (hu:aG w u r l) (hk:k<=67108864) (hl:l<=67108864):
  Calls Tryz.prog 38 #[v,u] w λe w'=>∃ x,e=.returned x/\aZ w' w.heap.size x (q+r)/\aD w w':=by
 obtain⟨s,p,n,c,t,y,m,d,rfl⟩:=hv.form;obtain⟨s',p',n',c',t',y',m',d',rfl⟩:=hu.form;refine ai (C:=bd Tryz.prog w _) (args:=[_,_]) mX aa Tryz.ntmps38 (bF aa) ?_;refine af ?_;refine VO.cR aa aa (fk oK) (λaK bE aX=>ez _ q k aK (hv.kp bE) ae) (λaK bE aX w1 s1 p1 n1 c1 t1 y1 m1 d1 q1 aU cQ _ bb1=>wV aa ?_);refine af ?_;refine VO.cR aa aa (fk oK) (λbf cK bK=>ez _ r l bf (hu.kp (cQ.aN cK)) ae) (λbf cK bK w2 s2 p2 n2 c2 t2 y2 m2 d2 q2 bu dW _ bb2=>wV aa ?_);refine af ?_;refine VO.cR aa aa (fk Hz) (λcV dS ea=>rV _ _ q r _ _ cV (q1.kp (dW.aN dS)) (q2.kp dS) hv.rn hu.rn (by unfold cL;omega) (by unfold cL;omega)) (λcV dS ea w3 s3 p3 n3 c3 t3 y3 m3 d3 q3 dH eV _ bb3=>wV aa ?_);refine af ?_;refine aC ?_;intro wz kz bz;exact⟨_,aa,(q3.kp kz).mono ea.size,bz⟩
theorem iH (v:Value) (q:Rat) (k:Nat) (w:World) (hv:aG w v q k) (hk:k<=536870912):
  Calls Tryz.prog 99 #[v] w λe w'=>∃ x,e=.returned x/\aZ w' w.heap.size x (-q)/\aD w w':=by
 obtain⟨s,p,n,c,t,y,m,d,rfl⟩:=hv.form;refine ai (C:=bd Tryz.prog w _) (args:=[_]) wT aa Tryz.ntmps99 (bF aa) ?_;refine af ?_;refine VO.cR aa aa (fk oK) (λaK bE aX=>ez _ q k aK (hv.kp bE) hk) (λaK bE aX w1 s1 p1 n1 c1 t1 y1 m1 d1 q1 aU cQ _ bb1=>wV aa ?_);refine af ?_;obtain⟨a1,a2⟩:=q1.parts;refine VO.cI aa aa (fk Tryz.func165) (λbf cK bK=>MO _ q.num _ bf ((a1.kp cK).to hv.rn.1) (by unfold cL;omega)) (λbf cK bK w2 s2 p2 n2 c2 q2 bu dW _ bb2=>wV aa ?_);refine af ?_;refine VO.cI aa aa (fk Tryz.func166) (λcV dS ea=>Yv _ q.den _ cV ((a2.kp (dW.aN dS)).to hv.rn.2) (by unfold cL;omega)) (λcV dS ea w3 s3 p3 n3 c3 q3 dH eV _ bb3=>wV aa ?_);refine af ?_;refine aC ?_;intro wz kz bz;exact⟨_,aa,⟨_,_,_,_,_,_,_,_,aa,aE.cast ((q2.kp (eV.aN kz)).mono bK.size) (Rat.neg_num q).symm,aE.cast ((q3.kp kz).mono ea.size) (by rw[Rat.neg_den,AZ])⟩,bz⟩
theorem pg (v u:Value) (q r:Rat) (k l:Nat) (w:World) (hv:aG w v q k) (hu:aG w u r l) (hk:k<=67108864) (hl:l<=67108864):
  Calls Tryz.prog 42 #[v,u] w λe w'=>∃ x,e=.returned x/\aZ w' w.heap.size x (q-r)/\aD w w':=by
 obtain⟨s,p,n,c,t,y,m,d,rfl⟩:=hv.form;obtain⟨s',p',n',c',t',y',m',d',rfl⟩:=hu.form;refine ai (C:=bd Tryz.prog w _) (args:=[_,_]) HF aa Tryz.ntmps42 (bF aa) ?_;refine af ?_;refine VO.cR aa aa (fk oK) (λaK bE aX=>ez _ q k aK (hv.kp bE) ae) (λaK bE aX w1 s1 p1 n1 c1 t1 y1 m1 d1 q1 aU cQ _ bb1=>wV aa ?_);refine af ?_;refine VO.cR aa aa (fk wT) (λbf cK bK=>iH _ r l bf (hu.kp (cQ.aN cK)) ae) (λbf cK bK w2 s2 p2 n2 c2 t2 y2 m2 d2 q2 bu dW _ bb2=>wV aa ?_);refine af ?_;refine VO.cR aa aa (fk Hz) (λcV dS ea=>rV _ _ q (-r) _ _ cV (q1.kp (dW.aN dS)) (q2.kp dS).rd hv.rn hu.rn.neg (by unfold cL;omega) (by unfold cL;omega)) (λcV dS ea w3 s3 p3 n3 c3 t3 y3 m3 d3 q3 dH eV _ bb3=>wV aa ?_);refine af ?_;refine aC ?_;intro wz kz bz;exact⟨_,aa,aZ.cast ((q3.kp kz).mono ea.size) (Rat.sub_eq_add_neg q r).symm,bz⟩
theorem Fg (v u:Value) (q r:Rat) (k l:Nat) (w:World) (hv:aG w v q k) (hu:aG w u r l) (hk:k<=67108864) (hl:l<=67108864):
  Calls Tryz.prog 242 #[v,u] w λe w'=>∃ x,e=.returned x/\aZ w' w.heap.size x (q*r)/\aD w w':=by
 obtain⟨s,p,n,c,t,y,m,d,rfl⟩:=hv.form;obtain⟨s',p',n',c',t',y',m',d',rfl⟩:=hu.form;have dq:(q.den:Int)*r.den≠0:=Int.mul_ne_zero (by have:=q.den_nz;omega) (by have:=r.den_nz;omega);have zq:=hv.rn;have zr:=hu.rn;have uk:cL k<=67108864:=by unfold cL;omega
 have ul:cL l<=67108864:=by unfold cL;omega
 refine ai (C:=bd Tryz.prog w _) (args:=[_,_]) Tryz.func242 aa Tryz.ntmps242 (bF aa) ?_;refine af ?_;refine VO.cR aa aa (fk oK) (λaK bE aX=>ez _ q k aK (hv.kp bE) ae) (λaK bE aX w1 s1 p1 n1 c1 t1 y1 m1 d1 q1 aU cQ _ bb1=>wV aa ?_);refine af ?_;refine VO.cR aa aa (fk oK) (λbf cK bK=>ez _ r l bf (hu.kp (cQ.aN cK)) ae) (λbf cK bK w2 s2 p2 n2 c2 t2 y2 m2 d2 q2 bu dW _ bb2=>wV aa ?_);refine af ?_;obtain⟨a1,a2⟩:=q1.parts;obtain⟨b1,b2⟩:=q2.parts;refine VO.cI aa aa (fk Bh) (λcV dS ea=>oX _ _ q.num r.num _ _ cV ((a1.kp (dW.aN dS)).to zq.1) ((b1.kp dS).to zr.1) ae ae) (λcV dS ea w3 s3 p3 n3 c3 q3 dH eV _ bb3=>wV aa ?_);refine af ?_;refine VO.cI aa aa (fk Bh) (λey eU fc=>oX _ _ q.den r.den _ _ ey ((a2.kp (dW.aN (eV.aN eU))).to zq.2) ((b2.kp (eV.aN eU)).to zr.2) ae ae) (λey eU fc w4 s4 p4 n4 c4 q4 gj jc _ mw=>wV aa ?_);refine af ?_;refine VO.cR aa aa (fk Tryz.func149) (λgn iz iZ=>qw _ _ (q.num*r.num) ((q.den:Int)*r.den) _ _ gn ((q3.kp (jc.aN iz)).in (zq.1.mul zr.1)) ((q4.kp iz).in (zq.2.mul zr.2)) ae ae dq) (λgn iz iZ w5 s5 p5 n5 c5 t5 y5 m5 d5 q5 je nw _ um=>wV aa ?_);refine af ?_;refine aC ?_;intro wz kz bz;exact⟨_,aa,aZ.cast ((q5.kp kz).mono iZ.size) (Km q r).symm,bz⟩
def IX (r:Rat):Int:=if r=0 then 20 else 0
theorem UD (q r:Rat):rU ((q.den:Int)*r.num)=IX r:=by
 unfold rU IX
 have:((q.den:Int)*r.num=0)↔r=0:=by
  rw[Int.mul_eq_zero,Rat.num_eq_zero];have:=q.den_nz;exact⟨λh=>h.resolve_left ae,.inr⟩
 simp only[this]
theorem Ng (v:Value) (q:Rat) (k:Nat) (w:World) (hv:aG w v q k) (hk:k<=536870912):
  Calls Tryz.prog 57 #[v] w λe w'=>e=.returned (.int .i64 (jD q 0))/\aD w w':=by
 obtain⟨s,p,n,c,t,y,m,d,rfl⟩:=hv.form;refine ai (C:=bd Tryz.prog w _) (args:=[_]) Tryz.func57 aa Tryz.ntmps57 (bF aa) ?_;refine af ?_;refine VO.cR aa aa (fk oK) (λaK bE aX=>ez _ q k aK (hv.kp bE) hk) (λaK bE aX w1 s1 p1 n1 c1 t1 y1 m1 d1 q1 aU cQ _ bb1=>wV aa ?_);refine af ?_;refine VO.call aa aa (fk Hy) (λbf cK bK=>(oq _ q.num _ bf ((q1.parts.1.kp cK).to hv.rn.1)).mono ?_);rintro e w2 ⟨rfl,bu⟩;rw[IW];refine aL bu ?_;intro dW _ bb2;refine aC ?_;intro wz kz bz;exact⟨aa,bz⟩
theorem Qe (v u:Value) (q r:Rat) (k l:Nat) (w:World) (hv:aG w v q k) (hu:aG w u r l) (hk:k<=67108864) (hl:l<=67108864):
  Calls Tryz.prog 43 #[v,u] w λe w'=>e=.returned (.int .i64 (jD q r))/\aD w w':=by
 obtain⟨s,p,n,c,t,y,m,d,rfl⟩:=hv.form;obtain⟨s',p',n',c',t',y',m',d',rfl⟩:=hu.form;have zq:=hv.rn;have zr:=hu.rn;have uk:cL k<=67108864:=by unfold cL;omega
 have ul:cL l<=67108864:=by unfold cL;omega
 refine ai (C:=bd Tryz.prog w _) (args:=[_,_]) Tryz.func43 aa Tryz.ntmps43 (bF aa) ?_;refine af ?_;refine VO.cR aa aa (fk oK) (λaK bE aX=>ez _ q k aK (hv.kp bE) ae) (λaK bE aX w1 s1 p1 n1 c1 t1 y1 m1 d1 q1 aU cQ _ bb1=>wV aa ?_);refine af ?_;refine VO.cR aa aa (fk oK) (λbf cK bK=>ez _ r l bf (hu.kp (cQ.aN cK)) ae) (λbf cK bK w2 s2 p2 n2 c2 t2 y2 m2 d2 q2 bu dW _ bb2=>wV aa ?_);refine af ?_;obtain⟨a1,a2⟩:=q1.parts;obtain⟨b1,b2⟩:=q2.parts;refine VO.cI aa aa (fk Bh) (λcV dS ea=>oX _ _ q.num r.den _ _ cV ((a1.kp (dW.aN dS)).to zq.1) ((b2.kp dS).to zr.2) ae ae) (λcV dS ea w3 s3 p3 n3 c3 q3 dH eV _ bb3=>wV aa ?_);refine af ?_;refine VO.cI aa aa (fk Bh) (λey eU fc=>oX _ _ r.num q.den _ _ ey ((b1.kp (eV.aN eU)).to zr.1) ((a2.kp (dW.aN (eV.aN eU))).to zq.2) ae ae) (λey eU fc w4 s4 p4 n4 c4 q4 gj jc _ mw=>wV aa ?_);refine af ?_;refine VO.call aa aa (fk DR) (λgn iz iZ=>(rP _ _ (q.num*r.den) (r.num*q.den) _ _ gn ((q3.kp (jc.aN iz)).in (zq.1.mul zr.2)) ((q4.kp iz).in (zr.1.mul zq.2)) ae ae).mono ?_);rintro e w5 ⟨rfl,je⟩;rw[Nf];refine aL je ?_;intro nw _ um;refine aC ?_;intro wz kz bz;exact⟨aa,bz⟩
theorem vu (a b:Int):(a=b/\(a-b).sign=0)\/(a≠b/\((a-b).sign=1\/(a-b).sign= -1)):=by
 rcases Int.lt_trichotomy a b with e|e|e
 ·exact .inr ⟨ae,.inr (sign_neg ae)⟩
 ·exact .inl ⟨e,by rw[e,Int.sub_self];rfl⟩
 ·exact .inr ⟨ae,.inl (fR ae)⟩
theorem Nh (v u:Value) (q r:Rat) (k l:Nat) (w:World) (hv:aG w v q k) (hu:aG w u r l) (hk:k<=67108864) (hl:l<=67108864):
  Calls Tryz.prog 81 #[v,u] w λe w'=>e=.returned (.bool (decide (q=r)))/\aD w w':=by
 obtain⟨s,p,n,c,t,y,m,d,rfl⟩:=hv.form;obtain⟨s',p',n',c',t',y',m',d',rfl⟩:=hu.form;have zq:=hv.rn;have zr:=hu.rn;have uk:cL k<=67108864:=by unfold cL;omega
 have ul:cL l<=67108864:=by unfold cL;omega
 refine ai (C:=bd Tryz.prog w _) (args:=[_,_]) Bp aa Tryz.ntmps81 (bF aa) ?_;refine af ?_;refine VO.cR aa aa (fk oK) (λaK bE aX=>ez _ q k aK (hv.kp bE) ae) (λaK bE aX w1 s1 p1 n1 c1 t1 y1 m1 d1 q1 aU cQ _ bb1=>wV aa ?_);refine af ?_;refine VO.cR aa aa (fk oK) (λbf cK bK=>ez _ r l bf (hu.kp (cQ.aN cK)) ae) (λbf cK bK w2 s2 p2 n2 c2 t2 y2 m2 d2 q2 bu dW _ bb2=>wV aa ?_);refine af ?_;obtain⟨a1,a2⟩:=q1.parts;obtain⟨b1,b2⟩:=q2.parts;refine VO.call aa aa (fk DR) (λcV dS ea=>(rP _ _ q.num r.num _ _ cV ((a1.kp (dW.aN dS)).to zq.1) ((b1.kp dS).to zr.1) ae ae).mono ?_);rintro e w3 ⟨rfl,dH⟩;rcases vu q.num r.num with ⟨hn,e⟩|⟨hn,e|e⟩
 ·rw[e];refine aL dH ?_;intro eV _ bb3;refine VO.call aa aa (fk DR) (λey eU fc=>(rP _ _ (q.den:Int) r.den _ _ ey ((a2.kp (dW.aN (eV.aN eU))).to zq.2) ((b2.kp (eV.aN eU)).to zr.2) ae ae).mono ?_);rintro e w4 ⟨rfl,gj⟩;rcases vu (q.den:Int) r.den with ⟨hd,e⟩|⟨hd,e|e⟩
  all_goals
   rw[e];refine aL gj ?_;intro jc _ mw;refine aC ?_;intro wz kz bz
  ·exact⟨by rw[aw (Rat.ext hn ae)];rfl,bz⟩
  ·exact⟨by rw[az (λe=>hd (by rw[e]))];rfl,bz⟩
  ·exact⟨by rw[az (λe=>hd (by rw[e]))];rfl,bz⟩
 ·rw[e];refine aL dH ?_;intro eV _ bb3;refine aC ?_;intro wz kz bz;exact⟨by rw[az (λe=>hn (by rw[e]))];rfl,bz⟩
 ·rw[e];refine aL dH ?_;intro eV _ bb3;refine aC ?_;intro wz kz bz;exact⟨by rw[az (λe=>hn (by rw[e]))];rfl,bz⟩
end
section
open Go.RowKit
attribute [local irreducible] aB VS
def mz (w:World) (v:Value) (qs:List Rat) (k:Nat):Prop:=
 ∃ p c,v=.slice p qs.length c/\qs.length<=c/\c<=maxLen/\∀ i q,qs[i]? =some q->∃ b off s p' n c' t r m d,p=some ⟨b,off,none⟩/\
   (∀ j u,[Value.bool s,.slice p' n c',.bool t,.slice r m d][j]? =some u->w.cell? ⟨b,off+i*4+j,none⟩=some u)/\aG w (.agg #[.bool s,.slice p' n c',.bool t,.slice r m d]) q k
variable {qs:List Rat} {v:Value} {w:World}
theorem mz.form {k:Nat} (h:mz w v qs k):∃ p c,v=.slice p qs.length c/\qs.length<=c/\c<=maxLen:=by
 obtain⟨p,c,hv,h1,h2,_⟩:=h;exact⟨p,c,hv,h1,h2⟩
variable {i:Nat}
theorem mz.at {p:Option Addr} {n c:Nat} {k:Nat} {q:Rat} (h:mz w (.slice p n c) qs k) (hq:qs[i]? =some q):∃ b off s p' n' c' t r m d,p=some ⟨b,off,none⟩/\
  (∀ j u,[Value.bool s,.slice p' n' c',.bool t,.slice r m d][j]? =some u->w.cell? ⟨b,off+i*4+j,none⟩=some u)/\aG w (.agg #[.bool s,.slice p' n' c',.bool t,.slice r m d]) q k:=by
 obtain⟨p',c',hv,h1,h2,h3⟩:=h;cases hv;exact h3 i q hq
theorem mz.bS {w':World} {k:Nat} (h:mz w v qs k) (hb:aD w w'):mz w' v qs k:=by
 obtain⟨p,c,hv,h1,h2,h3⟩:=h;refine⟨p,c,hv,h1,h2,λi q hq=> ?_⟩;obtain⟨b,off,s,p',n,c',t,r,m,d,hp,hc,hr⟩:=h3 i q hq;exact⟨b,off,s,p',n,c',t,r,m,d,hp,λj u hj=>hb.cell (hc j u hj),hr.kp (Kp.of (U:=UU) hb)⟩
theorem aA (h:i<9223372036854775807):IntKind.i64.wrap ((i:Int)+1)=((i+1:Nat):Int):=by
 rw[cO _ ae];omega
def dY (qs:List Rat):Rat:=qs.foldl (·+ ·) 0
theorem aI {α:Type} {l:List α} {x:α} (h:l[i]? =some x):l.take (i+1)=l.take i++[x]:=by
 obtain⟨hi,rfl⟩:=cM.1 h;exact List.take_succ_eq_append_getElem hi
theorem fM {q:Rat} (h:qs[i]? =some q):dY (qs.take (i+1))=dY (qs.take i)+q:=by
 rw[aI h];simp[dY,List.foldl_append]
def bU (k i:Nat):Nat:=1+i*(cL k+1)
theorem js (k i:Nat):bU k (i+1)=bU k i+cL k+1:=by unfold bU;rw[ff,tY];omega
theorem jE {k n:Nat} (h:i<=n):bU k i<=bU k n:=by unfold bU;have:=kC (cL k+1) h;omega
theorem pj (v:Value) (qs:List Rat) (k:Nat) (w:World) (hv:mz w v qs k) (hk:bU k qs.length<=67108864):
  Calls Tryz.prog 39 #[v] w λe w'=>∃ x,e=.returned x/\aZ w' w.heap.size x (dY qs)/\dy (dY qs) (bU k qs.length)/\aD w w':=by
 obtain⟨p,c,rfl,eS,gv⟩:=hv.form;obtain⟨N,hN⟩:∃ N,N=qs.length:=⟨_,aa⟩;rw[<-hN] at hv hk eS ⊢;have hNm:N<9223372036854775807:=by unfold bU at hk;have:=Hg N (show 0<cL k+1 by omega);omega
 have huk:cL k<=67108864\/N=0:=by
  rcases oH N with e|e
  ·exact .inr e
  ·left;unfold bU at hk;have:=RA (cL k+1) e;omega
 refine ai (C:=bd Tryz.prog w _) (args:=[_]) HI aa Tryz.ntmps39 (bF aa) ?_;refine af ?_;refine VO.cR aa aa (fk mc) (λaK bE aX=>dK 0 aK ae ae) (λaK bE aX w1 s1 p1 n1 c1 t1 y1 m1 d1 q1 aU cQ _ bb1=>wV aa ?_);refine af ?_
 refine VS.loop (J:=λn L M w'=>∃ i s p' n' c' t r m d,i<=N/\n=N-i/\L=[(7,.val (.slice p N c)),(8,.val (.int .i64 (N:Int))),(9,.val (.int .i64 (i:Int))),(3,.box 3 0),(2,.box 2 0)]/\
  M=[(2,(27,([.bool false,.slice none 0 0,.bool false,.slice none 0 0]:List Value).map .val)),(3,(27,([.bool s,.slice p' n' c',.bool t,.slice r m d]:List Value).map .val))]/\aZ w' w.heap.size (.agg #[.bool s,.slice p' n' c',.bool t,.slice r m d]) (dY (qs.take i))/\dy (dY (qs.take i)) (bU k i)) N ⟨_,_,?_,?_,?_,?_,⟨0,s1,p1,n1,c1,t1,y1,m1,d1,ae,ae,rfl,rfl,(q1.mono aX.size).cast (by simp[dY]),by simp only[List.take_zero,dY,List.foldl_nil,bU,Nat.zero_mul,Nat.add_zero];exact dy.zero⟩⟩ ?_
 ·exact di
 ·exact di
 ·rfl
 ·exact fv
 rintro n L M w' ⟨i,s,p',n',c',t,r,m,d,hi,rfl,rfl,rfl,ho,hz⟩;refine af ?_;by_cases hlt:i<N
 ·obtain⟨q,hq⟩:∃ q,qs[i]? =some q:=⟨_,bj ae⟩;obtain⟨b,off,s2,p2,n2,c2,t2,r2,m2,d2,rfl,hc,lV⟩:=hv.at hq;refine VS.aR aa (aw (aJ.2 hlt)) ?_;refine af ?_;refine VO.cond aa eh (wV aa ?_);refine VO.read aa [.bool s2,.slice p2 n2 c2,.bool t2,.slice r2 m2 d2] aa (λj u hj=>by rw[Addr.add_mid,dV];exact hc j u hj) (wV aa ?_);refine af ?_;refine VO.call aa aa (fk oK) (λbf cK bK=>(ez _ q k bf ((lV.kp (Kp.of (U:=UU) bK))) (by have:=hk;unfold cL at*;omega)).mono ?_);rintro e w2 ⟨r2',rfl,q2,bu⟩;obtain⟨s3,p3,n3,c3,t3,y3,m3,d3,rfl⟩:=q2.form;refine aL bu ?_;intro dW _ bb2;refine VO.call aa aa (fk Hz) (λcV dS ea=>(rV _ _ (dY (qs.take i)) q (bU k i) (cL k) cV ((ho.kp (dW.aN dS)).rd) (q2.kp dS) hz lV.rn (by have:=jE (k:=k) hi;omega) ae).mono ?_);rintro e w3 ⟨r3',rfl,q3,dH⟩;obtain⟨s4,p4,n4,c4,t4,y4,m4,d4,rfl⟩:=q3.form;refine aL dH ?_;intro eV _ bb3;refine VS.back (N-(i+1)) ae ⟨_,_,?_,?_,?_,?_,⟨i+1,s4,p4,n4,c4,t4,y4,m4,d4,ae,aa,aa,aa,(q3.mono ea.size).cast (fM hq).symm,by rw[fM hq,js];exact hz.add lV.rn⟩⟩
  ·refine⟨aa,aa,?_,aa,aa,aj⟩;rw[<-aA ae];rfl
  ·exact di
  ·rfl
  ·exact fv
 ·refine VS.aO aa (az (λe=>hlt (aJ.1 e))) ?_;refine af ?_;refine aC ?_;intro wz kz bz;obtain rfl:i=N:=ae;rw[dM ae] at ho hz;exact⟨_,aa,ho.kp kz,hz,bz⟩
def qx (y x:Rat):Bool:=decide (jD y x<0)
def YZ (y x:Rat):Bool:=decide (jD y x>0)
theorem Ni (v u:Value) (x y:Rat) (k l:Nat) (w:World) (hv:aG w v x k) (hu:aG w u y l) (hk:k<=67108864) (hl:l<=67108864):
  Calls Tryz.prog 289 #[v,u] w λe w'=>e=.returned (.bool (qx y x))/\aD w w':=by
 obtain⟨s,p,n,c,t,z,m,d,rfl⟩:=hv.form;obtain⟨s',p',n',c',t',z',m',d',rfl⟩:=hu.form;refine ai (C:=bd Tryz.prog w _) (args:=[_,_]) Tryz.func289 aa Tryz.ntmps289 (bF aa) ?_;refine af ?_;refine VO.cB aa aa (fk Tryz.func43) (λaK bE aX=>Qe _ _ y x l k aK (hu.kp bE) (hv.kp bE) hl hk) (λaK bE aX w1 aU cQ _ bb1=>wV aa ?_);refine af ?_;refine aC ?_;intro wz kz bz;exact⟨aa,bz⟩
theorem Nj (s:Bool) (p:Option Addr) (n c:Nat) (t:Bool) (r:Option Addr) (m d:Nat) (w:World):
  Calls Tryz.prog 288 #[.agg #[.bool s,.slice p n c,.bool t,.slice r m d]] w λe w'=>e=.returned (.func (.func 289) #[.agg #[.bool s,.slice p n c,.bool t,.slice r m d]] #[])/\aD w w':=by
 refine ai (C:=bd Tryz.prog w _) (args:=[_]) Tryz.func288 aa Tryz.ntmps288 (bF aa) ?_;refine af ?_;refine aC ?_;intro wz kz bz;exact⟨aa,bz⟩
def mf (better:Rat->Rat->Bool) (q:Rat) (qs:List Rat):Rat:=qs.foldl (λo y=>if better y o=true then y else o) q
theorem Qf {better:Rat->Rat->Bool} {x:Rat} {q:Rat} (h:qs[i]? =some q):mf better x (qs.take (i+1))=if better q (mf better x (qs.take i))=true then q else mf better x (qs.take i):=by
 rw[aI h];unfold mf;rw[Lq];rfl
theorem Nk (fB fL:FuncId) (better:Rat->Rat->Bool) (kB:nL Tryz.prog fB) (kL:nL Tryz.prog fL)
  (hB:∀ (s:Bool) (p:Option Addr) (n c:Nat) (t:Bool) (r:Option Addr) (m d:Nat) (w:World),Calls Tryz.prog fB #[.agg #[.bool s,.slice p n c,.bool t,.slice r m d]] w λe w'=>e=.returned (.func (.func fL) #[.agg #[.bool s,.slice p n c,.bool t,.slice r m d]] #[])/\aD w w')
  (hL:∀ (v u:Value) (x y:Rat) (k l:Nat) (w:World),aG w v x k->aG w u y l->k<=67108864->l<=67108864->Calls Tryz.prog fL #[v,u] w λe w'=>e=.returned (.bool (better y x))/\aD w w')
  (u v:Value) (q0:Rat) (qs:List Rat) (k:Nat) (w:World) (hu:aG w u q0 k) (hv:mz w v qs k) (hk:k<=67108863) (hlen:qs.length<9223372036854775807):
  Calls Tryz.prog 287 #[u,v,.func (.func fB) #[] #[]] w λe w'=>∃ x,e=.returned x/\aZ w' w.heap.size x (mf better q0 qs)/\dy (mf better q0 qs) (cL k)/\aD w w':=by
 obtain⟨s,p,n,c,t,y,m,d,rfl⟩:=hu.form;obtain⟨P,cc,rfl,eS,gv⟩:=hv.form;obtain⟨N,hN⟩:∃ N,N=qs.length:=⟨_,aa⟩;rw[<-hN] at hv hlen eS ⊢;have zk:cL k<=67108864:=by unfold cL;omega
 refine ai (C:=bd Tryz.prog w _) (args:=[_,_,_]) Tryz.func287 aa Tryz.ntmps287 (bF aa) ?_;refine af ?_;refine VO.cR aa aa (fk oK) (λaK bE aX=>ez _ q0 k aK (hu.kp bE) ae) (λaK bE aX w1 s1 p1 n1 c1 t1 y1 m1 d1 q1 aU cQ _ bb1=>wV aa ?_);refine af ?_;refine VO.cR aa aa (fk mc) (λbf cK bK=>dK 0 bf ae ae) (λbf cK bK w2 s2 p2 n2 c2 t2 y2 m2 d2 q2 bu dW _ bb2=>wV aa ?_);refine af ?_;refine VO.cR aa aa (fk Hz) (λcV dS ea=>rV _ _ q0 ((0:Int):Rat) (cL k) 1 cV (q1.kp (dW.aN dS)) (q2.kp dS).rd hu.rn dy.zero zk ae) (λcV dS ea w3 s3 p3 n3 c3 t3 y3 m3 d3 q3 dH eV _ bb3=>wV aa ?_);refine af ?_
 refine VS.loop (J:=λn' L M w'=>∃ i s p' n c' t r m d,i<=N/\n'=N-i/\L=[(14,.val (.slice P N cc)),(15,.val (.int .i64 (N:Int))),(16,.val (.int .i64 (i:Int))),(2,.val (.func (.func fB) #[] #[])),(7,.box 7 0),(6,.box 6 0)]/\
  M=[(6,(27,([.bool false,.slice none 0 0,.bool false,.slice none 0 0]:List Value).map .val)),(7,(27,([.bool s,.slice p' n c',.bool t,.slice r m d]:List Value).map .val))]/\aZ w' w.heap.size (.agg #[.bool s,.slice p' n c',.bool t,.slice r m d]) (mf better q0 (qs.take i))/\dy (mf better q0 (qs.take i)) (cL k)) N ⟨_,_,?_,?_,?_,?_,⟨0,s3,p3,n3,c3,t3,y3,m3,d3,ae,ae,rfl,rfl,(q3.mono ea.size).cast (mW _),hu.rn⟩⟩ ?_
 ·exact di
 ·exact di
 ·rfl
 ·exact fv
 rintro n' L M w' ⟨i,s,p',n,c',t,r,m,d,hi,rfl,rfl,rfl,ho,hz⟩;refine af ?_;by_cases hlt:i<N
 ·obtain⟨q,hq⟩:∃ q,qs[i]? =some q:=⟨_,bj ae⟩;obtain⟨b,off,s2,p2,n2,c2,t2,r2,m2,d2,rfl,hc,lV⟩:=hv.at hq;refine VS.aR aa (aw (aJ.2 hlt)) ?_;refine af ?_;refine VO.cond aa eh (wV aa ?_);refine VO.read aa [.bool s2,.slice p2 n2 c2,.bool t2,.slice r2 m2 d2] aa (λj u hj=>by rw[Addr.add_mid,dV];exact hc j u hj) (wV aa ?_);refine af ?_;refine VO.call aa aa kB (λey eU fc=>(hB s p' n c' t r m d ey).mono ?_);rintro e w4 ⟨rfl,gj⟩;refine aL gj ?_;intro jc _ mw;refine VO.call aa aa kL (λgn iz iZ=>(hL _ _ (mf better q0 (qs.take i)) q _ k gn ((ho.kp (jc.aN iz)).in hz) (lV.kp (Kp.of (U:=UU) iZ)) zk ae).mono ?_);rintro e w5 ⟨rfl,je⟩;refine aL je ?_;intro nw _ um;have hsn:=Qf (better:=better) (x:=q0) hq;cases hbt:better q (mf better q0 (qs.take i))
  ·rw[hbt] at hsn;refine VS.aO aa aa ?_;refine af ?_;refine VS.back (N-(i+1)) ae ⟨_,_,?_,?_,?_,?_,⟨i+1,s,p',n,c',t,r,m,d,ae,aa,aa,aa,(ho.kp (jc.aN nw)).cast hsn.symm,by rw[hsn];exact hz⟩⟩
   ·refine⟨aa,aa,?_,aa,aa,aa,aj⟩;rw[<-aA ae];rfl
   ·exact di
   ·rfl
   ·exact fv
  ·rw[hbt] at hsn;refine VS.aR aa aa ?_;refine af ?_;refine VO.cR aa aa (fk oK) (λjL my nV=>ez _ q k jL (lV.kp (Kp.of (U:=UU) nV)) ae) (λjL my nV w6 s6 p6 n6 c6 t6 y6 m6 d6 q6 oY sq _ xT=>wV aa ?_);refine af ?_;refine VO.cR aa aa (fk mc) (λpS uy rR=>dK 0 pS ae ae) (λpS uy rR w7 s7 p7 n7 c7 t7 y7 m7 d7 q7 ER Dv _ Qa=>wV aa ?_);refine af ?_;refine VO.cR aa aa (fk Hz) (λtd Cr xG=>rV _ _ q ((0:Int):Rat) (cL k) 1 td (q6.kp (Dv.aN Cr)) (q7.kp Cr).rd lV.rn dy.zero zk ae) (λtd Cr xG w8 s8 p8 n8 c8 t8 y8 m8 d8 q8 Bz Cs _ Sw=>wV aa ?_);refine af ?_;refine VS.back (N-(i+1)) ae ⟨_,_,?_,?_,?_,?_,⟨i+1,s8,p8,n8,c8,t8,y8,m8,d8,ae,aa,aa,aa,(q8.mono xG.size).cast ((mW _).trans hsn.symm),by rw[hsn];exact lV.rn⟩⟩
   ·refine⟨aa,aa,?_,aa,aa,aa,aj⟩;rw[<-aA ae];rfl
   ·exact di
   ·rfl
   ·exact fv
 ·refine VS.aO aa (az (λe=>hlt (aJ.1 e))) ?_;refine af ?_;refine aC ?_;intro wz kz bz;obtain rfl:i=N:=ae;rw[dM ae] at ho hz;exact⟨_,aa,ho.kp kz,hz,bz⟩
theorem Qg (u v:Value) (q0:Rat) (qs:List Rat) (k:Nat) (w:World) (hu:aG w u q0 k) (hv:mz w v qs k) (hk:k<=67108863) (hlen:qs.length<9223372036854775807):
  Calls Tryz.prog 244 #[u,v] w λe w'=>∃ x,e=.returned x/\aZ w' w.heap.size x (mf qx q0 qs)/\dy (mf qx q0 qs) (cL k)/\aD w w':=by
 obtain⟨s,p,n,c,t,y,m,d,rfl⟩:=hu.form;obtain⟨P,cc,rfl,eS,gv⟩:=hv.form;refine ai (C:=bd Tryz.prog w _) (args:=[_,_]) Tryz.func244 aa Tryz.ntmps244 (bF aa) ?_;refine af ?_;refine VO.call aa aa (fk Tryz.func287) (λaK bE aX=>(Nk 288 289 qx (fk Tryz.func288) (fk Tryz.func289) Nj Ni _ _ q0 qs k aK (hu.kp bE) (hv.bS aX) hk hlen).mono ?_);rintro e w1 ⟨r1,rfl,q1,z1,aU⟩;obtain⟨s1,p1,n1,c1,t1,y1,m1,d1,rfl⟩:=q1.form;refine aL aU ?_;intro cQ _ bb1;refine aC ?_;intro wz kz bz;exact⟨_,aa,(q1.kp kz).mono aX.size,z1,bz⟩
end
set_option maxRecDepth 4000
section
open Go.RowKit
attribute [local irreducible] aB VS
theorem Nl (v u:Value) (X Y:Int) (j k:Nat) (w:World) (hv:cX w v X j) (hu:cX w u Y k) (hj:j<=1073741824) (hk:k<=1073741824):
  Calls Tryz.prog 192 #[v,u] w λe w'=>e=.returned (.bool (decide (X=Y)))/\aD w w':=by
 obtain⟨s,p,n,c,rfl⟩:=hv.form;obtain⟨t,q,m,d,rfl⟩:=hu.form;refine ai (C:=bd Tryz.prog w _) (args:=[_,_]) Tryz.func192 aa Tryz.ntmps192 (bF aa) ?_;refine af ?_;refine VO.cB aa aa (fk Tryz.func259) (λaK bE aX=>MW _ _ X Y j k aK (hv.kp bE) (hu.kp bE) hj hk) (λaK bE aX w1 aU cQ _ bb1=>wV aa ?_);refine af ?_;refine aC ?_;intro wz kz bz;refine⟨?_,bz⟩;show Ending.returned (.bool (EU X Y == 0))=_;unfold EU;by_cases h:X=Y
 ·rw[h,aw rfl,Int.sub_self];rfl
 ·rw[az h]
  have:((X-Y).sign == 0)=false:=by
   rw[eQ];intro e;have:=Lg.1 e;omega
  rw[this]
theorem oe (s t:Bool) (xs ys:List Nat) (v:Value) (w:World) (h:eI w v s xs t ys) (hx:xs.length<=134217728) (hy:ys.length<=134217728):
  Calls Tryz.prog 133 #[v] w λe w'=>e=.returned (.bool (ur s xs t ys))/\aD w w':=by
 obtain⟨p,c,r,d,rfl,h1,h2⟩:=h;refine ai (C:=bd Tryz.prog w _) (args:=[_]) Tryz.func133 aa Tryz.ntmps133 (bF aa) ?_;refine af ?_;refine VO.call aa aa (fk Tryz.func190) (λaK bE aX=>(xE s xs _ aK (h1.bS aX)).mono ?_);rintro e w1 ⟨rfl,aU⟩;cases q1:fi s xs
 ·refine aL aU ?_;intro cQ _ bb1;refine aC ?_;intro wz kz bz;exact⟨by simp[ur,q1,nJ],bz⟩
 refine aL aU ?_;intro cQ _ bb1;refine VO.call aa aa (fk Tryz.func190) (λbf cK bK=>(xE t ys _ bf (h2.bS bK)).mono ?_);rintro e w2 ⟨rfl,bu⟩;cases q2:fi t ys
 ·refine aL bu ?_;intro dW _ bb2;refine aC ?_;intro wz kz bz;exact⟨by simp[ur,q1,q2,nJ],bz⟩
 refine aL bu ?_;intro dW _ bb2;refine VO.call aa aa (fk kY) (λcV dS ea=>(eM _ (numOf t ys) _ cV ((h2.in (bl _)).bS ea) ae).mono ?_);rintro e w3 ⟨rfl,dH⟩;by_cases q3:0<numOf t ys
 ·rw[fR q3];refine aL dH ?_;intro eV _ bb3;refine VO.cI aa aa (fk Tryz.func193) (λey eU fc=>Ff _ _ (numOf s xs) (numOf t ys) _ _ ey ((h1.in (bl _)).bS fc) ((h2.in (bl _)).bS fc) ae ae) (λey eU fc w4 s4 p4 n4 c4 h4 gj jc _ mw=>wV aa ?_);refine af ?_;refine VO.cI aa aa (fk tV) (λgn iz iZ=>lN 1 gn ae ae) (λgn iz iZ w5 s5 p5 n5 c5 h5 je nw _ um=>wV aa ?_);refine af ?_;have hg:Sz (Int.gcd (numOf s xs) (numOf t ys):Int) ys.length:=Kl (yZ h2.lim (bl _)) ae;refine VO.call aa aa (fk Tryz.func192) (λjL my nV=>(Nl _ _ (Int.gcd (numOf s xs) (numOf t ys):Int) 1 _ 1 jL ((h4.kp (nw.aN my)).in hg) ((h5.kp my).in (Sz.small eL)) ae ae).mono ?_);rintro e w6 ⟨rfl,oY⟩;by_cases q4:Int.gcd (numOf s xs) (numOf t ys)=1
  ·rw[show decide ((Int.gcd (numOf s xs) (numOf t ys):Int)=1)=true from aw ae];refine aL oY ?_;intro sq _ xT;refine aC ?_;intro wz kz bz;exact⟨by simp[ur,q1,q2,q3,q4,nJ],bz⟩
  ·rw[show decide ((Int.gcd (numOf s xs) (numOf t ys):Int)=1)=false from az ae];refine aL oY ?_;intro sq _ xT;refine aC ?_;intro wz kz bz;exact⟨by simp[ur,q1,q2,q3,q4,nJ],bz⟩
 ·have q4:(numOf t ys).sign=0\/(numOf t ys).sign= -1:=by
   rcases Int.lt_trichotomy (numOf t ys) 0 with e|e|e
   ·exact .inr (sign_neg e)
   ·rw[e];exact .inl aa
   ·exact absurd e q3
  rcases q4 with q4|q4
  all_goals
   rw[q4];refine aL dH ?_;intro eV _ bb3;refine aC ?_;intro wz kz bz;exact⟨by simp[ur,q1,q2,q3,nJ],bz⟩
theorem th (n:Int) (w:World) (h0: -9223372036854775808<=n) (h1:n<=9223372036854775807):
  Calls Tryz.prog 228 #[.int .i64 n] w λe w'=>∃ r,e=.returned r/\aZ w' w.heap.size r (n:Rat)/\aD w w':=by
 refine ai (C:=bd Tryz.prog w _) (args:=[_]) Tryz.func228 aa Tryz.ntmps228 (bF aa) ?_;refine af ?_;refine VO.cI aa aa (fk tV) (λaK bE aX=>lN n aK h0 h1) (λaK bE aX w1 s1 p1 n1 c1 q1 aU cQ _ bb1=>wV aa ?_);refine af ?_;refine VO.cI aa aa (fk tV) (λbf cK bK=>lN 1 bf ae ae) (λbf cK bK w2 s2 p2 n2 c2 q2 bu dW _ bb2=>wV aa ?_);refine af ?_;refine aC ?_;intro wz kz bz;exact⟨_,aa,⟨_,_,_,_,_,_,_,_,aa,(q1.kp (dW.aN kz)).mono aX.size,(q2.kp kz).mono bK.size⟩,bz⟩
theorem iA (w:World):Calls Tryz.prog 80 #[] w λe w'=>∃ r,e=.returned r/\aZ w' w.heap.size r 0/\aD w w':=by
 refine ai (C:=bd Tryz.prog w _) (args:=[]) yf aa Tryz.ntmps80 (bF aa) ?_;refine af ?_;refine VO.cI aa aa (fk tV) (λaK bE aX=>lN 0 aK ae ae) (λaK bE aX w1 s1 p1 n1 c1 q1 aU cQ _ bb1=>wV aa ?_);refine af ?_;refine VO.cI aa aa (fk tV) (λbf cK bK=>lN 1 bf ae ae) (λbf cK bK w2 s2 p2 n2 c2 q2 bu dW _ bb2=>wV aa ?_);refine af ?_;refine aC ?_;intro wz kz bz;exact⟨_,aa,⟨_,_,_,_,_,_,_,_,aa,(q1.kp (dW.aN kz)).mono aX.size,(q2.kp kz).mono bK.size⟩,bz⟩
theorem ee (v:Value) (q:Rat) (k:Nat) (w:World) (h:aG w v q k) (hk:k<=134217728):
  Calls Tryz.prog 70 #[v] w λe w'=>∃ r,e=.returned r/\bq w' r q/\aD w w':=by
 obtain⟨s,xs,t,ys,gN,rfl,hx,hy⟩:=h;have vt:=gN;obtain⟨p,c,r,d,rfl,_,_⟩:=gN;refine ai (C:=bd Tryz.prog w _) (args:=[_]) nQ aa Tryz.ntmps70 (bF aa) ?_;refine af ?_;refine VO.call aa aa (fk Tryz.func133) (λaK bE aX=>(oe s t xs ys _ aK (vt.kp bE) ae ae).mono ?_);rintro e w1 ⟨rfl,aU⟩;cases hq:ur s xs t ys
 ·refine aL aU ?_;intro cQ _ bb1;refine VO.cR aa aa (fk yf) (λbf cK bK=>iA bf) (λbf cK bK w2 s2 p2 n2 c2 t2 y2 m2 d2 h2 bu dW _ bb2=>wV aa ?_);refine af ?_;refine aC ?_;intro wz kz bz;exact⟨_,aa,by rw[vp hq];exact (h2.kp kz).rd,bz⟩
 ·refine aL aU ?_;intro cQ _ bb1;refine aC ?_;intro wz kz bz;exact⟨_,aa,(rT vt hq).kp (cQ.aN kz),bz⟩
theorem Za {X Y:Int}:Rat.divInt X Y=Rat.divInt (-X) (-Y):=(Rat.neg_divInt_neg X Y).symm
theorem pw (v u:Value) (X Y:Int) (j k:Nat) (w:World) (hv:cX w v X j) (hu:cX w u Y k) (hj:j<=134217728) (hk:k<=134217728):
  Calls Tryz.prog 139 #[v,u] w λe w'=>∃ r,e=.returned (.tuple #[r,.int .i64 (rU Y)])/\aZ w' w.heap.size r (Rat.divInt X Y)/\aD w w':=by
 obtain⟨s,p,n,c,rfl⟩:=hv.form;obtain⟨t,r,m,d,rfl⟩:=hu.form;refine ai (C:=bd Tryz.prog w _) (args:=[_,_]) Hw aa Tryz.ntmps139 (bF aa) ?_;refine af ?_;refine VO.call aa aa (fk kY) (λaK bE aX=>(eM _ Y k aK (hu.bS aX) ae).mono ?_);rintro e w1 ⟨rfl,aU⟩;by_cases hY:Y=0
 ·rw[show Y.sign=0 by rw[hY];rfl];refine aL aU ?_;intro cQ _ bb1;refine VO.cR aa aa (fk yf) (λbf cK bK=>iA bf) (λbf cK bK w2 s2 p2 n2 c2 t2 y2 m2 d2 h2 bu dW _ bb2=>wV aa ?_);refine af ?_;refine aC ?_;intro wz kz bz;refine⟨_,by rw[rU,if_pos hY];rfl,?_,bz⟩;rw[hY,Lv];exact (h2.kp kz).mono bK.size
 ·rcases Lm hY with q|q
  ·rw[sign_neg q];refine aL aU ?_;intro cQ _ bb1;refine VO.call aa aa (fk kY) (λbf cK bK=>(eM _ Y k bf (hu.bS bK) ae).mono ?_);rintro e w2 ⟨rfl,bu⟩;rw[sign_neg q];refine aL bu ?_;intro dW _ bb2;refine VO.cI aa aa (fk Tryz.func194) (λcV dS ea=>zc _ X j cV (hv.bS ea) ae) (λcV dS ea w3 s3 p3 n3 c3 h3 dH eV _ bb3=>wV aa ?_);refine af ?_;refine VO.cI aa aa (fk Tryz.func194) (λey eU fc=>zc _ Y k ey (hu.bS fc) ae) (λey eU fc w4 s4 p4 n4 c4 h4 gj jc _ mw=>wV aa ?_);refine af ?_;have z3:Sz (-X) j:=Sz.neg hv.len;have z4:Sz (-Y) k:=Sz.neg hu.len;obtain⟨l1,l2⟩:=Ds (X:= -X) (Y:= -Y) ae;have YX:Sz (Int.gcd (-X) (-Y):Int) k:=Kl z4 ae
   have Yy:(Int.gcd (-X) (-Y):Int)≠0:=by
    intro e;have:=(RE.1 (show Int.gcd (-X) (-Y)=0 by omega)).2;omega
   refine VO.cI aa aa (fk Tryz.func193) (λgn iz iZ=>Ff _ _ (-X) (-Y) j k gn ((h3.kp (jc.aN iz)).in z3) ((h4.kp iz).in z4) ae ae) (λgn iz iZ w5 s5 p5 n5 c5 h5 je nw _ um=>wV aa ?_);refine af ?_;refine VO.call aa aa (fk Hv) (λjL my nV=>(nx _ _ (-X) (Int.gcd (-X) (-Y):Int) j k jL ((h3.kp (jc.aN (nw.aN my))).in z3) ((h5.kp my).in YX) ae ae).mono ?_);rintro e w6 ⟨hd6,oY⟩;obtain⟨v6,u6,rfl,h6,h6'⟩:=fZ hd6 Yy;obtain⟨s6,p6,n6,c6,rfl⟩:=h6.form;obtain⟨t6,r6,m6,d6,rfl⟩:=h6'.form;refine aL oY ?_;intro sq _ xT;refine VO.call aa aa (fk Hv) (λpS uy rR=>(nx _ _ (-Y) (Int.gcd (-X) (-Y):Int) k k pS ((h4.kp (nw.aN (sq.aN uy))).in z4) ((h5.kp (sq.aN uy)).in YX) ae ae).mono ?_);rintro e w7 ⟨hd7,ER⟩;obtain⟨v7,u7,rfl,h7,h7'⟩:=fZ hd7 Yy;obtain⟨s7,p7,n7,c7,rfl⟩:=h7.form;obtain⟨t7,r7,m7,d7,rfl⟩:=h7'.form;refine aL ER ?_;intro Dv _ Qa;refine aC ?_;intro wz kz bz;rw[Za];exact⟨_,by rw[rU,if_neg hY];rfl,⟨_,_,_,_,_,_,_,_,rfl,aE.cast ((h6.kp (Dv.aN kz)).mono nV.size) l1,aE.cast ((h7.kp kz).mono rR.size) l2⟩,bz⟩
  ·rw[fR q];refine aL aU ?_;intro cQ _ bb1;refine VO.call aa aa (fk kY) (λbf cK bK=>(eM _ Y k bf (hu.bS bK) ae).mono ?_);rintro e w2 ⟨rfl,bu⟩;rw[fR q];refine aL bu ?_;intro dW _ bb2;obtain⟨l1,l2⟩:=Ds (X:=X) (Y:=Y) q;have YX:Sz (Int.gcd X Y:Int) k:=Kl hu.len hY
   have Yy:(Int.gcd X Y:Int)≠0:=by
    intro e;have:=(RE.1 (show Int.gcd X Y=0 by omega)).2;omega
   refine VO.cI aa aa (fk Tryz.func193) (λgn iz iZ=>Ff _ _ X Y j k gn (hv.bS iZ) (hu.bS iZ) ae ae) (λgn iz iZ w5 s5 p5 n5 c5 h5 je nw _ um=>wV aa ?_);refine af ?_;refine VO.call aa aa (fk Hv) (λjL my nV=>(nx _ _ X (Int.gcd X Y:Int) j k jL (hv.bS nV) ((h5.kp my).in YX) ae ae).mono ?_);rintro e w6 ⟨hd6,oY⟩;obtain⟨v6,u6,rfl,h6,h6'⟩:=fZ hd6 Yy;obtain⟨s6,p6,n6,c6,rfl⟩:=h6.form;obtain⟨t6,r6,m6,d6,rfl⟩:=h6'.form;refine aL oY ?_;intro sq _ xT;refine VO.call aa aa (fk Hv) (λpS uy rR=>(nx _ _ Y (Int.gcd X Y:Int) k k pS (hu.bS rR) ((h5.kp (sq.aN uy)).in YX) ae ae).mono ?_);rintro e w7 ⟨hd7,ER⟩;obtain⟨v7,u7,rfl,h7,h7'⟩:=fZ hd7 Yy;obtain⟨s7,p7,n7,c7,rfl⟩:=h7.form;obtain⟨t7,r7,m7,d7,rfl⟩:=h7'.form;refine aL ER ?_;intro Dv _ Qa;refine aC ?_;intro wz kz bz;exact⟨_,by rw[rU,if_neg hY];rfl,⟨_,_,_,_,_,_,_,_,rfl,aE.cast ((h6.kp (Dv.aN kz)).mono nV.size) l1,aE.cast ((h7.kp kz).mono rR.size) l2⟩,bz⟩
theorem UE (n d:Int) (w:World) (h0: -9223372036854775808<=n) (h1:n<=9223372036854775807) (g0: -9223372036854775808<=d) (g1:d<=9223372036854775807):
  Calls Tryz.prog 104 #[.int .i64 n,.int .i64 d] w λe w'=>∃ r,e=.returned (.tuple #[r,.int .i64 (rU d)])/\aZ w' w.heap.size r (Rat.divInt n d)/\aD w w':=by
 refine ai (C:=bd Tryz.prog w _) (args:=[_,_]) Tryz.func104 aa Tryz.ntmps104 (bF aa) ?_;refine af ?_;refine VO.cI aa aa (fk tV) (λaK bE aX=>lN n aK h0 h1) (λaK bE aX w1 s1 p1 n1 c1 q1 aU cQ _ bb1=>wV aa ?_);refine af ?_;refine VO.cI aa aa (fk tV) (λbf cK bK=>lN d bf g0 g1) (λbf cK bK w2 s2 p2 n2 c2 q2 bu dW _ bb2=>wV aa ?_);refine af ?_;refine VO.call aa aa (fk Hw) (λcV dS ea=>(pw _ _ n d 2 2 cV ((q1.kp (dW.aN dS)).in (Sz.of_lt ae)) ((q2.kp dS).in (Sz.of_lt ae)) ae ae).mono ?_);rintro e w3 ⟨r3,rfl,q3,dH⟩;obtain⟨s3,p3,n3,c3,t3,x3,m3,d3,rfl⟩:=q3.form;refine aL dH ?_;intro eV _ bb3;refine aC ?_;intro wz kz bz;exact⟨_,aa,(q3.kp kz).mono ea.size,bz⟩
theorem fj (v u:Value) (q r:Rat) (k l:Nat) (w:World) (hv:aG w v q k) (hu:aG w u r l) (hk:k<=33554432) (hl:l<=33554432):
  Calls Tryz.prog 79 #[v,u] w λe w'=>∃ x,e=.returned x/\aZ w' w.heap.size x (q+r)/\aD w w':=by
 obtain⟨s,p,n,c,t,y,m,d,rfl⟩:=hv.form;obtain⟨s',p',n',c',t',y',m',d',rfl⟩:=hu.form;have zq:=hv.rn;have zr:=hu.rn;have uk:cL k<=33554432:=by unfold cL;omega
 have ul:cL l<=33554432:=by unfold cL;omega
 refine ai (C:=bd Tryz.prog w _) (args:=[_,_]) qe aa Tryz.ntmps79 (bF aa) ?_;refine af ?_;refine VO.cR aa aa (fk nQ) (λaK bE aX=>ee _ q k aK (hv.kp bE) ae) (λaK bE aX w1 s1 p1 n1 c1 t1 y1 m1 d1 q1 aU cQ _ bb1=>wV aa ?_);refine af ?_;refine VO.cR aa aa (fk nQ) (λbf cK bK=>ee _ r l bf (hu.kp (cQ.aN cK)) ae) (λbf cK bK w2 s2 p2 n2 c2 t2 y2 m2 d2 q2 bu dW _ bb2=>wV aa ?_);refine af ?_;obtain⟨a1,a2⟩:=q1.parts;obtain⟨b1,b2⟩:=q2.parts;refine VO.cI aa aa (fk Bj) (λcV dS ea=>oZ _ _ q.num r.den _ _ cV ((a1.kp (dW.aN dS)).to zq.1) ((b2.kp dS).to zr.2) ae ae) (λcV dS ea w3 s3 p3 n3 c3 q3 dH eV _ bb3=>wV aa ?_);refine af ?_;refine VO.cI aa aa (fk Bj) (λey eU fc=>oZ _ _ r.num q.den _ _ ey ((b1.kp (eV.aN eU)).to zr.1) ((a2.kp (dW.aN (eV.aN eU))).to zq.2) ae ae) (λey eU fc w4 s4 p4 n4 c4 q4 gj jc _ mw=>wV aa ?_);refine af ?_;refine VO.cI aa aa (fk Tryz.func140) (λgn iz iZ=>ze _ _ (q.num*r.den) (r.num*q.den) (cL k+cL l) (cL l+cL k) gn ((q3.kp (jc.aN iz)).in (zq.1.mul zr.2)) ((q4.kp iz).in (zr.1.mul zq.2)) ae ae) (λgn iz iZ w5 s5 p5 n5 c5 q5 je nw _ um=>wV aa ?_);refine af ?_;refine VO.cI aa aa (fk Bj) (λjL my nV=>oZ _ _ q.den r.den _ _ jL ((a2.kp (dW.aN (eV.aN (jc.aN (nw.aN my))))).to zq.2) ((b2.kp (eV.aN (jc.aN (nw.aN my)))).to zr.2) ae ae) (λjL my nV w6 s6 p6 n6 c6 q6 oY sq _ xT=>wV aa ?_);refine af ?_;refine VO.call aa aa (fk Hw) (λpS uy rR=>(pw _ _ (q.num*r.den+r.num*q.den) ((q.den:Int)*r.den) (cL k+cL l+1) (cL k+cL l) pS ((q5.kp (sq.aN uy)).in (Sz.add (zq.1.mul zr.2) (zr.1.mul zq.2) (m:=cL k+cL l) ae ae)) ((q6.kp uy).in (zq.2.mul zr.2)) ae ae).mono ?_);rintro e w7 ⟨r7,rfl,q7,ER⟩;obtain⟨s7,p7,n7,c7,t7,y7,m7,d7,rfl⟩:=q7.form;refine aL ER ?_;intro Dv _ Qa;refine aC ?_;intro wz kz bz;exact⟨_,aa,aZ.cast ((q7.kp kz).mono rR.size) (Dx q r).symm,bz⟩
theorem kn (v:Value) (q:Rat) (k:Nat) (w:World) (hv:aG w v q k) (hk:k<=134217728):
  Calls Tryz.prog 235 #[v] w λe w'=>∃ x,e=.returned x/\bq w' x (-q)/\aD w w':=by
 obtain⟨s,p,n,c,t,y,m,d,rfl⟩:=hv.form;refine ai (C:=bd Tryz.prog w _) (args:=[_]) Bk aa Tryz.ntmps235 (bF aa) ?_;refine af ?_;refine VO.cR aa aa (fk nQ) (λaK bE aX=>ee _ q k aK (hv.kp bE) hk) (λaK bE aX w1 s1 p1 n1 c1 t1 y1 m1 d1 q1 aU cQ _ bb1=>wV aa ?_);refine af ?_;obtain⟨a1,a2⟩:=q1.parts;refine VO.cI aa aa (fk Tryz.func194) (λbf cK bK=>zc _ q.num _ bf ((a1.kp cK).to hv.rn.1) (by unfold cL;omega)) (λbf cK bK w2 s2 p2 n2 c2 q2 bu dW _ bb2=>wV aa ?_);refine af ?_;refine aC ?_;intro wz kz bz;refine⟨_,aa,⟨_,_,_,_,_,_,_,_,aa,?_,?_⟩,bz⟩
 ·rw[Rat.neg_num];exact (q2.kp kz).rd
 ·rw[Rat.neg_den];exact a2.kp (dW.aN kz)
theorem ko (v u:Value) (q r:Rat) (k l:Nat) (w:World) (hv:aG w v q k) (hu:aG w u r l) (hk:k<=33554432) (hl:l<=33554431):
  Calls Tryz.prog 179 #[v,u] w λe w'=>∃ x,e=.returned x/\aZ w' w.heap.size x (q-r)/\aD w w':=by
 obtain⟨s,p,n,c,t,y,m,d,rfl⟩:=hv.form;obtain⟨s',p',n',c',t',y',m',d',rfl⟩:=hu.form;refine ai (C:=bd Tryz.prog w _) (args:=[_,_]) Bl aa Tryz.ntmps179 (bF aa) ?_;refine af ?_;refine VO.cR aa aa (fk Bk) (λaK bE aX=>kn _ r l aK (hu.kp bE) ae) (λaK bE aX w1 s1 p1 n1 c1 t1 y1 m1 d1 q1 aU cQ _ bb1=>wV aa ?_);refine af ?_;refine VO.cR aa aa (fk qe) (λbf cK bK=>fj _ _ q (-r) k (cL l) bf (hv.kp (cQ.aN cK)) ((q1.kp cK).to hu.rn.neg) hk (by unfold cL;omega)) (λbf cK bK w2 s2 p2 n2 c2 t2 y2 m2 d2 q2 bu dW _ bb2=>wV aa ?_);refine af ?_;refine aC ?_;intro wz kz bz;exact⟨_,aa,aZ.cast ((q2.kp kz).mono bK.size) (Rat.sub_eq_add_neg q r).symm,bz⟩
theorem Qh (v u:Value) (q r:Rat) (k l:Nat) (w:World) (hv:aG w v q k) (hu:aG w u r l) (hk:k<=33554432) (hl:l<=33554432):
  Calls Tryz.prog 284 #[v,u] w λe w'=>∃ x,e=.returned x/\aZ w' w.heap.size x (q*r)/\aD w w':=by
 obtain⟨s,p,n,c,t,y,m,d,rfl⟩:=hv.form;obtain⟨s',p',n',c',t',y',m',d',rfl⟩:=hu.form;have zq:=hv.rn;have zr:=hu.rn;have uk:cL k<=33554432:=by unfold cL;omega
 have ul:cL l<=33554432:=by unfold cL;omega
 refine ai (C:=bd Tryz.prog w _) (args:=[_,_]) Tryz.func284 aa Tryz.ntmps284 (bF aa) ?_;refine af ?_;refine VO.cR aa aa (fk nQ) (λaK bE aX=>ee _ q k aK (hv.kp bE) ae) (λaK bE aX w1 s1 p1 n1 c1 t1 y1 m1 d1 q1 aU cQ _ bb1=>wV aa ?_);refine af ?_;refine VO.cR aa aa (fk nQ) (λbf cK bK=>ee _ r l bf (hu.kp (cQ.aN cK)) ae) (λbf cK bK w2 s2 p2 n2 c2 t2 y2 m2 d2 q2 bu dW _ bb2=>wV aa ?_);refine af ?_;obtain⟨a1,a2⟩:=q1.parts;obtain⟨b1,b2⟩:=q2.parts;refine VO.cI aa aa (fk Bj) (λcV dS ea=>oZ _ _ q.num r.num _ _ cV ((a1.kp (dW.aN dS)).to zq.1) ((b1.kp dS).to zr.1) ae ae) (λcV dS ea w3 s3 p3 n3 c3 q3 dH eV _ bb3=>wV aa ?_);refine af ?_;refine VO.cI aa aa (fk Bj) (λey eU fc=>oZ _ _ q.den r.den _ _ ey ((a2.kp (dW.aN (eV.aN eU))).to zq.2) ((b2.kp (eV.aN eU)).to zr.2) ae ae) (λey eU fc w4 s4 p4 n4 c4 q4 gj jc _ mw=>wV aa ?_);refine af ?_;refine VO.call aa aa (fk Hw) (λgn iz iZ=>(pw _ _ (q.num*r.num) ((q.den:Int)*r.den) (cL k+cL l) (cL k+cL l) gn ((q3.kp (jc.aN iz)).in (zq.1.mul zr.1)) ((q4.kp iz).in (zq.2.mul zr.2)) ae ae).mono ?_);rintro e w5 ⟨r5,rfl,q5,je⟩;obtain⟨s5,p5,n5,c5,t5,y5,m5,d5,rfl⟩:=q5.form;refine aL je ?_;intro nw _ um;refine aC ?_;intro wz kz bz;exact⟨_,aa,aZ.cast ((q5.kp kz).mono iZ.size) (Km q r).symm,bz⟩
theorem Qi (v u:Value) (q r:Rat) (k l:Nat) (w:World) (hv:aG w v q k) (hu:aG w u r l) (hk:k<=33554432) (hl:l<=33554432):
  Calls Tryz.prog 286 #[v,u] w λe w'=>∃ x,e=.returned (.tuple #[x,.int .i64 (IX r)])/\aZ w' w.heap.size x (q/r)/\aD w w':=by
 obtain⟨s,p,n,c,t,y,m,d,rfl⟩:=hv.form;obtain⟨s',p',n',c',t',y',m',d',rfl⟩:=hu.form;have zq:=hv.rn;have zr:=hu.rn;have uk:cL k<=33554432:=by unfold cL;omega
 have ul:cL l<=33554432:=by unfold cL;omega
 refine ai (C:=bd Tryz.prog w _) (args:=[_,_]) Tryz.func286 aa Tryz.ntmps286 (bF aa) ?_;refine af ?_;refine VO.cR aa aa (fk nQ) (λaK bE aX=>ee _ q k aK (hv.kp bE) ae) (λaK bE aX w1 s1 p1 n1 c1 t1 y1 m1 d1 q1 aU cQ _ bb1=>wV aa ?_);refine af ?_;refine VO.cR aa aa (fk nQ) (λbf cK bK=>ee _ r l bf (hu.kp (cQ.aN cK)) ae) (λbf cK bK w2 s2 p2 n2 c2 t2 y2 m2 d2 q2 bu dW _ bb2=>wV aa ?_);refine af ?_;obtain⟨a1,a2⟩:=q1.parts;obtain⟨b1,b2⟩:=q2.parts;refine VO.cI aa aa (fk Bj) (λcV dS ea=>oZ _ _ q.num r.den _ _ cV ((a1.kp (dW.aN dS)).to zq.1) ((b2.kp dS).to zr.2) ae ae) (λcV dS ea w3 s3 p3 n3 c3 q3 dH eV _ bb3=>wV aa ?_);refine af ?_;refine VO.cI aa aa (fk Bj) (λey eU fc=>oZ _ _ q.den r.num _ _ ey ((a2.kp (dW.aN (eV.aN eU))).to zq.2) ((b1.kp (eV.aN eU)).to zr.1) ae ae) (λey eU fc w4 s4 p4 n4 c4 q4 gj jc _ mw=>wV aa ?_);refine af ?_;refine VO.call aa aa (fk Hw) (λgn iz iZ=>(pw _ _ (q.num*r.den) ((q.den:Int)*r.num) (cL k+cL l) (cL k+cL l) gn ((q3.kp (jc.aN iz)).in (zq.1.mul zr.2)) ((q4.kp iz).in (zq.2.mul zr.1)) ae ae).mono ?_);rintro e w5 ⟨r5,rfl,q5,je⟩;obtain⟨s5,p5,n5,c5,t5,y5,m5,d5,rfl⟩:=q5.form;refine aL je ?_;intro nw _ um;refine aC ?_;intro wz kz bz;exact⟨_,by rw[<-UD q r];rfl,aZ.cast ((q5.kp kz).mono iZ.size) (div_raw q r).symm,bz⟩
theorem Nn (v:Value) (q:Rat) (k:Nat) (w:World) (hv:aG w v q k) (hk:k<=134217728):
  Calls Tryz.prog 203 #[v] w λe w'=>e=.returned (.int .i64 (jD q 0))/\aD w w':=by
 obtain⟨s,p,n,c,t,y,m,d,rfl⟩:=hv.form;refine ai (C:=bd Tryz.prog w _) (args:=[_]) Tryz.func203 aa Tryz.ntmps203 (bF aa) ?_;refine af ?_;refine VO.cR aa aa (fk nQ) (λaK bE aX=>ee _ q k aK (hv.kp bE) hk) (λaK bE aX w1 s1 p1 n1 c1 t1 y1 m1 d1 q1 aU cQ _ bb1=>wV aa ?_);refine af ?_;refine VO.call aa aa (fk kY) (λbf cK bK=>(eM _ q.num _ bf ((q1.parts.1.kp cK).to hv.rn.1) (by unfold cL;omega)).mono ?_);rintro e w2 ⟨rfl,bu⟩;rw[IW];refine aL bu ?_;intro dW _ bb2;refine aC ?_;intro wz kz bz;exact⟨aa,bz⟩
theorem tj (v u:Value) (q r:Rat) (k l:Nat) (w:World) (hv:aG w v q k) (hu:aG w u r l) (hk:k<=33554431) (hl:l<=33554431):
  Calls Tryz.prog 143 #[v,u] w λe w'=>e=.returned (.int .i64 (jD q r))/\aD w w':=by
 obtain⟨s,p,n,c,t,y,m,d,rfl⟩:=hv.form;obtain⟨s',p',n',c',t',y',m',d',rfl⟩:=hu.form;have uk:cL k<=33554431:=by unfold cL;omega
 have ul:cL l<=33554431:=by unfold cL;omega
 refine ai (C:=bd Tryz.prog w _) (args:=[_,_]) Tryz.func143 aa Tryz.ntmps143 (bF aa) ?_;refine af ?_;refine VO.cR aa aa (fk Bl) (λaK bE aX=>ko _ _ q r k l aK (hv.kp bE) (hu.kp bE) ae hl) (λaK bE aX w1 s1 p1 n1 c1 t1 y1 m1 d1 q1 aU cQ _ bb1=>wV aa ?_);refine af ?_;refine VO.call aa aa (fk Tryz.func203) (λbf cK bK=>(Nn _ (q-r) (cL k+cL l+1) bf ((q1.kp cK).in (hv.rn.sub hu.rn)) ae).mono ?_);rintro e w2 ⟨rfl,bu⟩;rw[YY];refine aL bu ?_;intro dW _ bb2;refine aC ?_;intro wz kz bz;exact⟨aa,bz⟩
theorem UF {q r:Rat}:(jD q r == 0)=decide (q=r):=by
 unfold jD;by_cases h1:q<r
 ·rw[if_pos h1,az (λe=>by rw[e] at h1;exact absurd h1 Rat.lt_irrefl)];rfl
 ·rw[if_neg h1];by_cases h2:q=r
  ·rw[if_pos h2,aw h2];rfl
  ·rw[if_neg h2,az h2];rfl
theorem Np (v u:Value) (q r:Rat) (k l:Nat) (w:World) (hv:aG w v q k) (hu:aG w u r l) (hk:k<=33554431) (hl:l<=33554431):
  Calls Tryz.prog 82 #[v,u] w λe w'=>e=.returned (.bool (decide (q=r)))/\aD w w':=by
 obtain⟨s,p,n,c,t,y,m,d,rfl⟩:=hv.form;obtain⟨s',p',n',c',t',y',m',d',rfl⟩:=hu.form;refine ai (C:=bd Tryz.prog w _) (args:=[_,_]) Tryz.func82 aa Tryz.ntmps82 (bF aa) ?_;refine af ?_;refine VO.cB aa aa (fk Tryz.func143) (λaK bE aX=>tj _ _ q r k l aK (hv.kp bE) (hu.kp bE) hk hl) (λaK bE aX w1 aU cQ _ bb1=>wV aa ?_);refine af ?_;refine aC ?_;intro wz kz bz;exact⟨by rw[<-UF];rfl,bz⟩
set_option maxRecDepth 4000
theorem xI (v:Value) (qs:List Rat) (k:Nat) (w:World) (hv:mz w v qs k) (hk:bU k qs.length<=33554432):
  Calls Tryz.prog 187 #[v] w λe w'=>∃ x,e=.returned x/\aZ w' w.heap.size x (dY qs)/\dy (dY qs) (bU k qs.length)/\aD w w':=by
 obtain⟨p,c,rfl,eS,gv⟩:=hv.form;obtain⟨N,hN⟩:∃ N,N=qs.length:=⟨_,aa⟩;rw[<-hN] at hv hk eS ⊢;have hNm:N<9223372036854775807:=by unfold bU at hk;have:=Hg N (show 0<cL k+1 by omega);omega
 have huk:cL k<=33554432\/N=0:=by
  rcases oH N with e|e
  ·exact .inr e
  ·left;unfold bU at hk;have:=RA (cL k+1) e;omega
 refine ai (C:=bd Tryz.prog w _) (args:=[_]) Tryz.func187 aa Tryz.ntmps187 (bF aa) ?_;refine af ?_;refine VO.cR aa aa (fk yf) (λaK bE aX=>iA aK) (λaK bE aX w1 s1 p1 n1 c1 t1 y1 m1 d1 q1 aU cQ _ bb1=>wV aa ?_);refine af ?_
 refine VS.loop (J:=λn L M w'=>∃ i s p' n' c' t r m d,i<=N/\n=N-i/\L=[(0,.val (.slice p N c)),(4,.val (.int .i64 (i:Int))),(3,.box 3 0),(2,.box 2 0)]/\
  M=[(2,(38,([.bool false,.slice none 0 0,.bool false,.slice none 0 0]:List Value).map .val)),(3,(38,([.bool s,.slice p' n' c',.bool t,.slice r m d]:List Value).map .val))]/\aZ w' w.heap.size (.agg #[.bool s,.slice p' n' c',.bool t,.slice r m d]) (dY (qs.take i))/\dy (dY (qs.take i)) (bU k i)) N ⟨_,_,?_,?_,?_,?_,⟨0,s1,p1,n1,c1,t1,y1,m1,d1,ae,ae,rfl,rfl,(q1.mono aX.size).cast (by simp[dY]),by simp only[List.take_zero,dY,List.foldl_nil,bU,Nat.zero_mul,Nat.add_zero];exact dy.zero⟩⟩ ?_
 ·exact di
 ·exact di
 ·rfl
 ·exact fv
 rintro n L M w' ⟨i,s,p',n',c',t,r,m,d,hi,rfl,rfl,rfl,ho,hz⟩;refine af ?_;by_cases hlt:i<N
 ·obtain⟨q,hq⟩:∃ q,qs[i]? =some q:=⟨_,bj ae⟩;obtain⟨b,off,s2,p2,n2,c2,t2,r2,m2,d2,rfl,hc,lV⟩:=hv.at hq;refine VS.aR aa (aw (aJ.2 hlt)) ?_;refine af ?_;refine VO.cond aa eh (wV aa ?_);refine VO.read aa [.bool s2,.slice p2 n2 c2,.bool t2,.slice r2 m2 d2] aa (λj u hj=>by rw[Addr.add_mid,dV];exact hc j u hj) (wV aa ?_);refine af ?_;refine VO.call aa aa (fk qe) (λcV dS ea=>(fj _ _ (dY (qs.take i)) q (bU k i) k cV ((ho.kp dS).in hz) (lV.kp (Kp.of (U:=UU) ea)) (by have:=jE (k:=k) hi;omega) (by unfold cL at*;omega)).mono ?_);rintro e w3 ⟨r3',rfl,q3,dH⟩;obtain⟨s4,p4,n4,c4,t4,y4,m4,d4,rfl⟩:=q3.form;refine aL dH ?_;intro eV _ bb3;refine VS.back (N-(i+1)) ae ⟨_,_,?_,?_,?_,?_,⟨i+1,s4,p4,n4,c4,t4,y4,m4,d4,ae,aa,aa,aa,(q3.mono ea.size).cast (fM hq).symm,by rw[fM hq,js];exact hz.add lV.rn⟩⟩
  ·refine⟨aa,?_,aa,aa,aj⟩;rw[<-aA ae];rfl
  ·exact di
  ·rfl
  ·exact fv
 ·refine VS.aO aa (az (λe=>hlt (aJ.1 e))) ?_;refine af ?_;refine aC ?_;intro wz kz bz;obtain rfl:i=N:=ae;rw[dM ae] at ho hz;exact⟨_,aa,ho.kp kz,hz,bz⟩
variable {v:Value} {w:World}
theorem aG.Nq {q:Rat} {j k:Nat} (h:aG w v q j) (hjk:j<=k):aG w v q k:=by
 obtain⟨s,xs,t,ys,h1,h2,h3,h4⟩:=h;exact⟨s,xs,t,ys,h1,h2,bG h3 hjk,bG h4 hjk⟩
theorem Zb (n d:Int) (w:World) (h0: -9223372036854775808<=n) (h1:n<=9223372036854775807) (g0: -9223372036854775808<=d) (g1:d<=9223372036854775807) (c:Int) (hc:rU d=c):
 Calls Tryz.prog 280 #[.int .i64 n,.int .i64 d] w λe w'=>∃ r,e=.returned (.tuple #[r,.int .i64 c])/\aZ w' w.heap.size r (Rat.divInt n d)/\aD w w':=hc▸UC n d w h0 h1 g0 g1
theorem dy.of {n d:Int} (hn:n.natAbs<4294967296) (hd:d.natAbs<4294967296):dy (Rat.divInt n d) 1:=by
 by_cases h:d=0
 ·rw[h,Lv];exact dy.zero
 ·exact ow (Sz.small hn) (Sz.small hd) h
theorem bq.cast {q q':Rat} (h:bq w v q) (e:q'=q):bq w v q':=e▸h
inductive ig (w:World) (k:Nat):List Rat->List (List Value)->Prop
 | nil:ig w k [] []
 | cons {s:Bool} {p:Option Addr} {n c:Nat} {t:Bool} {r:Option Addr} {m d:Nat} {q:Rat} {qs:List Rat} {vs:List (List Value)}:aG w (.agg #[.bool s,.slice p n c,.bool t,.slice r m d]) q k->ig w k qs vs->ig w k (q::qs) ([.bool s,.slice p n c,.bool t,.slice r m d]::vs)
variable {vs:List (List Value)} {qs:List Rat}
theorem ig.four {k:Nat} (h:ig w k qs vs):∀ v∈vs,v.length=4:=by
 induction h with
 | nil=>intro v hv;cases hv
 | cons _ _ ih=>
   intro v hv;rcases eD.1 hv with rfl|e
   ·rfl
   ·exact ih v e
theorem ig.at {k:Nat} (h:ig w k qs vs):∀ (j:Nat) (q:Rat),qs[j]? =some q->∃ s p' n' c' t r m d,vs[j]? =some [Value.bool s,.slice p' n' c',.bool t,.slice r m d]/\aG w (.agg #[.bool s,.slice p' n' c',.bool t,.slice r m d]) q k:=by
 induction h with
 | nil=>intro j q hq;simp at hq
 | cons h1 _ ih=>
   intro j q hq;cases j with
   | zero=>cases hq;exact⟨_,_,_,_,_,_,_,_,aa,h1⟩
   | succ j=>exact ih j q (by simpa using hq)
theorem flat_at:∀ (vs:List (List Value)) (j:Nat) (v:List Value),(∀ v∈vs,v.length=4)->vs[j]? =some v->∀ (o:Nat) (u:Value),v[o]? =some u->vs.flatten[j*4+o]? =some u:=by
 intro vs
 induction vs with
 | nil=>intro j v _ h;simp at h
 | cons x r ih=>
   intro j v hl h o u hu;have hx:x.length=4:=hl x cZ;cases j with
   | zero=>
     simp at h;subst h;have ho:o<4:=by have:=(cM.1 hu).1;omega
     rw[wC,jG ae];simpa using hu
   | succ j=>
     have h':r[j]? =some v:=by simpa using h
     rw[wC,tM ae,hx,show (j+1)*4+o-4=j*4+o by omega];exact ih j v (λv hv=>hl v (by simp[hv])) h' o u hu
theorem ox {C:Cx} {β:Nat->Nat} {i:Nat} {t:TypeId} {cs:List AV} {k:Nat} {n c:Nat} (h:nX C β w i t cs) (spare:List AV) (hcs:cs=vs.flatten.map .val++spare) (hn:n=qs.length) (hq:ig w k qs vs) (hc:n<=c) (gv:c<=maxLen):
  mz w (.slice (some ⟨β i,0,none⟩) n c) qs k:=by
 subst hn;refine⟨_,_,aa,hc,gv,λj q hj=> ?_⟩;obtain⟨s,p',n',c',t',r,m,d,hvj,lV⟩:=hq.at j q hj;refine⟨β i,0,s,p',n',c',t',r,m,d,aa,λo u hu=> ?_,lV⟩;refine h.cls.cell ?_;have:=flat_at vs j _ hq.four hvj o u hu;rw[hcs,aQ,aV,List.getElem?_toArray,jR,jG (cM.1 this).1];exact this
theorem tn (v:Value) (q:Rat) (k:Nat) (w:World) (hv:aG w v q k) (hk:k<=536870912) (c:Int) (hc:jD q 0=c):
 Calls Tryz.prog 57 #[v] w λe w'=>e=.returned (.int .i64 c)/\aD w w':=hc▸Ng v q k w hv hk
theorem ku (v u:Value) (q r:Rat) (k l:Nat) (w:World) (hv:aG w v q k) (hu:aG w u r l) (hk:k<=67108864) (hl:l<=67108864) (b:Bool) (hb:decide (q=r)=b):
 Calls Tryz.prog 81 #[v,u] w λe w'=>e=.returned (.bool b)/\aD w w':=hb▸Nh v u q r k l w hv hu hk hl
theorem UG (v u:Value) (q r:Rat) (k l:Nat) (w:World) (hv:aG w v q k) (hu:aG w u r l) (hk:k<=33554432) (hl:l<=33554432) (c:Int) (hc:IX r=c):
 Calls Tryz.prog 286 #[v,u] w λe w'=>∃ x,e=.returned (.tuple #[x,.int .i64 c])/\aZ w' w.heap.size x (q/r)/\aD w w':=hc▸Qi v u q r k l w hv hu hk hl
variable {s t:Bool} {xs ys:List Nat}
theorem eI.in {k:Nat} (h:eI w v s xs t ys) (hx:xs.length<=k) (hy:ys.length<=k):aG w v (rq s xs t ys) k:=⟨s,xs,t,ys,h,rfl,hx,hy⟩
theorem eI.Fh (h:eI w v s xs t ys):∃ p c r d,v=.agg #[.bool s,.slice p xs.length c,.bool t,.slice r ys.length d]/\True:=by
 obtain⟨p,c,r,d,rfl,_⟩:=h;exact⟨_,_,_,_,aa,aj⟩
variable {a:Rat}
theorem SA {b:Rat}:jD a b<=0↔a<=b:=by
 unfold jD
 split
 ·rename_i h;exact⟨λ_=>Rat.le_of_lt h,λ_=>ae⟩
 ·split
  ·rename_i h;exact⟨λ_=>by rw[h];exact Rat.le_refl,λ_=>ae⟩
  ·rename_i h1 h2;exact⟨λh=>ae,λh=>absurd (Rat.not_lt.1 h1) (λh3=>h2 (Rat.le_antisymm h h3))⟩
theorem rcmp_eq {b:Rat} (h:a=b):jD a b=0:=by subst h;unfold jD;rw[if_neg (by exact Rat.lt_irrefl),if_pos rfl]
theorem SB {b:Rat} (h:b≠0):jD b 0≠0:=by
 unfold jD
 split
 ·omega
 ·first|omega|(rw[if_neg h];omega)
theorem xJ {b:Rat} (h:b=0):jD b 0=0:=rcmp_eq h
variable {y x:Rat}
theorem IY:qx y x=true↔y<x:=by
 unfold qx jD;by_cases h:y<x
 ·simp[h]
 ·simp only[h,if_false,iff_false];split <;> simp
theorem vT:YZ y x=true↔x<y:=by
 unfold YZ;rw[RH];constructor
 ·intro h;exact Rat.not_le.1 (λe=>by have:=SA.2 e;omega)
 ·intro h;have:=mt SA.1 (Rat.not_le.2 h);omega
theorem aG.inv {q:Rat} {k:Nat} (h:aG w v q k):∃ s xs t ys,eI w v s xs t ys/\q=rq s xs t ys/\xs.length<=k/\ys.length<=k:=h
end
section
open Go.RowKit
abbrev KZ (T:TypeId->Bool) (w w':World):Prop:=bg ⟨UU,λ_=>True,T⟩ w w'
structure gp {α:Type} (E:World->List Value->α->Prop) (sz:Nat):Prop where
 kp:∀ {w w':World} {cs:List Value} {a:α},E w cs a->Kp UU w w'->E w' cs a
 len:∀ {w:World} {cs:List Value} {a:α},E w cs a->cs.length=sz
 ok:∀ {w:World} {cs:List Value} {a:α},E w cs a->cs.all cJ=true
theorem KZ.plain {T:TypeId->Bool} {w w':World} (h:KZ T w w'):Kp UU w w':=h.fq
inductive eC {α:Type} (E:World->List Value->α->Prop) (w:World):List α->List (List Value)->Prop
 | nil:eC E w [] []
 | cons {a:α} {es:List α} {cs:List Value} {vs:List (List Value)}:E w cs a->eC E w es vs->eC E w (a::es) (cs::vs)
section
variable {α:Type} {E:World->List Value->α->Prop} {sz:Nat} {w w':World} {es:List α} {vs:List (List Value)}
theorem eC.len (h:eC E w es vs):vs.length=es.length:=by
 induction h with
 | nil=>rfl
 | cons _ _ ih=>simp[ih]
theorem eC.kp (hE:gp E sz) (h:eC E w es vs) (k:Kp UU w w'):eC E w' es vs:=by
 induction h with
 | nil=>exact .nil
 | cons h1 _ ih=>exact .cons (hE.kp h1 k) ih
theorem eC.at (h:eC E w es vs):∀ (j:Nat) (a:α),es[j]? =some a->∃ cs,vs[j]? =some cs/\E w cs a:=by
 induction h with
 | nil=>intro j q hq;simp at hq
 | cons h1 _ ih=>
   intro j q hq;cases j with
   | zero=>cases hq;exact⟨_,aa,h1⟩
   | succ j=>exact ih j q (by simpa using hq)
theorem eC.append {es':List α} {Nr:List (List Value)} (h:eC E w es vs) (h':eC E w es' Nr):eC E w (es++es') (vs++Nr):=by
 induction h with
 | nil=>exact h'
 | cons h1 _ ih=>exact .cons h1 ih
variable {a:α}
theorem eC.snoc {cs:List Value} (h:eC E w es vs) (h':E w cs a):eC E w (es++[a]) (vs++[cs]):=h.append (.cons h' .nil)
theorem eC.ok (hE:gp E sz) (h:eC E w es vs):vs.flatten.all cJ=true/\vs.flatten.length=es.length*sz:=by
 induction h with
 | nil=>exact⟨aa,cZ⟩
 | cons h1 _ ih=>
   refine⟨?_,?_⟩
   ·rw[wC,kW,ih.1,hE.ok h1];rfl
   ·rw[wC,fH,ih.2,hE.len h1,wD,ff,tY,xZ]
theorem eC.cell (hE:gp E sz) (h:eC E w es vs):∀ (j:Nat) (cs:List Value),vs[j]? =some cs->∀ (o:Nat) (u:Value),cs[o]? =some u->vs.flatten[j*sz+o]? =some u:=by
 induction h with
 | nil=>intro j v h;simp at h
 | @cons a es cs vs h1 _ ih=>
   intro j v h o u hu;have hx:=hE.len h1;cases j with
   | zero=>
     simp at h;subst h;have ho:o<sz:=by have:=(cM.1 hu).1;omega
     rw[wC,DM,jR,jG ae];exact hu
   | succ j=>
     rw[wC,tM (by rw[ff];omega)];have:=ih j v (by simpa using h) o u hu;rw[<-this]
     congr 1
     rw[ff];omega
def bh (E:World->List Value->α->Prop) (sz:Nat) (w:World) (v:Value) (es:List α):Prop:=
 ∃ p c,v=.slice p es.length c/\es.length<=c/\c<=maxLen/\∀ (i:Nat) (a:α),es[i]? =some a->∃ b off cs,p=some ⟨b,off,none⟩/\(∀ (j:Nat) (u:Value),cs[j]? =some u->w.cell? ⟨b,off+i*sz+j,none⟩=some u)/\E w cs a
variable {v:Value}
theorem bh.form (h:bh E sz w v es):∃ p c,v=.slice p es.length c/\es.length<=c/\c<=9223372036854775807:=by
 obtain⟨p,c,hv,h1,h2,_⟩:=h;exact⟨p,c,hv,h1,by simpa [maxLen] using h2⟩
variable {c i:Nat}
theorem bh.at {p:Option Addr} {n:Nat} (h:bh E sz w (.slice p n c) es) (hq:es[i]? =some a):∃ b off cs,p=some ⟨b,off,none⟩/\(∀ (j:Nat) (u:Value),cs[j]? =some u->w.cell? ⟨b,off+i*sz+j,none⟩=some u)/\E w cs a:=by
 obtain⟨p',c',hv,h1,h2,h3⟩:=h;cases hv;exact h3 i a hq
theorem bh.bS (hE:gp E sz) (h:bh E sz w v es) (hb:aD w w'):bh E sz w' v es:=by
 obtain⟨p,c,hv,h1,h2,h3⟩:=h;refine⟨p,c,hv,h1,h2,λi q hq=> ?_⟩;obtain⟨b,off,cs,hp,hc,hr⟩:=h3 i q hq;exact⟨b,off,cs,hp,λj u hj=>hb.cell (hc j u hj),hE.kp hr (Kp.of hb)⟩
theorem bh.mono {E':World->List Value->α->Prop} (h:bh E sz w v es) (hm:∀ (i:Nat) (a:α) (cs:List Value),es[i]? =some a->E w cs a->E' w cs a):bh E' sz w v es:=by
 obtain⟨p,c,hv,h1,h2,h3⟩:=h;refine⟨p,c,hv,h1,h2,λi q hq=> ?_⟩;obtain⟨b,off,cs,hp,hc,hr⟩:=h3 i q hq;exact⟨b,off,cs,hp,hc,hm i q cs hq hr⟩
theorem bh.nil (w:World) (E:World->List Value->α->Prop) (sz:Nat):bh E sz w (.slice none 0 0) []:=⟨none,0,rfl,bl _,eL,λi q hq=>by simp at hq⟩
theorem eC.lens (hE:gp E sz) (h:eC E w es vs):∀ v∈vs,v.length=sz:=by
 induction h with
 | nil=>intro v hv;cases hv
 | cons h1 _ ih=>
   intro v hv;rcases eD.1 hv with rfl|e
   ·exact hE.len h1
   ·exact ih v e
variable {t:TypeId}
theorem oy (hE:gp E sz) {b n:Nat} {spare:List Value} (h:cN w b t (vs.flatten++spare).toArray) (hr:eC E w es vs) (hn:n=es.length) (hc:n<=c) (hm:c<=9223372036854775807):bh E sz w (.slice (some ⟨b,0,none⟩) n c) es:=by
 subst hn;refine⟨_,_,aa,hc,by simpa [maxLen] using hm,λi a ha=> ?_⟩;obtain⟨cs,h1,h2⟩:=hr.at i a ha;refine⟨b,0,cs,aa,λj u hj=> ?_,h2⟩;have:=hr.cell hE i cs h1 j u hj;refine h.cell ?_;rw[List.getElem?_toArray,jR,jG (cM.1 this).1];exact this
theorem fU (hE:gp E sz) {C:Cx} {β:Nat->Nat} {n:Nat} {cs:List AV} (h:nX C β w i t cs) (spare:List AV) (hcs:cs=vs.flatten.map .val++spare) (hr:eC E w es vs) (hn:n=es.length) (hc:n<=c) (hm:c<=9223372036854775807):
  bh E sz w (.slice (some ⟨β i,0,none⟩) n c) es:=by
 refine oy hE (spare:=spare.map (AV.leaf β)) (t:=t) ?_ hr hn hc hm;have:=h.cls;rw[hcs,aQ,aV] at this;exact this
def aP (E:World->List Value->α->Prop) (sz:Nat) (t:TypeId) (B:Nat) (w:World) (v:Value) (es:List α):Prop:=
 (v=.slice none 0 0/\es=[])\/∃ b c vs spare,v=.slice (some ⟨b,0,none⟩) es.length c/\B<=b/\cN w b t (vs.flatten++spare).toArray/\eC E w es vs/\spare.all cJ=true/\es.length<=c/\c<=9223372036854775807/\(vs.flatten++spare).length=c*sz
variable {B:Nat}
theorem aP.sl (hE:gp E sz) (h:aP E sz t B w v es):bh E sz w v es:=by
 rcases h with ⟨rfl,rfl⟩|⟨b,c,vs,spare,rfl,_,h1,h2,_,h3,h4,_⟩
 ·exact bh.nil _ _ _
 ·exact oy hE h1 h2 aa h3 h4
theorem aP.form (h:aP E sz t B w v es):∃ p c,v=.slice p es.length c:=by
 rcases h with ⟨rfl,rfl⟩|⟨b,c,vs,spare,rfl,_⟩
 ·exact⟨_,_,aa⟩
 ·exact⟨_,_,aa⟩
theorem aP.kp (hE:gp E sz) {T:TypeId->Bool} (h:aP E sz t B w v es) (k:KZ T w w') (ht:T t=true):aP E sz t B w' v es:=by
 rcases h with ⟨rfl,rfl⟩|⟨b,c,vs,spare,rfl,h0,h1,h2,h3⟩
 ·exact .inl ⟨aa,aa⟩
 ·refine .inr ⟨b,c,vs,spare,aa,h0,k.block t b _ ?_ aj h1,h2.kp hE k.plain,h3⟩;show (Nat.beq t UU || T t)=true;rw[ht];simp
theorem aP.mono {B':Nat} (h:aP E sz t B w v es) (hB:B'<=B):aP E sz t B' w v es:=by
 rcases h with h|⟨b,c,vs,spare,hv,h0,h1⟩
 ·exact .inl h
 ·exact .inr ⟨b,c,vs,spare,hv,bG hB h0,h1⟩
end
section
variable {C:Cx} {F:Fr} {H:Hp} {w:World} {m:Option (List FuncId)} {full:Array Oper} {K:Fr->Hp->World->Prop} {o:Oper} {r:List Oper}
theorem VO.Fi {α:Type} {E:World->List Value->α->Prop} {sz:Nat} (hE:gp E sz) {d:rH} {dst:Nat} {t:TypeId} {es:List α} (e:stepOf C full F H o=.call d) (hd:o.dst=some dst) (h0:H dst=none) (hN:dst<C.N) (hl:1<=lvl C.SU m o) (ht:C.K.fz t=false)
  (h:∀ w1 β,bg C.K w w1->C.Old w1->nd C β H d.ids w1->Ae C.P d β w1 λe w2=>∃ v,e=.returned v/\aD w1 w2/\aP E sz t w1.heap.size w2 v es/\
   (bg C.K w w2->bg C.K w1 w2->C.Old w2->es=[]->aB C m full r K (F.dw o.dst (.val (.slice none 0 0))) H w2)/\
   (∀ c vs spare,bg C.K w w2->bg C.K w1 w2->C.Old w2->eC E w2 es vs->spare.all cJ=true->es.length<=c->c<=9223372036854775807->(vs.flatten++spare).length=c*sz->aB C m full r K (F.dw o.dst (.row dst 0 es.length c)) (H.put dst (t,vs.flatten.map .val++spare.map .val)) w2)):aB C m full (o::r) K F H w:=by
 show one C m full o (aB C m full r K) F H w;unfold one;rw[e];refine λw1 β h1 h2 h3=>(h w1 β h1 h2 h3).mono ?_;rintro e w2 ⟨v,rfl,hb,hn,k1,k2⟩;rcases hn with ⟨rfl,rfl⟩|⟨b,c,vs,spare,rfl,q1,q2,q3,q4,q5,q6,q7⟩
 ·exact⟨β,.val (.slice none 0 0),none,[],aa,λi hi=>(by cases hi),.inr aa,.inr aa,GH.none hb,λa b c _ _=>k1 a b c aa⟩
 ·let dQ:Nat->Nat:=λi=>if i=dst then b else β i
  have yM:dQ dst=b:=if_pos aa;have wv:vs.flatten.map AV.val++spare.map AV.val=(vs.flatten++spare).map AV.val:=by rw[aQ]
  have mQ:(vs.flatten.map AV.val++spare.map AV.val).all bO=true:=by rw[wv];exact dx (by rw[kW,(q3.ok hE).1,q4];rfl)
  refine⟨dQ,.row dst 0 es.length c,none,[(dst,(t,vs.flatten.map AV.val++spare.map AV.val))],?_,λi hi=>.inl (by simpa [AV.ids] using hi),.inl hl,.inr aa,?_,λa1 a2 a3 _ _=>k2 c vs spare a1 a2 a3 q3 q4 q5 q6 q7⟩
  ·show Ending.returned _=.returned (Value.slice (some ⟨dQ dst,0,none⟩) es.length c);rw[yM]
  ·refine⟨hb.os,hb.tape,hb.output,hb.size,λk hk _ _ _=>tZ hb k hk,λi hi=>if_neg (by simpa using hi),λi hi=>(by cases hi),λi hi=>(by cases hi),λx hx=> ?_,λx hx=> ?_,cZ,λx hx y hy _=> ?_,λx hx j hj=> ?_⟩
   ·cases ay.1 hx;refine⟨by rw[yM];exact C.BB _ _ ae (by have:=C.ll _ h2;omega),ht,?_,mQ⟩;rw[yM,wv,aV];exact q2
   ·cases ay.1 hx;exact .inr ⟨.inl h0,ae,.inl (by rw[yM];exact q1)⟩
   ·cases ay.1 hx;cases ay.1 hy;rfl
   ·cases ay.1 hx;rw[wv,ah] at hj;cases hj
end
def kx {α:Type} (E:World->List Value->α->Prop) (sz:Nat) (w:World) (p:Option Addr) (es:List α) (n:Nat):Prop:=
 ∀ (i:Nat) (a:α),i<n->es[i]? =some a->∃ b off cs,p=some ⟨b,off,none⟩/\(∀ (j:Nat) (u:Value),cs[j]? =some u->w.cell? ⟨b,off+i*sz+j,none⟩=some u)/\E w cs a
variable {p:Option Addr} {α:Type} {es:List α} {w:World} {E:World->List Value->α->Prop}
theorem kx.zero {sz:Nat}:kx E sz w p es 0:=λi a hi=>absurd hi (Nat.not_lt_zero i)
theorem kx.snoc {sz:Nat} {b off:Nat} {n:Nat} {a:α} {cs:List Value} (h:kx E sz w (some ⟨b,off,none⟩) es n) (ha:es[n]? =some a) (hc:∀ (j:Nat) (u:Value),cs[j]? =some u->w.cell? ⟨b,off+n*sz+j,none⟩=some u) (he:E w cs a):kx E sz w (some ⟨b,off,none⟩) es (n+1):=λi x hi hx=>by
 rcases Nat.lt_succ_iff_lt_or_eq.1 hi with h' |h'
 ·exact h i x h' hx
 ·subst h';rw[ha] at hx;cases hx;exact⟨b,off,cs,aa,hc,he⟩
variable {c:Nat}
theorem kx.all {E':World->List Value->α->Prop} {sz:Nat} {n:Nat} (h:kx E sz w p es n) (h':bh E' sz w (.slice p n c) es):bh E sz w (.slice p n c) es:=by
 obtain⟨p',c',hv,h1,h2,_⟩:=h';cases hv;exact⟨p,c,aa,h1,h2,λi a ha=>h i a (cM.1 ha).1 ha⟩
theorem dX {sz:Nat} {C:Cx} {β:Nat->Nat} {i n:Nat} {t:TypeId} {vs:List (List Value)} {spare:List AV} (h:nX C β w i t (vs.flatten.map .val++spare)) (hr:eC E w es vs) (hn:n=es.length) (hc:n<=c) (hm:c<=9223372036854775807) (hl:(vs.flatten.map AV.val++spare).length=c*sz)
  (hnw:∀ i g,C.Cl i g->C.w0.heap.size<=g:=by exact λ_ _ h=>h):aP E sz t C.w0.heap.size w (.slice (some ⟨β i,0,none⟩) n c) es:=by
 subst hn;have hk:=h.ok;rw[kW,jP] at hk;refine .inr ⟨β i,c,vs,spare.map (AV.leaf β),aa,hnw _ _ h.new,?_,hr,gw hk.2,hc,hm,by rw[<-hl];simp only[List.length_append,List.length_map]⟩;have:=h.cls;rw[aQ,aV] at this;exact this
theorem aM {n d:Int} (h0: -9223372036854775808<=n) (h1:n<=9223372036854775807) (g0: -9223372036854775808<=d) (g1:d<=9223372036854775807):dy (Rat.divInt n d) 2:=by
 by_cases hd:d=0
 ·rw[hd,Lv];exact dy.zero.mono ae
 ·exact ow (Sz.of_lt ae) (Sz.of_lt ae) hd
end
set_option maxRecDepth 4000
section
open Go.RowKit
attribute [local irreducible] aB VS
theorem og (xs:List Nat) (v:Value) (n:Nat) (w:World) (hr:Rd w 1 v n (ints .u32 xs)) (hn:n<=1073741824):
  Calls Tryz.prog 69 #[v] w λe w'=>∃ p c,e=.returned (.slice p n c)/\w'.ownsRow w.heap.size UU 1 (.slice p n c) n (ints .u32 xs)/\aD w w':=by
 obtain⟨p,c,rfl,qk⟩:∃ p c,v=.slice p n c/\True:=by
  obtain⟨p,c,hv,_⟩:=hr;exact⟨p,c,hv,aj⟩
 refine ai (C:=bd Tryz.prog w _) (args:=[_]) Tryz.func69 aa Tryz.ntmps69 (bF aa) ?_;refine af ?_;refine VO.appU (cS _ _) (t:=23) (e:=78) (n:=n) (news:=ints .u32 xs) aa aa aa aa aa (rD .u32 xs) ae (λw1 k1 b1=>hr.below b1) (λw2 p2 c2 k2 b2 ho=>wV aa ?_);refine af ?_;refine aC ?_;intro wz kz bz;exact⟨_,_,aa,Own.kp ho kz,bz⟩
variable {s:Bool} {xs:List Nat} {w:World}
theorem iP.WQ {p:Option Addr} {c:Nat} (h:iP w (.agg #[.bool s,.slice p xs.length c]) s xs):Rd w 1 (.slice p xs.length c) xs.length (ints .u32 xs)/\eB xs:=by
 obtain⟨p',c',hv,hr,hl⟩:=h;simp only[Value.agg.injEq,Array.mk.injEq,List.cons.injEq,and_true,true_and,Value.slice.injEq] at hv;obtain⟨rfl,rfl⟩:=hv;exact⟨hr,hl⟩
def tp (w:World) (B:Nat) (v:Value) (s:Bool) (xs:List Nat) (t:Bool) (ys:List Nat):Prop:=
 ∃ p c r d,v=.agg #[.bool s,.slice p xs.length c,.bool t,.slice r ys.length d]/\w.ownsRow B UU 1 (.slice p xs.length c) xs.length (ints .u32 xs)/\w.ownsRow B UU 1 (.slice r ys.length d) ys.length (ints .u32 ys)/\eB xs/\eB ys
variable {t:Bool} {ys:List Nat} {B:Nat} {v:Value}
theorem tp.raw (h:tp w B v s xs t ys):eI w v s xs t ys:=by
 obtain⟨p,c,r,d,hv,h1,h2,h3,h4⟩:=h;exact⟨p,c,r,d,hv,⟨_,_,aa,Rd.own h1,h3⟩,⟨_,_,aa,Rd.own h2,h4⟩⟩
variable {w':World}
theorem tp.kp {T:TypeId->Bool} (h:tp w B v s xs t ys) (k:bg ⟨UU,λ_=>True,T⟩ w w'):tp w' B v s xs t ys:=by
 obtain⟨p,c,r,d,hv,h1,h2,h3,h4⟩:=h;exact⟨p,c,r,d,hv,Own.kp h1 k,Own.kp h2 k,h3,h4⟩
theorem tp.own {q:Rat} (h:tp w B v (decide (q.num<0)) (limbs q.num.natAbs) (decide ((q.den:Int)<0)) (limbs (q.den:Int).natAbs)):aZ w B v q:=by
 obtain⟨p,c,r,d,rfl,h1,h2,h3,h4⟩:=h;exact⟨_,p,_,c,_,r,_,d,aa,⟨_,_,aa,h1⟩,⟨_,_,aa,h2⟩⟩
theorem jt (s t:Bool) (xs ys:List Nat) (v:Value) (w:World) (h:eI w v s xs t ys) (hx:xs.length<=1073741824) (hy:ys.length<=1073741824):
  Calls Tryz.prog 21 #[v] w λe w'=>∃ r,e=.returned r/\tp w' w.heap.size r s xs t ys/\aD w w':=by
 obtain⟨p,c,r,d,rfl,h1,h2⟩:=h;refine ai (C:=bd Tryz.prog w _) (args:=[_]) mY aa Tryz.ntmps21 (bF aa) ?_;refine af ?_;refine VO.call aa aa (fk Tryz.func69) (λaK bE aX=>(og xs _ _ aK (h1.bS aX).WQ.1 hx).mono ?_);rintro e w1 ⟨p1,c1,rfl,q1,aU⟩
 skip
 refine aL aU ?_;intro cQ _ bb1;refine VO.call aa aa (fk Tryz.func69) (λbf cK bK=>(og ys _ _ bf (h2.bS bK).WQ.1 hy).mono ?_);rintro e w2 ⟨p2,c2,rfl,q2,bu⟩
 skip
 refine aL bu ?_;intro dW _ bb2;refine aC ?_;intro wz kz bz;exact⟨_,aa,⟨_,_,_,_,aa,Own.kp (Own.mono q1 aX.size) (dW.aN kz),Own.kp (Own.mono q2 bK.size) kz,h1.WQ.2,h2.WQ.2⟩,bz⟩
theorem UH (s t:Bool) (xs ys:List Nat) (v:Value) (w:World) (h:eI w v s xs t ys) (hx:xs.length<=1073741824) (hy:ys.length<=1073741824):
  Calls Tryz.prog 105 #[v] w λe w'=>∃ r,e=.returned r/\tp w' w.heap.size r s xs t ys/\aD w w':=by
 obtain⟨p,c,r,d,rfl,h1,h2⟩:=h;refine ai (C:=bd Tryz.prog w _) (args:=[_]) Tryz.func105 aa Tryz.ntmps105 (bF aa) ?_;refine af ?_;refine VO.call aa aa (fk Tryz.func69) (λaK bE aX=>(og xs _ _ aK (h1.bS aX).WQ.1 hx).mono ?_);rintro e w1 ⟨p1,c1,rfl,q1,aU⟩
 skip
 refine aL aU ?_;intro cQ _ bb1;refine VO.call aa aa (fk Tryz.func69) (λbf cK bK=>(og ys _ _ bf (h2.bS bK).WQ.1 hy).mono ?_);rintro e w2 ⟨p2,c2,rfl,q2,bu⟩
 skip
 refine aL bu ?_;intro dW _ bb2;refine aC ?_;intro wz kz bz;exact⟨_,aa,⟨_,_,_,_,aa,Own.kp (Own.mono q1 aX.size) (dW.aN kz),Own.kp (Own.mono q2 bK.size) kz,h1.WQ.2,h2.WQ.2⟩,bz⟩
theorem Zc {d:Int} (h:d≠0):rU d=0:=if_neg h
theorem bm {K:KC} (h:bg K w w':=by (with_reducible (repeat (first|assumption|exact kU _|exact kR _|exact Kp.of (U:=UU) (by assumption)|exact bg.of (by assumption)|refine kT ?_ (by assumption))))):bg K w w':=h
theorem gg (n d:Int) (w:World) (h0: -9223372036854775808<=n) (h1:n<=9223372036854775807) (g0: -9223372036854775808<=d) (g1:d<=9223372036854775807):
  Calls Tryz.prog 45 #[.int .i64 n,.int .i64 d] w λe w'=>∃ r,e=.returned r/\aZ w' w.heap.size r (Rat.divInt n d)/\aD w w':=by
 refine ai (C:=bd Tryz.prog w _) (args:=[_,_]) qf aa Tryz.ntmps45 (bF aa) ?_;refine af ?_;refine VO.call aa aa (fk Tryz.func104) (λaK bE aX=>(UE n d aK h0 h1 g0 g1).mono ?_);rintro e w1 ⟨r1,rfl,q1,aU⟩;obtain⟨s1,p1,n1,c1,t1,y1,m1,d1,rfl⟩:=q1.form;refine aL aU ?_;intro cQ _ bb1
 have hsz:(limbs (Rat.divInt n d).num.natAbs).length<=4/\(limbs ((Rat.divInt n d).den:Int).natAbs).length<=4:=by
  by_cases hd:d=0
  ·rw[hd,Lv];exact⟨dy.zero.1.mono ae,dy.zero.2.mono ae⟩
  ·have h:=ow (X:=n) (Y:=d) (k:=2) (l:=2) (Sz.of_lt ae) (Sz.of_lt ae) hd;exact⟨h.1.mono ae,h.2.mono ae⟩
 refine VO.call aa aa (fk Tryz.func105) (λbf cK bK=>(UH _ _ _ _ _ bf (q1.kp bm).rd.raw ae ae).mono ?_);rintro e w2 ⟨r2,rfl,q2,bu⟩;obtain⟨p2,c2,y2,d2,rfl,_⟩:=q2.raw.Fh;refine aL bu ?_;intro dW _ bb2;refine aC ?_;intro wz kz bz;exact⟨_,aa,((q2.kp kz).own).mono bK.size,bz⟩
theorem Fj (xs:List Nat) (v u:Value) (n:Nat) (w:World) (hr:Rd w 1 v n (ints .u32 xs)) (hs:Rd w 1 u n (ints .u32 xs)) (nY:n=xs.length):
  Calls Tryz.prog 71 #[v,u] w λe w'=>e=.returned (.bool true)/\aD w w':=by
 subst nY;obtain⟨n,hn⟩:∃ n,n=xs.length:=⟨_,aa⟩;rw[<-hn] at hr hs;obtain⟨p,c,rfl,eS,gv,gU⟩:=hr.u32;obtain⟨q,d,rfl,Tz,Ov,_⟩:=hs.u32;refine ai (C:=bd Tryz.prog w _) (args:=[_,_]) Tryz.func71 aa Tryz.ntmps71 (bF aa) ?_;refine af ?_;refine VS.aO aa cZ ?_;refine af ?_;refine VS.loop (J:=λms L M w'=>∃ (k:Nat),k<=n/\ms=n-k/\L=[(0,.val (.slice p n c)),(1,.val (.slice q n d)),(5,.val (.int .i64 (k:Int)))]/\M=[]) n ⟨_,_,?_,?_,?_,?_,⟨0,ae,aa,aa,aa⟩⟩ ?_
 ·exact di
 ·exact di
 ·rfl
 ·exact fv
 rintro ms L M w' ⟨k,hk,hms,rfl,rfl⟩;refine af ?_;by_cases yp:k<n
 ·refine VS.aR aa (aw (aJ.2 yp)) ?_;refine af ?_;obtain⟨b1,o1,x,rfl,aU,im,pO⟩:=hr.cellAt yp;obtain⟨b2,o2,y,rfl,bu,uf,Gx⟩:=hs.cellAt yp;obtain rfl:x=y:=by rw[im] at uf;exact Be uf
  refine VO.cond aa eh (wV aa ?_);refine VO.read aa [.int .u32 (x:Int)] aa (lO aa pO) (wV aa ?_);refine VO.cond aa eh (wV aa ?_);refine VO.read aa [.int .u32 (x:Int)] aa (lO aa Gx) (wV aa ?_);refine af ?_;refine VS.aO aa cZ ?_;refine af ?_;refine VS.back (n-(k+1)) ae ⟨_,_,?_,?_,?_,?_,⟨k+1,ae,aa,aa,aa⟩⟩
  ·refine⟨aa,aa,?_,aj⟩;rw[<-aA ae];rfl
  ·exact di
  ·rfl
  ·exact fv
 ·refine VS.aO aa (az (λe=>yp (aJ.1 e))) ?_;refine af ?_;refine aC ?_;intro wz kz bz;exact⟨aa,bz⟩
theorem UI (s t:Bool) (xs ys:List Nat) (v u:Value) (w:World) (hv:eI w v s xs t ys) (hu:eI w u s xs t ys):
  Calls Tryz.prog 25 #[v,u] w λe w'=>e=.returned (.bool true)/\aD w w':=by
 obtain⟨p,c,r,d,rfl,v1,v2⟩:=hv;obtain⟨p',c',r',d',rfl,u1,u2⟩:=hu;refine ai (C:=bd Tryz.prog w _) (args:=[_,_]) Bq aa Tryz.ntmps25 (bF aa) ?_;refine af ?_;refine VO.fix 12 aa (ak (λb=>AV.val (.bool b)) (show (s == s)=true by simp)) ?_;refine af ?_;refine VO.fix 21 aa (ak (λb=>AV.val (.bool b)) (show (t == t)=true by simp)) ?_;refine af ?_;refine VO.cB aa aa (fk Tryz.func71) (λaK bE aX=>Fj xs _ _ _ aK (v1.bS aX).WQ.1 (u1.bS aX).WQ.1 aa) (λaK bE aX w1 aU cQ _ bb1=>wV aa ?_);refine af ?_;refine VO.cB aa aa (fk Tryz.func71) (λbf cK bK=>Fj ys _ _ _ bf (v2.bS bK).WQ.1 (u2.bS bK).WQ.1 aa) (λbf cK bK w2 bu dW _ bb2=>wV aa ?_);refine af ?_;refine aC ?_;intro wz kz bz;exact⟨aa,bz⟩
theorem mH (q:Rat) (v u:Value) (w:World) (hv:bq w v q) (hu:bq w u q):
 Calls Tryz.prog 25 #[v,u] w λe w'=>e=.returned (.bool true)/\aD w w':=UI _ _ _ _ v u w hv.raw hu.raw
end
section
open Go.RowKit
section
variable {T:TypeId->Bool} {w w':World} {v:Value} {q:Rat} {X:Int} {B n:Nat}
theorem aG.k (h:aG w v q n) (k:bg ⟨UU,λ_=>True,T⟩ w w':=by exact bm):aG w' v q n:=h.kp k
theorem bq.k (h:bq w v q) (k:bg ⟨UU,λ_=>True,T⟩ w w':=by exact bm):bq w' v q:=h.kp k
theorem aZ.k (h:aZ w B v q) (k:bg ⟨UU,λ_=>True,T⟩ w w':=by exact bm):aZ w' B v q:=h.kp k
theorem aZ.kr (h:aZ w B v q) (k:bg ⟨UU,λ_=>True,T⟩ w w':=by exact bm):bq w' v q:=(h.kp k).rd
theorem aZ.ki (h:aZ w B v q) (hs:dy q n) (k:bg ⟨UU,λ_=>True,T⟩ w w':=by exact bm):aG w' v q n:=(h.kp k).in hs
theorem bq.ki (h:bq w v q) (hs:dy q n) (k:bg ⟨UU,λ_=>True,T⟩ w w':=by exact bm):aG w' v q n:=(h.kp k).to hs
theorem cX.k (h:cX w v X n) (k:bg ⟨UU,λ_=>True,T⟩ w w':=by exact bm):cX w' v X n:=h.kp k
theorem df.k (h:df w v X) (k:bg ⟨UU,λ_=>True,T⟩ w w':=by exact bm):df w' v X:=h.kp k
theorem aE.k (h:aE w B v X) (k:bg ⟨UU,λ_=>True,T⟩ w w':=by exact bm):aE w' B v X:=h.kp k
theorem aE.kr (h:aE w B v X) (k:bg ⟨UU,λ_=>True,T⟩ w w':=by exact bm):df w' v X:=(h.kp k).rd
theorem aE.ki (h:aE w B v X) (hs:Sz X n) (k:bg ⟨UU,λ_=>True,T⟩ w w':=by exact bm):cX w' v X n:=(h.kp k).in hs
theorem df.ki (h:df w v X) (hs:Sz X n) (k:bg ⟨UU,λ_=>True,T⟩ w w':=by exact bm):cX w' v X n:=(h.kp k).to hs
end
theorem Sz.floor {q:Rat} {k:Nat} (h:dy q k):Sz q.floor k:=by
 refine Sz.le h.1 ?_;rw[Lx];exact Int.natAbs_ediv_le_natAbs _ _
end
section
open Go.RowKit
attribute [local irreducible] aB VS
theorem Fk {a b:Int} (h:a≠b):(a != b)=true:=by simpa using h
theorem qz {a b:Int} (h:a=b):(a != b)=false:=by simpa using h
theorem BR {a b:Int} (h:a=b):(a == b)=true:=by simpa using h
theorem zj {a b:Int} (h:a≠b):(a == b)=false:=by simpa using h
structure bW {α:Type} (E:World->List Value->α->Prop) (sz:Nat) (w:World) (n c:Nat) (vs:List (List Value)) (sp:List AV) (es:List α):Prop where
 len:n=es.length
 el:eC E w es vs
 so:sp.all bO=true
 sl:bM sp=[]
 le:n<=c
 cm:c<=9223372036854775807
 fl:(vs.flatten.map AV.val++sp).length=c*sz
section
variable {α:Type} {E:World->List Value->α->Prop} {sz n c:Nat} {w w':World} {vs:List (List Value)} {sp:List AV} {es:List α}
theorem bW.kp (hE:gp E sz) (h:bW E sz w n c vs sp es) (k:Kp UU w w'):bW E sz w' n c vs sp es:=⟨h.len,h.el.kp hE k,h.so,h.sl,h.le,h.cm,h.fl⟩
theorem bW.mg {M:List (Nat×(TypeId×List AV))} (h:bW E sz w n c vs sp es):aq M (vs.flatten.map AV.val++sp):=.append (.vals _) (.none h.sl)
theorem bW.dN (h:bW E sz w n c vs sp es):bM (vs.flatten.map AV.val++sp)=[]:=by rw[iW,ah,h.sl];rfl
variable {C:Cx} {i:Nat} {β:Nat->Nat} {t:TypeId}
theorem bW.new (hE:gp E sz) (h:bW E sz w n c vs sp es) (o:nX C β w' i t (vs.flatten.map .val++sp)) (k:Kp UU w w') (hnw:∀ i g,C.Cl i g->C.w0.heap.size<=g:=by exact λ_ _ h=>h):
 aP E sz t C.w0.heap.size w' (.slice (some ⟨β i,0,none⟩) n c) es:=dX o (h.el.kp hE k) h.len h.le h.cm h.fl hnw
theorem bW.sl' (hE:gp E sz) (h:bW E sz w n c vs sp es) (o:nX C β w' i t (vs.flatten.map .val++sp)) (k:Kp UU w w'):
 bh E sz w' (.slice (some ⟨β i,0,none⟩) n c) es:=fU hE o sp aa (h.el.kp hE k) h.len h.le h.cm
theorem bW.cell (hE:gp E sz) (h:bW E sz w n c vs sp es) {a:α} (ha:es[i]? =some a):∃ cs,vs[i]? =some cs/\E w cs a/\cs.length=sz/\∀ (k:Nat) (ds:List Value),ds <+:cs.drop k->∀ (j:Nat) (u:AV),(ds.map AV.val)[j]? =some u->(vs.flatten.map AV.val++sp)[0+((i:Nat):Int).toNat*sz+k+j]? =some u:=by
 obtain⟨cs,h1,h2⟩:=h.el.at i a ha;refine⟨cs,h1,h2,hE.len h2,λk ds hd j u hj=> ?_⟩;obtain⟨t,ht⟩:=hd;rw[gT] at hj;obtain⟨x,hx,rfl⟩:=Hh.1 hj
 have hx':cs[k+j]? =some x:=by
  rw[<-uD,<-ht,jG (cM.1 hx).1];exact hx
 have:=h.el.cell hE i cs h1 (k+j) x hx';rw[dV,jR,xY,jG (by rw[bJ];exact (cM.1 this).1),gT,this];rfl
end
section
variable {C:Cx} {F:Fr} {H:Hp} {w:World} {m:Option (List FuncId)} {full:Array Oper} {K:Fr->Hp->World->Prop} {o:Oper} {r:List Oper}
variable {cs:List Value} {s dst:Nat} {x y:Operand} {it ie:TI} {α:Type} {t te:TypeId} {E:World->List Value->α->Prop} {a:α}
theorem VO.jg (hC:C.Ok) {sz:Nat} (hE:gp E sz) {e:TypeId}
  (e0:stepOf C full F H o=.call (.op o [.val (.slice none 0 0),.row s 0 1 1])) (ho:o.op=.call { callee:=.builtin .append,args:=#[x,y],argTypes:=#[t,t] })
  (yW:C.ti t=some it) (iq:it.elem=some (e,sz)) (Dm:C.ti e=some ie) (hU:C.K.fz e=false) (hzo:ie.zero.cells.toList.all cJ=true)
  (hd:o.dst=some dst) (hN:dst<C.N) (hl:lvl C.SU m o=2) (jV:H dst=none) (hs:H s=some (te,cs.map .val)) (hcs:E w cs a) (lh:24*sz<=140737488355328)
  (hK:∀ w2 cap sp,bg C.K w w2->C.Old w2->bW E sz w2 1 cap [cs] sp [a]->aB C m full r K (F.dw o.dst (.row dst 0 1 cap)) (H.put dst (e,[cs].flatten.map AV.val++sp)) w2)
  (hkp:∀ w w',bg C.K w w'->Kp UU w w':=by first|exact λ_ _ h=>h|exact λ_ _ h=>h.fq):aB C m full (o::r) K F H w:=by
 have hlen:=hE.len hcs
 refine VO.app hC e0 ho yW iq Dm hU hzo hd hN hl (known:=[]) (spare:=[]) (del:=none) (n:=0) (c:=0) (mm:=1) (news:=cs.map .val) (.inl ⟨aa,aa,aa,aa,aa,aa,ae⟩) (.inl jV) cZ cZ ae ae ⟨aa,aa,ah _⟩ ⟨aa,aa,dx (hE.ok hcs)⟩ (by rw[bJ,hlen];omega) ae
  (λw1 β k1 b1 ho=>⟨_,_,rfl,.inr ⟨β s,0,rfl,jB (rest:=[]) (ho.own s (.base (pV _ (ay.2 rfl))) _ _ hs) (by rw[jQ])⟩⟩) (λw2 cap sp ρ k2 b2 gH h1 h2 h3 h4 h5=> ?_)
 have:=hK w2 cap sp k2 b2 ⟨aa,.cons (hE.kp hcs (hkp _ _ k2)) .nil,h4,h5,ae,h2,by simpa using h3⟩;have e':([cs].flatten.map AV.val++sp)=([]++cs.map .val)++sp:=cZ;rw[e'] at this;exact this
theorem VO.jh (hC:C.Ok) {sz:Nat} (hE:gp E sz) {e:TypeId} {i n c:Nat} {vs:List (List Value)} {sp:List AV} {es:List α}
  (e0:stepOf C full F H o=.call (.op o [.row i 0 n c,.row s 0 1 1])) (ho:o.op=.call { callee:=.builtin .append,args:=#[x,y],argTypes:=#[t,t] })
  (yW:C.ti t=some it) (iq:it.elem=some (e,sz)) (Dm:C.ti e=some ie) (hU:C.K.fz e=false) (hzo:ie.zero.cells.toList.all cJ=true)
  (hd:o.dst=some dst) (hN:dst<C.N) (hl:lvl C.SU m o=2) (jV:H dst=none\/some i=some dst) (hi:H i=some (e,vs.flatten.map .val++sp)) (hr:bW E sz w n c vs sp es) (hs:H s=some (te,cs.map .val)) (hcs:E w cs a) (lh:(n+1)*(24*sz)<=140737488355328)
  (hK:∀ w2 cap qH ρ,bg C.K w w2->C.Old w2->(∀ x,cJ (ρ x)=true)->bW E sz w2 (n+1) cap (vs++[cs]) qH (es++[a])->aB C m full r K ((F.forget (some i) ρ).dw o.dst (.row dst 0 (n+1) cap)) ((H.forget (some i) ρ).put dst (e,(vs++[cs]).flatten.map AV.val++qH)) w2)
  (hkp:∀ w w',bg C.K w w'->Kp UU w w':=by first|exact λ_ _ h=>h|exact λ_ _ h=>h.fq):aB C m full (o::r) K F H w:=by
 have hlen:=hE.len hcs;obtain⟨k1,k2⟩:=hr.el.ok hE;have Pd:=hr.len
 refine VO.app hC e0 ho yW iq Dm hU hzo hd hN hl (known:=vs.flatten.map .val) (spare:=sp) (del:=some i) (n:=n) (c:=c) (mm:=1) (news:=cs.map .val) (.inr ⟨i,aa,hi,aa⟩) jV (by rw[bJ,k2,Pd]) hr.fl hr.le hr.cm ⟨ah _,hr.sl,ah _⟩ ⟨dx k1,hr.so,dx (hE.ok hcs)⟩ (by rw[bJ,hlen];omega) lh
  (λw1 β k1 b1 ho=>⟨_,_,rfl,.inr ⟨β s,0,rfl,jB (rest:=[]) (ho.own s (.base (pV _ (ay.2 rfl))) _ _ hs) (by rw[jQ])⟩⟩) (λw2 cap qH ρ k2 b2 gH h1 h2 h3 h4 h5=> ?_)
 have e:(vs.flatten.map AV.val++cs.map .val)=(vs++[cs]).flatten.map AV.val:=cZ;have:=hK w2 cap qH ρ k2 b2 gH ⟨by rw[fH,hr.len];rfl,(hr.el.kp hE (hkp _ _ k2)).snoc (hE.kp hcs (hkp _ _ k2)),h4,h5,ae,h2,by rw[<-e];exact h3⟩;rw[<-e] at this;exact this
end
end
section
open Go.RowKit
def lf (q:Rat):Int:=q.num.fmod q.den
def Cv (q:Rat):Rat:=q-(q.floor:Rat)
theorem den_pos (q:Rat):(0:Int)<q.den:=by have:=q.den_nz;omega
theorem Ns (q:Rat):(0:Rat)<((q.den:Int):Rat):=by
 have:=den_pos q;exact Rat.intCast_lt_intCast.2 this
theorem fl_eq (q:Rat):q.num.fdiv q.den=q.floor:=by
 rw[Lx,Xf _ (Int.le_of_lt (den_pos q))]
theorem lf_eq (q:Rat):lf q=q.num-q.den*q.floor:=by
 unfold lf;rw[Xg _ (Int.le_of_lt (den_pos q)),Int.emod_def,Lx]
theorem IZ (q:Rat):0<=lf q:=by
 unfold lf;rw[Xg _ (Int.le_of_lt (den_pos q))];exact Int.emod_nonneg _ (by have:=den_pos q;omega)
theorem lf_lt (q:Rat):lf q<q.den:=by
 unfold lf;rw[Xg _ (Int.le_of_lt (den_pos q))];exact Int.emod_lt_of_pos _ (den_pos q)
theorem gRn {P:Prop} (h:P:=by grind):P:=h
theorem num_eq (q:Rat):(q.num:Rat)=q*((q.den:Int):Rat):=by
 have h:q=(q.num:Rat)/((q.den:Int):Rat):=by rw[<-Ba];exact (Rat.num_divInt_den q).symm
 have hd:=Ns q;rw[ye] at h;have h2:q*((q.den:Int):Rat)=(q.num:Rat)*(((q.den:Int):Rat)⁻¹*((q.den:Int):Rat)):=by rw[<-Rat.mul_assoc,<-h]
 rw[h2,Rat.inv_mul_cancel _ gRn,Rat.mul_one]
theorem SC (q:Rat):(lf q:Rat)=Cv q*((q.den:Int):Rat):=by
 have h:=lf_eq q;have h2:(lf q:Rat)=(q.num:Rat)-((q.den:Int):Rat)*(q.floor:Rat):=by rw[h,Rat.intCast_sub,Rat.intCast_mul]
 rw[h2,num_eq];unfold Cv;grind
theorem Nt (q:Rat):0<=Cv q:=by
 have:=Rat.floor_le q;unfold Cv;grind
theorem Nu (q:Rat):Rat.divInt (lf q) q.den=Cv q:=by
 rw[Ba,SC,ye,Rat.mul_assoc,Rat.mul_inv_cancel _ (by have:=Ns q;grind),Rat.mul_one]
theorem lf_zero {q:Rat}:lf q=0↔Cv q=0:=by
 constructor
 ·intro h;rw[<-Nu,h,Rat.zero_divInt]
 ·intro h;have:=SC q;rw[h,Rat.zero_mul] at this;exact Rat.intCast_inj.1 this
theorem UJ (n:Int):Rat.divInt n 1=(n:Rat):=by rw[Ba];show (n:Rat)/1=_;rw[ye];grind
theorem Fl {q:Rat}:Cv q=0↔q.den=1:=by
 rw[<-lf_zero,lf_eq];constructor
 ·intro h;have h1:((q.den:Int))∣q.num:=⟨q.floor,ae⟩;have h2:=q.reduced;have h3:q.den∣q.num.natAbs:=by have:=Int.natAbs_dvd_natAbs.2 h1;simpa using this
  have h4:Nat.gcd q.num.natAbs q.den=q.den:=Nat.gcd_eq_right h3;unfold Nat.Coprime at h2;omega
 ·intro h;rw[Lx,h];simp
end
set_option maxRecDepth 4000
section
open Go.RowKit
attribute [local irreducible] aB VS
theorem Sz.left {q:Rat} {k:Nat} (h:dy q k):Sz (lf q) k:=Sz.le h.2 (by have:=IZ q;have:=lf_lt q;omega)
theorem Qj:(0:Rat).floor=0/\lf 0=0/\((0:Rat).den:Int)=1:=by decide+kernel
theorem Nv (v:Value) (q:Rat) (k:Nat) (w:World) (hv:aG w v q k) (hk:k<=67108864):
  Calls Tryz.prog 308 #[v] w λe w'=>∃ s1 p1 n1 c1 s2 p2 n2 c2 s3 p3 n3 c3,e=.returned (.tuple #[.agg #[.bool s1,.slice p1 n1 c1],.agg #[.bool s2,.slice p2 n2 c2],.agg #[.bool s3,.slice p3 n3 c3]])/\
   aE w' w.heap.size (.agg #[.bool s1,.slice p1 n1 c1]) q.floor/\df w' (.agg #[.bool s2,.slice p2 n2 c2]) (lf q)/\df w' (.agg #[.bool s3,.slice p3 n3 c3]) (q.den:Int)/\aD w w':=by
 have hs:=hv.rn;obtain⟨s,xs,t,ys,gN,rfl,hx,hy⟩:=hv;have vt:=gN;obtain⟨p,c,r,d,rfl,_,_⟩:=gN;have hu:cL k<=67108864:=by unfold cL;omega
 refine ai (C:=bd Tryz.prog w _) (args:=[_]) Tryz.func308 aa Tryz.ntmps308 (bF aa) ?_;refine af ?_;refine VO.call aa aa (fk Tryz.func36) (λaK bE aX=>(od s t xs ys _ aK (vt.kp bE) ae ae).mono ?_);rintro e w1 ⟨rfl,aU⟩;cases hq:ur s xs t ys
 ·refine aL aU ?_;intro cQ _ bb1;refine VO.cI aa aa (fk Bo) (λbf cK bK=>sX 1 bf ae ae) (λbf cK bK w2 s2 p2 n2 c2 q2 bu dW _ bb2=>wV aa ?_);refine af ?_;refine aC ?_;intro wz kz bz;obtain⟨z1,z2,z3⟩:=Qj;rw[vp hq,z1,z2,z3];exact⟨_,_,_,_,_,_,_,_,_,_,_,_,aa,aE.zero _ _,df.zero _,q2.kr,bz⟩
 ·refine aL aU ?_;intro cQ _ bb1;have hr:=rT vt hq;refine VO.call aa aa (fk Hu) (λbf cK bK=>(nr _ _ (rq s xs t ys).num ((rq s xs t ys).den:Int) _ _ bf (hr.parts.1.ki hs.1) (hr.parts.2.ki hs.2) ae ae).mono ?_);rintro e w2 ⟨Zd,bu⟩;obtain⟨v2,u2,rfl,h2,h2'⟩:=fZ Zd (by have:=den_pos (rq s xs t ys);omega);obtain⟨s2,p2,n2,c2,rfl⟩:=h2.form;obtain⟨t2,r2,m2,d2,rfl⟩:=h2'.form;refine⟨_,aa,bu,λdW _ bb2=>wV aa ?_⟩
  (repeat (first|refine wN ?_|refine wP aa ?_|refine Ur aa ?_|refine wO aa aa ?_))
  refine VS.EE (cS _ _) (vh _ _) 7 aa ?_
  (repeat' (first|refine VA.go aa ?_|refine VA.fin aa ?_|refine VA.gM _ aa aa ?_|refine VA.cons aa ?_ ?_|exact VA.nil aa))
  all_goals
   refine af ?_;refine aC ?_;intro wz kz bz;exact⟨_,_,_,_,_,_,_,_,_,_,_,_,aa,((h2.k).cast (fl_eq _)).mono bK.size,h2'.kr,hr.parts.2.k,bz⟩
theorem Ze (f:FuncId) (b:Bool) (v:Value) (q:Rat) (k:Nat) (w:World) (hf:nL Tryz.prog f) (hv:aG w v q k) (hk:k<=67108864)
  (hF:∀ (s1:Bool) (p1:Option Addr) (n1 c1:Nat) (s2:Bool) (p2:Option Addr) (n2 c2:Nat) (s3:Bool) (p3:Option Addr) (n3 c3:Nat) (w:World),df w (.agg #[.bool s1,.slice p1 n1 c1]) q.floor->df w (.agg #[.bool s2,.slice p2 n2 c2]) (lf q)->df w (.agg #[.bool s3,.slice p3 n3 c3]) (q.den:Int)->
   Calls Tryz.prog f #[.agg #[.bool s1,.slice p1 n1 c1],.agg #[.bool s2,.slice p2 n2 c2],.agg #[.bool s3,.slice p3 n3 c3]] w λe w'=>e=.returned (.bool b)/\aD w w'):
  Calls Tryz.prog 278 #[v,.func (.func f) #[] #[]] w λe w'=>∃ r,e=.returned r/\aE w' w.heap.size r (if lf q≠0/\b=true then q.floor+1 else q.floor)/\aD w w':=by
 obtain⟨s,p,n,c,t,y,m,d,rfl⟩:=hv.form;have hs:=hv.rn;have hu:cL k<=67108864:=by unfold cL;omega
 refine ai (C:=bd Tryz.prog w _) (args:=[_,_]) Tryz.func278 aa Tryz.ntmps278 (bF aa) ?_;refine af ?_;refine VO.call aa aa (fk Tryz.func308) (λaK bE aX=>(Nv _ q k aK hv.k hk).mono ?_);rintro e w1 ⟨s1,p1,n1,c1,s2,p2,n2,c2,s3,p3,n3,c3,rfl,q1,q2,q3,aU⟩
 skip
 refine aL aU ?_;intro cQ _ bb1;refine VO.call aa aa (fk Hy) (λbf cK bK=>(oq _ (lf q) (cL k) bf (q2.ki (Sz.left hs))).mono ?_);rintro e w2 ⟨rfl,bu⟩;by_cases h0:lf q=0
 ·rw[show (lf q).sign=0 by rw[h0];rfl,if_neg (λe=>e.1 h0)];refine aL bu ?_;intro dW _ bb2;refine aC ?_;intro wz kz bz;exact⟨_,aa,(q1.k).mono aX.size,bz⟩
 ·rw[fR (show 0<lf q by have:=IZ q;omega)];refine aL bu ?_;intro dW _ bb2;refine VO.call aa aa hf (λcV dS ea=>(hF _ _ _ _ _ _ _ _ _ _ _ _ cV q1.kr q2.k q3.k).mono ?_);rintro e w3 ⟨rfl,dH⟩;cases b with
  | false=>
    rw[if_neg (λe=>by cases e.2)];refine aL dH ?_;intro eV _ bb3;refine aC ?_;intro wz kz bz;exact⟨_,aa,(q1.k).mono aX.size,bz⟩
  | true=>
    rw[if_pos ⟨h0,rfl⟩];refine aL dH ?_;intro eV _ bb3;refine VO.cI aa aa (fk Bo) (λey eU fc=>sX 1 ey ae ae) (λey eU fc w4 s4 p4 n4 c4 q4 gj jc _ mw=>wV aa ?_);refine af ?_;refine VO.cI aa aa (fk Tryz.func150) (λgn iz iZ=>EM _ _ q.floor 1 (cL k) 1 gn (q1.ki (Sz.floor hs)) (q4.ki (Sz.small eL)) ae ae) (λgn iz iZ w5 s5 p5 n5 c5 q5 je nw _ um=>wV aa ?_);refine af ?_;refine aC ?_;intro wz kz bz;exact⟨_,aa,(q5.k).mono iZ.size,bz⟩
theorem Kn (s1:Bool) (p1:Option Addr) (n1 c1:Nat) (s2:Bool) (p2:Option Addr) (n2 c2:Nat) (s3:Bool) (p3:Option Addr) (n3 c3:Nat) (w:World):
  Calls Tryz.prog 279 #[.agg #[.bool s1,.slice p1 n1 c1],.agg #[.bool s2,.slice p2 n2 c2],.agg #[.bool s3,.slice p3 n3 c3]] w λe w'=>e=.returned (.bool false)/\aD w w':=by
 refine ai (C:=bd Tryz.prog w _) (args:=[_,_,_]) Tryz.func279 aa Tryz.ntmps279 (bF aa) ?_;refine af ?_;refine aC ?_;intro wz kz bz;exact⟨aa,bz⟩
theorem Nw (v:Value) (q:Rat) (k:Nat) (w:World) (hv:aG w v q k) (hk:k<=67108864):
  Calls Tryz.prog 220 #[v] w λe w'=>∃ r,e=.returned r/\aE w' w.heap.size r q.floor/\aD w w':=by
 obtain⟨s,p,n,c,t,y,m,d,rfl⟩:=hv.form;refine ai (C:=bd Tryz.prog w _) (args:=[_]) Tryz.func220 aa Tryz.ntmps220 (bF aa) ?_;refine af ?_;refine VO.cI aa aa (fk Tryz.func278) (λaK bE aX=>Ze 279 false _ q k aK (fk Tryz.func279) hv.k hk (λs1 p1 n1 c1 s2 p2 n2 c2 s3 p3 n3 c3 w _ _ _=>Kn s1 p1 n1 c1 s2 p2 n2 c2 s3 p3 n3 c3 w)) (λaK bE aX w1 s1 p1 n1 c1 q1 aU cQ _ bb1=>wV aa ?_);refine af ?_;refine aC ?_;intro wz kz bz;exact⟨_,aa,((q1.k).cast (if_neg (λe=>by cases e.2))).mono aX.size,bz⟩
set_option maxRecDepth 4000
theorem dy.whole {X:Int} {k:Nat} (h:Sz X k):dy (X:Rat) (cL k):=⟨h.mono (by unfold cL;omega),Sz.mono (Sz.small eL:Sz ((1:Nat):Int) 1) (by unfold cL;omega)⟩
theorem Ko (v:Value) (q:Rat) (k:Nat) (w:World) (hv:aG w v q k) (hk:k<=100000000):
  Calls Tryz.prog 311 #[v] w λe w'=>∃ r,e=.returned r/\aE w' w.heap.size r q.floor/\aD w w':=by
 have hs:=hv.rn;obtain⟨s,xs,t,ys,gN,rfl,hx,hy⟩:=hv;have vt:=gN;obtain⟨p,c,r,d,rfl,_,_⟩:=gN;have hu:cL k<=100000000:=by unfold cL;omega
 refine ai (C:=bd Tryz.prog w _) (args:=[_]) Tryz.func311 aa Tryz.ntmps311 (bF aa) ?_;refine af ?_;refine VO.call aa aa (fk Tryz.func133) (λaK bE aX=>(oe s t xs ys _ aK (vt.kp bE) ae ae).mono ?_);rintro e w1 ⟨rfl,aU⟩;cases hq:ur s xs t ys
 ·refine aL aU ?_;intro cQ _ bb1;refine aC ?_;intro wz kz bz;rw[vp hq];exact⟨_,aa,aE.zero _ _,bz⟩
 ·refine aL aU ?_;intro cQ _ bb1;have hr:=rT vt hq;refine VO.call aa aa (fk Hv) (λbf cK bK=>(nx _ _ (rq s xs t ys).num ((rq s xs t ys).den:Int) _ _ bf (hr.parts.1.ki hs.1) (hr.parts.2.ki hs.2) ae ae).mono ?_);rintro e w2 ⟨Zd,bu⟩;obtain⟨v2,u2,rfl,h2,h2'⟩:=fZ Zd (by have:=den_pos (rq s xs t ys);omega);obtain⟨s2,p2,n2,c2,rfl⟩:=h2.form;obtain⟨t2,r2,m2,d2,rfl⟩:=h2'.form;refine aL bu ?_;intro dW _ bb2;refine aC ?_;intro wz kz bz;exact⟨_,aa,((h2.k).cast (fl_eq _)).mono bK.size,bz⟩
theorem zl (v:Value) (X:Int) (k:Nat) (w:World) (hv:cX w v X k) (hk:k<=100000000):
  Calls Tryz.prog 310 #[v] w λe w'=>∃ r,e=.returned r/\aZ w' w.heap.size r (X:Rat)/\aD w w':=by
 obtain⟨s,p,n,c,rfl⟩:=hv.form;refine ai (C:=bd Tryz.prog w _) (args:=[_]) Tryz.func310 aa Tryz.ntmps310 (bF aa) ?_;refine af ?_;refine VO.cI aa aa (fk tV) (λaK bE aX=>lN 1 aK ae ae) (λaK bE aX w1 s1 p1 n1 c1 q1 aU cQ _ bb1=>wV aa ?_);refine af ?_;refine VO.call aa aa (fk Hw) (λbf cK bK=>(pw _ _ X 1 k 1 bf hv.k (q1.ki (Sz.small eL)) ae ae).mono ?_);rintro e w2 ⟨r2,rfl,q2,bu⟩;obtain⟨s2,p2,n2,c2,t2,y2,m2,d2,rfl⟩:=q2.form;refine aL bu ?_;intro dW _ bb2;refine aC ?_;intro wz kz bz;exact⟨_,aa,((q2.k).cast (UJ X)).mono bK.size,bz⟩
theorem Fm (w:World):
  Calls Tryz.prog 282 #[] w λe w'=>∃ r,e=.returned r/\aZ w' w.heap.size r ((1:Int):Rat)/\aD w w':=by
 refine ai (C:=bd Tryz.prog w _) (args:=[]) Tryz.func282 aa Tryz.ntmps282 (bF aa) ?_;refine af ?_;refine VO.cI aa aa (fk tV) (λaK bE aX=>lN 1 aK ae ae) (λaK bE aX w1 s1 p1 n1 c1 q1 aU cQ _ bb1=>wV aa ?_);refine af ?_;refine VO.cR aa aa (fk Tryz.func310) (λbf cK bK=>zl _ 1 1 bf (q1.ki (Sz.small eL)) ae) (λbf cK bK w2 s2 p2 n2 c2 t2 y2 m2 d2 q2 bu dW _ bb2=>wV aa ?_);refine af ?_;refine aC ?_;intro wz kz bz;exact⟨_,aa,(q2.k).mono bK.size,bz⟩
theorem Nx (v:Value) (q:Rat) (k:Nat) (w:World) (hv:aG w v q k) (hk:k<=30000000):
  Calls Tryz.prog 281 #[v] w λe w'=>∃ r,e=.returned r/\aZ w' w.heap.size r (Cv q)/\aD w w':=by
 have hs:=hv.rn;obtain⟨s,p,n,c,t,y,m,d,rfl⟩:=hv.form;have hu:cL k<=30000000:=by unfold cL;omega
 have IJ:cL (cL k)=cL k:=by unfold cL;omega
 refine ai (C:=bd Tryz.prog w _) (args:=[_]) Tryz.func281 aa Tryz.ntmps281 (bF aa) ?_;refine af ?_;refine VO.cI aa aa (fk Tryz.func311) (λaK bE aX=>Ko _ q k aK hv.k ae) (λaK bE aX w1 s1 p1 n1 c1 q1 aU cQ _ bb1=>wV aa ?_);refine af ?_;refine VO.cR aa aa (fk Tryz.func310) (λbf cK bK=>zl _ q.floor (cL k) bf (q1.ki (Sz.floor hs)) ae) (λbf cK bK w2 s2 p2 n2 c2 t2 y2 m2 d2 q2 bu dW _ bb2=>wV aa ?_);refine af ?_;refine VO.cR aa aa (fk Bl) (λcV dS ea=>ko _ _ q (q.floor:Rat) k (cL k) cV hv.k (q2.ki (IJ▸dy.whole (Sz.floor hs))) ae ae) (λcV dS ea w3 s3 p3 n3 c3 t3 y3 m3 d3 q3 dH eV _ bb3=>wV aa ?_);refine af ?_;refine aC ?_;intro wz kz bz;exact⟨_,aa,(q3.k).mono ea.size,bz⟩
end
section
open Go.RowKit
theorem SD (x:Int) (h0:0<=x) (h1:x<18446744073709551616):bits .or .u64 0 x=x:=by
 rw[u64_orv0 0 x ae ae h0 ae h1];omega
section
variable {P:Program}
end
section
variable {C:Cx} {F:Fr} {H:Hp} {w:World} {m:Option (List FuncId)} {full:Array Oper} {K:Fr->Hp->World->Prop} {o:Oper} {r:List Oper}
end
set_option maxRecDepth 4000
theorem Zf {X:Int} (h:X.natAbs<4294967296):limbs X.natAbs=if X=0 then [] else [X.natAbs]:=by
 split
 ·rename_i e;rw[e];exact de
 ·rename_i e;have:=sx (xs:=[X.natAbs]) (eB.cons h eB.nil) (λx hx=>by simp at hx;omega);rw[ia,fQ] at this;simpa using this
theorem u64_neg (a:Nat) (h:a<4294967296):IntKind.i64.wrap (IntKind.u64.wrap (0-(a:Int)))= -(a:Int):=by
 rw[IntKind.wrap_i64,IntKind.wrap_u64];omega
theorem Zg {xs:List Nat} (hl:eB xs) {z x:Nat} (hx:xs[z]? =some x) (hz:z<2):
  bits .or .u64 ((au (xs.take z):Nat):Int) (IntKind.u64.wrap (IntKind.u64.wrap (x:Int)*2^min (IntKind.i64.wrap (32*(z:Int))).toNat 64))=((au (xs.take (z+1)):Nat):Int):=by
 have hxb:=hl.at hx;have e1:IntKind.u64.wrap (x:Int)=x:=IntWalk.u64_in _ ae;rw[aI hx,fI,cw,e1];have hzl:z<xs.length:=(cM.1 hx).1;rw[gW (show z<=xs.length by omega)]
 match z,hz with
 | 0,_=>
   rw[show IntKind.i64.wrap (32*((0:Nat):Int))=0 by decide];simp only[Int.toNat_zero,Nat.zero_min,Int.pow_zero,Int.mul_one,List.take_zero];rw[e1,fQ,Int.natCast_zero,SD _ ae ae];simp
 | 1,_=>
   have hlow:au (xs.take 1)<4294967296:=by
    have:=jZ (hl.take 1);rw[cw,gW ae] at this;simpa using this
   rw[show (IntKind.i64.wrap (32*((1:Nat):Int))).toNat=32 by decide,Nat.pow_one];show bits BinOp.or IntKind.u64 ((au (List.take 1 xs):Nat):Int) (IntKind.u64.wrap ((x:Int)*2^32))=_;have e2:(x:Int)*2^32=((x*4294967296:Nat):Int):=cZ;rw[e2,IntWalk.u64_in _ ae];rw[u64_or_nat _ _ ae ae,Nat.or_comm,nat_join 32 _ _ ae ae]
   congr 1;omega
attribute [local irreducible] aB VS
set_option maxRecDepth 10000 in
theorem Qk (v:Value) (X:Int) (k:Nat) (w:World) (hv:cX w v X k) (hX:X.natAbs<4294967296):
  Calls Tryz.prog 219 #[v] w λe w'=>e=.returned (.tuple #[.int .i64 X,.bool true])/\aD w w':=by
 obtain⟨s,p,n,c,rfl⟩:=hv.form;refine ai (C:=bd Tryz.prog w _) (args:=[_]) Tryz.func219 aa Tryz.ntmps219 (bF aa) ?_;refine af ?_;refine VO.call aa aa (fk Tryz.func144) (λaK bE aX=>(iE _ X k w aK hv aX).mono ?_);rintro e w1 ⟨r1,rfl,q1,aU⟩;obtain⟨s1,p1,n1,c1,rfl⟩:=q1.jj;refine aL aU ?_;intro cQ _ bb1;obtain⟨TF,qj,-⟩:=q1.parts;have Cp:=q1.TV;have hl:=Zf hX;obtain⟨a,ha⟩:∃ a,a=X.natAbs:=⟨_,aa⟩;rw[<-ha] at hl hX
 have hn:n1<=1/\(n1=0->a=0):=by
  rw[TF,<-ha,hl]
  split
  ·rename_i e;rw[e] at ha;exact⟨cZ,λ_=>ha⟩
  ·exact⟨cZ,λe=>by simp at e⟩
 refine VS.aO aa (az (show ¬ (n1:Int)>2 by omega)) ?_;refine af ?_
 refine VS.loop (J:=λm L M w'=>∃ z:Nat,z<=n1/\m=n1-z/\L=[(4,.box 4 0),(5,.val (.int .u64 ((if z=0 then 0 else a:Nat):Int))),(17,.val (.slice p1 n1 c1)),(18,.val (.int .i64 (n1:Int))),(19,.val (.int .i64 (z:Int)))]/\
  M=[(4,(246,([.bool s1,.slice p1 n1 c1]:List Value).map .val))]) n1 ⟨_,_,?_,?_,?_,?_,⟨0,ae,rfl,rfl,rfl⟩⟩ ?_
 ·exact di
 ·exact di
 ·rfl
 ·exact fv
 rintro m L M wJ ⟨z,hz,rfl,rfl,rfl⟩;refine af ?_;by_cases hlt:z<n1
 ·obtain⟨b2,o2,x,rfl,bu,im,pO⟩:=qj.cellAt hlt;obtain rfl:z=0:=ae
  obtain rfl:x=a:=by
   rw[<-ha,hl] at im
   split at im
   ·simp at im
   ·simpa using im.symm
  refine VS.aR aa (aw (aJ.2 hlt)) ?_;refine af ?_;refine VO.cond aa eh (wV aa ?_);refine VO.read aa [.int .u32 (x:Int)] aa (lO aa pO) (wV aa ?_);refine af ?_;refine VS.back (n1-(0+1)) ae ⟨_,_,?_,?_,?_,?_,⟨0+1,ae,aa,aa,aa⟩⟩
  ·refine⟨aa,ak (λz=>some (AV.val (.int .u64 z))) ?_,aa,aa,?_,aj⟩
   ·have e1:IntKind.u64.wrap (x:Int)=x:=IntWalk.u64_in _ ae;show bits .or .u64 0 (IntKind.u64.wrap (IntKind.u64.wrap (x:Int)*2^min (IntKind.i64.wrap (32*0)).toNat 64))=(x:Int);rw[show IntKind.i64.wrap (32*0)=0 by decide,e1];simp only[Int.toNat_zero,Nat.zero_min,Int.pow_zero,Int.mul_one];rw[e1,SD _ ae ae]
   ·rfl
  ·exact di
  ·rfl
  ·exact fv
 ·obtain rfl:z=n1:=by omega
  refine VS.aO aa (az (λe=>hlt (aJ.1 e))) ?_;rw[show (if z=0 then 0 else a)=a by split;exact (hn.2 ‹_›).symm;rfl];obtain⟨A,hA⟩:∃ A:Int,A=(a:Int):=⟨_,aa⟩;rw[<-hA];cases s1 with
  | true=>
    have hx:X<0:=nO Cp.symm;refine af ?_;refine VS.aR aa (aw (show A<=9223372036854775808 by omega)) ?_;refine af ?_;refine aC ?_;intro wz kz bz;refine⟨ak (λz=>Ending.returned (.tuple #[.int .i64 z,.bool true])) ?_,bz⟩;rw[hA];exact (u64_neg a hX).trans ae
  | false=>
    have hx:¬ X<0:=of_decide_eq_false Cp.symm;refine af ?_;refine VS.aR aa (aw (show A<9223372036854775808 by omega)) ?_;refine af ?_;refine aC ?_;intro wz kz bz;refine⟨ak (λz=>Ending.returned (.tuple #[.int .i64 z,.bool true])) ?_,bz⟩;exact (cO _ ae).trans ae
set_option maxRecDepth 10000 in
theorem Ql (v:Value) (X:Int) (k:Nat) (w:World) (hv:cX w v X k):
  Calls Tryz.prog 219 #[v] w λe w'=>∃ n b,e=.returned (.tuple #[.int .i64 n,.bool b])/\(b=true->n=X)/\aD w w':=by
 obtain⟨s,p,n,c,rfl⟩:=hv.form;refine ai (C:=bd Tryz.prog w _) (args:=[_]) Tryz.func219 aa Tryz.ntmps219 (bF aa) ?_;refine af ?_;refine VO.call aa aa (fk Tryz.func144) (λaK bE aX=>(iE _ X k w aK hv aX).mono ?_);rintro e w1 ⟨r1,rfl,q1,aU⟩;obtain⟨s1,p1,n1,c1,rfl⟩:=q1.jj;refine aL aU ?_;intro cQ _ bb1;obtain⟨TF,qj,-⟩:=q1.parts;have Cp:=q1.TV;by_cases Gz:(n1:Int)>2
 ·refine VS.aR aa (aw Gz) ?_;refine af ?_;refine aC ?_;intro wz kz bz;exact⟨_,_,aa,λh=>(by cases h),bz⟩
 refine VS.aO aa (az Gz) ?_;refine af ?_;have xl:=aF X.natAbs
 refine VS.loop (J:=λm L M w'=>∃ z:Nat,z<=n1/\m=n1-z/\L=[(4,.box 4 0),(5,.val (.int .u64 ((au ((limbs X.natAbs).take z):Nat):Int))),(17,.val (.slice p1 n1 c1)),(18,.val (.int .i64 (n1:Int))),(19,.val (.int .i64 (z:Int)))]/\
  M=[(4,(246,([.bool s1,.slice p1 n1 c1]:List Value).map .val))]) n1 ⟨_,_,?_,?_,?_,?_,⟨0,ae,rfl,rfl,rfl⟩⟩ ?_
 ·exact di
 ·exact di
 ·rfl
 ·exact fv
 rintro m L M wJ ⟨z,hz,rfl,rfl,rfl⟩;refine af ?_;by_cases hlt:z<n1
 ·obtain⟨b2,o2,x,rfl,bu,im,pO⟩:=qj.cellAt hlt;rcases (show z=0\/z=1 by omega) with rfl|rfl
  ·refine VS.aR aa (aw (aJ.2 hlt)) ?_;refine af ?_;refine VO.cond aa eh (wV aa ?_);refine VO.read aa [.int .u32 (x:Int)] aa (lO aa pO) (wV aa ?_);refine af ?_;refine VS.back (n1-(0+1)) ae ⟨_,_,?_,?_,?_,?_,⟨0+1,ae,aa,aa,aa⟩⟩
   ·refine⟨aa,ak (λz=>some (AV.val (.int .u64 z))) (Zg xl im ae),aa,aa,?_,aj⟩;rfl
   ·exact di
   ·rfl
   ·exact fv
  ·refine VS.aR aa (aw (aJ.2 hlt)) ?_;refine af ?_;refine VO.cond aa eh (wV aa ?_);refine VO.read aa [.int .u32 (x:Int)] aa (lO aa pO) (wV aa ?_);refine af ?_;refine VS.back (n1-(1+1)) ae ⟨_,_,?_,?_,?_,?_,⟨1+1,ae,aa,aa,aa⟩⟩
   ·refine⟨aa,ak (λz=>some (AV.val (.int .u64 z))) (Zg xl im ae),aa,aa,?_,aj⟩;rfl
   ·exact di
   ·rfl
   ·exact fv
 ·obtain rfl:z=n1:=by omega
  refine VS.aO aa (az (λe=>hlt (aJ.1 e))) ?_;have sL:au ((limbs X.natAbs).take z)=X.natAbs:=by rw[cU ae,ax]
  have hmax:X.natAbs<18446744073709551616:=by
   have:=jZ xl;rw[ax] at this;refine tS this (bG (tQ ae (show (limbs X.natAbs).length<=2 by omega)) eL)
  obtain⟨A,hA⟩:∃ A:Int,A=((au ((limbs X.natAbs).take z):Nat):Int):=⟨_,aa⟩;rw[<-hA];rw[sL] at hA;cases s1 with
  | true=>
    have hx:X<0:=nO Cp.symm;refine af ?_;by_cases hc:A<=9223372036854775808
    ·refine VS.aR aa (aw hc) ?_;refine af ?_;refine aC ?_;intro wz kz bz;refine⟨_,_,aa,λ_=> ?_,bz⟩;rw[IntKind.wrap_i64,IntKind.wrap_u64];omega
    ·refine VS.aO aa (az hc) ?_;refine af ?_;refine aC ?_;intro wz kz bz;exact⟨_,_,aa,λh=>(by cases h),bz⟩
  | false=>
    have hx:¬ X<0:=of_decide_eq_false Cp.symm;refine af ?_;by_cases hc:A<9223372036854775808
    ·refine VS.aR aa (aw hc) ?_;refine af ?_;refine aC ?_;intro wz kz bz;exact⟨_,_,aa,λ_=>(cO _ ae).trans ae,bz⟩
    ·refine VS.aO aa (az hc) ?_;refine af ?_;refine aC ?_;intro wz kz bz;exact⟨_,_,aa,λh=>(by cases h),bz⟩
end
set_option maxRecDepth 4000
section
open Go.RowKit
attribute [local irreducible] aB VS
def Kq (kk:Nat) (w:World) (cs:List Value) (a:Bool×Rat):Prop:=∃ s p c t r d xs ys,cs=[Value.bool s,.slice p (List.length xs) c,.bool t,.slice r (List.length ys) d]/\
 eI w (.agg #[.bool s,.slice p xs.length c,.bool t,.slice r ys.length d]) s xs t ys/\a=(ur s xs t ys,rq s xs t ys)/\xs.length<=kk/\ys.length<=kk
theorem tq (kk:Nat):gp (Kq kk) 4 where
 kp:=λ⟨s,p,c,t,r,d,xs,ys,e,h,r'⟩ k=>⟨s,p,c,t,r,d,xs,ys,e,h.kp k,r'⟩
 len:=λ⟨_,_,_,_,_,_,_,_,e,_⟩=>by rw[e];rfl
 ok:=λ⟨_,_,_,_,_,_,_,_,e,_⟩=>by rw[e];rfl
def fV (a:Bool×Rat):Bool:=a.1 && decide (a.2.den=1)
theorem sign_ne {z:Int}:(z.sign != 0)= !decide (z=0):=by
 by_cases h:z=0
 ·rw[h,aw rfl];rfl
 ·rw[az h];have:z.sign≠0:=λe=>h (Lg.1 e);simpa using this
theorem UK (kk:Nat) (qq:kk<=1000000) (cs:List Value) (a:Bool×Rat) (w:World) (h:Kq kk w cs a):
  Calls Tryz.prog 277 #[.agg cs.toArray] w λe w'=>e=.returned (.bool (!fV a))/\aD w w':=by
 obtain⟨s,p,c,t,r,d,xs,ys,rfl,gN,rfl,hx,hy⟩:=h;refine ai (C:=bd Tryz.prog w _) (args:=[_]) Tryz.func277 aa Tryz.ntmps277 (bF aa) ?_;refine af ?_;refine VO.call aa aa (fk Tryz.func36) (λaK bE aX=>(od s t xs ys _ aK (gN.kp bE) ae ae).mono ?_);rintro e w1 ⟨rfl,aU⟩;cases hq:ur s xs t ys
 ·refine aL aU ?_;intro cQ _ bb1;refine aC ?_;intro wz kz bz;exact⟨aa,bz⟩
 ·refine aL aU ?_;intro cQ _ bb1;have hr:=rT gN hq;have hs:dy (rq s xs t ys) (cL kk):=(gN.in hx hy).rn;have hu:cL kk<=1000000:=by unfold cL;omega
  refine VO.cI aa aa (fk Bo) (λbf cK bK=>sX 1 bf ae ae) (λbf cK bK w2 s2 p2 n2 c2 q2 bu dW _ bb2=>wV aa ?_);refine af ?_;refine VO.cB aa aa (fk DR) (λcV dS ea=>rP _ _ ((rq s xs t ys).den:Int) 1 (cL kk) 1 cV (hr.parts.2.ki hs.2) (q2.ki (Sz.small eL)) ae ae) (λcV dS ea w3 dH eV _ bb3=>wV aa ?_);refine af ?_;refine aC ?_;intro wz kz bz;refine⟨ak (λb=>Ending.returned (.bool b)) ?_,bz⟩;show ((((rq s xs t ys).den:Int)-1).sign != 0)=(!(true && decide ((rq s xs t ys).den=1)));rw[sign_ne,Bool.true_and]
  congr 1
  rw[decide_eq_decide];omega
theorem Qm (g:FuncId) (P:Bool×Rat->Bool) (kk:Nat) (kg:nL Tryz.prog g) (hg:∀ (cs:List Value) (a:Bool×Rat) (w:World),Kq kk w cs a->Calls Tryz.prog g #[.agg cs.toArray] w λe w'=>e=.returned (.bool (P a))/\aD w w') (v:Value) (es:List (Bool×Rat)) (w:World) (hv:bh (Kq kk) 4 w v es):
  Calls Tryz.prog 307 #[v,.func (.func g) #[] #[]] w λe w'=>∃ r,e=.returned (.int .i64 r)/\decide (r>=0)=es.any P/\aD w w':=by
 obtain⟨p,c,rfl,eS,gv⟩:=hv.form;obtain⟨N,hN⟩:∃ N,N=es.length:=⟨_,aa⟩;rw[<-hN] at hv eS ⊢;refine ai (C:=bd Tryz.prog w _) (args:=[_,_]) Tryz.func307 aa Tryz.ntmps307 (bF aa) ?_;refine af ?_;refine VS.loop (J:=λmm L M w'=>∃ z:Nat,z<=N/\mm=N-z/\L=[(0,.val (.slice p N c)),(1,.val (.func (.func g) #[] #[])),(7,.val (.int .i64 (N:Int))),(8,.val (.int .i64 (z:Int)))]/\M=[]/\(es.take z).any P=false) N ⟨_,_,?_,?_,?_,?_,⟨0,ae,aa,aa,aa,aa⟩⟩ ?_
 ·exact di
 ·exact di
 ·rfl
 ·exact fv
 rintro mm L M wJ ⟨z,hz,rfl,rfl,rfl,hno⟩;refine af ?_;by_cases hlt:z<N
 ·obtain⟨a,hx⟩:∃ x,es[z]? =some x:=⟨_,bj ae⟩;obtain⟨b,off,cs,rfl,hc,he⟩:=hv.at hx;have Ew:=he;obtain⟨s,p1,c1,t,r,d,xs,ys,rfl,-⟩:=Ew;refine VS.aR aa (aw (aJ.2 hlt)) ?_;refine af ?_;refine VO.cond aa eh ?_;refine wV aa ?_;refine af ?_;refine VO.read aa [.bool s,.slice p1 xs.length c1,.bool t,.slice r ys.length d] aa (λj u hj=>by rw[Addr.add_mid,dV];exact hc j u hj) (wV aa ?_);refine VO.call aa aa kg (λaK bE aX=>(hg _ a aK ((tq kk).kp he (Kp.of (U:=UU) aX))).mono ?_);rintro e w1 ⟨rfl,aU⟩;cases hP:P a with
  | true=>
    refine aL aU ?_;intro cQ _ bb1;refine aC ?_;intro wz kz bz;refine⟨_,aa,?_,bz⟩;rw[kV.2 ⟨a,dz hx,hP⟩,aw ae]
  | false=>
    refine aL aU ?_;intro cQ _ bb1;refine VS.back (N-(z+1)) ae ⟨_,_,?_,?_,?_,?_,⟨z+1,ae,aa,aa,aa,?_⟩⟩
    ·refine⟨aa,aa,aa,?_,aj⟩;rw[<-aA ae];rfl
    ·exact di
    ·rfl
    ·exact fv
    ·rw[aI hx,List.any_append,hno];simp[hP]
 ·refine VS.aO aa (az (λe=>hlt (aJ.1 e))) ?_;obtain rfl:z=N:=ae;refine af ?_;refine aC ?_;intro wz kz bz;rw[dM ae] at hno;exact⟨_,aa,by rw[hno];rfl,bz⟩
theorem Fo (g:FuncId) (P:Bool×Rat->Bool) (kk:Nat) (kg:nL Tryz.prog g) (hg:∀ (cs:List Value) (a:Bool×Rat) (w:World),Kq kk w cs a->Calls Tryz.prog g #[.agg cs.toArray] w λe w'=>e=.returned (.bool (P a))/\aD w w') (v:Value) (es:List (Bool×Rat)) (w:World) (hv:bh (Kq kk) 4 w v es):
  Calls Tryz.prog 276 #[v,.func (.func g) #[] #[]] w λe w'=>e=.returned (.bool (es.any P))/\aD w w':=by
 obtain⟨p,c,rfl,eS,gv⟩:=hv.form;refine ai (C:=bd Tryz.prog w _) (args:=[_,_]) Tryz.func276 aa Tryz.ntmps276 (bF aa) ?_;refine af ?_;refine VO.call aa aa (fk Tryz.func307) (λaK bE aX=>(Qm g P kk kg hg _ es aK (hv.bS (tq kk) aX)).mono ?_);rintro e w1 ⟨r1,rfl,h1,aU⟩;refine aL aU ?_;intro cQ _ bb1;refine aC ?_;intro wz kz bz;exact⟨ak (λb=>Ending.returned (.bool b)) h1,bz⟩
theorem Nz {α:Type} (l:List α) (f:α->Bool):(!l.any λa=> !f a)=l.all f:=by
 induction l with
 | nil=>rfl
 | cons x r ih=>rw[List.any_cons,List.all_cons,<-ih];cases f x <;> simp
theorem GN (v:Value) (es:List (Bool×Rat)) (kk:Nat) (w:World) (hv:bh (Kq kk) 4 w v es) (qq:kk<=1000000):
  Calls Tryz.prog 218 #[v] w λe w'=>e=.returned (.bool (es.all fV))/\aD w w':=by
 obtain⟨p,c,rfl,eS,gv⟩:=hv.form;refine ai (C:=bd Tryz.prog w _) (args:=[_]) Tryz.func218 aa Tryz.ntmps218 (bF aa) ?_;refine af ?_;refine VO.cB aa aa (fk Tryz.func276) (λaK bE aX=>Fo 277 (λa=> !fV a) kk (fk Tryz.func277) (UK kk qq) _ es aK (hv.bS (tq kk) aX)) (λaK bE aX w1 aU cQ _ bb1=>wV aa ?_);refine af ?_;refine aC ?_;intro wz kz bz;exact⟨ak (λb=>Ending.returned (.bool b)) (Nz es fV),bz⟩
theorem Fp (v:Value) (es:List (Bool×Rat)) (kk:Nat) (w:World) (hv:bh (Kq kk) 4 w v es) (qq:kk<=1000000):
  Calls Tryz.prog 227 #[v] w λe w'=>e=.returned (.bool (es.all fV))/\aD w w':=by
 obtain⟨p,c,rfl,eS,gv⟩:=hv.form;obtain⟨N,hN⟩:∃ N,N=es.length:=⟨_,aa⟩;rw[<-hN] at hv eS ⊢;refine ai (C:=bd Tryz.prog w _) (args:=[_]) Tryz.func227 aa Tryz.ntmps227 (bF aa) ?_;refine af ?_;refine VS.loop (J:=λmm L M w'=>∃ z:Nat,z<=N/\mm=N-z/\L=[(0,.val (.slice p N c)),(3,.val (.int .i64 (z:Int)))]/\M=[]/\(es.take z).all fV=true) N ⟨_,_,?_,?_,?_,?_,⟨0,ae,aa,aa,aa,aa⟩⟩ ?_
 ·exact di
 ·exact di
 ·rfl
 ·exact fv
 rintro mm L M wJ ⟨z,hz,rfl,rfl,rfl,hno⟩;refine af ?_;by_cases hlt:z<N
 ·obtain⟨a,hx⟩:∃ x,es[z]? =some x:=⟨_,bj ae⟩;obtain⟨b,off,cs,rfl,hc,he⟩:=hv.at hx;obtain⟨s,p1,c1,t,r,d,xs,ys,rfl,gN,rfl,EK,hy1⟩:=he;have hs:dy (rq s xs t ys) (cL kk):=(gN.in EK hy1).rn;have hu:cL kk<=1000000:=by unfold cL;omega
  have hsnoc:=aI hx
  have hbad:fV (ur s xs t ys,rq s xs t ys)=false->es.all fV=false:=λh=>by
   rw[<-wE,eg];intro h2;have:=h2 _ (dz hx);rw[h] at this;cases this
  refine VS.aR aa (aw (aJ.2 hlt)) ?_;refine af ?_;refine VO.cond aa eh ?_;refine wV aa ?_;refine af ?_;refine VO.read aa [.bool s,.slice p1 xs.length c1,.bool t,.slice r ys.length d] aa (λj u hj=>by rw[Addr.add_mid,dV];exact hc j u hj) (wV aa ?_);refine af ?_;refine VO.call aa aa (fk Tryz.func133) (λaK bE aX=>(oe s t xs ys _ aK (gN.kp (Kp.of (U:=UU) aX)) ae ae).mono ?_);rintro e w1 ⟨rfl,aU⟩;cases hq:ur s xs t ys
  ·rw[hq] at hbad;refine aL aU ?_;intro cQ _ bb1;refine aC ?_;intro wz kz bz;exact⟨by rw[hbad rfl];rfl,bz⟩
  rw[hq] at hbad;refine aL aU ?_;intro cQ _ bb1;refine VO.cond aa eh ?_;refine wV aa ?_;refine af ?_;refine VO.read aa [.bool s,.slice p1 xs.length c1,.bool t,.slice r ys.length d] aa (λj u hj=>by rw[Addr.add_mid,dV];exact hc j u hj) (wV aa ?_);refine af ?_;refine VO.cR aa aa (fk Tryz.func281) (λbf cK bK=>Nx _ (rq s xs t ys) kk bf ((gN.in EK hy1).kp (Kp.of (U:=UU) bK)) ae) (λbf cK bK w2 s2 p2 n2 c2 t2 y2 m2 d2 q2 bu dW _ bb2=>wV aa ?_);refine af ?_;refine VO.cR aa aa (fk Tryz.func282) (λcV dS ea=>Fm cV) (λcV dS ea w3 s3 p3 n3 c3 t3 y3 m3 d3 q3 dH eV _ bb3=>wV aa ?_);refine af ?_;refine VO.cR aa aa (fk Tryz.func282) (λey eU fc=>Fm ey) (λey eU fc w4 s4 p4 n4 c4 t4 y4 m4 d4 q4 gj jc _ mw=>wV aa ?_);refine af ?_;refine VO.cR aa aa (fk Bl) (λgn iz iZ=>ko _ _ ((1:Int):Rat) ((1:Int):Rat) 1 1 gn (q3.ki dy.one) (q4.ki dy.one) ae ae) (λgn iz iZ w5 s5 p5 n5 c5 t5 y5 m5 d5 q5 je nw _ um=>wV aa ?_);refine af ?_;have h11:((1:Int):Rat)-((1:Int):Rat)=0:=by rw[Rat.sub_self]
  have hfr:dy (Cv (rq s xs t ys)) (cL kk):=by
   rw[<-Nu];exact ow (Sz.left hs) hs.2 (by have:=den_pos (rq s xs t ys);omega)
  refine VO.call aa aa (fk Tryz.func143) (λjL my nV=>(tj _ _ (Cv (rq s xs t ys)) 0 (cL kk) 1 jL (q2.ki hfr) ((q5.cast h11).ki dy.zero) ae ae).mono ?_);rintro e w6 ⟨rfl,oY⟩;by_cases hw:(rq s xs t ys).den=1
  ·rw[xJ (Fl.2 hw)];refine aL oY ?_;intro sq _ xT;refine VS.back (N-(z+1)) ae ⟨_,_,?_,?_,?_,?_,⟨z+1,ae,aa,aa,aa,?_⟩⟩
   ·refine⟨aa,?_,aj⟩;rw[<-aA ae];rfl
   ·exact di
   ·rfl
   ·exact fv
   ·rw[hsnoc,kW,hno,hq];simp[fV,hw]
  ·have hne:jD (Cv (rq s xs t ys)) 0=1:=by
    have h1:=Nt (rq s xs t ys);have h2:Cv (rq s xs t ys)≠0:=λe=>hw (Fl.1 e);unfold jD;rw[if_neg (Rat.not_lt.2 h1),if_neg h2]
   rw[hne];refine aL oY ?_;intro sq _ xT;refine aC ?_;intro wz kz bz;exact⟨by rw[hbad (by simp[fV,hw])];rfl,bz⟩
 ·refine VS.aO aa (az (λe=>hlt (aJ.1 e))) ?_;obtain rfl:z=N:=ae;refine af ?_;refine aC ?_;intro wz kz bz;rw[dM ae] at hno;exact⟨by rw[hno];rfl,bz⟩
end
section
open Go.RowKit
structure Pt where
 b:Rat
 s:Rat
 d:Rat
 i:Rat
variable {x y:Pt}
theorem Pt.ext' (h1:x.b=y.b) (h2:x.s=y.s) (h3:x.d=y.d) (h4:x.i=y.i):x=y:=by
 cases x;cases y;simp_all
def Pt.zero:Pt:=⟨0,0,0,0⟩
def Pt.add (x y:Pt):Pt:=⟨x.b+y.b,x.s+y.s,x.d+y.d,x.i+y.i⟩
def qI (k:Nat) (t:Rat):Rat:=if k=1\/k=3\/k=8\/k=10 then t else if k=2\/k=4\/k=5\/k=6\/k=7\/k=9\/k=11 then-t else 0
def uh (k:Nat) (t a:Rat):Rat:=if k=1 then t else if k=10 then t else if k=2 then-t else if k=7 then-t else if k=4 then t*a-t else if k=5 then (if jD t a>0 then-a else-t) else 0
def GO (k:Nat) (t:Rat):Rat:=if k=7 then t else 0
def GP (k:Nat) (t:Rat):Rat:=if k=8 then-t else if k=9 then t else 0
def zm (k:Nat) (t a:Rat):Pt:=⟨qI k t,uh k t a,GO k t,GP k t⟩
abbrev La:=Nat×Rat×Rat
def Kr (x:La):Pt:=zm x.1 x.2.2 x.2.1
def qY (l:List Pt):Pt:=l.foldl Pt.add Pt.zero
def bn (l:List La):Pt:=qY (l.map Kr)
theorem Ja (l:List Pt) (x:Pt):qY (l++[x])=(qY l).add x:=by unfold qY;rw[Lq];rfl
variable {i:Nat}
theorem Jb {l:List Pt} (h:l[i]? =some x):qY (l.take (i+1))=(qY (l.take i)).add x:=by rw[aI h,Ja]
variable {l:List La}
theorem tr {x:La} (h:l[i]? =some x):bn (l.take (i+1))=(bn (l.take i)).add (Kr x):=by
 unfold bn;rw[aI h,aQ];exact Ja _ _
theorem add_zero' (x:Pt):x.add Pt.zero=x:=Pt.ext' (mW _) (mW _) (mW _) (mW _)
theorem rW (x:Pt):Pt.zero.add x=x:=Pt.ext' (Bm _) (Bm _) (Bm _) (Bm _)
theorem Qn (x y z:Pt):(x.add y).add z=x.add (y.add z):=Pt.ext' (Rat.add_assoc _ _ _) (Rat.add_assoc _ _ _) (Rat.add_assoc _ _ _) (Rat.add_assoc _ _ _)
theorem UL (l:List Pt):∀ x,l.foldl Pt.add x=x.add (qY l):=by
 induction l with
 | nil=>intro x;exact (add_zero' x).symm
 | cons y r ih=>
   intro x;show r.foldl Pt.add (x.add y)=x.add (r.foldl Pt.add (Pt.zero.add y));rw[ih,ih (Pt.zero.add y),rW,Qn]
theorem AE (x:Pt) (l:List Pt):qY (x::l)=x.add (qY l):=by
 show l.foldl Pt.add (Pt.zero.add x)=_;rw[UL,rW]
theorem NA (x y:Pt):qY [x,y]=x.add y:=by show (Pt.zero.add x).add y=_;rw[rW]
structure zV (x:Pt) (k:Nat):Prop where
 b:dy x.b k
 s:dy x.s k
 d:dy x.d k
 i:dy x.i k
theorem zV.mono {k l:Nat} (h:zV x k) (hk:k<=l):zV x l:=⟨h.b.mono hk,h.s.mono hk,h.d.mono hk,h.i.mono hk⟩
theorem zV.zero:zV Pt.zero 1:=⟨dy.zero,dy.zero,dy.zero,dy.zero⟩
theorem zV.add {k l:Nat} (h:zV x k) (h':zV y l):zV (x.add y) (k+l+1):=⟨h.b.add h'.b,h.s.add h'.s,h.d.add h'.d,h.i.add h'.i⟩
variable {j:Nat}
theorem Ks {k:Nat} {t a:Rat} (ht:dy t j) (ha:dy a j) (hj:1<=j):zV (zm k t a) (3*j+1):=by
 have h0:dy 0 (3*j+1):=dy.zero.mono ae;have h1:dy t (3*j+1):=ht.mono ae;have h2:dy (-t) (3*j+1):=h1.neg;have h3:dy (-a) (3*j+1):=(ha.mono ae).neg;have h4:dy (t*a-t) (3*j+1):=((ht.mul ha).sub ht).mono ae;refine⟨?_,?_,?_,?_⟩
 ·show dy (qI k t) _;unfold qI;split <;> first|assumption|(split <;> assumption)
 ·show dy (uh k t a) _;unfold uh;repeat' (split <;> first|assumption|skip)
 ·show dy (GO k t) _;unfold GO;split <;> assumption
 ·show dy (GP k t) _;unfold GP;split <;> first|assumption|(split <;> assumption)
def gr (j n:Nat):Nat:=1+n*(3*j+2)
theorem NB (j n:Nat):gr j (n+1)=gr j n+(3*j+1)+1:=by unfold gr;rw[ff,tY];omega
variable {m:Nat}
theorem Jc {n:Nat} (h:m<=n):gr j m<=gr j n:=by unfold gr;have:=kC (3*j+2) h;omega
def eP (j n:Nat):Nat:=1+n*(j+1)
theorem Fq (j n:Nat):eP j (n+1)=eP j n+j+1:=by unfold eP;rw[ff,tY];omega
theorem NC {n:Nat} (h:m<=n):eP j m<=eP j n:=by unfold eP;have:=kC (j+1) h;omega
theorem pH (hj:1<=j):∀ (l:List La),(∀ x∈l,dy x.2.1 j/\dy x.2.2 j)->zV (bn l) (gr j l.length):=by
 intro l
 induction l with
 | nil=>intro _;exact zV.zero.mono (by simp[gr])
 | cons x r ih=>
   intro h;have e:bn (x::r)=(Kr x).add (bn r):=AE _ _;rw[e,wD,NB];have h1:zV (Kr x) (3*j+1):=Ks (h x cZ).2 (h x cZ).1 hj;exact (h1.add (ih λy hy=>h y (by simp[hy]))).mono ae
theorem Kt:∀ (l:List Pt),(∀ x∈l,zV x j)->zV (qY l) (eP j l.length):=by
 intro l
 induction l with
 | nil=>intro _;exact zV.zero.mono (by simp[eP])
 | cons x r ih=>
   intro h;rw[AE,wD,Fq];exact ((h x cZ).add (ih λy hy=>h y (by simp[hy]))).mono ae
def fm (w:World) (v:Value) (P:Pt):Prop:=∃ s1 p1 n1 c1 t1 y1 m1 d1 s2 p2 n2 c2 t2 y2 m2 d2 s3 p3 n3 c3 t3 y3 m3 d3 s4 p4 n4 c4 t4 y4 m4 d4,
 v=.agg #[.bool s1,.slice p1 n1 c1,.bool t1,.slice y1 m1 d1,.bool s2,.slice p2 n2 c2,.bool t2,.slice y2 m2 d2,.bool s3,.slice p3 n3 c3,.bool t3,.slice y3 m3 d3,.bool s4,.slice p4 n4 c4,.bool t4,.slice y4 m4 d4]/\
 bq w (.agg #[.bool s1,.slice p1 n1 c1,.bool t1,.slice y1 m1 d1]) P.b/\bq w (.agg #[.bool s2,.slice p2 n2 c2,.bool t2,.slice y2 m2 d2]) P.s/\bq w (.agg #[.bool s3,.slice p3 n3 c3,.bool t3,.slice y3 m3 d3]) P.d/\bq w (.agg #[.bool s4,.slice p4 n4 c4,.bool t4,.slice y4 m4 d4]) P.i
def xK (w:World) (v:Value) (P:Pt) (k:Nat):Prop:=∃ s1 p1 n1 c1 t1 y1 m1 d1 s2 p2 n2 c2 t2 y2 m2 d2 s3 p3 n3 c3 t3 y3 m3 d3 s4 p4 n4 c4 t4 y4 m4 d4,
 v=.agg #[.bool s1,.slice p1 n1 c1,.bool t1,.slice y1 m1 d1,.bool s2,.slice p2 n2 c2,.bool t2,.slice y2 m2 d2,.bool s3,.slice p3 n3 c3,.bool t3,.slice y3 m3 d3,.bool s4,.slice p4 n4 c4,.bool t4,.slice y4 m4 d4]/\
 aG w (.agg #[.bool s1,.slice p1 n1 c1,.bool t1,.slice y1 m1 d1]) P.b k/\aG w (.agg #[.bool s2,.slice p2 n2 c2,.bool t2,.slice y2 m2 d2]) P.s k/\aG w (.agg #[.bool s3,.slice p3 n3 c3,.bool t3,.slice y3 m3 d3]) P.d k/\aG w (.agg #[.bool s4,.slice p4 n4 c4,.bool t4,.slice y4 m4 d4]) P.i k
variable {P:Pt} {U:TypeId} {T:TypeId->Bool} {v:Value} {w w':World}
theorem fm.kp (h:fm w v P) (k:bg ⟨U,λ_=>True,T⟩ w w'):fm w' v P:=by
 obtain⟨s1,p1,n1,c1,t1,y1,m1,d1,s2,p2,n2,c2,t2,y2,m2,d2,s3,p3,n3,c3,t3,y3,m3,d3,s4,p4,n4,c4,t4,y4,m4,d4,hv,h1,h2,h3,h4⟩:=h;exact⟨_,_,_,_,_,_,_,_,_,_,_,_,_,_,_,_,_,_,_,_,_,_,_,_,_,_,_,_,_,_,_,_,hv,h1.kp k,h2.kp k,h3.kp k,h4.kp k⟩
theorem xK.kp (h:xK w v P j) (k:bg ⟨U,λ_=>True,T⟩ w w'):xK w' v P j:=by
 obtain⟨s1,p1,n1,c1,t1,y1,m1,d1,s2,p2,n2,c2,t2,y2,m2,d2,s3,p3,n3,c3,t3,y3,m3,d3,s4,p4,n4,c4,t4,y4,m4,d4,hv,h1,h2,h3,h4⟩:=h;exact⟨_,_,_,_,_,_,_,_,_,_,_,_,_,_,_,_,_,_,_,_,_,_,_,_,_,_,_,_,_,_,_,_,hv,h1.kp k,h2.kp k,h3.kp k,h4.kp k⟩
theorem fm.to (h:fm w v P) (hs:zV P j):xK w v P j:=by
 obtain⟨s1,p1,n1,c1,t1,y1,m1,d1,s2,p2,n2,c2,t2,y2,m2,d2,s3,p3,n3,c3,t3,y3,m3,d3,s4,p4,n4,c4,t4,y4,m4,d4,hv,h1,h2,h3,h4⟩:=h;exact⟨_,_,_,_,_,_,_,_,_,_,_,_,_,_,_,_,_,_,_,_,_,_,_,_,_,_,_,_,_,_,_,_,hv,h1.to hs.b,h2.to hs.s,h3.to hs.d,h4.to hs.i⟩
theorem xK.sz (h:xK w v P j) (hj:1<=j):zV P j:=by
 obtain⟨s1,p1,n1,c1,t1,y1,m1,d1,s2,p2,n2,c2,t2,y2,m2,d2,s3,p3,n3,c3,t3,y3,m3,d3,s4,p4,n4,c4,t4,y4,m4,d4,hv,h1,h2,h3,h4⟩:=h;exact⟨h1.sz hj,h2.sz hj,h3.sz hj,h4.sz hj⟩
theorem fm.cast {P':Pt} (h:fm w v P) (e:P=P'):fm w v P':=e▸h
variable {s1 t1 s2 t2 s3 t3 s4 t4:Bool} {n1 c1 m1 d1 n2 c2 m2 d2 n3 c3 m3 d3 n4 c4 m4 d4:Nat} {p1 y1 p2 y2 p3 y3 p4 y4:Option Addr} {s d:Rat}
theorem fm.mk {b i:Rat}
  (h1:bq w (.agg #[.bool s1,.slice p1 n1 c1,.bool t1,.slice y1 m1 d1]) b) (h2:bq w (.agg #[.bool s2,.slice p2 n2 c2,.bool t2,.slice y2 m2 d2]) s) (h3:bq w (.agg #[.bool s3,.slice p3 n3 c3,.bool t3,.slice y3 m3 d3]) d) (h4:bq w (.agg #[.bool s4,.slice p4 n4 c4,.bool t4,.slice y4 m4 d4]) i):
  fm w (.agg #[.bool s1,.slice p1 n1 c1,.bool t1,.slice y1 m1 d1,.bool s2,.slice p2 n2 c2,.bool t2,.slice y2 m2 d2,.bool s3,.slice p3 n3 c3,.bool t3,.slice y3 m3 d3,.bool s4,.slice p4 n4 c4,.bool t4,.slice y4 m4 d4]) ⟨b,s,d,i⟩:=
 ⟨_,_,_,_,_,_,_,_,_,_,_,_,_,_,_,_,_,_,_,_,_,_,_,_,_,_,_,_,_,_,_,_,rfl,h1,h2,h3,h4⟩
theorem xK.mk {b i:Rat} {k:Nat}
  (h1:aG w (.agg #[.bool s1,.slice p1 n1 c1,.bool t1,.slice y1 m1 d1]) b k) (h2:aG w (.agg #[.bool s2,.slice p2 n2 c2,.bool t2,.slice y2 m2 d2]) s k) (h3:aG w (.agg #[.bool s3,.slice p3 n3 c3,.bool t3,.slice y3 m3 d3]) d k) (h4:aG w (.agg #[.bool s4,.slice p4 n4 c4,.bool t4,.slice y4 m4 d4]) i k):
  xK w (.agg #[.bool s1,.slice p1 n1 c1,.bool t1,.slice y1 m1 d1,.bool s2,.slice p2 n2 c2,.bool t2,.slice y2 m2 d2,.bool s3,.slice p3 n3 c3,.bool t3,.slice y3 m3 d3,.bool s4,.slice p4 n4 c4,.bool t4,.slice y4 m4 d4]) ⟨b,s,d,i⟩ k:=
 ⟨_,_,_,_,_,_,_,_,_,_,_,_,_,_,_,_,_,_,_,_,_,_,_,_,_,_,_,_,_,_,_,_,rfl,h1,h2,h3,h4⟩
def pJ (kk:Nat) (w:World) (cs:List Value) (x:La):Prop:=∃ s1 p1 n1 c1 t1 y1 m1 d1 s2 p2 n2 c2 t2 y2 m2 d2,
 cs=[.int .u8 (x.1:Int),.bool s1,.slice p1 n1 c1,.bool t1,.slice y1 m1 d1,.bool s2,.slice p2 n2 c2,.bool t2,.slice y2 m2 d2]/\x.1<256/\
 aG w (.agg #[.bool s1,.slice p1 n1 c1,.bool t1,.slice y1 m1 d1]) x.2.1 kk/\aG w (.agg #[.bool s2,.slice p2 n2 c2,.bool t2,.slice y2 m2 d2]) x.2.2 kk
theorem eE (kk:Nat):gp (pJ kk) 9 where
 kp:=λh k=>by
  obtain⟨s1,p1,n1,c1,t1,y1,m1,d1,s2,p2,n2,c2,t2,y2,m2,d2,hv,h0,h1,h2⟩:=h;exact⟨_,_,_,_,_,_,_,_,_,_,_,_,_,_,_,_,hv,h0,h1.kp k,h2.kp k⟩
 len:=λh=>by
  obtain⟨s1,p1,n1,c1,t1,y1,m1,d1,s2,p2,n2,c2,t2,y2,m2,d2,rfl,_⟩:=h;rfl
 ok:=λh=>by
  obtain⟨s1,p1,n1,c1,t1,y1,m1,d1,s2,p2,n2,c2,t2,y2,m2,d2,rfl,_⟩:=h;rfl
variable {kk:Nat}
theorem pJ.sz {cs:List Value} {x:La} (h:pJ kk w cs x) (hk:1<=kk):dy x.2.1 kk/\dy x.2.2 kk:=by
 obtain⟨s1,p1,n1,c1,t1,y1,m1,d1,s2,p2,n2,c2,t2,y2,m2,d2,rfl,h0,h1,h2⟩:=h;exact⟨h1.sz hk,h2.sz hk⟩
def PtE (kk:Nat) (w:World) (cs:List Value) (x:Pt):Prop:=xK w (.agg cs.toArray) x kk
theorem BS (kk:Nat):gp (PtE kk) 16 where
 kp:=λh k=>xK.kp h k
 len:=λ{w cs a} h=>by
  obtain⟨s1,p1,n1,c1,t1,y1,m1,d1,s2,p2,n2,c2,t2,y2,m2,d2,s3,p3,n3,c3,t3,y3,m3,d3,s4,p4,n4,c4,t4,y4,m4,d4,hv,_⟩:=h;injection hv with hv
  have:=ak Array.size hv;simpa using this
 ok:=λ{w cs a} h=>by
  obtain⟨s1,p1,n1,c1,t1,y1,m1,d1,s2,p2,n2,c2,t2,y2,m2,d2,s3,p3,n3,c3,t3,y3,m3,d3,s4,p4,n4,c4,t4,y4,m4,d4,hv,_⟩:=h;injection hv with hv
  have:=ak Array.toList hv;simp only[List.toList_toArray] at this;rw[this];rfl
theorem SE (h:bh (pJ kk) 9 w v l) (hk:1<=kk):∀ x∈l,dy x.2.1 kk/\dy x.2.2 kk:=λx hx=>by
 obtain⟨i,hi⟩:=oG hx;obtain⟨p,c,rfl,_⟩:=h.form;obtain⟨b,off,cs,_,_,he⟩:=h.at hi;exact he.sz hk
theorem SF {l:List Pt} (h:bh (PtE kk) 16 w v l) (hk:1<=kk):∀ x∈l,zV x kk:=λx hx=>by
 obtain⟨i,hi⟩:=oG hx;obtain⟨p,c,rfl,_⟩:=h.form;obtain⟨b,off,cs,_,_,he⟩:=h.at hi;exact xK.sz he hk
end
end Go.Proofs.YtlifeokjcgngjaaGreat
