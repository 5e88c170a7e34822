/-DD of the proof,laid behind one another. -/
import Derived.Test.YtlifeokjcgngjaaGreatKAdjustKnown6
set_option linter.all false
set_option maxHeartbeats 64000000
namespace Go.Proofs.YtlifeokjcgngjaaGreat
open Go.RowKit
attribute [local irreducible] aB VS
abbrev KN:KC:=⟨UU,λ_=>True,λt=>(Nat.beq t 27 || Nat.beq t 105)⟩
abbrev cxN (P:Program) (w:World) (N:Nat) (ad:List Nat) (hd:ad.Nodup) (ha:iR KN ad w):Cx:=wk P w N KN (λt=>(Nat.beq t 23 || Nat.beq t 50)) table (λ_ _=>trivial) ad hd ha
theorem FU (w:World) (N:Nat) {ad:List Nat} {hd:ad.Nodup} {ha:iR KN ad w}:(cxN Tryz.prog w N ad hd ha).Ok:=fy
section
variable {F F':Fr} {H H':Hp} {w w1:World} {N:Nat} {l':List Oper} {Q:Exit->Act->World->Prop} {k:List It} {id:Nat} {ops:Array Oper}
theorem cxN_r {ad:List Nat} {hd:ad.Nodup} {ha:iR KN ad w1} (e:jJ (cxN Tryz.prog w1 N ad hd ha) ops 80 ops.toList F H=(l',F',H')) (h:aB (cxN Tryz.prog w1 N ad hd ha) none ops l' (VS (cxN Tryz.prog w1 N ad hd ha) Q k) F' H' w):VS (cxN Tryz.prog w1 N ad hd ha) Q (.code (.region id ops false)::k) F H w:=VS.region (FU _ _) (VO.run 80 e h)
end
variable {α:Type} {t:TypeId} {w:World} {E:World->List Value->α->Prop}
theorem eF.told {sz i:Nat} {es:List α} {C:Cx} {β:Nat->Nat} {H:Hp} {w1:World} {X:AV} {M:List (Nat×(TypeId×List AV))} (h:eF E sz t i X M w es) (hE:gp E sz) (en:Ends C β H w1) (hM:∀ x∈M,H x.1=some x.2) (k:Kp UU w w1) (B:Nat) (hB:C.Cl i (β i)->B<=β i):aP E sz t B w1 (X.bH β) es:=by
 rcases h with ⟨rfl,rfl,rfl⟩|⟨n,c,vs,sp,rfl,rfl,h3⟩
 ·exact .inl ⟨aa,aa⟩
 ·have o:=en.own i _ _ (hM _ (ay.2 aa));have hk:=o.ok;rw[kW,jP] at hk;have hn:=h3.len;subst hn;refine .inr ⟨β i,c,vs,sp.map (AV.leaf β),aa,hB o.new,?_,h3.el.kp hE k,gw hk.2,h3.le,h3.cm,by rw[<-h3.fl];simp only[List.length_append,List.length_map]⟩;have:=o.cls;rw[aQ,aV] at this;exact this
def GE (_:World) (cs:List Value) (g:Nat):Prop:=cs=[.slice (some ⟨g,0,none⟩) 1 1]
theorem Cc:gp GE 1 where
 kp:=λh _=>h
 len:=λh=>by rw[show _=_ from h];rfl
 ok:=λh=>by rw[show _=_ from h];rfl
def CR (w:World) (g:Nat) (row:List Rat):Prop:=∃ v,cN w g 105 #[v]/\aP (iJ 10) 4 27 0 w v row
variable {g:Nat} {w':World}
theorem CR.kp {T:TypeId->Bool} {row:List Rat} (h:CR w g row) (k:KZ T w w') (h1:T 105=true) (h2:T 27=true):CR w' g row:=by
 have f:∀ t,T t=true->(KC.fz ⟨UU,λ_=>True,T⟩ t)=true:=λt ht=>by show (Nat.beq t UU || T t)=true;rw[ht];simp
 obtain⟨v,e1,e2⟩:=h;exact⟨v,k.block _ g _ (f _ h1) aj e1,e2.kp (bV 10) k h2⟩
theorem CR.bS {row:List Rat} (h:CR w g row) (hb:aD w w'):CR w' g row:=h.kp (T:=λ_=>true) (bg.of hb) rfl rfl
theorem CR.NV {row:List Rat} (h:CR w g row):gI 10 w [.slice (some ⟨g,0,none⟩) 1 1] [row]:=by
 obtain⟨v,e1,e2⟩:=h;have h1:lR 10 w [v] row:=⟨v,aa,e2.sl (bV 10)⟩;exact⟨_,aa,(oy (E:=λ_=>lR 10 w) FM (vs:=[[v]]) (spare:=[]) e1 (.cons h1 .nil) aa (bl _) (show (1:Nat)<=9223372036854775807 by omega)).mono (λ_ _ _ _ h=>h)⟩
variable {v:Value}
theorem Wh {gs:List Nat} {rows:List (List Rat)} (h:bh GE 1 w v gs) (hl:gs.length=rows.length) (hg:∀ (i g:Nat) (r:List Rat),gs[i]? =some g->rows[i]? =some r->CR w g r):bh (gI 10) 1 w v (rows.map λr=>[r]):=by
 obtain⟨p,c,rfl,h1,h2,h3⟩:=h;refine⟨p,c,by rw[bJ,hl],by rw[bJ,<-hl];exact h1,h2,λi a ha=> ?_⟩;rw[gT] at ha;obtain⟨r,hr,rfl⟩:=Hh.1 ha;obtain⟨g,hgi⟩:∃ g,gs[i]? =some g:=⟨_,bj (by rw[hl];exact (cM.1 hr).1)⟩;obtain⟨b,off,cs,hp,hc,hE⟩:=h3 i g hgi;obtain rfl:cs=[.slice (some ⟨g,0,none⟩) 1 1]:=hE;exact⟨b,off,_,hp,hc,(hg i g r hgi hr).NV⟩
theorem fu.up {j k:Nat} {cs:List Value} {x:iT} (h:fu j w cs x) (hk:j<=k):fu k w cs x:=by
 obtain⟨nm,s,p,n,c,t,y,m,d,hv,h1,h2⟩:=h;exact⟨_,_,_,_,_,_,_,_,_,hv,h1,h2.Nq hk⟩
variable {a:List Rat} {z:Nat}
theorem radd2_at {b:List Rat} {x y:Rat} (h1:a[z]? =some x) (h2:b[z]? =some y):(lU a b)[z]? =some (x+y):=by
 unfold lU;rw[List.getElem?_zipWith,h1,h2]
theorem Jr {b:List Rat} {n:Nat} (h1:a.length=n) (h2:b.length=n):(lU a b).length=n:=by
 unfold lU;rw[List.length_zipWith];omega
variable {cs:List iT}
theorem both_may {rows:List (List Rat)} {T:Nat} (hT:rows.length=T) (h6:T<=40) (hr:∀ r∈rows,r.length=cs.length) (hy:∀ k∈cs,k.1=6->1<=gR k.2):gV cs 0 (rows.map λr=>[r])=0/\cf cs 0 (rows.map λr=>[r])=fb cs rows:=by
 have hodd:cs.any nz=false:=by
  rw[<-wE];intro hh;obtain⟨x,hx,ho⟩:=kV.1 hh;unfold nz at ho;rw[jP,beq_iff_eq,beq_iff_eq] at ho;have:=hy x hx ho.1;omega
 have hl:(rows.map λr=>[r]).any (fW 0 cs.length)=false:=by
  rw[<-wE];intro hh;obtain⟨x,hx,ho⟩:=kV.1 hh;obtain⟨r,qj,rfl⟩:=eG.1 hx;unfold fW at ho;rw[Hq,RH,bne_iff_ne] at ho;rcases ho with ho|ho
  ·simp at ho
  ·exact ho (hr r qj)
 have hm:gV cs 0 (rows.map λr=>[r])=0:=by
  unfold gV;rw[if_neg (by rw[bJ];omega),if_neg ae,hl,if_neg cZ,hodd,if_neg cZ]
 refine⟨hm,?_⟩;unfold cf;rw[if_pos hm,pZ]
 congr 1
 induction rows with
 | nil=>rfl
 | cons r rs _=>simp[Function.comp_def]
set_option maxRecDepth 4000
theorem Js {P Q:Prop} (h:Q) (i:Q->P:=by intro h;(repeat first|refine wN ?_|refine wP rfl ?_|refine cxN_r rfl ?_|refine cxN_d rfl ?_|refine wO rfl rfl ?_);exact h):P:=i h
set_option maxRecDepth 4000 in
theorem vD (u v:Value) (a b:Int) (cs:List iT) (ts:List (List (List Rat))) (kk:Nat) (w:World) (hu:bh (fu kk) 6 w u cs) (hv:bh (gI kk) 1 w v ts):
  Calls Tryz.prog 50 #[u,.int .i64 a,.int .i64 b,v] w λo w'=>o=.returned (.bool true)/\aD w w':=by
 obtain⟨p,c,rfl,eS,gv⟩:=hu.form;obtain⟨p2,c2,rfl,CP,GW⟩:=hv.form;obtain⟨N,hN⟩:∃ N,N=cs.length:=⟨_,aa⟩;obtain⟨T,hT⟩:∃ T,T=ts.length:=⟨_,aa⟩;rw[<-hN] at hu eS;rw[<-hT] at hv CP;rw[<-hN,<-hT];refine ai (C:=zW Tryz.prog w _) (args:=[_,_,_,_]) Tryz.func50 aa Tryz.ntmps50 (bF aa) ?_;refine bD ?_;refine VO.call aa aa (fk Tryz.func112) (λaK bE aX=>(Jl _ _ cs ts kk w aK hu hv aX).mono ?_);rintro o w1 ⟨b1,rfl,hfew,aU⟩;cases b1 with
 | false=>
   refine ui aU ?_;intro cQ _ bb1;refine VO.cB aa aa (fk jH) (λbf cK bK=>cY bf) (λbf cK bK w2 bu dW _ bb2=>wV aa ?_);refine bD ?_;refine VS.ret (mM _ _) aa aa (λwz kz bz=> ?_);exact⟨aa,bz⟩
 | true=>
 obtain⟨OD,Wc,FO,Ld⟩:=hfew aa;rw[<-hN] at FO;rw[<-hT] at Ld;refine ui aU ?_;intro cQ _ bb1
 have hd:T*N<=128\/40<T:=by
  rcases Ld with h|h
  ·have:T*N<=6*12:=kD h FO;exact .inl ae
  ·exact .inr h.1
 refine VS.loop (J:=λm L M w'=>∃ z:Nat,z<=N/\m=N-z/\L=[(0,.val (.slice p N c)),(1,.val (.int .i64 a)),(2,.val (.int .i64 b)),(3,.val (.slice p2 T c2)),(9,.val (.int .i64 (z:Int)))]/\M=[]/\∀ k∈cs.take z,k.1≠5) N ⟨_,_,?_,?_,?_,?_,⟨0,ae,aa,aa,aa,λk hk=>(by simp at hk)⟩⟩ ?_
 ·exact di
 ·exact di
 ·rfl
 ·exact fv
 rintro m L M wJ ⟨z,hz,rfl,rfl,rfl,h5⟩;refine bD ?_;by_cases hlt:z<N
 ·obtain⟨k,iy⟩:∃ k,cs[z]? =some k:=⟨_,bj ae⟩;obtain⟨bC,oC,csC,rfl,hcC,⟨nm,sk,pk,nk,ck,tk,yk,mk,dk,rfl,rb,hkA⟩⟩:=OD.at iy;refine VS.aR aa (aw (aJ.2 hlt)) ?_;refine bD ?_;refine VO.cond aa eh ?_;refine wV aa ?_;refine bD ?_;refine VO.read aa [.int .u8 (k.1:Int)] aa (bc hcC 1 _ ⟨_,aa⟩) (wV aa ?_);refine bD ?_;by_cases h55:k.1=5
  ·refine VS.aR aa (BR (show (k.1:Int)=5 by omega)) ?_;refine bD ?_;refine VO.cB aa aa (fk jH) (λbf cK bK=>cY bf) (λbf cK bK w2 bu dW _ bb2=>wV aa ?_);refine bD ?_;refine VS.ret (mM _ _) aa aa (λwz kz bz=> ?_);exact⟨aa,bz⟩
  ·refine VS.aO aa (zj (show (k.1:Int)≠5 by omega)) ?_;refine bD ?_
   refine VS.back (N-(z+1)) ae ⟨_,_,?_,?_,?_,?_,⟨z+1,ae,aa,aa,aa,λk' WN=>by
    rw[aI iy] at WN;rcases mV.1 WN with h|h
    ·exact h5 k' h
    ·rw[ay.1 h];exact h55⟩⟩
   ·refine⟨aa,aa,aa,aa,?_,aj⟩;rw[<-aA (i:=z) ae];rfl
   ·exact di
   ·rfl
   ·exact fv
 refine VS.aO aa (az (λe=>hlt (aJ.1 e))) ?_;obtain rfl:z=N:=ae;rw[dM ae] at h5;refine bD ?_;refine VO.call aa aa (fk yc) (λbf cK bK=>(qJ _ _ a cs ts 4 bf (OD.bS (cW 4) bK) (Wc.iI (iB 4) bK) ae ae (by rw[<-hT,<-hN];exact hd)).mono ?_);rintro o w2 ⟨r2,rfl,q2,bu⟩;obtain⟨pa,ca,rfl⟩:=q2.form;refine ui bu ?_;intro dW _ bb2;refine VO.call aa aa (fk yc) (λcV dS ea=>(qJ _ _ b cs ts 4 cV (OD.bS (cW 4) ea) (Wc.iI (iB 4) ea) ae ae (by rw[<-hT,<-hN];exact hd)).mono ?_);rintro o w3 ⟨r3,rfl,q3,dH⟩;obtain⟨pb,cb,rfl⟩:=q3.form;refine ui dH ?_;intro eV _ bb3;by_cases ma:gV cs a ts≠0
 ·refine VO.fix 55 aa (ak (λb=>AV.val (.bool b)) (Fk ma)) ?_;refine bD ?_;refine VO.cB aa aa (fk jH) (λey eU fc=>cY ey) (λey eU fc w4 gj jc _ mw=>wV aa ?_);refine bD ?_;refine VS.ret (mM _ _) aa aa (λwz kz bz=> ?_);exact⟨aa,bz⟩
 replace ma:gV cs a ts=0:=Rx ma;refine VO.fix 55 aa (ak (λb=>AV.val (.bool b)) (qz ma)) ?_;refine bD ?_;by_cases mb:gV cs b ts≠0
 ·refine VS.aR aa (Fk mb) ?_;refine bD ?_;refine VO.cB aa aa (fk jH) (λey eU fc=>cY ey) (λey eU fc w4 gj jc _ mw=>wV aa ?_);refine bD ?_;refine VS.ret (mM _ _) aa aa (λwz kz bz=> ?_);exact⟨aa,bz⟩
 replace mb:gV cs b ts=0:=Rx mb;refine VS.aO aa (qz mb) ?_;obtain⟨VQ,hea,SZ,hyr⟩:=zv ma;obtain⟨-,heb,Ta,-⟩:=zv mb;obtain⟨A,rfl⟩:=tP hea;obtain⟨B,rfl⟩:=tP heb;simp only[Int.toNat_natCast] at SZ Ta;rw[<-hN] at SZ Ta;rw[<-hT] at VQ;replace Ld:T<=6:=Ld.resolve_right ae;obtain⟨xa,hxa⟩:∃ xa:List (List Rat),xa=ts.map (λt=>t.getD A []):=⟨_,aa⟩;obtain⟨xb,hxb⟩:∃ xb:List (List Rat),xb=ts.map (λt=>t.getD B []):=⟨_,aa⟩;have harA:cf cs (A:Int) ts=fb cs xa:=by rw[hxa];exact if_pos ma
 have harB:cf cs (B:Int) ts=fb cs xb:=by rw[hxb];exact if_pos mb
 have hxal:xa.length=T:=by rw[hxa,bJ,hT]
 have hxbl:xb.length=T:=by rw[hxb,bJ,hT]
 have haA:(fb cs xa).length=T:=by unfold fb;rw[bJ,Bb,hxal]
 have haB:(fb cs xb).length=T:=by unfold fb;rw[bJ,Bb,hxbl]
 have hga:∀ y t,ts[y]? =some t->xa.getD y []=t.getD A []:=λy t h=>by rw[hxa,fG,gT,h];rfl
 have hgb:∀ y t,ts[y]? =some t->xb.getD y []=t.getD B []:=λy t h=>by rw[hxb,fG,gT,h];rfl
 obtain⟨za,hza⟩:∃ za:List (List Rat),za=(List.range T).map (λy=>lU (xa.getD y []) (xb.getD y [])):=⟨_,aa⟩;have hzl:za.length=T:=by rw[hza,bJ,Bb]
 have hzg:∀ y,y<T->za[y]? =some (lU (xa.getD y []) (xb.getD y [])):=λy hy=>by rw[hza,gT,List.getElem?_range hy];rfl
 have hxla:∀ y,y<T->(xa.getD y []).length=cs.length:=λy hy=>by
  obtain⟨t,ht⟩:∃ t,ts[y]? =some t:=⟨_,bj ae⟩;rw[hga y t ht,(SZ t (dz ht)).2];exact hN
 have hxlb:∀ y,y<T->(xb.getD y []).length=cs.length:=λy hy=>by
  obtain⟨t,ht⟩:∃ t,ts[y]? =some t:=⟨_,bj ae⟩;rw[hgb y t ht,(Ta t (dz ht)).2];exact hN
 rw[harA,haA] at q2;rw[harB,haB] at q3;rw[harA,haA,harB,haB];refine VS.pK (λw=>zW Tryz.prog w 149) (λ_=>aa) (λ_=>aa) (λ_=>aD.refl _) (λw9 β k9 b9 en=> ?_);have Dg:aD w w9:=b9;have hu9:=OD.bS (cW 4) Dg;have hv9:bh (gI 4) 1 w9 (.slice p2 T c2) ts:=Wc.iI (iB 4) Dg;have qa9:=(q2.kp (bt AK) (show bg (zW Tryz.prog w 149).K w2 w9 from bm) aa).sl (bt AK);have qb9:=(q3.kp (bt AK) (show bg (zW Tryz.prog w 149).K w3 w9 from bm) aa).sl (bt AK);refine⟨[(0,.val (.slice p z c)),(1,.val (.int .i64 (A:Int))),(2,.val (.int .i64 (B:Int))),(3,.val (.slice p2 T c2)),(10,.val (.slice pa T ca)),(12,.val (.slice pb T cb))],⟨⟨_,_,aa,aa,aa⟩,⟨_,_,aa,aa,aa⟩,⟨_,_,aa,aa,aa⟩,⟨_,_,aa,aa,aa⟩,⟨_,_,aa,aa,aa⟩,⟨_,_,aa,aa,aa⟩,aj⟩,?_⟩;clear q2 q3 OD Wc hu hv;obtain⟨N,hNz⟩:∃ N,N=z:=⟨_,aa⟩;subst hNz;refine bD ?_
 refine VS.Jq (J:=λm L W=>∃ (y:Nat) (bv:Value) (gs:List Nat),y<=T/\m=T-y/\L=[(0,.slice p N c),(1,.int .i64 (A:Int)),(2,.int .i64 (B:Int)),(3,.slice p2 T c2),(10,.slice pa T ca),(12,.slice pb T cb),(14,bv),(15,.int .i64 (y:Int))]/\aD w9 W/\aP GE 1 52 w9.heap.size W bv gs/\gs.length=y/\∀ (i g:Nat),gs[i]? =some g->CR W g (lU (xa.getD i []) (xb.getD i [])))
  (λW=>zW Tryz.prog W 149) (λ_=>rfl) (λ_=>rfl) (λ_=>aD.refl _) T (λw' β k o en=>⟨[(0,.slice p N c),(1,.int .i64 (A:Int)),(2,.int .i64 (B:Int)),(3,.slice p2 T c2),(10,.slice pa T ca),(12,.slice pb T cb),(14,.slice none 0 0),(15,.int .i64 ((0:Nat):Int))],⟨⟨_,_,rfl,rfl,rfl⟩,⟨_,_,rfl,rfl,rfl⟩,⟨_,_,rfl,rfl,rfl⟩,⟨_,_,rfl,rfl,rfl⟩,⟨_,_,rfl,rfl,rfl⟩,⟨_,_,rfl,rfl,rfl⟩,⟨_,_,rfl,rfl,rfl⟩,⟨_,_,rfl,rfl,rfl⟩,aj⟩,0,_,[],ae,rfl,rfl,o,.inl ⟨rfl,rfl⟩,rfl,λi g hi=>(by simp at hi)⟩) ?_
 rintro m L W ⟨y,bv,gs,hy,rfl,rfl,Ce,hboth,Ig,Wi⟩;have hvW:bh (gI 4) 1 W (.slice p2 T c2) ts:=hv9.iI (iB 4) Ce;refine bD ?_;by_cases WU:y<T
 ·obtain⟨t,ht⟩:∃ t,ts[y]? =some t:=⟨_,bj ae⟩;obtain⟨bT,nN,csT,rfl,SX,⟨tv,rfl,BZ⟩⟩:=hvW.at ht;obtain⟨ha1,ha2⟩:=SZ t (dz ht);obtain⟨eR,hb2'⟩:=Ta t (dz ht);obtain⟨pt,ct,rfl⟩:=BZ.sl;obtain⟨xs,qW⟩:∃ xs,t[A]? =some xs:=⟨_,bj ha1⟩;obtain⟨ys,hys⟩:∃ ys,t[B]? =some ys:=⟨_,bj eR⟩;have hxa':xa.getD y []=xs:=by rw[hga y t ht,fG,qW];rfl
  have hxb':xb.getD y []=ys:=by rw[hgb y t ht,fG,hys];rfl
  have hxn:xs.length=N:=by rw[<-ha2,fG,qW];rfl
  have hyn:ys.length=N:=by rw[<-hb2',fG,hys];rfl
  have hsz:∀ (e:Nat) (l:List Rat),t[e]? =some l->∀ x∈l,dy x 4:=λe l hl x hx=>by
   obtain⟨_,_,_,_,_,⟨xv,rfl,hxl2⟩⟩:=BZ.at hl;obtain⟨_,⟨_,_,_,_,_,_,_,_,rfl,hq⟩⟩:=hxl2.mem hx;exact hq.sz ae
  refine VS.aR aa (aw (aJ.2 WU)) ?_;refine bD ?_;refine VS.loop (J:=λm L M w'=>∃ (z:Nat) (X:AV) (Mi:List (Nat×(TypeId×List AV))),z<=N/\m=N-z/\L=[(0,.val (.slice p N c)),(1,.val (.int .i64 (A:Int))),(2,.val (.int .i64 (B:Int))),(3,.val (.slice (some ⟨bT,nN,none⟩) T c2)),(10,.val (.slice pa T ca)),(12,.val (.slice pb T cb)),(14,.val bv),(15,.val (.int .i64 (y:Int))),(16,X),(17,.val (.int .i64 (z:Int)))]/\M=Mi/\eF (iJ 10) 4 27 89 X Mi w' ((lU xs ys).take z)) N ⟨_,_,?_,?_,?_,?_,⟨0,_,[],ae,aa,aa,aa,.inl ⟨aa,aa,aa⟩⟩⟩ ?_
  ·exact di
  ·exact di
  ·rfl
  ·exact fv
  rintro m L M wI ⟨z,X,Mi,hz,rfl,rfl,rfl,hI⟩;refine VS.now (λwX kN bN=> ?_);replace hI:=hI.kp (bV 10) (bg.fq kN);refine VS.mask [88] (by rcases hI with ⟨_,rfl,rfl⟩|⟨_,_,_,_,rfl,rfl,_⟩ <;> (repeat first|exact aj|refine⟨aa,?_⟩)) ?_;refine bD ?_;by_cases SW:z<N
  ·obtain⟨x,iy⟩:∃ x,xs[z]? =some x:=⟨_,bj ae⟩;obtain⟨x2,Az⟩:∃ x,ys[z]? =some x:=⟨_,bj ae⟩;have yW:=radd2_at iy Az;have Cp:=hsz A xs qW x (dz iy);have hs2:=hsz B ys hys x2 (dz Az);refine VS.aR aa (aw (aJ.2 SW)) ?_;refine bD ?_;refine VO.cond aa eh ?_;refine wV aa ?_;refine bD ?_;refine VO.read aa [.slice pt t.length ct] aa (cP SX) (wV aa ?_);refine bD ?_;refine VO.cR aa aa (fk Tryz.func30) (λjL my nV=>KB _ t xs x A z 4 jL (BZ.iI (pL 4) nV) qW iy ae) (λjL my nV w6 s6 p6 n6 c6 t6 y6 m6 d6 q6 oY sq _ xT=>wV aa ?_);refine bD ?_;refine VO.cond aa eh ?_;refine wV aa ?_;refine bD ?_;refine VO.read aa [.slice pt t.length ct] aa (cP SX) (wV aa ?_);refine bD ?_;refine VO.cR aa aa (fk Tryz.func30) (λpS uy rR=>KB _ t ys x2 B z 4 pS (BZ.iI (pL 4) rR) hys Az ae) (λpS uy rR w7 s7 p7 n7 c7 t7 y7 m7 d7 q7 ER Dv _ Qa=>wV aa ?_);refine bD ?_;refine VO.cR aa aa (fk mX) (λtd Cr xG=>eJ _ _ x x2 4 4 td (q6.ki Cp) (q7.ki hs2) ae ae) (λtd Cr xG w8 s8 p8 n8 c8 t8 y8 m8 d8 q8 Bz Cs _ Sw=>wV aa ?_);refine bD ?_;have iq:iJ 10 w8 [.bool s8,.slice p8 n8 c8,.bool t8,.slice y8 m8 d8] (x+x2):=.mk (q8.in ((Cp.add hs2).mono ae));rcases hI with ⟨dJ,rfl,rfl⟩|⟨n',c',vs,sp,rfl,rfl,iU⟩
   ·refine VO.jg (mM _ _) (bV 10) (t:=105) (e:=27) (s:=88) (a:=x+x2) (cs:=[.bool s8,.slice p8 n8 c8,.bool t8,.slice y8 m8 d8]) aa aa aa aa aa aa aa aa (bF aa) aa aa aa iq ae (λw9' cap sp k9' b9' gh=>wV aa ?_);refine bD ?_;refine VS.back (N-(z+1)) ae ⟨_,_,?_,?_,?_,?_,⟨z+1,_,_,ae,aa,aa,aa,.inr ⟨1,cap,_,sp,aa,aa,by rw[aI yW,dJ];exact gh⟩⟩⟩
    ·refine⟨aa,aa,aa,aa,aa,aa,aa,aa,aa,?_,aj⟩;rw[<-aA (i:=z) ae];rfl
    ·(repeat first|exact aj|refine⟨aa,?_⟩|refine⟨ak (λl=>some (_,l)) (ba (by first|exact bW.dN (by assumption)|exact ah _|(rw[<-aQ];exact ah _)) _ _),?_⟩)
    ·rfl
    ·(repeat first|exact aj|refine⟨aq.lit aa,?_⟩|refine⟨bW.mg (by assumption),?_⟩|refine⟨aq.append (.vals _) (.vals _),?_⟩|refine⟨aq.vals _,?_⟩)
   ·have nY:=iU.len;rw[cw] at nY;refine VO.jh (mM _ _) (bV 10) (t:=105) (e:=27) (s:=88) (i:=89) (n:=n') (c:=c') (vs:=vs) (sp:=sp) (es:=(lU xs ys).take z) (a:=x+x2) (cs:=[.bool s8,.slice p8 n8 c8,.bool t8,.slice y8 m8 d8]) aa aa aa aa aa aa aa aa (bF aa) aa (.inr aa) aa (iU.kp (bV 10) (bg.fq (show bg (zW Tryz.prog W 149).K wX w8 from bm))) aa iq ae (λw9' il qH ρ k9' b9' gH gh=>wV aa ?_);refine bD ?_;refine VS.back (N-(z+1)) ae ⟨_,_,?_,?_,?_,?_,⟨z+1,_,_,ae,aa,aa,aa,.inr ⟨n' +1,il,_,qH,aa,aa,by rw[aI yW];exact gh⟩⟩⟩
    ·refine⟨aa,aa,aa,aa,aa,aa,aa,aa,aa,?_,aj⟩;rw[<-aA (i:=z) ae];rfl
    ·(repeat first|exact aj|refine⟨aa,?_⟩|refine⟨ak (λl=>some (_,l)) (ba (by first|exact bW.dN (by assumption)|exact ah _|(rw[<-aQ];exact ah _)) _ _),?_⟩)
    ·rfl
    ·(repeat first|exact aj|refine⟨aq.lit aa,?_⟩|refine⟨bW.mg (by assumption),?_⟩|refine⟨aq.append (.vals _) (.vals _),?_⟩|refine⟨aq.vals _,?_⟩)
  refine VS.aO aa (az (λe=>SW (aJ.1 e))) ?_;obtain rfl:z=N:=ae;rw[dM (by rw[Jr hxn hyn];omega)] at hI;subst Ig;have hsz0:=Ce.size;refine VS.qM KN (λt=>(Nat.beq t 23 || Nat.beq t 50)) table (λ_ _ _=>trivial) (λjf yV k1 QP OS=> ?_);have eR:aD W jf:=QP;have hsz9:w9.heap.size<=jf.heap.size:=bG hsz0 eR.size;have fx:=hI.told (bV 10) OS (by intro q hq;rcases hI with ⟨_,rfl,rfl⟩|⟨_,_,_,_,rfl,rfl,_⟩ <;> first|(cases hq;done)|(cases ay.1 hq;rfl)) k1.fq 0 (λ_=>eK _);rcases hboth with ⟨rfl,rfl⟩|⟨g0,cB,KD,KE,rfl,hBg,zJ,FV,FX,QQ,QR,QS⟩
  ·have xM:jW KN 149 [] [] jf:=⟨aa,List.nodup_nil,λj g c hj=>(by simp at hj),λc hc=>(by cases hc),λc hc=>(by cases hc)⟩;refine⟨[],[],xM,[(0,.val (.slice p z c)),(1,.val (.int .i64 (A:Int))),(2,.val (.int .i64 (B:Int))),(3,.val (.slice (some ⟨bT,nN,none⟩) T c2)),(10,.val (.slice pa T ca)),(12,.val (.slice pb T cb)),(14,.val (.slice none 0 0)),(15,.val (.int .i64 (([]:List Nat).length:Int))),(16,.val (X.bH yV))],⟨⟨_,aa,aa,λi hi=>(by cases hi)⟩,⟨_,aa,aa,λi hi=>(by cases hi)⟩,⟨_,aa,aa,λi hi=>(by cases hi)⟩,⟨_,aa,aa,λi hi=>(by cases hi)⟩,⟨_,aa,aa,λi hi=>(by cases hi)⟩,⟨_,aa,aa,λi hi=>(by cases hi)⟩,⟨_,aa,aa,λi hi=>(by cases hi)⟩,⟨_,aa,aa,λi hi=>(by cases hi)⟩,⟨_,aa,aa,λi hi=>(by cases hi)⟩,aj⟩,?_⟩;generalize X.bH yV=vv at fx ⊢;obtain⟨pr,cr,rfl⟩:=fx.form;refine Js ?_;refine VO.litE (FU _ _) (sz:=1) [.slice pr (lU xs ys).length cr] [.slice pr (lU xs ys).length cr] aa aa aa aa aa aa aa aa aa aa eL (λFa g2 k12 b12 hB12 hc12=>wV aa ?_);refine Js ?_;refine VO.jg (FU _ _) Cc (t:=80) (e:=52) (s:=94) (a:=g2) (cs:=[.slice (some ⟨g2,0,none⟩) 1 1]) aa aa aa aa aa aa aa aa (bF aa) aa aa aa aa ae (λuz cap sp NS SV gh=>wV aa ?_);refine Js ?_;refine VS.vC aa (T-(([]:List Nat).length+1)) ae (λw' dQ k' o' Ha=> ?_);have qq:bg KN Fa w':=(show bg KN Fa uz from bm).aN k';have hkk0:bg KN jf w':=(show bg KN jf Fa from bm).aN qq;have hst:eF GE 1 52 95 (.row 95 0 (1) cap) [(95,(52,_))] uz ([g2]):=.inr ⟨_,cap,_,sp,aa,aa,gh⟩;have rO:=hst.told Cc Ha (λx hx=>by cases ay.1 hx;rfl) k'.fq w9.heap.size (λh=>(fO (show jz 149 [] jf 95 (dQ 95) from h)).elim (λq=>bG hsz9 q) (λq=>by cases q));refine⟨[(0,.slice p z c),(1,.int .i64 (A:Int)),(2,.int .i64 (B:Int)),(3,.slice (some ⟨bT,nN,none⟩) T c2),(10,.slice pa T ca),(12,.slice pb T cb),(14,.slice (some ⟨dQ 95,0,none⟩) (1) cap),(15,.int .i64 ((([]:List Nat).length+1:Nat):Int))],⟨⟨_,_,aa,aa,aa⟩,⟨_,_,aa,aa,aa⟩,⟨_,_,aa,aa,aa⟩,⟨_,_,aa,aa,aa⟩,⟨_,_,aa,aa,aa⟩,⟨_,_,aa,aa,aa⟩,⟨_,_,aa,aa,aa⟩,⟨_,_,aa,ak (λz=>Value.int .i64 z) (aA (i:=([]:List Nat).length) ae),aa⟩,aj⟩,([]:List Nat).length+1,_,[g2],ae,aa,aa,rj.bS (Ce.aN eR) o'.1 (λg hg=>by cases hg),rO,cZ,λi g hi=> ?_⟩
   match i,hi with
   | 0,hi=>
     cases hi;rw[show ([]:List Nat).length=0 from aa] at hxa' hxb';rw[hxa',hxb'];exact CR.kp ⟨_,hc12,fx.kp (bV 10) (show bg KN jf Fa from bm) aa⟩ qq aa aa
   | i+1,hi=>simp at hi
  ·have xM:jW KN 149 [g0] [(52,KD.flatten.map .val++KE.map .val)] jf:=by
    refine⟨aa,cZ,λj g' c' hj hc=> ?_,λc' hc=> ?_,λc' hc k hk=> ?_⟩
    ·match j,hj,hc with
     | 0,hj,hc=>cases hj;cases hc;rw[<-aQ,aV];exact zJ.bS eR
     | j+1,hj,_=>simp at hj
    ·cases ay.1 hc;exact⟨aa,by rw[<-aQ];exact dx (by rw[kW,(FV.ok Cc).1,FX];rfl)⟩
    ·cases ay.1 hc;rw[<-aQ,ah] at hk;cases hk
   have hNB:bW GE 1 jf gs.length cB KD (KE.map .val) gs:=⟨aa,FV.kp Cc (Kp.of (U:=UU) eR),dx FX,ah _,QQ,QR,by rw[<-aQ,bJ];exact QS⟩;refine⟨[g0],[(52,KD.flatten.map .val++KE.map .val)],xM,[(0,.val (.slice p z c)),(1,.val (.int .i64 (A:Int))),(2,.val (.int .i64 (B:Int))),(3,.val (.slice (some ⟨bT,nN,none⟩) T c2)),(10,.val (.slice pa T ca)),(12,.val (.slice pb T cb)),(14,.row 298 0 gs.length cB),(15,.val (.int .i64 (gs.length:Int))),(16,.val (X.bH yV))],⟨⟨_,aa,aa,λi hi=>(by cases hi)⟩,⟨_,aa,aa,λi hi=>(by cases hi)⟩,⟨_,aa,aa,λi hi=>(by cases hi)⟩,⟨_,aa,aa,λi hi=>(by cases hi)⟩,⟨_,aa,aa,λi hi=>(by cases hi)⟩,⟨_,aa,aa,λi hi=>(by cases hi)⟩,⟨_,aa,aa,λi hi=>by rw[(by simpa [AV.ids] using hi:i=298)];exact⟨(by show 298<=298;omega),(by show 298<2*149+1;omega)⟩⟩,⟨_,aa,aa,λi hi=>(by cases hi)⟩,⟨_,aa,aa,λi hi=>(by cases hi)⟩,aj⟩,?_⟩;generalize X.bH yV=vv at fx ⊢;obtain⟨pr,cr,rfl⟩:=fx.form;refine Js ?_;refine VO.litE (FU _ _) (sz:=1) [.slice pr (lU xs ys).length cr] [.slice pr (lU xs ys).length cr] aa aa aa aa aa aa aa aa aa aa eL (λFa g2 k12 b12 hB12 hc12=>wV aa ?_);refine Js ?_;refine VO.jh (FU _ _) Cc (t:=80) (e:=52) (s:=94) (i:=298) (n:=gs.length) (c:=cB) (vs:=KD) (sp:=KE.map .val) (es:=gs) (a:=g2) (cs:=[.slice (some ⟨g2,0,none⟩) 1 1]) aa aa aa aa aa aa aa aa (bF aa) aa (.inl aa) aa (hNB.kp Cc (bg.fq (show bg KN jf Fa from bm))) aa aa ae (λuz cap sp ρ NS SV gH gh=>wV aa ?_);refine Js ?_;refine VS.vC aa (T-(gs.length+1)) ae (λw' dQ k' o' Ha=> ?_);have qq:bg KN Fa w':=(show bg KN Fa uz from bm).aN k';have hkk0:bg KN jf w':=(show bg KN jf Fa from bm).aN qq;have hst:eF GE 1 52 95 (.row 95 0 (gs.length+1) cap) [(95,(52,_))] uz (gs++[g2]):=.inr ⟨_,cap,_,sp,aa,aa,gh⟩;have rO:=hst.told Cc Ha (λx hx=>by cases ay.1 hx;rfl) k'.fq w9.heap.size (λh=>(fO (show jz 149 [g0] jf 95 (dQ 95) from h)).elim (λq=>bG hsz9 q) (λq=>by rw[ay.1 q];exact hBg));refine⟨[(0,.slice p z c),(1,.int .i64 (A:Int)),(2,.int .i64 (B:Int)),(3,.slice (some ⟨bT,nN,none⟩) T c2),(10,.slice pa T ca),(12,.slice pb T cb),(14,.slice (some ⟨dQ 95,0,none⟩) (gs.length+1) cap),(15,.int .i64 ((gs.length+1:Nat):Int))],⟨⟨_,_,aa,aa,aa⟩,⟨_,_,aa,aa,aa⟩,⟨_,_,aa,aa,aa⟩,⟨_,_,aa,aa,aa⟩,⟨_,_,aa,aa,aa⟩,⟨_,_,aa,aa,aa⟩,⟨_,_,aa,aa,aa⟩,⟨_,_,aa,ak (λz=>Value.int .i64 z) (aA (i:=gs.length) ae),aa⟩,aj⟩,gs.length+1,_,gs++[g2],ae,aa,aa,rj.bS (Ce.aN eR) o'.1 (λg hg=>by rw[ay.1 hg];exact hBg),rO,cZ,λi g hi=> ?_⟩;by_cases hil:i<gs.length
   ·rw[jG hil] at hi;exact ((Wi i g hi).bS eR).kp hkk0 aa aa
   ·rw[tM ae] at hi;obtain⟨d,hd'⟩:∃ d,i=gs.length+d:=⟨i-gs.length,ae⟩;subst hd';rw[show gs.length+d-gs.length=d by omega] at hi
    match d,hi with
    | 0,hi=>
      cases hi;rw[nP,hxa',hxb'];exact CR.kp ⟨_,hc12,fx.kp (bV 10) (show bg KN jf Fa from bm) aa⟩ qq aa aa
    | d+1,hi=>simp at hi
 ·refine VS.aO aa (az (λe=>WU (aJ.1 e))) ?_;obtain rfl:y=T:=ae;have huW:bh (fu 10) 6 W (.slice p N c) cs:=(hu9.bS (cW 4) Ce).mono (λi a cs0 _ h=>h.up ae)
  have hbt:bh (gI 10) 1 W bv (za.map λr=>[r]):=Wh (hboth.sl Cc) ae (λi g r hi hr=>by
   have hiy:i<gs.length:=(cM.1 hi).1;rw[hzg i ae] at hr;cases hr;exact Wi i g hi)
  have hzr:∀ r∈za,r.length=cs.length:=λr hr=>by
   rw[hza] at hr;obtain⟨i,hi,rfl⟩:=eG.1 hr;have xu:=Bg.1 hi;exact Jr (hxla i xu) (hxlb i xu)
  obtain⟨hmz,harz⟩:=both_may (cs:=cs) hzl ae hzr hyr;have hazl:(fb cs za).length=y:=by unfold fb;rw[bJ,Bb,hzl]
  obtain⟨pbv,cbv,rfl⟩:=hboth.form;refine bD ?_;refine VO.call aa aa (fk yc) (λwa41 ka41 ba41=>(qJ _ _ 0 cs (za.map λr=>[r]) 10 wa41 (huW.bS (cW 10) ba41) (hbt.iI (iB 10) ba41) ae ae (.inl (by rw[bJ,hzl];exact bG (kD (show y<=6 by omega) (show cs.length<=12 by omega)) ae))).mono ?_);rintro o w41 ⟨r41,rfl,q41,hb41⟩;obtain⟨pz,cz,rfl⟩:=q41.form;rw[harz,hazl] at q41;rw[harz,hazl,hmz];refine ui hb41 ?_;intro kb41 _ bb41;refine VO.fix 111 aa (ak (λb=>AV.val (.bool b)) (qz aa)) ?_;refine bD ?_;refine VO.fix 118 aa (ak (λb=>AV.val (.bool b)) (qz aa)) ?_;refine bD ?_;refine VS.aO aa (qz aa) ?_;refine VS.pK (λw=>bd Tryz.prog w 149) (λ_=>aa) (λ_=>aa) (λ_=>aD.refl _) (λw20 β2 k20 b20 en2=> ?_);have NX:aD w9 w20:=Ce.aN b20;have qA:=qa9.bS (bt AK) NX;have qB:=qb9.bS (bt AK) NX;have qZ:=(q41.kp (bt AK) (show bg (zW Tryz.prog W 149).K w41 w20 from bm) aa).sl (bt AK);refine⟨[(10,.val (.slice pa y ca)),(12,.val (.slice pb y cb)),(18,.val (.slice pz y cz))],⟨⟨_,_,aa,aa,aa⟩,⟨_,_,aa,aa,aa⟩,⟨_,_,aa,aa,aa⟩,aj⟩,?_⟩;clear qa9 qb9 q41 hu9 hv9 huW hbt;refine af ?_;refine VS.loop (J:=λm L M w'=>∃ z:Nat,z<=y/\m=y-z/\L=[(10,.val (.slice pa y ca)),(12,.val (.slice pb y cb)),(18,.val (.slice pz y cz)),(20,.val (.int .i64 (z:Int)))]/\M=[]) y ⟨_,_,?_,?_,?_,?_,⟨0,ae,aa,aa,aa⟩⟩ ?_
  ·exact di
  ·exact di
  ·rfl
  ·exact fv
  rintro m L M wL ⟨z,hz,rfl,rfl,rfl⟩;refine af ?_;by_cases hzk:z<y
  ·have hrA:=jX (cs:=cs) (xss:=xa) (y:=z) ae;have hrB:=jX (cs:=cs) (xss:=xb) (y:=z) ae;have hrZ:=jX (cs:=cs) (xss:=za) (y:=z) ae;have hlin:gu cs za z=(gu cs xa z).add (gu cs xb z):=arow_lin h5 z (λi hi=>⟨by rw[fG,hzg i ae];rfl,hxla i ae,hxlb i ae⟩);obtain⟨bA,offA,csA,rfl,hcA,⟨_,_,_,_,_,_,_,rfl,⟨slA,plA,nlA,clA,tlA,ylA,mlA,dlA,rfl,glA⟩,⟨slB,plB,nlB,clB,tlB,ylB,mlB,dlB,rfl,glB⟩,⟨slC,plC,nlC,clC,tlC,ylC,mlC,dlC,rfl,glC⟩,⟨slD,plD,nlD,clD,tlD,ylD,mlD,dlD,rfl,glD⟩,⟨slE,plE,nlE,clE,tlE,ylE,mlE,dlE,rfl,glE⟩,⟨slF,plF,nlF,clF,tlF,ylF,mlF,dlF,rfl,glF⟩,⟨slG,plG,nlG,clG,tlG,ylG,mlG,dlG,rfl,glG⟩⟩⟩:=qA.at hrA;obtain⟨bB,offB,csB,rfl,hcB,⟨_,_,_,_,_,_,_,rfl,⟨sqA,pqA,nqA,cqA,tqA,yqA,mqA,dqA,rfl,gqA⟩,⟨sqB,pqB,nqB,cqB,tqB,yqB,mqB,dqB,rfl,gqB⟩,⟨sqC,pqC,nqC,cqC,tqC,yqC,mqC,dqC,rfl,gqC⟩,⟨sqD,pqD,nqD,cqD,tqD,yqD,mqD,dqD,rfl,gqD⟩,⟨sqE,pqE,nqE,cqE,tqE,yqE,mqE,dqE,rfl,gqE⟩,⟨sqF,pqF,nqF,cqF,tqF,yqF,mqF,dqF,rfl,gqF⟩,⟨sqG,pqG,nqG,cqG,tqG,yqG,mqG,dqG,rfl,gqG⟩⟩⟩:=qB.at hrB;obtain⟨bZ,offZ,csZ,rfl,hcZ,⟨_,_,_,_,_,_,_,rfl,⟨szA,pzA,nzA,czA,tzA,yzA,mzA,dzA,rfl,gzA⟩,⟨szB,pzB,nzB,czB,tzB,yzB,mzB,dzB,rfl,gzB⟩,⟨szC,pzC,nzC,czC,tzC,yzC,mzC,dzC,rfl,gzC⟩,⟨szD,pzD,nzD,czD,tzD,yzD,mzD,dzD,rfl,gzD⟩,⟨szE,pzE,nzE,czE,tzE,yzE,mzE,dzE,rfl,gzE⟩,⟨szF,pzF,nzF,czF,tzF,yzF,mzF,dzF,rfl,gzF⟩,⟨szG,pzG,nzG,czG,tzG,yzG,mzG,dzG,rfl,gzG⟩⟩⟩:=qZ.at hrZ;refine VS.aR aa (aw (aJ.2 hzk)) ?_;refine af ?_;refine VO.cond aa eh ?_;refine wV aa ?_;refine af ?_;refine VO.read aa [.bool slA,.slice plA nlA clA,.bool tlA,.slice ylA mlA dlA,.bool slB,.slice plB nlB clB,.bool tlB,.slice ylB mlB dlB,.bool slC,.slice plC nlC clC,.bool tlC,.slice ylC mlC dlC,.bool slD,.slice plD nlD clD,.bool tlD,.slice ylD mlD dlD,.bool slE,.slice plE nlE clE,.bool tlE,.slice ylE mlE dlE,.bool slF,.slice plF nlF clF,.bool tlF,.slice ylF mlF dlF,.bool slG,.slice plG nlG clG,.bool tlG,.slice ylG mlG dlG] aa (bc hcA 0 _ ⟨[],aa⟩) (wV aa ?_);refine af ?_;refine VO.cond aa eh ?_;refine wV aa ?_;refine af ?_;refine VO.read aa [.bool sqA,.slice pqA nqA cqA,.bool tqA,.slice yqA mqA dqA,.bool sqB,.slice pqB nqB cqB,.bool tqB,.slice yqB mqB dqB,.bool sqC,.slice pqC nqC cqC,.bool tqC,.slice yqC mqC dqC,.bool sqD,.slice pqD nqD cqD,.bool tqD,.slice yqD mqD dqD,.bool sqE,.slice pqE nqE cqE,.bool tqE,.slice yqE mqE dqE,.bool sqF,.slice pqF nqF cqF,.bool tqF,.slice yqF mqF dqF,.bool sqG,.slice pqG nqG cqG,.bool tqG,.slice yqG mqG dqG] aa (bc hcB 0 _ ⟨[],aa⟩) (wV aa ?_);refine af ?_;refine VO.eX aa (fk Tryz.func123) (λwa50 β50 ka50 ba50 ho=>(NW _ [gu cs xa z,gu cs xb z] AK wa50 (fU (re AK) (ho.own 139 (.base (ay.2 aa)) _ _ aa) [] (vs:=[[.bool slA,.slice plA nlA clA,.bool tlA,.slice ylA mlA dlA,.bool slB,.slice plB nlB clB,.bool tlB,.slice ylB mlB dlB,.bool slC,.slice plC nlC clC,.bool tlC,.slice ylC mlC dlC,.bool slD,.slice plD nlD clD,.bool tlD,.slice ylD mlD dlD,.bool slE,.slice plE nlE clE,.bool tlE,.slice ylE mlE dlE,.bool slF,.slice plF nlF clF,.bool tlF,.slice ylF mlF dlF,.bool slG,.slice plG nlG clG,.bool tlG,.slice ylG mlG dlG],[.bool sqA,.slice pqA nqA cqA,.bool tqA,.slice yqA mqA dqA,.bool sqB,.slice pqB nqB cqB,.bool tqB,.slice yqB mqB dqB,.bool sqC,.slice pqC nqC cqC,.bool tqC,.slice yqC mqC dqC,.bool sqD,.slice pqD nqD cqD,.bool tqD,.slice yqD mqD dqD,.bool sqE,.slice pqE nqE cqE,.bool tqE,.slice yqE mqE dqE,.bool sqF,.slice pqF nqF cqF,.bool tqF,.slice yqF mqF dqF,.bool sqG,.slice pqG nqG cqG,.bool tqG,.slice yqG mqG dqG]]) (by rfl) (.cons ((re AK).b (fC.in ⟨_,_,_,_,_,_,_,aa,.mk glA.1 glA.2,.mk glB.1 glB.2,.mk glC.1 glC.2,.mk glD.1 glD.2,.mk glE.1 glE.2,.mk glF.1 glF.2,.mk glG.1 glG.2⟩) ba50) (.cons ((re AK).b (fC.in ⟨_,_,_,_,_,_,_,aa,.mk gqA.1 gqA.2,.mk gqB.1 gqB.2,.mk gqC.1 gqC.2,.mk gqD.1 gqD.2,.mk gqE.1 gqE.2,.mk gqF.1 gqF.2,.mk gqG.1 gqG.2⟩) ba50) .nil)) aa (bl _) (show (2:Nat)<=9223372036854775807 by omega)) (by unfold AK;omega) (by unfold AK;omega) (show (2:Nat)<=8 by omega)).mono ?_);rintro o w50 ⟨r50,rfl,q50,hb50⟩;rw[asum_two,<-hlin] at q50;obtain⟨_,rfl,⟨_,_,_,_,_,_,_,rfl,⟨ssA,psA,nsA,csA,tsA,ysA,msA,dsA,rfl,gsA⟩,⟨ssB,psB,nsB,csB,tsB,ysB,msB,dsB,rfl,gsB⟩,⟨ssC,psC,nsC,csC,tsC,ysC,msC,dsC,rfl,gsC⟩,⟨ssD,psD,nsD,csD,tsD,ysD,msD,dsD,rfl,gsD⟩,⟨ssE,psE,nsE,csE,tsE,ysE,msE,dsE,rfl,gsE⟩,⟨ssF,psF,nsF,csF,tsF,ysF,msF,dsF,rfl,gsF⟩,⟨ssG,psG,nsG,csG,tsG,ysG,msG,dsG,rfl,gsG⟩⟩⟩:=q50;refine aL hb50 ?_;intro kb50 _ bb50;refine VO.cond aa eh ?_;refine wV aa ?_;refine af ?_;refine VO.read aa [.bool szA,.slice pzA nzA czA,.bool tzA,.slice yzA mzA dzA,.bool szB,.slice pzB nzB czB,.bool tzB,.slice yzB mzB dzB,.bool szC,.slice pzC nzC czC,.bool tzC,.slice yzC mzC dzC,.bool szD,.slice pzD nzD czD,.bool tzD,.slice yzD mzD dzD,.bool szE,.slice pzE nzE czE,.bool tzE,.slice yzE mzE dzE,.bool szF,.slice pzF nzF czF,.bool tzF,.slice yzF mzF dzF,.bool szG,.slice pzG nzG czG,.bool tzG,.slice yzG mzG dzG] aa (bc hcZ 0 _ ⟨[],aa⟩) (wV aa ?_);refine af ?_;refine VO.call aa aa (fk Tryz.func122) (λwa51 ka51 ba51=>(FP [.bool szA,.slice pzA nzA czA,.bool tzA,.slice yzA mzA dzA,.bool szB,.slice pzB nzB czB,.bool tzB,.slice yzB mzB dzB,.bool szC,.slice pzC nzC czC,.bool tzC,.slice yzC mzC dzC,.bool szD,.slice pzD nzD czD,.bool tzD,.slice yzD mzD dzD,.bool szE,.slice pzE nzE czE,.bool tzE,.slice yzE mzE dzE,.bool szF,.slice pzF nzF czF,.bool tzF,.slice yzF mzF dzF,.bool szG,.slice pzG nzG czG,.bool tzG,.slice yzG mzG dzG] (gu cs za z) AK wa51 ((bt AK).b ⟨_,_,_,_,_,_,_,aa,.mk gzA.1 gzA.2,.mk gzB.1 gzB.2,.mk gzC.1 gzC.2,.mk gzD.1 gzD.2,.mk gzE.1 gzE.2,.mk gzF.1 gzF.2,.mk gzG.1 gzG.2⟩ ba51) (by unfold AK;omega)).mono ?_);rintro o w51 ⟨ds,rfl,q51,hb51⟩;obtain⟨_,_,_,_,_,_,_,rfl,⟨svA,pvA,nvA,cvA,tvA,yvA,mvA,dvA,rfl,gvA⟩,⟨svB,pvB,nvB,cvB,tvB,yvB,mvB,dvB,rfl,gvB⟩,⟨svC,pvC,nvC,cvC,tvC,yvC,mvC,dvC,rfl,gvC⟩,⟨svD,pvD,nvD,cvD,tvD,yvD,mvD,dvD,rfl,gvD⟩,⟨svE,pvE,nvE,cvE,tvE,yvE,mvE,dvE,rfl,gvE⟩,⟨svF,pvF,nvF,cvF,tvF,yvF,mvF,dvF,rfl,gvF⟩,⟨svG,pvG,nvG,cvG,tvG,yvG,mvG,dvG,rfl,gvG⟩⟩:=q51;refine aL hb51 ?_;intro kb51 _ bb51;refine VO.cB aa aa (fk Tryz.func121) (λwa52 ka52 ba52=>zz _ _ (gu cs za z) _ AK wa52 ⟨_,aa,⟨_,_,_,_,_,_,_,aa,.mk gsA.1.k gsA.2,.mk gsB.1.k gsB.2,.mk gsC.1.k gsC.2,.mk gsD.1.k gsD.2,.mk gsE.1.k gsE.2,.mk gsF.1.k gsF.2,.mk gsG.1.k gsG.2⟩⟩ ⟨_,aa,⟨_,_,_,_,_,_,_,aa,.mk gvA.1.k gvA.2,.mk gvB.1.k gvB.2,.mk gvC.1.k gvC.2,.mk gvD.1.k gvD.2,.mk gvE.1.k gvE.2,.mk gvF.1.k gvF.2,.mk gvG.1.k gvG.2⟩⟩) (λwa52 ka52 ba52 w52 hb52 kb52 _ bb52=>wV aa ?_);refine af ?_;refine VS.back (y-(z+1)) ae ⟨_,_,?_,?_,?_,?_,⟨z+1,ae,aa,aa,aa⟩⟩
   ·refine⟨aa,aa,aa,?_,aj⟩;rw[<-aA (i:=z) ae];rfl
   ·exact di
   ·rfl
   ·exact fv
  ·refine VS.aO aa (az (λe=>hzk (aJ.1 e))) ?_;refine af ?_;refine VO.cB aa aa (fk jH) (λwa60 ka60 ba60=>cY wa60) (λwa60 ka60 ba60 w60 hb60 kb60 _ bb60=>wV aa ?_);refine af ?_;refine aC ?_;intro wz kz bz;exact⟨aa,(Dg.aN NX).aN bz⟩
set_option maxRecDepth 4000
set_option maxRecDepth 4000 in
theorem Hb (v:Value) (cs:List iT) (kk:Nat) (w:World) (hv:bh (fu kk) 6 w v cs) (hk:kk<=1000000) (hn:cs.length<=1000000):
  Calls Tryz.prog 113 #[v] w λo w'=>∃ r,o=.returned r/\aP (fu kk) 6 67 w.heap.size w' r cs/\aD w w':=by
 obtain⟨p,c,rfl,eS,gv⟩:=hv.form;obtain⟨N,hN⟩:∃ N,N=cs.length:=⟨_,aa⟩;rw[<-hN] at hv eS hn;rw[<-hN];refine ai (C:=bd Tryz.prog w _) (args:=[_]) Tryz.func113 aa Tryz.ntmps113 (bF aa) ?_;refine af ?_;refine VS.loop (J:=λm L M w'=>∃ (z:Nat) (X:AV) (Mi:List (Nat×(TypeId×List AV))),z<=N/\m=N-z/\L=[(0,.val (.slice p N c)),(3,X),(4,.val (.int .i64 (z:Int)))]/\M=Mi/\eF (fu kk) 6 67 30 X Mi w' (cs.take z)) N ⟨_,_,?_,?_,?_,?_,⟨0,_,[],ae,aa,aa,aa,.inl ⟨aa,aa,aa⟩⟩⟩ ?_
 ·exact di
 ·exact di
 ·rfl
 ·exact fv
 rintro m L M wJ ⟨z,X,Mi,hz,rfl,rfl,rfl,hR⟩;refine VS.mask [29] (by rcases hR with ⟨_,rfl,rfl⟩|⟨_,_,_,_,rfl,rfl,_⟩ <;> (repeat first|exact aj|refine⟨aa,?_⟩)) ?_;refine af ?_;by_cases hlt:z<N
 ·obtain⟨k,hx⟩:∃ k,cs[z]? =some k:=⟨_,bj ae⟩;obtain⟨b,off,jU,rfl,hc,⟨nm,s0,p0,n0,c0,t0,y0,m0,d0,rfl,rb,lV⟩⟩:=hv.at hx;refine VS.aR aa (aw (aJ.2 hlt)) ?_;refine af ?_;refine VO.cond aa eh ?_;refine wV aa ?_;refine af ?_;refine VO.read aa [.string nm] aa (bc hc 0 _ ⟨_,aa⟩) (wV aa ?_);refine af ?_;refine VO.cond aa eh ?_;refine wV aa ?_;refine af ?_;refine VO.read aa [.int .u8 (k.1:Int)] aa (bc hc 1 _ ⟨_,aa⟩) (wV aa ?_);refine af ?_;refine VO.cond aa eh ?_;refine wV aa ?_;refine af ?_;refine VO.read aa [.bool s0,.slice p0 n0 c0,.bool t0,.slice y0 m0 d0] aa (bc hc 2 _ ⟨[],aa⟩) (wV aa ?_);refine af ?_;refine VO.cR aa aa (fk mY) (λaK bE aX=>iK _ k.2 kk aK (lV.kp (Kp.of (U:=UU) aX)) ae) (λaK bE aX w1 s1 p1 n1 c1 t1 y1 m1 d1 q1 aU cQ _ bb1=>wV aa ?_);refine af ?_;have iq:fu kk w1 [.string nm,.int .u8 (k.1:Int),.bool s1,.slice p1 n1 c1,.bool t1,.slice y1 m1 d1] k:=.mk rb q1.k;rcases hR with ⟨dJ,rfl,rfl⟩|⟨n',c',vs,sp,rfl,rfl,iU⟩
  ·refine VO.jg (cS _ _) (cW kk) (t:=39) (e:=67) (s:=29) (a:=k) (cs:=[.string nm,.int .u8 (k.1:Int),.bool s1,.slice p1 n1 c1,.bool t1,.slice y1 m1 d1]) aa aa aa aa aa aa aa aa (bF aa) aa aa aa iq ae (λw9 cap sp k9 b9 gh=>wV aa ?_);refine af ?_;refine VS.back (N-(z+1)) ae ⟨_,_,?_,?_,?_,?_,⟨z+1,_,_,ae,aa,aa,aa,.inr ⟨1,cap,_,sp,aa,aa,by rw[aI hx,dJ];exact gh⟩⟩⟩
   ·refine⟨aa,aa,?_,aj⟩;rw[<-aA (i:=z) ae];rfl
   ·(repeat first|exact aj|refine⟨aa,?_⟩|refine⟨ak (λl=>some (_,l)) (ba (by first|exact bW.dN (by assumption)|exact ah _|(rw[<-aQ];exact ah _)) _ _),?_⟩)
   ·rfl
   ·(repeat first|exact aj|refine⟨aq.lit aa,?_⟩|refine⟨bW.mg (by assumption),?_⟩|refine⟨aq.append (.vals _) (.vals _),?_⟩|refine⟨aq.vals _,?_⟩)
  ·have nY:=iU.len;rw[cw] at nY;refine VO.jh (cS _ _) (cW kk) (t:=39) (e:=67) (s:=29) (i:=30) (n:=n') (c:=c') (vs:=vs) (sp:=sp) (es:=cs.take z) (a:=k) (cs:=[.string nm,.int .u8 (k.1:Int),.bool s1,.slice p1 n1 c1,.bool t1,.slice y1 m1 d1]) aa aa aa aa aa aa aa aa (bF aa) aa (.inr aa) aa (iU.kp (cW kk) bm) aa iq ae (λw9 il qH ρ k9 b9 gH gh=>wV aa ?_);refine af ?_;refine VS.back (N-(z+1)) ae ⟨_,_,?_,?_,?_,?_,⟨z+1,_,_,ae,aa,aa,aa,.inr ⟨n' +1,il,_,qH,aa,aa,by rw[aI hx];exact gh⟩⟩⟩
   ·refine⟨aa,aa,?_,aj⟩;rw[<-aA (i:=z) ae];rfl
   ·(repeat first|exact aj|refine⟨aa,?_⟩|refine⟨ak (λl=>some (_,l)) (ba (by first|exact bW.dN (by assumption)|exact ah _|(rw[<-aQ];exact ah _)) _ _),?_⟩)
   ·rfl
   ·(repeat first|exact aj|refine⟨aq.lit aa,?_⟩|refine⟨bW.mg (by assumption),?_⟩|refine⟨aq.append (.vals _) (.vals _),?_⟩|refine⟨aq.vals _,?_⟩)
 ·refine VS.aO aa (az (λe=>hlt (aJ.1 e))) ?_;obtain rfl:z=N:=ae;rw[dM ae] at hR;rcases hR with ⟨dJ,rfl,rfl⟩|⟨n',c',vs,sp,rfl,rfl,iU⟩
  ·refine af ?_;refine aC ?_;intro wz kz bz;exact⟨_,aa,.inl ⟨aa,dJ⟩,bz⟩
  ·refine af ?_;refine VS.lJ (cS _ _) aa (λwz β kz bz en=> ?_);exact⟨_,aa,iU.new (cW kk) (en.own 30 _ _ aa) kz,bz⟩
set_option maxRecDepth 4000 in
theorem FY (v u:Value) (l:List ik) (j k:Nat) (w:World) (hv:bh (fC j) 28 w v l) (hu:bh (fC k) 28 w u l):
  Calls Tryz.prog 119 #[v,u] w λo w'=>o=.returned (.bool true)/\aD w w':=by
 obtain⟨p,c,rfl,eS,gv⟩:=hv.form;obtain⟨p',c',rfl,hnc',hcm'⟩:=hu.form;obtain⟨N,hN⟩:∃ N,N=l.length:=⟨_,aa⟩;rw[<-hN] at hv eS hu hnc' ⊢;refine ai (C:=bd Tryz.prog w _) (args:=[_,_]) Tryz.func119 aa Tryz.ntmps119 (bF aa) ?_;refine af ?_;refine VS.aO aa cZ ?_;refine af ?_;refine VS.loop (J:=λm L M w'=>∃ z:Nat,z<=N/\m=N-z/\L=[(0,.val (.slice p N c)),(1,.val (.slice p' N c')),(5,.val (.int .i64 (z:Int)))]/\M=[]) N ⟨_,_,?_,?_,?_,?_,⟨0,ae,aa,aa,aa⟩⟩ ?_
 ·exact di
 ·exact di
 ·rfl
 ·exact fv
 rintro m L M wJ ⟨z,hz,rfl,rfl,rfl⟩;refine af ?_;by_cases hlt:z<N
 ·obtain⟨x,hx⟩:∃ x,l[z]? =some x:=⟨_,bj ae⟩;obtain⟨bA,offA,csA,rfl,hcA,⟨_,_,_,_,_,_,_,rfl,⟨slA,plA,nlA,clA,tlA,ylA,mlA,dlA,rfl,glA⟩,⟨slB,plB,nlB,clB,tlB,ylB,mlB,dlB,rfl,glB⟩,⟨slC,plC,nlC,clC,tlC,ylC,mlC,dlC,rfl,glC⟩,⟨slD,plD,nlD,clD,tlD,ylD,mlD,dlD,rfl,glD⟩,⟨slE,plE,nlE,clE,tlE,ylE,mlE,dlE,rfl,glE⟩,⟨slF,plF,nlF,clF,tlF,ylF,mlF,dlF,rfl,glF⟩,⟨slG,plG,nlG,clG,tlG,ylG,mlG,dlG,rfl,glG⟩⟩⟩:=hv.at hx;obtain⟨bB,offB,csB,rfl,hcB,⟨_,_,_,_,_,_,_,rfl,⟨sqA,pqA,nqA,cqA,tqA,yqA,mqA,dqA,rfl,gqA⟩,⟨sqB,pqB,nqB,cqB,tqB,yqB,mqB,dqB,rfl,gqB⟩,⟨sqC,pqC,nqC,cqC,tqC,yqC,mqC,dqC,rfl,gqC⟩,⟨sqD,pqD,nqD,cqD,tqD,yqD,mqD,dqD,rfl,gqD⟩,⟨sqE,pqE,nqE,cqE,tqE,yqE,mqE,dqE,rfl,gqE⟩,⟨sqF,pqF,nqF,cqF,tqF,yqF,mqF,dqF,rfl,gqF⟩,⟨sqG,pqG,nqG,cqG,tqG,yqG,mqG,dqG,rfl,gqG⟩⟩⟩:=hu.at hx;refine VS.aR aa (aw (aJ.2 hlt)) ?_;refine af ?_;refine VO.cond aa eh ?_;refine wV aa ?_;refine af ?_;refine VO.read aa [.bool slA,.slice plA nlA clA,.bool tlA,.slice ylA mlA dlA,.bool slB,.slice plB nlB clB,.bool tlB,.slice ylB mlB dlB,.bool slC,.slice plC nlC clC,.bool tlC,.slice ylC mlC dlC,.bool slD,.slice plD nlD clD,.bool tlD,.slice ylD mlD dlD,.bool slE,.slice plE nlE clE,.bool tlE,.slice ylE mlE dlE,.bool slF,.slice plF nlF clF,.bool tlF,.slice ylF mlF dlF,.bool slG,.slice plG nlG clG,.bool tlG,.slice ylG mlG dlG] aa (bc hcA 0 _ ⟨[],aa⟩) (wV aa ?_);refine af ?_;refine VO.cond aa eh ?_;refine wV aa ?_;refine af ?_;refine VO.read aa [.bool sqA,.slice pqA nqA cqA,.bool tqA,.slice yqA mqA dqA,.bool sqB,.slice pqB nqB cqB,.bool tqB,.slice yqB mqB dqB,.bool sqC,.slice pqC nqC cqC,.bool tqC,.slice yqC mqC dqC,.bool sqD,.slice pqD nqD cqD,.bool tqD,.slice yqD mqD dqD,.bool sqE,.slice pqE nqE cqE,.bool tqE,.slice yqE mqE dqE,.bool sqF,.slice pqF nqF cqF,.bool tqF,.slice yqF mqF dqF,.bool sqG,.slice pqG nqG cqG,.bool tqG,.slice yqG mqG dqG] aa (bc hcB 0 _ ⟨[],aa⟩) (wV aa ?_);refine af ?_;refine VO.cB aa aa (fk Tryz.func121) (λaK bE aX=>zz _ _ x _ _ aK ⟨_,aa,(bt j).b ⟨_,_,_,_,_,_,_,aa,.mk glA.1 glA.2,.mk glB.1 glB.2,.mk glC.1 glC.2,.mk glD.1 glD.2,.mk glE.1 glE.2,.mk glF.1 glF.2,.mk glG.1 glG.2⟩ aX⟩ ⟨_,aa,(bt k).b ⟨_,_,_,_,_,_,_,aa,.mk gqA.1 gqA.2,.mk gqB.1 gqB.2,.mk gqC.1 gqC.2,.mk gqD.1 gqD.2,.mk gqE.1 gqE.2,.mk gqF.1 gqF.2,.mk gqG.1 gqG.2⟩ aX⟩) (λaK bE aX w1 aU cQ _ bb1=>wV aa ?_);refine af ?_;refine VS.back (N-(z+1)) ae ⟨_,_,?_,?_,?_,?_,⟨z+1,ae,aa,aa,aa⟩⟩
  ·refine⟨aa,aa,?_,aj⟩;rw[<-aA (i:=z) ae];rfl
  ·exact di
  ·rfl
  ·exact fv
 ·refine VS.aO aa (az (λe=>hlt (aJ.1 e))) ?_;refine af ?_;refine aC ?_;intro wz kz bz;exact⟨aa,bz⟩
set_option maxRecDepth 4000 in
theorem Jt (v:Value) (t:List (List Rat)) (xs:List Rat) (x:Rat) (e c:Nat) (kk:Nat) (w:World) (hv:bh (lR kk) 1 w v t) (hx:t[e]? =some xs) (hc:xs[c]? =some x) (hk:kk<=1000):
  Calls Tryz.prog 31 #[.agg #[v],.int .i64 (e:Int),.int .i64 (c:Int)] w λo w'=>∃ r,o=.returned r/\bq w' r x/\aD w w':=by
 obtain⟨p,cp,rfl⟩:=hv.sl;have iq:e<t.length:=(cM.1 hx).1;have kP:c<xs.length:=(cM.1 hc).1;obtain⟨b,off,csx,rfl,hcc,⟨xv,rfl,qW⟩⟩:=hv.at hx
 obtain⟨b2,GU,csx2,hp3,pR,⟨s,pp,n,cx,tt,y,mm,d,rfl,hrt⟩⟩:∃ b off cs,xv=.slice (some ⟨b,off,none⟩) xs.length (match xv with | .slice _ _ c=>c|_=>0)/\(∀ (j:Nat) (u:Value),cs[j]? =some u->w.cell? ⟨b,off+c*4+j,none⟩=some u)/\iJ kk w cs x:=by
  obtain⟨p3,c3,rfl⟩:=qW.sl;obtain⟨b2,GU,cs2,rfl,h1,h2⟩:=qW.at hc;exact⟨b2,GU,cs2,aa,h1,h2⟩
 rw[hp3] at hcc;generalize (match xv with | .slice _ _ c=>c|_=>0)=c3 at hcc hp3;refine ai (C:=bd Tryz.prog w _) (args:=[_,_,_]) Tryz.func31 aa Tryz.ntmps31 (bF aa) ?_;refine af ?_;refine VO.fix 9 aa (ak (λb=>AV.val (.bool b)) (az (show ¬ (e:Int)<0 by omega))) ?_;refine af ?_;refine VO.fix 16 aa (ak (λb=>AV.val (.bool b)) (az (show ¬ (e:Int)>=(t.length:Int) by omega))) ?_;refine af ?_;refine VO.fix 20 aa (ak (λb=>AV.val (.bool b)) (az (show ¬ (c:Int)<0 by omega))) ?_;refine af ?_;refine VO.cond aa eh (wV aa ?_);refine VO.read aa [.slice (some ⟨b2,GU,none⟩) xs.length c3] aa (cP hcc) (wV aa ?_);refine af ?_;refine VS.aO aa (az (show ¬ (c:Int)>=(xs.length:Int) by omega)) ?_;refine af ?_;refine VO.cond aa eh (wV aa ?_);refine VO.read aa [.slice (some ⟨b2,GU,none⟩) xs.length c3] aa (cP hcc) (wV aa ?_);refine af ?_;refine VO.cond aa eh (wV aa ?_);refine VO.read aa [.bool s,.slice pp n cx,.bool tt,.slice y mm d] aa (bc pR 0 _ ⟨[],aa⟩) (wV aa ?_);refine af ?_;refine VO.call aa aa (fk nQ) (λbf cK bK=>(ee _ x kk bf (hrt.kp (Kp.of (U:=UU) bK)) ae).mono ?_);rintro o w2 ⟨r2,rfl,q2,bu⟩;obtain⟨s2,p2,n2,c2,t2,y2,m2,d2,rfl⟩:=q2.form;refine aL bu ?_;intro dW _ bb2;refine aC ?_;intro wz kz bz;exact⟨_,aa,q2.kp kz,bz⟩
theorem Wj {q:Rat} (h:q.den=1):q=((q.num:Int):Rat):=Rat.ext cZ (by simp[h])
theorem Wk {a:Bool×Rat} {q:Rat} (h2:a.2=q) (h1:a.1=false->q=0) (h:∀ i:Nat,1<=i->i<41->fV a=true->q≠((i:Int):Rat)):gR q=0:=by
 unfold gR;rw[if_neg];rintro⟨hd,g1,g2⟩
 have hw:fV a=true:=by
  cases hh:fV a with
  | true=>rfl
  | false=>
    have:=Ji h2 h1 hh;unfold gR at this;rw[if_pos ⟨hd,g1,g2⟩] at this;omega
 refine h q.num.toNat ae ae hw ?_;rw[Int.toNat_of_nonneg ae];exact Wj hd
theorem ayrs_is {q:Rat} {n:Nat} (h:q=((n:Int):Rat)) (h1:1<=n) (h40:n<=40):gR q=n:=by
 subst h;unfold gR;rw[if_pos ⟨cZ,by simp;omega,by simp;omega⟩];simp
set_option maxRecDepth 4000 in
theorem Ga (cs:List Value) (x:iT) (kk:Nat) (w:World) (hv:fu kk w cs x) (hk:kk<=1000000):
  Calls Tryz.prog 176 #[.agg cs.toArray] w λe w'=>e=.returned (.int .i64 (gR x.2:Int))/\aD w w':=by
 obtain⟨nm,s0,p0,n0,c0,t0,y0,m0,d0,rfl,rb,lV⟩:=hv;obtain⟨a,s,p,c,t,r,d,xs,ys,he,gN,ha2,ha1⟩:=lV.raw;injection he with he
 have Ew:=ak Array.toList he;simp only[List.cons.injEq,Value.bool.injEq,Value.slice.injEq,and_true] at Ew;obtain⟨rfl,⟨rfl,rfl,rfl⟩,rfl,rfl,rfl,rfl⟩:=Ew;refine ai (C:=bd Tryz.prog w _) (args:=[_]) Tryz.func176 aa Tryz.ntmps176 (bF aa) ?_;refine af ?_;refine VS.loop (J:=λm L M w'=>∃ z:Nat,1<=z/\z<=41/\m=41-z/\L=[(1,.box 1 0),(3,.val (.int .i64 (z:Int)))]/\M=[(1,(67,([.string nm,.int .u8 (x.1:Int),.bool s0,.slice p0 xs.length c0,.bool t0,.slice y0 ys.length d0]:List Value).map .val))]/\∀ i:Nat,1<=i->i<z->fV a=true->x.2≠((i:Int):Rat)) 40 ⟨_,_,?_,?_,?_,?_,⟨1,ae,ae,aa,aa,aa,λi h1 h2=>ae⟩⟩ ?_
 ·exact di
 ·exact di
 ·rfl
 ·exact fv
 rintro m L M wJ ⟨z,sH,hz,rfl,rfl,rfl,hno⟩;refine af ?_;by_cases hlt:z<41
 ·refine VS.aR aa (aw (show (z:Int)<=40 by omega)) ?_;refine af ?_;refine VO.eX aa (fk Tryz.func227) (λaK β bE aX ho=>(Fp _ [a] kk aK (fU (tq kk) (ho.own 10 (.base (ay.2 aa)) _ _ aa) [] (vs:=[[.bool s0,.slice p0 xs.length c0,.bool t0,.slice y0 ys.length d0]]) (by rfl) (.cons ((tq kk).kp gN (Kp.of (U:=UU) aX)) .nil) aa (bl _) (show (1:Nat)<=9223372036854775807 by omega)) ae).mono ?_);rintro e w1 ⟨rfl,aU⟩;cases hw:fV a with
  | false=>
    rw[show [a].all fV=false by simp[hw]];refine aL aU ?_;intro cQ _ bb1;refine VS.back (41-(z+1)) ae ⟨_,_,?_,?_,?_,?_,⟨z+1,ae,ae,aa,aa,aa,λi h1 h2 h3=>(by cases h3)⟩⟩
    ·refine⟨aa,?_,aj⟩;rw[<-aA (i:=z) ae];rfl
    ·exact di
    ·rfl
    ·exact fv
  | true=>
    rw[show [a].all fV=true by simp[hw]];refine aL aU ?_;intro cQ _ bb1;refine VO.cR aa aa (fk Tryz.func228) (λbf cK bK=>th (z:Int) bf ae ae) (λbf cK bK w2 s2 p2 n2 c2 t2 y2 m2 d2 q2 bu dW _ bb2=>wV aa ?_);refine af ?_;refine VO.call aa aa (fk Tryz.func82) (λcV dS ea=>(Np _ _ x.2 ((z:Int):Rat) kk 1 cV (lV.kp (Kp.of (U:=UU) ea)) (q2.ki (Jg ae ae)) ae ae).mono ?_);rintro e w3 ⟨rfl,dH⟩;by_cases hq:x.2=((z:Int):Rat)
    ·rw[aw hq];refine aL dH ?_;intro eV _ bb3;refine aC ?_;intro wz kz bz;exact⟨by rw[ayrs_is hq sH ae];rfl,bz⟩
    ·rw[az hq];refine aL dH ?_;intro eV _ bb3
     refine VS.back (41-(z+1)) ae ⟨_,_,?_,?_,?_,?_,⟨z+1,ae,ae,aa,aa,aa,λi h1 h2 h3=>(by
      by_cases hi:i<z
      ·exact hno i h1 hi hw
      ·rw[show i=z by omega];exact hq)⟩⟩
     ·refine⟨aa,?_,aj⟩;rw[<-aA (i:=z) ae];rfl
     ·exact di
     ·rfl
     ·exact fv
 ·refine VS.aO aa (az (show ¬ (z:Int)<=40 by omega)) ?_;obtain rfl:z=41:=ae;refine af ?_;refine aC ?_;intro wz kz bz;exact⟨by rw[Wk ha2 ha1 hno];rfl,bz⟩
set_option maxRecDepth 4000
variable {ts:List (List (List Rat))}
theorem zK {e:Int} (h1:ts.length<=40) (h:e<0\/ts.any (fW e cs.length)=true\/cs.any nz=true):gV cs e ts=2/\cf cs e ts=[]:=by
 have hm:gV cs e ts=2:=by
  unfold gV;rw[if_neg ae];by_cases h2:e<0
  ·rw[if_pos h2]
  rw[if_neg h2];by_cases h3:ts.any (fW e cs.length)=true
  ·rw[if_pos h3]
  rw[if_neg h3];rw[if_pos ((h.resolve_left h2).resolve_left h3)]
 exact⟨hm,if_neg (by rw[hm];decide)⟩
theorem Wl {e:Int} (h1:ts.length<=40) (h2:¬ e<0) (h3:∀ (i:Nat) (t:List (List Rat)),ts[i]? =some t->fW e cs.length t=false) (h4:∀ (i:Nat) (k:iT),cs[i]? =some k->nz k=false):gV cs e ts=0:=by
 unfold gV;rw[if_neg ae,if_neg h2,if_neg (λh=> ?_),if_neg (λh=> ?_)]
 ·obtain⟨k,hk,hh⟩:=kV.1 h;obtain⟨i,hi⟩:=oG hk;rw[h4 i k hi] at hh;cases hh
 ·obtain⟨t,hk,hh⟩:=kV.1 h;obtain⟨i,hi⟩:=oG hk;rw[h3 i t hi] at hh;cases hh
theorem AQ {α:Type} {f:α->Rat}:∀ {l:List α},(∀ e∈l,f e=0)->dY (l.map f)=0
 | [],_=>rfl
 | x::r,h=>by rw[kX,ja,h x (Lk ..),AQ (λe he=>h e (DK _ he)),mW]
theorem Ob {cs:List iT} {xss:List (List Rat)} {y:Nat}:∀ {n:Nat},y+1<=n->fh (dL cs xss n) (y:Int)=fh (dL cs xss (y+1)) (y:Int)/\fN (dL cs xss n) (y:Int)=fN (dL cs xss (y+1)) (y:Int)
 | 0,h=>ae
 | n+1,h=>by
   by_cases hn:n=y
   ·subst hn;exact⟨aa,aa⟩
   obtain⟨h1,h2⟩:=Ob (cs:=cs) (xss:=xss) (y:=y) (n:=n) ae
   have he:∀ e∈mi n (cs.zip (xss.getD n [])),(ew.exp e).1=(n:Int):=λe he=>by
    obtain⟨q,hq,rfl⟩:=eG.1 he;rw[tH,FD]
   have z1:fh (mi n (cs.zip (xss.getD n []))) (y:Int)=0:=AQ (λe hm=>if_pos (.inr (.inl (by rw[he e hm];omega))));have z2:fN (mi n (cs.zip (xss.getD n []))) (y:Int)=0:=AQ (λe hm=>if_pos (by rw[he e hm];omega));refine⟨?_,?_⟩
   ·rw[<-h1];show dY ((dL cs xss n++_).map _)=_;rw[aQ,kK];exact (ak (_ + ·) z1).trans (mW _)
   ·rw[<-h2];show dY ((dL cs xss n++_).map _)=_;rw[aQ,kK];exact (ak (_ + ·) z2).trans (mW _)
theorem QT {xss:List (List Rat)} (h:∀ (i:Nat) (k:iT),cs[i]? =some k->nz k=false) (n:Nat) (hn:n<=9999):∀ e∈dL cs xss n,ek e.exp=false:=vX (λk hk h6=>by
 obtain⟨i,hi⟩:=oG hk;have:=h i k hi;unfold nz at this;rw[h6] at this;simp at this;omega) n hn
set_option maxRecDepth 4000 in
theorem Ju (v u:Value) (e:Int) (cs:List iT) (ts:List (List (List Rat))) (kk:Nat) (w:World) (hv:bh (fu kk) 6 w v cs) (hu:bh (gI kk) 1 w u ts) (hk:kk<=64) (iy:1<=kk) (hn:cs.length<=64) (hd:ts.length*cs.length<=128\/40<ts.length):
  Calls Tryz.prog 116 #[v,.int .i64 e,u] w λo w'=>∃ r,o=.returned (.tuple #[r,.int .i64 (gV cs e ts)])/\aP (fC AK) 28 209 w.heap.size w' r (cf cs e ts)/\aD w w':=by
 obtain⟨p,c,rfl,eS,gv⟩:=hv.form;obtain⟨p2,c2,rfl,CP,GW⟩:=hu.form;obtain⟨N,hN⟩:∃ N,N=cs.length:=⟨_,aa⟩;obtain⟨T,hT⟩:∃ T,T=ts.length:=⟨_,aa⟩;rw[<-hN] at hv eS hn hd;rw[<-hT] at hu CP hd;rw[<-hN,<-hT];refine ai (C:=bd Tryz.prog w _) (args:=[_,_,_]) Tryz.func116 aa Tryz.ntmps116 (bF aa) ?_;refine af ?_;by_cases VQ:T>40
 ·refine VS.aR aa (aw (show (T:Int)>40 by omega)) ?_;have hm:gV cs e ts=3:=by unfold gV;rw[if_pos ae]
  refine af ?_;refine aC ?_;intro wz kz bz;exact⟨_,by rw[hm];rfl,.inl ⟨rfl,if_neg (by rw[hm];decide)⟩,bz⟩
 refine VS.aO aa (az (show ¬ (T:Int)>40 by omega)) ?_;refine af ?_;by_cases he0:e<0
 ·refine VS.aR aa (aw he0) ?_;obtain⟨hm,har⟩:=zK (cs:=cs) (ts:=ts) ae (.inl he0);refine af ?_;refine aC ?_;intro wz kz bz;exact⟨_,by rw[hm];rfl,.inl ⟨rfl,har⟩,bz⟩
 refine VS.aO aa (az he0) ?_;obtain⟨E,rfl⟩:=tP (show 0<=e by omega);have hTN:T*N<=128:=hd.resolve_right ae;refine af ?_;refine VS.loop (J:=λm L M w'=>∃ z:Nat,z<=N/\m=N-z/\L=[(0,.val (.slice p N c)),(1,.val (.int .i64 (E:Int))),(2,.val (.slice p2 T c2)),(8,.val (.int .i64 (z:Int)))]/\M=[]/\∀ (i:Nat) (k:iT),i<z->cs[i]? =some k->nz k=false) N ⟨_,_,?_,?_,?_,?_,⟨0,ae,aa,aa,aa,λi k hi=>ae⟩⟩ ?_
 ·exact di
 ·exact di
 ·rfl
 ·exact fv
 rintro m L M wJ ⟨z,hz,rfl,rfl,rfl,hno⟩;refine af ?_;by_cases hlt:z<N
 ·obtain⟨k,Hc⟩:∃ k,cs[z]? =some k:=⟨_,bj ae⟩;obtain⟨b,off,jU,rfl,hc,hE⟩:=hv.at Hc;have hE':=hE;obtain⟨nm,s0,p0,n0,c0,t0,y0,m0,d0,rfl,rb,lV⟩:=hE';refine VS.aR aa (aw (aJ.2 hlt)) ?_
  have hnext:nz k=false->∀ (i:Nat) (k':iT),i<z+1->cs[i]? =some k'->nz k'=false:=λh0 i k' hi WN=>by
   by_cases hiz:i<z
   ·exact hno i k' hiz WN
   ·rw[show i=z by omega,Hc] at WN;cases WN;exact h0
  refine af ?_;refine VO.cond aa eh ?_;refine wV aa ?_;refine af ?_;refine VO.read aa [.int .u8 (k.1:Int)] aa (bc hc 1 _ ⟨_,aa⟩) (wV aa ?_);refine af ?_;by_cases h6:k.1=6
  ·refine VO.fix 35 aa (ak (λb=>AV.val (.bool b)) (BR (show (k.1:Int)=6 by omega))) ?_;refine af ?_;refine VO.cond aa eh ?_;refine wV aa ?_;refine af ?_;refine VO.read aa [.string nm,.int .u8 (k.1:Int),.bool s0,.slice p0 n0 c0,.bool t0,.slice y0 m0 d0] aa (bc hc 0 _ ⟨[],aa⟩) (wV aa ?_);refine af ?_;refine VO.cB aa aa (fk Tryz.func176) (λaK bE aX=>Ga _ k kk aK ((cW kk).b hE aX) ae) (λaK bE aX w1 aU cQ _ bb1=>wV aa ?_);refine af ?_;by_cases h0:gR k.2=0
   ·refine VS.aR aa (BR (show (gR k.2:Int)=0 by omega)) ?_;obtain⟨hm,har⟩:=zK (cs:=cs) (e:=(E:Int)) (ts:=ts) ae (.inr (.inr (kV.2 ⟨k,dz Hc,by unfold nz;rw[h6,h0];rfl⟩)));refine af ?_;refine aC ?_;intro wz kz bz;exact⟨_,by rw[hm];rfl,.inl ⟨rfl,har⟩,bz⟩
   ·refine VS.aO aa (zj (show (gR k.2:Int)≠0 by omega)) ?_;have hnx:=hnext (by unfold nz;rw[h6];simp;omega);refine af ?_;refine VS.back (N-(z+1)) ae ⟨_,_,?_,?_,?_,?_,⟨z+1,ae,aa,aa,aa,hnx⟩⟩
    ·(refine⟨aa,aa,aa,?_,aj⟩;rw[<-aA (i:=z) ae];rfl)
    ·(repeat first|exact aj|refine⟨aa,?_⟩|refine⟨ak (λl=>some (_,l)) (ba (by first|exact bW.dN (by assumption)|exact ah _|(rw[<-aQ];exact ah _)) _ _),?_⟩)
    ·rfl
    ·(repeat first|exact aj|refine⟨aq.lit aa,?_⟩|refine⟨bW.mg (by assumption),?_⟩|refine⟨aq.append (.vals _) (.vals _),?_⟩|refine⟨aq.vals _,?_⟩)
  ·refine VO.fix 35 aa (ak (λb=>AV.val (.bool b)) (zj (show (k.1:Int)≠6 by omega))) ?_;have hnx:=hnext (by unfold nz;simp[h6]);refine af ?_;refine VS.back (N-(z+1)) ae ⟨_,_,?_,?_,?_,?_,⟨z+1,ae,aa,aa,aa,hnx⟩⟩
   ·(refine⟨aa,aa,aa,?_,aj⟩;rw[<-aA (i:=z) ae];rfl)
   ·(repeat first|exact aj|refine⟨aa,?_⟩|refine⟨ak (λl=>some (_,l)) (ba (by first|exact bW.dN (by assumption)|exact ah _|(rw[<-aQ];exact ah _)) _ _),?_⟩)
   ·rfl
   ·(repeat first|exact aj|refine⟨aq.lit aa,?_⟩|refine⟨bW.mg (by assumption),?_⟩|refine⟨aq.append (.vals _) (.vals _),?_⟩|refine⟨aq.vals _,?_⟩)
 refine VS.aO aa (az (λe=>hlt (aJ.1 e))) ?_;obtain⟨xss,CQ⟩:∃ xss:List (List Rat),xss=ts.map (λt=>t.getD E []):=⟨_,aa⟩;have gU:xss.length=T:=by rw[CQ,bJ,hT]
 have hxa:∀ y t,ts[y]? =some t->xss.getD y []=t.getD E []:=λy t h=>by rw[CQ,fG,gT,h];rfl
 replace hno:∀ (i:Nat) (k:iT),cs[i]? =some k->nz k=false:=λi k hi=>hno i k (by have:=(cM.1 hi).1;omega) hi
 have hsz:∀ (y:Nat) (t:List (List Rat)) (i:Nat) (l:List Rat),ts[y]? =some t->t[i]? =some l->∀ x∈l,dy x kk:=λy t i l ht hl x hx=>by
  obtain⟨_,_,_,_,_,⟨tv,rfl,BZ⟩⟩:=hu.at ht;obtain⟨_,_,rfl⟩:=BZ.sl;obtain⟨_,_,_,_,_,⟨xv,rfl,hxl2⟩⟩:=BZ.at hl;obtain⟨_,⟨_,_,_,_,_,_,_,_,rfl,hq⟩⟩:=hxl2.mem hx;exact hq.sz ae
 clear eS CP gv GW hlt hz hd;refine af ?_;refine VS.loop (J:=λm L M w'=>∃ (y:Nat) (Xl:AV) (Ml:List (Nat×(TypeId×List AV))),y<=T/\m=T-y/\L=[(0,.val (.slice p N c)),(1,.val (.int .i64 (E:Int))),(2,.val (.slice p2 T c2)),(9,Xl),(10,.val (.int .i64 (y:Int)))]/\M=Ml/\eF (oh kk) 6 284 99 Xl Ml w' (dL cs xss y)/\∀ (i:Nat) (t:List (List Rat)),i<y->ts[i]? =some t->fW (E:Int) N t=false) T ⟨_,_,?_,?_,?_,?_,⟨0,_,[],ae,aa,aa,aa,.inl ⟨aa,aa,aa⟩,λi t hi=>ae⟩⟩ ?_
 ·exact di
 ·exact di
 ·rfl
 ·exact fv
 rintro m L Ml wK ⟨y,Xl,Ml2,hy,rfl,rfl,rfl,hL,hlk⟩;refine VS.mask [98] (by rcases hL with ⟨_,rfl,rfl⟩|⟨_,_,_,_,rfl,rfl,_⟩ <;> (repeat first|exact aj|refine⟨aa,?_⟩)) ?_;refine af ?_;by_cases WU:y<T
 ·obtain⟨t,ht⟩:∃ t,ts[y]? =some t:=⟨_,bj ae⟩;obtain⟨bT,nN,csT,rfl,SX,⟨tv,rfl,BZ⟩⟩:=hu.at ht;obtain⟨pt,ct,rfl⟩:=BZ.sl;have Eb:=hxa y t ht;refine VS.aR aa (aw (aJ.2 WU)) ?_;refine af ?_;refine VO.cond aa eh ?_;refine wV aa ?_;refine af ?_;refine VO.read aa [.slice pt t.length ct] aa (cP SX) (wV aa ?_);refine af ?_;by_cases PG:(E:Int)>=(t.length:Int)
  ·refine VO.fix 57 aa (ak (λb=>AV.val (.bool b)) (aw PG)) ?_;obtain⟨hm,har⟩:=zK (cs:=cs) (e:=(E:Int)) (ts:=ts) ae (.inr (.inl (kV.2 ⟨t,dz ht,by unfold fW;rw[aw PG];rfl⟩)));refine af ?_;refine aC ?_;intro wz kz bz;exact⟨_,by rw[hm];rfl,.inl ⟨rfl,har⟩,bz⟩
  refine VO.fix 57 aa (ak (λb=>AV.val (.bool b)) (az PG)) ?_;obtain⟨xs,qW⟩:∃ xs,t[E]? =some xs:=⟨_,bj ae⟩;obtain⟨b1,off1,cs1,rfl,rh,⟨xv,rfl,hxv⟩⟩:=BZ.at qW;obtain⟨px,cx,rfl⟩:=hxv.sl;have zw:xss.getD y []=xs:=by rw[Eb,fG,qW];rfl
  have Ij:fW (E:Int) N t=(xs.length != N):=by
   unfold fW;rw[az PG,Bool.false_or,dV,fG,qW];rfl
  refine af ?_;refine VO.cond aa eh ?_;refine wV aa ?_;refine af ?_;refine VO.read aa [.slice (some ⟨b1,off1,none⟩) t.length ct] aa (cP SX) (wV aa ?_);refine af ?_;refine VO.cond aa eh ?_;refine wV aa ?_;refine af ?_;refine VO.read aa [.slice px xs.length cx] aa (cP rh) (wV aa ?_);refine af ?_;by_cases hxn:xs.length=N
  ·refine VS.aO aa (qz (show (xs.length:Int)=(N:Int) by omega)) ?_
   have hlk':∀ (i:Nat) (t:List (List Rat)),i<y+1->ts[i]? =some t->fW (E:Int) N t=false:=λi t' hi ht'=>by
    by_cases hiy:i<y
    ·exact hlk i t' hiy ht'
    ·rw[show i=y by omega,ht] at ht';cases ht';rw[Ij,hxn];simp
   refine af ?_;refine VS.loop (J:=λm L M w'=>∃ (z:Nat) (Xl:AV) (Ml:List (Nat×(TypeId×List AV))),z<=N/\m=N-z/\L=[(0,.val (.slice p N c)),(1,.val (.int .i64 (E:Int))),(2,.val (.slice (some ⟨bT,nN,none⟩) T c2)),(9,Xl),(10,.val (.int .i64 (y:Int))),(11,.val (.int .i64 (z:Int)))]/\M=Ml/\eF (oh kk) 6 284 99 Xl Ml w' (lS cs xss y z)) N ⟨_,_,?_,?_,?_,?_,⟨0,Xl,Ml,ae,aa,aa,aa,by rw[show lS cs xss y 0=dL cs xss y from jQ _];exact hL.kp (fA kk) bm⟩⟩ ?_
   ·rcases hL with ⟨_,rfl,rfl⟩|⟨_,_,_,_,rfl,rfl,_⟩ <;> (repeat first|exact aj|refine⟨aa,?_⟩)
   ·rcases hL with ⟨_,rfl,rfl⟩|⟨_,_,_,_,rfl,rfl,_⟩ <;> (repeat first|exact aj|refine⟨aa,?_⟩|refine⟨ak (λl=>some (_,l)) (ba (by first|exact bW.dN (by assumption)|exact ah _|(rw[<-aQ];exact ah _)) _ _),?_⟩)
   ·rcases hL with ⟨_,rfl,rfl⟩|⟨_,_,_,_,rfl,rfl,_⟩ <;> rfl
   ·rcases hL with ⟨_,rfl,rfl⟩|⟨_,_,_,_,rfl,rfl,_⟩ <;> (repeat first|exact aj|refine⟨aq.lit aa,?_⟩|refine⟨bW.mg (by assumption),?_⟩|refine⟨aq.append (.vals _) (.vals _),?_⟩|refine⟨aq.vals _,?_⟩)
   clear hL;rintro m L Ml wI ⟨z,Xl,Ml2,hz,rfl,rfl,rfl,hL⟩;refine VS.mask [98] (by rcases hL with ⟨_,rfl,rfl⟩|⟨_,_,_,_,rfl,rfl,_⟩ <;> (repeat first|exact aj|refine⟨aa,?_⟩)) ?_;refine af ?_;by_cases SW:z<N
   ·obtain⟨k,Hc⟩:∃ k,cs[z]? =some k:=⟨_,bj ae⟩;obtain⟨x,Az⟩:∃ x,xs[z]? =some x:=⟨_,bj ae⟩;obtain⟨b,off,jU,rfl,hc,hE⟩:=hv.at Hc;have hE':=hE;obtain⟨nm,s0,p0,n0,c0,t0,y0,m0,d0,rfl,rb,lV⟩:=hE';refine VS.aR aa (aw (aJ.2 SW)) ?_;refine af ?_;refine VO.cond aa eh ?_;refine wV aa ?_;refine af ?_;refine VO.read aa [.int .u8 (k.1:Int)] aa (bc hc 1 _ ⟨_,aa⟩) (wV aa ?_);refine af ?_;by_cases h6:k.1=6
    ·have FL:jO (k,x)=true:=by unfold jO;rw[show (k,x).1.1=6 from h6];rfl
     have GS:lS cs xss y (z+1)=lS cs xss y z++[tH y (k,x)]:=by rw[vY Hc (by rw[zw];exact Az),if_pos FL]
     have zx:(lS cs xss y z).length<=128:=FK WU (hN▸hTN);have hayl:=Ky k.2;refine VS.aR aa (BR (show (k.1:Int)=6 by omega)) ?_;refine af ?_;refine VO.cond aa eh ?_;refine wV aa ?_;refine af ?_;refine VO.read aa [.string nm,.int .u8 (k.1:Int),.bool s0,.slice p0 n0 c0,.bool t0,.slice y0 m0 d0] aa (bc hc 0 _ ⟨[],aa⟩) (wV aa ?_);refine af ?_;refine VO.cB aa aa (fk Tryz.func176) (λaK bE aX=>Ga _ k kk aK ((cW kk).b hE aX) ae) (λaK bE aX w1 aU cQ _ bb1=>wV aa ?_);refine af ?_;refine VO.cond aa eh ?_;refine wV aa ?_;refine af ?_;refine VO.read aa [.slice (some ⟨b1,off1,none⟩) t.length ct] aa (cP SX) (wV aa ?_);refine af ?_;refine VO.call aa aa (fk Tryz.func31) (λbf cK bK=>(Jt _ t xs x E z kk bf (BZ.iI (pL kk) bK) qW Az ae).mono ?_);rintro o w2 ⟨r2,rfl,q2,bu⟩;obtain⟨pq,cq,rq,dq,rfl,-⟩:=q2.raw.Fh;refine aL bu ?_;intro dW _ bb2;have hxz:=hsz y t E xs ht qW x (dz Az);have iq:oh kk w2 [.int .i64 (y:Int),.int .i64 (gR k.2:Int),.bool (decide (x.num<0)),.slice pq (limbs x.num.natAbs).length cq,.bool (decide ((x.den:Int)<0)),.slice rq (limbs (x.den:Int).natAbs).length dq] (tH y (k,x)):=⟨_,_,_,_,aa,⟨by show _<=(y:Int);omega,by show (y:Int)<=_;omega⟩,⟨by show _<=(gR k.2:Int);omega,by show (gR k.2:Int)<=_;omega⟩,q2.raw,hxz.1,hxz.2⟩;rcases hL with ⟨dJ,rfl,rfl⟩|⟨n',c',vs,sp,rfl,rfl,iU⟩
     ·refine VO.jg (cS _ _) (fA kk) (t:=282) (e:=284) (s:=98) (a:=tH y (k,x)) (cs:=[.int .i64 (y:Int),.int .i64 (gR k.2:Int),.bool (decide (x.num<0)),.slice pq (limbs x.num.natAbs).length cq,.bool (decide ((x.den:Int)<0)),.slice rq (limbs (x.den:Int).natAbs).length dq]) aa aa aa aa aa aa aa aa (bF aa) aa aa aa iq ae (λw9 cap sp k9 b9 gh=>wV aa ?_);refine af ?_;refine VS.back (N-(z+1)) ae ⟨_,_,?_,?_,?_,?_,⟨z+1,_,_,ae,aa,aa,aa,.inr ⟨1,cap,_,sp,aa,aa,by rw[GS,dJ];exact gh⟩⟩⟩
      ·(refine⟨aa,aa,aa,aa,aa,?_,aj⟩;rw[<-aA (i:=z) ae];rfl)
      ·(repeat first|exact aj|refine⟨aa,?_⟩|refine⟨ak (λl=>some (_,l)) (ba (by first|exact bW.dN (by assumption)|exact ah _|(rw[<-aQ];exact ah _)) _ _),?_⟩)
      ·rfl
      ·(repeat first|exact aj|refine⟨aq.lit aa,?_⟩|refine⟨bW.mg (by assumption),?_⟩|refine⟨aq.append (.vals _) (.vals _),?_⟩|refine⟨aq.vals _,?_⟩)
     ·have nY:=iU.len;refine VO.jh (cS _ _) (fA kk) (t:=282) (e:=284) (s:=98) (i:=99) (n:=n') (c:=c') (vs:=vs) (sp:=sp) (es:=lS cs xss y z) (a:=tH y (k,x)) (cs:=[.int .i64 (y:Int),.int .i64 (gR k.2:Int),.bool (decide (x.num<0)),.slice pq (limbs x.num.natAbs).length cq,.bool (decide ((x.den:Int)<0)),.slice rq (limbs (x.den:Int).natAbs).length dq]) aa aa aa aa aa aa aa aa (bF aa) aa (.inr aa) aa (iU.kp (fA kk) bm) aa iq ae (λw9 il qH ρ k9 b9 gH gh=>wV aa ?_);refine af ?_;refine VS.back (N-(z+1)) ae ⟨_,_,?_,?_,?_,?_,⟨z+1,_,_,ae,aa,aa,aa,.inr ⟨n' +1,il,_,qH,aa,aa,by rw[GS];exact gh⟩⟩⟩
      ·(refine⟨aa,aa,aa,aa,aa,?_,aj⟩;rw[<-aA (i:=z) ae];rfl)
      ·(repeat first|exact aj|refine⟨aa,?_⟩|refine⟨ak (λl=>some (_,l)) (ba (by first|exact bW.dN (by assumption)|exact ah _|(rw[<-aQ];exact ah _)) _ _),?_⟩)
      ·rfl
      ·(repeat first|exact aj|refine⟨aq.lit aa,?_⟩|refine⟨bW.mg (by assumption),?_⟩|refine⟨aq.append (.vals _) (.vals _),?_⟩|refine⟨aq.vals _,?_⟩)
    ·have FL:¬ jO (k,x)=true:=by unfold jO;intro h;exact h6 (eq_of_beq h)
     have GS:lS cs xss y (z+1)=lS cs xss y z:=by rw[vY Hc (by rw[zw];exact Az),if_neg FL,jQ]
     refine VS.aO aa (zj (show (k.1:Int)≠6 by omega)) ?_;refine af ?_;refine VS.back (N-(z+1)) ae ⟨_,_,?_,?_,?_,?_,⟨z+1,Xl,Ml,ae,aa,aa,aa,by rw[GS];exact hL.kp (fA kk) bm⟩⟩
     ·rcases hL with ⟨_,rfl,rfl⟩|⟨_,_,_,_,rfl,rfl,_⟩ <;> (refine⟨aa,aa,aa,aa,aa,?_,aj⟩;rw[<-aA (i:=z) ae];rfl)
     ·rcases hL with ⟨_,rfl,rfl⟩|⟨_,_,_,_,rfl,rfl,_⟩ <;> (repeat first|exact aj|refine⟨aa,?_⟩|refine⟨ak (λl=>some (_,l)) (ba (by first|exact bW.dN (by assumption)|exact ah _|(rw[<-aQ];exact ah _)) _ _),?_⟩)
     ·rcases hL with ⟨_,rfl,rfl⟩|⟨_,_,_,_,rfl,rfl,_⟩ <;> rfl
     ·rcases hL with ⟨_,rfl,rfl⟩|⟨_,_,_,_,rfl,rfl,_⟩ <;> (repeat first|exact aj|refine⟨aq.lit aa,?_⟩|refine⟨bW.mg (by assumption),?_⟩|refine⟨aq.append (.vals _) (.vals _),?_⟩|refine⟨aq.vals _,?_⟩)
   ·refine VS.aO aa (az (λe=>SW (aJ.1 e))) ?_;obtain rfl:z=N:=ae
    have hlN:lS cs xss y z=dL cs xss (y+1):=by
     unfold lS;rw[dM (by rw[wH,zw];omega)];rfl
    rw[hlN] at hL;refine af ?_;refine VS.back (T-(y+1)) ae ⟨_,_,?_,?_,?_,?_,⟨y+1,Xl,Ml,ae,aa,aa,aa,hL.kp (fA kk) bm,hlk'⟩⟩
    ·rcases hL with ⟨_,rfl,rfl⟩|⟨_,_,_,_,rfl,rfl,_⟩ <;> (refine⟨aa,aa,aa,aa,?_,aj⟩;rw[<-aA (i:=y) ae];rfl)
    ·rcases hL with ⟨_,rfl,rfl⟩|⟨_,_,_,_,rfl,rfl,_⟩ <;> (repeat first|exact aj|refine⟨aa,?_⟩|refine⟨ak (λl=>some (_,l)) (ba (by first|exact bW.dN (by assumption)|exact ah _|(rw[<-aQ];exact ah _)) _ _),?_⟩)
    ·rcases hL with ⟨_,rfl,rfl⟩|⟨_,_,_,_,rfl,rfl,_⟩ <;> rfl
    ·rcases hL with ⟨_,rfl,rfl⟩|⟨_,_,_,_,rfl,rfl,_⟩ <;> (repeat first|exact aj|refine⟨aq.lit aa,?_⟩|refine⟨bW.mg (by assumption),?_⟩|refine⟨aq.append (.vals _) (.vals _),?_⟩|refine⟨aq.vals _,?_⟩)
  ·refine VS.aR aa (Fk (show (xs.length:Int)≠(N:Int) by omega)) ?_;obtain⟨hm,har⟩:=zK (cs:=cs) (e:=(E:Int)) (ts:=ts) ae (.inr (.inl (kV.2 ⟨t,dz ht,by rw[<-hN,Ij];simp[hxn]⟩)));refine af ?_;refine aC ?_;intro wz kz bz;exact⟨_,by rw[hm];rfl,.inl ⟨rfl,har⟩,bz⟩
 refine VS.aO aa (az (λe=>WU (aJ.1 e))) ?_;obtain rfl:y=T:=ae;replace hlk:∀ (i:Nat) (t:List (List Rat)),ts[i]? =some t->fW (E:Int) N t=false:=λi t hi=>hlk i t (by have:=(cM.1 hi).1;omega) hi;have hm:gV cs (E:Int) ts=0:=Wl ae ae (by rw[<-hN];exact hlk) hno;have VP:cf cs (E:Int) ts=fb cs xss:=by rw[CQ];exact if_pos hm
 rw[hm,VP];obtain⟨T,hTy⟩:∃ T,T=y:=⟨_,aa⟩;subst hTy;have zx:(dL cs xss T).length<=128:=bG (FF cs xss T) (hN▸hTN);have hlw:=QT (xss:=xss) hno T ae;refine af ?_;refine VS.loop (J:=λm L M w'=>∃ (y:Nat) (Xo:AV) (Mo:List (Nat×(TypeId×List AV))),y<=T/\m=T-y/\L=[(0,.val (.slice p N c)),(1,.val (.int .i64 (E:Int))),(2,.val (.slice p2 T c2)),(9,Xl),(12,Xo),(13,.val (.int .i64 (y:Int)))]/\M=Ml++Mo/\eF (fC AK) 28 209 156 Xo Mo w' ((fb cs xss).take y)/\eF (oh kk) 6 284 99 Xl Ml w' (dL cs xss T)) T ⟨_,_,?_,?_,?_,?_,⟨0,_,[],ae,aa,aa,(jQ _).symm,.inl ⟨aa,aa,aa⟩,hL.kp (fA kk) bm⟩⟩ ?_
 ·rcases hL with ⟨_,rfl,rfl⟩|⟨_,_,_,_,rfl,rfl,_⟩ <;> (repeat first|exact aj|refine⟨aa,?_⟩)
 ·rcases hL with ⟨_,rfl,rfl⟩|⟨_,_,_,_,rfl,rfl,_⟩ <;> (repeat first|exact aj|refine⟨aa,?_⟩|refine⟨ak (λl=>some (_,l)) (ba (by first|exact bW.dN (by assumption)|exact ah _|(rw[<-aQ];exact ah _)) _ _),?_⟩)
 ·rcases hL with ⟨_,rfl,rfl⟩|⟨_,_,_,_,rfl,rfl,_⟩ <;> rfl
 ·rcases hL with ⟨_,rfl,rfl⟩|⟨_,_,_,_,rfl,rfl,_⟩ <;> (repeat first|exact aj|refine⟨aq.lit aa,?_⟩|refine⟨bW.mg (by assumption),?_⟩|refine⟨aq.append (.vals _) (.vals _),?_⟩|refine⟨aq.vals _,?_⟩)
 clear hL;rintro m L M wG ⟨y,Xo,Mo,hy,rfl,rfl,rfl,hO,hL⟩;refine VS.mask [16,17,131,132,155] (by rcases hO with ⟨_,rfl,rfl⟩|⟨_,_,_,_,rfl,rfl,_⟩ <;> rcases hL with ⟨_,rfl,rfl⟩|⟨_,_,_,_,rfl,rfl,_⟩ <;> (repeat first|exact aj|refine⟨aa,?_⟩)) ?_;refine af ?_;by_cases WU:y<T
 ·obtain⟨t,ht⟩:∃ t,ts[y]? =some t:=⟨_,bj ae⟩;obtain⟨bT,nN,csT,rfl,SX,⟨tv,rfl,BZ⟩⟩:=hu.at ht;obtain⟨pt,ct,rfl⟩:=BZ.sl;have Eb:=hxa y t ht;have Ij:=hlk y t ht;unfold fW at Ij;rw[Bool.or_eq_false_iff,decide_eq_false_iff_not,bne_eq_false_iff_eq,dV] at Ij;obtain⟨xs,qW⟩:∃ xs,t[E]? =some xs:=⟨_,bj ae⟩;have zw:xss.getD y []=xs:=by rw[Eb,fG,qW];rfl
  have hxn:xs.length=N:=by rw[<-Ij.2,<-Eb,zw]
  have haln:(bo cs xs).length=N:=by unfold bo;rw[bJ,wH];omega
  refine VS.aR aa (aw (aJ.2 WU)) ?_;refine af ?_;refine VS.loop (J:=λm L M w'=>∃ (z:Nat) (Xi:AV) (Mi:List (Nat×(TypeId×List AV))),z<=N/\m=N-z/\L=[(0,.val (.slice p N c)),(1,.val (.int .i64 (E:Int))),(2,.val (.slice (some ⟨bT,nN,none⟩) T c2)),(9,Xl),(12,Xo),(13,.val (.int .i64 (y:Int))),(14,Xi),(15,.val (.int .i64 (z:Int)))]/\M=Mi++(Ml++Mo)/\eF (pJ kk) 9 286 132 Xi Mi w' ((bo cs xs).take z)/\eF (fC AK) 28 209 156 Xo Mo w' ((fb cs xss).take y)/\eF (oh kk) 6 284 99 Xl Ml w' (dL cs xss T)) N ⟨_,_,?_,?_,?_,?_,⟨0,_,[],ae,aa,aa,aa,.inl ⟨aa,aa,aa⟩,hO.kp (bt AK) bm,hL.kp (fA kk) bm⟩⟩ ?_
  ·rcases hO with ⟨_,rfl,rfl⟩|⟨_,_,_,_,rfl,rfl,_⟩ <;> rcases hL with ⟨_,rfl,rfl⟩|⟨_,_,_,_,rfl,rfl,_⟩ <;> (repeat first|exact aj|refine⟨aa,?_⟩)
  ·rcases hO with ⟨_,rfl,rfl⟩|⟨_,_,_,_,rfl,rfl,_⟩ <;> rcases hL with ⟨_,rfl,rfl⟩|⟨_,_,_,_,rfl,rfl,_⟩ <;> (repeat first|exact aj|refine⟨aa,?_⟩|refine⟨ak (λl=>some (_,l)) (ba (by first|exact bW.dN (by assumption)|exact ah _|(rw[<-aQ];exact ah _)) _ _),?_⟩)
  ·rcases hO with ⟨_,rfl,rfl⟩|⟨_,_,_,_,rfl,rfl,_⟩ <;> rcases hL with ⟨_,rfl,rfl⟩|⟨_,_,_,_,rfl,rfl,_⟩ <;> rfl
  ·rcases hO with ⟨_,rfl,rfl⟩|⟨_,_,_,_,rfl,rfl,_⟩ <;> rcases hL with ⟨_,rfl,rfl⟩|⟨_,_,_,_,rfl,rfl,_⟩ <;> (repeat first|exact aj|refine⟨aq.lit aa,?_⟩|refine⟨bW.mg (by assumption),?_⟩|refine⟨aq.append (.vals _) (.vals _),?_⟩|refine⟨aq.vals _,?_⟩)
  clear hO hL;rintro m L M wI ⟨z,Xi,Mi,hz,rfl,rfl,rfl,hI,hO,hL⟩;refine VS.mask [16,17,131,155] (by rcases hI with ⟨_,rfl,rfl⟩|⟨_,_,_,_,rfl,rfl,_⟩ <;> rcases hO with ⟨_,rfl,rfl⟩|⟨_,_,_,_,rfl,rfl,_⟩ <;> rcases hL with ⟨_,rfl,rfl⟩|⟨_,_,_,_,rfl,rfl,_⟩ <;> (repeat first|exact aj|refine⟨aa,?_⟩)) ?_;refine af ?_;by_cases SW:z<N
  ·obtain⟨k,Hc⟩:∃ k,cs[z]? =some k:=⟨_,bj ae⟩;obtain⟨x,Az⟩:∃ x,xs[z]? =some x:=⟨_,bj ae⟩;have yW:=vW Hc Az;obtain⟨b,off,jU,rfl,hc,⟨nm,s0,p0,n0,c0,t0,y0,m0,d0,rfl,rb,lV⟩⟩:=hv.at Hc;refine VS.aR aa (aw (aJ.2 SW)) ?_;refine af ?_;refine VO.cond aa eh ?_;refine wV aa ?_;refine af ?_;refine VO.read aa [.int .u8 (k.1:Int)] aa (bc hc 1 _ ⟨_,aa⟩) (wV aa ?_);refine af ?_;refine VO.cond aa eh ?_;refine wV aa ?_;refine af ?_;refine VO.read aa [.bool s0,.slice p0 n0 c0,.bool t0,.slice y0 m0 d0] aa (bc hc 2 _ ⟨[],aa⟩) (wV aa ?_);refine af ?_;refine VO.cond aa eh ?_;refine wV aa ?_;refine af ?_;refine VO.read aa [.slice pt t.length ct] aa (cP SX) (wV aa ?_);refine af ?_;refine VO.call aa aa (fk Tryz.func31) (λbf cK bK=>(Jt _ t xs x E z kk bf (BZ.iI (pL kk) bK) qW Az ae).mono ?_);rintro o w2 ⟨r2,rfl,q2,bu⟩;obtain⟨s2,p2,n2,c2',t2,y2,m2,d2,rfl⟩:=q2.form;refine aL bu ?_;intro dW _ bb2;have hxz:=hsz y t E xs ht qW x (dz Az);have iq:pJ kk w2 [.int .u8 (k.1:Int),.bool s0,.slice p0 n0 c0,.bool t0,.slice y0 m0 d0,.bool s2,.slice p2 n2 c2',.bool t2,.slice y2 m2 d2] (k.1,k.2,x):=⟨_,_,_,_,_,_,_,_,_,_,_,_,_,_,_,_,aa,rb,lV.k,q2.in hxz⟩;rcases hI with ⟨dJ,rfl,rfl⟩|⟨n',c',vs,sp,rfl,rfl,iU⟩
   ·refine VO.jg (cS _ _) (eE kk) (t:=285) (e:=286) (s:=131) (a:=(k.1,k.2,x)) (cs:=[.int .u8 (k.1:Int),.bool s0,.slice p0 n0 c0,.bool t0,.slice y0 m0 d0,.bool s2,.slice p2 n2 c2',.bool t2,.slice y2 m2 d2]) aa aa aa aa aa aa aa aa (bF aa) aa (by rcases hO with ⟨_,rfl,rfl⟩|⟨_,_,_,_,rfl,rfl,_⟩ <;> rcases hL with ⟨_,rfl,rfl⟩|⟨_,_,_,_,rfl,rfl,_⟩ <;> rfl) aa iq ae (λw9 cap sp k9 b9 gh=>wV aa ?_);refine af ?_;refine VS.back (N-(z+1)) ae ⟨_,_,?_,?_,?_,?_,⟨z+1,(.row 132 0 1 cap),[(132,_)],ae,aa,aa,aa,.inr ⟨1,cap,_,sp,aa,aa,by rw[aI yW,dJ];exact gh⟩,hO.kp (bt AK) bm,hL.kp (fA kk) bm⟩⟩
    ·rcases hO with ⟨_,rfl,rfl⟩|⟨_,_,_,_,rfl,rfl,_⟩ <;> rcases hL with ⟨_,rfl,rfl⟩|⟨_,_,_,_,rfl,rfl,_⟩ <;> (refine⟨aa,aa,aa,aa,aa,aa,aa,?_,aj⟩;rw[<-aA (i:=z) ae];rfl)
    ·rcases hO with ⟨_,rfl,rfl⟩|⟨_,_,_,_,rfl,rfl,_⟩ <;> rcases hL with ⟨_,rfl,rfl⟩|⟨_,_,_,_,rfl,rfl,_⟩ <;> (repeat first|exact aj|refine⟨aa,?_⟩|refine⟨ak (λl=>some (_,l)) (ba (by first|exact bW.dN (by assumption)|exact ah _|(rw[<-aQ];exact ah _)) _ _),?_⟩)
    ·rcases hO with ⟨_,rfl,rfl⟩|⟨_,_,_,_,rfl,rfl,_⟩ <;> rcases hL with ⟨_,rfl,rfl⟩|⟨_,_,_,_,rfl,rfl,_⟩ <;> rfl
    ·rcases hO with ⟨_,rfl,rfl⟩|⟨_,_,_,_,rfl,rfl,_⟩ <;> rcases hL with ⟨_,rfl,rfl⟩|⟨_,_,_,_,rfl,rfl,_⟩ <;> (repeat first|exact aj|refine⟨aq.lit aa,?_⟩|refine⟨bW.mg (by assumption),?_⟩|refine⟨aq.append (.vals _) (.vals _),?_⟩|refine⟨aq.vals _,?_⟩)
   ·have nY:=iU.len;refine VO.jh (cS _ _) (eE kk) (t:=285) (e:=286) (s:=131) (i:=132) (n:=n') (c:=c') (vs:=vs) (sp:=sp) (es:=(bo cs xs).take z) (a:=(k.1,k.2,x)) (cs:=[.int .u8 (k.1:Int),.bool s0,.slice p0 n0 c0,.bool t0,.slice y0 m0 d0,.bool s2,.slice p2 n2 c2',.bool t2,.slice y2 m2 d2]) aa aa aa aa aa aa aa aa (bF aa) aa (.inr aa) (by rcases hO with ⟨_,rfl,rfl⟩|⟨_,_,_,_,rfl,rfl,_⟩ <;> rcases hL with ⟨_,rfl,rfl⟩|⟨_,_,_,_,rfl,rfl,_⟩ <;> rfl) (iU.kp (eE kk) bm) aa iq (by rw[cw] at nY;omega) (λw9 il qH ρ k9 b9 gH gh=>wV aa ?_);refine af ?_;refine VS.back (N-(z+1)) ae ⟨_,_,?_,?_,?_,?_,⟨z+1,(.row 132 0 (n' +1) il),[(132,_)],ae,aa,aa,aa,.inr ⟨n' +1,il,_,qH,aa,aa,by rw[aI yW];exact gh⟩,hO.kp (bt AK) bm,hL.kp (fA kk) bm⟩⟩
    ·rcases hO with ⟨_,rfl,rfl⟩|⟨_,_,_,_,rfl,rfl,_⟩ <;> rcases hL with ⟨_,rfl,rfl⟩|⟨_,_,_,_,rfl,rfl,_⟩ <;> (refine⟨aa,aa,aa,aa,aa,aa,aa,?_,aj⟩;rw[<-aA (i:=z) ae];rfl)
    ·rcases hO with ⟨_,rfl,rfl⟩|⟨_,_,_,_,rfl,rfl,_⟩ <;> rcases hL with ⟨_,rfl,rfl⟩|⟨_,_,_,_,rfl,rfl,_⟩ <;> (repeat first|exact aj|refine⟨aa,?_⟩|refine⟨ak (λl=>some (_,l)) (ba (by first|exact bW.dN (by assumption)|exact ah _|(rw[<-aQ];exact ah _)) _ _),?_⟩)
    ·rcases hO with ⟨_,rfl,rfl⟩|⟨_,_,_,_,rfl,rfl,_⟩ <;> rcases hL with ⟨_,rfl,rfl⟩|⟨_,_,_,_,rfl,rfl,_⟩ <;> rfl
    ·rcases hO with ⟨_,rfl,rfl⟩|⟨_,_,_,_,rfl,rfl,_⟩ <;> rcases hL with ⟨_,rfl,rfl⟩|⟨_,_,_,_,rfl,rfl,_⟩ <;> (repeat first|exact aj|refine⟨aq.lit aa,?_⟩|refine⟨bW.mg (by assumption),?_⟩|refine⟨aq.append (.vals _) (.vals _),?_⟩|refine⟨aq.vals _,?_⟩)
  ·refine VS.aO aa (az (λe=>SW (aJ.1 e))) ?_;obtain rfl:z=N:=ae;rw[dM ae] at hI;obtain⟨hd1,Zd⟩:=Ob (cs:=cs) (xss:=xss) (y:=y) (n:=T) ae
   have hrs:gr kk (bo cs xs).length<=13000:=by
    rw[haln];have:z*(3*kk+2)<=64*(3*64+2):=kD ae ae;unfold gr;omega
   have HW:bU (cL kk+1) (dL cs xss T).length<=9000:=by
    have h1:cL (cL kk+1)+1<=68:=by unfold cL at*;omega
    have:(dL cs xss T).length*(cL (cL kk+1)+1)<=128*68:=kD zx h1;unfold bU;omega
   refine af ?_;refine VO.eX aa (fk Tryz.func177) (λtd β Cr xG ho=>(Vt _ (bo cs xs) kk td (hI.GV (eE kk) ho (by intro q hq;rcases hI with ⟨_,rfl,rfl⟩|⟨_,_,_,_,rfl,rfl,_⟩ <;> first|(cases hq;done)|(cases ay.1 hq;rcases hO with ⟨_,rfl,rfl⟩|⟨_,_,_,_,rfl,rfl,_⟩ <;> rcases hL with ⟨_,rfl,rfl⟩|⟨_,_,_,_,rfl,rfl,_⟩ <;> rfl)) bm) ae ae ae).mono ?_);rintro o w8 ⟨r8,rfl,q8,Bz⟩
   have Lc:zV (bn (bo cs xs)) 13000:=by
    have sL:∀ x∈bo cs xs,dy x.2.1 kk/\dy x.2.2 kk:=by
     rcases hI with ⟨dJ,_,_⟩|⟨n',c',vs,sp,_,_,iU⟩
     ·rw[dJ];intro x hx;cases hx
     ·intro x hx;obtain⟨i,hi⟩:=oG hx;obtain⟨cs0,_,h2,_⟩:=iU.cell (eE kk) hi;exact pJ.sz h2 ae
    exact (pH ae _ sL).mono hrs
   obtain⟨UQ,UR,UT,UW,UX,UY,UZ,Va,s8b,p8b,n8b,c8b,t8b,y8b,m8b,d8b,Vb,Vc,Vd,Ve,Vf,Vg,Vh,Vi,Vj,Vk,Vl,Vm,Vn,Vo,Vp,Vq,rfl,g1,g2,g3,g4⟩:=q8;refine aL Bz ?_;intro Cs _ Sw;refine VO.eX aa (fk Tryz.func178) (λAA β Nd Dw ho=>(Qx _ (dL cs xss T) kk (y:Int) AA (hL.GV (fA kk) ho (by intro q hq;rcases hL with ⟨_,rfl,rfl⟩|⟨_,_,_,_,rfl,rfl,_⟩ <;> first|(cases hq;done)|(cases ay.1 hq;rcases hI with ⟨_,rfl,rfl⟩|⟨_,_,_,_,rfl,rfl,_⟩ <;> rcases hO with ⟨_,rfl,rfl⟩|⟨_,_,_,_,rfl,rfl,_⟩ <;> rfl)) bm) ae ⟨ae,ae⟩ zx).mono ?_);rintro o w9 ⟨r9,rfl,q9,z9,Dg⟩;obtain⟨s9,p9,n9,c9,t9,y9,m9,d9,rfl⟩:=q9.form;rw[hd1] at q9 z9;have zd:dy (fh (dL cs xss (y+1)) (y:Int)) 9000:=z9.mono HW;refine aL Dg ?_;intro GK _ bb9;refine VO.cR aa aa (fk Bl) (λjN oc pd=>ko _ _ (bn (bo cs xs)).s (fh (dL cs xss (y+1)) (y:Int)) 13000 9000 jN (g2.ki Lc.s) (q9.ki zd) ae ae) (λjN oc pd Sx SI SJ OE SK t11 SL SM d11 Ka vn ny _ Ct=>wV aa ?_);refine af ?_;have zs:=Lc.s.sub zd;refine VO.eX aa (fk Tryz.func180) (λjC β nM nZ ho=>(Fz _ (dL cs xss T) kk (y:Int) jC (hL.GV (fA kk) ho (by intro q hq;rcases hL with ⟨_,rfl,rfl⟩|⟨_,_,_,_,rfl,rfl,_⟩ <;> first|(cases hq;done)|(cases ay.1 hq;rcases hI with ⟨_,rfl,rfl⟩|⟨_,_,_,_,rfl,rfl,_⟩ <;> rcases hO with ⟨_,rfl,rfl⟩|⟨_,_,_,_,rfl,rfl,_⟩ <;> rfl)) bm) hlw ae ⟨ae,ae⟩ zx).mono ?_);rintro o BQ ⟨r10,rfl,EH,z10,km⟩;obtain⟨OL,OM,Lb,OO,t10,OP,OQ,d10,rfl⟩:=EH.form;rw[Zd] at EH z10;have zb:dy (fN (dL cs xss (y+1)) (y:Int)) 9000:=z10.mono HW;refine aL km ?_;intro jM _ AB;refine VO.cR aa aa (fk Bl) (λlW qX uq=>ko _ _ ((bn (bo cs xs)).s-fh (dL cs xss (y+1)) (y:Int)) (bn (bo cs xs)).i 22001 13000 lW (Ka.ki zs) (g4.ki Lc.i) ae ae) (λlW qX uq Fa s12 OG OH OI t12 OJ OK d12 PF wm rS _ GL=>wV aa ?_);refine af ?_;have zo:=zs.sub Lc.i
   have hya:(fb cs xss)[y]? =some (FE (bn (bo cs xs)) (fh (dL cs xss (y+1)) y) (fN (dL cs xss (y+1)) y)):=by
    rw[jX ae];unfold gu;rw[zw]
   have iq:fC AK Fa [.bool UQ,.slice UR UT UW,.bool UX,.slice UY UZ Va,.bool SI,.slice SJ OE SK,.bool t11,.slice SL SM d11,.bool Vb,.slice Vc Vd Ve,.bool Vf,.slice Vg Vh Vi,.bool Vj,.slice Vk Vl Vm,.bool Vn,.slice Vo Vp Vq,.bool s9,.slice p9 n9 c9,.bool t9,.slice y9 m9 d9,.bool OL,.slice OM Lb OO,.bool t10,.slice OP OQ d10,.bool s12,.slice OG OH OI,.bool t12,.slice OJ OK d12] (FE (bn (bo cs xs)) (fh (dL cs xss (y+1)) y) (fN (dL cs xss (y+1)) y)):=
    ⟨_,_,_,_,_,_,_,rfl,.mk g1.k (Lc.b.mono (by unfold AK;omega)),.mk Ka.kr (zs.mono (by unfold AK;omega)),.mk g3.k (Lc.d.mono (by unfold AK;omega)),.mk g4.k (Lc.i.mono (by unfold AK;omega)),.mk q9.kr (zd.mono (by unfold AK;omega)),.mk EH.kr (zb.mono (by unfold AK;omega)),.mk PF.rd (zo.mono (by unfold AK;omega))⟩
   rcases hO with ⟨dJ,rfl,rfl⟩|⟨n',c',vs,sp,rfl,rfl,iU⟩
   ·refine VO.jg (cS _ _) (bt AK) (t:=192) (e:=209) (s:=155) (a:=(FE (bn (bo cs xs)) (fh (dL cs xss (y+1)) y) (fN (dL cs xss (y+1)) y))) (cs:=[.bool UQ,.slice UR UT UW,.bool UX,.slice UY UZ Va,.bool SI,.slice SJ OE SK,.bool t11,.slice SL SM d11,.bool Vb,.slice Vc Vd Ve,.bool Vf,.slice Vg Vh Vi,.bool Vj,.slice Vk Vl Vm,.bool Vn,.slice Vo Vp Vq,.bool s9,.slice p9 n9 c9,.bool t9,.slice y9 m9 d9,.bool OL,.slice OM Lb OO,.bool t10,.slice OP OQ d10,.bool s12,.slice OG OH OI,.bool t12,.slice OJ OK d12]) aa aa aa aa aa aa aa aa (bF aa) aa (by rcases hI with ⟨_,rfl,rfl⟩|⟨_,_,_,_,rfl,rfl,_⟩ <;> rcases hL with ⟨_,rfl,rfl⟩|⟨_,_,_,_,rfl,rfl,_⟩ <;> rfl) aa iq ae (λw9 cap sp k9 b9 gh=>wV aa ?_);refine af ?_;refine VS.back (T-(y+1)) ae ⟨_,_,?_,?_,?_,?_,⟨y+1,(.row 156 0 1 cap),[(156,_)],ae,aa,aa,aa,.inr ⟨1,cap,_,sp,aa,aa,by rw[aI hya,dJ];exact gh⟩,hL.kp (fA kk) bm⟩⟩
    ·rcases hI with ⟨_,rfl,rfl⟩|⟨_,_,_,_,rfl,rfl,_⟩ <;> rcases hL with ⟨_,rfl,rfl⟩|⟨_,_,_,_,rfl,rfl,_⟩ <;> (refine⟨aa,aa,aa,aa,aa,?_,aj⟩;rw[<-aA (i:=y) ae];rfl)
    ·rcases hI with ⟨_,rfl,rfl⟩|⟨_,_,_,_,rfl,rfl,_⟩ <;> rcases hL with ⟨_,rfl,rfl⟩|⟨_,_,_,_,rfl,rfl,_⟩ <;> (repeat first|exact aj|refine⟨aa,?_⟩|refine⟨ak (λl=>some (_,l)) (ba (by first|exact bW.dN (by assumption)|exact ah _|(rw[<-aQ];exact ah _)) _ _),?_⟩)
    ·rcases hI with ⟨_,rfl,rfl⟩|⟨_,_,_,_,rfl,rfl,_⟩ <;> rcases hL with ⟨_,rfl,rfl⟩|⟨_,_,_,_,rfl,rfl,_⟩ <;> rfl
    ·rcases hI with ⟨_,rfl,rfl⟩|⟨_,_,_,_,rfl,rfl,_⟩ <;> rcases hL with ⟨_,rfl,rfl⟩|⟨_,_,_,_,rfl,rfl,_⟩ <;> (repeat first|exact aj|refine⟨aq.lit aa,?_⟩|refine⟨bW.mg (by assumption),?_⟩|refine⟨aq.append (.vals _) (.vals _),?_⟩|refine⟨aq.vals _,?_⟩)
   ·have nY:=iU.len;refine VO.jh (cS _ _) (bt AK) (t:=192) (e:=209) (s:=155) (i:=156) (n:=n') (c:=c') (vs:=vs) (sp:=sp) (es:=(fb cs xss).take y) (a:=(FE (bn (bo cs xs)) (fh (dL cs xss (y+1)) y) (fN (dL cs xss (y+1)) y))) (cs:=[.bool UQ,.slice UR UT UW,.bool UX,.slice UY UZ Va,.bool SI,.slice SJ OE SK,.bool t11,.slice SL SM d11,.bool Vb,.slice Vc Vd Ve,.bool Vf,.slice Vg Vh Vi,.bool Vj,.slice Vk Vl Vm,.bool Vn,.slice Vo Vp Vq,.bool s9,.slice p9 n9 c9,.bool t9,.slice y9 m9 d9,.bool OL,.slice OM Lb OO,.bool t10,.slice OP OQ d10,.bool s12,.slice OG OH OI,.bool t12,.slice OJ OK d12]) aa aa aa aa aa aa aa aa (bF aa) aa (.inr aa) (by rcases hI with ⟨_,rfl,rfl⟩|⟨_,_,_,_,rfl,rfl,_⟩ <;> rcases hL with ⟨_,rfl,rfl⟩|⟨_,_,_,_,rfl,rfl,_⟩ <;> rfl) (iU.kp (bt AK) bm) aa iq (by rw[cw] at nY;omega) (λw9 il qH ρ k9 b9 gH gh=>wV aa ?_);refine af ?_;refine VS.back (T-(y+1)) ae ⟨_,_,?_,?_,?_,?_,⟨y+1,(.row 156 0 (n' +1) il),[(156,_)],ae,aa,aa,aa,.inr ⟨n' +1,il,_,qH,aa,aa,by rw[aI hya];exact gh⟩,hL.kp (fA kk) bm⟩⟩
    ·rcases hI with ⟨_,rfl,rfl⟩|⟨_,_,_,_,rfl,rfl,_⟩ <;> rcases hL with ⟨_,rfl,rfl⟩|⟨_,_,_,_,rfl,rfl,_⟩ <;> (refine⟨aa,aa,aa,aa,aa,?_,aj⟩;rw[<-aA (i:=y) ae];rfl)
    ·rcases hI with ⟨_,rfl,rfl⟩|⟨_,_,_,_,rfl,rfl,_⟩ <;> rcases hL with ⟨_,rfl,rfl⟩|⟨_,_,_,_,rfl,rfl,_⟩ <;> (repeat first|exact aj|refine⟨aa,?_⟩|refine⟨ak (λl=>some (_,l)) (ba (by first|exact bW.dN (by assumption)|exact ah _|(rw[<-aQ];exact ah _)) _ _),?_⟩)
    ·rcases hI with ⟨_,rfl,rfl⟩|⟨_,_,_,_,rfl,rfl,_⟩ <;> rcases hL with ⟨_,rfl,rfl⟩|⟨_,_,_,_,rfl,rfl,_⟩ <;> rfl
    ·rcases hI with ⟨_,rfl,rfl⟩|⟨_,_,_,_,rfl,rfl,_⟩ <;> rcases hL with ⟨_,rfl,rfl⟩|⟨_,_,_,_,rfl,rfl,_⟩ <;> (repeat first|exact aj|refine⟨aq.lit aa,?_⟩|refine⟨bW.mg (by assumption),?_⟩|refine⟨aq.append (.vals _) (.vals _),?_⟩|refine⟨aq.vals _,?_⟩)
 ·refine VS.aO aa (az (λe=>WU (aJ.1 e))) ?_;obtain rfl:y=T:=ae;rw[dM (by unfold fb;rw[bJ,Bb];omega)] at hO;rcases hO with ⟨dJ,rfl,rfl⟩|⟨n',c',vs,sp,rfl,rfl,iU⟩
  ·refine af ?_;rcases hL with ⟨_,rfl,rfl⟩|⟨_,_,_,_,rfl,rfl,_⟩
   ·refine aC ?_;intro wz kz bz;exact⟨_,aa,.inl ⟨aa,dJ⟩,bz⟩
   ·refine aC ?_;intro wz kz bz;exact⟨_,aa,.inl ⟨aa,dJ⟩,bz⟩
  ·refine af ?_;refine VS.lJ (cS _ _) aa (λwz β kz bz en=> ?_);exact⟨_,aa,iU.new (bt AK) (en.own 156 _ _ (by rcases hL with ⟨_,rfl,rfl⟩|⟨_,_,_,_,rfl,rfl,_⟩ <;> rfl)) kz,bz⟩
set_option maxRecDepth 4000
def VE (_:World) (cs:List Value) (v:Value):Prop:=cs=[v]/\∃ p n c,v=.slice p n c
theorem dR:gp VE 1 where
 kp:=λh _=>h
 len:=λh=>by rw[h.1];rfl
 ok:=λh=>by
  obtain⟨rfl,p,n,c,rfl⟩:=h;rfl
theorem aP.nil' {sz B:Nat}:aP E sz t B w (.slice none 0 0) []:=.inl ⟨rfl,rfl⟩
theorem pM {vs:List Value} {P:Nat->Value->Prop} {u:Value} (h:∀ i v,vs[i]? =some v->P i v) (hu:P vs.length u):∀ i v,(vs++[u])[i]? =some v->P i v:=λi v hi=>by
 by_cases hil:i<vs.length
 ·rw[jG hil] at hi;exact h i v hi
 ·rw[tM ae] at hi;have:=(cM.1 hi).1;rw[List.length_singleton] at this;obtain rfl:i=vs.length:=ae;rw[oJ] at hi;cases hi;exact hu
def pN (cs:List iT) (ts:List (List (List Rat))):Nat->Int
 | 0=>0
 | n+1=>if pN cs ts n=0 then gV cs (n:Int) ts else pN cs ts n
def Gb (cs:List iT) (ts:List (List (List Rat))) (n:Int):Int:=if n<0 then 2 else pN cs ts n.toNat
def Tb (cs:List iT) (ts:List (List (List Rat))) (n:Int):Nat:=if Gb cs ts n=0 then n.toNat else 0
theorem Gc {cs:List iT} {ts:List (List (List Rat))} {z:Nat} (h0:pN cs ts z=0) (h1:gV cs (z:Int) ts≠0):∀ {n:Nat},z<n->pN cs ts n=gV cs (z:Int) ts
 | 0,h=>ae
 | n+1,h=>by
   by_cases hn:n=z
   ·subst hn;unfold pN;rw[if_pos h0]
   ·have:=Gc h0 h1 (n:=n) ae;unfold pN;rw[if_neg (by rw[this];exact h1),this]
theorem Jv {n:Nat} (h0:pN cs ts z=0) (h1:gV cs (z:Int) ts≠0) (h:z<n):Gb cs ts (n:Int)=gV cs (z:Int) ts/\Tb cs ts (n:Int)=0:=by
 have h2:Gb cs ts (n:Int)=gV cs (z:Int) ts:=by
  unfold Gb;rw[if_neg ae,dV];exact Gc h0 h1 h
 exact⟨h2,if_neg (by rw[h2];exact h1)⟩
theorem Tc {n:Nat} (h0:pN cs ts n=0):Gb cs ts (n:Int)=0/\Tb cs ts (n:Int)=n:=by
 have h2:Gb cs ts (n:Int)=0:=by
  unfold Gb;rw[if_neg ae,dV];exact h0
 exact⟨h2,if_pos h2⟩
theorem Oc {n:Int} (h:n<0):Gb cs ts n=2/\Tb cs ts n=0:=by
 have h2:Gb cs ts n=2:=if_pos h;exact⟨h2,if_neg (by rw[h2];decide)⟩
def AllIn (t1 t2:TypeId) (cs:List iT) (ts:List (List (List Rat))) (n:Int) (w:World) (r:Value):Prop:=∃ vs,aP VE 1 t1 0 w r vs/\vs.length=Tb cs ts n/\∀ (i:Nat) (v:Value),vs[i]? =some v->aP (fC AK) 28 t2 0 w v (cf cs (i:Int) ts)
set_option maxRecDepth 4000 in
theorem aAll_any (v u:Value) (n:Int) (cs:List iT) (ts:List (List (List Rat))) (kk:Nat) (w:World) (hv:bh (fu kk) 6 w v cs) (hu:bh (gI kk) 1 w u ts) (hk:kk<=64) (iy:1<=kk) (hn:cs.length<=64) (hd:ts.length*cs.length<=128\/40<ts.length) (TF:n<=1000):
  Calls Tryz.prog 117 #[v,.int .i64 n,u] w λo w'=>∃ r,o=.returned (.tuple #[r,.int .i64 (Gb cs ts n)])/\AllIn 124 123 cs ts n w' r/\aD w w':=by
 obtain⟨p,c,rfl⟩:=hv.sl;obtain⟨p2,c2,rfl⟩:=hu.sl;obtain⟨N,hN⟩:∃ N,N=cs.length:=⟨_,aa⟩;obtain⟨T,hT⟩:∃ T,T=ts.length:=⟨_,aa⟩;rw[<-hN] at hv;rw[<-hT] at hu;rw[<-hN,<-hT];refine ai (C:=Ca Tryz.prog w _) (args:=[_,_,_]) Tryz.func117 aa Tryz.ntmps117 (bF aa) ?_;refine eu ?_;by_cases rG:n<0
 ·obtain⟨g1,g2⟩:=Oc (cs:=cs) (ts:=ts) rG;refine VS.aR aa (aw rG) ?_;refine eu ?_;refine VS.ret (ky _ _) aa aa (λwz kz bz=> ?_);exact⟨_,by rw[g1];rfl,⟨[],aP.nil',g2.symm,λi v hi=>(by simp at hi)⟩,bz⟩
 refine VS.aO aa (az rG) ?_;obtain⟨Z,rfl⟩:=tP (show 0<=n by omega);refine eu ?_;refine VS.loop (J:=λm L M w'=>∃ (z:Nat) (X:AV) (Mi:List (Nat×(TypeId×List AV))) (vs:List Value),z<=Z/\m=Z-z/\L=[(0,.val (.slice p N c)),(2,.val (.slice p2 T c2)),(8,X),(14,.val (.int .i64 (Z:Int))),(15,.val (.int .i64 (z:Int)))]/\M=Mi/\eF VE 1 124 31 X Mi w' vs/\vs.length=z/\pN cs ts z=0/\∀ (i:Nat) (v:Value),vs[i]? =some v->aP (fC AK) 28 123 0 w' v (cf cs (i:Int) ts)) Z ⟨_,_,?_,?_,?_,?_,⟨0,_,[],[],ae,aa,aa,aa,.inl ⟨aa,aa,aa⟩,aa,aa,λi v hi=>(by simp at hi)⟩⟩ ?_
 ·exact di
 ·exact di
 ·rfl
 ·exact fv
 rintro m L Mi wJ ⟨z,X,Mi2,zL,hz,rfl,rfl,rfl,hR,hlen,nW,hF⟩;refine VS.now (λwX kN bN=> ?_);replace hF:∀ (i:Nat) (v:Value),zL[i]? =some v->aP (fC AK) 28 123 0 wX v (cf cs (i:Int) ts):=λi v hi=>(hF i v hi).kp (bt AK) kN aa;replace hR:=hR.kp dR (bg.fq kN);refine VS.mask [30] (by rcases hR with ⟨_,rfl,rfl⟩|⟨_,_,_,_,rfl,rfl,_⟩ <;> (repeat first|exact aj|refine⟨aa,?_⟩)) ?_;refine eu ?_;by_cases hlt:z<Z
 ·refine VS.aR aa (aw (aJ.2 hlt)) ?_;refine eu ?_;refine VO.call aa aa (fk yc) (λaK bE aX=>(qJ _ _ (z:Int) cs ts kk aK (hv.bS (cW kk) aX) (hu.iI (iB kk) aX) ae ae hd).mono ?_);rintro o w1 ⟨r1,rfl,q1,aU⟩;obtain⟨pr,cr,rfl⟩:=q1.form;refine FN aU ?_;intro cQ _ bb1;by_cases hm:gV cs (z:Int) ts≠0
  ·obtain⟨g1,g2⟩:=Jv nW hm hlt;refine VS.aR aa (Fk hm) ?_;refine eu ?_;refine VS.ret (ky _ _) aa aa (λwz kz bz=> ?_);exact⟨_,by rw[g1];rfl,⟨[],aP.nil',g2.symm,λi v hi=>(by simp at hi)⟩,bz⟩
  refine VS.aO aa (qz (Hn.1 hm)) ?_;refine eu ?_;have iq:VE w1 [.slice pr (cf cs (z:Int) ts).length cr] (.slice pr (cf cs (z:Int) ts).length cr):=⟨aa,_,_,_,aa⟩;rcases hR with ⟨dJ,rfl,rfl⟩|⟨n',c',vs,sp,rfl,rfl,iU⟩
  ·refine VO.jg (ky _ _) dR (t:=195) (e:=124) (s:=30) (a:=.slice pr (cf cs (z:Int) ts).length cr) (cs:=[.slice pr (cf cs (z:Int) ts).length cr]) aa aa aa aa aa aa aa aa (bF aa) aa aa aa iq ae (λw9 cap sp k9 b9 gh=>wV aa ?_);refine eu ?_;refine VS.back (Z-(z+1)) ae ⟨_,_,?_,?_,?_,?_,⟨z+1,_,_,zL++[.slice pr (cf cs (z:Int) ts).length cr],ae,aa,aa,aa,by rw[dJ];exact .inr ⟨1,cap,_,sp,aa,aa,gh⟩,by rw[fH,hlen];rfl,by unfold pN;rw[if_pos nW,Hn.1 hm],pM (P:=λi v=>aP (fC AK) 28 123 0 w9 v (cf cs (i:Int) ts)) (λi v hi=>(hF i v hi).kp (bt AK) (show bg (Ca Tryz.prog w 34).K wX _ from bm) rfl) (show aP (fC AK) 28 123 0 w9 _ (cf cs (zL.length:Int) ts) from by rw[hlen];exact (q1.mono (eK _)).kp (bt AK) (show bg (Ca Tryz.prog w 34).K w1 w9 from bm) rfl)⟩⟩
   ·refine⟨aa,aa,aa,aa,?_,aj⟩;rw[<-aA (i:=z) ae];rfl
   ·(repeat first|exact aj|refine⟨aa,?_⟩|refine⟨ak (λl=>some (_,l)) (ba (by first|exact bW.dN (by assumption)|exact ah _|(rw[<-aQ];exact ah _)) _ _),?_⟩)
   ·rfl
   ·(repeat first|exact aj|refine⟨aq.lit aa,?_⟩|refine⟨bW.mg (by assumption),?_⟩|refine⟨aq.append (.vals _) (.vals _),?_⟩|refine⟨aq.vals _,?_⟩)
  ·have nY:=iU.len;refine VO.jh (ky _ _) dR (t:=195) (e:=124) (s:=30) (i:=31) (n:=n') (c:=c') (vs:=vs) (sp:=sp) (es:=zL) (a:=.slice pr (cf cs (z:Int) ts).length cr) (cs:=[.slice pr (cf cs (z:Int) ts).length cr]) aa aa aa aa aa aa aa aa (bF aa) aa (.inr aa) aa (iU.kp dR (bg.fq (show bg (Ca Tryz.prog w 34).K wX w1 from bm))) aa iq ae (λw9 il qH ρ k9 b9 gH gh=>wV aa ?_);refine eu ?_;refine VS.back (Z-(z+1)) ae ⟨_,_,?_,?_,?_,?_,⟨z+1,_,_,zL++[.slice pr (cf cs (z:Int) ts).length cr],ae,aa,aa,aa,.inr ⟨n' +1,il,_,qH,aa,aa,gh⟩,by rw[fH,hlen];rfl,by unfold pN;rw[if_pos nW,Hn.1 hm],pM (P:=λi v=>aP (fC AK) 28 123 0 w9 v (cf cs (i:Int) ts)) (λi v hi=>(hF i v hi).kp (bt AK) (show bg (Ca Tryz.prog w 34).K wX _ from bm) rfl) (show aP (fC AK) 28 123 0 w9 _ (cf cs (zL.length:Int) ts) from by rw[hlen];exact (q1.mono (eK _)).kp (bt AK) (show bg (Ca Tryz.prog w 34).K w1 w9 from bm) rfl)⟩⟩
   ·refine⟨aa,aa,aa,aa,?_,aj⟩;rw[<-aA (i:=z) ae];rfl
   ·(repeat first|exact aj|refine⟨aa,?_⟩|refine⟨ak (λl=>some (_,l)) (ba (by first|exact bW.dN (by assumption)|exact ah _|(rw[<-aQ];exact ah _)) _ _),?_⟩)
   ·rfl
   ·(repeat first|exact aj|refine⟨aq.lit aa,?_⟩|refine⟨bW.mg (by assumption),?_⟩|refine⟨aq.append (.vals _) (.vals _),?_⟩|refine⟨aq.vals _,?_⟩)
 ·refine VS.aO aa (az (λe=>hlt (aJ.1 e))) ?_;obtain rfl:z=Z:=ae;obtain⟨g1,g2⟩:=Tc nW;rcases hR with ⟨dJ,rfl,rfl⟩|⟨n',c',vs,sp,rfl,rfl,iU⟩
  ·refine eu ?_;refine VS.ret (ky _ _) aa aa (λwz kz bz=> ?_);subst dJ;exact⟨_,by rw[g1];rfl,⟨[],aP.nil',by rw[g2];exact hlen,λi v hi=>(by simp at hi)⟩,bz⟩
  ·refine eu ?_;refine VS.lJ (ky _ _) aa (λwz β kz bz en=> ?_);exact⟨_,by rw[g1];rfl,⟨zL,(iU.new dR (en.own 31 _ _ rfl) kz.fq).mono (eK _),by rw[g2];exact hlen,λi v hi=>(hF i v hi).kp (bt AK) kz aa⟩,bz⟩
set_option maxRecDepth 4000 in
theorem qAll_any (v u:Value) (n:Int) (cs:List iT) (ts:List (List (List Rat))) (kk:Nat) (w:World) (hv:bh (fu kk) 6 w v cs) (hu:bh (gI kk) 1 w u ts) (hk:kk<=64) (iy:1<=kk) (hn:cs.length<=64) (hd:ts.length*cs.length<=128\/40<ts.length) (TF:n<=1000):
  Calls Tryz.prog 118 #[v,.int .i64 n,u] w λo w'=>∃ r,o=.returned (.tuple #[r,.int .i64 (Gb cs ts n)])/\AllIn 192 209 cs ts n w' r/\aD w w':=by
 obtain⟨p,c,rfl⟩:=hv.sl;obtain⟨p2,c2,rfl⟩:=hu.sl;obtain⟨N,hN⟩:∃ N,N=cs.length:=⟨_,aa⟩;obtain⟨T,hT⟩:∃ T,T=ts.length:=⟨_,aa⟩;rw[<-hN] at hv;rw[<-hT] at hu;rw[<-hN,<-hT];refine ai (C:=Ca Tryz.prog w _) (args:=[_,_,_]) Tryz.func118 aa Tryz.ntmps118 (bF aa) ?_;refine eu ?_;by_cases rG:n<0
 ·obtain⟨g1,g2⟩:=Oc (cs:=cs) (ts:=ts) rG;refine VS.aR aa (aw rG) ?_;refine eu ?_;refine VS.ret (ky _ _) aa aa (λwz kz bz=> ?_);exact⟨_,by rw[g1];rfl,⟨[],aP.nil',g2.symm,λi v hi=>(by simp at hi)⟩,bz⟩
 refine VS.aO aa (az rG) ?_;obtain⟨Z,rfl⟩:=tP (show 0<=n by omega);refine eu ?_;refine VS.loop (J:=λm L M w'=>∃ (z:Nat) (X:AV) (Mi:List (Nat×(TypeId×List AV))) (vs:List Value),z<=Z/\m=Z-z/\L=[(0,.val (.slice p N c)),(1,.val (.int .i64 (Z:Int))),(2,.val (.slice p2 T c2)),(8,X),(9,.val (.int .i64 (z:Int)))]/\M=Mi/\eF VE 1 192 32 X Mi w' vs/\vs.length=z/\pN cs ts z=0/\∀ (i:Nat) (v:Value),vs[i]? =some v->aP (fC AK) 28 209 0 w' v (cf cs (i:Int) ts)) Z ⟨_,_,?_,?_,?_,?_,⟨0,_,[],[],ae,aa,aa,aa,.inl ⟨aa,aa,aa⟩,aa,aa,λi v hi=>(by simp at hi)⟩⟩ ?_
 ·exact di
 ·exact di
 ·rfl
 ·exact fv
 rintro m L Mi wJ ⟨z,X,Mi2,zL,hz,rfl,rfl,rfl,hR,hlen,nW,hF⟩;refine VS.now (λwX kN bN=> ?_);replace hF:∀ (i:Nat) (v:Value),zL[i]? =some v->aP (fC AK) 28 209 0 wX v (cf cs (i:Int) ts):=λi v hi=>(hF i v hi).kp (bt AK) kN aa;replace hR:=hR.kp dR (bg.fq kN);refine VS.mask [31] (by rcases hR with ⟨_,rfl,rfl⟩|⟨_,_,_,_,rfl,rfl,_⟩ <;> (repeat first|exact aj|refine⟨aa,?_⟩)) ?_;refine eu ?_;by_cases hlt:z<Z
 ·refine VS.aR aa (aw (aJ.2 hlt)) ?_;refine eu ?_;refine VO.call aa aa (fk Tryz.func116) (λaK bE aX=>(Ju _ _ (z:Int) cs ts kk aK (hv.bS (cW kk) aX) (hu.iI (iB kk) aX) ae ae ae hd).mono ?_);rintro o w1 ⟨r1,rfl,q1,aU⟩;obtain⟨pr,cr,rfl⟩:=q1.form;refine FN aU ?_;intro cQ _ bb1;by_cases hm:gV cs (z:Int) ts≠0
  ·obtain⟨g1,g2⟩:=Jv nW hm hlt;refine VS.aR aa (Fk hm) ?_;refine eu ?_;refine VS.ret (ky _ _) aa aa (λwz kz bz=> ?_);exact⟨_,by rw[g1];rfl,⟨[],aP.nil',g2.symm,λi v hi=>(by simp at hi)⟩,bz⟩
  refine VS.aO aa (qz (Hn.1 hm)) ?_;refine eu ?_;have iq:VE w1 [.slice pr (cf cs (z:Int) ts).length cr] (.slice pr (cf cs (z:Int) ts).length cr):=⟨aa,_,_,_,aa⟩;rcases hR with ⟨dJ,rfl,rfl⟩|⟨n',c',vs,sp,rfl,rfl,iU⟩
  ·refine VO.jg (ky _ _) dR (t:=198) (e:=192) (s:=31) (a:=.slice pr (cf cs (z:Int) ts).length cr) (cs:=[.slice pr (cf cs (z:Int) ts).length cr]) aa aa aa aa aa aa aa aa (bF aa) aa aa aa iq ae (λw9 cap sp k9 b9 gh=>wV aa ?_);refine eu ?_;refine VS.back (Z-(z+1)) ae ⟨_,_,?_,?_,?_,?_,⟨z+1,_,_,zL++[.slice pr (cf cs (z:Int) ts).length cr],ae,aa,aa,aa,by rw[dJ];exact .inr ⟨1,cap,_,sp,aa,aa,gh⟩,by rw[fH,hlen];rfl,by unfold pN;rw[if_pos nW,Hn.1 hm],pM (P:=λi v=>aP (fC AK) 28 209 0 w9 v (cf cs (i:Int) ts)) (λi v hi=>(hF i v hi).kp (bt AK) (show bg (Ca Tryz.prog w 34).K wX _ from bm) rfl) (show aP (fC AK) 28 209 0 w9 _ (cf cs (zL.length:Int) ts) from by rw[hlen];exact (q1.mono (eK _)).kp (bt AK) (show bg (Ca Tryz.prog w 34).K w1 w9 from bm) rfl)⟩⟩
   ·refine⟨aa,aa,aa,aa,?_,aj⟩;rw[<-aA (i:=z) ae];rfl
   ·(repeat first|exact aj|refine⟨aa,?_⟩|refine⟨ak (λl=>some (_,l)) (ba (by first|exact bW.dN (by assumption)|exact ah _|(rw[<-aQ];exact ah _)) _ _),?_⟩)
   ·rfl
   ·(repeat first|exact aj|refine⟨aq.lit aa,?_⟩|refine⟨bW.mg (by assumption),?_⟩|refine⟨aq.append (.vals _) (.vals _),?_⟩|refine⟨aq.vals _,?_⟩)
  ·have nY:=iU.len;refine VO.jh (ky _ _) dR (t:=198) (e:=192) (s:=31) (i:=32) (n:=n') (c:=c') (vs:=vs) (sp:=sp) (es:=zL) (a:=.slice pr (cf cs (z:Int) ts).length cr) (cs:=[.slice pr (cf cs (z:Int) ts).length cr]) aa aa aa aa aa aa aa aa (bF aa) aa (.inr aa) aa (iU.kp dR (bg.fq (show bg (Ca Tryz.prog w 34).K wX w1 from bm))) aa iq ae (λw9 il qH ρ k9 b9 gH gh=>wV aa ?_);refine eu ?_;refine VS.back (Z-(z+1)) ae ⟨_,_,?_,?_,?_,?_,⟨z+1,_,_,zL++[.slice pr (cf cs (z:Int) ts).length cr],ae,aa,aa,aa,.inr ⟨n' +1,il,_,qH,aa,aa,gh⟩,by rw[fH,hlen];rfl,by unfold pN;rw[if_pos nW,Hn.1 hm],pM (P:=λi v=>aP (fC AK) 28 209 0 w9 v (cf cs (i:Int) ts)) (λi v hi=>(hF i v hi).kp (bt AK) (show bg (Ca Tryz.prog w 34).K wX _ from bm) rfl) (show aP (fC AK) 28 209 0 w9 _ (cf cs (zL.length:Int) ts) from by rw[hlen];exact (q1.mono (eK _)).kp (bt AK) (show bg (Ca Tryz.prog w 34).K w1 w9 from bm) rfl)⟩⟩
   ·refine⟨aa,aa,aa,aa,?_,aj⟩;rw[<-aA (i:=z) ae];rfl
   ·(repeat first|exact aj|refine⟨aa,?_⟩|refine⟨ak (λl=>some (_,l)) (ba (by first|exact bW.dN (by assumption)|exact ah _|(rw[<-aQ];exact ah _)) _ _),?_⟩)
   ·rfl
   ·(repeat first|exact aj|refine⟨aq.lit aa,?_⟩|refine⟨bW.mg (by assumption),?_⟩|refine⟨aq.append (.vals _) (.vals _),?_⟩|refine⟨aq.vals _,?_⟩)
 ·refine VS.aO aa (az (λe=>hlt (aJ.1 e))) ?_;obtain rfl:z=Z:=ae;obtain⟨g1,g2⟩:=Tc nW;rcases hR with ⟨dJ,rfl,rfl⟩|⟨n',c',vs,sp,rfl,rfl,iU⟩
  ·refine eu ?_;refine VS.ret (ky _ _) aa aa (λwz kz bz=> ?_);subst dJ;exact⟨_,by rw[g1];rfl,⟨[],aP.nil',by rw[g2];exact hlen,λi v hi=>(by simp at hi)⟩,bz⟩
  ·refine eu ?_;refine VS.lJ (ky _ _) aa (λwz β kz bz en=> ?_);exact⟨_,by rw[g1];rfl,⟨zL,(iU.new dR (en.own 32 _ _ rfl) kz.fq).mono (eK _),by rw[g2];exact hlen,λi v hi=>(hF i v hi).kp (bt AK) kz aa⟩,bz⟩
set_option maxRecDepth 4000
def RowsB (w:World) (cs:List Value) (r:List Rat):Prop:=lR 4 w cs r/\r.length<=12
def TabB (w:World) (cs:List Value) (t:List (List Rat)):Prop:=∃ v,cs=[v]/\bh RowsB 1 w v t/\t.length<=5
def FewB (w:World) (u v:Value) (cs:List iT) (ts:List (List (List Rat))):Prop:=bh (fu 4) 6 w u cs/\bh TabB 1 w v ts/\cs.length<=12/\(ts.length<=6\/40<ts.length/\ts.length<50)
theorem tabB_tab (h:bh TabB 1 w v ts):bh (gI 4) 1 w v ts/\∀ t∈ts,t.length<=5/\∀ r∈t,r.length<=12:=by
 refine⟨h.mono (λi a cs _ hb=> ?_),λt ht=> ?_⟩
 ·obtain⟨v,rfl,h1,_⟩:=hb;exact⟨v,aa,h1.mono (λ_ _ _ _ hr=>hr.1)⟩
 ·obtain⟨cs,v,rfl,h1,h2⟩:=h.mem ht;refine⟨h2,λr hr=> ?_⟩;obtain⟨cs,h3,h4⟩:=h1.mem hr;exact h4
set_option maxRecDepth 4000 in
theorem QU (u v:Value) (cs:List iT) (ts:List (List (List Rat))) (kk:Nat) (w0 w:World) (hu:bh (fu kk) 6 w0 u cs) (hv:bh (gI kk) 1 w0 v ts) (h0:aD w0 w):
  Calls Tryz.prog 112 #[u,v] w λe w'=>∃ b,e=.returned (.bool b)/\(b=true->FewB w0 u v cs ts)/\aD w w':=by
 obtain⟨p,c,rfl,eS,gv⟩:=hu.form;obtain⟨p2,c2,rfl,CP,GW⟩:=hv.form;obtain⟨N,hN⟩:∃ N,N=cs.length:=⟨_,aa⟩;obtain⟨T,hT⟩:∃ T,T=ts.length:=⟨_,aa⟩;rw[<-hN] at hu eS;rw[<-hT] at hv CP;rw[<-hN,<-hT];refine ai (C:=bd Tryz.prog w _) (args:=[_,_]) Tryz.func112 aa Tryz.ntmps112 (bF aa) ?_;refine af ?_;refine VS.loop (J:=λm L M w'=>∃ z:Nat,z<=N/\z<=13/\m=N-z/\L=[(0,.val (.slice p N c)),(1,.val (.slice p2 T c2)),(5,.val (.int .i64 (z:Int)))]/\M=[]/\kx (fu 4) 6 w0 p cs z) N ⟨_,_,?_,?_,?_,?_,⟨0,ae,ae,aa,aa,aa,kx.zero⟩⟩ ?_
 ·exact di
 ·exact di
 ·rfl
 ·exact fv
 rintro m L M wJ ⟨z,hz,hz13,rfl,rfl,rfl,IC⟩;apply VS.hop (P:=λF' H' w'=>Entry (λm L M w'=>∃ i:Nat,i<=T/\i<=50/\m=T-i/\L=[(0,.val (.slice p N c)),(1,.val (.slice p2 T c2)),(6,.val (.int .i64 (i:Int)))]/\M=[]/\kx TabB 1 w0 p2 ts i) T F' H' w'/\(N<=12->bh (fu 4) 6 w0 (.slice p N c) cs))
 ·intro cont;refine af ?_;by_cases hlt:z<N
  ·refine VO.fix 13 aa (ak (λb=>AV.val (.bool b)) (aw (aJ.2 hlt))) ?_;refine af ?_;by_cases h13:(z:Int)<13
   ·refine VS.aR aa (aw h13) ?_;obtain⟨x,hx⟩:∃ x,cs[z]? =some x:=⟨_,bj ae⟩;obtain⟨b,off,csx,rfl,hc,⟨nm,s,pp,n,cc,t,y,mm,d,rfl,rb,hr⟩⟩:=hu.at hx;refine af ?_;refine VO.cond aa eh ?_;refine wV aa ?_;refine af ?_;refine VO.read aa [.bool s,.slice pp n cc,.bool t,.slice y mm d] aa (bc (λj u hj=>h0.cell (hc j u hj)) 2 _ ⟨[],aa⟩) (wV aa ?_);refine af ?_;refine VO.call aa aa (fk tW) (λaK bE aX=>(fD _ x.2 kk aK (hr.kp (Kp.of (U:=UU) (h0.aN aX)))).mono ?_);rintro e w1 ⟨b1,rfl,l1,aU⟩;cases b1 with
    | false=>
      refine aL aU ?_;intro cQ _ bb1;refine aC ?_;intro wz kz bz;exact⟨_,aa,λh=>(by cases h),bz⟩
    | true=>
      refine aL aU ?_;intro cQ _ bb1;refine VS.back (N-(z+1)) ae ⟨_,_,?_,?_,?_,?_,⟨z+1,ae,ae,aa,aa,aa,IC.snoc hx hc (fu.le rb hr (l1 aa))⟩⟩
      ·refine⟨aa,aa,?_,aj⟩;rw[<-aA (i:=z) ae];rfl
      ·exact di
      ·rfl
      ·exact fv
   ·refine VS.aO aa (az h13) ?_;refine af ?_;refine cont _ _ _ ⟨⟨_,_,?_,?_,?_,?_,⟨0,ae,ae,aa,aa,aa,kx.zero⟩⟩,λh=>absurd h ae⟩
    ·exact di
    ·exact di
    ·rfl
    ·exact fv
  ·refine VO.fix 13 aa (ak (λb=>AV.val (.bool b)) (az (λe=>hlt (aJ.1 e)))) ?_;refine af ?_;refine cont _ _ _ ⟨⟨_,_,?_,?_,?_,?_,⟨0,ae,ae,aa,aa,aa,kx.zero⟩⟩,λ_=>kx.all (show kx (fu 4) 6 w0 p cs N from (show z=N by omega)▸IC) hu⟩
   ·exact di
   ·exact di
   ·rfl
   ·exact fv
 rintro F1 H1 w1 ⟨hent,kP⟩;clear IC;refine VS.loop T hent ?_;rintro m L M wK ⟨i,hi,hi50,rfl,rfl,rfl,IC⟩;refine af ?_;by_cases hex:i<T/\i<50
 ·obtain⟨hlt,hl5⟩:=hex;refine VO.fix 30 aa (ak (λb=>AV.val (.bool b)) (aw (aJ.2 hlt))) ?_;refine af ?_;refine VS.aR aa (aw (show (i:Int)<50 by omega)) ?_;obtain⟨tb,ht⟩:∃ x,ts[i]? =some x:=⟨_,bj ae⟩;obtain⟨b,off,csx,rfl,hc,⟨tv,rfl,zH⟩⟩:=hv.at ht;obtain⟨pr,cr,rfl⟩:=zH.sl;obtain⟨R,hR⟩:∃ R,R=tb.length:=⟨_,aa⟩;rw[<-hR] at zH hc;refine af ?_;refine VS.loop (J:=λm L M w'=>∃ e:Nat,e<=R/\e<=5/\m=R-e/\L=[(0,.val (.slice p N c)),(1,.val (.slice (some ⟨b,off,none⟩) T c2)),(6,.val (.int .i64 (i:Int))),(7,.val (.int .i64 (e:Int)))]/\M=[]/\kx RowsB 1 w0 pr tb e) R ⟨_,_,?_,?_,?_,?_,⟨0,ae,ae,aa,aa,aa,kx.zero⟩⟩ ?_
  ·exact di
  ·exact di
  ·rfl
  ·exact fv
  rintro m L M wL ⟨e,he,he5,rfl,rfl,rfl,hupr⟩;refine af ?_;refine VO.cond aa eh ?_;refine wV aa ?_;refine af ?_;refine VO.read aa [.slice pr R cr] aa (cP (λj u hj=>h0.cell (hc j u hj))) (wV aa ?_);refine af ?_;by_cases hle:e<R
  ·refine VS.aR aa (aw (aJ.2 hle)) ?_;refine af ?_;by_cases h4:(e:Int)>4
   ·refine VO.fix 48 aa (ak (λb=>AV.val (.bool b)) (aw h4)) ?_;refine af ?_;refine aC ?_;intro wz kz bz;exact⟨_,aa,λh=>(by cases h),bz⟩
   refine VO.fix 48 aa (ak (λb=>AV.val (.bool b)) (az h4)) ?_;refine af ?_;obtain⟨GY,hrw⟩:∃ x,tb[e]? =some x:=⟨_,bj ae⟩;obtain⟨br,GZ,csr,rfl,QK,⟨rv,rfl,AP⟩⟩:=zH.at hrw;obtain⟨pc,cc,rfl⟩:=AP.sl;obtain⟨K,hK⟩:∃ K,K=GY.length:=⟨_,aa⟩;rw[<-hK] at AP QK;refine VO.cond aa eh ?_;refine wV aa ?_;refine af ?_;refine VO.read aa [.slice (some ⟨br,GZ,none⟩) R cr] aa (cP (λj u hj=>h0.cell (hc j u hj))) (wV aa ?_);refine af ?_;refine VO.cond aa eh ?_;refine wV aa ?_;refine af ?_;refine VO.read aa [.slice pc K cc] aa (cP (λj u hj=>h0.cell (QK j u hj))) (wV aa ?_);refine af ?_;by_cases YF:(K:Int)>12
   ·refine VS.aR aa (aw YF) ?_;refine af ?_;refine aC ?_;intro wz kz bz;exact⟨_,aa,λh=>(by cases h),bz⟩
   refine VS.aO aa (az YF) ?_;refine af ?_;refine VS.loop (J:=λm L M w'=>∃ q:Nat,q<=K/\m=K-q/\L=[(0,.val (.slice p N c)),(1,.val (.slice (some ⟨b,off,none⟩) T c2)),(6,.val (.int .i64 (i:Int))),(7,.val (.int .i64 (e:Int))),(8,.val (.int .i64 (q:Int)))]/\M=[]/\kx (iJ 4) 4 w0 pc GY q) K ⟨_,_,?_,?_,?_,?_,⟨0,ae,aa,aa,aa,kx.zero⟩⟩ ?_
   ·exact di
   ·exact di
   ·rfl
   ·exact fv
   rintro m L M wM ⟨q,hq,rfl,rfl,rfl,hupc⟩;refine af ?_;refine VO.cond aa eh ?_;refine wV aa ?_;refine af ?_;refine VO.read aa [.slice (some ⟨br,GZ,none⟩) R cr] aa (cP (λj u hj=>h0.cell (hc j u hj))) (wV aa ?_);refine af ?_;refine VO.cond aa eh ?_;refine wV aa ?_;refine af ?_;refine VO.read aa [.slice pc K cc] aa (cP (λj u hj=>h0.cell (QK j u hj))) (wV aa ?_);refine af ?_;by_cases hlq:q<K
   ·refine VS.aR aa (aw (aJ.2 hlq)) ?_;refine af ?_;obtain⟨x,hx⟩:∃ x,GY[q]? =some x:=⟨_,bj ae⟩;obtain⟨bx,offx,csx,rfl,pO,⟨s,pp,n,cx,t,y,mm,d,rfl,hrt⟩⟩:=AP.at hx;refine VO.cond aa eh ?_;refine wV aa ?_;refine af ?_;refine VO.read aa [.slice (some ⟨br,GZ,none⟩) R cr] aa (cP (λj u hj=>h0.cell (hc j u hj))) (wV aa ?_);refine af ?_;refine VO.cond aa eh ?_;refine wV aa ?_;refine af ?_;refine VO.read aa [.slice (some ⟨bx,offx,none⟩) K cc] aa (cP (λj u hj=>h0.cell (QK j u hj))) (wV aa ?_);refine af ?_;refine VO.cond aa eh ?_;refine wV aa ?_;refine af ?_;refine VO.read aa [.bool s,.slice pp n cx,.bool t,.slice y mm d] aa (bc (λj u hj=>h0.cell (pO j u hj)) 0 _ ⟨[],aa⟩) (wV aa ?_);refine af ?_;refine VO.call aa aa (fk tW) (λaK bE aX=>(fD _ x kk aK (hrt.kp (Kp.of (U:=UU) (h0.aN aX)))).mono ?_);rintro e1 w2 ⟨b1,rfl,l1,aU⟩;cases b1 with
    | false=>
      refine aL aU ?_;intro cQ _ bb1;refine aC ?_;intro wz kz bz;exact⟨_,aa,λh=>(by cases h),bz⟩
    | true=>
      refine aL aU ?_;intro cQ _ bb1;refine VS.back (K-(q+1)) ae ⟨_,_,?_,?_,?_,?_,⟨q+1,ae,aa,aa,aa,hupc.snoc hx pO (iJ.mk (hrt.le (l1 aa)))⟩⟩
      ·refine⟨aa,aa,aa,aa,?_,aj⟩;rw[<-aA (i:=q) ae];rfl
      ·exact di
      ·rfl
      ·exact fv
   ·refine VS.aO aa (az (λe=>hlq (aJ.1 e))) ?_;obtain rfl:q=K:=ae;refine af ?_;refine VS.back (R-(e+1)) ae ⟨_,_,?_,?_,?_,?_,⟨e+1,ae,ae,aa,aa,aa,hupr.snoc hrw QK ⟨⟨_,aa,hupc.all AP⟩,ae⟩⟩⟩
    ·refine⟨aa,aa,aa,?_,aj⟩;rw[<-aA (i:=e) ae];rfl
    ·exact di
    ·rfl
    ·exact fv
  ·refine VS.aO aa (az (λe=>hle (aJ.1 e))) ?_;obtain rfl:e=R:=ae;refine af ?_;refine VS.back (T-(i+1)) ae ⟨_,_,?_,?_,?_,?_,⟨i+1,ae,ae,aa,aa,aa,IC.snoc ht hc ⟨_,aa,hupr.all zH,ae⟩⟩⟩
   ·refine⟨aa,aa,?_,aj⟩;rw[<-aA (i:=i) ae];rfl
   ·exact di
   ·rfl
   ·exact fv
 ·apply VO.via (P:=λF' H' w'=>Entry (λ_ L M w'=>L=[(0,.val (.slice p N c)),(1,.val (.slice p2 T c2))]/\M=[]) 0 F' H' w')
  ·intro cont;by_cases hlt:i<T
   ·refine VO.fix 30 aa (ak (λb=>AV.val (.bool b)) (aw (aJ.2 hlt))) ?_;refine af ?_;refine VS.aO aa (az (show ¬ (i:Int)<50 by omega)) ?_
    (repeat (first|refine wN ?_|refine wP aa ?_|refine wO aa aa ?_))
    refine cont _ _ _ ⟨_,_,?_,?_,?_,?_,aa,aa⟩
    ·exact di
    ·exact di
    ·rfl
    ·exact fv
   ·refine VO.fix 30 aa (ak (λb=>AV.val (.bool b)) (az (λe=>hlt (aJ.1 e)))) ?_
    (repeat (first|refine wN ?_|refine wP aa ?_|refine wO aa aa ?_))
    refine cont _ _ _ ⟨_,_,?_,?_,?_,?_,aa,aa⟩
    ·exact di
    ·exact di
    ·rfl
    ·exact fv
  ·rintro F2 H2 w2 ⟨_,_,e1,e2,e3,e4,rfl,rfl⟩;refine VS.narrow _ _ e1 e2 e3 e4 ?_;refine af ?_;by_cases FO:(N:Int)<=12
   ·refine VO.fix 89 aa (ak (λb=>AV.val (.bool b)) (aw FO)) ?_;refine af ?_;by_cases Ld:(T:Int)<=6
    ·refine VO.fix 93 aa (ak (λb=>AV.val (.bool b)) (aw Ld)) ?_;refine af ?_;refine aC ?_;intro wz kz bz;obtain rfl:i=T:=ae;exact⟨_,aa,λ_=>⟨kP ae,IC.all hv,ae,.inl ae⟩,bz⟩
    ·refine VO.fix 93 aa (ak (λb=>AV.val (.bool b)) (az Ld)) ?_;refine af ?_;by_cases h40:(T:Int)>40
     ·refine VO.fix 97 aa (ak (λb=>AV.val (.bool b)) (aw h40)) ?_;refine af ?_;refine aC ?_;intro wz kz bz;refine⟨_,aa,λh=> ?_,bz⟩;have h50:(T:Int)<50:=nO h;obtain rfl:i=T:=ae;exact⟨kP ae,IC.all hv,ae,.inr ⟨ae,ae⟩⟩
     ·refine VO.fix 97 aa (ak (λb=>AV.val (.bool b)) (az h40)) ?_;refine af ?_;refine aC ?_;intro wz kz bz;exact⟨_,aa,λh=>(by cases h),bz⟩
   ·refine VO.fix 89 aa (ak (λb=>AV.val (.bool b)) (az FO)) ?_;refine af ?_;refine aC ?_;intro wz kz bz;exact⟨_,aa,λh=>(by cases h),bz⟩
set_option maxRecDepth 4000
abbrev WV:KC:=⟨UU,λ_=>True,λt=>Nat.beq t 38⟩
abbrev cxU (P:Program) (w:World) (N:Nat) (ad:List Nat) (hd:ad.Nodup) (ha:iR WV ad w):Cx:=wk P w N WV (λt=>Nat.beq t 23) table (λ_ _=>trivial) ad hd ha
theorem QV (w:World) (N:Nat) {ad:List Nat} {hd:ad.Nodup} {ha:iR WV ad w}:(cxU Tryz.prog w N ad hd ha).Ok:=fy
section
variable {F F':Fr} {H H':Hp} {w w1:World} {N:Nat} {l':List Oper} {Q:Exit->Act->World->Prop} {k:List It} {id:Nat} {ops:Array Oper}
theorem cxU_r {ad:List Nat} {hd:ad.Nodup} {ha:iR WV ad w1} (e:jJ (cxU Tryz.prog w1 N ad hd ha) ops 80 ops.toList F H=(l',F',H')) (h:aB (cxU Tryz.prog w1 N ad hd ha) none ops l' (VS (cxU Tryz.prog w1 N ad hd ha) Q k) F' H' w):VS (cxU Tryz.prog w1 N ad hd ha) Q (.code (.region id ops false)::k) F H w:=VS.region (QV _ _) (VO.run 80 e h)
end
abbrev WW:KC:=⟨UU,λ_=>True,λt=>(Nat.beq t 38 || Nat.beq t 147)⟩
abbrev cxY (P:Program) (w:World) (N:Nat) (ad:List Nat) (hd:ad.Nodup) (ha:iR WW ad w):Cx:=wk P w N WW (λt=>Nat.beq t 23) table (λ_ _=>trivial) ad hd ha
theorem QW (w:World) (N:Nat) {ad:List Nat} {hd:ad.Nodup} {ha:iR WW ad w}:(cxY Tryz.prog w N ad hd ha).Ok:=fy
section
variable {F F':Fr} {H H':Hp} {w w1:World} {N:Nat} {l':List Oper} {Q:Exit->Act->World->Prop} {k:List It} {id:Nat} {ops:Array Oper}
theorem cxY_r {ad:List Nat} {hd:ad.Nodup} {ha:iR WW ad w1} (e:jJ (cxY Tryz.prog w1 N ad hd ha) ops 80 ops.toList F H=(l',F',H')) (h:aB (cxY Tryz.prog w1 N ad hd ha) none ops l' (VS (cxY Tryz.prog w1 N ad hd ha) Q k) F' H' w):VS (cxY Tryz.prog w1 N ad hd ha) Q (.code (.region id ops false)::k) F H w:=VS.region (QW _ _) (VO.run 80 e h)
end
variable {w:World}
theorem tJ {g:Nat} {t t':TypeId} {a b:Array Value} (h:cN w g t a) (k:cN w g t' b):t=t':=by
 have:=(show w.heap[g]? =_ from h).symm.trans (show w.heap[g]? =_ from k);injection this with this
 injection this
variable {vs:List Value} {α:Type} {es:List α} {v:Value} {E:World->List Value->α->Prop}
theorem zM (h:bh VE 1 w v vs) (hl:vs.length=es.length) (hg:∀ (i:Nat) (u:Value) (a:α),vs[i]? =some u->es[i]? =some a->E w [u] a):bh E 1 w v es:=by
 obtain⟨p,c,rfl,h1,h2,h3⟩:=h;refine⟨p,c,by rw[hl],by rw[<-hl];exact h1,h2,λi a ha=> ?_⟩;obtain⟨u,hu⟩:∃ u,vs[i]? =some u:=⟨_,bj (by rw[hl];exact (cM.1 ha).1)⟩;obtain⟨b,off,cs,hp,hc,hE⟩:=h3 i u hu;obtain⟨rfl,-⟩:=hE;exact⟨b,off,_,hp,hc,hg i u a hu ha⟩
def zN (kk:Nat) (w:World) (v:Value) (t:List (List Rat)):Prop:=∃ vs,aP VE 1 147 0 w v vs/\vs.length=t.length/\∀ (i:Nat) (u:Value) (r:List Rat),vs[i]? =some u->t[i]? =some r->aP (iJ kk) 4 38 0 w u r
variable {t:List (List Rat)} {kk:Nat} {T:TypeId->Bool} {w':World}
theorem zN.kp (h:zN kk w v t) (k:KZ T w w') (h1:T 147=true) (h2:T 38=true):zN kk w' v t:=by
 obtain⟨vs,g1,g2,g3⟩:=h;exact⟨vs,g1.kp dR k h1,g2,λi u r hi hr=>(g3 i u r hi hr).kp (bV kk) k h2⟩
theorem zN.bS (h:zN kk w v t) (hb:aD w w'):zN kk w' v t:=h.kp (T:=λ_=>true) (bg.of hb) rfl rfl
theorem zN.NV (h:zN kk w v t):gI kk w [v] t:=by
 obtain⟨vs,g1,g2,g3⟩:=h;exact⟨v,aa,zM (g1.sl dR) g2 (λi u r hi hr=>⟨u,aa,(g3 i u r hi hr).sl (bV kk)⟩)⟩
def Gd (kk:Nat) (w:World) (v:Value) (ts:List (List (List Rat))):Prop:=∃ vs,aP VE 1 46 0 w v vs/\vs.length=ts.length/\∀ (i:Nat) (u:Value) (t:List (List Rat)),vs[i]? =some u->ts[i]? =some t->zN kk w u t
variable {ts:List (List (List Rat))}
theorem Gd.kp (h:Gd kk w v ts) (k:KZ T w w') (h0:T 46=true) (h1:T 147=true) (h2:T 38=true):Gd kk w' v ts:=by
 obtain⟨vs,g1,g2,g3⟩:=h;exact⟨vs,g1.kp dR k h0,g2,λi u r hi hr=>(g3 i u r hi hr).kp k h1 h2⟩
theorem Gd.tabs (h:Gd kk w v ts):bh (gI kk) 1 w v ts:=by
 obtain⟨vs,g1,g2,g3⟩:=h;exact zM (g1.sl dR) g2 (λi u t hi ht=>(g3 i u t hi ht).NV)
theorem aP.bS {sz B:Nat} {t:TypeId} (hE:gp E sz) (h:aP E sz t B w v es) (hb:aD w w'):aP E sz t B w' v es:=h.kp hE (T:=λ_=>true) (bg.of hb) rfl
theorem Dz {l:List α} {P:Value->α->Prop} {u:Value} {a:α} (h:∀ (i:Nat) (v:Value) (x:α),vs[i]? =some v->l[i]? =some x->P v x) (ha:l[vs.length]? =some a) (hu:P u a):∀ (i:Nat) (v:Value) (x:α),(vs++[u])[i]? =some v->l[i]? =some x->P v x:=λi v x hi hx=>by
 by_cases hil:i<vs.length
 ·rw[jG hil] at hi;exact h i v x hi hx
 ·rw[tM ae] at hi;have:=(cM.1 hi).1;rw[List.length_singleton] at this;obtain rfl:i=vs.length:=ae;rw[oJ] at hi;cases hi;rw[ha] at hx;cases hx;exact hu
variable {P Q:Prop}
theorem Td (h:Q) (i:Q->P:=by intro h;(repeat first|refine wN ?_|refine wP rfl ?_|refine cxU_r rfl ?_|refine cxU_d rfl ?_|refine wO rfl rfl ?_);exact h):P:=i h
theorem Te (h:Q) (i:Q->P:=by intro h;(repeat first|refine wN ?_|refine wP rfl ?_|refine cxY_r rfl ?_|refine cxY_d rfl ?_|refine wO rfl rfl ?_);exact h):P:=i h
set_option maxRecDepth 4000 in
theorem QX (v:Value) (ts:List (List (List Rat))) (kk:Nat) (w:World) (hv:bh (gI kk) 1 w v ts) (hk:kk<=1000) (hb:∀ t∈ts,t.length<=5/\∀ r∈t,r.length<=12) (hn:ts.length<=1000):
  Calls Tryz.prog 114 #[v] w λo w'=>∃ r,o=.returned r/\Gd kk w' r ts/\aD w w':=by
 obtain⟨p,c,rfl⟩:=hv.sl;obtain⟨T,hT⟩:∃ T,T=ts.length:=⟨_,aa⟩;rw[<-hT] at hv hn;rw[<-hT];refine ai (C:=bd Tryz.prog w _) (args:=[_]) Tryz.func114 aa Tryz.ntmps114 (bF aa) ?_;refine af ?_
 refine VS.Jq (J:=λm L W=>∃ (y:Nat) (ov:Value) (vs:List Value),y<=T/\m=T-y/\L=[(0,.slice p T c),(3,ov),(4,.int .i64 (y:Int))]/\aD w W/\aP VE 1 46 w.heap.size W ov vs/\vs.length=y/\∀ (i:Nat) (u:Value) (t:List (List Rat)),vs[i]? =some u->ts[i]? =some t->zN kk W u t)
  (λW=>bd Tryz.prog W 64) (λ_=>rfl) (λ_=>rfl) (λ_=>aD.refl _) T (λw' β k o en=>⟨[(0,.slice p T c),(3,.slice none 0 0),(4,.int .i64 ((0:Nat):Int))],⟨⟨_,_,rfl,rfl,rfl⟩,⟨_,_,rfl,rfl,rfl⟩,⟨_,_,rfl,rfl,rfl⟩,aj⟩,0,_,[],ae,rfl,rfl,o,.inl ⟨rfl,rfl⟩,rfl,λi u t hi=>(by simp at hi)⟩) ?_
 rintro m L W ⟨y,ov,vs,hy,rfl,rfl,Ce,hout,hvl,Wi⟩;have hvW:bh (gI kk) 1 W (.slice p T c) ts:=hv.iI (iB kk) Ce;refine af ?_;by_cases WU:y<T
 ·obtain⟨tb,ht⟩:∃ t,ts[y]? =some t:=⟨_,bj ae⟩;obtain⟨je,wm⟩:=hb tb (dz ht);obtain⟨bT,nN,csT,rfl,SX,⟨tv,rfl,BZ⟩⟩:=hvW.at ht;obtain⟨pr,cr,rfl⟩:=BZ.sl;obtain⟨R,hR⟩:∃ R,R=tb.length:=⟨_,aa⟩;rw[<-hR] at BZ SX je;refine VS.aR aa (aw (aJ.2 WU)) ?_;refine af ?_
  refine VS.Jq (J:=λm L W2=>∃ (e g:Nat) (rv:Value) (us:List Value),e<=R/\m=R-e/\L=[(0,.slice (some ⟨bT,nN,none⟩) T c),(3,ov),(4,.int .i64 (y:Int)),(5,.pointer (some ⟨g,0,none⟩)),(6,.int .i64 (e:Int))]/\aD W W2/\W.heap.size<=g/\cN W2 g 46 #[rv]/\aP VE 1 147 W.heap.size W2 rv us/\us.length=e/\∀ (i:Nat) (u:Value) (r:List Rat),us[i]? =some u->tb[i]? =some r->aP (iJ kk) 4 38 0 W2 u r)
   (λW=>bd Tryz.prog W 64) (λ_=>rfl) (λ_=>rfl) (λ_=>aD.refl _) R (λw' β k o en=>⟨[(0,.slice (some ⟨bT,nN,none⟩) T c),(3,ov),(4,.int .i64 (y:Int)),(5,.pointer (some ⟨β 5,0,none⟩)),(6,.int .i64 ((0:Nat):Int))],⟨⟨_,_,rfl,rfl,rfl⟩,⟨_,_,rfl,rfl,rfl⟩,⟨_,_,rfl,rfl,rfl⟩,⟨_,_,rfl,rfl,rfl⟩,⟨_,_,rfl,rfl,rfl⟩,aj⟩,0,β 5,.slice none 0 0,[],ae,rfl,rfl,o,(en.own 5 _ _ rfl).new,(en.own 5 _ _ rfl).cls,.inl ⟨rfl,rfl⟩,rfl,λi u r hi=>(by simp at hi)⟩) ?_
  rintro m L W2 ⟨e,g,rv,us,he,rfl,rfl,CS,hgW,WX,hrv,hul,WS⟩;have htv2:bh (lR kk) 1 W2 (.slice pr R cr) tb:=BZ.iI (pL kk) CS;have hcT2:∀ (j:Nat) (u:Value),[Value.slice pr R cr][j]? =some u->W2.cell? ⟨bT,nN+y*1+j,none⟩=some u:=λj u hj=>CS.cell (SX j u hj);refine af ?_;refine VO.cond aa eh ?_;refine wV aa ?_;refine af ?_;refine VO.read aa [.slice pr R cr] aa (cP hcT2) (wV aa ?_);refine af ?_;by_cases heR:e<R
  ·obtain⟨GY,hrw⟩:∃ x,tb[e]? =some x:=⟨_,bj ae⟩;have hr12:=wm GY (dz hrw);obtain⟨br,GZ,csr,rfl,QK,⟨xv,rfl,AP⟩⟩:=htv2.at hrw;obtain⟨pc,cc,rfl⟩:=AP.sl;obtain⟨K,hK⟩:∃ K,K=GY.length:=⟨_,aa⟩;rw[<-hK] at AP QK hr12;refine VS.aR aa (aw (aJ.2 heR)) ?_;refine af ?_;refine VS.loop (J:=λm L M w'=>∃ (z:Nat) (X:AV) (Mi:List (Nat×(TypeId×List AV))),z<=K/\m=K-z/\L=[(0,.val (.slice (some ⟨bT,nN,none⟩) T c)),(3,.val ov),(4,.val (.int .i64 (y:Int))),(5,.val (.pointer (some ⟨g,0,none⟩))),(6,.val (.int .i64 (e:Int))),(7,X),(8,.val (.int .i64 (z:Int)))]/\M=Mi/\eF (iJ kk) 4 38 52 X Mi w' (GY.take z)) K ⟨_,_,?_,?_,?_,?_,⟨0,_,[],ae,aa,aa,aa,.inl ⟨aa,aa,aa⟩⟩⟩ ?_
   ·exact di
   ·exact di
   ·rfl
   ·exact fv
   rintro m L Mi wI ⟨z,X,Mi2,hz,rfl,rfl,rfl,hI⟩;refine VS.now (λwX kN bN=> ?_);replace hI:=hI.kp (bV kk) (bg.fq kN);refine VS.mask [51] (by rcases hI with ⟨_,rfl,rfl⟩|⟨_,_,_,_,rfl,rfl,_⟩ <;> (repeat first|exact aj|refine⟨aa,?_⟩)) ?_;refine af ?_;refine VO.cond aa eh ?_;refine wV aa ?_;refine af ?_;refine VO.read aa [.slice (some ⟨br,GZ,none⟩) R cr] aa (cP hcT2) (wV aa ?_);refine af ?_;refine VO.cond aa eh ?_;refine wV aa ?_;refine af ?_;refine VO.read aa [.slice pc K cc] aa (cP QK) (wV aa ?_);refine af ?_;by_cases hzK:z<K
   ·obtain⟨x,hx⟩:∃ x,GY[z]? =some x:=⟨_,bj ae⟩;obtain⟨bx,offx,csx,rfl,pO,⟨s0,p0,n0,c0,t0,y0,m0,d0,rfl,lV⟩⟩:=AP.at hx;refine VS.aR aa (aw (aJ.2 hzK)) ?_;refine af ?_;refine VO.cond aa eh ?_;refine wV aa ?_;refine af ?_;refine VO.read aa [.slice (some ⟨br,GZ,none⟩) R cr] aa (cP hcT2) (wV aa ?_);refine af ?_;refine VO.cond aa eh ?_;refine wV aa ?_;refine af ?_;refine VO.read aa [.slice (some ⟨bx,offx,none⟩) K cc] aa (cP QK) (wV aa ?_);refine af ?_;refine VO.cond aa eh ?_;refine wV aa ?_;refine af ?_;refine VO.read aa [.bool s0,.slice p0 n0 c0,.bool t0,.slice y0 m0 d0] aa (bc pO 0 _ ⟨[],aa⟩) (wV aa ?_);refine af ?_;refine VO.cR aa aa (fk mY) (λaK bE aX=>iK _ x kk aK (lV.kp (Kp.of (U:=UU) aX)) ae) (λaK bE aX w1 s1 p1 n1 c1 t1 y1 m1 d1 q1 aU cQ _ bb1=>wV aa ?_);refine af ?_;have iq:iJ kk w1 [.bool s1,.slice p1 n1 c1,.bool t1,.slice y1 m1 d1] x:=.mk q1.k;rcases hI with ⟨dJ,rfl,rfl⟩|⟨n',c',vs,sp,rfl,rfl,iU⟩
    ·refine VO.jg (cS _ _) (bV kk) (t:=147) (e:=38) (s:=51) (a:=x) (cs:=[.bool s1,.slice p1 n1 c1,.bool t1,.slice y1 m1 d1]) aa aa aa aa aa aa aa aa (bF aa) aa aa aa iq ae (λw9 cap sp k9 b9 gh=>wV aa ?_);refine af ?_;refine VS.back (K-(z+1)) ae ⟨_,_,?_,?_,?_,?_,⟨z+1,_,_,ae,aa,aa,aa,.inr ⟨1,cap,_,sp,aa,aa,by rw[aI hx,dJ];exact gh⟩⟩⟩
     ·(refine⟨aa,aa,aa,aa,aa,aa,?_,aj⟩;rw[<-aA (i:=z) ae];rfl)
     ·(repeat first|exact aj|refine⟨aa,?_⟩|refine⟨ak (λl=>some (_,l)) (ba (by first|exact bW.dN (by assumption)|exact ah _|(rw[<-aQ];exact ah _)) _ _),?_⟩)
     ·rfl
     ·(repeat first|exact aj|refine⟨aq.lit aa,?_⟩|refine⟨bW.mg (by assumption),?_⟩|refine⟨aq.append (.vals _) (.vals _),?_⟩|refine⟨aq.vals _,?_⟩)
    ·have nY:=iU.len;refine VO.jh (cS _ _) (bV kk) (t:=147) (e:=38) (s:=51) (i:=52) (n:=n') (c:=c') (vs:=vs) (sp:=sp) (es:=GY.take z) (a:=x) (cs:=[.bool s1,.slice p1 n1 c1,.bool t1,.slice y1 m1 d1]) aa aa aa aa aa aa aa aa (bF aa) aa (.inr aa) aa (iU.kp (bV kk) bm) aa iq (by rw[cw] at nY;omega) (λw9 il qH ρ k9 b9 gH gh=>wV aa ?_);refine af ?_;refine VS.back (K-(z+1)) ae ⟨_,_,?_,?_,?_,?_,⟨z+1,_,_,ae,aa,aa,aa,.inr ⟨n' +1,il,_,qH,aa,aa,by rw[aI hx];exact gh⟩⟩⟩
     ·(refine⟨aa,aa,aa,aa,aa,aa,?_,aj⟩;rw[<-aA (i:=z) ae];rfl)
     ·(repeat first|exact aj|refine⟨aa,?_⟩|refine⟨ak (λl=>some (_,l)) (ba (by first|exact bW.dN (by assumption)|exact ah _|(rw[<-aQ];exact ah _)) _ _),?_⟩)
     ·rfl
     ·(repeat first|exact aj|refine⟨aq.lit aa,?_⟩|refine⟨bW.mg (by assumption),?_⟩|refine⟨aq.append (.vals _) (.vals _),?_⟩|refine⟨aq.vals _,?_⟩)
   refine VS.aO aa (az (λe=>hzK (aJ.1 e))) ?_;obtain rfl:z=K:=ae;rw[dM ae] at hI;subst hul;refine VS.qM WV (λt=>Nat.beq t 23) table (λ_ _ _=>trivial) (λjf yV k1 QP OS=> ?_);have eR:aD W2 jf:=QP;have fx:=hI.told (bV kk) OS (by intro q hq;rcases hI with ⟨_,rfl,rfl⟩|⟨_,_,_,_,rfl,rfl,_⟩ <;> first|(cases hq;done)|(cases ay.1 hq;rfl)) k1.fq 0 (λ_=>eK _);have CT:=WX.bS eR;have hWs:=CS.size;have Od:=eR.size;rcases hrv with ⟨rfl,rfl⟩|⟨b0,cB,KD,KE,rfl,hBg,zJ,FV,FX,QQ,QR,QS⟩
   ·have xM:jW WV 64 [g] [(46,[.val (.slice none 0 0)])] jf:=by
     refine⟨aa,cZ,λj g' c' hj hc=> ?_,λc' hc=> ?_,λc' hc k hk=> ?_⟩
     ·match j,hj,hc with
      | 0,hj,hc=>cases hj;cases hc;exact CT
      | j+1,hj,_=>simp at hj
     ·cases ay.1 hc;exact⟨aa,aa⟩
     ·cases ay.1 hc;cases hk
    refine⟨[g],[(46,[.val (.slice none 0 0)])],xM,[(0,.val (.slice (some ⟨bT,nN,none⟩) T c)),(3,.val ov),(4,.val (.int .i64 (y:Int))),(5,.box 128 0),(6,.val (.int .i64 (([]:List Value).length:Int))),(7,.val (X.bH yV))],⟨⟨_,aa,aa,λi hi=>(by cases hi)⟩,⟨_,aa,aa,λi hi=>(by cases hi)⟩,⟨_,aa,aa,λi hi=>(by cases hi)⟩,⟨_,aa,aa,λi hi=>by rw[(by simpa [AV.ids] using hi:i=128)];exact⟨(by show 128<=128;omega),(by show 128<2*64+1;omega)⟩⟩,⟨_,aa,aa,λi hi=>(by cases hi)⟩,⟨_,aa,aa,λi hi=>(by cases hi)⟩,aj⟩,?_⟩;generalize X.bH yV=vv at fx ⊢;obtain⟨KF,KG,rfl⟩:=fx.form;refine Td ?_;refine VO.jg (QV _ _) dR (t:=44) (e:=147) (s:=56) (a:=.slice KF GY.length KG) (cs:=[.slice KF GY.length KG]) aa aa aa aa aa aa aa aa (bF aa) aa aa aa ⟨aa,_,_,_,aa⟩ ae (λuz cap sp NS SV gh=>wV aa ?_);refine Td ?_;refine VS.vC aa (R-(([]:List Value).length+1)) ae (λw' dQ k' o' Ha=> ?_);have qq:bg WV jf w':=(show bg WV jf uz from bm).aN k';have Wm:aD W w':=rj.bS (CS.aN eR) o'.1 (λx hx=>by rw[ay.1 hx];omega);have hst:eF VE 1 147 57 (.row 57 0 1 cap) [(57,(147,_))] uz ([.slice KF GY.length KG]):=.inr ⟨_,cap,_,sp,aa,aa,gh⟩;have rO:=hst.told dR Ha (λx hx=>by cases ay.1 hx;rfl) k'.fq W.heap.size (λh=>(fO (show jz 64 [g] jf 57 (dQ 57) from h)).elim (λq=>bG hWs (bG Od q)) (λq=>by rw[ay.1 q];omega));have Oz:=Ha.own 128 _ _ aa;have KH:dQ 128=g:=(zt Oz 0 g aa aa).1;refine⟨[(0,.slice (some ⟨bT,nN,none⟩) T c),(3,ov),(4,.int .i64 (y:Int)),(5,.pointer (some ⟨dQ 128,0,none⟩)),(6,.int .i64 ((([]:List Value).length+1:Nat):Int))],⟨⟨_,_,aa,aa,aa⟩,⟨_,_,aa,aa,aa⟩,⟨_,_,aa,aa,aa⟩,⟨_,_,aa,aa,aa⟩,⟨_,_,aa,ak (λz=>Value.int .i64 z) (aA (i:=([]:List Value).length) ae),aa⟩,aj⟩,([]:List Value).length+1,dQ 128,.slice (some ⟨dQ 57,0,none⟩) 1 cap,[Value.slice KF GY.length KG],ae,aa,aa,Wm,by rw[KH];exact hgW,Oz.cls,rO,cZ,?_⟩;refine Dz (vs:=([]:List Value)) (l:=tb) (P:=λu r=>aP (iJ kk) 4 38 0 w' u r) (λi u r hi hr=>((WS i u r hi hr).bS (bV kk) eR).kp (bV kk) qq aa) hrw (fx.kp (bV kk) qq aa)
   ·have QY:=zJ.bS eR;have hgb:g≠b0:=λh=>by rw[h] at CT;exact absurd (tJ CT QY) eL
    have xM:jW WV 64 [g,b0] [(46,[.row 129 0 us.length cB]),(147,KD.flatten.map .val++KE.map .val)] jf:=by
     refine⟨aa,by simp[hgb],λj g' c' hj hc=> ?_,λc' hc=> ?_,λc' hc k hk=> ?_⟩
     ·match j,hj,hc with
      | 0,hj,hc=>cases hj;cases hc;exact CT
      | 1,hj,hc=>cases hj;cases hc;rw[<-aQ,aV];exact QY
      | j+2,hj,_=>simp at hj
     ·rcases eD.1 hc with rfl|hc
      ·exact⟨aa,aa⟩
      ·cases ay.1 hc;exact⟨aa,by rw[<-aQ];exact dx (by rw[kW,(FV.ok dR).1,FX];rfl)⟩
     ·rcases eD.1 hc with rfl|hc
      ·have:k=129:=by simpa [bM,AV.dN] using hk
       subst this;exact⟨ae,by show 129<2*64+2;omega⟩
      ·cases ay.1 hc;rw[<-aQ,ah] at hk;cases hk
    have hNB:bW VE 1 jf us.length cB KD (KE.map .val) us:=⟨aa,FV.kp dR (Kp.of (U:=UU) eR),dx FX,ah _,QQ,QR,by rw[<-aQ,bJ];exact QS⟩;refine⟨[g,b0],[(46,[.row 129 0 us.length cB]),(147,KD.flatten.map .val++KE.map .val)],xM,[(0,.val (.slice (some ⟨bT,nN,none⟩) T c)),(3,.val ov),(4,.val (.int .i64 (y:Int))),(5,.box 128 0),(6,.val (.int .i64 (us.length:Int))),(7,.val (X.bH yV))],⟨⟨_,aa,aa,λi hi=>(by cases hi)⟩,⟨_,aa,aa,λi hi=>(by cases hi)⟩,⟨_,aa,aa,λi hi=>(by cases hi)⟩,⟨_,aa,aa,λi hi=>by rw[(by simpa [AV.ids] using hi:i=128)];exact⟨(by show 128<=128;omega),(by show 128<2*64+2;omega)⟩⟩,⟨_,aa,aa,λi hi=>(by cases hi)⟩,⟨_,aa,aa,λi hi=>(by cases hi)⟩,aj⟩,?_⟩;generalize X.bH yV=vv at fx ⊢;obtain⟨KF,KG,rfl⟩:=fx.form;refine Td ?_;refine VO.jh (QV _ _) dR (t:=44) (e:=147) (s:=56) (i:=129) (n:=us.length) (c:=cB) (vs:=KD) (sp:=KE.map .val) (es:=us) (a:=.slice KF GY.length KG) (cs:=[.slice KF GY.length KG]) aa aa aa aa aa aa aa aa (bF aa) aa (.inl aa) aa (hNB.kp dR (bg.fq (show bg WV jf _ from bm))) aa ⟨aa,_,_,_,aa⟩ ae (λuz cap sp ρ NS SV gH gh=>wV aa ?_);refine Td ?_;refine VS.vC aa (R-(us.length+1)) ae (λw' dQ k' o' Ha=> ?_);have qq:bg WV jf w':=(show bg WV jf uz from bm).aN k'
    have Wm:aD W w':=rj.bS (CS.aN eR) o'.1 (λx hx=>by
     rcases eD.1 hx with rfl|hx
     ·omega
     ·rw[ay.1 hx];omega)
    have hst:eF VE 1 147 57 (.row 57 0 (us.length+1) cap) [(57,(147,_))] uz (us++[.slice KF GY.length KG]):=.inr ⟨_,cap,_,sp,aa,aa,gh⟩
    have rO:=hst.told dR Ha (λx hx=>by cases ay.1 hx;rfl) k'.fq W.heap.size (λh=>(fO (show jz 64 [g,b0] jf 57 (dQ 57) from h)).elim (λq=>bG hWs (bG Od q)) (λq=>by
     rcases eD.1 q with h|h
     ·rw[h];omega
     ·rw[ay.1 h];omega))
    have Oz:=Ha.own 128 _ _ aa;have KH:dQ 128=g:=(zt Oz 0 g aa aa).1;refine⟨[(0,.slice (some ⟨bT,nN,none⟩) T c),(3,ov),(4,.int .i64 (y:Int)),(5,.pointer (some ⟨dQ 128,0,none⟩)),(6,.int .i64 ((us.length+1:Nat):Int))],⟨⟨_,_,aa,aa,aa⟩,⟨_,_,aa,aa,aa⟩,⟨_,_,aa,aa,aa⟩,⟨_,_,aa,aa,aa⟩,⟨_,_,aa,ak (λz=>Value.int .i64 z) (aA (i:=us.length) ae),aa⟩,aj⟩,us.length+1,dQ 128,.slice (some ⟨dQ 57,0,none⟩) (us.length+1) cap,us++[Value.slice KF GY.length KG],ae,aa,aa,Wm,by rw[KH];exact hgW,Oz.cls,rO,cZ,?_⟩;refine Dz (vs:=us) (l:=tb) (P:=λu r=>aP (iJ kk) 4 38 0 w' u r) (λi u r hi hr=>((WS i u r hi hr).bS (bV kk) eR).kp (bV kk) qq aa) hrw (fx.kp (bV kk) qq aa)
  refine VS.aO aa (az (λh=>heR (aJ.1 h))) ?_;obtain rfl:e=R:=ae;subst hvl
  (repeat (first|refine wN ?_|refine wP aa ?_|refine wO aa aa ?_))
  refine VS.qM WW (λt=>Nat.beq t 23) table (λ_ _ _=>trivial) (λjf yV k1 QP OS=> ?_);have eR:aD W2 jf:=QP;have CT:=WX.bS eR;have hWs:=CS.size;have hWs0:=Ce.size;have Od:=eR.size;obtain⟨WY,WZ,rfl⟩:=hrv.form;rcases hout with ⟨rfl,rfl⟩|⟨b0,cB,KD,KE,rfl,hBg,zJ,FV,FX,QQ,QR,QS⟩
  ·have xM:jW WW 64 [g] [(46,[.val (.slice WY us.length WZ)])] jf:=by
    refine⟨aa,cZ,λj g' c' hj hc=> ?_,λc' hc=> ?_,λc' hc k hk=> ?_⟩
    ·match j,hj,hc with
     | 0,hj,hc=>cases hj;cases hc;exact CT
     | j+1,hj,_=>simp at hj
    ·cases ay.1 hc;exact⟨aa,aa⟩
    ·cases ay.1 hc;cases hk
   refine⟨[g],[(46,[.val (.slice WY us.length WZ)])],xM,[(0,.val (.slice (some ⟨bT,nN,none⟩) T c)),(3,.val (.slice none 0 0)),(4,.val (.int .i64 (([]:List Value).length:Int))),(5,.box 128 0)],⟨⟨_,aa,aa,λi hi=>(by cases hi)⟩,⟨_,aa,aa,λi hi=>(by cases hi)⟩,⟨_,aa,aa,λi hi=>(by cases hi)⟩,⟨_,aa,aa,λi hi=>by rw[(by simpa [AV.ids] using hi:i=128)];exact⟨(by show 128<=128;omega),(by show 128<2*64+1;omega)⟩⟩,aj⟩,?_⟩;refine Te ?_;refine VO.jg (QW _ _) dR (t:=81) (e:=46) (s:=61) (a:=.slice WY us.length WZ) (cs:=[.slice WY us.length WZ]) aa aa aa aa aa aa aa aa (bF aa) aa aa aa ⟨aa,_,_,_,aa⟩ ae (λuz cap sp NS SV gh=>wV aa ?_);refine Te ?_;refine VS.vC aa (T-(([]:List Value).length+1)) ae (λw' dQ k' o' Ha=> ?_);have qq:bg WW jf w':=(show bg WW jf uz from bm).aN k';have Wm:aD w w':=rj.bS (Ce.aN (CS.aN eR)) o'.1 (λx hx=>by rw[ay.1 hx];omega);have hst:eF VE 1 46 62 (.row 62 0 1 cap) [(62,(46,_))] uz ([.slice WY us.length WZ]):=.inr ⟨_,cap,_,sp,aa,aa,gh⟩;have rO:=hst.told dR Ha (λx hx=>by cases ay.1 hx;rfl) k'.fq w.heap.size (λh=>(fO (show jz 64 [g] jf 62 (dQ 62) from h)).elim (λq=>bG hWs0 (bG hWs (bG Od q))) (λq=>by rw[ay.1 q];omega));refine⟨[(0,.slice (some ⟨bT,nN,none⟩) T c),(3,.slice (some ⟨dQ 62,0,none⟩) 1 cap),(4,.int .i64 ((([]:List Value).length+1:Nat):Int))],⟨⟨_,_,aa,aa,aa⟩,⟨_,_,aa,aa,aa⟩,⟨_,_,aa,ak (λz=>Value.int .i64 z) (aA (i:=([]:List Value).length) ae),aa⟩,aj⟩,([]:List Value).length+1,.slice (some ⟨dQ 62,0,none⟩) 1 cap,[Value.slice WY us.length WZ],ae,aa,aa,Wm,rO,cZ,?_⟩;refine Dz (vs:=([]:List Value)) (l:=ts) (P:=λu t=>zN kk w' u t) (λi u t hi ht'=>((Wi i u t hi ht').bS (CS.aN eR)).kp qq aa aa) ht (zN.kp ⟨us,(hrv.mono (eK _)).bS dR eR,ae,λi u r hi hr=>(WS i u r hi hr).bS (bV kk) eR⟩ qq aa aa)
  ·have QY:=zJ.bS (CS.aN eR);have hgb:g≠b0:=λh=>by have:=zJ.lt;omega
   have xM:jW WW 64 [g,b0] [(46,[.val (.slice WY us.length WZ)]),(46,KD.flatten.map .val++KE.map .val)] jf:=by
    refine⟨aa,by simp[hgb],λj g' c' hj hc=> ?_,λc' hc=> ?_,λc' hc k hk=> ?_⟩
    ·match j,hj,hc with
     | 0,hj,hc=>cases hj;cases hc;exact CT
     | 1,hj,hc=>cases hj;cases hc;rw[<-aQ,aV];exact QY
     | j+2,hj,_=>simp at hj
    ·rcases eD.1 hc with rfl|hc
     ·exact⟨aa,aa⟩
     ·cases ay.1 hc;exact⟨aa,by rw[<-aQ];exact dx (by rw[kW,(FV.ok dR).1,FX];rfl)⟩
    ·rcases eD.1 hc with rfl|hc
     ·cases hk
     ·cases ay.1 hc;rw[<-aQ,ah] at hk;cases hk
   have hNB:bW VE 1 jf vs.length cB KD (KE.map .val) vs:=⟨aa,FV.kp dR (Kp.of (U:=UU) (CS.aN eR)),dx FX,ah _,QQ,QR,by rw[<-aQ,bJ];exact QS⟩;refine⟨[g,b0],[(46,[.val (.slice WY us.length WZ)]),(46,KD.flatten.map .val++KE.map .val)],xM,[(0,.val (.slice (some ⟨bT,nN,none⟩) T c)),(3,.row 129 0 vs.length cB),(4,.val (.int .i64 (vs.length:Int))),(5,.box 128 0)],⟨⟨_,aa,aa,λi hi=>(by cases hi)⟩,⟨_,aa,aa,λi hi=>by rw[(by simpa [AV.ids] using hi:i=129)];exact⟨(by show 128<=129;omega),(by show 129<2*64+2;omega)⟩⟩,⟨_,aa,aa,λi hi=>(by cases hi)⟩,⟨_,aa,aa,λi hi=>by rw[(by simpa [AV.ids] using hi:i=128)];exact⟨(by show 128<=128;omega),(by show 128<2*64+2;omega)⟩⟩,aj⟩,?_⟩;refine Te ?_;refine VO.jh (QW _ _) dR (t:=81) (e:=46) (s:=61) (i:=129) (n:=vs.length) (c:=cB) (vs:=KD) (sp:=KE.map .val) (es:=vs) (a:=.slice WY us.length WZ) (cs:=[.slice WY us.length WZ]) aa aa aa aa aa aa aa aa (bF aa) aa (.inl aa) aa (hNB.kp dR (bg.fq (show bg WW jf _ from bm))) aa ⟨aa,_,_,_,aa⟩ ae (λuz cap sp ρ NS SV gH gh=>wV aa ?_);refine Te ?_;refine VS.vC aa (T-(vs.length+1)) ae (λw' dQ k' o' Ha=> ?_);have qq:bg WW jf w':=(show bg WW jf uz from bm).aN k'
   have Wm:aD w w':=rj.bS (Ce.aN (CS.aN eR)) o'.1 (λx hx=>by
    rcases eD.1 hx with rfl|hx
    ·omega
    ·rw[ay.1 hx];omega)
   have hst:eF VE 1 46 62 (.row 62 0 (vs.length+1) cap) [(62,(46,_))] uz (vs++[.slice WY us.length WZ]):=.inr ⟨_,cap,_,sp,aa,aa,gh⟩
   have rO:=hst.told dR Ha (λx hx=>by cases ay.1 hx;rfl) k'.fq w.heap.size (λh=>(fO (show jz 64 [g,b0] jf 62 (dQ 62) from h)).elim (λq=>bG hWs0 (bG hWs (bG Od q))) (λq=>by
    rcases eD.1 q with h|h
    ·rw[h];omega
    ·rw[ay.1 h];omega))
   refine⟨[(0,.slice (some ⟨bT,nN,none⟩) T c),(3,.slice (some ⟨dQ 62,0,none⟩) (vs.length+1) cap),(4,.int .i64 ((vs.length+1:Nat):Int))],⟨⟨_,_,aa,aa,aa⟩,⟨_,_,aa,aa,aa⟩,⟨_,_,aa,ak (λz=>Value.int .i64 z) (aA (i:=vs.length) ae),aa⟩,aj⟩,vs.length+1,.slice (some ⟨dQ 62,0,none⟩) (vs.length+1) cap,vs++[Value.slice WY us.length WZ],ae,aa,aa,Wm,rO,cZ,?_⟩;refine Dz (vs:=vs) (l:=ts) (P:=λu t=>zN kk w' u t) (λi u t hi ht'=>((Wi i u t hi ht').bS (CS.aN eR)).kp qq aa aa) ht (zN.kp ⟨us,(hrv.mono (eK _)).bS dR eR,ae,λi u r hi hr=>(WS i u r hi hr).bS (bV kk) eR⟩ qq aa aa)
 ·refine VS.aO aa (az (λe=>WU (aJ.1 e))) ?_;obtain rfl:y=T:=ae;refine af ?_;refine aC ?_;intro wz kz bz;exact⟨_,aa,Gd.kp (T:=λ_=>true) ⟨vs,hout.mono (eK _),ae,Wi⟩ (bg.of bz) aa aa aa,Ce.aN bz⟩
set_option maxRecDepth 4000
abbrev Tf (P:Program) (w:World) (N:Nat):Cx:={ P:=P,w0:=w,N:=N,K:=⟨UU,λ_=>True,λt=>(Nat.beq t 38 || (Nat.beq t 147 || (Nat.beq t 46 || (Nat.beq t 67 || (Nat.beq t 123 || (Nat.beq t 209 || (Nat.beq t 124 || Nat.beq t 192)))))))⟩,SU:=λt=>Nat.beq t 23,ti:=table,keep:=λ_ _=>trivial }
theorem QZ (w:World) (N:Nat):(Tf Tryz.prog w N).Ok:=fy
section
variable {F F':Fr} {H H':Hp} {w w1:World} {N:Nat} {l':List Oper} {Q:Exit->Act->World->Prop} {k:List It} {id:Nat} {ops:Array Oper}
theorem cxZ_r (e:jJ (Tf Tryz.prog w1 N) ops 80 ops.toList F H=(l',F',H')) (h:aB (Tf Tryz.prog w1 N) none ops l' (VS (Tf Tryz.prog w1 N) Q k) F' H' w):VS (Tf Tryz.prog w1 N) Q (.code (.region id ops false)::k) F H w:=VS.region (QZ _ _) (VO.run 80 e h)
end
theorem xh {P Q:Prop} (h:Q) (i:Q->P:=by intro h;(repeat first|refine wN ?_|refine wP rfl ?_|refine cxZ_r rfl ?_|refine cxZ_d rfl ?_|refine wO rfl rfl ?_);exact h):P:=i h
theorem Ge {P Q X:Prop} (hb:X) (h:Q) (i:X->Q->P:=by intro hb h;refine⟨_,rfl,hb,λa b c=>wV rfl ?_⟩;refine xh ?_;revert a b c;exact h):P:=i hb h
set_option maxRecDepth 4000 in
theorem fE (u v:Value) (e:Int) (cs:List iT) (ts:List (List (List Rat))) (kk:Nat) (w:World) (hu:bh (fu kk) 6 w u cs) (hv:bh (gI kk) 1 w v ts):
  Calls Tryz.prog 48 #[u,.int .i64 e,v] w λo w'=>o=.returned (.bool true)/\aD w w':=by
 obtain⟨p,c,rfl⟩:=hu.sl;obtain⟨p2,c2,rfl⟩:=hv.sl;obtain⟨N,hN⟩:∃ N,N=cs.length:=⟨_,aa⟩;obtain⟨T,hT⟩:∃ T,T=ts.length:=⟨_,aa⟩;rw[<-hN] at hu;rw[<-hT] at hv;rw[<-hN,<-hT];refine ai (C:=Tf Tryz.prog w _) (args:=[_,_,_]) yg aa Tryz.ntmps48 (bF aa) ?_;refine xh ?_;refine VO.call aa aa (fk Tryz.func112) (λaK bE aX=>(QU _ _ cs ts kk w aK hu hv aX).mono ?_);rintro o w1 ⟨b1,rfl,hfew,aU⟩;cases b1 with
 | false=>
   refine Ge aU ?_;intro cQ _ bb1;refine VO.cB aa aa (fk jH) (λbf cK bK=>cY bf) (λbf cK bK w2 bu dW _ bb2=>wV aa ?_);refine xh ?_;refine VS.ret (QZ _ _) aa aa (λwz kz bz=> ?_);exact⟨aa,bz⟩
 | true=>
   refine⟨_,aa,aU,λcQ _ bb1=>wV aa ?_⟩;obtain⟨OD,hvB,YF,Ld⟩:=hfew aa;obtain⟨Wc,hlen⟩:=tabB_tab hvB;rw[<-hN] at YF;rw[<-hT] at Ld
   have hTN:ts.length*cs.length<=128\/40<ts.length:=by
    rw[<-hN,<-hT];rcases Ld with h|h
    ·exact .inl (bG (kD h YF) ae)
    ·exact .inr h.1
   refine xh ?_;by_cases h100:e>100
   ·refine VS.aR aa (aw h100) ?_;refine xh ?_;refine VO.cB aa aa (fk jH) (λbf cK bK=>cY bf) (λbf cK bK w2 bu dW _ bb2=>wV aa ?_);refine xh ?_;refine VS.ret (QZ _ _) aa aa (λwz kz bz=> ?_);exact⟨aa,bz⟩
   refine VS.aO aa (az h100) ?_;refine xh ?_;refine VO.call aa aa (fk Tryz.func113) (λbf cK bK=>(Hb _ cs 4 bf (OD.bS (cW 4) bK) ae ae).mono ?_);rintro e w2 ⟨r2,rfl,q2,bu⟩;obtain⟨pc,cc,rfl⟩:=q2.form;refine Ge bu ?_;intro dW _ bb2;refine VO.call aa aa (fk Tryz.func114) (λcV dS ea=>(QX _ ts 4 cV (Wc.iI (iB 4) ea) ae hlen ae).mono ?_);rintro e w3 ⟨r3,rfl,q3,dH⟩;obtain⟨pt,ct,rfl⟩:=q3.tabs.sl;refine Ge dH ?_;intro eV _ bb3;refine VO.call aa aa (fk yc) (λey eU fc=>(qJ _ _ e cs ts 4 ey (OD.bS (cW 4) fc) (Wc.iI (iB 4) fc) ae ae hTN).mono ?_);rintro o w4 ⟨r4,rfl,q4,gj⟩;obtain⟨pa,ca,rfl⟩:=q4.form;refine Ge gj ?_;intro jc _ mw;have kP:∀ w',bg (Tf Tryz.prog w 97).K w2 w'->bh (fu 4) 6 w' (.slice pc cs.length cc) cs:=λw' k=>(q2.kp (cW 4) k aa).sl (cW 4);have htb:∀ w',bg (Tf Tryz.prog w 97).K w3 w'->bh (gI 4) 1 w' (.slice pt ts.length ct) ts:=λw' k=>(q3.kp k aa aa aa).tabs;refine VO.call aa aa (fk Tryz.func116) (λgn iz iZ=>(Ju _ _ e cs ts 4 gn (kP gn bm) (htb gn bm) ae ae ae hTN).mono ?_);rintro o w5 ⟨r5,rfl,q5,je⟩;obtain⟨px,cx',rfl⟩:=q5.form;refine Ge je ?_;intro nw _ um;refine VO.call aa aa (fk Tryz.func117) (λjL my nV=>(aAll_any _ _ e cs ts 4 jL (OD.bS (cW 4) nV) (Wc.iI (iB 4) nV) ae ae ae hTN ae).mono ?_);rintro o w6 ⟨r6,rfl,⟨vb,q6,YT,hf6⟩,oY⟩;obtain⟨pb,cb,rfl⟩:=q6.form;refine Ge oY ?_;intro sq _ xT;refine VO.call aa aa (fk Tryz.func118) (λpS uy rR=>(qAll_any _ _ e cs ts 4 pS (kP pS bm) (htb pS bm) ae ae ae hTN ae).mono ?_);rintro o w7 ⟨r7,rfl,⟨vy,q7,hl7,hf7⟩,ER⟩;obtain⟨py,cy,rfl⟩:=q7.form;refine Ge ER ?_;intro Dv _ Qa;refine VO.fix 62 aa (ak (λb=>AV.val (.bool b)) (qz aa)) ?_;refine xh ?_;refine VO.fix 67 aa (ak (λb=>AV.val (.bool b)) (qz aa)) ?_;refine xh ?_;refine VO.cB aa aa (fk Tryz.func119) (λtd Cr xG=>FY _ _ (cf cs e ts) AK AK td ((q4.kp (bt AK) (show bg (Tf Tryz.prog w 97).K w4 td from bm) aa).sl (bt AK)) ((q5.kp (bt AK) (show bg (Tf Tryz.prog w 97).K w5 td from bm) aa).sl (bt AK))) (λtd Cr xG w8 Bz Cs _ Sw=>wV aa ?_);refine xh ?_;refine VS.aO aa (qz (show (vb.length:Int)=(vy.length:Int) by rw[YT,hl7])) ?_;obtain⟨Z,hZ⟩:∃ Z,Z=vb.length:=⟨_,aa⟩;have hZy:vy.length=Z:=by rw[hZ,YT,hl7]
   rw[<-hZ];rw[hZy];refine VS.pK (λw=>bd Tryz.prog w 97) (λ_=>aa) (λ_=>aa) (λ_=>aD.refl _) (λw9 β k9 b9 en=> ?_);have Dg:aD w w9:=b9;have qb:bh VE 1 w9 (.slice pb Z cb) vb:=hZ▸(q6.kp dR (show bg (Tf Tryz.prog w 97).K w6 w9 from bm) aa).sl dR;have qy:bh VE 1 w9 (.slice py Z cy) vy:=hZy▸(q7.kp dR (show bg (Tf Tryz.prog w 97).K w7 w9 from bm) aa).sl dR;have gb:∀ (i:Nat) (x:Value),vb[i]? =some x->bh (fC AK) 28 w9 x (cf cs (i:Int) ts):=λi x hi=>((hf6 i x hi).kp (bt AK) (show bg (Tf Tryz.prog w 97).K w6 w9 from bm) aa).sl (bt AK);have gy:∀ (i:Nat) (x:Value),vy[i]? =some x->bh (fC AK) 28 w9 x (cf cs (i:Int) ts):=λi x hi=>((hf7 i x hi).kp (bt AK) (show bg (Tf Tryz.prog w 97).K w7 w9 from bm) aa).sl (bt AK);refine⟨[(13,.val (.slice pb Z cb)),(15,.val (.slice py Z cy))],⟨⟨_,_,aa,aa,aa⟩,⟨_,_,aa,aa,aa⟩,aj⟩,?_⟩
   have hZm:Z<=9223372036854775807:=by
    obtain⟨_,_,_,g1,g2⟩:=qb.form;omega
   clear hf6 hf7 q2 q3 q4 q5 q6 q7 kP htb hu hv OD Wc hvB;refine af ?_;refine VS.loop (J:=λm L M w'=>∃ z:Nat,z<=Z/\m=Z-z/\L=[(13,.val (.slice pb Z cb)),(15,.val (.slice py Z cy)),(17,.val (.int .i64 (z:Int)))]/\M=[]) Z ⟨_,_,?_,?_,?_,?_,⟨0,ae,aa,aa,aa⟩⟩ ?_
   ·exact di
   ·exact di
   ·rfl
   ·exact fv
   rintro m L M wL ⟨z,hz,rfl,rfl,rfl⟩;refine af ?_;by_cases hlt:z<Z
   ·obtain⟨x,hx⟩:∃ x,vb[z]? =some x:=⟨_,bj ae⟩;obtain⟨y,hy⟩:∃ x,vy[z]? =some x:=⟨_,bj ae⟩;obtain⟨b0,off0,cs0,rfl,YI,rfl,p0,n0,c0,rfl⟩:=qb.at hx;obtain⟨b3,off3,cs3,rfl,hc3,rfl,p3,n3,c3,rfl⟩:=qy.at hy;refine VS.aR aa (aw (aJ.2 hlt)) ?_;refine af ?_;refine VO.cond aa eh ?_;refine wV aa ?_;refine af ?_;refine VO.read aa [.slice p0 n0 c0] aa (cP YI) (wV aa ?_);refine af ?_;refine VO.cond aa eh ?_;refine wV aa ?_;refine af ?_;refine VO.read aa [.slice p3 n3 c3] aa (cP hc3) (wV aa ?_);refine af ?_;refine VO.cB aa aa (fk Tryz.func119) (λjC nM nZ=>FY _ _ (cf cs (z:Int) ts) AK AK jC ((gb z _ hx).bS (bt AK) nZ) ((gy z _ hy).bS (bt AK) nZ)) (λjC nM nZ BQ km jM _ AB=>wV aa ?_);refine af ?_;refine VS.back (Z-(z+1)) ae ⟨_,_,?_,?_,?_,?_,⟨z+1,ae,aa,aa,aa⟩⟩
    ·refine⟨aa,aa,?_,aj⟩;rw[<-aA (i:=z) ae];rfl
    ·exact di
    ·rfl
    ·exact fv
   ·refine VS.aO aa (az (λe=>hlt (aJ.1 e))) ?_;refine af ?_;refine VO.cB aa aa (fk jH) (λjN oc pd=>cY jN) (λjN oc pd Sx vn ny _ Ct=>wV aa ?_);refine af ?_;refine aC ?_;intro wz kz bz;exact⟨aa,Dg.aN bz⟩
end Go.Proofs.YtlifeokjcgngjaaGreat
